/- Of the proof of BookAgain: Show, ShowT, Lent, Panic, Diary, AW1, AW2, BW1, AW3, AW4. -/
import Derived.Test.YtelhnbcdablgoaaGreatDoorZBookAgainAC
import Derived.Test.YtelhnbcdablgoaaGreatDoorZBookAgainAB
namespace Go.Fs
variable{P:Program}{X:Cx}{γb:Type}[Membership Nat γb]{bad:γb}{all:Array Oper}{K:Act→World→Prop}{Q:Exit→Act→World→Prop}
variable{σ:bI}{μ:aC}{Ds:List aA}{os:List (Bool×Nat)}{fl:Bool}{ix:Nat}
variable{d:Nat}{x y z:Operand}{u v:Value}{ty:TypeId}{pos:String}{aft:Array Edge}{g:Option (Nat×Bool)}
def j7(β:List Nat)(D:aA)(w:World)(bo:Nat)(cs:List Value):Prop:=bo∈β∧D bo=[]∧∃e fz,w.heap[bo]?= some (.cells cs.toArray e fz)
def fT(D:aA)(bo:Nat)(cs:List Value):aA:=fun c=>if c=bo then cs else D c
theorem xL{D:aA}{bo:Nat}{cs:List Value}(h:D bo=[])(h0:bo≠0):Le D (fT D bo cs):=⟨fun c=>by
 unfold fT;split
 ·rename_i e;subst e;rw[h];exact aQX
 ·exact List.prefix_refl _,by unfold fT;rw[aMM (Ne.symm h0)]⟩
theorem CI(D:aA)(bo:Nat)(cs:List Value):At (fT D bo cs) bo 0 cs:=fun j v hj=>by unfold fT;simpa using hj
theorem e8{D:aA}{w:World}{bo:Nat}{cs:List Value}{e:TypeId}{fz:Nat×Nat}(h:dX D w)(hb:w.heap[bo]?= some (.cells cs.toArray e fz))(hD:D bo=[]):dX (fT D bo cs) w:=h.of (fun c hc=>by
 unfold fT at hc ⊢
 split
 ·rename_i ec;subst ec;exact⟨_,_,_,hb,List.prefix_refl _⟩
 ·rename_i ec;rw[aMM ec]at hc;exact h.1 c hc) (by unfold fT;rw[aMM (Ne.symm (h.ne0 hD))]) rfl
theorem fU.hide{w w':World}{D D':aA}{mods:List Nat}{μ:aC}{bo:Nat}{cs:List Value}(h:fU (hd w) w.heap.size (fT D bo cs) mods μ D' w')(hD:D bo=[])(hb0:bo≠0):fU (hd w) w.heap.size D mods μ (fT D' bo []) w':=by
 refine⟨h.hlo,h.size,h.old,fun b hb=>?_,h.agr.of (fun b hb=>?_) (by unfold fT;rw[aMM (Ne.symm hb0)]) rfl,fun p hp=>?_,h.nd,h.fz,h.env⟩
 ·unfold fT;split
  ·rename_i e;subst e;exact hD.symm
  ·rename_i e;rw[h.dold b hb];unfold fT;rw[aMM e]
 ·unfold fT at hb ⊢
  split
  ·rename_i e;rw[aMT e]at hb;exact absurd rfl hb
  ·rename_i e;rw[aMM e]at hb;exact h.agr.1 b hb
 ·obtain⟨h1,h2,h3⟩:=h.box p hp;refine⟨h1,?_,h3⟩;unfold fT;split
  ·rfl
  ·exact h2
def KQ{α:Type}(P:Program)(f:FuncId)(cap:List Value)(Dr:aA)(xs:List α)(enc:Nat→List Value)(cells:α→List Value):Prop:=
 EF P f∧∀(lo l:Nat) (J Jx:List α→pC),(∀pre,xE lo (J pre))→(∀pre,xE lo (Jx pre))→
  (∀pre x β D w bo,(∃r,xs=pre++x::r)→uR lo D w→J pre β D w→(∀b∈β,b<w.heap.size)→Le Dr D→j7 β D w bo (cells x)→
   fY P l (enc bo) w fun b D' w'=>uR lo D' w'∧tJ β D w D' w'∧(if b then J (pre++[x]) β D' w' else Jx (pre++[x]) β D' w'))→
  ∀D w,uR lo D w→Le Dr D→J [] [] D w→Calls P f (.func (.yield l) #[] #[]::cap).toArray w fun e w'=>∃v D',e=.returned v∧uR lo D' w'∧(J xs [] D' w'∨∃pre,Jx pre [] D' w')
theorem XY{J J1 J0:pC}{l:Nat}{c:Operand}{xs:Array Operand}{ats:Array TypeId}{vs:List Value}(ho:all[ix]?= some ⟨some d,.call {callee:=.value c,args:=xs,argTypes:=ats},ty,pos,aft,g⟩)
  (hc:ev σ c=some (.func (.yield l) #[] #[])) (hxs:P1 σ xs.toList=some vs) (hex:X.ex=some J) (hfl:fl=false) (h0:X.h0=⟨#[],none⟩) (hm:X.mods=[]) (hs1:xE X.lo J1) (hs0:xE X.lo J0)
  (hY:∀D w,uR X.lo D w→J (μ.map (·.1)) D w→(∀p∈μ,w.heap[p.1]?= some p.2∧D p.1=[])→(∀D₁∈Ds,Le D₁ D)→fY P l vs w fun b D' w'=>uR X.lo D' w'∧tJ (μ.map (·.1)) D w D' w'∧(if b then J1 (μ.map (·.1)) D' w' else J0 (μ.map (·.1)) D' w'))
  (hN:Nat.blt d X.N=true) (hg:cY all σ g)
  (k1:WL P (X.withEx J1) bad all K Q os ((d,.bool true)::σ) μ Ds) (k0:WL P (X.withEx J0) bad all K Q os ((d,.bool false)::σ) μ Ds):WL P X bad all K Q ((fl,ix)::os) σ μ Ds:=by
 refine dP ho rfl rfl hg fun a w hh=>?_
 obtain⟨h1,h2,h3,D,h4,h5,h6⟩:=id hh;have hJ:J (μ.map (·.1)) D w:=by unfold vU at h6;rw[hex]at h6;exact h6.2
 obtain⟨fn,tmps,assign,body,hy,hr⟩:=hY D w h4.dom hJ (fun p hp=>⟨(h4.box p hp).1,(h4.box p hp).2.1⟩) h5;have e:xs.map a.eval=vs.toArray:=by rw[←iM (fun _ _ hx=>hh.eval hx) hxs,←aQU]
 have hrun:(execOp a.eval ⟨some d,.call {callee:=.value c,args:=xs,argTypes:=ats},ty,pos,aft,g⟩).run P w=.ok (.round l fn tmps assign body) w:=by
  simp only[execOp,resolve,hh.eval hc,Deferred.ofValue,pure_bind,invoke,e];rw[←hy];simp
 rw[hrun];refine⟨fun h=>by simp[FW]at h,(K6 hr).mono ?_⟩;rintro e' w' ⟨b,D',rfl,hd',hh',hb⟩;have hst:fU X.h0 X.lo X.D0 X.mods μ D' w':=by
  refine⟨h4.hlo,hd'.2,(fun b hb=>by rw[h0]at hb;exact absurd hb (aQH _)),(fun b hb=>by rw[h0]at hb;exact absurd hb (aQH _)),hd'.1,fun p hp=>?_,h4.nd,h4.fz,fun e he=>by rw[h0]at he;cases he⟩;obtain⟨p1,p2,p3⟩:=h4.box p hp;obtain⟨q1,q2⟩:=hh'.2.2 p.1 (aMB.2 ⟨p,hp,rfl⟩);exact⟨q1.trans p1,q2.trans p2,p3⟩
 have hds:∀D₁∈Ds,Le D₁ D':=fun D₁ hD₁=>(h5 D₁ hD₁).trans hh'.2.1
 refine⟨(fun h=>by rw[hfl]at h;cases h),?_⟩;cases b with
 |true=>
  refine k1 _ _ (Hl.put (X:=X.withEx J1) ⟨h1,h2,h3,D',hst,hds,⟨hs1,hb⟩⟩ hN _)
 |false=>
  refine k0 _ _ (Hl.put (X:=X.withEx J0) ⟨h1,h2,h3,D',hst,hds,⟨hs0,hb⟩⟩ hN _)
theorem X9{J J1 J0:pC}{l N lo:Nat}{c:Operand}{xs:Array Operand}{ats:Array TypeId}{vs:List Value}(ho:all[ix]?= some ⟨some d,.call {callee:=.value c,args:=xs,argTypes:=ats},ty,pos,aft,g⟩)
  (hc:ev σ c=some (.func (.yield l) #[] #[])) (hxs:P1 σ xs.toList=some vs) (hfl:fl=false) (hs1:xE lo J1) (hs0:xE lo J0)
  (hY:∀D w,uR lo D w→J (μ.map (·.1)) D w→(∀p∈μ,w.heap[p.1]?= some p.2∧D p.1=[])→(∀D₁∈Ds,Le D₁ D)→fY P l vs w fun b D' w'=>uR lo D' w'∧tJ (μ.map (·.1)) D w D' w'∧(if b then J1 (μ.map (·.1)) D' w' else J0 (μ.map (·.1)) D' w'))
  (hN:Nat.blt d N=true) (hg:cY all σ g)
  (kk:∀b J',J'=(if b=true then J1 else J0)→WL P (Xj N lo J') bad all K Q os ((d,.bool b)::σ) μ Ds):WL P (Xj N lo J) bad all K Q ((fl,ix)::os) σ μ Ds:=
 XY (X:=Xj N lo J) ho hc hxs rfl hfl rfl rfl hs1 hs0 hY hN hg (kk true J1 rfl) (kk false J0 rfl)
def aAS{γ:Type}(h0:H0)(lo:Nat)(D0:aA)(mods:List Nat)(Ds:List aA)(Φ:γ→Prop)(Mx:γ→aC):pC:=fun β D w=>
 ∃g,Φ g∧fU h0 lo D0 mods (Mx g) D w∧(∀D₁∈Ds,Le D₁ D)∧(∀b∈β,h0.size≤b∧∀D₁∈Ds,D₁ b=[])∧(∀p∈Mx g,p.1∉β)∧∀k∈mods,k∈(Mx g).ks
theorem yV{γ:Type}{h0:H0}{lo:Nat}{D0:aA}{mods:List Nat}{Ds:List aA}{Φ:γ→Prop}{Mx:γ→aC}:xE lo (aAS h0 lo D0 mods Ds Φ Mx):=by
 constructor
 ·rintro β D w D' w' ⟨g,hg,hs,hD,hβ,hM,hmk⟩ ⟨hl1,hl2,hl3⟩ hd;have box':∀p∈Mx g,w'.heap[p.1]?= w.heap[p.1]?∧D' p.1=D p.1:=fun p hp=>hl2 p.1 (bE (hs.box p hp).1) (hM p hp)
  refine⟨g,hg,⟨hs.hlo,hd.2,fun b hb hm=>?_,fun b hb=>?_,hd.1,fun p hp=>?_,hs.nd,hs.fz,fun e he=>hl3.trans (hs.env e he)⟩,fun D₁ hD₁=>⟨fun b=>?_,?_⟩,hβ,hM,hmk⟩
  ·have hlt:b<w.heap.size:=by have:=hs.hlo;have:=hs.size;omega
   have hn:b∉β:=fun h=>by have:=(hβ b h).1;omega
   rw[(hl2 b hlt hn).1];exact hs.old b hb hm
  ·have hlt:b<w.heap.size:=by have:=hs.hlo;have:=hs.size;omega
   have hn:b∉β:=fun h=>by have:=(hβ b h).1;omega
   rw[(hl2 b hlt hn).2];exact hs.dold b hb
  ·obtain⟨p1,p2,p3⟩:=hs.box p hp;obtain⟨q1,q2⟩:=box' p hp;exact⟨q1.trans p1,q2.trans p2,p3⟩
  ·by_cases hb:b∈β
   ·rw[(hβ b hb).2 D₁ hD₁];exact aQX
   ·by_cases hlt:b<w.heap.size
    ·rw[(hl2 b hlt hb).2];exact(hD D₁ hD₁).1 b
    ·have:=(hD D₁ hD₁).1 b;rw[hs.agr.fresh (Nat.le_of_not_lt hlt)]at this;rw[List.prefix_nil.1 this];exact aQX
  ·have h0:(0:Nat)∉β:=fun hm=>hs.agr.2.1 ((hD D₁ hD₁).2.trans ((hβ 0 hm).2 D₁ hD₁))
   rw[(hl2 0 hs.agr.pos h0).2];exact(hD D₁ hD₁).2
 ·rintro β β' D w ⟨g,hg,hs,hD,hβ,hM,hmk⟩ hb';refine⟨g,hg,hs,hD,fun b hb=>?_,fun p hp hb=>?_,hmk⟩
  ·rcases hb' b hb with h|h
   ·exact hβ b h
   ·refine⟨by have:=hs.hlo;have:=hs.size;omega,fun D₁ hD₁=>?_⟩;have:=(hD D₁ hD₁).1 b;rw[hs.agr.fresh h]at this;exact List.prefix_nil.1 this
  ·rcases hb' _ hb with h|h
   ·exact hM p hp h
   ·have:=bE (hs.box p hp).1;omega
theorem fU.roundM{h0:H0}{lo:Nat}{D0 D D':aA}{mods:List Nat}{μ μ':aC}{w w':World}(h:fU h0 lo D0 mods μ D w)(hmk:∀k∈mods,k∈μ.ks)(hs:fU (hd w) w.heap.size D (μ.map (·.1)) μ' D' w'):fU h0 lo D0 mods μ' D' w':=by
 have hle:=aOU h.hlo h.size;have hkey:∀b∈μ.map (·.1),lo≤b∨b∈mods:=by
  intro b hb;obtain⟨p,hp,rfl⟩:=aMB.1 hb;exact(h.box p hp).2.2
 refine⟨h.hlo,aOU h.size hs.size,fun b hb hm=>?_,fun b hb=>?_,hs.agr,fun p hp=>?_,hs.nd,hs.fz,fun e he=>(hs.env _ rfl).trans (h.env e he)⟩
 ·rw[hs.old b (aOQ hb hle) (fun hk=>by
   rcases hkey b hk with h1|h1
   ·have:=h.hlo;omega
   ·exact hm h1)]
  exact h.old b hb hm
 ·rw[hs.dold b (aOQ hb hle)];exact h.dold b hb
 ·obtain⟨p1,p2,p3⟩:=hs.box p hp;refine⟨p1,p2,?_⟩;rcases p3 with p3|p3
  ·exact aMR (by have:=h.size;omega)
  ·exact hkey _ p3
theorem m5{α γ:Type}{xs:List α}{enc:Nat→List Value}{cells:α→List Value}{Dr:aA}{f:FuncId}{cap:List Value}{gop:Operand}{ps:Array Tmp}{assign body:Code}
  (Φ:List α→γ→Prop) (Ψ:List α→Code→γ→Prop) (M:γ→aC) (g₀:γ) (hr:X.r=none) (hex:X.ex=none) (hmods:∀g,∀k∈X.mods,k∈(M g).ks)
  (hg:ev σ gop=some (.func (.func f) #[] cap.toArray)) (hit:KQ P f cap Dr xs enc cells) (hDr:Dr∈Ds) (hps:∀b,(enc b).length=ps.size) (hpN:(ps.toList.all fun p=>Nat.blt p X.N)=true) (h₀:Φ [] g₀) (hμ:M g₀=μ)
  (hround:∀pre x g,(∃r,xs=pre++x::r)→Φ pre g→∀(l bd bo:Nat) (rec:Loop) (h0:H0) (D:aA),(∀D₁∈Ds,Le D₁ D)→At D bo 0 (cells x)→rec.state=.ready→rec.pending=none→
   WC P (Xr l X.N h0 D ((M g++(l,Obj.loop rec)::[(bd,Obj.deferred (some []))]).map (·.1)))
    (Exit.then (fun a₁ w₁=>∃w₂,(Instr.beginRound l).run P w₁=.ok () w₂∧body.wpIn ((FW none).inRound l) 0 P (roundPost P l (uP h0 D ((M g++(l,Obj.loop rec)::[(bd,Obj.deferred (some []))]).map (·.1)) (Φ (pre++[x])) (Ψ (pre++[x]))
     (fun g=>M g++(l,Obj.loop {rec with state:=.ready,pending:=none})::[(bd,Obj.deferred (some []))]) (fun c g=>M g++(l,Obj.loop {rec with state:=.done,pending:=some c})::[(bd,Obj.deferred (some []))]))) a₁ w₂) (fun _ _ _=>False))
    assign (uO ps.toList (enc bo) σ) (M g++(l,Obj.loop rec)::[(bd,Obj.deferred (some []))]) (D::Ds))
  (hdone:∀g bd,Φ xs g→∀a w,Hl (X.withDs bd) σ (M g++[(bd,Obj.deferred (some []))]) Ds a w→Q .normal a w)
  (hstop:∀pre c g bd,Ψ pre c g→WC P (X.withDs bd) Q c σ (M g++[(bd,Obj.deferred (some []))]) Ds):WC P X Q (.rangeFunc gop ps assign body) σ μ Ds:=by
 intro a w hh;subst hμ;have hev:=hh.eval hg;obtain⟨h1,h2,h3,D,h4,h5,h6⟩:=hh;refine wpIn_rangeFunc fun fn _=>?_
 have hround':(FW X.r).round=none:=hr;rw[hround'];have hmk:∀g (B:aC),∀k∈X.mods,k∈(M g++B).ks:=fun g B k hk=>by
  show k∈(M g++B).map _;rw[aMP];exact aMG _ (hmods g k hk)
 let bd:=w.heap.size
 let l:=w.heap.size+1
 let rec0:Loop:={state:=.ready,pending:=none,fn,tmps:=a.tmps,params:=ps,assign,body,defers:=bd}
 let w1:World:={w with heap:=w.heap.push (.deferred (some []))}
 let w2:World:={w1 with heap:=w1.heap.push (.loop rec0)}
 have hs1:fU X.h0 X.lo X.D0 X.mods ((bd,Obj.deferred (some []))::M g₀) D w1:=h4.push (.deferred (some [])) trivial;have hs2:fU X.h0 X.lo X.D0 X.mods ((l,Obj.loop rec0)::(bd,Obj.deferred (some []))::M g₀) D w2:=by
  have:=hs1.push (.loop rec0) trivial;have e:w1.heap.size=l:=by simp[w1,l]
  rw[e]at this;exact this
 have hperm:fU X.h0 X.lo X.D0 X.mods (M g₀++(l,Obj.loop rec0)::[(bd,Obj.deferred (some []))]) D w2:=by
  refine hs2.sub (fun p hp=>?_) ?_
  ·simp only[aMO,aLX,GT,aNU]at hp ⊢
   rcases hp with hp|hp|hp
   ·exact aMD (aMD hp)
   ·exact aMR hp
   ·exact aMD (aMR hp)
  ·have hn:=hs2.nd;simp only[aMZ,aNW,aLX,not_or]at hn;simp only[aMP,aMZ,aQB,aMJ,aNW,aLX,GT,aNU,aQP,aOH,and_true];refine⟨hn.2.2,hn.1.1,fun q hq r hr'=>?_⟩;rcases hr' with rfl|rfl
   ·rintro rfl;exact hn.1.2 hq
   ·rintro rfl;exact hn.2.1 hq
 refine⟨l,[jX bd],w2,{target:=.fn (.func f) cap.toArray,args:=#[.func (.yield l) #[] #[]]},w2,f,(.func (.yield l) #[] #[]::cap).toArray,w2,run_enterLoop_outer fn a.tmps ps assign body,?_,fun _ _=>trivial,?_,fun h=>by simp[FW]at h,?_⟩
 ·simp only[resolve,Deferred.ofValue];have e:Array.map a.eval #[Operand.const (Value.func (Fn.yield l) #[] #[])]=#[.func (.yield l) #[] #[]]:=by simp[Act.eval]
  rw[e,hev];rfl
 ·simp only[invoke];rw[hit.1];simp
 ·refine dA.2 ((hit.2 X.lo l
   (fun pre=>aAS X.h0 X.lo X.D0 X.mods Ds (Φ pre) fun g=>M g++(l,Obj.loop rec0)::[(bd,Obj.deferred (some []))])
   (fun pre=>aAS X.h0 X.lo X.D0 X.mods Ds (fun cg:Code×γ=>Ψ pre cg.1 cg.2) fun cg=>M cg.2++(l,Obj.loop {rec0 with state:=.done,pending:=some cg.1})::[(bd,Obj.deferred (some []))])
   (fun _=>yV) (fun _=>yV) ?_ D w2 hs2.dom (h5 Dr hDr) ⟨g₀,h₀,hperm,h5,(fun _ h=>by cases h),(fun _ _ h=>by cases h),hmk g₀ _⟩).mono ?_)
  ·rintro pre x β Dx wx bo hx hdx ⟨g,hΦ,hst,hDs,hβ,hM,hmg⟩ hβs hle ⟨hbo,hbD,be,bfz,hbw⟩;have hbox:=(hst.box (l,Obj.loop rec0) Ye).1;refine⟨fn,_,assign,body,run_yield hbox (by simpa using hps bo),?_⟩;refine(roundIn_of_wpIn (F:=FW none) cW (R:=uP (hd wx) (fT Dx bo (cells x)) ((M g++(l,Obj.loop rec0)::[(bd,Obj.deferred (some []))]).map (·.1)) (Φ (pre++[x])) (Ψ (pre++[x]))
     (fun g=>M g++(l,Obj.loop {rec0 with state:=.ready,pending:=none})::[(bd,Obj.deferred (some []))]) (fun c g=>M g++(l,Obj.loop {rec0 with state:=.done,pending:=some c})::[(bd,Obj.deferred (some []))])) ?_).mono ?_
   ·have hw:=hround pre x g hx hΦ l bd bo rec0 (hd wx) (fT Dx bo (cells x)) (fun D₁ h=>(hDs D₁ h).trans (xL hbD (hst.agr.ne0 hbD))) (CI _ _ _) rfl rfl;have ht:(ps.zip (enc bo).toArray).foldl (fun tmps (t,a)=>tmps.setIfInBounds t a) a.tmps=(ps.toList.zip (enc bo)).foldl (fun tmps (p:Tmp×Value)=>tmps.setIfInBounds p.1 p.2) a.tmps:=by
     rw[←Array.foldl_toList];simp
    have hpN':∀p∈ps.toList,p<a.tmps.size:=fun p hp=>by rw[h1];simpa [Nat.blt_eq]using aMU.1 hpN p hp
    refine hw {tmps:=_,defers:=[]} wx ⟨?_,fun s v hs=>?_,rfl,fT Dx bo (cells x),⟨aMS _,aMS _,fun _ _ _=>rfl,fun _ _=>rfl,e8 hst.agr hbw hbD,fun p hp=>?_,hst.nd,hst.fz,fun e he=>aMY he⟩,fun D₁ hD₁=>?_,cW⟩
    ·show((ps.zip (enc bo).toArray).foldl _ a.tmps).size=X.N;rw[ht,yG];exact h1
    ·show((ps.zip (enc bo).toArray).foldl _ a.tmps)[s]?= some v;rw[ht];exact zG _ _ _ _ h2 hpN' s v hs
    ·obtain⟨p1,p2,p3⟩:=hst.box p hp;exact⟨p1,by unfold fT;rw[aMM (fun e=>hM p hp (by rw[e];exact hbo))];exact p2,aMD (aMB.2 ⟨p,hp,rfl⟩)⟩
    ·rcases aLX.1 hD₁ with rfl|hD₁
     ·exact Le.refl _
     ·exact(hDs D₁ hD₁).trans (xL hbD (hst.agr.ne0 hbD))
   ·rintro e w' ⟨b,D',rfl,hb⟩;have fin:∀μ',fU (hd wx) wx.heap.size (fT Dx bo (cells x)) ((M g++(l,Obj.loop rec0)::[(bd,Obj.deferred (some []))]).map (·.1)) μ' D' w'→fU X.h0 X.lo X.D0 X.mods μ' (fT D' bo []) w'∧tJ β Dx wx (fT D' bo []) w'∧(∀D₁∈Ds,Le D₁ (fT D' bo []))∧(∀p∈μ',p.1∉β):=by
     intro μ' hs0;have hs':=hs0.hide hbD (hst.agr.ne0 hbD);refine⟨hst.roundM hmg hs',fU.roundHigh hst.agr hs' hβs hM,fun D₁ hD₁=>(hDs D₁ hD₁).trans (eZ hst.agr hs'),fun p hp hpb=>?_⟩;rcases(hs'.box p hp).2.2 with h|h
     ·have:=hβs _ hpb;omega
     ·obtain⟨q,hq,he⟩:=aMB.1 h;exact hM q hq (by rw[he];exact hpb)
    refine⟨b,fT D' bo [],rfl,?_⟩;cases b with
    |true=>
     obtain⟨g',hg',hs'⟩:=hb;obtain⟨f1,f2,f3,f4⟩:=fin _ hs';exact⟨f1.dom,f2,g',hg',f1,f3,hβ,f4,hmk g' _⟩
    |false=>
     obtain⟨c',g',hg',hs'⟩:=hb;obtain⟨f1,f2,f3,f4⟩:=fin _ hs';exact⟨f1.dom,f2,(c',g'),hg',f1,f3,hβ,f4,hmk g' _⟩
  ·rintro e w' ⟨v,D',rfl,hd,hend⟩;have post:∀(g:γ) (r:Loop),fU X.h0 X.lo X.D0 X.mods (M g++(l,Obj.loop r)::[(bd,Obj.deferred (some []))]) D' w'→(∀D₁∈Ds,Le D₁ D')→
     Hl (X.withDs bd) σ (M g++[(bd,Obj.deferred (some []))]) Ds {a with defers:=[jX bd]++a.defers} (w'.putObj l (.loop {r with state:=.exhausted})):=by
    intro g r hs hD';have hHas:bS (M g++(l,Obj.loop r)::[(bd,Obj.deferred (some []))]) l (.loop r) (.loop {r with state:=.exhausted}) (M g++(l,Obj.loop {r with state:=.exhausted})::[(bd,Obj.deferred (some []))]):=.app .head;have hs':=hs.set (w':=w'.putObj l (.loop {r with state:=.exhausted})) hHas ⟨rfl,rfl⟩ trivial;have hs'':=hs'.sub (μ':=M g++[(bd,Obj.deferred (some []))]) (fun p hp=>by
     rcases aMO.1 hp with hp|hp
     ·exact aMG _ hp
     ·exact aMA _ (aLZ _ hp)) (by
     have hn:=hs'.nd;rw[aMP,aMJ]at hn ⊢
     simp only[aMZ]at hn;exact⟨hn.1,(aNW.1 hn.2.1).2,fun q hq r hr=>hn.2.2 q hq r (aLZ _ hr)⟩)
    exact⟨h1,h2,aMQ (jX bd:: ·) h3,D',hs'',hD',by unfold vU;show(match X.ex with|none=>True|some J=>_);rw[hex];trivial⟩
   rcases hend with⟨g,hΦ,hs,hDs,_,_,_⟩|⟨pre,⟨c,g⟩,hΨ,hs,hDs,_,_,_⟩
   ·have hb:=(hs.box (l,Obj.loop rec0) Ye).1;exact⟨none,_,run_endLoop hb (by simp[rec0]),hdone g bd hΦ _ _ (post g rec0 hs hDs)⟩
   ·have hb:=(hs.box (l,Obj.loop {rec0 with state:=.done,pending:=some c}) Ye).1;refine⟨some c,_,run_endLoop hb Ye,?_⟩;have:=hstop pre c g bd hΨ _ _ (post g _ hs hDs);exact this

theorem JM{α:Type}{f:FuncId}{fn:Func}{c:Code}{cap:List Value}{Dr:aA}{xs:List α}{enc:Nat→List Value}{cells:α→List Value}(N:Nat)(hf:P.funcs[f]?= some fn)(hn:(fn.name== "runtime.NumGoroutine")=false)(hb:fn.body=some c)(hN:fn.ntmps=N)(hsz:Nat.ble (cap.length+1) N=true)
  (h:∀(lo l:Nat) (J Jx:List α→pC),(∀pre,xE lo (J pre))→(∀pre,xE lo (Jx pre))→
   (∀pre x β D w bo,(∃r,xs=pre++x::r)→uR lo D w→J pre β D w→(∀b∈β,b<w.heap.size)→Le Dr D→j7 β D w bo (cells x)→
    fY P l (enc bo) w fun b D' w'=>uR lo D' w'∧tJ β D w D' w'∧(if b then J (pre++[x]) β D' w' else Jx (pre++[x]) β D' w'))→
   WC P (Xj N lo (J [])) (bodyPost P fn (C9 lo [Dr] fun _ J' _=>J'=J xs∨∃pre,J'=Jx pre)) c (gN 0 (.func (.yield l) #[] #[]::cap)) [] [Dr]):KQ P f cap Dr xs enc cells:=by
 refine⟨EF.of hf hn hb,fun lo l J Jx hs hsx hY D w hd hle hJ=>?_⟩;have hF:=xI (μ:=[]) N hf hn hb hN (by simpa using hsz) (h lo l J Jx hs hsx hY);refine(hF.2 w ⟨D,⟨Nat.zero_le _,hd.2,fun b hb=>absurd hb (aQH _),fun b hb=>absurd hb (aQH _),hd.1,(fun p hp=>by cases hp),aOH,(fun p hp=>by cases hp),fun e he=>by cases he⟩,fun D₁ h1=>?_,hs [],hJ⟩).mono ?_
 ·simp only[aML]at h1;subst h1;exact hle
 ·rintro e w' ⟨v,J',μ',rfl,⟨D',hst,hds,hex⟩,hpost⟩;refine⟨v,D',rfl,hst.dom,?_⟩;have hJ':J' [] D' w':=hex.1.own _ [] D' w' hex.2 (fun b hb=>by cases hb);rcases hpost with rfl|⟨pre,rfl⟩
  ·exact aMR hJ'
  ·exact aMD ⟨pre,hJ'⟩
theorem aQ{t e:TypeId}{sz n:Nat}{z0:Value}{zs cs:List Value}{k k':IntKind}(ho:all[ix]?= some ⟨some d,.makeSlice t x y,ty,pos,aft,g⟩)(ht:P.underlying t=some (.slice e))(hs:TS P e sz)(hz:TZ P e z0)(hzc:z0.cells=zs.toArray)(hi:(P.info? e).map (fun i=>Nat.ble 1 i.bytes&&Nat.ble i.bytes 4096)=some true)
  (hx:ev σ x=some (.int k n)) (hy:ev σ y=some (.int k' n)) (hn:n≤10000) (hcs:((Array.range (n*sz)).map (zs.toArray[· %zs.toArray.size]!)).toList=cs) (hN:Nat.blt d X.N=true) (hg:cY all σ g)
  (kk:∀b,WL P X bad all K Q os ((d,.slice (some ⟨b,0,none⟩) n n)::σ) ((b,.cells cs.toArray e (0,0))::μ) Ds):WL P X bad all K Q ((fl,ix)::os) σ μ Ds:=by
 refine dP ho rfl rfl hg fun a w hh=>?_
 obtain⟨h1,h2,h3,D,h4,h5,h6⟩:=id hh;have hn':=hn;obtain⟨i0,hi0,hb⟩:=aOZ.1 hi;simp only[aMC]at hb;have hb1:=aOE hb.1;have hb2:=aOE hb.2;have hti:∀w,(typeInfo e).run P w=.ok i0 w:=fun w=>by simp[typeInfo,program,Sem.run,hi0,go_sem]
 have hw:IntKind.i64.wrap (n:Int)=n:=lH Yf;have hbn:i0.bytes*n≤4096*10000:=Nat.mul_le_mul hb2 hn';have hlarge:(((n:Int)<0)||decide ((i0.bytes:Int)*n>2^48))=false:=by
  have:((i0.bytes*n:Nat):Int)≤40960000:=by omega
  rw[Int.natCast_mul]at this;simp only[aOM,aNV];constructor
  ·omega
  ·omega
 have hzz:∀w,(zeroValue e).run P w=.ok z0 w:=hz;have hrun:(execOp a.eval ⟨some d,.makeSlice t x y,ty,pos,aft,g⟩).run P w=.ok (.value (.slice (some ⟨w.heap.size,0,none⟩) n n)) {w with heap:=w.heap.push (.cells cs.toArray e (0,0))}:=by
  have hcs':(Array.range (n*sz)).map (zs.toArray[· %zs.toArray.size]!)=cs.toArray:=by rw[←hcs]
  have hai:∀(k:IntKind) (m:Int) (w:World),(asInt (.int k m)).run P w=.ok m w:=fun _ _ _=>rfl
  simp only[execOp,Instr.makeSlice,hh.eval hx,hh.eval hy,hai,Sem.run_bind,TU.of ht w,Result.andThen_ok,Sem.run_pure,hti,hw,pure_bind];rw[aMM (by simp only[aNR,aMV,not_or];exact⟨⟨by simpa using hlarge,by omega⟩,by omega⟩)]
  simp only[Sem.run_bind,tO,Result.andThen_ok,hs w,aNO];by_cases hnz:n*sz=0
  ·rw[aMT hnz];have h00:∀f:Nat→Value,(Array.range 0).map f=#[]:=fun f=>by simp
   have hc0:cs.toArray=#[]:=by rw[←hcs',hnz];exact h00 _
   simp only[Sem.run_pure,Sem.run_bind,hc0];rw[hnz];simp only[h00,gE,Result.andThen_ok]
  ·rw[aMM hnz];simp only[Sem.run_bind,hzz,Result.andThen_ok,Sem.run_pure,hzc,hcs',gE]
 rw[hrun];have hs':=h4.push (.cells cs.toArray e (0,0)) rfl;refine⟨fun _=>kS _ _ _,kk w.heap.size _ _ (Hl.put ⟨h1,h2,h3,D,hs',h5,h6.step (fun _ p hp=>?_) (fun _=>⟨by simp,fun b hb _=>⟨cE hb,rfl⟩,rfl⟩) hs'.dom⟩ hN _)⟩;rcases aLX.1 hp with rfl|hp
 ·exact aMD (aMS _)
 ·exact aMR (aMB.2 ⟨p,hp,rfl⟩)
theorem aX{n sz:Nat}{zs:List Value}(h:∀u∈zs,u=.int .i64 0)(hl:zs.length=sz):((Array.range (n*sz)).map (zs.toArray[· %zs.toArray.size]!)).toList=ints (List.replicate (n*sz) 0):=by
 apply aRB;intro i;simp only[aQU,Array.toList_range,aNB,ints,List.map_replicate,List.getElem?_replicate];by_cases hi:i<n*sz
 ·rw[aQS hi,aMT hi];have hpos:0<sz:=by
   rcases Nat.eq_zero_or_pos sz with h0|h0
   ·subst h0;simp at hi
   ·exact h0
  have hm:i%zs.toArray.size<zs.length:=by simp only[aNG,hl];exact aQG _ hpos
  simp only[aNN];congr 1;rw[getElem!_pos _ _ (by simpa using hm)];exact h _ Ye
 ·rw[aPH Yaj,aMM hi];rfl

theorem Hl.freezeM{A B ν:aC}{e sz n:Nat}{cells:List Value}{a:Act}{w:World}(hacc:bM e sz v n cells ν)(hmods:∀k∈X.mods,k∈(A++B).ks)(hh:Hl X σ (A++ν++B) Ds a w):
  ∃D',(∀D₁∈Ds,Le D₁ D')∧jY D' v n cells∧Hl X σ (A++B) (D'::Ds) a w:=by
 obtain⟨h1,h2,h3,D,h4,h5,h6⟩:=hh;rcases hacc with⟨old,hv,hn,hc,hν⟩|⟨b,cap,junk,hv,hncap,hν,hl1,hl2⟩
 ·subst hν;refine⟨D,h5,aMR ⟨old,hv,hn,hc⟩,h1,h2,h3,D,by simpa using h4,fun D₁ hD₁=>?_,by simpa using h6⟩;rcases aLX.1 hD₁ with rfl|hD₁
  ·exact Le.refl _
  ·exact h5 D₁ hD₁
 ·subst hν;have hb:=(h4.box (b,.cells (cells++junk).toArray e (0,0)) Ye).2.2;have hnb:b∉(A++B).ks:=fun hm=>by
   have hnd:=h4.nd;simp only[aMP,aMZ,aMK,aPV]at hnd;have:=aMJ.1 hnd;have h2':=aNW.1 this.2.1;simp only[aC.ks,aMP,aMO]at hm;rcases hm with hm|hm
   ·exact this.2.2 b hm b aMF rfl
   ·exact h2'.1 hm
  have hb':=hb.resolve_right (fun h=>hnb (hmods b h));obtain⟨D',hle,hD',hDo,hs⟩:=h4.freeze hb';refine⟨D',fun D₁ hD₁=>(h5 D₁ hD₁).trans hle,aMD ⟨b,cap,hv,hncap,fun j u hj=>by rw[hD',aPC];exact hj⟩,h1,h2,h3,D',hs,fun D₁ hD₁=>?_,h6.step (fun _ p hp=>aMR (aMB.2 ⟨p,by rcases aMO.1 hp with hp|hp;exact aMG _ (aMG _ hp);exact aMA _ hp,rfl⟩)) (fun _=>⟨aMS _,fun c _ hn=>⟨rfl,hDo c (by rintro rfl;exact hn Ye)⟩,rfl⟩) hs.dom⟩
  rcases aLX.1 hD₁ with rfl|hD₁
  ·exact Le.refl _
  ·exact(h5 D₁ hD₁).trans hle
theorem rH{A B ν:aC}{e sz n:Nat}{cells:List Value}(hacc:bM e sz v n cells ν)(hmods:∀k∈X.mods,k∈(A++B).ks)(kk:∀D,(∀D₁∈Ds,Le D₁ D)→jY D v n cells→WL P X bad all K Q os σ (A++B) (D::Ds)):WL P X bad all K Q os σ (A++ν++B) Ds:=by
 intro a w hh;obtain⟨D',h1,h2,h3⟩:=hh.freezeM hacc hmods;exact kk D' h1 h2 a w h3
theorem Y6{T:Act→World→Prop}{A B ν:aC}{e sz n:Nat}{cells:List Value}(hacc:bM e sz v n cells ν)(hmods:∀k∈X.mods,k∈(A++B).ks)(kk:∀D,(∀D₁∈Ds,Le D₁ D)→jY D v n cells→∀a w,Hl X σ (A++B) (D::Ds) a w→T a w):∀a w,Hl X σ (A++ν++B) Ds a w→T a w:=by
 intro a w hh;obtain⟨D',h1,h2,h3⟩:=hh.freezeM hacc hmods;exact kk D' h1 h2 a w h3
theorem Hl.apart{a:Act}{w:World}{D₁:aA}{b o:Nat}{c:Value}{cs:List Value}(hh:Hl X σ μ Ds a w)(hA:At D₁ b o (c::cs))(hD:D₁∈Ds):b∉μ.ks:=by
 obtain⟨h1,h2,h3,D,h4,h5,h6⟩:=hh;intro hm;obtain⟨p,hp,rfl⟩:=aMB.1 hm;have h0:=(h5 D₁ hD).get (hA 0 c rfl);rw[(h4.box p hp).2.1]at h0;simp at h0
theorem iS{c':Code}{D₁:aA}{b o:Nat}{c:Value}{cs:List Value}(hA:At D₁ b o (c::cs))(hD:D₁∈Ds)(k:b∉μ.ks→WC P X Q c' σ μ Ds):WC P X Q c' σ μ Ds:=fun a w hh=>k (hh.apart hA hD) a w hh
theorem At.tail{D:aA}{b o:Nat}{c:Value}{cs:List Value}(h:At D b o (c::cs)):At D b (o+1) cs:=fun j v hj=>by
 have:=h (j+1) v (by simpa using hj);rw[show o+1+j=o+(j+1) by omega];exact this

theorem GQ{f:FuncId}{fn:Func}{c:Code}{args:List Value}{D:aA}{ν:aC}{post:aA→Value→aC→Prop}(N:Nat)(hf:P.funcs[f]?= some fn)(hn:(fn.name== "runtime.NumGoroutine")=false)(hb:fn.body=some c)(hN:fn.ntmps=N)(hsz:Nat.ble args.length N=true)
  (h:∀h0:H0,(∀p∈ν,p.1<h0.size)→ν.ks.Nodup→WC P (mJ N h0 D ν.ks) (wI P fn (jL (mJ N h0 D ν.ks) ν.ks post)) c (gN 0 args) ν [D]):T1 P f args D ν post:=by
 refine⟨EF.of hf hn hb,fun w hw hν hnd=>?_⟩;subst hN;have hsz:=aOE hsz;have hq:∀e a w',wI P fn (jL (mJ fn.ntmps (hd w) D ν.ks) ν.ks post) e a w'→bodyPostM (FW none) 0 P fn (jL (mJ fn.ntmps (hd w) D ν.ks) ν.ks post) e a w':=by
  intro e a w' he;cases e<;>first|exact he|exact he.elim
 have hwp:=h (hd w) (fun p hp=>bE (hν p hp).1) hnd {tmps:=args.toArray++Array.replicate (fn.ntmps-args.toArray.size) undef,defers:=[]} w ⟨by simp[mJ];omega,fun s v hs=>by
  obtain⟨_,h2⟩:=eK args 0 s v hs;have hl:=(aMH.1 h2).1;simp only[aPY]at h2 hl;show(args.toArray++_)[s]?= some v;rw[aOT Yan];simpa using h2,rfl,D,⟨aMS _,aMS _,(fun _ _ _=>rfl),(fun _ _=>rfl),hw,(fun p hp=>⟨(hν p hp).1,(hν p hp).2.1,aMD (aMB.2 ⟨p,hp,rfl⟩)⟩),hnd,(fun p hp=>(hν p hp).2.2),fun e he=>aMY he⟩,(fun D₁ h1=>by simp only[aML]at h1;subst h1;exact Le.refl _),cW⟩
 refine(dA (r:=none) (n:=0)).1 ((callsIn_of_wp_marks hf hb cW (wpIn_mono hwp hq) rfl).mono ?_);rintro e w' ⟨v,D',ν',rfl,hk,hs,hp⟩;exact⟨v,D',ν',rfl,hk,hs,hp⟩
theorem DQ{fn:Func}{bd:Nat}{ks:List Nat}{post:aA→Value→aC→Prop}{e:Exit}(he:(match e with|.normal=>true|.ret=>true|_=>false)=true){rs:List ResultVar}{vs:List Value}{A B ν':aC}(hds:X.ds=[])(hr:fn.results=rs.toArray)(h:tE P X σ (A++ν'++B++[(bd,Obj.deferred none)]) rs vs)
  (hk:ν'.ks=ks) (hp:∀D,(∀D₁∈Ds,Le D₁ D)→post D (nE vs) ν'):∀a w,Hl (X.withDs bd) σ (A++ν'++B++[(bd,Obj.deferred (some []))]) Ds a w→wI P fn (jL X ks post) e a w:=by
 intro a w hh;obtain⟨h1,h2,h3,D,h4,h5,h6⟩:=hh;have hHas:bS (A++ν'++B++[(bd,Obj.deferred (some []))]) bd (.deferred (some [])) (.deferred none) (A++ν'++B++[(bd,Obj.deferred none)]):=.app .head;have hs:=h4.set (w':=w.putObj bd (.deferred none)) hHas ⟨rfl,rfl⟩ trivial;have hh':Hl X σ (A++ν'++B++[(bd,Obj.deferred none)]) Ds {a with defers:=[]} (w.putObj bd (.deferred none)):=
  ⟨h1,h2,hds.symm,D,hs,h5,h6.step (X:=X.withDs bd) (fun _ p hp=>aMR Yq) (fun _=>gL ⟨rfl,rfl⟩ (aMB.2 ⟨_,hHas.mem,rfl⟩)) hs.dom⟩
 have hrun:=fX hh' hr h;have hb:=(h4.box (bd,Obj.deferred (some [])) Ye).1;have hnd:=h4.nd;simp only[aMP]at hnd;have hsub:=hs.sub (μ':=ν') (fun p hp=>aMG _ (aMG _ (aMA _ hp))) (aMJ.1 (aMJ.1 (aMJ.1 hnd).1).1).2.1;have:LeavesInM (FW none) 0 P fn a.tmps (jL X ks post) a.defers .returning w:=by
  have h3':a.defers=[jX bd]:=h3.trans (by show jX bd::X.ds=_;rw[hds]);rw[h3'];exact⟨by simp,aMR ⟨bd,_,rfl,run_takeDeferred hb,_,hrun,_,D,ν',rfl,hk,hsub,hp D h5⟩⟩
 cases e<;>first|exact this|cases he
theorem B8{γ:Type}(I:γ→Prop)(S:γ→Bool)(M:γ→aC)(xs ys:List (Bool×Nat)){s p:Nat}{b:Bool}(ho:os=xs++ys)(hs:look σ s=some (.bool b))
  (hyes:b=true→WL P X bad all (fun a w=>∃g,I g∧Hl X ((p,.bool (S g))::(s,.bool true)::σ) (M g) Ds a w) Q xs ((s,.bool true)::σ) μ Ds)
  (hno:b=false→WL P X bad all (fun a w=>∃g,I g∧Hl X ((p,.bool (S g))::(s,.bool false)::σ) (M g) Ds a w) Q xs ((s,.bool false)::σ) μ Ds)
  (k:∀g,I g→WL P X bad all K Q ys ((p,.bool (S g))::σ) (M g) Ds):WL P X bad all K Q os σ μ Ds:=by
 have hsub:∀u,Value.bool b=u→∀a w,Hl X σ μ Ds a w→Hl X ((s,u)::σ) μ Ds a w:=by
  rintro _ rfl a w ⟨h1,h2,h3⟩;refine⟨h1,fun t v ht=>?_,h3⟩;simp only[look]at ht;cases hb:Nat.beq s t with
  |true=>rw[hb]at ht;cases ht;obtain rfl:=aNH hb;exact h2 _ _ hs
  |false=>rw[hb]at ht;exact h2 _ _ ht
 have hback:∀u v μ',Value.bool b=u→∀a w,Hl X ((p,v)::(s,u)::σ) μ' Ds a w→Hl X ((p,v)::σ) μ' Ds a w:=by
  rintro _ v μ' rfl a w ⟨h1,h2,h3⟩;refine⟨h1,fun t v' ht=>?_,h3⟩;refine h2 t v' ?_;simp only[look]at ht ⊢
  cases hp:Nat.beq p t with
  |true=>rw[hp]at ht;exact ht
  |false=>
   rw[hp]at ht;cases hb:Nat.beq s t with
   |true=>obtain rfl:=aNH hb;rw[←ht,hs]
   |false=>exact ht
 subst ho;intro a w hh;cases b
 ·refine WL.append (hno rfl a w (hsub _ rfl a w hh)) ?_;rintro a w ⟨g,hI,h⟩;exact k g hI a w (hback _ _ _ rfl a w h)
 ·refine WL.append (hyes rfl a w (hsub _ rfl a w hh)) ?_;rintro a w ⟨g,hI,h⟩;exact k g hI a w (hback _ _ _ rfl a w h)
theorem rI{t:TypeId}{b k:Nat}{l:List Int}{n:Int}{e:TypeId}{μ':aC}(ho:all[ix]?= some ⟨none,.store t x y,ty,pos,aft,g⟩)(hs:TS P t 1)(hx:ev σ x=some (.pointer (some ⟨b,k,none⟩)))(hy:ev σ y=some (.int .i64 n))
  (hm:bS μ b (.cells (ints l).toArray e (0,0)) (.cells (ints (l.set k n)).toArray e (0,0)) μ') (hl:k<l.length) (hg:cY all σ g)
  (kk:WL P X bad all K Q os σ μ' Ds):WL P X bad all K Q ((false,ix)::os) σ μ Ds:=by
 have hil:(ints l).length=l.length:=aJ l;refine aL (off:=k) (us:=[.int .i64 n]) (vs:=ints l) (ws:=ints (l.set k n)) ho hx hy rfl hs hm (by simp[hil];omega) ?_ (fun u hu=>by simp at hu;subst hu;rfl) hg kk
 rw[show ints (l.set k n)=(ints l).set k (.int .i64 n) by simp[ints,List.map_set],List.set_eq_take_append_cons_drop,aMT (by rw[hil];exact hl)];simp
theorem iR{t e tr:TypeId}{a:Option Addr}{n c:Nat}{ats:Array TypeId}(ho:all[ix]?= some ⟨some d,.call {callee:=.builtin .len,args:=#[x],argTypes:=ats},tr,pos,aft,g⟩)(ht:P.underlying t=some (.slice e))(hx:ev σ x=some (.slice a n c))(hat:ats[0]?= some t)
  (hN:Nat.blt d X.N=true) (hg:cY all σ g) (kk:WL P X bad all K Q os ((d,.int .i64 (n:Int))::σ) μ Ds):WL P X bad all K Q ((fl,ix)::os) σ μ Ds:=
 bO ho rfl rfl hN hg (fun ρ hρ w'=>by
  have hx':=hρ x _ hx;simp[Builtin.len_,hat,hx',Sem.run_bind,TU.of ht w',goInt,Sem.run_pure,go_sem]) kk
theorem Hl.boxesEq{a:Act}{w:World}{μ':aC}(hh:Hl X σ μ Ds a w)(h:μ=μ'):Hl X σ μ' Ds a w:=h▸hh
theorem zW{T:Act→World→Prop}(μ':aC)(h:μ=μ')(k:∀a w,Hl X σ μ' Ds a w→T a w):∀a w,Hl X σ μ Ds a w→T a w:=h▸k
theorem lL{t t' e:TypeId}{a:Option Addr}{n c:Nat}(ho:all[ix]?= some ⟨some d,.binOp .eql t x y t',ty,pos,aft,g⟩)(ht:P.underlying t=some (.slice e))(hx:ev σ x=some (.slice a n c))(hy:ev σ y=some (.slice none 0 0))(hN:Nat.blt d X.N=true)(hg:cY all σ g)
  (kk:WL P X bad all K Q os ((d,.bool (a.isNone))::σ) μ Ds):WL P X bad all K Q ((fl,ix)::os) σ μ Ds:=
 wQ ho (fun w=>by
  have hgd:(eqGuard .eql t x y (.slice a n c) (.slice none 0 0)).run P w=.ok () w:=by
   simp only[eqGuard];simp[go_sem]
  have heq:(Op.equal t (.slice a n c) (.slice none 0 0)).run P w=.ok a.isNone w:=by
   show(Op.equalIn (9999+1) t (.slice a n c) (.slice none 0 0)).run P w=_;rw[Op.equalIn,Sem.run_bind,TU.of ht w];cases a<;>rfl
  rw[Sem.run_bind,hgd];show((do Pure.pure (Value.bool (←Op.equal t (.slice a n c) (.slice none 0 0)))):Sem Value).run P w=_;rw[Sem.run_bind,heq];rfl) hx hy hN hg kk
theorem BO{t:TypeId}{b off:Nat}{vs us:List Value}{e:TypeId}{μ':aC}(ho:all[ix]?= some ⟨none,.store t x y,ty,pos,aft,g⟩)(hx:ev σ x=some (.pointer (some ⟨b,off,none⟩)))(hy:ev σ y=some v)(hv:v.cells=us.toArray)(hs:TS P t us.length)
  (hm:bS μ b (.cells vs.toArray e (0,0)) (.cells vs.toArray e (0,0)) μ') (hl:off+us.length≤vs.length) (hw:vs.take off++us++vs.drop (off+us.length)=vs) (hc1:∀u∈us,cell1 u=true) (hg:cY all σ g)
  (kk:WL P X bad all K Q os σ μ' Ds):WL P X bad all K Q ((fl,ix)::os) σ μ Ds:=by
 refine dP ho rfl rfl hg fun a w hh=>?_
 obtain⟨h1,h2,h3,D,h4,h5,h6⟩:=id hh;obtain⟨w',hr,hw'⟩:=tU (P:=P) hs hv (h4.box _ hm.mem).1 hl hc1;have:(execOp a.eval ⟨none,.store t x y,ty,pos,aft,g⟩).run P w=.ok .skip w':=by
  simp only[execOp,hh.eval hx,hh.eval hy,Sem.run_bind,hr,Result.andThen_ok,Sem.run_pure]
 rw[this];rw[hw]at hw';refine⟨fun _=>⟨by rw[hw'.1];simp,fun c _ _=>?_⟩,kk _ _ ⟨h1,h2,h3,D,h4.set hm hw' rfl,h5,h6.step (fun _ p hp=>aMR Yap) (fun _=>gL hw' (aMB.2 ⟨_,hm.mem,rfl⟩)) (h4.set hm hw' rfl).dom⟩⟩
 have hb:=(h4.box _ hm.mem).1;rw[hw'.1];by_cases hc:b=c
 ·subst hc;rw[Array.getElem?_setIfInBounds_self_of_lt (bE hb)];exact hb.symm
 ·rw[aOO hc]

theorem bD{D₁:aA}{b o:Nat}{c:Value}{cs:List Value}(hA:At D₁ b o (c::cs))(hD:D₁∈Ds)(k:b∉μ.ks→WL P X bad all K Q os σ μ Ds):WL P X bad all K Q os σ μ Ds:=fun a w hh=>k (hh.apart hA hD) a w hh
theorem aBS{e sz b:Nat}{cells:List Value}(h:cells.length=sz):bM e sz (.slice (some ⟨b,0,none⟩) 1 1) 1 cells [(b,.cells cells.toArray e (0,0))]:=
 aMD ⟨b,1,[],rfl,aMS _,by simp,by omega,by simp;omega⟩
theorem YW{D:aA}{b:Nat}{cells:List Value}(h:jY D (.slice (some ⟨b,0,none⟩) 1 1) 1 cells):At D b 0 cells:=by
 rcases h with⟨a,_,h0,_⟩|⟨b',cap,hv,_,hA⟩
 ·omega
 ·cases hv;exact hA
theorem uA{c:Code}{A B:aC}{b:Nat}{cells:List Value}{e:TypeId}(hmods:X.mods=[])(kk:∀D,(∀D₁∈Ds,Le D₁ D)→At D b 0 cells→WC P X Q c σ (A++B) (D::Ds)):WC P X Q c σ (A++(b,.cells cells.toArray e (0,0))::B) Ds:=by
 have:=yW (A:=A) (B:=B) (ν:=[(b,.cells cells.toArray e (0,0))]) (c:=c) (P:=P) (X:=X) (Q:=Q) (σ:=σ) (Ds:=Ds) (aBS (e:=e) (b:=b) (cells:=cells) rfl) hmods fun D hD hF=>kk D hD (YW hF)
 simpa using this
theorem KZ{α:Type}{D:aA}{b sz:Nat}{cells:α→List Value}(hsz:∀x,(cells x).length=sz):∀{xs:List α} {o:Nat},(∀i x,xs[i]?= some x→At D b (o+i*sz) (cells x))→At D b o (xs.flatMap cells)
 | [],o,_=>fun j v hj=>by simp at hj
 |x::xs,o,h=>fun j v hj=>by
  rw[aNQ]at hj;have h0:=h 0 x rfl;rw[aQF,Nat.add_zero]at h0;have hr:=KZ hsz (xs:=xs) (o:=o+sz) fun i y hy=>by
   have:=h (i+1) y (by simpa using hy);rw[show o+sz+i*sz=o+(i+1)*sz by rw[aOR];omega];exact this
  rcases Nat.lt_or_ge j (cells x).length with hl|hl
  ·rw[aOV hl]at hj;exact h0 j v hj
  ·rw[aQL hl]at hj;have:=hr _ v hj;rw[hsz]at this;rw[show o+j=o+sz+(j-sz) by rw[hsz]at hl;omega];exact this
theorem jM.of{α:Type}{R:Rd α}{D:aA}{sz:Nat}{xs:List α}{cells:α→List Value}(hR:∀D x cs,R D x cs→cs=cells x)(hsz:∀x,(cells x).length=sz)(h:Sl D R sz v xs):jM D v xs.length (xs.flatMap cells):=by
 obtain⟨a,cap,rfl,h1,h2,h3⟩:=h;rcases h3 with rfl|⟨b,o,rfl,h3⟩
 ·exact aMR ⟨a,cap,rfl,rfl,rfl⟩
 ·refine aMD ⟨b,o,cap,rfl,KZ hsz fun i x hx=>?_⟩;obtain⟨cs,hr,hc,hA⟩:=h3 i x hx;rw[hR _ _ _ hr]at hA;exact hA
theorem nN{α:Type}{R:Rd α}{D:aA}{sz n c:Nat}{xs:List α}(h:Sl D R sz (.slice none n c) xs):xs=[]:=by
 obtain⟨a,cap,hv,h1,h2,h3⟩:=h;rcases h3 with h3|⟨b,o,ha,_⟩
 ·exact h3
 ·rw[ha]at hv;cases hv
theorem aS{α:Type}{R:Rd α}{D₁:aA}{sz:Nat}{t e:TypeId}{xs:List α}{k:IntKind}{i:Int}{el:α}{bt ot ct:Nat}(ho:all[ix]?= some ⟨some d,.indexAddr t x y,ty,pos,aft,g⟩)(ht:P.underlying t=some (.slice e))(hs:TS P e sz)(hx:ev σ x=some (.slice (some ⟨bt,ot,none⟩) xs.length ct))(hS:Sl D₁ R sz (.slice (some ⟨bt,ot,none⟩) xs.length ct) xs)
  (hy:ev σ y=some (.int k i)) (h0:0≤i) (hi:xs[i.toNat]?= some el) (hN:Nat.blt d X.N=true) (hg:cY all σ g)
  (kk:∀cs,R D₁ el cs→cs.length=sz→At D₁ bt (ot+i.toNat*sz) cs→WL P X bad all K Q os ((d,.pointer (some ⟨bt,ot+i.toNat*sz,none⟩))::σ) μ Ds):WL P X bad all K Q ((fl,ix)::os) σ μ Ds:=by
 obtain⟨a,cap,hv,h1,h2,h3⟩:=hS;cases hv;have hlt:=(aMH.1 hi).1;rcases h3 with h3|⟨b,o,ha,h3⟩
 ·subst h3;simp at hi
 ·cases ha;obtain⟨cs,hr,hc,hA⟩:=h3 _ _ hi;exact eH ho ht hs hx hy h0 Yd hN hg (kk cs hr hc hA)
theorem iD{α:Type}{R:Rd α}{D:aA}{sz:Nat}{xs:List α}{v:Value}(h:Sl D R sz v xs)(hne:xs≠[]):∃bt ot ct,v=.slice (some ⟨bt,ot,none⟩) xs.length ct:=by
 obtain⟨a,cap,hv,h1,h2,h3⟩:=h;rcases h3 with h3|⟨b,o,ha,_⟩
 ·exact absurd h3 hne
 ·exact⟨b,o,cap,by rw[hv,ha]⟩
theorem gF{t:TypeId}{b off:Nat}{vs us ws:List Value}{e:TypeId}{μ':aC}(ho:all[ix]?= some ⟨none,.store t x y,ty,pos,aft,g⟩)(hx:ev σ x=some (.pointer (some ⟨b,off,none⟩)))(hy:ev σ y=some v)(hv:v.cells=us.toArray)(hs:TS P t us.length)
  (hm:bS μ b (.cells vs.toArray e (0,0)) (.cells ws.toArray e (0,0)) μ') (hl:off+us.length≤vs.length) (hw:vs.take off++us++vs.drop (off+us.length)=ws) (hc1:∀u∈us,cell1 u=true) (hfl:fl=false∨b∈bad) (hg:cY all σ g)
  (kk:WL P X bad all K Q os σ μ' Ds):WL P X bad all K Q ((fl,ix)::os) σ μ Ds:=by
 refine dP ho rfl rfl hg fun a w hh=>?_
 obtain⟨h1,h2,h3,D,h4,h5,h6⟩:=id hh;obtain⟨w',hr,hw'⟩:=tU (P:=P) hs hv (h4.box _ hm.mem).1 hl hc1;have:(execOp a.eval ⟨none,.store t x y,ty,pos,aft,g⟩).run P w=.ok .skip w':=by
  simp only[execOp,hh.eval hx,hh.eval hy,Sem.run_bind,hr,Result.andThen_ok,Sem.run_pure]
 rw[this];rw[hw]at hw';refine⟨fun h=>⟨by rw[hw'.1];simp,fun c _ hn=>?_⟩,kk _ _ ⟨h1,h2,h3,D,h4.set hm hw' rfl,h5,h6.step (fun _ p hp=>aMR Yap) (fun _=>gL hw' (aMB.2 ⟨_,hm.mem,rfl⟩)) (h4.set hm hw' rfl).dom⟩⟩
 rcases hfl with hf|hf
 ·rw[hf]at h;cases h
 ·rw[hw'.1,aOO (by rintro rfl;exact hn hf)]
theorem _root_.Go.Fs.Zo{t:TypeId}{b:Nat}(off:Nat)(vs:List Value)(us:List Value)(ws:List Value){e:TypeId}{μ':aC}(e9:(all[ix]?,ev σ x,ev σ y,v.cells)=(some ⟨none,.store t x y,ty,pos,aft,g⟩,some (.pointer (some ⟨b,off,none⟩)),some v,us.toArray))(hs:TS P t us.length)(hm:bS μ b (.cells vs.toArray e (0,0)) (.cells ws.toArray e (0,0)) μ')(hw:vs.take off++us++vs.drop (off+us.length)=ws)(hfl:fl=false∨b∈bad)(kk:WL P X bad all K Q os σ μ' Ds)(hl:off+us.length≤vs.length:=by exact Ye)(hc1:∀u∈us,cell1 u=true:=by exact Yi)(hg:cY all σ g:=by exact cW):WL P X bad all K Q ((fl,ix)::os) σ μ Ds:=gF (off:=off) (vs:=vs) (us:=us) (ws:=ws) (aMQ (fun z=>z.1) e9) (aMQ (fun z=>z.2.1) e9) (aMQ (fun z=>z.2.2.1) e9) (aMQ (fun z=>z.2.2.2) e9) hs hm hl hw hc1 hfl hg kk
end Go.Fs
namespace Go.Fs
variable{P:Program}{X:Cx}{γb:Type}[Membership Nat γb]{bad:γb}{all:Array Oper}{K:Act→World→Prop}{Q:Exit→Act→World→Prop}
variable{σ:bI}{μ:aC}{Ds:List aA}{os:List (Bool×Nat)}{fl:Bool}{ix:Nat}
variable{d:Nat}{x y z:Operand}{u v:Value}{ty:TypeId}{pos:String}{aft:Array Edge}{g:Option (Nat×Bool)}
def LN{α:Type}(P:Program)(f:FuncId)(cap:List Value)(Dr:aA)(xs:List α)(enc:Nat→List Value→Prop)(cells:α→List Value):Prop:=
 EF P f∧∀(lo l:Nat) (J Jx:List α→pC),(∀pre,xE lo (J pre))→(∀pre,xE lo (Jx pre))→
  (∀pre x β D w bo vs,(∃r,xs=pre++x::r)→uR lo D w→J pre β D w→(∀b∈β,b<w.heap.size)→Le Dr D→enc bo vs→j7 β D w bo (cells x)→
   fY P l vs w fun b D' w'=>uR lo D' w'∧tJ β D w D' w'∧(if b then J (pre++[x]) β D' w' else Jx (pre++[x]) β D' w'))→
  ∀D w,uR lo D w→Le Dr D→J [] [] D w→Calls P f (.func (.yield l) #[] #[]::cap).toArray w fun e w'=>∃v D',e=.returned v∧uR lo D' w'∧(J xs [] D' w'∨∃pre,Jx pre [] D' w')
theorem AK{α γ:Type}{xs:List α}{enc:Nat→List Value→Prop}{cells:α→List Value}{Dr:aA}{f:FuncId}{cap:List Value}{gop:Operand}{ps:Array Tmp}{assign body:Code}
  (Φ:List α→γ→Prop) (Ψ:List α→Code→γ→Prop) (M:γ→aC) (g₀:γ) (hr:X.r=none) (hex:X.ex=none) (hmods:∀g,∀k∈X.mods,k∈(M g).ks)
  (hg:ev σ gop=some (.func (.func f) #[] cap.toArray)) (hit:LN P f cap Dr xs enc cells) (hDr:Dr∈Ds) (hps:∀b vs,enc b vs→vs.length=ps.size) (hpN:(ps.toList.all fun p=>Nat.blt p X.N)=true) (h₀:Φ [] g₀) (hμ:M g₀=μ)
  (hround:∀pre x g,(∃r,xs=pre++x::r)→Φ pre g→∀(l bd bo:Nat) (vs:List Value) (rec:Loop) (h0:H0) (D:aA),(∀D₁∈Ds,Le D₁ D)→enc bo vs→At D bo 0 (cells x)→rec.state=.ready→rec.pending=none→
   WC P (Xr l X.N h0 D ((M g++(l,Obj.loop rec)::[(bd,Obj.deferred (some []))]).map (·.1)))
    (Exit.then (fun a₁ w₁=>∃w₂,(Instr.beginRound l).run P w₁=.ok () w₂∧body.wpIn ((FW none).inRound l) 0 P (roundPost P l (uP h0 D ((M g++(l,Obj.loop rec)::[(bd,Obj.deferred (some []))]).map (·.1)) (Φ (pre++[x])) (Ψ (pre++[x]))
     (fun g=>M g++(l,Obj.loop {rec with state:=.ready,pending:=none})::[(bd,Obj.deferred (some []))]) (fun c g=>M g++(l,Obj.loop {rec with state:=.done,pending:=some c})::[(bd,Obj.deferred (some []))]))) a₁ w₂) (fun _ _ _=>False))
    assign (uO ps.toList vs σ) (M g++(l,Obj.loop rec)::[(bd,Obj.deferred (some []))]) (D::Ds))
  (hdone:∀g bd,Φ xs g→∀a w,Hl (X.withDs bd) σ (M g++[(bd,Obj.deferred (some []))]) Ds a w→Q .normal a w)
  (hstop:∀pre c g bd,Ψ pre c g→WC P (X.withDs bd) Q c σ (M g++[(bd,Obj.deferred (some []))]) Ds):WC P X Q (.rangeFunc gop ps assign body) σ μ Ds:=by
 intro a w hh;subst hμ;have hev:=hh.eval hg;obtain⟨h1,h2,h3,D,h4,h5,h6⟩:=hh;refine wpIn_rangeFunc fun fn _=>?_
 have hround':(FW X.r).round=none:=hr;rw[hround'];have hmk:∀g (B:aC),∀k∈X.mods,k∈(M g++B).ks:=fun g B k hk=>by
  show k∈(M g++B).map _;rw[aMP];exact aMG _ (hmods g k hk)
 let bd:=w.heap.size
 let l:=w.heap.size+1
 let rec0:Loop:={state:=.ready,pending:=none,fn,tmps:=a.tmps,params:=ps,assign,body,defers:=bd}
 let w1:World:={w with heap:=w.heap.push (.deferred (some []))}
 let w2:World:={w1 with heap:=w1.heap.push (.loop rec0)}
 have hs1:fU X.h0 X.lo X.D0 X.mods ((bd,Obj.deferred (some []))::M g₀) D w1:=h4.push (.deferred (some [])) trivial;have hs2:fU X.h0 X.lo X.D0 X.mods ((l,Obj.loop rec0)::(bd,Obj.deferred (some []))::M g₀) D w2:=by
  have:=hs1.push (.loop rec0) trivial;have e:w1.heap.size=l:=by simp[w1,l]
  rw[e]at this;exact this
 have hperm:fU X.h0 X.lo X.D0 X.mods (M g₀++(l,Obj.loop rec0)::[(bd,Obj.deferred (some []))]) D w2:=by
  refine hs2.sub (fun p hp=>?_) ?_
  ·simp only[aMO,aLX,GT,aNU]at hp ⊢
   rcases hp with hp|hp|hp
   ·exact aMD (aMD hp)
   ·exact aMR hp
   ·exact aMD (aMR hp)
  ·have hn:=hs2.nd;simp only[aMZ,aNW,aLX,not_or]at hn;simp only[aMP,aMZ,aQB,aMJ,aNW,aLX,GT,aNU,aQP,aOH,and_true];refine⟨hn.2.2,hn.1.1,fun q hq r hr'=>?_⟩;rcases hr' with rfl|rfl
   ·rintro rfl;exact hn.1.2 hq
   ·rintro rfl;exact hn.2.1 hq
 refine⟨l,[jX bd],w2,{target:=.fn (.func f) cap.toArray,args:=#[.func (.yield l) #[] #[]]},w2,f,(.func (.yield l) #[] #[]::cap).toArray,w2,run_enterLoop_outer fn a.tmps ps assign body,?_,fun _ _=>trivial,?_,fun h=>by simp[FW]at h,?_⟩
 ·simp only[resolve,Deferred.ofValue];have e:Array.map a.eval #[Operand.const (Value.func (Fn.yield l) #[] #[])]=#[.func (.yield l) #[] #[]]:=by simp[Act.eval]
  rw[e,hev];rfl
 ·simp only[invoke];rw[hit.1];simp
 ·refine dA.2 ((hit.2 X.lo l
   (fun pre=>aAS X.h0 X.lo X.D0 X.mods Ds (Φ pre) fun g=>M g++(l,Obj.loop rec0)::[(bd,Obj.deferred (some []))])
   (fun pre=>aAS X.h0 X.lo X.D0 X.mods Ds (fun cg:Code×γ=>Ψ pre cg.1 cg.2) fun cg=>M cg.2++(l,Obj.loop {rec0 with state:=.done,pending:=some cg.1})::[(bd,Obj.deferred (some []))])
   (fun _=>yV) (fun _=>yV) ?_ D w2 hs2.dom (h5 Dr hDr) ⟨g₀,h₀,hperm,h5,(fun _ h=>by cases h),(fun _ _ h=>by cases h),hmk g₀ _⟩).mono ?_)
  ·rintro pre x β Dx wx bo vs hx hdx ⟨g,hΦ,hst,hDs,hβ,hM,hmg⟩ hβs hle henc ⟨hbo,hbD,be,bfz,hbw⟩;have hbox:=(hst.box (l,Obj.loop rec0) Ye).1;refine⟨fn,_,assign,body,run_yield hbox (by simpa using hps bo vs henc),?_⟩;refine(roundIn_of_wpIn (F:=FW none) cW (R:=uP (hd wx) (fT Dx bo (cells x)) ((M g++(l,Obj.loop rec0)::[(bd,Obj.deferred (some []))]).map (·.1)) (Φ (pre++[x])) (Ψ (pre++[x]))
     (fun g=>M g++(l,Obj.loop {rec0 with state:=.ready,pending:=none})::[(bd,Obj.deferred (some []))]) (fun c g=>M g++(l,Obj.loop {rec0 with state:=.done,pending:=some c})::[(bd,Obj.deferred (some []))])) ?_).mono ?_
   ·have hw:=hround pre x g hx hΦ l bd bo vs rec0 (hd wx) (fT Dx bo (cells x)) (fun D₁ h=>(hDs D₁ h).trans (xL hbD (hst.agr.ne0 hbD))) henc (CI _ _ _) rfl rfl;have ht:(ps.zip vs.toArray).foldl (fun tmps (t,a)=>tmps.setIfInBounds t a) a.tmps=(ps.toList.zip vs).foldl (fun tmps (p:Tmp×Value)=>tmps.setIfInBounds p.1 p.2) a.tmps:=by
     rw[←Array.foldl_toList];simp
    have hpN':∀p∈ps.toList,p<a.tmps.size:=fun p hp=>by rw[h1];simpa [Nat.blt_eq]using aMU.1 hpN p hp
    refine hw {tmps:=_,defers:=[]} wx ⟨?_,fun s v hs=>?_,rfl,fT Dx bo (cells x),⟨aMS _,aMS _,fun _ _ _=>rfl,fun _ _=>rfl,e8 hst.agr hbw hbD,fun p hp=>?_,hst.nd,hst.fz,fun e he=>aMY he⟩,fun D₁ hD₁=>?_,cW⟩
    ·show((ps.zip vs.toArray).foldl _ a.tmps).size=X.N;rw[ht,yG];exact h1
    ·show((ps.zip vs.toArray).foldl _ a.tmps)[s]?= some v;rw[ht];exact zG _ _ _ _ h2 hpN' s v hs
    ·obtain⟨p1,p2,p3⟩:=hst.box p hp;exact⟨p1,by unfold fT;rw[aMM (fun e=>hM p hp (by rw[e];exact hbo))];exact p2,aMD (aMB.2 ⟨p,hp,rfl⟩)⟩
    ·rcases aLX.1 hD₁ with rfl|hD₁
     ·exact Le.refl _
     ·exact(hDs D₁ hD₁).trans (xL hbD (hst.agr.ne0 hbD))
   ·rintro e w' ⟨b,D',rfl,hb⟩;have fin:∀μ',fU (hd wx) wx.heap.size (fT Dx bo (cells x)) ((M g++(l,Obj.loop rec0)::[(bd,Obj.deferred (some []))]).map (·.1)) μ' D' w'→fU X.h0 X.lo X.D0 X.mods μ' (fT D' bo []) w'∧tJ β Dx wx (fT D' bo []) w'∧(∀D₁∈Ds,Le D₁ (fT D' bo []))∧(∀p∈μ',p.1∉β):=by
     intro μ' hs0;have hs':=hs0.hide hbD (hst.agr.ne0 hbD);refine⟨hst.roundM hmg hs',fU.roundHigh hst.agr hs' hβs hM,fun D₁ hD₁=>(hDs D₁ hD₁).trans (eZ hst.agr hs'),fun p hp hpb=>?_⟩;rcases(hs'.box p hp).2.2 with h|h
     ·have:=hβs _ hpb;omega
     ·obtain⟨q,hq,he⟩:=aMB.1 h;exact hM q hq (by rw[he];exact hpb)
    refine⟨b,fT D' bo [],rfl,?_⟩;cases b with
    |true=>
     obtain⟨g',hg',hs'⟩:=hb;obtain⟨f1,f2,f3,f4⟩:=fin _ hs';exact⟨f1.dom,f2,g',hg',f1,f3,hβ,f4,hmk g' _⟩
    |false=>
     obtain⟨c',g',hg',hs'⟩:=hb;obtain⟨f1,f2,f3,f4⟩:=fin _ hs';exact⟨f1.dom,f2,(c',g'),hg',f1,f3,hβ,f4,hmk g' _⟩
  ·rintro e w' ⟨v,D',rfl,hd,hend⟩;have post:∀(g:γ) (r:Loop),fU X.h0 X.lo X.D0 X.mods (M g++(l,Obj.loop r)::[(bd,Obj.deferred (some []))]) D' w'→(∀D₁∈Ds,Le D₁ D')→
     Hl (X.withDs bd) σ (M g++[(bd,Obj.deferred (some []))]) Ds {a with defers:=[jX bd]++a.defers} (w'.putObj l (.loop {r with state:=.exhausted})):=by
    intro g r hs hD';have hHas:bS (M g++(l,Obj.loop r)::[(bd,Obj.deferred (some []))]) l (.loop r) (.loop {r with state:=.exhausted}) (M g++(l,Obj.loop {r with state:=.exhausted})::[(bd,Obj.deferred (some []))]):=.app .head;have hs':=hs.set (w':=w'.putObj l (.loop {r with state:=.exhausted})) hHas ⟨rfl,rfl⟩ trivial;have hs'':=hs'.sub (μ':=M g++[(bd,Obj.deferred (some []))]) (fun p hp=>by
     rcases aMO.1 hp with hp|hp
     ·exact aMG _ hp
     ·exact aMA _ (aLZ _ hp)) (by
     have hn:=hs'.nd;rw[aMP,aMJ]at hn ⊢
     simp only[aMZ]at hn;exact⟨hn.1,(aNW.1 hn.2.1).2,fun q hq r hr=>hn.2.2 q hq r (aLZ _ hr)⟩)
    exact⟨h1,h2,aMQ (jX bd:: ·) h3,D',hs'',hD',by unfold vU;show(match X.ex with|none=>True|some J=>_);rw[hex];trivial⟩
   rcases hend with⟨g,hΦ,hs,hDs,_,_,_⟩|⟨pre,⟨c,g⟩,hΨ,hs,hDs,_,_,_⟩
   ·have hb:=(hs.box (l,Obj.loop rec0) Ye).1;exact⟨none,_,run_endLoop hb (by simp[rec0]),hdone g bd hΦ _ _ (post g rec0 hs hDs)⟩
   ·have hb:=(hs.box (l,Obj.loop {rec0 with state:=.done,pending:=some c}) Ye).1;refine⟨some c,_,run_endLoop hb Ye,?_⟩;have:=hstop pre c g bd hΨ _ _ (post g _ hs hDs);exact this
theorem GV{α:Type}{f:FuncId}{fn:Func}{c:Code}{cap:List Value}{Dr:aA}{xs:List α}{enc:Nat→List Value→Prop}{cells:α→List Value}(N:Nat)(hf:P.funcs[f]?= some fn)(hn:(fn.name== "runtime.NumGoroutine")=false)(hb:fn.body=some c)(hN:fn.ntmps=N)(hsz:Nat.ble (cap.length+1) N=true)
  (h:∀(lo l:Nat) (J Jx:List α→pC),(∀pre,xE lo (J pre))→(∀pre,xE lo (Jx pre))→
   (∀pre x β D w bo vs,(∃r,xs=pre++x::r)→uR lo D w→J pre β D w→(∀b∈β,b<w.heap.size)→Le Dr D→enc bo vs→j7 β D w bo (cells x)→
    fY P l vs w fun b D' w'=>uR lo D' w'∧tJ β D w D' w'∧(if b then J (pre++[x]) β D' w' else Jx (pre++[x]) β D' w'))→
   WC P (Xj N lo (J [])) (bodyPost P fn (C9 lo [Dr] fun _ J' _=>J'=J xs∨∃pre,J'=Jx pre)) c (gN 0 (.func (.yield l) #[] #[]::cap)) [] [Dr]):LN P f cap Dr xs enc cells:=by
 refine⟨EF.of hf hn hb,fun lo l J Jx hs hsx hY D w hd hle hJ=>?_⟩;have hF:=xI (μ:=[]) N hf hn hb hN (by simpa using hsz) (h lo l J Jx hs hsx hY);refine(hF.2 w ⟨D,⟨Nat.zero_le _,hd.2,fun b hb=>absurd hb (aQH _),fun b hb=>absurd hb (aQH _),hd.1,(fun p hp=>by cases hp),aOH,(fun p hp=>by cases hp),fun e he=>by cases he⟩,fun D₁ h1=>?_,hs [],hJ⟩).mono ?_
 ·simp only[aML]at h1;subst h1;exact hle
 ·rintro e w' ⟨v,J',μ',rfl,⟨D',hst,hds,hex⟩,hpost⟩;refine⟨v,D',rfl,hst.dom,?_⟩;have hJ':J' [] D' w':=hex.1.own _ [] D' w' hex.2 (fun b hb=>by cases hb);rcases hpost with rfl|⟨pre,rfl⟩
  ·exact aMR hJ'
  ·exact aMD ⟨pre,hJ'⟩
end Go.Fs
namespace Go.Fs
variable{P:Program}{X:Cx}{γb:Type}[Membership Nat γb]{bad:γb}{all:Array Oper}{K:Act→World→Prop}{Q:Exit→Act→World→Prop}
variable{σ:bI}{μ:aC}{Ds:List aA}{os:List (Bool×Nat)}{fl:Bool}{ix:Nat}
variable{d:Nat}{x y z:Operand}{u v:Value}{ty:TypeId}{pos:String}{aft:Array Edge}{g:Option (Nat×Bool)}
theorem Hl.subB{μ':aC}{a:Act}{w:World}(h:Hl X σ μ Ds a w)(hμ:μ'.Sublist μ):Hl X σ μ' Ds a w:=by
 obtain⟨g1,g2,g3,D,h4,h5,h6⟩:=h;exact⟨g1,g2,g3,D,h4.sub (fun p hp=>hμ.subset hp) (h4.nd.sublist (hμ.map _)),h5,h6.step (fun _ p hp=>aMR (aMB.2 ⟨p,hμ.subset hp,rfl⟩)) (fun _=>aAA.refl _ _ _) h4.dom⟩
theorem R5{μ':aC}(hμ:μ'.Sublist μ)(h:WL P X bad all K Q os σ μ' Ds):WL P X bad all K Q os σ μ Ds:=fun a w hh=>h a w (hh.subB hμ)
theorem Hl.perm{μ':aC}{a:Act}{w:World}(h:Hl X σ μ Ds a w)(h1:∀r∈μ',r∈μ)(h2:(μ.map (·.1)).Nodup→(μ'.map (·.1)).Nodup):Hl X σ μ' Ds a w:=by
 obtain⟨g1,g2,g3,D,h4,h5,h6⟩:=h;exact⟨g1,g2,g3,D,h4.sub h1 (h2 h4.nd),h5,h6.step (fun _ r hr=>aMR (aMB.2 ⟨r,h1 r hr,rfl⟩)) (fun _=>aAA.refl _ _ _) h4.dom⟩
theorem nL{K':Act→World→Prop}(h:∀a w,Hl X σ μ Ds a w→K' a w):∀a w,Hl X σ μ Ds a w→(Exit.then K' Q) .normal a w:=h
theorem K7{c c':Code}{γ:Type}(I:γ→Prop)(S:γ→bI)(M:γ→aC)(E:γ→List aA)(h1:WC P X (Exit.then (fun a w=>∃g,I g∧Hl X (S g) (M g) (E g) a w) Q) c σ μ Ds)(h2:∀g,I g→WC P X Q c' (S g) (M g) (E g)):WC P X Q (.seq c c') σ μ Ds:=
 fun a w hh=>wpIn_seq (wpIn_mono (h1 a w hh) fun e a w he=>by
  cases e with
  |normal=>obtain⟨g,hg,h⟩:=he;exact h2 g hg a w h
  |_=>exact he)
end Go.Fs
namespace Go.Fs
variable{P:Program}{X:Cx}{γb:Type}[Membership Nat γb]{bad:γb}{all:Array Oper}{K:Act→World→Prop}{Q:Exit→Act→World→Prop}
variable{σ:bI}{μ:aC}{Ds:List aA}{os:List (Bool×Nat)}{fl:Bool}{ix:Nat}
variable{d:Nat}{x y z:Operand}{u v:Value}{ty:TypeId}{pos:String}{aft:Array Edge}{g:Option (Nat×Bool)}
def lJ(v:Value):List PanicEntry:=[{v,recovered:=false}]
def jR(P:Program)(f:FuncId)(args:List Value)(D:aA)(ν:aC)(post:aA→Value→aC→Prop)(pan:Value→Prop):Prop:=
 EF P f∧∀w,dX D w→(∀p∈ν,w.heap[p.1]?= some p.2∧D p.1=[]∧cQ p.2)→ν.ks.Nodup→Calls P f args.toArray w fun e w'=>
  (∃v D' ν',e=.returned v∧fU (hd w) w.heap.size D ν.ks ν' D' w'∧post D' v ν')∨(∃v D',e=.panicked (lJ v)∧fU (hd w) w.heap.size D ν.ks [] D' w'∧pan v)
theorem fU.afterG{h0:H0}{lo:Nat}{D0 D D':aA}{mods:List Nat}{A B ν ν':aC}{w w':World}(h:fU h0 lo D0 mods (A++ν++B) D w)(hs:fU (hd w) w.heap.size D ν.ks ν' D' w'):fU h0 lo D0 mods (A++ν'++B) D' w':=by
 have hle:=aOU h.hlo h.size;have hin:∀c∈ν.ks,∃o,(c,o)∈ν:=fun c hc=>by
  obtain⟨p,hp,rfl⟩:=aMB.1 hc;exact⟨p.2,hp⟩
 have hbx:∀p∈ν,_:=fun p hp=>h.box p (aMG _ (aMA _ hp))
 have hnd:=h.nd;simp only[aMP]at hnd;have hA:∀p∈A,p.1∉ν.ks∧p.1<w.heap.size:=fun p hp=>⟨fun hm=>(aMJ.1 (aMJ.1 hnd).1).2.2 p.1 (aMB.2 ⟨p,hp,rfl⟩) p.1 hm rfl,bE (h.box p (aMG _ (aMG _ hp))).1⟩
 have hB:∀p∈B,p.1∉ν.ks∧p.1<w.heap.size:=fun p hp=>⟨fun hm=>(aMJ.1 hnd).2.2 p.1 (aMA _ hm) p.1 (aMB.2 ⟨p,hp,rfl⟩) rfl,bE (h.box p (aMA _ hp)).1⟩
 have hN:∀p∈ν',p.1∈ν.ks∨w.heap.size≤p.1:=fun p hp=>((hs.box p hp).2.2).symm
 refine⟨h.hlo,aOU h.size hs.size,fun c hc hm=>?_,fun c hc=>?_,hs.agr,fun p hp=>?_,?_,fun p hp=>?_,fun e he=>(hs.env _ rfl).trans (h.env e he)⟩
 ·have hne:c∉ν.ks:=by
   intro hcm;obtain⟨o,ho⟩:=hin c hcm;rcases(hbx _ ho).2.2 with h'|h'
   ·have:=h.hlo;simp at h';omega
   ·exact hm h'
  rw[hs.old c (aOQ hc hle) hne];exact h.old c hc hm
 ·rw[hs.dold c (aOQ hc hle)];exact h.dold c hc
 ·rcases aMO.1 hp with hp|hp
  ·rcases aMO.1 hp with hp|hp
   ·obtain⟨h1,h2,h3⟩:=h.box p (aMG _ (aMG _ hp));obtain⟨hne,hl⟩:=hA p hp;exact⟨by rw[hs.old _ hl hne];exact h1,by rw[hs.dold _ hl];exact h2,h3⟩
   ·obtain⟨q1,q2,q3⟩:=hs.box p hp;refine⟨q1,q2,?_⟩;rcases q3 with q3|q3
    ·exact aMR (aOU h.size q3)
    ·obtain⟨o,ho⟩:=hin p.1 q3;exact(hbx _ ho).2.2
  ·obtain⟨h1,h2,h3⟩:=h.box p (aMA _ hp);obtain⟨hne,hl⟩:=hB p hp;exact⟨by rw[hs.old _ hl hne];exact h1,by rw[hs.dold _ hl];exact h2,h3⟩
 ·simp only[aMP];rw[aMJ,aMJ];refine⟨⟨(aMJ.1 (aMJ.1 hnd).1).1,hs.nd,fun a ha b hb e=>?_⟩,(aMJ.1 hnd).2.1,fun a ha b hb e=>?_⟩
  ·obtain⟨p,hp,rfl⟩:=aMB.1 ha;obtain⟨q,hq,rfl⟩:=aMB.1 hb;obtain⟨h1,h2⟩:=hA p hp;rcases hN q hq with h3|h3
   ·exact h1 (e▸h3)
   ·omega
  ·rcases aMO.1 ha with ha|ha
   ·exact(aMJ.1 hnd).2.2 a (aMG _ ha) b hb e
   ·obtain⟨p,hp,rfl⟩:=aMB.1 ha;obtain⟨q,hq,rfl⟩:=aMB.1 hb;obtain⟨h1,h2⟩:=hB q hq;rcases hN p hp with h3|h3
    ·exact h1 (e▸h3)
    ·omega
 ·rcases aMO.1 hp with hp|hp
  ·rcases aMO.1 hp with hp|hp
   ·exact h.fz p (aMG _ (aMG _ hp))
   ·exact hs.fz p hp
  ·exact h.fz p (aMA _ hp)
theorem aCK{c:Operand}{xs:Array Operand}{ats:Array TypeId}{f:FuncId}{c1 c2:List Value}{vs:List Value}{A B ν:aC}{post:aA→Value→aC→Prop}{pan:Value→Prop}(ho:all[ix]?= some ⟨some d,.call {callee:=.value c,args:=xs,argTypes:=ats},ty,pos,aft,g⟩)(hc:ev σ c=some (.func (.func f) c1.toArray c2.toArray))(hxs:P1 σ xs.toList=some vs)
  (hex:X.ex=none) (hfl:fl=false∨∀p∈ν,p.1∈bad) (hu:∀p∈ν,cQ p.2) (hf:∀D,(∀D₁∈Ds,Le D₁ D)→jR P f (c1++vs++c2) D ν post pan) (hN:Nat.blt d X.N=true) (hg:cY all σ g)
  (kp:∀v D,(∀D₁∈Ds,Le D₁ D)→pan v→∀a w,Hl X σ (A++B) (D::Ds) a w→Q (.panic (lJ v)) a w)
  (kk:∀v D ν',(∀D₁∈Ds,Le D₁ D)→post D v ν'→WL P X bad all K Q os ((d,v)::σ) (A++ν'++B) (D::Ds)):
  WL P X bad all K Q ((fl,ix)::os) σ (A++ν++B) Ds:=by
 refine dP ho rfl rfl hg fun a w hh=>?_
 obtain⟨h1,h2,h3,D,h4,h5,h6⟩:=id hh;have hF:=hf D h5;have hbx:∀p∈ν,_:=fun p hp=>h4.box p (aMG _ (aMA _ hp))
 have hnd:=h4.nd;simp only[aMP]at hnd;rw[rK hF.1 (hh.eval hc) (iM (fun _ _ hx=>hh.eval hx) hxs)];refine⟨fun h=>by simp[FW]at h,dA.2 ((hF.2 w h4.agr (fun p hp=>⟨(hbx p hp).1,(hbx p hp).2.1,hu p hp⟩) (aMJ.1 (aMJ.1 hnd).1).2.1).mono ?_)⟩;rintro e w' (⟨v,D',ν',rfl,hs,hpost⟩|⟨v,D',rfl,hs,hpan⟩)
 ·have hle:=eZ h4.agr hs;refine⟨fun hflt=>⟨hs.size,fun c hc hcb=>hs.old c hc (fun hm=>?_)⟩,kk v D' ν' (fun D₁ hD₁=>(h5 D₁ hD₁).trans hle) hpost _ _ ?_⟩
  ·obtain⟨p,hp,rfl⟩:=aMB.1 hm;rcases hfl with h|h
   ·rw[hflt]at h;cases h
   ·exact hcb (h p hp)
  ·refine Hl.put ⟨h1,h2,h3,D',h4.afterG hs,fun D₁ hD₁=>?_,by unfold vU;rw[hex];trivial⟩ hN v;rcases aLX.1 hD₁ with rfl|hD₁
   ·exact Le.refl _
   ·exact(h5 D₁ hD₁).trans hle
 ·have hle:=eZ h4.agr hs;have h7:=h4.afterG hs;rw[aME]at h7;exact kp v D' (fun D₁ hD₁=>(h5 D₁ hD₁).trans hle) hpan a w' ⟨h1,h2,h3,D',h7,fun D₁ hD₁=>by
   rcases aLX.1 hD₁ with rfl|hD₁
   ·exact Le.refl _
   ·exact(h5 D₁ hD₁).trans hle,by unfold vU;rw[hex];trivial⟩
theorem _root_.Go.Fs.Zg{c:Operand}{xs:Array Operand}{ats:Array TypeId}{f:FuncId}{c1:List Value}{c2:List Value}{vs:List Value}(A:aC)(B:aC)(ν:aC){post:aA→Value→aC→Prop}{pan:Value→Prop}(e9:(all[ix]?,ev σ c,P1 σ xs.toList,X.ex)=(some ⟨some d,.call {callee:=.value c,args:=xs,argTypes:=ats},ty,pos,aft,g⟩,some (.func (.func f) c1.toArray c2.toArray),some vs,none))(hfl:fl=false∨∀p∈ν,p.1∈bad)(hu:∀p∈ν,cQ p.2)(hf:∀D,(∀D₁∈Ds,Le D₁ D)→jR P f (c1++vs++c2) D ν post pan)(kp:∀v D,(∀D₁∈Ds,Le D₁ D)→pan v→∀a w,Hl X σ (A++B) (D::Ds) a w→Q (.panic (lJ v)) a w)(kk:∀v D ν',(∀D₁∈Ds,Le D₁ D)→post D v ν'→WL P X bad all K Q os ((d,v)::σ) (A++ν'++B) (D::Ds))(hN:Nat.blt d X.N=true:=by exact rfl)(hg:cY all σ g:=by exact cW):WL P X bad all K Q ((fl,ix)::os) σ (A++ν++B) Ds:=aCK (A:=A) (B:=B) (ν:=ν) (aMQ (fun z=>z.1) e9) (aMQ (fun z=>z.2.1) e9) (aMQ (fun z=>z.2.2.1) e9) (aMQ (fun z=>z.2.2.2) e9) hfl hu hf hN hg kp kk

def i1(X:Cx)(post:aA→Value→aC→Prop)(pan:Value→Prop):Ending→World→Prop:=fun e w'=>
 (∃v D' ν',e=.returned v∧fU X.h0 X.lo X.D0 X.mods ν' D' w'∧post D' v ν')∨(∃v D',e=.panicked (lJ v)∧fU X.h0 X.lo X.D0 X.mods [] D' w'∧pan v)
theorem cZ{fn:Func}{R:Ending→World→Prop}:PI (bodyPost P fn R):=fun _ _ _ _ he h=>⟨he.trans h.1,h.2⟩
theorem dS{f:FuncId}{fn:Func}{c:Code}{args:List Value}{D:aA}{ν:aC}{post:aA→Value→aC→Prop}{pan:Value→Prop}(N:Nat)(hf:P.funcs[f]?= some fn)(hn:(fn.name== "runtime.NumGoroutine")=false)(hb:fn.body=some c)(hN:fn.ntmps=N)(hsz:Nat.ble args.length N=true)
  (h:∀h0:H0,(∀p∈ν,p.1<h0.size)→ν.ks.Nodup→WC P (mJ N h0 D ν.ks) (bodyPost P fn (i1 (mJ N h0 D ν.ks) post pan)) c (gN 0 args) ν [D]):jR P f args D ν post pan:=by
 refine⟨EF.of hf hn hb,fun w hw hν hnd=>?_⟩;subst hN;have hsz:=aOE hsz;refine(dA (r:=none) (n:=0)).1 ((callsIn_of_wp (R:=i1 (mJ fn.ntmps (hd w) D ν.ks) post pan) hf hb cW (h (hd w) (fun p hp=>bE (hν p hp).1) hnd _ w ⟨?_,fun s v hs=>?_,rfl,D,⟨aMS _,aMS _,fun _ _ _=>rfl,fun _ _=>rfl,hw,(fun p hp=>?_),hnd,(fun p hp=>(hν p hp).2.2),fun e he=>aMY he⟩,fun D₁ h1=>?_,cW⟩) rfl).mono ?_)
 ·simp[mJ];omega
 ·obtain⟨_,h2⟩:=eK args 0 s v hs;have hl:=(aMH.1 h2).1;simp only[aPY]at h2 hl;show(args.toArray++_)[s]?= some v;rw[aOT Yan];simpa using h2
 ·exact⟨(hν p hp).1,(hν p hp).2.1,aMD (aMB.2 ⟨p,hp,rfl⟩)⟩
 ·simp only[aML]at h1;subst h1;exact Le.refl _
 ·rintro e w' (⟨v,D',ν',rfl,hs,hp⟩|⟨v,D',rfl,hs,hp⟩)
  ·exact aMR ⟨v,D',ν',rfl,hs,hp⟩
  ·exact aMD ⟨v,D',rfl,hs,hp⟩
theorem dK{fn:Func}{A B ν':aC}{post:aA→Value→aC→Prop}{pan:Value→Prop}{e:Exit}(he:(match e with|.normal=>true|.ret=>true|_=>false)=true){rs:List ResultVar}{vs:List Value}(hds:X.ds=[])(hr:fn.results=rs.toArray)(h:tE P X σ (A++ν'++B) rs vs)
  (hp:∀D,(∀D₁∈Ds,Le D₁ D)→post D (nE vs) ν'):∀a w,Hl X σ (A++ν'++B) Ds a w→bodyPost P fn (i1 X post pan) e a w:=by
 intro a w hh;have hrun:=fX hh hr h;obtain⟨h1,h2,h3,D,h4,h5,h6⟩:=hh;have hnd:=h4.nd;simp only[aMP]at hnd;have:a.defers=[]∧∃v,(results fn a.tmps).run P w=.ok v w∧i1 X post pan (.returned v) w:=⟨h3.trans hds,_,hrun,aMR ⟨_,D,ν',rfl,h4.sub (fun p hp=>aMG _ (aMA _ hp)) (aMJ.1 (aMJ.1 hnd).1).2.1,hp D h5⟩⟩
 cases e<;>first|exact this|cases he
theorem cF{fn:Func}{post:aA→Value→aC→Prop}{pan:Value→Prop}{v:Value}(hds:X.ds=[])(hp:pan v):∀a w,Hl X σ μ Ds a w→bodyPost P fn (i1 X post pan) (.panic (lJ v)) a w:=by
 rintro a w ⟨h1,h2,h3,D,h4,h5,h6⟩;exact⟨h3.trans hds,aMD ⟨v,D,rfl,h4.sub (fun p hp=>by cases hp) aOH,hp⟩⟩
theorem aJU{t:TypeId}{fs:Array Field}(ho:all[ix]?= some ⟨some d,.makeInterface t x,ty,pos,aft,g⟩)(ht:P.underlying t=some (.struct fs))(hx:ev σ x=some v)(hN:Nat.blt d X.N=true)(hg:cY all σ g)(k:WL P X bad all K Q os ((d,.iface t v)::σ) μ Ds):WL P X bad all K Q ((fl,ix)::os) σ μ Ds:=
 bO ho rfl rfl hN hg (fun ρ hρ w'=>by
  simp only[execOp,hρ x _ hx];unfold Instr.makeInterface;rw[Sem.run_bind,Sem.run_bind,TU.of ht w'];rfl) k
theorem aDO{t:TypeId}{v:Value}(ho:all[ix]?= some ⟨none,.panic x,ty,pos,aft,g⟩)(hx:ev σ x=some (.iface t v))(hg:cY all σ g)(k:∀a w,Hl X σ μ Ds a w→Q (.panic (lJ (.iface t v))) a w):WL P X bad all K Q ((fl,ix)::os) σ μ Ds:=by
 refine dP ho rfl rfl hg fun a w hh=>?_
 have e:(execOp a.eval ⟨none,.panic x,ty,pos,aft,g⟩).run P w=.halt (.panic (.iface t v)) w:=by
  simp only[execOp,hh.eval hx,Instr.panic];rfl
 rw[e];exact k a w hh
theorem fG{D:aA}{b:Nat}{l:List Bool}{R:Rd Bool}(hR:∀D x cs,cs=[Value.bool x]→R D x cs)(hA:At D b 0 (l.map Value.bool))(hl:l.length≤1000):Sl D R 1 (.slice (some ⟨b,0,none⟩) l.length l.length) l:=by
 refine⟨_,_,rfl,aMS _,by omega,aMD ⟨b,0,rfl,fun i x hi=>⟨_,hR _ _ _ rfl,rfl,fun j v hj=>?_⟩⟩⟩;cases j with
 |zero=>
  obtain rfl:Value.bool x=v:=by simpa using hj
  have h:=hA i (.bool x) (by rw[aNB,hi];rfl);simpa using h
 |succ j=>simp at hj
theorem jR.frame{f:FuncId}{args:List Value}{D:aA}{ν A B:aC}{post post':aA→Value→aC→Prop}{pan:Value→Prop}(h:jR P f args D ν post pan)(h1:∀D' v ν',Le D D'→post D' v ν'→post' D' v (A++ν'++B)):jR P f args D (A++ν++B) post' pan:=by
 refine⟨h.1,fun w hw hν hn=>?_⟩;have hnd:=hn;unfold aC.ks at hnd;simp only[aMP]at hnd;refine(h.2 w hw (fun p hp=>hν p (aMG _ (aMA _ hp))) (aMJ.1 (aMJ.1 hnd).1).2.1).mono ?_;have hst:fU (hd w) w.heap.size D (A++ν++B).ks (A++ν++B) D w:=by
  refine⟨aMS _,aMS _,fun _ _ _=>rfl,fun _ _=>rfl,hw,fun p hp=>⟨(hν p hp).1,(hν p hp).2.1,aMD (aMB.2 ⟨p,hp,rfl⟩)⟩,hn,(fun p hp=>(hν p hp).2.2),fun e he=>aMY he⟩
 rintro e w' (⟨v,D',ν',he,hs,hp⟩|⟨v,D',he,hs,hp⟩)
 ·exact aMR ⟨v,D',A++ν'++B,he,hst.afterG hs,h1 _ _ _ (eZ hw hs) hp⟩
 ·have h7:=hst.afterG hs;exact aMD ⟨v,D',he,h7.sub (fun p hp=>by cases hp) aOH,hp⟩
theorem aAF{t e tr:TypeId}{a:Option Addr}{n c:Nat}{ats:Array TypeId}(ho:all[ix]?= some ⟨some d,.call {callee:=.builtin .len,args:=#[x],argTypes:=ats},tr,pos,aft,g⟩)(ht:P.underlying t=some (.slice e))(hx:ev σ x=some v)(hv:v=.slice a n c)(h0:ats[0]?= some t)
  (hN:Nat.blt d X.N=true) (hg:cY all σ g) (kk:WL P X bad all K Q os ((d,.int .i64 (n:Int))::σ) μ Ds):WL P X bad all K Q ((fl,ix)::os) σ μ Ds:=by
 subst hv;exact iR ho ht hx h0 hN hg kk
theorem gP{t tr:TypeId}{b:ByteArray}{ats:Array TypeId}(ho:all[ix]?= some ⟨some d,.call {callee:=.builtin .len,args:=#[x],argTypes:=ats},tr,pos,aft,g⟩)(ht:P.underlying t=some .string)(hx:ev σ x=some (.string b))(hat:ats[0]?= some t)
  (hN:Nat.blt d X.N=true) (hg:cY all σ g) (kk:WL P X bad all K Q os ((d,.int .i64 (b.size:Int))::σ) μ Ds):WL P X bad all K Q ((fl,ix)::os) σ μ Ds:=
 bO ho rfl rfl hN hg (fun ρ hρ w'=>by
  have hx':=hρ x _ hx;simp[Builtin.len_,hat,hx',Sem.run_bind,TU.of ht w',goInt,Sem.run_pure,go_sem]) kk
end Go.Fs
namespace Go.Fs
namespace C12
structure aH where
 row:C1.dH
 table:C2.aY
 book:C3.aZ
 yard:C7.bJ
end C12
open C12
def RB:Rd Bool:=fun _ b cs=>cs=[.bool b]
theorem RB.up:RB.Up:=fun _ _ _ h=>h
def RS:Rd ByteArray:=fun _ b cs=>cs=[.string b]
theorem RS.up:RS.Up:=fun _ _ _ h=>h
def bX(s:aH)(pv cv hv lv mv bl bc yc yq:Value):List Value:=
 [pv,cv,.int .i64 s.row.wrong,.int .i64 s.row.off,.int .i64 s.table.last,hv,.int .i64 s.table.step,lv,mv,.int .i64 s.book.chairs,.int .i64 s.book.coin,.int .i64 s.book.box,bl,bc,yc,.int .i64 s.yard.fit,yq]
@[simp] theorem stC_len(s:aH)(pv cv hv lv mv bl bc yc yq:Value):(bX s pv cv hv lv mv bl bc yc yq).length=17:=rfl
structure gW(D:aA)(s:aH)(pv cv hv lv mv bl bc yc yq:Value):Prop where
 pl:Sl D RI 1 pv s.row.places
 ct:Sl D RC 3 cv s.row.counts
 ht:Sl D I2 2 hv s.table.heights
 lev:Sl D RI 1 lv s.table.levels
 mks:Sl D EY 4 mv s.table.marks
 ln:Sl D pB 3 bl s.book.lines
 cn:Sl D qQ 3 bc s.book.counts
 ch:Sl D sK 4 yc s.yard.chairs
 cl:Sl D R2 2 yq s.yard.claims
theorem gW.up{D D':aA}{s:aH}{pv cv hv lv mv bl bc yc yq:Value}(h:gW D s pv cv hv lv mv bl bc yc yq)(hl:Le D D'):gW D' s pv cv hv lv mv bl bc yc yq:=
 ⟨h.pl.up RI.up hl,h.ct.up RC.up hl,h.ht.up I2.up hl,h.lev.up RI.up hl,h.mks.up EY.up hl,h.ln.up pB.up hl,h.cn.up qQ.up hl,h.ch.up sK.up hl,h.cl.up R2.up hl⟩
def fV(D:aA)(v:Value)(s:aH):Prop:=∃pv cv hv lv mv bl bc yc yq,v=.agg (bX s pv cv hv lv mv bl bc yc yq).toArray∧gW D s pv cv hv lv mv bl bc yc yq
theorem fV.up{D D':aA}{v:Value}{s:aH}(h:fV D v s)(hl:Le D D'):fV D' v s:=by
 obtain⟨pv,cv,hv,lv,mv,bl,bc,yc,yq,e,h1⟩:=h;exact⟨pv,cv,hv,lv,mv,bl,bc,yc,yq,e,h1.up hl⟩
theorem gW.row{D:aA}{s:aH}{pv cv hv lv mv bl bc yc yq:Value}(h:gW D s pv cv hv lv mv bl bc yc yq):lS D (.agg #[pv,cv,.int .i64 s.row.wrong,.int .i64 s.row.off]) s.row:=⟨pv,cv,rfl,h.pl,h.ct⟩
theorem gW.table{D:aA}{s:aH}{pv cv hv lv mv bl bc yc yq:Value}(h:gW D s pv cv hv lv mv bl bc yc yq):gI D (.agg #[.int .i64 s.table.last,hv,.int .i64 s.table.step,lv,mv]) s.table:=⟨hv,lv,mv,rfl,h.ht,h.lev,h.mks⟩
theorem gW.book{D:aA}{s:aH}{pv cv hv lv mv bl bc yc yq:Value}(h:gW D s pv cv hv lv mv bl bc yc yq):fJ D (.agg #[.int .i64 s.book.chairs,.int .i64 s.book.coin,.int .i64 s.book.box,bl,bc]) s.book:=⟨bl,bc,rfl,h.ln,h.cn⟩
theorem gW.yard{D:aA}{s:aH}{pv cv hv lv mv bl bc yc yq:Value}(h:gW D s pv cv hv lv mv bl bc yc yq):kR D (.agg #[yc,.int .i64 s.yard.fit,yq]) s.yard:=⟨yc,yq,rfl,h.ch,h.cl⟩
end Go.Fs
namespace Go.Fs
open Go.Proofs
namespace L1
open C1
theorem gZ{α:Type}{p:α→Bool}{xs:List α}{k:Nat}{x:α}(hx:xs[k]?= some x)(h:(xs.take k).any p=false)(hp:p x=true):idxOf p xs=k:=by
 have hk:=(aMH.1 hx).1;have he:=(aMH.1 hx).2;have h1:xs.any p=true:=aPT.2 ⟨x,aLW hx,hp⟩;have h2:xs.findIdx p=k:=by
  rw[List.findIdx_eq hk];refine⟨by rw[he];exact hp,fun j hj=>?_⟩
  have:=List.any_eq_false.1 h (xs[j]'Yd) (by
   rw[List.mem_take_iff_getElem];exact⟨j,by omega,rfl⟩)
  simpa using this
 simp[idxOf,h1,h2]
theorem fA{α:Type}{p:α→Bool}{xs:List α}(h:xs.any p=false):idxOf p xs= -1:=by simp[idxOf,h]
theorem gX{α:Type}{p:α→Bool}{xs:List α}:decide (0≤idxOf p xs)=xs.any p:=by
 unfold idxOf;cases h:xs.any p<;>simp
theorem kM{α:Type}{p:α→Bool}{xs:List α}:(!xs.any fun x=> !p x)=xs.all p:=by
 rw[List.all_eq_not_any_not]
theorem dR(n lo hi:Int)(D:aA):Fn Tryz.prog 126 #[.int .i64 n,.int .i64 lo,.int .i64 hi] D (fun _ v=>v=.bool (fP n lo hi)):=by
 refine enter 15 Tryz.func126 rfl rfl rfl rfl fun h0=>C.s1<|Zi rfl<|L.n3<|Za rfl<|Za rfl<|iW rfl rfl rfl rfl trivial<|Za rfl ?_
 refine' L.anK 4 (s:=10) (p:=14) rfl (fun hg1=>?_) (fun hg1=>?_) ?_;rotate_left
 ·refine Zb rfl<|Zb rfl<|iW rfl rfl rfl rfl ⟨_,rfl,rfl⟩<|Zy rfl ?_;exact L.cu 3
 ·refine Zh rfl<|Zh rfl<|Zh rfl<|Zz rfl ?_;exact L.cu 3
 refine Zi rfl<|L.n5 ?_;exact leave1 rfl rfl rfl rfl (fun D hD=>rfl)
theorem YV(n:Int)(D:aA):Fn Tryz.prog 131 #[iV n] D (fun _ v=>v=.bool (nU n)):=by
 refine enter 5 Tryz.func131 rfl rfl rfl rfl fun h0=>C.s1<|Zi rfl<|L.n3<|Za rfl<|Ze rfl (fun D1 hD1=>dR _ _ _ _)<|Zi rfl<|L.n5 ?_
 exact leave1 rfl rfl rfl rfl (fun D hD=>rfl)
theorem YR(rv:Value)(r:dH)(c:sQ)(D:aA)(hr:lS D rv r):Fn Tryz.prog 129 #[rv,cV c] D (fun _ v=>v=.bool (mM r.places.length c)):=by
 obtain⟨pv,cv,rfl,hp,hc⟩:=hr;refine enter 16 Tryz.func129 rfl rfl rfl rfl fun h0=>C.s1<|Zt rfl (fun q1 E1 hE1 hB1=>Zt rfl (fun q2 E2 hE2 hB2=>Zi rfl<|L.n3<|Zj rfl Tf.f156_1 rfl<|Zc 1 rfl Tf.a3 rfl hB2 rfl<|Zj rfl Tf.f28_0 rfl<|Zc 0 rfl Tf.a25 rfl hB1 rfl<|aO rfl U25 rfl Yk rfl rfl trivial<|Ze rfl (fun D1 hD1=>dR _ _ _ _) ?_));refine Za rfl ?_
 refine' L.anK 4 (s:=11) (p:=15) rfl (fun hg1=>?_) (fun hg1=>?_) ?_;rotate_left
 ·refine Zk rfl Tf.f156_2 rfl<|Zd 2 rfl Tf.a3 rfl hB2 rfl<|Zf rfl (fun D2 hD2=>dR _ _ _ _)<|Zy rfl ?_;exact L.cu 3
 ·refine Zh rfl<|Zh rfl<|Zh rfl<|Zz rfl ?_;exact L.cu 3
 refine Zi rfl<|L.n5 ?_;exact leave1 rfl rfl rfl rfl (fun D hD=>rfl)
theorem pS(sv fv:Value)(xs:List Int)(p:Int→Bool)(D:aA)(hS:Sl D RI 1 sv xs)(hp:cN Tryz.prog D iV fv p):
  Fn Tryz.prog 271 #[sv,fv] D (fun _ v=>v=.int .i64 (idxOf p xs)):=by
 have hl:=hS.len;obtain⟨f,c1,c2,rfl,hf⟩:=hp;refine enter 19 Tryz.func271 rfl rfl rfl rfl fun h0=>C.s1<|Zi rfl<|L.n4<|Za rfl<|aO rfl U25 rfl Yk rfl rfl trivial<|Za rfl<|L.n1<|Zai<|bT (γ:=Nat) (fun k=>xs.length-k) (fun k=>k≤xs.length∧(xs.take k).any p=false) (fun k=>[(8,.int .i64 k)]) [(7,_),(4,_),(0,_),(1,_)] (fun k=>[D]) 0 Ye ⟨Ya,cW⟩ C.rs (aD) ?_
 rintro k ⟨h1,h2⟩;refine C.s1<|Zac rfl<|L.n2<|aE rfl (fun hc1=>?_) (fun hc1=>?_)
 ·have hk:k<xs.length:=by omega
  obtain⟨x,hx⟩:=C.ge xs k;refine C.kn<|aK<|Zai<|C.s1<|Za rfl<|Zi rfl<|L.n3<|Za rfl<|Za rfl<|Za rfl<|cT rfl U25 Tf.s3 rfl Yk rfl Yd Yk rfl cW (fun b1 o1 cs1 hr1 hcl1 hA1=>?_);obtain rfl:cs1=[.int .i64 _]:=hr1;refine Zc 0 rfl Tf.a3 rfl hA1 rfl<|Ze rfl (fun D1 hD1=>hf x _ (hD1 _ Ye))<|L.n1<|aI rfl (fun hc2=>?_) (fun hc2=>?_)
  ·refine C.s1<|Za rfl<|Zi rfl<|L.n5<|Zal<|Zah<|Zah<|Zal<|Zah ?_;exact leave1 rfl rfl rfl rfl (fun D hD=>by show Value.int _ _=_;rw[gZ hx h2 hc2])
  ·refine bB<|Zak<|Zag<|C.rg<|Zw rfl<|Za rfl<|Zaa ?_;have hpx:p x=false:=hc2;have h3:(xs.take (k+1)).any p=false:=by rw[aMN,hx,aOY,h2];simp[hpx]
   exact aG 12 (k+1) ⟨by omega,h3⟩ Yd ⟨Ya,cW⟩ rfl rfl (LT _) (aD)
 ·refine aP<|Zaj<|Zaj<|Zam<|Zag<|C.s1<|Zi rfl<|L.n5 ?_;exact leave1 rfl rfl rfl rfl (fun D hD=>by show Value.int _ _=_;rw[fA Yac])
theorem jP(sv fv:Value)(xs:List Int)(p:Int→Bool)(D:aA)(hS:Sl D RI 1 sv xs)(hp:cN Tryz.prog D iV fv p):
  Fn Tryz.prog 206 #[sv,fv] D (fun _ v=>v=.bool (xs.any p)):=by
 refine enter 9 Tryz.func206 rfl rfl rfl rfl fun h0=>C.s1<|Zi rfl<|L.n3<|Za rfl<|Za rfl<|Ze rfl (fun D1 hD1=>pS _ _ xs p _ (Sl.at RI.up hD1 Yk Ye) (hp.up (hD1 _ Ye)))<|oT rfl rfl rfl rfl trivial<|Zi rfl<|L.n5 ?_
 exact leave1 rfl rfl rfl rfl (fun D hD=>by show Value.bool (decide _)=_;rw[gX])
theorem uN(b:Nat)(fv:Value)(p:Int→Bool)(x:Int)(D:aA)(hp:cN Tryz.prog D iV fv p)(hB:At D b 0 [fv]):
  Fn Tryz.prog 207 #[iV x,.pointer (some ⟨b,0,none⟩)] D (fun _ v=>v=.bool (!p x)):=by
 obtain⟨f,c1,c2,rfl,hf⟩:=hp;refine enter 8 Tryz.func207 rfl rfl rfl rfl fun h0=>C.s1<|Zi rfl<|L.n3<|Zc 0 rfl Tf.a191 rfl hB rfl<|Za rfl<|Ze rfl (fun D1 hD1=>hf x _ (hD1 _ Ye))<|Zae rfl<|Zi rfl<|L.n5 ?_
 exact leave1 rfl rfl rfl rfl (fun D hD=>rfl)
theorem xY(sv fv:Value)(xs:List Int)(p:Int→Bool)(D:aA)(hS:Sl D RI 1 sv xs)(hp:cN Tryz.prog D iV fv p)(h1:fv.cells=#[fv]):
  Fn Tryz.prog 130 #[sv,fv] D (fun _ v=>v=.bool (xs.all p)):=by
 refine enter 9 Tryz.func130 rfl rfl rfl rfl fun h0=>C.s1<|mX (vs:=[fv]) rfl rfl h1 rfl cW (fun b D1 hD1 hB=>Zi rfl<|L.n3<|Za rfl<|bH rfl rfl rfl rfl trivial<|Ze rfl (fun D1 hD1=>jP _ _ xs (fun x=> !p x) _ (Sl.at RI.up hD1 Yk Ye) ⟨_,[],[.pointer (some ⟨b,0,none⟩)],rfl,fun x D2 hl=>uN b fv p x D2 (hp.up ((hD1 _ Ye).trans hl)) (hB.up ((hD1 _ Ye).trans hl))⟩)<|Zae rfl<|Zi rfl<|L.n5 ?_)
 exact leave1 rfl rfl rfl rfl (fun D hD=>by show Value.bool (!_)=_;rw[kM])
theorem pR(sv fv:Value)(xs:List sQ)(p:sQ→Bool)(D:aA)(hS:Sl D RC 3 sv xs)(hp:cN Tryz.prog D cV fv p):
  Fn Tryz.prog 272 #[sv,fv] D (fun _ v=>v=.int .i64 (idxOf p xs)):=by
 have hl:=hS.len;obtain⟨f,c1,c2,rfl,hf⟩:=hp;refine enter 19 Tryz.func272 rfl rfl rfl rfl fun h0=>C.s1<|Zi rfl<|L.n4<|Za rfl<|aO rfl U26 rfl Yk rfl rfl trivial<|Za rfl<|L.n1<|Zai<|bT (γ:=Nat) (fun k=>xs.length-k) (fun k=>k≤xs.length∧(xs.take k).any p=false) (fun k=>[(8,.int .i64 k)]) [(7,_),(4,_),(0,_),(1,_)] (fun k=>[D]) 0 Ye ⟨Ya,cW⟩ C.rs (aD) ?_
 rintro k ⟨h1,h2⟩;refine C.s1<|Zac rfl<|L.n2<|aE rfl (fun hc1=>?_) (fun hc1=>?_)
 ·have hk:k<xs.length:=by omega
  obtain⟨x,hx⟩:=C.ge xs k;refine C.kn<|aK<|Zai<|C.s1<|Za rfl<|Zi rfl<|L.n3<|Za rfl<|Za rfl<|Za rfl<|cT rfl U26 Tf.s156 rfl Yk rfl Yd Yk rfl cW (fun b1 o1 cs1 hr1 hcl1 hA1=>?_);obtain rfl:cs1=[.bool _,.int .i64 _,.int .i64 _]:=hr1;refine Zq rfl Tf.a156 rfl hA1 Tf.s156<|Ze rfl (fun D1 hD1=>hf x _ (hD1 _ Ye))<|L.n1<|aI rfl (fun hc2=>?_) (fun hc2=>?_)
  ·refine C.s1<|Za rfl<|Zi rfl<|L.n5<|Zal<|Zah<|Zah<|Zal<|Zah ?_;exact leave1 rfl rfl rfl rfl (fun D hD=>by show Value.int _ _=_;rw[gZ hx h2 hc2])
  ·refine bB<|Zak<|Zag<|C.rg<|Zw rfl<|Za rfl<|Zaa ?_;have hpx:p x=false:=hc2;have h3:(xs.take (k+1)).any p=false:=by rw[aMN,hx,aOY,h2];simp[hpx]
   exact aG 12 (k+1) ⟨by omega,h3⟩ Yd ⟨Ya,cW⟩ rfl rfl (LT _) (aD)
 ·refine aP<|Zaj<|Zaj<|Zam<|Zag<|C.s1<|Zi rfl<|L.n5 ?_;exact leave1 rfl rfl rfl rfl (fun D hD=>by show Value.int _ _=_;rw[fA Yac])
theorem lT(sv fv:Value)(xs:List sQ)(p:sQ→Bool)(D:aA)(hS:Sl D RC 3 sv xs)(hp:cN Tryz.prog D cV fv p):
  Fn Tryz.prog 208 #[sv,fv] D (fun _ v=>v=.bool (xs.any p)):=by
 refine enter 9 Tryz.func208 rfl rfl rfl rfl fun h0=>C.s1<|Zi rfl<|L.n3<|Za rfl<|Za rfl<|Ze rfl (fun D1 hD1=>pR _ _ xs p _ (Sl.at RC.up hD1 Yk Ye) (hp.up (hD1 _ Ye)))<|oT rfl rfl rfl rfl trivial<|Zi rfl<|L.n5 ?_
 exact leave1 rfl rfl rfl rfl (fun D hD=>by show Value.bool (decide _)=_;rw[gX])
theorem P5(b:Nat)(fv:Value)(p:sQ→Bool)(x:sQ)(D:aA)(hp:cN Tryz.prog D cV fv p)(hB:At D b 0 [fv]):
  Fn Tryz.prog 209 #[cV x,.pointer (some ⟨b,0,none⟩)] D (fun _ v=>v=.bool (!p x)):=by
 obtain⟨f,c1,c2,rfl,hf⟩:=hp;refine enter 8 Tryz.func209 rfl rfl rfl rfl fun h0=>C.s1<|Zt rfl (fun q1 E1 hE1 hB1=>Zi rfl<|L.n3<|Zc 0 rfl Tf.a268 rfl hB rfl<|Zq rfl Tf.a156 rfl hB1 Tf.s156<|Ze rfl (fun D1 hD1=>hf x _ (hD1 _ Ye))<|Zae rfl<|Zi rfl<|L.n5 ?_)
 exact leave1 rfl rfl rfl rfl (fun D hD=>rfl)
theorem l7(sv fv:Value)(xs:List sQ)(p:sQ→Bool)(D:aA)(hS:Sl D RC 3 sv xs)(hp:cN Tryz.prog D cV fv p)(h1:fv.cells=#[fv]):
  Fn Tryz.prog 132 #[sv,fv] D (fun _ v=>v=.bool (xs.all p)):=by
 refine enter 9 Tryz.func132 rfl rfl rfl rfl fun h0=>C.s1<|mX (vs:=[fv]) rfl rfl h1 rfl cW (fun b D1 hD1 hB=>Zi rfl<|L.n3<|Za rfl<|bH rfl rfl rfl rfl trivial<|Ze rfl (fun D1 hD1=>lT _ _ xs (fun x=> !p x) _ (Sl.at RC.up hD1 Yk Ye) ⟨_,[],[.pointer (some ⟨b,0,none⟩)],rfl,fun x D2 hl=>P5 b fv p x D2 (hp.up ((hD1 _ Ye).trans hl)) (hB.up ((hD1 _ Ye).trans hl))⟩)<|Zae rfl<|Zi rfl<|L.n5 ?_)
 exact leave1 rfl rfl rfl rfl (fun D hD=>by show Value.bool (!_)=_;rw[kM])
theorem R9(sv:Value)(x:Int)(xs:List Int)(D:aA)(hS:Sl D RI 1 sv (x::xs)):
  Fn Tryz.prog 211 #[sv] D (fun _ v=>v=.int .i64 (xs.foldl min x)):=by
 have hl:=hS.len;simp only[aMI]at hl;refine enter 25 Tryz.func211 rfl rfl rfl rfl fun h0=>C.s1<|Zi rfl<|L.n4<|Za rfl<|aO rfl U25 rfl Yk rfl rfl trivial<|Zac rfl<|L.n1<|aE rfl (fun hc1=>?_) (fun hc1=>?_)
 ·exact absurd hc1 (by simp only[aMI];omega)
 ·refine C.kn<|C.s1<|Za rfl<|cT rfl U25 Tf.s3 rfl Yk rfl Yd (by rfl) rfl cW (fun b1 o1 cs1 hr1 hcl1 hA1=>?_);obtain rfl:cs1=[.int .i64 _]:=hr1;refine Zc 0 rfl Tf.a3 rfl hA1 rfl<|Zi rfl<|L.n4<|Zi rfl<|L.n1<|Zai<|bT (γ:=Nat) (fun k=>xs.length-k) (fun k=>k≤xs.length) (fun k=>[(3,.int .i64 ((xs.take k).foldl min x)),(4,.int .i64 (k+1:Int))]) [(2,_),(0,_)] (fun k=>[D]) 0 Yd ⟨Ya,Ya,cW⟩ C.rs (aD) ?_;rintro k h1;refine C.s2<|Za rfl<|Za rfl<|aO rfl U25 rfl Yk rfl rfl trivial<|Zac rfl<|L.n1<|aE rfl (fun hc2=>?_) (fun hc2=>?_)
  ·simp only[aMI]at hc2;have hk:k<xs.length:=by omega
   obtain⟨y,hy⟩:=C.ge xs k;have hy2:(x::xs)[(k+1:Int).toNat]?= some y:=by rw[show((k:Int)+1).toNat=k+1 by omega];simpa using hy
   refine C.kn<|aK<|Zai<|C.rg<|Za rfl<|Za rfl<|Za rfl<|cT rfl U25 Tf.s3 rfl Yk rfl Yd Yk rfl cW (fun b2 o2 cs2 hr2 hcl2 hA2=>?_);obtain rfl:cs2=[.int .i64 _]:=hr2;refine Zc 0 rfl Tf.a3 rfl hA2 rfl<|aAU rfl rfl rfl rfl trivial<|Zi rfl<|Zaa<|Zak<|Zag<|C.rg<|Za rfl<|Zw rfl<|Zi rfl<|Zaa ?_;have h3:(xs.take (k+1)).foldl min x=min ((xs.take k).foldl min x) y:=by rw[aMN,hy,aOA];rfl
   exact aG 16 (k+1) Yd Yd ⟨(by rw[h3];rfl),Ya,cW⟩ rfl rfl (LT _) (aD)
  ·simp only[aMI]at hc2;refine aP<|Zaj<|Zaj<|Zam<|Zag<|C.s1<|Za rfl<|Zi rfl<|L.n5 ?_;exact leave1 rfl rfl rfl rfl (fun D hD=>by show Value.int _ _=_;rw[aNA Yd])
theorem jG(sv:Value)(x:Int)(xs:List Int)(D:aA)(hS:Sl D RI 1 sv (x::xs)):
  Fn Tryz.prog 136 #[sv] D (fun _ v=>v=.int .i64 (xs.foldl min x)):=by
 refine enter 5 Tryz.func136 rfl rfl rfl rfl fun h0=>C.s1<|Zi rfl<|L.n3<|Za rfl<|Ze rfl (fun D1 hD1=>R9 _ x xs _ (Sl.at RI.up hD1 Yk Ye))<|Zi rfl<|L.n5 ?_
 exact leave1 rfl rfl rfl rfl (fun D hD=>rfl)
end L1
end Go.Fs
namespace Go.Fs
open Go.Proofs
namespace L1
open C1
theorem FN{r:dH}(h:(decide ((9:Int)<r.places.length)||decide ((6:Int)<r.counts.length))=true):aU r=3:=by
 simp only[aNR,aMV]at h;unfold aU;rw[aMT Yd]
theorem j3{r:dH}{b:Bool}(h:(decide ((9:Int)<r.places.length)||decide ((6:Int)<r.counts.length))=false)
  (h2:((((decide ((r.places.length:Int)=0)|| !fP r.wrong 0 6)|| !fP r.off 0 9)|| !r.places.all nU)|| !r.counts.all (mM r.places.length))=b):aU r=if b then 1 else 0:=by
 simp only[aOM,aNV]at h;unfold aU;rw[aMM Yd]
 subst h2;by_cases h1:r.places.length=0<;>cases fP r.wrong 0 6<;>cases fP r.off 0 9<;>cases r.places.all nU<;>cases r.counts.all (mM r.places.length)<;>simp[h1]
theorem C5{r:dH}(h:(decide ((9:Int)<r.places.length)||decide ((6:Int)<r.counts.length))=false)
  (h2:((((decide ((r.places.length:Int)=0)|| !fP r.wrong 0 6)|| !fP r.off 0 9)|| !r.places.all nU)|| !r.counts.all (mM r.places.length))=true):aU r=1:=j3 h h2
theorem qK{r:dH}(h:(decide ((9:Int)<r.places.length)||decide ((6:Int)<r.counts.length))=false)
  (h2:((((decide ((r.places.length:Int)=0)|| !fP r.wrong 0 6)|| !fP r.off 0 9)|| !r.places.all nU)|| !r.counts.all (mM r.places.length))=false):aU r=0:=j3 h h2
theorem BU{r:dH}{t:List Int}{k:Nat}{x:sQ}(hx:r.counts[k]?= some x)(h2:(r.counts.take k).all (fun c=>decide (hZ t c≤r.off))=true)(h:¬r.off<hZ t x):(r.counts.take (k+1)).all (fun c=>decide (hZ t c≤r.off))=true:=by
 rw[aMN,hx,List.all_append,h2];simp;omega
theorem CW{r:dH}{t:List Int}{k:Nat}{x:sQ}(hx:r.counts[k]?= some x)(hb:0≤hZ t x∧hZ t x≤9):
  ((((r.counts.take (k+1)).filter fun c=>decide (0<hZ t c)).length:Nat):Int)=((r.counts.take k).filter fun c=>decide (0<hZ t c)).length+ [1].foldl min (hZ t x):=by
 rw[aMN,hx,aOX,aLY];by_cases h:0<hZ t x
 ·simp[h];omega
 ·simp[h];omega
theorem XM{r:dH}{t:List Int}{x:sQ}(hx:x∈r.counts)(h:r.off<hZ t x):eC r t=false:=by
 unfold eC;rw[List.all_eq_false];exact⟨x,hx,by simp;omega⟩
theorem SI{r:dH}{t:List Int}(h:r.counts.all (fun c=>decide (hZ t c≤r.off))=true):eC r t=true:=h
open C1
theorem E0(rv:Value)(r:dH)(D:aA)(hr:lS D rv r):Fn Tryz.prog 76 #[rv] D (fun _ v=>v=.int .i64 (aU r)):=by
 obtain⟨pv,cv,rfl,hp,hc⟩:=hr;refine enter 47 Tryz.func76 rfl rfl rfl rfl fun h0=>C.s1<|Zt rfl (fun q1 E1 hE1 hB1=>Zi rfl<|L.n3<|Zq rfl Tf.a28 rfl hB1 Tf.s28<|bH rfl rfl rfl rfl trivial<|Zi rfl<|L.n2<|Zai<|C.s1<|Zj rfl Tf.f28_0 rfl ?_);refine Zc 0 rfl Tf.a25 rfl hB1 rfl<|aO rfl U25 rfl Yk rfl rfl trivial<|dZ rfl rfl rfl rfl trivial<|Za rfl ?_
 refine' L.orK 5 (s:=11) (p:=16) rfl (fun hg1=>?_) (fun hg1=>?_) ?_;rotate_left
 ·refine Zk rfl Tf.f28_1 rfl<|Zd 1 rfl Tf.a26 rfl hB1 rfl<|aO rfl U26 rfl Yk rfl rfl ⟨_,rfl,rfl⟩<|dZ rfl rfl rfl rfl ⟨_,rfl,rfl⟩<|Zz rfl ?_;exact L.cu 4
 ·refine Zh rfl<|Zh rfl<|Zh rfl<|Zh rfl<|Zy rfl ?_;exact L.cu 4
 refine Zi rfl<|L.n1<|aI rfl (fun hc1=>?_) (fun hc1=>?_)
 ·refine C.s1<|Zi rfl<|L.n5<|Zal<|Zah ?_;exact leave1 rfl rfl rfl rfl (fun D hD=>by show Value.int _ _=_;rw[FN hc1])
 ·refine C.s1<|Zj rfl Tf.f28_0 rfl<|Zc 0 rfl Tf.a25 rfl hB1 rfl<|aO rfl U25 rfl Yk rfl rfl trivial<|dU rfl rfl rfl rfl trivial<|Za rfl ?_;refine' L.orK 5 (s:=22) (p:=27) rfl (fun hg2=>?_) (fun hg2=>?_) ?_;rotate_left
  ·refine Zk rfl Tf.f28_2 rfl<|Zd 2 rfl Tf.a3 rfl hB1 rfl<|Zf rfl (fun D1 hD1=>dR _ _ _ _)<|jD rfl rfl rfl ⟨_,rfl,rfl⟩<|Zz rfl ?_;exact L.cu 4
  ·refine Zh rfl<|Zh rfl<|Zh rfl<|Zh rfl<|Zy rfl ?_;exact L.cu 4
  refine Za rfl ?_;refine' L.orK 5 (s:=28) (p:=33) rfl (fun hg3=>?_) (fun hg3=>?_) ?_;rotate_left
  ·refine Zk rfl Tf.f28_3 rfl<|Zd 3 rfl Tf.a3 rfl hB1 rfl<|Zf rfl (fun D2 hD2=>dR _ _ _ _)<|jD rfl rfl rfl ⟨_,rfl,rfl⟩<|Zz rfl ?_;exact L.cu 4
  ·refine Zh rfl<|Zh rfl<|Zh rfl<|Zh rfl<|Zy rfl ?_;exact L.cu 4
  refine Za rfl ?_;refine' L.orK 5 (s:=34) (p:=39) rfl (fun hg4=>?_) (fun hg4=>?_) ?_;rotate_left
  ·refine Zk rfl Tf.f28_0 rfl<|Zd 0 rfl Tf.a25 rfl hB1 rfl<|Zf rfl (fun D3 hD3=>xY _ _ _ nU _ (Sl.at RI.up hD3 Yk Ye) (.of fun x D2=>YV x D2) rfl)<|jD rfl rfl rfl ⟨_,rfl,rfl⟩<|Zz rfl ?_;exact L.cu 4
  ·refine Zh rfl<|Zh rfl<|Zh rfl<|Zh rfl<|Zy rfl ?_;exact L.cu 4
  refine Za rfl ?_;refine' L.orK 6 (s:=40) (p:=46) rfl (fun hg5=>?_) (fun hg5=>?_) ?_;rotate_left
  ·refine Zk rfl Tf.f28_1 rfl<|Zd 1 rfl Tf.a26 rfl hB1 rfl<|Zb rfl<|Zf rfl (fun D4 hD4=>l7 _ _ _ (mM r.places.length) _ (Sl.at RC.up hD4 Yk Ye) ⟨_,[_],[],rfl,fun c D2 hl=>YR _ r c D2 ⟨_,_,rfl,hp.up RI.up ((hD4 _ Ye).trans hl),hc.up RC.up ((hD4 _ Ye).trans hl)⟩⟩ rfl)<|jD rfl rfl rfl ⟨_,rfl,rfl⟩<|Zz rfl ?_;exact L.cu 5
  ·refine Zh rfl<|Zh rfl<|Zh rfl<|Zh rfl<|Zh rfl<|Zy rfl ?_;exact L.cu 5
  refine Zi rfl<|L.n1<|aI rfl (fun hc2=>?_) (fun hc2=>?_)
  ·refine C.s1<|Zi rfl<|L.n5<|Zal<|Zah ?_;exact leave1 rfl rfl rfl rfl (fun D hD=>by show Value.int _ _=_;rw[C5 hc1 hc2])
  ·refine bB<|Zak<|Zag<|C.s1<|Zi rfl<|L.n5 ?_;exact leave1 rfl rfl rfl rfl (fun D hD=>by show Value.int _ _=_;rw[qK hc1 hc2])
theorem aDS(c:List Int)(h9:c.length=9)(hb:∀x∈c,0≤x∧x≤1)(D:aA):Fn Tryz.prog 79 #[.agg (ints c).toArray] D (fun _ v=>v=.agg (ints (jW c)).toArray):=by
 refine enter 20 Tryz.func79 rfl rfl rfl rfl fun h0=>C.s1<|Zt rfl (fun q1 E1 hE1 hB1=>Zv rfl Tf.z186 rfl (fun q2=>L.n4<|Zq rfl Tf.a179 rfl hB1 Yy<|Za rfl<|L.n1<|Zai<|cK (γ:=Nat) (fun k=>9-k) (fun k=>k≤9) (fun k=>[(6,.int .i64 (k:Int))]) [(5,_),(2,_)] (fun k=>[(q2,.cells (ints (mD c k)).toArray 186 (0,0))]) (fun k=>[E1,D]) 0 Yd ⟨Ya,cW⟩ C.rs (LT _) (aD) ?_))
 rintro k h1;refine C.s1<|Zac rfl<|L.n2<|aE rfl (fun hc1=>?_) (fun hc1=>?_)
 ·have hk:k<9:=by omega
  obtain⟨x,hx⟩:=C.ge c k;have hx1:=hb x (aLW hx);have hx2:=fF hb 0 k;have hg1:=AS c k Yd;have hlen:=Q0 c k;refine C.kn<|aK<|Zai<|C.s1<|Za rfl<|R6 rfl U179 Tf.a3 Tf.s3 rfl rfl Yd Yd Yk rfl trivial<|Zi rfl<|Zi rfl<|L.n1<|C.rg<|Za rfl<|Zw rfl ?_;refine Za rfl<|dO rfl U186 Tf.s3 rfl rfl Yd Yd rfl trivial<|aT rfl Tf.a3 rfl (List.Mem.head _) (cA Yk) GT rfl trivial<|Za rfl<|Zw rfl<|dO rfl U186 Tf.s3 rfl rfl Yd Yd rfl trivial<|T0 rfl Tf.s3 rfl rfl (bS.head) (by simp only[*];omega) trivial<|Zaa<|Zak<|Zag<|C.rg<|Zw rfl ?_;refine Za rfl<|Zaa ?_;rw[←zC (by simpa using hx),show((k:Int)+1).toNat=k+1 by omega,BM];exact aG 16 (k+1) Yd Yd ⟨Ya,cW⟩ rfl rfl (LT _) (aD)
 ·obtain rfl:k=9:=by omega
  rw[n9];have hlen:=mC c;refine aP<|Zaj<|Zaj<|Zam<|Zag<|C.s1<|Zs rfl Tf.a186 rfl (List.Mem.head _) (by first|exact Tf.s186|(simp only[aJ, *];exact Tf.s186))<|bK rfl rfl rfl rfl Tf.s186 Yb Yb (bS.head) (bU _) trivial<|L.n5 ?_
  exact Zm [_] rfl ⟨⟨_,_,_,rfl,(GE _),aMD ⟨Tf.a186,(by first|exact Tf.s186|(simp only[aNG,aJ, *];exact Tf.s186)),rfl⟩⟩,cW⟩ (fun D hD=>rfl)
theorem aHR(rv:Value)(r:dH)(c:sQ)(t:List Int)(D:aA)(hr:lS D rv r)(hok:oO r)(ht:mF r t)(hcm:c∈r.counts):
  Fn Tryz.prog 210 #[rv,cV c,.agg (ints (jW t)).toArray] D (fun _ v=>v=.int .i64 (hZ t c)):=by
 obtain⟨pv,cv,rfl,hp,hc⟩:=hr;obtain⟨h1,h2,h3,h4⟩:=hok.cnt c hcm;have h9:=hok.len9;have hab:=G3 ht h1 h2 h9;have hs1:=JV ht h1 h2;have hg1:=oQ t c.many.toNat Yd;have hg2:=oQ t r.places.length Yd;have hg3:=oQ t (r.places.length-c.many.toNat) Yd;have hg4:(jW t)[(↑r.places.length-c.many).toNat]?= some (dG t 0 (r.places.length-c.many.toNat)):=by rw[show(↑r.places.length-c.many).toNat=r.places.length-c.many.toNat by omega];exact hg3
 rw[ht.1]at hs1;have hb1:=fF ht.2 0 r.places.length;have hb2:=fF ht.2 0 (r.places.length-c.many.toNat);have hb3:=fF ht.2 0 c.many.toNat;refine enter 37 Tryz.func210 rfl rfl rfl rfl fun h0=>C.s1<|Zt rfl (fun q1 E1 hE1 hB1=>Zt rfl (fun q2 E2 hE2 hB2=>Zt rfl (fun q3 E3 hE3 hB3=>Zi rfl<|L.n3<|Zj rfl Tf.f156_1 rfl<|Zc 1 rfl Tf.a3 rfl hB2 rfl<|dO rfl U186 Tf.s3 rfl rfl Yd Yd rfl trivial<|gM rfl Tf.a3 rfl hB3 Ye (cA hg1) GT rfl trivial<|Zi rfl ?_)));refine L.n4<|Zj rfl Tf.f28_0 rfl<|Zc 0 rfl Tf.a25 rfl hB1 rfl<|aO rfl U25 rfl Yk rfl rfl trivial<|Zi rfl<|L.n3<|Zj rfl Tf.f156_0 rfl<|Zc 0 rfl Tf.a4 rfl hB2 rfl<|L.n1<|aI rfl (fun hc1=>?_) (fun hc1=>?_)
 ·rw[aMT hc1]at hs1;refine C.drawA [] 5 11 504 (fun _ _ _ h=>bP (P:=Tryz.prog) (fn:=Tryz.f210) _ _ _ h)<|Za rfl<|dO rfl U186 Tf.s3 rfl rfl Yd Yd rfl trivial<|gM rfl Tf.a3 rfl hB3 Ye (cA hg2) GT rfl trivial<|Za rfl<|Zj rfl Tf.f156_1 rfl<|Zc 1 rfl Tf.a3 rfl hB2 rfl<|gH rfl rfl rfl Yf rfl trivial<|dO rfl U186 Tf.s3 rfl rfl Yd Yd rfl trivial<|gM rfl Tf.a3 rfl hB3 Ye (cA hg4) GT rfl trivial<|gH rfl rfl rfl Yf rfl trivial<|Zi rfl ?_;refine L.n3<|Za rfl<|Zj rfl Tf.f156_2 rfl<|Zc 2 rfl Tf.a3 rfl hB2 rfl<|gH rfl rfl rfl Yf rfl trivial<|Zj rfl Tf.f156_2 rfl<|Zc 2 rfl Tf.a3 rfl hB2 rfl<|Za rfl<|gH rfl rfl rfl Yf rfl trivial<|pU rfl rfl rfl rfl trivial<|Zi rfl<|L.n5 ?_;exact leave1 rfl rfl rfl rfl (fun D hD=>by show Value.int _ _=_;rw[←hs1];rfl)
 ·rw[aMM (by simp[hc1])]at hs1;refine C.kn<|C.s1<|Za rfl<|Zj rfl Tf.f156_2 rfl<|Zc 2 rfl Tf.a3 rfl hB2 rfl<|gH rfl rfl rfl Yf rfl trivial<|Zj rfl Tf.f156_2 rfl<|Zc 2 rfl Tf.a3 rfl hB2 rfl<|Za rfl<|gH rfl rfl rfl Yf rfl trivial<|pU rfl rfl rfl rfl trivial<|Zi rfl ?_;refine L.n5 ?_;exact leave1 rfl rfl rfl rfl (fun D hD=>by show Value.int _ _=_;rw[←hs1];rfl)
theorem SN(rv:Value)(r:dH)(t:List Int)(D:aA)(hr:lS D rv r)(hok:oO r)(ht:mF r t):
  Fn Tryz.prog 135 #[rv,.agg (ints (jW t)).toArray] D (fun D' v=>Sl D' RI 1 v (r.counts.map (hZ t))):=by
 obtain⟨pv,cv,rfl,hp,hc⟩:=hr;have h6:=hok.cnt6;have hsl:=mC t;refine enter 23 Tryz.func135 rfl rfl rfl rfl fun h0=>C.s1<|Zt rfl (fun q1 E1 hE1 hB1=>Zt rfl (fun q2 E2 hE2 hB2=>Zi rfl<|L.n4<|Zj rfl Tf.f28_1 rfl<|Zc 1 rfl Tf.a26 rfl hB1 rfl<|aO rfl U26 rfl Yk rfl rfl trivial<|Za rfl<|L.n1<|Zai ?_));refine cK (γ:=Nat×Value×aC) (fun g=>r.counts.length-g.1) (fun g=>g.1≤r.counts.length∧bM 3 1 g.2.1 g.1 (ints ((r.counts.take g.1).map (hZ t))) g.2.2) (fun g=>[(10,.int .i64 (g.1:Int)),(4,g.2.1)]) [(9,_),(8,_),(3,_),(2,_)] (fun g=>g.2.2++[]) (fun g=>[E2,E1,D]) (0,.slice none 0 0,[]) ⟨by simp,by simpa [ints]using bM.nil⟩ ⟨Ya,Ya,cW⟩ C.rs (LT _) (aD) ?_
 rintro⟨k,v,ν⟩ ⟨h1,ha⟩;refine C.s1<|Zac rfl<|L.n2<|aE rfl (fun hc1=>?_) (fun hc1=>?_)
 ·have hk:k<r.counts.length:=by omega
  obtain⟨x,hx⟩:=C.ge r.counts k;have hxm:=aLW hx;refine C.kn<|aK<|Zai<|C.s1<|cT rfl U26 Tf.s156 rfl Yk rfl Yd Yk rfl cW (fun b1 o1 cs1 hr1 hcl1 hA1=>?_);obtain rfl:cs1=[.bool _,.int .i64 _,.int .i64 _]:=hr1;refine Zq rfl Tf.a156 rfl hA1 Tf.s156<|Zv rfl Tf.z156 rfl (fun q3=>Zu rfl Tf.s156 (bS.head)<|L.n1<|C.rg<|Za rfl<|Zq rfl Tf.a28 rfl hB1 Tf.s28<|Zs rfl Tf.a156 rfl (List.Mem.head _) Tf.s156<|cU rfl Tf.a186 rfl hB2 Yc (by first|exact Tf.s186|(simp only[aJ, *];exact Tf.s186)) GT rfl trivial<|Ze rfl (fun D1 hD1=>aHR _ r x t _ ⟨_,_,rfl,hp.up RI.up (hD1 _ Ye),hc.up RC.up (hD1 _ Ye)⟩ hok ht hxm)<|Zn rfl U25 Tf.s3 Tf.z3 rfl rfl rfl rfl (.cons rfl rfl .nil) (fun b901 D901 hD901 hA901=>?_))
  have hS901:=Sl.ofInts (l:=[_]) (n:=1) (cap:=1) hA901 rfl Yd Yd;refine aV (A:=[(_,_)]) (B:=_) rfl U25 rfl rfl Tf.s3 Tf.z3 rfl Tf.i3 rfl rfl rfl ha (jM.lit hA901) Ye rfl Yah Yi Yd (aMR rfl) rfl cW (fun v1 ν1 ha1=>?_);have ha2:bM 3 1 v1 (k+1) (ints ((r.counts.take (k+1)).map (hZ t))) ν1:=by rw[aMN,hx,aOD,aMP,←eQ];exact ha1
  refine Zi rfl<|Zaa<|Zak<|Zag<|C.rg<|Zw rfl<|Za rfl<|Zaa ?_;exact aG 16 (k+1,v1,ν1) ⟨by simp only;omega,ha2⟩ Yl ⟨Ya,Ya,cW⟩ rfl rfl (List.Sublist.cons _ (LT _)) (fun D h=>⟨D,aRH _ (h),Le.refl D⟩)
 ·obtain rfl:k=r.counts.length:=by omega
  rw[aNL]at ha;refine aP<|Zaj<|Zaj<|Zam<|Zag<|C.s1<|Za rfl<|Zi rfl<|L.n5<|eN (A:=[]) (B:=[]) ha rfl (fun D2 hD2 hF=>?_);exact leave1 rfl rfl rfl rfl (fun D hD=>(hF.ints Ye Yd).up RI.up (hD _ Ye))
theorem DF(rv:Value)(r:dH)(t:List Int)(D:aA)(hr:lS D rv r)(hok:oO r)(ht:mF r t):
  Fn Tryz.prog 78 #[rv,.agg (ints (jW t)).toArray] D (fun _ v=>v=.tuple #[.int .i64 (if eC r t then(oJ r t:Int)else 0),.bool (eC r t)]):=by
 obtain⟨pv,cv,rfl,hp,hc⟩:=hr;have h6:=hok.cnt6;have hsl:=mC t;refine enter 27 Tryz.func78 rfl rfl rfl rfl fun h0=>C.s1<|Zt rfl (fun q1 E1 hE1 hB1=>Zt rfl (fun q2 E2 hE2 hB2=>Zi rfl<|Zi rfl<|L.n4<|Zq rfl Tf.a28 rfl hB1 Tf.s28<|cU rfl Tf.a186 rfl hB2 Yc (by first|exact Tf.s186|(simp only[aJ, *];exact Tf.s186)) GT rfl trivial<|bZ rfl rfl rfl (fun D1 hD1=>SN _ r t _ ⟨_,_,rfl,hp.up RI.up (hD1 _ Ye),hc.up RC.up (hD1 _ Ye)⟩ hok ht) rfl cW (fun v1 D1 hD1 hp1=>aO rfl U25 rfl hp1 rfl rfl trivial<|Za rfl ?_)));refine L.n1<|Zai<|bT (γ:=Nat) (fun k=>r.counts.length-k) (fun k=>k≤r.counts.length∧(r.counts.take k).all (fun c=>decide (hZ t c≤r.off))=true) (fun k=>[(12,.int .i64 (k:Int)),(4,.int .i64 (((r.counts.take k).filter fun c=>decide (0<hZ t c)).length:Int))]) [(11,_),(10,_),(5,_),(2,_)] (fun k=>[D1,E2,E1,D]) 0 Ye ⟨Ya,Ya,cW⟩ C.rs (aD) ?_
 rintro k ⟨h1,h2⟩;refine C.s1<|Zac rfl<|L.n2<|aE rfl (fun hc1=>?_) (fun hc1=>?_)
 ·simp only[aOL]at hc1;have hk:k<r.counts.length:=by omega
  obtain⟨x,hx⟩:=C.ge r.counts k;have hxm:=aLW hx;have hx2:(r.counts.map (hZ t))[k]?= some (hZ t x):=by rw[aNB,hx];rfl
  have hxb:=FF hok ht hxm;have hlf:=aPD (fun c=>decide (0<hZ t c)) (r.counts.take k);have hlt:(r.counts.take k).length≤k:=aQR _ _;refine C.kn<|aK<|Zai<|C.s1<|Zp rfl U25 Tf.s3 rfl hp1 rfl hx2 (fun b1 o1 cs1 hr1 hcl1 hA1=>?_);obtain rfl:cs1=[.int .i64 _]:=hr1;refine Zc 0 rfl Tf.a3 rfl hA1 rfl<|Zi rfl<|L.n4<|Za rfl<|Zj rfl Tf.f28_3 rfl<|Zc 3 rfl Tf.a3 rfl hB1 rfl<|dZ rfl rfl rfl rfl trivial<|L.n1<|aE rfl (fun hc2=>?_) (fun hc2=>?_)
  ·refine C.s1<|Zi rfl<|Zi rfl<|L.n5<|Zah<|Zal<|Zah<|Zah<|Zal<|Zah ?_;exact Zm [_,_] rfl C.rs (fun D hD=>by show Value.tuple _=_;rw[XM hxm hc2];rfl)
  ·refine C.kn<|C.rg<|Za rfl<|Za rfl<|Zn rfl U25 Tf.s3 Tf.z3 rfl rfl rfl rfl (.cons rfl rfl (.cons rfl rfl .nil)) (fun b901 D901 hD901 hA901=>?_);have hS901:=Sl.ofInts (l:=[_,_]) (n:=2) (cap:=2) hA901 rfl Yd Yd;refine Ze rfl (fun D2 hD2=>jG _ (hZ t x) [1] _ (hS901.up RI.up (hD2 _ Ye)))<|qU rfl rfl rfl (by simp only[rM,aOI,List.foldl_nil];omega) rfl trivial<|Zi rfl<|Zaa<|Zak<|Zag<|C.rg<|Zw rfl<|Za rfl<|Zaa ?_
   exact aG 18 (k+1) ⟨by omega,BU hx h2 hc2⟩ Yd ⟨Ya,(by rw[CW hx hxb];rfl),cW⟩ rfl rfl (LT _) (fun D h=>⟨D,aRH _ (h),Le.refl D⟩)
 ·simp only[aOL]at hc1;obtain rfl:k=r.counts.length:=by omega
  rw[aNL]at h2;refine aP<|Zaj<|Zaj<|Zam<|Zag<|C.s1<|Za rfl<|Zi rfl<|Zi rfl<|L.n5 ?_;exact Zm [_,_] rfl C.rs (fun D hD=>by show Value.tuple _=_;rw[SI h2,aNL];rfl)
theorem yK(t:List Int)(D:aA)(h:t.length≤9)(hb:∀x∈t,0≤x∧x≤1):Fn Tryz.prog 79 #[.agg (ints (eF t)).toArray] D (fun _ v=>v=.agg (ints (jW t)).toArray):=
 (aDS (eF t) (fI h) (HS hb) D).mono fun _ v _ hv=>by rw[hv,GI]
end L1
end Go.Fs
namespace Go.Fs
open Go.Proofs
namespace L12
def dY(code:Int):Value:=.iface 240 (.agg #[.int .i64 code])
theorem QF(sv:Value)(xs:List Bool)(b:Bool)(D:aA)(hS:Sl D RB 1 sv xs):Fn Tryz.prog 260 #[sv,.bool b] D (fun _ v=>v=.int .i64 (idxOf (fun x=>b==x) xs)):=by
 have hl:=hS.len;refine enter 19 Tryz.func260 rfl rfl rfl rfl fun h0=>C.s1<|Zi rfl<|L.n4<|Za rfl<|aO rfl U327 rfl Yk rfl rfl trivial<|Za rfl<|L.n1<|Zai<|bT (γ:=Nat) (fun k=>xs.length-k) (fun k=>k≤xs.length∧(xs.take k).any (fun x=>b==x)=false) (fun k=>[(8,.int .i64 k)]) [(7,_),(4,_),(0,_),(1,_)] (fun k=>[D]) 0 Ye ⟨Ya,cW⟩ C.rs (aD) ?_
 rintro k ⟨h1,h2⟩;refine C.s1<|Zac rfl<|L.n2<|aE rfl (fun hc1=>?_) (fun hc1=>?_)
 ·have hk:k<xs.length:=by omega
  obtain⟨x,hx⟩:=C.ge xs k;refine C.kn<|aK<|Zai<|C.s1<|Za rfl<|Zi rfl<|L.n3<|Za rfl<|Za rfl<|Za rfl<|cT rfl U327 Tf.s4 rfl Yk rfl Yd Yk rfl cW (fun b1 o1 cs1 hr1 hcl1 hA1=>?_);obtain rfl:cs1=[.bool _]:=hr1;refine Zc 0 rfl Tf.a4 rfl hA1 rfl<|aIA rfl U4 rfl rfl rfl trivial<|L.n1<|aI rfl (fun hc2=>?_) (fun hc2=>?_)
  ·refine C.s1<|Za rfl<|Zi rfl<|L.n5<|Zal<|Zah<|Zah<|Zal<|Zah ?_;exact leave1 rfl rfl rfl rfl (fun D hD=>by show Value.int _ _=_;rw[L1.gZ hx h2 hc2])
  ·refine bB<|Zak<|Zag<|C.rg<|Zw rfl<|Za rfl<|Zaa ?_;have h3:(xs.take (k+1)).any (fun x=>b==x)=false:=by rw[aMN,hx,aOY,h2];simpa using hc2
   exact aG 12 (k+1) ⟨by omega,h3⟩ Yd ⟨Ya,cW⟩ rfl rfl (LT _) (aD)
 ·refine aP<|Zaj<|Zaj<|Zam<|Zag<|C.s1<|Zi rfl<|L.n5 ?_;exact leave1 rfl rfl rfl rfl (fun D hD=>by show Value.int _ _=_;rw[L1.fA Yac])
theorem AL(sv:Value)(xs:List Bool)(b:Bool)(D:aA)(hS:Sl D RB 1 sv xs):Fn Tryz.prog 190 #[sv,.bool b] D (fun _ v=>v=.bool (xs.any fun x=>b==x)):=by
 refine enter 9 Tryz.func190 rfl rfl rfl rfl fun h0=>C.s1<|Zi rfl<|L.n3<|Za rfl<|Za rfl<|Ze rfl (fun D1 hD1=>QF _ xs b _ (Sl.at RB.up hD1 Yk Ye))<|oT rfl rfl rfl rfl trivial<|Zi rfl<|L.n5 ?_
 exact leave1 rfl rfl rfl rfl (fun D hD=>by show Value.bool (decide _)=_;rw[L1.gX])
theorem eD(code:Int)(cs:List Bool)(sv:Value)(D:aA)(hS:Sl D RB 1 sv cs):jR Tryz.prog 113 [.int .i64 code,sv] D [] (fun _ _ ν'=>cs.any (fun x=>true==x)=false∧ν'=[]) (fun v=>cs.any (fun x=>true==x)=true∧v=dY code):=by
 refine dS 9 Tryz.func113 rfl rfl rfl rfl (fun h0 hwl hwn=>C.s1<|Za rfl<|Ze rfl (fun D1 hD1=>AL _ cs true _ (hS.up RB.up (hD1 _ Ye)))<|L.n1<|aI rfl (fun hc1=>?_) (fun hc1=>?_))
 ·refine C.rg<|Za rfl<|Zr [.int .i64 code] rfl Tf.p240 Tf.z240 rfl rfl<|aJU rfl U240 rfl rfl cW ?_;exact aDO rfl rfl cW (cF rfl ⟨hc1,rfl⟩)
 ·refine bB ?_;exact dK (A:=[]) (ν':=[]) (B:=[]) (vs:=[]) rfl rfl rfl cW (fun D' hD=>⟨hc1,rfl⟩)
end L12
end Go.Fs
namespace Go.Fs
open Go.Proofs
namespace L1
open C1
def fR(br bY bc bh:Nat)(c:List Int):aC:=[(bh,.cells [.func (.func 134) #[] #[.pointer (some ⟨br,0,none⟩),.pointer (some ⟨bY,0,none⟩),.pointer (some ⟨bc,0,none⟩),.pointer (some ⟨bh,0,none⟩)]].toArray 191 (0,0)),(bc,.cells (ints c).toArray 179 (0,0))]
theorem oL{c pre:List Int}{i:Nat}{k:Int}(h:c.take (i+1)=pre++[k])(hl:pre.length=i):c.take i=pre:=by
 have:=aMQ (List.take i) h;rw[List.take_take,aQI (Nat.le_succ i)]at this;rw[this,aNP Yd,aNA Yd]
def l6(x:List Int):List Value:=[.agg (ints x).toArray]
def LR(P:Program)(Dr:aA)(lo l:Nat)(J Jx:List (List Int)→pC)(xs:List (List Int)):Prop:=∀pre x β D w,(∃r,xs=pre++x::r)→uR lo D w→J pre β D w→(∀b∈β,b<w.heap.size)→Le Dr D→
    fY P l (l6 x) w fun b D' w'=>uR lo D' w'∧tJ β D w D' w'∧(if b then J (pre++[x]) β D' w' else Jx (pre++[x]) β D' w')
def xR(J Jx:List (List Int)→pC)(br bY bc bh:Nat)(places:List Int)(pre:List Int)(i:Nat)(done:List (List Int))(v:Value)(J':pC)(μ':aC):Prop:=
 ∃b c',v=.bool b∧c'.length=9∧c'.take i=pre∧c'.drop places.length=List.replicate (9-places.length) 0∧μ'=fR br bY bc bh c'∧(if b=true then J'=J (done++(cX (places.drop i)).map fun t=>eF (pre++t))else ∃p,J'=Jx p)
theorem qH{lo l:Nat}{J Jx:List (List Int)→pC}{places:List Int}{xs:List (List Int)}{Dr Dy:aA}{Ds:List aA}{br bY bc bh:Nat}{pv cv:Value}{w1 w2:Int}(hn9:places.length≤9)
  (hs:∀pre,xE lo (J pre)) (hsx:∀pre,xE lo (Jx pre)) (hY:LR Tryz.prog Dr lo l J Jx xs) (hDr:Dr∈Ds) (hDy:Dy∈Ds) (hA:At Dr br 0 [pv,cv,.int .i64 w1,.int .i64 w2]) (hpl:Sl Dr RI 1 pv places) (hB:At Dy bY 0 [.func (.yield l) #[] #[]]):
  ∀(j i:Nat) (pre c:List Int) (done rest:List (List Int)) (iv:Int),iv=i→i+j=places.length→pre.length=i→c.length=9→c.take i=pre→c.drop places.length=List.replicate (9-places.length) 0→
   xs=done++(cX (places.drop i)).map (fun t=>eF (pre++t))++rest→
   aJK Tryz.prog 134 [.int .i64 iv,.pointer (some ⟨br,0,none⟩),.pointer (some ⟨bY,0,none⟩),.pointer (some ⟨bc,0,none⟩),.pointer (some ⟨bh,0,none⟩)] lo (J done) (fR br bY bc bh c) Ds (xR J Jx br bY bc bh places pre i done):=by
 intro j;induction j using Nat.strongRecOn with
 |_ j ih=>
 intro i pre c done rest iv hiv hij hl h9 hp hz hxs;subst hiv;have hmx:=hpl.len;refine xI (μ:=fR br bY bc bh c) 41 Tryz.func134 rfl rfl rfl rfl<|C.s1<|Zi rfl<|L.n4<|Za rfl<|Zj rfl Tf.f28_0 rfl<|Zc 0 rfl Tf.a25 rfl hA rfl<|aO rfl U25 rfl Yk rfl rfl trivial<|dU rfl rfl rfl rfl trivial<|L.n1<|aE rfl (fun hc1=>?_) (fun hc1=>?_)
 ·have hin:i=places.length:=by omega
  subst hin;have hleaf:=(BR h9 hp hl hz).symm;rw[List.drop_length]at hxs;simp only[cX,aMZ,aQB,aME]at hxs;rw[hleaf,aMK,aPV]at hxs;refine C.s1<|Zc 0 rfl Tf.a271 rfl hB rfl<|bA rfl Tf.a179 rfl (List.Mem.tail _ (List.Mem.head _)) Yy GT rfl trivial<|EO (l:=l) (J1:=J (done++[c])) (J0:=Jx (done++[c])) rfl rfl rfl rfl (hs _) (hsx _) (fun D w hd hJ hb hl=>hY done c _ D w ⟨rest,hxs⟩ hd hJ (fun b hbm=>by obtain⟨p,hp,rfl⟩:=aMB.1 hbm;exact hb p hp) (hl _ hDr)) rfl cW (fun b1 J1 hJ1=>Zi rfl<|L.n5<|Zah ?_)
  exact iP (P:=Tryz.prog) (fn:=Tryz.f134) (N:=41) (vs:=[_]) rfl rfl ⟨rfl,cW⟩ (fun D h=>⟨D,h,Le.refl D⟩) ⟨b1,c,rfl,h9,hp,hz,rfl,by cases b1<;>simp only[hJ1,aOJ,aNJ,aOP];exact⟨_,rfl⟩;simp[cX,hleaf]⟩
 ·have hin:i<places.length:=by omega
  obtain⟨p,hpi⟩:=C.ge places i;have hd:places.drop i=p::places.drop (i+1):=by rw[aNZ hin];congr 1;exact aMY ((LE hin).symm.trans hpi)
  rw[hd,←LG]at hxs;refine C.kn<|C.s2<|Za rfl<|L.n1<|Zai<|J5 (γ:=Nat×List Int) (fun g=>2-g.1) (fun g=>g.1≤2∧g.2.length=9∧g.2.take i=pre∧g.2.drop places.length=List.replicate (9-places.length) 0) (fun g=>J (done++EQ p (places.drop (i+1)) pre g.1)) (fun g=>[(17,.int .i64 (g.1:Int))]) [(6,_),(0,_),(1,_),(3,_),(4,_)] (fun g=>fR br bY bc bh g.2) (fun g=>Ds) (0,c) ⟨by simp,h9,hp,hz⟩ (by simp[VE]) ⟨Ya,cW⟩ C.rs (LT _) (aD) ?_;rintro⟨k,c1⟩ ⟨h11,h91,hp1,hz1⟩;refine C.s1<|Zac rfl<|L.n2<|aE rfl (fun hc2=>?_) (fun hc2=>?_)
  ·refine C.kn<|aK<|Zai<|C.s1<|Za rfl<|Zi rfl<|L.n3<|Zj rfl Tf.f28_0 rfl<|Zc 0 rfl Tf.a25 rfl hA rfl<|Za rfl<|Zp rfl U25 Tf.s3 rfl hpl rfl hpi (fun b1 o1 cs1 hr1 hcl1 hA1=>?_);obtain rfl:cs1=[.int .i64 _]:=hr1;refine Zc 0 rfl Tf.a3 rfl hA1 rfl<|Zi rfl<|L.n3<|Za rfl<|dU rfl rfl rfl rfl trivial<|Za rfl ?_;refine' L.orK 4 (s:=27) (p:=31) rfl (fun hg1=>?_) (fun hg1=>?_) ?_;rotate_left
   ·refine Zb rfl<|Zb rfl<|dU rfl rfl rfl rfl ⟨_,rfl,rfl⟩<|Zz rfl ?_;exact L.cu 3
   ·refine Zh rfl<|Zh rfl<|Zh rfl<|Zy rfl ?_;exact L.cu 3
   refine L.n1<|aI rfl (fun hc3=>?_) (fun hc3=>?_)
   ·have hpk:p=2∨p=(k:Int):=by simpa using hc3
    obtain⟨rr,hr⟩:=aAL (p:=p) (ps:=places.drop (i+1)) (pre:=pre) (k:=k) Yd;have hset:=JE (k:=(k:Int)) h91 hin hn9 hp1 hz1;refine C.s1<|Za rfl<|Za rfl<|dO rfl U179 Tf.s3 rfl rfl Yd Yd rfl trivial<|T0 rfl Tf.s3 rfl rfl (.tail (bS.head)) (by simp only[*];omega) trivial<|L.n3<|Zl rfl Tf.a191 rfl (List.Mem.head _) rfl<|Za rfl<|Zw rfl<|nQ rfl rfl rfl rfl (ih (j-1) Yd (i+1) (pre++[(k:Int)]) (c1.set i k) (done++EQ p (places.drop (i+1)) pre k) (rr++rest) (i+1:Int) Yd Yd Yah hset.1 hset.2.1 hset.2.2 (by rw[hxs,hr,NG hpk];simp)) rfl cW ?_
    rintro _ J2 _ ⟨b2,c2,rfl,h9',hp',hz',rfl,hJ2⟩;refine Zae rfl<|L.n1<|aI rfl (fun hc4=>?_) (fun hc4=>?_)
    ·obtain rfl:b2=false:=by simpa using hc4
     refine C.s1<|Zi rfl<|L.n5<|Zal<|Zah<|Zah<|Zal<|Zah ?_;exact iP (P:=Tryz.prog) (fn:=Tryz.f134) (N:=41) (vs:=[_]) rfl rfl ⟨rfl,cW⟩ (fun D h=>⟨D,h,Le.refl D⟩) ⟨false,c2,rfl,h9',oL hp' hl,hz',rfl,by simpa using hJ2⟩
    ·obtain rfl:b2=true:=by simpa using hc4
     refine bB<|Zak<|Zag<|C.rg<|Zw rfl<|Za rfl<|Zaa ?_;exact lM 24 (k+1,c2) ⟨by simp only;omega,h9',oL hp' hl,hz'⟩ Yl (by simpa only[aOJ,NG hpk,aMK]using hJ2) ⟨Ya,cW⟩ rfl rfl (LT _) (aD)
   ·have hpk:¬(p=2∨p=(k:Int)):=by simpa using hc3
    refine bB<|Zak<|Zag<|C.rg<|Zw rfl<|Za rfl<|Zaa ?_;exact lM 16 (k+1,c1) ⟨by simp only;omega,h91,hp1,hz1⟩ Yl (by rw[aIO hpk]) ⟨Ya,cW⟩ rfl rfl (LT _) (aD)
  ·refine aP<|Zaj<|Zaj<|Zam<|Zag<|C.s1<|Zi rfl<|L.n5 ?_;exact iP (P:=Tryz.prog) (fn:=Tryz.f134) (N:=41) (vs:=[_]) rfl rfl ⟨rfl,cW⟩ (fun D h=>⟨D,h,Le.refl D⟩) ⟨true,c1,rfl,h91,hp1,hz1,rfl,by simp only[aOJ];rw[hd,←LG,show k=2 by omega]⟩
theorem TT(places:List Int)(Dr:aA)(br:Nat)(pv cv:Value)(w1 w2:Int)(hn9:places.length≤9)(hA:At Dr br 0 [pv,cv,.int .i64 w1,.int .i64 w2])(hpl:Sl Dr RI 1 pv places):
  zU Tryz.prog 133 [.pointer (some ⟨br,0,none⟩)] Dr ((cX places).map eF) l6:=by
 refine W7 8 Tryz.func133 rfl rfl rfl rfl (fun lo l J Jx hs hsx hY=>C.s1<|Zt rfl (fun q1 E1 hE1 hB1=>L.n3<|Zv rfl Tf.z179 rfl (fun q2=>L.n3<|Zv rfl Tf.z191 rfl (fun q3=>L.n3<|bH rfl rfl rfl rfl trivial<|aL rfl rfl rfl rfl Tf.s191 (bS.head) Ye rfl Yi trivial<|L.n1<|C.rg ?_))));refine Zl rfl Tf.a191 rfl (List.Mem.head _) rfl<|nQ rfl rfl rfl rfl (qH (l:=l) Yd hs hsx hY Ye Ye hA hpl hB1 places.length 0 [] (List.replicate 9 0) [] [] 0 rfl Yd rfl rfl rfl (List.drop_replicate ..) Ye) rfl cW ?_;rintro _ J2 _ ⟨b2,c2,rfl,h9',hp',hz',rfl,hJ2⟩;refine Zaa ?_;exact iP (P:=Tryz.prog) (fn:=Tryz.f133) (N:=8) (vs:=[]) rfl rfl cW (fun D h=>⟨D,by simp only[aML]at h;subst h;simp,Le.refl D⟩) (by cases b2<;>simp at hJ2;exact aMD hJ2;exact aMR hJ2)
theorem LY(rv:Value)(r:dH)(D:aA)(hr:lS D rv r)(hn9:r.places.length≤9):
  Fn Tryz.prog 77 #[rv] D (fun D' v=>∃br,v=.func (.func 133) #[] #[.pointer (some ⟨br,0,none⟩)]∧zU Tryz.prog 133 [.pointer (some ⟨br,0,none⟩)] D' ((cX r.places).map eF) l6):=by
 obtain⟨pv,cv,rfl,hp,hc⟩:=hr;refine enter 4 Tryz.func77 rfl rfl rfl rfl fun h0=>C.s1<|Zt rfl (fun q1 E1 hE1 hB1=>Zi rfl<|L.n3<|bH rfl rfl rfl rfl trivial<|Zi rfl<|L.n5 ?_)
 exact leave1 rfl rfl rfl rfl (fun D hD=>⟨_,rfl,TT r.places _ q1 pv cv r.wrong r.off hn9 (hB1.up (hD _ Ye)) (hp.up RI.up (hD _ Ye))⟩)
end L1
end Go.Fs
namespace Go.Fs
open Go.Proofs
namespace L1
open C1
theorem BA{c:List Int}{i j:Int}(h0:0≤i)(h1:i≤j):dG c 0 (j+1).toNat-dG c 0 i.toNat=lA c i.toNat j.toNat:=by
 unfold lA;have h:=wG c 0 i.toNat (j.toNat+1-i.toNat);rw[show i.toNat+(j.toNat+1-i.toNat)=(j+1).toNat by omega,aPC]at h;omega
theorem XG{r:dH}{t:List Int}(h:(eC r t&&decide ((if eC r t=true then(oJ r t:Int)else 0)≤r.wrong))=true):fits r t=true:=by
 unfold fits;cases he:eC r t<;>simp[he]at h ⊢;exact h
theorem aDC{r:dH}{t:List Int}(h:(eC r t&&decide ((if eC r t=true then(oJ r t:Int)else 0)≤r.wrong))=false):fits r t=false:=by
 unfold fits;cases he:eC r t<;>simp[he]at h ⊢;exact h
theorem aBT{r:dH}(h:oO r)(k:Nat):(((cX r.places).take k).filter (fits r)).length≤512:=by
 have h1:=aPD (fits r) ((cX r.places).take k);have h2:=uS r.places;have h3:2^r.places.length≤2^9:=aPQ Yd h.len9;have h4:((cX r.places).take k).length≤(cX r.places).length:=by rw[aON];omega
 omega
theorem aEC{r:dH}(h:oO r)(k:Nat):∀t∈((cX r.places).take k).filter (fits r),t.length≤9:=fun t ht=>by
 have:=(nS (aRD (List.mem_filter.1 ht).1)).1;have:=h.len9;omega
theorem U1{r:dH}(h:oO r):(truths r).length≤512:=by
 have h1:=aPD (fits r) (cX r.places);have h2:=uS r.places;have h3:2^r.places.length≤2^9:=aPQ Yd h.len9;show((cX r.places).filter (fits r)).length≤512;omega
open C1
theorem aDK(rv:Value)(r:dH)(i j:Int)(D:aA)(hr:lS D rv r):Fn Tryz.prog 74 #[rv,.int .i64 i,.int .i64 j] D (fun _ v=>v=.bool (oP r i j)):=by
 obtain⟨pv,cv,rfl,hp,hc⟩:=hr;have hl:=hp.len;refine enter 22 Tryz.func74 rfl rfl rfl rfl fun h0=>C.s1<|Zt rfl (fun q1 E1 hE1 hB1=>Zi rfl<|L.n3<|Za rfl<|Zj rfl Tf.f28_0 rfl<|Zc 0 rfl Tf.a25 rfl hB1 rfl<|aO rfl U25 rfl Yk rfl rfl trivial<|gH rfl rfl rfl Yf rfl trivial<|Ze rfl (fun D1 hD1=>dR _ _ _ _)<|Za rfl ?_)
 refine' L.anK 8 (s:=13) (p:=21) rfl (fun hg1=>?_) (fun hg1=>?_) ?_;rotate_left
 ·refine Zb rfl<|Zb rfl<|Zk rfl Tf.f28_0 rfl<|Zd 0 rfl Tf.a25 rfl hB1 rfl<|aO rfl U25 rfl Yk rfl rfl ⟨_,rfl,rfl⟩<|gH rfl rfl rfl Yf rfl ⟨_,rfl,rfl⟩<|Zf rfl (fun D2 hD2=>dR _ _ _ _)<|Zy rfl ?_;exact L.cu 7
 ·refine Zh rfl<|Zh rfl<|Zh rfl<|Zh rfl<|Zh rfl<|Zh rfl<|Zh rfl<|Zz rfl ?_;exact L.cu 7
 refine Zi rfl<|L.n5 ?_;exact leave1 rfl rfl rfl rfl (fun D hD=>rfl)
theorem aFY(c:List Int)(i j:Int)(D:aA)(hi0:0≤i)(hij:i≤j)(hj9:j<9)(hb:∀x∈c,0≤x∧x≤1):Fn Tryz.prog 127 #[.agg (ints (jW c)).toArray,.int .i64 i,.int .i64 j] D (fun _ v=>v=.int .i64 (lA c i.toNat j.toNat)):=by
 have hsl:=mC c;have hg1:=oQ c (j+1).toNat Yd;have hg2:=oQ c i.toNat Yd;have hb1:=fF hb 0 (j+1).toNat;have hb2:=fF hb 0 i.toNat;refine enter 15 Tryz.func127 rfl rfl rfl rfl fun h0=>C.s1<|Zt rfl (fun q1 E1 hE1 hB1=>Zi rfl<|L.n2<|C.drawA [] 4 9 112 (fun _ _ _ h=>bP (P:=Tryz.prog) (fn:=Tryz.f127) _ _ _ h)<|Za rfl<|Zw rfl<|dO rfl U186 Tf.s3 rfl rfl Yd Yd rfl trivial<|gM rfl Tf.a3 rfl hB1 Ye (cA hg1) GT rfl trivial<|Za rfl<|dO rfl U186 Tf.s3 rfl rfl Yd Yd rfl cW ?_);refine gM rfl Tf.a3 rfl hB1 Ye (cA hg2) GT rfl trivial<|gH rfl rfl rfl Yf rfl trivial<|Zi rfl<|L.n5 ?_
 exact leave1 rfl rfl rfl rfl (fun D hD=>by show Value.int _ _=_;rw[BA hi0 hij])
theorem oM(lo hi n:Int)(D:aA):Fn Tryz.prog 128 #[.agg #[.int .i64 lo,.int .i64 hi],.int .i64 n] D (fun _ v=>v=.agg #[.int .i64 (min lo n),.int .i64 (max hi n)]):=by
 refine enter 15 Tryz.func128 rfl rfl rfl rfl fun h0=>C.s1<|Zt rfl (fun q1 E1 hE1 hB1=>Zv rfl Tf.z88 rfl (fun q2=>L.n2<|iE [] 4 [0,1,2,5,6,7,8,3,4,9,10] [false,false,true,true,true,true,true,true,true,false,false] [(false,0),(false,1),(true,2),(true,5),(true,6),(true,7),(true,8),(true,3),(true,4),(false,9),(false,10)] Tf.follows (fun _ _ _ h=>bP (P:=Tryz.prog) (fn:=Tryz.f128) _ _ _ h) Yg rfl<|Zj rfl Tf.f88_0 rfl<|Zc 0 rfl Tf.a3 rfl hB1 rfl<|Za rfl<|Zj rfl Tf.f88_1 rfl<|Zc 1 rfl Tf.a3 rfl hB1 rfl<|Za rfl ?_));refine pU rfl rfl rfl rfl trivial<|Zn rfl U25 Tf.s3 Tf.z3 rfl rfl rfl rfl (.cons rfl rfl (.cons rfl rfl .nil)) (fun b901 D901 hD901 hA901=>?_)
 have hS901:=Sl.ofInts (l:=[_,_]) (n:=2) (cap:=2) hA901 rfl Yd Yd;refine Ze rfl (fun D1 hD1=>jG _ lo [n] _ (hS901.up RI.up (hD1 _ Ye)))<|Zr [.int .i64 (min lo n),.int .i64 (max hi n)] rfl Tf.p88 Tf.z88 rfl rfl<|Zu rfl Tf.s88 (bS.head)<|L.n5 ?_;exact Zm [_] rfl ⟨⟨_,_,_,rfl,(List.Mem.head _),Or.inr ⟨Tf.a88,(by first|exact Tf.s88|(simp only[aNG,aJ, *];exact Tf.s88)),rfl⟩⟩,cW⟩ (fun D hD=>rfl)
theorem qG(rv:Value)(r:dH)(fine:Bool)(D:aA)(hr:lS D rv r):Fn Tryz.prog 73 #[rv,.bool fine] D (fun D' v=>∃wv,v=.tuple #[wv,.int .i64 (dE r fine)]∧(dE r fine=0→oO r∧aAW D' wv r)):=by
 have hr0:=hr;obtain⟨pv,cv,rfl,hp,hc⟩:=hr;refine l9 55 Tryz.func73 rfl rfl rfl rfl fun h0=>C.s1<|Zt rfl (fun q1 E1 hE1 hB1=>Zi rfl<|Zi rfl<|L.n4<|Zq rfl Tf.a28 rfl hB1 Tf.s28<|Ze rfl (fun D1 hD1=>E0 _ r _ (hr0.up (hD1 _ Ye)))<|Zi rfl<|L.n3<|Za rfl<|Zaf rfl ?_);refine L.n1<|aE rfl (fun hc1=>?_) (fun hc1=>?_)
 ·refine C.s1<|Za rfl<|Zi rfl<|Zi rfl<|L.n5<|Zah ?_;exact pE (vs:=[_,_]) rfl rfl rfl C.rs (fun D hD=>⟨_,by rw[dE,aMT hc1];rfl,fun h=>by rw[dE,aMT hc1]at h;exact absurd h hc1⟩)
 ·have hok:oO r:=zS.1 Yd;refine C.kn<|C.s2<|Za rfl<|Zae rfl<|L.n1<|aI rfl (fun hc2=>?_) (fun hc2=>?_)
  ·refine C.s1<|Zi rfl<|Zi rfl<|L.n5<|Zah ?_;exact pE (vs:=[_,_]) rfl rfl rfl C.rs (fun D hD=>⟨_,by rw[dE,aMM hc1,aMT Yao];rfl,fun h=>by rw[dE,aMM hc1,aMT Yao]at h;omega⟩)
  ·refine C.kn<|C.s1<|Zq rfl Tf.a28 rfl hB1 Tf.s28<|Zr [pv,cv,.int .i64 r.wrong,.int .i64 r.off,.slice none 0 0] rfl Tf.p176 Tf.z176 rfl rfl<|j0 rfl (e:=176) rfl rfl rfl cW (fun q2=>Zv rfl Tf.z169 rfl (fun q3=>aL rfl rfl rfl rfl Tf.s169 (bS.head) Ye rfl Yi trivial<|L.n4<|Zq rfl Tf.a28 rfl hB1 Tf.s28<|bZ rfl rfl rfl (fun D2 hD2=>LY _ r _ (hr0.up (hD2 _ Ye)) hok.len9) rfl cW (fun v2 D2 hD2 hp2=>L.n1<|Zai ?_)));obtain⟨br,rfl,hit⟩:=hp2;refine pD (γ:=Value×aC) (xs:=(cX r.places).map eF) (enc:=l6) (Dr:=D2) (xG 179 r) (fun _ _ _=>False) (fun g=>[(q3,.cells [.pointer (some ⟨q2,0,none⟩)].toArray 169 (0,0)),(q2,.cells [pv,cv,.int .i64 r.wrong,.int .i64 r.off,g.1].toArray 176 (0,0))]++g.2) (.slice none 0 0,[]) rfl rfl rfl rfl hit Ye (fun _=>rfl) rfl (by simpa [xG]using bM.nil) rfl ?_ ?_ (fun _ _ _ _ h=>h.elim)
   ·rintro pre x ⟨v,ν⟩ ⟨us,hx⟩ hΦ l bd rec hh D7 hD7 hst hpend;obtain⟨t,hk,rfl,htm,htake⟩:=vJ hx;obtain⟨hlen,htb⟩:=nS htm;have htr:mF r t:=⟨hlen,htb⟩
    have hp9:=fI (t:=t) (by have:=hok.len9;omega);refine C.rg<|Zv rfl Tf.z179 rfl (fun q4=>Zu rfl Tf.s179 (bS.head)<|Zaa ?_);refine fun a w hhh=>uW (A:=[(_,_),(_,_),(_,_)]++ν) (B:=[(bd,.deferred (some []))]) (r:=rec) (l:=l) (by rfl) hst ?_ a w hhh
    refine uU (fun hnd=>?_);simp only[aMZ,aMP,aNW,aMJ,aOG,aNE,aLX,aMO,not_or]at hnd;have hq4:=hnd.1.2.2.1;have hq3:=hnd.2.1.2.1;have hq2:=hnd.2.2.1.1;refine Zai<|aK<|C.drawA [] 4 9 198 (fun _ _ _ h=>h)<|Zq rfl Tf.a28 rfl hB1 Tf.s28<|bA rfl Tf.a179 rfl (List.Mem.head _) Yy GT rfl trivial<|Ze rfl (fun D3 hD3=>yK t _ (by have:=hok.len9;omega) htb)<|Ze rfl (fun D4 hD4=>DF _ r t _ (hr0.up (hD4 _ Ye)) hok htr)<|Za rfl<|Zab rfl<|Zab rfl<|Zi rfl<|Zi rfl ?_;refine L.n3<|Za rfl<|Za rfl ?_;refine' L.anK 5 (s:=32) (p:=37) rfl (fun hg1=>?_) (fun hg1=>?_) ?_;rotate_left
    ·refine Zb rfl<|Zk rfl Tf.f28_2 rfl<|Zd 2 rfl Tf.a3 rfl hB1 rfl<|iW rfl rfl rfl rfl ⟨_,rfl,rfl⟩<|Zy rfl ?_;exact L.cu 4
    ·refine Zh rfl<|Zh rfl<|Zh rfl<|Zh rfl<|Zz rfl ?_;exact L.cu 4
    refine L.n1<|aI rfl (fun hc3=>?_) (fun hc3=>?_)
    ·have hfit:=XG hc3;refine C.drawA (ν.map (·.1)) 2 11 254 (fun _ _ _ h=>h)<|aT rfl Tf.a169 rfl (List.Mem.tail _ (List.Mem.head _)) rfl Yj rfl trivial<|aT rfl Tf.a169 rfl (List.Mem.tail _ (List.Mem.head _)) rfl Yj rfl trivial<|Zad rfl<|Zj rfl Tf.f176_1 rfl<|aT rfl Tf.a174 rfl (List.Mem.tail _ (List.Mem.tail _ (List.Mem.head _))) rfl Yj rfl trivial<|bA rfl Tf.a179 rfl (List.Mem.head _) Yy Yj rfl trivial<|Zn rfl U174 Tf.s179 Tf.z179 rfl rfl rfl rfl (.cons rfl (by simpa using hp9) .nil) (fun b901 D901 hD901 hA901=>aV (A:=[(_,_),(_,_),(_,_)]) (B:=[(l,_),(bd,_)]) rfl U174 rfl rfl Tf.s179 Tf.z179 rfl Tf.i179 rfl rfl rfl hΦ (jM.lit hA901) Ye (by simp[hp9]) (BT (aEC hok pre.length)) (by simpa using bU _) (by have:=aBT hok pre.length;omega) (aMD (fun p hp=>aMB.2 ⟨p,hp,rfl⟩)) rfl cW (fun v1 ν1 ha1=>?_))
     have hI1:xG 179 r (pre++[eF t]) (v1,ν1):=by unfold xG;rw[htake,aOX,aPS,aMT hfit,List.filter_nil,aND,aNT];simpa using ha1
     simp only[aOG,aNE];refine Zad rfl<|Zj rfl Tf.f176_1 rfl<|aL rfl rfl rfl ha1.cells1 Tf.s174 (.tail (.tail (bS.head))) Ye rfl ha1.cell1 trivial<|Zaa<|Zak ?_;exact fun a w hh=>gC (A:=[(_,_),(_,_)]++ν1) (B:=[(bd,.deferred (some []))]) (v1,ν1) hI1 rfl rfl a w (hh.dropBoxes 1)
    ·have hfit:=aDC hc3;have hI0:xG 179 r (pre++[eF t]) (v,ν):=by unfold xG;rw[htake,aOX,aPS,aMM (by simp[hfit]),List.filter_nil,aME];exact hΦ
     refine bB<|Zak ?_;exact fun a w hh=>gC (A:=[(_,_),(_,_)]++ν) (B:=[(bd,.deferred (some []))]) (v,ν) hI0 rfl rfl a w (hh.dropBoxes 1)
   ·rintro⟨v,ν⟩ bd hΦ;have hΦ':bM 179 9 v (truths r).length ((truths r).flatMap fun t=>ints (eF t)) ν:=by simpa [xG,truths]using hΦ
    have hall:∀t∈truths r,t.length≤9:=fun t ht=>by have:=(nS (List.mem_filter.1 ht).1).1;have:=hok.len9;omega
    have hll:=U1 hok;refine Zak<|Zag<|C.s2<|Zl rfl Tf.a169 rfl (List.Mem.head _) rfl<|Zad rfl<|Zj rfl Tf.f176_1 rfl<|Zl rfl Tf.a174 rfl (List.Mem.tail _ (List.Mem.head _)) rfl<|eE rfl U174 rfl hΦ' rfl rfl trivial<|dU rfl rfl rfl rfl trivial<|L.n1<|aE rfl (fun hc4=>?_) (fun hc4=>?_)
    ·have htn:truths r=[]:=aPJ.1 Yd;have hask:dE r fine=11:=by rw[dE,aMM hc1,aMM Yao,aMT htn]
     refine C.s1<|Zi rfl<|Zi rfl<|L.n5<|Zah ?_;exact rR (vs:=[_,_]) (A:=[(_,_),(_,_)]++ν) rfl rfl rfl C.rs (fun D hD=>⟨_,by rw[hask];rfl,fun h=>by rw[hask]at h;omega⟩)
    ·have htn:truths r≠[]:=fun e=>hc4 (by rw[e];rfl)
     have hask:dE r fine=0:=by rw[dE,aMM hc1,aMM Yao,aMM htn]
     refine C.kn<|C.s1<|Zl rfl Tf.a169 rfl (List.Mem.head _) rfl<|Zi rfl<|Zi rfl<|L.n5<|eN (A:=[(_,_),(_,_)]) (B:=[(bd,.deferred (some []))]) hΦ' rfl (fun D8 hD8 hF8=>eN (A:=[(_,_)]) (ν:=[(q2,_)]) (B:=[(bd,.deferred (some []))]) (aFN (sz:=5) rfl) rfl (fun D9 hD9 hF9=>?_));exact rR (vs:=[_,_]) (A:=[(_,_)]) rfl rfl rfl C.rs (fun D hD=>⟨_,by rw[hask];rfl,fun _=>⟨hok,q2,pv,cv,v,rfl,(hF9.at Yd).up (hD _ Ye),hp.up RI.up (hD _ Ye),hc.up RC.up (hD _ Ye),(hF8.truths rfl Yd hall).up RT.up (hD _ Ye)⟩⟩)
end L1
end Go.Fs
