/- Of the proof of BookGoesOn: Show, ShowT, Lent, Panic, Diary, AW1, AW2, BW1, AW3, AW4. -/
import Derived.Test.YtelhnbcdablgoaaGreatDoorZBookGoesOnAC
import Derived.Test.YtelhnbcdablgoaaGreatDoorZBookGoesOnAB
namespace Go.Fs
variable{P:Program}{X:Cx}{γb:Type}[Membership Nat γb]{bad:γb}{all:Array Oper}{K:Act→World→Prop}{Q:Exit→Act→World→Prop}
variable{σ:bS}{μ:aC}{Ds:List aA}{os:List (Bool×Nat)}{fl:Bool}{ix:Nat}
variable{d:Nat}{x y z:Operand}{u v:Value}{ty:TypeId}{pos:String}{aft:Array Edge}{g:Option (Nat×Bool)}
def X1(β:List Nat)(D:aA)(w:World)(bo:Nat)(cs:List Value):Prop:=bo∈β∧D bo=[]∧∃e fz,w.heap[bo]?= some (.cells cs.toArray e fz)
def eC(D:aA)(bo:Nat)(cs:List Value):aA:=fun c=>if c=bo then cs else D c
theorem sU{D:aA}{bo:Nat}{cs:List Value}(h:D bo=[])(h0:bo≠0):Le D (eC D bo cs):=⟨fun c=>by
 unfold eC;split
 ·rename_i e;subst e;rw[h];exact aOC
 ·exact List.prefix_refl _,by unfold eC;rw[aJM (Ne.symm h0)]⟩
theorem M8(D:aA)(bo:Nat)(cs:List Value):At (eC D bo cs) bo 0 cs:=fun j v hj=>by unfold eC;simpa using hj
theorem Z5{D:aA}{w:World}{bo:Nat}{cs:List Value}{e:TypeId}{fz:Nat×Nat}(h:dM D w)(hb:w.heap[bo]?= some (.cells cs.toArray e fz))(hD:D bo=[]):dM (eC D bo cs) w:=h.of (fun c hc=>by
 unfold eC at hc ⊢
 split
 ·rename_i ec;subst ec;exact⟨_,_,_,hb,List.prefix_refl _⟩
 ·rename_i ec;rw[aJM ec]at hc;exact h.1 c hc) (by unfold eC;rw[aJM (Ne.symm (h.ne0 hD))]) rfl
theorem fP.hide{w w':World}{D D':aA}{mods:List Nat}{μ:aC}{bo:Nat}{cs:List Value}(h:fP (hd w) w.heap.size (eC D bo cs) mods μ D' w')(hD:D bo=[])(hb0:bo≠0):fP (hd w) w.heap.size D mods μ (eC D' bo []) w':=by
 refine⟨h.hlo,h.size,h.old,fun b hb=>?_,h.agr.of (fun b hb=>?_) (by unfold eC;rw[aJM (Ne.symm hb0)]) rfl,fun p hp=>?_,h.nd,h.fz,h.env⟩
 ·unfold eC;split
  ·rename_i e;subst e;exact hD.symm
  ·rename_i e;rw[h.dold b hb];unfold eC;rw[aJM e]
 ·unfold eC at hb ⊢
  split
  ·rename_i e;rw[aJT e]at hb;exact absurd rfl hb
  ·rename_i e;rw[aJM e]at hb;exact h.agr.1 b hb
 ·obtain⟨h1,h2,h3⟩:=h.box p hp;refine⟨h1,?_,h3⟩;unfold eC;split
  ·rfl
  ·exact h2
def JU{α:Type}(P:Program)(f:FuncId)(cap:List Value)(Dr:aA)(xs:List α)(enc:Nat→List Value)(cells:α→List Value):Prop:=
 EF P f∧∀(lo l:Nat) (J Jx:List α→oK),(∀pre,vE lo (J pre))→(∀pre,vE lo (Jx pre))→
  (∀pre x β D w bo,(∃r,xs=pre++x::r)→tJ lo D w→J pre β D w→(∀b∈β,b<w.heap.size)→Le Dr D→X1 β D w bo (cells x)→
   gD P l (enc bo) w fun b D' w'=>tJ lo D' w'∧sT β D w D' w'∧(if b then J (pre++[x]) β D' w' else Jx (pre++[x]) β D' w'))→
  ∀D w,tJ lo D w→Le Dr D→J [] [] D w→Calls P f (.func (.yield l) #[] #[]::cap).toArray w fun e w'=>∃v D',e=.returned v∧tJ lo D' w'∧(J xs [] D' w'∨∃pre,Jx pre [] D' w')
theorem XU{J J1 J0:oK}{l:Nat}{c:Operand}{xs:Array Operand}{ats:Array TypeId}{vs:List Value}(ho:all[ix]?= some ⟨some d,.call {callee:=.value c,args:=xs,argTypes:=ats},ty,pos,aft,g⟩)
  (hc:ev σ c=some (.func (.yield l) #[] #[])) (hxs:C0 σ xs.toList=some vs) (hex:X.ex=some J) (hfl:fl=false) (h0:X.h0=⟨#[],none⟩) (hm:X.mods=[]) (hs1:vE X.lo J1) (hs0:vE X.lo J0)
  (hY:∀D w,tJ X.lo D w→J (μ.map (·.1)) D w→(∀p∈μ,w.heap[p.1]?= some p.2∧D p.1=[])→(∀D₁∈Ds,Le D₁ D)→gD P l vs w fun b D' w'=>tJ X.lo D' w'∧sT (μ.map (·.1)) D w D' w'∧(if b then J1 (μ.map (·.1)) D' w' else J0 (μ.map (·.1)) D' w'))
  (hN:Nat.blt d X.N=true) (hg:cT all σ g)
  (k1:WL P (X.withEx J1) bad all K Q os ((d,.bool true)::σ) μ Ds) (k0:WL P (X.withEx J0) bad all K Q os ((d,.bool false)::σ) μ Ds):WL P X bad all K Q ((fl,ix)::os) σ μ Ds:=by
 refine dI ho rfl rfl hg fun a w hh=>?_
 obtain⟨h1,h2,h3,D,h4,h5,h6⟩:=id hh;have hJ:J (μ.map (·.1)) D w:=by unfold uO at h6;rw[hex]at h6;exact h6.2
 obtain⟨fn,tmps,assign,body,hy,hr⟩:=hY D w h4.dom hJ (fun p hp=>⟨(h4.box p hp).1,(h4.box p hp).2.1⟩) h5;have e:xs.map a.eval=vs.toArray:=by rw[←gU (fun _ _ hx=>hh.eval hx) hxs,←aNZ]
 have hrun:(execOp a.eval ⟨some d,.call {callee:=.value c,args:=xs,argTypes:=ats},ty,pos,aft,g⟩).run P w=.ok (.round l fn tmps assign body) w:=by
  simp only[execOp,resolve,hh.eval hc,Deferred.ofValue,pure_bind,invoke,e];rw[←hy];simp
 rw[hrun];refine⟨fun h=>by simp[FW]at h,(P8 hr).mono ?_⟩;rintro e' w' ⟨b,D',rfl,hd',hh',hb⟩;have hst:fP X.h0 X.lo X.D0 X.mods μ D' w':=by
  refine⟨h4.hlo,hd'.2,(fun b hb=>by rw[h0]at hb;exact absurd hb (aNG _)),(fun b hb=>by rw[h0]at hb;exact absurd hb (aNG _)),hd'.1,fun p hp=>?_,h4.nd,h4.fz,fun e he=>by rw[h0]at he;cases he⟩;obtain⟨p1,p2,p3⟩:=h4.box p hp;obtain⟨q1,q2⟩:=hh'.2.2 p.1 (aIY.2 ⟨p,hp,rfl⟩);exact⟨q1.trans p1,q2.trans p2,p3⟩
 have hds:∀D₁∈Ds,Le D₁ D':=fun D₁ hD₁=>(h5 D₁ hD₁).trans hh'.2.1
 refine⟨(fun h=>by rw[hfl]at h;cases h),?_⟩;cases b with
 |true=>
  refine k1 _ _ (Hl.put (X:=X.withEx J1) ⟨h1,h2,h3,D',hst,hds,⟨hs1,hb⟩⟩ hN _)
 |false=>
  refine k0 _ _ (Hl.put (X:=X.withEx J0) ⟨h1,h2,h3,D',hst,hds,⟨hs0,hb⟩⟩ hN _)
theorem d4{J J1 J0:oK}{l N lo:Nat}{c:Operand}{xs:Array Operand}{ats:Array TypeId}{vs:List Value}(ho:all[ix]?= some ⟨some d,.call {callee:=.value c,args:=xs,argTypes:=ats},ty,pos,aft,g⟩)
  (hc:ev σ c=some (.func (.yield l) #[] #[])) (hxs:C0 σ xs.toList=some vs) (hfl:fl=false) (hs1:vE lo J1) (hs0:vE lo J0)
  (hY:∀D w,tJ lo D w→J (μ.map (·.1)) D w→(∀p∈μ,w.heap[p.1]?= some p.2∧D p.1=[])→(∀D₁∈Ds,Le D₁ D)→gD P l vs w fun b D' w'=>tJ lo D' w'∧sT (μ.map (·.1)) D w D' w'∧(if b then J1 (μ.map (·.1)) D' w' else J0 (μ.map (·.1)) D' w'))
  (hN:Nat.blt d N=true) (hg:cT all σ g)
  (kk:∀b J',J'=(if b=true then J1 else J0)→WL P (Xj N lo J') bad all K Q os ((d,.bool b)::σ) μ Ds):WL P (Xj N lo J) bad all K Q ((fl,ix)::os) σ μ Ds:=
 XU (X:=Xj N lo J) ho hc hxs rfl hfl rfl rfl hs1 hs0 hY hN hg (kk true J1 rfl) (kk false J0 rfl)
def WV{γ:Type}(h0:H0)(lo:Nat)(D0:aA)(mods:List Nat)(Ds:List aA)(Φ:γ→Prop)(Mx:γ→aC):oK:=fun β D w=>
 ∃g,Φ g∧fP h0 lo D0 mods (Mx g) D w∧(∀D₁∈Ds,Le D₁ D)∧(∀b∈β,h0.size≤b∧∀D₁∈Ds,D₁ b=[])∧(∀p∈Mx g,p.1∉β)∧∀k∈mods,k∈(Mx g).ks
theorem yB{γ:Type}{h0:H0}{lo:Nat}{D0:aA}{mods:List Nat}{Ds:List aA}{Φ:γ→Prop}{Mx:γ→aC}:vE lo (WV h0 lo D0 mods Ds Φ Mx):=by
 constructor
 ·rintro β D w D' w' ⟨g,hg,hs,hD,hβ,hM,hmk⟩ ⟨hl1,hl2,hl3⟩ hd;have box':∀p∈Mx g,w'.heap[p.1]?= w.heap[p.1]?∧D' p.1=D p.1:=fun p hp=>hl2 p.1 (bA (hs.box p hp).1) (hM p hp)
  refine⟨g,hg,⟨hs.hlo,hd.2,fun b hb hm=>?_,fun b hb=>?_,hd.1,fun p hp=>?_,hs.nd,hs.fz,fun e he=>hl3.trans (hs.env e he)⟩,fun D₁ hD₁=>⟨fun b=>?_,?_⟩,hβ,hM,hmk⟩
  ·have hlt:b<w.heap.size:=by have:=hs.hlo;have:=hs.size;omega
   have hn:b∉β:=fun h=>by have:=(hβ b h).1;omega
   rw[(hl2 b hlt hn).1];exact hs.old b hb hm
  ·have hlt:b<w.heap.size:=by have:=hs.hlo;have:=hs.size;omega
   have hn:b∉β:=fun h=>by have:=(hβ b h).1;omega
   rw[(hl2 b hlt hn).2];exact hs.dold b hb
  ·obtain⟨p1,p2,p3⟩:=hs.box p hp;obtain⟨q1,q2⟩:=box' p hp;exact⟨q1.trans p1,q2.trans p2,p3⟩
  ·by_cases hb:b∈β
   ·rw[(hβ b hb).2 D₁ hD₁];exact aOC
   ·by_cases hlt:b<w.heap.size
    ·rw[(hl2 b hlt hb).2];exact(hD D₁ hD₁).1 b
    ·have:=(hD D₁ hD₁).1 b;rw[hs.agr.fresh (Nat.le_of_not_lt hlt)]at this;rw[List.prefix_nil.1 this];exact aOC
  ·have h0:(0:Nat)∉β:=fun hm=>hs.agr.2.1 ((hD D₁ hD₁).2.trans ((hβ 0 hm).2 D₁ hD₁))
   rw[(hl2 0 hs.agr.pos h0).2];exact(hD D₁ hD₁).2
 ·rintro β β' D w ⟨g,hg,hs,hD,hβ,hM,hmk⟩ hb';refine⟨g,hg,hs,hD,fun b hb=>?_,fun p hp hb=>?_,hmk⟩
  ·rcases hb' b hb with h|h
   ·exact hβ b h
   ·refine⟨by have:=hs.hlo;have:=hs.size;omega,fun D₁ hD₁=>?_⟩;have:=(hD D₁ hD₁).1 b;rw[hs.agr.fresh h]at this;exact List.prefix_nil.1 this
  ·rcases hb' _ hb with h|h
   ·exact hM p hp h
   ·have:=bA (hs.box p hp).1;omega
theorem fP.roundM{h0:H0}{lo:Nat}{D0 D D':aA}{mods:List Nat}{μ μ':aC}{w w':World}(h:fP h0 lo D0 mods μ D w)(hmk:∀k∈mods,k∈μ.ks)(hs:fP (hd w) w.heap.size D (μ.map (·.1)) μ' D' w'):fP h0 lo D0 mods μ' D' w':=by
 have hle:=aLS h.hlo h.size;have hkey:∀b∈μ.map (·.1),lo≤b∨b∈mods:=by
  intro b hb;obtain⟨p,hp,rfl⟩:=aIY.1 hb;exact(h.box p hp).2.2
 refine⟨h.hlo,aLS h.size hs.size,fun b hb hm=>?_,fun b hb=>?_,hs.agr,fun p hp=>?_,hs.nd,hs.fz,fun e he=>(hs.env _ rfl).trans (h.env e he)⟩
 ·rw[hs.old b (aLU hb hle) (fun hk=>by
   rcases hkey b hk with h1|h1
   ·have:=h.hlo;omega
   ·exact hm h1)]
  exact h.old b hb hm
 ·rw[hs.dold b (aLU hb hle)];exact h.dold b hb
 ·obtain⟨p1,p2,p3⟩:=hs.box p hp;refine⟨p1,p2,?_⟩;rcases p3 with p3|p3
  ·exact aJQ (by have:=h.size;omega)
  ·exact hkey _ p3
theorem o7{α γ:Type}{xs:List α}{enc:Nat→List Value}{cells:α→List Value}{Dr:aA}{f:FuncId}{cap:List Value}{gop:Operand}{ps:Array Tmp}{assign body:Code}
  (Φ:List α→γ→Prop) (Ψ:List α→Code→γ→Prop) (M:γ→aC) (g₀:γ) (hr:X.r=none) (hex:X.ex=none) (hmods:∀g,∀k∈X.mods,k∈(M g).ks)
  (hg:ev σ gop=some (.func (.func f) #[] cap.toArray)) (hit:JU P f cap Dr xs enc cells) (hDr:Dr∈Ds) (hps:∀b,(enc b).length=ps.size) (hpN:(ps.toList.all fun p=>Nat.blt p X.N)=true) (h₀:Φ [] g₀) (hμ:M g₀=μ)
  (hround:∀pre x g,(∃r,xs=pre++x::r)→Φ pre g→∀(l bd bo:Nat) (rec:Loop) (h0:H0) (D:aA),(∀D₁∈Ds,Le D₁ D)→At D bo 0 (cells x)→rec.state=.ready→rec.pending=none→
   WC P (Xr l X.N h0 D ((M g++(l,Obj.loop rec)::[(bd,Obj.deferred (some []))]).map (·.1)))
    (Exit.then (fun a₁ w₁=>∃w₂,(Instr.beginRound l).run P w₁=.ok () w₂∧body.wpIn ((FW none).inRound l) 0 P (roundPost P l (sJ h0 D ((M g++(l,Obj.loop rec)::[(bd,Obj.deferred (some []))]).map (·.1)) (Φ (pre++[x])) (Ψ (pre++[x]))
     (fun g=>M g++(l,Obj.loop {rec with state:=.ready,pending:=none})::[(bd,Obj.deferred (some []))]) (fun c g=>M g++(l,Obj.loop {rec with state:=.done,pending:=some c})::[(bd,Obj.deferred (some []))]))) a₁ w₂) (fun _ _ _=>False))
    assign (tF ps.toList (enc bo) σ) (M g++(l,Obj.loop rec)::[(bd,Obj.deferred (some []))]) (D::Ds))
  (hdone:∀g bd,Φ xs g→∀a w,Hl (X.withDs bd) σ (M g++[(bd,Obj.deferred (some []))]) Ds a w→Q .normal a w)
  (hstop:∀pre c g bd,Ψ pre c g→WC P (X.withDs bd) Q c σ (M g++[(bd,Obj.deferred (some []))]) Ds):WC P X Q (.rangeFunc gop ps assign body) σ μ Ds:=by
 intro a w hh;subst hμ;have hev:=hh.eval hg;obtain⟨h1,h2,h3,D,h4,h5,h6⟩:=hh;refine wpIn_rangeFunc fun fn _=>?_
 have hround':(FW X.r).round=none:=hr;rw[hround'];have hmk:∀g (B:aC),∀k∈X.mods,k∈(M g++B).ks:=fun g B k hk=>by
  show k∈(M g++B).map _;rw[aJN];exact aJG _ (hmods g k hk)
 let bd:=w.heap.size
 let l:=w.heap.size+1
 let rec0:Loop:={state:=.ready,pending:=none,fn,tmps:=a.tmps,params:=ps,assign,body,defers:=bd}
 let w1:World:={w with heap:=w.heap.push (.deferred (some []))}
 let w2:World:={w1 with heap:=w1.heap.push (.loop rec0)}
 have hs1:fP X.h0 X.lo X.D0 X.mods ((bd,Obj.deferred (some []))::M g₀) D w1:=h4.push (.deferred (some [])) trivial;have hs2:fP X.h0 X.lo X.D0 X.mods ((l,Obj.loop rec0)::(bd,Obj.deferred (some []))::M g₀) D w2:=by
  have:=hs1.push (.loop rec0) trivial;have e:w1.heap.size=l:=by simp[w1,l]
  rw[e]at this;exact this
 have hperm:fP X.h0 X.lo X.D0 X.mods (M g₀++(l,Obj.loop rec0)::[(bd,Obj.deferred (some []))]) D w2:=by
  refine hs2.sub (fun p hp=>?_) ?_
  ·simp only[aJO,aIW,GT,aLT]at hp ⊢
   rcases hp with hp|hp|hp
   ·exact aJE (aJE hp)
   ·exact aJQ hp
   ·exact aJE (aJQ hp)
  ·have hn:=hs2.nd;simp only[aJY,aKW,aIW,not_or]at hn;simp only[aJN,aJY,aNC,aJJ,aKW,aIW,GT,aLT,aNQ,aLI,and_true];refine⟨hn.2.2,hn.1.1,fun q hq r hr'=>?_⟩;rcases hr' with rfl|rfl
   ·rintro rfl;exact hn.1.2 hq
   ·rintro rfl;exact hn.2.1 hq
 refine⟨l,[jQ bd],w2,{target:=.fn (.func f) cap.toArray,args:=#[.func (.yield l) #[] #[]]},w2,f,(.func (.yield l) #[] #[]::cap).toArray,w2,run_enterLoop_outer fn a.tmps ps assign body,?_,fun _ _=>trivial,?_,fun h=>by simp[FW]at h,?_⟩
 ·simp only[resolve,Deferred.ofValue];have e:Array.map a.eval #[Operand.const (Value.func (Fn.yield l) #[] #[])]=#[.func (.yield l) #[] #[]]:=by simp[Act.eval]
  rw[e,hev];rfl
 ·simp only[invoke];rw[hit.1];simp
 ·refine cS.2 ((hit.2 X.lo l
   (fun pre=>WV X.h0 X.lo X.D0 X.mods Ds (Φ pre) fun g=>M g++(l,Obj.loop rec0)::[(bd,Obj.deferred (some []))])
   (fun pre=>WV X.h0 X.lo X.D0 X.mods Ds (fun cg:Code×γ=>Ψ pre cg.1 cg.2) fun cg=>M cg.2++(l,Obj.loop {rec0 with state:=.done,pending:=some cg.1})::[(bd,Obj.deferred (some []))])
   (fun _=>yB) (fun _=>yB) ?_ D w2 hs2.dom (h5 Dr hDr) ⟨g₀,h₀,hperm,h5,(fun _ h=>by cases h),(fun _ _ h=>by cases h),hmk g₀ _⟩).mono ?_)
  ·rintro pre x β Dx wx bo hx hdx ⟨g,hΦ,hst,hDs,hβ,hM,hmg⟩ hβs hle ⟨hbo,hbD,be,bfz,hbw⟩;have hbox:=(hst.box (l,Obj.loop rec0) Ye).1;refine⟨fn,_,assign,body,run_yield hbox (by simpa using hps bo),?_⟩;refine(roundIn_of_wpIn (F:=FW none) aOJ (R:=sJ (hd wx) (eC Dx bo (cells x)) ((M g++(l,Obj.loop rec0)::[(bd,Obj.deferred (some []))]).map (·.1)) (Φ (pre++[x])) (Ψ (pre++[x]))
     (fun g=>M g++(l,Obj.loop {rec0 with state:=.ready,pending:=none})::[(bd,Obj.deferred (some []))]) (fun c g=>M g++(l,Obj.loop {rec0 with state:=.done,pending:=some c})::[(bd,Obj.deferred (some []))])) ?_).mono ?_
   ·have hw:=hround pre x g hx hΦ l bd bo rec0 (hd wx) (eC Dx bo (cells x)) (fun D₁ h=>(hDs D₁ h).trans (sU hbD (hst.agr.ne0 hbD))) (M8 _ _ _) rfl rfl;have ht:(ps.zip (enc bo).toArray).foldl (fun tmps (t,a)=>tmps.setIfInBounds t a) a.tmps=(ps.toList.zip (enc bo)).foldl (fun tmps (p:Tmp×Value)=>tmps.setIfInBounds p.1 p.2) a.tmps:=by
     rw[←Array.foldl_toList];simp
    have hpN':∀p∈ps.toList,p<a.tmps.size:=fun p hp=>by rw[h1];simpa [Nat.blt_eq]using aJW.1 hpN p hp
    refine hw {tmps:=_,defers:=[]} wx ⟨?_,fun s v hs=>?_,rfl,eC Dx bo (cells x),⟨aJU _,aJU _,fun _ _ _=>rfl,fun _ _=>rfl,Z5 hst.agr hbw hbD,fun p hp=>?_,hst.nd,hst.fz,fun e he=>aJZ he⟩,fun D₁ hD₁=>?_,aOJ⟩
    ·show((ps.zip (enc bo).toArray).foldl _ a.tmps).size=X.N;rw[ht,xJ];exact h1
    ·show((ps.zip (enc bo).toArray).foldl _ a.tmps)[s]?= some v;rw[ht];exact yE _ _ _ _ h2 hpN' s v hs
    ·obtain⟨p1,p2,p3⟩:=hst.box p hp;exact⟨p1,by unfold eC;rw[aJM (fun e=>hM p hp (by rw[e];exact hbo))];exact p2,aJE (aIY.2 ⟨p,hp,rfl⟩)⟩
    ·rcases aIW.1 hD₁ with rfl|hD₁
     ·exact Le.refl _
     ·exact(hDs D₁ hD₁).trans (sU hbD (hst.agr.ne0 hbD))
   ·rintro e w' ⟨b,D',rfl,hb⟩;have fin:∀μ',fP (hd wx) wx.heap.size (eC Dx bo (cells x)) ((M g++(l,Obj.loop rec0)::[(bd,Obj.deferred (some []))]).map (·.1)) μ' D' w'→fP X.h0 X.lo X.D0 X.mods μ' (eC D' bo []) w'∧sT β Dx wx (eC D' bo []) w'∧(∀D₁∈Ds,Le D₁ (eC D' bo []))∧(∀p∈μ',p.1∉β):=by
     intro μ' hs0;have hs':=hs0.hide hbD (hst.agr.ne0 hbD);refine⟨hst.roundM hmg hs',fP.roundHigh hst.agr hs' hβs hM,fun D₁ hD₁=>(hDs D₁ hD₁).trans (eG hst.agr hs'),fun p hp hpb=>?_⟩;rcases(hs'.box p hp).2.2 with h|h
     ·have:=hβs _ hpb;omega
     ·obtain⟨q,hq,he⟩:=aIY.1 h;exact hM q hq (by rw[he];exact hpb)
    refine⟨b,eC D' bo [],rfl,?_⟩;cases b with
    |true=>
     obtain⟨g',hg',hs'⟩:=hb;obtain⟨f1,f2,f3,f4⟩:=fin _ hs';exact⟨f1.dom,f2,g',hg',f1,f3,hβ,f4,hmk g' _⟩
    |false=>
     obtain⟨c',g',hg',hs'⟩:=hb;obtain⟨f1,f2,f3,f4⟩:=fin _ hs';exact⟨f1.dom,f2,(c',g'),hg',f1,f3,hβ,f4,hmk g' _⟩
  ·rintro e w' ⟨v,D',rfl,hd,hend⟩;have post:∀(g:γ) (r:Loop),fP X.h0 X.lo X.D0 X.mods (M g++(l,Obj.loop r)::[(bd,Obj.deferred (some []))]) D' w'→(∀D₁∈Ds,Le D₁ D')→
     Hl (X.withDs bd) σ (M g++[(bd,Obj.deferred (some []))]) Ds {a with defers:=[jQ bd]++a.defers} (w'.putObj l (.loop {r with state:=.exhausted})):=by
    intro g r hs hD';have hHas:bM (M g++(l,Obj.loop r)::[(bd,Obj.deferred (some []))]) l (.loop r) (.loop {r with state:=.exhausted}) (M g++(l,Obj.loop {r with state:=.exhausted})::[(bd,Obj.deferred (some []))]):=.app .head;have hs':=hs.set (w':=w'.putObj l (.loop {r with state:=.exhausted})) hHas ⟨rfl,rfl⟩ trivial;have hs'':=hs'.sub (μ':=M g++[(bd,Obj.deferred (some []))]) (fun p hp=>by
     rcases aJO.1 hp with hp|hp
     ·exact aJG _ hp
     ·exact aIZ _ (aJB _ hp)) (by
     have hn:=hs'.nd;rw[aJN,aJJ]at hn ⊢
     simp only[aJY]at hn;exact⟨hn.1,(aKW.1 hn.2.1).2,fun q hq r hr=>hn.2.2 q hq r (aJB _ hr)⟩)
    exact⟨h1,h2,aJS (jQ bd:: ·) h3,D',hs'',hD',by unfold uO;show(match X.ex with|none=>True|some J=>_);rw[hex];trivial⟩
   rcases hend with⟨g,hΦ,hs,hDs,_,_,_⟩|⟨pre,⟨c,g⟩,hΨ,hs,hDs,_,_,_⟩
   ·have hb:=(hs.box (l,Obj.loop rec0) Ye).1;exact⟨none,_,run_endLoop hb (by simp[rec0]),hdone g bd hΦ _ _ (post g rec0 hs hDs)⟩
   ·have hb:=(hs.box (l,Obj.loop {rec0 with state:=.done,pending:=some c}) Ye).1;refine⟨some c,_,run_endLoop hb Ye,?_⟩;have:=hstop pre c g bd hΨ _ _ (post g _ hs hDs);exact this

theorem EL{α:Type}{f:FuncId}{fn:Func}{c:Code}{cap:List Value}{Dr:aA}{xs:List α}{enc:Nat→List Value}{cells:α→List Value}(N:Nat)(hf:P.funcs[f]?= some fn)(hn:(fn.name== "runtime.NumGoroutine")=false)(hb:fn.body=some c)(hN:fn.ntmps=N)(hsz:Nat.ble (cap.length+1) N=true)
  (h:∀(lo l:Nat) (J Jx:List α→oK),(∀pre,vE lo (J pre))→(∀pre,vE lo (Jx pre))→
   (∀pre x β D w bo,(∃r,xs=pre++x::r)→tJ lo D w→J pre β D w→(∀b∈β,b<w.heap.size)→Le Dr D→X1 β D w bo (cells x)→
    gD P l (enc bo) w fun b D' w'=>tJ lo D' w'∧sT β D w D' w'∧(if b then J (pre++[x]) β D' w' else Jx (pre++[x]) β D' w'))→
   WC P (Xj N lo (J [])) (bodyPost P fn (B5 lo [Dr] fun _ J' _=>J'=J xs∨∃pre,J'=Jx pre)) c (gJ 0 (.func (.yield l) #[] #[]::cap)) [] [Dr]):JU P f cap Dr xs enc cells:=by
 refine⟨EF.of hf hn hb,fun lo l J Jx hs hsx hY D w hd hle hJ=>?_⟩;have hF:=wG (μ:=[]) N hf hn hb hN (by simpa using hsz) (h lo l J Jx hs hsx hY);refine(hF.2 w ⟨D,⟨aMX _,hd.2,fun b hb=>absurd hb (aNG _),fun b hb=>absurd hb (aNG _),hd.1,(fun p hp=>by cases hp),aLI,(fun p hp=>by cases hp),fun e he=>by cases he⟩,fun D₁ h1=>?_,hs [],hJ⟩).mono ?_
 ·simp only[aJR]at h1;subst h1;exact hle
 ·rintro e w' ⟨v,J',μ',rfl,⟨D',hst,hds,hex⟩,hpost⟩;refine⟨v,D',rfl,hst.dom,?_⟩;have hJ':J' [] D' w':=hex.1.own _ [] D' w' hex.2 (fun b hb=>by cases hb);rcases hpost with rfl|⟨pre,rfl⟩
  ·exact aJQ hJ'
  ·exact aJE ⟨pre,hJ'⟩
theorem aN{t e:TypeId}{sz n:Nat}{z0:Value}{zs cs:List Value}{k k':IntKind}(ho:all[ix]?= some ⟨some d,.makeSlice t x y,ty,pos,aft,g⟩)(ht:P.underlying t=some (.slice e))(hs:TS P e sz)(hz:TZ P e z0)(hzc:z0.cells=zs.toArray)(hi:(P.info? e).map (fun i=>Nat.ble 1 i.bytes&&Nat.ble i.bytes 4096)=some true)
  (hx:ev σ x=some (.int k n)) (hy:ev σ y=some (.int k' n)) (hn:n≤10000) (hcs:((Array.range (n*sz)).map (zs.toArray[· %zs.toArray.size]!)).toList=cs) (hN:Nat.blt d X.N=true) (hg:cT all σ g)
  (kk:∀b,WL P X bad all K Q os ((d,.slice (some ⟨b,0,none⟩) n n)::σ) ((b,.cells cs.toArray e (0,0))::μ) Ds):WL P X bad all K Q ((fl,ix)::os) σ μ Ds:=by
 refine dI ho rfl rfl hg fun a w hh=>?_
 obtain⟨h1,h2,h3,D,h4,h5,h6⟩:=id hh;have hn':=hn;obtain⟨i0,hi0,hb⟩:=aMB.1 hi;simp only[aJI]at hb;have hb1:=aLJ hb.1;have hb2:=aLJ hb.2;have hti:∀w,(typeInfo e).run P w=.ok i0 w:=fun w=>by simp[typeInfo,program,Sem.run,hi0,go_sem]
 have hw:IntKind.i64.wrap (n:Int)=n:=kZ Yf;have hbn:i0.bytes*n≤4096*10000:=Nat.mul_le_mul hb2 hn';have hlarge:(((n:Int)<0)||decide ((i0.bytes:Int)*n>2^48))=false:=by
  have:((i0.bytes*n:Nat):Int)≤40960000:=by omega
  rw[Int.natCast_mul]at this;simp only[aMK,aLY];constructor
  ·omega
  ·omega
 have hzz:∀w,(zeroValue e).run P w=.ok z0 w:=hz;have hrun:(execOp a.eval ⟨some d,.makeSlice t x y,ty,pos,aft,g⟩).run P w=.ok (.value (.slice (some ⟨w.heap.size,0,none⟩) n n)) {w with heap:=w.heap.push (.cells cs.toArray e (0,0))}:=by
  have hcs':(Array.range (n*sz)).map (zs.toArray[· %zs.toArray.size]!)=cs.toArray:=by rw[←hcs]
  have hai:∀(k:IntKind) (m:Int) (w:World),(asInt (.int k m)).run P w=.ok m w:=fun _ _ _=>rfl
  simp only[execOp,Instr.makeSlice,hh.eval hx,hh.eval hy,hai,Sem.run_bind,TU.of ht w,Result.andThen_ok,Sem.run_pure,hti,hw,pure_bind];rw[aJM (by simp only[aKS,aJV,not_or];exact⟨⟨by simpa using hlarge,by omega⟩,by omega⟩)]
  simp only[Sem.run_bind,tC,Result.andThen_ok,hs w,aKT];by_cases hnz:n*sz=0
  ·rw[aJT hnz];have h00:∀f:Nat→Value,(Array.range 0).map f=#[]:=fun f=>by simp
   have hc0:cs.toArray=#[]:=by rw[←hcs',hnz];exact h00 _
   simp only[Sem.run_pure,Sem.run_bind,hc0];rw[hnz];simp only[h00,iF,Result.andThen_ok]
  ·rw[aJM hnz];simp only[Sem.run_bind,hzz,Result.andThen_ok,Sem.run_pure,hzc,hcs',iF]
 rw[hrun];have hs':=h4.push (.cells cs.toArray e (0,0)) rfl;refine⟨fun _=>lQ _ _ _,kk w.heap.size _ _ (Hl.put ⟨h1,h2,h3,D,hs',h5,h6.step (fun _ p hp=>?_) (fun _=>⟨by simp,fun b hb _=>⟨cB hb,rfl⟩,rfl⟩) hs'.dom⟩ hN _)⟩;rcases aIW.1 hp with rfl|hp
 ·exact aJE (aJU _)
 ·exact aJQ (aIY.2 ⟨p,hp,rfl⟩)
theorem aV{n sz:Nat}{zs:List Value}(h:∀u∈zs,u=.int .i64 0)(hl:zs.length=sz):((Array.range (n*sz)).map (zs.toArray[· %zs.toArray.size]!)).toList=ints (List.replicate (n*sz) 0):=by
 apply aOE;intro i;simp only[aNZ,Array.toList_range,aKA,ints,List.map_replicate,List.getElem?_replicate];by_cases hi:i<n*sz
 ·rw[aNW hi,aJT hi];have hpos:0<sz:=by
   rcases Nat.eq_zero_or_pos sz with h0|h0
   ·subst h0;simp at hi
   ·exact h0
  have hm:i%zs.toArray.size<zs.length:=by simp only[aKH,hl];exact Nat.mod_lt _ hpos
  simp only[aKJ];congr 1;rw[getElem!_pos _ _ (by simpa using hm)];exact h _ Ye
 ·rw[aMG Yaj,aJM hi];rfl

theorem Hl.freezeM{A B ν:aC}{e sz n:Nat}{cells:List Value}{a:Act}{w:World}(hacc:bL e sz v n cells ν)(hmods:∀k∈X.mods,k∈(A++B).ks)(hh:Hl X σ (A++ν++B) Ds a w):
  ∃D',(∀D₁∈Ds,Le D₁ D')∧jN D' v n cells∧Hl X σ (A++B) (D'::Ds) a w:=by
 obtain⟨h1,h2,h3,D,h4,h5,h6⟩:=hh;rcases hacc with⟨old,hv,hn,hc,hν⟩|⟨b,cap,junk,hv,hncap,hν,hl1,hl2⟩
 ·subst hν;refine⟨D,h5,aJQ ⟨old,hv,hn,hc⟩,h1,h2,h3,D,by simpa using h4,fun D₁ hD₁=>?_,by simpa using h6⟩;rcases aIW.1 hD₁ with rfl|hD₁
  ·exact Le.refl _
  ·exact h5 D₁ hD₁
 ·subst hν;have hb:=(h4.box (b,.cells (cells++junk).toArray e (0,0)) Ye).2.2;have hnb:b∉(A++B).ks:=fun hm=>by
   have hnd:=h4.nd;simp only[aJN,aJY,aJL,aMU]at hnd;have:=aJJ.1 hnd;have h2':=aKW.1 this.2.1;simp only[aC.ks,aJN,aJO]at hm;rcases hm with hm|hm
   ·exact this.2.2 b hm b aJH rfl
   ·exact h2'.1 hm
  have hb':=hb.resolve_right (fun h=>hnb (hmods b h));obtain⟨D',hle,hD',hDo,hs⟩:=h4.freeze hb';refine⟨D',fun D₁ hD₁=>(h5 D₁ hD₁).trans hle,aJE ⟨b,cap,hv,hncap,fun j u hj=>by rw[hD',aMC];exact hj⟩,h1,h2,h3,D',hs,fun D₁ hD₁=>?_,h6.step (fun _ p hp=>aJQ (aIY.2 ⟨p,by rcases aJO.1 hp with hp|hp;exact aJG _ (aJG _ hp);exact aIZ _ hp,rfl⟩)) (fun _=>⟨aJU _,fun c _ hn=>⟨rfl,hDo c (by rintro rfl;exact hn Ye)⟩,rfl⟩) hs.dom⟩
  rcases aIW.1 hD₁ with rfl|hD₁
  ·exact Le.refl _
  ·exact(h5 D₁ hD₁).trans hle
theorem pY{A B ν:aC}{e sz n:Nat}{cells:List Value}(hacc:bL e sz v n cells ν)(hmods:∀k∈X.mods,k∈(A++B).ks)(kk:∀D,(∀D₁∈Ds,Le D₁ D)→jN D v n cells→WL P X bad all K Q os σ (A++B) (D::Ds)):WL P X bad all K Q os σ (A++ν++B) Ds:=by
 intro a w hh;obtain⟨D',h1,h2,h3⟩:=hh.freezeM hacc hmods;exact kk D' h1 h2 a w h3
theorem c7{T:Act→World→Prop}{A B ν:aC}{e sz n:Nat}{cells:List Value}(hacc:bL e sz v n cells ν)(hmods:∀k∈X.mods,k∈(A++B).ks)(kk:∀D,(∀D₁∈Ds,Le D₁ D)→jN D v n cells→∀a w,Hl X σ (A++B) (D::Ds) a w→T a w):∀a w,Hl X σ (A++ν++B) Ds a w→T a w:=by
 intro a w hh;obtain⟨D',h1,h2,h3⟩:=hh.freezeM hacc hmods;exact kk D' h1 h2 a w h3
theorem Hl.apart{a:Act}{w:World}{D₁:aA}{b o:Nat}{c:Value}{cs:List Value}(hh:Hl X σ μ Ds a w)(hA:At D₁ b o (c::cs))(hD:D₁∈Ds):b∉μ.ks:=by
 obtain⟨h1,h2,h3,D,h4,h5,h6⟩:=hh;intro hm;obtain⟨p,hp,rfl⟩:=aIY.1 hm;have h0:=(h5 D₁ hD).get (hA 0 c rfl);rw[(h4.box p hp).2.1]at h0;simp at h0
theorem iS{c':Code}{D₁:aA}{b o:Nat}{c:Value}{cs:List Value}(hA:At D₁ b o (c::cs))(hD:D₁∈Ds)(k:b∉μ.ks→WC P X Q c' σ μ Ds):WC P X Q c' σ μ Ds:=fun a w hh=>k (hh.apart hA hD) a w hh
theorem At.tail{D:aA}{b o:Nat}{c:Value}{cs:List Value}(h:At D b o (c::cs)):At D b (o+1) cs:=fun j v hj=>by
 have:=h (j+1) v (by simpa using hj);rw[show o+1+j=o+(j+1) by omega];exact this

theorem FK{f:FuncId}{fn:Func}{c:Code}{args:List Value}{D:aA}{ν:aC}{post:aA→Value→aC→Prop}(N:Nat)(hf:P.funcs[f]?= some fn)(hn:(fn.name== "runtime.NumGoroutine")=false)(hb:fn.body=some c)(hN:fn.ntmps=N)(hsz:Nat.ble args.length N=true)
  (h:∀h0:H0,(∀p∈ν,p.1<h0.size)→ν.ks.Nodup→WC P (mE N h0 D ν.ks) (uR P fn (jA (mE N h0 D ν.ks) ν.ks post)) c (gJ 0 args) ν [D]):S3 P f args D ν post:=by
 refine⟨EF.of hf hn hb,fun w hw hν hnd=>?_⟩;subst hN;have hsz:=aLJ hsz;have hq:∀e a w',uR P fn (jA (mE fn.ntmps (hd w) D ν.ks) ν.ks post) e a w'→bodyPostM (FW none) 0 P fn (jA (mE fn.ntmps (hd w) D ν.ks) ν.ks post) e a w':=by
  intro e a w' he;cases e<;>first|exact he|exact he.elim
 have hwp:=h (hd w) (fun p hp=>bA (hν p hp).1) hnd {tmps:=args.toArray++Array.replicate (fn.ntmps-args.toArray.size) undef,defers:=[]} w ⟨by simp[mE];omega,fun s v hs=>by
  obtain⟨_,h2⟩:=eL args 0 s v hs;have hl:=(aJK.1 h2).1;simp only[aML]at h2 hl;show(args.toArray++_)[s]?= some v;rw[aLX Yam];simpa using h2,rfl,D,⟨aJU _,aJU _,(fun _ _ _=>rfl),(fun _ _=>rfl),hw,(fun p hp=>⟨(hν p hp).1,(hν p hp).2.1,aJE (aIY.2 ⟨p,hp,rfl⟩)⟩),hnd,(fun p hp=>(hν p hp).2.2),fun e he=>aJZ he⟩,(fun D₁ h1=>by simp only[aJR]at h1;subst h1;exact Le.refl _),aOJ⟩
 refine(cS (r:=none) (n:=0)).1 ((callsIn_of_wp_marks hf hb aOJ (wpIn_mono hwp hq) rfl).mono ?_);rintro e w' ⟨v,D',ν',rfl,hk,hs,hp⟩;exact⟨v,D',ν',rfl,hk,hs,hp⟩
theorem CM{fn:Func}{bd:Nat}{ks:List Nat}{post:aA→Value→aC→Prop}{e:Exit}(he:(match e with|.normal=>true|.ret=>true|_=>false)=true){rs:List ResultVar}{vs:List Value}{A B ν':aC}(hds:X.ds=[])(hr:fn.results=rs.toArray)(h:rW P X σ (A++ν'++B++[(bd,Obj.deferred none)]) rs vs)
  (hk:ν'.ks=ks) (hp:∀D,(∀D₁∈Ds,Le D₁ D)→post D (mX vs) ν'):∀a w,Hl (X.withDs bd) σ (A++ν'++B++[(bd,Obj.deferred (some []))]) Ds a w→uR P fn (jA X ks post) e a w:=by
 intro a w hh;obtain⟨h1,h2,h3,D,h4,h5,h6⟩:=hh;have hHas:bM (A++ν'++B++[(bd,Obj.deferred (some []))]) bd (.deferred (some [])) (.deferred none) (A++ν'++B++[(bd,Obj.deferred none)]):=.app .head;have hs:=h4.set (w':=w.putObj bd (.deferred none)) hHas ⟨rfl,rfl⟩ trivial;have hh':Hl X σ (A++ν'++B++[(bd,Obj.deferred none)]) Ds {a with defers:=[]} (w.putObj bd (.deferred none)):=
  ⟨h1,h2,hds.symm,D,hs,h5,h6.step (X:=X.withDs bd) (fun _ p hp=>aJQ Yq) (fun _=>gM ⟨rfl,rfl⟩ (aIY.2 ⟨_,hHas.mem,rfl⟩)) hs.dom⟩
 have hrun:=fZ hh' hr h;have hb:=(h4.box (bd,Obj.deferred (some [])) Ye).1;have hnd:=h4.nd;simp only[aJN]at hnd;have hsub:=hs.sub (μ':=ν') (fun p hp=>aJG _ (aJG _ (aIZ _ hp))) (aJJ.1 (aJJ.1 (aJJ.1 hnd).1).1).2.1;have:LeavesInM (FW none) 0 P fn a.tmps (jA X ks post) a.defers .returning w:=by
  have h3':a.defers=[jQ bd]:=h3.trans (by show jQ bd::X.ds=_;rw[hds]);rw[h3'];exact⟨by simp,aJQ ⟨bd,_,rfl,run_takeDeferred hb,_,hrun,_,D,ν',rfl,hk,hsub,hp D h5⟩⟩
 cases e<;>first|exact this|cases he
theorem aEW{γ:Type}(I:γ→Prop)(S:γ→Bool)(M:γ→aC)(xs ys:List (Bool×Nat)){s p:Nat}{b:Bool}(ho:os=xs++ys)(hs:look σ s=some (.bool b))
  (hyes:b=true→WL P X bad all (fun a w=>∃g,I g∧Hl X ((p,.bool (S g))::(s,.bool true)::σ) (M g) Ds a w) Q xs ((s,.bool true)::σ) μ Ds)
  (hno:b=false→WL P X bad all (fun a w=>∃g,I g∧Hl X ((p,.bool (S g))::(s,.bool false)::σ) (M g) Ds a w) Q xs ((s,.bool false)::σ) μ Ds)
  (k:∀g,I g→WL P X bad all K Q ys ((p,.bool (S g))::σ) (M g) Ds):WL P X bad all K Q os σ μ Ds:=by
 have hsub:∀u,Value.bool b=u→∀a w,Hl X σ μ Ds a w→Hl X ((s,u)::σ) μ Ds a w:=by
  rintro _ rfl a w ⟨h1,h2,h3⟩;refine⟨h1,fun t v ht=>?_,h3⟩;simp only[look]at ht;cases hb:Nat.beq s t with
  |true=>rw[hb]at ht;cases ht;obtain rfl:=aKQ hb;exact h2 _ _ hs
  |false=>rw[hb]at ht;exact h2 _ _ ht
 have hback:∀u v μ',Value.bool b=u→∀a w,Hl X ((p,v)::(s,u)::σ) μ' Ds a w→Hl X ((p,v)::σ) μ' Ds a w:=by
  rintro _ v μ' rfl a w ⟨h1,h2,h3⟩;refine⟨h1,fun t v' ht=>?_,h3⟩;refine h2 t v' ?_;simp only[look]at ht ⊢
  cases hp:Nat.beq p t with
  |true=>rw[hp]at ht;exact ht
  |false=>
   rw[hp]at ht;cases hb:Nat.beq s t with
   |true=>obtain rfl:=aKQ hb;rw[←ht,hs]
   |false=>exact ht
 subst ho;intro a w hh;cases b
 ·refine WL.append (hno rfl a w (hsub _ rfl a w hh)) ?_;rintro a w ⟨g,hI,h⟩;exact k g hI a w (hback _ _ _ rfl a w h)
 ·refine WL.append (hyes rfl a w (hsub _ rfl a w hh)) ?_;rintro a w ⟨g,hI,h⟩;exact k g hI a w (hback _ _ _ rfl a w h)
theorem pZ{t:TypeId}{b k:Nat}{l:List Int}{n:Int}{e:TypeId}{μ':aC}(ho:all[ix]?= some ⟨none,.store t x y,ty,pos,aft,g⟩)(hs:TS P t 1)(hx:ev σ x=some (.pointer (some ⟨b,k,none⟩)))(hy:ev σ y=some (.int .i64 n))
  (hm:bM μ b (.cells (ints l).toArray e (0,0)) (.cells (ints (l.set k n)).toArray e (0,0)) μ') (hl:k<l.length) (hg:cT all σ g)
  (kk:WL P X bad all K Q os σ μ' Ds):WL P X bad all K Q ((false,ix)::os) σ μ Ds:=by
 have hil:(ints l).length=l.length:=aH l;refine aY (off:=k) (us:=[.int .i64 n]) (vs:=ints l) (ws:=ints (l.set k n)) ho hx hy rfl hs hm (by simp[hil];omega) ?_ (fun u hu=>by simp at hu;subst hu;rfl) hg kk
 rw[show ints (l.set k n)=(ints l).set k (.int .i64 n) by simp[ints,List.map_set],List.set_eq_take_append_cons_drop,aJT (by rw[hil];exact hl)];simp
theorem iC{t e tr:TypeId}{a:Option Addr}{n c:Nat}{ats:Array TypeId}(ho:all[ix]?= some ⟨some d,.call {callee:=.builtin .len,args:=#[x],argTypes:=ats},tr,pos,aft,g⟩)(ht:P.underlying t=some (.slice e))(hx:ev σ x=some (.slice a n c))(hat:ats[0]?= some t)
  (hN:Nat.blt d X.N=true) (hg:cT all σ g) (kk:WL P X bad all K Q os ((d,.int .i64 (n:Int))::σ) μ Ds):WL P X bad all K Q ((fl,ix)::os) σ μ Ds:=
 bG ho rfl rfl hN hg (fun ρ hρ w'=>by
  have hx':=hρ x _ hx;simp[Builtin.len_,hat,hx',Sem.run_bind,TU.of ht w',goInt,Sem.run_pure,go_sem]) kk
theorem Hl.boxesEq{a:Act}{w:World}{μ':aC}(hh:Hl X σ μ Ds a w)(h:μ=μ'):Hl X σ μ' Ds a w:=h▸hh
theorem uE{T:Act→World→Prop}(μ':aC)(h:μ=μ')(k:∀a w,Hl X σ μ' Ds a w→T a w):∀a w,Hl X σ μ Ds a w→T a w:=h▸k
theorem kP{t t' e:TypeId}{a:Option Addr}{n c:Nat}(ho:all[ix]?= some ⟨some d,.binOp .eql t x y t',ty,pos,aft,g⟩)(ht:P.underlying t=some (.slice e))(hx:ev σ x=some (.slice a n c))(hy:ev σ y=some (.slice none 0 0))(hN:Nat.blt d X.N=true)(hg:cT all σ g)
  (kk:WL P X bad all K Q os ((d,.bool (a.isNone))::σ) μ Ds):WL P X bad all K Q ((fl,ix)::os) σ μ Ds:=
 tM ho (fun w=>by
  have hgd:(eqGuard .eql t x y (.slice a n c) (.slice none 0 0)).run P w=.ok () w:=by
   simp only[eqGuard];simp[go_sem]
  have heq:(Op.equal t (.slice a n c) (.slice none 0 0)).run P w=.ok a.isNone w:=by
   show(Op.equalIn (9999+1) t (.slice a n c) (.slice none 0 0)).run P w=_;rw[Op.equalIn,Sem.run_bind,TU.of ht w];cases a<;>rfl
  rw[Sem.run_bind,hgd];show((do Pure.pure (Value.bool (←Op.equal t (.slice a n c) (.slice none 0 0)))):Sem Value).run P w=_;rw[Sem.run_bind,heq];rfl) hx hy hN hg kk
theorem Q1{t:TypeId}{b off:Nat}{vs us:List Value}{e:TypeId}{μ':aC}(ho:all[ix]?= some ⟨none,.store t x y,ty,pos,aft,g⟩)(hx:ev σ x=some (.pointer (some ⟨b,off,none⟩)))(hy:ev σ y=some v)(hv:v.cells=us.toArray)(hs:TS P t us.length)
  (hm:bM μ b (.cells vs.toArray e (0,0)) (.cells vs.toArray e (0,0)) μ') (hl:off+us.length≤vs.length) (hw:vs.take off++us++vs.drop (off+us.length)=vs) (hc1:∀u∈us,cell1 u=true) (hg:cT all σ g)
  (kk:WL P X bad all K Q os σ μ' Ds):WL P X bad all K Q ((fl,ix)::os) σ μ Ds:=by
 refine dI ho rfl rfl hg fun a w hh=>?_
 obtain⟨h1,h2,h3,D,h4,h5,h6⟩:=id hh;obtain⟨w',hr,hw'⟩:=sS (P:=P) hs hv (h4.box _ hm.mem).1 hl hc1;have:(execOp a.eval ⟨none,.store t x y,ty,pos,aft,g⟩).run P w=.ok .skip w':=by
  simp only[execOp,hh.eval hx,hh.eval hy,Sem.run_bind,hr,Result.andThen_ok,Sem.run_pure]
 rw[this];rw[hw]at hw';refine⟨fun _=>⟨by rw[hw'.1];simp,fun c _ _=>?_⟩,kk _ _ ⟨h1,h2,h3,D,h4.set hm hw' rfl,h5,h6.step (fun _ p hp=>aJQ Yao) (fun _=>gM hw' (aIY.2 ⟨_,hm.mem,rfl⟩)) (h4.set hm hw' rfl).dom⟩⟩
 have hb:=(h4.box _ hm.mem).1;rw[hw'.1];by_cases hc:b=c
 ·subst hc;rw[Array.getElem?_setIfInBounds_self_of_lt (bA hb)];exact hb.symm
 ·rw[aLQ hc]

theorem bR{D₁:aA}{b o:Nat}{c:Value}{cs:List Value}(hA:At D₁ b o (c::cs))(hD:D₁∈Ds)(k:b∉μ.ks→WL P X bad all K Q os σ μ Ds):WL P X bad all K Q os σ μ Ds:=fun a w hh=>k (hh.apart hA hD) a w hh
theorem ZV{e sz b:Nat}{cells:List Value}(h:cells.length=sz):bL e sz (.slice (some ⟨b,0,none⟩) 1 1) 1 cells [(b,.cells cells.toArray e (0,0))]:=
 aJE ⟨b,1,[],rfl,aJU _,by simp,by omega,by simp;omega⟩
theorem TV{D:aA}{b:Nat}{cells:List Value}(h:jN D (.slice (some ⟨b,0,none⟩) 1 1) 1 cells):At D b 0 cells:=by
 rcases h with⟨a,_,h0,_⟩|⟨b',cap,hv,_,hA⟩
 ·omega
 ·cases hv;exact hA
theorem tN{c:Code}{A B:aC}{b:Nat}{cells:List Value}{e:TypeId}(hmods:X.mods=[])(kk:∀D,(∀D₁∈Ds,Le D₁ D)→At D b 0 cells→WC P X Q c σ (A++B) (D::Ds)):WC P X Q c σ (A++(b,.cells cells.toArray e (0,0))::B) Ds:=by
 have:=tI (A:=A) (B:=B) (ν:=[(b,.cells cells.toArray e (0,0))]) (c:=c) (P:=P) (X:=X) (Q:=Q) (σ:=σ) (Ds:=Ds) (ZV (e:=e) (b:=b) (cells:=cells) rfl) hmods fun D hD hF=>kk D hD (TV hF)
 simpa using this
theorem KI{α:Type}{D:aA}{b sz:Nat}{cells:α→List Value}(hsz:∀x,(cells x).length=sz):∀{xs:List α} {o:Nat},(∀i x,xs[i]?= some x→At D b (o+i*sz) (cells x))→At D b o (xs.flatMap cells)
 | [],o,_=>fun j v hj=>by simp at hj
 |x::xs,o,h=>fun j v hj=>by
  rw[aKR]at hj;have h0:=h 0 x rfl;rw[aNF,Nat.add_zero]at h0;have hr:=KI hsz (xs:=xs) (o:=o+sz) fun i y hy=>by
   have:=h (i+1) y (by simpa using hy);rw[show o+sz+i*sz=o+(i+1)*sz by rw[aLW];omega];exact this
  rcases Nat.lt_or_ge j (cells x).length with hl|hl
  ·rw[aMA hl]at hj;exact h0 j v hj
  ·rw[aNK hl]at hj;have:=hr _ v hj;rw[hsz]at this;rw[show o+j=o+sz+(j-sz) by rw[hsz]at hl;omega];exact this
theorem jE.of{α:Type}{R:Rd α}{D:aA}{sz:Nat}{xs:List α}{cells:α→List Value}(hR:∀D x cs,R D x cs→cs=cells x)(hsz:∀x,(cells x).length=sz)(h:Sl D R sz v xs):jE D v xs.length (xs.flatMap cells):=by
 obtain⟨a,cap,rfl,h1,h2,h3⟩:=h;rcases h3 with rfl|⟨b,o,rfl,h3⟩
 ·exact aJQ ⟨a,cap,rfl,rfl,rfl⟩
 ·refine aJE ⟨b,o,cap,rfl,KI hsz fun i x hx=>?_⟩;obtain⟨cs,hr,hc,hA⟩:=h3 i x hx;rw[hR _ _ _ hr]at hA;exact hA
theorem nB{α:Type}{R:Rd α}{D:aA}{sz n c:Nat}{xs:List α}(h:Sl D R sz (.slice none n c) xs):xs=[]:=by
 obtain⟨a,cap,hv,h1,h2,h3⟩:=h;rcases h3 with h3|⟨b,o,ha,_⟩
 ·exact h3
 ·rw[ha]at hv;cases hv
theorem aO{α:Type}{R:Rd α}{D₁:aA}{sz:Nat}{t e:TypeId}{xs:List α}{k:IntKind}{i:Int}{el:α}{bt ot ct:Nat}(ho:all[ix]?= some ⟨some d,.indexAddr t x y,ty,pos,aft,g⟩)(ht:P.underlying t=some (.slice e))(hs:TS P e sz)(hx:ev σ x=some (.slice (some ⟨bt,ot,none⟩) xs.length ct))(hS:Sl D₁ R sz (.slice (some ⟨bt,ot,none⟩) xs.length ct) xs)
  (hy:ev σ y=some (.int k i)) (h0:0≤i) (hi:xs[i.toNat]?= some el) (hN:Nat.blt d X.N=true) (hg:cT all σ g)
  (kk:∀cs,R D₁ el cs→cs.length=sz→At D₁ bt (ot+i.toNat*sz) cs→WL P X bad all K Q os ((d,.pointer (some ⟨bt,ot+i.toNat*sz,none⟩))::σ) μ Ds):WL P X bad all K Q ((fl,ix)::os) σ μ Ds:=by
 obtain⟨a,cap,hv,h1,h2,h3⟩:=hS;cases hv;have hlt:=(aJK.1 hi).1;rcases h3 with h3|⟨b,o,ha,h3⟩
 ·subst h3;simp at hi
 ·cases ha;obtain⟨cs,hr,hc,hA⟩:=h3 _ _ hi;exact fD ho ht hs hx hy h0 Yd hN hg (kk cs hr hc hA)
theorem iB{α:Type}{R:Rd α}{D:aA}{sz:Nat}{xs:List α}{v:Value}(h:Sl D R sz v xs)(hne:xs≠[]):∃bt ot ct,v=.slice (some ⟨bt,ot,none⟩) xs.length ct:=by
 obtain⟨a,cap,hv,h1,h2,h3⟩:=h;rcases h3 with h3|⟨b,o,ha,_⟩
 ·exact absurd h3 hne
 ·exact⟨b,o,cap,by rw[hv,ha]⟩
theorem nT{t:TypeId}{b off:Nat}{vs us ws:List Value}{e:TypeId}{μ':aC}(ho:all[ix]?= some ⟨none,.store t x y,ty,pos,aft,g⟩)(hx:ev σ x=some (.pointer (some ⟨b,off,none⟩)))(hy:ev σ y=some v)(hv:v.cells=us.toArray)(hs:TS P t us.length)
  (hm:bM μ b (.cells vs.toArray e (0,0)) (.cells ws.toArray e (0,0)) μ') (hl:off+us.length≤vs.length) (hw:vs.take off++us++vs.drop (off+us.length)=ws) (hc1:∀u∈us,cell1 u=true) (hfl:fl=false∨b∈bad) (hg:cT all σ g)
  (kk:WL P X bad all K Q os σ μ' Ds):WL P X bad all K Q ((fl,ix)::os) σ μ Ds:=by
 refine dI ho rfl rfl hg fun a w hh=>?_
 obtain⟨h1,h2,h3,D,h4,h5,h6⟩:=id hh;obtain⟨w',hr,hw'⟩:=sS (P:=P) hs hv (h4.box _ hm.mem).1 hl hc1;have:(execOp a.eval ⟨none,.store t x y,ty,pos,aft,g⟩).run P w=.ok .skip w':=by
  simp only[execOp,hh.eval hx,hh.eval hy,Sem.run_bind,hr,Result.andThen_ok,Sem.run_pure]
 rw[this];rw[hw]at hw';refine⟨fun h=>⟨by rw[hw'.1];simp,fun c _ hn=>?_⟩,kk _ _ ⟨h1,h2,h3,D,h4.set hm hw' rfl,h5,h6.step (fun _ p hp=>aJQ Yao) (fun _=>gM hw' (aIY.2 ⟨_,hm.mem,rfl⟩)) (h4.set hm hw' rfl).dom⟩⟩
 rcases hfl with hf|hf
 ·rw[hf]at h;cases h
 ·rw[hw'.1,aLQ (by rintro rfl;exact hn hf)]
theorem _root_.Go.Fs.Zo{t:TypeId}{b:Nat}(off:Nat)(vs:List Value)(us:List Value)(ws:List Value){e:TypeId}{μ':aC}(e9:(all[ix]?,ev σ x,ev σ y,v.cells)=(some ⟨none,.store t x y,ty,pos,aft,g⟩,some (.pointer (some ⟨b,off,none⟩)),some v,us.toArray))(hs:TS P t us.length)(hm:bM μ b (.cells vs.toArray e (0,0)) (.cells ws.toArray e (0,0)) μ')(hw:vs.take off++us++vs.drop (off+us.length)=ws)(hfl:fl=false∨b∈bad)(kk:WL P X bad all K Q os σ μ' Ds)(hl:off+us.length≤vs.length:=by exact Ye)(hc1:∀u∈us,cell1 u=true:=by exact Yi)(hg:cT all σ g:=by exact aOJ):WL P X bad all K Q ((fl,ix)::os) σ μ Ds:=nT (off:=off) (vs:=vs) (us:=us) (ws:=ws) (aJS (fun z=>z.1) e9) (aJS (fun z=>z.2.1) e9) (aJS (fun z=>z.2.2.1) e9) (aJS (fun z=>z.2.2.2) e9) hs hm hl hw hc1 hfl hg kk
end Go.Fs
namespace Go.Fs
variable{P:Program}{X:Cx}{γb:Type}[Membership Nat γb]{bad:γb}{all:Array Oper}{K:Act→World→Prop}{Q:Exit→Act→World→Prop}
variable{σ:bS}{μ:aC}{Ds:List aA}{os:List (Bool×Nat)}{fl:Bool}{ix:Nat}
variable{d:Nat}{x y z:Operand}{u v:Value}{ty:TypeId}{pos:String}{aft:Array Edge}{g:Option (Nat×Bool)}
def HY{α:Type}(P:Program)(f:FuncId)(cap:List Value)(Dr:aA)(xs:List α)(enc:Nat→List Value→Prop)(cells:α→List Value):Prop:=
 EF P f∧∀(lo l:Nat) (J Jx:List α→oK),(∀pre,vE lo (J pre))→(∀pre,vE lo (Jx pre))→
  (∀pre x β D w bo vs,(∃r,xs=pre++x::r)→tJ lo D w→J pre β D w→(∀b∈β,b<w.heap.size)→Le Dr D→enc bo vs→X1 β D w bo (cells x)→
   gD P l vs w fun b D' w'=>tJ lo D' w'∧sT β D w D' w'∧(if b then J (pre++[x]) β D' w' else Jx (pre++[x]) β D' w'))→
  ∀D w,tJ lo D w→Le Dr D→J [] [] D w→Calls P f (.func (.yield l) #[] #[]::cap).toArray w fun e w'=>∃v D',e=.returned v∧tJ lo D' w'∧(J xs [] D' w'∨∃pre,Jx pre [] D' w')
theorem m4{α γ:Type}{xs:List α}{enc:Nat→List Value→Prop}{cells:α→List Value}{Dr:aA}{f:FuncId}{cap:List Value}{gop:Operand}{ps:Array Tmp}{assign body:Code}
  (Φ:List α→γ→Prop) (Ψ:List α→Code→γ→Prop) (M:γ→aC) (g₀:γ) (hr:X.r=none) (hex:X.ex=none) (hmods:∀g,∀k∈X.mods,k∈(M g).ks)
  (hg:ev σ gop=some (.func (.func f) #[] cap.toArray)) (hit:HY P f cap Dr xs enc cells) (hDr:Dr∈Ds) (hps:∀b vs,enc b vs→vs.length=ps.size) (hpN:(ps.toList.all fun p=>Nat.blt p X.N)=true) (h₀:Φ [] g₀) (hμ:M g₀=μ)
  (hround:∀pre x g,(∃r,xs=pre++x::r)→Φ pre g→∀(l bd bo:Nat) (vs:List Value) (rec:Loop) (h0:H0) (D:aA),(∀D₁∈Ds,Le D₁ D)→enc bo vs→At D bo 0 (cells x)→rec.state=.ready→rec.pending=none→
   WC P (Xr l X.N h0 D ((M g++(l,Obj.loop rec)::[(bd,Obj.deferred (some []))]).map (·.1)))
    (Exit.then (fun a₁ w₁=>∃w₂,(Instr.beginRound l).run P w₁=.ok () w₂∧body.wpIn ((FW none).inRound l) 0 P (roundPost P l (sJ h0 D ((M g++(l,Obj.loop rec)::[(bd,Obj.deferred (some []))]).map (·.1)) (Φ (pre++[x])) (Ψ (pre++[x]))
     (fun g=>M g++(l,Obj.loop {rec with state:=.ready,pending:=none})::[(bd,Obj.deferred (some []))]) (fun c g=>M g++(l,Obj.loop {rec with state:=.done,pending:=some c})::[(bd,Obj.deferred (some []))]))) a₁ w₂) (fun _ _ _=>False))
    assign (tF ps.toList vs σ) (M g++(l,Obj.loop rec)::[(bd,Obj.deferred (some []))]) (D::Ds))
  (hdone:∀g bd,Φ xs g→∀a w,Hl (X.withDs bd) σ (M g++[(bd,Obj.deferred (some []))]) Ds a w→Q .normal a w)
  (hstop:∀pre c g bd,Ψ pre c g→WC P (X.withDs bd) Q c σ (M g++[(bd,Obj.deferred (some []))]) Ds):WC P X Q (.rangeFunc gop ps assign body) σ μ Ds:=by
 intro a w hh;subst hμ;have hev:=hh.eval hg;obtain⟨h1,h2,h3,D,h4,h5,h6⟩:=hh;refine wpIn_rangeFunc fun fn _=>?_
 have hround':(FW X.r).round=none:=hr;rw[hround'];have hmk:∀g (B:aC),∀k∈X.mods,k∈(M g++B).ks:=fun g B k hk=>by
  show k∈(M g++B).map _;rw[aJN];exact aJG _ (hmods g k hk)
 let bd:=w.heap.size
 let l:=w.heap.size+1
 let rec0:Loop:={state:=.ready,pending:=none,fn,tmps:=a.tmps,params:=ps,assign,body,defers:=bd}
 let w1:World:={w with heap:=w.heap.push (.deferred (some []))}
 let w2:World:={w1 with heap:=w1.heap.push (.loop rec0)}
 have hs1:fP X.h0 X.lo X.D0 X.mods ((bd,Obj.deferred (some []))::M g₀) D w1:=h4.push (.deferred (some [])) trivial;have hs2:fP X.h0 X.lo X.D0 X.mods ((l,Obj.loop rec0)::(bd,Obj.deferred (some []))::M g₀) D w2:=by
  have:=hs1.push (.loop rec0) trivial;have e:w1.heap.size=l:=by simp[w1,l]
  rw[e]at this;exact this
 have hperm:fP X.h0 X.lo X.D0 X.mods (M g₀++(l,Obj.loop rec0)::[(bd,Obj.deferred (some []))]) D w2:=by
  refine hs2.sub (fun p hp=>?_) ?_
  ·simp only[aJO,aIW,GT,aLT]at hp ⊢
   rcases hp with hp|hp|hp
   ·exact aJE (aJE hp)
   ·exact aJQ hp
   ·exact aJE (aJQ hp)
  ·have hn:=hs2.nd;simp only[aJY,aKW,aIW,not_or]at hn;simp only[aJN,aJY,aNC,aJJ,aKW,aIW,GT,aLT,aNQ,aLI,and_true];refine⟨hn.2.2,hn.1.1,fun q hq r hr'=>?_⟩;rcases hr' with rfl|rfl
   ·rintro rfl;exact hn.1.2 hq
   ·rintro rfl;exact hn.2.1 hq
 refine⟨l,[jQ bd],w2,{target:=.fn (.func f) cap.toArray,args:=#[.func (.yield l) #[] #[]]},w2,f,(.func (.yield l) #[] #[]::cap).toArray,w2,run_enterLoop_outer fn a.tmps ps assign body,?_,fun _ _=>trivial,?_,fun h=>by simp[FW]at h,?_⟩
 ·simp only[resolve,Deferred.ofValue];have e:Array.map a.eval #[Operand.const (Value.func (Fn.yield l) #[] #[])]=#[.func (.yield l) #[] #[]]:=by simp[Act.eval]
  rw[e,hev];rfl
 ·simp only[invoke];rw[hit.1];simp
 ·refine cS.2 ((hit.2 X.lo l
   (fun pre=>WV X.h0 X.lo X.D0 X.mods Ds (Φ pre) fun g=>M g++(l,Obj.loop rec0)::[(bd,Obj.deferred (some []))])
   (fun pre=>WV X.h0 X.lo X.D0 X.mods Ds (fun cg:Code×γ=>Ψ pre cg.1 cg.2) fun cg=>M cg.2++(l,Obj.loop {rec0 with state:=.done,pending:=some cg.1})::[(bd,Obj.deferred (some []))])
   (fun _=>yB) (fun _=>yB) ?_ D w2 hs2.dom (h5 Dr hDr) ⟨g₀,h₀,hperm,h5,(fun _ h=>by cases h),(fun _ _ h=>by cases h),hmk g₀ _⟩).mono ?_)
  ·rintro pre x β Dx wx bo vs hx hdx ⟨g,hΦ,hst,hDs,hβ,hM,hmg⟩ hβs hle henc ⟨hbo,hbD,be,bfz,hbw⟩;have hbox:=(hst.box (l,Obj.loop rec0) Ye).1;refine⟨fn,_,assign,body,run_yield hbox (by simpa using hps bo vs henc),?_⟩;refine(roundIn_of_wpIn (F:=FW none) aOJ (R:=sJ (hd wx) (eC Dx bo (cells x)) ((M g++(l,Obj.loop rec0)::[(bd,Obj.deferred (some []))]).map (·.1)) (Φ (pre++[x])) (Ψ (pre++[x]))
     (fun g=>M g++(l,Obj.loop {rec0 with state:=.ready,pending:=none})::[(bd,Obj.deferred (some []))]) (fun c g=>M g++(l,Obj.loop {rec0 with state:=.done,pending:=some c})::[(bd,Obj.deferred (some []))])) ?_).mono ?_
   ·have hw:=hround pre x g hx hΦ l bd bo vs rec0 (hd wx) (eC Dx bo (cells x)) (fun D₁ h=>(hDs D₁ h).trans (sU hbD (hst.agr.ne0 hbD))) henc (M8 _ _ _) rfl rfl;have ht:(ps.zip vs.toArray).foldl (fun tmps (t,a)=>tmps.setIfInBounds t a) a.tmps=(ps.toList.zip vs).foldl (fun tmps (p:Tmp×Value)=>tmps.setIfInBounds p.1 p.2) a.tmps:=by
     rw[←Array.foldl_toList];simp
    have hpN':∀p∈ps.toList,p<a.tmps.size:=fun p hp=>by rw[h1];simpa [Nat.blt_eq]using aJW.1 hpN p hp
    refine hw {tmps:=_,defers:=[]} wx ⟨?_,fun s v hs=>?_,rfl,eC Dx bo (cells x),⟨aJU _,aJU _,fun _ _ _=>rfl,fun _ _=>rfl,Z5 hst.agr hbw hbD,fun p hp=>?_,hst.nd,hst.fz,fun e he=>aJZ he⟩,fun D₁ hD₁=>?_,aOJ⟩
    ·show((ps.zip vs.toArray).foldl _ a.tmps).size=X.N;rw[ht,xJ];exact h1
    ·show((ps.zip vs.toArray).foldl _ a.tmps)[s]?= some v;rw[ht];exact yE _ _ _ _ h2 hpN' s v hs
    ·obtain⟨p1,p2,p3⟩:=hst.box p hp;exact⟨p1,by unfold eC;rw[aJM (fun e=>hM p hp (by rw[e];exact hbo))];exact p2,aJE (aIY.2 ⟨p,hp,rfl⟩)⟩
    ·rcases aIW.1 hD₁ with rfl|hD₁
     ·exact Le.refl _
     ·exact(hDs D₁ hD₁).trans (sU hbD (hst.agr.ne0 hbD))
   ·rintro e w' ⟨b,D',rfl,hb⟩;have fin:∀μ',fP (hd wx) wx.heap.size (eC Dx bo (cells x)) ((M g++(l,Obj.loop rec0)::[(bd,Obj.deferred (some []))]).map (·.1)) μ' D' w'→fP X.h0 X.lo X.D0 X.mods μ' (eC D' bo []) w'∧sT β Dx wx (eC D' bo []) w'∧(∀D₁∈Ds,Le D₁ (eC D' bo []))∧(∀p∈μ',p.1∉β):=by
     intro μ' hs0;have hs':=hs0.hide hbD (hst.agr.ne0 hbD);refine⟨hst.roundM hmg hs',fP.roundHigh hst.agr hs' hβs hM,fun D₁ hD₁=>(hDs D₁ hD₁).trans (eG hst.agr hs'),fun p hp hpb=>?_⟩;rcases(hs'.box p hp).2.2 with h|h
     ·have:=hβs _ hpb;omega
     ·obtain⟨q,hq,he⟩:=aIY.1 h;exact hM q hq (by rw[he];exact hpb)
    refine⟨b,eC D' bo [],rfl,?_⟩;cases b with
    |true=>
     obtain⟨g',hg',hs'⟩:=hb;obtain⟨f1,f2,f3,f4⟩:=fin _ hs';exact⟨f1.dom,f2,g',hg',f1,f3,hβ,f4,hmk g' _⟩
    |false=>
     obtain⟨c',g',hg',hs'⟩:=hb;obtain⟨f1,f2,f3,f4⟩:=fin _ hs';exact⟨f1.dom,f2,(c',g'),hg',f1,f3,hβ,f4,hmk g' _⟩
  ·rintro e w' ⟨v,D',rfl,hd,hend⟩;have post:∀(g:γ) (r:Loop),fP X.h0 X.lo X.D0 X.mods (M g++(l,Obj.loop r)::[(bd,Obj.deferred (some []))]) D' w'→(∀D₁∈Ds,Le D₁ D')→
     Hl (X.withDs bd) σ (M g++[(bd,Obj.deferred (some []))]) Ds {a with defers:=[jQ bd]++a.defers} (w'.putObj l (.loop {r with state:=.exhausted})):=by
    intro g r hs hD';have hHas:bM (M g++(l,Obj.loop r)::[(bd,Obj.deferred (some []))]) l (.loop r) (.loop {r with state:=.exhausted}) (M g++(l,Obj.loop {r with state:=.exhausted})::[(bd,Obj.deferred (some []))]):=.app .head;have hs':=hs.set (w':=w'.putObj l (.loop {r with state:=.exhausted})) hHas ⟨rfl,rfl⟩ trivial;have hs'':=hs'.sub (μ':=M g++[(bd,Obj.deferred (some []))]) (fun p hp=>by
     rcases aJO.1 hp with hp|hp
     ·exact aJG _ hp
     ·exact aIZ _ (aJB _ hp)) (by
     have hn:=hs'.nd;rw[aJN,aJJ]at hn ⊢
     simp only[aJY]at hn;exact⟨hn.1,(aKW.1 hn.2.1).2,fun q hq r hr=>hn.2.2 q hq r (aJB _ hr)⟩)
    exact⟨h1,h2,aJS (jQ bd:: ·) h3,D',hs'',hD',by unfold uO;show(match X.ex with|none=>True|some J=>_);rw[hex];trivial⟩
   rcases hend with⟨g,hΦ,hs,hDs,_,_,_⟩|⟨pre,⟨c,g⟩,hΨ,hs,hDs,_,_,_⟩
   ·have hb:=(hs.box (l,Obj.loop rec0) Ye).1;exact⟨none,_,run_endLoop hb (by simp[rec0]),hdone g bd hΦ _ _ (post g rec0 hs hDs)⟩
   ·have hb:=(hs.box (l,Obj.loop {rec0 with state:=.done,pending:=some c}) Ye).1;refine⟨some c,_,run_endLoop hb Ye,?_⟩;have:=hstop pre c g bd hΨ _ _ (post g _ hs hDs);exact this
theorem GG{α:Type}{f:FuncId}{fn:Func}{c:Code}{cap:List Value}{Dr:aA}{xs:List α}{enc:Nat→List Value→Prop}{cells:α→List Value}(N:Nat)(hf:P.funcs[f]?= some fn)(hn:(fn.name== "runtime.NumGoroutine")=false)(hb:fn.body=some c)(hN:fn.ntmps=N)(hsz:Nat.ble (cap.length+1) N=true)
  (h:∀(lo l:Nat) (J Jx:List α→oK),(∀pre,vE lo (J pre))→(∀pre,vE lo (Jx pre))→
   (∀pre x β D w bo vs,(∃r,xs=pre++x::r)→tJ lo D w→J pre β D w→(∀b∈β,b<w.heap.size)→Le Dr D→enc bo vs→X1 β D w bo (cells x)→
    gD P l vs w fun b D' w'=>tJ lo D' w'∧sT β D w D' w'∧(if b then J (pre++[x]) β D' w' else Jx (pre++[x]) β D' w'))→
   WC P (Xj N lo (J [])) (bodyPost P fn (B5 lo [Dr] fun _ J' _=>J'=J xs∨∃pre,J'=Jx pre)) c (gJ 0 (.func (.yield l) #[] #[]::cap)) [] [Dr]):HY P f cap Dr xs enc cells:=by
 refine⟨EF.of hf hn hb,fun lo l J Jx hs hsx hY D w hd hle hJ=>?_⟩;have hF:=wG (μ:=[]) N hf hn hb hN (by simpa using hsz) (h lo l J Jx hs hsx hY);refine(hF.2 w ⟨D,⟨aMX _,hd.2,fun b hb=>absurd hb (aNG _),fun b hb=>absurd hb (aNG _),hd.1,(fun p hp=>by cases hp),aLI,(fun p hp=>by cases hp),fun e he=>by cases he⟩,fun D₁ h1=>?_,hs [],hJ⟩).mono ?_
 ·simp only[aJR]at h1;subst h1;exact hle
 ·rintro e w' ⟨v,J',μ',rfl,⟨D',hst,hds,hex⟩,hpost⟩;refine⟨v,D',rfl,hst.dom,?_⟩;have hJ':J' [] D' w':=hex.1.own _ [] D' w' hex.2 (fun b hb=>by cases hb);rcases hpost with rfl|⟨pre,rfl⟩
  ·exact aJQ hJ'
  ·exact aJE ⟨pre,hJ'⟩
end Go.Fs
namespace Go.Fs
variable{P:Program}{X:Cx}{γb:Type}[Membership Nat γb]{bad:γb}{all:Array Oper}{K:Act→World→Prop}{Q:Exit→Act→World→Prop}
variable{σ:bS}{μ:aC}{Ds:List aA}{os:List (Bool×Nat)}{fl:Bool}{ix:Nat}
variable{d:Nat}{x y z:Operand}{u v:Value}{ty:TypeId}{pos:String}{aft:Array Edge}{g:Option (Nat×Bool)}
theorem Hl.subB{μ':aC}{a:Act}{w:World}(h:Hl X σ μ Ds a w)(hμ:μ'.Sublist μ):Hl X σ μ' Ds a w:=by
 obtain⟨g1,g2,g3,D,h4,h5,h6⟩:=h;exact⟨g1,g2,g3,D,h4.sub (fun p hp=>hμ.subset hp) (h4.nd.sublist (hμ.map _)),h5,h6.step (fun _ p hp=>aJQ (aIY.2 ⟨p,hμ.subset hp,rfl⟩)) (fun _=>XZ.refl _ _ _) h4.dom⟩
theorem I1{μ':aC}(hμ:μ'.Sublist μ)(h:WL P X bad all K Q os σ μ' Ds):WL P X bad all K Q os σ μ Ds:=fun a w hh=>h a w (hh.subB hμ)
theorem Hl.perm{μ':aC}{a:Act}{w:World}(h:Hl X σ μ Ds a w)(h1:∀r∈μ',r∈μ)(h2:(μ.map (·.1)).Nodup→(μ'.map (·.1)).Nodup):Hl X σ μ' Ds a w:=by
 obtain⟨g1,g2,g3,D,h4,h5,h6⟩:=h;exact⟨g1,g2,g3,D,h4.sub h1 (h2 h4.nd),h5,h6.step (fun _ r hr=>aJQ (aIY.2 ⟨r,h1 r hr,rfl⟩)) (fun _=>XZ.refl _ _ _) h4.dom⟩
end Go.Fs
namespace Go.Fs
variable{P:Program}{X:Cx}{γb:Type}[Membership Nat γb]{bad:γb}{all:Array Oper}{K:Act→World→Prop}{Q:Exit→Act→World→Prop}
variable{σ:bS}{μ:aC}{Ds:List aA}{os:List (Bool×Nat)}{fl:Bool}{ix:Nat}
variable{d:Nat}{x y z:Operand}{u v:Value}{ty:TypeId}{pos:String}{aft:Array Edge}{g:Option (Nat×Bool)}
def lG(v:Value):List PanicEntry:=[{v,recovered:=false}]
def jK(P:Program)(f:FuncId)(args:List Value)(D:aA)(ν:aC)(post:aA→Value→aC→Prop)(pan:Value→Prop):Prop:=
 EF P f∧∀w,dM D w→(∀p∈ν,w.heap[p.1]?= some p.2∧D p.1=[]∧cN p.2)→ν.ks.Nodup→Calls P f args.toArray w fun e w'=>
  (∃v D' ν',e=.returned v∧fP (hd w) w.heap.size D ν.ks ν' D' w'∧post D' v ν')∨(∃v D',e=.panicked (lG v)∧fP (hd w) w.heap.size D ν.ks [] D' w'∧pan v)
theorem fP.afterG{h0:H0}{lo:Nat}{D0 D D':aA}{mods:List Nat}{A B ν ν':aC}{w w':World}(h:fP h0 lo D0 mods (A++ν++B) D w)(hs:fP (hd w) w.heap.size D ν.ks ν' D' w'):fP h0 lo D0 mods (A++ν'++B) D' w':=by
 have hle:=aLS h.hlo h.size;have hin:∀c∈ν.ks,∃o,(c,o)∈ν:=fun c hc=>by
  obtain⟨p,hp,rfl⟩:=aIY.1 hc;exact⟨p.2,hp⟩
 have hbx:∀p∈ν,_:=fun p hp=>h.box p (aJG _ (aIZ _ hp))
 have hnd:=h.nd;simp only[aJN]at hnd;have hA:∀p∈A,p.1∉ν.ks∧p.1<w.heap.size:=fun p hp=>⟨fun hm=>(aJJ.1 (aJJ.1 hnd).1).2.2 p.1 (aIY.2 ⟨p,hp,rfl⟩) p.1 hm rfl,bA (h.box p (aJG _ (aJG _ hp))).1⟩
 have hB:∀p∈B,p.1∉ν.ks∧p.1<w.heap.size:=fun p hp=>⟨fun hm=>(aJJ.1 hnd).2.2 p.1 (aIZ _ hm) p.1 (aIY.2 ⟨p,hp,rfl⟩) rfl,bA (h.box p (aIZ _ hp)).1⟩
 have hN:∀p∈ν',p.1∈ν.ks∨w.heap.size≤p.1:=fun p hp=>((hs.box p hp).2.2).symm
 refine⟨h.hlo,aLS h.size hs.size,fun c hc hm=>?_,fun c hc=>?_,hs.agr,fun p hp=>?_,?_,fun p hp=>?_,fun e he=>(hs.env _ rfl).trans (h.env e he)⟩
 ·have hne:c∉ν.ks:=by
   intro hcm;obtain⟨o,ho⟩:=hin c hcm;rcases(hbx _ ho).2.2 with h'|h'
   ·have:=h.hlo;simp at h';omega
   ·exact hm h'
  rw[hs.old c (aLU hc hle) hne];exact h.old c hc hm
 ·rw[hs.dold c (aLU hc hle)];exact h.dold c hc
 ·rcases aJO.1 hp with hp|hp
  ·rcases aJO.1 hp with hp|hp
   ·obtain⟨h1,h2,h3⟩:=h.box p (aJG _ (aJG _ hp));obtain⟨hne,hl⟩:=hA p hp;exact⟨by rw[hs.old _ hl hne];exact h1,by rw[hs.dold _ hl];exact h2,h3⟩
   ·obtain⟨q1,q2,q3⟩:=hs.box p hp;refine⟨q1,q2,?_⟩;rcases q3 with q3|q3
    ·exact aJQ (aLS h.size q3)
    ·obtain⟨o,ho⟩:=hin p.1 q3;exact(hbx _ ho).2.2
  ·obtain⟨h1,h2,h3⟩:=h.box p (aIZ _ hp);obtain⟨hne,hl⟩:=hB p hp;exact⟨by rw[hs.old _ hl hne];exact h1,by rw[hs.dold _ hl];exact h2,h3⟩
 ·simp only[aJN];rw[aJJ,aJJ];refine⟨⟨(aJJ.1 (aJJ.1 hnd).1).1,hs.nd,fun a ha b hb e=>?_⟩,(aJJ.1 hnd).2.1,fun a ha b hb e=>?_⟩
  ·obtain⟨p,hp,rfl⟩:=aIY.1 ha;obtain⟨q,hq,rfl⟩:=aIY.1 hb;obtain⟨h1,h2⟩:=hA p hp;rcases hN q hq with h3|h3
   ·exact h1 (e▸h3)
   ·omega
  ·rcases aJO.1 ha with ha|ha
   ·exact(aJJ.1 hnd).2.2 a (aJG _ ha) b hb e
   ·obtain⟨p,hp,rfl⟩:=aIY.1 ha;obtain⟨q,hq,rfl⟩:=aIY.1 hb;obtain⟨h1,h2⟩:=hB q hq;rcases hN p hp with h3|h3
    ·exact h1 (e▸h3)
    ·omega
 ·rcases aJO.1 hp with hp|hp
  ·rcases aJO.1 hp with hp|hp
   ·exact h.fz p (aJG _ (aJG _ hp))
   ·exact hs.fz p hp
  ·exact h.fz p (aIZ _ hp)
theorem aCU{c:Operand}{xs:Array Operand}{ats:Array TypeId}{f:FuncId}{c1 c2:List Value}{vs:List Value}{A B ν:aC}{post:aA→Value→aC→Prop}{pan:Value→Prop}(ho:all[ix]?= some ⟨some d,.call {callee:=.value c,args:=xs,argTypes:=ats},ty,pos,aft,g⟩)(hc:ev σ c=some (.func (.func f) c1.toArray c2.toArray))(hxs:C0 σ xs.toList=some vs)
  (hex:X.ex=none) (hfl:fl=false∨∀p∈ν,p.1∈bad) (hu:∀p∈ν,cN p.2) (hf:∀D,(∀D₁∈Ds,Le D₁ D)→jK P f (c1++vs++c2) D ν post pan) (hN:Nat.blt d X.N=true) (hg:cT all σ g)
  (kp:∀v D,(∀D₁∈Ds,Le D₁ D)→pan v→∀a w,Hl X σ (A++B) (D::Ds) a w→Q (.panic (lG v)) a w)
  (kk:∀v D ν',(∀D₁∈Ds,Le D₁ D)→post D v ν'→WL P X bad all K Q os ((d,v)::σ) (A++ν'++B) (D::Ds)):
  WL P X bad all K Q ((fl,ix)::os) σ (A++ν++B) Ds:=by
 refine dI ho rfl rfl hg fun a w hh=>?_
 obtain⟨h1,h2,h3,D,h4,h5,h6⟩:=id hh;have hF:=hf D h5;have hbx:∀p∈ν,_:=fun p hp=>h4.box p (aJG _ (aIZ _ hp))
 have hnd:=h4.nd;simp only[aJN]at hnd;rw[nO hF.1 (hh.eval hc) (gU (fun _ _ hx=>hh.eval hx) hxs)];refine⟨fun h=>by simp[FW]at h,cS.2 ((hF.2 w h4.agr (fun p hp=>⟨(hbx p hp).1,(hbx p hp).2.1,hu p hp⟩) (aJJ.1 (aJJ.1 hnd).1).2.1).mono ?_)⟩;rintro e w' (⟨v,D',ν',rfl,hs,hpost⟩|⟨v,D',rfl,hs,hpan⟩)
 ·have hle:=eG h4.agr hs;refine⟨fun hflt=>⟨hs.size,fun c hc hcb=>hs.old c hc (fun hm=>?_)⟩,kk v D' ν' (fun D₁ hD₁=>(h5 D₁ hD₁).trans hle) hpost _ _ ?_⟩
  ·obtain⟨p,hp,rfl⟩:=aIY.1 hm;rcases hfl with h|h
   ·rw[hflt]at h;cases h
   ·exact hcb (h p hp)
  ·refine Hl.put ⟨h1,h2,h3,D',h4.afterG hs,fun D₁ hD₁=>?_,by unfold uO;rw[hex];trivial⟩ hN v;rcases aIW.1 hD₁ with rfl|hD₁
   ·exact Le.refl _
   ·exact(h5 D₁ hD₁).trans hle
 ·have hle:=eG h4.agr hs;have h7:=h4.afterG hs;rw[aJF]at h7;exact kp v D' (fun D₁ hD₁=>(h5 D₁ hD₁).trans hle) hpan a w' ⟨h1,h2,h3,D',h7,fun D₁ hD₁=>by
   rcases aIW.1 hD₁ with rfl|hD₁
   ·exact Le.refl _
   ·exact(h5 D₁ hD₁).trans hle,by unfold uO;rw[hex];trivial⟩
theorem _root_.Go.Fs.Zc{c:Operand}{xs:Array Operand}{ats:Array TypeId}{f:FuncId}{c1:List Value}{c2:List Value}{vs:List Value}(A:aC)(B:aC)(ν:aC){post:aA→Value→aC→Prop}{pan:Value→Prop}(e9:(all[ix]?,ev σ c,C0 σ xs.toList,X.ex)=(some ⟨some d,.call {callee:=.value c,args:=xs,argTypes:=ats},ty,pos,aft,g⟩,some (.func (.func f) c1.toArray c2.toArray),some vs,none))(hfl:fl=false∨∀p∈ν,p.1∈bad)(hu:∀p∈ν,cN p.2)(hf:∀D,(∀D₁∈Ds,Le D₁ D)→jK P f (c1++vs++c2) D ν post pan)(kp:∀v D,(∀D₁∈Ds,Le D₁ D)→pan v→∀a w,Hl X σ (A++B) (D::Ds) a w→Q (.panic (lG v)) a w)(kk:∀v D ν',(∀D₁∈Ds,Le D₁ D)→post D v ν'→WL P X bad all K Q os ((d,v)::σ) (A++ν'++B) (D::Ds))(hN:Nat.blt d X.N=true:=by exact rfl)(hg:cT all σ g:=by exact aOJ):WL P X bad all K Q ((fl,ix)::os) σ (A++ν++B) Ds:=aCU (A:=A) (B:=B) (ν:=ν) (aJS (fun z=>z.1) e9) (aJS (fun z=>z.2.1) e9) (aJS (fun z=>z.2.2.1) e9) (aJS (fun z=>z.2.2.2) e9) hfl hu hf hN hg kp kk

def W8(X:Cx)(post:aA→Value→aC→Prop)(pan:Value→Prop):Ending→World→Prop:=fun e w'=>
 (∃v D' ν',e=.returned v∧fP X.h0 X.lo X.D0 X.mods ν' D' w'∧post D' v ν')∨(∃v D',e=.panicked (lG v)∧fP X.h0 X.lo X.D0 X.mods [] D' w'∧pan v)
theorem cX{fn:Func}{R:Ending→World→Prop}:PI (bodyPost P fn R):=fun _ _ _ _ he h=>⟨he.trans h.1,h.2⟩
theorem dL{f:FuncId}{fn:Func}{c:Code}{args:List Value}{D:aA}{ν:aC}{post:aA→Value→aC→Prop}{pan:Value→Prop}(N:Nat)(hf:P.funcs[f]?= some fn)(hn:(fn.name== "runtime.NumGoroutine")=false)(hb:fn.body=some c)(hN:fn.ntmps=N)(hsz:Nat.ble args.length N=true)
  (h:∀h0:H0,(∀p∈ν,p.1<h0.size)→ν.ks.Nodup→WC P (mE N h0 D ν.ks) (bodyPost P fn (W8 (mE N h0 D ν.ks) post pan)) c (gJ 0 args) ν [D]):jK P f args D ν post pan:=by
 refine⟨EF.of hf hn hb,fun w hw hν hnd=>?_⟩;subst hN;have hsz:=aLJ hsz;refine(cS (r:=none) (n:=0)).1 ((callsIn_of_wp (R:=W8 (mE fn.ntmps (hd w) D ν.ks) post pan) hf hb aOJ (h (hd w) (fun p hp=>bA (hν p hp).1) hnd _ w ⟨?_,fun s v hs=>?_,rfl,D,⟨aJU _,aJU _,fun _ _ _=>rfl,fun _ _=>rfl,hw,(fun p hp=>?_),hnd,(fun p hp=>(hν p hp).2.2),fun e he=>aJZ he⟩,fun D₁ h1=>?_,aOJ⟩) rfl).mono ?_)
 ·simp[mE];omega
 ·obtain⟨_,h2⟩:=eL args 0 s v hs;have hl:=(aJK.1 h2).1;simp only[aML]at h2 hl;show(args.toArray++_)[s]?= some v;rw[aLX Yam];simpa using h2
 ·exact⟨(hν p hp).1,(hν p hp).2.1,aJE (aIY.2 ⟨p,hp,rfl⟩)⟩
 ·simp only[aJR]at h1;subst h1;exact Le.refl _
 ·rintro e w' (⟨v,D',ν',rfl,hs,hp⟩|⟨v,D',rfl,hs,hp⟩)
  ·exact aJQ ⟨v,D',ν',rfl,hs,hp⟩
  ·exact aJE ⟨v,D',rfl,hs,hp⟩
theorem dC{fn:Func}{A B ν':aC}{post:aA→Value→aC→Prop}{pan:Value→Prop}{e:Exit}(he:(match e with|.normal=>true|.ret=>true|_=>false)=true){rs:List ResultVar}{vs:List Value}(hds:X.ds=[])(hr:fn.results=rs.toArray)(h:rW P X σ (A++ν'++B) rs vs)
  (hp:∀D,(∀D₁∈Ds,Le D₁ D)→post D (mX vs) ν'):∀a w,Hl X σ (A++ν'++B) Ds a w→bodyPost P fn (W8 X post pan) e a w:=by
 intro a w hh;have hrun:=fZ hh hr h;obtain⟨h1,h2,h3,D,h4,h5,h6⟩:=hh;have hnd:=h4.nd;simp only[aJN]at hnd;have:a.defers=[]∧∃v,(results fn a.tmps).run P w=.ok v w∧W8 X post pan (.returned v) w:=⟨h3.trans hds,_,hrun,aJQ ⟨_,D,ν',rfl,h4.sub (fun p hp=>aJG _ (aIZ _ hp)) (aJJ.1 (aJJ.1 hnd).1).2.1,hp D h5⟩⟩
 cases e<;>first|exact this|cases he
theorem bX{fn:Func}{post:aA→Value→aC→Prop}{pan:Value→Prop}{v:Value}(hds:X.ds=[])(hp:pan v):∀a w,Hl X σ μ Ds a w→bodyPost P fn (W8 X post pan) (.panic (lG v)) a w:=by
 rintro a w ⟨h1,h2,h3,D,h4,h5,h6⟩;exact⟨h3.trans hds,aJE ⟨v,D,rfl,h4.sub (fun p hp=>by cases hp) aLI,hp⟩⟩
theorem aHP{t:TypeId}{fs:Array Field}(ho:all[ix]?= some ⟨some d,.makeInterface t x,ty,pos,aft,g⟩)(ht:P.underlying t=some (.struct fs))(hx:ev σ x=some v)(hN:Nat.blt d X.N=true)(hg:cT all σ g)(k:WL P X bad all K Q os ((d,.iface t v)::σ) μ Ds):WL P X bad all K Q ((fl,ix)::os) σ μ Ds:=
 bG ho rfl rfl hN hg (fun ρ hρ w'=>by
  simp only[execOp,hρ x _ hx];unfold Instr.makeInterface;rw[Sem.run_bind,Sem.run_bind,TU.of ht w'];rfl) k
theorem aAU{t:TypeId}{v:Value}(ho:all[ix]?= some ⟨none,.panic x,ty,pos,aft,g⟩)(hx:ev σ x=some (.iface t v))(hg:cT all σ g)(k:∀a w,Hl X σ μ Ds a w→Q (.panic (lG (.iface t v))) a w):WL P X bad all K Q ((fl,ix)::os) σ μ Ds:=by
 refine dI ho rfl rfl hg fun a w hh=>?_
 have e:(execOp a.eval ⟨none,.panic x,ty,pos,aft,g⟩).run P w=.halt (.panic (.iface t v)) w:=by
  simp only[execOp,hh.eval hx,Instr.panic];rfl
 rw[e];exact k a w hh
theorem fI{D:aA}{b:Nat}{l:List Bool}{R:Rd Bool}(hR:∀D x cs,cs=[Value.bool x]→R D x cs)(hA:At D b 0 (l.map Value.bool))(hl:l.length≤1000):Sl D R 1 (.slice (some ⟨b,0,none⟩) l.length l.length) l:=by
 refine⟨_,_,rfl,aJU _,by omega,aJE ⟨b,0,rfl,fun i x hi=>⟨_,hR _ _ _ rfl,rfl,fun j v hj=>?_⟩⟩⟩;cases j with
 |zero=>
  obtain rfl:Value.bool x=v:=by simpa using hj
  have h:=hA i (.bool x) (by rw[aKA,hi];rfl);simpa using h
 |succ j=>simp at hj
theorem jK.frame{f:FuncId}{args:List Value}{D:aA}{ν A B:aC}{post post':aA→Value→aC→Prop}{pan:Value→Prop}(h:jK P f args D ν post pan)(h1:∀D' v ν',Le D D'→post D' v ν'→post' D' v (A++ν'++B)):jK P f args D (A++ν++B) post' pan:=by
 refine⟨h.1,fun w hw hν hn=>?_⟩;have hnd:=hn;unfold aC.ks at hnd;simp only[aJN]at hnd;refine(h.2 w hw (fun p hp=>hν p (aJG _ (aIZ _ hp))) (aJJ.1 (aJJ.1 hnd).1).2.1).mono ?_;have hst:fP (hd w) w.heap.size D (A++ν++B).ks (A++ν++B) D w:=by
  refine⟨aJU _,aJU _,fun _ _ _=>rfl,fun _ _=>rfl,hw,fun p hp=>⟨(hν p hp).1,(hν p hp).2.1,aJE (aIY.2 ⟨p,hp,rfl⟩)⟩,hn,(fun p hp=>(hν p hp).2.2),fun e he=>aJZ he⟩
 rintro e w' (⟨v,D',ν',he,hs,hp⟩|⟨v,D',he,hs,hp⟩)
 ·exact aJQ ⟨v,D',A++ν'++B,he,hst.afterG hs,h1 _ _ _ (eG hw hs) hp⟩
 ·have h7:=hst.afterG hs;exact aJE ⟨v,D',he,h7.sub (fun p hp=>by cases hp) aLI,hp⟩
theorem XH{t e tr:TypeId}{a:Option Addr}{n c:Nat}{ats:Array TypeId}(ho:all[ix]?= some ⟨some d,.call {callee:=.builtin .len,args:=#[x],argTypes:=ats},tr,pos,aft,g⟩)(ht:P.underlying t=some (.slice e))(hx:ev σ x=some v)(hv:v=.slice a n c)(h0:ats[0]?= some t)
  (hN:Nat.blt d X.N=true) (hg:cT all σ g) (kk:WL P X bad all K Q os ((d,.int .i64 (n:Int))::σ) μ Ds):WL P X bad all K Q ((fl,ix)::os) σ μ Ds:=by
 subst hv;exact iC ho ht hx h0 hN hg kk
theorem gF{t tr:TypeId}{b:ByteArray}{ats:Array TypeId}(ho:all[ix]?= some ⟨some d,.call {callee:=.builtin .len,args:=#[x],argTypes:=ats},tr,pos,aft,g⟩)(ht:P.underlying t=some .string)(hx:ev σ x=some (.string b))(hat:ats[0]?= some t)
  (hN:Nat.blt d X.N=true) (hg:cT all σ g) (kk:WL P X bad all K Q os ((d,.int .i64 (b.size:Int))::σ) μ Ds):WL P X bad all K Q ((fl,ix)::os) σ μ Ds:=
 bG ho rfl rfl hN hg (fun ρ hρ w'=>by
  have hx':=hρ x _ hx;simp[Builtin.len_,hat,hx',Sem.run_bind,TU.of ht w',goInt,Sem.run_pure,go_sem]) kk
end Go.Fs
namespace Go.Fs
namespace C12
structure aI where
 row:C1.dK
 table:C2.aZ
 book:C3.aX
 yard:C7.bI
end C12
open C12
def RB:Rd Bool:=fun _ b cs=>cs=[.bool b]
theorem RB.up:RB.Up:=fun _ _ _ h=>h
def RS:Rd ByteArray:=fun _ b cs=>cs=[.string b]
theorem RS.up:RS.Up:=fun _ _ _ h=>h
def bP(s:aI)(pv cv hv lv mv bl bc yc yq:Value):List Value:=
 [pv,cv,.int .i64 s.row.wrong,.int .i64 s.row.off,.int .i64 s.table.last,hv,.int .i64 s.table.step,lv,mv,.int .i64 s.book.chairs,.int .i64 s.book.coin,.int .i64 s.book.box,bl,bc,yc,.int .i64 s.yard.fit,yq]
@[simp] theorem stC_len(s:aI)(pv cv hv lv mv bl bc yc yq:Value):(bP s pv cv hv lv mv bl bc yc yq).length=17:=rfl
structure gN(D:aA)(s:aI)(pv cv hv lv mv bl bc yc yq:Value):Prop where
 pl:Sl D RI 1 pv s.row.places
 ct:Sl D RC 3 cv s.row.counts
 ht:Sl D E0 2 hv s.table.heights
 lev:Sl D RI 1 lv s.table.levels
 mks:Sl D CG 4 mv s.table.marks
 ln:Sl D oL 3 bl s.book.lines
 cn:Sl D qQ 3 bc s.book.counts
 ch:Sl D rP 4 yc s.yard.chairs
 cl:Sl D R2 2 yq s.yard.claims
theorem gN.up{D D':aA}{s:aI}{pv cv hv lv mv bl bc yc yq:Value}(h:gN D s pv cv hv lv mv bl bc yc yq)(hl:Le D D'):gN D' s pv cv hv lv mv bl bc yc yq:=
 ⟨h.pl.up RI.up hl,h.ct.up RC.up hl,h.ht.up E0.up hl,h.lev.up RI.up hl,h.mks.up CG.up hl,h.ln.up oL.up hl,h.cn.up qQ.up hl,h.ch.up rP.up hl,h.cl.up R2.up hl⟩
def fT(D:aA)(v:Value)(s:aI):Prop:=∃pv cv hv lv mv bl bc yc yq,v=.agg (bP s pv cv hv lv mv bl bc yc yq).toArray∧gN D s pv cv hv lv mv bl bc yc yq
theorem fT.up{D D':aA}{v:Value}{s:aI}(h:fT D v s)(hl:Le D D'):fT D' v s:=by
 obtain⟨pv,cv,hv,lv,mv,bl,bc,yc,yq,e,h1⟩:=h;exact⟨pv,cv,hv,lv,mv,bl,bc,yc,yq,e,h1.up hl⟩
theorem gN.row{D:aA}{s:aI}{pv cv hv lv mv bl bc yc yq:Value}(h:gN D s pv cv hv lv mv bl bc yc yq):mW D (.agg #[pv,cv,.int .i64 s.row.wrong,.int .i64 s.row.off]) s.row:=⟨pv,cv,rfl,h.pl,h.ct⟩
theorem gN.table{D:aA}{s:aI}{pv cv hv lv mv bl bc yc yq:Value}(h:gN D s pv cv hv lv mv bl bc yc yq):gT D (.agg #[.int .i64 s.table.last,hv,.int .i64 s.table.step,lv,mv]) s.table:=⟨hv,lv,mv,rfl,h.ht,h.lev,h.mks⟩
theorem gN.book{D:aA}{s:aI}{pv cv hv lv mv bl bc yc yq:Value}(h:gN D s pv cv hv lv mv bl bc yc yq):fW D (.agg #[.int .i64 s.book.chairs,.int .i64 s.book.coin,.int .i64 s.book.box,bl,bc]) s.book:=⟨bl,bc,rfl,h.ln,h.cn⟩
theorem gN.yard{D:aA}{s:aI}{pv cv hv lv mv bl bc yc yq:Value}(h:gN D s pv cv hv lv mv bl bc yc yq):lO D (.agg #[yc,.int .i64 s.yard.fit,yq]) s.yard:=⟨yc,yq,rfl,h.ch,h.cl⟩
end Go.Fs
namespace Go.Fs
open Go.Proofs
namespace L1
open C1
theorem hU{α:Type}{p:α→Bool}{xs:List α}{k:Nat}{x:α}(hx:xs[k]?= some x)(h:(xs.take k).any p=false)(hp:p x=true):idxOf p xs=k:=by
 have hk:=(aJK.1 hx).1;have he:=(aJK.1 hx).2;have h1:xs.any p=true:=aOH.2 ⟨x,aJA hx,hp⟩;have h2:xs.findIdx p=k:=by
  rw[List.findIdx_eq hk];refine⟨by rw[he];exact hp,fun j hj=>?_⟩
  have:=List.any_eq_false.1 h (xs[j]'Yd) (by
   rw[List.mem_take_iff_getElem];exact⟨j,by omega,rfl⟩)
  simpa using this
 simp[idxOf,h1,h2]
theorem eW{α:Type}{p:α→Bool}{xs:List α}(h:xs.any p=false):idxOf p xs= -1:=by simp[idxOf,h]
theorem hC{α:Type}{p:α→Bool}{xs:List α}:decide (0≤idxOf p xs)=xs.any p:=by
 unfold idxOf;cases h:xs.any p<;>simp
theorem kH{α:Type}{p:α→Bool}{xs:List α}:(!xs.any fun x=> !p x)=xs.all p:=by
 rw[List.all_eq_not_any_not]
theorem dN(n lo hi:Int)(D:aA):Fn Tryz.prog 126 #[.int .i64 n,.int .i64 lo,.int .i64 hi] D (fun _ v=>v=.bool (fR n lo hi)):=by
 refine enter 15 Tryz.func126 rfl rfl rfl rfl fun h0=>C.s1<|Zh rfl<|L.n3<|Za rfl<|Za rfl<|iJ rfl rfl rfl rfl trivial<|Za rfl ?_
 refine' L.anK 4 (s:=10) (p:=14) rfl (fun hg1=>?_) (fun hg1=>?_) ?_;rotate_left
 ·refine Zb rfl<|Zb rfl<|iJ rfl rfl rfl rfl ⟨_,rfl,rfl⟩<|Zac rfl ?_;exact L.cu 3
 ·refine Zk rfl<|Zk rfl<|Zk rfl<|Zad rfl ?_;exact L.cu 3
 refine Zh rfl<|L.n5 ?_;exact leave1 rfl rfl rfl rfl (fun D hD=>rfl)
theorem TL(n:Int)(D:aA):Fn Tryz.prog 131 #[iV n] D (fun _ v=>v=.bool (nE n)):=by
 refine enter 5 Tryz.func131 rfl rfl rfl rfl fun h0=>C.s1<|Zh rfl<|L.n3<|Za rfl<|Zd rfl (fun D1 hD1=>dN _ _ _ _)<|Zh rfl<|L.n5 ?_
 exact leave1 rfl rfl rfl rfl (fun D hD=>rfl)
theorem XM(rv:Value)(r:dK)(c:sC)(D:aA)(hr:mW D rv r):Fn Tryz.prog 129 #[rv,cV c] D (fun _ v=>v=.bool (mO r.places.length c)):=by
 obtain⟨pv,cv,rfl,hp,hc⟩:=hr;refine enter 16 Tryz.func129 rfl rfl rfl rfl fun h0=>C.s1<|Zw rfl (fun q1 E1 hE1 hB1=>Zw rfl (fun q2 E2 hE2 hB2=>Zh rfl<|L.n3<|Zi rfl Tf.f156_1 rfl<|Zf 1 rfl Tf.a3 rfl hB2 rfl<|Zi rfl Tf.f28_0 rfl<|Zf 0 rfl Tf.a25 rfl hB1 rfl<|aR rfl U25 rfl Yk rfl rfl trivial<|Zd rfl (fun D1 hD1=>dN _ _ _ _) ?_));refine Za rfl ?_
 refine' L.anK 4 (s:=11) (p:=15) rfl (fun hg1=>?_) (fun hg1=>?_) ?_;rotate_left
 ·refine Zj rfl Tf.f156_2 rfl<|Zg 2 rfl Tf.a3 rfl hB2 rfl<|Ze rfl (fun D2 hD2=>dN _ _ _ _)<|Zac rfl ?_;exact L.cu 3
 ·refine Zk rfl<|Zk rfl<|Zk rfl<|Zad rfl ?_;exact L.cu 3
 refine Zh rfl<|L.n5 ?_;exact leave1 rfl rfl rfl rfl (fun D hD=>rfl)
theorem pA(sv fv:Value)(xs:List Int)(p:Int→Bool)(D:aA)(hS:Sl D RI 1 sv xs)(hp:cF Tryz.prog D iV fv p):
  Fn Tryz.prog 271 #[sv,fv] D (fun _ v=>v=.int .i64 (idxOf p xs)):=by
 have hl:=hS.len;obtain⟨f,c1,c2,rfl,hf⟩:=hp;refine enter 19 Tryz.func271 rfl rfl rfl rfl fun h0=>C.s1<|Zh rfl<|L.n4<|Za rfl<|aR rfl U25 rfl Yk rfl rfl trivial<|Za rfl<|L.n1<|Zaj<|cJ (γ:=Nat) (fun k=>xs.length-k) (fun k=>k≤xs.length∧(xs.take k).any p=false) (fun k=>[(8,.int .i64 k)]) [(7,_),(4,_),(0,_),(1,_)] (fun k=>[D]) 0 Ye ⟨Yb,aOJ⟩ C.rs (aD) ?_
 rintro k ⟨h1,h2⟩;refine C.s1<|Zae rfl<|L.n2<|aE rfl (fun hc1=>?_) (fun hc1=>?_)
 ·have hk:k<xs.length:=by omega
  obtain⟨x,hx⟩:=C.ge xs k;refine C.kn<|aM<|Zaj<|C.s1<|Za rfl<|Zh rfl<|L.n3<|Za rfl<|Za rfl<|Za rfl<|cU rfl U25 Tf.s3 rfl Yk rfl Yd Yk rfl aOJ (fun b1 o1 cs1 hr1 hcl1 hA1=>?_);obtain rfl:cs1=[.int .i64 _]:=hr1;refine Zf 0 rfl Tf.a3 rfl hA1 rfl<|Zd rfl (fun D1 hD1=>hf x _ (hD1 _ Ye))<|L.n1<|aJ rfl (fun hc2=>?_) (fun hc2=>?_)
  ·refine C.s1<|Za rfl<|Zh rfl<|L.n5<|Zam<|Zai<|Zai<|Zam<|Zai ?_;exact leave1 rfl rfl rfl rfl (fun D hD=>by show Value.int _ _=_;rw[hU hx h2 hc2])
  ·refine bQ<|Zal<|Zah<|C.rg<|Zy rfl<|Za rfl<|Zab ?_;have hpx:p x=false:=hc2;have h3:(xs.take (k+1)).any p=false:=by rw[aJP,hx,aMT,h2];simp[hpx]
   exact aG 12 (k+1) ⟨by omega,h3⟩ Yd ⟨Yb,aOJ⟩ rfl rfl (LE _) (aD)
 ·refine aQ<|Zak<|Zak<|Zan<|Zah<|C.s1<|Zh rfl<|L.n5 ?_;exact leave1 rfl rfl rfl rfl (fun D hD=>by show Value.int _ _=_;rw[eW Yab])
theorem jI(sv fv:Value)(xs:List Int)(p:Int→Bool)(D:aA)(hS:Sl D RI 1 sv xs)(hp:cF Tryz.prog D iV fv p):
  Fn Tryz.prog 206 #[sv,fv] D (fun _ v=>v=.bool (xs.any p)):=by
 refine enter 9 Tryz.func206 rfl rfl rfl rfl fun h0=>C.s1<|Zh rfl<|L.n3<|Za rfl<|Za rfl<|Zd rfl (fun D1 hD1=>pA _ _ xs p _ (Sl.at RI.up hD1 Yk Ye) (hp.up (hD1 _ Ye)))<|nS rfl rfl rfl rfl trivial<|Zh rfl<|L.n5 ?_
 exact leave1 rfl rfl rfl rfl (fun D hD=>by show Value.bool (decide _)=_;rw[hC])
theorem sZ(b:Nat)(fv:Value)(p:Int→Bool)(x:Int)(D:aA)(hp:cF Tryz.prog D iV fv p)(hB:At D b 0 [fv]):
  Fn Tryz.prog 207 #[iV x,.pointer (some ⟨b,0,none⟩)] D (fun _ v=>v=.bool (!p x)):=by
 obtain⟨f,c1,c2,rfl,hf⟩:=hp;refine enter 8 Tryz.func207 rfl rfl rfl rfl fun h0=>C.s1<|Zh rfl<|L.n3<|Zf 0 rfl Tf.a191 rfl hB rfl<|Za rfl<|Zd rfl (fun D1 hD1=>hf x _ (hD1 _ Ye))<|Zag rfl<|Zh rfl<|L.n5 ?_
 exact leave1 rfl rfl rfl rfl (fun D hD=>rfl)
theorem wN(sv fv:Value)(xs:List Int)(p:Int→Bool)(D:aA)(hS:Sl D RI 1 sv xs)(hp:cF Tryz.prog D iV fv p)(h1:fv.cells=#[fv]):
  Fn Tryz.prog 130 #[sv,fv] D (fun _ v=>v=.bool (xs.all p)):=by
 refine enter 9 Tryz.func130 rfl rfl rfl rfl fun h0=>C.s1<|mU (vs:=[fv]) rfl rfl h1 rfl aOJ (fun b D1 hD1 hB=>Zh rfl<|L.n3<|Za rfl<|bB rfl rfl rfl rfl trivial<|Zd rfl (fun D1 hD1=>jI _ _ xs (fun x=> !p x) _ (Sl.at RI.up hD1 Yk Ye) ⟨_,[],[.pointer (some ⟨b,0,none⟩)],rfl,fun x D2 hl=>sZ b fv p x D2 (hp.up ((hD1 _ Ye).trans hl)) (hB.up ((hD1 _ Ye).trans hl))⟩)<|Zag rfl<|Zh rfl<|L.n5 ?_)
 exact leave1 rfl rfl rfl rfl (fun D hD=>by show Value.bool (!_)=_;rw[kH])
theorem oY(sv fv:Value)(xs:List sC)(p:sC→Bool)(D:aA)(hS:Sl D RC 3 sv xs)(hp:cF Tryz.prog D cV fv p):
  Fn Tryz.prog 272 #[sv,fv] D (fun _ v=>v=.int .i64 (idxOf p xs)):=by
 have hl:=hS.len;obtain⟨f,c1,c2,rfl,hf⟩:=hp;refine enter 19 Tryz.func272 rfl rfl rfl rfl fun h0=>C.s1<|Zh rfl<|L.n4<|Za rfl<|aR rfl U26 rfl Yk rfl rfl trivial<|Za rfl<|L.n1<|Zaj<|cJ (γ:=Nat) (fun k=>xs.length-k) (fun k=>k≤xs.length∧(xs.take k).any p=false) (fun k=>[(8,.int .i64 k)]) [(7,_),(4,_),(0,_),(1,_)] (fun k=>[D]) 0 Ye ⟨Yb,aOJ⟩ C.rs (aD) ?_
 rintro k ⟨h1,h2⟩;refine C.s1<|Zae rfl<|L.n2<|aE rfl (fun hc1=>?_) (fun hc1=>?_)
 ·have hk:k<xs.length:=by omega
  obtain⟨x,hx⟩:=C.ge xs k;refine C.kn<|aM<|Zaj<|C.s1<|Za rfl<|Zh rfl<|L.n3<|Za rfl<|Za rfl<|Za rfl<|cU rfl U26 Tf.s156 rfl Yk rfl Yd Yk rfl aOJ (fun b1 o1 cs1 hr1 hcl1 hA1=>?_);obtain rfl:cs1=[.bool _,.int .i64 _,.int .i64 _]:=hr1;refine Zr rfl Tf.a156 rfl hA1 Tf.s156<|Zd rfl (fun D1 hD1=>hf x _ (hD1 _ Ye))<|L.n1<|aJ rfl (fun hc2=>?_) (fun hc2=>?_)
  ·refine C.s1<|Za rfl<|Zh rfl<|L.n5<|Zam<|Zai<|Zai<|Zam<|Zai ?_;exact leave1 rfl rfl rfl rfl (fun D hD=>by show Value.int _ _=_;rw[hU hx h2 hc2])
  ·refine bQ<|Zal<|Zah<|C.rg<|Zy rfl<|Za rfl<|Zab ?_;have hpx:p x=false:=hc2;have h3:(xs.take (k+1)).any p=false:=by rw[aJP,hx,aMT,h2];simp[hpx]
   exact aG 12 (k+1) ⟨by omega,h3⟩ Yd ⟨Yb,aOJ⟩ rfl rfl (LE _) (aD)
 ·refine aQ<|Zak<|Zak<|Zan<|Zah<|C.s1<|Zh rfl<|L.n5 ?_;exact leave1 rfl rfl rfl rfl (fun D hD=>by show Value.int _ _=_;rw[eW Yab])
theorem lY(sv fv:Value)(xs:List sC)(p:sC→Bool)(D:aA)(hS:Sl D RC 3 sv xs)(hp:cF Tryz.prog D cV fv p):
  Fn Tryz.prog 208 #[sv,fv] D (fun _ v=>v=.bool (xs.any p)):=by
 refine enter 9 Tryz.func208 rfl rfl rfl rfl fun h0=>C.s1<|Zh rfl<|L.n3<|Za rfl<|Za rfl<|Zd rfl (fun D1 hD1=>oY _ _ xs p _ (Sl.at RC.up hD1 Yk Ye) (hp.up (hD1 _ Ye)))<|nS rfl rfl rfl rfl trivial<|Zh rfl<|L.n5 ?_
 exact leave1 rfl rfl rfl rfl (fun D hD=>by show Value.bool (decide _)=_;rw[hC])
theorem I7(b:Nat)(fv:Value)(p:sC→Bool)(x:sC)(D:aA)(hp:cF Tryz.prog D cV fv p)(hB:At D b 0 [fv]):
  Fn Tryz.prog 209 #[cV x,.pointer (some ⟨b,0,none⟩)] D (fun _ v=>v=.bool (!p x)):=by
 obtain⟨f,c1,c2,rfl,hf⟩:=hp;refine enter 8 Tryz.func209 rfl rfl rfl rfl fun h0=>C.s1<|Zw rfl (fun q1 E1 hE1 hB1=>Zh rfl<|L.n3<|Zf 0 rfl Tf.a268 rfl hB rfl<|Zr rfl Tf.a156 rfl hB1 Tf.s156<|Zd rfl (fun D1 hD1=>hf x _ (hD1 _ Ye))<|Zag rfl<|Zh rfl<|L.n5 ?_)
 exact leave1 rfl rfl rfl rfl (fun D hD=>rfl)
theorem g9(sv fv:Value)(xs:List sC)(p:sC→Bool)(D:aA)(hS:Sl D RC 3 sv xs)(hp:cF Tryz.prog D cV fv p)(h1:fv.cells=#[fv]):
  Fn Tryz.prog 132 #[sv,fv] D (fun _ v=>v=.bool (xs.all p)):=by
 refine enter 9 Tryz.func132 rfl rfl rfl rfl fun h0=>C.s1<|mU (vs:=[fv]) rfl rfl h1 rfl aOJ (fun b D1 hD1 hB=>Zh rfl<|L.n3<|Za rfl<|bB rfl rfl rfl rfl trivial<|Zd rfl (fun D1 hD1=>lY _ _ xs (fun x=> !p x) _ (Sl.at RC.up hD1 Yk Ye) ⟨_,[],[.pointer (some ⟨b,0,none⟩)],rfl,fun x D2 hl=>I7 b fv p x D2 (hp.up ((hD1 _ Ye).trans hl)) (hB.up ((hD1 _ Ye).trans hl))⟩)<|Zag rfl<|Zh rfl<|L.n5 ?_)
 exact leave1 rfl rfl rfl rfl (fun D hD=>by show Value.bool (!_)=_;rw[kH])
theorem S1(sv:Value)(x:Int)(xs:List Int)(D:aA)(hS:Sl D RI 1 sv (x::xs)):
  Fn Tryz.prog 211 #[sv] D (fun _ v=>v=.int .i64 (xs.foldl min x)):=by
 have hl:=hS.len;simp only[aJD]at hl;refine enter 25 Tryz.func211 rfl rfl rfl rfl fun h0=>C.s1<|Zh rfl<|L.n4<|Za rfl<|aR rfl U25 rfl Yk rfl rfl trivial<|Zae rfl<|L.n1<|aE rfl (fun hc1=>?_) (fun hc1=>?_)
 ·exact absurd hc1 (by simp only[aJD];omega)
 ·refine C.kn<|C.s1<|Za rfl<|cU rfl U25 Tf.s3 rfl Yk rfl Yd (by rfl) rfl aOJ (fun b1 o1 cs1 hr1 hcl1 hA1=>?_);obtain rfl:cs1=[.int .i64 _]:=hr1;refine Zf 0 rfl Tf.a3 rfl hA1 rfl<|Zh rfl<|L.n4<|Zh rfl<|L.n1<|Zaj<|cJ (γ:=Nat) (fun k=>xs.length-k) (fun k=>k≤xs.length) (fun k=>[(3,.int .i64 ((xs.take k).foldl min x)),(4,.int .i64 (k+1:Int))]) [(2,_),(0,_)] (fun k=>[D]) 0 Yd ⟨Yb,Yb,aOJ⟩ C.rs (aD) ?_;rintro k h1;refine C.s2<|Za rfl<|Za rfl<|aR rfl U25 rfl Yk rfl rfl trivial<|Zae rfl<|L.n1<|aE rfl (fun hc2=>?_) (fun hc2=>?_)
  ·simp only[aJD]at hc2;have hk:k<xs.length:=by omega
   obtain⟨y,hy⟩:=C.ge xs k;have hy2:(x::xs)[(k+1:Int).toNat]?= some y:=by rw[show((k:Int)+1).toNat=k+1 by omega];simpa using hy
   refine C.kn<|aM<|Zaj<|C.rg<|Za rfl<|Za rfl<|Za rfl<|cU rfl U25 Tf.s3 rfl Yk rfl Yd Yk rfl aOJ (fun b2 o2 cs2 hr2 hcl2 hA2=>?_);obtain rfl:cs2=[.int .i64 _]:=hr2;refine Zf 0 rfl Tf.a3 rfl hA2 rfl<|RM rfl rfl rfl rfl trivial<|Zh rfl<|Zab<|Zal<|Zah<|C.rg<|Za rfl<|Zy rfl<|Zh rfl<|Zab ?_;have h3:(xs.take (k+1)).foldl min x=min ((xs.take k).foldl min x) y:=by rw[aJP,hy,aLE];rfl
   exact aG 16 (k+1) Yd Yd ⟨(by rw[h3];rfl),Yb,aOJ⟩ rfl rfl (LE _) (aD)
  ·simp only[aJD]at hc2;refine aQ<|Zak<|Zak<|Zan<|Zah<|C.s1<|Za rfl<|Zh rfl<|L.n5 ?_;exact leave1 rfl rfl rfl rfl (fun D hD=>by show Value.int _ _=_;rw[aKC Yd])
theorem jC(sv:Value)(x:Int)(xs:List Int)(D:aA)(hS:Sl D RI 1 sv (x::xs)):
  Fn Tryz.prog 136 #[sv] D (fun _ v=>v=.int .i64 (xs.foldl min x)):=by
 refine enter 5 Tryz.func136 rfl rfl rfl rfl fun h0=>C.s1<|Zh rfl<|L.n3<|Za rfl<|Zd rfl (fun D1 hD1=>S1 _ x xs _ (Sl.at RI.up hD1 Yk Ye))<|Zh rfl<|L.n5 ?_
 exact leave1 rfl rfl rfl rfl (fun D hD=>rfl)
end L1
end Go.Fs
namespace Go.Fs
open Go.Proofs
namespace L1
open C1
theorem y7{r:dK}(h:(decide ((9:Int)<r.places.length)||decide ((6:Int)<r.counts.length))=true):aT r=3:=by
 simp only[aKS,aJV]at h;unfold aT;rw[aJT Yd]
theorem Y0{r:dK}{b:Bool}(h:(decide ((9:Int)<r.places.length)||decide ((6:Int)<r.counts.length))=false)
  (h2:((((decide ((r.places.length:Int)=0)|| !fR r.wrong 0 6)|| !fR r.off 0 9)|| !r.places.all nE)|| !r.counts.all (mO r.places.length))=b):aT r=if b then 1 else 0:=by
 simp only[aMK,aLY]at h;unfold aT;rw[aJM Yd]
 subst h2;by_cases h1:r.places.length=0<;>cases fR r.wrong 0 6<;>cases fR r.off 0 9<;>cases r.places.all nE<;>cases r.counts.all (mO r.places.length)<;>simp[h1]
theorem yR{r:dK}(h:(decide ((9:Int)<r.places.length)||decide ((6:Int)<r.counts.length))=false)
  (h2:((((decide ((r.places.length:Int)=0)|| !fR r.wrong 0 6)|| !fR r.off 0 9)|| !r.places.all nE)|| !r.counts.all (mO r.places.length))=true):aT r=1:=Y0 h h2
theorem oB{r:dK}(h:(decide ((9:Int)<r.places.length)||decide ((6:Int)<r.counts.length))=false)
  (h2:((((decide ((r.places.length:Int)=0)|| !fR r.wrong 0 6)|| !fR r.off 0 9)|| !r.places.all nE)|| !r.counts.all (mO r.places.length))=false):aT r=0:=Y0 h h2
theorem AH{r:dK}{t:List Int}{k:Nat}{x:sC}(hx:r.counts[k]?= some x)(h2:(r.counts.take k).all (fun c=>decide (gX t c≤r.off))=true)(h:¬r.off<gX t x):(r.counts.take (k+1)).all (fun c=>decide (gX t c≤r.off))=true:=by
 rw[aJP,hx,List.all_append,h2];simp;omega
theorem CB{r:dK}{t:List Int}{k:Nat}{x:sC}(hx:r.counts[k]?= some x)(hb:0≤gX t x∧gX t x≤9):
  ((((r.counts.take (k+1)).filter fun c=>decide (0<gX t c)).length:Nat):Int)=((r.counts.take k).filter fun c=>decide (0<gX t c)).length+ [1].foldl min (gX t x):=by
 rw[aJP,hx,aLP,aIX];by_cases h:0<gX t x
 ·simp[h];omega
 ·simp[h];omega
theorem XS{r:dK}{t:List Int}{x:sC}(hx:x∈r.counts)(h:r.off<gX t x):dX r t=false:=by
 unfold dX;rw[List.all_eq_false];exact⟨x,hx,by simp;omega⟩
theorem OH{r:dK}{t:List Int}(h:r.counts.all (fun c=>decide (gX t c≤r.off))=true):dX r t=true:=h
open C1
theorem zX(rv:Value)(r:dK)(D:aA)(hr:mW D rv r):Fn Tryz.prog 76 #[rv] D (fun _ v=>v=.int .i64 (aT r)):=by
 obtain⟨pv,cv,rfl,hp,hc⟩:=hr;refine enter 47 Tryz.func76 rfl rfl rfl rfl fun h0=>C.s1<|Zw rfl (fun q1 E1 hE1 hB1=>Zh rfl<|L.n3<|Zr rfl Tf.a28 rfl hB1 Tf.s28<|bB rfl rfl rfl rfl trivial<|Zh rfl<|L.n2<|Zaj<|C.s1<|Zi rfl Tf.f28_0 rfl ?_);refine Zf 0 rfl Tf.a25 rfl hB1 rfl<|aR rfl U25 rfl Yk rfl rfl trivial<|eB rfl rfl rfl rfl trivial<|Za rfl ?_
 refine' L.orK 5 (s:=11) (p:=16) rfl (fun hg1=>?_) (fun hg1=>?_) ?_;rotate_left
 ·refine Zj rfl Tf.f28_1 rfl<|Zg 1 rfl Tf.a26 rfl hB1 rfl<|aR rfl U26 rfl Yk rfl rfl ⟨_,rfl,rfl⟩<|eB rfl rfl rfl rfl ⟨_,rfl,rfl⟩<|Zad rfl ?_;exact L.cu 4
 ·refine Zk rfl<|Zk rfl<|Zk rfl<|Zk rfl<|Zac rfl ?_;exact L.cu 4
 refine Zh rfl<|L.n1<|aJ rfl (fun hc1=>?_) (fun hc1=>?_)
 ·refine C.s1<|Zh rfl<|L.n5<|Zam<|Zai ?_;exact leave1 rfl rfl rfl rfl (fun D hD=>by show Value.int _ _=_;rw[y7 hc1])
 ·refine C.s1<|Zi rfl Tf.f28_0 rfl<|Zf 0 rfl Tf.a25 rfl hB1 rfl<|aR rfl U25 rfl Yk rfl rfl trivial<|dJ rfl rfl rfl rfl trivial<|Za rfl ?_;refine' L.orK 5 (s:=22) (p:=27) rfl (fun hg2=>?_) (fun hg2=>?_) ?_;rotate_left
  ·refine Zj rfl Tf.f28_2 rfl<|Zg 2 rfl Tf.a3 rfl hB1 rfl<|Ze rfl (fun D1 hD1=>dN _ _ _ _)<|jU rfl rfl rfl ⟨_,rfl,rfl⟩<|Zad rfl ?_;exact L.cu 4
  ·refine Zk rfl<|Zk rfl<|Zk rfl<|Zk rfl<|Zac rfl ?_;exact L.cu 4
  refine Za rfl ?_;refine' L.orK 5 (s:=28) (p:=33) rfl (fun hg3=>?_) (fun hg3=>?_) ?_;rotate_left
  ·refine Zj rfl Tf.f28_3 rfl<|Zg 3 rfl Tf.a3 rfl hB1 rfl<|Ze rfl (fun D2 hD2=>dN _ _ _ _)<|jU rfl rfl rfl ⟨_,rfl,rfl⟩<|Zad rfl ?_;exact L.cu 4
  ·refine Zk rfl<|Zk rfl<|Zk rfl<|Zk rfl<|Zac rfl ?_;exact L.cu 4
  refine Za rfl ?_;refine' L.orK 5 (s:=34) (p:=39) rfl (fun hg4=>?_) (fun hg4=>?_) ?_;rotate_left
  ·refine Zj rfl Tf.f28_0 rfl<|Zg 0 rfl Tf.a25 rfl hB1 rfl<|Ze rfl (fun D3 hD3=>wN _ _ _ nE _ (Sl.at RI.up hD3 Yk Ye) (.of fun x D2=>TL x D2) rfl)<|jU rfl rfl rfl ⟨_,rfl,rfl⟩<|Zad rfl ?_;exact L.cu 4
  ·refine Zk rfl<|Zk rfl<|Zk rfl<|Zk rfl<|Zac rfl ?_;exact L.cu 4
  refine Za rfl ?_;refine' L.orK 6 (s:=40) (p:=46) rfl (fun hg5=>?_) (fun hg5=>?_) ?_;rotate_left
  ·refine Zj rfl Tf.f28_1 rfl<|Zg 1 rfl Tf.a26 rfl hB1 rfl<|Zb rfl<|Ze rfl (fun D4 hD4=>g9 _ _ _ (mO r.places.length) _ (Sl.at RC.up hD4 Yk Ye) ⟨_,[_],[],rfl,fun c D2 hl=>XM _ r c D2 ⟨_,_,rfl,hp.up RI.up ((hD4 _ Ye).trans hl),hc.up RC.up ((hD4 _ Ye).trans hl)⟩⟩ rfl)<|jU rfl rfl rfl ⟨_,rfl,rfl⟩<|Zad rfl ?_;exact L.cu 5
  ·refine Zk rfl<|Zk rfl<|Zk rfl<|Zk rfl<|Zk rfl<|Zac rfl ?_;exact L.cu 5
  refine Zh rfl<|L.n1<|aJ rfl (fun hc2=>?_) (fun hc2=>?_)
  ·refine C.s1<|Zh rfl<|L.n5<|Zam<|Zai ?_;exact leave1 rfl rfl rfl rfl (fun D hD=>by show Value.int _ _=_;rw[yR hc1 hc2])
  ·refine bQ<|Zal<|Zah<|C.s1<|Zh rfl<|L.n5 ?_;exact leave1 rfl rfl rfl rfl (fun D hD=>by show Value.int _ _=_;rw[oB hc1 hc2])
theorem ZY(c:List Int)(h9:c.length=9)(hb:∀x∈c,0≤x∧x≤1)(D:aA):Fn Tryz.prog 79 #[.agg (ints c).toArray] D (fun _ v=>v=.agg (ints (jP c)).toArray):=by
 refine enter 20 Tryz.func79 rfl rfl rfl rfl fun h0=>C.s1<|Zw rfl (fun q1 E1 hE1 hB1=>Zx rfl Tf.z186 rfl (fun q2=>L.n4<|Zr rfl Tf.a179 rfl hB1 Yx<|Za rfl<|L.n1<|Zaj<|cE (γ:=Nat) (fun k=>9-k) (fun k=>k≤9) (fun k=>[(6,.int .i64 (k:Int))]) [(5,_),(2,_)] (fun k=>[(q2,.cells (ints (lZ c k)).toArray 186 (0,0))]) (fun k=>[E1,D]) 0 Yd ⟨Yb,aOJ⟩ C.rs (LE _) (aD) ?_))
 rintro k h1;refine C.s1<|Zae rfl<|L.n2<|aE rfl (fun hc1=>?_) (fun hc1=>?_)
 ·have hk:k<9:=by omega
  obtain⟨x,hx⟩:=C.ge c k;have hx1:=hb x (aJA hx);have hx2:=fA hb 0 k;have hg1:=CW c k Yd;have hlen:=I4 c k;refine C.kn<|aM<|Zaj<|C.s1<|Za rfl<|I9 rfl U179 Tf.a3 Tf.s3 rfl rfl Yd Yd Yk rfl trivial<|Zh rfl<|Zh rfl<|L.n1<|C.rg<|Za rfl<|Zy rfl ?_;refine Za rfl<|dH rfl U186 Tf.s3 rfl rfl Yd Yd rfl trivial<|aS rfl Tf.a3 rfl (List.Mem.head _) (cD Yk) GT rfl trivial<|Za rfl<|Zy rfl<|dH rfl U186 Tf.s3 rfl rfl Yd Yd rfl trivial<|O9 rfl Tf.s3 rfl rfl (bM.head) (by simp only[*];omega) trivial<|Zab<|Zal<|Zah<|C.rg<|Zy rfl ?_;refine Za rfl<|Zab ?_;rw[←xQ (by simpa using hx),show((k:Int)+1).toNat=k+1 by omega,DS];exact aG 16 (k+1) Yd Yd ⟨Yb,aOJ⟩ rfl rfl (LE _) (aD)
 ·obtain rfl:k=9:=by omega
  rw[q9];have hlen:=mB c;refine aQ<|Zak<|Zak<|Zan<|Zah<|C.s1<|Zu rfl Tf.a186 rfl (List.Mem.head _) (by first|exact Tf.s186|(simp only[aH, *];exact Tf.s186))<|aW rfl rfl rfl rfl Tf.s186 Ya Ya (bM.head) (cY _) trivial<|L.n5 ?_
  exact Zm [_] rfl ⟨⟨_,_,_,rfl,(GE _),aJE ⟨Tf.a186,(by first|exact Tf.s186|(simp only[aKH,aH, *];exact Tf.s186)),rfl⟩⟩,aOJ⟩ (fun D hD=>rfl)
theorem aEL(rv:Value)(r:dK)(c:sC)(t:List Int)(D:aA)(hr:mW D rv r)(hok:oQ r)(ht:mD r t)(hcm:c∈r.counts):
  Fn Tryz.prog 210 #[rv,cV c,.agg (ints (jP t)).toArray] D (fun _ v=>v=.int .i64 (gX t c)):=by
 obtain⟨pv,cv,rfl,hp,hc⟩:=hr;obtain⟨h1,h2,h3,h4⟩:=hok.cnt c hcm;have h9:=hok.len9;have hab:=A5 ht h1 h2 h9;have hs1:=EA ht h1 h2;have hg1:=nZ t c.many.toNat Yd;have hg2:=nZ t r.places.length Yd;have hg3:=nZ t (r.places.length-c.many.toNat) Yd;have hg4:(jP t)[(↑r.places.length-c.many).toNat]?= some (dB t 0 (r.places.length-c.many.toNat)):=by rw[show(↑r.places.length-c.many).toNat=r.places.length-c.many.toNat by omega];exact hg3
 rw[ht.1]at hs1;have hb1:=fA ht.2 0 r.places.length;have hb2:=fA ht.2 0 (r.places.length-c.many.toNat);have hb3:=fA ht.2 0 c.many.toNat;refine enter 37 Tryz.func210 rfl rfl rfl rfl fun h0=>C.s1<|Zw rfl (fun q1 E1 hE1 hB1=>Zw rfl (fun q2 E2 hE2 hB2=>Zw rfl (fun q3 E3 hE3 hB3=>Zh rfl<|L.n3<|Zi rfl Tf.f156_1 rfl<|Zf 1 rfl Tf.a3 rfl hB2 rfl<|dH rfl U186 Tf.s3 rfl rfl Yd Yd rfl trivial<|gL rfl Tf.a3 rfl hB3 Ye (cD hg1) GT rfl trivial<|Zh rfl ?_)));refine L.n4<|Zi rfl Tf.f28_0 rfl<|Zf 0 rfl Tf.a25 rfl hB1 rfl<|aR rfl U25 rfl Yk rfl rfl trivial<|Zh rfl<|L.n3<|Zi rfl Tf.f156_0 rfl<|Zf 0 rfl Tf.a4 rfl hB2 rfl<|L.n1<|aJ rfl (fun hc1=>?_) (fun hc1=>?_)
 ·rw[aJT hc1]at hs1;refine C.drawA [] 5 11 504 (fun _ _ _ h=>cA (P:=Tryz.prog) (fn:=Tryz.f210) _ _ _ h)<|Za rfl<|dH rfl U186 Tf.s3 rfl rfl Yd Yd rfl trivial<|gL rfl Tf.a3 rfl hB3 Ye (cD hg2) GT rfl trivial<|Za rfl<|Zi rfl Tf.f156_1 rfl<|Zf 1 rfl Tf.a3 rfl hB2 rfl<|fX rfl rfl rfl Yf rfl trivial<|dH rfl U186 Tf.s3 rfl rfl Yd Yd rfl trivial<|gL rfl Tf.a3 rfl hB3 Ye (cD hg4) GT rfl trivial<|fX rfl rfl rfl Yf rfl trivial<|Zh rfl ?_;refine L.n3<|Za rfl<|Zi rfl Tf.f156_2 rfl<|Zf 2 rfl Tf.a3 rfl hB2 rfl<|fX rfl rfl rfl Yf rfl trivial<|Zi rfl Tf.f156_2 rfl<|Zf 2 rfl Tf.a3 rfl hB2 rfl<|Za rfl<|fX rfl rfl rfl Yf rfl trivial<|oZ rfl rfl rfl rfl trivial<|Zh rfl<|L.n5 ?_;exact leave1 rfl rfl rfl rfl (fun D hD=>by show Value.int _ _=_;rw[←hs1];rfl)
 ·rw[aJM (by simp[hc1])]at hs1;refine C.kn<|C.s1<|Za rfl<|Zi rfl Tf.f156_2 rfl<|Zf 2 rfl Tf.a3 rfl hB2 rfl<|fX rfl rfl rfl Yf rfl trivial<|Zi rfl Tf.f156_2 rfl<|Zf 2 rfl Tf.a3 rfl hB2 rfl<|Za rfl<|fX rfl rfl rfl Yf rfl trivial<|oZ rfl rfl rfl rfl trivial<|Zh rfl ?_;refine L.n5 ?_;exact leave1 rfl rfl rfl rfl (fun D hD=>by show Value.int _ _=_;rw[←hs1];rfl)
theorem PL(rv:Value)(r:dK)(t:List Int)(D:aA)(hr:mW D rv r)(hok:oQ r)(ht:mD r t):
  Fn Tryz.prog 135 #[rv,.agg (ints (jP t)).toArray] D (fun D' v=>Sl D' RI 1 v (r.counts.map (gX t))):=by
 obtain⟨pv,cv,rfl,hp,hc⟩:=hr;have h6:=hok.cnt6;have hsl:=mB t;refine enter 23 Tryz.func135 rfl rfl rfl rfl fun h0=>C.s1<|Zw rfl (fun q1 E1 hE1 hB1=>Zw rfl (fun q2 E2 hE2 hB2=>Zh rfl<|L.n4<|Zi rfl Tf.f28_1 rfl<|Zf 1 rfl Tf.a26 rfl hB1 rfl<|aR rfl U26 rfl Yk rfl rfl trivial<|Za rfl<|L.n1<|Zaj ?_));refine cE (γ:=Nat×Value×aC) (fun g=>r.counts.length-g.1) (fun g=>g.1≤r.counts.length∧bL 3 1 g.2.1 g.1 (ints ((r.counts.take g.1).map (gX t))) g.2.2) (fun g=>[(10,.int .i64 (g.1:Int)),(4,g.2.1)]) [(9,_),(8,_),(3,_),(2,_)] (fun g=>g.2.2++[]) (fun g=>[E2,E1,D]) (0,.slice none 0 0,[]) ⟨by simp,by simpa [ints]using bL.nil⟩ ⟨Yb,Yb,aOJ⟩ C.rs (LE _) (aD) ?_
 rintro⟨k,v,ν⟩ ⟨h1,ha⟩;refine C.s1<|Zae rfl<|L.n2<|aE rfl (fun hc1=>?_) (fun hc1=>?_)
 ·have hk:k<r.counts.length:=by omega
  obtain⟨x,hx⟩:=C.ge r.counts k;have hxm:=aJA hx;refine C.kn<|aM<|Zaj<|C.s1<|cU rfl U26 Tf.s156 rfl Yk rfl Yd Yk rfl aOJ (fun b1 o1 cs1 hr1 hcl1 hA1=>?_);obtain rfl:cs1=[.bool _,.int .i64 _,.int .i64 _]:=hr1;refine Zr rfl Tf.a156 rfl hA1 Tf.s156<|Zx rfl Tf.z156 rfl (fun q3=>Zv rfl Tf.s156 (bM.head)<|L.n1<|C.rg<|Za rfl<|Zr rfl Tf.a28 rfl hB1 Tf.s28<|Zu rfl Tf.a156 rfl (List.Mem.head _) Tf.s156<|cQ rfl Tf.a186 rfl hB2 Yc (by first|exact Tf.s186|(simp only[aH, *];exact Tf.s186)) GT rfl trivial<|Zd rfl (fun D1 hD1=>aEL _ r x t _ ⟨_,_,rfl,hp.up RI.up (hD1 _ Ye),hc.up RC.up (hD1 _ Ye)⟩ hok ht hxm)<|Zp rfl U25 Tf.s3 Tf.z3 rfl rfl rfl rfl (.cons rfl rfl .nil) (fun b901 D901 hD901 hA901=>?_))
  have hS901:=Sl.ofInts (l:=[_]) (n:=1) (cap:=1) hA901 rfl Yd Yd;refine aU (A:=[(_,_)]) (B:=_) rfl U25 rfl rfl Tf.s3 Tf.z3 rfl Tf.i3 rfl rfl rfl ha (jE.lit hA901) Ye rfl Yaf Yi Yd (aJQ rfl) rfl aOJ (fun v1 ν1 ha1=>?_);have ha2:bL 3 1 v1 (k+1) (ints ((r.counts.take (k+1)).map (gX t))) ν1:=by rw[aJP,hx,aLC,aJN,←eN];exact ha1
  refine Zh rfl<|Zab<|Zal<|Zah<|C.rg<|Zy rfl<|Za rfl<|Zab ?_;exact aG 16 (k+1,v1,ν1) ⟨by simp only;omega,ha2⟩ Yl ⟨Yb,Yb,aOJ⟩ rfl rfl (List.Sublist.cons _ (LE _)) (fun D h=>⟨D,LT _ (h),Le.refl D⟩)
 ·obtain rfl:k=r.counts.length:=by omega
  rw[aKN]at ha;refine aQ<|Zak<|Zak<|Zan<|Zah<|C.s1<|Za rfl<|Zh rfl<|L.n5<|eK (A:=[]) (B:=[]) ha rfl (fun D2 hD2 hF=>?_);exact leave1 rfl rfl rfl rfl (fun D hD=>(hF.ints Ye Yd).up RI.up (hD _ Ye))
theorem CZ(rv:Value)(r:dK)(t:List Int)(D:aA)(hr:mW D rv r)(hok:oQ r)(ht:mD r t):
  Fn Tryz.prog 78 #[rv,.agg (ints (jP t)).toArray] D (fun _ v=>v=.tuple #[.int .i64 (if dX r t then(oF r t:Int)else 0),.bool (dX r t)]):=by
 obtain⟨pv,cv,rfl,hp,hc⟩:=hr;have h6:=hok.cnt6;have hsl:=mB t;refine enter 27 Tryz.func78 rfl rfl rfl rfl fun h0=>C.s1<|Zw rfl (fun q1 E1 hE1 hB1=>Zw rfl (fun q2 E2 hE2 hB2=>Zh rfl<|Zh rfl<|L.n4<|Zr rfl Tf.a28 rfl hB1 Tf.s28<|cQ rfl Tf.a186 rfl hB2 Yc (by first|exact Tf.s186|(simp only[aH, *];exact Tf.s186)) GT rfl trivial<|Zt rfl (fun D1 hD1=>PL _ r t _ ⟨_,_,rfl,hp.up RI.up (hD1 _ Ye),hc.up RC.up (hD1 _ Ye)⟩ hok ht) (fun v1 D1 hD1 hp1=>aR rfl U25 rfl hp1 rfl rfl trivial<|Za rfl ?_)));refine L.n1<|Zaj<|cJ (γ:=Nat) (fun k=>r.counts.length-k) (fun k=>k≤r.counts.length∧(r.counts.take k).all (fun c=>decide (gX t c≤r.off))=true) (fun k=>[(12,.int .i64 (k:Int)),(4,.int .i64 (((r.counts.take k).filter fun c=>decide (0<gX t c)).length:Int))]) [(11,_),(10,_),(5,_),(2,_)] (fun k=>[D1,E2,E1,D]) 0 Ye ⟨Yb,Yb,aOJ⟩ C.rs (aD) ?_
 rintro k ⟨h1,h2⟩;refine C.s1<|Zae rfl<|L.n2<|aE rfl (fun hc1=>?_) (fun hc1=>?_)
 ·simp only[aLA]at hc1;have hk:k<r.counts.length:=by omega
  obtain⟨x,hx⟩:=C.ge r.counts k;have hxm:=aJA hx;have hx2:(r.counts.map (gX t))[k]?= some (gX t x):=by rw[aKA,hx];rfl
  have hxb:=DH hok ht hxm;have hlf:=aLZ (fun c=>decide (0<gX t c)) (r.counts.take k);have hlt:(r.counts.take k).length≤k:=aNV _ _;refine C.kn<|aM<|Zaj<|C.s1<|Zs rfl U25 Tf.s3 rfl hp1 rfl hx2 (fun b1 o1 cs1 hr1 hcl1 hA1=>?_);obtain rfl:cs1=[.int .i64 _]:=hr1;refine Zf 0 rfl Tf.a3 rfl hA1 rfl<|Zh rfl<|L.n4<|Za rfl<|Zi rfl Tf.f28_3 rfl<|Zf 3 rfl Tf.a3 rfl hB1 rfl<|eB rfl rfl rfl rfl trivial<|L.n1<|aE rfl (fun hc2=>?_) (fun hc2=>?_)
  ·refine C.s1<|Zh rfl<|Zh rfl<|L.n5<|Zai<|Zam<|Zai<|Zai<|Zam<|Zai ?_;exact Zm [_,_] rfl C.rs (fun D hD=>by show Value.tuple _=_;rw[XS hxm hc2];rfl)
  ·refine C.kn<|C.rg<|Za rfl<|Za rfl<|Zp rfl U25 Tf.s3 Tf.z3 rfl rfl rfl rfl (.cons rfl rfl (.cons rfl rfl .nil)) (fun b901 D901 hD901 hA901=>?_);have hS901:=Sl.ofInts (l:=[_,_]) (n:=2) (cap:=2) hA901 rfl Yd Yd;refine Zd rfl (fun D2 hD2=>jC _ (gX t x) [1] _ (hS901.up RI.up (hD2 _ Ye)))<|yF rfl rfl rfl (by simp only[qR,aLK,List.foldl_nil];omega) rfl trivial<|Zh rfl<|Zab<|Zal<|Zah<|C.rg<|Zy rfl<|Za rfl<|Zab ?_
   exact aG 18 (k+1) ⟨by omega,AH hx h2 hc2⟩ Yd ⟨Yb,(by rw[CB hx hxb];rfl),aOJ⟩ rfl rfl (LE _) (fun D h=>⟨D,LT _ (h),Le.refl D⟩)
 ·simp only[aLA]at hc1;obtain rfl:k=r.counts.length:=by omega
  rw[aKN]at h2;refine aQ<|Zak<|Zak<|Zan<|Zah<|C.s1<|Za rfl<|Zh rfl<|Zh rfl<|L.n5 ?_;exact Zm [_,_] rfl C.rs (fun D hD=>by show Value.tuple _=_;rw[OH h2,aKN];rfl)
theorem wR(t:List Int)(D:aA)(h:t.length≤9)(hb:∀x∈t,0≤x∧x≤1):Fn Tryz.prog 79 #[.agg (ints (eD t)).toArray] D (fun _ v=>v=.agg (ints (jP t)).toArray):=
 (ZY (eD t) (fJ h) (FL hb) D).mono fun _ v _ hv=>by rw[hv,FH]
end L1
end Go.Fs
namespace Go.Fs
open Go.Proofs
namespace L12
def dU(code:Int):Value:=.iface 240 (.agg #[.int .i64 code])
theorem ML(sv:Value)(xs:List Bool)(b:Bool)(D:aA)(hS:Sl D RB 1 sv xs):Fn Tryz.prog 260 #[sv,.bool b] D (fun _ v=>v=.int .i64 (idxOf (fun x=>b==x) xs)):=by
 have hl:=hS.len;refine enter 19 Tryz.func260 rfl rfl rfl rfl fun h0=>C.s1<|Zh rfl<|L.n4<|Za rfl<|aR rfl U327 rfl Yk rfl rfl trivial<|Za rfl<|L.n1<|Zaj<|cJ (γ:=Nat) (fun k=>xs.length-k) (fun k=>k≤xs.length∧(xs.take k).any (fun x=>b==x)=false) (fun k=>[(8,.int .i64 k)]) [(7,_),(4,_),(0,_),(1,_)] (fun k=>[D]) 0 Ye ⟨Yb,aOJ⟩ C.rs (aD) ?_
 rintro k ⟨h1,h2⟩;refine C.s1<|Zae rfl<|L.n2<|aE rfl (fun hc1=>?_) (fun hc1=>?_)
 ·have hk:k<xs.length:=by omega
  obtain⟨x,hx⟩:=C.ge xs k;refine C.kn<|aM<|Zaj<|C.s1<|Za rfl<|Zh rfl<|L.n3<|Za rfl<|Za rfl<|Za rfl<|cU rfl U327 Tf.s4 rfl Yk rfl Yd Yk rfl aOJ (fun b1 o1 cs1 hr1 hcl1 hA1=>?_);obtain rfl:cs1=[.bool _]:=hr1;refine Zf 0 rfl Tf.a4 rfl hA1 rfl<|aFS rfl U4 rfl rfl rfl trivial<|L.n1<|aJ rfl (fun hc2=>?_) (fun hc2=>?_)
  ·refine C.s1<|Za rfl<|Zh rfl<|L.n5<|Zam<|Zai<|Zai<|Zam<|Zai ?_;exact leave1 rfl rfl rfl rfl (fun D hD=>by show Value.int _ _=_;rw[L1.hU hx h2 hc2])
  ·refine bQ<|Zal<|Zah<|C.rg<|Zy rfl<|Za rfl<|Zab ?_;have h3:(xs.take (k+1)).any (fun x=>b==x)=false:=by rw[aJP,hx,aMT,h2];simpa using hc2
   exact aG 12 (k+1) ⟨by omega,h3⟩ Yd ⟨Yb,aOJ⟩ rfl rfl (LE _) (aD)
 ·refine aQ<|Zak<|Zak<|Zan<|Zah<|C.s1<|Zh rfl<|L.n5 ?_;exact leave1 rfl rfl rfl rfl (fun D hD=>by show Value.int _ _=_;rw[L1.eW Yab])
theorem l9(sv:Value)(xs:List Bool)(b:Bool)(D:aA)(hS:Sl D RB 1 sv xs):Fn Tryz.prog 190 #[sv,.bool b] D (fun _ v=>v=.bool (xs.any fun x=>b==x)):=by
 refine enter 9 Tryz.func190 rfl rfl rfl rfl fun h0=>C.s1<|Zh rfl<|L.n3<|Za rfl<|Za rfl<|Zd rfl (fun D1 hD1=>ML _ xs b _ (Sl.at RB.up hD1 Yk Ye))<|nS rfl rfl rfl rfl trivial<|Zh rfl<|L.n5 ?_
 exact leave1 rfl rfl rfl rfl (fun D hD=>by show Value.bool (decide _)=_;rw[L1.hC])
theorem dY(code:Int)(cs:List Bool)(sv:Value)(D:aA)(hS:Sl D RB 1 sv cs):jK Tryz.prog 113 [.int .i64 code,sv] D [] (fun _ _ ν'=>cs.any (fun x=>true==x)=false∧ν'=[]) (fun v=>cs.any (fun x=>true==x)=true∧v=dU code):=by
 refine dL 9 Tryz.func113 rfl rfl rfl rfl (fun h0 hwl hwn=>C.s1<|Za rfl<|Zd rfl (fun D1 hD1=>l9 _ cs true _ (hS.up RB.up (hD1 _ Ye)))<|L.n1<|aJ rfl (fun hc1=>?_) (fun hc1=>?_))
 ·refine C.rg<|Za rfl<|Zq [.int .i64 code] rfl Tf.p240 Tf.z240 rfl rfl<|aHP rfl U240 rfl rfl aOJ ?_;exact aAU rfl rfl aOJ (bX rfl ⟨hc1,rfl⟩)
 ·refine bQ ?_;exact dC (A:=[]) (ν':=[]) (B:=[]) (vs:=[]) rfl rfl rfl aOJ (fun D' hD=>⟨hc1,rfl⟩)
end L12
end Go.Fs
namespace Go.Fs
open Go.Proofs
namespace L1
open C1
def fS(br bY bc bh:Nat)(c:List Int):aC:=[(bh,.cells [.func (.func 134) #[] #[.pointer (some ⟨br,0,none⟩),.pointer (some ⟨bY,0,none⟩),.pointer (some ⟨bc,0,none⟩),.pointer (some ⟨bh,0,none⟩)]].toArray 191 (0,0)),(bc,.cells (ints c).toArray 179 (0,0))]
theorem oD{c pre:List Int}{i:Nat}{k:Int}(h:c.take (i+1)=pre++[k])(hl:pre.length=i):c.take i=pre:=by
 have:=aJS (List.take i) h;rw[List.take_take,aNH (Nat.le_succ i)]at this;rw[this,aKM Yd,aKC Yd]
def l4(x:List Int):List Value:=[.agg (ints x).toArray]
def KL(P:Program)(Dr:aA)(lo l:Nat)(J Jx:List (List Int)→oK)(xs:List (List Int)):Prop:=∀pre x β D w,(∃r,xs=pre++x::r)→tJ lo D w→J pre β D w→(∀b∈β,b<w.heap.size)→Le Dr D→
    gD P l (l4 x) w fun b D' w'=>tJ lo D' w'∧sT β D w D' w'∧(if b then J (pre++[x]) β D' w' else Jx (pre++[x]) β D' w')
def xB(J Jx:List (List Int)→oK)(br bY bc bh:Nat)(places:List Int)(pre:List Int)(i:Nat)(done:List (List Int))(v:Value)(J':oK)(μ':aC):Prop:=
 ∃b c',v=.bool b∧c'.length=9∧c'.take i=pre∧c'.drop places.length=List.replicate (9-places.length) 0∧μ'=fS br bY bc bh c'∧(if b=true then J'=J (done++(cW (places.drop i)).map fun t=>eD (pre++t))else ∃p,J'=Jx p)
theorem qE{lo l:Nat}{J Jx:List (List Int)→oK}{places:List Int}{xs:List (List Int)}{Dr Dy:aA}{Ds:List aA}{br bY bc bh:Nat}{pv cv:Value}{w1 w2:Int}(hn9:places.length≤9)
  (hs:∀pre,vE lo (J pre)) (hsx:∀pre,vE lo (Jx pre)) (hY:KL Tryz.prog Dr lo l J Jx xs) (hDr:Dr∈Ds) (hDy:Dy∈Ds) (hA:At Dr br 0 [pv,cv,.int .i64 w1,.int .i64 w2]) (hpl:Sl Dr RI 1 pv places) (hB:At Dy bY 0 [.func (.yield l) #[] #[]]):
  ∀(j i:Nat) (pre c:List Int) (done rest:List (List Int)) (iv:Int),iv=i→i+j=places.length→pre.length=i→c.length=9→c.take i=pre→c.drop places.length=List.replicate (9-places.length) 0→
   xs=done++(cW (places.drop i)).map (fun t=>eD (pre++t))++rest→
   aGP Tryz.prog 134 [.int .i64 iv,.pointer (some ⟨br,0,none⟩),.pointer (some ⟨bY,0,none⟩),.pointer (some ⟨bc,0,none⟩),.pointer (some ⟨bh,0,none⟩)] lo (J done) (fS br bY bc bh c) Ds (xB J Jx br bY bc bh places pre i done):=by
 intro j;induction j using Nat.strongRecOn with
 |_ j ih=>
 intro i pre c done rest iv hiv hij hl h9 hp hz hxs;subst hiv;have hmx:=hpl.len;refine wG (μ:=fS br bY bc bh c) 41 Tryz.func134 rfl rfl rfl rfl<|C.s1<|Zh rfl<|L.n4<|Za rfl<|Zi rfl Tf.f28_0 rfl<|Zf 0 rfl Tf.a25 rfl hA rfl<|aR rfl U25 rfl Yk rfl rfl trivial<|dJ rfl rfl rfl rfl trivial<|L.n1<|aE rfl (fun hc1=>?_) (fun hc1=>?_)
 ·have hin:i=places.length:=by omega
  subst hin;have hleaf:=(BX h9 hp hl hz).symm;rw[List.drop_length]at hxs;simp only[cW,aJY,aNC,aJF]at hxs;rw[hleaf,aJL,aMU]at hxs;refine C.s1<|Zf 0 rfl Tf.a271 rfl hB rfl<|bJ rfl Tf.a179 rfl (List.Mem.tail _ (List.Mem.head _)) Yx GT rfl trivial<|R1 (l:=l) (J1:=J (done++[c])) (J0:=Jx (done++[c])) rfl rfl rfl rfl (hs _) (hsx _) (fun D w hd hJ hb hl=>hY done c _ D w ⟨rest,hxs⟩ hd hJ (fun b hbm=>by obtain⟨p,hp,rfl⟩:=aIY.1 hbm;exact hb p hp) (hl _ hDr)) rfl aOJ (fun b1 J1 hJ1=>Zh rfl<|L.n5<|Zai ?_)
  exact hZ (P:=Tryz.prog) (fn:=Tryz.f134) (N:=41) (vs:=[_]) rfl rfl ⟨rfl,aOJ⟩ (fun D h=>⟨D,h,Le.refl D⟩) ⟨b1,c,rfl,h9,hp,hz,rfl,by cases b1<;>simp only[hJ1,aLH,aKI,aLR];exact⟨_,rfl⟩;simp[cW,hleaf]⟩
 ·have hin:i<places.length:=by omega
  obtain⟨p,hpi⟩:=C.ge places i;have hd:places.drop i=p::places.drop (i+1):=by rw[aLL hin];congr 1;exact aJZ ((aJC hin).symm.trans hpi)
  rw[hd,←JL]at hxs;refine C.kn<|C.s2<|Za rfl<|L.n1<|Zaj<|xU (γ:=Nat×List Int) (fun g=>2-g.1) (fun g=>g.1≤2∧g.2.length=9∧g.2.take i=pre∧g.2.drop places.length=List.replicate (9-places.length) 0) (fun g=>J (done++DK p (places.drop (i+1)) pre g.1)) (fun g=>[(17,.int .i64 (g.1:Int))]) [(6,_),(0,_),(1,_),(3,_),(4,_)] (fun g=>fS br bY bc bh g.2) (fun g=>Ds) (0,c) ⟨by simp,h9,hp,hz⟩ (by simp[TO]) ⟨Yb,aOJ⟩ C.rs (LE _) (aD) ?_;rintro⟨k,c1⟩ ⟨h11,h91,hp1,hz1⟩;refine C.s1<|Zae rfl<|L.n2<|aE rfl (fun hc2=>?_) (fun hc2=>?_)
  ·refine C.kn<|aM<|Zaj<|C.s1<|Za rfl<|Zh rfl<|L.n3<|Zi rfl Tf.f28_0 rfl<|Zf 0 rfl Tf.a25 rfl hA rfl<|Za rfl<|Zs rfl U25 Tf.s3 rfl hpl rfl hpi (fun b1 o1 cs1 hr1 hcl1 hA1=>?_);obtain rfl:cs1=[.int .i64 _]:=hr1;refine Zf 0 rfl Tf.a3 rfl hA1 rfl<|Zh rfl<|L.n3<|Za rfl<|dJ rfl rfl rfl rfl trivial<|Za rfl ?_;refine' L.orK 4 (s:=27) (p:=31) rfl (fun hg1=>?_) (fun hg1=>?_) ?_;rotate_left
   ·refine Zb rfl<|Zb rfl<|dJ rfl rfl rfl rfl ⟨_,rfl,rfl⟩<|Zad rfl ?_;exact L.cu 3
   ·refine Zk rfl<|Zk rfl<|Zk rfl<|Zac rfl ?_;exact L.cu 3
   refine L.n1<|aJ rfl (fun hc3=>?_) (fun hc3=>?_)
   ·have hpk:p=2∨p=(k:Int):=by simpa using hc3
    obtain⟨rr,hr⟩:=UY (p:=p) (ps:=places.drop (i+1)) (pre:=pre) (k:=k) Yd;have hset:=GM (k:=(k:Int)) h91 hin hn9 hp1 hz1;refine C.s1<|Za rfl<|Za rfl<|dH rfl U179 Tf.s3 rfl rfl Yd Yd rfl trivial<|O9 rfl Tf.s3 rfl rfl (.tail (bM.head)) (by simp only[*];omega) trivial<|L.n3<|Zl rfl Tf.a191 rfl (List.Mem.head _) rfl<|Za rfl<|Zy rfl<|oN rfl rfl rfl rfl (ih (j-1) Yd (i+1) (pre++[(k:Int)]) (c1.set i k) (done++DK p (places.drop (i+1)) pre k) (rr++rest) (i+1:Int) Yd Yd Yaf hset.1 hset.2.1 hset.2.2 (by rw[hxs,hr,KP hpk];simp)) rfl aOJ ?_
    rintro _ J2 _ ⟨b2,c2,rfl,h9',hp',hz',rfl,hJ2⟩;refine Zag rfl<|L.n1<|aJ rfl (fun hc4=>?_) (fun hc4=>?_)
    ·obtain rfl:b2=false:=by simpa using hc4
     refine C.s1<|Zh rfl<|L.n5<|Zam<|Zai<|Zai<|Zam<|Zai ?_;exact hZ (P:=Tryz.prog) (fn:=Tryz.f134) (N:=41) (vs:=[_]) rfl rfl ⟨rfl,aOJ⟩ (fun D h=>⟨D,h,Le.refl D⟩) ⟨false,c2,rfl,h9',oD hp' hl,hz',rfl,by simpa using hJ2⟩
    ·obtain rfl:b2=true:=by simpa using hc4
     refine bQ<|Zal<|Zah<|C.rg<|Zy rfl<|Za rfl<|Zab ?_;exact mG 24 (k+1,c2) ⟨by simp only;omega,h9',oD hp' hl,hz'⟩ Yl (by simpa only[aLH,KP hpk,aJL]using hJ2) ⟨Yb,aOJ⟩ rfl rfl (LE _) (aD)
   ·have hpk:¬(p=2∨p=(k:Int)):=by simpa using hc3
    refine bQ<|Zal<|Zah<|C.rg<|Zy rfl<|Za rfl<|Zab ?_;exact mG 16 (k+1,c1) ⟨by simp only;omega,h91,hp1,hz1⟩ Yl (by rw[aDW hpk]) ⟨Yb,aOJ⟩ rfl rfl (LE _) (aD)
  ·refine aQ<|Zak<|Zak<|Zan<|Zah<|C.s1<|Zh rfl<|L.n5 ?_;exact hZ (P:=Tryz.prog) (fn:=Tryz.f134) (N:=41) (vs:=[_]) rfl rfl ⟨rfl,aOJ⟩ (fun D h=>⟨D,h,Le.refl D⟩) ⟨true,c1,rfl,h91,hp1,hz1,rfl,by simp only[aLH];rw[hd,←JL,show k=2 by omega]⟩
theorem SX(places:List Int)(Dr:aA)(br:Nat)(pv cv:Value)(w1 w2:Int)(hn9:places.length≤9)(hA:At Dr br 0 [pv,cv,.int .i64 w1,.int .i64 w2])(hpl:Sl Dr RI 1 pv places):
  tK Tryz.prog 133 [.pointer (some ⟨br,0,none⟩)] Dr ((cW places).map eD) l4:=by
 refine yL 8 Tryz.func133 rfl rfl rfl rfl (fun lo l J Jx hs hsx hY=>C.s1<|Zw rfl (fun q1 E1 hE1 hB1=>L.n3<|Zx rfl Tf.z179 rfl (fun q2=>L.n3<|Zx rfl Tf.z191 rfl (fun q3=>L.n3<|bB rfl rfl rfl rfl trivial<|Zn rfl Tf.s191 (bM.head) rfl<|L.n1<|C.rg ?_))));refine Zl rfl Tf.a191 rfl (List.Mem.head _) rfl<|oN rfl rfl rfl rfl (qE (l:=l) Yd hs hsx hY Ye Ye hA hpl hB1 places.length 0 [] (List.replicate 9 0) [] [] 0 rfl Yd rfl rfl rfl (List.drop_replicate ..) Ye) rfl aOJ ?_;rintro _ J2 _ ⟨b2,c2,rfl,h9',hp',hz',rfl,hJ2⟩;refine Zab ?_;exact hZ (P:=Tryz.prog) (fn:=Tryz.f133) (N:=8) (vs:=[]) rfl rfl aOJ (fun D h=>⟨D,by simp only[aJR]at h;subst h;simp,Le.refl D⟩) (by cases b2<;>simp at hJ2;exact aJE hJ2;exact aJQ hJ2)
theorem KK(rv:Value)(r:dK)(D:aA)(hr:mW D rv r)(hn9:r.places.length≤9):
  Fn Tryz.prog 77 #[rv] D (fun D' v=>∃br,v=.func (.func 133) #[] #[.pointer (some ⟨br,0,none⟩)]∧tK Tryz.prog 133 [.pointer (some ⟨br,0,none⟩)] D' ((cW r.places).map eD) l4):=by
 obtain⟨pv,cv,rfl,hp,hc⟩:=hr;refine enter 4 Tryz.func77 rfl rfl rfl rfl fun h0=>C.s1<|Zw rfl (fun q1 E1 hE1 hB1=>Zh rfl<|L.n3<|bB rfl rfl rfl rfl trivial<|Zh rfl<|L.n5 ?_)
 exact leave1 rfl rfl rfl rfl (fun D hD=>⟨_,rfl,SX r.places _ q1 pv cv r.wrong r.off hn9 (hB1.up (hD _ Ye)) (hp.up RI.up (hD _ Ye))⟩)
end L1
end Go.Fs
namespace Go.Fs
open Go.Proofs
namespace L1
open C1
theorem CR{c:List Int}{i j:Int}(h0:0≤i)(h1:i≤j):dB c 0 (j+1).toNat-dB c 0 i.toNat=lB c i.toNat j.toNat:=by
 unfold lB;have h:=uY c 0 i.toNat (j.toNat+1-i.toNat);rw[show i.toNat+(j.toNat+1-i.toNat)=(j+1).toNat by omega,aMC]at h;omega
theorem SN{r:dK}{t:List Int}(h:(dX r t&&decide ((if dX r t=true then(oF r t:Int)else 0)≤r.wrong))=true):fits r t=true:=by
 unfold fits;cases he:dX r t<;>simp[he]at h ⊢;exact h
theorem aBV{r:dK}{t:List Int}(h:(dX r t&&decide ((if dX r t=true then(oF r t:Int)else 0)≤r.wrong))=false):fits r t=false:=by
 unfold fits;cases he:dX r t<;>simp[he]at h ⊢;exact h
theorem aCV{r:dK}(h:oQ r)(k:Nat):(((cW r.places).take k).filter (fits r)).length≤512:=by
 have h1:=aLZ (fits r) ((cW r.places).take k);have h2:=sN r.places;have h3:2^r.places.length≤2^9:=aMR Yd h.len9;have h4:((cW r.places).take k).length≤(cW r.places).length:=by rw[aKL];omega
 omega
theorem ZJ{r:dK}(h:oQ r)(k:Nat):∀t∈((cW r.places).take k).filter (fits r),t.length≤9:=fun t ht=>by
 have:=(nC (aNO (List.mem_filter.1 ht).1)).1;have:=h.len9;omega
theorem S6{r:dK}(h:oQ r):(truths r).length≤512:=by
 have h1:=aLZ (fits r) (cW r.places);have h2:=sN r.places;have h3:2^r.places.length≤2^9:=aMR Yd h.len9;show((cW r.places).filter (fits r)).length≤512;omega
open C1
theorem aAT(rv:Value)(r:dK)(i j:Int)(D:aA)(hr:mW D rv r):Fn Tryz.prog 74 #[rv,.int .i64 i,.int .i64 j] D (fun _ v=>v=.bool (nW r i j)):=by
 obtain⟨pv,cv,rfl,hp,hc⟩:=hr;have hl:=hp.len;refine enter 22 Tryz.func74 rfl rfl rfl rfl fun h0=>C.s1<|Zw rfl (fun q1 E1 hE1 hB1=>Zh rfl<|L.n3<|Za rfl<|Zi rfl Tf.f28_0 rfl<|Zf 0 rfl Tf.a25 rfl hB1 rfl<|aR rfl U25 rfl Yk rfl rfl trivial<|fX rfl rfl rfl Yf rfl trivial<|Zd rfl (fun D1 hD1=>dN _ _ _ _)<|Za rfl ?_)
 refine' L.anK 8 (s:=13) (p:=21) rfl (fun hg1=>?_) (fun hg1=>?_) ?_;rotate_left
 ·refine Zb rfl<|Zb rfl<|Zj rfl Tf.f28_0 rfl<|Zg 0 rfl Tf.a25 rfl hB1 rfl<|aR rfl U25 rfl Yk rfl rfl ⟨_,rfl,rfl⟩<|fX rfl rfl rfl Yf rfl ⟨_,rfl,rfl⟩<|Ze rfl (fun D2 hD2=>dN _ _ _ _)<|Zac rfl ?_;exact L.cu 7
 ·refine Zk rfl<|Zk rfl<|Zk rfl<|Zk rfl<|Zk rfl<|Zk rfl<|Zk rfl<|Zad rfl ?_;exact L.cu 7
 refine Zh rfl<|L.n5 ?_;exact leave1 rfl rfl rfl rfl (fun D hD=>rfl)
theorem aDP(c:List Int)(i j:Int)(D:aA)(hi0:0≤i)(hij:i≤j)(hj9:j<9)(hb:∀x∈c,0≤x∧x≤1):Fn Tryz.prog 127 #[.agg (ints (jP c)).toArray,.int .i64 i,.int .i64 j] D (fun _ v=>v=.int .i64 (lB c i.toNat j.toNat)):=by
 have hsl:=mB c;have hg1:=nZ c (j+1).toNat Yd;have hg2:=nZ c i.toNat Yd;have hb1:=fA hb 0 (j+1).toNat;have hb2:=fA hb 0 i.toNat;refine enter 15 Tryz.func127 rfl rfl rfl rfl fun h0=>C.s1<|Zw rfl (fun q1 E1 hE1 hB1=>Zh rfl<|L.n2<|C.drawA [] 4 9 112 (fun _ _ _ h=>cA (P:=Tryz.prog) (fn:=Tryz.f127) _ _ _ h)<|Za rfl<|Zy rfl<|dH rfl U186 Tf.s3 rfl rfl Yd Yd rfl trivial<|gL rfl Tf.a3 rfl hB1 Ye (cD hg1) GT rfl trivial<|Za rfl<|dH rfl U186 Tf.s3 rfl rfl Yd Yd rfl aOJ ?_);refine gL rfl Tf.a3 rfl hB1 Ye (cD hg2) GT rfl trivial<|fX rfl rfl rfl Yf rfl trivial<|Zh rfl<|L.n5 ?_
 exact leave1 rfl rfl rfl rfl (fun D hD=>by show Value.int _ _=_;rw[CR hi0 hij])
theorem oA(lo hi n:Int)(D:aA):Fn Tryz.prog 128 #[.agg #[.int .i64 lo,.int .i64 hi],.int .i64 n] D (fun _ v=>v=.agg #[.int .i64 (min lo n),.int .i64 (max hi n)]):=by
 refine enter 15 Tryz.func128 rfl rfl rfl rfl fun h0=>C.s1<|Zw rfl (fun q1 E1 hE1 hB1=>Zx rfl Tf.z88 rfl (fun q2=>L.n2<|iW [] 4 [0,1,2,5,6,7,8,3,4,9,10] [false,false,true,true,true,true,true,true,true,false,false] [(false,0),(false,1),(true,2),(true,5),(true,6),(true,7),(true,8),(true,3),(true,4),(false,9),(false,10)] Tf.follows (fun _ _ _ h=>cA (P:=Tryz.prog) (fn:=Tryz.f128) _ _ _ h) Yg rfl<|Zi rfl Tf.f88_0 rfl<|Zf 0 rfl Tf.a3 rfl hB1 rfl<|Za rfl<|Zi rfl Tf.f88_1 rfl<|Zf 1 rfl Tf.a3 rfl hB1 rfl<|Za rfl ?_));refine oZ rfl rfl rfl rfl trivial<|Zp rfl U25 Tf.s3 Tf.z3 rfl rfl rfl rfl (.cons rfl rfl (.cons rfl rfl .nil)) (fun b901 D901 hD901 hA901=>?_)
 have hS901:=Sl.ofInts (l:=[_,_]) (n:=2) (cap:=2) hA901 rfl Yd Yd;refine Zd rfl (fun D1 hD1=>jC _ lo [n] _ (hS901.up RI.up (hD1 _ Ye)))<|Zq [.int .i64 (min lo n),.int .i64 (max hi n)] rfl Tf.p88 Tf.z88 rfl rfl<|Zv rfl Tf.s88 (bM.head)<|L.n5 ?_;exact Zm [_] rfl ⟨⟨_,_,_,rfl,(List.Mem.head _),Or.inr ⟨Tf.a88,(by first|exact Tf.s88|(simp only[aKH,aH, *];exact Tf.s88)),rfl⟩⟩,aOJ⟩ (fun D hD=>rfl)
theorem pV(rv:Value)(r:dK)(fine:Bool)(D:aA)(hr:mW D rv r):Fn Tryz.prog 73 #[rv,.bool fine] D (fun D' v=>∃wv,v=.tuple #[wv,.int .i64 (dF r fine)]∧(dF r fine=0→oQ r∧TT D' wv r)):=by
 have hr0:=hr;obtain⟨pv,cv,rfl,hp,hc⟩:=hr;refine m8 55 Tryz.func73 rfl rfl rfl rfl fun h0=>C.s1<|Zw rfl (fun q1 E1 hE1 hB1=>Zh rfl<|Zh rfl<|L.n4<|Zr rfl Tf.a28 rfl hB1 Tf.s28<|Zd rfl (fun D1 hD1=>zX _ r _ (hr0.up (hD1 _ Ye)))<|Zh rfl<|L.n3<|Za rfl<|dZ rfl rfl rfl rfl aOJ ?_);refine L.n1<|aE rfl (fun hc1=>?_) (fun hc1=>?_)
 ·refine C.s1<|Za rfl<|Zh rfl<|Zh rfl<|L.n5<|Zai ?_;exact oX (vs:=[_,_]) rfl rfl rfl C.rs (fun D hD=>⟨_,by rw[dF,aJT hc1];rfl,fun h=>by rw[dF,aJT hc1]at h;exact absurd h hc1⟩)
 ·have hok:oQ r:=X9.1 Yd;refine C.kn<|C.s2<|Za rfl<|Zag rfl<|L.n1<|aJ rfl (fun hc2=>?_) (fun hc2=>?_)
  ·refine C.s1<|Zh rfl<|Zh rfl<|L.n5<|Zai ?_;exact oX (vs:=[_,_]) rfl rfl rfl C.rs (fun D hD=>⟨_,by rw[dF,aJM hc1,aJT Yak];rfl,fun h=>by rw[dF,aJM hc1,aJT Yak]at h;omega⟩)
  ·refine C.kn<|C.s1<|Zr rfl Tf.a28 rfl hB1 Tf.s28<|Zq [pv,cv,.int .i64 r.wrong,.int .i64 r.off,.slice none 0 0] rfl Tf.p176 Tf.z176 rfl rfl<|Y7 rfl (e:=176) rfl rfl rfl aOJ (fun q2=>Zx rfl Tf.z169 rfl (fun q3=>Zn rfl Tf.s169 (bM.head) rfl<|L.n4<|Zr rfl Tf.a28 rfl hB1 Tf.s28<|Zt rfl (fun D2 hD2=>KK _ r _ (hr0.up (hD2 _ Ye)) hok.len9) (fun v2 D2 hD2 hp2=>L.n1<|Zaj ?_)));obtain⟨br,rfl,hit⟩:=hp2;refine mK (γ:=Value×aC) (xs:=(cW r.places).map eD) (enc:=l4) (Dr:=D2) (vQ 179 r) (fun _ _ _=>False) (fun g=>[(q3,.cells [.pointer (some ⟨q2,0,none⟩)].toArray 169 (0,0)),(q2,.cells [pv,cv,.int .i64 r.wrong,.int .i64 r.off,g.1].toArray 176 (0,0))]++g.2) (.slice none 0 0,[]) rfl rfl rfl rfl hit Ye (fun _=>rfl) rfl (by simpa [vQ]using bL.nil) rfl ?_ ?_ (fun _ _ _ _ h=>h.elim)
   ·rintro pre x ⟨v,ν⟩ ⟨us,hx⟩ hΦ l bd rec hh D7 hD7 hst hpend;obtain⟨t,hk,rfl,htm,htake⟩:=tU hx;obtain⟨hlen,htb⟩:=nC htm;have htr:mD r t:=⟨hlen,htb⟩
    have hp9:=fJ (t:=t) (by have:=hok.len9;omega);refine C.rg<|Zx rfl Tf.z179 rfl (fun q4=>Zv rfl Tf.s179 (bM.head)<|Zab ?_);refine fun a w hhh=>rF (A:=[(_,_),(_,_),(_,_)]++ν) (B:=[(bd,.deferred (some []))]) (r:=rec) (l:=l) (by rfl) hst ?_ a w hhh
    refine rZ (fun hnd=>?_);simp only[aJY,aJN,aKW,aJJ,aLO,aKF,aIW,aJO,not_or]at hnd;have hq4:=hnd.1.2.2.1;have hq3:=hnd.2.1.2.1;have hq2:=hnd.2.2.1.1;refine Zaj<|aM<|C.drawA [] 4 9 198 (fun _ _ _ h=>h)<|Zr rfl Tf.a28 rfl hB1 Tf.s28<|bJ rfl Tf.a179 rfl (List.Mem.head _) Yx GT rfl trivial<|Zd rfl (fun D3 hD3=>wR t _ (by have:=hok.len9;omega) htb)<|Zd rfl (fun D4 hD4=>CZ _ r t _ (hr0.up (hD4 _ Ye)) hok htr)<|Za rfl<|Zaa rfl<|Zaa rfl<|Zh rfl<|Zh rfl ?_;refine L.n3<|Za rfl<|Za rfl ?_;refine' L.anK 5 (s:=32) (p:=37) rfl (fun hg1=>?_) (fun hg1=>?_) ?_;rotate_left
    ·refine Zb rfl<|Zj rfl Tf.f28_2 rfl<|Zg 2 rfl Tf.a3 rfl hB1 rfl<|iJ rfl rfl rfl rfl ⟨_,rfl,rfl⟩<|Zac rfl ?_;exact L.cu 4
    ·refine Zk rfl<|Zk rfl<|Zk rfl<|Zk rfl<|Zad rfl ?_;exact L.cu 4
    refine L.n1<|aJ rfl (fun hc3=>?_) (fun hc3=>?_)
    ·have hfit:=SN hc3;refine C.drawA (ν.map (·.1)) 2 11 254 (fun _ _ _ h=>h)<|aS rfl Tf.a169 rfl (List.Mem.tail _ (List.Mem.head _)) rfl Yj rfl trivial<|aS rfl Tf.a169 rfl (List.Mem.tail _ (List.Mem.head _)) rfl Yj rfl trivial<|Zaf rfl<|Zi rfl Tf.f176_1 rfl<|aS rfl Tf.a174 rfl (List.Mem.tail _ (List.Mem.tail _ (List.Mem.head _))) rfl Yj rfl trivial<|bJ rfl Tf.a179 rfl (List.Mem.head _) Yx Yj rfl trivial<|Zp rfl U174 Tf.s179 Tf.z179 rfl rfl rfl rfl (.cons rfl (by simpa using hp9) .nil) (fun b901 D901 hD901 hA901=>aU (A:=[(_,_),(_,_),(_,_)]) (B:=[(l,_),(bd,_)]) rfl U174 rfl rfl Tf.s179 Tf.z179 rfl Tf.i179 rfl rfl rfl hΦ (jE.lit hA901) Ye (by simp[hp9]) (AI (ZJ hok pre.length)) (by simpa using cY _) (by have:=aCV hok pre.length;omega) (aJE (fun p hp=>aIY.2 ⟨p,hp,rfl⟩)) rfl aOJ (fun v1 ν1 ha1=>?_))
     have hI1:vQ 179 r (pre++[eD t]) (v1,ν1):=by unfold vQ;rw[htake,aLP,aMQ,aJT hfit,List.filter_nil,aKE,aKV];simpa using ha1
     simp only[aLO,aKF];refine Zaf rfl<|Zi rfl Tf.f176_1 rfl<|aY rfl rfl rfl ha1.cells1 Tf.s174 (.tail (.tail (bM.head))) Ye rfl ha1.cell1 trivial<|Zab<|Zal ?_;exact fun a w hh=>fN (A:=[(_,_),(_,_)]++ν1) (B:=[(bd,.deferred (some []))]) (v1,ν1) hI1 rfl rfl a w (hh.dropBoxes 1)
    ·have hfit:=aBV hc3;have hI0:vQ 179 r (pre++[eD t]) (v,ν):=by unfold vQ;rw[htake,aLP,aMQ,aJM (by simp[hfit]),List.filter_nil,aJF];exact hΦ
     refine bQ<|Zal ?_;exact fun a w hh=>fN (A:=[(_,_),(_,_)]++ν) (B:=[(bd,.deferred (some []))]) (v,ν) hI0 rfl rfl a w (hh.dropBoxes 1)
   ·rintro⟨v,ν⟩ bd hΦ;have hΦ':bL 179 9 v (truths r).length ((truths r).flatMap fun t=>ints (eD t)) ν:=by simpa [vQ,truths]using hΦ
    have hall:∀t∈truths r,t.length≤9:=fun t ht=>by have:=(nC (List.mem_filter.1 ht).1).1;have:=hok.len9;omega
    have hll:=S6 hok;refine Zal<|Zah<|C.s2<|Zl rfl Tf.a169 rfl (List.Mem.head _) rfl<|Zaf rfl<|Zi rfl Tf.f176_1 rfl<|Zl rfl Tf.a174 rfl (List.Mem.tail _ (List.Mem.head _)) rfl<|dS rfl U174 rfl hΦ' rfl rfl trivial<|dJ rfl rfl rfl rfl trivial<|L.n1<|aE rfl (fun hc4=>?_) (fun hc4=>?_)
    ·have htn:truths r=[]:=aMF.1 Yd;have hask:dF r fine=11:=by rw[dF,aJM hc1,aJM Yak,aJT htn]
     refine C.s1<|Zh rfl<|Zh rfl<|L.n5<|Zai ?_;exact rL (vs:=[_,_]) (A:=[(_,_),(_,_)]++ν) rfl rfl rfl C.rs (fun D hD=>⟨_,by rw[hask];rfl,fun h=>by rw[hask]at h;omega⟩)
    ·have htn:truths r≠[]:=fun e=>hc4 (by rw[e];rfl)
     have hask:dF r fine=0:=by rw[dF,aJM hc1,aJM Yak,aJM htn]
     refine C.kn<|C.s1<|Zl rfl Tf.a169 rfl (List.Mem.head _) rfl<|Zh rfl<|Zh rfl<|L.n5<|eK (A:=[(_,_),(_,_)]) (B:=[(bd,.deferred (some []))]) hΦ' rfl (fun D8 hD8 hF8=>eK (A:=[(_,_)]) (ν:=[(q2,_)]) (B:=[(bd,.deferred (some []))]) (aBM (sz:=5) rfl) rfl (fun D9 hD9 hF9=>?_));exact rL (vs:=[_,_]) (A:=[(_,_)]) rfl rfl rfl C.rs (fun D hD=>⟨_,by rw[hask];rfl,fun _=>⟨hok,q2,pv,cv,v,rfl,(hF9.at Yd).up (hD _ Ye),hp.up RI.up (hD _ Ye),hc.up RC.up (hD _ Ye),(hF8.truths rfl Yd hall).up RT.up (hD _ Ye)⟩⟩)
end L1
end Go.Fs
