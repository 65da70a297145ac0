/- Of the proof of BookWrites: Show, ShowT, Lent, Panic, Diary, AW1, AW2, BW1, AW3, AW4. -/
import Derived.Test.YtelhnbcdablgoaaGreatDoorZBookWritesAC
import Derived.Test.YtelhnbcdablgoaaGreatDoorZBookWritesAB
namespace Go.Fs
variable{P:Program}{X:Cx}{γb:Type}[Membership Nat γb]{bad:γb}{all:Array Oper}{K:Act→World→Prop}{Q:Exit→Act→World→Prop}
variable{σ:bQ}{μ:aC}{Ds:List aA}{os:List (Bool×Nat)}{fl:Bool}{ix:Nat}
variable{d:Nat}{x y z:Operand}{u v:Value}{ty:TypeId}{pos:String}{aft:Array Edge}{g:Option (Nat×Bool)}
def Y6(β:List Nat)(D:aA)(w:World)(bo:Nat)(cs:List Value):Prop:=bo∈β∧D bo=[]∧∃e fz,w.heap[bo]?= some (.cells cs.toArray e fz)
def fK(D:aA)(bo:Nat)(cs:List Value):aA:=fun c=>if c=bo then cs else D c
theorem wP{D:aA}{bo:Nat}{cs:List Value}(h:D bo=[])(h0:bo≠0):Le D (fK D bo cs):=⟨fun c=>by
 unfold fK;split
 ·rename_i e;subst e;rw[h];exact aKW
 ·exact List.prefix_refl _,by unfold fK;rw[aGQ (Ne.symm h0)]⟩
theorem AP(D:aA)(bo:Nat)(cs:List Value):At (fK D bo cs) bo 0 cs:=fun j v hj=>by unfold fK;simpa using hj
theorem Y4{D:aA}{w:World}{bo:Nat}{cs:List Value}{e:TypeId}{fz:Nat×Nat}(h:dQ D w)(hb:w.heap[bo]?= some (.cells cs.toArray e fz))(hD:D bo=[]):dQ (fK D bo cs) w:=h.of (fun c hc=>by
 unfold fK at hc ⊢
 split
 ·rename_i ec;subst ec;exact⟨_,_,_,hb,List.prefix_refl _⟩
 ·rename_i ec;rw[aGQ ec]at hc;exact h.1 c hc) (by unfold fK;rw[aGQ (Ne.symm (h.ne0 hD))]) rfl
theorem fI.hide{w w':World}{D D':aA}{mods:List Nat}{μ:aC}{bo:Nat}{cs:List Value}(h:fI (hd w) w.heap.size (fK D bo cs) mods μ D' w')(hD:D bo=[])(hb0:bo≠0):fI (hd w) w.heap.size D mods μ (fK D' bo []) w':=by
 refine⟨h.hlo,h.size,h.old,fun b hb=>?_,h.agr.of (fun b hb=>?_) (by unfold fK;rw[aGQ (Ne.symm hb0)]) rfl,fun p hp=>?_,h.nd,h.fz,h.env⟩
 ·unfold fK;split
  ·rename_i e;subst e;exact hD.symm
  ·rename_i e;rw[h.dold b hb];unfold fK;rw[aGQ e]
 ·unfold fK at hb ⊢
  split
  ·rename_i e;rw[aGX e]at hb;exact absurd rfl hb
  ·rename_i e;rw[aGQ e]at hb;exact h.agr.1 b hb
 ·obtain⟨h1,h2,h3⟩:=h.box p hp;refine⟨h1,?_,h3⟩;unfold fK;split
  ·rfl
  ·exact h2
def IS{α:Type}(P:Program)(f:FuncId)(cap:List Value)(Dr:aA)(xs:List α)(enc:Nat→List Value)(cells:α→List Value):Prop:=
 EF P f∧∀(lo l:Nat) (J Jx:List α→nY),(∀pre,vI lo (J pre))→(∀pre,vI lo (Jx pre))→
  (∀pre x β D w bo,(∃r,xs=pre++x::r)→sJ lo D w→J pre β D w→(∀b∈β,b<w.heap.size)→Le Dr D→Y6 β D w bo (cells x)→
   fS P l (enc bo) w fun b D' w'=>sJ lo D' w'∧rZ β D w D' w'∧(if b then J (pre++[x]) β D' w' else Jx (pre++[x]) β D' w'))→
  ∀D w,sJ lo D w→Le Dr D→J [] [] D w→Calls P f (.func (.yield l) #[] #[]::cap).toArray w fun e w'=>∃v D',e=.returned v∧sJ lo D' w'∧(J xs [] D' w'∨∃pre,Jx pre [] D' w')
theorem UL{J J1 J0:nY}{l:Nat}{c:Operand}{xs:Array Operand}{ats:Array TypeId}{vs:List Value}(ho:all[ix]?= some ⟨some d,.call {callee:=.value c,args:=xs,argTypes:=ats},ty,pos,aft,g⟩)
  (hc:ev σ c=some (.func (.yield l) #[] #[])) (hxs:H3 σ xs.toList=some vs) (hex:X.ex=some J) (hfl:fl=false) (h0:X.h0=⟨#[],none⟩) (hm:X.mods=[]) (hs1:vI X.lo J1) (hs0:vI X.lo J0)
  (hY:∀D w,sJ X.lo D w→J (μ.map (·.1)) D w→(∀p∈μ,w.heap[p.1]?= some p.2∧D p.1=[])→(∀D₁∈Ds,Le D₁ D)→fS P l vs w fun b D' w'=>sJ X.lo D' w'∧rZ (μ.map (·.1)) D w D' w'∧(if b then J1 (μ.map (·.1)) D' w' else J0 (μ.map (·.1)) D' w'))
  (hN:Nat.blt d X.N=true) (hg:cS all σ g)
  (k1:WL P (X.withEx J1) bad all K Q os ((d,.bool true)::σ) μ Ds) (k0:WL P (X.withEx J0) bad all K Q os ((d,.bool false)::σ) μ Ds):WL P X bad all K Q ((fl,ix)::os) σ μ Ds:=by
 refine dI ho rfl rfl hg fun a w hh=>?_
 obtain⟨h1,h2,h3,D,h4,h5,h6⟩:=id hh;have hJ:J (μ.map (·.1)) D w:=by unfold uF at h6;rw[hex]at h6;exact h6.2
 obtain⟨fn,tmps,assign,body,hy,hr⟩:=hY D w h4.dom hJ (fun p hp=>⟨(h4.box p hp).1,(h4.box p hp).2.1⟩) h5;have e:xs.map a.eval=vs.toArray:=by rw[←iB (fun _ _ hx=>hh.eval hx) hxs,←aKF]
 have hrun:(execOp a.eval ⟨some d,.call {callee:=.value c,args:=xs,argTypes:=ats},ty,pos,aft,g⟩).run P w=.ok (.round l fn tmps assign body) w:=by
  simp only[execOp,resolve,hh.eval hc,Deferred.ofValue,pure_bind,invoke,e];rw[←hy];simp
 rw[hrun];refine⟨fun h=>by simp[FW]at h,(N1 hr).mono ?_⟩;rintro e' w' ⟨b,D',rfl,hd',hh',hb⟩;have hst:fI X.h0 X.lo X.D0 X.mods μ D' w':=by
  refine⟨h4.hlo,hd'.2,(fun b hb=>by rw[h0]at hb;exact absurd hb (aKI _)),(fun b hb=>by rw[h0]at hb;exact absurd hb (aKI _)),hd'.1,fun p hp=>?_,h4.nd,h4.fz,fun e he=>by rw[h0]at he;cases he⟩;obtain⟨p1,p2,p3⟩:=h4.box p hp;obtain⟨q1,q2⟩:=hh'.2.2 p.1 (aGA.2 ⟨p,hp,rfl⟩);exact⟨q1.trans p1,q2.trans p2,p3⟩
 have hds:∀D₁∈Ds,Le D₁ D':=fun D₁ hD₁=>(h5 D₁ hD₁).trans hh'.2.1
 refine⟨(fun h=>by rw[hfl]at h;cases h),?_⟩;cases b with
 |true=>
  refine k1 _ _ (Hl.put (X:=X.withEx J1) ⟨h1,h2,h3,D',hst,hds,⟨hs1,hb⟩⟩ hN _)
 |false=>
  refine k0 _ _ (Hl.put (X:=X.withEx J0) ⟨h1,h2,h3,D',hst,hds,⟨hs0,hb⟩⟩ hN _)
theorem Y7{J J1 J0:nY}{l N lo:Nat}{c:Operand}{xs:Array Operand}{ats:Array TypeId}{vs:List Value}(ho:all[ix]?= some ⟨some d,.call {callee:=.value c,args:=xs,argTypes:=ats},ty,pos,aft,g⟩)
  (hc:ev σ c=some (.func (.yield l) #[] #[])) (hxs:H3 σ xs.toList=some vs) (hfl:fl=false) (hs1:vI lo J1) (hs0:vI lo J0)
  (hY:∀D w,sJ lo D w→J (μ.map (·.1)) D w→(∀p∈μ,w.heap[p.1]?= some p.2∧D p.1=[])→(∀D₁∈Ds,Le D₁ D)→fS P l vs w fun b D' w'=>sJ lo D' w'∧rZ (μ.map (·.1)) D w D' w'∧(if b then J1 (μ.map (·.1)) D' w' else J0 (μ.map (·.1)) D' w'))
  (hN:Nat.blt d N=true) (hg:cS all σ g)
  (kk:∀b J',J'=(if b=true then J1 else J0)→WL P (Xj N lo J') bad all K Q os ((d,.bool b)::σ) μ Ds):WL P (Xj N lo J) bad all K Q ((fl,ix)::os) σ μ Ds:=
 UL (X:=Xj N lo J) ho hc hxs rfl hfl rfl rfl hs1 hs0 hY hN hg (kk true J1 rfl) (kk false J0 rfl)
def QN{γ:Type}(h0:H0)(lo:Nat)(D0:aA)(mods:List Nat)(Ds:List aA)(Φ:γ→Prop)(Mx:γ→aC):nY:=fun β D w=>
 ∃g,Φ g∧fI h0 lo D0 mods (Mx g) D w∧(∀D₁∈Ds,Le D₁ D)∧(∀b∈β,h0.size≤b∧∀D₁∈Ds,D₁ b=[])∧(∀p∈Mx g,p.1∉β)∧∀k∈mods,k∈(Mx g).ks
theorem wG{γ:Type}{h0:H0}{lo:Nat}{D0:aA}{mods:List Nat}{Ds:List aA}{Φ:γ→Prop}{Mx:γ→aC}:vI lo (QN h0 lo D0 mods Ds Φ Mx):=by
 constructor
 ·rintro β D w D' w' ⟨g,hg,hs,hD,hβ,hM,hmk⟩ ⟨hl1,hl2,hl3⟩ hd;have box':∀p∈Mx g,w'.heap[p.1]?= w.heap[p.1]?∧D' p.1=D p.1:=fun p hp=>hl2 p.1 (aY (hs.box p hp).1) (hM p hp)
  refine⟨g,hg,⟨hs.hlo,hd.2,fun b hb hm=>?_,fun b hb=>?_,hd.1,fun p hp=>?_,hs.nd,hs.fz,fun e he=>hl3.trans (hs.env e he)⟩,fun D₁ hD₁=>⟨fun b=>?_,?_⟩,hβ,hM,hmk⟩
  ·have hlt:b<w.heap.size:=by have:=hs.hlo;have:=hs.size;omega
   have hn:b∉β:=fun h=>by have:=(hβ b h).1;omega
   rw[(hl2 b hlt hn).1];exact hs.old b hb hm
  ·have hlt:b<w.heap.size:=by have:=hs.hlo;have:=hs.size;omega
   have hn:b∉β:=fun h=>by have:=(hβ b h).1;omega
   rw[(hl2 b hlt hn).2];exact hs.dold b hb
  ·obtain⟨p1,p2,p3⟩:=hs.box p hp;obtain⟨q1,q2⟩:=box' p hp;exact⟨q1.trans p1,q2.trans p2,p3⟩
  ·by_cases hb:b∈β
   ·rw[(hβ b hb).2 D₁ hD₁];exact aKW
   ·by_cases hlt:b<w.heap.size
    ·rw[(hl2 b hlt hb).2];exact(hD D₁ hD₁).1 b
    ·have:=(hD D₁ hD₁).1 b;rw[hs.agr.fresh (Nat.le_of_not_lt hlt)]at this;rw[List.prefix_nil.1 this];exact aKW
  ·have h0:(0:Nat)∉β:=fun hm=>hs.agr.2.1 ((hD D₁ hD₁).2.trans ((hβ 0 hm).2 D₁ hD₁))
   rw[(hl2 0 hs.agr.pos h0).2];exact(hD D₁ hD₁).2
 ·rintro β β' D w ⟨g,hg,hs,hD,hβ,hM,hmk⟩ hb';refine⟨g,hg,hs,hD,fun b hb=>?_,fun p hp hb=>?_,hmk⟩
  ·rcases hb' b hb with h|h
   ·exact hβ b h
   ·refine⟨by have:=hs.hlo;have:=hs.size;omega,fun D₁ hD₁=>?_⟩;have:=(hD D₁ hD₁).1 b;rw[hs.agr.fresh h]at this;exact List.prefix_nil.1 this
  ·rcases hb' _ hb with h|h
   ·exact hM p hp h
   ·have:=aY (hs.box p hp).1;omega
theorem fI.roundM{h0:H0}{lo:Nat}{D0 D D':aA}{mods:List Nat}{μ μ':aC}{w w':World}(h:fI h0 lo D0 mods μ D w)(hmk:∀k∈mods,k∈μ.ks)(hs:fI (hd w) w.heap.size D (μ.map (·.1)) μ' D' w'):fI h0 lo D0 mods μ' D' w':=by
 have hle:=aJB h.hlo h.size;have hkey:∀b∈μ.map (·.1),lo≤b∨b∈mods:=by
  intro b hb;obtain⟨p,hp,rfl⟩:=aGA.1 hb;exact(h.box p hp).2.2
 refine⟨h.hlo,aJB h.size hs.size,fun b hb hm=>?_,fun b hb=>?_,hs.agr,fun p hp=>?_,hs.nd,hs.fz,fun e he=>(hs.env _ rfl).trans (h.env e he)⟩
 ·rw[hs.old b (aIV hb hle) (fun hk=>by
   rcases hkey b hk with h1|h1
   ·have:=h.hlo;omega
   ·exact hm h1)]
  exact h.old b hb hm
 ·rw[hs.dold b (aIV hb hle)];exact h.dold b hb
 ·obtain⟨p1,p2,p3⟩:=hs.box p hp;refine⟨p1,p2,?_⟩;rcases p3 with p3|p3
  ·exact aGR (by have:=h.size;omega)
  ·exact hkey _ p3
theorem l3{α γ:Type}{xs:List α}{enc:Nat→List Value}{cells:α→List Value}{Dr:aA}{f:FuncId}{cap:List Value}{gop:Operand}{ps:Array Tmp}{assign body:Code}
  (Φ:List α→γ→Prop) (Ψ:List α→Code→γ→Prop) (M:γ→aC) (g₀:γ) (hr:X.r=none) (hex:X.ex=none) (hmods:∀g,∀k∈X.mods,k∈(M g).ks)
  (hg:ev σ gop=some (.func (.func f) #[] cap.toArray)) (hit:IS P f cap Dr xs enc cells) (hDr:Dr∈Ds) (hps:∀b,(enc b).length=ps.size) (hpN:(ps.toList.all fun p=>Nat.blt p X.N)=true) (h₀:Φ [] g₀) (hμ:M g₀=μ)
  (hround:∀pre x g,(∃r,xs=pre++x::r)→Φ pre g→∀(l bd bo:Nat) (rec:Loop) (h0:H0) (D:aA),(∀D₁∈Ds,Le D₁ D)→At D bo 0 (cells x)→rec.state=.ready→rec.pending=none→
   WC P (Xr l X.N h0 D ((M g++(l,Obj.loop rec)::[(bd,Obj.deferred (some []))]).map (·.1)))
    (Exit.then (fun a₁ w₁=>∃w₂,(Instr.beginRound l).run P w₁=.ok () w₂∧body.wpIn ((FW none).inRound l) 0 P (roundPost P l (rS h0 D ((M g++(l,Obj.loop rec)::[(bd,Obj.deferred (some []))]).map (·.1)) (Φ (pre++[x])) (Ψ (pre++[x]))
     (fun g=>M g++(l,Obj.loop {rec with state:=.ready,pending:=none})::[(bd,Obj.deferred (some []))]) (fun c g=>M g++(l,Obj.loop {rec with state:=.done,pending:=some c})::[(bd,Obj.deferred (some []))]))) a₁ w₂) (fun _ _ _=>False))
    assign (sR ps.toList (enc bo) σ) (M g++(l,Obj.loop rec)::[(bd,Obj.deferred (some []))]) (D::Ds))
  (hdone:∀g bd,Φ xs g→∀a w,Hl (X.withDs bd) σ (M g++[(bd,Obj.deferred (some []))]) Ds a w→Q .normal a w)
  (hstop:∀pre c g bd,Ψ pre c g→WC P (X.withDs bd) Q c σ (M g++[(bd,Obj.deferred (some []))]) Ds):WC P X Q (.rangeFunc gop ps assign body) σ μ Ds:=by
 intro a w hh;subst hμ;have hev:=hh.eval hg;obtain⟨h1,h2,h3,D,h4,h5,h6⟩:=hh;refine wpIn_rangeFunc fun fn _=>?_
 have hround':(FW X.r).round=none:=hr;rw[hround'];have hmk:∀g (B:aC),∀k∈X.mods,k∈(M g++B).ks:=fun g B k hk=>by
  show k∈(M g++B).map _;rw[aGS];exact aGI _ (hmods g k hk)
 let bd:=w.heap.size
 let l:=w.heap.size+1
 let rec0:Loop:={state:=.ready,pending:=none,fn,tmps:=a.tmps,params:=ps,assign,body,defers:=bd}
 let w1:World:={w with heap:=w.heap.push (.deferred (some []))}
 let w2:World:={w1 with heap:=w1.heap.push (.loop rec0)}
 have hs1:fI X.h0 X.lo X.D0 X.mods ((bd,Obj.deferred (some []))::M g₀) D w1:=h4.push (.deferred (some [])) trivial;have hs2:fI X.h0 X.lo X.D0 X.mods ((l,Obj.loop rec0)::(bd,Obj.deferred (some []))::M g₀) D w2:=by
  have:=hs1.push (.loop rec0) trivial;have e:w1.heap.size=l:=by simp[w1,l]
  rw[e]at this;exact this
 have hperm:fI X.h0 X.lo X.D0 X.mods (M g₀++(l,Obj.loop rec0)::[(bd,Obj.deferred (some []))]) D w2:=by
  refine hs2.sub (fun p hp=>?_) ?_
  ·simp only[aGP,aGB,GT,aIY]at hp ⊢
   rcases hp with hp|hp|hp
   ·exact aGH (aGH hp)
   ·exact aGR hp
   ·exact aGH (aGR hp)
  ·have hn:=hs2.nd;simp only[aHB,aHX,aGB,not_or]at hn;simp only[aGS,aHB,aKD,aGK,aHX,aGB,GT,aIY,aKU,aID,and_true];refine⟨hn.2.2,hn.1.1,fun q hq r hr'=>?_⟩;rcases hr' with rfl|rfl
   ·rintro rfl;exact hn.1.2 hq
   ·rintro rfl;exact hn.2.1 hq
 refine⟨l,[jF bd],w2,{target:=.fn (.func f) cap.toArray,args:=#[.func (.yield l) #[] #[]]},w2,f,(.func (.yield l) #[] #[]::cap).toArray,w2,run_enterLoop_outer fn a.tmps ps assign body,?_,fun _ _=>trivial,?_,fun h=>by simp[FW]at h,?_⟩
 ·simp only[resolve,Deferred.ofValue];have e:Array.map a.eval #[Operand.const (Value.func (Fn.yield l) #[] #[])]=#[.func (.yield l) #[] #[]]:=by simp[Act.eval]
  rw[e,hev];rfl
 ·simp only[invoke];rw[hit.1];simp
 ·refine cU.2 ((hit.2 X.lo l
   (fun pre=>QN X.h0 X.lo X.D0 X.mods Ds (Φ pre) fun g=>M g++(l,Obj.loop rec0)::[(bd,Obj.deferred (some []))])
   (fun pre=>QN X.h0 X.lo X.D0 X.mods Ds (fun cg:Code×γ=>Ψ pre cg.1 cg.2) fun cg=>M cg.2++(l,Obj.loop {rec0 with state:=.done,pending:=some cg.1})::[(bd,Obj.deferred (some []))])
   (fun _=>wG) (fun _=>wG) ?_ D w2 hs2.dom (h5 Dr hDr) ⟨g₀,h₀,hperm,h5,(fun _ h=>by cases h),(fun _ _ h=>by cases h),hmk g₀ _⟩).mono ?_)
  ·rintro pre x β Dx wx bo hx hdx ⟨g,hΦ,hst,hDs,hβ,hM,hmg⟩ hβs hle ⟨hbo,hbD,be,bfz,hbw⟩;have hbox:=(hst.box (l,Obj.loop rec0) Ye).1;refine⟨fn,_,assign,body,run_yield hbox (by simpa using hps bo),?_⟩;refine(roundIn_of_wpIn (F:=FW none) aLJ (R:=rS (hd wx) (fK Dx bo (cells x)) ((M g++(l,Obj.loop rec0)::[(bd,Obj.deferred (some []))]).map (·.1)) (Φ (pre++[x])) (Ψ (pre++[x]))
     (fun g=>M g++(l,Obj.loop {rec0 with state:=.ready,pending:=none})::[(bd,Obj.deferred (some []))]) (fun c g=>M g++(l,Obj.loop {rec0 with state:=.done,pending:=some c})::[(bd,Obj.deferred (some []))])) ?_).mono ?_
   ·have hw:=hround pre x g hx hΦ l bd bo rec0 (hd wx) (fK Dx bo (cells x)) (fun D₁ h=>(hDs D₁ h).trans (wP hbD (hst.agr.ne0 hbD))) (AP _ _ _) rfl rfl;have ht:(ps.zip (enc bo).toArray).foldl (fun tmps (t,a)=>tmps.setIfInBounds t a) a.tmps=(ps.toList.zip (enc bo)).foldl (fun tmps (p:Tmp×Value)=>tmps.setIfInBounds p.1 p.2) a.tmps:=by
     rw[←Array.foldl_toList];simp
    have hpN':∀p∈ps.toList,p<a.tmps.size:=fun p hp=>by rw[h1];simpa [Nat.blt_eq]using aGY.1 hpN p hp
    refine hw {tmps:=_,defers:=[]} wx ⟨?_,fun s v hs=>?_,rfl,fK Dx bo (cells x),⟨aGW _,aGW _,fun _ _ _=>rfl,fun _ _=>rfl,Y4 hst.agr hbw hbD,fun p hp=>?_,hst.nd,hst.fz,fun e he=>aHC he⟩,fun D₁ hD₁=>?_,aLJ⟩
    ·show((ps.zip (enc bo).toArray).foldl _ a.tmps).size=X.N;rw[ht,vU];exact h1
    ·show((ps.zip (enc bo).toArray).foldl _ a.tmps)[s]?= some v;rw[ht];exact xO _ _ _ _ h2 hpN' s v hs
    ·obtain⟨p1,p2,p3⟩:=hst.box p hp;exact⟨p1,by unfold fK;rw[aGQ (fun e=>hM p hp (by rw[e];exact hbo))];exact p2,aGH (aGA.2 ⟨p,hp,rfl⟩)⟩
    ·rcases aGB.1 hD₁ with rfl|hD₁
     ·exact Le.refl _
     ·exact(hDs D₁ hD₁).trans (wP hbD (hst.agr.ne0 hbD))
   ·rintro e w' ⟨b,D',rfl,hb⟩;have fin:∀μ',fI (hd wx) wx.heap.size (fK Dx bo (cells x)) ((M g++(l,Obj.loop rec0)::[(bd,Obj.deferred (some []))]).map (·.1)) μ' D' w'→fI X.h0 X.lo X.D0 X.mods μ' (fK D' bo []) w'∧rZ β Dx wx (fK D' bo []) w'∧(∀D₁∈Ds,Le D₁ (fK D' bo []))∧(∀p∈μ',p.1∉β):=by
     intro μ' hs0;have hs':=hs0.hide hbD (hst.agr.ne0 hbD);refine⟨hst.roundM hmg hs',fI.roundHigh hst.agr hs' hβs hM,fun D₁ hD₁=>(hDs D₁ hD₁).trans (eR hst.agr hs'),fun p hp hpb=>?_⟩;rcases(hs'.box p hp).2.2 with h|h
     ·have:=hβs _ hpb;omega
     ·obtain⟨q,hq,he⟩:=aGA.1 h;exact hM q hq (by rw[he];exact hpb)
    refine⟨b,fK D' bo [],rfl,?_⟩;cases b with
    |true=>
     obtain⟨g',hg',hs'⟩:=hb;obtain⟨f1,f2,f3,f4⟩:=fin _ hs';exact⟨f1.dom,f2,g',hg',f1,f3,hβ,f4,hmk g' _⟩
    |false=>
     obtain⟨c',g',hg',hs'⟩:=hb;obtain⟨f1,f2,f3,f4⟩:=fin _ hs';exact⟨f1.dom,f2,(c',g'),hg',f1,f3,hβ,f4,hmk g' _⟩
  ·rintro e w' ⟨v,D',rfl,hd,hend⟩;have post:∀(g:γ) (r:Loop),fI X.h0 X.lo X.D0 X.mods (M g++(l,Obj.loop r)::[(bd,Obj.deferred (some []))]) D' w'→(∀D₁∈Ds,Le D₁ D')→
     Hl (X.withDs bd) σ (M g++[(bd,Obj.deferred (some []))]) Ds {a with defers:=[jF bd]++a.defers} (w'.putObj l (.loop {r with state:=.exhausted})):=by
    intro g r hs hD';have hHas:bL (M g++(l,Obj.loop r)::[(bd,Obj.deferred (some []))]) l (.loop r) (.loop {r with state:=.exhausted}) (M g++(l,Obj.loop {r with state:=.exhausted})::[(bd,Obj.deferred (some []))]):=.app .head;have hs':=hs.set (w':=w'.putObj l (.loop {r with state:=.exhausted})) hHas ⟨rfl,rfl⟩ trivial;have hs'':=hs'.sub (μ':=M g++[(bd,Obj.deferred (some []))]) (fun p hp=>by
     rcases aGP.1 hp with hp|hp
     ·exact aGI _ hp
     ·exact aFZ _ (aGE _ hp)) (by
     have hn:=hs'.nd;rw[aGS,aGK]at hn ⊢
     simp only[aHB]at hn;exact⟨hn.1,(aHX.1 hn.2.1).2,fun q hq r hr=>hn.2.2 q hq r (aGE _ hr)⟩)
    exact⟨h1,h2,aGV (jF bd:: ·) h3,D',hs'',hD',by unfold uF;show(match X.ex with|none=>True|some J=>_);rw[hex];trivial⟩
   rcases hend with⟨g,hΦ,hs,hDs,_,_,_⟩|⟨pre,⟨c,g⟩,hΨ,hs,hDs,_,_,_⟩
   ·have hb:=(hs.box (l,Obj.loop rec0) Ye).1;exact⟨none,_,run_endLoop hb (by simp[rec0]),hdone g bd hΦ _ _ (post g rec0 hs hDs)⟩
   ·have hb:=(hs.box (l,Obj.loop {rec0 with state:=.done,pending:=some c}) Ye).1;refine⟨some c,_,run_endLoop hb Ye,?_⟩;have:=hstop pre c g bd hΨ _ _ (post g _ hs hDs);exact this

theorem FK{α:Type}{f:FuncId}{fn:Func}{c:Code}{cap:List Value}{Dr:aA}{xs:List α}{enc:Nat→List Value}{cells:α→List Value}(N:Nat)(hf:P.funcs[f]?= some fn)(hn:(fn.name== "runtime.NumGoroutine")=false)(hb:fn.body=some c)(hN:fn.ntmps=N)(hsz:Nat.ble (cap.length+1) N=true)
  (h:∀(lo l:Nat) (J Jx:List α→nY),(∀pre,vI lo (J pre))→(∀pre,vI lo (Jx pre))→
   (∀pre x β D w bo,(∃r,xs=pre++x::r)→sJ lo D w→J pre β D w→(∀b∈β,b<w.heap.size)→Le Dr D→Y6 β D w bo (cells x)→
    fS P l (enc bo) w fun b D' w'=>sJ lo D' w'∧rZ β D w D' w'∧(if b then J (pre++[x]) β D' w' else Jx (pre++[x]) β D' w'))→
   WC P (Xj N lo (J [])) (bodyPost P fn (zR lo [Dr] fun _ J' _=>J'=J xs∨∃pre,J'=Jx pre)) c (gG 0 (.func (.yield l) #[] #[]::cap)) [] [Dr]):IS P f cap Dr xs enc cells:=by
 refine⟨EF.of hf hn hb,fun lo l J Jx hs hsx hY D w hd hle hJ=>?_⟩;have hF:=vR (μ:=[]) N hf hn hb hN (by simpa using hsz) (h lo l J Jx hs hsx hY);refine(hF.2 w ⟨D,⟨aKO _,hd.2,fun b hb=>absurd hb (aKI _),fun b hb=>absurd hb (aKI _),hd.1,(fun p hp=>by cases hp),aID,(fun p hp=>by cases hp),fun e he=>by cases he⟩,fun D₁ h1=>?_,hs [],hJ⟩).mono ?_
 ·simp only[aGU]at h1;subst h1;exact hle
 ·rintro e w' ⟨v,J',μ',rfl,⟨D',hst,hds,hex⟩,hpost⟩;refine⟨v,D',rfl,hst.dom,?_⟩;have hJ':J' [] D' w':=hex.1.own _ [] D' w' hex.2 (fun b hb=>by cases hb);rcases hpost with rfl|⟨pre,rfl⟩
  ·exact aGR hJ'
  ·exact aGH ⟨pre,hJ'⟩
theorem aM{t e:TypeId}{sz n:Nat}{z0:Value}{zs cs:List Value}{k k':IntKind}(ho:all[ix]?= some ⟨some d,.makeSlice t x y,ty,pos,aft,g⟩)(ht:P.underlying t=some (.slice e))(hs:TS P e sz)(hz:TZ P e z0)(hzc:z0.cells=zs.toArray)(hi:(P.info? e).map (fun i=>Nat.ble 1 i.bytes&&Nat.ble i.bytes 4096)=some true)
  (hx:ev σ x=some (.int k n)) (hy:ev σ y=some (.int k' n)) (hn:n≤10000) (hcs:((Array.range (n*sz)).map (zs.toArray[· %zs.toArray.size]!)).toList=cs) (hN:Nat.blt d X.N=true) (hg:cS all σ g)
  (kk:∀b,WL P X bad all K Q os ((d,.slice (some ⟨b,0,none⟩) n n)::σ) ((b,.cells cs.toArray e (0,0))::μ) Ds):WL P X bad all K Q ((fl,ix)::os) σ μ Ds:=by
 refine dI ho rfl rfl hg fun a w hh=>?_
 obtain⟨h1,h2,h3,D,h4,h5,h6⟩:=id hh;have hn':=hn;obtain⟨i0,hi0,hb⟩:=aIZ.1 hi;simp only[aGO]at hb;have hb1:=aIE hb.1;have hb2:=aIE hb.2;have hti:∀w,(typeInfo e).run P w=.ok i0 w:=fun w=>by simp[typeInfo,program,Sem.run,hi0,go_sem]
 have hw:IntKind.i64.wrap (n:Int)=n:=kR Yf;have hbn:i0.bytes*n≤4096*10000:=Nat.mul_le_mul hb2 hn';have hlarge:(((n:Int)<0)||decide ((i0.bytes:Int)*n>2^48))=false:=by
  have:((i0.bytes*n:Nat):Int)≤40960000:=by omega
  rw[Int.natCast_mul]at this;simp only[aJM,aIT];constructor
  ·omega
  ·omega
 have hzz:∀w,(zeroValue e).run P w=.ok z0 w:=hz;have hrun:(execOp a.eval ⟨some d,.makeSlice t x y,ty,pos,aft,g⟩).run P w=.ok (.value (.slice (some ⟨w.heap.size,0,none⟩) n n)) {w with heap:=w.heap.push (.cells cs.toArray e (0,0))}:=by
  have hcs':(Array.range (n*sz)).map (zs.toArray[· %zs.toArray.size]!)=cs.toArray:=by rw[←hcs]
  have hai:∀(k:IntKind) (m:Int) (w:World),(asInt (.int k m)).run P w=.ok m w:=fun _ _ _=>rfl
  simp only[execOp,Instr.makeSlice,hh.eval hx,hh.eval hy,hai,Sem.run_bind,TU.of ht w,Result.andThen_ok,Sem.run_pure,hti,hw,pure_bind];rw[aGQ (by simp only[aIC,aGZ,not_or];exact⟨⟨by simpa using hlarge,by omega⟩,by omega⟩)]
  simp only[Sem.run_bind,rR,Result.andThen_ok,hs w,aIH];by_cases hnz:n*sz=0
  ·rw[aGX hnz];have h00:∀f:Nat→Value,(Array.range 0).map f=#[]:=fun f=>by simp
   have hc0:cs.toArray=#[]:=by rw[←hcs',hnz];exact h00 _
   simp only[Sem.run_pure,Sem.run_bind,hc0];rw[hnz];simp only[h00,gZ,Result.andThen_ok]
  ·rw[aGQ hnz];simp only[Sem.run_bind,hzz,Result.andThen_ok,Sem.run_pure,hzc,hcs',gZ]
 rw[hrun];have hs':=h4.push (.cells cs.toArray e (0,0)) rfl;refine⟨fun _=>lD _ _ _,kk w.heap.size _ _ (Hl.put ⟨h1,h2,h3,D,hs',h5,h6.step (fun _ p hp=>?_) (fun _=>⟨by simp,fun b hb _=>⟨bU hb,rfl⟩,rfl⟩) hs'.dom⟩ hN _)⟩;rcases aGB.1 hp with rfl|hp
 ·exact aGH (aGW _)
 ·exact aGR (aGA.2 ⟨p,hp,rfl⟩)
theorem aU{n sz:Nat}{zs:List Value}(h:∀u∈zs,u=.int .i64 0)(hl:zs.length=sz):((Array.range (n*sz)).map (zs.toArray[· %zs.toArray.size]!)).toList=ints (List.replicate (n*sz) 0):=by
 apply aLE;intro i;simp only[aKF,Array.toList_range,aHD,ints,List.map_replicate,List.getElem?_replicate];by_cases hi:i<n*sz
 ·rw[aKY hi,aGX hi];have hpos:0<sz:=by
   rcases Nat.eq_zero_or_pos sz with h0|h0
   ·subst h0;simp at hi
   ·exact h0
  have hm:i%zs.toArray.size<zs.length:=by simp only[aHK,hl];exact Nat.mod_lt _ hpos
  simp only[aHM];congr 1;rw[getElem!_pos _ _ (by simpa using hm)];exact h _ Ye
 ·rw[aJJ Yaj,aGQ hi];rfl

theorem Hl.freezeM{A B ν:aC}{e sz n:Nat}{cells:List Value}{a:Act}{w:World}(hacc:bN e sz v n cells ν)(hmods:∀k∈X.mods,k∈(A++B).ks)(hh:Hl X σ (A++ν++B) Ds a w):
  ∃D',(∀D₁∈Ds,Le D₁ D')∧jK D' v n cells∧Hl X σ (A++B) (D'::Ds) a w:=by
 obtain⟨h1,h2,h3,D,h4,h5,h6⟩:=hh;rcases hacc with⟨old,hv,hn,hc,hν⟩|⟨b,cap,junk,hv,hncap,hν,hl1,hl2⟩
 ·subst hν;refine⟨D,h5,aGR ⟨old,hv,hn,hc⟩,h1,h2,h3,D,by simpa using h4,fun D₁ hD₁=>?_,by simpa using h6⟩;rcases aGB.1 hD₁ with rfl|hD₁
  ·exact Le.refl _
  ·exact h5 D₁ hD₁
 ·subst hν;have hb:=(h4.box (b,.cells (cells++junk).toArray e (0,0)) Ye).2.2;have hnb:b∉(A++B).ks:=fun hm=>by
   have hnd:=h4.nd;simp only[aGS,aHB,aGN,aJS]at hnd;have:=aGK.1 hnd;have h2':=aHX.1 this.2.1;simp only[aC.ks,aGS,aGP]at hm;rcases hm with hm|hm
   ·exact this.2.2 b hm b aGL rfl
   ·exact h2'.1 hm
  have hb':=hb.resolve_right (fun h=>hnb (hmods b h));obtain⟨D',hle,hD',hDo,hs⟩:=h4.freeze hb';refine⟨D',fun D₁ hD₁=>(h5 D₁ hD₁).trans hle,aGH ⟨b,cap,hv,hncap,fun j u hj=>by rw[hD',aJA];exact hj⟩,h1,h2,h3,D',hs,fun D₁ hD₁=>?_,h6.step (fun _ p hp=>aGR (aGA.2 ⟨p,by rcases aGP.1 hp with hp|hp;exact aGI _ (aGI _ hp);exact aFZ _ hp,rfl⟩)) (fun _=>⟨aGW _,fun c _ hn=>⟨rfl,hDo c (by rintro rfl;exact hn Ye)⟩,rfl⟩) hs.dom⟩
  rcases aGB.1 hD₁ with rfl|hD₁
  ·exact Le.refl _
  ·exact(h5 D₁ hD₁).trans hle
theorem pW{A B ν:aC}{e sz n:Nat}{cells:List Value}(hacc:bN e sz v n cells ν)(hmods:∀k∈X.mods,k∈(A++B).ks)(kk:∀D,(∀D₁∈Ds,Le D₁ D)→jK D v n cells→WL P X bad all K Q os σ (A++B) (D::Ds)):WL P X bad all K Q os σ (A++ν++B) Ds:=by
 intro a w hh;obtain⟨D',h1,h2,h3⟩:=hh.freezeM hacc hmods;exact kk D' h1 h2 a w h3
theorem Z1{T:Act→World→Prop}{A B ν:aC}{e sz n:Nat}{cells:List Value}(hacc:bN e sz v n cells ν)(hmods:∀k∈X.mods,k∈(A++B).ks)(kk:∀D,(∀D₁∈Ds,Le D₁ D)→jK D v n cells→∀a w,Hl X σ (A++B) (D::Ds) a w→T a w):∀a w,Hl X σ (A++ν++B) Ds a w→T a w:=by
 intro a w hh;obtain⟨D',h1,h2,h3⟩:=hh.freezeM hacc hmods;exact kk D' h1 h2 a w h3
theorem Hl.apart{a:Act}{w:World}{D₁:aA}{b o:Nat}{c:Value}{cs:List Value}(hh:Hl X σ μ Ds a w)(hA:At D₁ b o (c::cs))(hD:D₁∈Ds):b∉μ.ks:=by
 obtain⟨h1,h2,h3,D,h4,h5,h6⟩:=hh;intro hm;obtain⟨p,hp,rfl⟩:=aGA.1 hm;have h0:=(h5 D₁ hD).get (hA 0 c rfl);rw[(h4.box p hp).2.1]at h0;simp at h0
theorem iK{c':Code}{D₁:aA}{b o:Nat}{c:Value}{cs:List Value}(hA:At D₁ b o (c::cs))(hD:D₁∈Ds)(k:b∉μ.ks→WC P X Q c' σ μ Ds):WC P X Q c' σ μ Ds:=fun a w hh=>k (hh.apart hA hD) a w hh
theorem At.tail{D:aA}{b o:Nat}{c:Value}{cs:List Value}(h:At D b o (c::cs)):At D b (o+1) cs:=fun j v hj=>by
 have:=h (j+1) v (by simpa using hj);rw[show o+1+j=o+(j+1) by omega];exact this

theorem CR{f:FuncId}{fn:Func}{c:Code}{args:List Value}{D:aA}{ν:aC}{post:aA→Value→aC→Prop}(N:Nat)(hf:P.funcs[f]?= some fn)(hn:(fn.name== "runtime.NumGoroutine")=false)(hb:fn.body=some c)(hN:fn.ntmps=N)(hsz:Nat.ble args.length N=true)
  (h:∀h0:H0,(∀p∈ν,p.1<h0.size)→ν.ks.Nodup→WC P (lT N h0 D ν.ks) (uR P fn (iQ (lT N h0 D ν.ks) ν.ks post)) c (gG 0 args) ν [D]):Q1 P f args D ν post:=by
 refine⟨EF.of hf hn hb,fun w hw hν hnd=>?_⟩;subst hN;have hsz:=aIE hsz;have hq:∀e a w',uR P fn (iQ (lT fn.ntmps (hd w) D ν.ks) ν.ks post) e a w'→bodyPostM (FW none) 0 P fn (iQ (lT fn.ntmps (hd w) D ν.ks) ν.ks post) e a w':=by
  intro e a w' he;cases e<;>first|exact he|exact he.elim
 have hwp:=h (hd w) (fun p hp=>aY (hν p hp).1) hnd {tmps:=args.toArray++Array.replicate (fn.ntmps-args.toArray.size) undef,defers:=[]} w ⟨by simp[lT];omega,fun s v hs=>by
  obtain⟨_,h2⟩:=eA args 0 s v hs;have hl:=(aGJ.1 h2).1;simp only[aJN]at h2 hl;show(args.toArray++_)[s]?= some v;rw[aIX Yam];simpa using h2,rfl,D,⟨aGW _,aGW _,(fun _ _ _=>rfl),(fun _ _=>rfl),hw,(fun p hp=>⟨(hν p hp).1,(hν p hp).2.1,aGH (aGA.2 ⟨p,hp,rfl⟩)⟩),hnd,(fun p hp=>(hν p hp).2.2),fun e he=>aHC he⟩,(fun D₁ h1=>by simp only[aGU]at h1;subst h1;exact Le.refl _),aLJ⟩
 refine(cU (r:=none) (n:=0)).1 ((callsIn_of_wp_marks hf hb aLJ (wpIn_mono hwp hq) rfl).mono ?_);rintro e w' ⟨v,D',ν',rfl,hk,hs,hp⟩;exact⟨v,D',ν',rfl,hk,hs,hp⟩
theorem CF{fn:Func}{bd:Nat}{ks:List Nat}{post:aA→Value→aC→Prop}{e:Exit}(he:(match e with|.normal=>true|.ret=>true|_=>false)=true){rs:List ResultVar}{vs:List Value}{A B ν':aC}(hds:X.ds=[])(hr:fn.results=rs.toArray)(h:rM P X σ (A++ν'++B++[(bd,Obj.deferred none)]) rs vs)
  (hk:ν'.ks=ks) (hp:∀D,(∀D₁∈Ds,Le D₁ D)→post D (mI vs) ν'):∀a w,Hl (X.withDs bd) σ (A++ν'++B++[(bd,Obj.deferred (some []))]) Ds a w→uR P fn (iQ X ks post) e a w:=by
 intro a w hh;obtain⟨h1,h2,h3,D,h4,h5,h6⟩:=hh;have hHas:bL (A++ν'++B++[(bd,Obj.deferred (some []))]) bd (.deferred (some [])) (.deferred none) (A++ν'++B++[(bd,Obj.deferred none)]):=.app .head;have hs:=h4.set (w':=w.putObj bd (.deferred none)) hHas ⟨rfl,rfl⟩ trivial;have hh':Hl X σ (A++ν'++B++[(bd,Obj.deferred none)]) Ds {a with defers:=[]} (w.putObj bd (.deferred none)):=
  ⟨h1,h2,hds.symm,D,hs,h5,h6.step (X:=X.withDs bd) (fun _ p hp=>aGR Yq) (fun _=>gF ⟨rfl,rfl⟩ (aGA.2 ⟨_,hHas.mem,rfl⟩)) hs.dom⟩
 have hrun:=fR hh' hr h;have hb:=(h4.box (bd,Obj.deferred (some [])) Ye).1;have hnd:=h4.nd;simp only[aGS]at hnd;have hsub:=hs.sub (μ':=ν') (fun p hp=>aGI _ (aGI _ (aFZ _ hp))) (aGK.1 (aGK.1 (aGK.1 hnd).1).1).2.1;have:LeavesInM (FW none) 0 P fn a.tmps (iQ X ks post) a.defers .returning w:=by
  have h3':a.defers=[jF bd]:=h3.trans (by show jF bd::X.ds=_;rw[hds]);rw[h3'];exact⟨by simp,aGR ⟨bd,_,rfl,run_takeDeferred hb,_,hrun,_,D,ν',rfl,hk,hsub,hp D h5⟩⟩
 cases e<;>first|exact this|cases he
theorem aCB{γ:Type}(I:γ→Prop)(S:γ→Bool)(M:γ→aC)(xs ys:List (Bool×Nat)){s p:Nat}{b:Bool}(ho:os=xs++ys)(hs:look σ s=some (.bool b))
  (hyes:b=true→WL P X bad all (fun a w=>∃g,I g∧Hl X ((p,.bool (S g))::(s,.bool true)::σ) (M g) Ds a w) Q xs ((s,.bool true)::σ) μ Ds)
  (hno:b=false→WL P X bad all (fun a w=>∃g,I g∧Hl X ((p,.bool (S g))::(s,.bool false)::σ) (M g) Ds a w) Q xs ((s,.bool false)::σ) μ Ds)
  (k:∀g,I g→WL P X bad all K Q ys ((p,.bool (S g))::σ) (M g) Ds):WL P X bad all K Q os σ μ Ds:=by
 have hsub:∀u,Value.bool b=u→∀a w,Hl X σ μ Ds a w→Hl X ((s,u)::σ) μ Ds a w:=by
  rintro _ rfl a w ⟨h1,h2,h3⟩;refine⟨h1,fun t v ht=>?_,h3⟩;simp only[look]at ht;cases hb:Nat.beq s t with
  |true=>rw[hb]at ht;cases ht;obtain rfl:=aHQ hb;exact h2 _ _ hs
  |false=>rw[hb]at ht;exact h2 _ _ ht
 have hback:∀u v μ',Value.bool b=u→∀a w,Hl X ((p,v)::(s,u)::σ) μ' Ds a w→Hl X ((p,v)::σ) μ' Ds a w:=by
  rintro _ v μ' rfl a w ⟨h1,h2,h3⟩;refine⟨h1,fun t v' ht=>?_,h3⟩;refine h2 t v' ?_;simp only[look]at ht ⊢
  cases hp:Nat.beq p t with
  |true=>rw[hp]at ht;exact ht
  |false=>
   rw[hp]at ht;cases hb:Nat.beq s t with
   |true=>obtain rfl:=aHQ hb;rw[←ht,hs]
   |false=>exact ht
 subst ho;intro a w hh;cases b
 ·refine WL.append (hno rfl a w (hsub _ rfl a w hh)) ?_;rintro a w ⟨g,hI,h⟩;exact k g hI a w (hback _ _ _ rfl a w h)
 ·refine WL.append (hyes rfl a w (hsub _ rfl a w hh)) ?_;rintro a w ⟨g,hI,h⟩;exact k g hI a w (hback _ _ _ rfl a w h)
theorem pI{t:TypeId}{b k:Nat}{l:List Int}{n:Int}{e:TypeId}{μ':aC}(ho:all[ix]?= some ⟨none,.store t x y,ty,pos,aft,g⟩)(hs:TS P t 1)(hx:ev σ x=some (.pointer (some ⟨b,k,none⟩)))(hy:ev σ y=some (.int .i64 n))
  (hm:bL μ b (.cells (ints l).toArray e (0,0)) (.cells (ints (l.set k n)).toArray e (0,0)) μ') (hl:k<l.length) (hg:cS all σ g)
  (kk:WL P X bad all K Q os σ μ' Ds):WL P X bad all K Q ((false,ix)::os) σ μ Ds:=by
 have hil:(ints l).length=l.length:=aI l;refine aX (off:=k) (us:=[.int .i64 n]) (vs:=ints l) (ws:=ints (l.set k n)) ho hx hy rfl hs hm (by simp[hil];omega) ?_ (fun u hu=>by simp at hu;subst hu;rfl) hg kk
 rw[show ints (l.set k n)=(ints l).set k (.int .i64 n) by simp[ints,List.map_set],List.set_eq_take_append_cons_drop,aGX (by rw[hil];exact hl)];simp
theorem gW{t e tr:TypeId}{a:Option Addr}{n c:Nat}{ats:Array TypeId}(ho:all[ix]?= some ⟨some d,.call {callee:=.builtin .len,args:=#[x],argTypes:=ats},tr,pos,aft,g⟩)(ht:P.underlying t=some (.slice e))(hx:ev σ x=some (.slice a n c))(hat:ats[0]?= some t)
  (hN:Nat.blt d X.N=true) (hg:cS all σ g) (kk:WL P X bad all K Q os ((d,.int .i64 (n:Int))::σ) μ Ds):WL P X bad all K Q ((fl,ix)::os) σ μ Ds:=
 bH ho rfl rfl hN hg (fun ρ hρ w'=>by
  have hx':=hρ x _ hx;simp[Builtin.len_,hat,hx',Sem.run_bind,TU.of ht w',goInt,Sem.run_pure,go_sem]) kk
theorem Hl.boxesEq{a:Act}{w:World}{μ':aC}(hh:Hl X σ μ Ds a w)(h:μ=μ'):Hl X σ μ' Ds a w:=h▸hh
theorem xS{T:Act→World→Prop}(μ':aC)(h:μ=μ')(k:∀a w,Hl X σ μ' Ds a w→T a w):∀a w,Hl X σ μ Ds a w→T a w:=h▸k
theorem kH{t t' e:TypeId}{a:Option Addr}{n c:Nat}(ho:all[ix]?= some ⟨some d,.binOp .eql t x y t',ty,pos,aft,g⟩)(ht:P.underlying t=some (.slice e))(hx:ev σ x=some (.slice a n c))(hy:ev σ y=some (.slice none 0 0))(hN:Nat.blt d X.N=true)(hg:cS all σ g)
  (kk:WL P X bad all K Q os ((d,.bool (a.isNone))::σ) μ Ds):WL P X bad all K Q ((fl,ix)::os) σ μ Ds:=
 sX ho (fun w=>by
  have hgd:(eqGuard .eql t x y (.slice a n c) (.slice none 0 0)).run P w=.ok () w:=by
   simp only[eqGuard];simp[go_sem]
  have heq:(Op.equal t (.slice a n c) (.slice none 0 0)).run P w=.ok a.isNone w:=by
   show(Op.equalIn (9999+1) t (.slice a n c) (.slice none 0 0)).run P w=_;rw[Op.equalIn,Sem.run_bind,TU.of ht w];cases a<;>rfl
  rw[Sem.run_bind,hgd];show((do Pure.pure (Value.bool (←Op.equal t (.slice a n c) (.slice none 0 0)))):Sem Value).run P w=_;rw[Sem.run_bind,heq];rfl) hx hy hN hg kk
theorem G5{t:TypeId}{b off:Nat}{vs us:List Value}{e:TypeId}{μ':aC}(ho:all[ix]?= some ⟨none,.store t x y,ty,pos,aft,g⟩)(hx:ev σ x=some (.pointer (some ⟨b,off,none⟩)))(hy:ev σ y=some v)(hv:v.cells=us.toArray)(hs:TS P t us.length)
  (hm:bL μ b (.cells vs.toArray e (0,0)) (.cells vs.toArray e (0,0)) μ') (hl:off+us.length≤vs.length) (hw:vs.take off++us++vs.drop (off+us.length)=vs) (hc1:∀u∈us,cell1 u=true) (hg:cS all σ g)
  (kk:WL P X bad all K Q os σ μ' Ds):WL P X bad all K Q ((fl,ix)::os) σ μ Ds:=by
 refine dI ho rfl rfl hg fun a w hh=>?_
 obtain⟨h1,h2,h3,D,h4,h5,h6⟩:=id hh;obtain⟨w',hr,hw'⟩:=sC (P:=P) hs hv (h4.box _ hm.mem).1 hl hc1;have:(execOp a.eval ⟨none,.store t x y,ty,pos,aft,g⟩).run P w=.ok .skip w':=by
  simp only[execOp,hh.eval hx,hh.eval hy,Sem.run_bind,hr,Result.andThen_ok,Sem.run_pure]
 rw[this];rw[hw]at hw';refine⟨fun _=>⟨by rw[hw'.1];simp,fun c _ _=>?_⟩,kk _ _ ⟨h1,h2,h3,D,h4.set hm hw' rfl,h5,h6.step (fun _ p hp=>aGR Yan) (fun _=>gF hw' (aGA.2 ⟨_,hm.mem,rfl⟩)) (h4.set hm hw' rfl).dom⟩⟩
 have hb:=(h4.box _ hm.mem).1;rw[hw'.1];by_cases hc:b=c
 ·subst hc;rw[Array.getElem?_setIfInBounds_self_of_lt (aY hb)];exact hb.symm
 ·rw[aIS hc]

theorem bP{D₁:aA}{b o:Nat}{c:Value}{cs:List Value}(hA:At D₁ b o (c::cs))(hD:D₁∈Ds)(k:b∉μ.ks→WL P X bad all K Q os σ μ Ds):WL P X bad all K Q os σ μ Ds:=fun a w hh=>k (hh.apart hA hD) a w hh
theorem YO{e sz b:Nat}{cells:List Value}(h:cells.length=sz):bN e sz (.slice (some ⟨b,0,none⟩) 1 1) 1 cells [(b,.cells cells.toArray e (0,0))]:=
 aGH ⟨b,1,[],rfl,aGW _,by simp,by omega,by simp;omega⟩
theorem QF{D:aA}{b:Nat}{cells:List Value}(h:jK D (.slice (some ⟨b,0,none⟩) 1 1) 1 cells):At D b 0 cells:=by
 rcases h with⟨a,_,h0,_⟩|⟨b',cap,hv,_,hA⟩
 ·omega
 ·cases hv;exact hA
theorem sM{c:Code}{A B:aC}{b:Nat}{cells:List Value}{e:TypeId}(hmods:X.mods=[])(kk:∀D,(∀D₁∈Ds,Le D₁ D)→At D b 0 cells→WC P X Q c σ (A++B) (D::Ds)):WC P X Q c σ (A++(b,.cells cells.toArray e (0,0))::B) Ds:=by
 have:=xG (A:=A) (B:=B) (ν:=[(b,.cells cells.toArray e (0,0))]) (c:=c) (P:=P) (X:=X) (Q:=Q) (σ:=σ) (Ds:=Ds) (YO (e:=e) (b:=b) (cells:=cells) rfl) hmods fun D hD hF=>kk D hD (QF hF)
 simpa using this
theorem GM{α:Type}{D:aA}{b sz:Nat}{cells:α→List Value}(hsz:∀x,(cells x).length=sz):∀{xs:List α} {o:Nat},(∀i x,xs[i]?= some x→At D b (o+i*sz) (cells x))→At D b o (xs.flatMap cells)
 | [],o,_=>fun j v hj=>by simp at hj
 |x::xs,o,h=>fun j v hj=>by
  rw[aHS]at hj;have h0:=h 0 x rfl;rw[aKG,Nat.add_zero]at h0;have hr:=GM hsz (xs:=xs) (o:=o+sz) fun i y hy=>by
   have:=h (i+1) y (by simpa using hy);rw[show o+sz+i*sz=o+(i+1)*sz by rw[aIW];omega];exact this
  rcases Nat.lt_or_ge j (cells x).length with hl|hl
  ·rw[aIU hl]at hj;exact h0 j v hj
  ·rw[aKM hl]at hj;have:=hr _ v hj;rw[hsz]at this;rw[show o+j=o+sz+(j-sz) by rw[hsz]at hl;omega];exact this
theorem jL.of{α:Type}{R:Rd α}{D:aA}{sz:Nat}{xs:List α}{cells:α→List Value}(hR:∀D x cs,R D x cs→cs=cells x)(hsz:∀x,(cells x).length=sz)(h:Sl D R sz v xs):jL D v xs.length (xs.flatMap cells):=by
 obtain⟨a,cap,rfl,h1,h2,h3⟩:=h;rcases h3 with rfl|⟨b,o,rfl,h3⟩
 ·exact aGR ⟨a,cap,rfl,rfl,rfl⟩
 ·refine aGH ⟨b,o,cap,rfl,GM hsz fun i x hx=>?_⟩;obtain⟨cs,hr,hc,hA⟩:=h3 i x hx;rw[hR _ _ _ hr]at hA;exact hA
theorem mQ{α:Type}{R:Rd α}{D:aA}{sz n c:Nat}{xs:List α}(h:Sl D R sz (.slice none n c) xs):xs=[]:=by
 obtain⟨a,cap,hv,h1,h2,h3⟩:=h;rcases h3 with h3|⟨b,o,ha,_⟩
 ·exact h3
 ·rw[ha]at hv;cases hv
theorem aO{α:Type}{R:Rd α}{D₁:aA}{sz:Nat}{t e:TypeId}{xs:List α}{k:IntKind}{i:Int}{el:α}{bt ot ct:Nat}(ho:all[ix]?= some ⟨some d,.indexAddr t x y,ty,pos,aft,g⟩)(ht:P.underlying t=some (.slice e))(hs:TS P e sz)(hx:ev σ x=some (.slice (some ⟨bt,ot,none⟩) xs.length ct))(hS:Sl D₁ R sz (.slice (some ⟨bt,ot,none⟩) xs.length ct) xs)
  (hy:ev σ y=some (.int k i)) (h0:0≤i) (hi:xs[i.toNat]?= some el) (hN:Nat.blt d X.N=true) (hg:cS all σ g)
  (kk:∀cs,R D₁ el cs→cs.length=sz→At D₁ bt (ot+i.toNat*sz) cs→WL P X bad all K Q os ((d,.pointer (some ⟨bt,ot+i.toNat*sz,none⟩))::σ) μ Ds):WL P X bad all K Q ((fl,ix)::os) σ μ Ds:=by
 obtain⟨a,cap,hv,h1,h2,h3⟩:=hS;cases hv;have hlt:=(aGJ.1 hi).1;rcases h3 with h3|⟨b,o,ha,h3⟩
 ·subst h3;simp at hi
 ·cases ha;obtain⟨cs,hr,hc,hA⟩:=h3 _ _ hi;exact eY ho ht hs hx hy h0 Yd hN hg (kk cs hr hc hA)
theorem gX{α:Type}{R:Rd α}{D:aA}{sz:Nat}{xs:List α}{v:Value}(h:Sl D R sz v xs)(hne:xs≠[]):∃bt ot ct,v=.slice (some ⟨bt,ot,none⟩) xs.length ct:=by
 obtain⟨a,cap,hv,h1,h2,h3⟩:=h;rcases h3 with h3|⟨b,o,ha,_⟩
 ·exact absurd h3 hne
 ·exact⟨b,o,cap,by rw[hv,ha]⟩
theorem nG{t:TypeId}{b off:Nat}{vs us ws:List Value}{e:TypeId}{μ':aC}(ho:all[ix]?= some ⟨none,.store t x y,ty,pos,aft,g⟩)(hx:ev σ x=some (.pointer (some ⟨b,off,none⟩)))(hy:ev σ y=some v)(hv:v.cells=us.toArray)(hs:TS P t us.length)
  (hm:bL μ b (.cells vs.toArray e (0,0)) (.cells ws.toArray e (0,0)) μ') (hl:off+us.length≤vs.length) (hw:vs.take off++us++vs.drop (off+us.length)=ws) (hc1:∀u∈us,cell1 u=true) (hfl:fl=false∨b∈bad) (hg:cS all σ g)
  (kk:WL P X bad all K Q os σ μ' Ds):WL P X bad all K Q ((fl,ix)::os) σ μ Ds:=by
 refine dI ho rfl rfl hg fun a w hh=>?_
 obtain⟨h1,h2,h3,D,h4,h5,h6⟩:=id hh;obtain⟨w',hr,hw'⟩:=sC (P:=P) hs hv (h4.box _ hm.mem).1 hl hc1;have:(execOp a.eval ⟨none,.store t x y,ty,pos,aft,g⟩).run P w=.ok .skip w':=by
  simp only[execOp,hh.eval hx,hh.eval hy,Sem.run_bind,hr,Result.andThen_ok,Sem.run_pure]
 rw[this];rw[hw]at hw';refine⟨fun h=>⟨by rw[hw'.1];simp,fun c _ hn=>?_⟩,kk _ _ ⟨h1,h2,h3,D,h4.set hm hw' rfl,h5,h6.step (fun _ p hp=>aGR Yan) (fun _=>gF hw' (aGA.2 ⟨_,hm.mem,rfl⟩)) (h4.set hm hw' rfl).dom⟩⟩
 rcases hfl with hf|hf
 ·rw[hf]at h;cases h
 ·rw[hw'.1,aIS (by rintro rfl;exact hn hf)]
theorem _root_.Go.Fs.Zo{t:TypeId}{b:Nat}(off:Nat)(vs:List Value)(us:List Value)(ws:List Value){e:TypeId}{μ':aC}(e9:(all[ix]?,ev σ x,ev σ y,v.cells)=(some ⟨none,.store t x y,ty,pos,aft,g⟩,some (.pointer (some ⟨b,off,none⟩)),some v,us.toArray))(hs:TS P t us.length)(hm:bL μ b (.cells vs.toArray e (0,0)) (.cells ws.toArray e (0,0)) μ')(hw:vs.take off++us++vs.drop (off+us.length)=ws)(hfl:fl=false∨b∈bad)(kk:WL P X bad all K Q os σ μ' Ds)(hl:off+us.length≤vs.length:=by exact Ye)(hc1:∀u∈us,cell1 u=true:=by exact Yi)(hg:cS all σ g:=by exact aLJ):WL P X bad all K Q ((fl,ix)::os) σ μ Ds:=nG (off:=off) (vs:=vs) (us:=us) (ws:=ws) (aGV (fun z=>z.1) e9) (aGV (fun z=>z.2.1) e9) (aGV (fun z=>z.2.2.1) e9) (aGV (fun z=>z.2.2.2) e9) hs hm hl hw hc1 hfl hg kk
end Go.Fs
namespace Go.Fs
variable{P:Program}{X:Cx}{γb:Type}[Membership Nat γb]{bad:γb}{all:Array Oper}{K:Act→World→Prop}{Q:Exit→Act→World→Prop}
variable{σ:bQ}{μ:aC}{Ds:List aA}{os:List (Bool×Nat)}{fl:Bool}{ix:Nat}
variable{d:Nat}{x y z:Operand}{u v:Value}{ty:TypeId}{pos:String}{aft:Array Edge}{g:Option (Nat×Bool)}
def HA{α:Type}(P:Program)(f:FuncId)(cap:List Value)(Dr:aA)(xs:List α)(enc:Nat→List Value→Prop)(cells:α→List Value):Prop:=
 EF P f∧∀(lo l:Nat) (J Jx:List α→nY),(∀pre,vI lo (J pre))→(∀pre,vI lo (Jx pre))→
  (∀pre x β D w bo vs,(∃r,xs=pre++x::r)→sJ lo D w→J pre β D w→(∀b∈β,b<w.heap.size)→Le Dr D→enc bo vs→Y6 β D w bo (cells x)→
   fS P l vs w fun b D' w'=>sJ lo D' w'∧rZ β D w D' w'∧(if b then J (pre++[x]) β D' w' else Jx (pre++[x]) β D' w'))→
  ∀D w,sJ lo D w→Le Dr D→J [] [] D w→Calls P f (.func (.yield l) #[] #[]::cap).toArray w fun e w'=>∃v D',e=.returned v∧sJ lo D' w'∧(J xs [] D' w'∨∃pre,Jx pre [] D' w')
theorem d4{α γ:Type}{xs:List α}{enc:Nat→List Value→Prop}{cells:α→List Value}{Dr:aA}{f:FuncId}{cap:List Value}{gop:Operand}{ps:Array Tmp}{assign body:Code}
  (Φ:List α→γ→Prop) (Ψ:List α→Code→γ→Prop) (M:γ→aC) (g₀:γ) (hr:X.r=none) (hex:X.ex=none) (hmods:∀g,∀k∈X.mods,k∈(M g).ks)
  (hg:ev σ gop=some (.func (.func f) #[] cap.toArray)) (hit:HA P f cap Dr xs enc cells) (hDr:Dr∈Ds) (hps:∀b vs,enc b vs→vs.length=ps.size) (hpN:(ps.toList.all fun p=>Nat.blt p X.N)=true) (h₀:Φ [] g₀) (hμ:M g₀=μ)
  (hround:∀pre x g,(∃r,xs=pre++x::r)→Φ pre g→∀(l bd bo:Nat) (vs:List Value) (rec:Loop) (h0:H0) (D:aA),(∀D₁∈Ds,Le D₁ D)→enc bo vs→At D bo 0 (cells x)→rec.state=.ready→rec.pending=none→
   WC P (Xr l X.N h0 D ((M g++(l,Obj.loop rec)::[(bd,Obj.deferred (some []))]).map (·.1)))
    (Exit.then (fun a₁ w₁=>∃w₂,(Instr.beginRound l).run P w₁=.ok () w₂∧body.wpIn ((FW none).inRound l) 0 P (roundPost P l (rS h0 D ((M g++(l,Obj.loop rec)::[(bd,Obj.deferred (some []))]).map (·.1)) (Φ (pre++[x])) (Ψ (pre++[x]))
     (fun g=>M g++(l,Obj.loop {rec with state:=.ready,pending:=none})::[(bd,Obj.deferred (some []))]) (fun c g=>M g++(l,Obj.loop {rec with state:=.done,pending:=some c})::[(bd,Obj.deferred (some []))]))) a₁ w₂) (fun _ _ _=>False))
    assign (sR ps.toList vs σ) (M g++(l,Obj.loop rec)::[(bd,Obj.deferred (some []))]) (D::Ds))
  (hdone:∀g bd,Φ xs g→∀a w,Hl (X.withDs bd) σ (M g++[(bd,Obj.deferred (some []))]) Ds a w→Q .normal a w)
  (hstop:∀pre c g bd,Ψ pre c g→WC P (X.withDs bd) Q c σ (M g++[(bd,Obj.deferred (some []))]) Ds):WC P X Q (.rangeFunc gop ps assign body) σ μ Ds:=by
 intro a w hh;subst hμ;have hev:=hh.eval hg;obtain⟨h1,h2,h3,D,h4,h5,h6⟩:=hh;refine wpIn_rangeFunc fun fn _=>?_
 have hround':(FW X.r).round=none:=hr;rw[hround'];have hmk:∀g (B:aC),∀k∈X.mods,k∈(M g++B).ks:=fun g B k hk=>by
  show k∈(M g++B).map _;rw[aGS];exact aGI _ (hmods g k hk)
 let bd:=w.heap.size
 let l:=w.heap.size+1
 let rec0:Loop:={state:=.ready,pending:=none,fn,tmps:=a.tmps,params:=ps,assign,body,defers:=bd}
 let w1:World:={w with heap:=w.heap.push (.deferred (some []))}
 let w2:World:={w1 with heap:=w1.heap.push (.loop rec0)}
 have hs1:fI X.h0 X.lo X.D0 X.mods ((bd,Obj.deferred (some []))::M g₀) D w1:=h4.push (.deferred (some [])) trivial;have hs2:fI X.h0 X.lo X.D0 X.mods ((l,Obj.loop rec0)::(bd,Obj.deferred (some []))::M g₀) D w2:=by
  have:=hs1.push (.loop rec0) trivial;have e:w1.heap.size=l:=by simp[w1,l]
  rw[e]at this;exact this
 have hperm:fI X.h0 X.lo X.D0 X.mods (M g₀++(l,Obj.loop rec0)::[(bd,Obj.deferred (some []))]) D w2:=by
  refine hs2.sub (fun p hp=>?_) ?_
  ·simp only[aGP,aGB,GT,aIY]at hp ⊢
   rcases hp with hp|hp|hp
   ·exact aGH (aGH hp)
   ·exact aGR hp
   ·exact aGH (aGR hp)
  ·have hn:=hs2.nd;simp only[aHB,aHX,aGB,not_or]at hn;simp only[aGS,aHB,aKD,aGK,aHX,aGB,GT,aIY,aKU,aID,and_true];refine⟨hn.2.2,hn.1.1,fun q hq r hr'=>?_⟩;rcases hr' with rfl|rfl
   ·rintro rfl;exact hn.1.2 hq
   ·rintro rfl;exact hn.2.1 hq
 refine⟨l,[jF bd],w2,{target:=.fn (.func f) cap.toArray,args:=#[.func (.yield l) #[] #[]]},w2,f,(.func (.yield l) #[] #[]::cap).toArray,w2,run_enterLoop_outer fn a.tmps ps assign body,?_,fun _ _=>trivial,?_,fun h=>by simp[FW]at h,?_⟩
 ·simp only[resolve,Deferred.ofValue];have e:Array.map a.eval #[Operand.const (Value.func (Fn.yield l) #[] #[])]=#[.func (.yield l) #[] #[]]:=by simp[Act.eval]
  rw[e,hev];rfl
 ·simp only[invoke];rw[hit.1];simp
 ·refine cU.2 ((hit.2 X.lo l
   (fun pre=>QN X.h0 X.lo X.D0 X.mods Ds (Φ pre) fun g=>M g++(l,Obj.loop rec0)::[(bd,Obj.deferred (some []))])
   (fun pre=>QN X.h0 X.lo X.D0 X.mods Ds (fun cg:Code×γ=>Ψ pre cg.1 cg.2) fun cg=>M cg.2++(l,Obj.loop {rec0 with state:=.done,pending:=some cg.1})::[(bd,Obj.deferred (some []))])
   (fun _=>wG) (fun _=>wG) ?_ D w2 hs2.dom (h5 Dr hDr) ⟨g₀,h₀,hperm,h5,(fun _ h=>by cases h),(fun _ _ h=>by cases h),hmk g₀ _⟩).mono ?_)
  ·rintro pre x β Dx wx bo vs hx hdx ⟨g,hΦ,hst,hDs,hβ,hM,hmg⟩ hβs hle henc ⟨hbo,hbD,be,bfz,hbw⟩;have hbox:=(hst.box (l,Obj.loop rec0) Ye).1;refine⟨fn,_,assign,body,run_yield hbox (by simpa using hps bo vs henc),?_⟩;refine(roundIn_of_wpIn (F:=FW none) aLJ (R:=rS (hd wx) (fK Dx bo (cells x)) ((M g++(l,Obj.loop rec0)::[(bd,Obj.deferred (some []))]).map (·.1)) (Φ (pre++[x])) (Ψ (pre++[x]))
     (fun g=>M g++(l,Obj.loop {rec0 with state:=.ready,pending:=none})::[(bd,Obj.deferred (some []))]) (fun c g=>M g++(l,Obj.loop {rec0 with state:=.done,pending:=some c})::[(bd,Obj.deferred (some []))])) ?_).mono ?_
   ·have hw:=hround pre x g hx hΦ l bd bo vs rec0 (hd wx) (fK Dx bo (cells x)) (fun D₁ h=>(hDs D₁ h).trans (wP hbD (hst.agr.ne0 hbD))) henc (AP _ _ _) rfl rfl;have ht:(ps.zip vs.toArray).foldl (fun tmps (t,a)=>tmps.setIfInBounds t a) a.tmps=(ps.toList.zip vs).foldl (fun tmps (p:Tmp×Value)=>tmps.setIfInBounds p.1 p.2) a.tmps:=by
     rw[←Array.foldl_toList];simp
    have hpN':∀p∈ps.toList,p<a.tmps.size:=fun p hp=>by rw[h1];simpa [Nat.blt_eq]using aGY.1 hpN p hp
    refine hw {tmps:=_,defers:=[]} wx ⟨?_,fun s v hs=>?_,rfl,fK Dx bo (cells x),⟨aGW _,aGW _,fun _ _ _=>rfl,fun _ _=>rfl,Y4 hst.agr hbw hbD,fun p hp=>?_,hst.nd,hst.fz,fun e he=>aHC he⟩,fun D₁ hD₁=>?_,aLJ⟩
    ·show((ps.zip vs.toArray).foldl _ a.tmps).size=X.N;rw[ht,vU];exact h1
    ·show((ps.zip vs.toArray).foldl _ a.tmps)[s]?= some v;rw[ht];exact xO _ _ _ _ h2 hpN' s v hs
    ·obtain⟨p1,p2,p3⟩:=hst.box p hp;exact⟨p1,by unfold fK;rw[aGQ (fun e=>hM p hp (by rw[e];exact hbo))];exact p2,aGH (aGA.2 ⟨p,hp,rfl⟩)⟩
    ·rcases aGB.1 hD₁ with rfl|hD₁
     ·exact Le.refl _
     ·exact(hDs D₁ hD₁).trans (wP hbD (hst.agr.ne0 hbD))
   ·rintro e w' ⟨b,D',rfl,hb⟩;have fin:∀μ',fI (hd wx) wx.heap.size (fK Dx bo (cells x)) ((M g++(l,Obj.loop rec0)::[(bd,Obj.deferred (some []))]).map (·.1)) μ' D' w'→fI X.h0 X.lo X.D0 X.mods μ' (fK D' bo []) w'∧rZ β Dx wx (fK D' bo []) w'∧(∀D₁∈Ds,Le D₁ (fK D' bo []))∧(∀p∈μ',p.1∉β):=by
     intro μ' hs0;have hs':=hs0.hide hbD (hst.agr.ne0 hbD);refine⟨hst.roundM hmg hs',fI.roundHigh hst.agr hs' hβs hM,fun D₁ hD₁=>(hDs D₁ hD₁).trans (eR hst.agr hs'),fun p hp hpb=>?_⟩;rcases(hs'.box p hp).2.2 with h|h
     ·have:=hβs _ hpb;omega
     ·obtain⟨q,hq,he⟩:=aGA.1 h;exact hM q hq (by rw[he];exact hpb)
    refine⟨b,fK D' bo [],rfl,?_⟩;cases b with
    |true=>
     obtain⟨g',hg',hs'⟩:=hb;obtain⟨f1,f2,f3,f4⟩:=fin _ hs';exact⟨f1.dom,f2,g',hg',f1,f3,hβ,f4,hmk g' _⟩
    |false=>
     obtain⟨c',g',hg',hs'⟩:=hb;obtain⟨f1,f2,f3,f4⟩:=fin _ hs';exact⟨f1.dom,f2,(c',g'),hg',f1,f3,hβ,f4,hmk g' _⟩
  ·rintro e w' ⟨v,D',rfl,hd,hend⟩;have post:∀(g:γ) (r:Loop),fI X.h0 X.lo X.D0 X.mods (M g++(l,Obj.loop r)::[(bd,Obj.deferred (some []))]) D' w'→(∀D₁∈Ds,Le D₁ D')→
     Hl (X.withDs bd) σ (M g++[(bd,Obj.deferred (some []))]) Ds {a with defers:=[jF bd]++a.defers} (w'.putObj l (.loop {r with state:=.exhausted})):=by
    intro g r hs hD';have hHas:bL (M g++(l,Obj.loop r)::[(bd,Obj.deferred (some []))]) l (.loop r) (.loop {r with state:=.exhausted}) (M g++(l,Obj.loop {r with state:=.exhausted})::[(bd,Obj.deferred (some []))]):=.app .head;have hs':=hs.set (w':=w'.putObj l (.loop {r with state:=.exhausted})) hHas ⟨rfl,rfl⟩ trivial;have hs'':=hs'.sub (μ':=M g++[(bd,Obj.deferred (some []))]) (fun p hp=>by
     rcases aGP.1 hp with hp|hp
     ·exact aGI _ hp
     ·exact aFZ _ (aGE _ hp)) (by
     have hn:=hs'.nd;rw[aGS,aGK]at hn ⊢
     simp only[aHB]at hn;exact⟨hn.1,(aHX.1 hn.2.1).2,fun q hq r hr=>hn.2.2 q hq r (aGE _ hr)⟩)
    exact⟨h1,h2,aGV (jF bd:: ·) h3,D',hs'',hD',by unfold uF;show(match X.ex with|none=>True|some J=>_);rw[hex];trivial⟩
   rcases hend with⟨g,hΦ,hs,hDs,_,_,_⟩|⟨pre,⟨c,g⟩,hΨ,hs,hDs,_,_,_⟩
   ·have hb:=(hs.box (l,Obj.loop rec0) Ye).1;exact⟨none,_,run_endLoop hb (by simp[rec0]),hdone g bd hΦ _ _ (post g rec0 hs hDs)⟩
   ·have hb:=(hs.box (l,Obj.loop {rec0 with state:=.done,pending:=some c}) Ye).1;refine⟨some c,_,run_endLoop hb Ye,?_⟩;have:=hstop pre c g bd hΨ _ _ (post g _ hs hDs);exact this
theorem FM{α:Type}{f:FuncId}{fn:Func}{c:Code}{cap:List Value}{Dr:aA}{xs:List α}{enc:Nat→List Value→Prop}{cells:α→List Value}(N:Nat)(hf:P.funcs[f]?= some fn)(hn:(fn.name== "runtime.NumGoroutine")=false)(hb:fn.body=some c)(hN:fn.ntmps=N)(hsz:Nat.ble (cap.length+1) N=true)
  (h:∀(lo l:Nat) (J Jx:List α→nY),(∀pre,vI lo (J pre))→(∀pre,vI lo (Jx pre))→
   (∀pre x β D w bo vs,(∃r,xs=pre++x::r)→sJ lo D w→J pre β D w→(∀b∈β,b<w.heap.size)→Le Dr D→enc bo vs→Y6 β D w bo (cells x)→
    fS P l vs w fun b D' w'=>sJ lo D' w'∧rZ β D w D' w'∧(if b then J (pre++[x]) β D' w' else Jx (pre++[x]) β D' w'))→
   WC P (Xj N lo (J [])) (bodyPost P fn (zR lo [Dr] fun _ J' _=>J'=J xs∨∃pre,J'=Jx pre)) c (gG 0 (.func (.yield l) #[] #[]::cap)) [] [Dr]):HA P f cap Dr xs enc cells:=by
 refine⟨EF.of hf hn hb,fun lo l J Jx hs hsx hY D w hd hle hJ=>?_⟩;have hF:=vR (μ:=[]) N hf hn hb hN (by simpa using hsz) (h lo l J Jx hs hsx hY);refine(hF.2 w ⟨D,⟨aKO _,hd.2,fun b hb=>absurd hb (aKI _),fun b hb=>absurd hb (aKI _),hd.1,(fun p hp=>by cases hp),aID,(fun p hp=>by cases hp),fun e he=>by cases he⟩,fun D₁ h1=>?_,hs [],hJ⟩).mono ?_
 ·simp only[aGU]at h1;subst h1;exact hle
 ·rintro e w' ⟨v,J',μ',rfl,⟨D',hst,hds,hex⟩,hpost⟩;refine⟨v,D',rfl,hst.dom,?_⟩;have hJ':J' [] D' w':=hex.1.own _ [] D' w' hex.2 (fun b hb=>by cases hb);rcases hpost with rfl|⟨pre,rfl⟩
  ·exact aGR hJ'
  ·exact aGH ⟨pre,hJ'⟩
end Go.Fs
namespace Go.Fs
variable{P:Program}{X:Cx}{γb:Type}[Membership Nat γb]{bad:γb}{all:Array Oper}{K:Act→World→Prop}{Q:Exit→Act→World→Prop}
variable{σ:bQ}{μ:aC}{Ds:List aA}{os:List (Bool×Nat)}{fl:Bool}{ix:Nat}
variable{d:Nat}{x y z:Operand}{u v:Value}{ty:TypeId}{pos:String}{aft:Array Edge}{g:Option (Nat×Bool)}
theorem Hl.subB{μ':aC}{a:Act}{w:World}(h:Hl X σ μ Ds a w)(hμ:μ'.Sublist μ):Hl X σ μ' Ds a w:=by
 obtain⟨g1,g2,g3,D,h4,h5,h6⟩:=h;exact⟨g1,g2,g3,D,h4.sub (fun p hp=>hμ.subset hp) (h4.nd.sublist (hμ.map _)),h5,h6.step (fun _ p hp=>aGR (aGA.2 ⟨p,hμ.subset hp,rfl⟩)) (fun _=>OX.refl _ _ _) h4.dom⟩
theorem H4{μ':aC}(hμ:μ'.Sublist μ)(h:WL P X bad all K Q os σ μ' Ds):WL P X bad all K Q os σ μ Ds:=fun a w hh=>h a w (hh.subB hμ)
theorem Hl.perm{μ':aC}{a:Act}{w:World}(h:Hl X σ μ Ds a w)(h1:∀r∈μ',r∈μ)(h2:(μ.map (·.1)).Nodup→(μ'.map (·.1)).Nodup):Hl X σ μ' Ds a w:=by
 obtain⟨g1,g2,g3,D,h4,h5,h6⟩:=h;exact⟨g1,g2,g3,D,h4.sub h1 (h2 h4.nd),h5,h6.step (fun _ r hr=>aGR (aGA.2 ⟨r,h1 r hr,rfl⟩)) (fun _=>OX.refl _ _ _) h4.dom⟩
end Go.Fs
namespace Go.Fs
variable{P:Program}{X:Cx}{γb:Type}[Membership Nat γb]{bad:γb}{all:Array Oper}{K:Act→World→Prop}{Q:Exit→Act→World→Prop}
variable{σ:bQ}{μ:aC}{Ds:List aA}{os:List (Bool×Nat)}{fl:Bool}{ix:Nat}
variable{d:Nat}{x y z:Operand}{u v:Value}{ty:TypeId}{pos:String}{aft:Array Edge}{g:Option (Nat×Bool)}
def kT(v:Value):List PanicEntry:=[{v,recovered:=false}]
def iZ(P:Program)(f:FuncId)(args:List Value)(D:aA)(ν:aC)(post:aA→Value→aC→Prop)(pan:Value→Prop):Prop:=
 EF P f∧∀w,dQ D w→(∀p∈ν,w.heap[p.1]?= some p.2∧D p.1=[]∧cF p.2)→ν.ks.Nodup→Calls P f args.toArray w fun e w'=>
  (∃v D' ν',e=.returned v∧fI (hd w) w.heap.size D ν.ks ν' D' w'∧post D' v ν')∨(∃v D',e=.panicked (kT v)∧fI (hd w) w.heap.size D ν.ks [] D' w'∧pan v)
theorem fI.afterG{h0:H0}{lo:Nat}{D0 D D':aA}{mods:List Nat}{A B ν ν':aC}{w w':World}(h:fI h0 lo D0 mods (A++ν++B) D w)(hs:fI (hd w) w.heap.size D ν.ks ν' D' w'):fI h0 lo D0 mods (A++ν'++B) D' w':=by
 have hle:=aJB h.hlo h.size;have hin:∀c∈ν.ks,∃o,(c,o)∈ν:=fun c hc=>by
  obtain⟨p,hp,rfl⟩:=aGA.1 hc;exact⟨p.2,hp⟩
 have hbx:∀p∈ν,_:=fun p hp=>h.box p (aGI _ (aFZ _ hp))
 have hnd:=h.nd;simp only[aGS]at hnd;have hA:∀p∈A,p.1∉ν.ks∧p.1<w.heap.size:=fun p hp=>⟨fun hm=>(aGK.1 (aGK.1 hnd).1).2.2 p.1 (aGA.2 ⟨p,hp,rfl⟩) p.1 hm rfl,aY (h.box p (aGI _ (aGI _ hp))).1⟩
 have hB:∀p∈B,p.1∉ν.ks∧p.1<w.heap.size:=fun p hp=>⟨fun hm=>(aGK.1 hnd).2.2 p.1 (aFZ _ hm) p.1 (aGA.2 ⟨p,hp,rfl⟩) rfl,aY (h.box p (aFZ _ hp)).1⟩
 have hN:∀p∈ν',p.1∈ν.ks∨w.heap.size≤p.1:=fun p hp=>((hs.box p hp).2.2).symm
 refine⟨h.hlo,aJB h.size hs.size,fun c hc hm=>?_,fun c hc=>?_,hs.agr,fun p hp=>?_,?_,fun p hp=>?_,fun e he=>(hs.env _ rfl).trans (h.env e he)⟩
 ·have hne:c∉ν.ks:=by
   intro hcm;obtain⟨o,ho⟩:=hin c hcm;rcases(hbx _ ho).2.2 with h'|h'
   ·have:=h.hlo;simp at h';omega
   ·exact hm h'
  rw[hs.old c (aIV hc hle) hne];exact h.old c hc hm
 ·rw[hs.dold c (aIV hc hle)];exact h.dold c hc
 ·rcases aGP.1 hp with hp|hp
  ·rcases aGP.1 hp with hp|hp
   ·obtain⟨h1,h2,h3⟩:=h.box p (aGI _ (aGI _ hp));obtain⟨hne,hl⟩:=hA p hp;exact⟨by rw[hs.old _ hl hne];exact h1,by rw[hs.dold _ hl];exact h2,h3⟩
   ·obtain⟨q1,q2,q3⟩:=hs.box p hp;refine⟨q1,q2,?_⟩;rcases q3 with q3|q3
    ·exact aGR (aJB h.size q3)
    ·obtain⟨o,ho⟩:=hin p.1 q3;exact(hbx _ ho).2.2
  ·obtain⟨h1,h2,h3⟩:=h.box p (aFZ _ hp);obtain⟨hne,hl⟩:=hB p hp;exact⟨by rw[hs.old _ hl hne];exact h1,by rw[hs.dold _ hl];exact h2,h3⟩
 ·simp only[aGS];rw[aGK,aGK];refine⟨⟨(aGK.1 (aGK.1 hnd).1).1,hs.nd,fun a ha b hb e=>?_⟩,(aGK.1 hnd).2.1,fun a ha b hb e=>?_⟩
  ·obtain⟨p,hp,rfl⟩:=aGA.1 ha;obtain⟨q,hq,rfl⟩:=aGA.1 hb;obtain⟨h1,h2⟩:=hA p hp;rcases hN q hq with h3|h3
   ·exact h1 (e▸h3)
   ·omega
  ·rcases aGP.1 ha with ha|ha
   ·exact(aGK.1 hnd).2.2 a (aGI _ ha) b hb e
   ·obtain⟨p,hp,rfl⟩:=aGA.1 ha;obtain⟨q,hq,rfl⟩:=aGA.1 hb;obtain⟨h1,h2⟩:=hB q hq;rcases hN p hp with h3|h3
    ·exact h1 (e▸h3)
    ·omega
 ·rcases aGP.1 hp with hp|hp
  ·rcases aGP.1 hp with hp|hp
   ·exact h.fz p (aGI _ (aGI _ hp))
   ·exact hs.fz p hp
  ·exact h.fz p (aFZ _ hp)
theorem ZN{c:Operand}{xs:Array Operand}{ats:Array TypeId}{f:FuncId}{c1 c2:List Value}{vs:List Value}{A B ν:aC}{post:aA→Value→aC→Prop}{pan:Value→Prop}(ho:all[ix]?= some ⟨some d,.call {callee:=.value c,args:=xs,argTypes:=ats},ty,pos,aft,g⟩)(hc:ev σ c=some (.func (.func f) c1.toArray c2.toArray))(hxs:H3 σ xs.toList=some vs)
  (hex:X.ex=none) (hfl:fl=false∨∀p∈ν,p.1∈bad) (hu:∀p∈ν,cF p.2) (hf:∀D,(∀D₁∈Ds,Le D₁ D)→iZ P f (c1++vs++c2) D ν post pan) (hN:Nat.blt d X.N=true) (hg:cS all σ g)
  (kp:∀v D,(∀D₁∈Ds,Le D₁ D)→pan v→∀a w,Hl X σ (A++B) (D::Ds) a w→Q (.panic (kT v)) a w)
  (kk:∀v D ν',(∀D₁∈Ds,Le D₁ D)→post D v ν'→WL P X bad all K Q os ((d,v)::σ) (A++ν'++B) (D::Ds)):
  WL P X bad all K Q ((fl,ix)::os) σ (A++ν++B) Ds:=by
 refine dI ho rfl rfl hg fun a w hh=>?_
 obtain⟨h1,h2,h3,D,h4,h5,h6⟩:=id hh;have hF:=hf D h5;have hbx:∀p∈ν,_:=fun p hp=>h4.box p (aGI _ (aFZ _ hp))
 have hnd:=h4.nd;simp only[aGS]at hnd;rw[pD hF.1 (hh.eval hc) (iB (fun _ _ hx=>hh.eval hx) hxs)];refine⟨fun h=>by simp[FW]at h,cU.2 ((hF.2 w h4.agr (fun p hp=>⟨(hbx p hp).1,(hbx p hp).2.1,hu p hp⟩) (aGK.1 (aGK.1 hnd).1).2.1).mono ?_)⟩;rintro e w' (⟨v,D',ν',rfl,hs,hpost⟩|⟨v,D',rfl,hs,hpan⟩)
 ·have hle:=eR h4.agr hs;refine⟨fun hflt=>⟨hs.size,fun c hc hcb=>hs.old c hc (fun hm=>?_)⟩,kk v D' ν' (fun D₁ hD₁=>(h5 D₁ hD₁).trans hle) hpost _ _ ?_⟩
  ·obtain⟨p,hp,rfl⟩:=aGA.1 hm;rcases hfl with h|h
   ·rw[hflt]at h;cases h
   ·exact hcb (h p hp)
  ·refine Hl.put ⟨h1,h2,h3,D',h4.afterG hs,fun D₁ hD₁=>?_,by unfold uF;rw[hex];trivial⟩ hN v;rcases aGB.1 hD₁ with rfl|hD₁
   ·exact Le.refl _
   ·exact(h5 D₁ hD₁).trans hle
 ·have hle:=eR h4.agr hs;have h7:=h4.afterG hs;rw[aGG]at h7;exact kp v D' (fun D₁ hD₁=>(h5 D₁ hD₁).trans hle) hpan a w' ⟨h1,h2,h3,D',h7,fun D₁ hD₁=>by
   rcases aGB.1 hD₁ with rfl|hD₁
   ·exact Le.refl _
   ·exact(h5 D₁ hD₁).trans hle,by unfold uF;rw[hex];trivial⟩
theorem _root_.Go.Fs.Ze{c:Operand}{xs:Array Operand}{ats:Array TypeId}{f:FuncId}{c1:List Value}{c2:List Value}{vs:List Value}(A:aC)(B:aC)(ν:aC){post:aA→Value→aC→Prop}{pan:Value→Prop}(e9:(all[ix]?,ev σ c,H3 σ xs.toList,X.ex)=(some ⟨some d,.call {callee:=.value c,args:=xs,argTypes:=ats},ty,pos,aft,g⟩,some (.func (.func f) c1.toArray c2.toArray),some vs,none))(hfl:fl=false∨∀p∈ν,p.1∈bad)(hu:∀p∈ν,cF p.2)(hf:∀D,(∀D₁∈Ds,Le D₁ D)→iZ P f (c1++vs++c2) D ν post pan)(kp:∀v D,(∀D₁∈Ds,Le D₁ D)→pan v→∀a w,Hl X σ (A++B) (D::Ds) a w→Q (.panic (kT v)) a w)(kk:∀v D ν',(∀D₁∈Ds,Le D₁ D)→post D v ν'→WL P X bad all K Q os ((d,v)::σ) (A++ν'++B) (D::Ds))(hN:Nat.blt d X.N=true:=by exact rfl)(hg:cS all σ g:=by exact aLJ):WL P X bad all K Q ((fl,ix)::os) σ (A++ν++B) Ds:=ZN (A:=A) (B:=B) (ν:=ν) (aGV (fun z=>z.1) e9) (aGV (fun z=>z.2.1) e9) (aGV (fun z=>z.2.2.1) e9) (aGV (fun z=>z.2.2.2) e9) hfl hu hf hN hg kp kk

def V3(X:Cx)(post:aA→Value→aC→Prop)(pan:Value→Prop):Ending→World→Prop:=fun e w'=>
 (∃v D' ν',e=.returned v∧fI X.h0 X.lo X.D0 X.mods ν' D' w'∧post D' v ν')∨(∃v D',e=.panicked (kT v)∧fI X.h0 X.lo X.D0 X.mods [] D' w'∧pan v)
theorem cT{fn:Func}{R:Ending→World→Prop}:PI (bodyPost P fn R):=fun _ _ _ _ he h=>⟨he.trans h.1,h.2⟩
theorem dH{f:FuncId}{fn:Func}{c:Code}{args:List Value}{D:aA}{ν:aC}{post:aA→Value→aC→Prop}{pan:Value→Prop}(N:Nat)(hf:P.funcs[f]?= some fn)(hn:(fn.name== "runtime.NumGoroutine")=false)(hb:fn.body=some c)(hN:fn.ntmps=N)(hsz:Nat.ble args.length N=true)
  (h:∀h0:H0,(∀p∈ν,p.1<h0.size)→ν.ks.Nodup→WC P (lT N h0 D ν.ks) (bodyPost P fn (V3 (lT N h0 D ν.ks) post pan)) c (gG 0 args) ν [D]):iZ P f args D ν post pan:=by
 refine⟨EF.of hf hn hb,fun w hw hν hnd=>?_⟩;subst hN;have hsz:=aIE hsz;refine(cU (r:=none) (n:=0)).1 ((callsIn_of_wp (R:=V3 (lT fn.ntmps (hd w) D ν.ks) post pan) hf hb aLJ (h (hd w) (fun p hp=>aY (hν p hp).1) hnd _ w ⟨?_,fun s v hs=>?_,rfl,D,⟨aGW _,aGW _,fun _ _ _=>rfl,fun _ _=>rfl,hw,(fun p hp=>?_),hnd,(fun p hp=>(hν p hp).2.2),fun e he=>aHC he⟩,fun D₁ h1=>?_,aLJ⟩) rfl).mono ?_)
 ·simp[lT];omega
 ·obtain⟨_,h2⟩:=eA args 0 s v hs;have hl:=(aGJ.1 h2).1;simp only[aJN]at h2 hl;show(args.toArray++_)[s]?= some v;rw[aIX Yam];simpa using h2
 ·exact⟨(hν p hp).1,(hν p hp).2.1,aGH (aGA.2 ⟨p,hp,rfl⟩)⟩
 ·simp only[aGU]at h1;subst h1;exact Le.refl _
 ·rintro e w' (⟨v,D',ν',rfl,hs,hp⟩|⟨v,D',rfl,hs,hp⟩)
  ·exact aGR ⟨v,D',ν',rfl,hs,hp⟩
  ·exact aGH ⟨v,D',rfl,hs,hp⟩
theorem cZ{fn:Func}{A B ν':aC}{post:aA→Value→aC→Prop}{pan:Value→Prop}{e:Exit}(he:(match e with|.normal=>true|.ret=>true|_=>false)=true){rs:List ResultVar}{vs:List Value}(hds:X.ds=[])(hr:fn.results=rs.toArray)(h:rM P X σ (A++ν'++B) rs vs)
  (hp:∀D,(∀D₁∈Ds,Le D₁ D)→post D (mI vs) ν'):∀a w,Hl X σ (A++ν'++B) Ds a w→bodyPost P fn (V3 X post pan) e a w:=by
 intro a w hh;have hrun:=fR hh hr h;obtain⟨h1,h2,h3,D,h4,h5,h6⟩:=hh;have hnd:=h4.nd;simp only[aGS]at hnd;have:a.defers=[]∧∃v,(results fn a.tmps).run P w=.ok v w∧V3 X post pan (.returned v) w:=⟨h3.trans hds,_,hrun,aGR ⟨_,D,ν',rfl,h4.sub (fun p hp=>aGI _ (aFZ _ hp)) (aGK.1 (aGK.1 hnd).1).2.1,hp D h5⟩⟩
 cases e<;>first|exact this|cases he
theorem bX{fn:Func}{post:aA→Value→aC→Prop}{pan:Value→Prop}{v:Value}(hds:X.ds=[])(hp:pan v):∀a w,Hl X σ μ Ds a w→bodyPost P fn (V3 X post pan) (.panic (kT v)) a w:=by
 rintro a w ⟨h1,h2,h3,D,h4,h5,h6⟩;exact⟨h3.trans hds,aGH ⟨v,D,rfl,h4.sub (fun p hp=>by cases hp) aID,hp⟩⟩
theorem aFA{t:TypeId}{fs:Array Field}(ho:all[ix]?= some ⟨some d,.makeInterface t x,ty,pos,aft,g⟩)(ht:P.underlying t=some (.struct fs))(hx:ev σ x=some v)(hN:Nat.blt d X.N=true)(hg:cS all σ g)(k:WL P X bad all K Q os ((d,.iface t v)::σ) μ Ds):WL P X bad all K Q ((fl,ix)::os) σ μ Ds:=
 bH ho rfl rfl hN hg (fun ρ hρ w'=>by
  simp only[execOp,hρ x _ hx];unfold Instr.makeInterface;rw[Sem.run_bind,Sem.run_bind,TU.of ht w'];rfl) k
theorem ZM{t:TypeId}{v:Value}(ho:all[ix]?= some ⟨none,.panic x,ty,pos,aft,g⟩)(hx:ev σ x=some (.iface t v))(hg:cS all σ g)(k:∀a w,Hl X σ μ Ds a w→Q (.panic (kT (.iface t v))) a w):WL P X bad all K Q ((fl,ix)::os) σ μ Ds:=by
 refine dI ho rfl rfl hg fun a w hh=>?_
 have e:(execOp a.eval ⟨none,.panic x,ty,pos,aft,g⟩).run P w=.halt (.panic (.iface t v)) w:=by
  simp only[execOp,hh.eval hx,Instr.panic];rfl
 rw[e];exact k a w hh
theorem fA{D:aA}{b:Nat}{l:List Bool}{R:Rd Bool}(hR:∀D x cs,cs=[Value.bool x]→R D x cs)(hA:At D b 0 (l.map Value.bool))(hl:l.length≤1000):Sl D R 1 (.slice (some ⟨b,0,none⟩) l.length l.length) l:=by
 refine⟨_,_,rfl,aGW _,by omega,aGH ⟨b,0,rfl,fun i x hi=>⟨_,hR _ _ _ rfl,rfl,fun j v hj=>?_⟩⟩⟩;cases j with
 |zero=>
  obtain rfl:Value.bool x=v:=by simpa using hj
  have h:=hA i (.bool x) (by rw[aHD,hi];rfl);simpa using h
 |succ j=>simp at hj
theorem iZ.frame{f:FuncId}{args:List Value}{D:aA}{ν A B:aC}{post post':aA→Value→aC→Prop}{pan:Value→Prop}(h:iZ P f args D ν post pan)(h1:∀D' v ν',Le D D'→post D' v ν'→post' D' v (A++ν'++B)):iZ P f args D (A++ν++B) post' pan:=by
 refine⟨h.1,fun w hw hν hn=>?_⟩;have hnd:=hn;unfold aC.ks at hnd;simp only[aGS]at hnd;refine(h.2 w hw (fun p hp=>hν p (aGI _ (aFZ _ hp))) (aGK.1 (aGK.1 hnd).1).2.1).mono ?_;have hst:fI (hd w) w.heap.size D (A++ν++B).ks (A++ν++B) D w:=by
  refine⟨aGW _,aGW _,fun _ _ _=>rfl,fun _ _=>rfl,hw,fun p hp=>⟨(hν p hp).1,(hν p hp).2.1,aGH (aGA.2 ⟨p,hp,rfl⟩)⟩,hn,(fun p hp=>(hν p hp).2.2),fun e he=>aHC he⟩
 rintro e w' (⟨v,D',ν',he,hs,hp⟩|⟨v,D',he,hs,hp⟩)
 ·exact aGR ⟨v,D',A++ν'++B,he,hst.afterG hs,h1 _ _ _ (eR hw hs) hp⟩
 ·have h7:=hst.afterG hs;exact aGH ⟨v,D',he,h7.sub (fun p hp=>by cases hp) aID,hp⟩
theorem UB{t e tr:TypeId}{a:Option Addr}{n c:Nat}{ats:Array TypeId}(ho:all[ix]?= some ⟨some d,.call {callee:=.builtin .len,args:=#[x],argTypes:=ats},tr,pos,aft,g⟩)(ht:P.underlying t=some (.slice e))(hx:ev σ x=some v)(hv:v=.slice a n c)(h0:ats[0]?= some t)
  (hN:Nat.blt d X.N=true) (hg:cS all σ g) (kk:WL P X bad all K Q os ((d,.int .i64 (n:Int))::σ) μ Ds):WL P X bad all K Q ((fl,ix)::os) σ μ Ds:=by
 subst hv;exact gW ho ht hx h0 hN hg kk
theorem gE{t tr:TypeId}{b:ByteArray}{ats:Array TypeId}(ho:all[ix]?= some ⟨some d,.call {callee:=.builtin .len,args:=#[x],argTypes:=ats},tr,pos,aft,g⟩)(ht:P.underlying t=some .string)(hx:ev σ x=some (.string b))(hat:ats[0]?= some t)
  (hN:Nat.blt d X.N=true) (hg:cS all σ g) (kk:WL P X bad all K Q os ((d,.int .i64 (b.size:Int))::σ) μ Ds):WL P X bad all K Q ((fl,ix)::os) σ μ Ds:=
 bH ho rfl rfl hN hg (fun ρ hρ w'=>by
  have hx':=hρ x _ hx;simp[Builtin.len_,hat,hx',Sem.run_bind,TU.of ht w',goInt,Sem.run_pure,go_sem]) kk
end Go.Fs
namespace Go.Fs
namespace C12
structure aN where
 row:C1.dF
 table:C2.aZ
 book:C3.aW
 yard:C7.bI
end C12
open C12
def RB:Rd Bool:=fun _ b cs=>cs=[.bool b]
theorem RB.up:RB.Up:=fun _ _ _ h=>h
def RS:Rd ByteArray:=fun _ b cs=>cs=[.string b]
theorem RS.up:RS.Up:=fun _ _ _ h=>h
def bO(s:aN)(pv cv hv lv mv bl bc yc yq:Value):List Value:=
 [pv,cv,.int .i64 s.row.wrong,.int .i64 s.row.off,.int .i64 s.table.last,hv,.int .i64 s.table.step,lv,mv,.int .i64 s.book.chairs,.int .i64 s.book.coin,.int .i64 s.book.box,bl,bc,yc,.int .i64 s.yard.fit,yq]
@[simp] theorem stC_len(s:aN)(pv cv hv lv mv bl bc yc yq:Value):(bO s pv cv hv lv mv bl bc yc yq).length=17:=rfl
structure gK(D:aA)(s:aN)(pv cv hv lv mv bl bc yc yq:Value):Prop where
 pl:Sl D RI 1 pv s.row.places
 ct:Sl D RC 3 cv s.row.counts
 ht:Sl D A1 2 hv s.table.heights
 lev:Sl D RI 1 lv s.table.levels
 mks:Sl D BJ 4 mv s.table.marks
 ln:Sl D nX 3 bl s.book.lines
 cn:Sl D pR 3 bc s.book.counts
 ch:Sl D rC 4 yc s.yard.chairs
 cl:Sl D R2 2 yq s.yard.claims
theorem gK.up{D D':aA}{s:aN}{pv cv hv lv mv bl bc yc yq:Value}(h:gK D s pv cv hv lv mv bl bc yc yq)(hl:Le D D'):gK D' s pv cv hv lv mv bl bc yc yq:=
 ⟨h.pl.up RI.up hl,h.ct.up RC.up hl,h.ht.up A1.up hl,h.lev.up RI.up hl,h.mks.up BJ.up hl,h.ln.up nX.up hl,h.cn.up pR.up hl,h.ch.up rC.up hl,h.cl.up R2.up hl⟩
def gY(D:aA)(v:Value)(s:aN):Prop:=∃pv cv hv lv mv bl bc yc yq,v=.agg (bO s pv cv hv lv mv bl bc yc yq).toArray∧gK D s pv cv hv lv mv bl bc yc yq
theorem gY.up{D D':aA}{v:Value}{s:aN}(h:gY D v s)(hl:Le D D'):gY D' v s:=by
 obtain⟨pv,cv,hv,lv,mv,bl,bc,yc,yq,e,h1⟩:=h;exact⟨pv,cv,hv,lv,mv,bl,bc,yc,yq,e,h1.up hl⟩
theorem gK.row{D:aA}{s:aN}{pv cv hv lv mv bl bc yc yq:Value}(h:gK D s pv cv hv lv mv bl bc yc yq):mJ D (.agg #[pv,cv,.int .i64 s.row.wrong,.int .i64 s.row.off]) s.row:=⟨pv,cv,rfl,h.pl,h.ct⟩
theorem gK.table{D:aA}{s:aN}{pv cv hv lv mv bl bc yc yq:Value}(h:gK D s pv cv hv lv mv bl bc yc yq):gL D (.agg #[.int .i64 s.table.last,hv,.int .i64 s.table.step,lv,mv]) s.table:=⟨hv,lv,mv,rfl,h.ht,h.lev,h.mks⟩
theorem gK.book{D:aA}{s:aN}{pv cv hv lv mv bl bc yc yq:Value}(h:gK D s pv cv hv lv mv bl bc yc yq):fP D (.agg #[.int .i64 s.book.chairs,.int .i64 s.book.coin,.int .i64 s.book.box,bl,bc]) s.book:=⟨bl,bc,rfl,h.ln,h.cn⟩
theorem gK.yard{D:aA}{s:aN}{pv cv hv lv mv bl bc yc yq:Value}(h:gK D s pv cv hv lv mv bl bc yc yq):lE D (.agg #[yc,.int .i64 s.yard.fit,yq]) s.yard:=⟨yc,yq,rfl,h.ch,h.cl⟩
end Go.Fs
namespace Go.Fs
open Go.Proofs
namespace L1
open C1
theorem gT{α:Type}{p:α→Bool}{xs:List α}{k:Nat}{x:α}(hx:xs[k]?= some x)(h:(xs.take k).any p=false)(hp:p x=true):idxOf p xs=k:=by
 have hk:=(aGJ.1 hx).1;have he:=(aGJ.1 hx).2;have h1:xs.any p=true:=aLH.2 ⟨x,aGD hx,hp⟩;have h2:xs.findIdx p=k:=by
  rw[List.findIdx_eq hk];refine⟨by rw[he];exact hp,fun j hj=>?_⟩
  have:=List.any_eq_false.1 h (xs[j]'Yd) (by
   rw[List.mem_take_iff_getElem];exact⟨j,by omega,rfl⟩)
  simpa using this
 simp[idxOf,h1,h2]
theorem eQ{α:Type}{p:α→Bool}{xs:List α}(h:xs.any p=false):idxOf p xs= -1:=by simp[idxOf,h]
theorem gS{α:Type}{p:α→Bool}{xs:List α}:decide (0≤idxOf p xs)=xs.any p:=by
 unfold idxOf;cases h:xs.any p<;>simp
theorem jW{α:Type}{p:α→Bool}{xs:List α}:(!xs.any fun x=> !p x)=xs.all p:=by
 rw[List.all_eq_not_any_not]
theorem dG(n lo hi:Int)(D:aA):Fn Tryz.prog 126 #[.int .i64 n,.int .i64 lo,.int .i64 hi] D (fun _ v=>v=.bool (fL n lo hi)):=by
 refine enter 15 Tryz.func126 rfl rfl rfl rfl fun h0=>C.s1<|Zh rfl<|L.n3<|Za rfl<|Za rfl<|hP rfl rfl rfl rfl trivial<|Za rfl ?_
 refine' L.anK 4 (s:=10) (p:=14) rfl (fun hg1=>?_) (fun hg1=>?_) ?_;rotate_left
 ·refine Zb rfl<|Zb rfl<|hP rfl rfl rfl rfl ⟨_,rfl,rfl⟩<|Zab rfl ?_;exact L.cu 3
 ·refine Zk rfl<|Zk rfl<|Zk rfl<|Zac rfl ?_;exact L.cu 3
 refine Zh rfl<|L.n5 ?_;exact leave1 rfl rfl rfl rfl (fun D hD=>rfl)
theorem TN(n:Int)(D:aA):Fn Tryz.prog 131 #[iV n] D (fun _ v=>v=.bool (mR n)):=by
 refine enter 5 Tryz.func131 rfl rfl rfl rfl fun h0=>C.s1<|Zh rfl<|L.n3<|Za rfl<|Zc rfl (fun D1 hD1=>dG _ _ _ _)<|Zh rfl<|L.n5 ?_
 exact leave1 rfl rfl rfl rfl (fun D hD=>rfl)
theorem PC(rv:Value)(r:dF)(c:rO)(D:aA)(hr:mJ D rv r):Fn Tryz.prog 129 #[rv,cV c] D (fun _ v=>v=.bool (lU r.places.length c)):=by
 obtain⟨pv,cv,rfl,hp,hc⟩:=hr;refine enter 16 Tryz.func129 rfl rfl rfl rfl fun h0=>C.s1<|Zv rfl (fun q1 E1 hE1 hB1=>Zv rfl (fun q2 E2 hE2 hB2=>Zh rfl<|L.n3<|Zi rfl Tf.f156_1 rfl<|Zf 1 rfl Tf.a3 rfl hB2 rfl<|Zi rfl Tf.f28_0 rfl<|Zf 0 rfl Tf.a25 rfl hB1 rfl<|aV rfl U25 rfl Yk rfl rfl trivial<|Zc rfl (fun D1 hD1=>dG _ _ _ _) ?_));refine Za rfl ?_
 refine' L.anK 4 (s:=11) (p:=15) rfl (fun hg1=>?_) (fun hg1=>?_) ?_;rotate_left
 ·refine Zj rfl Tf.f156_2 rfl<|Zg 2 rfl Tf.a3 rfl hB2 rfl<|Zd rfl (fun D2 hD2=>dG _ _ _ _)<|Zab rfl ?_;exact L.cu 3
 ·refine Zk rfl<|Zk rfl<|Zk rfl<|Zac rfl ?_;exact L.cu 3
 refine Zh rfl<|L.n5 ?_;exact leave1 rfl rfl rfl rfl (fun D hD=>rfl)
theorem oS(sv fv:Value)(xs:List Int)(p:Int→Bool)(D:aA)(hS:Sl D RI 1 sv xs)(hp:cD Tryz.prog D iV fv p):
  Fn Tryz.prog 271 #[sv,fv] D (fun _ v=>v=.int .i64 (idxOf p xs)):=by
 have hl:=hS.len;obtain⟨f,c1,c2,rfl,hf⟩:=hp;refine enter 19 Tryz.func271 rfl rfl rfl rfl fun h0=>C.s1<|Zh rfl<|L.n4<|Za rfl<|aV rfl U25 rfl Yk rfl rfl trivial<|Za rfl<|L.n1<|Zah<|cG (γ:=Nat) (fun k=>xs.length-k) (fun k=>k≤xs.length∧(xs.take k).any p=false) (fun k=>[(8,.int .i64 k)]) [(7,_),(4,_),(0,_),(1,_)] (fun k=>[D]) 0 Ye ⟨Yb,aLJ⟩ C.rs (aD) ?_
 rintro k ⟨h1,h2⟩;refine C.s1<|Zad rfl<|L.n2<|aE rfl (fun hc1=>?_) (fun hc1=>?_)
 ·have hk:k<xs.length:=by omega
  obtain⟨x,hx⟩:=C.ge xs k;refine C.kn<|aL<|Zah<|C.s1<|Za rfl<|Zh rfl<|L.n3<|Za rfl<|Za rfl<|Za rfl<|cR rfl U25 Tf.s3 rfl Yk rfl Yd Yk rfl aLJ (fun b1 o1 cs1 hr1 hcl1 hA1=>?_);obtain rfl:cs1=[.int .i64 _]:=hr1;refine Zf 0 rfl Tf.a3 rfl hA1 rfl<|Zc rfl (fun D1 hD1=>hf x _ (hD1 _ Ye))<|L.n1<|aQ rfl (fun hc2=>?_) (fun hc2=>?_)
  ·refine C.s1<|Za rfl<|Zh rfl<|L.n5<|aG<|Zaj<|Zaj<|aG<|Zaj ?_;exact leave1 rfl rfl rfl rfl (fun D hD=>by show Value.int _ _=_;rw[gT hx h2 hc2])
  ·refine bR<|Zak<|Zag<|C.rg<|Zx rfl<|Za rfl<|Zz ?_;have hpx:p x=false:=hc2;have h3:(xs.take (k+1)).any p=false:=by rw[aGT,hx,aJQ,h2];simp[hpx]
   exact aH 12 (k+1) ⟨by omega,h3⟩ Yd ⟨Yb,aLJ⟩ rfl rfl (LT _) (aD)
 ·refine aR<|Zai<|Zai<|Zal<|Zag<|C.s1<|Zh rfl<|L.n5 ?_;exact leave1 rfl rfl rfl rfl (fun D hD=>by show Value.int _ _=_;rw[eQ Yab])
theorem jD(sv fv:Value)(xs:List Int)(p:Int→Bool)(D:aA)(hS:Sl D RI 1 sv xs)(hp:cD Tryz.prog D iV fv p):
  Fn Tryz.prog 206 #[sv,fv] D (fun _ v=>v=.bool (xs.any p)):=by
 refine enter 9 Tryz.func206 rfl rfl rfl rfl fun h0=>C.s1<|Zh rfl<|L.n3<|Za rfl<|Za rfl<|Zc rfl (fun D1 hD1=>oS _ _ xs p _ (Sl.at RI.up hD1 Yk Ye) (hp.up (hD1 _ Ye)))<|nJ rfl rfl rfl rfl trivial<|Zh rfl<|L.n5 ?_
 exact leave1 rfl rfl rfl rfl (fun D hD=>by show Value.bool (decide _)=_;rw[gS])
theorem sT(b:Nat)(fv:Value)(p:Int→Bool)(x:Int)(D:aA)(hp:cD Tryz.prog D iV fv p)(hB:At D b 0 [fv]):
  Fn Tryz.prog 207 #[iV x,.pointer (some ⟨b,0,none⟩)] D (fun _ v=>v=.bool (!p x)):=by
 obtain⟨f,c1,c2,rfl,hf⟩:=hp;refine enter 8 Tryz.func207 rfl rfl rfl rfl fun h0=>C.s1<|Zh rfl<|L.n3<|Zf 0 rfl Tf.a191 rfl hB rfl<|Za rfl<|Zc rfl (fun D1 hD1=>hf x _ (hD1 _ Ye))<|Zaf rfl<|Zh rfl<|L.n5 ?_
 exact leave1 rfl rfl rfl rfl (fun D hD=>rfl)
theorem xL(sv fv:Value)(xs:List Int)(p:Int→Bool)(D:aA)(hS:Sl D RI 1 sv xs)(hp:cD Tryz.prog D iV fv p)(h1:fv.cells=#[fv]):
  Fn Tryz.prog 130 #[sv,fv] D (fun _ v=>v=.bool (xs.all p)):=by
 refine enter 9 Tryz.func130 rfl rfl rfl rfl fun h0=>C.s1<|mA (vs:=[fv]) rfl rfl h1 rfl aLJ (fun b D1 hD1 hB=>Zh rfl<|L.n3<|Za rfl<|bB rfl rfl rfl rfl trivial<|Zc rfl (fun D1 hD1=>jD _ _ xs (fun x=> !p x) _ (Sl.at RI.up hD1 Yk Ye) ⟨_,[],[.pointer (some ⟨b,0,none⟩)],rfl,fun x D2 hl=>sT b fv p x D2 (hp.up ((hD1 _ Ye).trans hl)) (hB.up ((hD1 _ Ye).trans hl))⟩)<|Zaf rfl<|Zh rfl<|L.n5 ?_)
 exact leave1 rfl rfl rfl rfl (fun D hD=>by show Value.bool (!_)=_;rw[jW])
theorem oP(sv fv:Value)(xs:List rO)(p:rO→Bool)(D:aA)(hS:Sl D RC 3 sv xs)(hp:cD Tryz.prog D cV fv p):
  Fn Tryz.prog 272 #[sv,fv] D (fun _ v=>v=.int .i64 (idxOf p xs)):=by
 have hl:=hS.len;obtain⟨f,c1,c2,rfl,hf⟩:=hp;refine enter 19 Tryz.func272 rfl rfl rfl rfl fun h0=>C.s1<|Zh rfl<|L.n4<|Za rfl<|aV rfl U26 rfl Yk rfl rfl trivial<|Za rfl<|L.n1<|Zah<|cG (γ:=Nat) (fun k=>xs.length-k) (fun k=>k≤xs.length∧(xs.take k).any p=false) (fun k=>[(8,.int .i64 k)]) [(7,_),(4,_),(0,_),(1,_)] (fun k=>[D]) 0 Ye ⟨Yb,aLJ⟩ C.rs (aD) ?_
 rintro k ⟨h1,h2⟩;refine C.s1<|Zad rfl<|L.n2<|aE rfl (fun hc1=>?_) (fun hc1=>?_)
 ·have hk:k<xs.length:=by omega
  obtain⟨x,hx⟩:=C.ge xs k;refine C.kn<|aL<|Zah<|C.s1<|Za rfl<|Zh rfl<|L.n3<|Za rfl<|Za rfl<|Za rfl<|cR rfl U26 Tf.s156 rfl Yk rfl Yd Yk rfl aLJ (fun b1 o1 cs1 hr1 hcl1 hA1=>?_);obtain rfl:cs1=[.bool _,.int .i64 _,.int .i64 _]:=hr1;refine Zr rfl Tf.a156 rfl hA1 Tf.s156<|Zc rfl (fun D1 hD1=>hf x _ (hD1 _ Ye))<|L.n1<|aQ rfl (fun hc2=>?_) (fun hc2=>?_)
  ·refine C.s1<|Za rfl<|Zh rfl<|L.n5<|aG<|Zaj<|Zaj<|aG<|Zaj ?_;exact leave1 rfl rfl rfl rfl (fun D hD=>by show Value.int _ _=_;rw[gT hx h2 hc2])
  ·refine bR<|Zak<|Zag<|C.rg<|Zx rfl<|Za rfl<|Zz ?_;have hpx:p x=false:=hc2;have h3:(xs.take (k+1)).any p=false:=by rw[aGT,hx,aJQ,h2];simp[hpx]
   exact aH 12 (k+1) ⟨by omega,h3⟩ Yd ⟨Yb,aLJ⟩ rfl rfl (LT _) (aD)
 ·refine aR<|Zai<|Zai<|Zal<|Zag<|C.s1<|Zh rfl<|L.n5 ?_;exact leave1 rfl rfl rfl rfl (fun D hD=>by show Value.int _ _=_;rw[eQ Yab])
theorem lA(sv fv:Value)(xs:List rO)(p:rO→Bool)(D:aA)(hS:Sl D RC 3 sv xs)(hp:cD Tryz.prog D cV fv p):
  Fn Tryz.prog 208 #[sv,fv] D (fun _ v=>v=.bool (xs.any p)):=by
 refine enter 9 Tryz.func208 rfl rfl rfl rfl fun h0=>C.s1<|Zh rfl<|L.n3<|Za rfl<|Za rfl<|Zc rfl (fun D1 hD1=>oP _ _ xs p _ (Sl.at RC.up hD1 Yk Ye) (hp.up (hD1 _ Ye)))<|nJ rfl rfl rfl rfl trivial<|Zh rfl<|L.n5 ?_
 exact leave1 rfl rfl rfl rfl (fun D hD=>by show Value.bool (decide _)=_;rw[gS])
theorem G6(b:Nat)(fv:Value)(p:rO→Bool)(x:rO)(D:aA)(hp:cD Tryz.prog D cV fv p)(hB:At D b 0 [fv]):
  Fn Tryz.prog 209 #[cV x,.pointer (some ⟨b,0,none⟩)] D (fun _ v=>v=.bool (!p x)):=by
 obtain⟨f,c1,c2,rfl,hf⟩:=hp;refine enter 8 Tryz.func209 rfl rfl rfl rfl fun h0=>C.s1<|Zv rfl (fun q1 E1 hE1 hB1=>Zh rfl<|L.n3<|Zf 0 rfl Tf.a268 rfl hB rfl<|Zr rfl Tf.a156 rfl hB1 Tf.s156<|Zc rfl (fun D1 hD1=>hf x _ (hD1 _ Ye))<|Zaf rfl<|Zh rfl<|L.n5 ?_)
 exact leave1 rfl rfl rfl rfl (fun D hD=>rfl)
theorem m9(sv fv:Value)(xs:List rO)(p:rO→Bool)(D:aA)(hS:Sl D RC 3 sv xs)(hp:cD Tryz.prog D cV fv p)(h1:fv.cells=#[fv]):
  Fn Tryz.prog 132 #[sv,fv] D (fun _ v=>v=.bool (xs.all p)):=by
 refine enter 9 Tryz.func132 rfl rfl rfl rfl fun h0=>C.s1<|mA (vs:=[fv]) rfl rfl h1 rfl aLJ (fun b D1 hD1 hB=>Zh rfl<|L.n3<|Za rfl<|bB rfl rfl rfl rfl trivial<|Zc rfl (fun D1 hD1=>lA _ _ xs (fun x=> !p x) _ (Sl.at RC.up hD1 Yk Ye) ⟨_,[],[.pointer (some ⟨b,0,none⟩)],rfl,fun x D2 hl=>G6 b fv p x D2 (hp.up ((hD1 _ Ye).trans hl)) (hB.up ((hD1 _ Ye).trans hl))⟩)<|Zaf rfl<|Zh rfl<|L.n5 ?_)
 exact leave1 rfl rfl rfl rfl (fun D hD=>by show Value.bool (!_)=_;rw[jW])
theorem I3(sv:Value)(x:Int)(xs:List Int)(D:aA)(hS:Sl D RI 1 sv (x::xs)):
  Fn Tryz.prog 211 #[sv] D (fun _ v=>v=.int .i64 (xs.foldl min x)):=by
 have hl:=hS.len;simp only[aGM]at hl;refine enter 25 Tryz.func211 rfl rfl rfl rfl fun h0=>C.s1<|Zh rfl<|L.n4<|Za rfl<|aV rfl U25 rfl Yk rfl rfl trivial<|Zad rfl<|L.n1<|aE rfl (fun hc1=>?_) (fun hc1=>?_)
 ·exact absurd hc1 (by simp only[aGM];omega)
 ·refine C.kn<|C.s1<|Za rfl<|cR rfl U25 Tf.s3 rfl Yk rfl Yd (by rfl) rfl aLJ (fun b1 o1 cs1 hr1 hcl1 hA1=>?_);obtain rfl:cs1=[.int .i64 _]:=hr1;refine Zf 0 rfl Tf.a3 rfl hA1 rfl<|Zh rfl<|L.n4<|Zh rfl<|L.n1<|Zah<|cG (γ:=Nat) (fun k=>xs.length-k) (fun k=>k≤xs.length) (fun k=>[(3,.int .i64 ((xs.take k).foldl min x)),(4,.int .i64 (k+1:Int))]) [(2,_),(0,_)] (fun k=>[D]) 0 Yd ⟨Yb,Yb,aLJ⟩ C.rs (aD) ?_;rintro k h1;refine C.s2<|Za rfl<|Za rfl<|aV rfl U25 rfl Yk rfl rfl trivial<|Zad rfl<|L.n1<|aE rfl (fun hc2=>?_) (fun hc2=>?_)
  ·simp only[aGM]at hc2;have hk:k<xs.length:=by omega
   obtain⟨y,hy⟩:=C.ge xs k;have hy2:(x::xs)[(k+1:Int).toNat]?= some y:=by rw[show((k:Int)+1).toNat=k+1 by omega];simpa using hy
   refine C.kn<|aL<|Zah<|C.rg<|Za rfl<|Za rfl<|Za rfl<|cR rfl U25 Tf.s3 rfl Yk rfl Yd Yk rfl aLJ (fun b2 o2 cs2 hr2 hcl2 hA2=>?_);obtain rfl:cs2=[.int .i64 _]:=hr2;refine Zf 0 rfl Tf.a3 rfl hA2 rfl<|RV rfl rfl rfl rfl trivial<|Zh rfl<|Zz<|Zak<|Zag<|C.rg<|Za rfl<|Zx rfl<|Zh rfl<|Zz ?_;have h3:(xs.take (k+1)).foldl min x=min ((xs.take k).foldl min x) y:=by rw[aGT,hy,aIG];rfl
   exact aH 16 (k+1) Yd Yd ⟨(by rw[h3];rfl),Yb,aLJ⟩ rfl rfl (LT _) (aD)
  ·simp only[aGM]at hc2;refine aR<|Zai<|Zai<|Zal<|Zag<|C.s1<|Za rfl<|Zh rfl<|L.n5 ?_;exact leave1 rfl rfl rfl rfl (fun D hD=>by show Value.int _ _=_;rw[aHE Yd])
theorem iT(sv:Value)(x:Int)(xs:List Int)(D:aA)(hS:Sl D RI 1 sv (x::xs)):
  Fn Tryz.prog 136 #[sv] D (fun _ v=>v=.int .i64 (xs.foldl min x)):=by
 refine enter 5 Tryz.func136 rfl rfl rfl rfl fun h0=>C.s1<|Zh rfl<|L.n3<|Za rfl<|Zc rfl (fun D1 hD1=>I3 _ x xs _ (Sl.at RI.up hD1 Yk Ye))<|Zh rfl<|L.n5 ?_
 exact leave1 rfl rfl rfl rfl (fun D hD=>rfl)
end L1
end Go.Fs
namespace Go.Fs
open Go.Proofs
namespace L1
open C1
theorem AW{r:dF}(h:(decide ((9:Int)<r.places.length)||decide ((6:Int)<r.counts.length))=true):aT r=3:=by
 simp only[aIC,aGZ]at h;unfold aT;rw[aGX Yd]
theorem V8{r:dF}{b:Bool}(h:(decide ((9:Int)<r.places.length)||decide ((6:Int)<r.counts.length))=false)
  (h2:((((decide ((r.places.length:Int)=0)|| !fL r.wrong 0 6)|| !fL r.off 0 9)|| !r.places.all mR)|| !r.counts.all (lU r.places.length))=b):aT r=if b then 1 else 0:=by
 simp only[aJM,aIT]at h;unfold aT;rw[aGQ Yd]
 subst h2;by_cases h1:r.places.length=0<;>cases fL r.wrong 0 6<;>cases fL r.off 0 9<;>cases r.places.all mR<;>cases r.counts.all (lU r.places.length)<;>simp[h1]
theorem yS{r:dF}(h:(decide ((9:Int)<r.places.length)||decide ((6:Int)<r.counts.length))=false)
  (h2:((((decide ((r.places.length:Int)=0)|| !fL r.wrong 0 6)|| !fL r.off 0 9)|| !r.places.all mR)|| !r.counts.all (lU r.places.length))=true):aT r=1:=V8 h h2
theorem qH{r:dF}(h:(decide ((9:Int)<r.places.length)||decide ((6:Int)<r.counts.length))=false)
  (h2:((((decide ((r.places.length:Int)=0)|| !fL r.wrong 0 6)|| !fL r.off 0 9)|| !r.places.all mR)|| !r.counts.all (lU r.places.length))=false):aT r=0:=V8 h h2
theorem x7{r:dF}{t:List Int}{k:Nat}{x:rO}(hx:r.counts[k]?= some x)(h2:(r.counts.take k).all (fun c=>decide (gQ t c≤r.off))=true)(h:¬r.off<gQ t x):(r.counts.take (k+1)).all (fun c=>decide (gQ t c≤r.off))=true:=by
 rw[aGT,hx,List.all_append,h2];simp;omega
theorem w9{r:dF}{t:List Int}{k:Nat}{x:rO}(hx:r.counts[k]?= some x)(hb:0≤gQ t x∧gQ t x≤9):
  ((((r.counts.take (k+1)).filter fun c=>decide (0<gQ t c)).length:Nat):Int)=((r.counts.take k).filter fun c=>decide (0<gQ t c)).length+ [1].foldl min (gQ t x):=by
 rw[aGT,hx,aJG,aGC];by_cases h:0<gQ t x
 ·simp[h];omega
 ·simp[h];omega
theorem QH{r:dF}{t:List Int}{x:rO}(hx:x∈r.counts)(h:r.off<gQ t x):dV r t=false:=by
 unfold dV;rw[List.all_eq_false];exact⟨x,hx,by simp;omega⟩
theorem MT{r:dF}{t:List Int}(h:r.counts.all (fun c=>decide (gQ t c≤r.off))=true):dV r t=true:=h
open C1
theorem zM(rv:Value)(r:dF)(D:aA)(hr:mJ D rv r):Fn Tryz.prog 76 #[rv] D (fun _ v=>v=.int .i64 (aT r)):=by
 obtain⟨pv,cv,rfl,hp,hc⟩:=hr;refine enter 47 Tryz.func76 rfl rfl rfl rfl fun h0=>C.s1<|Zv rfl (fun q1 E1 hE1 hB1=>Zh rfl<|L.n3<|Zr rfl Tf.a28 rfl hB1 Tf.s28<|bB rfl rfl rfl rfl trivial<|Zh rfl<|L.n2<|Zah<|C.s1<|Zi rfl Tf.f28_0 rfl ?_);refine Zf 0 rfl Tf.a25 rfl hB1 rfl<|aV rfl U25 rfl Yk rfl rfl trivial<|eT rfl rfl rfl rfl trivial<|Za rfl ?_
 refine' L.orK 5 (s:=11) (p:=16) rfl (fun hg1=>?_) (fun hg1=>?_) ?_;rotate_left
 ·refine Zj rfl Tf.f28_1 rfl<|Zg 1 rfl Tf.a26 rfl hB1 rfl<|aV rfl U26 rfl Yk rfl rfl ⟨_,rfl,rfl⟩<|eT rfl rfl rfl rfl ⟨_,rfl,rfl⟩<|Zac rfl ?_;exact L.cu 4
 ·refine Zk rfl<|Zk rfl<|Zk rfl<|Zk rfl<|Zab rfl ?_;exact L.cu 4
 refine Zh rfl<|L.n1<|aQ rfl (fun hc1=>?_) (fun hc1=>?_)
 ·refine C.s1<|Zh rfl<|L.n5<|aG<|Zaj ?_;exact leave1 rfl rfl rfl rfl (fun D hD=>by show Value.int _ _=_;rw[AW hc1])
 ·refine C.s1<|Zi rfl Tf.f28_0 rfl<|Zf 0 rfl Tf.a25 rfl hB1 rfl<|aV rfl U25 rfl Yk rfl rfl trivial<|dK rfl rfl rfl rfl trivial<|Za rfl ?_;refine' L.orK 5 (s:=22) (p:=27) rfl (fun hg2=>?_) (fun hg2=>?_) ?_;rotate_left
  ·refine Zj rfl Tf.f28_2 rfl<|Zg 2 rfl Tf.a3 rfl hB1 rfl<|Zd rfl (fun D1 hD1=>dG _ _ _ _)<|iW rfl rfl rfl ⟨_,rfl,rfl⟩<|Zac rfl ?_;exact L.cu 4
  ·refine Zk rfl<|Zk rfl<|Zk rfl<|Zk rfl<|Zab rfl ?_;exact L.cu 4
  refine Za rfl ?_;refine' L.orK 5 (s:=28) (p:=33) rfl (fun hg3=>?_) (fun hg3=>?_) ?_;rotate_left
  ·refine Zj rfl Tf.f28_3 rfl<|Zg 3 rfl Tf.a3 rfl hB1 rfl<|Zd rfl (fun D2 hD2=>dG _ _ _ _)<|iW rfl rfl rfl ⟨_,rfl,rfl⟩<|Zac rfl ?_;exact L.cu 4
  ·refine Zk rfl<|Zk rfl<|Zk rfl<|Zk rfl<|Zab rfl ?_;exact L.cu 4
  refine Za rfl ?_;refine' L.orK 5 (s:=34) (p:=39) rfl (fun hg4=>?_) (fun hg4=>?_) ?_;rotate_left
  ·refine Zj rfl Tf.f28_0 rfl<|Zg 0 rfl Tf.a25 rfl hB1 rfl<|Zd rfl (fun D3 hD3=>xL _ _ _ mR _ (Sl.at RI.up hD3 Yk Ye) (.of fun x D2=>TN x D2) rfl)<|iW rfl rfl rfl ⟨_,rfl,rfl⟩<|Zac rfl ?_;exact L.cu 4
  ·refine Zk rfl<|Zk rfl<|Zk rfl<|Zk rfl<|Zab rfl ?_;exact L.cu 4
  refine Za rfl ?_;refine' L.orK 6 (s:=40) (p:=46) rfl (fun hg5=>?_) (fun hg5=>?_) ?_;rotate_left
  ·refine Zj rfl Tf.f28_1 rfl<|Zg 1 rfl Tf.a26 rfl hB1 rfl<|Zb rfl<|Zd rfl (fun D4 hD4=>m9 _ _ _ (lU r.places.length) _ (Sl.at RC.up hD4 Yk Ye) ⟨_,[_],[],rfl,fun c D2 hl=>PC _ r c D2 ⟨_,_,rfl,hp.up RI.up ((hD4 _ Ye).trans hl),hc.up RC.up ((hD4 _ Ye).trans hl)⟩⟩ rfl)<|iW rfl rfl rfl ⟨_,rfl,rfl⟩<|Zac rfl ?_;exact L.cu 5
  ·refine Zk rfl<|Zk rfl<|Zk rfl<|Zk rfl<|Zk rfl<|Zab rfl ?_;exact L.cu 5
  refine Zh rfl<|L.n1<|aQ rfl (fun hc2=>?_) (fun hc2=>?_)
  ·refine C.s1<|Zh rfl<|L.n5<|aG<|Zaj ?_;exact leave1 rfl rfl rfl rfl (fun D hD=>by show Value.int _ _=_;rw[yS hc1 hc2])
  ·refine bR<|Zak<|Zag<|C.s1<|Zh rfl<|L.n5 ?_;exact leave1 rfl rfl rfl rfl (fun D hD=>by show Value.int _ _=_;rw[qH hc1 hc2])
theorem ZW(c:List Int)(h9:c.length=9)(hb:∀x∈c,0≤x∧x≤1)(D:aA):Fn Tryz.prog 79 #[.agg (ints c).toArray] D (fun _ v=>v=.agg (ints (jE c)).toArray):=by
 refine enter 20 Tryz.func79 rfl rfl rfl rfl fun h0=>C.s1<|Zv rfl (fun q1 E1 hE1 hB1=>Zw rfl Tf.z186 rfl (fun q2=>L.n4<|Zr rfl Tf.a179 rfl hB1 Yx<|Za rfl<|L.n1<|Zah<|cJ (γ:=Nat) (fun k=>9-k) (fun k=>k≤9) (fun k=>[(6,.int .i64 (k:Int))]) [(5,_),(2,_)] (fun k=>[(q2,.cells (ints (lL c k)).toArray 186 (0,0))]) (fun k=>[E1,D]) 0 Yd ⟨Yb,aLJ⟩ C.rs (LT _) (aD) ?_))
 rintro k h1;refine C.s1<|Zad rfl<|L.n2<|aE rfl (fun hc1=>?_) (fun hc1=>?_)
 ·have hk:k<9:=by omega
  obtain⟨x,hx⟩:=C.ge c k;have hx1:=hb x (aGD hx);have hx2:=eV hb 0 k;have hg1:=y1 c k Yd;have hlen:=K4 c k;refine C.kn<|aL<|Zah<|C.s1<|Za rfl<|P5 rfl U179 Tf.a3 Tf.s3 rfl rfl Yd Yd Yk rfl trivial<|Zh rfl<|Zh rfl<|L.n1<|C.rg<|Za rfl<|Zx rfl ?_;refine Za rfl<|dE rfl U186 Tf.s3 rfl rfl Yd Yd rfl trivial<|aS rfl Tf.a3 rfl (List.Mem.head _) (cA Yk) GT rfl trivial<|Za rfl<|Zx rfl<|dE rfl U186 Tf.s3 rfl rfl Yd Yd rfl trivial<|C9 rfl Tf.s3 rfl rfl (bL.head) (by simp only[*];omega) trivial<|Zz<|Zak<|Zag<|C.rg<|Zx rfl ?_;refine Za rfl<|Zz ?_;rw[←wV (by simpa using hx),show((k:Int)+1).toNat=k+1 by omega,BA];exact aH 16 (k+1) Yd Yd ⟨Yb,aLJ⟩ rfl rfl (LT _) (aD)
 ·obtain rfl:k=9:=by omega
  rw[m4];have hlen:=lM c;refine aR<|Zai<|Zai<|Zal<|Zag<|C.s1<|Zt rfl Tf.a186 rfl (List.Mem.head _) (by first|exact Tf.s186|(simp only[aI, *];exact Tf.s186))<|bD rfl rfl rfl rfl Tf.s186 Ya Ya (bL.head) (cW _) trivial<|L.n5 ?_
  exact Zm [_] rfl ⟨⟨_,_,_,rfl,(GE _),aGH ⟨Tf.a186,(by first|exact Tf.s186|(simp only[aHK,aI, *];exact Tf.s186)),rfl⟩⟩,aLJ⟩ (fun D hD=>rfl)
theorem aCD(rv:Value)(r:dF)(c:rO)(t:List Int)(D:aA)(hr:mJ D rv r)(hok:oD r)(ht:lN r t)(hcm:c∈r.counts):
  Fn Tryz.prog 210 #[rv,cV c,.agg (ints (jE t)).toArray] D (fun _ v=>v=.int .i64 (gQ t c)):=by
 obtain⟨pv,cv,rfl,hp,hc⟩:=hr;obtain⟨h1,h2,h3,h4⟩:=hok.cnt c hcm;have h9:=hok.len9;have hab:=zD ht h1 h2 h9;have hs1:=DX ht h1 h2;have hg1:=nS t c.many.toNat Yd;have hg2:=nS t r.places.length Yd;have hg3:=nS t (r.places.length-c.many.toNat) Yd;have hg4:(jE t)[(↑r.places.length-c.many).toNat]?= some (cY t 0 (r.places.length-c.many.toNat)):=by rw[show(↑r.places.length-c.many).toNat=r.places.length-c.many.toNat by omega];exact hg3
 rw[ht.1]at hs1;have hb1:=eV ht.2 0 r.places.length;have hb2:=eV ht.2 0 (r.places.length-c.many.toNat);have hb3:=eV ht.2 0 c.many.toNat;refine enter 37 Tryz.func210 rfl rfl rfl rfl fun h0=>C.s1<|Zv rfl (fun q1 E1 hE1 hB1=>Zv rfl (fun q2 E2 hE2 hB2=>Zv rfl (fun q3 E3 hE3 hB3=>Zh rfl<|L.n3<|Zi rfl Tf.f156_1 rfl<|Zf 1 rfl Tf.a3 rfl hB2 rfl<|dE rfl U186 Tf.s3 rfl rfl Yd Yd rfl trivial<|gD rfl Tf.a3 rfl hB3 Ye (cA hg1) GT rfl trivial<|Zh rfl ?_)));refine L.n4<|Zi rfl Tf.f28_0 rfl<|Zf 0 rfl Tf.a25 rfl hB1 rfl<|aV rfl U25 rfl Yk rfl rfl trivial<|Zh rfl<|L.n3<|Zi rfl Tf.f156_0 rfl<|Zf 0 rfl Tf.a4 rfl hB2 rfl<|L.n1<|aQ rfl (fun hc1=>?_) (fun hc1=>?_)
 ·rw[aGX hc1]at hs1;refine C.drawA [] 5 11 504 (fun _ _ _ h=>bZ (P:=Tryz.prog) (fn:=Tryz.f210) _ _ _ h)<|Za rfl<|dE rfl U186 Tf.s3 rfl rfl Yd Yd rfl trivial<|gD rfl Tf.a3 rfl hB3 Ye (cA hg2) GT rfl trivial<|Za rfl<|Zi rfl Tf.f156_1 rfl<|Zf 1 rfl Tf.a3 rfl hB2 rfl<|fJ rfl rfl rfl Yf rfl trivial<|dE rfl U186 Tf.s3 rfl rfl Yd Yd rfl trivial<|gD rfl Tf.a3 rfl hB3 Ye (cA hg4) GT rfl trivial<|fJ rfl rfl rfl Yf rfl trivial<|Zh rfl ?_;refine L.n3<|Za rfl<|Zi rfl Tf.f156_2 rfl<|Zf 2 rfl Tf.a3 rfl hB2 rfl<|fJ rfl rfl rfl Yf rfl trivial<|Zi rfl Tf.f156_2 rfl<|Zf 2 rfl Tf.a3 rfl hB2 rfl<|Za rfl<|fJ rfl rfl rfl Yf rfl trivial<|oW rfl rfl rfl rfl trivial<|Zh rfl<|L.n5 ?_;exact leave1 rfl rfl rfl rfl (fun D hD=>by show Value.int _ _=_;rw[←hs1];rfl)
 ·rw[aGQ (by simp[hc1])]at hs1;refine C.kn<|C.s1<|Za rfl<|Zi rfl Tf.f156_2 rfl<|Zf 2 rfl Tf.a3 rfl hB2 rfl<|fJ rfl rfl rfl Yf rfl trivial<|Zi rfl Tf.f156_2 rfl<|Zf 2 rfl Tf.a3 rfl hB2 rfl<|Za rfl<|fJ rfl rfl rfl Yf rfl trivial<|oW rfl rfl rfl rfl trivial<|Zh rfl ?_;refine L.n5 ?_;exact leave1 rfl rfl rfl rfl (fun D hD=>by show Value.int _ _=_;rw[←hs1];rfl)
theorem LK(rv:Value)(r:dF)(t:List Int)(D:aA)(hr:mJ D rv r)(hok:oD r)(ht:lN r t):
  Fn Tryz.prog 135 #[rv,.agg (ints (jE t)).toArray] D (fun D' v=>Sl D' RI 1 v (r.counts.map (gQ t))):=by
 obtain⟨pv,cv,rfl,hp,hc⟩:=hr;have h6:=hok.cnt6;have hsl:=lM t;refine enter 23 Tryz.func135 rfl rfl rfl rfl fun h0=>C.s1<|Zv rfl (fun q1 E1 hE1 hB1=>Zv rfl (fun q2 E2 hE2 hB2=>Zh rfl<|L.n4<|Zi rfl Tf.f28_1 rfl<|Zf 1 rfl Tf.a26 rfl hB1 rfl<|aV rfl U26 rfl Yk rfl rfl trivial<|Za rfl<|L.n1<|Zah ?_));refine cJ (γ:=Nat×Value×aC) (fun g=>r.counts.length-g.1) (fun g=>g.1≤r.counts.length∧bN 3 1 g.2.1 g.1 (ints ((r.counts.take g.1).map (gQ t))) g.2.2) (fun g=>[(10,.int .i64 (g.1:Int)),(4,g.2.1)]) [(9,_),(8,_),(3,_),(2,_)] (fun g=>g.2.2++[]) (fun g=>[E2,E1,D]) (0,.slice none 0 0,[]) ⟨by simp,by simpa [ints]using bN.nil⟩ ⟨Yb,Yb,aLJ⟩ C.rs (LT _) (aD) ?_
 rintro⟨k,v,ν⟩ ⟨h1,ha⟩;refine C.s1<|Zad rfl<|L.n2<|aE rfl (fun hc1=>?_) (fun hc1=>?_)
 ·have hk:k<r.counts.length:=by omega
  obtain⟨x,hx⟩:=C.ge r.counts k;have hxm:=aGD hx;refine C.kn<|aL<|Zah<|C.s1<|cR rfl U26 Tf.s156 rfl Yk rfl Yd Yk rfl aLJ (fun b1 o1 cs1 hr1 hcl1 hA1=>?_);obtain rfl:cs1=[.bool _,.int .i64 _,.int .i64 _]:=hr1;refine Zr rfl Tf.a156 rfl hA1 Tf.s156<|Zw rfl Tf.z156 rfl (fun q3=>Zu rfl Tf.s156 (bL.head)<|L.n1<|C.rg<|Za rfl<|Zr rfl Tf.a28 rfl hB1 Tf.s28<|Zt rfl Tf.a156 rfl (List.Mem.head _) Tf.s156<|cO rfl Tf.a186 rfl hB2 Yc (by first|exact Tf.s186|(simp only[aI, *];exact Tf.s186)) GT rfl trivial<|Zc rfl (fun D1 hD1=>aCD _ r x t _ ⟨_,_,rfl,hp.up RI.up (hD1 _ Ye),hc.up RC.up (hD1 _ Ye)⟩ hok ht hxm)<|Zp rfl U25 Tf.s3 Tf.z3 rfl rfl rfl rfl (.cons rfl rfl .nil) (fun b901 D901 hD901 hA901=>?_))
  have hS901:=Sl.ofInts (l:=[_]) (n:=1) (cap:=1) hA901 rfl Yd Yd;refine bA (A:=[(_,_)]) (B:=_) rfl U25 rfl rfl Tf.s3 Tf.z3 rfl Tf.i3 rfl rfl rfl ha (jL.lit hA901) Ye rfl Yaf Yi Yd (aGR rfl) rfl aLJ (fun v1 ν1 ha1=>?_);have ha2:bN 3 1 v1 (k+1) (ints ((r.counts.take (k+1)).map (gQ t))) ν1:=by rw[aGT,hx,aIB,aGS,←eW];exact ha1
  refine Zh rfl<|Zz<|Zak<|Zag<|C.rg<|Zx rfl<|Za rfl<|Zz ?_;exact aH 16 (k+1,v1,ν1) ⟨by simp only;omega,ha2⟩ Yn ⟨Yb,Yb,aLJ⟩ rfl rfl (List.Sublist.cons _ (LT _)) (fun D h=>⟨D,LE _ (h),Le.refl D⟩)
 ·obtain rfl:k=r.counts.length:=by omega
  rw[aHT]at ha;refine aR<|Zai<|Zai<|Zal<|Zag<|C.s1<|Za rfl<|Zh rfl<|L.n5<|eF (A:=[]) (B:=[]) ha rfl (fun D2 hD2 hF=>?_);exact leave1 rfl rfl rfl rfl (fun D hD=>(hF.ints Ye Yd).up RI.up (hD _ Ye))
theorem BY(rv:Value)(r:dF)(t:List Int)(D:aA)(hr:mJ D rv r)(hok:oD r)(ht:lN r t):
  Fn Tryz.prog 78 #[rv,.agg (ints (jE t)).toArray] D (fun _ v=>v=.tuple #[.int .i64 (if dV r t then(nA r t:Int)else 0),.bool (dV r t)]):=by
 obtain⟨pv,cv,rfl,hp,hc⟩:=hr;have h6:=hok.cnt6;have hsl:=lM t;refine enter 27 Tryz.func78 rfl rfl rfl rfl fun h0=>C.s1<|Zv rfl (fun q1 E1 hE1 hB1=>Zv rfl (fun q2 E2 hE2 hB2=>Zh rfl<|Zh rfl<|L.n4<|Zr rfl Tf.a28 rfl hB1 Tf.s28<|cO rfl Tf.a186 rfl hB2 Yc (by first|exact Tf.s186|(simp only[aI, *];exact Tf.s186)) GT rfl trivial<|cB rfl rfl rfl (fun D1 hD1=>LK _ r t _ ⟨_,_,rfl,hp.up RI.up (hD1 _ Ye),hc.up RC.up (hD1 _ Ye)⟩ hok ht) rfl aLJ (fun v1 D1 hD1 hp1=>aV rfl U25 rfl hp1 rfl rfl trivial<|Za rfl ?_)));refine L.n1<|Zah<|cG (γ:=Nat) (fun k=>r.counts.length-k) (fun k=>k≤r.counts.length∧(r.counts.take k).all (fun c=>decide (gQ t c≤r.off))=true) (fun k=>[(12,.int .i64 (k:Int)),(4,.int .i64 (((r.counts.take k).filter fun c=>decide (0<gQ t c)).length:Int))]) [(11,_),(10,_),(5,_),(2,_)] (fun k=>[D1,E2,E1,D]) 0 Ye ⟨Yb,Yb,aLJ⟩ C.rs (aD) ?_
 rintro k ⟨h1,h2⟩;refine C.s1<|Zad rfl<|L.n2<|aE rfl (fun hc1=>?_) (fun hc1=>?_)
 ·simp only[aHR]at hc1;have hk:k<r.counts.length:=by omega
  obtain⟨x,hx⟩:=C.ge r.counts k;have hxm:=aGD hx;have hx2:(r.counts.map (gQ t))[k]?= some (gQ t x):=by rw[aHD,hx];rfl
  have hxb:=AT hok ht hxm;have hlf:=aJI (fun c=>decide (0<gQ t c)) (r.counts.take k);have hlt:(r.counts.take k).length≤k:=aKX _ _;refine C.kn<|aL<|Zah<|C.s1<|Zs rfl U25 Tf.s3 rfl hp1 rfl hx2 (fun b1 o1 cs1 hr1 hcl1 hA1=>?_);obtain rfl:cs1=[.int .i64 _]:=hr1;refine Zf 0 rfl Tf.a3 rfl hA1 rfl<|Zh rfl<|L.n4<|Za rfl<|Zi rfl Tf.f28_3 rfl<|Zf 3 rfl Tf.a3 rfl hB1 rfl<|eT rfl rfl rfl rfl trivial<|L.n1<|aE rfl (fun hc2=>?_) (fun hc2=>?_)
  ·refine C.s1<|Zh rfl<|Zh rfl<|L.n5<|Zaj<|aG<|Zaj<|Zaj<|aG<|Zaj ?_;exact Zm [_,_] rfl C.rs (fun D hD=>by show Value.tuple _=_;rw[QH hxm hc2];rfl)
  ·refine C.kn<|C.rg<|Za rfl<|Za rfl<|Zp rfl U25 Tf.s3 Tf.z3 rfl rfl rfl rfl (.cons rfl rfl (.cons rfl rfl .nil)) (fun b901 D901 hD901 hA901=>?_);have hS901:=Sl.ofInts (l:=[_,_]) (n:=2) (cap:=2) hA901 rfl Yd Yd;refine Zc rfl (fun D2 hD2=>iT _ (gQ t x) [1] _ (hS901.up RI.up (hD2 _ Ye)))<|nH rfl rfl rfl (by simp only[rJ,aIO,List.foldl_nil];omega) rfl trivial<|Zh rfl<|Zz<|Zak<|Zag<|C.rg<|Zx rfl<|Za rfl<|Zz ?_
   exact aH 18 (k+1) ⟨by omega,x7 hx h2 hc2⟩ Yd ⟨Yb,(by rw[w9 hx hxb];rfl),aLJ⟩ rfl rfl (LT _) (fun D h=>⟨D,LE _ (h),Le.refl D⟩)
 ·simp only[aHR]at hc1;obtain rfl:k=r.counts.length:=by omega
  rw[aHT]at h2;refine aR<|Zai<|Zai<|Zal<|Zag<|C.s1<|Za rfl<|Zh rfl<|Zh rfl<|L.n5 ?_;exact Zm [_,_] rfl C.rs (fun D hD=>by show Value.tuple _=_;rw[MT h2,aHT];rfl)
theorem wE(t:List Int)(D:aA)(h:t.length≤9)(hb:∀x∈t,0≤x∧x≤1):Fn Tryz.prog 79 #[.agg (ints (dY t)).toArray] D (fun _ v=>v=.agg (ints (jE t)).toArray):=
 (ZW (dY t) (fD h) (DJ hb) D).mono fun _ v _ hv=>by rw[hv,CO]
end L1
end Go.Fs
namespace Go.Fs
open Go.Proofs
namespace L12
def dS(code:Int):Value:=.iface 240 (.agg #[.int .i64 code])
theorem NF(sv:Value)(xs:List Bool)(b:Bool)(D:aA)(hS:Sl D RB 1 sv xs):Fn Tryz.prog 260 #[sv,.bool b] D (fun _ v=>v=.int .i64 (idxOf (fun x=>b==x) xs)):=by
 have hl:=hS.len;refine enter 19 Tryz.func260 rfl rfl rfl rfl fun h0=>C.s1<|Zh rfl<|L.n4<|Za rfl<|aV rfl U327 rfl Yk rfl rfl trivial<|Za rfl<|L.n1<|Zah<|cG (γ:=Nat) (fun k=>xs.length-k) (fun k=>k≤xs.length∧(xs.take k).any (fun x=>b==x)=false) (fun k=>[(8,.int .i64 k)]) [(7,_),(4,_),(0,_),(1,_)] (fun k=>[D]) 0 Ye ⟨Yb,aLJ⟩ C.rs (aD) ?_
 rintro k ⟨h1,h2⟩;refine C.s1<|Zad rfl<|L.n2<|aE rfl (fun hc1=>?_) (fun hc1=>?_)
 ·have hk:k<xs.length:=by omega
  obtain⟨x,hx⟩:=C.ge xs k;refine C.kn<|aL<|Zah<|C.s1<|Za rfl<|Zh rfl<|L.n3<|Za rfl<|Za rfl<|Za rfl<|cR rfl U327 Tf.s4 rfl Yk rfl Yd Yk rfl aLJ (fun b1 o1 cs1 hr1 hcl1 hA1=>?_);obtain rfl:cs1=[.bool _]:=hr1;refine Zf 0 rfl Tf.a4 rfl hA1 rfl<|aDO rfl U4 rfl rfl rfl trivial<|L.n1<|aQ rfl (fun hc2=>?_) (fun hc2=>?_)
  ·refine C.s1<|Za rfl<|Zh rfl<|L.n5<|aG<|Zaj<|Zaj<|aG<|Zaj ?_;exact leave1 rfl rfl rfl rfl (fun D hD=>by show Value.int _ _=_;rw[L1.gT hx h2 hc2])
  ·refine bR<|Zak<|Zag<|C.rg<|Zx rfl<|Za rfl<|Zz ?_;have h3:(xs.take (k+1)).any (fun x=>b==x)=false:=by rw[aGT,hx,aJQ,h2];simpa using hc2
   exact aH 12 (k+1) ⟨by omega,h3⟩ Yd ⟨Yb,aLJ⟩ rfl rfl (LT _) (aD)
 ·refine aR<|Zai<|Zai<|Zal<|Zag<|C.s1<|Zh rfl<|L.n5 ?_;exact leave1 rfl rfl rfl rfl (fun D hD=>by show Value.int _ _=_;rw[L1.eQ Yab])
theorem c8(sv:Value)(xs:List Bool)(b:Bool)(D:aA)(hS:Sl D RB 1 sv xs):Fn Tryz.prog 190 #[sv,.bool b] D (fun _ v=>v=.bool (xs.any fun x=>b==x)):=by
 refine enter 9 Tryz.func190 rfl rfl rfl rfl fun h0=>C.s1<|Zh rfl<|L.n3<|Za rfl<|Za rfl<|Zc rfl (fun D1 hD1=>NF _ xs b _ (Sl.at RB.up hD1 Yk Ye))<|nJ rfl rfl rfl rfl trivial<|Zh rfl<|L.n5 ?_
 exact leave1 rfl rfl rfl rfl (fun D hD=>by show Value.bool (decide _)=_;rw[L1.gS])
theorem dU(code:Int)(cs:List Bool)(sv:Value)(D:aA)(hS:Sl D RB 1 sv cs):iZ Tryz.prog 113 [.int .i64 code,sv] D [] (fun _ _ ν'=>cs.any (fun x=>true==x)=false∧ν'=[]) (fun v=>cs.any (fun x=>true==x)=true∧v=dS code):=by
 refine dH 9 Tryz.func113 rfl rfl rfl rfl (fun h0 hwl hwn=>C.s1<|Za rfl<|Zc rfl (fun D1 hD1=>c8 _ cs true _ (hS.up RB.up (hD1 _ Ye)))<|L.n1<|aQ rfl (fun hc1=>?_) (fun hc1=>?_))
 ·refine C.rg<|Za rfl<|Zq [.int .i64 code] rfl Tf.p240 Tf.z240 rfl rfl<|aFA rfl U240 rfl rfl aLJ ?_;exact ZM rfl rfl aLJ (bX rfl ⟨hc1,rfl⟩)
 ·refine bR ?_;exact cZ (A:=[]) (ν':=[]) (B:=[]) (vs:=[]) rfl rfl rfl aLJ (fun D' hD=>⟨hc1,rfl⟩)
end L12
end Go.Fs
namespace Go.Fs
open Go.Proofs
namespace L1
open C1
def fO(br bY bc bh:Nat)(c:List Int):aC:=[(bh,.cells [.func (.func 134) #[] #[.pointer (some ⟨br,0,none⟩),.pointer (some ⟨bY,0,none⟩),.pointer (some ⟨bc,0,none⟩),.pointer (some ⟨bh,0,none⟩)]].toArray 191 (0,0)),(bc,.cells (ints c).toArray 179 (0,0))]
theorem nN{c pre:List Int}{i:Nat}{k:Int}(h:c.take (i+1)=pre++[k])(hl:pre.length=i):c.take i=pre:=by
 have:=aGV (List.take i) h;rw[List.take_take,aKC (Nat.le_succ i)]at this;rw[this,aHN Yd,aHE Yd]
def f8(x:List Int):List Value:=[.agg (ints x).toArray]
def IC(P:Program)(Dr:aA)(lo l:Nat)(J Jx:List (List Int)→nY)(xs:List (List Int)):Prop:=∀pre x β D w,(∃r,xs=pre++x::r)→sJ lo D w→J pre β D w→(∀b∈β,b<w.heap.size)→Le Dr D→
    fS P l (f8 x) w fun b D' w'=>sJ lo D' w'∧rZ β D w D' w'∧(if b then J (pre++[x]) β D' w' else Jx (pre++[x]) β D' w')
def xF(J Jx:List (List Int)→nY)(br bY bc bh:Nat)(places:List Int)(pre:List Int)(i:Nat)(done:List (List Int))(v:Value)(J':nY)(μ':aC):Prop:=
 ∃b c',v=.bool b∧c'.length=9∧c'.take i=pre∧c'.drop places.length=List.replicate (9-places.length) 0∧μ'=fO br bY bc bh c'∧(if b=true then J'=J (done++(cQ (places.drop i)).map fun t=>dY (pre++t))else ∃p,J'=Jx p)
theorem pS{lo l:Nat}{J Jx:List (List Int)→nY}{places:List Int}{xs:List (List Int)}{Dr Dy:aA}{Ds:List aA}{br bY bc bh:Nat}{pv cv:Value}{w1 w2:Int}(hn9:places.length≤9)
  (hs:∀pre,vI lo (J pre)) (hsx:∀pre,vI lo (Jx pre)) (hY:IC Tryz.prog Dr lo l J Jx xs) (hDr:Dr∈Ds) (hDy:Dy∈Ds) (hA:At Dr br 0 [pv,cv,.int .i64 w1,.int .i64 w2]) (hpl:Sl Dr RI 1 pv places) (hB:At Dy bY 0 [.func (.yield l) #[] #[]]):
  ∀(j i:Nat) (pre c:List Int) (done rest:List (List Int)) (iv:Int),iv=i→i+j=places.length→pre.length=i→c.length=9→c.take i=pre→c.drop places.length=List.replicate (9-places.length) 0→
   xs=done++(cQ (places.drop i)).map (fun t=>dY (pre++t))++rest→
   aDT Tryz.prog 134 [.int .i64 iv,.pointer (some ⟨br,0,none⟩),.pointer (some ⟨bY,0,none⟩),.pointer (some ⟨bc,0,none⟩),.pointer (some ⟨bh,0,none⟩)] lo (J done) (fO br bY bc bh c) Ds (xF J Jx br bY bc bh places pre i done):=by
 intro j;induction j using Nat.strongRecOn with
 |_ j ih=>
 intro i pre c done rest iv hiv hij hl h9 hp hz hxs;subst hiv;have hmx:=hpl.len;refine vR (μ:=fO br bY bc bh c) 41 Tryz.func134 rfl rfl rfl rfl<|C.s1<|Zh rfl<|L.n4<|Za rfl<|Zi rfl Tf.f28_0 rfl<|Zf 0 rfl Tf.a25 rfl hA rfl<|aV rfl U25 rfl Yk rfl rfl trivial<|dK rfl rfl rfl rfl trivial<|L.n1<|aE rfl (fun hc1=>?_) (fun hc1=>?_)
 ·have hin:i=places.length:=by omega
  subst hin;have hleaf:=(AS h9 hp hl hz).symm;rw[List.drop_length]at hxs;simp only[cQ,aHB,aKD,aGG]at hxs;rw[hleaf,aGN,aJS]at hxs;refine C.s1<|Zf 0 rfl Tf.a271 rfl hB rfl<|bK rfl Tf.a179 rfl (List.Mem.tail _ (List.Mem.head _)) Yx GT rfl trivial<|K7 (l:=l) (J1:=J (done++[c])) (J0:=Jx (done++[c])) rfl rfl rfl rfl (hs _) (hsx _) (fun D w hd hJ hb hl=>hY done c _ D w ⟨rest,hxs⟩ hd hJ (fun b hbm=>by obtain⟨p,hp,rfl⟩:=aGA.1 hbm;exact hb p hp) (hl _ hDr)) rfl aLJ (fun b1 J1 hJ1=>Zh rfl<|L.n5<|Zaj ?_)
  exact gM (P:=Tryz.prog) (fn:=Tryz.f134) (N:=41) (vs:=[_]) rfl rfl ⟨rfl,aLJ⟩ (fun D h=>⟨D,h,Le.refl D⟩) ⟨b1,c,rfl,h9,hp,hz,rfl,by cases b1<;>simp only[hJ1,aII,aHL,aIL];exact⟨_,rfl⟩;simp[cQ,hleaf]⟩
 ·have hin:i<places.length:=by omega
  obtain⟨p,hpi⟩:=C.ge places i;have hd:places.drop i=p::places.drop (i+1):=by rw[aIJ hin];congr 1;exact aHC ((aGF hin).symm.trans hpi)
  rw[hd,←IR]at hxs;refine C.kn<|C.s2<|Za rfl<|L.n1<|Zah<|wN (γ:=Nat×List Int) (fun g=>2-g.1) (fun g=>g.1≤2∧g.2.length=9∧g.2.take i=pre∧g.2.drop places.length=List.replicate (9-places.length) 0) (fun g=>J (done++y2 p (places.drop (i+1)) pre g.1)) (fun g=>[(17,.int .i64 (g.1:Int))]) [(6,_),(0,_),(1,_),(3,_),(4,_)] (fun g=>fO br bY bc bh g.2) (fun g=>Ds) (0,c) ⟨by simp,h9,hp,hz⟩ (by simp[RH]) ⟨Yb,aLJ⟩ C.rs (LT _) (aD) ?_;rintro⟨k,c1⟩ ⟨h11,h91,hp1,hz1⟩;refine C.s1<|Zad rfl<|L.n2<|aE rfl (fun hc2=>?_) (fun hc2=>?_)
  ·refine C.kn<|aL<|Zah<|C.s1<|Za rfl<|Zh rfl<|L.n3<|Zi rfl Tf.f28_0 rfl<|Zf 0 rfl Tf.a25 rfl hA rfl<|Za rfl<|Zs rfl U25 Tf.s3 rfl hpl rfl hpi (fun b1 o1 cs1 hr1 hcl1 hA1=>?_);obtain rfl:cs1=[.int .i64 _]:=hr1;refine Zf 0 rfl Tf.a3 rfl hA1 rfl<|Zh rfl<|L.n3<|Za rfl<|dK rfl rfl rfl rfl trivial<|Za rfl ?_;refine' L.orK 4 (s:=27) (p:=31) rfl (fun hg1=>?_) (fun hg1=>?_) ?_;rotate_left
   ·refine Zb rfl<|Zb rfl<|dK rfl rfl rfl rfl ⟨_,rfl,rfl⟩<|Zac rfl ?_;exact L.cu 3
   ·refine Zk rfl<|Zk rfl<|Zk rfl<|Zab rfl ?_;exact L.cu 3
   refine L.n1<|aQ rfl (fun hc3=>?_) (fun hc3=>?_)
   ·have hpk:p=2∨p=(k:Int):=by simpa using hc3
    obtain⟨rr,hr⟩:=SL (p:=p) (ps:=places.drop (i+1)) (pre:=pre) (k:=k) Yd;have hset:=ER (k:=(k:Int)) h91 hin hn9 hp1 hz1;refine C.s1<|Za rfl<|Za rfl<|dE rfl U179 Tf.s3 rfl rfl Yd Yd rfl trivial<|C9 rfl Tf.s3 rfl rfl (.tail (bL.head)) (by simp only[*];omega) trivial<|L.n3<|Zl rfl Tf.a191 rfl (List.Mem.head _) rfl<|Za rfl<|Zx rfl<|nZ rfl rfl rfl rfl (ih (j-1) Yd (i+1) (pre++[(k:Int)]) (c1.set i k) (done++y2 p (places.drop (i+1)) pre k) (rr++rest) (i+1:Int) Yd Yd Yaf hset.1 hset.2.1 hset.2.2 (by rw[hxs,hr,GZ hpk];simp)) rfl aLJ ?_
    rintro _ J2 _ ⟨b2,c2,rfl,h9',hp',hz',rfl,hJ2⟩;refine Zaf rfl<|L.n1<|aQ rfl (fun hc4=>?_) (fun hc4=>?_)
    ·obtain rfl:b2=false:=by simpa using hc4
     refine C.s1<|Zh rfl<|L.n5<|aG<|Zaj<|Zaj<|aG<|Zaj ?_;exact gM (P:=Tryz.prog) (fn:=Tryz.f134) (N:=41) (vs:=[_]) rfl rfl ⟨rfl,aLJ⟩ (fun D h=>⟨D,h,Le.refl D⟩) ⟨false,c2,rfl,h9',nN hp' hl,hz',rfl,by simpa using hJ2⟩
    ·obtain rfl:b2=true:=by simpa using hc4
     refine bR<|Zak<|Zag<|C.rg<|Zx rfl<|Za rfl<|Zz ?_;exact lS 24 (k+1,c2) ⟨by simp only;omega,h9',nN hp' hl,hz'⟩ Yn (by simpa only[aII,GZ hpk,aGN]using hJ2) ⟨Yb,aLJ⟩ rfl rfl (LT _) (aD)
   ·have hpk:¬(p=2∨p=(k:Int)):=by simpa using hc3
    refine bR<|Zak<|Zag<|C.rg<|Zx rfl<|Za rfl<|Zz ?_;exact lS 16 (k+1,c1) ⟨by simp only;omega,h91,hp1,hz1⟩ Yn (by rw[aBM hpk]) ⟨Yb,aLJ⟩ rfl rfl (LT _) (aD)
  ·refine aR<|Zai<|Zai<|Zal<|Zag<|C.s1<|Zh rfl<|L.n5 ?_;exact gM (P:=Tryz.prog) (fn:=Tryz.f134) (N:=41) (vs:=[_]) rfl rfl ⟨rfl,aLJ⟩ (fun D h=>⟨D,h,Le.refl D⟩) ⟨true,c1,rfl,h91,hp1,hz1,rfl,by simp only[aII];rw[hd,←IR,show k=2 by omega]⟩
theorem PA(places:List Int)(Dr:aA)(br:Nat)(pv cv:Value)(w1 w2:Int)(hn9:places.length≤9)(hA:At Dr br 0 [pv,cv,.int .i64 w1,.int .i64 w2])(hpl:Sl Dr RI 1 pv places):
  sK Tryz.prog 133 [.pointer (some ⟨br,0,none⟩)] Dr ((cQ places).map dY) f8:=by
 refine yF 8 Tryz.func133 rfl rfl rfl rfl (fun lo l J Jx hs hsx hY=>C.s1<|Zv rfl (fun q1 E1 hE1 hB1=>L.n3<|Zw rfl Tf.z179 rfl (fun q2=>L.n3<|Zw rfl Tf.z191 rfl (fun q3=>L.n3<|bB rfl rfl rfl rfl trivial<|Zn rfl Tf.s191 (bL.head) rfl<|L.n1<|C.rg ?_))));refine Zl rfl Tf.a191 rfl (List.Mem.head _) rfl<|nZ rfl rfl rfl rfl (pS (l:=l) Yd hs hsx hY Ye Ye hA hpl hB1 places.length 0 [] (List.replicate 9 0) [] [] 0 rfl Yd rfl rfl rfl (List.drop_replicate ..) Ye) rfl aLJ ?_;rintro _ J2 _ ⟨b2,c2,rfl,h9',hp',hz',rfl,hJ2⟩;refine Zz ?_;exact gM (P:=Tryz.prog) (fn:=Tryz.f133) (N:=8) (vs:=[]) rfl rfl aLJ (fun D h=>⟨D,by simp only[aGU]at h;subst h;simp,Le.refl D⟩) (by cases b2<;>simp at hJ2;exact aGH hJ2;exact aGR hJ2)
theorem IU(rv:Value)(r:dF)(D:aA)(hr:mJ D rv r)(hn9:r.places.length≤9):
  Fn Tryz.prog 77 #[rv] D (fun D' v=>∃br,v=.func (.func 133) #[] #[.pointer (some ⟨br,0,none⟩)]∧sK Tryz.prog 133 [.pointer (some ⟨br,0,none⟩)] D' ((cQ r.places).map dY) f8):=by
 obtain⟨pv,cv,rfl,hp,hc⟩:=hr;refine enter 4 Tryz.func77 rfl rfl rfl rfl fun h0=>C.s1<|Zv rfl (fun q1 E1 hE1 hB1=>Zh rfl<|L.n3<|bB rfl rfl rfl rfl trivial<|Zh rfl<|L.n5 ?_)
 exact leave1 rfl rfl rfl rfl (fun D hD=>⟨_,rfl,PA r.places _ q1 pv cv r.wrong r.off hn9 (hB1.up (hD _ Ye)) (hp.up RI.up (hD _ Ye))⟩)
end L1
end Go.Fs
namespace Go.Fs
open Go.Proofs
namespace L1
open C1
theorem z8{c:List Int}{i j:Int}(h0:0≤i)(h1:i≤j):cY c 0 (j+1).toNat-cY c 0 i.toNat=kV c i.toNat j.toNat:=by
 unfold kV;have h:=uJ c 0 i.toNat (j.toNat+1-i.toNat);rw[show i.toNat+(j.toNat+1-i.toNat)=(j+1).toNat by omega,aJA]at h;omega
theorem UX{r:dF}{t:List Int}(h:(dV r t&&decide ((if dV r t=true then(nA r t:Int)else 0)≤r.wrong))=true):fits r t=true:=by
 unfold fits;cases he:dV r t<;>simp[he]at h ⊢;exact h
theorem WF{r:dF}{t:List Int}(h:(dV r t&&decide ((if dV r t=true then(nA r t:Int)else 0)≤r.wrong))=false):fits r t=false:=by
 unfold fits;cases he:dV r t<;>simp[he]at h ⊢;exact h
theorem aAG{r:dF}(h:oD r)(k:Nat):(((cQ r.places).take k).filter (fits r)).length≤512:=by
 have h1:=aJI (fits r) ((cQ r.places).take k);have h2:=tC r.places;have h3:2^r.places.length≤2^9:=aJW Yd h.len9;have h4:((cQ r.places).take k).length≤(cQ r.places).length:=by rw[aHZ];omega
 omega
theorem ZB{r:dF}(h:oD r)(k:Nat):∀t∈((cQ r.places).take k).filter (fits r),t.length≤9:=fun t ht=>by
 have:=(mS (aKS (List.mem_filter.1 ht).1)).1;have:=h.len9;omega
theorem Q4{r:dF}(h:oD r):(truths r).length≤512:=by
 have h1:=aJI (fits r) (cQ r.places);have h2:=tC r.places;have h3:2^r.places.length≤2^9:=aJW Yd h.len9;show((cQ r.places).filter (fits r)).length≤512;omega
open C1
theorem WH(rv:Value)(r:dF)(i j:Int)(D:aA)(hr:mJ D rv r):Fn Tryz.prog 74 #[rv,.int .i64 i,.int .i64 j] D (fun _ v=>v=.bool (nF r i j)):=by
 obtain⟨pv,cv,rfl,hp,hc⟩:=hr;have hl:=hp.len;refine enter 22 Tryz.func74 rfl rfl rfl rfl fun h0=>C.s1<|Zv rfl (fun q1 E1 hE1 hB1=>Zh rfl<|L.n3<|Za rfl<|Zi rfl Tf.f28_0 rfl<|Zf 0 rfl Tf.a25 rfl hB1 rfl<|aV rfl U25 rfl Yk rfl rfl trivial<|fJ rfl rfl rfl Yf rfl trivial<|Zc rfl (fun D1 hD1=>dG _ _ _ _)<|Za rfl ?_)
 refine' L.anK 8 (s:=13) (p:=21) rfl (fun hg1=>?_) (fun hg1=>?_) ?_;rotate_left
 ·refine Zb rfl<|Zb rfl<|Zj rfl Tf.f28_0 rfl<|Zg 0 rfl Tf.a25 rfl hB1 rfl<|aV rfl U25 rfl Yk rfl rfl ⟨_,rfl,rfl⟩<|fJ rfl rfl rfl Yf rfl ⟨_,rfl,rfl⟩<|Zd rfl (fun D2 hD2=>dG _ _ _ _)<|Zab rfl ?_;exact L.cu 7
 ·refine Zk rfl<|Zk rfl<|Zk rfl<|Zk rfl<|Zk rfl<|Zk rfl<|Zk rfl<|Zac rfl ?_;exact L.cu 7
 refine Zh rfl<|L.n5 ?_;exact leave1 rfl rfl rfl rfl (fun D hD=>rfl)
theorem aAI(c:List Int)(i j:Int)(D:aA)(hi0:0≤i)(hij:i≤j)(hj9:j<9)(hb:∀x∈c,0≤x∧x≤1):Fn Tryz.prog 127 #[.agg (ints (jE c)).toArray,.int .i64 i,.int .i64 j] D (fun _ v=>v=.int .i64 (kV c i.toNat j.toNat)):=by
 have hsl:=lM c;have hg1:=nS c (j+1).toNat Yd;have hg2:=nS c i.toNat Yd;have hb1:=eV hb 0 (j+1).toNat;have hb2:=eV hb 0 i.toNat;refine enter 15 Tryz.func127 rfl rfl rfl rfl fun h0=>C.s1<|Zv rfl (fun q1 E1 hE1 hB1=>Zh rfl<|L.n2<|C.drawA [] 4 9 112 (fun _ _ _ h=>bZ (P:=Tryz.prog) (fn:=Tryz.f127) _ _ _ h)<|Za rfl<|Zx rfl<|dE rfl U186 Tf.s3 rfl rfl Yd Yd rfl trivial<|gD rfl Tf.a3 rfl hB1 Ye (cA hg1) GT rfl trivial<|Za rfl<|dE rfl U186 Tf.s3 rfl rfl Yd Yd rfl aLJ ?_);refine gD rfl Tf.a3 rfl hB1 Ye (cA hg2) GT rfl trivial<|fJ rfl rfl rfl Yf rfl trivial<|Zh rfl<|L.n5 ?_
 exact leave1 rfl rfl rfl rfl (fun D hD=>by show Value.int _ _=_;rw[z8 hi0 hij])
theorem nU(lo hi n:Int)(D:aA):Fn Tryz.prog 128 #[.agg #[.int .i64 lo,.int .i64 hi],.int .i64 n] D (fun _ v=>v=.agg #[.int .i64 (min lo n),.int .i64 (max hi n)]):=by
 refine enter 15 Tryz.func128 rfl rfl rfl rfl fun h0=>C.s1<|Zv rfl (fun q1 E1 hE1 hB1=>Zw rfl Tf.z88 rfl (fun q2=>L.n2<|iS [] 4 [0,1,2,5,6,7,8,3,4,9,10] [false,false,true,true,true,true,true,true,true,false,false] [(false,0),(false,1),(true,2),(true,5),(true,6),(true,7),(true,8),(true,3),(true,4),(false,9),(false,10)] Tf.follows (fun _ _ _ h=>bZ (P:=Tryz.prog) (fn:=Tryz.f128) _ _ _ h) Yg rfl<|Zi rfl Tf.f88_0 rfl<|Zf 0 rfl Tf.a3 rfl hB1 rfl<|Za rfl<|Zi rfl Tf.f88_1 rfl<|Zf 1 rfl Tf.a3 rfl hB1 rfl<|Za rfl ?_));refine oW rfl rfl rfl rfl trivial<|Zp rfl U25 Tf.s3 Tf.z3 rfl rfl rfl rfl (.cons rfl rfl (.cons rfl rfl .nil)) (fun b901 D901 hD901 hA901=>?_)
 have hS901:=Sl.ofInts (l:=[_,_]) (n:=2) (cap:=2) hA901 rfl Yd Yd;refine Zc rfl (fun D1 hD1=>iT _ lo [n] _ (hS901.up RI.up (hD1 _ Ye)))<|Zq [.int .i64 (min lo n),.int .i64 (max hi n)] rfl Tf.p88 Tf.z88 rfl rfl<|Zu rfl Tf.s88 (bL.head)<|L.n5 ?_;exact Zm [_] rfl ⟨⟨_,_,_,rfl,(List.Mem.head _),Or.inr ⟨Tf.a88,(by first|exact Tf.s88|(simp only[aHK,aI, *];exact Tf.s88)),rfl⟩⟩,aLJ⟩ (fun D hD=>rfl)
theorem pE(rv:Value)(r:dF)(fine:Bool)(D:aA)(hr:mJ D rv r):Fn Tryz.prog 73 #[rv,.bool fine] D (fun D' v=>∃wv,v=.tuple #[wv,.int .i64 (dC r fine)]∧(dC r fine=0→oD r∧UQ D' wv r)):=by
 have hr0:=hr;obtain⟨pv,cv,rfl,hp,hc⟩:=hr;refine J6 55 Tryz.func73 rfl rfl rfl rfl fun h0=>C.s1<|Zv rfl (fun q1 E1 hE1 hB1=>Zh rfl<|Zh rfl<|L.n4<|Zr rfl Tf.a28 rfl hB1 Tf.s28<|Zc rfl (fun D1 hD1=>zM _ r _ (hr0.up (hD1 _ Ye)))<|Zh rfl<|L.n3<|Za rfl<|eI rfl rfl rfl rfl aLJ ?_);refine L.n1<|aE rfl (fun hc1=>?_) (fun hc1=>?_)
 ·refine C.s1<|Za rfl<|Zh rfl<|Zh rfl<|L.n5<|Zaj ?_;exact oJ (vs:=[_,_]) rfl rfl rfl C.rs (fun D hD=>⟨_,by rw[dC,aGX hc1];rfl,fun h=>by rw[dC,aGX hc1]at h;exact absurd h hc1⟩)
 ·have hok:oD r:=Y3.1 Yd;refine C.kn<|C.s2<|Za rfl<|Zaf rfl<|L.n1<|aQ rfl (fun hc2=>?_) (fun hc2=>?_)
  ·refine C.s1<|Zh rfl<|Zh rfl<|L.n5<|Zaj ?_;exact oJ (vs:=[_,_]) rfl rfl rfl C.rs (fun D hD=>⟨_,by rw[dC,aGQ hc1,aGX Yak];rfl,fun h=>by rw[dC,aGQ hc1,aGX Yak]at h;omega⟩)
  ·refine C.kn<|C.s1<|Zr rfl Tf.a28 rfl hB1 Tf.s28<|Zq [pv,cv,.int .i64 r.wrong,.int .i64 r.off,.slice none 0 0] rfl Tf.p176 Tf.z176 rfl rfl<|V4 rfl (e:=176) rfl rfl rfl aLJ (fun q2=>Zw rfl Tf.z169 rfl (fun q3=>Zn rfl Tf.s169 (bL.head) rfl<|L.n4<|Zr rfl Tf.a28 rfl hB1 Tf.s28<|cB rfl rfl rfl (fun D2 hD2=>IU _ r _ (hr0.up (hD2 _ Ye)) hok.len9) rfl aLJ (fun v2 D2 hD2 hp2=>L.n1<|Zah ?_)));obtain⟨br,rfl,hit⟩:=hp2;refine lV (γ:=Value×aC) (xs:=(cQ r.places).map dY) (enc:=f8) (Dr:=D2) (vO 179 r) (fun _ _ _=>False) (fun g=>[(q3,.cells [.pointer (some ⟨q2,0,none⟩)].toArray 169 (0,0)),(q2,.cells [pv,cv,.int .i64 r.wrong,.int .i64 r.off,g.1].toArray 176 (0,0))]++g.2) (.slice none 0 0,[]) rfl rfl rfl rfl hit Ye (fun _=>rfl) rfl (by simpa [vO]using bN.nil) rfl ?_ ?_ (fun _ _ _ _ h=>h.elim)
   ·rintro pre x ⟨v,ν⟩ ⟨us,hx⟩ hΦ l bd rec hh D7 hD7 hst hpend;obtain⟨t,hk,rfl,htm,htake⟩:=tM hx;obtain⟨hlen,htb⟩:=mS htm;have htr:lN r t:=⟨hlen,htb⟩
    have hp9:=fD (t:=t) (by have:=hok.len9;omega);refine C.rg<|Zw rfl Tf.z179 rfl (fun q4=>Zu rfl Tf.s179 (bL.head)<|Zz ?_);refine fun a w hhh=>qW (A:=[(_,_),(_,_),(_,_)]++ν) (B:=[(bd,.deferred (some []))]) (r:=rec) (l:=l) (by rfl) hst ?_ a w hhh
    refine rX (fun hnd=>?_);simp only[aHB,aGS,aHX,aGK,aIN,aHI,aGB,aGP,not_or]at hnd;have hq4:=hnd.1.2.2.1;have hq3:=hnd.2.1.2.1;have hq2:=hnd.2.2.1.1;refine Zah<|aL<|C.drawA [] 4 9 198 (fun _ _ _ h=>h)<|Zr rfl Tf.a28 rfl hB1 Tf.s28<|bK rfl Tf.a179 rfl (List.Mem.head _) Yx GT rfl trivial<|Zc rfl (fun D3 hD3=>wE t _ (by have:=hok.len9;omega) htb)<|Zc rfl (fun D4 hD4=>BY _ r t _ (hr0.up (hD4 _ Ye)) hok htr)<|Za rfl<|Zaa rfl<|Zaa rfl<|Zh rfl<|Zh rfl ?_;refine L.n3<|Za rfl<|Za rfl ?_;refine' L.anK 5 (s:=32) (p:=37) rfl (fun hg1=>?_) (fun hg1=>?_) ?_;rotate_left
    ·refine Zb rfl<|Zj rfl Tf.f28_2 rfl<|Zg 2 rfl Tf.a3 rfl hB1 rfl<|hP rfl rfl rfl rfl ⟨_,rfl,rfl⟩<|Zab rfl ?_;exact L.cu 4
    ·refine Zk rfl<|Zk rfl<|Zk rfl<|Zk rfl<|Zac rfl ?_;exact L.cu 4
    refine L.n1<|aQ rfl (fun hc3=>?_) (fun hc3=>?_)
    ·have hfit:=UX hc3;refine C.drawA (ν.map (·.1)) 2 11 254 (fun _ _ _ h=>h)<|aS rfl Tf.a169 rfl (List.Mem.tail _ (List.Mem.head _)) rfl Yj rfl trivial<|aS rfl Tf.a169 rfl (List.Mem.tail _ (List.Mem.head _)) rfl Yj rfl trivial<|Zae rfl<|Zi rfl Tf.f176_1 rfl<|aS rfl Tf.a174 rfl (List.Mem.tail _ (List.Mem.tail _ (List.Mem.head _))) rfl Yj rfl trivial<|bK rfl Tf.a179 rfl (List.Mem.head _) Yx Yj rfl trivial<|Zp rfl U174 Tf.s179 Tf.z179 rfl rfl rfl rfl (.cons rfl (by simpa using hp9) .nil) (fun b901 D901 hD901 hA901=>bA (A:=[(_,_),(_,_),(_,_)]) (B:=[(l,_),(bd,_)]) rfl U174 rfl rfl Tf.s179 Tf.z179 rfl Tf.i179 rfl rfl rfl hΦ (jL.lit hA901) Ye (by simp[hp9]) (q9 (ZB hok pre.length)) (by simpa using cW _) (by have:=aAG hok pre.length;omega) (aGH (fun p hp=>aGA.2 ⟨p,hp,rfl⟩)) rfl aLJ (fun v1 ν1 ha1=>?_))
     have hI1:vO 179 r (pre++[dY t]) (v1,ν1):=by unfold vO;rw[htake,aJG,aJX,aGX hfit,List.filter_nil,aHG,aHW];simpa using ha1
     simp only[aIN,aHI];refine Zae rfl<|Zi rfl Tf.f176_1 rfl<|aX rfl rfl rfl ha1.cells1 Tf.s174 (.tail (.tail (bL.head))) Ye rfl ha1.cell1 trivial<|Zz<|Zak ?_;exact fun a w hh=>fH (A:=[(_,_),(_,_)]++ν1) (B:=[(bd,.deferred (some []))]) (v1,ν1) hI1 rfl rfl a w (hh.dropBoxes 1)
    ·have hfit:=WF hc3;have hI0:vO 179 r (pre++[dY t]) (v,ν):=by unfold vO;rw[htake,aJG,aJX,aGQ (by simp[hfit]),List.filter_nil,aGG];exact hΦ
     refine bR<|Zak ?_;exact fun a w hh=>fH (A:=[(_,_),(_,_)]++ν) (B:=[(bd,.deferred (some []))]) (v,ν) hI0 rfl rfl a w (hh.dropBoxes 1)
   ·rintro⟨v,ν⟩ bd hΦ;have hΦ':bN 179 9 v (truths r).length ((truths r).flatMap fun t=>ints (dY t)) ν:=by simpa [vO,truths]using hΦ
    have hall:∀t∈truths r,t.length≤9:=fun t ht=>by have:=(mS (List.mem_filter.1 ht).1).1;have:=hok.len9;omega
    have hll:=Q4 hok;refine Zak<|Zag<|C.s2<|Zl rfl Tf.a169 rfl (List.Mem.head _) rfl<|Zae rfl<|Zi rfl Tf.f176_1 rfl<|Zl rfl Tf.a174 rfl (List.Mem.tail _ (List.Mem.head _)) rfl<|dL rfl U174 rfl hΦ' rfl rfl trivial<|dK rfl rfl rfl rfl trivial<|L.n1<|aE rfl (fun hc4=>?_) (fun hc4=>?_)
    ·have htn:truths r=[]:=aJF.1 Yd;have hask:dC r fine=11:=by rw[dC,aGQ hc1,aGQ Yak,aGX htn]
     refine C.s1<|Zh rfl<|Zh rfl<|L.n5<|Zaj ?_;exact oG (vs:=[_,_]) (A:=[(_,_),(_,_)]++ν) rfl rfl rfl C.rs (fun D hD=>⟨_,by rw[hask];rfl,fun h=>by rw[hask]at h;omega⟩)
    ·have htn:truths r≠[]:=fun e=>hc4 (by rw[e];rfl)
     have hask:dC r fine=0:=by rw[dC,aGQ hc1,aGQ Yak,aGQ htn]
     refine C.kn<|C.s1<|Zl rfl Tf.a169 rfl (List.Mem.head _) rfl<|Zh rfl<|Zh rfl<|L.n5<|eF (A:=[(_,_),(_,_)]) (B:=[(bd,.deferred (some []))]) hΦ' rfl (fun D8 hD8 hF8=>eF (A:=[(_,_)]) (ν:=[(q2,_)]) (B:=[(bd,.deferred (some []))]) (YQ (sz:=5) rfl) rfl (fun D9 hD9 hF9=>?_));exact oG (vs:=[_,_]) (A:=[(_,_)]) rfl rfl rfl C.rs (fun D hD=>⟨_,by rw[hask];rfl,fun _=>⟨hok,q2,pv,cv,v,rfl,(hF9.at Yd).up (hD _ Ye),hp.up RI.up (hD _ Ye),hc.up RC.up (hD _ Ye),(hF8.truths rfl Yd hall).up RT.up (hD _ Ye)⟩⟩)
end L1
end Go.Fs
