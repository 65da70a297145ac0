/- Of BookAsks. -/
import Derived.Test.YtmmdpkkcedmgoaaGreatDoorZBookAsksAB
import Derived.Maps.RangeRun
namespace Go.Fs
variable{P:Program}{X:Cx}{γb:Type}[Membership Nat γb]{bad:γb}{all:Array Oper}{K:Act→Δ→Prop}{Q:Exit→Act→Δ→Prop}
variable{σ:bX}{μ:aD}{Ds:List aC}{os:List (Bool×Nat)}{fl:Bool}{ix:Nat}
variable{d:Nat}{x y z:Operand}{u v:Γ}{ty:Θ}{pos:String}{aft:Array Edge}{g:Option (Nat×Bool)}
def JX(β:List Nat)(D:aC)(w:Δ)(bo:Nat)(cs:List Γ):Prop:=bo∈β∧D bo=[]∧∃e fz,w.heap[bo]?= some (.cells cs.toArray e fz)
def iT(D:aC)(bo:Nat)(cs:List Γ):aC:=fun c=>if c=bo then cs else D c
theorem d8{D:aC}{bo:Nat}{cs:List Γ}(h:D bo=[])(h0:bo≠0):Le D (iT D bo cs):=⟨fun c=>by
 unfold iT;split
 ·rename_i e;subst e;rw[h];exact bQU
 ·exact List.prefix_refl _,by unfold iT;rw[bLX (Ne.symm h0)]⟩
theorem SH(D:aC)(bo:Nat)(cs:List Γ):At (iT D bo cs) bo 0 cs:=fun j v hj=>by unfold iT;simpa using hj
theorem KD{D:aC}{w:Δ}{bo:Nat}{cs:List Γ}{e:Θ}{fz:Nat×Nat}(h:fR D w)(hb:w.heap[bo]?= some (.cells cs.toArray e fz))(hD:D bo=[]):fR (iT D bo cs) w:=h.of (fun c hc=>by
 unfold iT at hc ⊢
 split
 ·rename_i ec;subst ec;exact⟨_,_,_,hb,List.prefix_refl _⟩
 ·rename_i ec;rw[bLX ec]at hc;exact h.1 c hc) (by unfold iT;rw[bLX (Ne.symm (h.ne0 hD))]) rfl
theorem iX.hide{w w':Δ}{D D':aC}{mods:List Nat}{μ:aD}{bo:Nat}{cs:List Γ}(h:iX (hd w) w.heap.size (iT D bo cs) mods μ D' w')(hD:D bo=[])(I:bo≠0):iX (hd w) w.heap.size D mods μ (iT D' bo []) w':=by
 refine⟨h.hlo,h.size,h.old,fun b hb=>?_,h.agr.of (fun b hb=>?_) (by unfold iT;rw[bLX (Ne.symm I)]) rfl,fun p hp=>?_,h.nd,h.fz,h.env⟩
 ·unfold iT;split
  ·rename_i e;subst e;exact hD.symm
  ·rename_i e;rw[h.dold b hb];unfold iT;rw[bLX e]
 ·unfold iT at hb ⊢
  split
  ·rename_i e;rw[bMG e]at hb;exact absurd rfl hb
  ·rename_i e;rw[bLX e]at hb;exact h.agr.1 b hb
 ·obtain⟨h1,h2,h3⟩:=h.box p hp;refine⟨h1,?_,h3⟩;unfold iT;split
  ·rfl
  ·exact h2
def bEY{α:Type}(P:Program)(f:FuncId)(cap:List Γ)(Dr:aC)(xs:List α)(enc:Nat→List Γ)(cells:α→List Γ):Prop:=
 EF P f∧∀(lo l:Nat) (J Jx:List α→vZ),(∀pre,V6 lo (J pre))→(∀pre,V6 lo (Jx pre))→
  (∀pre x β D w bo,(∃r,xs=pre++x::r)→I4 lo D w→J pre β D w→(∀b∈β,b<w.heap.size)→Le Dr D→JX β D w bo (cells x)→
   jG P l (enc bo) w fun b D' w'=>I4 lo D' w'∧M7 β D w D' w'∧(if b then J (pre++[x]) β D' w' else Jx (pre++[x]) β D' w'))→
  ∀D w,I4 lo D w→Le Dr D→J [] [] D w→Calls P f (.func (.yield l) #[] #[]::cap).toArray w fun e w'=>∃v D',e=.returned v∧I4 lo D' w'∧(J xs [] D' w'∨∃pre,Jx pre [] D' w')
theorem aTV{J J1 J0:vZ}{l:Nat}{c:Operand}{xs:Array Operand}{ats:Array Θ}{vs:List Γ}(ho:all[ix]?= some ⟨some d,.call {callee:=.value c,args:=xs,argTypes:=ats},ty,pos,aft,g⟩)
  (hc:ev σ c=some (.func (.yield l) #[] #[])) (hxs:x5 σ xs.toList=some vs) (hex:X.ex=some J) (hfl:fl=false) (h0:X.h0=⟨#[],none⟩) (_hm:X.mods=[]) (I:V6 X.lo J1) (O:V6 X.lo J0)
  (hY:∀D w,I4 X.lo D w→J (μ.map (·.1)) D w→(∀p∈μ,w.heap[p.1]?= some p.2∧D p.1=[])→(∀D₁∈Ds,Le D₁ D)→jG P l vs w fun b D' w'=>I4 X.lo D' w'∧M7 (μ.map (·.1)) D w D' w'∧(if b then J1 (μ.map (·.1)) D' w' else J0 (μ.map (·.1)) D' w'))
  (hN:Nat.blt d X.N=true) (hg:cZ all σ g)
  (U:WL P (X.withEx J1) bad all K Q os ((d,.bool true)::σ) μ Ds) (V:WL P (X.withEx J0) bad all K Q os ((d,.bool false)::σ) μ Ds):WL P X bad all K Q ((fl,ix)::os) σ μ Ds:=by
 refine fJ ho rfl rfl hg fun a w hh=>?_
 obtain⟨h1,h2,h3,D,h4,h5,R⟩:=id hh;have hJ:J (μ.map (·.1)) D w:=by unfold S2 at R;rw[hex]at R;exact R.2
 obtain⟨fn,tmps,assign,body,hy,hr⟩:=hY D w h4.dom hJ (fun p hp=>⟨(h4.box p hp).1,(h4.box p hp).2.1⟩) h5;have e:xs.map a.eval=vs.toArray:=by rw[←lO (fun _ _ hx=>hh.eval hx) hxs,←bQQ]
 have hrun:(execOp a.eval ⟨some d,.call {callee:=.value c,args:=xs,argTypes:=ats},ty,pos,aft,g⟩).run P w=.ok (.round l fn tmps assign body) w:=by
  simp only[execOp,resolve,hh.eval hc,Deferred.ofValue,pure_bind,invoke,e];rw[←hy];simp
 rw[hrun];refine⟨fun h=>Xac,(EE hr).mono ?_⟩;rintro e' w' ⟨b,D',rfl,hd',hh',hb⟩;have hst:iX X.h0 X.lo X.D0 X.mods μ D' w':=by
  refine⟨h4.hlo,hd'.2,(fun b hb=>Xbj),(fun b hb=>Xbj),hd'.1,fun p hp=>?_,h4.nd,h4.fz,fun e he=>by rw[h0]at he;cases he⟩;obtain⟨p1,p2,p3⟩:=h4.box p hp;obtain⟨Y,Z⟩:=hh'.2.2 p.1 (GE.2 ⟨p,hp,rfl⟩);exact⟨Y.trans p1,Z.trans p2,p3⟩
 have hds:∀D₁∈Ds,Le D₁ D':=fun D₁ hD₁=>(h5 D₁ hD₁).trans hh'.2.1
 refine⟨(fun h=>by rw[hfl]at h;cases h),?_⟩;cases b with
 |true=>
  refine U _ _ (Hl.put (X:=X.withEx J1) ⟨h1,h2,h3,D',hst,hds,⟨I,hb⟩⟩ hN _)
 |false=>
  refine V _ _ (Hl.put (X:=X.withEx J0) ⟨h1,h2,h3,D',hst,hds,⟨O,hb⟩⟩ hN _)
theorem KU{J J1 J0:vZ}{l N lo:Nat}{c:Operand}{xs:Array Operand}{ats:Array Θ}{vs:List Γ}(ho:all[ix]?= some ⟨some d,.call {callee:=.value c,args:=xs,argTypes:=ats},ty,pos,aft,g⟩)
  (hc:ev σ c=some (.func (.yield l) #[] #[])) (hxs:x5 σ xs.toList=some vs) (hfl:fl=false) (I:V6 lo J1) (O:V6 lo J0)
  (hY:∀D w,I4 lo D w→J (μ.map (·.1)) D w→(∀p∈μ,w.heap[p.1]?= some p.2∧D p.1=[])→(∀D₁∈Ds,Le D₁ D)→jG P l vs w fun b D' w'=>I4 lo D' w'∧M7 (μ.map (·.1)) D w D' w'∧(if b then J1 (μ.map (·.1)) D' w' else J0 (μ.map (·.1)) D' w'))
  (hN:Nat.blt d N=true) (hg:cZ all σ g)
  (kk:∀b J',J'=(if b=true then J1 else J0)→WL P (Xj N lo J') bad all K Q os ((d,.bool b)::σ) μ Ds):WL P (Xj N lo J) bad all K Q ((fl,ix)::os) σ μ Ds:=
 aTV (X:=Xj N lo J) ho hc hxs rfl hfl rfl rfl I O hY hN hg (kk true J1 rfl) (kk false J0 rfl)
def aQB{γ:Type}(h0:H0)(lo:Nat)(D0:aC)(mods:List Nat)(Ds:List aC)(Φ:γ→Prop)(Mx:γ→aD):vZ:=fun β D w=>
 ∃g,Φ g∧iX h0 lo D0 mods (Mx g) D w∧(∀D₁∈Ds,Le D₁ D)∧(∀b∈β,h0.size≤b∧∀D₁∈Ds,D₁ b=[])∧(∀p∈Mx g,p.1∉β)∧∀k∈mods,k∈(Mx g).ks
theorem j5{γ:Type}{h0:H0}{lo:Nat}{D0:aC}{mods:List Nat}{Ds:List aC}{Φ:γ→Prop}{Mx:γ→aD}:V6 lo (aQB h0 lo D0 mods Ds Φ Mx):=by
 constructor
 ·rintro β D w D' w' ⟨g,hg,hs,hD,hβ,hM,hmk⟩ ⟨hl1,I,O⟩ hd;have box':∀p∈Mx g,w'.heap[p.1]?= w.heap[p.1]?∧D' p.1=D p.1:=fun p hp=>I p.1 (bO (hs.box p hp).1) (hM p hp)
  refine⟨g,hg,⟨hs.hlo,hd.2,fun b hb hm=>?_,fun b hb=>?_,hd.1,fun p hp=>?_,hs.nd,hs.fz,fun e he=>O.trans (hs.env e he)⟩,fun D₁ hD₁=>⟨fun b=>?_,?_⟩,hβ,hM,hmk⟩
  ·have hlt:b<w.heap.size:=by have:=hs.hlo;have:=hs.size;omega
   have hn:b∉β:=fun h=>by have:=(hβ b h).1;omega
   rw[(I b hlt hn).1];exact hs.old b hb hm
  ·have hlt:b<w.heap.size:=by have:=hs.hlo;have:=hs.size;omega
   have hn:b∉β:=fun h=>by have:=(hβ b h).1;omega
   rw[(I b hlt hn).2];exact hs.dold b hb
  ·obtain⟨p1,p2,p3⟩:=hs.box p hp;obtain⟨R,U⟩:=box' p hp;exact⟨R.trans p1,U.trans p2,p3⟩
  ·by_cases hb:b∈β
   ·rw[(hβ b hb).2 D₁ hD₁];exact bQU
   ·by_cases hlt:b<w.heap.size
    ·rw[(I b hlt hb).2];exact(hD D₁ hD₁).1 b
    ·have:=(hD D₁ hD₁).1 b;rw[hs.agr.fresh (Nat.le_of_not_lt hlt)]at this;rw[List.prefix_nil.1 this];exact bQU
  ·have h0:(0:Nat)∉β:=fun hm=>hs.agr.2.1 ((hD D₁ hD₁).2.trans ((hβ 0 hm).2 D₁ hD₁))
   rw[(I 0 hs.agr.pos h0).2];exact(hD D₁ hD₁).2
 ·rintro β β' D w ⟨g,hg,hs,hD,hβ,hM,hmk⟩ hb';refine⟨g,hg,hs,hD,fun b hb=>?_,fun p hp hb=>?_,hmk⟩
  ·rcases hb' b hb with h|h
   ·exact hβ b h
   ·refine⟨by have:=hs.hlo;have:=hs.size;omega,fun D₁ hD₁=>?_⟩;have:=(hD D₁ hD₁).1 b;rw[hs.agr.fresh h]at this;exact List.prefix_nil.1 this
  ·rcases hb' _ hb with h|h
   ·exact hM p hp h
   ·have:=bO (hs.box p hp).1;omega
theorem iX.roundM{h0:H0}{lo:Nat}{D0 D D':aC}{mods:List Nat}{μ μ':aD}{w w':Δ}(h:iX h0 lo D0 mods μ D w)(_hmk:∀k∈mods,k∈μ.ks)(hs:iX (hd w) w.heap.size D (μ.map (·.1)) μ' D' w'):iX h0 lo D0 mods μ' D' w':=by
 have hle:=bOB h.hlo h.size;have hkey:∀b∈μ.map (·.1),lo≤b∨b∈mods:=by
  intro b hb;obtain⟨p,hp,rfl⟩:=GE.1 hb;exact(h.box p hp).2.2
 refine⟨h.hlo,bOB h.size hs.size,fun b hb hm=>?_,fun b hb=>?_,hs.agr,fun p hp=>?_,hs.nd,hs.fz,fun e he=>(hs.env _ rfl).trans (h.env e he)⟩
 ·rw[hs.old b (bOI hb hle) (fun hk=>by
   rcases hkey b hk with h1|h1
   ·have:=h.hlo;omega
   ·exact hm h1)]
  exact h.old b hb hm
 ·rw[hs.dold b (bOI hb hle)];exact h.dold b hb
 ·obtain⟨p1,p2,p3⟩:=hs.box p hp;refine⟨p1,p2,?_⟩;rcases p3 with p3|p3
  ·exact bMF (by have:=h.size;omega)
  ·exact hkey _ p3
theorem bAG{α γ:Type}{xs:List α}{enc:Nat→List Γ}{cells:α→List Γ}{Dr:aC}{f:FuncId}{cap:List Γ}{gop:Operand}{ps:Array Tmp}{assign body:Code}
  (Φ:List α→γ→Prop) (Ψ:List α→Code→γ→Prop) (M:γ→aD) (g₀:γ) (hr:X.r=none) (hex:X.ex=none) (hmods:∀g,∀k∈X.mods,k∈(M g).ks)
  (hg:ev σ gop=some (.func (.func f) #[] cap.toArray)) (hit:bEY P f cap Dr xs enc cells) (hDr:Dr∈Ds) (hps:∀b,(enc b).length=ps.size) (hpN:(ps.toList.all fun p=>Nat.blt p X.N)=true) (h₀:Φ [] g₀) (hμ:M g₀=μ)
  (hround:∀pre x g,(∃r,xs=pre++x::r)→Φ pre g→∀(l bd bo:Nat) (rec:Loop) (h0:H0) (D:aC),(∀D₁∈Ds,Le D₁ D)→At D bo 0 (cells x)→rec.state=.ready→rec.pending=none→
   WC P (Xr l X.N h0 D ((M g++(l,Obj.loop rec)::[(bd,Obj.deferred (some []))]).map (·.1)))
    (Exit.then (fun a₁ w₁=>∃w₂,(Instr.beginRound l).run P w₁=.ok () w₂∧body.wpIn ((FW none).inRound l) 0 P (roundPost P l (N9 h0 D ((M g++(l,Obj.loop rec)::[(bd,Obj.deferred (some []))]).map (·.1)) (Φ (pre++[x])) (Ψ (pre++[x]))
     (fun g=>M g++(l,Obj.loop {rec with state:=.ready,pending:=none})::[(bd,Obj.deferred (some []))]) fun c g=>M g++(l,Obj.loop {rec with state:=.done,pending:=some c})::[(bd,Obj.deferred (some []))])) a₁ w₂) fun _ _ _=>False)
    assign (J9 ps.toList (enc bo) σ) (M g++(l,Obj.loop rec)::[(bd,Obj.deferred (some []))]) (D::Ds))
  (hdone:∀g bd,Φ xs g→∀a w,Hl (X.withDs bd) σ (M g++[(bd,Obj.deferred (some []))]) Ds a w→Q .normal a w)
  (hstop:∀pre c g bd,Ψ pre c g→WC P (X.withDs bd) Q c σ (M g++[(bd,Obj.deferred (some []))]) Ds):WC P X Q (.rangeFunc gop ps assign body) σ μ Ds:=by
 intro a w hh;subst hμ;have hev:=hh.eval hg;obtain⟨h1,h2,h3,D,h4,h5,h6⟩:=hh;refine wpIn_rangeFunc fun fn _=>?_
 have hround':(FW X.r).round=none:=hr;rw[hround'];have hmk:∀g (B:aD),∀k∈X.mods,k∈(M g++B).ks:=fun g B k hk=>by
  show k∈(M g++B).map _;rw[bME];exact bMA _ (hmods g k hk)
 let bd:=w.heap.size
 let l:=w.heap.size+1
 let I:Loop:={state:=.ready,pending:=none,fn,tmps:=a.tmps,params:=ps,assign,body,defers:=bd}
 let V:Δ:={w with heap:=w.heap.push (.deferred (some []))}
 let U:Δ:={V with heap:=V.heap.push (.loop I)}
 have Y:iX X.h0 X.lo X.D0 X.mods ((bd,Obj.deferred (some []))::M g₀) D V:=h4.push (.deferred (some [])) trivial;have O:iX X.h0 X.lo X.D0 X.mods ((l,Obj.loop I)::(bd,Obj.deferred (some []))::M g₀) D U:=by
  have:=Y.push (.loop I) trivial;have e:V.heap.size=l:=by simp[V,l]
  rw[e]at this;exact this
 have hperm:iX X.h0 X.lo X.D0 X.mods (M g₀++(l,Obj.loop I)::[(bd,Obj.deferred (some []))]) D U:=by
  refine O.sub (fun p hp=>?_) ?_
  ·simp only[bMD,bLO,n4,bNV]at hp ⊢
   rcases hp with hp|hp|hp
   ·exact bLY (bLY hp)
   ·exact bMF hp
   ·exact bLY (bMF hp)
  ·have hn:=O.nd;simp only[bMT,bNP,bLO,bQX]at hn;simp only[bME,bMT,bQB,bMB,bNP,bLO,n4,bNV,bQM,bNW,and_true];refine⟨hn.2.2,hn.1.1,fun q hq r hr'=>?_⟩;rcases hr' with rfl|rfl
   ·rintro rfl;exact hn.1.2 hq
   ·rintro rfl;exact hn.2.1 hq
 refine⟨l,[nV bd],U,{target:=.fn (.func f) cap.toArray,args:=#[.func (.yield l) #[] #[]]},U,f,(.func (.yield l) #[] #[]::cap).toArray,U,run_enterLoop_outer fn a.tmps ps assign body,?_,fun _ _=>trivial,?_,fun h=>Xac,?_⟩
 ·simp only[resolve,Deferred.ofValue];have e:Array.map a.eval #[Operand.const (Value.func (Fn.yield l) #[] #[])]=#[.func (.yield l) #[] #[]]:=by simp[Act.eval]
  rw[e,hev];rfl
 ·simp only[invoke];rw[hit.1];simp
 ·refine dZ.2 ((hit.2 X.lo l
   (fun pre=>aQB X.h0 X.lo X.D0 X.mods Ds (Φ pre) fun g=>M g++(l,Obj.loop I)::[(bd,Obj.deferred (some []))])
   (fun pre=>aQB X.h0 X.lo X.D0 X.mods Ds (fun cg:Code×γ=>Ψ pre cg.1 cg.2) fun cg=>M cg.2++(l,Obj.loop {I with state:=.done,pending:=some cg.1})::[(bd,Obj.deferred (some []))])
   (fun _=>j5) (fun _=>j5) ?_ D U O.dom (h5 Dr hDr) ⟨g₀,h₀,hperm,h5,(fun _ h=>Xab),(fun _ _ h=>Xab),hmk g₀ _⟩).mono ?_)
  ·rintro pre x β Dx wx bo hx hdx ⟨g,hΦ,hst,hDs,hβ,hM,hmg⟩ hβs hle ⟨hbo,hbD,be,bfz,hbw⟩;have hbox:=(hst.box (l,Obj.loop I) Yf).1;refine⟨fn,_,assign,body,run_yield hbox (by simpa using hps bo),?_⟩;refine(roundIn_of_wpIn (F:=FW none) bRD (R:=N9 (hd wx) (iT Dx bo (cells x)) ((M g++(l,Obj.loop I)::[(bd,Obj.deferred (some []))]).map (·.1)) (Φ (pre++[x])) (Ψ (pre++[x]))
     (fun g=>M g++(l,Obj.loop {I with state:=.ready,pending:=none})::[(bd,Obj.deferred (some []))]) fun c g=>M g++(l,Obj.loop {I with state:=.done,pending:=some c})::[(bd,Obj.deferred (some []))]) ?_).mono ?_
   ·have hw:=hround pre x g hx hΦ l bd bo I (hd wx) (iT Dx bo (cells x)) (fun D₁ h=>(hDs D₁ h).trans (d8 hbD (hst.agr.ne0 hbD))) (SH _ _ _) rfl rfl;have ht:(ps.zip (enc bo).toArray).foldl (fun tmps (t,a)=>tmps.setIfInBounds t a) a.tmps=(ps.toList.zip (enc bo)).foldl (fun tmps (p:Tmp×Γ)=>tmps.setIfInBounds p.1 p.2) a.tmps:=by
     rw[←Array.foldl_toList];simp
    have hpN':∀p∈ps.toList,p<a.tmps.size:=fun p hp=>by rw[h1];simpa [Nat.blt_eq]using bMK.1 hpN p hp
    refine hw {tmps:=_,defers:=[]} wx ⟨?_,fun s v hs=>?_,rfl,iT Dx bo (cells x),⟨bMH _,bMH _,fun _ _ _=>rfl,fun _ _=>rfl,KD hst.agr hbw hbD,fun p hp=>?_,hst.nd,hst.fz,fun e he=>bMQ he⟩,fun D₁ hD₁=>?_,bRD⟩
    ·show((ps.zip (enc bo).toArray).foldl _ a.tmps).size=X.N;rw[ht,m2];exact h1
    ·show((ps.zip (enc bo).toArray).foldl _ a.tmps)[s]?= some v;rw[ht];exact Y7 _ _ _ _ h2 hpN' s v hs
    ·obtain⟨p1,p2,p3⟩:=hst.box p hp;exact⟨p1,Xcy,bLY (GE.2 ⟨p,hp,rfl⟩)⟩
    ·rcases bLO.1 hD₁ with rfl|hD₁
     ·exact Le.refl _
     ·exact(hDs D₁ hD₁).trans (d8 hbD (hst.agr.ne0 hbD))
   ·rintro e w' ⟨b,D',rfl,hb⟩;have fin:∀μ',iX (hd wx) wx.heap.size (iT Dx bo (cells x)) ((M g++(l,Obj.loop I)::[(bd,Obj.deferred (some []))]).map (·.1)) μ' D' w'→iX X.h0 X.lo X.D0 X.mods μ' (iT D' bo []) w'∧M7 β Dx wx (iT D' bo []) w'∧(∀D₁∈Ds,Le D₁ (iT D' bo []))∧(∀p∈μ',p.1∉β):=by
     intro μ' Z;have hs':=Z.hide hbD (hst.agr.ne0 hbD);refine⟨hst.roundM hmg hs',iX.roundHigh hst.agr hs' hβs hM,fun D₁ hD₁=>(hDs D₁ hD₁).trans (hU hst.agr hs'),fun p hp hpb=>?_⟩;rcases(hs'.box p hp).2.2 with h|h
     ·have:=hβs _ hpb;omega
     ·obtain⟨q,hq,he⟩:=GE.1 h;exact hM q hq (by rw[he];exact hpb)
    refine⟨b,iT D' bo [],rfl,?_⟩;cases b with
    |true=>
     obtain⟨g',hg',hs'⟩:=hb;obtain⟨f1,f2,f3,f4⟩:=fin _ hs';exact⟨f1.dom,f2,g',hg',f1,f3,hβ,f4,hmk g' _⟩
    |false=>
     obtain⟨c',g',hg',hs'⟩:=hb;obtain⟨f1,f2,f3,f4⟩:=fin _ hs';exact⟨f1.dom,f2,(c',g'),hg',f1,f3,hβ,f4,hmk g' _⟩
  ·rintro e w' ⟨v,D',rfl,hd,hend⟩;have post:∀(g:γ) (r:Loop),iX X.h0 X.lo X.D0 X.mods (M g++(l,Obj.loop r)::[(bd,Obj.deferred (some []))]) D' w'→(∀D₁∈Ds,Le D₁ D')→
     Hl (X.withDs bd) σ (M g++[(bd,Obj.deferred (some []))]) Ds {a with defers:=[nV bd]++a.defers} (w'.putObj l (.loop {r with state:=.exhausted})):=by
    intro g r hs hD';have hHas:bR (M g++(l,Obj.loop r)::[(bd,Obj.deferred (some []))]) l (.loop r) (.loop {r with state:=.exhausted}) (M g++(l,Obj.loop {r with state:=.exhausted})::[(bd,Obj.deferred (some []))]):=.app .head;have hs':=hs.set (w':=w'.putObj l (.loop {r with state:=.exhausted})) hHas ⟨rfl,rfl⟩ trivial;have hs'':=hs'.sub (μ':=M g++[(bd,Obj.deferred (some []))]) (fun p hp=>by
     rcases bMD.1 hp with hp|hp
     ·exact bMA _ hp
     ·exact GT _ (LE _ hp)) (by
     have hn:=hs'.nd;rw[bME,bMB]at hn ⊢
     simp only[bMT]at hn;exact⟨hn.1,(bNP.1 hn.2.1).2,fun q hq r hr=>hn.2.2 q hq r (LE _ hr)⟩)
    exact⟨h1,h2,bLZ (nV bd:: ·) h3,D',hs'',hD',Xcb⟩
   rcases hend with⟨g,hΦ,hs,hDs,_,_,_⟩|⟨pre,⟨c,g⟩,hΨ,hs,hDs,_,_,_⟩
   ·have hb:=(hs.box (l,Obj.loop I) Yf).1;exact⟨none,_,run_endLoop hb (by simp[I]),hdone g bd hΦ _ _ (post g I hs hDs)⟩
   ·have hb:=(hs.box (l,Obj.loop {I with state:=.done,pending:=some c}) Yf).1;refine⟨some c,_,run_endLoop hb Yf,?_⟩;have:=hstop pre c g bd hΨ _ _ (post g _ hs hDs);exact this

theorem bHR{α:Type}{f:FuncId}{fn:Func}{c:Code}{cap:List Γ}{Dr:aC}{xs:List α}{enc:Nat→List Γ}{cells:α→List Γ}(N:Nat)(hf:P.funcs[f]?= some fn)(hn:(fn.name== "runtime.NumGoroutine")=false)(hb:fn.body=some c)(hN:fn.ntmps=N)(hsz:Nat.ble (cap.length+1) N=true)
  (h:∀(lo l:Nat) (J Jx:List α→vZ),(∀pre,V6 lo (J pre))→(∀pre,V6 lo (Jx pre))→
   (∀pre x β D w bo,(∃r,xs=pre++x::r)→I4 lo D w→J pre β D w→(∀b∈β,b<w.heap.size)→Le Dr D→JX β D w bo (cells x)→
    jG P l (enc bo) w fun b D' w'=>I4 lo D' w'∧M7 β D w D' w'∧(if b then J (pre++[x]) β D' w' else Jx (pre++[x]) β D' w'))→
   WC P (Xj N lo (J [])) (bodyPost P fn (AS lo [Dr] fun _ J' _=>J'=J xs∨∃pre,J'=Jx pre)) c (jJ 0 (.func (.yield l) #[] #[]::cap)) [] [Dr]):bEY P f cap Dr xs enc cells:=by
 refine⟨EF.of hf hn hb,fun lo l J Jx hs hsx hY D w hd hle hJ=>?_⟩;have hF:=U6 (μ:=[]) N hf hn hb hN (by simpa using hsz) (h lo l J Jx hs hsx hY);refine(hF.2 w ⟨D,⟨bRB _,hd.2,fun b hb=>absurd hb (bQE _),fun b hb=>absurd hb (bQE _),hd.1,Yi,bNW,Yi,fun e he=>by cases he⟩,fun D₁ h1=>?_,hs [],hJ⟩).mono ?_
 ·simp only[bMI]at h1;subst h1;exact hle
 ·rintro e w' ⟨v,J',μ',rfl,⟨D',hst,hds,hex⟩,hpost⟩;refine⟨v,D',rfl,hst.dom,?_⟩;have hJ':J' [] D' w':=hex.1.own _ [] D' w' hex.2 (fun b hb=>by cases hb);rcases hpost with rfl|⟨pre,rfl⟩
  ·exact bMF hJ'
  ·exact bLY ⟨pre,hJ'⟩
theorem uA{t e:Θ}{sz n:Nat}{z0:Γ}{zs cs:List Γ}{k k':IntKind}(ho:all[ix]?= some ⟨some d,.makeSlice t x y,ty,pos,aft,g⟩)(ht:P.underlying t=some (.slice e))(hs:TS P e sz)(hz:TZ P e z0)(hzc:z0.cells=zs.toArray)(hi:(P.info? e).map (fun i=>Nat.ble 1 i.bytes&&Nat.ble i.bytes 4096)=some true)
  (hx:ev σ x=some (.int k n)) (hy:ev σ y=some (.int k' n)) (hn:n≤10000) (hcs:((Array.range (n*sz)).map (zs.toArray[· %zs.toArray.size]!)).toList=cs) (hN:Nat.blt d X.N=true) (hg:cZ all σ g)
  (kk:∀b,WL P X bad all K Q os ((d,qS b n n)::σ) ((b,.cells cs.toArray e (0,0))::μ) Ds):WL P X bad all K Q ((fl,ix)::os) σ μ Ds:=by
 refine fJ ho rfl rfl hg fun a w hh=>?_
 obtain⟨h1,h2,h3,D,h4,h5,V⟩:=id hh;have hn':=hn;obtain⟨i0,O,hb⟩:=bOY.1 hi;simp only[bLQ]at hb;have Y:=bNZ hb.1;have R:=bNZ hb.2;have hti:∀w,(typeInfo e).run P w=.ok i0 w:=fun w=>by simp[typeInfo,program,Sem.run,O,go_sem]
 have hw:IntKind.i64.wrap (n:Int)=n:=sF Ye;have hbn:i0.bytes*n≤4096*10000:=bQJ R hn';have hlarge:(((n:Int)<0)||decide ((i0.bytes:Int)*n>2^48))=false:=by
  have:((i0.bytes*n:Nat):Int)≤40960000:=by omega
  rw[Int.natCast_mul]at this;simp only[bNG,bLV];constructor
  ·omega
  ·omega
 have hzz:∀w,(zeroValue e).run P w=.ok z0 w:=hz;have hrun:(execOp a.eval ⟨some d,.makeSlice t x y,ty,pos,aft,g⟩).run P w=.ok (.value (.slice (some ⟨w.heap.size,0,none⟩) n n)) {w with heap:=w.heap.push (.cells cs.toArray e (0,0))}:=by
  have hcs':(Array.range (n*sz)).map (zs.toArray[· %zs.toArray.size]!)=cs.toArray:=by rw[←hcs]
  have hai:∀(k:IntKind) (m:Int) (w:Δ),(asInt (.int k m)).run P w=.ok m w:=fun _ _ _=>rfl
  simp only[execOp,Instr.makeSlice,hh.eval hx,hh.eval hy,hai,Ω,TU.of ht w,Ξ,ε,hti,hw,pure_bind];rw[bLX (by simp only[bMU,LT,bQX];exact⟨⟨by simpa using hlarge,Yd⟩,Yd⟩)]
  simp only[Ω,BY,Ξ,hs w,bNI];by_cases hnz:n*sz=0
  ·rw[bMG hnz];have I:∀f:Nat→Γ,(Array.range 0).map f=#[]:=fun f=>by simp
   have U:cs.toArray=#[]:=by rw[←hcs',hnz];exact I _
   simp only[ε,Ω,U];rw[hnz];simp only[I,jY,Ξ]
  ·rw[bLX hnz];simp only[Ω,hzz,Ξ,ε,hzc,hcs',jY]
 rw[hrun];have hs':=h4.push (.cells cs.toArray e (0,0)) rfl;refine⟨fun _=>pU _ _ _,kk w.heap.size _ _ (Hl.put ⟨h1,h2,h3,D,hs',h5,V.step (fun _ p hp=>?_) (fun _=>⟨Yf,fun b hb _=>⟨dP hb,rfl⟩,rfl⟩) hs'.dom⟩ hN _)⟩;rcases bLO.1 hp with rfl|hp
 ·exact bLY (bMH _)
 ·exact bMF (GE.2 ⟨p,hp,rfl⟩)
theorem W2{n sz:Nat}{zs:List Γ}(h:∀u∈zs,u=qI 0)(hl:zs.length=sz):((Array.range (n*sz)).map (zs.toArray[· %zs.toArray.size]!)).toList=ints (List.replicate (n*sz) 0):=by
 apply List.ext_getElem?;intro i;simp only[bQQ,Array.toList_range,bNB,ints,List.map_replicate,List.getElem?_replicate];by_cases hi:i<n*sz
 ·rw[bPW hi,bMG hi];have hpos:0<sz:=by
   rcases Nat.eq_zero_or_pos sz with h0|h0
   ·subst h0;simp at hi
   ·exact h0
  have hm:i%zs.toArray.size<zs.length:=by simp only[bNA,hl];exact Nat.mod_lt _ hpos
  simp only[bNL];congr 1;rw[getElem!_pos _ _ Xau];exact h _ Yf
 ·rw[bOP Yas,bLX hi];rfl

theorem Hl.freezeM{A B ν:aD}{e sz n:Nat}{cells:List Γ}{a:Act}{w:Δ}(hacc:bM e sz v n cells ν)(hmods:∀k∈X.mods,k∈(A++B).ks)(hh:Hl X σ (A++ν++B) Ds a w):
  ∃D',(∀D₁∈Ds,Le D₁ D')∧kH D' v n cells∧Hl X σ (A++B) (D'::Ds) a w:=by
 obtain⟨h1,h2,h3,D,h4,h5,I⟩:=hh;rcases hacc with⟨old,hv,hn,hc,hν⟩|⟨b,cap,junk,hv,hncap,hν,hl1,O⟩
 ·subst hν;refine⟨D,h5,bMF ⟨old,hv,hn,hc⟩,h1,h2,h3,D,by simpa using h4,fun D₁ hD₁=>?_,by simpa using I⟩;rcases bLO.1 hD₁ with rfl|hD₁
  ·exact Le.refl _
  ·exact h5 D₁ hD₁
 ·subst hν;have hb:=(h4.box (b,.cells (cells++junk).toArray e (0,0)) Yf).2.2;have hnb:b∉(A++B).ks:=fun hm=>by
   have hnd:=h4.nd;simp only[bME,bMT,bMC,bPI]at hnd;have:=bMB.1 hnd;have h2':=bNP.1 this.2.1;simp only[aD.ks,bME,bMD]at hm;rcases hm with hm|hm
   ·exact this.2.2 b hm b bLP rfl
   ·exact h2'.1 hm
  have hb':=hb.resolve_right fun h=>hnb (hmods b h);obtain⟨D',hle,hD',hDo,hs⟩:=h4.freeze hb';refine⟨D',fun D₁ hD₁=>(h5 D₁ hD₁).trans hle,bLY ⟨b,cap,hv,hncap,fun j u hj=>by rw[hD',bOM];exact hj⟩,h1,h2,h3,D',hs,fun D₁ hD₁=>?_,I.step (fun _ p hp=>bMF (GE.2 ⟨p,Xcw,rfl⟩)) (fun _=>⟨bMH _,fun c _ hn=>⟨rfl,hDo c (by rintro rfl;exact hn Yf)⟩,rfl⟩) hs.dom⟩
  rcases bLO.1 hD₁ with rfl|hD₁
  ·exact Le.refl _
  ·exact(h5 D₁ hD₁).trans hle
theorem yY{A B ν:aD}{e sz n:Nat}{cells:List Γ}(hacc:bM e sz v n cells ν)(hmods:∀k∈X.mods,k∈(A++B).ks)(kk:∀D,(∀D₁∈Ds,Le D₁ D)→kH D v n cells→WL P X bad all K Q os σ (A++B) (D::Ds)):WL P X bad all K Q os σ (A++ν++B) Ds:=by
 intro a w hh;obtain⟨D',h1,h2,h3⟩:=hh.freezeM hacc hmods;exact kk D' h1 h2 a w h3
theorem JH{T:Act→Δ→Prop}{A B ν:aD}{e sz n:Nat}{cells:List Γ}(hacc:bM e sz v n cells ν)(hmods:∀k∈X.mods,k∈(A++B).ks)(kk:∀D,(∀D₁∈Ds,Le D₁ D)→kH D v n cells→∀a w,Hl X σ (A++B) (D::Ds) a w→T a w):∀a w,Hl X σ (A++ν++B) Ds a w→T a w:=by
 intro a w hh;obtain⟨D',h1,h2,h3⟩:=hh.freezeM hacc hmods;exact kk D' h1 h2 a w h3
theorem Hl.apart{a:Act}{w:Δ}{D₁:aC}{b o:Nat}{c:Γ}{cs:List Γ}(hh:Hl X σ μ Ds a w)(hA:At D₁ b o (c::cs))(hD:D₁∈Ds):b∉μ.ks:=by
 obtain⟨h1,h2,h3,D,h4,h5,I⟩:=hh;intro hm;obtain⟨p,hp,rfl⟩:=GE.1 hm;have h0:=(h5 D₁ hD).get (hA 0 c rfl);rw[(h4.box p hp).2.1]at h0;simp at h0
theorem fD{c':Code}{D₁:aC}{b o:Nat}{c:Γ}{cs:List Γ}(hA:At D₁ b o (c::cs))(hD:D₁∈Ds)(k:b∉μ.ks→WC P X Q c' σ μ Ds):WC P X Q c' σ μ Ds:=fun a w hh=>k (hh.apart hA hD) a w hh
theorem At.tail{D:aC}{b o:Nat}{c:Γ}{cs:List Γ}(h:At D b o (c::cs)):At D b (o+1) cs:=fun j v hj=>by
 have:=h (j+1) v (by simpa using hj);rw[show o+1+j=o+(j+1) by omega];exact this

theorem ZP{f:FuncId}{fn:Func}{c:Code}{args:List Γ}{D:aC}{ν:aD}{post:aC→Γ→aD→Prop}(N:Nat)(hf:P.funcs[f]?= some fn)(hn:(fn.name== "runtime.NumGoroutine")=false)(hb:fn.body=some c)(hN:fn.ntmps=N)(hsz:Nat.ble args.length N=true)
  (h:∀h0:H0,(∀p∈ν,p.1<h0.size)→ν.ks.Nodup→WC P (sP N h0 D ν.ks) (T9 P fn (nI (sP N h0 D ν.ks) ν.ks post)) c (jJ 0 args) ν [D]):HO P f args D ν post:=by
 refine⟨EF.of hf hn hb,fun w hw hν hnd=>?_⟩;subst hN;have hsz:=bNZ hsz;have hq:∀e a w',T9 P fn (nI (sP fn.ntmps (hd w) D ν.ks) ν.ks post) e a w'→bodyPostM (FW none) 0 P fn (nI (sP fn.ntmps (hd w) D ν.ks) ν.ks post) e a w':=by
  intro e a w' he;cases e<;>first|exact he|exact he.elim
 have hwp:=h (hd w) (fun p hp=>bO (hν p hp).1) hnd {tmps:=args.toArray++Array.replicate (fn.ntmps-args.toArray.size) undef,defers:=[]} w ⟨by simp[sP];omega,fun s v hs=>by
  obtain⟨_,h2⟩:=gR args 0 s v hs;have hl:=(bLS.1 h2).1;simp only[bPU]at h2 hl;show(args.toArray++_)[s]?= some v;rw[bON Yay];simpa using h2,rfl,D,⟨bMH _,bMH _,(fun _ _ _=>rfl),(fun _ _=>rfl),hw,(fun p hp=>⟨(hν p hp).1,(hν p hp).2.1,bLY (GE.2 ⟨p,hp,rfl⟩)⟩),hnd,(fun p hp=>(hν p hp).2.2),fun e he=>bMQ he⟩,(fun D₁ h1=>Xcc),bRD⟩
 refine(dZ (r:=none) (n:=0)).1 ((callsIn_of_wp_marks hf hb bRD (wpIn_mono hwp hq) rfl).mono ?_);rintro e w' ⟨v,D',ν',rfl,hk,hs,hp⟩;exact⟨v,D',ν',rfl,hk,hs,hp⟩
theorem VX{fn:Func}{bd:Nat}{ks:List Nat}{post:aC→Γ→aD→Prop}{e:Exit}(he:(match e with|.normal=>true|.ret=>true|_=>false)=true){rs:List ResultVar}{vs:List Γ}{A B ν':aD}(hds:X.ds=[])(hr:fn.results=rs.toArray)(h:G9 P X σ (A++ν'++B++[(bd,Obj.deferred none)]) rs vs)
  (hk:ν'.ks=ks) (hp:∀D,(∀D₁∈Ds,Le D₁ D)→post D (rG vs) ν'):∀a w,Hl (X.withDs bd) σ (A++ν'++B++[(bd,Obj.deferred (some []))]) Ds a w→T9 P fn (nI X ks post) e a w:=by
 intro a w hh;obtain⟨h1,h2,h3,D,h4,h5,I⟩:=hh;have hHas:bR (A++ν'++B++[(bd,Obj.deferred (some []))]) bd (.deferred (some [])) (.deferred none) (A++ν'++B++[(bd,Obj.deferred none)]):=.app .head;have hs:=h4.set (w':=w.putObj bd (.deferred none)) hHas ⟨rfl,rfl⟩ trivial;have hh':Hl X σ (A++ν'++B++[(bd,Obj.deferred none)]) Ds {a with defers:=[]} (w.putObj bd (.deferred none)):=
  ⟨h1,h2,hds.symm,D,hs,h5,I.step (X:=X.withDs bd) (fun _ p hp=>bMF Yt) (fun _=>lJ ⟨rfl,rfl⟩ (GE.2 ⟨_,hHas.mem,rfl⟩)) hs.dom⟩
 have hrun:=jE hh' hr h;have hb:=(h4.box (bd,Obj.deferred (some [])) Yf).1;have hnd:=h4.nd;simp only[bME]at hnd;have hsub:=hs.sub (μ':=ν') (fun p hp=>bMA _ (bMA _ (GT _ hp))) (bMB.1 (bMB.1 (bMB.1 hnd).1).1).2.1;have:LeavesInM (FW none) 0 P fn a.tmps (nI X ks post) a.defers .returning w:=by
  have h3':a.defers=[nV bd]:=h3.trans Xcd;rw[h3'];exact⟨Yf,bMF ⟨bd,_,rfl,run_takeDeferred hb,_,hrun,_,D,ν',rfl,hk,hsub,hp D h5⟩⟩
 cases e<;>first|exact this|cases he
theorem bIU{γ:Type}(I:γ→Prop)(S:γ→Bool)(M:γ→aD)(xs ys:List (Bool×Nat)){s p:Nat}{b:Bool}(ho:os=xs++ys)(hs:look σ s=some (.bool b))
  (hyes:b=true→WL P X bad all (fun a w=>∃g,I g∧Hl X ((p,.bool (S g))::(s,.bool true)::σ) (M g) Ds a w) Q xs ((s,.bool true)::σ) μ Ds)
  (hno:b=false→WL P X bad all (fun a w=>∃g,I g∧Hl X ((p,.bool (S g))::(s,.bool false)::σ) (M g) Ds a w) Q xs ((s,.bool false)::σ) μ Ds)
  (k:∀g,I g→WL P X bad all K Q ys ((p,.bool (S g))::σ) (M g) Ds):WL P X bad all K Q os σ μ Ds:=by
 have hsub:∀u,Value.bool b=u→∀a w,Hl X σ μ Ds a w→Hl X ((s,u)::σ) μ Ds a w:=by
  rintro _ rfl a w ⟨h1,h2,h3⟩;refine⟨h1,fun t v ht=>?_,h3⟩;simp only[look]at ht;cases hb:Nat.beq s t with
  |true=>rw[hb]at ht;cases ht;obtain rfl:=bNO hb;exact h2 _ _ hs
  |false=>rw[hb]at ht;exact h2 _ _ ht
 have hback:∀u v μ',Value.bool b=u→∀a w,Hl X ((p,v)::(s,u)::σ) μ' Ds a w→Hl X ((p,v)::σ) μ' Ds a w:=by
  rintro _ v μ' rfl a w ⟨h1,h2,h3⟩;refine⟨h1,fun t v' ht=>?_,h3⟩;refine h2 t v' ?_;simp only[look]at ht ⊢
  cases hp:Nat.beq p t with
  |true=>rw[hp]at ht;exact ht
  |false=>
   rw[hp]at ht;cases hb:Nat.beq s t with
   |true=>obtain rfl:=bNO hb;rw[←ht,hs]
   |false=>exact ht
 subst ho;intro a w hh;cases b
 ·refine WL.append (hno rfl a w (hsub _ rfl a w hh)) ?_;rintro a w ⟨g,hI,h⟩;exact k g hI a w (hback _ _ _ rfl a w h)
 ·refine WL.append (hyes rfl a w (hsub _ rfl a w hh)) ?_;rintro a w ⟨g,hI,h⟩;exact k g hI a w (hback _ _ _ rfl a w h)
theorem yF{t:Θ}{b k:Nat}{l:List Int}{n:Int}{e:Θ}{μ':aD}(ho:all[ix]?= some ⟨none,.store t x y,ty,pos,aft,g⟩)(hs:TS P t 1)(hx:ev σ x=some (.pointer (some ⟨b,k,none⟩)))(hy:ev σ y=some (qI n))
  (hm:bR μ b (.cells (ints l).toArray e (0,0)) (.cells (ints (l.set k n)).toArray e (0,0)) μ') (hl:k<l.length) (hg:cZ all σ g)
  (kk:WL P X bad all K Q os σ μ' Ds):WL P X bad all K Q ((false,ix)::os) σ μ Ds:=by
 have hil:(ints l).length=l.length:=aM l;refine cY (off:=k) (us:=[qI n]) (vs:=ints l) (ws:=ints (l.set k n)) ho hx hy rfl hs hm (by simp[hil];omega) ?_ (fun u hu=>by simp at hu;subst hu;rfl) hg kk
 rw[show ints (l.set k n)=(ints l).set k (qI n) by simp[ints,List.map_set],List.set_eq_take_append_cons_drop,bMG (by rw[hil];exact hl)];simp
theorem lX{t e tr:Θ}{a:Option Addr}{n c:Nat}{ats:Array Θ}(ho:all[ix]?= some ⟨some d,.call {callee:=.builtin .len,args:=#[x],argTypes:=ats},tr,pos,aft,g⟩)(ht:P.underlying t=some (.slice e))(hx:ev σ x=some (.slice a n c))(hat:ats[0]?= some t)
  (hN:Nat.blt d X.N=true) (hg:cZ all σ g) (kk:WL P X bad all K Q os ((d,qI (n:Int))::σ) μ Ds):WL P X bad all K Q ((fl,ix)::os) σ μ Ds:=
 cA ho rfl rfl hN hg (fun ρ hρ w'=>by
  have hx':=hρ x _ hx;simp[Builtin.len_,hat,hx',TU.of ht w',goInt,go_sem]) kk
theorem Hl.boxesEq{a:Act}{w:Δ}{μ':aD}(hh:Hl X σ μ Ds a w)(h:μ=μ'):Hl X σ μ' Ds a w:=h▸hh
theorem zC{T:Act→Δ→Prop}(μ':aD)(h:μ=μ')(k:∀a w,Hl X σ μ' Ds a w→T a w):∀a w,Hl X σ μ Ds a w→T a w:=h▸k
theorem qV{t t' e:Θ}{a:Option Addr}{n c:Nat}(ho:all[ix]?= some ⟨some d,.binOp .eql t x y t',ty,pos,aft,g⟩)(ht:P.underlying t=some (.slice e))(hx:ev σ x=some (.slice a n c))(hy:ev σ y=some (qN))(hN:Nat.blt d X.N=true)(hg:cZ all σ g)
  (kk:WL P X bad all K Q os ((d,.bool (a.isNone))::σ) μ Ds):WL P X bad all K Q ((fl,ix)::os) σ μ Ds:=
 W0 ho (fun w=>by
  have hgd:(eqGuard .eql t x y (.slice a n c) (qN)).run P w=.ok () w:=by
   simp only[eqGuard];simp[go_sem]
  have heq:(Op.equal t (.slice a n c) (qN)).run P w=.ok a.isNone w:=by
   show(Op.equalIn (9999+1) t (.slice a n c) (qN)).run P w=_;rw[Op.equalIn,Ω,TU.of ht w];cases a<;>rfl
  rw[Ω,hgd];show((do Pure.pure (Value.bool (←Op.equal t (.slice a n c) (qN)))):Sem Γ).run P w=_;rw[Ω,heq];rfl) hx hy hN hg kk
theorem QU{t:Θ}{b off:Nat}{vs us:List Γ}{e:Θ}{μ':aD}(ho:all[ix]?= some ⟨none,.store t x y,ty,pos,aft,g⟩)(hx:ev σ x=some (.pointer (some ⟨b,off,none⟩)))(hy:ev σ y=some v)(hv:v.cells=us.toArray)(hs:TS P t us.length)
  (hm:bR μ b (.cells vs.toArray e (0,0)) (.cells vs.toArray e (0,0)) μ') (hl:off+us.length≤vs.length) (hw:vs.take off++us++vs.drop (off+us.length)=vs) (hc1:∀u∈us,cell1 u=true) (hg:cZ all σ g)
  (kk:WL P X bad all K Q os σ μ' Ds):WL P X bad all K Q ((fl,ix)::os) σ μ Ds:=by
 refine fJ ho rfl rfl hg fun a w hh=>?_
 obtain⟨h1,h2,h3,D,h4,h5,I⟩:=id hh;obtain⟨w',hr,hw'⟩:=N6 (P:=P) hs hv (h4.box _ hm.mem).1 hl hc1;have:(execOp a.eval ⟨none,.store t x y,ty,pos,aft,g⟩).run P w=.ok .skip w':=by
  simp only[execOp,hh.eval hx,hh.eval hy,Ω,hr,Ξ,ε]
 rw[this];rw[hw]at hw';refine⟨fun _=>⟨Xax,fun c _ _=>?_⟩,kk _ _ ⟨h1,h2,h3,D,h4.set hm hw' rfl,h5,I.step (fun _ p hp=>bMF Yaz) (fun _=>lJ hw' (GE.2 ⟨_,hm.mem,rfl⟩)) (h4.set hm hw' rfl).dom⟩⟩
 have hb:=(h4.box _ hm.mem).1;rw[hw'.1];by_cases hc:b=c
 ·subst hc;rw[Array.getElem?_setIfInBounds_self_of_lt (bO hb)];exact hb.symm
 ·rw[bOR hc]

theorem kJ{D₁:aC}{b o:Nat}{c:Γ}{cs:List Γ}(hA:At D₁ b o (c::cs))(hD:D₁∈Ds)(k:b∉μ.ks→WL P X bad all K Q os σ μ Ds):WL P X bad all K Q os σ μ Ds:=fun a w hh=>k (hh.apart hA hD) a w hh
theorem aWI{e sz b:Nat}{cells:List Γ}(h:cells.length=sz):bM e sz (qS b 1 1) 1 cells [(b,.cells cells.toArray e (0,0))]:=
 bLY ⟨b,1,[],rfl,bMH _,Yf,Yd,Yap⟩
theorem aVH{D:aC}{b:Nat}{cells:List Γ}(h:kH D (qS b 1 1) 1 cells):At D b 0 cells:=by
 rcases h with⟨a,_,h0,_⟩|⟨b',cap,hv,_,hA⟩
 ·omega
 ·cases hv;exact hA
theorem L6{c:Code}{A B:aD}{b:Nat}{cells:List Γ}{e:Θ}(hmods:X.mods=[])(kk:∀D,(∀D₁∈Ds,Le D₁ D)→At D b 0 cells→WC P X Q c σ (A++B) (D::Ds)):WC P X Q c σ (A++(b,.cells cells.toArray e (0,0))::B) Ds:=by
 have:=zE (A:=A) (B:=B) (ν:=[(b,.cells cells.toArray e (0,0))]) (c:=c) (P:=P) (X:=X) (Q:=Q) (σ:=σ) (Ds:=Ds) (aWI (e:=e) (b:=b) (cells:=cells) rfl) hmods fun D hD hF=>kk D hD (aVH hF)
 simpa using this
theorem aDU{α:Type}{D:aC}{b sz:Nat}{cells:α→List Γ}(hsz:∀x,(cells x).length=sz):∀{xs:List α} {o:Nat},(∀i x,xs[i]?= some x→At D b (o+i*sz) (cells x))→At D b o (xs.flatMap cells)
 | [],o,_=>fun j v hj=>by simp at hj
 |x::xs,o,h=>fun j v hj=>by
  rw[bMS]at hj;have h0:=h 0 x rfl;rw[bPY,bRC]at h0;have hr:=aDU hsz (xs:=xs) (o:=o+sz) fun i y hy=>by
   have:=h (i+1) y (by simpa using hy);rw[show o+sz+i*sz=o+(i+1)*sz by rw[bOK];omega];exact this
  rcases Nat.lt_or_ge j (cells x).length with hl|hl
  ·rw[bNX hl]at hj;exact h0 j v hj
  ·rw[bOV hl]at hj;have:=hr _ v hj;rw[hsz]at this;rw[show o+j=o+sz+(j-sz) by rw[hsz]at hl;omega];exact this
theorem lD.of{α:Type}{R:Rd α}{D:aC}{sz:Nat}{xs:List α}{cells:α→List Γ}(hR:∀D x cs,R D x cs→cs=cells x)(hsz:∀x,(cells x).length=sz)(h:Sl D R sz v xs):lD D v xs.length (xs.flatMap cells):=by
 obtain⟨a,cap,rfl,h1,h2,h3⟩:=h;rcases h3 with rfl|⟨b,o,rfl,h3⟩
 ·exact bMF ⟨a,cap,rfl,rfl,rfl⟩
 ·refine bLY ⟨b,o,cap,rfl,aDU hsz fun i x hx=>?_⟩;obtain⟨cs,hr,hc,hA⟩:=h3 i x hx;rw[hR _ _ _ hr]at hA;exact hA
theorem uF{α:Type}{R:Rd α}{D:aC}{sz n c:Nat}{xs:List α}(h:Sl D R sz (.slice none n c) xs):xs=[]:=by
 obtain⟨a,cap,hv,h1,h2,h3⟩:=h;rcases h3 with h3|⟨b,o,ha,_⟩
 ·exact h3
 ·rw[ha]at hv;cases hv
theorem iS{α:Type}{R:Rd α}{D₁:aC}{sz:Nat}{t e:Θ}{xs:List α}{k:IntKind}{i:Int}{el:α}{bt ot ct:Nat}(ho:all[ix]?= some ⟨some d,.indexAddr t x y,ty,pos,aft,g⟩)(ht:P.underlying t=some (.slice e))(hs:TS P e sz)(hx:ev σ x=some (.slice (some ⟨bt,ot,none⟩) xs.length ct))(hS:Sl D₁ R sz (.slice (some ⟨bt,ot,none⟩) xs.length ct) xs)
  (hy:ev σ y=some (.int k i)) (h0:0≤i) (hi:xs[i.toNat]?= some el) (hN:Nat.blt d X.N=true) (hg:cZ all σ g)
  (kk:∀cs,R D₁ el cs→cs.length=sz→At D₁ bt (ot+i.toNat*sz) cs→WL P X bad all K Q os ((d,.pointer (some ⟨bt,ot+i.toNat*sz,none⟩))::σ) μ Ds):WL P X bad all K Q ((fl,ix)::os) σ μ Ds:=by
 obtain⟨a,cap,hv,h1,h2,h3⟩:=hS;cases hv;have hlt:=(bLS.1 hi).1;rcases h3 with h3|⟨b,o,ha,h3⟩
 ·subst h3;simp at hi
 ·cases ha;obtain⟨cs,hr,hc,hA⟩:=h3 _ _ hi;exact eP ho ht hs hx hy h0 Yd hN hg (kk cs hr hc hA)
section
variable{t e t2:Θ}{D₁:aC}{xs:List Int}{k:IntKind}{i el:Int}{ix2 d2:Nat}{x2:Operand}{ty2:Θ}{pos2:String}{aft2:Array Edge}{g2:Option (Nat×Bool)}{fl2:Bool}
theorem aS{bt ot ct:Nat}(e9:(all[ix]?,all[ix2]?,ev σ x,ev σ y,xs[i.toNat]?,ev ((d,.pointer (some ⟨bt,ot+i.toNat*1,none⟩))::σ) x2)=(some ⟨some d,.indexAddr t x y,ty,pos,aft,g⟩,some ⟨some d2,.load t2 x2,ty2,pos2,aft2,g2⟩,some (.slice (some ⟨bt,ot,none⟩) xs.length ct),some (.int k i),some el,some (.pointer (some ⟨bt,ot+i.toNat*1+0,none⟩))))(hS:Sl D₁ RI 1 (.slice (some ⟨bt,ot,none⟩) xs.length ct) xs)
  (kk:WL P X bad all K Q os ((d2,qI el)::(d,.pointer (some ⟨bt,ot+i.toNat*1,none⟩))::σ) μ Ds) (h0:0≤i:=by omega) (ht:P.underlying t=some (.slice e):=by exact U35) (hs:TS P e 1:=by exact aI) (ha:TA P t2 false:=by exact aH) (hD:D₁∈Ds:=by first|simp|assumption) (hb:bt∉bad:=by first|exact n4|assumption|simp)
  (hN:Nat.blt d X.N=true:=by exact rfl) (hg:cZ all σ g:=by exact bRD) (hN2:Nat.blt d2 X.N=true:=by exact rfl) (hg2:cZ all ((d,.pointer (some ⟨bt,ot+i.toNat*1,none⟩))::σ) g2:=by exact bRD):WL P X bad all K Q ((fl,ix)::(fl2,ix2)::os) σ μ Ds:=
 iS (bLZ (fun z=>z.1) e9) ht hs (bLZ (fun z=>z.2.2.1) e9) hS (bLZ (fun z=>z.2.2.2.1) e9) h0 (bLZ (fun z=>z.2.2.2.2.1) e9) hN hg fun cs hr hcl hA=>by
  obtain rfl:cs=[qI _]:=hr;exact dW (k:=0) (bLZ (fun z=>z.2.1) e9) ha (bLZ (fun z=>z.2.2.2.2.2) e9) hA hD rfl hb hN2 hg2 kk
end
theorem dF{α:Type}{R:Rd α}{D:aC}{sz:Nat}{xs:List α}{v:Γ}(h:Sl D R sz v xs)(hne:xs≠[]):∃bt ot ct,v=.slice (some ⟨bt,ot,none⟩) xs.length ct:=by
 obtain⟨a,cap,hv,h1,h2,h3⟩:=h;rcases h3 with h3|⟨b,o,ha,_⟩
 ·exact absurd h3 hne
 ·exact⟨b,o,cap,by rw[hv,ha]⟩
theorem DG{t t':Θ}{n:Nat}{k':IntKind}(ho:all[ix]?= some ⟨some d,.binOp .shl t x y t',ty,pos,aft,g⟩)(hx:ev σ x=some (qI 1))(hy:ev σ y=some (.int k' (n:Int)))(hn:n<62)(hN:Nat.blt d X.N=true)(hg:cZ all σ g)
  (kk:WL P X bad all K Q os ((d,qI ((2^n:Nat):Int))::σ) μ Ds):WL P X bad all K Q ((fl,ix)::os) σ μ Ds:=by
 have h2:2^n≤2^62:=bNQ Yd Yd;refine bFL (m:=1) ho hx hy Yd Yd hN hg ?_;rw[Nat.one_shiftLeft];exact kk
theorem nE{t:Θ}{b off:Nat}{vs us ws:List Γ}{e:Θ}{μ':aD}(ho:all[ix]?= some ⟨none,.store t x y,ty,pos,aft,g⟩)(hx:ev σ x=some (.pointer (some ⟨b,off,none⟩)))(hy:ev σ y=some v)(hv:v.cells=us.toArray)(hs:TS P t us.length)
  (hm:bR μ b (.cells vs.toArray e (0,0)) (.cells ws.toArray e (0,0)) μ') (hl:off+us.length≤vs.length) (hw:vs.take off++us++vs.drop (off+us.length)=ws) (hc1:∀u∈us,cell1 u=true) (hfl:fl=false∨b∈bad) (hg:cZ all σ g)
  (kk:WL P X bad all K Q os σ μ' Ds):WL P X bad all K Q ((fl,ix)::os) σ μ Ds:=by
 refine fJ ho rfl rfl hg fun a w hh=>?_
 obtain⟨h1,h2,h3,D,h4,h5,I⟩:=id hh;obtain⟨w',hr,hw'⟩:=N6 (P:=P) hs hv (h4.box _ hm.mem).1 hl hc1;have:(execOp a.eval ⟨none,.store t x y,ty,pos,aft,g⟩).run P w=.ok .skip w':=by
  simp only[execOp,hh.eval hx,hh.eval hy,Ω,hr,Ξ,ε]
 rw[this];rw[hw]at hw';refine⟨fun h=>⟨Xax,fun c _ hn=>?_⟩,kk _ _ ⟨h1,h2,h3,D,h4.set hm hw' rfl,h5,I.step (fun _ p hp=>bMF Yaz) (fun _=>lJ hw' (GE.2 ⟨_,hm.mem,rfl⟩)) (h4.set hm hw' rfl).dom⟩⟩
 rcases hfl with hf|hf
 ·rw[hf]at h;cases h
 ·rw[hw'.1,bOR (by rintro rfl;exact hn hf)]
theorem KH.fn{f:FuncId}{args:Array Γ}{D:aC}{post:aC→Γ→aD→Prop}{I:aC→Γ→Prop}{e sz:Nat}(h:KH P f args D post)(hacc:∀D' v ν,post D' v ν→∃n cells,bM e sz v n cells ν∧∀D'',Le D' D''→kH D'' v n cells→I D'' v):Fn P f args D I:=by
 refine⟨h.1,fun w hw=>(h.2 w hw).mono ?_⟩;rintro e' w' ⟨v,D',ν,rfl,hs,hp⟩;obtain⟨n,cells,ha,hk⟩:=hacc D' v ν hp;rcases ha with⟨old,hv,hn,hc,hν⟩|⟨b,cap,junk,hv,hncap,hν,hl1,R⟩
 ·subst hν;exact⟨v,D',rfl,hs,hk D' (Le.refl _) (bMF ⟨old,hv,hn,hc⟩)⟩
 ·subst hν;have hb:=(hs.box (b,.cells (cells++junk).toArray e (0,0)) Yf).2.2;have hs':iX (hd w) w.heap.size D [] ([]++[(b,.cells (cells++junk).toArray e (0,0))]++[]) D' w':=by simpa using hs
  obtain⟨D'',hle,hD'',hDo,O⟩:=hs'.freeze (hb.resolve_right Yf);exact⟨v,D'',rfl,by simpa using O,hk D'' hle (bLY ⟨b,cap,hv,hncap,fun j u hj=>by rw[hD'',bOM];exact hj⟩)⟩
def MC{α:Type}(P:Program)(f:FuncId)(cap:List Γ)(Dr:aC)(xs:List α)(enc:Nat→List Γ→Prop)(cells:α→List Γ):Prop:=
 EF P f∧∀(lo l:Nat) (J Jx:List α→vZ),(∀pre,V6 lo (J pre))→(∀pre,V6 lo (Jx pre))→
  (∀pre x β D w bo vs,(∃r,xs=pre++x::r)→I4 lo D w→J pre β D w→(∀b∈β,b<w.heap.size)→Le Dr D→enc bo vs→JX β D w bo (cells x)→
   jG P l vs w fun b D' w'=>I4 lo D' w'∧M7 β D w D' w'∧(if b then J (pre++[x]) β D' w' else Jx (pre++[x]) β D' w'))→
  ∀D w,I4 lo D w→Le Dr D→J [] [] D w→Calls P f (.func (.yield l) #[] #[]::cap).toArray w fun e w'=>∃v D',e=.returned v∧I4 lo D' w'∧(J xs [] D' w'∨∃pre,Jx pre [] D' w')
theorem Z5{α γ:Type}{xs:List α}{enc:Nat→List Γ→Prop}{cells:α→List Γ}{Dr:aC}{f:FuncId}{cap:List Γ}{gop:Operand}{ps:Array Tmp}{assign body:Code}
  (Φ:List α→γ→Prop) (Ψ:List α→Code→γ→Prop) (M:γ→aD) (g₀:γ) (hr:X.r=none) (hex:X.ex=none) (hmods:∀g,∀k∈X.mods,k∈(M g).ks)
  (hg:ev σ gop=some (.func (.func f) #[] cap.toArray)) (hit:MC P f cap Dr xs enc cells) (hDr:Dr∈Ds) (hps:∀b vs,enc b vs→vs.length=ps.size) (hpN:(ps.toList.all fun p=>Nat.blt p X.N)=true) (h₀:Φ [] g₀) (hμ:M g₀=μ)
  (hround:∀pre x g,(∃r,xs=pre++x::r)→Φ pre g→∀(l bd bo:Nat) (vs:List Γ) (rec:Loop) (h0:H0) (D:aC),(∀D₁∈Ds,Le D₁ D)→enc bo vs→At D bo 0 (cells x)→rec.state=.ready→rec.pending=none→
   WC P (Xr l X.N h0 D ((M g++(l,Obj.loop rec)::[(bd,Obj.deferred (some []))]).map (·.1)))
    (Exit.then (fun a₁ w₁=>∃w₂,(Instr.beginRound l).run P w₁=.ok () w₂∧body.wpIn ((FW none).inRound l) 0 P (roundPost P l (N9 h0 D ((M g++(l,Obj.loop rec)::[(bd,Obj.deferred (some []))]).map (·.1)) (Φ (pre++[x])) (Ψ (pre++[x]))
     (fun g=>M g++(l,Obj.loop {rec with state:=.ready,pending:=none})::[(bd,Obj.deferred (some []))]) fun c g=>M g++(l,Obj.loop {rec with state:=.done,pending:=some c})::[(bd,Obj.deferred (some []))])) a₁ w₂) fun _ _ _=>False)
    assign (J9 ps.toList vs σ) (M g++(l,Obj.loop rec)::[(bd,Obj.deferred (some []))]) (D::Ds))
  (hdone:∀g bd,Φ xs g→∀a w,Hl (X.withDs bd) σ (M g++[(bd,Obj.deferred (some []))]) Ds a w→Q .normal a w)
  (hstop:∀pre c g bd,Ψ pre c g→WC P (X.withDs bd) Q c σ (M g++[(bd,Obj.deferred (some []))]) Ds):WC P X Q (.rangeFunc gop ps assign body) σ μ Ds:=by
 intro a w hh;subst hμ;have hev:=hh.eval hg;obtain⟨h1,h2,h3,D,h4,h5,h6⟩:=hh;refine wpIn_rangeFunc fun fn _=>?_
 have hround':(FW X.r).round=none:=hr;rw[hround'];have hmk:∀g (B:aD),∀k∈X.mods,k∈(M g++B).ks:=fun g B k hk=>by
  show k∈(M g++B).map _;rw[bME];exact bMA _ (hmods g k hk)
 let bd:=w.heap.size
 let l:=w.heap.size+1
 let I:Loop:={state:=.ready,pending:=none,fn,tmps:=a.tmps,params:=ps,assign,body,defers:=bd}
 let V:Δ:={w with heap:=w.heap.push (.deferred (some []))}
 let U:Δ:={V with heap:=V.heap.push (.loop I)}
 have Y:iX X.h0 X.lo X.D0 X.mods ((bd,Obj.deferred (some []))::M g₀) D V:=h4.push (.deferred (some [])) trivial;have O:iX X.h0 X.lo X.D0 X.mods ((l,Obj.loop I)::(bd,Obj.deferred (some []))::M g₀) D U:=by
  have:=Y.push (.loop I) trivial;have e:V.heap.size=l:=by simp[V,l]
  rw[e]at this;exact this
 have hperm:iX X.h0 X.lo X.D0 X.mods (M g₀++(l,Obj.loop I)::[(bd,Obj.deferred (some []))]) D U:=by
  refine O.sub (fun p hp=>?_) ?_
  ·simp only[bMD,bLO,n4,bNV]at hp ⊢
   rcases hp with hp|hp|hp
   ·exact bLY (bLY hp)
   ·exact bMF hp
   ·exact bLY (bMF hp)
  ·have hn:=O.nd;simp only[bMT,bNP,bLO,bQX]at hn;simp only[bME,bMT,bQB,bMB,bNP,bLO,n4,bNV,bQM,bNW,and_true];refine⟨hn.2.2,hn.1.1,fun q hq r hr'=>?_⟩;rcases hr' with rfl|rfl
   ·rintro rfl;exact hn.1.2 hq
   ·rintro rfl;exact hn.2.1 hq
 refine⟨l,[nV bd],U,{target:=.fn (.func f) cap.toArray,args:=#[.func (.yield l) #[] #[]]},U,f,(.func (.yield l) #[] #[]::cap).toArray,U,run_enterLoop_outer fn a.tmps ps assign body,?_,fun _ _=>trivial,?_,fun h=>Xac,?_⟩
 ·simp only[resolve,Deferred.ofValue];have e:Array.map a.eval #[Operand.const (Value.func (Fn.yield l) #[] #[])]=#[.func (.yield l) #[] #[]]:=by simp[Act.eval]
  rw[e,hev];rfl
 ·simp only[invoke];rw[hit.1];simp
 ·refine dZ.2 ((hit.2 X.lo l
   (fun pre=>aQB X.h0 X.lo X.D0 X.mods Ds (Φ pre) fun g=>M g++(l,Obj.loop I)::[(bd,Obj.deferred (some []))])
   (fun pre=>aQB X.h0 X.lo X.D0 X.mods Ds (fun cg:Code×γ=>Ψ pre cg.1 cg.2) fun cg=>M cg.2++(l,Obj.loop {I with state:=.done,pending:=some cg.1})::[(bd,Obj.deferred (some []))])
   (fun _=>j5) (fun _=>j5) ?_ D U O.dom (h5 Dr hDr) ⟨g₀,h₀,hperm,h5,(fun _ h=>Xab),(fun _ _ h=>Xab),hmk g₀ _⟩).mono ?_)
  ·rintro pre x β Dx wx bo vs hx hdx ⟨g,hΦ,hst,hDs,hβ,hM,hmg⟩ hβs hle henc ⟨hbo,hbD,be,bfz,hbw⟩;have hbox:=(hst.box (l,Obj.loop I) Yf).1;refine⟨fn,_,assign,body,run_yield hbox (by simpa using hps bo vs henc),?_⟩;refine(roundIn_of_wpIn (F:=FW none) bRD (R:=N9 (hd wx) (iT Dx bo (cells x)) ((M g++(l,Obj.loop I)::[(bd,Obj.deferred (some []))]).map (·.1)) (Φ (pre++[x])) (Ψ (pre++[x]))
     (fun g=>M g++(l,Obj.loop {I with state:=.ready,pending:=none})::[(bd,Obj.deferred (some []))]) fun c g=>M g++(l,Obj.loop {I with state:=.done,pending:=some c})::[(bd,Obj.deferred (some []))]) ?_).mono ?_
   ·have hw:=hround pre x g hx hΦ l bd bo vs I (hd wx) (iT Dx bo (cells x)) (fun D₁ h=>(hDs D₁ h).trans (d8 hbD (hst.agr.ne0 hbD))) henc (SH _ _ _) rfl rfl;have ht:(ps.zip vs.toArray).foldl (fun tmps (t,a)=>tmps.setIfInBounds t a) a.tmps=(ps.toList.zip vs).foldl (fun tmps (p:Tmp×Γ)=>tmps.setIfInBounds p.1 p.2) a.tmps:=by
     rw[←Array.foldl_toList];simp
    have hpN':∀p∈ps.toList,p<a.tmps.size:=fun p hp=>by rw[h1];simpa [Nat.blt_eq]using bMK.1 hpN p hp
    refine hw {tmps:=_,defers:=[]} wx ⟨?_,fun s v hs=>?_,rfl,iT Dx bo (cells x),⟨bMH _,bMH _,fun _ _ _=>rfl,fun _ _=>rfl,KD hst.agr hbw hbD,fun p hp=>?_,hst.nd,hst.fz,fun e he=>bMQ he⟩,fun D₁ hD₁=>?_,bRD⟩
    ·show((ps.zip vs.toArray).foldl _ a.tmps).size=X.N;rw[ht,m2];exact h1
    ·show((ps.zip vs.toArray).foldl _ a.tmps)[s]?= some v;rw[ht];exact Y7 _ _ _ _ h2 hpN' s v hs
    ·obtain⟨p1,p2,p3⟩:=hst.box p hp;exact⟨p1,Xcy,bLY (GE.2 ⟨p,hp,rfl⟩)⟩
    ·rcases bLO.1 hD₁ with rfl|hD₁
     ·exact Le.refl _
     ·exact(hDs D₁ hD₁).trans (d8 hbD (hst.agr.ne0 hbD))
   ·rintro e w' ⟨b,D',rfl,hb⟩;have fin:∀μ',iX (hd wx) wx.heap.size (iT Dx bo (cells x)) ((M g++(l,Obj.loop I)::[(bd,Obj.deferred (some []))]).map (·.1)) μ' D' w'→iX X.h0 X.lo X.D0 X.mods μ' (iT D' bo []) w'∧M7 β Dx wx (iT D' bo []) w'∧(∀D₁∈Ds,Le D₁ (iT D' bo []))∧(∀p∈μ',p.1∉β):=by
     intro μ' Z;have hs':=Z.hide hbD (hst.agr.ne0 hbD);refine⟨hst.roundM hmg hs',iX.roundHigh hst.agr hs' hβs hM,fun D₁ hD₁=>(hDs D₁ hD₁).trans (hU hst.agr hs'),fun p hp hpb=>?_⟩;rcases(hs'.box p hp).2.2 with h|h
     ·have:=hβs _ hpb;omega
     ·obtain⟨q,hq,he⟩:=GE.1 h;exact hM q hq (by rw[he];exact hpb)
    refine⟨b,iT D' bo [],rfl,?_⟩;cases b with
    |true=>
     obtain⟨g',hg',hs'⟩:=hb;obtain⟨f1,f2,f3,f4⟩:=fin _ hs';exact⟨f1.dom,f2,g',hg',f1,f3,hβ,f4,hmk g' _⟩
    |false=>
     obtain⟨c',g',hg',hs'⟩:=hb;obtain⟨f1,f2,f3,f4⟩:=fin _ hs';exact⟨f1.dom,f2,(c',g'),hg',f1,f3,hβ,f4,hmk g' _⟩
  ·rintro e w' ⟨v,D',rfl,hd,hend⟩;have post:∀(g:γ) (r:Loop),iX X.h0 X.lo X.D0 X.mods (M g++(l,Obj.loop r)::[(bd,Obj.deferred (some []))]) D' w'→(∀D₁∈Ds,Le D₁ D')→
     Hl (X.withDs bd) σ (M g++[(bd,Obj.deferred (some []))]) Ds {a with defers:=[nV bd]++a.defers} (w'.putObj l (.loop {r with state:=.exhausted})):=by
    intro g r hs hD';have hHas:bR (M g++(l,Obj.loop r)::[(bd,Obj.deferred (some []))]) l (.loop r) (.loop {r with state:=.exhausted}) (M g++(l,Obj.loop {r with state:=.exhausted})::[(bd,Obj.deferred (some []))]):=.app .head;have hs':=hs.set (w':=w'.putObj l (.loop {r with state:=.exhausted})) hHas ⟨rfl,rfl⟩ trivial;have hs'':=hs'.sub (μ':=M g++[(bd,Obj.deferred (some []))]) (fun p hp=>by
     rcases bMD.1 hp with hp|hp
     ·exact bMA _ hp
     ·exact GT _ (LE _ hp)) (by
     have hn:=hs'.nd;rw[bME,bMB]at hn ⊢
     simp only[bMT]at hn;exact⟨hn.1,(bNP.1 hn.2.1).2,fun q hq r hr=>hn.2.2 q hq r (LE _ hr)⟩)
    exact⟨h1,h2,bLZ (nV bd:: ·) h3,D',hs'',hD',Xcb⟩
   rcases hend with⟨g,hΦ,hs,hDs,_,_,_⟩|⟨pre,⟨c,g⟩,hΨ,hs,hDs,_,_,_⟩
   ·have hb:=(hs.box (l,Obj.loop I) Yf).1;exact⟨none,_,run_endLoop hb (by simp[I]),hdone g bd hΦ _ _ (post g I hs hDs)⟩
   ·have hb:=(hs.box (l,Obj.loop {I with state:=.done,pending:=some c}) Yf).1;refine⟨some c,_,run_endLoop hb Yf,?_⟩;have:=hstop pre c g bd hΨ _ _ (post g _ hs hDs);exact this
theorem FZ{α:Type}{f:FuncId}{fn:Func}{c:Code}{cap:List Γ}{Dr:aC}{xs:List α}{enc:Nat→List Γ→Prop}{cells:α→List Γ}(N:Nat)(hf:P.funcs[f]?= some fn)(hn:(fn.name== "runtime.NumGoroutine")=false)(hb:fn.body=some c)(hN:fn.ntmps=N)(hsz:Nat.ble (cap.length+1) N=true)
  (h:∀(lo l:Nat) (J Jx:List α→vZ),(∀pre,V6 lo (J pre))→(∀pre,V6 lo (Jx pre))→
   (∀pre x β D w bo vs,(∃r,xs=pre++x::r)→I4 lo D w→J pre β D w→(∀b∈β,b<w.heap.size)→Le Dr D→enc bo vs→JX β D w bo (cells x)→
    jG P l vs w fun b D' w'=>I4 lo D' w'∧M7 β D w D' w'∧(if b then J (pre++[x]) β D' w' else Jx (pre++[x]) β D' w'))→
   WC P (Xj N lo (J [])) (bodyPost P fn (AS lo [Dr] fun _ J' _=>J'=J xs∨∃pre,J'=Jx pre)) c (jJ 0 (.func (.yield l) #[] #[]::cap)) [] [Dr]):MC P f cap Dr xs enc cells:=by
 refine⟨EF.of hf hn hb,fun lo l J Jx hs hsx hY D w hd hle hJ=>?_⟩;have hF:=U6 (μ:=[]) N hf hn hb hN (by simpa using hsz) (h lo l J Jx hs hsx hY);refine(hF.2 w ⟨D,⟨bRB _,hd.2,fun b hb=>absurd hb (bQE _),fun b hb=>absurd hb (bQE _),hd.1,Yi,bNW,Yi,fun e he=>by cases he⟩,fun D₁ h1=>?_,hs [],hJ⟩).mono ?_
 ·simp only[bMI]at h1;subst h1;exact hle
 ·rintro e w' ⟨v,J',μ',rfl,⟨D',hst,hds,hex⟩,hpost⟩;refine⟨v,D',rfl,hst.dom,?_⟩;have hJ':J' [] D' w':=hex.1.own _ [] D' w' hex.2 (fun b hb=>by cases hb);rcases hpost with rfl|⟨pre,rfl⟩
  ·exact bMF hJ'
  ·exact bLY ⟨pre,hJ'⟩
theorem Hl.subB{μ':aD}{a:Act}{w:Δ}(h:Hl X σ μ Ds a w)(hμ:μ'.Sublist μ):Hl X σ μ' Ds a w:=by
 obtain⟨g1,g2,g3,D,h4,h5,I⟩:=h;exact⟨g1,g2,g3,D,h4.sub (fun p hp=>hμ.subset hp) (h4.nd.sublist (hμ.map _)),h5,I.step (fun _ p hp=>bMF (GE.2 ⟨p,hμ.subset hp,rfl⟩)) (fun _=>aSN.refl _ _ _) h4.dom⟩
theorem bIV{c:Code}{μ':aD}(hμ:μ'.Sublist μ)(h:WC P X Q c σ μ' Ds):WC P X Q c σ μ Ds:=fun a w hh=>h a w (hh.subB hμ)
theorem GH{μ':aD}(hμ:μ'.Sublist μ)(h:WL P X bad all K Q os σ μ' Ds):WL P X bad all K Q os σ μ Ds:=fun a w hh=>h a w (hh.subB hμ)
theorem Hl.perm{μ':aD}{a:Act}{w:Δ}(h:Hl X σ μ Ds a w)(h1:∀r∈μ',r∈μ)(h2:(μ.map (·.1)).Nodup→(μ'.map (·.1)).Nodup):Hl X σ μ' Ds a w:=by
 obtain⟨g1,g2,g3,D,h4,h5,I⟩:=h;exact⟨g1,g2,g3,D,h4.sub h1 (h2 h4.nd),h5,I.step (fun _ r hr=>bMF (GE.2 ⟨r,h1 r hr,rfl⟩)) (fun _=>aSN.refl _ _ _) h4.dom⟩
theorem R3{K':Act→Δ→Prop}(h:∀a w,Hl X σ μ Ds a w→K' a w):∀a w,Hl X σ μ Ds a w→(Exit.then K' Q) .normal a w:=h
theorem ZD{c c':Code}{γ:Type}(I:γ→Prop)(S:γ→bX)(M:γ→aD)(E:γ→List aC)(h1:WC P X (Exit.then (fun a w=>∃g,I g∧Hl X (S g) (M g) (E g) a w) Q) c σ μ Ds)(h2:∀g,I g→WC P X Q c' (S g) (M g) (E g)):WC P X Q (.seq c c') σ μ Ds:=
 fun a w hh=>wpIn_seq (wpIn_mono (h1 a w hh) fun e a w he=>by
  cases e with
  |normal=>obtain⟨g,hg,h⟩:=he;exact h2 g hg a w h
  |_=>exact he)
def oP(v:Γ):List PanicEntry:=[{v,recovered:=false}]
def kF(P:Program)(f:FuncId)(args:List Γ)(D:aC)(ν:aD)(post:aC→Γ→aD→Prop)(pan:Γ→Prop):Prop:=
 EF P f∧∀w,fR D w→(∀p∈ν,w.heap[p.1]?= some p.2∧D p.1=[]∧dE p.2)→ν.ks.Nodup→Calls P f args.toArray w fun e w'=>
  (∃v D' ν',e=.returned v∧iX (hd w) w.heap.size D ν.ks ν' D' w'∧post D' v ν')∨(∃v D',e=.panicked (oP v)∧iX (hd w) w.heap.size D ν.ks [] D' w'∧pan v)
theorem iX.afterG{h0:H0}{lo:Nat}{D0 D D':aC}{mods:List Nat}{A B ν ν':aD}{w w':Δ}(h:iX h0 lo D0 mods (A++ν++B) D w)(hs:iX (hd w) w.heap.size D ν.ks ν' D' w'):iX h0 lo D0 mods (A++ν'++B) D' w':=by
 have hle:=bOB h.hlo h.size;have hin:∀c∈ν.ks,∃o,(c,o)∈ν:=fun c hc=>by
  obtain⟨p,hp,rfl⟩:=GE.1 hc;exact⟨p.2,hp⟩
 have hbx:∀p∈ν,_:=fun p hp=>h.box p (bMA _ (GT _ hp))
 have hnd:=h.nd;simp only[bME]at hnd;have hA:∀p∈A,p.1∉ν.ks∧p.1<w.heap.size:=fun p hp=>⟨fun hm=>(bMB.1 (bMB.1 hnd).1).2.2 p.1 (GE.2 ⟨p,hp,rfl⟩) p.1 hm rfl,bO (h.box p (bMA _ (bMA _ hp))).1⟩
 have hB:∀p∈B,p.1∉ν.ks∧p.1<w.heap.size:=fun p hp=>⟨fun hm=>(bMB.1 hnd).2.2 p.1 (GT _ hm) p.1 (GE.2 ⟨p,hp,rfl⟩) rfl,bO (h.box p (GT _ hp)).1⟩
 have hN:∀p∈ν',p.1∈ν.ks∨w.heap.size≤p.1:=fun p hp=>((hs.box p hp).2.2).symm
 refine⟨h.hlo,bOB h.size hs.size,fun c hc hm=>?_,fun c hc=>?_,hs.agr,fun p hp=>?_,?_,fun p hp=>?_,fun e he=>(hs.env _ rfl).trans (h.env e he)⟩
 ·have hne:c∉ν.ks:=by
   intro hcm;obtain⟨o,ho⟩:=hin c hcm;rcases(hbx _ ho).2.2 with h'|h'
   ·have:=h.hlo;simp at h';omega
   ·exact hm h'
  rw[hs.old c (bOI hc hle) hne];exact h.old c hc hm
 ·rw[hs.dold c (bOI hc hle)];exact h.dold c hc
 ·rcases bMD.1 hp with hp|hp
  ·rcases bMD.1 hp with hp|hp
   ·obtain⟨h1,h2,h3⟩:=h.box p (bMA _ (bMA _ hp));obtain⟨hne,hl⟩:=hA p hp;exact⟨Xbk,Xaw,h3⟩
   ·obtain⟨O,R,I⟩:=hs.box p hp;refine⟨O,R,?_⟩;rcases I with I|I
    ·exact bMF (bOB h.size I)
    ·obtain⟨o,ho⟩:=hin p.1 I;exact(hbx _ ho).2.2
  ·obtain⟨h1,h2,h3⟩:=h.box p (GT _ hp);obtain⟨hne,hl⟩:=hB p hp;exact⟨Xbk,Xaw,h3⟩
 ·simp only[bME];rw[bMB,bMB];refine⟨⟨(bMB.1 (bMB.1 hnd).1).1,hs.nd,fun a ha b hb e=>?_⟩,(bMB.1 hnd).2.1,fun a ha b hb e=>?_⟩
  ·obtain⟨p,hp,rfl⟩:=GE.1 ha;obtain⟨q,hq,rfl⟩:=GE.1 hb;obtain⟨h1,h2⟩:=hA p hp;rcases hN q hq with h3|h3
   ·exact h1 (e▸h3)
   ·omega
  ·rcases bMD.1 ha with ha|ha
   ·exact(bMB.1 hnd).2.2 a (bMA _ ha) b hb e
   ·obtain⟨p,hp,rfl⟩:=GE.1 ha;obtain⟨q,hq,rfl⟩:=GE.1 hb;obtain⟨h1,h2⟩:=hB q hq;rcases hN p hp with h3|h3
    ·exact h1 (e▸h3)
    ·omega
 ·rcases bMD.1 hp with hp|hp
  ·rcases bMD.1 hp with hp|hp
   ·exact h.fz p (bMA _ (bMA _ hp))
   ·exact hs.fz p hp
  ·exact h.fz p (GT _ hp)
theorem X7{c:Operand}{xs:Array Operand}{ats:Array Θ}{f:FuncId}{c1 c2:List Γ}{vs:List Γ}{A B ν:aD}{post:aC→Γ→aD→Prop}{pan:Γ→Prop}(ho:all[ix]?= some ⟨some d,.call {callee:=.value c,args:=xs,argTypes:=ats},ty,pos,aft,g⟩)(hc:ev σ c=some (.func (.func f) c1.toArray c2.toArray))(hxs:x5 σ xs.toList=some vs)
  (hex:X.ex=none) (hfl:fl=false∨∀p∈ν,p.1∈bad) (hu:∀p∈ν,dE p.2) (hf:∀D,(∀D₁∈Ds,Le D₁ D)→kF P f (c1++vs++c2) D ν post pan) (hN:Nat.blt d X.N=true) (hg:cZ all σ g)
  (kp:∀v D,(∀D₁∈Ds,Le D₁ D)→pan v→∀a w,Hl X σ (A++B) (D::Ds) a w→Q (.panic (oP v)) a w)
  (kk:∀v D ν',(∀D₁∈Ds,Le D₁ D)→post D v ν'→WL P X bad all K Q os ((d,v)::σ) (A++ν'++B) (D::Ds)):
  WL P X bad all K Q ((fl,ix)::os) σ (A++ν++B) Ds:=by
 refine fJ ho rfl rfl hg fun a w hh=>?_
 obtain⟨h1,h2,h3,D,h4,h5,h6⟩:=id hh;have hF:=hf D h5;have hbx:∀p∈ν,_:=fun p hp=>h4.box p (bMA _ (GT _ hp))
 have hnd:=h4.nd;simp only[bME]at hnd;rw[yH hF.1 (hh.eval hc) (lO (fun _ _ hx=>hh.eval hx) hxs)];refine⟨fun h=>Xac,dZ.2 ((hF.2 w h4.agr (fun p hp=>⟨(hbx p hp).1,(hbx p hp).2.1,hu p hp⟩) (bMB.1 (bMB.1 hnd).1).2.1).mono ?_)⟩;rintro e w' (⟨v,D',ν',rfl,hs,hpost⟩|⟨v,D',rfl,hs,hpan⟩)
 ·have hle:=hU h4.agr hs;refine⟨fun hflt=>⟨hs.size,fun c hc hcb=>hs.old c hc fun hm=>?_⟩,kk v D' ν' (fun D₁ hD₁=>(h5 D₁ hD₁).trans hle) hpost _ _ ?_⟩
  ·obtain⟨p,hp,rfl⟩:=GE.1 hm;rcases hfl with h|h
   ·rw[hflt]at h;cases h
   ·exact hcb (h p hp)
  ·refine Hl.put ⟨h1,h2,h3,D',h4.afterG hs,fun D₁ hD₁=>?_,Xaz⟩ hN v;rcases bLO.1 hD₁ with rfl|hD₁
   ·exact Le.refl _
   ·exact(h5 D₁ hD₁).trans hle
 ·have hle:=hU h4.agr hs;have h7:=h4.afterG hs;rw[bMM]at h7;exact kp v D' (fun D₁ hD₁=>(h5 D₁ hD₁).trans hle) hpan a w' ⟨h1,h2,h3,D',h7,fun D₁ hD₁=>by
   rcases bLO.1 hD₁ with rfl|hD₁
   ·exact Le.refl _
   ·exact(h5 D₁ hD₁).trans hle,Xaz⟩
theorem _root_.Go.Fs.Zl{c:Operand}{xs:Array Operand}{ats:Array Θ}{f:FuncId}{c1:List Γ}{c2:List Γ}{vs:List Γ}(A:aD)(B:aD)(ν:aD){post:aC→Γ→aD→Prop}{pan:Γ→Prop}(e9:(all[ix]?,ev σ c,x5 σ xs.toList,X.ex)=(some ⟨some d,.call {callee:=.value c,args:=xs,argTypes:=ats},ty,pos,aft,g⟩,some (.func (.func f) c1.toArray c2.toArray),some vs,none))(hfl:fl=false∨∀p∈ν,p.1∈bad)(hf:∀D,(∀D₁∈Ds,Le D₁ D)→kF P f (c1++vs++c2) D ν post pan)(kp:∀v D,(∀D₁∈Ds,Le D₁ D)→pan v→∀a w,Hl X σ (A++B) (D::Ds) a w→Q (.panic (oP v)) a w)(kk:∀v D ν',(∀D₁∈Ds,Le D₁ D)→post D v ν'→WL P X bad all K Q os ((d,v)::σ) (A++ν'++B) (D::Ds))(hu:∀p∈ν,dE p.2:=by exact Yi)(hN:Nat.blt d X.N=true:=by exact rfl)(hg:cZ all σ g:=by exact bRD):WL P X bad all K Q ((fl,ix)::os) σ (A++ν++B) Ds:=X7 (A:=A) (B:=B) (ν:=ν) (bLZ (fun z=>z.1) e9) (bLZ (fun z=>z.2.1) e9) (bLZ (fun z=>z.2.2.1) e9) (bLZ (fun z=>z.2.2.2) e9) hfl hu hf hN hg kp kk
theorem _root_.Go.Fs.Zm{c:Operand}{xs:Array Operand}{ats:Array Θ}{f:FuncId}{c1:List Γ}{c2:List Γ}{vs:List Γ}(A:aD)(B:aD)(ν:aD){post:aC→Γ→aD→Prop}{pan:Γ→Prop}(e9:(all[ix]?,ev σ c,x5 σ xs.toList,X.ex)=(some ⟨some d,.call {callee:=.value c,args:=xs,argTypes:=ats},ty,pos,aft,g⟩,some (.func (.func f) c1.toArray c2.toArray),some vs,none))(hu:∀p∈ν,dE p.2)(hf:∀D,(∀D₁∈Ds,Le D₁ D)→kF P f (c1++vs++c2) D ν post pan)(kp:∀v D,(∀D₁∈Ds,Le D₁ D)→pan v→∀a w,Hl X σ (A++B) (D::Ds) a w→Q (.panic (oP v)) a w)(kk:∀v D ν',(∀D₁∈Ds,Le D₁ D)→post D v ν'→WL P X bad all K Q os ((d,v)::σ) (A++ν'++B) (D::Ds))(hfl:fl=false∨∀p∈ν,p.1∈bad:=by exact(bMF rfl))(hN:Nat.blt d X.N=true:=by exact rfl)(hg:cZ all σ g:=by exact bRD):WL P X bad all K Q ((fl,ix)::os) σ (A++ν++B) Ds:=X7 (A:=A) (B:=B) (ν:=ν) (bLZ (fun z=>z.1) e9) (bLZ (fun z=>z.2.1) e9) (bLZ (fun z=>z.2.2.1) e9) (bLZ (fun z=>z.2.2.2) e9) hfl hu hf hN hg kp kk

def BW(X:Cx)(post:aC→Γ→aD→Prop)(pan:Γ→Prop):Ending→Δ→Prop:=fun e w'=>
 (∃v D' ν',e=.returned v∧iX X.h0 X.lo X.D0 X.mods ν' D' w'∧post D' v ν')∨(∃v D',e=.panicked (oP v)∧iX X.h0 X.lo X.D0 X.mods [] D' w'∧pan v)
theorem aBL{fn:Func}{R:Ending→Δ→Prop}:PI (bodyPost P fn R):=fun _ _ _ _ he h=>⟨he.trans h.1,h.2⟩
theorem eK{f:FuncId}{fn:Func}{c:Code}{args:List Γ}{D:aC}{ν:aD}{post:aC→Γ→aD→Prop}{pan:Γ→Prop}(N:Nat)(hf:P.funcs[f]?= some fn)(hn:(fn.name== "runtime.NumGoroutine")=false)(hb:fn.body=some c)(hN:fn.ntmps=N)(hsz:Nat.ble args.length N=true)
  (h:∀h0:H0,(∀p∈ν,p.1<h0.size)→ν.ks.Nodup→WC P (sP N h0 D ν.ks) (bodyPost P fn (BW (sP N h0 D ν.ks) post pan)) c (jJ 0 args) ν [D]):kF P f args D ν post pan:=by
 refine⟨EF.of hf hn hb,fun w hw hν hnd=>?_⟩;subst hN;have hsz:=bNZ hsz;refine(dZ (r:=none) (n:=0)).1 ((callsIn_of_wp (R:=BW (sP fn.ntmps (hd w) D ν.ks) post pan) hf hb bRD (h (hd w) (fun p hp=>bO (hν p hp).1) hnd _ w ⟨?_,fun s v hs=>?_,rfl,D,⟨bMH _,bMH _,fun _ _ _=>rfl,fun _ _=>rfl,hw,(fun p hp=>?_),hnd,(fun p hp=>(hν p hp).2.2),fun e he=>bMQ he⟩,fun D₁ h1=>?_,bRD⟩) rfl).mono ?_)
 ·simp[sP];omega
 ·obtain⟨_,h2⟩:=gR args 0 s v hs;have hl:=(bLS.1 h2).1;simp only[bPU]at h2 hl;show(args.toArray++_)[s]?= some v;rw[bON Yay];simpa using h2
 ·exact⟨(hν p hp).1,(hν p hp).2.1,bLY (GE.2 ⟨p,hp,rfl⟩)⟩
 ·simp only[bMI]at h1;subst h1;exact Le.refl _
 ·rintro e w' (⟨v,D',ν',rfl,hs,hp⟩|⟨v,D',rfl,hs,hp⟩)
  ·exact bMF ⟨v,D',ν',rfl,hs,hp⟩
  ·exact bLY ⟨v,D',rfl,hs,hp⟩
theorem K9{fn:Func}{A B ν':aD}{post:aC→Γ→aD→Prop}{pan:Γ→Prop}{e:Exit}(he:(match e with|.normal=>true|.ret=>true|_=>false)=true){rs:List ResultVar}{vs:List Γ}(hds:X.ds=[])(hr:fn.results=rs.toArray)(h:G9 P X σ (A++ν'++B) rs vs)
  (hp:∀D,(∀D₁∈Ds,Le D₁ D)→post D (rG vs) ν'):∀a w,Hl X σ (A++ν'++B) Ds a w→bodyPost P fn (BW X post pan) e a w:=by
 intro a w hh;have hrun:=jE hh hr h;obtain⟨h1,h2,h3,D,h4,h5,I⟩:=hh;have hnd:=h4.nd;simp only[bME]at hnd;have:a.defers=[]∧∃v,(results fn a.tmps).run P w=.ok v w∧BW X post pan (.returned v) w:=⟨h3.trans hds,_,hrun,bMF ⟨_,D,ν',rfl,h4.sub (fun p hp=>bMA _ (GT _ hp)) (bMB.1 (bMB.1 hnd).1).2.1,hp D h5⟩⟩
 cases e<;>first|exact this|cases he
theorem eG{fn:Func}{post:aC→Γ→aD→Prop}{pan:Γ→Prop}{e:Exit}(I:((match e with|.normal=>true|.ret=>true|_=>false),X.ds,fn.results)=(true,[],#[]))
  (hp:∀D,(∀D₁∈Ds,Le D₁ D)→post D (rG []) μ):∀a w,Hl X σ μ Ds a w→bodyPost P fn (BW X post pan) e a w:=fun a w hh=>
 K9 (A:=[]) (ν':=μ) (B:=[]) (rs:=[]) (vs:=[]) (bLZ (fun z=>z.1) I) (bLZ (fun z=>z.2.1) I) (bLZ (fun z=>z.2.2) I) bRD hp a w (hh.boxesEq (bMM _).symm)
theorem bJ{fn:Func}{post:aC→Γ→aD→Prop}{pan:Γ→Prop}{e:Exit}{t:Nat}{v:Γ}(I:((match e with|.normal=>true|.ret=>true|_=>false),X.ds,fn.results,look σ t)=(true,[],#[.tmp t],some v))
  (hp:∀D,(∀D₁∈Ds,Le D₁ D)→post D (rG [v]) μ):∀a w,Hl X σ μ Ds a w→bodyPost P fn (BW X post pan) e a w:=fun a w hh=>
 K9 (A:=[]) (ν':=μ) (B:=[]) (rs:=[.tmp t]) (vs:=[v]) (bLZ (fun z=>z.1) I) (bLZ (fun z=>z.2.1) I) (bLZ (fun z=>z.2.2.1) I) ⟨bLZ (fun z=>z.2.2.2) I,bRD⟩ hp a w (hh.boxesEq (bMM _).symm)
theorem cX{fn:Func}{post:aC→Γ→aD→Prop}{pan:Γ→Prop}{v:Γ}(hds:X.ds=[])(hp:pan v):∀a w,Hl X σ μ Ds a w→bodyPost P fn (BW X post pan) (.panic (oP v)) a w:=by
 rintro a w ⟨h1,h2,h3,D,h4,h5,I⟩;exact⟨h3.trans hds,bLY ⟨v,D,rfl,h4.sub Yi bNW,hp⟩⟩
theorem bJI{t:Θ}{fs:Array Field}(ho:all[ix]?= some ⟨some d,.makeInterface t x,ty,pos,aft,g⟩)(ht:P.underlying t=some (.struct fs))(hx:ev σ x=some v)(hN:Nat.blt d X.N=true)(hg:cZ all σ g)(k:WL P X bad all K Q os ((d,.iface t v)::σ) μ Ds):WL P X bad all K Q ((fl,ix)::os) σ μ Ds:=
 cA ho rfl rfl hN hg (fun ρ hρ w'=>by
  simp only[execOp,hρ x _ hx];unfold Instr.makeInterface;rw[Ω,Ω,TU.of ht w'];rfl) k
theorem bDD{t:Θ}{v:Γ}(ho:all[ix]?= some ⟨none,.panic x,ty,pos,aft,g⟩)(hx:ev σ x=some (.iface t v))(hg:cZ all σ g)(k:∀a w,Hl X σ μ Ds a w→Q (.panic (oP (.iface t v))) a w):WL P X bad all K Q ((fl,ix)::os) σ μ Ds:=by
 refine fJ ho rfl rfl hg fun a w hh=>?_
 have e:(execOp a.eval ⟨none,.panic x,ty,pos,aft,g⟩).run P w=.halt (.panic (.iface t v)) w:=by
  simp only[execOp,hh.eval hx,Instr.panic];rfl
 rw[e];exact k a w hh
theorem iI{D:aC}{b:Nat}{l:List Bool}{R:Rd Bool}(hR:∀D x cs,cs=[Value.bool x]→R D x cs)(hA:At D b 0 (l.map Value.bool))(hl:l.length≤1000):Sl D R 1 (qS b l.length l.length) l:=by
 refine⟨_,_,rfl,bMH _,Yd,bLY ⟨b,0,rfl,fun i x hi=>⟨_,hR _ _ _ rfl,rfl,fun j v hj=>?_⟩⟩⟩;cases j with
 |zero=>
  obtain rfl:Value.bool x=v:=by simpa using hj
  have h:=hA i (.bool x) (by rw[bNB,hi];rfl);simpa using h
 |succ j=>simp at hj
theorem kF.frame{f:FuncId}{args:List Γ}{D:aC}{ν A B:aD}{post post':aC→Γ→aD→Prop}{pan:Γ→Prop}(h:kF P f args D ν post pan)(h1:∀D' v ν',Le D D'→post D' v ν'→post' D' v (A++ν'++B)):kF P f args D (A++ν++B) post' pan:=by
 refine⟨h.1,fun w hw hν hn=>?_⟩;have hnd:=hn;unfold aD.ks at hnd;simp only[bME]at hnd;refine(h.2 w hw (fun p hp=>hν p (bMA _ (GT _ hp))) (bMB.1 (bMB.1 hnd).1).2.1).mono ?_;have hst:iX (hd w) w.heap.size D (A++ν++B).ks (A++ν++B) D w:=by
  refine⟨bMH _,bMH _,fun _ _ _=>rfl,fun _ _=>rfl,hw,fun p hp=>⟨(hν p hp).1,(hν p hp).2.1,bLY (GE.2 ⟨p,hp,rfl⟩)⟩,hn,(fun p hp=>(hν p hp).2.2),fun e he=>bMQ he⟩
 rintro e w' (⟨v,D',ν',he,hs,hp⟩|⟨v,D',he,hs,hp⟩)
 ·exact bMF ⟨v,D',A++ν'++B,he,hst.afterG hs,h1 _ _ _ (hU hw hs) hp⟩
 ·have I:=hst.afterG hs;exact bLY ⟨v,D',he,I.sub Yi bNW,hp⟩
theorem aPK{t e tr:Θ}{a:Option Addr}{n c:Nat}{ats:Array Θ}(ho:all[ix]?= some ⟨some d,.call {callee:=.builtin .len,args:=#[x],argTypes:=ats},tr,pos,aft,g⟩)(ht:P.underlying t=some (.slice e))(hx:ev σ x=some v)(hv:v=.slice a n c)(h0:ats[0]?= some t)
  (hN:Nat.blt d X.N=true) (hg:cZ all σ g) (kk:WL P X bad all K Q os ((d,qI (n:Int))::σ) μ Ds):WL P X bad all K Q ((fl,ix)::os) σ μ Ds:=by
 subst hv;exact lX ho ht hx h0 hN hg kk
theorem jU{t tr:Θ}{b:Λ}{ats:Array Θ}(ho:all[ix]?= some ⟨some d,.call {callee:=.builtin .len,args:=#[x],argTypes:=ats},tr,pos,aft,g⟩)(ht:P.underlying t=some .string)(hx:ev σ x=some (.string b))(hat:ats[0]?= some t)
  (hN:Nat.blt d X.N=true) (hg:cZ all σ g) (kk:WL P X bad all K Q os ((d,qI (b.size:Int))::σ) μ Ds):WL P X bad all K Q ((fl,ix)::os) σ μ Ds:=
 cA ho rfl rfl hN hg (fun ρ hρ w'=>by
  have hx':=hρ x _ hx;simp[Builtin.len_,hat,hx',TU.of ht w',goInt,go_sem]) kk
namespace C12
structure aO where
 row:C1.dO
 table:C2.aW
 book:C3.bA
 yard:C7.bC
end C12
open C12
def RB:Rd Bool:=fun _ b cs=>cs=[.bool b]
theorem RB.up:RB.Up:=fun _ _ _ h=>h
def RS:Rd Λ:=fun _ b cs=>cs=[.string b]
theorem RS.up:RS.Up:=fun _ _ _ h=>h
def dR(s:aO)(pv cv hv lv mv bl bc yc yq:Γ):List Γ:=
 [pv,cv,qI s.row.wrong,qI s.row.off,qI s.table.last,hv,qI s.table.step,lv,mv,qI s.book.chairs,qI s.book.coin,qI s.book.box,bl,bc,yc,qI s.yard.fit,yq]
@[simp] theorem stC_len(s:aO)(pv cv hv lv mv bl bc yc yq:Γ):(dR s pv cv hv lv mv bl bc yc yq).length=17:=rfl
structure jR(D:aC)(s:aO)(pv cv hv lv mv bl bc yc yq:Γ):Prop where
 pl:Sl D RI 1 pv s.row.places
 ct:Sl D RC 3 cv s.row.counts
 ht:Sl D BL 2 hv s.table.heights
 lev:Sl D RI 1 lv s.table.levels
 mks:Sl D UB 4 mv s.table.marks
 ln:Sl D kE 3 bl s.book.lines
 cn:Sl D vY 3 bc s.book.counts
 ch:Sl D zS 4 yc s.yard.chairs
 cl:Sl D R2 2 yq s.yard.claims
theorem jR.up{D D':aC}{s:aO}{pv cv hv lv mv bl bc yc yq:Γ}(h:jR D s pv cv hv lv mv bl bc yc yq)(hl:Le D D'):jR D' s pv cv hv lv mv bl bc yc yq:=
 ⟨h.pl.up RI.up hl,h.ct.up RC.up hl,h.ht.up BL.up hl,h.lev.up RI.up hl,h.mks.up UB.up hl,h.ln.up kE.up hl,h.cn.up vY.up hl,h.ch.up zS.up hl,h.cl.up R2.up hl⟩
def iD(D:aC)(v:Γ)(s:aO):Prop:=∃pv cv hv lv mv bl bc yc yq,v=.agg (dR s pv cv hv lv mv bl bc yc yq).toArray∧jR D s pv cv hv lv mv bl bc yc yq
theorem iD.up{D D':aC}{v:Γ}{s:aO}(h:iD D v s)(hl:Le D D'):iD D' v s:=by
 obtain⟨pv,cv,hv,lv,mv,bl,bc,yc,yq,e,h1⟩:=h;exact⟨pv,cv,hv,lv,mv,bl,bc,yc,yq,e,h1.up hl⟩
theorem jR.row{D:aC}{s:aO}{pv cv hv lv mv bl bc yc yq:Γ}(h:jR D s pv cv hv lv mv bl bc yc yq):oI D (.agg #[pv,cv,qI s.row.wrong,qI s.row.off]) s.row:=⟨pv,cv,rfl,h.pl,h.ct⟩
theorem jR.table{D:aC}{s:aO}{pv cv hv lv mv bl bc yc yq:Γ}(h:jR D s pv cv hv lv mv bl bc yc yq):gQ D (.agg #[qI s.table.last,hv,qI s.table.step,lv,mv]) s.table:=⟨hv,lv,mv,rfl,h.ht,h.lev,h.mks⟩
theorem jR.book{D:aC}{s:aO}{pv cv hv lv mv bl bc yc yq:Γ}(h:jR D s pv cv hv lv mv bl bc yc yq):gD D (.agg #[qI s.book.chairs,qI s.book.coin,qI s.book.box,bl,bc]) s.book:=⟨bl,bc,rfl,h.ln,h.cn⟩
theorem jR.yard{D:aC}{s:aO}{pv cv hv lv mv bl bc yc yq:Γ}(h:jR D s pv cv hv lv mv bl bc yc yq):iR D (.agg #[yc,qI s.yard.fit,yq]) s.yard:=⟨yc,yq,rfl,h.ch,h.cl⟩
open Go.Proofs Tryz
namespace L1
open C1
theorem kY{α:Type}{p:α→Bool}{xs:List α}{k:Nat}{x:α}(hx:xs[k]?= some x)(h:(xs.take k).any p=false)(hp:p x=true):idxOf p xs=k:=by
 have hk:=(bLS.1 hx).1;have he:=(bLS.1 hx).2;have h1:xs.any p=true:=bQA.2 ⟨x,n5 hx,hp⟩;have h2:xs.findIdx p=k:=by
  rw[List.findIdx_eq hk];refine⟨by rw[he];exact hp,fun j hj=>?_⟩
  have:=List.any_eq_false.1 h (xs[j]'Yd) (by
   rw[List.mem_take_iff_getElem];exact⟨j,Yd,rfl⟩)
  simpa using this
 simp[idxOf,h1,h2]
theorem hC{α:Type}{p:α→Bool}{xs:List α}(h:xs.any p=false):idxOf p xs= -1:=by simp[idxOf,h]
theorem lC{α:Type}{p:α→Bool}{xs:List α}:decide (0≤idxOf p xs)=xs.any p:=by
 unfold idxOf;cases h:xs.any p<;>simp
theorem oO{α:Type}{p:α→Bool}{xs:List α}:(!xs.any fun x=> !p x)=xs.all p:=by
 rw[List.all_eq_not_any_not]
theorem fA(n lo hi:Int)(D:aC):Fn prog 143 #[qI n,qI lo,qI hi] D (fun _ v=>v=.bool (gU n lo hi)):=by
 refine Zw 15 func143 rfl fun h0=>Wab ?_;refine' bU 4 (s:=10) (p:=14) rfl (fun I=>?_) (fun I=>?_) ?_;rotate_left
 ·refine Wbe ?_;exact aN 3
 ·refine Wb ?_;exact aN 3
 refine We ?_;exact aE rfl fun D hD=>rfl
theorem aDO(n lo hi:Int)(D:aC):Fn prog 84 #[qI n,qI lo,qI hi] D (fun _ v=>v=.bool (gU n lo hi)):=by
 refine Zw 15 func84 rfl fun h0=>Wbk ?_;refine' bU 4 (s:=10) (p:=14) rfl (fun I=>?_) (fun I=>?_) ?_;rotate_left
 ·refine Wbe ?_;exact aN 3
 ·refine Wb ?_;exact aN 3
 refine We ?_;exact aE rfl fun D hD=>Xcz
theorem aRO(n:Int)(D:aC):Fn prog 155 #[iV n] D (fun _ v=>v=.bool (tP n)):=by
 refine Zw 5 func155 rfl fun h0=>aA<|Zf rfl<|aJ<|Za rfl<|Zd rfl (fun O I=>fA _ _ _ _)<|We ?_;exact aE rfl fun D hD=>rfl
theorem aSD(rv:Γ)(r:dO)(c:xX)(D:aC)(hr:oI D rv r):Fn prog 153 #[rv,cV c] D (fun _ v=>v=.bool (sS r.places.length c)):=by
 obtain⟨pv,cv,rfl,hp,hc⟩:=hr;refine Zw 16 func153 rfl fun h0=>aA<|Zy rfl fun q1 E1 U O=>Zy rfl fun q2 E2 V I=>Zf rfl<|aJ<|Zj rfl x3 rfl<|Zh 1 rfl aH rfl I rfl<|Zj rfl fF rfl<|Zh 0 rfl cF rfl O rfl<|eN rfl U35 rfl Yl rfl rfl bRD<|Zd rfl (fun D1 Y=>fA _ _ _ _) ?_;refine Za rfl ?_;refine' bU 4 (s:=11) (p:=15) rfl (fun R=>?_) (fun R=>?_) ?_;rotate_left
 ·refine Zk rfl yM rfl<|Zi 2 rfl aH rfl I rfl<|Ze rfl (fun D2 Z=>fA _ _ _ _)<|Zaj rfl ?_;exact aN 3
 ·refine Wb ?_;exact aN 3
 refine We ?_;exact aE rfl fun D hD=>rfl
theorem xN(sv fv:Γ)(xs:List Int)(p:Int→Bool)(D:aC)(hS:Sl D RI 1 sv xs)(hp:dB prog D iV fv p):
  Fn prog 301 #[sv,fv] D (fun _ v=>v=qI (idxOf p xs)):=by
 have hl:=hS.len;obtain⟨f,c1,c2,rfl,hf⟩:=hp;refine Zw 19 func301 rfl fun h0=>aA<|Zf rfl<|bG<|Za rfl<|eN rfl U35 rfl Yl rfl rfl bRD<|Wd ?_;rintro k ⟨h1,h2⟩;refine aA<|Zam rfl<|bW<|Zaf rfl (fun hc1=>?_) fun hc1=>?_
 ·have hk:k<xs.length:=by omega
  obtain⟨x,hx⟩:=cR xs k;refine aQ<|Za2<|Za0<|aA<|Za rfl<|Zf rfl<|aJ<|Za rfl<|Za rfl<|Za rfl<|eA rfl U35 aI rfl Yl rfl Yd Yl rfl bRD fun Y Z I O V R=>?_;obtain rfl:I=[qI _]:=O;refine Zh 0 rfl aH rfl R rfl<|Zd rfl (fun D1 U=>hf x _ (U _ Yf))<|aF<|Zag rfl (fun hc2=>?_) fun hc2=>?_
  ·refine Wbc ?_;exact aE rfl fun D hD=>Xam
  ·refine Wca ?_;have hpx:p x=false:=hc2;have h3:(xs.take (k+1)).any p=false:=by rw[bLW,hx,bPJ,h2];simp[hpx]
   exact aL 12 (k+1) ⟨Yd,h3⟩ Yd ⟨Ya,bRD⟩ rfl rfl Mm5 (aK)
 ·refine Wk ?_;exact aE rfl fun D hD=>Xah
theorem nN(sv fv:Γ)(xs:List Int)(p:Int→Bool)(D:aC)(hS:Sl D RI 1 sv xs)(hp:dB prog D iV fv p):
  Fn prog 218 #[sv,fv] D (fun _ v=>v=.bool (xs.any p)):=by
 refine Zw 9 func218 rfl fun h0=>Wbw ?_;exact aE rfl fun D hD=>Xai
theorem N0(b:Nat)(fv:Γ)(p:Int→Bool)(x:Int)(D:aC)(hp:dB prog D iV fv p)(hB:At D b 0 [fv]):
  Fn prog 219 #[iV x,qP b] D (fun _ v=>v=.bool (!p x)):=by
 obtain⟨f,c1,c2,rfl,hf⟩:=hp;refine Zw 8 func219 rfl fun h0=>Wam ?_;exact aE rfl fun D hD=>rfl
theorem Y0(sv fv:Γ)(xs:List Int)(p:Int→Bool)(D:aC)(hS:Sl D RI 1 sv xs)(hp:dB prog D iV fv p)(h1:fv.cells=#[fv]):
  Fn prog 154 #[sv,fv] D (fun _ v=>v=.bool (xs.all p)):=by
 refine Zw 9 func154 rfl fun h0=>aA<|sW (vs:=[fv]) rfl rfl h1 rfl bRD fun b O I hB=>Wag ?_;exact aE rfl fun D hD=>Xan
theorem xL(sv fv:Γ)(xs:List xX)(p:xX→Bool)(D:aC)(hS:Sl D RC 3 sv xs)(hp:dB prog D cV fv p):
  Fn prog 302 #[sv,fv] D (fun _ v=>v=qI (idxOf p xs)):=by
 have hl:=hS.len;obtain⟨f,c1,c2,rfl,hf⟩:=hp;refine Zw 19 func302 rfl fun h0=>aA<|Zf rfl<|bG<|Za rfl<|eN rfl U73 rfl Yl rfl rfl bRD<|Wd ?_;rintro k ⟨h1,h2⟩;refine aA<|Zam rfl<|bW<|Zaf rfl (fun hc1=>?_) fun hc1=>?_
 ·have hk:k<xs.length:=by omega
  obtain⟨x,hx⟩:=cR xs k;refine aQ<|Za2<|Za0<|aA<|Za rfl<|Zf rfl<|aJ<|Za rfl<|Za rfl<|Za rfl<|eA rfl U73 kP rfl Yl rfl Yd Yl rfl bRD fun Y Z I O V R=>?_;obtain rfl:I=[.bool _,qI _,qI _]:=O;refine Zv rfl DE rfl R kP<|Zd rfl (fun D1 U=>hf x _ (U _ Yf))<|aF<|Zag rfl (fun hc2=>?_) fun hc2=>?_
  ·refine Wbc ?_;exact aE rfl fun D hD=>Xam
  ·refine Wca ?_;have hpx:p x=false:=hc2;have h3:(xs.take (k+1)).any p=false:=by rw[bLW,hx,bPJ,h2];simp[hpx]
   exact aL 12 (k+1) ⟨Yd,h3⟩ Yd ⟨Ya,bRD⟩ rfl rfl Mm5 (aK)
 ·refine Wk ?_;exact aE rfl fun D hD=>Xah
theorem sE(sv fv:Γ)(xs:List xX)(p:xX→Bool)(D:aC)(hS:Sl D RC 3 sv xs)(hp:dB prog D cV fv p):
  Fn prog 220 #[sv,fv] D (fun _ v=>v=.bool (xs.any p)):=by
 refine Zw 9 func220 rfl fun h0=>aA<|Zf rfl<|aJ<|Za rfl<|Za rfl<|Zd rfl (fun O I=>xL _ _ xs p _ (Sl.at RC.up I Yl Yf) (hp.up (I _ Yf)))<|Ww ?_;exact aE rfl fun D hD=>Xai
theorem FU(b:Nat)(fv:Γ)(p:xX→Bool)(x:xX)(D:aC)(hp:dB prog D cV fv p)(hB:At D b 0 [fv]):
  Fn prog 221 #[cV x,qP b] D (fun _ v=>v=.bool (!p x)):=by
 obtain⟨f,c1,c2,rfl,hf⟩:=hp;refine Zw 8 func221 rfl fun h0=>aA<|Zy rfl fun U E1 R I=>Zf rfl<|aJ<|Zh 0 rfl aWH rfl hB rfl<|Zv rfl DE rfl I kP<|Wv ?_;exact aE rfl fun D hD=>rfl
theorem NT(sv fv:Γ)(xs:List xX)(p:xX→Bool)(D:aC)(hS:Sl D RC 3 sv xs)(hp:dB prog D cV fv p)(h1:fv.cells=#[fv]):
  Fn prog 156 #[sv,fv] D (fun _ v=>v=.bool (xs.all p)):=by
 refine Zw 9 func156 rfl fun h0=>aA<|sW (vs:=[fv]) rfl rfl h1 rfl bRD fun b O I hB=>Zf rfl<|aJ<|Za rfl<|Zax rfl<|Zd rfl (fun O I=>sE _ _ xs (fun x=> !p x) _ (Sl.at RC.up I Yl Yf) ⟨_,[],[qP b],rfl,fun x R hl=>FU b fv p x R (hp.up ((I _ Yf).trans hl)) (hB.up ((I _ Yf).trans hl))⟩)<|Zas rfl<|We ?_;exact aE rfl fun D hD=>Xan
theorem FP(sv:Γ)(x:Int)(xs:List Int)(D:aC)(hS:Sl D RI 1 sv (x::xs)):
  Fn prog 223 #[sv] D (fun _ v=>v=qI (xs.foldl min x)):=by
 have hl:=hS.len;simp only[bLU]at hl;refine Zw 25 func223 rfl fun h0=>aA<|Zf rfl<|bG<|Za rfl<|eN rfl U35 rfl Yl rfl rfl bRD<|Zam rfl<|aF<|Zaf rfl (fun hc1=>?_) fun hc1=>?_
 ·exact absurd hc1 (by simp only[bLU];omega)
 ·refine aQ<|aA<|Za rfl<|eA rfl U35 aI rfl Yl rfl Yd Ybb rfl bRD fun b1 o1 I O Z R=>?_;obtain rfl:I=[qI _]:=O;refine Wae ?_;rintro k h1;refine bZ<|Za rfl<|Za rfl<|eN rfl U35 rfl Yl rfl rfl bRD<|Zam rfl<|aF<|Zaf rfl (fun hc2=>?_) (fun hc2=>?_)
  ·simp only[bLU]at hc2;have hk:k<xs.length:=by omega
   obtain⟨y,hy⟩:=cR xs k;have hE:(x::xs)[(k+1:Int).toNat]?= some y:=by rw[show((k:Int)+1).toNat=k+1 by omega];simpa using hy
   refine aQ<|Za2<|Za0<|aP<|Za rfl<|Za rfl<|Za rfl<|eA rfl U35 aI rfl Yl rfl Yd Yl rfl bRD fun b2 o2 U V hB Y=>?_;obtain rfl:U=[qI _]:=V;refine Zh 0 rfl aH rfl Y rfl<|y7 rfl rfl rfl rfl bRD<|Wt ?_;have h3:(xs.take (k+1)).foldl min x=min ((xs.take k).foldl min x) y:=by rw[bLW,hy,bNM];rfl
   exact Zn 16 (k+1) ⟨(by rw[h3];rfl),Ya,bRD⟩ rfl Mm5
  ·simp only[bLU]at hc2;refine Wl ?_;exact aE rfl fun D hD=>Xce
theorem nF(sv:Γ)(x:Int)(xs:List Int)(D:aC)(hS:Sl D RI 1 sv (x::xs)):
  Fn prog 160 #[sv] D (fun _ v=>v=qI (xs.foldl min x)):=by
 refine Zw 5 func160 rfl fun h0=>War ?_;exact aE rfl fun D hD=>rfl
theorem RM{r:dO}(h:(decide ((9:Int)<r.places.length)||decide ((6:Int)<r.counts.length))=true):aX r=3:=by
 simp only[bMU,LT]at h;unfold aX;rw[bMG Yd]
theorem KL{r:dO}{b:Bool}(h:(decide ((9:Int)<r.places.length)||decide ((6:Int)<r.counts.length))=false)
  (h2:((((decide ((r.places.length:Int)=0)|| !gU r.wrong 0 6)|| !gU r.off 0 9)|| !r.places.all tP)|| !r.counts.all (sS r.places.length))=b):aX r=if b then 1 else 0:=by
 simp only[bNG,bLV]at h;unfold aX;rw[bLX Yd]
 subst h2;by_cases h1:r.places.length=0<;>cases gU r.wrong 0 6<;>cases gU r.off 0 9<;>cases r.places.all tP<;>cases r.counts.all (sS r.places.length)<;>simp[h1]
theorem AQ{r:dO}(h:(decide ((9:Int)<r.places.length)||decide ((6:Int)<r.counts.length))=false)
  (h2:((((decide ((r.places.length:Int)=0)|| !gU r.wrong 0 6)|| !gU r.off 0 9)|| !r.places.all tP)|| !r.counts.all (sS r.places.length))=true):aX r=1:=KL h h2
theorem yU{r:dO}(h:(decide ((9:Int)<r.places.length)||decide ((6:Int)<r.counts.length))=false)
  (h2:((((decide ((r.places.length:Int)=0)|| !gU r.wrong 0 6)|| !gU r.off 0 9)|| !r.places.all tP)|| !r.counts.all (sS r.places.length))=false):aX r=0:=KL h h2
theorem H9{r:dO}{t:List Int}{k:Nat}{x:xX}(hx:r.counts[k]?= some x)(h2:(r.counts.take k).all (fun c=>decide (gS t c≤r.off))=true)(h:¬r.off<gS t x):(r.counts.take (k+1)).all (fun c=>decide (gS t c≤r.off))=true:=by
 rw[bLW,hx,List.all_append,h2];simp;omega
theorem TD{r:dO}{t:List Int}{k:Nat}{x:xX}(hx:r.counts[k]?= some x)(hb:0≤gS t x∧gS t x≤9):
  ((((r.counts.take (k+1)).filter fun c=>decide (0<gS t c)).length:Nat):Int)=((r.counts.take k).filter fun c=>decide (0<gS t c)).length+ [1].foldl min (gS t x):=by
 rw[bLW,hx,bMY,bLT];by_cases h:0<gS t x
 ·simp[h];omega
 ·simp[h];omega
theorem VP{r:dO}{t:List Int}{x:xX}(hx:x∈r.counts)(h:r.off<gS t x):eW r t=false:=by
 unfold eW;rw[bQV];exact⟨x,hx,Yap⟩
theorem JQ{r:dO}{t:List Int}(h:r.counts.all (fun c=>decide (gS t c≤r.off))=true):eW r t=true:=h
theorem BX(rv:Γ)(r:dO)(D:aC)(hr:oI D rv r):Fn prog 92 #[rv] D (fun _ v=>v=qI (aX r)):=by
 obtain⟨pv,cv,rfl,hp,hc⟩:=hr;refine Zw 47 func92 rfl fun h0=>aA<|Zy rfl fun q1 E1 hF I=>Zf rfl<|aJ<|Zv rfl mM rfl I lY<|Zax rfl<|Zf rfl<|bW<|Za0<|aA<|Zj rfl fF rfl ?_;refine Zh 0 rfl cF rfl I rfl<|eN rfl U35 rfl Yl rfl rfl bRD<|Wap ?_;refine' dQ 5 (s:=11) (p:=16) rfl (fun U=>?_) (fun U=>?_) ?_;rotate_left
 ·refine Zk rfl mW rfl<|Zi 1 rfl M8 rfl I rfl<|eN rfl U73 rfl Yl rfl rfl ⟨_,rfl,rfl⟩<|Wy ?_;exact aN 4
 ·refine Wf ?_;exact aN 4
 refine Zf rfl<|aF<|Zag rfl (fun hc1=>?_) fun hc1=>?_
 ·refine Wm ?_;exact aE rfl fun D hD=>by show Value.int _ _=_;rw[RM hc1]
 ·refine aA<|Zj rfl fF rfl<|Zh 0 rfl cF rfl I rfl<|eN rfl U35 rfl Yl rfl rfl bRD<|Was ?_;refine' dQ 5 (s:=22) (p:=27) rfl (fun V=>?_) (fun V=>?_) ?_;rotate_left
  ·refine Zk rfl DY rfl<|Zi 2 rfl aH rfl I rfl<|Ze rfl (fun D1 hH=>fA _ _ _ _)<|Waf ?_;exact aN 4
  ·refine Wf ?_;exact aN 4
  refine Za rfl ?_;refine' dQ 5 (s:=28) (p:=33) rfl (fun Y=>?_) (fun Y=>?_) ?_;rotate_left
  ·refine Zk rfl d9 rfl<|Zi 3 rfl aH rfl I rfl<|Ze rfl (fun R hI=>fA _ _ _ _)<|Waf ?_;exact aN 4
  ·refine Wf ?_;exact aN 4
  refine Za rfl ?_;refine' dQ 5 (s:=34) (p:=39) rfl (fun Z=>?_) (fun Z=>?_) ?_;rotate_left
  ·refine Zk rfl fF rfl<|Zi 0 rfl cF rfl I rfl<|Ze rfl (fun D3 hB=>Y0 _ _ _ tP _ (Sl.at RI.up hB Yl Yf) (.of fun x R=>aRO x R) rfl)<|Waf ?_;exact aN 4
  ·refine Wf ?_;exact aN 4
  refine Za rfl ?_;refine' dQ 6 (s:=40) (p:=46) rfl (fun hE=>?_) (fun hE=>?_) ?_;rotate_left
  ·refine Zk rfl mW rfl<|Zi 1 rfl M8 rfl I rfl<|Zb rfl<|Ze rfl (fun D4 O=>NT _ _ _ (sS r.places.length) _ (Sl.at RC.up O Yl Yf) ⟨_,[_],[],rfl,fun c R hl=>aSD _ r c R ⟨_,_,rfl,hp.up RI.up ((O _ Yf).trans hl),hc.up RC.up ((O _ Yf).trans hl)⟩⟩ rfl)<|Waf ?_;exact aN 5
  ·refine Zg rfl<|Wf ?_;exact aN 5
  refine Zf rfl<|aF<|Zag rfl (fun hc2=>?_) fun hc2=>?_
  ·refine Wm ?_;exact aE rfl fun D hD=>by show Value.int _ _=_;rw[AQ hc1 hc2]
  ·refine bH<|Wz ?_;exact aE rfl fun D hD=>by show Value.int _ _=_;rw[yU hc1 hc2]
theorem aXG(c:List Int)(V:c.length=9)(hb:∀x∈c,0≤x∧x≤1)(D:aC):Fn prog 95 #[.agg (ints c).toArray] D (fun _ v=>v=.agg (ints (nX c)).toArray):=by
 refine Zw 20 func95 rfl fun h0=>aA<|Zy rfl fun Y E1 O I=>Zad rfl aYA rfl fun R=>bG<|Zv rfl kL rfl I Yae<|Za rfl<|aF<|Za0<|fZ (γ:=Nat) (fun k=>9-k) (fun k=>k≤9) (fun k=>[(6,qI (k:Int))]) [(5,_),(2,_)] (fun k=>[(R,qC (ints (sL c k)) 196)]) (fun k=>[E1,D]) 0 Yd ⟨Ya,bRD⟩ bQ Mm5 (aK) ?_;rintro k h1;refine aA<|Zam rfl<|bW<|Zaf rfl (fun hc1=>?_) fun hc1=>?_
 ·have hk:k<9:=by omega
  obtain⟨x,hx⟩:=cR c k;have hx1:=hb x (n5 hx);have hx2:=eY hb 0 k;have U:=VV c k Yd;have hlen:=HK c k;refine aQ<|Za2<|Za0<|aA<|Za rfl<|GV rfl U190 aH aI rfl rfl Yd Yd Yl rfl bRD<|Zf rfl<|Zf rfl<|aF<|aP<|Za rfl<|Zae rfl ?_;refine Za rfl<|cD rfl U196 aI rfl rfl Yd Yd rfl bRD<|bD rfl aH rfl Mm0 (cW Yl) n4 rfl bRD<|Za rfl<|Zae rfl<|cD rfl U196 aI rfl rfl Yd Yd rfl bRD<|d6 rfl aI rfl rfl ζ (by simp only[*];omega) bRD<|Zan<|Za3<|Zay<|aP<|Zae rfl ?_;refine Za rfl<|Zan ?_;rw[←B4 Xat,show((k:Int)+1).toNat=k+1 by omega,RJ];exact Zn 16 (k+1) ⟨Ya,bRD⟩ rfl Mm5
 ·obtain rfl:k=9:=by omega
  rw[OQ];have hlen:=sJ c;refine Za5<|Za1<|Za1<|Za6<|Zay<|aA<|Zac rfl CJ rfl Mm0 Xcf<|bE rfl rfl rfl rfl uE Yb Yb ζ (dS _) bRD<|aG ?_
  exact Zq [_] rfl ⟨⟨_,_,_,rfl,Mm0,bLY ⟨CJ,(by first|exact uE|(simp only[bNA,aM, *];exact uE)),rfl⟩⟩,bRD⟩ fun D hD=>rfl
theorem bHO(rv:Γ)(r:dO)(c:xX)(t:List Int)(D:aC)(hr:oI D rv r)(hok:mD r)(ht:oX r t)(hcm:c∈r.counts):
  Fn prog 222 #[rv,cV c,.agg (ints (nX t)).toArray] D (fun _ v=>v=qI (gS t c)):=by
 obtain⟨pv,cv,rfl,hp,hc⟩:=hr;obtain⟨h1,h2,h3,h4⟩:=hok.cnt c hcm;have h9:=hok.len9;have hab:=CA ht h1 h2 h9;have O:=ZL ht h1 h2;have U:=vK t c.many.toNat Yd;have V:=vK t r.places.length Yd;have Y:=vK t (r.places.length-c.many.toNat) Yd;have Z:(nX t)[(↑r.places.length-c.many).toNat]?= some (dG t 0 (r.places.length-c.many.toNat)):=by rw[show(↑r.places.length-c.many).toNat=r.places.length-c.many.toNat by omega];exact Y
 rw[ht.1]at O;have hE:=eY ht.2 0 r.places.length;have hF:=eY ht.2 0 (r.places.length-c.many.toNat);have hH:=eY ht.2 0 c.many.toNat;refine Zw 37 func222 rfl fun h0=>aA<|Zy rfl fun q1 E1 hI hB=>Zy rfl fun q2 E2 hJ I=>Zy rfl fun q3 E3 hK R=>Zf rfl<|aJ<|Zj rfl x3 rfl<|Zh 1 rfl aH rfl I rfl<|cD rfl U196 aI rfl rfl Yd Yd rfl bRD<|iO rfl aH rfl R Yf (cW U) n4 rfl bRD<|Zf rfl ?_;refine bG<|Zj rfl fF rfl<|Zh 0 rfl cF rfl hB rfl<|eN rfl U35 rfl Yl rfl rfl bRD<|Zf rfl<|aJ<|Zj rfl aHY rfl<|Zh 0 rfl DS rfl I rfl<|aF<|Zag rfl (fun hc1=>?_) fun hc1=>?_
 ·rw[bMG hc1]at O;refine bS [] 5 11 504<|Za rfl<|cD rfl U196 aI rfl rfl Yd Yd rfl bRD<|iO rfl aH rfl R Yf (cW V) n4 rfl bRD<|Za rfl<|Zj rfl x3 rfl<|Zh 1 rfl aH rfl I rfl<|Zau rfl<|cD rfl U196 aI rfl rfl Yd Yd rfl bRD<|iO rfl aH rfl R Yf (cW Z) n4 rfl bRD<|Zau rfl<|Zf rfl ?_;refine aJ<|Za rfl<|Zj rfl yM rfl<|Zh 2 rfl aH rfl I rfl<|Zau rfl<|Zj rfl yM rfl<|Zh 2 rfl aH rfl I rfl<|Za rfl<|Zau rfl<|nZ rfl rfl rfl rfl bRD<|We ?_;exact aE rfl fun D hD=>by show Value.int _ _=_;rw[←O];rfl
 ·rw[bLX (by simp[hc1])]at O;refine aQ<|aA<|Za rfl<|Zj rfl yM rfl<|Zh 2 rfl aH rfl I rfl<|Zau rfl<|Zj rfl yM rfl<|Zh 2 rfl aH rfl I rfl<|Za rfl<|Zau rfl<|nZ rfl rfl rfl rfl bRD<|Zf rfl ?_;refine aG ?_;exact aE rfl fun D hD=>by show Value.int _ _=_;rw[←O];rfl
theorem aJM(rv:Γ)(r:dO)(t:List Int)(D:aC)(hr:oI D rv r)(hok:mD r)(ht:oX r t):
  Fn prog 159 #[rv,.agg (ints (nX t)).toArray] D (fun D' v=>Sl D' RI 1 v (r.counts.map (gS t))):=by
 obtain⟨pv,cv,rfl,hp,hc⟩:=hr;have h6:=hok.cnt6;have hsl:=sJ t;refine Zw 23 func159 rfl fun h0=>aA<|Zy rfl fun q1 E1 hN O=>Zy rfl fun q2 E2 hO U=>Zf rfl<|bG<|Zj rfl mW rfl<|Zh 1 rfl M8 rfl O rfl<|eN rfl U73 rfl Yl rfl rfl bRD<|Za rfl<|aF<|Za0 ?_;refine Zc (Nat×Γ×aD) (fun g=>r.counts.length-g.1) (fun g=>g.1≤r.counts.length∧bM 3 1 g.2.1 g.1 (ints ((r.counts.take g.1).map (gS t))) g.2.2) (fun g=>[(10,qI (g.1:Int)),(4,g.2.1)]) [(9,_),(8,_),(3,_),(2,_)] (fun g=>g.2.2++[]) (fun g=>[E2,E1,D]) (0,qN,[]) ⟨Yf,Xaj⟩ ⟨Ya,Ya,bRD⟩ Mm5 ?_;rintro⟨k,v,ν⟩ ⟨h1,ha⟩;refine aA<|Zam rfl<|bW<|Zaf rfl (fun hc1=>?_) fun hc1=>?_
 ·have hk:k<r.counts.length:=by omega
  obtain⟨x,hx⟩:=cR r.counts k;have hxm:=n5 hx;refine aQ<|Za2<|Za0<|aA<|eA rfl U73 kP rfl Yl rfl Yd Yl rfl bRD fun b1 o1 V Y hJ Z=>?_;obtain rfl:V=[.bool _,qI _,qI _]:=Y;refine Zv rfl DE rfl Z kP<|Zad rfl zX rfl fun q3=>Zz rfl kP ζ<|aF<|aP<|Za rfl<|Zv rfl mM rfl O lY<|Zac rfl DE rfl Mm0 kP<|cU rfl CJ rfl U Yc Xcf n4 rfl bRD<|Zd rfl (fun D1 R=>bHO _ r x t _ ⟨_,_,rfl,hp.up RI.up (R _ Yf),hc.up RC.up (R _ Yf)⟩ hok ht hxm)<|Zt rfl U35 aI cO rfl (.cons rfl rfl .nil) fun hK D901 hB I=>?_
  have hE:=Sl.ofInts (l:=[_]) (n:=1) (cap:=1) I rfl Yd Yd;refine aU (A:=[(_,_)]) (B:=_) rfl U35 rfl rfl aI cO rfl kD rfl rfl rfl ha (lD.lit I) Yf rfl Yap Yk Yd (bMF rfl) rfl bRD fun v1 ν1 hH=>?_;have hI:bM 3 1 v1 (k+1) (ints ((r.counts.take (k+1)).map (gS t))) ν1:=by rw[bLW,hx,bMR,bME,←eV];exact hH
  refine Wan ?_;exact aL 16 (k+1,v1,ν1) ⟨Yn,hI⟩ Yn ⟨Ya,Ya,bRD⟩ rfl rfl (List.Sublist.cons _ Mm5) fun D h=>⟨D,bMJ _ (h),Le.refl D⟩
 ·obtain rfl:k=r.counts.length:=by omega
  rw[bMP]at ha;refine Za5<|Za1<|Za1<|Za6<|Zay<|aA<|Za rfl<|Zf rfl<|aG<|dU (A:=[]) (B:=[]) ha rfl fun D2 hP hF=>?_;exact aE rfl fun D hD=>(hF.ints Yf Yd).up RI.up (hD _ Yf)
theorem UT(rv:Γ)(r:dO)(t:List Int)(D:aC)(hr:oI D rv r)(hok:mD r)(ht:oX r t):
  Fn prog 94 #[rv,.agg (ints (nX t)).toArray] D (fun _ v=>v=.tuple #[qI (if eW r t then(sD r t:Int)else 0),.bool (eW r t)]):=by
 obtain⟨pv,cv,rfl,hp,hc⟩:=hr;have h6:=hok.cnt6;have hsl:=sJ t;refine Zw 27 func94 rfl fun h0=>aA<|Zy rfl fun q1 E1 hF U=>Zy rfl fun q2 E2 hH Y=>Zf rfl<|Zf rfl<|bG<|Zv rfl mM rfl U lY<|cU rfl CJ rfl Y Yc Xcf n4 rfl bRD<|Zaa rfl (fun D1 I=>aJM _ r t _ ⟨_,_,rfl,hp.up RI.up (I _ Yf),hc.up RC.up (I _ Yf)⟩ hok ht) fun v1 D1 I V=>Zah rfl U35 rfl V rfl<|Za rfl ?_;refine aF<|Za0<|bK (γ:=Nat) (fun k=>r.counts.length-k) (fun k=>k≤r.counts.length∧(r.counts.take k).all (fun c=>decide (gS t c≤r.off))=true) (fun k=>[(12,qI (k:Int)),(4,qI (((r.counts.take k).filter fun c=>decide (0<gS t c)).length:Int))]) [(11,_),(10,_),(5,_),(2,_)] (fun k=>[D1,E2,E1,D]) 0 Yf ⟨Ya,Ya,bRD⟩ bQ (aK) ?_;rintro k ⟨h1,h2⟩;refine aA<|Zam rfl<|bW<|Zaf rfl (fun hc1=>?_) fun hc1=>?_
 ·simp only[bNE]at hc1;have hk:k<r.counts.length:=by omega
  obtain⟨x,hx⟩:=cR r.counts k;have hxm:=n5 hx;have hx2:(r.counts.map (gS t))[k]?= some (gS t x):=by rw[bNB,hx];rfl
  have hxb:=SV hok ht hxm;have hlf:=bNF (fun c=>decide (0<gS t c)) (r.counts.take k);have hlt:(r.counts.take k).length≤k:=bOT _ _;refine aQ<|Za2<|Za0<|aA<|jA rfl V rfl hx2 fun b1 o1=>Zf rfl<|bG<|Za rfl<|Zj rfl d9 rfl<|Zh 3 rfl aH rfl U rfl<|Zaq rfl<|aF ?_;refine Zaf rfl (fun hc2=>?_) fun hc2=>?_
  ·refine aA<|Zf rfl<|Wbp ?_;exact Zq [_,_] rfl bQ fun D hD=>by show Value.tuple _=_;rw[VP hxm hc2];rfl
  ·refine aQ<|aP<|Za rfl<|Za rfl<|Zt rfl U35 aI cO rfl (.cons rfl rfl (.cons rfl rfl .nil)) fun hE D901 Z O=>?_;have R:=Sl.ofInts (l:=[_,_]) (n:=2) (cap:=2) O rfl Yd Yd;refine Zd rfl (fun D2 hB=>nF _ (gS t x) [1] _ (R.up RI.up (hB _ Yf)))<|wJ rfl rfl rfl (by simp only[tQ,bMO,List.foldl_nil];omega) rfl bRD<|Wan ?_
   exact aL 18 (k+1) ⟨Yd,H9 hx h2 hc2⟩ Yd ⟨Ya,(by rw[TD hx hxb];rfl),bRD⟩ rfl rfl Mm5 fun D h=>⟨D,bMJ _ (h),Le.refl D⟩
 ·simp only[bNE]at hc1;obtain rfl:k=r.counts.length:=by omega
  rw[bMP]at h2;refine Za5<|Za1<|Za1<|Za6<|Zay<|aA<|Za rfl<|Zf rfl<|We ?_;exact Zq [_,_] rfl bQ fun D hD=>by show Value.tuple _=_;rw[JQ h2,bMP];rfl
theorem a8(t:List Int)(D:aC)(h:t.length≤9)(hb:∀x∈t,0≤x∧x≤1):Fn prog 95 #[.agg (ints (gK t)).toArray] D (fun _ v=>v=.agg (ints (nX t)).toArray):=
 (aXG (gK t) (iM h) (aAI hb) D).mono fun _ v _ hv=>by rw[hv,XZ]
end L1
namespace L12
def fW(code:Int):Γ:=.iface 347 (.agg #[qI code])
theorem aKY(sv:Γ)(xs:List Bool)(b:Bool)(D:aC)(hS:Sl D RB 1 sv xs):Fn prog 329 #[sv,.bool b] D (fun _ v=>v=qI (idxOf (fun x=>b==x) xs)):=by
 have hl:=hS.len;refine Zw 19 func329 rfl fun h0=>aA<|Zf rfl<|bG<|Za rfl<|eN rfl U397 rfl Yl rfl rfl bRD<|Za rfl<|aF<|Za0<|bK (γ:=Nat) (fun k=>xs.length-k) (fun k=>k≤xs.length∧(xs.take k).any (fun x=>b==x)=false) (fun k=>[(8,qI k)]) [(7,_),(4,_),(0,_),(1,_)] (fun k=>[D]) 0 Yf ⟨Ya,bRD⟩ bQ (aK) ?_;rintro k ⟨h1,h2⟩;refine aA<|Zam rfl<|bW<|Zaf rfl (fun hc1=>?_) fun hc1=>?_
 ·have hk:k<xs.length:=by omega
  obtain⟨x,hx⟩:=cR xs k;refine aQ<|Za2<|Za0<|aA<|Za rfl<|Zf rfl<|aJ<|Za rfl<|Za rfl<|Za rfl<|eA rfl U397 mI rfl Yl rfl Yd Yl rfl bRD fun V Y I O U R=>?_;obtain rfl:I=[.bool _]:=O;refine Zh 0 rfl DS rfl R rfl<|bFA rfl U4 rfl rfl rfl bRD<|aF<|Zag rfl (fun hc2=>?_) fun hc2=>?_
  ·refine Wbc ?_;exact aE rfl fun D hD=>Xbl
  ·refine Wca ?_;have h3:(xs.take (k+1)).any (fun x=>b==x)=false:=by rw[bLW,hx,bPJ,h2];simpa using hc2
   exact aL 12 (k+1) ⟨Yd,h3⟩ Yd ⟨Ya,bRD⟩ rfl rfl Mm5 (aK)
 ·refine Wk ?_;exact aE rfl fun D hD=>Xbm
theorem MW(sv:Γ)(xs:List Bool)(b:Bool)(D:aC)(hS:Sl D RB 1 sv xs):Fn prog 284 #[sv,.bool b] D (fun _ v=>v=.bool (xs.any fun x=>b==x)):=by
 refine Zw 9 func284 rfl fun h0=>aA<|Zf rfl<|aJ<|Za rfl<|Za rfl<|Zd rfl (fun O I=>aKY _ xs b _ (Sl.at RB.up I Yl Yf))<|Ww ?_;exact aE rfl fun D hD=>Xbn
theorem gG(code:Int)(cs:List Bool)(sv:Γ)(D:aC)(hS:Sl D RB 1 sv cs):kF prog 206 [qI code,sv] D [] (fun _ _ ν'=>cs.any (fun x=>true==x)=false∧ν'=[]) (fun v=>cs.any (fun x=>true==x)=true∧v=fW code):=by
 refine eK 9 func206 rfl rfl rfl rfl fun h0 hwl hwn=>aA<|Za rfl<|Zd rfl (fun O I=>MW _ cs true _ (hS.up RB.up (I _ Yf)))<|aF<|Zag rfl (fun hc1=>?_) fun hc1=>?_
 ·refine aP<|Za rfl<|Zu [qI code] rfl aYJ aCJ rfl<|bJI rfl U347 rfl rfl bRD ?_;exact bDD rfl rfl bRD (cX rfl ⟨hc1,rfl⟩)
 ·refine bH ?_;exact eG rfl fun D' hD=>⟨hc1,rfl⟩
end L12
namespace L1
open C1
def iY(br bY bc bh:Nat)(c:List Int):aD:=[(bh,qC [.func (.func 158) #[] #[qP br,qP bY,qP bc,qP bh]] 201),(bc,qC (ints c) 190)]
theorem vX{c pre:List Int}{i:Nat}{k:Int}(h:c.take (i+1)=pre++[k])(hl:pre.length=i):c.take i=pre:=by
 have:=bLZ (List.take i) h;rw[List.take_take,bPH (Nat.le_succ i)]at this;rw[this,bNH Yd,bMV Yd]
def MT(x:List Int):List Γ:=[.agg (ints x).toArray]
def aFP(P:Program)(Dr:aC)(lo l:Nat)(J Jx:List (List Int)→vZ)(xs:List (List Int)):Prop:=∀pre x β D w,(∃r,xs=pre++x::r)→I4 lo D w→J pre β D w→(∀b∈β,b<w.heap.size)→Le Dr D→
    jG P l (MT x) w fun b D' w'=>I4 lo D' w'∧M7 β D w D' w'∧(if b then J (pre++[x]) β D' w' else Jx (pre++[x]) β D' w')
def d5(J Jx:List (List Int)→vZ)(br bY bc bh:Nat)(places:List Int)(pre:List Int)(i:Nat)(done:List (List Int))(v:Γ)(J':vZ)(μ':aD):Prop:=
 ∃b c',v=.bool b∧c'.length=9∧c'.take i=pre∧c'.drop places.length=List.replicate (9-places.length) 0∧μ'=iY br bY bc bh c'∧(if b=true then J'=J (done++(cE (places.drop i)).map fun t=>gK (pre++t))else ∃p,J'=Jx p)
theorem zJ{lo l:Nat}{J Jx:List (List Int)→vZ}{places:List Int}{xs:List (List Int)}{Dr Dy:aC}{Ds:List aC}{br bY bc bh:Nat}{pv cv:Γ}{w1 w2:Int}(V:places.length≤9)
  (hs:∀pre,V6 lo (J pre)) (hsx:∀pre,V6 lo (Jx pre)) (hY:aFP prog Dr lo l J Jx xs) (hDr:Dr∈Ds) (hDy:Dy∈Ds) (hA:At Dr br 0 [pv,cv,qI w1,qI w2]) (hpl:Sl Dr RI 1 pv places) (hB:At Dy bY 0 [.func (.yield l) #[] #[]]):
  ∀(j i:Nat) (pre c:List Int) (done rest:List (List Int)) (iv:Int),iv=i→i+j=places.length→pre.length=i→c.length=9→c.take i=pre→c.drop places.length=List.replicate (9-places.length) 0→
   xs=done++(cE (places.drop i)).map (fun t=>gK (pre++t))++rest→
   bJB prog 158 [qI iv,qP br,qP bY,qP bc,qP bh] lo (J done) (iY br bY bc bh c) Ds (d5 J Jx br bY bc bh places pre i done):=by
 intro j;induction j using Nat.strongRecOn with
 |_ j ih=>
 intro i pre c done rest iv hiv hij hl Y hp hz hxs;subst hiv;have hmx:=hpl.len;refine U6 (μ:=iY br bY bc bh c) 41 func158 rfl rfl rfl rfl<|aA<|Zf rfl<|bG<|Za rfl<|Zj rfl fF rfl<|Zh 0 rfl cF rfl hA rfl<|eN rfl U35 rfl Yl rfl rfl bRD<|Zap rfl<|aF<|Zaf rfl (fun hc1=>?_) fun hc1=>?_
 ·have hin:i=places.length:=by omega
  subst hin;have hleaf:=(TY Y hp hl hz).symm;rw[bQP]at hxs;simp only[cE,bMT,bQB,bMM]at hxs;rw[hleaf,bMC,bPI]at hxs;refine aA<|Zh 0 rfl bDG rfl hB rfl<|bI rfl kL rfl Mm1 Yae n4 rfl bRD<|TI (l:=l) (J1:=J (done++[c])) (J0:=Jx (done++[c])) rfl rfl rfl rfl (hs _) (hsx _) (fun D w hd hJ hb hl=>hY done c _ D w ⟨rest,hxs⟩ hd hJ (fun b hbm=>by obtain⟨p,hp,rfl⟩:=GE.1 hbm;exact hb p hp) (hl _ hDr)) rfl bRD fun Z J1 hE=>Wi ?_
  exact mQ (P:=prog) (fn:=f158) (N:=41) (vs:=[_]) rfl rfl ⟨rfl,bRD⟩ (fun D h=>⟨D,h,Le.refl D⟩) ⟨Z,c,rfl,Y,hp,hz,rfl,by cases Z<;>simp only[hE,bOC,bNN,bOO];exact⟨_,rfl⟩;simp[cE,hleaf]⟩
 ·have hin:i<places.length:=by omega
  obtain⟨p,hpi⟩:=cR places i;have hd:places.drop i=p::places.drop (i+1):=by rw[bNC hin];congr 1;exact bMQ ((bLR hin).symm.trans hpi)
  rw[hd,←aDR]at hxs;refine aQ<|bZ<|Za rfl<|aF<|Za0<|CZ (γ:=Nat×List Int) (fun g=>2-g.1) (fun g=>g.1≤2∧g.2.length=9∧g.2.take i=pre∧g.2.drop places.length=List.replicate (9-places.length) 0) (fun g=>J (done++UZ p (places.drop (i+1)) pre g.1)) (fun g=>[(17,qI (g.1:Int))]) [(6,_),(0,_),(1,_),(3,_),(4,_)] (fun g=>iY br bY bc bh g.2) (fun g=>Ds) (0,c) ⟨Yf,Y,hp,hz⟩ (by simp[aVK]) ⟨Ya,bRD⟩ bQ Mm5 (aK) ?_;rintro⟨k,c1⟩ ⟨hH,I,O,R⟩;refine aA<|Zam rfl<|bW<|Zaf rfl (fun hc2=>?_) fun hc2=>?_
  ·refine aQ<|Za2<|Za0<|aA<|Za rfl<|Zf rfl<|aJ<|Zj rfl fF rfl<|Zh 0 rfl cF rfl hA rfl<|Za rfl<|jA rfl hpl rfl hpi fun Z o1=>Zf rfl ?_;refine aJ<|Za rfl<|Was ?_;refine' dQ 4 (s:=27) (p:=31) rfl (fun hF=>?_) (fun hF=>?_) ?_;rotate_left
   ·refine Zb rfl<|Zb rfl<|Wbi ?_;exact aN 3
   ·refine Wbo ?_;exact aN 3
   refine aF<|Zag rfl (fun hc3=>?_) fun hc3=>?_
   ·have hpk:p=2∨p=(k:Int):=by simpa using hc3
    obtain⟨rr,hr⟩:=aOP (p:=p) (ps:=places.drop (i+1)) (pre:=pre) (k:=k) Yd;have hset:=XQ (k:=(k:Int)) I hin V O R;refine aA<|Za rfl<|Za rfl<|cD rfl U190 aI rfl rfl Yd Yd rfl bRD<|d6 rfl aI rfl rfl (.tail ζ) (by simp only[*];omega) bRD<|aJ<|Zo rfl qF rfl Mm0 rfl<|Za rfl<|Zae rfl<|wX rfl rfl rfl rfl (ih (j-1) Yd (i+1) (pre++[(k:Int)]) (c1.set i k) (done++UZ p (places.drop (i+1)) pre k) (rr++rest) (i+1:Int) Yd Yd Yap hset.1 hset.2.1 hset.2.2 (by rw[hxs,hr,aDG hpk];simp)) rfl bRD ?_
    rintro _ J2 _ ⟨b2,c2,rfl,h9',hp',hz',rfl,hJ2⟩;refine Zas rfl<|aF<|Zag rfl (fun U=>?_) fun U=>?_
    ·obtain rfl:b2=false:=by simpa using U
     refine aA<|Wh ?_;exact mQ (P:=prog) (fn:=f158) (N:=41) (vs:=[_]) rfl rfl ⟨rfl,bRD⟩ (fun D h=>⟨D,h,Le.refl D⟩) ⟨false,c2,rfl,h9',vX hp' hl,hz',rfl,by simpa using hJ2⟩
    ·obtain rfl:b2=true:=by simpa using U
     refine Wca ?_;exact uY 24 (k+1,c2) ⟨Yn,h9',vX hp' hl,hz'⟩ Yn (by simpa only[bOC,aDG hpk,bMC]using hJ2) ⟨Ya,bRD⟩ rfl rfl Mm5 (aK)
   ·have hpk:¬(p=2∨p=(k:Int)):=by simpa using hc3
    refine Wca ?_;exact uY 16 (k+1,c1) ⟨Yn,I,O,R⟩ Yn (by rw[bGO hpk]) ⟨Ya,bRD⟩ rfl rfl Mm5 (aK)
  ·refine Wk ?_;exact mQ (P:=prog) (fn:=f158) (N:=41) (vs:=[_]) rfl rfl ⟨rfl,bRD⟩ (fun D h=>⟨D,h,Le.refl D⟩) ⟨true,c1,rfl,I,O,R,rfl,by simp only[bOC];rw[hd,←aDR,show k=2 by omega]⟩
theorem aPI(places:List Int)(Dr:aC)(br:Nat)(pv cv:Γ)(O R:Int)(U:places.length≤9)(hA:At Dr br 0 [pv,cv,qI O,qI R])(hpl:Sl Dr RI 1 pv places):
  u9 prog 157 [qP br] Dr ((cE places).map gK) MT:=by
 refine JO 8 func157 rfl rfl rfl rfl fun lo l J Jx hs hsx hY=>aA<|Zy rfl fun Y E1 V I=>aJ<|Zad rfl uH rfl fun Z=>aJ<|Zad rfl DO rfl fun q3=>aJ<|Zax rfl<|Zr rfl CE ζ rfl<|aF<|aP ?_;refine Zo rfl qF rfl Mm0 rfl<|wX rfl rfl rfl rfl (zJ (l:=l) Yd hs hsx hY Yf Yf hA hpl I places.length 0 [] (List.replicate 9 0) [] [] 0 rfl Yd rfl rfl rfl (List.drop_replicate ..) Yf) rfl bRD ?_;rintro _ J2 _ ⟨b2,c2,rfl,h9',hp',hz',rfl,hJ2⟩;refine Zan ?_;exact mQ (P:=prog) (fn:=f157) (N:=8) (vs:=[]) rfl rfl bRD (fun D h=>⟨D,Xbo,Le.refl D⟩) Ybf
theorem aCS(rv:Γ)(r:dO)(D:aC)(hr:oI D rv r)(I:r.places.length≤9):
  Fn prog 93 #[rv] D (fun D' v=>∃br,v=.func (.func 157) #[] #[qP br]∧u9 prog 157 [qP br] D' ((cE r.places).map gK) MT):=by
 obtain⟨pv,cv,rfl,hp,hc⟩:=hr;refine Zw 4 func93 rfl fun h0=>aA<|Zy rfl fun R E1 U O=>Zf rfl<|aJ<|Zax rfl<|We ?_;exact aE rfl fun D hD=>⟨_,rfl,aPI r.places _ R pv cv r.wrong r.off I (O.up (hD _ Yf)) (hp.up RI.up (hD _ Yf))⟩
theorem QJ{c:List Int}{i j:Int}(h0:0≤i)(h1:i≤j):dG c 0 (j+1).toNat-dG c 0 i.toNat=jQ c i.toNat j.toNat:=by
 unfold jQ;have h:=S6 c 0 i.toNat (j.toNat+1-i.toNat);rw[show i.toNat+(j.toNat+1-i.toNat)=(j+1).toNat by omega,bOM]at h;omega
theorem aNF{r:dO}{t:List Int}(h:(eW r t&&decide ((if eW r t=true then(sD r t:Int)else 0)≤r.wrong))=true):fits r t=true:=by
 unfold fits;cases he:eW r t<;>simp[he]at h ⊢;exact h
theorem bBV{r:dO}{t:List Int}(h:(eW r t&&decide ((if eW r t=true then(sD r t:Int)else 0)≤r.wrong))=false):fits r t=false:=by
 unfold fits;cases he:eW r t<;>simp[he]at h ⊢;exact h
theorem aWU{r:dO}(h:mD r)(k:Nat):(((cE r.places).take k).filter (fits r)).length≤512:=by
 have h1:=bNF (fits r) ((cE r.places).take k);have h2:=sO r.places;have h3:2^r.places.length≤2^9:=bNQ Yd h.len9;have h4:((cE r.places).take k).length≤(cE r.places).length:=by rw[bNT];omega
 omega
theorem aXV{r:dO}(h:mD r)(k:Nat):∀t∈((cE r.places).take k).filter (fits r),t.length≤9:=fun t ht=>by
 have:=(qL (bQK (bOZ.1 ht).1)).1;have:=h.len9;omega
theorem HU{r:dO}(h:mD r):(truths r).length≤512:=by
 have h1:=bNF (fits r) (cE r.places);have h2:=sO r.places;have h3:2^r.places.length≤2^9:=bNQ Yd h.len9;show((cE r.places).filter (fits r)).length≤512;omega
theorem PR(rv:Γ)(r:dO)(i j:Int)(D:aC)(hr:oI D rv r):Fn prog 75 #[rv,qI i,qI j] D (fun _ v=>v=.bool (qM r i j)):=by
 obtain⟨pv,cv,rfl,hp,hc⟩:=hr;have hl:=hp.len;refine Zw 22 func75 rfl fun h0=>aA<|Zy rfl fun Y E1 R I=>Zf rfl<|aJ<|Za rfl<|Zj rfl fF rfl<|Zh 0 rfl cF rfl I rfl<|eN rfl U35 rfl Yl rfl rfl bRD<|Zau rfl<|Zd rfl (fun Z U=>fA _ _ _ _)<|Za rfl ?_;refine' bU 8 (s:=13) (p:=21) rfl (fun O=>?_) (fun O=>?_) ?_;rotate_left
 ·refine Zb rfl<|Zb rfl<|Zk rfl fF rfl<|Zi 0 rfl cF rfl I rfl<|eN rfl U35 rfl Yl rfl rfl ⟨_,rfl,rfl⟩<|xF rfl rfl rfl Ye rfl ⟨_,rfl,rfl⟩<|Ze rfl (fun D2 V=>fA _ _ _ _)<|Zaj rfl ?_;exact aN 7
 ·refine Zg rfl<|Wo ?_;exact aN 7
 refine We ?_;exact aE rfl fun D hD=>rfl
theorem bEJ(c:List Int)(i j:Int)(D:aC)(O:0≤i)(hij:i≤j)(V:j<9)(hb:∀x∈c,0≤x∧x≤1):Fn prog 144 #[.agg (ints (nX c)).toArray,qI i,qI j] D (fun _ v=>v=qI (jQ c i.toNat j.toNat)):=by
 have hsl:=sJ c;have R:=vK c (j+1).toNat Yd;have U:=vK c i.toNat Yd;have Y:=eY hb 0 (j+1).toNat;have Z:=eY hb 0 i.toNat;refine Zw 15 func144 rfl fun h0=>aA<|Zy rfl fun q1 E1 hB I=>Zf rfl<|bW<|bS [] 4 9 112<|Za rfl<|Zae rfl<|cD rfl U196 aI rfl rfl Yd Yd rfl bRD<|iO rfl aH rfl I Yf (cW R) n4 rfl bRD<|Za rfl<|cD rfl U196 aI rfl rfl Yd Yd rfl bRD ?_;refine iO rfl aH rfl I Yf (cW U) n4 rfl bRD<|Zau rfl<|We ?_;exact aE rfl fun D hD=>by show Value.int _ _=_;rw[QJ O hij]
theorem vF(lo hi n:Int)(D:aC):Fn prog 145 #[.agg #[qI lo,qI hi],qI n] D (fun _ v=>v=.agg #[qI (min lo n),qI (max hi n)]):=by
 refine Zw 15 func145 rfl fun h0=>aA<|Zy rfl fun q1 E1 Z R=>Zad rfl pF rfl fun q2=>bW<|iK [] 4 [0,1,2,5,6,7,8,3,4,9,10] [false,false,true,true,true,true,true,true,true,false,false] [(false,0),(false,1),(true,2),(true,5),(true,6),(true,7),(true,8),(true,3),(true,4),(false,9),(false,10)] bB (fun _ _ _ h=>fM (P:=prog) (fn:=f145) _ _ _ h) Yg rfl<|Zj rfl QR rfl<|Zh 0 rfl aH rfl R rfl<|Za rfl<|Zj rfl TG rfl<|Zh 1 rfl aH rfl R rfl<|Za rfl ?_;refine nZ rfl rfl rfl rfl bRD<|Zt rfl U35 aI cO rfl (.cons rfl rfl (.cons rfl rfl .nil)) fun Y D901 U I=>?_;have O:=Sl.ofInts (l:=[_,_]) (n:=2) (cap:=2) I rfl Yd Yd;refine Zd rfl (fun D1 V=>nF _ lo [n] _ (O.up RI.up (V _ Yf)))<|Zu [qI (min lo n),qI (max hi n)] rfl W9 pF rfl<|Zz rfl iE ζ<|aG ?_;exact Zq [_] rfl ⟨⟨_,_,_,rfl,Mm0,Or.inr ⟨vV,Xbp,rfl⟩⟩,bRD⟩ fun D hD=>rfl
theorem yA(rv:Γ)(r:dO)(fine:Bool)(D:aC)(hr:oI D rv r):Fn prog 74 #[rv,.bool fine] D (fun D' v=>∃wv,v=.tuple #[wv,qI (eE r fine)]∧(eE r fine=0→mD r∧aNQ D' wv r)):=by
 have O:=hr;obtain⟨pv,cv,rfl,hp,hc⟩:=hr;refine PL 55 func74 rfl rfl rfl rfl fun h0=>aA<|Zy rfl fun q1 E1 hR I=>Zf rfl<|Zf rfl<|bG<|Zv rfl mM rfl I lY<|Zd rfl (fun D1 hB=>BX _ r _ (O.up (hB _ Yf)))<|Wbg ?_;refine aF<|Zaf rfl (fun hc1=>?_) fun hc1=>?_
 ·refine Wax ?_;exact wZ (vs:=[_,_]) rfl rfl rfl bQ fun D hD=>⟨_,by rw[eE,bMG hc1];rfl,fun h=>by rw[eE,bMG hc1]at h;exact absurd h hc1⟩
 ·have hok:mD r:=AG.1 Yd;refine aQ<|bZ<|Za rfl<|Zas rfl<|aF<|Zag rfl (fun hc2=>?_) (fun hc2=>?_)
  ·refine aA<|Zf rfl<|Wi ?_;exact wZ (vs:=[_,_]) rfl rfl rfl bQ fun D hD=>⟨_,by rw[eE,bLX hc1,bMG Yat];rfl,fun h=>by rw[eE,bLX hc1,bMG Yat]at h;omega⟩
  ·refine aQ<|aA<|Zv rfl mM rfl I lY<|Zu [pv,cv,qI r.wrong,qI r.off,qN] rfl bEC bBH rfl<|FS rfl (e:=170) rfl rfl rfl bRD fun q2=>Zad rfl aWG rfl fun q3=>Zr rfl bAM ζ rfl<|bG<|Zv rfl mM rfl I lY<|Zaa rfl (fun D2 V=>aCS _ r _ (O.up (V _ Yf)) hok.len9) fun v2 D2 V hE=>aF<|Za0 ?_;obtain⟨br,rfl,hit⟩:=hE;refine wB (γ:=Γ×aD) (xs:=(cE r.places).map gK) (enc:=MT) (Dr:=D2) (V1 190 r) (fun _ _ _=>False) (fun g=>[(q3,qC [qP q2] 163),(q2,qC [pv,cv,qI r.wrong,qI r.off,g.1] 170)]++g.2) (qN,[]) rfl rfl rfl rfl hit Yf (fun _=>rfl) rfl (by simpa [V1]using bM.nil) rfl ?_ ?_ (fun _ _ _ _ h=>h.elim)
   ·rintro pre x ⟨v,ν⟩ ⟨us,hx⟩ hΦ l bd rec hh D7 hS hst hpend;obtain⟨t,hk,rfl,htm,htake⟩:=Q6 hx;obtain⟨hlen,htb⟩:=qL htm;have htr:oX r t:=⟨hlen,htb⟩
    have Y:=iM (t:=t) Xba;refine aP<|Zad rfl uH rfl fun q4=>Zz rfl eH ζ<|Zan ?_;refine fun a w hhh=>O7 (A:=[(_,_),(_,_),(_,_)]++ν) (B:=[(bd,.deferred (some []))]) (r:=rec) (l:=l) Ybb hst ?_ a w hhh
    refine pW fun hnd=>?_;simp only[bMT,bME,bNP,bMB,bOF,bMW,bLO,bMD,bQX]at hnd;have hX:=hnd.1.2.2.1;have hY:=hnd.2.1.2.1;have hq2:=hnd.2.2.1.1;refine Za0<|Za2<|uG [] 4 9 198 (fun _ _ _ h=>h)<|Zv rfl mM rfl I lY<|bI rfl kL rfl Mm0 Yae n4 rfl bRD<|Zd rfl (fun D3 rA=>a8 t _ Xba htb)<|Zd rfl (fun D4 hF=>UT _ r t _ (O.up (hF _ Yf)) hok htr)<|Za rfl<|Zao rfl<|Zao rfl<|Zf rfl<|Zf rfl ?_;refine aJ<|Waw ?_;refine' bU 5 (s:=32) (p:=37) rfl (fun hH=>?_) (fun hH=>?_) ?_;rotate_left
    ·refine Zb rfl<|Zk rfl DY rfl<|Zi 2 rfl aH rfl I rfl<|Wj ?_;exact aN 4
    ·refine Zg rfl<|Wb ?_;exact aN 4
    refine aF<|Zag rfl (fun hc3=>?_) fun hc3=>?_
    ·have hfit:=aNF hc3;refine uG (ν.map (·.1)) 2 11 254 (fun _ _ _ h=>h)<|bD rfl CL rfl Mm1 rfl Ym rfl bRD<|bD rfl CL rfl Mm1 rfl Ym rfl bRD<|Zal rfl<|Zj rfl rK rfl<|bD rfl O9 rfl Mm2 rfl Ym rfl bRD<|bI rfl kL rfl Mm0 Yae Ym rfl bRD<|Zt rfl U168 eH uH rfl (.cons rfl (by simpa using Y) .nil) (fun hP D901 hI R=>aU (A:=[(_,_),(_,_),(_,_)]) (B:=[(l,_),(bd,_)]) rfl U168 rfl rfl eH uH rfl bDE rfl rfl rfl hΦ (lD.lit R) Yf (by simp[Y]) (SX (aXV hok pre.length)) Xbb (by have:=aWU hok pre.length;omega) (bLY fun p hp=>GE.2 ⟨p,hp,rfl⟩) rfl bRD fun v1 ν1 U=>?_)
     have hJ:V1 190 r (pre++[gK t]) (v1,ν1):=by unfold V1;rw[htake,bMY,bOA,bMG hfit,List.filter_nil,bMZ,bOE];simpa using U
     simp only[bOF,bMW];refine Zal rfl<|Zj rfl rK rfl<|cY rfl rfl rfl U.cells1 aFK (.tail (.tail ζ)) Yf rfl U.cell1 bRD<|Zan<|Za3 ?_;exact fun a w hh=>jH (A:=[(_,_),(_,_)]++ν1) (B:=[(bd,.deferred (some []))]) (v1,ν1) hJ rfl rfl a w (hh.dropBoxes 1)
    ·have hfit:=bBV hc3;have hK:V1 190 r (pre++[gK t]) (v,ν):=by unfold V1;rw[htake,bMY,bOA,bLX (by simp[hfit]),List.filter_nil,bMM];exact hΦ
     refine bH<|Za3 ?_;exact fun a w hh=>jH (A:=[(_,_),(_,_)]++ν) (B:=[(bd,.deferred (some []))]) (v,ν) hK rfl rfl a w (hh.dropBoxes 1)
   ·rintro⟨v,ν⟩ bd hΦ;have hΦ':bM 190 9 v (truths r).length ((truths r).flatMap fun t=>ints (gK t)) ν:=by simpa [V1,truths]using hΦ
    have hall:∀t∈truths r,t.length≤9:=fun t ht=>by have:=(qL (bOZ.1 ht).1).1;have:=hok.len9;omega
    have hll:=HU hok;refine Za3<|Zay<|bZ<|Zo rfl CL rfl Mm0 rfl<|Zal rfl<|Zj rfl rK rfl<|Zo rfl O9 rfl Mm1 rfl<|cG rfl U168 rfl hΦ' rfl rfl bRD<|Zap rfl<|aF<|Zaf rfl (fun Z=>?_) fun Z=>?_
    ·have htn:truths r=[]:=bPD.1 Yd;have hask:eE r fine=11:=by rw[eE,bLX hc1,bLX Yat,bMG htn]
     refine aA<|Zf rfl<|Wi ?_;exact E9 (vs:=[_,_]) (A:=[(_,_),(_,_)]++ν) rfl rfl rfl bQ fun D hD=>⟨_,by rw[hask];rfl,fun h=>by rw[hask]at h;omega⟩
    ·have htn:truths r≠[]:=fun e=>Z Xaf
     have hask:eE r fine=0:=by rw[eE,bLX hc1,bLX Yat,bLX htn]
     refine aQ<|aA<|Zo rfl CL rfl Mm0 rfl<|Zf rfl<|Zf rfl<|aG<|dU (A:=[(_,_),(_,_)]) (B:=[(bd,.deferred (some []))]) hΦ' rfl fun D8 rB hN=>dU (A:=[(_,_)]) (ν:=[(q2,_)]) (B:=[(bd,.deferred (some []))]) (bBC (sz:=5) rfl) rfl fun D9 hD9 hO=>?_;exact E9 (vs:=[_,_]) (A:=[(_,_)]) rfl rfl rfl bQ fun D hD=>⟨_,by rw[hask];rfl,fun _=>⟨hok,q2,pv,cv,v,rfl,(hO.at Yd).up (hD _ Yf),hp.up RI.up (hD _ Yf),hc.up RC.up (hD _ Yf),(hN.truths rfl Yd hall).up RT.up (hD _ Yf)⟩⟩
theorem aEL{ts:List (List Int)}{q:List Int→Bool}{t0 t:List Int}{j:Nat}(hj:ts[j]?= some t)(h:(ts.take j).all (fun t=>q t==q t0)=true)(hc:(!(q t==q t0))=false):(ts.take (j+1)).all (fun t=>q t==q t0)=true:=by
 rw[bLW,hj,List.all_append,h];simpa using hc
theorem TT{r:dO}{f:Bool}(h:eE r f=0):truths r≠[]:=by
 unfold eE at h;split at h;omega;split at h;omega;split at h;omega;assumption
theorem l4{r:dO}{f:Bool}(h:eE r f=0):f=true:=by
 unfold eE at h;split at h;omega;split at h;omega;rename_i hf;simpa using hf
theorem aNU{r:dO}{i j:Int}(hok:mD r)(h:eE r (qM r i j)=0):0≤i∧i≤j∧j<9:=by
 have:=l4 h;simp only[qM,bLQ,bN]at this;have:=hok.len9;omega
theorem U7{r:dO}(hok:mD r):∀t∈truths r,t.length≤9∧∀x∈t,0≤x∧x≤1:=fun t ht=>⟨by have:=(uT ht).1;have:=hok.len9;omega,(uT ht).2⟩
theorem vC{α:Type}{ts:List α}{k:Nat}{t:α}{f:α→Int}{a:Int}(h:ts[k]?= some t):((ts.take (k+1)).map f).foldl min a=min (((ts.take k).map f).foldl min a) (f t):=by
 rw[bLW,h,bMR,bME,bNM];rfl
theorem vW{α:Type}{ts:List α}{k:Nat}{t:α}{f:α→Int}{a:Int}(h:ts[k]?= some t):((ts.take (k+1)).map f).foldl max a=max (((ts.take k).map f).foldl max a) (f t):=by
 rw[bLW,h,bMR,bME,bNM];rfl
theorem aKN(sv:Γ)(ts:List (List Int))(i j:Int)(D:aC)(hS:Sl D RT 9 sv ts)(hne:ts≠[])(hall:∀t∈ts,t.length≤9∧∀x∈t,0≤x∧x≤1)(I:0≤i)(hij:i≤j)(O:j<9):
  Fn prog 76 #[sv,qI i,qI j] D (fun _ v=>v=.agg #[qI (EB ts i.toNat j.toNat),qI (DR ts i.toNat j.toNat)]):=by
 have hl:=hS.len;obtain⟨t0,ht0⟩:∃t,ts[0]?= some t:=⟨ts[0]'(bPC.2 hne),bLR _⟩
 have ht0m:=n5 ht0;have hI:=MV (hall t0 ht0m).2 i.toNat j.toNat Yd;have hE:=iM (hall t0 ht0m).1;refine Zw 36 func76 rfl fun h0=>aA<|Zad rfl pF rfl fun q1=>aJ<|Za rfl<|Zx rfl U168 eH rfl hS rfl ht0 fun b1 o1 R U hF V=>?_;obtain rfl:R=ints (gK _):=U;refine cU rfl kL rfl V Yc Xak n4 rfl bRD<|Zd rfl (fun D1 hJ=>a8 t0 _ (hall _ ht0m).1 (hall _ ht0m).2)<|Za rfl<|Za rfl<|Zd rfl (fun D2 hK=>bEJ t0 i j _ I hij O (hall _ ht0m).2)<|Zf rfl<|aJ<|Za rfl<|Za rfl<|Zu [qI (jQ t0 i.toNat j.toNat),qI (jQ t0 i.toNat j.toNat)] rfl W9 pF rfl<|Zad rfl pF rfl fun q2=>Zz rfl iE ζ ?_;refine bG<|Za rfl<|eN rfl U168 rfl Yl rfl rfl bRD<|Za rfl<|aF<|Za0<|fZ (γ:=Nat) (fun k=>ts.length-k) (fun k=>k≤ts.length) (fun k=>[(23,qI (k:Int))]) [(22,_),(21,_),(8,_),(6,_),(1,_),(2,_)] (fun k=>[(q2,qC [qI (((ts.take k).map fun t=>jQ t i.toNat j.toNat).foldl min (jQ t0 i.toNat j.toNat)),qI (((ts.take k).map fun t=>jQ t i.toNat j.toNat).foldl max (jQ t0 i.toNat j.toNat))] 31),(q1,qC [qI 0,qI 0] 31)]) (fun k=>[D]) 0 Yd ⟨Ya,bRD⟩ bQ Mm5 (aK) ?_;rintro k h1;refine aA<|Zam rfl<|bW<|Zaf rfl (fun hc1=>?_) fun hc1=>?_
 ·have hkk:k<ts.length:=by omega
  obtain⟨t,ht⟩:=cR ts k;have htm:=n5 ht;obtain⟨htl,htb⟩:=hall t htm;have hN:=iM htl;refine aQ<|Za2<|Za0<|aA<|Zx rfl U168 eH rfl hS rfl ht fun b2 o2 Y Z hH hB=>?_;obtain rfl:Y=ints (gK _):=Z;refine cU rfl kL rfl hB Yc Xak n4 rfl bRD<|Zad rfl uH rfl fun q3=>bE rfl rfl rfl rfl eH Yao Yb ζ Yh bRD<|aF<|iK [] 3 [0,1,3,4,2,5,6,7] [false,true,true,true,true,true,false,false] [(false,0),(true,1),(true,3),(true,4),(true,2),(true,5),(false,6),(false,7)] bB (fun _ _ _ h=>fM (P:=prog) (fn:=f76) _ _ _ h) Yg rfl<|Zac rfl vV rfl Mm1 iE<|bI rfl kL rfl Mm0 Xak n4 rfl bRD<|Za rfl<|Za rfl<|Zd rfl (fun D3 hO=>a8 t _ (hall _ htm).1 (hall _ htm).2)<|Zd rfl (fun D4 hP=>bEJ t i j _ I hij O (hall _ htm).2)<|Zd rfl (fun D5 hR=>vF _ _ _ _) ?_;refine Zz rfl iE (.tail ζ)<|Zan<|Wc ?_;rw[←vC ht,←vW ht];exact Zn 14 (k+1) ⟨Ya,bRD⟩ rfl (List.Sublist.cons _ Mm5)
 ·obtain rfl:k=ts.length:=by omega
  rw[bMP,FM _ _ (by rw[bNB,ht0];rfl),DZ _ _ (by rw[bNB,ht0];rfl)];refine Za5<|Za1<|Za1<|Za6<|Zay<|aA<|Zac rfl vV rfl Mm0 iE<|Zz rfl iE (.tail ζ)<|aG ?_;exact Zq [_] rfl ⟨⟨_,_,_,rfl,Mm1,Or.inr ⟨vV,Xbp,rfl⟩⟩,bRD⟩ fun D hD=>rfl
theorem R0(rv:Γ)(r:dO)(i j:Int)(D:aC)(hr:oI D rv r):Fn prog 26 #[rv,qI i,qI j] D (fun _ v=>v=.tuple #[.agg (if eE r (qM r i j)=0 then #[qI (EB (truths r) i.toNat j.toNat),qI (DR (truths r) i.toNat j.toNat)]else #[qI 0,qI 0]),qI (eE r (qM r i j))]):=by
 have I:=hr;obtain⟨pv,cv,rfl,hp,hc⟩:=hr;refine Zw 30 func26 rfl fun h0=>aA<|Zy rfl fun q1 E1 Z O=>Zad rfl pF rfl fun q2=>Zf rfl<|bW<|bS [] 4 11 798<|Zv rfl mM rfl O lY<|Zv rfl mM rfl O lY<|Za rfl<|Za rfl<|Zd rfl (fun D1 V=>PR _ r i j _ (I.up (V _ Yf))) ?_;refine Zaa rfl (fun D2 R=>yA _ r _ _ (I.up (R _ Yf))) fun v2 D2 R U=>?_;obtain⟨wv,rfl,hwk⟩:=U;refine Za rfl<|Zao rfl<|Zao rfl<|Zf rfl<|Zf rfl<|bG<|Za rfl<|Zaw rfl<|aF<|Zaf rfl (fun hc1=>?_) fun hc1=>?_
 ·refine aA<|Zu [qI 0,qI 0] rfl W9 pF rfl<|Za rfl<|Zz rfl iE ζ<|Wi ?_;exact Zq [_,_] rfl ⟨⟨_,_,_,rfl,Mm0,Or.inr ⟨vV,Xbp,rfl⟩⟩,rfl,bRD⟩ fun D hD=>by show Value.tuple _=_;rw[bLX hc1]
 ·have he0:eE r (qM r i j)=0:=by omega
  obtain⟨hok,wb,hB,hE,tv,rfl,hA,U,hc2',ht⟩:=hwk he0;have htn:=TT he0;have hall:=U7 hok;have hpt:=aNU hok he0;refine aQ<|aA<|Za rfl<|Zal rfl<|Zj rfl rK rfl<|Zh 4 rfl O9 rfl hA rfl<|Za rfl<|Za rfl<|Zd rfl (fun D3 Y=>aKN _ _ i j _ (ht.up RT.up (Y _ Yf)) htn hall hpt.1 hpt.2.1 hpt.2.2)<|Zz rfl iE ζ<|We ?_;exact Zq [_,_] rfl ⟨⟨_,_,_,rfl,Mm0,Or.inr ⟨vV,Xbp,rfl⟩⟩,rfl,bRD⟩ fun D hD=>by show Value.tuple _=_;rw[bMG he0,he0]
theorem HC(wv:Γ)(t:List Int)(i:Nat)(D:aC)(O:t.length≤9)(hi:i<9):Fn prog 332 #[wv,.agg (ints (gK t)).toArray,qI (i:Int)] D (fun _ v=>v=.bool (aOR i t)):=by
 have hg:=aTM hi O;refine Zw 11 func332 rfl fun h0=>aA<|Zy rfl fun U E1 R I=>Zf rfl<|aJ<|Za rfl<|cD rfl U190 aI rfl rfl Yd Yd rfl bRD<|iO rfl aH rfl I Yf (cW hg) n4 rfl bRD<|Zaq rfl<|We ?_;exact aE rfl fun D hD=>rfl
theorem SC(fv wv:Γ)(f:FuncId)(r:dO)(p:Nat→List Int→Bool)(many:Nat)(D:aC)(hfv:fv=.func (.func f) #[] #[])(hw:aNQ D wv r)(hok:mD r)(hne:truths r≠[])(hm:many≤9)
  (hf:∀t∈truths r,∀i,i<many→∀D',Le D D'→Fn prog f #[wv,.agg (ints (gK t)).toArray,qI (i:Int)] D' fun _ v=>v=.bool (p i t)):
  Fn prog 333 #[.agg #[fv],wv,qI (many:Int)] D (fun D' v=>Sl D' RI 1 v ((List.range many).map fun i=>vd (truths r) (p i))):=by
 obtain⟨wb,pv,cv,tv,rfl,hA,hp,hc,ht⟩:=hw;subst hfv;have hl:=ht.len;have hall:=U7 hok;obtain⟨t0,ht0⟩:∃t,(truths r)[0]?= some t:=⟨(truths r)[0]'(bPC.2 hne),bLR _⟩
 have ht0m:=n5 ht0;have hp90:=iM (hall t0 ht0m).1;refine Zw 52 func333 rfl fun h0=>aA<|Zy rfl fun q1 E1 hE1 Z=>Zf rfl<|bG<|Za rfl<|Za rfl<|aF<|Za0<|Zc (Nat×Γ×aD) (fun g=>many-g.1) (fun g=>g.1≤many∧bM 3 1 g.2.1 g.1 (ints ((List.range g.1).map fun i=>vd (truths r) (p i))) g.2.2) (fun g=>[(13,qI (g.1:Int)),(6,g.2.1)]) [(12,_),(3,_),(1,_)] (fun g=>g.2.2++[]) (fun g=>[E1,D]) (0,qN,[]) ⟨Yf,Xaj⟩ ⟨Ya,Ya,bRD⟩ Mm5 ?_;rintro⟨k,v,ν⟩ ⟨h1,ha⟩;refine aA<|Zam rfl<|bW<|Zaf rfl (fun hc1=>?_) fun hc1=>?_
 ·refine aQ<|Za2<|Za0<|aA<|Za rfl<|Zf rfl<|aF<|aCM<|Za2<|bS [] 6 12 1020<|Zj rfl s4 rfl<|Zh 0 rfl MH rfl Z rfl ?_;refine Za rfl<|Za rfl<|Zal rfl<|Zj rfl rK rfl<|Zh 4 rfl O9 rfl hA rfl<|Zx rfl U168 eH rfl ht rfl ht0 fun b1 o1 hI hJ hcl1 hK=>?_;obtain rfl:hI=ints (gK _):=hJ;refine cU rfl kL rfl hK Yc Xak n4 rfl bRD<|Za rfl<|Zd rfl (fun D1 hN=>hf t0 ht0m k Yd _ (hN _ Yf))<|Zf rfl<|aJ<|Zf rfl<|bG<|Za rfl<|aF<|Zag rfl (fun hc2=>?_) (fun hc2=>?_)
  ·refine aP<|Zf rfl<|bW<|QC<|Zay<|bZ<|Za rfl<|Zal rfl<|Zj rfl rK rfl<|Zh 4 rfl O9 rfl hA rfl<|eN rfl U168 rfl Yl rfl rfl bRD<|Za rfl ?_;refine aF<|Za0<|bK (γ:=Nat) (fun j=>(truths r).length-j) (fun j=>j≤(truths r).length∧((truths r).take j).all (fun t=>p k t==p k t0)=true) (fun j=>[(33,qI (j:Int))]) [(32,_),(31,_),(30,_),(29,_),(28,_),(9,_),(27,_),(8,_),(26,_),(25,_),(24,_),(23,_),(22,_),(21,_),(20,_),(19,_),(18,_),(17,_),(16,_),(7,_),(15,_),(14,_),(13,_),(6,_),(12,_),(3,_),(1,_)] (fun j=>[E1,D]) 0 Yf ⟨Ya,bRD⟩ bQ (aK) ?_;rintro j ⟨h3,h4⟩;refine aA<|Zam rfl<|bW<|Zaf rfl (fun hc3=>?_) (fun hc3=>?_)
   ·have hj:j<(truths r).length:=by omega
    obtain⟨t,I⟩:=cR (truths r) j;have htm:=n5 I;obtain⟨htl,htb⟩:=hall t htm;have hO:=iM htl;refine aQ<|Za2<|Za0<|aA<|Zx rfl U168 eH rfl ht rfl I fun b2 o2 hP hR hcl2 hS=>?_;obtain rfl:hP=ints (gK _):=hR;refine cU rfl kL rfl hS Yc Xak n4 rfl bRD<|Zad rfl uH rfl fun q2=>bE rfl rfl rfl rfl eH Yao Yb ζ Yh bRD<|aJ<|Zj rfl s4 rfl<|Zh 0 rfl MH rfl Z rfl<|Za rfl<|bI rfl kL rfl Mm0 Xak n4 rfl bRD<|Za rfl<|Zd rfl (fun D2 hH=>hf t htm k Yd _ (hH _ Yf))<|Za rfl<|u0 rfl U4 rfl rfl rfl bRD ?_;refine aF<|Zag rfl (fun hB=>?_) fun hB=>?_
    ·have hv:vd (truths r) (p k)=3:=bEM ht0 I hB;refine aA<|Zf rfl<|aF<|Za5<|wH rfl<|Za1<|Za1<|Za6<|Zay<|aP<|Waw ?_;refine Zt rfl U35 aI cO rfl (.cons rfl rfl .nil) fun b901 D901 hX R=>?_;have hY:=Sl.ofInts (l:=[_]) (n:=1) (cap:=1) R rfl Yd Yd;refine aU (A:=[(_,_)]) (B:=_) rfl U35 rfl rfl aI cO rfl kD rfl rfl rfl ha (lD.lit R) Yf rfl Yf Yk Yd (bMF rfl) rfl bRD fun v1 ν1 rA=>?_;have O:bM 3 1 v1 (k+1) (ints ((List.range (k+1)).map fun i=>vd (truths r) (p i))) ν1:=by rw[bND,bME,bPA,hv,←eV];exact rA
     refine Zf rfl<|Zan<|B1<|Wc ?_;exact aL 45 (k+1,v1,ν1) ⟨Yn,O⟩ Yn ⟨Ya,Ya,bRD⟩ rfl rfl (List.Sublist.cons _ Mm5) fun D h=>⟨D,bMJ _ (h),Le.refl D⟩
    ·have hcc:=hB;refine Wca ?_;exact aL 15 (j+1) ⟨Yd,aEL I h4 hcc⟩ Yd ⟨Ya,bRD⟩ rfl rfl (List.Sublist.cons _ Mm5) (aK)
   ·have hv:vd (truths r) (p k)=1:=by rw[aRB ht0 Yd h4,bMG (by simp[hc2])]
    refine Za5<|Za1<|Za1<|Za6<|Zay<|aP<|Za rfl<|Za rfl<|Zt rfl U35 aI cO rfl (.cons rfl rfl .nil) fun b902 D902 rB U=>?_;have hS902:=Sl.ofInts (l:=[_]) (n:=1) (cap:=1) U rfl Yd Yd;refine aU (A:=[]) (B:=_) rfl U35 rfl rfl aI cO rfl kD rfl rfl rfl ha (lD.lit U) Yf rfl Yf Yk Yd (bMF rfl) rfl bRD fun v2 ν2 O=>?_;have O:bM 3 1 v2 (k+1) (ints ((List.range (k+1)).map fun i=>vd (truths r) (p i))) ν2:=by rw[bND,bME,bPA,hv,←eV];exact O
    refine Zf rfl<|Zan<|B1<|Wc ?_;exact aL 33 (k+1,v2,ν2) ⟨Yn,O⟩ Yn ⟨Ya,Ya,bRD⟩ rfl rfl Mm5 fun D h=>⟨D,bMJ _ (h),Le.refl D⟩
  ·refine aQ<|Za2<|QC<|Zay<|bZ<|Za rfl<|Zal rfl<|Zj rfl rK rfl<|Zh 4 rfl O9 rfl hA rfl<|eN rfl U168 rfl Yl rfl rfl bRD<|Za rfl<|aF ?_;refine Za0<|bK (γ:=Nat) (fun j=>(truths r).length-j) (fun j=>j≤(truths r).length∧((truths r).take j).all (fun t=>p k t==p k t0)=true) (fun j=>[(33,qI (j:Int))]) [(32,_),(31,_),(30,_),(29,_),(28,_),(27,_),(9,_),(8,_),(26,_),(25,_),(24,_),(23,_),(22,_),(21,_),(20,_),(19,_),(18,_),(17,_),(16,_),(7,_),(15,_),(14,_),(13,_),(6,_),(12,_),(3,_),(1,_)] (fun j=>[E1,D]) 0 Yf ⟨Ya,bRD⟩ bQ (aK) ?_;rintro j ⟨h3,h4⟩;refine aA<|Zam rfl<|bW<|Zaf rfl (fun hc5=>?_) (fun hc5=>?_)
   ·have hj:j<(truths r).length:=by omega
    obtain⟨t,I⟩:=cR (truths r) j;have htm:=n5 I;obtain⟨htl,htb⟩:=hall t htm;have hO:=iM htl;refine aQ<|Za2<|Za0<|aA<|Zx rfl U168 eH rfl ht rfl I fun b3 o3 cs3 hr3 hcl3 hA3=>?_;obtain rfl:cs3=ints (gK _):=hr3;refine cU rfl kL rfl hA3 Yc Xak n4 rfl bRD<|Zad rfl uH rfl fun q3=>bE rfl rfl rfl rfl eH Yao Yb ζ Yh bRD<|aJ<|Zj rfl s4 rfl<|Zh 0 rfl MH rfl Z rfl<|Za rfl<|bI rfl kL rfl Mm0 Xak n4 rfl bRD<|Za rfl<|Zd rfl (fun D3 hD3=>hf t htm k Yd _ (hD3 _ Yf))<|Za rfl<|u0 rfl U4 rfl rfl rfl bRD ?_;refine aF<|Zag rfl (fun hE=>?_) fun hE=>?_
    ·have hv:vd (truths r) (p k)=3:=bEM ht0 I hE;refine aA<|Zf rfl<|aF<|Za5<|wH rfl<|Za1<|Za1<|Za6<|Zay<|aP<|Waw ?_;refine Zt rfl U35 aI cO rfl (.cons rfl rfl .nil) fun b903 D903 hD903 V=>?_;have hS903:=Sl.ofInts (l:=[_]) (n:=1) (cap:=1) V rfl Yd Yd;refine aU (A:=[(_,_)]) (B:=_) rfl U35 rfl rfl aI cO rfl kD rfl rfl rfl ha (lD.lit V) Yf rfl Yf Yk Yd (bMF rfl) rfl bRD fun v3 ν3 ha3=>?_;have O:bM 3 1 v3 (k+1) (ints ((List.range (k+1)).map fun i=>vd (truths r) (p i))) ν3:=by rw[bND,bME,bPA,hv,←eV];exact ha3
     refine Zf rfl<|Zan<|B1<|Wc ?_;exact aL 45 (k+1,v3,ν3) ⟨Yn,O⟩ Yn ⟨Ya,Ya,bRD⟩ rfl rfl (List.Sublist.cons _ Mm5) fun D h=>⟨D,bMJ _ (h),Le.refl D⟩
    ·have hcc:=hE;refine Wca ?_;exact aL 15 (j+1) ⟨Yd,aEL I h4 hcc⟩ Yd ⟨Ya,bRD⟩ rfl rfl (List.Sublist.cons _ Mm5) (aK)
   ·have hv:vd (truths r) (p k)=2:=by rw[aRB ht0 Yd h4,bLX (by simp[hc2])]
    refine Za5<|Za1<|Za1<|Za6<|Zay<|aP<|Za rfl<|Za rfl<|Zt rfl U35 aI cO rfl (.cons rfl rfl .nil) fun b904 D904 hD904 Y=>?_;have hS904:=Sl.ofInts (l:=[_]) (n:=1) (cap:=1) Y rfl Yd Yd;refine aU (A:=[]) (B:=_) rfl U35 rfl rfl aI cO rfl kD rfl rfl rfl ha (lD.lit Y) Yf rfl Yf Yk Yd (bMF rfl) rfl bRD fun v4 ν4 ha4=>?_;have O:bM 3 1 v4 (k+1) (ints ((List.range (k+1)).map fun i=>vd (truths r) (p i))) ν4:=by rw[bND,bME,bPA,hv,←eV];exact ha4
    refine Zf rfl<|Zan<|B1<|Wc ?_;exact aL 33 (k+1,v4,ν4) ⟨Yn,O⟩ Yn ⟨Ya,Ya,bRD⟩ rfl rfl Mm5 fun D h=>⟨D,bMJ _ (h),Le.refl D⟩
 ·obtain rfl:k=many:=by omega
  refine Za5<|Za1<|Za1<|Za6<|Zay<|aA<|Za rfl<|Zf rfl<|aG<|dU (A:=[]) (B:=[]) ha rfl fun D2 hH hF=>?_;exact aE rfl fun D hD=>(hF.ints Yf Yd).up RI.up (hD _ Yf)
theorem aMI(rv:Γ)(r:dO)(D:aC)(hr:oI D rv r):Fn prog 292 #[rv] D (fun D' v=>∃lv,v=.tuple #[lv,qI (eE r true)]∧Sl D' RI 1 lv (if eE r true=0 then(List.range r.places.length).map (fun i=>vd (truths r) (aOR i))else [])):=by
 have V:=hr;obtain⟨pv,cv,rfl,hp,hc⟩:=hr;have hl1:=hp.len;have hE:=hc.len;refine Zw 20 func292 rfl fun h0=>aA<|Zy rfl fun q1 E1 hF R=>Zf rfl<|Zf rfl<|aJ<|Zv rfl mM rfl R lY<|Zaa rfl (fun D1 U=>yA _ r _ _ (V.up (U _ Yf))) fun v1 D1 U Y=>?_;obtain⟨wv,rfl,hwk⟩:=Y;refine Za rfl<|Zao rfl<|Zao rfl<|Zf rfl<|Zf rfl<|bG<|Za rfl<|Zaw rfl<|aF<|Zaf rfl (fun hc1=>?_) fun hc1=>?_
 ·refine Wax ?_;exact Zq [_,_] rfl bQ fun D hD=>⟨_,rfl,by rw[bLX hc1];exact Sl.nil⟩
 ·have he0:eE r true=0:=by omega
  obtain⟨hok,wb,Z,hB,tv,rfl,hA,O,hc2',ht⟩:=hwk he0;have htn:=TT he0;have hall:=U7 hok;refine aQ<|aA<|Zu [.func (.func 332) #[] #[]] rfl aZP bDP rfl<|Za rfl<|Zj rfl fF rfl<|Zh 0 rfl cF rfl R rfl<|Zah rfl U35 rfl hp rfl<|Zaa rfl (fun D2 I=>SC _ _ 332 r (aOR) r.places.length _ rfl ⟨wb,Z,hB,tv,rfl,hA.up (I _ Yf),O.up RI.up (I _ Yf),hc2'.up RC.up (I _ Yf),ht.up RT.up (I _ Yf)⟩ hok htn (by have:=hok.len9;have:=hok.cnt6;omega) fun t htm i hi D2 hl=>HC _ t i D2 (hall t htm).1 Xba) fun v2 D2 I O=>Zf rfl<|We ?_
  exact Zq [_,_] rfl bQ fun D hD=>⟨_,by rw[he0];rfl,by rw[bMG he0];exact O.up RI.up (hD _ Yf)⟩
end L1
open Go.Proofs
namespace L1
open C1
end L1
namespace L1
end L1
namespace L1
open C1
theorem aQJ(rv:Γ)(r:dO)(D:aC)(hr:oI D rv r):Fn prog 45 #[rv] D (fun _ v=>v=.tuple #[qI (xJ r),qI (p9 r)]):=by
 have R:=hr;obtain⟨pv,cv,rfl,hp,hc⟩:=hr;refine PL 47 func45 rfl rfl rfl rfl fun h0=>aA<|Zy rfl fun q1 E1 hK U=>Zf rfl<|Zf rfl<|bG<|Zv rfl mM rfl U lY<|Zd rfl (fun D1 Z=>BX _ r _ (R.up (Z _ Yf)))<|Wbg ?_;refine aF<|Zaf rfl (fun hc1=>?_) fun hc1=>?_
 ·refine Wax ?_;exact wZ (vs:=[_,_]) rfl rfl rfl bQ fun D hD=>by show Value.tuple _=_;rw[xJ,p9,bMG hc1,bMG hc1]<;>rfl
 ·have hok:mD r:=AG.1 Yd;refine aQ<|aA<|Zad rfl cO rfl fun q2=>Zad rfl pO rfl fun q3=>Zr rfl aI (.tail ζ) rfl<|Zr rfl mI ζ rfl<|aJ<|Zad rfl uH rfl fun q4=>bG<|Zv rfl mM rfl U lY<|Zaa rfl (fun D2 Y=>aCS _ r _ (R.up (Y _ Yf)) hok.len9) fun v2 D2 Y hB=>aF ?_;refine Za0 ?_;obtain⟨br,rfl,hit⟩:=hB;refine wB (γ:=Option Int×List Int) (xs:=(cE r.places).map gK) (enc:=MT) (Dr:=D2) (J5 r) (fun _ _ _=>False) (fun g=>[(q4,qC (ints g.2) 190),(q3,qC [.bool g.1.isSome] 4),(q2,qC [qI (g.1.getD 0)] 3)]) (none,List.replicate 9 0) rfl rfl rfl rfl hit Yf (fun _=>rfl) rfl ⟨rfl,rfl,fun u hu=>by simp at hu⟩ rfl ?_ ?_ (fun _ _ _ _ h=>h.elim)
  ·rintro pre x ⟨o,last⟩ ⟨us,hx⟩ hΦ l bd rec hh D7 hN hst hpend;obtain⟨t,hk,rfl,htm,htake⟩:=Q6 hx;obtain⟨hlen,htb⟩:=qL htm;have htr:oX r t:=⟨hlen,htb⟩
   have V:=iM (t:=t) Xba;have hE:last.length=9:=hΦ.2.1;refine aP<|Zad rfl uH rfl fun q5=>Zz rfl eH ζ<|Zan ?_;refine fun a w hhh=>O7 (A:=[(_,_),(_,_),(_,_),(_,_)]) (B:=[(bd,.deferred (some []))]) (r:=rec) (l:=l) Ybb hst ?_ a w hhh
   refine Za0<|bZ<|Zo rfl DS rfl Mm2 rfl<|Za rfl ?_;refine' bU 4 (s:=20) (p:=24) rfl (fun hF=>?_) (fun hF=>?_) ?_;rotate_left
   ·refine bI rfl kL rfl Mm0 Yae n4 rfl ⟨_,rfl,rfl⟩<|bI rfl kL rfl Mm1 Yae n4 rfl ⟨_,rfl,rfl⟩<|WU rfl Yg U190 U3 Yg V hE rfl rfl rfl ⟨_,rfl,rfl⟩<|Zaj rfl ?_;exact aN 3
   ·refine Wb ?_;exact aN 3
   refine aF<|Zag rfl (fun hc2=>?_) fun hc2=>?_
   ·refine Za5<|Za1<|Za6 ?_;exact fun a w hh=>jH (A:=[(_,_),(_,_),(_,_)]) (B:=[(bd,.deferred (some []))]) (o,last) (YQ hΦ htm htake hc2) rfl rfl a w (hh.dropBoxes 1)
   ·refine aQ<|aA<|bI rfl kL rfl Mm0 Yae n4 rfl bRD<|Zz rfl eH (.tail ζ)<|bW<|uG [] 4 9 198 (fun _ _ _ h=>h)<|Zv rfl mM rfl U lY<|bI rfl kL rfl Mm0 Yae n4 rfl bRD<|Zd rfl (fun D3 hO=>a8 t _ Xba htb)<|Zd rfl (fun D4 hH=>UT _ r t _ (R.up (hH _ Yf)) hok htr)<|Za rfl<|Zao rfl ?_;refine Zao rfl<|Zf rfl<|Zf rfl<|aJ<|Waw ?_;refine' bU 8 (s:=34) (p:=42) rfl (fun hI=>?_) (fun hI=>?_) ?_;rotate_left
    ·refine Zp rfl DS rfl Mm2 rfl<|Zat rfl<|Zb rfl ?_;refine' dQ 4 (s:=37) (p:=41) rfl (fun hJ=>?_) (fun hJ=>?_) ?_;rotate_left
     ·refine Zb rfl<|Zp rfl aH rfl Mm3 rfl<|LB rfl rfl rfl rfl ⟨_,rfl,rfl⟩<|oW rfl rfl rfl rfl ⟨_,rfl,rfl⟩ ?_;exact aN 3
     ·refine Zg rfl<|Ws ?_;exact aN 3
     refine Zaj rfl ?_;exact aN 4
    ·refine Zg rfl<|Wo ?_;exact aN 7
    refine aF<|Zag rfl (fun hc3=>?_) fun hc3=>?_
    ·refine aP<|Za rfl<|Zr rfl aI (.tail (.tail (.tail ζ))) rfl<|Zr rfl mI (.tail (.tail ζ)) rfl<|Zan<|Za3 ?_;exact fun a w hh=>jH (A:=[(_,_),(_,_),(_,_)]) (B:=[(bd,.deferred (some []))]) (some (if eW r t=true then(sD r t:Int)else 0),gK t) (aLW hΦ V htake hc3) rfl rfl a w (hh.dropBoxes 1)
    ·refine bH<|Za3 ?_;exact fun a w hh=>jH (A:=[(_,_),(_,_),(_,_)]) (B:=[(bd,.deferred (some []))]) (o,gK t) (aPW hΦ V htake hc3) rfl rfl a w (hh.dropBoxes 1)
  ·rintro⟨o,last⟩ bd hΦ;have ho:o=oU r (cE r.places):=by simpa [J5]using hΦ.1
   have O:aX r=0:=by omega
   refine Za3<|Zay<|bZ<|Zo rfl DS rfl Mm1 rfl<|Zas rfl<|aF<|Zag rfl (fun I=>?_) fun I=>?_
   ·refine aA<|Zf rfl<|Wi ?_;exact E9 (vs:=[_,_]) (A:=[(_,_),(_,_),(_,_)]) rfl rfl rfl bQ fun D hD=>by show Value.tuple _=_;rw[(RQ ho O I).1,(RQ ho O I).2]<;>rfl
   ·refine aQ<|aA<|Zo rfl aH rfl Mm2 rfl<|Zf rfl<|We ?_;exact E9 (vs:=[_,_]) (A:=[(_,_),(_,_),(_,_)]) rfl rfl rfl bQ fun D hD=>by show Value.tuple _=_;rw[(QK ho O I).1,(QK ho O I).2]<;>rfl
end L1
structure HP(P:Program)(k:Θ){α:Type}[DecidableEq α](val:α→Γ):Prop where
 und:∃fs,P.underlying k=some (.struct fs)
 eq:∀a b w,(Op.equal k (val a) (val b)).run P w=.ok (decide (a=b)) w
 chk:∀em a w,(Instr.checkKey em 10000 k (val a)).run P w=.ok () w
 stay:∀a,Instr.sameBits 10000 (val a) (val a)=true
 agg:∀a,∃cs,val a=.agg cs
variable{α β:Type}[DecidableEq α]{val:α→Γ}{wal:β→Γ}
def R8(val:α→Γ)(wal:β→Γ)(es:Array MapEntry)(M:List (α×β)):Prop:=es.toList.map (fun e=>(e.key,e.val))=M.map fun x=>(val x.1,wal x.2)
def L8(a:α):List (α×β)→Nat→Option (Nat×β)
 | [],_=>none
 |(b,n)::M,i=>if a=b then some (i,n)else L8 a M (i+1)
theorem P0{a:α}:∀{M:List (α×β)} {i j:Nat} {n:β},L8 a M i=some (j,n)→∃k,j=i+k∧M[k]?= some (a,n)
 |(b,m)::M,i,j,n,h=>by
  simp only[L8]at h;split at h
  ·rename_i he;cases h;exact⟨0,rfl,by rw[he];rfl⟩
  ·obtain⟨k,rfl,hk⟩:=P0 h;exact⟨k+1,Yd,Xay⟩
theorem zL{k:Θ}(h:HP P k val)(a:α)(w:Δ):∀(es:List MapEntry) (M:List (α×β)) (i:Nat),es.map (fun e=>(e.key,e.val))=M.map (fun x=>(val x.1,wal x.2))→
  (Instr.findAsking k (val a) es i).run P w=.ok ((L8 a M i).map fun p=>(p.1,wal p.2)) w
 | [],[],i,_=>rfl
 | [],_::_,i,hm=>by simp at hm
 |e::es,[],i,hm=>by simp at hm
 |e::es,(b,n)::M,i,hm=>by
  simp only[bMT,bOH,bPO]at hm;obtain⟨⟨hk,hv⟩,hm⟩:=hm;simp only[Instr.findAsking,Ω,hk,h.eq,Ξ,L8];by_cases he:a=b
  ·subst he;simp only[decide_true,bOC,ε,hv];rfl
  ·simp only[he,decide_false,bNN,bOO];exact zL h a w es M (i+1) hm
theorem xH{k:Θ}(h:HP P k val)(a:α)(w:Δ){es:List MapEntry}{M:List (α×β)}(hm:es.map (fun e=>(e.key,e.val))=M.map fun x=>(val x.1,wal x.2)):
  (Instr.findKey k (val a) es).run P w=.ok ((L8 a M 0).map fun p=>(p.1,wal p.2)) w:=by
 obtain⟨fs,hu⟩:=h.und;unfold Instr.findKey;rw[Ω,TU.of hu w];cases es with
 |nil=>
  cases M with
  |nil=>rfl
  |cons x M=>simp at hm
 |cons e es=>
  have hn:Instr.findNow (.struct fs) (val a) (e::es) 0=none:=by
   obtain⟨cs,hc⟩:=h.agg a;rw[hc];rfl
  simp only[Ξ,hn];exact zL h a w (e::es) M 0 hm
theorem LL{t k e:Θ}{b clock:Nat}{es:Array MapEntry}{M:List (α×β)}{a:α}(ho:all[ix]?= some ⟨some d,.lookup t x y true,ty,pos,aft,g⟩)(ht:P.underlying t=some (.map k e))(hk:HP P k val){z0:Γ}(hz:TZ P e z0)
  (hx:ev σ x=some (.map (some b))) (hy:ev σ y=some (val a)) (hm:(b,Obj.map es clock)∈μ) (hb:b∉bad) (hM:R8 val wal es M) (hN:Nat.blt d X.N=true) (hg:cZ all σ g)
  (kk:∀n ok,(ok=true→∃r,n=wal r∧(a,r)∈M)→(ok=false→n=z0)→WL P X bad all K Q os ((d,.tuple #[n,.bool ok])::σ) μ Ds):WL P X bad all K Q ((fl,ix)::os) σ μ Ds:=by
 have run:∀w,w.heap[b]?= some (Obj.map es clock)→(Instr.lookup t (.map (some b)) (val a) true).run P w=.ok (.tuple #[(match L8 a M 0 with|some (_,v)=>wal v|none=>z0),.bool (L8 a M 0).isSome]) w:=by
  intro w hw;have hf:=xH hk a w hM;unfold Instr.lookup;simp only[Ω,TU.of ht w,Ξ,pG hw,ε,hk.chk];rw[hf];cases L8 a M 0 with
  |none=>simp only[bOG,Ξ,Ω,hz w,ε];rfl
  |some r=>obtain⟨j,v⟩:=r;simp only[bNL,Ξ];rfl
 refine oZ ho rfl rfl hN hg (fun a' w hh w' hk'=>?_) (kk (match L8 a M 0 with|some (_,v)=>wal v|none=>z0) (L8 a M 0).isSome (fun hok=>?_) fun hok=>?_)
 ·simp only[execOp,hh.eval hx,hh.eval hy,Ω,run w' (hh.boxAt hm hb hk'),Ξ,ε]
 ·cases hp:L8 a M 0 with
  |none=>rw[hp]at hok;cases hok
  |some r=>
   obtain⟨j,n⟩:=r;obtain⟨i,_,hi⟩:=P0 hp;exact⟨n,rfl,n5 hi⟩
 ·cases hp:L8 a M 0 with
  |none=>rfl
  |some r=>rw[hp]at hok;cases hok
theorem y8{t k e:Θ}{b clock:Nat}{es:Array MapEntry}{M:List (α×β)}{a:α}{n:β}{A B:aD}(ho:all[ix]?= some ⟨none,.mapUpdate t x y z,ty,pos,aft,g⟩)(ht:P.underlying t=some (.map k e))(hk:HP P k val)
  (hx:ev σ x=some (.map (some b))) (hy:ev σ y=some (val a)) (hz:ev σ z=some (wal n)) (hM:R8 val wal es M) (hg:cZ all σ g)
  (kk:∀es' clock' M',R8 val wal es' M'→(∀p∈M',p∈M∨p=(a,n))→WL P X bad all K Q os σ (A++(b,.map es' clock')::B) Ds):WL P X bad all K Q ((false,ix)::os) σ (A++(b,.map es clock)::B) Ds:=by
 refine fJ ho rfl rfl hg fun a' w hh=>?_
 obtain⟨h1,h2,h3,D,h4,h5,O⟩:=id hh;have hw:=(h4.box (b,.map es clock) Yf).1;have run:∃es' clock' M',R8 val wal es' M'∧(∀p∈M',p∈M∨p=(a,n))∧(Instr.mapUpdate t (.map (some b)) (val a) (wal n)).run P w=.ok () {w with heap:=w.heap.setIfInBounds b (.map es' clock')}:=by
  have hf:=xH hk a w hM;have hset:∀o,(setObj b o).run P w=.ok () {w with heap:=w.heap.setIfInBounds b o}:=fun o=>by simp[setObj,Sem.run,hw]
  cases hp:L8 a M 0 with
  |none=>
   refine⟨es.push {key:=val a,val:=wal n,born:=clock},clock+1,M++[(a,n)],?_,fun p hp=>by simpa using hp,?_⟩
   ·unfold R8 at hM ⊢
    rw[Array.toList_push,bME,bME,hM];rfl
   ·unfold Instr.mapUpdate;simp only[Ω,TU.of ht w,Ξ,pG hw,hk.chk];rw[hf,hp];simp only[bOG,Ξ,hset]
  |some r=>
   obtain⟨j,m⟩:=r;obtain⟨i,I,hi⟩:=P0 hp;rw[bOM]at I;subst I
   have hMi:∀i,(es.toList[i]?).map (fun e:MapEntry=>(e.key,e.val))=(M[i]?).map (fun x:α×β=>(val x.1,wal x.2)):=fun i=>by rw[←bNB,←bNB,hM]
   have hj:=hMi j;rw[hi]at hj;obtain⟨e0,he0,hke⟩:=bOY.1 hj;simp only[bPO]at hke;have he0':es[j]?= some e0:=by simpa using he0
   refine⟨es.modify j fun e=>{e with key:=val a,val:=wal n},clock,M.set j (a,n),?_,fun p hp=>(List.mem_or_eq_of_mem_set hp),?_⟩
   ·unfold R8;apply List.ext_getElem?;intro q;rw[bNB,bNB,Array.getElem?_toList,Array.getElem?_modify,List.getElem?_set];have hq:=hMi q;rw[Array.getElem?_toList]at hq;by_cases hjq:j=q
    ·subst hjq;have hlt:=(bLS.1 hi).1;simp[he0',hlt]
    ·simp only[hjq,bOO];exact hq
   ·have hks:(Instr.keyThatStays (val a) (val a)).run P w=.ok (val a) w:=by
     have:Instr.sameBits 10000 (val a) (val a)=true:=hk.stay a;unfold Instr.keyThatStays;rw[bMG this,ε]
    unfold Instr.mapUpdate;simp only[Ω,TU.of ht w,Ξ,pG hw,hk.chk];rw[hf,hp];simp only[bNL,Ξ,he0',bPK,hke.1,Ω,hks,hset]
 obtain⟨es',clock',M',hM',hmem,hr⟩:=run;have hHas:bR (A++(b,Obj.map es clock)::B) b (.map es clock) (.map es' clock') (A++(b,.map es' clock')::B):=.app .head;have hs:=h4.set (w':={w with heap:=w.heap.setIfInBounds b (.map es' clock')}) hHas ⟨rfl,rfl⟩ trivial;have:(execOp a'.eval ⟨none,.mapUpdate t x y z,ty,pos,aft,g⟩).run P w=.ok .skip {w with heap:=w.heap.setIfInBounds b (.map es' clock')}:=by
  simp only[execOp,hh.eval hx,hh.eval hy,hh.eval hz,Ω,hr,Ξ,ε]
 rw[this];exact⟨fun h=>Xad,kk es' clock' M' hM' hmem _ _ ⟨h1,h2,h3,D,hs,h5,O.step (fun _ p hp=>bMF Yt) (fun _=>lJ ⟨rfl,rfl⟩ (GE.2 ⟨_,hHas.mem,rfl⟩)) hs.dom⟩⟩

def I7(val:α→Γ)(es:Array MapEntry)(M:List (α×Int)):Prop:=R8 val (Value.int .i64) es M
theorem aLL{t k e:Θ}{b clock:Nat}{es:Array MapEntry}{M:List (α×Int)}{a:α}(ho:all[ix]?= some ⟨some d,.lookup t x y true,ty,pos,aft,g⟩)(ht:P.underlying t=some (.map k e))(hk:HP P k val)(hz:TZ P e (qI 0))
  (hx:ev σ x=some (.map (some b))) (hy:ev σ y=some (val a)) (hm:(b,Obj.map es clock)∈μ) (hb:b∉bad) (hM:I7 val es M) (hN:Nat.blt d X.N=true) (hg:cZ all σ g)
  (kk:∀n ok,(ok=true→(a,n)∈M)→WL P X bad all K Q os ((d,.tuple #[qI n,.bool ok])::σ) μ Ds):WL P X bad all K Q ((fl,ix)::os) σ μ Ds:=
 LL (wal:=Value.int .i64) ho ht hk hz hx hy hm hb hM hN hg fun n ok h1 h2=>by
  cases ok with
  |true=>obtain⟨r,rfl,hr⟩:=h1 rfl;exact kk r true fun _=>hr
  |false=>rw[h2 rfl];exact kk 0 false fun h=>by cases h
theorem aGP{t k e:Θ}{b clock:Nat}{es:Array MapEntry}{M:List (α×Int)}{a:α}{n:Int}{A B:aD}(ho:all[ix]?= some ⟨none,.mapUpdate t x y z,ty,pos,aft,g⟩)(ht:P.underlying t=some (.map k e))(hk:HP P k val)
  (hx:ev σ x=some (.map (some b))) (hy:ev σ y=some (val a)) (hz:ev σ z=some (qI n)) (hM:I7 val es M) (hg:cZ all σ g)
  (kk:∀es' clock' M',I7 val es' M'→(∀p∈M',p∈M∨p=(a,n))→WL P X bad all K Q os σ (A++(b,.map es' clock')::B) Ds):WL P X bad all K Q ((false,ix)::os) σ (A++(b,.map es clock)::B) Ds:=
 y8 (wal:=Value.int .i64) ho ht hk hx hy hz hM hg kk

structure xI(n:Nat) where
 l:List Int
 h:l.length=n
deriving DecidableEq
def BH{n:Nat}(a:xI n):Γ:=.agg (ints a.l).toArray
def KA(P:Program)(k:Θ)(n:Nat):Prop:=∃f0 f1 e,P.underlying k=some (.struct (P.fieldsOf k))∧P.stoodInHeld k=false∧P.fieldsOf k=#[f0,f1]∧f0.name≠ "_" ∧f1.name≠ "_" ∧f0.offset=0∧f1.offset=1∧
 P.underlying f0.type=some (.int .i64)∧P.underlying f1.type=some (.array n e)∧P.underlying e=some (.int .i64)∧P.cellsOf e=1∧TA P f1.type true∧TS P f1.type n∧TS P e 1
theorem aOI{t:Θ}{n:Nat}(ha:TA P t true)(hs:TS P t n){l:List Int}(hl:l.length=n+1)(w:Δ):(part t (ints l).toArray 1).run P w=.ok (.agg (ints (l.drop 1)).toArray) w:=by
 unfold part;simp only[Ω,ha w,Ξ,bOC,hs w,ε];congr 2;apply Array.ext';simp only[Array.toList_extract,List.extract_eq_take_drop,ints,List.map_drop];rw[bMV Yap]
theorem KA.key{k:Θ}{n:Nat}(h:KA P k n):HP P k (BH (n:=n+1)):=by
 obtain⟨f0,f1,e,hu,hst,hf,I,O,U,V,t0,t1,te,hc,ha,hs,hse⟩:=h;have hsplit:∀a:xI (n+1),∃x r,a.l=x::r∧r.length=n:=by
  rintro⟨l,hl⟩;cases l with
  |nil=>simp at hl
  |cons x r=>exact⟨x,r,rfl,Yay⟩
 have p0:∀(x:Int) (r:List Int) (w:Δ),(part f0.type (ints (x::r)).toArray f0.offset).run P w=.ok (qI x) w:=fun x r w=>fV t0 (by rw[U];rfl) w
 have p1:∀(x:Int) (r:List Int) (w:Δ),r.length=n→(part f1.type (ints (x::r)).toArray f1.offset).run P w=.ok (.agg (ints r).toArray) w:=fun x r w hr=>by
  rw[V];exact aOI ha hs (l:=x::r) (by simp[hr]) w
 refine⟨⟨_,hu⟩,fun a b w=>?_,fun em a w=>?_,fun a=>?_,fun a=>⟨_,rfl⟩⟩
 ·obtain⟨x,r,ea,hr⟩:=hsplit a;obtain⟨x',r',eb,hr'⟩:=hsplit b;have he:=run_equalIn_struct (P:=P) w 9999 k (ints (x::r)).toArray (ints (x'::r')).toArray hu hst;have hab:decide (a=b)=((x==x')&&(r==r')):=by
   rw[bOX];simp only[LT,bLQ,bQR];constructor
   ·rintro rfl;rw[ea]at eb;exact List.cons.inj eb
   ·rintro⟨h1,h2⟩;obtain⟨la,ha'⟩:=a;obtain⟨lb,hb'⟩:=b;simp only at ea eb;subst ea eb h1 h2;rfl
  show(Op.equalIn (9999+1) k (.agg (ints a.l).toArray) (.agg (ints b.l).toArray)).run P w=_;rw[ea,eb,he,hf,hab];have e0:=run_equalIn_int w 9998 f0.type .i64 .i64 x x' t0;obtain⟨inf,hinf⟩:=info_of_underlying te;have R:=run_equalIn_array (P:=P) w 9998 (ints r).toArray (ints r').toArray t1 hinf;rw[hc,nJ 9997 te r r' w (List.range n) fun j hj=>by have:=bNJ.1 hj;omega,zZ hr hr']at R
  have Y:(Op.eqFields 9999 (ints (x::r)).toArray (ints (x'::r')).toArray [f1]).run P w=.ok (r==r') w:=by
   simp only[Op.eqFields,O,ne_eq,bQM,bOC,Ω,p1 _ _ _ hr,p1 _ _ _ hr',Ξ];rw[R];simp only[Ξ];cases r==r'<;>rfl
  show(Op.eqFields 9999 (ints (x::r)).toArray (ints (x'::r')).toArray (f0::[f1])).run P w=_;rw[Op.eqFields,bMG I];simp only[Ω,p0,Ξ];rw[e0];simp only[Ξ];cases hx:x==x' with
  |true=>
   simp only[Bool.not_true,bNN,bOO,bPT];rw[Y]
  |false=>simp only[Bool.not_false,bOC,ε,Bool.false_and]
 ·obtain⟨x,r,ea,hr⟩:=hsplit a;have c0:(Instr.checkKey em (9998+1) f0.type (qI x)).run P w=.ok () w:=by
   rw[Instr.checkKey,Ω,TU.of t0 w];rfl
  have ce:∀m:Int,(Instr.checkKey em (9997+1) e (qI m)).run P w=.ok () w:=fun m=>by
   rw[Instr.checkKey,Ω,TU.of te w];rfl
  have c1:(Instr.checkKey em (9998+1) f1.type (.agg (ints r).toArray)).run P w=.ok () w:=by
   rw[Instr.checkKey,Ω,TU.of t1 w];simp only[Ξ];rw[Std.Legacy.Range.forIn_eq_forIn_range'];have key:∀(is:List Nat),(∀i∈is,i<n)→((forIn is PUnit.unit fun i _=>do Instr.checkKey em 9998 e (←part e (ints r).toArray (i*(←sizeOf e)));Pure.pure (ForInStep.yield PUnit.unit):Sem PUnit)).run P w=.ok PUnit.unit w:=by
    intro is;induction is with
    |nil=>intro _;rfl
    |cons i is ih=>
     intro hi;have hlt:=hi i bLP;have g1:(ints r).toArray[i*1]?= some (qI r[i]):=by rw[bNY];simpa using cW (bLR (show i<r.length by omega))
     rw[List.forIn_cons];simp only[Ω,hse w,Ξ,fV te g1];rw[ce];simp only[Ξ,ε];exact ih fun j hj=>hi j (LE _ hj)
   have:=key (List.range' 0 n) fun i hi=>Yas;simpa using this
  show(Instr.checkKey em (9999+1) k (.agg (ints a.l).toArray)).run P w=_;rw[ea,Instr.checkKey,Ω,TU.of hu w];simp only[Ξ];rw[hf,←Array.forIn_toList];simp only[List.forIn_cons,List.forIn_nil,I,O,ne_eq,bQM,bOC,Ω,p0,Ξ,ε];rw[c0];simp only[Ξ,ε,Ω,p1 _ _ _ hr];rw[c1];simp
 ·show Instr.sameBits (9999+1) (.agg (ints a.l).toArray) (.agg (ints a.l).toArray)=true;simp only[Instr.sameBits,beq_self_eq_true,bPT,bMK];rintro⟨p,q⟩ hpq;obtain⟨i,hi⟩:=bPP.1 hpq;rw[bQZ]at hi;obtain⟨h1,h2⟩:=hi;simp only at h1 h2;rw[h1]at h2;obtain rfl:=bMQ h2;have:p∈ints a.l:=n5 Xae;obtain⟨m,_,rfl⟩:=GE.1 this;simp[Instr.sameBits]
structure H6(P:Program)(f:Field)(o n:Nat):Prop where
 name:f.name≠ "_"
 eqp:∀(l m:List Int) w,o+n≤l.length→o+n≤m.length→∃u v,(part f.type (ints l).toArray f.offset).run P w=.ok u w∧(part f.type (ints m).toArray f.offset).run P w=.ok v w∧(Op.equalIn 9999 f.type u v).run P w=.ok ((l.drop o).take n==(m.drop o).take n) w
inductive GS(P:Program):Nat→Nat→List Field→Prop
 |nil {o}:GS P o o []
 |cons {o n e f fs} (h:H6 P f o n) (r:GS P (o+n) e fs):GS P o e (f::fs)
theorem GS.le{o e:Nat}{fs:List Field}(h:GS P o e fs):o≤e:=by
 induction h with
 |nil=>exact bMH _
 |cons _ _ ih=>omega
theorem II(l m:List Int)(o n:Nat):(l.drop o==m.drop o)=(((l.drop o).take n==(m.drop o).take n)&&(l.drop (o+n)==m.drop (o+n))):=by
 rw[bOX];simp only[bQR,bLQ];constructor
 ·intro h;exact⟨by rw[h],by rw[←List.drop_drop,←List.drop_drop,h]⟩
 ·rintro⟨h1,h2⟩;rw[←bPB n (l.drop o),←bPB n (m.drop o),h1,List.drop_drop,List.drop_drop,h2]
theorem NV(l m:List Int)(w:Δ){o e:Nat}{fs:List Field}(h:GS P o e fs)(hl:l.length=e)(hm:m.length=e):(Op.eqFields 9999 (ints l).toArray (ints m).toArray fs).run P w=.ok (l.drop o==m.drop o) w:=by
 induction h with
 |nil=>
  rw[bNK Yd,bNK Yd];rfl
 | @cons o n e f fs h r ih=>
  have hle:=r.le;obtain⟨u,v,h1,h2,h3⟩:=h.eqp l m w Yd Yd;rw[Op.eqFields,bMG h.name];simp only[Ω,h1,h2,Ξ];rw[h3,II l m o n];simp only[Ξ];cases hx:(l.drop o).take n==(m.drop o).take n with
  |true=>
   simp only[Bool.not_true,bNN,bOO,bPT];exact ih hl hm
  |false=>simp only[Bool.not_false,bOC,ε,Bool.false_and]
theorem H6.int{f:Field}{o:Nat}(hn:f.name≠ "_")(ho:f.offset=o)(ht:P.underlying f.type=some (.int .i64)):H6 P f o 1:=by
 refine⟨hn,fun l m w hl hm=>?_⟩;have h1:l[o]?= some (l[o]'Yd):=bLR _;have h2:m[o]?= some (m[o]'Yd):=bLR _;refine⟨qI l[o],qI m[o],fV ht (by rw[ho];simpa using cW h1) w,fV ht (by rw[ho];simpa using cW h2) w,?_⟩
 rw[run_equalIn_int w 9998 f.type .i64 .i64 _ _ ht];congr 1;have t1:(l.drop o).take 1=[l[o]]:=by rw[bNC (show o<l.length by omega)];rfl
 have t2:(m.drop o).take 1=[m[o]]:=by rw[bNC (show o<m.length by omega)];rfl
 rw[t1,t2];simp
theorem P4{t:Θ}{n o:Nat}(ha:TA P t true)(hs:TS P t n){l:List Int}(_hl:o+n≤l.length)(w:Δ):(part t (ints l).toArray o).run P w=.ok (.agg (ints ((l.drop o).take n)).toArray) w:=by
 unfold part;simp only[Ω,ha w,Ξ,bOC,hs w,ε];congr 2;apply Array.ext';simp only[Array.toList_extract,List.extract_eq_take_drop,ints,List.map_drop,List.map_take];congr 1;omega
theorem H6.arr{f:Field}{o n:Nat}{e:Θ}(hn:f.name≠ "_")(ho:f.offset=o)(ht:P.underlying f.type=some (.array n e))(he:P.underlying e=some (.int .i64))(hc:P.cellsOf e=1)(ha:TA P f.type true)(hs:TS P f.type n):H6 P f o n:=by
 refine⟨hn,fun l m w hl hm=>⟨_,_,by rw[ho];exact P4 ha hs hl w,by rw[ho];exact P4 ha hs hm w,?_⟩⟩;obtain⟨i,hi⟩:=info_of_underlying he;have h:=run_equalIn_array (P:=P) w 9998 (ints ((l.drop o).take n)).toArray (ints ((m.drop o).take n)).toArray ht hi;have I:((l.drop o).take n).length=n:=by rw[bNT,bOS];omega
 have O:((m.drop o).take n).length=n:=by rw[bNT,bOS];omega
 rw[hc,nJ 9997 he _ _ w (List.range n) fun j hj=>by have:=bNJ.1 hj;omega,zZ I O]at h;exact h
def KS(P:Program)(t:Θ)(n:Nat):Prop:=P.underlying t=some (.struct (P.fieldsOf t))∧P.stoodInHeld t=false∧P.eqGuardType P.depth t=false∧GS P 0 n (P.fieldsOf t).toList
theorem BM{t:Θ}{n:Nat}(h:KS P t n){l m:List Int}(hl:l.length=n)(hm:m.length=n)(w:Δ):(Op.equal t (.agg (ints l).toArray) (.agg (ints m).toArray)).run P w=.ok (l==m) w:=by
 have he:=run_equalIn_struct (P:=P) w 9999 t (ints l).toArray (ints m).toArray h.1 h.2.1;show(Op.equalIn (9999+1) t (.agg (ints l).toArray) (.agg (ints m).toArray)).run P w=_;rw[he,NV l m w h.2.2.2 hl hm];simp
theorem bGW{t t':Θ}{n:Nat}{l m:List Int}(ho:all[ix]?= some ⟨some d,.binOp .neq t x y t',ty,pos,aft,g⟩)(ht:KS P t n)(hl:l.length=n)(hm:m.length=n)(hx:ev σ x=some (.agg (ints l).toArray))(hy:ev σ y=some (.agg (ints m).toArray))(hN:Nat.blt d X.N=true)(hg:cZ all σ g)
  (kk:WL P X bad all K Q os ((d,.bool (!(l==m)))::σ) μ Ds):WL P X bad all K Q ((fl,ix)::os) σ μ Ds:=
 MY ho (fun w=>by
  have hgd:(eqGuard .neq t x y (.agg (ints l).toArray) (.agg (ints m).toArray)).run P w=.ok () w:=by
   simp only[eqGuard,program];simp[Sem.run,ht.2.2.1,go_sem]
  rw[Ω,hgd];show((do Pure.pure (Value.bool (!(←Op.equal t (.agg (ints l).toArray) (.agg (ints m).toArray))))):Sem Γ).run P w=_;rw[Ω,BM ht hl hm];rfl) hx hy hN hg kk
namespace L2
open L1
open C2
open C1 (gU bN rC pH)
theorem tU{r:Int×Int}(h:jB r=true):0≤r.1∧r.1≤r.2∧r.2≤99:=by
 unfold jB fP at h;simp only[bLQ,LT,bN]at h;omega
theorem fA(n lo hi:Int)(D:aC):Fn prog 164 #[qI n,qI lo,qI hi] D (fun _ v=>v=.bool (gU n lo hi)):=by
 refine Zw 15 func164 rfl fun h0=>Wab ?_;refine' bU 4 (s:=10) (p:=14) rfl (fun I=>?_) (fun I=>?_) ?_;rotate_left
 ·refine Wbe ?_;exact aN 3
 ·refine Wb ?_;exact aN 3
 refine We ?_;exact aE rfl fun D hD=>rfl
theorem O8(n:Int)(D:aC):Fn prog 227 #[iV n] D (fun _ v=>v=.bool (fP n)):=by
 refine Zw 5 func227 rfl fun h0=>aA<|Zf rfl<|aJ<|Za rfl<|Zd rfl (fun O I=>fA _ _ _ _)<|We ?_;exact aE rfl fun D hD=>rfl
theorem nF(sv:Γ)(x:Int)(xs:List Int)(D:aC)(hS:Sl D RI 1 sv (x::xs)):
  Fn prog 230 #[sv] D (fun _ v=>v=qI (xs.foldl min x)):=by
 refine Zw 5 func230 rfl fun h0=>aA<|Zf rfl<|aJ<|Za rfl<|Zd rfl (fun O I=>L1.FP _ x xs _ (Sl.at RI.up I Yl Yf))<|We ?_;exact aE rfl fun D hD=>rfl
theorem FV(r:Int×Int)(D:aC):Fn prog 226 #[lE r] D (fun _ v=>v=.bool (jB r)):=by
 refine Zw 18 func226 rfl fun h0=>aA<|Zy rfl fun Z E1 U I=>Zf rfl<|aJ<|Zj rfl rO rfl<|Zh 0 rfl aH rfl I rfl<|Zj rfl uO rfl<|Zh 1 rfl aH rfl I rfl<|gX rfl rfl rfl rfl bRD<|Za rfl ?_;refine' bU 4 (s:=8) (p:=12) rfl (fun O=>?_) (fun O=>?_) ?_;rotate_left
 ·refine Zk rfl rO rfl<|Zi 0 rfl aH rfl I rfl<|Ze rfl (fun D1 V=>O8 _ _)<|Zaj rfl ?_;exact aN 3
 ·refine Wb ?_;exact aN 3
 refine Za rfl ?_;refine' bU 4 (s:=13) (p:=17) rfl (fun R=>?_) (fun R=>?_) ?_;rotate_left
 ·refine Zk rfl uO rfl<|Zi 1 rfl aH rfl I rfl<|Ze rfl (fun D2 Y=>O8 _ _)<|Zaj rfl ?_;exact aN 3
 ·refine Wb ?_;exact aN 3
 refine We ?_;exact aE rfl fun D hD=>rfl
theorem aBM(r:Int×Int)(h:jB r=true)(D:aC):Fn prog 231 #[lE r] D (fun _ v=>v=qI (fN r)):=by
 have hb:=tU h;refine Zw 9 func231 rfl fun h0=>aA<|Zy rfl fun R E1 O I=>Zf rfl<|aJ<|Zj rfl uO rfl<|Zh 1 rfl aH rfl I rfl<|Zj rfl rO rfl<|Zh 0 rfl aH rfl I rfl<|Zau rfl<|Zae rfl<|Zf rfl ?_;refine aG ?_;exact aE rfl fun D hD=>rfl
theorem HC(r:Int×Int)(n:Int)(D:aC):Fn prog 235 #[lE r,qI n] D (fun _ v=>v=.bool (gU n r.1 r.2)):=by
 refine Zw 11 func235 rfl fun h0=>aA<|Zy rfl fun U E1 O I=>Zf rfl<|aJ<|Za rfl<|Zj rfl rO rfl<|Zh 0 rfl aH rfl I rfl<|Zj rfl uO rfl<|Zh 1 rfl aH rfl I rfl<|Zd rfl (fun V R=>fA _ _ _ _)<|Zf rfl ?_;refine aG ?_;exact aE rfl fun D hD=>rfl
theorem vF(r:Int×Int)(n:Int)(D:aC):Fn prog 166 #[lE r,qI n] D (fun _ v=>v=lE (min r.1 n,max r.2 n)):=by
 refine Zw 15 func166 rfl fun h0=>aA<|Zy rfl fun q1 E1 Z R=>Zad rfl iC rfl fun q2=>bW<|iK [] 4 [0,1,2,5,6,7,8,3,4,9,10] [false,false,true,true,true,true,true,true,true,false,false] [(false,0),(false,1),(true,2),(true,5),(true,6),(true,7),(true,8),(true,3),(true,4),(false,9),(false,10)] bB (fun _ _ _ h=>fM (P:=prog) (fn:=f166) _ _ _ h) Yg rfl<|Zj rfl rO rfl<|Zh 0 rfl aH rfl R rfl<|Za rfl<|Zj rfl uO rfl<|Zh 1 rfl aH rfl R rfl<|Za rfl ?_;refine nZ rfl rfl rfl rfl bRD<|Zt rfl U35 aI cO rfl (.cons rfl rfl (.cons rfl rfl .nil)) fun Y D901 U I=>?_;have O:=Sl.ofInts (l:=[_,_]) (n:=2) (cap:=2) I rfl Yd Yd;refine Zd rfl (fun D1 V=>nF _ r.1 [n] _ (O.up RI.up (V _ Yf)))<|Zu [qI (min r.1 n),qI (max r.2 n)] rfl zV iC rfl<|Zz rfl cN ζ<|aG ?_;exact Zq [_] rfl ⟨⟨_,_,_,rfl,Mm0,Or.inr ⟨kK,Xcg,rfl⟩⟩,bRD⟩ fun D hD=>rfl
theorem aCB(tv:Γ)(t:aW)(n:Int)(D:aC)(ht:gQ D tv t):Fn prog 167 #[tv,qI n] D (fun _ v=>v=.bool (FO t.last n)):=by
 have ht0:=ht;obtain⟨hv,lv,mv,rfl,hh,hl,hm⟩:=ht;have hll:=hl.len;refine Zw 9 func167 rfl fun h0=>aA<|Zy rfl fun U E1 O I=>Zf rfl<|aJ<|Za rfl<|Zj rfl mU rfl<|Zh 0 rfl aH rfl I rfl<|Zd rfl (fun V R=>fA _ _ _ _)<|We ?_;exact aE rfl fun D hD=>rfl
theorem bFY(tv:Γ)(t:aW)(n:Int)(D:aC)(ht:gQ D tv t):Fn prog 97 #[tv,qI n] D (fun _ v=>v=.bool (gU n 0 ((t.levels.length:Int)-1))):=by
 have ht0:=ht;obtain⟨hv,lv,mv,rfl,hh,hl,hm⟩:=ht;have hll:=hl.len;refine Zw 11 func97 rfl fun h0=>aA<|Zy rfl fun U E1 O I=>Zf rfl<|aJ<|Za rfl<|Zj rfl lR rfl<|Zh 3 rfl cF rfl I rfl<|eN rfl U35 rfl Yl rfl rfl bRD<|Zau rfl<|Zd rfl (fun V R=>fA _ _ _ _)<|Zf rfl ?_;refine aG ?_;exact aE rfl fun D hD=>rfl
theorem QV(tv:Γ)(t:aW)(a b:Int)(D:aC)(ht:gQ D tv t):Fn prog 100 #[tv,qI a,qI b] D (fun _ v=>v=.bool (tD t.last a b)):=by
 have ht0:=ht;obtain⟨hv,lv,mv,rfl,hh,hl,hm⟩:=ht;have hll:=hl.len;refine Zw 20 func100 rfl fun h0=>aA<|Zy rfl fun Z E1 Y I=>Zf rfl<|aJ<|Zv rfl lB rfl I jP<|Za rfl<|Zd rfl (fun D1 O=>aCB _ t _ _ (ht0.up (O _ Yf)))<|Za rfl ?_;refine' bU 4 (s:=10) (p:=14) rfl (fun R=>?_) (fun R=>?_) ?_;rotate_left
 ·refine cU rfl lB rfl I Yc jP n4 rfl ⟨_,rfl,rfl⟩<|Zb rfl<|Ze rfl (fun D2 U=>aCB _ t _ _ (ht0.up (U _ Yf)))<|Zaj rfl ?_;exact aN 3
 ·refine Wb ?_;exact aN 3
 refine Za rfl ?_;refine' bU 4 (s:=15) (p:=19) rfl (fun V=>?_) (fun V=>?_) ?_;rotate_left
 ·refine Wbe ?_;exact aN 3
 ·refine Wb ?_;exact aN 3
 refine We ?_;exact aE rfl fun D hD=>rfl
theorem aWA(tv:Γ)(t:aW)(m:Mk)(D:aC)(ht:gQ D tv t):Fn prog 224 #[tv,bHY m] D (fun _ v=>v=.bool (wD t.last m)):=by
 have ht0:=ht;obtain⟨hv,lv,mv,rfl,hh,hl,hm⟩:=ht;refine Zw 16 func224 rfl fun h0=>aA<|Zy rfl fun q1 E1 V O=>Zy rfl fun q2 E2 Y I=>Zf rfl<|aJ<|Zv rfl lB rfl O jP<|Zj rfl LR rfl<|Zh 0 rfl aH rfl I rfl<|Zj rfl JD rfl<|Zh 1 rfl aH rfl I rfl<|Zd rfl (fun D1 R=>QV _ t _ _ _ (ht0.up (R _ Yf))) ?_;refine Za rfl ?_;refine' bU 4 (s:=11) (p:=15) rfl (fun U=>?_) (fun U=>?_) ?_;rotate_left
 ·refine Zk rfl KI rfl<|dY rfl (k:=2) kK cN rfl I Yc rfl rfl n4 rfl ⟨_,rfl,rfl⟩<|Ze rfl (fun D2 Z=>FV (m.lo,m.hi) _)<|Zaj rfl ?_;exact aN 3
 ·refine Wb ?_;exact aN 3
 refine We ?_;exact aE rfl fun D hD=>rfl
theorem xK(sv fv:Γ)(xs:List (Int×Int))(p:(Int×Int)→Bool)(D:aC)(hS:Sl D BL 2 sv xs)(hp:dB prog D lE fv p):
  Fn prog 337 #[sv,fv] D (fun _ v=>v=qI (idxOf p xs)):=by
 have hl:=hS.len;obtain⟨f,c1,c2,rfl,hf⟩:=hp;refine Zw 19 func337 rfl fun h0=>aA<|Zf rfl<|bG<|Za rfl<|eN rfl U76 rfl Yl rfl rfl bRD<|Wd ?_;rintro k ⟨h1,h2⟩;refine aA<|Zam rfl<|bW<|Zaf rfl (fun hc1=>?_) fun hc1=>?_
 ·have hk:k<xs.length:=by omega
  obtain⟨x,hx⟩:=cR xs k;refine aQ<|Za2<|Za0<|aA<|Za rfl<|Zf rfl<|aJ<|Za rfl<|Za rfl<|Za rfl<|eA rfl U76 cN rfl Yl rfl Yd Yl rfl bRD fun Y Z I O V R=>?_;obtain rfl:I=[qI _,qI _]:=O;refine Zv rfl kK rfl R cN<|Zd rfl (fun D1 U=>hf x _ (U _ Yf))<|aF<|Zag rfl (fun hc2=>?_) fun hc2=>?_
  ·refine Wbc ?_;exact aE rfl fun D hD=>Xbl
  ·refine Wca ?_;have hpx:p x=false:=hc2;have h3:(xs.take (k+1)).any p=false:=by rw[bLW,hx,bPJ,h2];simp[hpx]
   exact aL 12 (k+1) ⟨Yd,h3⟩ Yd ⟨Ya,bRD⟩ rfl rfl Mm5 (aK)
 ·refine Wk ?_;exact aE rfl fun D hD=>Xbm
theorem rW(sv fv:Γ)(xs:List (Int×Int))(p:(Int×Int)→Bool)(D:aC)(hS:Sl D BL 2 sv xs)(hp:dB prog D lE fv p):
  Fn prog 303 #[sv,fv] D (fun _ v=>v=.bool (xs.any p)):=by
 refine Zw 9 func303 rfl fun h0=>aA<|Zf rfl<|aJ<|Za rfl<|Za rfl<|Zd rfl (fun O I=>xK _ _ xs p _ (Sl.at BL.up I Yl Yf) (hp.up (I _ Yf)))<|Ww ?_;exact aE rfl fun D hD=>Xbn
theorem DV(b:Nat)(fv:Γ)(p:(Int×Int)→Bool)(x:(Int×Int))(D:aC)(hp:dB prog D lE fv p)(hB:At D b 0 [fv]):
  Fn prog 304 #[lE x,qP b] D (fun _ v=>v=.bool (!p x)):=by
 obtain⟨f,c1,c2,rfl,hf⟩:=hp;refine Zw 8 func304 rfl fun h0=>aA<|Zy rfl fun U E1 R I=>Zf rfl<|aJ<|Zh 0 rfl aWT rfl hB rfl<|Zv rfl kK rfl I cN<|Wv ?_;exact aE rfl fun D hD=>rfl
theorem MO(sv fv:Γ)(xs:List (Int×Int))(p:(Int×Int)→Bool)(D:aC)(hS:Sl D BL 2 sv xs)(hp:dB prog D lE fv p)(h1:fv.cells=#[fv]):
  Fn prog 225 #[sv,fv] D (fun _ v=>v=.bool (xs.all p)):=by
 refine Zw 9 func225 rfl fun h0=>aA<|sW (vs:=[fv]) rfl rfl h1 rfl bRD fun b O I hB=>Zf rfl<|aJ<|Za rfl<|Zax rfl<|Zd rfl (fun O I=>rW _ _ xs (fun x=> !p x) _ (Sl.at BL.up I Yl Yf) ⟨_,[],[qP b],rfl,fun x R hl=>DV b fv p x R (hp.up ((I _ Yf).trans hl)) (hB.up ((I _ Yf).trans hl))⟩)<|Zas rfl<|We ?_;exact aE rfl fun D hD=>Xbq
theorem IG(sv fv:Γ)(xs:List Mk)(p:Mk→Bool)(D:aC)(hS:Sl D UB 4 sv xs)(hp:dB prog D bHY fv p):
  Fn prog 338 #[sv,fv] D (fun _ v=>v=qI (idxOf p xs)):=by
 have hl:=hS.len;obtain⟨f,c1,c2,rfl,hf⟩:=hp;refine Zw 19 func338 rfl fun h0=>aA<|Zf rfl<|bG<|Za rfl<|eN rfl U77 rfl Yl rfl rfl bRD<|Wd ?_;rintro k ⟨h1,h2⟩;refine aA<|Zam rfl<|bW<|Zaf rfl (fun hc1=>?_) fun hc1=>?_
 ·have hk:k<xs.length:=by omega
  obtain⟨x,hx⟩:=cR xs k;refine aQ<|Za2<|Za0<|aA<|Za rfl<|Zf rfl<|aJ<|Za rfl<|Za rfl<|Za rfl<|eA rfl U77 lM rfl Yl rfl Yd Yl rfl bRD fun Y Z I O V R=>?_;obtain rfl:I=[qI _,qI _,qI _,qI _]:=O;refine Zv rfl PN rfl R lM<|Zd rfl (fun D1 U=>hf x _ (U _ Yf))<|aF<|Zag rfl (fun hc2=>?_) fun hc2=>?_
  ·refine Wbc ?_;exact aE rfl fun D hD=>Xbl
  ·refine Wca ?_;have hpx:p x=false:=hc2;have h3:(xs.take (k+1)).any p=false:=by rw[bLW,hx,bPJ,h2];simp[hpx]
   exact aL 12 (k+1) ⟨Yd,h3⟩ Yd ⟨Ya,bRD⟩ rfl rfl Mm5 (aK)
 ·refine Wk ?_;exact aE rfl fun D hD=>Xbm
theorem u6(sv fv:Γ)(xs:List Mk)(p:Mk→Bool)(D:aC)(hS:Sl D UB 4 sv xs)(hp:dB prog D bHY fv p):
  Fn prog 306 #[sv,fv] D (fun _ v=>v=.bool (xs.any p)):=by
 refine Zw 9 func306 rfl fun h0=>aA<|Zf rfl<|aJ<|Za rfl<|Za rfl<|Zd rfl (fun O I=>IG _ _ xs p _ (Sl.at UB.up I Yl Yf) (hp.up (I _ Yf)))<|Ww ?_;exact aE rfl fun D hD=>Xbn
theorem aTT(b:Nat)(fv:Γ)(p:Mk→Bool)(x:Mk)(D:aC)(hp:dB prog D bHY fv p)(hB:At D b 0 [fv]):
  Fn prog 307 #[bHY x,qP b] D (fun _ v=>v=.bool (!p x)):=by
 obtain⟨f,c1,c2,rfl,hf⟩:=hp;refine Zw 8 func307 rfl fun h0=>aA<|Zy rfl fun U E1 R I=>Zf rfl<|aJ<|Zh 0 rfl aWJ rfl hB rfl<|Zv rfl PN rfl I lM<|Wv ?_;exact aE rfl fun D hD=>rfl
theorem aYZ(sv fv:Γ)(xs:List Mk)(p:Mk→Bool)(D:aC)(hS:Sl D UB 4 sv xs)(hp:dB prog D bHY fv p)(h1:fv.cells=#[fv]):
  Fn prog 229 #[sv,fv] D (fun _ v=>v=.bool (xs.all p)):=by
 refine Zw 9 func229 rfl fun h0=>aA<|sW (vs:=[fv]) rfl rfl h1 rfl bRD fun b O I hB=>Zf rfl<|aJ<|Za rfl<|Zax rfl<|Zd rfl (fun O I=>u6 _ _ xs (fun x=> !p x) _ (Sl.at UB.up I Yl Yf) ⟨_,[],[qP b],rfl,fun x R hl=>aTT b fv p x R (hp.up ((I _ Yf).trans hl)) (hB.up ((I _ Yf).trans hl))⟩)<|Zas rfl<|We ?_;exact aE rfl fun D hD=>Xbq
theorem N0(b:Nat)(fv:Γ)(p:Int→Bool)(x:Int)(D:aC)(hp:dB prog D iV fv p)(hB:At D b 0 [fv]):
  Fn prog 305 #[iV x,qP b] D (fun _ v=>v=.bool (!p x)):=by
 obtain⟨f,c1,c2,rfl,hf⟩:=hp;refine Zw 8 func305 rfl fun h0=>Wam ?_;exact aE rfl fun D hD=>rfl
theorem Y0(sv fv:Γ)(xs:List Int)(p:Int→Bool)(D:aC)(hS:Sl D RI 1 sv xs)(hp:dB prog D iV fv p)(h1:fv.cells=#[fv]):
  Fn prog 228 #[sv,fv] D (fun _ v=>v=.bool (xs.all p)):=by
 refine Zw 9 func228 rfl fun h0=>aA<|sW (vs:=[fv]) rfl rfl h1 rfl bRD fun b O I hB=>Zf rfl<|aJ<|Za rfl<|Zax rfl<|Zd rfl (fun O I=>L1.nN _ _ xs (fun x=> !p x) _ (Sl.at RI.up I Yl Yf) ⟨_,[],[qP b],rfl,fun x R hl=>N0 b fv p x R (hp.up ((I _ Yf).trans hl)) (hB.up ((I _ Yf).trans hl))⟩)<|Zas rfl<|We ?_;exact aE rfl fun D hD=>Xbq
theorem aUA(sv:Γ)(x:Int)(xs:List Int)(D:aC)(hS:Sl D RI 1 sv (x::xs)):
  Fn prog 236 #[sv] D (fun _ v=>v=qI (xs.foldl max x)):=by
 have hl:=hS.len;simp only[bLU]at hl;refine Zw 25 func236 rfl fun h0=>aA<|Zf rfl<|bG<|Za rfl<|eN rfl U35 rfl Yl rfl rfl bRD<|Zam rfl<|aF<|Zaf rfl (fun hc1=>?_) fun hc1=>?_
 ·exact absurd hc1 (by simp only[bLU];omega)
 ·refine aQ<|aA<|Za rfl<|eA rfl U35 aI rfl Yl rfl Yd Ybb rfl bRD fun b1 o1 I O Z R=>?_;obtain rfl:I=[qI _]:=O;refine Zh 0 rfl aH rfl R rfl<|Zf rfl<|bG<|Zf rfl<|aF<|Za0<|bK (γ:=Nat) (fun k=>xs.length-k) (fun k=>k≤xs.length) (fun k=>[(3,qI ((xs.take k).foldl max x)),(4,qI (k+1:Int))]) [(2,_),(0,_)] (fun k=>[D]) 0 Yd ⟨Ya,Ya,bRD⟩ bQ (aK) ?_;rintro k h1;refine bZ<|Za rfl<|Za rfl<|eN rfl U35 rfl Yl rfl rfl bRD<|Zam rfl<|aF<|Zaf rfl (fun hc2=>?_) (fun hc2=>?_)
  ·simp only[bLU]at hc2;have hk:k<xs.length:=by omega
   obtain⟨y,hy⟩:=cR xs k;have hE:(x::xs)[(k+1:Int).toNat]?= some y:=by rw[show((k:Int)+1).toNat=k+1 by omega];simpa using hy
   refine aQ<|Za2<|Za0<|aP<|Za rfl<|Za rfl<|Za rfl<|eA rfl U35 aI rfl Yl rfl Yd Yl rfl bRD fun b2 o2 U V hB Y=>?_;obtain rfl:U=[qI _]:=V;refine Zh 0 rfl aH rfl Y rfl<|nZ rfl rfl rfl rfl bRD<|Wt ?_;have h3:(xs.take (k+1)).foldl max x=max ((xs.take k).foldl max x) y:=by rw[bLW,hy,bNM];rfl
   exact Zn 16 (k+1) ⟨(by rw[h3];rfl),Ya,bRD⟩ rfl Mm5
  ·simp only[bLU]at hc2;refine Wl ?_;exact aE rfl fun D hD=>Xce
end L2
theorem K2.key{k:Θ}(h:K2 P k):HP P k lE:=by
 refine⟨⟨_,h.1⟩,fun a b w=>?_,fun em a w=>CC h em a w,fun a=>?_,fun a=>⟨_,rfl⟩⟩
 ·rw[zR h];congr 1;by_cases e:a=b
  ·subst e;simp
  ·simp[e]
 ·simp[lE,Instr.sameBits]

theorem aBQ{em:Bool}{t e:Θ}{n:Nat}(t1:P.underlying t=some (.array n e))(te:P.underlying e=some (.int .i64))(hse:TS P e 1){r:List Int}(hr:r.length=n)(w:Δ):(Instr.checkKey em (9998+1) t (.agg (ints r).toArray)).run P w=.ok () w:=by
 have ce:∀m:Int,(Instr.checkKey em (9997+1) e (qI m)).run P w=.ok () w:=fun m=>by
  rw[Instr.checkKey,Ω,TU.of te w];rfl
 rw[Instr.checkKey,Ω,TU.of t1 w];simp only[Ξ];rw[Std.Legacy.Range.forIn_eq_forIn_range'];have key:∀(is:List Nat),(∀i∈is,i<n)→((forIn is PUnit.unit fun i _=>do Instr.checkKey em 9998 e (←part e (ints r).toArray (i*(←sizeOf e)));Pure.pure (ForInStep.yield PUnit.unit):Sem PUnit)).run P w=.ok PUnit.unit w:=by
  intro is;induction is with
  |nil=>intro _;rfl
  |cons i is ih=>
   intro hi;have hlt:=hi i bLP;have g1:(ints r).toArray[i*1]?= some (qI r[i]):=by rw[bNY];simpa using cW (bLR (show i<r.length by omega))
   rw[List.forIn_cons];simp only[Ω,hse w,Ξ,fV te g1];rw[ce];simp only[Ξ,ε];exact ih fun j hj=>hi j (LE _ hj)
 have:=key (List.range' 0 n) fun i hi=>Yas;simpa using this
def KM(P:Program)(k:Θ)(n:Nat):Prop:=∃f0 f1 f2 e,P.underlying k=some (.struct (P.fieldsOf k))∧P.fieldsOf k=#[f0,f1,f2]∧f0.name≠ "_" ∧f1.name≠ "_" ∧f2.name≠ "_" ∧f0.offset=0∧f1.offset=1∧f2.offset=n+1∧
 P.underlying f0.type=some (.int .i64)∧P.underlying f1.type=some (.array n e)∧P.underlying f2.type=some (.array n e)∧P.underlying e=some (.int .i64)∧TA P f1.type true∧TS P f1.type n∧TA P f2.type true∧TS P f2.type n∧TS P e 1
theorem KM.key{k:Θ}{n:Nat}(h:KM P k n)(hks:KS P k (n+n+1)):HP P k (BH (n:=n+n+1)):=by
 obtain⟨f0,f1,f2,e,hu,hf,I,O,R,U,V,Y,t0,t1,t2,te,Z,s1,a2,s2,hse⟩:=h;refine⟨⟨_,hu⟩,fun a b w=>?_,fun em a w=>?_,fun a=>?_,fun a=>⟨_,rfl⟩⟩
 ·have:=BM (P:=P) hks a.h b.h w;show(Op.equal k (.agg (ints a.l).toArray) (.agg (ints b.l).toArray)).run P w=_;rw[this];congr 1;obtain⟨la,ha⟩:=a;obtain⟨lb,hb⟩:=b;rw[bOX];simp
 ·have hl:=a.h;have c0:∀x:Int,(Instr.checkKey em (9998+1) f0.type (qI x)).run P w=.ok () w:=fun x=>by
   rw[Instr.checkKey,Ω,TU.of t0 w];rfl
  obtain⟨x,hx⟩:=cR a.l 0;have p0:(part f0.type (ints a.l).toArray f0.offset).run P w=.ok (qI x) w:=fV t0 (by rw[U];simpa using cW hx) w
  have p1:(part f1.type (ints a.l).toArray f1.offset).run P w=.ok (.agg (ints ((a.l.drop 1).take n)).toArray) w:=by rw[V];exact P4 Z s1 Yd w
  have p2:(part f2.type (ints a.l).toArray f2.offset).run P w=.ok (.agg (ints ((a.l.drop (n+1)).take n)).toArray) w:=by rw[Y];exact P4 a2 s2 Yd w
  have c1:=aBQ (em:=em) t1 te hse (r:=(a.l.drop 1).take n) (by rw[bNT,bOS];omega) w;have c2:=aBQ (em:=em) t2 te hse (r:=(a.l.drop (n+1)).take n) (by rw[bNT,bOS];omega) w
  show(Instr.checkKey em (9999+1) k (.agg (ints a.l).toArray)).run P w=_;rw[Instr.checkKey,Ω,TU.of hu w];simp only[Ξ];rw[hf,←Array.forIn_toList];simp only[List.forIn_cons,List.forIn_nil,I,O,R,ne_eq,bQM,bOC,Ω,p0,Ξ,ε];rw[c0];simp only[Ξ,ε,Ω,p1];rw[c1];simp only[Ξ,ε,Ω,p2];rw[c2];simp
 ·show Instr.sameBits (9999+1) (.agg (ints a.l).toArray) (.agg (ints a.l).toArray)=true;simp only[Instr.sameBits,beq_self_eq_true,bPT,bMK];rintro⟨p,q⟩ hpq;obtain⟨i,hi⟩:=bPP.1 hpq;rw[bQZ]at hi;obtain⟨h1,h2⟩:=hi;simp only at h1 h2;rw[h1]at h2;obtain rfl:=bMQ h2;have:p∈ints a.l:=n5 Xae;obtain⟨m,_,rfl⟩:=GE.1 this;simp[Instr.sameBits]
def bHJ:Unit→Γ:=fun _=>.bool true
structure zI(es:Array MapEntry)(clock:Nat)(S:List (Int×Int)):Prop where
 cells:R8 lE bHJ es (S.map fun a=>(a,()))
 nd:(es.toList.map (·.born)).Nodup
 lt:∀e∈es.toList,e.born<clock
theorem zI.nil:zI #[] 0 []:=⟨rfl,bNW,fun e he=>by simp at he⟩
def VO(S:List (Int×Int))(a:Int×Int):List (Int×Int):=if a∈S then S else S++[a]
theorem aTU{S:List (Int×Int)}{a p:Int×Int}:p∈VO S a ↔ p∈S∨p=a:=by
 unfold VO;split
 ·rename_i h;exact⟨bMF,fun h'=>h'.elim id fun e=>e▸h⟩
 ·simp
theorem zI.key{es:Array MapEntry}{clock:Nat}{S:List (Int×Int)}(h:zI es clock S){e:MapEntry}(he:e∈es.toList):∃a∈S,e.key=lE a∧e.val=.bool true:=by
 have h1:=h.cells;unfold R8 at h1;obtain⟨i,hi⟩:=bPP.1 he;have h2:(es.toList.map fun e=>(e.key,e.val))[i]?= some (e.key,e.val):=by rw[bNB,hi];rfl
 rw[h1,bQC,bNB]at h2;obtain⟨a,ha,hk⟩:=bOY.1 h2;simp only[Function.comp,bPO]at hk;exact⟨a,n5 ha,hk.1.symm,hk.2.symm⟩
theorem zI.ent{es:Array MapEntry}{clock:Nat}{S:List (Int×Int)}(h:zI es clock S){a:Int×Int}(ha:a∈S):∃e∈es.toList,e.key=lE a:=by
 have h1:=h.cells;unfold R8 at h1;obtain⟨i,hi⟩:=bPP.1 ha;have h2:((S.map fun a=>(a,())).map fun x=>(lE x.1,bHJ x.2))[i]?= some (lE a,.bool true):=by rw[bQC,bNB,hi];rfl
 rw[←h1,bNB]at h2;obtain⟨e,he,hk⟩:=bOY.1 h2;simp only[bPO]at hk;exact⟨e,n5 he,hk.1⟩
theorem aHJ{S:List (Int×Int)}{a:Int×Int}:∀{i:Nat},L8 a (S.map fun a=>(a,())) i=none→a∉S:=by
 induction S with
 |nil=>intro i _;exact n4
 |cons b S ih=>
  intro i h;simp only[bMT,L8]at h;split at h
  ·cases h
  ·rename_i hne;intro hm;rcases bLO.1 hm with e|hm
   ·exact hne e
   ·exact ih h hm
theorem bIF{t k e:Θ}{b clock:Nat}{es:Array MapEntry}{S:List (Int×Int)}{a:Int×Int}{A B:aD}(ho:all[ix]?= some ⟨none,.mapUpdate t x y z,ty,pos,aft,g⟩)(ht:P.underlying t=some (.map k e))(hk:K2 P k)
  (hx:ev σ x=some (.map (some b))) (hy:ev σ y=some (lE a)) (hz:ev σ z=some (.bool true)) (hM:zI es clock S) (hg:cZ all σ g)
  (kk:∀es' clock',zI es' clock' (VO S a)→WL P X bad all K Q os σ (A++(b,.map es' clock')::B) Ds):WL P X bad all K Q ((false,ix)::os) σ (A++(b,.map es clock)::B) Ds:=by
 refine fJ ho rfl rfl hg fun a' w hh=>?_
 obtain⟨h1,h2,h3,D,h4,h5,Y⟩:=id hh;have hw:=(h4.box (b,.map es clock) Yf).1;have hK:=hk.key;have run:∃es' clock',zI es' clock' (VO S a)∧(Instr.mapUpdate t (.map (some b)) (lE a) (.bool true)).run P w=.ok () {w with heap:=w.heap.setIfInBounds b (.map es' clock')}:=by
  have hf:=xH (wal:=bHJ) hK a w hM.cells;have hset:∀o,(setObj b o).run P w=.ok () {w with heap:=w.heap.setIfInBounds b o}:=fun o=>by simp[setObj,Sem.run,hw]
  cases hp:L8 a (S.map fun a=>(a,())) 0 with
  |none=>
   have hna:=aHJ hp;refine⟨es.push {key:=lE a,val:=.bool true,born:=clock},clock+1,⟨?_,?_,?_⟩,?_⟩
   ·have hM':=hM.cells;unfold R8 at hM' ⊢
    unfold VO;rw[bLX hna,Array.toList_push,bME,hM',bME,bME];rfl
   ·rw[Array.toList_push,bME,bMB];refine⟨hM.nd,Yf,fun Z R b2 U=>?_⟩;obtain⟨V,I,rfl⟩:=GE.1 R;have:=hM.lt V I;simp only[bMT,bQB,bMI]at U;omega
   ·intro V I;rw[Array.toList_push]at I;rcases bMD.1 I with I|I
    ·have:=hM.lt V I;omega
    ·simp only[bMI]at I;subst I;exact Nat.lt_succ_self _
   ·unfold Instr.mapUpdate;simp only[Ω,TU.of ht w,Ξ,pG hw,hK.chk];rw[hf,hp];simp only[bOG,Ξ,hset]
  |some r=>
   obtain⟨j,m⟩:=r;obtain⟨i,O,hi⟩:=P0 hp;rw[bOM]at O;subst O
   have hSj:S[j]?= some a:=by
    rw[bNB]at hi;obtain⟨a',ha',hk'⟩:=bOY.1 hi;rw[ha',(Prod.mk.inj hk').1]
   have hMi:∀i,(es.toList[i]?).map (fun e:MapEntry=>(e.key,e.val))=(S[i]?).map (fun x:Int×Int=>(lE x,Value.bool true)):=fun i=>by
    have:=hM.cells;unfold R8 at this;rw[←bNB,this,bQC,bNB];rfl
   have hj:=hMi j;rw[hSj]at hj;obtain⟨e0,he0,hke⟩:=bOY.1 hj;simp only[bPO]at hke;have he0':es[j]?= some e0:=by simpa using he0
   have hmod:es.modify j (fun e=>{e with key:=lE a,val:=.bool true})=es:=by
    apply Array.ext_getElem?;intro q;rw[Array.getElem?_modify];by_cases hjq:j=q
    ·subst hjq;simp only[he0',bOC,bNL];obtain⟨k0,v0,b0⟩:=e0;simp only at hke;rw[hke.1,hke.2]
    ·simp[hjq]
   refine⟨es,clock,?_,?_⟩
   ·unfold VO;rw[bMG (n5 hSj)];exact hM
   ·have hks:(Instr.keyThatStays (lE a) (lE a)).run P w=.ok (lE a) w:=by
     have:Instr.sameBits 10000 (lE a) (lE a)=true:=hK.stay a;unfold Instr.keyThatStays;rw[bMG this,ε]
    unfold Instr.mapUpdate;simp only[Ω,TU.of ht w,Ξ,pG hw,hK.chk];rw[hf,hp];simp only[bNL,Ξ,he0',bPK,hke.1,Ω,hks,hset,hmod]
 obtain⟨es',clock',hM',hr⟩:=run;have hHas:bR (A++(b,Obj.map es clock)::B) b (.map es clock) (.map es' clock') (A++(b,.map es' clock')::B):=.app .head;have hs:=h4.set (w':={w with heap:=w.heap.setIfInBounds b (.map es' clock')}) hHas ⟨rfl,rfl⟩ trivial;have:(execOp a'.eval ⟨none,.mapUpdate t x y z,ty,pos,aft,g⟩).run P w=.ok .skip {w with heap:=w.heap.setIfInBounds b (.map es' clock')}:=by
  simp only[execOp,hh.eval hx,hh.eval hy,hh.eval hz,Ω,hr,Ξ,ε]
 rw[this];exact⟨fun h=>Xad,kk es' clock' hM' _ _ ⟨h1,h2,h3,D,hs,h5,Y.step (fun _ p hp=>bMF Yt) (fun _=>lJ ⟨rfl,rfl⟩ (GE.2 ⟨_,hHas.mem,rfl⟩)) hs.dom⟩⟩
theorem aNO{t k e:Θ}{b clock:Nat}{es:Array MapEntry}(ho:all[ix]?= some ⟨some d,.range t x,ty,pos,aft,g⟩)(ht:P.underlying t=some (.map k e))(hx:ev σ x=some (.map (some b)))(hm:(b,Obj.map es clock)∈μ)(hN:Nat.blt d X.N=true)(hg:cZ all σ g)
  (kk:∀r,WL P X bad all K Q os ((d,qP r)::σ) ((r,.mapIter (some b) clock #[] clock)::μ) Ds):WL P X bad all K Q ((fl,ix)::os) σ μ Ds:=by
 refine fJ ho rfl rfl hg fun a w hh=>?_
 obtain⟨h1,h2,h3,D,h4,h5,I⟩:=id hh;have:(execOp a.eval ⟨some d,.range t x,ty,pos,aft,g⟩).run P w=.ok (.value (.pointer (some ⟨w.heap.size,0,none⟩))) {w with heap:=w.heap.push (.mapIter (some b) clock #[] clock)}:=by
  simp only[execOp,hh.eval hx,Ω,run_range_map w t k e b es clock ht (h4.box _ hm).1,Ξ,ε];rfl
 rw[this];exact⟨fun _=>pU _ _ _,kk _ _ _ (Hl.put ⟨h1,h2,h3,D,h4.push _ (show dE (.mapIter (some b) clock #[] clock)from bRD),h5,I.step (fun _ p hp=>Xbi) (fun _=>L5 _ _) (h4.push _ (show dE (.mapIter (some b) clock #[] clock)from bRD)).dom⟩ hN _)⟩
theorem aWD{b r since c0 clock:Nat}{seen:Array Nat}{es:Array MapEntry}{A B:aD}(ho:all[ix]?= some ⟨some d,.next x false,ty,pos,aft,g⟩)(hx:ev σ x=some (qP r))(hm:(b,Obj.map es clock)∈A++(r,.mapIter (some b) since seen c0)::B)
  (hold:∀e∈es.toList,e.born<since) (hsc:since≤c0) (hN:Nat.blt d X.N=true) (hg:cZ all σ g)
  (kk:∀(ok:Bool) (vs:Array Γ) (o':Obj),vs.toList[0]?= some (.bool ok)→(ok=false→(leftOf es seen).size=0∧o'=.mapIter (some b) since seen c0)→(ok=true→∃e∈(leftOf es seen).toList,o'=.mapIter (some b) since (seen.push e.born) clock)→WL P X bad all K Q os ((d,.tuple vs)::σ) (A++(r,o')::B) Ds):
  WL P X bad all K Q ((false,ix)::os) σ (A++(r,.mapIter (some b) since seen c0)::B) Ds:=by
 refine fJ ho rfl rfl hg fun a w hh=>?_
 have I:=hh;obtain⟨h1,h2,h3,D,h4,h5,V⟩:=id hh;have hr:=(h4.box (r,.mapIter (some b) since seen c0) Yf).1;have hb:=(h4.box _ hm).1;rcases run_next_at (P:=P) w ty r b since c0 seen es clock hr hb hold hsc with⟨hl,hrun⟩|⟨e,he,O,R,hrun⟩
 ·have:(execOp a.eval ⟨some d,.next x false,ty,pos,aft,g⟩).run P w=.ok (.value (.tuple #[.bool false])) w:=by
   simp only[execOp,hh.eval hx,Ω,hrun,Ξ,ε]
  rw[this];exact⟨fun h=>Xad,kk false _ _ rfl (fun _=>⟨hl,rfl⟩) (fun h=>Xab) _ _ (I.put hN _)⟩
 ·have U:Hl X σ (A++(r,.mapIter (some b) since seen c0)::B) Ds a O:=by
   rcases R with rfl|rfl
   ·exact I
   ·exact I.drew
  have:(execOp a.eval ⟨some d,.next x false,ty,pos,aft,g⟩).run P w=.ok (.value (.tuple #[.bool true,e.key,e.val])) (ChangeMaps.setBlock O r (.mapIter (some b) since (seen.push e.born) clock)):=by
   simp only[execOp,hh.eval hx,Ω,hrun,Ξ,ε]
  rw[this];obtain⟨h1,h2,h3,D,h4,h5,V⟩:=U;have hHas:bR (A++(r,Obj.mapIter (some b) since seen c0)::B) r (.mapIter (some b) since seen c0) (.mapIter (some b) since (seen.push e.born) clock) (A++(r,.mapIter (some b) since (seen.push e.born) clock)::B):=.app .head;have hs:=h4.set (w':=ChangeMaps.setBlock O r (.mapIter (some b) since (seen.push e.born) clock)) hHas ⟨rfl,rfl⟩ trivial;exact⟨fun h=>Xad,kk true _ _ rfl (fun h=>Xab) (fun _=>⟨e,he,rfl⟩) _ _ (Hl.put ⟨h1,h2,h3,D,hs,h5,V.step (fun _ p hp=>bMF Yt) (fun _=>lJ ⟨rfl,rfl⟩ (GE.2 ⟨_,hHas.mem,rfl⟩)) hs.dom⟩ hN _)⟩
theorem aQD{b r since clock:Nat}{seen:Array Nat}{es:Array MapEntry}{e:MapEntry}(ho:all[ix]?= some ⟨some d,.entry x,ty,pos,aft,g⟩)(hx:ev σ x=some (qP r))(hm:(b,Obj.map es clock)∈μ)(hr:(r,Obj.mapIter (some b) since (seen.push e.born) clock)∈μ)
  (he:e∈es.toList) (hn:(es.toList.map (·.born)).Nodup) (hN:Nat.blt d X.N=true) (hg:cZ all σ g)
  (kk:WL P X bad all K Q os ((d,.tuple #[e.key,e.val])::σ) μ Ds):WL P X bad all K Q ((fl,ix)::os) σ μ Ds:=by
 refine fJ ho rfl rfl hg fun a w hh=>?_
 obtain⟨h1,h2,h3,D,h4,h5,I⟩:=id hh;have:(execOp a.eval ⟨some d,.entry x,ty,pos,aft,g⟩).run P w=.ok (.value (.tuple #[e.key,e.val])) w:=by
  simp only[execOp,hh.eval hx,Ω,run_entry_at w r b since seen es clock e (h4.box _ hr).1 (h4.box _ hm).1 he hn,Ξ,ε]
 rw[this];exact⟨fun _=>pV.refl _ _,kk _ _ (hh.put hN _)⟩
theorem aJU{t e:Θ}{n b l h:Nat}{I k2:IntKind}{i j:Int}(ho:all[ix]?= some ⟨some d,.slice t x (some y) (some z) none,ty,pos,aft,g⟩)(ht:P.underlying t=some (.array n e))(hs:TS P e 1)(hx:ev σ x=some (qP b))
  (hy:ev σ y=some (.int I i)) (hz:ev σ z=some (.int k2 j)) (hi:i=(l:Int)) (hj:j=(h:Int)) (h1:l≤h) (h2:h≤n) (h3:l<n)
  (hN:Nat.blt d X.N=true) (hg:cZ all σ g) (kk:WL P X bad all K Q os ((d,.slice (some ⟨b,l,none⟩) (h-l) (n-l))::σ) μ Ds):WL P X bad all K Q ((fl,ix)::os) σ μ Ds:=by
 subst hi;subst hj
 refine cA ho rfl rfl hN hg (fun ρ hρ w'=>?_) kk;simp only[execOp,hρ x _ hx,hρ y _ hy,hρ z _ hz,bOG,bNL];unfold Instr.sliceAt Instr.sureAddr Instr.sliceBounds Instr.sliceBound asIntOf;have O:(0:Int)≤(l:Int)∧(l:Int)≤(h:Nat):=by omega
 have a2:(0:Int)≤(h:Int)∧(h:Int)≤(n:Nat):=by omega
 simp only[Ω,TU.of ht w',Ξ,hs w',ε,pure_bind,O,a2,bQT,bOC,bNI,bNY];rw[bLX Yd];simp[Addr.add];exact fun h=>h.symm
theorem aPP{t e:Θ}{n b h:Nat}{k2:IntKind}{j:Int}(ho:all[ix]?= some ⟨some d,.slice t x none (some z) none,ty,pos,aft,g⟩)(ht:P.underlying t=some (.array n e))(hs:TS P e 1)(hx:ev σ x=some (qP b))
  (hz:ev σ z=some (.int k2 j)) (hj:j=(h:Int)) (h2:h≤n)
  (hN:Nat.blt d X.N=true) (hg:cZ all σ g) (kk:WL P X bad all K Q os ((d,qS b h n)::σ) μ Ds):WL P X bad all K Q ((fl,ix)::os) σ μ Ds:=by
 subst hj;refine cA ho rfl rfl hN hg (fun ρ hρ w'=>?_) kk;simp only[execOp,hρ x _ hx,hρ z _ hz,bOG,bNL];unfold Instr.sliceAt Instr.sureAddr Instr.sliceBounds Instr.sliceBound asIntOf;have a2:(0:Int)≤(h:Int)∧(h:Int)≤(n:Nat):=by omega
 simp only[Ω,TU.of ht w',Ξ,hs w',ε,pure_bind,a2,bQT,bOC,bNI,bPY,bPU];split<;>simp[Addr.add]
theorem aEJ{D:aC}{b n l h:Nat}{c:List Int}(hA:At D b 0 (ints c))(hl:c.length=n)(h1:l≤h)(h2:h≤n)(hb:n≤9223372036854775807):Sl D RI 1 (.slice (some ⟨b,l,none⟩) (h-l) (n-l)) ((c.drop l).take (h-l)):=by
 have hlen:((c.drop l).take (h-l)).length=h-l:=by simp;omega
 refine⟨_,_,by rw[hlen],Yd,Yd,bLY ⟨b,l,rfl,fun i x hi=>⟨_,rfl,rfl,fun j v hj=>?_⟩⟩⟩;rw[List.getElem?_take]at hi;split at hi
 ·rw[bOJ]at hi;cases j with
  |zero=>
   have h5:v=qI x:=by simpa using hj.symm
   subst h5;have:=hA (l+i) (qI x) (cW hi);simpa using this
  |succ j=>simp at hj
 ·cases hi
theorem bFF{γ:Type}(I:γ→Prop)(S:γ→Bool)(XX:γ→Cx)(M:γ→aD)(xs ys:List (Bool×Nat)){s p:Nat}{b:Bool}(hXr:∀g,(XX g).r=X.r)(ho:os=xs++ys)(hs:look σ s=some (.bool b))
  (hyes:b=true→WL P X bad all (fun a w=>∃g,I g∧Hl (XX g) ((p,.bool (S g))::(s,.bool true)::σ) (M g) Ds a w) Q xs ((s,.bool true)::σ) μ Ds)
  (hno:b=false→WL P X bad all (fun a w=>∃g,I g∧Hl (XX g) ((p,.bool (S g))::(s,.bool false)::σ) (M g) Ds a w) Q xs ((s,.bool false)::σ) μ Ds)
  (k:∀g,I g→WL P (XX g) bad all K Q ys ((p,.bool (S g))::σ) (M g) Ds):WL P X bad all K Q os σ μ Ds:=by
 have hsub:∀u,Value.bool b=u→∀a w,Hl X σ μ Ds a w→Hl X ((s,u)::σ) μ Ds a w:=by
  rintro _ rfl a w ⟨h1,h2,h3⟩;refine⟨h1,fun t v ht=>?_,h3⟩;simp only[look]at ht;cases hb:Nat.beq s t with
  |true=>rw[hb]at ht;cases ht;obtain rfl:=bNO hb;exact h2 _ _ hs
  |false=>rw[hb]at ht;exact h2 _ _ ht
 have hback:∀(X:Cx) u v μ',Value.bool b=u→∀a w,Hl X ((p,v)::(s,u)::σ) μ' Ds a w→Hl X ((p,v)::σ) μ' Ds a w:=by
  rintro X _ v μ' rfl a w ⟨h1,h2,h3⟩;refine⟨h1,fun t v' ht=>?_,h3⟩;refine h2 t v' ?_;simp only[look]at ht ⊢
  cases hp:Nat.beq p t with
  |true=>rw[hp]at ht;exact ht
  |false=>
   rw[hp]at ht;cases hb:Nat.beq s t with
   |true=>obtain rfl:=bNO hb;rw[←ht,hs]
   |false=>exact ht
 subst ho;intro a w hh;cases b
 ·refine WL.append (hno rfl a w (hsub _ rfl a w hh)) ?_;rintro a w ⟨g,hI,h⟩;rw[←hXr g];exact k g hI a w (hback _ _ _ _ rfl a w h)
 ·refine WL.append (hyes rfl a w (hsub _ rfl a w hh)) ?_;rintro a w ⟨g,hI,h⟩;rw[←hXr g];exact k g hI a w (hback _ _ _ _ rfl a w h)

theorem aWK{f:FuncId}{fn:Func}{c:Code}{args:List Γ}{D:aC}{post:aC→Γ→aD→Prop}(N:Nat)(hf:P.funcs[f]?= some fn)(hn:(fn.name== "runtime.NumGoroutine")=false)(hb:fn.body=some c)(hN:fn.ntmps=N)(hsz:Nat.ble args.length N=true)
  (h:∀h0:H0,WC P ⟨none,N,[],h0,h0.size,D,[],none⟩ (T9 P fn (rE ⟨none,N,[],h0,h0.size,D,[],none⟩ post)) c (jJ 0 args) [] [D]):KH P f args.toArray D post:=by
 refine⟨EF.of hf hn hb,fun w hw=>?_⟩;subst hN;have hsz:=bNZ hsz;have hq:∀e a w',T9 P fn (rE ⟨none,fn.ntmps,[],hd w,w.heap.size,D,[],none⟩ post) e a w'→bodyPostM (FW none) 0 P fn (rE ⟨none,fn.ntmps,[],hd w,w.heap.size,D,[],none⟩ post) e a w':=by
  intro e a w' he;cases e<;>first|exact he|exact he.elim
 have hwp:=h (hd w) {tmps:=args.toArray++Array.replicate (fn.ntmps-args.toArray.size) undef,defers:=[]} w ⟨Yap,fun s v hs=>by
  obtain⟨_,h2⟩:=gR args 0 s v hs;have hl:=(bLS.1 h2).1;simp only[bPU]at h2 hl;show(args.toArray++_)[s]?= some v;rw[bON Yay];simpa using h2,rfl,D,⟨bMH _,bMH _,(fun _ _ _=>rfl),(fun _ _=>rfl),hw,Yi,bNW,Yi,fun e he=>bMQ he⟩,(fun D₁ h1=>Xcc),bRD⟩
 refine(dZ (r:=none) (n:=0)).1 ((callsIn_of_wp_marks hf hb bRD (wpIn_mono hwp hq) rfl).mono ?_);rintro e w' ⟨v,D',μ',rfl,hs,hp⟩;exact⟨v,D',μ',rfl,hs,hp⟩
theorem TN{fn:Func}{bd:Nat}{post:aC→Γ→aD→Prop}{e:Exit}(he:(match e with|.normal=>true|.ret=>true|_=>false)=true){rs:List ResultVar}{vs:List Γ}{A B ν':aD}(hds:X.ds=[])(hr:fn.results=rs.toArray)(h:G9 P X σ (A++ν'++B++[(bd,Obj.deferred none)]) rs vs)
  (hp:∀D,(∀D₁∈Ds,Le D₁ D)→post D (rG vs) ν'):∀a w,Hl (X.withDs bd) σ (A++ν'++B++[(bd,Obj.deferred (some []))]) Ds a w→T9 P fn (rE X post) e a w:=by
 intro a w hh;obtain⟨h1,h2,h3,D,h4,h5,I⟩:=hh;have hHas:bR (A++ν'++B++[(bd,Obj.deferred (some []))]) bd (.deferred (some [])) (.deferred none) (A++ν'++B++[(bd,Obj.deferred none)]):=.app .head;have hs:=h4.set (w':=w.putObj bd (.deferred none)) hHas ⟨rfl,rfl⟩ trivial;have hh':Hl X σ (A++ν'++B++[(bd,Obj.deferred none)]) Ds {a with defers:=[]} (w.putObj bd (.deferred none)):=
  ⟨h1,h2,hds.symm,D,hs,h5,I.step (X:=X.withDs bd) (fun _ p hp=>bMF Yt) (fun _=>lJ ⟨rfl,rfl⟩ (GE.2 ⟨_,hHas.mem,rfl⟩)) hs.dom⟩
 have hrun:=jE hh' hr h;have hb:=(h4.box (bd,Obj.deferred (some [])) Yf).1;have hnd:=hs.nd;simp only[bME]at hnd;have hs':iX X.h0 X.lo X.D0 X.mods ν' D (w.putObj bd (.deferred none)):=hs.sub (fun p hp=>bMA _ (bMA _ (GT _ hp))) (bMB.1 (bMB.1 (bMB.1 hnd).1).1).2.1;have:LeavesInM (FW none) 0 P fn a.tmps (rE X post) a.defers .returning w:=by
  have h3':a.defers=[nV bd]:=h3.trans Xcd;rw[h3'];exact⟨Yf,bMF ⟨bd,_,rfl,run_takeDeferred hb,_,hrun,_,D,ν',rfl,hs',hp D h5⟩⟩
 cases e<;>first|exact this|cases he
namespace L2
open L1
open C2
open C1 (gU bN rC pH)
theorem aUJ{c pre:List Int}{n:Int}{i:Nat}(hl:pre.length=i)(hp:c.take (i+1)=pre++[n]):c[(i:Int).toNat]?= some n:=by
 have h:(c.take (i+1))[i]?= some n:=by rw[hp,←hl];simp
 rw[bOU (Nat.lt_succ_self i)]at h;exact h
theorem aLG{step:Int}{c pre:List Int}{n:Int}{i:Nat}(hl:pre.length=i)(hp:c.take (i+1)=pre++[n])(hb:∀x∈pre,0≤x∧x≤99)(_h10:c.length=10)(hi:i<10):
  ∃m,(i≠0→c[((i:Int)-1).toNat]?= some m)∧(0≤m∧m≤99)∧(decide ((i:Int)=0)||gU (n-m) (-step) step)=lG step pre.getLast? n:=by
 rcases List.eq_nil_or_concat pre with rfl|⟨q,m,rfl⟩
 ·refine⟨0,fun h=>absurd hl.symm h,Yd,?_⟩;simp only[bNU]at hl;subst hl;simp[lG]
 ·refine⟨m,fun _=>?_,hb m Yf,?_⟩
  ·have h:(c.take (i+1))[i-1]?= some m:=by
    rw[hp];simp only[List.concat_eq_append,bLT,bOD]at hl;rw[show i-1=q.length by omega];simp
   rw[bOU Yd]at h;rw[show((i:Int)-1).toNat=i-1 by omega];exact h
  ·have:(i:Int)≠0:=by
    simp only[List.concat_eq_append,bLT,bOD]at hl;omega
   unfold lG;rw[decide_eq_false this,Bool.false_or];simp
theorem bGD{c pre:List Int}{i n:Nat}{k:Int}(h:c.length=10)(hi:i<n)(hn:n≤10)(hp:c.take i=pre)(hz:c.drop n=List.replicate (10-n) 0):(c.set i k).length=10∧(c.set i k).take (i+1)=pre++[k]∧(c.set i k).drop n=List.replicate (10-n) 0:=
 ⟨by simp[h],by rw[bLW,List.getElem?_set_self Yd,bMR,List.take_set_of_le (bMH _),hp],by rw[List.drop_set_of_lt hi];exact hz⟩
theorem CG(last step:Int)(hv lv mv:Γ)(c pre:List Int)(n:Int)(i:Nat)(D:aC)(hs:0≤step∧step≤99)(U:c.length=10)(V:i<10)(hl:pre.length=i)(hp:c.take (i+1)=pre++[n])(hb:∀x∈pre,0≤x∧x≤99)(hn:0≤n∧n≤99):
  Fn prog 234 #[.agg #[qI last,hv,qI step,lv,mv],.agg (ints c).toArray,qI (i:Int)] D (fun _ v=>v=.bool (lG step pre.getLast? n)):=by
 have Y:=aUJ hl hp;obtain⟨m,Z,hmb,hnr⟩:=aLG (step:=step) hl hp hb U V;refine Zw 25 func234 rfl fun h0=>aA<|Zy rfl fun q1 E1 hE I=>Zy rfl fun q2 E2 hF O=>Zf rfl<|bW<|bS [] 6 19 64448<|Za rfl<|Was ?_;refine' dQ 15 (s:=9) (p:=24) rfl (fun R=>?_) (fun R=>?_) ?_;rotate_left
 ·have hH:(i:Int)≠0:=by simpa using R
  have hB:=Z Yd;refine Zb rfl<|cD rfl U289 aI rfl rfl Yd Yd rfl ⟨_,rfl,rfl⟩<|iO rfl aH rfl O Yf (cW Y) n4 rfl ⟨_,rfl,rfl⟩<|Zb rfl<|xF rfl rfl rfl Ye rfl ⟨_,rfl,rfl⟩<|cD rfl U289 aI rfl rfl Yd Yd rfl ⟨_,rfl,rfl⟩<|iO rfl aH rfl O Yf (cW hB) n4 rfl ⟨_,rfl,rfl⟩<|xF rfl rfl rfl Ye rfl ⟨_,rfl,rfl⟩<|Zk rfl I6 rfl<|Zi 2 rfl aH rfl I rfl<|aEC rfl rfl Ye rfl ⟨_,rfl,rfl⟩<|Zk rfl I6 rfl ?_;refine Zi 2 rfl aH rfl I rfl<|Ze rfl (fun D1 hI=>fA _ _ _ _)<|Zak rfl ?_;exact aN 14
 ·refine Wak ?_;refine Zg rfl<|Zg rfl<|Zaj rfl ?_;exact aN 14
 refine We ?_;exact aE rfl fun D hD=>by show Value.bool _=_;rw[hnr]
def iY(br bY bc bh:Nat)(c:List Int):aD:=[(bh,qC [.func (.func 233) #[] #[qP br,qP bY,qP bc,qP bh]] 201),(bc,qC (ints c) 289)]
def d5(J Jx:List (List Int)→vZ)(br bY bc bh:Nat)(step:Int)(hs:List (Int×Int))(pre:List Int)(i:Nat)(done:List (List Int))(v:Γ)(J':vZ)(μ':aD):Prop:=
 ∃b c',v=.bool b∧c'.length=10∧c'.take i=pre∧c'.drop hs.length=List.replicate (10-hs.length) 0∧μ'=iY br bY bc bh c'∧(if b=true then J'=J (done++(iF step (hs.drop i) pre.getLast?).map fun t=>dL (pre++t))else ∃p,J'=Jx p)
theorem zJ{lo l:Nat}{J Jx:List (List Int)→vZ}{t:aW}{xs:List (List Int)}{Dr Dy:aC}{Ds:List aC}{br bY bc bh:Nat}{hv lv mv:Γ}(hto:IW t)
  (hs:∀pre,V6 lo (J pre)) (hsx:∀pre,V6 lo (Jx pre)) (hY:aFP prog Dr lo l J Jx xs) (hDr:Dr∈Ds) (hDy:Dy∈Ds) (hA:At Dr br 0 [qI t.last,hv,qI t.step,lv,mv]) (hpl:Sl Dr BL 2 hv t.heights) (hB:At Dy bY 0 [.func (.yield l) #[] #[]]):
  ∀(j i:Nat) (pre c:List Int) (done rest:List (List Int)) (iv:Int),iv=i→i+j=t.heights.length→pre.length=i→c.length=10→c.take i=pre→c.drop t.heights.length=List.replicate (10-t.heights.length) 0→(∀x∈pre,0≤x∧x≤99)→
   xs=done++(iF t.step (t.heights.drop i) pre.getLast?).map (fun t=>dL (pre++t))++rest→
   bJB prog 233 [qI iv,qP br,qP bY,qP bc,qP bh] lo (J done) (iY br bY bc bh c) Ds (d5 J Jx br bY bc bh t.step t.heights pre i done):=by
 intro j;induction j using Nat.strongRecOn with
 |_ j ih=>
 intro i pre c done rest iv hiv hij hl h9 hp hz hpb hxs;subst hiv;have hmx:=hpl.len;have hlast:=hto.last;have hlen:=hto.len;have hF:=hto.len10;refine U6 (μ:=iY br bY bc bh c) 46 func233 rfl rfl rfl rfl<|aA<|Zf rfl<|bG<|Za rfl<|Zj rfl mU rfl<|Zh 0 rfl aH rfl hA rfl<|Zaq rfl<|aF<|Zaf rfl (fun hc1=>?_) fun hc1=>?_
 ·have hin:i=t.heights.length:=by omega
  subst hin;have hleaf:=(YW (l:=pre) (by rw[hl];exact hp) (by rw[hl];exact hz))
  rw[bQP]at hxs;simp only[iF,bMT,bQB,bMM]at hxs;rw[hleaf,bMC,bPI]at hxs;refine aA<|Zh 0 rfl aZL rfl hB rfl<|bI rfl pA rfl Mm1 Yad n4 rfl bRD<|TI (l:=l) (J1:=J (done++[c])) (J0:=Jx (done++[c])) rfl rfl rfl rfl (hs _) (hsx _) (fun D w hd hJ hb hl=>hY done c _ D w ⟨rest,hxs⟩ hd hJ (fun b hbm=>by obtain⟨p,hp,rfl⟩:=GE.1 hbm;exact hb p hp) (hl _ hDr)) rfl bRD fun b1 J1 hH=>Wi ?_
  exact mQ (P:=prog) (fn:=f233) (N:=46) (vs:=[_]) rfl rfl ⟨rfl,bRD⟩ (fun D h=>⟨D,h,Le.refl D⟩) ⟨b1,c,rfl,h9,hp,hz,rfl,by cases b1<;>simp only[hH,bOC,bNN,bOO];exact⟨_,rfl⟩;simp[iF,hleaf]⟩
 ·have hin:i<t.heights.length:=by omega
  obtain⟨r,hri⟩:=cR t.heights i;have hrb:=hto.hts r (n5 hri);have hrg:=tU hrb;have hsz:fN r=r.2-r.1+1:=rfl;have hd:t.heights.drop i=r::t.heights.drop (i+1):=by rw[bNC hin];congr 1;exact bMQ ((bLR hin).symm.trans hri)
  rw[hd,←aDP]at hxs;refine aQ<|bZ<|Zj rfl lQ rfl<|Zh 1 rfl xU rfl hA rfl<|Za rfl<|Zx rfl U76 cN rfl hpl rfl hri fun b1 o1 hI hK hX hN=>?_;obtain rfl:hI=[qI _,qI _]:=hK;refine Zv rfl kK rfl hN cN<|Zd rfl (fun D1 rB=>aBM r hrb _)<|Za rfl<|aF<|Za0<|CZ (γ:=Nat×List Int) (fun g=>(fN r).toNat-g.1) (fun g=>g.1≤(fN r).toNat∧g.2.length=10∧g.2.take i=pre∧g.2.drop t.heights.length=List.replicate (10-t.heights.length) 0) (fun g=>J (done++WA t.step (t.heights.drop (i+1)) pre r g.1)) (fun g=>[(21,qI (g.1:Int))]) [(20,_),(6,_),(0,_),(1,_),(3,_),(4,_)] (fun g=>iY br bY bc bh g.2) (fun g=>Ds) (0,c) ⟨Yf,h9,hp,hz⟩ (by simp[aRQ]) ⟨Ya,bRD⟩ bQ Mm5 (aK) ?_;rintro⟨k,c1⟩ ⟨hO,I,O,R⟩;simp only at hO I O R;refine aA<|Zam rfl<|bW<|Zaf rfl (fun hc2=>?_) fun hc2=>?_
  ·obtain⟨rr,hr⟩:=aSP (step:=t.step) (rs:=t.heights.drop (i+1)) (pre:=pre) (r:=r) (k:=k) (n:=(fN r).toNat) Yd;have hset:=bGD (k:=r.1+(k:Int)) I hin hF O R;have h9s:(c1.set ((i:Int)).toNat (r.1+(k:Int))).length=10:=hset.1;have hpn:∀x∈pre++[r.1+(k:Int)],0≤x∧x≤99:=fun x hx=>by rcases bMD.1 hx with hx|hx;exact hpb x hx;simp only[bMI]at hx;omega
   refine aQ<|Za2<|Za0<|aA<|Za rfl<|Zf rfl<|aJ<|Za rfl<|Zj rfl lQ rfl<|Zh 1 rfl xU rfl hA rfl<|Za rfl<|Zx rfl U76 cN rfl hpl rfl hri fun b2 o2 hP hR rA hS=>?_;obtain rfl:hP=[qI _,qI _]:=hR;refine Zj rfl rO rfl<|Zh 0 rfl aH rfl hS rfl<|Za rfl<|Zae rfl<|cD rfl U289 aI rfl rfl Yd Yd rfl bRD<|d6 rfl aI rfl rfl (.tail ζ) (by simp only[*];omega) bRD<|aJ<|Zv rfl lB rfl hA jP<|bI rfl pA rfl Mm1 Yad n4 rfl bRD<|Za rfl<|Zd rfl (fun D2 hD2=>CG t.last t.step hv lv mv (c1.set i (r.1+(k:Int))) pre (r.1+(k:Int)) i _ hto.step hset.1 Yd hl hset.2.1 hpb Yd)<|Za rfl ?_;refine bFF (γ:=Bool×List Int×vZ) (fun g=>g.2.1.length=10∧g.2.1.take (i+1)=pre++[r.1+(k:Int)]∧g.2.1.drop t.heights.length=List.replicate (10-t.heights.length) 0∧(if g.1=true then ∃p,g.2.2=Jx p else g.2.2=J (done++WA t.step (t.heights.drop (i+1)) pre r (k+1)))) (fun g=>g.1) (fun g=>Xj 46 lo g.2.2) (fun g=>iY br bY bc bh g.2.1) [(false,5),(false,6),(false,7),(false,8),(false,9),(false,10)] [] (s:=38) (p:=44) (fun _=>rfl) rfl rfl (fun U=>?_) (fun U=>?_) ?_
   ·have hnear:lG t.step pre.getLast? (r.1+(k:Int))=true:=by simpa using U
    refine Zp rfl qF rfl Mm0 rfl<|Zb rfl<|wJ rfl rfl rfl Ye rfl ⟨_,rfl,rfl⟩<|wX rfl rfl rfl rfl (ih (j-1) Yd (i+1) (pre++[r.1+(k:Int)]) (c1.set i (r.1+(k:Int))) (done++WA t.step (t.heights.drop (i+1)) pre r k) (rr++rest) (i+1:Int) Yd Yd Yap (by simpa using I) hset.2.1 hset.2.2 hpn (by rw[hxs,hr,aCN hnear];simp)) rfl ⟨_,rfl,rfl⟩ ?_;rintro _ J2 _ ⟨b2,c2,rfl,h9',hp',hz',rfl,hJ2⟩;refine Wcc ?_;exact BJ fun a w hh=>⟨(!b2,c2,J2),⟨h9',hp',hz',by cases b2<;>simp only[Bool.not_true,Bool.not_false,bOC,bNN,bOO]at hJ2 ⊢;exact hJ2;rw[hJ2,aCN hnear,bMC]⟩,hh.cutK 5 rfl⟩
   ·refine Wbf ?_;exact BJ fun a w hh=>⟨(false,c1.set i (r.1+(k:Int)),J (done++WA t.step (t.heights.drop (i+1)) pre r k)),⟨hset.1,hset.2.1,hset.2.2,by simp only[bNN,bOO];rw[bIS (by simpa using U)]⟩,hh.cutK 5 rfl⟩
   rintro⟨b3,c3,J3⟩ ⟨V,Y,Z,hE⟩;simp only at V Y Z hE;refine aF<|Zag rfl (fun hc3=>?_) fun hc3=>?_
   ·obtain rfl:b3=true:=by simpa using hc3
    refine aA<|Wh ?_;exact mQ (P:=prog) (fn:=f233) (N:=46) (vs:=[_]) rfl rfl ⟨rfl,bRD⟩ (fun D h=>⟨D,h,Le.refl D⟩) ⟨false,c3,rfl,V,L1.vX Y hl,Z,rfl,by simpa using hE⟩
   ·obtain rfl:b3=false:=by simpa using hc3
    refine Wca ?_;exact uY 22 (k+1,c3) ⟨Yn,V,L1.vX Y hl,Z⟩ Yn (by simpa using hE) ⟨Ya,bRD⟩ rfl rfl Mm5 (aK)
  ·refine Wk ?_;exact mQ (P:=prog) (fn:=f233) (N:=46) (vs:=[_]) rfl rfl ⟨rfl,bRD⟩ (fun D h=>⟨D,h,Le.refl D⟩) ⟨true,c1,rfl,I,O,R,rfl,by simp only[bOC];rw[hd,←aDP,show k=(fN r).toNat by omega]⟩
theorem aHF(t:aW)(Dr:aC)(br:Nat)(hv lv mv:Γ)(hto:IW t)(hA:At Dr br 0 [qI t.last,hv,qI t.step,lv,mv])(hpl:Sl Dr BL 2 hv t.heights):
  u9 prog 232 [qP br] Dr ((eZ t).map dL) MT:=by
 refine JO 8 func232 rfl rfl rfl rfl fun lo l J Jx hs hsx hY=>aA<|Zy rfl fun R E1 O I=>aJ<|Zad rfl i7 rfl fun U=>aJ<|Zad rfl DO rfl fun V=>aJ<|Zax rfl<|Zr rfl CE ζ rfl<|aF<|aP ?_;refine Zo rfl qF rfl Mm0 rfl<|wX rfl rfl rfl rfl (zJ (l:=l) hto hs hsx hY Yf Yf hA hpl I t.heights.length 0 [] (List.replicate 10 0) [] [] 0 rfl Yd rfl rfl rfl (List.drop_replicate ..) (fun x hx=>by cases hx) (by simp[eZ])) rfl bRD ?_;rintro _ Y _ ⟨b2,c2,rfl,h9',hp',hz',rfl,hJ2⟩;refine Zan ?_;exact mQ (P:=prog) (fn:=f232) (N:=8) (vs:=[]) rfl rfl bRD (fun D h=>⟨D,Xbo,Le.refl D⟩) (by cases b2<;>simp[eZ]at hJ2 ⊢;exact bLY hJ2;exact bMF hJ2)
theorem RX(tv:Γ)(t:aW)(D:aC)(ht:gQ D tv t)(hto:IW t):
  Fn prog 162 #[tv] D (fun D' v=>∃br,v=.func (.func 232) #[] #[qP br]∧u9 prog 232 [qP br] D' ((eZ t).map dL) MT):=by
 obtain⟨hv,lv,mv,rfl,hh,hl,hm⟩:=ht;refine Zw 4 func162 rfl fun h0=>aA<|Zy rfl fun O E1 R I=>Zf rfl<|aJ<|Zax rfl<|We ?_;exact aE rfl fun D hD=>⟨_,rfl,aHF t _ O hv lv mv hto (I.up (hD _ Yf)) (hh.up BL.up (hD _ Yf))⟩
end L2
namespace L7
open C7
theorem kY{α:Type}{p:α→Bool}{xs:List α}{k:Nat}{x:α}(hx:xs[k]?= some x)(h:(xs.take k).any p=false)(hp:p x=true):idxOf p xs=k:=by
 have hk:=(bLS.1 hx).1;have he:=(bLS.1 hx).2;have h1:xs.any p=true:=bQA.2 ⟨x,n5 hx,hp⟩;have h2:xs.findIdx p=k:=by
  rw[List.findIdx_eq hk];refine⟨by rw[he];exact hp,fun j hj=>?_⟩
  have:=List.any_eq_false.1 h (xs[j]'Yd) (by
   rw[List.mem_take_iff_getElem];exact⟨j,Yd,rfl⟩)
  simpa using this
 simp[idxOf,h1,h2]
theorem hC{α:Type}{p:α→Bool}{xs:List α}(h:xs.any p=false):idxOf p xs= -1:=by simp[idxOf,h]
theorem lC{α:Type}{p:α→Bool}{xs:List α}:decide (0≤idxOf p xs)=xs.any p:=by
 unfold idxOf;cases h:xs.any p<;>simp
theorem oO{α:Type}{p:α→Bool}{xs:List α}:(!xs.any fun x=> !p x)=xs.all p:=by
 rw[List.all_eq_not_any_not]
theorem fA(n lo hi:Int)(D:aC):Fn prog 179 #[qI n,qI lo,qI hi] D (fun _ v=>v=.bool (gU n lo hi)):=by
 refine Zw 15 func179 rfl fun h0=>Wab ?_;refine' bU 4 (s:=10) (p:=14) rfl (fun I=>?_) (fun I=>?_) ?_;rotate_left
 ·refine Wbe ?_;exact aN 3
 ·refine Wb ?_;exact aN 3
 refine We ?_;exact aE rfl fun D hD=>rfl
theorem aDO(n lo hi:Int)(D:aC):Fn prog 198 #[qI n,qI lo,qI hi] D (fun _ v=>v=.bool (gU n lo hi)):=by
 refine Zw 15 func198 rfl fun h0=>Wbk ?_;refine' bU 4 (s:=10) (p:=14) rfl (fun I=>?_) (fun I=>?_) ?_;rotate_left
 ·refine Wbe ?_;exact aN 3
 ·refine Wb ?_;exact aN 3
 refine We ?_;exact aE rfl fun D hD=>Xcz
theorem xN(sv fv:Γ)(xs:List Int)(p:Int→Bool)(D:aC)(hS:Sl D RI 1 sv xs)(hp:dB prog D iV fv p):
  Fn prog 301 #[sv,fv] D (fun _ v=>v=qI (idxOf p xs)):=by
 have hl:=hS.len;obtain⟨f,c1,c2,rfl,hf⟩:=hp;refine Zw 19 func301 rfl fun h0=>aA<|Zf rfl<|bG<|Za rfl<|eN rfl U35 rfl Yl rfl rfl bRD<|Wd ?_;rintro k ⟨h1,h2⟩;refine aA<|Zam rfl<|bW<|Zaf rfl (fun hc1=>?_) fun hc1=>?_
 ·have hk:k<xs.length:=by omega
  obtain⟨x,hx⟩:=cR xs k;refine aQ<|Za2<|Za0<|aA<|Za rfl<|Zf rfl<|aJ<|Za rfl<|Za rfl<|Za rfl<|eA rfl U35 aI rfl Yl rfl Yd Yl rfl bRD fun Y Z I O V R=>?_;obtain rfl:I=[qI _]:=O;refine Zh 0 rfl aH rfl R rfl<|Zd rfl (fun D1 U=>hf x _ (U _ Yf))<|aF<|Zag rfl (fun hc2=>?_) fun hc2=>?_
  ·refine Wbc ?_;exact aE rfl fun D hD=>Xam
  ·refine Wca ?_;have hpx:p x=false:=hc2;have h3:(xs.take (k+1)).any p=false:=by rw[bLW,hx,bPJ,h2];simp[hpx]
   exact aL 12 (k+1) ⟨Yd,h3⟩ Yd ⟨Ya,bRD⟩ rfl rfl Mm5 (aK)
 ·refine Wk ?_;exact aE rfl fun D hD=>Xah
theorem nN(sv fv:Γ)(xs:List Int)(p:Int→Bool)(D:aC)(hS:Sl D RI 1 sv xs)(hp:dB prog D iV fv p):
  Fn prog 218 #[sv,fv] D (fun _ v=>v=.bool (xs.any p)):=by
 refine Zw 9 func218 rfl fun h0=>Wbw ?_;exact aE rfl fun D hD=>Xai
theorem N0(b:Nat)(fv:Γ)(p:Int→Bool)(x:Int)(D:aC)(hp:dB prog D iV fv p)(hB:At D b 0 [fv]):
  Fn prog 339 #[iV x,qP b] D (fun _ v=>v=.bool (!p x)):=by
 obtain⟨f,c1,c2,rfl,hf⟩:=hp;refine Zw 8 func339 rfl fun h0=>Wam ?_;exact aE rfl fun D hD=>rfl
theorem Y0(sv fv:Γ)(xs:List Int)(p:Int→Bool)(D:aC)(hS:Sl D RI 1 sv xs)(hp:dB prog D iV fv p)(h1:fv.cells=#[fv]):
  Fn prog 311 #[sv,fv] D (fun _ v=>v=.bool (xs.all p)):=by
 refine Zw 9 func311 rfl fun h0=>aA<|sW (vs:=[fv]) rfl rfl h1 rfl bRD fun b O I hB=>Wag ?_;exact aE rfl fun D hD=>Xan
theorem xL(sv fv:Γ)(xs:List Ch)(p:Ch→Bool)(D:aC)(hS:Sl D zS 4 sv xs)(hp:dB prog D bJA fv p):
  Fn prog 310 #[sv,fv] D (fun _ v=>v=qI (idxOf p xs)):=by
 have hl:=hS.len;obtain⟨f,c1,c2,rfl,hf⟩:=hp;refine Zw 19 func310 rfl fun h0=>aA<|Zf rfl<|bG<|Za rfl<|eN rfl U84 rfl Yl rfl rfl bRD<|Wd ?_;rintro k ⟨h1,h2⟩;refine aA<|Zam rfl<|bW<|Zaf rfl (fun hc1=>?_) fun hc1=>?_
 ·have hk:k<xs.length:=by omega
  obtain⟨x,hx⟩:=cR xs k;refine aQ<|Za2<|Za0<|aA<|Za rfl<|Zf rfl<|aJ<|Za rfl<|Za rfl<|Za rfl<|eA rfl U84 mC rfl Yl rfl Yd Yl rfl bRD fun Y Z I O V R=>?_;obtain rfl:I=[qI _,qI _,qI _,qI _]:=O;refine Zv rfl MS rfl R mC<|Zd rfl (fun D1 U=>hf x _ (U _ Yf))<|aF<|Zag rfl (fun hc2=>?_) fun hc2=>?_
  ·refine Wbc ?_;exact aE rfl fun D hD=>Xam
  ·refine Wca ?_;have hpx:p x=false:=hc2;have h3:(xs.take (k+1)).any p=false:=by rw[bLW,hx,bPJ,h2];simp[hpx]
   exact aL 12 (k+1) ⟨Yd,h3⟩ Yd ⟨Ya,bRD⟩ rfl rfl Mm5 (aK)
 ·refine Wk ?_;exact aE rfl fun D hD=>Xah
theorem sE(sv fv:Γ)(xs:List Ch)(p:Ch→Bool)(D:aC)(hS:Sl D zS 4 sv xs)(hp:dB prog D bJA fv p):
  Fn prog 244 #[sv,fv] D (fun _ v=>v=.bool (xs.any p)):=by
 refine Zw 9 func244 rfl fun h0=>aA<|Zf rfl<|aJ<|Za rfl<|Za rfl<|Zd rfl (fun O I=>xL _ _ xs p _ (Sl.at zS.up I Yl Yf) (hp.up (I _ Yf)))<|Ww ?_;exact aE rfl fun D hD=>Xai
theorem FU(b:Nat)(fv:Γ)(p:Ch→Bool)(x:Ch)(D:aC)(hp:dB prog D bJA fv p)(hB:At D b 0 [fv]):
  Fn prog 245 #[bJA x,qP b] D (fun _ v=>v=.bool (!p x)):=by
 obtain⟨f,c1,c2,rfl,hf⟩:=hp;refine Zw 8 func245 rfl fun h0=>aA<|Zy rfl fun U E1 R I=>Zf rfl<|aJ<|Zh 0 rfl aZX rfl hB rfl<|Zv rfl MS rfl I mC<|Wv ?_;exact aE rfl fun D hD=>rfl
theorem NT(sv fv:Γ)(xs:List Ch)(p:Ch→Bool)(D:aC)(hS:Sl D zS 4 sv xs)(hp:dB prog D bJA fv p)(h1:fv.cells=#[fv]):
  Fn prog 180 #[sv,fv] D (fun _ v=>v=.bool (xs.all p)):=by
 refine Zw 9 func180 rfl fun h0=>aA<|sW (vs:=[fv]) rfl rfl h1 rfl bRD fun b O I hB=>Zf rfl<|aJ<|Za rfl<|Zax rfl<|Zd rfl (fun O I=>sE _ _ xs (fun x=> !p x) _ (Sl.at zS.up I Yl Yf) ⟨_,[],[qP b],rfl,fun x R hl=>FU b fv p x R (hp.up ((I _ Yf).trans hl)) (hB.up ((I _ Yf).trans hl))⟩)<|Zas rfl<|We ?_;exact aE rfl fun D hD=>Xan
theorem xK(sv fv:Γ)(xs:List (Int×Int))(p:(Int×Int)→Bool)(D:aC)(hS:Sl D R2 2 sv xs)(hp:dB prog D lE fv p):
  Fn prog 313 #[sv,fv] D (fun _ v=>v=qI (idxOf p xs)):=by
 have hl:=hS.len;obtain⟨f,c1,c2,rfl,hf⟩:=hp;refine Zw 19 func313 rfl fun h0=>aA<|Zf rfl<|bG<|Za rfl<|eN rfl U85 rfl Yl rfl rfl bRD<|Wd ?_;rintro k ⟨h1,h2⟩;refine aA<|Zam rfl<|bW<|Zaf rfl (fun hc1=>?_) fun hc1=>?_
 ·have hk:k<xs.length:=by omega
  obtain⟨x,hx⟩:=cR xs k;refine aQ<|Za2<|Za0<|aA<|Za rfl<|Zf rfl<|aJ<|Za rfl<|Za rfl<|Za rfl<|eA rfl U85 cQ rfl Yl rfl Yd Yl rfl bRD fun Y Z I O V R=>?_;obtain rfl:I=[qI _,qI _]:=O;refine Zv rfl nO rfl R cQ<|Zd rfl (fun D1 U=>hf x _ (U _ Yf))<|aF<|Zag rfl (fun hc2=>?_) fun hc2=>?_
  ·refine Wbc ?_;exact aE rfl fun D hD=>Xam
  ·refine Wca ?_;have hpx:p x=false:=hc2;have h3:(xs.take (k+1)).any p=false:=by rw[bLW,hx,bPJ,h2];simp[hpx]
   exact aL 12 (k+1) ⟨Yd,h3⟩ Yd ⟨Ya,bRD⟩ rfl rfl Mm5 (aK)
 ·refine Wk ?_;exact aE rfl fun D hD=>Xah
theorem rW(sv fv:Γ)(xs:List (Int×Int))(p:(Int×Int)→Bool)(D:aC)(hS:Sl D R2 2 sv xs)(hp:dB prog D lE fv p):
  Fn prog 247 #[sv,fv] D (fun _ v=>v=.bool (xs.any p)):=by
 refine Zw 9 func247 rfl fun h0=>aA<|Zf rfl<|aJ<|Za rfl<|Za rfl<|Zd rfl (fun O I=>xK _ _ xs p _ (Sl.at R2.up I Yl Yf) (hp.up (I _ Yf)))<|Ww ?_;exact aE rfl fun D hD=>Xai
theorem DV(b:Nat)(fv:Γ)(p:(Int×Int)→Bool)(x:(Int×Int))(D:aC)(hp:dB prog D lE fv p)(hB:At D b 0 [fv]):
  Fn prog 248 #[lE x,qP b] D (fun _ v=>v=.bool (!p x)):=by
 obtain⟨f,c1,c2,rfl,hf⟩:=hp;refine Zw 8 func248 rfl fun h0=>aA<|Zy rfl fun U E1 R I=>Zf rfl<|aJ<|Zh 0 rfl aWR rfl hB rfl<|Zv rfl nO rfl I cQ<|Wv ?_;exact aE rfl fun D hD=>rfl
theorem MO(sv fv:Γ)(xs:List (Int×Int))(p:(Int×Int)→Bool)(D:aC)(hS:Sl D R2 2 sv xs)(hp:dB prog D lE fv p)(h1:fv.cells=#[fv]):
  Fn prog 182 #[sv,fv] D (fun _ v=>v=.bool (xs.all p)):=by
 refine Zw 9 func182 rfl fun h0=>aA<|sW (vs:=[fv]) rfl rfl h1 rfl bRD fun b O I hB=>Zf rfl<|aJ<|Za rfl<|Zax rfl<|Zd rfl (fun O I=>rW _ _ xs (fun x=> !p x) _ (Sl.at R2.up I Yl Yf) ⟨_,[],[qP b],rfl,fun x R hl=>DV b fv p x R (hp.up ((I _ Yf).trans hl)) (hB.up ((I _ Yf).trans hl))⟩)<|Zas rfl<|We ?_;exact aE rfl fun D hD=>Xan
theorem FP(sv:Γ)(x:Int)(xs:List Int)(D:aC)(hS:Sl D RI 1 sv (x::xs)):
  Fn prog 223 #[sv] D (fun _ v=>v=qI (xs.foldl min x)):=by
 have hl:=hS.len;simp only[bLU]at hl;refine Zw 25 func223 rfl fun h0=>aA<|Zf rfl<|bG<|Za rfl<|eN rfl U35 rfl Yl rfl rfl bRD<|Zam rfl<|aF<|Zaf rfl (fun hc1=>?_) fun hc1=>?_
 ·exact absurd hc1 (by simp only[bLU];omega)
 ·refine aQ<|aA<|Za rfl<|eA rfl U35 aI rfl Yl rfl Yd Ybb rfl bRD fun b1 o1 I O Z R=>?_;obtain rfl:I=[qI _]:=O;refine Wae ?_;rintro k h1;refine bZ<|Za rfl<|Za rfl<|eN rfl U35 rfl Yl rfl rfl bRD<|Zam rfl<|aF<|Zaf rfl (fun hc2=>?_) (fun hc2=>?_)
  ·simp only[bLU]at hc2;have hk:k<xs.length:=by omega
   obtain⟨y,hy⟩:=cR xs k;have hE:(x::xs)[(k+1:Int).toNat]?= some y:=by rw[show((k:Int)+1).toNat=k+1 by omega];simpa using hy
   refine aQ<|Za2<|Za0<|aP<|Za rfl<|Za rfl<|Za rfl<|eA rfl U35 aI rfl Yl rfl Yd Yl rfl bRD fun b2 o2 U V hB Y=>?_;obtain rfl:U=[qI _]:=V;refine Zh 0 rfl aH rfl Y rfl<|y7 rfl rfl rfl rfl bRD<|Wt ?_;have h3:(xs.take (k+1)).foldl min x=min ((xs.take k).foldl min x) y:=by rw[bLW,hy,bNM];rfl
   exact Zn 16 (k+1) ⟨(by rw[h3];rfl),Ya,bRD⟩ rfl Mm5
  ·simp only[bLU]at hc2;refine Wl ?_;exact aE rfl fun D hD=>Xce
theorem nF(sv:Γ)(x:Int)(xs:List Int)(D:aC)(hS:Sl D RI 1 sv (x::xs)):
  Fn prog 187 #[sv] D (fun _ v=>v=qI (xs.foldl min x)):=by
 refine Zw 5 func187 rfl fun h0=>War ?_;exact aE rfl fun D hD=>rfl
theorem bCO{p:Pt}:(p.l== [1,1,1])=iA p:=by
 obtain⟨a,b,c⟩:=p;simp only[iA,Pt.l,Pt.mk.injEq];rw[bOX];simp
theorem aMZ{m k i:Nat}(hk:m.testBit k=true)(h1:i≤k)(h:((m >>> i:Nat):Int)%2=0):i+1≤k:=by
 rw[mH]at h;have:i≠k:=by rintro rfl;rw[hk]at h;simp at h
 omega
theorem bAK{m k i:Nat}(hl:∀i,i<k→m.testBit i=false)(h1:i≤k)(h:¬((m >>> i:Nat):Int)%2=0):i=k:=by
 rw[mH]at h;by_cases hi:i<k
 ·rw[hl i hi]at h;simp at h
 ·omega
theorem HC(r:Int×Int)(n:Int)(D:aC):Fn prog 254 #[lE r,qI n] D (fun _ v=>v=.bool (gU n r.1 r.2)):=by
 refine Zw 11 func254 rfl fun h0=>aA<|Zy rfl fun U E1 O I=>Zf rfl<|aJ<|Za rfl<|Zj rfl uP rfl<|Zh 0 rfl aH rfl I rfl<|Zj rfl uR rfl<|Zh 1 rfl aH rfl I rfl<|Zd rfl (fun V R=>fA _ _ _ _)<|Zf rfl ?_;refine aG ?_;exact aE rfl fun D hD=>rfl
theorem vF(r:Int×Int)(n:Int)(D:aC):Fn prog 111 #[lE r,qI n] D (fun _ v=>v=lE (min r.1 n,max r.2 n)):=by
 refine Zw 15 func111 rfl fun h0=>aA<|Zy rfl fun q1 E1 Z R=>Zad rfl jS rfl fun q2=>bW<|iK [] 4 [0,1,2,5,6,7,8,3,4,9,10] [false,false,true,true,true,true,true,true,true,false,false] [(false,0),(false,1),(true,2),(true,5),(true,6),(true,7),(true,8),(true,3),(true,4),(false,9),(false,10)] bB (fun _ _ _ h=>fM (P:=prog) (fn:=f111) _ _ _ h) Yg rfl<|Zj rfl uP rfl<|Zh 0 rfl aH rfl R rfl<|Za rfl<|Zj rfl uR rfl<|Zh 1 rfl aH rfl R rfl<|Za rfl ?_;refine nZ rfl rfl rfl rfl bRD<|Zt rfl U35 aI cO rfl (.cons rfl rfl (.cons rfl rfl .nil)) fun Y D901 U I=>?_;have O:=Sl.ofInts (l:=[_,_]) (n:=2) (cap:=2) I rfl Yd Yd;refine Zd rfl (fun D1 V=>nF _ r.1 [n] _ (O.up RI.up (V _ Yf)))<|Zu [qI (min r.1 n),qI (max r.2 n)] rfl j0 jS rfl<|Zz rfl cQ ζ<|aG ?_;exact Zq [_] rfl ⟨⟨_,_,_,rfl,Mm0,Or.inr ⟨nO,Xbc,rfl⟩⟩,bRD⟩ fun D hD=>rfl
theorem aLO(n m:Int)(b:Nat)(D:aC)(hB:At D b 0 [qI m]):Fn prog 312 #[qI n,qP b] D (fun _ v=>v=.bool (gU n 0 m)):=by
 refine Zw 7 func312 rfl fun h0=>aA<|Zf rfl<|aJ<|Za rfl<|Zh 0 rfl aH rfl hB rfl<|Zd rfl (fun O I=>fA _ _ _ _)<|We ?_;exact aE rfl fun D hD=>rfl
theorem aTO(p:Pt)(m:Int)(D:aC):Fn prog 246 #[bKF p,qI m] D (fun _ v=>v=.bool (RW p m)):=by
 refine Zw 8 func246 rfl fun h0=>aA<|Zy rfl fun q1 E1 U O=>Zy rfl fun V E2 Y R=>Zf rfl<|aJ<|aOF rfl U312 aI rfl rfl bRD<|Zax rfl<|Zd rfl (fun D1 I=>Y0 _ _ p.l (fun x=>gU x 0 m) _ (Sl.ofInts (l:=p.l) (n:=3) (cap:=3) (O.up (I _ Yf)) rfl Yd Yd) ⟨_,[],[_],rfl,fun x Z hl=>aLO x m V Z (R.up ((I _ Yf).trans hl))⟩ rfl)<|We ?_;exact aE rfl fun D hD=>rfl
theorem HY(c:Ch)(D:aC):Fn prog 181 #[bJA c] D (fun _ v=>v=.bool (kI c)):=by
 refine Zw 11 func181 rfl fun h0=>aA<|Zy rfl fun Y E1 R I=>Zf rfl<|aJ<|Zj rfl AM rfl<|Zh 0 rfl aH rfl I rfl<|Zd rfl (fun Z U=>fA _ _ _ _)<|Za rfl ?_;refine' bU 4 (s:=6) (p:=10) rfl (fun O=>?_) (fun O=>?_) ?_;rotate_left
 ·refine Zk rfl Q8 rfl<|dY rfl (k:=1) qE oQ rfl I Yc rfl rfl n4 rfl ⟨_,rfl,rfl⟩<|Ze rfl (fun D2 V=>aTO c.parts 2 _)<|Zaj rfl ?_;exact aN 3
 ·refine Wb ?_;exact aN 3
 refine We ?_;exact aE rfl fun D hD=>rfl
theorem aVL(yv:Γ)(y:bC)(r:Int×Int)(D:aC)(hy:iR D yv y):Fn prog 178 #[yv,lE r] D (fun _ v=>v=.bool (mF r)):=by
 obtain⟨cv,qv,rfl,hc,hq⟩:=hy;refine Zw 20 func178 rfl fun h0=>aA<|Zy rfl fun Z E1 U V=>Zy rfl fun q2 E2 Y I=>Zf rfl<|aJ<|Zj rfl uP rfl<|Zh 0 rfl aH rfl I rfl<|gX rfl rfl rfl rfl bRD<|Za rfl ?_;refine' bU 6 (s:=8) (p:=14) rfl (fun O=>?_) (fun O=>?_) ?_;rotate_left
 ·refine Zk rfl uP rfl<|Zi 0 rfl aH rfl I rfl<|Zk rfl uR rfl<|Wbq ?_;exact aN 5
 ·refine Wbf ?_;exact aN 5
 refine Za rfl ?_;refine' bU 4 (s:=15) (p:=19) rfl (fun R=>?_) (fun R=>?_) ?_;rotate_left
 ·refine Zk rfl uR rfl<|Wbq ?_;exact aN 3
 ·refine Wb ?_;exact aN 3
 refine We ?_;exact aE rfl fun D hD=>rfl
theorem b6(p:Pt)(D:aC):Fn prog 251 #[bKF p] D (fun _ v=>v=.bool (iA p)):=by
 refine Zw 6 func251 rfl fun h0=>aA<|Zy rfl fun R E1 O I=>Zf rfl<|aJ<|cU rfl qE rfl I Yc Yac n4 rfl bRD<|j7 (cs:=[qI 1,qI 1,qI 1]) rfl U312 aI d7 rfl rfl rfl bRD<|WU (l:=p.l) (m:=[1,1,1]) rfl Yg U312 U3 Yg rfl rfl rfl rfl rfl bRD<|We ?_;exact aE rfl fun D hD=>by show Value.bool _=_;rw[bCO]
theorem aIL(m k:Nat)(D:aC)(hk:m.testBit k=true)(I:k≤60)(hl:∀i,i<k→m.testBit i=false):Fn prog 314 #[qI (m:Int)] D (fun _ v=>v=qI (k:Int)):=by
 refine Zw 11 func314 rfl fun h0=>aA<|Zf rfl<|bW<|Za0<|bK (γ:=Nat) (fun i=>k-i) (fun i=>i≤k) (fun i=>[(2,qI (i:Int))]) [(0,_)] (fun i=>[D]) 0 Yd ⟨Ya,bRD⟩ ⟨rfl,bRD⟩ (aK) ?_;rintro i h1;refine bZ<|Za rfl<|Za rfl<|V3 rfl rfl rfl Yd rfl bRD<|yJ rfl rfl rfl (bQG _) Yd Xch rfl bRD<|Zap rfl<|aF<|Zaf rfl (fun hc1=>?_) fun hc1=>?_
 ·refine aQ<|Za0<|aP<|Za rfl<|Zae rfl<|Zf rfl<|Zan<|Za3 ?_;exact aL 9 (i+1) (aMZ hk h1 hc1) (by have:=aMZ hk h1 hc1;omega) ⟨Ya,bRD⟩ rfl rfl Mm5 (aK)
 ·obtain rfl:=bAK hl h1 hc1;refine Wl ?_;exact aE rfl fun D hD=>rfl
end L7
end Go.Fs
