/- Of BookPlays. -/
import Derived.Test.YtdjdcpieiedfgaaGreatDoorZBookPlaysAB
import Derived.Maps.RangeRun
namespace Go.Fs
variable{P:Program}{X:Cx}{γb:Type}[Membership Nat γb]{bad:γb}{all:Array Oper}{K:Act→Δ→Prop}{Q:Exit→Act→Δ→Prop}
variable{σ:cD}{μ:aD}{Ds:List aC}{os:List (Bool×Nat)}{fl:Bool}{ix:Nat}
variable{d:Nat}{x y z:Operand}{u v:Γ}{ty:Θ}{pos:String}{aft:Array Edge}{g:Option (Nat×Bool)}
def KN(β:List Nat)(D:aC)(w:Δ)(bo:Nat)(cs:List Γ):Prop:=bo∈β∧D bo=[]∧∃e fz,w.heap[bo]?= some (.cells cs.toArray e fz)
def jC(D:aC)(bo:Nat)(cs:List Γ):aC:=fun c=>if c=bo then cs else D c
theorem d9{D:aC}{bo:Nat}{cs:List Γ}(h:D bo=[])(h0:bo≠0):Le D (jC D bo cs):=⟨fun c=>by
 unfold jC;split
 ·rename_i e;subst e;rw[h];exact bQB
 ·exact List.prefix_refl _,by unfold jC;rw[bLI (Ne.symm h0)]⟩
theorem UU(D:aC)(bo:Nat)(cs:List Γ):At (jC D bo cs) bo 0 cs:=fun j v hj=>by unfold jC;simpa using hj
theorem IJ{D:aC}{w:Δ}{bo:Nat}{cs:List Γ}{e:Θ}{fz:Nat×Nat}(h:fO D w)(hb:w.heap[bo]?= some (.cells cs.toArray e fz))(hD:D bo=[]):fO (jC D bo cs) w:=h.of (fun c hc=>by
 unfold jC at hc ⊢
 split
 ·rename_i ec;subst ec;exact⟨_,_,_,hb,List.prefix_refl _⟩
 ·rename_i ec;rw[bLI ec]at hc;exact h.1 c hc) (by unfold jC;rw[bLI (Ne.symm (h.ne0 hD))]) rfl
theorem jE.hide{w w':Δ}{D D':aC}{mods:List Nat}{μ:aD}{bo:Nat}{cs:List Γ}(h:jE (hd w) w.heap.size (jC D bo cs) mods μ D' w')(hD:D bo=[])(I:bo≠0):jE (hd w) w.heap.size D mods μ (jC D' bo []) w':=by
 refine⟨h.hlo,h.size,h.old,fun b hb=>?_,h.agr.of (fun b hb=>?_) (by unfold jC;rw[bLI (Ne.symm I)]) rfl,fun p hp=>?_,h.nd,h.fz,h.env⟩
 ·unfold jC;split
  ·rename_i e;subst e;exact hD.symm
  ·rename_i e;rw[h.dold b hb];unfold jC;rw[bLI e]
 ·unfold jC at hb ⊢
  split
  ·rename_i e;rw[bLR e]at hb;exact absurd rfl hb
  ·rename_i e;rw[bLI e]at hb;exact h.agr.1 b hb
 ·obtain⟨h1,h2,h3⟩:=h.box p hp;refine⟨h1,?_,h3⟩;unfold jC;split
  ·rfl
  ·exact h2
def bDL{α:Type}(P:Program)(f:FuncId)(cap:List Γ)(Dr:aC)(xs:List α)(enc:Nat→List Γ)(cells:α→List Γ):Prop:=
 EF P f∧∀(lo l:Nat) (J Jx:List α→wC),(∀pre,T1 lo (J pre))→(∀pre,T1 lo (Jx pre))→
  (∀pre x β D w bo,(∃r,xs=pre++x::r)→G2 lo D w→J pre β D w→(∀b∈β,b<w.heap.size)→Le Dr D→KN β D w bo (cells x)→
   jO P l (enc bo) w fun b D' w'=>G2 lo D' w'∧G5 β D w D' w'∧(if b then J (pre++[x]) β D' w' else Jx (pre++[x]) β D' w'))→
  ∀D w,G2 lo D w→Le Dr D→J [] [] D w→Calls P f (.func (.yield l) #[] #[]::cap).toArray w fun e w'=>∃v D',e=.returned v∧G2 lo D' w'∧(J xs [] D' w'∨∃pre,Jx pre [] D' w')
theorem aQD{J J1 J0:wC}{l:Nat}{c:Operand}{xs:Array Operand}{ats:Array Θ}{vs:List Γ}(ho:all[ix]?= some ⟨some d,.call {callee:=.value c,args:=xs,argTypes:=ats},ty,pos,aft,g⟩)
  (hc:ev σ c=some (.func (.yield l) #[] #[])) (hxs:x5 σ xs.toList=some vs) (hex:X.ex=some J) (hfl:fl=false) (h0:X.h0=⟨#[],none⟩) (_hm:X.mods=[]) (I:T1 X.lo J1) (O:T1 X.lo J0)
  (hY:∀D w,G2 X.lo D w→J (μ.map (·.1)) D w→(∀p∈μ,w.heap[p.1]?= some p.2∧D p.1=[])→(∀D₁∈Ds,Le D₁ D)→jO P l vs w fun b D' w'=>G2 X.lo D' w'∧G5 (μ.map (·.1)) D w D' w'∧(if b then J1 (μ.map (·.1)) D' w' else J0 (μ.map (·.1)) D' w'))
  (hN:Nat.blt d X.N=true) (hg:dH all σ g)
  (U:WL P (X.withEx J1) bad all K Q os ((d,.bool true)::σ) μ Ds) (V:WL P (X.withEx J0) bad all K Q os ((d,.bool false)::σ) μ Ds):WL P X bad all K Q ((fl,ix)::os) σ μ Ds:=by
 refine fG ho rfl rfl hg fun a w hh=>?_
 obtain⟨h1,h2,h3,D,h4,h5,R⟩:=id hh;have hJ:J (μ.map (·.1)) D w:=by unfold Q6 at R;rw[hex]at R;exact R.2
 obtain⟨fn,tmps,assign,body,hy,hr⟩:=hY D w h4.dom hJ (fun p hp=>⟨(h4.box p hp).1,(h4.box p hp).2.1⟩) h5;have e:xs.map a.eval=vs.toArray:=by rw[←mD (fun _ _ hx=>hh.eval hx) hxs,←bPW]
 have hrun:(execOp a.eval ⟨some d,.call {callee:=.value c,args:=xs,argTypes:=ats},ty,pos,aft,g⟩).run P w=.ok (.round l fn tmps assign body) w:=by
  simp only[execOp,resolve,hh.eval hc,Deferred.ofValue,pure_bind,invoke,e];rw[←hy];simp
 rw[hrun];refine⟨fun h=>Xab,(FY hr).mono ?_⟩;rintro e' w' ⟨b,D',rfl,hd',hh',hb⟩;have hst:jE X.h0 X.lo X.D0 X.mods μ D' w':=by
  refine⟨h4.hlo,hd'.2,(fun b hb=>Xbi),(fun b hb=>Xbi),hd'.1,fun p hp=>?_,h4.nd,h4.fz,fun e he=>by rw[h0]at he;cases he⟩;obtain⟨p1,p2,p3⟩:=h4.box p hp;obtain⟨Y,Z⟩:=hh'.2.2 p.1 (bKX.2 ⟨p,hp,rfl⟩);exact⟨Y.trans p1,Z.trans p2,p3⟩
 have hds:∀D₁∈Ds,Le D₁ D':=fun D₁ hD₁=>(h5 D₁ hD₁).trans hh'.2.1
 refine⟨(fun h=>by rw[hfl]at h;cases h),?_⟩;cases b with
 |true=>
  refine U _ _ (Hl.put (X:=X.withEx J1) ⟨h1,h2,h3,D',hst,hds,⟨I,hb⟩⟩ hN _)
 |false=>
  refine V _ _ (Hl.put (X:=X.withEx J0) ⟨h1,h2,h3,D',hst,hds,⟨O,hb⟩⟩ hN _)
theorem KF{J J1 J0:wC}{l N lo:Nat}{c:Operand}{xs:Array Operand}{ats:Array Θ}{vs:List Γ}(ho:all[ix]?= some ⟨some d,.call {callee:=.value c,args:=xs,argTypes:=ats},ty,pos,aft,g⟩)
  (hc:ev σ c=some (.func (.yield l) #[] #[])) (hxs:x5 σ xs.toList=some vs) (hfl:fl=false) (I:T1 lo J1) (O:T1 lo J0)
  (hY:∀D w,G2 lo D w→J (μ.map (·.1)) D w→(∀p∈μ,w.heap[p.1]?= some p.2∧D p.1=[])→(∀D₁∈Ds,Le D₁ D)→jO P l vs w fun b D' w'=>G2 lo D' w'∧G5 (μ.map (·.1)) D w D' w'∧(if b then J1 (μ.map (·.1)) D' w' else J0 (μ.map (·.1)) D' w'))
  (hN:Nat.blt d N=true) (hg:dH all σ g)
  (kk:∀b J',J'=(if b=true then J1 else J0)→WL P (Xj N lo J') bad all K Q os ((d,.bool b)::σ) μ Ds):WL P (Xj N lo J) bad all K Q ((fl,ix)::os) σ μ Ds:=
 aQD (X:=Xj N lo J) ho hc hxs rfl hfl rfl rfl I O hY hN hg (kk true J1 rfl) (kk false J0 rfl)
def aUJ{γ:Type}(h0:H0)(lo:Nat)(D0:aC)(mods:List Nat)(Ds:List aC)(Φ:γ→Prop)(Mx:γ→aD):wC:=fun β D w=>
 ∃g,Φ g∧jE h0 lo D0 mods (Mx g) D w∧(∀D₁∈Ds,Le D₁ D)∧(∀b∈β,h0.size≤b∧∀D₁∈Ds,D₁ b=[])∧(∀p∈Mx g,p.1∉β)∧∀k∈mods,k∈(Mx g).ks
theorem m4{γ:Type}{h0:H0}{lo:Nat}{D0:aC}{mods:List Nat}{Ds:List aC}{Φ:γ→Prop}{Mx:γ→aD}:T1 lo (aUJ h0 lo D0 mods Ds Φ Mx):=by
 constructor
 ·rintro β D w D' w' ⟨g,hg,hs,hD,hβ,hM,hmk⟩ ⟨hl1,I,O⟩ hd;have box':∀p∈Mx g,w'.heap[p.1]?= w.heap[p.1]?∧D' p.1=D p.1:=fun p hp=>I p.1 (bR (hs.box p hp).1) (hM p hp)
  refine⟨g,hg,⟨hs.hlo,hd.2,fun b hb hm=>?_,fun b hb=>?_,hd.1,fun p hp=>?_,hs.nd,hs.fz,fun e he=>O.trans (hs.env e he)⟩,fun D₁ hD₁=>⟨fun b=>?_,?_⟩,hβ,hM,hmk⟩
  ·have hlt:b<w.heap.size:=by have:=hs.hlo;have:=hs.size;omega
   have hn:b∉β:=fun h=>by have:=(hβ b h).1;omega
   rw[(I b hlt hn).1];exact hs.old b hb hm
  ·have hlt:b<w.heap.size:=by have:=hs.hlo;have:=hs.size;omega
   have hn:b∉β:=fun h=>by have:=(hβ b h).1;omega
   rw[(I b hlt hn).2];exact hs.dold b hb
  ·obtain⟨p1,p2,p3⟩:=hs.box p hp;obtain⟨R,U⟩:=box' p hp;exact⟨R.trans p1,U.trans p2,p3⟩
  ·by_cases hb:b∈β
   ·rw[(hβ b hb).2 D₁ hD₁];exact bQB
   ·by_cases hlt:b<w.heap.size
    ·rw[(I b hlt hb).2];exact(hD D₁ hD₁).1 b
    ·have:=(hD D₁ hD₁).1 b;rw[hs.agr.fresh (Nat.le_of_not_lt hlt)]at this;rw[List.prefix_nil.1 this];exact bQB
  ·have h0:(0:Nat)∉β:=fun hm=>hs.agr.2.1 ((hD D₁ hD₁).2.trans ((hβ 0 hm).2 D₁ hD₁))
   rw[(I 0 hs.agr.pos h0).2];exact(hD D₁ hD₁).2
 ·rintro β β' D w ⟨g,hg,hs,hD,hβ,hM,hmk⟩ hb';refine⟨g,hg,hs,hD,fun b hb=>?_,fun p hp hb=>?_,hmk⟩
  ·rcases hb' b hb with h|h
   ·exact hβ b h
   ·refine⟨by have:=hs.hlo;have:=hs.size;omega,fun D₁ hD₁=>?_⟩;have:=(hD D₁ hD₁).1 b;rw[hs.agr.fresh h]at this;exact List.prefix_nil.1 this
  ·rcases hb' _ hb with h|h
   ·exact hM p hp h
   ·have:=bR (hs.box p hp).1;omega
theorem jE.roundM{h0:H0}{lo:Nat}{D0 D D':aC}{mods:List Nat}{μ μ':aD}{w w':Δ}(h:jE h0 lo D0 mods μ D w)(_hmk:∀k∈mods,k∈μ.ks)(hs:jE (hd w) w.heap.size D (μ.map (·.1)) μ' D' w'):jE h0 lo D0 mods μ' D' w':=by
 have hle:=bNK h.hlo h.size;have hkey:∀b∈μ.map (·.1),lo≤b∨b∈mods:=by
  intro b hb;obtain⟨p,hp,rfl⟩:=bKX.1 hb;exact(h.box p hp).2.2
 refine⟨h.hlo,bNK h.size hs.size,fun b hb hm=>?_,fun b hb=>?_,hs.agr,fun p hp=>?_,hs.nd,hs.fz,fun e he=>(hs.env _ rfl).trans (h.env e he)⟩
 ·rw[hs.old b (bNR hb hle) (fun hk=>by
   rcases hkey b hk with h1|h1
   ·have:=h.hlo;omega
   ·exact hm h1)]
  exact h.old b hb hm
 ·rw[hs.dold b (bNR hb hle)];exact h.dold b hb
 ·obtain⟨p1,p2,p3⟩:=hs.box p hp;refine⟨p1,p2,?_⟩;rcases p3 with p3|p3
  ·exact bLL (by have:=h.size;omega)
  ·exact hkey _ p3
theorem bCN{α γ:Type}{xs:List α}{enc:Nat→List Γ}{cells:α→List Γ}{Dr:aC}{f:FuncId}{cap:List Γ}{gop:Operand}{ps:Array Tmp}{assign body:Code}
  (Φ:List α→γ→Prop) (Ψ:List α→Code→γ→Prop) (M:γ→aD) (g₀:γ) (hr:X.r=none) (hex:X.ex=none) (hmods:∀g,∀k∈X.mods,k∈(M g).ks)
  (hg:ev σ gop=some (.func (.func f) #[] cap.toArray)) (hit:bDL P f cap Dr xs enc cells) (hDr:Dr∈Ds) (hps:∀b,(enc b).length=ps.size) (hpN:(ps.toList.all fun p=>Nat.blt p X.N)=true) (h₀:Φ [] g₀) (hμ:M g₀=μ)
  (hround:∀pre x g,(∃r,xs=pre++x::r)→Φ pre g→∀(l bd bo:Nat) (rec:Loop) (h0:H0) (D:aC),(∀D₁∈Ds,Le D₁ D)→At D bo 0 (cells x)→rec.state=.ready→rec.pending=none→
   WC P (Xr l X.N h0 D ((M g++(l,Obj.loop rec)::[(bd,Obj.deferred (some []))]).map (·.1)))
    (Exit.then (fun a₁ w₁=>∃w₂,(Instr.beginRound l).run P w₁=.ok () w₂∧body.wpIn ((FW none).inRound l) 0 P (roundPost P l (G8 h0 D ((M g++(l,Obj.loop rec)::[(bd,Obj.deferred (some []))]).map (·.1)) (Φ (pre++[x])) (Ψ (pre++[x]))
     (fun g=>M g++(l,Obj.loop {rec with state:=.ready,pending:=none})::[(bd,Obj.deferred (some []))]) fun c g=>M g++(l,Obj.loop {rec with state:=.done,pending:=some c})::[(bd,Obj.deferred (some []))])) a₁ w₂) fun _ _ _=>False)
    assign (I9 ps.toList (enc bo) σ) (M g++(l,Obj.loop rec)::[(bd,Obj.deferred (some []))]) (D::Ds))
  (hdone:∀g bd,Φ xs g→∀a w,Hl (X.withDs bd) σ (M g++[(bd,Obj.deferred (some []))]) Ds a w→Q .normal a w)
  (hstop:∀pre c g bd,Ψ pre c g→WC P (X.withDs bd) Q c σ (M g++[(bd,Obj.deferred (some []))]) Ds):WC P X Q (.rangeFunc gop ps assign body) σ μ Ds:=by
 intro a w hh;subst hμ;have hev:=hh.eval hg;obtain⟨h1,h2,h3,D,h4,h5,h6⟩:=hh;refine wpIn_rangeFunc fun fn _=>?_
 have hround':(FW X.r).round=none:=hr;rw[hround'];have hmk:∀g (B:aD),∀k∈X.mods,k∈(M g++B).ks:=fun g B k hk=>by
  show k∈(M g++B).map _;rw[bLO];exact bLH _ (hmods g k hk)
 let bd:=w.heap.size
 let l:=w.heap.size+1
 let I:Loop:={state:=.ready,pending:=none,fn,tmps:=a.tmps,params:=ps,assign,body,defers:=bd}
 let V:Δ:={w with heap:=w.heap.push (.deferred (some []))}
 let U:Δ:={V with heap:=V.heap.push (.loop I)}
 have Y:jE X.h0 X.lo X.D0 X.mods ((bd,Obj.deferred (some []))::M g₀) D V:=h4.push (.deferred (some [])) trivial;have O:jE X.h0 X.lo X.D0 X.mods ((l,Obj.loop I)::(bd,Obj.deferred (some []))::M g₀) D U:=by
  have:=Y.push (.loop I) trivial;have e:V.heap.size=l:=by simp[V,l]
  rw[e]at this;exact this
 have hperm:jE X.h0 X.lo X.D0 X.mods (M g₀++(l,Obj.loop I)::[(bd,Obj.deferred (some []))]) D U:=by
  refine O.sub (fun p hp=>?_) ?_
  ·simp only[bLM,bNA,n4,bND]at hp ⊢
   rcases hp with hp|hp|hp
   ·exact bLG (bLG hp)
   ·exact bLL hp
   ·exact bLG (bLL hp)
  ·have hn:=O.nd;simp only[bMD,bMX,bNA,bQE]at hn;simp only[bLO,bMD,bPK,bLJ,bMX,bNA,n4,bND,bPU,bNH,and_true];refine⟨hn.2.2,hn.1.1,fun q hq r hr'=>?_⟩;rcases hr' with rfl|rfl
   ·rintro rfl;exact hn.1.2 hq
   ·rintro rfl;exact hn.2.1 hq
 refine⟨l,[oC bd],U,{target:=.fn (.func f) cap.toArray,args:=#[.func (.yield l) #[] #[]]},U,f,(.func (.yield l) #[] #[]::cap).toArray,U,run_enterLoop_outer fn a.tmps ps assign body,?_,fun _ _=>trivial,?_,fun h=>Xab,?_⟩
 ·simp only[resolve,Deferred.ofValue];have e:Array.map a.eval #[Operand.const (Value.func (Fn.yield l) #[] #[])]=#[.func (.yield l) #[] #[]]:=by simp[Act.eval]
  rw[e,hev];rfl
 ·simp only[invoke];rw[hit.1];simp
 ·refine dY.2 ((hit.2 X.lo l
   (fun pre=>aUJ X.h0 X.lo X.D0 X.mods Ds (Φ pre) fun g=>M g++(l,Obj.loop I)::[(bd,Obj.deferred (some []))])
   (fun pre=>aUJ X.h0 X.lo X.D0 X.mods Ds (fun cg:Code×γ=>Ψ pre cg.1 cg.2) fun cg=>M cg.2++(l,Obj.loop {I with state:=.done,pending:=some cg.1})::[(bd,Obj.deferred (some []))])
   (fun _=>m4) (fun _=>m4) ?_ D U O.dom (h5 Dr hDr) ⟨g₀,h₀,hperm,h5,(fun _ h=>Xaa),(fun _ _ h=>Xaa),hmk g₀ _⟩).mono ?_)
  ·rintro pre x β Dx wx bo hx hdx ⟨g,hΦ,hst,hDs,hβ,hM,hmg⟩ hβs hle ⟨hbo,hbD,be,bfz,hbw⟩;have hbox:=(hst.box (l,Obj.loop I) Ye).1;refine⟨fn,_,assign,body,run_yield hbox (by simpa using hps bo),?_⟩;refine(roundIn_of_wpIn (F:=FW none) bQK (R:=G8 (hd wx) (jC Dx bo (cells x)) ((M g++(l,Obj.loop I)::[(bd,Obj.deferred (some []))]).map (·.1)) (Φ (pre++[x])) (Ψ (pre++[x]))
     (fun g=>M g++(l,Obj.loop {I with state:=.ready,pending:=none})::[(bd,Obj.deferred (some []))]) fun c g=>M g++(l,Obj.loop {I with state:=.done,pending:=some c})::[(bd,Obj.deferred (some []))]) ?_).mono ?_
   ·have hw:=hround pre x g hx hΦ l bd bo I (hd wx) (jC Dx bo (cells x)) (fun D₁ h=>(hDs D₁ h).trans (d9 hbD (hst.agr.ne0 hbD))) (UU _ _ _) rfl rfl;have ht:(ps.zip (enc bo).toArray).foldl (fun tmps (t,a)=>tmps.setIfInBounds t a) a.tmps=(ps.toList.zip (enc bo)).foldl (fun tmps (p:Tmp×Γ)=>tmps.setIfInBounds p.1 p.2) a.tmps:=by
     rw[←Array.foldl_toList];simp
    have hpN':∀p∈ps.toList,p<a.tmps.size:=fun p hp=>by rw[h1];simpa [Nat.blt_eq]using bLX.1 hpN p hp
    refine hw {tmps:=_,defers:=[]} wx ⟨?_,fun s v hs=>?_,rfl,jC Dx bo (cells x),⟨bLQ _,bLQ _,fun _ _ _=>rfl,fun _ _=>rfl,IJ hst.agr hbw hbD,fun p hp=>?_,hst.nd,hst.fz,fun e he=>bLY he⟩,fun D₁ hD₁=>?_,bQK⟩
    ·show((ps.zip (enc bo).toArray).foldl _ a.tmps).size=X.N;rw[ht,d7];exact h1
    ·show((ps.zip (enc bo).toArray).foldl _ a.tmps)[s]?= some v;rw[ht];exact l6 _ _ _ _ h2 hpN' s v hs
    ·obtain⟨p1,p2,p3⟩:=hst.box p hp;exact⟨p1,Xcv,bLG (bKX.2 ⟨p,hp,rfl⟩)⟩
    ·rcases bNA.1 hD₁ with rfl|hD₁
     ·exact Le.refl _
     ·exact(hDs D₁ hD₁).trans (d9 hbD (hst.agr.ne0 hbD))
   ·rintro e w' ⟨b,D',rfl,hb⟩;have fin:∀μ',jE (hd wx) wx.heap.size (jC Dx bo (cells x)) ((M g++(l,Obj.loop I)::[(bd,Obj.deferred (some []))]).map (·.1)) μ' D' w'→jE X.h0 X.lo X.D0 X.mods μ' (jC D' bo []) w'∧G5 β Dx wx (jC D' bo []) w'∧(∀D₁∈Ds,Le D₁ (jC D' bo []))∧(∀p∈μ',p.1∉β):=by
     intro μ' Z;have hs':=Z.hide hbD (hst.agr.ne0 hbD);refine⟨hst.roundM hmg hs',jE.roundHigh hst.agr hs' hβs hM,fun D₁ hD₁=>(hDs D₁ hD₁).trans (iF hst.agr hs'),fun p hp hpb=>?_⟩;rcases(hs'.box p hp).2.2 with h|h
     ·have:=hβs _ hpb;omega
     ·obtain⟨q,hq,he⟩:=bKX.1 h;exact hM q hq (by rw[he];exact hpb)
    refine⟨b,jC D' bo [],rfl,?_⟩;cases b with
    |true=>
     obtain⟨g',hg',hs'⟩:=hb;obtain⟨f1,f2,f3,f4⟩:=fin _ hs';exact⟨f1.dom,f2,g',hg',f1,f3,hβ,f4,hmk g' _⟩
    |false=>
     obtain⟨c',g',hg',hs'⟩:=hb;obtain⟨f1,f2,f3,f4⟩:=fin _ hs';exact⟨f1.dom,f2,(c',g'),hg',f1,f3,hβ,f4,hmk g' _⟩
  ·rintro e w' ⟨v,D',rfl,hd,hend⟩;have post:∀(g:γ) (r:Loop),jE X.h0 X.lo X.D0 X.mods (M g++(l,Obj.loop r)::[(bd,Obj.deferred (some []))]) D' w'→(∀D₁∈Ds,Le D₁ D')→
     Hl (X.withDs bd) σ (M g++[(bd,Obj.deferred (some []))]) Ds {a with defers:=[oC bd]++a.defers} (w'.putObj l (.loop {r with state:=.exhausted})):=by
    intro g r hs hD';have hHas:bO (M g++(l,Obj.loop r)::[(bd,Obj.deferred (some []))]) l (.loop r) (.loop {r with state:=.exhausted}) (M g++(l,Obj.loop {r with state:=.exhausted})::[(bd,Obj.deferred (some []))]):=.app .head;have hs':=hs.set (w':=w'.putObj l (.loop {r with state:=.exhausted})) hHas ⟨rfl,rfl⟩ trivial;have hs'':=hs'.sub (μ':=M g++[(bd,Obj.deferred (some []))]) (fun p hp=>by
     rcases bLM.1 hp with hp|hp
     ·exact bLH _ hp
     ·exact LE _ (bKY _ hp)) (by
     have hn:=hs'.nd;rw[bLO,bLJ]at hn ⊢
     simp only[bMD]at hn;exact⟨hn.1,(bMX.1 hn.2.1).2,fun q hq r hr=>hn.2.2 q hq r (bKY _ hr)⟩)
    exact⟨h1,h2,bLE (oC bd:: ·) h3,D',hs'',hD',Xcc⟩
   rcases hend with⟨g,hΦ,hs,hDs,_,_,_⟩|⟨pre,⟨c,g⟩,hΨ,hs,hDs,_,_,_⟩
   ·have hb:=(hs.box (l,Obj.loop I) Ye).1;exact⟨none,_,run_endLoop hb (by simp[I]),hdone g bd hΦ _ _ (post g I hs hDs)⟩
   ·have hb:=(hs.box (l,Obj.loop {I with state:=.done,pending:=some c}) Ye).1;refine⟨some c,_,run_endLoop hb Ye,?_⟩;have:=hstop pre c g bd hΨ _ _ (post g _ hs hDs);exact this

theorem bFO{α:Type}{f:FuncId}{fn:Func}{c:Code}{cap:List Γ}{Dr:aC}{xs:List α}{enc:Nat→List Γ}{cells:α→List Γ}(N:Nat)(hf:P.funcs[f]?= some fn)(hn:(fn.name== "runtime.NumGoroutine")=false)(hb:fn.body=some c)(hN:fn.ntmps=N)(hsz:Nat.ble (cap.length+1) N=true)
  (h:∀(lo l:Nat) (J Jx:List α→wC),(∀pre,T1 lo (J pre))→(∀pre,T1 lo (Jx pre))→
   (∀pre x β D w bo,(∃r,xs=pre++x::r)→G2 lo D w→J pre β D w→(∀b∈β,b<w.heap.size)→Le Dr D→KN β D w bo (cells x)→
    jO P l (enc bo) w fun b D' w'=>G2 lo D' w'∧G5 β D w D' w'∧(if b then J (pre++[x]) β D' w' else Jx (pre++[x]) β D' w'))→
   WC P (Xj N lo (J [])) (bodyPost P fn (AY lo [Dr] fun _ J' _=>J'=J xs∨∃pre,J'=Jx pre)) c (jY 0 (.func (.yield l) #[] #[]::cap)) [] [Dr]):bDL P f cap Dr xs enc cells:=by
 refine⟨EF.of hf hn hb,fun lo l J Jx hs hsx hY D w hd hle hJ=>?_⟩;have hF:=V3 (μ:=[]) N hf hn hb hN (by simpa using hsz) (h lo l J Jx hs hsx hY);refine(hF.2 w ⟨D,⟨bQA _,hd.2,fun b hb=>absurd hb (bPM _),fun b hb=>absurd hb (bPM _),hd.1,Yi,bNH,Yi,fun e he=>by cases he⟩,fun D₁ h1=>?_,hs [],hJ⟩).mono ?_
 ·simp only[bLS]at h1;subst h1;exact hle
 ·rintro e w' ⟨v,J',μ',rfl,⟨D',hst,hds,hex⟩,hpost⟩;refine⟨v,D',rfl,hst.dom,?_⟩;have hJ':J' [] D' w':=hex.1.own _ [] D' w' hex.2 (fun b hb=>by cases hb);rcases hpost with rfl|⟨pre,rfl⟩
  ·exact bLL hJ'
  ·exact bLG ⟨pre,hJ'⟩
theorem uM{t e:Θ}{sz n:Nat}{z0:Γ}{zs cs:List Γ}{k k':IntKind}(ho:all[ix]?= some ⟨some d,.makeSlice t x y,ty,pos,aft,g⟩)(ht:P.underlying t=some (.slice e))(hs:TS P e sz)(hz:TZ P e z0)(hzc:z0.cells=zs.toArray)(hi:(P.info? e).map (fun i=>Nat.ble 1 i.bytes&&Nat.ble i.bytes 4096)=some true)
  (hx:ev σ x=some (.int k n)) (hy:ev σ y=some (.int k' n)) (hn:n≤10000) (hcs:((Array.range (n*sz)).map (zs.toArray[· %zs.toArray.size]!)).toList=cs) (hN:Nat.blt d X.N=true) (hg:dH all σ g)
  (kk:∀b,WL P X bad all K Q os ((d,qS b n n)::σ) ((b,.cells cs.toArray e (0,0))::μ) Ds):WL P X bad all K Q ((fl,ix)::os) σ μ Ds:=by
 refine fG ho rfl rfl hg fun a w hh=>?_
 obtain⟨h1,h2,h3,D,h4,h5,V⟩:=id hh;have hn':=hn;obtain⟨i0,O,hb⟩:=bOG.1 hi;simp only[bKW]at hb;have Y:=bNJ hb.1;have R:=bNJ hb.2;have hti:∀w,(typeInfo e).run P w=.ok i0 w:=fun w=>by simp[typeInfo,program,Sem.run,O,go_sem]
 have hw:IntKind.i64.wrap (n:Int)=n:=sP Yf;have hbn:i0.bytes*n≤4096*10000:=bPS R hn';have hlarge:(((n:Int)<0)||decide ((i0.bytes:Int)*n>2^48))=false:=by
  have:((i0.bytes*n:Nat):Int)≤40960000:=by omega
  rw[Int.natCast_mul]at this;simp only[bMG,bLC];constructor
  ·omega
  ·omega
 have hzz:∀w,(zeroValue e).run P w=.ok z0 w:=hz;have hrun:(execOp a.eval ⟨some d,.makeSlice t x y,ty,pos,aft,g⟩).run P w=.ok (.value (.slice (some ⟨w.heap.size,0,none⟩) n n)) {w with heap:=w.heap.push (.cells cs.toArray e (0,0))}:=by
  have hcs':(Array.range (n*sz)).map (zs.toArray[· %zs.toArray.size]!)=cs.toArray:=by rw[←hcs]
  have hai:∀(k:IntKind) (m:Int) (w:Δ),(asInt (.int k m)).run P w=.ok m w:=fun _ _ _=>rfl
  simp only[execOp,Instr.makeSlice,hh.eval hx,hh.eval hy,hai,Ω,TU.of ht w,Ξ,ε,hti,hw,pure_bind];rw[bLI (by simp only[bMF,LT,bQE];exact⟨⟨by simpa using hlarge,Yd⟩,Yd⟩)]
  simp only[Ω,BC,Ξ,hs w,bMR];by_cases hnz:n*sz=0
  ·rw[bLR hnz];have I:∀f:Nat→Γ,(Array.range 0).map f=#[]:=fun f=>by simp
   have U:cs.toArray=#[]:=by rw[←hcs',hnz];exact I _
   simp only[ε,Ω,U];rw[hnz];simp only[I,kO,Ξ]
  ·rw[bLI hnz];simp only[Ω,hzz,Ξ,ε,hzc,hcs',kO]
 rw[hrun];have hs':=h4.push (.cells cs.toArray e (0,0)) rfl;refine⟨fun _=>pV _ _ _,kk w.heap.size _ _ (Hl.put ⟨h1,h2,h3,D,hs',h5,V.step (fun _ p hp=>?_) (fun _=>⟨Ye,fun b hb _=>⟨dR hb,rfl⟩,rfl⟩) hs'.dom⟩ hN _)⟩;rcases bNA.1 hp with rfl|hp
 ·exact bLG (bLQ _)
 ·exact bLL (bKX.2 ⟨p,hp,rfl⟩)
theorem V0{n sz:Nat}{zs:List Γ}(h:∀u∈zs,u=qI 0)(hl:zs.length=sz):((Array.range (n*sz)).map (zs.toArray[· %zs.toArray.size]!)).toList=ints (List.replicate (n*sz) 0):=by
 apply List.ext_getElem?;intro i;simp only[bPW,Array.toList_range,bMI,ints,List.map_replicate,List.getElem?_replicate];by_cases hi:i<n*sz
 ·rw[bPN hi,bLR hi];have hpos:0<sz:=by
   rcases Nat.eq_zero_or_pos sz with h0|h0
   ·subst h0;simp at hi
   ·exact h0
  have hm:i%zs.toArray.size<zs.length:=by simp only[bML,hl];exact Nat.mod_lt _ hpos
  simp only[bMS];congr 1;rw[getElem!_pos _ _ (by simpa using hm)];exact h _ Ye
 ·rw[bNX Yau,bLI hi];rfl

theorem Hl.freezeM{A B ν:aD}{e sz n:Nat}{cells:List Γ}{a:Act}{w:Δ}(hacc:bD e sz v n cells ν)(hmods:∀k∈X.mods,k∈(A++B).ks)(hh:Hl X σ (A++ν++B) Ds a w):
  ∃D',(∀D₁∈Ds,Le D₁ D')∧kN D' v n cells∧Hl X σ (A++B) (D'::Ds) a w:=by
 obtain⟨h1,h2,h3,D,h4,h5,I⟩:=hh;rcases hacc with⟨old,hv,hn,hc,hν⟩|⟨b,cap,junk,hv,hncap,hν,hl1,O⟩
 ·subst hν;refine⟨D,h5,bLL ⟨old,hv,hn,hc⟩,h1,h2,h3,D,by simpa using h4,fun D₁ hD₁=>?_,by simpa using I⟩;rcases bNA.1 hD₁ with rfl|hD₁
  ·exact Le.refl _
  ·exact h5 D₁ hD₁
 ·subst hν;have hb:=(h4.box (b,.cells (cells++junk).toArray e (0,0)) Ye).2.2;have hnb:b∉(A++B).ks:=fun hm=>by
   have hnd:=h4.nd;simp only[bLO,bMD,bLK,bOW]at hnd;have:=bLJ.1 hnd;have h2':=bMX.1 this.2.1;simp only[aD.ks,bLO,bLM]at hm;rcases hm with hm|hm
   ·exact this.2.2 b hm b bKZ rfl
   ·exact h2'.1 hm
  have hb':=hb.resolve_right fun h=>hnb (hmods b h);obtain⟨D',hle,hD',hDo,hs⟩:=h4.freeze hb';refine⟨D',fun D₁ hD₁=>(h5 D₁ hD₁).trans hle,bLG ⟨b,cap,hv,hncap,fun j u hj=>by rw[hD',bOH];exact hj⟩,h1,h2,h3,D',hs,fun D₁ hD₁=>?_,I.step (fun _ p hp=>bLL (bKX.2 ⟨p,Xct,rfl⟩)) (fun _=>⟨bLQ _,fun c _ hn=>⟨rfl,hDo c (by rintro rfl;exact hn Ye)⟩,rfl⟩) hs.dom⟩
  rcases bNA.1 hD₁ with rfl|hD₁
  ·exact Le.refl _
  ·exact(h5 D₁ hD₁).trans hle
theorem zJ{A B ν:aD}{e sz n:Nat}{cells:List Γ}(hacc:bD e sz v n cells ν)(hmods:∀k∈X.mods,k∈(A++B).ks)(kk:∀D,(∀D₁∈Ds,Le D₁ D)→kN D v n cells→WL P X bad all K Q os σ (A++B) (D::Ds)):WL P X bad all K Q os σ (A++ν++B) Ds:=by
 intro a w hh;obtain⟨D',h1,h2,h3⟩:=hh.freezeM hacc hmods;exact kk D' h1 h2 a w h3
theorem LI{T:Act→Δ→Prop}{A B ν:aD}{e sz n:Nat}{cells:List Γ}(hacc:bD e sz v n cells ν)(hmods:∀k∈X.mods,k∈(A++B).ks)(kk:∀D,(∀D₁∈Ds,Le D₁ D)→kN D v n cells→∀a w,Hl X σ (A++B) (D::Ds) a w→T a w):∀a w,Hl X σ (A++ν++B) Ds a w→T a w:=by
 intro a w hh;obtain⟨D',h1,h2,h3⟩:=hh.freezeM hacc hmods;exact kk D' h1 h2 a w h3
theorem Hl.apart{a:Act}{w:Δ}{D₁:aC}{b o:Nat}{c:Γ}{cs:List Γ}(hh:Hl X σ μ Ds a w)(hA:At D₁ b o (c::cs))(hD:D₁∈Ds):b∉μ.ks:=by
 obtain⟨h1,h2,h3,D,h4,h5,I⟩:=hh;intro hm;obtain⟨p,hp,rfl⟩:=bKX.1 hm;have h0:=(h5 D₁ hD).get (hA 0 c rfl);rw[(h4.box p hp).2.1]at h0;simp at h0
theorem fL{c':Code}{D₁:aC}{b o:Nat}{c:Γ}{cs:List Γ}(hA:At D₁ b o (c::cs))(hD:D₁∈Ds)(k:b∉μ.ks→WC P X Q c' σ μ Ds):WC P X Q c' σ μ Ds:=fun a w hh=>k (hh.apart hA hD) a w hh
theorem At.tail{D:aC}{b o:Nat}{c:Γ}{cs:List Γ}(h:At D b o (c::cs)):At D b (o+1) cs:=fun j v hj=>by
 have:=h (j+1) v (by simpa using hj);rw[show o+1+j=o+(j+1) by omega];exact this

theorem aAK{f:FuncId}{fn:Func}{c:Code}{args:List Γ}{D:aC}{ν:aD}{post:aC→Γ→aD→Prop}(N:Nat)(hf:P.funcs[f]?= some fn)(hn:(fn.name== "runtime.NumGoroutine")=false)(hb:fn.body=some c)(hN:fn.ntmps=N)(hsz:Nat.ble args.length N=true)
  (h:∀h0:H0,(∀p∈ν,p.1<h0.size)→ν.ks.Nodup→WC P (sV N h0 D ν.ks) (S2 P fn (nF (sV N h0 D ν.ks) ν.ks post)) c (jY 0 args) ν [D]):HA P f args D ν post:=by
 refine⟨EF.of hf hn hb,fun w hw hν hnd=>?_⟩;subst hN;have hsz:=bNJ hsz;have hq:∀e a w',S2 P fn (nF (sV fn.ntmps (hd w) D ν.ks) ν.ks post) e a w'→bodyPostM (FW none) 0 P fn (nF (sV fn.ntmps (hd w) D ν.ks) ν.ks post) e a w':=by
  intro e a w' he;cases e<;>first|exact he|exact he.elim
 have hwp:=h (hd w) (fun p hp=>bR (hν p hp).1) hnd {tmps:=args.toArray++Array.replicate (fn.ntmps-args.toArray.size) undef,defers:=[]} w ⟨by simp[sV];omega,fun s v hs=>by
  obtain⟨_,h2⟩:=gV args 0 s v hs;have hl:=(bLD.1 h2).1;simp only[bPB]at h2 hl;show(args.toArray++_)[s]?= some v;rw[bNT Yay];simpa using h2,rfl,D,⟨bLQ _,bLQ _,(fun _ _ _=>rfl),(fun _ _=>rfl),hw,(fun p hp=>⟨(hν p hp).1,(hν p hp).2.1,bLG (bKX.2 ⟨p,hp,rfl⟩)⟩),hnd,(fun p hp=>(hν p hp).2.2),fun e he=>bLY he⟩,(fun D₁ h1=>Xcd),bQK⟩
 refine(dY (r:=none) (n:=0)).1 ((callsIn_of_wp_marks hf hb bQK (wpIn_mono hwp hq) rfl).mono ?_);rintro e w' ⟨v,D',ν',rfl,hk,hs,hp⟩;exact⟨v,D',ν',rfl,hk,hs,hp⟩
theorem SV{fn:Func}{bd:Nat}{ks:List Nat}{post:aC→Γ→aD→Prop}{e:Exit}(he:(match e with|.normal=>true|.ret=>true|_=>false)=true){rs:List ResultVar}{vs:List Γ}{A B ν':aD}(hds:X.ds=[])(hr:fn.results=rs.toArray)(h:A1 P X σ (A++ν'++B++[(bd,Obj.deferred none)]) rs vs)
  (hk:ν'.ks=ks) (hp:∀D,(∀D₁∈Ds,Le D₁ D)→post D (tA vs) ν'):∀a w,Hl (X.withDs bd) σ (A++ν'++B++[(bd,Obj.deferred (some []))]) Ds a w→S2 P fn (nF X ks post) e a w:=by
 intro a w hh;obtain⟨h1,h2,h3,D,h4,h5,I⟩:=hh;have hHas:bO (A++ν'++B++[(bd,Obj.deferred (some []))]) bd (.deferred (some [])) (.deferred none) (A++ν'++B++[(bd,Obj.deferred none)]):=.app .head;have hs:=h4.set (w':=w.putObj bd (.deferred none)) hHas ⟨rfl,rfl⟩ trivial;have hh':Hl X σ (A++ν'++B++[(bd,Obj.deferred none)]) Ds {a with defers:=[]} (w.putObj bd (.deferred none)):=
  ⟨h1,h2,hds.symm,D,hs,h5,I.step (X:=X.withDs bd) (fun _ p hp=>bLL Ys) (fun _=>lX ⟨rfl,rfl⟩ (bKX.2 ⟨_,hHas.mem,rfl⟩)) hs.dom⟩
 have hrun:=jN hh' hr h;have hb:=(h4.box (bd,Obj.deferred (some [])) Ye).1;have hnd:=h4.nd;simp only[bLO]at hnd;have hsub:=hs.sub (μ':=ν') (fun p hp=>bLH _ (bLH _ (LE _ hp))) (bLJ.1 (bLJ.1 (bLJ.1 hnd).1).1).2.1;have:LeavesInM (FW none) 0 P fn a.tmps (nF X ks post) a.defers .returning w:=by
  have h3':a.defers=[oC bd]:=h3.trans Xce;rw[h3'];exact⟨Ye,bLL ⟨bd,_,rfl,run_takeDeferred hb,_,hrun,_,D,ν',rfl,hk,hsub,hp D h5⟩⟩
 cases e<;>first|exact this|cases he
theorem bFU{γ:Type}(I:γ→Prop)(S:γ→Bool)(M:γ→aD)(xs ys:List (Bool×Nat)){s p:Nat}{b:Bool}(ho:os=xs++ys)(hs:look σ s=some (.bool b))
  (hyes:b=true→WL P X bad all (fun a w=>∃g,I g∧Hl X ((p,.bool (S g))::(s,.bool true)::σ) (M g) Ds a w) Q xs ((s,.bool true)::σ) μ Ds)
  (hno:b=false→WL P X bad all (fun a w=>∃g,I g∧Hl X ((p,.bool (S g))::(s,.bool false)::σ) (M g) Ds a w) Q xs ((s,.bool false)::σ) μ Ds)
  (k:∀g,I g→WL P X bad all K Q ys ((p,.bool (S g))::σ) (M g) Ds):WL P X bad all K Q os σ μ Ds:=by
 have hsub:∀u,Value.bool b=u→∀a w,Hl X σ μ Ds a w→Hl X ((s,u)::σ) μ Ds a w:=by
  rintro _ rfl a w ⟨h1,h2,h3⟩;refine⟨h1,fun t v ht=>?_,h3⟩;simp only[look]at ht;cases hb:Nat.beq s t with
  |true=>rw[hb]at ht;cases ht;obtain rfl:=bMW hb;exact h2 _ _ hs
  |false=>rw[hb]at ht;exact h2 _ _ ht
 have hback:∀u v μ',Value.bool b=u→∀a w,Hl X ((p,v)::(s,u)::σ) μ' Ds a w→Hl X ((p,v)::σ) μ' Ds a w:=by
  rintro _ v μ' rfl a w ⟨h1,h2,h3⟩;refine⟨h1,fun t v' ht=>?_,h3⟩;refine h2 t v' ?_;simp only[look]at ht ⊢
  cases hp:Nat.beq p t with
  |true=>rw[hp]at ht;exact ht
  |false=>
   rw[hp]at ht;cases hb:Nat.beq s t with
   |true=>obtain rfl:=bMW hb;rw[←ht,hs]
   |false=>exact ht
 subst ho;intro a w hh;cases b
 ·refine WL.append (hno rfl a w (hsub _ rfl a w hh)) ?_;rintro a w ⟨g,hI,h⟩;exact k g hI a w (hback _ _ _ rfl a w h)
 ·refine WL.append (hyes rfl a w (hsub _ rfl a w hh)) ?_;rintro a w ⟨g,hI,h⟩;exact k g hI a w (hback _ _ _ rfl a w h)
theorem zR{t:Θ}{b k:Nat}{l:List Int}{n:Int}{e:Θ}{μ':aD}(ho:all[ix]?= some ⟨none,.store t x y,ty,pos,aft,g⟩)(hs:TS P t 1)(hx:ev σ x=some (.pointer (some ⟨b,k,none⟩)))(hy:ev σ y=some (qI n))
  (hm:bO μ b (.cells (ints l).toArray e (0,0)) (.cells (ints (l.set k n)).toArray e (0,0)) μ') (hl:k<l.length) (hg:dH all σ g)
  (kk:WL P X bad all K Q os σ μ' Ds):WL P X bad all K Q ((false,ix)::os) σ μ Ds:=by
 have hil:(ints l).length=l.length:=aN l;refine bP (off:=k) (us:=[qI n]) (vs:=ints l) (ws:=ints (l.set k n)) ho hx hy rfl hs hm (by simp[hil];omega) ?_ (fun u hu=>by simp at hu;subst hu;rfl) hg kk
 rw[show ints (l.set k n)=(ints l).set k (qI n) by simp[ints,List.map_set],List.set_eq_take_append_cons_drop,bLR (by rw[hil];exact hl)];simp
theorem mM{t e tr:Θ}{a:Option Addr}{n c:Nat}{ats:Array Θ}(ho:all[ix]?= some ⟨some d,.call {callee:=.builtin .len,args:=#[x],argTypes:=ats},tr,pos,aft,g⟩)(ht:P.underlying t=some (.slice e))(hx:ev σ x=some (.slice a n c))(hat:ats[0]?= some t)
  (hN:Nat.blt d X.N=true) (hg:dH all σ g) (kk:WL P X bad all K Q os ((d,qI (n:Int))::σ) μ Ds):WL P X bad all K Q ((fl,ix)::os) σ μ Ds:=
 bZ ho rfl rfl hN hg (fun ρ hρ w'=>by
  have hx':=hρ x _ hx;simp[Builtin.len_,hat,hx',TU.of ht w',goInt,go_sem]) kk
theorem Hl.boxesEq{a:Act}{w:Δ}{μ':aD}(hh:Hl X σ μ Ds a w)(h:μ=μ'):Hl X σ μ' Ds a w:=h▸hh
theorem yG{T:Act→Δ→Prop}(μ':aD)(h:μ=μ')(k:∀a w,Hl X σ μ' Ds a w→T a w):∀a w,Hl X σ μ Ds a w→T a w:=h▸k
theorem qU{t t' e:Θ}{a:Option Addr}{n c:Nat}(ho:all[ix]?= some ⟨some d,.binOp .eql t x y t',ty,pos,aft,g⟩)(ht:P.underlying t=some (.slice e))(hx:ev σ x=some (.slice a n c))(hy:ev σ y=some (qN))(hN:Nat.blt d X.N=true)(hg:dH all σ g)
  (kk:WL P X bad all K Q os ((d,.bool (a.isNone))::σ) μ Ds):WL P X bad all K Q ((fl,ix)::os) σ μ Ds:=
 V9 ho (fun w=>by
  have hgd:(eqGuard .eql t x y (.slice a n c) (qN)).run P w=.ok () w:=by
   simp only[eqGuard];simp[go_sem]
  have heq:(Op.equal t (.slice a n c) (qN)).run P w=.ok a.isNone w:=by
   show(Op.equalIn (9999+1) t (.slice a n c) (qN)).run P w=_;rw[Op.equalIn,Ω,TU.of ht w];cases a<;>rfl
  rw[Ω,hgd];show((do Pure.pure (Value.bool (←Op.equal t (.slice a n c) (qN)))):Sem Γ).run P w=_;rw[Ω,heq];rfl) hx hy hN hg kk
theorem VT{t:Θ}{b off:Nat}{vs us:List Γ}{e:Θ}{μ':aD}(ho:all[ix]?= some ⟨none,.store t x y,ty,pos,aft,g⟩)(hx:ev σ x=some (.pointer (some ⟨b,off,none⟩)))(hy:ev σ y=some v)(hv:v.cells=us.toArray)(hs:TS P t us.length)
  (hm:bO μ b (.cells vs.toArray e (0,0)) (.cells vs.toArray e (0,0)) μ') (hl:off+us.length≤vs.length) (hw:vs.take off++us++vs.drop (off+us.length)=vs) (hc1:∀u∈us,cell1 u=true) (hg:dH all σ g)
  (kk:WL P X bad all K Q os σ μ' Ds):WL P X bad all K Q ((fl,ix)::os) σ μ Ds:=by
 refine fG ho rfl rfl hg fun a w hh=>?_
 obtain⟨h1,h2,h3,D,h4,h5,I⟩:=id hh;obtain⟨w',hr,hw'⟩:=L5 (P:=P) hs hv (h4.box _ hm.mem).1 hl hc1;have:(execOp a.eval ⟨none,.store t x y,ty,pos,aft,g⟩).run P w=.ok .skip w':=by
  simp only[execOp,hh.eval hx,hh.eval hy,Ω,hr,Ξ,ε]
 rw[this];rw[hw]at hw';refine⟨fun _=>⟨Xay,fun c _ _=>?_⟩,kk _ _ ⟨h1,h2,h3,D,h4.set hm hw' rfl,h5,I.step (fun _ p hp=>bLL Yaz) (fun _=>lX hw' (bKX.2 ⟨_,hm.mem,rfl⟩)) (h4.set hm hw' rfl).dom⟩⟩
 have hb:=(h4.box _ hm.mem).1;rw[hw'.1];by_cases hc:b=c
 ·subst hc;rw[Array.getElem?_setIfInBounds_self_of_lt (bR hb)];exact hb.symm
 ·rw[bNZ hc]

theorem kZ{D₁:aC}{b o:Nat}{c:Γ}{cs:List Γ}(hA:At D₁ b o (c::cs))(hD:D₁∈Ds)(k:b∉μ.ks→WL P X bad all K Q os σ μ Ds):WL P X bad all K Q os σ μ Ds:=fun a w hh=>k (hh.apart hA hD) a w hh
theorem aZH{e sz b:Nat}{cells:List Γ}(h:cells.length=sz):bD e sz (qS b 1 1) 1 cells [(b,.cells cells.toArray e (0,0))]:=
 bLG ⟨b,1,[],rfl,bLQ _,Ye,Yd,Yaq⟩
theorem aNM{D:aC}{b:Nat}{cells:List Γ}(h:kN D (qS b 1 1) 1 cells):At D b 0 cells:=by
 rcases h with⟨a,_,h0,_⟩|⟨b',cap,hv,_,hA⟩
 ·omega
 ·cases hv;exact hA
theorem H6{c:Code}{A B:aD}{b:Nat}{cells:List Γ}{e:Θ}(hmods:X.mods=[])(kk:∀D,(∀D₁∈Ds,Le D₁ D)→At D b 0 cells→WC P X Q c σ (A++B) (D::Ds)):WC P X Q c σ (A++(b,.cells cells.toArray e (0,0))::B) Ds:=by
 have:=rF (A:=A) (B:=B) (ν:=[(b,.cells cells.toArray e (0,0))]) (c:=c) (P:=P) (X:=X) (Q:=Q) (σ:=σ) (Ds:=Ds) (aZH (e:=e) (b:=b) (cells:=cells) rfl) hmods fun D hD hF=>kk D hD (aNM hF)
 simpa using this
theorem aDZ{α:Type}{D:aC}{b sz:Nat}{cells:α→List Γ}(hsz:∀x,(cells x).length=sz):∀{xs:List α} {o:Nat},(∀i x,xs[i]?= some x→At D b (o+i*sz) (cells x))→At D b o (xs.flatMap cells)
 | [],o,_=>fun j v hj=>by simp at hj
 |x::xs,o,h=>fun j v hj=>by
  rw[bMA]at hj;have h0:=h 0 x rfl;rw[bPG,Nat.add_zero]at h0;have hr:=aDZ hsz (xs:=xs) (o:=o+sz) fun i y hy=>by
   have:=h (i+1) y (by simpa using hy);rw[show o+sz+i*sz=o+(i+1)*sz by rw[bNV];omega];exact this
  rcases Nat.lt_or_ge j (cells x).length with hl|hl
  ·rw[bNP hl]at hj;exact h0 j v hj
  ·rw[bPC hl]at hj;have:=hr _ v hj;rw[hsz]at this;rw[show o+j=o+sz+(j-sz) by rw[hsz]at hl;omega];exact this
theorem iL.of{α:Type}{R:Rd α}{D:aC}{sz:Nat}{xs:List α}{cells:α→List Γ}(hR:∀D x cs,R D x cs→cs=cells x)(hsz:∀x,(cells x).length=sz)(h:Sl D R sz v xs):iL D v xs.length (xs.flatMap cells):=by
 obtain⟨a,cap,rfl,h1,h2,h3⟩:=h;rcases h3 with rfl|⟨b,o,rfl,h3⟩
 ·exact bLL ⟨a,cap,rfl,rfl,rfl⟩
 ·refine bLG ⟨b,o,cap,rfl,aDZ hsz fun i x hx=>?_⟩;obtain⟨cs,hr,hc,hA⟩:=h3 i x hx;rw[hR _ _ _ hr]at hA;exact hA
theorem tV{α:Type}{R:Rd α}{D:aC}{sz n c:Nat}{xs:List α}(h:Sl D R sz (.slice none n c) xs):xs=[]:=by
 obtain⟨a,cap,hv,h1,h2,h3⟩:=h;rcases h3 with h3|⟨b,o,ha,_⟩
 ·exact h3
 ·rw[ha]at hv;cases hv
theorem jI{α:Type}{R:Rd α}{D₁:aC}{sz:Nat}{t e:Θ}{xs:List α}{k:IntKind}{i:Int}{el:α}{bt ot ct:Nat}(ho:all[ix]?= some ⟨some d,.indexAddr t x y,ty,pos,aft,g⟩)(ht:P.underlying t=some (.slice e))(hs:TS P e sz)(hx:ev σ x=some (.slice (some ⟨bt,ot,none⟩) xs.length ct))(hS:Sl D₁ R sz (.slice (some ⟨bt,ot,none⟩) xs.length ct) xs)
  (hy:ev σ y=some (.int k i)) (h0:0≤i) (hi:xs[i.toNat]?= some el) (hN:Nat.blt d X.N=true) (hg:dH all σ g)
  (kk:∀cs,R D₁ el cs→cs.length=sz→At D₁ bt (ot+i.toNat*sz) cs→WL P X bad all K Q os ((d,.pointer (some ⟨bt,ot+i.toNat*sz,none⟩))::σ) μ Ds):WL P X bad all K Q ((fl,ix)::os) σ μ Ds:=by
 obtain⟨a,cap,hv,h1,h2,h3⟩:=hS;cases hv;have hlt:=(bLD.1 hi).1;rcases h3 with h3|⟨b,o,ha,h3⟩
 ·subst h3;simp at hi
 ·cases ha;obtain⟨cs,hr,hc,hA⟩:=h3 _ _ hi;exact eU ho ht hs hx hy h0 Yd hN hg (kk cs hr hc hA)
section
variable{t e t2:Θ}{D₁:aC}{xs:List Int}{k:IntKind}{i el:Int}{ix2 d2:Nat}{x2:Operand}{ty2:Θ}{pos2:String}{aft2:Array Edge}{g2:Option (Nat×Bool)}{fl2:Bool}
theorem aX{bt ot ct:Nat}(e9:(all[ix]?,all[ix2]?,ev σ x,ev σ y,xs[i.toNat]?,ev ((d,.pointer (some ⟨bt,ot+i.toNat*1,none⟩))::σ) x2)=(some ⟨some d,.indexAddr t x y,ty,pos,aft,g⟩,some ⟨some d2,.load t2 x2,ty2,pos2,aft2,g2⟩,some (.slice (some ⟨bt,ot,none⟩) xs.length ct),some (.int k i),some el,some (.pointer (some ⟨bt,ot+i.toNat*1+0,none⟩))))(hS:Sl D₁ RI 1 (.slice (some ⟨bt,ot,none⟩) xs.length ct) xs)
  (kk:WL P X bad all K Q os ((d2,qI el)::(d,.pointer (some ⟨bt,ot+i.toNat*1,none⟩))::σ) μ Ds) (h0:0≤i:=by omega) (ht:P.underlying t=some (.slice e):=by exact U25) (hs:TS P e 1:=by exact aJ) (ha:TA P t2 false:=by exact aH) (hD:D₁∈Ds:=by first|simp|assumption) (hb:bt∉bad:=by first|exact n4|assumption|simp)
  (hN:Nat.blt d X.N=true:=by exact rfl) (hg:dH all σ g:=by exact bQK) (hN2:Nat.blt d2 X.N=true:=by exact rfl) (hg2:dH all ((d,.pointer (some ⟨bt,ot+i.toNat*1,none⟩))::σ) g2:=by exact bQK):WL P X bad all K Q ((fl,ix)::(fl2,ix2)::os) σ μ Ds:=
 jI (bLE (fun z=>z.1) e9) ht hs (bLE (fun z=>z.2.2.1) e9) hS (bLE (fun z=>z.2.2.2.1) e9) h0 (bLE (fun z=>z.2.2.2.2.1) e9) hN hg fun cs hr hcl hA=>by
  obtain rfl:cs=[qI _]:=hr;exact dZ (k:=0) (bLE (fun z=>z.2.1) e9) ha (bLE (fun z=>z.2.2.2.2.2) e9) hA hD rfl hb hN2 hg2 kk
end
theorem dM{α:Type}{R:Rd α}{D:aC}{sz:Nat}{xs:List α}{v:Γ}(h:Sl D R sz v xs)(hne:xs≠[]):∃bt ot ct,v=.slice (some ⟨bt,ot,none⟩) xs.length ct:=by
 obtain⟨a,cap,hv,h1,h2,h3⟩:=h;rcases h3 with h3|⟨b,o,ha,_⟩
 ·exact absurd h3 hne
 ·exact⟨b,o,cap,by rw[hv,ha]⟩
theorem BQ{t t':Θ}{n:Nat}{k':IntKind}(ho:all[ix]?= some ⟨some d,.binOp .shl t x y t',ty,pos,aft,g⟩)(hx:ev σ x=some (qI 1))(hy:ev σ y=some (.int k' (n:Int)))(hn:n<62)(hN:Nat.blt d X.N=true)(hg:dH all σ g)
  (kk:WL P X bad all K Q os ((d,qI ((2^n:Nat):Int))::σ) μ Ds):WL P X bad all K Q ((fl,ix)::os) σ μ Ds:=by
 have h2:2^n≤2^62:=bMY Yd Yd;refine bHN (m:=1) ho hx hy Yd Yd hN hg ?_;rw[Nat.one_shiftLeft];exact kk
theorem nM{t:Θ}{b off:Nat}{vs us ws:List Γ}{e:Θ}{μ':aD}(ho:all[ix]?= some ⟨none,.store t x y,ty,pos,aft,g⟩)(hx:ev σ x=some (.pointer (some ⟨b,off,none⟩)))(hy:ev σ y=some v)(hv:v.cells=us.toArray)(hs:TS P t us.length)
  (hm:bO μ b (.cells vs.toArray e (0,0)) (.cells ws.toArray e (0,0)) μ') (hl:off+us.length≤vs.length) (hw:vs.take off++us++vs.drop (off+us.length)=ws) (hc1:∀u∈us,cell1 u=true) (hfl:fl=false∨b∈bad) (hg:dH all σ g)
  (kk:WL P X bad all K Q os σ μ' Ds):WL P X bad all K Q ((fl,ix)::os) σ μ Ds:=by
 refine fG ho rfl rfl hg fun a w hh=>?_
 obtain⟨h1,h2,h3,D,h4,h5,I⟩:=id hh;obtain⟨w',hr,hw'⟩:=L5 (P:=P) hs hv (h4.box _ hm.mem).1 hl hc1;have:(execOp a.eval ⟨none,.store t x y,ty,pos,aft,g⟩).run P w=.ok .skip w':=by
  simp only[execOp,hh.eval hx,hh.eval hy,Ω,hr,Ξ,ε]
 rw[this];rw[hw]at hw';refine⟨fun h=>⟨Xay,fun c _ hn=>?_⟩,kk _ _ ⟨h1,h2,h3,D,h4.set hm hw' rfl,h5,I.step (fun _ p hp=>bLL Yaz) (fun _=>lX hw' (bKX.2 ⟨_,hm.mem,rfl⟩)) (h4.set hm hw' rfl).dom⟩⟩
 rcases hfl with hf|hf
 ·rw[hf]at h;cases h
 ·rw[hw'.1,bNZ (by rintro rfl;exact hn hf)]
theorem IU.fn{f:FuncId}{args:Array Γ}{D:aC}{post:aC→Γ→aD→Prop}{I:aC→Γ→Prop}{e sz:Nat}(h:IU P f args D post)(hacc:∀D' v ν,post D' v ν→∃n cells,bD e sz v n cells ν∧∀D'',Le D' D''→kN D'' v n cells→I D'' v):Fn P f args D I:=by
 refine⟨h.1,fun w hw=>(h.2 w hw).mono ?_⟩;rintro e' w' ⟨v,D',ν,rfl,hs,hp⟩;obtain⟨n,cells,ha,hk⟩:=hacc D' v ν hp;rcases ha with⟨old,hv,hn,hc,hν⟩|⟨b,cap,junk,hv,hncap,hν,hl1,R⟩
 ·subst hν;exact⟨v,D',rfl,hs,hk D' (Le.refl _) (bLL ⟨old,hv,hn,hc⟩)⟩
 ·subst hν;have hb:=(hs.box (b,.cells (cells++junk).toArray e (0,0)) Ye).2.2;have hs':jE (hd w) w.heap.size D [] ([]++[(b,.cells (cells++junk).toArray e (0,0))]++[]) D' w':=by simpa using hs
  obtain⟨D'',hle,hD'',hDo,O⟩:=hs'.freeze (hb.resolve_right Ye);exact⟨v,D'',rfl,by simpa using O,hk D'' hle (bLG ⟨b,cap,hv,hncap,fun j u hj=>by rw[hD'',bOH];exact hj⟩)⟩
def LW{α:Type}(P:Program)(f:FuncId)(cap:List Γ)(Dr:aC)(xs:List α)(enc:Nat→List Γ→Prop)(cells:α→List Γ):Prop:=
 EF P f∧∀(lo l:Nat) (J Jx:List α→wC),(∀pre,T1 lo (J pre))→(∀pre,T1 lo (Jx pre))→
  (∀pre x β D w bo vs,(∃r,xs=pre++x::r)→G2 lo D w→J pre β D w→(∀b∈β,b<w.heap.size)→Le Dr D→enc bo vs→KN β D w bo (cells x)→
   jO P l vs w fun b D' w'=>G2 lo D' w'∧G5 β D w D' w'∧(if b then J (pre++[x]) β D' w' else Jx (pre++[x]) β D' w'))→
  ∀D w,G2 lo D w→Le Dr D→J [] [] D w→Calls P f (.func (.yield l) #[] #[]::cap).toArray w fun e w'=>∃v D',e=.returned v∧G2 lo D' w'∧(J xs [] D' w'∨∃pre,Jx pre [] D' w')
theorem X2{α γ:Type}{xs:List α}{enc:Nat→List Γ→Prop}{cells:α→List Γ}{Dr:aC}{f:FuncId}{cap:List Γ}{gop:Operand}{ps:Array Tmp}{assign body:Code}
  (Φ:List α→γ→Prop) (Ψ:List α→Code→γ→Prop) (M:γ→aD) (g₀:γ) (hr:X.r=none) (hex:X.ex=none) (hmods:∀g,∀k∈X.mods,k∈(M g).ks)
  (hg:ev σ gop=some (.func (.func f) #[] cap.toArray)) (hit:LW P f cap Dr xs enc cells) (hDr:Dr∈Ds) (hps:∀b vs,enc b vs→vs.length=ps.size) (hpN:(ps.toList.all fun p=>Nat.blt p X.N)=true) (h₀:Φ [] g₀) (hμ:M g₀=μ)
  (hround:∀pre x g,(∃r,xs=pre++x::r)→Φ pre g→∀(l bd bo:Nat) (vs:List Γ) (rec:Loop) (h0:H0) (D:aC),(∀D₁∈Ds,Le D₁ D)→enc bo vs→At D bo 0 (cells x)→rec.state=.ready→rec.pending=none→
   WC P (Xr l X.N h0 D ((M g++(l,Obj.loop rec)::[(bd,Obj.deferred (some []))]).map (·.1)))
    (Exit.then (fun a₁ w₁=>∃w₂,(Instr.beginRound l).run P w₁=.ok () w₂∧body.wpIn ((FW none).inRound l) 0 P (roundPost P l (G8 h0 D ((M g++(l,Obj.loop rec)::[(bd,Obj.deferred (some []))]).map (·.1)) (Φ (pre++[x])) (Ψ (pre++[x]))
     (fun g=>M g++(l,Obj.loop {rec with state:=.ready,pending:=none})::[(bd,Obj.deferred (some []))]) fun c g=>M g++(l,Obj.loop {rec with state:=.done,pending:=some c})::[(bd,Obj.deferred (some []))])) a₁ w₂) fun _ _ _=>False)
    assign (I9 ps.toList vs σ) (M g++(l,Obj.loop rec)::[(bd,Obj.deferred (some []))]) (D::Ds))
  (hdone:∀g bd,Φ xs g→∀a w,Hl (X.withDs bd) σ (M g++[(bd,Obj.deferred (some []))]) Ds a w→Q .normal a w)
  (hstop:∀pre c g bd,Ψ pre c g→WC P (X.withDs bd) Q c σ (M g++[(bd,Obj.deferred (some []))]) Ds):WC P X Q (.rangeFunc gop ps assign body) σ μ Ds:=by
 intro a w hh;subst hμ;have hev:=hh.eval hg;obtain⟨h1,h2,h3,D,h4,h5,h6⟩:=hh;refine wpIn_rangeFunc fun fn _=>?_
 have hround':(FW X.r).round=none:=hr;rw[hround'];have hmk:∀g (B:aD),∀k∈X.mods,k∈(M g++B).ks:=fun g B k hk=>by
  show k∈(M g++B).map _;rw[bLO];exact bLH _ (hmods g k hk)
 let bd:=w.heap.size
 let l:=w.heap.size+1
 let I:Loop:={state:=.ready,pending:=none,fn,tmps:=a.tmps,params:=ps,assign,body,defers:=bd}
 let V:Δ:={w with heap:=w.heap.push (.deferred (some []))}
 let U:Δ:={V with heap:=V.heap.push (.loop I)}
 have Y:jE X.h0 X.lo X.D0 X.mods ((bd,Obj.deferred (some []))::M g₀) D V:=h4.push (.deferred (some [])) trivial;have O:jE X.h0 X.lo X.D0 X.mods ((l,Obj.loop I)::(bd,Obj.deferred (some []))::M g₀) D U:=by
  have:=Y.push (.loop I) trivial;have e:V.heap.size=l:=by simp[V,l]
  rw[e]at this;exact this
 have hperm:jE X.h0 X.lo X.D0 X.mods (M g₀++(l,Obj.loop I)::[(bd,Obj.deferred (some []))]) D U:=by
  refine O.sub (fun p hp=>?_) ?_
  ·simp only[bLM,bNA,n4,bND]at hp ⊢
   rcases hp with hp|hp|hp
   ·exact bLG (bLG hp)
   ·exact bLL hp
   ·exact bLG (bLL hp)
  ·have hn:=O.nd;simp only[bMD,bMX,bNA,bQE]at hn;simp only[bLO,bMD,bPK,bLJ,bMX,bNA,n4,bND,bPU,bNH,and_true];refine⟨hn.2.2,hn.1.1,fun q hq r hr'=>?_⟩;rcases hr' with rfl|rfl
   ·rintro rfl;exact hn.1.2 hq
   ·rintro rfl;exact hn.2.1 hq
 refine⟨l,[oC bd],U,{target:=.fn (.func f) cap.toArray,args:=#[.func (.yield l) #[] #[]]},U,f,(.func (.yield l) #[] #[]::cap).toArray,U,run_enterLoop_outer fn a.tmps ps assign body,?_,fun _ _=>trivial,?_,fun h=>Xab,?_⟩
 ·simp only[resolve,Deferred.ofValue];have e:Array.map a.eval #[Operand.const (Value.func (Fn.yield l) #[] #[])]=#[.func (.yield l) #[] #[]]:=by simp[Act.eval]
  rw[e,hev];rfl
 ·simp only[invoke];rw[hit.1];simp
 ·refine dY.2 ((hit.2 X.lo l
   (fun pre=>aUJ X.h0 X.lo X.D0 X.mods Ds (Φ pre) fun g=>M g++(l,Obj.loop I)::[(bd,Obj.deferred (some []))])
   (fun pre=>aUJ X.h0 X.lo X.D0 X.mods Ds (fun cg:Code×γ=>Ψ pre cg.1 cg.2) fun cg=>M cg.2++(l,Obj.loop {I with state:=.done,pending:=some cg.1})::[(bd,Obj.deferred (some []))])
   (fun _=>m4) (fun _=>m4) ?_ D U O.dom (h5 Dr hDr) ⟨g₀,h₀,hperm,h5,(fun _ h=>Xaa),(fun _ _ h=>Xaa),hmk g₀ _⟩).mono ?_)
  ·rintro pre x β Dx wx bo vs hx hdx ⟨g,hΦ,hst,hDs,hβ,hM,hmg⟩ hβs hle henc ⟨hbo,hbD,be,bfz,hbw⟩;have hbox:=(hst.box (l,Obj.loop I) Ye).1;refine⟨fn,_,assign,body,run_yield hbox (by simpa using hps bo vs henc),?_⟩;refine(roundIn_of_wpIn (F:=FW none) bQK (R:=G8 (hd wx) (jC Dx bo (cells x)) ((M g++(l,Obj.loop I)::[(bd,Obj.deferred (some []))]).map (·.1)) (Φ (pre++[x])) (Ψ (pre++[x]))
     (fun g=>M g++(l,Obj.loop {I with state:=.ready,pending:=none})::[(bd,Obj.deferred (some []))]) fun c g=>M g++(l,Obj.loop {I with state:=.done,pending:=some c})::[(bd,Obj.deferred (some []))]) ?_).mono ?_
   ·have hw:=hround pre x g hx hΦ l bd bo vs I (hd wx) (jC Dx bo (cells x)) (fun D₁ h=>(hDs D₁ h).trans (d9 hbD (hst.agr.ne0 hbD))) henc (UU _ _ _) rfl rfl;have ht:(ps.zip vs.toArray).foldl (fun tmps (t,a)=>tmps.setIfInBounds t a) a.tmps=(ps.toList.zip vs).foldl (fun tmps (p:Tmp×Γ)=>tmps.setIfInBounds p.1 p.2) a.tmps:=by
     rw[←Array.foldl_toList];simp
    have hpN':∀p∈ps.toList,p<a.tmps.size:=fun p hp=>by rw[h1];simpa [Nat.blt_eq]using bLX.1 hpN p hp
    refine hw {tmps:=_,defers:=[]} wx ⟨?_,fun s v hs=>?_,rfl,jC Dx bo (cells x),⟨bLQ _,bLQ _,fun _ _ _=>rfl,fun _ _=>rfl,IJ hst.agr hbw hbD,fun p hp=>?_,hst.nd,hst.fz,fun e he=>bLY he⟩,fun D₁ hD₁=>?_,bQK⟩
    ·show((ps.zip vs.toArray).foldl _ a.tmps).size=X.N;rw[ht,d7];exact h1
    ·show((ps.zip vs.toArray).foldl _ a.tmps)[s]?= some v;rw[ht];exact l6 _ _ _ _ h2 hpN' s v hs
    ·obtain⟨p1,p2,p3⟩:=hst.box p hp;exact⟨p1,Xcv,bLG (bKX.2 ⟨p,hp,rfl⟩)⟩
    ·rcases bNA.1 hD₁ with rfl|hD₁
     ·exact Le.refl _
     ·exact(hDs D₁ hD₁).trans (d9 hbD (hst.agr.ne0 hbD))
   ·rintro e w' ⟨b,D',rfl,hb⟩;have fin:∀μ',jE (hd wx) wx.heap.size (jC Dx bo (cells x)) ((M g++(l,Obj.loop I)::[(bd,Obj.deferred (some []))]).map (·.1)) μ' D' w'→jE X.h0 X.lo X.D0 X.mods μ' (jC D' bo []) w'∧G5 β Dx wx (jC D' bo []) w'∧(∀D₁∈Ds,Le D₁ (jC D' bo []))∧(∀p∈μ',p.1∉β):=by
     intro μ' Z;have hs':=Z.hide hbD (hst.agr.ne0 hbD);refine⟨hst.roundM hmg hs',jE.roundHigh hst.agr hs' hβs hM,fun D₁ hD₁=>(hDs D₁ hD₁).trans (iF hst.agr hs'),fun p hp hpb=>?_⟩;rcases(hs'.box p hp).2.2 with h|h
     ·have:=hβs _ hpb;omega
     ·obtain⟨q,hq,he⟩:=bKX.1 h;exact hM q hq (by rw[he];exact hpb)
    refine⟨b,jC D' bo [],rfl,?_⟩;cases b with
    |true=>
     obtain⟨g',hg',hs'⟩:=hb;obtain⟨f1,f2,f3,f4⟩:=fin _ hs';exact⟨f1.dom,f2,g',hg',f1,f3,hβ,f4,hmk g' _⟩
    |false=>
     obtain⟨c',g',hg',hs'⟩:=hb;obtain⟨f1,f2,f3,f4⟩:=fin _ hs';exact⟨f1.dom,f2,(c',g'),hg',f1,f3,hβ,f4,hmk g' _⟩
  ·rintro e w' ⟨v,D',rfl,hd,hend⟩;have post:∀(g:γ) (r:Loop),jE X.h0 X.lo X.D0 X.mods (M g++(l,Obj.loop r)::[(bd,Obj.deferred (some []))]) D' w'→(∀D₁∈Ds,Le D₁ D')→
     Hl (X.withDs bd) σ (M g++[(bd,Obj.deferred (some []))]) Ds {a with defers:=[oC bd]++a.defers} (w'.putObj l (.loop {r with state:=.exhausted})):=by
    intro g r hs hD';have hHas:bO (M g++(l,Obj.loop r)::[(bd,Obj.deferred (some []))]) l (.loop r) (.loop {r with state:=.exhausted}) (M g++(l,Obj.loop {r with state:=.exhausted})::[(bd,Obj.deferred (some []))]):=.app .head;have hs':=hs.set (w':=w'.putObj l (.loop {r with state:=.exhausted})) hHas ⟨rfl,rfl⟩ trivial;have hs'':=hs'.sub (μ':=M g++[(bd,Obj.deferred (some []))]) (fun p hp=>by
     rcases bLM.1 hp with hp|hp
     ·exact bLH _ hp
     ·exact LE _ (bKY _ hp)) (by
     have hn:=hs'.nd;rw[bLO,bLJ]at hn ⊢
     simp only[bMD]at hn;exact⟨hn.1,(bMX.1 hn.2.1).2,fun q hq r hr=>hn.2.2 q hq r (bKY _ hr)⟩)
    exact⟨h1,h2,bLE (oC bd:: ·) h3,D',hs'',hD',Xcc⟩
   rcases hend with⟨g,hΦ,hs,hDs,_,_,_⟩|⟨pre,⟨c,g⟩,hΨ,hs,hDs,_,_,_⟩
   ·have hb:=(hs.box (l,Obj.loop I) Ye).1;exact⟨none,_,run_endLoop hb (by simp[I]),hdone g bd hΦ _ _ (post g I hs hDs)⟩
   ·have hb:=(hs.box (l,Obj.loop {I with state:=.done,pending:=some c}) Ye).1;refine⟨some c,_,run_endLoop hb Ye,?_⟩;have:=hstop pre c g bd hΨ _ _ (post g _ hs hDs);exact this
theorem DC{α:Type}{f:FuncId}{fn:Func}{c:Code}{cap:List Γ}{Dr:aC}{xs:List α}{enc:Nat→List Γ→Prop}{cells:α→List Γ}(N:Nat)(hf:P.funcs[f]?= some fn)(hn:(fn.name== "runtime.NumGoroutine")=false)(hb:fn.body=some c)(hN:fn.ntmps=N)(hsz:Nat.ble (cap.length+1) N=true)
  (h:∀(lo l:Nat) (J Jx:List α→wC),(∀pre,T1 lo (J pre))→(∀pre,T1 lo (Jx pre))→
   (∀pre x β D w bo vs,(∃r,xs=pre++x::r)→G2 lo D w→J pre β D w→(∀b∈β,b<w.heap.size)→Le Dr D→enc bo vs→KN β D w bo (cells x)→
    jO P l vs w fun b D' w'=>G2 lo D' w'∧G5 β D w D' w'∧(if b then J (pre++[x]) β D' w' else Jx (pre++[x]) β D' w'))→
   WC P (Xj N lo (J [])) (bodyPost P fn (AY lo [Dr] fun _ J' _=>J'=J xs∨∃pre,J'=Jx pre)) c (jY 0 (.func (.yield l) #[] #[]::cap)) [] [Dr]):LW P f cap Dr xs enc cells:=by
 refine⟨EF.of hf hn hb,fun lo l J Jx hs hsx hY D w hd hle hJ=>?_⟩;have hF:=V3 (μ:=[]) N hf hn hb hN (by simpa using hsz) (h lo l J Jx hs hsx hY);refine(hF.2 w ⟨D,⟨bQA _,hd.2,fun b hb=>absurd hb (bPM _),fun b hb=>absurd hb (bPM _),hd.1,Yi,bNH,Yi,fun e he=>by cases he⟩,fun D₁ h1=>?_,hs [],hJ⟩).mono ?_
 ·simp only[bLS]at h1;subst h1;exact hle
 ·rintro e w' ⟨v,J',μ',rfl,⟨D',hst,hds,hex⟩,hpost⟩;refine⟨v,D',rfl,hst.dom,?_⟩;have hJ':J' [] D' w':=hex.1.own _ [] D' w' hex.2 (fun b hb=>by cases hb);rcases hpost with rfl|⟨pre,rfl⟩
  ·exact bLL hJ'
  ·exact bLG ⟨pre,hJ'⟩
theorem Hl.subB{μ':aD}{a:Act}{w:Δ}(h:Hl X σ μ Ds a w)(hμ:μ'.Sublist μ):Hl X σ μ' Ds a w:=by
 obtain⟨g1,g2,g3,D,h4,h5,I⟩:=h;exact⟨g1,g2,g3,D,h4.sub (fun p hp=>hμ.subset hp) (h4.nd.sublist (hμ.map _)),h5,I.step (fun _ p hp=>bLL (bKX.2 ⟨p,hμ.subset hp,rfl⟩)) (fun _=>aVF.refl _ _ _) h4.dom⟩
theorem bHD{c:Code}{μ':aD}(hμ:μ'.Sublist μ)(h:WC P X Q c σ μ' Ds):WC P X Q c σ μ Ds:=fun a w hh=>h a w (hh.subB hμ)
theorem DZ{μ':aD}(hμ:μ'.Sublist μ)(h:WL P X bad all K Q os σ μ' Ds):WL P X bad all K Q os σ μ Ds:=fun a w hh=>h a w (hh.subB hμ)
theorem Hl.perm{μ':aD}{a:Act}{w:Δ}(h:Hl X σ μ Ds a w)(h1:∀r∈μ',r∈μ)(h2:(μ.map (·.1)).Nodup→(μ'.map (·.1)).Nodup):Hl X σ μ' Ds a w:=by
 obtain⟨g1,g2,g3,D,h4,h5,I⟩:=h;exact⟨g1,g2,g3,D,h4.sub h1 (h2 h4.nd),h5,I.step (fun _ r hr=>bLL (bKX.2 ⟨r,h1 r hr,rfl⟩)) (fun _=>aVF.refl _ _ _) h4.dom⟩
theorem P8{K':Act→Δ→Prop}(h:∀a w,Hl X σ μ Ds a w→K' a w):∀a w,Hl X σ μ Ds a w→(Exit.then K' Q) .normal a w:=h
theorem aAB{c c':Code}{γ:Type}(I:γ→Prop)(S:γ→cD)(M:γ→aD)(E:γ→List aC)(h1:WC P X (Exit.then (fun a w=>∃g,I g∧Hl X (S g) (M g) (E g) a w) Q) c σ μ Ds)(h2:∀g,I g→WC P X Q c' (S g) (M g) (E g)):WC P X Q (.seq c c') σ μ Ds:=
 fun a w hh=>wpIn_seq (wpIn_mono (h1 a w hh) fun e a w he=>by
  cases e with
  |normal=>obtain⟨g,hg,h⟩:=he;exact h2 g hg a w h
  |_=>exact he)
def pC(v:Γ):List PanicEntry:=[{v,recovered:=false}]
def kW(P:Program)(f:FuncId)(args:List Γ)(D:aC)(ν:aD)(post:aC→Γ→aD→Prop)(pan:Γ→Prop):Prop:=
 EF P f∧∀w,fO D w→(∀p∈ν,w.heap[p.1]?= some p.2∧D p.1=[]∧dC p.2)→ν.ks.Nodup→Calls P f args.toArray w fun e w'=>
  (∃v D' ν',e=.returned v∧jE (hd w) w.heap.size D ν.ks ν' D' w'∧post D' v ν')∨(∃v D',e=.panicked (pC v)∧jE (hd w) w.heap.size D ν.ks [] D' w'∧pan v)
theorem jE.afterG{h0:H0}{lo:Nat}{D0 D D':aC}{mods:List Nat}{A B ν ν':aD}{w w':Δ}(h:jE h0 lo D0 mods (A++ν++B) D w)(hs:jE (hd w) w.heap.size D ν.ks ν' D' w'):jE h0 lo D0 mods (A++ν'++B) D' w':=by
 have hle:=bNK h.hlo h.size;have hin:∀c∈ν.ks,∃o,(c,o)∈ν:=fun c hc=>by
  obtain⟨p,hp,rfl⟩:=bKX.1 hc;exact⟨p.2,hp⟩
 have hbx:∀p∈ν,_:=fun p hp=>h.box p (bLH _ (LE _ hp))
 have hnd:=h.nd;simp only[bLO]at hnd;have hA:∀p∈A,p.1∉ν.ks∧p.1<w.heap.size:=fun p hp=>⟨fun hm=>(bLJ.1 (bLJ.1 hnd).1).2.2 p.1 (bKX.2 ⟨p,hp,rfl⟩) p.1 hm rfl,bR (h.box p (bLH _ (bLH _ hp))).1⟩
 have hB:∀p∈B,p.1∉ν.ks∧p.1<w.heap.size:=fun p hp=>⟨fun hm=>(bLJ.1 hnd).2.2 p.1 (LE _ hm) p.1 (bKX.2 ⟨p,hp,rfl⟩) rfl,bR (h.box p (LE _ hp)).1⟩
 have hN:∀p∈ν',p.1∈ν.ks∨w.heap.size≤p.1:=fun p hp=>((hs.box p hp).2.2).symm
 refine⟨h.hlo,bNK h.size hs.size,fun c hc hm=>?_,fun c hc=>?_,hs.agr,fun p hp=>?_,?_,fun p hp=>?_,fun e he=>(hs.env _ rfl).trans (h.env e he)⟩
 ·have hne:c∉ν.ks:=by
   intro hcm;obtain⟨o,ho⟩:=hin c hcm;rcases(hbx _ ho).2.2 with h'|h'
   ·have:=h.hlo;simp at h';omega
   ·exact hm h'
  rw[hs.old c (bNR hc hle) hne];exact h.old c hc hm
 ·rw[hs.dold c (bNR hc hle)];exact h.dold c hc
 ·rcases bLM.1 hp with hp|hp
  ·rcases bLM.1 hp with hp|hp
   ·obtain⟨h1,h2,h3⟩:=h.box p (bLH _ (bLH _ hp));obtain⟨hne,hl⟩:=hA p hp;exact⟨Xbj,Xax,h3⟩
   ·obtain⟨O,R,I⟩:=hs.box p hp;refine⟨O,R,?_⟩;rcases I with I|I
    ·exact bLL (bNK h.size I)
    ·obtain⟨o,ho⟩:=hin p.1 I;exact(hbx _ ho).2.2
  ·obtain⟨h1,h2,h3⟩:=h.box p (LE _ hp);obtain⟨hne,hl⟩:=hB p hp;exact⟨Xbj,Xax,h3⟩
 ·simp only[bLO];rw[bLJ,bLJ];refine⟨⟨(bLJ.1 (bLJ.1 hnd).1).1,hs.nd,fun a ha b hb e=>?_⟩,(bLJ.1 hnd).2.1,fun a ha b hb e=>?_⟩
  ·obtain⟨p,hp,rfl⟩:=bKX.1 ha;obtain⟨q,hq,rfl⟩:=bKX.1 hb;obtain⟨h1,h2⟩:=hA p hp;rcases hN q hq with h3|h3
   ·exact h1 (e▸h3)
   ·omega
  ·rcases bLM.1 ha with ha|ha
   ·exact(bLJ.1 hnd).2.2 a (bLH _ ha) b hb e
   ·obtain⟨p,hp,rfl⟩:=bKX.1 ha;obtain⟨q,hq,rfl⟩:=bKX.1 hb;obtain⟨h1,h2⟩:=hB q hq;rcases hN p hp with h3|h3
    ·exact h1 (e▸h3)
    ·omega
 ·rcases bLM.1 hp with hp|hp
  ·rcases bLM.1 hp with hp|hp
   ·exact h.fz p (bLH _ (bLH _ hp))
   ·exact hs.fz p hp
  ·exact h.fz p (LE _ hp)
theorem Z6{c:Operand}{xs:Array Operand}{ats:Array Θ}{f:FuncId}{c1 c2:List Γ}{vs:List Γ}{A B ν:aD}{post:aC→Γ→aD→Prop}{pan:Γ→Prop}(ho:all[ix]?= some ⟨some d,.call {callee:=.value c,args:=xs,argTypes:=ats},ty,pos,aft,g⟩)(hc:ev σ c=some (.func (.func f) c1.toArray c2.toArray))(hxs:x5 σ xs.toList=some vs)
  (hex:X.ex=none) (hfl:fl=false∨∀p∈ν,p.1∈bad) (hu:∀p∈ν,dC p.2) (hf:∀D,(∀D₁∈Ds,Le D₁ D)→kW P f (c1++vs++c2) D ν post pan) (hN:Nat.blt d X.N=true) (hg:dH all σ g)
  (kp:∀v D,(∀D₁∈Ds,Le D₁ D)→pan v→∀a w,Hl X σ (A++B) (D::Ds) a w→Q (.panic (pC v)) a w)
  (kk:∀v D ν',(∀D₁∈Ds,Le D₁ D)→post D v ν'→WL P X bad all K Q os ((d,v)::σ) (A++ν'++B) (D::Ds)):
  WL P X bad all K Q ((fl,ix)::os) σ (A++ν++B) Ds:=by
 refine fG ho rfl rfl hg fun a w hh=>?_
 obtain⟨h1,h2,h3,D,h4,h5,h6⟩:=id hh;have hF:=hf D h5;have hbx:∀p∈ν,_:=fun p hp=>h4.box p (bLH _ (LE _ hp))
 have hnd:=h4.nd;simp only[bLO]at hnd;rw[xY hF.1 (hh.eval hc) (mD (fun _ _ hx=>hh.eval hx) hxs)];refine⟨fun h=>Xab,dY.2 ((hF.2 w h4.agr (fun p hp=>⟨(hbx p hp).1,(hbx p hp).2.1,hu p hp⟩) (bLJ.1 (bLJ.1 hnd).1).2.1).mono ?_)⟩;rintro e w' (⟨v,D',ν',rfl,hs,hpost⟩|⟨v,D',rfl,hs,hpan⟩)
 ·have hle:=iF h4.agr hs;refine⟨fun hflt=>⟨hs.size,fun c hc hcb=>hs.old c hc fun hm=>?_⟩,kk v D' ν' (fun D₁ hD₁=>(h5 D₁ hD₁).trans hle) hpost _ _ ?_⟩
  ·obtain⟨p,hp,rfl⟩:=bKX.1 hm;rcases hfl with h|h
   ·rw[hflt]at h;cases h
   ·exact hcb (h p hp)
  ·refine Hl.put ⟨h1,h2,h3,D',h4.afterG hs,fun D₁ hD₁=>?_,Xba⟩ hN v;rcases bNA.1 hD₁ with rfl|hD₁
   ·exact Le.refl _
   ·exact(h5 D₁ hD₁).trans hle
 ·have hle:=iF h4.agr hs;have h7:=h4.afterG hs;rw[n5]at h7;exact kp v D' (fun D₁ hD₁=>(h5 D₁ hD₁).trans hle) hpan a w' ⟨h1,h2,h3,D',h7,fun D₁ hD₁=>by
   rcases bNA.1 hD₁ with rfl|hD₁
   ·exact Le.refl _
   ·exact(h5 D₁ hD₁).trans hle,Xba⟩
theorem _root_.Go.Fs.Zl{c:Operand}{xs:Array Operand}{ats:Array Θ}{f:FuncId}{c1:List Γ}{c2:List Γ}{vs:List Γ}(A:aD)(B:aD)(ν:aD){post:aC→Γ→aD→Prop}{pan:Γ→Prop}(e9:(all[ix]?,ev σ c,x5 σ xs.toList,X.ex)=(some ⟨some d,.call {callee:=.value c,args:=xs,argTypes:=ats},ty,pos,aft,g⟩,some (.func (.func f) c1.toArray c2.toArray),some vs,none))(hfl:fl=false∨∀p∈ν,p.1∈bad)(hf:∀D,(∀D₁∈Ds,Le D₁ D)→kW P f (c1++vs++c2) D ν post pan)(kp:∀v D,(∀D₁∈Ds,Le D₁ D)→pan v→∀a w,Hl X σ (A++B) (D::Ds) a w→Q (.panic (pC v)) a w)(kk:∀v D ν',(∀D₁∈Ds,Le D₁ D)→post D v ν'→WL P X bad all K Q os ((d,v)::σ) (A++ν'++B) (D::Ds))(hu:∀p∈ν,dC p.2:=by exact Yi)(hN:Nat.blt d X.N=true:=by exact rfl)(hg:dH all σ g:=by exact bQK):WL P X bad all K Q ((fl,ix)::os) σ (A++ν++B) Ds:=Z6 (A:=A) (B:=B) (ν:=ν) (bLE (fun z=>z.1) e9) (bLE (fun z=>z.2.1) e9) (bLE (fun z=>z.2.2.1) e9) (bLE (fun z=>z.2.2.2) e9) hfl hu hf hN hg kp kk
theorem _root_.Go.Fs.Zm{c:Operand}{xs:Array Operand}{ats:Array Θ}{f:FuncId}{c1:List Γ}{c2:List Γ}{vs:List Γ}(A:aD)(B:aD)(ν:aD){post:aC→Γ→aD→Prop}{pan:Γ→Prop}(e9:(all[ix]?,ev σ c,x5 σ xs.toList,X.ex)=(some ⟨some d,.call {callee:=.value c,args:=xs,argTypes:=ats},ty,pos,aft,g⟩,some (.func (.func f) c1.toArray c2.toArray),some vs,none))(hu:∀p∈ν,dC p.2)(hf:∀D,(∀D₁∈Ds,Le D₁ D)→kW P f (c1++vs++c2) D ν post pan)(kp:∀v D,(∀D₁∈Ds,Le D₁ D)→pan v→∀a w,Hl X σ (A++B) (D::Ds) a w→Q (.panic (pC v)) a w)(kk:∀v D ν',(∀D₁∈Ds,Le D₁ D)→post D v ν'→WL P X bad all K Q os ((d,v)::σ) (A++ν'++B) (D::Ds))(hfl:fl=false∨∀p∈ν,p.1∈bad:=by exact(bLL rfl))(hN:Nat.blt d X.N=true:=by exact rfl)(hg:dH all σ g:=by exact bQK):WL P X bad all K Q ((fl,ix)::os) σ (A++ν++B) Ds:=Z6 (A:=A) (B:=B) (ν:=ν) (bLE (fun z=>z.1) e9) (bLE (fun z=>z.2.1) e9) (bLE (fun z=>z.2.2.1) e9) (bLE (fun z=>z.2.2.2) e9) hfl hu hf hN hg kp kk

def CZ(X:Cx)(post:aC→Γ→aD→Prop)(pan:Γ→Prop):Ending→Δ→Prop:=fun e w'=>
 (∃v D' ν',e=.returned v∧jE X.h0 X.lo X.D0 X.mods ν' D' w'∧post D' v ν')∨(∃v D',e=.panicked (pC v)∧jE X.h0 X.lo X.D0 X.mods [] D' w'∧pan v)
theorem aBV{fn:Func}{R:Ending→Δ→Prop}:PI (bodyPost P fn R):=fun _ _ _ _ he h=>⟨he.trans h.1,h.2⟩
theorem eH{f:FuncId}{fn:Func}{c:Code}{args:List Γ}{D:aC}{ν:aD}{post:aC→Γ→aD→Prop}{pan:Γ→Prop}(N:Nat)(hf:P.funcs[f]?= some fn)(hn:(fn.name== "runtime.NumGoroutine")=false)(hb:fn.body=some c)(hN:fn.ntmps=N)(hsz:Nat.ble args.length N=true)
  (h:∀h0:H0,(∀p∈ν,p.1<h0.size)→ν.ks.Nodup→WC P (sV N h0 D ν.ks) (bodyPost P fn (CZ (sV N h0 D ν.ks) post pan)) c (jY 0 args) ν [D]):kW P f args D ν post pan:=by
 refine⟨EF.of hf hn hb,fun w hw hν hnd=>?_⟩;subst hN;have hsz:=bNJ hsz;refine(dY (r:=none) (n:=0)).1 ((callsIn_of_wp (R:=CZ (sV fn.ntmps (hd w) D ν.ks) post pan) hf hb bQK (h (hd w) (fun p hp=>bR (hν p hp).1) hnd _ w ⟨?_,fun s v hs=>?_,rfl,D,⟨bLQ _,bLQ _,fun _ _ _=>rfl,fun _ _=>rfl,hw,(fun p hp=>?_),hnd,(fun p hp=>(hν p hp).2.2),fun e he=>bLY he⟩,fun D₁ h1=>?_,bQK⟩) rfl).mono ?_)
 ·simp[sV];omega
 ·obtain⟨_,h2⟩:=gV args 0 s v hs;have hl:=(bLD.1 h2).1;simp only[bPB]at h2 hl;show(args.toArray++_)[s]?= some v;rw[bNT Yay];simpa using h2
 ·exact⟨(hν p hp).1,(hν p hp).2.1,bLG (bKX.2 ⟨p,hp,rfl⟩)⟩
 ·simp only[bLS]at h1;subst h1;exact Le.refl _
 ·rintro e w' (⟨v,D',ν',rfl,hs,hp⟩|⟨v,D',rfl,hs,hp⟩)
  ·exact bLL ⟨v,D',ν',rfl,hs,hp⟩
  ·exact bLG ⟨v,D',rfl,hs,hp⟩
theorem bI{fn:Func}{A B ν':aD}{post:aC→Γ→aD→Prop}{pan:Γ→Prop}{e:Exit}(he:(match e with|.normal=>true|.ret=>true|_=>false)=true){rs:List ResultVar}{vs:List Γ}(hds:X.ds=[])(hr:fn.results=rs.toArray)(h:A1 P X σ (A++ν'++B) rs vs)
  (hp:∀D,(∀D₁∈Ds,Le D₁ D)→post D (tA vs) ν'):∀a w,Hl X σ (A++ν'++B) Ds a w→bodyPost P fn (CZ X post pan) e a w:=by
 intro a w hh;have hrun:=jN hh hr h;obtain⟨h1,h2,h3,D,h4,h5,I⟩:=hh;have hnd:=h4.nd;simp only[bLO]at hnd;have:a.defers=[]∧∃v,(results fn a.tmps).run P w=.ok v w∧CZ X post pan (.returned v) w:=⟨h3.trans hds,_,hrun,bLL ⟨_,D,ν',rfl,h4.sub (fun p hp=>bLH _ (LE _ hp)) (bLJ.1 (bLJ.1 hnd).1).2.1,hp D h5⟩⟩
 cases e<;>first|exact this|cases he
theorem i6{fn:Func}{post:aC→Γ→aD→Prop}{pan:Γ→Prop}{e:Exit}(I:((match e with|.normal=>true|.ret=>true|_=>false),X.ds,fn.results)=(true,[],#[]))
  (hp:∀D,(∀D₁∈Ds,Le D₁ D)→post D (tA []) μ):∀a w,Hl X σ μ Ds a w→bodyPost P fn (CZ X post pan) e a w:=fun a w hh=>
 bI (A:=[]) (ν':=μ) (B:=[]) (rs:=[]) (vs:=[]) (bLE (fun z=>z.1) I) (bLE (fun z=>z.2.1) I) (bLE (fun z=>z.2.2) I) bQK hp a w (hh.boxesEq (n5 _).symm)
theorem Y1{fn:Func}{post:aC→Γ→aD→Prop}{pan:Γ→Prop}{e:Exit}{t:Nat}{v:Γ}(I:((match e with|.normal=>true|.ret=>true|_=>false),X.ds,fn.results,look σ t)=(true,[],#[.tmp t],some v))
  (hp:∀D,(∀D₁∈Ds,Le D₁ D)→post D (tA [v]) μ):∀a w,Hl X σ μ Ds a w→bodyPost P fn (CZ X post pan) e a w:=fun a w hh=>
 bI (A:=[]) (ν':=μ) (B:=[]) (rs:=[.tmp t]) (vs:=[v]) (bLE (fun z=>z.1) I) (bLE (fun z=>z.2.1) I) (bLE (fun z=>z.2.2.1) I) ⟨bLE (fun z=>z.2.2.2) I,bQK⟩ hp a w (hh.boxesEq (n5 _).symm)
theorem dA{fn:Func}{post:aC→Γ→aD→Prop}{pan:Γ→Prop}{v:Γ}(hds:X.ds=[])(hp:pan v):∀a w,Hl X σ μ Ds a w→bodyPost P fn (CZ X post pan) (.panic (pC v)) a w:=by
 rintro a w ⟨h1,h2,h3,D,h4,h5,I⟩;exact⟨h3.trans hds,bLG ⟨v,D,rfl,h4.sub Yi bNH,hp⟩⟩
theorem bIX{t:Θ}{fs:Array Field}(ho:all[ix]?= some ⟨some d,.makeInterface t x,ty,pos,aft,g⟩)(ht:P.underlying t=some (.struct fs))(hx:ev σ x=some v)(hN:Nat.blt d X.N=true)(hg:dH all σ g)(k:WL P X bad all K Q os ((d,.iface t v)::σ) μ Ds):WL P X bad all K Q ((fl,ix)::os) σ μ Ds:=
 bZ ho rfl rfl hN hg (fun ρ hρ w'=>by
  simp only[execOp,hρ x _ hx];unfold Instr.makeInterface;rw[Ω,Ω,TU.of ht w'];rfl) k
theorem aVT{t:Θ}{v:Γ}(ho:all[ix]?= some ⟨none,.panic x,ty,pos,aft,g⟩)(hx:ev σ x=some (.iface t v))(hg:dH all σ g)(k:∀a w,Hl X σ μ Ds a w→Q (.panic (pC (.iface t v))) a w):WL P X bad all K Q ((fl,ix)::os) σ μ Ds:=by
 refine fG ho rfl rfl hg fun a w hh=>?_
 have e:(execOp a.eval ⟨none,.panic x,ty,pos,aft,g⟩).run P w=.halt (.panic (.iface t v)) w:=by
  simp only[execOp,hh.eval hx,Instr.panic];rfl
 rw[e];exact k a w hh
theorem iR{D:aC}{b:Nat}{l:List Bool}{R:Rd Bool}(hR:∀D x cs,cs=[Value.bool x]→R D x cs)(hA:At D b 0 (l.map Value.bool))(hl:l.length≤1000):Sl D R 1 (qS b l.length l.length) l:=by
 refine⟨_,_,rfl,bLQ _,Yd,bLG ⟨b,0,rfl,fun i x hi=>⟨_,hR _ _ _ rfl,rfl,fun j v hj=>?_⟩⟩⟩;cases j with
 |zero=>
  obtain rfl:Value.bool x=v:=by simpa using hj
  have h:=hA i (.bool x) (by rw[bMI,hi];rfl);simpa using h
 |succ j=>simp at hj
theorem kW.frame{f:FuncId}{args:List Γ}{D:aC}{ν A B:aD}{post post':aC→Γ→aD→Prop}{pan:Γ→Prop}(h:kW P f args D ν post pan)(h1:∀D' v ν',Le D D'→post D' v ν'→post' D' v (A++ν'++B)):kW P f args D (A++ν++B) post' pan:=by
 refine⟨h.1,fun w hw hν hn=>?_⟩;have hnd:=hn;unfold aD.ks at hnd;simp only[bLO]at hnd;refine(h.2 w hw (fun p hp=>hν p (bLH _ (LE _ hp))) (bLJ.1 (bLJ.1 hnd).1).2.1).mono ?_;have hst:jE (hd w) w.heap.size D (A++ν++B).ks (A++ν++B) D w:=by
  refine⟨bLQ _,bLQ _,fun _ _ _=>rfl,fun _ _=>rfl,hw,fun p hp=>⟨(hν p hp).1,(hν p hp).2.1,bLG (bKX.2 ⟨p,hp,rfl⟩)⟩,hn,(fun p hp=>(hν p hp).2.2),fun e he=>bLY he⟩
 rintro e w' (⟨v,D',ν',he,hs,hp⟩|⟨v,D',he,hs,hp⟩)
 ·exact bLL ⟨v,D',A++ν'++B,he,hst.afterG hs,h1 _ _ _ (iF hw hs) hp⟩
 ·have I:=hst.afterG hs;exact bLG ⟨v,D',he,I.sub Yi bNH,hp⟩
theorem aNH{t e tr:Θ}{a:Option Addr}{n c:Nat}{ats:Array Θ}(ho:all[ix]?= some ⟨some d,.call {callee:=.builtin .len,args:=#[x],argTypes:=ats},tr,pos,aft,g⟩)(ht:P.underlying t=some (.slice e))(hx:ev σ x=some v)(hv:v=.slice a n c)(h0:ats[0]?= some t)
  (hN:Nat.blt d X.N=true) (hg:dH all σ g) (kk:WL P X bad all K Q os ((d,qI (n:Int))::σ) μ Ds):WL P X bad all K Q ((fl,ix)::os) σ μ Ds:=by
 subst hv;exact mM ho ht hx h0 hN hg kk
theorem kM{t tr:Θ}{b:Λ}{ats:Array Θ}(ho:all[ix]?= some ⟨some d,.call {callee:=.builtin .len,args:=#[x],argTypes:=ats},tr,pos,aft,g⟩)(ht:P.underlying t=some .string)(hx:ev σ x=some (.string b))(hat:ats[0]?= some t)
  (hN:Nat.blt d X.N=true) (hg:dH all σ g) (kk:WL P X bad all K Q os ((d,qI (b.size:Int))::σ) μ Ds):WL P X bad all K Q ((fl,ix)::os) σ μ Ds:=
 bZ ho rfl rfl hN hg (fun ρ hρ w'=>by
  have hx':=hρ x _ hx;simp[Builtin.len_,hat,hx',TU.of ht w',goInt,go_sem]) kk
namespace C12
structure aO where
 row:C1.dB
 table:C2.aW
 book:C3.bH
 yard:C7.aZ
end C12
open C12
def RB:Rd Bool:=fun _ b cs=>cs=[.bool b]
theorem RB.up:RB.Up:=fun _ _ _ h=>h
def RS:Rd Λ:=fun _ b cs=>cs=[.string b]
theorem RS.up:RS.Up:=fun _ _ _ h=>h
def cZ(s:aO)(pv cv hv lv mv bl bc yc yq:Γ):List Γ:=
 [pv,cv,qI s.row.wrong,qI s.row.off,qI s.table.last,hv,qI s.table.step,lv,mv,qI s.book.chairs,qI s.book.coin,qI s.book.box,bl,bc,yc,qI s.yard.fit,yq]
@[simp] theorem stC_len(s:aO)(pv cv hv lv mv bl bc yc yq:Γ):(cZ s pv cv hv lv mv bl bc yc yq).length=17:=rfl
structure kJ(D:aC)(s:aO)(pv cv hv lv mv bl bc yc yq:Γ):Prop where
 pl:Sl D RI 1 pv s.row.places
 ct:Sl D RC 3 cv s.row.counts
 ht:Sl D W5 2 hv s.table.heights
 lev:Sl D RI 1 lv s.table.levels
 mks:Sl D HB 4 mv s.table.marks
 ln:Sl D oE 3 bl s.book.lines
 cn:Sl D tC 3 bc s.book.counts
 ch:Sl D xW 4 yc s.yard.chairs
 cl:Sl D R2 2 yq s.yard.claims
theorem kJ.up{D D':aC}{s:aO}{pv cv hv lv mv bl bc yc yq:Γ}(h:kJ D s pv cv hv lv mv bl bc yc yq)(hl:Le D D'):kJ D' s pv cv hv lv mv bl bc yc yq:=
 ⟨h.pl.up RI.up hl,h.ct.up RC.up hl,h.ht.up W5.up hl,h.lev.up RI.up hl,h.mks.up HB.up hl,h.ln.up oE.up hl,h.cn.up tC.up hl,h.ch.up xW.up hl,h.cl.up R2.up hl⟩
def fW(D:aC)(v:Γ)(s:aO):Prop:=∃pv cv hv lv mv bl bc yc yq,v=.agg (cZ s pv cv hv lv mv bl bc yc yq).toArray∧kJ D s pv cv hv lv mv bl bc yc yq
theorem fW.up{D D':aC}{v:Γ}{s:aO}(h:fW D v s)(hl:Le D D'):fW D' v s:=by
 obtain⟨pv,cv,hv,lv,mv,bl,bc,yc,yq,e,h1⟩:=h;exact⟨pv,cv,hv,lv,mv,bl,bc,yc,yq,e,h1.up hl⟩
theorem kJ.row{D:aC}{s:aO}{pv cv hv lv mv bl bc yc yq:Γ}(h:kJ D s pv cv hv lv mv bl bc yc yq):mE D (.agg #[pv,cv,qI s.row.wrong,qI s.row.off]) s.row:=⟨pv,cv,rfl,h.pl,h.ct⟩
theorem kJ.table{D:aC}{s:aO}{pv cv hv lv mv bl bc yc yq:Γ}(h:kJ D s pv cv hv lv mv bl bc yc yq):fA D (.agg #[qI s.table.last,hv,qI s.table.step,lv,mv]) s.table:=⟨hv,lv,mv,rfl,h.ht,h.lev,h.mks⟩
theorem kJ.book{D:aC}{s:aO}{pv cv hv lv mv bl bc yc yq:Γ}(h:kJ D s pv cv hv lv mv bl bc yc yq):gK D (.agg #[qI s.book.chairs,qI s.book.coin,qI s.book.box,bl,bc]) s.book:=⟨bl,bc,rfl,h.ln,h.cn⟩
theorem kJ.yard{D:aC}{s:aO}{pv cv hv lv mv bl bc yc yq:Γ}(h:kJ D s pv cv hv lv mv bl bc yc yq):gU D (.agg #[yc,qI s.yard.fit,yq]) s.yard:=⟨yc,yq,rfl,h.ch,h.cl⟩
open Go.Proofs Tryz
namespace L1
open C1
theorem lH{α:Type}{p:α→Bool}{xs:List α}{k:Nat}{x:α}(hx:xs[k]?= some x)(h:(xs.take k).any p=false)(hp:p x=true):idxOf p xs=k:=by
 have hk:=(bLD.1 hx).1;have he:=(bLD.1 hx).2;have h1:xs.any p=true:=bPI.2 ⟨x,GT hx,hp⟩;have h2:xs.findIdx p=k:=by
  rw[List.findIdx_eq hk];refine⟨by rw[he];exact hp,fun j hj=>?_⟩
  have:=List.any_eq_false.1 h (xs[j]'Yd) (by
   rw[List.mem_take_iff_getElem];exact⟨j,Yd,rfl⟩)
  simpa using this
 simp[idxOf,h1,h2]
theorem iE{α:Type}{p:α→Bool}{xs:List α}(h:xs.any p=false):idxOf p xs= -1:=by simp[idxOf,h]
theorem lP{α:Type}{p:α→Bool}{xs:List α}:decide (0≤idxOf p xs)=xs.any p:=by
 unfold idxOf;cases h:xs.any p<;>simp
theorem pB{α:Type}{p:α→Bool}{xs:List α}:(!xs.any fun x=> !p x)=xs.all p:=by
 rw[List.all_eq_not_any_not]
theorem fC(n lo hi:Int)(D:aC):Fn prog 202 #[qI n,qI lo,qI hi] D (fun _ v=>v=.bool (gZ n lo hi)):=by
 refine Zx 15 func202 rfl fun h0=>Wai ?_;refine' bW 4 (s:=10) (p:=14) rfl (fun I=>?_) (fun I=>?_) ?_;rotate_left
 ·refine Wbj ?_;exact aM 3
 ·refine Wb ?_;exact aM 3
 refine We ?_;exact aE rfl fun D hD=>rfl
theorem aEK(n lo hi:Int)(D:aC):Fn prog 124 #[qI n,qI lo,qI hi] D (fun _ v=>v=.bool (gZ n lo hi)):=by
 refine Zx 15 func124 rfl fun h0=>Wbo ?_;refine' bW 4 (s:=10) (p:=14) rfl (fun I=>?_) (fun I=>?_) ?_;rotate_left
 ·refine Wbj ?_;exact aM 3
 ·refine Wb ?_;exact aM 3
 refine We ?_;exact aE rfl fun D hD=>Xcw
theorem aQM(n:Int)(D:aC):Fn prog 211 #[iV n] D (fun _ v=>v=.bool (tW n)):=by
 refine Zx 5 func211 rfl fun h0=>aA<|Zk rfl<|aL<|Za rfl<|Zf rfl (fun O I=>fC _ _ _ _)<|We ?_;exact aE rfl fun D hD=>rfl
theorem aVA(rv:Γ)(r:dB)(c:uV)(D:aC)(hr:mE D rv r):Fn prog 209 #[rv,cV c] D (fun _ v=>v=.bool (sX r.places.length c)):=by
 obtain⟨pv,cv,rfl,hp,hc⟩:=hr;refine Zx 16 func209 rfl fun h0=>aA<|Zab rfl fun q1 E1 U O=>Zab rfl fun q2 E2 V I=>Zk rfl<|aL<|Zi rfl s7 rfl<|Zd 1 rfl aH rfl I rfl<|Zi rfl eN rfl<|Zd 0 rfl bX rfl O rfl<|dD rfl U25 rfl Yn rfl rfl bQK<|Zf rfl (fun D1 Y=>fC _ _ _ _) ?_;refine Za rfl ?_;refine' bW 4 (s:=11) (p:=15) rfl (fun R=>?_) (fun R=>?_) ?_;rotate_left
 ·refine Zj rfl yI rfl<|Ze 2 rfl aH rfl I rfl<|Zg rfl (fun D2 Z=>fC _ _ _ _)<|Zak rfl ?_;exact aM 3
 ·refine Wb ?_;exact aM 3
 refine We ?_;exact aE rfl fun D hD=>rfl
theorem xV(sv fv:Γ)(xs:List Int)(p:Int→Bool)(D:aC)(hS:Sl D RI 1 sv xs)(hp:dE prog D iV fv p):
  Fn prog 364 #[sv,fv] D (fun _ v=>v=qI (idxOf p xs)):=by
 have hl:=hS.len;obtain⟨f,c1,c2,rfl,hf⟩:=hp;refine Zx 19 func364 rfl fun h0=>aA<|Zk rfl<|bK<|Za rfl<|dD rfl U25 rfl Yn rfl rfl bQK<|Wf ?_;rintro k ⟨h1,h2⟩;refine aA<|Zan rfl<|bS<|Zag rfl (fun hc1=>?_) fun hc1=>?_
 ·have hk:k<xs.length:=by omega
  obtain⟨x,hx⟩:=cB xs k;refine aQ<|Za5<|Za3<|aA<|Za rfl<|Zk rfl<|aL<|Za rfl<|Za rfl<|Za rfl<|dX rfl U25 aJ rfl Yn rfl Yd Yn rfl bQK fun Y o1 I O V R=>?_;obtain rfl:I=[qI _]:=O;refine Zd 0 rfl aH rfl R rfl<|Zf rfl (fun Z U=>hf x _ (U _ Ye))<|aF<|Zaf rfl (fun hc2=>?_) fun hc2=>?_
  ·refine Wbi ?_;exact aE rfl fun D hD=>Xam
  ·refine Wcf ?_;have hpx:p x=false:=hc2;have h3:(xs.take (k+1)).any p=false:=by rw[bLA,hx,bOP,h2];simp[hpx]
   exact aI 12 (k+1) ⟨Yd,h3⟩ Yd ⟨Ya,bQK⟩ rfl rfl Mm5 (aK)
 ·refine Wj ?_;exact aE rfl fun D hD=>Xah
theorem nV(sv fv:Γ)(xs:List Int)(p:Int→Bool)(D:aC)(hS:Sl D RI 1 sv xs)(hp:dE prog D iV fv p):
  Fn prog 309 #[sv,fv] D (fun _ v=>v=.bool (xs.any p)):=by
 refine Zx 9 func309 rfl fun h0=>Wby ?_;exact aE rfl fun D hD=>Xai
theorem J7(b:Nat)(fv:Γ)(p:Int→Bool)(x:Int)(D:aC)(hp:dE prog D iV fv p)(hB:At D b 0 [fv]):
  Fn prog 310 #[iV x,qP b] D (fun _ v=>v=.bool (!p x)):=by
 obtain⟨f,c1,c2,rfl,hf⟩:=hp;refine Zx 8 func310 rfl fun h0=>War ?_;exact aE rfl fun D hD=>rfl
theorem j3(sv fv:Γ)(xs:List Int)(p:Int→Bool)(D:aC)(hS:Sl D RI 1 sv xs)(hp:dE prog D iV fv p)(h1:fv.cells=#[fv]):
  Fn prog 210 #[sv,fv] D (fun _ v=>v=.bool (xs.all p)):=by
 refine Zx 9 func210 rfl fun h0=>aA<|tO (vs:=[fv]) rfl rfl h1 rfl bQK fun b O I hB=>Wam ?_;exact aE rfl fun D hD=>Xan
theorem xL(sv fv:Γ)(xs:List uV)(p:uV→Bool)(D:aC)(hS:Sl D RC 3 sv xs)(hp:dE prog D cV fv p):
  Fn prog 365 #[sv,fv] D (fun _ v=>v=qI (idxOf p xs)):=by
 have hl:=hS.len;obtain⟨f,c1,c2,rfl,hf⟩:=hp;refine Zx 19 func365 rfl fun h0=>aA<|Zk rfl<|bK<|Za rfl<|dD rfl U26 rfl Yn rfl rfl bQK<|Wf ?_;rintro k ⟨h1,h2⟩;refine aA<|Zan rfl<|bS<|Zag rfl (fun hc1=>?_) fun hc1=>?_
 ·have hk:k<xs.length:=by omega
  obtain⟨x,hx⟩:=cB xs k;refine aQ<|Za5<|Za3<|aA<|Za rfl<|Zk rfl<|aL<|Za rfl<|Za rfl<|Za rfl<|dX rfl U26 gJ rfl Yn rfl Yd Yn rfl bQK fun Y o1 I O V R=>?_;obtain rfl:I=[.bool _,qI _,qI _]:=O;refine Zv rfl O1 rfl R gJ<|Zf rfl (fun Z U=>hf x _ (U _ Ye))<|aF<|Zaf rfl (fun hc2=>?_) fun hc2=>?_
  ·refine Wbi ?_;exact aE rfl fun D hD=>Xam
  ·refine Wcf ?_;have hpx:p x=false:=hc2;have h3:(xs.take (k+1)).any p=false:=by rw[bLA,hx,bOP,h2];simp[hpx]
   exact aI 12 (k+1) ⟨Yd,h3⟩ Yd ⟨Ya,bQK⟩ rfl rfl Mm5 (aK)
 ·refine Wj ?_;exact aE rfl fun D hD=>Xah
theorem rR(sv fv:Γ)(xs:List uV)(p:uV→Bool)(D:aC)(hS:Sl D RC 3 sv xs)(hp:dE prog D cV fv p):
  Fn prog 311 #[sv,fv] D (fun _ v=>v=.bool (xs.any p)):=by
 refine Zx 9 func311 rfl fun h0=>aA<|Zk rfl<|aL<|Za rfl<|Za rfl<|Zf rfl (fun O I=>xL _ _ xs p _ (Sl.at RC.up I Yn Ye) (hp.up (I _ Ye)))<|Wac ?_;exact aE rfl fun D hD=>Xai
theorem EY(b:Nat)(fv:Γ)(p:uV→Bool)(x:uV)(D:aC)(hp:dE prog D cV fv p)(hB:At D b 0 [fv]):
  Fn prog 312 #[cV x,qP b] D (fun _ v=>v=.bool (!p x)):=by
 obtain⟨f,c1,c2,rfl,hf⟩:=hp;refine Zx 8 func312 rfl fun h0=>aA<|Zab rfl fun U E1 R I=>Zk rfl<|aL<|Zd 0 rfl aWJ rfl hB rfl<|Zv rfl O1 rfl I gJ<|Wab ?_;exact aE rfl fun D hD=>rfl
theorem QE(sv fv:Γ)(xs:List uV)(p:uV→Bool)(D:aC)(hS:Sl D RC 3 sv xs)(hp:dE prog D cV fv p)(h1:fv.cells=#[fv]):
  Fn prog 212 #[sv,fv] D (fun _ v=>v=.bool (xs.all p)):=by
 refine Zx 9 func212 rfl fun h0=>aA<|tO (vs:=[fv]) rfl rfl h1 rfl bQK fun b O I hB=>Zk rfl<|aL<|Za rfl<|Za0 rfl<|Zf rfl (fun O I=>rR _ _ xs (fun x=> !p x) _ (Sl.at RC.up I Yn Ye) ⟨_,[],[qP b],rfl,fun x R hl=>EY b fv p x R (hp.up ((I _ Ye).trans hl)) (hB.up ((I _ Ye).trans hl))⟩)<|Zau rfl<|We ?_;exact aE rfl fun D hD=>Xan
theorem GC(sv:Γ)(x:Int)(xs:List Int)(D:aC)(hS:Sl D RI 1 sv (x::xs)):
  Fn prog 250 #[sv] D (fun _ v=>v=qI (xs.foldl min x)):=by
 have hl:=hS.len;simp only[bLF]at hl;refine Zx 25 func250 rfl fun h0=>aA<|Zk rfl<|bK<|Za rfl<|dD rfl U25 rfl Yn rfl rfl bQK<|Zan rfl<|aF<|Zag rfl (fun hc1=>?_) fun hc1=>?_
 ·exact absurd hc1 (by simp only[bLF];omega)
 ·refine aQ<|aA<|Za rfl<|dX rfl U25 aJ rfl Yn rfl Yd Ybc rfl bQK fun b1 o1 I O Z R=>?_;obtain rfl:I=[qI _]:=O;refine Wal ?_;rintro k h1;refine bM<|Za rfl<|Za rfl<|dD rfl U25 rfl Yn rfl rfl bQK<|Zan rfl<|aF<|Zag rfl (fun hc2=>?_) (fun hc2=>?_)
  ·simp only[bLF]at hc2;have hk:k<xs.length:=by omega
   obtain⟨y,hy⟩:=cB xs k;have hE:(x::xs)[(k+1:Int).toNat]?= some y:=by rw[show((k:Int)+1).toNat=k+1 by omega];simpa using hy
   refine aQ<|Za5<|Za3<|aP<|Za rfl<|Za rfl<|Za rfl<|dX rfl U25 aJ rfl Yn rfl Yd Yn rfl bQK fun b2 o2 U V hB Y=>?_;obtain rfl:U=[qI _]:=V;refine Zd 0 rfl aH rfl Y rfl<|OX rfl rfl rfl rfl bQK<|Wz ?_;have h3:(xs.take (k+1)).foldl min x=min ((xs.take k).foldl min x) y:=by rw[bLA,hy,bMT];rfl
   exact aI 16 (k+1) Yd Yd ⟨(by rw[h3];rfl),Ya,bQK⟩ rfl rfl Mm5 (aK)
  ·simp only[bLF]at hc2;refine Wn ?_;exact aE rfl fun D hD=>Xcf
theorem nH(sv:Γ)(x:Int)(xs:List Int)(D:aC)(hS:Sl D RI 1 sv (x::xs)):
  Fn prog 216 #[sv] D (fun _ v=>v=qI (xs.foldl min x)):=by
 refine Zx 5 func216 rfl fun h0=>Waw ?_;exact aE rfl fun D hD=>rfl
theorem TW{r:dB}(h:(decide ((9:Int)<r.places.length)||decide ((6:Int)<r.counts.length))=true):bB r=3:=by
 simp only[bMF,LT]at h;unfold bB;rw[bLR Yd]
theorem IN{r:dB}{b:Bool}(h:(decide ((9:Int)<r.places.length)||decide ((6:Int)<r.counts.length))=false)
  (h2:((((decide ((r.places.length:Int)=0)|| !gZ r.wrong 0 6)|| !gZ r.off 0 9)|| !r.places.all tW)|| !r.counts.all (sX r.places.length))=b):bB r=if b then 1 else 0:=by
 simp only[bMG,bLC]at h;unfold bB;rw[bLI Yd]
 subst h2;by_cases h1:r.places.length=0<;>cases gZ r.wrong 0 6<;>cases gZ r.off 0 9<;>cases r.places.all tW<;>cases r.counts.all (sX r.places.length)<;>simp[h1]
theorem z1{r:dB}(h:(decide ((9:Int)<r.places.length)||decide ((6:Int)<r.counts.length))=false)
  (h2:((((decide ((r.places.length:Int)=0)|| !gZ r.wrong 0 6)|| !gZ r.off 0 9)|| !r.places.all tW)|| !r.counts.all (sX r.places.length))=true):bB r=1:=IN h h2
theorem zL{r:dB}(h:(decide ((9:Int)<r.places.length)||decide ((6:Int)<r.counts.length))=false)
  (h2:((((decide ((r.places.length:Int)=0)|| !gZ r.wrong 0 6)|| !gZ r.off 0 9)|| !r.places.all tW)|| !r.counts.all (sX r.places.length))=false):bB r=0:=IN h h2
theorem I6{r:dB}{t:List Int}{k:Nat}{x:uV}(hx:r.counts[k]?= some x)(h2:(r.counts.take k).all (fun c=>decide (gP t c≤r.off))=true)(h:¬r.off<gP t x):(r.counts.take (k+1)).all (fun c=>decide (gP t c≤r.off))=true:=by
 rw[bLA,hx,List.all_append,h2];simp;omega
theorem SQ{r:dB}{t:List Int}{k:Nat}{x:uV}(hx:r.counts[k]?= some x)(hb:0≤gP t x∧gP t x≤9):
  ((((r.counts.take (k+1)).filter fun c=>decide (0<gP t c)).length:Nat):Int)=((r.counts.take k).filter fun c=>decide (0<gP t c)).length+ [1].foldl min (gP t x):=by
 rw[bLA,hx,bMJ,GE];by_cases h:0<gP t x
 ·simp[h];omega
 ·simp[h];omega
theorem UP{r:dB}{t:List Int}{x:uV}(hx:x∈r.counts)(h:r.off<gP t x):eS r t=false:=by
 unfold eS;rw[bQC];exact⟨x,hx,Yaq⟩
theorem JI{r:dB}{t:List Int}(h:r.counts.all (fun c=>decide (gP t c≤r.off))=true):eS r t=true:=h
theorem AX(rv:Γ)(r:dB)(D:aC)(hr:mE D rv r):Fn prog 132 #[rv] D (fun _ v=>v=qI (bB r)):=by
 obtain⟨pv,cv,rfl,hp,hc⟩:=hr;refine Zx 47 func132 rfl fun h0=>aA<|Zab rfl fun q1 E1 hF I=>Zk rfl<|aL<|Zv rfl jX rfl I hC<|Za0 rfl<|Zk rfl<|bS<|Za3<|aA<|Zi rfl eN rfl ?_;refine Zd 0 rfl bX rfl I rfl<|dD rfl U25 rfl Yn rfl rfl bQK<|Wav ?_;refine' cT 5 (s:=11) (p:=16) rfl (fun U=>?_) (fun U=>?_) ?_;rotate_left
 ·refine Zj rfl gF rfl<|Ze 1 rfl pL rfl I rfl<|dD rfl U26 rfl Yn rfl rfl ⟨_,rfl,rfl⟩<|Wae ?_;exact aM 4
 ·refine Wc ?_;exact aM 4
 refine Zk rfl<|aF<|Zaf rfl (fun hc1=>?_) fun hc1=>?_
 ·refine Wl ?_;exact aE rfl fun D hD=>by show Value.int _ _=_;rw[TW hc1]
 ·refine aA<|Zi rfl eN rfl<|Zd 0 rfl bX rfl I rfl<|dD rfl U25 rfl Yn rfl rfl bQK<|Wbd ?_;refine' cT 5 (s:=22) (p:=27) rfl (fun V=>?_) (fun V=>?_) ?_;rotate_left
  ·refine Zj rfl I0 rfl<|Ze 2 rfl aH rfl I rfl<|Zg rfl (fun D1 hH=>fC _ _ _ _)<|Waf ?_;exact aM 4
  ·refine Wc ?_;exact aM 4
  refine Za rfl ?_;refine' cT 5 (s:=28) (p:=33) rfl (fun Y=>?_) (fun Y=>?_) ?_;rotate_left
  ·refine Zj rfl zA rfl<|Ze 3 rfl aH rfl I rfl<|Zg rfl (fun R hI=>fC _ _ _ _)<|Waf ?_;exact aM 4
  ·refine Wc ?_;exact aM 4
  refine Za rfl ?_;refine' cT 5 (s:=34) (p:=39) rfl (fun Z=>?_) (fun Z=>?_) ?_;rotate_left
  ·refine Zj rfl eN rfl<|Ze 0 rfl bX rfl I rfl<|Zg rfl (fun D3 hB=>j3 _ _ _ tW _ (Sl.at RI.up hB Yn Ye) (.of fun x R=>aQM x R) rfl)<|Waf ?_;exact aM 4
  ·refine Wc ?_;exact aM 4
  refine Za rfl ?_;refine' cT 6 (s:=40) (p:=46) rfl (fun hE=>?_) (fun hE=>?_) ?_;rotate_left
  ·refine Zj rfl gF rfl<|Ze 1 rfl pL rfl I rfl<|Zb rfl<|Zg rfl (fun D4 O=>QE _ _ _ (sX r.places.length) _ (Sl.at RC.up O Yn Ye) ⟨_,[_],[],rfl,fun c R hl=>aVA _ r c R ⟨_,_,rfl,hp.up RI.up ((O _ Ye).trans hl),hc.up RC.up ((O _ Ye).trans hl)⟩⟩ rfl)<|Waf ?_;exact aM 5
  ·refine Wbw ?_;exact aM 5
  refine Zk rfl<|aF<|Zaf rfl (fun hc2=>?_) fun hc2=>?_
  ·refine Wl ?_;exact aE rfl fun D hD=>by show Value.int _ _=_;rw[z1 hc1 hc2]
  ·refine bJ<|Wag ?_;exact aE rfl fun D hD=>by show Value.int _ _=_;rw[zL hc1 hc2]
theorem aZG(c:List Int)(V:c.length=9)(hb:∀x∈c,0≤x∧x≤1)(D:aC):Fn prog 135 #[.agg (ints c).toArray] D (fun _ v=>v=.agg (ints (oD c)).toArray):=by
 refine Zx 20 func135 rfl fun h0=>aA<|Zab rfl fun Y E1 O I=>Zad rfl aZI rfl fun R=>bK<|Zv rfl kX rfl I Yac<|Za rfl<|aF<|Za3<|hU (γ:=Nat) (fun k=>9-k) (fun k=>k≤9) (fun k=>[(6,qI (k:Int))]) [(5,_),(2,_)] (fun k=>[(R,qC (ints (sO c k)) 264)]) (fun k=>[E1,D]) 0 Yd ⟨Ya,bQK⟩ cR Mm5 (aK) ?_;rintro k h1;refine aA<|Zan rfl<|bS<|Zag rfl (fun hc1=>?_) fun hc1=>?_
 ·have hk:k<9:=by omega
  obtain⟨x,hx⟩:=cB c k;have hx1:=hb x (GT hx);have hx2:=eX hb 0 k;have U:=RK c k Yd;have hlen:=DD c k;refine aQ<|Za5<|Za3<|aA<|Za rfl<|DR rfl U258 aH aJ rfl rfl Yd Yd Yn rfl bQK<|Zk rfl<|Zk rfl<|aF<|aP<|Za rfl<|Zah rfl ?_;refine Za rfl<|cA rfl U264 aJ rfl rfl Yd Yd rfl bQK<|bG rfl aH rfl Mm0 (cN Yn) n4 rfl bQK<|Za rfl<|Zah rfl<|cA rfl U264 aJ rfl rfl Yd Yd rfl bQK<|Z3 rfl aJ rfl rfl ζ (by simp only[*];omega) bQK<|Zap<|Za6<|Za1<|aP<|Zah rfl ?_;refine Za rfl<|Zap ?_;rw[←B8 Xav,show((k:Int)+1).toNat=k+1 by omega,TG];exact aI 16 (k+1) Yd Yd ⟨Ya,bQK⟩ rfl rfl Mm5 (aK)
 ·obtain rfl:k=9:=by omega
  rw[PA];have hlen:=sJ c;refine Za8<|Za4<|Za4<|Za9<|Za1<|aA<|Zae rfl BL rfl Mm0 Xcg<|Zz rfl uA ζ (dI _)<|aG ?_
  exact Zo [_] rfl ⟨⟨_,_,_,rfl,Mm0,bLG ⟨BL,(by first|exact uA|(simp only[bML,aN, *];exact uA)),rfl⟩⟩,bQK⟩ fun D hD=>rfl
theorem bFY(rv:Γ)(r:dB)(c:uV)(t:List Int)(D:aC)(hr:mE D rv r)(hok:mP r)(ht:pA r t)(hcm:c∈r.counts):
  Fn prog 313 #[rv,cV c,.agg (ints (oD t)).toArray] D (fun _ v=>v=qI (gP t c)):=by
 obtain⟨pv,cv,rfl,hp,hc⟩:=hr;obtain⟨h1,h2,h3,h4⟩:=hok.cnt c hcm;have h9:=hok.len9;have hab:=AH ht h1 h2 h9;have O:=XJ ht h1 h2;have U:=vF t c.many.toNat Yd;have V:=vF t r.places.length Yd;have Y:=vF t (r.places.length-c.many.toNat) Yd;have Z:(oD t)[(↑r.places.length-c.many).toNat]?= some (dT t 0 (r.places.length-c.many.toNat)):=by rw[show(↑r.places.length-c.many).toNat=r.places.length-c.many.toNat by omega];exact Y
 rw[ht.1]at O;have hE:=eX ht.2 0 r.places.length;have hF:=eX ht.2 0 (r.places.length-c.many.toNat);have hH:=eX ht.2 0 c.many.toNat;refine Zx 37 func313 rfl fun h0=>aA<|Zab rfl fun q1 E1 hI hB=>Zab rfl fun q2 E2 hJ I=>Zab rfl fun q3 E3 hK R=>Zk rfl<|aL<|Zi rfl s7 rfl<|Zd 1 rfl aH rfl I rfl<|cA rfl U264 aJ rfl rfl Yd Yd rfl bQK<|iQ rfl aH rfl R Ye (cN U) n4 rfl bQK<|Zk rfl ?_;refine bK<|Zi rfl eN rfl<|Zd 0 rfl bX rfl hB rfl<|dD rfl U25 rfl Yn rfl rfl bQK<|Zk rfl<|aL<|Zi rfl aJX rfl<|Zd 0 rfl a8 rfl I rfl<|aF<|Zaf rfl (fun hc1=>?_) fun hc1=>?_
 ·rw[bLR hc1]at O;refine bE [] 5 11 504<|Za rfl<|cA rfl U264 aJ rfl rfl Yd Yd rfl bQK<|iQ rfl aH rfl R Ye (cN V) n4 rfl bQK<|Za rfl<|Zi rfl s7 rfl<|Zd 1 rfl aH rfl I rfl<|Zaz rfl<|cA rfl U264 aJ rfl rfl Yd Yd rfl bQK<|iQ rfl aH rfl R Ye (cN Z) n4 rfl bQK<|Zaz rfl<|Zk rfl ?_;refine aL<|Za rfl<|Zi rfl yI rfl<|Zd 2 rfl aH rfl I rfl<|Zaz rfl<|Zi rfl yI rfl<|Zd 2 rfl aH rfl I rfl<|Za rfl<|Zaz rfl<|qF rfl rfl rfl rfl bQK<|We ?_;exact aE rfl fun D hD=>by show Value.int _ _=_;rw[←O];rfl
 ·rw[bLI (by simp[hc1])]at O;refine aQ<|aA<|Za rfl<|Zi rfl yI rfl<|Zd 2 rfl aH rfl I rfl<|Zaz rfl<|Zi rfl yI rfl<|Zd 2 rfl aH rfl I rfl<|Za rfl<|Zaz rfl<|qF rfl rfl rfl rfl bQK<|Zk rfl ?_;refine aG ?_;exact aE rfl fun D hD=>by show Value.int _ _=_;rw[←O];rfl
theorem aHY(rv:Γ)(r:dB)(t:List Int)(D:aC)(hr:mE D rv r)(hok:mP r)(ht:pA r t):
  Fn prog 215 #[rv,.agg (ints (oD t)).toArray] D (fun D' v=>Sl D' RI 1 v (r.counts.map (gP t))):=by
 obtain⟨pv,cv,rfl,hp,hc⟩:=hr;have h6:=hok.cnt6;have hsl:=sJ t;refine Zx 23 func215 rfl fun h0=>aA<|Zab rfl fun q1 E1 hO O=>Zab rfl fun q2 E2 hP U=>Zk rfl<|bK<|Zi rfl gF rfl<|Zd 1 rfl pL rfl O rfl<|dD rfl U26 rfl Yn rfl rfl bQK<|Za rfl<|aF<|Za3 ?_;refine Zc (Nat×Γ×aD) (fun g=>r.counts.length-g.1) (fun g=>g.1≤r.counts.length∧bD 3 1 g.2.1 g.1 (ints ((r.counts.take g.1).map (gP t))) g.2.2) (fun g=>[(10,qI (g.1:Int)),(4,g.2.1)]) [(9,_),(8,_),(3,_),(2,_)] (fun g=>g.2.2++[]) (fun g=>[E2,E1,D]) (0,qN,[]) ⟨Ye,Xaj⟩ ⟨Ya,Ya,bQK⟩ Mm5 ?_;rintro⟨k,v,ν⟩ ⟨h1,ha⟩;refine aA<|Zan rfl<|bS<|Zag rfl (fun hc1=>?_) fun hc1=>?_
 ·have hk:k<r.counts.length:=by omega
  obtain⟨x,hx⟩:=cB r.counts k;have hxm:=GT hx;refine aQ<|Za5<|Za3<|aA<|dX rfl U26 gJ rfl Yn rfl Yd Yn rfl bQK fun b1 o1 V Y hJ Z=>?_;obtain rfl:V=[.bool _,qI _,qI _]:=Y;refine Zv rfl O1 rfl Z gJ<|Zad rfl nS rfl fun q3=>Zy rfl gJ ζ<|aF<|aP<|Za rfl<|Zv rfl jX rfl O hC<|Zae rfl O1 rfl Mm0 gJ<|dG rfl BL rfl U Yc Xcg n4 rfl bQK<|Zf rfl (fun D1 R=>bFY _ r x t _ ⟨_,_,rfl,hp.up RI.up (R _ Ye),hc.up RC.up (R _ Ye)⟩ hok ht hxm)<|Zu rfl U25 aJ cK rfl (.cons rfl rfl .nil) fun hK hN hB I=>?_
  have hE:=Sl.ofInts (l:=[_]) (n:=1) (cap:=1) I rfl Yd Yd;refine aR (A:=[(_,_)]) (B:=_) rfl U25 rfl rfl aJ cK rfl kE rfl rfl rfl ha (iL.lit I) Ye rfl Yaq Yk Yd (bLL rfl) rfl bQK fun v1 ν1 hH=>?_;have hI:bD 3 1 v1 (k+1) (ints ((r.counts.take (k+1)).map (gP t))) ν1:=by rw[bLA,hx,bLT,bLO,←eW];exact hH
  refine Was ?_;exact aI 16 (k+1,v1,ν1) ⟨Yl,hI⟩ Yl ⟨Ya,Ya,bQK⟩ rfl rfl (List.Sublist.cons _ Mm5) fun D h=>⟨D,bLP _ (h),Le.refl D⟩
 ·obtain rfl:k=r.counts.length:=by omega
  rw[bLU]at ha;refine Za8<|Za4<|Za4<|Za9<|Za1<|aA<|Za rfl<|Zk rfl<|aG<|Zar [] [] ha rfl fun D2 hR hF=>?_;exact aE rfl fun D hD=>(hF.ints Ye Yd).up RI.up (hD _ Ye)
theorem VD(rv:Γ)(r:dB)(t:List Int)(D:aC)(hr:mE D rv r)(hok:mP r)(ht:pA r t):
  Fn prog 134 #[rv,.agg (ints (oD t)).toArray] D (fun _ v=>v=.tuple #[qI (if eS r t then(rO r t:Int)else 0),.bool (eS r t)]):=by
 obtain⟨pv,cv,rfl,hp,hc⟩:=hr;have h6:=hok.cnt6;have hsl:=sJ t;refine Zx 27 func134 rfl fun h0=>aA<|Zab rfl fun q1 E1 hH U=>Zab rfl fun q2 E2 hI Y=>Zk rfl<|Zk rfl<|bK<|Zv rfl jX rfl U hC<|dG rfl BL rfl Y Yc Xcg n4 rfl bQK<|Zaa rfl (fun D1 I=>aHY _ r t _ ⟨_,_,rfl,hp.up RI.up (I _ Ye),hc.up RC.up (I _ Ye)⟩ hok ht) fun v1 D1 I V=>Zai rfl U25 rfl V rfl<|Za rfl ?_;refine aF<|Za3<|Zn Nat (fun k=>r.counts.length-k) (fun k=>k≤r.counts.length∧(r.counts.take k).all (fun c=>decide (gP t c≤r.off))=true) (fun k=>[(12,qI (k:Int)),(4,qI (((r.counts.take k).filter fun c=>decide (0<gP t c)).length:Int))]) [(11,_),(10,_),(5,_),(2,_)] (fun k=>[D1,E2,E1,D]) 0 ⟨Ya,Ya,bQK⟩ ?_;rintro k ⟨h1,h2⟩;refine aA<|Zan rfl<|bS<|Zag rfl (fun hc1=>?_) fun hc1=>?_
 ·simp only[bMK]at hc1;have hk:k<r.counts.length:=by omega
  obtain⟨x,hx⟩:=cB r.counts k;have hxm:=GT hx;have hx2:(r.counts.map (gP t))[k]?= some (gP t x):=by rw[bMI,hx];rfl
  have hxb:=TV hok ht hxm;have hlf:=bMO (fun c=>decide (0<gP t c)) (r.counts.take k);have hlt:(r.counts.take k).length≤k:=bOB _ _;refine aQ<|Za5<|Za3<|aA<|iN rfl V rfl hx2 fun b1 o1=>Zk rfl<|bK<|Za rfl<|Zi rfl zA rfl<|Zd 3 rfl aH rfl U rfl<|Zas rfl<|aF ?_;refine Zag rfl (fun hc2=>?_) fun hc2=>?_
  ·refine aA<|Zk rfl<|Wbs ?_;exact lU (vs:=[_,_]) rfl rfl rfl cR fun D hD=>by show Value.tuple _=_;rw[UP hxm hc2];rfl
  ·refine aQ<|aP<|Za rfl<|Za rfl<|Zu rfl U25 aJ cK rfl (.cons rfl rfl (.cons rfl rfl .nil)) fun hE hF Z O=>?_;have R:=Sl.ofInts (l:=[_,_]) (n:=2) (cap:=2) O rfl Yd Yd;refine Zf rfl (fun D2 hB=>nH _ (gP t x) [1] _ (R.up RI.up (hB _ Ye)))<|yJ rfl rfl rfl (by simp only[wD,bME,List.foldl_nil];omega) rfl bQK<|Was ?_
   exact aI 18 (k+1) ⟨Yd,I6 hx h2 hc2⟩ Yd ⟨Ya,(by rw[SQ hx hxb];rfl),bQK⟩ rfl rfl Mm5 fun D h=>⟨D,bLP _ (h),Le.refl D⟩
 ·simp only[bMK]at hc1;obtain rfl:k=r.counts.length:=by omega
  rw[bLU]at h2;refine Za8<|Za4<|Za4<|Za9<|Za1<|aA<|Za rfl<|Zk rfl<|We ?_;exact lU (vs:=[_,_]) rfl rfl rfl cR fun D hD=>by show Value.tuple _=_;rw[JI h2,bLU];rfl
theorem j0(t:List Int)(D:aC)(h:t.length≤9)(hb:∀x∈t,0≤x∧x≤1):Fn prog 135 #[.agg (ints (gM t)).toArray] D (fun _ v=>v=.agg (ints (oD t)).toArray):=
 (aZG (gM t) (iP h) (aAL hb) D).mono fun _ v _ hv=>by rw[hv,aAO]
end L1
namespace L12
def fX(code:Int):Γ:=.iface 331 (.agg #[qI code])
theorem aIA(sv:Γ)(xs:List Bool)(b:Bool)(D:aC)(hS:Sl D RB 1 sv xs):Fn prog 350 #[sv,.bool b] D (fun _ v=>v=qI (idxOf (fun x=>b==x) xs)):=by
 have hl:=hS.len;refine Zx 19 func350 rfl fun h0=>aA<|Zk rfl<|bK<|Za rfl<|dD rfl U401 rfl Yn rfl rfl bQK<|Za rfl<|aF<|Za3<|Zn Nat (fun k=>xs.length-k) (fun k=>k≤xs.length∧(xs.take k).any (fun x=>b==x)=false) (fun k=>[(8,qI k)]) [(7,_),(4,_),(0,_),(1,_)] (fun k=>[D]) 0 ⟨Ya,bQK⟩ ?_;rintro k ⟨h1,h2⟩;refine aA<|Zan rfl<|bS<|Zag rfl (fun hc1=>?_) fun hc1=>?_
 ·have hk:k<xs.length:=by omega
  obtain⟨x,hx⟩:=cB xs k;refine aQ<|Za5<|Za3<|aA<|Za rfl<|Zk rfl<|aL<|Za rfl<|Za rfl<|Za rfl<|dX rfl U401 mS rfl Yn rfl Yd Yn rfl bQK fun V o1 I O U R=>?_;obtain rfl:I=[.bool _]:=O;refine Zd 0 rfl a8 rfl R rfl<|bFG rfl U4 rfl rfl rfl bQK<|aF<|Zaf rfl (fun hc2=>?_) fun hc2=>?_
  ·refine Wbi ?_;exact aE rfl fun D hD=>Xbk
  ·refine Wcf ?_;have h3:(xs.take (k+1)).any (fun x=>b==x)=false:=by rw[bLA,hx,bOP,h2];simpa using hc2
   exact aI 12 (k+1) ⟨Yd,h3⟩ Yd ⟨Ya,bQK⟩ rfl rfl Mm5 (aK)
 ·refine Wj ?_;exact aE rfl fun D hD=>Xbl
theorem MV(sv:Γ)(xs:List Bool)(b:Bool)(D:aC)(hS:Sl D RB 1 sv xs):Fn prog 288 #[sv,.bool b] D (fun _ v=>v=.bool (xs.any fun x=>b==x)):=by
 refine Zx 9 func288 rfl fun h0=>aA<|Zk rfl<|aL<|Za rfl<|Za rfl<|Zf rfl (fun O I=>aIA _ xs b _ (Sl.at RB.up I Yn Ye))<|Wac ?_;exact aE rfl fun D hD=>Xbm
theorem gE(code:Int)(cs:List Bool)(sv:Γ)(D:aC)(hS:Sl D RB 1 sv cs):kW prog 190 [qI code,sv] D [] (fun _ _ ν'=>cs.any (fun x=>true==x)=false∧ν'=[]) (fun v=>cs.any (fun x=>true==x)=true∧v=fX code):=by
 refine eH 9 func190 rfl rfl rfl rfl fun h0 hwl hwn=>aA<|Za rfl<|Zf rfl (fun O I=>MV _ cs true _ (hS.up RB.up (I _ Ye)))<|aF<|Zaf rfl (fun hc1=>?_) fun hc1=>?_
 ·refine aP<|Za rfl<|Zt [qI code] rfl aWU aDP rfl<|bIX rfl U331 rfl rfl bQK ?_;exact aVT rfl rfl bQK (dA rfl ⟨hc1,rfl⟩)
 ·refine bJ ?_;exact i6 rfl fun D' hD=>⟨hc1,rfl⟩
end L12
namespace L1
open C1
def jD(br bY bc bh:Nat)(c:List Int):aD:=[(bh,qC [.func (.func 214) #[] #[qP br,qP bY,qP bc,qP bh]] 182),(bc,qC (ints c) 258)]
theorem vP{c pre:List Int}{i:Nat}{k:Int}(h:c.take (i+1)=pre++[k])(hl:pre.length=i):c.take i=pre:=by
 have:=bLE (List.take i) h;rw[List.take_take,bOA (Nat.le_succ i)]at this;rw[this,bMP Yd,bLZ Yd]
def QG(x:List Int):List Γ:=[.agg (ints x).toArray]
def aDH(P:Program)(Dr:aC)(lo l:Nat)(J Jx:List (List Int)→wC)(xs:List (List Int)):Prop:=∀pre x β D w,(∃r,xs=pre++x::r)→G2 lo D w→J pre β D w→(∀b∈β,b<w.heap.size)→Le Dr D→
    jO P l (QG x) w fun b D' w'=>G2 lo D' w'∧G5 β D w D' w'∧(if b then J (pre++[x]) β D' w' else Jx (pre++[x]) β D' w')
def l9(J Jx:List (List Int)→wC)(br bY bc bh:Nat)(places:List Int)(pre:List Int)(i:Nat)(done:List (List Int))(v:Γ)(J':wC)(μ':aD):Prop:=
 ∃b c',v=.bool b∧c'.length=9∧c'.take i=pre∧c'.drop places.length=List.replicate (9-places.length) 0∧μ'=jD br bY bc bh c'∧(if b=true then J'=J (done++(cG (places.drop i)).map fun t=>gM (pre++t))else ∃p,J'=Jx p)
theorem yK{lo l:Nat}{J Jx:List (List Int)→wC}{places:List Int}{xs:List (List Int)}{Dr Dy:aC}{Ds:List aC}{br bY bc bh:Nat}{pv cv:Γ}{w1 w2:Int}(V:places.length≤9)
  (hs:∀pre,T1 lo (J pre)) (hsx:∀pre,T1 lo (Jx pre)) (hY:aDH prog Dr lo l J Jx xs) (hDr:Dr∈Ds) (hDy:Dy∈Ds) (hA:At Dr br 0 [pv,cv,qI w1,qI w2]) (hpl:Sl Dr RI 1 pv places) (hB:At Dy bY 0 [.func (.yield l) #[] #[]]):
  ∀(j i:Nat) (pre c:List Int) (done rest:List (List Int)) (iv:Int),iv=i→i+j=places.length→pre.length=i→c.length=9→c.take i=pre→c.drop places.length=List.replicate (9-places.length) 0→
   xs=done++(cG (places.drop i)).map (fun t=>gM (pre++t))++rest→
   bID prog 214 [qI iv,qP br,qP bY,qP bc,qP bh] lo (J done) (jD br bY bc bh c) Ds (l9 J Jx br bY bc bh places pre i done):=by
 intro j;induction j using Nat.strongRecOn with
 |_ j ih=>
 intro i pre c done rest iv hiv hij hl Y hp hz hxs;subst hiv;have hmx:=hpl.len;refine V3 (μ:=jD br bY bc bh c) 41 func214 rfl rfl rfl rfl<|aA<|Zk rfl<|bK<|Za rfl<|Zi rfl eN rfl<|Zd 0 rfl bX rfl hA rfl<|dD rfl U25 rfl Yn rfl rfl bQK<|Zaw rfl<|aF<|Zag rfl (fun hc1=>?_) fun hc1=>?_
 ·have hin:i=places.length:=by omega
  subst hin;have hleaf:=(TH Y hp hl hz).symm;rw[bQI]at hxs;simp only[cG,bMD,bPK,n5]at hxs;rw[hleaf,bLK,bOW]at hxs;refine aA<|Zd 0 rfl aYD rfl hB rfl<|bL rfl kX rfl Mm1 Yac n4 rfl bQK<|RA (l:=l) (J1:=J (done++[c])) (J0:=Jx (done++[c])) rfl rfl rfl rfl (hs _) (hsx _) (fun D w hd hJ hb hl=>hY done c _ D w ⟨rest,hxs⟩ hd hJ (fun b hbm=>by obtain⟨p,hp,rfl⟩:=bKX.1 hbm;exact hb p hp) (hl _ hDr)) rfl bQK fun Z J1 hE=>Wi ?_
  exact nC (P:=prog) (fn:=f214) (N:=41) (vs:=[_]) rfl rfl ⟨rfl,bQK⟩ (fun D h=>⟨D,h,Le.refl D⟩) ⟨Z,c,rfl,Y,hp,hz,rfl,by cases Z<;>simp only[hE,bNM,bMU,bNU];exact⟨_,rfl⟩;simp[cG,hleaf]⟩
 ·have hin:i<places.length:=by omega
  obtain⟨p,hpi⟩:=cB places i;have hd:places.drop i=p::places.drop (i+1):=by rw[bMM hin];congr 1;exact bLY ((bLB hin).symm.trans hpi)
  rw[hd,←aDF]at hxs;refine aQ<|bM<|Za rfl<|aF<|Za3<|CO (γ:=Nat×List Int) (fun g=>2-g.1) (fun g=>g.1≤2∧g.2.length=9∧g.2.take i=pre∧g.2.drop places.length=List.replicate (9-places.length) 0) (fun g=>J (done++RF p (places.drop (i+1)) pre g.1)) (fun g=>[(17,qI (g.1:Int))]) [(6,_),(0,_),(1,_),(3,_),(4,_)] (fun g=>jD br bY bc bh g.2) (fun g=>Ds) (0,c) ⟨Ye,Y,hp,hz⟩ (by simp[aVG]) ⟨Ya,bQK⟩ cR Mm5 (aK) ?_;rintro⟨k,c1⟩ ⟨hH,I,O,R⟩;refine aA<|Zan rfl<|bS<|Zag rfl (fun hc2=>?_) fun hc2=>?_
  ·refine aQ<|Za5<|Za3<|aA<|Za rfl<|Zk rfl<|aL<|Zi rfl eN rfl<|Zd 0 rfl bX rfl hA rfl<|Za rfl<|iN rfl hpl rfl hpi fun Z o1=>Zk rfl ?_;refine aL<|Za rfl<|Wbd ?_;refine' cT 4 (s:=27) (p:=31) rfl (fun hF=>?_) (fun hF=>?_) ?_;rotate_left
   ·refine Zb rfl<|Zb rfl<|Wbm ?_;exact aM 3
   ·refine Wcn ?_;exact aM 3
   refine aF<|Zaf rfl (fun hc3=>?_) fun hc3=>?_
   ·have hpk:p=2∨p=(k:Int):=by simpa using hc3
    obtain⟨rr,hr⟩:=aOZ (p:=p) (ps:=places.drop (i+1)) (pre:=pre) (k:=k) Yd;have hset:=YG (k:=(k:Int)) I hin V O R;refine aA<|Za rfl<|Za rfl<|cA rfl U258 aJ rfl rfl Yd Yd rfl bQK<|Z3 rfl aJ rfl rfl (.tail ζ) (by simp only[*];omega) bQK<|aL<|Zp rfl rE rfl Mm0 rfl<|Za rfl<|Zah rfl<|wU rfl rfl rfl rfl (ih (j-1) Yd (i+1) (pre++[(k:Int)]) (c1.set i k) (done++RF p (places.drop (i+1)) pre k) (rr++rest) (i+1:Int) Yd Yd Yaq hset.1 hset.2.1 hset.2.2 (by rw[hxs,hr,aFL hpk];simp)) rfl bQK ?_
    rintro _ J2 _ ⟨b2,c2,rfl,h9',hp',hz',rfl,hJ2⟩;refine Zau rfl<|aF<|Zaf rfl (fun U=>?_) fun U=>?_
    ·obtain rfl:b2=false:=by simpa using U
     refine aA<|Wg ?_;exact nC (P:=prog) (fn:=f214) (N:=41) (vs:=[_]) rfl rfl ⟨rfl,bQK⟩ (fun D h=>⟨D,h,Le.refl D⟩) ⟨false,c2,rfl,h9',vP hp' hl,hz',rfl,by simpa using hJ2⟩
    ·obtain rfl:b2=true:=by simpa using U
     refine Wcf ?_;exact vY 24 (k+1,c2) ⟨Yl,h9',vP hp' hl,hz'⟩ Yl (by simpa only[bNM,aFL hpk,bLK]using hJ2) ⟨Ya,bQK⟩ rfl rfl Mm5 (aK)
   ·have hpk:¬(p=2∨p=(k:Int)):=by simpa using hc3
    refine Wcf ?_;exact vY 16 (k+1,c1) ⟨Yl,I,O,R⟩ Yl (by rw[bGW hpk]) ⟨Ya,bQK⟩ rfl rfl Mm5 (aK)
  ·refine Wj ?_;exact nC (P:=prog) (fn:=f214) (N:=41) (vs:=[_]) rfl rfl ⟨rfl,bQK⟩ (fun D h=>⟨D,h,Le.refl D⟩) ⟨true,c1,rfl,I,O,R,rfl,by simp only[bNM];rw[hd,←aDF,show k=2 by omega]⟩
theorem aPN(places:List Int)(Dr:aC)(br:Nat)(pv cv:Γ)(O R:Int)(U:places.length≤9)(hA:At Dr br 0 [pv,cv,qI O,qI R])(hpl:Sl Dr RI 1 pv places):
  u6 prog 213 [qP br] Dr ((cG places).map gM) QG:=by
 refine KT 8 func213 rfl rfl rfl rfl fun lo l J Jx hs hsx hY=>aA<|Zab rfl fun Y E1 V I=>aL<|Zad rfl uG rfl fun Z=>aL<|Zad rfl CD rfl fun q3=>aL<|Za0 rfl<|Zr rfl BS ζ rfl<|aF<|aP ?_;refine Zp rfl rE rfl Mm0 rfl<|wU rfl rfl rfl rfl (yK (l:=l) Yd hs hsx hY Ye Ye hA hpl I places.length 0 [] (List.replicate 9 0) [] [] 0 rfl Yd rfl rfl rfl (List.drop_replicate ..) Ye) rfl bQK ?_;rintro _ J2 _ ⟨b2,c2,rfl,h9',hp',hz',rfl,hJ2⟩;refine Zap ?_;exact nC (P:=prog) (fn:=f213) (N:=8) (vs:=[]) rfl rfl bQK (fun D h=>⟨D,Xbn,Le.refl D⟩) Ybg
theorem aFQ(rv:Γ)(r:dB)(D:aC)(hr:mE D rv r)(I:r.places.length≤9):
  Fn prog 133 #[rv] D (fun D' v=>∃br,v=.func (.func 213) #[] #[qP br]∧u6 prog 213 [qP br] D' ((cG r.places).map gM) QG):=by
 obtain⟨pv,cv,rfl,hp,hc⟩:=hr;refine Zx 4 func133 rfl fun h0=>aA<|Zab rfl fun R E1 U O=>Zk rfl<|aL<|Za0 rfl<|We ?_;exact aE rfl fun D hD=>⟨_,rfl,aPN r.places _ R pv cv r.wrong r.off I (O.up (hD _ Ye)) (hp.up RI.up (hD _ Ye))⟩
theorem UG{c:List Int}{i j:Int}(h0:0≤i)(h1:i≤j):dT c 0 (j+1).toNat-dT c 0 i.toNat=qR c i.toNat j.toNat:=by
 unfold qR;have h:=S1 c 0 i.toNat (j.toNat+1-i.toNat);rw[show i.toNat+(j.toNat+1-i.toNat)=(j+1).toNat by omega,bOH]at h;omega
theorem aUP{r:dB}{t:List Int}(h:(eS r t&&decide ((if eS r t=true then(rO r t:Int)else 0)≤r.wrong))=true):fits r t=true:=by
 unfold fits;cases he:eS r t<;>simp[he]at h ⊢;exact h
theorem aXC{r:dB}{t:List Int}(h:(eS r t&&decide ((if eS r t=true then(rO r t:Int)else 0)≤r.wrong))=false):fits r t=false:=by
 unfold fits;cases he:eS r t<;>simp[he]at h ⊢;exact h
theorem aXK{r:dB}(h:mP r)(k:Nat):(((cG r.places).take k).filter (fits r)).length≤512:=by
 have h1:=bMO (fits r) ((cG r.places).take k);have h2:=sR r.places;have h3:2^r.places.length≤2^9:=bMY Yd h.len9;have h4:((cG r.places).take k).length≤(cG r.places).length:=by rw[bMV];omega
 omega
theorem bBU{r:dB}(h:mP r)(k:Nat):∀t∈((cG r.places).take k).filter (fits r),t.length≤9:=fun t ht=>by
 have:=(qQ (bQF (bON.1 ht).1)).1;have:=h.len9;omega
theorem HQ{r:dB}(h:mP r):(truths r).length≤512:=by
 have h1:=bMO (fits r) (cG r.places);have h2:=sR r.places;have h3:2^r.places.length≤2^9:=bMY Yd h.len9;show((cG r.places).filter (fits r)).length≤512;omega
theorem NE(rv:Γ)(r:dB)(i j:Int)(D:aC)(hr:mE D rv r):Fn prog 121 #[rv,qI i,qI j] D (fun _ v=>v=.bool (vO r i j)):=by
 obtain⟨pv,cv,rfl,hp,hc⟩:=hr;have hl:=hp.len;refine Zx 22 func121 rfl fun h0=>aA<|Zab rfl fun Y E1 R I=>Zk rfl<|aL<|Za rfl<|Zi rfl eN rfl<|Zd 0 rfl bX rfl I rfl<|dD rfl U25 rfl Yn rfl rfl bQK<|Zaz rfl<|Zf rfl (fun Z U=>fC _ _ _ _)<|Za rfl ?_;refine' bW 8 (s:=13) (p:=21) rfl (fun O=>?_) (fun O=>?_) ?_;rotate_left
 ·refine Zb rfl<|Zb rfl<|Zj rfl eN rfl<|Ze 0 rfl bX rfl I rfl<|dD rfl U25 rfl Yn rfl rfl ⟨_,rfl,rfl⟩<|zF rfl rfl rfl Yf rfl ⟨_,rfl,rfl⟩<|Zg rfl (fun D2 V=>fC _ _ _ _)<|Zak rfl ?_;exact aM 7
 ·refine Zh rfl<|Wbg ?_;exact aM 7
 refine We ?_;exact aE rfl fun D hD=>rfl
theorem bDV(c:List Int)(i j:Int)(D:aC)(O:0≤i)(hij:i≤j)(V:j<9)(hb:∀x∈c,0≤x∧x≤1):Fn prog 203 #[.agg (ints (oD c)).toArray,qI i,qI j] D (fun _ v=>v=qI (qR c i.toNat j.toNat)):=by
 have hsl:=sJ c;have R:=vF c (j+1).toNat Yd;have U:=vF c i.toNat Yd;have Y:=eX hb 0 (j+1).toNat;have Z:=eX hb 0 i.toNat;refine Zx 15 func203 rfl fun h0=>aA<|Zab rfl fun q1 E1 hB I=>Zk rfl<|bS<|bE [] 4 9 112<|Za rfl<|Zah rfl<|cA rfl U264 aJ rfl rfl Yd Yd rfl bQK<|iQ rfl aH rfl I Ye (cN R) n4 rfl bQK<|Za rfl<|cA rfl U264 aJ rfl rfl Yd Yd rfl bQK ?_;refine iQ rfl aH rfl I Ye (cN U) n4 rfl bQK<|Zaz rfl<|We ?_;exact aE rfl fun D hD=>by show Value.int _ _=_;rw[UG O hij]
theorem vZ(lo hi n:Int)(D:aC):Fn prog 204 #[.agg #[qI lo,qI hi],qI n] D (fun _ v=>v=.agg #[qI (min lo n),qI (max hi n)]):=by
 refine Zx 15 func204 rfl fun h0=>aA<|Zab rfl fun q1 E1 hB R=>Zad rfl tJ rfl fun q2=>bS<|iZ [] 4 [0,1,2,5,6,7,8,3,4,9,10] [false,false,true,true,true,true,true,true,true,false,false] [(false,0),(false,1),(true,2),(true,5),(true,6),(true,7),(true,8),(true,3),(true,4),(false,9),(false,10)] bC (fun _ _ _ h=>eZ (P:=prog) (fn:=f204) _ _ _ h) Yg rfl<|Zi rfl TD rfl<|Zd 0 rfl aH rfl R rfl<|Za rfl<|Zi rfl RH rfl<|Zd 1 rfl aH rfl R rfl<|Za rfl ?_;refine qF rfl rfl rfl rfl bQK<|Zu rfl U25 aJ cK rfl (.cons rfl rfl (.cons rfl rfl .nil)) fun Y Z U I=>?_;have O:=Sl.ofInts (l:=[_,_]) (n:=2) (cap:=2) I rfl Yd Yd;refine Zf rfl (fun D1 V=>nH _ lo [n] _ (O.up RI.up (V _ Ye)))<|Zt [qI (min lo n),qI (max hi n)] rfl CV tJ rfl<|Zy rfl jU ζ<|aG ?_;exact Zo [_] rfl ⟨⟨_,_,_,rfl,Mm0,Or.inr ⟨A2,Xbo,rfl⟩⟩,bQK⟩ fun D hD=>rfl
theorem xZ(rv:Γ)(r:dB)(fine:Bool)(D:aC)(hr:mE D rv r):Fn prog 120 #[rv,.bool fine] D (fun D' v=>∃wv,v=.tuple #[wv,qI (eM r fine)]∧(eM r fine=0→mP r∧aNT D' wv r)):=by
 have O:=hr;obtain⟨pv,cv,rfl,hp,hc⟩:=hr;refine NH 55 func120 rfl rfl rfl rfl fun h0=>aA<|Zab rfl fun q1 E1 hS I=>Zk rfl<|Zk rfl<|bK<|Zv rfl jX rfl I hC<|Zf rfl (fun D1 hB=>AX _ r _ (O.up (hB _ Ye)))<|Wbk ?_;refine aF<|Zag rfl (fun hc1=>?_) fun hc1=>?_
 ·refine Wbe ?_;exact xB (vs:=[_,_]) rfl rfl rfl cR fun D hD=>⟨_,by rw[eM,bLR hc1];rfl,fun h=>by rw[eM,bLR hc1]at h;exact absurd h hc1⟩
 ·have hok:mP r:=n6.1 Yd;refine aQ<|bM<|Za rfl<|Zau rfl<|aF<|Zaf rfl (fun hc2=>?_) (fun hc2=>?_)
  ·refine aA<|Zk rfl<|Wi ?_;exact xB (vs:=[_,_]) rfl rfl rfl cR fun D hD=>⟨_,by rw[eM,bLI hc1,bLR Yav];rfl,fun h=>by rw[eM,bLI hc1,bLR Yav]at h;omega⟩
  ·refine aQ<|aA<|Zv rfl jX rfl I hC<|Zt [pv,cv,qI r.wrong,qI r.off,qN] rfl bBQ bCP rfl<|GN rfl (e:=251) rfl rfl rfl bQK fun q2=>Zad rfl aXT rfl fun q3=>Zr rfl bAW ζ rfl<|bK<|Zv rfl jX rfl I hC<|Zaa rfl (fun D2 V=>aFQ _ r _ (O.up (V _ Ye)) hok.len9) fun v2 D2 V hE=>aF<|Za3 ?_;obtain⟨br,rfl,hit⟩:=hE;refine wW (γ:=Γ×aD) (xs:=(cG r.places).map gM) (enc:=QG) (Dr:=D2) (U1 258 r) (fun _ _ _=>False) (fun g=>[(q3,qC [qP q2] 244),(q2,qC [pv,cv,qI r.wrong,qI r.off,g.1] 251)]++g.2) (qN,[]) rfl rfl rfl rfl hit Ye (fun _=>rfl) rfl (by simpa [U1]using bD.nil) rfl ?_ ?_ (fun _ _ _ _ h=>h.elim)
   ·rintro pre x ⟨v,ν⟩ ⟨us,hx⟩ hΦ l bd rec hh D7 hX hst hpend;obtain⟨t,hk,rfl,htm,htake⟩:=O6 hx;obtain⟨hlen,htb⟩:=qQ htm;have htr:pA r t:=⟨hlen,htb⟩
    have Y:=iP (t:=t) Xbb;refine aP<|Zad rfl uG rfl fun q4=>Zy rfl eF ζ<|Zap ?_;refine fun a w hhh=>N3 (A:=[(_,_),(_,_),(_,_)]++ν) (B:=[(bd,.deferred (some []))]) (r:=rec) (l:=l) Ybc hst ?_ a w hhh
    refine pY fun hnd=>?_;simp only[bMD,bLO,bMX,bLJ,bNO,bMH,bNA,bLM,bQE]at hnd;have hY:=hnd.1.2.2.1;have rA:=hnd.2.1.2.1;have hq2:=hnd.2.2.1.1;refine Za3<|Za5<|uJ [] 4 9 198 (fun _ _ _ h=>h)<|Zv rfl jX rfl I hC<|bL rfl kX rfl Mm0 Yac n4 rfl bQK<|Zf rfl (fun D3 rB=>j0 t _ Xbb htb)<|Zf rfl (fun D4 hF=>VD _ r t _ (O.up (hF _ Ye)) hok htr)<|Za rfl<|Zaq rfl<|Zaq rfl<|Zk rfl<|Zk rfl ?_;refine aL<|Wbc ?_;refine' bW 5 (s:=32) (p:=37) rfl (fun hH=>?_) (fun hH=>?_) ?_;rotate_left
    ·refine Zb rfl<|Zj rfl I0 rfl<|Ze 2 rfl aH rfl I rfl<|Wk ?_;exact aM 4
    ·refine Zh rfl<|Wb ?_;exact aM 4
    refine aF<|Zaf rfl (fun hc3=>?_) fun hc3=>?_
    ·have hfit:=aUP hc3;refine uJ (ν.map (·.1)) 2 11 254 (fun _ _ _ h=>h)<|bG rfl BY rfl Mm1 rfl Ym rfl bQK<|bG rfl BY rfl Mm1 rfl Ym rfl bQK<|Zao rfl<|Zi rfl rN rfl<|bG rfl L9 rfl Mm2 rfl Ym rfl bQK<|bL rfl kX rfl Mm0 Yac Ym rfl bQK<|Zu rfl U249 eF uG rfl (.cons rfl (by simpa using Y) .nil) (fun hP hR hI R=>aR (A:=[(_,_),(_,_),(_,_)]) (B:=[(l,_),(bd,_)]) rfl U249 rfl rfl eF uG rfl aXP rfl rfl rfl hΦ (iL.lit R) Ye (by simp[Y]) (QZ (bBU hok pre.length)) Xbc (by have:=aXK hok pre.length;omega) (bLG fun p hp=>bKX.2 ⟨p,hp,rfl⟩) rfl bQK fun v1 ν1 U=>?_)
     have hJ:U1 258 r (pre++[gM t]) (v1,ν1):=by unfold U1;rw[htake,bMJ,bNN,bLR hfit,List.filter_nil,bLN,bMC];simpa using U
     simp only[bNO,bMH];refine Zao rfl<|Zi rfl rN rfl<|bP rfl rfl rfl U.cells1 aCH (.tail (.tail ζ)) Ye rfl U.cell1 bQK<|Zap<|Za6 ?_;exact fun a w hh=>jP (A:=[(_,_),(_,_)]++ν1) (B:=[(bd,.deferred (some []))]) (v1,ν1) hJ rfl rfl a w (hh.dropBoxes 1)
    ·have hfit:=aXC hc3;have hK:U1 258 r (pre++[gM t]) (v,ν):=by unfold U1;rw[htake,bMJ,bNN,bLI (by simp[hfit]),List.filter_nil,n5];exact hΦ
     refine bJ<|Za6 ?_;exact fun a w hh=>jP (A:=[(_,_),(_,_)]++ν) (B:=[(bd,.deferred (some []))]) (v,ν) hK rfl rfl a w (hh.dropBoxes 1)
   ·rintro⟨v,ν⟩ bd hΦ;have hΦ':bD 258 9 v (truths r).length ((truths r).flatMap fun t=>ints (gM t)) ν:=by simpa [U1,truths]using hΦ
    have hall:∀t∈truths r,t.length≤9:=fun t ht=>by have:=(qQ (bON.1 ht).1).1;have:=hok.len9;omega
    have hll:=HQ hok;refine Za6<|Za1<|bM<|Zp rfl BY rfl Mm0 rfl<|Zao rfl<|Zi rfl rN rfl<|Zp rfl L9 rfl Mm1 rfl<|cE rfl U249 rfl hΦ' rfl rfl bQK<|Zaw rfl<|aF<|Zag rfl (fun Z=>?_) fun Z=>?_
    ·have htn:truths r=[]:=bOL.1 Yd;have hask:eM r fine=11:=by rw[eM,bLI hc1,bLI Yav,bLR htn]
     refine aA<|Zk rfl<|Wi ?_;exact A3 (vs:=[_,_]) (A:=[(_,_),(_,_)]++ν) rfl rfl rfl cR fun D hD=>⟨_,by rw[hask];rfl,fun h=>by rw[hask]at h;omega⟩
    ·have htn:truths r≠[]:=fun e=>Z Xak
     have hask:eM r fine=0:=by rw[eM,bLI hc1,bLI Yav,bLI htn]
     refine aQ<|aA<|Zp rfl BY rfl Mm0 rfl<|Zk rfl<|Zk rfl<|aG<|Zar [(_,_),(_,_)] [(bd,.deferred (some []))] hΦ' rfl fun D8 hD8 hN=>DU (A:=[(_,_)]) (ν:=[(q2,_)]) (B:=[(bd,.deferred (some []))]) (bBR (sz:=5) rfl) rfl fun D9 hD9 hO=>?_;exact A3 (vs:=[_,_]) (A:=[(_,_)]) rfl rfl rfl cR fun D hD=>⟨_,by rw[hask];rfl,fun _=>⟨hok,q2,pv,cv,v,rfl,(hO.at Yd).up (hD _ Ye),hp.up RI.up (hD _ Ye),hc.up RC.up (hD _ Ye),(hN.truths rfl Yd hall).up RT.up (hD _ Ye)⟩⟩
theorem aCD{ts:List (List Int)}{q:List Int→Bool}{t0 t:List Int}{j:Nat}(hj:ts[j]?= some t)(h:(ts.take j).all (fun t=>q t==q t0)=true)(hc:(!(q t==q t0))=false):(ts.take (j+1)).all (fun t=>q t==q t0)=true:=by
 rw[bLA,hj,List.all_append,h];simpa using hc
theorem VH{r:dB}{f:Bool}(h:eM r f=0):truths r≠[]:=by
 unfold eM at h;split at h;omega;split at h;omega;split at h;omega;assumption
theorem l7{r:dB}{f:Bool}(h:eM r f=0):f=true:=by
 unfold eM at h;split at h;omega;split at h;omega;rename_i hf;simpa using hf
theorem aVD{r:dB}{i j:Int}(hok:mP r)(h:eM r (vO r i j)=0):0≤i∧i≤j∧j<9:=by
 have:=l7 h;simp only[vO,bKW,bT]at this;have:=hok.len9;omega
theorem T9{r:dB}(hok:mP r):∀t∈truths r,t.length≤9∧∀x∈t,0≤x∧x≤1:=fun t ht=>⟨by have:=(Q3 ht).1;have:=hok.len9;omega,(Q3 ht).2⟩
theorem EL{ts:List (List Int)}{k:Nat}{t:List Int}{f:List Int→Int}{a:Int}(h:ts[k]?= some t):((ts.take (k+1)).map f).foldl min a=min (((ts.take k).map f).foldl min a) (f t):=by
 rw[bLA,h,bLT,bLO,bMT];rfl
theorem EV{ts:List (List Int)}{k:Nat}{t:List Int}{f:List Int→Int}{a:Int}(h:ts[k]?= some t):((ts.take (k+1)).map f).foldl max a=max (((ts.take k).map f).foldl max a) (f t):=by
 rw[bLA,h,bLT,bLO,bMT];rfl
theorem aMB(sv:Γ)(ts:List (List Int))(i j:Int)(D:aC)(hS:Sl D RT 9 sv ts)(hne:ts≠[])(hall:∀t∈ts,t.length≤9∧∀x∈t,0≤x∧x≤1)(I:0≤i)(hij:i≤j)(O:j<9):
  Fn prog 122 #[sv,qI i,qI j] D (fun _ v=>v=.agg #[qI (aQG ts i.toNat j.toNat),qI (aUK ts i.toNat j.toNat)]):=by
 have hl:=hS.len;obtain⟨t0,ht0⟩:∃t,ts[0]?= some t:=⟨ts[0]'(bOK.2 hne),bLB _⟩
 have ht0m:=GT ht0;have hI:=MY (hall t0 ht0m).2 i.toNat j.toNat Yd;have hE:=iP (hall t0 ht0m).1;refine Zx 36 func122 rfl fun h0=>aA<|Zad rfl tJ rfl fun q1=>aL<|Za rfl<|Zw rfl U249 eF rfl hS rfl ht0 fun b1 o1 R U hF V=>?_;obtain rfl:R=ints (gM _):=U;refine dG rfl kX rfl V Yc Xal n4 rfl bQK<|Zf rfl (fun D1 hJ=>j0 t0 _ (hall _ ht0m).1 (hall _ ht0m).2)<|Za rfl<|Za rfl<|Zf rfl (fun D2 hK=>bDV t0 i j _ I hij O (hall _ ht0m).2)<|Zk rfl<|aL<|Za rfl<|Za rfl<|Zt [qI (qR t0 i.toNat j.toNat),qI (qR t0 i.toNat j.toNat)] rfl CV tJ rfl<|Zad rfl tJ rfl fun q2=>Zy rfl jU ζ ?_;refine bK<|Za rfl<|dD rfl U249 rfl Yn rfl rfl bQK<|Za rfl<|aF<|Za3<|hU (γ:=Nat) (fun k=>ts.length-k) (fun k=>k≤ts.length) (fun k=>[(23,qI (k:Int))]) [(22,_),(21,_),(8,_),(6,_),(1,_),(2,_)] (fun k=>[(q2,qC [qI (((ts.take k).map fun t=>qR t i.toNat j.toNat).foldl min (qR t0 i.toNat j.toNat)),qI (((ts.take k).map fun t=>qR t i.toNat j.toNat).foldl max (qR t0 i.toNat j.toNat))] 75),(q1,qC [qI 0,qI 0] 75)]) (fun k=>[D]) 0 Yd ⟨Ya,bQK⟩ cR Mm5 (aK) ?_;rintro k h1;refine aA<|Zan rfl<|bS<|Zag rfl (fun hc1=>?_) fun hc1=>?_
 ·have hkk:k<ts.length:=by omega
  obtain⟨t,ht⟩:=cB ts k;have htm:=GT ht;obtain⟨htl,htb⟩:=hall t htm;have hN:=iP htl;refine aQ<|Za5<|Za3<|aA<|Zw rfl U249 eF rfl hS rfl ht fun b2 o2 Y Z hH hB=>?_;obtain rfl:Y=ints (gM _):=Z;refine dG rfl kX rfl hB Yc Xal n4 rfl bQK<|Zad rfl uG rfl fun q3=>cQ rfl rfl rfl rfl eF Yap Yb ζ Yh bQK<|aF<|iZ [] 3 [0,1,3,4,2,5,6,7] [false,true,true,true,true,true,false,false] [(false,0),(true,1),(true,3),(true,4),(true,2),(true,5),(false,6),(false,7)] bC (fun _ _ _ h=>eZ (P:=prog) (fn:=f122) _ _ _ h) Yg rfl<|Zae rfl A2 rfl Mm1 jU<|bL rfl kX rfl Mm0 Xal n4 rfl bQK<|Za rfl<|Za rfl<|Zf rfl (fun D3 hO=>j0 t _ (hall _ htm).1 (hall _ htm).2)<|Zf rfl (fun D4 hP=>bDV t i j _ I hij O (hall _ htm).2)<|Zf rfl (fun D5 hR=>vZ _ _ _ _) ?_;refine Zy rfl jU (.tail ζ)<|Zap<|Wd ?_;rw[←EL ht,←EV ht];exact aI 14 (k+1) Yd Yd ⟨Ya,bQK⟩ rfl rfl (List.Sublist.cons _ Mm5) (aK)
 ·obtain rfl:k=ts.length:=by omega
  rw[bLU,DA _ _ (by rw[bMI,ht0];rfl),GG _ _ (by rw[bMI,ht0];rfl)];refine Za8<|Za4<|Za4<|Za9<|Za1<|aA<|Zae rfl A2 rfl Mm0 jU<|Zy rfl jU (.tail ζ)<|aG ?_;exact Zo [_] rfl ⟨⟨_,_,_,rfl,Mm1,Or.inr ⟨A2,Xbo,rfl⟩⟩,bQK⟩ fun D hD=>rfl
theorem y9(rv:Γ)(r:dB)(i j:Int)(D:aC)(hr:mE D rv r):Fn prog 50 #[rv,qI i,qI j] D (fun _ v=>v=.tuple #[.agg (if eM r (vO r i j)=0 then #[qI (aQG (truths r) i.toNat j.toNat),qI (aUK (truths r) i.toNat j.toNat)]else #[qI 0,qI 0]),qI (eM r (vO r i j))]):=by
 have I:=hr;obtain⟨pv,cv,rfl,hp,hc⟩:=hr;refine Zx 30 func50 rfl fun h0=>aA<|Zab rfl fun q1 E1 Z O=>Zad rfl tJ rfl fun q2=>Zk rfl<|bS<|bE [] 4 11 798<|Zv rfl jX rfl O hC<|Zv rfl jX rfl O hC<|Za rfl<|Za rfl<|Zf rfl (fun D1 V=>NE _ r i j _ (I.up (V _ Ye))) ?_;refine Zaa rfl (fun D2 R=>xZ _ r _ _ (I.up (R _ Ye))) fun v2 D2 R U=>?_;obtain⟨wv,rfl,hwk⟩:=U;refine Za rfl<|Zaq rfl<|Zaq rfl<|Zk rfl<|Zk rfl<|bK<|Za rfl<|Zax rfl<|aF<|Zag rfl (fun hc1=>?_) fun hc1=>?_
 ·refine aA<|Zt [qI 0,qI 0] rfl CV tJ rfl<|Za rfl<|Zy rfl jU ζ<|Wi ?_;exact Zo [_,_] rfl ⟨⟨_,_,_,rfl,Mm0,Or.inr ⟨A2,Xbo,rfl⟩⟩,rfl,bQK⟩ fun D hD=>by show Value.tuple _=_;rw[bLI hc1]
 ·have he0:eM r (vO r i j)=0:=by omega
  obtain⟨hok,wb,hB,hE,tv,rfl,hA,U,hc2',ht⟩:=hwk he0;have htn:=VH he0;have hall:=T9 hok;have hpt:=aVD hok he0;refine aQ<|aA<|Za rfl<|Zao rfl<|Zi rfl rN rfl<|Zd 4 rfl L9 rfl hA rfl<|Za rfl<|Za rfl<|Zf rfl (fun D3 Y=>aMB _ _ i j _ (ht.up RT.up (Y _ Ye)) htn hall hpt.1 hpt.2.1 hpt.2.2)<|Zy rfl jU ζ<|We ?_;exact Zo [_,_] rfl ⟨⟨_,_,_,rfl,Mm0,Or.inr ⟨A2,Xbo,rfl⟩⟩,rfl,bQK⟩ fun D hD=>by show Value.tuple _=_;rw[bLR he0,he0]
theorem CW(wv:Γ)(t:List Int)(i:Nat)(D:aC)(O:t.length≤9)(hi:i<9):Fn prog 353 #[wv,.agg (ints (gM t)).toArray,qI (i:Int)] D (fun _ v=>v=.bool (aOD i t)):=by
 have hg:=aRV hi O;refine Zx 11 func353 rfl fun h0=>aA<|Zab rfl fun U E1 R I=>Zk rfl<|aL<|Za rfl<|cA rfl U258 aJ rfl rfl Yd Yd rfl bQK<|iQ rfl aH rfl I Ye (cN hg) n4 rfl bQK<|Zas rfl<|We ?_;exact aE rfl fun D hD=>rfl
theorem RO(fv wv:Γ)(f:FuncId)(r:dB)(p:Nat→List Int→Bool)(many:Nat)(D:aC)(hfv:fv=.func (.func f) #[] #[])(hw:aNT D wv r)(hok:mP r)(hne:truths r≠[])(hm:many≤9)
  (hf:∀t∈truths r,∀i,i<many→∀D',Le D D'→Fn prog f #[wv,.agg (ints (gM t)).toArray,qI (i:Int)] D' fun _ v=>v=.bool (p i t)):
  Fn prog 354 #[.agg #[fv],wv,qI (many:Int)] D (fun D' v=>Sl D' RI 1 v ((List.range many).map fun i=>vd (truths r) (p i))):=by
 obtain⟨wb,pv,cv,tv,rfl,hA,hp,hc,ht⟩:=hw;subst hfv;have hl:=ht.len;have hall:=T9 hok;obtain⟨t0,ht0⟩:∃t,(truths r)[0]?= some t:=⟨(truths r)[0]'(bOK.2 hne),bLB _⟩
 have ht0m:=GT ht0;have hp90:=iP (hall t0 ht0m).1;refine Zx 52 func354 rfl fun h0=>aA<|Zab rfl fun q1 E1 hE1 Z=>Zk rfl<|bK<|Za rfl<|Za rfl<|aF<|Za3<|Zc (Nat×Γ×aD) (fun g=>many-g.1) (fun g=>g.1≤many∧bD 3 1 g.2.1 g.1 (ints ((List.range g.1).map fun i=>vd (truths r) (p i))) g.2.2) (fun g=>[(13,qI (g.1:Int)),(6,g.2.1)]) [(12,_),(3,_),(1,_)] (fun g=>g.2.2++[]) (fun g=>[E1,D]) (0,qN,[]) ⟨Ye,Xaj⟩ ⟨Ya,Ya,bQK⟩ Mm5 ?_;rintro⟨k,v,ν⟩ ⟨h1,ha⟩;refine aA<|Zan rfl<|bS<|Zag rfl (fun hc1=>?_) fun hc1=>?_
 ·refine aQ<|Za5<|Za3<|aA<|Za rfl<|Zk rfl<|aF<|aDO<|Za5<|bE [] 6 12 1020<|Zi rfl s9 rfl<|Zd 0 rfl ML rfl Z rfl ?_;refine Za rfl<|Za rfl<|Zao rfl<|Zi rfl rN rfl<|Zd 4 rfl L9 rfl hA rfl<|Zw rfl U249 eF rfl ht rfl ht0 fun b1 o1 hI hJ hcl1 hK=>?_;obtain rfl:hI=ints (gM _):=hJ;refine dG rfl kX rfl hK Yc Xal n4 rfl bQK<|Za rfl<|Zf rfl (fun D1 hN=>hf t0 ht0m k Yd _ (hN _ Ye))<|Zk rfl<|aL<|Zk rfl<|bK<|Za rfl<|aF<|Zaf rfl (fun hc2=>?_) (fun hc2=>?_)
  ·refine aP<|Zk rfl<|bS<|MI<|Za1<|bM<|Za rfl<|Zao rfl<|Zi rfl rN rfl<|Zd 4 rfl L9 rfl hA rfl<|dD rfl U249 rfl Yn rfl rfl bQK<|Za rfl ?_;refine aF<|Za3<|Zn Nat (fun j=>(truths r).length-j) (fun j=>j≤(truths r).length∧((truths r).take j).all (fun t=>p k t==p k t0)=true) (fun j=>[(33,qI (j:Int))]) [(32,_),(31,_),(30,_),(29,_),(28,_),(9,_),(27,_),(8,_),(26,_),(25,_),(24,_),(23,_),(22,_),(21,_),(20,_),(19,_),(18,_),(17,_),(16,_),(7,_),(15,_),(14,_),(13,_),(6,_),(12,_),(3,_),(1,_)] (fun j=>[E1,D]) 0 ⟨Ya,bQK⟩ ?_;rintro j ⟨h3,h4⟩;refine aA<|Zan rfl<|bS<|Zag rfl (fun hc3=>?_) (fun hc3=>?_)
   ·have hj:j<(truths r).length:=by omega
    obtain⟨t,I⟩:=cB (truths r) j;have htm:=GT I;obtain⟨htl,htb⟩:=hall t htm;have hO:=iP htl;refine aQ<|Za5<|Za3<|aA<|Zw rfl U249 eF rfl ht rfl I fun b2 o2 hP hR hcl2 hS=>?_;obtain rfl:hP=ints (gM _):=hR;refine dG rfl kX rfl hS Yc Xal n4 rfl bQK<|Zad rfl uG rfl fun q2=>cQ rfl rfl rfl rfl eF Yap Yb ζ Yh bQK<|aL<|Zi rfl s9 rfl<|Zd 0 rfl ML rfl Z rfl<|Za rfl<|bL rfl kX rfl Mm0 Xal n4 rfl bQK<|Za rfl<|Zf rfl (fun D2 hH=>hf t htm k Yd _ (hH _ Ye))<|Za rfl<|NQ rfl U4 rfl rfl rfl bQK ?_;refine aF<|Zaf rfl (fun hB=>?_) fun hB=>?_
    ·have hv:vd (truths r) (p k)=3:=bDK ht0 I hB;refine aA<|Zk rfl<|aF<|Za8<|xD rfl<|Za4<|Za4<|Za9<|Za1<|aP<|Wbc ?_;refine Zu rfl U25 aJ cK rfl (.cons rfl rfl .nil) fun b901 D901 hX R=>?_;have hY:=Sl.ofInts (l:=[_]) (n:=1) (cap:=1) R rfl Yd Yd;refine aR (A:=[(_,_)]) (B:=_) rfl U25 rfl rfl aJ cK rfl kE rfl rfl rfl ha (iL.lit R) Ye rfl Ye Yk Yd (bLL rfl) rfl bQK fun v1 ν1 rA=>?_;have O:bD 3 1 v1 (k+1) (ints ((List.range (k+1)).map fun i=>vd (truths r) (p i))) ν1:=by rw[bMN,bLO,bOT,hv,←eW];exact rA
     refine Zk rfl<|Zap<|B1<|Wd ?_;exact aI 45 (k+1,v1,ν1) ⟨Yl,O⟩ Yl ⟨Ya,Ya,bQK⟩ rfl rfl (List.Sublist.cons _ Mm5) fun D h=>⟨D,bLP _ (h),Le.refl D⟩
    ·have hcc:=hB;refine Wcf ?_;exact aI 15 (j+1) ⟨Yd,aCD I h4 hcc⟩ Yd ⟨Ya,bQK⟩ rfl rfl (List.Sublist.cons _ Mm5) (aK)
   ·have hv:vd (truths r) (p k)=1:=by rw[aSP ht0 Yd h4,bLR (by simp[hc2])]
    refine Za8<|Za4<|Za4<|Za9<|Za1<|aP<|Za rfl<|Za rfl<|Zu rfl U25 aJ cK rfl (.cons rfl rfl .nil) fun b902 D902 rB U=>?_;have hS902:=Sl.ofInts (l:=[_]) (n:=1) (cap:=1) U rfl Yd Yd;refine aR (A:=[]) (B:=_) rfl U25 rfl rfl aJ cK rfl kE rfl rfl rfl ha (iL.lit U) Ye rfl Ye Yk Yd (bLL rfl) rfl bQK fun v2 ν2 O=>?_;have O:bD 3 1 v2 (k+1) (ints ((List.range (k+1)).map fun i=>vd (truths r) (p i))) ν2:=by rw[bMN,bLO,bOT,hv,←eW];exact O
    refine Zk rfl<|Zap<|B1<|Wd ?_;exact aI 33 (k+1,v2,ν2) ⟨Yl,O⟩ Yl ⟨Ya,Ya,bQK⟩ rfl rfl Mm5 fun D h=>⟨D,bLP _ (h),Le.refl D⟩
  ·refine aQ<|Za5<|MI<|Za1<|bM<|Za rfl<|Zao rfl<|Zi rfl rN rfl<|Zd 4 rfl L9 rfl hA rfl<|dD rfl U249 rfl Yn rfl rfl bQK<|Za rfl<|aF ?_;refine Za3<|Zn Nat (fun j=>(truths r).length-j) (fun j=>j≤(truths r).length∧((truths r).take j).all (fun t=>p k t==p k t0)=true) (fun j=>[(33,qI (j:Int))]) [(32,_),(31,_),(30,_),(29,_),(28,_),(27,_),(9,_),(8,_),(26,_),(25,_),(24,_),(23,_),(22,_),(21,_),(20,_),(19,_),(18,_),(17,_),(16,_),(7,_),(15,_),(14,_),(13,_),(6,_),(12,_),(3,_),(1,_)] (fun j=>[E1,D]) 0 ⟨Ya,bQK⟩ ?_;rintro j ⟨h3,h4⟩;refine aA<|Zan rfl<|bS<|Zag rfl (fun hc5=>?_) (fun hc5=>?_)
   ·have hj:j<(truths r).length:=by omega
    obtain⟨t,I⟩:=cB (truths r) j;have htm:=GT I;obtain⟨htl,htb⟩:=hall t htm;have hO:=iP htl;refine aQ<|Za5<|Za3<|aA<|Zw rfl U249 eF rfl ht rfl I fun b3 o3 cs3 hr3 hcl3 hA3=>?_;obtain rfl:cs3=ints (gM _):=hr3;refine dG rfl kX rfl hA3 Yc Xal n4 rfl bQK<|Zad rfl uG rfl fun q3=>cQ rfl rfl rfl rfl eF Yap Yb ζ Yh bQK<|aL<|Zi rfl s9 rfl<|Zd 0 rfl ML rfl Z rfl<|Za rfl<|bL rfl kX rfl Mm0 Xal n4 rfl bQK<|Za rfl<|Zf rfl (fun D3 hD3=>hf t htm k Yd _ (hD3 _ Ye))<|Za rfl<|NQ rfl U4 rfl rfl rfl bQK ?_;refine aF<|Zaf rfl (fun hE=>?_) fun hE=>?_
    ·have hv:vd (truths r) (p k)=3:=bDK ht0 I hE;refine aA<|Zk rfl<|aF<|Za8<|xD rfl<|Za4<|Za4<|Za9<|Za1<|aP<|Wbc ?_;refine Zu rfl U25 aJ cK rfl (.cons rfl rfl .nil) fun b903 D903 hD903 V=>?_;have hS903:=Sl.ofInts (l:=[_]) (n:=1) (cap:=1) V rfl Yd Yd;refine aR (A:=[(_,_)]) (B:=_) rfl U25 rfl rfl aJ cK rfl kE rfl rfl rfl ha (iL.lit V) Ye rfl Ye Yk Yd (bLL rfl) rfl bQK fun v3 ν3 ha3=>?_;have O:bD 3 1 v3 (k+1) (ints ((List.range (k+1)).map fun i=>vd (truths r) (p i))) ν3:=by rw[bMN,bLO,bOT,hv,←eW];exact ha3
     refine Zk rfl<|Zap<|B1<|Wd ?_;exact aI 45 (k+1,v3,ν3) ⟨Yl,O⟩ Yl ⟨Ya,Ya,bQK⟩ rfl rfl (List.Sublist.cons _ Mm5) fun D h=>⟨D,bLP _ (h),Le.refl D⟩
    ·have hcc:=hE;refine Wcf ?_;exact aI 15 (j+1) ⟨Yd,aCD I h4 hcc⟩ Yd ⟨Ya,bQK⟩ rfl rfl (List.Sublist.cons _ Mm5) (aK)
   ·have hv:vd (truths r) (p k)=2:=by rw[aSP ht0 Yd h4,bLI (by simp[hc2])]
    refine Za8<|Za4<|Za4<|Za9<|Za1<|aP<|Za rfl<|Za rfl<|Zu rfl U25 aJ cK rfl (.cons rfl rfl .nil) fun b904 D904 hD904 Y=>?_;have hS904:=Sl.ofInts (l:=[_]) (n:=1) (cap:=1) Y rfl Yd Yd;refine aR (A:=[]) (B:=_) rfl U25 rfl rfl aJ cK rfl kE rfl rfl rfl ha (iL.lit Y) Ye rfl Ye Yk Yd (bLL rfl) rfl bQK fun v4 ν4 ha4=>?_;have O:bD 3 1 v4 (k+1) (ints ((List.range (k+1)).map fun i=>vd (truths r) (p i))) ν4:=by rw[bMN,bLO,bOT,hv,←eW];exact ha4
    refine Zk rfl<|Zap<|B1<|Wd ?_;exact aI 33 (k+1,v4,ν4) ⟨Yl,O⟩ Yl ⟨Ya,Ya,bQK⟩ rfl rfl Mm5 fun D h=>⟨D,bLP _ (h),Le.refl D⟩
 ·obtain rfl:k=many:=by omega
  refine Za8<|Za4<|Za4<|Za9<|Za1<|aA<|Za rfl<|Zk rfl<|aG<|Zar [] [] ha rfl fun D2 hH hF=>?_;exact aE rfl fun D hD=>(hF.ints Ye Yd).up RI.up (hD _ Ye)
theorem aLZ(rv:Γ)(r:dB)(D:aC)(hr:mE D rv r):Fn prog 296 #[rv] D (fun D' v=>∃lv,v=.tuple #[lv,qI (eM r true)]∧Sl D' RI 1 lv (if eM r true=0 then(List.range r.places.length).map (fun i=>vd (truths r) (aOD i))else [])):=by
 have V:=hr;obtain⟨pv,cv,rfl,hp,hc⟩:=hr;have hl1:=hp.len;have hE:=hc.len;refine Zx 20 func296 rfl fun h0=>aA<|Zab rfl fun q1 E1 hF R=>Zk rfl<|Zk rfl<|aL<|Zv rfl jX rfl R hC<|Zaa rfl (fun D1 U=>xZ _ r _ _ (V.up (U _ Ye))) fun v1 D1 U Y=>?_;obtain⟨wv,rfl,hwk⟩:=Y;refine Za rfl<|Zaq rfl<|Zaq rfl<|Zk rfl<|Zk rfl<|bK<|Za rfl<|Zax rfl<|aF<|Zag rfl (fun hc1=>?_) fun hc1=>?_
 ·refine Wbe ?_;exact lU (vs:=[_,_]) rfl rfl rfl cR fun D hD=>⟨_,rfl,by rw[bLI hc1];exact Sl.nil⟩
 ·have he0:eM r true=0:=by omega
  obtain⟨hok,wb,Z,hB,tv,rfl,hA,O,hc2',ht⟩:=hwk he0;have htn:=VH he0;have hall:=T9 hok;refine aQ<|aA<|Zt [.func (.func 353) #[] #[]] rfl bBE bBW rfl<|Za rfl<|Zi rfl eN rfl<|Zd 0 rfl bX rfl R rfl<|Zai rfl U25 rfl hp rfl<|Zaa rfl (fun D2 I=>RO _ _ 353 r (aOD) r.places.length _ rfl ⟨wb,Z,hB,tv,rfl,hA.up (I _ Ye),O.up RI.up (I _ Ye),hc2'.up RC.up (I _ Ye),ht.up RT.up (I _ Ye)⟩ hok htn (by have:=hok.len9;have:=hok.cnt6;omega) fun t htm i hi D2 hl=>CW _ t i D2 (hall t htm).1 Xbb) fun v2 D2 I O=>Zk rfl<|We ?_
  exact lU (vs:=[_,_]) rfl rfl rfl cR fun D hD=>⟨_,by rw[he0];rfl,by rw[bLR he0];exact O.up RI.up (hD _ Ye)⟩
end L1
open Go.Proofs
namespace L1
open C1
theorem aOS(rv:Γ)(r:dB)(D:aC)(hr:mE D rv r):Fn prog 67 #[rv] D (fun _ v=>v=.tuple #[qI (xF r),qI (m9 r)]):=by
 have R:=hr;obtain⟨pv,cv,rfl,hp,hc⟩:=hr;refine NH 47 func67 rfl rfl rfl rfl fun h0=>aA<|Zab rfl fun q1 E1 hK U=>Zk rfl<|Zk rfl<|bK<|Zv rfl jX rfl U hC<|Zf rfl (fun D1 Z=>AX _ r _ (R.up (Z _ Ye)))<|Wbk ?_;refine aF<|Zag rfl (fun hc1=>?_) fun hc1=>?_
 ·refine Wbe ?_;exact xB (vs:=[_,_]) rfl rfl rfl cR fun D hD=>by show Value.tuple _=_;rw[xF,m9,bLR hc1,bLR hc1]<;>rfl
 ·have hok:mP r:=n6.1 Yd;refine aQ<|aA<|Zad rfl cK rfl fun q2=>Zad rfl pW rfl fun q3=>Zr rfl aJ (.tail ζ) rfl<|Zr rfl mS ζ rfl<|aL<|Zad rfl uG rfl fun q4=>bK<|Zv rfl jX rfl U hC<|Zaa rfl (fun D2 Y=>aFQ _ r _ (R.up (Y _ Ye)) hok.len9) fun v2 D2 Y hB=>aF ?_;refine Za3 ?_;obtain⟨br,rfl,hit⟩:=hB;refine wW (γ:=Option Int×List Int) (xs:=(cG r.places).map gM) (enc:=QG) (Dr:=D2) (G6 r) (fun _ _ _=>False) (fun g=>[(q4,qC (ints g.2) 258),(q3,qC [.bool g.1.isSome] 4),(q2,qC [qI (g.1.getD 0)] 3)]) (none,List.replicate 9 0) rfl rfl rfl rfl hit Ye (fun _=>rfl) rfl ⟨rfl,rfl,fun u hu=>by simp at hu⟩ rfl ?_ ?_ (fun _ _ _ _ h=>h.elim)
  ·rintro pre x ⟨o,last⟩ ⟨us,hx⟩ hΦ l bd rec hh D7 hN hst hpend;obtain⟨t,hk,rfl,htm,htake⟩:=O6 hx;obtain⟨hlen,htb⟩:=qQ htm;have htr:pA r t:=⟨hlen,htb⟩
   have V:=iP (t:=t) Xbb;have hE:last.length=9:=hΦ.2.1;refine aP<|Zad rfl uG rfl fun q5=>Zy rfl eF ζ<|Zap ?_;refine fun a w hhh=>N3 (A:=[(_,_),(_,_),(_,_),(_,_)]) (B:=[(bd,.deferred (some []))]) (r:=rec) (l:=l) Ybc hst ?_ a w hhh
   refine Za3<|bM<|Zp rfl a8 rfl Mm2 rfl<|Za rfl ?_;refine' bW 4 (s:=20) (p:=24) rfl (fun hF=>?_) (fun hF=>?_) ?_;rotate_left
   ·refine bL rfl kX rfl Mm0 Yac n4 rfl ⟨_,rfl,rfl⟩<|bL rfl kX rfl Mm1 Yac n4 rfl ⟨_,rfl,rfl⟩<|YZ rfl Yg U258 U3 Yg V hE rfl rfl rfl ⟨_,rfl,rfl⟩<|Zak rfl ?_;exact aM 3
   ·refine Wb ?_;exact aM 3
   refine aF<|Zaf rfl (fun hc2=>?_) fun hc2=>?_
   ·refine Za8<|Za4<|Za9 ?_;exact fun a w hh=>jP (A:=[(_,_),(_,_),(_,_)]) (B:=[(bd,.deferred (some []))]) (o,last) (ZW hΦ htm htake hc2) rfl rfl a w (hh.dropBoxes 1)
   ·refine aQ<|aA<|bL rfl kX rfl Mm0 Yac n4 rfl bQK<|Zy rfl eF (.tail ζ)<|bS<|uJ [] 4 9 198 (fun _ _ _ h=>h)<|Zv rfl jX rfl U hC<|bL rfl kX rfl Mm0 Yac n4 rfl bQK<|Zf rfl (fun D3 hO=>j0 t _ Xbb htb)<|Zf rfl (fun D4 hH=>VD _ r t _ (R.up (hH _ Ye)) hok htr)<|Za rfl<|Zaq rfl ?_;refine Zaq rfl<|Zk rfl<|Zk rfl<|aL<|Wbc ?_;refine' bW 8 (s:=34) (p:=42) rfl (fun hI=>?_) (fun hI=>?_) ?_;rotate_left
    ·refine Zq rfl a8 rfl Mm2 rfl<|Zav rfl<|Zb rfl ?_;refine' cT 4 (s:=37) (p:=41) rfl (fun hJ=>?_) (fun hJ=>?_) ?_;rotate_left
     ·refine Zb rfl<|Zq rfl aH rfl Mm3 rfl<|IQ rfl rfl rfl rfl ⟨_,rfl,rfl⟩<|pE rfl rfl rfl rfl ⟨_,rfl,rfl⟩ ?_;exact aM 3
     ·refine Zh rfl<|Wx ?_;exact aM 3
     refine Zak rfl ?_;exact aM 4
    ·refine Zh rfl<|Wbg ?_;exact aM 7
    refine aF<|Zaf rfl (fun hc3=>?_) fun hc3=>?_
    ·refine aP<|Za rfl<|Zr rfl aJ (.tail (.tail (.tail ζ))) rfl<|Zr rfl mS (.tail (.tail ζ)) rfl<|Zap<|Za6 ?_;exact fun a w hh=>jP (A:=[(_,_),(_,_),(_,_)]) (B:=[(bd,.deferred (some []))]) (some (if eS r t=true then(rO r t:Int)else 0),gM t) (aKB hΦ V htake hc3) rfl rfl a w (hh.dropBoxes 1)
    ·refine bJ<|Za6 ?_;exact fun a w hh=>jP (A:=[(_,_),(_,_),(_,_)]) (B:=[(bd,.deferred (some []))]) (o,gM t) (aUY hΦ V htake hc3) rfl rfl a w (hh.dropBoxes 1)
  ·rintro⟨o,last⟩ bd hΦ;have ho:o=oZ r (cG r.places):=by simpa [G6]using hΦ.1
   have O:bB r=0:=by omega
   refine Za6<|Za1<|bM<|Zp rfl a8 rfl Mm1 rfl<|Zau rfl<|aF<|Zaf rfl (fun I=>?_) fun I=>?_
   ·refine aA<|Zk rfl<|Wi ?_;exact A3 (vs:=[_,_]) (A:=[(_,_),(_,_),(_,_)]) rfl rfl rfl cR fun D hD=>by show Value.tuple _=_;rw[(SU ho O I).1,(SU ho O I).2]<;>rfl
   ·refine aQ<|aA<|Zp rfl aH rfl Mm2 rfl<|Zk rfl<|We ?_;exact A3 (vs:=[_,_]) (A:=[(_,_),(_,_),(_,_)]) rfl rfl rfl cR fun D hD=>by show Value.tuple _=_;rw[(SG ho O I).1,(SG ho O I).2]<;>rfl
end L1
structure HM(P:Program)(k:Θ){α:Type}[DecidableEq α](val:α→Γ):Prop where
 und:∃fs,P.underlying k=some (.struct fs)
 eq:∀a b w,(Op.equal k (val a) (val b)).run P w=.ok (decide (a=b)) w
 chk:∀em a w,(Instr.checkKey em 10000 k (val a)).run P w=.ok () w
 stay:∀a,Instr.sameBits 10000 (val a) (val a)=true
 agg:∀a,∃cs,val a=.agg cs
variable{α β:Type}[DecidableEq α]{val:α→Γ}{wal:β→Γ}
def Q8(val:α→Γ)(wal:β→Γ)(es:Array MapEntry)(M:List (α×β)):Prop:=es.toList.map (fun e=>(e.key,e.val))=M.map fun x=>(val x.1,wal x.2)
def L6(a:α):List (α×β)→Nat→Option (Nat×β)
 | [],_=>none
 |(b,n)::M,i=>if a=b then some (i,n)else L6 a M (i+1)
theorem Q4{a:α}:∀{M:List (α×β)} {i j:Nat} {n:β},L6 a M i=some (j,n)→∃k,j=i+k∧M[k]?= some (a,n)
 |(b,m)::M,i,j,n,h=>by
  simp only[L6]at h;split at h
  ·rename_i he;cases h;exact⟨0,rfl,by rw[he];rfl⟩
  ·obtain⟨k,rfl,hk⟩:=Q4 h;exact⟨k+1,Yd,Xaz⟩
theorem zD{k:Θ}(h:HM P k val)(a:α)(w:Δ):∀(es:List MapEntry) (M:List (α×β)) (i:Nat),es.map (fun e=>(e.key,e.val))=M.map (fun x=>(val x.1,wal x.2))→
  (Instr.findAsking k (val a) es i).run P w=.ok ((L6 a M i).map fun p=>(p.1,wal p.2)) w
 | [],[],i,_=>rfl
 | [],_::_,i,hm=>by simp at hm
 |e::es,[],i,hm=>by simp at hm
 |e::es,(b,n)::M,i,hm=>by
  simp only[bMD,bNI,bOU]at hm;obtain⟨⟨hk,hv⟩,hm⟩:=hm;simp only[Instr.findAsking,Ω,hk,h.eq,Ξ,L6];by_cases he:a=b
  ·subst he;simp only[decide_true,bNM,ε,hv];rfl
  ·simp only[he,decide_false,bMU,bNU];exact zD h a w es M (i+1) hm
theorem xK{k:Θ}(h:HM P k val)(a:α)(w:Δ){es:List MapEntry}{M:List (α×β)}(hm:es.map (fun e=>(e.key,e.val))=M.map fun x=>(val x.1,wal x.2)):
  (Instr.findKey k (val a) es).run P w=.ok ((L6 a M 0).map fun p=>(p.1,wal p.2)) w:=by
 obtain⟨fs,hu⟩:=h.und;unfold Instr.findKey;rw[Ω,TU.of hu w];cases es with
 |nil=>
  cases M with
  |nil=>rfl
  |cons x M=>simp at hm
 |cons e es=>
  have hn:Instr.findNow (.struct fs) (val a) (e::es) 0=none:=by
   obtain⟨cs,hc⟩:=h.agg a;rw[hc];rfl
  simp only[Ξ,hn];exact zD h a w (e::es) M 0 hm
theorem JT{t k e:Θ}{b clock:Nat}{es:Array MapEntry}{M:List (α×β)}{a:α}(ho:all[ix]?= some ⟨some d,.lookup t x y true,ty,pos,aft,g⟩)(ht:P.underlying t=some (.map k e))(hk:HM P k val){z0:Γ}(hz:TZ P e z0)
  (hx:ev σ x=some (.map (some b))) (hy:ev σ y=some (val a)) (hm:(b,Obj.map es clock)∈μ) (hb:b∉bad) (hM:Q8 val wal es M) (hN:Nat.blt d X.N=true) (hg:dH all σ g)
  (kk:∀n ok,(ok=true→∃r,n=wal r∧(a,r)∈M)→(ok=false→n=z0)→WL P X bad all K Q os ((d,.tuple #[n,.bool ok])::σ) μ Ds):WL P X bad all K Q ((fl,ix)::os) σ μ Ds:=by
 have run:∀w,w.heap[b]?= some (Obj.map es clock)→(Instr.lookup t (.map (some b)) (val a) true).run P w=.ok (.tuple #[(match L6 a M 0 with|some (_,v)=>wal v|none=>z0),.bool (L6 a M 0).isSome]) w:=by
  intro w hw;have hf:=xK hk a w hM;unfold Instr.lookup;simp only[Ω,TU.of ht w,Ξ,pO hw,ε,hk.chk];rw[hf];cases L6 a M 0 with
  |none=>simp only[bNQ,Ξ,Ω,hz w,ε];rfl
  |some r=>obtain⟨j,v⟩:=r;simp only[bMS,Ξ];rfl
 refine pD ho rfl rfl hN hg (fun a' w hh w' hk'=>?_) (kk (match L6 a M 0 with|some (_,v)=>wal v|none=>z0) (L6 a M 0).isSome (fun hok=>?_) fun hok=>?_)
 ·simp only[execOp,hh.eval hx,hh.eval hy,Ω,run w' (hh.boxAt hm hb hk'),Ξ,ε]
 ·cases hp:L6 a M 0 with
  |none=>rw[hp]at hok;cases hok
  |some r=>
   obtain⟨j,n⟩:=r;obtain⟨i,_,hi⟩:=Q4 hp;exact⟨n,rfl,GT hi⟩
 ·cases hp:L6 a M 0 with
  |none=>rfl
  |some r=>rw[hp]at hok;cases hok
theorem x7{t k e:Θ}{b clock:Nat}{es:Array MapEntry}{M:List (α×β)}{a:α}{n:β}{A B:aD}(ho:all[ix]?= some ⟨none,.mapUpdate t x y z,ty,pos,aft,g⟩)(ht:P.underlying t=some (.map k e))(hk:HM P k val)
  (hx:ev σ x=some (.map (some b))) (hy:ev σ y=some (val a)) (hz:ev σ z=some (wal n)) (hM:Q8 val wal es M) (hg:dH all σ g)
  (kk:∀es' clock' M',Q8 val wal es' M'→(∀p∈M',p∈M∨p=(a,n))→WL P X bad all K Q os σ (A++(b,.map es' clock')::B) Ds):WL P X bad all K Q ((false,ix)::os) σ (A++(b,.map es clock)::B) Ds:=by
 refine fG ho rfl rfl hg fun a' w hh=>?_
 obtain⟨h1,h2,h3,D,h4,h5,O⟩:=id hh;have hw:=(h4.box (b,.map es clock) Ye).1;have run:∃es' clock' M',Q8 val wal es' M'∧(∀p∈M',p∈M∨p=(a,n))∧(Instr.mapUpdate t (.map (some b)) (val a) (wal n)).run P w=.ok () {w with heap:=w.heap.setIfInBounds b (.map es' clock')}:=by
  have hf:=xK hk a w hM;have hset:∀o,(setObj b o).run P w=.ok () {w with heap:=w.heap.setIfInBounds b o}:=fun o=>by simp[setObj,Sem.run,hw]
  cases hp:L6 a M 0 with
  |none=>
   refine⟨es.push {key:=val a,val:=wal n,born:=clock},clock+1,M++[(a,n)],?_,fun p hp=>by simpa using hp,?_⟩
   ·unfold Q8 at hM ⊢
    rw[Array.toList_push,bLO,bLO,hM];rfl
   ·unfold Instr.mapUpdate;simp only[Ω,TU.of ht w,Ξ,pO hw,hk.chk];rw[hf,hp];simp only[bNQ,Ξ,hset]
  |some r=>
   obtain⟨j,m⟩:=r;obtain⟨i,I,hi⟩:=Q4 hp;rw[bOH]at I;subst I
   have hMi:∀i,(es.toList[i]?).map (fun e:MapEntry=>(e.key,e.val))=(M[i]?).map (fun x:α×β=>(val x.1,wal x.2)):=fun i=>by rw[←bMI,←bMI,hM]
   have hj:=hMi j;rw[hi]at hj;obtain⟨e0,he0,hke⟩:=bOG.1 hj;simp only[bOU]at hke;have he0':es[j]?= some e0:=by simpa using he0
   refine⟨es.modify j fun e=>{e with key:=val a,val:=wal n},clock,M.set j (a,n),?_,fun p hp=>(List.mem_or_eq_of_mem_set hp),?_⟩
   ·unfold Q8;apply List.ext_getElem?;intro q;rw[bMI,bMI,Array.getElem?_toList,Array.getElem?_modify,List.getElem?_set];have hq:=hMi q;rw[Array.getElem?_toList]at hq;by_cases hjq:j=q
    ·subst hjq;have hlt:=(bLD.1 hi).1;simp[he0',hlt]
    ·simp only[hjq,bNU];exact hq
   ·have hks:(Instr.keyThatStays (val a) (val a)).run P w=.ok (val a) w:=by
     have:Instr.sameBits 10000 (val a) (val a)=true:=hk.stay a;unfold Instr.keyThatStays;rw[bLR this,ε]
    unfold Instr.mapUpdate;simp only[Ω,TU.of ht w,Ξ,pO hw,hk.chk];rw[hf,hp];simp only[bMS,Ξ,he0',bOQ,hke.1,Ω,hks,hset]
 obtain⟨es',clock',M',hM',hmem,hr⟩:=run;have hHas:bO (A++(b,Obj.map es clock)::B) b (.map es clock) (.map es' clock') (A++(b,.map es' clock')::B):=.app .head;have hs:=h4.set (w':={w with heap:=w.heap.setIfInBounds b (.map es' clock')}) hHas ⟨rfl,rfl⟩ trivial;have:(execOp a'.eval ⟨none,.mapUpdate t x y z,ty,pos,aft,g⟩).run P w=.ok .skip {w with heap:=w.heap.setIfInBounds b (.map es' clock')}:=by
  simp only[execOp,hh.eval hx,hh.eval hy,hh.eval hz,Ω,hr,Ξ,ε]
 rw[this];exact⟨fun h=>Xad,kk es' clock' M' hM' hmem _ _ ⟨h1,h2,h3,D,hs,h5,O.step (fun _ p hp=>bLL Ys) (fun _=>lX ⟨rfl,rfl⟩ (bKX.2 ⟨_,hHas.mem,rfl⟩)) hs.dom⟩⟩

def K4(val:α→Γ)(es:Array MapEntry)(M:List (α×Int)):Prop:=Q8 val (Value.int .i64) es M
theorem aHP{t k e:Θ}{b clock:Nat}{es:Array MapEntry}{M:List (α×Int)}{a:α}(ho:all[ix]?= some ⟨some d,.lookup t x y true,ty,pos,aft,g⟩)(ht:P.underlying t=some (.map k e))(hk:HM P k val)(hz:TZ P e (qI 0))
  (hx:ev σ x=some (.map (some b))) (hy:ev σ y=some (val a)) (hm:(b,Obj.map es clock)∈μ) (hb:b∉bad) (hM:K4 val es M) (hN:Nat.blt d X.N=true) (hg:dH all σ g)
  (kk:∀n ok,(ok=true→(a,n)∈M)→WL P X bad all K Q os ((d,.tuple #[qI n,.bool ok])::σ) μ Ds):WL P X bad all K Q ((fl,ix)::os) σ μ Ds:=
 JT (wal:=Value.int .i64) ho ht hk hz hx hy hm hb hM hN hg fun n ok h1 h2=>by
  cases ok with
  |true=>obtain⟨r,rfl,hr⟩:=h1 rfl;exact kk r true fun _=>hr
  |false=>rw[h2 rfl];exact kk 0 false fun h=>by cases h
theorem aJD{t k e:Θ}{b clock:Nat}{es:Array MapEntry}{M:List (α×Int)}{a:α}{n:Int}{A B:aD}(ho:all[ix]?= some ⟨none,.mapUpdate t x y z,ty,pos,aft,g⟩)(ht:P.underlying t=some (.map k e))(hk:HM P k val)
  (hx:ev σ x=some (.map (some b))) (hy:ev σ y=some (val a)) (hz:ev σ z=some (qI n)) (hM:K4 val es M) (hg:dH all σ g)
  (kk:∀es' clock' M',K4 val es' M'→(∀p∈M',p∈M∨p=(a,n))→WL P X bad all K Q os σ (A++(b,.map es' clock')::B) Ds):WL P X bad all K Q ((false,ix)::os) σ (A++(b,.map es clock)::B) Ds:=
 x7 (wal:=Value.int .i64) ho ht hk hx hy hz hM hg kk

structure xS(n:Nat) where
 l:List Int
 h:l.length=n
deriving DecidableEq
def AD{n:Nat}(a:xS n):Γ:=.agg (ints a.l).toArray
def KA(P:Program)(k:Θ)(n:Nat):Prop:=∃f0 f1 e,P.underlying k=some (.struct (P.fieldsOf k))∧P.stoodInHeld k=false∧P.fieldsOf k=#[f0,f1]∧f0.name≠ "_" ∧f1.name≠ "_" ∧f0.offset=0∧f1.offset=1∧
 P.underlying f0.type=some (.int .i64)∧P.underlying f1.type=some (.array n e)∧P.underlying e=some (.int .i64)∧P.cellsOf e=1∧TA P f1.type true∧TS P f1.type n∧TS P e 1
theorem aOG{t:Θ}{n:Nat}(ha:TA P t true)(hs:TS P t n){l:List Int}(hl:l.length=n+1)(w:Δ):(part t (ints l).toArray 1).run P w=.ok (.agg (ints (l.drop 1)).toArray) w:=by
 unfold part;simp only[Ω,ha w,Ξ,bNM,hs w,ε];congr 2;apply Array.ext';simp only[Array.toList_extract,List.extract_eq_take_drop,ints,List.map_drop];rw[bLZ Yaq]
theorem KA.key{k:Θ}{n:Nat}(h:KA P k n):HM P k (AD (n:=n+1)):=by
 obtain⟨f0,f1,e,hu,hst,hf,n0,n1,o0,o1,t0,t1,te,hc,ha,hs,hse⟩:=h;have hsplit:∀a:xS (n+1),∃x r,a.l=x::r∧r.length=n:=by
  rintro⟨l,hl⟩;cases l with
  |nil=>simp at hl
  |cons x r=>exact⟨x,r,rfl,Yay⟩
 have p0:∀(x:Int) (r:List Int) (w:Δ),(part f0.type (ints (x::r)).toArray f0.offset).run P w=.ok (qI x) w:=fun x r w=>dL t0 (by rw[o0];rfl) w
 have p1:∀(x:Int) (r:List Int) (w:Δ),r.length=n→(part f1.type (ints (x::r)).toArray f1.offset).run P w=.ok (.agg (ints r).toArray) w:=fun x r w hr=>by
  rw[o1];exact aOG ha hs (l:=x::r) (by simp[hr]) w
 refine⟨⟨_,hu⟩,fun a b w=>?_,fun em a w=>?_,fun a=>?_,fun a=>⟨_,rfl⟩⟩
 ·obtain⟨x,r,ea,hr⟩:=hsplit a;obtain⟨x',r',eb,hr'⟩:=hsplit b;have he:=run_equalIn_struct (P:=P) w 9999 k (ints (x::r)).toArray (ints (x'::r')).toArray hu hst;have hab:decide (a=b)=((x==x')&&(r==r')):=by
   rw[bOC];simp only[LT,bKW,bPX];constructor
   ·rintro rfl;rw[ea]at eb;exact List.cons.inj eb
   ·rintro⟨h1,h2⟩;obtain⟨la,ha'⟩:=a;obtain⟨lb,hb'⟩:=b;simp only at ea eb;subst ea eb h1 h2;rfl
  show(Op.equalIn (9999+1) k (.agg (ints a.l).toArray) (.agg (ints b.l).toArray)).run P w=_;rw[ea,eb,he,hf,hab];have e0:=run_equalIn_int w 9998 f0.type .i64 .i64 x x' t0;obtain⟨inf,hinf⟩:=info_of_underlying te;have I:=run_equalIn_array (P:=P) w 9998 (ints r).toArray (ints r').toArray t1 hinf;rw[hc,nR 9997 te r r' w (List.range n) fun j hj=>by have:=bMZ.1 hj;omega,zY hr hr']at I
  have O:(Op.eqFields 9999 (ints (x::r)).toArray (ints (x'::r')).toArray [f1]).run P w=.ok (r==r') w:=by
   simp only[Op.eqFields,n1,ne_eq,bPU,bNM,Ω,p1 _ _ _ hr,p1 _ _ _ hr',Ξ];rw[I];simp only[Ξ];cases r==r'<;>rfl
  show(Op.eqFields 9999 (ints (x::r)).toArray (ints (x'::r')).toArray (f0::[f1])).run P w=_;rw[Op.eqFields,bLR n0];simp only[Ω,p0,Ξ];rw[e0];simp only[Ξ];cases hx:x==x' with
  |true=>
   simp only[Bool.not_true,bMU,bNU,bPE];rw[O]
  |false=>simp only[Bool.not_false,bNM,ε,Bool.false_and]
 ·obtain⟨x,r,ea,hr⟩:=hsplit a;have c0:(Instr.checkKey em (9998+1) f0.type (qI x)).run P w=.ok () w:=by
   rw[Instr.checkKey,Ω,TU.of t0 w];rfl
  have ce:∀m:Int,(Instr.checkKey em (9997+1) e (qI m)).run P w=.ok () w:=fun m=>by
   rw[Instr.checkKey,Ω,TU.of te w];rfl
  have c1:(Instr.checkKey em (9998+1) f1.type (.agg (ints r).toArray)).run P w=.ok () w:=by
   rw[Instr.checkKey,Ω,TU.of t1 w];simp only[Ξ];rw[Std.Legacy.Range.forIn_eq_forIn_range'];have key:∀(is:List Nat),(∀i∈is,i<n)→((forIn is PUnit.unit fun i _=>do Instr.checkKey em 9998 e (←part e (ints r).toArray (i*(←sizeOf e)));Pure.pure (ForInStep.yield PUnit.unit):Sem PUnit)).run P w=.ok PUnit.unit w:=by
    intro is;induction is with
    |nil=>intro _;rfl
    |cons i is ih=>
     intro hi;have hlt:=hi i bKZ;have g1:(ints r).toArray[i*1]?= some (qI r[i]):=by rw[bNL];simpa using cN (bLB (show i<r.length by omega))
     rw[List.forIn_cons];simp only[Ω,hse w,Ξ,dL te g1];rw[ce];simp only[Ξ,ε];exact ih fun j hj=>hi j (bKY _ hj)
   have:=key (List.range' 0 n) fun i hi=>Yau;simpa using this
  show(Instr.checkKey em (9999+1) k (.agg (ints a.l).toArray)).run P w=_;rw[ea,Instr.checkKey,Ω,TU.of hu w];simp only[Ξ];rw[hf,←Array.forIn_toList];simp only[List.forIn_cons,List.forIn_nil,n0,n1,ne_eq,bPU,bNM,Ω,p0,Ξ,ε];rw[c0];simp only[Ξ,ε,Ω,p1 _ _ _ hr];rw[c1];simp
 ·show Instr.sameBits (9999+1) (.agg (ints a.l).toArray) (.agg (ints a.l).toArray)=true;simp only[Instr.sameBits,beq_self_eq_true,bPE,bLX];rintro⟨p,q⟩ hpq;obtain⟨i,hi⟩:=bOX.1 hpq;rw[bQG]at hi;obtain⟨h1,h2⟩:=hi;simp only at h1 h2;rw[h1]at h2;obtain rfl:=bLY h2;have:p∈ints a.l:=GT Xae;obtain⟨m,_,rfl⟩:=bKX.1 this;simp[Instr.sameBits]
structure lK(P:Program)(f:Field)(o n:Nat):Prop where
 name:f.name≠ "_"
 eqp:∀(l m:List Int) w,o+n≤l.length→o+n≤m.length→∃u v,(part f.type (ints l).toArray f.offset).run P w=.ok u w∧(part f.type (ints m).toArray f.offset).run P w=.ok v w∧(Op.equalIn 9999 f.type u v).run P w=.ok ((l.drop o).take n==(m.drop o).take n) w
inductive DO(P:Program):Nat→Nat→List Field→Prop
 |nil {o}:DO P o o []
 |cons {o n e f fs} (h:lK P f o n) (r:DO P (o+n) e fs):DO P o e (f::fs)
theorem DO.le{o e:Nat}{fs:List Field}(h:DO P o e fs):o≤e:=by
 induction h with
 |nil=>exact bLQ _
 |cons _ _ ih=>omega
theorem HU(l m:List Int)(o n:Nat):(l.drop o==m.drop o)=(((l.drop o).take n==(m.drop o).take n)&&(l.drop (o+n)==m.drop (o+n))):=by
 rw[bOC];simp only[bPX,bKW];constructor
 ·intro h;exact⟨by rw[h],by rw[←List.drop_drop,←List.drop_drop,h]⟩
 ·rintro⟨h1,h2⟩;rw[←bOJ n (l.drop o),←bOJ n (m.drop o),h1,List.drop_drop,List.drop_drop,h2]
theorem PL(l m:List Int)(w:Δ){o e:Nat}{fs:List Field}(h:DO P o e fs)(hl:l.length=e)(hm:m.length=e):(Op.eqFields 9999 (ints l).toArray (ints m).toArray fs).run P w=.ok (l.drop o==m.drop o) w:=by
 induction h with
 |nil=>
  rw[bMQ Yd,bMQ Yd];rfl
 | @cons o n e f fs h r ih=>
  have hle:=r.le;obtain⟨u,v,h1,h2,h3⟩:=h.eqp l m w Yd Yd;rw[Op.eqFields,bLR h.name];simp only[Ω,h1,h2,Ξ];rw[h3,HU l m o n];simp only[Ξ];cases hx:(l.drop o).take n==(m.drop o).take n with
  |true=>
   simp only[Bool.not_true,bMU,bNU,bPE];exact ih hl hm
  |false=>simp only[Bool.not_false,bNM,ε,Bool.false_and]
theorem lK.int{f:Field}{o:Nat}(hn:f.name≠ "_")(ho:f.offset=o)(ht:P.underlying f.type=some (.int .i64)):lK P f o 1:=by
 refine⟨hn,fun l m w hl hm=>?_⟩;have h1:l[o]?= some (l[o]'Yd):=bLB _;have h2:m[o]?= some (m[o]'Yd):=bLB _;refine⟨qI l[o],qI m[o],dL ht (by rw[ho];simpa using cN h1) w,dL ht (by rw[ho];simpa using cN h2) w,?_⟩
 rw[run_equalIn_int w 9998 f.type .i64 .i64 _ _ ht];congr 1;have t1:(l.drop o).take 1=[l[o]]:=by rw[bMM (show o<l.length by omega)];rfl
 have t2:(m.drop o).take 1=[m[o]]:=by rw[bMM (show o<m.length by omega)];rfl
 rw[t1,t2];simp
theorem uR{t:Θ}{n o:Nat}(ha:TA P t true)(hs:TS P t n){l:List Int}(_hl:o+n≤l.length)(w:Δ):(part t (ints l).toArray o).run P w=.ok (.agg (ints ((l.drop o).take n)).toArray) w:=by
 unfold part;simp only[Ω,ha w,Ξ,bNM,hs w,ε];congr 2;apply Array.ext';simp only[Array.toList_extract,List.extract_eq_take_drop,ints,List.map_drop,List.map_take];congr 1;omega
theorem lK.arr{f:Field}{o n:Nat}{e:Θ}(hn:f.name≠ "_")(ho:f.offset=o)(ht:P.underlying f.type=some (.array n e))(he:P.underlying e=some (.int .i64))(hc:P.cellsOf e=1)(ha:TA P f.type true)(hs:TS P f.type n):lK P f o n:=by
 refine⟨hn,fun l m w hl hm=>⟨_,_,by rw[ho];exact uR ha hs hl w,by rw[ho];exact uR ha hs hm w,?_⟩⟩;obtain⟨i,hi⟩:=info_of_underlying he;have h:=run_equalIn_array (P:=P) w 9998 (ints ((l.drop o).take n)).toArray (ints ((m.drop o).take n)).toArray ht hi;have I:((l.drop o).take n).length=n:=by rw[bMV,bOI];omega
 have O:((m.drop o).take n).length=n:=by rw[bMV,bOI];omega
 rw[hc,nR 9997 he _ _ w (List.range n) fun j hj=>by have:=bMZ.1 hj;omega,zY I O]at h;exact h
def KS(P:Program)(t:Θ)(n:Nat):Prop:=P.underlying t=some (.struct (P.fieldsOf t))∧P.stoodInHeld t=false∧P.eqGuardType P.depth t=false∧DO P 0 n (P.fieldsOf t).toList
theorem AQ{t:Θ}{n:Nat}(h:KS P t n){l m:List Int}(hl:l.length=n)(hm:m.length=n)(w:Δ):(Op.equal t (.agg (ints l).toArray) (.agg (ints m).toArray)).run P w=.ok (l==m) w:=by
 have he:=run_equalIn_struct (P:=P) w 9999 t (ints l).toArray (ints m).toArray h.1 h.2.1;show(Op.equalIn (9999+1) t (.agg (ints l).toArray) (.agg (ints m).toArray)).run P w=_;rw[he,PL l m w h.2.2.2 hl hm];simp
theorem T6{t t':Θ}{n:Nat}{l m:List Int}(ho:all[ix]?= some ⟨some d,.binOp .neq t x y t',ty,pos,aft,g⟩)(ht:KS P t n)(hl:l.length=n)(hm:m.length=n)(hx:ev σ x=some (.agg (ints l).toArray))(hy:ev σ y=some (.agg (ints m).toArray))(hN:Nat.blt d X.N=true)(hg:dH all σ g)
  (kk:WL P X bad all K Q os ((d,.bool (!(l==m)))::σ) μ Ds):WL P X bad all K Q ((fl,ix)::os) σ μ Ds:=
 PC ho (fun w=>by
  have hgd:(eqGuard .neq t x y (.agg (ints l).toArray) (.agg (ints m).toArray)).run P w=.ok () w:=by
   simp only[eqGuard,program];simp[Sem.run,ht.2.2.1,go_sem]
  rw[Ω,hgd];show((do Pure.pure (Value.bool (!(←Op.equal t (.agg (ints l).toArray) (.agg (ints m).toArray))))):Sem Γ).run P w=_;rw[Ω,AQ ht hl hm];rfl) hx hy hN hg kk
namespace L2
open L1
open C2
open C1 (gZ bT tN rK)
theorem uK{r:Int×Int}(h:jJ r=true):0≤r.1∧r.1≤r.2∧r.2≤99:=by
 unfold jJ fI at h;simp only[bKW,LT,bT]at h;omega
theorem fC(n lo hi:Int)(D:aC):Fn prog 181 #[qI n,qI lo,qI hi] D (fun _ v=>v=.bool (gZ n lo hi)):=by
 refine Zx 15 func181 rfl fun h0=>Wai ?_;refine' bW 4 (s:=10) (p:=14) rfl (fun I=>?_) (fun I=>?_) ?_;rotate_left
 ·refine Wbj ?_;exact aM 3
 ·refine Wb ?_;exact aM 3
 refine We ?_;exact aE rfl fun D hD=>rfl
theorem P0(n:Int)(D:aC):Fn prog 254 #[iV n] D (fun _ v=>v=.bool (fI n)):=by
 refine Zx 5 func254 rfl fun h0=>aA<|Zk rfl<|aL<|Za rfl<|Zf rfl (fun O I=>fC _ _ _ _)<|We ?_;exact aE rfl fun D hD=>rfl
theorem nH(sv:Γ)(x:Int)(xs:List Int)(D:aC)(hS:Sl D RI 1 sv (x::xs)):
  Fn prog 257 #[sv] D (fun _ v=>v=qI (xs.foldl min x)):=by
 refine Zx 5 func257 rfl fun h0=>aA<|Zk rfl<|aL<|Za rfl<|Zf rfl (fun O I=>L1.GC _ x xs _ (Sl.at RI.up I Yn Ye))<|We ?_;exact aE rfl fun D hD=>rfl
theorem CU(r:Int×Int)(D:aC):Fn prog 253 #[mH r] D (fun _ v=>v=.bool (jJ r)):=by
 refine Zx 18 func253 rfl fun h0=>aA<|Zab rfl fun Z E1 U I=>Zk rfl<|aL<|Zi rfl vH rfl<|Zd 0 rfl aH rfl I rfl<|Zi rfl zP rfl<|Zd 1 rfl aH rfl I rfl<|iD rfl rfl rfl rfl bQK<|Za rfl ?_;refine' bW 4 (s:=8) (p:=12) rfl (fun O=>?_) (fun O=>?_) ?_;rotate_left
 ·refine Zj rfl vH rfl<|Ze 0 rfl aH rfl I rfl<|Zg rfl (fun D1 V=>P0 _ _)<|Zak rfl ?_;exact aM 3
 ·refine Wb ?_;exact aM 3
 refine Za rfl ?_;refine' bW 4 (s:=13) (p:=17) rfl (fun R=>?_) (fun R=>?_) ?_;rotate_left
 ·refine Zj rfl zP rfl<|Ze 1 rfl aH rfl I rfl<|Zg rfl (fun D2 Y=>P0 _ _)<|Zak rfl ?_;exact aM 3
 ·refine Wb ?_;exact aM 3
 refine We ?_;exact aE rfl fun D hD=>rfl
theorem aCM(r:Int×Int)(h:jJ r=true)(D:aC):Fn prog 258 #[mH r] D (fun _ v=>v=qI (fJ r)):=by
 have hb:=uK h;refine Zx 9 func258 rfl fun h0=>aA<|Zab rfl fun R E1 O I=>Zk rfl<|aL<|Zi rfl zP rfl<|Zd 1 rfl aH rfl I rfl<|Zi rfl vH rfl<|Zd 0 rfl aH rfl I rfl<|Zaz rfl<|Zah rfl<|Zk rfl ?_;refine aG ?_;exact aE rfl fun D hD=>rfl
theorem CW(r:Int×Int)(n:Int)(D:aC):Fn prog 262 #[mH r,qI n] D (fun _ v=>v=.bool (gZ n r.1 r.2)):=by
 refine Zx 11 func262 rfl fun h0=>aA<|Zab rfl fun U E1 O I=>Zk rfl<|aL<|Za rfl<|Zi rfl vH rfl<|Zd 0 rfl aH rfl I rfl<|Zi rfl zP rfl<|Zd 1 rfl aH rfl I rfl<|Zf rfl (fun V R=>fC _ _ _ _)<|Zk rfl ?_;refine aG ?_;exact aE rfl fun D hD=>rfl
theorem vZ(r:Int×Int)(n:Int)(D:aC):Fn prog 183 #[mH r,qI n] D (fun _ v=>v=mH (min r.1 n,max r.2 n)):=by
 refine Zx 15 func183 rfl fun h0=>aA<|Zab rfl fun q1 E1 hB R=>Zad rfl iG rfl fun q2=>bS<|iZ [] 4 [0,1,2,5,6,7,8,3,4,9,10] [false,false,true,true,true,true,true,true,true,false,false] [(false,0),(false,1),(true,2),(true,5),(true,6),(true,7),(true,8),(true,3),(true,4),(false,9),(false,10)] bC (fun _ _ _ h=>eZ (P:=prog) (fn:=f183) _ _ _ h) Yg rfl<|Zi rfl vH rfl<|Zd 0 rfl aH rfl R rfl<|Za rfl<|Zi rfl zP rfl<|Zd 1 rfl aH rfl R rfl<|Za rfl ?_;refine qF rfl rfl rfl rfl bQK<|Zu rfl U25 aJ cK rfl (.cons rfl rfl (.cons rfl rfl .nil)) fun Y Z U I=>?_;have O:=Sl.ofInts (l:=[_,_]) (n:=2) (cap:=2) I rfl Yd Yd;refine Zf rfl (fun D1 V=>nH _ r.1 [n] _ (O.up RI.up (V _ Ye)))<|Zt [qI (min r.1 n),qI (max r.2 n)] rfl K9 iG rfl<|Zy rfl cJ ζ<|aG ?_;exact Zo [_] rfl ⟨⟨_,_,_,rfl,Mm0,Or.inr ⟨lL,Xbp,rfl⟩⟩,bQK⟩ fun D hD=>rfl
theorem aDU(tv:Γ)(t:aW)(n:Int)(D:aC)(ht:fA D tv t):Fn prog 217 #[tv,qI n] D (fun _ v=>v=.bool (GQ t.last n)):=by
 have ht0:=ht;obtain⟨hv,lv,mv,rfl,hh,hl,hm⟩:=ht;have hll:=hl.len;refine Zx 9 func217 rfl fun h0=>aA<|Zab rfl fun U E1 O I=>Zk rfl<|aL<|Za rfl<|Zi rfl lQ rfl<|Zd 0 rfl aH rfl I rfl<|Zf rfl (fun V R=>fC _ _ _ _)<|We ?_;exact aE rfl fun D hD=>rfl
theorem bFK(tv:Γ)(t:aW)(n:Int)(D:aC)(ht:fA D tv t):Fn prog 91 #[tv,qI n] D (fun _ v=>v=.bool (gZ n 0 ((t.levels.length:Int)-1))):=by
 have ht0:=ht;obtain⟨hv,lv,mv,rfl,hh,hl,hm⟩:=ht;have hll:=hl.len;refine Zx 11 func91 rfl fun h0=>aA<|Zab rfl fun U E1 O I=>Zk rfl<|aL<|Za rfl<|Zi rfl kL rfl<|Zd 3 rfl bX rfl I rfl<|dD rfl U25 rfl Yn rfl rfl bQK<|Zaz rfl<|Zf rfl (fun V R=>fC _ _ _ _)<|Zk rfl ?_;refine aG ?_;exact aE rfl fun D hD=>rfl
theorem QW(tv:Γ)(t:aW)(a b:Int)(D:aC)(ht:fA D tv t):Fn prog 136 #[tv,qI a,qI b] D (fun _ v=>v=.bool (tE t.last a b)):=by
 have ht0:=ht;obtain⟨hv,lv,mv,rfl,hh,hl,hm⟩:=ht;have hll:=hl.len;refine Zx 20 func136 rfl fun h0=>aA<|Zab rfl fun Z E1 Y I=>Zk rfl<|aL<|Zv rfl iS rfl I fS<|Za rfl<|Zf rfl (fun D1 O=>aDU _ t _ _ (ht0.up (O _ Ye)))<|Za rfl ?_;refine' bW 4 (s:=10) (p:=14) rfl (fun R=>?_) (fun R=>?_) ?_;rotate_left
 ·refine dG rfl iS rfl I Yc fS n4 rfl ⟨_,rfl,rfl⟩<|Zb rfl<|Zg rfl (fun D2 U=>aDU _ t _ _ (ht0.up (U _ Ye)))<|Zak rfl ?_;exact aM 3
 ·refine Wb ?_;exact aM 3
 refine Za rfl ?_;refine' bW 4 (s:=15) (p:=19) rfl (fun V=>?_) (fun V=>?_) ?_;rotate_left
 ·refine Wbj ?_;exact aM 3
 ·refine Wb ?_;exact aM 3
 refine We ?_;exact aE rfl fun D hD=>rfl
theorem aXU(tv:Γ)(t:aW)(m:Mk)(D:aC)(ht:fA D tv t):Fn prog 251 #[tv,bHT m] D (fun _ v=>v=.bool (xA t.last m)):=by
 have ht0:=ht;obtain⟨hv,lv,mv,rfl,hh,hl,hm⟩:=ht;refine Zx 16 func251 rfl fun h0=>aA<|Zab rfl fun q1 E1 V O=>Zab rfl fun q2 E2 Y I=>Zk rfl<|aL<|Zv rfl iS rfl O fS<|Zi rfl JZ rfl<|Zd 0 rfl aH rfl I rfl<|Zi rfl KK rfl<|Zd 1 rfl aH rfl I rfl<|Zf rfl (fun D1 R=>QW _ t _ _ _ (ht0.up (R _ Ye))) ?_;refine Za rfl ?_;refine' bW 4 (s:=11) (p:=15) rfl (fun U=>?_) (fun U=>?_) ?_;rotate_left
 ·refine Zj rfl LF rfl<|jW rfl (k:=2) lL cJ rfl I Yc rfl rfl n4 rfl ⟨_,rfl,rfl⟩<|Zg rfl (fun D2 Z=>CU (m.lo,m.hi) _)<|Zak rfl ?_;exact aM 3
 ·refine Wb ?_;exact aM 3
 refine We ?_;exact aE rfl fun D hD=>rfl
theorem xU(sv fv:Γ)(xs:List (Int×Int))(p:(Int×Int)→Bool)(D:aC)(hS:Sl D W5 2 sv xs)(hp:dE prog D mH fv p):
  Fn prog 370 #[sv,fv] D (fun _ v=>v=qI (idxOf p xs)):=by
 have hl:=hS.len;obtain⟨f,c1,c2,rfl,hf⟩:=hp;refine Zx 19 func370 rfl fun h0=>aA<|Zk rfl<|bK<|Za rfl<|dD rfl U29 rfl Yn rfl rfl bQK<|Wf ?_;rintro k ⟨h1,h2⟩;refine aA<|Zan rfl<|bS<|Zag rfl (fun hc1=>?_) fun hc1=>?_
 ·have hk:k<xs.length:=by omega
  obtain⟨x,hx⟩:=cB xs k;refine aQ<|Za5<|Za3<|aA<|Za rfl<|Zk rfl<|aL<|Za rfl<|Za rfl<|Za rfl<|dX rfl U29 cJ rfl Yn rfl Yd Yn rfl bQK fun Y o1 I O V R=>?_;obtain rfl:I=[qI _,qI _]:=O;refine Zv rfl lL rfl R cJ<|Zf rfl (fun Z U=>hf x _ (U _ Ye))<|aF<|Zaf rfl (fun hc2=>?_) fun hc2=>?_
  ·refine Wbi ?_;exact aE rfl fun D hD=>Xbk
  ·refine Wcf ?_;have hpx:p x=false:=hc2;have h3:(xs.take (k+1)).any p=false:=by rw[bLA,hx,bOP,h2];simp[hpx]
   exact aI 12 (k+1) ⟨Yd,h3⟩ Yd ⟨Ya,bQK⟩ rfl rfl Mm5 (aK)
 ·refine Wj ?_;exact aE rfl fun D hD=>Xbl
theorem sE(sv fv:Γ)(xs:List (Int×Int))(p:(Int×Int)→Bool)(D:aC)(hS:Sl D W5 2 sv xs)(hp:dE prog D mH fv p):
  Fn prog 331 #[sv,fv] D (fun _ v=>v=.bool (xs.any p)):=by
 refine Zx 9 func331 rfl fun h0=>aA<|Zk rfl<|aL<|Za rfl<|Za rfl<|Zf rfl (fun O I=>xU _ _ xs p _ (Sl.at W5.up I Yn Ye) (hp.up (I _ Ye)))<|Wac ?_;exact aE rfl fun D hD=>Xbm
theorem EK(b:Nat)(fv:Γ)(p:(Int×Int)→Bool)(x:(Int×Int))(D:aC)(hp:dE prog D mH fv p)(hB:At D b 0 [fv]):
  Fn prog 332 #[mH x,qP b] D (fun _ v=>v=.bool (!p x)):=by
 obtain⟨f,c1,c2,rfl,hf⟩:=hp;refine Zx 8 func332 rfl fun h0=>aA<|Zab rfl fun U E1 R I=>Zk rfl<|aL<|Zd 0 rfl bCY rfl hB rfl<|Zv rfl lL rfl I cJ<|Wab ?_;exact aE rfl fun D hD=>rfl
theorem PW(sv fv:Γ)(xs:List (Int×Int))(p:(Int×Int)→Bool)(D:aC)(hS:Sl D W5 2 sv xs)(hp:dE prog D mH fv p)(h1:fv.cells=#[fv]):
  Fn prog 252 #[sv,fv] D (fun _ v=>v=.bool (xs.all p)):=by
 refine Zx 9 func252 rfl fun h0=>aA<|tO (vs:=[fv]) rfl rfl h1 rfl bQK fun b O I hB=>Zk rfl<|aL<|Za rfl<|Za0 rfl<|Zf rfl (fun O I=>sE _ _ xs (fun x=> !p x) _ (Sl.at W5.up I Yn Ye) ⟨_,[],[qP b],rfl,fun x R hl=>EK b fv p x R (hp.up ((I _ Ye).trans hl)) (hB.up ((I _ Ye).trans hl))⟩)<|Zau rfl<|We ?_;exact aE rfl fun D hD=>Xbq
theorem HI(sv fv:Γ)(xs:List Mk)(p:Mk→Bool)(D:aC)(hS:Sl D HB 4 sv xs)(hp:dE prog D bHT fv p):
  Fn prog 371 #[sv,fv] D (fun _ v=>v=qI (idxOf p xs)):=by
 have hl:=hS.len;obtain⟨f,c1,c2,rfl,hf⟩:=hp;refine Zx 19 func371 rfl fun h0=>aA<|Zk rfl<|bK<|Za rfl<|dD rfl U30 rfl Yn rfl rfl bQK<|Wf ?_;rintro k ⟨h1,h2⟩;refine aA<|Zan rfl<|bS<|Zag rfl (fun hc1=>?_) fun hc1=>?_
 ·have hk:k<xs.length:=by omega
  obtain⟨x,hx⟩:=cB xs k;refine aQ<|Za5<|Za3<|aA<|Za rfl<|Zk rfl<|aL<|Za rfl<|Za rfl<|Za rfl<|dX rfl U30 gW rfl Yn rfl Yd Yn rfl bQK fun Y o1 I O V R=>?_;obtain rfl:I=[qI _,qI _,qI _,qI _]:=O;refine Zv rfl X0 rfl R gW<|Zf rfl (fun Z U=>hf x _ (U _ Ye))<|aF<|Zaf rfl (fun hc2=>?_) fun hc2=>?_
  ·refine Wbi ?_;exact aE rfl fun D hD=>Xbk
  ·refine Wcf ?_;have hpx:p x=false:=hc2;have h3:(xs.take (k+1)).any p=false:=by rw[bLA,hx,bOP,h2];simp[hpx]
   exact aI 12 (k+1) ⟨Yd,h3⟩ Yd ⟨Ya,bQK⟩ rfl rfl Mm5 (aK)
 ·refine Wj ?_;exact aE rfl fun D hD=>Xbl
theorem x9(sv fv:Γ)(xs:List Mk)(p:Mk→Bool)(D:aC)(hS:Sl D HB 4 sv xs)(hp:dE prog D bHT fv p):
  Fn prog 334 #[sv,fv] D (fun _ v=>v=.bool (xs.any p)):=by
 refine Zx 9 func334 rfl fun h0=>aA<|Zk rfl<|aL<|Za rfl<|Za rfl<|Zf rfl (fun O I=>HI _ _ xs p _ (Sl.at HB.up I Yn Ye) (hp.up (I _ Ye)))<|Wac ?_;exact aE rfl fun D hD=>Xbm
theorem aQU(b:Nat)(fv:Γ)(p:Mk→Bool)(x:Mk)(D:aC)(hp:dE prog D bHT fv p)(hB:At D b 0 [fv]):
  Fn prog 335 #[bHT x,qP b] D (fun _ v=>v=.bool (!p x)):=by
 obtain⟨f,c1,c2,rfl,hf⟩:=hp;refine Zx 8 func335 rfl fun h0=>aA<|Zab rfl fun U E1 R I=>Zk rfl<|aL<|Zd 0 rfl aZQ rfl hB rfl<|Zv rfl X0 rfl I gW<|Wab ?_;exact aE rfl fun D hD=>rfl
theorem aZE(sv fv:Γ)(xs:List Mk)(p:Mk→Bool)(D:aC)(hS:Sl D HB 4 sv xs)(hp:dE prog D bHT fv p)(h1:fv.cells=#[fv]):
  Fn prog 256 #[sv,fv] D (fun _ v=>v=.bool (xs.all p)):=by
 refine Zx 9 func256 rfl fun h0=>aA<|tO (vs:=[fv]) rfl rfl h1 rfl bQK fun b O I hB=>Zk rfl<|aL<|Za rfl<|Za0 rfl<|Zf rfl (fun O I=>x9 _ _ xs (fun x=> !p x) _ (Sl.at HB.up I Yn Ye) ⟨_,[],[qP b],rfl,fun x R hl=>aQU b fv p x R (hp.up ((I _ Ye).trans hl)) (hB.up ((I _ Ye).trans hl))⟩)<|Zau rfl<|We ?_;exact aE rfl fun D hD=>Xbq
theorem J7(b:Nat)(fv:Γ)(p:Int→Bool)(x:Int)(D:aC)(hp:dE prog D iV fv p)(hB:At D b 0 [fv]):
  Fn prog 333 #[iV x,qP b] D (fun _ v=>v=.bool (!p x)):=by
 obtain⟨f,c1,c2,rfl,hf⟩:=hp;refine Zx 8 func333 rfl fun h0=>War ?_;exact aE rfl fun D hD=>rfl
theorem j3(sv fv:Γ)(xs:List Int)(p:Int→Bool)(D:aC)(hS:Sl D RI 1 sv xs)(hp:dE prog D iV fv p)(h1:fv.cells=#[fv]):
  Fn prog 255 #[sv,fv] D (fun _ v=>v=.bool (xs.all p)):=by
 refine Zx 9 func255 rfl fun h0=>aA<|tO (vs:=[fv]) rfl rfl h1 rfl bQK fun b O I hB=>Zk rfl<|aL<|Za rfl<|Za0 rfl<|Zf rfl (fun O I=>L1.nV _ _ xs (fun x=> !p x) _ (Sl.at RI.up I Yn Ye) ⟨_,[],[qP b],rfl,fun x R hl=>J7 b fv p x R (hp.up ((I _ Ye).trans hl)) (hB.up ((I _ Ye).trans hl))⟩)<|Zau rfl<|We ?_;exact aE rfl fun D hD=>Xbq
theorem aQY(sv:Γ)(x:Int)(xs:List Int)(D:aC)(hS:Sl D RI 1 sv (x::xs)):
  Fn prog 314 #[sv] D (fun _ v=>v=qI (xs.foldl max x)):=by
 have hl:=hS.len;simp only[bLF]at hl;refine Zx 25 func314 rfl fun h0=>aA<|Zk rfl<|bK<|Za rfl<|dD rfl U25 rfl Yn rfl rfl bQK<|Zan rfl<|aF<|Zag rfl (fun hc1=>?_) fun hc1=>?_
 ·exact absurd hc1 (by simp only[bLF];omega)
 ·refine aQ<|aA<|Za rfl<|dX rfl U25 aJ rfl Yn rfl Yd Ybc rfl bQK fun b1 o1 I O Z R=>?_;obtain rfl:I=[qI _]:=O;refine Zd 0 rfl aH rfl R rfl<|Zk rfl<|bK<|Zk rfl<|aF<|Za3<|dW (γ:=Nat) (fun k=>xs.length-k) (fun k=>k≤xs.length) (fun k=>[(3,qI ((xs.take k).foldl max x)),(4,qI (k+1:Int))]) [(2,_),(0,_)] (fun k=>[D]) 0 Yd ⟨Ya,Ya,bQK⟩ cR (aK) ?_;rintro k h1;refine bM<|Za rfl<|Za rfl<|dD rfl U25 rfl Yn rfl rfl bQK<|Zan rfl<|aF<|Zag rfl (fun hc2=>?_) (fun hc2=>?_)
  ·simp only[bLF]at hc2;have hk:k<xs.length:=by omega
   obtain⟨y,hy⟩:=cB xs k;have hE:(x::xs)[(k+1:Int).toNat]?= some y:=by rw[show((k:Int)+1).toNat=k+1 by omega];simpa using hy
   refine aQ<|Za5<|Za3<|aP<|Za rfl<|Za rfl<|Za rfl<|dX rfl U25 aJ rfl Yn rfl Yd Yn rfl bQK fun b2 o2 U V hB Y=>?_;obtain rfl:U=[qI _]:=V;refine Zd 0 rfl aH rfl Y rfl<|qF rfl rfl rfl rfl bQK<|Wz ?_;have h3:(xs.take (k+1)).foldl max x=max ((xs.take k).foldl max x) y:=by rw[bLA,hy,bMT];rfl
   exact aI 16 (k+1) Yd Yd ⟨(by rw[h3];rfl),Ya,bQK⟩ rfl rfl Mm5 (aK)
  ·simp only[bLF]at hc2;refine Wn ?_;exact aE rfl fun D hD=>Xcf
end L2
theorem K2.key{k:Θ}(h:K2 P k):HM P k mH:=by
 refine⟨⟨_,h.1⟩,fun a b w=>?_,fun em a w=>BH h em a w,fun a=>?_,fun a=>⟨_,rfl⟩⟩
 ·rw[k9 h];congr 1;by_cases e:a=b
  ·subst e;simp
  ·simp[e]
 ·simp[mH,Instr.sameBits]

theorem aDQ{em:Bool}{t e:Θ}{n:Nat}(t1:P.underlying t=some (.array n e))(te:P.underlying e=some (.int .i64))(hse:TS P e 1){r:List Int}(hr:r.length=n)(w:Δ):(Instr.checkKey em (9998+1) t (.agg (ints r).toArray)).run P w=.ok () w:=by
 have ce:∀m:Int,(Instr.checkKey em (9997+1) e (qI m)).run P w=.ok () w:=fun m=>by
  rw[Instr.checkKey,Ω,TU.of te w];rfl
 rw[Instr.checkKey,Ω,TU.of t1 w];simp only[Ξ];rw[Std.Legacy.Range.forIn_eq_forIn_range'];have key:∀(is:List Nat),(∀i∈is,i<n)→((forIn is PUnit.unit fun i _=>do Instr.checkKey em 9998 e (←part e (ints r).toArray (i*(←sizeOf e)));Pure.pure (ForInStep.yield PUnit.unit):Sem PUnit)).run P w=.ok PUnit.unit w:=by
  intro is;induction is with
  |nil=>intro _;rfl
  |cons i is ih=>
   intro hi;have hlt:=hi i bKZ;have g1:(ints r).toArray[i*1]?= some (qI r[i]):=by rw[bNL];simpa using cN (bLB (show i<r.length by omega))
   rw[List.forIn_cons];simp only[Ω,hse w,Ξ,dL te g1];rw[ce];simp only[Ξ,ε];exact ih fun j hj=>hi j (bKY _ hj)
 have:=key (List.range' 0 n) fun i hi=>Yau;simpa using this
def KM(P:Program)(k:Θ)(n:Nat):Prop:=∃f0 f1 f2 e,P.underlying k=some (.struct (P.fieldsOf k))∧P.fieldsOf k=#[f0,f1,f2]∧f0.name≠ "_" ∧f1.name≠ "_" ∧f2.name≠ "_" ∧f0.offset=0∧f1.offset=1∧f2.offset=n+1∧
 P.underlying f0.type=some (.int .i64)∧P.underlying f1.type=some (.array n e)∧P.underlying f2.type=some (.array n e)∧P.underlying e=some (.int .i64)∧TA P f1.type true∧TS P f1.type n∧TA P f2.type true∧TS P f2.type n∧TS P e 1
theorem KM.key{k:Θ}{n:Nat}(h:KM P k n)(hks:KS P k (n+n+1)):HM P k (AD (n:=n+n+1)):=by
 obtain⟨f0,f1,f2,e,hu,hf,n0,n1,n2,o0,o1,o2,t0,t1,t2,te,I,O,a2,R,hse⟩:=h;refine⟨⟨_,hu⟩,fun a b w=>?_,fun em a w=>?_,fun a=>?_,fun a=>⟨_,rfl⟩⟩
 ·have:=AQ (P:=P) hks a.h b.h w;show(Op.equal k (.agg (ints a.l).toArray) (.agg (ints b.l).toArray)).run P w=_;rw[this];congr 1;obtain⟨la,ha⟩:=a;obtain⟨lb,hb⟩:=b;rw[bOC];simp
 ·have hl:=a.h;have c0:∀x:Int,(Instr.checkKey em (9998+1) f0.type (qI x)).run P w=.ok () w:=fun x=>by
   rw[Instr.checkKey,Ω,TU.of t0 w];rfl
  obtain⟨x,hx⟩:=cB a.l 0;have p0:(part f0.type (ints a.l).toArray f0.offset).run P w=.ok (qI x) w:=dL t0 (by rw[o0];simpa using cN hx) w
  have p1:(part f1.type (ints a.l).toArray f1.offset).run P w=.ok (.agg (ints ((a.l.drop 1).take n)).toArray) w:=by rw[o1];exact uR I O Yd w
  have p2:(part f2.type (ints a.l).toArray f2.offset).run P w=.ok (.agg (ints ((a.l.drop (n+1)).take n)).toArray) w:=by rw[o2];exact uR a2 R Yd w
  have c1:=aDQ (em:=em) t1 te hse (r:=(a.l.drop 1).take n) Yba w;have c2:=aDQ (em:=em) t2 te hse (r:=(a.l.drop (n+1)).take n) Yba w;show(Instr.checkKey em (9999+1) k (.agg (ints a.l).toArray)).run P w=_;rw[Instr.checkKey,Ω,TU.of hu w];simp only[Ξ];rw[hf,←Array.forIn_toList];simp only[List.forIn_cons,List.forIn_nil,n0,n1,n2,ne_eq,bPU,bNM,Ω,p0,Ξ,ε];rw[c0];simp only[Ξ,ε,Ω,p1];rw[c1];simp only[Ξ,ε,Ω,p2];rw[c2];simp
 ·show Instr.sameBits (9999+1) (.agg (ints a.l).toArray) (.agg (ints a.l).toArray)=true;simp only[Instr.sameBits,beq_self_eq_true,bPE,bLX];rintro⟨p,q⟩ hpq;obtain⟨i,hi⟩:=bOX.1 hpq;rw[bQG]at hi;obtain⟨h1,h2⟩:=hi;simp only at h1 h2;rw[h1]at h2;obtain rfl:=bLY h2;have:p∈ints a.l:=GT Xae;obtain⟨m,_,rfl⟩:=bKX.1 this;simp[Instr.sameBits]
def bHU:Unit→Γ:=fun _=>.bool true
structure zQ(es:Array MapEntry)(clock:Nat)(S:List (Int×Int)):Prop where
 cells:Q8 mH bHU es (S.map fun a=>(a,()))
 nd:(es.toList.map (·.born)).Nodup
 lt:∀e∈es.toList,e.born<clock
theorem zQ.nil:zQ #[] 0 []:=⟨rfl,bNH,fun e he=>by simp at he⟩
def SS(S:List (Int×Int))(a:Int×Int):List (Int×Int):=if a∈S then S else S++[a]
theorem aVB{S:List (Int×Int)}{a p:Int×Int}:p∈SS S a ↔ p∈S∨p=a:=by
 unfold SS;split
 ·rename_i h;exact⟨bLL,fun h'=>h'.elim id fun e=>e▸h⟩
 ·simp
theorem zQ.key{es:Array MapEntry}{clock:Nat}{S:List (Int×Int)}(h:zQ es clock S){e:MapEntry}(he:e∈es.toList):∃a∈S,e.key=mH a∧e.val=.bool true:=by
 have h1:=h.cells;unfold Q8 at h1;obtain⟨i,hi⟩:=bOX.1 he;have h2:(es.toList.map fun e=>(e.key,e.val))[i]?= some (e.key,e.val):=by rw[bMI,hi];rfl
 rw[h1,bPP,bMI]at h2;obtain⟨a,ha,hk⟩:=bOG.1 h2;simp only[Function.comp,bOU]at hk;exact⟨a,GT ha,hk.1.symm,hk.2.symm⟩
theorem zQ.ent{es:Array MapEntry}{clock:Nat}{S:List (Int×Int)}(h:zQ es clock S){a:Int×Int}(ha:a∈S):∃e∈es.toList,e.key=mH a:=by
 have h1:=h.cells;unfold Q8 at h1;obtain⟨i,hi⟩:=bOX.1 ha;have h2:((S.map fun a=>(a,())).map fun x=>(mH x.1,bHU x.2))[i]?= some (mH a,.bool true):=by rw[bPP,bMI,hi];rfl
 rw[←h1,bMI]at h2;obtain⟨e,he,hk⟩:=bOG.1 h2;simp only[bOU]at hk;exact⟨e,GT he,hk.1⟩
theorem aKQ{S:List (Int×Int)}{a:Int×Int}:∀{i:Nat},L6 a (S.map fun a=>(a,())) i=none→a∉S:=by
 induction S with
 |nil=>intro i _;exact n4
 |cons b S ih=>
  intro i h;simp only[bMD,L6]at h;split at h
  ·cases h
  ·rename_i hne;intro hm;rcases bNA.1 hm with e|hm
   ·exact hne e
   ·exact ih h hm
theorem bEX{t k e:Θ}{b clock:Nat}{es:Array MapEntry}{S:List (Int×Int)}{a:Int×Int}{A B:aD}(ho:all[ix]?= some ⟨none,.mapUpdate t x y z,ty,pos,aft,g⟩)(ht:P.underlying t=some (.map k e))(hk:K2 P k)
  (hx:ev σ x=some (.map (some b))) (hy:ev σ y=some (mH a)) (hz:ev σ z=some (.bool true)) (hM:zQ es clock S) (hg:dH all σ g)
  (kk:∀es' clock',zQ es' clock' (SS S a)→WL P X bad all K Q os σ (A++(b,.map es' clock')::B) Ds):WL P X bad all K Q ((false,ix)::os) σ (A++(b,.map es clock)::B) Ds:=by
 refine fG ho rfl rfl hg fun a' w hh=>?_
 obtain⟨h1,h2,h3,D,h4,h5,Y⟩:=id hh;have hw:=(h4.box (b,.map es clock) Ye).1;have hK:=hk.key;have run:∃es' clock',zQ es' clock' (SS S a)∧(Instr.mapUpdate t (.map (some b)) (mH a) (.bool true)).run P w=.ok () {w with heap:=w.heap.setIfInBounds b (.map es' clock')}:=by
  have hf:=xK (wal:=bHU) hK a w hM.cells;have hset:∀o,(setObj b o).run P w=.ok () {w with heap:=w.heap.setIfInBounds b o}:=fun o=>by simp[setObj,Sem.run,hw]
  cases hp:L6 a (S.map fun a=>(a,())) 0 with
  |none=>
   have hna:=aKQ hp;refine⟨es.push {key:=mH a,val:=.bool true,born:=clock},clock+1,⟨?_,?_,?_⟩,?_⟩
   ·have hM':=hM.cells;unfold Q8 at hM' ⊢
    unfold SS;rw[bLI hna,Array.toList_push,bLO,hM',bLO,bLO];rfl
   ·rw[Array.toList_push,bLO,bLJ];refine⟨hM.nd,Ye,fun Z R b2 U=>?_⟩;obtain⟨V,I,rfl⟩:=bKX.1 R;have:=hM.lt V I;simp only[bMD,bPK,bLS]at U;omega
   ·intro V I;rw[Array.toList_push]at I;rcases bLM.1 I with I|I
    ·have:=hM.lt V I;omega
    ·simp only[bLS]at I;subst I;exact Nat.lt_succ_self _
   ·unfold Instr.mapUpdate;simp only[Ω,TU.of ht w,Ξ,pO hw,hK.chk];rw[hf,hp];simp only[bNQ,Ξ,hset]
  |some r=>
   obtain⟨j,m⟩:=r;obtain⟨i,O,hi⟩:=Q4 hp;rw[bOH]at O;subst O
   have hSj:S[j]?= some a:=by
    rw[bMI]at hi;obtain⟨a',ha',hk'⟩:=bOG.1 hi;rw[ha',(Prod.mk.inj hk').1]
   have hMi:∀i,(es.toList[i]?).map (fun e:MapEntry=>(e.key,e.val))=(S[i]?).map (fun x:Int×Int=>(mH x,Value.bool true)):=fun i=>by
    have:=hM.cells;unfold Q8 at this;rw[←bMI,this,bPP,bMI];rfl
   have hj:=hMi j;rw[hSj]at hj;obtain⟨e0,he0,hke⟩:=bOG.1 hj;simp only[bOU]at hke;have he0':es[j]?= some e0:=by simpa using he0
   have hmod:es.modify j (fun e=>{e with key:=mH a,val:=.bool true})=es:=by
    apply Array.ext_getElem?;intro q;rw[Array.getElem?_modify];by_cases hjq:j=q
    ·subst hjq;simp only[he0',bNM,bMS];obtain⟨k0,v0,b0⟩:=e0;simp only at hke;rw[hke.1,hke.2]
    ·simp[hjq]
   refine⟨es,clock,?_,?_⟩
   ·unfold SS;rw[bLR (GT hSj)];exact hM
   ·have hks:(Instr.keyThatStays (mH a) (mH a)).run P w=.ok (mH a) w:=by
     have:Instr.sameBits 10000 (mH a) (mH a)=true:=hK.stay a;unfold Instr.keyThatStays;rw[bLR this,ε]
    unfold Instr.mapUpdate;simp only[Ω,TU.of ht w,Ξ,pO hw,hK.chk];rw[hf,hp];simp only[bMS,Ξ,he0',bOQ,hke.1,Ω,hks,hset,hmod]
 obtain⟨es',clock',hM',hr⟩:=run;have hHas:bO (A++(b,Obj.map es clock)::B) b (.map es clock) (.map es' clock') (A++(b,.map es' clock')::B):=.app .head;have hs:=h4.set (w':={w with heap:=w.heap.setIfInBounds b (.map es' clock')}) hHas ⟨rfl,rfl⟩ trivial;have:(execOp a'.eval ⟨none,.mapUpdate t x y z,ty,pos,aft,g⟩).run P w=.ok .skip {w with heap:=w.heap.setIfInBounds b (.map es' clock')}:=by
  simp only[execOp,hh.eval hx,hh.eval hy,hh.eval hz,Ω,hr,Ξ,ε]
 rw[this];exact⟨fun h=>Xad,kk es' clock' hM' _ _ ⟨h1,h2,h3,D,hs,h5,Y.step (fun _ p hp=>bLL Ys) (fun _=>lX ⟨rfl,rfl⟩ (bKX.2 ⟨_,hHas.mem,rfl⟩)) hs.dom⟩⟩
theorem aQB{t k e:Θ}{b clock:Nat}{es:Array MapEntry}(ho:all[ix]?= some ⟨some d,.range t x,ty,pos,aft,g⟩)(ht:P.underlying t=some (.map k e))(hx:ev σ x=some (.map (some b)))(hm:(b,Obj.map es clock)∈μ)(hN:Nat.blt d X.N=true)(hg:dH all σ g)
  (kk:∀r,WL P X bad all K Q os ((d,qP r)::σ) ((r,.mapIter (some b) clock #[] clock)::μ) Ds):WL P X bad all K Q ((fl,ix)::os) σ μ Ds:=by
 refine fG ho rfl rfl hg fun a w hh=>?_
 obtain⟨h1,h2,h3,D,h4,h5,I⟩:=id hh;have:(execOp a.eval ⟨some d,.range t x,ty,pos,aft,g⟩).run P w=.ok (.value (.pointer (some ⟨w.heap.size,0,none⟩))) {w with heap:=w.heap.push (.mapIter (some b) clock #[] clock)}:=by
  simp only[execOp,hh.eval hx,Ω,run_range_map w t k e b es clock ht (h4.box _ hm).1,Ξ,ε];rfl
 rw[this];exact⟨fun _=>pV _ _ _,kk _ _ _ (Hl.put ⟨h1,h2,h3,D,h4.push _ (show dC (.mapIter (some b) clock #[] clock)from bQK),h5,I.step (fun _ p hp=>Xbh) (fun _=>K6 _ _) (h4.push _ (show dC (.mapIter (some b) clock #[] clock)from bQK)).dom⟩ hN _)⟩
theorem bBL{b r since c0 clock:Nat}{seen:Array Nat}{es:Array MapEntry}{A B:aD}(ho:all[ix]?= some ⟨some d,.next x false,ty,pos,aft,g⟩)(hx:ev σ x=some (qP r))(hm:(b,Obj.map es clock)∈A++(r,.mapIter (some b) since seen c0)::B)
  (hold:∀e∈es.toList,e.born<since) (hsc:since≤c0) (hN:Nat.blt d X.N=true) (hg:dH all σ g)
  (kk:∀(ok:Bool) (vs:Array Γ) (o':Obj),vs.toList[0]?= some (.bool ok)→(ok=false→(leftOf es seen).size=0∧o'=.mapIter (some b) since seen c0)→(ok=true→∃e∈(leftOf es seen).toList,o'=.mapIter (some b) since (seen.push e.born) clock)→WL P X bad all K Q os ((d,.tuple vs)::σ) (A++(r,o')::B) Ds):
  WL P X bad all K Q ((false,ix)::os) σ (A++(r,.mapIter (some b) since seen c0)::B) Ds:=by
 refine fG ho rfl rfl hg fun a w hh=>?_
 have I:=hh;obtain⟨h1,h2,h3,D,h4,h5,V⟩:=id hh;have hr:=(h4.box (r,.mapIter (some b) since seen c0) Ye).1;have hb:=(h4.box _ hm).1;rcases run_next_at (P:=P) w ty r b since c0 seen es clock hr hb hold hsc with⟨hl,hrun⟩|⟨e,he,O,R,hrun⟩
 ·have:(execOp a.eval ⟨some d,.next x false,ty,pos,aft,g⟩).run P w=.ok (.value (.tuple #[.bool false])) w:=by
   simp only[execOp,hh.eval hx,Ω,hrun,Ξ,ε]
  rw[this];exact⟨fun h=>Xad,kk false _ _ rfl (fun _=>⟨hl,rfl⟩) (fun h=>Xaa) _ _ (I.put hN _)⟩
 ·have U:Hl X σ (A++(r,.mapIter (some b) since seen c0)::B) Ds a O:=by
   rcases R with rfl|rfl
   ·exact I
   ·exact I.drew
  have:(execOp a.eval ⟨some d,.next x false,ty,pos,aft,g⟩).run P w=.ok (.value (.tuple #[.bool true,e.key,e.val])) (ChangeMaps.setBlock O r (.mapIter (some b) since (seen.push e.born) clock)):=by
   simp only[execOp,hh.eval hx,Ω,hrun,Ξ,ε]
  rw[this];obtain⟨h1,h2,h3,D,h4,h5,V⟩:=U;have hHas:bO (A++(r,Obj.mapIter (some b) since seen c0)::B) r (.mapIter (some b) since seen c0) (.mapIter (some b) since (seen.push e.born) clock) (A++(r,.mapIter (some b) since (seen.push e.born) clock)::B):=.app .head;have hs:=h4.set (w':=ChangeMaps.setBlock O r (.mapIter (some b) since (seen.push e.born) clock)) hHas ⟨rfl,rfl⟩ trivial;exact⟨fun h=>Xad,kk true _ _ rfl (fun h=>Xaa) (fun _=>⟨e,he,rfl⟩) _ _ (Hl.put ⟨h1,h2,h3,D,hs,h5,V.step (fun _ p hp=>bLL Ys) (fun _=>lX ⟨rfl,rfl⟩ (bKX.2 ⟨_,hHas.mem,rfl⟩)) hs.dom⟩ hN _)⟩
theorem aND{b r since clock:Nat}{seen:Array Nat}{es:Array MapEntry}{e:MapEntry}(ho:all[ix]?= some ⟨some d,.entry x,ty,pos,aft,g⟩)(hx:ev σ x=some (qP r))(hm:(b,Obj.map es clock)∈μ)(hr:(r,Obj.mapIter (some b) since (seen.push e.born) clock)∈μ)
  (he:e∈es.toList) (hn:(es.toList.map (·.born)).Nodup) (hN:Nat.blt d X.N=true) (hg:dH all σ g)
  (kk:WL P X bad all K Q os ((d,.tuple #[e.key,e.val])::σ) μ Ds):WL P X bad all K Q ((fl,ix)::os) σ μ Ds:=by
 refine fG ho rfl rfl hg fun a w hh=>?_
 obtain⟨h1,h2,h3,D,h4,h5,I⟩:=id hh;have:(execOp a.eval ⟨some d,.entry x,ty,pos,aft,g⟩).run P w=.ok (.value (.tuple #[e.key,e.val])) w:=by
  simp only[execOp,hh.eval hx,Ω,run_entry_at w r b since seen es clock e (h4.box _ hr).1 (h4.box _ hm).1 he hn,Ξ,ε]
 rw[this];exact⟨fun _=>qA.refl _ _,kk _ _ (hh.put hN _)⟩
theorem aGJ{t e:Θ}{n b l h:Nat}{I k2:IntKind}{i j:Int}(ho:all[ix]?= some ⟨some d,.slice t x (some y) (some z) none,ty,pos,aft,g⟩)(ht:P.underlying t=some (.array n e))(hs:TS P e 1)(hx:ev σ x=some (qP b))
  (hy:ev σ y=some (.int I i)) (hz:ev σ z=some (.int k2 j)) (hi:i=(l:Int)) (hj:j=(h:Int)) (h1:l≤h) (h2:h≤n) (h3:l<n)
  (hN:Nat.blt d X.N=true) (hg:dH all σ g) (kk:WL P X bad all K Q os ((d,.slice (some ⟨b,l,none⟩) (h-l) (n-l))::σ) μ Ds):WL P X bad all K Q ((fl,ix)::os) σ μ Ds:=by
 subst hi;subst hj
 refine bZ ho rfl rfl hN hg (fun ρ hρ w'=>?_) kk;simp only[execOp,hρ x _ hx,hρ y _ hy,hρ z _ hz,bNQ,bMS];unfold Instr.sliceAt Instr.sureAddr Instr.sliceBounds Instr.sliceBound asIntOf;have O:(0:Int)≤(l:Int)∧(l:Int)≤(h:Nat):=by omega
 have a2:(0:Int)≤(h:Int)∧(h:Int)≤(n:Nat):=by omega
 simp only[Ω,TU.of ht w',Ξ,hs w',ε,pure_bind,O,a2,bPZ,bNM,bMR,bNL];rw[bLI Yd];simp[Addr.add];exact fun h=>h.symm
theorem aQT{t e:Θ}{n b h:Nat}{k2:IntKind}{j:Int}(ho:all[ix]?= some ⟨some d,.slice t x none (some z) none,ty,pos,aft,g⟩)(ht:P.underlying t=some (.array n e))(hs:TS P e 1)(hx:ev σ x=some (qP b))
  (hz:ev σ z=some (.int k2 j)) (hj:j=(h:Int)) (h2:h≤n)
  (hN:Nat.blt d X.N=true) (hg:dH all σ g) (kk:WL P X bad all K Q os ((d,qS b h n)::σ) μ Ds):WL P X bad all K Q ((fl,ix)::os) σ μ Ds:=by
 subst hj;refine bZ ho rfl rfl hN hg (fun ρ hρ w'=>?_) kk;simp only[execOp,hρ x _ hx,hρ z _ hz,bNQ,bMS];unfold Instr.sliceAt Instr.sureAddr Instr.sliceBounds Instr.sliceBound asIntOf;have a2:(0:Int)≤(h:Int)∧(h:Int)≤(n:Nat):=by omega
 simp only[Ω,TU.of ht w',Ξ,hs w',ε,pure_bind,a2,bPZ,bNM,bMR,bPG,bPB];split<;>simp[Addr.add]
theorem aFP{D:aC}{b n l h:Nat}{c:List Int}(hA:At D b 0 (ints c))(hl:c.length=n)(h1:l≤h)(h2:h≤n)(hb:n≤9223372036854775807):Sl D RI 1 (.slice (some ⟨b,l,none⟩) (h-l) (n-l)) ((c.drop l).take (h-l)):=by
 have hlen:((c.drop l).take (h-l)).length=h-l:=by simp;omega
 refine⟨_,_,by rw[hlen],Yd,Yd,bLG ⟨b,l,rfl,fun i x hi=>⟨_,rfl,rfl,fun j v hj=>?_⟩⟩⟩;rw[List.getElem?_take]at hi;split at hi
 ·rw[bNS]at hi;cases j with
  |zero=>
   have h5:v=qI x:=by simpa using hj.symm
   subst h5;have:=hA (l+i) (qI x) (cN hi);simpa using this
  |succ j=>simp at hj
 ·cases hi
theorem bHG{γ:Type}(I:γ→Prop)(S:γ→Bool)(XX:γ→Cx)(M:γ→aD)(xs ys:List (Bool×Nat)){s p:Nat}{b:Bool}(hXr:∀g,(XX g).r=X.r)(ho:os=xs++ys)(hs:look σ s=some (.bool b))
  (hyes:b=true→WL P X bad all (fun a w=>∃g,I g∧Hl (XX g) ((p,.bool (S g))::(s,.bool true)::σ) (M g) Ds a w) Q xs ((s,.bool true)::σ) μ Ds)
  (hno:b=false→WL P X bad all (fun a w=>∃g,I g∧Hl (XX g) ((p,.bool (S g))::(s,.bool false)::σ) (M g) Ds a w) Q xs ((s,.bool false)::σ) μ Ds)
  (k:∀g,I g→WL P (XX g) bad all K Q ys ((p,.bool (S g))::σ) (M g) Ds):WL P X bad all K Q os σ μ Ds:=by
 have hsub:∀u,Value.bool b=u→∀a w,Hl X σ μ Ds a w→Hl X ((s,u)::σ) μ Ds a w:=by
  rintro _ rfl a w ⟨h1,h2,h3⟩;refine⟨h1,fun t v ht=>?_,h3⟩;simp only[look]at ht;cases hb:Nat.beq s t with
  |true=>rw[hb]at ht;cases ht;obtain rfl:=bMW hb;exact h2 _ _ hs
  |false=>rw[hb]at ht;exact h2 _ _ ht
 have hback:∀(X:Cx) u v μ',Value.bool b=u→∀a w,Hl X ((p,v)::(s,u)::σ) μ' Ds a w→Hl X ((p,v)::σ) μ' Ds a w:=by
  rintro X _ v μ' rfl a w ⟨h1,h2,h3⟩;refine⟨h1,fun t v' ht=>?_,h3⟩;refine h2 t v' ?_;simp only[look]at ht ⊢
  cases hp:Nat.beq p t with
  |true=>rw[hp]at ht;exact ht
  |false=>
   rw[hp]at ht;cases hb:Nat.beq s t with
   |true=>obtain rfl:=bMW hb;rw[←ht,hs]
   |false=>exact ht
 subst ho;intro a w hh;cases b
 ·refine WL.append (hno rfl a w (hsub _ rfl a w hh)) ?_;rintro a w ⟨g,hI,h⟩;rw[←hXr g];exact k g hI a w (hback _ _ _ _ rfl a w h)
 ·refine WL.append (hyes rfl a w (hsub _ rfl a w hh)) ?_;rintro a w ⟨g,hI,h⟩;rw[←hXr g];exact k g hI a w (hback _ _ _ _ rfl a w h)

theorem aWD{f:FuncId}{fn:Func}{c:Code}{args:List Γ}{D:aC}{post:aC→Γ→aD→Prop}(N:Nat)(hf:P.funcs[f]?= some fn)(hn:(fn.name== "runtime.NumGoroutine")=false)(hb:fn.body=some c)(hN:fn.ntmps=N)(hsz:Nat.ble args.length N=true)
  (h:∀h0:H0,WC P ⟨none,N,[],h0,h0.size,D,[],none⟩ (S2 P fn (rG ⟨none,N,[],h0,h0.size,D,[],none⟩ post)) c (jY 0 args) [] [D]):IU P f args.toArray D post:=by
 refine⟨EF.of hf hn hb,fun w hw=>?_⟩;subst hN;have hsz:=bNJ hsz;have hq:∀e a w',S2 P fn (rG ⟨none,fn.ntmps,[],hd w,w.heap.size,D,[],none⟩ post) e a w'→bodyPostM (FW none) 0 P fn (rG ⟨none,fn.ntmps,[],hd w,w.heap.size,D,[],none⟩ post) e a w':=by
  intro e a w' he;cases e<;>first|exact he|exact he.elim
 have hwp:=h (hd w) {tmps:=args.toArray++Array.replicate (fn.ntmps-args.toArray.size) undef,defers:=[]} w ⟨Yaq,fun s v hs=>by
  obtain⟨_,h2⟩:=gV args 0 s v hs;have hl:=(bLD.1 h2).1;simp only[bPB]at h2 hl;show(args.toArray++_)[s]?= some v;rw[bNT Yay];simpa using h2,rfl,D,⟨bLQ _,bLQ _,(fun _ _ _=>rfl),(fun _ _=>rfl),hw,Yi,bNH,Yi,fun e he=>bLY he⟩,(fun D₁ h1=>Xcd),bQK⟩
 refine(dY (r:=none) (n:=0)).1 ((callsIn_of_wp_marks hf hb bQK (wpIn_mono hwp hq) rfl).mono ?_);rintro e w' ⟨v,D',μ',rfl,hs,hp⟩;exact⟨v,D',μ',rfl,hs,hp⟩
theorem QX{fn:Func}{bd:Nat}{post:aC→Γ→aD→Prop}{e:Exit}(he:(match e with|.normal=>true|.ret=>true|_=>false)=true){rs:List ResultVar}{vs:List Γ}{A B ν':aD}(hds:X.ds=[])(hr:fn.results=rs.toArray)(h:A1 P X σ (A++ν'++B++[(bd,Obj.deferred none)]) rs vs)
  (hp:∀D,(∀D₁∈Ds,Le D₁ D)→post D (tA vs) ν'):∀a w,Hl (X.withDs bd) σ (A++ν'++B++[(bd,Obj.deferred (some []))]) Ds a w→S2 P fn (rG X post) e a w:=by
 intro a w hh;obtain⟨h1,h2,h3,D,h4,h5,I⟩:=hh;have hHas:bO (A++ν'++B++[(bd,Obj.deferred (some []))]) bd (.deferred (some [])) (.deferred none) (A++ν'++B++[(bd,Obj.deferred none)]):=.app .head;have hs:=h4.set (w':=w.putObj bd (.deferred none)) hHas ⟨rfl,rfl⟩ trivial;have hh':Hl X σ (A++ν'++B++[(bd,Obj.deferred none)]) Ds {a with defers:=[]} (w.putObj bd (.deferred none)):=
  ⟨h1,h2,hds.symm,D,hs,h5,I.step (X:=X.withDs bd) (fun _ p hp=>bLL Ys) (fun _=>lX ⟨rfl,rfl⟩ (bKX.2 ⟨_,hHas.mem,rfl⟩)) hs.dom⟩
 have hrun:=jN hh' hr h;have hb:=(h4.box (bd,Obj.deferred (some [])) Ye).1;have hnd:=hs.nd;simp only[bLO]at hnd;have hs':jE X.h0 X.lo X.D0 X.mods ν' D (w.putObj bd (.deferred none)):=hs.sub (fun p hp=>bLH _ (bLH _ (LE _ hp))) (bLJ.1 (bLJ.1 (bLJ.1 hnd).1).1).2.1;have:LeavesInM (FW none) 0 P fn a.tmps (rG X post) a.defers .returning w:=by
  have h3':a.defers=[oC bd]:=h3.trans Xce;rw[h3'];exact⟨Ye,bLL ⟨bd,_,rfl,run_takeDeferred hb,_,hrun,_,D,ν',rfl,hs',hp D h5⟩⟩
 cases e<;>first|exact this|cases he
namespace L2
open L1
open C2
open C1 (gZ bT tN rK)
theorem aQN{c pre:List Int}{n:Int}{i:Nat}(hl:pre.length=i)(hp:c.take (i+1)=pre++[n]):c[(i:Int).toNat]?= some n:=by
 have h:(c.take (i+1))[i]?= some n:=by rw[hp,←hl];simp
 rw[bOD (Nat.lt_succ_self i)]at h;exact h
theorem aGC{step:Int}{c pre:List Int}{n:Int}{i:Nat}(hl:pre.length=i)(hp:c.take (i+1)=pre++[n])(hb:∀x∈pre,0≤x∧x≤99)(_h10:c.length=10)(hi:i<10):
  ∃m,(i≠0→c[((i:Int)-1).toNat]?= some m)∧(0≤m∧m≤99)∧(decide ((i:Int)=0)||gZ (n-m) (-step) step)=lV step pre.getLast? n:=by
 rcases List.eq_nil_or_concat pre with rfl|⟨q,m,rfl⟩
 ·refine⟨0,fun h=>absurd hl.symm h,Yd,?_⟩;simp only[bNE]at hl;subst hl;simp[lV]
 ·refine⟨m,fun _=>?_,hb m Ye,?_⟩
  ·have h:(c.take (i+1))[i-1]?= some m:=by
    rw[hp];simp only[List.concat_eq_append,GE,bNW]at hl;rw[show i-1=q.length by omega];simp
   rw[bOD Yd]at h;rw[show((i:Int)-1).toNat=i-1 by omega];exact h
  ·have:(i:Int)≠0:=by
    simp only[List.concat_eq_append,GE,bNW]at hl;omega
   unfold lV;rw[bOM this,Bool.false_or];simp
theorem bGK{c pre:List Int}{i n:Nat}{k:Int}(h:c.length=10)(hi:i<n)(hn:n≤10)(hp:c.take i=pre)(hz:c.drop n=List.replicate (10-n) 0):(c.set i k).length=10∧(c.set i k).take (i+1)=pre++[k]∧(c.set i k).drop n=List.replicate (10-n) 0:=
 ⟨by simp[h],by rw[bLA,List.getElem?_set_self Yd,bLT,List.take_set_of_le (bLQ _),hp],by rw[List.drop_set_of_lt hi];exact hz⟩
theorem CS(last step:Int)(hv lv mv:Γ)(c pre:List Int)(n:Int)(i:Nat)(D:aC)(hs:0≤step∧step≤99)(U:c.length=10)(V:i<10)(hl:pre.length=i)(hp:c.take (i+1)=pre++[n])(hb:∀x∈pre,0≤x∧x≤99)(hn:0≤n∧n≤99):
  Fn prog 261 #[.agg #[qI last,hv,qI step,lv,mv],.agg (ints c).toArray,qI (i:Int)] D (fun _ v=>v=.bool (lV step pre.getLast? n)):=by
 have Y:=aQN hl hp;obtain⟨m,Z,hmb,hnr⟩:=aGC (step:=step) hl hp hb U V;refine Zx 25 func261 rfl fun h0=>aA<|Zab rfl fun q1 E1 hE I=>Zab rfl fun q2 E2 hF O=>Zk rfl<|bS<|bE [] 6 19 64448<|Za rfl<|Wbd ?_;refine' cT 15 (s:=9) (p:=24) rfl (fun R=>?_) (fun R=>?_) ?_;rotate_left
 ·have hH:(i:Int)≠0:=by simpa using R
  have hB:=Z Yd;refine Zb rfl<|cA rfl U320 aJ rfl rfl Yd Yd rfl ⟨_,rfl,rfl⟩<|iQ rfl aH rfl O Ye (cN Y) n4 rfl ⟨_,rfl,rfl⟩<|Zb rfl<|zF rfl rfl rfl Yf rfl ⟨_,rfl,rfl⟩<|cA rfl U320 aJ rfl rfl Yd Yd rfl ⟨_,rfl,rfl⟩<|iQ rfl aH rfl O Ye (cN hB) n4 rfl ⟨_,rfl,rfl⟩<|zF rfl rfl rfl Yf rfl ⟨_,rfl,rfl⟩<|Zj rfl vN rfl<|Ze 2 rfl aH rfl I rfl<|aDW rfl rfl Yf rfl ⟨_,rfl,rfl⟩<|Zj rfl vN rfl ?_;refine Ze 2 rfl aH rfl I rfl<|Zg rfl (fun D1 hI=>fC _ _ _ _)<|Zal rfl ?_;exact aM 14
 ·refine Waq ?_;refine Zh rfl<|Zh rfl<|Zak rfl ?_;exact aM 14
 refine We ?_;exact aE rfl fun D hD=>by show Value.bool _=_;rw[hnr]
def jD(br bY bc bh:Nat)(c:List Int):aD:=[(bh,qC [.func (.func 260) #[] #[qP br,qP bY,qP bc,qP bh]] 182),(bc,qC (ints c) 320)]
def l9(J Jx:List (List Int)→wC)(br bY bc bh:Nat)(step:Int)(hs:List (Int×Int))(pre:List Int)(i:Nat)(done:List (List Int))(v:Γ)(J':wC)(μ':aD):Prop:=
 ∃b c',v=.bool b∧c'.length=10∧c'.take i=pre∧c'.drop hs.length=List.replicate (10-hs.length) 0∧μ'=jD br bY bc bh c'∧(if b=true then J'=J (done++(iM step (hs.drop i) pre.getLast?).map fun t=>dP (pre++t))else ∃p,J'=Jx p)
theorem yK{lo l:Nat}{J Jx:List (List Int)→wC}{t:aW}{xs:List (List Int)}{Dr Dy:aC}{Ds:List aC}{br bY bc bh:Nat}{hv lv mv:Γ}(hto:LH t)
  (hs:∀pre,T1 lo (J pre)) (hsx:∀pre,T1 lo (Jx pre)) (hY:aDH prog Dr lo l J Jx xs) (hDr:Dr∈Ds) (hDy:Dy∈Ds) (hA:At Dr br 0 [qI t.last,hv,qI t.step,lv,mv]) (hpl:Sl Dr W5 2 hv t.heights) (hB:At Dy bY 0 [.func (.yield l) #[] #[]]):
  ∀(j i:Nat) (pre c:List Int) (done rest:List (List Int)) (iv:Int),iv=i→i+j=t.heights.length→pre.length=i→c.length=10→c.take i=pre→c.drop t.heights.length=List.replicate (10-t.heights.length) 0→(∀x∈pre,0≤x∧x≤99)→
   xs=done++(iM t.step (t.heights.drop i) pre.getLast?).map (fun t=>dP (pre++t))++rest→
   bID prog 260 [qI iv,qP br,qP bY,qP bc,qP bh] lo (J done) (jD br bY bc bh c) Ds (l9 J Jx br bY bc bh t.step t.heights pre i done):=by
 intro j;induction j using Nat.strongRecOn with
 |_ j ih=>
 intro i pre c done rest iv hiv hij hl h9 hp hz hpb hxs;subst hiv;have hmx:=hpl.len;have hlast:=hto.last;have hlen:=hto.len;have hF:=hto.len10;refine V3 (μ:=jD br bY bc bh c) 46 func260 rfl rfl rfl rfl<|aA<|Zk rfl<|bK<|Za rfl<|Zi rfl lQ rfl<|Zd 0 rfl aH rfl hA rfl<|Zas rfl<|aF<|Zag rfl (fun hc1=>?_) fun hc1=>?_
 ·have hin:i=t.heights.length:=by omega
  subst hin;have hleaf:=(aBG (l:=pre) (by rw[hl];exact hp) (by rw[hl];exact hz))
  rw[bQI]at hxs;simp only[iM,bMD,bPK,n5]at hxs;rw[hleaf,bLK,bOW]at hxs;refine aA<|Zd 0 rfl bDA rfl hB rfl<|bL rfl pG rfl Mm1 Yab n4 rfl bQK<|RA (l:=l) (J1:=J (done++[c])) (J0:=Jx (done++[c])) rfl rfl rfl rfl (hs _) (hsx _) (fun D w hd hJ hb hl=>hY done c _ D w ⟨rest,hxs⟩ hd hJ (fun b hbm=>by obtain⟨p,hp,rfl⟩:=bKX.1 hbm;exact hb p hp) (hl _ hDr)) rfl bQK fun b1 J1 hH=>Wi ?_
  exact nC (P:=prog) (fn:=f260) (N:=46) (vs:=[_]) rfl rfl ⟨rfl,bQK⟩ (fun D h=>⟨D,h,Le.refl D⟩) ⟨b1,c,rfl,h9,hp,hz,rfl,by cases b1<;>simp only[hH,bNM,bMU,bNU];exact⟨_,rfl⟩;simp[iM,hleaf]⟩
 ·have hin:i<t.heights.length:=by omega
  obtain⟨r,hri⟩:=cB t.heights i;have hrb:=hto.hts r (GT hri);have hrg:=uK hrb;have hsz:fJ r=r.2-r.1+1:=rfl;have hd:t.heights.drop i=r::t.heights.drop (i+1):=by rw[bMM hin];congr 1;exact bLY ((bLB hin).symm.trans hri)
  rw[hd,←aCT]at hxs;refine aQ<|bM<|Zi rfl fQ rfl<|Zd 1 rfl nN rfl hA rfl<|Za rfl<|Zw rfl U29 cJ rfl hpl rfl hri fun b1 o1 hI hK hX hN=>?_;obtain rfl:hI=[qI _,qI _]:=hK;refine Zv rfl lL rfl hN cJ<|Zf rfl (fun D1 rB=>aCM r hrb _)<|Za rfl<|aF<|Za3<|CO (γ:=Nat×List Int) (fun g=>(fJ r).toNat-g.1) (fun g=>g.1≤(fJ r).toNat∧g.2.length=10∧g.2.take i=pre∧g.2.drop t.heights.length=List.replicate (10-t.heights.length) 0) (fun g=>J (done++WA t.step (t.heights.drop (i+1)) pre r g.1)) (fun g=>[(21,qI (g.1:Int))]) [(20,_),(6,_),(0,_),(1,_),(3,_),(4,_)] (fun g=>jD br bY bc bh g.2) (fun g=>Ds) (0,c) ⟨Ye,h9,hp,hz⟩ (by simp[aVH]) ⟨Ya,bQK⟩ cR Mm5 (aK) ?_;rintro⟨k,c1⟩ ⟨hO,I,O,R⟩;simp only at hO I O R;refine aA<|Zan rfl<|bS<|Zag rfl (fun hc2=>?_) fun hc2=>?_
  ·obtain⟨rr,hr⟩:=aUX (step:=t.step) (rs:=t.heights.drop (i+1)) (pre:=pre) (r:=r) (k:=k) (n:=(fJ r).toNat) Yd;have hset:=bGK (k:=r.1+(k:Int)) I hin hF O R;have h9s:(c1.set ((i:Int)).toNat (r.1+(k:Int))).length=10:=hset.1;have hpn:∀x∈pre++[r.1+(k:Int)],0≤x∧x≤99:=fun x hx=>by rcases bLM.1 hx with hx|hx;exact hpb x hx;simp only[bLS]at hx;omega
   refine aQ<|Za5<|Za3<|aA<|Za rfl<|Zk rfl<|aL<|Za rfl<|Zi rfl fQ rfl<|Zd 1 rfl nN rfl hA rfl<|Za rfl<|Zw rfl U29 cJ rfl hpl rfl hri fun b2 o2 hP hR rA hS=>?_;obtain rfl:hP=[qI _,qI _]:=hR;refine Zi rfl vH rfl<|Zd 0 rfl aH rfl hS rfl<|Za rfl<|Zah rfl<|cA rfl U320 aJ rfl rfl Yd Yd rfl bQK<|Z3 rfl aJ rfl rfl (.tail ζ) (by simp only[*];omega) bQK<|aL<|Zv rfl iS rfl hA fS<|bL rfl pG rfl Mm1 Yab n4 rfl bQK<|Za rfl<|Zf rfl (fun D2 hD2=>CS t.last t.step hv lv mv (c1.set i (r.1+(k:Int))) pre (r.1+(k:Int)) i _ hto.step hset.1 Yd hl hset.2.1 hpb Yd)<|Za rfl ?_;refine bHG (γ:=Bool×List Int×wC) (fun g=>g.2.1.length=10∧g.2.1.take (i+1)=pre++[r.1+(k:Int)]∧g.2.1.drop t.heights.length=List.replicate (10-t.heights.length) 0∧(if g.1=true then ∃p,g.2.2=Jx p else g.2.2=J (done++WA t.step (t.heights.drop (i+1)) pre r (k+1)))) (fun g=>g.1) (fun g=>Xj 46 lo g.2.2) (fun g=>jD br bY bc bh g.2.1) [(false,5),(false,6),(false,7),(false,8),(false,9),(false,10)] [] (s:=38) (p:=44) (fun _=>rfl) rfl rfl (fun U=>?_) (fun U=>?_) ?_
   ·have hnear:lV t.step pre.getLast? (r.1+(k:Int))=true:=by simpa using U
    refine Zq rfl rE rfl Mm0 rfl<|Zb rfl<|yJ rfl rfl rfl Yf rfl ⟨_,rfl,rfl⟩<|wU rfl rfl rfl rfl (ih (j-1) Yd (i+1) (pre++[r.1+(k:Int)]) (c1.set i (r.1+(k:Int))) (done++WA t.step (t.heights.drop (i+1)) pre r k) (rr++rest) (i+1:Int) Yd Yd Yaq (by simpa using I) hset.2.1 hset.2.2 hpn (by rw[hxs,hr,aEA hnear];simp)) rfl ⟨_,rfl,rfl⟩ ?_;rintro _ J2 _ ⟨b2,c2,rfl,h9',hp',hz',rfl,hJ2⟩;refine Wci ?_;exact l3 fun a w hh=>⟨(!b2,c2,J2),⟨h9',hp',hz',by cases b2<;>simp only[Bool.not_true,Bool.not_false,bNM,bMU,bNU]at hJ2 ⊢;exact hJ2;rw[hJ2,aEA hnear,bLK]⟩,hh.cutK 5 rfl⟩
   ·refine Wp ?_;exact l3 fun a w hh=>⟨(false,c1.set i (r.1+(k:Int)),J (done++WA t.step (t.heights.drop (i+1)) pre r k)),⟨hset.1,hset.2.1,hset.2.2,by simp only[bMU,bNU];rw[bEQ (by simpa using U)]⟩,hh.cutK 5 rfl⟩
   rintro⟨b3,c3,J3⟩ ⟨V,Y,Z,hE⟩;simp only at V Y Z hE;refine aF<|Zaf rfl (fun hc3=>?_) fun hc3=>?_
   ·obtain rfl:b3=true:=by simpa using hc3
    refine aA<|Wg ?_;exact nC (P:=prog) (fn:=f260) (N:=46) (vs:=[_]) rfl rfl ⟨rfl,bQK⟩ (fun D h=>⟨D,h,Le.refl D⟩) ⟨false,c3,rfl,V,L1.vP Y hl,Z,rfl,by simpa using hE⟩
   ·obtain rfl:b3=false:=by simpa using hc3
    refine Wcf ?_;exact vY 22 (k+1,c3) ⟨Yl,V,L1.vP Y hl,Z⟩ Yl (by simpa using hE) ⟨Ya,bQK⟩ rfl rfl Mm5 (aK)
  ·refine Wj ?_;exact nC (P:=prog) (fn:=f260) (N:=46) (vs:=[_]) rfl rfl ⟨rfl,bQK⟩ (fun D h=>⟨D,h,Le.refl D⟩) ⟨true,c1,rfl,I,O,R,rfl,by simp only[bNM];rw[hd,←aCT,show k=(fJ r).toNat by omega]⟩
theorem aJQ(t:aW)(Dr:aC)(br:Nat)(hv lv mv:Γ)(hto:LH t)(hA:At Dr br 0 [qI t.last,hv,qI t.step,lv,mv])(hpl:Sl Dr W5 2 hv t.heights):
  u6 prog 259 [qP br] Dr ((eY t).map dP) QG:=by
 refine KT 8 func259 rfl rfl rfl rfl fun lo l J Jx hs hsx hY=>aA<|Zab rfl fun R E1 O I=>aL<|Zad rfl Z1 rfl fun U=>aL<|Zad rfl CD rfl fun V=>aL<|Za0 rfl<|Zr rfl BS ζ rfl<|aF<|aP ?_;refine Zp rfl rE rfl Mm0 rfl<|wU rfl rfl rfl rfl (yK (l:=l) hto hs hsx hY Ye Ye hA hpl I t.heights.length 0 [] (List.replicate 10 0) [] [] 0 rfl Yd rfl rfl rfl (List.drop_replicate ..) (fun x hx=>by cases hx) (by simp[eY])) rfl bQK ?_;rintro _ Y _ ⟨b2,c2,rfl,h9',hp',hz',rfl,hJ2⟩;refine Zap ?_;exact nC (P:=prog) (fn:=f259) (N:=8) (vs:=[]) rfl rfl bQK (fun D h=>⟨D,Xbn,Le.refl D⟩) (by cases b2<;>simp[eY]at hJ2 ⊢;exact bLG hJ2;exact bLL hJ2)
theorem QT(tv:Γ)(t:aW)(D:aC)(ht:fA D tv t)(hto:LH t):
  Fn prog 179 #[tv] D (fun D' v=>∃br,v=.func (.func 259) #[] #[qP br]∧u6 prog 259 [qP br] D' ((eY t).map dP) QG):=by
 obtain⟨hv,lv,mv,rfl,hh,hl,hm⟩:=ht;refine Zx 4 func179 rfl fun h0=>aA<|Zab rfl fun O E1 R I=>Zk rfl<|aL<|Za0 rfl<|We ?_;exact aE rfl fun D hD=>⟨_,rfl,aJQ t _ O hv lv mv hto (I.up (hD _ Ye)) (hh.up W5.up (hD _ Ye))⟩
end L2
namespace L7
open C7
theorem lH{α:Type}{p:α→Bool}{xs:List α}{k:Nat}{x:α}(hx:xs[k]?= some x)(h:(xs.take k).any p=false)(hp:p x=true):idxOf p xs=k:=by
 have hk:=(bLD.1 hx).1;have he:=(bLD.1 hx).2;have h1:xs.any p=true:=bPI.2 ⟨x,GT hx,hp⟩;have h2:xs.findIdx p=k:=by
  rw[List.findIdx_eq hk];refine⟨by rw[he];exact hp,fun j hj=>?_⟩
  have:=List.any_eq_false.1 h (xs[j]'Yd) (by
   rw[List.mem_take_iff_getElem];exact⟨j,Yd,rfl⟩)
  simpa using this
 simp[idxOf,h1,h2]
theorem iE{α:Type}{p:α→Bool}{xs:List α}(h:xs.any p=false):idxOf p xs= -1:=by simp[idxOf,h]
theorem lP{α:Type}{p:α→Bool}{xs:List α}:decide (0≤idxOf p xs)=xs.any p:=by
 unfold idxOf;cases h:xs.any p<;>simp
theorem pB{α:Type}{p:α→Bool}{xs:List α}:(!xs.any fun x=> !p x)=xs.all p:=by
 rw[List.all_eq_not_any_not]
theorem fC(n lo hi:Int)(D:aC):Fn prog 169 #[qI n,qI lo,qI hi] D (fun _ v=>v=.bool (gZ n lo hi)):=by
 refine Zx 15 func169 rfl fun h0=>Wai ?_;refine' bW 4 (s:=10) (p:=14) rfl (fun I=>?_) (fun I=>?_) ?_;rotate_left
 ·refine Wbj ?_;exact aM 3
 ·refine Wb ?_;exact aM 3
 refine We ?_;exact aE rfl fun D hD=>rfl
theorem aEK(n lo hi:Int)(D:aC):Fn prog 238 #[qI n,qI lo,qI hi] D (fun _ v=>v=.bool (gZ n lo hi)):=by
 refine Zx 15 func238 rfl fun h0=>Wbo ?_;refine' bW 4 (s:=10) (p:=14) rfl (fun I=>?_) (fun I=>?_) ?_;rotate_left
 ·refine Wbj ?_;exact aM 3
 ·refine Wb ?_;exact aM 3
 refine We ?_;exact aE rfl fun D hD=>Xcw
theorem xV(sv fv:Γ)(xs:List Int)(p:Int→Bool)(D:aC)(hS:Sl D RI 1 sv xs)(hp:dE prog D iV fv p):
  Fn prog 364 #[sv,fv] D (fun _ v=>v=qI (idxOf p xs)):=by
 have hl:=hS.len;obtain⟨f,c1,c2,rfl,hf⟩:=hp;refine Zx 19 func364 rfl fun h0=>aA<|Zk rfl<|bK<|Za rfl<|dD rfl U25 rfl Yn rfl rfl bQK<|Wf ?_;rintro k ⟨h1,h2⟩;refine aA<|Zan rfl<|bS<|Zag rfl (fun hc1=>?_) fun hc1=>?_
 ·have hk:k<xs.length:=by omega
  obtain⟨x,hx⟩:=cB xs k;refine aQ<|Za5<|Za3<|aA<|Za rfl<|Zk rfl<|aL<|Za rfl<|Za rfl<|Za rfl<|dX rfl U25 aJ rfl Yn rfl Yd Yn rfl bQK fun Y o1 I O V R=>?_;obtain rfl:I=[qI _]:=O;refine Zd 0 rfl aH rfl R rfl<|Zf rfl (fun Z U=>hf x _ (U _ Ye))<|aF<|Zaf rfl (fun hc2=>?_) fun hc2=>?_
  ·refine Wbi ?_;exact aE rfl fun D hD=>Xam
  ·refine Wcf ?_;have hpx:p x=false:=hc2;have h3:(xs.take (k+1)).any p=false:=by rw[bLA,hx,bOP,h2];simp[hpx]
   exact aI 12 (k+1) ⟨Yd,h3⟩ Yd ⟨Ya,bQK⟩ rfl rfl Mm5 (aK)
 ·refine Wj ?_;exact aE rfl fun D hD=>Xah
theorem nV(sv fv:Γ)(xs:List Int)(p:Int→Bool)(D:aC)(hS:Sl D RI 1 sv xs)(hp:dE prog D iV fv p):
  Fn prog 309 #[sv,fv] D (fun _ v=>v=.bool (xs.any p)):=by
 refine Zx 9 func309 rfl fun h0=>Wby ?_;exact aE rfl fun D hD=>Xai
theorem J7(b:Nat)(fv:Γ)(p:Int→Bool)(x:Int)(D:aC)(hp:dE prog D iV fv p)(hB:At D b 0 [fv]):
  Fn prog 369 #[iV x,qP b] D (fun _ v=>v=.bool (!p x)):=by
 obtain⟨f,c1,c2,rfl,hf⟩:=hp;refine Zx 8 func369 rfl fun h0=>War ?_;exact aE rfl fun D hD=>rfl
theorem j3(sv fv:Γ)(xs:List Int)(p:Int→Bool)(D:aC)(hS:Sl D RI 1 sv xs)(hp:dE prog D iV fv p)(h1:fv.cells=#[fv]):
  Fn prog 327 #[sv,fv] D (fun _ v=>v=.bool (xs.all p)):=by
 refine Zx 9 func327 rfl fun h0=>aA<|tO (vs:=[fv]) rfl rfl h1 rfl bQK fun b O I hB=>Wam ?_;exact aE rfl fun D hD=>Xan
theorem xL(sv fv:Γ)(xs:List Ch)(p:Ch→Bool)(D:aC)(hS:Sl D xW 4 sv xs)(hp:dE prog D bIC fv p):
  Fn prog 326 #[sv,fv] D (fun _ v=>v=qI (idxOf p xs)):=by
 have hl:=hS.len;obtain⟨f,c1,c2,rfl,hf⟩:=hp;refine Zx 19 func326 rfl fun h0=>aA<|Zk rfl<|bK<|Za rfl<|dD rfl U37 rfl Yn rfl rfl bQK<|Wf ?_;rintro k ⟨h1,h2⟩;refine aA<|Zan rfl<|bS<|Zag rfl (fun hc1=>?_) fun hc1=>?_
 ·have hk:k<xs.length:=by omega
  obtain⟨x,hx⟩:=cB xs k;refine aQ<|Za5<|Za3<|aA<|Za rfl<|Zk rfl<|aL<|Za rfl<|Za rfl<|Za rfl<|dX rfl U37 iX rfl Yn rfl Yd Yn rfl bQK fun Y o1 I O V R=>?_;obtain rfl:I=[qI _,qI _,qI _,qI _]:=O;refine Zv rfl X9 rfl R iX<|Zf rfl (fun Z U=>hf x _ (U _ Ye))<|aF<|Zaf rfl (fun hc2=>?_) fun hc2=>?_
  ·refine Wbi ?_;exact aE rfl fun D hD=>Xam
  ·refine Wcf ?_;have hpx:p x=false:=hc2;have h3:(xs.take (k+1)).any p=false:=by rw[bLA,hx,bOP,h2];simp[hpx]
   exact aI 12 (k+1) ⟨Yd,h3⟩ Yd ⟨Ya,bQK⟩ rfl rfl Mm5 (aK)
 ·refine Wj ?_;exact aE rfl fun D hD=>Xah
theorem rR(sv fv:Γ)(xs:List Ch)(p:Ch→Bool)(D:aC)(hS:Sl D xW 4 sv xs)(hp:dE prog D bIC fv p):
  Fn prog 239 #[sv,fv] D (fun _ v=>v=.bool (xs.any p)):=by
 refine Zx 9 func239 rfl fun h0=>aA<|Zk rfl<|aL<|Za rfl<|Za rfl<|Zf rfl (fun O I=>xL _ _ xs p _ (Sl.at xW.up I Yn Ye) (hp.up (I _ Ye)))<|Wac ?_;exact aE rfl fun D hD=>Xai
theorem EY(b:Nat)(fv:Γ)(p:Ch→Bool)(x:Ch)(D:aC)(hp:dE prog D bIC fv p)(hB:At D b 0 [fv]):
  Fn prog 240 #[bIC x,qP b] D (fun _ v=>v=.bool (!p x)):=by
 obtain⟨f,c1,c2,rfl,hf⟩:=hp;refine Zx 8 func240 rfl fun h0=>aA<|Zab rfl fun U E1 R I=>Zk rfl<|aL<|Zd 0 rfl aYP rfl hB rfl<|Zv rfl X9 rfl I iX<|Wab ?_;exact aE rfl fun D hD=>rfl
theorem QE(sv fv:Γ)(xs:List Ch)(p:Ch→Bool)(D:aC)(hS:Sl D xW 4 sv xs)(hp:dE prog D bIC fv p)(h1:fv.cells=#[fv]):
  Fn prog 170 #[sv,fv] D (fun _ v=>v=.bool (xs.all p)):=by
 refine Zx 9 func170 rfl fun h0=>aA<|tO (vs:=[fv]) rfl rfl h1 rfl bQK fun b O I hB=>Zk rfl<|aL<|Za rfl<|Za0 rfl<|Zf rfl (fun O I=>rR _ _ xs (fun x=> !p x) _ (Sl.at xW.up I Yn Ye) ⟨_,[],[qP b],rfl,fun x R hl=>EY b fv p x R (hp.up ((I _ Ye).trans hl)) (hB.up ((I _ Ye).trans hl))⟩)<|Zau rfl<|We ?_;exact aE rfl fun D hD=>Xan
theorem xU(sv fv:Γ)(xs:List (Int×Int))(p:(Int×Int)→Bool)(D:aC)(hS:Sl D R2 2 sv xs)(hp:dE prog D mH fv p):
  Fn prog 329 #[sv,fv] D (fun _ v=>v=qI (idxOf p xs)):=by
 have hl:=hS.len;obtain⟨f,c1,c2,rfl,hf⟩:=hp;refine Zx 19 func329 rfl fun h0=>aA<|Zk rfl<|bK<|Za rfl<|dD rfl U38 rfl Yn rfl rfl bQK<|Wf ?_;rintro k ⟨h1,h2⟩;refine aA<|Zan rfl<|bS<|Zag rfl (fun hc1=>?_) fun hc1=>?_
 ·have hk:k<xs.length:=by omega
  obtain⟨x,hx⟩:=cB xs k;refine aQ<|Za5<|Za3<|aA<|Za rfl<|Zk rfl<|aL<|Za rfl<|Za rfl<|Za rfl<|dX rfl U38 cY rfl Yn rfl Yd Yn rfl bQK fun Y o1 I O V R=>?_;obtain rfl:I=[qI _,qI _]:=O;refine Zv rfl oA rfl R cY<|Zf rfl (fun Z U=>hf x _ (U _ Ye))<|aF<|Zaf rfl (fun hc2=>?_) fun hc2=>?_
  ·refine Wbi ?_;exact aE rfl fun D hD=>Xam
  ·refine Wcf ?_;have hpx:p x=false:=hc2;have h3:(xs.take (k+1)).any p=false:=by rw[bLA,hx,bOP,h2];simp[hpx]
   exact aI 12 (k+1) ⟨Yd,h3⟩ Yd ⟨Ya,bQK⟩ rfl rfl Mm5 (aK)
 ·refine Wj ?_;exact aE rfl fun D hD=>Xah
theorem sE(sv fv:Γ)(xs:List (Int×Int))(p:(Int×Int)→Bool)(D:aC)(hS:Sl D R2 2 sv xs)(hp:dE prog D mH fv p):
  Fn prog 242 #[sv,fv] D (fun _ v=>v=.bool (xs.any p)):=by
 refine Zx 9 func242 rfl fun h0=>aA<|Zk rfl<|aL<|Za rfl<|Za rfl<|Zf rfl (fun O I=>xU _ _ xs p _ (Sl.at R2.up I Yn Ye) (hp.up (I _ Ye)))<|Wac ?_;exact aE rfl fun D hD=>Xai
theorem EK(b:Nat)(fv:Γ)(p:(Int×Int)→Bool)(x:(Int×Int))(D:aC)(hp:dE prog D mH fv p)(hB:At D b 0 [fv]):
  Fn prog 243 #[mH x,qP b] D (fun _ v=>v=.bool (!p x)):=by
 obtain⟨f,c1,c2,rfl,hf⟩:=hp;refine Zx 8 func243 rfl fun h0=>aA<|Zab rfl fun U E1 R I=>Zk rfl<|aL<|Zd 0 rfl aYU rfl hB rfl<|Zv rfl oA rfl I cY<|Wab ?_;exact aE rfl fun D hD=>rfl
theorem PW(sv fv:Γ)(xs:List (Int×Int))(p:(Int×Int)→Bool)(D:aC)(hS:Sl D R2 2 sv xs)(hp:dE prog D mH fv p)(h1:fv.cells=#[fv]):
  Fn prog 172 #[sv,fv] D (fun _ v=>v=.bool (xs.all p)):=by
 refine Zx 9 func172 rfl fun h0=>aA<|tO (vs:=[fv]) rfl rfl h1 rfl bQK fun b O I hB=>Zk rfl<|aL<|Za rfl<|Za0 rfl<|Zf rfl (fun O I=>sE _ _ xs (fun x=> !p x) _ (Sl.at R2.up I Yn Ye) ⟨_,[],[qP b],rfl,fun x R hl=>EK b fv p x R (hp.up ((I _ Ye).trans hl)) (hB.up ((I _ Ye).trans hl))⟩)<|Zau rfl<|We ?_;exact aE rfl fun D hD=>Xan
theorem GC(sv:Γ)(x:Int)(xs:List Int)(D:aC)(hS:Sl D RI 1 sv (x::xs)):
  Fn prog 250 #[sv] D (fun _ v=>v=qI (xs.foldl min x)):=by
 have hl:=hS.len;simp only[bLF]at hl;refine Zx 25 func250 rfl fun h0=>aA<|Zk rfl<|bK<|Za rfl<|dD rfl U25 rfl Yn rfl rfl bQK<|Zan rfl<|aF<|Zag rfl (fun hc1=>?_) fun hc1=>?_
 ·exact absurd hc1 (by simp only[bLF];omega)
 ·refine aQ<|aA<|Za rfl<|dX rfl U25 aJ rfl Yn rfl Yd Ybc rfl bQK fun b1 o1 I O Z R=>?_;obtain rfl:I=[qI _]:=O;refine Wal ?_;rintro k h1;refine bM<|Za rfl<|Za rfl<|dD rfl U25 rfl Yn rfl rfl bQK<|Zan rfl<|aF<|Zag rfl (fun hc2=>?_) (fun hc2=>?_)
  ·simp only[bLF]at hc2;have hk:k<xs.length:=by omega
   obtain⟨y,hy⟩:=cB xs k;have hE:(x::xs)[(k+1:Int).toNat]?= some y:=by rw[show((k:Int)+1).toNat=k+1 by omega];simpa using hy
   refine aQ<|Za5<|Za3<|aP<|Za rfl<|Za rfl<|Za rfl<|dX rfl U25 aJ rfl Yn rfl Yd Yn rfl bQK fun b2 o2 U V hB Y=>?_;obtain rfl:U=[qI _]:=V;refine Zd 0 rfl aH rfl Y rfl<|OX rfl rfl rfl rfl bQK<|Wz ?_;have h3:(xs.take (k+1)).foldl min x=min ((xs.take k).foldl min x) y:=by rw[bLA,hy,bMT];rfl
   exact aI 16 (k+1) Yd Yd ⟨(by rw[h3];rfl),Ya,bQK⟩ rfl rfl Mm5 (aK)
  ·simp only[bLF]at hc2;refine Wn ?_;exact aE rfl fun D hD=>Xcf
theorem nH(sv:Γ)(x:Int)(xs:List Int)(D:aC)(hS:Sl D RI 1 sv (x::xs)):
  Fn prog 177 #[sv] D (fun _ v=>v=qI (xs.foldl min x)):=by
 refine Zx 5 func177 rfl fun h0=>Waw ?_;exact aE rfl fun D hD=>rfl
theorem bCR{p:Pt}:(p.l== [1,1,1])=iK p:=by
 obtain⟨a,b,c⟩:=p;simp only[iK,Pt.l,Pt.mk.injEq];rw[bOC];simp
theorem aMO{m k i:Nat}(hk:m.testBit k=true)(h1:i≤k)(h:((m >>> i:Nat):Int)%2=0):i+1≤k:=by
 rw[mQ]at h;have:i≠k:=by rintro rfl;rw[hk]at h;simp at h
 omega
theorem bAL{m k i:Nat}(hl:∀i,i<k→m.testBit i=false)(h1:i≤k)(h:¬((m >>> i:Nat):Int)%2=0):i=k:=by
 rw[mQ]at h;by_cases hi:i<k
 ·rw[hl i hi]at h;simp at h
 ·omega
theorem CW(r:Int×Int)(n:Int)(D:aC):Fn prog 249 #[mH r,qI n] D (fun _ v=>v=.bool (gZ n r.1 r.2)):=by
 refine Zx 11 func249 rfl fun h0=>aA<|Zab rfl fun U E1 O I=>Zk rfl<|aL<|Za rfl<|Zi rfl zB rfl<|Zd 0 rfl aH rfl I rfl<|Zi rfl xX rfl<|Zd 1 rfl aH rfl I rfl<|Zf rfl (fun V R=>fC _ _ _ _)<|Zk rfl ?_;refine aG ?_;exact aE rfl fun D hD=>rfl
theorem vZ(r:Int×Int)(n:Int)(D:aC):Fn prog 89 #[mH r,qI n] D (fun _ v=>v=mH (min r.1 n,max r.2 n)):=by
 refine Zx 15 func89 rfl fun h0=>aA<|Zab rfl fun q1 E1 hB R=>Zad rfl kR rfl fun q2=>bS<|iZ [] 4 [0,1,2,5,6,7,8,3,4,9,10] [false,false,true,true,true,true,true,true,true,false,false] [(false,0),(false,1),(true,2),(true,5),(true,6),(true,7),(true,8),(true,3),(true,4),(false,9),(false,10)] bC (fun _ _ _ h=>eZ (P:=prog) (fn:=f89) _ _ _ h) Yg rfl<|Zi rfl zB rfl<|Zd 0 rfl aH rfl R rfl<|Za rfl<|Zi rfl xX rfl<|Zd 1 rfl aH rfl R rfl<|Za rfl ?_;refine qF rfl rfl rfl rfl bQK<|Zu rfl U25 aJ cK rfl (.cons rfl rfl (.cons rfl rfl .nil)) fun Y Z U I=>?_;have O:=Sl.ofInts (l:=[_,_]) (n:=2) (cap:=2) I rfl Yd Yd;refine Zf rfl (fun D1 V=>nH _ r.1 [n] _ (O.up RI.up (V _ Ye)))<|Zt [qI (min r.1 n),qI (max r.2 n)] rfl t7 kR rfl<|Zy rfl cY ζ<|aG ?_;exact Zo [_] rfl ⟨⟨_,_,_,rfl,Mm0,Or.inr ⟨oA,Xap,rfl⟩⟩,bQK⟩ fun D hD=>rfl
theorem aIR(n m:Int)(b:Nat)(D:aC)(hB:At D b 0 [qI m]):Fn prog 328 #[qI n,qP b] D (fun _ v=>v=.bool (gZ n 0 m)):=by
 refine Zx 7 func328 rfl fun h0=>aA<|Zk rfl<|aL<|Za rfl<|Zd 0 rfl aH rfl hB rfl<|Zf rfl (fun O I=>fC _ _ _ _)<|We ?_;exact aE rfl fun D hD=>rfl
theorem aPY(p:Pt)(m:Int)(D:aC):Fn prog 241 #[bII p,qI m] D (fun _ v=>v=.bool (SL p m)):=by
 refine Zx 8 func241 rfl fun h0=>aA<|Zab rfl fun q1 E1 U O=>Zab rfl fun V E2 Y R=>Zk rfl<|aL<|aRB rfl U210 aJ rfl rfl bQK<|Za0 rfl<|Zf rfl (fun D1 I=>j3 _ _ p.l (fun x=>gZ x 0 m) _ (Sl.ofInts (l:=p.l) (n:=3) (cap:=3) (O.up (I _ Ye)) rfl Yd Yd) ⟨_,[],[_],rfl,fun x Z hl=>aIR x m V Z (R.up ((I _ Ye).trans hl))⟩ rfl)<|We ?_;exact aE rfl fun D hD=>rfl
theorem HP(c:Ch)(D:aC):Fn prog 171 #[bIC c] D (fun _ v=>v=.bool (lC c)):=by
 refine Zx 11 func171 rfl fun h0=>aA<|Zab rfl fun Y E1 R I=>Zk rfl<|aL<|Zi rfl p9 rfl<|Zd 0 rfl aH rfl I rfl<|Zf rfl (fun Z U=>fC _ _ _ _)<|Za rfl ?_;refine' bW 4 (s:=6) (p:=10) rfl (fun O=>?_) (fun O=>?_) ?_;rotate_left
 ·refine Zj rfl O5 rfl<|jW rfl (k:=1) oW nT rfl I Yc rfl rfl n4 rfl ⟨_,rfl,rfl⟩<|Zg rfl (fun D2 V=>aPY c.parts 2 _)<|Zak rfl ?_;exact aM 3
 ·refine Wb ?_;exact aM 3
 refine We ?_;exact aE rfl fun D hD=>rfl
theorem aSS(yv:Γ)(y:aZ)(r:Int×Int)(D:aC)(hy:gU D yv y):Fn prog 168 #[yv,mH r] D (fun _ v=>v=.bool (mO r)):=by
 obtain⟨cv,qv,rfl,hc,hq⟩:=hy;refine Zx 20 func168 rfl fun h0=>aA<|Zab rfl fun Z E1 U V=>Zab rfl fun q2 E2 Y I=>Zk rfl<|aL<|Zi rfl zB rfl<|Zd 0 rfl aH rfl I rfl<|iD rfl rfl rfl rfl bQK<|Za rfl ?_;refine' bW 6 (s:=8) (p:=14) rfl (fun O=>?_) (fun O=>?_) ?_;rotate_left
 ·refine Zj rfl zB rfl<|Ze 0 rfl aH rfl I rfl<|Zj rfl xX rfl<|Wbt ?_;exact aM 5
 ·refine Wp ?_;exact aM 5
 refine Za rfl ?_;refine' bW 4 (s:=15) (p:=19) rfl (fun R=>?_) (fun R=>?_) ?_;rotate_left
 ·refine Zj rfl xX rfl<|Wbt ?_;exact aM 3
 ·refine Wb ?_;exact aM 3
 refine We ?_;exact aE rfl fun D hD=>rfl
theorem Z5(p:Pt)(D:aC):Fn prog 246 #[bII p] D (fun _ v=>v=.bool (iK p)):=by
 refine Zx 6 func246 rfl fun h0=>aA<|Zab rfl fun R E1 O I=>Zk rfl<|aL<|dG rfl oW rfl I Yc Yad n4 rfl bQK<|W9 (cs:=[qI 1,qI 1,qI 1]) rfl U210 aJ m3 rfl rfl rfl bQK<|YZ (l:=p.l) (m:=[1,1,1]) rfl Yg U210 U3 Yg rfl rfl rfl rfl rfl bQK<|We ?_;exact aE rfl fun D hD=>by show Value.bool _=_;rw[bCR]
theorem aMD(m k:Nat)(D:aC)(hk:m.testBit k=true)(I:k≤60)(hl:∀i,i<k→m.testBit i=false):Fn prog 330 #[qI (m:Int)] D (fun _ v=>v=qI (k:Int)):=by
 refine Zx 11 func330 rfl fun h0=>aA<|Zk rfl<|bS<|Za3<|dW (γ:=Nat) (fun i=>k-i) (fun i=>i≤k) (fun i=>[(2,qI (i:Int))]) [(0,_)] (fun i=>[D]) 0 Yd ⟨Ya,bQK⟩ ⟨rfl,bQK⟩ (aK) ?_;rintro i h1;refine bM<|Za rfl<|Za rfl<|W2 rfl rfl rfl Yd rfl bQK<|C4 rfl rfl rfl (bPQ _) Yd Xch rfl bQK<|Zaw rfl<|aF<|Zag rfl (fun hc1=>?_) fun hc1=>?_
 ·refine aQ<|Za3<|aP<|Za rfl<|Zah rfl<|Zk rfl<|Zap<|Za6 ?_;exact aI 9 (i+1) (aMO hk h1 hc1) (by have:=aMO hk h1 hc1;omega) ⟨Ya,bQK⟩ rfl rfl Mm5 (aK)
 ·obtain rfl:=bAL hl h1 hc1;refine Wn ?_;exact aE rfl fun D hD=>rfl
end L7
end Go.Fs
