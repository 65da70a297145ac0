/- Of BookResumes. -/
import Derived.Test.YtdjdcpieiedfgaaGreatDoorZBookResumesAB
import Derived.Maps.RangeRun
namespace Go.Fs
variable{P:Program}{X:Cx}{γb:Type}[Membership Nat γb]{bad:γb}{all:Array Oper}{K:Act→Δ→Prop}{Q:Exit→Act→Δ→Prop}
variable{σ:bU}{μ:aD}{Ds:List aC}{os:List (Bool×Nat)}{fl:Bool}{ix:Nat}
variable{d:Nat}{x y z:Operand}{u v:Γ}{ty:Θ}{pos:String}{aft:Array Edge}{g:Option (Nat×Bool)}
def MP(β:List Nat)(D:aC)(w:Δ)(bo:Nat)(cs:List Γ):Prop:=bo∈β∧D bo=[]∧∃e fz,w.heap[bo]?= some (.cells cs.toArray e fz)
def gI(D:aC)(bo:Nat)(cs:List Γ):aC:=fun c=>if c=bo then cs else D c
theorem M7{D:aC}{bo:Nat}{cs:List Γ}(h:D bo=[])(h0:bo≠0):Le D (gI D bo cs):=⟨fun c=>by
 unfold gI;split
 ·rename_i e;subst e;rw[h];exact bRW
 ·exact List.prefix_refl _,by unfold gI;rw[bNA (Ne.symm h0)]⟩
theorem EY(D:aC)(bo:Nat)(cs:List Γ):At (gI D bo cs) bo 0 cs:=fun j v hj=>by unfold gI;simpa using hj
theorem JX{D:aC}{w:Δ}{bo:Nat}{cs:List Γ}{e:Θ}{fz:Nat×Nat}(h:fA D w)(hb:w.heap[bo]?= some (.cells cs.toArray e fz))(hD:D bo=[]):fA (gI D bo cs) w:=h.of (fun c hc=>by
 unfold gI at hc ⊢
 split
 ·rename_i ec;subst ec;exact⟨_,_,_,hb,List.prefix_refl _⟩
 ·rename_i ec;rw[bNA ec]at hc;exact h.1 c hc) (by unfold gI;rw[bNA (Ne.symm (h.ne0 hD))]) rfl
theorem iT.hide{w w':Δ}{D D':aC}{mods:List Nat}{μ:aD}{bo:Nat}{cs:List Γ}(h:iT (hd w) w.heap.size (gI D bo cs) mods μ D' w')(hD:D bo=[])(I:bo≠0):iT (hd w) w.heap.size D mods μ (gI D' bo []) w':=by
 refine⟨h.hlo,h.size,h.old,fun b hb=>?_,h.agr.of (fun b hb=>?_) (by unfold gI;rw[bNA (Ne.symm I)]) rfl,fun p hp=>?_,h.nd,h.fz,h.env⟩
 ·unfold gI;split
  ·rename_i e;subst e;exact hD.symm
  ·rename_i e;rw[h.dold b hb];unfold gI;rw[bNA e]
 ·unfold gI at hb ⊢
  split
  ·rename_i e;rw[bNK e]at hb;exact absurd rfl hb
  ·rename_i e;rw[bNA e]at hb;exact h.agr.1 b hb
 ·obtain⟨h1,h2,h3⟩:=h.box p hp;refine⟨h1,?_,h3⟩;unfold gI;split
  ·rfl
  ·exact h2
def bFS{α:Type}(P:Program)(f:FuncId)(cap:List Γ)(Dr:aC)(xs:List α)(enc:Nat→List Γ)(cells:α→List Γ):Prop:=
 EF P f∧∀(lo l:Nat) (J Jx:List α→wE),(∀pre,V6 lo (J pre))→(∀pre,V6 lo (Jx pre))→
  (∀pre x β D w bo,(∃r,xs=pre++x::r)→N9 lo D w→J pre β D w→(∀b∈β,b<w.heap.size)→Le Dr D→MP β D w bo (cells x)→
   jI P l (enc bo) w fun b D' w'=>N9 lo D' w'∧N6 β D w D' w'∧(if b then J (pre++[x]) β D' w' else Jx (pre++[x]) β D' w'))→
  ∀D w,N9 lo D w→Le Dr D→J [] [] D w→Calls P f (.func (.yield l) #[] #[]::cap).toArray w fun e w'=>∃v D',e=.returned v∧N9 lo D' w'∧(J xs [] D' w'∨∃pre,Jx pre [] D' w')
theorem aUI{J J1 J0:wE}{l:Nat}{c:Operand}{xs:Array Operand}{ats:Array Θ}{vs:List Γ}(ho:all[ix]?= some ⟨some d,.call {callee:=.value c,args:=xs,argTypes:=ats},ty,pos,aft,g⟩)
  (hc:ev σ c=some (.func (.yield l) #[] #[])) (hxs:q9 σ xs.toList=some vs) (hex:X.ex=some J) (hfl:fl=false) (h0:X.h0=⟨#[],none⟩) (_hm:X.mods=[]) (I:V6 X.lo J1) (O:V6 X.lo J0)
  (hY:∀D w,N9 X.lo D w→J (μ.map (·.1)) D w→(∀p∈μ,w.heap[p.1]?= some p.2∧D p.1=[])→(∀D₁∈Ds,Le D₁ D)→jI P l vs w fun b D' w'=>N9 X.lo D' w'∧N6 (μ.map (·.1)) D w D' w'∧(if b then J1 (μ.map (·.1)) D' w' else J0 (μ.map (·.1)) D' w'))
  (hN:Nat.blt d X.N=true) (hg:cQ all σ g)
  (U:WL P (X.withEx J1) bad all K Q os ((d,.bool true)::σ) μ Ds) (V:WL P (X.withEx J0) bad all K Q os ((d,.bool false)::σ) μ Ds):WL P X bad all K Q ((fl,ix)::os) σ μ Ds:=by
 refine fF ho rfl rfl hg fun a w hh=>?_
 obtain⟨h1,h2,h3,D,h4,h5,R⟩:=id hh;have hJ:J (μ.map (·.1)) D w:=by unfold S9 at R;rw[hex]at R;exact R.2
 obtain⟨fn,tmps,assign,body,hy,hr⟩:=hY D w h4.dom hJ (fun p hp=>⟨(h4.box p hp).1,(h4.box p hp).2.1⟩) h5;have e:xs.map a.eval=vs.toArray:=by rw[←kT (fun _ _ hx=>hh.eval hx) hxs,←bRE]
 have hrun:(execOp a.eval ⟨some d,.call {callee:=.value c,args:=xs,argTypes:=ats},ty,pos,aft,g⟩).run P w=.ok (.round l fn tmps assign body) w:=by
  simp only[execOp,resolve,hh.eval hc,Deferred.ofValue,pure_bind,invoke,e];rw[←hy];simp
 rw[hrun];refine⟨fun h=>Xad,(IC hr).mono ?_⟩;rintro e' w' ⟨b,D',rfl,hd',hh',hb⟩;have hst:iT X.h0 X.lo X.D0 X.mods μ D' w':=by
  refine⟨h4.hlo,hd'.2,(fun b hb=>Xbq),(fun b hb=>Xbq),hd'.1,fun p hp=>?_,h4.nd,h4.fz,fun e he=>by rw[h0]at he;cases he⟩;obtain⟨p1,p2,p3⟩:=h4.box p hp;obtain⟨q1,Y⟩:=hh'.2.2 p.1 (bMR.2 ⟨p,hp,rfl⟩);exact⟨q1.trans p1,Y.trans p2,p3⟩
 have hds:∀D₁∈Ds,Le D₁ D':=fun D₁ hD₁=>(h5 D₁ hD₁).trans hh'.2.1
 refine⟨(fun h=>by rw[hfl]at h;cases h),?_⟩;cases b with
 |true=>
  refine U _ _ (Hl.put (X:=X.withEx J1) ⟨h1,h2,h3,D',hst,hds,⟨I,hb⟩⟩ hN _)
 |false=>
  refine V _ _ (Hl.put (X:=X.withEx J0) ⟨h1,h2,h3,D',hst,hds,⟨O,hb⟩⟩ hN _)
theorem KK{J J1 J0:wE}{l N lo:Nat}{c:Operand}{xs:Array Operand}{ats:Array Θ}{vs:List Γ}(ho:all[ix]?= some ⟨some d,.call {callee:=.value c,args:=xs,argTypes:=ats},ty,pos,aft,g⟩)
  (hc:ev σ c=some (.func (.yield l) #[] #[])) (hxs:q9 σ xs.toList=some vs) (hfl:fl=false) (I:V6 lo J1) (O:V6 lo J0)
  (hY:∀D w,N9 lo D w→J (μ.map (·.1)) D w→(∀p∈μ,w.heap[p.1]?= some p.2∧D p.1=[])→(∀D₁∈Ds,Le D₁ D)→jI P l vs w fun b D' w'=>N9 lo D' w'∧N6 (μ.map (·.1)) D w D' w'∧(if b then J1 (μ.map (·.1)) D' w' else J0 (μ.map (·.1)) D' w'))
  (hN:Nat.blt d N=true) (hg:cQ all σ g)
  (kk:∀b J',J'=(if b=true then J1 else J0)→WL P (Xj N lo J') bad all K Q os ((d,.bool b)::σ) μ Ds):WL P (Xj N lo J) bad all K Q ((fl,ix)::os) σ μ Ds:=
 aUI (X:=Xj N lo J) ho hc hxs rfl hfl rfl rfl I O hY hN hg (kk true J1 rfl) (kk false J0 rfl)
def aRL{γ:Type}(h0:H0)(lo:Nat)(D0:aC)(mods:List Nat)(Ds:List aC)(Φ:γ→Prop)(Mx:γ→aD):wE:=fun β D w=>
 ∃g,Φ g∧iT h0 lo D0 mods (Mx g) D w∧(∀D₁∈Ds,Le D₁ D)∧(∀b∈β,h0.size≤b∧∀D₁∈Ds,D₁ b=[])∧(∀p∈Mx g,p.1∉β)∧∀k∈mods,k∈(Mx g).ks
theorem l9{γ:Type}{h0:H0}{lo:Nat}{D0:aC}{mods:List Nat}{Ds:List aC}{Φ:γ→Prop}{Mx:γ→aD}:V6 lo (aRL h0 lo D0 mods Ds Φ Mx):=by
 constructor
 ·rintro β D w D' w' ⟨g,hg,hs,hD,hβ,hM,hmk⟩ ⟨hl1,I,O⟩ hd;have box':∀p∈Mx g,w'.heap[p.1]?= w.heap[p.1]?∧D' p.1=D p.1:=fun p hp=>I p.1 (bJ (hs.box p hp).1) (hM p hp)
  refine⟨g,hg,⟨hs.hlo,hd.2,fun b hb hm=>?_,fun b hb=>?_,hd.1,fun p hp=>?_,hs.nd,hs.fz,fun e he=>O.trans (hs.env e he)⟩,fun D₁ hD₁=>⟨fun b=>?_,?_⟩,hβ,hM,hmk⟩
  ·have hlt:b<w.heap.size:=by have:=hs.hlo;have:=hs.size;omega
   have hn:b∉β:=fun h=>by have:=(hβ b h).1;omega
   rw[(I b hlt hn).1];exact hs.old b hb hm
  ·have hlt:b<w.heap.size:=by have:=hs.hlo;have:=hs.size;omega
   have hn:b∉β:=fun h=>by have:=(hβ b h).1;omega
   rw[(I b hlt hn).2];exact hs.dold b hb
  ·obtain⟨p1,p2,p3⟩:=hs.box p hp;obtain⟨q1,R⟩:=box' p hp;exact⟨q1.trans p1,R.trans p2,p3⟩
  ·by_cases hb:b∈β
   ·rw[(hβ b hb).2 D₁ hD₁];exact bRW
   ·by_cases hlt:b<w.heap.size
    ·rw[(I b hlt hb).2];exact(hD D₁ hD₁).1 b
    ·have:=(hD D₁ hD₁).1 b;rw[hs.agr.fresh (Nat.le_of_not_lt hlt)]at this;rw[List.prefix_nil.1 this];exact bRW
  ·have h0:(0:Nat)∉β:=fun hm=>hs.agr.2.1 ((hD D₁ hD₁).2.trans ((hβ 0 hm).2 D₁ hD₁))
   rw[(I 0 hs.agr.pos h0).2];exact(hD D₁ hD₁).2
 ·rintro β β' D w ⟨g,hg,hs,hD,hβ,hM,hmk⟩ hb';refine⟨g,hg,hs,hD,fun b hb=>?_,fun p hp hb=>?_,hmk⟩
  ·rcases hb' b hb with h|h
   ·exact hβ b h
   ·refine⟨by have:=hs.hlo;have:=hs.size;omega,fun D₁ hD₁=>?_⟩;have:=(hD D₁ hD₁).1 b;rw[hs.agr.fresh h]at this;exact List.prefix_nil.1 this
  ·rcases hb' _ hb with h|h
   ·exact hM p hp h
   ·have:=bJ (hs.box p hp).1;omega
theorem iT.roundM{h0:H0}{lo:Nat}{D0 D D':aC}{mods:List Nat}{μ μ':aD}{w w':Δ}(h:iT h0 lo D0 mods μ D w)(_hmk:∀k∈mods,k∈μ.ks)(hs:iT (hd w) w.heap.size D (μ.map (·.1)) μ' D' w'):iT h0 lo D0 mods μ' D' w':=by
 have hle:=bPD h.hlo h.size;have hkey:∀b∈μ.map (·.1),lo≤b∨b∈mods:=by
  intro b hb;obtain⟨p,hp,rfl⟩:=bMR.1 hb;exact(h.box p hp).2.2
 refine⟨h.hlo,bPD h.size hs.size,fun b hb hm=>?_,fun b hb=>?_,hs.agr,fun p hp=>?_,hs.nd,hs.fz,fun e he=>(hs.env _ rfl).trans (h.env e he)⟩
 ·rw[hs.old b (bPO hb hle) (fun hk=>by
   rcases hkey b hk with h1|h1
   ·have:=h.hlo;omega
   ·exact hm h1)]
  exact h.old b hb hm
 ·rw[hs.dold b (bPO hb hle)];exact h.dold b hb
 ·obtain⟨p1,p2,p3⟩:=hs.box p hp;refine⟨p1,p2,?_⟩;rcases p3 with p3|p3
  ·exact bNI (by have:=h.size;omega)
  ·exact hkey _ p3
theorem bCC{α γ:Type}{xs:List α}{enc:Nat→List Γ}{cells:α→List Γ}{Dr:aC}{f:FuncId}{cap:List Γ}{gop:Operand}{ps:Array Tmp}{assign body:Code}
  (Φ:List α→γ→Prop) (Ψ:List α→Code→γ→Prop) (M:γ→aD) (g₀:γ) (hr:X.r=none) (hex:X.ex=none) (hmods:∀g,∀k∈X.mods,k∈(M g).ks)
  (hg:ev σ gop=some (.func (.func f) #[] cap.toArray)) (hit:bFS P f cap Dr xs enc cells) (hDr:Dr∈Ds) (hps:∀b,(enc b).length=ps.size) (hpN:(ps.toList.all fun p=>Nat.blt p X.N)=true) (h₀:Φ [] g₀) (hμ:M g₀=μ)
  (hround:∀pre x g,(∃r,xs=pre++x::r)→Φ pre g→∀(l bd bo:Nat) (rec:Loop) (h0:H0) (D:aC),(∀D₁∈Ds,Le D₁ D)→At D bo 0 (cells x)→rec.state=.ready→rec.pending=none→
   WC P (Xr l X.N h0 D ((M g++(l,Obj.loop rec)::[(bd,Obj.deferred (some []))]).map (·.1)))
    (Exit.then (fun a₁ w₁=>∃w₂,(Instr.beginRound l).run P w₁=.ok () w₂∧body.wpIn ((FW none).inRound l) 0 P (roundPost P l (H4 h0 D ((M g++(l,Obj.loop rec)::[(bd,Obj.deferred (some []))]).map (·.1)) (Φ (pre++[x])) (Ψ (pre++[x]))
     (fun g=>M g++(l,Obj.loop {rec with state:=.ready,pending:=none})::[(bd,Obj.deferred (some []))]) fun c g=>M g++(l,Obj.loop {rec with state:=.done,pending:=some c})::[(bd,Obj.deferred (some []))])) a₁ w₂) fun _ _ _=>False)
    assign (O1 ps.toList (enc bo) σ) (M g++(l,Obj.loop rec)::[(bd,Obj.deferred (some []))]) (D::Ds))
  (hdone:∀g bd,Φ xs g→∀a w,Hl (X.withDs bd) σ (M g++[(bd,Obj.deferred (some []))]) Ds a w→Q .normal a w)
  (hstop:∀pre c g bd,Ψ pre c g→WC P (X.withDs bd) Q c σ (M g++[(bd,Obj.deferred (some []))]) Ds):WC P X Q (.rangeFunc gop ps assign body) σ μ Ds:=by
 intro a w hh;subst hμ;have hev:=hh.eval hg;obtain⟨h1,h2,h3,D,h4,h5,h6⟩:=hh;refine wpIn_rangeFunc fun fn _=>?_
 have hround':(FW X.r).round=none:=hr;rw[hround'];have hmk:∀g (B:aD),∀k∈X.mods,k∈(M g++B).ks:=fun g B k hk=>by
  show k∈(M g++B).map _;rw[bNG];exact bNE _ (hmods g k hk)
 let bd:=w.heap.size
 let l:=w.heap.size+1
 let I:Loop:={state:=.ready,pending:=none,fn,tmps:=a.tmps,params:=ps,assign,body,defers:=bd}
 let V:Δ:={w with heap:=w.heap.push (.deferred (some []))}
 let U:Δ:={V with heap:=V.heap.push (.loop I)}
 have Y:iT X.h0 X.lo X.D0 X.mods ((bd,Obj.deferred (some []))::M g₀) D V:=h4.push (.deferred (some [])) trivial;have O:iT X.h0 X.lo X.D0 X.mods ((l,Obj.loop I)::(bd,Obj.deferred (some []))::M g₀) D U:=by
  have:=Y.push (.loop I) trivial;have e:V.heap.size=l:=by simp[V,l]
  rw[e]at this;exact this
 have hperm:iT X.h0 X.lo X.D0 X.mods (M g₀++(l,Obj.loop I)::[(bd,Obj.deferred (some []))]) D U:=by
  refine O.sub (fun p hp=>?_) ?_
  ·simp only[bNH,LT,n4,bOZ]at hp ⊢
   rcases hp with hp|hp|hp
   ·exact bNC (bNC hp)
   ·exact bNI hp
   ·exact bNC (bNI hp)
  ·have hn:=O.nd;simp only[bNT,bOT,LT,bSF]at hn;simp only[bNG,bNT,bRF,bNF,bOT,LT,n4,bOZ,bRV,bPA,and_true];refine⟨hn.2.2,hn.1.1,fun q hq r hr'=>?_⟩;rcases hr' with rfl|rfl
   ·rintro rfl;exact hn.1.2 hq
   ·rintro rfl;exact hn.2.1 hq
 refine⟨l,[nZ bd],U,{target:=.fn (.func f) cap.toArray,args:=#[.func (.yield l) #[] #[]]},U,f,(.func (.yield l) #[] #[]::cap).toArray,U,run_enterLoop_outer fn a.tmps ps assign body,?_,fun _ _=>trivial,?_,fun h=>Xad,?_⟩
 ·simp only[resolve,Deferred.ofValue];have e:Array.map a.eval #[Operand.const (Value.func (Fn.yield l) #[] #[])]=#[.func (.yield l) #[] #[]]:=by simp[Act.eval]
  rw[e,hev];rfl
 ·simp only[invoke];rw[hit.1];simp
 ·refine dR.2 ((hit.2 X.lo l
   (fun pre=>aRL X.h0 X.lo X.D0 X.mods Ds (Φ pre) fun g=>M g++(l,Obj.loop I)::[(bd,Obj.deferred (some []))])
   (fun pre=>aRL X.h0 X.lo X.D0 X.mods Ds (fun cg:Code×γ=>Ψ pre cg.1 cg.2) fun cg=>M cg.2++(l,Obj.loop {I with state:=.done,pending:=some cg.1})::[(bd,Obj.deferred (some []))])
   (fun _=>l9) (fun _=>l9) ?_ D U O.dom (h5 Dr hDr) ⟨g₀,h₀,hperm,h5,(fun _ h=>Xab),(fun _ _ h=>Xab),hmk g₀ _⟩).mono ?_)
  ·rintro pre x β Dx wx bo hx hdx ⟨g,hΦ,hst,hDs,hβ,hM,hmg⟩ hβs hle ⟨hbo,hbD,be,bfz,hbw⟩;have hbox:=(hst.box (l,Obj.loop I) Yf).1;refine⟨fn,_,assign,body,run_yield hbox (by simpa using hps bo),?_⟩;refine(roundIn_of_wpIn (F:=FW none) bSM (R:=H4 (hd wx) (gI Dx bo (cells x)) ((M g++(l,Obj.loop I)::[(bd,Obj.deferred (some []))]).map (·.1)) (Φ (pre++[x])) (Ψ (pre++[x]))
     (fun g=>M g++(l,Obj.loop {I with state:=.ready,pending:=none})::[(bd,Obj.deferred (some []))]) fun c g=>M g++(l,Obj.loop {I with state:=.done,pending:=some c})::[(bd,Obj.deferred (some []))]) ?_).mono ?_
   ·have hw:=hround pre x g hx hΦ l bd bo I (hd wx) (gI Dx bo (cells x)) (fun D₁ h=>(hDs D₁ h).trans (M7 hbD (hst.agr.ne0 hbD))) (EY _ _ _) rfl rfl;have ht:(ps.zip (enc bo).toArray).foldl (fun tmps (t,a)=>tmps.setIfInBounds t a) a.tmps=(ps.toList.zip (enc bo)).foldl (fun tmps (p:Tmp×Γ)=>tmps.setIfInBounds p.1 p.2) a.tmps:=by
     rw[←Array.foldl_toList];simp
    have hpN':∀p∈ps.toList,p<a.tmps.size:=fun p hp=>by rw[h1];simpa [Nat.blt_eq]using bNQ.1 hpN p hp
    refine hw {tmps:=_,defers:=[]} wx ⟨?_,fun s v hs=>?_,rfl,gI Dx bo (cells x),⟨bNJ _,bNJ _,fun _ _ _=>rfl,fun _ _=>rfl,JX hst.agr hbw hbD,fun p hp=>?_,hst.nd,hst.fz,fun e he=>bNS he⟩,fun D₁ hD₁=>?_,bSM⟩
    ·show((ps.zip (enc bo).toArray).foldl _ a.tmps).size=X.N;rw[ht,m9];exact h1
    ·show((ps.zip (enc bo).toArray).foldl _ a.tmps)[s]?= some v;rw[ht];exact Z3 _ _ _ _ h2 hpN' s v hs
    ·obtain⟨p1,p2,p3⟩:=hst.box p hp;exact⟨p1,Xdd,bNC (bMR.2 ⟨p,hp,rfl⟩)⟩
    ·rcases LT.1 hD₁ with rfl|hD₁
     ·exact Le.refl _
     ·exact(hDs D₁ hD₁).trans (M7 hbD (hst.agr.ne0 hbD))
   ·rintro e w' ⟨b,D',rfl,hb⟩;have fin:∀μ',iT (hd wx) wx.heap.size (gI Dx bo (cells x)) ((M g++(l,Obj.loop I)::[(bd,Obj.deferred (some []))]).map (·.1)) μ' D' w'→iT X.h0 X.lo X.D0 X.mods μ' (gI D' bo []) w'∧N6 β Dx wx (gI D' bo []) w'∧(∀D₁∈Ds,Le D₁ (gI D' bo []))∧(∀p∈μ',p.1∉β):=by
     intro μ' Z;have hs':=Z.hide hbD (hst.agr.ne0 hbD);refine⟨hst.roundM hmg hs',iT.roundHigh hst.agr hs' hβs hM,fun D₁ hD₁=>(hDs D₁ hD₁).trans (gO hst.agr hs'),fun p hp hpb=>?_⟩;rcases(hs'.box p hp).2.2 with h|h
     ·have:=hβs _ hpb;omega
     ·obtain⟨q,hq,he⟩:=bMR.1 h;exact hM q hq (by rw[he];exact hpb)
    refine⟨b,gI D' bo [],rfl,?_⟩;cases b with
    |true=>
     obtain⟨g',hg',hs'⟩:=hb;obtain⟨f1,f2,f3,f4⟩:=fin _ hs';exact⟨f1.dom,f2,g',hg',f1,f3,hβ,f4,hmk g' _⟩
    |false=>
     obtain⟨c',g',hg',hs'⟩:=hb;obtain⟨f1,f2,f3,f4⟩:=fin _ hs';exact⟨f1.dom,f2,(c',g'),hg',f1,f3,hβ,f4,hmk g' _⟩
  ·rintro e w' ⟨v,D',rfl,hd,hend⟩;have post:∀(g:γ) (r:Loop),iT X.h0 X.lo X.D0 X.mods (M g++(l,Obj.loop r)::[(bd,Obj.deferred (some []))]) D' w'→(∀D₁∈Ds,Le D₁ D')→
     Hl (X.withDs bd) σ (M g++[(bd,Obj.deferred (some []))]) Ds {a with defers:=[nZ bd]++a.defers} (w'.putObj l (.loop {r with state:=.exhausted})):=by
    intro g r hs hD';have hHas:bP (M g++(l,Obj.loop r)::[(bd,Obj.deferred (some []))]) l (.loop r) (.loop {r with state:=.exhausted}) (M g++(l,Obj.loop {r with state:=.exhausted})::[(bd,Obj.deferred (some []))]):=.app .head;have hs':=hs.set (w':=w'.putObj l (.loop {r with state:=.exhausted})) hHas ⟨rfl,rfl⟩ trivial;have hs'':=hs'.sub (μ':=M g++[(bd,Obj.deferred (some []))]) (fun p hp=>by
     rcases bNH.1 hp with hp|hp
     ·exact bNE _ hp
     ·exact GE _ (bMT _ hp)) (by
     have hn:=hs'.nd;rw[bNG,bNF]at hn ⊢
     simp only[bNT]at hn;exact⟨hn.1,(bOT.1 hn.2.1).2,fun q hq r hr=>hn.2.2 q hq r (bMT _ hr)⟩)
    exact⟨h1,h2,bNB (nZ bd:: ·) h3,D',hs'',hD',Xcj⟩
   rcases hend with⟨g,hΦ,hs,hDs,_,_,_⟩|⟨pre,⟨c,g⟩,hΨ,hs,hDs,_,_,_⟩
   ·have hb:=(hs.box (l,Obj.loop I) Yf).1;exact⟨none,_,run_endLoop hb (by simp[I]),hdone g bd hΦ _ _ (post g I hs hDs)⟩
   ·have hb:=(hs.box (l,Obj.loop {I with state:=.done,pending:=some c}) Yf).1;refine⟨some c,_,run_endLoop hb Yf,?_⟩;have:=hstop pre c g bd hΨ _ _ (post g _ hs hDs);exact this

theorem bHA{α:Type}{f:FuncId}{fn:Func}{c:Code}{cap:List Γ}{Dr:aC}{xs:List α}{enc:Nat→List Γ}{cells:α→List Γ}(N:Nat)(hf:P.funcs[f]?= some fn)(hn:(fn.name== "runtime.NumGoroutine")=false)(hb:fn.body=some c)(hN:fn.ntmps=N)(hsz:Nat.ble (cap.length+1) N=true)
  (h:∀(lo l:Nat) (J Jx:List α→wE),(∀pre,V6 lo (J pre))→(∀pre,V6 lo (Jx pre))→
   (∀pre x β D w bo,(∃r,xs=pre++x::r)→N9 lo D w→J pre β D w→(∀b∈β,b<w.heap.size)→Le Dr D→MP β D w bo (cells x)→
    jI P l (enc bo) w fun b D' w'=>N9 lo D' w'∧N6 β D w D' w'∧(if b then J (pre++[x]) β D' w' else Jx (pre++[x]) β D' w'))→
   WC P (Xj N lo (J [])) (bodyPost P fn (BI lo [Dr] fun _ J' _=>J'=J xs∨∃pre,J'=Jx pre)) c (jP 0 (.func (.yield l) #[] #[]::cap)) [] [Dr]):bFS P f cap Dr xs enc cells:=by
 refine⟨EF.of hf hn hb,fun lo l J Jx hs hsx hY D w hd hle hJ=>?_⟩;have hF:=W8 (μ:=[]) N hf hn hb hN (by simpa using hsz) (h lo l J Jx hs hsx hY);refine(hF.2 w ⟨D,⟨bRC _,hd.2,fun b hb=>absurd hb (bRH _),fun b hb=>absurd hb (bRH _),hd.1,Yi,bPA,Yi,fun e he=>by cases he⟩,fun D₁ h1=>?_,hs [],hJ⟩).mono ?_
 ·simp only[bNL]at h1;subst h1;exact hle
 ·rintro e w' ⟨v,J',μ',rfl,⟨D',hst,hds,hex⟩,hpost⟩;refine⟨v,D',rfl,hst.dom,?_⟩;have hJ':J' [] D' w':=hex.1.own _ [] D' w' hex.2 (fun b hb=>by cases hb);rcases hpost with rfl|⟨pre,rfl⟩
  ·exact bNI hJ'
  ·exact bNC ⟨pre,hJ'⟩
theorem tO{t e:Θ}{sz n:Nat}{z0:Γ}{zs cs:List Γ}{k k':IntKind}(ho:all[ix]?= some ⟨some d,.makeSlice t x y,ty,pos,aft,g⟩)(ht:P.underlying t=some (.slice e))(hs:TS P e sz)(hz:TZ P e z0)(hzc:z0.cells=zs.toArray)(hi:(P.info? e).map (fun i=>Nat.ble 1 i.bytes&&Nat.ble i.bytes 4096)=some true)
  (hx:ev σ x=some (.int k n)) (hy:ev σ y=some (.int k' n)) (hn:n≤10000) (hcs:((Array.range (n*sz)).map (zs.toArray[· %zs.toArray.size]!)).toList=cs) (hN:Nat.blt d X.N=true) (hg:cQ all σ g)
  (kk:∀b,WL P X bad all K Q os ((d,qS b n n)::σ) ((b,.cells cs.toArray e (0,0))::μ) Ds):WL P X bad all K Q ((fl,ix)::os) σ μ Ds:=by
 refine fF ho rfl rfl hg fun a w hh=>?_
 obtain⟨h1,h2,h3,D,h4,h5,V⟩:=id hh;have hn':=hn;obtain⟨i0,O,hb⟩:=bQD.1 hi;simp only[bMS]at hb;have Y:=bPE hb.1;have R:=bPE hb.2;have hti:∀w,(typeInfo e).run P w=.ok i0 w:=fun w=>by simp[typeInfo,program,Sem.run,O,go_sem]
 have hw:IntKind.i64.wrap (n:Int)=n:=sE Ye;have hbn:i0.bytes*n≤4096*10000:=bRR R hn';have hlarge:(((n:Int)<0)||decide ((i0.bytes:Int)*n>2^48))=false:=by
  have:((i0.bytes*n:Nat):Int)≤40960000:=Yd
  rw[Int.natCast_mul]at this;simp only[bOH,bMY];constructor
  ·omega
  ·omega
 have hzz:∀w,(zeroValue e).run P w=.ok z0 w:=hz;have hrun:(execOp a.eval ⟨some d,.makeSlice t x y,ty,pos,aft,g⟩).run P w=.ok (.value (.slice (some ⟨w.heap.size,0,none⟩) n n)) {w with heap:=w.heap.push (.cells cs.toArray e (0,0))}:=by
  have hcs':(Array.range (n*sz)).map (zs.toArray[· %zs.toArray.size]!)=cs.toArray:=by rw[←hcs]
  have hai:∀(k:IntKind) (m:Int) (w:Δ),(asInt (.int k m)).run P w=.ok m w:=fun _ _ _=>rfl
  simp only[execOp,Instr.makeSlice,hh.eval hx,hh.eval hy,hai,Ω,TU.of ht w,Ξ,ε,hti,hw,pure_bind];rw[bNA (by simp only[bNZ,GT,bSF];exact⟨⟨by simpa using hlarge,Yd⟩,Yd⟩)]
  simp only[Ω,BT,Ξ,hs w,bOI];by_cases hnz:n*sz=0
  ·rw[bNK hnz];have I:∀f:Nat→Γ,(Array.range 0).map f=#[]:=fun f=>by simp
   have U:cs.toArray=#[]:=by rw[←hcs',hnz];exact I _
   simp only[ε,Ω,U];rw[hnz];simp only[I,kB,Ξ]
  ·rw[bNA hnz];simp only[Ω,hzz,Ξ,ε,hzc,hcs',kB]
 rw[hrun];have hs':=h4.push (.cells cs.toArray e (0,0)) rfl;refine⟨fun _=>pU _ _ _,kk w.heap.size _ _ (Hl.put ⟨h1,h2,h3,D,hs',h5,V.step (fun _ p hp=>?_) (fun _=>⟨Yf,fun b hb _=>⟨dJ hb,rfl⟩,rfl⟩) hs'.dom⟩ hN _)⟩;rcases LT.1 hp with rfl|hp
 ·exact bNC (bNJ _)
 ·exact bNI (bMR.2 ⟨p,hp,rfl⟩)
theorem X1{n sz:Nat}{zs:List Γ}(h:∀u∈zs,u=qI 0)(hl:zs.length=sz):((Array.range (n*sz)).map (zs.toArray[· %zs.toArray.size]!)).toList=ints (List.replicate (n*sz) 0):=by
 apply List.ext_getElem?;intro i;simp only[bRE,Array.toList_range,bOD,ints,List.map_replicate,List.getElem?_replicate];by_cases hi:i<n*sz
 ·rw[bRI hi,bNK hi];have hpos:0<sz:=by
   rcases Nat.eq_zero_or_pos sz with h0|h0
   ·subst h0;simp at hi
   ·exact h0
  have hm:i%zs.toArray.size<zs.length:=by simp only[bOM,hl];exact Nat.mod_lt _ hpos
  simp only[bOO];congr 1;rw[getElem!_pos _ _ Xas];exact h _ Yf
 ·rw[bPU Yau,bNA hi];rfl

theorem Hl.freezeM{A B ν:aD}{e sz n:Nat}{cells:List Γ}{a:Act}{w:Δ}(hacc:bI e sz v n cells ν)(hmods:∀k∈X.mods,k∈(A++B).ks)(hh:Hl X σ (A++ν++B) Ds a w):
  ∃D',(∀D₁∈Ds,Le D₁ D')∧kZ D' v n cells∧Hl X σ (A++B) (D'::Ds) a w:=by
 obtain⟨h1,h2,h3,D,h4,h5,I⟩:=hh;rcases hacc with⟨old,hv,hn,hc,hν⟩|⟨b,cap,junk,hv,hncap,hν,hl1,O⟩
 ·subst hν;refine⟨D,h5,bNI ⟨old,hv,hn,hc⟩,h1,h2,h3,D,by simpa using h4,fun D₁ hD₁=>?_,by simpa using I⟩;rcases LT.1 hD₁ with rfl|hD₁
  ·exact Le.refl _
  ·exact h5 D₁ hD₁
 ·subst hν;have hb:=(h4.box (b,.cells (cells++junk).toArray e (0,0)) Yf).2.2;have hnb:b∉(A++B).ks:=fun hm=>by
   have hnd:=h4.nd;simp only[bNG,bNT,bND,bQJ]at hnd;have:=bNF.1 hnd;have h2':=bOT.1 this.2.1;simp only[aD.ks,bNG,bNH]at hm;rcases hm with hm|hm
   ·exact this.2.2 b hm b bMV rfl
   ·exact h2'.1 hm
  have hb':=hb.resolve_right fun h=>hnb (hmods b h);obtain⟨D',hle,hD',hDo,hs⟩:=h4.freeze hb';refine⟨D',fun D₁ hD₁=>(h5 D₁ hD₁).trans hle,bNC ⟨b,cap,hv,hncap,fun j u hj=>by rw[hD',bQB];exact hj⟩,h1,h2,h3,D',hs,fun D₁ hD₁=>?_,I.step (fun _ p hp=>bNI (bMR.2 ⟨p,Xdb,rfl⟩)) (fun _=>⟨bNJ _,fun c _ hn=>⟨rfl,hDo c (by rintro rfl;exact hn Yf)⟩,rfl⟩) hs.dom⟩
  rcases LT.1 hD₁ with rfl|hD₁
  ·exact Le.refl _
  ·exact(h5 D₁ hD₁).trans hle
theorem yM{A B ν:aD}{e sz n:Nat}{cells:List Γ}(hacc:bI e sz v n cells ν)(hmods:∀k∈X.mods,k∈(A++B).ks)(kk:∀D,(∀D₁∈Ds,Le D₁ D)→kZ D v n cells→WL P X bad all K Q os σ (A++B) (D::Ds)):WL P X bad all K Q os σ (A++ν++B) Ds:=by
 intro a w hh;obtain⟨D',h1,h2,h3⟩:=hh.freezeM hacc hmods;exact kk D' h1 h2 a w h3
theorem LD{T:Act→Δ→Prop}{A B ν:aD}{e sz n:Nat}{cells:List Γ}(hacc:bI e sz v n cells ν)(hmods:∀k∈X.mods,k∈(A++B).ks)(kk:∀D,(∀D₁∈Ds,Le D₁ D)→kZ D v n cells→∀a w,Hl X σ (A++B) (D::Ds) a w→T a w):∀a w,Hl X σ (A++ν++B) Ds a w→T a w:=by
 intro a w hh;obtain⟨D',h1,h2,h3⟩:=hh.freezeM hacc hmods;exact kk D' h1 h2 a w h3
theorem Hl.apart{a:Act}{w:Δ}{D₁:aC}{b o:Nat}{c:Γ}{cs:List Γ}(hh:Hl X σ μ Ds a w)(hA:At D₁ b o (c::cs))(hD:D₁∈Ds):b∉μ.ks:=by
 obtain⟨h1,h2,h3,D,h4,h5,I⟩:=hh;intro hm;obtain⟨p,hp,rfl⟩:=bMR.1 hm;have h0:=(h5 D₁ hD).get (hA 0 c rfl);rw[(h4.box p hp).2.1]at h0;simp at h0
theorem fN{c':Code}{D₁:aC}{b o:Nat}{c:Γ}{cs:List Γ}(hA:At D₁ b o (c::cs))(hD:D₁∈Ds)(k:b∉μ.ks→WC P X Q c' σ μ Ds):WC P X Q c' σ μ Ds:=fun a w hh=>k (hh.apart hA hD) a w hh
theorem At.tail{D:aC}{b o:Nat}{c:Γ}{cs:List Γ}(h:At D b o (c::cs)):At D b (o+1) cs:=fun j v hj=>by
 have:=h (j+1) v Xam;rw[show o+1+j=o+(j+1) by omega];exact this

theorem XV{f:FuncId}{fn:Func}{c:Code}{args:List Γ}{D:aC}{ν:aD}{post:aC→Γ→aD→Prop}(N:Nat)(hf:P.funcs[f]?= some fn)(hn:(fn.name== "runtime.NumGoroutine")=false)(hb:fn.body=some c)(hN:fn.ntmps=N)(hsz:Nat.ble args.length N=true)
  (h:∀h0:H0,(∀p∈ν,p.1<h0.size)→ν.ks.Nodup→WC P (sO N h0 D ν.ks) (V1 P fn (mW (sO N h0 D ν.ks) ν.ks post)) c (jP 0 args) ν [D]):IF P f args D ν post:=by
 refine⟨EF.of hf hn hb,fun w hw hν hnd=>?_⟩;subst hN;have hsz:=bPE hsz;have hq:∀e a w',V1 P fn (mW (sO fn.ntmps (hd w) D ν.ks) ν.ks post) e a w'→bodyPostM (FW none) 0 P fn (mW (sO fn.ntmps (hd w) D ν.ks) ν.ks post) e a w':=by
  intro e a w' he;cases e<;>first|exact he|exact he.elim
 have hwp:=h (hd w) (fun p hp=>bJ (hν p hp).1) hnd {tmps:=args.toArray++Array.replicate (fn.ntmps-args.toArray.size) undef,defers:=[]} w ⟨by simp[sO];omega,fun s v hs=>by
  obtain⟨_,h2⟩:=gX args 0 s v hs;have hl:=(bMW.1 h2).1;simp only[bQH]at h2 hl;show(args.toArray++_)[s]?= some v;rw[bPS Yaz];simpa using h2,rfl,D,⟨bNJ _,bNJ _,(fun _ _ _=>rfl),(fun _ _=>rfl),hw,(fun p hp=>⟨(hν p hp).1,(hν p hp).2.1,bNC (bMR.2 ⟨p,hp,rfl⟩)⟩),hnd,(fun p hp=>(hν p hp).2.2),fun e he=>bNS he⟩,(fun D₁ h1=>Xck),bSM⟩
 refine(dR (r:=none) (n:=0)).1 ((callsIn_of_wp_marks hf hb bSM (wpIn_mono hwp hq) rfl).mono ?_);rintro e w' ⟨v,D',ν',rfl,hk,hs,hp⟩;exact⟨v,D',ν',rfl,hk,hs,hp⟩
theorem SG{fn:Func}{bd:Nat}{ks:List Nat}{post:aC→Γ→aD→Prop}{e:Exit}(he:(match e with|.normal=>true|.ret=>true|_=>false)=true){rs:List ResultVar}{vs:List Γ}{A B ν':aD}(hds:X.ds=[])(hr:fn.results=rs.toArray)(h:C5 P X σ (A++ν'++B++[(bd,Obj.deferred none)]) rs vs)
  (hk:ν'.ks=ks) (hp:∀D,(∀D₁∈Ds,Le D₁ D)→post D (qO vs) ν'):∀a w,Hl (X.withDs bd) σ (A++ν'++B++[(bd,Obj.deferred (some []))]) Ds a w→V1 P fn (mW X ks post) e a w:=by
 intro a w hh;obtain⟨h1,h2,h3,D,h4,h5,I⟩:=hh;have hHas:bP (A++ν'++B++[(bd,Obj.deferred (some []))]) bd (.deferred (some [])) (.deferred none) (A++ν'++B++[(bd,Obj.deferred none)]):=.app .head;have hs:=h4.set (w':=w.putObj bd (.deferred none)) hHas ⟨rfl,rfl⟩ trivial;have hh':Hl X σ (A++ν'++B++[(bd,Obj.deferred none)]) Ds {a with defers:=[]} (w.putObj bd (.deferred none)):=
  ⟨h1,h2,hds.symm,D,hs,h5,I.step (X:=X.withDs bd) (fun _ p hp=>bNI Yu) (fun _=>lO ⟨rfl,rfl⟩ (bMR.2 ⟨_,hHas.mem,rfl⟩)) hs.dom⟩
 have hrun:=jG hh' hr h;have hb:=(h4.box (bd,Obj.deferred (some [])) Yf).1;have hnd:=h4.nd;simp only[bNG]at hnd;have hsub:=hs.sub (μ':=ν') (fun p hp=>bNE _ (bNE _ (GE _ hp))) (bNF.1 (bNF.1 (bNF.1 hnd).1).1).2.1;have:LeavesInM (FW none) 0 P fn a.tmps (mW X ks post) a.defers .returning w:=by
  have h3':a.defers=[nZ bd]:=h3.trans Xcl;rw[h3'];exact⟨Yf,bNI ⟨bd,_,rfl,run_takeDeferred hb,_,hrun,_,D,ν',rfl,hk,hsub,hp D h5⟩⟩
 cases e<;>first|exact this|cases he
theorem bJS{γ:Type}(I:γ→Prop)(S:γ→Bool)(M:γ→aD)(xs ys:List (Bool×Nat)){s p:Nat}{b:Bool}(ho:os=xs++ys)(hs:look σ s=some (.bool b))
  (hyes:b=true→WL P X bad all (fun a w=>∃g,I g∧Hl X ((p,.bool (S g))::(s,.bool true)::σ) (M g) Ds a w) Q xs ((s,.bool true)::σ) μ Ds)
  (hno:b=false→WL P X bad all (fun a w=>∃g,I g∧Hl X ((p,.bool (S g))::(s,.bool false)::σ) (M g) Ds a w) Q xs ((s,.bool false)::σ) μ Ds)
  (k:∀g,I g→WL P X bad all K Q ys ((p,.bool (S g))::σ) (M g) Ds):WL P X bad all K Q os σ μ Ds:=by
 have hsub:∀u,Value.bool b=u→∀a w,Hl X σ μ Ds a w→Hl X ((s,u)::σ) μ Ds a w:=by
  rintro _ rfl a w ⟨h1,h2,h3⟩;refine⟨h1,fun t v ht=>?_,h3⟩;simp only[look]at ht;cases hb:Nat.beq s t with
  |true=>rw[hb]at ht;cases ht;obtain rfl:=bOV hb;exact h2 _ _ hs
  |false=>rw[hb]at ht;exact h2 _ _ ht
 have hback:∀u v μ',Value.bool b=u→∀a w,Hl X ((p,v)::(s,u)::σ) μ' Ds a w→Hl X ((p,v)::σ) μ' Ds a w:=by
  rintro _ v μ' rfl a w ⟨h1,h2,h3⟩;refine⟨h1,fun t v' ht=>?_,h3⟩;refine h2 t v' ?_;simp only[look]at ht ⊢
  cases hp:Nat.beq p t with
  |true=>rw[hp]at ht;exact ht
  |false=>
   rw[hp]at ht;cases hb:Nat.beq s t with
   |true=>obtain rfl:=bOV hb;rw[←ht,hs]
   |false=>exact ht
 subst ho;intro a w hh;cases b
 ·refine WL.append (hno rfl a w (hsub _ rfl a w hh)) ?_;rintro a w ⟨g,hI,h⟩;exact k g hI a w (hback _ _ _ rfl a w h)
 ·refine WL.append (hyes rfl a w (hsub _ rfl a w hh)) ?_;rintro a w ⟨g,hI,h⟩;exact k g hI a w (hback _ _ _ rfl a w h)
theorem yG{t:Θ}{b k:Nat}{l:List Int}{n:Int}{e:Θ}{μ':aD}(ho:all[ix]?= some ⟨none,.store t x y,ty,pos,aft,g⟩)(hs:TS P t 1)(hx:ev σ x=some (.pointer (some ⟨b,k,none⟩)))(hy:ev σ y=some (qI n))
  (hm:bP μ b (.cells (ints l).toArray e (0,0)) (.cells (ints (l.set k n)).toArray e (0,0)) μ') (hl:k<l.length) (hg:cQ all σ g)
  (kk:WL P X bad all K Q os σ μ' Ds):WL P X bad all K Q ((false,ix)::os) σ μ Ds:=by
 have hil:(ints l).length=l.length:=aP l;refine cR (off:=k) (us:=[qI n]) (vs:=ints l) (ws:=ints (l.set k n)) ho hx hy rfl hs hm (by simp[hil];omega) ?_ (fun u hu=>by simp at hu;subst hu;rfl) hg kk
 rw[show ints (l.set k n)=(ints l).set k (qI n) by simp[ints,List.map_set],List.set_eq_take_append_cons_drop,bNK (by rw[hil];exact hl)];simp
theorem lL{t e tr:Θ}{a:Option Addr}{n c:Nat}{ats:Array Θ}(ho:all[ix]?= some ⟨some d,.call {callee:=.builtin .len,args:=#[x],argTypes:=ats},tr,pos,aft,g⟩)(ht:P.underlying t=some (.slice e))(hx:ev σ x=some (.slice a n c))(hat:ats[0]?= some t)
  (hN:Nat.blt d X.N=true) (hg:cQ all σ g) (kk:WL P X bad all K Q os ((d,qI (n:Int))::σ) μ Ds):WL P X bad all K Q ((fl,ix)::os) σ μ Ds:=
 bW ho rfl rfl hN hg (fun ρ hρ w'=>by
  have hx':=hρ x _ hx;simp[Builtin.len_,hat,hx',TU.of ht w',goInt,go_sem]) kk
theorem Hl.boxesEq{a:Act}{w:Δ}{μ':aD}(hh:Hl X σ μ Ds a w)(h:μ=μ'):Hl X σ μ' Ds a w:=h▸hh
theorem uP{T:Act→Δ→Prop}(μ':aD)(h:μ=μ')(k:∀a w,Hl X σ μ' Ds a w→T a w):∀a w,Hl X σ μ Ds a w→T a w:=h▸k
theorem qD{t t' e:Θ}{a:Option Addr}{n c:Nat}(ho:all[ix]?= some ⟨some d,.binOp .eql t x y t',ty,pos,aft,g⟩)(ht:P.underlying t=some (.slice e))(hx:ev σ x=some (.slice a n c))(hy:ev σ y=some (qN))(hN:Nat.blt d X.N=true)(hg:cQ all σ g)
  (kk:WL P X bad all K Q os ((d,.bool (a.isNone))::σ) μ Ds):WL P X bad all K Q ((fl,ix)::os) σ μ Ds:=
 M6 ho (fun w=>by
  have hgd:(eqGuard .eql t x y (.slice a n c) (qN)).run P w=.ok () w:=by
   simp only[eqGuard];simp[go_sem]
  have heq:(Op.equal t (.slice a n c) (qN)).run P w=.ok a.isNone w:=by
   show(Op.equalIn (9999+1) t (.slice a n c) (qN)).run P w=_;rw[Op.equalIn,Ω,TU.of ht w];cases a<;>rfl
  rw[Ω,hgd];show((do Pure.pure (Value.bool (←Op.equal t (.slice a n c) (qN)))):Sem Γ).run P w=_;rw[Ω,heq];rfl) hx hy hN hg kk
theorem GW{t:Θ}{b off:Nat}{vs us:List Γ}{e:Θ}{μ':aD}(ho:all[ix]?= some ⟨none,.store t x y,ty,pos,aft,g⟩)(hx:ev σ x=some (.pointer (some ⟨b,off,none⟩)))(hy:ev σ y=some v)(hv:v.cells=us.toArray)(hs:TS P t us.length)
  (hm:bP μ b (.cells vs.toArray e (0,0)) (.cells vs.toArray e (0,0)) μ') (hl:off+us.length≤vs.length) (hw:vs.take off++us++vs.drop (off+us.length)=vs) (hc1:∀u∈us,cell1 u=true) (hg:cQ all σ g)
  (kk:WL P X bad all K Q os σ μ' Ds):WL P X bad all K Q ((fl,ix)::os) σ μ Ds:=by
 refine fF ho rfl rfl hg fun a w hh=>?_
 obtain⟨h1,h2,h3,D,h4,h5,I⟩:=id hh;obtain⟨w',hr,hw'⟩:=I1 (P:=P) hs hv (h4.box _ hm.mem).1 hl hc1;have:(execOp a.eval ⟨none,.store t x y,ty,pos,aft,g⟩).run P w=.ok .skip w':=by
  simp only[execOp,hh.eval hx,hh.eval hy,Ω,hr,Ξ,ε]
 rw[this];rw[hw]at hw';refine⟨fun _=>⟨Xbf,fun c _ _=>?_⟩,kk _ _ ⟨h1,h2,h3,D,h4.set hm hw' rfl,h5,I.step (fun _ p hp=>bNI Ya0) (fun _=>lO hw' (bMR.2 ⟨_,hm.mem,rfl⟩)) (h4.set hm hw' rfl).dom⟩⟩
 have hb:=(h4.box _ hm.mem).1;rw[hw'.1];by_cases hc:b=c
 ·subst hc;rw[Array.getElem?_setIfInBounds_self_of_lt (bJ hb)];exact hb.symm
 ·rw[bPV hc]

theorem kN{D₁:aC}{b o:Nat}{c:Γ}{cs:List Γ}(hA:At D₁ b o (c::cs))(hD:D₁∈Ds)(k:b∉μ.ks→WL P X bad all K Q os σ μ Ds):WL P X bad all K Q os σ μ Ds:=fun a w hh=>k (hh.apart hA hD) a w hh
theorem bBM{e sz b:Nat}{cells:List Γ}(h:cells.length=sz):bI e sz (qS b 1 1) 1 cells [(b,.cells cells.toArray e (0,0))]:=
 bNC ⟨b,1,[],rfl,bNJ _,Yf,Yd,Yaq⟩
theorem aOO{D:aC}{b:Nat}{cells:List Γ}(h:kZ D (qS b 1 1) 1 cells):At D b 0 cells:=by
 rcases h with⟨a,_,h0,_⟩|⟨b',cap,hv,_,hA⟩
 ·omega
 ·cases hv;exact hA
theorem L4{c:Code}{A B:aD}{b:Nat}{cells:List Γ}{e:Θ}(hmods:X.mods=[])(kk:∀D,(∀D₁∈Ds,Le D₁ D)→At D b 0 cells→WC P X Q c σ (A++B) (D::Ds)):WC P X Q c σ (A++(b,.cells cells.toArray e (0,0))::B) Ds:=by
 have:=sN (A:=A) (B:=B) (ν:=[(b,.cells cells.toArray e (0,0))]) (c:=c) (P:=P) (X:=X) (Q:=Q) (σ:=σ) (Ds:=Ds) (bBM (e:=e) (b:=b) (cells:=cells) rfl) hmods fun D hD hF=>kk D hD (aOO hF)
 simpa using this
theorem aEZ{α:Type}{D:aC}{b sz:Nat}{cells:α→List Γ}(hsz:∀x,(cells x).length=sz):∀{xs:List α} {o:Nat},(∀i x,xs[i]?= some x→At D b (o+i*sz) (cells x))→At D b o (xs.flatMap cells)
 | [],o,_=>fun j v hj=>by simp at hj
 |x::xs,o,h=>fun j v hj=>by
  rw[bNW]at hj;have h0:=h 0 x rfl;rw[bRB,Nat.add_zero]at h0;have hr:=aEZ hsz (xs:=xs) (o:=o+sz) fun i y hy=>by
   have:=h (i+1) y (by simpa using hy);rw[show o+sz+i*sz=o+(i+1)*sz by rw[bPR];omega];exact this
  rcases Nat.lt_or_ge j (cells x).length with hl|hl
  ·rw[bPH hl]at hj;exact h0 j v hj
  ·rw[bPY hl]at hj;have:=hr _ v hj;rw[hsz]at this;rw[show o+j=o+sz+(j-sz) by rw[hsz]at hl;omega];exact this
theorem jY.of{α:Type}{R:Rd α}{D:aC}{sz:Nat}{xs:List α}{cells:α→List Γ}(hR:∀D x cs,R D x cs→cs=cells x)(hsz:∀x,(cells x).length=sz)(h:Sl D R sz v xs):jY D v xs.length (xs.flatMap cells):=by
 obtain⟨a,cap,rfl,h1,h2,h3⟩:=h;rcases h3 with rfl|⟨b,o,rfl,h3⟩
 ·exact bNI ⟨a,cap,rfl,rfl,rfl⟩
 ·refine bNC ⟨b,o,cap,rfl,aEZ hsz fun i x hx=>?_⟩;obtain⟨cs,hr,hc,hA⟩:=h3 i x hx;rw[hR _ _ _ hr]at hA;exact hA
theorem tQ{α:Type}{R:Rd α}{D:aC}{sz n c:Nat}{xs:List α}(h:Sl D R sz (.slice none n c) xs):xs=[]:=by
 obtain⟨a,cap,hv,h1,h2,h3⟩:=h;rcases h3 with h3|⟨b,o,ha,_⟩
 ·exact h3
 ·rw[ha]at hv;cases hv
theorem jB{α:Type}{R:Rd α}{D₁:aC}{sz:Nat}{t e:Θ}{xs:List α}{k:IntKind}{i:Int}{el:α}{bt ot ct:Nat}(ho:all[ix]?= some ⟨some d,.indexAddr t x y,ty,pos,aft,g⟩)(ht:P.underlying t=some (.slice e))(hs:TS P e sz)(hx:ev σ x=some (.slice (some ⟨bt,ot,none⟩) xs.length ct))(hS:Sl D₁ R sz (.slice (some ⟨bt,ot,none⟩) xs.length ct) xs)
  (hy:ev σ y=some (.int k i)) (h0:0≤i) (hi:xs[i.toNat]?= some el) (hN:Nat.blt d X.N=true) (hg:cQ all σ g)
  (kk:∀cs,R D₁ el cs→cs.length=sz→At D₁ bt (ot+i.toNat*sz) cs→WL P X bad all K Q os ((d,.pointer (some ⟨bt,ot+i.toNat*sz,none⟩))::σ) μ Ds):WL P X bad all K Q ((fl,ix)::os) σ μ Ds:=by
 obtain⟨a,cap,hv,h1,h2,h3⟩:=hS;cases hv;have hlt:=(bMW.1 hi).1;rcases h3 with h3|⟨b,o,ha,h3⟩
 ·subst h3;simp at hi
 ·cases ha;obtain⟨cs,hr,hc,hA⟩:=h3 _ _ hi;exact eY ho ht hs hx hy h0 Yd hN hg (kk cs hr hc hA)
section
variable{t e t2:Θ}{D₁:aC}{xs:List Int}{k:IntKind}{i el:Int}{ix2 d2:Nat}{x2:Operand}{ty2:Θ}{pos2:String}{aft2:Array Edge}{g2:Option (Nat×Bool)}{fl2:Bool}
theorem aT{bt ot ct:Nat}(e9:(all[ix]?,all[ix2]?,ev σ x,ev σ y,xs[i.toNat]?,ev ((d,.pointer (some ⟨bt,ot+i.toNat*1,none⟩))::σ) x2)=(some ⟨some d,.indexAddr t x y,ty,pos,aft,g⟩,some ⟨some d2,.load t2 x2,ty2,pos2,aft2,g2⟩,some (.slice (some ⟨bt,ot,none⟩) xs.length ct),some (.int k i),some el,some (.pointer (some ⟨bt,ot+i.toNat*1+0,none⟩))))(hS:Sl D₁ RI 1 (.slice (some ⟨bt,ot,none⟩) xs.length ct) xs)
  (kk:WL P X bad all K Q os ((d2,qI el)::(d,.pointer (some ⟨bt,ot+i.toNat*1,none⟩))::σ) μ Ds) (h0:0≤i:=by omega) (ht:P.underlying t=some (.slice e):=by exact U25) (hs:TS P e 1:=by exact aH) (ha:TA P t2 false:=by exact aI) (hD:D₁∈Ds:=by first|simp|assumption) (hb:bt∉bad:=by first|exact n4|assumption|simp)
  (hN:Nat.blt d X.N=true:=by exact rfl) (hg:cQ all σ g:=by exact bSM) (hN2:Nat.blt d2 X.N=true:=by exact rfl) (hg2:cQ all ((d,.pointer (some ⟨bt,ot+i.toNat*1,none⟩))::σ) g2:=by exact bSM):WL P X bad all K Q ((fl,ix)::(fl2,ix2)::os) σ μ Ds:=
 jB (bNB (fun z=>z.1) e9) ht hs (bNB (fun z=>z.2.2.1) e9) hS (bNB (fun z=>z.2.2.2.1) e9) h0 (bNB (fun z=>z.2.2.2.2.1) e9) hN hg fun cs hr hcl hA=>by
  obtain rfl:cs=[qI _]:=hr;exact dU (k:=0) (bNB (fun z=>z.2.1) e9) ha (bNB (fun z=>z.2.2.2.2.2) e9) hA hD rfl hb hN2 hg2 kk
end
theorem dB{α:Type}{R:Rd α}{D:aC}{sz:Nat}{xs:List α}{v:Γ}(h:Sl D R sz v xs)(hne:xs≠[]):∃bt ot ct,v=.slice (some ⟨bt,ot,none⟩) xs.length ct:=by
 obtain⟨a,cap,hv,h1,h2,h3⟩:=h;rcases h3 with h3|⟨b,o,ha,_⟩
 ·exact absurd h3 hne
 ·exact⟨b,o,cap,by rw[hv,ha]⟩
theorem CO{t t':Θ}{n:Nat}{k':IntKind}(ho:all[ix]?= some ⟨some d,.binOp .shl t x y t',ty,pos,aft,g⟩)(hx:ev σ x=some (qI 1))(hy:ev σ y=some (.int k' (n:Int)))(hn:n<62)(hN:Nat.blt d X.N=true)(hg:cQ all σ g)
  (kk:WL P X bad all K Q os ((d,qI ((2^n:Nat):Int))::σ) μ Ds):WL P X bad all K Q ((fl,ix)::os) σ μ Ds:=by
 have h2:2^n≤2^62:=bOW Yd Yd;refine bGD (m:=1) ho hx hy Yd Yd hN hg ?_;rw[Nat.one_shiftLeft];exact kk
theorem mZ{t:Θ}{b off:Nat}{vs us ws:List Γ}{e:Θ}{μ':aD}(ho:all[ix]?= some ⟨none,.store t x y,ty,pos,aft,g⟩)(hx:ev σ x=some (.pointer (some ⟨b,off,none⟩)))(hy:ev σ y=some v)(hv:v.cells=us.toArray)(hs:TS P t us.length)
  (hm:bP μ b (.cells vs.toArray e (0,0)) (.cells ws.toArray e (0,0)) μ') (hl:off+us.length≤vs.length) (hw:vs.take off++us++vs.drop (off+us.length)=ws) (hc1:∀u∈us,cell1 u=true) (hfl:fl=false∨b∈bad) (hg:cQ all σ g)
  (kk:WL P X bad all K Q os σ μ' Ds):WL P X bad all K Q ((fl,ix)::os) σ μ Ds:=by
 refine fF ho rfl rfl hg fun a w hh=>?_
 obtain⟨h1,h2,h3,D,h4,h5,I⟩:=id hh;obtain⟨w',hr,hw'⟩:=I1 (P:=P) hs hv (h4.box _ hm.mem).1 hl hc1;have:(execOp a.eval ⟨none,.store t x y,ty,pos,aft,g⟩).run P w=.ok .skip w':=by
  simp only[execOp,hh.eval hx,hh.eval hy,Ω,hr,Ξ,ε]
 rw[this];rw[hw]at hw';refine⟨fun h=>⟨Xbf,fun c _ hn=>?_⟩,kk _ _ ⟨h1,h2,h3,D,h4.set hm hw' rfl,h5,I.step (fun _ p hp=>bNI Ya0) (fun _=>lO hw' (bMR.2 ⟨_,hm.mem,rfl⟩)) (h4.set hm hw' rfl).dom⟩⟩
 rcases hfl with hf|hf
 ·rw[hf]at h;cases h
 ·rw[hw'.1,bPV (by rintro rfl;exact hn hf)]
theorem IU.fn{f:FuncId}{args:Array Γ}{D:aC}{post:aC→Γ→aD→Prop}{I:aC→Γ→Prop}{e sz:Nat}(h:IU P f args D post)(hacc:∀D' v ν,post D' v ν→∃n cells,bI e sz v n cells ν∧∀D'',Le D' D''→kZ D'' v n cells→I D'' v):Fn P f args D I:=by
 refine⟨h.1,fun w hw=>(h.2 w hw).mono ?_⟩;rintro e' w' ⟨v,D',ν,rfl,hs,hp⟩;obtain⟨n,cells,ha,hk⟩:=hacc D' v ν hp;rcases ha with⟨old,hv,hn,hc,hν⟩|⟨b,cap,junk,hv,hncap,hν,hl1,R⟩
 ·subst hν;exact⟨v,D',rfl,hs,hk D' (Le.refl _) (bNI ⟨old,hv,hn,hc⟩)⟩
 ·subst hν;have hb:=(hs.box (b,.cells (cells++junk).toArray e (0,0)) Yf).2.2;have hs':iT (hd w) w.heap.size D [] ([]++[(b,.cells (cells++junk).toArray e (0,0))]++[]) D' w':=by simpa using hs
  obtain⟨D'',hle,hD'',hDo,O⟩:=hs'.freeze (hb.resolve_right Yf);exact⟨v,D'',rfl,by simpa using O,hk D'' hle (bNC ⟨b,cap,hv,hncap,fun j u hj=>by rw[hD'',bQB];exact hj⟩)⟩
def KI{α:Type}(P:Program)(f:FuncId)(cap:List Γ)(Dr:aC)(xs:List α)(enc:Nat→List Γ→Prop)(cells:α→List Γ):Prop:=
 EF P f∧∀(lo l:Nat) (J Jx:List α→wE),(∀pre,V6 lo (J pre))→(∀pre,V6 lo (Jx pre))→
  (∀pre x β D w bo vs,(∃r,xs=pre++x::r)→N9 lo D w→J pre β D w→(∀b∈β,b<w.heap.size)→Le Dr D→enc bo vs→MP β D w bo (cells x)→
   jI P l vs w fun b D' w'=>N9 lo D' w'∧N6 β D w D' w'∧(if b then J (pre++[x]) β D' w' else Jx (pre++[x]) β D' w'))→
  ∀D w,N9 lo D w→Le Dr D→J [] [] D w→Calls P f (.func (.yield l) #[] #[]::cap).toArray w fun e w'=>∃v D',e=.returned v∧N9 lo D' w'∧(J xs [] D' w'∨∃pre,Jx pre [] D' w')
theorem Y2{α γ:Type}{xs:List α}{enc:Nat→List Γ→Prop}{cells:α→List Γ}{Dr:aC}{f:FuncId}{cap:List Γ}{gop:Operand}{ps:Array Tmp}{assign body:Code}
  (Φ:List α→γ→Prop) (Ψ:List α→Code→γ→Prop) (M:γ→aD) (g₀:γ) (hr:X.r=none) (hex:X.ex=none) (hmods:∀g,∀k∈X.mods,k∈(M g).ks)
  (hg:ev σ gop=some (.func (.func f) #[] cap.toArray)) (hit:KI P f cap Dr xs enc cells) (hDr:Dr∈Ds) (hps:∀b vs,enc b vs→vs.length=ps.size) (hpN:(ps.toList.all fun p=>Nat.blt p X.N)=true) (h₀:Φ [] g₀) (hμ:M g₀=μ)
  (hround:∀pre x g,(∃r,xs=pre++x::r)→Φ pre g→∀(l bd bo:Nat) (vs:List Γ) (rec:Loop) (h0:H0) (D:aC),(∀D₁∈Ds,Le D₁ D)→enc bo vs→At D bo 0 (cells x)→rec.state=.ready→rec.pending=none→
   WC P (Xr l X.N h0 D ((M g++(l,Obj.loop rec)::[(bd,Obj.deferred (some []))]).map (·.1)))
    (Exit.then (fun a₁ w₁=>∃w₂,(Instr.beginRound l).run P w₁=.ok () w₂∧body.wpIn ((FW none).inRound l) 0 P (roundPost P l (H4 h0 D ((M g++(l,Obj.loop rec)::[(bd,Obj.deferred (some []))]).map (·.1)) (Φ (pre++[x])) (Ψ (pre++[x]))
     (fun g=>M g++(l,Obj.loop {rec with state:=.ready,pending:=none})::[(bd,Obj.deferred (some []))]) fun c g=>M g++(l,Obj.loop {rec with state:=.done,pending:=some c})::[(bd,Obj.deferred (some []))])) a₁ w₂) fun _ _ _=>False)
    assign (O1 ps.toList vs σ) (M g++(l,Obj.loop rec)::[(bd,Obj.deferred (some []))]) (D::Ds))
  (hdone:∀g bd,Φ xs g→∀a w,Hl (X.withDs bd) σ (M g++[(bd,Obj.deferred (some []))]) Ds a w→Q .normal a w)
  (hstop:∀pre c g bd,Ψ pre c g→WC P (X.withDs bd) Q c σ (M g++[(bd,Obj.deferred (some []))]) Ds):WC P X Q (.rangeFunc gop ps assign body) σ μ Ds:=by
 intro a w hh;subst hμ;have hev:=hh.eval hg;obtain⟨h1,h2,h3,D,h4,h5,h6⟩:=hh;refine wpIn_rangeFunc fun fn _=>?_
 have hround':(FW X.r).round=none:=hr;rw[hround'];have hmk:∀g (B:aD),∀k∈X.mods,k∈(M g++B).ks:=fun g B k hk=>by
  show k∈(M g++B).map _;rw[bNG];exact bNE _ (hmods g k hk)
 let bd:=w.heap.size
 let l:=w.heap.size+1
 let I:Loop:={state:=.ready,pending:=none,fn,tmps:=a.tmps,params:=ps,assign,body,defers:=bd}
 let V:Δ:={w with heap:=w.heap.push (.deferred (some []))}
 let U:Δ:={V with heap:=V.heap.push (.loop I)}
 have Y:iT X.h0 X.lo X.D0 X.mods ((bd,Obj.deferred (some []))::M g₀) D V:=h4.push (.deferred (some [])) trivial;have O:iT X.h0 X.lo X.D0 X.mods ((l,Obj.loop I)::(bd,Obj.deferred (some []))::M g₀) D U:=by
  have:=Y.push (.loop I) trivial;have e:V.heap.size=l:=by simp[V,l]
  rw[e]at this;exact this
 have hperm:iT X.h0 X.lo X.D0 X.mods (M g₀++(l,Obj.loop I)::[(bd,Obj.deferred (some []))]) D U:=by
  refine O.sub (fun p hp=>?_) ?_
  ·simp only[bNH,LT,n4,bOZ]at hp ⊢
   rcases hp with hp|hp|hp
   ·exact bNC (bNC hp)
   ·exact bNI hp
   ·exact bNC (bNI hp)
  ·have hn:=O.nd;simp only[bNT,bOT,LT,bSF]at hn;simp only[bNG,bNT,bRF,bNF,bOT,LT,n4,bOZ,bRV,bPA,and_true];refine⟨hn.2.2,hn.1.1,fun q hq r hr'=>?_⟩;rcases hr' with rfl|rfl
   ·rintro rfl;exact hn.1.2 hq
   ·rintro rfl;exact hn.2.1 hq
 refine⟨l,[nZ bd],U,{target:=.fn (.func f) cap.toArray,args:=#[.func (.yield l) #[] #[]]},U,f,(.func (.yield l) #[] #[]::cap).toArray,U,run_enterLoop_outer fn a.tmps ps assign body,?_,fun _ _=>trivial,?_,fun h=>Xad,?_⟩
 ·simp only[resolve,Deferred.ofValue];have e:Array.map a.eval #[Operand.const (Value.func (Fn.yield l) #[] #[])]=#[.func (.yield l) #[] #[]]:=by simp[Act.eval]
  rw[e,hev];rfl
 ·simp only[invoke];rw[hit.1];simp
 ·refine dR.2 ((hit.2 X.lo l
   (fun pre=>aRL X.h0 X.lo X.D0 X.mods Ds (Φ pre) fun g=>M g++(l,Obj.loop I)::[(bd,Obj.deferred (some []))])
   (fun pre=>aRL X.h0 X.lo X.D0 X.mods Ds (fun cg:Code×γ=>Ψ pre cg.1 cg.2) fun cg=>M cg.2++(l,Obj.loop {I with state:=.done,pending:=some cg.1})::[(bd,Obj.deferred (some []))])
   (fun _=>l9) (fun _=>l9) ?_ D U O.dom (h5 Dr hDr) ⟨g₀,h₀,hperm,h5,(fun _ h=>Xab),(fun _ _ h=>Xab),hmk g₀ _⟩).mono ?_)
  ·rintro pre x β Dx wx bo vs hx hdx ⟨g,hΦ,hst,hDs,hβ,hM,hmg⟩ hβs hle henc ⟨hbo,hbD,be,bfz,hbw⟩;have hbox:=(hst.box (l,Obj.loop I) Yf).1;refine⟨fn,_,assign,body,run_yield hbox (by simpa using hps bo vs henc),?_⟩;refine(roundIn_of_wpIn (F:=FW none) bSM (R:=H4 (hd wx) (gI Dx bo (cells x)) ((M g++(l,Obj.loop I)::[(bd,Obj.deferred (some []))]).map (·.1)) (Φ (pre++[x])) (Ψ (pre++[x]))
     (fun g=>M g++(l,Obj.loop {I with state:=.ready,pending:=none})::[(bd,Obj.deferred (some []))]) fun c g=>M g++(l,Obj.loop {I with state:=.done,pending:=some c})::[(bd,Obj.deferred (some []))]) ?_).mono ?_
   ·have hw:=hround pre x g hx hΦ l bd bo vs I (hd wx) (gI Dx bo (cells x)) (fun D₁ h=>(hDs D₁ h).trans (M7 hbD (hst.agr.ne0 hbD))) henc (EY _ _ _) rfl rfl;have ht:(ps.zip vs.toArray).foldl (fun tmps (t,a)=>tmps.setIfInBounds t a) a.tmps=(ps.toList.zip vs).foldl (fun tmps (p:Tmp×Γ)=>tmps.setIfInBounds p.1 p.2) a.tmps:=by
     rw[←Array.foldl_toList];simp
    have hpN':∀p∈ps.toList,p<a.tmps.size:=fun p hp=>by rw[h1];simpa [Nat.blt_eq]using bNQ.1 hpN p hp
    refine hw {tmps:=_,defers:=[]} wx ⟨?_,fun s v hs=>?_,rfl,gI Dx bo (cells x),⟨bNJ _,bNJ _,fun _ _ _=>rfl,fun _ _=>rfl,JX hst.agr hbw hbD,fun p hp=>?_,hst.nd,hst.fz,fun e he=>bNS he⟩,fun D₁ hD₁=>?_,bSM⟩
    ·show((ps.zip vs.toArray).foldl _ a.tmps).size=X.N;rw[ht,m9];exact h1
    ·show((ps.zip vs.toArray).foldl _ a.tmps)[s]?= some v;rw[ht];exact Z3 _ _ _ _ h2 hpN' s v hs
    ·obtain⟨p1,p2,p3⟩:=hst.box p hp;exact⟨p1,Xdd,bNC (bMR.2 ⟨p,hp,rfl⟩)⟩
    ·rcases LT.1 hD₁ with rfl|hD₁
     ·exact Le.refl _
     ·exact(hDs D₁ hD₁).trans (M7 hbD (hst.agr.ne0 hbD))
   ·rintro e w' ⟨b,D',rfl,hb⟩;have fin:∀μ',iT (hd wx) wx.heap.size (gI Dx bo (cells x)) ((M g++(l,Obj.loop I)::[(bd,Obj.deferred (some []))]).map (·.1)) μ' D' w'→iT X.h0 X.lo X.D0 X.mods μ' (gI D' bo []) w'∧N6 β Dx wx (gI D' bo []) w'∧(∀D₁∈Ds,Le D₁ (gI D' bo []))∧(∀p∈μ',p.1∉β):=by
     intro μ' Z;have hs':=Z.hide hbD (hst.agr.ne0 hbD);refine⟨hst.roundM hmg hs',iT.roundHigh hst.agr hs' hβs hM,fun D₁ hD₁=>(hDs D₁ hD₁).trans (gO hst.agr hs'),fun p hp hpb=>?_⟩;rcases(hs'.box p hp).2.2 with h|h
     ·have:=hβs _ hpb;omega
     ·obtain⟨q,hq,he⟩:=bMR.1 h;exact hM q hq (by rw[he];exact hpb)
    refine⟨b,gI D' bo [],rfl,?_⟩;cases b with
    |true=>
     obtain⟨g',hg',hs'⟩:=hb;obtain⟨f1,f2,f3,f4⟩:=fin _ hs';exact⟨f1.dom,f2,g',hg',f1,f3,hβ,f4,hmk g' _⟩
    |false=>
     obtain⟨c',g',hg',hs'⟩:=hb;obtain⟨f1,f2,f3,f4⟩:=fin _ hs';exact⟨f1.dom,f2,(c',g'),hg',f1,f3,hβ,f4,hmk g' _⟩
  ·rintro e w' ⟨v,D',rfl,hd,hend⟩;have post:∀(g:γ) (r:Loop),iT X.h0 X.lo X.D0 X.mods (M g++(l,Obj.loop r)::[(bd,Obj.deferred (some []))]) D' w'→(∀D₁∈Ds,Le D₁ D')→
     Hl (X.withDs bd) σ (M g++[(bd,Obj.deferred (some []))]) Ds {a with defers:=[nZ bd]++a.defers} (w'.putObj l (.loop {r with state:=.exhausted})):=by
    intro g r hs hD';have hHas:bP (M g++(l,Obj.loop r)::[(bd,Obj.deferred (some []))]) l (.loop r) (.loop {r with state:=.exhausted}) (M g++(l,Obj.loop {r with state:=.exhausted})::[(bd,Obj.deferred (some []))]):=.app .head;have hs':=hs.set (w':=w'.putObj l (.loop {r with state:=.exhausted})) hHas ⟨rfl,rfl⟩ trivial;have hs'':=hs'.sub (μ':=M g++[(bd,Obj.deferred (some []))]) (fun p hp=>by
     rcases bNH.1 hp with hp|hp
     ·exact bNE _ hp
     ·exact GE _ (bMT _ hp)) (by
     have hn:=hs'.nd;rw[bNG,bNF]at hn ⊢
     simp only[bNT]at hn;exact⟨hn.1,(bOT.1 hn.2.1).2,fun q hq r hr=>hn.2.2 q hq r (bMT _ hr)⟩)
    exact⟨h1,h2,bNB (nZ bd:: ·) h3,D',hs'',hD',Xcj⟩
   rcases hend with⟨g,hΦ,hs,hDs,_,_,_⟩|⟨pre,⟨c,g⟩,hΨ,hs,hDs,_,_,_⟩
   ·have hb:=(hs.box (l,Obj.loop I) Yf).1;exact⟨none,_,run_endLoop hb (by simp[I]),hdone g bd hΦ _ _ (post g I hs hDs)⟩
   ·have hb:=(hs.box (l,Obj.loop {I with state:=.done,pending:=some c}) Yf).1;refine⟨some c,_,run_endLoop hb Yf,?_⟩;have:=hstop pre c g bd hΨ _ _ (post g _ hs hDs);exact this
theorem GH{α:Type}{f:FuncId}{fn:Func}{c:Code}{cap:List Γ}{Dr:aC}{xs:List α}{enc:Nat→List Γ→Prop}{cells:α→List Γ}(N:Nat)(hf:P.funcs[f]?= some fn)(hn:(fn.name== "runtime.NumGoroutine")=false)(hb:fn.body=some c)(hN:fn.ntmps=N)(hsz:Nat.ble (cap.length+1) N=true)
  (h:∀(lo l:Nat) (J Jx:List α→wE),(∀pre,V6 lo (J pre))→(∀pre,V6 lo (Jx pre))→
   (∀pre x β D w bo vs,(∃r,xs=pre++x::r)→N9 lo D w→J pre β D w→(∀b∈β,b<w.heap.size)→Le Dr D→enc bo vs→MP β D w bo (cells x)→
    jI P l vs w fun b D' w'=>N9 lo D' w'∧N6 β D w D' w'∧(if b then J (pre++[x]) β D' w' else Jx (pre++[x]) β D' w'))→
   WC P (Xj N lo (J [])) (bodyPost P fn (BI lo [Dr] fun _ J' _=>J'=J xs∨∃pre,J'=Jx pre)) c (jP 0 (.func (.yield l) #[] #[]::cap)) [] [Dr]):KI P f cap Dr xs enc cells:=by
 refine⟨EF.of hf hn hb,fun lo l J Jx hs hsx hY D w hd hle hJ=>?_⟩;have hF:=W8 (μ:=[]) N hf hn hb hN (by simpa using hsz) (h lo l J Jx hs hsx hY);refine(hF.2 w ⟨D,⟨bRC _,hd.2,fun b hb=>absurd hb (bRH _),fun b hb=>absurd hb (bRH _),hd.1,Yi,bPA,Yi,fun e he=>by cases he⟩,fun D₁ h1=>?_,hs [],hJ⟩).mono ?_
 ·simp only[bNL]at h1;subst h1;exact hle
 ·rintro e w' ⟨v,J',μ',rfl,⟨D',hst,hds,hex⟩,hpost⟩;refine⟨v,D',rfl,hst.dom,?_⟩;have hJ':J' [] D' w':=hex.1.own _ [] D' w' hex.2 (fun b hb=>by cases hb);rcases hpost with rfl|⟨pre,rfl⟩
  ·exact bNI hJ'
  ·exact bNC ⟨pre,hJ'⟩
theorem Hl.subB{μ':aD}{a:Act}{w:Δ}(h:Hl X σ μ Ds a w)(hμ:μ'.Sublist μ):Hl X σ μ' Ds a w:=by
 obtain⟨g1,g2,g3,D,h4,h5,I⟩:=h;exact⟨g1,g2,g3,D,h4.sub (fun p hp=>hμ.subset hp) (h4.nd.sublist (hμ.map _)),h5,I.step (fun _ p hp=>bNI (bMR.2 ⟨p,hμ.subset hp,rfl⟩)) (fun _=>aNV.refl _ _ _) h4.dom⟩
theorem aUR{c:Code}{μ':aD}(hμ:μ'.Sublist μ)(h:WC P X Q c σ μ' Ds):WC P X Q c σ μ Ds:=fun a w hh=>h a w (hh.subB hμ)
theorem FV{μ':aD}(hμ:μ'.Sublist μ)(h:WL P X bad all K Q os σ μ' Ds):WL P X bad all K Q os σ μ Ds:=fun a w hh=>h a w (hh.subB hμ)
theorem Hl.perm{μ':aD}{a:Act}{w:Δ}(h:Hl X σ μ Ds a w)(h1:∀r∈μ',r∈μ)(h2:(μ.map (·.1)).Nodup→(μ'.map (·.1)).Nodup):Hl X σ μ' Ds a w:=by
 obtain⟨g1,g2,g3,D,h4,h5,I⟩:=h;exact⟨g1,g2,g3,D,h4.sub h1 (h2 h4.nd),h5,I.step (fun _ r hr=>bNI (bMR.2 ⟨r,h1 r hr,rfl⟩)) (fun _=>aNV.refl _ _ _) h4.dom⟩
theorem P1{K':Act→Δ→Prop}(h:∀a w,Hl X σ μ Ds a w→K' a w):∀a w,Hl X σ μ Ds a w→(Exit.then K' Q) .normal a w:=h
theorem aAZ{c c':Code}{γ:Type}(I:γ→Prop)(S:γ→bU)(M:γ→aD)(E:γ→List aC)(h1:WC P X (Exit.then (fun a w=>∃g,I g∧Hl X (S g) (M g) (E g) a w) Q) c σ μ Ds)(h2:∀g,I g→WC P X Q c' (S g) (M g) (E g)):WC P X Q (.seq c c') σ μ Ds:=
 fun a w hh=>wpIn_seq (wpIn_mono (h1 a w hh) fun e a w he=>by
  cases e with
  |normal=>obtain⟨g,hg,h⟩:=he;exact h2 g hg a w h
  |_=>exact he)
def oW(v:Γ):List PanicEntry:=[{v,recovered:=false}]
def kH(P:Program)(f:FuncId)(args:List Γ)(D:aC)(ν:aD)(post:aC→Γ→aD→Prop)(pan:Γ→Prop):Prop:=
 EF P f∧∀w,fA D w→(∀p∈ν,w.heap[p.1]?= some p.2∧D p.1=[]∧cU p.2)→ν.ks.Nodup→Calls P f args.toArray w fun e w'=>
  (∃v D' ν',e=.returned v∧iT (hd w) w.heap.size D ν.ks ν' D' w'∧post D' v ν')∨(∃v D',e=.panicked (oW v)∧iT (hd w) w.heap.size D ν.ks [] D' w'∧pan v)
theorem iT.afterG{h0:H0}{lo:Nat}{D0 D D':aC}{mods:List Nat}{A B ν ν':aD}{w w':Δ}(h:iT h0 lo D0 mods (A++ν++B) D w)(hs:iT (hd w) w.heap.size D ν.ks ν' D' w'):iT h0 lo D0 mods (A++ν'++B) D' w':=by
 have hle:=bPD h.hlo h.size;have hin:∀c∈ν.ks,∃o,(c,o)∈ν:=fun c hc=>by
  obtain⟨p,hp,rfl⟩:=bMR.1 hc;exact⟨p.2,hp⟩
 have hbx:∀p∈ν,_:=fun p hp=>h.box p (bNE _ (GE _ hp))
 have hnd:=h.nd;simp only[bNG]at hnd;have hA:∀p∈A,p.1∉ν.ks∧p.1<w.heap.size:=fun p hp=>⟨fun hm=>(bNF.1 (bNF.1 hnd).1).2.2 p.1 (bMR.2 ⟨p,hp,rfl⟩) p.1 hm rfl,bJ (h.box p (bNE _ (bNE _ hp))).1⟩
 have hB:∀p∈B,p.1∉ν.ks∧p.1<w.heap.size:=fun p hp=>⟨fun hm=>(bNF.1 hnd).2.2 p.1 (GE _ hm) p.1 (bMR.2 ⟨p,hp,rfl⟩) rfl,bJ (h.box p (GE _ hp)).1⟩
 have hN:∀p∈ν',p.1∈ν.ks∨w.heap.size≤p.1:=fun p hp=>((hs.box p hp).2.2).symm
 refine⟨h.hlo,bPD h.size hs.size,fun c hc hm=>?_,fun c hc=>?_,hs.agr,fun p hp=>?_,?_,fun p hp=>?_,fun e he=>(hs.env _ rfl).trans (h.env e he)⟩
 ·have hne:c∉ν.ks:=by
   intro hcm;obtain⟨o,ho⟩:=hin c hcm;rcases(hbx _ ho).2.2 with h'|h'
   ·have:=h.hlo;simp at h';omega
   ·exact hm h'
  rw[hs.old c (bPO hc hle) hne];exact h.old c hc hm
 ·rw[hs.dold c (bPO hc hle)];exact h.dold c hc
 ·rcases bNH.1 hp with hp|hp
  ·rcases bNH.1 hp with hp|hp
   ·obtain⟨h1,h2,h3⟩:=h.box p (bNE _ (bNE _ hp));obtain⟨hne,hl⟩:=hA p hp;exact⟨Xbs,Xbd,h3⟩
   ·obtain⟨q1,O,I⟩:=hs.box p hp;refine⟨q1,O,?_⟩;rcases I with I|I
    ·exact bNI (bPD h.size I)
    ·obtain⟨o,ho⟩:=hin p.1 I;exact(hbx _ ho).2.2
  ·obtain⟨h1,h2,h3⟩:=h.box p (GE _ hp);obtain⟨hne,hl⟩:=hB p hp;exact⟨Xbs,Xbd,h3⟩
 ·simp only[bNG];rw[bNF,bNF];refine⟨⟨(bNF.1 (bNF.1 hnd).1).1,hs.nd,fun a ha b hb e=>?_⟩,(bNF.1 hnd).2.1,fun a ha b hb e=>?_⟩
  ·obtain⟨p,hp,rfl⟩:=bMR.1 ha;obtain⟨q,hq,rfl⟩:=bMR.1 hb;obtain⟨h1,h2⟩:=hA p hp;rcases hN q hq with h3|h3
   ·exact h1 (e▸h3)
   ·omega
  ·rcases bNH.1 ha with ha|ha
   ·exact(bNF.1 hnd).2.2 a (bNE _ ha) b hb e
   ·obtain⟨p,hp,rfl⟩:=bMR.1 ha;obtain⟨q,hq,rfl⟩:=bMR.1 hb;obtain⟨h1,h2⟩:=hB q hq;rcases hN p hp with h3|h3
    ·exact h1 (e▸h3)
    ·omega
 ·rcases bNH.1 hp with hp|hp
  ·rcases bNH.1 hp with hp|hp
   ·exact h.fz p (bNE _ (bNE _ hp))
   ·exact hs.fz p hp
  ·exact h.fz p (GE _ hp)
theorem p6{c:Operand}{xs:Array Operand}{ats:Array Θ}{f:FuncId}{c1 c2:List Γ}{vs:List Γ}{A B ν:aD}{post:aC→Γ→aD→Prop}{pan:Γ→Prop}(ho:all[ix]?= some ⟨some d,.call {callee:=.value c,args:=xs,argTypes:=ats},ty,pos,aft,g⟩)(hc:ev σ c=some (.func (.func f) c1.toArray c2.toArray))(hxs:q9 σ xs.toList=some vs)
  (hex:X.ex=none) (hfl:fl=false∨∀p∈ν,p.1∈bad) (hu:∀p∈ν,cU p.2) (hf:∀D,(∀D₁∈Ds,Le D₁ D)→kH P f (c1++vs++c2) D ν post pan) (hN:Nat.blt d X.N=true) (hg:cQ all σ g)
  (kp:∀v D,(∀D₁∈Ds,Le D₁ D)→pan v→∀a w,Hl X σ (A++B) (D::Ds) a w→Q (.panic (oW v)) a w)
  (kk:∀v D ν',(∀D₁∈Ds,Le D₁ D)→post D v ν'→WL P X bad all K Q os ((d,v)::σ) (A++ν'++B) (D::Ds)):
  WL P X bad all K Q ((fl,ix)::os) σ (A++ν++B) Ds:=by
 refine fF ho rfl rfl hg fun a w hh=>?_
 obtain⟨h1,h2,h3,D,h4,h5,h6⟩:=id hh;have hF:=hf D h5;have hbx:∀p∈ν,_:=fun p hp=>h4.box p (bNE _ (GE _ hp))
 have hnd:=h4.nd;simp only[bNG]at hnd;rw[uY hF.1 (hh.eval hc) (kT (fun _ _ hx=>hh.eval hx) hxs)];refine⟨fun h=>Xad,dR.2 ((hF.2 w h4.agr (fun p hp=>⟨(hbx p hp).1,(hbx p hp).2.1,hu p hp⟩) (bNF.1 (bNF.1 hnd).1).2.1).mono ?_)⟩;rintro e w' (⟨v,D',ν',rfl,hs,hpost⟩|⟨v,D',rfl,hs,hpan⟩)
 ·have hle:=gO h4.agr hs;refine⟨fun hflt=>⟨hs.size,fun c hc hcb=>hs.old c hc fun hm=>?_⟩,kk v D' ν' (fun D₁ hD₁=>(h5 D₁ hD₁).trans hle) hpost _ _ ?_⟩
  ·obtain⟨p,hp,rfl⟩:=bMR.1 hm;rcases hfl with h|h
   ·rw[hflt]at h;cases h
   ·exact hcb (h p hp)
  ·refine Hl.put ⟨h1,h2,h3,D',h4.afterG hs,fun D₁ hD₁=>?_,Xbg⟩ hN v;rcases LT.1 hD₁ with rfl|hD₁
   ·exact Le.refl _
   ·exact(h5 D₁ hD₁).trans hle
 ·have hle:=gO h4.agr hs;have h7:=h4.afterG hs;rw[bNN]at h7;exact kp v D' (fun D₁ hD₁=>(h5 D₁ hD₁).trans hle) hpan a w' ⟨h1,h2,h3,D',h7,fun D₁ hD₁=>by
   rcases LT.1 hD₁ with rfl|hD₁
   ·exact Le.refl _
   ·exact(h5 D₁ hD₁).trans hle,Xbg⟩
theorem _root_.Go.Fs.Zl{c:Operand}{xs:Array Operand}{ats:Array Θ}{f:FuncId}{c1:List Γ}{c2:List Γ}{vs:List Γ}(A:aD)(B:aD)(ν:aD){post:aC→Γ→aD→Prop}{pan:Γ→Prop}(e9:(all[ix]?,ev σ c,q9 σ xs.toList,X.ex)=(some ⟨some d,.call {callee:=.value c,args:=xs,argTypes:=ats},ty,pos,aft,g⟩,some (.func (.func f) c1.toArray c2.toArray),some vs,none))(hfl:fl=false∨∀p∈ν,p.1∈bad)(hf:∀D,(∀D₁∈Ds,Le D₁ D)→kH P f (c1++vs++c2) D ν post pan)(kp:∀v D,(∀D₁∈Ds,Le D₁ D)→pan v→∀a w,Hl X σ (A++B) (D::Ds) a w→Q (.panic (oW v)) a w)(kk:∀v D ν',(∀D₁∈Ds,Le D₁ D)→post D v ν'→WL P X bad all K Q os ((d,v)::σ) (A++ν'++B) (D::Ds))(hu:∀p∈ν,cU p.2:=by exact Yi)(hN:Nat.blt d X.N=true:=by exact rfl)(hg:cQ all σ g:=by exact bSM):WL P X bad all K Q ((fl,ix)::os) σ (A++ν++B) Ds:=p6 (A:=A) (B:=B) (ν:=ν) (bNB (fun z=>z.1) e9) (bNB (fun z=>z.2.1) e9) (bNB (fun z=>z.2.2.1) e9) (bNB (fun z=>z.2.2.2) e9) hfl hu hf hN hg kp kk
theorem _root_.Go.Fs.Zm{c:Operand}{xs:Array Operand}{ats:Array Θ}{f:FuncId}{c1:List Γ}{c2:List Γ}{vs:List Γ}(A:aD)(B:aD)(ν:aD){post:aC→Γ→aD→Prop}{pan:Γ→Prop}(e9:(all[ix]?,ev σ c,q9 σ xs.toList,X.ex)=(some ⟨some d,.call {callee:=.value c,args:=xs,argTypes:=ats},ty,pos,aft,g⟩,some (.func (.func f) c1.toArray c2.toArray),some vs,none))(hu:∀p∈ν,cU p.2)(hf:∀D,(∀D₁∈Ds,Le D₁ D)→kH P f (c1++vs++c2) D ν post pan)(kp:∀v D,(∀D₁∈Ds,Le D₁ D)→pan v→∀a w,Hl X σ (A++B) (D::Ds) a w→Q (.panic (oW v)) a w)(kk:∀v D ν',(∀D₁∈Ds,Le D₁ D)→post D v ν'→WL P X bad all K Q os ((d,v)::σ) (A++ν'++B) (D::Ds))(hfl:fl=false∨∀p∈ν,p.1∈bad:=by exact(bNI rfl))(hN:Nat.blt d X.N=true:=by exact rfl)(hg:cQ all σ g:=by exact bSM):WL P X bad all K Q ((fl,ix)::os) σ (A++ν++B) Ds:=p6 (A:=A) (B:=B) (ν:=ν) (bNB (fun z=>z.1) e9) (bNB (fun z=>z.2.1) e9) (bNB (fun z=>z.2.2.1) e9) (bNB (fun z=>z.2.2.2) e9) hfl hu hf hN hg kp kk

def AW(X:Cx)(post:aC→Γ→aD→Prop)(pan:Γ→Prop):Ending→Δ→Prop:=fun e w'=>
 (∃v D' ν',e=.returned v∧iT X.h0 X.lo X.D0 X.mods ν' D' w'∧post D' v ν')∨(∃v D',e=.panicked (oW v)∧iT X.h0 X.lo X.D0 X.mods [] D' w'∧pan v)
theorem aFN{fn:Func}{R:Ending→Δ→Prop}:PI (bodyPost P fn R):=fun _ _ _ _ he h=>⟨he.trans h.1,h.2⟩
theorem eI{f:FuncId}{fn:Func}{c:Code}{args:List Γ}{D:aC}{ν:aD}{post:aC→Γ→aD→Prop}{pan:Γ→Prop}(N:Nat)(hf:P.funcs[f]?= some fn)(hn:(fn.name== "runtime.NumGoroutine")=false)(hb:fn.body=some c)(hN:fn.ntmps=N)(hsz:Nat.ble args.length N=true)
  (h:∀h0:H0,(∀p∈ν,p.1<h0.size)→ν.ks.Nodup→WC P (sO N h0 D ν.ks) (bodyPost P fn (AW (sO N h0 D ν.ks) post pan)) c (jP 0 args) ν [D]):kH P f args D ν post pan:=by
 refine⟨EF.of hf hn hb,fun w hw hν hnd=>?_⟩;subst hN;have hsz:=bPE hsz;refine(dR (r:=none) (n:=0)).1 ((callsIn_of_wp (R:=AW (sO fn.ntmps (hd w) D ν.ks) post pan) hf hb bSM (h (hd w) (fun p hp=>bJ (hν p hp).1) hnd _ w ⟨?_,fun s v hs=>?_,rfl,D,⟨bNJ _,bNJ _,fun _ _ _=>rfl,fun _ _=>rfl,hw,(fun p hp=>?_),hnd,(fun p hp=>(hν p hp).2.2),fun e he=>bNS he⟩,fun D₁ h1=>?_,bSM⟩) rfl).mono ?_)
 ·simp[sO];omega
 ·obtain⟨_,h2⟩:=gX args 0 s v hs;have hl:=(bMW.1 h2).1;simp only[bQH]at h2 hl;show(args.toArray++_)[s]?= some v;rw[bPS Yaz];simpa using h2
 ·exact⟨(hν p hp).1,(hν p hp).2.1,bNC (bMR.2 ⟨p,hp,rfl⟩)⟩
 ·simp only[bNL]at h1;subst h1;exact Le.refl _
 ·rintro e w' (⟨v,D',ν',rfl,hs,hp⟩|⟨v,D',rfl,hs,hp⟩)
  ·exact bNI ⟨v,D',ν',rfl,hs,hp⟩
  ·exact bNC ⟨v,D',rfl,hs,hp⟩
theorem H8{fn:Func}{A B ν':aD}{post:aC→Γ→aD→Prop}{pan:Γ→Prop}{e:Exit}(he:(match e with|.normal=>true|.ret=>true|_=>false)=true){rs:List ResultVar}{vs:List Γ}(hds:X.ds=[])(hr:fn.results=rs.toArray)(h:C5 P X σ (A++ν'++B) rs vs)
  (hp:∀D,(∀D₁∈Ds,Le D₁ D)→post D (qO vs) ν'):∀a w,Hl X σ (A++ν'++B) Ds a w→bodyPost P fn (AW X post pan) e a w:=by
 intro a w hh;have hrun:=jG hh hr h;obtain⟨h1,h2,h3,D,h4,h5,I⟩:=hh;have hnd:=h4.nd;simp only[bNG]at hnd;have:a.defers=[]∧∃v,(results fn a.tmps).run P w=.ok v w∧AW X post pan (.returned v) w:=⟨h3.trans hds,_,hrun,bNI ⟨_,D,ν',rfl,h4.sub (fun p hp=>bNE _ (GE _ hp)) (bNF.1 (bNF.1 hnd).1).2.1,hp D h5⟩⟩
 cases e<;>first|exact this|cases he
theorem eC{fn:Func}{post:aC→Γ→aD→Prop}{pan:Γ→Prop}{e:Exit}(I:((match e with|.normal=>true|.ret=>true|_=>false),X.ds,fn.results)=(true,[],#[]))
  (hp:∀D,(∀D₁∈Ds,Le D₁ D)→post D (qO []) μ):∀a w,Hl X σ μ Ds a w→bodyPost P fn (AW X post pan) e a w:=fun a w hh=>
 H8 (A:=[]) (ν':=μ) (B:=[]) (rs:=[]) (vs:=[]) (bNB (fun z=>z.1) I) (bNB (fun z=>z.2.1) I) (bNB (fun z=>z.2.2) I) bSM hp a w (hh.boxesEq (bNN _).symm)
theorem bE{fn:Func}{post:aC→Γ→aD→Prop}{pan:Γ→Prop}{e:Exit}{t:Nat}{v:Γ}(I:((match e with|.normal=>true|.ret=>true|_=>false),X.ds,fn.results,look σ t)=(true,[],#[.tmp t],some v))
  (hp:∀D,(∀D₁∈Ds,Le D₁ D)→post D (qO [v]) μ):∀a w,Hl X σ μ Ds a w→bodyPost P fn (AW X post pan) e a w:=fun a w hh=>
 H8 (A:=[]) (ν':=μ) (B:=[]) (rs:=[.tmp t]) (vs:=[v]) (bNB (fun z=>z.1) I) (bNB (fun z=>z.2.1) I) (bNB (fun z=>z.2.2.1) I) ⟨bNB (fun z=>z.2.2.2) I,bSM⟩ hp a w (hh.boxesEq (bNN _).symm)
theorem cS{fn:Func}{post:aC→Γ→aD→Prop}{pan:Γ→Prop}{v:Γ}(hds:X.ds=[])(hp:pan v):∀a w,Hl X σ μ Ds a w→bodyPost P fn (AW X post pan) (.panic (oW v)) a w:=by
 rintro a w ⟨h1,h2,h3,D,h4,h5,I⟩;exact⟨h3.trans hds,bNC ⟨v,D,rfl,h4.sub Yi bPA,hp⟩⟩
theorem bLO{t:Θ}{fs:Array Field}(ho:all[ix]?= some ⟨some d,.makeInterface t x,ty,pos,aft,g⟩)(ht:P.underlying t=some (.struct fs))(hx:ev σ x=some v)(hN:Nat.blt d X.N=true)(hg:cQ all σ g)(k:WL P X bad all K Q os ((d,.iface t v)::σ) μ Ds):WL P X bad all K Q ((fl,ix)::os) σ μ Ds:=
 bW ho rfl rfl hN hg (fun ρ hρ w'=>by
  simp only[execOp,hρ x _ hx];unfold Instr.makeInterface;rw[Ω,Ω,TU.of ht w'];rfl) k
theorem aZD{t:Θ}{v:Γ}(ho:all[ix]?= some ⟨none,.panic x,ty,pos,aft,g⟩)(hx:ev σ x=some (.iface t v))(hg:cQ all σ g)(k:∀a w,Hl X σ μ Ds a w→Q (.panic (oW (.iface t v))) a w):WL P X bad all K Q ((fl,ix)::os) σ μ Ds:=by
 refine fF ho rfl rfl hg fun a w hh=>?_
 have e:(execOp a.eval ⟨none,.panic x,ty,pos,aft,g⟩).run P w=.halt (.panic (.iface t v)) w:=by
  simp only[execOp,hh.eval hx,Instr.panic];rfl
 rw[e];exact k a w hh
theorem iP{D:aC}{b:Nat}{l:List Bool}{R:Rd Bool}(hR:∀D x cs,cs=[Value.bool x]→R D x cs)(hA:At D b 0 (l.map Value.bool))(hl:l.length≤1000):Sl D R 1 (qS b l.length l.length) l:=by
 refine⟨_,_,rfl,bNJ _,Yd,bNC ⟨b,0,rfl,fun i x hi=>⟨_,hR _ _ _ rfl,rfl,fun j v hj=>?_⟩⟩⟩;cases j with
 |zero=>
  obtain rfl:Value.bool x=v:=Xam
  have h:=hA i (.bool x) (by rw[bOD,hi];rfl);simpa using h
 |succ j=>simp at hj
theorem kH.frame{f:FuncId}{args:List Γ}{D:aC}{ν A B:aD}{post post':aC→Γ→aD→Prop}{pan:Γ→Prop}(h:kH P f args D ν post pan)(h1:∀D' v ν',Le D D'→post D' v ν'→post' D' v (A++ν'++B)):kH P f args D (A++ν++B) post' pan:=by
 refine⟨h.1,fun w hw hν hn=>?_⟩;have hnd:=hn;unfold aD.ks at hnd;simp only[bNG]at hnd;refine(h.2 w hw (fun p hp=>hν p (bNE _ (GE _ hp))) (bNF.1 (bNF.1 hnd).1).2.1).mono ?_;have hst:iT (hd w) w.heap.size D (A++ν++B).ks (A++ν++B) D w:=by
  refine⟨bNJ _,bNJ _,fun _ _ _=>rfl,fun _ _=>rfl,hw,fun p hp=>⟨(hν p hp).1,(hν p hp).2.1,bNC (bMR.2 ⟨p,hp,rfl⟩)⟩,hn,(fun p hp=>(hν p hp).2.2),fun e he=>bNS he⟩
 rintro e w' (⟨v,D',ν',he,hs,hp⟩|⟨v,D',he,hs,hp⟩)
 ·exact bNI ⟨v,D',A++ν'++B,he,hst.afterG hs,h1 _ _ _ (gO hw hs) hp⟩
 ·have I:=hst.afterG hs;exact bNC ⟨v,D',he,I.sub Yi bPA,hp⟩
theorem aUQ{t e tr:Θ}{a:Option Addr}{n c:Nat}{ats:Array Θ}(ho:all[ix]?= some ⟨some d,.call {callee:=.builtin .len,args:=#[x],argTypes:=ats},tr,pos,aft,g⟩)(ht:P.underlying t=some (.slice e))(hx:ev σ x=some v)(hv:v=.slice a n c)(h0:ats[0]?= some t)
  (hN:Nat.blt d X.N=true) (hg:cQ all σ g) (kk:WL P X bad all K Q os ((d,qI (n:Int))::σ) μ Ds):WL P X bad all K Q ((fl,ix)::os) σ μ Ds:=by
 subst hv;exact lL ho ht hx h0 hN hg kk
theorem gR{t tr:Θ}{b:Λ}{ats:Array Θ}(ho:all[ix]?= some ⟨some d,.call {callee:=.builtin .len,args:=#[x],argTypes:=ats},tr,pos,aft,g⟩)(ht:P.underlying t=some .string)(hx:ev σ x=some (.string b))(hat:ats[0]?= some t)
  (hN:Nat.blt d X.N=true) (hg:cQ all σ g) (kk:WL P X bad all K Q os ((d,qI (b.size:Int))::σ) μ Ds):WL P X bad all K Q ((fl,ix)::os) σ μ Ds:=
 bW ho rfl rfl hN hg (fun ρ hρ w'=>by
  have hx':=hρ x _ hx;simp[Builtin.len_,hat,hx',TU.of ht w',goInt,go_sem]) kk
namespace C12
structure aM where
 row:C1.dH
 table:C2.aX
 book:C3.bH
 yard:C7.bA
end C12
open C12
def RB:Rd Bool:=fun _ b cs=>cs=[.bool b]
theorem RB.up:RB.Up:=fun _ _ _ h=>h
def RS:Rd Λ:=fun _ b cs=>cs=[.string b]
theorem RS.up:RS.Up:=fun _ _ _ h=>h
def dO(s:aM)(pv cv hv lv mv bl bc yc yq:Γ):List Γ:=
 [pv,cv,qI s.row.wrong,qI s.row.off,qI s.table.last,hv,qI s.table.step,lv,mv,qI s.book.chairs,qI s.book.coin,qI s.book.box,bl,bc,yc,qI s.yard.fit,yq]
@[simp] theorem stC_len(s:aM)(pv cv hv lv mv bl bc yc yq:Γ):(dO s pv cv hv lv mv bl bc yc yq).length=17:=rfl
structure jR(D:aC)(s:aM)(pv cv hv lv mv bl bc yc yq:Γ):Prop where
 pl:Sl D RI 1 pv s.row.places
 ct:Sl D RC 3 cv s.row.counts
 ht:Sl D AV 2 hv s.table.heights
 lev:Sl D RI 1 lv s.table.levels
 mks:Sl D UV 4 mv s.table.marks
 ln:Sl D tZ 3 bl s.book.lines
 cn:Sl D vK 3 bc s.book.counts
 ch:Sl D A3 4 yc s.yard.chairs
 cl:Sl D R2 2 yq s.yard.claims
theorem jR.up{D D':aC}{s:aM}{pv cv hv lv mv bl bc yc yq:Γ}(h:jR D s pv cv hv lv mv bl bc yc yq)(hl:Le D D'):jR D' s pv cv hv lv mv bl bc yc yq:=
 ⟨h.pl.up RI.up hl,h.ct.up RC.up hl,h.ht.up AV.up hl,h.lev.up RI.up hl,h.mks.up UV.up hl,h.ln.up tZ.up hl,h.cn.up vK.up hl,h.ch.up A3.up hl,h.cl.up R2.up hl⟩
def gG(D:aC)(v:Γ)(s:aM):Prop:=∃pv cv hv lv mv bl bc yc yq,v=.agg (dO s pv cv hv lv mv bl bc yc yq).toArray∧jR D s pv cv hv lv mv bl bc yc yq
theorem gG.up{D D':aC}{v:Γ}{s:aM}(h:gG D v s)(hl:Le D D'):gG D' v s:=by
 obtain⟨pv,cv,hv,lv,mv,bl,bc,yc,yq,e,h1⟩:=h;exact⟨pv,cv,hv,lv,mv,bl,bc,yc,yq,e,h1.up hl⟩
theorem jR.row{D:aC}{s:aM}{pv cv hv lv mv bl bc yc yq:Γ}(h:jR D s pv cv hv lv mv bl bc yc yq):oG D (.agg #[pv,cv,qI s.row.wrong,qI s.row.off]) s.row:=⟨pv,cv,rfl,h.pl,h.ct⟩
theorem jR.table{D:aC}{s:aM}{pv cv hv lv mv bl bc yc yq:Γ}(h:jR D s pv cv hv lv mv bl bc yc yq):gN D (.agg #[qI s.table.last,hv,qI s.table.step,lv,mv]) s.table:=⟨hv,lv,mv,rfl,h.ht,h.lev,h.mks⟩
theorem jR.book{D:aC}{s:aM}{pv cv hv lv mv bl bc yc yq:Γ}(h:jR D s pv cv hv lv mv bl bc yc yq):iM D (.agg #[qI s.book.chairs,qI s.book.coin,qI s.book.box,bl,bc]) s.book:=⟨bl,bc,rfl,h.ln,h.cn⟩
theorem jR.yard{D:aC}{s:aM}{pv cv hv lv mv bl bc yc yq:Γ}(h:jR D s pv cv hv lv mv bl bc yc yq):iY D (.agg #[yc,qI s.yard.fit,yq]) s.yard:=⟨yc,yq,rfl,h.ch,h.cl⟩
open Go.Proofs Tryz
namespace L1
open C1
theorem lB{α:Type}{p:α→Bool}{xs:List α}{k:Nat}{x:α}(hx:xs[k]?= some x)(h:(xs.take k).any p=false)(hp:p x=true):idxOf p xs=k:=by
 have hk:=(bMW.1 hx).1;have he:=(bMW.1 hx).2;have h1:xs.any p=true:=bRD.2 ⟨x,n5 hx,hp⟩;have h2:xs.findIdx p=k:=by
  rw[List.findIdx_eq hk];refine⟨by rw[he];exact hp,fun j hj=>?_⟩
  have:=List.any_eq_false.1 h (xs[j]'Yd) (by
   rw[List.mem_take_iff_getElem];exact⟨j,Yd,rfl⟩)
  simpa using this
 simp[idxOf,h1,h2]
theorem iC{α:Type}{p:α→Bool}{xs:List α}(h:xs.any p=false):idxOf p xs= -1:=by simp[idxOf,h]
theorem lG{α:Type}{p:α→Bool}{xs:List α}:decide (0≤idxOf p xs)=xs.any p:=by
 unfold idxOf;cases h:xs.any p<;>simp
theorem oP{α:Type}{p:α→Bool}{xs:List α}:(!xs.any fun x=> !p x)=xs.all p:=by
 rw[List.all_eq_not_any_not]
theorem fC(n lo hi:Int)(D:aC):Fn prog 202 #[qI n,qI lo,qI hi] D (fun _ v=>v=.bool (hC n lo hi)):=by
 refine Zw 15 func202 rfl fun h0=>Wad ?_;refine' bX 4 (s:=10) (p:=14) rfl (fun I=>?_) (fun I=>?_) ?_;rotate_left
 ·refine Wbh ?_;exact aN 3
 ·refine Wc ?_;exact aN 3
 refine We ?_;exact aE rfl fun D hD=>rfl
theorem aDU(n lo hi:Int)(D:aC):Fn prog 124 #[qI n,qI lo,qI hi] D (fun _ v=>v=.bool (hC n lo hi)):=by
 refine Zw 15 func124 rfl fun h0=>Wbm ?_;refine' bX 4 (s:=10) (p:=14) rfl (fun I=>?_) (fun I=>?_) ?_;rotate_left
 ·refine Wbh ?_;exact aN 3
 ·refine Wc ?_;exact aN 3
 refine We ?_;exact aE rfl fun D hD=>Xde
theorem aUJ(n:Int)(D:aC):Fn prog 211 #[iV n] D (fun _ v=>v=.bool (tY n)):=by
 refine Zw 5 func211 rfl fun h0=>aA<|Zf rfl<|aJ<|Za rfl<|Zd rfl (fun O I=>fC _ _ _ _)<|We ?_;exact aE rfl fun D hD=>rfl
theorem aNQ(rv:Γ)(r:dH)(c:xW)(D:aC)(hr:oG D rv r):Fn prog 209 #[rv,cV c] D (fun _ v=>v=.bool (sU r.places.length c)):=by
 obtain⟨pv,cv,rfl,hp,hc⟩:=hr;refine Zw 16 func209 rfl fun h0=>aA<|Zz rfl fun q1 E1 U O=>Zz rfl fun q2 E2 V I=>Zf rfl<|aJ<|Zj rfl x9 rfl<|Zh 1 rfl aI rfl I rfl<|Zj rfl fH rfl<|Zh 0 rfl cD rfl O rfl<|eE rfl U25 rfl Ym rfl rfl bSM<|Zd rfl (fun D1 Y=>fC _ _ _ _) ?_;refine Za rfl ?_;refine' bX 4 (s:=11) (p:=15) rfl (fun R=>?_) (fun R=>?_) ?_;rotate_left
 ·refine Zk rfl yC rfl<|Zi 2 rfl aI rfl I rfl<|Ze rfl (fun D2 Z=>fC _ _ _ _)<|Zak rfl ?_;exact aN 3
 ·refine Wc ?_;exact aN 3
 refine We ?_;exact aE rfl fun D hD=>rfl
theorem xL(sv fv:Γ)(xs:List Int)(p:Int→Bool)(D:aC)(hS:Sl D RI 1 sv xs)(hp:cX prog D iV fv p):
  Fn prog 364 #[sv,fv] D (fun _ v=>v=qI (idxOf p xs)):=by
 have hl:=hS.len;obtain⟨f,c1,c2,rfl,hf⟩:=hp;refine Zw 19 func364 rfl fun h0=>aA<|Zf rfl<|bC<|Za rfl<|eE rfl U25 rfl Ym rfl rfl bSM<|Wd ?_;rintro k ⟨h1,h2⟩;refine aA<|Zan rfl<|bO<|Zae rfl (fun hc1=>?_) fun hc1=>?_
 ·have hk:k<xs.length:=Yd
  obtain⟨x,hx⟩:=cT xs k;refine aQ<|Za3<|Za1<|aA<|Za rfl<|Zf rfl<|aJ<|Za rfl<|Za rfl<|Za rfl<|dW rfl U25 aH rfl Ym rfl Yd Ym rfl bSM fun Y Z I O V R=>?_;obtain rfl:I=[qI _]:=O;refine Zh 0 rfl aI rfl R rfl<|Zd rfl (fun D1 U=>hf x _ (U _ Yf))<|aF<|Zaf rfl (fun hc2=>?_) fun hc2=>?_
  ·refine Wbf ?_;exact aE rfl fun D hD=>Xat
  ·refine Wbs ?_;have hpx:p x=false:=hc2;have h3:(xs.take (k+1)).any p=false:=by rw[bMZ,hx,bQK,h2];simp[hpx]
   exact aL 12 (k+1) ⟨Yd,h3⟩ Yd ⟨Ya,bSM⟩ rfl rfl Mm5 (aK)
 ·refine Wl ?_;exact aE rfl fun D hD=>Xan
theorem nP(sv fv:Γ)(xs:List Int)(p:Int→Bool)(D:aC)(hS:Sl D RI 1 sv xs)(hp:cX prog D iV fv p):
  Fn prog 309 #[sv,fv] D (fun _ v=>v=.bool (xs.any p)):=by
 refine Zw 9 func309 rfl fun h0=>Wbu ?_;exact aE rfl fun D hD=>Xao
theorem H5(b:Nat)(fv:Γ)(p:Int→Bool)(x:Int)(D:aC)(hp:cX prog D iV fv p)(hB:At D b 0 [fv]):
  Fn prog 310 #[iV x,qP b] D (fun _ v=>v=.bool (!p x)):=by
 obtain⟨f,c1,c2,rfl,hf⟩:=hp;refine Zw 8 func310 rfl fun h0=>Wao ?_;exact aE rfl fun D hD=>rfl
theorem d6(sv fv:Γ)(xs:List Int)(p:Int→Bool)(D:aC)(hS:Sl D RI 1 sv xs)(hp:cX prog D iV fv p)(h1:fv.cells=#[fv]):
  Fn prog 210 #[sv,fv] D (fun _ v=>v=.bool (xs.all p)):=by
 refine Zw 9 func210 rfl fun h0=>aA<|tD (vs:=[fv]) rfl rfl h1 rfl bSM fun b O I hB=>Wai ?_;exact aE rfl fun D hD=>Xau
theorem xN(sv fv:Γ)(xs:List xW)(p:xW→Bool)(D:aC)(hS:Sl D RC 3 sv xs)(hp:cX prog D cV fv p):
  Fn prog 365 #[sv,fv] D (fun _ v=>v=qI (idxOf p xs)):=by
 have hl:=hS.len;obtain⟨f,c1,c2,rfl,hf⟩:=hp;refine Zw 19 func365 rfl fun h0=>aA<|Zf rfl<|bC<|Za rfl<|eE rfl U26 rfl Ym rfl rfl bSM<|Wd ?_;rintro k ⟨h1,h2⟩;refine aA<|Zan rfl<|bO<|Zae rfl (fun hc1=>?_) fun hc1=>?_
 ·have hk:k<xs.length:=Yd
  obtain⟨x,hx⟩:=cT xs k;refine aQ<|Za3<|Za1<|aA<|Za rfl<|Zf rfl<|aJ<|Za rfl<|Za rfl<|Za rfl<|dW rfl U26 kM rfl Ym rfl Yd Ym rfl bSM fun Y Z I O V R=>?_;obtain rfl:I=[.bool _,qI _,qI _]:=O;refine Zv rfl DE rfl R kM<|Zd rfl (fun D1 U=>hf x _ (U _ Yf))<|aF<|Zaf rfl (fun hc2=>?_) fun hc2=>?_
  ·refine Wbf ?_;exact aE rfl fun D hD=>Xat
  ·refine Wbs ?_;have hpx:p x=false:=hc2;have h3:(xs.take (k+1)).any p=false:=by rw[bMZ,hx,bQK,h2];simp[hpx]
   exact aL 12 (k+1) ⟨Yd,h3⟩ Yd ⟨Ya,bSM⟩ rfl rfl Mm5 (aK)
 ·refine Wl ?_;exact aE rfl fun D hD=>Xan
theorem rY(sv fv:Γ)(xs:List xW)(p:xW→Bool)(D:aC)(hS:Sl D RC 3 sv xs)(hp:cX prog D cV fv p):
  Fn prog 311 #[sv,fv] D (fun _ v=>v=.bool (xs.any p)):=by
 refine Zw 9 func311 rfl fun h0=>aA<|Zf rfl<|aJ<|Za rfl<|Za rfl<|Zd rfl (fun O I=>xN _ _ xs p _ (Sl.at RC.up I Ym Yf) (hp.up (I _ Yf)))<|Waa ?_;exact aE rfl fun D hD=>Xao
theorem GN(b:Nat)(fv:Γ)(p:xW→Bool)(x:xW)(D:aC)(hp:cX prog D cV fv p)(hB:At D b 0 [fv]):
  Fn prog 312 #[cV x,qP b] D (fun _ v=>v=.bool (!p x)):=by
 obtain⟨f,c1,c2,rfl,hf⟩:=hp;refine Zw 8 func312 rfl fun h0=>aA<|Zz rfl fun q1 E1 R I=>Zf rfl<|aJ<|Zh 0 rfl bEG rfl hB rfl<|Zv rfl DE rfl I kM<|Wz ?_;exact aE rfl fun D hD=>rfl
theorem NH(sv fv:Γ)(xs:List xW)(p:xW→Bool)(D:aC)(hS:Sl D RC 3 sv xs)(hp:cX prog D cV fv p)(h1:fv.cells=#[fv]):
  Fn prog 212 #[sv,fv] D (fun _ v=>v=.bool (xs.all p)):=by
 refine Zw 9 func212 rfl fun h0=>aA<|tD (vs:=[fv]) rfl rfl h1 rfl bSM fun b O I hB=>Zf rfl<|aJ<|Za rfl<|Zay rfl<|Zd rfl (fun O I=>rY _ _ xs (fun x=> !p x) _ (Sl.at RC.up I Ym Yf) ⟨_,[],[qP b],rfl,fun x R hl=>GN b fv p x R (hp.up ((I _ Yf).trans hl)) (hB.up ((I _ Yf).trans hl))⟩)<|Zat rfl<|We ?_;exact aE rfl fun D hD=>Xau
theorem EE(sv:Γ)(x:Int)(xs:List Int)(D:aC)(hS:Sl D RI 1 sv (x::xs)):
  Fn prog 250 #[sv] D (fun _ v=>v=qI (xs.foldl min x)):=by
 have hl:=hS.len;simp only[bMX]at hl;refine Zw 25 func250 rfl fun h0=>aA<|Zf rfl<|bC<|Za rfl<|eE rfl U25 rfl Ym rfl rfl bSM<|Zan rfl<|aF<|Zae rfl (fun hc1=>?_) fun hc1=>?_
 ·exact absurd hc1 (by simp only[bMX];omega)
 ·refine aQ<|aA<|Za rfl<|dW rfl U25 aH rfl Ym rfl Yd Ybb rfl bSM fun b1 o1 I O Z R=>?_;obtain rfl:I=[qI _]:=O;refine Wag ?_;rintro k h1;refine bZ<|Za rfl<|Za rfl<|eE rfl U25 rfl Ym rfl rfl bSM<|Zan rfl<|aF<|Zae rfl (fun hc2=>?_) (fun hc2=>?_)
  ·simp only[bMX]at hc2;have hk:k<xs.length:=Yd
   obtain⟨y,hy⟩:=cT xs k;have hE:(x::xs)[(k+1:Int).toNat]?= some y:=by rw[show((k:Int)+1).toNat=k+1 by omega];simpa using hy
   refine aQ<|Za3<|Za1<|aO<|Za rfl<|Za rfl<|Za rfl<|dW rfl U25 aH rfl Ym rfl Yd Ym rfl bSM fun b2 o2 U V hB Y=>?_;obtain rfl:U=[qI _]:=V;refine Zh 0 rfl aI rfl Y rfl<|NT rfl rfl rfl rfl bSM<|Wu ?_;have h3:(xs.take (k+1)).foldl min x=min ((xs.take k).foldl min x) y:=by rw[bMZ,hy,bOR];rfl
   exact Zn 16 (k+1) ⟨(by rw[h3];rfl),Ya,bSM⟩ rfl Mm5
  ·simp only[bMX]at hc2;refine Wm ?_;exact aE rfl fun D hD=>Xcm
theorem nD(sv:Γ)(x:Int)(xs:List Int)(D:aC)(hS:Sl D RI 1 sv (x::xs)):
  Fn prog 216 #[sv] D (fun _ v=>v=qI (xs.foldl min x)):=by
 refine Zw 5 func216 rfl fun h0=>Wav ?_;exact aE rfl fun D hD=>rfl
theorem SM{r:dH}(h:(decide ((9:Int)<r.places.length)||decide ((6:Int)<r.counts.length))=true):aZ r=3:=by
 simp only[bNZ,GT]at h;unfold aZ;rw[bNK Yd]
theorem JV{r:dH}{b:Bool}(h:(decide ((9:Int)<r.places.length)||decide ((6:Int)<r.counts.length))=false)
  (h2:((((decide ((r.places.length:Int)=0)|| !hC r.wrong 0 6)|| !hC r.off 0 9)|| !r.places.all tY)|| !r.counts.all (sU r.places.length))=b):aZ r=if b then 1 else 0:=by
 simp only[bOH,bMY]at h;unfold aZ;rw[bNA Yd]
 subst h2;by_cases h1:r.places.length=0<;>cases hC r.wrong 0 6<;>cases hC r.off 0 9<;>cases r.places.all tY<;>cases r.counts.all (sU r.places.length)<;>simp[h1]
theorem AR{r:dH}(h:(decide ((9:Int)<r.places.length)||decide ((6:Int)<r.counts.length))=false)
  (h2:((((decide ((r.places.length:Int)=0)|| !hC r.wrong 0 6)|| !hC r.off 0 9)|| !r.places.all tY)|| !r.counts.all (sU r.places.length))=true):aZ r=1:=JV h h2
theorem vR{r:dH}(h:(decide ((9:Int)<r.places.length)||decide ((6:Int)<r.counts.length))=false)
  (h2:((((decide ((r.places.length:Int)=0)|| !hC r.wrong 0 6)|| !hC r.off 0 9)|| !r.places.all tY)|| !r.counts.all (sU r.places.length))=false):aZ r=0:=JV h h2
theorem K3{r:dH}{t:List Int}{k:Nat}{x:xW}(hx:r.counts[k]?= some x)(h2:(r.counts.take k).all (fun c=>decide (gV t c≤r.off))=true)(h:¬r.off<gV t x):(r.counts.take (k+1)).all (fun c=>decide (gV t c≤r.off))=true:=by
 rw[bMZ,hx,List.all_append,h2];simp;omega
theorem VV{r:dH}{t:List Int}{k:Nat}{x:xW}(hx:r.counts[k]?= some x)(hb:0≤gV t x∧gV t x≤9):
  ((((r.counts.take (k+1)).filter fun c=>decide (0<gV t c)).length:Nat):Int)=((r.counts.take k).filter fun c=>decide (0<gV t c)).length+ [1].foldl min (gV t x):=by
 rw[bMZ,hx,bOE,LE];by_cases h:0<gV t x
 ·simp[h];omega
 ·simp[h];omega
theorem TJ{r:dH}{t:List Int}{x:xW}(hx:x∈r.counts)(h:r.off<gV t x):eW r t=false:=by
 unfold eW;rw[bSA];exact⟨x,hx,Yaq⟩
theorem MJ{r:dH}{t:List Int}(h:r.counts.all (fun c=>decide (gV t c≤r.off))=true):eW r t=true:=h
theorem BO(rv:Γ)(r:dH)(D:aC)(hr:oG D rv r):Fn prog 132 #[rv] D (fun _ v=>v=qI (aZ r)):=by
 obtain⟨pv,cv,rfl,hp,hc⟩:=hr;refine Zw 47 func132 rfl fun h0=>aA<|Zz rfl fun q1 E1 hF I=>Zf rfl<|aJ<|Zv rfl nI rfl I mE<|Zay rfl<|Zf rfl<|bO<|Za1<|aA<|Zj rfl fH rfl ?_;refine Zh 0 rfl cD rfl I rfl<|eE rfl U25 rfl Ym rfl rfl bSM<|Was ?_;refine' dL 5 (s:=11) (p:=16) rfl (fun U=>?_) (fun U=>?_) ?_;rotate_left
 ·refine Zk rfl nE rfl<|Zi 1 rfl I5 rfl I rfl<|eE rfl U26 rfl Ym rfl rfl ⟨_,rfl,rfl⟩<|Ww ?_;exact aN 4
 ·refine Wf ?_;exact aN 4
 refine Zf rfl<|aF<|Zaf rfl (fun hc1=>?_) fun hc1=>?_
 ·refine Wk ?_;exact aE rfl fun D hD=>by show Value.int _ _=_;rw[SM hc1]
 ·refine aA<|Zj rfl fH rfl<|Zh 0 rfl cD rfl I rfl<|eE rfl U25 rfl Ym rfl rfl bSM<|Waw ?_;refine' dL 5 (s:=22) (p:=27) rfl (fun V=>?_) (fun V=>?_) ?_;rotate_left
  ·refine Zk rfl FB rfl<|Zi 2 rfl aI rfl I rfl<|Ze rfl (fun D1 hH=>fC _ _ _ _)<|Wal ?_;exact aN 4
  ·refine Wf ?_;exact aN 4
  refine Za rfl ?_;refine' dL 5 (s:=28) (p:=33) rfl (fun Y=>?_) (fun Y=>?_) ?_;rotate_left
  ·refine Zk rfl j2 rfl<|Zi 3 rfl aI rfl I rfl<|Ze rfl (fun R hI=>fC _ _ _ _)<|Wal ?_;exact aN 4
  ·refine Wf ?_;exact aN 4
  refine Za rfl ?_;refine' dL 5 (s:=34) (p:=39) rfl (fun Z=>?_) (fun Z=>?_) ?_;rotate_left
  ·refine Zk rfl fH rfl<|Zi 0 rfl cD rfl I rfl<|Ze rfl (fun D3 hB=>d6 _ _ _ tY _ (Sl.at RI.up hB Ym Yf) (.of fun x R=>aUJ x R) rfl)<|Wal ?_;exact aN 4
  ·refine Wf ?_;exact aN 4
  refine Za rfl ?_;refine' dL 6 (s:=40) (p:=46) rfl (fun hE=>?_) (fun hE=>?_) ?_;rotate_left
  ·refine Zk rfl nE rfl<|Zi 1 rfl I5 rfl I rfl<|Zb rfl<|Ze rfl (fun D4 O=>NH _ _ _ (sU r.places.length) _ (Sl.at RC.up O Ym Yf) ⟨_,[_],[],rfl,fun c R hl=>aNQ _ r c R ⟨_,_,rfl,hp.up RI.up ((O _ Yf).trans hl),hc.up RC.up ((O _ Yf).trans hl)⟩⟩ rfl)<|Wal ?_;exact aN 5
  ·refine Zg rfl<|Wf ?_;exact aN 5
  refine Zf rfl<|aF<|Zaf rfl (fun hc2=>?_) fun hc2=>?_
  ·refine Wk ?_;exact aE rfl fun D hD=>by show Value.int _ _=_;rw[AR hc1 hc2]
  ·refine bG<|Wac ?_;exact aE rfl fun D hD=>by show Value.int _ _=_;rw[vR hc1 hc2]
theorem aXK(c:List Int)(h9:c.length=9)(hb:∀x∈c,0≤x∧x≤1)(D:aC):Fn prog 135 #[.agg (ints c).toArray] D (fun _ v=>v=.agg (ints (nU c)).toArray):=by
 refine Zw 20 func135 rfl fun h0=>aA<|Zz rfl fun q1 E1 O I=>Zah rfl bDP rfl fun R=>bC<|Zv rfl kS rfl I Yad<|Za rfl<|aF<|Za1<|gT (γ:=Nat) (fun k=>9-k) (fun k=>k≤9) (fun k=>[(6,qI (k:Int))]) [(5,_),(2,_)] (fun k=>[(R,qC (ints (sM c k)) 264)]) (fun k=>[E1,D]) 0 Yd ⟨Ya,bSM⟩ cF Mm5 (aK) ?_;rintro k h1;refine aA<|Zan rfl<|bO<|Zae rfl (fun hc1=>?_) fun hc1=>?_
 ·have hk:k<9:=Yd
  obtain⟨x,hx⟩:=cT c k;have hx1:=hb x (n5 hx);have hx2:=eZ hb 0 k;have U:=WG c k Yd;have hlen:=GY c k;refine aQ<|Za3<|Za1<|aA<|Za rfl<|FS rfl U258 aI aH rfl rfl Yd Yd Ym rfl bSM<|Zf rfl<|Zf rfl<|aF<|aO<|Za rfl<|Zad rfl ?_;refine Za rfl<|cA rfl U264 aH rfl rfl Yd Yd rfl bSM<|bD rfl aI rfl Mm0 (cO Ym) n4 rfl bSM<|Za rfl<|Zad rfl<|cA rfl U264 aH rfl rfl Yd Yd rfl bSM<|p5 rfl aH rfl rfl ζ (by simp only[*];omega) bSM<|Zao<|Za4<|Zaz<|aO<|Zad rfl ?_;refine Za rfl<|Zao ?_;rw[←zU Xag,show((k:Int)+1).toNat=k+1 by omega,VG];exact Zn 16 (k+1) ⟨Ya,bSM⟩ rfl Mm5
 ·obtain rfl:k=9:=Yd
  rw[PD];have hlen:=sK c;refine Za6<|Za2<|Za2<|Za7<|Zaz<|aA<|Zag rfl CR rfl Mm0 Xcn<|Zac rfl uB ζ (dP _)<|aG ?_
  exact Zo [_] rfl ⟨⟨_,_,_,rfl,Mm0,bNC ⟨CR,(by first|exact uB|(simp only[bOM,aP, *];exact uB)),rfl⟩⟩,bSM⟩ fun D hD=>rfl
theorem bHD(rv:Γ)(r:dH)(c:xW)(t:List Int)(D:aC)(hr:oG D rv r)(hok:mM r)(ht:oR r t)(hcm:c∈r.counts):
  Fn prog 313 #[rv,cV c,.agg (ints (nU t)).toArray] D (fun _ v=>v=qI (gV t c)):=by
 obtain⟨pv,cv,rfl,hp,hc⟩:=hr;obtain⟨h1,h2,h3,h4⟩:=hok.cnt c hcm;have h9:=hok.len9;have hab:=CA ht h1 h2 h9;have O:=aAW ht h1 h2;have U:=vP t c.many.toNat Yd;have V:=vP t r.places.length Yd;have Y:=vP t (r.places.length-c.many.toNat) Yd;have Z:(nU t)[(↑r.places.length-c.many).toNat]?= some (dK t 0 (r.places.length-c.many.toNat)):=by rw[show(↑r.places.length-c.many).toNat=r.places.length-c.many.toNat by omega];exact Y
 rw[ht.1]at O;have hE:=eZ ht.2 0 r.places.length;have hF:=eZ ht.2 0 (r.places.length-c.many.toNat);have hH:=eZ ht.2 0 c.many.toNat;refine Zw 37 func313 rfl fun h0=>aA<|Zz rfl fun q1 E1 hI hB=>Zz rfl fun q2 E2 hJ I=>Zz rfl fun q3 E3 hK R=>Zf rfl<|aJ<|Zj rfl x9 rfl<|Zh 1 rfl aI rfl I rfl<|cA rfl U264 aH rfl rfl Yd Yd rfl bSM<|iL rfl aI rfl R Yf (cO U) n4 rfl bSM<|Zf rfl ?_;refine bC<|Zj rfl fH rfl<|Zh 0 rfl cD rfl hB rfl<|eE rfl U25 rfl Ym rfl rfl bSM<|Zf rfl<|aJ<|Zj rfl aMR rfl<|Zh 0 rfl FM rfl I rfl<|aF<|Zaf rfl (fun hc1=>?_) fun hc1=>?_
 ·rw[bNK hc1]at O;refine bN [] 5 11 504<|Za rfl<|cA rfl U264 aH rfl rfl Yd Yd rfl bSM<|iL rfl aI rfl R Yf (cO V) n4 rfl bSM<|Za rfl<|Zj rfl x9 rfl<|Zh 1 rfl aI rfl I rfl<|Zav rfl<|cA rfl U264 aH rfl rfl Yd Yd rfl bSM<|iL rfl aI rfl R Yf (cO Z) n4 rfl bSM<|Zav rfl<|Zf rfl ?_;refine aJ<|Za rfl<|Zj rfl yC rfl<|Zh 2 rfl aI rfl I rfl<|Zav rfl<|Zj rfl yC rfl<|Zh 2 rfl aI rfl I rfl<|Za rfl<|Zav rfl<|qW rfl rfl rfl rfl bSM<|We ?_;exact aE rfl fun D hD=>by show Value.int _ _=_;rw[←O];rfl
 ·rw[bNA (by simp[hc1])]at O;refine aQ<|aA<|Za rfl<|Zj rfl yC rfl<|Zh 2 rfl aI rfl I rfl<|Zav rfl<|Zj rfl yC rfl<|Zh 2 rfl aI rfl I rfl<|Za rfl<|Zav rfl<|qW rfl rfl rfl rfl bSM<|Zf rfl ?_;refine aG ?_;exact aE rfl fun D hD=>by show Value.int _ _=_;rw[←O];rfl
theorem aMH(rv:Γ)(r:dH)(t:List Int)(D:aC)(hr:oG D rv r)(hok:mM r)(ht:oR r t):
  Fn prog 215 #[rv,.agg (ints (nU t)).toArray] D (fun D' v=>Sl D' RI 1 v (r.counts.map (gV t))):=by
 obtain⟨pv,cv,rfl,hp,hc⟩:=hr;have h6:=hok.cnt6;have hsl:=sK t;refine Zw 23 func215 rfl fun h0=>aA<|Zz rfl fun q1 E1 hO O=>Zz rfl fun q2 E2 hP U=>Zf rfl<|bC<|Zj rfl nE rfl<|Zh 1 rfl I5 rfl O rfl<|eE rfl U26 rfl Ym rfl rfl bSM<|Za rfl<|aF<|Za1 ?_;refine Zc (Nat×Γ×aD) (fun g=>r.counts.length-g.1) (fun g=>g.1≤r.counts.length∧bI 3 1 g.2.1 g.1 (ints ((r.counts.take g.1).map (gV t))) g.2.2) (fun g=>[(10,qI (g.1:Int)),(4,g.2.1)]) [(9,_),(8,_),(3,_),(2,_)] (fun g=>g.2.2++[]) (fun g=>[E2,E1,D]) (0,qN,[]) ⟨Yf,Xap⟩ ⟨Ya,Ya,bSM⟩ Mm5 ?_;rintro⟨k,v,ν⟩ ⟨h1,ha⟩;refine aA<|Zan rfl<|bO<|Zae rfl (fun hc1=>?_) fun hc1=>?_
 ·have hk:k<r.counts.length:=Yd
  obtain⟨x,hx⟩:=cT r.counts k;have hxm:=n5 hx;refine aQ<|Za3<|Za1<|aA<|dW rfl U26 kM rfl Ym rfl Yd Ym rfl bSM fun b1 o1 V Y hJ Z=>?_;obtain rfl:V=[.bool _,qI _,qI _]:=Y;refine Zv rfl DE rfl Z kM<|Zah rfl A5 rfl fun q3=>Zab rfl kM ζ<|aF<|aO<|Za rfl<|Zv rfl nI rfl O mE<|Zag rfl DE rfl Mm0 kM<|cK rfl CR rfl U Yc Xcn n4 rfl bSM<|Zd rfl (fun D1 R=>bHD _ r x t _ ⟨_,_,rfl,hp.up RI.up (R _ Yf),hc.up RC.up (R _ Yf)⟩ hok ht hxm)<|Zt rfl U25 aH cE rfl (.cons rfl rfl .nil) fun hK hN hB I=>?_
  have hE:=Sl.ofInts (l:=[_]) (n:=1) (cap:=1) I rfl Yd Yd;refine aS (A:=[(_,_)]) (B:=_) rfl U25 rfl rfl aH cE rfl kD rfl rfl rfl ha (jY.lit I) Yf rfl Yaq Yk Yd (bNI rfl) rfl bSM fun v1 ν1 hH=>?_;have hI:bI 3 1 v1 (k+1) (ints ((r.counts.take (k+1)).map (gV t))) ν1:=by rw[bMZ,hx,bNU,bNG,←eV];exact hH
  refine Wan ?_;exact aL 16 (k+1,v1,ν1) ⟨Yn,hI⟩ Yn ⟨Ya,Ya,bSM⟩ rfl rfl (List.Sublist.cons _ Mm5) fun D h=>⟨D,bNM _ (h),Le.refl D⟩
 ·obtain rfl:k=r.counts.length:=Yd
  rw[bNR]at ha;refine Za6<|Za2<|Za2<|Za7<|Zaz<|aA<|Za rfl<|Zf rfl<|aG<|dS (A:=[]) (B:=[]) ha rfl fun D2 hR hF=>?_;exact aE rfl fun D hD=>(hF.ints Yf Yd).up RI.up (hD _ Yf)
theorem SQ(rv:Γ)(r:dH)(t:List Int)(D:aC)(hr:oG D rv r)(hok:mM r)(ht:oR r t):
  Fn prog 134 #[rv,.agg (ints (nU t)).toArray] D (fun _ v=>v=.tuple #[qI (if eW r t then(rO r t:Int)else 0),.bool (eW r t)]):=by
 obtain⟨pv,cv,rfl,hp,hc⟩:=hr;have h6:=hok.cnt6;have hsl:=sK t;refine Zw 27 func134 rfl fun h0=>aA<|Zz rfl fun q1 E1 hH U=>Zz rfl fun q2 E2 hI Y=>Zf rfl<|Zf rfl<|bC<|Zv rfl nI rfl U mE<|cK rfl CR rfl Y Yc Xcn n4 rfl bSM<|Zy rfl (fun D1 I=>aMH _ r t _ ⟨_,_,rfl,hp.up RI.up (I _ Yf),hc.up RC.up (I _ Yf)⟩ hok ht) fun v1 D1 I V=>Zai rfl U25 rfl V rfl<|Za rfl ?_;refine aF<|Za1<|bM (γ:=Nat) (fun k=>r.counts.length-k) (fun k=>k≤r.counts.length∧(r.counts.take k).all (fun c=>decide (gV t c≤r.off))=true) (fun k=>[(12,qI (k:Int)),(4,qI (((r.counts.take k).filter fun c=>decide (0<gV t c)).length:Int))]) [(11,_),(10,_),(5,_),(2,_)] (fun k=>[D1,E2,E1,D]) 0 Yf ⟨Ya,Ya,bSM⟩ cF (aK) ?_;rintro k ⟨h1,h2⟩;refine aA<|Zan rfl<|bO<|Zae rfl (fun hc1=>?_) fun hc1=>?_
 ·simp only[bOB]at hc1;have hk:k<r.counts.length:=Yd
  obtain⟨x,hx⟩:=cT r.counts k;have hxm:=n5 hx;have hx2:(r.counts.map (gV t))[k]?= some (gV t x):=by rw[bOD,hx];rfl
  have hxb:=UL hok ht hxm;have hlf:=bOJ (fun c=>decide (0<gV t c)) (r.counts.take k);have hlt:(r.counts.take k).length≤k:=bPW _ _;refine aQ<|Za3<|Za1<|aA<|iW rfl V rfl hx2 fun b1 o1=>Zf rfl<|bC<|Za rfl<|Zj rfl j2 rfl<|Zh 3 rfl aI rfl U rfl<|Zaq rfl<|aF ?_;refine Zae rfl (fun hc2=>?_) fun hc2=>?_
  ·refine aA<|Zf rfl<|Wax ?_;exact Zo [_,_] rfl cF fun D hD=>by show Value.tuple _=_;rw[TJ hxm hc2];rfl
  ·refine aQ<|aO<|Za rfl<|Za rfl<|Zt rfl U25 aH cE rfl (.cons rfl rfl (.cons rfl rfl .nil)) fun hE hF Z O=>?_;have R:=Sl.ofInts (l:=[_,_]) (n:=2) (cap:=2) O rfl Yd Yd;refine Zd rfl (fun D2 hB=>nD _ (gV t x) [1] _ (R.up RI.up (hB _ Yf)))<|oC rfl rfl rfl (by simp only[wD,bNX,List.foldl_nil];omega) rfl bSM<|Wan ?_
   exact aL 18 (k+1) ⟨Yd,K3 hx h2 hc2⟩ Yd ⟨Ya,(by rw[VV hx hxb];rfl),bSM⟩ rfl rfl Mm5 fun D h=>⟨D,bNM _ (h),Le.refl D⟩
 ·simp only[bOB]at hc1;obtain rfl:k=r.counts.length:=Yd
  rw[bNR]at h2;refine Za6<|Za2<|Za2<|Za7<|Zaz<|aA<|Za rfl<|Wcd ?_;exact Zo [_,_] rfl cF fun D hD=>by show Value.tuple _=_;rw[MJ h2,bNR];rfl
theorem o9(t:List Int)(D:aC)(h:t.length≤9)(hb:∀x∈t,0≤x∧x≤1):Fn prog 135 #[.agg (ints (gL t)).toArray] D (fun _ v=>v=.agg (ints (nU t)).toArray):=
 (aXK (gL t) (iI h) (aAB hb) D).mono fun _ v _ hv=>by rw[hv,aBV]
end L1
namespace L12
def fZ(code:Int):Γ:=.iface 331 (.agg #[qI code])
theorem aJN(sv:Γ)(xs:List Bool)(b:Bool)(D:aC)(hS:Sl D RB 1 sv xs):Fn prog 350 #[sv,.bool b] D (fun _ v=>v=qI (idxOf (fun x=>b==x) xs)):=by
 have hl:=hS.len;refine Zw 19 func350 rfl fun h0=>aA<|Zf rfl<|bC<|Za rfl<|eE rfl U401 rfl Ym rfl rfl bSM<|Za rfl<|aF<|Za1<|bM (γ:=Nat) (fun k=>xs.length-k) (fun k=>k≤xs.length∧(xs.take k).any (fun x=>b==x)=false) (fun k=>[(8,qI k)]) [(7,_),(4,_),(0,_),(1,_)] (fun k=>[D]) 0 Yf ⟨Ya,bSM⟩ cF (aK) ?_;rintro k ⟨h1,h2⟩;refine aA<|Zan rfl<|bO<|Zae rfl (fun hc1=>?_) fun hc1=>?_
 ·have hk:k<xs.length:=Yd
  obtain⟨x,hx⟩:=cT xs k;refine aQ<|Za3<|Za1<|aA<|Za rfl<|Zf rfl<|aJ<|Za rfl<|Za rfl<|Za rfl<|dW rfl U401 mG rfl Ym rfl Yd Ym rfl bSM fun V Y I O U R=>?_;obtain rfl:I=[.bool _]:=O;refine Zh 0 rfl FM rfl R rfl<|bGL rfl U4 rfl rfl rfl bSM<|aF<|Zaf rfl (fun hc2=>?_) fun hc2=>?_
  ·refine Wbf ?_;exact aE rfl fun D hD=>Xbt
  ·refine Wbs ?_;have h3:(xs.take (k+1)).any (fun x=>b==x)=false:=by rw[bMZ,hx,bQK,h2];simpa using hc2
   exact aL 12 (k+1) ⟨Yd,h3⟩ Yd ⟨Ya,bSM⟩ rfl rfl Mm5 (aK)
 ·refine Wl ?_;exact aE rfl fun D hD=>Xbu
theorem ND(sv:Γ)(xs:List Bool)(b:Bool)(D:aC)(hS:Sl D RB 1 sv xs):Fn prog 288 #[sv,.bool b] D (fun _ v=>v=.bool (xs.any fun x=>b==x)):=by
 refine Zw 9 func288 rfl fun h0=>aA<|Zf rfl<|aJ<|Za rfl<|Za rfl<|Zd rfl (fun O I=>aJN _ xs b _ (Sl.at RB.up I Ym Yf))<|Waa ?_;exact aE rfl fun D hD=>Xbv
theorem gD(code:Int)(cs:List Bool)(sv:Γ)(D:aC)(hS:Sl D RB 1 sv cs):kH prog 190 [qI code,sv] D [] (fun _ _ ν'=>cs.any (fun x=>true==x)=false∧ν'=[]) (fun v=>cs.any (fun x=>true==x)=true∧v=fZ code):=by
 refine eI 9 func190 rfl rfl rfl rfl fun h0 hwl hwn=>aA<|Za rfl<|Zd rfl (fun O I=>ND _ cs true _ (hS.up RB.up (I _ Yf)))<|aF<|Zaf rfl (fun hc1=>?_) fun hc1=>?_
 ·refine aO<|Za rfl<|Zu [qI code] rfl aWV aCD rfl<|bLO rfl U331 rfl rfl bSM ?_;exact aZD rfl rfl bSM (cS rfl ⟨hc1,rfl⟩)
 ·refine bG ?_;exact eC rfl fun D' hD=>⟨hc1,rfl⟩
end L12
namespace L1
open C1
def jC(br bY bc bh:Nat)(c:List Int):aD:=[(bh,qC [.func (.func 214) #[] #[qP br,qP bY,qP bc,qP bh]] 182),(bc,qC (ints c) 258)]
theorem wB{c pre:List Int}{i:Nat}{k:Int}(h:c.take (i+1)=pre++[k])(hl:pre.length=i):c.take i=pre:=by
 have:=bNB (List.take i) h;rw[List.take_take,bQI (Nat.le_succ i)]at this;rw[this,bOK Yd,bNV Yd]
def PZ(x:List Int):List Γ:=[.agg (ints x).toArray]
def aEO(P:Program)(Dr:aC)(lo l:Nat)(J Jx:List (List Int)→wE)(xs:List (List Int)):Prop:=∀pre x β D w,(∃r,xs=pre++x::r)→N9 lo D w→J pre β D w→(∀b∈β,b<w.heap.size)→Le Dr D→
    jI P l (PZ x) w fun b D' w'=>N9 lo D' w'∧N6 β D w D' w'∧(if b then J (pre++[x]) β D' w' else Jx (pre++[x]) β D' w')
def Y6(J Jx:List (List Int)→wE)(br bY bc bh:Nat)(places:List Int)(pre:List Int)(i:Nat)(done:List (List Int))(v:Γ)(J':wE)(μ':aD):Prop:=
 ∃b c',v=.bool b∧c'.length=9∧c'.take i=pre∧c'.drop places.length=List.replicate (9-places.length) 0∧μ'=jC br bY bc bh c'∧(if b=true then J'=J (done++(cB (places.drop i)).map fun t=>gL (pre++t))else ∃p,J'=Jx p)
theorem yU{lo l:Nat}{J Jx:List (List Int)→wE}{places:List Int}{xs:List (List Int)}{Dr Dy:aC}{Ds:List aC}{br bY bc bh:Nat}{pv cv:Γ}{w1 w2:Int}(U:places.length≤9)
  (hs:∀pre,V6 lo (J pre)) (hsx:∀pre,V6 lo (Jx pre)) (hY:aEO prog Dr lo l J Jx xs) (hDr:Dr∈Ds) (hDy:Dy∈Ds) (hA:At Dr br 0 [pv,cv,qI w1,qI w2]) (hpl:Sl Dr RI 1 pv places) (hB:At Dy bY 0 [.func (.yield l) #[] #[]]):
  ∀(j i:Nat) (pre c:List Int) (done rest:List (List Int)) (iv:Int),iv=i→i+j=places.length→pre.length=i→c.length=9→c.take i=pre→c.drop places.length=List.replicate (9-places.length) 0→
   xs=done++(cB (places.drop i)).map (fun t=>gL (pre++t))++rest→
   bJV prog 214 [qI iv,qP br,qP bY,qP bc,qP bh] lo (J done) (jC br bY bc bh c) Ds (Y6 J Jx br bY bc bh places pre i done):=by
 intro j;induction j using Nat.strongRecOn with
 |_ j ih=>
 intro i pre c done rest iv hiv hij hl h9 hp hz hxs;subst hiv;have hmx:=hpl.len;refine W8 (μ:=jC br bY bc bh c) 41 func214 rfl rfl rfl rfl<|aA<|Zf rfl<|bC<|Za rfl<|Zj rfl fH rfl<|Zh 0 rfl cD rfl hA rfl<|eE rfl U25 rfl Ym rfl rfl bSM<|Zas rfl<|aF<|Zae rfl (fun hc1=>?_) fun hc1=>?_
 ·have hin:i=places.length:=Yd
  subst hin;have hleaf:=(RJ h9 hp hl hz).symm;rw[bSK]at hxs;simp only[cB,bNT,bRF,bNN]at hxs;rw[hleaf,bND,bQJ]at hxs;refine aA<|Zh 0 rfl bCL rfl hB rfl<|bL rfl kS rfl Mm1 Yad n4 rfl bSM<|FQ (l:=l) (J1:=J (done++[c])) (J0:=Jx (done++[c])) rfl rfl rfl rfl (hs _) (hsx _) (fun D w hd hJ hb hl=>hY done c _ D w ⟨rest,hxs⟩ hd hJ (fun b hbm=>by obtain⟨p,hp,rfl⟩:=bMR.1 hbm;exact hb p hp) (hl _ hDr)) rfl bSM fun V J1 Y=>Wg ?_
  exact lA (P:=prog) (fn:=f214) (N:=41) (vs:=[_]) rfl rfl ⟨rfl,bSM⟩ (fun D h=>⟨D,h,Le.refl D⟩) ⟨V,c,rfl,h9,hp,hz,rfl,by cases V<;>simp only[Y,bPG,bOS,bPL];exact⟨_,rfl⟩;simp[cB,hleaf]⟩
 ·have hin:i<places.length:=Yd
  obtain⟨p,hpi⟩:=cT places i;have hd:places.drop i=p::places.drop (i+1):=by rw[bOF hin];congr 1;exact bNS ((bMU hin).symm.trans hpi)
  rw[hd,←aEF]at hxs;refine aQ<|bZ<|Za rfl<|aF<|Za1<|Z1 (γ:=Nat×List Int) (fun g=>2-g.1) (fun g=>g.1≤2∧g.2.length=9∧g.2.take i=pre∧g.2.drop places.length=List.replicate (9-places.length) 0) (fun g=>J (done++VL p (places.drop (i+1)) pre g.1)) (fun g=>[(17,qI (g.1:Int))]) [(6,_),(0,_),(1,_),(3,_),(4,_)] (fun g=>jC br bY bc bh g.2) (fun g=>Ds) (0,c) ⟨Yf,h9,hp,hz⟩ (by simp[aUP]) ⟨Ya,bSM⟩ cF Mm5 (aK) ?_;rintro⟨k,c1⟩ ⟨hE,I,O,R⟩;refine aA<|Zan rfl<|bO<|Zae rfl (fun hc2=>?_) fun hc2=>?_
  ·refine aQ<|Za3<|Za1<|aA<|Za rfl<|Zf rfl<|aJ<|Zj rfl fH rfl<|Zh 0 rfl cD rfl hA rfl<|Za rfl<|iW rfl hpl rfl hpi fun V o1=>Zf rfl ?_;refine aJ<|Za rfl<|Waw ?_;refine' dL 4 (s:=27) (p:=31) rfl (fun Z=>?_) (fun Z=>?_) ?_;rotate_left
   ·refine Zb rfl<|Zb rfl<|Wbk ?_;exact aN 3
   ·refine Zg rfl<|Wbi ?_;exact aN 3
   refine aF<|Zaf rfl (fun hc3=>?_) fun hc3=>?_
   ·have hpk:p=2∨p=(k:Int):=Xac
    obtain⟨rr,hr⟩:=aVB (p:=p) (ps:=places.drop (i+1)) (pre:=pre) (k:=k) Yd;have hset:=aBD (k:=(k:Int)) I hin U O R;refine aA<|Za rfl<|Za rfl<|cA rfl U258 aH rfl rfl Yd Yd rfl bSM<|p5 rfl aH rfl rfl (.tail ζ) (by simp only[*];omega) bSM<|aJ<|Zp rfl qY rfl Mm0 rfl<|Za rfl<|Zad rfl<|wZ rfl rfl rfl rfl (ih (j-1) Yd (i+1) (pre++[(k:Int)]) (c1.set i k) (done++VL p (places.drop (i+1)) pre k) (rr++rest) (i+1:Int) Yd Yd Yaq hset.1 hset.2.1 hset.2.2 (by rw[hxs,hr,aDO hpk];simp)) rfl bSM ?_
    rintro _ J2 _ ⟨b2,c2,rfl,h9',hp',hz',rfl,hJ2⟩;refine Zat rfl<|aF<|Zaf rfl (fun hc4=>?_) fun hc4=>?_
    ·obtain rfl:b2=false:=Xah
     refine aA<|Wi ?_;exact lA (P:=prog) (fn:=f214) (N:=41) (vs:=[_]) rfl rfl ⟨rfl,bSM⟩ (fun D h=>⟨D,h,Le.refl D⟩) ⟨false,c2,rfl,h9',wB hp' hl,hz',rfl,by simpa using hJ2⟩
    ·obtain rfl:b2=true:=Xah
     refine Wbs ?_;exact sX 24 (k+1,c2) ⟨Yn,h9',wB hp' hl,hz'⟩ Yn (by simpa only[bPG,aDO hpk,bND]using hJ2) ⟨Ya,bSM⟩ rfl rfl Mm5 (aK)
   ·have hpk:¬(p=2∨p=(k:Int)):=Xac
    refine Wbs ?_;exact sX 16 (k+1,c1) ⟨Yn,I,O,R⟩ Yn (by rw[bIO hpk]) ⟨Ya,bSM⟩ rfl rfl Mm5 (aK)
  ·refine Wl ?_;exact lA (P:=prog) (fn:=f214) (N:=41) (vs:=[_]) rfl rfl ⟨rfl,bSM⟩ (fun D h=>⟨D,h,Le.refl D⟩) ⟨true,c1,rfl,I,O,R,rfl,by simp only[bPG];rw[hd,←aEF,show k=2 by omega]⟩
theorem aPJ(places:List Int)(Dr:aC)(br:Nat)(pv cv:Γ)(O R:Int)(U:places.length≤9)(hA:At Dr br 0 [pv,cv,qI O,qI R])(hpl:Sl Dr RI 1 pv places):
  G8 prog 213 [qP br] Dr ((cB places).map gL) PZ:=by
 refine AQ 8 func213 rfl rfl rfl rfl fun lo l J Jx hs hsx hY=>aA<|Zz rfl fun q1 E1 V I=>aJ<|Zah rfl tW rfl fun Y=>aJ<|Zah rfl CM rfl fun Z=>aJ<|Zay rfl<|Zr rfl CI ζ rfl<|aF<|aO ?_;refine Zp rfl qY rfl Mm0 rfl<|wZ rfl rfl rfl rfl (yU (l:=l) Yd hs hsx hY Yf Yf hA hpl I places.length 0 [] (List.replicate 9 0) [] [] 0 rfl Yd rfl rfl rfl (List.drop_replicate ..) Yf) rfl bSM ?_;rintro _ J2 _ ⟨b2,c2,rfl,h9',hp',hz',rfl,hJ2⟩;refine Zao ?_;exact lA (P:=prog) (fn:=f213) (N:=8) (vs:=[]) rfl rfl bSM (fun D h=>⟨D,Xav,Le.refl D⟩) Ybh
theorem aDP(rv:Γ)(r:dH)(D:aC)(hr:oG D rv r)(I:r.places.length≤9):
  Fn prog 133 #[rv] D (fun D' v=>∃br,v=.func (.func 213) #[] #[qP br]∧G8 prog 213 [qP br] D' ((cB r.places).map gL) PZ):=by
 obtain⟨pv,cv,rfl,hp,hc⟩:=hr;refine Zw 4 func133 rfl fun h0=>aA<|Zz rfl fun q1 E1 R O=>Wck ?_;exact aE rfl fun D hD=>⟨_,rfl,aPJ r.places _ q1 pv cv r.wrong r.off I (O.up (hD _ Yf)) (hp.up RI.up (hD _ Yf))⟩
theorem RM{c:List Int}{i j:Int}(h0:0≤i)(h1:i≤j):dK c 0 (j+1).toNat-dK c 0 i.toNat=qX c i.toNat j.toNat:=by
 unfold qX;have h:=U2 c 0 i.toNat (j.toNat+1-i.toNat);rw[show i.toNat+(j.toNat+1-i.toNat)=(j+1).toNat by omega,bQB]at h;omega
theorem aNK{r:dH}{t:List Int}(h:(eW r t&&decide ((if eW r t=true then(rO r t:Int)else 0)≤r.wrong))=true):fits r t=true:=by
 unfold fits;cases he:eW r t<;>simp[he]at h ⊢;exact h
theorem aYP{r:dH}{t:List Int}(h:(eW r t&&decide ((if eW r t=true then(rO r t:Int)else 0)≤r.wrong))=false):fits r t=false:=by
 unfold fits;cases he:eW r t<;>simp[he]at h ⊢;exact h
theorem aZT{r:dH}(h:mM r)(k:Nat):(((cB r.places).take k).filter (fits r)).length≤512:=by
 have h1:=bOJ (fits r) ((cB r.places).take k);have h2:=sS r.places;have h3:2^r.places.length≤2^9:=bOW Yd h.len9;have h4:((cB r.places).take k).length≤(cB r.places).length:=by rw[bON];omega
 omega
theorem bAJ{r:dH}(h:mM r)(k:Nat):∀t∈((cB r.places).take k).filter (fits r),t.length≤9:=fun t ht=>by
 have:=(qF (bRT (bQF.1 ht).1)).1;have:=h.len9;omega
theorem IL{r:dH}(h:mM r):(truths r).length≤512:=by
 have h1:=bOJ (fits r) (cB r.places);have h2:=sS r.places;have h3:2^r.places.length≤2^9:=bOW Yd h.len9;show((cB r.places).filter (fits r)).length≤512;omega
theorem OF(rv:Γ)(r:dH)(i j:Int)(D:aC)(hr:oG D rv r):Fn prog 121 #[rv,qI i,qI j] D (fun _ v=>v=.bool (vG r i j)):=by
 obtain⟨pv,cv,rfl,hp,hc⟩:=hr;have hl:=hp.len;refine Zw 22 func121 rfl fun h0=>aA<|Zz rfl fun q1 E1 R I=>Zf rfl<|aJ<|Za rfl<|Zj rfl fH rfl<|Zh 0 rfl cD rfl I rfl<|eE rfl U25 rfl Ym rfl rfl bSM<|Zav rfl<|Zd rfl (fun Y U=>fC _ _ _ _)<|Za rfl ?_;refine' bX 8 (s:=13) (p:=21) rfl (fun O=>?_) (fun O=>?_) ?_;rotate_left
 ·refine Zb rfl<|Zb rfl<|Zk rfl fH rfl<|Zi 0 rfl cD rfl I rfl<|eE rfl U25 rfl Ym rfl rfl ⟨_,rfl,rfl⟩<|yP rfl rfl rfl Ye rfl ⟨_,rfl,rfl⟩<|Ze rfl (fun Z V=>fC _ _ _ _)<|Zak rfl ?_;exact aN 7
 ·refine Zg rfl<|Wbd ?_;exact aN 7
 refine We ?_;exact aE rfl fun D hD=>rfl
theorem bFJ(c:List Int)(i j:Int)(D:aC)(O:0≤i)(hij:i≤j)(V:j<9)(hb:∀x∈c,0≤x∧x≤1):Fn prog 203 #[.agg (ints (nU c)).toArray,qI i,qI j] D (fun _ v=>v=qI (qX c i.toNat j.toNat)):=by
 have hsl:=sK c;have R:=vP c (j+1).toNat Yd;have U:=vP c i.toNat Yd;have Y:=eZ hb 0 (j+1).toNat;have Z:=eZ hb 0 i.toNat;refine Zw 15 func203 rfl fun h0=>aA<|Zz rfl fun q1 E1 hB I=>Zf rfl<|bO<|bN [] 4 9 112<|Za rfl<|Zad rfl<|cA rfl U264 aH rfl rfl Yd Yd rfl bSM<|iL rfl aI rfl I Yf (cO R) n4 rfl bSM<|Za rfl<|cA rfl U264 aH rfl rfl Yd Yd rfl bSM ?_;refine iL rfl aI rfl I Yf (cO U) n4 rfl bSM<|Zav rfl<|We ?_;exact aE rfl fun D hD=>by show Value.int _ _=_;rw[RM O hij]
theorem vD(lo hi n:Int)(D:aC):Fn prog 204 #[.agg #[qI lo,qI hi],qI n] D (fun _ v=>v=.agg #[qI (min lo n),qI (max hi n)]):=by
 refine Zw 15 func204 rfl fun h0=>aA<|Zz rfl fun q1 E1 hB R=>Zah rfl tH rfl fun q2=>bO<|iZ [] 4 [0,1,2,5,6,7,8,3,4,9,10] [false,false,true,true,true,true,true,true,true,false,false] [(false,0),(false,1),(true,2),(true,5),(true,6),(true,7),(true,8),(true,3),(true,4),(false,9),(false,10)] bB (fun _ _ _ h=>fW (P:=prog) (fn:=f204) _ _ _ h) Yg rfl<|Zj rfl WA rfl<|Zh 0 rfl aI rfl R rfl<|Za rfl<|Zj rfl SR rfl<|Zh 1 rfl aI rfl R rfl<|Za rfl ?_;refine qW rfl rfl rfl rfl bSM<|Zt rfl U25 aH cE rfl (.cons rfl rfl (.cons rfl rfl .nil)) fun Y Z U I=>?_;have O:=Sl.ofInts (l:=[_,_]) (n:=2) (cap:=2) I rfl Yd Yd;refine Zd rfl (fun D1 V=>nD _ lo [n] _ (O.up RI.up (V _ Yf)))<|Zu [qI (min lo n),qI (max hi n)] rfl HT tH rfl<|Zab rfl jK ζ<|aG ?_;exact Zo [_] rfl ⟨⟨_,_,_,rfl,Mm0,Or.inr ⟨zY,Xbw,rfl⟩⟩,bSM⟩ fun D hD=>rfl
theorem xZ(rv:Γ)(r:dH)(fine:Bool)(D:aC)(hr:oG D rv r):Fn prog 120 #[rv,.bool fine] D (fun D' v=>∃wv,v=.tuple #[wv,qI (eM r fine)]∧(eM r fine=0→mM r∧aPB D' wv r)):=by
 have O:=hr;obtain⟨pv,cv,rfl,hp,hc⟩:=hr;refine NE 55 func120 rfl rfl rfl rfl fun h0=>aA<|Zz rfl fun q1 E1 hS I=>Zf rfl<|Zf rfl<|bC<|Zv rfl nI rfl I mE<|Zd rfl (fun D1 hB=>BO _ r _ (O.up (hB _ Yf)))<|Waz ?_;refine aF<|Zae rfl (fun hc1=>?_) fun hc1=>?_
 ·refine Wau ?_;exact wL (vs:=[_,_]) rfl rfl rfl cF fun D hD=>⟨_,by rw[eM,bNK hc1];rfl,fun h=>by rw[eM,bNK hc1]at h;exact absurd h hc1⟩
 ·have hok:mM r:=AD.1 Yd;refine aQ<|bZ<|Za rfl<|Zat rfl<|aF<|Zaf rfl (fun hc2=>?_) (fun hc2=>?_)
  ·refine Wby ?_;exact wL (vs:=[_,_]) rfl rfl rfl cF fun D hD=>⟨_,by rw[eM,bNA hc1,bNK Yav];rfl,fun h=>by rw[eM,bNA hc1,bNK Yav]at h;omega⟩
  ·refine aQ<|aA<|Zv rfl nI rfl I mE<|Zu [pv,cv,qI r.wrong,qI r.off,qN] rfl bBT bDT rfl<|EQ rfl (e:=251) rfl rfl rfl bSM fun Z=>Zah rfl bBQ rfl fun q3=>Zr rfl aYK ζ rfl<|bC<|Zv rfl nI rfl I mE<|Zy rfl (fun D2 V=>aDP _ r _ (O.up (V _ Yf)) hok.len9) fun v2 D2 V hE=>aF<|Za1 ?_;obtain⟨br,rfl,hit⟩:=hE;refine sW (γ:=Γ×aD) (xs:=(cB r.places).map gL) (enc:=PZ) (Dr:=D2) (W4 258 r) (fun _ _ _=>False) (fun g=>[(q3,qC [qP Z] 244),(Z,qC [pv,cv,qI r.wrong,qI r.off,g.1] 251)]++g.2) (qN,[]) rfl rfl rfl rfl hit Yf (fun _=>rfl) rfl (by simpa [W4]using bI.nil) rfl ?_ ?_ (fun _ _ _ _ h=>h.elim)
   ·rintro pre x ⟨v,ν⟩ ⟨us,hx⟩ hΦ l bd rec hh D7 hX hst hpend;obtain⟨t,hk,rfl,htm,htake⟩:=R7 hx;obtain⟨hlen,htb⟩:=qF htm;have htr:oR r t:=⟨hlen,htb⟩
    have Y:=iI (t:=t) Xbh;refine aO<|Zah rfl tW rfl fun q4=>Zab rfl eB ζ<|Zao ?_;refine fun a w hhh=>zQ (A:=[(_,_),(_,_),(_,_)]++ν) (B:=[(bd,.deferred (some []))]) (r:=rec) (l:=l) Ybb hst ?_ a w hhh
    refine pF fun hnd=>?_;simp only[bNT,bNG,bOT,bNF,bPF,bOA,LT,bNH,bSF]at hnd;have hY:=hnd.1.2.2.1;have rA:=hnd.2.1.2.1;have hq2:=hnd.2.2.1.1;refine Za1<|Za3<|sF [] 4 9 198 (fun _ _ _ h=>h)<|Zv rfl nI rfl I mE<|bL rfl kS rfl Mm0 Yad n4 rfl bSM<|Zd rfl (fun D3 rB=>o9 t _ Xbh htb)<|Zd rfl (fun D4 hF=>SQ _ r t _ (O.up (hF _ Yf)) hok htr)<|Za rfl<|Zap rfl<|Zap rfl<|Zf rfl<|Zf rfl ?_;refine aJ<|Wbc ?_;refine' bX 5 (s:=32) (p:=37) rfl (fun hH=>?_) (fun hH=>?_) ?_;rotate_left
    ·refine Zb rfl<|Zk rfl FB rfl<|Zi 2 rfl aI rfl I rfl<|Wj ?_;exact aN 4
    ·refine Zg rfl<|Wc ?_;exact aN 4
    refine aF<|Zaf rfl (fun hc3=>?_) fun hc3=>?_
    ·have hfit:=aNK hc3;refine sF (ν.map (·.1)) 2 11 254 (fun _ _ _ h=>h)<|bD rfl DB rfl Mm1 rfl Yl rfl bSM<|bD rfl DB rfl Mm1 rfl Yl rfl bSM<|Zam rfl<|Zj rfl rX rfl<|bD rfl P5 rfl Mm2 rfl Yl rfl bSM<|bL rfl kS rfl Mm0 Yad Yl rfl bSM<|Zt rfl U249 eB tW rfl (.cons rfl (by simpa using Y) .nil) (fun hP hR hI R=>aS (A:=[(_,_),(_,_),(_,_)]) (B:=[(l,_),(bd,_)]) rfl U249 rfl rfl eB tW rfl bCD rfl rfl rfl hΦ (jY.lit R) Yf (by simp[Y]) (SL (bAJ hok pre.length)) Xbi (by have:=aZT hok pre.length;omega) (bNC fun p hp=>bMR.2 ⟨p,hp,rfl⟩) rfl bSM fun v1 ν1 U=>?_)
     have hJ:W4 258 r (pre++[gL t]) (v1,ν1):=by unfold W4;rw[htake,bOE,bPP,bNK hfit,List.filter_nil,bOC,bPM];simpa using U
     simp only[bPF,bOA];refine Zam rfl<|Zj rfl rX rfl<|cR rfl rfl rfl U.cells1 aCN (.tail (.tail ζ)) Yf rfl U.cell1 bSM<|Zao<|Za4 ?_;exact fun a w hh=>iX (A:=[(_,_),(_,_)]++ν1) (B:=[(bd,.deferred (some []))]) (v1,ν1) hJ rfl rfl a w (hh.dropBoxes 1)
    ·have hfit:=aYP hc3;have hK:W4 258 r (pre++[gL t]) (v,ν):=by unfold W4;rw[htake,bOE,bPP,bNA (by simp[hfit]),List.filter_nil,bNN];exact hΦ
     refine bG<|Za4 ?_;exact fun a w hh=>iX (A:=[(_,_),(_,_)]++ν) (B:=[(bd,.deferred (some []))]) (v,ν) hK rfl rfl a w (hh.dropBoxes 1)
   ·rintro⟨v,ν⟩ bd hΦ;have hΦ':bI 258 9 v (truths r).length ((truths r).flatMap fun t=>ints (gL t)) ν:=by simpa [W4,truths]using hΦ
    have hall:∀t∈truths r,t.length≤9:=fun t ht=>by have:=(qF (bQF.1 ht).1).1;have:=hok.len9;omega
    have hll:=IL hok;refine Za4<|Zaz<|bZ<|Zp rfl DB rfl Mm0 rfl<|Zam rfl<|Zj rfl rX rfl<|Zp rfl P5 rfl Mm1 rfl<|bR rfl U249 rfl hΦ' rfl rfl bSM<|Zas rfl<|aF<|Zae rfl (fun hc4=>?_) fun hc4=>?_
    ·have htn:truths r=[]:=bQC.1 Yd;have hask:eM r fine=11:=by rw[eM,bNA hc1,bNA Yav,bNK htn]
     refine Wby ?_;exact zV (vs:=[_,_]) (A:=[(_,_),(_,_)]++ν) rfl rfl rfl cF fun D hD=>⟨_,by rw[hask];rfl,fun h=>by rw[hask]at h;omega⟩
    ·have htn:truths r≠[]:=fun e=>hc4 Xaq
     have hask:eM r fine=0:=by rw[eM,bNA hc1,bNA Yav,bNA htn]
     refine aQ<|aA<|Zp rfl DB rfl Mm0 rfl<|Zf rfl<|Zf rfl<|aG<|dS (A:=[(_,_),(_,_)]) (B:=[(bd,.deferred (some []))]) hΦ' rfl fun D8 hD8 hN=>dS (A:=[(_,_)]) (ν:=[(Z,_)]) (B:=[(bd,.deferred (some []))]) (aZN (sz:=5) rfl) rfl fun D9 hD9 hO=>?_;exact zV (vs:=[_,_]) (A:=[(_,_)]) rfl rfl rfl cF fun D hD=>⟨_,by rw[hask];rfl,fun _=>⟨hok,Z,pv,cv,v,rfl,(hO.at Yd).up (hD _ Yf),hp.up RI.up (hD _ Yf),hc.up RC.up (hD _ Yf),(hN.truths rfl Yd hall).up RT.up (hD _ Yf)⟩⟩
theorem aCY{ts:List (List Int)}{q:List Int→Bool}{t0 t:List Int}{j:Nat}(hj:ts[j]?= some t)(h:(ts.take j).all (fun t=>q t==q t0)=true)(hc:(!(q t==q t0))=false):(ts.take (j+1)).all (fun t=>q t==q t0)=true:=by
 rw[bMZ,hj,List.all_append,h];simpa using hc
theorem US{r:dH}{f:Bool}(h:eM r f=0):truths r≠[]:=by
 unfold eM at h;split at h;omega;split at h;omega;split at h;omega;assumption
theorem p4{r:dH}{f:Bool}(h:eM r f=0):f=true:=by
 unfold eM at h;split at h;omega;split at h;omega;rename_i hf;simpa using hf
theorem aTF{r:dH}{i j:Int}(hok:mM r)(h:eM r (vG r i j)=0):0≤i∧i≤j∧j<9:=by
 have:=p4 h;simp only[vG,bMS,bS]at this;have:=hok.len9;omega
theorem W1{r:dH}(hok:mM r):∀t∈truths r,t.length≤9∧∀x∈t,0≤x∧x≤1:=fun t ht=>⟨by have:=(P3 ht).1;have:=hok.len9;omega,(P3 ht).2⟩
theorem DQ{ts:List (List Int)}{k:Nat}{t:List Int}{f:List Int→Int}{a:Int}(h:ts[k]?= some t):((ts.take (k+1)).map f).foldl min a=min (((ts.take k).map f).foldl min a) (f t):=by
 rw[bMZ,h,bNU,bNG,bOR];rfl
theorem ED{ts:List (List Int)}{k:Nat}{t:List Int}{f:List Int→Int}{a:Int}(h:ts[k]?= some t):((ts.take (k+1)).map f).foldl max a=max (((ts.take k).map f).foldl max a) (f t):=by
 rw[bMZ,h,bNU,bNG,bOR];rfl
theorem aMA(sv:Γ)(ts:List (List Int))(i j:Int)(D:aC)(hS:Sl D RT 9 sv ts)(hne:ts≠[])(hall:∀t∈ts,t.length≤9∧∀x∈t,0≤x∧x≤1)(I:0≤i)(hij:i≤j)(O:j<9):
  Fn prog 122 #[sv,qI i,qI j] D (fun _ v=>v=.agg #[qI (aPX ts i.toNat j.toNat),qI (aSR ts i.toNat j.toNat)]):=by
 have hl:=hS.len;obtain⟨t0,ht0⟩:∃t,ts[0]?= some t:=⟨ts[0]'(bQE.2 hne),bMU _⟩
 have ht0m:=n5 ht0;have hI:=PO (hall t0 ht0m).2 i.toNat j.toNat Yd;have hE:=iI (hall t0 ht0m).1;refine Zw 36 func122 rfl fun h0=>aA<|Zah rfl tH rfl fun q1=>aJ<|Za rfl<|Zx rfl U249 eB rfl hS rfl ht0 fun b1 o1 R U hF V=>?_;obtain rfl:R=ints (gL _):=U;refine cK rfl kS rfl V Yc Xar n4 rfl bSM<|Zd rfl (fun D1 hJ=>o9 t0 _ (hall _ ht0m).1 (hall _ ht0m).2)<|Za rfl<|Za rfl<|Zd rfl (fun D2 hK=>bFJ t0 i j _ I hij O (hall _ ht0m).2)<|Zf rfl<|aJ<|Za rfl<|Za rfl<|Zu [qI (qX t0 i.toNat j.toNat),qI (qX t0 i.toNat j.toNat)] rfl HT tH rfl<|Zah rfl tH rfl fun q2=>Zab rfl jK ζ ?_;refine bC<|Za rfl<|eE rfl U249 rfl Ym rfl rfl bSM<|Za rfl<|aF<|Za1<|gT (γ:=Nat) (fun k=>ts.length-k) (fun k=>k≤ts.length) (fun k=>[(23,qI (k:Int))]) [(22,_),(21,_),(8,_),(6,_),(1,_),(2,_)] (fun k=>[(q2,qC [qI (((ts.take k).map fun t=>qX t i.toNat j.toNat).foldl min (qX t0 i.toNat j.toNat)),qI (((ts.take k).map fun t=>qX t i.toNat j.toNat).foldl max (qX t0 i.toNat j.toNat))] 75),(q1,qC [qI 0,qI 0] 75)]) (fun k=>[D]) 0 Yd ⟨Ya,bSM⟩ cF Mm5 (aK) ?_;rintro k h1;refine aA<|Zan rfl<|bO<|Zae rfl (fun hc1=>?_) fun hc1=>?_
 ·have hkk:k<ts.length:=Yd
  obtain⟨t,ht⟩:=cT ts k;have htm:=n5 ht;obtain⟨htl,htb⟩:=hall t htm;have hN:=iI htl;refine aQ<|Za3<|Za1<|aA<|Zx rfl U249 eB rfl hS rfl ht fun b2 o2 Y Z hH hB=>?_;obtain rfl:Y=ints (gL _):=Z;refine cK rfl kS rfl hB Yc Xar n4 rfl bSM<|Zah rfl tW rfl fun q3=>eF rfl rfl rfl rfl eB Yar Yb ζ Yh bSM<|aF<|iZ [] 3 [0,1,3,4,2,5,6,7] [false,true,true,true,true,true,false,false] [(false,0),(true,1),(true,3),(true,4),(true,2),(true,5),(false,6),(false,7)] bB (fun _ _ _ h=>fW (P:=prog) (fn:=f122) _ _ _ h) Yg rfl<|Zag rfl zY rfl Mm1 jK<|bL rfl kS rfl Mm0 Xar n4 rfl bSM<|Za rfl<|Za rfl<|Zd rfl (fun D3 hO=>o9 t _ (hall _ htm).1 (hall _ htm).2)<|Zd rfl (fun D4 hP=>bFJ t i j _ I hij O (hall _ htm).2)<|Zd rfl (fun D5 hR=>vD _ _ _ _) ?_;refine Zab rfl jK (.tail ζ)<|Zao<|Wb ?_;rw[←DQ ht,←ED ht];exact Zn 14 (k+1) ⟨Ya,bSM⟩ rfl (List.Sublist.cons _ Mm5)
 ·obtain rfl:k=ts.length:=Yd
  rw[bNR,DT _ _ (by rw[bOD,ht0];rfl),EL _ _ (by rw[bOD,ht0];rfl)];refine Za6<|Za2<|Za2<|Za7<|Zaz<|aA<|Zag rfl zY rfl Mm0 jK<|Zab rfl jK (.tail ζ)<|aG ?_;exact Zo [_] rfl ⟨⟨_,_,_,rfl,Mm1,Or.inr ⟨zY,Xbw,rfl⟩⟩,bSM⟩ fun D hD=>rfl
theorem w0(rv:Γ)(r:dH)(i j:Int)(D:aC)(hr:oG D rv r):Fn prog 50 #[rv,qI i,qI j] D (fun _ v=>v=.tuple #[.agg (if eM r (vG r i j)=0 then #[qI (aPX (truths r) i.toNat j.toNat),qI (aSR (truths r) i.toNat j.toNat)]else #[qI 0,qI 0]),qI (eM r (vG r i j))]):=by
 have I:=hr;obtain⟨pv,cv,rfl,hp,hc⟩:=hr;refine Zw 30 func50 rfl fun h0=>aA<|Zz rfl fun q1 E1 Z O=>Zah rfl tH rfl fun q2=>Zf rfl<|bO<|bN [] 4 11 798<|Zv rfl nI rfl O mE<|Zv rfl nI rfl O mE<|Za rfl<|Za rfl<|Zd rfl (fun D1 V=>OF _ r i j _ (I.up (V _ Yf))) ?_;refine Zy rfl (fun D2 R=>xZ _ r _ _ (I.up (R _ Yf))) fun v2 D2 R U=>?_;obtain⟨wv,rfl,hwk⟩:=U;refine Za rfl<|Zap rfl<|Zap rfl<|Zf rfl<|Zf rfl<|bC<|Za rfl<|Zax rfl<|aF<|Zae rfl (fun hc1=>?_) fun hc1=>?_
 ·refine aA<|Zu [qI 0,qI 0] rfl HT tH rfl<|Za rfl<|Zab rfl jK ζ<|Wg ?_;exact Zo [_,_] rfl ⟨⟨_,_,_,rfl,Mm0,Or.inr ⟨zY,Xbw,rfl⟩⟩,rfl,bSM⟩ fun D hD=>by show Value.tuple _=_;rw[bNA hc1]
 ·have he0:eM r (vG r i j)=0:=Yd
  obtain⟨hok,wb,hB,hE,tv,rfl,hA,U,hc2',ht⟩:=hwk he0;have htn:=US he0;have hall:=W1 hok;have hpt:=aTF hok he0;refine aQ<|aA<|Za rfl<|Zam rfl<|Zj rfl rX rfl<|Zh 4 rfl P5 rfl hA rfl<|Za rfl<|Za rfl<|Zd rfl (fun D3 Y=>aMA _ _ i j _ (ht.up RT.up (Y _ Yf)) htn hall hpt.1 hpt.2.1 hpt.2.2)<|Zab rfl jK ζ<|We ?_;exact Zo [_,_] rfl ⟨⟨_,_,_,rfl,Mm0,Or.inr ⟨zY,Xbw,rfl⟩⟩,rfl,bSM⟩ fun D hD=>by show Value.tuple _=_;rw[bNK he0,he0]
theorem GG(wv:Γ)(t:List Int)(i:Nat)(D:aC)(h9:t.length≤9)(hi:i<9):Fn prog 353 #[wv,.agg (ints (gL t)).toArray,qI (i:Int)] D (fun _ v=>v=.bool (aSP i t)):=by
 have hg:=aNL hi h9;refine Zw 11 func353 rfl fun h0=>aA<|Zz rfl fun q1 E1 O I=>Zf rfl<|aJ<|Za rfl<|cA rfl U258 aH rfl rfl Yd Yd rfl bSM<|iL rfl aI rfl I Yf (cO hg) n4 rfl bSM<|Zaq rfl<|We ?_;exact aE rfl fun D hD=>rfl
theorem TK(fv wv:Γ)(f:FuncId)(r:dH)(p:Nat→List Int→Bool)(many:Nat)(D:aC)(hfv:fv=.func (.func f) #[] #[])(hw:aPB D wv r)(hok:mM r)(hne:truths r≠[])(hm:many≤9)
  (hf:∀t∈truths r,∀i,i<many→∀D',Le D D'→Fn prog f #[wv,.agg (ints (gL t)).toArray,qI (i:Int)] D' fun _ v=>v=.bool (p i t)):
  Fn prog 354 #[.agg #[fv],wv,qI (many:Int)] D (fun D' v=>Sl D' RI 1 v ((List.range many).map fun i=>vd (truths r) (p i))):=by
 obtain⟨wb,pv,cv,tv,rfl,hA,hp,hc,ht⟩:=hw;subst hfv;have hl:=ht.len;have hall:=W1 hok;obtain⟨t0,ht0⟩:∃t,(truths r)[0]?= some t:=⟨(truths r)[0]'(bQE.2 hne),bMU _⟩
 have ht0m:=n5 ht0;have hp90:=iI (hall t0 ht0m).1;refine Zw 52 func354 rfl fun h0=>aA<|Zz rfl fun q1 E1 hE1 Z=>Zf rfl<|bC<|Za rfl<|Za rfl<|aF<|Za1<|Zc (Nat×Γ×aD) (fun g=>many-g.1) (fun g=>g.1≤many∧bI 3 1 g.2.1 g.1 (ints ((List.range g.1).map fun i=>vd (truths r) (p i))) g.2.2) (fun g=>[(13,qI (g.1:Int)),(6,g.2.1)]) [(12,_),(3,_),(1,_)] (fun g=>g.2.2++[]) (fun g=>[E1,D]) (0,qN,[]) ⟨Yf,Xap⟩ ⟨Ya,Ya,bSM⟩ Mm5 ?_;rintro⟨k,v,ν⟩ ⟨h1,ha⟩;refine aA<|Zan rfl<|bO<|Zae rfl (fun hc1=>?_) fun hc1=>?_
 ·refine aQ<|Za3<|Za1<|aA<|Za rfl<|Zf rfl<|aF<|OJ<|Za3<|bN [] 6 12 1020<|Zj rfl x6 rfl<|Zh 0 rfl PM rfl Z rfl ?_;refine Za rfl<|Za rfl<|Zam rfl<|Zj rfl rX rfl<|Zh 4 rfl P5 rfl hA rfl<|Zx rfl U249 eB rfl ht rfl ht0 fun b1 o1 hH hI hcl1 hJ=>?_;obtain rfl:hH=ints (gL _):=hI;refine cK rfl kS rfl hJ Yc Xar n4 rfl bSM<|Za rfl<|Zd rfl (fun D1 hK=>hf t0 ht0m k Yd _ (hK _ Yf))<|Zf rfl<|aJ<|Zf rfl<|bC<|Za rfl<|aF<|Zaf rfl (fun hc2=>?_) (fun hc2=>?_)
  ·refine aO<|Zf rfl<|bO<|DL<|Zaz<|bZ<|Za rfl<|Zam rfl<|Zj rfl rX rfl<|Zh 4 rfl P5 rfl hA rfl<|eE rfl U249 rfl Ym rfl rfl bSM<|Za rfl ?_;refine aF<|Za1<|bM (γ:=Nat) (fun j=>(truths r).length-j) (fun j=>j≤(truths r).length∧((truths r).take j).all (fun t=>p k t==p k t0)=true) (fun j=>[(33,qI (j:Int))]) [(32,_),(31,_),(30,_),(29,_),(28,_),(9,_),(27,_),(8,_),(26,_),(25,_),(24,_),(23,_),(22,_),(21,_),(20,_),(19,_),(18,_),(17,_),(16,_),(7,_),(15,_),(14,_),(13,_),(6,_),(12,_),(3,_),(1,_)] (fun j=>[E1,D]) 0 Yf ⟨Ya,bSM⟩ cF (aK) ?_;rintro j ⟨h3,h4⟩;refine aA<|Zan rfl<|bO<|Zae rfl (fun hc3=>?_) (fun hc3=>?_)
   ·have hj:j<(truths r).length:=Yd
    obtain⟨t,I⟩:=cT (truths r) j;have htm:=n5 I;obtain⟨htl,htb⟩:=hall t htm;have hN:=iI htl;refine aQ<|Za3<|Za1<|aA<|Zx rfl U249 eB rfl ht rfl I fun b2 o2 hO hP hcl2 hR=>?_;obtain rfl:hO=ints (gL _):=hP;refine cK rfl kS rfl hR Yc Xar n4 rfl bSM<|Zah rfl tW rfl fun q2=>eF rfl rfl rfl rfl eB Yar Yb ζ Yh bSM<|aJ<|Zj rfl x6 rfl<|Zh 0 rfl PM rfl Z rfl<|Za rfl<|bL rfl kS rfl Mm0 Xar n4 rfl bSM<|Za rfl<|Zd rfl (fun D2 hE=>hf t htm k Yd _ (hE _ Yf))<|Za rfl<|QW rfl U4 rfl rfl rfl bSM ?_;refine aF<|Zaf rfl (fun hc4=>?_) fun hc4=>?_
    ·have hv:vd (truths r) (p k)=3:=bFD ht0 I hc4;refine aA<|Zf rfl<|aF<|Za6<|sR rfl<|Za2<|Za2<|Za7<|Zaz<|aO<|Wbc ?_;refine Zt rfl U25 aH cE rfl (.cons rfl rfl .nil) fun b901 D901 hS R=>?_;have hX:=Sl.ofInts (l:=[_]) (n:=1) (cap:=1) R rfl Yd Yd;refine aS (A:=[(_,_)]) (B:=_) rfl U25 rfl rfl aH cE rfl kD rfl rfl rfl ha (jY.lit R) Yf rfl Yf Yk Yd (bNI rfl) rfl bSM fun v1 ν1 hY=>?_;have O:bI 3 1 v1 (k+1) (ints ((List.range (k+1)).map fun i=>vd (truths r) (p i))) ν1:=by rw[bOG,bNG,bQP,hv,←eV];exact hY
     refine Zf rfl<|Zao<|sD<|Wb ?_;exact aL 45 (k+1,v1,ν1) ⟨Yn,O⟩ Yn ⟨Ya,Ya,bSM⟩ rfl rfl (List.Sublist.cons _ Mm5) fun D h=>⟨D,bNM _ (h),Le.refl D⟩
    ·have hcc:=hc4;refine Wbs ?_;exact aL 15 (j+1) ⟨Yd,aCY I h4 hcc⟩ Yd ⟨Ya,bSM⟩ rfl rfl (List.Sublist.cons _ Mm5) (aK)
   ·have hv:vd (truths r) (p k)=1:=by rw[aWO ht0 Yd h4,bNK (by simp[hc2])]
    refine Za6<|Za2<|Za2<|Za7<|Zaz<|aO<|Za rfl<|Za rfl<|Zt rfl U25 aH cE rfl (.cons rfl rfl .nil) fun b902 D902 rA U=>?_;have rB:=Sl.ofInts (l:=[_]) (n:=1) (cap:=1) U rfl Yd Yd;refine aS (A:=[]) (B:=_) rfl U25 rfl rfl aH cE rfl kD rfl rfl rfl ha (jY.lit U) Yf rfl Yf Yk Yd (bNI rfl) rfl bSM fun v2 ν2 O=>?_;have O:bI 3 1 v2 (k+1) (ints ((List.range (k+1)).map fun i=>vd (truths r) (p i))) ν2:=by rw[bOG,bNG,bQP,hv,←eV];exact O
    refine Zf rfl<|Zao<|sD<|Wb ?_;exact aL 33 (k+1,v2,ν2) ⟨Yn,O⟩ Yn ⟨Ya,Ya,bSM⟩ rfl rfl Mm5 fun D h=>⟨D,bNM _ (h),Le.refl D⟩
  ·refine aQ<|Za3<|DL<|Zaz<|bZ<|Za rfl<|Zam rfl<|Zj rfl rX rfl<|Zh 4 rfl P5 rfl hA rfl<|eE rfl U249 rfl Ym rfl rfl bSM<|Za rfl<|aF ?_;refine Za1<|bM (γ:=Nat) (fun j=>(truths r).length-j) (fun j=>j≤(truths r).length∧((truths r).take j).all (fun t=>p k t==p k t0)=true) (fun j=>[(33,qI (j:Int))]) [(32,_),(31,_),(30,_),(29,_),(28,_),(27,_),(9,_),(8,_),(26,_),(25,_),(24,_),(23,_),(22,_),(21,_),(20,_),(19,_),(18,_),(17,_),(16,_),(7,_),(15,_),(14,_),(13,_),(6,_),(12,_),(3,_),(1,_)] (fun j=>[E1,D]) 0 Yf ⟨Ya,bSM⟩ cF (aK) ?_;rintro j ⟨h3,h4⟩;refine aA<|Zan rfl<|bO<|Zae rfl (fun hc5=>?_) (fun hc5=>?_)
   ·have hj:j<(truths r).length:=Yd
    obtain⟨t,I⟩:=cT (truths r) j;have htm:=n5 I;obtain⟨htl,htb⟩:=hall t htm;have hN:=iI htl;refine aQ<|Za3<|Za1<|aA<|Zx rfl U249 eB rfl ht rfl I fun b3 o3 cs3 hr3 hcl3 hA3=>?_;obtain rfl:cs3=ints (gL _):=hr3;refine cK rfl kS rfl hA3 Yc Xar n4 rfl bSM<|Zah rfl tW rfl fun q3=>eF rfl rfl rfl rfl eB Yar Yb ζ Yh bSM<|aJ<|Zj rfl x6 rfl<|Zh 0 rfl PM rfl Z rfl<|Za rfl<|bL rfl kS rfl Mm0 Xar n4 rfl bSM<|Za rfl<|Zd rfl (fun D3 hD3=>hf t htm k Yd _ (hD3 _ Yf))<|Za rfl<|QW rfl U4 rfl rfl rfl bSM ?_;refine aF<|Zaf rfl (fun hB=>?_) fun hB=>?_
    ·have hv:vd (truths r) (p k)=3:=bFD ht0 I hB;refine aA<|Zf rfl<|aF<|Za6<|sR rfl<|Za2<|Za2<|Za7<|Zaz<|aO<|Wbc ?_;refine Zt rfl U25 aH cE rfl (.cons rfl rfl .nil) fun b903 D903 hD903 V=>?_;have hS903:=Sl.ofInts (l:=[_]) (n:=1) (cap:=1) V rfl Yd Yd;refine aS (A:=[(_,_)]) (B:=_) rfl U25 rfl rfl aH cE rfl kD rfl rfl rfl ha (jY.lit V) Yf rfl Yf Yk Yd (bNI rfl) rfl bSM fun v3 ν3 ha3=>?_;have O:bI 3 1 v3 (k+1) (ints ((List.range (k+1)).map fun i=>vd (truths r) (p i))) ν3:=by rw[bOG,bNG,bQP,hv,←eV];exact ha3
     refine Zf rfl<|Zao<|sD<|Wb ?_;exact aL 45 (k+1,v3,ν3) ⟨Yn,O⟩ Yn ⟨Ya,Ya,bSM⟩ rfl rfl (List.Sublist.cons _ Mm5) fun D h=>⟨D,bNM _ (h),Le.refl D⟩
    ·have hcc:=hB;refine Wbs ?_;exact aL 15 (j+1) ⟨Yd,aCY I h4 hcc⟩ Yd ⟨Ya,bSM⟩ rfl rfl (List.Sublist.cons _ Mm5) (aK)
   ·have hv:vd (truths r) (p k)=2:=by rw[aWO ht0 Yd h4,bNA (by simp[hc2])]
    refine Za6<|Za2<|Za2<|Za7<|Zaz<|aO<|Za rfl<|Za rfl<|Zt rfl U25 aH cE rfl (.cons rfl rfl .nil) fun b904 D904 hD904 Y=>?_;have hS904:=Sl.ofInts (l:=[_]) (n:=1) (cap:=1) Y rfl Yd Yd;refine aS (A:=[]) (B:=_) rfl U25 rfl rfl aH cE rfl kD rfl rfl rfl ha (jY.lit Y) Yf rfl Yf Yk Yd (bNI rfl) rfl bSM fun v4 ν4 ha4=>?_;have O:bI 3 1 v4 (k+1) (ints ((List.range (k+1)).map fun i=>vd (truths r) (p i))) ν4:=by rw[bOG,bNG,bQP,hv,←eV];exact ha4
    refine Zf rfl<|Zao<|sD<|Wb ?_;exact aL 33 (k+1,v4,ν4) ⟨Yn,O⟩ Yn ⟨Ya,Ya,bSM⟩ rfl rfl Mm5 fun D h=>⟨D,bNM _ (h),Le.refl D⟩
 ·obtain rfl:k=many:=Yd
  refine Za6<|Za2<|Za2<|Za7<|Zaz<|aA<|Za rfl<|Zf rfl<|aG<|dS (A:=[]) (B:=[]) ha rfl fun D2 hE hF=>?_;exact aE rfl fun D hD=>(hF.ints Yf Yd).up RI.up (hD _ Yf)
theorem aGY(rv:Γ)(r:dH)(D:aC)(hr:oG D rv r):Fn prog 296 #[rv] D (fun D' v=>∃lv,v=.tuple #[lv,qI (eM r true)]∧Sl D' RI 1 lv (if eM r true=0 then(List.range r.places.length).map (fun i=>vd (truths r) (aSP i))else [])):=by
 have V:=hr;obtain⟨pv,cv,rfl,hp,hc⟩:=hr;have hl1:=hp.len;have hE:=hc.len;refine Zw 20 func296 rfl fun h0=>aA<|Zz rfl fun q1 E1 hF R=>Zf rfl<|Zf rfl<|aJ<|Zv rfl nI rfl R mE<|Zy rfl (fun D1 U=>xZ _ r _ _ (V.up (U _ Yf))) fun v1 D1 U Y=>?_;obtain⟨wv,rfl,hwk⟩:=Y;refine Za rfl<|Zap rfl<|Zap rfl<|Zf rfl<|Zf rfl<|bC<|Za rfl<|Zax rfl<|aF<|Zae rfl (fun hc1=>?_) fun hc1=>?_
 ·refine Wau ?_;exact Zo [_,_] rfl cF fun D hD=>⟨_,rfl,by rw[bNA hc1];exact Sl.nil⟩
 ·have he0:eM r true=0:=Yd
  obtain⟨hok,wb,Z,hB,tv,rfl,hA,O,hc2',ht⟩:=hwk he0;have htn:=US he0;have hall:=W1 hok;refine aQ<|aA<|Zu [.func (.func 353) #[] #[]] rfl bAF bEF rfl<|Za rfl<|Zj rfl fH rfl<|Zh 0 rfl cD rfl R rfl<|Zai rfl U25 rfl hp rfl<|Zy rfl (fun D2 I=>TK _ _ 353 r (aSP) r.places.length _ rfl ⟨wb,Z,hB,tv,rfl,hA.up (I _ Yf),O.up RI.up (I _ Yf),hc2'.up RC.up (I _ Yf),ht.up RT.up (I _ Yf)⟩ hok htn (by have:=hok.len9;have:=hok.cnt6;omega) fun t htm i hi D2 hl=>GG _ t i D2 (hall t htm).1 Xbh) fun v2 D2 I O=>Wcd ?_
  exact Zo [_,_] rfl cF fun D hD=>⟨_,by rw[he0];rfl,by rw[bNK he0];exact O.up RI.up (hD _ Yf)⟩
end L1
open Go.Proofs
namespace L1
open C1
end L1
namespace L1
end L1
namespace L1
open C1
theorem aRP(rv:Γ)(r:dH)(D:aC)(hr:oG D rv r):Fn prog 67 #[rv] D (fun _ v=>v=.tuple #[qI (xO r),qI (AA r)]):=by
 have O:=hr;obtain⟨pv,cv,rfl,hp,hc⟩:=hr;refine NE 47 func67 rfl rfl rfl rfl fun h0=>aA<|Zz rfl fun q1 E1 hJ R=>Zf rfl<|Zf rfl<|bC<|Zv rfl nI rfl R mE<|Zd rfl (fun D1 Y=>BO _ r _ (O.up (Y _ Yf)))<|Waz ?_;refine aF<|Zae rfl (fun hc1=>?_) fun hc1=>?_
 ·refine Wau ?_;exact wL (vs:=[_,_]) rfl rfl rfl cF fun D hD=>by show Value.tuple _=_;rw[xO,AA,bNK hc1,bNK hc1]<;>rfl
 ·have hok:mM r:=AD.1 Yd;refine aQ<|aA<|Zah rfl cE rfl fun q2=>Zah rfl pV rfl fun q3=>Zr rfl aH (.tail ζ) rfl<|Zr rfl mG ζ rfl<|aJ<|Zah rfl tW rfl fun q4=>bC<|Zv rfl nI rfl R mE<|Zy rfl (fun D2 V=>aDP _ r _ (O.up (V _ Yf)) hok.len9) fun v2 D2 V Z=>aF ?_;refine Za1 ?_;obtain⟨br,rfl,hit⟩:=Z;refine sW (γ:=Option Int×List Int) (xs:=(cB r.places).map gL) (enc:=PZ) (Dr:=D2) (H9 r) (fun _ _ _=>False) (fun g=>[(q4,qC (ints g.2) 258),(q3,qC [.bool g.1.isSome] 4),(q2,qC [qI (g.1.getD 0)] 3)]) (none,List.replicate 9 0) rfl rfl rfl rfl hit Yf (fun _=>rfl) rfl ⟨rfl,rfl,fun u hu=>by simp at hu⟩ rfl ?_ ?_ (fun _ _ _ _ h=>h.elim)
  ·rintro pre x ⟨o,last⟩ ⟨us,hx⟩ hΦ l bd rec hh D7 hK hst hpend;obtain⟨t,hk,rfl,htm,htake⟩:=R7 hx;obtain⟨hlen,htb⟩:=qF htm;have htr:oR r t:=⟨hlen,htb⟩
   have U:=iI (t:=t) Xbh;have hB:last.length=9:=hΦ.2.1;refine aO<|Zah rfl tW rfl fun q5=>Zab rfl eB ζ<|Zao ?_;refine fun a w hhh=>zQ (A:=[(_,_),(_,_),(_,_),(_,_)]) (B:=[(bd,.deferred (some []))]) (r:=rec) (l:=l) Ybb hst ?_ a w hhh
   refine Za1<|bZ<|Zp rfl FM rfl Mm2 rfl<|Za rfl ?_;refine' bX 4 (s:=20) (p:=24) rfl (fun hE=>?_) (fun hE=>?_) ?_;rotate_left
   ·refine bL rfl kS rfl Mm0 Yad n4 rfl ⟨_,rfl,rfl⟩<|bL rfl kS rfl Mm1 Yad n4 rfl ⟨_,rfl,rfl⟩<|aBF rfl Yg U258 U3 Yg U hB rfl rfl rfl ⟨_,rfl,rfl⟩<|Zak rfl ?_;exact aN 3
   ·refine Wc ?_;exact aN 3
   refine aF<|Zaf rfl (fun hc2=>?_) fun hc2=>?_
   ·refine Za6<|Za2<|Za7 ?_;exact fun a w hh=>iX (A:=[(_,_),(_,_),(_,_)]) (B:=[(bd,.deferred (some []))]) (o,last) (aAP hΦ htm htake hc2) rfl rfl a w (hh.dropBoxes 1)
   ·refine aQ<|aA<|bL rfl kS rfl Mm0 Yad n4 rfl bSM<|Zab rfl eB (.tail ζ)<|bO<|sF [] 4 9 198 (fun _ _ _ h=>h)<|Zv rfl nI rfl R mE<|bL rfl kS rfl Mm0 Yad n4 rfl bSM<|Zd rfl (fun D3 hN=>o9 t _ Xbh htb)<|Zd rfl (fun D4 hF=>SQ _ r t _ (O.up (hF _ Yf)) hok htr)<|Za rfl<|Zap rfl ?_;refine Zap rfl<|Zf rfl<|Zf rfl<|aJ<|Wbc ?_;refine' bX 8 (s:=34) (p:=42) rfl (fun hH=>?_) (fun hH=>?_) ?_;rotate_left
    ·refine Zq rfl FM rfl Mm2 rfl<|Zau rfl<|Zb rfl ?_;refine' dL 4 (s:=37) (p:=41) rfl (fun hI=>?_) (fun hI=>?_) ?_;rotate_left
     ·refine Zb rfl<|Zq rfl aI rfl Mm3 rfl<|GV rfl rfl rfl rfl ⟨_,rfl,rfl⟩<|oT rfl rfl rfl rfl ⟨_,rfl,rfl⟩ ?_;exact aN 3
     ·refine Zg rfl<|Ws ?_;exact aN 3
     refine Zak rfl ?_;exact aN 4
    ·refine Zg rfl<|Wbd ?_;exact aN 7
    refine aF<|Zaf rfl (fun hc3=>?_) fun hc3=>?_
    ·refine aO<|Za rfl<|Zr rfl aH (.tail (.tail (.tail ζ))) rfl<|Zr rfl mG (.tail (.tail ζ)) rfl<|Zao<|Za4 ?_;exact fun a w hh=>iX (A:=[(_,_),(_,_),(_,_)]) (B:=[(bd,.deferred (some []))]) (some (if eW r t=true then(rO r t:Int)else 0),gL t) (aHY hΦ U htake hc3) rfl rfl a w (hh.dropBoxes 1)
    ·refine bG<|Za4 ?_;exact fun a w hh=>iX (A:=[(_,_),(_,_),(_,_)]) (B:=[(bd,.deferred (some []))]) (o,gL t) (aQL hΦ U htake hc3) rfl rfl a w (hh.dropBoxes 1)
  ·rintro⟨o,last⟩ bd hΦ;have ho:o=oX r (cB r.places):=by simpa [H9]using hΦ.1
   have I:aZ r=0:=Yd
   refine Za4<|Zaz<|bZ<|Zp rfl FM rfl Mm1 rfl<|Zat rfl<|aF<|Zaf rfl (fun hc4=>?_) fun hc4=>?_
   ·refine Wby ?_;exact zV (vs:=[_,_]) (A:=[(_,_),(_,_),(_,_)]) rfl rfl rfl cF fun D hD=>by show Value.tuple _=_;rw[(WO ho I hc4).1,(WO ho I hc4).2]<;>rfl
   ·refine aQ<|aA<|Zp rfl aI rfl Mm2 rfl<|Wcd ?_;exact zV (vs:=[_,_]) (A:=[(_,_),(_,_),(_,_)]) rfl rfl rfl cF fun D hD=>by show Value.tuple _=_;rw[(VT ho I hc4).1,(VT ho I hc4).2]<;>rfl
end L1
structure IH(P:Program)(k:Θ){α:Type}[DecidableEq α](val:α→Γ):Prop where
 und:∃fs,P.underlying k=some (.struct fs)
 eq:∀a b w,(Op.equal k (val a) (val b)).run P w=.ok (decide (a=b)) w
 chk:∀em a w,(Instr.checkKey em 10000 k (val a)).run P w=.ok () w
 stay:∀a,Instr.sameBits 10000 (val a) (val a)=true
 agg:∀a,∃cs,val a=.agg cs
variable{α β:Type}[DecidableEq α]{val:α→Γ}{wal:β→Γ}
def T2(val:α→Γ)(wal:β→Γ)(es:Array MapEntry)(M:List (α×β)):Prop:=es.toList.map (fun e=>(e.key,e.val))=M.map fun x=>(val x.1,wal x.2)
def O3(a:α):List (α×β)→Nat→Option (Nat×β)
 | [],_=>none
 |(b,n)::M,i=>if a=b then some (i,n)else O3 a M (i+1)
theorem O4{a:α}:∀{M:List (α×β)} {i j:Nat} {n:β},O3 a M i=some (j,n)→∃k,j=i+k∧M[k]?= some (a,n)
 |(b,m)::M,i,j,n,h=>by
  simp only[O3]at h;split at h
  ·rename_i he;cases h;exact⟨0,rfl,by rw[he];rfl⟩
  ·obtain⟨k,rfl,hk⟩:=O4 h;exact⟨k+1,Yd,Xay⟩
theorem yQ{k:Θ}(h:IH P k val)(a:α)(w:Δ):∀(es:List MapEntry) (M:List (α×β)) (i:Nat),es.map (fun e=>(e.key,e.val))=M.map (fun x=>(val x.1,wal x.2))→
  (Instr.findAsking k (val a) es i).run P w=.ok ((O3 a M i).map fun p=>(p.1,wal p.2)) w
 | [],[],i,_=>rfl
 | [],_::_,i,hm=>by simp at hm
 |e::es,[],i,hm=>by simp at hm
 |e::es,(b,n)::M,i,hm=>by
  simp only[bNT,bPN,bQS]at hm;obtain⟨⟨hk,hv⟩,hm⟩:=hm;simp only[Instr.findAsking,Ω,hk,h.eq,Ξ,O3];by_cases he:a=b
  ·subst he;simp only[decide_true,bPG,ε,hv];rfl
  ·simp only[he,decide_false,bOS,bPL];exact yQ h a w es M (i+1) hm
theorem xP{k:Θ}(h:IH P k val)(a:α)(w:Δ){es:List MapEntry}{M:List (α×β)}(hm:es.map (fun e=>(e.key,e.val))=M.map fun x=>(val x.1,wal x.2)):
  (Instr.findKey k (val a) es).run P w=.ok ((O3 a M 0).map fun p=>(p.1,wal p.2)) w:=by
 obtain⟨fs,hu⟩:=h.und;unfold Instr.findKey;rw[Ω,TU.of hu w];cases es with
 |nil=>
  cases M with
  |nil=>rfl
  |cons x M=>simp at hm
 |cons e es=>
  have hn:Instr.findNow (.struct fs) (val a) (e::es) 0=none:=by
   obtain⟨cs,hc⟩:=h.agg a;rw[hc];rfl
  simp only[Ξ,hn];exact yQ h a w (e::es) M 0 hm
theorem ME{t k e:Θ}{b clock:Nat}{es:Array MapEntry}{M:List (α×β)}{a:α}(ho:all[ix]?= some ⟨some d,.lookup t x y true,ty,pos,aft,g⟩)(ht:P.underlying t=some (.map k e))(hk:IH P k val){z0:Γ}(hz:TZ P e z0)
  (hx:ev σ x=some (.map (some b))) (hy:ev σ y=some (val a)) (hm:(b,Obj.map es clock)∈μ) (hb:b∉bad) (hM:T2 val wal es M) (hN:Nat.blt d X.N=true) (hg:cQ all σ g)
  (kk:∀n ok,(ok=true→∃r,n=wal r∧(a,r)∈M)→(ok=false→n=z0)→WL P X bad all K Q os ((d,.tuple #[n,.bool ok])::σ) μ Ds):WL P X bad all K Q ((fl,ix)::os) σ μ Ds:=by
 have run:∀w,w.heap[b]?= some (Obj.map es clock)→(Instr.lookup t (.map (some b)) (val a) true).run P w=.ok (.tuple #[(match O3 a M 0 with|some (_,v)=>wal v|none=>z0),.bool (O3 a M 0).isSome]) w:=by
  intro w hw;have hf:=xP hk a w hM;unfold Instr.lookup;simp only[Ω,TU.of ht w,Ξ,pM hw,ε,hk.chk];rw[hf];cases O3 a M 0 with
  |none=>simp only[bPI,Ξ,Ω,hz w,ε];rfl
  |some r=>obtain⟨j,v⟩:=r;simp only[bOO,Ξ];rfl
 refine pA ho rfl rfl hN hg (fun a' w hh w' hk'=>?_) (kk (match O3 a M 0 with|some (_,v)=>wal v|none=>z0) (O3 a M 0).isSome (fun hok=>?_) fun hok=>?_)
 ·simp only[execOp,hh.eval hx,hh.eval hy,Ω,run w' (hh.boxAt hm hb hk'),Ξ,ε]
 ·cases hp:O3 a M 0 with
  |none=>rw[hp]at hok;cases hok
  |some r=>
   obtain⟨j,n⟩:=r;obtain⟨i,_,hi⟩:=O4 hp;exact⟨n,rfl,n5 hi⟩
 ·cases hp:O3 a M 0 with
  |none=>rfl
  |some r=>rw[hp]at hok;cases hok
theorem AM{t k e:Θ}{b clock:Nat}{es:Array MapEntry}{M:List (α×β)}{a:α}{n:β}{A B:aD}(ho:all[ix]?= some ⟨none,.mapUpdate t x y z,ty,pos,aft,g⟩)(ht:P.underlying t=some (.map k e))(hk:IH P k val)
  (hx:ev σ x=some (.map (some b))) (hy:ev σ y=some (val a)) (hz:ev σ z=some (wal n)) (hM:T2 val wal es M) (hg:cQ all σ g)
  (kk:∀es' clock' M',T2 val wal es' M'→(∀p∈M',p∈M∨p=(a,n))→WL P X bad all K Q os σ (A++(b,.map es' clock')::B) Ds):WL P X bad all K Q ((false,ix)::os) σ (A++(b,.map es clock)::B) Ds:=by
 refine fF ho rfl rfl hg fun a' w hh=>?_
 obtain⟨h1,h2,h3,D,h4,h5,O⟩:=id hh;have hw:=(h4.box (b,.map es clock) Yf).1;have run:∃es' clock' M',T2 val wal es' M'∧(∀p∈M',p∈M∨p=(a,n))∧(Instr.mapUpdate t (.map (some b)) (val a) (wal n)).run P w=.ok () {w with heap:=w.heap.setIfInBounds b (.map es' clock')}:=by
  have hf:=xP hk a w hM;have hset:∀o,(setObj b o).run P w=.ok () {w with heap:=w.heap.setIfInBounds b o}:=fun o=>by simp[setObj,Sem.run,hw]
  cases hp:O3 a M 0 with
  |none=>
   refine⟨es.push {key:=val a,val:=wal n,born:=clock},clock+1,M++[(a,n)],?_,fun p hp=>by simpa using hp,?_⟩
   ·unfold T2 at hM ⊢
    rw[Array.toList_push,bNG,bNG,hM];rfl
   ·unfold Instr.mapUpdate;simp only[Ω,TU.of ht w,Ξ,pM hw,hk.chk];rw[hf,hp];simp only[bPI,Ξ,hset]
  |some r=>
   obtain⟨j,m⟩:=r;obtain⟨i,I,hi⟩:=O4 hp;rw[bQB]at I;subst I
   have hMi:∀i,(es.toList[i]?).map (fun e:MapEntry=>(e.key,e.val))=(M[i]?).map (fun x:α×β=>(val x.1,wal x.2)):=fun i=>by rw[←bOD,←bOD,hM]
   have hj:=hMi j;rw[hi]at hj;obtain⟨e0,he0,hke⟩:=bQD.1 hj;simp only[bQS]at hke;have he0':es[j]?= some e0:=by simpa using he0
   refine⟨es.modify j fun e=>{e with key:=val a,val:=wal n},clock,M.set j (a,n),?_,fun p hp=>(List.mem_or_eq_of_mem_set hp),?_⟩
   ·unfold T2;apply List.ext_getElem?;intro q;rw[bOD,bOD,Array.getElem?_toList,Array.getElem?_modify,List.getElem?_set];have hq:=hMi q;rw[Array.getElem?_toList]at hq;by_cases hjq:j=q
    ·subst hjq;have hlt:=(bMW.1 hi).1;simp[he0',hlt]
    ·simp only[hjq,bPL];exact hq
   ·have hks:(Instr.keyThatStays (val a) (val a)).run P w=.ok (val a) w:=by
     have:Instr.sameBits 10000 (val a) (val a)=true:=hk.stay a;unfold Instr.keyThatStays;rw[bNK this,ε]
    unfold Instr.mapUpdate;simp only[Ω,TU.of ht w,Ξ,pM hw,hk.chk];rw[hf,hp];simp only[bOO,Ξ,he0',bQL,hke.1,Ω,hks,hset]
 obtain⟨es',clock',M',hM',hmem,hr⟩:=run;have hHas:bP (A++(b,Obj.map es clock)::B) b (.map es clock) (.map es' clock') (A++(b,.map es' clock')::B):=.app .head;have hs:=h4.set (w':={w with heap:=w.heap.setIfInBounds b (.map es' clock')}) hHas ⟨rfl,rfl⟩ trivial;have:(execOp a'.eval ⟨none,.mapUpdate t x y z,ty,pos,aft,g⟩).run P w=.ok .skip {w with heap:=w.heap.setIfInBounds b (.map es' clock')}:=by
  simp only[execOp,hh.eval hx,hh.eval hy,hh.eval hz,Ω,hr,Ξ,ε]
 rw[this];exact⟨fun h=>Xaf,kk es' clock' M' hM' hmem _ _ ⟨h1,h2,h3,D,hs,h5,O.step (fun _ p hp=>bNI Yu) (fun _=>lO ⟨rfl,rfl⟩ (bMR.2 ⟨_,hHas.mem,rfl⟩)) hs.dom⟩⟩

def H2(val:α→Γ)(es:Array MapEntry)(M:List (α×Int)):Prop:=T2 val (Value.int .i64) es M
theorem aGT{t k e:Θ}{b clock:Nat}{es:Array MapEntry}{M:List (α×Int)}{a:α}(ho:all[ix]?= some ⟨some d,.lookup t x y true,ty,pos,aft,g⟩)(ht:P.underlying t=some (.map k e))(hk:IH P k val)(hz:TZ P e (qI 0))
  (hx:ev σ x=some (.map (some b))) (hy:ev σ y=some (val a)) (hm:(b,Obj.map es clock)∈μ) (hb:b∉bad) (hM:H2 val es M) (hN:Nat.blt d X.N=true) (hg:cQ all σ g)
  (kk:∀n ok,(ok=true→(a,n)∈M)→WL P X bad all K Q os ((d,.tuple #[qI n,.bool ok])::σ) μ Ds):WL P X bad all K Q ((fl,ix)::os) σ μ Ds:=
 ME (wal:=Value.int .i64) ho ht hk hz hx hy hm hb hM hN hg fun n ok h1 h2=>by
  cases ok with
  |true=>obtain⟨r,rfl,hr⟩:=h1 rfl;exact kk r true fun _=>hr
  |false=>rw[h2 rfl];exact kk 0 false fun h=>by cases h
theorem aKZ{t k e:Θ}{b clock:Nat}{es:Array MapEntry}{M:List (α×Int)}{a:α}{n:Int}{A B:aD}(ho:all[ix]?= some ⟨none,.mapUpdate t x y z,ty,pos,aft,g⟩)(ht:P.underlying t=some (.map k e))(hk:IH P k val)
  (hx:ev σ x=some (.map (some b))) (hy:ev σ y=some (val a)) (hz:ev σ z=some (qI n)) (hM:H2 val es M) (hg:cQ all σ g)
  (kk:∀es' clock' M',H2 val es' M'→(∀p∈M',p∈M∨p=(a,n))→WL P X bad all K Q os σ (A++(b,.map es' clock')::B) Ds):WL P X bad all K Q ((false,ix)::os) σ (A++(b,.map es clock)::B) Ds:=
 AM (wal:=Value.int .i64) ho ht hk hx hy hz hM hg kk

structure xU(n:Nat) where
 l:List Int
 h:l.length=n
deriving DecidableEq
def BZ{n:Nat}(a:xU n):Γ:=.agg (ints a.l).toArray
def KA(P:Program)(k:Θ)(n:Nat):Prop:=∃f0 f1 e,P.underlying k=some (.struct (P.fieldsOf k))∧P.stoodInHeld k=false∧P.fieldsOf k=#[f0,f1]∧f0.name≠ "_" ∧f1.name≠ "_" ∧f0.offset=0∧f1.offset=1∧
 P.underlying f0.type=some (.int .i64)∧P.underlying f1.type=some (.array n e)∧P.underlying e=some (.int .i64)∧P.cellsOf e=1∧TA P f1.type true∧TS P f1.type n∧TS P e 1
theorem aRE{t:Θ}{n:Nat}(ha:TA P t true)(hs:TS P t n){l:List Int}(hl:l.length=n+1)(w:Δ):(part t (ints l).toArray 1).run P w=.ok (.agg (ints (l.drop 1)).toArray) w:=by
 unfold part;simp only[Ω,ha w,Ξ,bPG,hs w,ε];congr 2;apply Array.ext';simp only[Array.toList_extract,List.extract_eq_take_drop,ints,List.map_drop];rw[bNV Yaq]
theorem KA.key{k:Θ}{n:Nat}(h:KA P k n):IH P k (BZ (n:=n+1)):=by
 obtain⟨f0,f1,e,hu,hst,hf,I,O,U,V,t0,t1,te,hc,ha,hs,hse⟩:=h;have hsplit:∀a:xU (n+1),∃x r,a.l=x::r∧r.length=n:=by
  rintro⟨l,hl⟩;cases l with
  |nil=>simp at hl
  |cons x r=>exact⟨x,r,rfl,Yaz⟩
 have p0:∀(x:Int) (r:List Int) (w:Δ),(part f0.type (ints (x::r)).toArray f0.offset).run P w=.ok (qI x) w:=fun x r w=>eO t0 (by rw[U];rfl) w
 have p1:∀(x:Int) (r:List Int) (w:Δ),r.length=n→(part f1.type (ints (x::r)).toArray f1.offset).run P w=.ok (.agg (ints r).toArray) w:=fun x r w hr=>by
  rw[V];exact aRE ha hs (l:=x::r) (by simp[hr]) w
 refine⟨⟨_,hu⟩,fun a b w=>?_,fun em a w=>?_,fun a=>?_,fun a=>⟨_,rfl⟩⟩
 ·obtain⟨x,r,ea,hr⟩:=hsplit a;obtain⟨x',r',eb,hr'⟩:=hsplit b;have he:=run_equalIn_struct (P:=P) w 9999 k (ints (x::r)).toArray (ints (x'::r')).toArray hu hst;have hab:decide (a=b)=((x==x')&&(r==r')):=by
   rw[bPT];simp only[GT,bMS,bRL];constructor
   ·rintro rfl;rw[ea]at eb;exact List.cons.inj eb
   ·rintro⟨h1,h2⟩;obtain⟨la,ha'⟩:=a;obtain⟨lb,hb'⟩:=b;simp only at ea eb;subst ea eb h1 h2;rfl
  show(Op.equalIn (9999+1) k (.agg (ints a.l).toArray) (.agg (ints b.l).toArray)).run P w=_;rw[ea,eb,he,hf,hab];have e0:=run_equalIn_int w 9998 f0.type .i64 .i64 x x' t0;obtain⟨inf,hinf⟩:=info_of_underlying te;have R:=run_equalIn_array (P:=P) w 9998 (ints r).toArray (ints r').toArray t1 hinf;rw[hc,nL 9997 te r r' w (List.range n) fun j hj=>Xbr,tR hr hr']at R
  have Y:(Op.eqFields 9999 (ints (x::r)).toArray (ints (x'::r')).toArray [f1]).run P w=.ok (r==r') w:=by
   simp only[Op.eqFields,O,ne_eq,bRV,bPG,Ω,p1 _ _ _ hr,p1 _ _ _ hr',Ξ];rw[R];simp only[Ξ];cases r==r'<;>rfl
  show(Op.eqFields 9999 (ints (x::r)).toArray (ints (x'::r')).toArray (f0::[f1])).run P w=_;rw[Op.eqFields,bNK I];simp only[Ω,p0,Ξ];rw[e0];simp only[Ξ];cases hx:x==x' with
  |true=>
   simp only[bSD,bOS,bPL,bQZ];rw[Y]
  |false=>simp only[bSJ,bPG,ε,Bool.false_and]
 ·obtain⟨x,r,ea,hr⟩:=hsplit a;have c0:(Instr.checkKey em (9998+1) f0.type (qI x)).run P w=.ok () w:=by
   rw[Instr.checkKey,Ω,TU.of t0 w];rfl
  have ce:∀m:Int,(Instr.checkKey em (9997+1) e (qI m)).run P w=.ok () w:=fun m=>by
   rw[Instr.checkKey,Ω,TU.of te w];rfl
  have c1:(Instr.checkKey em (9998+1) f1.type (.agg (ints r).toArray)).run P w=.ok () w:=by
   rw[Instr.checkKey,Ω,TU.of t1 w];simp only[Ξ];rw[Std.Legacy.Range.forIn_eq_forIn_range'];have key:∀(is:List Nat),(∀i∈is,i<n)→((forIn is PUnit.unit fun i _=>do Instr.checkKey em 9998 e (←part e (ints r).toArray (i*(←sizeOf e)));Pure.pure (ForInStep.yield PUnit.unit):Sem PUnit)).run P w=.ok PUnit.unit w:=by
    intro is;induction is with
    |nil=>intro _;rfl
    |cons i is ih=>
     intro hi;have hlt:=hi i bMV;have g1:(ints r).toArray[i*1]?= some (qI r[i]):=by rw[bPK];simpa using cO (bMU (show i<r.length by omega))
     rw[List.forIn_cons];simp only[Ω,hse w,Ξ,eO te g1];rw[ce];simp only[Ξ,ε];exact ih fun j hj=>hi j (bMT _ hj)
   have:=key (List.range' 0 n) fun i hi=>Yau;simpa using this
  show(Instr.checkKey em (9999+1) k (.agg (ints a.l).toArray)).run P w=_;rw[ea,Instr.checkKey,Ω,TU.of hu w];simp only[Ξ];rw[hf,←Array.forIn_toList];simp only[List.forIn_cons,List.forIn_nil,I,O,ne_eq,bRV,bPG,Ω,p0,Ξ,ε];rw[c0];simp only[Ξ,ε,Ω,p1 _ _ _ hr];rw[c1];simp
 ·show Instr.sameBits (9999+1) (.agg (ints a.l).toArray) (.agg (ints a.l).toArray)=true;simp only[Instr.sameBits,beq_self_eq_true,bQZ,bNQ];rintro⟨p,q⟩ hpq;obtain⟨i,hi⟩:=bQV.1 hpq;rw[bSH]at hi;obtain⟨h1,h2⟩:=hi;simp only at h1 h2;rw[h1]at h2;obtain rfl:=bNS h2;have:p∈ints a.l:=n5 Xae;obtain⟨m,_,rfl⟩:=bMR.1 this;simp[Instr.sameBits]
structure H1(P:Program)(f:Field)(o n:Nat):Prop where
 name:f.name≠ "_"
 eqp:∀(l m:List Int) w,o+n≤l.length→o+n≤m.length→∃u v,(part f.type (ints l).toArray f.offset).run P w=.ok u w∧(part f.type (ints m).toArray f.offset).run P w=.ok v w∧(Op.equalIn 9999 f.type u v).run P w=.ok ((l.drop o).take n==(m.drop o).take n) w
inductive HJ(P:Program):Nat→Nat→List Field→Prop
 |nil {o}:HJ P o o []
 |cons {o n e f fs} (h:H1 P f o n) (r:HJ P (o+n) e fs):HJ P o e (f::fs)
theorem HJ.le{o e:Nat}{fs:List Field}(h:HJ P o e fs):o≤e:=by
 induction h with
 |nil=>exact bNJ _
 |cons _ _ ih=>omega
theorem IQ(l m:List Int)(o n:Nat):(l.drop o==m.drop o)=(((l.drop o).take n==(m.drop o).take n)&&(l.drop (o+n)==m.drop (o+n))):=by
 rw[bPT];simp only[bRL,bMS];constructor
 ·intro h;exact⟨by rw[h],by rw[←bQX,←bQX,h]⟩
 ·rintro⟨h1,h2⟩;rw[←bPJ n (l.drop o),←bPJ n (m.drop o),h1,bQX,bQX,h2]
theorem OD(l m:List Int)(w:Δ){o e:Nat}{fs:List Field}(h:HJ P o e fs)(hl:l.length=e)(hm:m.length=e):(Op.eqFields 9999 (ints l).toArray (ints m).toArray fs).run P w=.ok (l.drop o==m.drop o) w:=by
 induction h with
 |nil=>
  rw[bOL Yd,bOL Yd];rfl
 | @cons o n e f fs h r ih=>
  have hle:=r.le;obtain⟨u,v,h1,h2,h3⟩:=h.eqp l m w Yd Yd;rw[Op.eqFields,bNK h.name];simp only[Ω,h1,h2,Ξ];rw[h3,IQ l m o n];simp only[Ξ];cases hx:(l.drop o).take n==(m.drop o).take n with
  |true=>
   simp only[bSD,bOS,bPL,bQZ];exact ih hl hm
  |false=>simp only[bSJ,bPG,ε,Bool.false_and]
theorem H1.int{f:Field}{o:Nat}(hn:f.name≠ "_")(ho:f.offset=o)(ht:P.underlying f.type=some (.int .i64)):H1 P f o 1:=by
 refine⟨hn,fun l m w hl hm=>?_⟩;have h1:l[o]?= some (l[o]'Yd):=bMU _;have h2:m[o]?= some (m[o]'Yd):=bMU _;refine⟨qI l[o],qI m[o],eO ht (by rw[ho];simpa using cO h1) w,eO ht (by rw[ho];simpa using cO h2) w,?_⟩
 rw[run_equalIn_int w 9998 f.type .i64 .i64 _ _ ht];congr 1;have t1:(l.drop o).take 1=[l[o]]:=by rw[bOF (show o<l.length by omega)];rfl
 have t2:(m.drop o).take 1=[m[o]]:=by rw[bOF (show o<m.length by omega)];rfl
 rw[t1,t2];simp
theorem S4{t:Θ}{n o:Nat}(ha:TA P t true)(hs:TS P t n){l:List Int}(_hl:o+n≤l.length)(w:Δ):(part t (ints l).toArray o).run P w=.ok (.agg (ints ((l.drop o).take n)).toArray) w:=by
 unfold part;simp only[Ω,ha w,Ξ,bPG,hs w,ε];congr 2;apply Array.ext';simp only[Array.toList_extract,List.extract_eq_take_drop,ints,List.map_drop,List.map_take];congr 1;omega
theorem H1.arr{f:Field}{o n:Nat}{e:Θ}(hn:f.name≠ "_")(ho:f.offset=o)(ht:P.underlying f.type=some (.array n e))(he:P.underlying e=some (.int .i64))(hc:P.cellsOf e=1)(ha:TA P f.type true)(hs:TS P f.type n):H1 P f o n:=by
 refine⟨hn,fun l m w hl hm=>⟨_,_,by rw[ho];exact S4 ha hs hl w,by rw[ho];exact S4 ha hs hm w,?_⟩⟩;obtain⟨i,hi⟩:=info_of_underlying he;have h:=run_equalIn_array (P:=P) w 9998 (ints ((l.drop o).take n)).toArray (ints ((m.drop o).take n)).toArray ht hi;have I:((l.drop o).take n).length=n:=by rw[bON,bOU];omega
 have O:((m.drop o).take n).length=n:=by rw[bON,bOU];omega
 rw[hc,nL 9997 he _ _ w (List.range n) fun j hj=>Xbr,tR I O]at h;exact h
def KS(P:Program)(t:Θ)(n:Nat):Prop:=P.underlying t=some (.struct (P.fieldsOf t))∧P.stoodInHeld t=false∧P.eqGuardType P.depth t=false∧HJ P 0 n (P.fieldsOf t).toList
theorem BG{t:Θ}{n:Nat}(h:KS P t n){l m:List Int}(hl:l.length=n)(hm:m.length=n)(w:Δ):(Op.equal t (.agg (ints l).toArray) (.agg (ints m).toArray)).run P w=.ok (l==m) w:=by
 have he:=run_equalIn_struct (P:=P) w 9999 t (ints l).toArray (ints m).toArray h.1 h.2.1;show(Op.equalIn (9999+1) t (.agg (ints l).toArray) (.agg (ints m).toArray)).run P w=_;rw[he,OD l m w h.2.2.2 hl hm];simp
theorem bIW{t t':Θ}{n:Nat}{l m:List Int}(ho:all[ix]?= some ⟨some d,.binOp .neq t x y t',ty,pos,aft,g⟩)(ht:KS P t n)(hl:l.length=n)(hm:m.length=n)(hx:ev σ x=some (.agg (ints l).toArray))(hy:ev σ y=some (.agg (ints m).toArray))(hN:Nat.blt d X.N=true)(hg:cQ all σ g)
  (kk:WL P X bad all K Q os ((d,.bool (!(l==m)))::σ) μ Ds):WL P X bad all K Q ((fl,ix)::os) σ μ Ds:=
 ZA ho (fun w=>by
  have hgd:(eqGuard .neq t x y (.agg (ints l).toArray) (.agg (ints m).toArray)).run P w=.ok () w:=by
   simp only[eqGuard,program];simp[Sem.run,ht.2.2.1,go_sem]
  rw[Ω,hgd];show((do Pure.pure (Value.bool (!(←Op.equal t (.agg (ints l).toArray) (.agg (ints m).toArray))))):Sem Γ).run P w=_;rw[Ω,BG ht hl hm];rfl) hx hy hN hg kk
namespace L2
open L1
open C2
open C1 (hC bS tG rK)
theorem tU{r:Int×Int}(h:jD r=true):0≤r.1∧r.1≤r.2∧r.2≤99:=by
 unfold jD fQ at h;simp only[bMS,GT,bS]at h;omega
theorem fC(n lo hi:Int)(D:aC):Fn prog 181 #[qI n,qI lo,qI hi] D (fun _ v=>v=.bool (hC n lo hi)):=by
 refine Zw 15 func181 rfl fun h0=>Wad ?_;refine' bX 4 (s:=10) (p:=14) rfl (fun I=>?_) (fun I=>?_) ?_;rotate_left
 ·refine Wbh ?_;exact aN 3
 ·refine Wc ?_;exact aN 3
 refine We ?_;exact aE rfl fun D hD=>rfl
theorem Q8(n:Int)(D:aC):Fn prog 254 #[iV n] D (fun _ v=>v=.bool (fQ n)):=by
 refine Zw 5 func254 rfl fun h0=>aA<|Zf rfl<|aJ<|Za rfl<|Zd rfl (fun O I=>fC _ _ _ _)<|We ?_;exact aE rfl fun D hD=>rfl
theorem nD(sv:Γ)(x:Int)(xs:List Int)(D:aC)(hS:Sl D RI 1 sv (x::xs)):
  Fn prog 257 #[sv] D (fun _ v=>v=qI (xs.foldl min x)):=by
 refine Zw 5 func257 rfl fun h0=>aA<|Zf rfl<|aJ<|Za rfl<|Zd rfl (fun O I=>L1.EE _ x xs _ (Sl.at RI.up I Ym Yf))<|We ?_;exact aE rfl fun D hD=>rfl
theorem FE(r:Int×Int)(D:aC):Fn prog 253 #[mH r] D (fun _ v=>v=.bool (jD r)):=by
 refine Zw 18 func253 rfl fun h0=>aA<|Zz rfl fun q1 E1 U I=>Zf rfl<|aJ<|Zj rfl vJ rfl<|Zh 0 rfl aI rfl I rfl<|Zj rfl yH rfl<|Zh 1 rfl aI rfl I rfl<|Wcj ?_;refine' bX 4 (s:=8) (p:=12) rfl (fun O=>?_) (fun O=>?_) ?_;rotate_left
 ·refine Zk rfl vJ rfl<|Zi 0 rfl aI rfl I rfl<|Ze rfl (fun Z V=>Q8 _ _)<|Zak rfl ?_;exact aN 3
 ·refine Wc ?_;exact aN 3
 refine Za rfl ?_;refine' bX 4 (s:=13) (p:=17) rfl (fun R=>?_) (fun R=>?_) ?_;rotate_left
 ·refine Zk rfl yH rfl<|Zi 1 rfl aI rfl I rfl<|Ze rfl (fun D2 Y=>Q8 _ _)<|Zak rfl ?_;exact aN 3
 ·refine Wc ?_;exact aN 3
 refine We ?_;exact aE rfl fun D hD=>rfl
theorem aEI(r:Int×Int)(h:jD r=true)(D:aC):Fn prog 258 #[mH r] D (fun _ v=>v=qI (fO r)):=by
 have hb:=tU h;refine Zw 9 func258 rfl fun h0=>aA<|Zz rfl fun q1 E1 O I=>Zf rfl<|aJ<|Zj rfl yH rfl<|Zh 1 rfl aI rfl I rfl<|Zj rfl vJ rfl<|Zh 0 rfl aI rfl I rfl<|Zav rfl<|Zad rfl<|Zf rfl ?_;refine aG ?_;exact aE rfl fun D hD=>rfl
theorem GG(r:Int×Int)(n:Int)(D:aC):Fn prog 262 #[mH r,qI n] D (fun _ v=>v=.bool (hC n r.1 r.2)):=by
 refine Zw 11 func262 rfl fun h0=>aA<|Zz rfl fun q1 E1 O I=>Zf rfl<|aJ<|Za rfl<|Zj rfl vJ rfl<|Zh 0 rfl aI rfl I rfl<|Zj rfl yH rfl<|Zh 1 rfl aI rfl I rfl<|Zd rfl (fun U R=>fC _ _ _ _)<|Zf rfl ?_;refine aG ?_;exact aE rfl fun D hD=>rfl
theorem vD(r:Int×Int)(n:Int)(D:aC):Fn prog 183 #[mH r,qI n] D (fun _ v=>v=mH (min r.1 n,max r.2 n)):=by
 refine Zw 15 func183 rfl fun h0=>aA<|Zz rfl fun q1 E1 hB R=>Zah rfl kA rfl fun q2=>bO<|iZ [] 4 [0,1,2,5,6,7,8,3,4,9,10] [false,false,true,true,true,true,true,true,true,false,false] [(false,0),(false,1),(true,2),(true,5),(true,6),(true,7),(true,8),(true,3),(true,4),(false,9),(false,10)] bB (fun _ _ _ h=>fW (P:=prog) (fn:=f183) _ _ _ h) Yg rfl<|Zj rfl vJ rfl<|Zh 0 rfl aI rfl R rfl<|Za rfl<|Zj rfl yH rfl<|Zh 1 rfl aI rfl R rfl<|Za rfl ?_;refine qW rfl rfl rfl rfl bSM<|Zt rfl U25 aH cE rfl (.cons rfl rfl (.cons rfl rfl .nil)) fun Y Z U I=>?_;have O:=Sl.ofInts (l:=[_,_]) (n:=2) (cap:=2) I rfl Yd Yd;refine Zd rfl (fun D1 V=>nD _ r.1 [n] _ (O.up RI.up (V _ Yf)))<|Zu [qI (min r.1 n),qI (max r.2 n)] rfl X8 kA rfl<|Zab rfl dQ ζ<|aG ?_;exact Zo [_] rfl ⟨⟨_,_,_,rfl,Mm0,Or.inr ⟨nR,Xco,rfl⟩⟩,bSM⟩ fun D hD=>rfl
theorem aGC(tv:Γ)(t:aX)(n:Int)(D:aC)(ht:gN D tv t):Fn prog 217 #[tv,qI n] D (fun _ v=>v=.bool (DN t.last n)):=by
 have ht0:=ht;obtain⟨hv,lv,mv,rfl,hh,hl,hm⟩:=ht;have hll:=hl.len;refine Zw 9 func217 rfl fun h0=>aA<|Zz rfl fun q1 E1 O I=>Zf rfl<|aJ<|Za rfl<|Zj rfl mX rfl<|Zh 0 rfl aI rfl I rfl<|Zd rfl (fun U R=>fC _ _ _ _)<|We ?_;exact aE rfl fun D hD=>rfl
theorem bJB(tv:Γ)(t:aX)(n:Int)(D:aC)(ht:gN D tv t):Fn prog 91 #[tv,qI n] D (fun _ v=>v=.bool (hC n 0 ((t.levels.length:Int)-1))):=by
 have ht0:=ht;obtain⟨hv,lv,mv,rfl,hh,hl,hm⟩:=ht;have hll:=hl.len;refine Zw 11 func91 rfl fun h0=>aA<|Zz rfl fun q1 E1 O I=>Zf rfl<|aJ<|Za rfl<|Zj rfl lT rfl<|Zh 3 rfl cD rfl I rfl<|eE rfl U25 rfl Ym rfl rfl bSM<|Zav rfl<|Zd rfl (fun U R=>fC _ _ _ _)<|Zf rfl ?_;refine aG ?_;exact aE rfl fun D hD=>rfl
theorem SK(tv:Γ)(t:aX)(a b:Int)(D:aC)(ht:gN D tv t):Fn prog 136 #[tv,qI a,qI b] D (fun _ v=>v=.bool (tA t.last a b)):=by
 have ht0:=ht;obtain⟨hv,lv,mv,rfl,hh,hl,hm⟩:=ht;have hll:=hl.len;refine Zw 20 func136 rfl fun h0=>aA<|Zz rfl fun q1 E1 Y I=>Zf rfl<|aJ<|Zv rfl lF rfl I jS<|Za rfl<|Zd rfl (fun Z O=>aGC _ t _ _ (ht0.up (O _ Yf)))<|Za rfl ?_;refine' bX 4 (s:=10) (p:=14) rfl (fun R=>?_) (fun R=>?_) ?_;rotate_left
 ·refine cK rfl lF rfl I Yc jS n4 rfl ⟨_,rfl,rfl⟩<|Zb rfl<|Ze rfl (fun D2 U=>aGC _ t _ _ (ht0.up (U _ Yf)))<|Zak rfl ?_;exact aN 3
 ·refine Wc ?_;exact aN 3
 refine Za rfl ?_;refine' bX 4 (s:=15) (p:=19) rfl (fun V=>?_) (fun V=>?_) ?_;rotate_left
 ·refine Wbh ?_;exact aN 3
 ·refine Wc ?_;exact aN 3
 refine We ?_;exact aE rfl fun D hD=>rfl
theorem aZB(tv:Γ)(t:aX)(m:Mk)(D:aC)(ht:gN D tv t):Fn prog 251 #[tv,bJH m] D (fun _ v=>v=.bool (wN t.last m)):=by
 have ht0:=ht;obtain⟨hv,lv,mv,rfl,hh,hl,hm⟩:=ht;refine Zw 16 func251 rfl fun h0=>aA<|Zz rfl fun q1 E1 V O=>Zz rfl fun q2 E2 Y I=>Zf rfl<|aJ<|Zv rfl lF rfl O jS<|Zj rfl MW rfl<|Zh 0 rfl aI rfl I rfl<|Zj rfl JS rfl<|Zh 1 rfl aI rfl I rfl<|Zd rfl (fun D1 R=>SK _ t _ _ _ (ht0.up (R _ Yf))) ?_;refine Za rfl ?_;refine' bX 4 (s:=11) (p:=15) rfl (fun U=>?_) (fun U=>?_) ?_;rotate_left
 ·refine Zk rfl JY rfl<|dX rfl (k:=2) nR dQ rfl I Yc rfl rfl n4 rfl ⟨_,rfl,rfl⟩<|Ze rfl (fun D2 Z=>FE (m.lo,m.hi) _)<|Zak rfl ?_;exact aN 3
 ·refine Wc ?_;exact aN 3
 refine We ?_;exact aE rfl fun D hD=>rfl
theorem xK(sv fv:Γ)(xs:List (Int×Int))(p:(Int×Int)→Bool)(D:aC)(hS:Sl D AV 2 sv xs)(hp:cX prog D mH fv p):
  Fn prog 370 #[sv,fv] D (fun _ v=>v=qI (idxOf p xs)):=by
 have hl:=hS.len;obtain⟨f,c1,c2,rfl,hf⟩:=hp;refine Zw 19 func370 rfl fun h0=>aA<|Zf rfl<|bC<|Za rfl<|eE rfl U29 rfl Ym rfl rfl bSM<|Wd ?_;rintro k ⟨h1,h2⟩;refine aA<|Zan rfl<|bO<|Zae rfl (fun hc1=>?_) fun hc1=>?_
 ·have hk:k<xs.length:=Yd
  obtain⟨x,hx⟩:=cT xs k;refine aQ<|Za3<|Za1<|aA<|Za rfl<|Zf rfl<|aJ<|Za rfl<|Za rfl<|Za rfl<|dW rfl U29 dQ rfl Ym rfl Yd Ym rfl bSM fun Y Z I O V R=>?_;obtain rfl:I=[qI _,qI _]:=O;refine Zv rfl nR rfl R dQ<|Zd rfl (fun D1 U=>hf x _ (U _ Yf))<|aF<|Zaf rfl (fun hc2=>?_) fun hc2=>?_
  ·refine Wbf ?_;exact aE rfl fun D hD=>Xbt
  ·refine Wbs ?_;have hpx:p x=false:=hc2;have h3:(xs.take (k+1)).any p=false:=by rw[bMZ,hx,bQK,h2];simp[hpx]
   exact aL 12 (k+1) ⟨Yd,h3⟩ Yd ⟨Ya,bSM⟩ rfl rfl Mm5 (aK)
 ·refine Wl ?_;exact aE rfl fun D hD=>Xbu
theorem rJ(sv fv:Γ)(xs:List (Int×Int))(p:(Int×Int)→Bool)(D:aC)(hS:Sl D AV 2 sv xs)(hp:cX prog D mH fv p):
  Fn prog 331 #[sv,fv] D (fun _ v=>v=.bool (xs.any p)):=by
 refine Zw 9 func331 rfl fun h0=>aA<|Zf rfl<|aJ<|Za rfl<|Za rfl<|Zd rfl (fun O I=>xK _ _ xs p _ (Sl.at AV.up I Ym Yf) (hp.up (I _ Yf)))<|Waa ?_;exact aE rfl fun D hD=>Xbv
theorem ET(b:Nat)(fv:Γ)(p:(Int×Int)→Bool)(x:(Int×Int))(D:aC)(hp:cX prog D mH fv p)(hB:At D b 0 [fv]):
  Fn prog 332 #[mH x,qP b] D (fun _ v=>v=.bool (!p x)):=by
 obtain⟨f,c1,c2,rfl,hf⟩:=hp;refine Zw 8 func332 rfl fun h0=>aA<|Zz rfl fun q1 E1 R I=>Zf rfl<|aJ<|Zh 0 rfl bDU rfl hB rfl<|Zv rfl nR rfl I dQ<|Wz ?_;exact aE rfl fun D hD=>rfl
theorem OW(sv fv:Γ)(xs:List (Int×Int))(p:(Int×Int)→Bool)(D:aC)(hS:Sl D AV 2 sv xs)(hp:cX prog D mH fv p)(h1:fv.cells=#[fv]):
  Fn prog 252 #[sv,fv] D (fun _ v=>v=.bool (xs.all p)):=by
 refine Zw 9 func252 rfl fun h0=>aA<|tD (vs:=[fv]) rfl rfl h1 rfl bSM fun b O I hB=>Zf rfl<|aJ<|Za rfl<|Zay rfl<|Zd rfl (fun O I=>rJ _ _ xs (fun x=> !p x) _ (Sl.at AV.up I Ym Yf) ⟨_,[],[qP b],rfl,fun x R hl=>ET b fv p x R (hp.up ((I _ Yf).trans hl)) (hB.up ((I _ Yf).trans hl))⟩)<|Zat rfl<|We ?_;exact aE rfl fun D hD=>Xbx
theorem II(sv fv:Γ)(xs:List Mk)(p:Mk→Bool)(D:aC)(hS:Sl D UV 4 sv xs)(hp:cX prog D bJH fv p):
  Fn prog 371 #[sv,fv] D (fun _ v=>v=qI (idxOf p xs)):=by
 have hl:=hS.len;obtain⟨f,c1,c2,rfl,hf⟩:=hp;refine Zw 19 func371 rfl fun h0=>aA<|Zf rfl<|bC<|Za rfl<|eE rfl U30 rfl Ym rfl rfl bSM<|Wd ?_;rintro k ⟨h1,h2⟩;refine aA<|Zan rfl<|bO<|Zae rfl (fun hc1=>?_) fun hc1=>?_
 ·have hk:k<xs.length:=Yd
  obtain⟨x,hx⟩:=cT xs k;refine aQ<|Za3<|Za1<|aA<|Za rfl<|Zf rfl<|aJ<|Za rfl<|Za rfl<|Za rfl<|dW rfl U30 lP rfl Ym rfl Yd Ym rfl bSM fun Y Z I O V R=>?_;obtain rfl:I=[qI _,qI _,qI _,qI _]:=O;refine Zv rfl QM rfl R lP<|Zd rfl (fun D1 U=>hf x _ (U _ Yf))<|aF<|Zaf rfl (fun hc2=>?_) fun hc2=>?_
  ·refine Wbf ?_;exact aE rfl fun D hD=>Xbt
  ·refine Wbs ?_;have hpx:p x=false:=hc2;have h3:(xs.take (k+1)).any p=false:=by rw[bMZ,hx,bQK,h2];simp[hpx]
   exact aL 12 (k+1) ⟨Yd,h3⟩ Yd ⟨Ya,bSM⟩ rfl rfl Mm5 (aK)
 ·refine Wl ?_;exact aE rfl fun D hD=>Xbu
theorem x8(sv fv:Γ)(xs:List Mk)(p:Mk→Bool)(D:aC)(hS:Sl D UV 4 sv xs)(hp:cX prog D bJH fv p):
  Fn prog 334 #[sv,fv] D (fun _ v=>v=.bool (xs.any p)):=by
 refine Zw 9 func334 rfl fun h0=>aA<|Zf rfl<|aJ<|Za rfl<|Za rfl<|Zd rfl (fun O I=>II _ _ xs p _ (Sl.at UV.up I Ym Yf) (hp.up (I _ Yf)))<|Waa ?_;exact aE rfl fun D hD=>Xbv
theorem aSZ(b:Nat)(fv:Γ)(p:Mk→Bool)(x:Mk)(D:aC)(hp:cX prog D bJH fv p)(hB:At D b 0 [fv]):
  Fn prog 335 #[bJH x,qP b] D (fun _ v=>v=.bool (!p x)):=by
 obtain⟨f,c1,c2,rfl,hf⟩:=hp;refine Zw 8 func335 rfl fun h0=>aA<|Zz rfl fun q1 E1 R I=>Zf rfl<|aJ<|Zh 0 rfl aYQ rfl hB rfl<|Zv rfl QM rfl I lP<|Wz ?_;exact aE rfl fun D hD=>rfl
theorem aZF(sv fv:Γ)(xs:List Mk)(p:Mk→Bool)(D:aC)(hS:Sl D UV 4 sv xs)(hp:cX prog D bJH fv p)(h1:fv.cells=#[fv]):
  Fn prog 256 #[sv,fv] D (fun _ v=>v=.bool (xs.all p)):=by
 refine Zw 9 func256 rfl fun h0=>aA<|tD (vs:=[fv]) rfl rfl h1 rfl bSM fun b O I hB=>Zf rfl<|aJ<|Za rfl<|Zay rfl<|Zd rfl (fun O I=>x8 _ _ xs (fun x=> !p x) _ (Sl.at UV.up I Ym Yf) ⟨_,[],[qP b],rfl,fun x R hl=>aSZ b fv p x R (hp.up ((I _ Yf).trans hl)) (hB.up ((I _ Yf).trans hl))⟩)<|Zat rfl<|We ?_;exact aE rfl fun D hD=>Xbx
theorem H5(b:Nat)(fv:Γ)(p:Int→Bool)(x:Int)(D:aC)(hp:cX prog D iV fv p)(hB:At D b 0 [fv]):
  Fn prog 333 #[iV x,qP b] D (fun _ v=>v=.bool (!p x)):=by
 obtain⟨f,c1,c2,rfl,hf⟩:=hp;refine Zw 8 func333 rfl fun h0=>Wao ?_;exact aE rfl fun D hD=>rfl
theorem d6(sv fv:Γ)(xs:List Int)(p:Int→Bool)(D:aC)(hS:Sl D RI 1 sv xs)(hp:cX prog D iV fv p)(h1:fv.cells=#[fv]):
  Fn prog 255 #[sv,fv] D (fun _ v=>v=.bool (xs.all p)):=by
 refine Zw 9 func255 rfl fun h0=>aA<|tD (vs:=[fv]) rfl rfl h1 rfl bSM fun b O I hB=>Zf rfl<|aJ<|Za rfl<|Zay rfl<|Zd rfl (fun O I=>L1.nP _ _ xs (fun x=> !p x) _ (Sl.at RI.up I Ym Yf) ⟨_,[],[qP b],rfl,fun x R hl=>H5 b fv p x R (hp.up ((I _ Yf).trans hl)) (hB.up ((I _ Yf).trans hl))⟩)<|Zat rfl<|We ?_;exact aE rfl fun D hD=>Xbx
theorem aUC(sv:Γ)(x:Int)(xs:List Int)(D:aC)(hS:Sl D RI 1 sv (x::xs)):
  Fn prog 314 #[sv] D (fun _ v=>v=qI (xs.foldl max x)):=by
 have hl:=hS.len;simp only[bMX]at hl;refine Zw 25 func314 rfl fun h0=>aA<|Zf rfl<|bC<|Za rfl<|eE rfl U25 rfl Ym rfl rfl bSM<|Zan rfl<|aF<|Zae rfl (fun hc1=>?_) fun hc1=>?_
 ·exact absurd hc1 (by simp only[bMX];omega)
 ·refine aQ<|aA<|Za rfl<|dW rfl U25 aH rfl Ym rfl Yd Ybb rfl bSM fun b1 o1 I O Z R=>?_;obtain rfl:I=[qI _]:=O;refine Zh 0 rfl aI rfl R rfl<|Zf rfl<|bC<|Zf rfl<|aF<|Za1<|bM (γ:=Nat) (fun k=>xs.length-k) (fun k=>k≤xs.length) (fun k=>[(3,qI ((xs.take k).foldl max x)),(4,qI (k+1:Int))]) [(2,_),(0,_)] (fun k=>[D]) 0 Yd ⟨Ya,Ya,bSM⟩ cF (aK) ?_;rintro k h1;refine bZ<|Za rfl<|Za rfl<|eE rfl U25 rfl Ym rfl rfl bSM<|Zan rfl<|aF<|Zae rfl (fun hc2=>?_) (fun hc2=>?_)
  ·simp only[bMX]at hc2;have hk:k<xs.length:=Yd
   obtain⟨y,hy⟩:=cT xs k;have hE:(x::xs)[(k+1:Int).toNat]?= some y:=by rw[show((k:Int)+1).toNat=k+1 by omega];simpa using hy
   refine aQ<|Za3<|Za1<|aO<|Za rfl<|Za rfl<|Za rfl<|dW rfl U25 aH rfl Ym rfl Yd Ym rfl bSM fun b2 o2 U V hB Y=>?_;obtain rfl:U=[qI _]:=V;refine Zh 0 rfl aI rfl Y rfl<|qW rfl rfl rfl rfl bSM<|Wu ?_;have h3:(xs.take (k+1)).foldl max x=max ((xs.take k).foldl max x) y:=by rw[bMZ,hy,bOR];rfl
   exact Zn 16 (k+1) ⟨(by rw[h3];rfl),Ya,bSM⟩ rfl Mm5
  ·simp only[bMX]at hc2;refine Wm ?_;exact aE rfl fun D hD=>Xcm
end L2
theorem K2.key{k:Θ}(h:K2 P k):IH P k mH:=by
 refine⟨⟨_,h.1⟩,fun a b w=>?_,fun em a w=>CC h em a w,fun a=>?_,fun a=>⟨_,rfl⟩⟩
 ·rw[j9 h];congr 1;by_cases e:a=b
  ·subst e;simp
  ·simp[e]
 ·simp[mH,Instr.sameBits]

theorem aET{em:Bool}{t e:Θ}{n:Nat}(t1:P.underlying t=some (.array n e))(te:P.underlying e=some (.int .i64))(hse:TS P e 1){r:List Int}(hr:r.length=n)(w:Δ):(Instr.checkKey em (9998+1) t (.agg (ints r).toArray)).run P w=.ok () w:=by
 have ce:∀m:Int,(Instr.checkKey em (9997+1) e (qI m)).run P w=.ok () w:=fun m=>by
  rw[Instr.checkKey,Ω,TU.of te w];rfl
 rw[Instr.checkKey,Ω,TU.of t1 w];simp only[Ξ];rw[Std.Legacy.Range.forIn_eq_forIn_range'];have key:∀(is:List Nat),(∀i∈is,i<n)→((forIn is PUnit.unit fun i _=>do Instr.checkKey em 9998 e (←part e (ints r).toArray (i*(←sizeOf e)));Pure.pure (ForInStep.yield PUnit.unit):Sem PUnit)).run P w=.ok PUnit.unit w:=by
  intro is;induction is with
  |nil=>intro _;rfl
  |cons i is ih=>
   intro hi;have hlt:=hi i bMV;have g1:(ints r).toArray[i*1]?= some (qI r[i]):=by rw[bPK];simpa using cO (bMU (show i<r.length by omega))
   rw[List.forIn_cons];simp only[Ω,hse w,Ξ,eO te g1];rw[ce];simp only[Ξ,ε];exact ih fun j hj=>hi j (bMT _ hj)
 have:=key (List.range' 0 n) fun i hi=>Yau;simpa using this
def KM(P:Program)(k:Θ)(n:Nat):Prop:=∃f0 f1 f2 e,P.underlying k=some (.struct (P.fieldsOf k))∧P.fieldsOf k=#[f0,f1,f2]∧f0.name≠ "_" ∧f1.name≠ "_" ∧f2.name≠ "_" ∧f0.offset=0∧f1.offset=1∧f2.offset=n+1∧
 P.underlying f0.type=some (.int .i64)∧P.underlying f1.type=some (.array n e)∧P.underlying f2.type=some (.array n e)∧P.underlying e=some (.int .i64)∧TA P f1.type true∧TS P f1.type n∧TA P f2.type true∧TS P f2.type n∧TS P e 1
theorem KM.key{k:Θ}{n:Nat}(h:KM P k n)(hks:KS P k (n+n+1)):IH P k (BZ (n:=n+n+1)):=by
 obtain⟨f0,f1,f2,e,hu,hf,I,O,R,U,V,Y,t0,t1,t2,te,Z,s1,a2,s2,hse⟩:=h;refine⟨⟨_,hu⟩,fun a b w=>?_,fun em a w=>?_,fun a=>?_,fun a=>⟨_,rfl⟩⟩
 ·have:=BG (P:=P) hks a.h b.h w;show(Op.equal k (.agg (ints a.l).toArray) (.agg (ints b.l).toArray)).run P w=_;rw[this];congr 1;obtain⟨la,ha⟩:=a;obtain⟨lb,hb⟩:=b;rw[bPT];simp
 ·have hl:=a.h;have c0:∀x:Int,(Instr.checkKey em (9998+1) f0.type (qI x)).run P w=.ok () w:=fun x=>by
   rw[Instr.checkKey,Ω,TU.of t0 w];rfl
  obtain⟨x,hx⟩:=cT a.l 0;have p0:(part f0.type (ints a.l).toArray f0.offset).run P w=.ok (qI x) w:=eO t0 (by rw[U];simpa using cO hx) w
  have p1:(part f1.type (ints a.l).toArray f1.offset).run P w=.ok (.agg (ints ((a.l.drop 1).take n)).toArray) w:=by rw[V];exact S4 Z s1 Yd w
  have p2:(part f2.type (ints a.l).toArray f2.offset).run P w=.ok (.agg (ints ((a.l.drop (n+1)).take n)).toArray) w:=by rw[Y];exact S4 a2 s2 Yd w
  have c1:=aET (em:=em) t1 te hse (r:=(a.l.drop 1).take n) (by rw[bON,bOU];omega) w;have c2:=aET (em:=em) t2 te hse (r:=(a.l.drop (n+1)).take n) (by rw[bON,bOU];omega) w
  show(Instr.checkKey em (9999+1) k (.agg (ints a.l).toArray)).run P w=_;rw[Instr.checkKey,Ω,TU.of hu w];simp only[Ξ];rw[hf,←Array.forIn_toList];simp only[List.forIn_cons,List.forIn_nil,I,O,R,ne_eq,bRV,bPG,Ω,p0,Ξ,ε];rw[c0];simp only[Ξ,ε,Ω,p1];rw[c1];simp only[Ξ,ε,Ω,p2];rw[c2];simp
 ·show Instr.sameBits (9999+1) (.agg (ints a.l).toArray) (.agg (ints a.l).toArray)=true;simp only[Instr.sameBits,beq_self_eq_true,bQZ,bNQ];rintro⟨p,q⟩ hpq;obtain⟨i,hi⟩:=bQV.1 hpq;rw[bSH]at hi;obtain⟨h1,h2⟩:=hi;simp only at h1 h2;rw[h1]at h2;obtain rfl:=bNS h2;have:p∈ints a.l:=n5 Xae;obtain⟨m,_,rfl⟩:=bMR.1 this;simp[Instr.sameBits]
def bIZ:Unit→Γ:=fun _=>.bool true
structure yB(es:Array MapEntry)(clock:Nat)(S:List (Int×Int)):Prop where
 cells:T2 mH bIZ es (S.map fun a=>(a,()))
 nd:(es.toList.map (·.born)).Nodup
 lt:∀e∈es.toList,e.born<clock
theorem yB.nil:yB #[] 0 []:=⟨rfl,bPA,fun e he=>by simp at he⟩
def WN(S:List (Int×Int))(a:Int×Int):List (Int×Int):=if a∈S then S else S++[a]
theorem aNT{S:List (Int×Int)}{a p:Int×Int}:p∈WN S a ↔ p∈S∨p=a:=by
 unfold WN;split
 ·rename_i h;exact⟨bNI,fun h'=>h'.elim id fun e=>e▸h⟩
 ·simp
theorem yB.key{es:Array MapEntry}{clock:Nat}{S:List (Int×Int)}(h:yB es clock S){e:MapEntry}(he:e∈es.toList):∃a∈S,e.key=mH a∧e.val=.bool true:=by
 have h1:=h.cells;unfold T2 at h1;obtain⟨i,hi⟩:=bQV.1 he;have h2:(es.toList.map fun e=>(e.key,e.val))[i]?= some (e.key,e.val):=by rw[bOD,hi];rfl
 rw[h1,bRM,bOD]at h2;obtain⟨a,ha,hk⟩:=bQD.1 h2;simp only[Function.comp,bQS]at hk;exact⟨a,n5 ha,hk.1.symm,hk.2.symm⟩
theorem yB.ent{es:Array MapEntry}{clock:Nat}{S:List (Int×Int)}(h:yB es clock S){a:Int×Int}(ha:a∈S):∃e∈es.toList,e.key=mH a:=by
 have h1:=h.cells;unfold T2 at h1;obtain⟨i,hi⟩:=bQV.1 ha;have h2:((S.map fun a=>(a,())).map fun x=>(mH x.1,bIZ x.2))[i]?= some (mH a,.bool true):=by rw[bRM,bOD,hi];rfl
 rw[←h1,bOD]at h2;obtain⟨e,he,hk⟩:=bQD.1 h2;simp only[bQS]at hk;exact⟨e,n5 he,hk.1⟩
theorem aLQ{S:List (Int×Int)}{a:Int×Int}:∀{i:Nat},O3 a (S.map fun a=>(a,())) i=none→a∉S:=by
 induction S with
 |nil=>intro i _;exact n4
 |cons b S ih=>
  intro i h;simp only[bNT,O3]at h;split at h
  ·cases h
  ·rename_i hne;intro hm;rcases LT.1 hm with e|hm
   ·exact hne e
   ·exact ih h hm
theorem bIS{t k e:Θ}{b clock:Nat}{es:Array MapEntry}{S:List (Int×Int)}{a:Int×Int}{A B:aD}(ho:all[ix]?= some ⟨none,.mapUpdate t x y z,ty,pos,aft,g⟩)(ht:P.underlying t=some (.map k e))(hk:K2 P k)
  (hx:ev σ x=some (.map (some b))) (hy:ev σ y=some (mH a)) (hz:ev σ z=some (.bool true)) (hM:yB es clock S) (hg:cQ all σ g)
  (kk:∀es' clock',yB es' clock' (WN S a)→WL P X bad all K Q os σ (A++(b,.map es' clock')::B) Ds):WL P X bad all K Q ((false,ix)::os) σ (A++(b,.map es clock)::B) Ds:=by
 refine fF ho rfl rfl hg fun a' w hh=>?_
 obtain⟨h1,h2,h3,D,h4,h5,Y⟩:=id hh;have hw:=(h4.box (b,.map es clock) Yf).1;have hK:=hk.key;have run:∃es' clock',yB es' clock' (WN S a)∧(Instr.mapUpdate t (.map (some b)) (mH a) (.bool true)).run P w=.ok () {w with heap:=w.heap.setIfInBounds b (.map es' clock')}:=by
  have hf:=xP (wal:=bIZ) hK a w hM.cells;have hset:∀o,(setObj b o).run P w=.ok () {w with heap:=w.heap.setIfInBounds b o}:=fun o=>by simp[setObj,Sem.run,hw]
  cases hp:O3 a (S.map fun a=>(a,())) 0 with
  |none=>
   have hna:=aLQ hp;refine⟨es.push {key:=mH a,val:=.bool true,born:=clock},clock+1,⟨?_,?_,?_⟩,?_⟩
   ·have hM':=hM.cells;unfold T2 at hM' ⊢
    unfold WN;rw[bNA hna,Array.toList_push,bNG,hM',bNG,bNG];rfl
   ·rw[Array.toList_push,bNG,bNF];refine⟨hM.nd,Yf,fun Z R b2 U=>?_⟩;obtain⟨V,I,rfl⟩:=bMR.1 R;have:=hM.lt V I;simp only[bNT,bRF,bNL]at U;omega
   ·intro V I;rw[Array.toList_push]at I;rcases bNH.1 I with I|I
    ·have:=hM.lt V I;omega
    ·simp only[bNL]at I;subst I;exact Nat.lt_succ_self _
   ·unfold Instr.mapUpdate;simp only[Ω,TU.of ht w,Ξ,pM hw,hK.chk];rw[hf,hp];simp only[bPI,Ξ,hset]
  |some r=>
   obtain⟨j,m⟩:=r;obtain⟨i,O,hi⟩:=O4 hp;rw[bQB]at O;subst O
   have hSj:S[j]?= some a:=by
    rw[bOD]at hi;obtain⟨a',ha',hk'⟩:=bQD.1 hi;rw[ha',(Prod.mk.inj hk').1]
   have hMi:∀i,(es.toList[i]?).map (fun e:MapEntry=>(e.key,e.val))=(S[i]?).map (fun x:Int×Int=>(mH x,Value.bool true)):=fun i=>by
    have:=hM.cells;unfold T2 at this;rw[←bOD,this,bRM,bOD];rfl
   have hj:=hMi j;rw[hSj]at hj;obtain⟨e0,he0,hke⟩:=bQD.1 hj;simp only[bQS]at hke;have he0':es[j]?= some e0:=by simpa using he0
   have hmod:es.modify j (fun e=>{e with key:=mH a,val:=.bool true})=es:=by
    apply Array.ext_getElem?;intro q;rw[Array.getElem?_modify];by_cases hjq:j=q
    ·subst hjq;simp only[he0',bPG,bOO];obtain⟨k0,v0,b0⟩:=e0;simp only at hke;rw[hke.1,hke.2]
    ·simp[hjq]
   refine⟨es,clock,?_,?_⟩
   ·unfold WN;rw[bNK (n5 hSj)];exact hM
   ·have hks:(Instr.keyThatStays (mH a) (mH a)).run P w=.ok (mH a) w:=by
     have:Instr.sameBits 10000 (mH a) (mH a)=true:=hK.stay a;unfold Instr.keyThatStays;rw[bNK this,ε]
    unfold Instr.mapUpdate;simp only[Ω,TU.of ht w,Ξ,pM hw,hK.chk];rw[hf,hp];simp only[bOO,Ξ,he0',bQL,hke.1,Ω,hks,hset,hmod]
 obtain⟨es',clock',hM',hr⟩:=run;have hHas:bP (A++(b,Obj.map es clock)::B) b (.map es clock) (.map es' clock') (A++(b,.map es' clock')::B):=.app .head;have hs:=h4.set (w':={w with heap:=w.heap.setIfInBounds b (.map es' clock')}) hHas ⟨rfl,rfl⟩ trivial;have:(execOp a'.eval ⟨none,.mapUpdate t x y z,ty,pos,aft,g⟩).run P w=.ok .skip {w with heap:=w.heap.setIfInBounds b (.map es' clock')}:=by
  simp only[execOp,hh.eval hx,hh.eval hy,hh.eval hz,Ω,hr,Ξ,ε]
 rw[this];exact⟨fun h=>Xaf,kk es' clock' hM' _ _ ⟨h1,h2,h3,D,hs,h5,Y.step (fun _ p hp=>bNI Yu) (fun _=>lO ⟨rfl,rfl⟩ (bMR.2 ⟨_,hHas.mem,rfl⟩)) hs.dom⟩⟩
theorem aOG{t k e:Θ}{b clock:Nat}{es:Array MapEntry}(ho:all[ix]?= some ⟨some d,.range t x,ty,pos,aft,g⟩)(ht:P.underlying t=some (.map k e))(hx:ev σ x=some (.map (some b)))(hm:(b,Obj.map es clock)∈μ)(hN:Nat.blt d X.N=true)(hg:cQ all σ g)
  (kk:∀r,WL P X bad all K Q os ((d,qP r)::σ) ((r,.mapIter (some b) clock #[] clock)::μ) Ds):WL P X bad all K Q ((fl,ix)::os) σ μ Ds:=by
 refine fF ho rfl rfl hg fun a w hh=>?_
 obtain⟨h1,h2,h3,D,h4,h5,I⟩:=id hh;have:(execOp a.eval ⟨some d,.range t x,ty,pos,aft,g⟩).run P w=.ok (.value (.pointer (some ⟨w.heap.size,0,none⟩))) {w with heap:=w.heap.push (.mapIter (some b) clock #[] clock)}:=by
  simp only[execOp,hh.eval hx,Ω,run_range_map w t k e b es clock ht (h4.box _ hm).1,Ξ,ε];rfl
 rw[this];exact⟨fun _=>pU _ _ _,kk _ _ _ (Hl.put ⟨h1,h2,h3,D,h4.push _ (show cU (.mapIter (some b) clock #[] clock)from bSM),h5,I.step (fun _ p hp=>Xbp) (fun _=>G7 _ _) (h4.push _ (show cU (.mapIter (some b) clock #[] clock)from bSM)).dom⟩ hN _)⟩
theorem aYO{b r since c0 clock:Nat}{seen:Array Nat}{es:Array MapEntry}{A B:aD}(ho:all[ix]?= some ⟨some d,.next x false,ty,pos,aft,g⟩)(hx:ev σ x=some (qP r))(hm:(b,Obj.map es clock)∈A++(r,.mapIter (some b) since seen c0)::B)
  (hold:∀e∈es.toList,e.born<since) (hsc:since≤c0) (hN:Nat.blt d X.N=true) (hg:cQ all σ g)
  (kk:∀(ok:Bool) (vs:Array Γ) (o':Obj),vs.toList[0]?= some (.bool ok)→(ok=false→(leftOf es seen).size=0∧o'=.mapIter (some b) since seen c0)→(ok=true→∃e∈(leftOf es seen).toList,o'=.mapIter (some b) since (seen.push e.born) clock)→WL P X bad all K Q os ((d,.tuple vs)::σ) (A++(r,o')::B) Ds):
  WL P X bad all K Q ((false,ix)::os) σ (A++(r,.mapIter (some b) since seen c0)::B) Ds:=by
 refine fF ho rfl rfl hg fun a w hh=>?_
 have I:=hh;obtain⟨h1,h2,h3,D,h4,h5,V⟩:=id hh;have hr:=(h4.box (r,.mapIter (some b) since seen c0) Yf).1;have hb:=(h4.box _ hm).1;rcases run_next_at (P:=P) w ty r b since c0 seen es clock hr hb hold hsc with⟨hl,hrun⟩|⟨e,he,O,R,hrun⟩
 ·have:(execOp a.eval ⟨some d,.next x false,ty,pos,aft,g⟩).run P w=.ok (.value (.tuple #[.bool false])) w:=by
   simp only[execOp,hh.eval hx,Ω,hrun,Ξ,ε]
  rw[this];exact⟨fun h=>Xaf,kk false _ _ rfl (fun _=>⟨hl,rfl⟩) (fun h=>Xab) _ _ (I.put hN _)⟩
 ·have U:Hl X σ (A++(r,.mapIter (some b) since seen c0)::B) Ds a O:=by
   rcases R with rfl|rfl
   ·exact I
   ·exact I.drew
  have:(execOp a.eval ⟨some d,.next x false,ty,pos,aft,g⟩).run P w=.ok (.value (.tuple #[.bool true,e.key,e.val])) (ChangeMaps.setBlock O r (.mapIter (some b) since (seen.push e.born) clock)):=by
   simp only[execOp,hh.eval hx,Ω,hrun,Ξ,ε]
  rw[this];obtain⟨h1,h2,h3,D,h4,h5,V⟩:=U;have hHas:bP (A++(r,Obj.mapIter (some b) since seen c0)::B) r (.mapIter (some b) since seen c0) (.mapIter (some b) since (seen.push e.born) clock) (A++(r,.mapIter (some b) since (seen.push e.born) clock)::B):=.app .head;have hs:=h4.set (w':=ChangeMaps.setBlock O r (.mapIter (some b) since (seen.push e.born) clock)) hHas ⟨rfl,rfl⟩ trivial;exact⟨fun h=>Xaf,kk true _ _ rfl (fun h=>Xab) (fun _=>⟨e,he,rfl⟩) _ _ (Hl.put ⟨h1,h2,h3,D,hs,h5,V.step (fun _ p hp=>bNI Yu) (fun _=>lO ⟨rfl,rfl⟩ (bMR.2 ⟨_,hHas.mem,rfl⟩)) hs.dom⟩ hN _)⟩
theorem aQH{b r since clock:Nat}{seen:Array Nat}{es:Array MapEntry}{e:MapEntry}(ho:all[ix]?= some ⟨some d,.entry x,ty,pos,aft,g⟩)(hx:ev σ x=some (qP r))(hm:(b,Obj.map es clock)∈μ)(hr:(r,Obj.mapIter (some b) since (seen.push e.born) clock)∈μ)
  (he:e∈es.toList) (hn:(es.toList.map (·.born)).Nodup) (hN:Nat.blt d X.N=true) (hg:cQ all σ g)
  (kk:WL P X bad all K Q os ((d,.tuple #[e.key,e.val])::σ) μ Ds):WL P X bad all K Q ((fl,ix)::os) σ μ Ds:=by
 refine fF ho rfl rfl hg fun a w hh=>?_
 obtain⟨h1,h2,h3,D,h4,h5,I⟩:=id hh;have:(execOp a.eval ⟨some d,.entry x,ty,pos,aft,g⟩).run P w=.ok (.value (.tuple #[e.key,e.val])) w:=by
  simp only[execOp,hh.eval hx,Ω,run_entry_at w r b since seen es clock e (h4.box _ hr).1 (h4.box _ hm).1 he hn,Ξ,ε]
 rw[this];exact⟨fun _=>pX.refl _ _,kk _ _ (hh.put hN _)⟩
theorem aHK{t e:Θ}{n b l h:Nat}{I k2:IntKind}{i j:Int}(ho:all[ix]?= some ⟨some d,.slice t x (some y) (some z) none,ty,pos,aft,g⟩)(ht:P.underlying t=some (.array n e))(hs:TS P e 1)(hx:ev σ x=some (qP b))
  (hy:ev σ y=some (.int I i)) (hz:ev σ z=some (.int k2 j)) (hi:i=(l:Int)) (hj:j=(h:Int)) (h1:l≤h) (h2:h≤n) (h3:l<n)
  (hN:Nat.blt d X.N=true) (hg:cQ all σ g) (kk:WL P X bad all K Q os ((d,.slice (some ⟨b,l,none⟩) (h-l) (n-l))::σ) μ Ds):WL P X bad all K Q ((fl,ix)::os) σ μ Ds:=by
 subst hi;subst hj
 refine bW ho rfl rfl hN hg (fun ρ hρ w'=>?_) kk;simp only[execOp,hρ x _ hx,hρ y _ hy,hρ z _ hz,bPI,bOO];unfold Instr.sliceAt Instr.sureAddr Instr.sliceBounds Instr.sliceBound asIntOf;have O:(0:Int)≤(l:Int)∧(l:Int)≤(h:Nat):=Yd
 have a2:(0:Int)≤(h:Int)∧(h:Int)≤(n:Nat):=Yd
 simp only[Ω,TU.of ht w',Ξ,hs w',ε,pure_bind,O,a2,bRS,bPG,bOI,bPK];rw[bNA Yd];simp[Addr.add];exact fun h=>h.symm
theorem aUZ{t e:Θ}{n b h:Nat}{k2:IntKind}{j:Int}(ho:all[ix]?= some ⟨some d,.slice t x none (some z) none,ty,pos,aft,g⟩)(ht:P.underlying t=some (.array n e))(hs:TS P e 1)(hx:ev σ x=some (qP b))
  (hz:ev σ z=some (.int k2 j)) (hj:j=(h:Int)) (h2:h≤n)
  (hN:Nat.blt d X.N=true) (hg:cQ all σ g) (kk:WL P X bad all K Q os ((d,qS b h n)::σ) μ Ds):WL P X bad all K Q ((fl,ix)::os) σ μ Ds:=by
 subst hj;refine bW ho rfl rfl hN hg (fun ρ hρ w'=>?_) kk;simp only[execOp,hρ x _ hx,hρ z _ hz,bPI,bOO];unfold Instr.sliceAt Instr.sureAddr Instr.sliceBounds Instr.sliceBound asIntOf;have a2:(0:Int)≤(h:Int)∧(h:Int)≤(n:Nat):=Yd
 simp only[Ω,TU.of ht w',Ξ,hs w',ε,pure_bind,a2,bRS,bPG,bOI,bRB,bQH];split<;>simp[Addr.add]
theorem aCI{D:aC}{b n l h:Nat}{c:List Int}(hA:At D b 0 (ints c))(hl:c.length=n)(h1:l≤h)(h2:h≤n)(hb:n≤9223372036854775807):Sl D RI 1 (.slice (some ⟨b,l,none⟩) (h-l) (n-l)) ((c.drop l).take (h-l)):=by
 have hlen:((c.drop l).take (h-l)).length=h-l:=by simp;omega
 refine⟨_,_,by rw[hlen],Yd,Yd,bNC ⟨b,l,rfl,fun i x hi=>⟨_,rfl,rfl,fun j v hj=>?_⟩⟩⟩;rw[List.getElem?_take]at hi;split at hi
 ·rw[bPC]at hi;cases j with
  |zero=>
   have h5:v=qI x:=by simpa using hj.symm
   subst h5;have:=hA (l+i) (qI x) (cO hi);simpa using this
  |succ j=>simp at hj
 ·cases hi
theorem bIV{γ:Type}(I:γ→Prop)(S:γ→Bool)(XX:γ→Cx)(M:γ→aD)(xs ys:List (Bool×Nat)){s p:Nat}{b:Bool}(hXr:∀g,(XX g).r=X.r)(ho:os=xs++ys)(hs:look σ s=some (.bool b))
  (hyes:b=true→WL P X bad all (fun a w=>∃g,I g∧Hl (XX g) ((p,.bool (S g))::(s,.bool true)::σ) (M g) Ds a w) Q xs ((s,.bool true)::σ) μ Ds)
  (hno:b=false→WL P X bad all (fun a w=>∃g,I g∧Hl (XX g) ((p,.bool (S g))::(s,.bool false)::σ) (M g) Ds a w) Q xs ((s,.bool false)::σ) μ Ds)
  (k:∀g,I g→WL P (XX g) bad all K Q ys ((p,.bool (S g))::σ) (M g) Ds):WL P X bad all K Q os σ μ Ds:=by
 have hsub:∀u,Value.bool b=u→∀a w,Hl X σ μ Ds a w→Hl X ((s,u)::σ) μ Ds a w:=by
  rintro _ rfl a w ⟨h1,h2,h3⟩;refine⟨h1,fun t v ht=>?_,h3⟩;simp only[look]at ht;cases hb:Nat.beq s t with
  |true=>rw[hb]at ht;cases ht;obtain rfl:=bOV hb;exact h2 _ _ hs
  |false=>rw[hb]at ht;exact h2 _ _ ht
 have hback:∀(X:Cx) u v μ',Value.bool b=u→∀a w,Hl X ((p,v)::(s,u)::σ) μ' Ds a w→Hl X ((p,v)::σ) μ' Ds a w:=by
  rintro X _ v μ' rfl a w ⟨h1,h2,h3⟩;refine⟨h1,fun t v' ht=>?_,h3⟩;refine h2 t v' ?_;simp only[look]at ht ⊢
  cases hp:Nat.beq p t with
  |true=>rw[hp]at ht;exact ht
  |false=>
   rw[hp]at ht;cases hb:Nat.beq s t with
   |true=>obtain rfl:=bOV hb;rw[←ht,hs]
   |false=>exact ht
 subst ho;intro a w hh;cases b
 ·refine WL.append (hno rfl a w (hsub _ rfl a w hh)) ?_;rintro a w ⟨g,hI,h⟩;rw[←hXr g];exact k g hI a w (hback _ _ _ _ rfl a w h)
 ·refine WL.append (hyes rfl a w (hsub _ rfl a w hh)) ?_;rintro a w ⟨g,hI,h⟩;rw[←hXr g];exact k g hI a w (hback _ _ _ _ rfl a w h)

theorem aFA{f:FuncId}{fn:Func}{c:Code}{args:List Γ}{D:aC}{post:aC→Γ→aD→Prop}(N:Nat)(hf:P.funcs[f]?= some fn)(hn:(fn.name== "runtime.NumGoroutine")=false)(hb:fn.body=some c)(hN:fn.ntmps=N)(hsz:Nat.ble args.length N=true)
  (h:∀h0:H0,WC P ⟨none,N,[],h0,h0.size,D,[],none⟩ (V1 P fn (qV ⟨none,N,[],h0,h0.size,D,[],none⟩ post)) c (jP 0 args) [] [D]):IU P f args.toArray D post:=by
 refine⟨EF.of hf hn hb,fun w hw=>?_⟩;subst hN;have hsz:=bPE hsz;have hq:∀e a w',V1 P fn (qV ⟨none,fn.ntmps,[],hd w,w.heap.size,D,[],none⟩ post) e a w'→bodyPostM (FW none) 0 P fn (qV ⟨none,fn.ntmps,[],hd w,w.heap.size,D,[],none⟩ post) e a w':=by
  intro e a w' he;cases e<;>first|exact he|exact he.elim
 have hwp:=h (hd w) {tmps:=args.toArray++Array.replicate (fn.ntmps-args.toArray.size) undef,defers:=[]} w ⟨Yaq,fun s v hs=>by
  obtain⟨_,h2⟩:=gX args 0 s v hs;have hl:=(bMW.1 h2).1;simp only[bQH]at h2 hl;show(args.toArray++_)[s]?= some v;rw[bPS Yaz];simpa using h2,rfl,D,⟨bNJ _,bNJ _,(fun _ _ _=>rfl),(fun _ _=>rfl),hw,Yi,bPA,Yi,fun e he=>bNS he⟩,(fun D₁ h1=>Xck),bSM⟩
 refine(dR (r:=none) (n:=0)).1 ((callsIn_of_wp_marks hf hb bSM (wpIn_mono hwp hq) rfl).mono ?_);rintro e w' ⟨v,D',μ',rfl,hs,hp⟩;exact⟨v,D',μ',rfl,hs,hp⟩
theorem HA{fn:Func}{bd:Nat}{post:aC→Γ→aD→Prop}{e:Exit}(he:(match e with|.normal=>true|.ret=>true|_=>false)=true){rs:List ResultVar}{vs:List Γ}{A B ν':aD}(hds:X.ds=[])(hr:fn.results=rs.toArray)(h:C5 P X σ (A++ν'++B++[(bd,Obj.deferred none)]) rs vs)
  (hp:∀D,(∀D₁∈Ds,Le D₁ D)→post D (qO vs) ν'):∀a w,Hl (X.withDs bd) σ (A++ν'++B++[(bd,Obj.deferred (some []))]) Ds a w→V1 P fn (qV X post) e a w:=by
 intro a w hh;obtain⟨h1,h2,h3,D,h4,h5,I⟩:=hh;have hHas:bP (A++ν'++B++[(bd,Obj.deferred (some []))]) bd (.deferred (some [])) (.deferred none) (A++ν'++B++[(bd,Obj.deferred none)]):=.app .head;have hs:=h4.set (w':=w.putObj bd (.deferred none)) hHas ⟨rfl,rfl⟩ trivial;have hh':Hl X σ (A++ν'++B++[(bd,Obj.deferred none)]) Ds {a with defers:=[]} (w.putObj bd (.deferred none)):=
  ⟨h1,h2,hds.symm,D,hs,h5,I.step (X:=X.withDs bd) (fun _ p hp=>bNI Yu) (fun _=>lO ⟨rfl,rfl⟩ (bMR.2 ⟨_,hHas.mem,rfl⟩)) hs.dom⟩
 have hrun:=jG hh' hr h;have hb:=(h4.box (bd,Obj.deferred (some [])) Yf).1;have hnd:=hs.nd;simp only[bNG]at hnd;have hs':iT X.h0 X.lo X.D0 X.mods ν' D (w.putObj bd (.deferred none)):=hs.sub (fun p hp=>bNE _ (bNE _ (GE _ hp))) (bNF.1 (bNF.1 (bNF.1 hnd).1).1).2.1;have:LeavesInM (FW none) 0 P fn a.tmps (qV X post) a.defers .returning w:=by
  have h3':a.defers=[nZ bd]:=h3.trans Xcl;rw[h3'];exact⟨Yf,bNI ⟨bd,_,rfl,run_takeDeferred hb,_,hrun,_,D,ν',rfl,hs',hp D h5⟩⟩
 cases e<;>first|exact this|cases he
namespace L2
open L1
open C2
open C1 (hC bS tG rK)
theorem aWG{c pre:List Int}{n:Int}{i:Nat}(hl:pre.length=i)(hp:c.take (i+1)=pre++[n]):c[(i:Int).toNat]?= some n:=by
 have h:(c.take (i+1))[i]?= some n:=by rw[hp,←hl];simp
 rw[bPX (Nat.lt_succ_self i)]at h;exact h
theorem aLG{step:Int}{c pre:List Int}{n:Int}{i:Nat}(hl:pre.length=i)(hp:c.take (i+1)=pre++[n])(hb:∀x∈pre,0≤x∧x≤99)(_h10:c.length=10)(hi:i<10):
  ∃m,(i≠0→c[((i:Int)-1).toNat]?= some m)∧(0≤m∧m≤99)∧(decide ((i:Int)=0)||hC (n-m) (-step) step)=lJ step pre.getLast? n:=by
 rcases List.eq_nil_or_concat pre with rfl|⟨q,m,rfl⟩
 ·refine⟨0,fun h=>absurd hl.symm h,Yd,?_⟩;simp only[bOY]at hl;subst hl;simp[lJ]
 ·refine⟨m,fun _=>?_,hb m Yf,?_⟩
  ·have h:(c.take (i+1))[i-1]?= some m:=by
    rw[hp];simp only[List.concat_eq_append,LE,bPB]at hl;rw[show i-1=q.length by omega];simp
   rw[bPX Yd]at h;rw[show((i:Int)-1).toNat=i-1 by omega];exact h
  ·have:(i:Int)≠0:=by
    simp only[List.concat_eq_append,LE,bPB]at hl;omega
   unfold lJ;rw[decide_eq_false this,Bool.false_or];simp
theorem bIH{c pre:List Int}{i n:Nat}{k:Int}(h:c.length=10)(hi:i<n)(hn:n≤10)(hp:c.take i=pre)(hz:c.drop n=List.replicate (10-n) 0):(c.set i k).length=10∧(c.set i k).take (i+1)=pre++[k]∧(c.set i k).drop n=List.replicate (10-n) 0:=
 ⟨by simp[h],by rw[bMZ,List.getElem?_set_self Yd,bNU,List.take_set_of_le (bNJ _),hp],by rw[List.drop_set_of_lt hi];exact hz⟩
theorem DM(last step:Int)(hv lv mv:Γ)(c pre:List Int)(n:Int)(i:Nat)(D:aC)(hs:0≤step∧step≤99)(U:c.length=10)(V:i<10)(hl:pre.length=i)(hp:c.take (i+1)=pre++[n])(hb:∀x∈pre,0≤x∧x≤99)(hn:0≤n∧n≤99):
  Fn prog 261 #[.agg #[qI last,hv,qI step,lv,mv],.agg (ints c).toArray,qI (i:Int)] D (fun _ v=>v=.bool (lJ step pre.getLast? n)):=by
 have Y:=aWG hl hp;obtain⟨m,Z,hmb,hnr⟩:=aLG (step:=step) hl hp hb U V;refine Zw 25 func261 rfl fun h0=>aA<|Zz rfl fun q1 E1 hE I=>Zz rfl fun q2 E2 hF O=>Zf rfl<|bO<|bN [] 6 19 64448<|Za rfl<|Waw ?_;refine' dL 15 (s:=9) (p:=24) rfl (fun R=>?_) (fun R=>?_) ?_;rotate_left
 ·have hH:(i:Int)≠0:=by simpa using R
  have hB:=Z Yd;refine Zb rfl<|cA rfl U320 aH rfl rfl Yd Yd rfl ⟨_,rfl,rfl⟩<|iL rfl aI rfl O Yf (cO Y) n4 rfl ⟨_,rfl,rfl⟩<|Zb rfl<|yP rfl rfl rfl Ye rfl ⟨_,rfl,rfl⟩<|cA rfl U320 aH rfl rfl Yd Yd rfl ⟨_,rfl,rfl⟩<|iL rfl aI rfl O Yf (cO hB) n4 rfl ⟨_,rfl,rfl⟩<|yP rfl rfl rfl Ye rfl ⟨_,rfl,rfl⟩<|Zk rfl L9 rfl<|Zi 2 rfl aI rfl I rfl<|aED rfl rfl Ye rfl ⟨_,rfl,rfl⟩<|Zk rfl L9 rfl ?_;refine Zi 2 rfl aI rfl I rfl<|Ze rfl (fun D1 hI=>fC _ _ _ _)<|Zal rfl ?_;exact aN 14
 ·refine Wah ?_;refine Wbi ?_;exact aN 14
 refine We ?_;exact aE rfl fun D hD=>by show Value.bool _=_;rw[hnr]
def jC(br bY bc bh:Nat)(c:List Int):aD:=[(bh,qC [.func (.func 260) #[] #[qP br,qP bY,qP bc,qP bh]] 182),(bc,qC (ints c) 320)]
def Y6(J Jx:List (List Int)→wE)(br bY bc bh:Nat)(step:Int)(hs:List (Int×Int))(pre:List Int)(i:Nat)(done:List (List Int))(v:Γ)(J':wE)(μ':aD):Prop:=
 ∃b c',v=.bool b∧c'.length=10∧c'.take i=pre∧c'.drop hs.length=List.replicate (10-hs.length) 0∧μ'=jC br bY bc bh c'∧(if b=true then J'=J (done++(iN step (hs.drop i) pre.getLast?).map fun t=>dG (pre++t))else ∃p,J'=Jx p)
theorem yU{lo l:Nat}{J Jx:List (List Int)→wE}{t:aX}{xs:List (List Int)}{Dr Dy:aC}{Ds:List aC}{br bY bc bh:Nat}{hv lv mv:Γ}(hto:KL t)
  (hs:∀pre,V6 lo (J pre)) (hsx:∀pre,V6 lo (Jx pre)) (hY:aEO prog Dr lo l J Jx xs) (hDr:Dr∈Ds) (hDy:Dy∈Ds) (hA:At Dr br 0 [qI t.last,hv,qI t.step,lv,mv]) (hpl:Sl Dr AV 2 hv t.heights) (hB:At Dy bY 0 [.func (.yield l) #[] #[]]):
  ∀(j i:Nat) (pre c:List Int) (done rest:List (List Int)) (iv:Int),iv=i→i+j=t.heights.length→pre.length=i→c.length=10→c.take i=pre→c.drop t.heights.length=List.replicate (10-t.heights.length) 0→(∀x∈pre,0≤x∧x≤99)→
   xs=done++(iN t.step (t.heights.drop i) pre.getLast?).map (fun t=>dG (pre++t))++rest→
   bJV prog 260 [qI iv,qP br,qP bY,qP bc,qP bh] lo (J done) (jC br bY bc bh c) Ds (Y6 J Jx br bY bc bh t.step t.heights pre i done):=by
 intro j;induction j using Nat.strongRecOn with
 |_ j ih=>
 intro i pre c done rest iv hiv hij hl h9 hp hz hpb hxs;subst hiv;have hmx:=hpl.len;have hlast:=hto.last;have hlen:=hto.len;have hF:=hto.len10;refine W8 (μ:=jC br bY bc bh c) 46 func260 rfl rfl rfl rfl<|aA<|Zf rfl<|bC<|Za rfl<|Zj rfl mX rfl<|Zh 0 rfl aI rfl hA rfl<|Zaq rfl<|aF<|Zae rfl (fun hc1=>?_) fun hc1=>?_
 ·have hin:i=t.heights.length:=Yd
  subst hin;have hleaf:=(aAG (l:=pre) (by rw[hl];exact hp) (by rw[hl];exact hz))
  rw[bSK]at hxs;simp only[iN,bNT,bRF,bNN]at hxs;rw[hleaf,bND,bQJ]at hxs;refine aA<|Zh 0 rfl aWU rfl hB rfl<|bL rfl oQ rfl Mm1 Yac n4 rfl bSM<|FQ (l:=l) (J1:=J (done++[c])) (J0:=Jx (done++[c])) rfl rfl rfl rfl (hs _) (hsx _) (fun D w hd hJ hb hl=>hY done c _ D w ⟨rest,hxs⟩ hd hJ (fun b hbm=>by obtain⟨p,hp,rfl⟩:=bMR.1 hbm;exact hb p hp) (hl _ hDr)) rfl bSM fun b1 J1 hH=>Wg ?_
  exact lA (P:=prog) (fn:=f260) (N:=46) (vs:=[_]) rfl rfl ⟨rfl,bSM⟩ (fun D h=>⟨D,h,Le.refl D⟩) ⟨b1,c,rfl,h9,hp,hz,rfl,by cases b1<;>simp only[hH,bPG,bOS,bPL];exact⟨_,rfl⟩;simp[iN,hleaf]⟩
 ·have hin:i<t.heights.length:=Yd
  obtain⟨r,hri⟩:=cT t.heights i;have hrb:=hto.hts r (n5 hri);have hrg:=tU hrb;have hsz:fO r=r.2-r.1+1:=rfl;have hd:t.heights.drop i=r::t.heights.drop (i+1):=by rw[bOF hin];congr 1;exact bNS ((bMU hin).symm.trans hri)
  rw[hd,←aCQ]at hxs;refine aQ<|bZ<|Zj rfl lU rfl<|Zh 1 rfl xE rfl hA rfl<|Za rfl<|Zx rfl U29 dQ rfl hpl rfl hri fun b1 o1 hI hK hX hN=>?_;obtain rfl:hI=[qI _,qI _]:=hK;refine Zv rfl nR rfl hN dQ<|Zd rfl (fun D1 rB=>aEI r hrb _)<|Za rfl<|aF<|Za1<|Z1 (γ:=Nat×List Int) (fun g=>(fO r).toNat-g.1) (fun g=>g.1≤(fO r).toNat∧g.2.length=10∧g.2.take i=pre∧g.2.drop t.heights.length=List.replicate (10-t.heights.length) 0) (fun g=>J (done++WT t.step (t.heights.drop (i+1)) pre r g.1)) (fun g=>[(21,qI (g.1:Int))]) [(20,_),(6,_),(0,_),(1,_),(3,_),(4,_)] (fun g=>jC br bY bc bh g.2) (fun g=>Ds) (0,c) ⟨Yf,h9,hp,hz⟩ (by simp[aRI]) ⟨Ya,bSM⟩ cF Mm5 (aK) ?_;rintro⟨k,c1⟩ ⟨hO,I,O,R⟩;simp only at hO I O R;refine aA<|Zan rfl<|bO<|Zae rfl (fun hc2=>?_) fun hc2=>?_
  ·obtain⟨rr,hr⟩:=aPA (step:=t.step) (rs:=t.heights.drop (i+1)) (pre:=pre) (r:=r) (k:=k) (n:=(fO r).toNat) Yd;have hset:=bIH (k:=r.1+(k:Int)) I hin hF O R;have h9s:(c1.set ((i:Int)).toNat (r.1+(k:Int))).length=10:=hset.1;have hpn:∀x∈pre++[r.1+(k:Int)],0≤x∧x≤99:=fun x hx=>by rcases bNH.1 hx with hx|hx;exact hpb x hx;simp only[bNL]at hx;omega
   refine aQ<|Za3<|Za1<|aA<|Za rfl<|Zf rfl<|aJ<|Za rfl<|Zj rfl lU rfl<|Zh 1 rfl xE rfl hA rfl<|Za rfl<|Zx rfl U29 dQ rfl hpl rfl hri fun b2 o2 hP hR rA hS=>?_;obtain rfl:hP=[qI _,qI _]:=hR;refine Zj rfl vJ rfl<|Zh 0 rfl aI rfl hS rfl<|Za rfl<|Zad rfl<|cA rfl U320 aH rfl rfl Yd Yd rfl bSM<|p5 rfl aH rfl rfl (.tail ζ) (by simp only[*];omega) bSM<|aJ<|Zv rfl lF rfl hA jS<|bL rfl oQ rfl Mm1 Yac n4 rfl bSM<|Za rfl<|Zd rfl (fun D2 hD2=>DM t.last t.step hv lv mv (c1.set i (r.1+(k:Int))) pre (r.1+(k:Int)) i _ hto.step hset.1 Yd hl hset.2.1 hpb Yd)<|Za rfl ?_;refine bIV (γ:=Bool×List Int×wE) (fun g=>g.2.1.length=10∧g.2.1.take (i+1)=pre++[r.1+(k:Int)]∧g.2.1.drop t.heights.length=List.replicate (10-t.heights.length) 0∧(if g.1=true then ∃p,g.2.2=Jx p else g.2.2=J (done++WT t.step (t.heights.drop (i+1)) pre r (k+1)))) (fun g=>g.1) (fun g=>Xj 46 lo g.2.2) (fun g=>jC br bY bc bh g.2.1) [(false,5),(false,6),(false,7),(false,8),(false,9),(false,10)] [] (s:=38) (p:=44) (fun _=>rfl) rfl rfl (fun U=>?_) (fun U=>?_) ?_
   ·have hnear:lJ t.step pre.getLast? (r.1+(k:Int))=true:=by simpa using U
    refine Zq rfl qY rfl Mm0 rfl<|Zb rfl<|oC rfl rfl rfl Ye rfl ⟨_,rfl,rfl⟩<|wZ rfl rfl rfl rfl (ih (j-1) Yd (i+1) (pre++[r.1+(k:Int)]) (c1.set i (r.1+(k:Int))) (done++WT t.step (t.heights.drop (i+1)) pre r k) (rr++rest) (i+1:Int) Yd Yd Yaq (by simpa using I) hset.2.1 hset.2.2 hpn (by rw[hxs,hr,aFZ hnear];simp)) rfl ⟨_,rfl,rfl⟩ ?_;rintro _ J2 _ ⟨b2,c2,rfl,h9',hp',hz',rfl,hJ2⟩;refine Wbr ?_;exact BC fun a w hh=>⟨(!b2,c2,J2),⟨h9',hp',hz',by cases b2<;>simp only[bSD,bSJ,bPG,bOS,bPL]at hJ2 ⊢;exact hJ2;rw[hJ2,aFZ hnear,bND]⟩,hh.cutK 5 rfl⟩
   ·refine Wo ?_;exact BC fun a w hh=>⟨(false,c1.set i (r.1+(k:Int)),J (done++WT t.step (t.heights.drop (i+1)) pre r k)),⟨hset.1,hset.2.1,hset.2.2,by simp only[bOS,bPL];rw[bGZ (by simpa using U)]⟩,hh.cutK 5 rfl⟩
   rintro⟨b3,c3,J3⟩ ⟨V,Y,Z,hE⟩;simp only at V Y Z hE;refine aF<|Zaf rfl (fun hc3=>?_) fun hc3=>?_
   ·obtain rfl:b3=true:=Xac
    refine aA<|Wi ?_;exact lA (P:=prog) (fn:=f260) (N:=46) (vs:=[_]) rfl rfl ⟨rfl,bSM⟩ (fun D h=>⟨D,h,Le.refl D⟩) ⟨false,c3,rfl,V,L1.wB Y hl,Z,rfl,by simpa using hE⟩
   ·obtain rfl:b3=false:=Xac
    refine Wbs ?_;exact sX 22 (k+1,c3) ⟨Yn,V,L1.wB Y hl,Z⟩ Yn (by simpa using hE) ⟨Ya,bSM⟩ rfl rfl Mm5 (aK)
  ·refine Wl ?_;exact lA (P:=prog) (fn:=f260) (N:=46) (vs:=[_]) rfl rfl ⟨rfl,bSM⟩ (fun D h=>⟨D,h,Le.refl D⟩) ⟨true,c1,rfl,I,O,R,rfl,by simp only[bPG];rw[hd,←aCQ,show k=(fO r).toNat by omega]⟩
theorem aIY(t:aX)(Dr:aC)(br:Nat)(hv lv mv:Γ)(hto:KL t)(hA:At Dr br 0 [qI t.last,hv,qI t.step,lv,mv])(hpl:Sl Dr AV 2 hv t.heights):
  G8 prog 259 [qP br] Dr ((fD t).map dG) PZ:=by
 refine AQ 8 func259 rfl rfl rfl rfl fun lo l J Jx hs hsx hY=>aA<|Zz rfl fun q1 E1 O I=>aJ<|Zah rfl j7 rfl fun R=>aJ<|Zah rfl CM rfl fun U=>aJ<|Zay rfl<|Zr rfl CI ζ rfl<|aF<|aO ?_;refine Zp rfl qY rfl Mm0 rfl<|wZ rfl rfl rfl rfl (yU (l:=l) hto hs hsx hY Yf Yf hA hpl I t.heights.length 0 [] (List.replicate 10 0) [] [] 0 rfl Yd rfl rfl rfl (List.drop_replicate ..) (fun x hx=>by cases hx) (by simp[fD])) rfl bSM ?_;rintro _ V _ ⟨b2,c2,rfl,h9',hp',hz',rfl,hJ2⟩;refine Zao ?_;exact lA (P:=prog) (fn:=f259) (N:=8) (vs:=[]) rfl rfl bSM (fun D h=>⟨D,Xav,Le.refl D⟩) (by cases b2<;>simp[fD]at hJ2 ⊢;exact bNC hJ2;exact bNI hJ2)
theorem SX(tv:Γ)(t:aX)(D:aC)(ht:gN D tv t)(hto:KL t):
  Fn prog 179 #[tv] D (fun D' v=>∃br,v=.func (.func 259) #[] #[qP br]∧G8 prog 259 [qP br] D' ((fD t).map dG) PZ):=by
 obtain⟨hv,lv,mv,rfl,hh,hl,hm⟩:=ht;refine Zw 4 func179 rfl fun h0=>aA<|Zz rfl fun q1 E1 O I=>Wck ?_;exact aE rfl fun D hD=>⟨_,rfl,aIY t _ q1 hv lv mv hto (I.up (hD _ Yf)) (hh.up AV.up (hD _ Yf))⟩
end L2
namespace L7
open C7
theorem lB{α:Type}{p:α→Bool}{xs:List α}{k:Nat}{x:α}(hx:xs[k]?= some x)(h:(xs.take k).any p=false)(hp:p x=true):idxOf p xs=k:=by
 have hk:=(bMW.1 hx).1;have he:=(bMW.1 hx).2;have h1:xs.any p=true:=bRD.2 ⟨x,n5 hx,hp⟩;have h2:xs.findIdx p=k:=by
  rw[List.findIdx_eq hk];refine⟨by rw[he];exact hp,fun j hj=>?_⟩
  have:=List.any_eq_false.1 h (xs[j]'Yd) (by
   rw[List.mem_take_iff_getElem];exact⟨j,Yd,rfl⟩)
  simpa using this
 simp[idxOf,h1,h2]
theorem iC{α:Type}{p:α→Bool}{xs:List α}(h:xs.any p=false):idxOf p xs= -1:=by simp[idxOf,h]
theorem lG{α:Type}{p:α→Bool}{xs:List α}:decide (0≤idxOf p xs)=xs.any p:=by
 unfold idxOf;cases h:xs.any p<;>simp
theorem oP{α:Type}{p:α→Bool}{xs:List α}:(!xs.any fun x=> !p x)=xs.all p:=by
 rw[List.all_eq_not_any_not]
theorem fC(n lo hi:Int)(D:aC):Fn prog 169 #[qI n,qI lo,qI hi] D (fun _ v=>v=.bool (hC n lo hi)):=by
 refine Zw 15 func169 rfl fun h0=>Wad ?_;refine' bX 4 (s:=10) (p:=14) rfl (fun I=>?_) (fun I=>?_) ?_;rotate_left
 ·refine Wbh ?_;exact aN 3
 ·refine Wc ?_;exact aN 3
 refine We ?_;exact aE rfl fun D hD=>rfl
theorem aDU(n lo hi:Int)(D:aC):Fn prog 238 #[qI n,qI lo,qI hi] D (fun _ v=>v=.bool (hC n lo hi)):=by
 refine Zw 15 func238 rfl fun h0=>Wbm ?_;refine' bX 4 (s:=10) (p:=14) rfl (fun I=>?_) (fun I=>?_) ?_;rotate_left
 ·refine Wbh ?_;exact aN 3
 ·refine Wc ?_;exact aN 3
 refine We ?_;exact aE rfl fun D hD=>Xde
theorem xL(sv fv:Γ)(xs:List Int)(p:Int→Bool)(D:aC)(hS:Sl D RI 1 sv xs)(hp:cX prog D iV fv p):
  Fn prog 364 #[sv,fv] D (fun _ v=>v=qI (idxOf p xs)):=by
 have hl:=hS.len;obtain⟨f,c1,c2,rfl,hf⟩:=hp;refine Zw 19 func364 rfl fun h0=>aA<|Zf rfl<|bC<|Za rfl<|eE rfl U25 rfl Ym rfl rfl bSM<|Wd ?_;rintro k ⟨h1,h2⟩;refine aA<|Zan rfl<|bO<|Zae rfl (fun hc1=>?_) fun hc1=>?_
 ·have hk:k<xs.length:=Yd
  obtain⟨x,hx⟩:=cT xs k;refine aQ<|Za3<|Za1<|aA<|Za rfl<|Zf rfl<|aJ<|Za rfl<|Za rfl<|Za rfl<|dW rfl U25 aH rfl Ym rfl Yd Ym rfl bSM fun Y Z I O V R=>?_;obtain rfl:I=[qI _]:=O;refine Zh 0 rfl aI rfl R rfl<|Zd rfl (fun D1 U=>hf x _ (U _ Yf))<|aF<|Zaf rfl (fun hc2=>?_) fun hc2=>?_
  ·refine Wbf ?_;exact aE rfl fun D hD=>Xat
  ·refine Wbs ?_;have hpx:p x=false:=hc2;have h3:(xs.take (k+1)).any p=false:=by rw[bMZ,hx,bQK,h2];simp[hpx]
   exact aL 12 (k+1) ⟨Yd,h3⟩ Yd ⟨Ya,bSM⟩ rfl rfl Mm5 (aK)
 ·refine Wl ?_;exact aE rfl fun D hD=>Xan
theorem nP(sv fv:Γ)(xs:List Int)(p:Int→Bool)(D:aC)(hS:Sl D RI 1 sv xs)(hp:cX prog D iV fv p):
  Fn prog 309 #[sv,fv] D (fun _ v=>v=.bool (xs.any p)):=by
 refine Zw 9 func309 rfl fun h0=>Wbu ?_;exact aE rfl fun D hD=>Xao
theorem H5(b:Nat)(fv:Γ)(p:Int→Bool)(x:Int)(D:aC)(hp:cX prog D iV fv p)(hB:At D b 0 [fv]):
  Fn prog 369 #[iV x,qP b] D (fun _ v=>v=.bool (!p x)):=by
 obtain⟨f,c1,c2,rfl,hf⟩:=hp;refine Zw 8 func369 rfl fun h0=>Wao ?_;exact aE rfl fun D hD=>rfl
theorem d6(sv fv:Γ)(xs:List Int)(p:Int→Bool)(D:aC)(hS:Sl D RI 1 sv xs)(hp:cX prog D iV fv p)(h1:fv.cells=#[fv]):
  Fn prog 327 #[sv,fv] D (fun _ v=>v=.bool (xs.all p)):=by
 refine Zw 9 func327 rfl fun h0=>aA<|tD (vs:=[fv]) rfl rfl h1 rfl bSM fun b O I hB=>Wai ?_;exact aE rfl fun D hD=>Xau
theorem xN(sv fv:Γ)(xs:List Ch)(p:Ch→Bool)(D:aC)(hS:Sl D A3 4 sv xs)(hp:cX prog D bJW fv p):
  Fn prog 326 #[sv,fv] D (fun _ v=>v=qI (idxOf p xs)):=by
 have hl:=hS.len;obtain⟨f,c1,c2,rfl,hf⟩:=hp;refine Zw 19 func326 rfl fun h0=>aA<|Zf rfl<|bC<|Za rfl<|eE rfl U37 rfl Ym rfl rfl bSM<|Wd ?_;rintro k ⟨h1,h2⟩;refine aA<|Zan rfl<|bO<|Zae rfl (fun hc1=>?_) fun hc1=>?_
 ·have hk:k<xs.length:=Yd
  obtain⟨x,hx⟩:=cT xs k;refine aQ<|Za3<|Za1<|aA<|Za rfl<|Zf rfl<|aJ<|Za rfl<|Za rfl<|Za rfl<|dW rfl U37 mK rfl Ym rfl Yd Ym rfl bSM fun Y Z I O V R=>?_;obtain rfl:I=[qI _,qI _,qI _,qI _]:=O;refine Zv rfl OO rfl R mK<|Zd rfl (fun D1 U=>hf x _ (U _ Yf))<|aF<|Zaf rfl (fun hc2=>?_) fun hc2=>?_
  ·refine Wbf ?_;exact aE rfl fun D hD=>Xat
  ·refine Wbs ?_;have hpx:p x=false:=hc2;have h3:(xs.take (k+1)).any p=false:=by rw[bMZ,hx,bQK,h2];simp[hpx]
   exact aL 12 (k+1) ⟨Yd,h3⟩ Yd ⟨Ya,bSM⟩ rfl rfl Mm5 (aK)
 ·refine Wl ?_;exact aE rfl fun D hD=>Xan
theorem rY(sv fv:Γ)(xs:List Ch)(p:Ch→Bool)(D:aC)(hS:Sl D A3 4 sv xs)(hp:cX prog D bJW fv p):
  Fn prog 239 #[sv,fv] D (fun _ v=>v=.bool (xs.any p)):=by
 refine Zw 9 func239 rfl fun h0=>aA<|Zf rfl<|aJ<|Za rfl<|Za rfl<|Zd rfl (fun O I=>xN _ _ xs p _ (Sl.at A3.up I Ym Yf) (hp.up (I _ Yf)))<|Waa ?_;exact aE rfl fun D hD=>Xao
theorem GN(b:Nat)(fv:Γ)(p:Ch→Bool)(x:Ch)(D:aC)(hp:cX prog D bJW fv p)(hB:At D b 0 [fv]):
  Fn prog 240 #[bJW x,qP b] D (fun _ v=>v=.bool (!p x)):=by
 obtain⟨f,c1,c2,rfl,hf⟩:=hp;refine Zw 8 func240 rfl fun h0=>aA<|Zz rfl fun q1 E1 R I=>Zf rfl<|aJ<|Zh 0 rfl aXB rfl hB rfl<|Zv rfl OO rfl I mK<|Wz ?_;exact aE rfl fun D hD=>rfl
theorem NH(sv fv:Γ)(xs:List Ch)(p:Ch→Bool)(D:aC)(hS:Sl D A3 4 sv xs)(hp:cX prog D bJW fv p)(h1:fv.cells=#[fv]):
  Fn prog 170 #[sv,fv] D (fun _ v=>v=.bool (xs.all p)):=by
 refine Zw 9 func170 rfl fun h0=>aA<|tD (vs:=[fv]) rfl rfl h1 rfl bSM fun b O I hB=>Zf rfl<|aJ<|Za rfl<|Zay rfl<|Zd rfl (fun O I=>rY _ _ xs (fun x=> !p x) _ (Sl.at A3.up I Ym Yf) ⟨_,[],[qP b],rfl,fun x R hl=>GN b fv p x R (hp.up ((I _ Yf).trans hl)) (hB.up ((I _ Yf).trans hl))⟩)<|Zat rfl<|We ?_;exact aE rfl fun D hD=>Xau
theorem xK(sv fv:Γ)(xs:List (Int×Int))(p:(Int×Int)→Bool)(D:aC)(hS:Sl D R2 2 sv xs)(hp:cX prog D mH fv p):
  Fn prog 329 #[sv,fv] D (fun _ v=>v=qI (idxOf p xs)):=by
 have hl:=hS.len;obtain⟨f,c1,c2,rfl,hf⟩:=hp;refine Zw 19 func329 rfl fun h0=>aA<|Zf rfl<|bC<|Za rfl<|eE rfl U38 rfl Ym rfl rfl bSM<|Wd ?_;rintro k ⟨h1,h2⟩;refine aA<|Zan rfl<|bO<|Zae rfl (fun hc1=>?_) fun hc1=>?_
 ·have hk:k<xs.length:=Yd
  obtain⟨x,hx⟩:=cT xs k;refine aQ<|Za3<|Za1<|aA<|Za rfl<|Zf rfl<|aJ<|Za rfl<|Za rfl<|Za rfl<|dW rfl U38 dV rfl Ym rfl Yd Ym rfl bSM fun Y Z I O V R=>?_;obtain rfl:I=[qI _,qI _]:=O;refine Zv rfl rV rfl R dV<|Zd rfl (fun D1 U=>hf x _ (U _ Yf))<|aF<|Zaf rfl (fun hc2=>?_) fun hc2=>?_
  ·refine Wbf ?_;exact aE rfl fun D hD=>Xat
  ·refine Wbs ?_;have hpx:p x=false:=hc2;have h3:(xs.take (k+1)).any p=false:=by rw[bMZ,hx,bQK,h2];simp[hpx]
   exact aL 12 (k+1) ⟨Yd,h3⟩ Yd ⟨Ya,bSM⟩ rfl rfl Mm5 (aK)
 ·refine Wl ?_;exact aE rfl fun D hD=>Xan
theorem rJ(sv fv:Γ)(xs:List (Int×Int))(p:(Int×Int)→Bool)(D:aC)(hS:Sl D R2 2 sv xs)(hp:cX prog D mH fv p):
  Fn prog 242 #[sv,fv] D (fun _ v=>v=.bool (xs.any p)):=by
 refine Zw 9 func242 rfl fun h0=>aA<|Zf rfl<|aJ<|Za rfl<|Za rfl<|Zd rfl (fun O I=>xK _ _ xs p _ (Sl.at R2.up I Ym Yf) (hp.up (I _ Yf)))<|Waa ?_;exact aE rfl fun D hD=>Xao
theorem ET(b:Nat)(fv:Γ)(p:(Int×Int)→Bool)(x:(Int×Int))(D:aC)(hp:cX prog D mH fv p)(hB:At D b 0 [fv]):
  Fn prog 243 #[mH x,qP b] D (fun _ v=>v=.bool (!p x)):=by
 obtain⟨f,c1,c2,rfl,hf⟩:=hp;refine Zw 8 func243 rfl fun h0=>aA<|Zz rfl fun q1 E1 R I=>Zf rfl<|aJ<|Zh 0 rfl bBF rfl hB rfl<|Zv rfl rV rfl I dV<|Wz ?_;exact aE rfl fun D hD=>rfl
theorem OW(sv fv:Γ)(xs:List (Int×Int))(p:(Int×Int)→Bool)(D:aC)(hS:Sl D R2 2 sv xs)(hp:cX prog D mH fv p)(h1:fv.cells=#[fv]):
  Fn prog 172 #[sv,fv] D (fun _ v=>v=.bool (xs.all p)):=by
 refine Zw 9 func172 rfl fun h0=>aA<|tD (vs:=[fv]) rfl rfl h1 rfl bSM fun b O I hB=>Zf rfl<|aJ<|Za rfl<|Zay rfl<|Zd rfl (fun O I=>rJ _ _ xs (fun x=> !p x) _ (Sl.at R2.up I Ym Yf) ⟨_,[],[qP b],rfl,fun x R hl=>ET b fv p x R (hp.up ((I _ Yf).trans hl)) (hB.up ((I _ Yf).trans hl))⟩)<|Zat rfl<|We ?_;exact aE rfl fun D hD=>Xau
theorem EE(sv:Γ)(x:Int)(xs:List Int)(D:aC)(hS:Sl D RI 1 sv (x::xs)):
  Fn prog 250 #[sv] D (fun _ v=>v=qI (xs.foldl min x)):=by
 have hl:=hS.len;simp only[bMX]at hl;refine Zw 25 func250 rfl fun h0=>aA<|Zf rfl<|bC<|Za rfl<|eE rfl U25 rfl Ym rfl rfl bSM<|Zan rfl<|aF<|Zae rfl (fun hc1=>?_) fun hc1=>?_
 ·exact absurd hc1 (by simp only[bMX];omega)
 ·refine aQ<|aA<|Za rfl<|dW rfl U25 aH rfl Ym rfl Yd Ybb rfl bSM fun b1 o1 I O Z R=>?_;obtain rfl:I=[qI _]:=O;refine Wag ?_;rintro k h1;refine bZ<|Za rfl<|Za rfl<|eE rfl U25 rfl Ym rfl rfl bSM<|Zan rfl<|aF<|Zae rfl (fun hc2=>?_) (fun hc2=>?_)
  ·simp only[bMX]at hc2;have hk:k<xs.length:=Yd
   obtain⟨y,hy⟩:=cT xs k;have hE:(x::xs)[(k+1:Int).toNat]?= some y:=by rw[show((k:Int)+1).toNat=k+1 by omega];simpa using hy
   refine aQ<|Za3<|Za1<|aO<|Za rfl<|Za rfl<|Za rfl<|dW rfl U25 aH rfl Ym rfl Yd Ym rfl bSM fun b2 o2 U V hB Y=>?_;obtain rfl:U=[qI _]:=V;refine Zh 0 rfl aI rfl Y rfl<|NT rfl rfl rfl rfl bSM<|Wu ?_;have h3:(xs.take (k+1)).foldl min x=min ((xs.take k).foldl min x) y:=by rw[bMZ,hy,bOR];rfl
   exact Zn 16 (k+1) ⟨(by rw[h3];rfl),Ya,bSM⟩ rfl Mm5
  ·simp only[bMX]at hc2;refine Wm ?_;exact aE rfl fun D hD=>Xcm
theorem nD(sv:Γ)(x:Int)(xs:List Int)(D:aC)(hS:Sl D RI 1 sv (x::xs)):
  Fn prog 177 #[sv] D (fun _ v=>v=qI (xs.foldl min x)):=by
 refine Zw 5 func177 rfl fun h0=>Wav ?_;exact aE rfl fun D hD=>rfl
theorem bCM{p:Pt}:(p.l== [1,1,1])=iE p:=by
 obtain⟨a,b,c⟩:=p;simp only[iE,Pt.l,Pt.mk.injEq];rw[bPT];simp
theorem aRF{m k i:Nat}(hk:m.testBit k=true)(h1:i≤k)(h:((m >>> i:Nat):Int)%2=0):i+1≤k:=by
 rw[mN]at h;have:i≠k:=by rintro rfl;rw[hk]at h;simp at h
 omega
theorem aXG{m k i:Nat}(hl:∀i,i<k→m.testBit i=false)(h1:i≤k)(h:¬((m >>> i:Nat):Int)%2=0):i=k:=by
 rw[mN]at h;by_cases hi:i<k
 ·rw[hl i hi]at h;simp at h
 ·omega
theorem GG(r:Int×Int)(n:Int)(D:aC):Fn prog 249 #[mH r,qI n] D (fun _ v=>v=.bool (hC n r.1 r.2)):=by
 refine Zw 11 func249 rfl fun h0=>aA<|Zz rfl fun q1 E1 O I=>Zf rfl<|aJ<|Za rfl<|Zj rfl yS rfl<|Zh 0 rfl aI rfl I rfl<|Zj rfl yR rfl<|Zh 1 rfl aI rfl I rfl<|Zd rfl (fun U R=>fC _ _ _ _)<|Zf rfl ?_;refine aG ?_;exact aE rfl fun D hD=>rfl
theorem vD(r:Int×Int)(n:Int)(D:aC):Fn prog 89 #[mH r,qI n] D (fun _ v=>v=mH (min r.1 n,max r.2 n)):=by
 refine Zw 15 func89 rfl fun h0=>aA<|Zz rfl fun q1 E1 hB R=>Zah rfl nH rfl fun q2=>bO<|iZ [] 4 [0,1,2,5,6,7,8,3,4,9,10] [false,false,true,true,true,true,true,true,true,false,false] [(false,0),(false,1),(true,2),(true,5),(true,6),(true,7),(true,8),(true,3),(true,4),(false,9),(false,10)] bB (fun _ _ _ h=>fW (P:=prog) (fn:=f89) _ _ _ h) Yg rfl<|Zj rfl yS rfl<|Zh 0 rfl aI rfl R rfl<|Za rfl<|Zj rfl yR rfl<|Zh 1 rfl aI rfl R rfl<|Za rfl ?_;refine qW rfl rfl rfl rfl bSM<|Zt rfl U25 aH cE rfl (.cons rfl rfl (.cons rfl rfl .nil)) fun Y Z U I=>?_;have O:=Sl.ofInts (l:=[_,_]) (n:=2) (cap:=2) I rfl Yd Yd;refine Zd rfl (fun D1 V=>nD _ r.1 [n] _ (O.up RI.up (V _ Yf)))<|Zu [qI (min r.1 n),qI (max r.2 n)] rfl FI nH rfl<|Zab rfl dV ζ<|aG ?_;exact Zo [_] rfl ⟨⟨_,_,_,rfl,Mm0,Or.inr ⟨rV,Xbj,rfl⟩⟩,bSM⟩ fun D hD=>rfl
theorem aJE(n m:Int)(b:Nat)(D:aC)(hB:At D b 0 [qI m]):Fn prog 328 #[qI n,qP b] D (fun _ v=>v=.bool (hC n 0 m)):=by
 refine Zw 7 func328 rfl fun h0=>aA<|Zf rfl<|aJ<|Za rfl<|Zh 0 rfl aI rfl hB rfl<|Zd rfl (fun O I=>fC _ _ _ _)<|We ?_;exact aE rfl fun D hD=>rfl
theorem aVK(p:Pt)(m:Int)(D:aC):Fn prog 241 #[bKZ p,qI m] D (fun _ v=>v=.bool (TT p m)):=by
 refine Zw 8 func241 rfl fun h0=>aA<|Zz rfl fun q1 E1 U O=>Zz rfl fun V E2 Y R=>Zf rfl<|aJ<|aNZ rfl U210 aH rfl rfl bSM<|Zay rfl<|Zd rfl (fun D1 I=>d6 _ _ p.l (fun x=>hC x 0 m) _ (Sl.ofInts (l:=p.l) (n:=3) (cap:=3) (O.up (I _ Yf)) rfl Yd Yd) ⟨_,[],[_],rfl,fun x Z hl=>aJE x m V Z (R.up ((I _ Yf).trans hl))⟩ rfl)<|We ?_;exact aE rfl fun D hD=>rfl
theorem IR(c:Ch)(D:aC):Fn prog 171 #[bJW c] D (fun _ v=>v=.bool (kP c)):=by
 refine Zw 11 func171 rfl fun h0=>aA<|Zz rfl fun q1 E1 R I=>Zf rfl<|aJ<|Zj rfl s5 rfl<|Zh 0 rfl aI rfl I rfl<|Zd rfl (fun Y U=>fC _ _ _ _)<|Za rfl ?_;refine' bX 4 (s:=6) (p:=10) rfl (fun O=>?_) (fun O=>?_) ?_;rotate_left
 ·refine Zk rfl R1 rfl<|dX rfl (k:=1) rE oO rfl I Yc rfl rfl n4 rfl ⟨_,rfl,rfl⟩<|Ze rfl (fun Z V=>aVK c.parts 2 _)<|Zak rfl ?_;exact aN 3
 ·refine Wc ?_;exact aN 3
 refine We ?_;exact aE rfl fun D hD=>rfl
theorem aQW(yv:Γ)(y:bA)(r:Int×Int)(D:aC)(hy:iY D yv y):Fn prog 168 #[yv,mH r] D (fun _ v=>v=.bool (mJ r)):=by
 obtain⟨cv,qv,rfl,hc,hq⟩:=hy;refine Zw 20 func168 rfl fun h0=>aA<|Zz rfl fun q1 E1 U V=>Zz rfl fun Z E2 Y I=>Zf rfl<|aJ<|Zj rfl yS rfl<|Zh 0 rfl aI rfl I rfl<|Wcj ?_;refine' bX 6 (s:=8) (p:=14) rfl (fun O=>?_) (fun O=>?_) ?_;rotate_left
 ·refine Zk rfl yS rfl<|Zi 0 rfl aI rfl I rfl<|Zk rfl yR rfl<|Wbq ?_;exact aN 5
 ·refine Wo ?_;exact aN 5
 refine Za rfl ?_;refine' bX 4 (s:=15) (p:=19) rfl (fun R=>?_) (fun R=>?_) ?_;rotate_left
 ·refine Zk rfl yR rfl<|Wbq ?_;exact aN 3
 ·refine Wc ?_;exact aN 3
 refine We ?_;exact aE rfl fun D hD=>rfl
theorem zI(p:Pt)(D:aC):Fn prog 246 #[bKZ p] D (fun _ v=>v=.bool (iE p)):=by
 refine Zw 6 func246 rfl fun h0=>aA<|Zz rfl fun q1 E1 O I=>Zf rfl<|aJ<|cK rfl rE rfl I Yc Yae n4 rfl bSM<|M8 (cs:=[qI 1,qI 1,qI 1]) rfl U210 aH m7 rfl rfl rfl bSM<|aBF (l:=p.l) (m:=[1,1,1]) rfl Yg U210 U3 Yg rfl rfl rfl rfl rfl bSM<|We ?_;exact aE rfl fun D hD=>by show Value.bool _=_;rw[bCM]
theorem aMW(m k:Nat)(D:aC)(hk:m.testBit k=true)(I:k≤60)(hl:∀i,i<k→m.testBit i=false):Fn prog 330 #[qI (m:Int)] D (fun _ v=>v=qI (k:Int)):=by
 refine Zw 11 func330 rfl fun h0=>aA<|Zf rfl<|bO<|Za1<|bM (γ:=Nat) (fun i=>k-i) (fun i=>i≤k) (fun i=>[(2,qI (i:Int))]) [(0,_)] (fun i=>[D]) 0 Yd ⟨Ya,bSM⟩ ⟨rfl,bSM⟩ (aK) ?_;rintro i h1;refine bZ<|Za rfl<|Za rfl<|W2 rfl rfl rfl Yd rfl bSM<|sQ rfl rfl rfl (bRO _) Yd Xcp rfl bSM<|Zas rfl<|aF<|Zae rfl (fun hc1=>?_) fun hc1=>?_
 ·refine aQ<|Za1<|aO<|Za rfl<|Zad rfl<|Zf rfl<|Zao<|Za4 ?_;exact aL 9 (i+1) (aRF hk h1 hc1) (by have:=aRF hk h1 hc1;omega) ⟨Ya,bSM⟩ rfl rfl Mm5 (aK)
 ·obtain rfl:=aXG hl h1 hc1;refine Wm ?_;exact aE rfl fun D hD=>rfl
end L7
end Go.Fs
