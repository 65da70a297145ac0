/- Of BookReports. -/
import Derived.Test.YtmmdpkkcedmgoaaGreatDoorZBookReportsAB
import Derived.Maps.RangeRun
namespace Go.Fs
variable{P:Program}{X:Cx}{γb:Type}[Membership Nat γb]{H:γb}{G:Array Oper}{K:Act→Δ→Prop}{Q:Exit→Act→Δ→Prop}
variable{T:bZ}{L:aF}{W:List aC}{os:List (Bool×Nat)}{fl:Bool}{ix:Nat}
variable{d:Nat}{x y z:Operand}{u v:Γ}{ty:Θ}{pos:String}{aft:Array Edge}{g:Option (Nat×Bool)}
def OK{α:Type}(P:Program)(f:FuncId)(cap:List Γ)(Dr:aC)(xs:List α)(enc:Nat→List Γ→Prop)(cells:α→List Γ):Prop:=
 EF P f∧∀(lo l:Nat) (J Jx:List α→xL),(∀pre,k9 lo (J pre))→(∀pre,k9 lo (Jx pre))→
  (∀pre x β D w bo vs,(∃r,xs=pre++x::r)→Q3 lo D w→J pre β D w→(∀b∈β,b<w.heap.size)→Le Dr D→enc bo vs→QG β D w bo (cells x)→
   jS P l vs w λb D' w'=>Q3 lo D' w'∧O1 β D w D' w'∧(if b then J (pre++[x]) β D' w' else Jx (pre++[x]) β D' w'))→
  ∀D w,Q3 lo D w→Le Dr D→J [] [] D w→Calls P f (.func (.yield l) #[] #[]::cap).toArray w λe w'=>∃v D',e=.returned v∧Q3 lo D' w'∧(J xs [] D' w'∨∃pre,Jx pre [] D' w')
theorem x6{α γ:Type}{xs:List α}{enc:Nat→List Γ→Prop}{cells:α→List Γ}{Dr:aC}{f:FuncId}{cap:List Γ}{gop:Operand}{ps:Array Tmp}{assign body:Code}
  (Φ:List α→γ→Prop) (Ψ:List α→Code→γ→Prop) (M:γ→aF) (g₀:γ) (hr:X.r=none) (hex:X.ex=none) (hmods:∀g,∀k∈X.mods,k∈(M g).ks)
  (hg:ev T gop=some (.func (.func f) #[] cap.toArray)) (hit:OK P f cap Dr xs enc cells) (hDr:Dr∈W) (hps:∀b vs,enc b vs→vs.length=ps.size) (hpN:(ps.toList.all λp=>Nat.blt p X.N)=true) (h₀:Φ [] g₀) (hμ:M g₀=L)
  (hround:∀pre x g,(∃r,xs=pre++x::r)→Φ pre g→∀(l bd bo:Nat) (vs:List Γ) (rec:Loop) (h0:H0) (D:aC),(∀D₁∈W,Le D₁ D)→enc bo vs→At D bo 0 (cells x)→rec.state=.ready→rec.pending=none→
   WC P (Xr l X.N h0 D ((M g++(l,Obj.loop rec)::[(bd,Obj.deferred (some []))]).map (·.1)))
    (Exit.then (λa₁ w₁=>∃w₂,(Instr.beginRound l).run P w₁=.ok () w₂∧body.wpIn ((FW none).inRound l) 0 P (roundPost P l (P5 h0 D ((M g++(l,Obj.loop rec)::[(bd,Obj.deferred (some []))]).map (·.1)) (Φ (pre++[x])) (Ψ (pre++[x]))
     (λg=>M g++(l,Obj.loop {rec with state:=.ready,pending:=none})::[(bd,Obj.deferred (some []))]) λc g=>M g++(l,Obj.loop {rec with state:=.done,pending:=some c})::[(bd,Obj.deferred (some []))])) a₁ w₂) λ_ _ _=>False)
    assign (O0 ps.toList vs T) (M g++(l,Obj.loop rec)::[(bd,Obj.deferred (some []))]) (D::W))
  (hdone:∀g bd,Φ xs g→∀a w,Hl (X.withDs bd) T (M g++[(bd,Obj.deferred (some []))]) W a w→Q .normal a w)
  (hstop:∀pre c g bd,Ψ pre c g→WC P (X.withDs bd) Q c T (M g++[(bd,Obj.deferred (some []))]) W):WC P X Q (.rangeFunc gop ps assign body) T L W:=by
 intro a w hh;subst hμ;have hev:=hh.eval hg;obtain⟨h1,h2,h3,D,h4,h5,h6⟩:=hh;refine wpIn_rangeFunc λfn _=>?_
 have hround':(FW X.r).round=none:=hr;rw[hround'];have hmk:∀g (B:aF),∀k∈X.mods,k∈(M g++B).ks:=λg B k hk=>by
  show k∈(M g++B).map _;rw[ze];exact yw _ (hmods g k hk)
 let bd:=w.heap.size
 let l:=w.heap.size+1
 let I:Loop:={state:=.ready,pending:=none,fn,tmps:=a.tmps,params:=ps,assign,body,defers:=bd}
 let V:Δ:={w with heap:=w.heap.push (.deferred (some []))}
 let U:Δ:={V with heap:=V.heap.push (.loop I)}
 have Y:jH X.h0 X.lo X.D0 X.mods ((bd,Obj.deferred (some []))::M g₀) D V:=h4.push (.deferred (some [])) trivial;have O:jH X.h0 X.lo X.D0 X.mods ((l,Obj.loop I)::(bd,Obj.deferred (some []))::M g₀) D U:=by
  have:=Y.push (.loop I) trivial;have e:V.heap.size=l:=by simp[V,l]
  rw[e]at this;exact this
 have hperm:jH X.h0 X.lo X.D0 X.mods (M g₀++(l,Obj.loop I)::[(bd,Obj.deferred (some []))]) D U:=by
  refine O.sub (λp hp=>?_) ?_
  ·simp only[zd,zm,n4,yk]at hp ⊢
   rcases hp with hp|hp|hp
   ·exact zt (zt hp)
   ·exact zq hp
   ·exact zt (zq hp)
  ·have hn:=O.nd;simp only[yl,xg,zm,wn]at hn;simp only[ze,yl,tj,za,xg,zm,n4,yk,p_,wz,and_true];refine⟨hn.2.2,hn.1.1,λq hq r hr'=>?_⟩;rcases hr' with rfl|rfl
   ·rintro rfl;exact hn.1.2 hq
   ·rintro rfl;exact hn.2.1 hq
 refine⟨l,[pE bd],U,{target:=.fn (.func f) cap.toArray,args:=#[.func (.yield l) #[] #[]]},U,f,(.func (.yield l) #[] #[]::cap).toArray,U,run_enterLoop_outer fn a.tmps ps assign body,?_,λ_ _=>trivial,?_,λh=>vk,?_⟩
 ·simp only[resolve,Deferred.ofValue];have e:Array.map a.eval #[Operand.const (Value.func (Fn.yield l) #[] #[])]=#[.func (.yield l) #[] #[]]:=by simp[Act.eval]
  rw[e,hev];rfl
 ·simp only[invoke];rw[hit.1];simp
 ·refine eC.2 ((hit.2 X.lo l
   (λpre=>jx X.h0 X.lo X.D0 X.mods W (Φ pre) λg=>M g++(l,Obj.loop I)::[(bd,Obj.deferred (some []))])
   (λpre=>jx X.h0 X.lo X.D0 X.mods W (λcg:Code×γ=>Ψ pre cg.1 cg.2) λcg=>M cg.2++(l,Obj.loop {I with state:=.done,pending:=some cg.1})::[(bd,Obj.deferred (some []))])
   (λ_=>BG) (λ_=>BG) ?_ D U O.dom (h5 Dr hDr) ⟨g₀,h₀,hperm,h5,(λ_ h=>wg),(λ_ _ h=>wg),hmk g₀ _⟩).mono ?_)
  ·rintro pre x β Dx wx bo vs hx hdx ⟨g,hΦ,hst,hDs,hβ,hM,hmg⟩ hβs hle henc ⟨hbo,hbD,be,bfz,hbw⟩;have hbox:=(hst.box (l,Obj.loop I) Yf).1;refine⟨fn,_,assign,body,run_yield hbox (by simpa using hps bo vs henc),?_⟩;refine(roundIn_of_wpIn (F:=FW none) zy (R:=P5 (hd wx) (jD Dx bo (cells x)) ((M g++(l,Obj.loop I)::[(bd,Obj.deferred (some []))]).map (·.1)) (Φ (pre++[x])) (Ψ (pre++[x]))
     (λg=>M g++(l,Obj.loop {I with state:=.ready,pending:=none})::[(bd,Obj.deferred (some []))]) λc g=>M g++(l,Obj.loop {I with state:=.done,pending:=some c})::[(bd,Obj.deferred (some []))]) ?_).mono ?_
   ·have hw:=hround pre x g hx hΦ l bd bo vs I (hd wx) (jD Dx bo (cells x)) (λD₁ h=>(hDs D₁ h).trans (n9 hbD (hst.agr.ne0 hbD))) henc (XL _ _ _) C C;have ht:(ps.zip vs.toArray).foldl (λtmps (t,a)=>tmps.setIfInBounds t a) a.tmps=(ps.toList.zip vs).foldl (λtmps (p:Tmp×Γ)=>tmps.setIfInBounds p.1 p.2) a.tmps:=by
     rw[←Array.foldl_toList];simp
    have hpN':∀p∈ps.toList,p<a.tmps.size:=λp hp=>by rw[h1];simpa [Nat.blt_eq]using yu.1 hpN p hp
    refine hw {tmps:=_,defers:=[]} wx ⟨?_,λs v hs=>?_,C,jD Dx bo (cells x),⟨zk _,zk _,λ_ _ _=>C,λ_ _=>C,OS hst.agr hbw hbD,λp hp=>?_,hst.nd,hst.fz,λe he=>yi he⟩,λD₁ hD₁=>?_,zy⟩
    ·show((ps.zip vs.toArray).foldl _ a.tmps).size=X.N;rw[ht,u7];exact h1
    ·show((ps.zip vs.toArray).foldl _ a.tmps)[s]?= some v;rw[ht];exact s5 _ _ _ _ h2 hpN' s v hs
    ·obtain⟨p1,p2,p3⟩:=hst.box p hp;exact⟨p1,af,zt (n5.2 ⟨p,hp,C⟩)⟩
    ·rcases zm.1 hD₁ with rfl|hD₁
     ·exact Le.refl _
     ·exact(hDs D₁ hD₁).trans (n9 hbD (hst.agr.ne0 hbD))
   ·rintro e w' ⟨b,D',rfl,hb⟩;have fin:∀μ',jH (hd wx) wx.heap.size (jD Dx bo (cells x)) ((M g++(l,Obj.loop I)::[(bd,Obj.deferred (some []))]).map (·.1)) μ' D' w'→jH X.h0 X.lo X.D0 X.mods μ' (jD D' bo []) w'∧O1 β Dx wx (jD D' bo []) w'∧(∀D₁∈W,Le D₁ (jD D' bo []))∧(∀p∈μ',p.1∉β):=by
     intro μ' Z;have hs':=Z.hide hbD (hst.agr.ne0 hbD);refine⟨hst.roundM hmg hs',jH.roundHigh hst.agr hs' hβs hM,λD₁ hD₁=>(hDs D₁ hD₁).trans (iJ hst.agr hs'),λp hp hpb=>?_⟩;rcases(hs'.box p hp).2.2 with h|h
     ·have:=hβs _ hpb;omega
     ·obtain⟨q,hq,he⟩:=n5.1 h;exact hM q hq (by rw[he];exact hpb)
    refine⟨b,jD D' bo [],C,?_⟩;cases b with
    |true=>
     obtain⟨g',hg',hs'⟩:=hb;obtain⟨f1,f2,f3,f4⟩:=fin _ hs';exact⟨f1.dom,f2,g',hg',f1,f3,hβ,f4,hmk g' _⟩
    |false=>
     obtain⟨c',g',hg',hs'⟩:=hb;obtain⟨f1,f2,f3,f4⟩:=fin _ hs';exact⟨f1.dom,f2,(c',g'),hg',f1,f3,hβ,f4,hmk g' _⟩
  ·rintro e w' ⟨v,D',rfl,hd,hend⟩;have post:∀(g:γ) (r:Loop),jH X.h0 X.lo X.D0 X.mods (M g++(l,Obj.loop r)::[(bd,Obj.deferred (some []))]) D' w'→(∀D₁∈W,Le D₁ D')→
     Hl (X.withDs bd) T (M g++[(bd,Obj.deferred (some []))]) W {a with defers:=[pE bd]++a.defers} (w'.putObj l (.loop {r with state:=.exhausted})):=by
    intro g r hs hD';have hHas:bO (M g++(l,Obj.loop r)::[(bd,Obj.deferred (some []))]) l (.loop r) (.loop {r with state:=.exhausted}) (M g++(l,Obj.loop {r with state:=.exhausted})::[(bd,Obj.deferred (some []))]):=.app .head;have hs':=hs.set (w':=w'.putObj l (.loop {r with state:=.exhausted})) hHas ⟨C,C⟩ trivial;have hs'':=hs'.sub (μ':=M g++[(bd,Obj.deferred (some []))]) (λp hp=>by
     rcases zd.1 hp with hp|hp
     ·exact yw _ hp
     ·exact LT _ (GT _ hp)) (by
     have hn:=hs'.nd;rw[ze,za]at hn ⊢
     simp only[yl]at hn;exact⟨hn.1,(xg.1 hn.2.1).2,λq hq r hr=>hn.2.2 q hq r (GT _ hr)⟩)
    exact⟨h1,h2,zn (pE bd:: ·) h3,D',hs'',hD',fw⟩
   rcases hend with⟨g,hΦ,hs,hDs,_,_,_⟩|⟨pre,⟨c,g⟩,hΨ,hs,hDs,_,_,_⟩
   ·have hb:=(hs.box (l,Obj.loop I) Yf).1;exact⟨none,_,run_endLoop hb (by simp[I]),hdone g bd hΦ _ _ (post g I hs hDs)⟩
   ·have hb:=(hs.box (l,Obj.loop {I with state:=.done,pending:=some c}) Yf).1;refine⟨some c,_,run_endLoop hb Yf,?_⟩;have:=hstop pre c g bd hΨ _ _ (post g _ hs hDs);exact this
theorem KR{α:Type}{f:FuncId}{fn:Func}{c:Code}{cap:List Γ}{Dr:aC}{xs:List α}{enc:Nat→List Γ→Prop}{cells:α→List Γ}(N:Nat)(hf:P.funcs[f]?= some fn)(hn:(fn.name== "runtime.NumGoroutine")=false)(hb:fn.body=some c)(hN:fn.ntmps=N)(hsz:Nat.ble (cap.length+1) N=true)
  (h:∀(lo l:Nat) (J Jx:List α→xL),(∀pre,k9 lo (J pre))→(∀pre,k9 lo (Jx pre))→
   (∀pre x β D w bo vs,(∃r,xs=pre++x::r)→Q3 lo D w→J pre β D w→(∀b∈β,b<w.heap.size)→Le Dr D→enc bo vs→QG β D w bo (cells x)→
    jS P l vs w λb D' w'=>Q3 lo D' w'∧O1 β D w D' w'∧(if b then J (pre++[x]) β D' w' else Jx (pre++[x]) β D' w'))→
   WC P (Xj N lo (J [])) (bodyPost P fn (ES lo [Dr] λ_ J' _=>J'=J xs∨∃pre,J'=Jx pre)) c (kA 0 (.func (.yield l) #[] #[]::cap)) [] [Dr]):OK P f cap Dr xs enc cells:=by
 refine⟨EF.of hf hn hb,λlo l J Jx hs hsx hY D w hd hle hJ=>?_⟩;have hF:=j4 (L:=[]) N hf hn hb hN (by simpa using hsz) (h lo l J Jx hs hsx hY);refine(hF.2 w ⟨D,⟨ra _,hd.2,λb hb=>absurd hb (pg _),λb hb=>absurd hb (pg _),hd.1,Yi,wz,Yi,λe he=>by cases he⟩,λD₁ h1=>?_,hs [],hJ⟩).mono ?_
 ·simp only[yf]at h1;subst h1;exact hle
 ·rintro e w' ⟨v,J',μ',rfl,⟨D',hst,hds,hex⟩,hpost⟩;refine⟨v,D',C,hst.dom,?_⟩;have hJ':J' [] D' w':=hex.1.own _ [] D' w' hex.2 (λb hb=>by cases hb);rcases hpost with rfl|⟨pre,rfl⟩
  ·exact zq hJ'
  ·exact zt ⟨pre,hJ'⟩
theorem Hl.subB{μ':aF}{a:Act}{w:Δ}(h:Hl X T L W a w)(hμ:μ'.Sublist L):Hl X T μ' W a w:=by
 obtain⟨g1,g2,g3,D,h4,h5,I⟩:=h;exact⟨g1,g2,g3,D,h4.sub (λp hp=>hμ.subset hp) (h4.nd.sublist (hμ.map _)),h5,I.step (λ_ p hp=>zq (n5.2 ⟨p,hμ.subset hp,C⟩)) (λ_=>sd.refl _ _ _) h4.dom⟩
theorem Xbt{c:Code}{μ':aF}(hμ:μ'.Sublist L)(h:WC P X Q c T μ' W):WC P X Q c T L W:=λa w hh=>h a w (hh.subB hμ)
theorem HB{μ':aF}(hμ:μ'.Sublist L)(h:WL P X H G K Q os T μ' W):WL P X H G K Q os T L W:=λa w hh=>h a w (hh.subB hμ)
theorem Hl.perm{μ':aF}{a:Act}{w:Δ}(h:Hl X T L W a w)(h1:∀r∈μ',r∈L)(h2:(L.map (·.1)).Nodup→(μ'.map (·.1)).Nodup):Hl X T μ' W a w:=by
 obtain⟨g1,g2,g3,D,h4,h5,I⟩:=h;exact⟨g1,g2,g3,D,h4.sub h1 (h2 h4.nd),h5,I.step (λ_ r hr=>zq (n5.2 ⟨r,h1 r hr,C⟩)) (λ_=>sd.refl _ _ _) h4.dom⟩
theorem yD{K':Act→Δ→Prop}(h:∀a w,Hl X T L W a w→K' a w):∀a w,Hl X T L W a w→(Exit.then K' Q) .normal a w:=h
theorem RQ{c c':Code}{γ:Type}(I:γ→Prop)(S:γ→bZ)(M:γ→aF)(E:γ→List aC)(h1:WC P X (Exit.then (λa w=>∃g,I g∧Hl X (S g) (M g) (E g) a w) Q) c T L W)(h2:∀g,I g→WC P X Q c' (S g) (M g) (E g)):WC P X Q (.seq c c') T L W:=
 λa w hh=>wpIn_seq (wpIn_mono (h1 a w hh) λe a w he=>by
  cases e with
  |normal=>obtain⟨g,hg,h⟩:=he;exact h2 g hg a w h
  |_=>exact he)
def pV(v:Γ):List PanicEntry:=[{v,recovered:=false}]
def lA(P:Program)(f:FuncId)(args:List Γ)(D:aC)(ν:aF)(post:aC→Γ→aF→Prop)(pan:Γ→Prop):Prop:=
 EF P f∧∀w,gI D w→(∀p∈ν,w.heap[p.1]?= some p.2∧D p.1=[]∧dH p.2)→ν.ks.Nodup→Calls P f args.toArray w λe w'=>
  (∃v D' ν',e=.returned v∧jH (hd w) w.heap.size D ν.ks ν' D' w'∧post D' v ν')∨(∃v D',e=.panicked (pV v)∧jH (hd w) w.heap.size D ν.ks [] D' w'∧pan v)
theorem jH.afterG{h0:H0}{lo:Nat}{D0 D D':aC}{mods:List Nat}{A B ν ν':aF}{w w':Δ}(h:jH h0 lo D0 mods (A++ν++B) D w)(hs:jH (hd w) w.heap.size D ν.ks ν' D' w'):jH h0 lo D0 mods (A++ν'++B) D' w':=by
 have hle:=xj h.hlo h.size;have hin:∀c∈ν.ks,∃o,(c,o)∈ν:=λc hc=>by
  obtain⟨p,hp,rfl⟩:=n5.1 hc;exact⟨p.2,hp⟩
 have hbx:∀p∈ν,_:=λp hp=>h.box p (yw _ (LT _ hp))
 have hnd:=h.nd;simp only[ze]at hnd;have hA:∀p∈A,p.1∉ν.ks∧p.1<w.heap.size:=λp hp=>⟨λhm=>(za.1 (za.1 hnd).1).2.2 p.1 (n5.2 ⟨p,hp,C⟩) p.1 hm C,bR (h.box p (yw _ (yw _ hp))).1⟩
 have hB:∀p∈B,p.1∉ν.ks∧p.1<w.heap.size:=λp hp=>⟨λhm=>(za.1 hnd).2.2 p.1 (LT _ hm) p.1 (n5.2 ⟨p,hp,C⟩) C,bR (h.box p (LT _ hp)).1⟩
 have hN:∀p∈ν',p.1∈ν.ks∨w.heap.size≤p.1:=λp hp=>((hs.box p hp).2.2).symm
 refine⟨h.hlo,xj h.size hs.size,λc hc hm=>?_,λc hc=>?_,hs.agr,λp hp=>?_,?_,λp hp=>?_,λe he=>(hs.env _ C).trans (h.env e he)⟩
 ·have hne:c∉ν.ks:=by
   intro hcm;obtain⟨o,ho⟩:=hin c hcm;rcases(hbx _ ho).2.2 with h'|h'
   ·have:=h.hlo;simp at h';omega
   ·exact hm h'
  rw[hs.old c (vc hc hle) hne];exact h.old c hc hm
 ·rw[hs.dold c (vc hc hle)];exact h.dold c hc
 ·rcases zd.1 hp with hp|hp
  ·rcases zd.1 hp with hp|hp
   ·obtain⟨h1,h2,h3⟩:=h.box p (yw _ (yw _ hp));obtain⟨hne,hl⟩:=hA p hp;exact⟨jf,l1,h3⟩
   ·obtain⟨O,R,I⟩:=hs.box p hp;refine⟨O,R,?_⟩;rcases I with I|I
    ·exact zq (xj h.size I)
    ·obtain⟨o,ho⟩:=hin p.1 I;exact(hbx _ ho).2.2
  ·obtain⟨h1,h2,h3⟩:=h.box p (LT _ hp);obtain⟨hne,hl⟩:=hB p hp;exact⟨jf,l1,h3⟩
 ·simp only[ze];rw[za,za];refine⟨⟨(za.1 (za.1 hnd).1).1,hs.nd,λa ha b hb e=>?_⟩,(za.1 hnd).2.1,λa ha b hb e=>?_⟩
  ·obtain⟨p,hp,rfl⟩:=n5.1 ha;obtain⟨q,hq,rfl⟩:=n5.1 hb;obtain⟨h1,h2⟩:=hA p hp;rcases hN q hq with h3|h3
   ·exact h1 (e▸h3)
   ·omega
  ·rcases zd.1 ha with ha|ha
   ·exact(za.1 hnd).2.2 a (yw _ ha) b hb e
   ·obtain⟨p,hp,rfl⟩:=n5.1 ha;obtain⟨q,hq,rfl⟩:=n5.1 hb;obtain⟨h1,h2⟩:=hB q hq;rcases hN p hp with h3|h3
    ·exact h1 (e▸h3)
    ·omega
 ·rcases zd.1 hp with hp|hp
  ·rcases zd.1 hp with hp|hp
   ·exact h.fz p (yw _ (yw _ hp))
   ·exact hs.fz p hp
  ·exact h.fz p (LT _ hp)
theorem o6{c:Operand}{xs:Array Operand}{ats:Array Θ}{f:FuncId}{c1 c2:List Γ}{vs:List Γ}{A B ν:aF}{post:aC→Γ→aF→Prop}{pan:Γ→Prop}(ho:G[ix]?= some ⟨some d,.call {callee:=.value c,args:=xs,argTypes:=ats},ty,pos,aft,g⟩)(hc:ev T c=some (.func (.func f) c1.toArray c2.toArray))(hxs:CM T xs.toList=some vs)
  (hex:X.ex=none) (hfl:fl=false∨∀p∈ν,p.1∈H) (hu:∀p∈ν,dH p.2) (hf:∀D,(∀D₁∈W,Le D₁ D)→lA P f (c1++vs++c2) D ν post pan) (hN:Nat.blt d X.N=true) (hg:dF G T g)
  (kp:∀v D,(∀D₁∈W,Le D₁ D)→pan v→∀a w,Hl X T (A++B) (D::W) a w→Q (.panic (pV v)) a w)
  (kk:∀v D ν',(∀D₁∈W,Le D₁ D)→post D v ν'→WL P X H G K Q os ((d,v)::T) (A++ν'++B) (D::W)):
  WL P X H G K Q ((fl,ix)::os) T (A++ν++B) W:=by
 refine fW ho C C hg λa w hh=>?_
 obtain⟨h1,h2,h3,D,h4,h5,h6⟩:=id hh;have hF:=hf D h5;have hbx:∀p∈ν,_:=λp hp=>h4.box p (yw _ (LT _ hp))
 have hnd:=h4.nd;simp only[ze]at hnd;rw[zR hF.1 (hh.eval hc) (mY (λ_ _ hx=>hh.eval hx) hxs)];refine⟨λh=>vk,eC.2 ((hF.2 w h4.agr (λp hp=>⟨(hbx p hp).1,(hbx p hp).2.1,hu p hp⟩) (za.1 (za.1 hnd).1).2.1).mono ?_)⟩;rintro e w' (⟨v,D',ν',rfl,hs,hpost⟩|⟨v,D',rfl,hs,hpan⟩)
 ·have hle:=iJ h4.agr hs;refine⟨λhflt=>⟨hs.size,λc hc hcb=>hs.old c hc λhm=>?_⟩,kk v D' ν' (λD₁ hD₁=>(h5 D₁ hD₁).trans hle) hpost _ _ ?_⟩
  ·obtain⟨p,hp,rfl⟩:=n5.1 hm;rcases hfl with h|h
   ·rw[hflt]at h;cases h
   ·exact hcb (h p hp)
  ·refine Hl.put ⟨h1,h2,h3,D',h4.afterG hs,λD₁ hD₁=>?_,kw⟩ hN v;rcases zm.1 hD₁ with rfl|hD₁
   ·exact Le.refl _
   ·exact(h5 D₁ hD₁).trans hle
 ·have hle:=iJ h4.agr hs;have h7:=h4.afterG hs;rw[yr]at h7;exact kp v D' (λD₁ hD₁=>(h5 D₁ hD₁).trans hle) hpan a w' ⟨h1,h2,h3,D',h7,λD₁ hD₁=>by
   rcases zm.1 hD₁ with rfl|hD₁
   ·exact Le.refl _
   ·exact(h5 D₁ hD₁).trans hle,kw⟩
theorem _root_.Go.Fs.Zm{c:Operand}{xs:Array Operand}{ats:Array Θ}{f:FuncId}{c1:List Γ}{c2:List Γ}{vs:List Γ}(A:aF)(B:aF)(ν:aF){post:aC→Γ→aF→Prop}{pan:Γ→Prop}(e9:(G[ix]?,ev T c,CM T xs.toList,X.ex)=(some ⟨some d,.call {callee:=.value c,args:=xs,argTypes:=ats},ty,pos,aft,g⟩,some (.func (.func f) c1.toArray c2.toArray),some vs,none))(hfl:fl=false∨∀p∈ν,p.1∈H)(hf:∀D,(∀D₁∈W,Le D₁ D)→lA P f (c1++vs++c2) D ν post pan)(kp:∀v D,(∀D₁∈W,Le D₁ D)→pan v→∀a w,Hl X T (A++B) (D::W) a w→Q (.panic (pV v)) a w)(kk:∀v D ν',(∀D₁∈W,Le D₁ D)→post D v ν'→WL P X H G K Q os ((d,v)::T) (A++ν'++B) (D::W))(hu:∀p∈ν,dH p.2:=by exact Yi)(hN:Nat.blt d X.N=true:=by exact C)(hg:dF G T g:=by exact zy):WL P X H G K Q ((fl,ix)::os) T (A++ν++B) W:=o6 (A:=A) (B:=B) (ν:=ν) (zn (λz=>z.1) e9) (zn (λz=>z.2.1) e9) (zn (λz=>z.2.2.1) e9) (zn (λz=>z.2.2.2) e9) hfl hu hf hN hg kp kk
theorem _root_.Go.Fs.Zn{c:Operand}{xs:Array Operand}{ats:Array Θ}{f:FuncId}{c1:List Γ}{c2:List Γ}{vs:List Γ}(A:aF)(B:aF)(ν:aF){post:aC→Γ→aF→Prop}{pan:Γ→Prop}(e9:(G[ix]?,ev T c,CM T xs.toList,X.ex)=(some ⟨some d,.call {callee:=.value c,args:=xs,argTypes:=ats},ty,pos,aft,g⟩,some (.func (.func f) c1.toArray c2.toArray),some vs,none))(hu:∀p∈ν,dH p.2)(hf:∀D,(∀D₁∈W,Le D₁ D)→lA P f (c1++vs++c2) D ν post pan)(kp:∀v D,(∀D₁∈W,Le D₁ D)→pan v→∀a w,Hl X T (A++B) (D::W) a w→Q (.panic (pV v)) a w)(kk:∀v D ν',(∀D₁∈W,Le D₁ D)→post D v ν'→WL P X H G K Q os ((d,v)::T) (A++ν'++B) (D::W))(hfl:fl=false∨∀p∈ν,p.1∈H:=by exact(zq C))(hN:Nat.blt d X.N=true:=by exact C)(hg:dF G T g:=by exact zy):WL P X H G K Q ((fl,ix)::os) T (A++ν++B) W:=o6 (A:=A) (B:=B) (ν:=ν) (zn (λz=>z.1) e9) (zn (λz=>z.2.1) e9) (zn (λz=>z.2.2.1) e9) (zn (λz=>z.2.2.2) e9) hfl hu hf hN hg kp kk

def EX(X:Cx)(post:aC→Γ→aF→Prop)(pan:Γ→Prop):Ending→Δ→Prop:=λe w'=>
 (∃v D' ν',e=.returned v∧jH X.h0 X.lo X.D0 X.mods ν' D' w'∧post D' v ν')∨(∃v D',e=.panicked (pV v)∧jH X.h0 X.lo X.D0 X.mods [] D' w'∧pan v)
theorem Td{fn:Func}{R:Ending→Δ→Prop}:PI (bodyPost P fn R):=λ_ _ _ _ he h=>⟨he.trans h.1,h.2⟩
theorem eR{f:FuncId}{fn:Func}{c:Code}{args:List Γ}{D:aC}{ν:aF}{post:aC→Γ→aF→Prop}{pan:Γ→Prop}(N:Nat)(hf:P.funcs[f]?= some fn)(hn:(fn.name== "runtime.NumGoroutine")=false)(hb:fn.body=some c)(hN:fn.ntmps=N)(hsz:Nat.ble args.length N=true)
  (h:∀h0:H0,(∀p∈ν,p.1<h0.size)→ν.ks.Nodup→WC P (tX N h0 D ν.ks) (bodyPost P fn (EX (tX N h0 D ν.ks) post pan)) c (kA 0 args) ν [D]):lA P f args D ν post pan:=by
 refine⟨EF.of hf hn hb,λw hw hν hnd=>?_⟩;subst hN;have hsz:=vf hsz;refine(eC (r:=none) (n:=0)).1 ((callsIn_of_wp (R:=EX (tX fn.ntmps (hd w) D ν.ks) post pan) hf hb zy (h (hd w) (λp hp=>bR (hν p hp).1) hnd _ w ⟨?_,λs v hs=>?_,C,D,⟨zk _,zk _,λ_ _ _=>C,λ_ _=>C,hw,(λp hp=>?_),hnd,(λp hp=>(hν p hp).2.2),λe he=>yi he⟩,λD₁ h1=>?_,zy⟩) C).mono ?_)
 ·simp[tX];omega
 ·obtain⟨_,h2⟩:=gV args 0 s v hs;have hl:=(yx.1 h2).1;simp only[uw]at h2 hl;show(args.toArray++_)[s]?= some v;rw[sb uu];simpa using h2
 ·exact⟨(hν p hp).1,(hν p hp).2.1,zt (n5.2 ⟨p,hp,C⟩)⟩
 ·simp only[yf]at h1;subst h1;exact Le.refl _
 ·rintro e w' (⟨v,D',ν',rfl,hs,hp⟩|⟨v,D',rfl,hs,hp⟩)
  ·exact zq ⟨v,D',ν',C,hs,hp⟩
  ·exact zt ⟨v,D',C,hs,hp⟩
theorem O8{fn:Func}{A B ν':aF}{post:aC→Γ→aF→Prop}{pan:Γ→Prop}{e:Exit}(he:(match e with|.normal=>true|.ret=>true|_=>false)=true){rs:List ResultVar}{vs:List Γ}(hds:X.ds=[])(hr:fn.results=rs.toArray)(h:N3 P X T (A++ν'++B) rs vs)
  (hp:∀D,(∀D₁∈W,Le D₁ D)→post D (sR vs) ν'):∀a w,Hl X T (A++ν'++B) W a w→bodyPost P fn (EX X post pan) e a w:=by
 intro a w hh;have hrun:=jP hh hr h;obtain⟨h1,h2,h3,D,h4,h5,I⟩:=hh;have hnd:=h4.nd;simp only[ze]at hnd;have:a.defers=[]∧∃v,(results fn a.tmps).run P w=.ok v w∧EX X post pan (.returned v) w:=⟨h3.trans hds,_,hrun,zq ⟨_,D,ν',C,h4.sub (λp hp=>yw _ (LT _ hp)) (za.1 (za.1 hnd).1).2.1,hp D h5⟩⟩
 cases e<;>first|exact this|cases he
theorem eO{fn:Func}{post:aC→Γ→aF→Prop}{pan:Γ→Prop}{e:Exit}(I:((match e with|.normal=>true|.ret=>true|_=>false),X.ds,fn.results)=(true,[],#[]))
  (hp:∀D,(∀D₁∈W,Le D₁ D)→post D (sR []) L):∀a w,Hl X T L W a w→bodyPost P fn (EX X post pan) e a w:=λa w hh=>
 O8 (A:=[]) (ν':=L) (B:=[]) (rs:=[]) (vs:=[]) (zn (λz=>z.1) I) (zn (λz=>z.2.1) I) (zn (λz=>z.2.2) I) zy hp a w (hh.boxesEq (yr _).symm)
theorem bJ{fn:Func}{post:aC→Γ→aF→Prop}{pan:Γ→Prop}{e:Exit}{t:Nat}{v:Γ}(I:((match e with|.normal=>true|.ret=>true|_=>false),X.ds,fn.results,look T t)=(true,[],#[.tmp t],some v))
  (hp:∀D,(∀D₁∈W,Le D₁ D)→post D (sR [v]) L):∀a w,Hl X T L W a w→bodyPost P fn (EX X post pan) e a w:=λa w hh=>
 O8 (A:=[]) (ν':=L) (B:=[]) (rs:=[.tmp t]) (vs:=[v]) (zn (λz=>z.1) I) (zn (λz=>z.2.1) I) (zn (λz=>z.2.2.1) I) ⟨zn (λz=>z.2.2.2) I,zy⟩ hp a w (hh.boxesEq (yr _).symm)
theorem dC{fn:Func}{post:aC→Γ→aF→Prop}{pan:Γ→Prop}{v:Γ}(hds:X.ds=[])(hp:pan v):∀a w,Hl X T L W a w→bodyPost P fn (EX X post pan) (.panic (pV v)) a w:=by
 rintro a w ⟨h1,h2,h3,D,h4,h5,I⟩;exact⟨h3.trans hds,zt ⟨v,D,C,h4.sub Yi wz,hp⟩⟩
theorem Wbc{t:Θ}{fs:Array Field}(ho:G[ix]?= some ⟨some d,.makeInterface t x,ty,pos,aft,g⟩)(ht:P.underlying t=some (.struct fs))(hx:ev T x=some v)(hN:Nat.blt d X.N=true)(hg:dF G T g)(k:WL P X H G K Q os ((d,.iface t v)::T) L W):WL P X H G K Q ((fl,ix)::os) T L W:=
 cB ho C C hN hg (λρ hρ w'=>by
  simp only[execOp,hρ x _ hx];unfold Instr.makeInterface;rw[Ω,Ω,TU.of ht w'];rfl) k
theorem aBC{t:Θ}{v:Γ}(ho:G[ix]?= some ⟨none,.panic x,ty,pos,aft,g⟩)(hx:ev T x=some (.iface t v))(hg:dF G T g)(k:∀a w,Hl X T L W a w→Q (.panic (pV (.iface t v))) a w):WL P X H G K Q ((fl,ix)::os) T L W:=by
 refine fW ho C C hg λa w hh=>?_
 have e:(execOp a.eval ⟨none,.panic x,ty,pos,aft,g⟩).run P w=.halt (.panic (.iface t v)) w:=by
  simp only[execOp,hh.eval hx,Instr.panic];rfl
 rw[e];exact k a w hh
theorem iT{D:aC}{b:Nat}{l:List Bool}{R:Rd Bool}(hR:∀D x cs,cs=[Value.bool x]→R D x cs)(hA:At D b 0 (l.map Value.bool))(hl:l.length≤1000):Sl D R 1 (qS b l.length l.length) l:=by
 refine⟨_,_,C,zk _,Yd,zt ⟨b,0,C,λi x hi=>⟨_,hR _ _ _ C,C,λj v hj=>?_⟩⟩⟩;cases j with
 |zero=>
  obtain rfl:Value.bool x=v:=qd
  have h:=hA i (.bool x) (by rw[xt,hi];rfl);simpa using h
 |succ j=>simp at hj
theorem lA.frame{f:FuncId}{args:List Γ}{D:aC}{ν A B:aF}{post post':aC→Γ→aF→Prop}{pan:Γ→Prop}(h:lA P f args D ν post pan)(h1:∀D' v ν',Le D D'→post D' v ν'→post' D' v (A++ν'++B)):lA P f args D (A++ν++B) post' pan:=by
 refine⟨h.1,λw hw hν hn=>?_⟩;have hnd:=hn;unfold aF.ks at hnd;simp only[ze]at hnd;refine(h.2 w hw (λp hp=>hν p (yw _ (LT _ hp))) (za.1 (za.1 hnd).1).2.1).mono ?_;have hst:jH (hd w) w.heap.size D (A++ν++B).ks (A++ν++B) D w:=by
  refine⟨zk _,zk _,λ_ _ _=>C,λ_ _=>C,hw,λp hp=>⟨(hν p hp).1,(hν p hp).2.1,zt (n5.2 ⟨p,hp,C⟩)⟩,hn,(λp hp=>(hν p hp).2.2),λe he=>yi he⟩
 rintro e w' (⟨v,D',ν',he,hs,hp⟩|⟨v,D',he,hs,hp⟩)
 ·exact zq ⟨v,D',A++ν'++B,he,hst.afterG hs,h1 _ _ _ (iJ hw hs) hp⟩
 ·have I:=hst.afterG hs;exact zt ⟨v,D',he,I.sub Yi wz,hp⟩
theorem Rv{t e tr:Θ}{a:Option Addr}{n c:Nat}{ats:Array Θ}(ho:G[ix]?= some ⟨some d,.call {callee:=.builtin .len,args:=#[x],argTypes:=ats},tr,pos,aft,g⟩)(ht:P.underlying t=some (.slice e))(hx:ev T x=some v)(hv:v=.slice a n c)(h0:ats[0]?= some t)
  (hN:Nat.blt d X.N=true) (hg:dF G T g) (kk:WL P X H G K Q os ((d,qI (n:Int))::T) L W):WL P X H G K Q ((fl,ix)::os) T L W:=by
 subst hv;exact nB ho ht hx h0 hN hg kk
theorem kS{t tr:Θ}{b:Λ}{ats:Array Θ}(ho:G[ix]?= some ⟨some d,.call {callee:=.builtin .len,args:=#[x],argTypes:=ats},tr,pos,aft,g⟩)(ht:P.underlying t=some .string)(hx:ev T x=some (.string b))(hat:ats[0]?= some t)
  (hN:Nat.blt d X.N=true) (hg:dF G T g) (kk:WL P X H G K Q os ((d,qI (b.size:Int))::T) L W):WL P X H G K Q ((fl,ix)::os) T L W:=
 cB ho C C hN hg (λρ hρ w'=>by
  have hx':=hρ x _ hx;simp[Builtin.len_,hat,hx',TU.of ht w',goInt,go_sem]) kk
namespace C12
structure aO where
 row:C1.dG
 table:C2.bA
 book:C3.aU
 yard:C7.aS
end C12
open C12
def RB:Rd Bool:=λ_ b cs=>cs=[.bool b]
theorem RB.up:RB.Up:=λ_ _ _ h=>h
def RS:Rd Λ:=λ_ b cs=>cs=[.string b]
theorem RS.up:RS.Up:=λ_ _ _ h=>h
def dY(s:aO)(pv cv hv lv mv bl bc yc yq:Γ):List Γ:=
 [pv,cv,qI s.row.wrong,qI s.row.off,qI s.table.last,hv,qI s.table.step,lv,mv,qI s.book.chairs,qI s.book.coin,qI s.book.box,bl,bc,yc,qI s.yard.fit,yq]
@[simp] theorem stC_len(s:aO)(pv cv hv lv mv bl bc yc yq:Γ):(dY s pv cv hv lv mv bl bc yc yq).length=17:=rfl
structure kP(D:aC)(s:aO)(pv cv hv lv mv bl bc yc yq:Γ):Prop where
 pl:Sl D RI 1 pv s.row.places
 ct:Sl D RC 3 cv s.row.counts
 ht:Sl D EQ 2 hv s.table.heights
 lev:Sl D RI 1 lv s.table.levels
 mks:Sl D YV 4 mv s.table.marks
 ln:Sl D jQ 3 bl s.book.lines
 cn:Sl D wQ 3 bc s.book.counts
 ch:Sl D I0 4 yc s.yard.chairs
 cl:Sl D R2 2 yq s.yard.claims
theorem kP.up{D D':aC}{s:aO}{pv cv hv lv mv bl bc yc yq:Γ}(h:kP D s pv cv hv lv mv bl bc yc yq)(hl:Le D D'):kP D' s pv cv hv lv mv bl bc yc yq:=
 ⟨h.pl.up RI.up hl,h.ct.up RC.up hl,h.ht.up EQ.up hl,h.lev.up RI.up hl,h.mks.up YV.up hl,h.ln.up jQ.up hl,h.cn.up wQ.up hl,h.ch.up I0.up hl,h.cl.up R2.up hl⟩
def iE(D:aC)(v:Γ)(s:aO):Prop:=∃pv cv hv lv mv bl bc yc yq,v=.agg (dY s pv cv hv lv mv bl bc yc yq).toArray∧kP D s pv cv hv lv mv bl bc yc yq
theorem iE.up{D D':aC}{v:Γ}{s:aO}(h:iE D v s)(hl:Le D D'):iE D' v s:=by
 obtain⟨pv,cv,hv,lv,mv,bl,bc,yc,yq,e,h1⟩:=h;exact⟨pv,cv,hv,lv,mv,bl,bc,yc,yq,e,h1.up hl⟩
theorem kP.row{D:aC}{s:aO}{pv cv hv lv mv bl bc yc yq:Γ}(h:kP D s pv cv hv lv mv bl bc yc yq):nS D (.agg #[pv,cv,qI s.row.wrong,qI s.row.off]) s.row:=⟨pv,cv,C,h.pl,h.ct⟩
theorem kP.table{D:aC}{s:aO}{pv cv hv lv mv bl bc yc yq:Γ}(h:kP D s pv cv hv lv mv bl bc yc yq):hZ D (.agg #[qI s.table.last,hv,qI s.table.step,lv,mv]) s.table:=⟨hv,lv,mv,C,h.ht,h.lev,h.mks⟩
theorem kP.book{D:aC}{s:aO}{pv cv hv lv mv bl bc yc yq:Γ}(h:kP D s pv cv hv lv mv bl bc yc yq):eT D (.agg #[qI s.book.chairs,qI s.book.coin,qI s.book.box,bl,bc]) s.book:=⟨bl,bc,C,h.ln,h.cn⟩
theorem kP.yard{D:aC}{s:aO}{pv cv hv lv mv bl bc yc yq:Γ}(h:kP D s pv cv hv lv mv bl bc yc yq):gZ D (.agg #[yc,qI s.yard.fit,yq]) s.yard:=⟨yc,yq,C,h.ch,h.cl⟩
open Go.Proofs Tryz
namespace L1
open C1
theorem lS{α:Type}{p:α→Bool}{xs:List α}{k:Nat}{x:α}(hx:xs[k]?= some x)(h:(xs.take k).any p=false)(hp:p x=true):idxOf p xs=k:=by
 have hk:=(yx.1 hx).1;have he:=(yx.1 hx).2;have h1:xs.any p=true:=rx.2 ⟨x,GE hx,hp⟩;have h2:xs.findIdx p=k:=by
  rw[List.findIdx_eq hk];refine⟨by rw[he];exact hp,λj hj=>?_⟩
  have:=List.any_eq_false.1 h (xs[j]'Yd) (by
   rw[List.mem_take_iff_getElem];exact⟨j,Yd,C⟩)
  simpa using this
 simp[idxOf,h1,h2]
theorem iG{α:Type}{p:α→Bool}{xs:List α}(h:xs.any p=false):idxOf p xs= -1:=by simp[idxOf,h]
theorem lU{α:Type}{p:α→Bool}{xs:List α}:decide (0≤idxOf p xs)=xs.any p:=by
 unfold idxOf;cases h:xs.any p<;>simp
theorem pU{α:Type}{p:α→Bool}{xs:List α}:(!xs.any λx=> !p x)=xs.all p:=by
 rw[List.all_eq_not_any_not]
theorem fO(n lo hi:Int)(D:aC):Fn prog 143 #[qI n,qI lo,qI hi] D (λ_ v=>v=.bool (gF n lo hi)):=by
 refine Zx 15 func143 C λh0=>lf ?_;refine' bU 4 (s:=10) (p:=14) C (λI=>?_) (λI=>?_) ?_;rotate_left
 ·refine r_ ?_;exact aQ 3
 ·refine Wb ?_;exact aQ 3
 refine Wd ?_;exact aD C λD hD=>C
theorem aHL(n lo hi:Int)(D:aC):Fn prog 84 #[qI n,qI lo,qI hi] D (λ_ v=>v=.bool (gF n lo hi)):=by
 refine Zx 15 func84 C λh0=>g_ ?_;refine' bU 4 (s:=10) (p:=14) C (λI=>?_) (λI=>?_) ?_;rotate_left
 ·refine r_ ?_;exact aQ 3
 ·refine Wb ?_;exact aQ 3
 refine Wd ?_;exact aD C λD hD=>ae
theorem aIA(n:Int)(D:aC):Fn prog 155 #[iV n] D (λ_ v=>v=.bool (vO n)):=by
 refine Zx 5 func155 C λh0=>aA<|Zf C<|aJ<|Za C<|Zd C (λO I=>fO _ _ _ _)<|Wd ?_;exact aD C λD hD=>C
theorem aIH(rv:Γ)(r:dG)(c:zM)(D:aC)(hr:nS D rv r):Fn prog 153 #[rv,cV c] D (λ_ v=>v=.bool (tV r.places.length c)):=by
 obtain⟨pv,cv,rfl,hp,hc⟩:=hr;refine Zx 16 func153 C λh0=>aA<|Zac C λq1 E1 U O=>Zac C λq2 E2 V I=>Zf C<|aJ<|Zj C CZ C<|Zh 1 C aH C I C<|Zj C fQ C<|Zh 0 C bW C O C<|eQ C U35 C Yn C C zy<|Zd C (λD1 Y=>fO _ _ _ _) ?_;refine Za C ?_;refine' bU 4 (s:=11) (p:=15) C (λR=>?_) (λR=>?_) ?_;rotate_left
 ·refine Zk C C6 C<|Zi 2 C aH C I C<|Ze C (λD2 Z=>fO _ _ _ _)<|Zam C ?_;exact aQ 3
 ·refine Wb ?_;exact aQ 3
 refine Wd ?_;exact aD C λD hD=>C
theorem yZ(sv fv:Γ)(xs:List Int)(p:Int→Bool)(D:aC)(hS:Sl D RI 1 sv xs)(hp:dJ prog D iV fv p):
  Fn prog 301 #[sv,fv] D (λ_ v=>v=qI (idxOf p xs)):=by
 have hl:=hS.len;obtain⟨f,c1,c2,rfl,hf⟩:=hp;refine Zx 19 func301 C λh0=>aA<|Zf C<|bD<|Za C<|eQ C U35 C Yn C C zy<|We ?_;rintro k ⟨h1,h2⟩;refine aA<|Zal C<|bX<|Zae C (λhc1=>?_) λhc1=>?_
 ·have hk:k<xs.length:=Yd
  obtain⟨x,hx⟩:=cF xs k;refine aP<|Za6<|Za4<|aA<|Za C<|Zf C<|aJ<|Za C<|Za C<|Za C<|eF C U35 aI C Yn C Yd Yn C zy λY Z I O V R=>?_;obtain rfl:I=[qI _]:=O;refine Zh 0 C aH C R C<|Zd C (λD1 U=>hf x _ (U _ Yf))<|aE<|Zai C (λhc2=>?_) λhc2=>?_
  ·refine uc ?_;exact aD C λD hD=>o_
  ·refine xi ?_;have hpx:p x=false:=hc2;have h3:(xs.take (k+1)).any p=false:=by rw[zg,hx,ui,h2];simp[hpx]
   exact aK 12 (k+1) ⟨Yd,h3⟩ Yd ⟨Ya,zy⟩ C C zp (aN)
 ·refine Wk ?_;exact aD C λD hD=>q_
theorem oV(sv fv:Γ)(xs:List Int)(p:Int→Bool)(D:aC)(hS:Sl D RI 1 sv xs)(hp:dJ prog D iV fv p):
  Fn prog 218 #[sv,fv] D (λ_ v=>v=.bool (xs.any p)):=by
 refine Zx 9 func218 C λh0=>ap ?_;exact aD C λD hD=>q9
theorem O3(b:Nat)(fv:Γ)(p:Int→Bool)(x:Int)(D:aC)(hp:dJ prog D iV fv p)(hB:At D b 0 [fv]):
  Fn prog 219 #[iV x,qP b] D (λ_ v=>v=.bool (!p x)):=by
 obtain⟨f,c1,c2,rfl,hf⟩:=hp;refine Zx 8 func219 C λh0=>gc ?_;exact aD C λD hD=>C
theorem x5(sv fv:Γ)(xs:List Int)(p:Int→Bool)(D:aC)(hS:Sl D RI 1 sv xs)(hp:dJ prog D iV fv p)(h1:fv.cells=#[fv]):
  Fn prog 154 #[sv,fv] D (λ_ v=>v=.bool (xs.all p)):=by
 refine Zx 9 func154 C λh0=>aA<|uH (vs:=[fv]) C C h1 C zy λb O I hB=>bj ?_;exact aD C λD hD=>o0
theorem zI(sv fv:Γ)(xs:List zM)(p:zM→Bool)(D:aC)(hS:Sl D RC 3 sv xs)(hp:dJ prog D cV fv p):
  Fn prog 302 #[sv,fv] D (λ_ v=>v=qI (idxOf p xs)):=by
 have hl:=hS.len;obtain⟨f,c1,c2,rfl,hf⟩:=hp;refine Zx 19 func302 C λh0=>aA<|Zf C<|bD<|Za C<|eQ C U73 C Yn C C zy<|We ?_;rintro k ⟨h1,h2⟩;refine aA<|Zal C<|bX<|Zae C (λhc1=>?_) λhc1=>?_
 ·have hk:k<xs.length:=Yd
  obtain⟨x,hx⟩:=cF xs k;refine aP<|Za6<|Za4<|aA<|Za C<|Zf C<|aJ<|Za C<|Za C<|Za C<|eF C U73 lM C Yn C Yd Yn C zy λY Z I O V R=>?_;obtain rfl:I=[.bool _,qI _,qI _]:=O;refine Zv C GB C R lM<|Zd C (λD1 U=>hf x _ (U _ Yf))<|aE<|Zai C (λhc2=>?_) λhc2=>?_
  ·refine uc ?_;exact aD C λD hD=>o_
  ·refine xi ?_;have hpx:p x=false:=hc2;have h3:(xs.take (k+1)).any p=false:=by rw[zg,hx,ui,h2];simp[hpx]
   exact aK 12 (k+1) ⟨Yd,h3⟩ Yd ⟨Ya,zy⟩ C C zp (aN)
 ·refine Wk ?_;exact aD C λD hD=>q_
theorem tH(sv fv:Γ)(xs:List zM)(p:zM→Bool)(D:aC)(hS:Sl D RC 3 sv xs)(hp:dJ prog D cV fv p):
  Fn prog 220 #[sv,fv] D (λ_ v=>v=.bool (xs.any p)):=by
 refine Zx 9 func220 C λh0=>aA<|Zf C<|aJ<|Za C<|Za C<|Zd C (λO I=>zI _ _ xs p _ (Sl.at RC.up I Yn Yf) (hp.up (I _ Yf)))<|Ww ?_;exact aD C λD hD=>q9
theorem IM(b:Nat)(fv:Γ)(p:zM→Bool)(x:zM)(D:aC)(hp:dJ prog D cV fv p)(hB:At D b 0 [fv]):
  Fn prog 221 #[cV x,qP b] D (λ_ v=>v=.bool (!p x)):=by
 obtain⟨f,c1,c2,rfl,hf⟩:=hp;refine Zx 8 func221 C λh0=>aA<|Zac C λU E1 R I=>Zf C<|aJ<|Zh 0 C aBI C hB C<|Zv C GB C I lM<|Wv ?_;exact aD C λD hD=>C
theorem RW(sv fv:Γ)(xs:List zM)(p:zM→Bool)(D:aC)(hS:Sl D RC 3 sv xs)(hp:dJ prog D cV fv p)(h1:fv.cells=#[fv]):
  Fn prog 156 #[sv,fv] D (λ_ v=>v=.bool (xs.all p)):=by
 refine Zx 9 func156 C λh0=>aA<|uH (vs:=[fv]) C C h1 C zy λb O I hB=>Zf C<|aJ<|Za C<|Za1 C<|Zd C (λO I=>tH _ _ xs (λx=> !p x) _ (Sl.at RC.up I Yn Yf) ⟨_,[],[qP b],C,λx R hl=>IM b fv p x R (hp.up ((I _ Yf).trans hl)) (hB.up ((I _ Yf).trans hl))⟩)<|Zav C<|Wd ?_;exact aD C λD hD=>o0
theorem KW(sv:Γ)(x:Int)(xs:List Int)(D:aC)(hS:Sl D RI 1 sv (x::xs)):
  Fn prog 223 #[sv] D (λ_ v=>v=qI (xs.foldl min x)):=by
 have hl:=hS.len;simp only[zh]at hl;refine Zx 25 func223 C λh0=>aA<|Zf C<|bD<|Za C<|eQ C U35 C Yn C C zy<|Zal C<|aE<|Zae C (λhc1=>?_) λhc1=>?_
 ·exact absurd hc1 (by simp only[zh];omega)
 ·refine aP<|aA<|Za C<|eF C U35 aI C Yn C Yd xa C zy λb1 o1 I O Z R=>?_;obtain rfl:I=[qI _]:=O;refine bi ?_;rintro k h1;refine bL<|Za C<|Za C<|eQ C U35 C Yn C C zy<|Zal C<|aE<|Zae C (λhc2=>?_) (λhc2=>?_)
  ·simp only[zh]at hc2;have hk:k<xs.length:=Yd
   obtain⟨y,hy⟩:=cF xs k;have hE:(x::xs)[(k+1:Int).toNat]?= some y:=by rw[show((k:Int)+1).toNat=k+1 by omega];simpa using hy
   refine aP<|Za6<|Za4<|aM<|Za C<|Za C<|Za C<|eF C U35 aI C Yn C Yd Yn C zy λb2 o2 U V hB Y=>?_;obtain rfl:U=[qI _]:=V;refine Zh 0 C aH C Y C<|zL C C C C zy<|Wp ?_;have h3:(xs.take (k+1)).foldl min x=min ((xs.take k).foldl min x) y:=by rw[zg,hy,xk];rfl
   exact Zl 16 (k+1) ⟨(by rw[h3];rfl),Ya,zy⟩ C zp
  ·simp only[zh]at hc2;refine Wj ?_;exact aD C λD hD=>fp
theorem oC(sv:Γ)(x:Int)(xs:List Int)(D:aC)(hS:Sl D RI 1 sv (x::xs)):
  Fn prog 160 #[sv] D (λ_ v=>v=qI (xs.foldl min x)):=by
 refine Zx 5 func160 C λh0=>ga ?_;exact aD C λD hD=>C
theorem WK{r:dG}(h:(decide ((9:Int)<r.places.length)||decide ((6:Int)<r.counts.length))=true):aW r=3:=by
 simp only[yg,LE]at h;unfold aW;rw[zo Yd]
theorem OJ{r:dG}{b:Bool}(h:(decide ((9:Int)<r.places.length)||decide ((6:Int)<r.counts.length))=false)
  (h2:((((decide ((r.places.length:Int)=0)|| !gF r.wrong 0 6)|| !gF r.off 0 9)|| !r.places.all vO)|| !r.counts.all (tV r.places.length))=b):aW r=if b then 1 else 0:=by
 simp only[xn,yt]at h;unfold aW;rw[zv Yd]
 subst h2;by_cases h1:r.places.length=0<;>cases gF r.wrong 0 6<;>cases gF r.off 0 9<;>cases r.places.all vO<;>cases r.counts.all (tV r.places.length)<;>simp[h1]
theorem DK{r:dG}(h:(decide ((9:Int)<r.places.length)||decide ((6:Int)<r.counts.length))=false)
  (h2:((((decide ((r.places.length:Int)=0)|| !gF r.wrong 0 6)|| !gF r.off 0 9)|| !r.places.all vO)|| !r.counts.all (tV r.places.length))=true):aW r=1:=OJ h h2
theorem zW{r:dG}(h:(decide ((9:Int)<r.places.length)||decide ((6:Int)<r.counts.length))=false)
  (h2:((((decide ((r.places.length:Int)=0)|| !gF r.wrong 0 6)|| !gF r.off 0 9)|| !r.places.all vO)|| !r.counts.all (tV r.places.length))=false):aW r=0:=OJ h h2
theorem P7{r:dG}{t:List Int}{k:Nat}{x:zM}(hx:r.counts[k]?= some x)(h2:(r.counts.take k).all (λc=>decide (hC t c≤r.off))=true)(h:¬r.off<hC t x):(r.counts.take (k+1)).all (λc=>decide (hC t c≤r.off))=true:=by
 rw[zg,hx,List.all_append,h2];simp;omega
theorem WF{r:dG}{t:List Int}{k:Nat}{x:zM}(hx:r.counts[k]?= some x)(hb:0≤hC t x∧hC t x≤9):
  ((((r.counts.take (k+1)).filter λc=>decide (0<hC t c)).length:Nat):Int)=((r.counts.take k).filter λc=>decide (0<hC t c)).length+ [1].foldl min (hC t x):=by
 rw[zg,hx,xu,zf];by_cases h:0<hC t x
 ·simp[h];omega
 ·simp[h];omega
theorem WN{r:dG}{t:List Int}{x:zM}(hx:x∈r.counts)(h:r.off<hC t x):cK r t=false:=by
 unfold cK;rw[ql];exact⟨x,hx,xw⟩
theorem MW{r:dG}{t:List Int}(h:r.counts.all (λc=>decide (hC t c≤r.off))=true):cK r t=true:=h
theorem EV(rv:Γ)(r:dG)(D:aC)(hr:nS D rv r):Fn prog 92 #[rv] D (λ_ v=>v=qI (aW r)):=by
 obtain⟨pv,cv,rfl,hp,hc⟩:=hr;refine Zx 47 func92 C λh0=>aA<|Zac C λq1 E1 hF I=>Zf C<|aJ<|Zv C oL C I nH<|Za1 C<|Zf C<|bX<|Za4<|aA<|Zj C fQ C ?_;refine Zh 0 C bW C I C<|eQ C U35 C Yn C C zy<|uv ?_;refine' dU 5 (s:=11) (p:=16) C (λU=>?_) (λU=>?_) ?_;rotate_left
 ·refine Zk C oD C<|Zi 1 C T0 C I C<|eQ C U73 C Yn C C ⟨_,C,C⟩<|Wy ?_;exact aQ 4
 ·refine Wf ?_;exact aQ 4
 refine Zf C<|aE<|Zai C (λhc1=>?_) λhc1=>?_
 ·refine Wm ?_;exact aD C λD hD=>by show Value.int _ _=_;rw[WK hc1]
 ·refine aA<|Zj C fQ C<|Zh 0 C bW C I C<|eQ C U35 C Yn C C zy<|ud ?_;refine' dU 5 (s:=22) (p:=27) C (λV=>?_) (λV=>?_) ?_;rotate_left
  ·refine Zk C IH C<|Zi 2 C aH C I C<|Ze C (λD1 hH=>fO _ _ _ _)<|vp ?_;exact aQ 4
  ·refine Wf ?_;exact aQ 4
  refine Za C ?_;refine' dU 5 (s:=28) (p:=33) C (λY=>?_) (λY=>?_) ?_;rotate_left
  ·refine Zk C BJ C<|Zi 3 C aH C I C<|Ze C (λR hI=>fO _ _ _ _)<|vp ?_;exact aQ 4
  ·refine Wf ?_;exact aQ 4
  refine Za C ?_;refine' dU 5 (s:=34) (p:=39) C (λZ=>?_) (λZ=>?_) ?_;rotate_left
  ·refine Zk C fQ C<|Zi 0 C bW C I C<|Ze C (λD3 hB=>x5 _ _ _ vO _ (Sl.at RI.up hB Yn Yf) (.of λx R=>aIA x R) C)<|vp ?_;exact aQ 4
  ·refine Wf ?_;exact aQ 4
  refine Za C ?_;refine' dU 6 (s:=40) (p:=46) C (λhE=>?_) (λhE=>?_) ?_;rotate_left
  ·refine Zk C oD C<|Zi 1 C T0 C I C<|Zb C<|Ze C (λD4 O=>RW _ _ _ (tV r.places.length) _ (Sl.at RC.up O Yn Yf) ⟨_,[_],[],C,λc R hl=>aIH _ r c R ⟨_,_,C,hp.up RI.up ((O _ Yf).trans hl),hc.up RC.up ((O _ Yf).trans hl)⟩⟩ C)<|vp ?_;exact aQ 5
  ·refine Zg C<|Wf ?_;exact aQ 5
  refine Zf C<|aE<|Zai C (λhc2=>?_) λhc2=>?_
  ·refine Wm ?_;exact aD C λD hD=>by show Value.int _ _=_;rw[DK hc1 hc2]
  ·refine bE<|Wz ?_;exact aD C λD hD=>by show Value.int _ _=_;rw[zW hc1 hc2]
theorem Yai(c:List Int)(V:c.length=9)(hb:∀x∈c,0≤x∧x≤1)(D:aC):Fn prog 95 #[.agg (ints c).toArray] D (λ_ v=>v=.agg (ints (pD c)).toArray):=by
 refine Zx 20 func95 C λh0=>aA<|Zac C λY E1 O I=>Zag C aBN C λR=>bD<|Zv C lE C I pr<|Za C<|aE<|Za4<|fE (γ:=Nat) (λk=>9-k) (λk=>k≤9) (λk=>[(6,qI (k:Int))]) [(5,_),(2,_)] (λk=>[(R,qC (ints (tJ c k)) 196)]) (λk=>[E1,D]) 0 Yd ⟨Ya,zy⟩ cE zp (aN) ?_;rintro k h1;refine aA<|Zal C<|bX<|Zae C (λhc1=>?_) λhc1=>?_
 ·have hk:k<9:=Yd
  obtain⟨x,hx⟩:=cF c k;have hx1:=hb x (GE hx);have hx2:=fI hb 0 k;have U:=VY c k Yd;have hlen:=LU c k;refine aP<|Za6<|Za4<|aA<|Za C<|JA C U190 aH aI C C Yd Yd Yn C zy<|Zf C<|Zf C<|aE<|aM<|Za C<|Zaf C ?_;refine Za C<|cD C U196 aI C C Yd Yd C zy<|bG C aH C zu (dA Yn) n4 C zy<|Za C<|Zaf C<|cD C U196 aI C C Yd Yd C zy<|BH C aI C C ζ (by simp only[*];omega) zy<|Zap<|Za7<|Za2<|aM<|Zaf C ?_;refine Za C<|Zap ?_;rw[←I9 mr,show((k:Int)+1).toNat=k+1 by omega,Om];exact Zl 16 (k+1) ⟨Ya,zy⟩ C zp
 ·obtain rfl:k=9:=Yd
  rw[SS];have hlen:=tM c;refine Za9<|Za5<|Za5<|Zba<|Za2<|aA<|Zah C FU C zu fm<|Zab C vM ζ (dZ _)<|aG ?_
  exact Zp [_] C ⟨⟨_,_,_,C,zu,zt ⟨FU,(by first|exact vM|(simp only[wd,aL, *];exact vM)),C⟩⟩,zy⟩ λD hD=>C
theorem Wbu(rv:Γ)(r:dG)(c:zM)(t:List Int)(D:aC)(hr:nS D rv r)(hok:mV r)(ht:oS r t)(hcm:c∈r.counts):
  Fn prog 222 #[rv,cV c,.agg (ints (pD t)).toArray] D (λ_ v=>v=qI (hC t c)):=by
 obtain⟨pv,cv,rfl,hp,hc⟩:=hr;obtain⟨h1,h2,h3,h4⟩:=hok.cnt c hcm;have h9:=hok.len9;have hab:=EB ht h1 h2 h9;have O:=Mn ht h1 h2;have U:=xF t c.many.toNat Yd;have V:=xF t r.places.length Yd;have Y:=xF t (r.places.length-c.many.toNat) Yd;have Z:(pD t)[(↑r.places.length-c.many).toNat]?= some (dN t 0 (r.places.length-c.many.toNat)):=by rw[show(↑r.places.length-c.many).toNat=r.places.length-c.many.toNat by omega];exact Y
 rw[ht.1]at O;have hE:=fI ht.2 0 r.places.length;have hF:=fI ht.2 0 (r.places.length-c.many.toNat);have hH:=fI ht.2 0 c.many.toNat;refine Zx 37 func222 C λh0=>aA<|Zac C λq1 E1 hI hB=>Zac C λq2 E2 hJ I=>Zac C λq3 E3 hK R=>Zf C<|aJ<|Zj C CZ C<|Zh 1 C aH C I C<|cD C U196 aI C C Yd Yd C zy<|iW C aH C R Yf (dA U) n4 C zy<|Zf C ?_;refine bD<|Zj C fQ C<|Zh 0 C bW C hB C<|eQ C U35 C Yn C C zy<|Zf C<|aJ<|Zj C Hc C<|Zh 0 C JE C I C<|aE<|Zai C (λhc1=>?_) λhc1=>?_
 ·rw[zo hc1]at O;refine bK [] 5 11 504<|Za C<|cD C U196 aI C C Yd Yd C zy<|iW C aH C R Yf (dA V) n4 C zy<|Za C<|Zj C CZ C<|Zh 1 C aH C I C<|Zax C<|cD C U196 aI C C Yd Yd C zy<|iW C aH C R Yf (dA Z) n4 C zy<|Zax C<|Zf C ?_;refine aJ<|Za C<|Zj C C6 C<|Zh 2 C aH C I C<|Zax C<|Zj C C6 C<|Zh 2 C aH C I C<|Za C<|Zax C<|mL C C C C zy<|Wd ?_;exact aD C λD hD=>by show Value.int _ _=_;rw[←O];rfl
 ·rw[zv (by simp[hc1])]at O;refine aP<|aA<|Za C<|Zj C C6 C<|Zh 2 C aH C I C<|Zax C<|Zj C C6 C<|Zh 2 C aH C I C<|Za C<|Zax C<|mL C C C C zy<|Zf C ?_;refine aG ?_;exact aD C λD hD=>by show Value.int _ _=_;rw[←O];rfl
theorem Ir(rv:Γ)(r:dG)(t:List Int)(D:aC)(hr:nS D rv r)(hok:mV r)(ht:oS r t):
  Fn prog 159 #[rv,.agg (ints (pD t)).toArray] D (λD' v=>Sl D' RI 1 v (r.counts.map (hC t))):=by
 obtain⟨pv,cv,rfl,hp,hc⟩:=hr;have h6:=hok.cnt6;have hsl:=tM t;refine Zx 23 func159 C λh0=>aA<|Zac C λq1 E1 hK O=>Zac C λq2 E2 hN U=>Zf C<|bD<|Zj C oD C<|Zh 1 C T0 C O C<|eQ C U73 C Yn C C zy<|Za C<|aE<|Za4 ?_;refine Zc (Nat×Γ×aF) (λg=>r.counts.length-g.1) (λg=>g.1≤r.counts.length∧bM 3 1 g.2.1 g.1 (ints ((r.counts.take g.1).map (hC t))) g.2.2) (λg=>[(10,qI (g.1:Int)),(4,g.2.1)]) [(9,_),(8,_),(3,_),(2,_)] (λg=>g.2.2++[]) (λg=>[E2,E1,D]) (0,qN,[]) ⟨Yf,qz⟩ ⟨Ya,Ya,zy⟩ zp ?_;rintro⟨k,v,ν⟩ ⟨h1,ha⟩;refine aA<|Zal C<|bX<|Zae C (λhc1=>?_) λhc1=>?_
 ·have hk:k<r.counts.length:=Yd
  obtain⟨x,hx⟩:=cF r.counts k;have hxm:=GE hx;refine aP<|Za6<|Za4<|aA<|eF C U73 lM C Yn C Yd Yn C zy λb1 o1 V Y hI Z=>?_;obtain rfl:V=[.bool _,qI _,qI _]:=Y;refine Zv C GB C Z lM<|Zag C K4 C λq3=>Zaa C lM ζ<|aE<|aM<|Za C<|Zv C oL C O nH<|Zah C GB C zu lM<|cQ C FU C U Yc fm n4 C zy<|Zd C (λD1 R=>Wbu _ r x t _ ⟨_,_,C,hp.up RI.up (R _ Yf),hc.up RC.up (R _ Yf)⟩ hok ht hxm)<|Zu C U35 aI cN C (.cons C C .nil) λhJ D901 hB I=>?_
  have hE:=Sl.ofInts (l:=[_]) (n:=1) (cap:=1) I C Yd Yd;refine aT (A:=[(_,_)]) (B:=_) C U35 C C aI cN C jV C C C ha (kX.lit I) Yf C xw Ym Yd (zq C) C zy λv1 ν1 ha1=>?_;have hH:bM 3 1 v1 (k+1) (ints ((r.counts.take (k+1)).map (hC t))) ν1:=by rw[zg,hx,yd,ze,←eL];exact ha1
  refine uz ?_;exact aK 16 (k+1,v1,ν1) ⟨Yl,hH⟩ Yl ⟨Ya,Ya,zy⟩ C C (List.Sublist.cons _ zp) λD h=>⟨D,zb _ (h),Le.refl D⟩
 ·obtain rfl:k=r.counts.length:=Yd
  rw[ym]at ha;refine Za9<|Za5<|Za5<|Zba<|Za2<|aA<|Za C<|Zf C<|aG<|dE (A:=[]) (B:=[]) ha C λD2 hO hF=>?_;exact aD C λD hD=>(hF.ints Yf Yd).up RI.up (hD _ Yf)
theorem VQ(rv:Γ)(r:dG)(t:List Int)(D:aC)(hr:nS D rv r)(hok:mV r)(ht:oS r t):
  Fn prog 94 #[rv,.agg (ints (pD t)).toArray] D (λ_ v=>v=.tuple #[qI (if cK r t then(jM r t:Int)else 0),.bool (cK r t)]):=by
 obtain⟨pv,cv,rfl,hp,hc⟩:=hr;have h6:=hok.cnt6;have hsl:=tM t;refine Zx 27 func94 C λh0=>aA<|Zac C λq1 E1 hF U=>Zac C λq2 E2 hH Y=>Zf C<|Zf C<|bD<|Zv C oL C U nH<|cQ C FU C Y Yc fm n4 C zy<|Zz C (λD1 I=>Ir _ r t _ ⟨_,_,C,hp.up RI.up (I _ Yf),hc.up RC.up (I _ Yf)⟩ hok ht) λv1 D1 I V=>Zaj C U35 C V C<|Za C ?_;refine aE<|Za4<|cW (γ:=Nat) (λk=>r.counts.length-k) (λk=>k≤r.counts.length∧(r.counts.take k).all (λc=>decide (hC t c≤r.off))=true) (λk=>[(12,qI (k:Int)),(4,qI (((r.counts.take k).filter λc=>decide (0<hC t c)).length:Int))]) [(11,_),(10,_),(5,_),(2,_)] (λk=>[D1,E2,E1,D]) 0 Yf ⟨Ya,Ya,zy⟩ cE (aN) ?_;rintro k ⟨h1,h2⟩;refine aA<|Zal C<|bX<|Zae C (λhc1=>?_) λhc1=>?_
 ·simp only[yh]at hc1;have hk:k<r.counts.length:=Yd
  obtain⟨x,hx⟩:=cF r.counts k;have hxm:=GE hx;have hx2:(r.counts.map (hC t))[k]?= some (hC t x):=by rw[xt,hx];rfl
  have hxb:=XF hok ht hxm;have hlf:=xm (λc=>decide (0<hC t c)) (r.counts.take k);have hlt:(r.counts.take k).length≤k:=ul _ _;refine aP<|Za6<|Za4<|aA<|gH C V C hx2 λb1 o1=>Zf C<|bD<|Za C<|Zj C BJ C<|Zh 3 C aH C U C<|Zat C<|aE ?_;refine Zae C (λhc2=>?_) λhc2=>?_
  ·refine aA<|Zf C<|jj ?_;exact Zp [_,_] C cE λD hD=>by show Value.tuple _=_;rw[WN hxm hc2];rfl
  ·refine aP<|aM<|Za C<|Za C<|Zu C U35 aI cN C (.cons C C (.cons C C .nil)) λhE D901 Z O=>?_;have R:=Sl.ofInts (l:=[_,_]) (n:=2) (cap:=2) O C Yd Yd;refine Zd C (λD2 hB=>oC _ (hC t x) [1] _ (R.up RI.up (hB _ Yf)))<|xN C C C (by simp only[vE,yp,List.foldl_nil];omega) C zy<|uz ?_
   exact aK 18 (k+1) ⟨Yd,P7 hx h2 hc2⟩ Yd ⟨Ya,(by rw[WF hx hxb];rfl),zy⟩ C C zp λD h=>⟨D,zb _ (h),Le.refl D⟩
 ·simp only[yh]at hc1;obtain rfl:k=r.counts.length:=Yd
  rw[ym]at h2;refine Za9<|Za5<|Za5<|Zba<|Za2<|aA<|Za C<|tg ?_;exact Zp [_,_] C cE λD hD=>by show Value.tuple _=_;rw[MW h2,ym];rfl
theorem BS(t:List Int)(D:aC)(h:t.length≤9)(hb:∀x∈t,0≤x∧x≤1):Fn prog 95 #[.agg (ints (gT t)).toArray] D (λ_ v=>v=.agg (ints (pD t)).toArray):=
 (Yai (gT t) (iP h) (Nb hb) D).mono λ_ v _ hv=>by rw[hv,Km]
end L1
namespace L12
def gK(code:Int):Γ:=.iface 347 (.agg #[qI code])
theorem Ff(sv:Γ)(xs:List Bool)(b:Bool)(D:aC)(hS:Sl D RB 1 sv xs):Fn prog 329 #[sv,.bool b] D (λ_ v=>v=qI (idxOf (λx=>b==x) xs)):=by
 have hl:=hS.len;refine Zx 19 func329 C λh0=>aA<|Zf C<|bD<|Za C<|eQ C U397 C Yn C C zy<|Za C<|aE<|Za4<|cW (γ:=Nat) (λk=>xs.length-k) (λk=>k≤xs.length∧(xs.take k).any (λx=>b==x)=false) (λk=>[(8,qI k)]) [(7,_),(4,_),(0,_),(1,_)] (λk=>[D]) 0 Yf ⟨Ya,zy⟩ cE (aN) ?_;rintro k ⟨h1,h2⟩;refine aA<|Zal C<|bX<|Zae C (λhc1=>?_) λhc1=>?_
 ·have hk:k<xs.length:=Yd
  obtain⟨x,hx⟩:=cF xs k;refine aP<|Za6<|Za4<|aA<|Za C<|Zf C<|aJ<|Za C<|Za C<|Za C<|eF C U397 nM C Yn C Yd Yn C zy λV Y I O U R=>?_;obtain rfl:I=[.bool _]:=O;refine Zh 0 C JE C R C<|Xcv C U4 C C C zy<|aE<|Zai C (λhc2=>?_) λhc2=>?_
  ·refine uc ?_;exact aD C λD hD=>je
  ·refine xi ?_;have h3:(xs.take (k+1)).any (λx=>b==x)=false:=by rw[zg,hx,ui,h2];simpa using hc2
   exact aK 12 (k+1) ⟨Yd,h3⟩ Yd ⟨Ya,zy⟩ C C zp (aN)
 ·refine Wk ?_;exact aD C λD hD=>jd
theorem VG(sv:Γ)(xs:List Bool)(b:Bool)(D:aC)(hS:Sl D RB 1 sv xs):Fn prog 284 #[sv,.bool b] D (λ_ v=>v=.bool (xs.any λx=>b==x)):=by
 refine Zx 9 func284 C λh0=>aA<|Zf C<|aJ<|Za C<|Za C<|Zd C (λO I=>Ff _ xs b _ (Sl.at RB.up I Yn Yf))<|Ww ?_;exact aD C λD hD=>jc
theorem gN(code:Int)(cs:List Bool)(sv:Γ)(D:aC)(hS:Sl D RB 1 sv cs):lA prog 206 [qI code,sv] D [] (λ_ _ ν'=>cs.any (λx=>true==x)=false∧ν'=[]) (λv=>cs.any (λx=>true==x)=true∧v=gK code):=by
 refine eR 9 func206 C C C C λh0 hwl hwn=>aA<|Za C<|Zd C (λO I=>VG _ cs true _ (hS.up RB.up (I _ Yf)))<|aE<|Zai C (λhc1=>?_) λhc1=>?_
 ·refine aM<|Za C<|Zw [qI code] C aDL Sr C<|Wbc C U347 C C zy ?_;exact aBC C C zy (dC C ⟨hc1,C⟩)
 ·refine bE ?_;exact eO C λD' hD=>⟨hc1,C⟩
end L12
namespace L1
open C1
def jE(br bY bc bh:Nat)(c:List Int):aF:=[(bh,qC [.func (.func 158) #[] #[qP br,qP bY,qP bc,qP bh]] 201),(bc,qC (ints c) 190)]
theorem wW{c pre:List Int}{i:Nat}{k:Int}(h:c.take (i+1)=pre++[k])(hl:pre.length=i):c.take i=pre:=by
 have:=zn (List.take i) h;rw[List.take_take,uj (Nat.le_succ i)]at this;rw[this,vg Yd,ww Yd]
def SP(x:List Int):List Γ:=[.agg (ints x).toArray]
def Ui(P:Program)(Dr:aC)(lo l:Nat)(J Jx:List (List Int)→xL)(xs:List (List Int)):Prop:=∀pre x β D w,(∃r,xs=pre++x::r)→Q3 lo D w→J pre β D w→(∀b∈β,b<w.heap.size)→Le Dr D→
    jS P l (SP x) w λb D' w'=>Q3 lo D' w'∧O1 β D w D' w'∧(if b then J (pre++[x]) β D' w' else Jx (pre++[x]) β D' w')
def BB(J Jx:List (List Int)→xL)(br bY bc bh:Nat)(places:List Int)(pre:List Int)(i:Nat)(done:List (List Int))(v:Γ)(J':xL)(μ':aF):Prop:=
 ∃b c',v=.bool b∧c'.length=9∧c'.take i=pre∧c'.drop places.length=List.replicate (9-places.length) 0∧μ'=jE br bY bc bh c'∧(if b=true then J'=J (done++(bP (places.drop i)).map λt=>gT (pre++t))else ∃p,J'=Jx p)
theorem A3{lo l:Nat}{J Jx:List (List Int)→xL}{places:List Int}{xs:List (List Int)}{Dr Dy:aC}{W:List aC}{br bY bc bh:Nat}{pv cv:Γ}{w1 w2:Int}(U:places.length≤9)
  (hs:∀pre,k9 lo (J pre)) (hsx:∀pre,k9 lo (Jx pre)) (hY:Ui prog Dr lo l J Jx xs) (hDr:Dr∈W) (hDy:Dy∈W) (hA:At Dr br 0 [pv,cv,qI w1,qI w2]) (hpl:Sl Dr RI 1 pv places) (hB:At Dy bY 0 [.func (.yield l) #[] #[]]):
  ∀(j i:Nat) (pre c:List Int) (done rest:List (List Int)) (iv:Int),iv=i→i+j=places.length→pre.length=i→c.length=9→c.take i=pre→c.drop places.length=List.replicate (9-places.length) 0→
   xs=done++(bP (places.drop i)).map (λt=>gT (pre++t))++rest→
   lr prog 158 [qI iv,qP br,qP bY,qP bc,qP bh] lo (J done) (jE br bY bc bh c) W (BB J Jx br bY bc bh places pre i done):=by
 intro j;induction j using Nat.strongRecOn with
 |_ j ih=>
 intro i pre c done rest iv hiv hij hl V hp hz hxs;subst hiv;have hmx:=hpl.len;refine j4 (L:=jE br bY bc bh c) 41 func158 C C C C<|aA<|Zf C<|bD<|Za C<|Zj C fQ C<|Zh 0 C bW C hA C<|eQ C U35 C Yn C C zy<|Zas C<|aE<|Zae C (λhc1=>?_) λhc1=>?_
 ·have hin:i=places.length:=Yd
  subst hin;have hleaf:=(ZL V hp hl hz).symm;rw[oy]at hxs;simp only[bP,yl,tj,yr]at hxs;rw[hleaf,yy,rh]at hxs;refine aA<|Zh 0 C aEG C hB C<|bN C lE C zi pr n4 C zy<|XN (l:=l) (J1:=J (done++[c])) (J0:=Jx (done++[c])) C C C C (hs _) (hsx _) (λD w hd hJ hb hl=>hY done c _ D w ⟨rest,hxs⟩ hd hJ (λb hbm=>by obtain⟨p,hp,rfl⟩:=n5.1 hbm;exact hb p hp) (hl _ hDr)) C zy λY J1 Z=>Wi ?_
  exact nU (P:=prog) (fn:=f158) (N:=41) (vs:=[_]) C C ⟨C,zy⟩ (λD h=>⟨D,h,Le.refl D⟩) ⟨Y,c,C,V,hp,hz,C,by cases Y<;>simp only[Z,yo,wt,xx];exact⟨_,C⟩;simp[bP,hleaf]⟩
 ·have hin:i<places.length:=Yd
  obtain⟨p,hpi⟩:=cF places i;have hd:places.drop i=p::places.drop (i+1):=by rw[xc hin];congr 1;exact yi ((yz hin).symm.trans hpi)
  rw[hd,←Ry]at hxs;refine aP<|bL<|Za C<|aE<|Za4<|GG (γ:=Nat×List Int) (λg=>2-g.1) (λg=>g.1≤2∧g.2.length=9∧g.2.take i=pre∧g.2.drop places.length=List.replicate (9-places.length) 0) (λg=>J (done++vm p (places.drop (i+1)) pre g.1)) (λg=>[(17,qI (g.1:Int))]) [(6,_),(0,_),(1,_),(3,_),(4,_)] (λg=>jE br bY bc bh g.2) (λg=>W) (0,c) ⟨Yf,V,hp,hz⟩ (by simp[Cc]) ⟨Ya,zy⟩ cE zp (aN) ?_;rintro⟨k,c1⟩ ⟨hF,I,O,R⟩;refine aA<|Zal C<|bX<|Zae C (λhc2=>?_) λhc2=>?_
  ·refine aP<|Za6<|Za4<|aA<|Za C<|Zf C<|aJ<|Zj C fQ C<|Zh 0 C bW C hA C<|Za C<|gH C hpl C hpi λY o1=>Zf C ?_;refine aJ<|Za C<|ud ?_;refine' dU 4 (s:=27) (p:=31) C (λhE=>?_) (λhE=>?_) ?_;rotate_left
   ·refine Zb C<|Zb C<|jl ?_;exact aQ 3
   ·refine mx ?_;exact aQ 3
   refine aE<|Zai C (λhc3=>?_) λhc3=>?_
   ·have hpk:p=2∨p=(k:Int):=ua
    obtain⟨rr,hr⟩:=Aq (p:=p) (ps:=places.drop (i+1)) (pre:=pre) (k:=k) Yd;have hset:=Nv (k:=(k:Int)) I hin U O R;refine aA<|Za C<|Za C<|cD C U190 aI C C Yd Yd C zy<|BH C aI C C (.tail ζ) (by simp only[*];omega) zy<|aJ<|Zq C sG C zu C<|Za C<|Zaf C<|yQ C C C C (ih (j-1) Yd (i+1) (pre++[(k:Int)]) (c1.set i k) (done++vm p (places.drop (i+1)) pre k) (rr++rest) (i+1:Int) Yd Yd xw hset.1 hset.2.1 hset.2.2 (by rw[hxs,hr,Va hpk];simp)) C zy ?_
    rintro _ J2 _ ⟨b2,c2,rfl,h9',hp',hz',rfl,hJ2⟩;refine Zav C<|aE<|Zai C (λhc4=>?_) λhc4=>?_
    ·obtain rfl:b2=false:=pz
     refine aA<|Wg ?_;exact nU (P:=prog) (fn:=f158) (N:=41) (vs:=[_]) C C ⟨C,zy⟩ (λD h=>⟨D,h,Le.refl D⟩) ⟨false,c2,C,h9',wW hp' hl,hz',C,by simpa using hJ2⟩
    ·obtain rfl:b2=true:=pz
     refine xi ?_;exact xK 24 (k+1,c2) ⟨Yl,h9',wW hp' hl,hz'⟩ Yl (by simpa only[yo,Va hpk,yy]using hJ2) ⟨Ya,zy⟩ C C zp (aN)
   ·have hpk:¬(p=2∨p=(k:Int)):=ua
    refine xi ?_;exact xK 16 (k+1,c1) ⟨Yl,I,O,R⟩ Yl (by rw[Xct hpk]) ⟨Ya,zy⟩ C C zp (aN)
  ·refine Wk ?_;exact nU (P:=prog) (fn:=f158) (N:=41) (vs:=[_]) C C ⟨C,zy⟩ (λD h=>⟨D,h,Le.refl D⟩) ⟨true,c1,C,I,O,R,C,by simp only[yo];rw[hd,←Ry,show k=2 by omega]⟩
theorem aHR(places:List Int)(Dr:aC)(br:Nat)(pv cv:Γ)(O R:Int)(U:places.length≤9)(hA:At Dr br 0 [pv,cv,qI O,qI R])(hpl:Sl Dr RI 1 pv places):
  DC prog 157 [qP br] Dr ((bP places).map gT) SP:=by
 refine NS 8 func157 C C C C λlo l J Jx hs hsx hY=>aA<|Zac C λY E1 V I=>aJ<|Zag C vF C λZ=>aJ<|Zag C FX C λq3=>aJ<|Za1 C<|Zs C GS ζ C<|aE<|aM ?_;refine Zq C sG C zu C<|yQ C C C C (A3 (l:=l) Yd hs hsx hY Yf Yf hA hpl I places.length 0 [] (List.replicate 9 0) [] [] 0 C Yd C C C (List.drop_replicate ..) Yf) C zy ?_;rintro _ J2 _ ⟨b2,c2,rfl,h9',hp',hz',rfl,hJ2⟩;refine Zap ?_;exact nU (P:=prog) (fn:=f157) (N:=8) (vs:=[]) C C zy (λD h=>⟨D,jb,Le.refl D⟩) er
theorem Uo(rv:Γ)(r:dG)(D:aC)(hr:nS D rv r)(I:r.places.length≤9):
  Fn prog 93 #[rv] D (λD' v=>∃br,v=.func (.func 157) #[] #[qP br]∧DC prog 157 [qP br] D' ((bP r.places).map gT) SP):=by
 obtain⟨pv,cv,rfl,hp,hc⟩:=hr;refine Zx 4 func93 C λh0=>aA<|Zac C λR E1 U O=>Zf C<|aJ<|Za1 C<|Wd ?_;exact aD C λD hD=>⟨_,C,aHR r.places _ R pv cv r.wrong r.off I (O.up (hD _ Yf)) (hp.up RI.up (hD _ Yf))⟩
theorem Ob{c:List Int}{i j:Int}(h0:0≤i)(h1:i≤j):dN c 0 (j+1).toNat-dN c 0 i.toNat=iH c i.toNat j.toNat:=by
 unfold iH;have h:=Z0 c 0 i.toNat (j.toNat+1-i.toNat);rw[show i.toNat+(j.toNat+1-i.toNat)=(j+1).toNat by omega,wo]at h;omega
theorem Bg{r:dG}{t:List Int}(h:(cK r t&&decide ((if cK r t=true then(jM r t:Int)else 0)≤r.wrong))=true):fits r t=true:=by
 unfold fits;cases he:cK r t<;>simp[he]at h ⊢;exact h
theorem Xdd{r:dG}{t:List Int}(h:(cK r t&&decide ((if cK r t=true then(jM r t:Int)else 0)≤r.wrong))=false):fits r t=false:=by
 unfold fits;cases he:cK r t<;>simp[he]at h ⊢;exact h
theorem aFF{r:dG}(h:mV r)(k:Nat):(((bP r.places).take k).filter (fits r)).length≤512:=by
 have h1:=xm (fits r) ((bP r.places).take k);have h2:=tR r.places;have h3:2^r.places.length≤2^9:=wu Yd h.len9;have h4:((bP r.places).take k).length≤(bP r.places).length:=by rw[wq];omega
 omega
theorem Ya5{r:dG}(h:mV r)(k:Nat):∀t∈((bP r.places).take k).filter (fits r),t.length≤9:=λt ht=>by
 have:=(pZ (pd (xf.1 ht).1)).1;have:=h.len9;omega
theorem MK{r:dG}(h:mV r):(truths r).length≤512:=by
 have h1:=xm (fits r) (bP r.places);have h2:=tR r.places;have h3:2^r.places.length≤2^9:=wu Yd h.len9;show((bP r.places).filter (fits r)).length≤512;omega
theorem QT(rv:Γ)(r:dG)(i j:Int)(D:aC)(hr:nS D rv r):Fn prog 75 #[rv,qI i,qI j] D (λ_ v=>v=.bool (rX r i j)):=by
 obtain⟨pv,cv,rfl,hp,hc⟩:=hr;have hl:=hp.len;refine Zx 22 func75 C λh0=>aA<|Zac C λY E1 R I=>Zf C<|aJ<|Za C<|Zj C fQ C<|Zh 0 C bW C I C<|eQ C U35 C Yn C C zy<|Zax C<|Zd C (λZ U=>fO _ _ _ _)<|Za C ?_;refine' bU 8 (s:=13) (p:=21) C (λO=>?_) (λO=>?_) ?_;rotate_left
 ·refine Zb C<|Zb C<|Zk C fQ C<|Zi 0 C bW C I C<|eQ C U35 C Yn C C ⟨_,C,C⟩<|xO C C C Ye C ⟨_,C,C⟩<|Ze C (λD2 V=>fO _ _ _ _)<|Zam C ?_;exact aQ 7
 ·refine Zg C<|Wo ?_;exact aQ 7
 refine Wd ?_;exact aD C λD hD=>C
theorem Pd(c:List Int)(i j:Int)(D:aC)(O:0≤i)(hij:i≤j)(V:j<9)(hb:∀x∈c,0≤x∧x≤1):Fn prog 144 #[.agg (ints (pD c)).toArray,qI i,qI j] D (λ_ v=>v=qI (iH c i.toNat j.toNat)):=by
 have hsl:=tM c;have R:=xF c (j+1).toNat Yd;have U:=xF c i.toNat Yd;have Y:=fI hb 0 (j+1).toNat;have Z:=fI hb 0 i.toNat;refine Zx 15 func144 C λh0=>aA<|Zac C λq1 E1 hB I=>Zf C<|bX<|bK [] 4 9 112<|Za C<|Zaf C<|cD C U196 aI C C Yd Yd C zy<|iW C aH C I Yf (dA R) n4 C zy<|Za C<|cD C U196 aI C C Yd Yd C zy ?_;refine iW C aH C I Yf (dA U) n4 C zy<|Zax C<|Wd ?_;exact aD C λD hD=>by show Value.int _ _=_;rw[Ob O hij]
theorem wO(lo hi n:Int)(D:aC):Fn prog 145 #[.agg #[qI lo,qI hi],qI n] D (λ_ v=>v=.agg #[qI (min lo n),qI (max hi n)]):=by
 refine Zx 15 func145 C λh0=>aA<|Zac C λq1 E1 Z R=>Zag C uP C λq2=>bX<|fS [] 4 [0,1,2,5,6,7,8,3,4,9,10] [false,false,true,true,true,true,true,true,true,false,false] [(false,0),(false,1),(true,2),(true,5),(true,6),(true,7),(true,8),(true,3),(true,4),(false,9),(false,10)] aV (λ_ _ _ h=>eA (P:=prog) (fn:=f145) _ _ _ h) Yg C<|Zj C WH C<|Zh 0 C aH C R C<|Za C<|Zj C Xq C<|Zh 1 C aH C R C<|Za C ?_;refine mL C C C C zy<|Zu C U35 aI cN C (.cons C C (.cons C C .nil)) λY D901 U I=>?_;have O:=Sl.ofInts (l:=[_,_]) (n:=2) (cap:=2) I C Yd Yd;refine Zd C (λD1 V=>oC _ lo [n] _ (O.up RI.up (V _ Yf)))<|Zw [qI (min lo n),qI (max hi n)] C JW uP C<|Zaa C jW ζ<|aG ?_;exact Zp [_] C ⟨⟨_,_,_,C,zu,Or.inr ⟨L8,ja,C⟩⟩,zy⟩ λD hD=>C
theorem B4(rv:Γ)(r:dG)(fine:Bool)(D:aC)(hr:nS D rv r):Fn prog 74 #[rv,.bool fine] D (λD' v=>∃wv,v=.tuple #[wv,qI (eJ r fine)]∧(eJ r fine=0→mV r∧Rj D' wv r)):=by
 have O:=hr;obtain⟨pv,cv,rfl,hp,hc⟩:=hr;refine QU 55 func74 C C C C λh0=>aA<|Zac C λq1 E1 hP I=>Zf C<|Zf C<|bD<|Zv C oL C I nH<|Zd C (λD1 Z=>EV _ r _ (O.up (Z _ Yf)))<|mu ?_;refine aE<|Zae C (λhc1=>?_) λhc1=>?_
 ·refine qg ?_;exact yI (vs:=[_,_]) C C C cE λD hD=>⟨_,by rw[eJ,zo hc1];rfl,λh=>by rw[eJ,zo hc1]at h;exact absurd h hc1⟩
 ·have hok:mV r:=V5.1 Yd;refine aP<|bL<|Za C<|Zav C<|aE<|Zai C (λhc2=>?_) (λhc2=>?_)
  ·refine aA<|Zf C<|Wi ?_;exact yI (vs:=[_,_]) C C C cE λD hD=>⟨_,by rw[eJ,zv hc1,zo wm];rfl,λh=>by rw[eJ,zv hc1,zo wm]at h;omega⟩
  ·refine aP<|aA<|Zv C oL C I nH<|Zw [pv,cv,qI r.wrong,qI r.off,qN] C aEV aCK C<|JK C (e:=170) C C C zy λY=>Zag C Ya2 C λq3=>Zs C aAV ζ C<|bD<|Zv C oL C I nH<|Zz C (λD2 U=>Uo _ r _ (O.up (U _ Yf)) hok.len9) λv2 D2 U hB=>aE<|Za4 ?_;obtain⟨br,rfl,hit⟩:=hB;refine yO (γ:=Γ×aF) (xs:=(bP r.places).map gT) (enc:=SP) (Dr:=D2) (i7 190 r) (λ_ _ _=>False) (λg=>[(q3,qC [qP Y] 163),(Y,qC [pv,cv,qI r.wrong,qI r.off,g.1] 170)]++g.2) (qN,[]) C C C C hit Yf (λ_=>C) C (by simpa [i7]using bM.nil) C ?_ ?_ (λ_ _ _ _ h=>h.elim)
   ·rintro pre x ⟨v,ν⟩ ⟨us,hx⟩ hΦ l bd rec hh D7 hR hst hpend;obtain⟨t,hk,rfl,htm,htake⟩:=X1 hx;obtain⟨hlen,htb⟩:=pZ htm;have htr:oS r t:=⟨hlen,htb⟩
    have V:=iP (t:=t) kv;refine aM<|Zag C vF C λq4=>Zaa C eN ζ<|Zap ?_;refine λa w hhh=>X6 (A:=[(_,_),(_,_),(_,_)]++ν) (B:=[(bd,.deferred (some []))]) (r:=rec) (l:=l) xa hst ?_ a w hhh
    refine rM λhnd=>?_;simp only[yl,ze,xg,za,we,ya,zm,zd,wn]at hnd;have hS:=hnd.1.2.2.1;have hX:=hnd.2.1.2.1;have hq2:=hnd.2.2.1.1;refine Za4<|Za6<|vR [] 4 9 198 (λ_ _ _ h=>h)<|Zv C oL C I nH<|bN C lE C zu pr n4 C zy<|Zd C (λD3 hY=>BS t _ kv htb)<|Zd C (λD4 hE=>VQ _ r t _ (O.up (hE _ Yf)) hok htr)<|Za C<|Zar C<|Zar C<|Zf C<|Zf C ?_;refine aJ<|ub ?_;refine' bU 5 (s:=32) (p:=37) C (λhF=>?_) (λhF=>?_) ?_;rotate_left
    ·refine Zb C<|Zk C IH C<|Zi 2 C aH C I C<|Wl ?_;exact aQ 4
    ·refine vw ?_;exact aQ 4
    refine aE<|Zai C (λhc3=>?_) λhc3=>?_
    ·have hfit:=Bg hc3;refine vR (ν.map (·.1)) 2 11 254 (λ_ _ _ h=>h)<|bG C FZ C zi C Yo C zy<|bG C FZ C zi C Yo C zy<|Zao C<|Zj C tE C<|bG C V1 C xq C Yo C zy<|bN C lE C zu pr Yo C zy<|Zu C U168 eN vF C (.cons C (by simpa using V) .nil) (λhO D901 hH R=>aT (A:=[(_,_),(_,_),(_,_)]) (B:=[(l,_),(bd,_)]) C U168 C C eN vF C aET C C C hΦ (kX.lit R) Yf (by simp[V]) (ZU (Ya5 hok pre.length)) ku (by have:=aFF hok pre.length;omega) (zt λp hp=>n5.2 ⟨p,hp,C⟩) C zy λv1 ν1 ha1=>?_)
     have hI:i7 190 r (pre++[gT t]) (v1,ν1):=by unfold i7;rw[htake,xu,wj,zo hfit,List.filter_nil,xl,um];simpa using ha1
     simp only[we,ya];refine Zao C<|Zj C tE C<|dD C C C ha1.cells1 Tb (.tail (.tail ζ)) Yf C ha1.cell1 zy<|Zap<|Za7 ?_;exact λa w hh=>jT (A:=[(_,_),(_,_)]++ν1) (B:=[(bd,.deferred (some []))]) (v1,ν1) hI C C a w (hh.dropBoxes 1)
    ·have hfit:=Xdd hc3;have hJ:i7 190 r (pre++[gT t]) (v,ν):=by unfold i7;rw[htake,xu,wj,zv (by simp[hfit]),List.filter_nil,yr];exact hΦ
     refine bE<|Za7 ?_;exact λa w hh=>jT (A:=[(_,_),(_,_)]++ν) (B:=[(bd,.deferred (some []))]) (v,ν) hJ C C a w (hh.dropBoxes 1)
   ·rintro⟨v,ν⟩ bd hΦ;have hΦ':bM 190 9 v (truths r).length ((truths r).flatMap λt=>ints (gT t)) ν:=by simpa [i7,truths]using hΦ
    have hall:∀t∈truths r,t.length≤9:=λt ht=>by have:=(pZ (xf.1 ht).1).1;have:=hok.len9;omega
    have hll:=MK hok;refine Za7<|Za2<|bL<|Zq C FZ C zu C<|Zao C<|Zj C tE C<|Zq C V1 C zi C<|cG C U168 C hΦ' C C zy<|Zas C<|aE<|Zae C (λhc4=>?_) λhc4=>?_
    ·have htn:truths r=[]:=ri.1 Yd;have hask:eJ r fine=11:=by rw[eJ,zv hc1,zv wm,zo htn]
     refine aA<|Zf C<|Wi ?_;exact I8 (vs:=[_,_]) (A:=[(_,_),(_,_)]++ν) C C C cE λD hD=>⟨_,by rw[hask];rfl,λh=>by rw[hask]at h;omega⟩
    ·have htn:truths r≠[]:=λe=>hc4 qy
     have hask:eJ r fine=0:=by rw[eJ,zv hc1,zv wm,zv htn]
     refine aP<|aA<|Zq C FZ C zu C<|Zf C<|Zf C<|aG<|dE (A:=[(_,_),(_,_)]) (B:=[(bd,.deferred (some []))]) hΦ' C λD8 rA hK=>dE (A:=[(_,_)]) (ν:=[(Y,_)]) (B:=[(bd,.deferred (some []))]) (aBG (sz:=5) C) C λD9 rB hN=>?_;exact I8 (vs:=[_,_]) (A:=[(_,_)]) C C C cE λD hD=>⟨_,by rw[hask];rfl,λ_=>⟨hok,Y,pv,cv,v,C,(hN.at Yd).up (hD _ Yf),hp.up RI.up (hD _ Yf),hc.up RC.up (hD _ Yf),(hK.truths C Yd hall).up RT.up (hD _ Yf)⟩⟩
theorem Sh{ts:List (List Int)}{q:List Int→Bool}{t0 t:List Int}{j:Nat}(hj:ts[j]?= some t)(h:(ts.take j).all (λt=>q t==q t0)=true)(hc:(!(q t==q t0))=false):(ts.take (j+1)).all (λt=>q t==q t0)=true:=by
 rw[zg,hj,List.all_append,h];simpa using hc
theorem YD{r:dG}{f:Bool}(h:eJ r f=0):truths r≠[]:=by
 unfold eJ at h;split at h;omega;split at h;omega;split at h;omega;assumption
theorem s6{r:dG}{f:Bool}(h:eJ r f=0):f=true:=by
 unfold eJ at h;split at h;omega;split at h;omega;rename_i hf;simpa using hf
theorem Cp{r:dG}{i j:Int}(hok:mV r)(h:eJ r (rX r i j)=0):0≤i∧i≤j∧j<9:=by
 have:=s6 h;simp only[rX,zl,bH]at this;have:=hok.len9;omega
theorem j7{r:dG}(hok:mV r):∀t∈truths r,t.length≤9∧∀x∈t,0≤x∧x≤1:=λt ht=>⟨by have:=(wH ht).1;have:=hok.len9;omega,(wH ht).2⟩
theorem nX{α:Type}{ts:List α}{k:Nat}{t:α}{f:α→Int}{a:Int}(h:ts[k]?= some t):((ts.take (k+1)).map f).foldl min a=min (((ts.take k).map f).foldl min a) (f t):=by
 rw[zg,h,yd,ze,xk];rfl
theorem oB{α:Type}{ts:List α}{k:Nat}{t:α}{f:α→Int}{a:Int}(h:ts[k]?= some t):((ts.take (k+1)).map f).foldl max a=max (((ts.take k).map f).foldl max a) (f t):=by
 rw[zg,h,yd,ze,xk];rfl
theorem Im(sv:Γ)(ts:List (List Int))(i j:Int)(D:aC)(hS:Sl D RT 9 sv ts)(hne:ts≠[])(hall:∀t∈ts,t.length≤9∧∀x∈t,0≤x∧x≤1)(I:0≤i)(hij:i≤j)(O:j<9):
  Fn prog 76 #[sv,qI i,qI j] D (λ_ v=>v=.agg #[qI (SK ts i.toNat j.toNat),qI (UX ts i.toNat j.toNat)]):=by
 have hl:=hS.len;obtain⟨t0,ht0⟩:∃t,ts[0]?= some t:=⟨ts[0]'(sn.2 hne),yz _⟩
 have ht0m:=GE ht0;have hI:=x9 (hall t0 ht0m).2 i.toNat j.toNat Yd;have hE:=iP (hall t0 ht0m).1;refine Zx 36 func76 C λh0=>aA<|Zag C uP C λq1=>aJ<|Za C<|Zy C U168 eN C hS C ht0 λb1 o1 R U hF V=>?_;obtain rfl:R=ints (gT _):=U;refine cQ C lE C V Yc py n4 C zy<|Zd C (λD1 hJ=>BS t0 _ (hall _ ht0m).1 (hall _ ht0m).2)<|Za C<|Za C<|Zd C (λD2 hK=>Pd t0 i j _ I hij O (hall _ ht0m).2)<|Zf C<|aJ<|Za C<|Za C<|Zw [qI (iH t0 i.toNat j.toNat),qI (iH t0 i.toNat j.toNat)] C JW uP C<|Zag C uP C λq2=>Zaa C jW ζ ?_;refine bD<|Za C<|eQ C U168 C Yn C C zy<|Za C<|aE<|Za4<|fE (γ:=Nat) (λk=>ts.length-k) (λk=>k≤ts.length) (λk=>[(23,qI (k:Int))]) [(22,_),(21,_),(8,_),(6,_),(1,_),(2,_)] (λk=>[(q2,qC [qI (((ts.take k).map λt=>iH t i.toNat j.toNat).foldl min (iH t0 i.toNat j.toNat)),qI (((ts.take k).map λt=>iH t i.toNat j.toNat).foldl max (iH t0 i.toNat j.toNat))] 31),(q1,qC [qI 0,qI 0] 31)]) (λk=>[D]) 0 Yd ⟨Ya,zy⟩ cE zp (aN) ?_;rintro k h1;refine aA<|Zal C<|bX<|Zae C (λhc1=>?_) λhc1=>?_
 ·have hkk:k<ts.length:=Yd
  obtain⟨t,ht⟩:=cF ts k;have htm:=GE ht;obtain⟨htl,htb⟩:=hall t htm;have hN:=iP htl;refine aP<|Za6<|Za4<|aA<|Zy C U168 eN C hS C ht λb2 o2 Y Z hH hB=>?_;obtain rfl:Y=ints (gT _):=Z;refine cQ C lE C hB Yc py n4 C zy<|Zag C vF C λq3=>fG C C C C eN ii Yb ζ Yh zy<|aE<|fS [] 3 [0,1,3,4,2,5,6,7] [false,true,true,true,true,true,false,false] [(false,0),(true,1),(true,3),(true,4),(true,2),(true,5),(false,6),(false,7)] aV (λ_ _ _ h=>eA (P:=prog) (fn:=f76) _ _ _ h) Yg C<|Zah C L8 C zi jW<|bN C lE C zu py n4 C zy<|Za C<|Za C<|Zd C (λD3 hO=>BS t _ (hall _ htm).1 (hall _ htm).2)<|Zd C (λD4 hP=>Pd t i j _ I hij O (hall _ htm).2)<|Zd C (λD5 hR=>wO _ _ _ _) ?_;refine Zaa C jW (.tail ζ)<|Zap<|Wc ?_;rw[←nX ht,←oB ht];exact Zl 14 (k+1) ⟨Ya,zy⟩ C (List.Sublist.cons _ zp)
 ·obtain rfl:k=ts.length:=Yd
  rw[ym,LQ _ _ (by rw[xt,ht0];rfl),IZ _ _ (by rw[xt,ht0];rfl)];refine Za9<|Za5<|Za5<|Zba<|Za2<|aA<|Zah C L8 C zu jW<|Zaa C jW (.tail ζ)<|aG ?_;exact Zp [_] C ⟨⟨_,_,_,C,zi,Or.inr ⟨L8,ja,C⟩⟩,zy⟩ λD hD=>C
theorem CS(rv:Γ)(r:dG)(i j:Int)(D:aC)(hr:nS D rv r):Fn prog 26 #[rv,qI i,qI j] D (λ_ v=>v=.tuple #[.agg (if eJ r (rX r i j)=0 then #[qI (SK (truths r) i.toNat j.toNat),qI (UX (truths r) i.toNat j.toNat)]else #[qI 0,qI 0]),qI (eJ r (rX r i j))]):=by
 have I:=hr;obtain⟨pv,cv,rfl,hp,hc⟩:=hr;refine Zx 30 func26 C λh0=>aA<|Zac C λq1 E1 Z O=>Zag C uP C λq2=>Zf C<|bX<|bK [] 4 11 798<|Zv C oL C O nH<|Zv C oL C O nH<|Za C<|Za C<|Zd C (λD1 V=>QT _ r i j _ (I.up (V _ Yf))) ?_;refine Zz C (λD2 R=>B4 _ r _ _ (I.up (R _ Yf))) λv2 D2 R U=>?_;obtain⟨wv,rfl,hwk⟩:=U;refine Za C<|Zar C<|Zar C<|Zf C<|Zf C<|bD<|Za C<|Za0 C<|aE<|Zae C (λhc1=>?_) λhc1=>?_
 ·refine aA<|Zw [qI 0,qI 0] C JW uP C<|Za C<|Zaa C jW ζ<|Wi ?_;exact Zp [_,_] C ⟨⟨_,_,_,C,zu,Or.inr ⟨L8,ja,C⟩⟩,C,zy⟩ λD hD=>by show Value.tuple _=_;rw[zv hc1]
 ·have he0:eJ r (rX r i j)=0:=Yd
  obtain⟨hok,wb,hB,hE,tv,rfl,hA,U,hc2',ht⟩:=hwk he0;have htn:=YD he0;have hall:=j7 hok;have hpt:=Cp hok he0;refine aP<|aA<|Za C<|Zao C<|Zj C tE C<|Zh 4 C V1 C hA C<|Za C<|Za C<|Zd C (λD3 Y=>Im _ _ i j _ (ht.up RT.up (Y _ Yf)) htn hall hpt.1 hpt.2.1 hpt.2.2)<|Zaa C jW ζ<|Wd ?_;exact Zp [_,_] C ⟨⟨_,_,_,C,zu,Or.inr ⟨L8,ja,C⟩⟩,C,zy⟩ λD hD=>by show Value.tuple _=_;rw[zo he0,he0]
theorem KI(wv:Γ)(t:List Int)(i:Nat)(D:aC)(O:t.length≤9)(hi:i<9):Fn prog 332 #[wv,.agg (ints (gT t)).toArray,qI (i:Int)] D (λ_ v=>v=.bool (d3 i t)):=by
 have hg:=aHY hi O;refine Zx 11 func332 C λh0=>aA<|Zac C λU E1 R I=>Zf C<|aJ<|Za C<|cD C U190 aI C C Yd Yd C zy<|iW C aH C I Yf (dA hg) n4 C zy<|Zat C<|Wd ?_;exact aD C λD hD=>C
theorem YJ(fv wv:Γ)(f:FuncId)(r:dG)(p:Nat→List Int→Bool)(many:Nat)(D:aC)(hfv:fv=.func (.func f) #[] #[])(hw:Rj D wv r)(hok:mV r)(hne:truths r≠[])(hm:many≤9)
  (hf:∀t∈truths r,∀i,i<many→∀D',Le D D'→Fn prog f #[wv,.agg (ints (gT t)).toArray,qI (i:Int)] D' λ_ v=>v=.bool (p i t)):
  Fn prog 333 #[.agg #[fv],wv,qI (many:Int)] D (λD' v=>Sl D' RI 1 v ((List.range many).map λi=>vd (truths r) (p i))):=by
 obtain⟨wb,pv,cv,tv,rfl,hA,hp,hc,ht⟩:=hw;subst hfv;have hl:=ht.len;have hall:=j7 hok;obtain⟨t0,ht0⟩:∃t,(truths r)[0]?= some t:=⟨(truths r)[0]'(sn.2 hne),yz _⟩
 have ht0m:=GE ht0;have hp90:=iP (hall t0 ht0m).1;refine Zx 52 func333 C λh0=>aA<|Zac C λq1 E1 hE1 Z=>Zf C<|bD<|Za C<|Za C<|aE<|Za4<|Zc (Nat×Γ×aF) (λg=>many-g.1) (λg=>g.1≤many∧bM 3 1 g.2.1 g.1 (ints ((List.range g.1).map λi=>vd (truths r) (p i))) g.2.2) (λg=>[(13,qI (g.1:Int)),(6,g.2.1)]) [(12,_),(3,_),(1,_)] (λg=>g.2.2++[]) (λg=>[E1,D]) (0,qN,[]) ⟨Yf,qz⟩ ⟨Ya,Ya,zy⟩ zp ?_;rintro⟨k,v,ν⟩ ⟨h1,ha⟩;refine aA<|Zal C<|bX<|Zae C (λhc1=>?_) λhc1=>?_
 ·refine aP<|Za6<|Za4<|aA<|Za C<|Zf C<|aE<|Tt<|Za6<|bK [] 6 12 1020<|Zj C CI C<|Zh 0 C ST C Z C ?_;refine Za C<|Za C<|Zao C<|Zj C tE C<|Zh 4 C V1 C hA C<|Zy C U168 eN C ht C ht0 λb1 o1 hH hI hcl1 hJ=>?_;obtain rfl:hH=ints (gT _):=hI;refine cQ C lE C hJ Yc py n4 C zy<|Za C<|Zd C (λD1 hK=>hf t0 ht0m k Yd _ (hK _ Yf))<|Zf C<|aJ<|Zf C<|bD<|Za C<|aE<|Zai C (λhc2=>?_) (λhc2=>?_)
  ·refine aM<|Zf C<|bX<|TE<|Za2<|bL<|Za C<|Zao C<|Zj C tE C<|Zh 4 C V1 C hA C<|eQ C U168 C Yn C C zy<|Za C ?_;refine aE<|Za4<|cW (γ:=Nat) (λj=>(truths r).length-j) (λj=>j≤(truths r).length∧((truths r).take j).all (λt=>p k t==p k t0)=true) (λj=>[(33,qI (j:Int))]) [(32,_),(31,_),(30,_),(29,_),(28,_),(9,_),(27,_),(8,_),(26,_),(25,_),(24,_),(23,_),(22,_),(21,_),(20,_),(19,_),(18,_),(17,_),(16,_),(7,_),(15,_),(14,_),(13,_),(6,_),(12,_),(3,_),(1,_)] (λj=>[E1,D]) 0 Yf ⟨Ya,zy⟩ cE (aN) ?_;rintro j ⟨h3,h4⟩;refine aA<|Zal C<|bX<|Zae C (λhc3=>?_) (λhc3=>?_)
   ·have hj:j<(truths r).length:=Yd
    obtain⟨t,I⟩:=cF (truths r) j;have htm:=GE I;obtain⟨htl,htb⟩:=hall t htm;have hN:=iP htl;refine aP<|Za6<|Za4<|aA<|Zy C U168 eN C ht C I λb2 o2 hO hP hcl2 hR=>?_;obtain rfl:hO=ints (gT _):=hP;refine cQ C lE C hR Yc py n4 C zy<|Zag C vF C λq2=>fG C C C C eN ii Yb ζ Yh zy<|aJ<|Zj C CI C<|Zh 0 C ST C Z C<|Za C<|bN C lE C zu py n4 C zy<|Za C<|Zd C (λD2 hE=>hf t htm k Yd _ (hE _ Yf))<|Za C<|CR C U4 C C C zy ?_;refine aE<|Zai C (λhc4=>?_) λhc4=>?_
    ·have hv:vd (truths r) (p k)=3:=Pp ht0 I hc4;refine aA<|Zf C<|aE<|Za9<|yE C<|Za5<|Za5<|Zba<|Za2<|aM<|ub ?_;refine Zu C U35 aI cN C (.cons C C .nil) λb901 D901 hS R=>?_;have hX:=Sl.ofInts (l:=[_]) (n:=1) (cap:=1) R C Yd Yd;refine aT (A:=[(_,_)]) (B:=_) C U35 C C aI cN C jV C C C ha (kX.lit R) Yf C Yf Ym Yd (zq C) C zy λv1 ν1 ha1=>?_;have O:bM 3 1 v1 (k+1) (ints ((List.range (k+1)).map λi=>vd (truths r) (p i))) ν1:=by rw[yb,ze,tn,hv,←eL];exact ha1
     refine Zf C<|Zap<|H5<|Wc ?_;exact aK 45 (k+1,v1,ν1) ⟨Yl,O⟩ Yl ⟨Ya,Ya,zy⟩ C C (List.Sublist.cons _ zp) λD h=>⟨D,zb _ (h),Le.refl D⟩
    ·have hcc:=hc4;refine xi ?_;exact aK 15 (j+1) ⟨Yd,Sh I h4 hcc⟩ Yd ⟨Ya,zy⟩ C C (List.Sublist.cons _ zp) (aN)
   ·have hv:vd (truths r) (p k)=1:=by rw[Pu ht0 Yd h4,zo (by simp[hc2])]
    refine Za9<|Za5<|Za5<|Zba<|Za2<|aM<|Za C<|Za C<|Zu C U35 aI cN C (.cons C C .nil) λb902 D902 hY U=>?_;have rA:=Sl.ofInts (l:=[_]) (n:=1) (cap:=1) U C Yd Yd;refine aT (A:=[]) (B:=_) C U35 C C aI cN C jV C C C ha (kX.lit U) Yf C Yf Ym Yd (zq C) C zy λv2 ν2 O=>?_;have O:bM 3 1 v2 (k+1) (ints ((List.range (k+1)).map λi=>vd (truths r) (p i))) ν2:=by rw[yb,ze,tn,hv,←eL];exact O
    refine Zf C<|Zap<|H5<|Wc ?_;exact aK 33 (k+1,v2,ν2) ⟨Yl,O⟩ Yl ⟨Ya,Ya,zy⟩ C C zp λD h=>⟨D,zb _ (h),Le.refl D⟩
  ·refine aP<|Za6<|TE<|Za2<|bL<|Za C<|Zao C<|Zj C tE C<|Zh 4 C V1 C hA C<|eQ C U168 C Yn C C zy<|Za C<|aE ?_;refine Za4<|cW (γ:=Nat) (λj=>(truths r).length-j) (λj=>j≤(truths r).length∧((truths r).take j).all (λt=>p k t==p k t0)=true) (λj=>[(33,qI (j:Int))]) [(32,_),(31,_),(30,_),(29,_),(28,_),(27,_),(9,_),(8,_),(26,_),(25,_),(24,_),(23,_),(22,_),(21,_),(20,_),(19,_),(18,_),(17,_),(16,_),(7,_),(15,_),(14,_),(13,_),(6,_),(12,_),(3,_),(1,_)] (λj=>[E1,D]) 0 Yf ⟨Ya,zy⟩ cE (aN) ?_;rintro j ⟨h3,h4⟩;refine aA<|Zal C<|bX<|Zae C (λrB=>?_) (λrB=>?_)
   ·have hj:j<(truths r).length:=Yd
    obtain⟨t,I⟩:=cF (truths r) j;have htm:=GE I;obtain⟨htl,htb⟩:=hall t htm;have hN:=iP htl;refine aP<|Za6<|Za4<|aA<|Zy C U168 eN C ht C I λb3 o3 cs3 hr3 hcl3 hA3=>?_;obtain rfl:cs3=ints (gT _):=hr3;refine cQ C lE C hA3 Yc py n4 C zy<|Zag C vF C λq3=>fG C C C C eN ii Yb ζ Yh zy<|aJ<|Zj C CI C<|Zh 0 C ST C Z C<|Za C<|bN C lE C zu py n4 C zy<|Za C<|Zd C (λD3 hD3=>hf t htm k Yd _ (hD3 _ Yf))<|Za C<|CR C U4 C C C zy ?_;refine aE<|Zai C (λhB=>?_) λhB=>?_
    ·have hv:vd (truths r) (p k)=3:=Pp ht0 I hB;refine aA<|Zf C<|aE<|Za9<|yE C<|Za5<|Za5<|Zba<|Za2<|aM<|ub ?_;refine Zu C U35 aI cN C (.cons C C .nil) λb903 D903 hD903 V=>?_;have hS903:=Sl.ofInts (l:=[_]) (n:=1) (cap:=1) V C Yd Yd;refine aT (A:=[(_,_)]) (B:=_) C U35 C C aI cN C jV C C C ha (kX.lit V) Yf C Yf Ym Yd (zq C) C zy λv3 ν3 ha3=>?_;have O:bM 3 1 v3 (k+1) (ints ((List.range (k+1)).map λi=>vd (truths r) (p i))) ν3:=by rw[yb,ze,tn,hv,←eL];exact ha3
     refine Zf C<|Zap<|H5<|Wc ?_;exact aK 45 (k+1,v3,ν3) ⟨Yl,O⟩ Yl ⟨Ya,Ya,zy⟩ C C (List.Sublist.cons _ zp) λD h=>⟨D,zb _ (h),Le.refl D⟩
    ·have hcc:=hB;refine xi ?_;exact aK 15 (j+1) ⟨Yd,Sh I h4 hcc⟩ Yd ⟨Ya,zy⟩ C C (List.Sublist.cons _ zp) (aN)
   ·have hv:vd (truths r) (p k)=2:=by rw[Pu ht0 Yd h4,zv (by simp[hc2])]
    refine Za9<|Za5<|Za5<|Zba<|Za2<|aM<|Za C<|Za C<|Zu C U35 aI cN C (.cons C C .nil) λb904 D904 hD904 Y=>?_;have hS904:=Sl.ofInts (l:=[_]) (n:=1) (cap:=1) Y C Yd Yd;refine aT (A:=[]) (B:=_) C U35 C C aI cN C jV C C C ha (kX.lit Y) Yf C Yf Ym Yd (zq C) C zy λv4 ν4 ha4=>?_;have O:bM 3 1 v4 (k+1) (ints ((List.range (k+1)).map λi=>vd (truths r) (p i))) ν4:=by rw[yb,ze,tn,hv,←eL];exact ha4
    refine Zf C<|Zap<|H5<|Wc ?_;exact aK 33 (k+1,v4,ν4) ⟨Yl,O⟩ Yl ⟨Ya,Ya,zy⟩ C C zp λD h=>⟨D,zb _ (h),Le.refl D⟩
 ·obtain rfl:k=many:=Yd
  refine Za9<|Za5<|Za5<|Zba<|Za2<|aA<|Za C<|Zf C<|aG<|dE (A:=[]) (B:=[]) ha C λD2 hE hF=>?_;exact aD C λD hD=>(hF.ints Yf Yd).up RI.up (hD _ Yf)
theorem aRI(rv:Γ)(r:dG)(D:aC)(hr:nS D rv r):Fn prog 292 #[rv] D (λD' v=>∃lv,v=.tuple #[lv,qI (eJ r true)]∧Sl D' RI 1 lv (if eJ r true=0 then(List.range r.places.length).map (λi=>vd (truths r) (d3 i))else [])):=by
 have V:=hr;obtain⟨pv,cv,rfl,hp,hc⟩:=hr;have hl1:=hp.len;have hE:=hc.len;refine Zx 20 func292 C λh0=>aA<|Zac C λq1 E1 hF R=>Zf C<|Zf C<|aJ<|Zv C oL C R nH<|Zz C (λD1 U=>B4 _ r _ _ (V.up (U _ Yf))) λv1 D1 U Y=>?_;obtain⟨wv,rfl,hwk⟩:=Y;refine Za C<|Zar C<|Zar C<|Zf C<|Zf C<|bD<|Za C<|Za0 C<|aE<|Zae C (λhc1=>?_) λhc1=>?_
 ·refine qg ?_;exact Zp [_,_] C cE λD hD=>⟨_,C,by rw[zv hc1];exact Sl.nil⟩
 ·have he0:eJ r true=0:=Yd
  obtain⟨hok,wb,Z,hB,tv,rfl,hA,O,hc2',ht⟩:=hwk he0;have htn:=YD he0;have hall:=j7 hok;refine aP<|aA<|Zw [.func (.func 332) #[] #[]] C Yaf Xda C<|Za C<|Zj C fQ C<|Zh 0 C bW C R C<|Zaj C U35 C hp C<|Zz C (λD2 I=>YJ _ _ 332 r (d3) r.places.length _ C ⟨wb,Z,hB,tv,C,hA.up (I _ Yf),O.up RI.up (I _ Yf),hc2'.up RC.up (I _ Yf),ht.up RT.up (I _ Yf)⟩ hok htn (by have:=hok.len9;have:=hok.cnt6;omega) λt htm i hi D2 hl=>KI _ t i D2 (hall t htm).1 kv) λv2 D2 I O=>tg ?_
  exact Zp [_,_] C cE λD hD=>⟨_,by rw[he0];rfl,by rw[zo he0];exact O.up RI.up (hD _ Yf)⟩
end L1
open Go.Proofs
namespace L1
open C1
end L1
namespace L1
end L1
namespace L1
open C1
theorem aTE(rv:Γ)(r:dG)(D:aC)(hr:nS D rv r):Fn prog 45 #[rv] D (λ_ v=>v=.tuple #[qI (pF r),qI (CH r)]):=by
 have O:=hr;obtain⟨pv,cv,rfl,hp,hc⟩:=hr;refine QU 47 func45 C C C C λh0=>aA<|Zac C λq1 E1 hJ R=>Zf C<|Zf C<|bD<|Zv C oL C R nH<|Zd C (λD1 Y=>EV _ r _ (O.up (Y _ Yf)))<|mu ?_;refine aE<|Zae C (λhc1=>?_) λhc1=>?_
 ·refine qg ?_;exact yI (vs:=[_,_]) C C C cE λD hD=>by show Value.tuple _=_;rw[pF,CH,zo hc1,zo hc1]<;>rfl
 ·have hok:mV r:=V5.1 Yd;refine aP<|aA<|Zag C cN C λq2=>Zag C rJ C λq3=>Zs C aI (.tail ζ) C<|Zs C nM ζ C<|aJ<|Zag C vF C λq4=>bD<|Zv C oL C R nH<|Zz C (λD2 V=>Uo _ r _ (O.up (V _ Yf)) hok.len9) λv2 D2 V Z=>aE ?_;refine Za4 ?_;obtain⟨br,rfl,hit⟩:=Z;refine yO (γ:=Option Int×List Int) (xs:=(bP r.places).map gT) (enc:=SP) (Dr:=D2) (R6 r) (λ_ _ _=>False) (λg=>[(q4,qC (ints g.2) 190),(q3,qC [.bool g.1.isSome] 4),(q2,qC [qI (g.1.getD 0)] 3)]) (none,List.replicate 9 0) C C C C hit Yf (λ_=>C) C ⟨C,C,λu hu=>by simp at hu⟩ C ?_ ?_ (λ_ _ _ _ h=>h.elim)
  ·rintro pre x ⟨o,last⟩ ⟨us,hx⟩ hΦ l bd rec hh D7 hK hst hpend;obtain⟨t,hk,rfl,htm,htake⟩:=X1 hx;obtain⟨hlen,htb⟩:=pZ htm;have htr:oS r t:=⟨hlen,htb⟩
   have U:=iP (t:=t) kv;have hB:last.length=9:=hΦ.2.1;refine aM<|Zag C vF C λq5=>Zaa C eN ζ<|Zap ?_;refine λa w hhh=>X6 (A:=[(_,_),(_,_),(_,_),(_,_)]) (B:=[(bd,.deferred (some []))]) (r:=rec) (l:=l) xa hst ?_ a w hhh
   refine Za4<|bL<|Zq C JE C xq C<|Za C ?_;refine' bU 4 (s:=20) (p:=24) C (λhE=>?_) (λhE=>?_) ?_;rotate_left
   ·refine bN C lE C zu pr n4 C ⟨_,C,C⟩<|bN C lE C zi pr n4 C ⟨_,C,C⟩<|dn C Yg U190 U3 Yg U hB C C C ⟨_,C,C⟩<|Zam C ?_;exact aQ 3
   ·refine Wb ?_;exact aQ 3
   refine aE<|Zai C (λhc2=>?_) λhc2=>?_
   ·refine Za9<|Za5<|Zba ?_;exact λa w hh=>jT (A:=[(_,_),(_,_),(_,_)]) (B:=[(bd,.deferred (some []))]) (o,last) (Ml hΦ htm htake hc2) C C a w (hh.dropBoxes 1)
   ·refine aP<|aA<|bN C lE C zu pr n4 C zy<|Zaa C eN (.tail ζ)<|bX<|vR [] 4 9 198 (λ_ _ _ h=>h)<|Zv C oL C R nH<|bN C lE C zu pr n4 C zy<|Zd C (λD3 hN=>BS t _ kv htb)<|Zd C (λD4 hF=>VQ _ r t _ (O.up (hF _ Yf)) hok htr)<|Za C<|Zar C ?_;refine Zar C<|Zf C<|Zf C<|aJ<|ub ?_;refine' bU 8 (s:=34) (p:=42) C (λhH=>?_) (λhH=>?_) ?_;rotate_left
    ·refine Zr C JE C xq C<|Zaw C<|Zb C ?_;refine' dU 4 (s:=37) (p:=41) C (λhI=>?_) (λhI=>?_) ?_;rotate_left
     ·refine Zb C<|Zr C aH C ue C<|IU C C C C ⟨_,C,C⟩<|oU C C C C ⟨_,C,C⟩ ?_;exact aQ 3
     ·refine Zg C<|Wt ?_;exact aQ 3
     refine Zam C ?_;exact aQ 4
    ·refine Zg C<|Wo ?_;exact aQ 7
    refine aE<|Zai C (λhc3=>?_) λhc3=>?_
    ·refine aM<|Za C<|Zs C aI (.tail (.tail (.tail ζ))) C<|Zs C nM (.tail (.tail ζ)) C<|Zap<|Za7 ?_;exact λa w hh=>jT (A:=[(_,_),(_,_),(_,_)]) (B:=[(bd,.deferred (some []))]) (some (if cK r t=true then(jM r t:Int)else 0),gT t) (Ex hΦ U htake hc3) C C a w (hh.dropBoxes 1)
    ·refine bE<|Za7 ?_;exact λa w hh=>jT (A:=[(_,_),(_,_),(_,_)]) (B:=[(bd,.deferred (some []))]) (o,gT t) (aGK hΦ U htake hc3) C C a w (hh.dropBoxes 1)
  ·rintro⟨o,last⟩ bd hΦ;have ho:o=fL r (bP r.places):=by simpa [R6]using hΦ.1
   have I:aW r=0:=Yd
   refine Za7<|Za2<|bL<|Zq C JE C zi C<|Zav C<|aE<|Zai C (λhc4=>?_) λhc4=>?_
   ·refine aA<|Zf C<|Wi ?_;exact I8 (vs:=[_,_]) (A:=[(_,_),(_,_),(_,_)]) C C C cE λD hD=>by show Value.tuple _=_;rw[(YU ho I hc4).1,(YU ho I hc4).2]<;>rfl
   ·refine aP<|aA<|Zq C aH C xq C<|tg ?_;exact I8 (vs:=[_,_]) (A:=[(_,_),(_,_),(_,_)]) C C C cE λD hD=>by show Value.tuple _=_;rw[(XP ho I hc4).1,(XP ho I hc4).2]<;>rfl
end L1
structure MF(P:Program)(k:Θ){α:Type}[DecidableEq α](val:α→Γ):Prop where
 und:∃fs,P.underlying k=some (.struct fs)
 eq:∀a b w,(Op.equal k (val a) (val b)).run P w=.ok (decide (a=b)) w
 chk:∀em a w,(Instr.checkKey em 10000 k (val a)).run P w=.ok () w
 stay:∀a,Instr.sameBits 10000 (val a) (val a)=true
 agg:∀a,∃cs,val a=.agg cs
variable{α β:Type}[DecidableEq α]{val:α→Γ}{wal:β→Γ}
def Y7(val:α→Γ)(wal:β→Γ)(es:Array MapEntry)(M:List (α×β)):Prop:=es.toList.map (λe=>(e.key,e.val))=M.map λx=>(val x.1,wal x.2)
def Q0(a:α):List (α×β)→Nat→Option (Nat×β)
 | [],_=>none
 |(b,n)::M,i=>if a=b then some (i,n)else Q0 a M (i+1)
theorem Y2{a:α}:∀{M:List (α×β)} {i j:Nat} {n:β},Q0 a M i=some (j,n)→∃k,j=i+k∧M[k]?= some (a,n)
 |(b,m)::M,i,j,n,h=>by
  simp only[Q0]at h;split at h
  ·rename_i he;cases h;exact⟨0,C,by rw[he];rfl⟩
  ·obtain⟨k,rfl,hk⟩:=Y2 h;exact⟨k+1,Yd,kx⟩
theorem C4{k:Θ}(h:MF P k val)(a:α)(w:Δ):∀(es:List MapEntry) (M:List (α×β)) (i:Nat),es.map (λe=>(e.key,e.val))=M.map (λx=>(val x.1,wal x.2))→
  (Instr.findAsking k (val a) es i).run P w=.ok ((Q0 a M i).map λp=>(p.1,wal p.2)) w
 | [],[],i,_=>rfl
 | [],_::_,i,hm=>by simp at hm
 |e::es,[],i,hm=>by simp at hm
 |e::es,(b,n)::M,i,hm=>by
  simp only[yl,vx,ux]at hm;obtain⟨⟨hk,hv⟩,hm⟩:=hm;simp only[Instr.findAsking,Ω,hk,h.eq,Ξ,Q0];by_cases he:a=b
  ·subst he;simp only[decide_true,yo,ε,hv];rfl
  ·simp only[he,decide_false,wt,xx];exact C4 h a w es M (i+1) hm
theorem yV{k:Θ}(h:MF P k val)(a:α)(w:Δ){es:List MapEntry}{M:List (α×β)}(hm:es.map (λe=>(e.key,e.val))=M.map λx=>(val x.1,wal x.2)):
  (Instr.findKey k (val a) es).run P w=.ok ((Q0 a M 0).map λp=>(p.1,wal p.2)) w:=by
 obtain⟨fs,hu⟩:=h.und;unfold Instr.findKey;rw[Ω,TU.of hu w];cases es with
 |nil=>
  cases M with
  |nil=>rfl
  |cons x M=>simp at hm
 |cons e es=>
  have hn:Instr.findNow (.struct fs) (val a) (e::es) 0=none:=by
   obtain⟨cs,hc⟩:=h.agg a;rw[hc];rfl
  simp only[Ξ,hn];exact C4 h a w (e::es) M 0 hm
theorem NW{t k e:Θ}{b clock:Nat}{es:Array MapEntry}{M:List (α×β)}{a:α}(ho:G[ix]?= some ⟨some d,.lookup t x y true,ty,pos,aft,g⟩)(ht:P.underlying t=some (.map k e))(hk:MF P k val){z0:Γ}(hz:TZ P e z0)
  (hx:ev T x=some (.map (some b))) (hy:ev T y=some (val a)) (hm:(b,Obj.map es clock)∈L) (hb:b∉H) (hM:Y7 val wal es M) (hN:Nat.blt d X.N=true) (hg:dF G T g)
  (kk:∀n ok,(ok=true→∃r,n=wal r∧(a,r)∈M)→(ok=false→n=z0)→WL P X H G K Q os ((d,.tuple #[n,.bool ok])::T) L W):WL P X H G K Q ((fl,ix)::os) T L W:=by
 have run:∀w,w.heap[b]?= some (Obj.map es clock)→(Instr.lookup t (.map (some b)) (val a) true).run P w=.ok (.tuple #[(match Q0 a M 0 with|some (_,v)=>wal v|none=>z0),.bool (Q0 a M 0).isSome]) w:=by
  intro w hw;have hf:=yV hk a w hM;unfold Instr.lookup;simp only[Ω,TU.of ht w,Ξ,qQ hw,ε,hk.chk];rw[hf];cases Q0 a M 0 with
  |none=>simp only[vy,Ξ,Ω,hz w,ε];rfl
  |some r=>obtain⟨j,v⟩:=r;simp only[xo,Ξ];rfl
 refine qA ho C C hN hg (λa' w hh w' hk'=>?_) (kk (match Q0 a M 0 with|some (_,v)=>wal v|none=>z0) (Q0 a M 0).isSome (λhok=>?_) λhok=>?_)
 ·simp only[execOp,hh.eval hx,hh.eval hy,Ω,run w' (hh.boxAt hm hb hk'),Ξ,ε]
 ·cases hp:Q0 a M 0 with
  |none=>rw[hp]at hok;cases hok
  |some r=>
   obtain⟨j,n⟩:=r;obtain⟨i,_,hi⟩:=Y2 hp;exact⟨n,C,GE hi⟩
 ·cases hp:Q0 a M 0 with
  |none=>rfl
  |some r=>rw[hp]at hok;cases hok
theorem DF{t k e:Θ}{b clock:Nat}{es:Array MapEntry}{M:List (α×β)}{a:α}{n:β}{A B:aF}(ho:G[ix]?= some ⟨none,.mapUpdate t x y z,ty,pos,aft,g⟩)(ht:P.underlying t=some (.map k e))(hk:MF P k val)
  (hx:ev T x=some (.map (some b))) (hy:ev T y=some (val a)) (hz:ev T z=some (wal n)) (hM:Y7 val wal es M) (hg:dF G T g)
  (kk:∀es' clock' M',Y7 val wal es' M'→(∀p∈M',p∈M∨p=(a,n))→WL P X H G K Q os T (A++(b,.map es' clock')::B) W):WL P X H G K Q ((false,ix)::os) T (A++(b,.map es clock)::B) W:=by
 refine fW ho C C hg λa' w hh=>?_
 obtain⟨h1,h2,h3,D,h4,h5,O⟩:=id hh;have hw:=(h4.box (b,.map es clock) Yf).1;have run:∃es' clock' M',Y7 val wal es' M'∧(∀p∈M',p∈M∨p=(a,n))∧(Instr.mapUpdate t (.map (some b)) (val a) (wal n)).run P w=.ok () {w with heap:=w.heap.setIfInBounds b (.map es' clock')}:=by
  have hf:=yV hk a w hM;have hset:∀o,(setObj b o).run P w=.ok () {w with heap:=w.heap.setIfInBounds b o}:=λo=>by simp[setObj,Sem.run,hw]
  cases hp:Q0 a M 0 with
  |none=>
   refine⟨es.push {key:=val a,val:=wal n,born:=clock},clock+1,M++[(a,n)],?_,λp hp=>by simpa using hp,?_⟩
   ·unfold Y7 at hM ⊢
    rw[Array.toList_push,ze,ze,hM];rfl
   ·unfold Instr.mapUpdate;simp only[Ω,TU.of ht w,Ξ,qQ hw,hk.chk];rw[hf,hp];simp only[vy,Ξ,hset]
  |some r=>
   obtain⟨j,m⟩:=r;obtain⟨i,I,hi⟩:=Y2 hp;rw[wo]at I;subst I
   have hMi:∀i,(es.toList[i]?).map (λe:MapEntry=>(e.key,e.val))=(M[i]?).map (λx:α×β=>(val x.1,wal x.2)):=λi=>by rw[←xt,←xt,hM]
   have hj:=hMi j;rw[hi]at hj;obtain⟨e0,he0,hke⟩:=s_.1 hj;simp only[ux]at hke;have he0':es[j]?= some e0:=by simpa using he0
   refine⟨es.modify j λe=>{e with key:=val a,val:=wal n},clock,M.set j (a,n),?_,λp hp=>(List.mem_or_eq_of_mem_set hp),?_⟩
   ·unfold Y7;apply List.ext_getElem?;intro q;rw[xt,xt,Array.getElem?_toList,Array.getElem?_modify,List.getElem?_set];have hq:=hMi q;rw[Array.getElem?_toList]at hq;by_cases hjq:j=q
    ·subst hjq;have hlt:=(yx.1 hi).1;simp[he0',hlt]
    ·simp only[hjq,xx];exact hq
   ·have hks:(Instr.keyThatStays (val a) (val a)).run P w=.ok (val a) w:=by
     have:Instr.sameBits 10000 (val a) (val a)=true:=hk.stay a;unfold Instr.keyThatStays;rw[zo this,ε]
    unfold Instr.mapUpdate;simp only[Ω,TU.of ht w,Ξ,qQ hw,hk.chk];rw[hf,hp];simp only[xo,Ξ,he0',va,hke.1,Ω,hks,hset]
 obtain⟨es',clock',M',hM',hmem,hr⟩:=run;have hHas:bO (A++(b,Obj.map es clock)::B) b (.map es clock) (.map es' clock') (A++(b,.map es' clock')::B):=.app .head;have hs:=h4.set (w':={w with heap:=w.heap.setIfInBounds b (.map es' clock')}) hHas ⟨C,C⟩ trivial;have:(execOp a'.eval ⟨none,.mapUpdate t x y z,ty,pos,aft,g⟩).run P w=.ok .skip {w with heap:=w.heap.setIfInBounds b (.map es' clock')}:=by
  simp only[execOp,hh.eval hx,hh.eval hy,hh.eval hz,Ω,hr,Ξ,ε]
 rw[this];exact⟨λh=>vu,kk es' clock' M' hM' hmem _ _ ⟨h1,h2,h3,D,hs,h5,O.step (λ_ p hp=>zq Yw) (λ_=>mK ⟨C,C⟩ (n5.2 ⟨_,hHas.mem,C⟩)) hs.dom⟩⟩

def Q2(val:α→Γ)(es:Array MapEntry)(M:List (α×Int)):Prop:=Y7 val (Value.int .i64) es M
theorem Jz{t k e:Θ}{b clock:Nat}{es:Array MapEntry}{M:List (α×Int)}{a:α}(ho:G[ix]?= some ⟨some d,.lookup t x y true,ty,pos,aft,g⟩)(ht:P.underlying t=some (.map k e))(hk:MF P k val)(hz:TZ P e (qI 0))
  (hx:ev T x=some (.map (some b))) (hy:ev T y=some (val a)) (hm:(b,Obj.map es clock)∈L) (hb:b∉H) (hM:Q2 val es M) (hN:Nat.blt d X.N=true) (hg:dF G T g)
  (kk:∀n ok,(ok=true→(a,n)∈M)→WL P X H G K Q os ((d,.tuple #[qI n,.bool ok])::T) L W):WL P X H G K Q ((fl,ix)::os) T L W:=
 NW (wal:=Value.int .i64) ho ht hk hz hx hy hm hb hM hN hg λn ok h1 h2=>by
  cases ok with
  |true=>obtain⟨r,rfl,hr⟩:=h1 C;exact kk r true λ_=>hr
  |false=>rw[h2 C];exact kk 0 false λh=>by cases h
theorem Hs{t k e:Θ}{b clock:Nat}{es:Array MapEntry}{M:List (α×Int)}{a:α}{n:Int}{A B:aF}(ho:G[ix]?= some ⟨none,.mapUpdate t x y z,ty,pos,aft,g⟩)(ht:P.underlying t=some (.map k e))(hk:MF P k val)
  (hx:ev T x=some (.map (some b))) (hy:ev T y=some (val a)) (hz:ev T z=some (qI n)) (hM:Q2 val es M) (hg:dF G T g)
  (kk:∀es' clock' M',Q2 val es' M'→(∀p∈M',p∈M∨p=(a,n))→WL P X H G K Q os T (A++(b,.map es' clock')::B) W):WL P X H G K Q ((false,ix)::os) T (A++(b,.map es clock)::B) W:=
 DF (wal:=Value.int .i64) ho ht hk hx hy hz hM hg kk

structure zA(n:Nat) where
 l:List Int
 h:l.length=n
deriving DecidableEq
def ET{n:Nat}(a:zA n):Γ:=.agg (ints a.l).toArray
def KA(P:Program)(k:Θ)(n:Nat):Prop:=∃f0 f1 e,P.underlying k=some (.struct (P.fieldsOf k))∧P.stoodInHeld k=false∧P.fieldsOf k=#[f0,f1]∧f0.name≠ "_" ∧f1.name≠ "_" ∧f0.offset=0∧f1.offset=1∧
 P.underlying f0.type=some (.int .i64)∧P.underlying f1.type=some (.array n e)∧P.underlying e=some (.int .i64)∧P.cellsOf e=1∧TA P f1.type true∧TS P f1.type n∧TS P e 1
theorem Bs{t:Θ}{n:Nat}(ha:TA P t true)(hs:TS P t n){l:List Int}(hl:l.length=n+1)(w:Δ):(part t (ints l).toArray 1).run P w=.ok (.agg (ints (l.drop 1)).toArray) w:=by
 unfold part;simp only[Ω,ha w,Ξ,yo,hs w,ε];congr 2;apply Array.ext';simp only[Array.toList_extract,List.extract_eq_take_drop,ints,List.map_drop];rw[ww xw]
theorem KA.key{k:Θ}{n:Nat}(h:KA P k n):MF P k (ET (n:=n+1)):=by
 obtain⟨f0,f1,e,hu,hst,hf,I,O,U,V,t0,t1,te,hc,ha,hs,hse⟩:=h;have hsplit:∀a:zA (n+1),∃x r,a.l=x::r∧r.length=n:=by
  rintro⟨l,hl⟩;cases l with
  |nil=>simp at hl
  |cons x r=>exact⟨x,r,C,uu⟩
 have p0:∀(x:Int) (r:List Int) (w:Δ),(part f0.type (ints (x::r)).toArray f0.offset).run P w=.ok (qI x) w:=λx r w=>gL t0 (by rw[U];rfl) w
 have p1:∀(x:Int) (r:List Int) (w:Δ),r.length=n→(part f1.type (ints (x::r)).toArray f1.offset).run P w=.ok (.agg (ints r).toArray) w:=λx r w hr=>by
  rw[V];exact Bs ha hs (l:=x::r) (by simp[hr]) w
 refine⟨⟨_,hu⟩,λa b w=>?_,λem a w=>?_,λa=>?_,λa=>⟨_,C⟩⟩
 ·obtain⟨x,r,ea,hr⟩:=hsplit a;obtain⟨x',r',eb,hr'⟩:=hsplit b;have he:=run_equalIn_struct (P:=P) w 9999 k (ints (x::r)).toArray (ints (x'::r')).toArray hu hst;have hab:decide (a=b)=((x==x')&&(r==r')):=by
   rw[vv];simp only[LE,zl,th];constructor
   ·rintro rfl;rw[ea]at eb;exact List.cons.inj eb
   ·rintro⟨h1,h2⟩;obtain⟨la,ha'⟩:=a;obtain⟨lb,hb'⟩:=b;simp only at ea eb;subst ea eb h1 h2;rfl
  show(Op.equalIn (9999+1) k (.agg (ints a.l).toArray) (.agg (ints b.l).toArray)).run P w=_;rw[ea,eb,he,hf,hab];have e0:=run_equalIn_int w 9998 f0.type .i64 .i64 x x' t0;obtain⟨inf,hinf⟩:=info_of_underlying te;have R:=run_equalIn_array (P:=P) w 9998 (ints r).toArray (ints r').toArray t1 hinf;rw[hc,oY 9997 te r r' w (List.range n) λj hj=>by have:=yj.1 hj;omega,J8 hr hr']at R
  have Y:(Op.eqFields 9999 (ints (x::r)).toArray (ints (x'::r')).toArray [f1]).run P w=.ok (r==r') w:=by
   simp only[Op.eqFields,O,ne_eq,p_,yo,Ω,p1 _ _ _ hr,p1 _ _ _ hr',Ξ];rw[R];simp only[Ξ];cases r==r'<;>rfl
  show(Op.eqFields 9999 (ints (x::r)).toArray (ints (x'::r')).toArray (f0::[f1])).run P w=_;rw[Op.eqFields,zo I];simp only[Ω,p0,Ξ];rw[e0];simp only[Ξ];cases hx:x==x' with
  |true=>
   simp only[Bool.not_true,wt,xx,v_];rw[Y]
  |false=>simp only[Bool.not_false,yo,ε,Bool.false_and]
 ·obtain⟨x,r,ea,hr⟩:=hsplit a;have c0:(Instr.checkKey em (9998+1) f0.type (qI x)).run P w=.ok () w:=by
   rw[Instr.checkKey,Ω,TU.of t0 w];rfl
  have ce:∀m:Int,(Instr.checkKey em (9997+1) e (qI m)).run P w=.ok () w:=λm=>by
   rw[Instr.checkKey,Ω,TU.of te w];rfl
  have c1:(Instr.checkKey em (9998+1) f1.type (.agg (ints r).toArray)).run P w=.ok () w:=by
   rw[Instr.checkKey,Ω,TU.of t1 w];simp only[Ξ];rw[Std.Legacy.Range.forIn_eq_forIn_range'];have key:∀(is:List Nat),(∀i∈is,i<n)→((forIn is PUnit.unit λi _=>do Instr.checkKey em 9998 e (←part e (ints r).toArray (i*(←sizeOf e)));Pure.pure (ForInStep.yield PUnit.unit):Sem PUnit)).run P w=.ok PUnit.unit w:=by
    intro is;induction is with
    |nil=>intro _;rfl
    |cons i is ih=>
     intro hi;have hlt:=hi i zj;have g1:(ints r).toArray[i*1]?= some (qI r[i]):=by rw[xp];simpa using dA (yz (show i<r.length by omega))
     rw[List.forIn_cons];simp only[Ω,hse w,Ξ,gL te g1];rw[ce];simp only[Ξ,ε];exact ih λj hj=>hi j (GT _ hj)
   have:=key (List.range' 0 n) λi hi=>wy;simpa using this
  show(Instr.checkKey em (9999+1) k (.agg (ints a.l).toArray)).run P w=_;rw[ea,Instr.checkKey,Ω,TU.of hu w];simp only[Ξ];rw[hf,←Array.forIn_toList];simp only[List.forIn_cons,List.forIn_nil,I,O,ne_eq,p_,yo,Ω,p0,Ξ,ε];rw[c0];simp only[Ξ,ε,Ω,p1 _ _ _ hr];rw[c1];simp
 ·show Instr.sameBits (9999+1) (.agg (ints a.l).toArray) (.agg (ints a.l).toArray)=true;simp only[Instr.sameBits,beq_self_eq_true,v_,yu];rintro⟨p,q⟩ hpq;obtain⟨i,hi⟩:=qo.1 hpq;rw[jp]at hi;obtain⟨h1,h2⟩:=hi;simp only at h1 h2;rw[h1]at h2;obtain rfl:=yi h2;have:p∈ints a.l:=GE vj;obtain⟨m,_,rfl⟩:=n5.1 this;simp[Instr.sameBits]
structure Q1(P:Program)(f:Field)(o n:Nat):Prop where
 name:f.name≠ "_"
 eqp:∀(l m:List Int) w,o+n≤l.length→o+n≤m.length→∃u v,(part f.type (ints l).toArray f.offset).run P w=.ok u w∧(part f.type (ints m).toArray f.offset).run P w=.ok v w∧(Op.equalIn 9999 f.type u v).run P w=.ok ((l.drop o).take n==(m.drop o).take n) w
inductive II(P:Program):Nat→Nat→List Field→Prop
 |nil {o}:II P o o []
 |cons {o n e f fs} (h:Q1 P f o n) (r:II P (o+n) e fs):II P o e (f::fs)
theorem II.le{o e:Nat}{fs:List Field}(h:II P o e fs):o≤e:=by
 induction h with
 |nil=>exact zk _
 |cons _ _ ih=>omega
theorem MP(l m:List Int)(o n:Nat):(l.drop o==m.drop o)=(((l.drop o).take n==(m.drop o).take n)&&(l.drop (o+n)==m.drop (o+n))):=by
 rw[vv];simp only[th,zl];constructor
 ·intro h;exact⟨by rw[h],by rw[←List.drop_drop,←List.drop_drop,h]⟩
 ·rintro⟨h1,h2⟩;rw[←sq n (l.drop o),←sq n (m.drop o),h1,List.drop_drop,List.drop_drop,h2]
theorem TD(l m:List Int)(w:Δ){o e:Nat}{fs:List Field}(h:II P o e fs)(hl:l.length=e)(hm:m.length=e):(Op.eqFields 9999 (ints l).toArray (ints m).toArray fs).run P w=.ok (l.drop o==m.drop o) w:=by
 induction h with
 |nil=>
  rw[wl Yd,wl Yd];rfl
 | @cons o n e f fs h r ih=>
  have hle:=r.le;obtain⟨u,v,h1,h2,h3⟩:=h.eqp l m w Yd Yd;rw[Op.eqFields,zo h.name];simp only[Ω,h1,h2,Ξ];rw[h3,MP l m o n];simp only[Ξ];cases hx:(l.drop o).take n==(m.drop o).take n with
  |true=>
   simp only[Bool.not_true,wt,xx,v_];exact ih hl hm
  |false=>simp only[Bool.not_false,yo,ε,Bool.false_and]
theorem Q1.int{f:Field}{o:Nat}(hn:f.name≠ "_")(ho:f.offset=o)(ht:P.underlying f.type=some (.int .i64)):Q1 P f o 1:=by
 refine⟨hn,λl m w hl hm=>?_⟩;have h1:l[o]?= some (l[o]'Yd):=yz _;have h2:m[o]?= some (m[o]'Yd):=yz _;refine⟨qI l[o],qI m[o],gL ht (by rw[ho];simpa using dA h1) w,gL ht (by rw[ho];simpa using dA h2) w,?_⟩
 rw[run_equalIn_int w 9998 f.type .i64 .i64 _ _ ht];congr 1;have t1:(l.drop o).take 1=[l[o]]:=by rw[xc (show o<l.length by omega)];rfl
 have t2:(m.drop o).take 1=[m[o]]:=by rw[xc (show o<m.length by omega)];rfl
 rw[t1,t2];simp
theorem U0{t:Θ}{n o:Nat}(ha:TA P t true)(hs:TS P t n){l:List Int}(_hl:o+n≤l.length)(w:Δ):(part t (ints l).toArray o).run P w=.ok (.agg (ints ((l.drop o).take n)).toArray) w:=by
 unfold part;simp only[Ω,ha w,Ξ,yo,hs w,ε];congr 2;apply Array.ext';simp only[Array.toList_extract,List.extract_eq_take_drop,ints,List.map_drop,List.map_take];congr 1;omega
theorem Q1.arr{f:Field}{o n:Nat}{e:Θ}(hn:f.name≠ "_")(ho:f.offset=o)(ht:P.underlying f.type=some (.array n e))(he:P.underlying e=some (.int .i64))(hc:P.cellsOf e=1)(ha:TA P f.type true)(hs:TS P f.type n):Q1 P f o n:=by
 refine⟨hn,λl m w hl hm=>⟨_,_,by rw[ho];exact U0 ha hs hl w,by rw[ho];exact U0 ha hs hm w,?_⟩⟩;obtain⟨i,hi⟩:=info_of_underlying he;have h:=run_equalIn_array (P:=P) w 9998 (ints ((l.drop o).take n)).toArray (ints ((m.drop o).take n)).toArray ht hi;have I:((l.drop o).take n).length=n:=by rw[wq,vq];omega
 have O:((m.drop o).take n).length=n:=by rw[wq,vq];omega
 rw[hc,oY 9997 he _ _ w (List.range n) λj hj=>by have:=yj.1 hj;omega,J8 I O]at h;exact h
def KS(P:Program)(t:Θ)(n:Nat):Prop:=P.underlying t=some (.struct (P.fieldsOf t))∧P.stoodInHeld t=false∧P.eqGuardType P.depth t=false∧II P 0 n (P.fieldsOf t).toList
theorem EY{t:Θ}{n:Nat}(h:KS P t n){l m:List Int}(hl:l.length=n)(hm:m.length=n)(w:Δ):(Op.equal t (.agg (ints l).toArray) (.agg (ints m).toArray)).run P w=.ok (l==m) w:=by
 have he:=run_equalIn_struct (P:=P) w 9999 t (ints l).toArray (ints m).toArray h.1 h.2.1;show(Op.equalIn (9999+1) t (.agg (ints l).toArray) (.agg (ints m).toArray)).run P w=_;rw[he,TD l m w h.2.2.2 hl hm];simp
theorem Wci{t t':Θ}{n:Nat}{l m:List Int}(ho:G[ix]?= some ⟨some d,.binOp .neq t x y t',ty,pos,aft,g⟩)(ht:KS P t n)(hl:l.length=n)(hm:m.length=n)(hx:ev T x=some (.agg (ints l).toArray))(hy:ev T y=some (.agg (ints m).toArray))(hN:Nat.blt d X.N=true)(hg:dF G T g)
  (kk:WL P X H G K Q os ((d,.bool (!(l==m)))::T) L W):WL P X H G K Q ((fl,ix)::os) T L W:=
 dr ho (λw=>by
  have hgd:(eqGuard .neq t x y (.agg (ints l).toArray) (.agg (ints m).toArray)).run P w=.ok () w:=by
   simp only[eqGuard,program];simp[Sem.run,ht.2.2.1,go_sem]
  rw[Ω,hgd];show((do Pure.pure (Value.bool (!(←Op.equal t (.agg (ints l).toArray) (.agg (ints m).toArray))))):Sem Γ).run P w=_;rw[Ω,EY ht hl hm];rfl) hx hy hN hg kk
namespace L2
open L1
open C2
open C1 (gF bH qH kU)
theorem vL{r:Int×Int}(h:jN r=true):0≤r.1∧r.1≤r.2∧r.2≤99:=by
 unfold jN gD at h;simp only[zl,LE,bH]at h;omega
theorem fO(n lo hi:Int)(D:aC):Fn prog 164 #[qI n,qI lo,qI hi] D (λ_ v=>v=.bool (gF n lo hi)):=by
 refine Zx 15 func164 C λh0=>lf ?_;refine' bU 4 (s:=10) (p:=14) C (λI=>?_) (λI=>?_) ?_;rotate_left
 ·refine r_ ?_;exact aQ 3
 ·refine Wb ?_;exact aQ 3
 refine Wd ?_;exact aD C λD hD=>C
theorem W4(n:Int)(D:aC):Fn prog 227 #[iV n] D (λ_ v=>v=.bool (gD n)):=by
 refine Zx 5 func227 C λh0=>aA<|Zf C<|aJ<|Za C<|Zd C (λO I=>fO _ _ _ _)<|Wd ?_;exact aD C λD hD=>C
theorem oC(sv:Γ)(x:Int)(xs:List Int)(D:aC)(hS:Sl D RI 1 sv (x::xs)):
  Fn prog 230 #[sv] D (λ_ v=>v=qI (xs.foldl min x)):=by
 refine Zx 5 func230 C λh0=>aA<|Zf C<|aJ<|Za C<|Zd C (λO I=>L1.KW _ x xs _ (Sl.at RI.up I Yn Yf))<|Wd ?_;exact aD C λD hD=>C
theorem JH(r:Int×Int)(D:aC):Fn prog 226 #[nA r] D (λ_ v=>v=.bool (jN r)):=by
 refine Zx 18 func226 C λh0=>aA<|Zac C λZ E1 U I=>Zf C<|aJ<|Zj C sY C<|Zh 0 C aH C I C<|Zj C vV C<|Zh 1 C aH C I C<|iB C C C C zy<|Za C ?_;refine' bU 4 (s:=8) (p:=12) C (λO=>?_) (λO=>?_) ?_;rotate_left
 ·refine Zk C sY C<|Zi 0 C aH C I C<|Ze C (λD1 V=>W4 _ _)<|Zam C ?_;exact aQ 3
 ·refine Wb ?_;exact aQ 3
 refine Za C ?_;refine' bU 4 (s:=13) (p:=17) C (λR=>?_) (λR=>?_) ?_;rotate_left
 ·refine Zk C vV C<|Zi 1 C aH C I C<|Ze C (λD2 Y=>W4 _ _)<|Zam C ?_;exact aQ 3
 ·refine Wb ?_;exact aQ 3
 refine Wd ?_;exact aD C λD hD=>C
theorem Tp(r:Int×Int)(h:jN r=true)(D:aC):Fn prog 231 #[nA r] D (λ_ v=>v=qI (fZ r)):=by
 have hb:=vL h;refine Zx 9 func231 C λh0=>aA<|Zac C λR E1 O I=>Zf C<|aJ<|Zj C vV C<|Zh 1 C aH C I C<|Zj C sY C<|Zh 0 C aH C I C<|Zax C<|Zaf C<|Zf C ?_;refine aG ?_;exact aD C λD hD=>C
theorem KI(r:Int×Int)(n:Int)(D:aC):Fn prog 235 #[nA r,qI n] D (λ_ v=>v=.bool (gF n r.1 r.2)):=by
 refine Zx 11 func235 C λh0=>aA<|Zac C λU E1 O I=>Zf C<|aJ<|Za C<|Zj C sY C<|Zh 0 C aH C I C<|Zj C vV C<|Zh 1 C aH C I C<|Zd C (λV R=>fO _ _ _ _)<|Zf C ?_;refine aG ?_;exact aD C λD hD=>C
theorem wO(r:Int×Int)(n:Int)(D:aC):Fn prog 166 #[nA r,qI n] D (λ_ v=>v=nA (min r.1 n,max r.2 n)):=by
 refine Zx 15 func166 C λh0=>aA<|Zac C λq1 E1 Z R=>Zag C iO C λq2=>bX<|fS [] 4 [0,1,2,5,6,7,8,3,4,9,10] [false,false,true,true,true,true,true,true,true,false,false] [(false,0),(false,1),(true,2),(true,5),(true,6),(true,7),(true,8),(true,3),(true,4),(false,9),(false,10)] aV (λ_ _ _ h=>eA (P:=prog) (fn:=f166) _ _ _ h) Yg C<|Zj C sY C<|Zh 0 C aH C R C<|Za C<|Zj C vV C<|Zh 1 C aH C R C<|Za C ?_;refine mL C C C C zy<|Zu C U35 aI cN C (.cons C C (.cons C C .nil)) λY D901 U I=>?_;have O:=Sl.ofInts (l:=[_,_]) (n:=2) (cap:=2) I C Yd Yd;refine Zd C (λD1 V=>oC _ r.1 [n] _ (O.up RI.up (V _ Yf)))<|Zw [qI (min r.1 n),qI (max r.2 n)] C G9 iO C<|Zaa C cR ζ<|aG ?_;exact Zp [_] C ⟨⟨_,_,_,C,zu,Or.inr ⟨lH,fk,C⟩⟩,zy⟩ λD hD=>C
theorem Ts(tv:Γ)(t:bA)(n:Int)(D:aC)(ht:hZ D tv t):Fn prog 167 #[tv,qI n] D (λ_ v=>v=.bool (IE t.last n)):=by
 have ht0:=ht;obtain⟨hv,lv,mv,rfl,hh,hl,hm⟩:=ht;have hll:=hl.len;refine Zx 9 func167 C λh0=>aA<|Zac C λU E1 O I=>Zf C<|aJ<|Za C<|Zj C nT C<|Zh 0 C aH C I C<|Zd C (λV R=>fO _ _ _ _)<|Wd ?_;exact aD C λD hD=>C
theorem Wcb(tv:Γ)(t:bA)(n:Int)(D:aC)(ht:hZ D tv t):Fn prog 97 #[tv,qI n] D (λ_ v=>v=.bool (gF n 0 ((t.levels.length:Int)-1))):=by
 have ht0:=ht;obtain⟨hv,lv,mv,rfl,hh,hl,hm⟩:=ht;have hll:=hl.len;refine Zx 11 func97 C λh0=>aA<|Zac C λU E1 O I=>Zf C<|aJ<|Za C<|Zj C mX C<|Zh 3 C bW C I C<|eQ C U35 C Yn C C zy<|Zax C<|Zd C (λV R=>fO _ _ _ _)<|Zf C ?_;refine aG ?_;exact aD C λD hD=>C
theorem ZH(tv:Γ)(t:bA)(a b:Int)(D:aC)(ht:hZ D tv t):Fn prog 100 #[tv,qI a,qI b] D (λ_ v=>v=.bool (sK t.last a b)):=by
 have ht0:=ht;obtain⟨hv,lv,mv,rfl,hh,hl,hm⟩:=ht;have hll:=hl.len;refine Zx 20 func100 C λh0=>aA<|Zac C λZ E1 Y I=>Zf C<|aJ<|Zv C lR C I kF<|Za C<|Zd C (λD1 O=>Ts _ t _ _ (ht0.up (O _ Yf)))<|Za C ?_;refine' bU 4 (s:=10) (p:=14) C (λR=>?_) (λR=>?_) ?_;rotate_left
 ·refine cQ C lR C I Yc kF n4 C ⟨_,C,C⟩<|Zb C<|Ze C (λD2 U=>Ts _ t _ _ (ht0.up (U _ Yf)))<|Zam C ?_;exact aQ 3
 ·refine Wb ?_;exact aQ 3
 refine Za C ?_;refine' bU 4 (s:=15) (p:=19) C (λV=>?_) (λV=>?_) ?_;rotate_left
 ·refine r_ ?_;exact aQ 3
 ·refine Wb ?_;exact aQ 3
 refine Wd ?_;exact aD C λD hD=>C
theorem aFD(tv:Γ)(t:bA)(m:Mk)(D:aC)(ht:hZ D tv t):Fn prog 224 #[tv,ni m] D (λ_ v=>v=.bool (xQ t.last m)):=by
 have ht0:=ht;obtain⟨hv,lv,mv,rfl,hh,hl,hm⟩:=ht;refine Zx 16 func224 C λh0=>aA<|Zac C λq1 E1 V O=>Zac C λq2 E2 Y I=>Zf C<|aJ<|Zv C lR C O kF<|Zj C NZ C<|Zh 0 C aH C I C<|Zj C NI C<|Zh 1 C aH C I C<|Zd C (λD1 R=>ZH _ t _ _ _ (ht0.up (R _ Yf))) ?_;refine Za C ?_;refine' bU 4 (s:=11) (p:=15) C (λU=>?_) (λU=>?_) ?_;rotate_left
 ·refine Zk C QF C<|sL C (k:=2) lH cR C I Yc C C n4 C ⟨_,C,C⟩<|Ze C (λD2 Z=>JH (m.lo,m.hi) _)<|Zam C ?_;exact aQ 3
 ·refine Wb ?_;exact aQ 3
 refine Wd ?_;exact aD C λD hD=>C
theorem zH(sv fv:Γ)(xs:List (Int×Int))(p:(Int×Int)→Bool)(D:aC)(hS:Sl D EQ 2 sv xs)(hp:dJ prog D nA fv p):
  Fn prog 337 #[sv,fv] D (λ_ v=>v=qI (idxOf p xs)):=by
 have hl:=hS.len;obtain⟨f,c1,c2,rfl,hf⟩:=hp;refine Zx 19 func337 C λh0=>aA<|Zf C<|bD<|Za C<|eQ C U76 C Yn C C zy<|We ?_;rintro k ⟨h1,h2⟩;refine aA<|Zal C<|bX<|Zae C (λhc1=>?_) λhc1=>?_
 ·have hk:k<xs.length:=Yd
  obtain⟨x,hx⟩:=cF xs k;refine aP<|Za6<|Za4<|aA<|Za C<|Zf C<|aJ<|Za C<|Za C<|Za C<|eF C U76 cR C Yn C Yd Yn C zy λY Z I O V R=>?_;obtain rfl:I=[qI _,qI _]:=O;refine Zv C lH C R cR<|Zd C (λD1 U=>hf x _ (U _ Yf))<|aE<|Zai C (λhc2=>?_) λhc2=>?_
  ·refine uc ?_;exact aD C λD hD=>je
  ·refine xi ?_;have hpx:p x=false:=hc2;have h3:(xs.take (k+1)).any p=false:=by rw[zg,hx,ui,h2];simp[hpx]
   exact aK 12 (k+1) ⟨Yd,h3⟩ Yd ⟨Ya,zy⟩ C C zp (aN)
 ·refine Wk ?_;exact aD C λD hD=>jd
theorem tD(sv fv:Γ)(xs:List (Int×Int))(p:(Int×Int)→Bool)(D:aC)(hS:Sl D EQ 2 sv xs)(hp:dJ prog D nA fv p):
  Fn prog 303 #[sv,fv] D (λ_ v=>v=.bool (xs.any p)):=by
 refine Zx 9 func303 C λh0=>aA<|Zf C<|aJ<|Za C<|Za C<|Zd C (λO I=>zH _ _ xs p _ (Sl.at EQ.up I Yn Yf) (hp.up (I _ Yf)))<|Ww ?_;exact aD C λD hD=>jc
theorem HH(b:Nat)(fv:Γ)(p:(Int×Int)→Bool)(x:(Int×Int))(D:aC)(hp:dJ prog D nA fv p)(hB:At D b 0 [fv]):
  Fn prog 304 #[nA x,qP b] D (λ_ v=>v=.bool (!p x)):=by
 obtain⟨f,c1,c2,rfl,hf⟩:=hp;refine Zx 8 func304 C λh0=>aA<|Zac C λU E1 R I=>Zf C<|aJ<|Zh 0 C aCD C hB C<|Zv C lH C I cR<|Wv ?_;exact aD C λD hD=>C
theorem RA(sv fv:Γ)(xs:List (Int×Int))(p:(Int×Int)→Bool)(D:aC)(hS:Sl D EQ 2 sv xs)(hp:dJ prog D nA fv p)(h1:fv.cells=#[fv]):
  Fn prog 225 #[sv,fv] D (λ_ v=>v=.bool (xs.all p)):=by
 refine Zx 9 func225 C λh0=>aA<|uH (vs:=[fv]) C C h1 C zy λb O I hB=>Zf C<|aJ<|Za C<|Za1 C<|Zd C (λO I=>tD _ _ xs (λx=> !p x) _ (Sl.at EQ.up I Yn Yf) ⟨_,[],[qP b],C,λx R hl=>HH b fv p x R (hp.up ((I _ Yf).trans hl)) (hB.up ((I _ Yf).trans hl))⟩)<|Zav C<|Wd ?_;exact aD C λD hD=>j_
theorem LZ(sv fv:Γ)(xs:List Mk)(p:Mk→Bool)(D:aC)(hS:Sl D YV 4 sv xs)(hp:dJ prog D ni fv p):
  Fn prog 338 #[sv,fv] D (λ_ v=>v=qI (idxOf p xs)):=by
 have hl:=hS.len;obtain⟨f,c1,c2,rfl,hf⟩:=hp;refine Zx 19 func338 C λh0=>aA<|Zf C<|bD<|Za C<|eQ C U77 C Yn C C zy<|We ?_;rintro k ⟨h1,h2⟩;refine aA<|Zal C<|bX<|Zae C (λhc1=>?_) λhc1=>?_
 ·have hk:k<xs.length:=Yd
  obtain⟨x,hx⟩:=cF xs k;refine aP<|Za6<|Za4<|aA<|Za C<|Zf C<|aJ<|Za C<|Za C<|Za C<|eF C U77 mO C Yn C Yd Yn C zy λY Z I O V R=>?_;obtain rfl:I=[qI _,qI _,qI _,qI _]:=O;refine Zv C SU C R mO<|Zd C (λD1 U=>hf x _ (U _ Yf))<|aE<|Zai C (λhc2=>?_) λhc2=>?_
  ·refine uc ?_;exact aD C λD hD=>je
  ·refine xi ?_;have hpx:p x=false:=hc2;have h3:(xs.take (k+1)).any p=false:=by rw[zg,hx,ui,h2];simp[hpx]
   exact aK 12 (k+1) ⟨Yd,h3⟩ Yd ⟨Ya,zy⟩ C C zp (aN)
 ·refine Wk ?_;exact aD C λD hD=>jd
theorem BZ(sv fv:Γ)(xs:List Mk)(p:Mk→Bool)(D:aC)(hS:Sl D YV 4 sv xs)(hp:dJ prog D ni fv p):
  Fn prog 306 #[sv,fv] D (λ_ v=>v=.bool (xs.any p)):=by
 refine Zx 9 func306 C λh0=>aA<|Zf C<|aJ<|Za C<|Za C<|Zd C (λO I=>LZ _ _ xs p _ (Sl.at YV.up I Yn Yf) (hp.up (I _ Yf)))<|Ww ?_;exact aD C λD hD=>jc
theorem C_(b:Nat)(fv:Γ)(p:Mk→Bool)(x:Mk)(D:aC)(hp:dJ prog D ni fv p)(hB:At D b 0 [fv]):
  Fn prog 307 #[ni x,qP b] D (λ_ v=>v=.bool (!p x)):=by
 obtain⟨f,c1,c2,rfl,hf⟩:=hp;refine Zx 8 func307 C λh0=>aA<|Zac C λU E1 R I=>Zf C<|aJ<|Zh 0 C Yax C hB C<|Zv C SU C I mO<|Wv ?_;exact aD C λD hD=>C
theorem Xdc(sv fv:Γ)(xs:List Mk)(p:Mk→Bool)(D:aC)(hS:Sl D YV 4 sv xs)(hp:dJ prog D ni fv p)(h1:fv.cells=#[fv]):
  Fn prog 229 #[sv,fv] D (λ_ v=>v=.bool (xs.all p)):=by
 refine Zx 9 func229 C λh0=>aA<|uH (vs:=[fv]) C C h1 C zy λb O I hB=>Zf C<|aJ<|Za C<|Za1 C<|Zd C (λO I=>BZ _ _ xs (λx=> !p x) _ (Sl.at YV.up I Yn Yf) ⟨_,[],[qP b],C,λx R hl=>C_ b fv p x R (hp.up ((I _ Yf).trans hl)) (hB.up ((I _ Yf).trans hl))⟩)<|Zav C<|Wd ?_;exact aD C λD hD=>j_
theorem O3(b:Nat)(fv:Γ)(p:Int→Bool)(x:Int)(D:aC)(hp:dJ prog D iV fv p)(hB:At D b 0 [fv]):
  Fn prog 305 #[iV x,qP b] D (λ_ v=>v=.bool (!p x)):=by
 obtain⟨f,c1,c2,rfl,hf⟩:=hp;refine Zx 8 func305 C λh0=>gc ?_;exact aD C λD hD=>C
theorem x5(sv fv:Γ)(xs:List Int)(p:Int→Bool)(D:aC)(hS:Sl D RI 1 sv xs)(hp:dJ prog D iV fv p)(h1:fv.cells=#[fv]):
  Fn prog 228 #[sv,fv] D (λ_ v=>v=.bool (xs.all p)):=by
 refine Zx 9 func228 C λh0=>aA<|uH (vs:=[fv]) C C h1 C zy λb O I hB=>Zf C<|aJ<|Za C<|Za1 C<|Zd C (λO I=>L1.oV _ _ xs (λx=> !p x) _ (Sl.at RI.up I Yn Yf) ⟨_,[],[qP b],C,λx R hl=>O3 b fv p x R (hp.up ((I _ Yf).trans hl)) (hB.up ((I _ Yf).trans hl))⟩)<|Zav C<|Wd ?_;exact aD C λD hD=>j_
theorem aVZ(sv:Γ)(x:Int)(xs:List Int)(D:aC)(hS:Sl D RI 1 sv (x::xs)):
  Fn prog 236 #[sv] D (λ_ v=>v=qI (xs.foldl max x)):=by
 have hl:=hS.len;simp only[zh]at hl;refine Zx 25 func236 C λh0=>aA<|Zf C<|bD<|Za C<|eQ C U35 C Yn C C zy<|Zal C<|aE<|Zae C (λhc1=>?_) λhc1=>?_
 ·exact absurd hc1 (by simp only[zh];omega)
 ·refine aP<|aA<|Za C<|eF C U35 aI C Yn C Yd xa C zy λb1 o1 I O Z R=>?_;obtain rfl:I=[qI _]:=O;refine Zh 0 C aH C R C<|Zf C<|bD<|Zf C<|aE<|Za4<|Zo Nat (λk=>xs.length-k) (λk=>k≤xs.length) (λk=>[(3,qI ((xs.take k).foldl max x)),(4,qI (k+1:Int))]) [(2,_),(0,_)] (λk=>[D]) 0 ⟨Ya,Ya,zy⟩ ?_;rintro k h1;refine bL<|Za C<|Za C<|eQ C U35 C Yn C C zy<|Zal C<|aE<|Zae C (λhc2=>?_) (λhc2=>?_)
  ·simp only[zh]at hc2;have hk:k<xs.length:=Yd
   obtain⟨y,hy⟩:=cF xs k;have hE:(x::xs)[(k+1:Int).toNat]?= some y:=by rw[show((k:Int)+1).toNat=k+1 by omega];simpa using hy
   refine aP<|Za6<|Za4<|aM<|Za C<|Za C<|Za C<|eF C U35 aI C Yn C Yd Yn C zy λb2 o2 U V hB Y=>?_;obtain rfl:U=[qI _]:=V;refine Zh 0 C aH C Y C<|mL C C C C zy<|Wp ?_;have h3:(xs.take (k+1)).foldl max x=max ((xs.take k).foldl max x) y:=by rw[zg,hy,xk];rfl
   exact Zl 16 (k+1) ⟨(by rw[h3];rfl),Ya,zy⟩ C zp
  ·simp only[zh]at hc2;refine Wj ?_;exact aD C λD hD=>fp
end L2
theorem K2.key{k:Θ}(h:K2 P k):MF P k nA:=by
 refine⟨⟨_,h.1⟩,λa b w=>?_,λem a w=>FI h em a w,λa=>?_,λa=>⟨_,C⟩⟩
 ·rw[AC h];congr 1;by_cases e:a=b
  ·subst e;simp
  ·simp[e]
 ·simp[nA,Instr.sameBits]

theorem Tj{em:Bool}{t e:Θ}{n:Nat}(t1:P.underlying t=some (.array n e))(te:P.underlying e=some (.int .i64))(hse:TS P e 1){r:List Int}(hr:r.length=n)(w:Δ):(Instr.checkKey em (9998+1) t (.agg (ints r).toArray)).run P w=.ok () w:=by
 have ce:∀m:Int,(Instr.checkKey em (9997+1) e (qI m)).run P w=.ok () w:=λm=>by
  rw[Instr.checkKey,Ω,TU.of te w];rfl
 rw[Instr.checkKey,Ω,TU.of t1 w];simp only[Ξ];rw[Std.Legacy.Range.forIn_eq_forIn_range'];have key:∀(is:List Nat),(∀i∈is,i<n)→((forIn is PUnit.unit λi _=>do Instr.checkKey em 9998 e (←part e (ints r).toArray (i*(←sizeOf e)));Pure.pure (ForInStep.yield PUnit.unit):Sem PUnit)).run P w=.ok PUnit.unit w:=by
  intro is;induction is with
  |nil=>intro _;rfl
  |cons i is ih=>
   intro hi;have hlt:=hi i zj;have g1:(ints r).toArray[i*1]?= some (qI r[i]):=by rw[xp];simpa using dA (yz (show i<r.length by omega))
   rw[List.forIn_cons];simp only[Ω,hse w,Ξ,gL te g1];rw[ce];simp only[Ξ,ε];exact ih λj hj=>hi j (GT _ hj)
 have:=key (List.range' 0 n) λi hi=>wy;simpa using this
def KM(P:Program)(k:Θ)(n:Nat):Prop:=∃f0 f1 f2 e,P.underlying k=some (.struct (P.fieldsOf k))∧P.fieldsOf k=#[f0,f1,f2]∧f0.name≠ "_" ∧f1.name≠ "_" ∧f2.name≠ "_" ∧f0.offset=0∧f1.offset=1∧f2.offset=n+1∧
 P.underlying f0.type=some (.int .i64)∧P.underlying f1.type=some (.array n e)∧P.underlying f2.type=some (.array n e)∧P.underlying e=some (.int .i64)∧TA P f1.type true∧TS P f1.type n∧TA P f2.type true∧TS P f2.type n∧TS P e 1
theorem KM.key{k:Θ}{n:Nat}(h:KM P k n)(hks:KS P k (n+n+1)):MF P k (ET (n:=n+n+1)):=by
 obtain⟨f0,f1,f2,e,hu,hf,I,O,R,U,V,Y,t0,t1,t2,te,Z,s1,a2,s2,hse⟩:=h;refine⟨⟨_,hu⟩,λa b w=>?_,λem a w=>?_,λa=>?_,λa=>⟨_,C⟩⟩
 ·have:=EY (P:=P) hks a.h b.h w;show(Op.equal k (.agg (ints a.l).toArray) (.agg (ints b.l).toArray)).run P w=_;rw[this];congr 1;obtain⟨la,ha⟩:=a;obtain⟨lb,hb⟩:=b;rw[vv];simp
 ·have hl:=a.h;have c0:∀x:Int,(Instr.checkKey em (9998+1) f0.type (qI x)).run P w=.ok () w:=λx=>by
   rw[Instr.checkKey,Ω,TU.of t0 w];rfl
  obtain⟨x,hx⟩:=cF a.l 0;have p0:(part f0.type (ints a.l).toArray f0.offset).run P w=.ok (qI x) w:=gL t0 (by rw[U];simpa using dA hx) w
  have p1:(part f1.type (ints a.l).toArray f1.offset).run P w=.ok (.agg (ints ((a.l.drop 1).take n)).toArray) w:=by rw[V];exact U0 Z s1 Yd w
  have p2:(part f2.type (ints a.l).toArray f2.offset).run P w=.ok (.agg (ints ((a.l.drop (n+1)).take n)).toArray) w:=by rw[Y];exact U0 a2 s2 Yd w
  have c1:=Tj (em:=em) t1 te hse (r:=(a.l.drop 1).take n) (by rw[wq,vq];omega) w;have c2:=Tj (em:=em) t2 te hse (r:=(a.l.drop (n+1)).take n) (by rw[wq,vq];omega) w
  show(Instr.checkKey em (9999+1) k (.agg (ints a.l).toArray)).run P w=_;rw[Instr.checkKey,Ω,TU.of hu w];simp only[Ξ];rw[hf,←Array.forIn_toList];simp only[List.forIn_cons,List.forIn_nil,I,O,R,ne_eq,p_,yo,Ω,p0,Ξ,ε];rw[c0];simp only[Ξ,ε,Ω,p1];rw[c1];simp only[Ξ,ε,Ω,p2];rw[c2];simp
 ·show Instr.sameBits (9999+1) (.agg (ints a.l).toArray) (.agg (ints a.l).toArray)=true;simp only[Instr.sameBits,beq_self_eq_true,v_,yu];rintro⟨p,q⟩ hpq;obtain⟨i,hi⟩:=qo.1 hpq;rw[jp]at hi;obtain⟨h1,h2⟩:=hi;simp only at h1 h2;rw[h1]at h2;obtain rfl:=yi h2;have:p∈ints a.l:=GE vj;obtain⟨m,_,rfl⟩:=n5.1 this;simp[Instr.sameBits]
def cp:Unit→Γ:=λ_=>.bool true
structure zU(es:Array MapEntry)(clock:Nat)(S:List (Int×Int)):Prop where
 cells:Y7 nA cp es (S.map λa=>(a,()))
 nd:(es.toList.map (·.born)).Nodup
 lt:∀e∈es.toList,e.born<clock
theorem zU.nil:zU #[] 0 []:=⟨C,wz,λe he=>by simp at he⟩
def XQ(S:List (Int×Int))(a:Int×Int):List (Int×Int):=if a∈S then S else S++[a]
theorem aGM{S:List (Int×Int)}{a p:Int×Int}:p∈XQ S a ↔ p∈S∨p=a:=by
 unfold XQ;split
 ·rename_i h;exact⟨zq,λh'=>h'.elim id λe=>e▸h⟩
 ·simp
theorem zU.key{es:Array MapEntry}{clock:Nat}{S:List (Int×Int)}(h:zU es clock S){e:MapEntry}(he:e∈es.toList):∃a∈S,e.key=nA a∧e.val=.bool true:=by
 have h1:=h.cells;unfold Y7 at h1;obtain⟨i,hi⟩:=qo.1 he;have h2:(es.toList.map λe=>(e.key,e.val))[i]?= some (e.key,e.val):=by rw[xt,hi];rfl
 rw[h1,uf,xt]at h2;obtain⟨a,ha,hk⟩:=s_.1 h2;simp only[Function.comp,ux]at hk;exact⟨a,GE ha,hk.1.symm,hk.2.symm⟩
theorem zU.ent{es:Array MapEntry}{clock:Nat}{S:List (Int×Int)}(h:zU es clock S){a:Int×Int}(ha:a∈S):∃e∈es.toList,e.key=nA a:=by
 have h1:=h.cells;unfold Y7 at h1;obtain⟨i,hi⟩:=qo.1 ha;have h2:((S.map λa=>(a,())).map λx=>(nA x.1,cp x.2))[i]?= some (nA a,.bool true):=by rw[uf,xt,hi];rfl
 rw[←h1,xt]at h2;obtain⟨e,he,hk⟩:=s_.1 h2;simp only[ux]at hk;exact⟨e,GE he,hk.1⟩
theorem Js{S:List (Int×Int)}{a:Int×Int}:∀{i:Nat},Q0 a (S.map λa=>(a,())) i=none→a∉S:=by
 induction S with
 |nil=>intro i _;exact n4
 |cons b S ih=>
  intro i h;simp only[yl,Q0]at h;split at h
  ·cases h
  ·rename_i hne;intro hm;rcases zm.1 hm with e|hm
   ·exact hne e
   ·exact ih h hm
theorem Xbo{t k e:Θ}{b clock:Nat}{es:Array MapEntry}{S:List (Int×Int)}{a:Int×Int}{A B:aF}(ho:G[ix]?= some ⟨none,.mapUpdate t x y z,ty,pos,aft,g⟩)(ht:P.underlying t=some (.map k e))(hk:K2 P k)
  (hx:ev T x=some (.map (some b))) (hy:ev T y=some (nA a)) (hz:ev T z=some (.bool true)) (hM:zU es clock S) (hg:dF G T g)
  (kk:∀es' clock',zU es' clock' (XQ S a)→WL P X H G K Q os T (A++(b,.map es' clock')::B) W):WL P X H G K Q ((false,ix)::os) T (A++(b,.map es clock)::B) W:=by
 refine fW ho C C hg λa' w hh=>?_
 obtain⟨h1,h2,h3,D,h4,h5,Y⟩:=id hh;have hw:=(h4.box (b,.map es clock) Yf).1;have hK:=hk.key;have run:∃es' clock',zU es' clock' (XQ S a)∧(Instr.mapUpdate t (.map (some b)) (nA a) (.bool true)).run P w=.ok () {w with heap:=w.heap.setIfInBounds b (.map es' clock')}:=by
  have hf:=yV (wal:=cp) hK a w hM.cells;have hset:∀o,(setObj b o).run P w=.ok () {w with heap:=w.heap.setIfInBounds b o}:=λo=>by simp[setObj,Sem.run,hw]
  cases hp:Q0 a (S.map λa=>(a,())) 0 with
  |none=>
   have hna:=Js hp;refine⟨es.push {key:=nA a,val:=.bool true,born:=clock},clock+1,⟨?_,?_,?_⟩,?_⟩
   ·have hM':=hM.cells;unfold Y7 at hM' ⊢
    unfold XQ;rw[zv hna,Array.toList_push,ze,hM',ze,ze];rfl
   ·rw[Array.toList_push,ze,za];refine⟨hM.nd,Yf,λZ R b2 U=>?_⟩;obtain⟨V,I,rfl⟩:=n5.1 R;have:=hM.lt V I;simp only[yl,tj,yf]at U;omega
   ·intro V I;rw[Array.toList_push]at I;rcases zd.1 I with I|I
    ·have:=hM.lt V I;omega
    ·simp only[yf]at I;subst I;exact Nat.lt_succ_self _
   ·unfold Instr.mapUpdate;simp only[Ω,TU.of ht w,Ξ,qQ hw,hK.chk];rw[hf,hp];simp only[vy,Ξ,hset]
  |some r=>
   obtain⟨j,m⟩:=r;obtain⟨i,O,hi⟩:=Y2 hp;rw[wo]at O;subst O
   have hSj:S[j]?= some a:=by
    rw[xt]at hi;obtain⟨a',ha',hk'⟩:=s_.1 hi;rw[ha',(Prod.mk.inj hk').1]
   have hMi:∀i,(es.toList[i]?).map (λe:MapEntry=>(e.key,e.val))=(S[i]?).map (λx:Int×Int=>(nA x,Value.bool true)):=λi=>by
    have:=hM.cells;unfold Y7 at this;rw[←xt,this,uf,xt];rfl
   have hj:=hMi j;rw[hSj]at hj;obtain⟨e0,he0,hke⟩:=s_.1 hj;simp only[ux]at hke;have he0':es[j]?= some e0:=by simpa using he0
   have hmod:es.modify j (λe=>{e with key:=nA a,val:=.bool true})=es:=by
    apply Array.ext_getElem?;intro q;rw[Array.getElem?_modify];by_cases hjq:j=q
    ·subst hjq;simp only[he0',yo,xo];obtain⟨k0,v0,b0⟩:=e0;simp only at hke;rw[hke.1,hke.2]
    ·simp[hjq]
   refine⟨es,clock,?_,?_⟩
   ·unfold XQ;rw[zo (GE hSj)];exact hM
   ·have hks:(Instr.keyThatStays (nA a) (nA a)).run P w=.ok (nA a) w:=by
     have:Instr.sameBits 10000 (nA a) (nA a)=true:=hK.stay a;unfold Instr.keyThatStays;rw[zo this,ε]
    unfold Instr.mapUpdate;simp only[Ω,TU.of ht w,Ξ,qQ hw,hK.chk];rw[hf,hp];simp only[xo,Ξ,he0',va,hke.1,Ω,hks,hset,hmod]
 obtain⟨es',clock',hM',hr⟩:=run;have hHas:bO (A++(b,Obj.map es clock)::B) b (.map es clock) (.map es' clock') (A++(b,.map es' clock')::B):=.app .head;have hs:=h4.set (w':={w with heap:=w.heap.setIfInBounds b (.map es' clock')}) hHas ⟨C,C⟩ trivial;have:(execOp a'.eval ⟨none,.mapUpdate t x y z,ty,pos,aft,g⟩).run P w=.ok .skip {w with heap:=w.heap.setIfInBounds b (.map es' clock')}:=by
  simp only[execOp,hh.eval hx,hh.eval hy,hh.eval hz,Ω,hr,Ξ,ε]
 rw[this];exact⟨λh=>vu,kk es' clock' hM' _ _ ⟨h1,h2,h3,D,hs,h5,Y.step (λ_ p hp=>zq Yw) (λ_=>mK ⟨C,C⟩ (n5.2 ⟨_,hHas.mem,C⟩)) hs.dom⟩⟩
theorem Bp{t k e:Θ}{b clock:Nat}{es:Array MapEntry}(ho:G[ix]?= some ⟨some d,.range t x,ty,pos,aft,g⟩)(ht:P.underlying t=some (.map k e))(hx:ev T x=some (.map (some b)))(hm:(b,Obj.map es clock)∈L)(hN:Nat.blt d X.N=true)(hg:dF G T g)
  (kk:∀r,WL P X H G K Q os ((d,qP r)::T) ((r,.mapIter (some b) clock #[] clock)::L) W):WL P X H G K Q ((fl,ix)::os) T L W:=by
 refine fW ho C C hg λa w hh=>?_
 obtain⟨h1,h2,h3,D,h4,h5,I⟩:=id hh;have:(execOp a.eval ⟨some d,.range t x,ty,pos,aft,g⟩).run P w=.ok (.value (.pointer (some ⟨w.heap.size,0,none⟩))) {w with heap:=w.heap.push (.mapIter (some b) clock #[] clock)}:=by
  simp only[execOp,hh.eval hx,Ω,run_range_map w t k e b es clock ht (h4.box _ hm).1,Ξ,ε];rfl
 rw[this];exact⟨λ_=>rH _ _ _,kk _ _ _ (Hl.put ⟨h1,h2,h3,D,h4.push _ (show dH (.mapIter (some b) clock #[] clock)from zy),h5,I.step (λ_ p hp=>jh) (λ_=>S5 _ _) (h4.push _ (show dH (.mapIter (some b) clock #[] clock)from zy)).dom⟩ hN _)⟩
theorem Ya9{b r since c0 clock:Nat}{seen:Array Nat}{es:Array MapEntry}{A B:aF}(ho:G[ix]?= some ⟨some d,.next x false,ty,pos,aft,g⟩)(hx:ev T x=some (qP r))(hm:(b,Obj.map es clock)∈A++(r,.mapIter (some b) since seen c0)::B)
  (hold:∀e∈es.toList,e.born<since) (hsc:since≤c0) (hN:Nat.blt d X.N=true) (hg:dF G T g)
  (kk:∀(ok:Bool) (vs:Array Γ) (o':Obj),vs.toList[0]?= some (.bool ok)→(ok=false→(leftOf es seen).size=0∧o'=.mapIter (some b) since seen c0)→(ok=true→∃e∈(leftOf es seen).toList,o'=.mapIter (some b) since (seen.push e.born) clock)→WL P X H G K Q os ((d,.tuple vs)::T) (A++(r,o')::B) W):
  WL P X H G K Q ((false,ix)::os) T (A++(r,.mapIter (some b) since seen c0)::B) W:=by
 refine fW ho C C hg λa w hh=>?_
 have I:=hh;obtain⟨h1,h2,h3,D,h4,h5,V⟩:=id hh;have hr:=(h4.box (r,.mapIter (some b) since seen c0) Yf).1;have hb:=(h4.box _ hm).1;rcases run_next_at (P:=P) w ty r b since c0 seen es clock hr hb hold hsc with⟨hl,hrun⟩|⟨e,he,O,R,hrun⟩
 ·have:(execOp a.eval ⟨some d,.next x false,ty,pos,aft,g⟩).run P w=.ok (.value (.tuple #[.bool false])) w:=by
   simp only[execOp,hh.eval hx,Ω,hrun,Ξ,ε]
  rw[this];exact⟨λh=>vu,kk false _ _ C (λ_=>⟨hl,C⟩) (λh=>wg) _ _ (I.put hN _)⟩
 ·have U:Hl X T (A++(r,.mapIter (some b) since seen c0)::B) W a O:=by
   rcases R with rfl|rfl
   ·exact I
   ·exact I.drew
  have:(execOp a.eval ⟨some d,.next x false,ty,pos,aft,g⟩).run P w=.ok (.value (.tuple #[.bool true,e.key,e.val])) (ChangeMaps.setBlock O r (.mapIter (some b) since (seen.push e.born) clock)):=by
   simp only[execOp,hh.eval hx,Ω,hrun,Ξ,ε]
  rw[this];obtain⟨h1,h2,h3,D,h4,h5,V⟩:=U;have hHas:bO (A++(r,Obj.mapIter (some b) since seen c0)::B) r (.mapIter (some b) since seen c0) (.mapIter (some b) since (seen.push e.born) clock) (A++(r,.mapIter (some b) since (seen.push e.born) clock)::B):=.app .head;have hs:=h4.set (w':=ChangeMaps.setBlock O r (.mapIter (some b) since (seen.push e.born) clock)) hHas ⟨C,C⟩ trivial;exact⟨λh=>vu,kk true _ _ C (λh=>wg) (λ_=>⟨e,he,C⟩) _ _ (Hl.put ⟨h1,h2,h3,D,hs,h5,V.step (λ_ p hp=>zq Yw) (λ_=>mK ⟨C,C⟩ (n5.2 ⟨_,hHas.mem,C⟩)) hs.dom⟩ hN _)⟩
theorem aHN{b r since clock:Nat}{seen:Array Nat}{es:Array MapEntry}{e:MapEntry}(ho:G[ix]?= some ⟨some d,.entry x,ty,pos,aft,g⟩)(hx:ev T x=some (qP r))(hm:(b,Obj.map es clock)∈L)(hr:(r,Obj.mapIter (some b) since (seen.push e.born) clock)∈L)
  (he:e∈es.toList) (hn:(es.toList.map (·.born)).Nodup) (hN:Nat.blt d X.N=true) (hg:dF G T g)
  (kk:WL P X H G K Q os ((d,.tuple #[e.key,e.val])::T) L W):WL P X H G K Q ((fl,ix)::os) T L W:=by
 refine fW ho C C hg λa w hh=>?_
 obtain⟨h1,h2,h3,D,h4,h5,I⟩:=id hh;have:(execOp a.eval ⟨some d,.entry x,ty,pos,aft,g⟩).run P w=.ok (.value (.tuple #[e.key,e.val])) w:=by
  simp only[execOp,hh.eval hx,Ω,run_entry_at w r b since seen es clock e (h4.box _ hr).1 (h4.box _ hm).1 he hn,Ξ,ε]
 rw[this];exact⟨λ_=>rL.refl _ _,kk _ _ (hh.put hN _)⟩
theorem Jy{t e:Θ}{n b l h:Nat}{I k2:IntKind}{i j:Int}(ho:G[ix]?= some ⟨some d,.slice t x (some y) (some z) none,ty,pos,aft,g⟩)(ht:P.underlying t=some (.array n e))(hs:TS P e 1)(hx:ev T x=some (qP b))
  (hy:ev T y=some (.int I i)) (hz:ev T z=some (.int k2 j)) (hi:i=(l:Int)) (hj:j=(h:Int)) (h1:l≤h) (h2:h≤n) (h3:l<n)
  (hN:Nat.blt d X.N=true) (hg:dF G T g) (kk:WL P X H G K Q os ((d,.slice (some ⟨b,l,none⟩) (h-l) (n-l))::T) L W):WL P X H G K Q ((fl,ix)::os) T L W:=by
 subst hi;subst hj
 refine cB ho C C hN hg (λρ hρ w'=>?_) kk;simp only[execOp,hρ x _ hx,hρ y _ hy,hρ z _ hz,vy,xo];unfold Instr.sliceAt Instr.sureAddr Instr.sliceBounds Instr.sliceBound asIntOf;have O:(0:Int)≤(l:Int)∧(l:Int)≤(h:Nat):=Yd
 have a2:(0:Int)≤(h:Int)∧(h:Int)≤(n:Nat):=Yd
 simp only[Ω,TU.of ht w',Ξ,hs w',ε,pure_bind,O,a2,vl,yo,xr,xp];rw[zv Yd];simp[Addr.add];exact λh=>h.symm
theorem Ax{t e:Θ}{n b h:Nat}{k2:IntKind}{j:Int}(ho:G[ix]?= some ⟨some d,.slice t x none (some z) none,ty,pos,aft,g⟩)(ht:P.underlying t=some (.array n e))(hs:TS P e 1)(hx:ev T x=some (qP b))
  (hz:ev T z=some (.int k2 j)) (hj:j=(h:Int)) (h2:h≤n)
  (hN:Nat.blt d X.N=true) (hg:dF G T g) (kk:WL P X H G K Q os ((d,qS b h n)::T) L W):WL P X H G K Q ((fl,ix)::os) T L W:=by
 subst hj;refine cB ho C C hN hg (λρ hρ w'=>?_) kk;simp only[execOp,hρ x _ hx,hρ z _ hz,vy,xo];unfold Instr.sliceAt Instr.sureAddr Instr.sliceBounds Instr.sliceBound asIntOf;have a2:(0:Int)≤(h:Int)∧(h:Int)≤(n:Nat):=Yd
 simp only[Ω,TU.of ht w',Ξ,hs w',ε,pure_bind,a2,vl,yo,xr,ug,uw];split<;>simp[Addr.add]
theorem Vm{D:aC}{b n l h:Nat}{c:List Int}(hA:At D b 0 (ints c))(hl:c.length=n)(h1:l≤h)(h2:h≤n)(hb:n≤9223372036854775807):Sl D RI 1 (.slice (some ⟨b,l,none⟩) (h-l) (n-l)) ((c.drop l).take (h-l)):=by
 have hlen:((c.drop l).take (h-l)).length=h-l:=by simp;omega
 refine⟨_,_,by rw[hlen],Yd,Yd,zt ⟨b,l,C,λi x hi=>⟨_,C,C,λj v hj=>?_⟩⟩⟩;rw[List.getElem?_take]at hi;split at hi
 ·rw[vb]at hi;cases j with
  |zero=>
   have h5:v=qI x:=by simpa using hj.symm
   subst h5;have:=hA (l+i) (qI x) (dA hi);simpa using this
  |succ j=>simp at hj
 ·cases hi
theorem Xcw{γ:Type}(I:γ→Prop)(S:γ→Bool)(XX:γ→Cx)(M:γ→aF)(xs ys:List (Bool×Nat)){s p:Nat}{b:Bool}(hXr:∀g,(XX g).r=X.r)(ho:os=xs++ys)(hs:look T s=some (.bool b))
  (hyes:b=true→WL P X H G (λa w=>∃g,I g∧Hl (XX g) ((p,.bool (S g))::(s,.bool true)::T) (M g) W a w) Q xs ((s,.bool true)::T) L W)
  (hno:b=false→WL P X H G (λa w=>∃g,I g∧Hl (XX g) ((p,.bool (S g))::(s,.bool false)::T) (M g) W a w) Q xs ((s,.bool false)::T) L W)
  (k:∀g,I g→WL P (XX g) H G K Q ys ((p,.bool (S g))::T) (M g) W):WL P X H G K Q os T L W:=by
 have hsub:∀u,Value.bool b=u→∀a w,Hl X T L W a w→Hl X ((s,u)::T) L W a w:=by
  rintro _ rfl a w ⟨h1,h2,h3⟩;refine⟨h1,λt v ht=>?_,h3⟩;simp only[look]at ht;cases hb:Nat.beq s t with
  |true=>rw[hb]at ht;cases ht;obtain rfl:=wa hb;exact h2 _ _ hs
  |false=>rw[hb]at ht;exact h2 _ _ ht
 have hback:∀(X:Cx) u v μ',Value.bool b=u→∀a w,Hl X ((p,v)::(s,u)::T) μ' W a w→Hl X ((p,v)::T) μ' W a w:=by
  rintro X _ v μ' rfl a w ⟨h1,h2,h3⟩;refine⟨h1,λt v' ht=>?_,h3⟩;refine h2 t v' ?_;simp only[look]at ht ⊢
  cases hp:Nat.beq p t with
  |true=>rw[hp]at ht;exact ht
  |false=>
   rw[hp]at ht;cases hb:Nat.beq s t with
   |true=>obtain rfl:=wa hb;rw[←ht,hs]
   |false=>exact ht
 subst ho;intro a w hh;cases b
 ·refine WL.append (hno C a w (hsub _ C a w hh)) ?_;rintro a w ⟨g,hI,h⟩;rw[←hXr g];exact k g hI a w (hback _ _ _ _ C a w h)
 ·refine WL.append (hyes C a w (hsub _ C a w hh)) ?_;rintro a w ⟨g,hI,h⟩;rw[←hXr g];exact k g hI a w (hback _ _ _ _ C a w h)

theorem aEW{f:FuncId}{fn:Func}{c:Code}{args:List Γ}{D:aC}{post:aC→Γ→aF→Prop}(N:Nat)(hf:P.funcs[f]?= some fn)(hn:(fn.name== "runtime.NumGoroutine")=false)(hb:fn.body=some c)(hN:fn.ntmps=N)(hsz:Nat.ble args.length N=true)
  (h:∀h0:H0,WC P ⟨none,N,[],h0,h0.size,D,[],none⟩ (d4 P fn (sN ⟨none,N,[],h0,h0.size,D,[],none⟩ post)) c (kA 0 args) [] [D]):NC P f args.toArray D post:=by
 refine⟨EF.of hf hn hb,λw hw=>?_⟩;subst hN;have hsz:=vf hsz;have hq:∀e a w',d4 P fn (sN ⟨none,fn.ntmps,[],hd w,w.heap.size,D,[],none⟩ post) e a w'→bodyPostM (FW none) 0 P fn (sN ⟨none,fn.ntmps,[],hd w,w.heap.size,D,[],none⟩ post) e a w':=by
  intro e a w' he;cases e<;>first|exact he|exact he.elim
 have hwp:=h (hd w) {tmps:=args.toArray++Array.replicate (fn.ntmps-args.toArray.size) undef,defers:=[]} w ⟨xw,λs v hs=>by
  obtain⟨_,h2⟩:=gV args 0 s v hs;have hl:=(yx.1 h2).1;simp only[uw]at h2 hl;show(args.toArray++_)[s]?= some v;rw[sb uu];simpa using h2,C,D,⟨zk _,zk _,(λ_ _ _=>C),(λ_ _=>C),hw,Yi,wz,Yi,λe he=>yi he⟩,(λD₁ h1=>fu),zy⟩
 refine(eC (r:=none) (n:=0)).1 ((callsIn_of_wp_marks hf hb zy (wpIn_mono hwp hq) C).mono ?_);rintro e w' ⟨v,D',μ',rfl,hs,hp⟩;exact⟨v,D',μ',C,hs,hp⟩
theorem Xa{fn:Func}{bd:Nat}{post:aC→Γ→aF→Prop}{e:Exit}(he:(match e with|.normal=>true|.ret=>true|_=>false)=true){rs:List ResultVar}{vs:List Γ}{A B ν':aF}(hds:X.ds=[])(hr:fn.results=rs.toArray)(h:N3 P X T (A++ν'++B++[(bd,Obj.deferred none)]) rs vs)
  (hp:∀D,(∀D₁∈W,Le D₁ D)→post D (sR vs) ν'):∀a w,Hl (X.withDs bd) T (A++ν'++B++[(bd,Obj.deferred (some []))]) W a w→d4 P fn (sN X post) e a w:=by
 intro a w hh;obtain⟨h1,h2,h3,D,h4,h5,I⟩:=hh;have hHas:bO (A++ν'++B++[(bd,Obj.deferred (some []))]) bd (.deferred (some [])) (.deferred none) (A++ν'++B++[(bd,Obj.deferred none)]):=.app .head;have hs:=h4.set (w':=w.putObj bd (.deferred none)) hHas ⟨C,C⟩ trivial;have hh':Hl X T (A++ν'++B++[(bd,Obj.deferred none)]) W {a with defers:=[]} (w.putObj bd (.deferred none)):=
  ⟨h1,h2,hds.symm,D,hs,h5,I.step (X:=X.withDs bd) (λ_ p hp=>zq Yw) (λ_=>mK ⟨C,C⟩ (n5.2 ⟨_,hHas.mem,C⟩)) hs.dom⟩
 have hrun:=jP hh' hr h;have hb:=(h4.box (bd,Obj.deferred (some [])) Yf).1;have hnd:=hs.nd;simp only[ze]at hnd;have hs':jH X.h0 X.lo X.D0 X.mods ν' D (w.putObj bd (.deferred none)):=hs.sub (λp hp=>yw _ (yw _ (LT _ hp))) (za.1 (za.1 (za.1 hnd).1).1).2.1;have:LeavesInM (FW none) 0 P fn a.tmps (sN X post) a.defers .returning w:=by
  have h3':a.defers=[pE bd]:=h3.trans fq;rw[h3'];exact⟨Yf,zq ⟨bd,_,C,run_takeDeferred hb,_,hrun,_,D,ν',C,hs',hp D h5⟩⟩
 cases e<;>first|exact this|cases he
namespace L2
open L1
open C2
open C1 (gF bH qH kU)
theorem Dm{c pre:List Int}{n:Int}{i:Nat}(hl:pre.length=i)(hp:c.take (i+1)=pre++[n]):c[(i:Int).toNat]?= some n:=by
 have h:(c.take (i+1))[i]?= some n:=by rw[hp,←hl];simp
 rw[sa (Nat.lt_succ_self i)]at h;exact h
theorem J_{step:Int}{c pre:List Int}{n:Int}{i:Nat}(hl:pre.length=i)(hp:c.take (i+1)=pre++[n])(hb:∀x∈pre,0≤x∧x≤99)(_h10:c.length=10)(hi:i<10):
  ∃m,(i≠0→c[((i:Int)-1).toNat]?= some m)∧(0≤m∧m≤99)∧(decide ((i:Int)=0)||gF (n-m) (-step) step)=iF step pre.getLast? n:=by
 rcases List.eq_nil_or_concat pre with rfl|⟨q,m,rfl⟩
 ·refine⟨0,λh=>absurd hl.symm h,Yd,?_⟩;simp only[wp]at hl;subst hl;simp[iF]
 ·refine⟨m,λ_=>?_,hb m Yf,?_⟩
  ·have h:(c.take (i+1))[i-1]?= some m:=by
    rw[hp];simp only[List.concat_eq_append,zf,ve]at hl;rw[show i-1=q.length by omega];simp
   rw[sa Yd]at h;rw[show((i:Int)-1).toNat=i-1 by omega];exact h
  ·have:(i:Int)≠0:=by
    simp only[List.concat_eq_append,zf,ve]at hl;omega
   unfold iF;rw[decide_eq_false this,Bool.false_or];simp
theorem Xbq{c pre:List Int}{i n:Nat}{k:Int}(h:c.length=10)(hi:i<n)(hn:n≤10)(hp:c.take i=pre)(hz:c.drop n=List.replicate (10-n) 0):(c.set i k).length=10∧(c.set i k).take (i+1)=pre++[k]∧(c.set i k).drop n=List.replicate (10-n) 0:=
 ⟨by simp[h],by rw[zg,List.getElem?_set_self Yd,yd,List.take_set_of_le (zk _),hp],by rw[List.drop_set_of_lt hi];exact hz⟩
theorem GL(last step:Int)(hv lv mv:Γ)(c pre:List Int)(n:Int)(i:Nat)(D:aC)(hs:0≤step∧step≤99)(U:c.length=10)(V:i<10)(hl:pre.length=i)(hp:c.take (i+1)=pre++[n])(hb:∀x∈pre,0≤x∧x≤99)(hn:0≤n∧n≤99):
  Fn prog 234 #[.agg #[qI last,hv,qI step,lv,mv],.agg (ints c).toArray,qI (i:Int)] D (λ_ v=>v=.bool (iF step pre.getLast? n)):=by
 have Y:=Dm hl hp;obtain⟨m,Z,hmb,hnr⟩:=J_ (step:=step) hl hp hb U V;refine Zx 25 func234 C λh0=>aA<|Zac C λq1 E1 hE I=>Zac C λq2 E2 hF O=>Zf C<|bX<|bK [] 6 19 64448<|Za C<|ud ?_;refine' dU 15 (s:=9) (p:=24) C (λR=>?_) (λR=>?_) ?_;rotate_left
 ·have hH:(i:Int)≠0:=by simpa using R
  have hB:=Z Yd;refine Zb C<|cD C U289 aI C C Yd Yd C ⟨_,C,C⟩<|iW C aH C O Yf (dA Y) n4 C ⟨_,C,C⟩<|Zb C<|xO C C C Ye C ⟨_,C,C⟩<|cD C U289 aI C C Yd Yd C ⟨_,C,C⟩<|iW C aH C O Yf (dA hB) n4 C ⟨_,C,C⟩<|xO C C C Ye C ⟨_,C,C⟩<|Zk C O6 C<|Zi 2 C aH C I C<|gu C C Ye C ⟨_,C,C⟩<|Zk C O6 C ?_;refine Zi 2 C aH C I C<|Ze C (λD1 hI=>fO _ _ _ _)<|Zan C ?_;exact aQ 14
 ·refine ol ?_;refine Zg C<|Zg C<|Zam C ?_;exact aQ 14
 refine Wd ?_;exact aD C λD hD=>by show Value.bool _=_;rw[hnr]
def jE(br bY bc bh:Nat)(c:List Int):aF:=[(bh,qC [.func (.func 233) #[] #[qP br,qP bY,qP bc,qP bh]] 201),(bc,qC (ints c) 289)]
def BB(J Jx:List (List Int)→xL)(br bY bc bh:Nat)(step:Int)(hs:List (Int×Int))(pre:List Int)(i:Nat)(done:List (List Int))(v:Γ)(J':xL)(μ':aF):Prop:=
 ∃b c',v=.bool b∧c'.length=10∧c'.take i=pre∧c'.drop hs.length=List.replicate (10-hs.length) 0∧μ'=jE br bY bc bh c'∧(if b=true then J'=J (done++(iX step (hs.drop i) pre.getLast?).map λt=>dT (pre++t))else ∃p,J'=Jx p)
theorem A3{lo l:Nat}{J Jx:List (List Int)→xL}{t:bA}{xs:List (List Int)}{Dr Dy:aC}{W:List aC}{br bY bc bh:Nat}{hv lv mv:Γ}(hto:MU t)
  (hs:∀pre,k9 lo (J pre)) (hsx:∀pre,k9 lo (Jx pre)) (hY:Ui prog Dr lo l J Jx xs) (hDr:Dr∈W) (hDy:Dy∈W) (hA:At Dr br 0 [qI t.last,hv,qI t.step,lv,mv]) (hpl:Sl Dr EQ 2 hv t.heights) (hB:At Dy bY 0 [.func (.yield l) #[] #[]]):
  ∀(j i:Nat) (pre c:List Int) (done rest:List (List Int)) (iv:Int),iv=i→i+j=t.heights.length→pre.length=i→c.length=10→c.take i=pre→c.drop t.heights.length=List.replicate (10-t.heights.length) 0→(∀x∈pre,0≤x∧x≤99)→
   xs=done++(iX t.step (t.heights.drop i) pre.getLast?).map (λt=>dT (pre++t))++rest→
   lr prog 233 [qI iv,qP br,qP bY,qP bc,qP bh] lo (J done) (jE br bY bc bh c) W (BB J Jx br bY bc bh t.step t.heights pre i done):=by
 intro j;induction j using Nat.strongRecOn with
 |_ j ih=>
 intro i pre c done rest iv hiv hij hl h9 hp hz hpb hxs;subst hiv;have hmx:=hpl.len;have hlast:=hto.last;have hlen:=hto.len;have hF:=hto.len10;refine j4 (L:=jE br bY bc bh c) 46 func233 C C C C<|aA<|Zf C<|bD<|Za C<|Zj C nT C<|Zh 0 C aH C hA C<|Zat C<|aE<|Zae C (λhc1=>?_) λhc1=>?_
 ·have hin:i=t.heights.length:=Yd
  subst hin;have hleaf:=(Ld (l:=pre) (by rw[hl];exact hp) (by rw[hl];exact hz))
  rw[oy]at hxs;simp only[iX,yl,tj,yr]at hxs;rw[hleaf,yy,rh]at hxs;refine aA<|Zh 0 C aDE C hB C<|bN C qD C zi pu n4 C zy<|XN (l:=l) (J1:=J (done++[c])) (J0:=Jx (done++[c])) C C C C (hs _) (hsx _) (λD w hd hJ hb hl=>hY done c _ D w ⟨rest,hxs⟩ hd hJ (λb hbm=>by obtain⟨p,hp,rfl⟩:=n5.1 hbm;exact hb p hp) (hl _ hDr)) C zy λb1 J1 hH=>Wi ?_
  exact nU (P:=prog) (fn:=f233) (N:=46) (vs:=[_]) C C ⟨C,zy⟩ (λD h=>⟨D,h,Le.refl D⟩) ⟨b1,c,C,h9,hp,hz,C,by cases b1<;>simp only[hH,yo,wt,xx];exact⟨_,C⟩;simp[iX,hleaf]⟩
 ·have hin:i<t.heights.length:=Yd
  obtain⟨r,hri⟩:=cF t.heights i;have hrb:=hto.hts r (GE hri);have hrg:=vL hrb;have hsz:fZ r=r.2-r.1+1:=rfl;have hd:t.heights.drop i=r::t.heights.drop (i+1):=by rw[xc hin];congr 1;exact yi ((yz hin).symm.trans hri)
  rw[hd,←Si]at hxs;refine aP<|bL<|Zj C mQ C<|Zh 1 C yT C hA C<|Za C<|Zy C U76 cR C hpl C hri λb1 o1 hI hK hX hN=>?_;obtain rfl:hI=[qI _,qI _]:=hK;refine Zv C lH C hN cR<|Zd C (λD1 rB=>Tp r hrb _)<|Za C<|aE<|Za4<|GG (γ:=Nat×List Int) (λg=>(fZ r).toNat-g.1) (λg=>g.1≤(fZ r).toNat∧g.2.length=10∧g.2.take i=pre∧g.2.drop t.heights.length=List.replicate (10-t.heights.length) 0) (λg=>J (done++vh t.step (t.heights.drop (i+1)) pre r g.1)) (λg=>[(21,qI (g.1:Int))]) [(20,_),(6,_),(0,_),(1,_),(3,_),(4,_)] (λg=>jE br bY bc bh g.2) (λg=>W) (0,c) ⟨Yf,h9,hp,hz⟩ (by simp[Dg]) ⟨Ya,zy⟩ cE zp (aN) ?_;rintro⟨k,c1⟩ ⟨hO,I,O,R⟩;simp only at hO I O R;refine aA<|Zal C<|bX<|Zae C (λhc2=>?_) λhc2=>?_
  ·obtain⟨rr,hr⟩:=aGG (step:=t.step) (rs:=t.heights.drop (i+1)) (pre:=pre) (r:=r) (k:=k) (n:=(fZ r).toNat) Yd;have hset:=Xbq (k:=r.1+(k:Int)) I hin hF O R;have h9s:(c1.set ((i:Int)).toNat (r.1+(k:Int))).length=10:=hset.1;have hpn:∀x∈pre++[r.1+(k:Int)],0≤x∧x≤99:=λx hx=>by rcases zd.1 hx with hx|hx;exact hpb x hx;simp only[yf]at hx;omega
   refine aP<|Za6<|Za4<|aA<|Za C<|Zf C<|aJ<|Za C<|Zj C mQ C<|Zh 1 C yT C hA C<|Za C<|Zy C U76 cR C hpl C hri λb2 o2 hP hR rA hS=>?_;obtain rfl:hP=[qI _,qI _]:=hR;refine Zj C sY C<|Zh 0 C aH C hS C<|Za C<|Zaf C<|cD C U289 aI C C Yd Yd C zy<|BH C aI C C (.tail ζ) (by simp only[*];omega) zy<|aJ<|Zv C lR C hA kF<|bN C qD C zi pu n4 C zy<|Za C<|Zd C (λD2 hD2=>GL t.last t.step hv lv mv (c1.set i (r.1+(k:Int))) pre (r.1+(k:Int)) i _ hto.step hset.1 Yd hl hset.2.1 hpb Yd)<|Za C ?_;refine Xcw (γ:=Bool×List Int×xL) (λg=>g.2.1.length=10∧g.2.1.take (i+1)=pre++[r.1+(k:Int)]∧g.2.1.drop t.heights.length=List.replicate (10-t.heights.length) 0∧(if g.1=true then ∃p,g.2.2=Jx p else g.2.2=J (done++vh t.step (t.heights.drop (i+1)) pre r (k+1)))) (λg=>g.1) (λg=>Xj 46 lo g.2.2) (λg=>jE br bY bc bh g.2.1) [(false,5),(false,6),(false,7),(false,8),(false,9),(false,10)] [] (s:=38) (p:=44) (λ_=>C) C C (λU=>?_) (λU=>?_) ?_
   ·have hnear:iF t.step pre.getLast? (r.1+(k:Int))=true:=by simpa using U
    refine Zr C sG C zu C<|Zb C<|xN C C C Ye C ⟨_,C,C⟩<|yQ C C C C (ih (j-1) Yd (i+1) (pre++[r.1+(k:Int)]) (c1.set i (r.1+(k:Int))) (done++vh t.step (t.heights.drop (i+1)) pre r k) (rr++rest) (i+1:Int) Yd Yd xw (by simpa using I) hset.2.1 hset.2.2 hpn (by rw[hxs,hr,Vb hnear];simp)) C ⟨_,C,C⟩ ?_;rintro _ J2 _ ⟨b2,c2,rfl,h9',hp',hz',rfl,hJ2⟩;refine qf ?_;exact x7 λa w hh=>⟨(!b2,c2,J2),⟨h9',hp',hz',by cases b2<;>simp only[Bool.not_true,Bool.not_false,yo,wt,xx]at hJ2 ⊢;exact hJ2;rw[hJ2,Vb hnear,yy]⟩,hh.cutK 5 C⟩
   ·refine Zg C<|vw ?_;exact x7 λa w hh=>⟨(false,c1.set i (r.1+(k:Int)),J (done++vh t.step (t.heights.drop (i+1)) pre r k)),⟨hset.1,hset.2.1,hset.2.2,by simp only[wt,xx];rw[Xbg (by simpa using U)]⟩,hh.cutK 5 C⟩
   rintro⟨b3,c3,J3⟩ ⟨V,Y,Z,hE⟩;simp only at V Y Z hE;refine aE<|Zai C (λhc3=>?_) λhc3=>?_
   ·obtain rfl:b3=true:=ua
    refine aA<|Wg ?_;exact nU (P:=prog) (fn:=f233) (N:=46) (vs:=[_]) C C ⟨C,zy⟩ (λD h=>⟨D,h,Le.refl D⟩) ⟨false,c3,C,V,L1.wW Y hl,Z,C,by simpa using hE⟩
   ·obtain rfl:b3=false:=ua
    refine xi ?_;exact xK 22 (k+1,c3) ⟨Yl,V,L1.wW Y hl,Z⟩ Yl (by simpa using hE) ⟨Ya,zy⟩ C C zp (aN)
  ·refine Wk ?_;exact nU (P:=prog) (fn:=f233) (N:=46) (vs:=[_]) C C ⟨C,zy⟩ (λD h=>⟨D,h,Le.refl D⟩) ⟨true,c1,C,I,O,R,C,by simp only[yo];rw[hd,←Si,show k=(fZ r).toNat by omega]⟩
theorem Gn(t:bA)(Dr:aC)(br:Nat)(hv lv mv:Γ)(hto:MU t)(hA:At Dr br 0 [qI t.last,hv,qI t.step,lv,mv])(hpl:Sl Dr EQ 2 hv t.heights):
  DC prog 232 [qP br] Dr ((fM t).map dT) SP:=by
 refine NS 8 func232 C C C C λlo l J Jx hs hsx hY=>aA<|Zac C λR E1 O I=>aJ<|Zag C BE C λU=>aJ<|Zag C FX C λV=>aJ<|Za1 C<|Zs C GS ζ C<|aE<|aM ?_;refine Zq C sG C zu C<|yQ C C C C (A3 (l:=l) hto hs hsx hY Yf Yf hA hpl I t.heights.length 0 [] (List.replicate 10 0) [] [] 0 C Yd C C C (List.drop_replicate ..) (λx hx=>by cases hx) (by simp[fM])) C zy ?_;rintro _ Y _ ⟨b2,c2,rfl,h9',hp',hz',rfl,hJ2⟩;refine Zap ?_;exact nU (P:=prog) (fn:=f232) (N:=8) (vs:=[]) C C zy (λD h=>⟨D,jb,Le.refl D⟩) (by cases b2<;>simp[fM]at hJ2 ⊢;exact zt hJ2;exact zq hJ2)
theorem ZG(tv:Γ)(t:bA)(D:aC)(ht:hZ D tv t)(hto:MU t):
  Fn prog 162 #[tv] D (λD' v=>∃br,v=.func (.func 232) #[] #[qP br]∧DC prog 232 [qP br] D' ((fM t).map dT) SP):=by
 obtain⟨hv,lv,mv,rfl,hh,hl,hm⟩:=ht;refine Zx 4 func162 C λh0=>aA<|Zac C λO E1 R I=>Zf C<|aJ<|Za1 C<|Wd ?_;exact aD C λD hD=>⟨_,C,Gn t _ O hv lv mv hto (I.up (hD _ Yf)) (hh.up EQ.up (hD _ Yf))⟩
end L2
namespace L7
open C7
theorem lS{α:Type}{p:α→Bool}{xs:List α}{k:Nat}{x:α}(hx:xs[k]?= some x)(h:(xs.take k).any p=false)(hp:p x=true):idxOf p xs=k:=by
 have hk:=(yx.1 hx).1;have he:=(yx.1 hx).2;have h1:xs.any p=true:=rx.2 ⟨x,GE hx,hp⟩;have h2:xs.findIdx p=k:=by
  rw[List.findIdx_eq hk];refine⟨by rw[he];exact hp,λj hj=>?_⟩
  have:=List.any_eq_false.1 h (xs[j]'Yd) (by
   rw[List.mem_take_iff_getElem];exact⟨j,Yd,C⟩)
  simpa using this
 simp[idxOf,h1,h2]
theorem iG{α:Type}{p:α→Bool}{xs:List α}(h:xs.any p=false):idxOf p xs= -1:=by simp[idxOf,h]
theorem lU{α:Type}{p:α→Bool}{xs:List α}:decide (0≤idxOf p xs)=xs.any p:=by
 unfold idxOf;cases h:xs.any p<;>simp
theorem pU{α:Type}{p:α→Bool}{xs:List α}:(!xs.any λx=> !p x)=xs.all p:=by
 rw[List.all_eq_not_any_not]
theorem fO(n lo hi:Int)(D:aC):Fn prog 179 #[qI n,qI lo,qI hi] D (λ_ v=>v=.bool (gF n lo hi)):=by
 refine Zx 15 func179 C λh0=>lf ?_;refine' bU 4 (s:=10) (p:=14) C (λI=>?_) (λI=>?_) ?_;rotate_left
 ·refine r_ ?_;exact aQ 3
 ·refine Wb ?_;exact aQ 3
 refine Wd ?_;exact aD C λD hD=>C
theorem aHL(n lo hi:Int)(D:aC):Fn prog 198 #[qI n,qI lo,qI hi] D (λ_ v=>v=.bool (gF n lo hi)):=by
 refine Zx 15 func198 C λh0=>g_ ?_;refine' bU 4 (s:=10) (p:=14) C (λI=>?_) (λI=>?_) ?_;rotate_left
 ·refine r_ ?_;exact aQ 3
 ·refine Wb ?_;exact aQ 3
 refine Wd ?_;exact aD C λD hD=>ae
theorem yZ(sv fv:Γ)(xs:List Int)(p:Int→Bool)(D:aC)(hS:Sl D RI 1 sv xs)(hp:dJ prog D iV fv p):
  Fn prog 301 #[sv,fv] D (λ_ v=>v=qI (idxOf p xs)):=by
 have hl:=hS.len;obtain⟨f,c1,c2,rfl,hf⟩:=hp;refine Zx 19 func301 C λh0=>aA<|Zf C<|bD<|Za C<|eQ C U35 C Yn C C zy<|We ?_;rintro k ⟨h1,h2⟩;refine aA<|Zal C<|bX<|Zae C (λhc1=>?_) λhc1=>?_
 ·have hk:k<xs.length:=Yd
  obtain⟨x,hx⟩:=cF xs k;refine aP<|Za6<|Za4<|aA<|Za C<|Zf C<|aJ<|Za C<|Za C<|Za C<|eF C U35 aI C Yn C Yd Yn C zy λY Z I O V R=>?_;obtain rfl:I=[qI _]:=O;refine Zh 0 C aH C R C<|Zd C (λD1 U=>hf x _ (U _ Yf))<|aE<|Zai C (λhc2=>?_) λhc2=>?_
  ·refine uc ?_;exact aD C λD hD=>o_
  ·refine xi ?_;have hpx:p x=false:=hc2;have h3:(xs.take (k+1)).any p=false:=by rw[zg,hx,ui,h2];simp[hpx]
   exact aK 12 (k+1) ⟨Yd,h3⟩ Yd ⟨Ya,zy⟩ C C zp (aN)
 ·refine Wk ?_;exact aD C λD hD=>q_
theorem oV(sv fv:Γ)(xs:List Int)(p:Int→Bool)(D:aC)(hS:Sl D RI 1 sv xs)(hp:dJ prog D iV fv p):
  Fn prog 218 #[sv,fv] D (λ_ v=>v=.bool (xs.any p)):=by
 refine Zx 9 func218 C λh0=>ap ?_;exact aD C λD hD=>q9
theorem O3(b:Nat)(fv:Γ)(p:Int→Bool)(x:Int)(D:aC)(hp:dJ prog D iV fv p)(hB:At D b 0 [fv]):
  Fn prog 339 #[iV x,qP b] D (λ_ v=>v=.bool (!p x)):=by
 obtain⟨f,c1,c2,rfl,hf⟩:=hp;refine Zx 8 func339 C λh0=>gc ?_;exact aD C λD hD=>C
theorem x5(sv fv:Γ)(xs:List Int)(p:Int→Bool)(D:aC)(hS:Sl D RI 1 sv xs)(hp:dJ prog D iV fv p)(h1:fv.cells=#[fv]):
  Fn prog 311 #[sv,fv] D (λ_ v=>v=.bool (xs.all p)):=by
 refine Zx 9 func311 C λh0=>aA<|uH (vs:=[fv]) C C h1 C zy λb O I hB=>bj ?_;exact aD C λD hD=>o0
theorem zI(sv fv:Γ)(xs:List Ch)(p:Ch→Bool)(D:aC)(hS:Sl D I0 4 sv xs)(hp:dJ prog D lk fv p):
  Fn prog 310 #[sv,fv] D (λ_ v=>v=qI (idxOf p xs)):=by
 have hl:=hS.len;obtain⟨f,c1,c2,rfl,hf⟩:=hp;refine Zx 19 func310 C λh0=>aA<|Zf C<|bD<|Za C<|eQ C U84 C Yn C C zy<|We ?_;rintro k ⟨h1,h2⟩;refine aA<|Zal C<|bX<|Zae C (λhc1=>?_) λhc1=>?_
 ·have hk:k<xs.length:=Yd
  obtain⟨x,hx⟩:=cF xs k;refine aP<|Za6<|Za4<|aA<|Za C<|Zf C<|aJ<|Za C<|Za C<|Za C<|eF C U84 nK C Yn C Yd Yn C zy λY Z I O V R=>?_;obtain rfl:I=[qI _,qI _,qI _,qI _]:=O;refine Zv C VH C R nK<|Zd C (λD1 U=>hf x _ (U _ Yf))<|aE<|Zai C (λhc2=>?_) λhc2=>?_
  ·refine uc ?_;exact aD C λD hD=>o_
  ·refine xi ?_;have hpx:p x=false:=hc2;have h3:(xs.take (k+1)).any p=false:=by rw[zg,hx,ui,h2];simp[hpx]
   exact aK 12 (k+1) ⟨Yd,h3⟩ Yd ⟨Ya,zy⟩ C C zp (aN)
 ·refine Wk ?_;exact aD C λD hD=>q_
theorem tH(sv fv:Γ)(xs:List Ch)(p:Ch→Bool)(D:aC)(hS:Sl D I0 4 sv xs)(hp:dJ prog D lk fv p):
  Fn prog 244 #[sv,fv] D (λ_ v=>v=.bool (xs.any p)):=by
 refine Zx 9 func244 C λh0=>aA<|Zf C<|aJ<|Za C<|Za C<|Zd C (λO I=>zI _ _ xs p _ (Sl.at I0.up I Yn Yf) (hp.up (I _ Yf)))<|Ww ?_;exact aD C λD hD=>q9
theorem IM(b:Nat)(fv:Γ)(p:Ch→Bool)(x:Ch)(D:aC)(hp:dJ prog D lk fv p)(hB:At D b 0 [fv]):
  Fn prog 245 #[lk x,qP b] D (λ_ v=>v=.bool (!p x)):=by
 obtain⟨f,c1,c2,rfl,hf⟩:=hp;refine Zx 8 func245 C λh0=>aA<|Zac C λU E1 R I=>Zf C<|aJ<|Zh 0 C Xdb C hB C<|Zv C VH C I nK<|Wv ?_;exact aD C λD hD=>C
theorem RW(sv fv:Γ)(xs:List Ch)(p:Ch→Bool)(D:aC)(hS:Sl D I0 4 sv xs)(hp:dJ prog D lk fv p)(h1:fv.cells=#[fv]):
  Fn prog 180 #[sv,fv] D (λ_ v=>v=.bool (xs.all p)):=by
 refine Zx 9 func180 C λh0=>aA<|uH (vs:=[fv]) C C h1 C zy λb O I hB=>Zf C<|aJ<|Za C<|Za1 C<|Zd C (λO I=>tH _ _ xs (λx=> !p x) _ (Sl.at I0.up I Yn Yf) ⟨_,[],[qP b],C,λx R hl=>IM b fv p x R (hp.up ((I _ Yf).trans hl)) (hB.up ((I _ Yf).trans hl))⟩)<|Zav C<|Wd ?_;exact aD C λD hD=>o0
theorem zH(sv fv:Γ)(xs:List (Int×Int))(p:(Int×Int)→Bool)(D:aC)(hS:Sl D R2 2 sv xs)(hp:dJ prog D nA fv p):
  Fn prog 313 #[sv,fv] D (λ_ v=>v=qI (idxOf p xs)):=by
 have hl:=hS.len;obtain⟨f,c1,c2,rfl,hf⟩:=hp;refine Zx 19 func313 C λh0=>aA<|Zf C<|bD<|Za C<|eQ C U85 C Yn C C zy<|We ?_;rintro k ⟨h1,h2⟩;refine aA<|Zal C<|bX<|Zae C (λhc1=>?_) λhc1=>?_
 ·have hk:k<xs.length:=Yd
  obtain⟨x,hx⟩:=cF xs k;refine aP<|Za6<|Za4<|aA<|Za C<|Zf C<|aJ<|Za C<|Za C<|Za C<|eF C U85 cU C Yn C Yd Yn C zy λY Z I O V R=>?_;obtain rfl:I=[qI _,qI _]:=O;refine Zv C oZ C R cU<|Zd C (λD1 U=>hf x _ (U _ Yf))<|aE<|Zai C (λhc2=>?_) λhc2=>?_
  ·refine uc ?_;exact aD C λD hD=>o_
  ·refine xi ?_;have hpx:p x=false:=hc2;have h3:(xs.take (k+1)).any p=false:=by rw[zg,hx,ui,h2];simp[hpx]
   exact aK 12 (k+1) ⟨Yd,h3⟩ Yd ⟨Ya,zy⟩ C C zp (aN)
 ·refine Wk ?_;exact aD C λD hD=>q_
theorem tD(sv fv:Γ)(xs:List (Int×Int))(p:(Int×Int)→Bool)(D:aC)(hS:Sl D R2 2 sv xs)(hp:dJ prog D nA fv p):
  Fn prog 247 #[sv,fv] D (λ_ v=>v=.bool (xs.any p)):=by
 refine Zx 9 func247 C λh0=>aA<|Zf C<|aJ<|Za C<|Za C<|Zd C (λO I=>zH _ _ xs p _ (Sl.at R2.up I Yn Yf) (hp.up (I _ Yf)))<|Ww ?_;exact aD C λD hD=>q9
theorem HH(b:Nat)(fv:Γ)(p:(Int×Int)→Bool)(x:(Int×Int))(D:aC)(hp:dJ prog D nA fv p)(hB:At D b 0 [fv]):
  Fn prog 248 #[nA x,qP b] D (λ_ v=>v=.bool (!p x)):=by
 obtain⟨f,c1,c2,rfl,hf⟩:=hp;refine Zx 8 func248 C λh0=>aA<|Zac C λU E1 R I=>Zf C<|aJ<|Zh 0 C aCE C hB C<|Zv C oZ C I cU<|Wv ?_;exact aD C λD hD=>C
theorem RA(sv fv:Γ)(xs:List (Int×Int))(p:(Int×Int)→Bool)(D:aC)(hS:Sl D R2 2 sv xs)(hp:dJ prog D nA fv p)(h1:fv.cells=#[fv]):
  Fn prog 182 #[sv,fv] D (λ_ v=>v=.bool (xs.all p)):=by
 refine Zx 9 func182 C λh0=>aA<|uH (vs:=[fv]) C C h1 C zy λb O I hB=>Zf C<|aJ<|Za C<|Za1 C<|Zd C (λO I=>tD _ _ xs (λx=> !p x) _ (Sl.at R2.up I Yn Yf) ⟨_,[],[qP b],C,λx R hl=>HH b fv p x R (hp.up ((I _ Yf).trans hl)) (hB.up ((I _ Yf).trans hl))⟩)<|Zav C<|Wd ?_;exact aD C λD hD=>o0
theorem KW(sv:Γ)(x:Int)(xs:List Int)(D:aC)(hS:Sl D RI 1 sv (x::xs)):
  Fn prog 223 #[sv] D (λ_ v=>v=qI (xs.foldl min x)):=by
 have hl:=hS.len;simp only[zh]at hl;refine Zx 25 func223 C λh0=>aA<|Zf C<|bD<|Za C<|eQ C U35 C Yn C C zy<|Zal C<|aE<|Zae C (λhc1=>?_) λhc1=>?_
 ·exact absurd hc1 (by simp only[zh];omega)
 ·refine aP<|aA<|Za C<|eF C U35 aI C Yn C Yd xa C zy λb1 o1 I O Z R=>?_;obtain rfl:I=[qI _]:=O;refine bi ?_;rintro k h1;refine bL<|Za C<|Za C<|eQ C U35 C Yn C C zy<|Zal C<|aE<|Zae C (λhc2=>?_) (λhc2=>?_)
  ·simp only[zh]at hc2;have hk:k<xs.length:=Yd
   obtain⟨y,hy⟩:=cF xs k;have hE:(x::xs)[(k+1:Int).toNat]?= some y:=by rw[show((k:Int)+1).toNat=k+1 by omega];simpa using hy
   refine aP<|Za6<|Za4<|aM<|Za C<|Za C<|Za C<|eF C U35 aI C Yn C Yd Yn C zy λb2 o2 U V hB Y=>?_;obtain rfl:U=[qI _]:=V;refine Zh 0 C aH C Y C<|zL C C C C zy<|Wp ?_;have h3:(xs.take (k+1)).foldl min x=min ((xs.take k).foldl min x) y:=by rw[zg,hy,xk];rfl
   exact Zl 16 (k+1) ⟨(by rw[h3];rfl),Ya,zy⟩ C zp
  ·simp only[zh]at hc2;refine Wj ?_;exact aD C λD hD=>fp
theorem oC(sv:Γ)(x:Int)(xs:List Int)(D:aC)(hS:Sl D RI 1 sv (x::xs)):
  Fn prog 187 #[sv] D (λ_ v=>v=qI (xs.foldl min x)):=by
 refine Zx 5 func187 C λh0=>ga ?_;exact aD C λD hD=>C
theorem aBH{p:Pt}:(p.l== [1,1,1])=iM p:=by
 obtain⟨a,b,c⟩:=p;simp only[iM,Pt.l,Pt.mk.injEq];rw[vv];simp
theorem Qa{m k i:Nat}(hk:m.testBit k=true)(h1:i≤k)(h:((m >>> i:Nat):Int)%2=0):i+1≤k:=by
 rw[nO]at h;have:i≠k:=by rintro rfl;rw[hk]at h;simp at h
 omega
theorem aFA{m k i:Nat}(hl:∀i,i<k→m.testBit i=false)(h1:i≤k)(h:¬((m >>> i:Nat):Int)%2=0):i=k:=by
 rw[nO]at h;by_cases hi:i<k
 ·rw[hl i hi]at h;simp at h
 ·omega
theorem KI(r:Int×Int)(n:Int)(D:aC):Fn prog 254 #[nA r,qI n] D (λ_ v=>v=.bool (gF n r.1 r.2)):=by
 refine Zx 11 func254 C λh0=>aA<|Zac C λU E1 O I=>Zf C<|aJ<|Za C<|Zj C vX C<|Zh 0 C aH C I C<|Zj C vY C<|Zh 1 C aH C I C<|Zd C (λV R=>fO _ _ _ _)<|Zf C ?_;refine aG ?_;exact aD C λD hD=>C
theorem wO(r:Int×Int)(n:Int)(D:aC):Fn prog 111 #[nA r,qI n] D (λ_ v=>v=nA (min r.1 n,max r.2 n)):=by
 refine Zx 15 func111 C λh0=>aA<|Zac C λq1 E1 Z R=>Zag C kT C λq2=>bX<|fS [] 4 [0,1,2,5,6,7,8,3,4,9,10] [false,false,true,true,true,true,true,true,true,false,false] [(false,0),(false,1),(true,2),(true,5),(true,6),(true,7),(true,8),(true,3),(true,4),(false,9),(false,10)] aV (λ_ _ _ h=>eA (P:=prog) (fn:=f111) _ _ _ h) Yg C<|Zj C vX C<|Zh 0 C aH C R C<|Za C<|Zj C vY C<|Zh 1 C aH C R C<|Za C ?_;refine mL C C C C zy<|Zu C U35 aI cN C (.cons C C (.cons C C .nil)) λY D901 U I=>?_;have O:=Sl.ofInts (l:=[_,_]) (n:=2) (cap:=2) I C Yd Yd;refine Zd C (λD1 V=>oC _ r.1 [n] _ (O.up RI.up (V _ Yf)))<|Zw [qI (min r.1 n),qI (max r.2 n)] C n6 kT C<|Zaa C cU ζ<|aG ?_;exact Zp [_] C ⟨⟨_,_,_,C,zu,Or.inr ⟨oZ,kt,C⟩⟩,zy⟩ λD hD=>C
theorem Fz(n m:Int)(b:Nat)(D:aC)(hB:At D b 0 [qI m]):Fn prog 312 #[qI n,qP b] D (λ_ v=>v=.bool (gF n 0 m)):=by
 refine Zx 7 func312 C λh0=>aA<|Zf C<|aJ<|Za C<|Zh 0 C aH C hB C<|Zd C (λO I=>fO _ _ _ _)<|Wd ?_;exact aD C λD hD=>C
theorem Dz(p:Pt)(m:Int)(D:aC):Fn prog 246 #[ju p,qI m] D (λ_ v=>v=.bool (VW p m)):=by
 refine Zx 8 func246 C λh0=>aA<|Zac C λq1 E1 U O=>Zac C λV E2 Y R=>Zf C<|aJ<|Da C U312 aI C C zy<|Za1 C<|Zd C (λD1 I=>x5 _ _ p.l (λx=>gF x 0 m) _ (Sl.ofInts (l:=p.l) (n:=3) (cap:=3) (O.up (I _ Yf)) C Yd Yd) ⟨_,[],[_],C,λx Z hl=>Fz x m V Z (R.up ((I _ Yf).trans hl))⟩ C)<|Wd ?_;exact aD C λD hD=>C
theorem MQ(c:Ch)(D:aC):Fn prog 181 #[lk c] D (λ_ v=>v=.bool (lD c)):=by
 refine Zx 11 func181 C λh0=>aA<|Zac C λY E1 R I=>Zf C<|aJ<|Zj C CB C<|Zh 0 C aH C I C<|Zd C (λZ U=>fO _ _ _ _)<|Za C ?_;refine' bU 4 (s:=6) (p:=10) C (λO=>?_) (λO=>?_) ?_;rotate_left
 ·refine Zk C V7 C<|sL C (k:=1) rP pX C I Yc C C n4 C ⟨_,C,C⟩<|Ze C (λD2 V=>Dz c.parts 2 _)<|Zam C ?_;exact aQ 3
 ·refine Wb ?_;exact aQ 3
 refine Wd ?_;exact aD C λD hD=>C
theorem Ar(yv:Γ)(y:aS)(r:Int×Int)(D:aC)(hy:gZ D yv y):Fn prog 178 #[yv,nA r] D (λ_ v=>v=.bool (nN r)):=by
 obtain⟨cv,qv,rfl,hc,hq⟩:=hy;refine Zx 20 func178 C λh0=>aA<|Zac C λZ E1 U V=>Zac C λq2 E2 Y I=>Zf C<|aJ<|Zj C vX C<|Zh 0 C aH C I C<|iB C C C C zy<|Za C ?_;refine' bU 6 (s:=8) (p:=14) C (λO=>?_) (λO=>?_) ?_;rotate_left
 ·refine Zk C vX C<|Zi 0 C aH C I C<|Zk C vY C<|mt ?_;exact aQ 5
 ·refine Zg C<|vw ?_;exact aQ 5
 refine Za C ?_;refine' bU 4 (s:=15) (p:=19) C (λR=>?_) (λR=>?_) ?_;rotate_left
 ·refine Zk C vY C<|mt ?_;exact aQ 3
 ·refine Wb ?_;exact aQ 3
 refine Wd ?_;exact aD C λD hD=>C
theorem BR(p:Pt)(D:aC):Fn prog 251 #[ju p] D (λ_ v=>v=.bool (iM p)):=by
 refine Zx 6 func251 C λh0=>aA<|Zac C λR E1 O I=>Zf C<|aJ<|cQ C rP C I Yc pw n4 C zy<|BC (cs:=[qI 1,qI 1,qI 1]) C U312 aI AN C C C zy<|dn (l:=p.l) (m:=[1,1,1]) C Yg U312 U3 Yg C C C C C zy<|Wd ?_;exact aD C λD hD=>by show Value.bool _=_;rw[aBH]
theorem Jq(m k:Nat)(D:aC)(hk:m.testBit k=true)(I:k≤60)(hl:∀i,i<k→m.testBit i=false):Fn prog 314 #[qI (m:Int)] D (λ_ v=>v=qI (k:Int)):=by
 refine Zx 11 func314 C λh0=>aA<|Zf C<|bX<|Za4<|cW (γ:=Nat) (λi=>k-i) (λi=>i≤k) (λi=>[(2,qI (i:Int))]) [(0,_)] (λi=>[D]) 0 Yd ⟨Ya,zy⟩ ⟨C,zy⟩ (aN) ?_;rintro i h1;refine bL<|Za C<|Za C<|yS C C C Yd C zy<|uR C C C (re _) Yd fj C zy<|Zas C<|aE<|Zae C (λhc1=>?_) λhc1=>?_
 ·refine aP<|Za4<|aM<|Za C<|Zaf C<|Zf C<|Zap<|Za7 ?_;exact aK 9 (i+1) (Qa hk h1 hc1) (by have:=Qa hk h1 hc1;omega) ⟨Ya,zy⟩ C C zp (aN)
 ·obtain rfl:=aFA hl h1 hc1;refine Wj ?_;exact aD C λD hD=>C
def Y4(l:List Int):Nat:=(l.filter λn=>decide (n=2)).length
theorem Tx(l:List Int):Y4 l≤l.length:=xm _ _
theorem Py(l:List Ch):cZ l≤3*l.length:=by
 induction l with
 |nil=>simp[cZ]
 |cons c l ih=>
  have:nw c.parts≤3:=xm _ _;simp only[cZ,yl,List.sum_cons,zh]at ih ⊢
  omega
theorem WW{l:List Ch}{i:Nat}{x:Ch}(hx:l[i]?= some x):((cZ (l.take (i+1)):Nat):Int)=((cZ (l.take i)+Y4 (x.parts.l.take 3):Nat):Int):=by
 rw[zg,hx];simp[cZ,nw,Y4,Pt.l]
theorem aAJ{x:Ch}{k:Nat}{n:Int}(hx:lD x=true)(hn:x.parts.l[k]?= some n):0≤n∧n≤2:=by
 simp only[lD,zl,VW,yu]at hx;have:=hx.2 n (GE hn);simpa [gF]using this
theorem Gp{l:List Int}{k u:Nat}{n:Int}(hn:l[k]?= some n)(h:0≤n∧n≤2):((u+Y4 (l.take (k+1)):Nat):Int)=((u+Y4 (l.take k):Nat):Int)+n / 2:=by
 rw[zg,hn];simp only[Y4,yd,xu,zf];by_cases h2:n=2
 ·subst h2;simp;omega
 ·simp[h2];omega
theorem aGO{y:aS}(h:(decide ((7:Int)<y.chairs.length)||decide ((5:Int)<y.claims.length))=true):aW y=3:=by
 simp only[yg,LE]at h;unfold aW;rw[zo Yd]
theorem RM{y:aS}(h:(decide ((7:Int)<y.chairs.length)||decide ((5:Int)<y.claims.length))=false):¬(7<y.chairs.length∨5<y.claims.length):=by
 simp only[xn,yt]at h;omega
theorem Xcs{y:aS}(h:(decide ((7:Int)<y.chairs.length)||decide ((5:Int)<y.claims.length))=false)(h2:((!gF y.fit 0 9|| !y.chairs.all lD)|| !y.claims.all nN)=true):aW y=1:=by
 unfold aW;rw[zv (RM h),zo]
 revert h2;unfold K8
 generalize gF y.fit 0 9=a,y.chairs.all lD=b,y.claims.all nN=c;cases a<;>cases b<;>cases c<;>decide
theorem ej{y:aS}(h2:((!gF y.fit 0 9|| !y.chairs.all lD)|| !y.claims.all nN)=false):K8 y=true:=by
 revert h2;unfold K8
 generalize gF y.fit 0 9=a,y.chairs.all lD=b,y.claims.all nN=c;cases a<;>cases b<;>cases c<;>decide
theorem Wbp{y:aS}(h:(decide ((7:Int)<y.chairs.length)||decide ((5:Int)<y.claims.length))=false)(h2:((!gF y.fit 0 9|| !y.chairs.all lD)|| !y.claims.all nN)=false):y.chairs.length≤7∧∀x∈y.chairs,lD x=true:=by
 have h3:=ej h2;simp only[K8,zl,yu]at h3;have:=RM h;exact⟨Yd,h3.1.2⟩
theorem Ya1{y:aS}(h:(decide ((7:Int)<y.chairs.length)||decide ((5:Int)<y.claims.length))=false)(h2:((!gF y.fit 0 9|| !y.chairs.all lD)|| !y.claims.all nN)=false)(h3:(8:Int)<cZ y.chairs):aW y=3:=by
 unfold aW;rw[zv (RM h),zv (by rw[ej h2];simp),zo Yd]
theorem aBT{y:aS}(h:(decide ((7:Int)<y.chairs.length)||decide ((5:Int)<y.claims.length))=false)(h2:((!gF y.fit 0 9|| !y.chairs.all lD)|| !y.claims.all nN)=false)(h3:¬(8:Int)<cZ y.chairs):aW y=0:=by
 unfold aW;rw[zv (RM h),zv (by rw[ej h2];simp),zv Yd]
theorem Rh{p:Pt}{k:Nat}{m:Int}(h:p.l[k]?= some m):([qI p.a,qI p.b,qI p.c]:List Γ)[k*1]?= some (qI m):=by
 rw[xp,show([qI p.a,qI p.b,qI p.c]:List Γ)=p.l.map (Value.int .i64)from C,xt,h];rfl
theorem J5(yv:Γ)(y:aS)(D:aC)(hy:gZ D yv y):Fn prog 108 #[yv] D (λ_ v=>v=qI (aW y)):=by
 have V:=hy;obtain⟨cv,qv,rfl,hc,hq⟩:=hy;refine Zx 60 func108 C λh0=>aA<|Zac C λq1 E1 hN I=>Zf C<|aJ<|Zv C nY C I mD<|Za1 C<|Zf C<|bX<|Za4<|aA<|Zj C iS C ?_;refine Zh 0 C qG C I C<|Zaj C U84 C hc C<|uv ?_;refine' dU 5 (s:=16) (p:=21) C (λY=>?_) (λY=>?_) ?_;rotate_left
 ·refine Zk C nV C<|Zi 2 C P3 C I C<|eQ C U85 C hq C C ⟨_,C,C⟩<|Wy ?_;exact aQ 4
 ·refine Wf ?_;exact aQ 4
 refine Zf C<|aE<|Zai C (λhc1=>?_) λhc1=>?_
 ·refine Wm ?_;exact aD C λD hD=>by show Value.int _ _=_;rw[aGO hc1]
 ·refine aA<|Zj C Q7 C<|Zh 1 C aH C I C<|Zd C (λD1 hO=>fO _ _ _ _)<|si ?_;refine' dU 5 (s:=27) (p:=32) C (λZ=>?_) (λZ=>?_) ?_;rotate_left
  ·refine Zk C iS C<|Zi 0 C qG C I C<|Ze C (λU hB=>RW _ _ _ lD _ (Sl.at I0.up hB Yn Yf) (.of λx U=>MQ x U) C)<|vp ?_;exact aQ 4
  ·refine Wf ?_;exact aQ 4
  refine Za C ?_;refine' dU 6 (s:=33) (p:=39) C (λhE=>?_) (λhE=>?_) ?_;rotate_left
  ·refine Zk C nV C<|Zi 2 C P3 C I C<|Zb C<|Ze C (λD3 R=>RA _ _ _ nN _ (Sl.at R2.up R Yn Yf) ⟨_,[_],[],C,λr U hl=>Ar _ y r U (V.up ((R _ Yf).trans hl))⟩ C)<|vp ?_;exact aQ 5
  ·refine Zg C<|Wf ?_;exact aQ 5
  refine Zf C<|aE<|Zai C (λhc2=>?_) λhc2=>?_
  ·refine Wm ?_;exact aD C λD hD=>by show Value.int _ _=_;rw[Xcs hc1 hc2]
  ·obtain⟨hP,hok⟩:=Wbp hc1 hc2;refine bE<|Za7<|Za2<|aA<|Zf C<|bD<|Zj C iS C<|Zh 0 C qG C I C<|Zaj C U84 C hc C<|Za C<|aE<|Za4 ?_;refine Zo Nat (λi=>y.chairs.length-i) (λi=>i≤y.chairs.length) (λi=>[(43,qI (i:Int)),(4,qI (cZ (y.chairs.take i):Int))]) [(42,_),(41,_),(2,_)] (λi=>[E1,D]) 0 ⟨Ya,(by simp[cZ];rfl),zy⟩ ?_
   rintro i h1;refine aA<|Zal C<|bX<|Zae C (λhc3=>?_) λhc3=>?_
   ·have hi:i<y.chairs.length:=Yd
    obtain⟨x,hx⟩:=cF y.chairs i;have hxo:=hok x (GE hx);have hub:=Py (y.chairs.take i);have hut:(y.chairs.take i).length≤i:=ul _ _;refine aP<|Za6<|Za4<|aA<|Zy C U84 nK C hc C hx λb1 o1 hF hH hK hI=>?_;obtain rfl:hF=[qI _,qI _,qI _,qI _]:=hH;refine Zv C VH C hI nK<|Zag C U6 C λq2=>Zaa C nK ζ<|aJ<|Zj C V7 C<|eW C rP pX C zu C C n4 C zy<|Za C<|aE<|Za4<|Zo Nat (λk=>3-k) (λk=>k≤3) (λk=>[(49,qI (k:Int)),(4,qI ((cZ (y.chairs.take i)+Y4 (x.parts.l.take k):Nat):Int))]) [(48,_),(47,_),(6,_),(46,_),(45,_),(44,_),(43,_),(42,_),(41,_),(2,_)] (λk=>[E1,D]) 0 ⟨Ya,(by simp[Y4];rfl),zy⟩ ?_
    rintro k h2;refine aA<|Zal C<|bX<|Zae C (λhc4=>?_) λhc4=>?_
    ·have hR:k<3:=Yd
     obtain⟨n,hn⟩:∃n,x.parts.l[k]?= some n:=⟨_,yz (by simp[Pt.l];omega)⟩
     have hJ:=aAJ hxo hn;have hkl:=Tx (x.parts.l.take k);have hkt:(x.parts.l.take k).length≤k:=ul _ _;refine aP<|Za6<|Za4<|aA<|JA (l:=x.parts.l) C U312 aH aI C C Yd Yd hn C zy<|Zf C<|aE<|aM<|Za C<|Za C<|HX C C C Yd Yd Ye C zy<|Zaf C ?_;refine uz ?_;exact Zl 12 (k+1) ⟨Ya,(by rw[Gp hn hJ];rfl),zy⟩ C zp
    ·obtain rfl:k=3:=Yd
     refine Za9<|Za5<|Za5<|Zba<|Wc ?_;exact Zl 12 (i+1) ⟨Ya,(by rw[WW hx];rfl),zy⟩ C (List.Sublist.cons _ zp)
   ·obtain rfl:i=y.chairs.length:=Yd
    rw[ym];refine Za9<|Za5<|Za5<|Zba<|Za2<|bL<|Za C<|Zat C<|aE<|Zae C (λO=>?_) λO=>?_
    ·refine aA<|Wi ?_;exact aD C λD hD=>by show Value.int _ _=_;rw[Ya1 hc1 hc2 O]
    ·refine aP<|aA<|Wd ?_;exact aD C λD hD=>by show Value.int _ _=_;rw[aBT hc1 hc2 O]
def xP(p:Pt):Prop:=(0≤p.a∧p.a≤1)∧(0≤p.b∧p.b≤1)∧(0≤p.c∧p.c≤1)
def Z9(p q:Pt):Bool:=(!iM p&& !iM q)&&iM ⟨max p.a q.a,max p.b q.b,max p.c q.c⟩
def Z7(f:Int)(x z:Ch):Bool:=gF (x.size-z.size) (-f) f
theorem Nu(p q:Pt):Z9 p q=Z9 q p:=by
 unfold Z9;rw[Int.max_comm p.a,Int.max_comm p.b,Int.max_comm p.c,Bool.and_comm (!iM p)]
theorem Hn(f:Int)(x z:Ch):Z7 f x z=Z7 f z x:=by
 unfold Z7 gF;rw[vv];simp only[zl,LE];omega
theorem Cv(p q:Pt)(D:aC)(hp:xP p)(hq:xP q):Fn prog 252 #[ju p,ju q] D (λ_ v=>v=.bool (Z9 p q)):=by
 refine Zx 32 func252 C λh0=>aA<|Zac C λq1 E1 V I=>Zac C λq2 E2 Y O=>Zf C<|aJ<|cQ C rP C I Yc pw n4 C zy<|Zd C (λD1 Z=>BR p _)<|si ?_;refine' bU 4 (s:=8) (p:=12) C (λR=>?_) (λR=>?_) ?_;rotate_left
 ·refine cQ C rP C O Yc pw n4 C ⟨_,C,C⟩<|Ze C (λD2 hB=>BR q _)<|qf ?_;exact aQ 3
 ·refine Wb ?_;exact aQ 3
 refine Za C ?_;refine' bU 18 (s:=13) (p:=31) C (λU=>?_) (λU=>?_) ?_;rotate_left
 ·refine cD C U312 aI C C Yu Yu C ⟨_,C,C⟩<|iW C aH C I Yf C n4 C ⟨_,C,C⟩<|cD C U312 aI C C Yu Yu C ⟨_,C,C⟩<|iW C aH C O Yf C n4 C ⟨_,C,C⟩<|dz C C C hp.1 hq.1 C ⟨_,C,C⟩<|cD C U312 aI C C Yu Yu C ⟨_,C,C⟩<|iW C aH C I Yf C n4 C ⟨_,C,C⟩<|cD C U312 aI C C Yu Yu C ⟨_,C,C⟩<|iW C aH C O Yf C n4 C ⟨_,C,C⟩<|dz C C C hp.2.1 hq.2.1 C ⟨_,C,C⟩<|cD C U312 aI C C Yu Yu C ⟨_,C,C⟩<|iW C aH C I Yf C n4 C ⟨_,C,C⟩ ?_;refine cD C U312 aI C C Yu Yu C ⟨_,C,C⟩<|iW C aH C O Yf C n4 C ⟨_,C,C⟩<|dz C C C hp.2.2 hq.2.2 C ⟨_,C,C⟩<|BC (cs:=[qI (max p.a q.a),qI (max p.b q.b),qI (max p.c q.c)]) C U312 aI AN C C C ⟨_,C,C⟩<|Ze C (λD3 hE=>BR ⟨max p.a q.a,max p.b q.b,max p.c q.c⟩ _)<|Zam C ?_;exact aQ 17
 ·refine ol ?_;refine Zg C<|vw ?_;exact aQ 17
 refine Wd ?_;exact aD C λD hD=>C
theorem GL(yv:Γ)(y:aS)(a b:Nat)(x z:Ch)(D:aC)(hy:gZ D yv y)(hf:0≤y.fit∧y.fit≤9)(hx:y.chairs[a]?= some x)(hz:y.chairs[b]?= some z)(hxs:0≤x.size∧x.size≤9)(hzs:0≤z.size∧z.size≤9):Fn prog 115 #[yv,qI (a:Int),qI (b:Int)] D (λ_ v=>v=.bool (Z7 y.fit x z)):=by
 obtain⟨cv,qv,rfl,hc,hq⟩:=hy;refine Zx 26 func115 C λh0=>aA<|Zac C λq1 E1 hF I=>Zf C<|bX<|bK [] 6 20 257988<|Zj C iS C<|Zh 0 C qG C I C<|Za C<|Zy C U84 nK C hc C hx λb1 o1 O R hB U=>?_;obtain rfl:O=[qI _,qI _,qI _,qI _]:=R;refine Zj C CB C<|Zh 0 C aH C U C<|Zj C iS C<|Zh 0 C qG C I C<|Za C<|Zy C U84 nK C hc C hz λb2 o2 V Y hE Z=>?_;obtain rfl:V=[qI _,qI _,qI _,qI _]:=Y;refine Zj C CB C<|Zh 0 C aH C Z C<|Zax C<|Zj C Q7 C<|Zh 1 C aH C I C<|gu C C Ye C zy<|Zj C Q7 C<|Zh 1 C aH C I C<|Zd C (λD1 hH=>fO _ _ _ _)<|Wd ?_;exact aD C λD hD=>C
def iZ(p:Nat→Bool):Nat→Nat
 |0=>0
 |n+1=>if p n=true then iZ p n|||2^n else iZ p n
theorem mP(p:Nat→Bool):∀n i,(iZ p n).testBit i=(decide (i<n)&&p i)
 |0,i=>by simp[iZ]
 |n+1,i=>by
  unfold iZ;split
  ·rename_i h;rw[tm,mP p n i,rg];by_cases hi:n=i
   ·subst hi;simp[h]
   ·have:(i<n+1)=(i<n):=by rw[eq_iff_iff];omega
    simp[hi,this]
  ·rename_i h;rw[mP p n i];by_cases hi:n=i
   ·subst hi;simp[h]
   ·have:(i<n+1)=(i<n):=by rw[eq_iff_iff];omega
    simp[this]
theorem AP(p:Nat→Bool)(n:Nat):iZ p n<2^n:=by
 apply Nat.lt_pow_two_of_testBit;intro i hi;rw[mP];have:¬i<n:=Yd
 simp[this]
def mW(t:List Pt)(i:Nat):Bool:=match t[i]? with|some p=> !iM p|none=>false
def kH(y:aS)(t:List Pt)(i k:Nat):Bool:=match t[i]?,t[k]?,y.chairs[i]?,y.chairs[k]? with
 |some p,some q,some x,some z=>(decide ((k:Int)≠i)&&Z7 y.fit x z)&&Z9 p q
 |_,_,_,_=>false
theorem SO{y:aS}{t:List Pt}{i k:Nat}{z q:Pt}{I x2:Ch}(hz:t[i]?= some z)(hq:t[k]?= some q)(hx1:y.chairs[i]?= some I)(hx2:y.chairs[k]?= some x2):kH y t i k=((decide ((k:Int)≠i)&&Z7 y.fit I x2)&&Z9 z q):=by
 unfold kH;rw[hz,hq,hx1,hx2]
def gY(y:aS)(t:List Pt)(i k:Nat):List Nat:=(List.range 7).map λj=>if j<i then iZ (kH y t j) t.length else if j=i then iZ (kH y t i) k else 0
structure Sc where
 whole:Nat
 broken:Nat
 fits:List Nat
deriving DecidableEq
def dQ(y:aS)(t:List Pt):Sc:=⟨whole t,iZ (mW t) t.length,(List.range 7).map λj=>iZ (kH y t j) t.length⟩
def GZ(w b:Nat)(rows:List Nat):List Γ:=qI (w:Int)::qI (b:Int)::rows.map λ(n:Nat)=>Value.int .i64 (n:Int)
def aCG(s:Sc):Γ:=.agg (GZ s.whole s.broken s.fits).toArray
theorem aGY(w b:Nat)(rows:List Nat):∀u∈GZ w b rows,cell1 u=true:=by
 intro u hu;unfold GZ at hu;simp only[zm,n5]at hu;rcases hu with rfl|rfl|⟨n,_,rfl⟩<;>rfl
theorem aCP{y:aS}{t:List Pt}{j:Nat}(h:t.length≤j):iZ (kH y t j) t.length=0:=by
 apply n_;intro i;rw[mP,qj];have:kH y t j i=false:=by unfold kH;rw[tq h]
 simp[this]
theorem Eg{y:aS}{t:List Pt}:gY y t t.length 0=(dQ y t).fits:=by
 show gY y t t.length 0=(List.range 7).map λj=>iZ (kH y t j) t.length
 unfold gY;apply qn;intro j _;by_cases h:j<t.length
 ·rw[zo h]
 ·rw[zv h,aCP Yd];split<;>rfl
theorem Sx{y:aS}{t:List Pt}{i:Nat}:gY y t i t.length=gY y t (i+1) 0:=by
 unfold gY;apply qn;intro j _;by_cases h:j<i
 ·rw[zo h,zo Yd]
 ·rw[zv h];by_cases h2:j=i
  ·subst h2;rw[zo C,zo Yd]
  ·rw[zv h2,zv Yd];split<;>rfl
theorem Xaw{y:aS}{t:List Pt}{i k:Nat}(h:kH y t i k=false):gY y t i k=gY y t i (k+1):=by
 unfold gY;have:iZ (kH y t i) (k+1)=iZ (kH y t i) k:=by rw[iZ,zv (by simp[h])]
 rw[this]
theorem aAR{y:aS}{t:List Pt}{i k:Nat}(h:i<7):(gY y t i k)[i]?= some (iZ (kH y t i) k):=by
 unfold gY;rw[xt,rf h];simp
theorem Xas{rows:List Nat}{i n:Nat}(w b:Nat)(h:rows[i]?= some n):(GZ w b rows)[2+i*1]?= some (qI (n:Int)):=by
 rw[xp,Nat.add_comm];unfold GZ;rw[List.getElem?_cons_succ,List.getElem?_cons_succ,xt,h];rfl
theorem H8{t:List Pt}{i:Nat}{z:Pt}(hz:t[i]?= some z):whole (t.take (i+1))=whole (t.take i)+if iM z=true then 1 else 0:=by
 unfold whole;rw[zg,hz,yd,xu,zf];cases h:iM z<;>simp[h]
theorem Vn{t:List Pt}{i:Nat}{z:Pt}(hz:t[i]?= some z):mW t i= !iM z:=by unfold mW;rw[hz]
theorem PV{y:aS}{t:List Pt}{i k:Nat}{z:Pt}(hz:t[i]?= some z)(hw:iM z=true):iZ (kH y t i) k=0:=by
 apply n_;intro j;rw[mP,qj];have:kH y t i j=false:=by
  unfold kH;rw[hz]
  split
  ·rename_i I _ _ _;obtain rfl:=yi I;simp[Z9,hw]
  ·rfl
 simp[this]
theorem Df{y:aS}{t:List Pt}{i:Nat}{z:Pt}(hz:t[i]?= some z)(hw:iM z=true):
  (GZ (whole (t.take i)) (iZ (mW t) i) (gY y t i 0)).take 0++[qI ((whole (t.take i):Int)+1)]++(GZ (whole (t.take i)) (iZ (mW t) i) (gY y t i 0)).drop (0+ [Value.int .i64 ((whole (t.take i):Int)+1)].length)=GZ (whole (t.take (i+1))) (iZ (mW t) (i+1)) (gY y t (i+1) 0):=by
 have h1:((whole (t.take (i+1)):Nat):Int)=(whole (t.take i):Int)+1:=by rw[H8 hz,zo hw];simp
 have h2:iZ (mW t) (i+1)=iZ (mW t) i:=by rw[iZ,zv (by rw[Vn hz,hw];simp)]
 have h3:gY y t (i+1) 0=gY y t i 0:=by
  rw[←Sx];unfold gY;rw[PV hz hw,PV hz hw]
 rw[h2,h3];unfold GZ;rw[h1];rfl
theorem aED{y:aS}{t:List Pt}{i:Nat}{z:Pt}(hz:t[i]?= some z)(hw:iM z=false):
  (GZ (whole (t.take i)) (iZ (mW t) i) (gY y t i 0)).take 1++[qI ((iZ (mW t) i|||2^i:Nat):Int)]++(GZ (whole (t.take i)) (iZ (mW t) i) (gY y t i 0)).drop (1+ [Value.int .i64 ((iZ (mW t) i|||2^i:Nat):Int)].length)=GZ (whole (t.take (i+1))) (iZ (mW t) (i+1)) (gY y t i 0):=by
 have h1:whole (t.take (i+1))=whole (t.take i):=by rw[H8 hz,zv (by simp[hw])];rfl
 have h2:iZ (mW t) (i+1)=iZ (mW t) i|||2^i:=by rw[iZ,zo (by rw[Vn hz,hw];rfl)]
 rw[h1,h2];rfl
theorem Wbr{y:aS}{t:List Pt}{i k w b:Nat}(hi:i<7)(h:kH y t i k=true):
  (GZ w b (gY y t i k)).take (2+i*1)++[qI ((iZ (kH y t i) k|||2^k:Nat):Int)]++(GZ w b (gY y t i k)).drop (2+i*1+ [Value.int .i64 ((iZ (kH y t i) k|||2^k:Nat):Int)].length)=GZ w b (gY y t i (k+1)):=by
 have h2:iZ (kH y t i) (k+1)=iZ (kH y t i) k|||2^k:=by rw[iZ,zo h]
 have e:i=0∨i=1∨i=2∨i=3∨i=4∨i=5∨i=6:=Yd
 rw[←h2];rcases e with rfl|rfl|rfl|rfl|rfl|rfl|rfl<;>rfl
theorem Dt(yv tv:Γ)(y:aS)(t:List Pt)(D:aC)(hy:gZ D yv y)(ht:Sl D RP 3 tv t)(hlen:t.length=y.chairs.length)(h7:t.length≤7)(hb:∀p∈t,xP p)(hf:0≤y.fit∧y.fit≤9)(hs:∀c∈y.chairs,0≤c.size∧c.size≤9):Fn prog 184 #[yv,tv] D (λ_ v=>v=aCG (dQ y t)):=by
 have I:=hy;obtain⟨cv,qv,rfl,hc,hq⟩:=hy;have hl:=ht.len;refine Zx 61 func184 C λh0=>aA<|Zac C λq1 E1 hK O=>Zag C xZ C λq2=>bD<|Za C<|Zaj C U323 C ht C<|Za C<|aE<|Za4<|fE (γ:=Nat) (λi=>t.length-i) (λi=>i≤t.length) (λi=>[(11,qI (i:Int))]) [(10,_),(9,_),(4,_),(2,_),(1,_)] (λi=>[(q2,qC (GZ (whole (t.take i)) (iZ (mW t) i) (gY y t i 0)) 327)]) (λi=>[E1,D]) 0 Yd ⟨Ya,zy⟩ cE zp (aN) ?_;rintro i h1;refine aA<|Zal C<|bX<|Zae C (λhc1=>?_) λhc1=>?_
 ·have hi:i<t.length:=Yd
  obtain⟨z,hz⟩:=cF t i;obtain⟨x1,hx1⟩:=cF y.chairs i;have hwl:whole (t.take i)≤(t.take i).length:=xm _ _;have hwt:(t.take i).length≤i:=ul _ _;have hbl:=AP (mW t) i;have hN:2^i≤2^7:=wu Yd Yd;refine aP<|Za6<|Za4<|aA<|Za C<|Zy C U323 pX C ht C hz λb1 o1 R U hI V=>?_;obtain rfl:R=[qI _,qI _,qI _]:=U;refine cQ C rP C V Yc pw n4 C zy<|Zag C AN C λq3=>Zf C<|Zaa C pX ζ<|bD<|bN C rP C zu pw n4 C zy<|Zd C (λD1 hO=>BR z _)<|aE<|Zai C (λhc2=>?_) λhc2=>?_
  ·refine aA<|Zj C V2 C<|Zq C aH C zi C<|Zaf C<|Zj C V2 C<|dD (ws:=GZ (whole (t.take (i+1))) (iZ (mW t) (i+1)) (gY y t (i+1) 0)) C C C C aI (.tail ζ) (by simp[GZ]) (Df hz hc2) Ym zy<|aE<|Za9<|Za5<|Zba<|Za2<|aM ?_;refine Zaf C<|Za C<|Zap ?_;exact Zl 15 (i+1) ⟨Ya,zy⟩ C (List.Sublist.cons _ zp)
  ·refine aP<|Za6<|bK [] 2 7 12<|Zj C CD C<|Zq C aH C zi C<|Za C<|IB C C C Yd C zy<|OC C C C Yd Yd C zy<|Zj C CD C<|dD (ws:=GZ (whole (t.take (i+1))) (iZ (mW t) (i+1)) (gY y t i 0)) C C C C aI (.tail ζ) (by simp[GZ]) (aED hz hc2) Ym zy<|aJ<|Za C ?_;refine Zaj C U323 C ht C<|Za C<|aE<|Za4<|fE (γ:=Nat) (λk=>t.length-k) (λk=>k≤t.length) (λk=>[(30,qI (k:Int))]) [(29,_),(28,_),(27,_),(26,_),(25,_),(24,_),(23,_),(22,_),(17,_),(16,_),(5,_),(6,_),(15,_),(14,_),(13,_),(12,_),(11,_),(10,_),(9,_),(4,_),(2,_),(1,_)] (λk=>[(q3,qC [qI z.a,qI z.b,qI z.c] 312),(q2,qC (GZ (whole (t.take (i+1))) (iZ (mW t) (i+1)) (gY y t i k)) 327)]) (λk=>[E1,D]) 0 Yd ⟨Ya,zy⟩ cE zp (aN) ?_;rintro k h2;refine aA<|Zal C<|bX<|Zae C (λhc3=>?_) (λhc3=>?_)
   ·have hk:k<t.length:=Yd
    obtain⟨q,hq⟩:=cF t k;obtain⟨x2,hx2⟩:=cF y.chairs k;have hbk:=AP (kH y t i) k;have hP:2^k≤2^7:=wu Yd Yd;refine aP<|Za6<|Za4<|aA<|Za C<|Zy C U323 pX C ht C hq λb2 o2 Y Z hJ hB=>?_;obtain rfl:Y=[qI _,qI _,qI _]:=Z;refine cQ C rP C hB Yc pw n4 C zy<|Zag C AN C λq4=>Zf C<|Zaa C pX ζ<|aJ<|Za C<|Za C<|Za0 C<|Za C ?_;refine' bU 5 (s:=38) (p:=43) C (λhE=>?_) (λhE=>?_) ?_;rotate_left
    ·refine cQ C nY C O Yc mD n4 C ⟨_,C,C⟩<|Zb C<|Zb C<|Ze C (λD2 hF=>GL _ y i k x1 x2 _ (I.up (hF _ Yf)) hf hx1 hx2 (hs _ (GE hx1)) (hs _ (GE hx2)))<|Zam C ?_;exact aQ 4
    ·refine vw ?_;exact aQ 4
    refine Za C ?_;refine' bU 4 (s:=44) (p:=48) C (λhH=>?_) (λhH=>?_) ?_;rotate_left
    ·refine bN C rP C zi pw n4 C ⟨_,C,C⟩<|bN C rP C zu pw n4 C ⟨_,C,C⟩<|Ze C (λD3 hR=>Cv z q _ (hb _ (GE hz)) (hb _ (GE hq)))<|Zam C ?_;exact aQ 3
    ·refine Wb ?_;exact aQ 3
    refine aE<|Zai C (λhc4=>?_) λhc4=>?_
    ·have hfit:kH y t i k=true:=by rw[SO hz hq hx1 hx2];exact hc4
     refine bK [] 3 10 178<|Za C<|Zj C W0 C<|fH C U325 aI C C Yd Yd C zy<|bG C aH C xq (Xas _ _ (aAR Yd)) n4 C zy<|Za C<|IB C C C Yd C zy<|OC C C C Yd Yd C zy<|Zj C W0 C<|fH C U325 aI C C Yd Yd C zy<|dD (ws:=GZ (whole (t.take (i+1))) (iZ (mW t) (i+1)) (gY y t i (k+1))) C C C C aI (.tail (.tail ζ)) (by simp[GZ,gY];omega) (Wbr Yd hfit) Ym zy<|Zap ?_;refine Wc ?_;exact Zl 25 (k+1) ⟨Ya,zy⟩ C (List.Sublist.cons _ zp)
    ·have hfit:kH y t i k=false:=by rw[SO hz hq hx1 hx2];exact hc4
     refine xi ?_;rw[Xaw hfit];exact Zl 16 (k+1) ⟨Ya,zy⟩ C (List.Sublist.cons _ zp)
   ·obtain rfl:k=t.length:=Yd
    rw[Sx];refine Za9<|Za5<|Za5<|Zba<|Wc ?_;exact Zl 21 (i+1) ⟨Ya,zy⟩ C (List.Sublist.cons _ zp)
 ·obtain rfl:i=t.length:=Yd
  refine Za9<|Za5<|Za5<|Zba<|Za2<|aA<|Zah C uX C zu iN<|Zab C iN ζ (aGY _ _ _)<|aG ?_;exact Zp [_] C ⟨⟨_,_,_,C,zu,Or.inr ⟨uX,(by first|exact iN|(simp only[wd,aL, *];exact iN)),C⟩⟩,zy⟩ λD hD=>by rw[Eg,ym];rfl
end L7
end Go.Fs
namespace Go.Fs.C7
def qT(M:List (Nat×Nat)):List Nat:=M.flatMap λp=>[p.1,p.2]
theorem lQ{M:List (Nat×Nat)}{x:Nat}:x∈qT M ↔∃p∈M,x=p.1∨x=p.2:=by
 unfold qT;simp
structure VL(f:Nat→Nat→Bool)(S:Nat→Bool)(M:List (Nat×Nat)):Prop where
 fit:∀p∈M,S p.1=true∧S p.2=true∧f p.1 p.2=true
 nd:(qT M).Nodup
structure ML(f:Nat→Nat→Bool)(S:Nat→Bool)(k:Nat):Prop where
 ex:∃M,VL f S M∧M.length=k
 le:∀M,VL f S M→M.length≤k
theorem VL.nil{f:Nat→Nat→Bool}{S:Nat→Bool}:VL f S []:=⟨Yf,by simp[qT]⟩
theorem VL.mono{f:Nat→Nat→Bool}{S w9:Nat→Bool}{M:List (Nat×Nat)}(h:VL f S M)(hs:∀x,S x=true→w9 x=true):VL f w9 M:=
 ⟨λp hp=>⟨hs _ (h.fit p hp).1,hs _ (h.fit p hp).2.1,(h.fit p hp).2.2⟩,h.nd⟩
theorem ML.empty{f:Nat→Nat→Bool}{S:Nat→Bool}(h:∀x,S x=false):ML f S 0:=
 ⟨⟨[],VL.nil,C⟩,λM hM=>by
  cases M with
  |nil=>exact zk _
  |cons p l=>have:=(hM.fit p zj).1;rw[h]at this;cases this⟩
theorem aHB{M M':List (Nat×Nat)}(h:M'.Sublist M):(qT M').Sublist (qT M):=by
 unfold qT;induction h with
 |slnil=>exact n2 _
 |cons a _ ih=>rw[xy];exact ih.trans (List.sublist_append_right _ _)
 |cons_cons a _ ih=>rw[xy,xy];exact(n2 _).append ih
def lP(S:Nat→Bool)(a:Nat):Nat→Bool:=λx=>S x&&decide (x≠a)
theorem dW{S:Nat→Bool}{a x:Nat}:lP S a x=true ↔ S x=true∧x≠a:=by simp[lP]
theorem VL.drop{f:Nat→Nat→Bool}{S:Nat→Bool}{M:List (Nat×Nat)}{a:Nat}(h:VL f S M)(ha:a∉qT M):VL f (lP S a) M:=
 ⟨λp hp=>⟨dW.2 ⟨(h.fit p hp).1,λe=>ha (lQ.2 ⟨p,hp,zq e.symm⟩)⟩,dW.2 ⟨(h.fit p hp).2.1,λe=>ha (lQ.2 ⟨p,hp,zt e.symm⟩)⟩,(h.fit p hp).2.2⟩,h.nd⟩
theorem VL.split{f:Nat→Nat→Bool}{S:Nat→Bool}{M:List (Nat×Nat)}{p:Nat×Nat}(h:VL f S M)(hp:p∈M):
  p.1≠p.2∧VL f (lP (lP S p.1) p.2) (M.erase p)∧(M.erase p).length+1=M.length:=by
 have hperm:=List.perm_cons_erase hp;have hnd:(qT (p::M.erase p)).Nodup:=((List.Perm.flatMap_right (λp:Nat×Nat=>[p.1,p.2]) hperm).nodup_iff).1 h.nd;unfold qT at hnd;rw[xy,za]at hnd;obtain⟨h1,h2,h3⟩:=hnd;have hne:p.1≠p.2:=vj
 have hl:=List.length_erase_of_mem hp;have hpos:=List.length_pos_of_mem hp;refine⟨hne,⟨λq hq=>?_,h2⟩,Yd⟩;have hq':=h.fit q (List.mem_of_mem_erase hq);have I:∀z,z=p.1∨z=p.2→∀x,x=q.1∨x=q.2→x≠z:=by
  intro z hz x hx e;have:=h3 z (by simpa using hz) x (lQ.2 ⟨q,hq,hx⟩);exact this e.symm
 refine⟨dW.2 ⟨dW.2 ⟨hq'.1,I _ (zq C) _ (zq C)⟩,I _ (zt C) _ (zq C)⟩,dW.2 ⟨dW.2 ⟨hq'.2.1,I _ (zq C) _ (zt C)⟩,I _ (zt C) _ (zt C)⟩,hq'.2.2⟩
theorem VL.cons{f:Nat→Nat→Bool}{S:Nat→Bool}{M:List (Nat×Nat)}{a b:Nat}(h:VL f (lP (lP S a) b) M)(ha:S a=true)(hb:S b=true)(hne:a≠b)(hf:f a b=true):VL f S ((a,b)::M):=by
 refine⟨λp hp=>?_,?_⟩
 ·rcases zm.1 hp with rfl|hp
  ·exact⟨ha,hb,hf⟩
  ·obtain⟨h1,h2,h3⟩:=h.fit p hp;exact⟨(dW.1 (dW.1 h1).1).1,(dW.1 (dW.1 h2).1).1,h3⟩
 ·have hout:∀z,z=a∨z=b→z∉qT M:=by
   intro z hz hm;obtain⟨p,hp,hx⟩:=lQ.1 hm;obtain⟨h1,h2,_⟩:=h.fit p hp;have h1':=dW.1 h1;have h2':=dW.1 h2;have h1'':=dW.1 h1'.1;have h2'':=dW.1 h2'.1;rcases hz with rfl|rfl<;>rcases hx with hx|hx
   ·exact h1''.2 hx.symm
   ·exact h2''.2 hx.symm
   ·exact h1'.2 hx.symm
   ·exact h2'.2 hx.symm
  unfold qT;rw[xy];refine za.2 ⟨nz,h.nd,λx hx y hy e=>?_⟩;subst e;exact hout x mr hy
theorem aEK{f:Nat→Nat→Bool}(hsym:∀a b,f a b=f b a){S:Nat→Bool}{a:Nat}(ha:S a=true){n:Nat}(hn:∀x,S x=true→x<n){U:Nat}(h0:ML f (lP S a) U){g:Nat→Nat}(hg:∀b,S b=true→b≠a→f a b=true→ML f (lP (lP S a) b) (g b)):
  ML f S (((List.range n).filter λb=>(S b&&decide (b≠a))&&f a b).foldl (λm b=>max m (1+g b)) U):=by
 have hle:∀(l:List Nat) (m:Nat),m≤l.foldl (λm b=>max m (1+g b)) m∧∀b∈l,1+g b≤l.foldl (λm b=>max m (1+g b)) m:=by
  intro l;induction l with
  |nil=>intro m;exact⟨zk _,Yf⟩
  |cons x l ih=>
   intro m;rw[yp];obtain⟨i1,i2⟩:=ih (max m (1+g x));refine⟨Yd,λb hb=>?_⟩;rcases zm.1 hb with rfl|hb
   ·omega
   ·exact i2 b hb
 have hex:∀(l:List Nat) (m:Nat),l.foldl (λm b=>max m (1+g b)) m=m∨∃b∈l,l.foldl (λm b=>max m (1+g b)) m=1+g b:=by
  intro l;induction l with
  |nil=>intro m;exact zq C
  |cons x l ih=>
   intro m;rw[yp];rcases ih (max m (1+g x))with h|⟨b,hb,h⟩
   ·rw[h];by_cases hm:m≤1+g x
    ·exact zt ⟨x,zj,Yd⟩
    ·exact zq Yd
   ·exact zt ⟨b,GT _ hb,h⟩
 refine⟨?_,λM hM=>?_⟩
 ·rcases hex ((List.range n).filter λb=>(S b&&decide (b≠a))&&f a b) U with h|⟨b,hb,h⟩
  ·obtain⟨M,hM,he⟩:=h0.ex;exact⟨M,hM.mono λx hx=>(dW.1 hx).1,by rw[h,he]⟩
  ·rw[xf]at hb;simp only[zl,LE]at hb;obtain⟨_,⟨I,O⟩,R⟩:=hb;obtain⟨M,hM,he⟩:=(hg b I O R).ex;exact⟨(a,b)::M,hM.cons ha I (λe=>O e.symm) R,by rw[h,zh,he];omega⟩
 ·obtain⟨i1,i2⟩:=hle ((List.range n).filter λb=>(S b&&decide (b≠a))&&f a b) U;by_cases hin:a∈qT M
  ·obtain⟨p,hp,hx⟩:=lQ.1 hin;obtain⟨hne,hMe,hlen⟩:=hM.split hp;obtain⟨p1,p2⟩:=p;obtain⟨V,Y,Z⟩:=hM.fit _ hp;simp only at hx hne hMe V Y Z;rcases hx with rfl|rfl
   ·have:=(hg p2 Y (λe=>hne e.symm) Z).le _ hMe;have:=i2 p2 (xf.2 ⟨yj.2 (hn _ Y),by simp[Y,Z];exact λe=>hne e.symm⟩)
    omega
   ·have hMe':VL f (lP (lP S a) p1) (M.erase (p1,a)):=hMe.mono λx hx=>by
     have h1:=dW.1 hx;have h2:=dW.1 h1.1;exact dW.2 ⟨dW.2 ⟨h2.1,h1.2⟩,h2.2⟩
    have hf':f a p1=true:=by rw[hsym];exact Z
    have:=(hg p1 V hne hf').le _ hMe';have:=i2 p1 (xf.2 ⟨yj.2 (hn _ V),by simp[V,hf'];exact hne⟩)
    omega
  ·have:=h0.le _ (hM.drop hin);omega
def prs(n:Nat):Nat→Nat→List (List (Nat×Nat))
 |0,_=>[[]]
 |k+1,w=>if w.testBit (n-(k+1))then prs n k w else
   prs n k w++((List.range n).filter λb=>decide (n-(k+1)<b)&& !w.testBit b).flatMap λb=>(prs n k (w|||2^b)).map λl=>(n-(k+1),b)::l
structure BK(n a w:Nat)(l:List (Nat×Nat)):Prop where
 at_:∀p∈l,a≤p.1∧p.1<p.2∧p.2<n∧w.testBit p.1=false∧w.testBit p.2=false
 nd:(qT l).Nodup
theorem UU(w b x:Nat):(w|||2^b).testBit x=(w.testBit x||decide (b=x)):=by
 rw[tm,rg]
theorem BK.weak{n a a' w w':Nat}{l:List (Nat×Nat)}(h:BK n a w l)(ha:a'≤a)(hw:∀x,w'.testBit x=true→w.testBit x=true):BK n a' w' l:=by
 have key:∀x,w.testBit x=false→w'.testBit x=false:=λx hx=>by
  cases e:w'.testBit x with
  |false=>rfl
  |true=>rw[hw _ e]at hx;cases hx
 refine⟨λp hp=>?_,h.nd⟩;obtain⟨h1,h2,h3,h4,h5⟩:=h.at_ p hp;exact⟨Yd,h2,h3,key _ h4,key _ h5⟩
theorem j6{n:Nat}:∀(k w:Nat),k≤n→∀l∈prs n k w,BK n (n-k) w l
 |0,w,_,l,hl=>by
  obtain rfl:l=[]:=by simpa [prs]using hl
  exact⟨Yf,by simp[qT]⟩
 |k+1,w,hk,l,hl=>by
  unfold prs at hl;split at hl
  ·exact(j6 k w Yd l hl).weak Yd λx h=>h
  ·rename_i hw;rcases zd.1 hl with hl|hl
   ·exact(j6 k w Yd l hl).weak Yd λx h=>h
   ·obtain⟨b,hb,hl⟩:=vr.1 hl;obtain⟨l',hl',rfl⟩:=n5.1 hl;rw[xf,yj]at hb;simp only[zl,LE,vt]at hb;obtain⟨hbn,hab,hbw⟩:=hb;have ih:=j6 k (w|||2^b) Yd l' hl';have hw':w.testBit (n-(k+1))=false:=by simpa using hw
    have out:∀x∈qT l',n-(k+1)<x∧x≠b:=λx hx=>by
     obtain⟨p,hp,hxp⟩:=lQ.1 hx;obtain⟨h1,h2,h3,h4,h5⟩:=ih.at_ p hp;rw[UU]at h4 h5;simp only[xn,yt]at h4 h5;rcases hxp with rfl|rfl
     ·exact⟨Yd,λe=>h4.2 e.symm⟩
     ·exact⟨Yd,λe=>h5.2 e.symm⟩
    refine⟨λp hp=>?_,?_⟩
    ·rcases zm.1 hp with rfl|hp
     ·exact⟨zk _,hab,hbn,hw',hbw⟩
     ·obtain⟨h1,h2,h3,h4,h5⟩:=ih.at_ p hp;rw[UU]at h4 h5;simp only[xn]at h4 h5;exact⟨Yd,h2,h3,h4.1,h5.1⟩
    ·unfold qT;rw[xy];refine za.2 ⟨xw,ih.nd,λx hx y hy e=>?_⟩
     subst e;have:=out x hy;simp only[zm,n4,yk]at hx;omega
theorem FR{n:Nat}:∀(k w:Nat),k≤n→∀M,BK n (n-k) w M→∃l∈prs n k w,∀p∈M,p∈l
 |0,w,_,M,hM=>by
  refine⟨[],by simp[prs],λp hp=>?_⟩;have:=hM.at_ p hp;omega
 |k+1,w,hk,M,hM=>by
  have free:n-(k+1)∉qT M→∃l∈prs n k w,∀p∈M,p∈l:=λhout=>
   FR k w Yd M ⟨λp hp=>by
    obtain⟨h1,h2⟩:=hM.at_ p hp;have:p.1≠n-(k+1):=λe=>hout (lQ.2 ⟨p,hp,zq e.symm⟩)
    exact⟨Yd,h2⟩,hM.nd⟩
  unfold prs;split
  ·rename_i hw;refine free λhin=>?_
   obtain⟨p,hp,hx⟩:=lQ.1 hin;obtain⟨h1,h2,h3,h4,h5⟩:=hM.at_ p hp;rcases hx with hx|hx
   ·rw[←hx,hw]at h4;cases h4
   ·rw[←hx,hw]at h5;cases h5
  ·by_cases hin:n-(k+1)∈qT M
   ·obtain⟨p,hp,hx⟩:=lQ.1 hin;obtain⟨h1,h2,h3,h4,h5⟩:=hM.at_ p hp;have hx1:p.1=n-(k+1):=Yd
    have hperm:=List.perm_cons_erase hp;have hnd:(qT (p::M.erase p)).Nodup:=((List.Perm.flatMap_right (λp:Nat×Nat=>[p.1,p.2]) hperm).nodup_iff).1 hM.nd;unfold qT at hnd;rw[xy,za]at hnd;obtain⟨_,O,I⟩:=hnd;have apart:∀q∈M.erase p,∀z,z=q.1∨z=q.2→z≠p.1∧z≠p.2:=λq hq z hz=>
     ⟨λe=>I p.1 Yf z (lQ.2 ⟨q,hq,hz⟩) e.symm,λe=>I p.2 Yf z (lQ.2 ⟨q,hq,hz⟩) e.symm⟩
    obtain⟨l,hl,hsub⟩:=FR (n:=n) k (w|||2^p.2) Yd (M.erase p) ⟨λq hq=>by
     obtain⟨g1,g2,g3,g4,R⟩:=hM.at_ q (List.mem_of_mem_erase hq);have U:=apart q hq q.1 (zq C);have a2:=apart q hq q.2 (zt C);refine⟨Yd,g2,g3,?_,?_⟩
     ·rw[UU,g4];simpa using λe=>U.2 e.symm
     ·rw[UU,R];simpa using λe=>a2.2 e.symm,O⟩
    refine⟨p::l,LT _ (vr.2 ⟨p.2,xf.2 ⟨yj.2 h3,?_⟩,n5.2 ⟨l,hl,?_⟩⟩),λq hq=>?_⟩
    ·rw[←hx1,h5];simpa using h2
    ·rw[←hx1]
    ·by_cases e:q=p
     ·subst e;exact zj
     ·exact GT _ (hsub q ((List.mem_erase_of_ne e).2 hq))
   ·obtain⟨l,hl,hs⟩:=free hin;exact⟨l,yw _ hl,hs⟩
theorem oT{α:Type}[DecidableEq α]:∀{l m:List α},l.Nodup→(∀x∈l,x∈m)→l.length≤m.length
 | [],m,_,_=>ra _
 |x::l,m,hn,hs=>by
  have hx:=hs x zj;have h1:=xg.1 hn;have:=oT (l:=l) (m:=m.erase x) h1.2 λy hy=>(List.mem_erase_of_ne λe:y=x=>h1.1 (e▸hy)).2 (hs y (GT _ hy))
  have h2:=List.length_erase_of_mem hx;have h3:=List.length_pos_of_mem hx;simp only[zh];omega
theorem ZC{M:List (Nat×Nat)}(h:(qT M).Nodup):M.Nodup:=by
 induction M with
 |nil=>exact wz
 |cons p M ih=>
  unfold qT at h;rw[xy,za]at h;refine xg.2 ⟨λhp=>?_,ih h.2.1⟩;exact h.2.2 p.1 Yf p.1 (lQ.2 ⟨p,hp,zq C⟩) C
theorem QJ(M:List (Nat×Nat)):(qT (M.map λp=>(min p.1 p.2,max p.1 p.2))).Perm (qT M):=by
 induction M with
 |nil=>exact List.Perm.refl _
 |cons p M ih=>
  unfold qT at ih ⊢
  rw[yl,xy,xy];refine List.Perm.append ?_ ih;rcases Nat.le_total p.1 p.2 with h|h
  ·rw[uj h,Nat.max_eq_right h]
  ·rw[Nat.min_eq_right h,Nat.max_eq_left h];exact List.Perm.swap ..
def np(f:Nat→Nat→Bool)(l:List (Nat×Nat)):Nat:=(l.filter λp=>f p.1 p.2).length
theorem Cq{f:Nat→Nat→Bool}(hsym:∀a b,f a b=f b a){S:Nat→Bool}{n k:Nat}(hS:∀a b,f a b=true→S a=true∧S b=true)(hn:∀x,S x=true→x<n)(hk:ML f S k):
  ((prs n n 0).map (np f)).foldl max 0=k:=by
 have hle:∀(l:List Nat) (m c:Nat),m≤c→(∀x∈l,x≤c)→l.foldl max m≤c:=by
  intro l;induction l with
  |nil=>intro m c h _;exact h
  |cons x l ih=>intro m c h hx;rw[yp];exact ih _ _ (by have:=hx x zj;omega) λy hy=>hx y (GT _ hy)
 have hge:∀(l:List Nat) (m:Nat),m≤l.foldl max m∧∀x∈l,x≤l.foldl max m:=by
  intro l;induction l with
  |nil=>intro m;exact⟨zk _,Yf⟩
  |cons x l ih=>
   intro m;rw[yp];obtain⟨I,i2⟩:=ih (max m x);refine⟨Yd,λy hy=>?_⟩;rcases zm.1 hy with rfl|hy
   ·omega
   ·exact i2 y hy
 apply Nat.le_antisymm
 ·refine hle _ _ _ (ra _) λx hx=>?_
  obtain⟨l,hl,rfl⟩:=n5.1 hx;have ok:=j6 n 0 (zk _) l hl;refine hk.le (l.filter λp=>f p.1 p.2) ⟨λp hp=>?_,ok.nd.sublist (aHB List.filter_sublist)⟩;have:=(xf.1 hp).2;exact⟨(hS _ _ this).1,(hS _ _ this).2,this⟩
 ·obtain⟨M,hM,rfl⟩:=hk.ex;have hne:∀p∈M,p.1≠p.2:=λp hp=>(hM.split hp).1
  obtain⟨l,hl,hs⟩:=FR n 0 (zk _) (M.map λp=>(min p.1 p.2,max p.1 p.2)) ⟨λp hp=>by
   obtain⟨q,hq,rfl⟩:=n5.1 hp;have h1:=hn _ (hM.fit q hq).1;have h2:=hn _ (hM.fit q hq).2.1;have h3:=hne q hq;exact⟨Yd,Yl,Yl,Yf,Yf⟩,by
    exact(QJ M).nodup_iff.2 hM.nd⟩
  refine xj ?_ ((hge _ 0).2 (np f l) (n5.2 ⟨l,hl,C⟩));have hnd:(M.map λp=>(min p.1 p.2,max p.1 p.2)).Nodup:=ZC (by
    exact(QJ M).nodup_iff.2 hM.nd)
  have:=oT hnd (m:=l.filter λp=>f p.1 p.2) λp hp=>by
   refine xf.2 ⟨hs p hp,?_⟩;obtain⟨q,hq,rfl⟩:=n5.1 hp;have hf:=(hM.fit q hq).2.2;rcases Nat.le_total q.1 q.2 with h|h
   ·simp only[uj h,Nat.max_eq_right h];exact hf
   ·simp only[Nat.min_eq_right h,Nat.max_eq_left h];rw[hsym];exact hf
  simpa [np]using this
theorem DI{m a:Nat}(h:m.testBit a=true):nE m (2^a)<m:=by
 have h1:=H2 m (2^a);have h2:nE m (2^a)≠m:=λe=>by
  have:=L0 m (2^a) a;rw[e,h,Nat.testBit_two_pow_self]at this;cases this
 omega
theorem IV(m a i:Nat):(nE m (2^a)).testBit i=(m.testBit i&& !decide (a=i)):=by
 rw[L0,rg]
def low(m:Nat):Nat:=((List.range m).find? λi=>m.testBit i).getD 0
theorem A6{m:Nat}(h:m≠0):m.testBit (low m)=true∧∀i,i<low m→m.testBit i=false:=by
 obtain⟨i,hi⟩:=Nat.exists_testBit_of_ne_zero h;have him:i<m:=vc Nat.lt_two_pow_self (Nat.ge_two_pow_of_testBit hi);unfold low;cases hf:(List.range m).find? λi=>m.testBit i with
 |none=>
  have:=List.find?_eq_none.1 hf i (yj.2 him);exact absurd hi this
 |some j=>
  have h1:=List.find?_some hf;refine⟨h1,λk hk=>?_⟩;simp only[va]at hk;obtain⟨_,I,O,hab,hno⟩:=List.find?_eq_some_iff_append.1 hf;have hjm:j<m:=yj.1 (jq hf);have hlen:I.length=j:=by
   have h2:(List.range m)[I.length]?= some j:=by rw[hab,rk (zk _)];simp
   have hl:I.length<m:=by
    have:=zn List.length hab;simp at this;omega
   rw[rf hl]at h2;exact yi h2
  have hkm:(List.range m)[k]?= some k:=rf Yd;rw[hab,uo Yd]at hkm;have:=hno k (GE hkm);simpa using this
def fB(F:List Nat)(a b:Nat):Bool:=(F.getD a 0).testBit b
def xA(F:List Nat)(rest a:Nat)(nu:Nat→Nat)(m b:Nat):Nat:=if(rest&&&F.getD a 0).testBit b=true then max m (1+nu (nE rest (2^b)))else m
def rn(F:List Nat)(n:Nat):Nat→Nat→Nat
 |0,_=>0
 |k+1,m=>if m=0 then 0 else(List.range n).foldl (xA F (nE m (2^low m)) (low m) (rn F n k)) (rn F n k (nE m (2^low m)))
def EA(F:List Nat)(n m:Nat):Nat:=rn F n m m
theorem yM{α β:Type}{f g:β→α→β}:∀{l:List α} {b:β},(∀b,∀a∈l,f b a=g b a)→l.foldl f b=l.foldl g b
 | [],_,_=>rfl
 |x::l,b,h=>by
  rw[yp,yp,h b x zj];exact yM λb a ha=>h b a (GT _ ha)
theorem BI{F:List Nat}{n:Nat}:∀(k m l:Nat),m≤k→m≤l→rn F n k m=rn F n l m
 |0,m,l,h,_=>by
  obtain rfl:m=0:=Yd
  cases l<;>simp[rn]
 |k+1,m,0,_,h=>by
  obtain rfl:m=0:=Yd
  simp[rn]
 |k+1,m,l+1,h,h'=>by
  simp only[rn];by_cases hm:m=0
  ·rw[zo hm,zo hm]
  ·rw[zv hm,zv hm];have hlt:=DI (A6 hm).1;have e0:=BI (F:=F) (n:=n) k (nE m (2^low m)) l Yd Yd;rw[e0];refine yM λb a _=>?_
   unfold xA;split
   ·have:=H2 (nE m (2^low m)) (2^a);rw[BI k (nE (nE m (2^low m)) (2^a)) l Yd Yd]
   ·rfl
theorem Xn{F:List Nat}{n:Nat}:EA F n 0=0:=rfl
theorem RZ{F:List Nat}{n m:Nat}(h:m≠0):EA F n m=(List.range n).foldl (xA F (nE m (2^low m)) (low m) (EA F n)) (EA F n (nE m (2^low m))):=by
 have hlt:=DI (A6 h).1;obtain⟨k,rfl⟩:∃k,m=k+1:=⟨m-1,Yd⟩
 show rn F n (k+1) (k+1)=_;rw[rn,zv h];rw[BI k (nE (k+1) (2^low (k+1))) (nE (k+1) (2^low (k+1))) Yd (zk _)];refine yM λb a _=>?_
 unfold xA;split
 ·have:=H2 (nE (k+1) (2^low (k+1))) (2^a);rw[BI k (nE (nE (k+1) (2^low (k+1))) (2^a)) _ Yd (zk _)];rfl
 ·rfl
theorem zG{α β:Type}{f:β→α→β}{p:α→Bool}:∀{l:List α} {b:β},(l.filter p).foldl f b=l.foldl (λb a=>if p a=true then f b a else b) b
 | [],_=>rfl
 |x::l,b=>by
  rw[wj,yp];split
  ·rw[yp];exact zG
  ·exact zG
theorem dj{F:List Nat}{n:Nat}(hsym:∀a b,fB F a b=fB F b a):∀(k m:Nat),m≤k→(∀x,m.testBit x=true→x<n)→ML (fB F) m.testBit (EA F n m)
 |k,m,hk,hn=>by
  by_cases hm:m=0
  ·subst hm;exact ML.empty λx=>qj x
  ·have hlow:=A6 hm;have hlt:=DI hlow.1;obtain⟨k',rfl⟩:∃k',k=k'+1:=⟨k-1,Yd⟩
   have I:∀m a:Nat,(nE m (2^a)).testBit=lP m.testBit a:=λm a=>by
    funext x;rw[IV];unfold lP
    by_cases h:a=x
    ·subst h;simp
    ·have h':x≠a:=λe=>h e.symm
     simp[h,h']
   have i0:=dj hsym k' (nE m (2^low m)) Yd λx hx=>hn x (by rw[IV]at hx;simp at hx;exact hx.1)
   rw[I]at i0;have ig:∀b,m.testBit b=true→b≠low m→fB F (low m) b=true→ML (fB F) (lP (lP m.testBit (low m)) b) (EA F n (nE (nE m (2^low m)) (2^b))):=λb _ _ _=>by
    have:=H2 (nE m (2^low m)) (2^b);have O:=dj hsym k' (nE (nE m (2^low m)) (2^b)) Yd λx hx=>hn x (by rw[IV,IV]at hx;simp at hx;exact hx.1.1)
    rw[I,I]at O;exact O
   have key:=aEK hsym hlow.1 hn i0 ig;rw[zG]at key;rw[RZ hm];have:(List.range n).foldl (xA F (nE m (2^low m)) (low m) (EA F n)) (EA F n (nE m (2^low m)))=(List.range n).foldl (λk b=>if((m.testBit b&&decide (b≠low m))&&fB F (low m) b)=true then max k (1+EA F n (nE (nE m (2^low m)) (2^b)))else k) (EA F n (nE m (2^low m))):=by
    refine yM λk b _=>?_
    unfold xA;rw[Nat.testBit_and,I];rfl
   rw[this];exact key
theorem Ub{F:List Nat}{rest a:Nat}{nu:Nat→Nat}:∀(l:List Nat) (m:Nat),l.foldl (xA F rest a nu) m=m∨∃b∈l,(rest&&&F.getD a 0).testBit b=true∧l.foldl (xA F rest a nu) m=1+nu (nE rest (2^b))
 | [],m=>zq C
 |x::l,m=>by
  rw[yp];rcases Ub l (xA F rest a nu m x)with h|⟨b,hb,hbit,h⟩
  ·rw[h];unfold xA;split
   ·rename_i hx;by_cases hm:m≤1+nu (nE rest (2^x))
    ·exact zt ⟨x,zj,hx,Yd⟩
    ·exact zq Yd
   ·exact zq C
  ·exact zt ⟨b,GT _ hb,hbit,h⟩
theorem Sb{m b:Nat}(h:m≠0):nE (nE m (2^low m)) (2^b)<m:=Nat.lt_of_le_of_lt (H2 _ _) (DI (A6 h).1)

def j9:List Int→List Pt
 |a::b::c::l=>⟨a,b,c⟩::j9 l
 |_=>[]
def kY(l:List Ch):List Int:=l.flatMap λc=>c.parts.l
def pR(l:List Pt):List Int:=l.flatMap Pt.l
theorem xB(p:Pt)(l:List Pt):pR (p::l)=p.a::p.b::p.c::pR l:=rfl
theorem aHX(l:List Pt):j9 (pR l)=l:=by
 induction l with
 |nil=>rfl
 |cons p l ih=>rw[xB,j9,ih]
theorem rZ(l:List Ch):(kY l).length=3*l.length:=by
 induction l with
 |nil=>rfl
 |cons c l ih=>unfold kY at ih ⊢;rw[xy,zf,ih,zh];simp[Pt.l];omega
theorem TM(l:List Pt):(pR l).length=3*l.length:=by
 induction l with
 |nil=>rfl
 |cons c l ih=>rw[xB];simp only[zh,ih];omega
theorem RJ:∀(n:Nat) (l:List Int),l.length=3*n→pR (j9 l)=l∧(j9 l).length=n
 |0,l,h=>by
  obtain rfl:l=[]:=ri.1 Yd;exact⟨C,C⟩
 |n+1,l,h=>by
  match l,h with
  |a::b::c::l,h=>
   obtain⟨h1,h2⟩:=RJ n l (by simp only[zh]at h;omega);rw[j9,xB];exact⟨by rw[h1],by rw[zh,h2]⟩
def SI(y:aS):List (List Pt):=(C1.bP (kY y.chairs)).map j9
theorem F0:∀{l t:List Int},t∈C1.bP l ↔ t.length=l.length∧∀x∈l.zip t,zJ x.1 x.2=true∧True
 | [],t=>by simp[C1.bP]
 |p::l,t=>by
  have ih:=λt=> @F0 l t
  cases t with
  |nil=>simp[C1.bP]
  |cons x t=>
   have:x::t∈C1.bP (p::l) ↔ ((p=2∨p=x)∧(x=0∨x=1))∧t∈C1.bP l:=by
    rw[show C1.bP (p::l)=(if p=2∨p=0 then(C1.bP l).map (0:: ·)else [])++(if p=2∨p=1 then(C1.bP l).map (1:: ·)else [])from C,zd];constructor
    ·rintro(h|h)
     ·split at h
      ·rename_i hp;obtain⟨s,hs,he⟩:=n5.1 h;obtain⟨rfl,rfl⟩:=List.cons.inj he;exact⟨⟨hp,zq C⟩,hs⟩
      ·cases h
     ·split at h
      ·rename_i hp;obtain⟨s,hs,he⟩:=n5.1 h;obtain⟨rfl,rfl⟩:=List.cons.inj he;exact⟨⟨hp,zt C⟩,hs⟩
      ·cases h
    ·rintro⟨⟨hp,rfl|rfl⟩,ht⟩
     ·exact zq (by rw[zo hp];exact n5.2 ⟨t,ht,C⟩)
     ·exact zt (by rw[zo hp];exact n5.2 ⟨t,ht,C⟩)
   rw[this,ih];simp only[zh,s3,zm,and_true,forall_eq_or_imp,Nat.add_right_cancel_iff];have:zJ p x=true ↔ (p=2∨p=x)∧(x=0∨x=1):=by
    unfold zJ;simp only[zl,bH,yg,LE];constructor
    ·rintro⟨h1,h2⟩;exact⟨h2.imp id Eq.symm,Yd⟩
    ·rintro⟨h1,h2⟩;exact⟨Yd,h1.imp id Eq.symm⟩
   rw[this];constructor
   ·rintro⟨h1,h2,h3⟩;exact⟨h2,h1,h3⟩
   ·rintro⟨h2,h1,h3⟩;exact⟨h1,h2,h3⟩
theorem HZ:∀{l:List Ch} {t:List Pt},t.length=l.length→(∀x∈(kY l).zip (pR t),zJ x.1 x.2=true)=((l.zip t).all λx=>Z3 x.1.parts x.2)
 | [],[],_=>by simp[kY,pR]
 |c::l,p::t,h=>by
  have ih:=HZ (l:=l) (t:=t) xd;rw[s3,uh,zl,←ih];rw[xB,show kY (c::l)=c.parts.a::c.parts.b::c.parts.c::kY l from C];simp only[s3,zm,forall_eq_or_imp,Z3,Pt.l,List.zip_nil_left,uh,List.all_nil,Bool.and_true,zl,and_assoc]
theorem ZM{y:aS}{t:List Pt}:t∈SI y ↔ eM y t=true:=by
 unfold SI eM;rw[n5,zl,LE];constructor
 ·rintro⟨s,hs,rfl⟩;obtain⟨h1,h2⟩:=F0.1 hs;rw[rZ]at h1;obtain⟨g1,g2⟩:=RJ _ _ h1;refine⟨g2,?_⟩;rw[←HZ g2,g1];exact λx hx=>(h2 x hx).1
 ·rintro⟨h1,h2⟩;refine⟨pR t,F0.2 ⟨by rw[rZ,TM,h1],λx hx=>⟨?_,zy⟩⟩,aHX t⟩;rw[←HZ h1]at h2;exact h2 x hx
end Go.Fs.C7
namespace Go.Fs
open Go.Proofs Tryz
namespace L7
open C7
def MD(n:Nat)(M:List (zA 8×Int)):Prop:=∀p∈M,∃(m:Nat) (F:List Nat),p.1.l=(m:Int)::F.map (λx:Nat=>(x:Int))∧p.2=(EA F n m:Int)
theorem CQ:∀{F y_:List Nat},F.map (λx:Nat=>(x:Int))=y_.map (λx:Nat=>(x:Int))→F=y_
 | [],[],_=>rfl
 |x::F,y::y_,h=>by
  rw[yl,yl,vx]at h;rw[CQ h.2,show x=y by omega]
theorem aDT{n m:Nat}{a0 I a2 a3 a4 a5 O:Nat}{M:List (zA 8×Int)}{v:Int}{h:[(m:Int),a0,I,a2,a3,a4,a5,O].length=8}(hok:MD n M)(hm:(⟨[(m:Int),a0,I,a2,a3,a4,a5,O],h⟩,v)∈M):v=(EA [a0,I,a2,a3,a4,a5,O] n m:Int):=by
 obtain⟨m',F,h1,h2⟩:=hok _ hm;simp only[vx]at h1;obtain⟨h0,h1⟩:=h1;have:F=[a0,I,a2,a3,a4,a5,O]:=CQ (by rw[←h1];rfl)
 rw[this,show m'=m by omega]at h2;exact h2
theorem aDO{n m:Nat}{a0 I a2 a3 a4 a5 O:Nat}{M M':List (zA 8×Int)}{v:Int}{h:[(m:Int),a0,I,a2,a3,a4,a5,O].length=8}(hok:MD n M)(hm:∀p∈M',p∈M∨p=(⟨[(m:Int),a0,I,a2,a3,a4,a5,O],h⟩,v))(hv:v=(EA [a0,I,a2,a3,a4,a5,O] n m:Int)):MD n M':=λp hp=>by
 rcases hm p hp with h1|rfl
 ·exact hok p h1
 ·exact⟨m,[a0,I,a2,a3,a4,a5,O],C,hv⟩
theorem MD.nil{n:Nat}:MD n []:=λp hp=>by cases hp
theorem UJ{m n:Nat}(h:∀x,m.testBit x=true→x<n)(hn:n≤7):m<128:=by
 have:m<2^n:=by
  apply Nat.lt_pow_two_of_testBit;intro i hi;cases e:m.testBit i with
  |false=>rfl
  |true=>have:=h i e;omega
 have h2:2^n≤2^7:=wu Yd hn;omega
theorem JC{m n a:Nat}(h:∀x,m.testBit x=true→x<n):∀x,(nE m (2^a)).testBit x=true→x<n:=λx hx=>h x (by rw[IV]at hx;simp at hx;exact hx.1)
theorem X7{k:Nat}(h:k<7):2^k<128:=by
 have:2^k<2^7:=Nat.pow_lt_pow_right Yd h;omega
theorem Xcc{F:List Nat}(h:∀f∈F,f<128)(a:Nat):F.getD a 0<128:=by
 rw[wi];cases e:F[a]? with
 |none=>simp
 |some x=>exact h x (GE e)
theorem Qh(a0 I a2 a3 a4 a5 O:Nat){a:Nat}(h:a<7):([qI (a0:Int),qI (I:Int),qI (a2:Int),qI (a3:Int),qI (a4:Int),qI (a5:Int),qI (O:Int)]:List Γ)[a*1]?= some (qI (([a0,I,a2,a3,a4,a5,O].getD a 0:Nat):Int)):=by
 have e:a=0∨a=1∨a=2∨a=3∨a=4∨a=5∨a=6:=Yd
 rcases e with rfl|rfl|rfl|rfl|rfl|rfl|rfl<;>rfl
theorem dm(F:List Nat)(n:Nat):∀m,EA F n m≤m:=by
 intro m;induction m using Nat.strongRecOn with
 |_ m ih=>
  by_cases hm:m=0
  ·subst hm;rw[Xn];exact zk _
  ·have hlt:=DI (A6 hm).1;rcases Ub (F:=F) (rest:=nE m (2^low m)) (a:=low m) (nu:=EA F n) (List.range n) (EA F n (nE m (2^low m)))with h|⟨b,_,_,h⟩
   ·rw[RZ hm,h];have:=ih _ hlt;omega
   ·rw[RZ hm,h];have h2:=Sb (b:=b) hm;have:=ih _ h2;omega
def sx(F:List Nat)(n m k:Nat):Nat:=(List.range k).foldl (xA F (nE m (2^low m)) (low m) (EA F n)) (EA F n (nE m (2^low m)))
theorem Qv{F:List Nat}{n m:Nat}(h:m≠0):EA F n m=sx F n m n:=RZ h
theorem Ya0{F:List Nat}{n m k:Nat}(h:(nE m (2^low m)&&&F.getD (low m) 0).testBit k=true):sx F n m (k+1)=max (sx F n m k) (1+EA F n (nE (nE m (2^low m)) (2^k))):=by
 have e:sx F n m (k+1)=xA F (nE m (2^low m)) (low m) (EA F n) (sx F n m k) k:=by unfold sx;rw[yb,xk,yp,List.foldl_nil]
 rw[e];unfold xA;rw[zo h]
theorem Xba{F:List Nat}{n m k:Nat}(h:(nE m (2^low m)&&&F.getD (low m) 0).testBit k=false):sx F n m (k+1)=sx F n m k:=by
 have e:sx F n m (k+1)=xA F (nE m (2^low m)) (low m) (EA F n) (sx F n m k) k:=by unfold sx;rw[yb,xk,yp,List.foldl_nil]
 rw[e];unfold xA;rw[zv u_]
theorem PG{wb mb t cl:Nat}{cs:List Γ}{es:Array MapEntry}:∀p∈[(wb,Obj.cells cs.toArray t (0,0)),(mb,.map es cl)],dH p.2:=by
 intro p hp;simp only[zm,n4,yk]at hp;rcases hp with rfl|rfl
 ·rfl
 ·trivial
theorem Pr:KA prog 389 7:=⟨(prog.fieldsOf 389)[0]!,(prog.fieldsOf 389)[1]!,3,Yg,Yg,Yg,xh,xh,Yg,Yg,Yg,Yg,Yg,Yg,by rw[show((prog.fieldsOf 389)[1]!).type=325 by kernel_rfl];exact AV,by rw[show((prog.fieldsOf 389)[1]!).type=325 by kernel_rfl];exact H1,aI⟩
theorem Cl(wb mb:Nat)(cv qv:Γ)(fit:Int)(chs:List Ch)(a0 O a2 a3 a4 a5 R:Nat)(hK:chs.length≤7)(hF:∀f∈[a0,O,a2,a3,a4,a5,R],f<128):
  ∀(w_ m:Nat),m=w_→(∀x,m.testBit x=true→x<chs.length)→∀(es:Array MapEntry) (clock:Nat) (M:List (zA 8×Int)) (D:aC),Sl D I0 4 cv chs→Q2 ET es M→MD chs.length M→
  LX prog 253 [qP wb,.agg #[qI (m:Int),qI (a0:Int),qI (O:Int),qI (a2:Int),qI (a3:Int),qI (a4:Int),qI (a5:Int),qI (R:Int)]] D [(wb,qC [cv,qI fit,qv,.map (some mb)] 319),(mb,.map es clock)] (λ_ v ν'=>v=qI (EA [a0,O,a2,a3,a4,a5,R] chs.length m:Int)∧∃es' clock' M',ν'=[(wb,qC [cv,qI fit,qv,.map (some mb)] 319),(mb,.map es' clock')]∧Q2 ET es' M'∧MD chs.length M'):=by
 intro w_;induction w_ using Nat.strongRecOn with
 |_ w_ ih=>
 intro m hL hbits es clock M D hS hM hok;subst hL;have hl1:=hS.len;have hmb:=UJ hbits hK;refine jR 78 func253 C C C C λh0 hwl hwn=>aA<|Zac C λq1 E1 hE1 I=>Zf C<|bD<|Zj C BV C<|Zh 0 C aH C I C<|Zas C<|aE<|Zae C (λhc1=>?_) λhc1=>?_
 ·refine aA<|Wi ?_;exact Zak [] [] [_,_] [_] C ⟨C,zy⟩ C λD hD=>⟨by show Value.int _ _=_;rw[show m=0 by omega,Xn];rfl,es,clock,M,C,hM,hok⟩
 ·have Y:m≠0:=Yd
  have hlow:=A6 Y;have hlown:=hbits _ hlow.1;have V:low m<7:=Yd
  have hp2:=X7 V;have hlt:=DI hlow.1;have hrest:=H2 m (2^low m);refine aP<|Za6<|Za6<|bK [] 6 11 784<|Za C<|Zao C<|Zj C MY C<|Zq C Vx C zu C<|Zv C V_ C I Vy<|Jz (val:=ET (n:=8)) (a:=⟨[(m:Int),(a0:Int),(O:Int),(a2:Int),(a3:Int),(a4:Int),(a5:Int),(R:Int)],C⟩) C U317 Pr.key cN C C zi n4 hM C zy λnv ok hmem=>Za C<|Zar C ?_;refine Zar C<|Zf C<|Zf C<|aJ<|Za C<|aE<|Zai C (λhc2=>?_) λhc2=>?_
  ·subst hc2;refine aA<|Za C<|Wi ?_;exact Zak [] [] [_,_] [_] C ⟨C,zy⟩ C λD hD=>⟨by show Value.int _ _=_;rw[aDT hok (hmem C)],es,clock,M,C,hM,hok⟩
  ·refine aP<|aA<|Zj C BV C<|Zh 0 C aH C I C<|Zd C (λD1 hD1=>Jq m (low m) _ hlow.1 Yd hlow.2)<|Zf C<|bX<|bK [] 2 6 12<|Zj C BV C<|Zh 0 C aH C I C<|Za C<|IB C C C Yd C zy ?_;refine dq C C C Yd Yd C zy<|Zf C<|aJ<|Za C<|Za C<|Zj C BW C<|sL C (k:=1) (us:=[qI (a0:Int),qI (O:Int),qI (a2:Int),qI (a3:Int),qI (a4:Int),qI (a5:Int),qI (R:Int)]) AV H1 C I Yc C C n4 C zy<|lJ (cs:=[qI ((nE m (2^low m):Nat):Int),qI (a0:Int),qI (O:Int),qI (a2:Int),qI (a3:Int),qI (a4:Int),qI (a5:Int),qI (R:Int)]) C RF UK C Yg C zy<|gP (A:=[]) (ν:=[(_,_),(_,_)]) (B:=[]) C C C C (zq C) (PG (cs:=[_,_,_,_])) (λD5 hN=>ih _ hlt _ C (JC hbits) es clock M D5 (hS.up I0.up (hN _ Yf)) hM hok) C zy λv5 D6 _ hD6 hp5=>?_;obtain⟨rfl,hO,hP,M4,rfl,hR,hB⟩:=hp5;refine Zf C<|bD<|Za C<|Zao C<|Zj C W8 C<|Zj C iS C<|Zq C qG C zu C<|Zaj C U84 C hS C<|Za C<|aE<|Za4<|Zc (Nat×Array MapEntry×Nat×List (zA 8×Int)) (λg=>chs.length-g.1) (λg=>g.1≤chs.length∧Q2 ET g.2.1 g.2.2.2∧MD chs.length g.2.2.2) (λg=>[(45,qI (g.1:Int)),(9,qI (sx [a0,O,a2,a3,a4,a5,R] chs.length m g.1:Int))]) [(44,_),(8,_),(7,_),(4,_),(3,_),(0,_)] (λg=>[(wb,qC [cv,qI fit,qv,.map (some mb)] 319),(mb,.map g.2.1 g.2.2.1)]) (λg=>[D6,E1,D]) (0,hO,hP,M4) ⟨Yf,hR,hB⟩ ⟨Ya,Ya,zy⟩ zp ?_;rintro⟨k,hE,hH,M1⟩ ⟨h1,Z,U⟩;simp only at h1 Z U;refine aA<|Zal C<|bX<|Zae C (λhc3=>?_) (λhc3=>?_)
   ·have hk:k<chs.length:=Yd
    have hpk:=X7 (show k<7 by omega);have hrow:=Xcc hF (low m);have hdl:=H2 (nE m (2^low m)) (2^k);have hnl:=dm [a0,O,a2,a3,a4,a5,R] chs.length (nE (nE m (2^low m)) (2^k));have hand:=Nat.and_le_left (n:=nE m (2^low m)) (m:=[a0,O,a2,a3,a4,a5,R].getD (low m) 0);refine aP<|Za6<|Za4<|aA<|Za C<|Zf C<|aJ<|Za C<|Za C<|Zj C BW C<|fH C U325 aI C C Yd Yd C zy<|eE (o:=0+1) (k:=low m*1) C aH C I.tail Yf (Qh a0 O a2 a3 a4 a5 R V) n4 C zy ?_;refine Qj C C C Yd Yd C zy<|Za C<|yS C C C Yd C zy<|uR C C C (re _) Yd fj C zy<|Zas C<|aE<|Zae C (λhc4=>?_) λhc4=>?_
    ·have hbit:(nE m (2^low m)&&& [a0,O,a2,a3,a4,a5,R].getD (low m) 0).testBit k=true:=by rw[nO]at hc4;simpa using hc4
     refine fK I Yf λhI=>?_;have hI:q1∉[wb,mb]:=hI;refine fS [wb,mb] 6 [0,1,2,3,4,5,6,7,8,9,10,11,12] [false,true,true,true,true,true,true,true,true,true,true,false,false] [(false,0),(true,1),(true,2),(true,3),(true,4),(true,5),(true,6),(true,7),(true,8),(true,9),(true,10),(false,11),(false,12)] aV (λ_ _ _ h=>kQ (P:=prog) (fn:=f253) _ _ _ h) Yg C<|Za C<|Za C<|Za C<|Za C<|IB C C C Yd C zy<|dq C C C Yd Yl C zy<|Zj C BW C<|sL C (k:=1) (us:=[qI (a0:Int),qI (O:Int),qI (a2:Int),qI (a3:Int),qI (a4:Int),qI (a5:Int),qI (R:Int)]) AV H1 C I Yc C C Yo C zy<|lJ (cs:=[qI ((nE (nE m (2^low m)) (2^k):Nat):Int),qI (a0:Int),qI (O:Int),qI (a2:Int),qI (a3:Int),qI (a4:Int),qI (a5:Int),qI (R:Int)]) C RF UK C Yg C zy<|gP (A:=[]) (ν:=[(_,_),(_,_)]) (B:=[]) C C C C (zt λp hp=>n5.2 ⟨p,hp,C⟩) (PG (cs:=[_,_,_,_])) (λD7 hX=>ih _ (Sb Y) _ C (JC (JC hbits)) hE hH M1 D7 (hS.up I0.up (hX _ Yf)) Z U) C zy λv7 D8 _ hD8 hY=>?_;obtain⟨rfl,rA,rB,M5,rfl,hM5,hJ⟩:=hY;refine Zaf C<|mL C C C C zy<|uz ?_;exact aK 30 (k+1,rA,rB,M5) ⟨Yl,hM5,hJ⟩ Yl ⟨Ya,(by rw[Ya0 hbit];show some (Value.int _ _)=some (Value.int _ _);congr 2;simp only;omega),zy⟩ C C zp λD h=>⟨D,zb _ (h),Le.refl D⟩
    ·have hbit:(nE m (2^low m)&&& [a0,O,a2,a3,a4,a5,R].getD (low m) 0).testBit k=false:=by rw[nO]at hc4;simpa using hc4
     refine xi ?_;exact aK 17 (k+1,hE,hH,M1) ⟨Yl,Z,U⟩ Yl ⟨Ya,(by rw[Xba hbit];rfl),zy⟩ C C zp (aN)
   ·obtain rfl:k=chs.length:=Yd
    refine Za9<|Za5<|Za5<|Zba<|Za2<|Za6<|bK [] 3 7 48<|Za C<|Zao C<|Zj C MY C<|Zq C Vx C zu C<|Zv C V_ C I Vy ?_;refine Za C<|Hs (val:=ET (n:=8)) (A:=[(_,_)]) (B:=[]) (a:=⟨[(m:Int),(a0:Int),(O:Int),(a2:Int),(a3:Int),(a4:Int),(a5:Int),(R:Int)],C⟩) C U317 Pr.key C C C Z zy λes3 cl3 M3 hM3 hm3=>aJ<|Za C<|Wd ?_;exact Zak [] [] [_,_] [_] C ⟨C,zy⟩ C λD hD=>⟨by show Value.int _ _=_;rw[Qv Y],es3,cl3,M3,C,hM3,aDO U hm3 (by rw[Qv Y])⟩
structure YW(n:Nat)(s:Sc):Prop where
 len:s.fits.length=7
 row:∀f∈s.fits,f<128
 bits:∀x,s.broken.testBit x=true→x<n
 whole:s.whole≤7
def wM(n:Nat)(s:Sc):Nat:=s.whole+EA s.fits n s.broken
theorem Pj{α:Type}{l:List α}(h:l.length=7):∃a b c d e f g,l=[a,b,c,d,e,f,g]:=by
 match l,h with
 | [a,b,c,d,e,f,g],_=>exact⟨a,b,c,d,e,f,g,C⟩
theorem wI{y:aS}{t:List Pt}(hl:t.length=y.chairs.length)(I:t.length≤7):YW y.chairs.length (dQ y t):=by
 refine⟨by simp[dQ],λf hf=>?_,λx hx=>?_,?_⟩
 ·obtain⟨j,_,rfl⟩:=n5.1 hf;have h1:=AP (kH y t j) t.length;have h2:2^t.length≤2^7:=wu Yd I;omega
 ·simp only[dQ]at hx;rw[mP]at hx;simp at hx;omega
 ·have:whole t≤t.length:=xm _ _;simp only[dQ];omega
def pI(l:List (Nat×Nat)):List (Int×Int):=l.map λp=>((p.1:Int),(p.2:Int))
def vn(l:List (Int×Int)):List Γ:=l.flatMap λp=>[qI p.1,qI p.2]
theorem YR(l:List (Int×Int))(p:Int×Int):vn (l++[p])=vn l++[qI p.1,qI p.2]:=by simp[vn]
theorem K0(l:List (Int×Int)):(vn l).length=l.length*2:=by
 induction l with
 |nil=>rfl
 |cons c l ih=>unfold vn at ih ⊢;rw[xy,zf,ih];simp only[zh,wp];omega
theorem Yak{l:List (Int×Int)}{i:Nat}{c:Int×Int}(hi:l[i]?= some c):((vn l).drop (i*2)).take 2=[qI c.1,qI c.2]:=by
  induction l generalizing i with
  |nil=>simp at hi
  |cons d l ih=>
    unfold vn at ih ⊢
    rw[xy];cases i with
    | zero => obtain rfl : d = c := by simpa using hi
              rfl
    |succ i=>
      rw[rd,wl xw,ya];have:(i+1)*2- [Value.int .i64 d.1,Value.int .i64 d.2].length=i*2:=by simp;omega
      rw[this];exact ih wy
theorem _root_.Go.Fs.lB.prs{D:aC}{v:Γ}{n:Nat}{l:List (Int×Int)}(hF:lB D v n (vn l))(hn:l.length=n)(hb:n≤9223372036854775807):Sl D R2 2 v l:=
 hF.sl hn hb λ_i _t hi=>⟨_,C,C,Yak hi⟩
theorem A_(wb mb:Nat)(cv qv:Γ)(fit:Int)(chs:List Ch)(w b:Nat)(a0 O a2 a3 a4 a5 R:Nat)(U:chs.length≤7)(hF:∀f∈[a0,O,a2,a3,a4,a5,R],f<128)(hw:w≤7)(hbits:∀x,b.testBit x=true→x<chs.length)(es:Array MapEntry)(clock:Nat)(M:List (zA 8×Int))(D:aC)(hS:Sl D I0 4 cv chs)(hM:Q2 ET es M)(hok:MD chs.length M):
  LX prog 185 [qP wb,.agg #[qI (w:Int),qI ((b:Nat):Int),qI (a0:Int),qI (O:Int),qI (a2:Int),qI (a3:Int),qI (a4:Int),qI (a5:Int),qI (R:Int)]] D [(wb,qC [cv,qI fit,qv,.map (some mb)] 319),(mb,.map es clock)] (λ_ v ν'=>v=qI ((w+EA [a0,O,a2,a3,a4,a5,R] chs.length b:Nat):Int)∧∃es' clock' M',ν'=[(wb,qC [cv,qI fit,qv,.map (some mb)] 319),(mb,.map es' clock')]∧Q2 ET es' M'∧MD chs.length M'):=by
 have hbl:=UJ hbits U;have hnl:=dm [a0,O,a2,a3,a4,a5,R] chs.length b;refine jR 15 func185 C C C C λh0 hwl hwn=>aA<|Zac C λq1 E1 hI I=>Zf C<|bX<|fK I Yf λV=>?_;have V:q1∉[wb,mb]:=V;refine fS [wb,mb] 4 [0,1,2,3,4,5,6,7,8,9,10] [false,false,true,true,true,true,true,true,true,false,false] [(false,0),(false,1),(true,2),(true,3),(true,4),(true,5),(true,6),(true,7),(true,8),(false,9),(false,10)] aV (λ_ _ _ h=>kQ (P:=prog) (fn:=f185) _ _ _ h) Yg C<|Zj C V2 C<|eE C (k:=0) aH C I Yc C Yo C zy<|Za C<|Zj C CD C<|eE C (k:=1) aH C I Yc C Yo C zy<|Zj C W0 C<|sL C (k:=2) (us:=[qI (a0:Int),qI (O:Int),qI (a2:Int),qI (a3:Int),qI (a4:Int),qI (a5:Int),qI (R:Int)]) AV H1 C I Yc C C Yo C zy<|lJ (cs:=[qI ((b:Nat):Int),qI (a0:Int),qI (O:Int),qI (a2:Int),qI (a3:Int),qI (a4:Int),qI (a5:Int),qI (R:Int)]) C RF UK C Yg C zy<|gP (A:=[]) (ν:=[(_,_),(_,_)]) (B:=[]) C C C C (by first|exact Or.inl rfl|exact Or.inr λp hp=>n5.2 ⟨p,hp,C⟩) (PG (cs:=[_,_,_,_])) (λD5 Z=>Cl wb mb cv qv fit chs a0 O a2 a3 a4 a5 R U hF _ b C hbits es clock M D5 (hS.up I0.up (Z _ Yf)) hM hok) C zy λv5 D6 _ hJ hp5=>?_;obtain⟨rfl,hB,hE,M1,rfl,hH,Y⟩:=hp5;refine Zaf C<|Wd ?_;exact Zak [] [] [_,_] [_] C ⟨C,zy⟩ C λD hD=>⟨by show Value.int _ _=_;congr 1,hB,hE,M1,C,hH,Y⟩
theorem aDI(wb mb:Nat)(cv qv:Γ)(fit:Int)(chs:List Ch)(s:Sc)(I:chs.length≤7)(hs:YW chs.length s)(es:Array MapEntry)(clock:Nat)(M:List (zA 8×Int))(D:aC)(hS:Sl D I0 4 cv chs)(hM:Q2 ET es M)(hok:MD chs.length M):
  LX prog 185 [qP wb,aCG s] D [(wb,qC [cv,qI fit,qv,.map (some mb)] 319),(mb,.map es clock)] (λ_ v ν'=>v=qI (wM chs.length s:Int)∧∃es' clock' M',ν'=[(wb,qC [cv,qI fit,qv,.map (some mb)] 319),(mb,.map es' clock')]∧Q2 ET es' M'∧MD chs.length M'):=by
 obtain⟨w,b,F⟩:=s;obtain⟨a0,O,a2,a3,a4,a5,R,rfl⟩:=Pj hs.len;exact A_ wb mb cv qv fit chs w b a0 O a2 a3 a4 a5 R I hs.row hs.whole hs.bits es clock M D hS hM hok
end L7
end Go.Fs
