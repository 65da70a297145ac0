/- Of BookResumes. -/
import Derived.Test.YtdjdcpieiedfgaaGreatDoorZBookResumesAD
namespace Go.Fs
open Go.Proofs Tryz
namespace L3
open L1
open C3
section
variable{P:Program}{X:Cx}{Q:Exit→Act→Δ→Prop}{σ:bU}{μ:aD}{Ds:List aC}
theorem bBV{c:Code}{μ':aD}(n:Nat)(he:μ.drop n=μ')(h:WC P X Q c σ μ' Ds):WC P X Q c σ μ Ds:=fun a w hh=>by
 subst he;exact h a w (hh.dropBoxes n)
end
def rP(bh bs bl bo blo bY br n:Nat)(c:List Sc)(cl:List Int):aD:=[(bh,qC [.func (.func 302) #[] #[qP br,qP bs,qP bl,qP bY,qP bh]] 182),(bs,qC [qS bo (n+1) (n+1)] 349),(bl,qC [qS blo n n] 33),(bo,qC (gQ c) 242),(blo,qC (ints cl) 206)]
theorem W6{bh bs bl bo blo bY br n:Nat}{c:List Sc}{cl:List Int}:(bo,Obj.cells (gQ c).toArray 242 (0,0))∈rP bh bs bl bo blo bY br n c cl:=bNM _ Mm2
def aDA(n bo:Nat)(vs:List Γ):Prop:=∃blo,vs=[qS blo n n,qS bo (n+1) (n+1)]
def bDN{α:Type}(P:Program)(Dr:aC)(lo l:Nat)(J Jx:List α→wE)(xs:List α)(enc:Nat→List Γ→Prop)(cells:α→List Γ):Prop:=∀pre x β D w bo vs,(∃r,xs=pre++x::r)→N9 lo D w→J pre β D w→(∀b∈β,b<w.heap.size)→Le Dr D→enc bo vs→MP β D w bo (cells x)→
   jI P l vs w fun b D' w'=>N9 lo D' w'∧N6 β D w D' w'∧(if b then J (pre++[x]) β D' w' else Jx (pre++[x]) β D' w')
def T8(c:List Sc):Prop:=∀s∈c,(rH s).length=10
theorem T8.set{c:List Sc}{s:Sc}(h:T8 c)(hs:(rH s).length=10)(i:Nat):T8 (c.set i s):=fun u hu=>by
 rcases List.mem_or_eq_of_mem_set hu with hu|rfl
 ·exact h u hu
 ·exact hs
theorem aUH{c:List Sc}(h:T8 c):(gQ c).length=c.length*10:=by
 induction c with
 |nil=>rfl
 |cons u c ih=>
  have:=ih fun s hs=>h s (bMT _ hs)
  rw[show gQ (u::c)=ints (rH u)++gQ c from rfl,LE,aP,h u bMV,this,bMX];omega
theorem aWJ{c:List Sc}(h:T8 c){i:Nat}{s:Sc}(hs:(rH s).length=10)(hi:i<c.length):(gQ c).take (i*10)++ints (rH s)++(gQ c).drop (i*10+(ints (rH s)).length)=gQ (c.set i s):=by
 rw[aP,hs];induction c generalizing i with
 |nil=>simp at hi
 |cons u c ih=>
  have hu:(ints (rH u)).length=10:=by rw[aP,h u bMV]
  have e:gQ (u::c)=ints (rH u)++gQ c:=rfl;rw[e];cases i with
  |zero=>
   rw[List.set_cons_zero,show gQ (s::c)=ints (rH s)++gQ c from rfl,bRB,List.take_zero,bOA,bQB,bRA,bOL Yd,bOA,hu];simp
  |succ i=>
   rw[List.set_cons_succ,show gQ (u::c.set i s)=ints (rH u)++gQ (c.set i s)from rfl,←ih (fun t ht=>h t (bMT _ ht)) Yau];rw[List.take_append,bNV Yd,hu,bRA,bOL Yd,bOA,hu,show(i+1)*10-10=i*10 by omega,show(i+1)*10+10-10=i*10+10 by omega];simp
def aWQ:Sc:=⟨[0,0,0,0],[0,0,0,0],0,0⟩
theorem bAA(n:Nat):ints (List.replicate (n*10) 0)=gQ (List.replicate n aWQ):=by
 induction n with
 |zero=>rfl
 |succ n ih=>rw[List.replicate_succ,show gQ (aWQ::List.replicate n aWQ)=ints (rH aWQ)++gQ (List.replicate n aWQ)from rfl,←ih,show(n+1)*10=10+n*10 by omega,←List.replicate_append_replicate,eV];rfl
def wr(l:List Int)(k:Nat)(us:List Int):List Int:=l.take k++us++l.drop (k+us.length)
theorem bGI{l us:List Int}{k:Nat}(h:k+us.length≤l.length):(wr l k us).length=l.length:=by unfold wr;simp;omega
theorem bBK{l us:List Int}{k:Nat}:(ints l).take k++ints us++(ints l).drop (k+(ints us).length)=ints (wr l k us):=by
 unfold wr ints;simp
def kW(b:bH)(i:Nat)(s:Sc):List (List Sc):=(K5 b (b.lines.drop i) i s).map (·.2)
def aEH(b:bH)(i:Nat)(s:Sc)(z:eS)(pre:List Sc)(k:Nat):List (List Sc):=((cN b.chairs z).take k).flatMap fun r=>if lX s r=true then(kW b (i+1) (fK b s i r)).map (fun t=>(pre++[s])++t)else []
theorem bES{b:bH}{i:Nat}{s:Sc}(h:hZ b s i=false):kW b i s=[]:=by
 unfold kW;cases e:b.lines.drop i with
 |nil=>unfold K5;rw[bNA Xaj];rfl
 |cons l ls=>unfold K5;rw[bNA Xaj];rfl
theorem aVX{b:bH}{i:Nat}{s:Sc}(h:hZ b s i=true)(hi:b.lines.length≤i):kW b i s=[[s]]:=by
 unfold kW;rw[bOL hi];unfold K5;rw[bNK h];rfl
theorem aMY{b:bH}{i:Nat}{s:Sc}{z:eS}{pre:List Sc}(h:hZ b s i=true)(hd:b.lines.drop i=z::b.lines.drop (i+1)):(kW b i s).map (fun t=>pre++t)=aEH b i s z pre (cN b.chairs z).length:=by
 unfold kW aEH;rw[hd,bNR];unfold K5;rw[bNK h,List.map_flatMap,List.map_flatMap];congr 1;funext r;by_cases hc:lX s r=true
 ·rw[bNK hc,bNK hc,bRM,bRM];unfold kW;rw[bRM];congr 1;funext x;simp
 ·rw[bNA hc,bNA hc];rfl
theorem aVL{b:bH}{i:Nat}{s:Sc}{z:eS}{pre:List Sc}:aEH b i s z pre 0=[]:=rfl
theorem bHK{b:bH}{i:Nat}{s:Sc}{z x:eS}{pre:List Sc}{k:Nat}(hx:(cN b.chairs z)[k]?= some x)(h:lX s x=false):aEH b i s z pre (k+1)=aEH b i s z pre k:=by
 unfold aEH;rw[bMZ,hx,bNU,bOC,bPM,bNA Xaj,bNN]
theorem aEM{b:bH}{i:Nat}{s:Sc}{z x:eS}{pre:List Sc}{k:Nat}(hx:(cN b.chairs z)[k]?= some x)(h:lX s x=true):aEH b i s z pre (k+1)=aEH b i s z pre k++(kW b (i+1) (fK b s i x)).map (fun t=>(pre++[s])++t):=by
 unfold aEH;rw[bMZ,hx,bNU,bOC,bPM,bNK h]
theorem aWP{b:bH}{i:Nat}{s:Sc}{z:eS}{pre:List Sc}{k:Nat}:∃r,aEH b i s z pre (cN b.chairs z).length=aEH b i s z pre k++r:=by
 unfold aEH;rw[bNR]
 conv=>enter [1,r,1];rw[←bPJ k (cN b.chairs z),bOC]
 exact⟨_,rfl⟩
theorem KE{c pre:List Sc}{i:Nat}{s s':Sc}(h:c.take (i+1+1)=(pre++[s])++[s'])(hl:pre.length=i):c.take (i+1)=pre++[s]:=by
 have:=bNB (List.take (i+1)) h;rw[List.take_take,bQI (Nat.le_succ _)]at this;rw[this,bOK Yaq,bNV Yaq]
theorem aIT{c pre:List Sc}{i:Nat}{s':Sc}(hi:i<c.length)(h:c.take i=pre):(c.set i s').take (i+1)=pre++[s']:=by
 rw[bMZ,List.getElem?_set_self hi,bNU,List.take_set_of_le (bNJ _),h]
theorem aRJ{c pre:List Sc}{i:Nat}{s:Sc}(h:c.take (i+1)=pre++[s])(hl:pre.length=i):c[i]?= some s:=by
 have:(c.take (i+1))[i]?= (pre++[s])[i]? :=by rw[h]
 rw[bPX (Nat.lt_succ_self i),bPY Yd]at this;rw[this];simp[hl]
theorem ap8{bh bs bl bo blo bY br n q1 I:Nat}{c:List Sc}{cl:List Int}{O R:Obj}(hap:br∉aD.ks ((I,R)::(q1,O)::rP bh bs bl bo blo bY br n c cl))(hnd:(((I,R)::(q1,O)::rP bh bs bl bo blo bY br n c cl).map fun p=>p.1).Nodup):I∉[br,bs,bo,q1]:=by
 intro h;simp only[LT,n4,bOZ]at h;rcases h with rfl|rfl|rfl|rfl
 ·exact hap (by simp[aD.ks])
 ·simp[rP]at hnd
 ·simp[rP]at hnd
 ·simp at hnd
theorem bLN{bh bs bl bo blo bY br n q1 I:Nat}{c:List Sc}{cl:List Int}{O R:Obj}(hnd:(((I,R)::(q1,O)::rP bh bs bl bo blo bY br n c cl).map fun p=>p.1).Nodup):blo∉[bl,bs,q1,I]∧bo∉[bl,bs,q1,I]:=by
 constructor
 ·intro h;simp only[LT,n4,bOZ]at h;rcases h with rfl|rfl|rfl|rfl<;>simp[rP]at hnd
 ·intro h;simp only[LT,n4,bOZ]at h;rcases h with rfl|rfl|rfl|rfl<;>simp[rP]at hnd
def bKY(b:bH)(J Jx:List (List Sc)→wE)(bh bs bl bo blo bY br:Nat)(pre:List Sc)(s:Sc)(i:Nat)(done:List (List Sc))(v:Γ)(J':wE)(μ':aD):Prop:=
 ∃bb c' cl',v=.bool bb∧c'.length=b.lines.length+1∧T8 c'∧cl'.length=b.lines.length*3∧c'.take (i+1)=pre++[s]∧μ'=rP bh bs bl bo blo bY br b.lines.length c' cl'∧(if bb=true then J'=J (done++(kW b i s).map fun t=>pre++t)else ∃p,J'=Jx p)
set_option maxHeartbeats 1000000 in
theorem aYG{lo l:Nat}{b:bH}{bv:Γ}{xs:List (List Sc)}{Dr Dy:aC}{bh bs bl bo blo bY br:Nat}{lv cv:Γ}(hbo:aMP b)(hbv:bv=.agg #[qI b.chairs,qI b.coin,qI b.box,lv,cv])(hb0:iM Dr bv b)
  (hA:At Dr br 0 [qI b.chairs,qI b.coin,qI b.box,lv,cv]) (hB:At Dy bY 0 [.func (.yield l) #[] #[]]):
  ∀(j i:Nat) (pre:List Sc) (s:Sc) (c:List Sc) (cl:List Int) (done rest:List (List Sc)) (iv:Int) (Ds:List aC),Dr∈Ds→Dy∈Ds→iv=i→i+j=b.lines.length→pre.length=i→c.length=b.lines.length+1→T8 c→cl.length=b.lines.length*3→c.take (i+1)=pre++[s]→bLH b s i→
   xs=done++(kW b i s).map (fun t=>pre++t)++rest→∀(J Jx:List (List Sc)→wE),(∀pre,V6 lo (J pre))→(∀pre,V6 lo (Jx pre))→bDN prog Dr lo l J Jx xs (aDA b.lines.length) gQ→
   bJV prog 302 [qI iv,qP br,qP bs,qP bl,qP bY,qP bh] lo (J done) (rP bh bs bl bo blo bY br b.lines.length c cl) Ds (bKY b J Jx bh bs bl bo blo bY br pre s i done):=by
 subst hbv;intro j;induction j using Nat.strongRecOn with
 |_ j ih=>
 intro i pre s c cl done rest iv Ds hDr hDy hiv hij hl h9 h10 h11 hp hsb hxs J Jx hs hsx hY;replace ih:=fun j hj i pre s c cl done rest iv Ds h1 h2 h3 h4 h5 h6 h7 h8 h9 h10 h11=>ih j hj i pre s c cl done rest iv Ds h1 h2 h3 h4 h5 h6 h7 h8 h9 h10 h11 J Jx hs hsx hY
 subst hiv;obtain⟨lv',cv',he,hl',hc'⟩:=id hb0;obtain⟨rfl,rfl⟩:=OZ he;have hl8:=hbo.l8;have hch:=hbo.ch;have hco:=hbo.co;have hbx:=hbo.bx;have hmo:=hsb.mo;have hmi:=hsb.mi;have hs10:=P2 hsb.lc hsb.lt;refine W8 (μ:=rP bh bs bl bo blo bY br b.lines.length c cl) 68 func302 rfl rfl rfl rfl<|aA<|Zf rfl<|bO<|Za3<|bN [] 4 8 62<|Zv rfl gU rfl hA fI<|Zp rfl a7 rfl Mm1 rfl<|Za rfl<|eY rfl U349 dY rfl rfl Yd (by push_cast;omega) rfl bSM<|eN (n:=10) (us:=ints (rH s)) rfl kL dY rfl Mm3 (by rw[show 0+((i:Int)).toNat*10=i*10 by omega];exact X3 h10 (aRJ hp hl)) (by simp[hs10]) n4 rfl bSM<|Za rfl ?_;refine Zd rfl (fun D1 hD1=>HS _ b s i _ (hb0.up (hD1 _ Yax)) hsb.lc hsb.lt)<|Zat rfl<|aF<|Zaf rfl (fun hc1=>?_) fun hc1=>?_
 ·refine Wci ?_;exact lA (P:=prog) (fn:=f302) (N:=68) (vs:=[_]) rfl rfl ⟨rfl,bSM⟩ (fun D h=>⟨D,h,Le.refl D⟩) ⟨true,c,cl,rfl,h9,h10,h11,hp,rfl,by simp only[bPG];rw[bES Xaa];simp⟩
 ·have hcd:hZ b s i=true:=Xaa
  refine aQ<|bZ<|Za rfl<|Zp rfl iB rfl Mm2 rfl<|lL rfl U33 rfl rfl rfl bSM<|Zas rfl<|aF<|Zae rfl (fun hc2=>?_) fun hc2=>?_
  ·have hrun:=aVX hcd (show b.lines.length≤i by omega);have hleaf:pre++[s]=c:=by rw[←hp,bNV Yd]
   rw[hrun,bQP,hleaf,bND,bQJ]at hxs;refine aA<|Zh 0 rfl aXP rfl hB rfl<|Zp rfl iB rfl Mm2 rfl<|Zp rfl a7 rfl Mm1 rfl<|KK (l:=l) (J1:=J (done++[c])) (J0:=Jx (done++[c])) rfl rfl rfl rfl (hs _) (hsx _) (fun D w hd hJ hb hl=>hY done c _ D w bo _ ⟨rest,hxs⟩ hd hJ (fun b hbm=>Xdf) (hl _ hDr) ⟨blo,rfl⟩ ⟨bMR.2 ⟨_,W6,rfl⟩,(hb _ W6).2,_,_,(hb _ W6).1⟩) rfl bSM fun b1 J1 hJ1=>Wg ?_
   exact lA (P:=prog) (fn:=f302) (N:=68) (vs:=[_]) rfl rfl ⟨rfl,bSM⟩ (fun D h=>⟨D,h,Le.refl D⟩) ⟨b1,c,cl,rfl,h9,h10,h11,hp,rfl,by cases b1<;>simp only[hJ1,bPG,bOS,bPL];exact⟨_,rfl⟩;rw[hrun,bQP,hleaf]⟩
  ·have hil:i<b.lines.length:=Yd
   obtain⟨z,hz⟩:=cT b.lines i;have hdr:b.lines.drop i=z::b.lines.drop (i+1):=by rw[bOF hil];congr 1;exact bNS ((bMU hil).symm.trans hz)
   have hrun:=aMY (pre:=pre) hcd hdr;rw[hrun]at hxs;refine aQ<|Za3<|Za3<|iZ [] 1 [0,1,2,3,4,5,8,6,7] [false,true,true,true,true,true,true,true,true] [(false,0),(true,1),(true,2),(true,3),(true,4),(true,5),(true,8),(true,6),(true,7)] bB (fun _ _ _ h=>j3 (P:=prog) (fn:=f302) _ _ _ h) Yg rfl<|Zv rfl gU rfl hA fI<|Zj rfl dM rfl<|Zh 3 rfl iB rfl hA rfl<|Za rfl<|Zx rfl U33 cG rfl hl' rfl hz fun b1 o1 cs1 hr1 hcl1 hA1=>?_;obtain rfl:cs1=[qI _,qI _,qI _]:=hr1;refine Zv rfl nN rfl hA1 cG<|Za rfl<|Zy rfl (fun D2 hD2=>I8 _ b z _ (hb0.up (hD2 _ Yax)) Yd) fun v2 D2 hD2 hp2=>?_;have hr_:=hp2;have hrl:=hr_.len;refine eE rfl U33 rfl Ym rfl rfl bSM<|aF<|Za1<|Z1 (γ:=Nat×List Sc×List Int) (fun g=>(cN b.chairs z).length-g.1) (fun g=>g.1≤(cN b.chairs z).length∧g.2.1.length=b.lines.length+1∧T8 g.2.1∧g.2.2.length=b.lines.length*3∧g.2.1.take (i+1)=pre++[s]) (fun g=>J (done++aEH b i s z pre g.1)) (fun g=>[(36,qI (g.1:Int))]) [(35,_),(34,_),(7,_),(0,_),(1,_),(2,_),(3,_),(5,_)] (fun g=>rP bh bs bl bo blo bY br b.lines.length g.2.1 g.2.2) (fun g=>D2::Ds) (0,c,cl) ⟨Yf,h9,h10,h11,hp⟩ (by simp[aVL]) ⟨Ya,bSM⟩ cF Mm5 (aK) ?_;rintro⟨k,c1,cl1⟩ ⟨h12,h91,h92,h93,hp1⟩;simp only at h12 h91 h92 h93 hp1;refine aA<|Zan rfl<|bO<|Zae rfl (fun hc3=>?_) fun hc3=>?_
   ·simp only at hc3;obtain⟨x,hx⟩:=cT (cN b.chairs z) k;have hin:=((o8 (hbo.ln z (n5 hz))).1 (n5 hx)).1;have hn10:(rH (fK b s i x)).length=10:=XJ hsb.lc hsb.lt;have hif:(rH (if lX s x=true then fK b s i x else s)).length=10:=by split;exact hn10;exact hs10
    refine aQ<|Za3<|Za1<|aA<|Zx rfl U33 cG rfl hr_ rfl hx fun b2 o2 cs2 hr2 hcl2 hA2=>?_;obtain rfl:cs2=[qI _,qI _,qI _]:=hr2;refine Zv rfl nN rfl hA2 cG<|Zah rfl kO rfl fun q1=>Zab rfl cG ζ<|bO<|oS (cZ.mk [br,bs,bo,q1]) 5 [false,true,true,true,true,true,true,true,false,false,true,true,true,false] [.fork [0,1,2,3,4,5,6] 7 (.fin [8,9,10,11]) 11 (.fin [7,8,9,10]),.fin [12,13]] bB (fun _ _ _ h=>j3 (P:=prog) (fn:=f302) _ _ _ h) Yg ?_;apply HU (γ:=Nat) (fun _=>True) _ _ _ [.fork [0,1,2,3,4,5,6] 7 (.fin [8,9,10,11]) 11 (.fin [7,8,9,10])] [.fin [12,13]] rfl
    ·refine tI<|bQ [(false,0),(true,1),(true,2),(true,3),(true,4),(true,5),(true,6)] rfl<|cK rfl gU rfl hA (bMT _ hDr) fI (cZ.out Yf) rfl bSM<|bD rfl a7 rfl Mm2 rfl (cZ.out Yf) rfl bSM<|Za rfl<|eY rfl U349 dY rfl rfl Yd (by push_cast;omega) rfl bSM<|eN (n:=10) (us:=ints (rH s)) rfl kL dY rfl (bNM _ Mm3) (by rw[show 0+((i:Int)).toNat*10=i*10 by omega];exact X3 h92 (aRJ hp1 hl)) (by simp[hs10]) (cZ.out Yf) rfl bSM<|Za rfl<|bL (e:=206) (fz:=(0,0)) rfl nN rfl Mm0 cG (cZ.out Yf) rfl bSM<|Zao (dZ true true rfl rfl ?_ ?_)
     ·refine Zd rfl (fun D3 hD3=>DA _ b s i x _ (hb0.up (hD3 _ Yax)) hsb.lc hsb.lt Yba Yba Yd Yd Yd Yd)<|Zao<|aW [(false,8),(false,9),(true,10),(true,11)] rfl<|Za rfl<|Zap rfl<|Zap rfl<|Zah rfl wY rfl fun q2=>Zao ?_;exact fun a w hh=>⟨q2,bSM,hh⟩
     ·refine Zah rfl wY rfl fun q2=>Zao<|aW [(true,7),(false,8),(false,9),(true,10)] rfl<|Zd rfl (fun D3 hD3=>DA _ b s i x _ (hb0.up (hD3 _ Yax)) hsb.lc hsb.lt Yba Yba Yd Yd Yd Yd)<|Za rfl<|Zap rfl<|Zap rfl<|Zao ?_;exact fun a w hh=>⟨q2,bSM,hh.weak cF Mm5 aK⟩
    rintro q2 -;refine mS [(true,12),(false,13)] rfl<|kN hA Yax (fun hap=>bHG fun hnd=>mZ (off:=0) (us:=ints (rH (if lX s x=true then fK b s i x else s))) (ws:=ints (rH (if lX s x=true then fK b s i x else s))) rfl rfl rfl rfl (by rw[show(ints _).length=10 by simp[hif]];exact dY) ζ (by simp[hif]) (by simp[hif]) (dP _) (bNC (cZ.in_ (ap8 hap hnd))) bSM<|Zf rfl<|Zao<|oL<|Zaz<|bZ<|Za rfl<|Zat rfl<|aF ?_);refine Zaf rfl (fun hc4=>?_) fun hc4=>?_
    ·have hcan:lX s x=false:=Xah
     refine Za6<|Za2<|Za7<|Zaz<|aO<|Zad rfl<|Za rfl<|Zao ?_;exact sX 22 (k+1,c1,cl1) ⟨Yn,h91,h92,h93,hp1⟩ Yn (by rw[bHK hx hcan]) ⟨Ya,bSM⟩ rfl rfl (List.Sublist.cons _ (List.Sublist.cons _ Mm5)) (aK)
    ·have hcan:lX s x=true:=Xah
     rw[bNK hcan];obtain⟨rr,hr⟩:=aWP (b:=b) (i:=i) (s:=s) (z:=z) (pre:=pre) (k:=k+1);refine aQ<|Za3<|bN (cZ.mk [bl,bs,q1,q2]) 1 11 510<|bD rfl iB rfl (List.Mem.tail _ Mm3) rfl (cZ.out Yf) rfl bSM<|Za rfl<|bD rfl a7 rfl Mm3 rfl (cZ.out Yf) rfl bSM<|Za rfl<|Zad rfl<|bL (e:=206) (fz:=(0,0)) rfl nN rfl Mm1 cG (cZ.out Yf) rfl bSM<|bL (e:=242) (fz:=(0,0)) rfl kL rfl Mm0 (by rw[show(ints _).length=10 by simp[hn10]];exact dY) (cZ.out Yf) rfl bSM<|eY rfl U33 cG rfl rfl Yd Yd rfl bSM<|bHG fun hnd=>?_;refine mZ (off:=i*3) (us:=ints [x.kind,x.chair,x.token]) (ws:=ints (wr cl1 (i*3) [x.kind,x.chair,x.token])) rfl (xV Yd) rfl rfl cG (.tail (.tail (.tail (.tail (.tail (.tail .head)))))) Yaq bBK (dP _) (bNC (cZ.in_ (bLN hnd).1)) bSM<|eY rfl U349 dY rfl rfl Yd (by push_cast;omega) rfl bSM<|mZ (off:=(i+1)*10) (us:=ints (rH (fK b s i x))) (ws:=gQ (c1.set (i+1) (fK b s i x))) rfl (xV Yd) rfl rfl (by rw[show(ints _).length=10 by simp[hn10]];exact dY) (.tail (.tail (.tail (.tail (.tail .head))))) (by rw[aUH h92,aP,hn10];omega) (aWJ h92 hn10 Yd) (dP _) (bNC (cZ.in_ (bLN hnd).2)) bSM<|bO<|bBV (μ':=rP bh bs bl bo blo bY br b.lines.length (c1.set (i+1) (fK b s i x)) (wr cl1 (i*3) [x.kind,x.chair,x.token])) 2 rfl<|aO<|Zp rfl qY rfl Mm0 rfl<|Za rfl<|Zad rfl<|wZ rfl rfl rfl rfl (ih (j-1) Yd (i+1) (pre++[s]) (fK b s i x) (c1.set (i+1) (fK b s i x)) (wr cl1 (i*3) [x.kind,x.chair,x.token]) (done++aEH b i s z pre k) (rr++rest) (i+1:Int) _ (bMT _ hDr) (bMT _ hDy) Yd Yd Yaq (by simpa using h91) (h92.set hn10 _) (by rw[bGI Yaq];exact h93) (aIT Yd hp1) (aWD hbo hsb x i) (by rw[hxs,hr,aEM hx hcan];simp)) rfl bSM ?_
     rintro _ J2 _ ⟨b2,c2,cl2,rfl,h9',h10',h11',hp',rfl,hJ2⟩;refine Zat rfl<|aF<|Zaf rfl (fun hc5=>?_) fun hc5=>?_
     ·obtain rfl:b2=false:=by simpa using hc5
      refine aA<|Wi ?_;exact lA (P:=prog) (fn:=f302) (N:=68) (vs:=[_]) rfl rfl ⟨rfl,bSM⟩ (fun D h=>⟨D,bMT _ h,Le.refl D⟩) ⟨false,c2,cl2,rfl,h9',h10',h11',KE hp' hl,rfl,by simpa using hJ2⟩
     ·obtain rfl:b2=true:=by simpa using hc5
      refine Wbs ?_;exact sX 36 (k+1,c2,cl2) ⟨Yn,h9',h10',h11',KE hp' hl⟩ Yn (by simpa only[bPG,aEM hx hcan,bND]using hJ2) ⟨Ya,bSM⟩ rfl rfl Mm5 (aK)
   ·have hk:k=(cN b.chairs z).length:=by simp only at hc3;omega
    refine Wl ?_;exact lA (P:=prog) (fn:=f302) (N:=68) (vs:=[_]) rfl rfl ⟨rfl,bSM⟩ (fun D h=>⟨D,bMT _ h,Le.refl D⟩) ⟨true,c1,cl1,rfl,h91,h92,h93,hp1,rfl,by simp only[bPG];rw[hrun,hk]⟩
section
variable{X:Cx}{γb:Type}[Membership Nat γb]{bad:γb}{all:Array Oper}{K:Act→Δ→Prop}{Q:Exit→Act→Δ→Prop}{σ:bU}{μ:aD}{Ds:List aC}{os:List (Bool×Nat)}{fl:Bool}{ix d n:Nat}{x y:Operand}{v:Γ}{ty:Θ}{pos:String}{aft:Array Edge}{g:Option (Nat×Bool)}{k k':IntKind}
def aYJ(b:bH)(l q1 br:Nat)(g:Nat×Nat×Nat×Nat):bU:=[(3,.pointer (some ⟨g.1,0,none⟩)),(4,.pointer (some ⟨g.2.1,0,none⟩)),(14,.slice (some ⟨g.2.2.1,0,none⟩) (b.lines.length+1) (b.lines.length+1)),(2,qP q1),(1,qP br),(0,.func (.yield l) #[] #[])]
def XU(b:bH)(g:Nat×Nat×Nat×Nat):aD:=[(g.2.1,qC [qN] 349),(g.1,qC [.slice (some ⟨g.2.2.2,0,none⟩) b.lines.length b.lines.length] 33),(g.2.2.1,qC (gQ (List.replicate (b.lines.length+1) aWQ)) 242),(g.2.2.2,qC (ints (List.replicate (b.lines.length*3) 0)) 206)]
theorem eK{b:bH}{l q1 br:Nat}{σ':bU}{μ':aD}{a:Act}{w:Δ}(bl bs bo blo:Nat)(hh:Hl X σ' μ' Ds a w)(hs:EV σ' (aYJ b l q1 br (bl,bs,bo,blo)):=by exact cF)(hm:∀r∈XU b (bl,bs,bo,blo),r∈μ':=by simp[XU])(hn:(μ'.map (·.1)).Nodup→((XU b (bl,bs,bo,blo)).map (·.1)).Nodup:=by simp[XU]<;>omega):
  ∃g:Nat×Nat×Nat×Nat,True∧Hl X (aYJ b l q1 br g) (XU b g) Ds a w:=⟨(bl,bs,bo,blo),bSM,(hh.perm hm hn).weak hs Mm5 aK⟩
theorem tJ(h8:n≤8)(ho:all[ix]?= some ⟨some d,.makeSlice 33 x y,ty,pos,aft,none⟩)(hx:ev σ x=some (.int k (n:Int)))(hy:ev σ y=some (.int k' (n:Int)))
  (kk:∀b,WL prog X bad all K Q os ((d,qS b n n)::σ) ((b,qC (ints (List.replicate (n*3) 0)) 206)::μ) Ds) (hN:Nat.blt d X.N=true:=by exact rfl):WL prog X bad all K Q ((fl,ix)::os) σ μ Ds:=
 tO ho U33 cG kO rfl c8 hx hy Yd (X1 Yf rfl) hN bSM kk
theorem nQ(h8:n≤8)(ho:all[ix]?= some ⟨some d,.makeSlice 349 x y,ty,pos,aft,none⟩)(hx:ev σ x=some (.int k ((n:Int)+1)))(hy:ev σ y=some (.int k' ((n:Int)+1)))
  (kk:∀b,WL prog X bad all K Q os ((d,qS b (n+1) (n+1))::σ) ((b,qC (gQ (List.replicate (n+1) aWQ)) 242)::μ) Ds) (hN:Nat.blt d X.N=true:=by exact rfl):WL prog X bad all K Q ((fl,ix)::os) σ μ Ds:=
 tO (n:=n+1) ho U349 dY wY rfl bAK (hx.trans (bNB (fun z=>some (Value.int k z)) Yd)) (hy.trans (bNB (fun z=>some (Value.int k' z)) Yd)) Yd ((X1 Yf rfl).trans (bAA _)) hN bSM kk
theorem gH{D₁:aC}{br q:Nat}{c:Γ}{cs:List Γ}{μ':aD}(hA:At D₁ br 0 (c::cs))(ho:all[ix]?= some ⟨none,.store 33 x y,ty,pos,aft,none⟩)(hx:ev σ x=some (qP q))(hy:ev σ y=some v)(hv:v.cells=[v].toArray)(hm:bP μ q (qC [qN] 33) (qC [v] 33) μ')(hs:TS prog 33 1)(hc:cell1 v=true)
  (kk:WL prog X (cZ.mk [br]) all K Q os σ μ' Ds) (hD:D₁∈Ds:=by simp):WL prog X (cZ.mk [br]) all K Q ((fl,ix)::os) σ μ Ds:=
 kN hA hD fun hap=>mZ (off:=0) (us:=[v]) (vs:=[qN]) (ws:=[v]) ho hx hy hv hs hm Yf rfl (fun u hu=>by rw[bNL]at hu;rw[hu];exact hc) (bNC (cZ.in_ (by rw[bNL];rintro rfl;exact hap (bMR.2 ⟨_,hm.mem,rfl⟩)))) bSM kk
end
theorem s6{n:Nat}:T8 (List.replicate n aWQ):=fun s hs=>by rw[List.eq_of_mem_replicate hs];rfl
set_option maxHeartbeats 1000000 in
theorem W7{b:bH}{bv lv cv:Γ}{Dr:aC}{br:Nat}(hbo:aMP b)(hbv:bv=.agg #[qI b.chairs,qI b.coin,qI b.box,lv,cv])(hb0:iM Dr bv b)(hA:At Dr br 0 [qI b.chairs,qI b.coin,qI b.box,lv,cv]):
  KI prog 301 [qP br] Dr (kW b 0 (gW b)) (aDA b.lines.length) gQ:=by
 subst hbv;obtain⟨lv',cv',he,hl',hc'⟩:=id hb0;obtain⟨rfl,rfl⟩:=OZ he;have hl8:=hbo.l8;refine GH 22 func301 rfl rfl rfl rfl fun lo l J Jx hs hsx hY=>aA<|Zz rfl fun q1 E1 hE1 hB1=>bO<|oS (cZ.mk [br]) 4 [false,false,false,true,true,true,true,true,true,true,true,true,false] [.forkN [0,1,2,4,5,6,7] 3 [8,9,10] (EZ [(3,.forkN [] 8 [9,10] (EZ [(8,.fork [] 9 (.fin [10,11]) 10 (.fin [9,11])),(9,.fork [] 8 (.fin [10,11]) 10 (.fork [] 8 (.fin [11]) 11 (.fin [8]))),(10,.fork [] 8 (.fin [9,11]) 9 (.fork [] 8 (.fin [11]) 11 (.fin [8])))])),(8,.forkN [] 3 [9,10] (EZ [(3,.fork [] 9 (.fin [10,11]) 10 (.fin [9,11])),(9,.fork [] 3 (.fin [10,11]) 10 (.fin [3,11])),(10,.fork [] 3 (.fin [9,11]) 9 (.fin [3,11]))])),(9,.forkN [] 3 [8,10] (EZ [(3,.fork [] 8 (.fin [10,11]) 10 (.fork [] 8 (.fin [11]) 11 (.fin [8]))),(8,.fork [] 3 (.fin [10,11]) 10 (.fin [3,11])),(10,.fork [] 3 (.fork [] 8 (.fin [11]) 11 (.fin [8])) 8 (.fin [3,11]))])),(10,.forkN [] 3 [8,9] (EZ [(3,.fork [] 8 (.fin [9,11]) 9 (.fork [] 8 (.fin [11]) 11 (.fin [8]))),(8,.fork [] 3 (.fin [9,11]) 9 (.fin [3,11])),(9,.fork [] 3 (.fork [] 8 (.fin [11]) 11 (.fin [8])) 8 (.fin [3,11]))]))]),.fin [12]] bB (fun _ _ _ h=>j3 (P:=prog) (fn:=f301) _ _ _ h) Yg<|HU (γ:=Nat×Nat×Nat×Nat) (fun g=>True) (fun g=>aYJ b l q1 br g) (fun g=>XU b g) (fun g=>[E1,Dr]) [.forkN [0,1,2,4,5,6,7] 3 [8,9,10] (EZ [(3,.forkN [] 8 [9,10] (EZ [(8,.fork [] 9 (.fin [10,11]) 10 (.fin [9,11])),(9,.fork [] 8 (.fin [10,11]) 10 (.fork [] 8 (.fin [11]) 11 (.fin [8]))),(10,.fork [] 8 (.fin [9,11]) 9 (.fork [] 8 (.fin [11]) 11 (.fin [8])))])),(8,.forkN [] 3 [9,10] (EZ [(3,.fork [] 9 (.fin [10,11]) 10 (.fin [9,11])),(9,.fork [] 3 (.fin [10,11]) 10 (.fin [3,11])),(10,.fork [] 3 (.fin [9,11]) 9 (.fin [3,11]))])),(9,.forkN [] 3 [8,10] (EZ [(3,.fork [] 8 (.fin [10,11]) 10 (.fork [] 8 (.fin [11]) 11 (.fin [8]))),(8,.fork [] 3 (.fin [10,11]) 10 (.fin [3,11])),(10,.fork [] 3 (.fork [] 8 (.fin [11]) 11 (.fin [8])) 8 (.fin [3,11]))])),(10,.forkN [] 3 [8,9] (EZ [(3,.fork [] 8 (.fin [9,11]) 9 (.fork [] 8 (.fin [11]) 11 (.fin [8]))),(8,.fork [] 3 (.fin [9,11]) 9 (.fin [3,11])),(9,.fork [] 3 (.fork [] 8 (.fin [11]) 11 (.fin [8])) 8 (.fin [3,11]))]))])] [.fin [12]] rfl ?_ ?_
 ·refine tI<|sP [(false,0),(false,1),(false,2),(true,4),(true,5),(true,6),(true,7)] rfl<|Zj rfl dM rfl<|dU rfl (k:=3) iB rfl hA Yf rfl (cZ.out Yf) rfl bSM<|Zai rfl U33 rfl hl' rfl<|Zj rfl dM rfl<|dU rfl (k:=3) iB rfl hA Yf rfl (cZ.out Yf) rfl bSM<|Zai rfl U33 rfl hl' rfl<|Zad rfl ?_;refine Zao (gZ true rfl rfl ?_ (gZ true rfl rfl ?_ (gZ true rfl rfl ?_ (gZ true rfl rfl ?_ (J6)))))
  ·refine tJ hl8 rfl rfl rfl fun blo=>Zao<|sP [] rfl ?_;refine Zao (gZ true rfl rfl ?_ (gZ true rfl rfl ?_ (gZ true rfl rfl ?_ (J6))))
   ·refine nQ hl8 rfl rfl rfl (fun bo=>Zao<|bQ [] rfl<|Zao (dZ true true rfl rfl ?_ ?_))
    ·refine Zah rfl nT rfl fun q2=>Zao<|aW [(true,10),(true,11)] rfl<|Zah rfl kQ rfl fun q3=>Waj ?_;exact fun a w hh=>eK q2 q3 bo blo hh
    ·refine Zah rfl kQ rfl fun q2=>Zao<|aW [(true,9),(true,11)] rfl<|Zah rfl nT rfl fun q3=>Wap ?_;exact fun a w hh=>eK q3 q2 bo blo hh
   ·refine Zah rfl nT rfl (fun q2=>Zao<|bQ [] rfl<|Zao (dZ true true rfl rfl ?_ ?_))
    ·refine nQ hl8 rfl rfl rfl fun bo=>Zao<|aW [(true,10),(true,11)] rfl<|Zah rfl kQ rfl fun q3=>Wab ?_;exact fun a w hh=>eK q2 q3 bo blo hh
    ·refine Zah rfl kQ rfl (fun q3=>Zao<|bQ [] rfl<|Zao (dZ true true rfl rfl ?_ ?_))
     ·refine nQ hl8 rfl rfl rfl fun bo=>Zao<|aW [(true,11)] rfl<|Wab ?_;exact fun a w hh=>eK q2 q3 bo blo hh
     ·refine gH hA rfl rfl rfl rfl (.tail ζ) eR rfl<|Zao<|aW [(true,8)] rfl<|nQ hl8 rfl rfl rfl fun bo=>Zao ?_;exact fun a w hh=>eK q2 q3 bo blo hh
   ·refine Zah rfl kQ rfl (fun q2=>Zao<|bQ [] rfl<|Zao (dZ true true rfl rfl ?_ ?_))
    ·refine nQ hl8 rfl rfl rfl fun bo=>Zao<|aW [(true,9),(true,11)] rfl<|Zah rfl nT rfl fun q3=>Wap ?_;exact fun a w hh=>eK q3 q2 bo blo hh
    ·refine Zah rfl nT rfl (fun q3=>Zao<|bQ [] rfl<|Zao (dZ true true rfl rfl ?_ ?_))
     ·refine nQ hl8 rfl rfl rfl fun bo=>Zao<|aW [(true,11)] rfl<|Waj ?_;exact fun a w hh=>eK q3 q2 bo blo hh
     ·refine gH hA rfl rfl rfl rfl ζ eR rfl<|Zao<|aW [(true,8)] rfl<|nQ hl8 rfl rfl rfl fun bo=>Zao ?_;exact fun a w hh=>eK q3 q2 bo blo hh
  ·refine nQ hl8 rfl rfl rfl fun bo=>Zao<|sP [] rfl ?_;refine Zao (gZ true rfl rfl ?_ (gZ true rfl rfl ?_ (gZ true rfl rfl ?_ (J6))))
   ·refine tJ hl8 rfl rfl rfl (fun blo=>Zao<|bQ [] rfl<|Zao (dZ true true rfl rfl ?_ ?_))
    ·refine Zah rfl nT rfl fun q2=>Zao<|aW [(true,10),(true,11)] rfl<|Zah rfl kQ rfl fun q3=>Waj ?_;exact fun a w hh=>eK q2 q3 bo blo hh
    ·refine Zah rfl kQ rfl fun q2=>Zao<|aW [(true,9),(true,11)] rfl<|Zah rfl nT rfl fun q3=>Wap ?_;exact fun a w hh=>eK q3 q2 bo blo hh
   ·refine Zah rfl nT rfl (fun q2=>Zao<|bQ [] rfl<|Zao (dZ true true rfl rfl ?_ ?_))
    ·refine tJ hl8 rfl rfl rfl fun blo=>Zao<|aW [(true,10),(true,11)] rfl<|Zah rfl kQ rfl fun q3=>Wab ?_;exact fun a w hh=>eK q2 q3 bo blo hh
    ·refine Zah rfl kQ rfl fun q3=>Zao<|aW [(true,3),(true,11)] rfl<|tJ hl8 rfl rfl rfl fun blo=>Wab ?_;exact fun a w hh=>eK q2 q3 bo blo hh
   ·refine Zah rfl kQ rfl (fun q2=>Zao<|bQ [] rfl<|Zao (dZ true true rfl rfl ?_ ?_))
    ·refine tJ hl8 rfl rfl rfl fun blo=>Zao<|aW [(true,9),(true,11)] rfl<|Zah rfl nT rfl fun q3=>Wap ?_;exact fun a w hh=>eK q3 q2 bo blo hh
    ·refine Zah rfl nT rfl fun q3=>Zao<|aW [(true,3),(true,11)] rfl<|tJ hl8 rfl rfl rfl fun blo=>Waj ?_;exact fun a w hh=>eK q3 q2 bo blo hh
  ·refine Zah rfl nT rfl fun q2=>Zao<|sP [] rfl ?_;refine Zao (gZ true rfl rfl ?_ (gZ true rfl rfl ?_ (gZ true rfl rfl ?_ (J6))))
   ·refine tJ hl8 rfl rfl rfl (fun blo=>Zao<|bQ [] rfl<|Zao (dZ true true rfl rfl ?_ ?_))
    ·refine nQ hl8 rfl rfl rfl fun bo=>Zao<|aW [(true,10),(true,11)] rfl<|Zah rfl kQ rfl fun q3=>Wv ?_;exact fun a w hh=>eK q2 q3 bo blo hh
    ·refine Zah rfl kQ rfl (fun q3=>Zao<|bQ [] rfl<|Zao (dZ true true rfl rfl ?_ ?_))
     ·refine nQ hl8 rfl rfl rfl fun bo=>Zao<|aW [(true,11)] rfl<|Wv ?_;exact fun a w hh=>eK q2 q3 bo blo hh
     ·refine gH hA rfl rfl rfl rfl (.tail (.tail ζ)) eR rfl<|Zao<|aW [(true,8)] rfl<|nQ hl8 rfl rfl rfl fun bo=>Zao ?_;exact fun a w hh=>eK q2 q3 bo blo hh
   ·refine nQ hl8 rfl rfl rfl (fun bo=>Zao<|bQ [] rfl<|Zao (dZ true true rfl rfl ?_ ?_))
    ·refine tJ hl8 rfl rfl rfl fun blo=>Zao<|aW [(true,10),(true,11)] rfl<|Zah rfl kQ rfl fun q3=>Wv ?_;exact fun a w hh=>eK q2 q3 bo blo hh
    ·refine Zah rfl kQ rfl fun q3=>Zao<|aW [(true,3),(true,11)] rfl<|tJ hl8 rfl rfl rfl fun blo=>Wv ?_;exact fun a w hh=>eK q2 q3 bo blo hh
   ·refine Zah rfl kQ rfl (fun q3=>Zao<|bQ [] rfl<|Zao (dZ true true rfl rfl ?_ ?_))
    ·refine tJ hl8 rfl rfl rfl (fun blo=>Zao<|bQ [] rfl<|Zao (dZ true true rfl rfl ?_ ?_))
     ·refine nQ hl8 rfl rfl rfl fun bo=>Zao<|aW [(true,11)] rfl<|Wv ?_;exact fun a w hh=>eK q2 q3 bo blo hh
     ·refine gH hA rfl rfl rfl rfl (.tail (.tail ζ)) eR rfl<|Zao<|aW [(true,8)] rfl<|nQ hl8 rfl rfl rfl fun bo=>Zao ?_;exact fun a w hh=>eK q2 q3 bo blo hh
    ·refine nQ hl8 rfl rfl rfl fun bo=>Zao<|aW [(true,3),(true,11)] rfl<|tJ hl8 rfl rfl rfl fun blo=>Wv ?_;exact fun a w hh=>eK q2 q3 bo blo hh
  ·refine Zah rfl kQ rfl fun q2=>Zao<|sP [] rfl ?_;refine Zao (gZ true rfl rfl ?_ (gZ true rfl rfl ?_ (gZ true rfl rfl ?_ (J6))))
   ·refine tJ hl8 rfl rfl rfl (fun blo=>Zao<|bQ [] rfl<|Zao (dZ true true rfl rfl ?_ ?_))
    ·refine nQ hl8 rfl rfl rfl fun bo=>Zao<|aW [(true,9),(true,11)] rfl<|Zah rfl nT rfl fun q3=>Wap ?_;exact fun a w hh=>eK q3 q2 bo blo hh
    ·refine Zah rfl nT rfl (fun q3=>Zao<|bQ [] rfl<|Zao (dZ true true rfl rfl ?_ ?_))
     ·refine nQ hl8 rfl rfl rfl fun bo=>Zao<|aW [(true,11)] rfl<|Waj ?_;exact fun a w hh=>eK q3 q2 bo blo hh
     ·refine gH hA rfl rfl rfl rfl ζ eR rfl<|Zao<|aW [(true,8)] rfl<|nQ hl8 rfl rfl rfl fun bo=>Zao ?_;exact fun a w hh=>eK q3 q2 bo blo hh
   ·refine nQ hl8 rfl rfl rfl (fun bo=>Zao<|bQ [] rfl<|Zao (dZ true true rfl rfl ?_ ?_))
    ·refine tJ hl8 rfl rfl rfl fun blo=>Zao<|aW [(true,9),(true,11)] rfl<|Zah rfl nT rfl fun q3=>Wap ?_;exact fun a w hh=>eK q3 q2 bo blo hh
    ·refine Zah rfl nT rfl fun q3=>Zao<|aW [(true,3),(true,11)] rfl<|tJ hl8 rfl rfl rfl fun blo=>Waj ?_;exact fun a w hh=>eK q3 q2 bo blo hh
   ·refine Zah rfl nT rfl (fun q3=>Zao<|bQ [] rfl<|Zao (dZ true true rfl rfl ?_ ?_))
    ·refine tJ hl8 rfl rfl rfl (fun blo=>Zao<|bQ [] rfl<|Zao (dZ true true rfl rfl ?_ ?_))
     ·refine nQ hl8 rfl rfl rfl fun bo=>Zao<|aW [(true,11)] rfl<|Wab ?_;exact fun a w hh=>eK q3 q2 bo blo hh
     ·refine gH hA rfl rfl rfl rfl (.tail ζ) eR rfl<|Zao<|aW [(true,8)] rfl<|nQ hl8 rfl rfl rfl fun bo=>Zao ?_;exact fun a w hh=>eK q3 q2 bo blo hh
    ·refine nQ hl8 rfl rfl rfl fun bo=>Zao<|aW [(true,3),(true,11)] rfl<|tJ hl8 rfl rfl rfl fun blo=>Wab ?_;exact fun a w hh=>eK q3 q2 bo blo hh
 rintro⟨bl,bs,bo,blo⟩ -;dsimp only[aYJ,XU];refine mS [(false,12)] rfl<|Zr rfl bEA ζ rfl<|Zao<|oL<|Zaz<|aA<|Zah rfl CM rfl fun q4=>aJ<|Zay rfl<|Zr rfl CI ζ rfl<|bO<|bN [] 1 5 6 ?_;refine Zp rfl a7 rfl Mm1 rfl<|Zv rfl gU rfl hA fI<|Zd rfl (fun D1 hD1=>yF _ b _ (hb0.up (hD1 _ Yf)))<|eY rfl U349 dY rfl rfl Yd (by push_cast;omega) rfl bSM<|cR (off:=0*10) (us:=ints (rH (gW b))) (ws:=gQ ((List.replicate (b.lines.length+1) aWQ).set 0 (gW b))) rfl (xV Yd) rfl rfl dY (.tail (.tail (.tail ζ))) (by rw[aUH s6,aP,show(rH (gW b)).length=10 from rfl,List.length_replicate];omega) (aWJ s6 rfl Yf) (dP _) bSM<|aF<|aO<|Zp rfl qY rfl Mm0 rfl<|wZ rfl rfl rfl rfl (aYG (l:=l) hbo rfl hb0 hA hB1 b.lines.length 0 [] (gW b) ((List.replicate (b.lines.length+1) aWQ).set 0 (gW b)) (List.replicate (b.lines.length*3) 0) [] [] 0 _ Yf Yf rfl Yd rfl Yf (s6.set rfl _) Yf (by simp[List.replicate_succ]) (CS b) Yf J Jx hs hsx hY) rfl bSM ?_
 rintro _ J2 _ ⟨b2,c2,cl2,rfl,h9',h10',h11',hp',rfl,hJ2⟩;refine Zao ?_;exact lA (P:=prog) (fn:=f301) (N:=22) (vs:=[]) rfl rfl bSM (fun D h=>⟨D,Xav,Le.refl D⟩) Ybh
theorem ZH(bv:Γ)(b:bH)(D:aC)(hb:iM D bv b)(hbo:aMP b):
  Fn prog 200 #[bv] D (fun D' v=>∃br,v=.func (.func 301) #[] #[qP br]∧KI prog 301 [qP br] D' (kW b 0 (gW b)) (aDA b.lines.length) gQ):=by
 have I:=hb;obtain⟨lv,cv,rfl,hl,hc⟩:=hb;refine Zw 4 func200 rfl fun h0=>aA<|Zz rfl fun q1 E1 R O=>Wck ?_;exact aE rfl fun D hD=>⟨_,rfl,W7 hbo rfl (I.up (hD _ Yf)) (O.up (hD _ Yf))⟩
end L3
open Go.Proofs
namespace L3
open L1
open C3
theorem aFY(b:bH):∀(ls:List eS) (i:Nat) (s:Sc),s.ch.length=4→s.tk.length=4→∀x∈K5 b ls i s,x.2.length=ls.length+1∧∀u∈x.2,u.ch.length=4∧u.tk.length=4
  | [],i,s,h4,h5,x,hx=>by
    unfold K5 at hx;split at hx
    · obtain rfl:x=([],[s]):=by simpa using hx
      exact ⟨rfl, fun u hu => by obtain rfl : u = s := by simpa using hu
                                 exact⟨h4,h5⟩⟩
    · cases hx
  |l::ls,i,s,h4,h5,x,hx=>by
    unfold K5 at hx;split at hx
    · obtain⟨r,_,hr⟩:=bQT.1 hx;split at hr
      · obtain⟨y,hy,rfl⟩:=bMR.1 hr;obtain⟨g1,g2⟩:=aFY b ls (i+1) (fK b s i r) (by unfold fK;split<;>simp[h4]) (by unfold fK;split<;>simp[h5]) y hy
        refine⟨by simp[g1],fun u hu=>?_⟩;rcases LT.1 hu with rfl|hu
        · exact⟨h4,h5⟩
        · exact g2 u hu
      · cases hr
    · cases hx
theorem RK{b:bH}(hn:b.chairs≤4):∀(ls:List eS) (i:Nat) (s:Sc),(K5 b ls i s).length≤32^ls.length
 | [],i,s=>by unfold K5;split<;>simp
 |l::ls,i,s=>by
  unfold K5;split
  ·rw[List.length_flatMap];have h1:∀(rs:List eS),(rs.map fun r=>(if lX s r=true then(K5 b ls (i+1) (fK b s i r)).map fun x=>(r::x.1,s::x.2)else []).length).sum≤rs.length*32^ls.length:=by
    intro rs;induction rs with
    |nil=>simp
    |cons r rs ih=>
     rw[bNT,List.sum_cons,bMX,bPR,Nat.one_mul,Nat.add_comm];refine Nat.add_le_add ih ?_;split
     ·rw[bOB];exact RK hn ls _ _
     ·simp
   have h2:=h1 (cN b.chairs l);have h3:=aBQ (l:=l) hn;have h4:(cN b.chairs l).length*32^ls.length≤32*32^ls.length:=bQN _ h3;rw[bMX,Nat.pow_succ,Nat.mul_comm];omega
  ·simp
theorem aPN{b:bH}(hbo:aMP b):(kW b 0 (gW b)).length≤1099511627776:=by
 unfold kW;rw[bOB];have h1:=RK hbo.ch.2 (b.lines.drop 0) 0 (gW b);have h2:32^(b.lines.drop 0).length≤32^8:=bOW Yd (by rw[bQQ];exact hbo.l8)
 omega
theorem aLX{b:bH}(hbo:aMP b){x:List Sc}{pre r:List (List Sc)}(h:kW b 0 (gW b)=pre++x::r):x.length=b.lines.length+1∧(∀u∈x,u.ch.length=4∧u.tk.length=4)∧pre.length<1099511627776:=by
 have hm:x∈kW b 0 (gW b):=by rw[h];simp
 obtain⟨y,hy,rfl⟩:=bMR.1 hm;obtain⟨g1,g2⟩:=aFY b _ _ _ rfl rfl y hy;refine⟨by simpa using g1,g2,?_⟩;have:=aPN hbo;rw[h]at this;simp at this;omega
theorem bJL{x:List Sc}{k:Nat}{u:Sc}(h:x[k]?= some u):bHZ x k=u:=by unfold bHZ;rw[bOP,h];rfl
theorem bJO{D:aC}{bo n:Nat}{x:List Sc}(h:At D bo 0 (gQ x))(hx:x.length=n)(h4:∀u∈x,u.ch.length=4∧u.tk.length=4)(hn:n≤1000):Sl D WV 10 (qS bo n n) x:=by
 have I:T8 x:=fun u hu=>P2 (h4 u hu).1 (h4 u hu).2
 refine⟨_,n,by rw[hx],Yd,Yd,bNC ⟨bo,0,rfl,fun i u hi=>⟨_,rfl,by rw[aP,I u (n5 hi)],fun j v hj=>?_⟩⟩⟩;have:=X3 I hi;rw[←this,List.getElem?_take]at hj;split at hj
 ·rw[bPC]at hj;have:=h _ v hj;rw[show 0+i*10+j=0+(i*10+j) by omega];exact this
 ·cases hj


theorem ZM(s:Sc)(D:aC)(h4:s.ch.length=4)(h5:s.tk.length=4):Fn prog 119 #[XF s] D (fun _ v=>v=qI s.money):=by
 refine Zw 5 func119 rfl fun h0=>aA<|Zz rfl fun q1 E1 O I=>Zf rfl<|aJ<|Zj rfl pT rfl<|dU (v:=qI s.money) rfl (k:=8) aI rfl I Yc (cO (J7 h4 h5)) n4 rfl bSM<|We ?_;exact aE rfl fun D hD=>rfl
def UJ(F:Sc→Int)(b:bH)(k:Nat):Int×Int:=(C1.tG (((kW b 0 (gW b)).map fun x=>bHZ x k).map F),C1.rK (((kW b 0 (gW b)).map fun x=>bHZ x k).map F))
def BF(F:Sc→Int)(ss:List Sc)(g:(Int×Int)×Bool):Prop:=(g.2=true∧ss=[]∧g.1=(0,0))∨(g.2=false∧ss≠[]∧g.1=(C1.tG (ss.map F),C1.rK (ss.map F)))
theorem aHZ{l:List Int}{x:Int}(h:l≠[]):C1.tG (l++[x])=min (C1.tG l) x:=by
 cases l with
 |nil=>exact absurd rfl h
 |cons a l=>show(l++[x]).foldl min a=_;rw[bOR];rfl
theorem aMK{l:List Int}{x:Int}(h:l≠[]):C1.rK (l++[x])=max (C1.rK l) x:=by
 cases l with
 |nil=>exact absurd rfl h
 |cons a l=>show(l++[x]).foldl max a=_;rw[bOR];rfl
theorem BF.add{F:Sc→Int}{ss:List Sc}{r r':Int×Int}{fb:Bool}{s u:Sc}(h:BF F ss (r,fb))(e:s=u)(hc:(fb=true∧r'=(F u,F u))∨(fb=false∧r'=r)):BF F (ss++[s]) ((min r'.1 (F u),max r'.2 (F u)),false):=by
 subst e;refine bNC ⟨rfl,Yf,?_⟩;rcases hc with⟨h1,rfl⟩|⟨h1,rfl⟩
 ·rcases h with⟨_,rfl,_⟩|⟨h2,_⟩
  ·simp[C1.tG,C1.rK]
  ·simp only at h2;rw[h1]at h2;cases h2
 ·rcases h with⟨h2,_⟩|⟨_,h3,h4⟩
  ·simp only at h2;rw[h1]at h2;cases h2
  ·simp only at h4;subst h4;have hne:ss.map F≠[]:=by simpa using h3
   rw[bNG,bQP,aHZ hne,aMK hne]
theorem BF.all{F:Sc→Int}{b:bH}{k:Nat}{r:Int×Int}{fb:Bool}(h:BF F ((kW b 0 (gW b)).map fun x=>bHZ x k) (r,fb)):mH r=mH (UJ F b k):=by
 unfold UJ;rcases h with⟨_,h1,h2⟩|⟨_,_,h2⟩
 ·rw[h1];simp only at h2;rw[h2];rfl
 ·simp only at h2;rw[h2]
theorem JP{b:bH}{fine:Bool}(h:N1 b fine=0):aZ b=0∧fine=true:=by
 unfold N1 at h;split at h
 ·rename_i hf;exact absurd h hf
 ·rename_i hf;split at h
  ·omega
  ·rename_i h2;exact⟨by simpa using hf,Xai⟩
theorem aDK(F:Sc→Int)(bv:Γ)(b:bH)(k:Nat)(fo:FuncId)(D:aC)(hb:iM D bv b)(hbo:aMP b)(hk:k≤b.lines.length)
  (hq:∀s D,s.ch.length=4→s.tk.length=4→Fn prog fo #[XF s] D fun _ v=>v=qI (F s)):
  Fn prog 118 #[bv,qI (k:Int),.func (.func fo) #[] #[]] D (fun _ v=>v=mH (UJ F b k)):=by
 have Y:=hb;obtain⟨lv,cv,rfl,hl,hc⟩:=hb;have hch:=hbo.ch;have hN:=hbo.l8;refine NE 29 func118 rfl rfl rfl rfl fun h0=>aA<|Zz rfl fun q1 E1 hO Z=>Zz rfl fun q2 E2 hP hB=>Zz rfl fun q3 E3 hR hE=>Zah rfl pC rfl fun q4=>aJ<|Zah rfl pV rfl fun q5=>Zr rfl mG ζ rfl<|bC<|Zv rfl gU rfl Z fI<|Zy rfl (fun D1 I=>ZH _ b _ (Y.up (I _ Yf)) hbo) fun v1 D1 I hF=>?_;refine aF<|Za1 ?_;obtain⟨br,rfl,hit⟩:=hF;refine Y2 (γ:=(Int×Int)×Bool) (xs:=kW b 0 (gW b)) (enc:=aDA b.lines.length) (cells:=gQ) (Dr:=D1) (fun pre g=>BF F (pre.map fun x=>bHZ x k) g) (fun _ _ _=>False) (fun g=>[(q5,qC [.bool g.2] 4),(q4,qC [qI g.1.1,qI g.1.2] 72)]) ((0,0),true) rfl rfl (fun _ k hk=>by cases hk) rfl hit Yf (fun _ vs h=>by obtain⟨_,rfl⟩:=h;rfl) rfl (bNI ⟨rfl,rfl,rfl⟩) rfl ?_ ?_ fun _ _ _ _ h=>h.elim
 ·rintro pre x ⟨r,fb⟩ ⟨us,hx⟩ hV l bd bo vs rec hh D7 hS ⟨blo,rfl⟩ hbo_ hst hpend;obtain⟨hxl,O,hpl⟩:=aLX hbo hx;have hsl:=bJO hbo_ hxl O Yd;obtain⟨u,hu⟩:=cT x k;have hau:bHZ x k=u:=bJL hu;obtain⟨R,U⟩:=O u (n5 hu);have V:=P2 R U;refine aO<|Zf rfl<|Zao ?_;refine fun a w hhh=>zQ (A:=[(_,_),(_,_)]) (B:=[(bd,.deferred (some []))]) (r:=rec) (l:=l) Ybb hst ?_ a w hhh
  simp only[bPF,bOA];refine Za1<|Za3<|sF [] 3 7 30 (fun _ _ _ h=>h)<|Zh 0 rfl aXU rfl hE rfl<|Za rfl<|Zh 0 rfl aI rfl hB rfl<|Zx rfl U349 dY rfl hsl rfl hu fun b1 o1 hH hI hK hJ=>?_;obtain rfl:hH=ints (rH _):=hI;refine cK rfl kL rfl hJ Yl (by rw[show(ints _).length=10 by simp[V]];exact dY) n4 rfl bSM<|Zd rfl (fun D2 hX=>hq u _ R U)<|Zf rfl<|bC<|Zp rfl FM rfl Mm0 rfl<|aF<|Zaf rfl (fun hc1=>?_) fun hc1=>?_
  ·refine aO<|Za rfl<|Za rfl<|Zu [qI (F u),qI (F u)] rfl AK pC rfl<|Zab rfl eQ (.tail ζ)<|Zr rfl mG ζ rfl<|aF<|aO<|Zag rfl pH rfl Mm1 eQ<|Za rfl<|Zd rfl (fun D3 hY=>LL (_,_) _ _)<|Zab rfl eQ (.tail ζ) ?_;refine Zao<|Za4 ?_;exact fun a w hh=>iX (A:=[(_,_),(_,_)]) (B:=[(bd,.deferred (some []))]) ((min (F u,F u).1 (F u),max (F u,F u).2 (F u)),false) (by simpa using hV.add hau (bNI ⟨hc1,rfl⟩)) rfl rfl a w hh
  ·obtain rfl:fb=false:=hc1;refine aQ<|aO<|Zag rfl pH rfl Mm1 eQ<|Za rfl<|Zd rfl (fun D4 rA=>LL (_,_) _ _)<|Zab rfl eQ (.tail ζ)<|Zao<|Za4 ?_;exact fun a w hh=>iX (A:=[(_,_),(_,_)]) (B:=[(bd,.deferred (some []))]) ((min r.1 (F u),max r.2 (F u)),false) (by simpa using hV.add hau (bNC ⟨rfl,rfl⟩)) rfl rfl a w hh
 ·rintro⟨r,fb⟩ bd hV;refine Za4<|Zaz<|aA<|Zag rfl pH rfl Mm1 eQ<|Zab rfl eQ (.tail ζ)<|aG ?_;exact zV (vs:=[_]) (A:=[(_,_),(_,_)]) rfl rfl rfl ⟨⟨_,_,_,rfl,Mm1,bNC ⟨pH,eQ,rfl⟩⟩,bSM⟩ fun D hD=>hV.all
theorem ZG(s:Sc)(D:aC)(h4:s.ch.length=4)(h5:s.tk.length=4):Fn prog 143 #[XF s] D (fun _ v=>v=qI s.mixed):=by
 refine Zw 5 func143 rfl fun h0=>aA<|Zz rfl fun q1 E1 O I=>Zf rfl<|aJ<|Zj rfl x7 rfl<|dU (v:=qI s.mixed) rfl (k:=9) aI rfl I Yc (cO (RX h4 h5)) n4 rfl bSM<|We ?_;exact aE rfl fun D hD=>rfl
theorem o6(bv:Γ)(b:bH)(k:Int)(D:aC)(hb:iM D bv b):Fn prog 49 #[bv,qI k] D (fun _ v=>v=.tuple #[mH (if N1 b (C1.hC k 0 (b.lines.length:Int))=0 then UJ (fun s=>s.money) b k.toNat else(0,0)),qI (N1 b (C1.hC k 0 (b.lines.length:Int)))]):=by
 have O:=hb;obtain⟨lv,cv,rfl,hl,hc⟩:=hb;have hll:=hl.len;refine Zw 21 func49 rfl fun h0=>aA<|Zz rfl fun q1 E1 Y I=>Zah rfl pC rfl fun q2=>Zf rfl<|bO<|Za3<|bN [] 4 8 62<|Zv rfl gU rfl I fI<|Za rfl<|Zj rfl dM rfl<|Zh 3 rfl iB rfl I rfl ?_;refine Zai rfl U33 rfl hl rfl<|Zd rfl (fun D1 Z=>lM _ _ _ _)<|Zd rfl (fun D2 R=>JF _ b (C1.hC k 0 (b.lines.length:Int)) _ (O.up (R _ Yf)))<|Zf rfl<|aJ<|Za rfl<|Zax rfl<|aF<|Zae rfl (fun hc1=>?_) fun hc1=>?_
 ·refine aA<|Zu [qI 0,qI 0] rfl AK pC rfl<|Za rfl<|Zab rfl eQ ζ<|Wg ?_;exact Zo [_,_] rfl ⟨⟨_,_,_,rfl,Mm0,Or.inr ⟨pH,Xbk,rfl⟩⟩,rfl,bSM⟩ fun D hD=>Xcs
 ·have he0:N1 b (C1.hC k 0 (b.lines.length:Int))=0:=Yd
  obtain⟨U,hfi⟩:=JP he0;have hbo:=bLD U;rw[C1.bS]at hfi;obtain⟨n,rfl⟩:∃n:Nat,k=(n:Int):=⟨k.toNat,Yd⟩
  refine aQ<|aA<|Zv rfl gU rfl I fI<|Za rfl<|Zd rfl (fun D3 V=>aDK (fun s=>s.money) _ b n 119 _ (O.up (V _ Yf)) hbo Yd fun s D h4 h5=>ZM s D h4 h5)<|Zab rfl eQ ζ<|We ?_;exact Zo [_,_] rfl ⟨⟨_,_,_,rfl,Mm0,Or.inr ⟨pH,Xbk,rfl⟩⟩,rfl,bSM⟩ fun D hD=>Xby
theorem aQC(bv:Γ)(b:bH)(D:aC)(hb:iM D bv b):Fn prog 70 #[bv] D (fun _ v=>v=.tuple #[mH (if N1 b (true)=0 then UJ (fun s=>s.mixed) b b.lines.length else(0,0)),qI (N1 b (true))]):=by
 have O:=hb;obtain⟨lv,cv,rfl,hl,hc⟩:=hb;have hll:=hl.len;refine Zw 16 func70 rfl fun h0=>aA<|Zz rfl fun q1 E1 Y I=>Zah rfl pC rfl fun Z=>Zf rfl<|bC<|Zv rfl gU rfl I fI<|Zd rfl (fun D1 R=>JF _ b (true) _ (O.up (R _ Yf)))<|Waz ?_;refine aF<|Zae rfl (fun hc1=>?_) fun hc1=>?_
 ·refine aA<|Zu [qI 0,qI 0] rfl AK pC rfl<|Za rfl<|Zab rfl eQ ζ<|Wg ?_;exact Zo [_,_] rfl ⟨⟨_,_,_,rfl,Mm0,Or.inr ⟨pH,Xbk,rfl⟩⟩,rfl,bSM⟩ fun D hD=>Xcs
 ·have he0:N1 b (true)=0:=Yd
  obtain⟨U,hfi⟩:=JP he0;have hbo:=bLD U;refine aQ<|aA<|Zv rfl gU rfl I fI<|Zj rfl dM rfl<|Zh 3 rfl iB rfl I rfl<|Zai rfl U33 rfl hl rfl<|Zd rfl (fun D2 V=>aDK (fun s=>s.mixed) _ b b.lines.length 143 _ (O.up (V _ Yf)) hbo Yd fun s D h4 h5=>ZG s D h4 h5)<|Zab rfl eQ ζ<|We ?_;exact Zo [_,_] rfl ⟨⟨_,_,_,rfl,Mm0,Or.inr ⟨pH,Xbk,rfl⟩⟩,rfl,bSM⟩ fun D hD=>Xby
end L3
namespace L7
open C7
def jC(bh bc bo bY br n:Nat)(c:List Int):aD:=[(bh,qC [.func (.func 245) #[] #[qP bc,qP bY,qP br,qP bh]] 182),(bc,qC [qS bo n n] 303),(bo,qC (ints c) 210)]
theorem wB{c pre:List Int}{i:Nat}{k:Int}(h:c.take (i+1)=pre++[k])(hl:pre.length=i):c.take i=pre:=by
 have:=bNB (List.take i) h;rw[List.take_take,bQI (Nat.le_succ i)]at this;rw[this,bOK Yd,bNV Yd]
def bIN(n bo:Nat):List Γ:=[qS bo n n]
def aRK(n bo:Nat)(vs:List Γ):Prop:=vs=bIN n bo
def aZK(P:Program)(Dr:aC)(lo l n:Nat)(J Jx:List (List Int)→wE)(xs:List (List Int)):Prop:=∀pre x β D w bo,(∃r,xs=pre++x::r)→N9 lo D w→J pre β D w→(∀b∈β,b<w.heap.size)→Le Dr D→MP β D w bo (ints x)→
    jI P l (bIN n bo) w fun b D' w'=>N9 lo D' w'∧N6 β D w D' w'∧(if b then J (pre++[x]) β D' w' else Jx (pre++[x]) β D' w')
def Y6(J Jx:List (List Int)→wE)(bh bc bo bY br n:Nat)(places:List Int)(pre:List Int)(i:Nat)(done:List (List Int))(v:Γ)(J':wE)(μ':aD):Prop:=
 ∃b c',v=.bool b∧c'.length=3*n∧c'.take i=pre∧μ'=jC bh bc bo bY br n c'∧(if b=true then J'=J (done++(C1.cB (places.drop i)).map fun t=>pre++t)else ∃p,J'=Jx p)
def aFS(p:Int)(ps pre:List Int)(k:Nat):List (List Int):=(List.range k).flatMap fun(m:Nat)=>if p=2∨p=(m:Int)then(C1.cB ps).map (fun t=>pre++(m:Int)::t)else []
theorem aTR{p:Int}{ps pre:List Int}:aFS p ps pre 0=[]:=rfl
theorem bIR{p:Int}{ps pre:List Int}{k:Nat}(h:¬(p=2∨p=(k:Int))):aFS p ps pre (k+1)=aFS p ps pre k:=by
 unfold aFS;rw[bOG,bOC,bPM,bNA h,bNN]
theorem aGH{p:Int}{ps pre:List Int}{k:Nat}(h:p=2∨p=(k:Int)):aFS p ps pre (k+1)=aFS p ps pre k++(C1.cB ps).map (fun t=>(pre++[(k:Int)])++t):=by
 unfold aFS;rw[bOG,bOC,bPM,bNK h];simp
theorem aBX{p:Int}{ps pre:List Int}:aFS p ps pre 2=(C1.cB (p::ps)).map (fun t=>pre++t):=by
 rw[show C1.cB (p::ps)=(if p=2∨p=0 then(C1.cB ps).map (0:: ·)else [])++(if p=2∨p=1 then(C1.cB ps).map (1:: ·)else [])from rfl];unfold aFS;rw[show List.range 2=[0,1]from rfl,bNW,bNW,List.flatMap_nil,bNN,bNG];congr 1
 ·by_cases h:p=2∨p=0
  ·rw[bNK h,bNK Yaw];simp
  ·rw[bNA h,bNA Yaw];rfl
 ·by_cases h:p=2∨p=1
  ·rw[bNK h,bNK Yaw];simp
  ·rw[bNA h,bNA Yaw];rfl
theorem aOJ{p:Int}{ps pre:List Int}{k:Nat}(hk:k<2):∃r,aFS p ps pre 2=aFS p ps pre (k+1)++r:=by
 have e:k=0∨k=1:=Yd
 rcases e with rfl|rfl
 ·refine⟨[1].flatMap fun(m:Nat)=>if p=2∨p=(m:Int)then(C1.cB ps).map (fun t=>pre++(m:Int)::t)else [],?_⟩;unfold aFS;rw[show List.range 2=[0]++[1]from rfl,bOC];rfl
 ·exact⟨[],Yf⟩
theorem aWE{c pre:List Int}{i:Nat}{k:Int}(hi:i<c.length)(h:c.take i=pre):(c.set i k).take (i+1)=pre++[k]:=by
 rw[bMZ,List.getElem?_set_self hi,bNU,List.take_set_of_le (bNJ _),h]
theorem aJK{l:List Ch}{i:Nat}{p:Int}(h:(kF l)[i]?= some p):∃x,l[i / 3]?= some x∧x.parts.l[i%3]?= some p:=by
 induction l generalizing i with
 |nil=>simp[kF]at h
 |cons c l ih=>
  rw[show kF (c::l)=c.parts.a::c.parts.b::c.parts.c::kF l from rfl]at h;match i with
  |0=>exact⟨c,rfl,by simpa [Pt.l]using h⟩
  |1=>exact⟨c,rfl,by simpa [Pt.l]using h⟩
  |2=>exact⟨c,rfl,by simpa [Pt.l]using h⟩
  |j+3=>
   obtain⟨x,h1,h2⟩:=ih (i:=j) Yaw;exact⟨x,by rw[show(j+3) / 3=j / 3+1 by omega];simpa using h1,by rw[show(j+3)%3=j%3 by omega];exact h2⟩
theorem W6{bh bc bo bY br n:Nat}{c:List Int}:(bo,Obj.cells (ints c).toArray 210 (0,0))∈jC bh bc bo bY br n c:=bNM _ Mm1
theorem bKS(i:Nat):0+((i:Int) / 3).toNat*3+((i:Int)%3).toNat*1=i:=Yd
theorem yU{lo l:Nat}{J Jx:List (List Int)→wE}{y:bA}{xs:List (List Int)}{Dr Dy:aC}{Ds:List aC}{bh bc bo bY br:Nat}{cv qv:Γ}(hK:y.chairs.length≤7)
  (hs:∀pre,V6 lo (J pre)) (hsx:∀pre,V6 lo (Jx pre)) (hY:aZK prog Dr lo l y.chairs.length J Jx xs) (hDr:Dr∈Ds) (hDy:Dy∈Ds) (hA:At Dr br 0 [cv,qI y.fit,qv]) (hc:Sl Dr A3 4 cv y.chairs) (hB:At Dy bY 0 [.func (.yield l) #[] #[]]):
  ∀(j i:Nat) (pre c:List Int) (done rest:List (List Int)) (iv:Int),iv=i→i+j=3*y.chairs.length→pre.length=i→c.length=3*y.chairs.length→c.take i=pre→
   xs=done++(C1.cB ((kF y.chairs).drop i)).map (fun t=>pre++t)++rest→
   bJV prog 245 [qI iv,qP bc,qP bY,qP br,qP bh] lo (J done) (jC bh bc bo bY br y.chairs.length c) Ds (Y6 J Jx bh bc bo bY br y.chairs.length (kF y.chairs) pre i done):=by
 intro j;induction j using Nat.strongRecOn with
 |_ j ih=>
 intro i pre c done rest iv hiv hij hl h9 hp hxs;subst hiv;have hmx:=hc.len;have hfl:=qH y.chairs;refine W8 (μ:=jC bh bc bo bY br y.chairs.length c) 52 func245 rfl rfl rfl rfl<|aA<|Zf rfl<|aJ<|Za rfl<|j4 rfl rfl rfl Yd Yd Ye rfl bSM<|Za rfl<|sQ rfl rfl rfl Yd Yd Ye rfl bSM<|Zf rfl<|Zf rfl<|bC<|Za rfl ?_;refine Zp rfl OX rfl Mm1 rfl<|lL rfl U303 rfl rfl rfl bSM<|Zas rfl<|aF<|Zae rfl (fun hc1=>?_) fun hc1=>?_
 ·have hin:i=3*y.chairs.length:=Yd
  subst hin;have hleaf:c=pre:=by rw[←hp,bNV Yd]
  rw[←hfl,bSK]at hxs;simp only[C1.cB,bNT,bRF,bNN]at hxs;rw[←hleaf,bND,bQJ]at hxs;refine aA<|Zh 0 rfl aZM rfl hB rfl<|Zp rfl OX rfl Mm1 rfl<|KK (l:=l) (J1:=J (done++[c])) (J0:=Jx (done++[c])) rfl rfl rfl rfl (hs _) (hsx _) (fun D w hd hJ hb hl=>hY done c _ D w bo ⟨rest,hxs⟩ hd hJ (fun b hbm=>Xdf) (hl _ hDr) ⟨bMR.2 ⟨_,W6,rfl⟩,(hb _ W6).2,_,_,(hb _ W6).1⟩) rfl bSM fun R J1 U=>Wg ?_
  exact lA (P:=prog) (fn:=f245) (N:=52) (vs:=[_]) rfl rfl ⟨rfl,bSM⟩ (fun D h=>⟨D,h,Le.refl D⟩) ⟨R,c,rfl,h9,hp,rfl,by cases R<;>simp only[U,bPG,bOS,bPL];exact⟨_,rfl⟩;rw[←hfl,bSK];simp[C1.cB,hleaf]⟩
 ·have hin:i<(kF y.chairs).length:=Yd
  obtain⟨p,hpi⟩:=cT (kF y.chairs) i;obtain⟨x,V,hm⟩:=aJK hpi;have hx:y.chairs[((i:Int) / 3).toNat]?= some x:=by rw[show((i:Int) / 3).toNat=i / 3 by omega];exact V
  have hd:(kF y.chairs).drop i=p::(kF y.chairs).drop (i+1):=by rw[bOF hin];congr 1;exact bNS ((bMU hin).symm.trans hpi)
  rw[hd,←aBX]at hxs;refine aQ<|bZ<|Za rfl<|aF<|Za1<|Z1 (γ:=Nat×List Int) (fun g=>2-g.1) (fun g=>g.1≤2∧g.2.length=3*y.chairs.length∧g.2.take i=pre) (fun g=>J (done++aFS p ((kF y.chairs).drop (i+1)) pre g.1)) (fun g=>[(22,qI (g.1:Int))]) [(8,_),(7,_),(6,_),(0,_),(1,_),(3,_),(4,_)] (fun g=>jC bh bc bo bY br y.chairs.length g.2) (fun g=>Ds) (0,c) ⟨Yf,h9,hp⟩ (by simp[aTR]) ⟨Ya,bSM⟩ cF Mm5 (aK) ?_;rintro⟨k,c1⟩ ⟨Y,I,O⟩;simp only at Y I O;refine aA<|Zan rfl<|bO<|Zae rfl (fun hc2=>?_) fun hc2=>?_
  ·refine aQ<|Za3<|Za1<|aA<|Za rfl<|Zf rfl<|aJ<|Zj rfl iF rfl<|Zh 0 rfl pL rfl hA rfl<|Za rfl<|Za rfl<|Zx rfl U37 mK rfl hc rfl hx fun R o1 Z hE hI hF=>?_;obtain rfl:Z=[qI _,qI _,qI _,qI _]:=hE;refine Zj rfl R1 rfl<|eT rfl U210 aH rfl rfl Yd Yd rfl bSM<|dU (o:=_+1) (k:=((i:Int)%3).toNat*1) rfl aI rfl hF.tail Yl (by rw[show((i:Int)%3).toNat=i%3 by omega];exact aNX hm) n4 rfl bSM<|Zf rfl<|aJ<|Za rfl<|Waw ?_
   refine' dL 4 (s:=35) (p:=39) rfl (fun hH=>?_) (fun hH=>?_) ?_;rotate_left
   ·refine Zb rfl<|Zb rfl<|Wbk ?_;exact aN 3
   ·refine Zg rfl<|Wbi ?_;exact aN 3
   refine aF<|Zaf rfl (fun hc3=>?_) fun hc3=>?_
   ·have hpk:p=2∨p=(k:Int):=Xac
    obtain⟨rr,hr⟩:=aOJ (p:=p) (ps:=(kF y.chairs).drop (i+1)) (pre:=pre) (k:=k) Yd;refine aA<|Zp rfl OX rfl Mm1 rfl<|Za rfl<|Za rfl<|Za rfl<|eY rfl U303 oO rfl rfl Yd Yd rfl bSM<|eT rfl U210 aH rfl rfl Yd Yd rfl bSM<|yG (k:=i) rfl aH (by show some (Value.pointer (some ⟨bo,0+((i:Int) / 3).toNat*3+((i:Int)%3).toNat*1,none⟩))=_;rw[bKS]) rfl (.tail (.tail ζ)) Yn bSM<|aJ<|Zp rfl qY rfl Mm0 rfl<|Za rfl<|Zad rfl ?_;refine wZ rfl rfl rfl rfl (ih (j-1) Yd (i+1) (pre++[(k:Int)]) (c1.set i k) (done++aFS p ((kF y.chairs).drop (i+1)) pre k) (rr++rest) (i+1:Int) Yd Yd Yaq (by simpa using I) (aWE Yd O) (by rw[hxs,hr,aGH hpk];simp)) rfl bSM ?_
    rintro _ J2 _ ⟨b2,c2,rfl,h9',hp',rfl,hJ2⟩;refine Zat rfl<|aF<|Zaf rfl (fun hc4=>?_) fun hc4=>?_
    ·obtain rfl:b2=false:=Xah
     refine aA<|Wi ?_;exact lA (P:=prog) (fn:=f245) (N:=52) (vs:=[_]) rfl rfl ⟨rfl,bSM⟩ (fun D h=>⟨D,h,Le.refl D⟩) ⟨false,c2,rfl,h9',wB hp' hl,rfl,by simpa using hJ2⟩
    ·obtain rfl:b2=true:=Xah
     refine Wbs ?_;exact sX 30 (k+1,c2) ⟨Yn,h9',wB hp' hl⟩ Yn (by simpa only[bPG,aGH hpk,bND]using hJ2) ⟨Ya,bSM⟩ rfl rfl Mm5 (aK)
   ·have hpk:¬(p=2∨p=(k:Int)):=Xac
    refine Wbs ?_;exact sX 19 (k+1,c1) ⟨Yn,I,O⟩ Yn (by rw[bIR hpk]) ⟨Ya,bSM⟩ rfl rfl Mm5 (aK)
  ·refine Wl ?_;exact lA (P:=prog) (fn:=f245) (N:=52) (vs:=[_]) rfl rfl ⟨rfl,bSM⟩ (fun D h=>⟨D,h,Le.refl D⟩) ⟨true,c1,rfl,I,O,rfl,by simp only[bPG];rw[hd,←aBX,show k=2 by omega]⟩
theorem W7(y:bA)(Dr:aC)(br:Nat)(cv qv:Γ)(I:y.chairs.length≤7)(hA:At Dr br 0 [cv,qI y.fit,qv])(hc:Sl Dr A3 4 cv y.chairs):
  KI prog 244 [qP br] Dr (C1.cB (kF y.chairs)) (aRK y.chairs.length) ints:=by
 refine GH 12 func244 rfl rfl rfl rfl fun lo l J Jx hs hsx hY=>aA<|Zz rfl fun q1 E1 R O=>aJ<|Zj rfl iF rfl<|Zh 0 rfl pL rfl hA rfl<|Zai rfl U37 rfl hc rfl<|tO rfl U303 oO m7 rfl bAO rfl rfl Yd (X1 Yf rfl) rfl bSM fun bo=>Zah rfl bDQ rfl fun V=>Zr rfl bDJ ζ rfl<|aJ<|Zah rfl CM rfl fun Y=>?_;refine aJ<|Zay rfl<|Zr rfl CI ζ rfl<|aF<|aO<|Zp rfl qY rfl Mm0 rfl<|wZ rfl rfl rfl rfl (yU (l:=l) I hs hsx (fun pre x β D w bo h1 h2 h3 h4 h5 U=>hY pre x β D w bo _ h1 h2 h3 h4 h5 rfl U) Yf Yf hA hc O (3*y.chairs.length) 0 [] (List.replicate (y.chairs.length*3) 0) [] [] 0 rfl Yd rfl Yaq rfl Yf) rfl bSM ?_;rintro _ Z _ ⟨b2,c2,rfl,h9',hp',rfl,hJ2⟩;refine Zao ?_;exact lA (P:=prog) (fn:=f244) (N:=12) (vs:=[]) rfl rfl bSM (fun D h=>⟨D,Xav,Le.refl D⟩) Ybh
theorem P3(yv:Γ)(y:bA)(D:aC)(hy:iY D yv y)(I:y.chairs.length≤7):
  Fn prog 173 #[yv] D (fun D' v=>∃br,v=.func (.func 244) #[] #[qP br]∧KI prog 244 [qP br] D' (C1.cB (kF y.chairs)) (aRK y.chairs.length) ints):=by
 obtain⟨cv,qv,rfl,hc,hq⟩:=hy;refine Zw 4 func173 rfl fun h0=>aA<|Zz rfl fun q1 E1 R O=>Wck ?_;exact aE rfl fun D hD=>⟨_,rfl,W7 y _ q1 cv qv I (O.up (hD _ Yf)) (hc.up A3.up (hD _ Yf))⟩
def X4(s:Sc):List Int:=(s.whole:Int)::(s.broken:Int)::s.fits.map fun n:Nat=>(n:Int)
theorem uG(s:Sc)(h:s.fits.length=7):(X4 s).length=9:=by simp[X4,h]
theorem aUW(s:Sc):XF s=.agg (ints (X4 s)).toArray:=by
 unfold XF CY X4 ints;rw[bNT,bNT,bRM];rfl
theorem aZY{s s':Sc}(h:X4 s=X4 s'):s=s':=by
 obtain⟨a,b,c⟩:=s;obtain⟨a',b',c'⟩:=s';simp only[X4,bPN]at h;obtain⟨h1,h2,h3⟩:=h;rw[s7 h3,show a=a' by omega,show b=b' by omega]
def Z9(acc:List (Sc×Nat)):List Int:=match acc.getLast? with
 |some p=>X4 p.1
 |none=>[]
def tK(y:bA)(out:List Int)(acc:List (Sc×Nat))(t:List Pt):List (Sc×Nat):=
 if(nY y.claims out (wM y.chairs.length (dF y t):Int)&&(decide ((acc.length:Int)=0)|| !(Z9 acc==X4 (dF y t))))=true then acc++[(dF y t,wM y.chairs.length (dF y t))]else acc
def jA(y:bA)(out:List Int)(pre:List (List Int)):List (Sc×Nat):=(pre.map Y0).foldl (tK y out) []
def dC(y:bA)(out:List Int):List (Sc×Nat):=(PN y).foldl (tK y out) []
theorem AL(y:bA)(out:List Int):jA y out (C1.cB (kF y.chairs))=dC y out:=rfl
theorem EN(y:bA)(out:List Int)(pre:List (List Int))(x:List Int):jA y out (pre++[x])=tK y out (jA y out pre) (Y0 x):=by
 unfold jA;rw[bNG,bOR];rfl
theorem aGM(y:bA)(out:List Int)(acc:List (Sc×Nat))(t:List Pt):(tK y out acc t).length≤acc.length+1:=by
 unfold tK;split
 ·simp
 ·omega
theorem JR(y:bA)(out:List Int)(pre:List (List Int)):(jA y out pre).length≤pre.length:=by
 have key:∀(l:List (List Pt)) (acc:List (Sc×Nat)),(l.foldl (tK y out) acc).length≤acc.length+l.length:=by
  intro l;induction l with
  |nil=>intro acc;simp
  |cons t l ih=>intro acc;rw[bNX];have:=ih (tK y out acc t);have:=aGM y out acc t;rw[bMX];omega
 have:=key (pre.map Y0) [];simpa [jA]using this
theorem DO(y:bA)(out:List Int)(pre:List (List Int)):∀p∈jA y out pre,p.1.fits.length=7:=by
 have key:∀(l:List (List Pt)) (acc:List (Sc×Nat)),(∀p∈acc,p.1.fits.length=7)→∀p∈l.foldl (tK y out) acc,p.1.fits.length=7:=by
  intro l;induction l with
  |nil=>intro acc h;exact h
  |cons t l ih=>
   intro acc h;rw[bNX];refine ih _ fun p hp=>?_
   unfold tK at hp;split at hp
   ·rcases bNH.1 hp with hp|hp
    ·exact h p hp
    ·simp only[bNL]at hp;subst hp;simp[dF]
   ·exact h p hp
 exact key _ [] Yf
def n6(l:List Sc):List Γ:=l.flatMap fun s=>ints (X4 s)
theorem TV{l:List Sc}(h:∀s∈l,s.fits.length=7):(n6 l).length=l.length*9:=by
 induction l with
 |nil=>rfl
 |cons c l ih=>
  have:=ih fun s hs=>h s (bMT _ hs)
  unfold n6 at this ⊢
  rw[bNW,LE,this,aP,uG c (h c bMV),bMX];omega
theorem FT{acc:List (Sc×Nat)}(h:∀p∈acc,p.1.fits.length=7):(n6 (acc.map fun p=>p.1)).length=acc.length*9:=by
 rw[TV fun s hs=>by obtain⟨p,hp,rfl⟩:=bMR.1 hs;exact h p hp,bOB]
theorem SN{l:List Sc}(h:∀s∈l,s.fits.length=7){i:Nat}{s:Sc}(hi:l[i]?= some s)(junk:List Γ):((n6 l++junk).drop (i*9)).take 9=ints (X4 s):=by
 induction l generalizing i with
 |nil=>simp at hi
 |cons d l ih=>
  have h9:(ints (X4 d)).length=9:=by rw[aP,uG d (h d bMV)]
  have hc:n6 (d::l)=ints (X4 d)++n6 l:=rfl;rw[hc,bND];cases i with
  |zero=>
   obtain rfl:d=s:=Yau
   rw[bRB,bQQ,bOK Yd,bNV Yd]
  |succ i=>
   rw[bRA,bOL Yd,bOA,show(i+1)*9-(ints (X4 d)).length=i*9 by omega];exact ih (fun s hs=>h s (bMT _ hs)) Yau
def WV:Rd Sc:=fun _ s cs=>cs=ints (X4 s)
theorem WV.up:WV.Up:=fun _ _ _ h=>h
theorem _root_.Go.Fs.kZ.scs{D:aC}{v:Γ}{n:Nat}{acc:List (Sc×Nat)}(hF:kZ D v n (n6 (acc.map fun p=>p.1)))(hn:(acc.map fun p=>p.1).length=n)(hb:n≤9223372036854775807)(h:∀p∈acc,p.1.fits.length=7:=by assumption):Sl D WV 9 v (acc.map fun p=>p.1):=by
 have h':∀s∈acc.map fun p=>p.1,s.fits.length=7:=fun s hs=>by obtain⟨p,hp,rfl⟩:=bMR.1 hs;exact h p hp
 exact hF.sl hn hb fun i s hi=>⟨_,rfl,by rw[aP,uG s (h' s (n5 hi))],by have:=SN h' hi [];rwa [bNN]at this⟩
theorem MG{acc:List (Sc×Nat)}(h:∀p∈acc,p.1.fits.length=7)(hne:acc≠[]):(Z9 acc).length=9:=by
 unfold Z9;rw[bQG hne];exact uG _ (h _ (List.getLast_mem hne))
theorem aQI{acc:List (Sc×Nat)}(h:∀p∈acc,p.1.fits.length=7)(hne:acc≠[])(junk:List Γ):((n6 (acc.map fun p=>p.1)++junk).drop (0+(((acc.length:Int)-1).toNat)*9)).take 9=ints (Z9 acc):=by
 have h':∀s∈acc.map fun p=>p.1,s.fits.length=7:=fun s hs=>by obtain⟨p,hp,rfl⟩:=bMR.1 hs;exact h p hp
 have hpos:=bQE.2 hne;unfold Z9;rw[bQG hne,bQB];refine SN h' ?_ junk;rw[bOD,show((acc.length:Int)-1).toNat=acc.length-1 by omega,←List.getLast?_eq_getElem?,bQG hne];rfl
theorem bGM{D:aC}{bo n:Nat}{x:List Int}(h:At D bo 0 (ints x))(hx:x.length=3*n)(hn:n≤7):Sl D RP 3 (qS bo n n) (Y0 x):=by
  obtain⟨h1,h2⟩:=QJ _ _ hx;have hle:n≤9223372036854775807∨True:=bNC trivial;have key:∀(l:List Pt) (i:Nat) (p:Pt),l[i]?= some p→((ints (C7.oE l)).drop (i*3)).take 3=[qI p.a,qI p.b,qI p.c]:=by
    intro l;induction l with
    |nil=>intro i p hi;simp at hi
    |cons d l ih=>
      intro i p hi;cases i with
      | zero => obtain rfl : d = p := by simpa using hi
                rfl
      |succ i=>
        rw[C7.vI,show(i+1)*3=i*3+3 by omega];exact ih i p Yau
  refine⟨_,n,by rw[h2],Yd,?_,bNC ⟨bo,0,rfl,fun i p hi=>⟨_,rfl,rfl,fun j v hj=>?_⟩⟩⟩
  · rw[h2];omega
  · have:=key _ _ _ hi;rw[h1]at this;rw[←this,List.getElem?_take]at hj;split at hj
    · rw[bPC]at hj;have:=h _ v hj;rw[show 0+i*3+j=0+(i*3+j) by omega];exact this
    · cases hj
def aYV(y:bA)(out:List Int)(pre:List (List Int))(g:Array MapEntry×Nat×List (xU 8×Int)×Γ×aD×Γ×aD):Prop:=
 H2 BZ g.1 g.2.2.1∧IM y.chairs.length g.2.2.1∧bI 307 9 g.2.2.2.1 (jA y out pre).length (n6 ((jA y out pre).map fun p=>p.1)) g.2.2.2.2.1∧bI 3 1 g.2.2.2.2.2.1 (jA y out pre).length (ints ((jA y out pre).map fun p=>(p.2:Int))) g.2.2.2.2.2.2
theorem PW{y:bA}{out:List Int}{pre:List (List Int)}{x:List Int}{es:Array MapEntry}{cl:Nat}{M:List (xU 8×Int)}{v u:Γ}{ν ω:aD}(hM:H2 BZ es M)(hok:IM y.chairs.length M)
  (hc:(nY y.claims out (wM y.chairs.length (dF y (Y0 x)):Int)&&(decide (((jA y out pre).length:Int)=0)|| !(Z9 (jA y out pre)==X4 (dF y (Y0 x)))))=true)
  (h1:bI 307 9 v ((jA y out pre).length+1) (n6 ((jA y out pre).map fun p=>p.1)++ints (X4 (dF y (Y0 x)))) ν) (h2:bI 3 1 u ((jA y out pre).length+1) (ints ((jA y out pre).map fun p=>(p.2:Int))++[qI (wM y.chairs.length (dF y (Y0 x)):Int)]) ω):aYV y out (pre++[x]) (es,cl,M,v,ν,u,ω):=by
 have e:jA y out (pre++[x])=jA y out pre++[(dF y (Y0 x),wM y.chairs.length (dF y (Y0 x)))]:=by
  rw[EN,tK,bNK hc]
 unfold aYV;rw[e];refine⟨hM,hok,?_,?_⟩
 ·simpa [n6]using h1
 ·simpa [ints]using h2
theorem bJC{y:bA}{out:List Int}{pre:List (List Int)}{x:List Int}{es:Array MapEntry}{cl:Nat}{M:List (xU 8×Int)}{v u:Γ}{ν ω:aD}(hM:H2 BZ es M)(hok:IM y.chairs.length M)
  (hc:(nY y.claims out (wM y.chairs.length (dF y (Y0 x)):Int)&&(decide (((jA y out pre).length:Int)=0)|| !(Z9 (jA y out pre)==X4 (dF y (Y0 x)))))=false)
  (h1:bI 307 9 v (jA y out pre).length (n6 ((jA y out pre).map fun p=>p.1)) ν) (h2:bI 3 1 u (jA y out pre).length (ints ((jA y out pre).map fun p=>(p.2:Int))) ω):aYV y out (pre++[x]) (es,cl,M,v,ν,u,ω):=by
 have e:jA y out (pre++[x])=jA y out pre:=by
  rw[EN,tK,bNA (by rw[hc];simp)]
 unfold aYV;rw[e];exact⟨hM,hok,h1,h2⟩
theorem RQ{y:bA}(h:y.chairs.length≤7):(C1.cB (kF y.chairs)).length≤2097152:=by
 have h1:=C1.sS (kF y.chairs);have h2:2^(kF y.chairs).length≤2^21:=bOW Yd (by rw[qH];omega)
 omega
theorem R7{l x:List Int}{pre r:List (List Int)}(h:C1.cB l=pre++x::r):x.length=l.length∧(∀n∈x,0≤n∧n≤1)∧pre.length<(C1.cB l).length:=by
 have hm:x∈C1.cB l:=by rw[h];simp
 exact⟨(C1.qF hm).1,(C1.qF hm).2,Xaj⟩
theorem aSG{x:List Int}(h:∀n∈x,0≤n∧n≤1)(hg:C7.oE (Y0 x)=x):∀p∈Y0 x,wT p:=fun p hp=>by
 have:∀n∈p.l,n∈x:=fun n hn=>by rw[←hg];exact bQT.2 ⟨p,hp,hn⟩
 exact⟨h _ (this _ (by simp[Pt.l])),h _ (this _ (by simp[Pt.l])),h _ (this _ (by simp[Pt.l]))⟩
theorem aZZ(A ν ω T:aD):A++(ν++(ω++T))=A++(ν++ω)++T:=Yf
theorem bMM(A ν ω T:aD):A++((ν++ω)++T)=A++ν++(ω++T):=Yf
theorem bFA{a b c d:Nat}{l:List Nat}:∀k∈[c,d],k∈a::b::c::d::l:=fun k hk=>by
 simp only[LT,n4,bOZ]at hk ⊢
 rcases hk with rfl|rfl
 ·exact bNC (bNC (bNI rfl))
 ·exact bNC (bNC (bNC (bNI rfl)))
theorem bLY{A B ν ω C:aD}{k:Nat}(h:(((A++B)++(ν++(ω++C))).map fun p=>p.1).Nodup)(hk:k∈(A++B).ks):k∉ν.ks++ω.ks:=by
 rw[bNG,bNG,bNG,bNF]at h;intro hm;refine h.2.2 k Xay k ?_ rfl;rcases bNH.1 hm with hm|hm
 ·exact bNE _ hm
 ·rw[bNG];exact GE _ (bNE _ hm)
theorem aPO{n:Nat}{s:Sc}(h:VW n s)(hn:n≤7):wM n s≤200:=by
 have h1:=aBR s.fits n s.broken;have h2:=MY h.bits hn;have h3:=h.whole;unfold wM;omega
theorem bIJ:KS prog 307 9:=by
 have hf:(prog.fieldsOf 307).toList=[(prog.fieldsOf 307)[0]!,(prog.fieldsOf 307)[1]!,(prog.fieldsOf 307)[2]!]:=Yg
 refine⟨Yg,Yg,Yg,?_⟩;rw[hf];refine .cons (H1.int Ybf Yg Yg) (.cons (H1.int Ybf Yg Yg) (.cons (n:=7) (H1.arr (e:=3) Ybf Yg Yg Yg Yg ?_ ?_) .nil))
 ·rw[show((prog.fieldsOf 307)[2]!).type=305 by kernel_rfl];exact p7
 ·rw[show((prog.fieldsOf 307)[2]!).type=305 by kernel_rfl];exact A4
theorem aIK(yv tv:Γ)(y:bA)(t:List Pt)(D:aC)(hy:iY D yv y)(ht:Sl D RP 3 tv t)(hlen:t.length=y.chairs.length)(I:t.length≤7)(hb:∀p∈t,wT p)(hf:0≤y.fit∧y.fit≤9)(hs:∀c∈y.chairs,0≤c.size∧c.size≤9):Fn prog 174 #[yv,tv] D (fun _ v=>v=.agg (ints (X4 (dF y t))).toArray):=by
 rw[←aUW];exact aNM yv tv y t D hy ht hlen I hb hf hs
theorem aRM(wb mb:Nat)(cv qv:Γ)(fit:Int)(chs:List Ch)(s:Sc)(I:chs.length≤7)(hs:VW chs.length s)(es:Array MapEntry)(clock:Nat)(M:List (xU 8×Int))(D:aC)(hS:Sl D A3 4 cv chs)(hM:H2 BZ es M)(hok:IM chs.length M):
  IF prog 175 [qP wb,.agg (ints (X4 s)).toArray] D [(wb,qC [cv,qI fit,qv,.map (some mb)] 299),(mb,.map es clock)] (fun _ v ν'=>v=qI (wM chs.length s:Int)∧∃es' clock' M',ν'=[(wb,qC [cv,qI fit,qv,.map (some mb)] 299),(mb,.map es' clock')]∧H2 BZ es' M'∧IM chs.length M'):=by
 rw[←aUW];exact aXZ wb mb cv qv fit chs s I hs es clock M D hS hM hok
theorem LC(wb mb:Nat)(cv qv:Γ)(y:bA)(out:List Int)(ov:Γ)(hE:y.chairs.length≤7)(hft:0≤y.fit∧y.fit≤9)(hsz:∀c∈y.chairs,0≤c.size∧c.size≤9)(hR:Array MapEntry)(clock0:Nat)(M0:List (xU 8×Int))(D:aC)(hS:Sl D A3 4 cv y.chairs)(hq:Sl D R2 2 qv y.claims)(ho:Sl D RI 1 ov out)(hM0:H2 BZ hR M0)(hok0:IM y.chairs.length M0):
  IF prog 88 [qP wb,ov] D [(wb,qC [cv,qI y.fit,qv,.map (some mb)] 299),(mb,.map hR clock0)] (fun D' v ν'=>∃sv mv,v=.tuple #[sv,mv]∧Sl D' WV 9 sv ((dC y out).map fun p=>p.1)∧Sl D' RI 1 mv ((dC y out).map fun p=>(p.2:Int))∧∃es' clock' M',ν'=[(wb,qC [cv,qI y.fit,qv,.map (some mb)] 299),(mb,.map es' clock')]∧H2 BZ es' M'∧IM y.chairs.length M'):=by
 obtain⟨oa,oc,rfl⟩:=ho.shape;refine XV 56 func88 rfl rfl rfl rfl fun h0 hwl hwn=>aA<|Zz rfl fun q1 E1 hE1 hK=>Zz rfl fun q2 E2 hE2 hB2=>Zah rfl aFR rfl fun q3=>Zah rfl vE rfl fun q4=>bC<|Zh 0 rfl DG rfl hK rfl<|Zam rfl<|Zj rfl O9 rfl<|eN rfl nA lN rfl Mm2 rfl rfl n4 rfl bSM<|Zy rfl (fun D1 hX=>P3 _ y _ ⟨_,_,rfl,hS.up A3.up (hX _ Yf),hq.up R2.up (hX _ Yf)⟩ hE) fun v1 D1 hX hp1=>?_;refine aF<|Za1 ?_;obtain⟨br,rfl,hit⟩:=hp1;refine Y2 (γ:=Array MapEntry×Nat×List (xU 8×Int)×Γ×aD×Γ×aD) (xs:=C1.cB (kF y.chairs)) (enc:=aRK y.chairs.length) (cells:=ints) (Dr:=D1) (aYV y out) (fun _ _ _=>False) (fun g=>(q4,qC [g.2.2.2.2.2.1] 25)::(q3,qC [g.2.2.2.1] 170)::(wb,qC [cv,qI y.fit,qv,.map (some mb)] 299)::(mb,.map g.1 g.2.1)::(g.2.2.2.2.1++g.2.2.2.2.2.2)) (hR,clock0,M0,qN,[],qN,[]) rfl rfl (fun g k hk=>bMT _ (bMT _ (bNE (aD.ks _) hk))) rfl hit Yf (fun _ vs h=>by rw[h];rfl) rfl ⟨hM0,hok0,by simpa [jA,n6]using bI.nil,by simpa [jA,ints]using bI.nil⟩ rfl ?_ ?_ fun _ _ _ _ h=>h.elim
 ·rintro pre x ⟨es,clock,M,v,ν,u,ω⟩ ⟨us,hx⟩ ⟨hM,hok,O,R⟩ l bd bo vs rec hh D7 hD7 henc hbo hst hpend;obtain rfl:vs=bIN y.chairs.length bo:=henc;simp only at hM hok O R;obtain⟨hY,hxb,hpl⟩:=R7 hx;have hcap:=RQ hE;rw[qH]at hY;have ht:=bGM hbo hY hE;obtain⟨rA,hF⟩:=QJ _ _ hY;have htl:(Y0 x).length=y.chairs.length:=hF;have htb:=aSG hxb rA;have hsc:=S5 htl Yd;have hpsl:=JR y out pre;have hmb:=aPO hsc hE;have I:∀p∈jA y out pre,p.1.fits.length=7:=DO y out pre;have hs9:=uG (dF y (Y0 x)) (by simp[dF]);refine aO<|Zf rfl<|Zao ?_;refine fun a w hhh=>zQ (A:=[(_,_),(_,_),(_,_),(_,_)]++(ν++ω)) (B:=[(bd,.deferred (some []))]) (r:=rec) (l:=l) Ybb hst ?_ a w hhh
  refine MR ((q4,qC [u] 25)::(q3,qC [v] 170)::(wb,qC [cv,qI y.fit,qv,.map (some mb)] 299)::(mb,.map es clock)::(ν++(ω++[(l,.loop {rec with state:=.busy}),(bd,.deferred (some []))]))) Yf<|pF fun hnd=>?_;simp only[bNT,bNG,bRF,bOT,bNF,LT,bNH,n4,bSF]at hnd;refine Za1<|aA<|Zh 0 rfl DG rfl hK rfl<|Zam rfl<|Zj rfl O9 rfl<|eN rfl nA lN rfl Mm2 rfl rfl n4 rfl bSM<|Za rfl<|Zd rfl (fun D2 rB=>aIK _ _ y (Y0 x) _ ⟨_,_,rfl,hS.up A3.up (rB _ Yf),hq.up R2.up (rB _ Yf)⟩ (ht.up RP.up (rB _ Yf)) htl Yd htb hft hsz)<|Zah rfl wQ rfl fun q5=>eF rfl rfl rfl rfl iD Xaz Ybb .head (dP _) bSM<|aJ<|Zh 0 rfl DG rfl hK rfl ?_;refine bL (vs:=ints (X4 (dF y (Y0 x)))) rfl uK rfl Mm0 Xcu n4 rfl bSM<|aV ([(_,_),(_,_),(_,_)]++[(_,_),(_,_)]++(ν++(ω++[(l,_),(bd,_)]))) rfl<|gF (A:=[(_,_),(_,_),(_,_)]) (ν:=[(_,_),(_,_)]) (B:=ν++(ω++[(l,_),(bd,_)])) rfl rfl rfl rfl (bNI rfl) (JG (cs:=[_,_,_,_])) (fun D5 hD5=>aRM wb mb cv qv y.fit y.chairs (dF y (Y0 x)) hE hsc es clock M D5 (hS.up A3.up (hD5 _ Yf)) hM hok) rfl bSM fun v5 D6 _ hD6 hp5=>?_
  obtain⟨rfl,U,V,M1,rfl,hN,hB⟩:=hp5;refine Zf rfl<|bO<|sF [] 7 22 319536 (fun _ _ _ h=>h)<|Zh 0 rfl DG rfl hK rfl<|Zam rfl<|Zj rfl O9 rfl<|eN rfl nA lN rfl Mm3 rfl rfl n4 rfl bSM<|Za rfl<|Zh 0 rfl cD rfl hB2 rfl<|Zd rfl (fun D3 hD3=>EO _ y _ _ out _ ⟨_,_,rfl,hS.up A3.up (hD3 _ Yf),hq.up R2.up (hD3 _ Yf)⟩ (ho.up RI.up (hD3 _ Yf)))<|Za rfl ?_;refine' bX 14 (s:=31) (p:=45) rfl (fun rA=>?_) (fun rA=>?_) ?_;rotate_left
  ·refine Zq rfl xB rfl Mm2 rfl<|bR rfl U170 rfl O rfl rfl ⟨_,rfl,rfl⟩<|pZ rfl rfl rfl rfl ⟨_,rfl,rfl⟩<|Zb rfl ?_;refine' dL 9 (s:=35) (p:=44) rfl (fun hF=>?_) (fun hF=>?_) ?_;rotate_left
   ·have hne:jA y out pre≠[]:=fun e=>by rw[e]at hF;simp at hF
    have hpos:=bQE.2 hne;obtain⟨b5,cap5,hH,rfl,hcp5,rfl,hl51,hl52⟩:=O.some hpos;refine Zq rfl xB rfl Mm2 rfl<|Zq rfl xB rfl Mm2 rfl<|lL rfl U170 rfl rfl rfl ⟨_,rfl,rfl⟩<|yP rfl rfl rfl Ye rfl ⟨_,rfl,rfl⟩<|eY rfl U170 iD rfl rfl Yd Yd rfl ⟨_,rfl,rfl⟩<|eN (vs:=n6 ((jA y out pre).map fun p=>p.1)++hH) (us:=ints (Z9 (jA y out pre))) rfl uK iD rfl (bNM _ (bNM _ Mm3)) (aQI I hne hH) (by simpa using MG I hne) n4 rfl ⟨_,rfl,rfl⟩<|bL (vs:=ints (X4 (dF y (Y0 x)))) rfl uK rfl Mm0 Xcu n4 rfl ⟨_,rfl,rfl⟩<|bIW (n:=9) rfl bIJ (MG I hne) hs9 rfl rfl rfl ⟨_,rfl,rfl⟩<|oT rfl rfl rfl rfl ⟨_,rfl,rfl⟩ ?_
    exact aN 8
   ·refine Zg rfl<|Zg rfl<|Zg rfl<|Zg rfl<|Zg rfl<|Zg rfl<|Ws ?_;exact aN 8
   refine Zak rfl ?_;exact aN 5
  ·refine Wah ?_;refine Zg rfl<|Zal rfl ?_;exact aN 13
  refine aF<|Zaf rfl (fun hc1=>?_) fun hc1=>?_
  ·refine pF fun hnd=>?_;have hq5:=bLY (A:=[_,_,_]) (B:=[_,_]) (k:=q5) hnd Mm0;have hq4:=bLY (A:=[_,_,_]) (B:=[_,_]) (k:=q4) hnd Mm1;have hq3:=bLY (A:=[_,_,_]) (B:=[_,_]) (k:=q3) hnd Mm2;refine oS (ν.ks++ω.ks) 3 [false,true,true,true,true,true,true,false,false,false] [.fork [0,1,4,5] 2 (.fork [] 3 (.fin [6]) 6 (.fin [3])) 6 (.fin [2,3]),.fin [7,8,9]] bB (fun _ _ _ h=>h) Yg<|tI<|bQ [(false,0),(true,1),(true,4),(true,5)] rfl<|bD rfl xB rfl Mm2 rfl Yl rfl bSM<|bL (vs:=ints (X4 (dF y (Y0 x)))) rfl uK rfl Mm0 Xcu hq5 rfl bSM<|bD rfl cD rfl Mm1 rfl Yl rfl bSM<|Za rfl<|Zao (dZ true true rfl rfl ?_ ?_)
   ·refine Zt rfl U170 iD wQ rfl (.cons rfl Xaz .nil) fun b901 D901 hD901 Z=>?_;have hAs:=Z;refine Zao<|bQ [] rfl<|Zao (dZ true true rfl rfl ?_ ?_)
    ·refine Zaa ([(_,_),(_,_),(_,_),(_,_),(_,_)]++ν++(ω++[(l,_),(bd,_)])) (bND _ _ _).symm<|aS (A:=[(_,_),(_,_),(_,_),(_,_),(_,_)]) (B:=(ω++[(l,_),(bd,_)])) rfl U170 rfl rfl iD wQ rfl OC rfl rfl rfl O (jY.lit hAs) Yf Xaz (FT I) Xbi Yd (bNC fun p hp=>bNE _ (bMR.2 ⟨p,hp,rfl⟩)) rfl bSM fun v1x ν1x ha1x=>Zao<|aW [(true,6)] rfl<|Zt rfl U25 aH cE rfl (.cons rfl rfl .nil) fun hO hP hI Y=>?_;have hAm:=Y;refine Zao<|mS [(false,7),(false,8),(false,9)] rfl<|Zaa (([(_,_),(_,_),(_,_),(_,_),(_,_)]++ν1x)++ω++[(l,_),(bd,_)]) (bND _ _ _).symm<|aS (A:=[(_,_),(_,_),(_,_),(_,_),(_,_)]++ν1x) (B:=[(l,_),(bd,_)]) rfl U25 rfl rfl aH cE rfl kD rfl rfl rfl R (jY.lit hAm) Yf rfl Yf Yk Yd (bNC fun p hp=>GE _ (bMR.2 ⟨p,hp,rfl⟩)) rfl bSM fun u1x ω1x ha2x=>Wn ?_;have hJ:aYV y out (pre++[x]) (U,V,M1,v1x,ν1x,u1x,ω1x):=PW hN hB hc1 (by simpa using ha1x) (by simpa using ha2x);refine Zao<|oL<|Za4 ?_;exact fun a w hh=>iX (A:=[(_,_),(_,_),(_,_),(_,_)]++(ν1x++ω1x)) (B:=[(bd,.deferred (some []))]) (U,V,M1,v1x,ν1x,u1x,ω1x) hJ rfl rfl a w ((hh.dropBoxes 1).boxesEq (aZZ [_,_,_,_] ν1x ω1x [_,_]))
    ·refine Zt rfl U25 aH cE rfl (.cons rfl rfl .nil) fun hO hP hI Y=>?_;have hAm:=Y;refine Zao<|aW [(true,3)] rfl<|Zaa ([(_,_),(_,_),(_,_),(_,_),(_,_)]++ν++(ω++[(l,_),(bd,_)])) (bND _ _ _).symm<|aS (A:=[(_,_),(_,_),(_,_),(_,_),(_,_)]) (B:=(ω++[(l,_),(bd,_)])) rfl U170 rfl rfl iD wQ rfl OC rfl rfl rfl O (jY.lit hAs) Yf Xaz (FT I) Xbi Yd (bNC fun p hp=>bNE _ (bMR.2 ⟨p,hp,rfl⟩)) rfl bSM fun v1x ν1x ha1x=>Zao<|mS [(false,7),(false,8),(false,9)] rfl<|Zaa (([(_,_),(_,_),(_,_),(_,_),(_,_)]++ν1x)++ω++[(l,_),(bd,_)]) (bND _ _ _).symm<|aS (A:=[(_,_),(_,_),(_,_),(_,_),(_,_)]++ν1x) (B:=[(l,_),(bd,_)]) rfl U25 rfl rfl aH cE rfl kD rfl rfl rfl R (jY.lit hAm) Yf rfl Yf Yk Yd (bNC fun p hp=>GE _ (bMR.2 ⟨p,hp,rfl⟩)) rfl bSM fun u1x ω1x ha2x=>Wn ?_;have hJ:aYV y out (pre++[x]) (U,V,M1,v1x,ν1x,u1x,ω1x):=PW hN hB hc1 (by simpa using ha1x) (by simpa using ha2x);refine Zao<|oL<|Za4 ?_;exact fun a w hh=>iX (A:=[(_,_),(_,_),(_,_),(_,_)]++(ν1x++ω1x)) (B:=[(bd,.deferred (some []))]) (U,V,M1,v1x,ν1x,u1x,ω1x) hJ rfl rfl a w ((hh.dropBoxes 1).boxesEq (aZZ [_,_,_,_] ν1x ω1x [_,_]))
   ·refine Zt rfl U25 aH cE rfl (.cons rfl rfl .nil) fun b901 D901 hD901 Z=>?_;have hAm:=Z;refine Zao<|aW [(true,2),(true,3)] rfl<|Zt rfl U170 iD wQ rfl (.cons rfl Xaz .nil) fun hO hP hI Y=>?_;have hAs:=Y;refine Zaa ([(_,_),(_,_),(_,_),(_,_),(_,_)]++ν++(ω++[(l,_),(bd,_)])) (bND _ _ _).symm<|aS (A:=[(_,_),(_,_),(_,_),(_,_),(_,_)]) (B:=(ω++[(l,_),(bd,_)])) rfl U170 rfl rfl iD wQ rfl OC rfl rfl rfl O (jY.lit hAs) Yf Xaz (FT I) Xbi Yd (bNC fun p hp=>bNE _ (bMR.2 ⟨p,hp,rfl⟩)) rfl bSM fun v1x ν1x ha1x=>Zao<|mS [(false,7),(false,8),(false,9)] rfl<|Zaa (([(_,_),(_,_),(_,_),(_,_),(_,_)]++ν1x)++ω++[(l,_),(bd,_)]) (bND _ _ _).symm<|aS (A:=[(_,_),(_,_),(_,_),(_,_),(_,_)]++ν1x) (B:=[(l,_),(bd,_)]) rfl U25 rfl rfl aH cE rfl kD rfl rfl rfl R (jY.lit hAm) Yf rfl Yf Yk Yd (bNC fun p hp=>GE _ (bMR.2 ⟨p,hp,rfl⟩)) rfl bSM fun u1x ω1x ha2x=>Wn ?_;have hJ:aYV y out (pre++[x]) (U,V,M1,v1x,ν1x,u1x,ω1x):=PW hN hB hc1 (by simpa using ha1x) (by simpa using ha2x);refine Zao<|oL<|Za4 ?_;exact fun a w hh=>iX (A:=[(_,_),(_,_),(_,_),(_,_)]++(ν1x++ω1x)) (B:=[(bd,.deferred (some []))]) (U,V,M1,v1x,ν1x,u1x,ω1x) hJ rfl rfl a w ((hh.dropBoxes 1).boxesEq (aZZ [_,_,_,_] ν1x ω1x [_,_]))
  ·have hI0:aYV y out (pre++[x]) (U,V,M1,v,ν,u,ω):=bJC hN hB hc1 O R;refine bG<|Za4 ?_;exact fun a w hh=>iX (A:=[(_,_),(_,_),(_,_),(_,_)]++(ν++ω)) (B:=[(bd,.deferred (some []))]) (U,V,M1,v,ν,u,ω) hI0 rfl rfl a w ((hh.dropBoxes 1).boxesEq (aZZ [_,_,_,_] ν ω [_,_]))
 ·rintro⟨es,clock,M,v,ν,u,ω⟩ bd ⟨hM,hok,O,R⟩;simp only at hM hok O R;rw[AL]at O R;have I:∀p∈dC y out,p.1.fits.length=7:=by rw[←AL];exact DO y out _
  have hsl:(dC y out).length≤2097152:=by rw[←AL];have:=JR y out (C1.cB (kF y.chairs));have:=RQ hE;omega
  refine uP ((q4,qC [u] 25)::(q3,qC [v] 170)::(wb,qC [cv,qI y.fit,qv,.map (some mb)] 299)::(mb,.map es clock)::((ν++ω)++[(bd,.deferred (some []))])) rfl<|Za4<|Zaz<|Za3<|sF [] 1 4 6 (fun _ _ _ h=>h)<|Zp rfl xB rfl Mm1 rfl<|Zp rfl cD rfl Mm0 rfl<|GW rfl rfl rfl O.cells1 n8 (.tail .head) Yf rfl O.cell1 bSM<|cR rfl rfl rfl R.cells1 fR .head Yf rfl R.cell1 bSM<|aG<|uP ([(_,_),(_,_),(_,_),(_,_)]++ν++(ω++[(bd,_)])) (bMM [_,_,_,_] ν ω [_])<|LD (A:=[(_,_),(_,_),(_,_),(_,_)]) (B:=ω++[(bd,_)]) O bFA fun D8 hD8 hF8=>?_;refine uP ([(_,_),(_,_),(_,_),(_,_)]++ω++[(bd,_)]) (bND _ _ _).symm<|LD (A:=[(_,_),(_,_),(_,_),(_,_)]) (B:=[(bd,_)]) R bFA fun D9 hD9 hF9=>?_;exact SG (A:=[(_,_),(_,_)]) (ν':=[(_,_),(_,_)]) (B:=[]) (vs:=[_,_]) rfl rfl rfl ⟨⟨_,_,_,rfl,Mm1,bNI ⟨xB,rfl⟩⟩,⟨_,_,_,rfl,bRN _,bNI ⟨cD,rfl⟩⟩,bSM⟩ rfl fun D hD=>⟨v,u,rfl,(hF8.scs Yf Yd).up WV.up ((hD9 _ Yf).trans (hD _ Yf)),(hF9.ints Yf Yd).up RI.up (hD _ Yf),es,clock,M,rfl,hM,hok⟩
def bFL(m k:Nat):List Int:=((List.range k).filter fun i=>m.testBit i).map fun i:Nat=>(i:Int)
def aDH(m:Nat):List Int:=bFL m 7
def mB(s:Sc)(l:List (Int×Int)):Nat:=s.whole+(l.filter fun p=>fB s.fits p.1.toNat p.2.toNat).length
def aLO(l:List (Int×Int)):Prop:=∀p∈l,∃x z:Nat,p=((x:Int),(z:Int))∧x<7∧z<7
theorem aPM(s:Sc)(l:List (Int×Int)):mB s l≤s.whole+l.length:=by
 have:=bOJ (fun p:Int×Int=>fB s.fits p.1.toNat p.2.toNat) l;unfold mB;omega
theorem YE{s:Sc}{l:List (Int×Int)}{k x z:Nat}(h:l[k]?= some ((x:Int),(z:Int))):((mB s (l.take (k+1)):Nat):Int)=(mB s (l.take k):Int)+((((s.fits.getD x 0) >>> z:Nat):Int)%2):=by
 rw[mN];unfold mB;rw[bMZ,h,bNU,bOE,LE];have:([((x:Int),(z:Int))].filter fun p:Int×Int=>fB s.fits p.1.toNat p.2.toNat).length=if(s.fits.getD x 0).testBit z=true then 1 else 0:=by
  show(List.filter (fun p:Int×Int=>(s.fits.getD p.1.toNat 0).testBit p.2.toNat) [((x:Int),(z:Int))]).length=_;rw[bPP];simp only[bOI];split<;>rfl
 rw[this];split<;>omega
theorem aBL{a b:Nat}(ha:a<128)(hb:b<128):a|||b<128:=Nat.or_lt_two_pow (n:=7) ha hb
theorem aGX(w b:Nat)(a0 O a2 a3 a4 a5 R:Nat)(lv:Γ)(l:List (Int×Int))(D:aC)(_hF:∀f∈[a0,O,a2,a3,a4,a5,R],f<128)(hw:w≤7)(hl:Sl D R2 2 lv l)(hp:aLO l)(hlen:l.length≤1000):Fn prog 228 #[.agg #[qI (w:Int),qI (b:Int),qI (a0:Int),qI (O:Int),qI (a2:Int),qI (a3:Int),qI (a4:Int),qI (a5:Int),qI (R:Int)],lv] D (fun _ v=>v=qI (mB ⟨w,b,[a0,O,a2,a3,a4,a5,R]⟩ l:Int)):=by
 have hll:=hl.len;refine Zw 29 func228 rfl fun h0=>aA<|Zz rfl fun q1 E1 hF U=>Zf rfl<|aJ<|Zj rfl P0 rfl<|Zh 0 rfl aI rfl U rfl<|Zf rfl<|bC<|Za rfl<|Zai rfl U151 rfl hl rfl<|Za rfl ?_;refine aF<|Za1<|bM (γ:=Nat) (fun k=>l.length-k) (fun k=>k≤l.length) (fun k=>[(12,qI (k:Int)),(5,qI (mB ⟨w,b,[a0,O,a2,a3,a4,a5,R]⟩ (l.take k):Int))]) [(11,_),(10,_),(4,_),(2,_)] (fun k=>[E1,D]) 0 Yd ⟨Ya,(by simp[mB];rfl),bSM⟩ cF (aK) ?_
 rintro k h1;refine aA<|Zan rfl<|bO<|Zae rfl (fun hc1=>?_) fun hc1=>?_
 ·have hk:k<l.length:=Yd
  obtain⟨p,I⟩:=cT l k;obtain⟨x,z,rfl,V,hH⟩:=hp p (n5 I);have hml:=aPM ⟨w,b,[a0,O,a2,a3,a4,a5,R]⟩ (l.take k);have htl:(l.take k).length≤k:=bPW _ _;simp only at hml;refine aQ<|Za3<|Za1<|aA<|Zx rfl U151 tN rfl hl rfl I fun b1 o1 Y Z hE hB=>?_;obtain rfl:Y=[qI _,qI _]:=Z;refine Zv rfl aXS rfl hB tN<|Zah rfl wW rfl fun q2=>Zab rfl tN ζ<|aF<|bN [] 6 12 1022<|Za rfl<|Zj rfl aMG rfl<|Zp rfl aI rfl Mm0 rfl<|Zj rfl O5 rfl<|eT rfl U305 aH rfl rfl Yd Yd rfl bSM<|dU (o:=0+1+1) (k:=x*1) rfl aI rfl U.tail.tail Yf (aNR a0 O a2 a3 a4 a5 R V) n4 rfl bSM<|Zj rfl aHV rfl ?_;refine Zp rfl aI rfl Mm0 rfl<|W2 rfl rfl rfl Yd rfl bSM<|sQ rfl rfl rfl (bRO _) Yd Xcp rfl bSM<|oC rfl rfl rfl (by rw[mN];simp only[wD];split<;>omega) rfl bSM<|Wan ?_
  exact Zn 20 (k+1) ⟨Ya,(by rw[YE I];rfl),bSM⟩ rfl (bNY _ Mm5)
 ·obtain rfl:k=l.length:=Yd
  rw[bNR];refine Wm ?_;exact aE rfl fun D hD=>rfl
theorem TM(s:Sc)(lv:Γ)(l:List (Int×Int))(hs:∀f∈s.fits,f<128)(hw:s.whole≤7)(hp:aLO l)(hlen:l.length≤1000)(D:aC)(hl:Sl D R2 2 lv l)(I:s.fits.length=7):Fn prog 228 #[.agg (ints (X4 s)).toArray,lv] D (fun _ v=>v=qI (mB s l:Int)):=by
 obtain⟨w,b,F⟩:=s;obtain⟨a0,O,a2,a3,a4,a5,R,rfl⟩:=bFP I;exact aGX w b a0 O a2 a3 a4 a5 R lv l D hs hw hl hp hlen
def gE(y:bA):(Int×Int)×Int:=if aZ y≠0 then((0,0),aZ y)else match(dC y []).map fun p=>(p.2:Int)with
 | []=>((0,0),11)
 |m::l=>((m::l).foldl (fun r n=>(min r.1 n,max r.2 n)) (m,m),0)
theorem aAQ{y:bA}(h:aZ y=0)(hn:dC y []=[]):Value.tuple #[.agg #[qI 0,qI 0],qI 11]=.tuple #[mH (gE y).1,qI (gE y).2]:=by
 rw[gE,bNA Yd,hn];rfl
theorem BU{y:bA}{L:List Int}{m0:Int}(h:aZ y=0)(hL:((dC y []).map fun p=>(p.2:Int))=L)(hm:L[0]?= some m0):Value.tuple #[.agg #[qI (L.foldl (fun r n=>(min r.1 n,max r.2 n)) (m0,m0)).1,qI (L.foldl (fun r n=>(min r.1 n,max r.2 n)) (m0,m0)).2],qI 0]=.tuple #[mH (gE y).1,qI (gE y).2]:=by
  rw[gE,bNA Yd,hL];cases L with
  |nil=>simp at hm
  | cons m l => obtain rfl : m = m0 := by simpa using hm
                rfl
theorem WF{L:List Int}{k:Nat}{n m0:Int}(h:L[k]?= some n):(L.take (k+1)).foldl (fun r n=>(min r.1 n,max r.2 n)) (m0,m0)=(min ((L.take k).foldl (fun r n=>(min r.1 n,max r.2 n)) (m0,m0)).1 n,max ((L.take k).foldl (fun r n=>(min r.1 n,max r.2 n)) (m0,m0)).2 n):=by
 rw[bMZ,h,bNU,bOR];rfl
theorem zK(yv:Γ)(y:bA)(D:aC)(hy:iY D yv y):Fn prog 28 #[yv] D (fun _ v=>v=.tuple #[mH (gE y).1,qI (gE y).2]):=by
 have hB:=hy;obtain⟨cv,qv,rfl,hc,hq⟩:=hy;refine Zw 48 func28 rfl fun h0=>aA<|Zz rfl fun q1 E1 hP U=>Zah rfl nH rfl fun q2=>Zf rfl<|bC<|Zv rfl nA rfl U lN<|Zd rfl (fun D1 hE=>B2 _ y _ (hB.up (hE _ Yf)))<|Waz ?_;refine aF<|Zae rfl (fun hc1=>?_) fun hc1=>?_
 ·refine aA<|Zu [qI 0,qI 0] rfl FI nH rfl<|Za rfl<|Zab rfl dV ζ<|Wg ?_;exact Zo [_,_] rfl ⟨⟨_,_,_,rfl,Mm0,Or.inr ⟨rV,Xbj,rfl⟩⟩,rfl,bSM⟩ fun D hD=>by show Value.tuple _=_;rw[gE,bNK hc1];rfl
 ·have O:aZ y=0:=Yd
  have hyo:=bKE O;have hR:=hyo.len;refine aQ<|aA<|Zv rfl nA rfl U lN<|fX (μ:=_) rfl rfl rfl (fun D5 hS=>CK _ y _ _ D5 rfl) rfl bSM fun v5 D6 _ hX hp5=>?_;obtain⟨wb,mb,rfl,rfl⟩:=hp5;refine aV ([]++[(_,_),(_,_)]++([(_,_)])) rfl<|gF (A:=[]) (ν:=[(_,_),(_,_)]) (B:=[(_,_)]) rfl rfl rfl rfl (bNI rfl) (JG (cs:=[_,_,_,_])) (fun D7 V=>LC wb mb _ _ y [] _ Yd hyo.fit hyo.size #[] 0 [] _ (hc.up A3.up (V _ Yf)) (hq.up R2.up (V _ Yf)) Sl.nil rfl IM.nil) rfl bSM fun v7 D8 _ hY hF=>?_;obtain⟨sv,mv,rfl,hsv,hmv,Y,Z,M1,rfl,rA,hN⟩:=hF;refine Za rfl<|Zap rfl<|Zap rfl<|Zf rfl<|Zf rfl<|bC<|Za rfl<|Zai rfl U25 rfl hmv rfl<|Zas rfl<|aF<|Zae rfl (fun hc2=>?_) fun hc2=>?_
  ·have hnil:dC y []=[]:=Yav
   refine aA<|Zu [qI 0,qI 0] rfl FI nH rfl<|Zab rfl dV (.tail (.tail ζ))<|Wg ?_;exact Zo [_,_] rfl ⟨⟨_,_,_,rfl,Mm2,Or.inr ⟨rV,Xbj,rfl⟩⟩,rfl,bSM⟩ fun D hD=>aAQ O hnil
  ·generalize hL:((dC y []).map fun p=>(p.2:Int))=ms at hmv hc2 ⊢
   have hml:=hmv.len;have hne:ms≠[]:=fun e=>hc2 Xaq
   obtain⟨m0,R⟩:∃m,ms[0]?= some m:=⟨ms[0]'(bQE.2 hne),bMU _⟩
   refine aQ<|Za3<|oS [] 3 [false,false,false,true,true,true,false,true,true,true,false,false] [.fork [0,1,2,3,4,5,6,7] 8 (.fin [9]) 9 (.fin [8]),.fin [10,11]] bB (fun _ _ _ h=>fW (P:=prog) (fn:=f28) _ _ _ h) Yg<|tI<|bQ [(false,0),(false,1),(false,2),(true,3),(true,4),(true,5),(false,6),(true,7)] rfl<|Za rfl<|iW rfl hmv rfl R fun b1 o1=>Za rfl<|iW rfl hmv rfl R fun b2 o2=>Zu [qI m0,qI m0] rfl FI nH rfl<|Zu [.func (.func 89) #[] #[]] rfl aXC QG rfl<|Zao (dZ true true rfl rfl ?_ ?_)
   ·refine Zah rfl nH rfl fun q3=>Zao<|aW [(true,9)] rfl<|Zah rfl QG rfl fun q4=>Zao<|mS [(false,10),(false,11)] rfl<|Zab rfl dV (.tail ζ)<|Zab rfl aDB ζ<|Zao<|oL<|Zaz<|bZ ?_;refine Za rfl<|Zai rfl U25 rfl hmv rfl<|Za rfl<|aF<|Za1<|gT (γ:=Nat) (fun k=>ms.length-k) (fun k=>k≤ms.length) (fun k=>[(37,qI (k:Int))]) [(36,_),(35,_),(8,_),(7,_),(3,_),(2,_)] (fun k=>(q4,qC [.func (.func 89) #[] #[]] 178)::(q3,qC [qI (List.foldl (fun r n=>(min r.1 n,max r.2 n)) (m0,m0) (ms.take k)).1,qI (List.foldl (fun r n=>(min r.1 n,max r.2 n)) (m0,m0) (ms.take k)).2] 90)::(wb,qC [cv,qI y.fit,qv,.map (some mb)] 299)::(mb,.map Y Z)::[(q2,qC [qI 0,qI 0] 90)]) (fun k=>[D8,D6,E1,D]) 0 Yd ⟨Ya,bSM⟩ cF Mm5 (aK) ?_;rintro k h1;refine aA<|Zan rfl<|bO<|Zae rfl (fun hc3=>?_) (fun hc3=>?_)
    ·have hk:k<ms.length:=Yd
     obtain⟨n,I⟩:=cT ms k;have hst:=WF (m0:=m0) I;refine aQ<|Za3<|Za1<|aA<|Zx rfl U25 aH rfl hmv rfl I fun b3 o3 hH hI hO hJ=>?_;obtain rfl:hH=[qI _]:=hI;refine Zh 0 rfl aI rfl hJ rfl<|Zf rfl<|aF<|aO<|Zj rfl MX rfl<|Zp rfl aCR rfl Mm0 rfl<|Zag rfl rV rfl Mm1 dV<|Za rfl<|Zd rfl (fun D2 hK=>vD (List.foldl (fun r n=>(min r.1 n,max r.2 n)) (m0,m0) (ms.take k)) n _)<|Zab rfl dV (.tail ζ)<|Zao<|Za4 ?_;refine Zaz<|aO<|Zad rfl<|Za rfl<|Zao ?_;rw[←hst];exact Zn 12 (k+1) ⟨Ya,bSM⟩ rfl Mm5
    ·obtain rfl:k=ms.length:=Yd
     rw[bNR];refine Za6<|Za2<|Za2<|Za7<|Zaz<|aA<|Zag rfl rV rfl Mm1 dV<|Zab rfl dV (.tail (.tail (.tail (.tail ζ))))<|We ?_;exact Zo [_,_] rfl ⟨⟨_,_,_,rfl,(List.Mem.tail _ Mm3),Or.inr ⟨rV,Xbj,rfl⟩⟩,rfl,bSM⟩ fun D hD=>BU O hL R
   ·refine Zah rfl QG rfl fun q3=>Zao<|aW [(true,8)] rfl<|Zah rfl nH rfl fun q4=>Zao<|mS [(false,10),(false,11)] rfl<|Zab rfl dV ζ<|Zab rfl aDB (.tail ζ)<|Zao<|oL<|Zaz<|bZ ?_;refine Za rfl<|Zai rfl U25 rfl hmv rfl<|Za rfl<|aF<|Za1<|gT (γ:=Nat) (fun k=>ms.length-k) (fun k=>k≤ms.length) (fun k=>[(37,qI (k:Int))]) [(36,_),(35,_),(7,_),(8,_),(3,_),(2,_)] (fun k=>(q4,qC [qI (List.foldl (fun r n=>(min r.1 n,max r.2 n)) (m0,m0) (ms.take k)).1,qI (List.foldl (fun r n=>(min r.1 n,max r.2 n)) (m0,m0) (ms.take k)).2] 90)::(q3,qC [.func (.func 89) #[] #[]] 178)::(wb,qC [cv,qI y.fit,qv,.map (some mb)] 299)::(mb,.map Y Z)::[(q2,qC [qI 0,qI 0] 90)]) (fun k=>[D8,D6,E1,D]) 0 Yd ⟨Ya,bSM⟩ cF Mm5 (aK) ?_;rintro k h1;refine aA<|Zan rfl<|bO<|Zae rfl (fun hc3=>?_) (fun hc3=>?_)
    ·have hk:k<ms.length:=Yd
     obtain⟨n,I⟩:=cT ms k;have hst:=WF (m0:=m0) I;refine aQ<|Za3<|Za1<|aA<|iW rfl hmv rfl I fun b3 o3=>Zf rfl<|aF<|aO<|Zj rfl MX rfl<|Zp rfl aCR rfl Mm1 rfl<|Zag rfl rV rfl Mm0 dV<|Za rfl ?_;refine Zd rfl (fun D2 hK=>vD (List.foldl (fun r n=>(min r.1 n,max r.2 n)) (m0,m0) (ms.take k)) n _)<|Zab rfl dV ζ<|Zao<|Wb ?_;rw[←hst];exact Zn 12 (k+1) ⟨Ya,bSM⟩ rfl Mm5
    ·obtain rfl:k=ms.length:=Yd
     rw[bNR];refine Za6<|Za2<|Za2<|Za7<|Zaz<|aA<|Zag rfl rV rfl Mm0 dV<|Zab rfl dV (.tail (.tail (.tail (.tail ζ))))<|We ?_;exact Zo [_,_] rfl ⟨⟨_,_,_,rfl,(List.Mem.tail _ Mm3),Or.inr ⟨rV,Xbj,rfl⟩⟩,rfl,bSM⟩ fun D hD=>BU O hL R
theorem MD(l:List (Int×Int)):∀u∈WH l,cell1 u=true:=by
 intro u hu;unfold WH at hu;rw[bQT]at hu;obtain⟨p,_,hu⟩:=hu;simp only[LT,n4,bOZ]at hu;rcases hu with rfl|rfl<;>rfl
theorem ON{I b2 t1 t2:Nat}{cs ds:List Γ}:∀p∈[(I,Obj.cells cs.toArray t1 (0,0)),(b2,qC ds t2)],cU p.2:=by
 intro p hp;simp only[LT,n4,bOZ]at hp;rcases hp with rfl|rfl<;>rfl
def FN(scs:List Sc)(l:List (Int×Int)):Int:=match scs with
 | []=>0
 |s::_=>(scs.map fun s=>(mB s l:Int)).foldl min (mB s l:Int)
theorem aRO{scs:List Sc}{l:List (Int×Int)}{I:Sc}(h:scs[0]?= some I):(scs.map fun s=>(mB s l:Int)).foldl min (mB I l:Int)=FN scs l:=by
  cases scs with
  |nil=>simp at h
  | cons s r => obtain rfl : s = I := by simpa using h
                rfl
theorem aJL{scs:List Sc}{l:List (Int×Int)}{k:Nat}{s:Sc}{a:Int}(h:scs[k]?= some s):((scs.take (k+1)).map fun s=>(mB s l:Int)).foldl min a=min (((scs.take k).map fun s=>(mB s l:Int)).foldl min a) (mB s l:Int):=by
 rw[bMZ,h,bNU,bNG,bOR];rfl
def lJ(y:bA)(a b:Nat):Bool:=match y.chairs[a]?,y.chairs[b]? with
 |some x,some z=>U6 y.fit x z
 |_,_=>false
def UN(y:bA):Nat→Nat→Nat→List (Int×Int)→List (List (Int×Int))
 |0,_,_,l=>[l]
 |k+1,f,w,l=>UN y k (f+1) w l++(if w.testBit f=true then []else((List.range y.chairs.length).filter fun b=>decide (f<b)&&(!w.testBit b&&lJ y f b)).flatMap fun(b:Nat)=>UN y k (f+1) (w|||2^b) (l++[((f:Int),(b:Int))]))
def aEA(scs:List Sc)(st:List (Int×Int)×Int)(l:List (Int×Int)):List (Int×Int)×Int:=if st.2<FN scs l then(l,FN scs l)else st
theorem Y1{y:bA}{scs:List Sc}{f w:Nat}{l:List (Int×Int)}{st:List (Int×Int)×Int}:(UN y 0 f w l).foldl (aEA scs) st=aEA scs st l:=rfl
theorem aEE{scs:List Sc}{l best:List (Int×Int)}{many:Int}(h:many<FN scs l):aEA scs (best,many) l=(l,FN scs l):=bNK h
theorem aQE{scs:List Sc}{l best:List (Int×Int)}{many:Int}(h:¬many<FN scs l):aEA scs (best,many) l=(best,many):=bNA h
def vF(y:bA)(k f w:Nat)(l:List (Int×Int))(b:Nat):List (List (Int×Int)):=if w.testBit f=true then []else((List.range b).filter fun b=>decide (f<b)&&(!w.testBit b&&lJ y f b)).flatMap fun(b:Nat)=>UN y k (f+1) (w|||2^b) (l++[((f:Int),(b:Int))])
def TI(y:bA)(scs:List Sc)(k f w:Nat)(l best:List (Int×Int))(many:Int)(b:Nat):List (Int×Int)×Int:=(UN y k (f+1) w l++vF y k f w l b).foldl (aEA scs) (best,many)
theorem KG{y:bA}{scs:List Sc}{k f w:Nat}{l best:List (Int×Int)}{many:Int}:TI y scs k f w l best many (f+1)=(UN y k (f+1) w l).foldl (aEA scs) (best,many):=by
 have:vF y k f w l (f+1)=[]:=by
  unfold vF;split
  ·rfl
  ·rw[List.filter_eq_nil_iff.2 fun b hb=>by have:=bOQ.1 hb;simp;omega];rfl
 unfold TI;rw[this,bNN]
theorem CQ{y:bA}{scs:List Sc}{k f w b:Nat}{l best:List (Int×Int)}{many:Int}(hb:f<b)(hbit:w.testBit f=false)(hs:(!w.testBit b&&lJ y f b)=true):
  TI y scs k f w l best many (b+1)=(UN y k (f+1) (w|||2^b) (l++[((f:Int),(b:Int))])).foldl (aEA scs) ((TI y scs k f w l best many b).1,(TI y scs k f w l best many b).2):=by
 have:vF y k f w l (b+1)=vF y k f w l b++UN y k (f+1) (w|||2^b) (l++[((f:Int),(b:Int))]):=by
  unfold vF;rw[bNA (by rw[hbit];simp),bNA (by rw[hbit];simp),bOG,bOE,bOC]
  simp[hb,hs]
 unfold TI;rw[this,←bND,bOR]
theorem aQZ{y:bA}{scs:List Sc}{k f w b:Nat}{l best:List (Int×Int)}{many:Int}(hs:(!w.testBit b&&lJ y f b)=false):TI y scs k f w l best many (b+1)=TI y scs k f w l best many b:=by
 have:vF y k f w l (b+1)=vF y k f w l b:=by
  unfold vF;split
  ·rfl
  ·rw[bOG,bOE,bOC];simp[hs]
 unfold TI;rw[this]
theorem aDM{y:bA}{scs:List Sc}{k f w b:Nat}{l best:List (Int×Int)}{many:Int}(_h1:f+1≤b)(h:(decide ((b:Int)<(y.chairs.length:Int))&&decide (((w >>> f:Nat):Int)%2=0))=false):(UN y (k+1) f w l).foldl (aEA scs) (best,many)=TI y scs k f w l best many b:=by
 have e:UN y (k+1) f w l=UN y k (f+1) w l++vF y k f w l y.chairs.length:=rfl;rw[e];unfold TI
 by_cases hb:w.testBit f=true
 ·have key:∀b,vF y k f w l b=[]:=fun b=>by unfold vF;rw[bNK hb]
  rw[key,key]
 ·have h':¬(b:Int)<(y.chairs.length:Int):=by
   intro h2;rw[mN,bNA hb]at h;simp at h;omega
  have key:∀j,vF y k f w l (y.chairs.length+j)=vF y k f w l y.chairs.length:=by
   intro j;induction j with
   |zero=>rfl
   |succ j ih=>
    rw[←ih];unfold vF;rw[bNA hb,bNA hb,←Nat.add_assoc,bOG,bOE,bOC];have:lJ y f (y.chairs.length+j)=false:=by
     unfold lJ;rw[bPU (show y.chairs.length≤y.chairs.length+j by omega)];cases y.chairs[f]? <;>rfl
    simp[this]
  have:=key (b-y.chairs.length);rw[show y.chairs.length+(b-y.chairs.length)=b by omega]at this;rw[this]
theorem bFU{b n w f:Nat}(h:(decide ((b:Int)<(n:Int))&&decide (((w >>> f:Nat):Int)%2=0))=true):b<n∧w.testBit f=false:=by
 rw[bMS,GT,GT,mN]at h;refine⟨Yd,?_⟩;cases e:w.testBit f with
 |false=>rfl
 |true=>rw[bNK e]at h;omega
theorem aFC{y:bA}{w f b:Nat}{x z:Ch}{r:Bool}(hx:y.chairs[f]?= some x)(hz:y.chairs[b]?= some z)(h:(decide (((w >>> b:Nat):Int)%2=0)&&U6 y.fit x z)=r):(!w.testBit b&&lJ y f b)=r:=by
 rw[←h,mN];unfold lJ;rw[hx,hz]
 cases w.testBit b<;>simp
theorem JO{l:List (Int×Int)}{a b:Nat}(h:aLO l)(ha:a<7)(hb:b<7):aLO (l++[((a:Int),(b:Int))]):=fun p hp=>by
 rcases bNH.1 hp with hp|hp
 ·exact h p hp
 ·simp only[bNL]at hp;exact⟨a,b,hp,ha,hb⟩
theorem zF(sv:Γ)(xs:List Int)(D:aC)(hS:Sl D RI 1 sv xs)(hl:xs.length≤10000000):IU prog 142 #[sv] D (fun _ v ν=>bI 3 1 v xs.length (ints xs) ν):=by
 obtain⟨a0,c0,rfl⟩:=hS.shape;refine qR 8 func142 rfl rfl rfl rfl fun h0=>aA<|Zf rfl<|bC<|Za rfl<|qD rfl U25 rfl rfl rfl bSM<|aF<|Zaf rfl (fun hc1=>?_) fun hc1=>?_
 ·obtain rfl:a0=none:=Xaa
  obtain rfl:=tQ hS;refine Wci ?_;exact aE rfl fun D' hD=>bI.nil
 ·refine aQ<|aA<|Zt rfl U25 aH cE rfl .nil fun U V I O=>Za rfl<|aS (A:=[]) (ν:=[]) (B:=[]) rfl U25 rfl rfl aH cE rfl kD rfl rfl rfl bI.nil (jY.ints hS) Yf Yf rfl (dP _) Yd (bNI rfl) rfl bSM fun v1 ν1 R=>We ?_;exact aE rfl fun D' hD=>by show bI 3 1 v1 _ _ _;simpa [WH]using R
theorem u9(sv:Γ)(xs:List (Int×Int))(D:aC)(hS:Sl D R2 2 sv xs)(hl:xs.length≤10000000):IU prog 146 #[sv] D (fun _ v ν=>bI 273 2 v xs.length (WH xs) ν):=by
 obtain⟨a0,c0,rfl⟩:=hS.shape;refine qR 8 func146 rfl rfl rfl rfl fun h0=>aA<|Zf rfl<|bC<|Za rfl<|qD rfl U151 rfl rfl rfl bSM<|aF<|Zaf rfl (fun hc1=>?_) fun hc1=>?_
 ·obtain rfl:a0=none:=Xaa
  obtain rfl:=tQ hS;refine Wci ?_;exact aE rfl fun D' hD=>bI.nil
 ·refine aQ<|aA<|Zt rfl U151 tN wW rfl .nil fun U V I O=>Za rfl<|aS (A:=[]) (ν:=[]) (B:=[]) rfl U151 rfl rfl tN wW rfl QR rfl rfl rfl bI.nil (jY.of (cells:=fun p:Int×Int=>[qI p.1,qI p.2]) (fun _ _ _ h=>h) (fun _=>rfl) hS) Yf (A2 xs) rfl (MD xs) Yd (bNI rfl) rfl bSM fun v1 ν1 R=>We ?_;exact aE rfl fun D' hD=>by show bI 273 2 v1 _ _ _;simpa [WH]using R
theorem bBP(sv lv:Γ)(scs:List Sc)(l:List (Int×Int))(n:Nat)(D:aC)(hS:Sl D WV 9 sv scs)(hl:Sl D R2 2 lv l)(hne:scs≠[])(hsc:∀s∈scs,VW n s)(hp:aLO l)(Z:l.length≤1000):Fn prog 145 #[sv,lv] D (fun _ v=>v=qI (FN scs l)):=by
 have hsl:=hS.len;obtain⟨s0,R⟩:∃s,scs[0]?= some s:=⟨scs[0]'(bQE.2 hne),bMU _⟩
 have O:=hsc s0 (n5 R);refine Zw 27 func145 rfl fun h0=>aA<|Zf rfl<|aJ<|Za rfl<|Zx rfl U170 iD rfl hS rfl R fun b1 o1 hB hE hR hF=>?_;obtain rfl:hB=ints (X4 _):=hE;refine Zv rfl uK rfl hF (by rw[aP,uG _ O.len];exact iD)<|Za rfl<|Zd rfl (fun D1 hH=>TM s0 _ l O.row O.whole hp Z _ (hl.up R2.up (hH _ Yf)) O.len)<|Zf rfl<|bC<|Za rfl<|Zai rfl U170 rfl hS rfl<|Za rfl<|aF<|Za1<|bM (γ:=Nat) (fun k=>scs.length-k) (fun k=>k≤scs.length) (fun k=>[(15,qI (k:Int)),(5,qI (((scs.take k).map fun s=>(mB s l:Int)).foldl min (mB s0 l:Int)))]) [(14,_),(13,_),(4,_),(1,_)] (fun k=>[D]) 0 Yd ⟨Ya,Ya,bSM⟩ cF (aK) ?_
 rintro k h1;refine aA<|Zan rfl<|bO<|Zae rfl (fun hc1=>?_) fun hc1=>?_
 ·have hk:k<scs.length:=Yd
  obtain⟨s1,U⟩:∃s,scs[k]?= some s:=⟨_,bMU hk⟩
  have I:=hsc s1 (n5 U);refine aQ<|Za3<|Za1<|aA<|Zx rfl U170 iD rfl hS rfl U fun b2 o2 hI hJ hX hK=>?_;obtain rfl:hI=ints (X4 _):=hJ;refine Zv rfl uK rfl hK (by rw[aP,uG _ I.len];exact iD)<|Zah rfl wQ rfl fun q1=>eF rfl rfl rfl rfl iD (by rw[aP,uG _ I.len]) Ybb .head (dP _) bSM<|aF<|aO<|Za rfl<|bL (vs:=ints (X4 s1)) rfl uK rfl Mm0 (by rw[show(ints (X4 s1)).length=9 by rw[aP,uG _ I.len]];exact iD) n4 rfl bSM<|Za rfl<|Zd rfl (fun D2 hN=>TM s1 _ l I.row I.whole hp Z _ (hl.up R2.up (hN _ Yf)) I.len)<|Zt rfl U25 aH cE rfl (.cons rfl rfl (.cons rfl rfl .nil)) fun hY rA hO V=>?_
  have Y:=Sl.ofInts (l:=[_,_]) (n:=2) (cap:=2) V rfl Yd Yd;refine Zd rfl (fun D3 hP=>nD _ _ [_] _ (Y.up RI.up (hP _ Yf)))<|Wan ?_;exact aL 15 (k+1) Yd Yd ⟨Ya,(by rw[aJL U];rfl),bSM⟩ rfl rfl (List.Sublist.cons _ Mm5) fun D h=>⟨D,bNM _ (h),Le.refl D⟩
 ·obtain rfl:k=scs.length:=Yd
  rw[bNR];refine Wm ?_;exact aE rfl fun D hD=>by show Value.int _ _=_;rw[aRO R]
theorem bIL{y:bA}{scs:List Sc}{cv qv sv:Γ}{bY bV bF bm bp:Nat}(hyo:bFB y)(hne:scs≠[])(hsc:∀s∈scs,VW y.chairs.length s):
  ∀(kk f:Nat),f+kk=y.chairs.length→∀(w:Nat) (l:List (Int×Int)) (lv:Γ) (best:List (Int×Int)) (many:Int) (pv:Γ) (D:aC),w<128→aLO l→l.length≤f→Sl D R2 2 lv l→Sl D R2 2 pv best→Sl D A3 4 cv y.chairs→Sl D R2 2 qv y.claims→At D bY 0 [cv,qI y.fit,qv]→At D bV 0 [sv]→Sl D WV 9 sv scs→At D bF 0 [.func (.func 144) #[] #[qP bY,qP bV,qP bm,qP bp,qP bF]]→
  IF prog 144 [lv,qI (f:Int),qI (w:Int),qP bY,qP bV,qP bm,qP bp,qP bF] D [(bm,qC [qI many] 3),(bp,qC [pv] 151)] (fun D' _ ν'=>∃pv',ν'=[(bm,qC [qI ((UN y kk f w l).foldl (aEA scs) (best,many)).2] 3),(bp,qC [pv'] 151)]∧Sl D' R2 2 pv' ((UN y kk f w l).foldl (aEA scs) (best,many)).1):=by
 intro kk;induction kk using Nat.strongRecOn with
 |_ kk ih=>
 intro f hf w l lv best many pv D hw hp hlf hl hb hc hq hY hV hS hF;have hn7:=hyo.len;have hcl:=hc.len;refine jH 75 func144 rfl rfl rfl rfl fun h0 hwl hwn=>bZ<|Za rfl<|Zj rfl iF rfl<|Zh 0 rfl pL rfl hY rfl<|Zai rfl U37 rfl hc rfl<|Zas rfl<|aF<|Zae rfl (fun hc1=>?_) fun hc1=>?_
 ·obtain rfl:kk=0:=Yd
  refine bZ<|Zh 0 rfl xB rfl hV rfl<|Za rfl<|Zd rfl (fun D1 hR=>bBP _ _ scs l y.chairs.length _ (hS.up WV.up (hR _ Yf)) (hl.up R2.up (hR _ Yf)) hne hsc hp Yd)<|Zf rfl<|aJ<|Za rfl<|Zp rfl aI rfl Mm0 rfl<|Zaq rfl<|aF<|Zae rfl (fun hc2=>?_) fun hc2=>?_
  ·refine aO<|Za rfl<|fX rfl rfl rfl (fun D7 Z=>u9 _ l _ (hl.up R2.up (Z _ Yf)) Yd) rfl bSM fun v6 D8 ν6 hX Y=>yM (A:=[]) (B:=[(_,_),(_,_)]) Y (fun k hk=>hk) fun rA hJ O=>?_;have hB:=O.prs rfl Yd;obtain⟨a6,c6,rfl⟩:=Y.shape;refine Za rfl<|Zr rfl DI (.tail .head) rfl<|Zr rfl aH ζ rfl<|aG<|Za0 ?_;exact R9 (A:=[]) (ν':=[_,_]) (B:=[]) (vs:=[]) rfl rfl rfl bSM rfl fun D' hD=>⟨.slice a6 l.length c6,by rw[Y1,aEE hc2];rfl,by rw[Y1,aEE hc2];exact hB.up R2.up (hD _ Yf)⟩
  ·refine aQ<|HQ<|Za0 ?_;exact R9 (A:=[]) (ν':=[_,_]) (B:=[]) (vs:=[]) rfl rfl rfl bSM rfl fun D' hD=>⟨pv,by rw[Y1,aQE hc2],by rw[Y1,aQE hc2];exact hb.up R2.up (hD _ Yf)⟩
 ·obtain⟨k,rfl⟩:∃k,kk=k+1:=⟨kk-1,Yd⟩
  refine aQ<|aA<|Zh 0 rfl NM rfl hF rfl<|Za rfl<|Za rfl<|Zad rfl<|Za rfl<|gF (A:=[]) (ν:=[(_,_),(_,_)]) (B:=[]) rfl rfl rfl rfl (bNI rfl) ON (fun D5 R=>ih k Yd (f+1) Yd w l lv best many pv D5 hw hp Yd (hl.up R2.up (R _ Yf)) (hb.up R2.up (R _ Yf)) (hc.up A3.up (R _ Yf)) (hq.up R2.up (R _ Yf)) (hY.up (R _ Yf)) (hV.up (R _ Yf)) (hS.up WV.up (R _ Yf)) (hF.up (R _ Yf))) rfl bSM fun v5 D6 _ hD6 hp5=>?_;obtain⟨pv1,rfl,rB⟩:=hp5;refine aJ<|Za rfl<|Zad rfl<|Zf rfl<|aF<|Za1<|gT (γ:=Nat×Γ×aC) (fun g=>y.chairs.length-g.1) (fun g=>f+1≤g.1∧Sl g.2.2 R2 2 g.2.1 (TI y scs k f w l best many g.1).1) (fun g=>[(12,qI (g.1:Int))]) [(0,_),(1,_),(2,_),(3,_),(7,_)] (fun g=>[(bm,qC [qI (TI y scs k f w l best many g.1).2] 3),(bp,qC [g.2.1] 151)]) (fun g=>[g.2.2,D]) (f+1,pv1,D6) ⟨Yf,by simp only;rw[KG];exact rB⟩ ⟨Ya,bSM⟩ cF ((by rw[KG];exact bSB _)) ((fun D0 h=>by simp only[LT,n4,bOZ]at h;rcases h with h|h;exact⟨D6,Yf,h▸Le.refl _⟩;exact⟨D,Yf,h▸Le.refl _⟩)) ?_
  rintro⟨b,hH,Dn⟩ ⟨h1,U⟩;simp only at h1 U;refine bZ<|Za rfl<|Zj rfl iF rfl<|Zh 0 rfl pL rfl hY rfl<|Zai rfl U37 rfl hc rfl<|Wcb ?_;refine' bX 6 (s:=40) (p:=46) rfl (fun hg1=>?_) (fun hg1=>?_) ?_;rotate_left
  ·refine Zb rfl<|Zb rfl<|W2 rfl rfl rfl Yd rfl ⟨_,rfl,rfl⟩<|sQ rfl rfl rfl (bRO _) Yd Ye rfl ⟨_,rfl,rfl⟩<|Wx ?_;exact aN 5
  ·refine Wo ?_;exact aN 5
  refine aF<|Zaf rfl (fun hc3=>?_) fun hc3=>?_
  ·obtain⟨hbn,hbit⟩:=bFU hc3;simp only at hbn;have hI:f<b:=Yd
   have hb7:b<7:=Yd
   have hpb:=CG hb7;obtain⟨x,hx⟩:=cT y.chairs f;obtain⟨z,hz⟩:=cT y.chairs b;refine aQ<|Za3<|Za1<|aA<|Za rfl<|Za rfl<|W2 rfl rfl rfl Yaj rfl bSM<|sQ rfl rfl rfl (bRO _) Yd Ye rfl bSM<|Waw ?_;refine' bX 5 (s:=54) (p:=59) rfl (fun hg2=>?_) (fun hg2=>?_) ?_;rotate_left
   ·refine cK rfl nA rfl hY Yc lN n4 rfl ⟨_,rfl,rfl⟩<|Zb rfl<|Zb rfl<|Ze rfl (fun D2 hD2=>DM _ y f b x z _ ⟨_,_,rfl,hc.up A3.up (hD2 _ Yf),hq.up R2.up (hD2 _ Yf)⟩ hyo.fit hx hz (hyo.size _ (n5 hx)) (hyo.size _ (n5 hz)))<|Zak rfl ?_;exact aN 4
   ·refine Zg rfl<|Wc ?_;exact aN 4
   refine aF<|Zaf rfl (fun hc4=>?_) fun hc4=>?_
   ·have hsel:(!w.testBit b&&lJ y f b)=true:=aFC hx hz hc4;refine oS (cZ.mk [bF]) 4 [false,true,true,true,true,true,true,true,true,true,true,true,true,true,false] [.fork [0,1,3,4,5,8,9,10,11,12,13] 2 (.fin [6]) 6 (.fin [2]),.fin [7,14]] bB (fun _ _ _ h=>jW (P:=prog) (fn:=f144) _ _ _ h) Yg<|tI<|bQ [(false,0),(true,1),(true,3),(true,4),(true,5),(true,8),(true,9),(true,10),(true,11),(true,12),(true,13)] rfl<|dU rfl (k:=0) NM rfl hF Yf rfl (cZ.out Yf) rfl bSM<|Za rfl<|Za rfl<|Za rfl<|Zu [qI (f:Int),qI (b:Int)] rfl bET wW rfl<|Za rfl<|Zad rfl<|Wbc ?_;refine GC rfl rfl rfl Yaj rfl bSM<|MS rfl rfl rfl Yaj Yaj rfl bSM<|Zao (dZ true true rfl rfl ?_ ?_)
    ·refine fX rfl rfl rfl (fun D7 Z=>u9 _ l _ (hl.up R2.up (Z _ Yf)) Yd) rfl bSM fun v6 D8 ν6 hX Y=>Zao<|aW [(true,6)] rfl<|Zt rfl U151 tN wW rfl (.cons rfl rfl .nil) fun b901 D901 hK V=>?_;have hAp:=V;refine Zao<|mS [(true,7),(false,14)] rfl<|kN hF Yf fun hap=>aS (A:=[]) (B:=[(_,_),(_,_)]) rfl U151 rfl rfl tN wW rfl QR rfl rfl rfl Y (jY.lit hAp) Yf rfl (A2 l) Yk Yd (bNC fun p hp=>cZ.in_ Yas) rfl bSM fun v7 ν7 hN=>?_;have ha7':bI 273 2 v7 (l.length+1) (WH (l++[((f:Int),(b:Int))])) ν7:=by rw[SO];simpa using hN
     refine yM (A:=[]) (B:=[(_,_),(_,_)]) ha7' (fun k hk=>hk) fun rA hJ O=>?_;have hB:=O.prs Yf Yd;refine gF (A:=[]) (ν:=[(_,_),(_,_)]) (B:=[]) rfl rfl rfl rfl (bNI rfl) ON (fun D9 I=>ih k Yd (f+1) Yd (w|||2^b) (l++[((f:Int),(b:Int))]) v7 (TI y scs k f w l best many b).1 (TI y scs k f w l best many b).2 hH D9 (aBL hw hpb) (JO hp Yd Yd) Yaq (hB.up R2.up (I _ Yf)) (U.up R2.up (I _ Yf)) (hc.up A3.up (I _ Yf)) (hq.up R2.up (I _ Yf)) (hY.up (I _ Yf)) (hV.up (I _ Yf)) (hS.up WV.up (I _ Yf)) (hF.up (I _ Yf))) rfl bSM fun v9 D10 _ hD10 hO=>?_;obtain⟨hP,rfl,hE⟩:=hO;refine Zao<|oL<|Wa ?_;exact aL 33 (b+1,hP,D10) ⟨Yn,by simp only;rw[CQ hI hbit hsel];exact hE⟩ Yn ⟨Ya,bSM⟩ rfl rfl ((by rw[CQ hI hbit hsel];exact bSB _)) Yz
    ·refine Zt rfl U151 tN wW rfl (.cons rfl rfl .nil) fun b901 D901 hK V=>?_;have hAp:=V;refine Zao<|aW [(true,2)] rfl<|fX rfl rfl rfl (fun D7 Z=>u9 _ l _ (hl.up R2.up (Z _ Yf)) Yd) rfl bSM fun v6 D8 ν6 hX Y=>Zao<|mS [(true,7),(false,14)] rfl<|kN hF Yf fun hap=>aS (A:=[]) (B:=[(_,_),(_,_)]) rfl U151 rfl rfl tN wW rfl QR rfl rfl rfl Y (jY.lit hAp) Yf rfl (A2 l) Yk Yd (bNC fun p hp=>cZ.in_ Yas) rfl bSM fun v7 ν7 hN=>?_;have ha7':bI 273 2 v7 (l.length+1) (WH (l++[((f:Int),(b:Int))])) ν7:=by rw[SO];simpa using hN
     refine yM (A:=[]) (B:=[(_,_),(_,_)]) ha7' (fun k hk=>hk) fun rA hJ O=>?_;have hB:=O.prs Yf Yd;refine gF (A:=[]) (ν:=[(_,_),(_,_)]) (B:=[]) rfl rfl rfl rfl (bNI rfl) ON (fun D9 I=>ih k Yd (f+1) Yd (w|||2^b) (l++[((f:Int),(b:Int))]) v7 (TI y scs k f w l best many b).1 (TI y scs k f w l best many b).2 hH D9 (aBL hw hpb) (JO hp Yd Yd) Yaq (hB.up R2.up (I _ Yf)) (U.up R2.up (I _ Yf)) (hc.up A3.up (I _ Yf)) (hq.up R2.up (I _ Yf)) (hY.up (I _ Yf)) (hV.up (I _ Yf)) (hS.up WV.up (I _ Yf)) (hF.up (I _ Yf))) rfl bSM fun v9 D10 _ hD10 hO=>?_;obtain⟨hP,rfl,hE⟩:=hO;refine Zao<|oL<|Wa ?_;exact aL 33 (b+1,hP,D10) ⟨Yn,by simp only;rw[CQ hI hbit hsel];exact hE⟩ Yn ⟨Ya,bSM⟩ rfl rfl ((by rw[CQ hI hbit hsel];exact bSB _)) Yz
   ·have hsel:(!w.testBit b&&lJ y f b)=false:=aFC hx hz hc4;refine Wch ?_;exact aL 18 (b+1,hH,Dn) ⟨Yn,by simp only;rw[aQZ hsel];exact U⟩ Yn ⟨Ya,bSM⟩ rfl rfl ((by rw[aQZ hsel];exact bSB _)) fun D0 h=>by simp only[LT,n4,bOZ]at h;rcases h with h|h;exact⟨Dn,Yf,h▸Le.refl _⟩;exact⟨D,Yf,h▸Le.refl _⟩
  ·simp only at hc3;refine Za6<|Za2<|Za2<|Za7 ?_;exact R9 (A:=[]) (ν':=[_,_]) (B:=[]) (vs:=[]) rfl rfl rfl bSM rfl fun D' hD=>⟨hH,by rw[aDM h1 hc3],by rw[aDM h1 hc3];exact U.up R2.up (hD _ Yf)⟩
end L7
namespace L3
open L1
open C3
def sT(ls:List eS)(out:List Int)(k:Nat):List eS:=(List.range k).filterMap fun i:Nat=>if out.any (fun x=>decide ((i:Int)=x))=true then none else ls[i]?
theorem DX(ls:List eS)(out:List Int)(k:Nat):(sT ls out k).length≤k:=by
 unfold sT;have:=List.length_filterMap_le (fun i:Nat=>if out.any (fun x=>decide ((i:Int)=x))=true then none else ls[i]?) (List.range k);rwa [bQW]at this
theorem aWK{ls:List eS}{out:List Int}{k:Nat}{x:eS}(hx:ls[k]?= some x)(h:(!out.any fun x=>decide ((k:Int)=x))=true):sT ls out (k+1)=sT ls out k++[x]:=by
 unfold sT;rw[bOG,List.filterMap_append];have h':(out.any fun x=>decide ((k:Int)=x))=false:=Yaw
 simp only[List.filterMap_cons,List.filterMap_nil,h',bOS,bPL,hx]
theorem bBO{ls:List eS}{out:List Int}{k:Nat}(h:(!out.any fun x=>decide ((k:Int)=x))=false):sT ls out (k+1)=sT ls out k:=by
 unfold sT;rw[bOG,List.filterMap_append];have h':(out.any fun x=>decide ((k:Int)=x))=true:=Yaw
 simp only[List.filterMap_cons,List.filterMap_nil,h',bPG,bNN]
def aRN(out:List Int)(c:Cn):Cn:={c with after:=c.after-((out.filter fun i=>decide (i<c.after)).length:Int)}
def d5(b:bH)(out:List Int):bH:={b with lines:=sT b.lines out b.lines.length,counts:=b.counts.map (aRN out)}
theorem aPW{out:List Int}{c:Cn}{i:Nat}{y:Int}(hy:out[i]?= some y)(h:y<c.after):(((out.take (i+1)).filter fun i=>decide (i<c.after)).length:Int)=((out.take i).filter fun i=>decide (i<c.after)).length+1:=by
 rw[bMZ,hy,bNU,bOE,LE,bPP,bNK Yaw];simp
theorem bAG{out:List Int}{c:Cn}{i:Nat}{y:Int}(hy:out[i]?= some y)(h:¬y<c.after):((out.take (i+1)).filter fun i=>decide (i<c.after)).length=((out.take i).filter fun i=>decide (i<c.after)).length:=by
 rw[bMZ,hy,bNU,bOE,LE,bPP,bNA Yaw];simp
theorem XK(bv ov:Γ)(b:bH)(out:List Int)(D:aC)(hb:iM D bv b)(ho:Sl D RI 1 ov out)(hol:out.length≤100)(hl8:b.lines.length≤100)(hc4:b.counts.length≤100)(hca:∀c∈b.counts,0≤c.after∧c.after≤100):Fn prog 140 #[bv,ov] D (fun D' v=>iM D' v (d5 b out)):=by
 obtain⟨lv,cv,rfl,hl,hc⟩:=hb;have hll:=hl.len;have hcl:=hc.len;refine Zw 69 func140 rfl fun h0=>aA<|Zz rfl fun q1 E1 hE1 O=>Zah rfl aOR rfl fun q2=>aJ<|Zv rfl gU rfl O fI<|Zah rfl aOR rfl fun q3=>Zac rfl fI ζ (GQ hl.cell1 hc.cell1)<|aJ<|Zj rfl dM rfl<|Zr rfl eR ζ rfl<|Zj rfl vA rfl ?_;refine Zr rfl aBH ζ rfl<|bC<|Zj rfl dM rfl<|Zh 3 rfl iB rfl O rfl<|Zai rfl U33 rfl hl rfl<|Za rfl<|aF<|Za1<|Zc (Nat×Γ×aD) (fun g=>b.lines.length-g.1) (fun g=>g.1≤b.lines.length∧bI 206 3 g.2.1 (sT b.lines out g.1).length (A9 (sT b.lines out g.1)) g.2.2) (fun g=>[(19,qI (g.1:Int))]) [(18,_),(17,_),(5,_),(4,_),(2,_),(1,_)] (fun g=>g.2.2++[(q3,qC [qI b.chairs,qI b.coin,qI b.box,g.2.1,qN] 36),(q2,qC [qI 0,qI 0,qI 0,qN,qN] 36)]) (fun g=>[E1,D]) (0,qN,[]) ⟨Yf,by simpa [sT,A9]using bI.nil⟩ ⟨Ya,bSM⟩ Mm5 ?_;rintro⟨k,v,ν⟩ ⟨h1,ha⟩;simp only at h1 ha;refine aA<|Zan rfl<|bO<|Zae rfl (fun hc1=>?_) fun hc1=>?_
 ·have hk:k<b.lines.length:=by simp only at hc1;omega
  obtain⟨x,hx⟩:=cT b.lines k;have hkl:=DX b.lines out k;refine aQ<|Za3<|Za1<|aA<|Za rfl<|Zx rfl U33 cG rfl hl rfl hx fun b1 o1 hB hE hY hF=>?_;obtain rfl:hB=[qI _,qI _,qI _]:=hE;refine Zv rfl nN rfl hF cG<|Zah rfl kO rfl fun q4=>Zf rfl<|Zab rfl cG ζ<|aJ<|Za rfl<|Za rfl<|Zd rfl (fun D1 hH=>L7.N3 _ out (k:Int) _ (ho.up RI.up (hH _ Yf)))<|Zat rfl<|aF<|Zaf rfl (fun hc2=>?_) fun hc2=>?_
  ·have hc2:=hc2;refine aO<|Zj rfl dM rfl<|Zp rfl iB rfl (List.Mem.tail _ (GE _ Mm0)) rfl<|Zag rfl nN rfl Mm0 cG<|Zt rfl U33 cG kO rfl (.cons rfl rfl .nil) fun rA rB hI R=>aS (A:=[(_,_)]) (B:=[(_,_),(_,_)]) rfl U33 rfl rfl cG kO rfl c8 rfl rfl rfl ha (jY.lit R) Yf rfl (GP _) Yk Yd (bNI rfl) rfl bSM fun v1 ν1 U=>?_;have ha2x:bI 206 3 v1 (sT b.lines out (k+1)).length (A9 (sT b.lines out (k+1))) ν1:=by rw[aWK hx hc2,LE];unfold A9;rw[bOC];exact U
   refine Zj rfl dM rfl<|aV (((q4,_)::ν1)++(q3,_)::[(q2,_)]) rfl<|cR rfl rfl rfl U.cells1 eR (.app .head) Yf rfl U.cell1 bSM<|Zao<|Wb ?_;exact aL 19 (k+1,v1,ν1) ⟨Yn,ha2x⟩ Yn ⟨Ya,bSM⟩ rfl rfl (List.Sublist.cons _ Mm5) fun D h=>⟨D,bNM _ (h),Le.refl D⟩
  ·refine Wbs ?_;exact aL 13 (k+1,v,ν) ⟨Yn,by simp only;rw[bBO hc2];exact ha⟩ Yn ⟨Ya,bSM⟩ rfl rfl (List.Sublist.cons _ Mm5) (aK)
 ·obtain rfl:k=b.lines.length:=by simp only at hc1;omega
  have hkl:=DX b.lines out b.lines.length;refine Za6<|Za2<|Za2<|Za7<|Zaz<|Za3<|Za3<|sN (A:=[]) (B:=[(_,_),(_,_)]) ha rfl fun D8 hD8 hJ=>?_;have hl8v:=hJ.lins Yf Yd;refine aO<|Zj rfl vA rfl<|Zh 4 rfl FO rfl O rfl<|Zai rfl U34 rfl hc rfl<|Za rfl<|aF<|Za1<|Zc (Nat×Γ×aD) (fun g=>b.counts.length-g.1) (fun g=>g.1≤b.counts.length∧bI 208 3 g.2.1 g.1 (aWW ((b.counts.take g.1).map (aRN out))) g.2.2) (fun g=>[(38,qI (g.1:Int))]) [(37,_),(36,_),(5,_),(4,_),(1,_)] (fun g=>g.2.2++[(q3,qC [qI b.chairs,qI b.coin,qI b.box,v,g.2.1] 36),(q2,qC [qI 0,qI 0,qI 0,qN,qN] 36)]) (fun g=>[D8,E1,D]) (0,qN,[]) ⟨Yf,by simpa [aWW]using bI.nil⟩ ⟨Ya,bSM⟩ Mm5 ?_;rintro⟨j,u,ω⟩ ⟨h2,I⟩;simp only at h2 I;refine aA<|Zan rfl<|bO<|Zae rfl (fun hc3=>?_) fun hc3=>?_
  ·have hj:j<b.counts.length:=by simp only at hc3;omega
   obtain⟨c,hx⟩:∃x,b.counts[j]?= some x:=⟨_,bMU hj⟩
   have hcb:=hca c (n5 hx);refine aQ<|Za3<|Za1<|aA<|Zx rfl U34 xC rfl hc rfl hx fun b2 o2 hK hN hcl2 hO=>?_;obtain rfl:hK=[qI _,qI _,qI _]:=hN;refine Zv rfl RG rfl hO xC<|Zah rfl CH rfl fun q5=>Zab rfl xC ζ<|aJ<|Zf rfl<|bC<|Za rfl<|Zai rfl U25 rfl ho rfl<|Za rfl<|aF<|Za1<|bM (γ:=Nat) (fun i=>out.length-i) (fun i=>i≤out.length) (fun i=>[(44,qI (i:Int)),(10,qI (((out.take i).filter fun i=>decide (i<c.after)).length:Int))]) [(43,_),(42,_),(9,_),(41,_),(40,_),(39,_),(38,_),(37,_),(36,_),(5,_),(4,_),(1,_)] (fun i=>[D8,E1,D]) 0 Yd ⟨Ya,Ya,bSM⟩ cF (aK) ?_;rintro i h3;refine aA<|Zan rfl<|bO<|Zae rfl (fun hc4=>?_) fun hc4=>?_
   ·have hi:i<out.length:=Yd
    obtain⟨y,hy⟩:=cT out i;have hgl:=bOJ (fun i=>decide (i<c.after)) (out.take i);have hgt:(out.take i).length≤i:=bPW _ _;refine aQ<|Za3<|Za1<|aA<|iW rfl ho rfl hy fun b3 o3=>Zf rfl<|aJ<|Za rfl<|Zj rfl Q0 rfl<|Zp rfl aI rfl Mm0 rfl<|Zan rfl<|aF ?_;refine Zae rfl (fun V=>?_) fun V=>?_
    ·refine aO<|Za rfl<|Zad rfl<|Wan ?_;exact Zn 15 (i+1) ⟨Ya,(by rw[aPW hy V];rfl),bSM⟩ rfl Mm5
    ·refine Wbs ?_;exact Zn 12 (i+1) ⟨Ya,(by rw[bAG hy V];rfl),bSM⟩ rfl Mm5
   ·obtain rfl:i=out.length:=Yd
    rw[bNR];have hgl:=bOJ (fun i=>decide (i<c.after)) out;refine Za6<|Za2<|Za2<|Za7<|Zaz<|aO<|Zj rfl vA rfl<|Zp rfl FO rfl (List.Mem.tail _ (GE _ Mm0)) rfl<|Zj rfl Q0 rfl<|Zp rfl aI rfl Mm0 rfl<|Za rfl<|Zav rfl ?_;refine Zj rfl y2 rfl<|eN rfl pH eQ rfl Mm0 rfl rfl n4 rfl bSM<|Zu [qI (c.after-((out.filter fun i=>decide (i<c.after)).length:Int)),qI c.lo,qI c.hi] rfl bEK CH rfl<|Zt rfl U34 xC CH rfl (.cons rfl rfl .nil) fun b902 D902 hP Y=>aS (A:=[(_,_)]) (B:=[(_,_),(_,_)]) rfl U34 rfl rfl xC CH rfl bCI rfl rfl rfl I (jY.lit Y) Yf rfl (by rw[bAH];simp;omega) Yk Yd (bNI rfl) rfl bSM fun v2 ν2 Z=>?_
    have hR:bI 208 3 v2 (j+1) (aWW ((b.counts.take (j+1)).map (aRN out))) ν2:=by rw[bMZ,hx,bNU,bNG];unfold aWW;rw[bOC];exact Z
    refine Zj rfl vA rfl<|aV (((q5,_)::ν2)++(q3,_)::[(q2,_)]) rfl<|cR rfl rfl rfl Z.cells1 aBH (.app .head) Yf rfl Z.cell1 bSM<|Zao<|Wb ?_;exact aL 24 (j+1,v2,ν2) ⟨Yn,hR⟩ Yn ⟨Ya,bSM⟩ rfl rfl (List.Sublist.cons _ Mm5) fun D h=>⟨D,bNM _ (h),Le.refl D⟩
  ·obtain rfl:j=b.counts.length:=by simp only at hc3;omega
   rw[bNR]at I;refine Za6<|Za2<|Za2<|Za7<|Zaz<|aA<|Zag rfl gU rfl (GE _ Mm0) fI<|Zac rfl fI (.app (.tail ζ)) (GQ ha.cell1 I.cell1)<|aG<|dS (A:=[]) (B:=[(_,_),(_,_)]) I rfl fun D9 hS hX=>?_;have hc9v:=hX.cns Yf Yd;exact Zo [_] rfl ⟨⟨_,_,_,rfl,bNM _ Mm0,bNC ⟨gU,fI,rfl⟩⟩,bSM⟩ fun D hD=>⟨v,u,rfl,(hl8v.up tZ.up ((hS _ Yf).trans (hD _ Yf))),hc9v.up vK.up (hD _ Yf)⟩
def Y9(f:Nat→List Int→Bool×List Int):List Nat→List Int→Bool×List Int
 | [],fnd=>(false,fnd)
 |i::is,fnd=>if(f i fnd).1=true then(true,(f i fnd).2)else Y9 f is (f i fnd).2
theorem I6{f:Nat→List Int→Bool×List Int}{n i:Nat}{fnd:List Int}(hge:i<n)(h:(f i fnd).1=true):Y9 f (List.range' i (n-i)) fnd=(true,(f i fnd).2):=by
 rw[show n-i=(n-i-1)+1 by omega,List.range'_succ,Y9,bNK h]
theorem QV{f:Nat→List Int→Bool×List Int}{n i:Nat}{fnd:List Int}(hge:i<n)(h:(f i fnd).1=false):Y9 f (List.range' i (n-i)) fnd=Y9 f (List.range' (i+1) (n-(i+1))) (f i fnd).2:=by
 conv=>lhs;rw[show n-i=(n-(i+1))+1 by omega,List.range'_succ,Y9,bNA Xaj]
theorem HI{f:Nat→List Int→Bool×List Int}{n i:Nat}{fnd:List Int}(hge:¬i<n):Y9 f (List.range' i (n-i)) fnd=(false,fnd):=by
 rw[show n-i=0 by omega];rfl
theorem aUV{b t:Nat}{cs:List Γ}:∀p∈[(b,Obj.cells cs.toArray t (0,0))],cU p.2:=by
 intro p hp;simp only[bNL]at hp;subst hp;rfl
theorem aSN{ls:List eS}{out:List Int}{k:Nat}{l:eS}(h:l∈sT ls out k):l∈ls:=by
 unfold sT at h;obtain⟨i,_,hi⟩:=List.mem_filterMap.1 h;split at hi
 ·cases hi
 ·exact n5 hi
theorem UY{b:bH}(h:aMP b)(out:List Int):aMP (d5 b out):=
 ⟨h.ch,h.co,h.bx,by have:=DX b.lines out b.lines.length;have:=h.l8;show(sT b.lines out b.lines.length).length≤8;omega,by have:=h.c4;show(b.counts.map _).length≤4;rwa [bOB],fun l hl=>h.ln l (aSN hl)⟩
theorem aKU{b:bH}(h:aZ b=0):∀c∈b.counts,0≤c.after∧c.after≤100:=by
 have hl:=(bLD h).l8;unfold aZ at h;split at h
 ·omega
 ·split at h
  ·omega
  ·rename_i h2;have h3:tB b=true:=Xai
   unfold tB at h3;simp only[bMS,C1.bS,bNQ]at h3;intro c hc;have h4:=h3.2 c hc;unfold sU at h4;simp only[bMS,C1.bS]at h4;omega
def aWS(b:bH):Nat→Nat→List Int→List Int→Bool×List Int
 |0,_,out,_=>(decide (truths (d5 b out)≠[]),out)
 |m+1,f,out,fnd=>Y9 (fun i fnd=>aWS b m (i+1) (out++[(i:Int)]) fnd) (List.range' f (b.lines.length-m-f)) fnd
def bLT(b:bH):Bool×List Int:=Y9 (fun m fnd=>aWS b m 0 [] fnd) (List.range' 0 (b.lines.length+1-0)) []
def fJ(b:bH):List Int×Int:=if aZ b≠0 then([],aZ b)else if(bLT b).1=true then((bLT b).2,0)else([],10)
theorem YS{b:bH}{D:aC}(h:aZ b≠0):∃lv,Value.tuple #[qN,qI (aZ b)]=.tuple #[lv,qI (fJ b).2]∧Sl D RI 1 lv (fJ b).1:=by
 rw[fJ,bNK h];exact⟨_,rfl,Sl.nil⟩
theorem aGZ{b:bH}{D:aC}{lv:Γ}{l:List Int}(h:aZ b=0)(hl:Y9 (fun m fnd=>aWS b m 0 [] fnd) (List.range' 0 (b.lines.length+1-0)) []=(true,l))(hS:Sl D RI 1 lv l):∃lv',Value.tuple #[lv,qI 0]=.tuple #[lv',qI (fJ b).2]∧Sl D RI 1 lv' (fJ b).1:=by
 have e:bLT b=(true,l):=hl;rw[fJ,bNA Yd,e];exact⟨_,rfl,hS⟩
theorem aKN{b:bH}{D:aC}{l:List Int}(h:aZ b=0)(hl:Y9 (fun m fnd=>aWS b m 0 [] fnd) (List.range' 0 (b.lines.length+1-0)) []=(false,l)):∃lv',Value.tuple #[qN,qI 10]=.tuple #[lv',qI (fJ b).2]∧Sl D RI 1 lv' (fJ b).1:=by
 have e:bLT b=(false,l):=hl;rw[fJ,bNA Yd,e];exact⟨_,rfl,Sl.nil⟩
theorem bIU{b:bH}{lv cv:Γ}{bf bY bF:Nat}(hbo:aMP b)(hca:∀c∈b.counts,0≤c.after∧c.after≤100):
  ∀(mm f:Nat) (out:List Int) (ov:Γ) (fnd:List Int) (fv:Γ) (D:aC),out.length+mm≤10→Sl D RI 1 ov out→Sl D RI 1 fv fnd→iM D (.agg #[qI b.chairs,qI b.coin,qI b.box,lv,cv]) b→At D bY 0 [qI b.chairs,qI b.coin,qI b.box,lv,cv]→At D bF 0 [.func (.func 139) #[] #[qP bf,qP bY,qP bF]]→
  IF prog 139 [ov,qI (f:Int),qI (mm:Int),qP bf,qP bY,qP bF] D [(bf,qC [fv] 25)] (fun D' v ν'=>v=.bool (aWS b mm f out fnd).1∧∃fv',ν'=[(bf,qC [fv'] 25)]∧Sl D' RI 1 fv' (aWS b mm f out fnd).2):=by
 intro mm;induction mm using Nat.strongRecOn with
 |_ mm ih=>
 intro f out ov fnd fv D hlen ho hfd hb hY hF;have hl8:=hbo.l8;have hc4:=hbo.c4;obtain⟨lv0,cv0,he,hl,hc⟩:=id hb;cases he;refine jH 39 func139 rfl rfl rfl rfl fun h0 hwl hwn=>aA<|Zf rfl<|bC<|Za rfl<|Zas rfl<|aF<|Zae rfl (fun hc1=>?_) fun hc1=>?_
 ·obtain rfl:mm=0:=Yd
  refine aA<|Za rfl<|cR rfl rfl rfl ho.cells1 fR .head Yf rfl ho.cell1 bSM<|aJ<|Zv rfl gU rfl hY fI<|Za rfl<|Zy rfl (fun D1 hB=>XK _ _ b out _ (hb.up (hB _ Yf)) (ho.up RI.up (hB _ Yf)) Yd Yd Yd hca) fun v1 D1 hB rA=>Zd rfl (fun D2 rB=>AY _ (d5 b out) _ (rA.up (rB _ Yf)) (UY hbo out))<|Wg ?_;exact Zaj [] [] [_] [_] rfl ⟨rfl,bSM⟩ rfl fun D' hD=>⟨rfl,ov,rfl,ho.up RI.up (hD _ Yf)⟩
 ·obtain⟨m,rfl⟩:∃k,mm=k+1:=⟨mm-1,Yd⟩
  refine aQ<|bZ<|Za rfl<|Zf rfl<|aF<|Za1<|gT (γ:=Nat×List Int×Γ×aC) (fun g=>b.lines.length+1-g.1) (fun g=>f≤g.1∧aWS b (m+1) f out fnd=Y9 (fun i fnd=>aWS b m (i+1) (out++[(i:Int)]) fnd) (List.range' g.1 (b.lines.length-m-g.1)) g.2.1∧Sl g.2.2.2 RI 1 g.2.2.1 g.2.1) (fun g=>[(10,qI (g.1:Int))]) [(9,_),(0,_),(2,_),(4,_),(5,_)] (fun g=>[(bf,qC [g.2.2.1] 25)]) (fun g=>[g.2.2.2,D]) (f,fnd,fv,D) ⟨Yf,rfl,hfd⟩ ⟨Ya,bSM⟩ cF Mm5 ((fun D0 h=>by simp only[LT,n4,bOZ,or_self]at h;exact⟨D,Yf,h▸Le.refl _⟩)) ?_;rintro⟨i,Z,hE,Dn⟩ ⟨h1,hin,Y⟩;simp only at h1 hin Y;refine bZ<|Za rfl<|Zj rfl dM rfl<|Zh 3 rfl iB rfl hY rfl<|Zai rfl U33 rfl hl rfl<|Za rfl<|Zav rfl<|gJ rfl rfl rfl rfl bSM<|aF<|Zae rfl (fun hc2=>?_) fun hc2=>?_
  ·simp only at hc2;have hge:i<b.lines.length-m:=Yd
   refine aQ<|Za3<|Za1<|Za3<|oS (cZ.mk [bF]) 3 [false,true,true,true,true,true,true,true,true,true,false] [.fork [0,1,3,6,7,8,9] 2 (.fin [4]) 4 (.fin [2]),.fin [5,10]] bB (fun _ _ _ h=>jW (P:=prog) (fn:=f139) _ _ _ h) Yg<|tI<|bQ [(false,0),(true,1),(true,3),(true,6),(true,7),(true,8),(true,9)] rfl<|dU rfl (k:=0) aFM rfl hF Yf rfl (cZ.out Yf) rfl bSM<|Za rfl<|Za rfl<|Za rfl<|Zad rfl ?_;refine Za rfl<|Zav rfl ?_;rw[show(((m+1:Nat):Int)-1)=(m:Int) by omega];refine Zao (dZ true true rfl rfl ?_ ?_)
   ·refine fX rfl rfl rfl (fun D7 hH=>L7.zF _ out _ (ho.up RI.up (hH _ Yf)) Yd) rfl bSM fun v6 D8 ν6 hD8 hI=>Zao<|aW [(true,4)] rfl<|Zt rfl U25 aH cE rfl (.cons rfl rfl .nil) fun hP hR hJ O=>?_;have hAp:=O;refine Zao<|mS [(true,5),(false,10)] rfl<|kN hF Yf fun hap=>aS (A:=[]) (B:=[(_,_)]) rfl U25 rfl rfl aH cE rfl kD rfl rfl rfl hI (jY.lit hAp) Yf rfl Yf Yk Yd (bNC fun p hp=>cZ.in_ Yas) rfl bSM fun v7 ν7 hK=>?_;have ha7':bI 3 1 v7 (out.length+1) (ints (out++[(i:Int)])) ν7:=by simpa [ints]using hK
    refine yM (A:=[]) (B:=[(_,_)]) ha7' (fun k hk=>hk) fun D20 hS R=>?_;have hN:=R.ints Yf Yd;refine gF (A:=[]) (ν:=[(_,_)]) (B:=[]) rfl rfl rfl rfl (bNI rfl) aUV (fun D9 I=>ih m Yd (i+1) (out++[(i:Int)]) v7 Z hE _ Yaq (hN.up RI.up (I _ Yf)) (Y.up RI.up (I _ Yf)) (hb.up (I _ Yf)) (hY.up (I _ Yf)) (hF.up (I _ Yf))) rfl bSM fun v9 D10 _ hX hO=>?_;obtain⟨rfl,U,rfl,V⟩:=hO;refine Zao<|oL<|Zaz<|Zaf rfl (fun hc3=>?_) fun hc3=>?_
    ·refine aA<|Wi ?_;exact Zaj [] [] [_] [_] rfl ⟨rfl,bSM⟩ rfl fun D' hD=>⟨by rw[hin,I6 hge hc3];rfl,U,rfl,by rw[hin,I6 hge hc3];exact V.up RI.up (hD _ Yf)⟩
    ·refine Wch ?_;exact aL 22 (i+1,_,U,D10) ⟨Yn,by simp only;rw[hin,QV hge hc3],V⟩ Yn ⟨Ya,bSM⟩ rfl rfl Mm5 Yz
   ·refine Zt rfl U25 aH cE rfl (.cons rfl rfl .nil) fun hP hR hJ O=>?_;have hAp:=O;refine Zao<|aW [(true,2)] rfl<|fX rfl rfl rfl (fun D7 hH=>L7.zF _ out _ (ho.up RI.up (hH _ Yf)) Yd) rfl bSM fun v6 D8 ν6 hD8 hI=>Zao<|mS [(true,5),(false,10)] rfl<|kN hF Yf fun hap=>aS (A:=[]) (B:=[(_,_)]) rfl U25 rfl rfl aH cE rfl kD rfl rfl rfl hI (jY.lit hAp) Yf rfl Yf Yk Yd (bNC fun p hp=>cZ.in_ Yas) rfl bSM fun v7 ν7 hK=>?_;have ha7':bI 3 1 v7 (out.length+1) (ints (out++[(i:Int)])) ν7:=by simpa [ints]using hK
    refine yM (A:=[]) (B:=[(_,_)]) ha7' (fun k hk=>hk) fun D20 hS R=>?_;have hN:=R.ints Yf Yd;refine gF (A:=[]) (ν:=[(_,_)]) (B:=[]) rfl rfl rfl rfl (bNI rfl) aUV (fun D9 I=>ih m Yd (i+1) (out++[(i:Int)]) v7 Z hE _ Yaq (hN.up RI.up (I _ Yf)) (Y.up RI.up (I _ Yf)) (hb.up (I _ Yf)) (hY.up (I _ Yf)) (hF.up (I _ Yf))) rfl bSM fun v9 D10 _ hX hO=>?_;obtain⟨rfl,U,rfl,V⟩:=hO;refine Zao<|oL<|Zaz<|Zaf rfl (fun hc3=>?_) fun hc3=>?_
    ·refine aA<|Wi ?_;exact Zaj [] [] [_] [_] rfl ⟨rfl,bSM⟩ rfl fun D' hD=>⟨by rw[hin,I6 hge hc3];rfl,U,rfl,by rw[hin,I6 hge hc3];exact V.up RI.up (hD _ Yf)⟩
    ·refine Wch ?_;exact aL 22 (i+1,_,U,D10) ⟨Yn,by simp only;rw[hin,QV hge hc3],V⟩ Yn ⟨Ya,bSM⟩ rfl rfl Mm5 Yz
  ·simp only at hc2;have hge:¬i<b.lines.length-m:=Yd
   refine Wl ?_;exact Zaj [] [] [_] [_] rfl ⟨rfl,bSM⟩ rfl fun D' hD=>⟨by rw[hin,HI hge];rfl,hE,rfl,by rw[hin,HI hge];exact Y.up RI.up (hD _ Yf)⟩
theorem aSF(bv:Γ)(b:bH)(D:aC)(hb:iM D bv b):Fn prog 69 #[bv] D (fun D' v=>∃lv,v=.tuple #[lv,qI (fJ b).2]∧Sl D' RI 1 lv (fJ b).1):=by
 have V:=hb;obtain⟨lv,cv,rfl,hl,hc⟩:=hb;have hll:=hl.len;refine Zw 30 func69 rfl fun h0=>aA<|Zz rfl fun q1 E1 hK U=>Zf rfl<|Zf rfl<|aF<|OJ<|bZ<|Zv rfl gU rfl U fI<|Zd rfl (fun D1 hB=>A0 _ b _ (V.up (hB _ Yf)))<|Zf rfl<|aJ ?_;refine Za rfl<|Zax rfl<|aF<|Zae rfl (fun hc1=>?_) fun hc1=>?_
 ·refine aA<|Za rfl<|Zf rfl<|Zf rfl<|aG<|Za0<|zL ?_;exact Zo [_,_] rfl cF fun D hD=>YS hc1
 ·have O:aZ b=0:=Yd
  have hbo:=bLD O;have hN:=hbo.l8;have hca:=aKU O;refine aQ<|aA<|Zah rfl vE rfl fun q2=>aJ<|Zah rfl aYR rfl fun q3=>aJ<|Zay rfl<|Zr rfl aZI ζ rfl<|aJ<|Zf rfl<|bO<|DL ?_;refine Zaz<|Za3<|Za3<|L4 (A:=[]) (b:=q3) (cells:=[.func (.func 139) #[] #[qP q2,qP q1,qP q3]]) rfl fun I hI hF=>aO<|Zj rfl dM rfl<|Zh 3 rfl iB rfl U rfl<|Zai rfl U33 rfl hl rfl<|Zad rfl<|Za rfl<|aF<|Za1 ?_;refine gT (γ:=Nat×List Int×Γ×aC) (fun g=>b.lines.length+1-g.1) (fun g=>g.1≤b.lines.length+1∧Y9 (fun m fnd=>aWS b m 0 [] fnd) (List.range' 0 (b.lines.length+1-0)) []=Y9 (fun m fnd=>aWS b m 0 [] fnd) (List.range' g.1 (b.lines.length+1-g.1)) g.2.1∧Sl g.2.2.2 RI 1 g.2.2.1 g.2.1) (fun g=>[(19,qI (g.1:Int)),(7,.bool false)]) [(18,_),(6,_),(5,_),(3,_),(2,_)] (fun g=>[(q2,qC [g.2.2.1] 25)]) (fun g=>[g.2.2.2,I,E1,D]) (0,[],qN,I) ⟨Yf,rfl,Sl.nil⟩ ⟨Ya,Ya,bSM⟩ cF Mm5 ((fun D0 h=>by simp only[LT,n4,bOZ]at h;rcases h with h|h|h|h;exact⟨I,Yf,h▸Le.refl _⟩;exact⟨I,Yf,h▸Le.refl _⟩;exact⟨E1,Yf,h▸Le.refl _⟩;exact⟨D,Yf,h▸Le.refl _⟩)) ?_
  rintro⟨m,fnd,fv,Dn⟩ ⟨h1,hin,hfd⟩;simp only at h1 hin hfd;refine aA<|Zan rfl<|bO<|Zae rfl (fun hc2=>?_) fun hc2=>?_
  ·simp only at hc2;have hm:m<b.lines.length+1:=Yd
   refine aQ<|Za3<|Za1<|aA<|Za rfl<|Zf rfl<|aJ<|Zh 0 rfl aFM rfl hF rfl<|Za rfl<|gF (A:=[]) (ν:=[(_,_)]) (B:=[]) rfl rfl rfl rfl (bNI rfl) aUV (fun D9 R=>bIU hbo hca m 0 [] (qN) fnd fv _ Yaq Sl.nil (hfd.up RI.up (R _ Yf)) (V.up (R _ Yf)) (U.up (R _ Yf)) (hF.up (R _ Yf))) rfl bSM fun v9 D10 _ hJ hE=>?_;obtain⟨rfl,hH,rfl,Y⟩:=hE;refine Zf rfl<|aJ<|Za rfl<|aF<|Zaf rfl (fun hc3=>?_) fun hc3=>?_
   ·refine Za6<|sR rfl<|Za2<|Za2<|Za7<|Zaz<|bZ<|Za rfl<|Zat rfl<|aF<|Zaf rfl (fun hc4=>?_) (fun hc4=>?_)
    ·rw[hc3]at hc4;cases hc4
    ·refine aQ<|aA<|Zp rfl cD rfl Mm0 rfl<|Zf rfl<|Zf rfl<|aG<|zL ?_;exact Zo [_,_] rfl cF fun D hD=>aGZ O (by rw[hin,I6 hm hc3]) (Y.up RI.up (hD _ Yf))
   ·refine Wbs ?_;exact aL 12 (m+1,_,hH,D10) ⟨Yn,by simp only;rw[hin,QV hm hc3],Y⟩ Yn ⟨Ya,(by show some (Value.bool _)=some (Value.bool false);rw[hc3]),bSM⟩ rfl rfl Mm5 fun D0 h=>by simp only[LT,n4,bOZ]at h;rcases h with h|h|h|h;exact⟨D10,Yf,h▸Le.refl _⟩;exact⟨I,Yf,h▸Le.refl _⟩;exact⟨E1,Yf,h▸Le.refl _⟩;exact⟨D,Yf,h▸Le.refl _⟩
  ·simp only at hc2;have hm:¬m<b.lines.length+1:=Yd
   refine Za6<|Za2<|Za2<|Za7<|Zaz<|bZ<|Za rfl<|Zat rfl<|aF<|Zaf rfl (fun Z=>?_) fun Z=>?_
   ·refine aA<|Zf rfl<|Zf rfl<|aG<|Za0<|zL ?_;exact Zo [_,_] rfl cF fun D hD=>aKN O (by rw[hin,HI hm])
   ·cases Z
end L3
namespace L7
open C7
theorem UT{y:bA}{out:List Int}:∀(ts:List (List Pt)) (acc:List (Sc×Nat)),(∀p∈acc,p.2=wM y.chairs.length p.1)→∀p,p∈ts.foldl (tK y out) acc ↔ p∈acc∨∃t∈ts,nY y.claims out (E9 y t:Int)=true∧p=(dF y t,E9 y t)
 | [],acc,_,p=>by simp
 |t::ts,acc,h,p=>by
  rw[bNX];have h':∀p∈tK y out acc t,p.2=wM y.chairs.length p.1:=fun p hp=>by
   unfold tK at hp;split at hp
   ·rcases bNH.1 hp with hp|hp
    ·exact h p hp
    ·simp only[bNL]at hp;subst hp;rfl
   ·exact h p hp
  rw[UT ts _ h' p];have key:p∈tK y out acc t ↔ p∈acc∨(nY y.claims out (E9 y t:Int)=true∧p=(dF y t,E9 y t)):=by
   unfold tK;split
   ·rename_i hc;rw[bMS]at hc;rw[bNH,bNL];exact⟨fun h=>h.imp id fun e=>⟨hc.1,e⟩,fun h=>h.imp id fun e=>e.2⟩
   ·rename_i hc;refine⟨bNI,fun h3=>?_⟩;rcases h3 with h3|⟨hr,rfl⟩
    ·exact h3
    ·have hr':nY y.claims out (wM y.chairs.length (dF y t):Int)=true:=hr;rw[hr',bQZ,Bool.not_eq_true,bOH,bMY,bRP,bRL]at hc;obtain⟨hc1,hc2⟩:=hc;have hne:acc≠[]:=fun e=>hc1 Xaq
     unfold Z9 at hc2;rw[bQG hne]at hc2;have h4:=aZY hc2;have h5:=h _ (List.getLast_mem hne);have:acc.getLast hne=(dF y t,E9 y t):=Prod.ext h4 (by rw[h5,h4];rfl)
     rw[←this];exact List.getLast_mem hne
  rw[key];constructor
  ·rintro((h1|h1)|⟨s,h1,h2⟩)
   ·exact bNI h1
   ·exact bNC ⟨t,bMV,h1⟩
   ·exact bNC ⟨s,bMT _ h1,h2⟩
  ·rintro(h1|⟨s,h1,h2⟩)
   ·exact bNI (bNI h1)
   ·rcases LT.1 h1 with rfl|h1
    ·exact bNI (bNC h2)
    ·exact bNC ⟨s,h1,h2⟩
theorem vH{y:bA}{out:List Int}{p:Sc×Nat}:p∈dC y out ↔∃t,eJ y t=true∧nY y.claims out (E9 y t:Int)=true∧p=(dF y t,E9 y t):=by
 unfold dC;rw[UT _ _ Yf];simp only[n4,false_or,SB]
theorem aJO{y:bA}(h:bFB y)(out:List Int):∀s∈(dC y out).map fun p=>p.1,VW y.chairs.length s:=fun s hs=>by
 obtain⟨p,hp,rfl⟩:=bMR.1 hs;obtain⟨t,ht,_,rfl⟩:=vH.1 hp;obtain⟨hl,_⟩:=aDV ht;have:=h.len;exact S5 hl Yd
def qT(y:bA):List (Int×Int)×Int×Int:=if aZ y≠0 then([],0,aZ y)else if dC y []=[]then([],0,11)else
 (((UN y y.chairs.length 0 0 []).foldl (aEA ((dC y []).map fun p=>p.1)) ([], -1)).1,((UN y y.chairs.length 0 0 []).foldl (aEA ((dC y []).map fun p=>p.1)) ([], -1)).2,0)
theorem aLH{y:bA}{D:aC}(h:aZ y≠0):∃lv,Value.tuple #[qN,qI 0,qI (aZ y)]=.tuple #[lv,qI (qT y).2.1,qI (qT y).2.2]∧Sl D R2 2 lv (qT y).1:=by
 rw[qT,bNK h];exact⟨_,rfl,Sl.nil⟩
theorem aLE{y:bA}{D:aC}(h:aZ y=0)(hn:dC y []=[]):∃lv,Value.tuple #[qN,qI 0,qI 11]=.tuple #[lv,qI (qT y).2.1,qI (qT y).2.2]∧Sl D R2 2 lv (qT y).1:=by
 rw[qT,bNA Yd,bNK hn];exact⟨_,rfl,Sl.nil⟩
theorem aVV{y:bA}{D:aC}{lv:Γ}(h:aZ y=0)(hn:((dC y []).map fun p=>p.1)≠[])(hS:Sl D R2 2 lv ((UN y y.chairs.length 0 0 []).foldl (aEA ((dC y []).map fun p=>p.1)) ([], -1)).1):∃lv',Value.tuple #[lv,qI ((UN y y.chairs.length 0 0 []).foldl (aEA ((dC y []).map fun p=>p.1)) ([], -1)).2,qI 0]=.tuple #[lv',qI (qT y).2.1,qI (qT y).2.2]∧Sl D R2 2 lv' (qT y).1:=by
 rw[qT,bNA Yd,bNA (fun e=>hn Xaq)];exact⟨_,rfl,hS⟩
theorem aCT(yv:Γ)(y:bA)(D:aC)(hy:iY D yv y):Fn prog 71 #[yv] D (fun D' v=>∃lv,v=.tuple #[lv,qI (qT y).2.1,qI (qT y).2.2]∧Sl D' R2 2 lv (qT y).1):=by
 have Z:=hy;obtain⟨cv,qv,rfl,hc,hq⟩:=hy;refine Zw 30 func71 rfl fun h0=>aA<|Zz rfl fun q1 E1 hO R=>Zah rfl aYL rfl fun q2=>Zah rfl cE rfl fun q3=>Zf rfl<|bC<|Zv rfl nA rfl R lN<|Zd rfl (fun D1 hB=>B2 _ y _ (Z.up (hB _ Yf)))<|Zf rfl<|aJ<|Za rfl ?_;refine Zax rfl<|aF<|Zae rfl (fun hc1=>?_) fun hc1=>?_
 ·refine aA<|Za rfl<|Zr rfl DI (.tail ζ) rfl<|Zr rfl aH ζ rfl<|Wg ?_;exact Zo [_,_,_] rfl ⟨⟨_,_,_,rfl,Mm1,Or.inl ⟨DD,rfl⟩⟩,⟨_,_,_,rfl,Mm0,Or.inl ⟨aI,rfl⟩⟩,rfl,bSM⟩ fun D hD=>aLH hc1
 ·have U:aZ y=0:=Yd
  have hyo:=bKE U;have hE:=hyo.len;refine aQ<|aA<|Zv rfl nA rfl R lN<|fX (μ:=_) rfl rfl rfl (fun D5 hP=>CK _ y _ _ D5 rfl) rfl bSM fun v5 D6 _ hR hp5=>?_;obtain⟨wb,mb,rfl,rfl⟩:=hp5;refine Zf rfl<|aJ<|Za rfl<|aV ([]++[(_,_),(_,_)]++([(_,_),(_,_)])) rfl<|gF (A:=[]) (ν:=[(_,_),(_,_)]) (B:=[(_,_),(_,_)]) rfl rfl rfl rfl (bNI rfl) (JG (cs:=[_,_,_,_])) (fun D7 V=>LC wb mb _ _ y [] _ hE hyo.fit hyo.size #[] 0 [] _ (hc.up A3.up (V _ Yf)) (hq.up R2.up (V _ Yf)) Sl.nil rfl IM.nil) rfl bSM fun v7 D8 _ hS hH=>?_;obtain⟨sv,mv,rfl,hsv,hmv,hX,hY,M1,rfl,rA,hI⟩:=hH;refine Za rfl<|Zap rfl<|Zap rfl<|Zah rfl aFR rfl fun q4=>cR rfl rfl rfl hsv.cells1 n8 .head Yf rfl hsv.cell1 bSM<|Zf rfl<|bO<|Za3<|L4 (A:=[]) (b:=q4) (cells:=[sv]) rfl fun rB hJ hV=>aO<|Zh 0 rfl xB rfl hV rfl<|Zai rfl U170 rfl hsv rfl ?_;refine Zas rfl<|aF<|Zae rfl (fun hc2=>?_) fun hc2=>?_
  ·have hnil:dC y []=[]:=Yav
   refine aA<|Zr rfl DI (.tail (.tail (.tail ζ))) rfl<|Zr rfl aH (.tail (.tail ζ)) rfl<|Wg ?_;exact Zo [_,_,_] rfl ⟨⟨_,_,_,rfl,Mm3,Or.inl ⟨DD,rfl⟩⟩,⟨_,_,_,rfl,Mm2,Or.inl ⟨aI,rfl⟩⟩,rfl,bSM⟩ fun D hD=>aLE U hnil
  ·have hne:((dC y []).map fun p:Sc×Nat=>p.1)≠[]:=fun e=>hc2 Xaq
   have hsc:=aJO hyo [];refine aQ<|aA<|Zr rfl aH (.tail (.tail ζ)) rfl<|aJ<|Zah rfl bEU rfl fun q5=>aJ<|Zay rfl<|Zr rfl aZX ζ rfl<|bO<|L4 (A:=[]) (b:=q5) (cells:=[.func (.func 144) #[] #[qP q1,qP q4,qP q3,qP q2,qP q5]]) rfl fun D21 hK hF=>aO<|Zh 0 rfl NM rfl hF rfl ?_;refine aV ([(_,_),(_,_)]++[(_,_),(_,_)]++([])) rfl<|gF (A:=[(_,_),(_,_)]) (ν:=[(_,_),(_,_)]) (B:=[]) rfl rfl rfl rfl (bNI rfl) ON (fun D11 I=>bIL hyo hne hsc y.chairs.length 0 Yd 0 [] (qN) [] (-1) (qN) _ Yd Yi Yf Sl.nil Sl.nil (hc.up A3.up (I _ Yf)) (hq.up R2.up (I _ Yf)) (R.up (I _ Yf)) (hV.up (I _ Yf)) (hsv.up WV.up (I _ Yf)) (hF.up (I _ Yf))) rfl bSM fun v11 D12 _ hN Y=>?_;obtain⟨pv1,rfl,O⟩:=Y;refine bO<|bN [] 1 5 6<|Zp rfl DD rfl Mm3 rfl<|Zp rfl aI rfl Mm2 rfl<|GW rfl rfl rfl O.cells1 DI (.tail (.tail (.tail .head))) Yf rfl O.cell1 bSM<|Zr rfl aH (.tail (.tail ζ)) rfl<|We ?_;exact Zo [_,_,_] rfl ⟨⟨_,_,_,rfl,Mm3,Or.inl ⟨DD,rfl⟩⟩,⟨_,_,_,rfl,Mm2,Or.inl ⟨aI,rfl⟩⟩,rfl,bSM⟩ fun D hD=>aVV U hne (O.up R2.up (hD _ Yf))
end L7
namespace L12
open C12
def fS(s:aM):Int:=if C1.eM s.row true≠0 then 11 else if C2.aZ s.table≠0 then 9 else if C2.oB s.table true≠0 then 11 else if C3.aZ s.book≠0 then 3 else if C7.aZ s.yard≠0 then 3 else if(L7.gE s.yard).2≠0 then 11 else 0
section
variable{s:aM}{v:Γ}
theorem aIZ(h:C1.eM s.row true≠0)(e:v=fZ 11):fS s≠0∧v=fZ (fS s):=by unfold fS;rw[bNK h];exact⟨Yt,e⟩
theorem aHC(h0:C1.eM s.row true=0)(h:C2.aZ s.table≠0)(e:v=fZ 9):fS s≠0∧v=fZ (fS s):=by unfold fS;rw[bNA Yd,bNK h];exact⟨Yt,e⟩
theorem aLP(h0:C1.eM s.row true=0)(h1:C2.aZ s.table=0)(h:C2.oB s.table true≠0)(e:v=fZ 11):fS s≠0∧v=fZ (fS s):=by unfold fS;rw[bNA Yd,bNA Yd,bNK h];exact⟨Yt,e⟩
theorem aHA(h0:C1.eM s.row true=0)(h1:C2.aZ s.table=0)(h2:C2.oB s.table true=0)(h:C3.aZ s.book≠0)(e:v=fZ 3):fS s≠0∧v=fZ (fS s):=by unfold fS;rw[bNA Yd,bNA Yd,bNA Yd,bNK h];exact⟨Yt,e⟩
theorem aJG(h0:C1.eM s.row true=0)(h1:C2.aZ s.table=0)(h2:C2.oB s.table true=0)(h3:C3.aZ s.book=0)(h:C7.aZ s.yard≠0)(e:v=fZ 3):fS s≠0∧v=fZ (fS s):=by unfold fS;rw[bNA Yd,bNA Yd,bNA Yd,bNA Yd,bNK h];exact⟨Yt,e⟩
theorem aHL(h0:C1.eM s.row true=0)(h1:C2.aZ s.table=0)(h2:C2.oB s.table true=0)(h3:C3.aZ s.book=0)(h4:C7.aZ s.yard=0)(h:(L7.gE s.yard).2≠0)(e:v=fZ 11):fS s≠0∧v=fZ (fS s):=by unfold fS;rw[bNA Yd,bNA Yd,bNA Yd,bNA Yd,bNA Yd,bNK h];exact⟨Yt,e⟩
theorem aJU(h0:C1.eM s.row true=0)(h1:C2.aZ s.table=0)(h2:C2.oB s.table true=0)(h3:C3.aZ s.book=0)(h4:C7.aZ s.yard=0)(h5:(L7.gE s.yard).2=0):fS s=0:=by unfold fS;rw[bNA Yd,bNA Yd,bNA Yd,bNA Yd,bNA Yd,bNA Yd]
end
theorem lR(n many:Int)(D:aC):kH prog 341 [qI n,qI many] D [] (fun _ _ ν'=>(n<many)∧ν'=[]) (fun v=>(many≤n)∧v=fZ 7):=by
 refine eI 9 func341 rfl rfl rfl rfl fun h0 hwl hwn=>aO<|Za rfl<|Za rfl<|lH rfl rfl rfl rfl bSM<|Zt rfl U401 mG pV rfl (.cons rfl rfl .nil) fun V Y R I=>Zl [] [] [] rfl (bNC Yi) (fun D5 O=>gD 7 [decide (many≤n)] _ _ ((iP (l:=[decide (many≤n)]) (fun _ _ _ h=>h) I Yf).up RB.up (O _ Yf))) (fun v5 Z O hp5=>cS (P:=prog) (fn:=f341) rfl ⟨Xbl,hp5.2⟩) fun v5 Z ν5 O hp5=>?_;obtain⟨U,rfl⟩:=hp5;refine Zao ?_;exact eC rfl fun D' hD=>⟨by simpa using U,rfl⟩
theorem A8(many most:Int)(D:aC):kH prog 340 [qI many,qI most] D [] (fun _ _ ν'=>(many<most)∧ν'=[]) (fun v=>(most≤many)∧v=fZ 3):=by
 refine eI 9 func340 rfl rfl rfl rfl fun h0 hwl hwn=>aO<|Za rfl<|Za rfl<|lH rfl rfl rfl rfl bSM<|Zt rfl U401 mG pV rfl (.cons rfl rfl .nil) fun V Y R I=>Zl [] [] [] rfl (bNC Yi) (fun D5 O=>gD 3 [decide (most≤many)] _ _ ((iP (l:=[decide (most≤many)]) (fun _ _ _ h=>h) I Yf).up RB.up (O _ Yf))) (fun v5 Z O hp5=>cS (P:=prog) (fn:=f340) rfl ⟨Xbl,hp5.2⟩) fun v5 Z ν5 O hp5=>?_;obtain⟨U,rfl⟩:=hp5;refine Zao ?_;exact eC rfl fun D' hD=>⟨by simpa using U,rfl⟩
theorem wH(n most:Int)(D:aC):kH prog 342 [qI n,qI most] D [] (fun _ _ ν'=>(n≤most)∧ν'=[]) (fun v=>(most<n)∧v=fZ 2):=by
 refine eI 9 func342 rfl rfl rfl rfl fun h0 hwl hwn=>aO<|Za rfl<|Za rfl<|Zaq rfl<|Zt rfl U401 mG pV rfl (.cons rfl rfl .nil) fun V Y R I=>Zl [] [] [] rfl (bNC Yi) (fun D5 O=>gD 2 [decide (most<n)] _ _ ((iP (l:=[decide (most<n)]) (fun _ _ _ h=>h) I Yf).up RB.up (O _ Yf))) (fun v5 Z O hp5=>cS (P:=prog) (fn:=f342) rfl ⟨Xbl,hp5.2⟩) fun v5 Z ν5 O hp5=>?_;obtain⟨U,rfl⟩:=hp5;refine Zao ?_;exact eC rfl fun D' hD=>⟨by simpa using U,rfl⟩
theorem MN(a b most:Int)(D:aC):kH prog 345 [qI a,qI b,qI most] D [] (fun _ _ ν'=>(a≤b∧b≤most)∧ν'=[]) (fun v=>(b<a∨most<b)∧v=fZ 2):=by
 refine eI 14 func345 rfl rfl rfl rfl fun h0 hwl hwn=>aO<|Za rfl<|Za rfl<|Zaq rfl<|Za rfl<|Za rfl<|Zaq rfl<|Zt rfl U401 mG pV rfl (.cons rfl rfl (.cons rfl rfl .nil)) fun V Y R I=>Zl [] [] [] rfl (bNC Yi) (fun D5 O=>gD 2 [decide (b<a),decide (most<b)] _ _ ((iP (l:=[decide (b<a),decide (most<b)]) (fun _ _ _ h=>h) I Yf).up RB.up (O _ Yf))) (fun v5 Z O hp5=>cS (P:=prog) (fn:=f345) rfl ⟨Xbl,hp5.2⟩) fun v5 Z ν5 O hp5=>?_;obtain⟨U,rfl⟩:=hp5;refine Zao ?_;exact eC rfl fun D' hD=>⟨by simpa using U,rfl⟩
theorem aOF(sv:Γ)(s:aM)(D:aC)(hs:gG D sv s):kH prog 193 [sv] D [] (fun _ _ ν'=>fS s=0∧ν'=[]) (fun v=>fS s≠0∧v=fZ (fS s)):=by
 obtain⟨pv,cv,hv,lv,mv,bl,bc,yc,yq,rfl,hL⟩:=hs;refine eI 52 func193 rfl rfl rfl rfl fun h0 hwl hwn=>aA<|Zz rfl fun q1 E1 hE1 hB=>aJ<|Zj rfl dT rfl<|dX rfl (k:=0) nI mE rfl hB Yc rfl rfl n4 rfl bSM<|Zy rfl (fun D1 rB=>L1.aGY _ s.row _ (hL.row.up (rB _ Yf))) fun v1 D1 rB hp1=>?_;obtain⟨pl1,rfl,_⟩:=hp1;refine Za rfl<|Zap rfl<|Zap rfl<|Zf rfl<|Zf rfl<|aJ<|Za rfl<|Zax rfl<|Zt rfl U401 mG pV rfl (.cons rfl rfl .nil) (fun b901 D901 hD901 hP=>Zl [] [] [] rfl (bNC Yi) (fun D50 hE=>gD 11 [decide (C1.eM s.row true≠0)] _ _ ((iP (l:=[decide (C1.eM s.row true≠0)]) (fun _ _ _ h=>h) hP Yf).up RB.up (hE _ Yf))) (fun v50 D51 hE I=>cS (P:=prog) (fn:=f193) rfl (aIZ (by simpa using I.1) I.2)) fun v50 D51 ν50 hE I=>?_);obtain⟨hf50,rfl⟩:=I;refine aJ<|Zj rfl cY rfl<|dX rfl (k:=4) lF jS rfl hB Yc rfl rfl n4 rfl bSM<|Zd rfl (fun D2 hD2=>L2.U8 _ s.table _ (hL.table.up (hD2 _ Yf)))<|Zax rfl<|Zt rfl U401 mG pV rfl (.cons rfl rfl .nil) (fun b902 D902 hD902 hR=>Zl [] [] [] rfl (bNC Yi) (fun D52 hF=>gD 9 [decide (C2.aZ s.table≠0)] _ _ ((iP (l:=[decide (C2.aZ s.table≠0)]) (fun _ _ _ h=>h) hR Yf).up RB.up (hF _ Yf))) (fun v52 D53 hF O=>cS (P:=prog) (fn:=f193) rfl (aHC Xaw (by simpa using O.1) O.2)) fun v52 D53 ν52 hF O=>?_);obtain⟨hf52,rfl⟩:=O;refine aJ<|Zj rfl cY rfl<|dX rfl (k:=4) lF jS rfl hB Yc rfl rfl n4 rfl bSM<|Zy rfl (fun D3 hD3=>L2.zK _ s.table _ (hL.table.up (hD3 _ Yf))) fun v3 D3 hD3 hp3=>?_;obtain⟨bl3,rfl,_⟩:=hp3;refine Za rfl<|Zap rfl<|Zap rfl<|Zf rfl<|aJ<|Za rfl<|Zax rfl<|Zt rfl U401 mG pV rfl (.cons rfl rfl .nil) (fun b903 D903 hD903 hS=>Zl [] [] [] rfl (bNC Yi) (fun D54 hH=>gD 11 [decide (C2.oB s.table true≠0)] _ _ ((iP (l:=[decide (C2.oB s.table true≠0)]) (fun _ _ _ h=>h) hS Yf).up RB.up (hH _ Yf))) (fun v54 D55 hH R=>cS (P:=prog) (fn:=f193) rfl (aLP Xaw Xbm (by simpa using R.1) R.2)) fun v54 D55 ν54 hH R=>?_);obtain⟨U,rfl⟩:=R;refine aJ<|Zj rfl fV rfl<|dX rfl (k:=9) gU fI rfl hB Yc rfl rfl n4 rfl bSM<|Zd rfl (fun D4 hD4=>L3.A0 _ s.book _ (hL.book.up (hD4 _ Yf)))<|Zax rfl<|Zt rfl U401 mG pV rfl (.cons rfl rfl .nil) (fun b904 D904 hD904 hX=>Zl [] [] [] rfl (bNC Yi) (fun D56 hI=>gD 3 [decide (C3.aZ s.book≠0)] _ _ ((iP (l:=[decide (C3.aZ s.book≠0)]) (fun _ _ _ h=>h) hX Yf).up RB.up (hI _ Yf))) (fun v56 D57 hI V=>cS (P:=prog) (fn:=f193) rfl (aHA Xaw Xbm (by simpa using U) (by simpa using V.1) V.2)) fun v56 D57 ν56 hI V=>?_);obtain⟨hJ,rfl⟩:=V;refine aJ<|Zj rfl eX rfl<|dX rfl (k:=14) nA lN rfl hB Yc rfl rfl n4 rfl bSM<|Zd rfl (fun D5 hD5=>L7.B2 _ s.yard _ (hL.yard.up (hD5 _ Yf)))<|Zax rfl<|Zt rfl U401 mG pV rfl (.cons rfl rfl .nil) (fun b905 D905 hD905 hY=>Zl [] [] [] rfl (bNC Yi) (fun D58 hK=>gD 3 [decide (C7.aZ s.yard≠0)] _ _ ((iP (l:=[decide (C7.aZ s.yard≠0)]) (fun _ _ _ h=>h) hY Yf).up RB.up (hK _ Yf))) (fun v58 D59 hK Y=>cS (P:=prog) (fn:=f193) rfl (aJG Xaw Xbm (by simpa using U) (by simpa using hJ) (by simpa using Y.1) Y.2)) fun v58 D59 ν58 hK Y=>?_);obtain⟨hO,rfl⟩:=Y;refine aJ<|Zj rfl eX rfl<|dX rfl (k:=14) nA lN rfl hB Yc rfl rfl n4 rfl bSM<|Zd rfl (fun D6 hD6=>L7.zK _ s.yard _ (hL.yard.up (hD6 _ Yf)))<|Za rfl<|Zap rfl<|Zap rfl<|Zf rfl<|aF<|aO<|Za rfl<|Zax rfl ?_;refine Zt rfl U401 mG pV rfl (.cons rfl rfl .nil) (fun b906 D906 hD906 rA=>Zl [] [] [] rfl (bNC Yi) (fun D60 hN=>gD 11 [decide ((L7.gE s.yard).2≠0)] _ _ ((iP (l:=[decide ((L7.gE s.yard).2≠0)]) (fun _ _ _ h=>h) rA Yf).up RB.up (hN _ Yf))) (fun v60 D61 hN Z=>cS (P:=prog) (fn:=f193) rfl (aHL Xaw Xbm (by simpa using U) (by simpa using hJ) (by simpa using hO) (by simpa using Z.1) Z.2)) fun v60 D61 ν60 hN Z=>?_);obtain⟨hf60,rfl⟩:=Z;refine Zao ?_;exact eC rfl fun D' hD=>⟨aJU Xaw Xbm (by simpa using U) (by simpa using hJ) (by simpa using hO) (by simpa using hf60),rfl⟩
def vN:aM:=⟨{places:=[2,2,2,2],counts:=[],wrong:=0,off:=1},{last:=3,heights:=[(5,5),(5,5),(5,5),(5,5)],step:=5,levels:=[],marks:=[]},{chairs:=3,coin:=5,box:=20,lines:=[],counts:=[]},{chairs:=[],fit:=1,claims:=[]}⟩
theorem yF(D:aC):Fn prog 102 #[] D (fun D' v=>gG D' v vN):=by
 refine Zw 38 func102 rfl fun h0=>aA<|Zah rfl rD rfl fun q1=>aJ<|Zah rfl rD rfl fun V=>aJ<|Zj rfl dT rfl<|Zj rfl j2 rfl<|Zr rfl aH ζ rfl<|Zj rfl eX rfl<|Zj rfl N4 rfl<|Zr rfl aH ζ rfl ?_;refine aJ<|Zj rfl cY rfl<|Zj rfl mX rfl<|Zr rfl aH ζ rfl<|Zj rfl cY rfl<|Zj rfl L9 rfl<|Zr rfl aH ζ rfl<|aJ<|Zj rfl fV rfl<|Zj rfl wC rfl<|Zr rfl aH ζ rfl<|Zj rfl fV rfl ?_;refine Zj rfl I3 rfl<|Zr rfl aH ζ rfl<|Zj rfl fV rfl<|Zj rfl GK rfl<|Zr rfl aH ζ rfl<|bC<|Za rfl<|aF<|Za1<|Zc (Nat×Γ×aD) (fun g=>4-g.1) (fun g=>g.1≤4∧bI 3 1 g.2.1 g.1 (ints (List.replicate g.1 2)) g.2.2) (fun g=>[(16,qI (g.1:Int))]) [(1,_),(0,_)] (fun g=>g.2.2++[(V,qC [g.2.1,qN,qI 0,qI 1,qI 3,qN,qI 5,qN,qN,qI 3,qI 5,qI 20,qN,qN,qN,qI 1,qN] 42),(q1,qC [qN,qN,qI 0,qI 0,qI 0,qN,qI 0,qN,qN,qI 0,qI 0,qI 0,qN,qN,qN,qI 0,qN] 42)]) (fun g=>[D]) (0,qN,[]) ⟨Yf,Xap⟩ ⟨Ya,bSM⟩ Mm5 ?_;rintro⟨k,v,ν⟩ ⟨h1,ha⟩;simp only at h1 ha;refine aA<|Zan rfl<|bO<|Zae rfl (fun hc1=>?_) fun hc1=>?_
 ·simp only at hc1;refine aQ<|Za3<|Za1<|aO<|Zj rfl dT rfl<|Zj rfl fH rfl<|Zp rfl cD rfl (GE _ Mm0) rfl<|Zt rfl U25 aH cE rfl (.cons rfl rfl .nil) fun hJ hK Y I=>?_;have Z:=Sl.ofInts (l:=[_]) (n:=1) (cap:=1) I rfl Yd Yd;refine aS (A:=[]) (B:=[(_,_),(_,_)]) rfl U25 rfl rfl aH cE rfl kD rfl rfl rfl ha (jY.lit I) Yf rfl (by simp[ints]) Yk Yd (bNI rfl) rfl bSM fun v1 ν1 R=>?_;have O:bI 3 1 v1 (k+1) (ints (List.replicate (k+1) 2)) ν1:=by rw[List.replicate_succ',←eV];exact R
  refine Zj rfl dT rfl<|Zj rfl fH rfl<|aV (ν1++(V,_)::[(q1,_)]) rfl<|cR rfl rfl rfl R.cells1 fR (.app .head) Yf rfl R.cell1 bSM<|Zao<|Wb ?_;exact aL 11 (k+1,v1,ν1) ⟨Yn,O⟩ Yn ⟨Ya,bSM⟩ rfl rfl Mm5 fun D h=>⟨D,bNM _ (h),Le.refl D⟩
 ·obtain rfl:k=4:=by simp only at hc1;omega
  refine Za6<|Za2<|Za2<|Za7<|Zaz<|Za3<|Za3<|sN (A:=[]) (B:=[(_,_),(_,_)]) ha rfl fun D8 hP hB=>?_;have hpl:=hB.ints Yf Yd;refine aO<|Za rfl<|aF<|Za1<|Zc (Nat×Γ×aD) (fun g=>4-g.1) (fun g=>g.1≤4∧bI 93 2 g.2.1 g.1 (L2.aAJ (List.replicate g.1 (5,5))) g.2.2) (fun g=>[(26,qI (g.1:Int))]) [(1,_),(0,_)] (fun g=>g.2.2++[(V,qC [v,qN,qI 0,qI 1,qI 3,g.2.1,qI 5,qN,qN,qI 3,qI 5,qI 20,qN,qN,qN,qI 1,qN] 42),(q1,qC [qN,qN,qI 0,qI 0,qI 0,qN,qI 0,qN,qN,qI 0,qI 0,qI 0,qN,qN,qN,qI 0,qN] 42)]) (fun g=>[D8,D]) (0,qN,[]) ⟨Yf,by simpa [L2.aAJ]using bI.nil⟩ ⟨Ya,bSM⟩ Mm5 ?_;rintro⟨j,u,ω⟩ ⟨h2,hb⟩;simp only at h2 hb;refine aA<|Zan rfl<|bO<|Zae rfl (fun hc2=>?_) fun hc2=>?_
  ·simp only at hc2;refine aQ<|Za3<|Za1<|aO<|Zj rfl cY rfl<|Zj rfl lU rfl<|Zp rfl xE rfl (GE _ Mm0) rfl<|Zu [qI 5,qI 5] rfl X8 kA rfl<|Zt rfl U29 dQ kA rfl (.cons rfl rfl .nil) (fun hN hO hE U=>aS (A:=[]) (B:=[(_,_),(_,_)]) rfl U29 rfl rfl dQ kA rfl aAV rfl rfl rfl hb (jY.lit U) Yf rfl (by rw[L2.FF];simp) Yk Yd (bNI rfl) rfl bSM fun v2 ν2 O=>?_)
   have hF:bI 93 2 v2 (j+1) (L2.aAJ (List.replicate (j+1) (5,5))) ν2:=by rw[List.replicate_succ',L2.EX];exact O
   refine Zj rfl cY rfl<|Zj rfl lU rfl<|aV (ν2++(V,_)::[(q1,_)]) rfl<|cR rfl rfl rfl O.cells1 aBM (.app .head) Yf rfl O.cell1 bSM<|Zao<|Wb ?_;exact aL 12 (j+1,v2,ν2) ⟨Yn,hF⟩ Yn ⟨Ya,bSM⟩ rfl rfl Mm5 fun D h=>⟨D,bNM _ (h),Le.refl D⟩
  ·obtain rfl:j=4:=by simp only at hc2;omega
   refine Za6<|Za2<|Za2<|Za7<|Zaz<|aA<|Zag rfl kC rfl (GE _ Mm0) eD<|Zac rfl eD (.app (.tail ζ)) (by simp[cell1];exact⟨ha.cell1 _ Yf,hb.cell1 _ Yf⟩)<|aG<|dS (A:=[]) (B:=[(_,_),(_,_)]) hb rfl fun D9 hH hI=>?_;have hht:=hI.rgs Yf Yd;exact Zo [_] rfl ⟨⟨_,_,_,rfl,bNM _ Mm0,bNC ⟨kC,eD,rfl⟩⟩,bSM⟩ fun D hD=>⟨v,qN,u,qN,qN,qN,qN,qN,qN,rfl,(hpl.up RI.up ((hH _ Yf).trans (hD _ Yf))),Sl.nil,hht.up AV.up (hD _ Yf),Sl.nil,Sl.nil,Sl.nil,Sl.nil,Sl.nil,Sl.nil⟩
def cI(n:Int):List Γ:=[qI n]
def cC(c:C1.xW):List Γ:=[.bool c.back,qI c.many,qI c.num]
def cP(p:Int×Int):List Γ:=[qI p.1,qI p.2]
def cM(m:C2.Mk):List Γ:=[qI m.frm,qI m.to,qI m.lo,qI m.hi]
def cL(l:C3.eS):List Γ:=[qI l.kind,qI l.chair,qI l.token]
def cH(c:C7.Ch):List Γ:=[qI c.size,qI c.parts.a,qI c.parts.b,qI c.parts.c]
theorem l7(n:Int):∀u∈cI n,cell1 u=true:=by intro u hu;simp[cI]at hu;subst hu;rfl
theorem c7(c:C1.xW):∀u∈cC c,cell1 u=true:=by intro u hu;simp[cC]at hu;rcases hu with rfl|rfl|rfl<;>rfl
theorem yE(p:Int×Int):∀u∈cP p,cell1 u=true:=by intro u hu;simp[cP]at hu;rcases hu with rfl|rfl<;>rfl
theorem m3(m:C2.Mk):∀u∈cM m,cell1 u=true:=by intro u hu;simp[cM]at hu;rcases hu with rfl|rfl|rfl|rfl<;>rfl
theorem m5(l:C3.eS):∀u∈cL l,cell1 u=true:=by intro u hu;simp[cL]at hu;rcases hu with rfl|rfl|rfl<;>rfl
theorem GR(c:C7.Ch):∀u∈cH c,cell1 u=true:=by intro u hu;simp[cH]at hu;rcases hu with rfl|rfl|rfl|rfl<;>rfl
def aNI{α:Type}(f:α→List Γ)(n:Nat):Prop:=(∀x,(f x).length=n)∧∀x,∀u∈f x,cell1 u=true
theorem aNH:aNI cI 1:=⟨fun _=>rfl,l7⟩
theorem bLU:aNI cC 3:=⟨fun _=>rfl,c7⟩
theorem bIF:aNI cP 2:=⟨fun _=>rfl,yE⟩
theorem bMK:aNI cM 4:=⟨fun _=>rfl,m3⟩
theorem bFN:aNI cL 3:=⟨fun _=>rfl,m5⟩
theorem bJY:aNI cH 4:=⟨fun _=>rfl,GR⟩
theorem dD{α:Type}{f:α→List Γ}{n:Nat}(h:∀x,(f x).length=n)(xs:List α):(xs.flatMap f).length=xs.length*n:=by
 induction xs with
 |nil=>simp
 |cons x xs ih=>rw[bNW,LE,h,ih,bMX,bPR];omega
theorem dE{α:Type}{f:α→List Γ}(h:∀x,∀u∈f x,cell1 u=true)(xs:List α):∀u∈xs.flatMap f,cell1 u=true:=by
 intro u hu;obtain⟨x,_,hx⟩:=bQT.1 hu;exact h x u hx
theorem KD{α:Type}{f:α→List Γ}{n:Nat}(h:∀x,(f x).length=n){xs:List α}{i:Nat}{x:α}(hi:xs[i]?= some x)(junk:List Γ):((xs.flatMap f++junk).drop (i*n)).take n=f x:=by
 induction xs generalizing i with
 |nil=>simp at hi
 |cons d xs ih=>
  rw[bNW,bND];cases i with
  |zero=>
   obtain rfl:d=x:=Yau
   rw[bRB,bQQ,bOK (by rw[h];omega),bNV (by rw[h];omega)]
  |succ i=>
   rw[show(i+1)*n=(f d).length+i*n by rw[h,bPR];omega,bRK];exact ih Yau
theorem nK{α:Type}{R:Rd α}{f:α→List Γ}{n:Nat}{D:aC}{v:Γ}{xs:List α}(hR:∀D x,R D x (f x))(h:∀x,(f x).length=n)(hF:kZ D v xs.length (xs.flatMap f))(hb:xs.length≤10000000):Sl D R n v xs:=
 hF.sl rfl Yd fun i t hi=>⟨f t,hR _ _,h t,by have:=KD h hi [];rwa [bNN]at this⟩
theorem zF(sv:Γ)(xs:List Int)(D:aC)(hS:Sl D RI 1 sv xs)(hl:xs.length≤10000000):IU prog 142 #[sv] D (fun _ v ν=>bI 3 1 v xs.length (xs.flatMap cI) ν):=by
 obtain⟨a0,c0,rfl⟩:=hS.shape;refine qR 8 func142 rfl rfl rfl rfl fun h0=>aA<|Zf rfl<|bC<|Za rfl<|qD rfl U25 rfl rfl rfl bSM<|aF<|Zaf rfl (fun hc1=>?_) fun hc1=>?_
 ·obtain rfl:a0=none:=Xaa
  obtain rfl:=tQ hS;refine Wci ?_;exact aE rfl fun D' hD=>bI.nil
 ·refine aQ<|aA<|Zt rfl U25 aH cE rfl .nil fun U V I O=>Za rfl<|aS (A:=[]) (ν:=[]) (B:=[]) rfl U25 rfl rfl aH cE rfl kD rfl rfl rfl bI.nil (jY.of (cells:=cI) (fun _ _ _ h=>h) (fun _=>rfl) hS) Yf (dD (n:=1) (fun _=>rfl) xs) rfl (dE l7 xs) Yd (bNI rfl) rfl bSM fun v1 ν1 R=>We ?_;exact aE rfl fun D' hD=>by show bI 3 1 v1 _ _ _;simpa using R
theorem aGP(sv:Γ)(xs:List C1.xW)(D:aC)(hS:Sl D RC 3 sv xs)(hl:xs.length≤10000000):IU prog 290 #[sv] D (fun _ v ν=>bI 202 3 v xs.length (xs.flatMap cC) ν):=by
 obtain⟨a0,c0,rfl⟩:=hS.shape;refine qR 8 func290 rfl rfl rfl rfl fun h0=>aA<|Zf rfl<|bC<|Za rfl<|qD rfl U26 rfl rfl rfl bSM<|aF<|Zaf rfl (fun hc1=>?_) fun hc1=>?_
 ·obtain rfl:a0=none:=Xaa
  obtain rfl:=tQ hS;refine Wci ?_;exact aE rfl fun D' hD=>bI.nil
 ·refine aQ<|aA<|Zt rfl U26 kM A5 rfl .nil fun U V I O=>Za rfl<|aS (A:=[]) (ν:=[]) (B:=[]) rfl U26 rfl rfl kM A5 rfl aEJ rfl rfl rfl bI.nil (jY.of (cells:=cC) (fun _ _ _ h=>h) (fun _=>rfl) hS) Yf (dD (n:=3) (fun _=>rfl) xs) rfl (dE c7 xs) Yd (bNI rfl) rfl bSM fun v1 ν1 R=>We ?_;exact aE rfl fun D' hD=>by show bI 202 3 v1 _ _ _;simpa using R
theorem aJD(sv:Γ)(xs:List (Int×Int))(D:aC)(hS:Sl D AV 2 sv xs)(hl:xs.length≤10000000):IU prog 291 #[sv] D (fun _ v ν=>bI 93 2 v xs.length (xs.flatMap cP) ν):=by
 obtain⟨a0,c0,rfl⟩:=hS.shape;refine qR 8 func291 rfl rfl rfl rfl fun h0=>aA<|Zf rfl<|bC<|Za rfl<|qD rfl U29 rfl rfl rfl bSM<|aF<|Zaf rfl (fun hc1=>?_) fun hc1=>?_
 ·obtain rfl:a0=none:=Xaa
  obtain rfl:=tQ hS;refine Wci ?_;exact aE rfl fun D' hD=>bI.nil
 ·refine aQ<|aA<|Zt rfl U29 dQ kA rfl .nil fun U V I O=>Za rfl<|aS (A:=[]) (ν:=[]) (B:=[]) rfl U29 rfl rfl dQ kA rfl aAV rfl rfl rfl bI.nil (jY.of (cells:=cP) (fun _ _ _ h=>h) (fun _=>rfl) hS) Yf (dD (n:=2) (fun _=>rfl) xs) rfl (dE yE xs) Yd (bNI rfl) rfl bSM fun v1 ν1 R=>We ?_;exact aE rfl fun D' hD=>by show bI 93 2 v1 _ _ _;simpa using R
theorem aHJ(sv:Γ)(xs:List C2.Mk)(D:aC)(hS:Sl D UV 4 sv xs)(hl:xs.length≤10000000):IU prog 292 #[sv] D (fun _ v ν=>bI 204 4 v xs.length (xs.flatMap cM) ν):=by
 obtain⟨a0,c0,rfl⟩:=hS.shape;refine qR 8 func292 rfl rfl rfl rfl fun h0=>aA<|Zf rfl<|bC<|Za rfl<|qD rfl U30 rfl rfl rfl bSM<|aF<|Zaf rfl (fun hc1=>?_) fun hc1=>?_
 ·obtain rfl:a0=none:=Xaa
  obtain rfl:=tQ hS;refine Wci ?_;exact aE rfl fun D' hD=>bI.nil
 ·refine aQ<|aA<|Zt rfl U30 lP C6 rfl .nil fun U V I O=>Za rfl<|aS (A:=[]) (ν:=[]) (B:=[]) rfl U30 rfl rfl lP C6 rfl aGD rfl rfl rfl bI.nil (jY.of (cells:=cM) (fun _ _ _ h=>h) (fun _=>rfl) hS) Yf (dD (n:=4) (fun _=>rfl) xs) rfl (dE m3 xs) Yd (bNI rfl) rfl bSM fun v1 ν1 R=>We ?_;exact aE rfl fun D' hD=>by show bI 204 4 v1 _ _ _;simpa using R
theorem aMJ(sv:Γ)(xs:List C3.eS)(D:aC)(hS:Sl D tZ 3 sv xs)(hl:xs.length≤10000000):IU prog 293 #[sv] D (fun _ v ν=>bI 206 3 v xs.length (xs.flatMap cL) ν):=by
 obtain⟨a0,c0,rfl⟩:=hS.shape;refine qR 8 func293 rfl rfl rfl rfl fun h0=>aA<|Zf rfl<|bC<|Za rfl<|qD rfl U33 rfl rfl rfl bSM<|aF<|Zaf rfl (fun hc1=>?_) fun hc1=>?_
 ·obtain rfl:a0=none:=Xaa
  obtain rfl:=tQ hS;refine Wci ?_;exact aE rfl fun D' hD=>bI.nil
 ·refine aQ<|aA<|Zt rfl U33 cG kO rfl .nil fun U V I O=>Za rfl<|aS (A:=[]) (ν:=[]) (B:=[]) rfl U33 rfl rfl cG kO rfl c8 rfl rfl rfl bI.nil (jY.of (cells:=cL) (fun _ _ _ h=>h) (fun _=>rfl) hS) Yf (dD (n:=3) (fun _=>rfl) xs) rfl (dE m5 xs) Yd (bNI rfl) rfl bSM fun v1 ν1 R=>We ?_;exact aE rfl fun D' hD=>by show bI 206 3 v1 _ _ _;simpa using R
theorem aHW(sv:Γ)(xs:List C7.Ch)(D:aC)(hS:Sl D A3 4 sv xs)(hl:xs.length≤10000000):IU prog 294 #[sv] D (fun _ v ν=>bI 212 4 v xs.length (xs.flatMap cH) ν):=by
 obtain⟨a0,c0,rfl⟩:=hS.shape;refine qR 8 func294 rfl rfl rfl rfl fun h0=>aA<|Zf rfl<|bC<|Za rfl<|qD rfl U37 rfl rfl rfl bSM<|aF<|Zaf rfl (fun hc1=>?_) fun hc1=>?_
 ·obtain rfl:a0=none:=Xaa
  obtain rfl:=tQ hS;refine Wci ?_;exact aE rfl fun D' hD=>bI.nil
 ·refine aQ<|aA<|Zt rfl U37 mK Q3 rfl .nil fun U V I O=>Za rfl<|aS (A:=[]) (ν:=[]) (B:=[]) rfl U37 rfl rfl mK Q3 rfl aCS rfl rfl rfl bI.nil (jY.of (cells:=cH) (fun _ _ _ h=>h) (fun _=>rfl) hS) Yf (dD (n:=4) (fun _=>rfl) xs) rfl (dE GR xs) Yd (bNI rfl) rfl bSM fun v1 ν1 R=>We ?_;exact aE rfl fun D' hD=>by show bI 212 4 v1 _ _ _;simpa using R
theorem aJH(sv:Γ)(xs:List (Int×Int))(D:aC)(hS:Sl D R2 2 sv xs)(hl:xs.length≤10000000):IU prog 295 #[sv] D (fun _ v ν=>bI 90 2 v xs.length (xs.flatMap cP) ν):=by
 obtain⟨a0,c0,rfl⟩:=hS.shape;refine qR 8 func295 rfl rfl rfl rfl fun h0=>aA<|Zf rfl<|bC<|Za rfl<|qD rfl U38 rfl rfl rfl bSM<|aF<|Zaf rfl (fun hc1=>?_) fun hc1=>?_
 ·obtain rfl:a0=none:=Xaa
  obtain rfl:=tQ hS;refine Wci ?_;exact aE rfl fun D' hD=>bI.nil
 ·refine aQ<|aA<|Zt rfl U38 dV nH rfl .nil fun U V I O=>Za rfl<|aS (A:=[]) (ν:=[]) (B:=[]) rfl U38 rfl rfl dV nH rfl aSD rfl rfl rfl bI.nil (jY.of (cells:=cP) (fun _ _ _ h=>h) (fun _=>rfl) hS) Yf (dD (n:=2) (fun _=>rfl) xs) rfl (dE yE xs) Yd (bNI rfl) rfl bSM fun v1 ν1 R=>We ?_;exact aE rfl fun D' hD=>by show bI 90 2 v1 _ _ _;simpa using R
theorem bKD{α:Type}(a b c d e:List α):a++(b++(c++(d++e)))=(a++(b++(c++d)))++e:=Yf
theorem bKA{α:Type}(a b d e:List α):a++(b++(d++e))=(a++(b++d))++e:=Yf
structure O7(s:aM):Prop where
 pl:s.row.places.length≤100
 ct:s.row.counts.length≤100
 ht:s.table.heights.length≤100
 lev:s.table.levels.length≤100
 mks:s.table.marks.length≤100
 ln:s.book.lines.length≤100
 ch:s.yard.chairs.length≤100
 cl:s.yard.claims.length≤100
structure ZQ where
 (w c r m l h q:Θ)
abbrev bLV:ZQ:=⟨343,202,93,204,206,212,90⟩
structure bKJ(T:ZQ)(D:aC)(s:aM)(pv cv hv lv mv bl bc yc yq:Γ)(ν1 ν2 ν3 ν4 ν5 ν6 ν7 ν8:aD):Prop where
 pl:bI 3 1 pv s.row.places.length (s.row.places.flatMap cI) ν1
 ct:bI T.c 3 cv s.row.counts.length (s.row.counts.flatMap cC) ν2
 ht:bI T.r 2 hv s.table.heights.length (s.table.heights.flatMap cP) ν3
 lev:bI 3 1 lv s.table.levels.length (s.table.levels.flatMap cI) ν4
 mks:bI T.m 4 mv s.table.marks.length (s.table.marks.flatMap cM) ν5
 ln:bI T.l 3 bl s.book.lines.length (s.book.lines.flatMap cL) ν6
 cn:Sl D vK 3 bc s.book.counts
 ch:bI T.h 4 yc s.yard.chairs.length (s.yard.chairs.flatMap cH) ν7
 cl:bI T.q 2 yq s.yard.claims.length (s.yard.claims.flatMap cP) ν8
theorem CK(sv:Γ)(s:aM)(D:aC)(hs:gG D sv s)(hsm:O7 s):IU prog 192 #[sv] D (fun D' v ν=>∃wb pv cv hv lv mv bl bc yc yq ν1 ν2 ν3 ν4 ν5 ν6 ν7 ν8,v=qP wb∧ν=(wb,qC (dO s pv cv hv lv mv bl bc yc yq) 343)::(ν8++(ν7++(ν6++(ν5++(ν4++(ν3++(ν2++ν1)))))))∧bKJ bLV D' s pv cv hv lv mv bl bc yc yq ν1 ν2 ν3 ν4 ν5 ν6 ν7 ν8):=by
 obtain⟨pv,cv,hv,lv,mv,bl,bc,yc,yq,rfl,hL⟩:=hs;unfold dO;refine qR 54 func192 rfl rfl rfl rfl fun h0=>aA<|EQ rfl (e:=42) rfl rfl rfl bSM fun q1=>Zf rfl<|bO<|iZ [] 2 [0,1,2,4,5,6,3,8,9,7,10,11,12,13] [false,false,false,true,true,true,true,false,false,true,false,false,false,false] [(false,0),(false,1),(false,2),(true,4),(true,5),(true,6),(true,3),(false,8),(false,9),(true,7),(false,10),(false,11),(false,12),(false,13)] bB (fun _ _ _ h=>fW (P:=prog) (fn:=f192) _ _ _ h) Yg rfl<|Zj rfl dT rfl<|Zj rfl fH rfl<|Zp rfl cD rfl Mm0 rfl<|Zj rfl dT rfl<|Zj rfl nE rfl<|Zp rfl I5 rfl Mm0 rfl ?_;refine fX rfl rfl rfl (fun D22 hJ=>zF _ s.row.places _ (hL.pl.up RI.up (hJ _ Yf)) (by have:=hsm.pl;omega)) rfl bSM (fun I D23 ν1 hY U=>Zj rfl dT rfl<|Zj rfl fH rfl<|fX rfl rfl rfl (fun D24 hK=>aGP _ s.row.counts _ (hL.ct.up RC.up (hK _ Yf)) (by have:=hsm.ct;omega)) rfl bSM fun O D25 ν2 rA V=>Zaa ((ν2++ν1)++(q1,_)::[]) ((bND _ _ _).symm)<|Zs (dO s I cv hv lv mv bl bc yc yq) rfl U.cells1 fR (.app .head) rfl U.cell1<|Zj rfl dT rfl<|Zj rfl nE rfl<|Zs (dO s I O hv lv mv bl bc yc yq) rfl V.cells1 NW (.app .head) rfl V.cell1<|bO<|iZ [] 2 [0,1,2,4,5,6,8,9,10,3,12,13,7,11,14,15,16,17,18,19,20] [false,false,false,true,true,true,true,true,true,true,false,false,true,true,false,false,false,false,false,false,false] [(false,0),(false,1),(false,2),(true,4),(true,5),(true,6),(true,8),(true,9),(true,10),(true,3),(false,12),(false,13),(true,7),(true,11),(false,14),(false,15),(false,16),(false,17),(false,18),(false,19),(false,20)] bB (fun _ _ _ h=>fW (P:=prog) (fn:=f192) _ _ _ h) Yg rfl<|Zj rfl cY rfl ?_);refine Zj rfl lU rfl<|Zp rfl xE rfl (GE _ Mm0) rfl<|Zj rfl cY rfl<|Zj rfl lT rfl<|Zp rfl cD rfl (GE _ Mm0) rfl<|Zj rfl cY rfl<|Zj rfl mO rfl<|Zp rfl I9 rfl (GE _ Mm0) rfl<|fX rfl rfl rfl (fun D26 hN=>aJD _ s.table.heights _ (hL.ht.up AV.up (hN _ Yf)) (by have:=hsm.ht;omega)) rfl bSM (fun R D27 ν3 rB Y=>Zj rfl cY rfl<|Zj rfl lU rfl<|fX rfl rfl rfl (fun D28 hO=>zF _ s.table.levels _ (hL.lev.up RI.up (hO _ Yf)) (by have:=hsm.lev;omega)) rfl bSM fun Z D29 ν4 hD29 hB=>?_);refine fX rfl rfl rfl (fun D30 hP=>aHJ _ s.table.marks _ (hL.mks.up UV.up (hP _ Yf)) (by have:=hsm.mks;omega)) rfl bSM fun w5 D31 ν5 hD31 hE=>Zaa ((ν5++(ν4++(ν3++(ν2++ν1))))++(q1,_)::[]) (bKD _ _ _ _ _)<|Zs (dO s I O R lv mv bl bc yc yq) rfl Y.cells1 aBM (.app .head) rfl Y.cell1<|Zj rfl cY rfl<|Zj rfl lT rfl<|Zs (dO s I O R Z mv bl bc yc yq) rfl hB.cells1 fR (.app .head) rfl hB.cell1<|Zj rfl cY rfl<|Zj rfl mO rfl<|Zs (dO s I O R Z w5 bl bc yc yq) rfl hE.cells1 OS (.app .head) rfl hE.cell1<|aJ<|Zj rfl fV rfl<|Zj rfl dM rfl ?_;refine Zp rfl iB rfl (GE _ Mm0) rfl<|fX rfl rfl rfl (fun D32 hR=>aMJ _ s.book.lines _ (hL.ln.up tZ.up (hR _ Yf)) (by have:=hsm.ln;omega)) rfl bSM fun w6 D33 ν6 hD33 hF=>Zj rfl fV rfl<|Zj rfl dM rfl<|Zaa ((ν6++(ν5++(ν4++(ν3++(ν2++ν1)))))++(q1,_)::[]) ((bND _ _ _).symm)<|Zs (dO s I O R Z w5 w6 bc yc yq) rfl hF.cells1 eR (.app .head) rfl hF.cell1<|bO<|iZ [] 2 [0,1,2,4,5,6,3,8,9,7,10,11,12,13] [false,false,false,true,true,true,true,false,false,true,false,false,false,false] [(false,0),(false,1),(false,2),(true,4),(true,5),(true,6),(true,3),(false,8),(false,9),(true,7),(false,10),(false,11),(false,12),(false,13)] bB (fun _ _ _ h=>fW (P:=prog) (fn:=f192) _ _ _ h) Yg rfl<|Zj rfl eX rfl<|Zj rfl iF rfl<|Zp rfl pL rfl (GE _ Mm0) rfl<|Zj rfl eX rfl ?_;refine Zj rfl mR rfl<|Zp rfl J4 rfl (GE _ Mm0) rfl<|fX rfl rfl rfl (fun D34 hS=>aHW _ s.yard.chairs _ (hL.ch.up A3.up (hS _ Yf)) (by have:=hsm.ch;omega)) rfl bSM (fun w7 D35 ν7 hD35 hH=>Zj rfl eX rfl<|Zj rfl iF rfl<|fX rfl rfl rfl (fun D36 hX=>aJH _ s.yard.claims _ (hL.cl.up R2.up (hX _ Yf)) (by have:=hsm.cl;omega)) rfl bSM fun w8 D37 ν8 hD37 hI=>Zaa ((ν8++(ν7++(ν6++(ν5++(ν4++(ν3++(ν2++ν1)))))))++(q1,_)::[]) (bKA _ _ _ _)<|Zs (dO s I O R Z w5 w6 bc w7 yq) rfl hH.cells1 YM (.app .head) rfl hH.cell1<|Zj rfl eX rfl<|Zj rfl mR rfl<|Zs (dO s I O R Z w5 w6 bc w7 w8) rfl hI.cells1 PQ (.app .head) rfl hI.cell1<|aJ ?_);refine Zag rfl kC rfl (GE _ Mm0) eD<|jM (cs:=(dO s I O R Z w5 w6 bc w7 w8)) rfl aZV aZR rfl Yg rfl bSM<|EQ rfl (e:=343) rfl rfl rfl bSM fun q2=>We ?_
 exact fun a w hh=>aCO (P:=prog) (fn:=f192) (vs:=[_]) rfl rfl rfl ⟨rfl,bSM⟩ (fun D hD=>⟨q2,I,O,R,Z,w5,w6,bc,w7,w8,ν1,ν2,ν3,ν4,ν5,ν6,ν7,ν8,rfl,rfl,U,V,Y,hB,hE,hF,hL.cn.up vK.up (hD _ Yf),hH,hI⟩) a w (hh.subB (List.Sublist.cons_cons _ (List.sublist_append_left _ _)))
theorem aHQ(wb:Nat)(s:aM)(pv cv hv lv mv bl bc yc yq nv:Γ)(a:Int)(D:aC)(hn:Sl D RI 1 nv [a]):kH prog 271 [qP wb,nv] D [(wb,qC (dO s pv cv hv lv mv bl bc yc yq) 343)] (fun _ _ ν'=>a≤6∧ν'=[(wb,qC [pv,cv,qI a,qI s.row.off,qI s.table.last,hv,qI s.table.step,lv,mv,qI s.book.chairs,qI s.book.coin,qI s.book.box,bl,bc,yc,qI s.yard.fit,yq] 343)]) (fun v=>6<a∧v=fZ 2):=by
 refine eI 16 func271 rfl rfl rfl rfl fun h0 hwl hwn=>aA<|Za rfl<|iW rfl hn rfl rfl fun U V=>Zl [(_,_)] [] [] rfl (bNC Yi) (fun Y I=>wH a 6 _) (fun v5 R I hp5=>cS (P:=prog) (fn:=f271) rfl ⟨hp5.1,hp5.2⟩) fun v5 R ν5 I hp5=>?_;obtain⟨O,rfl⟩:=hp5;refine aF<|aO<|Za rfl<|Za rfl<|iW rfl hn rfl rfl fun b2 Z=>Zam rfl<|Zj rfl aY rfl<|Zj rfl dT rfl<|Zj rfl FB rfl<|cR (ws:=[pv,cv,qI a,qI s.row.off,qI s.table.last,hv,qI s.table.step,lv,mv,qI s.book.chairs,qI s.book.coin,qI s.book.box,bl,bc,yc,qI s.yard.fit,yq]) rfl rfl rfl rfl aH .head Yf rfl Yk bSM<|Zao ?_;exact eC rfl fun D' hD=>⟨O,rfl⟩
theorem bAU(wb:Nat)(s:aM)(pv cv hv lv mv bl bc yc yq nv:Γ)(a:Int)(D:aC)(hn:Sl D RI 1 nv [a]):kH prog 272 [qP wb,nv] D [(wb,qC (dO s pv cv hv lv mv bl bc yc yq) 343)] (fun _ _ ν'=>a≤9∧ν'=[(wb,qC [pv,cv,qI s.row.wrong,qI a,qI s.table.last,hv,qI s.table.step,lv,mv,qI s.book.chairs,qI s.book.coin,qI s.book.box,bl,bc,yc,qI s.yard.fit,yq] 343)]) (fun v=>9<a∧v=fZ 2):=by
 refine eI 16 func272 rfl rfl rfl rfl fun h0 hwl hwn=>aA<|Za rfl<|iW rfl hn rfl rfl fun U V=>Zl [(_,_)] [] [] rfl (bNC Yi) (fun Y I=>wH a 9 _) (fun v5 R I hp5=>cS (P:=prog) (fn:=f272) rfl ⟨hp5.1,hp5.2⟩) fun v5 R ν5 I hp5=>?_;obtain⟨O,rfl⟩:=hp5;refine aF<|aO<|Za rfl<|Za rfl<|iW rfl hn rfl rfl fun b2 Z=>Zam rfl<|Zj rfl aY rfl<|Zj rfl dT rfl<|Zj rfl j2 rfl<|cR (ws:=[pv,cv,qI s.row.wrong,qI a,qI s.table.last,hv,qI s.table.step,lv,mv,qI s.book.chairs,qI s.book.coin,qI s.book.box,bl,bc,yc,qI s.yard.fit,yq]) rfl rfl rfl rfl aH .head Yf rfl Yk bSM<|Zao ?_;exact eC rfl fun D' hD=>⟨O,rfl⟩
theorem aST(wb:Nat)(s:aM)(pv cv hv lv mv bl bc yc yq nv:Γ)(a:Int)(D:aC)(hn:Sl D RI 1 nv [a]):kH prog 274 [qP wb,nv] D [(wb,qC (dO s pv cv hv lv mv bl bc yc yq) 343)] (fun _ _ ν'=>a≤99∧ν'=[(wb,qC [pv,cv,qI s.row.wrong,qI s.row.off,qI s.table.last,hv,qI a,lv,mv,qI s.book.chairs,qI s.book.coin,qI s.book.box,bl,bc,yc,qI s.yard.fit,yq] 343)]) (fun v=>99<a∧v=fZ 2):=by
 refine eI 16 func274 rfl rfl rfl rfl fun h0 hwl hwn=>aA<|Za rfl<|iW rfl hn rfl rfl fun U V=>Zl [(_,_)] [] [] rfl (bNC Yi) (fun Y I=>wH a 99 _) (fun v5 R I hp5=>cS (P:=prog) (fn:=f274) rfl ⟨hp5.1,hp5.2⟩) fun v5 R ν5 I hp5=>?_;obtain⟨O,rfl⟩:=hp5;refine aF<|aO<|Za rfl<|Za rfl<|iW rfl hn rfl rfl fun b2 Z=>Zam rfl<|Zj rfl aY rfl<|Zj rfl cY rfl<|Zj rfl L9 rfl<|cR (ws:=[pv,cv,qI s.row.wrong,qI s.row.off,qI s.table.last,hv,qI a,lv,mv,qI s.book.chairs,qI s.book.coin,qI s.book.box,bl,bc,yc,qI s.yard.fit,yq]) rfl rfl rfl rfl aH .head Yf rfl Yk bSM<|Zao ?_;exact eC rfl fun D' hD=>⟨O,rfl⟩
theorem aXY(wb:Nat)(s:aM)(pv cv hv lv mv bl bc yc yq nv:Γ)(a:Int)(D:aC)(hn:Sl D RI 1 nv [a]):kH prog 285 [qP wb,nv] D [(wb,qC (dO s pv cv hv lv mv bl bc yc yq) 343)] (fun _ _ ν'=>a≤9∧ν'=[(wb,qC [pv,cv,qI s.row.wrong,qI s.row.off,qI s.table.last,hv,qI s.table.step,lv,mv,qI s.book.chairs,qI s.book.coin,qI s.book.box,bl,bc,yc,qI a,yq] 343)]) (fun v=>9<a∧v=fZ 2):=by
 refine eI 16 func285 rfl rfl rfl rfl fun h0 hwl hwn=>aA<|Za rfl<|iW rfl hn rfl rfl fun U V=>Zl [(_,_)] [] [] rfl (bNC Yi) (fun Y I=>wH a 9 _) (fun v5 R I hp5=>cS (P:=prog) (fn:=f285) rfl ⟨hp5.1,hp5.2⟩) fun v5 R ν5 I hp5=>?_;obtain⟨O,rfl⟩:=hp5;refine aF<|aO<|Za rfl<|Za rfl<|iW rfl hn rfl rfl fun b2 Z=>Zam rfl<|Zj rfl aY rfl<|Zj rfl eX rfl<|Zj rfl N4 rfl<|cR (ws:=[pv,cv,qI s.row.wrong,qI s.row.off,qI s.table.last,hv,qI s.table.step,lv,mv,qI s.book.chairs,qI s.book.coin,qI s.book.box,bl,bc,yc,qI a,yq]) rfl rfl rfl rfl aH .head Yf rfl Yk bSM<|Zao ?_;exact eC rfl fun D' hD=>⟨O,rfl⟩
section
variable{P:Program}{X:Cx}{γb:Type}[Membership Nat γb]{bad:γb}{all:Array Oper}{K:Act→Δ→Prop}{Q:Exit→Act→Δ→Prop}
variable{σ:bU}{μ:aD}{Ds:List aC}{os:List (Bool×Nat)}{fl:Bool}{ix d:Nat}{x y:Operand}{v:Γ}{ty:Θ}{pos:String}{aft:Array Edge}{g:Option (Nat×Bool)}
variable{α:Type}{f:α→List Γ}{n:Nat}
theorem xF(A B:aD)(hf:aNI f n)(z:α){ν:aD}{D₁:aC}{t e tr:Θ}{xs:List α}{sv z0:Γ}{U c9:Nat}{ats:Array Θ}
  (ho:all[ix]?= some ⟨some d,.call {callee:=.builtin .append,args:=#[x,y],argTypes:=ats},tr,pos,aft,g⟩) (ht:P.underlying t=some (.slice e)) (hat:ats[0]?= some t) (I:ats[1]?= some t)
  (hs:TS P e n) (hz:TZ P e z0) (R:Nat.beq z0.cells.size n=true) (hi:(P.info? e).map (fun i=>Nat.ble 1 i.bytes&&Nat.ble i.bytes 4096)=some true) (O:Nat.ble 1 n=true)
  (hx:ev σ x=some sv) (hy:ev σ y=some (qS U 1 c9)) (ha:bI e n sv xs.length (xs.flatMap f) ν) (hA:At D₁ U 0 (f z)) (hlen:xs.length+1≤10000000) (hfl:fl=false∨∀p∈ν,p.1∈bad) (hg:cQ all σ g)
  (kk:∀v' ν',bI e n v' (xs++[z]).length ((xs++[z]).flatMap f) ν'→WL P X bad all K Q os ((d,v')::σ) (A++ν'++B) Ds) (hD:D₁∈Ds:=by simp) (hN:Nat.blt d X.N=true:=by rfl):WL P X bad all K Q ((fl,ix)::os) σ (A++ν++B) Ds:=
 aS (A:=A) (B:=B) ho ht hat I hs hz R hi O hx hy ha (jY.lit hA) hD (by rw[hf.1,Nat.one_mul]) (dD hf.1 xs) (hf.2 z) hlen hfl hN hg fun v' ν' h=>kk v' ν' (by rw[LE,bOC,bPM];exact h)
theorem zS(hf:aNI f n)(z:α){I:Nat×Obj}{ν:aD}{D₁:aC}{t e tr:Θ}{xs:List α}{sv z0:Γ}{V c9:Nat}{ats:Array Θ}
  (ho:all[ix]?= some ⟨some d,.call {callee:=.builtin .append,args:=#[x,y],argTypes:=ats},tr,pos,aft,g⟩) (ht:P.underlying t=some (.slice e)) (hat:ats[0]?= some t) (O:ats[1]?= some t)
  (hs:TS P e n) (hz:TZ P e z0) (U:Nat.beq z0.cells.size n=true) (hi:(P.info? e).map (fun i=>Nat.ble 1 i.bytes&&Nat.ble i.bytes 4096)=some true) (R:Nat.ble 1 n=true)
  (hx:ev σ x=some sv) (hy:ev σ y=some (qS V 1 c9)) (ha:bI e n sv xs.length (xs.flatMap f) ν) (hA:At D₁ V 0 (f z)) (hlen:xs.length+1≤10000000) (hfl:fl=false∨∀p∈ν,p.1∈bad) (hg:cQ all σ g)
  (kk:∀v' ν',bI e n v' (xs++[z]).length ((xs++[z]).flatMap f) ν'→WL P X bad all K Q os ((d,v')::σ) (I::ν') Ds) (hD:D₁∈Ds:=by simp) (hN:Nat.blt d X.N=true:=by rfl):WL P X bad all K Q ((fl,ix)::os) σ (I::ν) Ds:=
 aV ([I]++ν++[]) Yf (xF [I] [] hf z ho ht hat O hs hz U hi R hx hy ha hA hlen hfl hg (fun v' ν' h=>aV (I::ν') Yf (kk v' ν' h)) hD hN)
end
theorem eP{D:aC}{bt ot n ct:Nat}{a:Int}{l:List Int}(h:Sl D RI 1 (.slice (some ⟨bt,ot,none⟩) n ct) (a::l)):At D bt ot [qI a]:=by
 obtain⟨x,cap,hv,h1,h2,h3⟩:=h;cases hv;rcases h3 with h3|⟨b,o,ha,h3⟩
 ·cases h3
 ·cases ha;obtain⟨cs,hr,hc,hA⟩:=h3 0 a rfl;obtain rfl:cs=[qI a]:=hr;simpa using hA
theorem fG{bt wb:Nat}{o:Obj}{ν:aD}(h1:bt∉aD.ks ((wb,o)::ν))(h2:(aD.ks ((wb,o)::ν)).Nodup):∀p∈ν,p.1∉[bt,wb]:=by
 intro p hp hm;have hk:p.1∈ν.ks:=bMR.2 ⟨p,hp,rfl⟩;simp only[LT,n4,bOZ]at hm;rcases hm with e|e
 ·exact h1 (bMT _ (e▸hk))
 ·exact(bOT.1 h2).1 (e▸hk)
theorem aID(wb:Nat)(s:aM)(pv cv hv lv mv bl bc yc yq nv:Γ)(ν:aD)(D:aC)(ha:bI 3 1 pv s.row.places.length (s.row.places.flatMap cI) ν)(hsm:s.row.places.length≤100):kH prog 266 [qP wb,nv] D ((wb,qC (dO s pv cv hv lv mv bl bc yc yq) 343)::ν) (fun _ _ ν'=>((s.row.places.length:Int)<7)∧∃v1 ν1,ν'=(wb,qC (dO s v1 cv hv lv mv bl bc yc yq) 343)::ν1∧bI 3 1 v1 (s.row.places++[2]).length ((s.row.places++[2]).flatMap cI) ν1) (fun v=>7≤(s.row.places.length:Int)∧v=fZ 3):=by
 refine eI 25 func266 rfl rfl rfl rfl fun h0 hwl hwn=>aA<|Za rfl<|Zam rfl<|Zj rfl aY rfl<|Zj rfl dT rfl<|Zj rfl fH rfl<|Zp rfl cD rfl Mm0 rfl<|bR rfl U25 rfl ha rfl rfl bSM<|Zl [(_,_)] ν [] rfl (Or.inr Yi) (fun D5 R=>A8 (s.row.places.length:Int) 7 _) (fun v5 D6 R hp5=>cS (P:=prog) (fn:=f266) rfl ⟨hp5.1,hp5.2⟩) fun v5 D6 ν5 R hp5=>?_;obtain⟨U,rfl⟩:=hp5;refine aF<|aO<|Za rfl<|Za rfl<|Zam rfl<|Zj rfl aY rfl<|Zj rfl dT rfl<|Zj rfl fH rfl<|Zp rfl cD rfl Mm0 rfl<|Zt rfl U25 aH cE rfl (.cons rfl rfl .nil) fun Z hB V I=>?_;have Y:=Sl.ofInts (l:=[_]) (n:=1) (cap:=1) I rfl Yd Yd;refine zS aNH 2 rfl U25 rfl rfl aH cE rfl kD rfl rfl rfl ha I Yd Yp bSM fun v1 ν1 O=>Zam rfl<|Zj rfl aY rfl<|Zj rfl dT rfl<|Zj rfl fH rfl<|Zs (dO s v1 cv hv lv mv bl bc yc yq) rfl O.cells1 fR .head rfl O.cell1<|Zao ?_;exact eC rfl fun D' hD=>⟨U,v1,ν1,rfl,O⟩
theorem aKY(wb:Nat)(s:aM)(pv cv hv lv mv bl bc yc yq nv:Γ)(a:Int)(ν:aD)(D:aC)(hn:Sl D RI 1 nv [a])(ha:bI 3 1 lv s.table.levels.length (s.table.levels.flatMap cI) ν)(hsm:s.table.levels.length≤100):kH prog 275 [qP wb,nv] D ((wb,qC (dO s pv cv hv lv mv bl bc yc yq) 343)::ν) (fun _ _ ν'=>(a≤99∧(s.table.levels.length:Int)<6)∧∃v1 ν1,ν'=(wb,qC (dO s pv cv hv v1 mv bl bc yc yq) 343)::ν1∧bI 3 1 v1 (s.table.levels++[a]).length ((s.table.levels++[a]).flatMap cI) ν1) (fun v=>(99<a∧v=fZ 2)∨(a≤99∧6≤(s.table.levels.length:Int)∧v=fZ 3)):=by
 obtain⟨bt,ot,ct,rfl⟩:=dB hn Yf;have hbt:=eP hn;refine eI 32 func275 rfl rfl rfl rfl fun h0 hwl hwn=>aA<|Za rfl<|aT rfl hn<|Zl [(_,_)] ν [] rfl (Or.inr Yi) (fun D5 U=>wH a 99 _) (fun v5 D6 U hp5=>cS (P:=prog) (fn:=f275) rfl (bNI ⟨hp5.1,hp5.2⟩)) fun v5 D6 ν5 U hp5=>?_;obtain⟨V,rfl⟩:=hp5;refine aJ<|Za rfl<|Zam rfl<|Zj rfl aY rfl<|Zj rfl cY rfl<|Zj rfl lT rfl<|Zp rfl cD rfl Mm0 rfl<|bR rfl U25 rfl ha rfl rfl bSM<|Zl [(_,_)] ν [] rfl (Or.inr Yi) (fun D7 Y=>A8 (s.table.levels.length:Int) 6 _) (fun v7 D8 Y O=>cS (P:=prog) (fn:=f275) rfl (bNC ⟨V,O.1,O.2⟩)) fun v7 D8 ν7 Y O=>?_;obtain⟨Z,rfl⟩:=O;refine aF<|fN hbt Yf fun hap=>pF fun hnd=>?_;have hnu:=fG hap hnd;have hwbo:wb∉cZ.mk [bt,wb]:=cZ.out Yf;have hbto:bt∉cZ.mk [bt,wb]:=cZ.out Yf;refine aU (cZ.mk [bt,wb]) 4 17 4094<|Za rfl<|Za rfl<|Zam rfl<|Zj rfl aY rfl<|Zj rfl cY rfl<|Zj rfl lT rfl<|bD rfl cD rfl Mm0 rfl Yl rfl bSM<|Za rfl<|aT rfl hn<|Zt rfl U25 aH cE rfl (.cons rfl rfl .nil) fun hF hH hB I=>?_;have hE:=Sl.ofInts (l:=[_]) (n:=1) (cap:=1) I rfl Yd Yd;refine zS aNH a rfl U25 rfl rfl aH cE rfl kD rfl rfl rfl ha I Yd Yp bSM fun v1 ν1 R=>Zam rfl<|Zj rfl aY rfl<|Zj rfl cY rfl<|Zj rfl lT rfl<|Zs (dO s pv cv hv v1 mv bl bc yc yq) rfl R.cells1 fR .head rfl R.cell1<|Zao ?_;exact eC rfl fun D' hD=>⟨⟨V,Z⟩,v1,ν1,rfl,R⟩
theorem aMS(wb:Nat)(s:aM)(pv cv hv lv mv bl bc yc yq nv:Γ)(a b:Int)(ν:aD)(D:aC)(hn:Sl D RI 1 nv [a,b])(ha:bI 90 2 yq s.yard.claims.length (s.yard.claims.flatMap cP) ν)(hsm:s.yard.claims.length≤100):kH prog 286 [qP wb,nv] D ((wb,qC (dO s pv cv hv lv mv bl bc yc yq) 343)::ν) (fun _ _ ν'=>((a≤b∧b≤7)∧(s.yard.claims.length:Int)<5)∧∃v1 ν1,ν'=(wb,qC (dO s pv cv hv lv mv bl bc yc v1) 343)::ν1∧bI 90 2 v1 (s.yard.claims++[(a,b)]).length ((s.yard.claims++[(a,b)]).flatMap cP) ν1) (fun v=>((b<a∨7<b)∧v=fZ 2)∨((a≤b∧b≤7)∧5≤(s.yard.claims.length:Int)∧v=fZ 3)):=by
 obtain⟨bt,ot,ct,rfl⟩:=dB hn Yf;have hbt:=eP hn;refine eI 39 func286 rfl rfl rfl rfl fun h0 hwl hwn=>Za3<|aU [] 3 7 56<|Za rfl<|aT rfl hn<|Za rfl<|aT rfl hn<|Zl [(_,_)] ν [] rfl (Or.inr Yi) (fun D5 U=>MN a b 7 _) (fun v5 D6 U hp5=>cS (P:=prog) (fn:=f286) rfl (bNI ⟨hp5.1,hp5.2⟩)) fun v5 D6 ν5 U hp5=>?_;obtain⟨V,rfl⟩:=hp5;refine aJ<|Za rfl<|Zam rfl<|Zj rfl aY rfl<|Zj rfl eX rfl<|Zj rfl mR rfl<|Zp rfl J4 rfl Mm0 rfl<|bR rfl U38 rfl ha rfl rfl bSM<|Zl [(_,_)] ν [] rfl (Or.inr Yi) (fun D7 Y=>A8 (s.yard.claims.length:Int) 5 _) (fun v7 D8 Y I=>cS (P:=prog) (fn:=f286) rfl (bNC ⟨V,I.1,I.2⟩)) fun v7 D8 ν7 Y I=>?_;obtain⟨Z,rfl⟩:=I;refine aF<|fN hbt Yf fun hap=>pF fun hnd=>?_;have hnu:=fG hap hnd;have hwbo:wb∉cZ.mk [bt,wb]:=cZ.out Yf;have hbto:bt∉cZ.mk [bt,wb]:=cZ.out Yf;refine aU (cZ.mk [bt,wb]) 4 21 65534<|Wbv ?_;refine Zu [qI a,qI b] rfl FI nH rfl<|Zt rfl U38 dV nH rfl (.cons rfl rfl .nil) fun hE hF hB O=>zS bIF (a,b) rfl U38 rfl rfl dV nH rfl aSD rfl rfl rfl ha O Yd Yp bSM fun v1 ν1 R=>Zam rfl<|Zj rfl aY rfl<|Zj rfl eX rfl<|Zj rfl mR rfl<|Zs (dO s pv cv hv lv mv bl bc yc v1) rfl R.cells1 PQ .head rfl R.cell1<|Zao ?_;exact eC rfl fun D' hD=>⟨⟨V,Z⟩,v1,ν1,rfl,R⟩
theorem BR(wb:Nat)(s:aM)(pv cv hv lv mv bl bc yc yq nv:Γ)(a b:Int)(ν:aD)(D:aC)(hn:Sl D RI 1 nv [a,b])(ha:bI 206 3 bl s.book.lines.length (s.book.lines.flatMap cL) ν)(hsm:s.book.lines.length≤100)(kd:Int):kH prog 347 [qP wb,nv,qI kd] D ((wb,qC (dO s pv cv hv lv mv bl bc yc yq) 343)::ν) (fun _ _ ν'=>(max a b<s.book.chairs∧(s.book.lines.length:Int)<8)∧∃v1 ν1,ν'=(wb,qC (dO s pv cv hv lv mv v1 bc yc yq) 343)::ν1∧bI 206 3 v1 (s.book.lines++[(⟨kd,a,b⟩:C3.eS)]).length ((s.book.lines++[(⟨kd,a,b⟩:C3.eS)]).flatMap cL) ν1) (fun v=>(s.book.chairs≤max a b∧v=fZ 7)∨(max a b<s.book.chairs∧8≤(s.book.lines.length:Int)∧v=fZ 3)):=by
 obtain⟨bt,ot,ct,rfl⟩:=dB hn Yf;have hbt:=eP hn;refine eI 49 func347 rfl rfl rfl rfl fun h0 hwl hwn=>Za3<|aU [] 6 14 8120<|Za rfl<|aT rfl hn<|Za rfl<|aT rfl hn<|qW rfl rfl rfl rfl bSM<|Za rfl<|Zam rfl<|Zj rfl aY rfl<|Zj rfl fV rfl ?_;refine Zj rfl wC rfl<|Zp rfl aI rfl Mm0 rfl<|Zl [(_,_)] ν [] rfl (Or.inr Yi) (fun D5 U=>lR (max a b) s.book.chairs _) (fun v5 D6 U hp5=>cS (P:=prog) (fn:=f347) rfl (bNI ⟨hp5.1,hp5.2⟩)) fun v5 D6 ν5 U hp5=>?_;obtain⟨V,rfl⟩:=hp5;refine aJ<|Za rfl<|Zam rfl<|Zj rfl aY rfl<|Zj rfl fV rfl<|Zj rfl dM rfl<|Zp rfl iB rfl Mm0 rfl<|bR rfl U33 rfl ha rfl rfl bSM<|Zl [(_,_)] ν [] rfl (Or.inr Yi) (fun D7 Y=>A8 (s.book.lines.length:Int) 8 _) (fun v7 D8 Y I=>cS (P:=prog) (fn:=f347) rfl (bNC ⟨V,I.1,I.2⟩)) fun v7 D8 ν7 Y I=>?_;obtain⟨Z,rfl⟩:=I;refine aF<|fN hbt Yf fun hap=>pF fun hnd=>?_;have hnu:=fG hap hnd;have hwbo:wb∉cZ.mk [bt,wb]:=cZ.out Yf;have hbto:bt∉cZ.mk [bt,wb]:=cZ.out Yf;refine aU (cZ.mk [bt,wb]) 4 22 131070<|Za rfl<|Za rfl<|Zam rfl<|Zj rfl aY rfl<|Zj rfl fV rfl<|Zj rfl dM rfl<|bD rfl iB rfl Mm0 rfl Yl rfl bSM<|Za rfl<|Za rfl<|aT rfl hn<|Za rfl ?_;refine aT rfl hn<|Zu [qI kd,qI a,qI b] rfl aDT kO rfl<|Zt rfl U33 cG kO rfl (.cons rfl rfl .nil) fun hE hF hB O=>zS bFN (⟨kd,a,b⟩:C3.eS) rfl U33 rfl rfl cG kO rfl c8 rfl rfl rfl ha O Yd Yp bSM fun v1 ν1 R=>Zam rfl<|Zj rfl aY rfl<|Zj rfl fV rfl<|Zj rfl dM rfl<|Zs (dO s pv cv hv lv mv v1 bc yc yq) rfl R.cells1 eR .head rfl R.cell1<|Zao ?_;exact eC rfl fun D' hD=>⟨⟨V,Z⟩,v1,ν1,rfl,R⟩
theorem BW(wb:Nat)(s:aM)(pv cv hv lv mv bl bc yc yq nv:Γ)(a b:Int)(ν:aD)(D:aC)(hn:Sl D RI 1 nv [a,b])(ha:bI 202 3 cv s.row.counts.length (s.row.counts.flatMap cC) ν)(hsm:s.row.counts.length≤100)(bk:Bool)(hpl:∃x c,pv=.slice x s.row.places.length c):kH prog 343 [qP wb,nv,.bool bk] D ((wb,qC (dO s pv cv hv lv mv bl bc yc yq) 343)::ν) (fun _ _ ν'=>((a≤(s.row.places.length:Int)∧b≤9)∧(s.row.counts.length:Int)<6)∧∃v1 ν1,ν'=(wb,qC (dO s pv v1 hv lv mv bl bc yc yq) 343)::ν1∧bI 202 3 v1 (s.row.counts++[(⟨bk,a,b⟩:C1.xW)]).length ((s.row.counts++[(⟨bk,a,b⟩:C1.xW)]).flatMap cC) ν1) (fun v=>(((s.row.places.length:Int)<a∨9<b)∧v=fZ 2)∨((a≤(s.row.places.length:Int)∧b≤9)∧6≤(s.row.counts.length:Int)∧v=fZ 3)):=by
 obtain⟨bt,ot,ct,rfl⟩:=dB hn Yf;have hbt:=eP hn;refine eI 52 func343 rfl rfl rfl rfl fun h0 hwl hwn=>Za3<|aU [] 9 17 31736<|Za rfl<|aT rfl hn<|Za rfl<|Zam rfl<|Zj rfl aY rfl<|Zj rfl dT rfl<|Zj rfl fH rfl<|Zp rfl cD rfl Mm0 rfl ?_;obtain⟨aq,cq,hq⟩:=hpl;refine aUQ rfl U25 rfl hq rfl rfl bSM<|Zaq rfl<|Za rfl<|aT rfl hn<|Zaq rfl<|Zt rfl U401 mG pV rfl (.cons rfl rfl (.cons rfl rfl .nil)) fun hH hI hB O=>Zl [(_,_)] ν [] rfl (bNC Yi) (fun D5 R=>gD 2 [decide ((s.row.places.length:Int)<a),decide (9<b)] _ _ ((iP (l:=[decide ((s.row.places.length:Int)<a),decide (9<b)]) (fun _ _ _ h=>h) O Yf).up RB.up (R _ Yf))) (fun v5 D6 R hp5=>cS (P:=prog) (fn:=f343) rfl (bNI ⟨Xbl,hp5.2⟩)) fun v5 D6 ν5 R hp5=>?_;obtain⟨hf50,rfl⟩:=hp5;have Y:a≤(s.row.places.length:Int)∧b≤9:=Xaw
 refine aJ<|Za rfl<|Zam rfl<|Zj rfl aY rfl<|Zj rfl dT rfl<|Zj rfl nE rfl<|Zp rfl I5 rfl Mm0 rfl<|bR rfl U26 rfl ha rfl rfl bSM<|Zl [(_,_)] ν [] rfl (Or.inr Yi) (fun D7 Z=>A8 (s.row.counts.length:Int) 6 _) (fun v7 D8 Z I=>cS (P:=prog) (fn:=f343) rfl (bNC ⟨Y,I.1,I.2⟩)) fun v7 D8 ν7 Z I=>?_;obtain⟨hE,rfl⟩:=I;refine aF<|fN hbt Yf fun hap=>pF fun hnd=>?_;have hnu:=fG hap hnd;have hwbo:wb∉cZ.mk [bt,wb]:=cZ.out Yf;have hbto:bt∉cZ.mk [bt,wb]:=cZ.out Yf;refine aU (cZ.mk [bt,wb]) 4 22 131070<|Za rfl<|Za rfl<|Zam rfl<|Zj rfl aY rfl<|Zj rfl dT rfl<|Zj rfl nE rfl<|bD rfl I5 rfl Mm0 rfl Yl rfl bSM<|Za rfl<|Za rfl<|aT rfl hn<|Za rfl ?_;refine aT rfl hn<|Zu [.bool bk,qI a,qI b] rfl bBI A5 rfl<|Zt rfl U26 kM A5 rfl (.cons rfl rfl .nil) fun hJ hK hF U=>zS bLU (⟨bk,a,b⟩:C1.xW) rfl U26 rfl rfl kM A5 rfl aEJ rfl rfl rfl ha U Yd Yp bSM fun v1 ν1 V=>Zam rfl<|Zj rfl aY rfl<|Zj rfl dT rfl<|Zj rfl nE rfl<|Zs (dO s pv v1 hv lv mv bl bc yc yq) rfl V.cells1 NW .head rfl V.cell1<|Zao ?_;exact eC rfl fun D' hD=>⟨⟨Y,hE⟩,v1,ν1,rfl,V⟩
theorem aSH(wb:Nat)(s:aM)(pv cv hv lv mv bl bc yc yq nv:Γ)(a b c d:Int)(ν:aD)(D:aC)(hn:Sl D RI 1 nv [a,b,c,d])(ha:bI 204 4 mv s.table.marks.length (s.table.marks.flatMap cM) ν)(hsm:s.table.marks.length≤100)(hht:∃x c,hv=.slice x s.table.heights.length c):kH prog 277 [qP wb,nv] D ((wb,qC (dO s pv cv hv lv mv bl bc yc yq) 343)::ν) (fun _ _ ν'=>(max a b<(s.table.heights.length:Int)∧a≤b∧(c≤d∧d≤99)∧(s.table.marks.length:Int)<5)∧∃v1 ν1,ν'=(wb,qC (dO s pv cv hv lv v1 bl bc yc yq) 343)::ν1∧bI 204 4 v1 (s.table.marks++[(⟨a,b,c,d⟩:C2.Mk)]).length ((s.table.marks++[(⟨a,b,c,d⟩:C2.Mk)]).flatMap cM) ν1) (fun v=>((s.table.heights.length:Int)≤max a b∧v=fZ 7)∨(max a b<(s.table.heights.length:Int)∧b<a∧v=fZ 2)∨(max a b<(s.table.heights.length:Int)∧a≤b∧(d<c∨99<d)∧v=fZ 2)∨(max a b<(s.table.heights.length:Int)∧a≤b∧(c≤d∧d≤99)∧5≤(s.table.marks.length:Int)∧v=fZ 3)):=by
 obtain⟨bt,ot,ct,rfl⟩:=dB hn Yf;have hbt:=eP hn;refine eI 70 func277 rfl rfl rfl rfl fun h0 hwl hwn=>Za3<|aU [] 7 15 16312<|Za rfl<|aT rfl hn<|Za rfl<|aT rfl hn<|qW rfl rfl rfl rfl bSM<|Za rfl<|Zam rfl<|Zj rfl aY rfl<|Zj rfl cY rfl ?_;refine Zj rfl lU rfl<|Zp rfl xE rfl Mm0 rfl ?_;obtain⟨aq,cq,hq⟩:=hht;refine aUQ rfl U29 rfl hq rfl rfl bSM<|Zl [(_,_)] ν [] rfl (Or.inr Yi) (fun D5 hH=>lR (max a b) (s.table.heights.length:Int) _) (fun v5 D6 hH hp5=>cS (P:=prog) (fn:=f277) rfl (bNI ⟨hp5.1,hp5.2⟩)) fun v5 D6 ν5 hH hp5=>?_;obtain⟨O,rfl⟩:=hp5;refine bO<|aU [] 5 9 56<|Za rfl<|aT rfl hn<|Za rfl<|aT rfl hn<|Zaq rfl<|Zt rfl U401 mG pV rfl (.cons rfl rfl .nil) (fun hX hY hO Y=>Zl [(_,_)] ν [] rfl (bNC Yi) (fun D7 Z=>gD 2 [decide (b<a)] _ _ ((iP (l:=[decide (b<a)]) (fun _ _ _ h=>h) Y Yf).up RB.up (Z _ Yf))) (fun v7 D8 Z R=>cS (P:=prog) (fn:=f277) rfl (bNC (bNI ⟨O,by simpa using R.1,R.2⟩))) fun v7 D8 ν7 Z R=>?_);obtain⟨hI,rfl⟩:=R;have hB:a≤b:=by simpa using hI
 refine bO<|aU [] 3 7 56<|Za rfl<|aT rfl hn<|Za rfl<|aT rfl hn<|Zl [(_,_)] ν [] rfl (Or.inr Yi) (fun D9 hJ=>MN c d 99 _) (fun v9 D10 hJ U=>cS (P:=prog) (fn:=f277) rfl (bNC (bNC (bNI ⟨O,hB,U.1,U.2⟩)))) fun v9 D10 ν9 hJ U=>?_;obtain⟨hK,rfl⟩:=U;refine aJ<|Za rfl<|Zam rfl<|Zj rfl aY rfl<|Zj rfl cY rfl<|Zj rfl mO rfl<|Zp rfl I9 rfl Mm0 rfl<|bR rfl U30 rfl ha rfl rfl bSM<|Zl [(_,_)] ν [] rfl (Or.inr Yi) (fun D11 V=>A8 (s.table.marks.length:Int) 5 _) (fun hP hR V I=>cS (P:=prog) (fn:=f277) rfl (bNC (bNC (bNC ⟨O,hB,hK,I.1,I.2⟩)))) fun hP hR ν11 V I=>?_;obtain⟨hN,rfl⟩:=I;refine aF<|fN hbt Yf fun hap=>pF fun hnd=>?_;have hnu:=fG hap hnd;have hwbo:wb∉cZ.mk [bt,wb]:=cZ.out Yf;have hbto:bt∉cZ.mk [bt,wb]:=cZ.out Yf;refine aU (cZ.mk [bt,wb]) 4 28 8388606<|Wbw ?_;refine Za rfl<|aT rfl hn<|Za rfl<|aT rfl hn<|Zu [qI c,qI d] rfl X8 kA rfl<|Zu [qI a,qI b,qI c,qI d] rfl aXM C6 rfl<|Zt rfl U30 lP C6 rfl (.cons rfl rfl .nil) fun rA rB hS hE=>zS bMK (⟨a,b,c,d⟩:C2.Mk) rfl U30 rfl rfl lP C6 rfl aGD rfl rfl rfl ha hE Yd Yp bSM fun v1 ν1 hF=>Zam rfl<|Zj rfl aY rfl<|Zj rfl cY rfl<|Zj rfl mO rfl ?_;refine Zs (dO s pv cv hv lv v1 bl bc yc yq) rfl hF.cells1 OS .head rfl hF.cell1<|Zao ?_;exact eC rfl fun D' hD=>⟨⟨O,hB,hK,hN⟩,v1,ν1,rfl,hF⟩
theorem aUF{α:Type}{f:α→List Γ}{n i:Nat}(h:∀x,(f x).length=n){xs:List α}(hi:i<xs.length){x:α}{junk:List Γ}:(xs.flatMap f++junk).take (0+i*n)++f x++(xs.flatMap f++junk).drop (0+i*n+(f x).length)=(xs.set i x).flatMap f++junk:=by
 rw[bQB];induction xs generalizing i with
 |nil=>simp at hi
 |cons d xs ih=>
  cases i with
  |zero=>
   have e:(d::xs).flatMap f++junk=f d++(xs.flatMap f++junk):=Yf
   have I:((d::xs).set 0 x).flatMap f++junk=f x++(xs.flatMap f++junk):=Yf
   rw[bRB,List.take_zero,bOA,bQB,e,I,h,←h d,List.drop_left]
  |succ i=>
   have hi':i<xs.length:=Yau
   have e:(d::xs).flatMap f++junk=f d++(xs.flatMap f++junk):=Yf
   have I:((d::xs).set (i+1) x).flatMap f++junk=f d++((xs.set i x).flatMap f++junk):=Yf
   rw[e,I,show(i+1)*n=(f d).length+i*n by rw[h,bPR];omega,List.take_length_add_append,show(f d).length+i*n+(f x).length=(f d).length+(i*n+(f x).length) by omega,bRK,bND,bND];congr 1;rw[←bND];exact ih hi'
section
variable{α:Type}{f:α→List Γ}{n:Nat}
theorem sJ{xs ys:List α}{e b cap:Nat}{junk:List Γ}(hf:aNI f n)(he:ys.length=xs.length)(hcap:xs.length≤cap)(hl1:(xs.flatMap f).length=xs.length*n)(I:(xs.flatMap f++junk).length=cap*n):bI e n (qS b xs.length cap) ys.length (ys.flatMap f) [(b,qC (ys.flatMap f++junk) e)]:=
 bNC ⟨b,cap,junk,by rw[he],Yd,rfl,dD hf.1 ys,by rw[LE,dD hf.1 ys,he,←I,LE,hl1]⟩
variable{P:Program}{X:Cx}{γb:Type}[Membership Nat γb]{bad:γb}{all:Array Oper}{K:Act→Δ→Prop}{Q:Exit→Act→Δ→Prop}
variable{σ:bU}{μ μ':aD}{Ds:List aC}{os:List (Bool×Nat)}{ix:Nat}{x y:Operand}{v:Γ}{ty t e:Θ}{pos:String}{aft:Array Edge}{g:Option (Nat×Bool)}{xs:List α}{i b:Nat}{junk:List Γ}
theorem y9(hf:aNI f n)(z:α)(ho:all[ix]?= some ⟨none,.store t x y,ty,pos,aft,g⟩)(hx:ev σ x=some (.pointer (some ⟨b,0+i*n,none⟩)))(hy:ev σ y=some v)(hv:v.cells=(f z).toArray)(hs:TS P t n)
  (hm:bP μ b (qC (xs.flatMap f++junk) e) (qC ((xs.set i z).flatMap f++junk) e) μ') (hi:i<xs.length) (hg:cQ all σ g) (kk:WL P X bad all K Q os σ μ' Ds):WL P X bad all K Q ((false,ix)::os) σ μ Ds:=
 cR (us:=f z) (ws:=(xs.set i z).flatMap f++junk) ho hx hy hv (by rw[hf.1];exact hs) hm (by rw[hf.1,LE,dD hf.1];have:=bQN n (show i+1≤xs.length from hi);rw[bPR,Nat.one_mul]at this;omega) (aUF hf.1 hi) (hf.2 z) hg kk
end
theorem aQG(wb:Nat)(s:aM)(pv cv hv lv mv bl bc yc yq nv:Γ)(a b:Int)(ν:aD)(D:aC)(hn:Sl D RI 1 nv [a,b])(ha:bI 3 1 pv s.row.places.length (s.row.places.flatMap cI) ν)(hsm:s.row.places.length≤100)(Z:0≤a):kH prog 267 [qP wb,nv] D ((wb,qC (dO s pv cv hv lv mv bl bc yc yq) 343)::ν) (fun _ _ ν'=>(a<(s.row.places.length:Int)∧b≤2)∧∃ν1,ν'=(wb,qC (dO s pv cv hv lv mv bl bc yc yq) 343)::ν1∧bI 3 1 pv (s.row.places.set a.toNat b).length ((s.row.places.set a.toNat b).flatMap cI) ν1) (fun v=>((s.row.places.length:Int)≤a∧v=fZ 7)∨(a<(s.row.places.length:Int)∧2<b∧v=fZ 2)):=by
 obtain⟨bt,ot,ct,rfl⟩:=dB hn Yf;have hbt:=eP hn;refine eI 32 func267 rfl rfl rfl rfl fun h0 hwl hwn=>Za3<|aU [] 7 11 1016<|Za rfl<|aT rfl hn<|Za rfl<|Zam rfl<|Zj rfl aY rfl<|Zj rfl dT rfl<|Zj rfl fH rfl<|Zp rfl cD rfl Mm0 rfl<|bR rfl U25 rfl ha rfl rfl bSM ?_;refine Zl [(_,_)] ν [] rfl (Or.inr Yi) (fun D5 O=>lR a (s.row.places.length:Int) _) (fun v5 D6 O hp5=>cS (P:=prog) (fn:=f267) rfl (bNI ⟨hp5.1,hp5.2⟩)) fun v5 D6 ν5 O hp5=>?_;obtain⟨R,rfl⟩:=hp5;refine aJ<|Za rfl<|aT rfl hn<|Zl [(_,_)] ν [] rfl (Or.inr Yi) (fun D7 U=>wH b 2 _) (fun v7 D8 U I=>cS (P:=prog) (fn:=f267) rfl (bNC ⟨R,I.1,I.2⟩)) fun v7 D8 ν7 U I=>?_;obtain⟨V,rfl⟩:=I;refine aF ?_;obtain⟨bx,cap,junk,rfl,hcap,rfl,hl1,Y⟩:=ha.some Yd;refine aU [] 5 14 4032<|Za rfl<|Zam rfl<|Zj rfl aY rfl<|Zj rfl dT rfl<|Zj rfl fH rfl<|Wcf ?_;refine Wca ?_;exact eC rfl fun D' hD=>⟨⟨R,V⟩,_,rfl,sJ aNH bQY hcap hl1 Y⟩
theorem aLF(wb:Nat)(s:aM)(pv cv hv lv mv bl bc yc yq nv:Γ)(a b:Int)(ν:aD)(D:aC)(hn:Sl D RI 1 nv [a,b])(ha:bI 3 1 lv s.table.levels.length (s.table.levels.flatMap cI) ν)(hsm:s.table.levels.length≤100)(Z:0≤a):kH prog 276 [qP wb,nv] D ((wb,qC (dO s pv cv hv lv mv bl bc yc yq) 343)::ν) (fun _ _ ν'=>(a<(s.table.levels.length:Int)∧b≤99)∧∃ν1,ν'=(wb,qC (dO s pv cv hv lv mv bl bc yc yq) 343)::ν1∧bI 3 1 lv (s.table.levels.set a.toNat b).length ((s.table.levels.set a.toNat b).flatMap cI) ν1) (fun v=>((s.table.levels.length:Int)≤a∧v=fZ 7)∨(a<(s.table.levels.length:Int)∧99<b∧v=fZ 2)):=by
 obtain⟨bt,ot,ct,rfl⟩:=dB hn Yf;have hbt:=eP hn;refine eI 32 func276 rfl rfl rfl rfl fun h0 hwl hwn=>Za3<|aU [] 7 11 1016<|Za rfl<|aT rfl hn<|Za rfl<|Zam rfl<|Zj rfl aY rfl<|Zj rfl cY rfl<|Zj rfl lT rfl<|Zp rfl cD rfl Mm0 rfl<|bR rfl U25 rfl ha rfl rfl bSM ?_;refine Zl [(_,_)] ν [] rfl (Or.inr Yi) (fun D5 O=>lR a (s.table.levels.length:Int) _) (fun v5 D6 O hp5=>cS (P:=prog) (fn:=f276) rfl (bNI ⟨hp5.1,hp5.2⟩)) fun v5 D6 ν5 O hp5=>?_;obtain⟨R,rfl⟩:=hp5;refine aJ<|Za rfl<|aT rfl hn<|Zl [(_,_)] ν [] rfl (Or.inr Yi) (fun D7 U=>wH b 99 _) (fun v7 D8 U I=>cS (P:=prog) (fn:=f276) rfl (bNC ⟨R,I.1,I.2⟩)) fun v7 D8 ν7 U I=>?_;obtain⟨V,rfl⟩:=I;refine aF ?_;obtain⟨bx,cap,junk,rfl,hcap,rfl,hl1,Y⟩:=ha.some Yd;refine aU [] 5 14 4032<|Za rfl<|Zam rfl<|Zj rfl aY rfl<|Zj rfl cY rfl<|Zj rfl lT rfl<|Wcf ?_;refine Wca ?_;exact eC rfl fun D' hD=>⟨⟨R,V⟩,_,rfl,sJ aNH bQY hcap hl1 Y⟩
theorem aQV(wb:Nat)(s:aM)(pv cv hv lv mv bl bc yc yq nv:Γ)(a b c:Int)(ν:aD)(D:aC)(hn:Sl D RI 1 nv [a,b,c])(ha:bI 93 2 hv s.table.heights.length (s.table.heights.flatMap cP) ν)(hsm:s.table.heights.length≤100)(hI:0≤a)(hb9:0≤b∧b≤1000):kH prog 273 [qP wb,nv] D ((wb,qC (dO s pv cv hv lv mv bl bc yc yq) 343)::ν) (fun _ _ ν'=>(a<(s.table.heights.length:Int)∧b≤c∧c≤99∧c≤b+2)∧∃ν1,ν'=(wb,qC (dO s pv cv hv lv mv bl bc yc yq) 343)::ν1∧bI 93 2 hv (s.table.heights.set a.toNat (b,c)).length ((s.table.heights.set a.toNat (b,c)).flatMap cP) ν1) (fun v=>((s.table.heights.length:Int)≤a∧v=fZ 7)∨(a<(s.table.heights.length:Int)∧(c<b∨99<c∨b+2<c)∧v=fZ 2)):=by
 obtain⟨bt,ot,ct,rfl⟩:=dB hn Yf;have hbt:=eP hn;refine eI 53 func273 rfl rfl rfl rfl fun h0 hwl hwn=>Za3<|aU [] 7 11 1016<|Za rfl<|aT rfl hn<|Za rfl<|Zam rfl<|Zj rfl aY rfl<|Zj rfl cY rfl<|Zj rfl lU rfl<|Zp rfl xE rfl Mm0 rfl<|bR rfl U29 rfl ha rfl rfl bSM ?_;refine Zl [(_,_)] ν [] rfl (Or.inr Yi) (fun D5 U=>lR a (s.table.heights.length:Int) _) (fun v5 D6 U hp5=>cS (P:=prog) (fn:=f273) rfl (bNI ⟨hp5.1,hp5.2⟩)) fun v5 D6 ν5 U hp5=>?_;obtain⟨V,rfl⟩:=hp5;refine bO<|aU [] 6 21 524216<|Za rfl<|aT rfl hn<|Za rfl<|aT rfl hn<|Zaq rfl<|Za rfl<|aT rfl hn<|Zaq rfl<|Za rfl<|aT rfl hn ?_;refine Za rfl<|aT rfl hn<|Zad rfl<|Zaq rfl<|Zt rfl U401 mG pV rfl (.cons rfl rfl (.cons rfl rfl (.cons rfl rfl .nil))) (fun hF hH Z O=>Zl [(_,_)] ν [] rfl (bNC Yi) (fun D7 R=>gD 2 [decide (c<b),decide (99<c),decide (b+2<c)] _ _ ((iP (l:=[decide (c<b),decide (99<c),decide (b+2<c)]) (fun _ _ _ h=>h) O Yf).up RB.up (R _ Yf))) (fun v7 D8 R I=>cS (P:=prog) (fn:=f273) rfl (bNC ⟨V,by simpa using I.1,I.2⟩)) fun v7 D8 ν7 R I=>?_);obtain⟨Y,rfl⟩:=I;have hB:b≤c∧c≤99∧c≤b+2:=by simpa using Y
 refine aF ?_;obtain⟨bx,cap,junk,rfl,hcap,rfl,hl1,hE⟩:=ha.some Yd;refine aU [] 5 18 65472<|Za rfl<|Zam rfl<|Zj rfl aY rfl<|Zj rfl cY rfl<|Zj rfl lU rfl<|Zp rfl xE rfl Mm0 rfl<|Za rfl<|aT rfl hn<|Za rfl<|aT rfl hn<|Za rfl ?_;refine aT rfl hn<|Zu [qI b,qI c] rfl X8 kA rfl<|eY rfl U29 dQ rfl rfl Yd Yd rfl bSM<|y9 bIF (b,c) rfl rfl rfl rfl dQ (.tail .head) Yd bSM<|Zao ?_;exact eC rfl fun D' hD=>⟨⟨V,hB⟩,_,rfl,sJ bIF bQY hcap hl1 hE⟩
theorem K0{wb t e sz n:Nat}{cs cells:List Γ}{v:Γ}{ν:aD}(ha:bI e sz v n cells ν):∀p∈(wb,Obj.cells cs.toArray t (0,0))::ν,cU p.2:=by
 intro p hp;rcases LT.1 hp with rfl|hp
 ·rfl
 ·rcases ha with⟨_,_,_,_,rfl⟩|⟨b,cap,junk,_,_,rfl,_⟩
  ·cases hp
  ·simp only[bNL]at hp;subst hp;rfl
theorem aKF(wb:Nat)(s:aM)(pv cv hv lv mv bl bc yc yq nv:Γ)(a b:Int)(ν:aD)(D:aC)(hn:Sl D RI 1 nv [a,b])(ha:bI 202 3 cv s.row.counts.length (s.row.counts.flatMap cC) ν)(hsm:s.row.counts.length≤100)(hpl:∃x c,pv=.slice x s.row.places.length c):kH prog 268 [qP wb,nv] D ((wb,qC (dO s pv cv hv lv mv bl bc yc yq) 343)::ν) (fun _ _ ν'=>((a≤(s.row.places.length:Int)∧b≤9)∧(s.row.counts.length:Int)<6)∧∃v1 ν1,ν'=(wb,qC (dO s pv v1 hv lv mv bl bc yc yq) 343)::ν1∧bI 202 3 v1 (s.row.counts++[(⟨false,a,b⟩:C1.xW)]).length ((s.row.counts++[(⟨false,a,b⟩:C1.xW)]).flatMap cC) ν1) (fun v=>(((s.row.places.length:Int)<a∨9<b)∧v=fZ 2)∨((a≤(s.row.places.length:Int)∧b≤9)∧6≤(s.row.counts.length:Int)∧v=fZ 3)):=by
 refine eI 7 func268 rfl rfl rfl rfl fun h0 hwl hwn=>aO<|Za rfl<|Za rfl<|Zaa ((wb,qC (dO s pv cv hv lv mv bl bc yc yq) 343)::ν++[]) (bNN _).symm<|Zm [] [] ((wb,qC (dO s pv cv hv lv mv bl bc yc yq) 343)::ν) rfl (K0 ha) (fun R I=>BW wb s pv cv hv lv mv bl bc yc yq nv a b ν _ (hn.up RI.up (I _ Yf)) ha hsm false hpl) (fun v5 O I hp5=>cS (P:=prog) (fn:=f268) rfl hp5) fun v5 O ν5 I hp5=>Zaa ν5 (bNN _)<|Zao ?_;exact eC rfl fun D' hD=>hp5
theorem aQN(wb:Nat)(s:aM)(pv cv hv lv mv bl bc yc yq nv:Γ)(a b:Int)(ν:aD)(D:aC)(hn:Sl D RI 1 nv [a,b])(ha:bI 202 3 cv s.row.counts.length (s.row.counts.flatMap cC) ν)(hsm:s.row.counts.length≤100)(hpl:∃x c,pv=.slice x s.row.places.length c):kH prog 269 [qP wb,nv] D ((wb,qC (dO s pv cv hv lv mv bl bc yc yq) 343)::ν) (fun _ _ ν'=>((a≤(s.row.places.length:Int)∧b≤9)∧(s.row.counts.length:Int)<6)∧∃v1 ν1,ν'=(wb,qC (dO s pv v1 hv lv mv bl bc yc yq) 343)::ν1∧bI 202 3 v1 (s.row.counts++[(⟨true,a,b⟩:C1.xW)]).length ((s.row.counts++[(⟨true,a,b⟩:C1.xW)]).flatMap cC) ν1) (fun v=>(((s.row.places.length:Int)<a∨9<b)∧v=fZ 2)∨((a≤(s.row.places.length:Int)∧b≤9)∧6≤(s.row.counts.length:Int)∧v=fZ 3)):=by
 refine eI 7 func269 rfl rfl rfl rfl fun h0 hwl hwn=>aO<|Za rfl<|Za rfl<|Zaa ((wb,qC (dO s pv cv hv lv mv bl bc yc yq) 343)::ν++[]) (bNN _).symm<|Zm [] [] ((wb,qC (dO s pv cv hv lv mv bl bc yc yq) 343)::ν) rfl (K0 ha) (fun R I=>BW wb s pv cv hv lv mv bl bc yc yq nv a b ν _ (hn.up RI.up (I _ Yf)) ha hsm true hpl) (fun v5 O I hp5=>cS (P:=prog) (fn:=f269) rfl hp5) fun v5 O ν5 I hp5=>Zaa ν5 (bNN _)<|Zao ?_;exact eC rfl fun D' hD=>hp5
theorem aPK(wb:Nat)(s:aM)(pv cv hv lv mv bl bc yc yq nv:Γ)(a b:Int)(ν:aD)(D:aC)(hn:Sl D RI 1 nv [a,b])(ha:bI 206 3 bl s.book.lines.length (s.book.lines.flatMap cL) ν)(hsm:s.book.lines.length≤100):kH prog 279 [qP wb,nv] D ((wb,qC (dO s pv cv hv lv mv bl bc yc yq) 343)::ν) (fun _ _ ν'=>(max a b<s.book.chairs∧(s.book.lines.length:Int)<8)∧∃v1 ν1,ν'=(wb,qC (dO s pv cv hv lv mv v1 bc yc yq) 343)::ν1∧bI 206 3 v1 (s.book.lines++[(⟨1,a,b⟩:C3.eS)]).length ((s.book.lines++[(⟨1,a,b⟩:C3.eS)]).flatMap cL) ν1) (fun v=>(s.book.chairs≤max a b∧v=fZ 7)∨(max a b<s.book.chairs∧8≤(s.book.lines.length:Int)∧v=fZ 3)):=by
 refine eI 7 func279 rfl rfl rfl rfl fun h0 hwl hwn=>aO<|Za rfl<|Za rfl<|Zaa ((wb,qC (dO s pv cv hv lv mv bl bc yc yq) 343)::ν++[]) (bNN _).symm<|Zm [] [] ((wb,qC (dO s pv cv hv lv mv bl bc yc yq) 343)::ν) rfl (K0 ha) (fun R I=>BR wb s pv cv hv lv mv bl bc yc yq nv a b ν _ (hn.up RI.up (I _ Yf)) ha hsm 1) (fun v5 O I hp5=>cS (P:=prog) (fn:=f279) rfl hp5) fun v5 O ν5 I hp5=>Zaa ν5 (bNN _)<|Zao ?_;exact eC rfl fun D' hD=>hp5
theorem aMI(wb:Nat)(s:aM)(pv cv hv lv mv bl bc yc yq nv:Γ)(a b:Int)(ν:aD)(D:aC)(hn:Sl D RI 1 nv [a,b])(ha:bI 206 3 bl s.book.lines.length (s.book.lines.flatMap cL) ν)(hsm:s.book.lines.length≤100):kH prog 280 [qP wb,nv] D ((wb,qC (dO s pv cv hv lv mv bl bc yc yq) 343)::ν) (fun _ _ ν'=>(max a b<s.book.chairs∧(s.book.lines.length:Int)<8)∧∃v1 ν1,ν'=(wb,qC (dO s pv cv hv lv mv v1 bc yc yq) 343)::ν1∧bI 206 3 v1 (s.book.lines++[(⟨2,a,b⟩:C3.eS)]).length ((s.book.lines++[(⟨2,a,b⟩:C3.eS)]).flatMap cL) ν1) (fun v=>(s.book.chairs≤max a b∧v=fZ 7)∨(max a b<s.book.chairs∧8≤(s.book.lines.length:Int)∧v=fZ 3)):=by
 refine eI 7 func280 rfl rfl rfl rfl fun h0 hwl hwn=>aO<|Za rfl<|Za rfl<|Zaa ((wb,qC (dO s pv cv hv lv mv bl bc yc yq) 343)::ν++[]) (bNN _).symm<|Zm [] [] ((wb,qC (dO s pv cv hv lv mv bl bc yc yq) 343)::ν) rfl (K0 ha) (fun R I=>BR wb s pv cv hv lv mv bl bc yc yq nv a b ν _ (hn.up RI.up (I _ Yf)) ha hsm 2) (fun v5 O I hp5=>cS (P:=prog) (fn:=f280) rfl hp5) fun v5 O ν5 I hp5=>Zaa ν5 (bNN _)<|Zao ?_;exact eC rfl fun D' hD=>hp5
theorem KY{α:Type}{f:α→List Γ}{n i k:Nat}(h:∀x,(f x).length=n){xs:List α}{x:α}{v:Γ}{junk:List Γ}(hx:xs[i]?= some x)(hk:k<n)(hv:(f x)[k]?= some v):(xs.flatMap f++junk)[0+i*n+k]?= some v:=by
 have h1:=KD h hx junk;have h2:(((xs.flatMap f++junk).drop (i*n)).take n)[k]?= some v:=by rw[h1];exact hv
 rw[bPX hk,bPC]at h2;rw[bQB];exact h2
theorem aPH{α:Type}{f:α→List Γ}{n i k off:Nat}(h:∀x,(f x).length=n){xs:List α}{x x2:α}{v:Γ}{junk:List Γ}(hx:xs[i]?= some x)(hk:k<n)(h2:f x2=(f x).take k++[v]++(f x).drop (k+1))(ho:off=i*n+k):(xs.flatMap f++junk).take off++[v]++(xs.flatMap f++junk).drop (off+ [v].length)=(xs.set i x2).flatMap f++junk:=by
 subst ho;induction xs generalizing i with
 |nil=>simp at hx
 |cons d xs ih=>
  have e:(d::xs).flatMap f++junk=f d++(xs.flatMap f++junk):=Yf
  cases i with
  |zero=>
   obtain rfl:d=x:=Xag
   have I:((d::xs).set 0 x2).flatMap f++junk=f x2++(xs.flatMap f++junk):=Yf
   rw[bRB,bQB,e,I,h2,bOK (by rw[h];omega),bPB,List.drop_append_of_le_length (by rw[h];omega)];simp
  |succ i=>
   have I:((d::xs).set (i+1) x2).flatMap f++junk=f d++((xs.set i x2).flatMap f++junk):=Yf
   rw[e,I,show(i+1)*n+k=(f d).length+(i*n+k) by rw[h,bPR];omega,List.take_length_add_append,show(f d).length+(i*n+k)+ [v].length=(f d).length+(i*n+k+ [v].length) by omega,bRK,bND,bND];congr 1;rw[←bND];exact ih Xag
section
variable{P:Program}{X:Cx}{γb:Type}[Membership Nat γb]{bad:γb}{all:Array Oper}{K:Act→Δ→Prop}{Q:Exit→Act→Δ→Prop}
variable{σ:bU}{μ μ':aD}{Ds:List aC}{os:List (Bool×Nat)}{ix:Nat}{x y:Operand}{v:Γ}{ty t e:Θ}{pos:String}{aft:Array Edge}{g:Option (Nat×Bool)}{α:Type}{f:α→List Γ}{n:Nat}{xs:List α}{z x2:α}{i b k off:Nat}{junk:List Γ}
theorem PE(hf:aNI f n)(ho:all[ix]?= some ⟨none,.store t x y,ty,pos,aft,g⟩)(hx:ev σ x=some (.pointer (some ⟨b,off,none⟩)))(hy:ev σ y=some v)(hv:v.cells=#[v])(hs:TS P t 1)
  (hm:bP μ b (qC (xs.flatMap f++junk) e) (qC ((xs.set i x2).flatMap f++junk) e) μ') (hz:xs[i]?= some z) (hk:k<n) (h2:f x2=(f z).take k++[v]++(f z).drop (k+1)) (hoff:off=i*n+k) (hg:cQ all σ g) (kk:WL P X bad all K Q os σ μ' Ds):WL P X bad all K Q ((false,ix)::os) σ μ Ds:=
 cR (us:=[v]) (ws:=(xs.set i x2).flatMap f++junk) ho hx hy hv hs hm (by rw[LE,dD hf.1,hoff,bPB];have:=bQN n (bMW.1 hz).1;rw[Nat.succ_mul]at this;omega) (aPH hf.1 hz hk h2 hoff) (fun u hu=>hf.2 x2 u (by rw[h2,bNL.1 hu];simp)) hg kk
end
def GU(p:C7.Pt)(i:Nat)(v:Int):C7.Pt:=if i=0 then {p with a:=v}else if i=1 then {p with b:=v}else {p with c:=v}
theorem aOL{x:C7.Ch}{i:Nat}{v:Int}(h:i<3):cH {x with parts:=GU x.parts i v}=(cH x).take (1+i)++[qI v]++(cH x).drop (1+i+1):=by
 have:i=0∨i=1∨i=2:=Yd
 rcases this with rfl|rfl|rfl<;>rfl
theorem aBA(wb:Nat)(s:aM)(pv cv hv lv mv bl bc yc yq nv:Γ)(a:Int)(ν:aD)(D:aC)(hn:Sl D RI 1 nv [a])(ha:bI 206 3 bl s.book.lines.length (s.book.lines.flatMap cL) ν)(hsm:s.book.lines.length≤100)(hH:0≤a):kH prog 281 [qP wb,nv] D ((wb,qC (dO s pv cv hv lv mv bl bc yc yq) 343)::ν) (fun _ _ ν'=>∃x,s.book.lines[a.toNat]?= some x∧(x.token≠ -1)∧∃ν1,ν'=(wb,qC (dO s pv cv hv lv mv bl bc yc yq) 343)::ν1∧bI 206 3 bl (s.book.lines.set a.toNat {x with token:= -1}).length ((s.book.lines.set a.toNat {x with token:= -1}).flatMap cL) ν1) (fun v=>((s.book.lines.length:Int)≤a∧v=fZ 7)∨(∃x,s.book.lines[a.toNat]?= some x∧x.token= -1∧v=fZ 6)):=by
 obtain⟨bt,ot,ct,rfl⟩:=dB hn Yf;have hbt:=eP hn;refine eI 36 func281 rfl rfl rfl rfl fun h0 hwl hwn=>Za3<|aU [] 7 11 1016<|Za rfl<|Wbj ?_;refine Zl [(_,_)] ν [] rfl (Or.inr Yi) (fun D5 U=>lR a (s.book.lines.length:Int) _) (fun v5 D6 U hp5=>cS (P:=prog) (fn:=f281) rfl (bNI ⟨hp5.1,hp5.2⟩)) fun v5 D6 ν5 U hp5=>?_;obtain⟨hI,rfl⟩:=hp5;refine bO ?_;obtain⟨bx,cap,junk,rfl,hcap,rfl,hl1,Y⟩:=ha.some Yd;obtain⟨x,hx⟩:=cT s.book.lines (a.toNat);refine aU [] 6 11 448<|Za rfl<|Zam rfl<|Zj rfl aY rfl<|Zj rfl fV rfl<|Zj rfl dM rfl<|Zp rfl iB rfl Mm0 rfl<|Za rfl<|aT rfl hn<|eY rfl U33 cG rfl rfl Yd Yd rfl bSM<|Zf rfl<|aJ ?_;refine Za rfl<|Zam rfl<|Zj rfl nO rfl<|bD (v:=qI x.token) rfl aI rfl Mm1 Xdg n4 rfl bSM<|Zas rfl<|Zt rfl U401 mG pV rfl (.cons rfl rfl .nil) (fun hE hF Z O=>Zl [(_,_),(_,_)] [] [] rfl (bNC Yi) (fun D7 R=>gD 6 [decide (x.token= -1)] _ _ ((iP (l:=[decide (x.token= -1)]) (fun _ _ _ h=>h) O Yf).up RB.up (R _ Yf))) (fun v7 D8 R I=>cS (P:=prog) (fn:=f281) rfl (bNC ⟨x,hx,by simpa using I.1,I.2⟩)) fun v7 D8 ν7 R I=>?_);obtain⟨V,rfl⟩:=I;have hB:x.token≠ -1:=by simpa using V
 refine aF<|aO<|Za rfl<|Zam rfl<|Zj rfl nO rfl<|Wcg ?_;exact eC rfl fun D' hD=>⟨x,hx,hB,_,rfl,sJ bFN bQY hcap hl1 Y⟩
theorem aTP(wb:Nat)(s:aM)(pv cv hv lv mv bl bc yc yq nv:Γ)(a b c:Int)(ν:aD)(D:aC)(hn:Sl D RI 1 nv [a,b,c])(ha:bI 212 4 yc s.yard.chairs.length (s.yard.chairs.flatMap cH) ν)(hsm:s.yard.chairs.length≤100)(hF:0≤a)(hH:0≤b):kH prog 284 [qP wb,nv] D ((wb,qC (dO s pv cv hv lv mv bl bc yc yq) 343)::ν) (fun _ _ ν'=>∃x,s.yard.chairs[a.toNat]?= some x∧(b<3∧c≤2)∧∃ν1,ν'=(wb,qC (dO s pv cv hv lv mv bl bc yc yq) 343)::ν1∧bI 212 4 yc (s.yard.chairs.set a.toNat {x with parts:=GU x.parts b.toNat c}).length ((s.yard.chairs.set a.toNat {x with parts:=GU x.parts b.toNat c}).flatMap cH) ν1) (fun v=>((s.yard.chairs.length:Int)≤a∧v=fZ 7)∨(a<(s.yard.chairs.length:Int)∧3≤b∧v=fZ 7)∨(a<(s.yard.chairs.length:Int)∧b<3∧2<c∧v=fZ 2)):=by
 obtain⟨bt,ot,ct,rfl⟩:=dB hn Yf;have hbt:=eP hn;refine eI 41 func284 rfl rfl rfl rfl fun h0 hwl hwn=>Za3<|aU [] 7 11 1016<|Za rfl<|aT rfl hn<|Za rfl<|Zam rfl<|Zj rfl aY rfl<|Zj rfl eX rfl<|Zj rfl iF rfl<|Zp rfl pL rfl Mm0 rfl<|bR rfl U37 rfl ha rfl rfl bSM ?_;refine Zl [(_,_)] ν [] rfl (Or.inr Yi) (fun D5 R=>lR a (s.yard.chairs.length:Int) _) (fun v5 D6 R hp5=>cS (P:=prog) (fn:=f284) rfl (bNI ⟨hp5.1,hp5.2⟩)) fun v5 D6 ν5 R hp5=>?_;obtain⟨U,rfl⟩:=hp5;refine aJ<|Za rfl<|aT rfl hn<|Zl [(_,_)] ν [] rfl (Or.inr Yi) (fun D7 V=>lR b 3 _) (fun v7 D8 V I=>cS (P:=prog) (fn:=f284) rfl (bNC (bNI ⟨U,I.1,I.2⟩))) fun v7 D8 ν7 V I=>?_;obtain⟨Y,rfl⟩:=I;refine aJ<|Za rfl<|aT rfl hn<|Zl [(_,_)] ν [] rfl (Or.inr Yi) (fun D9 Z=>wH c 2 _) (fun v9 D10 Z O=>cS (P:=prog) (fn:=f284) rfl (bNC (bNC ⟨U,Y,O.1,O.2⟩))) fun v9 D10 ν9 Z O=>?_;obtain⟨hB,rfl⟩:=O;refine aF ?_;obtain⟨bx,cap,junk,rfl,hcap,rfl,hl1,hE⟩:=ha.some Yd;obtain⟨x,hx⟩:=cT s.yard.chairs (a.toNat);refine aU [] 5 19 131008<|Za rfl<|Zam rfl<|Zj rfl aY rfl<|Zj rfl eX rfl<|Zj rfl iF rfl<|Zp rfl pL rfl Mm0 rfl<|Za rfl<|aT rfl hn<|Za rfl<|aT rfl hn<|Za rfl ?_;refine aT rfl hn<|eY rfl U37 mK rfl rfl Yd Yd rfl bSM<|Zj rfl R1 rfl<|eT rfl U210 aH rfl rfl Yd Yd rfl bSM<|PE bJY (x2:={x with parts:=GU x.parts b.toNat c}) (k:=(1+b.toNat)) rfl rfl rfl rfl aH (.tail .head) hx Yd (aOL Yd) Yd bSM<|Zao ?_;exact eC rfl fun D' hD=>⟨x,hx,⟨Y,hB⟩,_,rfl,sJ bJY bQY hcap hl1 hE⟩
def eG(xs:List Λ):Int:=if(decide ((40:Int)<(xs.length:Int))|| !xs.all fun l=>decide ((l.size:Int)≤50))=true then 3 else 0
theorem bAX(m:Int)(l:Λ)(D:aC):Fn prog 100 #[qI m,.string l] D (fun _ v=>v=.bool (decide ((l.size:Int)≤m))):=by
 refine Zw 9 func100 rfl fun h0=>aA<|Zf rfl<|aJ<|Za rfl<|gR rfl U9 rfl rfl rfl bSM<|Za rfl<|gJ rfl rfl rfl rfl bSM<|We ?_;exact aE rfl fun D hD=>rfl
theorem IX(sv fv:Γ)(xs:List Λ)(p:Λ→Bool)(D:aC)(hS:Sl D RS 1 sv xs)(hp:cX prog D Value.string fv p):
  Fn prog 300 #[sv,fv] D (fun _ v=>v=qI (idxOf p xs)):=by
 have hl:=hS.len;obtain⟨f,c1,c2,rfl,hf⟩:=hp;refine Zw 19 func300 rfl fun h0=>aA<|Zf rfl<|bC<|Za rfl<|eE rfl U22 rfl Ym rfl rfl bSM<|Wd ?_;rintro k ⟨h1,h2⟩;refine aA<|Zan rfl<|bO<|Zae rfl (fun hc1=>?_) fun hc1=>?_
 ·have hk:k<xs.length:=Yd
  obtain⟨x,hx⟩:=cT xs k;refine aQ<|Za3<|Za1<|aA<|Za rfl<|Zf rfl<|aJ<|Za rfl<|Za rfl<|Za rfl<|dW rfl U22 fU rfl Ym rfl Yd Ym rfl bSM fun Y Z I O V R=>?_;obtain rfl:I=[.string _]:=O;refine Zh 0 rfl sZ rfl R rfl<|Zd rfl (fun D1 U=>hf x _ (U _ Yf))<|aF<|Zaf rfl (fun hc2=>?_) fun hc2=>?_
  ·refine Wbf ?_;exact aE rfl fun D hD=>Xbt
  ·refine Wbs ?_;have hpx:p x=false:=hc2;have h3:(xs.take (k+1)).any p=false:=by rw[bMZ,hx,bQK,h2];simp[hpx]
   exact aL 12 (k+1) ⟨Yd,h3⟩ Yd ⟨Ya,bSM⟩ rfl rfl Mm5 (aK)
 ·refine Wl ?_;exact aE rfl fun D hD=>Xbu
theorem u0(sv fv:Γ)(xs:List Λ)(p:Λ→Bool)(D:aC)(hS:Sl D RS 1 sv xs)(hp:cX prog D Value.string fv p):
  Fn prog 195 #[sv,fv] D (fun _ v=>v=.bool (xs.any p)):=by
 refine Zw 9 func195 rfl fun h0=>aA<|Zf rfl<|aJ<|Za rfl<|Za rfl<|Zd rfl (fun O I=>IX _ _ xs p _ (Sl.at RS.up I Ym Yf) (hp.up (I _ Yf)))<|Waa ?_;exact aE rfl fun D hD=>Xbv
theorem aTE(b:Nat)(fv:Γ)(p:Λ→Bool)(x:Λ)(D:aC)(hp:cX prog D Value.string fv p)(hB:At D b 0 [fv]):
  Fn prog 196 #[.string x,qP b] D (fun _ v=>v=.bool (!p x)):=by
 obtain⟨f,c1,c2,rfl,hf⟩:=hp;refine Zw 8 func196 rfl fun h0=>aA<|Zf rfl<|aJ<|Zh 0 rfl aXD rfl hB rfl<|Za rfl<|Zd rfl (fun O I=>hf x _ (I _ Yf))<|Zat rfl<|We ?_;exact aE rfl fun D hD=>rfl
theorem aYC(sv fv:Γ)(xs:List Λ)(p:Λ→Bool)(D:aC)(hS:Sl D RS 1 sv xs)(hp:cX prog D Value.string fv p)(h1:fv.cells=#[fv]):
  Fn prog 101 #[sv,fv] D (fun _ v=>v=.bool (xs.all p)):=by
 refine Zw 9 func101 rfl fun h0=>aA<|tD (vs:=[fv]) rfl rfl h1 rfl bSM fun b O I hB=>Zf rfl<|aJ<|Za rfl<|Zay rfl<|Zd rfl (fun O I=>u0 _ _ xs (fun x=> !p x) _ (Sl.at RS.up I Ym Yf) ⟨_,[],[qP b],rfl,fun x R hl=>aTE b fv p x R (hp.up ((I _ Yf).trans hl)) (hB.up ((I _ Yf).trans hl))⟩)<|Zat rfl<|We ?_;exact aE rfl fun D hD=>Xbx
theorem vR(sv:Γ)(xs:List Λ)(D:aC)(hS:Sl D RS 1 sv xs):Fn prog 37 #[sv] D (fun _ v=>v=qI (eG xs)):=by
 have hl:=hS.len;refine Zw 14 func37 rfl fun h0=>aA<|Zf rfl<|aJ<|Zay rfl<|Zf rfl<|bC<|Za rfl<|eE rfl U22 rfl Ym rfl rfl bSM<|Was ?_;refine' dL 5 (s:=8) (p:=13) rfl (fun I=>?_) (fun I=>?_) ?_;rotate_left
 ·refine Zb rfl<|Zb rfl<|Ze rfl (fun U O=>aYC _ _ xs (fun l=>decide ((l.size:Int)≤50)) _ (Sl.at RS.up O Ym Yf) ⟨_,[_],[],rfl,fun l R _=>bAX 50 l R⟩ rfl)<|Wal ?_;exact aN 4
 ·refine Wf ?_;exact aN 4
 refine aF<|Zaf rfl (fun hc1=>?_) fun hc1=>?_
 ·refine Wci ?_;exact aE rfl fun D hD=>by show Value.int _ _=_;rw[eG,bNK hc1]
 ·refine aQ<|aA<|We ?_;exact aE rfl fun D hD=>by show Value.int _ _=_;rw[eG,bNA (by rw[hc1];simp)]
end L12
end Go.Fs
