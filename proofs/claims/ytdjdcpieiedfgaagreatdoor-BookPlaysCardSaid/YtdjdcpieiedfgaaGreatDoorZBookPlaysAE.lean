/- Of BookPlays. -/
import Derived.Test.YtdjdcpieiedfgaaGreatDoorZBookPlaysAD
namespace Go.Fs
open Go.Proofs Tryz
namespace L3
open L1
open C3
section
variable{P:Program}{X:Cx}{Q:Exit→Act→Δ→Prop}{σ:cD}{μ:aD}{Ds:List aC}
theorem bAF{c:Code}{μ':aD}(n:Nat)(he:μ.drop n=μ')(h:WC P X Q c σ μ' Ds):WC P X Q c σ μ Ds:=fun a w hh=>by
 subst he;exact h a w (hh.dropBoxes n)
end
def rW(bh bs bl bo blo bY br n:Nat)(c:List Sc)(cl:List Int):aD:=[(bh,qC [.func (.func 302) #[] #[qP br,qP bs,qP bl,qP bY,qP bh]] 182),(bs,qC [qS bo (n+1) (n+1)] 349),(bl,qC [qS blo n n] 33),(bo,qC (gS c) 242),(blo,qC (ints cl) 206)]
theorem T2{bh bs bl bo blo bY br n:Nat}{c:List Sc}{cl:List Int}:(bo,Obj.cells (gS c).toArray 242 (0,0))∈rW bh bs bl bo blo bY br n c cl:=bLP _ Mm2
def aBS(n bo:Nat)(vs:List Γ):Prop:=∃blo,vs=[qS blo n n,qS bo (n+1) (n+1)]
def aYE{α:Type}(P:Program)(Dr:aC)(lo l:Nat)(J Jx:List α→wC)(xs:List α)(enc:Nat→List Γ→Prop)(cells:α→List Γ):Prop:=∀pre x β D w bo vs,(∃r,xs=pre++x::r)→G2 lo D w→J pre β D w→(∀b∈β,b<w.heap.size)→Le Dr D→enc bo vs→KN β D w bo (cells x)→
   jO P l vs w fun b D' w'=>G2 lo D' w'∧G5 β D w D' w'∧(if b then J (pre++[x]) β D' w' else Jx (pre++[x]) β D' w')
def S0(c:List Sc):Prop:=∀s∈c,(rH s).length=10
theorem S0.set{c:List Sc}{s:Sc}(h:S0 c)(hs:(rH s).length=10)(i:Nat):S0 (c.set i s):=fun u hu=>by
 rcases List.mem_or_eq_of_mem_set hu with hu|rfl
 ·exact h u hu
 ·exact hs
theorem aRO{c:List Sc}(h:S0 c):(gS c).length=c.length*10:=by
 induction c with
 |nil=>rfl
 |cons u c ih=>
  have:=ih fun s hs=>h s (bKY _ hs)
  rw[show gS (u::c)=ints (rH u)++gS c from rfl,GE,aN,h u bKZ,this,bLF];omega
theorem aSM{c:List Sc}(h:S0 c){i:Nat}{s:Sc}(hs:(rH s).length=10)(hi:i<c.length):(gS c).take (i*10)++ints (rH s)++(gS c).drop (i*10+(ints (rH s)).length)=gS (c.set i s):=by
 rw[aN,hs];induction c generalizing i with
 |nil=>simp at hi
 |cons u c ih=>
  have hu:(ints (rH u)).length=10:=by rw[aN,h u bKZ]
  have e:gS (u::c)=ints (rH u)++gS c:=rfl;rw[e];cases i with
  |zero=>
   rw[List.set_cons_zero,show gS (s::c)=ints (rH s)++gS c from rfl,bPG,List.take_zero,bMH,bOH,bPH,bMQ Yd,bMH,hu];simp
  |succ i=>
   rw[List.set_cons_succ,show gS (u::c.set i s)=ints (rH u)++gS (c.set i s)from rfl,←ih (fun t ht=>h t (bKY _ ht)) Yau];rw[List.take_append,bLZ Yd,hu,bPH,bMQ Yd,bMH,hu,show(i+1)*10-10=i*10 by omega,show(i+1)*10+10-10=i*10+10 by omega];simp
def aVO:Sc:=⟨[0,0,0,0],[0,0,0,0],0,0⟩
theorem bCC(n:Nat):ints (List.replicate (n*10) 0)=gS (List.replicate n aVO):=by
 induction n with
 |zero=>rfl
 |succ n ih=>rw[List.replicate_succ,show gS (aVO::List.replicate n aVO)=ints (rH aVO)++gS (List.replicate n aVO)from rfl,←ih,show(n+1)*10=10+n*10 by omega,←List.replicate_append_replicate,eW];rfl
def wr(l:List Int)(k:Nat)(us:List Int):List Int:=l.take k++us++l.drop (k+us.length)
theorem bEP{l us:List Int}{k:Nat}(h:k+us.length≤l.length):(wr l k us).length=l.length:=by unfold wr;simp;omega
theorem bBA{l us:List Int}{k:Nat}:(ints l).take k++ints us++(ints l).drop (k+(ints us).length)=ints (wr l k us):=by
 unfold wr ints;simp
def xT(b:bH)(i:Nat)(s:Sc):List (List Sc):=(H2 b (b.lines.drop i) i s).map (·.2)
def aFC(b:bH)(i:Nat)(s:Sc)(z:eL)(pre:List Sc)(k:Nat):List (List Sc):=((cX b.chairs z).take k).flatMap fun r=>if mB s r=true then(xT b (i+1) (fK b s i r)).map (fun t=>(pre++[s])++t)else []
theorem bBS{b:bH}{i:Nat}{s:Sc}(h:iA b s i=false):xT b i s=[]:=by
 unfold xT;cases e:b.lines.drop i with
 |nil=>unfold H2;rw[bLI Xaf];rfl
 |cons l ls=>unfold H2;rw[bLI Xaf];rfl
theorem aVI{b:bH}{i:Nat}{s:Sc}(h:iA b s i=true)(hi:b.lines.length≤i):xT b i s=[[s]]:=by
 unfold xT;rw[bMQ hi];unfold H2;rw[bLR h];rfl
theorem aLG{b:bH}{i:Nat}{s:Sc}{z:eL}{pre:List Sc}(h:iA b s i=true)(hd:b.lines.drop i=z::b.lines.drop (i+1)):(xT b i s).map (fun t=>pre++t)=aFC b i s z pre (cX b.chairs z).length:=by
 unfold xT aFC;rw[hd,bLU];unfold H2;rw[bLR h,List.map_flatMap,List.map_flatMap];congr 1;funext r;by_cases hc:mB s r=true
 ·rw[bLR hc,bLR hc,bPP,bPP];unfold xT;rw[bPP];congr 1;funext x;simp
 ·rw[bLI hc,bLI hc];rfl
theorem aRE{b:bH}{i:Nat}{s:Sc}{z:eL}{pre:List Sc}:aFC b i s z pre 0=[]:=rfl
theorem bEL{b:bH}{i:Nat}{s:Sc}{z x:eL}{pre:List Sc}{k:Nat}(hx:(cX b.chairs z)[k]?= some x)(h:mB s x=false):aFC b i s z pre (k+1)=aFC b i s z pre k:=by
 unfold aFC;rw[bLA,hx,bLT,bLN,bMC,bLI Xaf,n5]
theorem aEM{b:bH}{i:Nat}{s:Sc}{z x:eL}{pre:List Sc}{k:Nat}(hx:(cX b.chairs z)[k]?= some x)(h:mB s x=true):aFC b i s z pre (k+1)=aFC b i s z pre k++(xT b (i+1) (fK b s i x)).map (fun t=>(pre++[s])++t):=by
 unfold aFC;rw[bLA,hx,bLT,bLN,bMC,bLR h]
theorem aNZ{b:bH}{i:Nat}{s:Sc}{z:eL}{pre:List Sc}{k:Nat}:∃r,aFC b i s z pre (cX b.chairs z).length=aFC b i s z pre k++r:=by
 unfold aFC;rw[bLU]
 conv=>enter [1,r,1];rw[←bOJ k (cX b.chairs z),bLN]
 exact⟨_,rfl⟩
theorem IY{c pre:List Sc}{i:Nat}{s s':Sc}(h:c.take (i+1+1)=(pre++[s])++[s'])(hl:pre.length=i):c.take (i+1)=pre++[s]:=by
 have:=bLE (List.take (i+1)) h;rw[List.take_take,bOA (Nat.le_succ _)]at this;rw[this,bMP Yaq,bLZ Yaq]
theorem aLK{c pre:List Sc}{i:Nat}{s':Sc}(hi:i<c.length)(h:c.take i=pre):(c.set i s').take (i+1)=pre++[s']:=by
 rw[bLA,List.getElem?_set_self hi,bLT,List.take_set_of_le (bLQ _),h]
theorem aRN{c pre:List Sc}{i:Nat}{s:Sc}(h:c.take (i+1)=pre++[s])(hl:pre.length=i):c[i]?= some s:=by
 have:(c.take (i+1))[i]?= (pre++[s])[i]? :=by rw[h]
 rw[bOD (Nat.lt_succ_self i),bPC Yd]at this;rw[this];simp[hl]
theorem ap8{bh bs bl bo blo bY br n I O:Nat}{c:List Sc}{cl:List Int}{o1 o2:Obj}(hap:br∉aD.ks ((O,o2)::(I,o1)::rW bh bs bl bo blo bY br n c cl))(hnd:(((O,o2)::(I,o1)::rW bh bs bl bo blo bY br n c cl).map fun p=>p.1).Nodup):O∉[br,bs,bo,I]:=by
 intro h;simp only[bNA,n4,bND]at h;rcases h with rfl|rfl|rfl|rfl
 ·exact hap (by simp[aD.ks])
 ·simp[rW]at hnd
 ·simp[rW]at hnd
 ·simp at hnd
theorem bIQ{bh bs bl bo blo bY br n I O:Nat}{c:List Sc}{cl:List Int}{o1 o2:Obj}(hnd:(((O,o2)::(I,o1)::rW bh bs bl bo blo bY br n c cl).map fun p=>p.1).Nodup):blo∉[bl,bs,I,O]∧bo∉[bl,bs,I,O]:=by
 constructor
 ·intro h;simp only[bNA,n4,bND]at h;rcases h with rfl|rfl|rfl|rfl<;>simp[rW]at hnd
 ·intro h;simp only[bNA,n4,bND]at h;rcases h with rfl|rfl|rfl|rfl<;>simp[rW]at hnd
def bJV(b:bH)(J Jx:List (List Sc)→wC)(bh bs bl bo blo bY br:Nat)(pre:List Sc)(s:Sc)(i:Nat)(done:List (List Sc))(v:Γ)(J':wC)(μ':aD):Prop:=
 ∃bb c' cl',v=.bool bb∧c'.length=b.lines.length+1∧S0 c'∧cl'.length=b.lines.length*3∧c'.take (i+1)=pre++[s]∧μ'=rW bh bs bl bo blo bY br b.lines.length c' cl'∧(if bb=true then J'=J (done++(xT b i s).map fun t=>pre++t)else ∃p,J'=Jx p)
set_option maxHeartbeats 1000000 in
theorem aWA{lo l:Nat}{b:bH}{bv:Γ}{xs:List (List Sc)}{Dr Dy:aC}{bh bs bl bo blo bY br:Nat}{lv cv:Γ}(hbo:aLN b)(hbv:bv=.agg #[qI b.chairs,qI b.coin,qI b.box,lv,cv])(hb0:gK Dr bv b)
  (hA:At Dr br 0 [qI b.chairs,qI b.coin,qI b.box,lv,cv]) (hB:At Dy bY 0 [.func (.yield l) #[] #[]]):
  ∀(j i:Nat) (pre:List Sc) (s:Sc) (c:List Sc) (cl:List Int) (done rest:List (List Sc)) (iv:Int) (Ds:List aC),Dr∈Ds→Dy∈Ds→iv=i→i+j=b.lines.length→pre.length=i→c.length=b.lines.length+1→S0 c→cl.length=b.lines.length*3→c.take (i+1)=pre++[s]→bJM b s i→
   xs=done++(xT b i s).map (fun t=>pre++t)++rest→∀(J Jx:List (List Sc)→wC),(∀pre,T1 lo (J pre))→(∀pre,T1 lo (Jx pre))→aYE prog Dr lo l J Jx xs (aBS b.lines.length) gS→
   bID prog 302 [qI iv,qP br,qP bs,qP bl,qP bY,qP bh] lo (J done) (rW bh bs bl bo blo bY br b.lines.length c cl) Ds (bJV b J Jx bh bs bl bo blo bY br pre s i done):=by
 subst hbv;intro j;induction j using Nat.strongRecOn with
 |_ j ih=>
 intro i pre s c cl done rest iv Ds hDr hDy hiv hij hl h9 h10 h11 hp hsb hxs J Jx hs hsx hY;replace ih:=fun j hj i pre s c cl done rest iv Ds h1 h2 h3 h4 h5 h6 h7 h8 h9 h10 h11=>ih j hj i pre s c cl done rest iv Ds h1 h2 h3 h4 h5 h6 h7 h8 h9 h10 h11 J Jx hs hsx hY
 subst hiv;obtain⟨lv',cv',he,hl',hc'⟩:=id hb0;obtain⟨rfl,rfl⟩:=OQ he;have hl8:=hbo.l8;have hch:=hbo.ch;have hco:=hbo.co;have hbx:=hbo.bx;have hmo:=hsb.mo;have hmi:=hsb.mi;have hs10:=M8 hsb.lc hsb.lt;refine V3 (μ:=rW bh bs bl bo blo bY br b.lines.length c cl) 68 func302 rfl rfl rfl rfl<|aA<|Zk rfl<|bS<|Za5<|bE [] 4 8 62<|Zv rfl eT rfl hA dU<|Zp rfl b6 rfl Mm1 rfl<|Za rfl<|eU rfl U349 eB rfl rfl Yd (by push_cast;omega) rfl bQK<|eD (n:=10) (us:=ints (rH s)) rfl lA eB rfl Mm3 (by rw[show 0+((i:Int)).toNat*10=i*10 by omega];exact V6 h10 (aRN hp hl)) (by simp[hs10]) n4 rfl bQK<|Za rfl ?_;refine Zf rfl (fun D1 hD1=>DX _ b s i _ (hb0.up (hD1 _ Yaw)) hsb.lc hsb.lt)<|Zau rfl<|aF<|Zaf rfl (fun hc1=>?_) fun hc1=>?_
 ·refine Wcg ?_;exact nC (P:=prog) (fn:=f302) (N:=68) (vs:=[_]) rfl rfl ⟨rfl,bQK⟩ (fun D h=>⟨D,h,Le.refl D⟩) ⟨true,c,cl,rfl,h9,h10,h11,hp,rfl,by simp only[bNM];rw[bBS Xbd];simp⟩
 ·have hcd:iA b s i=true:=by simpa using hc1
  refine aQ<|bM<|Za rfl<|Zp rfl fU rfl Mm2 rfl<|mM rfl U33 rfl rfl rfl bQK<|Zaw rfl<|aF<|Zag rfl (fun hc2=>?_) fun hc2=>?_
  ·have hrun:=aVI hcd (show b.lines.length≤i by omega);have hleaf:pre++[s]=c:=by rw[←hp,bLZ Yd]
   rw[hrun,bOT,hleaf,bLK,bOW]at hxs;refine aA<|Zd 0 rfl aVZ rfl hB rfl<|Zp rfl fU rfl Mm2 rfl<|Zp rfl b6 rfl Mm1 rfl<|KF (l:=l) (J1:=J (done++[c])) (J0:=Jx (done++[c])) rfl rfl rfl rfl (hs _) (hsx _) (fun D w hd hJ hb hl=>hY done c _ D w bo _ ⟨rest,hxs⟩ hd hJ (fun b hbm=>Xcx) (hl _ hDr) ⟨blo,rfl⟩ ⟨bKX.2 ⟨_,T2,rfl⟩,(hb _ T2).2,_,_,(hb _ T2).1⟩) rfl bQK fun b1 J1 hJ1=>Wi ?_
   exact nC (P:=prog) (fn:=f302) (N:=68) (vs:=[_]) rfl rfl ⟨rfl,bQK⟩ (fun D h=>⟨D,h,Le.refl D⟩) ⟨b1,c,cl,rfl,h9,h10,h11,hp,rfl,by cases b1<;>simp only[hJ1,bNM,bMU,bNU];exact⟨_,rfl⟩;rw[hrun,bOT,hleaf]⟩
  ·have hil:i<b.lines.length:=by omega
   obtain⟨z,hz⟩:=cB b.lines i;have hdr:b.lines.drop i=z::b.lines.drop (i+1):=by rw[bMM hil];congr 1;exact bLY ((bLB hil).symm.trans hz)
   have hrun:=aLG (pre:=pre) hcd hdr;rw[hrun]at hxs;refine aQ<|Za5<|Za5<|iZ [] 1 [0,1,2,3,4,5,8,6,7] [false,true,true,true,true,true,true,true,true] [(false,0),(true,1),(true,2),(true,3),(true,4),(true,5),(true,8),(true,6),(true,7)] bC (fun _ _ _ h=>j2 (P:=prog) (fn:=f302) _ _ _ h) Yg rfl<|Zv rfl eT rfl hA dU<|Zi rfl cS rfl<|Zd 3 rfl fU rfl hA rfl<|Za rfl<|Zw rfl U33 cF rfl hl' rfl hz fun b1 o1 cs1 hr1 hcl1 hA1=>?_;obtain rfl:cs1=[qI _,qI _,qI _]:=hr1;refine Zv rfl lY rfl hA1 cF<|Za rfl<|Zaa rfl (fun D2 hD2=>I2 _ b z _ (hb0.up (hD2 _ Yaw)) Yd) fun v2 D2 hD2 hp2=>?_;have hr_:=hp2;have hrl:=hr_.len;refine dD rfl U33 rfl Yn rfl rfl bQK<|aF<|Za3<|CO (γ:=Nat×List Sc×List Int) (fun g=>(cX b.chairs z).length-g.1) (fun g=>g.1≤(cX b.chairs z).length∧g.2.1.length=b.lines.length+1∧S0 g.2.1∧g.2.2.length=b.lines.length*3∧g.2.1.take (i+1)=pre++[s]) (fun g=>J (done++aFC b i s z pre g.1)) (fun g=>[(36,qI (g.1:Int))]) [(35,_),(34,_),(7,_),(0,_),(1,_),(2,_),(3,_),(5,_)] (fun g=>rW bh bs bl bo blo bY br b.lines.length g.2.1 g.2.2) (fun g=>D2::Ds) (0,c,cl) ⟨Ye,h9,h10,h11,hp⟩ (by simp[aRE]) ⟨Ya,bQK⟩ cR Mm5 (aK) ?_;rintro⟨k,c1,cl1⟩ ⟨h12,h91,h92,h93,hp1⟩;simp only at h12 h91 h92 h93 hp1;refine aA<|Zan rfl<|bS<|Zag rfl (fun hc3=>?_) fun hc3=>?_
   ·simp only at hc3;obtain⟨x,hx⟩:=cB (cX b.chairs z) k;have hin:=((j4 (hbo.ln z (GT hz))).1 (GT hx)).1;have hn10:(rH (fK b s i x)).length=10:=YH hsb.lc hsb.lt;have hif:(rH (if mB s x=true then fK b s i x else s)).length=10:=by split;exact hn10;exact hs10
    refine aQ<|Za5<|Za3<|aA<|Zw rfl U33 cF rfl hr_ rfl hx fun b2 o2 cs2 hr2 hcl2 hA2=>?_;obtain rfl:cs2=[qI _,qI _,qI _]:=hr2;refine Zv rfl lY rfl hA2 cF<|Zad rfl jM rfl fun q1=>Zy rfl cF ζ<|bS<|mT (dN.mk [br,bs,bo,q1]) 5 [false,true,true,true,true,true,true,true,false,false,true,true,true,false] [.fork [0,1,2,3,4,5,6] 7 (.fin [8,9,10,11]) 11 (.fin [7,8,9,10]),.fin [12,13]] bC (fun _ _ _ h=>j2 (P:=prog) (fn:=f302) _ _ _ h) Yg ?_;apply FR (γ:=Nat) (fun _=>True) _ _ _ [.fork [0,1,2,3,4,5,6] 7 (.fin [8,9,10,11]) 11 (.fin [7,8,9,10])] [.fin [12,13]] rfl
    ·refine qT<|bQ [(false,0),(true,1),(true,2),(true,3),(true,4),(true,5),(true,6)] rfl<|dG rfl eT rfl hA (bKY _ hDr) dU (dN.out Ye) rfl bQK<|bG rfl b6 rfl Mm2 rfl (dN.out Ye) rfl bQK<|Za rfl<|eU rfl U349 eB rfl rfl Yd (by push_cast;omega) rfl bQK<|eD (n:=10) (us:=ints (rH s)) rfl lA eB rfl (bLP _ Mm3) (by rw[show 0+((i:Int)).toNat*10=i*10 by omega];exact V6 h92 (aRN hp1 hl)) (by simp[hs10]) (dN.out Ye) rfl bQK<|Za rfl<|bL (e:=206) (fz:=(0,0)) rfl lY rfl Mm0 cF (dN.out Ye) rfl bQK<|Zap (dV true true rfl rfl ?_ ?_)
     ·refine Zf rfl (fun D3 hD3=>CJ _ b s i x _ (hb0.up (hD3 _ Yaw)) hsb.lc hsb.lt Ya9 Ya9 Yd Yd Yd Yd)<|Zap<|aV [(false,8),(false,9),(true,10),(true,11)] rfl<|Za rfl<|Zaq rfl<|Zaq rfl<|Zad rfl wQ rfl fun q2=>Zap ?_;exact fun a w hh=>⟨q2,bQK,hh⟩
     ·refine Zad rfl wQ rfl fun q2=>Zap<|aV [(true,7),(false,8),(false,9),(true,10)] rfl<|Zf rfl (fun D3 hD3=>CJ _ b s i x _ (hb0.up (hD3 _ Yaw)) hsb.lc hsb.lt Ya9 Ya9 Yd Yd Yd Yd)<|Za rfl<|Zaq rfl<|Zaq rfl<|Zap ?_;exact fun a w hh=>⟨q2,bQK,hh.weak cR Mm5 aK⟩
    rintro q2 -;refine lI [(true,12),(false,13)] rfl<|kZ hA Yaw (fun hap=>bGH fun hnd=>nM (off:=0) (us:=ints (rH (if mB s x=true then fK b s i x else s))) (ws:=ints (rH (if mB s x=true then fK b s i x else s))) rfl rfl rfl rfl (by rw[show(ints _).length=10 by simp[hif]];exact eB) ζ (by simp[hif]) (by simp[hif]) (dI _) (bLG (dN.in_ (ap8 hap hnd))) bQK<|Zk rfl<|Zap<|mG<|Za1<|bM<|Za rfl<|Zau rfl<|aF ?_);refine Zaf rfl (fun hc4=>?_) fun hc4=>?_
    ·have hcan:mB s x=false:=by simpa using hc4
     refine Za8<|Za4<|Za9<|Za1<|aP<|Zah rfl<|Za rfl<|Zap ?_;exact vY 22 (k+1,c1,cl1) ⟨Yl,h91,h92,h93,hp1⟩ Yl (by rw[bEL hx hcan]) ⟨Ya,bQK⟩ rfl rfl (List.Sublist.cons _ (List.Sublist.cons _ Mm5)) (aK)
    ·have hcan:mB s x=true:=by simpa using hc4
     rw[bLR hcan];obtain⟨rr,hr⟩:=aNZ (b:=b) (i:=i) (s:=s) (z:=z) (pre:=pre) (k:=k+1);refine aQ<|Za5<|bE (dN.mk [bl,bs,q1,q2]) 1 11 510<|bG rfl fU rfl (List.Mem.tail _ Mm3) rfl (dN.out Ye) rfl bQK<|Za rfl<|bG rfl b6 rfl Mm3 rfl (dN.out Ye) rfl bQK<|Za rfl<|Zah rfl<|bL (e:=206) (fz:=(0,0)) rfl lY rfl Mm1 cF (dN.out Ye) rfl bQK<|bL (e:=242) (fz:=(0,0)) rfl lA rfl Mm0 (by rw[show(ints _).length=10 by simp[hn10]];exact eB) (dN.out Ye) rfl bQK<|eU rfl U33 cF rfl rfl Yd Yd rfl bQK<|bGH fun hnd=>?_;refine nM (off:=i*3) (us:=ints [x.kind,x.chair,x.token]) (ws:=ints (wr cl1 (i*3) [x.kind,x.chair,x.token])) rfl (xQ Yd) rfl rfl cF (.tail (.tail (.tail (.tail (.tail (.tail .head)))))) Yaq bBA (dI _) (bLG (dN.in_ (bIQ hnd).1)) bQK<|eU rfl U349 eB rfl rfl Yd (by push_cast;omega) rfl bQK<|nM (off:=(i+1)*10) (us:=ints (rH (fK b s i x))) (ws:=gS (c1.set (i+1) (fK b s i x))) rfl (xQ Yd) rfl rfl (by rw[show(ints _).length=10 by simp[hn10]];exact eB) (.tail (.tail (.tail (.tail (.tail .head))))) (by rw[aRO h92,aN,hn10];omega) (aSM h92 hn10 Yd) (dI _) (bLG (dN.in_ (bIQ hnd).2)) bQK<|bS<|bAF (μ':=rW bh bs bl bo blo bY br b.lines.length (c1.set (i+1) (fK b s i x)) (wr cl1 (i*3) [x.kind,x.chair,x.token])) 2 rfl<|aP<|Zp rfl rE rfl Mm0 rfl<|Za rfl<|Zah rfl<|wU rfl rfl rfl rfl (ih (j-1) Yd (i+1) (pre++[s]) (fK b s i x) (c1.set (i+1) (fK b s i x)) (wr cl1 (i*3) [x.kind,x.chair,x.token]) (done++aFC b i s z pre k) (rr++rest) (i+1:Int) _ (bKY _ hDr) (bKY _ hDy) Yd Yd Yaq (by simpa using h91) (h92.set hn10 _) (by rw[bEP Yaq];exact h93) (aLK Yd hp1) (aQZ hbo hsb x i) (by rw[hxs,hr,aEM hx hcan];simp)) rfl bQK ?_
     rintro _ J2 _ ⟨b2,c2,cl2,rfl,h9',h10',h11',hp',rfl,hJ2⟩;refine Zau rfl<|aF<|Zaf rfl (fun hc5=>?_) fun hc5=>?_
     ·obtain rfl:b2=false:=by simpa using hc5
      refine aA<|Wg ?_;exact nC (P:=prog) (fn:=f302) (N:=68) (vs:=[_]) rfl rfl ⟨rfl,bQK⟩ (fun D h=>⟨D,bKY _ h,Le.refl D⟩) ⟨false,c2,cl2,rfl,h9',h10',h11',IY hp' hl,rfl,by simpa using hJ2⟩
     ·obtain rfl:b2=true:=by simpa using hc5
      refine Wcf ?_;exact vY 36 (k+1,c2,cl2) ⟨Yl,h9',h10',h11',IY hp' hl⟩ Yl (by simpa only[bNM,aEM hx hcan,bLK]using hJ2) ⟨Ya,bQK⟩ rfl rfl Mm5 (aK)
   ·have hk:k=(cX b.chairs z).length:=by simp only at hc3;omega
    refine Wj ?_;exact nC (P:=prog) (fn:=f302) (N:=68) (vs:=[_]) rfl rfl ⟨rfl,bQK⟩ (fun D h=>⟨D,bKY _ h,Le.refl D⟩) ⟨true,c1,cl1,rfl,h91,h92,h93,hp1,rfl,by simp only[bNM];rw[hrun,hk]⟩
section
variable{X:Cx}{γb:Type}[Membership Nat γb]{bad:γb}{all:Array Oper}{K:Act→Δ→Prop}{Q:Exit→Act→Δ→Prop}{σ:cD}{μ:aD}{Ds:List aC}{os:List (Bool×Nat)}{fl:Bool}{ix d n:Nat}{x y:Operand}{v:Γ}{ty:Θ}{pos:String}{aft:Array Edge}{g:Option (Nat×Bool)}{k k':IntKind}
def aXI(b:bH)(l q1 br:Nat)(g:Nat×Nat×Nat×Nat):cD:=[(3,.pointer (some ⟨g.1,0,none⟩)),(4,.pointer (some ⟨g.2.1,0,none⟩)),(14,.slice (some ⟨g.2.2.1,0,none⟩) (b.lines.length+1) (b.lines.length+1)),(2,qP q1),(1,qP br),(0,.func (.yield l) #[] #[])]
def aBK(b:bH)(g:Nat×Nat×Nat×Nat):aD:=[(g.2.1,qC [qN] 349),(g.1,qC [.slice (some ⟨g.2.2.2,0,none⟩) b.lines.length b.lines.length] 33),(g.2.2.1,qC (gS (List.replicate (b.lines.length+1) aVO)) 242),(g.2.2.2,qC (ints (List.replicate (b.lines.length*3) 0)) 206)]
theorem eK{b:bH}{l I br:Nat}{σ':cD}{μ':aD}{a:Act}{w:Δ}(bl bs bo blo:Nat)(hh:Hl X σ' μ' Ds a w)(hs:CG σ' (aXI b l I br (bl,bs,bo,blo)):=by exact cR)(hm:∀r∈aBK b (bl,bs,bo,blo),r∈μ':=by simp[aBK])(hn:(μ'.map (·.1)).Nodup→((aBK b (bl,bs,bo,blo)).map (·.1)).Nodup:=by simp[aBK]<;>omega):
  ∃g:Nat×Nat×Nat×Nat,True∧Hl X (aXI b l I br g) (aBK b g) Ds a w:=⟨(bl,bs,bo,blo),bQK,(hh.perm hm hn).weak hs Mm5 aK⟩
theorem tP(h8:n≤8)(ho:all[ix]?= some ⟨some d,.makeSlice 33 x y,ty,pos,aft,none⟩)(hx:ev σ x=some (.int k (n:Int)))(hy:ev σ y=some (.int k' (n:Int)))
  (kk:∀b,WL prog X bad all K Q os ((d,qS b n n)::σ) ((b,qC (ints (List.replicate (n*3) 0)) 206)::μ) Ds) (hN:Nat.blt d X.N=true:=by exact rfl):WL prog X bad all K Q ((fl,ix)::os) σ μ Ds:=
 uM ho U33 cF jM rfl O9 hx hy Yd (V0 Ye rfl) hN bQK kk
theorem nX(h8:n≤8)(ho:all[ix]?= some ⟨some d,.makeSlice 349 x y,ty,pos,aft,none⟩)(hx:ev σ x=some (.int k ((n:Int)+1)))(hy:ev σ y=some (.int k' ((n:Int)+1)))
  (kk:∀b,WL prog X bad all K Q os ((d,qS b (n+1) (n+1))::σ) ((b,qC (gS (List.replicate (n+1) aVO)) 242)::μ) Ds) (hN:Nat.blt d X.N=true:=by exact rfl):WL prog X bad all K Q ((fl,ix)::os) σ μ Ds:=
 uM (n:=n+1) ho U349 eB wQ rfl aYV (hx.trans (bLE (fun z=>some (Value.int k z)) Yd)) (hy.trans (bLE (fun z=>some (Value.int k' z)) Yd)) Yd ((V0 Ye rfl).trans (bCC _)) hN bQK kk
theorem gL{D₁:aC}{br q:Nat}{c:Γ}{cs:List Γ}{μ':aD}(hA:At D₁ br 0 (c::cs))(ho:all[ix]?= some ⟨none,.store 33 x y,ty,pos,aft,none⟩)(hx:ev σ x=some (qP q))(hy:ev σ y=some v)(hv:v.cells=[v].toArray)(hm:bO μ q (qC [qN] 33) (qC [v] 33) μ')(hs:TS prog 33 1)(hc:cell1 v=true)
  (kk:WL prog X (dN.mk [br]) all K Q os σ μ' Ds) (hD:D₁∈Ds:=by simp):WL prog X (dN.mk [br]) all K Q ((fl,ix)::os) σ μ Ds:=
 kZ hA hD fun hap=>nM (off:=0) (us:=[v]) (vs:=[qN]) (ws:=[v]) ho hx hy hv hs hm Ye rfl (fun u hu=>by rw[bLS]at hu;rw[hu];exact hc) (bLG (dN.in_ (by rw[bLS];rintro rfl;exact hap (bKX.2 ⟨_,hm.mem,rfl⟩)))) bQK kk
end
theorem y5{n:Nat}:S0 (List.replicate n aVO):=fun s hs=>by rw[List.eq_of_mem_replicate hs];rfl
set_option maxHeartbeats 1000000 in
theorem W1{b:bH}{bv lv cv:Γ}{Dr:aC}{br:Nat}(hbo:aLN b)(hbv:bv=.agg #[qI b.chairs,qI b.coin,qI b.box,lv,cv])(hb0:gK Dr bv b)(hA:At Dr br 0 [qI b.chairs,qI b.coin,qI b.box,lv,cv]):
  LW prog 301 [qP br] Dr (xT b 0 (gN b)) (aBS b.lines.length) gS:=by
 subst hbv;obtain⟨lv',cv',he,hl',hc'⟩:=id hb0;obtain⟨rfl,rfl⟩:=OQ he;have hl8:=hbo.l8;refine DC 22 func301 rfl rfl rfl rfl fun lo l J Jx hs hsx hY=>aA<|Zab rfl fun q1 E1 hE1 hB1=>bS<|mT (dN.mk [br]) 4 [false,false,false,true,true,true,true,true,true,true,true,true,false] [.forkN [0,1,2,4,5,6,7] 3 [8,9,10] (FC [(3,.forkN [] 8 [9,10] (FC [(8,.fork [] 9 (.fin [10,11]) 10 (.fin [9,11])),(9,.fork [] 8 (.fin [10,11]) 10 (.fork [] 8 (.fin [11]) 11 (.fin [8]))),(10,.fork [] 8 (.fin [9,11]) 9 (.fork [] 8 (.fin [11]) 11 (.fin [8])))])),(8,.forkN [] 3 [9,10] (FC [(3,.fork [] 9 (.fin [10,11]) 10 (.fin [9,11])),(9,.fork [] 3 (.fin [10,11]) 10 (.fin [3,11])),(10,.fork [] 3 (.fin [9,11]) 9 (.fin [3,11]))])),(9,.forkN [] 3 [8,10] (FC [(3,.fork [] 8 (.fin [10,11]) 10 (.fork [] 8 (.fin [11]) 11 (.fin [8]))),(8,.fork [] 3 (.fin [10,11]) 10 (.fin [3,11])),(10,.fork [] 3 (.fork [] 8 (.fin [11]) 11 (.fin [8])) 8 (.fin [3,11]))])),(10,.forkN [] 3 [8,9] (FC [(3,.fork [] 8 (.fin [9,11]) 9 (.fork [] 8 (.fin [11]) 11 (.fin [8]))),(8,.fork [] 3 (.fin [9,11]) 9 (.fin [3,11])),(9,.fork [] 3 (.fork [] 8 (.fin [11]) 11 (.fin [8])) 8 (.fin [3,11]))]))]),.fin [12]] bC (fun _ _ _ h=>j2 (P:=prog) (fn:=f301) _ _ _ h) Yg<|FR (γ:=Nat×Nat×Nat×Nat) (fun g=>True) (fun g=>aXI b l q1 br g) (fun g=>aBK b g) (fun g=>[E1,Dr]) [.forkN [0,1,2,4,5,6,7] 3 [8,9,10] (FC [(3,.forkN [] 8 [9,10] (FC [(8,.fork [] 9 (.fin [10,11]) 10 (.fin [9,11])),(9,.fork [] 8 (.fin [10,11]) 10 (.fork [] 8 (.fin [11]) 11 (.fin [8]))),(10,.fork [] 8 (.fin [9,11]) 9 (.fork [] 8 (.fin [11]) 11 (.fin [8])))])),(8,.forkN [] 3 [9,10] (FC [(3,.fork [] 9 (.fin [10,11]) 10 (.fin [9,11])),(9,.fork [] 3 (.fin [10,11]) 10 (.fin [3,11])),(10,.fork [] 3 (.fin [9,11]) 9 (.fin [3,11]))])),(9,.forkN [] 3 [8,10] (FC [(3,.fork [] 8 (.fin [10,11]) 10 (.fork [] 8 (.fin [11]) 11 (.fin [8]))),(8,.fork [] 3 (.fin [10,11]) 10 (.fin [3,11])),(10,.fork [] 3 (.fork [] 8 (.fin [11]) 11 (.fin [8])) 8 (.fin [3,11]))])),(10,.forkN [] 3 [8,9] (FC [(3,.fork [] 8 (.fin [9,11]) 9 (.fork [] 8 (.fin [11]) 11 (.fin [8]))),(8,.fork [] 3 (.fin [9,11]) 9 (.fin [3,11])),(9,.fork [] 3 (.fork [] 8 (.fin [11]) 11 (.fin [8])) 8 (.fin [3,11]))]))])] [.fin [12]] rfl ?_ ?_
 ·refine qT<|sW [(false,0),(false,1),(false,2),(true,4),(true,5),(true,6),(true,7)] rfl<|Zi rfl cS rfl<|dZ rfl (k:=3) fU rfl hA Ye rfl (dN.out Ye) rfl bQK<|Zai rfl U33 rfl hl' rfl<|Zi rfl cS rfl<|dZ rfl (k:=3) fU rfl hA Ye rfl (dN.out Ye) rfl bQK<|Zai rfl U33 rfl hl' rfl<|Zah rfl ?_;refine Zap (gY true rfl rfl ?_ (gY true rfl rfl ?_ (gY true rfl rfl ?_ (gY true rfl rfl ?_ (G7)))))
  ·refine tP hl8 rfl rfl rfl fun blo=>Zap<|sW [] rfl ?_;refine Zap (gY true rfl rfl ?_ (gY true rfl rfl ?_ (gY true rfl rfl ?_ (G7))))
   ·refine nX hl8 rfl rfl rfl (fun bo=>Zap<|bQ [] rfl<|Zap (dV true true rfl rfl ?_ ?_))
    ·refine Zad rfl nZ rfl fun q2=>Zap<|aV [(true,10),(true,11)] rfl<|Zad rfl lB rfl fun q3=>Wan ?_;exact fun a w hh=>eK q2 q3 bo blo hh
    ·refine Zad rfl lB rfl fun q2=>Zap<|aV [(true,9),(true,11)] rfl<|Zad rfl nZ rfl fun q3=>Wau ?_;exact fun a w hh=>eK q3 q2 bo blo hh
   ·refine Zad rfl nZ rfl (fun q2=>Zap<|bQ [] rfl<|Zap (dV true true rfl rfl ?_ ?_))
    ·refine nX hl8 rfl rfl rfl fun bo=>Zap<|aV [(true,10),(true,11)] rfl<|Zad rfl lB rfl fun q3=>Wad ?_;exact fun a w hh=>eK q2 q3 bo blo hh
    ·refine Zad rfl lB rfl (fun q3=>Zap<|bQ [] rfl<|Zap (dV true true rfl rfl ?_ ?_))
     ·refine nX hl8 rfl rfl rfl fun bo=>Zap<|aV [(true,11)] rfl<|Wad ?_;exact fun a w hh=>eK q2 q3 bo blo hh
     ·refine gL hA rfl rfl rfl rfl (.tail ζ) eP rfl<|Zap<|aV [(true,8)] rfl<|nX hl8 rfl rfl rfl fun bo=>Zap ?_;exact fun a w hh=>eK q2 q3 bo blo hh
   ·refine Zad rfl lB rfl (fun q2=>Zap<|bQ [] rfl<|Zap (dV true true rfl rfl ?_ ?_))
    ·refine nX hl8 rfl rfl rfl fun bo=>Zap<|aV [(true,9),(true,11)] rfl<|Zad rfl nZ rfl fun q3=>Wau ?_;exact fun a w hh=>eK q3 q2 bo blo hh
    ·refine Zad rfl nZ rfl (fun q3=>Zap<|bQ [] rfl<|Zap (dV true true rfl rfl ?_ ?_))
     ·refine nX hl8 rfl rfl rfl fun bo=>Zap<|aV [(true,11)] rfl<|Wan ?_;exact fun a w hh=>eK q3 q2 bo blo hh
     ·refine gL hA rfl rfl rfl rfl ζ eP rfl<|Zap<|aV [(true,8)] rfl<|nX hl8 rfl rfl rfl fun bo=>Zap ?_;exact fun a w hh=>eK q3 q2 bo blo hh
  ·refine nX hl8 rfl rfl rfl fun bo=>Zap<|sW [] rfl ?_;refine Zap (gY true rfl rfl ?_ (gY true rfl rfl ?_ (gY true rfl rfl ?_ (G7))))
   ·refine tP hl8 rfl rfl rfl (fun blo=>Zap<|bQ [] rfl<|Zap (dV true true rfl rfl ?_ ?_))
    ·refine Zad rfl nZ rfl fun q2=>Zap<|aV [(true,10),(true,11)] rfl<|Zad rfl lB rfl fun q3=>Wan ?_;exact fun a w hh=>eK q2 q3 bo blo hh
    ·refine Zad rfl lB rfl fun q2=>Zap<|aV [(true,9),(true,11)] rfl<|Zad rfl nZ rfl fun q3=>Wau ?_;exact fun a w hh=>eK q3 q2 bo blo hh
   ·refine Zad rfl nZ rfl (fun q2=>Zap<|bQ [] rfl<|Zap (dV true true rfl rfl ?_ ?_))
    ·refine tP hl8 rfl rfl rfl fun blo=>Zap<|aV [(true,10),(true,11)] rfl<|Zad rfl lB rfl fun q3=>Wad ?_;exact fun a w hh=>eK q2 q3 bo blo hh
    ·refine Zad rfl lB rfl fun q3=>Zap<|aV [(true,3),(true,11)] rfl<|tP hl8 rfl rfl rfl fun blo=>Wad ?_;exact fun a w hh=>eK q2 q3 bo blo hh
   ·refine Zad rfl lB rfl (fun q2=>Zap<|bQ [] rfl<|Zap (dV true true rfl rfl ?_ ?_))
    ·refine tP hl8 rfl rfl rfl fun blo=>Zap<|aV [(true,9),(true,11)] rfl<|Zad rfl nZ rfl fun q3=>Wau ?_;exact fun a w hh=>eK q3 q2 bo blo hh
    ·refine Zad rfl nZ rfl fun q3=>Zap<|aV [(true,3),(true,11)] rfl<|tP hl8 rfl rfl rfl fun blo=>Wan ?_;exact fun a w hh=>eK q3 q2 bo blo hh
  ·refine Zad rfl nZ rfl fun q2=>Zap<|sW [] rfl ?_;refine Zap (gY true rfl rfl ?_ (gY true rfl rfl ?_ (gY true rfl rfl ?_ (G7))))
   ·refine tP hl8 rfl rfl rfl (fun blo=>Zap<|bQ [] rfl<|Zap (dV true true rfl rfl ?_ ?_))
    ·refine nX hl8 rfl rfl rfl fun bo=>Zap<|aV [(true,10),(true,11)] rfl<|Zad rfl lB rfl fun q3=>Waa ?_;exact fun a w hh=>eK q2 q3 bo blo hh
    ·refine Zad rfl lB rfl (fun q3=>Zap<|bQ [] rfl<|Zap (dV true true rfl rfl ?_ ?_))
     ·refine nX hl8 rfl rfl rfl fun bo=>Zap<|aV [(true,11)] rfl<|Waa ?_;exact fun a w hh=>eK q2 q3 bo blo hh
     ·refine gL hA rfl rfl rfl rfl (.tail (.tail ζ)) eP rfl<|Zap<|aV [(true,8)] rfl<|nX hl8 rfl rfl rfl fun bo=>Zap ?_;exact fun a w hh=>eK q2 q3 bo blo hh
   ·refine nX hl8 rfl rfl rfl (fun bo=>Zap<|bQ [] rfl<|Zap (dV true true rfl rfl ?_ ?_))
    ·refine tP hl8 rfl rfl rfl fun blo=>Zap<|aV [(true,10),(true,11)] rfl<|Zad rfl lB rfl fun q3=>Waa ?_;exact fun a w hh=>eK q2 q3 bo blo hh
    ·refine Zad rfl lB rfl fun q3=>Zap<|aV [(true,3),(true,11)] rfl<|tP hl8 rfl rfl rfl fun blo=>Waa ?_;exact fun a w hh=>eK q2 q3 bo blo hh
   ·refine Zad rfl lB rfl (fun q3=>Zap<|bQ [] rfl<|Zap (dV true true rfl rfl ?_ ?_))
    ·refine tP hl8 rfl rfl rfl (fun blo=>Zap<|bQ [] rfl<|Zap (dV true true rfl rfl ?_ ?_))
     ·refine nX hl8 rfl rfl rfl fun bo=>Zap<|aV [(true,11)] rfl<|Waa ?_;exact fun a w hh=>eK q2 q3 bo blo hh
     ·refine gL hA rfl rfl rfl rfl (.tail (.tail ζ)) eP rfl<|Zap<|aV [(true,8)] rfl<|nX hl8 rfl rfl rfl fun bo=>Zap ?_;exact fun a w hh=>eK q2 q3 bo blo hh
    ·refine nX hl8 rfl rfl rfl fun bo=>Zap<|aV [(true,3),(true,11)] rfl<|tP hl8 rfl rfl rfl fun blo=>Waa ?_;exact fun a w hh=>eK q2 q3 bo blo hh
  ·refine Zad rfl lB rfl fun q2=>Zap<|sW [] rfl ?_;refine Zap (gY true rfl rfl ?_ (gY true rfl rfl ?_ (gY true rfl rfl ?_ (G7))))
   ·refine tP hl8 rfl rfl rfl (fun blo=>Zap<|bQ [] rfl<|Zap (dV true true rfl rfl ?_ ?_))
    ·refine nX hl8 rfl rfl rfl fun bo=>Zap<|aV [(true,9),(true,11)] rfl<|Zad rfl nZ rfl fun q3=>Wau ?_;exact fun a w hh=>eK q3 q2 bo blo hh
    ·refine Zad rfl nZ rfl (fun q3=>Zap<|bQ [] rfl<|Zap (dV true true rfl rfl ?_ ?_))
     ·refine nX hl8 rfl rfl rfl fun bo=>Zap<|aV [(true,11)] rfl<|Wan ?_;exact fun a w hh=>eK q3 q2 bo blo hh
     ·refine gL hA rfl rfl rfl rfl ζ eP rfl<|Zap<|aV [(true,8)] rfl<|nX hl8 rfl rfl rfl fun bo=>Zap ?_;exact fun a w hh=>eK q3 q2 bo blo hh
   ·refine nX hl8 rfl rfl rfl (fun bo=>Zap<|bQ [] rfl<|Zap (dV true true rfl rfl ?_ ?_))
    ·refine tP hl8 rfl rfl rfl fun blo=>Zap<|aV [(true,9),(true,11)] rfl<|Zad rfl nZ rfl fun q3=>Wau ?_;exact fun a w hh=>eK q3 q2 bo blo hh
    ·refine Zad rfl nZ rfl fun q3=>Zap<|aV [(true,3),(true,11)] rfl<|tP hl8 rfl rfl rfl fun blo=>Wan ?_;exact fun a w hh=>eK q3 q2 bo blo hh
   ·refine Zad rfl nZ rfl (fun q3=>Zap<|bQ [] rfl<|Zap (dV true true rfl rfl ?_ ?_))
    ·refine tP hl8 rfl rfl rfl (fun blo=>Zap<|bQ [] rfl<|Zap (dV true true rfl rfl ?_ ?_))
     ·refine nX hl8 rfl rfl rfl fun bo=>Zap<|aV [(true,11)] rfl<|Wad ?_;exact fun a w hh=>eK q3 q2 bo blo hh
     ·refine gL hA rfl rfl rfl rfl (.tail ζ) eP rfl<|Zap<|aV [(true,8)] rfl<|nX hl8 rfl rfl rfl fun bo=>Zap ?_;exact fun a w hh=>eK q3 q2 bo blo hh
    ·refine nX hl8 rfl rfl rfl fun bo=>Zap<|aV [(true,3),(true,11)] rfl<|tP hl8 rfl rfl rfl fun blo=>Wad ?_;exact fun a w hh=>eK q3 q2 bo blo hh
 rintro⟨bl,bs,bo,blo⟩ -;dsimp only[aXI,aBK];refine lI [(false,12)] rfl<|Zr rfl aZV ζ rfl<|Zap<|mG<|Za1<|aA<|Zad rfl CD rfl fun q4=>aL<|Za0 rfl<|Zr rfl BS ζ rfl<|bS<|bE [] 1 5 6 ?_;refine Zp rfl b6 rfl Mm1 rfl<|Zv rfl eT rfl hA dU<|Zf rfl (fun D1 hD1=>yB _ b _ (hb0.up (hD1 _ Ye)))<|eU rfl U349 eB rfl rfl Yd (by push_cast;omega) rfl bQK<|bP (off:=0*10) (us:=ints (rH (gN b))) (ws:=gS ((List.replicate (b.lines.length+1) aVO).set 0 (gN b))) rfl (xQ Yd) rfl rfl eB (.tail (.tail (.tail ζ))) (by rw[aRO y5,aN,show(rH (gN b)).length=10 from rfl,List.length_replicate];omega) (aSM y5 rfl Ye) (dI _) bQK<|aF<|aP<|Zp rfl rE rfl Mm0 rfl<|wU rfl rfl rfl rfl (aWA (l:=l) hbo rfl hb0 hA hB1 b.lines.length 0 [] (gN b) ((List.replicate (b.lines.length+1) aVO).set 0 (gN b)) (List.replicate (b.lines.length*3) 0) [] [] 0 _ Ye Ye rfl Yd rfl Ye (y5.set rfl _) Ye (by simp[List.replicate_succ]) (BM b) Ye J Jx hs hsx hY) rfl bQK ?_
 rintro _ J2 _ ⟨b2,c2,cl2,rfl,h9',h10',h11',hp',rfl,hJ2⟩;refine Zap ?_;exact nC (P:=prog) (fn:=f301) (N:=22) (vs:=[]) rfl rfl bQK (fun D h=>⟨D,Xbn,Le.refl D⟩) Ybg
theorem ZN(bv:Γ)(b:bH)(D:aC)(hb:gK D bv b)(hbo:aLN b):
  Fn prog 200 #[bv] D (fun D' v=>∃br,v=.func (.func 301) #[] #[qP br]∧LW prog 301 [qP br] D' (xT b 0 (gN b)) (aBS b.lines.length) gS):=by
 have I:=hb;obtain⟨lv,cv,rfl,hl,hc⟩:=hb;refine Zx 4 func200 rfl fun h0=>aA<|Zab rfl fun U E1 R O=>Zk rfl<|aL<|Za0 rfl<|We ?_;exact aE rfl fun D hD=>⟨_,rfl,W1 hbo rfl (I.up (hD _ Ye)) (O.up (hD _ Ye))⟩
end L3
open Go.Proofs
namespace L3
open L1
open C3
theorem aBZ(b:bH):∀(ls:List eL) (i:Nat) (s:Sc),s.ch.length=4→s.tk.length=4→∀x∈H2 b ls i s,x.2.length=ls.length+1∧∀u∈x.2,u.ch.length=4∧u.tk.length=4
  | [],i,s,h4,h5,x,hx=>by
    unfold H2 at hx;split at hx
    · obtain rfl:x=([],[s]):=by simpa using hx
      exact ⟨rfl, fun u hu => by obtain rfl : u = s := by simpa using hu
                                 exact⟨h4,h5⟩⟩
    · cases hx
  |l::ls,i,s,h4,h5,x,hx=>by
    unfold H2 at hx;split at hx
    · obtain⟨r,_,hr⟩:=bOV.1 hx;split at hr
      · obtain⟨y,hy,rfl⟩:=bKX.1 hr;obtain⟨g1,g2⟩:=aBZ b ls (i+1) (fK b s i r) (by unfold fK;split<;>simp[h4]) (by unfold fK;split<;>simp[h5]) y hy
        refine⟨by simp[g1],fun u hu=>?_⟩;rcases bNA.1 hu with rfl|hu
        · exact⟨h4,h5⟩
        · exact g2 u hu
      · cases hr
    · cases hx
theorem TO{b:bH}(hn:b.chairs≤4):∀(ls:List eL) (i:Nat) (s:Sc),(H2 b ls i s).length≤32^ls.length
 | [],i,s=>by unfold H2;split<;>simp
 |l::ls,i,s=>by
  unfold H2;split
  ·rw[List.length_flatMap];have h1:∀(rs:List eL),(rs.map fun r=>(if mB s r=true then(H2 b ls (i+1) (fK b s i r)).map fun x=>(r::x.1,s::x.2)else []).length).sum≤rs.length*32^ls.length:=by
    intro rs;induction rs with
    |nil=>simp
    |cons r rs ih=>
     rw[bMD,List.sum_cons,bLF,bNV,Nat.one_mul,Nat.add_comm];refine Nat.add_le_add ih ?_;split
     ·rw[bMK];exact TO hn ls _ _
     ·simp
   have h2:=h1 (cX b.chairs l);have h3:=YP (l:=l) hn;have h4:(cX b.chairs l).length*32^ls.length≤32*32^ls.length:=bPJ _ h3;rw[bLF,Nat.pow_succ,Nat.mul_comm];omega
  ·simp
theorem aUM{b:bH}(hbo:aLN b):(xT b 0 (gN b)).length≤1099511627776:=by
 unfold xT;rw[bMK];have h1:=TO hbo.ch.2 (b.lines.drop 0) 0 (gN b);have h2:32^(b.lines.drop 0).length≤32^8:=bMY Yd (by rw[bOY];exact hbo.l8)
 omega
theorem aJA{b:bH}(hbo:aLN b){x:List Sc}{pre r:List (List Sc)}(h:xT b 0 (gN b)=pre++x::r):x.length=b.lines.length+1∧(∀u∈x,u.ch.length=4∧u.tk.length=4)∧pre.length<1099511627776:=by
 have hm:x∈xT b 0 (gN b):=by rw[h];simp
 obtain⟨y,hy,rfl⟩:=bKX.1 hm;obtain⟨g1,g2⟩:=aBZ b _ _ _ rfl rfl y hy;refine⟨by simpa using g1,g2,?_⟩;have:=aUM hbo;rw[h]at this;simp at this;omega
theorem bHF{x:List Sc}{k:Nat}{u:Sc}(h:x[k]?= some u):bEK x k=u:=by unfold bEK;rw[bNG,h];rfl
theorem bEN{D:aC}{bo n:Nat}{x:List Sc}(h:At D bo 0 (gS x))(hx:x.length=n)(h4:∀u∈x,u.ch.length=4∧u.tk.length=4)(hn:n≤1000):Sl D WD 10 (qS bo n n) x:=by
 have I:S0 x:=fun u hu=>M8 (h4 u hu).1 (h4 u hu).2
 refine⟨_,n,by rw[hx],Yd,Yd,bLG ⟨bo,0,rfl,fun i u hi=>⟨_,rfl,by rw[aN,I u (GT hi)],fun j v hj=>?_⟩⟩⟩;have:=V6 I hi;rw[←this,List.getElem?_take]at hj;split at hj
 ·rw[bNS]at hj;have:=h _ v hj;rw[show 0+i*10+j=0+(i*10+j) by omega];exact this
 ·cases hj


theorem aAA(s:Sc)(D:aC)(h4:s.ch.length=4)(h5:s.tk.length=4):Fn prog 119 #[ZV s] D (fun _ v=>v=qI s.money):=by
 refine Zx 5 func119 rfl fun h0=>aA<|Zab rfl fun R E1 O I=>Zk rfl<|aL<|Zi rfl pQ rfl<|dZ (v:=qI s.money) rfl (k:=8) aH rfl I Yc (cN (K5 h4 h5)) n4 rfl bQK<|We ?_;exact aE rfl fun D hD=>rfl
def TB(F:Sc→Int)(b:bH)(k:Nat):Int×Int:=(C1.tN (((xT b 0 (gN b)).map fun x=>bEK x k).map F),C1.rK (((xT b 0 (gN b)).map fun x=>bEK x k).map F))
def BF(F:Sc→Int)(ss:List Sc)(g:(Int×Int)×Bool):Prop:=(g.2=true∧ss=[]∧g.1=(0,0))∨(g.2=false∧ss≠[]∧g.1=(C1.tN (ss.map F),C1.rK (ss.map F)))
theorem aGK{l:List Int}{x:Int}(h:l≠[]):C1.tN (l++[x])=min (C1.tN l) x:=by
 cases l with
 |nil=>exact absurd rfl h
 |cons a l=>show(l++[x]).foldl min a=_;rw[bMT];rfl
theorem aHJ{l:List Int}{x:Int}(h:l≠[]):C1.rK (l++[x])=max (C1.rK l) x:=by
 cases l with
 |nil=>exact absurd rfl h
 |cons a l=>show(l++[x]).foldl max a=_;rw[bMT];rfl
theorem BF.add{F:Sc→Int}{ss:List Sc}{r r':Int×Int}{fb:Bool}{s u:Sc}(h:BF F ss (r,fb))(e:s=u)(hc:(fb=true∧r'=(F u,F u))∨(fb=false∧r'=r)):BF F (ss++[s]) ((min r'.1 (F u),max r'.2 (F u)),false):=by
 subst e;refine bLG ⟨rfl,Ye,?_⟩;rcases hc with⟨h1,rfl⟩|⟨h1,rfl⟩
 ·rcases h with⟨_,rfl,_⟩|⟨h2,_⟩
  ·simp[C1.tN,C1.rK]
  ·simp only at h2;rw[h1]at h2;cases h2
 ·rcases h with⟨h2,_⟩|⟨_,h3,h4⟩
  ·simp only at h2;rw[h1]at h2;cases h2
  ·simp only at h4;subst h4;have hne:ss.map F≠[]:=by simpa using h3
   rw[bLO,bOT,aGK hne,aHJ hne]
theorem BF.all{F:Sc→Int}{b:bH}{k:Nat}{r:Int×Int}{fb:Bool}(h:BF F ((xT b 0 (gN b)).map fun x=>bEK x k) (r,fb)):mH r=mH (TB F b k):=by
 unfold TB;rcases h with⟨_,h1,h2⟩|⟨_,_,h2⟩
 ·rw[h1];simp only at h2;rw[h2];rfl
 ·simp only at h2;rw[h2]
theorem JG{b:bH}{fine:Bool}(h:J6 b fine=0):bB b=0∧fine=true:=by
 unfold J6 at h;split at h
 ·rename_i hf;exact absurd h hf
 ·rename_i hf;split at h
  ·omega
  ·rename_i h2;exact⟨by simpa using hf,Xao⟩
theorem aFH(F:Sc→Int)(bv:Γ)(b:bH)(k:Nat)(fo:FuncId)(D:aC)(hb:gK D bv b)(hbo:aLN b)(hk:k≤b.lines.length)
  (hq:∀s D,s.ch.length=4→s.tk.length=4→Fn prog fo #[ZV s] D fun _ v=>v=qI (F s)):
  Fn prog 118 #[bv,qI (k:Int),.func (.func fo) #[] #[]] D (fun _ v=>v=mH (TB F b k)):=by
 have Y:=hb;obtain⟨lv,cv,rfl,hl,hc⟩:=hb;have hch:=hbo.ch;have hN:=hbo.l8;refine NH 29 func118 rfl rfl rfl rfl fun h0=>aA<|Zab rfl fun q1 E1 hO Z=>Zab rfl fun q2 E2 hP hB=>Zab rfl fun q3 E3 hR hE=>Zad rfl nA rfl fun q4=>aL<|Zad rfl pW rfl fun q5=>Zr rfl mS ζ rfl<|bK<|Zv rfl eT rfl Z dU<|Zaa rfl (fun D1 I=>ZN _ b _ (Y.up (I _ Ye)) hbo) fun v1 D1 I hF=>?_;refine aF<|Za3 ?_;obtain⟨br,rfl,hit⟩:=hF;refine X2 (γ:=(Int×Int)×Bool) (xs:=xT b 0 (gN b)) (enc:=aBS b.lines.length) (cells:=gS) (Dr:=D1) (fun pre g=>BF F (pre.map fun x=>bEK x k) g) (fun _ _ _=>False) (fun g=>[(q5,qC [.bool g.2] 4),(q4,qC [qI g.1.1,qI g.1.2] 72)]) ((0,0),true) rfl rfl (fun _ k hk=>by cases hk) rfl hit Ye (fun _ vs h=>by obtain⟨_,rfl⟩:=h;rfl) rfl (bLL ⟨rfl,rfl,rfl⟩) rfl ?_ ?_ fun _ _ _ _ h=>h.elim
 ·rintro pre x ⟨r,fb⟩ ⟨us,hx⟩ hV l bd bo vs rec hh D7 hS ⟨blo,rfl⟩ hbo_ hst hpend;obtain⟨hxl,O,hpl⟩:=aJA hbo hx;have hsl:=bEN hbo_ hxl O Yd;obtain⟨u,hu⟩:=cB x k;have hau:bEK x k=u:=bHF hu;obtain⟨R,U⟩:=O u (GT hu);have V:=M8 R U;refine aP<|Zk rfl<|Zap ?_;refine fun a w hhh=>N3 (A:=[(_,_),(_,_)]) (B:=[(bd,.deferred (some []))]) (r:=rec) (l:=l) Ybc hst ?_ a w hhh
  simp only[bNO,bMH];refine Za3<|Za5<|uJ [] 3 7 30 (fun _ _ _ h=>h)<|Zd 0 rfl aXJ rfl hE rfl<|Za rfl<|Zd 0 rfl aH rfl hB rfl<|Zw rfl U349 eB rfl hsl rfl hu fun b1 o1 hH hI hK hJ=>?_;obtain rfl:hH=ints (rH _):=hI;refine dG rfl lA rfl hJ Ym (by rw[show(ints _).length=10 by simp[V]];exact eB) n4 rfl bQK<|Zf rfl (fun D2 hX=>hq u _ R U)<|Zk rfl<|bK<|Zp rfl a8 rfl Mm0 rfl<|aF<|Zaf rfl (fun hc1=>?_) fun hc1=>?_
  ·refine aP<|Za rfl<|Za rfl<|Zt [qI (F u),qI (F u)] rfl U8 nA rfl<|Zy rfl eC (.tail ζ)<|Zr rfl mS ζ rfl<|aF<|aP<|Zae rfl mZ rfl Mm1 eC<|Za rfl<|Zf rfl (fun D3 hY=>KZ (_,_) _ _)<|Zy rfl eC (.tail ζ) ?_;refine Zap<|Za6 ?_;exact fun a w hh=>jP (A:=[(_,_),(_,_)]) (B:=[(bd,.deferred (some []))]) ((min (F u,F u).1 (F u),max (F u,F u).2 (F u)),false) (by simpa using hV.add hau (bLL ⟨hc1,rfl⟩)) rfl rfl a w hh
  ·obtain rfl:fb=false:=hc1;refine aQ<|aP<|Zae rfl mZ rfl Mm1 eC<|Za rfl<|Zf rfl (fun D4 rA=>KZ (_,_) _ _)<|Zy rfl eC (.tail ζ)<|Zap<|Za6 ?_;exact fun a w hh=>jP (A:=[(_,_),(_,_)]) (B:=[(bd,.deferred (some []))]) ((min r.1 (F u),max r.2 (F u)),false) (by simpa using hV.add hau (bLG ⟨rfl,rfl⟩)) rfl rfl a w hh
 ·rintro⟨r,fb⟩ bd hV;refine Za6<|Za1<|aA<|Zae rfl mZ rfl Mm1 eC<|Zy rfl eC (.tail ζ)<|aG ?_;exact A3 (vs:=[_]) (A:=[(_,_),(_,_)]) rfl rfl rfl ⟨⟨_,_,_,rfl,Mm1,bLG ⟨mZ,eC,rfl⟩⟩,bQK⟩ fun D hD=>hV.all
theorem aAZ(s:Sc)(D:aC)(h4:s.ch.length=4)(h5:s.tk.length=4):Fn prog 143 #[ZV s] D (fun _ v=>v=qI s.mixed):=by
 refine Zx 5 func143 rfl fun h0=>aA<|Zab rfl fun R E1 O I=>Zk rfl<|aL<|Zi rfl s8 rfl<|dZ (v:=qI s.mixed) rfl (k:=9) aH rfl I Yc (cN (TX h4 h5)) n4 rfl bQK<|We ?_;exact aE rfl fun D hD=>rfl
theorem d8(bv:Γ)(b:bH)(k:Int)(D:aC)(hb:gK D bv b):Fn prog 49 #[bv,qI k] D (fun _ v=>v=.tuple #[mH (if J6 b (C1.gZ k 0 (b.lines.length:Int))=0 then TB (fun s=>s.money) b k.toNat else(0,0)),qI (J6 b (C1.gZ k 0 (b.lines.length:Int)))]):=by
 have O:=hb;obtain⟨lv,cv,rfl,hl,hc⟩:=hb;have hll:=hl.len;refine Zx 21 func49 rfl fun h0=>aA<|Zab rfl fun q1 E1 Y I=>Zad rfl nA rfl fun q2=>Zk rfl<|bS<|Za5<|bE [] 4 8 62<|Zv rfl eT rfl I dU<|Za rfl<|Zi rfl cS rfl<|Zd 3 rfl fU rfl I rfl ?_;refine Zai rfl U33 rfl hl rfl<|Zf rfl (fun D1 Z=>lW _ _ _ _)<|Zf rfl (fun D2 R=>JS _ b (C1.gZ k 0 (b.lines.length:Int)) _ (O.up (R _ Ye)))<|Zk rfl<|aL<|Za rfl<|Zax rfl<|aF<|Zag rfl (fun hc1=>?_) fun hc1=>?_
 ·refine aA<|Zt [qI 0,qI 0] rfl U8 nA rfl<|Za rfl<|Zy rfl eC ζ<|Wi ?_;exact Zo [_,_] rfl ⟨⟨_,_,_,rfl,Mm0,Or.inr ⟨mZ,Xaq,rfl⟩⟩,rfl,bQK⟩ fun D hD=>Xcj
 ·have he0:J6 b (C1.gZ k 0 (b.lines.length:Int))=0:=by omega
  obtain⟨U,hfi⟩:=JG he0;have hbo:=bJT U;rw[C1.bT]at hfi;obtain⟨n,rfl⟩:∃n:Nat,k=(n:Int):=⟨k.toNat,Yd⟩
  refine aQ<|aA<|Zv rfl eT rfl I dU<|Za rfl<|Zf rfl (fun D3 V=>aFH (fun s=>s.money) _ b n 119 _ (O.up (V _ Ye)) hbo Yd fun s D h4 h5=>aAA s D h4 h5)<|Zy rfl eC ζ<|We ?_;exact Zo [_,_] rfl ⟨⟨_,_,_,rfl,Mm0,Or.inr ⟨mZ,Xaq,rfl⟩⟩,rfl,bQK⟩ fun D hD=>Xbr
theorem aNY(bv:Γ)(b:bH)(D:aC)(hb:gK D bv b):Fn prog 70 #[bv] D (fun _ v=>v=.tuple #[mH (if J6 b (true)=0 then TB (fun s=>s.mixed) b b.lines.length else(0,0)),qI (J6 b (true))]):=by
 have O:=hb;obtain⟨lv,cv,rfl,hl,hc⟩:=hb;have hll:=hl.len;refine Zx 16 func70 rfl fun h0=>aA<|Zab rfl fun Z E1 Y I=>Zad rfl nA rfl fun q2=>Zk rfl<|bK<|Zv rfl eT rfl I dU<|Zf rfl (fun D1 R=>JS _ b (true) _ (O.up (R _ Ye)))<|Wbk ?_;refine aF<|Zag rfl (fun hc1=>?_) fun hc1=>?_
 ·refine aA<|Zt [qI 0,qI 0] rfl U8 nA rfl<|Za rfl<|Zy rfl eC ζ<|Wi ?_;exact Zo [_,_] rfl ⟨⟨_,_,_,rfl,Mm0,Or.inr ⟨mZ,Xaq,rfl⟩⟩,rfl,bQK⟩ fun D hD=>Xcj
 ·have he0:J6 b (true)=0:=by omega
  obtain⟨U,hfi⟩:=JG he0;have hbo:=bJT U;refine aQ<|aA<|Zv rfl eT rfl I dU<|Zi rfl cS rfl<|Zd 3 rfl fU rfl I rfl<|Zai rfl U33 rfl hl rfl<|Zf rfl (fun D2 V=>aFH (fun s=>s.mixed) _ b b.lines.length 143 _ (O.up (V _ Ye)) hbo Yd fun s D h4 h5=>aAZ s D h4 h5)<|Zy rfl eC ζ<|We ?_;exact Zo [_,_] rfl ⟨⟨_,_,_,rfl,Mm0,Or.inr ⟨mZ,Xaq,rfl⟩⟩,rfl,bQK⟩ fun D hD=>Xbr
end L3
namespace L7
open C7
def jD(bh bc bo bY br n:Nat)(c:List Int):aD:=[(bh,qC [.func (.func 245) #[] #[qP bc,qP bY,qP br,qP bh]] 182),(bc,qC [qS bo n n] 303),(bo,qC (ints c) 210)]
theorem vP{c pre:List Int}{i:Nat}{k:Int}(h:c.take (i+1)=pre++[k])(hl:pre.length=i):c.take i=pre:=by
 have:=bLE (List.take i) h;rw[List.take_take,bOA (Nat.le_succ i)]at this;rw[this,bMP Yd,bLZ Yd]
def bHA(n bo:Nat):List Γ:=[qS bo n n]
def aPT(n bo:Nat)(vs:List Γ):Prop:=vs=bHA n bo
def aWF(P:Program)(Dr:aC)(lo l n:Nat)(J Jx:List (List Int)→wC)(xs:List (List Int)):Prop:=∀pre x β D w bo,(∃r,xs=pre++x::r)→G2 lo D w→J pre β D w→(∀b∈β,b<w.heap.size)→Le Dr D→KN β D w bo (ints x)→
    jO P l (bHA n bo) w fun b D' w'=>G2 lo D' w'∧G5 β D w D' w'∧(if b then J (pre++[x]) β D' w' else Jx (pre++[x]) β D' w')
def l9(J Jx:List (List Int)→wC)(bh bc bo bY br n:Nat)(places:List Int)(pre:List Int)(i:Nat)(done:List (List Int))(v:Γ)(J':wC)(μ':aD):Prop:=
 ∃b c',v=.bool b∧c'.length=3*n∧c'.take i=pre∧μ'=jD bh bc bo bY br n c'∧(if b=true then J'=J (done++(C1.cG (places.drop i)).map fun t=>pre++t)else ∃p,J'=Jx p)
def aFR(p:Int)(ps pre:List Int)(k:Nat):List (List Int):=(List.range k).flatMap fun(m:Nat)=>if p=2∨p=(m:Int)then(C1.cG ps).map (fun t=>pre++(m:Int)::t)else []
theorem aOJ{p:Int}{ps pre:List Int}:aFR p ps pre 0=[]:=rfl
theorem bGD{p:Int}{ps pre:List Int}{k:Nat}(h:¬(p=2∨p=(k:Int))):aFR p ps pre (k+1)=aFR p ps pre k:=by
 unfold aFR;rw[bMN,bLN,bMC,bLI h,n5]
theorem aCC{p:Int}{ps pre:List Int}{k:Nat}(h:p=2∨p=(k:Int)):aFR p ps pre (k+1)=aFR p ps pre k++(C1.cG ps).map (fun t=>(pre++[(k:Int)])++t):=by
 unfold aFR;rw[bMN,bLN,bMC,bLR h];simp
theorem aCV{p:Int}{ps pre:List Int}:aFR p ps pre 2=(C1.cG (p::ps)).map (fun t=>pre++t):=by
 rw[show C1.cG (p::ps)=(if p=2∨p=0 then(C1.cG ps).map (0:: ·)else [])++(if p=2∨p=1 then(C1.cG ps).map (1:: ·)else [])from rfl];unfold aFR;rw[show List.range 2=[0,1]from rfl,bMA,bMA,List.flatMap_nil,n5,bLO];congr 1
 ·by_cases h:p=2∨p=0
  ·rw[bLR h,bLR Yax];simp
  ·rw[bLI h,bLI Yax];rfl
 ·by_cases h:p=2∨p=1
  ·rw[bLR h,bLR Yax];simp
  ·rw[bLI h,bLI Yax];rfl
theorem aTU{p:Int}{ps pre:List Int}{k:Nat}(hk:k<2):∃r,aFR p ps pre 2=aFR p ps pre (k+1)++r:=by
 have e:k=0∨k=1:=by omega
 rcases e with rfl|rfl
 ·refine⟨[1].flatMap fun(m:Nat)=>if p=2∨p=(m:Int)then(C1.cG ps).map (fun t=>pre++(m:Int)::t)else [],?_⟩;unfold aFR;rw[show List.range 2=[0]++[1]from rfl,bLN];rfl
 ·exact⟨[],Ye⟩
theorem aVE{c pre:List Int}{i:Nat}{k:Int}(hi:i<c.length)(h:c.take i=pre):(c.set i k).take (i+1)=pre++[k]:=by
 rw[bLA,List.getElem?_set_self hi,bLT,List.take_set_of_le (bLQ _),h]
theorem aLM{l:List Ch}{i:Nat}{p:Int}(h:(kT l)[i]?= some p):∃x,l[i / 3]?= some x∧x.parts.l[i%3]?= some p:=by
 induction l generalizing i with
 |nil=>simp[kT]at h
 |cons c l ih=>
  rw[show kT (c::l)=c.parts.a::c.parts.b::c.parts.c::kT l from rfl]at h;match i with
  |0=>exact⟨c,rfl,by simpa [Pt.l]using h⟩
  |1=>exact⟨c,rfl,by simpa [Pt.l]using h⟩
  |2=>exact⟨c,rfl,by simpa [Pt.l]using h⟩
  |j+3=>
   obtain⟨x,h1,h2⟩:=ih (i:=j) Yax;exact⟨x,by rw[show(j+3) / 3=j / 3+1 by omega];simpa using h1,by rw[show(j+3)%3=j%3 by omega];exact h2⟩
theorem T2{bh bc bo bY br n:Nat}{c:List Int}:(bo,Obj.cells (ints c).toArray 210 (0,0))∈jD bh bc bo bY br n c:=bLP _ Mm1
theorem bIM(i:Nat):0+((i:Int) / 3).toNat*3+((i:Int)%3).toNat*1=i:=by omega
theorem yK{lo l:Nat}{J Jx:List (List Int)→wC}{y:aZ}{xs:List (List Int)}{Dr Dy:aC}{Ds:List aC}{bh bc bo bY br:Nat}{cv qv:Γ}(hN:y.chairs.length≤7)
  (hs:∀pre,T1 lo (J pre)) (hsx:∀pre,T1 lo (Jx pre)) (hY:aWF prog Dr lo l y.chairs.length J Jx xs) (hDr:Dr∈Ds) (hDy:Dy∈Ds) (hA:At Dr br 0 [cv,qI y.fit,qv]) (hc:Sl Dr xW 4 cv y.chairs) (hB:At Dy bY 0 [.func (.yield l) #[] #[]]):
  ∀(j i:Nat) (pre c:List Int) (done rest:List (List Int)) (iv:Int),iv=i→i+j=3*y.chairs.length→pre.length=i→c.length=3*y.chairs.length→c.take i=pre→
   xs=done++(C1.cG ((kT y.chairs).drop i)).map (fun t=>pre++t)++rest→
   bID prog 245 [qI iv,qP bc,qP bY,qP br,qP bh] lo (J done) (jD bh bc bo bY br y.chairs.length c) Ds (l9 J Jx bh bc bo bY br y.chairs.length (kT y.chairs) pre i done):=by
 intro j;induction j using Nat.strongRecOn with
 |_ j ih=>
 intro i pre c done rest iv hiv hij hl h9 hp hxs;subst hiv;have hmx:=hc.len;have hfl:=qJ y.chairs;refine V3 (μ:=jD bh bc bo bY br y.chairs.length c) 52 func245 rfl rfl rfl rfl<|aA<|Zk rfl<|aL<|Za rfl<|UF rfl rfl rfl Yd Yd Yf rfl bQK<|Za rfl<|C4 rfl rfl rfl Yd Yd Yf rfl bQK<|Zk rfl<|Zk rfl<|bK<|Za rfl ?_;refine Zp rfl OG rfl Mm1 rfl<|mM rfl U303 rfl rfl rfl bQK<|Zaw rfl<|aF<|Zag rfl (fun hc1=>?_) fun hc1=>?_
 ·have hin:i=3*y.chairs.length:=by omega
  subst hin;have hleaf:c=pre:=by rw[←hp,bLZ Yd]
  rw[←hfl,bQI]at hxs;simp only[C1.cG,bMD,bPK,n5]at hxs;rw[←hleaf,bLK,bOW]at hxs;refine aA<|Zd 0 rfl aWY rfl hB rfl<|Zp rfl OG rfl Mm1 rfl<|KF (l:=l) (J1:=J (done++[c])) (J0:=Jx (done++[c])) rfl rfl rfl rfl (hs _) (hsx _) (fun D w hd hJ hb hl=>hY done c _ D w bo ⟨rest,hxs⟩ hd hJ (fun b hbm=>Xcx) (hl _ hDr) ⟨bKX.2 ⟨_,T2,rfl⟩,(hb _ T2).2,_,_,(hb _ T2).1⟩) rfl bQK fun U J1 V=>Wi ?_
  exact nC (P:=prog) (fn:=f245) (N:=52) (vs:=[_]) rfl rfl ⟨rfl,bQK⟩ (fun D h=>⟨D,h,Le.refl D⟩) ⟨U,c,rfl,h9,hp,rfl,by cases U<;>simp only[V,bNM,bMU,bNU];exact⟨_,rfl⟩;rw[←hfl,bQI];simp[C1.cG,hleaf]⟩
 ·have hin:i<(kT y.chairs).length:=by omega
  obtain⟨p,hpi⟩:=cB (kT y.chairs) i;obtain⟨x,Y,hm⟩:=aLM hpi;have hx:y.chairs[((i:Int) / 3).toNat]?= some x:=by rw[show((i:Int) / 3).toNat=i / 3 by omega];exact Y
  have hd:(kT y.chairs).drop i=p::(kT y.chairs).drop (i+1):=by rw[bMM hin];congr 1;exact bLY ((bLB hin).symm.trans hpi)
  rw[hd,←aCV]at hxs;refine aQ<|bM<|Za rfl<|aF<|Za3<|CO (γ:=Nat×List Int) (fun g=>2-g.1) (fun g=>g.1≤2∧g.2.length=3*y.chairs.length∧g.2.take i=pre) (fun g=>J (done++aFR p ((kT y.chairs).drop (i+1)) pre g.1)) (fun g=>[(22,qI (g.1:Int))]) [(8,_),(7,_),(6,_),(0,_),(1,_),(3,_),(4,_)] (fun g=>jD bh bc bo bY br y.chairs.length g.2) (fun g=>Ds) (0,c) ⟨Ye,h9,hp⟩ (by simp[aOJ]) ⟨Ya,bQK⟩ cR Mm5 (aK) ?_;rintro⟨k,c1⟩ ⟨Z,I,O⟩;simp only at Z I O;refine aA<|Zan rfl<|bS<|Zag rfl (fun hc2=>?_) fun hc2=>?_
  ·refine aQ<|Za5<|Za3<|aA<|Za rfl<|Zk rfl<|aL<|Zi rfl eO rfl<|Zd 0 rfl kS rfl hA rfl<|Za rfl<|Za rfl<|Zw rfl U37 iX rfl hc rfl hx fun U o1 hE hF hK hH=>?_;obtain rfl:hE=[qI _,qI _,qI _,qI _]:=hF;refine Zi rfl O5 rfl<|eV rfl U210 aJ rfl rfl Yd Yd rfl bQK<|dZ (o:=_+1) (k:=((i:Int)%3).toNat*1) rfl aH rfl hH.tail Ym (by rw[show((i:Int)%3).toNat=i%3 by omega];exact aTK hm) n4 rfl bQK<|Zk rfl<|aL<|Za rfl<|Wbd ?_
   refine' cT 4 (s:=35) (p:=39) rfl (fun hI=>?_) (fun hI=>?_) ?_;rotate_left
   ·refine Zb rfl<|Zb rfl<|Wbm ?_;exact aM 3
   ·refine Wcn ?_;exact aM 3
   refine aF<|Zaf rfl (fun hc3=>?_) fun hc3=>?_
   ·have hpk:p=2∨p=(k:Int):=by simpa using hc3
    obtain⟨rr,hr⟩:=aTU (p:=p) (ps:=(kT y.chairs).drop (i+1)) (pre:=pre) (k:=k) Yd;refine aA<|Zp rfl OG rfl Mm1 rfl<|Za rfl<|Za rfl<|Za rfl<|eU rfl U303 nT rfl rfl Yd Yd rfl bQK<|eV rfl U210 aJ rfl rfl Yd Yd rfl bQK<|zR (k:=i) rfl aJ (by show some (Value.pointer (some ⟨bo,0+((i:Int) / 3).toNat*3+((i:Int)%3).toNat*1,none⟩))=_;rw[bIM]) rfl (.tail (.tail ζ)) Yl bQK<|aL<|Zp rfl rE rfl Mm0 rfl<|Za rfl<|Zah rfl ?_;refine wU rfl rfl rfl rfl (ih (j-1) Yd (i+1) (pre++[(k:Int)]) (c1.set i k) (done++aFR p ((kT y.chairs).drop (i+1)) pre k) (rr++rest) (i+1:Int) Yd Yd Yaq (by simpa using I) (aVE Yd O) (by rw[hxs,hr,aCC hpk];simp)) rfl bQK ?_
    rintro _ J2 _ ⟨b2,c2,rfl,h9',hp',rfl,hJ2⟩;refine Zau rfl<|aF<|Zaf rfl (fun R=>?_) fun R=>?_
    ·obtain rfl:b2=false:=by simpa using R
     refine aA<|Wg ?_;exact nC (P:=prog) (fn:=f245) (N:=52) (vs:=[_]) rfl rfl ⟨rfl,bQK⟩ (fun D h=>⟨D,h,Le.refl D⟩) ⟨false,c2,rfl,h9',vP hp' hl,rfl,by simpa using hJ2⟩
    ·obtain rfl:b2=true:=by simpa using R
     refine Wcf ?_;exact vY 30 (k+1,c2) ⟨Yl,h9',vP hp' hl⟩ Yl (by simpa only[bNM,aCC hpk,bLK]using hJ2) ⟨Ya,bQK⟩ rfl rfl Mm5 (aK)
   ·have hpk:¬(p=2∨p=(k:Int)):=by simpa using hc3
    refine Wcf ?_;exact vY 19 (k+1,c1) ⟨Yl,I,O⟩ Yl (by rw[bGD hpk]) ⟨Ya,bQK⟩ rfl rfl Mm5 (aK)
  ·refine Wj ?_;exact nC (P:=prog) (fn:=f245) (N:=52) (vs:=[_]) rfl rfl ⟨rfl,bQK⟩ (fun D h=>⟨D,h,Le.refl D⟩) ⟨true,c1,rfl,I,O,rfl,by simp only[bNM];rw[hd,←aCV,show k=2 by omega]⟩
theorem W1(y:aZ)(Dr:aC)(br:Nat)(cv qv:Γ)(I:y.chairs.length≤7)(hA:At Dr br 0 [cv,qI y.fit,qv])(hc:Sl Dr xW 4 cv y.chairs):
  LW prog 244 [qP br] Dr (C1.cG (kT y.chairs)) (aPT y.chairs.length) ints:=by
 refine DC 12 func244 rfl rfl rfl rfl fun lo l J Jx hs hsx hY=>aA<|Zab rfl fun V E1 R O=>aL<|Zi rfl eO rfl<|Zd 0 rfl kS rfl hA rfl<|Zai rfl U37 rfl hc rfl<|uM rfl U303 nT m3 rfl aVV rfl rfl Yd (V0 Ye rfl) rfl bQK fun bo=>Zad rfl aVR rfl fun Y=>Zr rfl bAC ζ rfl<|aL<|Zad rfl CD rfl fun Z=>?_;refine aL<|Za0 rfl<|Zr rfl BS ζ rfl<|aF<|aP<|Zp rfl rE rfl Mm0 rfl<|wU rfl rfl rfl rfl (yK (l:=l) I hs hsx (fun pre x β D w bo h1 h2 h3 h4 h5 U=>hY pre x β D w bo _ h1 h2 h3 h4 h5 rfl U) Ye Ye hA hc O (3*y.chairs.length) 0 [] (List.replicate (y.chairs.length*3) 0) [] [] 0 rfl Yd rfl Yaq rfl Ye) rfl bQK ?_;rintro _ J2 _ ⟨b2,c2,rfl,h9',hp',rfl,hJ2⟩;refine Zap ?_;exact nC (P:=prog) (fn:=f244) (N:=12) (vs:=[]) rfl rfl bQK (fun D h=>⟨D,Xbn,Le.refl D⟩) Ybg
theorem Q3(yv:Γ)(y:aZ)(D:aC)(hy:gU D yv y)(I:y.chairs.length≤7):
  Fn prog 173 #[yv] D (fun D' v=>∃br,v=.func (.func 244) #[] #[qP br]∧LW prog 244 [qP br] D' (C1.cG (kT y.chairs)) (aPT y.chairs.length) ints):=by
 obtain⟨cv,qv,rfl,hc,hq⟩:=hy;refine Zx 4 func173 rfl fun h0=>aA<|Zab rfl fun R E1 U O=>Zk rfl<|aL<|Za0 rfl<|We ?_;exact aE rfl fun D hD=>⟨_,rfl,W1 y _ R cv qv I (O.up (hD _ Ye)) (hc.up xW.up (hD _ Ye))⟩
def T0(s:Sc):List Int:=(s.whole:Int)::(s.broken:Int)::s.fits.map fun n:Nat=>(n:Int)
theorem tU(s:Sc)(h:s.fits.length=7):(T0 s).length=9:=by simp[T0,h]
theorem aOY(s:Sc):ZV s=.agg (ints (T0 s)).toArray:=by
 unfold ZV BJ T0 ints;rw[bMD,bMD,bPP];rfl
theorem aZB{s s':Sc}(h:T0 s=T0 s'):s=s':=by
 obtain⟨a,b,c⟩:=s;obtain⟨a',b',c'⟩:=s';simp only[T0,bNI]at h;obtain⟨h1,h2,h3⟩:=h;rw[w0 h3,show a=a' by omega,show b=b' by omega]
def m8(acc:List (Sc×Nat)):List Int:=match acc.getLast? with
 |some p=>T0 p.1
 |none=>[]
def tS(y:aZ)(out:List Int)(acc:List (Sc×Nat))(t:List Pt):List (Sc×Nat):=
 if(oI y.claims out (wE y.chairs.length (dO y t):Int)&&(decide ((acc.length:Int)=0)|| !(m8 acc==T0 (dO y t))))=true then acc++[(dO y t,wE y.chairs.length (dO y t))]else acc
def jB(y:aZ)(out:List Int)(pre:List (List Int)):List (Sc×Nat):=(pre.map V4).foldl (tS y out) []
def dJ(y:aZ)(out:List Int):List (Sc×Nat):=(QH y).foldl (tS y out) []
theorem o9(y:aZ)(out:List Int):jB y out (C1.cG (kT y.chairs))=dJ y out:=rfl
theorem FV(y:aZ)(out:List Int)(pre:List (List Int))(x:List Int):jB y out (pre++[x])=tS y out (jB y out pre) (V4 x):=by
 unfold jB;rw[bLO,bMT];rfl
theorem aKS(y:aZ)(out:List Int)(acc:List (Sc×Nat))(t:List Pt):(tS y out acc t).length≤acc.length+1:=by
 unfold tS;split
 ·simp
 ·omega
theorem JQ(y:aZ)(out:List Int)(pre:List (List Int)):(jB y out pre).length≤pre.length:=by
 have key:∀(l:List (List Pt)) (acc:List (Sc×Nat)),(l.foldl (tS y out) acc).length≤acc.length+l.length:=by
  intro l;induction l with
  |nil=>intro acc;simp
  |cons t l ih=>intro acc;rw[bME];have:=ih (tS y out acc t);have:=aKS y out acc t;rw[bLF];omega
 have:=key (pre.map V4) [];simpa [jB]using this
theorem EE(y:aZ)(out:List Int)(pre:List (List Int)):∀p∈jB y out pre,p.1.fits.length=7:=by
 have key:∀(l:List (List Pt)) (acc:List (Sc×Nat)),(∀p∈acc,p.1.fits.length=7)→∀p∈l.foldl (tS y out) acc,p.1.fits.length=7:=by
  intro l;induction l with
  |nil=>intro acc h;exact h
  |cons t l ih=>
   intro acc h;rw[bME];refine ih _ fun p hp=>?_
   unfold tS at hp;split at hp
   ·rcases bLM.1 hp with hp|hp
    ·exact h p hp
    ·simp only[bLS]at hp;subst hp;simp[dO]
   ·exact h p hp
 exact key _ [] Ye
def W6(l:List Sc):List Γ:=l.flatMap fun s=>ints (T0 s)
theorem VN{l:List Sc}(h:∀s∈l,s.fits.length=7):(W6 l).length=l.length*9:=by
 induction l with
 |nil=>rfl
 |cons c l ih=>
  have:=ih fun s hs=>h s (bKY _ hs)
  unfold W6 at this ⊢
  rw[bMA,GE,this,aN,tU c (h c bKZ),bLF];omega
theorem DJ{acc:List (Sc×Nat)}(h:∀p∈acc,p.1.fits.length=7):(W6 (acc.map fun p=>p.1)).length=acc.length*9:=by
 rw[VN fun s hs=>by obtain⟨p,hp,rfl⟩:=bKX.1 hs;exact h p hp,bMK]
theorem SH{l:List Sc}(h:∀s∈l,s.fits.length=7){i:Nat}{s:Sc}(hi:l[i]?= some s)(junk:List Γ):((W6 l++junk).drop (i*9)).take 9=ints (T0 s):=by
 induction l generalizing i with
 |nil=>simp at hi
 |cons d l ih=>
  have I:(ints (T0 d)).length=9:=by rw[aN,tU d (h d bKZ)]
  have hc:W6 (d::l)=ints (T0 d)++W6 l:=rfl;rw[hc,bLK];cases i with
  |zero=>
   obtain rfl:d=s:=by simpa using hi
   rw[bPG,bOY,bMP Yd,bLZ Yd]
  |succ i=>
   rw[bPH,bMQ Yd,bMH,show(i+1)*9-(ints (T0 d)).length=i*9 by omega];exact ih (fun s hs=>h s (bKY _ hs)) Yau
def WD:Rd Sc:=fun _ s cs=>cs=ints (T0 s)
theorem WD.up:WD.Up:=fun _ _ _ h=>h
theorem _root_.Go.Fs.kN.scs{D:aC}{v:Γ}{n:Nat}{acc:List (Sc×Nat)}(hF:kN D v n (W6 (acc.map fun p=>p.1)))(hn:(acc.map fun p=>p.1).length=n)(hb:n≤9223372036854775807)(h:∀p∈acc,p.1.fits.length=7:=by assumption):Sl D WD 9 v (acc.map fun p=>p.1):=by
 have h':∀s∈acc.map fun p=>p.1,s.fits.length=7:=fun s hs=>by obtain⟨p,hp,rfl⟩:=bKX.1 hs;exact h p hp
 exact hF.sl hn hb fun i s hi=>⟨_,rfl,by rw[aN,tU s (h' s (GT hi))],by have:=SH h' hi [];rwa [n5]at this⟩
theorem IT{acc:List (Sc×Nat)}(h:∀p∈acc,p.1.fits.length=7)(hne:acc≠[]):(m8 acc).length=9:=by
 unfold m8;rw[bOO hne];exact tU _ (h _ (List.getLast_mem hne))
theorem aSJ{acc:List (Sc×Nat)}(h:∀p∈acc,p.1.fits.length=7)(hne:acc≠[])(junk:List Γ):((W6 (acc.map fun p=>p.1)++junk).drop (0+(((acc.length:Int)-1).toNat)*9)).take 9=ints (m8 acc):=by
 have h':∀s∈acc.map fun p=>p.1,s.fits.length=7:=fun s hs=>by obtain⟨p,hp,rfl⟩:=bKX.1 hs;exact h p hp
 have hpos:=bOK.2 hne;unfold m8;rw[bOO hne,bOH];refine SH h' ?_ junk;rw[bMI,show((acc.length:Int)-1).toNat=acc.length-1 by omega,←List.getLast?_eq_getElem?,bOO hne];rfl
theorem bGM{D:aC}{bo n:Nat}{x:List Int}(h:At D bo 0 (ints x))(hx:x.length=3*n)(hn:n≤7):Sl D RP 3 (qS bo n n) (V4 x):=by
  obtain⟨h1,h2⟩:=PQ _ _ hx;have hle:n≤9223372036854775807∨True:=bLG trivial;have key:∀(l:List Pt) (i:Nat) (p:Pt),l[i]?= some p→((ints (C7.oJ l)).drop (i*3)).take 3=[qI p.a,qI p.b,qI p.c]:=by
    intro l;induction l with
    |nil=>intro i p hi;simp at hi
    |cons d l ih=>
      intro i p hi;cases i with
      | zero => obtain rfl : d = p := by simpa using hi
                rfl
      |succ i=>
        rw[C7.vS,show(i+1)*3=i*3+3 by omega];exact ih i p Yau
  refine⟨_,n,by rw[h2],Yd,?_,bLG ⟨bo,0,rfl,fun i p hi=>⟨_,rfl,rfl,fun j v hj=>?_⟩⟩⟩
  · rw[h2];omega
  · have:=key _ _ _ hi;rw[h1]at this;rw[←this,List.getElem?_take]at hj;split at hj
    · rw[bNS]at hj;have:=h _ v hj;rw[show 0+i*3+j=0+(i*3+j) by omega];exact this
    · cases hj
def aZS(y:aZ)(out:List Int)(pre:List (List Int))(g:Array MapEntry×Nat×List (xS 8×Int)×Γ×aD×Γ×aD):Prop:=
 K4 AD g.1 g.2.2.1∧HR y.chairs.length g.2.2.1∧bD 307 9 g.2.2.2.1 (jB y out pre).length (W6 ((jB y out pre).map fun p=>p.1)) g.2.2.2.2.1∧bD 3 1 g.2.2.2.2.2.1 (jB y out pre).length (ints ((jB y out pre).map fun p=>(p.2:Int))) g.2.2.2.2.2.2
theorem PF{y:aZ}{out:List Int}{pre:List (List Int)}{x:List Int}{es:Array MapEntry}{cl:Nat}{M:List (xS 8×Int)}{v u:Γ}{ν ω:aD}(hM:K4 AD es M)(hok:HR y.chairs.length M)
  (hc:(oI y.claims out (wE y.chairs.length (dO y (V4 x)):Int)&&(decide (((jB y out pre).length:Int)=0)|| !(m8 (jB y out pre)==T0 (dO y (V4 x)))))=true)
  (h1:bD 307 9 v ((jB y out pre).length+1) (W6 ((jB y out pre).map fun p=>p.1)++ints (T0 (dO y (V4 x)))) ν) (h2:bD 3 1 u ((jB y out pre).length+1) (ints ((jB y out pre).map fun p=>(p.2:Int))++[qI (wE y.chairs.length (dO y (V4 x)):Int)]) ω):aZS y out (pre++[x]) (es,cl,M,v,ν,u,ω):=by
 have e:jB y out (pre++[x])=jB y out pre++[(dO y (V4 x),wE y.chairs.length (dO y (V4 x)))]:=by
  rw[FV,tS,bLR hc]
 unfold aZS;rw[e];refine⟨hM,hok,?_,?_⟩
 ·simpa [W6]using h1
 ·simpa [ints]using h2
theorem bGL{y:aZ}{out:List Int}{pre:List (List Int)}{x:List Int}{es:Array MapEntry}{cl:Nat}{M:List (xS 8×Int)}{v u:Γ}{ν ω:aD}(hM:K4 AD es M)(hok:HR y.chairs.length M)
  (hc:(oI y.claims out (wE y.chairs.length (dO y (V4 x)):Int)&&(decide (((jB y out pre).length:Int)=0)|| !(m8 (jB y out pre)==T0 (dO y (V4 x)))))=false)
  (h1:bD 307 9 v (jB y out pre).length (W6 ((jB y out pre).map fun p=>p.1)) ν) (h2:bD 3 1 u (jB y out pre).length (ints ((jB y out pre).map fun p=>(p.2:Int))) ω):aZS y out (pre++[x]) (es,cl,M,v,ν,u,ω):=by
 have e:jB y out (pre++[x])=jB y out pre:=by
  rw[FV,tS,bLI (by rw[hc];simp)]
 unfold aZS;rw[e];exact⟨hM,hok,h1,h2⟩
theorem VO{y:aZ}(h:y.chairs.length≤7):(C1.cG (kT y.chairs)).length≤2097152:=by
 have h1:=C1.sR (kT y.chairs);have h2:2^(kT y.chairs).length≤2^21:=bMY Yd (by rw[qJ];omega)
 omega
theorem O6{l x:List Int}{pre r:List (List Int)}(h:C1.cG l=pre++x::r):x.length=l.length∧(∀n∈x,0≤n∧n≤1)∧pre.length<(C1.cG l).length:=by
 have hm:x∈C1.cG l:=by rw[h];simp
 exact⟨(C1.qQ hm).1,(C1.qQ hm).2,Xaf⟩
theorem aQC{x:List Int}(h:∀n∈x,0≤n∧n≤1)(hg:C7.oJ (V4 x)=x):∀p∈V4 x,wI p:=fun p hp=>by
 have:∀n∈p.l,n∈x:=fun n hn=>by rw[←hg];exact bOV.2 ⟨p,hp,hn⟩
 exact⟨h _ (this _ (by simp[Pt.l])),h _ (this _ (by simp[Pt.l])),h _ (this _ (by simp[Pt.l]))⟩
theorem bBT(A ν ω T:aD):A++(ν++(ω++T))=A++(ν++ω)++T:=by simp
theorem bKK(A ν ω T:aD):A++((ν++ω)++T)=A++ν++(ω++T):=by simp
theorem bDW{a b c d:Nat}{l:List Nat}:∀k∈[c,d],k∈a::b::c::d::l:=fun k hk=>by
 simp only[bNA,n4,bND]at hk ⊢
 rcases hk with rfl|rfl
 ·exact bLG (bLG (bLL rfl))
 ·exact bLG (bLG (bLG (bLL rfl)))
theorem bKH{A B ν ω C:aD}{k:Nat}(h:(((A++B)++(ν++(ω++C))).map fun p=>p.1).Nodup)(hk:k∈(A++B).ks):k∉ν.ks++ω.ks:=by
 rw[bLO,bLO,bLO,bLJ]at h;intro hm;refine h.2.2 k Xaz k ?_ rfl;rcases bLM.1 hm with hm|hm
 ·exact bLH _ hm
 ·rw[bLO];exact LE _ (bLH _ hm)
theorem aTP{n:Nat}{s:Sc}(h:RG n s)(hn:n≤7):wE n s≤200:=by
 have h1:=ZQ s.fits n s.broken;have h2:=NF h.bits hn;have h3:=h.whole;unfold wE;omega
theorem bGE:KS prog 307 9:=by
 have hf:(prog.fieldsOf 307).toList=[(prog.fieldsOf 307)[0]!,(prog.fieldsOf 307)[1]!,(prog.fieldsOf 307)[2]!]:=by kernel_rfl
 refine⟨Yg,Yg,Yg,?_⟩;rw[hf];refine .cons (lK.int Yao Yg Yg) (.cons (lK.int Yao Yg Yg) (.cons (n:=7) (lK.arr (e:=3) Yao Yg Yg Yg Yg ?_ ?_) .nil))
 ·rw[show((prog.fieldsOf 307)[2]!).type=305 by kernel_rfl];exact Z2
 ·rw[show((prog.fieldsOf 307)[2]!).type=305 by kernel_rfl];exact B9
theorem aHX(yv tv:Γ)(y:aZ)(t:List Pt)(D:aC)(hy:gU D yv y)(ht:Sl D RP 3 tv t)(hlen:t.length=y.chairs.length)(I:t.length≤7)(hb:∀p∈t,wI p)(hf:0≤y.fit∧y.fit≤9)(hs:∀c∈y.chairs,0≤c.size∧c.size≤9):Fn prog 174 #[yv,tv] D (fun _ v=>v=.agg (ints (T0 (dO y t))).toArray):=by
 rw[←aOY];exact aPB yv tv y t D hy ht hlen I hb hf hs
theorem aRR(wb mb:Nat)(cv qv:Γ)(fit:Int)(chs:List Ch)(s:Sc)(I:chs.length≤7)(hs:RG chs.length s)(es:Array MapEntry)(clock:Nat)(M:List (xS 8×Int))(D:aC)(hS:Sl D xW 4 cv chs)(hM:K4 AD es M)(hok:HR chs.length M):
  HA prog 175 [qP wb,.agg (ints (T0 s)).toArray] D [(wb,qC [cv,qI fit,qv,.map (some mb)] 299),(mb,.map es clock)] (fun _ v ν'=>v=qI (wE chs.length s:Int)∧∃es' clock' M',ν'=[(wb,qC [cv,qI fit,qv,.map (some mb)] 299),(mb,.map es' clock')]∧K4 AD es' M'∧HR chs.length M'):=by
 rw[←aOY];exact aWH wb mb cv qv fit chs s I hs es clock M D hS hM hok
theorem KV(wb mb:Nat)(cv qv:Γ)(y:aZ)(out:List Int)(ov:Γ)(hE:y.chairs.length≤7)(hft:0≤y.fit∧y.fit≤9)(hsz:∀c∈y.chairs,0≤c.size∧c.size≤9)(hR:Array MapEntry)(clock0:Nat)(M0:List (xS 8×Int))(D:aC)(hS:Sl D xW 4 cv y.chairs)(hq:Sl D R2 2 qv y.claims)(ho:Sl D RI 1 ov out)(hM0:K4 AD hR M0)(hok0:HR y.chairs.length M0):
  HA prog 88 [qP wb,ov] D [(wb,qC [cv,qI y.fit,qv,.map (some mb)] 299),(mb,.map hR clock0)] (fun D' v ν'=>∃sv mv,v=.tuple #[sv,mv]∧Sl D' WD 9 sv ((dJ y out).map fun p=>p.1)∧Sl D' RI 1 mv ((dJ y out).map fun p=>(p.2:Int))∧∃es' clock' M',ν'=[(wb,qC [cv,qI y.fit,qv,.map (some mb)] 299),(mb,.map es' clock')]∧K4 AD es' M'∧HR y.chairs.length M'):=by
 obtain⟨oa,oc,rfl⟩:=ho.shape;refine aAK 56 func88 rfl rfl rfl rfl fun h0 hwl hwn=>aA<|Zab rfl fun q1 E1 hE1 hK=>Zab rfl fun q2 E2 hE2 hB2=>Zad rfl aEL rfl fun q3=>Zad rfl vX rfl fun q4=>bK<|Zd 0 rfl BZ rfl hK rfl<|Zao rfl<|Zi rfl P6 rfl<|eD rfl kP jA rfl Mm2 rfl rfl n4 rfl bQK<|Zaa rfl (fun D1 hX=>Q3 _ y _ ⟨_,_,rfl,hS.up xW.up (hX _ Ye),hq.up R2.up (hX _ Ye)⟩ hE) fun v1 D1 hX hp1=>?_;refine aF<|Za3 ?_;obtain⟨br,rfl,hit⟩:=hp1;refine X2 (γ:=Array MapEntry×Nat×List (xS 8×Int)×Γ×aD×Γ×aD) (xs:=C1.cG (kT y.chairs)) (enc:=aPT y.chairs.length) (cells:=ints) (Dr:=D1) (aZS y out) (fun _ _ _=>False) (fun g=>(q4,qC [g.2.2.2.2.2.1] 25)::(q3,qC [g.2.2.2.1] 170)::(wb,qC [cv,qI y.fit,qv,.map (some mb)] 299)::(mb,.map g.1 g.2.1)::(g.2.2.2.2.1++g.2.2.2.2.2.2)) (hR,clock0,M0,qN,[],qN,[]) rfl rfl (fun g k hk=>bKY _ (bKY _ (bLH (aD.ks _) hk))) rfl hit Ye (fun _ vs h=>by rw[h];rfl) rfl ⟨hM0,hok0,by simpa [jB,W6]using bD.nil,by simpa [jB,ints]using bD.nil⟩ rfl ?_ ?_ fun _ _ _ _ h=>h.elim
 ·rintro pre x ⟨es,clock,M,v,ν,u,ω⟩ ⟨us,hx⟩ ⟨hM,hok,O,R⟩ l bd bo vs rec hh D7 hD7 henc hbo hst hpend;obtain rfl:vs=bHA y.chairs.length bo:=henc;simp only at hM hok O R;obtain⟨hY,hxb,hpl⟩:=O6 hx;have hcap:=VO hE;rw[qJ]at hY;have ht:=bGM hbo hY hE;obtain⟨rA,hF⟩:=PQ _ _ hY;have htl:(V4 x).length=y.chairs.length:=hF;have htb:=aQC hxb rA;have hsc:=N6 htl Yd;have hpsl:=JQ y out pre;have hmb:=aTP hsc hE;have I:∀p∈jB y out pre,p.1.fits.length=7:=EE y out pre;have hs9:=tU (dO y (V4 x)) (by simp[dO]);refine aP<|Zk rfl<|Zap ?_;refine fun a w hhh=>N3 (A:=[(_,_),(_,_),(_,_),(_,_)]++(ν++ω)) (B:=[(bd,.deferred (some []))]) (r:=rec) (l:=l) Ybc hst ?_ a w hhh
  refine IH ((q4,qC [u] 25)::(q3,qC [v] 170)::(wb,qC [cv,qI y.fit,qv,.map (some mb)] 299)::(mb,.map es clock)::(ν++(ω++[(l,.loop {rec with state:=.busy}),(bd,.deferred (some []))]))) Ye<|pY fun hnd=>?_;simp only[bMD,bLO,bPK,bMX,bLJ,bNA,bLM,n4,bQE]at hnd;refine Za3<|aA<|Zd 0 rfl BZ rfl hK rfl<|Zao rfl<|Zi rfl P6 rfl<|eD rfl kP jA rfl Mm2 rfl rfl n4 rfl bQK<|Za rfl<|Zf rfl (fun D2 rB=>aHX _ _ y (V4 x) _ ⟨_,_,rfl,hS.up xW.up (rB _ Ye),hq.up R2.up (rB _ Ye)⟩ (ht.up RP.up (rB _ Ye)) htl Yd htb hft hsz)<|Zad rfl wZ rfl fun q5=>cQ rfl rfl rfl rfl iJ Xas Ybc .head (dI _) bQK<|aL<|Zd 0 rfl BZ rfl hK rfl ?_;refine bL (vs:=ints (T0 (dO y (V4 x)))) rfl uI rfl Mm0 Xcl n4 rfl bQK<|aU ([(_,_),(_,_),(_,_)]++[(_,_),(_,_)]++(ν++(ω++[(l,_),(bd,_)]))) rfl<|gH (A:=[(_,_),(_,_),(_,_)]) (ν:=[(_,_),(_,_)]) (B:=ν++(ω++[(l,_),(bd,_)])) rfl rfl rfl rfl (bLL rfl) (LG (cs:=[_,_,_,_])) (fun D5 hD5=>aRR wb mb cv qv y.fit y.chairs (dO y (V4 x)) hE hsc es clock M D5 (hS.up xW.up (hD5 _ Ye)) hM hok) rfl bQK fun v5 D6 _ hD6 hp5=>?_
  obtain⟨rfl,U,V,M1,rfl,hN,hB⟩:=hp5;refine Zk rfl<|bS<|uJ [] 7 22 319536 (fun _ _ _ h=>h)<|Zd 0 rfl BZ rfl hK rfl<|Zao rfl<|Zi rfl P6 rfl<|eD rfl kP jA rfl Mm3 rfl rfl n4 rfl bQK<|Za rfl<|Zd 0 rfl bX rfl hB2 rfl<|Zf rfl (fun D3 hD3=>FJ _ y _ _ out _ ⟨_,_,rfl,hS.up xW.up (hD3 _ Ye),hq.up R2.up (hD3 _ Ye)⟩ (ho.up RI.up (hD3 _ Ye)))<|Za rfl ?_;refine' bW 14 (s:=31) (p:=45) rfl (fun rA=>?_) (fun rA=>?_) ?_;rotate_left
  ·refine Zq rfl wJ rfl Mm2 rfl<|cE rfl U170 rfl O rfl rfl ⟨_,rfl,rfl⟩<|rJ rfl rfl rfl rfl ⟨_,rfl,rfl⟩<|Zb rfl ?_;refine' cT 9 (s:=35) (p:=44) rfl (fun hF=>?_) (fun hF=>?_) ?_;rotate_left
   ·have hne:jB y out pre≠[]:=fun e=>by rw[e]at hF;simp at hF
    have hpos:=bOK.2 hne;obtain⟨b5,cap5,hH,rfl,hcp5,rfl,hl51,hl52⟩:=O.some hpos;refine Zq rfl wJ rfl Mm2 rfl<|Zq rfl wJ rfl Mm2 rfl<|mM rfl U170 rfl rfl rfl ⟨_,rfl,rfl⟩<|zF rfl rfl rfl Yf rfl ⟨_,rfl,rfl⟩<|eU rfl U170 iJ rfl rfl Yd Yd rfl ⟨_,rfl,rfl⟩<|eD (vs:=W6 ((jB y out pre).map fun p=>p.1)++hH) (us:=ints (m8 (jB y out pre))) rfl uI iJ rfl (bLP _ (bLP _ Mm3)) (aSJ I hne hH) (by simpa using IT I hne) n4 rfl ⟨_,rfl,rfl⟩<|bL (vs:=ints (T0 (dO y (V4 x)))) rfl uI rfl Mm0 Xcl n4 rfl ⟨_,rfl,rfl⟩<|T6 (n:=9) rfl bGE (IT I hne) hs9 rfl rfl rfl ⟨_,rfl,rfl⟩<|pE rfl rfl rfl rfl ⟨_,rfl,rfl⟩ ?_
    exact aM 8
   ·refine Zh rfl<|Zh rfl<|Zh rfl<|Zh rfl<|Zh rfl<|Zh rfl<|Wx ?_;exact aM 8
   refine Zak rfl ?_;exact aM 5
  ·refine Waq ?_;refine Zh rfl<|Zal rfl ?_;exact aM 13
  refine aF<|Zaf rfl (fun hc1=>?_) fun hc1=>?_
  ·refine pY fun hnd=>?_;have hq5:=bKH (A:=[_,_,_]) (B:=[_,_]) (k:=q5) hnd Mm0;have hq4:=bKH (A:=[_,_,_]) (B:=[_,_]) (k:=q4) hnd Mm1;have hq3:=bKH (A:=[_,_,_]) (B:=[_,_]) (k:=q3) hnd Mm2;refine mT (ν.ks++ω.ks) 3 [false,true,true,true,true,true,true,false,false,false] [.fork [0,1,4,5] 2 (.fork [] 3 (.fin [6]) 6 (.fin [3])) 6 (.fin [2,3]),.fin [7,8,9]] bC (fun _ _ _ h=>h) Yg<|qT<|bQ [(false,0),(true,1),(true,4),(true,5)] rfl<|bG rfl wJ rfl Mm2 rfl Ym rfl bQK<|bL (vs:=ints (T0 (dO y (V4 x)))) rfl uI rfl Mm0 Xcl hq5 rfl bQK<|bG rfl bX rfl Mm1 rfl Ym rfl bQK<|Za rfl<|Zap (dV true true rfl rfl ?_ ?_)
   ·refine Zu rfl U170 iJ wZ rfl (.cons rfl Xas .nil) fun b901 D901 hD901 Z=>?_;have hAs:=Z;refine Zap<|bQ [] rfl<|Zap (dV true true rfl rfl ?_ ?_)
    ·refine Zac ([(_,_),(_,_),(_,_),(_,_),(_,_)]++ν++(ω++[(l,_),(bd,_)])) (bLK _ _ _).symm<|aR (A:=[(_,_),(_,_),(_,_),(_,_),(_,_)]) (B:=(ω++[(l,_),(bd,_)])) rfl U170 rfl rfl iJ wZ rfl MZ rfl rfl rfl O (iL.lit hAs) Ye Xas (DJ I) Xbc Yd (bLG fun p hp=>bLH _ (bKX.2 ⟨p,hp,rfl⟩)) rfl bQK fun v1x ν1x ha1x=>Zap<|aV [(true,6)] rfl<|Zu rfl U25 aJ cK rfl (.cons rfl rfl .nil) fun hO hP hI Y=>?_;have hAm:=Y;refine Zap<|lI [(false,7),(false,8),(false,9)] rfl<|Zac (([(_,_),(_,_),(_,_),(_,_),(_,_)]++ν1x)++ω++[(l,_),(bd,_)]) (bLK _ _ _).symm<|aR (A:=[(_,_),(_,_),(_,_),(_,_),(_,_)]++ν1x) (B:=[(l,_),(bd,_)]) rfl U25 rfl rfl aJ cK rfl kE rfl rfl rfl R (iL.lit hAm) Ye rfl Ye Yk Yd (bLG fun p hp=>LE _ (bKX.2 ⟨p,hp,rfl⟩)) rfl bQK fun u1x ω1x ha2x=>Wm ?_;have hJ:aZS y out (pre++[x]) (U,V,M1,v1x,ν1x,u1x,ω1x):=PF hN hB hc1 (by simpa using ha1x) (by simpa using ha2x);refine Zap<|mG<|Za6 ?_;exact fun a w hh=>jP (A:=[(_,_),(_,_),(_,_),(_,_)]++(ν1x++ω1x)) (B:=[(bd,.deferred (some []))]) (U,V,M1,v1x,ν1x,u1x,ω1x) hJ rfl rfl a w ((hh.dropBoxes 1).boxesEq (bBT [_,_,_,_] ν1x ω1x [_,_]))
    ·refine Zu rfl U25 aJ cK rfl (.cons rfl rfl .nil) fun hO hP hI Y=>?_;have hAm:=Y;refine Zap<|aV [(true,3)] rfl<|Zac ([(_,_),(_,_),(_,_),(_,_),(_,_)]++ν++(ω++[(l,_),(bd,_)])) (bLK _ _ _).symm<|aR (A:=[(_,_),(_,_),(_,_),(_,_),(_,_)]) (B:=(ω++[(l,_),(bd,_)])) rfl U170 rfl rfl iJ wZ rfl MZ rfl rfl rfl O (iL.lit hAs) Ye Xas (DJ I) Xbc Yd (bLG fun p hp=>bLH _ (bKX.2 ⟨p,hp,rfl⟩)) rfl bQK fun v1x ν1x ha1x=>Zap<|lI [(false,7),(false,8),(false,9)] rfl<|Zac (([(_,_),(_,_),(_,_),(_,_),(_,_)]++ν1x)++ω++[(l,_),(bd,_)]) (bLK _ _ _).symm<|aR (A:=[(_,_),(_,_),(_,_),(_,_),(_,_)]++ν1x) (B:=[(l,_),(bd,_)]) rfl U25 rfl rfl aJ cK rfl kE rfl rfl rfl R (iL.lit hAm) Ye rfl Ye Yk Yd (bLG fun p hp=>LE _ (bKX.2 ⟨p,hp,rfl⟩)) rfl bQK fun u1x ω1x ha2x=>Wm ?_;have hJ:aZS y out (pre++[x]) (U,V,M1,v1x,ν1x,u1x,ω1x):=PF hN hB hc1 (by simpa using ha1x) (by simpa using ha2x);refine Zap<|mG<|Za6 ?_;exact fun a w hh=>jP (A:=[(_,_),(_,_),(_,_),(_,_)]++(ν1x++ω1x)) (B:=[(bd,.deferred (some []))]) (U,V,M1,v1x,ν1x,u1x,ω1x) hJ rfl rfl a w ((hh.dropBoxes 1).boxesEq (bBT [_,_,_,_] ν1x ω1x [_,_]))
   ·refine Zu rfl U25 aJ cK rfl (.cons rfl rfl .nil) fun b901 D901 hD901 Z=>?_;have hAm:=Z;refine Zap<|aV [(true,2),(true,3)] rfl<|Zu rfl U170 iJ wZ rfl (.cons rfl Xas .nil) fun hO hP hI Y=>?_;have hAs:=Y;refine Zac ([(_,_),(_,_),(_,_),(_,_),(_,_)]++ν++(ω++[(l,_),(bd,_)])) (bLK _ _ _).symm<|aR (A:=[(_,_),(_,_),(_,_),(_,_),(_,_)]) (B:=(ω++[(l,_),(bd,_)])) rfl U170 rfl rfl iJ wZ rfl MZ rfl rfl rfl O (iL.lit hAs) Ye Xas (DJ I) Xbc Yd (bLG fun p hp=>bLH _ (bKX.2 ⟨p,hp,rfl⟩)) rfl bQK fun v1x ν1x ha1x=>Zap<|lI [(false,7),(false,8),(false,9)] rfl<|Zac (([(_,_),(_,_),(_,_),(_,_),(_,_)]++ν1x)++ω++[(l,_),(bd,_)]) (bLK _ _ _).symm<|aR (A:=[(_,_),(_,_),(_,_),(_,_),(_,_)]++ν1x) (B:=[(l,_),(bd,_)]) rfl U25 rfl rfl aJ cK rfl kE rfl rfl rfl R (iL.lit hAm) Ye rfl Ye Yk Yd (bLG fun p hp=>LE _ (bKX.2 ⟨p,hp,rfl⟩)) rfl bQK fun u1x ω1x ha2x=>Wm ?_;have hJ:aZS y out (pre++[x]) (U,V,M1,v1x,ν1x,u1x,ω1x):=PF hN hB hc1 (by simpa using ha1x) (by simpa using ha2x);refine Zap<|mG<|Za6 ?_;exact fun a w hh=>jP (A:=[(_,_),(_,_),(_,_),(_,_)]++(ν1x++ω1x)) (B:=[(bd,.deferred (some []))]) (U,V,M1,v1x,ν1x,u1x,ω1x) hJ rfl rfl a w ((hh.dropBoxes 1).boxesEq (bBT [_,_,_,_] ν1x ω1x [_,_]))
  ·have hI0:aZS y out (pre++[x]) (U,V,M1,v,ν,u,ω):=bGL hN hB hc1 O R;refine bJ<|Za6 ?_;exact fun a w hh=>jP (A:=[(_,_),(_,_),(_,_),(_,_)]++(ν++ω)) (B:=[(bd,.deferred (some []))]) (U,V,M1,v,ν,u,ω) hI0 rfl rfl a w ((hh.dropBoxes 1).boxesEq (bBT [_,_,_,_] ν ω [_,_]))
 ·rintro⟨es,clock,M,v,ν,u,ω⟩ bd ⟨hM,hok,O,R⟩;simp only at hM hok O R;rw[o9]at O R;have I:∀p∈dJ y out,p.1.fits.length=7:=by rw[←o9];exact EE y out _
  have hsl:(dJ y out).length≤2097152:=by rw[←o9];have:=JQ y out (C1.cG (kT y.chairs));have:=VO hE;omega
  refine yG ((q4,qC [u] 25)::(q3,qC [v] 170)::(wb,qC [cv,qI y.fit,qv,.map (some mb)] 299)::(mb,.map es clock)::((ν++ω)++[(bd,.deferred (some []))])) rfl<|Za6<|Za1<|Za5<|uJ [] 1 4 6 (fun _ _ _ h=>h)<|Zp rfl wJ rfl Mm1 rfl<|Zp rfl bX rfl Mm0 rfl<|VT rfl rfl rfl O.cells1 a7 (.tail .head) Ye rfl O.cell1 bQK<|bP rfl rfl rfl R.cells1 fR .head Ye rfl R.cell1 bQK<|aG<|yG ([(_,_),(_,_),(_,_),(_,_)]++ν++(ω++[(bd,_)])) (bKK [_,_,_,_] ν ω [_])<|LI (A:=[(_,_),(_,_),(_,_),(_,_)]) (B:=ω++[(bd,_)]) O bDW fun D8 hD8 hF8=>?_;refine yG ([(_,_),(_,_),(_,_),(_,_)]++ω++[(bd,_)]) (bLK _ _ _).symm<|LI (A:=[(_,_),(_,_),(_,_),(_,_)]) (B:=[(bd,_)]) R bDW fun D9 hD9 hF9=>?_;exact SV (A:=[(_,_),(_,_)]) (ν':=[(_,_),(_,_)]) (B:=[]) (vs:=[_,_]) rfl rfl rfl ⟨⟨_,_,_,rfl,Mm1,bLL ⟨wJ,rfl⟩⟩,⟨_,_,_,rfl,bPV _,bLL ⟨bX,rfl⟩⟩,bQK⟩ rfl fun D hD=>⟨v,u,rfl,(hF8.scs Ye Yd).up WD.up ((hD9 _ Ye).trans (hD _ Ye)),(hF9.ints Ye Yd).up RI.up (hD _ Ye),es,clock,M,rfl,hM,hok⟩
def bEC(m k:Nat):List Int:=((List.range k).filter fun i=>m.testBit i).map fun i:Nat=>(i:Int)
def aBW(m:Nat):List Int:=bEC m 7
def mK(s:Sc)(l:List (Int×Int)):Nat:=s.whole+(l.filter fun p=>fB s.fits p.1.toNat p.2.toNat).length
def aIH(l:List (Int×Int)):Prop:=∀p∈l,∃x z:Nat,p=((x:Int),(z:Int))∧x<7∧z<7
theorem aMY(s:Sc)(l:List (Int×Int)):mK s l≤s.whole+l.length:=by
 have:=bMO (fun p:Int×Int=>fB s.fits p.1.toNat p.2.toNat) l;unfold mK;omega
theorem XR{s:Sc}{l:List (Int×Int)}{k x z:Nat}(h:l[k]?= some ((x:Int),(z:Int))):((mK s (l.take (k+1)):Nat):Int)=(mK s (l.take k):Int)+((((s.fits.getD x 0) >>> z:Nat):Int)%2):=by
 rw[mQ];unfold mK;rw[bLA,h,bLT,bMJ,GE];have:([((x:Int),(z:Int))].filter fun p:Int×Int=>fB s.fits p.1.toNat p.2.toNat).length=if(s.fits.getD x 0).testBit z=true then 1 else 0:=by
  show(List.filter (fun p:Int×Int=>(s.fits.getD p.1.toNat 0).testBit p.2.toNat) [((x:Int),(z:Int))]).length=_;rw[bNN];simp only[bMR];split<;>rfl
 rw[this];split<;>omega
theorem aAP{a b:Nat}(ha:a<128)(hb:b<128):a|||b<128:=Nat.or_lt_two_pow (n:=7) ha hb
theorem aLA(w b:Nat)(a0 O a2 a3 a4 a5 R:Nat)(lv:Γ)(l:List (Int×Int))(D:aC)(_hF:∀f∈[a0,O,a2,a3,a4,a5,R],f<128)(hw:w≤7)(hl:Sl D R2 2 lv l)(hp:aIH l)(hlen:l.length≤1000):Fn prog 228 #[.agg #[qI (w:Int),qI (b:Int),qI (a0:Int),qI (O:Int),qI (a2:Int),qI (a3:Int),qI (a4:Int),qI (a5:Int),qI (R:Int)],lv] D (fun _ v=>v=qI (mK ⟨w,b,[a0,O,a2,a3,a4,a5,R]⟩ l:Int)):=by
 have hll:=hl.len;refine Zx 29 func228 rfl fun h0=>aA<|Zab rfl fun q1 E1 hF U=>Zk rfl<|aL<|Zi rfl N0 rfl<|Zd 0 rfl aH rfl U rfl<|Zk rfl<|bK<|Za rfl<|Zai rfl U151 rfl hl rfl<|Za rfl ?_;refine aF<|Za3<|dW (γ:=Nat) (fun k=>l.length-k) (fun k=>k≤l.length) (fun k=>[(12,qI (k:Int)),(5,qI (mK ⟨w,b,[a0,O,a2,a3,a4,a5,R]⟩ (l.take k):Int))]) [(11,_),(10,_),(4,_),(2,_)] (fun k=>[E1,D]) 0 Yd ⟨Ya,(by simp[mK];rfl),bQK⟩ cR (aK) ?_
 rintro k h1;refine aA<|Zan rfl<|bS<|Zag rfl (fun hc1=>?_) fun hc1=>?_
 ·have hk:k<l.length:=by omega
  obtain⟨p,I⟩:=cB l k;obtain⟨x,z,rfl,V,hH⟩:=hp p (GT I);have hml:=aMY ⟨w,b,[a0,O,a2,a3,a4,a5,R]⟩ (l.take k);have htl:(l.take k).length≤k:=bOB _ _;simp only at hml;refine aQ<|Za5<|Za3<|aA<|Zw rfl U151 uN rfl hl rfl I fun b1 o1 Y Z hE hB=>?_;obtain rfl:Y=[qI _,qI _]:=Z;refine Zv rfl bAN rfl hB uN<|Zad rfl wT rfl fun q2=>Zy rfl uN ζ<|aF<|bE [] 6 12 1022<|Za rfl<|Zi rfl aIT rfl<|Zp rfl aH rfl Mm0 rfl<|Zi rfl O8 rfl<|eV rfl U305 aJ rfl rfl Yd Yd rfl bQK<|dZ (o:=0+1+1) (k:=x*1) rfl aH rfl U.tail.tail Ye (aUD a0 O a2 a3 a4 a5 R V) n4 rfl bQK<|Zi rfl aME rfl ?_;refine Zp rfl aH rfl Mm0 rfl<|W2 rfl rfl rfl Yd rfl bQK<|C4 rfl rfl rfl (bPQ _) Yd Xch rfl bQK<|yJ rfl rfl rfl (by rw[mQ];simp only[wD];split<;>omega) rfl bQK<|Was ?_
  exact aI 20 (k+1) Yd Yd ⟨Ya,(by rw[XR I];rfl),bQK⟩ rfl rfl (bMB _ Mm5) (aK)
 ·obtain rfl:k=l.length:=by omega
  rw[bLU];refine Wn ?_;exact aE rfl fun D hD=>rfl
theorem UW(s:Sc)(lv:Γ)(l:List (Int×Int))(hs:∀f∈s.fits,f<128)(hw:s.whole≤7)(hp:aIH l)(hlen:l.length≤1000)(D:aC)(hl:Sl D R2 2 lv l)(I:s.fits.length=7):Fn prog 228 #[.agg (ints (T0 s)).toArray,lv] D (fun _ v=>v=qI (mK s l:Int)):=by
 obtain⟨w,b,F⟩:=s;obtain⟨a0,O,a2,a3,a4,a5,R,rfl⟩:=bED I;exact aLA w b a0 O a2 a3 a4 a5 R lv l D hs hw hl hp hlen
def gI(y:aZ):(Int×Int)×Int:=if bB y≠0 then((0,0),bB y)else match(dJ y []).map fun p=>(p.2:Int)with
 | []=>((0,0),11)
 |m::l=>((m::l).foldl (fun r n=>(min r.1 n,max r.2 n)) (m,m),0)
theorem YL{y:aZ}(h:bB y=0)(hn:dJ y []=[]):Value.tuple #[.agg #[qI 0,qI 0],qI 11]=.tuple #[mH (gI y).1,qI (gI y).2]:=by
 rw[gI,bLI Yd,hn];rfl
theorem AE{y:aZ}{L:List Int}{m0:Int}(h:bB y=0)(hL:((dJ y []).map fun p=>(p.2:Int))=L)(hm:L[0]?= some m0):Value.tuple #[.agg #[qI (L.foldl (fun r n=>(min r.1 n,max r.2 n)) (m0,m0)).1,qI (L.foldl (fun r n=>(min r.1 n,max r.2 n)) (m0,m0)).2],qI 0]=.tuple #[mH (gI y).1,qI (gI y).2]:=by
  rw[gI,bLI Yd,hL];cases L with
  |nil=>simp at hm
  | cons m l => obtain rfl : m = m0 := by simpa using hm
                rfl
theorem SI{L:List Int}{k:Nat}{n m0:Int}(h:L[k]?= some n):(L.take (k+1)).foldl (fun r n=>(min r.1 n,max r.2 n)) (m0,m0)=(min ((L.take k).foldl (fun r n=>(min r.1 n,max r.2 n)) (m0,m0)).1 n,max ((L.take k).foldl (fun r n=>(min r.1 n,max r.2 n)) (m0,m0)).2 n):=by
 rw[bLA,h,bLT,bMT];rfl
theorem zG(yv:Γ)(y:aZ)(D:aC)(hy:gU D yv y):Fn prog 28 #[yv] D (fun _ v=>v=.tuple #[mH (gI y).1,qI (gI y).2]):=by
 have hB:=hy;obtain⟨cv,qv,rfl,hc,hq⟩:=hy;refine Zx 48 func28 rfl fun h0=>aA<|Zab rfl fun q1 E1 hP U=>Zad rfl kR rfl fun q2=>Zk rfl<|bK<|Zv rfl kP rfl U jA<|Zf rfl (fun D1 hE=>zU _ y _ (hB.up (hE _ Ye)))<|Wbk ?_;refine aF<|Zag rfl (fun hc1=>?_) fun hc1=>?_
 ·refine aA<|Zt [qI 0,qI 0] rfl t7 kR rfl<|Za rfl<|Zy rfl cY ζ<|Wi ?_;exact Zo [_,_] rfl ⟨⟨_,_,_,rfl,Mm0,Or.inr ⟨oA,Xap,rfl⟩⟩,rfl,bQK⟩ fun D hD=>by show Value.tuple _=_;rw[gI,bLR hc1];rfl
 ·have O:bB y=0:=by omega
  have hyo:=bJE O;have hR:=hyo.len;refine aQ<|aA<|Zv rfl kP rfl U jA<|gG (μ:=_) rfl rfl rfl (fun D5 hS=>CK _ y _ _ D5 rfl) rfl bQK fun v5 D6 _ hX hp5=>?_;obtain⟨wb,mb,rfl,rfl⟩:=hp5;refine aU ([]++[(_,_),(_,_)]++([(_,_)])) rfl<|gH (A:=[]) (ν:=[(_,_),(_,_)]) (B:=[(_,_)]) rfl rfl rfl rfl (bLL rfl) (LG (cs:=[_,_,_,_])) (fun D7 V=>KV wb mb _ _ y [] _ Yd hyo.fit hyo.size #[] 0 [] _ (hc.up xW.up (V _ Ye)) (hq.up R2.up (V _ Ye)) Sl.nil rfl HR.nil) rfl bQK fun v7 D8 _ hY hF=>?_;obtain⟨sv,mv,rfl,hsv,hmv,Y,Z,M1,rfl,rA,hN⟩:=hF;refine Za rfl<|Zaq rfl<|Zaq rfl<|Zk rfl<|Zk rfl<|bK<|Za rfl<|Zai rfl U25 rfl hmv rfl<|Zaw rfl<|aF<|Zag rfl (fun hc2=>?_) fun hc2=>?_
  ·have hnil:dJ y []=[]:=by simpa using hc2
   refine aA<|Zt [qI 0,qI 0] rfl t7 kR rfl<|Zy rfl cY (.tail (.tail ζ))<|Wi ?_;exact Zo [_,_] rfl ⟨⟨_,_,_,rfl,Mm2,Or.inr ⟨oA,Xap,rfl⟩⟩,rfl,bQK⟩ fun D hD=>YL O hnil
  ·generalize hL:((dJ y []).map fun p=>(p.2:Int))=ms at hmv hc2 ⊢
   have hml:=hmv.len;have hne:ms≠[]:=fun e=>hc2 Xak
   obtain⟨m0,R⟩:∃m,ms[0]?= some m:=⟨ms[0]'(bOK.2 hne),bLB _⟩
   refine aQ<|Za5<|mT [] 3 [false,false,false,true,true,true,false,true,true,true,false,false] [.fork [0,1,2,3,4,5,6,7] 8 (.fin [9]) 9 (.fin [8]),.fin [10,11]] bC (fun _ _ _ h=>eZ (P:=prog) (fn:=f28) _ _ _ h) Yg<|qT<|bQ [(false,0),(false,1),(false,2),(true,3),(true,4),(true,5),(false,6),(true,7)] rfl<|Za rfl<|iN rfl hmv rfl R fun b1 o1=>Za rfl<|iN rfl hmv rfl R fun b2 o2=>Zt [qI m0,qI m0] rfl t7 kR rfl<|Zt [.func (.func 89) #[] #[]] rfl aVX MQ rfl<|Zap (dV true true rfl rfl ?_ ?_)
   ·refine Zad rfl kR rfl fun q3=>Zap<|aV [(true,9)] rfl<|Zad rfl MQ rfl fun q4=>Zap<|lI [(false,10),(false,11)] rfl<|Zy rfl cY (.tail ζ)<|Zy rfl aCU ζ<|Zap<|mG<|Za1<|bM ?_;refine Za rfl<|Zai rfl U25 rfl hmv rfl<|Za rfl<|aF<|Za3<|hU (γ:=Nat) (fun k=>ms.length-k) (fun k=>k≤ms.length) (fun k=>[(37,qI (k:Int))]) [(36,_),(35,_),(8,_),(7,_),(3,_),(2,_)] (fun k=>(q4,qC [.func (.func 89) #[] #[]] 178)::(q3,qC [qI (List.foldl (fun r n=>(min r.1 n,max r.2 n)) (m0,m0) (ms.take k)).1,qI (List.foldl (fun r n=>(min r.1 n,max r.2 n)) (m0,m0) (ms.take k)).2] 90)::(wb,qC [cv,qI y.fit,qv,.map (some mb)] 299)::(mb,.map Y Z)::[(q2,qC [qI 0,qI 0] 90)]) (fun k=>[D8,D6,E1,D]) 0 Yd ⟨Ya,bQK⟩ cR Mm5 (aK) ?_;rintro k h1;refine aA<|Zan rfl<|bS<|Zag rfl (fun hc3=>?_) (fun hc3=>?_)
    ·have hk:k<ms.length:=by omega
     obtain⟨n,I⟩:=cB ms k;have hst:=SI (m0:=m0) I;refine aQ<|Za5<|Za3<|aA<|Zw rfl U25 aJ rfl hmv rfl I fun b3 o3 hH hI hO hJ=>?_;obtain rfl:hH=[qI _]:=hI;refine Zd 0 rfl aH rfl hJ rfl<|Zk rfl<|aF<|aP<|Zi rfl JK rfl<|Zp rfl aFV rfl Mm0 rfl<|Zae rfl oA rfl Mm1 cY<|Za rfl<|Zf rfl (fun D2 hK=>vZ (List.foldl (fun r n=>(min r.1 n,max r.2 n)) (m0,m0) (ms.take k)) n _)<|Zy rfl cY (.tail ζ)<|Zap<|Za6 ?_;refine Za1<|aP<|Zah rfl<|Za rfl<|Zap ?_;rw[←hst];exact aI 12 (k+1) Yd Yd ⟨Ya,bQK⟩ rfl rfl Mm5 (aK)
    ·obtain rfl:k=ms.length:=by omega
     rw[bLU];refine Za8<|Za4<|Za4<|Za9<|Za1<|aA<|Zae rfl oA rfl Mm1 cY<|Zy rfl cY (.tail (.tail (.tail (.tail ζ))))<|We ?_;exact Zo [_,_] rfl ⟨⟨_,_,_,rfl,(List.Mem.tail _ Mm3),Or.inr ⟨oA,Xap,rfl⟩⟩,rfl,bQK⟩ fun D hD=>AE O hL R
   ·refine Zad rfl MQ rfl fun q3=>Zap<|aV [(true,8)] rfl<|Zad rfl kR rfl fun q4=>Zap<|lI [(false,10),(false,11)] rfl<|Zy rfl cY ζ<|Zy rfl aCU (.tail ζ)<|Zap<|mG<|Za1<|bM ?_;refine Za rfl<|Zai rfl U25 rfl hmv rfl<|Za rfl<|aF<|Za3<|hU (γ:=Nat) (fun k=>ms.length-k) (fun k=>k≤ms.length) (fun k=>[(37,qI (k:Int))]) [(36,_),(35,_),(7,_),(8,_),(3,_),(2,_)] (fun k=>(q4,qC [qI (List.foldl (fun r n=>(min r.1 n,max r.2 n)) (m0,m0) (ms.take k)).1,qI (List.foldl (fun r n=>(min r.1 n,max r.2 n)) (m0,m0) (ms.take k)).2] 90)::(q3,qC [.func (.func 89) #[] #[]] 178)::(wb,qC [cv,qI y.fit,qv,.map (some mb)] 299)::(mb,.map Y Z)::[(q2,qC [qI 0,qI 0] 90)]) (fun k=>[D8,D6,E1,D]) 0 Yd ⟨Ya,bQK⟩ cR Mm5 (aK) ?_;rintro k h1;refine aA<|Zan rfl<|bS<|Zag rfl (fun hc3=>?_) (fun hc3=>?_)
    ·have hk:k<ms.length:=by omega
     obtain⟨n,I⟩:=cB ms k;have hst:=SI (m0:=m0) I;refine aQ<|Za5<|Za3<|aA<|iN rfl hmv rfl I fun b3 o3=>Zk rfl<|aF<|aP<|Zi rfl JK rfl<|Zp rfl aFV rfl Mm1 rfl<|Zae rfl oA rfl Mm0 cY<|Za rfl ?_;refine Zf rfl (fun D2 hK=>vZ (List.foldl (fun r n=>(min r.1 n,max r.2 n)) (m0,m0) (ms.take k)) n _)<|Zy rfl cY ζ<|Zap<|Wd ?_;rw[←hst];exact aI 12 (k+1) Yd Yd ⟨Ya,bQK⟩ rfl rfl Mm5 (aK)
    ·obtain rfl:k=ms.length:=by omega
     rw[bLU];refine Za8<|Za4<|Za4<|Za9<|Za1<|aA<|Zae rfl oA rfl Mm0 cY<|Zy rfl cY (.tail (.tail (.tail (.tail ζ))))<|We ?_;exact Zo [_,_] rfl ⟨⟨_,_,_,rfl,(List.Mem.tail _ Mm3),Or.inr ⟨oA,Xap,rfl⟩⟩,rfl,bQK⟩ fun D hD=>AE O hL R
theorem KO(l:List (Int×Int)):∀u∈HC l,cell1 u=true:=by
 intro u hu;unfold HC at hu;rw[bOV]at hu;obtain⟨p,_,hu⟩:=hu;simp only[bNA,n4,bND]at hu;rcases hu with rfl|rfl<;>rfl
theorem ND{I b2 t1 t2:Nat}{cs ds:List Γ}:∀p∈[(I,Obj.cells cs.toArray t1 (0,0)),(b2,qC ds t2)],dC p.2:=by
 intro p hp;simp only[bNA,n4,bND]at hp;rcases hp with rfl|rfl<;>rfl
def DW(scs:List Sc)(l:List (Int×Int)):Int:=match scs with
 | []=>0
 |s::_=>(scs.map fun s=>(mK s l:Int)).foldl min (mK s l:Int)
theorem aMZ{scs:List Sc}{l:List (Int×Int)}{I:Sc}(h:scs[0]?= some I):(scs.map fun s=>(mK s l:Int)).foldl min (mK I l:Int)=DW scs l:=by
  cases scs with
  |nil=>simp at h
  | cons s r => obtain rfl : s = I := by simpa using h
                rfl
theorem aKN{scs:List Sc}{l:List (Int×Int)}{k:Nat}{s:Sc}{a:Int}(h:scs[k]?= some s):((scs.take (k+1)).map fun s=>(mK s l:Int)).foldl min a=min (((scs.take k).map fun s=>(mK s l:Int)).foldl min a) (mK s l:Int):=by
 rw[bLA,h,bLT,bLO,bMT];rfl
def lV(y:aZ)(a b:Nat):Bool:=match y.chairs[a]?,y.chairs[b]? with
 |some x,some z=>S9 y.fit x z
 |_,_=>false
def VG(y:aZ):Nat→Nat→Nat→List (Int×Int)→List (List (Int×Int))
 |0,_,_,l=>[l]
 |k+1,f,w,l=>VG y k (f+1) w l++(if w.testBit f=true then []else((List.range y.chairs.length).filter fun b=>decide (f<b)&&(!w.testBit b&&lV y f b)).flatMap fun(b:Nat)=>VG y k (f+1) (w|||2^b) (l++[((f:Int),(b:Int))]))
def aER(scs:List Sc)(st:List (Int×Int)×Int)(l:List (Int×Int)):List (Int×Int)×Int:=if st.2<DW scs l then(l,DW scs l)else st
theorem m1{y:aZ}{scs:List Sc}{f w:Nat}{l:List (Int×Int)}{st:List (Int×Int)×Int}:(VG y 0 f w l).foldl (aER scs) st=aER scs st l:=rfl
theorem aBX{scs:List Sc}{l best:List (Int×Int)}{many:Int}(h:many<DW scs l):aER scs (best,many) l=(l,DW scs l):=bLR h
theorem aPZ{scs:List Sc}{l best:List (Int×Int)}{many:Int}(h:¬many<DW scs l):aER scs (best,many) l=(best,many):=bLI h
def vU(y:aZ)(k f w:Nat)(l:List (Int×Int))(b:Nat):List (List (Int×Int)):=if w.testBit f=true then []else((List.range b).filter fun b=>decide (f<b)&&(!w.testBit b&&lV y f b)).flatMap fun(b:Nat)=>VG y k (f+1) (w|||2^b) (l++[((f:Int),(b:Int))])
def RN(y:aZ)(scs:List Sc)(k f w:Nat)(l best:List (Int×Int))(many:Int)(b:Nat):List (Int×Int)×Int:=(VG y k (f+1) w l++vU y k f w l b).foldl (aER scs) (best,many)
theorem JF{y:aZ}{scs:List Sc}{k f w:Nat}{l best:List (Int×Int)}{many:Int}:RN y scs k f w l best many (f+1)=(VG y k (f+1) w l).foldl (aER scs) (best,many):=by
 have:vU y k f w l (f+1)=[]:=by
  unfold vU;split
  ·rfl
  ·rw[List.filter_eq_nil_iff.2 fun b hb=>by have:=bMZ.1 hb;simp;omega];rfl
 unfold RN;rw[this,n5]
theorem BU{y:aZ}{scs:List Sc}{k f w b:Nat}{l best:List (Int×Int)}{many:Int}(hb:f<b)(hbit:w.testBit f=false)(hs:(!w.testBit b&&lV y f b)=true):
  RN y scs k f w l best many (b+1)=(VG y k (f+1) (w|||2^b) (l++[((f:Int),(b:Int))])).foldl (aER scs) ((RN y scs k f w l best many b).1,(RN y scs k f w l best many b).2):=by
 have:vU y k f w l (b+1)=vU y k f w l b++VG y k (f+1) (w|||2^b) (l++[((f:Int),(b:Int))]):=by
  unfold vU;rw[bLI (by rw[hbit];simp),bLI (by rw[hbit];simp),bMN,bMJ,bLN]
  simp[hb,hs]
 unfold RN;rw[this,←bLK,bMT]
theorem aNV{y:aZ}{scs:List Sc}{k f w b:Nat}{l best:List (Int×Int)}{many:Int}(hs:(!w.testBit b&&lV y f b)=false):RN y scs k f w l best many (b+1)=RN y scs k f w l best many b:=by
 have:vU y k f w l (b+1)=vU y k f w l b:=by
  unfold vU;split
  ·rfl
  ·rw[bMN,bMJ,bLN];simp[hs]
 unfold RN;rw[this]
theorem aCJ{y:aZ}{scs:List Sc}{k f w b:Nat}{l best:List (Int×Int)}{many:Int}(_h1:f+1≤b)(h:(decide ((b:Int)<(y.chairs.length:Int))&&decide (((w >>> f:Nat):Int)%2=0))=false):(VG y (k+1) f w l).foldl (aER scs) (best,many)=RN y scs k f w l best many b:=by
 have e:VG y (k+1) f w l=VG y k (f+1) w l++vU y k f w l y.chairs.length:=rfl;rw[e];unfold RN
 by_cases hb:w.testBit f=true
 ·have key:∀b,vU y k f w l b=[]:=fun b=>by unfold vU;rw[bLR hb]
  rw[key,key]
 ·have h':¬(b:Int)<(y.chairs.length:Int):=by
   intro h2;rw[mQ,bLI hb]at h;simp at h;omega
  have key:∀j,vU y k f w l (y.chairs.length+j)=vU y k f w l y.chairs.length:=by
   intro j;induction j with
   |zero=>rfl
   |succ j ih=>
    rw[←ih];unfold vU;rw[bLI hb,bLI hb,←Nat.add_assoc,bMN,bMJ,bLN];have:lV y f (y.chairs.length+j)=false:=by
     unfold lV;rw[bNX (show y.chairs.length≤y.chairs.length+j by omega)];cases y.chairs[f]? <;>rfl
    simp[this]
  have:=key (b-y.chairs.length);rw[show y.chairs.length+(b-y.chairs.length)=b by omega]at this;rw[this]
theorem bHQ{b n w f:Nat}(h:(decide ((b:Int)<(n:Int))&&decide (((w >>> f:Nat):Int)%2=0))=true):b<n∧w.testBit f=false:=by
 rw[bKW,LT,LT,mQ]at h;refine⟨Yd,?_⟩;cases e:w.testBit f with
 |false=>rfl
 |true=>rw[bLR e]at h;omega
theorem aDJ{y:aZ}{w f b:Nat}{x z:Ch}{r:Bool}(hx:y.chairs[f]?= some x)(hz:y.chairs[b]?= some z)(h:(decide (((w >>> b:Nat):Int)%2=0)&&S9 y.fit x z)=r):(!w.testBit b&&lV y f b)=r:=by
 rw[←h,mQ];unfold lV;rw[hx,hz]
 cases w.testBit b<;>simp
theorem KW{l:List (Int×Int)}{a b:Nat}(h:aIH l)(ha:a<7)(hb:b<7):aIH (l++[((a:Int),(b:Int))]):=fun p hp=>by
 rcases bLM.1 hp with hp|hp
 ·exact h p hp
 ·simp only[bLS]at hp;exact⟨a,b,hp,ha,hb⟩
theorem zK(sv:Γ)(xs:List Int)(D:aC)(hS:Sl D RI 1 sv xs)(hl:xs.length≤10000000):IU prog 142 #[sv] D (fun _ v ν=>bD 3 1 v xs.length (ints xs) ν):=by
 obtain⟨a0,c0,rfl⟩:=hS.shape;refine rD 8 func142 rfl rfl rfl rfl fun h0=>aA<|Zk rfl<|bK<|Za rfl<|qU rfl U25 rfl rfl rfl bQK<|aF<|Zaf rfl (fun hc1=>?_) fun hc1=>?_
 ·obtain rfl:a0=none:=by simpa using hc1
  obtain rfl:=tV hS;refine Wcg ?_;exact aE rfl fun D' hD=>bD.nil
 ·refine aQ<|aA<|Zu rfl U25 aJ cK rfl .nil fun U V I O=>Za rfl<|aR (A:=[]) (ν:=[]) (B:=[]) rfl U25 rfl rfl aJ cK rfl kE rfl rfl rfl bD.nil (iL.ints hS) Ye Ye rfl (dI _) Yd (bLL rfl) rfl bQK fun Y ν1 R=>We ?_;exact aE rfl fun D' hD=>by show bD 3 1 Y _ _ _;simpa [HC]using R
theorem s5(sv:Γ)(xs:List (Int×Int))(D:aC)(hS:Sl D R2 2 sv xs)(hl:xs.length≤10000000):IU prog 146 #[sv] D (fun _ v ν=>bD 273 2 v xs.length (HC xs) ν):=by
 obtain⟨a0,c0,rfl⟩:=hS.shape;refine rD 8 func146 rfl rfl rfl rfl fun h0=>aA<|Zk rfl<|bK<|Za rfl<|qU rfl U151 rfl rfl rfl bQK<|aF<|Zaf rfl (fun hc1=>?_) fun hc1=>?_
 ·obtain rfl:a0=none:=by simpa using hc1
  obtain rfl:=tV hS;refine Wcg ?_;exact aE rfl fun D' hD=>bD.nil
 ·refine aQ<|aA<|Zu rfl U151 uN wT rfl .nil fun U V I O=>Za rfl<|aR (A:=[]) (ν:=[]) (B:=[]) rfl U151 rfl rfl uN wT rfl OO rfl rfl rfl bD.nil (iL.of (cells:=fun p:Int×Int=>[qI p.1,qI p.2]) (fun _ _ _ h=>h) (fun _=>rfl) hS) Ye (vE xs) rfl (KO xs) Yd (bLL rfl) rfl bQK fun Y ν1 R=>We ?_;exact aE rfl fun D' hD=>by show bD 273 2 Y _ _ _;simpa [HC]using R
theorem aXN(sv lv:Γ)(scs:List Sc)(l:List (Int×Int))(n:Nat)(D:aC)(hS:Sl D WD 9 sv scs)(hl:Sl D R2 2 lv l)(hne:scs≠[])(hsc:∀s∈scs,RG n s)(hp:aIH l)(Z:l.length≤1000):Fn prog 145 #[sv,lv] D (fun _ v=>v=qI (DW scs l)):=by
 have hsl:=hS.len;obtain⟨s0,R⟩:∃s,scs[0]?= some s:=⟨scs[0]'(bOK.2 hne),bLB _⟩
 have O:=hsc s0 (GT R);refine Zx 27 func145 rfl fun h0=>aA<|Zk rfl<|aL<|Za rfl<|Zw rfl U170 iJ rfl hS rfl R fun b1 o1 hB hE hR hF=>?_;obtain rfl:hB=ints (T0 _):=hE;refine Zv rfl uI rfl hF (by rw[aN,tU _ O.len];exact iJ)<|Za rfl<|Zf rfl (fun D1 hH=>UW s0 _ l O.row O.whole hp Z _ (hl.up R2.up (hH _ Ye)) O.len)<|Zk rfl<|bK<|Za rfl<|Zai rfl U170 rfl hS rfl<|Za rfl<|aF<|Za3<|dW (γ:=Nat) (fun k=>scs.length-k) (fun k=>k≤scs.length) (fun k=>[(15,qI (k:Int)),(5,qI (((scs.take k).map fun s=>(mK s l:Int)).foldl min (mK s0 l:Int)))]) [(14,_),(13,_),(4,_),(1,_)] (fun k=>[D]) 0 Yd ⟨Ya,Ya,bQK⟩ cR (aK) ?_
 rintro k h1;refine aA<|Zan rfl<|bS<|Zag rfl (fun hc1=>?_) fun hc1=>?_
 ·have hk:k<scs.length:=by omega
  obtain⟨s1,U⟩:∃s,scs[k]?= some s:=⟨_,bLB hk⟩
  have I:=hsc s1 (GT U);refine aQ<|Za5<|Za3<|aA<|Zw rfl U170 iJ rfl hS rfl U fun b2 o2 hI hJ hX hK=>?_;obtain rfl:hI=ints (T0 _):=hJ;refine Zv rfl uI rfl hK (by rw[aN,tU _ I.len];exact iJ)<|Zad rfl wZ rfl fun q1=>cQ rfl rfl rfl rfl iJ (by rw[aN,tU _ I.len]) Ybc .head (dI _) bQK<|aF<|aP<|Za rfl<|bL (vs:=ints (T0 s1)) rfl uI rfl Mm0 (by rw[show(ints (T0 s1)).length=9 by rw[aN,tU _ I.len]];exact iJ) n4 rfl bQK<|Za rfl<|Zf rfl (fun D2 hN=>UW s1 _ l I.row I.whole hp Z _ (hl.up R2.up (hN _ Ye)) I.len)<|Zu rfl U25 aJ cK rfl (.cons rfl rfl (.cons rfl rfl .nil)) fun hY rA hO V=>?_
  have Y:=Sl.ofInts (l:=[_,_]) (n:=2) (cap:=2) V rfl Yd Yd;refine Zf rfl (fun D3 hP=>nH _ _ [_] _ (Y.up RI.up (hP _ Ye)))<|Was ?_;exact aI 15 (k+1) Yd Yd ⟨Ya,(by rw[aKN U];rfl),bQK⟩ rfl rfl (List.Sublist.cons _ Mm5) fun D h=>⟨D,bLP _ (h),Le.refl D⟩
 ·obtain rfl:k=scs.length:=by omega
  rw[bLU];refine Wn ?_;exact aE rfl fun D hD=>by show Value.int _ _=_;rw[aMZ R]
theorem bHS{y:aZ}{scs:List Sc}{cv qv sv:Γ}{bY bV bF bm bp:Nat}(hyo:bDM y)(hne:scs≠[])(hsc:∀s∈scs,RG y.chairs.length s):
  ∀(kk f:Nat),f+kk=y.chairs.length→∀(w:Nat) (l:List (Int×Int)) (lv:Γ) (best:List (Int×Int)) (many:Int) (pv:Γ) (D:aC),w<128→aIH l→l.length≤f→Sl D R2 2 lv l→Sl D R2 2 pv best→Sl D xW 4 cv y.chairs→Sl D R2 2 qv y.claims→At D bY 0 [cv,qI y.fit,qv]→At D bV 0 [sv]→Sl D WD 9 sv scs→At D bF 0 [.func (.func 144) #[] #[qP bY,qP bV,qP bm,qP bp,qP bF]]→
  HA prog 144 [lv,qI (f:Int),qI (w:Int),qP bY,qP bV,qP bm,qP bp,qP bF] D [(bm,qC [qI many] 3),(bp,qC [pv] 151)] (fun D' _ ν'=>∃pv',ν'=[(bm,qC [qI ((VG y kk f w l).foldl (aER scs) (best,many)).2] 3),(bp,qC [pv'] 151)]∧Sl D' R2 2 pv' ((VG y kk f w l).foldl (aER scs) (best,many)).1):=by
 intro kk;induction kk using Nat.strongRecOn with
 |_ kk ih=>
 intro f hf w l lv best many pv D hw hp hlf hl hb hc hq hY hV hS hF;have hn7:=hyo.len;have hcl:=hc.len;refine jR 75 func144 rfl rfl rfl rfl fun h0 hwl hwn=>bM<|Za rfl<|Zi rfl eO rfl<|Zd 0 rfl kS rfl hY rfl<|Zai rfl U37 rfl hc rfl<|Zaw rfl<|aF<|Zag rfl (fun hc1=>?_) fun hc1=>?_
 ·obtain rfl:kk=0:=by omega
  refine bM<|Zd 0 rfl wJ rfl hV rfl<|Za rfl<|Zf rfl (fun D1 hX=>aXN _ _ scs l y.chairs.length _ (hS.up WD.up (hX _ Ye)) (hl.up R2.up (hX _ Ye)) hne hsc hp Yd)<|Zk rfl<|aL<|Za rfl<|Zp rfl aH rfl Mm0 rfl<|Zas rfl<|aF<|Zag rfl (fun hc2=>?_) fun hc2=>?_
  ·refine aP<|Za rfl<|gG rfl rfl rfl (fun D7 Z=>s5 _ l _ (hl.up R2.up (Z _ Ye)) Yd) rfl bQK fun v6 D8 ν6 rA Y=>zJ (A:=[]) (B:=[(_,_),(_,_)]) Y (fun k hk=>hk) fun rB hJ O=>?_;have hB:=O.prs rfl Yd;obtain⟨a6,c6,rfl⟩:=Y.shape;refine Za rfl<|Zr rfl BX (.tail .head) rfl<|Zr rfl aJ ζ rfl<|aG<|Za2 ?_;exact Q1 (A:=[]) (ν':=[_,_]) (B:=[]) (vs:=[]) rfl rfl rfl bQK rfl fun D' hD=>⟨.slice a6 l.length c6,by rw[m1,aBX hc2];rfl,by rw[m1,aBX hc2];exact hB.up R2.up (hD _ Ye)⟩
  ·refine aQ<|IX<|Za2 ?_;exact Q1 (A:=[]) (ν':=[_,_]) (B:=[]) (vs:=[]) rfl rfl rfl bQK rfl fun D' hD=>⟨pv,by rw[m1,aPZ hc2],by rw[m1,aPZ hc2];exact hb.up R2.up (hD _ Ye)⟩
 ·obtain⟨k,rfl⟩:∃k,kk=k+1:=⟨kk-1,Yd⟩
  refine aQ<|aA<|Zd 0 rfl NM rfl hF rfl<|Za rfl<|Za rfl<|Zah rfl<|Za rfl<|gH (A:=[]) (ν:=[(_,_),(_,_)]) (B:=[]) rfl rfl rfl rfl (bLL rfl) ND (fun D5 R=>ih k Yd (f+1) Yd w l lv best many pv D5 hw hp Yd (hl.up R2.up (R _ Ye)) (hb.up R2.up (R _ Ye)) (hc.up xW.up (R _ Ye)) (hq.up R2.up (R _ Ye)) (hY.up (R _ Ye)) (hV.up (R _ Ye)) (hS.up WD.up (R _ Ye)) (hF.up (R _ Ye))) rfl bQK fun v5 D6 _ hD6 hp5=>?_;obtain⟨pv1,rfl,hpv1⟩:=hp5;refine aL<|Za rfl<|Zah rfl<|Zk rfl<|aF<|Za3<|hU (γ:=Nat×Γ×aC) (fun g=>y.chairs.length-g.1) (fun g=>f+1≤g.1∧Sl g.2.2 R2 2 g.2.1 (RN y scs k f w l best many g.1).1) (fun g=>[(12,qI (g.1:Int))]) [(0,_),(1,_),(2,_),(3,_),(7,_)] (fun g=>[(bm,qC [qI (RN y scs k f w l best many g.1).2] 3),(bp,qC [g.2.1] 151)]) (fun g=>[g.2.2,D]) (f+1,pv1,D6) ⟨Ye,by simp only;rw[JF];exact hpv1⟩ ⟨Ya,bQK⟩ cR ((by rw[JF];exact bQD _)) ((fun D0 h=>by simp only[bNA,n4,bND]at h;rcases h with h|h;exact⟨D6,Ye,h▸Le.refl _⟩;exact⟨D,Ye,h▸Le.refl _⟩)) ?_
  rintro⟨b,hH,Dn⟩ ⟨h1,U⟩;simp only at h1 U;refine bM<|Za rfl<|Zi rfl eO rfl<|Zd 0 rfl kS rfl hY rfl<|Zai rfl U37 rfl hc rfl<|Wcm ?_;refine' bW 6 (s:=40) (p:=46) rfl (fun hg1=>?_) (fun hg1=>?_) ?_;rotate_left
  ·refine Zb rfl<|Zb rfl<|W2 rfl rfl rfl Yd rfl ⟨_,rfl,rfl⟩<|C4 rfl rfl rfl (bPQ _) Yd Yf rfl ⟨_,rfl,rfl⟩<|Wah ?_;exact aM 5
  ·refine Wp ?_;exact aM 5
  refine aF<|Zaf rfl (fun hc3=>?_) fun hc3=>?_
  ·obtain⟨hbn,hbit⟩:=bHQ hc3;simp only at hbn;have hI:f<b:=by omega
   have hb7:b<7:=by omega
   have hpb:=BK hb7;obtain⟨x,hx⟩:=cB y.chairs f;obtain⟨z,hz⟩:=cB y.chairs b;refine aQ<|Za5<|Za3<|aA<|Za rfl<|Za rfl<|W2 rfl rfl rfl Yai rfl bQK<|C4 rfl rfl rfl (bPQ _) Yd Yf rfl bQK<|Wbd ?_;refine' bW 5 (s:=54) (p:=59) rfl (fun hg2=>?_) (fun hg2=>?_) ?_;rotate_left
   ·refine dG rfl kP rfl hY Yc jA n4 rfl ⟨_,rfl,rfl⟩<|Zb rfl<|Zb rfl<|Zg rfl (fun D2 hD2=>CS _ y f b x z _ ⟨_,_,rfl,hc.up xW.up (hD2 _ Ye),hq.up R2.up (hD2 _ Ye)⟩ hyo.fit hx hz (hyo.size _ (GT hx)) (hyo.size _ (GT hz)))<|Zak rfl ?_;exact aM 4
   ·refine Zh rfl<|Wb ?_;exact aM 4
   refine aF<|Zaf rfl (fun hK=>?_) fun hK=>?_
   ·have hsel:(!w.testBit b&&lV y f b)=true:=aDJ hx hz hK;refine mT (dN.mk [bF]) 4 [false,true,true,true,true,true,true,true,true,true,true,true,true,true,false] [.fork [0,1,3,4,5,8,9,10,11,12,13] 2 (.fin [6]) 6 (.fin [2]),.fin [7,14]] bC (fun _ _ _ h=>kK (P:=prog) (fn:=f144) _ _ _ h) Yg<|qT<|bQ [(false,0),(true,1),(true,3),(true,4),(true,5),(true,8),(true,9),(true,10),(true,11),(true,12),(true,13)] rfl<|dZ rfl (k:=0) NM rfl hF Ye rfl (dN.out Ye) rfl bQK<|Za rfl<|Za rfl<|Za rfl<|Zt [qI (f:Int),qI (b:Int)] rfl bAD wT rfl<|Za rfl<|Zah rfl<|Wbc ?_;refine FA rfl rfl rfl Yai rfl bQK<|IZ rfl rfl rfl Yai Yai rfl bQK<|Zap (dV true true rfl rfl ?_ ?_)
    ·refine gG rfl rfl rfl (fun D7 Z=>s5 _ l _ (hl.up R2.up (Z _ Ye)) Yd) rfl bQK fun v6 D8 ν6 rA Y=>Zap<|aV [(true,6)] rfl<|Zu rfl U151 uN wT rfl (.cons rfl rfl .nil) fun b901 D901 hN V=>?_;have hAp:=V;refine Zap<|lI [(true,7),(false,14)] rfl<|kZ hF Ye fun hap=>aR (A:=[]) (B:=[(_,_),(_,_)]) rfl U151 rfl rfl uN wT rfl OO rfl rfl rfl Y (iL.lit hAp) Ye rfl (vE l) Yk Yd (bLG fun p hp=>dN.in_ Yar) rfl bQK fun v7 ν7 hO=>?_;have ha7':bD 273 2 v7 (l.length+1) (HC (l++[((f:Int),(b:Int))])) ν7:=by rw[FP];simpa using hO
     refine zJ (A:=[]) (B:=[(_,_),(_,_)]) ha7' (fun k hk=>hk) fun rB hJ O=>?_;have hB:=O.prs Ye Yd;refine gH (A:=[]) (ν:=[(_,_),(_,_)]) (B:=[]) rfl rfl rfl rfl (bLL rfl) ND (fun D9 I=>ih k Yd (f+1) Yd (w|||2^b) (l++[((f:Int),(b:Int))]) v7 (RN y scs k f w l best many b).1 (RN y scs k f w l best many b).2 hH D9 (aAP hw hpb) (KW hp Yd Yd) Yaq (hB.up R2.up (I _ Ye)) (U.up R2.up (I _ Ye)) (hc.up xW.up (I _ Ye)) (hq.up R2.up (I _ Ye)) (hY.up (I _ Ye)) (hV.up (I _ Ye)) (hS.up WD.up (I _ Ye)) (hF.up (I _ Ye))) rfl bQK fun v9 D10 _ hD10 hP=>?_;obtain⟨hR,rfl,hE⟩:=hP;refine Zap<|mG<|Wa ?_;exact aI 33 (b+1,hR,D10) ⟨Yl,by simp only;rw[BU hI hbit hsel];exact hE⟩ Yl ⟨Ya,bQK⟩ rfl rfl ((by rw[BU hI hbit hsel];exact bQD _)) Yy
    ·refine Zu rfl U151 uN wT rfl (.cons rfl rfl .nil) fun b901 D901 hN V=>?_;have hAp:=V;refine Zap<|aV [(true,2)] rfl<|gG rfl rfl rfl (fun D7 Z=>s5 _ l _ (hl.up R2.up (Z _ Ye)) Yd) rfl bQK fun v6 D8 ν6 rA Y=>Zap<|lI [(true,7),(false,14)] rfl<|kZ hF Ye fun hap=>aR (A:=[]) (B:=[(_,_),(_,_)]) rfl U151 rfl rfl uN wT rfl OO rfl rfl rfl Y (iL.lit hAp) Ye rfl (vE l) Yk Yd (bLG fun p hp=>dN.in_ Yar) rfl bQK fun v7 ν7 hO=>?_;have ha7':bD 273 2 v7 (l.length+1) (HC (l++[((f:Int),(b:Int))])) ν7:=by rw[FP];simpa using hO
     refine zJ (A:=[]) (B:=[(_,_),(_,_)]) ha7' (fun k hk=>hk) fun rB hJ O=>?_;have hB:=O.prs Ye Yd;refine gH (A:=[]) (ν:=[(_,_),(_,_)]) (B:=[]) rfl rfl rfl rfl (bLL rfl) ND (fun D9 I=>ih k Yd (f+1) Yd (w|||2^b) (l++[((f:Int),(b:Int))]) v7 (RN y scs k f w l best many b).1 (RN y scs k f w l best many b).2 hH D9 (aAP hw hpb) (KW hp Yd Yd) Yaq (hB.up R2.up (I _ Ye)) (U.up R2.up (I _ Ye)) (hc.up xW.up (I _ Ye)) (hq.up R2.up (I _ Ye)) (hY.up (I _ Ye)) (hV.up (I _ Ye)) (hS.up WD.up (I _ Ye)) (hF.up (I _ Ye))) rfl bQK fun v9 D10 _ hD10 hP=>?_;obtain⟨hR,rfl,hE⟩:=hP;refine Zap<|mG<|Wa ?_;exact aI 33 (b+1,hR,D10) ⟨Yl,by simp only;rw[BU hI hbit hsel];exact hE⟩ Yl ⟨Ya,bQK⟩ rfl rfl ((by rw[BU hI hbit hsel];exact bQD _)) Yy
   ·have hsel:(!w.testBit b&&lV y f b)=false:=aDJ hx hz hK;refine Wbv ?_;exact aI 18 (b+1,hH,Dn) ⟨Yl,by simp only;rw[aNV hsel];exact U⟩ Yl ⟨Ya,bQK⟩ rfl rfl ((by rw[aNV hsel];exact bQD _)) fun D0 h=>by simp only[bNA,n4,bND]at h;rcases h with h|h;exact⟨Dn,Ye,h▸Le.refl _⟩;exact⟨D,Ye,h▸Le.refl _⟩
  ·simp only at hc3;refine Za8<|Za4<|Za4<|Za9 ?_;exact Q1 (A:=[]) (ν':=[_,_]) (B:=[]) (vs:=[]) rfl rfl rfl bQK rfl fun D' hD=>⟨hH,by rw[aCJ h1 hc3],by rw[aCJ h1 hc3];exact U.up R2.up (hD _ Ye)⟩
end L7
namespace L3
open L1
open C3
def sZ(ls:List eL)(out:List Int)(k:Nat):List eL:=(List.range k).filterMap fun i:Nat=>if out.any (fun x=>decide ((i:Int)=x))=true then none else ls[i]?
theorem GF(ls:List eL)(out:List Int)(k:Nat):(sZ ls out k).length≤k:=by
 unfold sZ;have:=List.length_filterMap_le (fun i:Nat=>if out.any (fun x=>decide ((i:Int)=x))=true then none else ls[i]?) (List.range k);rwa [bPD]at this
theorem aMT{ls:List eL}{out:List Int}{k:Nat}{x:eL}(hx:ls[k]?= some x)(h:(!out.any fun x=>decide ((k:Int)=x))=true):sZ ls out (k+1)=sZ ls out k++[x]:=by
 unfold sZ;rw[bMN,List.filterMap_append];have h':(out.any fun x=>decide ((k:Int)=x))=false:=by simpa using h
 simp only[List.filterMap_cons,List.filterMap_nil,h',bMU,bNU,hx]
theorem bBH{ls:List eL}{out:List Int}{k:Nat}(h:(!out.any fun x=>decide ((k:Int)=x))=false):sZ ls out (k+1)=sZ ls out k:=by
 unfold sZ;rw[bMN,List.filterMap_append];have h':(out.any fun x=>decide ((k:Int)=x))=true:=by simpa using h
 simp only[List.filterMap_cons,List.filterMap_nil,h',bNM,n5]
def aQH(out:List Int)(c:Cn):Cn:={c with after:=c.after-((out.filter fun i=>decide (i<c.after)).length:Int)}
def c8(b:bH)(out:List Int):bH:={b with lines:=sZ b.lines out b.lines.length,counts:=b.counts.map (aQH out)}
theorem aPF{out:List Int}{c:Cn}{i:Nat}{y:Int}(hy:out[i]?= some y)(h:y<c.after):(((out.take (i+1)).filter fun i=>decide (i<c.after)).length:Int)=((out.take i).filter fun i=>decide (i<c.after)).length+1:=by
 rw[bLA,hy,bLT,bMJ,GE,bNN,bLR Yax];simp
theorem aYA{out:List Int}{c:Cn}{i:Nat}{y:Int}(hy:out[i]?= some y)(h:¬y<c.after):((out.take (i+1)).filter fun i=>decide (i<c.after)).length=((out.take i).filter fun i=>decide (i<c.after)).length:=by
 rw[bLA,hy,bLT,bMJ,GE,bNN,bLI Yax];simp
theorem ZB(bv ov:Γ)(b:bH)(out:List Int)(D:aC)(hb:gK D bv b)(ho:Sl D RI 1 ov out)(hol:out.length≤100)(hl8:b.lines.length≤100)(hB:b.counts.length≤100)(hca:∀c∈b.counts,0≤c.after∧c.after≤100):Fn prog 140 #[bv,ov] D (fun D' v=>gK D' v (c8 b out)):=by
 obtain⟨lv,cv,rfl,hl,hc⟩:=hb;have hll:=hl.len;have hcl:=hc.len;refine Zx 69 func140 rfl fun h0=>aA<|Zab rfl fun q1 E1 hE1 O=>Zad rfl T8 rfl fun q2=>aL<|Zv rfl eT rfl O dU<|Zad rfl T8 rfl fun q3=>Zz rfl dU ζ (CX hl.cell1 hc.cell1)<|aL<|Zi rfl cS rfl<|Zr rfl eP ζ rfl<|Zi rfl jG rfl ?_;refine Zr rfl FZ ζ rfl<|bK<|Zi rfl cS rfl<|Zd 3 rfl fU rfl O rfl<|Zai rfl U33 rfl hl rfl<|Za rfl<|aF<|Za3<|Zc (Nat×Γ×aD) (fun g=>b.lines.length-g.1) (fun g=>g.1≤b.lines.length∧bD 206 3 g.2.1 (sZ b.lines out g.1).length (A0 (sZ b.lines out g.1)) g.2.2) (fun g=>[(19,qI (g.1:Int))]) [(18,_),(17,_),(5,_),(4,_),(2,_),(1,_)] (fun g=>g.2.2++[(q3,qC [qI b.chairs,qI b.coin,qI b.box,g.2.1,qN] 36),(q2,qC [qI 0,qI 0,qI 0,qN,qN] 36)]) (fun g=>[E1,D]) (0,qN,[]) ⟨Ye,by simpa [sZ,A0]using bD.nil⟩ ⟨Ya,bQK⟩ Mm5 ?_;rintro⟨k,v,ν⟩ ⟨h1,ha⟩;simp only at h1 ha;refine aA<|Zan rfl<|bS<|Zag rfl (fun hc1=>?_) fun hc1=>?_
 ·have hk:k<b.lines.length:=by simp only at hc1;omega
  obtain⟨x,hx⟩:=cB b.lines k;have hkl:=GF b.lines out k;refine aQ<|Za5<|Za3<|aA<|Za rfl<|Zw rfl U33 cF rfl hl rfl hx fun b1 o1 hE hF rA hH=>?_;obtain rfl:hE=[qI _,qI _,qI _]:=hF;refine Zv rfl lY rfl hH cF<|Zad rfl jM rfl fun q4=>Zk rfl<|Zy rfl cF ζ<|aL<|Za rfl<|Za rfl<|Zf rfl (fun D1 hI=>L7.J4 _ out (k:Int) _ (ho.up RI.up (hI _ Ye)))<|Zau rfl<|aF<|Zaf rfl (fun hc2=>?_) fun hc2=>?_
  ·have hc2:=hc2;refine aP<|Zi rfl cS rfl<|Zp rfl fU rfl (List.Mem.tail _ (LE _ Mm0)) rfl<|Zae rfl lY rfl Mm0 cF<|Zu rfl U33 cF jM rfl (.cons rfl rfl .nil) fun rB D901 hJ R=>aR (A:=[(_,_)]) (B:=[(_,_),(_,_)]) rfl U33 rfl rfl cF jM rfl O9 rfl rfl rfl ha (iL.lit R) Ye rfl (DL _) Yk Yd (bLL rfl) rfl bQK fun v1 ν1 U=>?_;have ha2x:bD 206 3 v1 (sZ b.lines out (k+1)).length (A0 (sZ b.lines out (k+1))) ν1:=by rw[aMT hx hc2,GE];unfold A0;rw[bLN];exact U
   refine Zi rfl cS rfl<|aU (((q4,_)::ν1)++(q3,_)::[(q2,_)]) rfl<|bP rfl rfl rfl U.cells1 eP (.app .head) Ye rfl U.cell1 bQK<|Zap<|Wd ?_;exact aI 19 (k+1,v1,ν1) ⟨Yl,ha2x⟩ Yl ⟨Ya,bQK⟩ rfl rfl (List.Sublist.cons _ Mm5) fun D h=>⟨D,bLP _ (h),Le.refl D⟩
  ·refine Wcf ?_;exact aI 13 (k+1,v,ν) ⟨Yl,by simp only;rw[bBH hc2];exact ha⟩ Yl ⟨Ya,bQK⟩ rfl rfl (List.Sublist.cons _ Mm5) (aK)
 ·obtain rfl:k=b.lines.length:=by simp only at hc1;omega
  have hkl:=GF b.lines out b.lines.length;refine Za8<|Za4<|Za4<|Za9<|Za1<|Za5<|Za5<|rF (A:=[]) (B:=[(_,_),(_,_)]) ha rfl fun D8 hD8 hK=>?_;have hl8v:=hK.lins Ye Yd;refine aP<|Zi rfl jG rfl<|Zd 4 rfl tD rfl O rfl<|Zai rfl U34 rfl hc rfl<|Za rfl<|aF<|Za3<|Zc (Nat×Γ×aD) (fun g=>b.counts.length-g.1) (fun g=>g.1≤b.counts.length∧bD 208 3 g.2.1 g.1 (bBP ((b.counts.take g.1).map (aQH out))) g.2.2) (fun g=>[(38,qI (g.1:Int))]) [(37,_),(36,_),(5,_),(4,_),(1,_)] (fun g=>g.2.2++[(q3,qC [qI b.chairs,qI b.coin,qI b.box,v,g.2.1] 36),(q2,qC [qI 0,qI 0,qI 0,qN,qN] 36)]) (fun g=>[D8,E1,D]) (0,qN,[]) ⟨Ye,by simpa [bBP]using bD.nil⟩ ⟨Ya,bQK⟩ Mm5 ?_;rintro⟨j,u,ω⟩ ⟨h2,I⟩;simp only at h2 I;refine aA<|Zan rfl<|bS<|Zag rfl (fun hc3=>?_) fun hc3=>?_
  ·have hj:j<b.counts.length:=by simp only at hc3;omega
   obtain⟨c,hx⟩:∃x,b.counts[j]?= some x:=⟨_,bLB hj⟩
   have hcb:=hca c (GT hx);refine aQ<|Za5<|Za3<|aA<|Zw rfl U34 lE rfl hc rfl hx fun b2 o2 hN hO hcl2 hP=>?_;obtain rfl:hN=[qI _,qI _,qI _]:=hO;refine Zv rfl i7 rfl hP lE<|Zad rfl sL rfl fun q5=>Zy rfl lE ζ<|aL<|Zk rfl<|bK<|Za rfl<|Zai rfl U25 rfl ho rfl<|Za rfl<|aF<|Za3<|dW (γ:=Nat) (fun i=>out.length-i) (fun i=>i≤out.length) (fun i=>[(44,qI (i:Int)),(10,qI (((out.take i).filter fun i=>decide (i<c.after)).length:Int))]) [(43,_),(42,_),(9,_),(41,_),(40,_),(39,_),(38,_),(37,_),(36,_),(5,_),(4,_),(1,_)] (fun i=>[D8,E1,D]) 0 Yd ⟨Ya,Ya,bQK⟩ cR (aK) ?_;rintro i h3;refine aA<|Zan rfl<|bS<|Zag rfl (fun hB=>?_) fun hB=>?_
   ·have hi:i<out.length:=by omega
    obtain⟨y,hy⟩:=cB out i;have hgl:=bMO (fun i=>decide (i<c.after)) (out.take i);have hgt:(out.take i).length≤i:=bOB _ _;refine aQ<|Za5<|Za3<|aA<|iN rfl ho rfl hy fun b3 o3=>Zk rfl<|aL<|Za rfl<|Zi rfl P4 rfl<|Zp rfl aH rfl Mm0 rfl<|Zan rfl<|aF ?_;refine Zag rfl (fun V=>?_) fun V=>?_
    ·refine aP<|Za rfl<|Zah rfl<|Was ?_;exact aI 15 (i+1) Yd Yd ⟨Ya,(by rw[aPF hy V];rfl),bQK⟩ rfl rfl Mm5 (aK)
    ·refine Wcf ?_;exact aI 12 (i+1) Yd Yd ⟨Ya,(by rw[aYA hy V];rfl),bQK⟩ rfl rfl Mm5 (aK)
   ·obtain rfl:i=out.length:=by omega
    rw[bLU];have hgl:=bMO (fun i=>decide (i<c.after)) out;refine Za8<|Za4<|Za4<|Za9<|Za1<|aP<|Zi rfl jG rfl<|Zp rfl tD rfl (List.Mem.tail _ (LE _ Mm0)) rfl<|Zi rfl P4 rfl<|Zp rfl aH rfl Mm0 rfl<|Za rfl<|Zaz rfl ?_;refine Zi rfl p4 rfl<|eD rfl mZ eC rfl Mm0 rfl rfl n4 rfl bQK<|Zt [qI (c.after-((out.filter fun i=>decide (i<c.after)).length:Int)),qI c.lo,qI c.hi] rfl MM sL rfl<|Zu rfl U34 lE sL rfl (.cons rfl rfl .nil) fun b902 D902 hR Y=>aR (A:=[(_,_)]) (B:=[(_,_),(_,_)]) rfl U34 rfl rfl lE sL rfl NS rfl rfl rfl I (iL.lit Y) Ye rfl (by rw[bCM];simp;omega) Yk Yd (bLL rfl) rfl bQK fun v2 ν2 Z=>?_
    have hS:bD 208 3 v2 (j+1) (bBP ((b.counts.take (j+1)).map (aQH out))) ν2:=by rw[bLA,hx,bLT,bLO];unfold bBP;rw[bLN];exact Z
    refine Zi rfl jG rfl<|aU (((q5,_)::ν2)++(q3,_)::[(q2,_)]) rfl<|bP rfl rfl rfl Z.cells1 FZ (.app .head) Ye rfl Z.cell1 bQK<|Zap<|Wd ?_;exact aI 24 (j+1,v2,ν2) ⟨Yl,hS⟩ Yl ⟨Ya,bQK⟩ rfl rfl (List.Sublist.cons _ Mm5) fun D h=>⟨D,bLP _ (h),Le.refl D⟩
  ·obtain rfl:j=b.counts.length:=by simp only at hc3;omega
   rw[bLU]at I;refine Za8<|Za4<|Za4<|Za9<|Za1<|aA<|Zae rfl eT rfl (LE _ Mm0) dU<|Zz rfl dU (.app (.tail ζ)) (CX ha.cell1 I.cell1)<|aG<|Zar [] [(_,_),(_,_)] I rfl fun D9 hX hY=>?_;have hc9v:=hY.cns Ye Yd;exact Zo [_] rfl ⟨⟨_,_,_,rfl,bLP _ Mm0,bLG ⟨eT,dU,rfl⟩⟩,bQK⟩ fun D hD=>⟨v,u,rfl,(hl8v.up oE.up ((hX _ Ye).trans (hD _ Ye))),hc9v.up tC.up (hD _ Ye)⟩
def Z7(f:Nat→List Int→Bool×List Int):List Nat→List Int→Bool×List Int
 | [],fnd=>(false,fnd)
 |i::is,fnd=>if(f i fnd).1=true then(true,(f i fnd).2)else Z7 f is (f i fnd).2
theorem H8{f:Nat→List Int→Bool×List Int}{n i:Nat}{fnd:List Int}(hge:i<n)(h:(f i fnd).1=true):Z7 f (List.range' i (n-i)) fnd=(true,(f i fnd).2):=by
 rw[show n-i=(n-i-1)+1 by omega,List.range'_succ,Z7,bLR h]
theorem OY{f:Nat→List Int→Bool×List Int}{n i:Nat}{fnd:List Int}(hge:i<n)(h:(f i fnd).1=false):Z7 f (List.range' i (n-i)) fnd=Z7 f (List.range' (i+1) (n-(i+1))) (f i fnd).2:=by
 conv=>lhs;rw[show n-i=(n-(i+1))+1 by omega,List.range'_succ,Z7,bLI Xaf]
theorem DK{f:Nat→List Int→Bool×List Int}{n i:Nat}{fnd:List Int}(hge:¬i<n):Z7 f (List.range' i (n-i)) fnd=(false,fnd):=by
 rw[show n-i=0 by omega];rfl
theorem aUH{b t:Nat}{cs:List Γ}:∀p∈[(b,Obj.cells cs.toArray t (0,0))],dC p.2:=by
 intro p hp;simp only[bLS]at hp;subst hp;rfl
theorem aTZ{ls:List eL}{out:List Int}{k:Nat}{l:eL}(h:l∈sZ ls out k):l∈ls:=by
 unfold sZ at h;obtain⟨i,_,hi⟩:=List.mem_filterMap.1 h;split at hi
 ·cases hi
 ·exact GT hi
theorem SM{b:bH}(h:aLN b)(out:List Int):aLN (c8 b out):=
 ⟨h.ch,h.co,h.bx,by have:=GF b.lines out b.lines.length;have:=h.l8;show(sZ b.lines out b.lines.length).length≤8;omega,by have:=h.c4;show(b.counts.map _).length≤4;rwa [bMK],fun l hl=>h.ln l (aTZ hl)⟩
theorem aJS{b:bH}(h:bB b=0):∀c∈b.counts,0≤c.after∧c.after≤100:=by
 have hl:=(bJT h).l8;unfold bB at h;split at h
 ·omega
 ·split at h
  ·omega
  ·rename_i h2;have h3:tK b=true:=by simpa using h2
   unfold tK at h3;simp only[bKW,C1.bT,bLX]at h3;intro c hc;have h4:=h3.2 c hc;unfold sX at h4;simp only[bKW,C1.bT]at h4;omega
def aVQ(b:bH):Nat→Nat→List Int→List Int→Bool×List Int
 |0,_,out,_=>(decide (truths (c8 b out)≠[]),out)
 |m+1,f,out,fnd=>Z7 (fun i fnd=>aVQ b m (i+1) (out++[(i:Int)]) fnd) (List.range' f (b.lines.length-m-f)) fnd
def bJY(b:bH):Bool×List Int:=Z7 (fun m fnd=>aVQ b m 0 [] fnd) (List.range' 0 (b.lines.length+1-0)) []
def fF(b:bH):List Int×Int:=if bB b≠0 then([],bB b)else if(bJY b).1=true then((bJY b).2,0)else([],10)
theorem aBD{b:bH}{D:aC}(h:bB b≠0):∃lv,Value.tuple #[qN,qI (bB b)]=.tuple #[lv,qI (fF b).2]∧Sl D RI 1 lv (fF b).1:=by
 rw[fF,bLR h];exact⟨_,rfl,Sl.nil⟩
theorem aIC{b:bH}{D:aC}{lv:Γ}{l:List Int}(h:bB b=0)(hl:Z7 (fun m fnd=>aVQ b m 0 [] fnd) (List.range' 0 (b.lines.length+1-0)) []=(true,l))(hS:Sl D RI 1 lv l):∃lv',Value.tuple #[lv,qI 0]=.tuple #[lv',qI (fF b).2]∧Sl D RI 1 lv' (fF b).1:=by
 have e:bJY b=(true,l):=hl;rw[fF,bLI Yd,e];exact⟨_,rfl,hS⟩
theorem aJU{b:bH}{D:aC}{l:List Int}(h:bB b=0)(hl:Z7 (fun m fnd=>aVQ b m 0 [] fnd) (List.range' 0 (b.lines.length+1-0)) []=(false,l)):∃lv',Value.tuple #[qN,qI 10]=.tuple #[lv',qI (fF b).2]∧Sl D RI 1 lv' (fF b).1:=by
 have e:bJY b=(false,l):=hl;rw[fF,bLI Yd,e];exact⟨_,rfl,Sl.nil⟩
theorem bGN{b:bH}{lv cv:Γ}{bf bY bF:Nat}(hbo:aLN b)(hca:∀c∈b.counts,0≤c.after∧c.after≤100):
  ∀(mm f:Nat) (out:List Int) (ov:Γ) (fnd:List Int) (fv:Γ) (D:aC),out.length+mm≤10→Sl D RI 1 ov out→Sl D RI 1 fv fnd→gK D (.agg #[qI b.chairs,qI b.coin,qI b.box,lv,cv]) b→At D bY 0 [qI b.chairs,qI b.coin,qI b.box,lv,cv]→At D bF 0 [.func (.func 139) #[] #[qP bf,qP bY,qP bF]]→
  HA prog 139 [ov,qI (f:Int),qI (mm:Int),qP bf,qP bY,qP bF] D [(bf,qC [fv] 25)] (fun D' v ν'=>v=.bool (aVQ b mm f out fnd).1∧∃fv',ν'=[(bf,qC [fv'] 25)]∧Sl D' RI 1 fv' (aVQ b mm f out fnd).2):=by
 intro mm;induction mm using Nat.strongRecOn with
 |_ mm ih=>
 intro f out ov fnd fv D hlen ho hfd hb hY hF;have hl8:=hbo.l8;have hc4:=hbo.c4;obtain⟨lv0,cv0,he,hl,hc⟩:=id hb;cases he;refine jR 39 func139 rfl rfl rfl rfl fun h0 hwl hwn=>aA<|Zk rfl<|bK<|Za rfl<|Zaw rfl<|aF<|Zag rfl (fun hc1=>?_) fun hc1=>?_
 ·obtain rfl:mm=0:=by omega
  refine aA<|Za rfl<|bP rfl rfl rfl ho.cells1 fR .head Ye rfl ho.cell1 bQK<|aL<|Zv rfl eT rfl hY dU<|Za rfl<|Zaa rfl (fun D1 hB=>ZB _ _ b out _ (hb.up (hB _ Ye)) (ho.up RI.up (hB _ Ye)) Yd Yd Yd hca) fun v1 D1 hB rA=>Zf rfl (fun D2 rB=>AR _ (c8 b out) _ (rA.up (rB _ Ye)) (SM hbo out))<|Wi ?_;exact Zaj [] [] [_] [_] rfl ⟨rfl,bQK⟩ rfl fun D' hD=>⟨rfl,ov,rfl,ho.up RI.up (hD _ Ye)⟩
 ·obtain⟨m,rfl⟩:∃k,mm=k+1:=⟨mm-1,Yd⟩
  refine aQ<|bM<|Za rfl<|Zk rfl<|aF<|Za3<|hU (γ:=Nat×List Int×Γ×aC) (fun g=>b.lines.length+1-g.1) (fun g=>f≤g.1∧aVQ b (m+1) f out fnd=Z7 (fun i fnd=>aVQ b m (i+1) (out++[(i:Int)]) fnd) (List.range' g.1 (b.lines.length-m-g.1)) g.2.1∧Sl g.2.2.2 RI 1 g.2.2.1 g.2.1) (fun g=>[(10,qI (g.1:Int))]) [(9,_),(0,_),(2,_),(4,_),(5,_)] (fun g=>[(bf,qC [g.2.2.1] 25)]) (fun g=>[g.2.2.2,D]) (f,fnd,fv,D) ⟨Ye,rfl,hfd⟩ ⟨Ya,bQK⟩ cR Mm5 ((fun D0 h=>by simp only[bNA,n4,bND,or_self]at h;exact⟨D,Ye,h▸Le.refl _⟩)) ?_;rintro⟨i,Z,hE,Dn⟩ ⟨h1,hin,Y⟩;simp only at h1 hin Y;refine bM<|Za rfl<|Zi rfl cS rfl<|Zd 3 rfl fU rfl hY rfl<|Zai rfl U33 rfl hl rfl<|Za rfl<|Zaz rfl<|iD rfl rfl rfl rfl bQK<|aF<|Zag rfl (fun hc2=>?_) fun hc2=>?_
  ·simp only at hc2;have hge:i<b.lines.length-m:=by omega
   refine aQ<|Za5<|Za3<|Za5<|mT (dN.mk [bF]) 3 [false,true,true,true,true,true,true,true,true,true,false] [.fork [0,1,3,6,7,8,9] 2 (.fin [4]) 4 (.fin [2]),.fin [5,10]] bC (fun _ _ _ h=>kK (P:=prog) (fn:=f139) _ _ _ h) Yg<|qT<|bQ [(false,0),(true,1),(true,3),(true,6),(true,7),(true,8),(true,9)] rfl<|dZ rfl (k:=0) aEY rfl hF Ye rfl (dN.out Ye) rfl bQK<|Za rfl<|Za rfl<|Za rfl<|Zah rfl ?_;refine Za rfl<|Zaz rfl ?_;rw[show(((m+1:Nat):Int)-1)=(m:Int) by omega];refine Zap (dV true true rfl rfl ?_ ?_)
   ·refine gG rfl rfl rfl (fun D7 hH=>L7.zK _ out _ (ho.up RI.up (hH _ Ye)) Yd) rfl bQK fun v6 D8 ν6 hD8 hI=>Zap<|aV [(true,4)] rfl<|Zu rfl U25 aJ cK rfl (.cons rfl rfl .nil) fun hP hR hJ O=>?_;have hAp:=O;refine Zap<|lI [(true,5),(false,10)] rfl<|kZ hF Ye fun hap=>aR (A:=[]) (B:=[(_,_)]) rfl U25 rfl rfl aJ cK rfl kE rfl rfl rfl hI (iL.lit hAp) Ye rfl Ye Yk Yd (bLG fun p hp=>dN.in_ Yar) rfl bQK fun v7 ν7 hK=>?_;have ha7':bD 3 1 v7 (out.length+1) (ints (out++[(i:Int)])) ν7:=by simpa [ints]using hK
    refine zJ (A:=[]) (B:=[(_,_)]) ha7' (fun k hk=>hk) fun D20 hS R=>?_;have hN:=R.ints Ye Yd;refine gH (A:=[]) (ν:=[(_,_)]) (B:=[]) rfl rfl rfl rfl (bLL rfl) aUH (fun D9 I=>ih m Yd (i+1) (out++[(i:Int)]) v7 Z hE _ Yaq (hN.up RI.up (I _ Ye)) (Y.up RI.up (I _ Ye)) (hb.up (I _ Ye)) (hY.up (I _ Ye)) (hF.up (I _ Ye))) rfl bQK fun v9 D10 _ hX hO=>?_;obtain⟨rfl,U,rfl,V⟩:=hO;refine Zap<|mG<|Za1<|Zaf rfl (fun hc3=>?_) fun hc3=>?_
    ·refine aA<|Wg ?_;exact Zaj [] [] [_] [_] rfl ⟨rfl,bQK⟩ rfl fun D' hD=>⟨by rw[hin,H8 hge hc3];rfl,U,rfl,by rw[hin,H8 hge hc3];exact V.up RI.up (hD _ Ye)⟩
    ·refine Wbv ?_;exact aI 22 (i+1,_,U,D10) ⟨Yl,by simp only;rw[hin,OY hge hc3],V⟩ Yl ⟨Ya,bQK⟩ rfl rfl Mm5 Yy
   ·refine Zu rfl U25 aJ cK rfl (.cons rfl rfl .nil) fun hP hR hJ O=>?_;have hAp:=O;refine Zap<|aV [(true,2)] rfl<|gG rfl rfl rfl (fun D7 hH=>L7.zK _ out _ (ho.up RI.up (hH _ Ye)) Yd) rfl bQK fun v6 D8 ν6 hD8 hI=>Zap<|lI [(true,5),(false,10)] rfl<|kZ hF Ye fun hap=>aR (A:=[]) (B:=[(_,_)]) rfl U25 rfl rfl aJ cK rfl kE rfl rfl rfl hI (iL.lit hAp) Ye rfl Ye Yk Yd (bLG fun p hp=>dN.in_ Yar) rfl bQK fun v7 ν7 hK=>?_;have ha7':bD 3 1 v7 (out.length+1) (ints (out++[(i:Int)])) ν7:=by simpa [ints]using hK
    refine zJ (A:=[]) (B:=[(_,_)]) ha7' (fun k hk=>hk) fun D20 hS R=>?_;have hN:=R.ints Ye Yd;refine gH (A:=[]) (ν:=[(_,_)]) (B:=[]) rfl rfl rfl rfl (bLL rfl) aUH (fun D9 I=>ih m Yd (i+1) (out++[(i:Int)]) v7 Z hE _ Yaq (hN.up RI.up (I _ Ye)) (Y.up RI.up (I _ Ye)) (hb.up (I _ Ye)) (hY.up (I _ Ye)) (hF.up (I _ Ye))) rfl bQK fun v9 D10 _ hX hO=>?_;obtain⟨rfl,U,rfl,V⟩:=hO;refine Zap<|mG<|Za1<|Zaf rfl (fun hc3=>?_) fun hc3=>?_
    ·refine aA<|Wg ?_;exact Zaj [] [] [_] [_] rfl ⟨rfl,bQK⟩ rfl fun D' hD=>⟨by rw[hin,H8 hge hc3];rfl,U,rfl,by rw[hin,H8 hge hc3];exact V.up RI.up (hD _ Ye)⟩
    ·refine Wbv ?_;exact aI 22 (i+1,_,U,D10) ⟨Yl,by simp only;rw[hin,OY hge hc3],V⟩ Yl ⟨Ya,bQK⟩ rfl rfl Mm5 Yy
  ·simp only at hc2;have hge:¬i<b.lines.length-m:=by omega
   refine Wj ?_;exact Zaj [] [] [_] [_] rfl ⟨rfl,bQK⟩ rfl fun D' hD=>⟨by rw[hin,DK hge];rfl,hE,rfl,by rw[hin,DK hge];exact Y.up RI.up (hD _ Ye)⟩
theorem aTD(bv:Γ)(b:bH)(D:aC)(hb:gK D bv b):Fn prog 69 #[bv] D (fun D' v=>∃lv,v=.tuple #[lv,qI (fF b).2]∧Sl D' RI 1 lv (fF b).1):=by
 have Y:=hb;obtain⟨lv,cv,rfl,hl,hc⟩:=hb;have hll:=hl.len;refine Zx 30 func69 rfl fun h0=>aA<|Zab rfl fun q1 E1 hN U=>Zk rfl<|Zk rfl<|aF<|aDO<|bM<|Zv rfl eT rfl U dU<|Zf rfl (fun D1 hE=>B4 _ b _ (Y.up (hE _ Ye)))<|Zk rfl<|aL ?_;refine Za rfl<|Zax rfl<|aF<|Zag rfl (fun hc1=>?_) fun hc1=>?_
 ·refine aA<|Za rfl<|Zk rfl<|Zk rfl<|aG<|Za2<|V7 ?_;exact lU (vs:=[_,_]) rfl rfl rfl cR fun D hD=>aBD hc1
 ·have O:bB b=0:=by omega
  have hbo:=bJT O;have hO:=hbo.l8;have hca:=aJS O;refine aQ<|aA<|Zad rfl vX rfl fun q2=>aL<|Zad rfl bDG rfl fun q3=>aL<|Za0 rfl<|Zr rfl bAK ζ rfl<|aL<|Zk rfl<|bS<|MI ?_;refine Za1<|Za5<|Za5<|H6 (A:=[]) (b:=q3) (cells:=[.func (.func 139) #[] #[qP q2,qP q1,qP q3]]) rfl fun I hJ hF=>aP<|Zi rfl cS rfl<|Zd 3 rfl fU rfl U rfl<|Zai rfl U33 rfl hl rfl<|Zah rfl<|Za rfl<|aF<|Za3 ?_;refine hU (γ:=Nat×List Int×Γ×aC) (fun g=>b.lines.length+1-g.1) (fun g=>g.1≤b.lines.length+1∧Z7 (fun m fnd=>aVQ b m 0 [] fnd) (List.range' 0 (b.lines.length+1-0)) []=Z7 (fun m fnd=>aVQ b m 0 [] fnd) (List.range' g.1 (b.lines.length+1-g.1)) g.2.1∧Sl g.2.2.2 RI 1 g.2.2.1 g.2.1) (fun g=>[(19,qI (g.1:Int)),(7,.bool false)]) [(18,_),(6,_),(5,_),(3,_),(2,_)] (fun g=>[(q2,qC [g.2.2.1] 25)]) (fun g=>[g.2.2.2,I,E1,D]) (0,[],qN,I) ⟨Ye,rfl,Sl.nil⟩ ⟨Ya,Ya,bQK⟩ cR Mm5 ((fun D0 h=>by simp only[bNA,n4,bND]at h;rcases h with h|h|h|h;exact⟨I,Ye,h▸Le.refl _⟩;exact⟨I,Ye,h▸Le.refl _⟩;exact⟨E1,Ye,h▸Le.refl _⟩;exact⟨D,Ye,h▸Le.refl _⟩)) ?_
  rintro⟨m,fnd,fv,Dn⟩ ⟨h1,hin,hfd⟩;simp only at h1 hin hfd;refine aA<|Zan rfl<|bS<|Zag rfl (fun hc2=>?_) fun hc2=>?_
  ·simp only at hc2;have hm:m<b.lines.length+1:=by omega
   refine aQ<|Za5<|Za3<|aA<|Za rfl<|Zk rfl<|aL<|Zd 0 rfl aEY rfl hF rfl<|Za rfl<|gH (A:=[]) (ν:=[(_,_)]) (B:=[]) rfl rfl rfl rfl (bLL rfl) aUH (fun D9 R=>bGN hbo hca m 0 [] (qN) fnd fv _ Yaq Sl.nil (hfd.up RI.up (R _ Ye)) (Y.up (R _ Ye)) (U.up (R _ Ye)) (hF.up (R _ Ye))) rfl bQK fun v9 D10 _ hK hH=>?_;obtain⟨rfl,hI,rfl,Z⟩:=hH;refine Zk rfl<|aL<|Za rfl<|aF<|Zaf rfl (fun hc3=>?_) fun hc3=>?_
   ·refine Za8<|xD rfl<|Za4<|Za4<|Za9<|Za1<|bM<|Za rfl<|Zau rfl<|aF<|Zaf rfl (fun V=>?_) (fun V=>?_)
    ·rw[hc3]at V;cases V
    ·refine aQ<|aA<|Zp rfl bX rfl Mm0 rfl<|Zk rfl<|Zk rfl<|aG<|V7 ?_;exact lU (vs:=[_,_]) rfl rfl rfl cR fun D hD=>aIC O (by rw[hin,H8 hm hc3]) (Z.up RI.up (hD _ Ye))
   ·refine Wcf ?_;exact aI 12 (m+1,_,hI,D10) ⟨Yl,by simp only;rw[hin,OY hm hc3],Z⟩ Yl ⟨Ya,(by show some (Value.bool _)=some (Value.bool false);rw[hc3]),bQK⟩ rfl rfl Mm5 fun D0 h=>by simp only[bNA,n4,bND]at h;rcases h with h|h|h|h;exact⟨D10,Ye,h▸Le.refl _⟩;exact⟨I,Ye,h▸Le.refl _⟩;exact⟨E1,Ye,h▸Le.refl _⟩;exact⟨D,Ye,h▸Le.refl _⟩
  ·simp only at hc2;have hm:¬m<b.lines.length+1:=by omega
   refine Za8<|Za4<|Za4<|Za9<|Za1<|bM<|Za rfl<|Zau rfl<|aF<|Zaf rfl (fun hB=>?_) fun hB=>?_
   ·refine aA<|Zk rfl<|Zk rfl<|aG<|Za2<|V7 ?_;exact lU (vs:=[_,_]) rfl rfl rfl cR fun D hD=>aJU O (by rw[hin,DK hm])
   ·cases hB
end L3
namespace L7
open C7
theorem SE{y:aZ}{out:List Int}:∀(ts:List (List Pt)) (acc:List (Sc×Nat)),(∀p∈acc,p.2=wE y.chairs.length p.1)→∀p,p∈ts.foldl (tS y out) acc ↔ p∈acc∨∃t∈ts,oI y.claims out (C5 y t:Int)=true∧p=(dO y t,C5 y t)
 | [],acc,_,p=>by simp
 |t::ts,acc,h,p=>by
  rw[bME];have h':∀p∈tS y out acc t,p.2=wE y.chairs.length p.1:=fun p hp=>by
   unfold tS at hp;split at hp
   ·rcases bLM.1 hp with hp|hp
    ·exact h p hp
    ·simp only[bLS]at hp;subst hp;rfl
   ·exact h p hp
  rw[SE ts _ h' p];have key:p∈tS y out acc t ↔ p∈acc∨(oI y.claims out (C5 y t:Int)=true∧p=(dO y t,C5 y t)):=by
   unfold tS;split
   ·rename_i hc;rw[bKW]at hc;rw[bLM,bLS];exact⟨fun h=>h.imp id fun e=>⟨hc.1,e⟩,fun h=>h.imp id fun e=>e.2⟩
   ·rename_i hc;refine⟨bLL,fun h3=>?_⟩;rcases h3 with h3|⟨hr,rfl⟩
    ·exact h3
    ·have hr':oI y.claims out (wE y.chairs.length (dO y t):Int)=true:=hr;rw[hr',bPE,Bool.not_eq_true,bMG,bLC,bPA,bPX]at hc;obtain⟨hc1,hc2⟩:=hc;have hne:acc≠[]:=fun e=>hc1 Xak
     unfold m8 at hc2;rw[bOO hne]at hc2;have h4:=aZB hc2;have h5:=h _ (List.getLast_mem hne);have:acc.getLast hne=(dO y t,C5 y t):=Prod.ext h4 (by rw[h5,h4];rfl)
     rw[←this];exact List.getLast_mem hne
  rw[key];constructor
  ·rintro((h1|h1)|⟨s,h1,h2⟩)
   ·exact bLL h1
   ·exact bLG ⟨t,bKZ,h1⟩
   ·exact bLG ⟨s,bKY _ h1,h2⟩
  ·rintro(h1|⟨s,h1,h2⟩)
   ·exact bLL (bLL h1)
   ·rcases bNA.1 h1 with rfl|h1
    ·exact bLL (bLG h2)
    ·exact bLG ⟨s,h1,h2⟩
theorem vC{y:aZ}{out:List Int}{p:Sc×Nat}:p∈dJ y out ↔∃t,eJ y t=true∧oI y.claims out (C5 y t:Int)=true∧p=(dO y t,C5 y t):=by
 unfold dJ;rw[SE _ _ Ye];simp only[n4,false_or,SW]
theorem aMA{y:aZ}(h:bDM y)(out:List Int):∀s∈(dJ y out).map fun p=>p.1,RG y.chairs.length s:=fun s hs=>by
 obtain⟨p,hp,rfl⟩:=bKX.1 hs;obtain⟨t,ht,_,rfl⟩:=vC.1 hp;obtain⟨hl,_⟩:=aEI ht;have:=h.len;exact N6 hl Yd
def qX(y:aZ):List (Int×Int)×Int×Int:=if bB y≠0 then([],0,bB y)else if dJ y []=[]then([],0,11)else
 (((VG y y.chairs.length 0 0 []).foldl (aER ((dJ y []).map fun p=>p.1)) ([], -1)).1,((VG y y.chairs.length 0 0 []).foldl (aER ((dJ y []).map fun p=>p.1)) ([], -1)).2,0)
theorem aKG{y:aZ}{D:aC}(h:bB y≠0):∃lv,Value.tuple #[qN,qI 0,qI (bB y)]=.tuple #[lv,qI (qX y).2.1,qI (qX y).2.2]∧Sl D R2 2 lv (qX y).1:=by
 rw[qX,bLR h];exact⟨_,rfl,Sl.nil⟩
theorem aKA{y:aZ}{D:aC}(h:bB y=0)(hn:dJ y []=[]):∃lv,Value.tuple #[qN,qI 0,qI 11]=.tuple #[lv,qI (qX y).2.1,qI (qX y).2.2]∧Sl D R2 2 lv (qX y).1:=by
 rw[qX,bLI Yd,bLR hn];exact⟨_,rfl,Sl.nil⟩
theorem aUF{y:aZ}{D:aC}{lv:Γ}(h:bB y=0)(hn:((dJ y []).map fun p=>p.1)≠[])(hS:Sl D R2 2 lv ((VG y y.chairs.length 0 0 []).foldl (aER ((dJ y []).map fun p=>p.1)) ([], -1)).1):∃lv',Value.tuple #[lv,qI ((VG y y.chairs.length 0 0 []).foldl (aER ((dJ y []).map fun p=>p.1)) ([], -1)).2,qI 0]=.tuple #[lv',qI (qX y).2.1,qI (qX y).2.2]∧Sl D R2 2 lv' (qX y).1:=by
 rw[qX,bLI Yd,bLI (fun e=>hn Xak)];exact⟨_,rfl,hS⟩
theorem aDI(yv:Γ)(y:aZ)(D:aC)(hy:gU D yv y):Fn prog 71 #[yv] D (fun D' v=>∃lv,v=.tuple #[lv,qI (qX y).2.1,qI (qX y).2.2]∧Sl D' R2 2 lv (qX y).1):=by
 have Z:=hy;obtain⟨cv,qv,rfl,hc,hq⟩:=hy;refine Zx 30 func71 rfl fun h0=>aA<|Zab rfl fun q1 E1 hO R=>Zad rfl aZJ rfl fun q2=>Zad rfl cK rfl fun q3=>Zk rfl<|bK<|Zv rfl kP rfl R jA<|Zf rfl (fun D1 hB=>zU _ y _ (Z.up (hB _ Ye)))<|Zk rfl<|aL<|Za rfl ?_;refine Zax rfl<|aF<|Zag rfl (fun hc1=>?_) fun hc1=>?_
 ·refine aA<|Za rfl<|Zr rfl BX (.tail ζ) rfl<|Zr rfl aJ ζ rfl<|Wi ?_;exact Zo [_,_,_] rfl ⟨⟨_,_,_,rfl,Mm1,Or.inl ⟨BW,rfl⟩⟩,⟨_,_,_,rfl,Mm0,Or.inl ⟨aH,rfl⟩⟩,rfl,bQK⟩ fun D hD=>aKG hc1
 ·have U:bB y=0:=by omega
  have hyo:=bJE U;have hE:=hyo.len;refine aQ<|aA<|Zv rfl kP rfl R jA<|gG (μ:=_) rfl rfl rfl (fun D5 hP=>CK _ y _ _ D5 rfl) rfl bQK fun v5 D6 _ hR hp5=>?_;obtain⟨wb,mb,rfl,rfl⟩:=hp5;refine Zk rfl<|aL<|Za rfl<|aU ([]++[(_,_),(_,_)]++([(_,_),(_,_)])) rfl<|gH (A:=[]) (ν:=[(_,_),(_,_)]) (B:=[(_,_),(_,_)]) rfl rfl rfl rfl (bLL rfl) (LG (cs:=[_,_,_,_])) (fun D7 V=>KV wb mb _ _ y [] _ hE hyo.fit hyo.size #[] 0 [] _ (hc.up xW.up (V _ Ye)) (hq.up R2.up (V _ Ye)) Sl.nil rfl HR.nil) rfl bQK fun v7 D8 _ hS hH=>?_;obtain⟨sv,mv,rfl,hsv,hmv,hX,hY,M1,rfl,rA,hI⟩:=hH;refine Za rfl<|Zaq rfl<|Zaq rfl<|Zad rfl aEL rfl fun q4=>bP rfl rfl rfl hsv.cells1 a7 .head Ye rfl hsv.cell1 bQK<|Zk rfl<|bS<|Za5<|H6 (A:=[]) (b:=q4) (cells:=[sv]) rfl fun rB hJ hV=>aP<|Zd 0 rfl wJ rfl hV rfl<|Zai rfl U170 rfl hsv rfl ?_;refine Zaw rfl<|aF<|Zag rfl (fun hc2=>?_) fun hc2=>?_
  ·have hnil:dJ y []=[]:=by simpa using hc2
   refine aA<|Zr rfl BX (.tail (.tail (.tail ζ))) rfl<|Zr rfl aJ (.tail (.tail ζ)) rfl<|Wi ?_;exact Zo [_,_,_] rfl ⟨⟨_,_,_,rfl,Mm3,Or.inl ⟨BW,rfl⟩⟩,⟨_,_,_,rfl,Mm2,Or.inl ⟨aH,rfl⟩⟩,rfl,bQK⟩ fun D hD=>aKA U hnil
  ·have hne:((dJ y []).map fun p:Sc×Nat=>p.1)≠[]:=fun e=>hc2 Xak
   have hsc:=aMA hyo [];refine aQ<|aA<|Zr rfl aJ (.tail (.tail ζ)) rfl<|aL<|Zad rfl bAQ rfl fun q5=>aL<|Za0 rfl<|Zr rfl aXD ζ rfl<|bS<|H6 (A:=[]) (b:=q5) (cells:=[.func (.func 144) #[] #[qP q1,qP q4,qP q3,qP q2,qP q5]]) rfl fun D21 hK hF=>aP<|Zd 0 rfl NM rfl hF rfl ?_;refine aU ([(_,_),(_,_)]++[(_,_),(_,_)]++([])) rfl<|gH (A:=[(_,_),(_,_)]) (ν:=[(_,_),(_,_)]) (B:=[]) rfl rfl rfl rfl (bLL rfl) ND (fun D11 I=>bHS hyo hne hsc y.chairs.length 0 Yd 0 [] (qN) [] (-1) (qN) _ Yd Yi Ye Sl.nil Sl.nil (hc.up xW.up (I _ Ye)) (hq.up R2.up (I _ Ye)) (R.up (I _ Ye)) (hV.up (I _ Ye)) (hsv.up WD.up (I _ Ye)) (hF.up (I _ Ye))) rfl bQK fun v11 D12 _ hN Y=>?_;obtain⟨pv1,rfl,O⟩:=Y;refine bS<|bE [] 1 5 6<|Zp rfl BW rfl Mm3 rfl<|Zp rfl aH rfl Mm2 rfl<|VT rfl rfl rfl O.cells1 BX (.tail (.tail (.tail .head))) Ye rfl O.cell1 bQK<|Zr rfl aJ (.tail (.tail ζ)) rfl<|We ?_;exact Zo [_,_,_] rfl ⟨⟨_,_,_,rfl,Mm3,Or.inl ⟨BW,rfl⟩⟩,⟨_,_,_,rfl,Mm2,Or.inl ⟨aH,rfl⟩⟩,rfl,bQK⟩ fun D hD=>aUF U hne (O.up R2.up (hD _ Ye))
end L7
namespace L12
open C12
def fV(s:aO):Int:=if C1.eM s.row true≠0 then 11 else if C2.bB s.table≠0 then 9 else if C2.oL s.table true≠0 then 11 else if C3.bB s.book≠0 then 3 else if C7.bB s.yard≠0 then 3 else if(L7.gI s.yard).2≠0 then 11 else 0
section
variable{s:aO}{v:Γ}
theorem aJG(h:C1.eM s.row true≠0)(e:v=fX 11):fV s≠0∧v=fX (fV s):=by unfold fV;rw[bLR h];exact⟨Yt,e⟩
theorem aGZ(h0:C1.eM s.row true=0)(h:C2.bB s.table≠0)(e:v=fX 9):fV s≠0∧v=fX (fV s):=by unfold fV;rw[bLI Yd,bLR h];exact⟨Yt,e⟩
theorem aKJ(h0:C1.eM s.row true=0)(h1:C2.bB s.table=0)(h:C2.oL s.table true≠0)(e:v=fX 11):fV s≠0∧v=fX (fV s):=by unfold fV;rw[bLI Yd,bLI Yd,bLR h];exact⟨Yt,e⟩
theorem aHD(h0:C1.eM s.row true=0)(h1:C2.bB s.table=0)(h2:C2.oL s.table true=0)(h:C3.bB s.book≠0)(e:v=fX 3):fV s≠0∧v=fX (fV s):=by unfold fV;rw[bLI Yd,bLI Yd,bLI Yd,bLR h];exact⟨Yt,e⟩
theorem aGB(h0:C1.eM s.row true=0)(h1:C2.bB s.table=0)(h2:C2.oL s.table true=0)(h3:C3.bB s.book=0)(h:C7.bB s.yard≠0)(e:v=fX 3):fV s≠0∧v=fX (fV s):=by unfold fV;rw[bLI Yd,bLI Yd,bLI Yd,bLI Yd,bLR h];exact⟨Yt,e⟩
theorem aIN(h0:C1.eM s.row true=0)(h1:C2.bB s.table=0)(h2:C2.oL s.table true=0)(h3:C3.bB s.book=0)(h4:C7.bB s.yard=0)(h:(L7.gI s.yard).2≠0)(e:v=fX 11):fV s≠0∧v=fX (fV s):=by unfold fV;rw[bLI Yd,bLI Yd,bLI Yd,bLI Yd,bLI Yd,bLR h];exact⟨Yt,e⟩
theorem aHS(h0:C1.eM s.row true=0)(h1:C2.bB s.table=0)(h2:C2.oL s.table true=0)(h3:C3.bB s.book=0)(h4:C7.bB s.yard=0)(h5:(L7.gI s.yard).2=0):fV s=0:=by unfold fV;rw[bLI Yd,bLI Yd,bLI Yd,bLI Yd,bLI Yd,bLI Yd]
end
theorem mF(n many:Int)(D:aC):kW prog 341 [qI n,qI many] D [] (fun _ _ ν'=>(n<many)∧ν'=[]) (fun v=>(many≤n)∧v=fX 7):=by
 refine eH 9 func341 rfl rfl rfl rfl fun h0 hwl hwn=>aP<|Za rfl<|Za rfl<|lR rfl rfl rfl rfl bQK<|Zu rfl U401 mS pW rfl (.cons rfl rfl .nil) fun V Y R I=>Zl [] [] [] rfl (bLG Yi) (fun D5 O=>gE 7 [decide (many≤n)] _ _ ((iR (l:=[decide (many≤n)]) (fun _ _ _ h=>h) I Ye).up RB.up (O _ Ye))) (fun v5 Z O hp5=>dA (P:=prog) (fn:=f341) rfl ⟨Xbe,hp5.2⟩) fun v5 Z ν5 O hp5=>?_;obtain⟨U,rfl⟩:=hp5;refine Zap ?_;exact i6 rfl fun D' hD=>⟨by simpa using U,rfl⟩
theorem B6(many most:Int)(D:aC):kW prog 340 [qI many,qI most] D [] (fun _ _ ν'=>(many<most)∧ν'=[]) (fun v=>(most≤many)∧v=fX 3):=by
 refine eH 9 func340 rfl rfl rfl rfl fun h0 hwl hwn=>aP<|Za rfl<|Za rfl<|lR rfl rfl rfl rfl bQK<|Zu rfl U401 mS pW rfl (.cons rfl rfl .nil) fun V Y R I=>Zl [] [] [] rfl (bLG Yi) (fun D5 O=>gE 3 [decide (most≤many)] _ _ ((iR (l:=[decide (most≤many)]) (fun _ _ _ h=>h) I Ye).up RB.up (O _ Ye))) (fun v5 Z O hp5=>dA (P:=prog) (fn:=f340) rfl ⟨Xbe,hp5.2⟩) fun v5 Z ν5 O hp5=>?_;obtain⟨U,rfl⟩:=hp5;refine Zap ?_;exact i6 rfl fun D' hD=>⟨by simpa using U,rfl⟩
theorem wF(n most:Int)(D:aC):kW prog 342 [qI n,qI most] D [] (fun _ _ ν'=>(n≤most)∧ν'=[]) (fun v=>(most<n)∧v=fX 2):=by
 refine eH 9 func342 rfl rfl rfl rfl fun h0 hwl hwn=>aP<|Za rfl<|Za rfl<|Zas rfl<|Zu rfl U401 mS pW rfl (.cons rfl rfl .nil) fun V Y R I=>Zl [] [] [] rfl (bLG Yi) (fun D5 O=>gE 2 [decide (most<n)] _ _ ((iR (l:=[decide (most<n)]) (fun _ _ _ h=>h) I Ye).up RB.up (O _ Ye))) (fun v5 Z O hp5=>dA (P:=prog) (fn:=f342) rfl ⟨Xbe,hp5.2⟩) fun v5 Z ν5 O hp5=>?_;obtain⟨U,rfl⟩:=hp5;refine Zap ?_;exact i6 rfl fun D' hD=>⟨by simpa using U,rfl⟩
theorem JE(a b most:Int)(D:aC):kW prog 345 [qI a,qI b,qI most] D [] (fun _ _ ν'=>(a≤b∧b≤most)∧ν'=[]) (fun v=>(b<a∨most<b)∧v=fX 2):=by
 refine eH 14 func345 rfl rfl rfl rfl fun h0 hwl hwn=>aP<|Za rfl<|Za rfl<|Zas rfl<|Za rfl<|Za rfl<|Zas rfl<|Zu rfl U401 mS pW rfl (.cons rfl rfl (.cons rfl rfl .nil)) fun V Y R I=>Zl [] [] [] rfl (bLG Yi) (fun D5 O=>gE 2 [decide (b<a),decide (most<b)] _ _ ((iR (l:=[decide (b<a),decide (most<b)]) (fun _ _ _ h=>h) I Ye).up RB.up (O _ Ye))) (fun v5 Z O hp5=>dA (P:=prog) (fn:=f345) rfl ⟨Xbe,hp5.2⟩) fun v5 Z ν5 O hp5=>?_;obtain⟨U,rfl⟩:=hp5;refine Zap ?_;exact i6 rfl fun D' hD=>⟨by simpa using U,rfl⟩
theorem aPK(sv:Γ)(s:aO)(D:aC)(hs:fW D sv s):kW prog 193 [sv] D [] (fun _ _ ν'=>fV s=0∧ν'=[]) (fun v=>fV s≠0∧v=fX (fV s)):=by
 obtain⟨pv,cv,hv,lv,mv,bl,bc,yc,yq,rfl,hL⟩:=hs;refine eH 52 func193 rfl rfl rfl rfl fun h0 hwl hwn=>aA<|Zab rfl fun q1 E1 hE1 hB=>aL<|Zi rfl dS rfl<|Zam 0 rfl jX hC rfl hB rfl<|Zaa rfl (fun D1 rB=>L1.aLZ _ s.row _ (hL.row.up (rB _ Ye))) fun v1 D1 rB hp1=>?_;obtain⟨pl1,rfl,_⟩:=hp1;refine Za rfl<|Zaq rfl<|Zaq rfl<|Zk rfl<|Zk rfl<|aL<|Za rfl<|Zax rfl<|Zu rfl U401 mS pW rfl (.cons rfl rfl .nil) (fun b901 D901 hD901 hP=>Zl [] [] [] rfl (bLG Yi) (fun D50 hE=>gE 11 [decide (C1.eM s.row true≠0)] _ _ ((iR (l:=[decide (C1.eM s.row true≠0)]) (fun _ _ _ h=>h) hP Ye).up RB.up (hE _ Ye))) (fun v50 D51 hE I=>dA (P:=prog) (fn:=f193) rfl (aJG (by simpa using I.1) I.2)) fun v50 D51 ν50 hE I=>?_);obtain⟨hf50,rfl⟩:=I;refine aL<|Zi rfl cW rfl<|Zam 4 rfl iS fS rfl hB rfl<|Zf rfl (fun D2 hD2=>L2.S7 _ s.table _ (hL.table.up (hD2 _ Ye)))<|Zax rfl<|Zu rfl U401 mS pW rfl (.cons rfl rfl .nil) (fun b902 D902 hD902 hR=>Zl [] [] [] rfl (bLG Yi) (fun D52 hF=>gE 9 [decide (C2.bB s.table≠0)] _ _ ((iR (l:=[decide (C2.bB s.table≠0)]) (fun _ _ _ h=>h) hR Ye).up RB.up (hF _ Ye))) (fun v52 D53 hF O=>dA (P:=prog) (fn:=f193) rfl (aGZ Xat (by simpa using O.1) O.2)) fun v52 D53 ν52 hF O=>?_);obtain⟨hf52,rfl⟩:=O;refine aL<|Zi rfl cW rfl<|Zam 4 rfl iS fS rfl hB rfl<|Zaa rfl (fun D3 hD3=>L2.zG _ s.table _ (hL.table.up (hD3 _ Ye))) fun v3 D3 hD3 hp3=>?_;obtain⟨bl3,rfl,_⟩:=hp3;refine Za rfl<|Zaq rfl<|Zaq rfl<|Zk rfl<|aL<|Za rfl<|Zax rfl<|Zu rfl U401 mS pW rfl (.cons rfl rfl .nil) (fun b903 D903 hD903 hS=>Zl [] [] [] rfl (bLG Yi) (fun D54 hH=>gE 11 [decide (C2.oL s.table true≠0)] _ _ ((iR (l:=[decide (C2.oL s.table true≠0)]) (fun _ _ _ h=>h) hS Ye).up RB.up (hH _ Ye))) (fun v54 D55 hH R=>dA (P:=prog) (fn:=f193) rfl (aKJ Xat Xbf (by simpa using R.1) R.2)) fun v54 D55 ν54 hH R=>?_);obtain⟨U,rfl⟩:=R;refine aL<|Zi rfl eR rfl<|Zam 9 rfl eT dU rfl hB rfl<|Zf rfl (fun D4 hD4=>L3.B4 _ s.book _ (hL.book.up (hD4 _ Ye)))<|Zax rfl<|Zu rfl U401 mS pW rfl (.cons rfl rfl .nil) (fun b904 D904 hD904 hX=>Zl [] [] [] rfl (bLG Yi) (fun D56 hI=>gE 3 [decide (C3.bB s.book≠0)] _ _ ((iR (l:=[decide (C3.bB s.book≠0)]) (fun _ _ _ h=>h) hX Ye).up RB.up (hI _ Ye))) (fun v56 D57 hI V=>dA (P:=prog) (fn:=f193) rfl (aHD Xat Xbf (by simpa using U) (by simpa using V.1) V.2)) fun v56 D57 ν56 hI V=>?_);obtain⟨hJ,rfl⟩:=V;refine aL<|Zi rfl eG rfl<|Zam 14 rfl kP jA rfl hB rfl<|Zf rfl (fun D5 hD5=>L7.zU _ s.yard _ (hL.yard.up (hD5 _ Ye)))<|Zax rfl<|Zu rfl U401 mS pW rfl (.cons rfl rfl .nil) (fun b905 D905 hD905 hY=>Zl [] [] [] rfl (bLG Yi) (fun D58 hK=>gE 3 [decide (C7.bB s.yard≠0)] _ _ ((iR (l:=[decide (C7.bB s.yard≠0)]) (fun _ _ _ h=>h) hY Ye).up RB.up (hK _ Ye))) (fun v58 D59 hK Y=>dA (P:=prog) (fn:=f193) rfl (aGB Xat Xbf (by simpa using U) (by simpa using hJ) (by simpa using Y.1) Y.2)) fun v58 D59 ν58 hK Y=>?_);obtain⟨hO,rfl⟩:=Y;refine aL<|Zi rfl eG rfl<|Zam 14 rfl kP jA rfl hB rfl<|Zf rfl (fun D6 hD6=>L7.zG _ s.yard _ (hL.yard.up (hD6 _ Ye)))<|Za rfl<|Zaq rfl<|Zaq rfl<|Zk rfl<|aF<|aP<|Za rfl<|Zax rfl ?_;refine Zu rfl U401 mS pW rfl (.cons rfl rfl .nil) (fun b906 D906 hD906 rA=>Zl [] [] [] rfl (bLG Yi) (fun D60 hN=>gE 11 [decide ((L7.gI s.yard).2≠0)] _ _ ((iR (l:=[decide ((L7.gI s.yard).2≠0)]) (fun _ _ _ h=>h) rA Ye).up RB.up (hN _ Ye))) (fun v60 D61 hN Z=>dA (P:=prog) (fn:=f193) rfl (aIN Xat Xbf (by simpa using U) (by simpa using hJ) (by simpa using hO) (by simpa using Z.1) Z.2)) fun v60 D61 ν60 hN Z=>?_);obtain⟨hf60,rfl⟩:=Z;refine Zap ?_;exact i6 rfl fun D' hD=>⟨aHS Xat Xbf (by simpa using U) (by simpa using hJ) (by simpa using hO) (by simpa using hf60),rfl⟩
def I5:aO:=⟨{places:=[2,2,2,2],counts:=[],wrong:=0,off:=1},{last:=3,heights:=[(5,5),(5,5),(5,5),(5,5)],step:=5,levels:=[],marks:=[]},{chairs:=3,coin:=5,box:=20,lines:=[],counts:=[]},{chairs:=[],fit:=1,claims:=[]}⟩
theorem yB(D:aC):Fn prog 102 #[] D (fun D' v=>fW D' v I5):=by
 refine Zx 38 func102 rfl fun h0=>aA<|Zad rfl oG rfl fun V=>aL<|Zad rfl oG rfl fun Y=>aL<|Zi rfl dS rfl<|Zi rfl zA rfl<|Zr rfl aJ ζ rfl<|Zi rfl eG rfl<|Zi rfl vV rfl<|Zr rfl aJ ζ rfl ?_;refine aL<|Zi rfl cW rfl<|Zi rfl lQ rfl<|Zr rfl aJ ζ rfl<|Zi rfl cW rfl<|Zi rfl vN rfl<|Zr rfl aJ ζ rfl<|aL<|Zi rfl eR rfl<|Zi rfl qD rfl<|Zr rfl aJ ζ rfl<|Zi rfl eR rfl ?_;refine Zi rfl wB rfl<|Zr rfl aJ ζ rfl<|Zi rfl eR rfl<|Zi rfl I7 rfl<|Zr rfl aJ ζ rfl<|bK<|Za rfl<|aF<|Za3<|Zc (Nat×Γ×aD) (fun g=>4-g.1) (fun g=>g.1≤4∧bD 3 1 g.2.1 g.1 (ints (List.replicate g.1 2)) g.2.2) (fun g=>[(16,qI (g.1:Int))]) [(1,_),(0,_)] (fun g=>g.2.2++[(Y,qC [g.2.1,qN,qI 0,qI 1,qI 3,qN,qI 5,qN,qN,qI 3,qI 5,qI 20,qN,qN,qN,qI 1,qN] 42),(V,qC [qN,qN,qI 0,qI 0,qI 0,qN,qI 0,qN,qN,qI 0,qI 0,qI 0,qN,qN,qN,qI 0,qN] 42)]) (fun g=>[D]) (0,qN,[]) ⟨Ye,Xaj⟩ ⟨Ya,bQK⟩ Mm5 ?_;rintro⟨k,v,ν⟩ ⟨h1,ha⟩;simp only at h1 ha;refine aA<|Zan rfl<|bS<|Zag rfl (fun hc1=>?_) fun hc1=>?_
 ·simp only at hc1;refine aQ<|Za5<|Za3<|aP<|Zi rfl dS rfl<|Zi rfl eN rfl<|Zp rfl bX rfl (LE _ Mm0) rfl<|Zu rfl U25 aJ cK rfl (.cons rfl rfl .nil) fun hK hN Z I=>?_;have hB:=Sl.ofInts (l:=[_]) (n:=1) (cap:=1) I rfl Yd Yd;refine aR (A:=[]) (B:=[(_,_),(_,_)]) rfl U25 rfl rfl aJ cK rfl kE rfl rfl rfl ha (iL.lit I) Ye rfl (by simp[ints]) Yk Yd (bLL rfl) rfl bQK fun v1 ν1 R=>?_;have O:bD 3 1 v1 (k+1) (ints (List.replicate (k+1) 2)) ν1:=by rw[List.replicate_succ',←eW];exact R
  refine Zi rfl dS rfl<|Zi rfl eN rfl<|aU (ν1++(Y,_)::[(V,_)]) rfl<|bP rfl rfl rfl R.cells1 fR (.app .head) Ye rfl R.cell1 bQK<|Zap<|Wd ?_;exact aI 11 (k+1,v1,ν1) ⟨Yl,O⟩ Yl ⟨Ya,bQK⟩ rfl rfl Mm5 fun D h=>⟨D,bLP _ (h),Le.refl D⟩
 ·obtain rfl:k=4:=by simp only at hc1;omega
  refine Za8<|Za4<|Za4<|Za9<|Za1<|Za5<|Za5<|rF (A:=[]) (B:=[(_,_),(_,_)]) ha rfl fun D8 hR hE=>?_;have hpl:=hE.ints Ye Yd;refine aP<|Za rfl<|aF<|Za3<|Zc (Nat×Γ×aD) (fun g=>4-g.1) (fun g=>g.1≤4∧bD 93 2 g.2.1 g.1 (L2.ZZ (List.replicate g.1 (5,5))) g.2.2) (fun g=>[(26,qI (g.1:Int))]) [(1,_),(0,_)] (fun g=>g.2.2++[(Y,qC [v,qN,qI 0,qI 1,qI 3,g.2.1,qI 5,qN,qN,qI 3,qI 5,qI 20,qN,qN,qN,qI 1,qN] 42),(V,qC [qN,qN,qI 0,qI 0,qI 0,qN,qI 0,qN,qN,qI 0,qI 0,qI 0,qN,qN,qN,qI 0,qN] 42)]) (fun g=>[D8,D]) (0,qN,[]) ⟨Ye,by simpa [L2.ZZ]using bD.nil⟩ ⟨Ya,bQK⟩ Mm5 ?_;rintro⟨j,u,ω⟩ ⟨h2,hb⟩;simp only at h2 hb;refine aA<|Zan rfl<|bS<|Zag rfl (fun hc2=>?_) fun hc2=>?_
  ·simp only at hc2;refine aQ<|Za5<|Za3<|aP<|Zi rfl cW rfl<|Zi rfl fQ rfl<|Zp rfl nN rfl (LE _ Mm0) rfl<|Zt [qI 5,qI 5] rfl K9 iG rfl<|Zu rfl U29 cJ iG rfl (.cons rfl rfl .nil) (fun hO hP hF U=>aR (A:=[]) (B:=[(_,_),(_,_)]) rfl U29 rfl rfl cJ iG rfl ET rfl rfl rfl hb (iL.lit U) Ye rfl (by rw[L2.EA];simp) Yk Yd (bLL rfl) rfl bQK fun v2 ν2 O=>?_)
   have hH:bD 93 2 v2 (j+1) (L2.ZZ (List.replicate (j+1) (5,5))) ν2:=by rw[List.replicate_succ',L2.FL];exact O
   refine Zi rfl cW rfl<|Zi rfl fQ rfl<|aU (ν2++(Y,_)::[(V,_)]) rfl<|bP rfl rfl rfl O.cells1 FM (.app .head) Ye rfl O.cell1 bQK<|Zap<|Wd ?_;exact aI 12 (j+1,v2,ν2) ⟨Yl,hH⟩ Yl ⟨Ya,bQK⟩ rfl rfl Mm5 fun D h=>⟨D,bLP _ (h),Le.refl D⟩
  ·obtain rfl:j=4:=by simp only at hc2;omega
   refine Za8<|Za4<|Za4<|Za9<|Za1<|aA<|Zae rfl kG rfl (LE _ Mm0) eE<|Zz rfl eE (.app (.tail ζ)) (by simp[cell1];exact⟨ha.cell1 _ Ye,hb.cell1 _ Ye⟩)<|aG<|Zar [] [(_,_),(_,_)] hb rfl fun D9 hI hJ=>?_;have hht:=hJ.rgs Ye Yd;exact Zo [_] rfl ⟨⟨_,_,_,rfl,bLP _ Mm0,bLG ⟨kG,eE,rfl⟩⟩,bQK⟩ fun D hD=>⟨v,qN,u,qN,qN,qN,qN,qN,qN,rfl,(hpl.up RI.up ((hI _ Ye).trans (hD _ Ye))),Sl.nil,hht.up W5.up (hD _ Ye),Sl.nil,Sl.nil,Sl.nil,Sl.nil,Sl.nil,Sl.nil⟩
def cI(n:Int):List Γ:=[qI n]
def cC(c:C1.uV):List Γ:=[.bool c.back,qI c.many,qI c.num]
def cP(p:Int×Int):List Γ:=[qI p.1,qI p.2]
def cM(m:C2.Mk):List Γ:=[qI m.frm,qI m.to,qI m.lo,qI m.hi]
def cL(l:C3.eL):List Γ:=[qI l.kind,qI l.chair,qI l.token]
def cH(c:C7.Ch):List Γ:=[qI c.size,qI c.parts.a,qI c.parts.b,qI c.parts.c]
theorem EM(n:Int):∀u∈cI n,cell1 u=true:=by intro u hu;simp[cI]at hu;subst hu;rfl
theorem Y4(c:C1.uV):∀u∈cC c,cell1 u=true:=by intro u hu;simp[cC]at hu;rcases hu with rfl|rfl|rfl<;>rfl
theorem zN(p:Int×Int):∀u∈cP p,cell1 u=true:=by intro u hu;simp[cP]at hu;rcases hu with rfl|rfl<;>rfl
theorem j8(m:C2.Mk):∀u∈cM m,cell1 u=true:=by intro u hu;simp[cM]at hu;rcases hu with rfl|rfl|rfl|rfl<;>rfl
theorem m7(l:C3.eL):∀u∈cL l,cell1 u=true:=by intro u hu;simp[cL]at hu;rcases hu with rfl|rfl|rfl<;>rfl
theorem RD(c:C7.Ch):∀u∈cH c,cell1 u=true:=by intro u hu;simp[cH]at hu;rcases hu with rfl|rfl|rfl|rfl<;>rfl
def QP{α:Type}(f:α→List Γ)(n:Nat):Prop:=(∀x,(f x).length=n)∧∀x,∀u∈f x,cell1 u=true
theorem SP:QP cI 1:=⟨fun _=>rfl,EM⟩
theorem YJ:QP cC 3:=⟨fun _=>rfl,Y4⟩
theorem UK:QP cP 2:=⟨fun _=>rfl,zN⟩
theorem aAE:QP cM 4:=⟨fun _=>rfl,j8⟩
theorem TE:QP cL 3:=⟨fun _=>rfl,m7⟩
theorem VZ:QP cH 4:=⟨fun _=>rfl,RD⟩
theorem aS{α:Type}{f:α→List Γ}{n:Nat}(h:∀x,(f x).length=n)(xs:List α):(xs.flatMap f).length=xs.length*n:=by
 induction xs with
 |nil=>simp
 |cons x xs ih=>rw[bMA,GE,h,ih,bLF,bNV];omega
theorem cO{α:Type}{f:α→List Γ}(h:∀x,∀u∈f x,cell1 u=true)(xs:List α):∀u∈xs.flatMap f,cell1 u=true:=by
 intro u hu;obtain⟨x,_,hx⟩:=bOV.1 hu;exact h x u hx
theorem IV{α:Type}{f:α→List Γ}{n:Nat}(h:∀x,(f x).length=n){xs:List α}{i:Nat}{x:α}(hi:xs[i]?= some x)(junk:List Γ):((xs.flatMap f++junk).drop (i*n)).take n=f x:=by
 induction xs generalizing i with
 |nil=>simp at hi
 |cons d xs ih=>
  rw[bMA,bLK];cases i with
  |zero=>
   obtain rfl:d=x:=by simpa using hi
   rw[bPG,bOY,bMP (by rw[h];omega),bLZ (by rw[h];omega)]
  |succ i=>
   rw[show(i+1)*n=(f d).length+i*n by rw[h,bNV];omega,bPO];exact ih Yau
theorem fN{α:Type}{R:Rd α}{f:α→List Γ}{n:Nat}{D:aC}{v:Γ}{xs:List α}(hR:∀D x,R D x (f x))(h:∀x,(f x).length=n)(hF:kN D v xs.length (xs.flatMap f))(hb:xs.length≤10000000):Sl D R n v xs:=
 hF.sl rfl Yd fun i t hi=>⟨f t,hR _ _,h t,by have:=IV h hi [];rwa [n5]at this⟩
theorem zK(sv:Γ)(xs:List Int)(D:aC)(hS:Sl D RI 1 sv xs)(hl:xs.length≤10000000):IU prog 142 #[sv] D (fun _ v ν=>bD 3 1 v xs.length (xs.flatMap cI) ν):=by
 obtain⟨a0,c0,rfl⟩:=hS.shape;refine rD 8 func142 rfl rfl rfl rfl fun h0=>aA<|Zk rfl<|bK<|Za rfl<|qU rfl U25 rfl rfl rfl bQK<|aF<|Zaf rfl (fun hc1=>?_) fun hc1=>?_
 ·obtain rfl:a0=none:=by simpa using hc1
  obtain rfl:=tV hS;refine Wcg ?_;exact aE rfl fun D' hD=>bD.nil
 ·refine aQ<|aA<|Zu rfl U25 aJ cK rfl .nil fun U V I O=>Za rfl<|aR (A:=[]) (ν:=[]) (B:=[]) rfl U25 rfl rfl aJ cK rfl kE rfl rfl rfl bD.nil (iL.of (cells:=cI) (fun _ _ _ h=>h) (fun _=>rfl) hS) Ye (aS (n:=1) (fun _=>rfl) xs) rfl (cO EM xs) Yd (bLL rfl) rfl bQK fun Y ν1 R=>We ?_;exact aE rfl fun D' hD=>by show bD 3 1 Y _ _ _;simpa using R
theorem aGT(sv:Γ)(xs:List C1.uV)(D:aC)(hS:Sl D RC 3 sv xs)(hl:xs.length≤10000000):IU prog 290 #[sv] D (fun _ v ν=>bD 202 3 v xs.length (xs.flatMap cC) ν):=by
 obtain⟨a0,c0,rfl⟩:=hS.shape;refine rD 8 func290 rfl rfl rfl rfl fun h0=>aA<|Zk rfl<|bK<|Za rfl<|qU rfl U26 rfl rfl rfl bQK<|aF<|Zaf rfl (fun hc1=>?_) fun hc1=>?_
 ·obtain rfl:a0=none:=by simpa using hc1
  obtain rfl:=tV hS;refine Wcg ?_;exact aE rfl fun D' hD=>bD.nil
 ·refine aQ<|aA<|Zu rfl U26 gJ nS rfl .nil fun U V I O=>Za rfl<|aR (A:=[]) (ν:=[]) (B:=[]) rfl U26 rfl rfl gJ nS rfl BV rfl rfl rfl bD.nil (iL.of (cells:=cC) (fun _ _ _ h=>h) (fun _=>rfl) hS) Ye (aS (n:=3) (fun _=>rfl) xs) rfl (cO Y4 xs) Yd (bLL rfl) rfl bQK fun Y ν1 R=>We ?_;exact aE rfl fun D' hD=>by show bD 202 3 Y _ _ _;simpa using R
theorem aIQ(sv:Γ)(xs:List (Int×Int))(D:aC)(hS:Sl D W5 2 sv xs)(hl:xs.length≤10000000):IU prog 291 #[sv] D (fun _ v ν=>bD 93 2 v xs.length (xs.flatMap cP) ν):=by
 obtain⟨a0,c0,rfl⟩:=hS.shape;refine rD 8 func291 rfl rfl rfl rfl fun h0=>aA<|Zk rfl<|bK<|Za rfl<|qU rfl U29 rfl rfl rfl bQK<|aF<|Zaf rfl (fun hc1=>?_) fun hc1=>?_
 ·obtain rfl:a0=none:=by simpa using hc1
  obtain rfl:=tV hS;refine Wcg ?_;exact aE rfl fun D' hD=>bD.nil
 ·refine aQ<|aA<|Zu rfl U29 cJ iG rfl .nil fun U V I O=>Za rfl<|aR (A:=[]) (ν:=[]) (B:=[]) rfl U29 rfl rfl cJ iG rfl ET rfl rfl rfl bD.nil (iL.of (cells:=cP) (fun _ _ _ h=>h) (fun _=>rfl) hS) Ye (aS (n:=2) (fun _=>rfl) xs) rfl (cO zN xs) Yd (bLL rfl) rfl bQK fun Y ν1 R=>We ?_;exact aE rfl fun D' hD=>by show bD 93 2 Y _ _ _;simpa using R
theorem aLO(sv:Γ)(xs:List C2.Mk)(D:aC)(hS:Sl D HB 4 sv xs)(hl:xs.length≤10000000):IU prog 292 #[sv] D (fun _ v ν=>bD 204 4 v xs.length (xs.flatMap cM) ν):=by
 obtain⟨a0,c0,rfl⟩:=hS.shape;refine rD 8 func292 rfl rfl rfl rfl fun h0=>aA<|Zk rfl<|bK<|Za rfl<|qU rfl U30 rfl rfl rfl bQK<|aF<|Zaf rfl (fun hc1=>?_) fun hc1=>?_
 ·obtain rfl:a0=none:=by simpa using hc1
  obtain rfl:=tV hS;refine Wcg ?_;exact aE rfl fun D' hD=>bD.nil
 ·refine aQ<|aA<|Zu rfl U30 gW nQ rfl .nil fun U V I O=>Za rfl<|aR (A:=[]) (ν:=[]) (B:=[]) rfl U30 rfl rfl gW nQ rfl CH rfl rfl rfl bD.nil (iL.of (cells:=cM) (fun _ _ _ h=>h) (fun _=>rfl) hS) Ye (aS (n:=4) (fun _=>rfl) xs) rfl (cO j8 xs) Yd (bLL rfl) rfl bQK fun Y ν1 R=>We ?_;exact aE rfl fun D' hD=>by show bD 204 4 Y _ _ _;simpa using R
theorem aIY(sv:Γ)(xs:List C3.eL)(D:aC)(hS:Sl D oE 3 sv xs)(hl:xs.length≤10000000):IU prog 293 #[sv] D (fun _ v ν=>bD 206 3 v xs.length (xs.flatMap cL) ν):=by
 obtain⟨a0,c0,rfl⟩:=hS.shape;refine rD 8 func293 rfl rfl rfl rfl fun h0=>aA<|Zk rfl<|bK<|Za rfl<|qU rfl U33 rfl rfl rfl bQK<|aF<|Zaf rfl (fun hc1=>?_) fun hc1=>?_
 ·obtain rfl:a0=none:=by simpa using hc1
  obtain rfl:=tV hS;refine Wcg ?_;exact aE rfl fun D' hD=>bD.nil
 ·refine aQ<|aA<|Zu rfl U33 cF jM rfl .nil fun U V I O=>Za rfl<|aR (A:=[]) (ν:=[]) (B:=[]) rfl U33 rfl rfl cF jM rfl O9 rfl rfl rfl bD.nil (iL.of (cells:=cL) (fun _ _ _ h=>h) (fun _=>rfl) hS) Ye (aS (n:=3) (fun _=>rfl) xs) rfl (cO m7 xs) Yd (bLL rfl) rfl bQK fun Y ν1 R=>We ?_;exact aE rfl fun D' hD=>by show bD 206 3 Y _ _ _;simpa using R
theorem aHF(sv:Γ)(xs:List C7.Ch)(D:aC)(hS:Sl D xW 4 sv xs)(hl:xs.length≤10000000):IU prog 294 #[sv] D (fun _ v ν=>bD 212 4 v xs.length (xs.flatMap cH) ν):=by
 obtain⟨a0,c0,rfl⟩:=hS.shape;refine rD 8 func294 rfl rfl rfl rfl fun h0=>aA<|Zk rfl<|bK<|Za rfl<|qU rfl U37 rfl rfl rfl bQK<|aF<|Zaf rfl (fun hc1=>?_) fun hc1=>?_
 ·obtain rfl:a0=none:=by simpa using hc1
  obtain rfl:=tV hS;refine Wcg ?_;exact aE rfl fun D' hD=>bD.nil
 ·refine aQ<|aA<|Zu rfl U37 iX uD rfl .nil fun U V I O=>Za rfl<|aR (A:=[]) (ν:=[]) (B:=[]) rfl U37 rfl rfl iX uD rfl NZ rfl rfl rfl bD.nil (iL.of (cells:=cH) (fun _ _ _ h=>h) (fun _=>rfl) hS) Ye (aS (n:=4) (fun _=>rfl) xs) rfl (cO RD xs) Yd (bLL rfl) rfl bQK fun Y ν1 R=>We ?_;exact aE rfl fun D' hD=>by show bD 212 4 Y _ _ _;simpa using R
theorem aGG(sv:Γ)(xs:List (Int×Int))(D:aC)(hS:Sl D R2 2 sv xs)(hl:xs.length≤10000000):IU prog 295 #[sv] D (fun _ v ν=>bD 90 2 v xs.length (xs.flatMap cP) ν):=by
 obtain⟨a0,c0,rfl⟩:=hS.shape;refine rD 8 func295 rfl rfl rfl rfl fun h0=>aA<|Zk rfl<|bK<|Za rfl<|qU rfl U38 rfl rfl rfl bQK<|aF<|Zaf rfl (fun hc1=>?_) fun hc1=>?_
 ·obtain rfl:a0=none:=by simpa using hc1
  obtain rfl:=tV hS;refine Wcg ?_;exact aE rfl fun D' hD=>bD.nil
 ·refine aQ<|aA<|Zu rfl U38 cY kR rfl .nil fun U V I O=>Za rfl<|aR (A:=[]) (ν:=[]) (B:=[]) rfl U38 rfl rfl cY kR rfl XK rfl rfl rfl bD.nil (iL.of (cells:=cP) (fun _ _ _ h=>h) (fun _=>rfl) hS) Ye (aS (n:=2) (fun _=>rfl) xs) rfl (cO zN xs) Yd (bLL rfl) rfl bQK fun Y ν1 R=>We ?_;exact aE rfl fun D' hD=>by show bD 90 2 Y _ _ _;simpa using R
theorem bIN{α:Type}(a b c d e:List α):a++(b++(c++(d++e)))=(a++(b++(c++d)))++e:=by simp
theorem bIZ{α:Type}(a b d e:List α):a++(b++(d++e))=(a++(b++d))++e:=by simp
structure M6(s:aO):Prop where
 pl:s.row.places.length≤100
 ct:s.row.counts.length≤100
 ht:s.table.heights.length≤100
 lev:s.table.levels.length≤100
 mks:s.table.marks.length≤100
 ln:s.book.lines.length≤100
 ch:s.yard.chairs.length≤100
 cl:s.yard.claims.length≤100
structure aAX where
 (w c r m l h q:Θ)
abbrev bKA:aAX:=⟨343,202,93,204,206,212,90⟩
structure bIV(T:aAX)(D:aC)(s:aO)(pv cv hv lv mv bl bc yc yq:Γ)(ν1 ν2 ν3 ν4 ν5 ν6 ν7 ν8:aD):Prop where
 pl:bD 3 1 pv s.row.places.length (s.row.places.flatMap cI) ν1
 ct:bD T.c 3 cv s.row.counts.length (s.row.counts.flatMap cC) ν2
 ht:bD T.r 2 hv s.table.heights.length (s.table.heights.flatMap cP) ν3
 lev:bD 3 1 lv s.table.levels.length (s.table.levels.flatMap cI) ν4
 mks:bD T.m 4 mv s.table.marks.length (s.table.marks.flatMap cM) ν5
 ln:bD T.l 3 bl s.book.lines.length (s.book.lines.flatMap cL) ν6
 cn:Sl D tC 3 bc s.book.counts
 ch:bD T.h 4 yc s.yard.chairs.length (s.yard.chairs.flatMap cH) ν7
 cl:bD T.q 2 yq s.yard.claims.length (s.yard.claims.flatMap cP) ν8
theorem CK(sv:Γ)(s:aO)(D:aC)(hs:fW D sv s)(hsm:M6 s):IU prog 192 #[sv] D (fun D' v ν=>∃wb pv cv hv lv mv bl bc yc yq ν1 ν2 ν3 ν4 ν5 ν6 ν7 ν8,v=qP wb∧ν=(wb,qC (cZ s pv cv hv lv mv bl bc yc yq) 343)::(ν8++(ν7++(ν6++(ν5++(ν4++(ν3++(ν2++ν1)))))))∧bIV bKA D' s pv cv hv lv mv bl bc yc yq ν1 ν2 ν3 ν4 ν5 ν6 ν7 ν8):=by
 obtain⟨pv,cv,hv,lv,mv,bl,bc,yc,yq,rfl,hL⟩:=hs;unfold cZ;refine rD 54 func192 rfl rfl rfl rfl fun h0=>aA<|GN rfl (e:=42) rfl rfl rfl bQK fun q1=>Zk rfl<|bS<|iZ [] 2 [0,1,2,4,5,6,3,8,9,7,10,11,12,13] [false,false,false,true,true,true,true,false,false,true,false,false,false,false] [(false,0),(false,1),(false,2),(true,4),(true,5),(true,6),(true,3),(false,8),(false,9),(true,7),(false,10),(false,11),(false,12),(false,13)] bC (fun _ _ _ h=>eZ (P:=prog) (fn:=f192) _ _ _ h) Yg rfl<|Zi rfl dS rfl<|Zi rfl eN rfl<|Zp rfl bX rfl Mm0 rfl<|Zi rfl dS rfl<|Zi rfl gF rfl<|Zp rfl pL rfl Mm0 rfl ?_;refine gG rfl rfl rfl (fun D22 hJ=>zK _ s.row.places _ (hL.pl.up RI.up (hJ _ Ye)) (by have:=hsm.pl;omega)) rfl bQK (fun I D23 ν1 hY U=>Zi rfl dS rfl<|Zi rfl eN rfl<|gG rfl rfl rfl (fun D24 hK=>aGT _ s.row.counts _ (hL.ct.up RC.up (hK _ Ye)) (by have:=hsm.ct;omega)) rfl bQK fun O D25 ν2 rA V=>Zac ((ν2++ν1)++(q1,_)::[]) ((bLK _ _ _).symm)<|Zs (cZ s I cv hv lv mv bl bc yc yq) rfl U.cells1 fR (.app .head) rfl U.cell1<|Zi rfl dS rfl<|Zi rfl gF rfl<|Zs (cZ s I O hv lv mv bl bc yc yq) rfl V.cells1 u7 (.app .head) rfl V.cell1<|bS<|iZ [] 2 [0,1,2,4,5,6,8,9,10,3,12,13,7,11,14,15,16,17,18,19,20] [false,false,false,true,true,true,true,true,true,true,false,false,true,true,false,false,false,false,false,false,false] [(false,0),(false,1),(false,2),(true,4),(true,5),(true,6),(true,8),(true,9),(true,10),(true,3),(false,12),(false,13),(true,7),(true,11),(false,14),(false,15),(false,16),(false,17),(false,18),(false,19),(false,20)] bC (fun _ _ _ h=>eZ (P:=prog) (fn:=f192) _ _ _ h) Yg rfl<|Zi rfl cW rfl ?_);refine Zi rfl fQ rfl<|Zp rfl nN rfl (LE _ Mm0) rfl<|Zi rfl cW rfl<|Zi rfl kL rfl<|Zp rfl bX rfl (LE _ Mm0) rfl<|Zi rfl cW rfl<|Zi rfl gD rfl<|Zp rfl pK rfl (LE _ Mm0) rfl<|gG rfl rfl rfl (fun D26 hN=>aIQ _ s.table.heights _ (hL.ht.up W5.up (hN _ Ye)) (by have:=hsm.ht;omega)) rfl bQK (fun R D27 ν3 rB Y=>Zi rfl cW rfl<|Zi rfl fQ rfl<|gG rfl rfl rfl (fun D28 hO=>zK _ s.table.levels _ (hL.lev.up RI.up (hO _ Ye)) (by have:=hsm.lev;omega)) rfl bQK fun Z D29 ν4 hD29 hB=>?_);refine gG rfl rfl rfl (fun D30 hP=>aLO _ s.table.marks _ (hL.mks.up HB.up (hP _ Ye)) (by have:=hsm.mks;omega)) rfl bQK fun w5 D31 ν5 hD31 hE=>Zac ((ν5++(ν4++(ν3++(ν2++ν1))))++(q1,_)::[]) (bIN _ _ _ _ _)<|Zs (cZ s I O R lv mv bl bc yc yq) rfl Y.cells1 FM (.app .head) rfl Y.cell1<|Zi rfl cW rfl<|Zi rfl kL rfl<|Zs (cZ s I O R Z mv bl bc yc yq) rfl hB.cells1 fR (.app .head) rfl hB.cell1<|Zi rfl cW rfl<|Zi rfl gD rfl<|Zs (cZ s I O R Z w5 bl bc yc yq) rfl hE.cells1 o8 (.app .head) rfl hE.cell1<|aL<|Zi rfl eR rfl<|Zi rfl cS rfl ?_;refine Zp rfl fU rfl (LE _ Mm0) rfl<|gG rfl rfl rfl (fun D32 hR=>aIY _ s.book.lines _ (hL.ln.up oE.up (hR _ Ye)) (by have:=hsm.ln;omega)) rfl bQK fun w6 D33 ν6 hD33 hF=>Zi rfl eR rfl<|Zi rfl cS rfl<|Zac ((ν6++(ν5++(ν4++(ν3++(ν2++ν1)))))++(q1,_)::[]) ((bLK _ _ _).symm)<|Zs (cZ s I O R Z w5 w6 bc yc yq) rfl hF.cells1 eP (.app .head) rfl hF.cell1<|bS<|iZ [] 2 [0,1,2,4,5,6,3,8,9,7,10,11,12,13] [false,false,false,true,true,true,true,false,false,true,false,false,false,false] [(false,0),(false,1),(false,2),(true,4),(true,5),(true,6),(true,3),(false,8),(false,9),(true,7),(false,10),(false,11),(false,12),(false,13)] bC (fun _ _ _ h=>eZ (P:=prog) (fn:=f192) _ _ _ h) Yg rfl<|Zi rfl eG rfl<|Zi rfl eO rfl<|Zp rfl kS rfl (LE _ Mm0) rfl<|Zi rfl eG rfl ?_;refine Zi rfl hZ rfl<|Zp rfl qE rfl (LE _ Mm0) rfl<|gG rfl rfl rfl (fun D34 hS=>aHF _ s.yard.chairs _ (hL.ch.up xW.up (hS _ Ye)) (by have:=hsm.ch;omega)) rfl bQK (fun w7 D35 ν7 hD35 hH=>Zi rfl eG rfl<|Zi rfl eO rfl<|gG rfl rfl rfl (fun D36 hX=>aGG _ s.yard.claims _ (hL.cl.up R2.up (hX _ Ye)) (by have:=hsm.cl;omega)) rfl bQK fun w8 D37 ν8 hD37 hI=>Zac ((ν8++(ν7++(ν6++(ν5++(ν4++(ν3++(ν2++ν1)))))))++(q1,_)::[]) (bIZ _ _ _ _)<|Zs (cZ s I O R Z w5 w6 bc w7 yq) rfl hH.cells1 OD (.app .head) rfl hH.cell1<|Zi rfl eG rfl<|Zi rfl hZ rfl<|Zs (cZ s I O R Z w5 w6 bc w7 w8) rfl hI.cells1 DV (.app .head) rfl hI.cell1<|aL ?_);refine Zae rfl kG rfl (LE _ Mm0) eE<|kB (cs:=(cZ s I O R Z w5 w6 bc w7 w8)) rfl aXA aWW rfl Yg rfl bQK<|GN rfl (e:=343) rfl rfl rfl bQK fun q2=>We ?_
 exact fun a w hh=>lU (P:=prog) (fn:=f192) (vs:=[_]) rfl rfl rfl ⟨rfl,bQK⟩ (fun D hD=>⟨q2,I,O,R,Z,w5,w6,bc,w7,w8,ν1,ν2,ν3,ν4,ν5,ν6,ν7,ν8,rfl,rfl,U,V,Y,hB,hE,hF,hL.cn.up tC.up (hD _ Ye),hH,hI⟩) a w (hh.subB (List.Sublist.cons_cons _ (List.sublist_append_left _ _)))
theorem aIU(wb:Nat)(s:aO)(pv cv hv lv mv bl bc yc yq nv:Γ)(a:Int)(D:aC)(hn:Sl D RI 1 nv [a]):kW prog 271 [qP wb,nv] D [(wb,qC (cZ s pv cv hv lv mv bl bc yc yq) 343)] (fun _ _ ν'=>a≤6∧ν'=[(wb,qC [pv,cv,qI a,qI s.row.off,qI s.table.last,hv,qI s.table.step,lv,mv,qI s.book.chairs,qI s.book.coin,qI s.book.box,bl,bc,yc,qI s.yard.fit,yq] 343)]) (fun v=>6<a∧v=fX 2):=by
 refine eH 16 func271 rfl rfl rfl rfl fun h0 hwl hwn=>aA<|Za rfl<|iN rfl hn rfl rfl fun U o1=>Zl [(_,_)] [] [] rfl (bLG Yi) (fun V I=>wF a 6 _) (fun v5 R I hp5=>dA (P:=prog) (fn:=f271) rfl ⟨hp5.1,hp5.2⟩) fun v5 R ν5 I hp5=>?_;obtain⟨O,rfl⟩:=hp5;refine aF<|aP<|Za rfl<|Za rfl<|iN rfl hn rfl rfl fun b2 o2=>Zao rfl<|Zi rfl bA rfl<|Zi rfl dS rfl<|Zi rfl I0 rfl<|bP (ws:=[pv,cv,qI a,qI s.row.off,qI s.table.last,hv,qI s.table.step,lv,mv,qI s.book.chairs,qI s.book.coin,qI s.book.box,bl,bc,yc,qI s.yard.fit,yq]) rfl rfl rfl rfl aJ .head Ye rfl Yk bQK<|Zap ?_;exact i6 rfl fun D' hD=>⟨O,rfl⟩
theorem bCO(wb:Nat)(s:aO)(pv cv hv lv mv bl bc yc yq nv:Γ)(a:Int)(D:aC)(hn:Sl D RI 1 nv [a]):kW prog 272 [qP wb,nv] D [(wb,qC (cZ s pv cv hv lv mv bl bc yc yq) 343)] (fun _ _ ν'=>a≤9∧ν'=[(wb,qC [pv,cv,qI s.row.wrong,qI a,qI s.table.last,hv,qI s.table.step,lv,mv,qI s.book.chairs,qI s.book.coin,qI s.book.box,bl,bc,yc,qI s.yard.fit,yq] 343)]) (fun v=>9<a∧v=fX 2):=by
 refine eH 16 func272 rfl rfl rfl rfl fun h0 hwl hwn=>aA<|Za rfl<|iN rfl hn rfl rfl fun U o1=>Zl [(_,_)] [] [] rfl (bLG Yi) (fun V I=>wF a 9 _) (fun v5 R I hp5=>dA (P:=prog) (fn:=f272) rfl ⟨hp5.1,hp5.2⟩) fun v5 R ν5 I hp5=>?_;obtain⟨O,rfl⟩:=hp5;refine aF<|aP<|Za rfl<|Za rfl<|iN rfl hn rfl rfl fun b2 o2=>Zao rfl<|Zi rfl bA rfl<|Zi rfl dS rfl<|Zi rfl zA rfl<|bP (ws:=[pv,cv,qI s.row.wrong,qI a,qI s.table.last,hv,qI s.table.step,lv,mv,qI s.book.chairs,qI s.book.coin,qI s.book.box,bl,bc,yc,qI s.yard.fit,yq]) rfl rfl rfl rfl aJ .head Ye rfl Yk bQK<|Zap ?_;exact i6 rfl fun D' hD=>⟨O,rfl⟩
theorem aUL(wb:Nat)(s:aO)(pv cv hv lv mv bl bc yc yq nv:Γ)(a:Int)(D:aC)(hn:Sl D RI 1 nv [a]):kW prog 274 [qP wb,nv] D [(wb,qC (cZ s pv cv hv lv mv bl bc yc yq) 343)] (fun _ _ ν'=>a≤99∧ν'=[(wb,qC [pv,cv,qI s.row.wrong,qI s.row.off,qI s.table.last,hv,qI a,lv,mv,qI s.book.chairs,qI s.book.coin,qI s.book.box,bl,bc,yc,qI s.yard.fit,yq] 343)]) (fun v=>99<a∧v=fX 2):=by
 refine eH 16 func274 rfl rfl rfl rfl fun h0 hwl hwn=>aA<|Za rfl<|iN rfl hn rfl rfl fun U o1=>Zl [(_,_)] [] [] rfl (bLG Yi) (fun V I=>wF a 99 _) (fun v5 R I hp5=>dA (P:=prog) (fn:=f274) rfl ⟨hp5.1,hp5.2⟩) fun v5 R ν5 I hp5=>?_;obtain⟨O,rfl⟩:=hp5;refine aF<|aP<|Za rfl<|Za rfl<|iN rfl hn rfl rfl fun b2 o2=>Zao rfl<|Zi rfl bA rfl<|Zi rfl cW rfl<|Zi rfl vN rfl<|bP (ws:=[pv,cv,qI s.row.wrong,qI s.row.off,qI s.table.last,hv,qI a,lv,mv,qI s.book.chairs,qI s.book.coin,qI s.book.box,bl,bc,yc,qI s.yard.fit,yq]) rfl rfl rfl rfl aJ .head Ye rfl Yk bQK<|Zap ?_;exact i6 rfl fun D' hD=>⟨O,rfl⟩
theorem aZL(wb:Nat)(s:aO)(pv cv hv lv mv bl bc yc yq nv:Γ)(a:Int)(D:aC)(hn:Sl D RI 1 nv [a]):kW prog 285 [qP wb,nv] D [(wb,qC (cZ s pv cv hv lv mv bl bc yc yq) 343)] (fun _ _ ν'=>a≤9∧ν'=[(wb,qC [pv,cv,qI s.row.wrong,qI s.row.off,qI s.table.last,hv,qI s.table.step,lv,mv,qI s.book.chairs,qI s.book.coin,qI s.book.box,bl,bc,yc,qI a,yq] 343)]) (fun v=>9<a∧v=fX 2):=by
 refine eH 16 func285 rfl rfl rfl rfl fun h0 hwl hwn=>aA<|Za rfl<|iN rfl hn rfl rfl fun U o1=>Zl [(_,_)] [] [] rfl (bLG Yi) (fun V I=>wF a 9 _) (fun v5 R I hp5=>dA (P:=prog) (fn:=f285) rfl ⟨hp5.1,hp5.2⟩) fun v5 R ν5 I hp5=>?_;obtain⟨O,rfl⟩:=hp5;refine aF<|aP<|Za rfl<|Za rfl<|iN rfl hn rfl rfl fun b2 o2=>Zao rfl<|Zi rfl bA rfl<|Zi rfl eG rfl<|Zi rfl vV rfl<|bP (ws:=[pv,cv,qI s.row.wrong,qI s.row.off,qI s.table.last,hv,qI s.table.step,lv,mv,qI s.book.chairs,qI s.book.coin,qI s.book.box,bl,bc,yc,qI a,yq]) rfl rfl rfl rfl aJ .head Ye rfl Yk bQK<|Zap ?_;exact i6 rfl fun D' hD=>⟨O,rfl⟩
section
variable{P:Program}{X:Cx}{γb:Type}[Membership Nat γb]{bad:γb}{all:Array Oper}{K:Act→Δ→Prop}{Q:Exit→Act→Δ→Prop}
variable{σ:cD}{μ:aD}{Ds:List aC}{os:List (Bool×Nat)}{fl:Bool}{ix d:Nat}{x y:Operand}{v:Γ}{ty:Θ}{pos:String}{aft:Array Edge}{g:Option (Nat×Bool)}
variable{α:Type}{f:α→List Γ}{n:Nat}
theorem HW(A B:aD)(hf:QP f n)(z:α){ν:aD}{D₁:aC}{t e tr:Θ}{xs:List α}{sv z0:Γ}{U c9:Nat}{ats:Array Θ}
  (ho:all[ix]?= some ⟨some d,.call {callee:=.builtin .append,args:=#[x,y],argTypes:=ats},tr,pos,aft,g⟩) (ht:P.underlying t=some (.slice e)) (hat:ats[0]?= some t) (I:ats[1]?= some t)
  (hs:TS P e n) (hz:TZ P e z0) (R:Nat.beq z0.cells.size n=true) (hi:(P.info? e).map (fun i=>Nat.ble 1 i.bytes&&Nat.ble i.bytes 4096)=some true) (O:Nat.ble 1 n=true)
  (hx:ev σ x=some sv) (hy:ev σ y=some (qS U 1 c9)) (ha:bD e n sv xs.length (xs.flatMap f) ν) (hA:At D₁ U 0 (f z)) (hlen:xs.length+1≤10000000) (hfl:fl=false∨∀p∈ν,p.1∈bad) (hg:dH all σ g)
  (kk:∀v' ν',bD e n v' (xs++[z]).length ((xs++[z]).flatMap f) ν'→WL P X bad all K Q os ((d,v')::σ) (A++ν'++B) Ds) (hD:D₁∈Ds:=by simp) (hN:Nat.blt d X.N=true:=by rfl):WL P X bad all K Q ((fl,ix)::os) σ (A++ν++B) Ds:=
 aR (A:=A) (B:=B) ho ht hat I hs hz R hi O hx hy ha (iL.lit hA) hD (by rw[hf.1,Nat.one_mul]) (aS hf.1 xs) (hf.2 z) hlen hfl hN hg fun v' ν' h=>kk v' ν' (by rw[GE,bLN,bMC];exact h)
theorem NV(hf:QP f n)(z:α){I:Nat×Obj}{ν:aD}{D₁:aC}{t e tr:Θ}{xs:List α}{sv z0:Γ}{V c9:Nat}{ats:Array Θ}
  (ho:all[ix]?= some ⟨some d,.call {callee:=.builtin .append,args:=#[x,y],argTypes:=ats},tr,pos,aft,g⟩) (ht:P.underlying t=some (.slice e)) (hat:ats[0]?= some t) (O:ats[1]?= some t)
  (hs:TS P e n) (hz:TZ P e z0) (U:Nat.beq z0.cells.size n=true) (hi:(P.info? e).map (fun i=>Nat.ble 1 i.bytes&&Nat.ble i.bytes 4096)=some true) (R:Nat.ble 1 n=true)
  (hx:ev σ x=some sv) (hy:ev σ y=some (qS V 1 c9)) (ha:bD e n sv xs.length (xs.flatMap f) ν) (hA:At D₁ V 0 (f z)) (hlen:xs.length+1≤10000000) (hfl:fl=false∨∀p∈ν,p.1∈bad) (hg:dH all σ g)
  (kk:∀v' ν',bD e n v' (xs++[z]).length ((xs++[z]).flatMap f) ν'→WL P X bad all K Q os ((d,v')::σ) (I::ν') Ds) (hD:D₁∈Ds:=by simp) (hN:Nat.blt d X.N=true:=by rfl):WL P X bad all K Q ((fl,ix)::os) σ (I::ν) Ds:=
 aU ([I]++ν++[]) Ye (HW [I] [] hf z ho ht hat O hs hz U hi R hx hy ha hA hlen hfl hg (fun v' ν' h=>aU (I::ν') Ye (kk v' ν' h)) hD hN)
end
theorem eQ{D:aC}{bt ot n ct:Nat}{a:Int}{l:List Int}(h:Sl D RI 1 (.slice (some ⟨bt,ot,none⟩) n ct) (a::l)):At D bt ot [qI a]:=by
 obtain⟨x,cap,hv,h1,h2,h3⟩:=h;cases hv;rcases h3 with h3|⟨b,o,ha,h3⟩
 ·cases h3
 ·cases ha;obtain⟨cs,hr,hc,hA⟩:=h3 0 a rfl;obtain rfl:cs=[qI a]:=hr;simpa using hA
theorem fE{bt wb:Nat}{o:Obj}{ν:aD}(h1:bt∉aD.ks ((wb,o)::ν))(h2:(aD.ks ((wb,o)::ν)).Nodup):∀p∈ν,p.1∉[bt,wb]:=by
 intro p hp hm;have hk:p.1∈ν.ks:=bKX.2 ⟨p,hp,rfl⟩;simp only[bNA,n4,bND]at hm;rcases hm with e|e
 ·exact h1 (bKY _ (e▸hk))
 ·exact(bMX.1 h2).1 (e▸hk)
theorem aIG(wb:Nat)(s:aO)(pv cv hv lv mv bl bc yc yq nv:Γ)(ν:aD)(D:aC)(ha:bD 3 1 pv s.row.places.length (s.row.places.flatMap cI) ν)(hsm:s.row.places.length≤100):kW prog 266 [qP wb,nv] D ((wb,qC (cZ s pv cv hv lv mv bl bc yc yq) 343)::ν) (fun _ _ ν'=>((s.row.places.length:Int)<7)∧∃R ν1,ν'=(wb,qC (cZ s R cv hv lv mv bl bc yc yq) 343)::ν1∧bD 3 1 R (s.row.places++[2]).length ((s.row.places++[2]).flatMap cI) ν1) (fun v=>7≤(s.row.places.length:Int)∧v=fX 3):=by
 refine eH 25 func266 rfl rfl rfl rfl fun h0 hwl hwn=>aA<|Za rfl<|Zao rfl<|Zi rfl bA rfl<|Zi rfl dS rfl<|Zi rfl eN rfl<|Zp rfl bX rfl Mm0 rfl<|cE rfl U25 rfl ha rfl rfl bQK<|Zl [(_,_)] ν [] rfl (Or.inr Yi) (fun D5 U=>B6 (s.row.places.length:Int) 7 _) (fun v5 D6 U hp5=>dA (P:=prog) (fn:=f266) rfl ⟨hp5.1,hp5.2⟩) fun v5 D6 ν5 U hp5=>?_;obtain⟨V,rfl⟩:=hp5;refine aF<|aP<|Za rfl<|Za rfl<|Zao rfl<|Zi rfl bA rfl<|Zi rfl dS rfl<|Zi rfl eN rfl<|Zp rfl bX rfl Mm0 rfl<|Zu rfl U25 aJ cK rfl (.cons rfl rfl .nil) fun hB hE Y I=>?_;have Z:=Sl.ofInts (l:=[_]) (n:=1) (cap:=1) I rfl Yd Yd;refine NV SP 2 rfl U25 rfl rfl aJ cK rfl kE rfl rfl rfl ha I Yd Yo bQK fun R ν1 O=>Zao rfl<|Zi rfl bA rfl<|Zi rfl dS rfl<|Zi rfl eN rfl<|Zs (cZ s R cv hv lv mv bl bc yc yq) rfl O.cells1 fR .head rfl O.cell1<|Zap ?_;exact i6 rfl fun D' hD=>⟨V,R,ν1,rfl,O⟩
theorem aGM(wb:Nat)(s:aO)(pv cv hv lv mv bl bc yc yq nv:Γ)(a:Int)(ν:aD)(D:aC)(hn:Sl D RI 1 nv [a])(ha:bD 3 1 lv s.table.levels.length (s.table.levels.flatMap cI) ν)(hsm:s.table.levels.length≤100):kW prog 275 [qP wb,nv] D ((wb,qC (cZ s pv cv hv lv mv bl bc yc yq) 343)::ν) (fun _ _ ν'=>(a≤99∧(s.table.levels.length:Int)<6)∧∃U ν1,ν'=(wb,qC (cZ s pv cv hv U mv bl bc yc yq) 343)::ν1∧bD 3 1 U (s.table.levels++[a]).length ((s.table.levels++[a]).flatMap cI) ν1) (fun v=>(99<a∧v=fX 2)∨(a≤99∧6≤(s.table.levels.length:Int)∧v=fX 3)):=by
 obtain⟨bt,ot,ct,rfl⟩:=dM hn Ye;have hbt:=eQ hn;refine eH 32 func275 rfl rfl rfl rfl fun h0 hwl hwn=>aA<|Za rfl<|aX rfl hn<|Zl [(_,_)] ν [] rfl (Or.inr Yi) (fun D5 V=>wF a 99 _) (fun v5 D6 V hp5=>dA (P:=prog) (fn:=f275) rfl (bLL ⟨hp5.1,hp5.2⟩)) fun v5 D6 ν5 V hp5=>?_;obtain⟨Y,rfl⟩:=hp5;refine aL<|Za rfl<|Zao rfl<|Zi rfl bA rfl<|Zi rfl cW rfl<|Zi rfl kL rfl<|Zp rfl bX rfl Mm0 rfl<|cE rfl U25 rfl ha rfl rfl bQK<|Zl [(_,_)] ν [] rfl (Or.inr Yi) (fun D7 Z=>B6 (s.table.levels.length:Int) 6 _) (fun v7 D8 Z O=>dA (P:=prog) (fn:=f275) rfl (bLG ⟨Y,O.1,O.2⟩)) fun v7 D8 ν7 Z O=>?_;obtain⟨hB,rfl⟩:=O;refine aF<|fL hbt Ye fun hap=>pY fun hnd=>?_;have hnu:=fE hap hnd;have hwbo:wb∉dN.mk [bt,wb]:=dN.out Ye;have hbto:bt∉dN.mk [bt,wb]:=dN.out Ye;refine aY (dN.mk [bt,wb]) 4 17 4094<|Za rfl<|Za rfl<|Zao rfl<|Zi rfl bA rfl<|Zi rfl cW rfl<|Zi rfl kL rfl<|bG rfl bX rfl Mm0 rfl Ym rfl bQK<|Za rfl<|aX rfl hn<|Zu rfl U25 aJ cK rfl (.cons rfl rfl .nil) fun hH hI hE I=>?_;have hF:=Sl.ofInts (l:=[_]) (n:=1) (cap:=1) I rfl Yd Yd;refine NV SP a rfl U25 rfl rfl aJ cK rfl kE rfl rfl rfl ha I Yd Yo bQK fun U ν1 R=>Zao rfl<|Zi rfl bA rfl<|Zi rfl cW rfl<|Zi rfl kL rfl<|Zs (cZ s pv cv hv U mv bl bc yc yq) rfl R.cells1 fR .head rfl R.cell1<|Zap ?_;exact i6 rfl fun D' hD=>⟨⟨Y,hB⟩,U,ν1,rfl,R⟩
theorem aLY(wb:Nat)(s:aO)(pv cv hv lv mv bl bc yc yq nv:Γ)(a b:Int)(ν:aD)(D:aC)(hn:Sl D RI 1 nv [a,b])(ha:bD 90 2 yq s.yard.claims.length (s.yard.claims.flatMap cP) ν)(hsm:s.yard.claims.length≤100):kW prog 286 [qP wb,nv] D ((wb,qC (cZ s pv cv hv lv mv bl bc yc yq) 343)::ν) (fun _ _ ν'=>((a≤b∧b≤7)∧(s.yard.claims.length:Int)<5)∧∃U ν1,ν'=(wb,qC (cZ s pv cv hv lv mv bl bc yc U) 343)::ν1∧bD 90 2 U (s.yard.claims++[(a,b)]).length ((s.yard.claims++[(a,b)]).flatMap cP) ν1) (fun v=>((b<a∨7<b)∧v=fX 2)∨((a≤b∧b≤7)∧5≤(s.yard.claims.length:Int)∧v=fX 3)):=by
 obtain⟨bt,ot,ct,rfl⟩:=dM hn Ye;have hbt:=eQ hn;refine eH 39 func286 rfl rfl rfl rfl fun h0 hwl hwn=>Za5<|aY [] 3 7 56<|Za rfl<|aX rfl hn<|Za rfl<|aX rfl hn<|Zl [(_,_)] ν [] rfl (Or.inr Yi) (fun D5 V=>JE a b 7 _) (fun v5 D6 V hp5=>dA (P:=prog) (fn:=f286) rfl (bLL ⟨hp5.1,hp5.2⟩)) fun v5 D6 ν5 V hp5=>?_;obtain⟨Y,rfl⟩:=hp5;refine aL<|Za rfl<|Zao rfl<|Zi rfl bA rfl<|Zi rfl eG rfl<|Zi rfl hZ rfl<|Zp rfl qE rfl Mm0 rfl<|cE rfl U38 rfl ha rfl rfl bQK<|Zl [(_,_)] ν [] rfl (Or.inr Yi) (fun D7 Z=>B6 (s.yard.claims.length:Int) 5 _) (fun v7 D8 Z I=>dA (P:=prog) (fn:=f286) rfl (bLG ⟨Y,I.1,I.2⟩)) fun v7 D8 ν7 Z I=>?_;obtain⟨hB,rfl⟩:=I;refine aF<|fL hbt Ye fun hap=>pY fun hnd=>?_;have hnu:=fE hap hnd;have hwbo:wb∉dN.mk [bt,wb]:=dN.out Ye;have hbto:bt∉dN.mk [bt,wb]:=dN.out Ye;refine aY (dN.mk [bt,wb]) 4 21 65534<|Wbz ?_;refine Zt [qI a,qI b] rfl t7 kR rfl<|Zu rfl U38 cY kR rfl (.cons rfl rfl .nil) fun hF hH hE O=>NV UK (a,b) rfl U38 rfl rfl cY kR rfl XK rfl rfl rfl ha O Yd Yo bQK fun U ν1 R=>Zao rfl<|Zi rfl bA rfl<|Zi rfl eG rfl<|Zi rfl hZ rfl<|Zs (cZ s pv cv hv lv mv bl bc yc U) rfl R.cells1 DV .head rfl R.cell1<|Zap ?_;exact i6 rfl fun D' hD=>⟨⟨Y,hB⟩,U,ν1,rfl,R⟩
theorem BG(wb:Nat)(s:aO)(pv cv hv lv mv bl bc yc yq nv:Γ)(a b:Int)(ν:aD)(D:aC)(hn:Sl D RI 1 nv [a,b])(ha:bD 206 3 bl s.book.lines.length (s.book.lines.flatMap cL) ν)(hsm:s.book.lines.length≤100)(kd:Int):kW prog 347 [qP wb,nv,qI kd] D ((wb,qC (cZ s pv cv hv lv mv bl bc yc yq) 343)::ν) (fun _ _ ν'=>(max a b<s.book.chairs∧(s.book.lines.length:Int)<8)∧∃U ν1,ν'=(wb,qC (cZ s pv cv hv lv mv U bc yc yq) 343)::ν1∧bD 206 3 U (s.book.lines++[(⟨kd,a,b⟩:C3.eL)]).length ((s.book.lines++[(⟨kd,a,b⟩:C3.eL)]).flatMap cL) ν1) (fun v=>(s.book.chairs≤max a b∧v=fX 7)∨(max a b<s.book.chairs∧8≤(s.book.lines.length:Int)∧v=fX 3)):=by
 obtain⟨bt,ot,ct,rfl⟩:=dM hn Ye;have hbt:=eQ hn;refine eH 49 func347 rfl rfl rfl rfl fun h0 hwl hwn=>Za5<|aY [] 6 14 8120<|Za rfl<|aX rfl hn<|Za rfl<|aX rfl hn<|qF rfl rfl rfl rfl bQK<|Za rfl<|Zao rfl<|Zi rfl bA rfl<|Zi rfl eR rfl ?_;refine Zi rfl qD rfl<|Zp rfl aH rfl Mm0 rfl<|Zl [(_,_)] ν [] rfl (Or.inr Yi) (fun D5 V=>mF (max a b) s.book.chairs _) (fun v5 D6 V hp5=>dA (P:=prog) (fn:=f347) rfl (bLL ⟨hp5.1,hp5.2⟩)) fun v5 D6 ν5 V hp5=>?_;obtain⟨Y,rfl⟩:=hp5;refine aL<|Za rfl<|Zao rfl<|Zi rfl bA rfl<|Zi rfl eR rfl<|Zi rfl cS rfl<|Zp rfl fU rfl Mm0 rfl<|cE rfl U33 rfl ha rfl rfl bQK<|Zl [(_,_)] ν [] rfl (Or.inr Yi) (fun D7 Z=>B6 (s.book.lines.length:Int) 8 _) (fun v7 D8 Z I=>dA (P:=prog) (fn:=f347) rfl (bLG ⟨Y,I.1,I.2⟩)) fun v7 D8 ν7 Z I=>?_;obtain⟨hB,rfl⟩:=I;refine aF<|fL hbt Ye fun hap=>pY fun hnd=>?_;have hnu:=fE hap hnd;have hwbo:wb∉dN.mk [bt,wb]:=dN.out Ye;have hbto:bt∉dN.mk [bt,wb]:=dN.out Ye;refine aY (dN.mk [bt,wb]) 4 22 131070<|Za rfl<|Za rfl<|Zao rfl<|Zi rfl bA rfl<|Zi rfl eR rfl<|Zi rfl cS rfl<|bG rfl fU rfl Mm0 rfl Ym rfl bQK<|Za rfl<|Za rfl<|aX rfl hn<|Za rfl ?_;refine aX rfl hn<|Zt [qI kd,qI a,qI b] rfl QF jM rfl<|Zu rfl U33 cF jM rfl (.cons rfl rfl .nil) fun hF hH hE O=>NV TE (⟨kd,a,b⟩:C3.eL) rfl U33 rfl rfl cF jM rfl O9 rfl rfl rfl ha O Yd Yo bQK fun U ν1 R=>Zao rfl<|Zi rfl bA rfl<|Zi rfl eR rfl<|Zi rfl cS rfl<|Zs (cZ s pv cv hv lv mv U bc yc yq) rfl R.cells1 eP .head rfl R.cell1<|Zap ?_;exact i6 rfl fun D' hD=>⟨⟨Y,hB⟩,U,ν1,rfl,R⟩
theorem BB(wb:Nat)(s:aO)(pv cv hv lv mv bl bc yc yq nv:Γ)(a b:Int)(ν:aD)(D:aC)(hn:Sl D RI 1 nv [a,b])(ha:bD 202 3 cv s.row.counts.length (s.row.counts.flatMap cC) ν)(hsm:s.row.counts.length≤100)(bk:Bool)(hpl:∃x c,pv=.slice x s.row.places.length c):kW prog 343 [qP wb,nv,.bool bk] D ((wb,qC (cZ s pv cv hv lv mv bl bc yc yq) 343)::ν) (fun _ _ ν'=>((a≤(s.row.places.length:Int)∧b≤9)∧(s.row.counts.length:Int)<6)∧∃Y ν1,ν'=(wb,qC (cZ s pv Y hv lv mv bl bc yc yq) 343)::ν1∧bD 202 3 Y (s.row.counts++[(⟨bk,a,b⟩:C1.uV)]).length ((s.row.counts++[(⟨bk,a,b⟩:C1.uV)]).flatMap cC) ν1) (fun v=>(((s.row.places.length:Int)<a∨9<b)∧v=fX 2)∨((a≤(s.row.places.length:Int)∧b≤9)∧6≤(s.row.counts.length:Int)∧v=fX 3)):=by
 obtain⟨bt,ot,ct,rfl⟩:=dM hn Ye;have hbt:=eQ hn;refine eH 52 func343 rfl rfl rfl rfl fun h0 hwl hwn=>Za5<|aY [] 9 17 31736<|Za rfl<|aX rfl hn<|Za rfl<|Zao rfl<|Zi rfl bA rfl<|Zi rfl dS rfl<|Zi rfl eN rfl<|Zp rfl bX rfl Mm0 rfl ?_;obtain⟨aq,cq,hq⟩:=hpl;refine aNH rfl U25 rfl hq rfl rfl bQK<|Zas rfl<|Za rfl<|aX rfl hn<|Zas rfl<|Zu rfl U401 mS pW rfl (.cons rfl rfl (.cons rfl rfl .nil)) fun hI hJ hE O=>Zl [(_,_)] ν [] rfl (bLG Yi) (fun D5 R=>gE 2 [decide ((s.row.places.length:Int)<a),decide (9<b)] _ _ ((iR (l:=[decide ((s.row.places.length:Int)<a),decide (9<b)]) (fun _ _ _ h=>h) O Ye).up RB.up (R _ Ye))) (fun v5 D6 R hp5=>dA (P:=prog) (fn:=f343) rfl (bLL ⟨Xbe,hp5.2⟩)) fun v5 D6 ν5 R hp5=>?_;obtain⟨hf50,rfl⟩:=hp5;have Z:a≤(s.row.places.length:Int)∧b≤9:=by simpa using hf50
 refine aL<|Za rfl<|Zao rfl<|Zi rfl bA rfl<|Zi rfl dS rfl<|Zi rfl gF rfl<|Zp rfl pL rfl Mm0 rfl<|cE rfl U26 rfl ha rfl rfl bQK<|Zl [(_,_)] ν [] rfl (Or.inr Yi) (fun D7 hB=>B6 (s.row.counts.length:Int) 6 _) (fun v7 D8 hB I=>dA (P:=prog) (fn:=f343) rfl (bLG ⟨Z,I.1,I.2⟩)) fun v7 D8 ν7 hB I=>?_;obtain⟨hF,rfl⟩:=I;refine aF<|fL hbt Ye fun hap=>pY fun hnd=>?_;have hnu:=fE hap hnd;have hwbo:wb∉dN.mk [bt,wb]:=dN.out Ye;have hbto:bt∉dN.mk [bt,wb]:=dN.out Ye;refine aY (dN.mk [bt,wb]) 4 22 131070<|Za rfl<|Za rfl<|Zao rfl<|Zi rfl bA rfl<|Zi rfl dS rfl<|Zi rfl gF rfl<|bG rfl pL rfl Mm0 rfl Ym rfl bQK<|Za rfl<|Za rfl<|aX rfl hn<|Za rfl ?_;refine aX rfl hn<|Zt [.bool bk,qI a,qI b] rfl QM nS rfl<|Zu rfl U26 gJ nS rfl (.cons rfl rfl .nil) fun hK hN hH U=>NV YJ (⟨bk,a,b⟩:C1.uV) rfl U26 rfl rfl gJ nS rfl BV rfl rfl rfl ha U Yd Yo bQK fun Y ν1 V=>Zao rfl<|Zi rfl bA rfl<|Zi rfl dS rfl<|Zi rfl gF rfl<|Zs (cZ s pv Y hv lv mv bl bc yc yq) rfl V.cells1 u7 .head rfl V.cell1<|Zap ?_;exact i6 rfl fun D' hD=>⟨⟨Z,hF⟩,Y,ν1,rfl,V⟩
theorem aNP(wb:Nat)(s:aO)(pv cv hv lv mv bl bc yc yq nv:Γ)(a b c d:Int)(ν:aD)(D:aC)(hn:Sl D RI 1 nv [a,b,c,d])(ha:bD 204 4 mv s.table.marks.length (s.table.marks.flatMap cM) ν)(hsm:s.table.marks.length≤100)(hht:∃x c,hv=.slice x s.table.heights.length c):kW prog 277 [qP wb,nv] D ((wb,qC (cZ s pv cv hv lv mv bl bc yc yq) 343)::ν) (fun _ _ ν'=>(max a b<(s.table.heights.length:Int)∧a≤b∧(c≤d∧d≤99)∧(s.table.marks.length:Int)<5)∧∃v1 ν1,ν'=(wb,qC (cZ s pv cv hv lv v1 bl bc yc yq) 343)::ν1∧bD 204 4 v1 (s.table.marks++[(⟨a,b,c,d⟩:C2.Mk)]).length ((s.table.marks++[(⟨a,b,c,d⟩:C2.Mk)]).flatMap cM) ν1) (fun v=>((s.table.heights.length:Int)≤max a b∧v=fX 7)∨(max a b<(s.table.heights.length:Int)∧b<a∧v=fX 2)∨(max a b<(s.table.heights.length:Int)∧a≤b∧(d<c∨99<d)∧v=fX 2)∨(max a b<(s.table.heights.length:Int)∧a≤b∧(c≤d∧d≤99)∧5≤(s.table.marks.length:Int)∧v=fX 3)):=by
 obtain⟨bt,ot,ct,rfl⟩:=dM hn Ye;have hbt:=eQ hn;refine eH 70 func277 rfl rfl rfl rfl fun h0 hwl hwn=>Za5<|aY [] 7 15 16312<|Za rfl<|aX rfl hn<|Za rfl<|aX rfl hn<|qF rfl rfl rfl rfl bQK<|Za rfl<|Zao rfl<|Zi rfl bA rfl<|Zi rfl cW rfl ?_;refine Zi rfl fQ rfl<|Zp rfl nN rfl Mm0 rfl ?_;obtain⟨aq,cq,hq⟩:=hht;refine aNH rfl U29 rfl hq rfl rfl bQK<|Zl [(_,_)] ν [] rfl (Or.inr Yi) (fun D5 hH=>mF (max a b) (s.table.heights.length:Int) _) (fun v5 D6 hH hp5=>dA (P:=prog) (fn:=f277) rfl (bLL ⟨hp5.1,hp5.2⟩)) fun v5 D6 ν5 hH hp5=>?_;obtain⟨O,rfl⟩:=hp5;refine bS<|aY [] 5 9 56<|Za rfl<|aX rfl hn<|Za rfl<|aX rfl hn<|Zas rfl<|Zu rfl U401 mS pW rfl (.cons rfl rfl .nil) (fun hX hY hO Y=>Zl [(_,_)] ν [] rfl (bLG Yi) (fun D7 Z=>gE 2 [decide (b<a)] _ _ ((iR (l:=[decide (b<a)]) (fun _ _ _ h=>h) Y Ye).up RB.up (Z _ Ye))) (fun v7 D8 Z R=>dA (P:=prog) (fn:=f277) rfl (bLG (bLL ⟨O,by simpa using R.1,R.2⟩))) fun v7 D8 ν7 Z R=>?_);obtain⟨hI,rfl⟩:=R;have hB:a≤b:=by simpa using hI
 refine bS<|aY [] 3 7 56<|Za rfl<|aX rfl hn<|Za rfl<|aX rfl hn<|Zl [(_,_)] ν [] rfl (Or.inr Yi) (fun D9 hJ=>JE c d 99 _) (fun v9 D10 hJ U=>dA (P:=prog) (fn:=f277) rfl (bLG (bLG (bLL ⟨O,hB,U.1,U.2⟩)))) fun v9 D10 ν9 hJ U=>?_;obtain⟨hK,rfl⟩:=U;refine aL<|Za rfl<|Zao rfl<|Zi rfl bA rfl<|Zi rfl cW rfl<|Zi rfl gD rfl<|Zp rfl pK rfl Mm0 rfl<|cE rfl U30 rfl ha rfl rfl bQK<|Zl [(_,_)] ν [] rfl (Or.inr Yi) (fun D11 V=>B6 (s.table.marks.length:Int) 5 _) (fun hP hR V I=>dA (P:=prog) (fn:=f277) rfl (bLG (bLG (bLG ⟨O,hB,hK,I.1,I.2⟩)))) fun hP hR ν11 V I=>?_;obtain⟨hN,rfl⟩:=I;refine aF<|fL hbt Ye fun hap=>pY fun hnd=>?_;have hnu:=fE hap hnd;have hwbo:wb∉dN.mk [bt,wb]:=dN.out Ye;have hbto:bt∉dN.mk [bt,wb]:=dN.out Ye;refine aY (dN.mk [bt,wb]) 4 28 8388606<|Wca ?_;refine Za rfl<|aX rfl hn<|Za rfl<|aX rfl hn<|Zt [qI c,qI d] rfl K9 iG rfl<|Zt [qI a,qI b,qI c,qI d] rfl PG nQ rfl<|Zu rfl U30 gW nQ rfl (.cons rfl rfl .nil) fun rA rB hS hE=>NV aAE (⟨a,b,c,d⟩:C2.Mk) rfl U30 rfl rfl gW nQ rfl CH rfl rfl rfl ha hE Yd Yo bQK fun v1 ν1 hF=>Zao rfl<|Zi rfl bA rfl<|Zi rfl cW rfl<|Zi rfl gD rfl ?_;refine Zs (cZ s pv cv hv lv v1 bl bc yc yq) rfl hF.cells1 o8 .head rfl hF.cell1<|Zap ?_;exact i6 rfl fun D' hD=>⟨⟨O,hB,hK,hN⟩,v1,ν1,rfl,hF⟩
theorem zM{α:Type}{f:α→List Γ}{n i:Nat}(h:∀x,(f x).length=n){xs:List α}(hi:i<xs.length){x:α}{junk:List Γ}:(xs.flatMap f++junk).take (0+i*n)++f x++(xs.flatMap f++junk).drop (0+i*n+(f x).length)=(xs.set i x).flatMap f++junk:=by
 rw[bOH];induction xs generalizing i with
 |nil=>simp at hi
 |cons d xs ih=>
  cases i with
  |zero=>
   have e:(d::xs).flatMap f++junk=f d++(xs.flatMap f++junk):=by simp
   have I:((d::xs).set 0 x).flatMap f++junk=f x++(xs.flatMap f++junk):=by simp
   rw[bPG,List.take_zero,bMH,bOH,e,I,h,←h d,List.drop_left]
  |succ i=>
   have hi':i<xs.length:=by simpa using hi
   have e:(d::xs).flatMap f++junk=f d++(xs.flatMap f++junk):=by simp
   have I:((d::xs).set (i+1) x).flatMap f++junk=f d++((xs.set i x).flatMap f++junk):=by simp
   rw[e,I,show(i+1)*n=(f d).length+i*n by rw[h,bNV];omega,List.take_length_add_append,show(f d).length+i*n+(f x).length=(f d).length+(i*n+(f x).length) by omega,bPO,bLK,bLK];congr 1;rw[←bLK];exact ih hi'
section
variable{α:Type}{f:α→List Γ}{n:Nat}
theorem HV{xs ys:List α}{e b cap:Nat}{junk:List Γ}(hf:QP f n)(he:ys.length=xs.length)(hcap:xs.length≤cap)(hl1:(xs.flatMap f).length=xs.length*n)(I:(xs.flatMap f++junk).length=cap*n):bD e n (qS b xs.length cap) ys.length (ys.flatMap f) [(b,qC (ys.flatMap f++junk) e)]:=
 bLG ⟨b,cap,junk,by rw[he],Yd,rfl,aS hf.1 ys,by rw[GE,aS hf.1 ys,he,←I,GE,hl1]⟩
variable{P:Program}{X:Cx}{γb:Type}[Membership Nat γb]{bad:γb}{all:Array Oper}{K:Act→Δ→Prop}{Q:Exit→Act→Δ→Prop}
variable{σ:cD}{μ μ':aD}{Ds:List aC}{os:List (Bool×Nat)}{ix:Nat}{x y:Operand}{v:Γ}{ty t e:Θ}{pos:String}{aft:Array Edge}{g:Option (Nat×Bool)}{xs:List α}{i b:Nat}{junk:List Γ}
theorem OP(hf:QP f n)(z:α)(ho:all[ix]?= some ⟨none,.store t x y,ty,pos,aft,g⟩)(hx:ev σ x=some (.pointer (some ⟨b,0+i*n,none⟩)))(hy:ev σ y=some v)(hv:v.cells=(f z).toArray)(hs:TS P t n)
  (hm:bO μ b (qC (xs.flatMap f++junk) e) (qC ((xs.set i z).flatMap f++junk) e) μ') (hi:i<xs.length) (hg:dH all σ g) (kk:WL P X bad all K Q os σ μ' Ds):WL P X bad all K Q ((false,ix)::os) σ μ Ds:=
 bP (us:=f z) (ws:=(xs.set i z).flatMap f++junk) ho hx hy hv (by rw[hf.1];exact hs) hm (by rw[hf.1,GE,aS hf.1];have:=bPJ n (show i+1≤xs.length from hi);rw[bNV,Nat.one_mul]at this;omega) (zM hf.1 hi) (hf.2 z) hg kk
end
theorem aML(wb:Nat)(s:aO)(pv cv hv lv mv bl bc yc yq nv:Γ)(a b:Int)(ν:aD)(D:aC)(hn:Sl D RI 1 nv [a,b])(ha:bD 3 1 pv s.row.places.length (s.row.places.flatMap cI) ν)(hsm:s.row.places.length≤100)(Z:0≤a):kW prog 267 [qP wb,nv] D ((wb,qC (cZ s pv cv hv lv mv bl bc yc yq) 343)::ν) (fun _ _ ν'=>(a<(s.row.places.length:Int)∧b≤2)∧∃ν1,ν'=(wb,qC (cZ s pv cv hv lv mv bl bc yc yq) 343)::ν1∧bD 3 1 pv (s.row.places.set a.toNat b).length ((s.row.places.set a.toNat b).flatMap cI) ν1) (fun v=>((s.row.places.length:Int)≤a∧v=fX 7)∨(a<(s.row.places.length:Int)∧2<b∧v=fX 2)):=by
 obtain⟨bt,ot,ct,rfl⟩:=dM hn Ye;have hbt:=eQ hn;refine eH 32 func267 rfl rfl rfl rfl fun h0 hwl hwn=>Za5<|aY [] 7 11 1016<|Za rfl<|aX rfl hn<|Za rfl<|Zao rfl<|Zi rfl bA rfl<|Zi rfl dS rfl<|Zi rfl eN rfl<|Zp rfl bX rfl Mm0 rfl<|cE rfl U25 rfl ha rfl rfl bQK ?_;refine Zl [(_,_)] ν [] rfl (Or.inr Yi) (fun D5 O=>mF a (s.row.places.length:Int) _) (fun v5 D6 O hp5=>dA (P:=prog) (fn:=f267) rfl (bLL ⟨hp5.1,hp5.2⟩)) fun v5 D6 ν5 O hp5=>?_;obtain⟨R,rfl⟩:=hp5;refine aL<|Za rfl<|aX rfl hn<|Zl [(_,_)] ν [] rfl (Or.inr Yi) (fun D7 U=>wF b 2 _) (fun v7 D8 U I=>dA (P:=prog) (fn:=f267) rfl (bLG ⟨R,I.1,I.2⟩)) fun v7 D8 ν7 U I=>?_;obtain⟨V,rfl⟩:=I;refine aF ?_;obtain⟨bx,cap,junk,rfl,hcap,rfl,hl1,Y⟩:=ha.some Yd;refine aY [] 5 14 4032<|Za rfl<|Zao rfl<|Zi rfl bA rfl<|Zi rfl dS rfl<|Zi rfl eN rfl<|Wcj ?_;refine Wcd ?_;exact i6 rfl fun D' hD=>⟨⟨R,V⟩,_,rfl,HV SP bNB hcap hl1 Y⟩
theorem aIJ(wb:Nat)(s:aO)(pv cv hv lv mv bl bc yc yq nv:Γ)(a b:Int)(ν:aD)(D:aC)(hn:Sl D RI 1 nv [a,b])(ha:bD 3 1 lv s.table.levels.length (s.table.levels.flatMap cI) ν)(hsm:s.table.levels.length≤100)(Z:0≤a):kW prog 276 [qP wb,nv] D ((wb,qC (cZ s pv cv hv lv mv bl bc yc yq) 343)::ν) (fun _ _ ν'=>(a<(s.table.levels.length:Int)∧b≤99)∧∃ν1,ν'=(wb,qC (cZ s pv cv hv lv mv bl bc yc yq) 343)::ν1∧bD 3 1 lv (s.table.levels.set a.toNat b).length ((s.table.levels.set a.toNat b).flatMap cI) ν1) (fun v=>((s.table.levels.length:Int)≤a∧v=fX 7)∨(a<(s.table.levels.length:Int)∧99<b∧v=fX 2)):=by
 obtain⟨bt,ot,ct,rfl⟩:=dM hn Ye;have hbt:=eQ hn;refine eH 32 func276 rfl rfl rfl rfl fun h0 hwl hwn=>Za5<|aY [] 7 11 1016<|Za rfl<|aX rfl hn<|Za rfl<|Zao rfl<|Zi rfl bA rfl<|Zi rfl cW rfl<|Zi rfl kL rfl<|Zp rfl bX rfl Mm0 rfl<|cE rfl U25 rfl ha rfl rfl bQK ?_;refine Zl [(_,_)] ν [] rfl (Or.inr Yi) (fun D5 O=>mF a (s.table.levels.length:Int) _) (fun v5 D6 O hp5=>dA (P:=prog) (fn:=f276) rfl (bLL ⟨hp5.1,hp5.2⟩)) fun v5 D6 ν5 O hp5=>?_;obtain⟨R,rfl⟩:=hp5;refine aL<|Za rfl<|aX rfl hn<|Zl [(_,_)] ν [] rfl (Or.inr Yi) (fun D7 U=>wF b 99 _) (fun v7 D8 U I=>dA (P:=prog) (fn:=f276) rfl (bLG ⟨R,I.1,I.2⟩)) fun v7 D8 ν7 U I=>?_;obtain⟨V,rfl⟩:=I;refine aF ?_;obtain⟨bx,cap,junk,rfl,hcap,rfl,hl1,Y⟩:=ha.some Yd;refine aY [] 5 14 4032<|Za rfl<|Zao rfl<|Zi rfl bA rfl<|Zi rfl cW rfl<|Zi rfl kL rfl<|Wcj ?_;refine Wcd ?_;exact i6 rfl fun D' hD=>⟨⟨R,V⟩,_,rfl,HV SP bNB hcap hl1 Y⟩
theorem aMR(wb:Nat)(s:aO)(pv cv hv lv mv bl bc yc yq nv:Γ)(a b c:Int)(ν:aD)(D:aC)(hn:Sl D RI 1 nv [a,b,c])(ha:bD 93 2 hv s.table.heights.length (s.table.heights.flatMap cP) ν)(hsm:s.table.heights.length≤100)(hI:0≤a)(hJ:0≤b∧b≤1000):kW prog 273 [qP wb,nv] D ((wb,qC (cZ s pv cv hv lv mv bl bc yc yq) 343)::ν) (fun _ _ ν'=>(a<(s.table.heights.length:Int)∧b≤c∧c≤99∧c≤b+2)∧∃ν1,ν'=(wb,qC (cZ s pv cv hv lv mv bl bc yc yq) 343)::ν1∧bD 93 2 hv (s.table.heights.set a.toNat (b,c)).length ((s.table.heights.set a.toNat (b,c)).flatMap cP) ν1) (fun v=>((s.table.heights.length:Int)≤a∧v=fX 7)∨(a<(s.table.heights.length:Int)∧(c<b∨99<c∨b+2<c)∧v=fX 2)):=by
 obtain⟨bt,ot,ct,rfl⟩:=dM hn Ye;have hbt:=eQ hn;refine eH 53 func273 rfl rfl rfl rfl fun h0 hwl hwn=>Za5<|aY [] 7 11 1016<|Za rfl<|aX rfl hn<|Za rfl<|Zao rfl<|Zi rfl bA rfl<|Zi rfl cW rfl<|Zi rfl fQ rfl<|Zp rfl nN rfl Mm0 rfl<|cE rfl U29 rfl ha rfl rfl bQK ?_;refine Zl [(_,_)] ν [] rfl (Or.inr Yi) (fun D5 U=>mF a (s.table.heights.length:Int) _) (fun v5 D6 U hp5=>dA (P:=prog) (fn:=f273) rfl (bLL ⟨hp5.1,hp5.2⟩)) fun v5 D6 ν5 U hp5=>?_;obtain⟨V,rfl⟩:=hp5;refine bS<|aY [] 6 21 524216<|Za rfl<|aX rfl hn<|Za rfl<|aX rfl hn<|Zas rfl<|Za rfl<|aX rfl hn<|Zas rfl<|Za rfl<|aX rfl hn ?_;refine Za rfl<|aX rfl hn<|Zah rfl<|Zas rfl<|Zu rfl U401 mS pW rfl (.cons rfl rfl (.cons rfl rfl (.cons rfl rfl .nil))) (fun hF hH Z O=>Zl [(_,_)] ν [] rfl (bLG Yi) (fun D7 R=>gE 2 [decide (c<b),decide (99<c),decide (b+2<c)] _ _ ((iR (l:=[decide (c<b),decide (99<c),decide (b+2<c)]) (fun _ _ _ h=>h) O Ye).up RB.up (R _ Ye))) (fun v7 D8 R I=>dA (P:=prog) (fn:=f273) rfl (bLG ⟨V,by simpa using I.1,I.2⟩)) fun v7 D8 ν7 R I=>?_);obtain⟨Y,rfl⟩:=I;have hB:b≤c∧c≤99∧c≤b+2:=by simpa using Y
 refine aF ?_;obtain⟨bx,cap,junk,rfl,hcap,rfl,hl1,hE⟩:=ha.some Yd;refine aY [] 5 18 65472<|Za rfl<|Zao rfl<|Zi rfl bA rfl<|Zi rfl cW rfl<|Zi rfl fQ rfl<|Zp rfl nN rfl Mm0 rfl<|Za rfl<|aX rfl hn<|Za rfl<|aX rfl hn<|Za rfl ?_;refine aX rfl hn<|Zt [qI b,qI c] rfl K9 iG rfl<|eU rfl U29 cJ rfl rfl Yd Yd rfl bQK<|OP UK (b,c) rfl rfl rfl rfl cJ (.tail .head) Yd bQK<|Zap ?_;exact i6 rfl fun D' hD=>⟨⟨V,hB⟩,_,rfl,HV UK bNB hcap hl1 hE⟩
theorem L4{wb t e sz n:Nat}{cs cells:List Γ}{v:Γ}{ν:aD}(ha:bD e sz v n cells ν):∀p∈(wb,Obj.cells cs.toArray t (0,0))::ν,dC p.2:=by
 intro p hp;rcases bNA.1 hp with rfl|hp
 ·rfl
 ·rcases ha with⟨_,_,_,_,rfl⟩|⟨b,cap,junk,_,_,rfl,_⟩
  ·cases hp
  ·simp only[bLS]at hp;subst hp;rfl
theorem aHA(wb:Nat)(s:aO)(pv cv hv lv mv bl bc yc yq nv:Γ)(a b:Int)(ν:aD)(D:aC)(hn:Sl D RI 1 nv [a,b])(ha:bD 202 3 cv s.row.counts.length (s.row.counts.flatMap cC) ν)(hsm:s.row.counts.length≤100)(hpl:∃x c,pv=.slice x s.row.places.length c):kW prog 268 [qP wb,nv] D ((wb,qC (cZ s pv cv hv lv mv bl bc yc yq) 343)::ν) (fun _ _ ν'=>((a≤(s.row.places.length:Int)∧b≤9)∧(s.row.counts.length:Int)<6)∧∃O ν1,ν'=(wb,qC (cZ s pv O hv lv mv bl bc yc yq) 343)::ν1∧bD 202 3 O (s.row.counts++[(⟨false,a,b⟩:C1.uV)]).length ((s.row.counts++[(⟨false,a,b⟩:C1.uV)]).flatMap cC) ν1) (fun v=>(((s.row.places.length:Int)<a∨9<b)∧v=fX 2)∨((a≤(s.row.places.length:Int)∧b≤9)∧6≤(s.row.counts.length:Int)∧v=fX 3)):=by
 refine eH 7 func268 rfl rfl rfl rfl fun h0 hwl hwn=>aP<|Za rfl<|Za rfl<|Zac ((wb,qC (cZ s pv cv hv lv mv bl bc yc yq) 343)::ν++[]) (n5 _).symm<|Zm [] [] ((wb,qC (cZ s pv cv hv lv mv bl bc yc yq) 343)::ν) rfl (L4 ha) (fun U I=>BB wb s pv cv hv lv mv bl bc yc yq nv a b ν _ (hn.up RI.up (I _ Ye)) ha hsm false hpl) (fun v5 R I hp5=>dA (P:=prog) (fn:=f268) rfl hp5) fun v5 R ν5 I hp5=>Zac ν5 (n5 _)<|Zap ?_;exact i6 rfl fun D' hD=>hp5
theorem aOC(wb:Nat)(s:aO)(pv cv hv lv mv bl bc yc yq nv:Γ)(a b:Int)(ν:aD)(D:aC)(hn:Sl D RI 1 nv [a,b])(ha:bD 202 3 cv s.row.counts.length (s.row.counts.flatMap cC) ν)(hsm:s.row.counts.length≤100)(hpl:∃x c,pv=.slice x s.row.places.length c):kW prog 269 [qP wb,nv] D ((wb,qC (cZ s pv cv hv lv mv bl bc yc yq) 343)::ν) (fun _ _ ν'=>((a≤(s.row.places.length:Int)∧b≤9)∧(s.row.counts.length:Int)<6)∧∃O ν1,ν'=(wb,qC (cZ s pv O hv lv mv bl bc yc yq) 343)::ν1∧bD 202 3 O (s.row.counts++[(⟨true,a,b⟩:C1.uV)]).length ((s.row.counts++[(⟨true,a,b⟩:C1.uV)]).flatMap cC) ν1) (fun v=>(((s.row.places.length:Int)<a∨9<b)∧v=fX 2)∨((a≤(s.row.places.length:Int)∧b≤9)∧6≤(s.row.counts.length:Int)∧v=fX 3)):=by
 refine eH 7 func269 rfl rfl rfl rfl fun h0 hwl hwn=>aP<|Za rfl<|Za rfl<|Zac ((wb,qC (cZ s pv cv hv lv mv bl bc yc yq) 343)::ν++[]) (n5 _).symm<|Zm [] [] ((wb,qC (cZ s pv cv hv lv mv bl bc yc yq) 343)::ν) rfl (L4 ha) (fun U I=>BB wb s pv cv hv lv mv bl bc yc yq nv a b ν _ (hn.up RI.up (I _ Ye)) ha hsm true hpl) (fun v5 R I hp5=>dA (P:=prog) (fn:=f269) rfl hp5) fun v5 R ν5 I hp5=>Zac ν5 (n5 _)<|Zap ?_;exact i6 rfl fun D' hD=>hp5
theorem aNC(wb:Nat)(s:aO)(pv cv hv lv mv bl bc yc yq nv:Γ)(a b:Int)(ν:aD)(D:aC)(hn:Sl D RI 1 nv [a,b])(ha:bD 206 3 bl s.book.lines.length (s.book.lines.flatMap cL) ν)(hsm:s.book.lines.length≤100):kW prog 279 [qP wb,nv] D ((wb,qC (cZ s pv cv hv lv mv bl bc yc yq) 343)::ν) (fun _ _ ν'=>(max a b<s.book.chairs∧(s.book.lines.length:Int)<8)∧∃O ν1,ν'=(wb,qC (cZ s pv cv hv lv mv O bc yc yq) 343)::ν1∧bD 206 3 O (s.book.lines++[(⟨1,a,b⟩:C3.eL)]).length ((s.book.lines++[(⟨1,a,b⟩:C3.eL)]).flatMap cL) ν1) (fun v=>(s.book.chairs≤max a b∧v=fX 7)∨(max a b<s.book.chairs∧8≤(s.book.lines.length:Int)∧v=fX 3)):=by
 refine eH 7 func279 rfl rfl rfl rfl fun h0 hwl hwn=>aP<|Za rfl<|Za rfl<|Zac ((wb,qC (cZ s pv cv hv lv mv bl bc yc yq) 343)::ν++[]) (n5 _).symm<|Zm [] [] ((wb,qC (cZ s pv cv hv lv mv bl bc yc yq) 343)::ν) rfl (L4 ha) (fun U I=>BG wb s pv cv hv lv mv bl bc yc yq nv a b ν _ (hn.up RI.up (I _ Ye)) ha hsm 1) (fun v5 R I hp5=>dA (P:=prog) (fn:=f279) rfl hp5) fun v5 R ν5 I hp5=>Zac ν5 (n5 _)<|Zap ?_;exact i6 rfl fun D' hD=>hp5
theorem aGD(wb:Nat)(s:aO)(pv cv hv lv mv bl bc yc yq nv:Γ)(a b:Int)(ν:aD)(D:aC)(hn:Sl D RI 1 nv [a,b])(ha:bD 206 3 bl s.book.lines.length (s.book.lines.flatMap cL) ν)(hsm:s.book.lines.length≤100):kW prog 280 [qP wb,nv] D ((wb,qC (cZ s pv cv hv lv mv bl bc yc yq) 343)::ν) (fun _ _ ν'=>(max a b<s.book.chairs∧(s.book.lines.length:Int)<8)∧∃O ν1,ν'=(wb,qC (cZ s pv cv hv lv mv O bc yc yq) 343)::ν1∧bD 206 3 O (s.book.lines++[(⟨2,a,b⟩:C3.eL)]).length ((s.book.lines++[(⟨2,a,b⟩:C3.eL)]).flatMap cL) ν1) (fun v=>(s.book.chairs≤max a b∧v=fX 7)∨(max a b<s.book.chairs∧8≤(s.book.lines.length:Int)∧v=fX 3)):=by
 refine eH 7 func280 rfl rfl rfl rfl fun h0 hwl hwn=>aP<|Za rfl<|Za rfl<|Zac ((wb,qC (cZ s pv cv hv lv mv bl bc yc yq) 343)::ν++[]) (n5 _).symm<|Zm [] [] ((wb,qC (cZ s pv cv hv lv mv bl bc yc yq) 343)::ν) rfl (L4 ha) (fun U I=>BG wb s pv cv hv lv mv bl bc yc yq nv a b ν _ (hn.up RI.up (I _ Ye)) ha hsm 2) (fun v5 R I hp5=>dA (P:=prog) (fn:=f280) rfl hp5) fun v5 R ν5 I hp5=>Zac ν5 (n5 _)<|Zap ?_;exact i6 rfl fun D' hD=>hp5
theorem JL{α:Type}{f:α→List Γ}{n i k:Nat}(h:∀x,(f x).length=n){xs:List α}{x:α}{v:Γ}{junk:List Γ}(hx:xs[i]?= some x)(hk:k<n)(hv:(f x)[k]?= some v):(xs.flatMap f++junk)[0+i*n+k]?= some v:=by
 have h1:=IV h hx junk;have h2:(((xs.flatMap f++junk).drop (i*n)).take n)[k]?= some v:=by rw[h1];exact hv
 rw[bOD hk,bNS]at h2;rw[bOH];exact h2
theorem d6{α:Type}{f:α→List Γ}{n i k off:Nat}(h:∀x,(f x).length=n){xs:List α}{x x2:α}{v:Γ}{junk:List Γ}(hx:xs[i]?= some x)(hk:k<n)(h2:f x2=(f x).take k++[v]++(f x).drop (k+1))(ho:off=i*n+k):(xs.flatMap f++junk).take off++[v]++(xs.flatMap f++junk).drop (off+ [v].length)=(xs.set i x2).flatMap f++junk:=by
 subst ho;induction xs generalizing i with
 |nil=>simp at hx
 |cons d xs ih=>
  have e:(d::xs).flatMap f++junk=f d++(xs.flatMap f++junk):=by simp
  cases i with
  |zero=>
   obtain rfl:d=x:=by simpa using hx
   have I:((d::xs).set 0 x2).flatMap f++junk=f x2++(xs.flatMap f++junk):=by simp
   rw[bPG,bOH,e,I,h2,bMP (by rw[h];omega),bNW,List.drop_append_of_le_length (by rw[h];omega)];simp
  |succ i=>
   have I:((d::xs).set (i+1) x2).flatMap f++junk=f d++((xs.set i x2).flatMap f++junk):=by simp
   rw[e,I,show(i+1)*n+k=(f d).length+(i*n+k) by rw[h,bNV];omega,List.take_length_add_append,show(f d).length+(i*n+k)+ [v].length=(f d).length+(i*n+k+ [v].length) by omega,bPO,bLK,bLK];congr 1;rw[←bLK];exact ih Xav
section
variable{P:Program}{X:Cx}{γb:Type}[Membership Nat γb]{bad:γb}{all:Array Oper}{K:Act→Δ→Prop}{Q:Exit→Act→Δ→Prop}
variable{σ:cD}{μ μ':aD}{Ds:List aC}{os:List (Bool×Nat)}{ix:Nat}{x y:Operand}{v:Γ}{ty t e:Θ}{pos:String}{aft:Array Edge}{g:Option (Nat×Bool)}{α:Type}{f:α→List Γ}{n:Nat}{xs:List α}{z x2:α}{i b k off:Nat}{junk:List Γ}
theorem PE(hf:QP f n)(ho:all[ix]?= some ⟨none,.store t x y,ty,pos,aft,g⟩)(hx:ev σ x=some (.pointer (some ⟨b,off,none⟩)))(hy:ev σ y=some v)(hv:v.cells=#[v])(hs:TS P t 1)
  (hm:bO μ b (qC (xs.flatMap f++junk) e) (qC ((xs.set i x2).flatMap f++junk) e) μ') (hz:xs[i]?= some z) (hk:k<n) (h2:f x2=(f z).take k++[v]++(f z).drop (k+1)) (hoff:off=i*n+k) (hg:dH all σ g) (kk:WL P X bad all K Q os σ μ' Ds):WL P X bad all K Q ((false,ix)::os) σ μ Ds:=
 bP (us:=[v]) (ws:=(xs.set i x2).flatMap f++junk) ho hx hy hv hs hm (by rw[GE,aS hf.1,hoff,bNW];have:=bPJ n (bLD.1 hz).1;rw[Nat.succ_mul]at this;omega) (d6 hf.1 hz hk h2 hoff) (fun u hu=>hf.2 x2 u (by rw[h2,bLS.1 hu];simp)) hg kk
end
def BD(p:C7.Pt)(i:Nat)(v:Int):C7.Pt:=if i=0 then {p with a:=v}else if i=1 then {p with b:=v}else {p with c:=v}
theorem aRC{x:C7.Ch}{i:Nat}{v:Int}(h:i<3):cH {x with parts:=BD x.parts i v}=(cH x).take (1+i)++[qI v]++(cH x).drop (1+i+1):=by
 have:i=0∨i=1∨i=2:=by omega
 rcases this with rfl|rfl|rfl<;>rfl
theorem WH(wb:Nat)(s:aO)(pv cv hv lv mv bl bc yc yq nv:Γ)(a:Int)(ν:aD)(D:aC)(hn:Sl D RI 1 nv [a])(ha:bD 206 3 bl s.book.lines.length (s.book.lines.flatMap cL) ν)(hsm:s.book.lines.length≤100)(hH:0≤a):kW prog 281 [qP wb,nv] D ((wb,qC (cZ s pv cv hv lv mv bl bc yc yq) 343)::ν) (fun _ _ ν'=>∃x,s.book.lines[a.toNat]?= some x∧(x.token≠ -1)∧∃ν1,ν'=(wb,qC (cZ s pv cv hv lv mv bl bc yc yq) 343)::ν1∧bD 206 3 bl (s.book.lines.set a.toNat {x with token:= -1}).length ((s.book.lines.set a.toNat {x with token:= -1}).flatMap cL) ν1) (fun v=>((s.book.lines.length:Int)≤a∧v=fX 7)∨(∃x,s.book.lines[a.toNat]?= some x∧x.token= -1∧v=fX 6)):=by
 obtain⟨bt,ot,ct,rfl⟩:=dM hn Ye;have hbt:=eQ hn;refine eH 36 func281 rfl rfl rfl rfl fun h0 hwl hwn=>Za5<|aY [] 7 11 1016<|Za rfl<|Wbl ?_;refine Zl [(_,_)] ν [] rfl (Or.inr Yi) (fun D5 U=>mF a (s.book.lines.length:Int) _) (fun v5 D6 U hp5=>dA (P:=prog) (fn:=f281) rfl (bLL ⟨hp5.1,hp5.2⟩)) fun v5 D6 ν5 U hp5=>?_;obtain⟨hI,rfl⟩:=hp5;refine bS ?_;obtain⟨bx,cap,junk,rfl,hcap,rfl,hl1,Y⟩:=ha.some Yd;obtain⟨x,hx⟩:=cB s.book.lines (a.toNat);refine aY [] 6 11 448<|Za rfl<|Zao rfl<|Zi rfl bA rfl<|Zi rfl eR rfl<|Zi rfl cS rfl<|Zp rfl fU rfl Mm0 rfl<|Za rfl<|aX rfl hn<|eU rfl U33 cF rfl rfl Yd Yd rfl bQK<|Zk rfl<|aL ?_;refine Za rfl<|Zao rfl<|Zi rfl nU rfl<|bG (v:=qI x.token) rfl aH rfl Mm1 Xcy n4 rfl bQK<|Zaw rfl<|Zu rfl U401 mS pW rfl (.cons rfl rfl .nil) (fun hE hF Z O=>Zl [(_,_),(_,_)] [] [] rfl (bLG Yi) (fun D7 R=>gE 6 [decide (x.token= -1)] _ _ ((iR (l:=[decide (x.token= -1)]) (fun _ _ _ h=>h) O Ye).up RB.up (R _ Ye))) (fun v7 D8 R I=>dA (P:=prog) (fn:=f281) rfl (bLG ⟨x,hx,by simpa using I.1,I.2⟩)) fun v7 D8 ν7 R I=>?_);obtain⟨V,rfl⟩:=I;have hB:x.token≠ -1:=by simpa using V
 refine aF<|aP<|Za rfl<|Zao rfl<|Zi rfl nU rfl<|Wck ?_;exact i6 rfl fun D' hD=>⟨x,hx,hB,_,rfl,HV TE bNB hcap hl1 Y⟩
theorem aUT(wb:Nat)(s:aO)(pv cv hv lv mv bl bc yc yq nv:Γ)(a b c:Int)(ν:aD)(D:aC)(hn:Sl D RI 1 nv [a,b,c])(ha:bD 212 4 yc s.yard.chairs.length (s.yard.chairs.flatMap cH) ν)(hsm:s.yard.chairs.length≤100)(hF:0≤a)(hH:0≤b):kW prog 284 [qP wb,nv] D ((wb,qC (cZ s pv cv hv lv mv bl bc yc yq) 343)::ν) (fun _ _ ν'=>∃x,s.yard.chairs[a.toNat]?= some x∧(b<3∧c≤2)∧∃ν1,ν'=(wb,qC (cZ s pv cv hv lv mv bl bc yc yq) 343)::ν1∧bD 212 4 yc (s.yard.chairs.set a.toNat {x with parts:=BD x.parts b.toNat c}).length ((s.yard.chairs.set a.toNat {x with parts:=BD x.parts b.toNat c}).flatMap cH) ν1) (fun v=>((s.yard.chairs.length:Int)≤a∧v=fX 7)∨(a<(s.yard.chairs.length:Int)∧3≤b∧v=fX 7)∨(a<(s.yard.chairs.length:Int)∧b<3∧2<c∧v=fX 2)):=by
 obtain⟨bt,ot,ct,rfl⟩:=dM hn Ye;have hbt:=eQ hn;refine eH 41 func284 rfl rfl rfl rfl fun h0 hwl hwn=>Za5<|aY [] 7 11 1016<|Za rfl<|aX rfl hn<|Za rfl<|Zao rfl<|Zi rfl bA rfl<|Zi rfl eG rfl<|Zi rfl eO rfl<|Zp rfl kS rfl Mm0 rfl<|cE rfl U37 rfl ha rfl rfl bQK ?_;refine Zl [(_,_)] ν [] rfl (Or.inr Yi) (fun D5 R=>mF a (s.yard.chairs.length:Int) _) (fun v5 D6 R hp5=>dA (P:=prog) (fn:=f284) rfl (bLL ⟨hp5.1,hp5.2⟩)) fun v5 D6 ν5 R hp5=>?_;obtain⟨U,rfl⟩:=hp5;refine aL<|Za rfl<|aX rfl hn<|Zl [(_,_)] ν [] rfl (Or.inr Yi) (fun D7 V=>mF b 3 _) (fun v7 D8 V I=>dA (P:=prog) (fn:=f284) rfl (bLG (bLL ⟨U,I.1,I.2⟩))) fun v7 D8 ν7 V I=>?_;obtain⟨Y,rfl⟩:=I;refine aL<|Za rfl<|aX rfl hn<|Zl [(_,_)] ν [] rfl (Or.inr Yi) (fun D9 Z=>wF c 2 _) (fun v9 D10 Z O=>dA (P:=prog) (fn:=f284) rfl (bLG (bLG ⟨U,Y,O.1,O.2⟩))) fun v9 D10 ν9 Z O=>?_;obtain⟨hB,rfl⟩:=O;refine aF ?_;obtain⟨bx,cap,junk,rfl,hcap,rfl,hl1,hE⟩:=ha.some Yd;obtain⟨x,hx⟩:=cB s.yard.chairs (a.toNat);refine aY [] 5 19 131008<|Za rfl<|Zao rfl<|Zi rfl bA rfl<|Zi rfl eG rfl<|Zi rfl eO rfl<|Zp rfl kS rfl Mm0 rfl<|Za rfl<|aX rfl hn<|Za rfl<|aX rfl hn<|Za rfl ?_;refine aX rfl hn<|eU rfl U37 iX rfl rfl Yd Yd rfl bQK<|Zi rfl O5 rfl<|eV rfl U210 aJ rfl rfl Yd Yd rfl bQK<|PE VZ (x2:={x with parts:=BD x.parts b.toNat c}) (k:=(1+b.toNat)) rfl rfl rfl rfl aJ (.tail .head) hx Yd (aRC Yd) Yd bQK<|Zap ?_;exact i6 rfl fun D' hD=>⟨x,hx,⟨Y,hB⟩,_,rfl,HV VZ bNB hcap hl1 hE⟩
def gX(xs:List Λ):Int:=if(decide ((40:Int)<(xs.length:Int))|| !xs.all fun l=>decide ((l.size:Int)≤50))=true then 3 else 0
theorem aZR(m:Int)(l:Λ)(D:aC):Fn prog 100 #[qI m,.string l] D (fun _ v=>v=.bool (decide ((l.size:Int)≤m))):=by
 refine Zx 9 func100 rfl fun h0=>aA<|Zk rfl<|aL<|Za rfl<|kM rfl U9 rfl rfl rfl bQK<|Za rfl<|iD rfl rfl rfl rfl bQK<|We ?_;exact aE rfl fun D hD=>rfl
theorem IE(sv fv:Γ)(xs:List Λ)(p:Λ→Bool)(D:aC)(hS:Sl D RS 1 sv xs)(hp:dE prog D Value.string fv p):
  Fn prog 300 #[sv,fv] D (fun _ v=>v=qI (idxOf p xs)):=by
 have hl:=hS.len;obtain⟨f,c1,c2,rfl,hf⟩:=hp;refine Zx 19 func300 rfl fun h0=>aA<|Zk rfl<|bK<|Za rfl<|dD rfl U22 rfl Yn rfl rfl bQK<|Wf ?_;rintro k ⟨h1,h2⟩;refine aA<|Zan rfl<|bS<|Zag rfl (fun hc1=>?_) fun hc1=>?_
 ·have hk:k<xs.length:=by omega
  obtain⟨x,hx⟩:=cB xs k;refine aQ<|Za5<|Za3<|aA<|Za rfl<|Zk rfl<|aL<|Za rfl<|Za rfl<|Za rfl<|dX rfl U22 lS rfl Yn rfl Yd Yn rfl bQK fun Y o1 I O V R=>?_;obtain rfl:I=[.string _]:=O;refine Zd 0 rfl wY rfl R rfl<|Zf rfl (fun Z U=>hf x _ (U _ Ye))<|aF<|Zaf rfl (fun hc2=>?_) fun hc2=>?_
  ·refine Wbi ?_;exact aE rfl fun D hD=>Xbk
  ·refine Wcf ?_;have hpx:p x=false:=hc2;have h3:(xs.take (k+1)).any p=false:=by rw[bLA,hx,bOP,h2];simp[hpx]
   exact aI 12 (k+1) ⟨Yd,h3⟩ Yd ⟨Ya,bQK⟩ rfl rfl Mm5 (aK)
 ·refine Wj ?_;exact aE rfl fun D hD=>Xbl
theorem z6(sv fv:Γ)(xs:List Λ)(p:Λ→Bool)(D:aC)(hS:Sl D RS 1 sv xs)(hp:dE prog D Value.string fv p):
  Fn prog 195 #[sv,fv] D (fun _ v=>v=.bool (xs.any p)):=by
 refine Zx 9 func195 rfl fun h0=>aA<|Zk rfl<|aL<|Za rfl<|Za rfl<|Zf rfl (fun O I=>IE _ _ xs p _ (Sl.at RS.up I Yn Ye) (hp.up (I _ Ye)))<|Wac ?_;exact aE rfl fun D hD=>Xbm
theorem aRP(b:Nat)(fv:Γ)(p:Λ→Bool)(x:Λ)(D:aC)(hp:dE prog D Value.string fv p)(hB:At D b 0 [fv]):
  Fn prog 196 #[.string x,qP b] D (fun _ v=>v=.bool (!p x)):=by
 obtain⟨f,c1,c2,rfl,hf⟩:=hp;refine Zx 8 func196 rfl fun h0=>aA<|Zk rfl<|aL<|Zd 0 rfl bBY rfl hB rfl<|Za rfl<|Zf rfl (fun O I=>hf x _ (I _ Ye))<|Zau rfl<|We ?_;exact aE rfl fun D hD=>rfl
theorem aYO(sv fv:Γ)(xs:List Λ)(p:Λ→Bool)(D:aC)(hS:Sl D RS 1 sv xs)(hp:dE prog D Value.string fv p)(h1:fv.cells=#[fv]):
  Fn prog 101 #[sv,fv] D (fun _ v=>v=.bool (xs.all p)):=by
 refine Zx 9 func101 rfl fun h0=>aA<|tO (vs:=[fv]) rfl rfl h1 rfl bQK fun b O I hB=>Zk rfl<|aL<|Za rfl<|Za0 rfl<|Zf rfl (fun O I=>z6 _ _ xs (fun x=> !p x) _ (Sl.at RS.up I Yn Ye) ⟨_,[],[qP b],rfl,fun x R hl=>aRP b fv p x R (hp.up ((I _ Ye).trans hl)) (hB.up ((I _ Ye).trans hl))⟩)<|Zau rfl<|We ?_;exact aE rfl fun D hD=>Xbq
theorem zL(sv:Γ)(xs:List Λ)(D:aC)(hS:Sl D RS 1 sv xs):Fn prog 37 #[sv] D (fun _ v=>v=qI (gX xs)):=by
 have hl:=hS.len;refine Zx 14 func37 rfl fun h0=>aA<|Zk rfl<|aL<|Za0 rfl<|Zk rfl<|bK<|Za rfl<|dD rfl U22 rfl Yn rfl rfl bQK<|Wav ?_;refine' cT 5 (s:=8) (p:=13) rfl (fun I=>?_) (fun I=>?_) ?_;rotate_left
 ·refine Zb rfl<|Zb rfl<|Zg rfl (fun U O=>aYO _ _ xs (fun l=>decide ((l.size:Int)≤50)) _ (Sl.at RS.up O Yn Ye) ⟨_,[_],[],rfl,fun l R _=>aZR 50 l R⟩ rfl)<|Waf ?_;exact aM 4
 ·refine Wc ?_;exact aM 4
 refine aF<|Zaf rfl (fun hc1=>?_) fun hc1=>?_
 ·refine Wcg ?_;exact aE rfl fun D hD=>by show Value.int _ _=_;rw[gX,bLR hc1]
 ·refine aQ<|aA<|We ?_;exact aE rfl fun D hD=>by show Value.int _ _=_;rw[gX,bLI (by rw[hc1];simp)]
end L12
end Go.Fs
