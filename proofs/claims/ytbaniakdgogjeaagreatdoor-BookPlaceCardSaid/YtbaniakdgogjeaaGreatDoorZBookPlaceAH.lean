/- Of the proof of BookPlace: V22, V23, V24, V29, SW9, SW10, SW11, SW12. -/
import Derived.Test.YtbaniakdgogjeaaGreatDoorZBookPlaceAG
import Derived.Test.YtbaniakdgogjeaaGreatDoorZBookPlaceAD
import Derived.Test.YtbaniakdgogjeaaGreatDoorZBookPlaceAF
import Derived.Test.YtbaniakdgogjeaaGreatDoorZBookPlaceAE
namespace Go.Fs
open Go.Proofs
namespace L3
open L1
open C3
section
variable{P:Program}{X:Cx}{Q:Exit→Act→World→Prop}{σ:bT}{μ:aC}{Ds:List aA}
theorem GL{c:Code}{μ':aC}(n:Nat)(he:μ.drop n=μ')(h:WC P X Q c σ μ' Ds):WC P X Q c σ μ Ds:=fun a w hh=>by
 subst he;exact h a w (hh.dropBoxes n)
end
def kM(bh bs bl bo blo bY br n:Nat)(c:List Sc)(cl:List Int):aC:=[(bh,.cells [.func (.func 187) #[] #[.pointer (some ⟨br,0,none⟩),.pointer (some ⟨bs,0,none⟩),.pointer (some ⟨bl,0,none⟩),.pointer (some ⟨bY,0,none⟩),.pointer (some ⟨bh,0,none⟩)]].toArray 172 (0,0)),(bs,.cells [.slice (some ⟨bo,0,none⟩) (n+1) (n+1)].toArray 223 (0,0)),(bl,.cells [.slice (some ⟨blo,0,none⟩) n n].toArray 33 (0,0)),(bo,.cells (bM c).toArray 149 (0,0)),(blo,.cells (ints cl).toArray 133 (0,0))]
theorem vC{bh bs bl bo blo bY br n:Nat}{c:List Sc}{cl:List Int}:(bo,Obj.cells (bM c).toArray 149 (0,0))∈kM bh bs bl bo blo bY br n c cl:=aJS _ (aJS _ (aJS _ (aNM _)))
def GZ(n bo:Nat)(vs:List Value):Prop:=∃blo,vs=[.slice (some ⟨blo,0,none⟩) n n,.slice (some ⟨bo,0,none⟩) (n+1) (n+1)]
def XF{α:Type}(P:Program)(Dr:aA)(lo l:Nat)(J Jx:List α→oB)(xs:List α)(enc:Nat→List Value→Prop)(cells:α→List Value):Prop:=∀pre x β D w bo vs,(∃r,xs=pre++x::r)→sR lo D w→J pre β D w→(∀b∈β,b<w.heap.size)→Le Dr D→enc bo vs→Q8 β D w bo (cells x)→
   fT P l vs w fun b D' w'=>sR lo D' w'∧sS β D w D' w'∧(if b then J (pre++[x]) β D' w' else Jx (pre++[x]) β D' w')
def uD(c:List Sc):Prop:=∀s∈c,(gZ s).length=10
theorem uD.set{c:List Sc}{s:Sc}(h:uD c)(hs:(gZ s).length=10)(i:Nat):uD (c.set i s):=fun u hu=>by
 rcases List.mem_or_eq_of_mem_set hu with hu|rfl
 ·exact h u hu
 ·exact hs
theorem BN{c:List Sc}(h:uD c):(bM c).length=c.length*10:=by
 induction c with
 |nil=>rfl
 |cons u c ih=>
  have:=ih fun s hs=>h s (aKA _ hs)
  rw[show bM (u::c)=ints (gZ u)++bM c from rfl,aJZ,aI,h u aKI,this,aKD];omega
theorem BT{c:List Sc}(h:uD c){i:Nat}{s:Sc}(hs:(gZ s).length=10)(hi:i<c.length):(bM c).take (i*10)++ints (gZ s)++(bM c).drop (i*10+(ints (gZ s)).length)=bM (c.set i s):=by
 rw[aI,hs];induction c generalizing i with
 |nil=>simp at hi
 |cons u c ih=>
  have hu:(ints (gZ u)).length=10:=by rw[aI,h u aKI]
  have e:bM (u::c)=ints (gZ u)++bM c:=rfl;rw[e];cases i with
  |zero=>
   rw[List.set_cons_zero,show bM (s::c)=ints (gZ s)++bM c from rfl,aOG,List.take_zero,aLG,aNB,aOF,aLJ Yd,aLG,hu];simp
  |succ i=>
   rw[List.set_cons_succ,show bM (u::c.set i s)=ints (gZ u)++bM (c.set i s)from rfl,←ih (fun t ht=>h t (aKA _ ht)) Yal];rw[List.take_append,aLA Yd,hu,aOF,aLJ Yd,aLG,hu,show(i+1)*10-10=i*10 by omega,show(i+1)*10+10-10=i*10+10 by omega];simp
def qS:Sc:=⟨[0,0,0,0],[0,0,0,0],0,0⟩
theorem eN(n:Nat):ints (List.replicate (n*10) 0)=bM (List.replicate n qS):=by
 induction n with
 |zero=>rfl
 |succ n ih=>rw[List.replicate_succ,show bM (qS::List.replicate n qS)=ints (gZ qS)++bM (List.replicate n qS)from rfl,←ih,show(n+1)*10=10+n*10 by omega,←List.replicate_append_replicate,eL];rfl
def wr(l:List Int)(k:Nat)(us:List Int):List Int:=l.take k++us++l.drop (k+us.length)
theorem UI{l us:List Int}{k:Nat}(h:k+us.length≤l.length):(wr l k us).length=l.length:=by unfold wr;simp;omega
theorem GW{l us:List Int}{k:Nat}:(ints l).take k++ints us++(ints l).drop (k+(ints us).length)=ints (wr l k us):=by
 unfold wr ints;simp
def oU(b:aZ)(i:Nat)(s:Sc):List (List Sc):=(rZ b (b.lines.drop i) i s).map (·.2)
def BP(b:aZ)(i:Nat)(s:Sc)(z:fC)(pre:List Sc)(k:Nat):List (List Sc):=((bN b.chairs z).take k).flatMap fun r=>if eF s r=true then(oU b (i+1) (bQ b s i r)).map (fun t=>(pre++[s])++t)else []
theorem VZ{b:aZ}{i:Nat}{s:Sc}(h:eS b s i=false):oU b i s=[]:=by
 unfold oU;cases e:b.lines.drop i with
 |nil=>unfold rZ;rw[aKO (by rw[h];simp)];rfl
 |cons l ls=>unfold rZ;rw[aKO (by rw[h];simp)];rfl
theorem SR{b:aZ}{i:Nat}{s:Sc}(h:eS b s i=true)(hi:b.lines.length≤i):oU b i s=[[s]]:=by
 unfold oU;rw[aLJ hi];unfold rZ;rw[aKS h];rfl
theorem LP{b:aZ}{i:Nat}{s:Sc}{z:fC}{pre:List Sc}(h:eS b s i=true)(hd:b.lines.drop i=z::b.lines.drop (i+1)):(oU b i s).map (fun t=>pre++t)=BP b i s z pre (bN b.chairs z).length:=by
 unfold oU BP;rw[hd,aLL];unfold rZ;rw[aKS h,List.map_flatMap,List.map_flatMap];congr 1;funext r;by_cases hc:eF s r=true
 ·rw[aKS hc,aKS hc,aJJ,aJJ];unfold oU;rw[aJJ];congr 1;funext x;simp
 ·rw[aKO hc,aKO hc];rfl
theorem OQ{b:aZ}{i:Nat}{s:Sc}{z:fC}{pre:List Sc}:BP b i s z pre 0=[]:=rfl
theorem QB{b:aZ}{i:Nat}{s:Sc}{z x:fC}{pre:List Sc}{k:Nat}(hx:(bN b.chairs z)[k]?= some x)(h:eF s x=false):BP b i s z pre (k+1)=BP b i s z pre k:=by
 unfold BP;rw[aKL,hx,aLZ,aLE,aLR,aKO (by rw[h];simp),aKF]
theorem zZ{b:aZ}{i:Nat}{s:Sc}{z x:fC}{pre:List Sc}{k:Nat}(hx:(bN b.chairs z)[k]?= some x)(h:eF s x=true):BP b i s z pre (k+1)=BP b i s z pre k++(oU b (i+1) (bQ b s i x)).map (fun t=>(pre++[s])++t):=by
 unfold BP;rw[aKL,hx,aLZ,aLE,aLR,aKS h]
theorem t7{b:aZ}{i:Nat}{s:Sc}{z:fC}{pre:List Sc}{k:Nat}:∃r,BP b i s z pre (bN b.chairs z).length=BP b i s z pre k++r:=by
 unfold BP;rw[aLL]
 conv=>enter [1,r,1];rw[←aNU k (bN b.chairs z),aLE]
 exact⟨_,rfl⟩
theorem tL{c pre:List Sc}{i:Nat}{s s':Sc}(h:c.take (i+1+1)=(pre++[s])++[s'])(hl:pre.length=i):c.take (i+1)=pre++[s]:=by
 have:=aKJ (List.take (i+1)) h;rw[List.take_take,aOI (Nat.le_succ _)]at this;rw[this,aLN Yad,aLA Yad]
theorem U0{c pre:List Sc}{i:Nat}{s':Sc}(hi:i<c.length)(h:c.take i=pre):(c.set i s').take (i+1)=pre++[s']:=by
 rw[aKL,List.getElem?_set_self hi,aLZ,List.take_set_of_le (aKR _),h]
theorem QR{c pre:List Sc}{i:Nat}{s:Sc}(h:c.take (i+1)=pre++[s])(hl:pre.length=i):c[i]?= some s:=by
 have:(c.take (i+1))[i]?= (pre++[s])[i]? :=by rw[h]
 rw[aMZ (Nat.lt_succ_self i),aJO Yd]at this;rw[this];simp[hl]
theorem aEA{bh bs bl bo blo bY br n q1 q2:Nat}{c:List Sc}{cl:List Int}{o1 o2:Obj}(hap:br∉aC.ks ((q2,o2)::(q1,o1)::kM bh bs bl bo blo bY br n c cl))(hnd:(((q2,o2)::(q1,o1)::kM bh bs bl bo blo bY br n c cl).map fun p=>p.1).Nodup):q2∉[br,bs,bo,q1]:=by
 intro h;simp only[aJX,aJN,aMT]at h;rcases h with rfl|rfl|rfl|rfl
 ·exact hap (by simp[aC.ks])
 ·simp[kM]at hnd
 ·simp[kM]at hnd
 ·simp at hnd
theorem UW{bh bs bl bo blo bY br n q1 q2:Nat}{c:List Sc}{cl:List Int}{o1 o2:Obj}(hnd:(((q2,o2)::(q1,o1)::kM bh bs bl bo blo bY br n c cl).map fun p=>p.1).Nodup):blo∉[bl,bs,q1,q2]∧bo∉[bl,bs,q1,q2]:=by
 constructor
 ·intro h;simp only[aJX,aJN,aMT]at h;rcases h with rfl|rfl|rfl|rfl<;>simp[kM]at hnd
 ·intro h;simp only[aJX,aJN,aMT]at h;rcases h with rfl|rfl|rfl|rfl<;>simp[kM]at hnd
def aDE(b:aZ)(J Jx:List (List Sc)→oB)(bh bs bl bo blo bY br:Nat)(pre:List Sc)(s:Sc)(i:Nat)(done:List (List Sc))(v:Value)(J':oB)(μ':aC):Prop:=
 ∃bb c' cl',v=.bool bb∧c'.length=b.lines.length+1∧uD c'∧cl'.length=b.lines.length*3∧c'.take (i+1)=pre++[s]∧μ'=kM bh bs bl bo blo bY br b.lines.length c' cl'∧(if bb=true then J'=J (done++(oU b i s).map fun t=>pre++t)else ∃p,J'=Jx p)
set_option maxHeartbeats 1000000 in
theorem XC{lo l:Nat}{b:aZ}{bv:Value}{xs:List (List Sc)}{Dr Dy:aA}{bh bs bl bo blo bY br:Nat}{lv cv:Value}(hbo:JO b)(hbv:bv=.agg #[.int .i64 b.chairs,.int .i64 b.coin,.int .i64 b.box,lv,cv])(hb0:fO Dr bv b)
  (hA:At Dr br 0 [.int .i64 b.chairs,.int .i64 b.coin,.int .i64 b.box,lv,cv]) (hB:At Dy bY 0 [.func (.yield l) #[] #[]]):
  ∀(j i:Nat) (pre:List Sc) (s:Sc) (c:List Sc) (cl:List Int) (done rest:List (List Sc)) (iv:Int) (Ds:List aA),Dr∈Ds→Dy∈Ds→iv=i→i+j=b.lines.length→pre.length=i→c.length=b.lines.length+1→uD c→cl.length=b.lines.length*3→c.take (i+1)=pre++[s]→aCJ b s i→
   xs=done++(oU b i s).map (fun t=>pre++t)++rest→∀(J Jx:List (List Sc)→oB),(∀pre,uQ lo (J pre))→(∀pre,uQ lo (Jx pre))→XF Tryz.prog Dr lo l J Jx xs (GZ b.lines.length) bM→
   aCA Tryz.prog 187 [.int .i64 iv,.pointer (some ⟨br,0,none⟩),.pointer (some ⟨bs,0,none⟩),.pointer (some ⟨bl,0,none⟩),.pointer (some ⟨bY,0,none⟩),.pointer (some ⟨bh,0,none⟩)] lo (J done) (kM bh bs bl bo blo bY br b.lines.length c cl) Ds (aDE b J Jx bh bs bl bo blo bY br pre s i done):=by
 subst hbv;intro j;induction j using Nat.strongRecOn with
 |_ j ih=>
 intro i pre s c cl done rest iv Ds hDr hDy hiv hij hl h9 h10 h11 hp hsb hxs J Jx hs hsx hY;replace ih:=fun j hj i pre s c cl done rest iv Ds h1 h2 h3 h4 h5 h6 h7 h8 h9 h10 h11=>ih j hj i pre s c cl done rest iv Ds h1 h2 h3 h4 h5 h6 h7 h8 h9 h10 h11 J Jx hs hsx hY
 subst hiv;obtain⟨lv',cv',he,hl',hc'⟩:=id hb0;obtain⟨rfl,rfl⟩:=X6 he;have hl8:=hbo.l8;have hch:=hbo.ch;have hco:=hbo.co;have hbx:=hbo.bx;have hmo:=hsb.mo;have hmi:=hsb.mi;have hs10:=tI hsb.lc hsb.lt;refine vG (μ:=kM bh bs bl bo blo bY br b.lines.length c cl) 68 Tryz.func187 rfl rfl rfl rfl<|C.s1<|Zi rfl<|L.n2<|aCX<|C.drawA [] 4 8 62 (fun _ _ _ h=>nJ (P:=Tryz.prog) (fn:=Tryz.f187) _ _ _ h)<|Zs rfl Tf.a36 rfl hA Tf.s36<|Zm rfl Tf.a223 rfl (List.Mem.tail _ (List.Mem.head _)) rfl<|Za rfl<|eG rfl U223 Tf.s149 rfl rfl Yd (by push_cast;omega) rfl trivial<|cS (n:=10) (us:=ints (gZ s)) rfl Tf.a149 Tf.s149 rfl (aJS _ (aJS _ (aJS _ (aNM _)))) (by rw[show 0+((i:Int)).toNat*10=i*10 by omega];exact vK h10 (QR hp hl)) (by simp[hs10]) aJN rfl trivial<|Za rfl ?_;refine Zd rfl (fun D1 hD1=>I8 _ b s i _ (hb0.up (hD1 _ Yaj)) hsb.lc hsb.lt)<|Zaf rfl<|L.n1<|aJ rfl (fun hc1=>?_) (fun hc1=>?_)
 ·refine C.s1<|Zi rfl<|L.n5<|Zaj ?_;exact iF (P:=Tryz.prog) (fn:=Tryz.f187) (N:=68) (vs:=[_]) rfl rfl ⟨rfl,aGL⟩ (fun D h=>⟨D,h,Le.refl D⟩) ⟨true,c,cl,rfl,h9,h10,h11,hp,rfl,by simp only[aMG];rw[VZ (by simpa using hc1)];simp⟩
 ·have hcd:eS b s i=true:=by simpa using hc1
  refine C.kn<|C.s2<|Za rfl<|Zm rfl Tf.a33 rfl (List.Mem.tail _ (List.Mem.tail _ (List.Mem.head _))) rfl<|iI rfl U33 rfl rfl rfl trivial<|dH rfl rfl rfl rfl trivial<|L.n1<|aF rfl (fun hc2=>?_) (fun hc2=>?_)
  ·have hrun:=SR hcd (show b.lines.length≤i by omega);have hleaf:pre++[s]=c:=by rw[←hp,aLA Yd]
   rw[hrun,aOE,hleaf,aKK,aNV]at hxs;refine C.s1<|Zg 0 rfl Tf.a295 rfl hB rfl<|Zm rfl Tf.a33 rfl (List.Mem.tail _ (List.Mem.tail _ (List.Mem.head _))) rfl<|Zm rfl Tf.a223 rfl (List.Mem.tail _ (List.Mem.head _)) rfl<|R7 (l:=l) (J1:=J (done++[c])) (J0:=Jx (done++[c])) rfl rfl rfl rfl (hs _) (hsx _) (fun D w hd hJ hb hl=>hY done c _ D w bo _ ⟨rest,hxs⟩ hd hJ (fun b hbm=>by obtain⟨p,hp,rfl⟩:=aJY.1 hbm;exact bC (hb p hp).1) (hl _ hDr) ⟨blo,rfl⟩ ⟨aJY.2 ⟨_,vC,rfl⟩,(hb _ vC).2,_,_,(hb _ vC).1⟩) rfl aGL (fun b1 J1 hJ1=>Zi rfl<|L.n5<|Zaj ?_)
   exact iF (P:=Tryz.prog) (fn:=Tryz.f187) (N:=68) (vs:=[_]) rfl rfl ⟨rfl,aGL⟩ (fun D h=>⟨D,h,Le.refl D⟩) ⟨b1,c,cl,rfl,h9,h10,h11,hp,rfl,by cases b1<;>simp only[hJ1,aMG,aLI,aMN];exact⟨_,rfl⟩;rw[hrun,aOE,hleaf]⟩
  ·have hil:i<b.lines.length:=by omega
   obtain⟨z,hz⟩:∃z,b.lines[i]?= some z:=⟨_,aJT hil⟩
   have hdr:b.lines.drop i=z::b.lines.drop (i+1):=by rw[aLV hil];congr 1;exact aKZ ((aJT hil).symm.trans hz)
   have hrun:=LP (pre:=pre) hcd hdr;rw[hrun]at hxs;refine C.kn<|aCX<|aCX<|iH [] 1 [0,1,2,3,4,5,8,6,7] [false,true,true,true,true,true,true,true,true] [(false,0),(true,1),(true,2),(true,3),(true,4),(true,5),(true,8),(true,6),(true,7)] Tf.follows (fun _ _ _ h=>nJ (P:=Tryz.prog) (fn:=Tryz.f187) _ _ _ h) Yg rfl<|Zs rfl Tf.a36 rfl hA Tf.s36<|Zj rfl Tf.f36_3 rfl<|Zg 3 rfl Tf.a33 rfl hA rfl<|Za rfl<|Zt rfl U33 Tf.s133 rfl hl' rfl hz (fun b1 o1 cs1 hr1 hcl1 hA1=>?_);obtain rfl:cs1=[.int .i64 _,.int .i64 _,.int .i64 _]:=hr1;refine Zs rfl Tf.a133 rfl hA1 Tf.s133<|Za rfl<|bU rfl rfl rfl (fun D2 hD2=>lU _ b z _ (hb0.up (hD2 _ Yaj)) Yd) rfl aGL (fun v2 D2 hD2 hp2=>?_);have hr_:=hp2;have hrl:=hr_.len;refine aW rfl U33 rfl Yk rfl rfl trivial<|L.n1<|Zai<|A2 (γ:=Nat×List Sc×List Int) (fun g=>(bN b.chairs z).length-g.1) (fun g=>g.1≤(bN b.chairs z).length∧g.2.1.length=b.lines.length+1∧uD g.2.1∧g.2.2.length=b.lines.length*3∧g.2.1.take (i+1)=pre++[s]) (fun g=>J (done++BP b i s z pre g.1)) (fun g=>[(36,.int .i64 (g.1:Int))]) [(35,_),(34,_),(7,_),(0,_),(1,_),(2,_),(3,_),(5,_)] (fun g=>kM bh bs bl bo blo bY br b.lines.length g.2.1 g.2.2) (fun g=>D2::Ds) (0,c,cl) ⟨by simp,h9,h10,h11,hp⟩ (by simp[OQ]) ⟨Yb,aGL⟩ C.rs (aJU _) (aD) ?_;rintro⟨k,c1,cl1⟩ ⟨h12,h91,h92,h93,hp1⟩;simp only at h12 h91 h92 h93 hp1;refine C.s1<|Zae rfl<|L.n2<|aF rfl (fun hc3=>?_) (fun hc3=>?_)
   ·simp only at hc3;obtain⟨x,hx⟩:∃x,(bN b.chairs z)[k]?= some x:=⟨_,aJT Yd⟩
    have hin:=((mU (hbo.ln z (aJV hz))).1 (aJV hx)).1;have hn10:(gZ (bQ b s i x)).length=10:=uT hsb.lc hsb.lt;have hif:(gZ (if eF s x=true then bQ b s i x else s)).length=10:=by split;exact hn10;exact hs10
    refine C.kn<|aCX<|Zai<|C.s1<|Zt rfl U33 Tf.s133 rfl hr_ rfl hx (fun b2 o2 cs2 hr2 hcl2 hA2=>?_);obtain rfl:cs2=[.int .i64 _,.int .i64 _,.int .i64 _]:=hr2;refine Zs rfl Tf.a133 rfl hA2 Tf.s133<|Zw rfl Tf.z133 rfl (fun q1=>Zu rfl Tf.s133 (bO.head)<|L.n2<|jU (dC.mk [br,bs,bo,q1]) 5 [false,true,true,true,true,true,true,true,false,false,true,true,true,false] [.fork [0,1,2,3,4,5,6] 7 (.fin [8,9,10,11]) 11 (.fin [7,8,9,10]),.fin [12,13]] Tf.follows (fun _ _ _ h=>nJ (P:=Tryz.prog) (fn:=Tryz.f187) _ _ _ h) Yg<|mE<|bG [(false,0),(true,1),(true,2),(true,3),(true,4),(true,5),(true,6)] rfl<|cO rfl Tf.a36 rfl hA (aKA _ hDr) Tf.s36 (dC.out Ye) rfl trivial<|aS rfl Tf.a223 rfl (List.Mem.tail _ (List.Mem.tail _ (List.Mem.head _))) rfl (dC.out Ye) rfl trivial<|Za rfl<|eG rfl U223 Tf.s149 rfl rfl Yd (by push_cast;omega) rfl trivial<|cS (n:=10) (us:=ints (gZ s)) rfl Tf.a149 Tf.s149 rfl (aJS _ (aJS _ (aJS _ (aJS _ (aNM _))))) (by rw[show 0+((i:Int)).toNat*10=i*10 by omega];exact vK h92 (QR hp1 hl)) (by simp[hs10]) (dC.out Ye) rfl aGL ?_);refine Za rfl<|aY (e:=133) (fz:=(0,0)) rfl Tf.a133 rfl (aNM _) Tf.s133 (dC.out Ye) rfl trivial<|Zz (cY true true rfl rfl ?_ ?_)
    ·refine Zd rfl (fun D3 hD3=>oJ _ b s i x _ (hb0.up (hD3 _ Yaj)) hsb.lc hsb.lt Yaf Yaf Yd Yd Yd Yd)<|Zz<|aP [(false,8),(false,9),(true,10),(true,11)] rfl<|Za rfl<|Zaa rfl<|Zaa rfl<|Zw rfl Tf.z149 rfl (fun q2=>Zz<|iA [(true,12),(false,13)] rfl<|bB hA Yaj (fun hap=>P5 (fun hnd=>fV (off:=0) (us:=ints (gZ (if eF s x=true then bQ b s i x else s))) (ws:=ints (gZ (if eF s x=true then bQ b s i x else s))) rfl rfl rfl rfl (by rw[show(ints _).length=10 by simp[hif]];exact Tf.s149) (bO.head) Yaq Yaq (bP _) (aKB (dC.in_ (aEA hap hnd))) aGL ?_)));refine Zi rfl<|Zz<|hZ<|Zag<|C.s2<|Za rfl<|Zaf rfl<|L.n1<|aJ rfl (fun hc4=>?_) (fun hc4=>?_)
     ·have hcan:eF s x=false:=by simpa using hc4
      refine aR<|Zah<|Zal<|Zag<|C.rg<|Zy rfl<|Za rfl<|Zz ?_;exact kT 22 (k+1,c1,cl1) ⟨by simp only;omega,h91,h92,h93,hp1⟩ Ym (by rw[QB hx hcan]) ⟨Yb,aGL⟩ rfl rfl (List.Sublist.cons _ (List.Sublist.cons _ (aJU _))) (aD)
     ·have hcan:eF s x=true:=by simpa using hc4
      rw[aKS hcan];obtain⟨rr,hr⟩:=t7 (b:=b) (i:=i) (s:=s) (z:=z) (pre:=pre) (k:=k+1);refine C.kn<|aCX<|C.drawA (dC.mk [bl,bs,q1,q2]) 1 11 510 (fun _ _ _ h=>nJ (P:=Tryz.prog) (fn:=Tryz.f187) _ _ _ h)<|aS rfl Tf.a33 rfl (List.Mem.tail _ (List.Mem.tail _ (List.Mem.tail _ (List.Mem.tail _ (List.Mem.head _))))) rfl (dC.out Ye) rfl trivial<|Za rfl<|aS rfl Tf.a223 rfl (List.Mem.tail _ (List.Mem.tail _ (List.Mem.tail _ (List.Mem.head _)))) rfl (dC.out Ye) rfl trivial<|Za rfl<|Zy rfl<|aY (e:=133) (fz:=(0,0)) rfl Tf.a133 rfl (aJS _ (aNM _)) Tf.s133 (dC.out Ye) rfl trivial<|aY (e:=149) (fz:=(0,0)) rfl Tf.a149 rfl (aNM _) (by rw[show(ints _).length=10 by simp[hn10]];exact Tf.s149) (dC.out Ye) rfl trivial<|eG rfl U33 Tf.s133 rfl rfl Yd Yd rfl trivial<|P5 (fun hnd=>?_);refine fV (off:=i*3) (us:=ints [x.kind,x.chair,x.token]) (ws:=ints (wr cl1 (i*3) [x.kind,x.chair,x.token])) rfl (mH Yd) rfl rfl Tf.s133 (.tail (.tail (.tail (.tail (.tail (.tail .head)))))) Yad GW (bP _) (aKB (dC.in_ (UW hnd).1)) trivial<|eG rfl U223 Tf.s149 rfl rfl Yd (by push_cast;omega) rfl trivial<|fV (off:=(i+1)*10) (us:=ints (gZ (bQ b s i x))) (ws:=bM (c1.set (i+1) (bQ b s i x))) rfl (mH Yd) rfl rfl (by rw[show(ints _).length=10 by simp[hn10]];exact Tf.s149) (.tail (.tail (.tail (.tail (.tail .head))))) (by rw[BN h92,aI,hn10];omega) (BT h92 hn10 Yd) (bP _) (aKB (dC.in_ (UW hnd).2)) trivial<|L.n2<|GL (μ':=kM bh bs bl bo blo bY br b.lines.length (c1.set (i+1) (bQ b s i x)) (wr cl1 (i*3) [x.kind,x.chair,x.token])) 2 rfl<|C.rg<|Zm rfl Tf.a172 rfl (List.Mem.head _) rfl<|Za rfl<|Zy rfl<|mP rfl rfl rfl rfl (ih (j-1) Yd (i+1) (pre++[s]) (bQ b s i x) (c1.set (i+1) (bQ b s i x)) (wr cl1 (i*3) [x.kind,x.chair,x.token]) (done++BP b i s z pre k) (rr++rest) (i+1:Int) _ (aKA _ hDr) (aKA _ hDy) Yd Yd Yad (by simpa using h91) (h92.set hn10 _) (by rw[UI Yad];exact h93) (U0 Yd hp1) (sZ hbo hsb x i) (by rw[hxs,hr,zZ hx hcan];simp)) rfl aGL ?_
      rintro _ J2 _ ⟨b2,c2,cl2,rfl,h9',h10',h11',hp',rfl,hJ2⟩;refine Zaf rfl<|L.n1<|aJ rfl (fun hc5=>?_) (fun hc5=>?_)
      ·obtain rfl:b2=false:=by simpa using hc5
       refine C.s1<|Zi rfl<|L.n5<|BW<|Zaj<|Zaj<|BW<|Zaj ?_;exact iF (P:=Tryz.prog) (fn:=Tryz.f187) (N:=68) (vs:=[_]) rfl rfl ⟨rfl,aGL⟩ (fun D h=>⟨D,aKA _ h,Le.refl D⟩) ⟨false,c2,cl2,rfl,h9',h10',h11',tL hp' hl,rfl,by simpa using hJ2⟩
      ·obtain rfl:b2=true:=by simpa using hc5
       refine aAX<|Zak<|Zag<|C.rg<|Zy rfl<|Za rfl<|Zz ?_;exact kT 36 (k+1,c2,cl2) ⟨by simp only;omega,h9',h10',h11',tL hp' hl⟩ Ym (by simpa only[aMG,zZ hx hcan,aKK]using hJ2) ⟨Yb,aGL⟩ rfl rfl (aJU _) (aD)
    ·refine Zw rfl Tf.z149 rfl (fun q2=>Zz<|aP [(true,7),(false,8),(false,9),(true,10)] rfl<|Zd rfl (fun D3 hD3=>oJ _ b s i x _ (hb0.up (hD3 _ Yaj)) hsb.lc hsb.lt Yaf Yaf Yd Yd Yd Yd)<|Za rfl<|Zaa rfl<|Zaa rfl<|Zz<|iA [(true,12),(false,13)] rfl<|bB hA Yaj (fun hap=>P5 (fun hnd=>fV (off:=0) (us:=ints (gZ (if eF s x=true then bQ b s i x else s))) (ws:=ints (gZ (if eF s x=true then bQ b s i x else s))) rfl rfl rfl rfl (by rw[show(ints _).length=10 by simp[hif]];exact Tf.s149) (bO.head) Yaq Yaq (bP _) (aKB (dC.in_ (aEA hap hnd))) aGL ?_)));refine Zi rfl<|Zz<|hZ<|Zag<|C.s2<|Za rfl<|Zaf rfl<|L.n1<|aJ rfl (fun hc4=>?_) (fun hc4=>?_)
     ·have hcan:eF s x=false:=by simpa using hc4
      refine aR<|Zah<|Zal<|Zag<|C.rg<|Zy rfl<|Za rfl<|Zz ?_;exact kT 22 (k+1,c1,cl1) ⟨by simp only;omega,h91,h92,h93,hp1⟩ Ym (by rw[QB hx hcan]) ⟨Yb,aGL⟩ rfl rfl (List.Sublist.cons _ (List.Sublist.cons _ (aJU _))) (aD)
     ·have hcan:eF s x=true:=by simpa using hc4
      rw[aKS hcan];obtain⟨rr,hr⟩:=t7 (b:=b) (i:=i) (s:=s) (z:=z) (pre:=pre) (k:=k+1);refine C.kn<|aCX<|C.drawA (dC.mk [bl,bs,q1,q2]) 1 11 510 (fun _ _ _ h=>nJ (P:=Tryz.prog) (fn:=Tryz.f187) _ _ _ h)<|aS rfl Tf.a33 rfl (List.Mem.tail _ (List.Mem.tail _ (List.Mem.tail _ (List.Mem.tail _ (List.Mem.head _))))) rfl (dC.out Ye) rfl trivial<|Za rfl<|aS rfl Tf.a223 rfl (List.Mem.tail _ (List.Mem.tail _ (List.Mem.tail _ (List.Mem.head _)))) rfl (dC.out Ye) rfl trivial<|Za rfl<|Zy rfl<|aY (e:=133) (fz:=(0,0)) rfl Tf.a133 rfl (aJS _ (aNM _)) Tf.s133 (dC.out Ye) rfl trivial<|aY (e:=149) (fz:=(0,0)) rfl Tf.a149 rfl (aNM _) (by rw[show(ints _).length=10 by simp[hn10]];exact Tf.s149) (dC.out Ye) rfl trivial<|eG rfl U33 Tf.s133 rfl rfl Yd Yd rfl trivial<|P5 (fun hnd=>?_);refine fV (off:=i*3) (us:=ints [x.kind,x.chair,x.token]) (ws:=ints (wr cl1 (i*3) [x.kind,x.chair,x.token])) rfl (mH Yd) rfl rfl Tf.s133 (.tail (.tail (.tail (.tail (.tail (.tail .head)))))) Yad GW (bP _) (aKB (dC.in_ (UW hnd).1)) trivial<|eG rfl U223 Tf.s149 rfl rfl Yd (by push_cast;omega) rfl trivial<|fV (off:=(i+1)*10) (us:=ints (gZ (bQ b s i x))) (ws:=bM (c1.set (i+1) (bQ b s i x))) rfl (mH Yd) rfl rfl (by rw[show(ints _).length=10 by simp[hn10]];exact Tf.s149) (.tail (.tail (.tail (.tail (.tail .head))))) (by rw[BN h92,aI,hn10];omega) (BT h92 hn10 Yd) (bP _) (aKB (dC.in_ (UW hnd).2)) trivial<|L.n2<|GL (μ':=kM bh bs bl bo blo bY br b.lines.length (c1.set (i+1) (bQ b s i x)) (wr cl1 (i*3) [x.kind,x.chair,x.token])) 2 rfl<|C.rg<|Zm rfl Tf.a172 rfl (List.Mem.head _) rfl<|Za rfl<|Zy rfl<|mP rfl rfl rfl rfl (ih (j-1) Yd (i+1) (pre++[s]) (bQ b s i x) (c1.set (i+1) (bQ b s i x)) (wr cl1 (i*3) [x.kind,x.chair,x.token]) (done++BP b i s z pre k) (rr++rest) (i+1:Int) _ (aKA _ hDr) (aKA _ hDy) Yd Yd Yad (by simpa using h91) (h92.set hn10 _) (by rw[UI Yad];exact h93) (U0 Yd hp1) (sZ hbo hsb x i) (by rw[hxs,hr,zZ hx hcan];simp)) rfl aGL ?_
      rintro _ J2 _ ⟨b2,c2,cl2,rfl,h9',h10',h11',hp',rfl,hJ2⟩;refine Zaf rfl<|L.n1<|aJ rfl (fun hc5=>?_) (fun hc5=>?_)
      ·obtain rfl:b2=false:=by simpa using hc5
       refine C.s1<|Zi rfl<|L.n5<|BW<|Zaj<|Zaj<|BW<|Zaj ?_;exact iF (P:=Tryz.prog) (fn:=Tryz.f187) (N:=68) (vs:=[_]) rfl rfl ⟨rfl,aGL⟩ (fun D h=>⟨D,aKA _ h,Le.refl D⟩) ⟨false,c2,cl2,rfl,h9',h10',h11',tL hp' hl,rfl,by simpa using hJ2⟩
      ·obtain rfl:b2=true:=by simpa using hc5
       refine aAX<|Zak<|Zag<|C.rg<|Zy rfl<|Za rfl<|Zz ?_;exact kT 36 (k+1,c2,cl2) ⟨by simp only;omega,h9',h10',h11',tL hp' hl⟩ Ym (by simpa only[aMG,zZ hx hcan,aKK]using hJ2) ⟨Yb,aGL⟩ rfl rfl (aJU _) (aD)
   ·have hk:k=(bN b.chairs z).length:=by simp only at hc3;omega
    refine aR<|Zah<|Zah<|Zal<|Zag<|C.s1<|Zi rfl<|L.n5 ?_;exact iF (P:=Tryz.prog) (fn:=Tryz.f187) (N:=68) (vs:=[_]) rfl rfl ⟨rfl,aGL⟩ (fun D h=>⟨D,aKA _ h,Le.refl D⟩) ⟨true,c1,cl1,rfl,h91,h92,h93,hp1,rfl,by simp only[aMG];rw[hrun,hk]⟩
theorem xO{n:Nat}:uD (List.replicate n qS):=fun s hs=>by rw[List.eq_of_mem_replicate hs];rfl
set_option maxHeartbeats 1000000 in
theorem vD{b:aZ}{bv lv cv:Value}{Dr:aA}{br:Nat}(hbo:JO b)(hbv:bv=.agg #[.int .i64 b.chairs,.int .i64 b.coin,.int .i64 b.box,lv,cv])(hb0:fO Dr bv b)(hA:At Dr br 0 [.int .i64 b.chairs,.int .i64 b.coin,.int .i64 b.box,lv,cv]):
  HM Tryz.prog 186 [.pointer (some ⟨br,0,none⟩)] Dr (oU b 0 (eH b)) (GZ b.lines.length) bM:=by
 subst hbv;obtain⟨lv',cv',he,hl',hc'⟩:=id hb0;obtain⟨rfl,rfl⟩:=X6 he;have hl8:=hbo.l8;refine EW 22 Tryz.func186 rfl rfl rfl rfl (fun lo l J Jx hs hsx hY=>C.s1<|Zv rfl (fun q1 E1 hE1 hB1=>L.n2<|jU (dC.mk [br]) 4 [false,false,false,true,true,true,true,true,true,true,true,true,false] [.forkN [0,1,2,4,5,6,7] 3 [8,9,10] (H7 [(3,.forkN [] 8 [9,10] (H7 [(8,.fork [] 9 (.fin [10,11]) 10 (.fin [9,11])),(9,.fork [] 8 (.fin [10,11]) 10 (.fork [] 8 (.fin [11]) 11 (.fin [8]))),(10,.fork [] 8 (.fin [9,11]) 9 (.fork [] 8 (.fin [11]) 11 (.fin [8])))])),(8,.forkN [] 3 [9,10] (H7 [(3,.fork [] 9 (.fin [10,11]) 10 (.fin [9,11])),(9,.fork [] 3 (.fin [10,11]) 10 (.fin [3,11])),(10,.fork [] 3 (.fin [9,11]) 9 (.fin [3,11]))])),(9,.forkN [] 3 [8,10] (H7 [(3,.fork [] 8 (.fin [10,11]) 10 (.fork [] 8 (.fin [11]) 11 (.fin [8]))),(8,.fork [] 3 (.fin [10,11]) 10 (.fin [3,11])),(10,.fork [] 3 (.fork [] 8 (.fin [11]) 11 (.fin [8])) 8 (.fin [3,11]))])),(10,.forkN [] 3 [8,9] (H7 [(3,.fork [] 8 (.fin [9,11]) 9 (.fork [] 8 (.fin [11]) 11 (.fin [8]))),(8,.fork [] 3 (.fin [9,11]) 9 (.fin [3,11])),(9,.fork [] 3 (.fork [] 8 (.fin [11]) 11 (.fin [8])) 8 (.fin [3,11]))]))]),.fin [12]] Tf.follows (fun _ _ _ h=>nJ (P:=Tryz.prog) (fn:=Tryz.f186) _ _ _ h) Yg<|QE (γ:=Nat×Nat×Nat×Nat) (fun g=>True) (fun g=>[(3,.pointer (some ⟨g.1,0,none⟩)),(4,.pointer (some ⟨g.2.1,0,none⟩)),(14,.slice (some ⟨g.2.2.1,0,none⟩) (b.lines.length+1) (b.lines.length+1)),(2,.pointer (some ⟨q1,0,none⟩)),(1,.pointer (some ⟨br,0,none⟩)),(0,.func (.yield l) #[] #[])]) (fun g=>[(g.2.1,.cells [.slice none 0 0].toArray 223 (0,0)),(g.1,.cells [.slice (some ⟨g.2.2.2,0,none⟩) b.lines.length b.lines.length].toArray 33 (0,0)),(g.2.2.1,.cells (bM (List.replicate (b.lines.length+1) qS)).toArray 149 (0,0)),(g.2.2.2,.cells (ints (List.replicate (b.lines.length*3) 0)).toArray 133 (0,0))]) (fun g=>[E1,Dr]) [.forkN [0,1,2,4,5,6,7] 3 [8,9,10] (H7 [(3,.forkN [] 8 [9,10] (H7 [(8,.fork [] 9 (.fin [10,11]) 10 (.fin [9,11])),(9,.fork [] 8 (.fin [10,11]) 10 (.fork [] 8 (.fin [11]) 11 (.fin [8]))),(10,.fork [] 8 (.fin [9,11]) 9 (.fork [] 8 (.fin [11]) 11 (.fin [8])))])),(8,.forkN [] 3 [9,10] (H7 [(3,.fork [] 9 (.fin [10,11]) 10 (.fin [9,11])),(9,.fork [] 3 (.fin [10,11]) 10 (.fin [3,11])),(10,.fork [] 3 (.fin [9,11]) 9 (.fin [3,11]))])),(9,.forkN [] 3 [8,10] (H7 [(3,.fork [] 8 (.fin [10,11]) 10 (.fork [] 8 (.fin [11]) 11 (.fin [8]))),(8,.fork [] 3 (.fin [10,11]) 10 (.fin [3,11])),(10,.fork [] 3 (.fork [] 8 (.fin [11]) 11 (.fin [8])) 8 (.fin [3,11]))])),(10,.forkN [] 3 [8,9] (H7 [(3,.fork [] 8 (.fin [9,11]) 9 (.fork [] 8 (.fin [11]) 11 (.fin [8]))),(8,.fork [] 3 (.fin [9,11]) 9 (.fin [3,11])),(9,.fork [] 3 (.fork [] 8 (.fin [11]) 11 (.fin [8])) 8 (.fin [3,11]))]))])] [.fin [12]] rfl ?_ ?_))
 ·refine mE<|lY [(false,0),(false,1),(false,2),(true,4),(true,5),(true,6),(true,7)] rfl<|Zj rfl Tf.f36_3 rfl<|bD rfl (k:=3) Tf.a33 rfl hA Ye rfl (dC.out Ye) rfl trivial<|aW rfl U33 rfl hl' rfl rfl trivial<|Zj rfl Tf.f36_3 rfl<|bD rfl (k:=3) Tf.a33 rfl hA Ye rfl (dC.out Ye) rfl trivial<|aW rfl U33 rfl hl' rfl rfl trivial<|Zy rfl ?_;refine Zz (eJ true rfl rfl ?_ (eJ true rfl rfl ?_ (eJ true rfl rfl ?_ (eJ true rfl rfl ?_ (rT)))))
  ·refine aO (n:=b.lines.length) rfl U33 Tf.s133 Tf.z133 rfl Tf.i133 rfl rfl Yd (aV Ye rfl) rfl aGL (fun blo=>Zz<|lY [] rfl ?_);refine Zz (eJ true rfl rfl ?_ (eJ true rfl rfl ?_ (eJ true rfl rfl ?_ (rT))))
   ·refine aO (n:=b.lines.length+1) rfl U223 Tf.s149 Tf.z149 rfl Tf.i149 Yb Yb Yd ((aV Ye rfl).trans (eN _)) rfl aGL (fun bo=>Zz<|bG [] rfl<|Zz (cY true true rfl rfl ?_ ?_))
    ·refine Zw rfl Tf.z33 rfl (fun q2=>Zz<|aP [(true,10),(true,11)] rfl<|Zw rfl Tf.z223 rfl (fun q3=>bB hA Ye (fun hap=>Zn 0 [.slice none 0 0] [.slice (some ⟨blo,0,none⟩) b.lines.length b.lines.length] [.slice (some ⟨blo,0,none⟩) b.lines.length b.lines.length] rfl Tf.s33 (.tail (bO.head)) rfl (aKB (dC.in_ Yn))<|Zz ?_)));exact fun a w hh=>⟨(q2,q3,bo,blo),aGL,(hh.perm (μ':=[(q3,.cells [.slice none 0 0].toArray 223 (0,0)),(q2,.cells [.slice (some ⟨blo,0,none⟩) b.lines.length b.lines.length].toArray 33 (0,0)),(bo,.cells (bM (List.replicate (b.lines.length+1) qS)).toArray 149 (0,0)),(blo,.cells (ints (List.replicate (b.lines.length*3) 0)).toArray 133 (0,0))]) Ye Yz).weak C.rs (aJU _) aD⟩
    ·refine Zw rfl Tf.z223 rfl (fun q2=>Zz<|aP [(true,9),(true,11)] rfl<|Zw rfl Tf.z33 rfl (fun q3=>bB hA Ye (fun hap=>Zn 0 [.slice none 0 0] [.slice (some ⟨blo,0,none⟩) b.lines.length b.lines.length] [.slice (some ⟨blo,0,none⟩) b.lines.length b.lines.length] rfl Tf.s33 (bO.head) rfl (aKB (dC.in_ Yr))<|Zz ?_)));exact fun a w hh=>⟨(q3,q2,bo,blo),aGL,(hh.perm (μ':=[(q2,.cells [.slice none 0 0].toArray 223 (0,0)),(q3,.cells [.slice (some ⟨blo,0,none⟩) b.lines.length b.lines.length].toArray 33 (0,0)),(bo,.cells (bM (List.replicate (b.lines.length+1) qS)).toArray 149 (0,0)),(blo,.cells (ints (List.replicate (b.lines.length*3) 0)).toArray 133 (0,0))]) Ye Yz).weak C.rs (aJU _) aD⟩
   ·refine Zw rfl Tf.z33 rfl (fun q2=>Zz<|bG [] rfl<|Zz (cY true true rfl rfl ?_ ?_))
    ·refine aO (n:=b.lines.length+1) rfl U223 Tf.s149 Tf.z149 rfl Tf.i149 Yb Yb Yd ((aV Ye rfl).trans (eN _)) rfl aGL (fun bo=>Zz<|aP [(true,10),(true,11)] rfl<|Zw rfl Tf.z223 rfl (fun q3=>bB hA Ye (fun hap=>Zn 0 [.slice none 0 0] [.slice (some ⟨blo,0,none⟩) b.lines.length b.lines.length] [.slice (some ⟨blo,0,none⟩) b.lines.length b.lines.length] rfl Tf.s33 (.tail (.tail (bO.head))) rfl (aKB (dC.in_ Yl))<|Zz ?_)));exact fun a w hh=>⟨(q2,q3,bo,blo),aGL,(hh.perm (μ':=[(q3,.cells [.slice none 0 0].toArray 223 (0,0)),(q2,.cells [.slice (some ⟨blo,0,none⟩) b.lines.length b.lines.length].toArray 33 (0,0)),(bo,.cells (bM (List.replicate (b.lines.length+1) qS)).toArray 149 (0,0)),(blo,.cells (ints (List.replicate (b.lines.length*3) 0)).toArray 133 (0,0))]) Ye Yz).weak C.rs (aJU _) aD⟩
    ·refine Zw rfl Tf.z223 rfl (fun q3=>Zz<|bG [] rfl<|Zz (cY true true rfl rfl ?_ ?_))
     ·refine aO (n:=b.lines.length+1) rfl U223 Tf.s149 Tf.z149 rfl Tf.i149 Yb Yb Yd ((aV Ye rfl).trans (eN _)) rfl aGL (fun bo=>Zz<|aP [(true,11)] rfl<|bB hA Ye (fun hap=>Zn 0 [.slice none 0 0] [.slice (some ⟨blo,0,none⟩) b.lines.length b.lines.length] [.slice (some ⟨blo,0,none⟩) b.lines.length b.lines.length] rfl Tf.s33 (.tail (.tail (bO.head))) rfl (aKB (dC.in_ Yl))<|Zz ?_));exact fun a w hh=>⟨(q2,q3,bo,blo),aGL,(hh.perm (μ':=[(q3,.cells [.slice none 0 0].toArray 223 (0,0)),(q2,.cells [.slice (some ⟨blo,0,none⟩) b.lines.length b.lines.length].toArray 33 (0,0)),(bo,.cells (bM (List.replicate (b.lines.length+1) qS)).toArray 149 (0,0)),(blo,.cells (ints (List.replicate (b.lines.length*3) 0)).toArray 133 (0,0))]) Ye Yz).weak C.rs (aJU _) aD⟩
     ·refine bB hA Ye (fun hap=>Zn 0 [.slice none 0 0] [.slice (some ⟨blo,0,none⟩) b.lines.length b.lines.length] [.slice (some ⟨blo,0,none⟩) b.lines.length b.lines.length] rfl Tf.s33 (.tail (bO.head)) rfl (aKB (dC.in_ Yn))<|Zz<|aP [(true,8)] rfl<|aO (n:=b.lines.length+1) rfl U223 Tf.s149 Tf.z149 rfl Tf.i149 Yb Yb Yd ((aV Ye rfl).trans (eN _)) rfl aGL (fun bo=>Zz ?_));exact fun a w hh=>⟨(q2,q3,bo,blo),aGL,(hh.perm (μ':=[(q3,.cells [.slice none 0 0].toArray 223 (0,0)),(q2,.cells [.slice (some ⟨blo,0,none⟩) b.lines.length b.lines.length].toArray 33 (0,0)),(bo,.cells (bM (List.replicate (b.lines.length+1) qS)).toArray 149 (0,0)),(blo,.cells (ints (List.replicate (b.lines.length*3) 0)).toArray 133 (0,0))]) Ye Yz).weak C.rs (aJU _) aD⟩
   ·refine Zw rfl Tf.z223 rfl (fun q2=>Zz<|bG [] rfl<|Zz (cY true true rfl rfl ?_ ?_))
    ·refine aO (n:=b.lines.length+1) rfl U223 Tf.s149 Tf.z149 rfl Tf.i149 Yb Yb Yd ((aV Ye rfl).trans (eN _)) rfl aGL (fun bo=>Zz<|aP [(true,9),(true,11)] rfl<|Zw rfl Tf.z33 rfl (fun q3=>bB hA Ye (fun hap=>Zn 0 [.slice none 0 0] [.slice (some ⟨blo,0,none⟩) b.lines.length b.lines.length] [.slice (some ⟨blo,0,none⟩) b.lines.length b.lines.length] rfl Tf.s33 (bO.head) rfl (aKB (dC.in_ Yr))<|Zz ?_)));exact fun a w hh=>⟨(q3,q2,bo,blo),aGL,(hh.perm (μ':=[(q2,.cells [.slice none 0 0].toArray 223 (0,0)),(q3,.cells [.slice (some ⟨blo,0,none⟩) b.lines.length b.lines.length].toArray 33 (0,0)),(bo,.cells (bM (List.replicate (b.lines.length+1) qS)).toArray 149 (0,0)),(blo,.cells (ints (List.replicate (b.lines.length*3) 0)).toArray 133 (0,0))]) Ye Yz).weak C.rs (aJU _) aD⟩
    ·refine Zw rfl Tf.z33 rfl (fun q3=>Zz<|bG [] rfl<|Zz (cY true true rfl rfl ?_ ?_))
     ·refine aO (n:=b.lines.length+1) rfl U223 Tf.s149 Tf.z149 rfl Tf.i149 Yb Yb Yd ((aV Ye rfl).trans (eN _)) rfl aGL (fun bo=>Zz<|aP [(true,11)] rfl<|bB hA Ye (fun hap=>Zn 0 [.slice none 0 0] [.slice (some ⟨blo,0,none⟩) b.lines.length b.lines.length] [.slice (some ⟨blo,0,none⟩) b.lines.length b.lines.length] rfl Tf.s33 (.tail (bO.head)) rfl (aKB (dC.in_ Yn))<|Zz ?_));exact fun a w hh=>⟨(q3,q2,bo,blo),aGL,(hh.perm (μ':=[(q2,.cells [.slice none 0 0].toArray 223 (0,0)),(q3,.cells [.slice (some ⟨blo,0,none⟩) b.lines.length b.lines.length].toArray 33 (0,0)),(bo,.cells (bM (List.replicate (b.lines.length+1) qS)).toArray 149 (0,0)),(blo,.cells (ints (List.replicate (b.lines.length*3) 0)).toArray 133 (0,0))]) Ye Yz).weak C.rs (aJU _) aD⟩
     ·refine bB hA Ye (fun hap=>Zn 0 [.slice none 0 0] [.slice (some ⟨blo,0,none⟩) b.lines.length b.lines.length] [.slice (some ⟨blo,0,none⟩) b.lines.length b.lines.length] rfl Tf.s33 (bO.head) rfl (aKB (dC.in_ Yr))<|Zz<|aP [(true,8)] rfl<|aO (n:=b.lines.length+1) rfl U223 Tf.s149 Tf.z149 rfl Tf.i149 Yb Yb Yd ((aV Ye rfl).trans (eN _)) rfl aGL (fun bo=>Zz ?_));exact fun a w hh=>⟨(q3,q2,bo,blo),aGL,(hh.perm (μ':=[(q2,.cells [.slice none 0 0].toArray 223 (0,0)),(q3,.cells [.slice (some ⟨blo,0,none⟩) b.lines.length b.lines.length].toArray 33 (0,0)),(bo,.cells (bM (List.replicate (b.lines.length+1) qS)).toArray 149 (0,0)),(blo,.cells (ints (List.replicate (b.lines.length*3) 0)).toArray 133 (0,0))]) Ye Yz).weak C.rs (aJU _) aD⟩
  ·refine aO (n:=b.lines.length+1) rfl U223 Tf.s149 Tf.z149 rfl Tf.i149 Yb Yb Yd ((aV Ye rfl).trans (eN _)) rfl aGL (fun bo=>Zz<|lY [] rfl ?_);refine Zz (eJ true rfl rfl ?_ (eJ true rfl rfl ?_ (eJ true rfl rfl ?_ (rT))))
   ·refine aO (n:=b.lines.length) rfl U33 Tf.s133 Tf.z133 rfl Tf.i133 rfl rfl Yd (aV Ye rfl) rfl aGL (fun blo=>Zz<|bG [] rfl<|Zz (cY true true rfl rfl ?_ ?_))
    ·refine Zw rfl Tf.z33 rfl (fun q2=>Zz<|aP [(true,10),(true,11)] rfl<|Zw rfl Tf.z223 rfl (fun q3=>bB hA Ye (fun hap=>Zn 0 [.slice none 0 0] [.slice (some ⟨blo,0,none⟩) b.lines.length b.lines.length] [.slice (some ⟨blo,0,none⟩) b.lines.length b.lines.length] rfl Tf.s33 (.tail (bO.head)) rfl (aKB (dC.in_ Yn))<|Zz ?_)));exact fun a w hh=>⟨(q2,q3,bo,blo),aGL,(hh.perm (μ':=[(q3,.cells [.slice none 0 0].toArray 223 (0,0)),(q2,.cells [.slice (some ⟨blo,0,none⟩) b.lines.length b.lines.length].toArray 33 (0,0)),(bo,.cells (bM (List.replicate (b.lines.length+1) qS)).toArray 149 (0,0)),(blo,.cells (ints (List.replicate (b.lines.length*3) 0)).toArray 133 (0,0))]) Ye Yz).weak C.rs (aJU _) aD⟩
    ·refine Zw rfl Tf.z223 rfl (fun q2=>Zz<|aP [(true,9),(true,11)] rfl<|Zw rfl Tf.z33 rfl (fun q3=>bB hA Ye (fun hap=>Zn 0 [.slice none 0 0] [.slice (some ⟨blo,0,none⟩) b.lines.length b.lines.length] [.slice (some ⟨blo,0,none⟩) b.lines.length b.lines.length] rfl Tf.s33 (bO.head) rfl (aKB (dC.in_ Yr))<|Zz ?_)));exact fun a w hh=>⟨(q3,q2,bo,blo),aGL,(hh.perm (μ':=[(q2,.cells [.slice none 0 0].toArray 223 (0,0)),(q3,.cells [.slice (some ⟨blo,0,none⟩) b.lines.length b.lines.length].toArray 33 (0,0)),(bo,.cells (bM (List.replicate (b.lines.length+1) qS)).toArray 149 (0,0)),(blo,.cells (ints (List.replicate (b.lines.length*3) 0)).toArray 133 (0,0))]) Ye Yz).weak C.rs (aJU _) aD⟩
   ·refine Zw rfl Tf.z33 rfl (fun q2=>Zz<|bG [] rfl<|Zz (cY true true rfl rfl ?_ ?_))
    ·refine aO (n:=b.lines.length) rfl U33 Tf.s133 Tf.z133 rfl Tf.i133 rfl rfl Yd (aV Ye rfl) rfl aGL (fun blo=>Zz<|aP [(true,10),(true,11)] rfl<|Zw rfl Tf.z223 rfl (fun q3=>bB hA Ye (fun hap=>Zn 0 [.slice none 0 0] [.slice (some ⟨blo,0,none⟩) b.lines.length b.lines.length] [.slice (some ⟨blo,0,none⟩) b.lines.length b.lines.length] rfl Tf.s33 (.tail (.tail (bO.head))) rfl (aKB (dC.in_ Yl))<|Zz ?_)));exact fun a w hh=>⟨(q2,q3,bo,blo),aGL,(hh.perm (μ':=[(q3,.cells [.slice none 0 0].toArray 223 (0,0)),(q2,.cells [.slice (some ⟨blo,0,none⟩) b.lines.length b.lines.length].toArray 33 (0,0)),(bo,.cells (bM (List.replicate (b.lines.length+1) qS)).toArray 149 (0,0)),(blo,.cells (ints (List.replicate (b.lines.length*3) 0)).toArray 133 (0,0))]) Ye Yz).weak C.rs (aJU _) aD⟩
    ·refine Zw rfl Tf.z223 rfl (fun q3=>Zz<|aP [(true,3),(true,11)] rfl<|aO (n:=b.lines.length) rfl U33 Tf.s133 Tf.z133 rfl Tf.i133 rfl rfl Yd (aV Ye rfl) rfl aGL (fun blo=>bB hA Ye (fun hap=>Zn 0 [.slice none 0 0] [.slice (some ⟨blo,0,none⟩) b.lines.length b.lines.length] [.slice (some ⟨blo,0,none⟩) b.lines.length b.lines.length] rfl Tf.s33 (.tail (.tail (bO.head))) rfl (aKB (dC.in_ Yl))<|Zz ?_)));exact fun a w hh=>⟨(q2,q3,bo,blo),aGL,(hh.perm (μ':=[(q3,.cells [.slice none 0 0].toArray 223 (0,0)),(q2,.cells [.slice (some ⟨blo,0,none⟩) b.lines.length b.lines.length].toArray 33 (0,0)),(bo,.cells (bM (List.replicate (b.lines.length+1) qS)).toArray 149 (0,0)),(blo,.cells (ints (List.replicate (b.lines.length*3) 0)).toArray 133 (0,0))]) Ye Yz).weak C.rs (aJU _) aD⟩
   ·refine Zw rfl Tf.z223 rfl (fun q2=>Zz<|bG [] rfl<|Zz (cY true true rfl rfl ?_ ?_))
    ·refine aO (n:=b.lines.length) rfl U33 Tf.s133 Tf.z133 rfl Tf.i133 rfl rfl Yd (aV Ye rfl) rfl aGL (fun blo=>Zz<|aP [(true,9),(true,11)] rfl<|Zw rfl Tf.z33 rfl (fun q3=>bB hA Ye (fun hap=>Zn 0 [.slice none 0 0] [.slice (some ⟨blo,0,none⟩) b.lines.length b.lines.length] [.slice (some ⟨blo,0,none⟩) b.lines.length b.lines.length] rfl Tf.s33 (bO.head) rfl (aKB (dC.in_ Yr))<|Zz ?_)));exact fun a w hh=>⟨(q3,q2,bo,blo),aGL,(hh.perm (μ':=[(q2,.cells [.slice none 0 0].toArray 223 (0,0)),(q3,.cells [.slice (some ⟨blo,0,none⟩) b.lines.length b.lines.length].toArray 33 (0,0)),(bo,.cells (bM (List.replicate (b.lines.length+1) qS)).toArray 149 (0,0)),(blo,.cells (ints (List.replicate (b.lines.length*3) 0)).toArray 133 (0,0))]) Ye Yz).weak C.rs (aJU _) aD⟩
    ·refine Zw rfl Tf.z33 rfl (fun q3=>Zz<|aP [(true,3),(true,11)] rfl<|aO (n:=b.lines.length) rfl U33 Tf.s133 Tf.z133 rfl Tf.i133 rfl rfl Yd (aV Ye rfl) rfl aGL (fun blo=>bB hA Ye (fun hap=>Zn 0 [.slice none 0 0] [.slice (some ⟨blo,0,none⟩) b.lines.length b.lines.length] [.slice (some ⟨blo,0,none⟩) b.lines.length b.lines.length] rfl Tf.s33 (.tail (bO.head)) rfl (aKB (dC.in_ Yn))<|Zz ?_)));exact fun a w hh=>⟨(q3,q2,bo,blo),aGL,(hh.perm (μ':=[(q2,.cells [.slice none 0 0].toArray 223 (0,0)),(q3,.cells [.slice (some ⟨blo,0,none⟩) b.lines.length b.lines.length].toArray 33 (0,0)),(bo,.cells (bM (List.replicate (b.lines.length+1) qS)).toArray 149 (0,0)),(blo,.cells (ints (List.replicate (b.lines.length*3) 0)).toArray 133 (0,0))]) Ye Yz).weak C.rs (aJU _) aD⟩
  ·refine Zw rfl Tf.z33 rfl (fun q2=>Zz<|lY [] rfl ?_);refine Zz (eJ true rfl rfl ?_ (eJ true rfl rfl ?_ (eJ true rfl rfl ?_ (rT))))
   ·refine aO (n:=b.lines.length) rfl U33 Tf.s133 Tf.z133 rfl Tf.i133 rfl rfl Yd (aV Ye rfl) rfl aGL (fun blo=>Zz<|bG [] rfl<|Zz (cY true true rfl rfl ?_ ?_))
    ·refine aO (n:=b.lines.length+1) rfl U223 Tf.s149 Tf.z149 rfl Tf.i149 Yb Yb Yd ((aV Ye rfl).trans (eN _)) rfl aGL (fun bo=>Zz<|aP [(true,10),(true,11)] rfl<|Zw rfl Tf.z223 rfl (fun q3=>bB hA Ye (fun hap=>Zn 0 [.slice none 0 0] [.slice (some ⟨blo,0,none⟩) b.lines.length b.lines.length] [.slice (some ⟨blo,0,none⟩) b.lines.length b.lines.length] rfl Tf.s33 (.tail (.tail (.tail (bO.head)))) rfl (aKB (dC.in_ Yo))<|Zz ?_)));exact fun a w hh=>⟨(q2,q3,bo,blo),aGL,(hh.perm (μ':=[(q3,.cells [.slice none 0 0].toArray 223 (0,0)),(q2,.cells [.slice (some ⟨blo,0,none⟩) b.lines.length b.lines.length].toArray 33 (0,0)),(bo,.cells (bM (List.replicate (b.lines.length+1) qS)).toArray 149 (0,0)),(blo,.cells (ints (List.replicate (b.lines.length*3) 0)).toArray 133 (0,0))]) Ye Yz).weak C.rs (aJU _) aD⟩
    ·refine Zw rfl Tf.z223 rfl (fun q3=>Zz<|bG [] rfl<|Zz (cY true true rfl rfl ?_ ?_))
     ·refine aO (n:=b.lines.length+1) rfl U223 Tf.s149 Tf.z149 rfl Tf.i149 Yb Yb Yd ((aV Ye rfl).trans (eN _)) rfl aGL (fun bo=>Zz<|aP [(true,11)] rfl<|bB hA Ye (fun hap=>Zn 0 [.slice none 0 0] [.slice (some ⟨blo,0,none⟩) b.lines.length b.lines.length] [.slice (some ⟨blo,0,none⟩) b.lines.length b.lines.length] rfl Tf.s33 (.tail (.tail (.tail (bO.head)))) rfl (aKB (dC.in_ Yo))<|Zz ?_));exact fun a w hh=>⟨(q2,q3,bo,blo),aGL,(hh.perm (μ':=[(q3,.cells [.slice none 0 0].toArray 223 (0,0)),(q2,.cells [.slice (some ⟨blo,0,none⟩) b.lines.length b.lines.length].toArray 33 (0,0)),(bo,.cells (bM (List.replicate (b.lines.length+1) qS)).toArray 149 (0,0)),(blo,.cells (ints (List.replicate (b.lines.length*3) 0)).toArray 133 (0,0))]) Ye Yz).weak C.rs (aJU _) aD⟩
     ·refine bB hA Ye (fun hap=>Zn 0 [.slice none 0 0] [.slice (some ⟨blo,0,none⟩) b.lines.length b.lines.length] [.slice (some ⟨blo,0,none⟩) b.lines.length b.lines.length] rfl Tf.s33 (.tail (.tail (bO.head))) rfl (aKB (dC.in_ Yl))<|Zz<|aP [(true,8)] rfl<|aO (n:=b.lines.length+1) rfl U223 Tf.s149 Tf.z149 rfl Tf.i149 Yb Yb Yd ((aV Ye rfl).trans (eN _)) rfl aGL (fun bo=>Zz ?_));exact fun a w hh=>⟨(q2,q3,bo,blo),aGL,(hh.perm (μ':=[(q3,.cells [.slice none 0 0].toArray 223 (0,0)),(q2,.cells [.slice (some ⟨blo,0,none⟩) b.lines.length b.lines.length].toArray 33 (0,0)),(bo,.cells (bM (List.replicate (b.lines.length+1) qS)).toArray 149 (0,0)),(blo,.cells (ints (List.replicate (b.lines.length*3) 0)).toArray 133 (0,0))]) Ye Yz).weak C.rs (aJU _) aD⟩
   ·refine aO (n:=b.lines.length+1) rfl U223 Tf.s149 Tf.z149 rfl Tf.i149 Yb Yb Yd ((aV Ye rfl).trans (eN _)) rfl aGL (fun bo=>Zz<|bG [] rfl<|Zz (cY true true rfl rfl ?_ ?_))
    ·refine aO (n:=b.lines.length) rfl U33 Tf.s133 Tf.z133 rfl Tf.i133 rfl rfl Yd (aV Ye rfl) rfl aGL (fun blo=>Zz<|aP [(true,10),(true,11)] rfl<|Zw rfl Tf.z223 rfl (fun q3=>bB hA Ye (fun hap=>Zn 0 [.slice none 0 0] [.slice (some ⟨blo,0,none⟩) b.lines.length b.lines.length] [.slice (some ⟨blo,0,none⟩) b.lines.length b.lines.length] rfl Tf.s33 (.tail (.tail (.tail (bO.head)))) rfl (aKB (dC.in_ Yo))<|Zz ?_)));exact fun a w hh=>⟨(q2,q3,bo,blo),aGL,(hh.perm (μ':=[(q3,.cells [.slice none 0 0].toArray 223 (0,0)),(q2,.cells [.slice (some ⟨blo,0,none⟩) b.lines.length b.lines.length].toArray 33 (0,0)),(bo,.cells (bM (List.replicate (b.lines.length+1) qS)).toArray 149 (0,0)),(blo,.cells (ints (List.replicate (b.lines.length*3) 0)).toArray 133 (0,0))]) Ye Yz).weak C.rs (aJU _) aD⟩
    ·refine Zw rfl Tf.z223 rfl (fun q3=>Zz<|aP [(true,3),(true,11)] rfl<|aO (n:=b.lines.length) rfl U33 Tf.s133 Tf.z133 rfl Tf.i133 rfl rfl Yd (aV Ye rfl) rfl aGL (fun blo=>bB hA Ye (fun hap=>Zn 0 [.slice none 0 0] [.slice (some ⟨blo,0,none⟩) b.lines.length b.lines.length] [.slice (some ⟨blo,0,none⟩) b.lines.length b.lines.length] rfl Tf.s33 (.tail (.tail (.tail (bO.head)))) rfl (aKB (dC.in_ Yo))<|Zz ?_)));exact fun a w hh=>⟨(q2,q3,bo,blo),aGL,(hh.perm (μ':=[(q3,.cells [.slice none 0 0].toArray 223 (0,0)),(q2,.cells [.slice (some ⟨blo,0,none⟩) b.lines.length b.lines.length].toArray 33 (0,0)),(bo,.cells (bM (List.replicate (b.lines.length+1) qS)).toArray 149 (0,0)),(blo,.cells (ints (List.replicate (b.lines.length*3) 0)).toArray 133 (0,0))]) Ye Yz).weak C.rs (aJU _) aD⟩
   ·refine Zw rfl Tf.z223 rfl (fun q3=>Zz<|bG [] rfl<|Zz (cY true true rfl rfl ?_ ?_))
    ·refine aO (n:=b.lines.length) rfl U33 Tf.s133 Tf.z133 rfl Tf.i133 rfl rfl Yd (aV Ye rfl) rfl aGL (fun blo=>Zz<|bG [] rfl<|Zz (cY true true rfl rfl ?_ ?_))
     ·refine aO (n:=b.lines.length+1) rfl U223 Tf.s149 Tf.z149 rfl Tf.i149 Yb Yb Yd ((aV Ye rfl).trans (eN _)) rfl aGL (fun bo=>Zz<|aP [(true,11)] rfl<|bB hA Ye (fun hap=>Zn 0 [.slice none 0 0] [.slice (some ⟨blo,0,none⟩) b.lines.length b.lines.length] [.slice (some ⟨blo,0,none⟩) b.lines.length b.lines.length] rfl Tf.s33 (.tail (.tail (.tail (bO.head)))) rfl (aKB (dC.in_ Yo))<|Zz ?_));exact fun a w hh=>⟨(q2,q3,bo,blo),aGL,(hh.perm (μ':=[(q3,.cells [.slice none 0 0].toArray 223 (0,0)),(q2,.cells [.slice (some ⟨blo,0,none⟩) b.lines.length b.lines.length].toArray 33 (0,0)),(bo,.cells (bM (List.replicate (b.lines.length+1) qS)).toArray 149 (0,0)),(blo,.cells (ints (List.replicate (b.lines.length*3) 0)).toArray 133 (0,0))]) Ye Yz).weak C.rs (aJU _) aD⟩
     ·refine bB hA Ye (fun hap=>Zn 0 [.slice none 0 0] [.slice (some ⟨blo,0,none⟩) b.lines.length b.lines.length] [.slice (some ⟨blo,0,none⟩) b.lines.length b.lines.length] rfl Tf.s33 (.tail (.tail (bO.head))) rfl (aKB (dC.in_ Yl))<|Zz<|aP [(true,8)] rfl<|aO (n:=b.lines.length+1) rfl U223 Tf.s149 Tf.z149 rfl Tf.i149 Yb Yb Yd ((aV Ye rfl).trans (eN _)) rfl aGL (fun bo=>Zz ?_));exact fun a w hh=>⟨(q2,q3,bo,blo),aGL,(hh.perm (μ':=[(q3,.cells [.slice none 0 0].toArray 223 (0,0)),(q2,.cells [.slice (some ⟨blo,0,none⟩) b.lines.length b.lines.length].toArray 33 (0,0)),(bo,.cells (bM (List.replicate (b.lines.length+1) qS)).toArray 149 (0,0)),(blo,.cells (ints (List.replicate (b.lines.length*3) 0)).toArray 133 (0,0))]) Ye Yz).weak C.rs (aJU _) aD⟩
    ·refine aO (n:=b.lines.length+1) rfl U223 Tf.s149 Tf.z149 rfl Tf.i149 Yb Yb Yd ((aV Ye rfl).trans (eN _)) rfl aGL (fun bo=>Zz<|aP [(true,3),(true,11)] rfl<|aO (n:=b.lines.length) rfl U33 Tf.s133 Tf.z133 rfl Tf.i133 rfl rfl Yd (aV Ye rfl) rfl aGL (fun blo=>bB hA Ye (fun hap=>Zn 0 [.slice none 0 0] [.slice (some ⟨blo,0,none⟩) b.lines.length b.lines.length] [.slice (some ⟨blo,0,none⟩) b.lines.length b.lines.length] rfl Tf.s33 (.tail (.tail (.tail (bO.head)))) rfl (aKB (dC.in_ Yo))<|Zz ?_)));exact fun a w hh=>⟨(q2,q3,bo,blo),aGL,(hh.perm (μ':=[(q3,.cells [.slice none 0 0].toArray 223 (0,0)),(q2,.cells [.slice (some ⟨blo,0,none⟩) b.lines.length b.lines.length].toArray 33 (0,0)),(bo,.cells (bM (List.replicate (b.lines.length+1) qS)).toArray 149 (0,0)),(blo,.cells (ints (List.replicate (b.lines.length*3) 0)).toArray 133 (0,0))]) Ye Yz).weak C.rs (aJU _) aD⟩
  ·refine Zw rfl Tf.z223 rfl (fun q2=>Zz<|lY [] rfl ?_);refine Zz (eJ true rfl rfl ?_ (eJ true rfl rfl ?_ (eJ true rfl rfl ?_ (rT))))
   ·refine aO (n:=b.lines.length) rfl U33 Tf.s133 Tf.z133 rfl Tf.i133 rfl rfl Yd (aV Ye rfl) rfl aGL (fun blo=>Zz<|bG [] rfl<|Zz (cY true true rfl rfl ?_ ?_))
    ·refine aO (n:=b.lines.length+1) rfl U223 Tf.s149 Tf.z149 rfl Tf.i149 Yb Yb Yd ((aV Ye rfl).trans (eN _)) rfl aGL (fun bo=>Zz<|aP [(true,9),(true,11)] rfl<|Zw rfl Tf.z33 rfl (fun q3=>bB hA Ye (fun hap=>Zn 0 [.slice none 0 0] [.slice (some ⟨blo,0,none⟩) b.lines.length b.lines.length] [.slice (some ⟨blo,0,none⟩) b.lines.length b.lines.length] rfl Tf.s33 (bO.head) rfl (aKB (dC.in_ Yr))<|Zz ?_)));exact fun a w hh=>⟨(q3,q2,bo,blo),aGL,(hh.perm (μ':=[(q2,.cells [.slice none 0 0].toArray 223 (0,0)),(q3,.cells [.slice (some ⟨blo,0,none⟩) b.lines.length b.lines.length].toArray 33 (0,0)),(bo,.cells (bM (List.replicate (b.lines.length+1) qS)).toArray 149 (0,0)),(blo,.cells (ints (List.replicate (b.lines.length*3) 0)).toArray 133 (0,0))]) Ye Yz).weak C.rs (aJU _) aD⟩
    ·refine Zw rfl Tf.z33 rfl (fun q3=>Zz<|bG [] rfl<|Zz (cY true true rfl rfl ?_ ?_))
     ·refine aO (n:=b.lines.length+1) rfl U223 Tf.s149 Tf.z149 rfl Tf.i149 Yb Yb Yd ((aV Ye rfl).trans (eN _)) rfl aGL (fun bo=>Zz<|aP [(true,11)] rfl<|bB hA Ye (fun hap=>Zn 0 [.slice none 0 0] [.slice (some ⟨blo,0,none⟩) b.lines.length b.lines.length] [.slice (some ⟨blo,0,none⟩) b.lines.length b.lines.length] rfl Tf.s33 (.tail (bO.head)) rfl (aKB (dC.in_ Yn))<|Zz ?_));exact fun a w hh=>⟨(q3,q2,bo,blo),aGL,(hh.perm (μ':=[(q2,.cells [.slice none 0 0].toArray 223 (0,0)),(q3,.cells [.slice (some ⟨blo,0,none⟩) b.lines.length b.lines.length].toArray 33 (0,0)),(bo,.cells (bM (List.replicate (b.lines.length+1) qS)).toArray 149 (0,0)),(blo,.cells (ints (List.replicate (b.lines.length*3) 0)).toArray 133 (0,0))]) Ye Yz).weak C.rs (aJU _) aD⟩
     ·refine bB hA Ye (fun hap=>Zn 0 [.slice none 0 0] [.slice (some ⟨blo,0,none⟩) b.lines.length b.lines.length] [.slice (some ⟨blo,0,none⟩) b.lines.length b.lines.length] rfl Tf.s33 (bO.head) rfl (aKB (dC.in_ Yr))<|Zz<|aP [(true,8)] rfl<|aO (n:=b.lines.length+1) rfl U223 Tf.s149 Tf.z149 rfl Tf.i149 Yb Yb Yd ((aV Ye rfl).trans (eN _)) rfl aGL (fun bo=>Zz ?_));exact fun a w hh=>⟨(q3,q2,bo,blo),aGL,(hh.perm (μ':=[(q2,.cells [.slice none 0 0].toArray 223 (0,0)),(q3,.cells [.slice (some ⟨blo,0,none⟩) b.lines.length b.lines.length].toArray 33 (0,0)),(bo,.cells (bM (List.replicate (b.lines.length+1) qS)).toArray 149 (0,0)),(blo,.cells (ints (List.replicate (b.lines.length*3) 0)).toArray 133 (0,0))]) Ye Yz).weak C.rs (aJU _) aD⟩
   ·refine aO (n:=b.lines.length+1) rfl U223 Tf.s149 Tf.z149 rfl Tf.i149 Yb Yb Yd ((aV Ye rfl).trans (eN _)) rfl aGL (fun bo=>Zz<|bG [] rfl<|Zz (cY true true rfl rfl ?_ ?_))
    ·refine aO (n:=b.lines.length) rfl U33 Tf.s133 Tf.z133 rfl Tf.i133 rfl rfl Yd (aV Ye rfl) rfl aGL (fun blo=>Zz<|aP [(true,9),(true,11)] rfl<|Zw rfl Tf.z33 rfl (fun q3=>bB hA Ye (fun hap=>Zn 0 [.slice none 0 0] [.slice (some ⟨blo,0,none⟩) b.lines.length b.lines.length] [.slice (some ⟨blo,0,none⟩) b.lines.length b.lines.length] rfl Tf.s33 (bO.head) rfl (aKB (dC.in_ Yr))<|Zz ?_)));exact fun a w hh=>⟨(q3,q2,bo,blo),aGL,(hh.perm (μ':=[(q2,.cells [.slice none 0 0].toArray 223 (0,0)),(q3,.cells [.slice (some ⟨blo,0,none⟩) b.lines.length b.lines.length].toArray 33 (0,0)),(bo,.cells (bM (List.replicate (b.lines.length+1) qS)).toArray 149 (0,0)),(blo,.cells (ints (List.replicate (b.lines.length*3) 0)).toArray 133 (0,0))]) Ye Yz).weak C.rs (aJU _) aD⟩
    ·refine Zw rfl Tf.z33 rfl (fun q3=>Zz<|aP [(true,3),(true,11)] rfl<|aO (n:=b.lines.length) rfl U33 Tf.s133 Tf.z133 rfl Tf.i133 rfl rfl Yd (aV Ye rfl) rfl aGL (fun blo=>bB hA Ye (fun hap=>Zn 0 [.slice none 0 0] [.slice (some ⟨blo,0,none⟩) b.lines.length b.lines.length] [.slice (some ⟨blo,0,none⟩) b.lines.length b.lines.length] rfl Tf.s33 (.tail (bO.head)) rfl (aKB (dC.in_ Yn))<|Zz ?_)));exact fun a w hh=>⟨(q3,q2,bo,blo),aGL,(hh.perm (μ':=[(q2,.cells [.slice none 0 0].toArray 223 (0,0)),(q3,.cells [.slice (some ⟨blo,0,none⟩) b.lines.length b.lines.length].toArray 33 (0,0)),(bo,.cells (bM (List.replicate (b.lines.length+1) qS)).toArray 149 (0,0)),(blo,.cells (ints (List.replicate (b.lines.length*3) 0)).toArray 133 (0,0))]) Ye Yz).weak C.rs (aJU _) aD⟩
   ·refine Zw rfl Tf.z33 rfl (fun q3=>Zz<|bG [] rfl<|Zz (cY true true rfl rfl ?_ ?_))
    ·refine aO (n:=b.lines.length) rfl U33 Tf.s133 Tf.z133 rfl Tf.i133 rfl rfl Yd (aV Ye rfl) rfl aGL (fun blo=>Zz<|bG [] rfl<|Zz (cY true true rfl rfl ?_ ?_))
     ·refine aO (n:=b.lines.length+1) rfl U223 Tf.s149 Tf.z149 rfl Tf.i149 Yb Yb Yd ((aV Ye rfl).trans (eN _)) rfl aGL (fun bo=>Zz<|aP [(true,11)] rfl<|bB hA Ye (fun hap=>Zn 0 [.slice none 0 0] [.slice (some ⟨blo,0,none⟩) b.lines.length b.lines.length] [.slice (some ⟨blo,0,none⟩) b.lines.length b.lines.length] rfl Tf.s33 (.tail (.tail (bO.head))) rfl (aKB (dC.in_ Yl))<|Zz ?_));exact fun a w hh=>⟨(q3,q2,bo,blo),aGL,(hh.perm (μ':=[(q2,.cells [.slice none 0 0].toArray 223 (0,0)),(q3,.cells [.slice (some ⟨blo,0,none⟩) b.lines.length b.lines.length].toArray 33 (0,0)),(bo,.cells (bM (List.replicate (b.lines.length+1) qS)).toArray 149 (0,0)),(blo,.cells (ints (List.replicate (b.lines.length*3) 0)).toArray 133 (0,0))]) Ye Yz).weak C.rs (aJU _) aD⟩
     ·refine bB hA Ye (fun hap=>Zn 0 [.slice none 0 0] [.slice (some ⟨blo,0,none⟩) b.lines.length b.lines.length] [.slice (some ⟨blo,0,none⟩) b.lines.length b.lines.length] rfl Tf.s33 (.tail (bO.head)) rfl (aKB (dC.in_ Yn))<|Zz<|aP [(true,8)] rfl<|aO (n:=b.lines.length+1) rfl U223 Tf.s149 Tf.z149 rfl Tf.i149 Yb Yb Yd ((aV Ye rfl).trans (eN _)) rfl aGL (fun bo=>Zz ?_));exact fun a w hh=>⟨(q3,q2,bo,blo),aGL,(hh.perm (μ':=[(q2,.cells [.slice none 0 0].toArray 223 (0,0)),(q3,.cells [.slice (some ⟨blo,0,none⟩) b.lines.length b.lines.length].toArray 33 (0,0)),(bo,.cells (bM (List.replicate (b.lines.length+1) qS)).toArray 149 (0,0)),(blo,.cells (ints (List.replicate (b.lines.length*3) 0)).toArray 133 (0,0))]) Ye Yz).weak C.rs (aJU _) aD⟩
    ·refine aO (n:=b.lines.length+1) rfl U223 Tf.s149 Tf.z149 rfl Tf.i149 Yb Yb Yd ((aV Ye rfl).trans (eN _)) rfl aGL (fun bo=>Zz<|aP [(true,3),(true,11)] rfl<|aO (n:=b.lines.length) rfl U33 Tf.s133 Tf.z133 rfl Tf.i133 rfl rfl Yd (aV Ye rfl) rfl aGL (fun blo=>bB hA Ye (fun hap=>Zn 0 [.slice none 0 0] [.slice (some ⟨blo,0,none⟩) b.lines.length b.lines.length] [.slice (some ⟨blo,0,none⟩) b.lines.length b.lines.length] rfl Tf.s33 (.tail (.tail (bO.head))) rfl (aKB (dC.in_ Yl))<|Zz ?_)));exact fun a w hh=>⟨(q3,q2,bo,blo),aGL,(hh.perm (μ':=[(q2,.cells [.slice none 0 0].toArray 223 (0,0)),(q3,.cells [.slice (some ⟨blo,0,none⟩) b.lines.length b.lines.length].toArray 33 (0,0)),(bo,.cells (bM (List.replicate (b.lines.length+1) qS)).toArray 149 (0,0)),(blo,.cells (ints (List.replicate (b.lines.length*3) 0)).toArray 133 (0,0))]) Ye Yz).weak C.rs (aJU _) aD⟩
 rintro⟨bl,bs,bo,blo⟩ -;dsimp only;refine iA [(false,12)] rfl<|Zo rfl Tf.s223 (bO.head) rfl<|Zz<|hZ<|Zag<|C.s1<|Zw rfl Tf.z172 rfl (fun q4=>L.n3<|bE rfl rfl rfl rfl trivial<|Zo rfl Tf.s172 (bO.head) rfl<|L.n2<|C.drawA [] 1 5 6 (fun _ _ _ h=>nJ (P:=Tryz.prog) (fn:=Tryz.f186) _ _ _ h) ?_);refine Zm rfl Tf.a223 rfl (aJS _ (aNM _)) rfl<|Zs rfl Tf.a36 rfl hA Tf.s36<|Zd rfl (fun D1 hD1=>qA _ b _ (hb0.up (hD1 _ Ye)))<|eG rfl U223 Tf.s149 rfl rfl Yd (by push_cast;omega) rfl trivial<|aK (off:=0*10) (us:=ints (gZ (eH b))) (ws:=bM ((List.replicate (b.lines.length+1) qS).set 0 (eH b))) rfl (mH Yd) rfl rfl Tf.s149 (.tail (.tail (.tail (bO.head)))) (by rw[BN xO,aI,show(gZ (eH b)).length=10 from rfl,List.length_replicate];omega) (BT xO rfl Ye) (bP _) trivial<|L.n1<|C.rg<|Zm rfl Tf.a172 rfl (List.Mem.head _) rfl<|mP rfl rfl rfl rfl (XC (l:=l) hbo rfl hb0 hA hB1 b.lines.length 0 [] (eH b) ((List.replicate (b.lines.length+1) qS).set 0 (eH b)) (List.replicate (b.lines.length*3) 0) [] [] 0 _ Ye Ye rfl Yd rfl Ye (xO.set rfl _) Ye (by simp[List.replicate_succ]) (B1 b) Ye J Jx hs hsx hY) rfl aGL ?_
 rintro _ J2 _ ⟨b2,c2,cl2,rfl,h9',h10',h11',hp',rfl,hJ2⟩;refine Zz ?_;exact iF (P:=Tryz.prog) (fn:=Tryz.f186) (N:=22) (vs:=[]) rfl rfl aGL (fun D h=>⟨D,by simp only[aKQ]at h;subst h;simp,Le.refl D⟩) (by cases b2<;>simp at hJ2;exact aKB hJ2;exact aKP hJ2)
theorem EC(bv:Value)(b:aZ)(D:aA)(hb:fO D bv b)(hbo:JO b):
  Fn Tryz.prog 108 #[bv] D (fun D' v=>∃br,v=.func (.func 186) #[] #[.pointer (some ⟨br,0,none⟩)]∧HM Tryz.prog 186 [.pointer (some ⟨br,0,none⟩)] D' (oU b 0 (eH b)) (GZ b.lines.length) bM):=by
 have hb0:=hb;obtain⟨lv,cv,rfl,hl,hc⟩:=hb;refine enter 4 Tryz.func108 rfl rfl rfl rfl fun h0=>C.s1<|Zv rfl (fun q1 E1 hE1 hB1=>Zi rfl<|L.n3<|bE rfl rfl rfl rfl trivial<|Zi rfl<|L.n5 ?_)
 exact Zc [_] rfl ⟨rfl,aGL⟩ (fun D hD=>⟨_,rfl,vD hbo rfl (hb0.up (hD _ Ye)) (hB1.up (hD _ Ye))⟩)
end L3
end Go.Fs
namespace Go.Fs
open Go.Proofs
namespace L3
open L1
open C3
theorem FN(b:aZ):∀(ls:List fC) (i:Nat) (s:Sc),s.ch.length=4→s.tk.length=4→∀x∈rZ b ls i s,x.2.length=ls.length+1∧∀u∈x.2,u.ch.length=4∧u.tk.length=4
  | [],i,s,h4,h5,x,hx=>by
    unfold rZ at hx;split at hx
    · obtain rfl:x=([],[s]):=by simpa using hx
      exact ⟨rfl, fun u hu => by obtain rfl : u = s := by simpa using hu
                                 exact⟨h4,h5⟩⟩
    · cases hx
  |l::ls,i,s,h4,h5,x,hx=>by
    unfold rZ at hx;split at hx
    · obtain⟨r,_,hr⟩:=aJR.1 hx;split at hr
      · obtain⟨y,hy,rfl⟩:=aJY.1 hr;obtain⟨g1,g2⟩:=FN b ls (i+1) (bQ b s i r) (by unfold bQ;split<;>simp[h4]) (by unfold bQ;split<;>simp[h5]) y hy
        refine⟨by simp[g1],fun u hu=>?_⟩;rcases aJX.1 hu with rfl|hu
        · exact⟨h4,h5⟩
        · exact g2 u hu
      · cases hr
    · cases hx
theorem u1{b:aZ}(hn:b.chairs≤4):∀(ls:List fC) (i:Nat) (s:Sc),(rZ b ls i s).length≤32^ls.length
 | [],i,s=>by unfold rZ;split<;>simp
 |l::ls,i,s=>by
  unfold rZ;split
  ·rw[List.length_flatMap];have h1:∀(rs:List fC),(rs.map fun r=>(if eF s r=true then(rZ b ls (i+1) (bQ b s i r)).map fun x=>(r::x.1,s::x.2)else []).length).sum≤rs.length*32^ls.length:=by
    intro rs;induction rs with
    |nil=>simp
    |cons r rs ih=>
     rw[aLB,List.sum_cons,aKD,aMQ,Nat.one_mul,Nat.add_comm];refine Nat.add_le_add ih ?_;split
     ·rw[aMI];exact u1 hn ls _ _
     ·simp
   have h2:=h1 (bN b.chairs l);have h3:=DK (l:=l) hn;have h4:(bN b.chairs l).length*32^ls.length≤32*32^ls.length:=aOM _ h3;rw[aKD,Nat.pow_succ,Nat.mul_comm];omega
  ·simp
theorem OX{b:aZ}(hbo:JO b):(oU b 0 (eH b)).length≤1099511627776:=by
 unfold oU;rw[aMI];have h1:=u1 hbo.ch.2 (b.lines.drop 0) 0 (eH b);have h2:32^(b.lines.drop 0).length≤32^8:=aNQ Yd (by rw[aOA];exact hbo.l8)
 omega
theorem IW{b:aZ}(hbo:JO b){x:List Sc}{pre r:List (List Sc)}(h:oU b 0 (eH b)=pre++x::r):x.length=b.lines.length+1∧(∀u∈x,u.ch.length=4∧u.tk.length=4)∧pre.length<1099511627776:=by
 have hm:x∈oU b 0 (eH b):=by rw[h];simp
 obtain⟨y,hy,rfl⟩:=aJY.1 hm;obtain⟨g1,g2⟩:=FN b _ _ _ rfl rfl y hy;refine⟨by simpa using g1,g2,?_⟩;have:=OX hbo;rw[h]at this;simp at this;omega
theorem aBT{x:List Sc}{k:Nat}{u:Sc}(h:x[k]?= some u):aAM x k=u:=by unfold aAM;rw[aMD,h];rfl
theorem aBL{D:aA}{bo n:Nat}{x:List Sc}(h:At D bo 0 (bM x))(hx:x.length=n)(h4:∀u∈x,u.ch.length=4∧u.tk.length=4)(hn:n≤1000):Sl D BL 10 (.slice (some ⟨bo,0,none⟩) n n) x:=by
 have h10:uD x:=fun u hu=>tI (h4 u hu).1 (h4 u hu).2
 refine⟨_,n,by rw[hx],by omega,by omega,aKB ⟨bo,0,rfl,fun i u hi=>⟨_,rfl,by rw[aI,h10 u (aJV hi)],fun j v hj=>?_⟩⟩⟩;have:=vK h10 hi;rw[←this,List.getElem?_take]at hj;split at hj
 ·rw[aMW]at hj;have:=h _ v hj;rw[show 0+i*10+j=0+(i*10+j) by omega];exact this
 ·cases hj


end L3
end Go.Fs
namespace Go.Fs
open Go.Proofs
namespace L3
open L1
open C3
theorem CQ(s:Sc)(D:aA)(h4:s.ch.length=4)(h5:s.tk.length=4):Fn Tryz.prog 66 #[CL s] D (fun _ v=>v=.int .i64 s.money):=by
 refine enter 5 Tryz.func66 rfl rfl rfl rfl fun h0=>C.s1<|Zv rfl (fun q1 E1 hE1 hB1=>Zi rfl<|L.n3<|Zj rfl Tf.f149_2 rfl<|bD (v:=.int .i64 s.money) rfl (k:=8) Tf.a3 rfl hB1 Yc (cD (sN h4 h5)) aJN rfl trivial<|Zi rfl<|L.n5 ?_)
 exact Zc [_] rfl ⟨rfl,aGL⟩ (fun D hD=>rfl)
end L3
end Go.Fs
namespace Go.Fs
open Go.Proofs
namespace L3
open L1
open C3
def AH(F:Sc→Int)(b:aZ)(k:Nat):Int×Int:=(C1.oY (((oU b 0 (eH b)).map fun x=>aAM x k).map F),C1.nG (((oU b 0 (eH b)).map fun x=>aAM x k).map F))
def BF(F:Sc→Int)(ss:List Sc)(g:(Int×Int)×Bool):Prop:=(g.2=true∧ss=[]∧g.1=(0,0))∨(g.2=false∧ss≠[]∧g.1=(C1.oY (ss.map F),C1.nG (ss.map F)))
theorem IR{l:List Int}{x:Int}(h:l≠[]):C1.oY (l++[x])=min (C1.oY l) x:=by
 cases l with
 |nil=>exact absurd rfl h
 |cons a l=>show(l++[x]).foldl min a=_;rw[aMA];rfl
theorem LM{l:List Int}{x:Int}(h:l≠[]):C1.nG (l++[x])=max (C1.nG l) x:=by
 cases l with
 |nil=>exact absurd rfl h
 |cons a l=>show(l++[x]).foldl max a=_;rw[aMA];rfl
theorem BF.add{F:Sc→Int}{ss:List Sc}{r r':Int×Int}{fb:Bool}{s u:Sc}(h:BF F ss (r,fb))(e:s=u)(hc:(fb=true∧r'=(F u,F u))∨(fb=false∧r'=r)):BF F (ss++[s]) ((min r'.1 (F u),max r'.2 (F u)),false):=by
 subst e;refine aKB ⟨rfl,by simp,?_⟩;rcases hc with⟨h1,rfl⟩|⟨h1,rfl⟩
 ·rcases h with⟨_,rfl,_⟩|⟨h2,_⟩
  ·simp[C1.oY,C1.nG]
  ·simp only at h2;rw[h1]at h2;cases h2
 ·rcases h with⟨h2,_⟩|⟨_,h3,h4⟩
  ·simp only at h2;rw[h1]at h2;cases h2
  ·simp only at h4;subst h4;have hne:ss.map F≠[]:=by simpa using h3
   rw[aKN,aOE,IR hne,LM hne]
theorem BF.all{F:Sc→Int}{b:aZ}{k:Nat}{r:Int×Int}{fb:Bool}(h:BF F ((oU b 0 (eH b)).map fun x=>aAM x k) (r,fb)):iP r=iP (AH F b k):=by
 unfold AH;rcases h with⟨_,h1,h2⟩|⟨_,_,h2⟩
 ·rw[h1];simp only at h2;rw[h2];rfl
 ·simp only at h2;rw[h2]
theorem Q3{b:aZ}{fine:Bool}(h:rS b fine=0):aT b=0∧fine=true:=by
 unfold rS at h;split at h
 ·rename_i hf;exact absurd h hf
 ·rename_i hf;split at h
  ·omega
  ·rename_i h2;exact⟨by simpa using hf,by simpa using h2⟩
theorem HN(F:Sc→Int)(bv:Value)(b:aZ)(k:Nat)(fo:FuncId)(D:aA)(hb:fO D bv b)(hbo:JO b)(hk:k≤b.lines.length)
  (hq:∀s D,s.ch.length=4→s.tk.length=4→Fn Tryz.prog fo #[CL s] D (fun _ v=>v=.int .i64 (F s))):
  Fn Tryz.prog 65 #[bv,.int .i64 (k:Int),.func (.func fo) #[] #[]] D (fun _ v=>v=iP (AH F b k)):=by
 have hb0:=hb;obtain⟨lv,cv,rfl,hl,hc⟩:=hb;have hch:=hbo.ch;have hl8:=hbo.l8;refine b6 29 Tryz.func65 rfl rfl rfl rfl (fun h0=>C.s1<|Zv rfl (fun q1 E1 hE1 hB1=>Zv rfl (fun q2 E2 hE2 hB2=>Zv rfl (fun q3 E3 hE3 hB3=>Zw rfl Tf.z63 rfl (fun q4=>L.n3<|Zw rfl Tf.z4 rfl (fun q5=>Zo rfl Tf.s4 (bO.head) rfl<|L.n4<|Zs rfl Tf.a36 rfl hB1 Tf.s36<|bU rfl rfl rfl (fun D1 hD1=>EC _ b _ (hb0.up (hD1 _ Ye)) hbo) rfl aGL (fun v1 D1 hD1 hp1=>?_)))))));refine L.n1<|Zai ?_;obtain⟨br,rfl,hit⟩:=hp1;refine Z5 (γ:=(Int×Int)×Bool) (xs:=oU b 0 (eH b)) (enc:=GZ b.lines.length) (cells:=bM) (Dr:=D1) (fun pre g=>BF F (pre.map fun x=>aAM x k) g) (fun _ _ _=>False) (fun g=>[(q5,.cells [.bool g.2].toArray 4 (0,0)),(q4,.cells [.int .i64 g.1.1,.int .i64 g.1.2].toArray 63 (0,0))]) ((0,0),true) rfl rfl (fun _ k hk=>by cases hk) rfl hit Ye (fun _ vs h=>by obtain⟨_,rfl⟩:=h;rfl) rfl (aKP ⟨rfl,rfl,rfl⟩) rfl ?_ ?_ (fun _ _ _ _ h=>h.elim)
 ·rintro pre x ⟨r,fb⟩ ⟨us,hx⟩ hV l bd bo vs rec hh D7 hD7 ⟨blo,rfl⟩ hbo_ hst hpend;obtain⟨hxl,hx4,hpl⟩:=IW hbo hx;have hsl:=aBL hbo_ hxl hx4 Yd;obtain⟨u,hu⟩:∃u,x[k]?= some u:=⟨_,aJT Yd⟩
  have hau:aAM x k=u:=aBT hu;obtain⟨hu4,hu5⟩:=hx4 u (aJV hu);have hx10:=tI hu4 hu5;refine C.rg<|Zi rfl<|Zz ?_;refine fun a w hhh=>tO (A:=[(_,_),(_,_)]) (B:=[(bd,.deferred (some []))]) (r:=rec) (l:=l) (by rfl) hst ?_ a w hhh
  simp only[aML,aLG];refine Zai<|aCX<|C.drawA [] 3 7 30 (fun _ _ _ h=>h)<|Zg 0 rfl Tf.a150 rfl hB3 rfl<|Za rfl<|Zg 0 rfl Tf.a3 rfl hB2 rfl<|Zt rfl U223 Tf.s149 rfl hsl rfl hu (fun b1 o1 cs1 hr1 hcl1 hA1=>?_);obtain rfl:cs1=ints (gZ _):=hr1;refine cO rfl Tf.a149 rfl hA1 Yj (by rw[show(ints _).length=10 by simp[hx10]];exact Tf.s149) aJN rfl trivial<|Zd rfl (fun D2 hD2=>hq u _ hu4 hu5)<|Zi rfl<|L.n4<|Zm rfl Tf.a4 rfl (List.Mem.head _) rfl<|L.n1<|aJ rfl (fun hc1=>?_) (fun hc1=>?_)
  ·refine C.rg<|Za rfl<|Za rfl<|Zq [.int .i64 (F u),.int .i64 (F u)] rfl Tf.p63 Tf.z63 rfl rfl<|Zu rfl Tf.s63 (.tail (bO.head))<|Zo rfl Tf.s4 (bO.head) rfl<|L.n1<|C.rg<|Zp rfl Tf.a63 rfl (List.Mem.tail _ (List.Mem.head _)) Tf.s63<|Za rfl<|Zd rfl (fun D3 hD3=>V0 (_,_) _ _)<|Zu rfl Tf.s63 (.tail (bO.head)) ?_;refine Zz<|Zak ?_;exact fun a w hh=>fS (A:=[(_,_),(_,_)]) (B:=[(bd,.deferred (some []))]) ((min (F u,F u).1 (F u),max (F u,F u).2 (F u)),false) (by simpa using hV.add hau (aKP ⟨hc1,rfl⟩)) rfl rfl a w hh
  ·obtain rfl:fb=false:=hc1;refine C.kn<|C.rg<|Zp rfl Tf.a63 rfl (List.Mem.tail _ (List.Mem.head _)) Tf.s63<|Za rfl<|Zd rfl (fun D4 hD4=>V0 (_,_) _ _)<|Zu rfl Tf.s63 (.tail (bO.head))<|Zz<|Zak ?_;exact fun a w hh=>fS (A:=[(_,_),(_,_)]) (B:=[(bd,.deferred (some []))]) ((min r.1 (F u),max r.2 (F u)),false) (by simpa using hV.add hau (aKB ⟨rfl,rfl⟩)) rfl rfl a w hh
 ·rintro⟨r,fb⟩ bd hV;refine Zak<|Zag<|C.s1<|Zp rfl Tf.a63 rfl (List.Mem.tail _ (List.Mem.head _)) Tf.s63<|Zu rfl Tf.s63 (.tail (bO.head))<|L.n5 ?_;exact qM (vs:=[_]) (A:=[(_,_),(_,_)]) rfl rfl rfl ⟨⟨_,_,_,rfl,(aJS _ (aNM _)),aKB ⟨Tf.a63,Tf.s63,rfl⟩⟩,aGL⟩ (fun D hD=>hV.all)
theorem FD(s:Sc)(D:aA)(h4:s.ch.length=4)(h5:s.tk.length=4):Fn Tryz.prog 87 #[CL s] D (fun _ v=>v=.int .i64 s.mixed):=by
 refine enter 5 Tryz.func87 rfl rfl rfl rfl fun h0=>C.s1<|Zv rfl (fun q1 E1 hE1 hB1=>Zi rfl<|L.n3<|Zj rfl Tf.f149_3 rfl<|bD (v:=.int .i64 s.mixed) rfl (k:=9) Tf.a3 rfl hB1 Yc (cD (s6 h4 h5)) aJN rfl trivial<|Zi rfl<|L.n5 ?_)
 exact Zc [_] rfl ⟨rfl,aGL⟩ (fun D hD=>rfl)
theorem xH(bv:Value)(b:aZ)(k:Int)(D:aA)(hb:fO D bv b):Fn Tryz.prog 38 #[bv,.int .i64 k] D (fun _ v=>v=.tuple #[iP (if rS b (C1.fL k 0 (b.lines.length:Int))=0 then AH (fun s=>s.money) b k.toNat else(0,0)),.int .i64 (rS b (C1.fL k 0 (b.lines.length:Int)))]):=by
 have hb0:=hb;obtain⟨lv,cv,rfl,hl,hc⟩:=hb;have hll:=hl.len;refine enter 21 Tryz.func38 rfl rfl rfl rfl fun h0=>C.s1<|Zv rfl (fun q1 E1 hE1 hB1=>Zw rfl Tf.z63 rfl (fun q2=>Zi rfl<|L.n2<|aCX<|C.drawA [] 4 8 62 (fun _ _ _ h=>cZ (P:=Tryz.prog) (fn:=Tryz.f38) _ _ _ h)<|Zs rfl Tf.a36 rfl hB1 Tf.s36<|Za rfl<|Zj rfl Tf.f36_3 rfl<|Zg 3 rfl Tf.a33 rfl hB1 rfl ?_));refine aW rfl U33 rfl hl rfl rfl trivial<|Zd rfl (fun D1 hD1=>gY _ _ _ _)<|Zd rfl (fun D2 hD2=>S6 _ b (C1.fL k 0 (b.lines.length:Int)) _ (hb0.up (hD2 _ Ye)))<|Zi rfl<|L.n3<|Za rfl<|eQ rfl rfl rfl rfl trivial<|L.n1<|aF rfl (fun hc1=>?_) (fun hc1=>?_)
 ·refine C.s1<|Zq [.int .i64 0,.int .i64 0] rfl Tf.p63 Tf.z63 rfl rfl<|Za rfl<|Zu rfl Tf.s63 (bO.head)<|Zi rfl<|L.n5<|Zaj ?_;exact Zc [_,_] rfl ⟨⟨_,_,_,rfl,(List.Mem.head _),Or.inr ⟨Tf.a63,(by first|exact Tf.s63|(simp only[aLH,aI, *];exact Tf.s63)),rfl⟩⟩,rfl,aGL⟩ (fun D hD=>by show Value.tuple _=_;rw[aKO hc1];rfl)
 ·have he0:rS b (C1.fL k 0 (b.lines.length:Int))=0:=by omega
  obtain⟨hf0,hfi⟩:=Q3 he0;have hbo:=aDB hf0;rw[C1.cG]at hfi;obtain⟨n,rfl⟩:∃n:Nat,k=(n:Int):=⟨k.toNat,by omega⟩
  refine C.kn<|C.s1<|Zs rfl Tf.a36 rfl hB1 Tf.s36<|Za rfl<|Zd rfl (fun D3 hD3=>HN (fun s=>s.money) _ b n 66 _ (hb0.up (hD3 _ Ye)) hbo Yd (fun s D h4 h5=>CQ s D h4 h5))<|Zu rfl Tf.s63 (bO.head)<|Zi rfl<|L.n5 ?_;exact Zc [_,_] rfl ⟨⟨_,_,_,rfl,(List.Mem.head _),Or.inr ⟨Tf.a63,(by first|exact Tf.s63|(simp only[aLH,aI, *];exact Tf.s63)),rfl⟩⟩,rfl,aGL⟩ (fun D hD=>by show Value.tuple _=_;rw[aKS he0,he0];rfl)
theorem PL(bv:Value)(b:aZ)(D:aA)(hb:fO D bv b):Fn Tryz.prog 48 #[bv] D (fun _ v=>v=.tuple #[iP (if rS b (true)=0 then AH (fun s=>s.mixed) b b.lines.length else(0,0)),.int .i64 (rS b (true))]):=by
 have hb0:=hb;obtain⟨lv,cv,rfl,hl,hc⟩:=hb;have hll:=hl.len;refine enter 16 Tryz.func48 rfl rfl rfl rfl fun h0=>C.s1<|Zv rfl (fun q1 E1 hE1 hB1=>Zw rfl Tf.z63 rfl (fun q2=>Zi rfl<|L.n4<|Zs rfl Tf.a36 rfl hB1 Tf.s36<|Zd rfl (fun D1 hD1=>S6 _ b (true) _ (hb0.up (hD1 _ Ye)))<|Zi rfl<|L.n3<|Za rfl<|eQ rfl rfl rfl rfl aGL ?_));refine L.n1<|aF rfl (fun hc1=>?_) (fun hc1=>?_)
 ·refine C.s1<|Zq [.int .i64 0,.int .i64 0] rfl Tf.p63 Tf.z63 rfl rfl<|Za rfl<|Zu rfl Tf.s63 (bO.head)<|Zi rfl<|L.n5<|Zaj ?_;exact Zc [_,_] rfl ⟨⟨_,_,_,rfl,(List.Mem.head _),Or.inr ⟨Tf.a63,(by first|exact Tf.s63|(simp only[aLH,aI, *];exact Tf.s63)),rfl⟩⟩,rfl,aGL⟩ (fun D hD=>by show Value.tuple _=_;rw[aKO hc1];rfl)
 ·have he0:rS b (true)=0:=by omega
  obtain⟨hf0,hfi⟩:=Q3 he0;have hbo:=aDB hf0;refine C.kn<|C.s1<|Zs rfl Tf.a36 rfl hB1 Tf.s36<|Zj rfl Tf.f36_3 rfl<|Zg 3 rfl Tf.a33 rfl hB1 rfl<|aW rfl U33 rfl hl rfl rfl trivial<|Zd rfl (fun D2 hD2=>HN (fun s=>s.mixed) _ b b.lines.length 87 _ (hb0.up (hD2 _ Ye)) hbo Yd (fun s D h4 h5=>FD s D h4 h5))<|Zu rfl Tf.s63 (bO.head)<|Zi rfl<|L.n5 ?_;exact Zc [_,_] rfl ⟨⟨_,_,_,rfl,(List.Mem.head _),Or.inr ⟨Tf.a63,(by first|exact Tf.s63|(simp only[aLH,aI, *];exact Tf.s63)),rfl⟩⟩,rfl,aGL⟩ (fun D hD=>by show Value.tuple _=_;rw[aKS he0,he0];rfl)
end L3
end Go.Fs
namespace Go.Fs
open Go.Proofs
namespace L7
open C7
def fK(bh bc bo bY br n:Nat)(c:List Int):aC:=[(bh,.cells [.func (.func 226) #[] #[.pointer (some ⟨bc,0,none⟩),.pointer (some ⟨bY,0,none⟩),.pointer (some ⟨br,0,none⟩),.pointer (some ⟨bh,0,none⟩)]].toArray 172 (0,0)),(bc,.cells [.slice (some ⟨bo,0,none⟩) n n].toArray 272 (0,0)),(bo,.cells (ints c).toArray 78 (0,0))]
theorem nM{c pre:List Int}{i:Nat}{k:Int}(h:c.take (i+1)=pre++[k])(hl:pre.length=i):c.take i=pre:=by
 have:=aKJ (List.take i) h;rw[List.take_take,aOI (Nat.le_succ i)]at this;rw[this,aLN Yd,aLA Yd]
def VM(n bo:Nat):List Value:=[.slice (some ⟨bo,0,none⟩) n n]
def YE(P:Program)(Dr:aA)(lo l n:Nat)(J Jx:List (List Int)→oB)(xs:List (List Int)):Prop:=∀pre x β D w bo,(∃r,xs=pre++x::r)→sR lo D w→J pre β D w→(∀b∈β,b<w.heap.size)→Le Dr D→Q8 β D w bo (ints x)→
    fT P l (VM n bo) w fun b D' w'=>sR lo D' w'∧sS β D w D' w'∧(if b then J (pre++[x]) β D' w' else Jx (pre++[x]) β D' w')
def wW(J Jx:List (List Int)→oB)(bh bc bo bY br n:Nat)(places:List Int)(pre:List Int)(i:Nat)(done:List (List Int))(v:Value)(J':oB)(μ':aC):Prop:=
 ∃b c',v=.bool b∧c'.length=3*n∧c'.take i=pre∧μ'=fK bh bc bo bY br n c'∧(if b=true then J'=J (done++(C1.cT (places.drop i)).map fun t=>pre++t)else ∃p,J'=Jx p)
def FM(p:Int)(ps pre:List Int)(k:Nat):List (List Int):=(List.range k).flatMap fun(m:Nat)=>if p=2∨p=(m:Int)then(C1.cT ps).map (fun t=>pre++(m:Int)::t)else []
theorem SE{p:Int}{ps pre:List Int}:FM p ps pre 0=[]:=rfl
theorem ZS{p:Int}{ps pre:List Int}{k:Nat}(h:¬(p=2∨p=(k:Int))):FM p ps pre (k+1)=FM p ps pre k:=by
 unfold FM;rw[aMB,aLE,aLR,aKO h,aKF]
theorem HK{p:Int}{ps pre:List Int}{k:Nat}(h:p=2∨p=(k:Int)):FM p ps pre (k+1)=FM p ps pre k++(C1.cT ps).map (fun t=>(pre++[(k:Int)])++t):=by
 unfold FM;rw[aMB,aLE,aLR,aKS h];simp
theorem GH{p:Int}{ps pre:List Int}:FM p ps pre 2=(C1.cT (p::ps)).map (fun t=>pre++t):=by
 rw[show C1.cT (p::ps)=(if p=2∨p=0 then(C1.cT ps).map (0:: ·)else [])++(if p=2∨p=1 then(C1.cT ps).map (1:: ·)else [])from rfl];unfold FM;rw[show List.range 2=[0,1]from rfl,aLO,aLO,List.flatMap_nil,aKF,aKN];congr 1
 ·by_cases h:p=2∨p=0
  ·rw[aKS h,aKS Yan];simp
  ·rw[aKO h,aKO Yan];rfl
 ·by_cases h:p=2∨p=1
  ·rw[aKS h,aKS Yan];simp
  ·rw[aKO h,aKO Yan];rfl
theorem SD{p:Int}{ps pre:List Int}{k:Nat}(hk:k<2):∃r,FM p ps pre 2=FM p ps pre (k+1)++r:=by
 have e:k=0∨k=1:=by omega
 rcases e with rfl|rfl
 ·refine⟨[1].flatMap fun(m:Nat)=>if p=2∨p=(m:Int)then(C1.cT ps).map (fun t=>pre++(m:Int)::t)else [],?_⟩;unfold FM;rw[show List.range 2=[0]++[1]from rfl,aLE];rfl
 ·exact⟨[],by simp⟩
theorem QM{c pre:List Int}{i:Nat}{k:Int}(hi:i<c.length)(h:c.take i=pre):(c.set i k).take (i+1)=pre++[k]:=by
 rw[aKL,List.getElem?_set_self hi,aLZ,List.take_set_of_le (aKR _),h]
theorem MW{l:List Ch}{i:Nat}{p:Int}(h:(gK l)[i]?= some p):∃x,l[i / 3]?= some x∧x.parts.l[i%3]?= some p:=by
 induction l generalizing i with
 |nil=>simp[gK]at h
 |cons c l ih=>
  rw[show gK (c::l)=c.parts.a::c.parts.b::c.parts.c::gK l from rfl]at h;match i with
  |0=>exact⟨c,rfl,by simpa [Pt.l]using h⟩
  |1=>exact⟨c,rfl,by simpa [Pt.l]using h⟩
  |2=>exact⟨c,rfl,by simpa [Pt.l]using h⟩
  |j+3=>
   obtain⟨x,h1,h2⟩:=ih (i:=j) Yan;exact⟨x,by rw[show(j+3) / 3=j / 3+1 by omega];simpa using h1,by rw[show(j+3)%3=j%3 by omega];exact h2⟩
theorem vC{bh bc bo bY br n:Nat}{c:List Int}:(bo,Obj.cells (ints c).toArray 78 (0,0))∈fK bh bc bo bY br n c:=aJS _ (aJS _ (aNM _))
theorem aCN(i:Nat):0+((i:Int) / 3).toNat*3+((i:Int)%3).toNat*1=i:=by omega
theorem pF{lo l:Nat}{J Jx:List (List Int)→oB}{y:bJ}{xs:List (List Int)}{Dr Dy:aA}{Ds:List aA}{bh bc bo bY br:Nat}{cv qv:Value}(hn7:y.chairs.length≤7)
  (hs:∀pre,uQ lo (J pre)) (hsx:∀pre,uQ lo (Jx pre)) (hY:YE Tryz.prog Dr lo l y.chairs.length J Jx xs) (hDr:Dr∈Ds) (hDy:Dy∈Ds) (hA:At Dr br 0 [cv,.int .i64 y.fit,qv]) (hc:Sl Dr qY 4 cv y.chairs) (hB:At Dy bY 0 [.func (.yield l) #[] #[]]):
  ∀(j i:Nat) (pre c:List Int) (done rest:List (List Int)) (iv:Int),iv=i→i+j=3*y.chairs.length→pre.length=i→c.length=3*y.chairs.length→c.take i=pre→
   xs=done++(C1.cT ((gK y.chairs).drop i)).map (fun t=>pre++t)++rest→
   aCA Tryz.prog 226 [.int .i64 iv,.pointer (some ⟨bc,0,none⟩),.pointer (some ⟨bY,0,none⟩),.pointer (some ⟨br,0,none⟩),.pointer (some ⟨bh,0,none⟩)] lo (J done) (fK bh bc bo bY br y.chairs.length c) Ds (wW J Jx bh bc bo bY br y.chairs.length (gK y.chairs) pre i done):=by
 intro j;induction j using Nat.strongRecOn with
 |_ j ih=>
 intro i pre c done rest iv hiv hij hl h9 hp hxs;subst hiv;have hmx:=hc.len;have hfl:=kW y.chairs;refine vG (μ:=fK bh bc bo bY br y.chairs.length c) 52 Tryz.func226 rfl rfl rfl rfl<|C.s1<|Zi rfl<|L.n3<|Za rfl<|UJ rfl rfl rfl Yd Yd Yf rfl trivial<|Za rfl<|zR rfl rfl rfl Yd Yd Yf rfl trivial<|Zi rfl<|Zi rfl<|L.n4<|Za rfl ?_;refine Zm rfl Tf.a272 rfl (List.Mem.tail _ (List.Mem.head _)) rfl<|iI rfl U272 rfl rfl rfl trivial<|dH rfl rfl rfl rfl trivial<|L.n1<|aF rfl (fun hc1=>?_) (fun hc1=>?_)
 ·have hin:i=3*y.chairs.length:=by omega
  subst hin;have hleaf:c=pre:=by rw[←hp,aLA Yd]
  rw[←hfl,List.drop_length]at hxs;simp only[C1.cT,aLB,aOC,aKF]at hxs;rw[←hleaf,aKK,aNV]at hxs;refine C.s1<|Zg 0 rfl Tf.a319 rfl hB rfl<|Zm rfl Tf.a272 rfl (List.Mem.tail _ (List.Mem.head _)) rfl<|R7 (l:=l) (J1:=J (done++[c])) (J0:=Jx (done++[c])) rfl rfl rfl rfl (hs _) (hsx _) (fun D w hd hJ hb hl=>hY done c _ D w bo ⟨rest,hxs⟩ hd hJ (fun b hbm=>by obtain⟨p,hp,rfl⟩:=aJY.1 hbm;exact bC (hb p hp).1) (hl _ hDr) ⟨aJY.2 ⟨_,vC,rfl⟩,(hb _ vC).2,_,_,(hb _ vC).1⟩) rfl aGL (fun b1 J1 hJ1=>Zi rfl<|L.n5<|Zaj ?_)
  exact iF (P:=Tryz.prog) (fn:=Tryz.f226) (N:=52) (vs:=[_]) rfl rfl ⟨rfl,aGL⟩ (fun D h=>⟨D,h,Le.refl D⟩) ⟨b1,c,rfl,h9,hp,rfl,by cases b1<;>simp only[hJ1,aMG,aLI,aMN];exact⟨_,rfl⟩;rw[←hfl,List.drop_length];simp[C1.cT,hleaf]⟩
 ·have hin:i<(gK y.chairs).length:=by omega
  obtain⟨p,hpi⟩:∃p,(gK y.chairs)[i]?= some p:=⟨_,aJT hin⟩
  obtain⟨x,hx3,hm⟩:=MW hpi;have hx:y.chairs[((i:Int) / 3).toNat]?= some x:=by rw[show((i:Int) / 3).toNat=i / 3 by omega];exact hx3
  have hd:(gK y.chairs).drop i=p::(gK y.chairs).drop (i+1):=by rw[aLV hin];congr 1;exact aKZ ((aJT hin).symm.trans hpi)
  rw[hd,←GH]at hxs;refine C.kn<|C.s2<|Za rfl<|L.n1<|Zai<|A2 (γ:=Nat×List Int) (fun g=>2-g.1) (fun g=>g.1≤2∧g.2.length=3*y.chairs.length∧g.2.take i=pre) (fun g=>J (done++FM p ((gK y.chairs).drop (i+1)) pre g.1)) (fun g=>[(22,.int .i64 (g.1:Int))]) [(8,_),(7,_),(6,_),(0,_),(1,_),(3,_),(4,_)] (fun g=>fK bh bc bo bY br y.chairs.length g.2) (fun g=>Ds) (0,c) ⟨by simp,h9,hp⟩ (by simp[SE]) ⟨Yb,aGL⟩ C.rs (aJU _) (aD) ?_;rintro⟨k,c1⟩ ⟨h11,h91,hp1⟩;simp only at h11 h91 hp1;refine C.s1<|Zae rfl<|L.n2<|aF rfl (fun hc2=>?_) (fun hc2=>?_)
  ·refine C.kn<|aCX<|Zai<|C.s1<|Za rfl<|Zi rfl<|L.n3<|Zj rfl Tf.f40_0 rfl<|Zg 0 rfl Tf.a37 rfl hA rfl<|Za rfl<|Za rfl<|Zt rfl U37 Tf.s80 rfl hc rfl hx (fun b1 o1 cs1 hr1 hcl1 hA1=>?_);obtain rfl:cs1=[.int .i64 _,.int .i64 _,.int .i64 _,.int .i64 _]:=hr1;refine Zj rfl Tf.f80_1 rfl<|dR rfl U78 Tf.s3 rfl rfl Yd Yd rfl trivial<|bD (o:=_+1) (k:=((i:Int)%3).toNat*1) rfl Tf.a3 rfl hA1.tail Yj (by rw[show((i:Int)%3).toNat=i%3 by omega];exact aBG hm) aJN rfl trivial<|Zi rfl<|L.n3<|Za rfl<|dH rfl rfl rfl rfl trivial<|Za rfl ?_
   refine' iE [(false,3),(false,4),(false,5),(false,6)] [] (s:=35) (p:=39) rfl rfl (fun hg1=>?_) (fun hg1=>?_) ?_;rotate_left
   ·refine Zb rfl<|Zb rfl<|dH rfl rfl rfl rfl ⟨_,rfl,rfl⟩<|Zad rfl ?_;exact L.cu 3
   ·refine Zl rfl<|Zl rfl<|Zl rfl<|Zac rfl ?_;exact L.cu 3
   refine L.n1<|aJ rfl (fun hc3=>?_) (fun hc3=>?_)
   ·have hpk:p=2∨p=(k:Int):=by simpa using hc3
    obtain⟨rr,hr⟩:=SD (p:=p) (ps:=(gK y.chairs).drop (i+1)) (pre:=pre) (k:=k) Yd;refine C.s1<|Zm rfl Tf.a272 rfl (List.Mem.tail _ (List.Mem.head _)) rfl<|Za rfl<|Za rfl<|Za rfl<|eG rfl U272 Tf.s78 rfl rfl Yd Yd rfl trivial<|dR rfl U78 Tf.s3 rfl rfl Yd Yd rfl trivial<|pL (k:=i) rfl Tf.s3 (by show some (Value.pointer (some ⟨bo,0+((i:Int) / 3).toNat*3+((i:Int)%3).toNat*1,none⟩))=_;rw[aCN]) rfl (.tail (.tail bO.head)) Ym trivial<|L.n3<|Zm rfl Tf.a172 rfl (List.Mem.head _) rfl<|Za rfl<|Zy rfl ?_;refine mP rfl rfl rfl rfl (ih (j-1) Yd (i+1) (pre++[(k:Int)]) (c1.set i k) (done++FM p ((gK y.chairs).drop (i+1)) pre k) (rr++rest) (i+1:Int) Yd Yd Yad (by simpa using h91) (QM Yd hp1) (by rw[hxs,hr,HK hpk];simp)) rfl aGL ?_
    rintro _ J2 _ ⟨b2,c2,rfl,h9',hp',rfl,hJ2⟩;refine Zaf rfl<|L.n1<|aJ rfl (fun hc4=>?_) (fun hc4=>?_)
    ·obtain rfl:b2=false:=by simpa using hc4
     refine C.s1<|Zi rfl<|L.n5<|BW<|Zaj<|Zaj<|BW<|Zaj ?_;exact iF (P:=Tryz.prog) (fn:=Tryz.f226) (N:=52) (vs:=[_]) rfl rfl ⟨rfl,aGL⟩ (fun D h=>⟨D,h,Le.refl D⟩) ⟨false,c2,rfl,h9',nM hp' hl,rfl,by simpa using hJ2⟩
    ·obtain rfl:b2=true:=by simpa using hc4
     refine aAX<|Zak<|Zag<|C.rg<|Zy rfl<|Za rfl<|Zz ?_;exact kT 30 (k+1,c2) ⟨by simp only;omega,h9',nM hp' hl⟩ Ym (by simpa only[aMG,HK hpk,aKK]using hJ2) ⟨Yb,aGL⟩ rfl rfl (aJU _) (aD)
   ·have hpk:¬(p=2∨p=(k:Int)):=by simpa using hc3
    refine aAX<|Zak<|Zag<|C.rg<|Zy rfl<|Za rfl<|Zz ?_;exact kT 19 (k+1,c1) ⟨by simp only;omega,h91,hp1⟩ Ym (by rw[ZS hpk]) ⟨Yb,aGL⟩ rfl rfl (aJU _) (aD)
  ·refine aR<|Zah<|Zah<|Zal<|Zag<|C.s1<|Zi rfl<|L.n5 ?_;exact iF (P:=Tryz.prog) (fn:=Tryz.f226) (N:=52) (vs:=[_]) rfl rfl ⟨rfl,aGL⟩ (fun D h=>⟨D,h,Le.refl D⟩) ⟨true,c1,rfl,h91,hp1,rfl,by simp only[aMG];rw[hd,←GH,show k=2 by omega]⟩
theorem vD(y:bJ)(Dr:aA)(br:Nat)(cv qv:Value)(hn7:y.chairs.length≤7)(hA:At Dr br 0 [cv,.int .i64 y.fit,qv])(hc:Sl Dr qY 4 cv y.chairs):
  FI Tryz.prog 225 [.pointer (some ⟨br,0,none⟩)] Dr (C1.cT (gK y.chairs)) (VM y.chairs.length) ints:=by
 refine DW 12 Tryz.func225 rfl rfl rfl rfl (fun lo l J Jx hs hsx hY=>C.s1<|Zv rfl (fun q1 E1 hE1 hB1=>L.n3<|Zj rfl Tf.f40_0 rfl<|Zg 0 rfl Tf.a37 rfl hA rfl<|aW rfl U37 rfl hc rfl rfl trivial<|aO rfl U272 Tf.s78 Tf.z78 rfl Tf.i78 rfl rfl Yd (aV Ye rfl) rfl aGL (fun bo=>Zw rfl Tf.z272 rfl (fun q2=>Zo rfl Tf.s272 (bO.head) rfl<|L.n3<|Zw rfl Tf.z172 rfl (fun q3=>?_)))));refine L.n3<|bE rfl rfl rfl rfl trivial<|Zo rfl Tf.s172 (bO.head) rfl<|L.n1<|C.rg<|Zm rfl Tf.a172 rfl (List.Mem.head _) rfl<|mP rfl rfl rfl rfl (pF (l:=l) hn7 hs hsx hY Ye Ye hA hc hB1 (3*y.chairs.length) 0 [] (List.replicate (y.chairs.length*3) 0) [] [] 0 rfl Yd rfl Yad rfl Ye) rfl aGL ?_;rintro _ J2 _ ⟨b2,c2,rfl,h9',hp',rfl,hJ2⟩;refine Zz ?_;exact iF (P:=Tryz.prog) (fn:=Tryz.f225) (N:=12) (vs:=[]) rfl rfl aGL (fun D h=>⟨D,by simp only[aKQ]at h;subst h;simp,Le.refl D⟩) (by cases b2<;>simp at hJ2;exact aKB hJ2;exact aKP hJ2)
theorem tR(yv:Value)(y:bJ)(D:aA)(hy:lE D yv y)(hn7:y.chairs.length≤7):
  Fn Tryz.prog 145 #[yv] D (fun D' v=>∃br,v=.func (.func 225) #[] #[.pointer (some ⟨br,0,none⟩)]∧FI Tryz.prog 225 [.pointer (some ⟨br,0,none⟩)] D' (C1.cT (gK y.chairs)) (VM y.chairs.length) ints):=by
 obtain⟨cv,qv,rfl,hc,hq⟩:=hy;refine enter 4 Tryz.func145 rfl rfl rfl rfl fun h0=>C.s1<|Zv rfl (fun q1 E1 hE1 hB1=>Zi rfl<|L.n3<|bE rfl rfl rfl rfl trivial<|Zi rfl<|L.n5 ?_)
 exact Zc [_] rfl ⟨rfl,aGL⟩ (fun D hD=>⟨_,rfl,vD y _ q1 cv qv hn7 (hB1.up (hD _ Ye)) (hc.up qY.up (hD _ Ye))⟩)
end L7
end Go.Fs
namespace Go.Fs
open Go.Proofs
namespace L7
open C7
def vE(s:Sc):List Int:=(s.whole:Int)::(s.broken:Int)::s.fits.map fun n:Nat=>(n:Int)
theorem mX(s:Sc)(h:s.fits.length=7):(vE s).length=9:=by simp[vE,h]
theorem RY(s:Sc):CL s=.agg (ints (vE s)).toArray:=by
 unfold CL zY vE ints;rw[aLB,aLB,aJJ];rfl
theorem XZ{s s':Sc}(h:vE s=vE s'):s=s':=by
 obtain⟨a,b,c⟩:=s;obtain⟨a',b',c'⟩:=s';simp only[vE,aLS]at h;obtain⟨h1,h2,h3⟩:=h;rw[yS h3,show a=a' by omega,show b=b' by omega]
def xG(acc:List (Sc×Nat)):List Int:=match acc.getLast? with
 |some p=>vE p.1
 |none=>[]
def mN(y:bJ)(out:List Int)(acc:List (Sc×Nat))(t:List Pt):List (Sc×Nat):=
 if(mF y.claims out (oE y.chairs.length (dK y t):Int)&&(decide ((acc.length:Int)=0)|| !(xG acc==vE (dK y t))))=true then acc++[(dK y t,oE y.chairs.length (dK y t))]else acc
def fM(y:bJ)(out:List Int)(pre:List (List Int)):List (Sc×Nat):=(pre.map vL).foldl (mN y out) []
def eM(y:bJ)(out:List Int):List (Sc×Nat):=(e7 y).foldl (mN y out) []
theorem xP(y:bJ)(out:List Int):fM y out (C1.cT (gK y.chairs))=eM y out:=rfl
theorem N2(y:bJ)(out:List Int)(pre:List (List Int))(x:List Int):fM y out (pre++[x])=mN y out (fM y out pre) (vL x):=by
 unfold fM;rw[aKN,aMA];rfl
theorem LL(y:bJ)(out:List Int)(acc:List (Sc×Nat))(t:List Pt):(mN y out acc t).length≤acc.length+1:=by
 unfold mN;split
 ·simp
 ·omega
theorem T7(y:bJ)(out:List Int)(pre:List (List Int)):(fM y out pre).length≤pre.length:=by
 have key:∀(l:List (List Pt)) (acc:List (Sc×Nat)),(l.foldl (mN y out) acc).length≤acc.length+l.length:=by
  intro l;induction l with
  |nil=>intro acc;simp
  |cons t l ih=>intro acc;rw[aMF];have:=ih (mN y out acc t);have:=LL y out acc t;rw[aKD];omega
 have:=key (pre.map vL) [];simpa [fM]using this
theorem B4(y:bJ)(out:List Int)(pre:List (List Int)):∀p∈fM y out pre,p.1.fits.length=7:=by
 have key:∀(l:List (List Pt)) (acc:List (Sc×Nat)),(∀p∈acc,p.1.fits.length=7)→∀p∈l.foldl (mN y out) acc,p.1.fits.length=7:=by
  intro l;induction l with
  |nil=>intro acc h;exact h
  |cons t l ih=>
   intro acc h;rw[aMF];refine ih _ fun p hp=>?_
   unfold mN at hp;split at hp
   ·rcases aKM.1 hp with hp|hp
    ·exact h p hp
    ·simp only[aKQ]at hp;subst hp;simp[dK]
   ·exact h p hp
 exact key _ [] Ye
def wP(l:List Sc):List Value:=l.flatMap fun s=>ints (vE s)
theorem m5{l:List Sc}(h:∀s∈l,s.fits.length=7):(wP l).length=l.length*9:=by
 induction l with
 |nil=>rfl
 |cons c l ih=>
  have:=ih fun s hs=>h s (aKA _ hs)
  unfold wP at this ⊢
  rw[aLO,aJZ,this,aI,mX c (h c aKI),aKD];omega
theorem G6{acc:List (Sc×Nat)}(h:∀p∈acc,p.1.fits.length=7):(wP (acc.map fun p=>p.1)).length=acc.length*9:=by
 rw[m5 fun s hs=>by obtain⟨p,hp,rfl⟩:=aJY.1 hs;exact h p hp,aMI]
theorem AL{l:List Sc}(h:∀s∈l,s.fits.length=7){i:Nat}{s:Sc}(hi:l[i]?= some s)(junk:List Value):((wP l++junk).drop (i*9)).take 9=ints (vE s):=by
 induction l generalizing i with
 |nil=>simp at hi
 |cons d l ih=>
  have h9:(ints (vE d)).length=9:=by rw[aI,mX d (h d aKI)]
  have hc:wP (d::l)=ints (vE d)++wP l:=rfl;rw[hc,aKK];cases i with
  |zero=>
   obtain rfl:d=s:=by simpa using hi
   rw[aOG,aOA,aLN Yd,aLA Yd]
  |succ i=>
   rw[aOF,aLJ Yd,aLG,show(i+1)*9-(ints (vE d)).length=i*9 by omega];exact ih (fun s hs=>h s (aKA _ hs)) Yal
def BL:Rd Sc:=fun _ s cs=>cs=ints (vE s)
theorem BL.up:BL.Up:=fun _ _ _ h=>h
theorem _root_.Go.Fs.jJ.scs{D:aA}{v:Value}{n:Nat}{acc:List (Sc×Nat)}(hF:jJ D v n (wP (acc.map fun p=>p.1)))(hn:(acc.map fun p=>p.1).length=n)(hb:n≤9223372036854775807)(h:∀p∈acc,p.1.fits.length=7:=by assumption):Sl D BL 9 v (acc.map fun p=>p.1):=by
 have h':∀s∈acc.map (fun p=>p.1),s.fits.length=7:=fun s hs=>by obtain⟨p,hp,rfl⟩:=aJY.1 hs;exact h p hp
 exact hF.sl hn hb fun i s hi=>⟨_,rfl,by rw[aI,mX s (h' s (aJV hi))],by have:=AL h' hi [];rwa [aKF]at this⟩
theorem U7{acc:List (Sc×Nat)}(h:∀p∈acc,p.1.fits.length=7)(hne:acc≠[]):(xG acc).length=9:=by
 unfold xG;rw[aNH hne];exact mX _ (h _ (List.getLast_mem hne))
theorem SU{acc:List (Sc×Nat)}(h:∀p∈acc,p.1.fits.length=7)(hne:acc≠[])(junk:List Value):((wP (acc.map fun p=>p.1)++junk).drop (0+(((acc.length:Int)-1).toNat)*9)).take 9=ints (xG acc):=by
 have h':∀s∈acc.map (fun p=>p.1),s.fits.length=7:=fun s hs=>by obtain⟨p,hp,rfl⟩:=aJY.1 hs;exact h p hp
 have hpos:=aNF.2 hne;unfold xG;rw[aNH hne,aNB];refine AL h' ?_ junk;rw[aLC,show((acc.length:Int)-1).toNat=acc.length-1 by omega,←List.getLast?_eq_getElem?,aNH hne];rfl
theorem aBR{D:aA}{bo n:Nat}{x:List Int}(h:At D bo 0 (ints x))(hx:x.length=3*n)(hn:n≤7):Sl D RP 3 (.slice (some ⟨bo,0,none⟩) n n) (vL x):=by
  obtain⟨h1,h2⟩:=Y8 _ _ hx;have hle:n≤9223372036854775807∨True:=aKB trivial;have key:∀(l:List Pt) (i:Nat) (p:Pt),l[i]?= some p→((ints (C7.jO l)).drop (i*3)).take 3=[.int .i64 p.a,.int .i64 p.b,.int .i64 p.c]:=by
    intro l;induction l with
    |nil=>intro i p hi;simp at hi
    |cons d l ih=>
      intro i p hi;cases i with
      | zero => obtain rfl : d = p := by simpa using hi
                rfl
      |succ i=>
        rw[C7.nH,show(i+1)*3=i*3+3 by omega];exact ih i p Yal
  refine⟨_,n,by rw[h2],by omega,?_,aKB ⟨bo,0,rfl,fun i p hi=>⟨_,rfl,rfl,fun j v hj=>?_⟩⟩⟩
  · rw[h2];omega
  · have:=key _ _ _ hi;rw[h1]at this;rw[←this,List.getElem?_take]at hj;split at hj
    · rw[aMW]at hj;have:=h _ v hj;rw[show 0+i*3+j=0+(i*3+j) by omega];exact this
    · cases hj
def WO(y:bJ)(out:List Int)(pre:List (List Int))(g:Array MapEntry×Nat×List (lA 8×Int)×Value×aC×Value×aC):Prop:=
 qF pA g.1 g.2.2.1∧O8 y.chairs.length g.2.2.1∧bR 276 9 g.2.2.2.1 (fM y out pre).length (wP ((fM y out pre).map fun p=>p.1)) g.2.2.2.2.1∧bR 3 1 g.2.2.2.2.2.1 (fM y out pre).length (ints ((fM y out pre).map fun p=>(p.2:Int))) g.2.2.2.2.2.2
theorem aFL{y:bJ}{out:List Int}{pre:List (List Int)}{x:List Int}{es:Array MapEntry}{cl:Nat}{M:List (lA 8×Int)}{v u:Value}{ν ω:aC}(hM:qF pA es M)(hok:O8 y.chairs.length M)
  (hc:(mF y.claims out (oE y.chairs.length (dK y (vL x)):Int)&&(decide (((fM y out pre).length:Int)=0)|| !(xG (fM y out pre)==vE (dK y (vL x)))))=true)
  (h1:bR 276 9 v ((fM y out pre).length+1) (wP ((fM y out pre).map fun p=>p.1)++ints (vE (dK y (vL x)))) ν) (h2:bR 3 1 u ((fM y out pre).length+1) (ints ((fM y out pre).map fun p=>(p.2:Int))++[.int .i64 (oE y.chairs.length (dK y (vL x)):Int)]) ω):WO y out (pre++[x]) (es,cl,M,v,ν,u,ω):=by
 have e:fM y out (pre++[x])=fM y out pre++[(dK y (vL x),oE y.chairs.length (dK y (vL x)))]:=by
  rw[N2,mN,aKS hc]
 unfold WO;rw[e];refine⟨hM,hok,?_,?_⟩
 ·simpa [wP]using h1
 ·simpa [ints]using h2
theorem aAQ{y:bJ}{out:List Int}{pre:List (List Int)}{x:List Int}{es:Array MapEntry}{cl:Nat}{M:List (lA 8×Int)}{v u:Value}{ν ω:aC}(hM:qF pA es M)(hok:O8 y.chairs.length M)
  (hc:(mF y.claims out (oE y.chairs.length (dK y (vL x)):Int)&&(decide (((fM y out pre).length:Int)=0)|| !(xG (fM y out pre)==vE (dK y (vL x)))))=false)
  (h1:bR 276 9 v (fM y out pre).length (wP ((fM y out pre).map fun p=>p.1)) ν) (h2:bR 3 1 u (fM y out pre).length (ints ((fM y out pre).map fun p=>(p.2:Int))) ω):WO y out (pre++[x]) (es,cl,M,v,ν,u,ω):=by
 have e:fM y out (pre++[x])=fM y out pre:=by
  rw[N2,mN,aKO (by rw[hc];simp)]
 unfold WO;rw[e];exact⟨hM,hok,h1,h2⟩
theorem j5{y:bJ}(h:y.chairs.length≤7):(C1.cT (gK y.chairs)).length≤2097152:=by
 have h1:=C1.sD (gK y.chairs);have h2:2^(gK y.chairs).length≤2^21:=aNQ Yd (by rw[kW];omega)
 omega
theorem tG{l x:List Int}{pre r:List (List Int)}(h:C1.cT l=pre++x::r):x.length=l.length∧(∀n∈x,0≤n∧n≤1)∧pre.length<(C1.cT l).length:=by
 have hm:x∈C1.cT l:=by rw[h];simp
 exact⟨(C1.mQ hm).1,(C1.mQ hm).2,by rw[h];simp⟩
theorem QV{x:List Int}(h:∀n∈x,0≤n∧n≤1)(hg:C7.jO (vL x)=x):∀p∈vL x,R6 p:=fun p hp=>by
 have:∀n∈p.l,n∈x:=fun n hn=>by rw[←hg];exact aJR.2 ⟨p,hp,hn⟩
 exact⟨h _ (this _ (by simp[Pt.l])),h _ (this _ (by simp[Pt.l])),h _ (this _ (by simp[Pt.l]))⟩
theorem WX(A ν ω T:aC):A++(ν++(ω++T))=A++(ν++ω)++T:=by simp
theorem aDN(A ν ω T:aC):A++((ν++ω)++T)=A++ν++(ω++T):=by simp
theorem ZG{a b c d:Nat}{l:List Nat}:∀k∈[c,d],k∈a::b::c::d::l:=fun k hk=>by
 simp only[aJX,aJN,aMT]at hk ⊢
 rcases hk with rfl|rfl
 ·exact aKB (aKB (aKP rfl))
 ·exact aKB (aKB (aKB (aKP rfl)))
theorem aDP{A B ν ω C:aC}{k:Nat}(h:(((A++B)++(ν++(ω++C))).map fun p=>p.1).Nodup)(hk:k∈(A++B).ks):k∉ν.ks++ω.ks:=by
 rw[aKN,aKN,aKN,aKE]at h;intro hm;refine h.2.2 k (by simpa using hk) k ?_ rfl;rcases aKM.1 hm with hm|hm
 ·exact aKC _ hm
 ·rw[aKN];exact aJW _ (aKC _ hm)
theorem TI{n:Nat}{s:Sc}(h:AA n s)(hn:n≤7):oE n s≤200:=by
 have h1:=CO s.fits n s.broken;have h2:=W7 h.bits hn;have h3:=h.whole;unfold oE;omega
theorem aEK:KS Tryz.prog 276 9:=by
 have hf:(Tryz.prog.fieldsOf 276).toList=[(Tryz.prog.fieldsOf 276)[0]!,(Tryz.prog.fieldsOf 276)[1]!,(Tryz.prog.fieldsOf 276)[2]!]:=by kernel_rfl
 refine⟨by kernel_rfl,by kernel_rfl,by kernel_rfl,?_⟩;rw[hf];refine .cons (sF.int (by decide+kernel) Yg Yg) (.cons (sF.int (by decide+kernel) Yg Yg) (.cons (n:=7) (sF.arr (e:=3) (by decide+kernel) Yg Yg Yg Yg ?_ ?_) .nil))
 ·rw[show((Tryz.prog.fieldsOf 276)[2]!).type=274 by kernel_rfl];exact Tf.a274
 ·rw[show((Tryz.prog.fieldsOf 276)[2]!).type=274 by kernel_rfl];exact Tf.s274
theorem KU(yv tv:Value)(y:bJ)(t:List Pt)(D:aA)(hy:lE D yv y)(ht:Sl D RP 3 tv t)(hlen:t.length=y.chairs.length)(h7:t.length≤7)(hb:∀p∈t,R6 p)(hf:0≤y.fit∧y.fit≤9)(hs:∀c∈y.chairs,0≤c.size∧c.size≤9):Fn Tryz.prog 146 #[yv,tv] D (fun _ v=>v=.agg (ints (vE (dK y t))).toArray):=by
 rw[←RY];exact OH yv tv y t D hy ht hlen h7 hb hf hs
theorem TR(wb mb:Nat)(cv qv:Value)(fit:Int)(chs:List Ch)(s:Sc)(hn7:chs.length≤7)(hs:AA chs.length s)(es:Array MapEntry)(clock:Nat)(M:List (lA 8×Int))(D:aA)(hS:Sl D qY 4 cv chs)(hM:qF pA es M)(hok:O8 chs.length M):
  N6 Tryz.prog 147 [.pointer (some ⟨wb,0,none⟩),.agg (ints (vE s)).toArray] D [(wb,.cells [cv,.int .i64 fit,qv,.map (some mb)].toArray 268 (0,0)),(mb,.map es clock)] (fun _ v ν'=>v=.int .i64 (oE chs.length s:Int)∧∃es' clock' M',ν'=[(wb,.cells [cv,.int .i64 fit,qv,.map (some mb)].toArray 268 (0,0)),(mb,.map es' clock')]∧qF pA es' M'∧O8 chs.length M'):=by
 rw[←RY];exact WW wb mb cv qv fit chs s hn7 hs es clock M D hS hM hok
theorem V9(wb mb:Nat)(cv qv:Value)(y:bJ)(out:List Int)(ov:Value)(hn7:y.chairs.length≤7)(hft:0≤y.fit∧y.fit≤9)(hsz:∀c∈y.chairs,0≤c.size∧c.size≤9)(es0:Array MapEntry)(clock0:Nat)(M0:List (lA 8×Int))(D:aA)(hS:Sl D qY 4 cv y.chairs)(hq:Sl D R2 2 qv y.claims)(ho:Sl D RI 1 ov out)(hM0:qF pA es0 M0)(hok0:O8 y.chairs.length M0):
  N6 Tryz.prog 90 [.pointer (some ⟨wb,0,none⟩),ov] D [(wb,.cells [cv,.int .i64 y.fit,qv,.map (some mb)].toArray 268 (0,0)),(mb,.map es0 clock0)] (fun D' v ν'=>∃sv mv,v=.tuple #[sv,mv]∧Sl D' BL 9 sv ((eM y out).map fun p=>p.1)∧Sl D' RI 1 mv ((eM y out).map fun p=>(p.2:Int))∧∃es' clock' M',ν'=[(wb,.cells [cv,.int .i64 y.fit,qv,.map (some mb)].toArray 268 (0,0)),(mb,.map es' clock')]∧qF pA es' M'∧O8 y.chairs.length M'):=by
 obtain⟨oa,oc,rfl⟩:=ho.shape;refine CE 56 Tryz.func90 rfl rfl rfl rfl (fun h0 hwl hwn=>C.s1<|Zv rfl (fun q1 E1 hE1 hB1=>Zv rfl (fun q2 E2 hE2 hB2=>Zw rfl Tf.z183 rfl (fun q3=>Zw rfl Tf.z25 rfl (fun q4=>L.n4<|Zg 0 rfl Tf.a185 rfl hB1 rfl<|Zab rfl<|Zj rfl Tf.f268_0 rfl<|cS rfl Tf.a40 Tf.s40 rfl (List.Mem.tail _ (List.Mem.tail _ (List.Mem.head _))) rfl rfl aJN rfl trivial<|bU rfl rfl rfl (fun D1 hD1=>tR _ y _ ⟨_,_,rfl,hS.up qY.up (hD1 _ Ye),hq.up R2.up (hD1 _ Ye)⟩ hn7) rfl aGL (fun v1 D1 hD1 hp1=>?_))))));refine L.n1<|Zai ?_;obtain⟨br,rfl,hit⟩:=hp1;refine d6 (γ:=Array MapEntry×Nat×List (lA 8×Int)×Value×aC×Value×aC) (xs:=C1.cT (gK y.chairs)) (enc:=VM y.chairs.length) (cells:=ints) (Dr:=D1) (WO y out) (fun _ _ _=>False) (fun g=>(q4,.cells [g.2.2.2.2.2.1].toArray 25 (0,0))::(q3,.cells [g.2.2.2.1].toArray 183 (0,0))::(wb,.cells [cv,.int .i64 y.fit,qv,.map (some mb)].toArray 268 (0,0))::(mb,.map g.1 g.2.1)::(g.2.2.2.2.1++g.2.2.2.2.2.2)) (es0,clock0,M0,.slice none 0 0,[],.slice none 0 0,[]) rfl rfl (fun g k hk=>aKA _ (aKA _ (aKC (aC.ks _) hk))) rfl hit Ye (fun _=>rfl) rfl ⟨hM0,hok0,by simpa [fM,wP]using bR.nil,by simpa [fM,ints]using bR.nil⟩ rfl ?_ ?_ (fun _ _ _ _ h=>h.elim)
 ·rintro pre x ⟨es,clock,M,v,ν,u,ω⟩ ⟨us,hx⟩ ⟨hM,hok,ha1,ha2⟩ l bd bo rec hh D7 hD7 hbo hst hpend;simp only at hM hok ha1 ha2;obtain⟨hx3,hxb,hpl⟩:=tG hx;have hcap:=j5 hn7;rw[kW]at hx3;have ht:=aBR hbo hx3 hn7;obtain⟨hg1,hg2⟩:=Y8 _ _ hx3;have htl:(vL x).length=y.chairs.length:=hg2;have htb:=QV hxb hg1;have hsc:=V2 htl Yd;have hpsl:=T7 y out pre;have hmb:=TI hsc hn7;have hfit7:∀p∈fM y out pre,p.1.fits.length=7:=B4 y out pre;have hs9:=mX (dK y (vL x)) (by simp[dK]);refine C.rg<|Zi rfl<|Zz ?_;refine fun a w hhh=>tO (A:=[(_,_),(_,_),(_,_),(_,_)]++(ν++ω)) (B:=[(bd,.deferred (some []))]) (r:=rec) (l:=l) (by rfl) hst ?_ a w hhh
  refine LF ((q4,.cells [u].toArray 25 (0,0))::(q3,.cells [v].toArray 183 (0,0))::(wb,.cells [cv,.int .i64 y.fit,qv,.map (some mb)].toArray 268 (0,0))::(mb,.map es clock)::(ν++(ω++[(l,.loop {rec with state:=.busy}),(bd,.deferred (some []))]))) Ye<|rU (fun hnd=>?_);simp only[aLB,aKN,aOC,aLT,aKE,aJX,aKM,aJN,not_or]at hnd;refine Zai<|C.s1<|Zg 0 rfl Tf.a185 rfl hB1 rfl<|Zab rfl<|Zj rfl Tf.f268_0 rfl<|cS rfl Tf.a40 Tf.s40 rfl (List.Mem.tail _ (List.Mem.tail _ (List.Mem.head _))) rfl rfl aJN rfl trivial<|Za rfl<|Zd rfl (fun D2 hD2=>KU _ _ y (vL x) _ ⟨_,_,rfl,hS.up qY.up (hD2 _ Ye),hq.up R2.up (hD2 _ Ye)⟩ (ht.up RP.up (hD2 _ Ye)) htl Yd htb hft hsz)<|Zw rfl Tf.z276 rfl (fun q5=>bH rfl rfl rfl rfl Tf.s276 (by simpa using hs9) (by rfl) .head (bP _) trivial<|L.n3<|Zg 0 rfl Tf.a185 rfl hB1 rfl ?_);refine aY (vs:=ints (vE (dK y (vL x)))) rfl Tf.a276 rfl (aNM _) (by rw[show(ints (vE (dK y (vL x)))).length=9 by simpa using hs9];exact Tf.s276) aJN rfl trivial<|aE ([(_,_),(_,_),(_,_)]++[(_,_),(_,_)]++(ν++(ω++[(l,_),(bd,_)]))) rfl<|dF (A:=[(_,_),(_,_),(_,_)]) (ν:=[(_,_),(_,_)]) (B:=ν++(ω++[(l,_),(bd,_)])) rfl rfl rfl rfl (aKP rfl) (Q4 (cs:=[_,_,_,_])) (fun D5 hD5=>TR wb mb cv qv y.fit y.chairs (dK y (vL x)) hn7 hsc es clock M D5 (hS.up qY.up (hD5 _ Ye)) hM hok) rfl aGL (fun v5 D6 _ hD6 hp5=>?_)
  obtain⟨rfl,es1,cl1,M1,rfl,hM1,hok1⟩:=hp5;refine Zi rfl<|L.n2<|C.drawA [] 7 22 319536 (fun _ _ _ h=>h)<|Zg 0 rfl Tf.a185 rfl hB1 rfl<|Zab rfl<|Zj rfl Tf.f268_0 rfl<|cS rfl Tf.a40 Tf.s40 rfl (List.Mem.tail _ (List.Mem.tail _ (List.Mem.tail _ (List.Mem.head _)))) rfl rfl aJN rfl trivial<|Za rfl<|Zg 0 rfl Tf.a25 rfl hB2 rfl<|Zd rfl (fun D3 hD3=>I0 _ y _ _ out _ ⟨_,_,rfl,hS.up qY.up (hD3 _ Ye),hq.up R2.up (hD3 _ Ye)⟩ (ho.up RI.up (hD3 _ Ye)))<|Za rfl ?_;refine' cQ [(false,8),(false,9),(false,10),(false,11),(false,12),(true,13),(true,14),(true,15),(false,16),(false,17),(true,18),(false,19),(false,20),(false,21)] [] (s:=31) (p:=45) rfl rfl (fun hg1=>?_) (fun hg1=>?_) ?_;rotate_left
  ·refine aS rfl Tf.a183 rfl (aJS _ (aJS _ (aNM _))) rfl aJN rfl ⟨_,rfl,rfl⟩<|dX rfl U183 rfl ha1 rfl rfl ⟨_,rfl,rfl⟩<|dH rfl rfl rfl rfl ⟨_,rfl,rfl⟩<|Zb rfl ?_;refine' iE [(false,12),(true,13),(true,14),(true,15),(false,16),(false,17),(true,18),(false,19),(false,20)] [(false,21)] (s:=35) (p:=44) rfl rfl (fun hg2=>?_) (fun hg2=>?_) ?_;rotate_left
   ·have hne:fM y out pre≠[]:=fun e=>by rw[e]at hg2;simp at hg2
    have hpos:=aNF.2 hne;obtain⟨b5,cap5,junk5,rfl,hcp5,rfl,hl51,hl52⟩:=ha1.some hpos;refine aS rfl Tf.a183 rfl (aJS _ (aJS _ (aNM _))) rfl aJN rfl ⟨_,rfl,rfl⟩<|aS rfl Tf.a183 rfl (List.Mem.tail _ (List.Mem.tail _ (List.Mem.head _))) rfl aJN rfl ⟨_,rfl,rfl⟩<|iI rfl U183 rfl rfl rfl ⟨_,rfl,rfl⟩<|fW rfl rfl rfl Yf rfl ⟨_,rfl,rfl⟩<|eG rfl U183 Tf.s276 rfl rfl Yd Yd rfl ⟨_,rfl,rfl⟩<|cS (vs:=wP ((fM y out pre).map fun p=>p.1)++junk5) (us:=ints (xG (fM y out pre))) rfl Tf.a276 Tf.s276 rfl (aJS _ (aJS _ (aJS _ (aJS _ (aJS _ (aNM _)))))) (SU hfit7 hne junk5) (by simpa using U7 hfit7 hne) aJN rfl ⟨_,rfl,rfl⟩<|aY (vs:=ints (vE (dK y (vL x)))) rfl Tf.a276 rfl (aNM _) (by rw[show(ints (vE (dK y (vL x)))).length=9 by simpa using hs9];exact Tf.s276) aJN rfl ⟨_,rfl,rfl⟩<|ZV (n:=9) rfl aEK (U7 hfit7 hne) hs9 rfl rfl rfl ⟨_,rfl,rfl⟩<|mS rfl rfl rfl rfl ⟨_,rfl,rfl⟩ ?_
    exact L.cu 8
   ·refine Zl rfl<|Zl rfl<|Zl rfl<|Zl rfl<|Zl rfl<|Zl rfl<|Zl rfl<|Zl rfl<|mZ rfl rfl rfl rfl ⟨_,rfl,rfl⟩ ?_;exact L.cu 8
   refine Zac rfl ?_;exact L.cu 5
  ·refine Zl rfl<|Zl rfl<|Zl rfl<|Zl rfl<|Zl rfl<|Zl rfl<|Zl rfl<|Zl rfl<|Zl rfl<|Zl rfl<|Zl rfl<|Zl rfl ?_;refine Zl rfl<|Zad rfl ?_;exact L.cu 13
  refine L.n1<|aJ rfl (fun hc1=>?_) (fun hc1=>?_)
  ·refine rU (fun hnd=>?_);have hq5:=aDP (A:=[_,_,_]) (B:=[_,_]) (k:=q5) hnd (aNM _);have hq4:=aDP (A:=[_,_,_]) (B:=[_,_]) (k:=q4) hnd (aJS _ (aNM _));have hq3:=aDP (A:=[_,_,_]) (B:=[_,_]) (k:=q3) hnd (aJS _ (aJS _ (aNM _)));refine jU (ν.ks++ω.ks) 3 [false,true,true,true,true,true,true,false,false,false] [.fork [0,1,4,5] 2 (.fork [] 3 (.fin [6]) 6 (.fin [3])) 6 (.fin [2,3]),.fin [7,8,9]] Tf.follows (fun _ _ _ h=>h) Yg<|mE<|bG [(false,0),(true,1),(true,4),(true,5)] rfl<|aS rfl Tf.a183 rfl (List.Mem.tail _ (List.Mem.tail _ (List.Mem.head _))) rfl Yj rfl trivial<|aY (vs:=ints (vE (dK y (vL x)))) rfl Tf.a276 rfl (aNM _) (by rw[show(ints (vE (dK y (vL x)))).length=9 by simpa using hs9];exact Tf.s276) hq5 rfl trivial<|aS rfl Tf.a25 rfl (List.Mem.tail _ (List.Mem.head _)) rfl Yj rfl trivial<|Za rfl<|Zz (cY true true rfl rfl ?_ ?_)
   ·refine Zr rfl U183 Tf.s276 Tf.z276 rfl rfl rfl rfl (.cons rfl (by simpa using hs9) .nil) (fun b901 D901 hD901 hA901=>?_);have hAs:=hA901;refine Zz<|bG [] rfl<|Zz (cY true true rfl rfl ?_ ?_)
    ·refine aE ([(_,_),(_,_),(_,_),(_,_),(_,_)]++ν++(ω++[(l,_),(bd,_)])) (aKK _ _ _).symm<|aX (A:=[(_,_),(_,_),(_,_),(_,_),(_,_)]) (B:=(ω++[(l,_),(bd,_)])) rfl U183 rfl rfl Tf.s276 Tf.z276 rfl Tf.i276 rfl rfl rfl ha1 (jN.lit hAs) Ye (by simpa using hs9) (G6 hfit7) (by simpa using bP _) Yd (aKB (fun p hp=>aKC _ (aJY.2 ⟨p,hp,rfl⟩))) rfl aGL (fun v1x ν1x ha1x=>Zz<|aP [(true,6)] rfl<|Zr rfl U25 Tf.s3 Tf.z3 rfl rfl rfl rfl (.cons rfl rfl .nil) (fun b902 D902 hD902 hA902=>?_));have hAm:=hA902;refine Zz<|iA [(false,7),(false,8),(false,9)] rfl<|aE (([(_,_),(_,_),(_,_),(_,_),(_,_)]++ν1x)++ω++[(l,_),(bd,_)]) (aKK _ _ _).symm<|aX (A:=[(_,_),(_,_),(_,_),(_,_),(_,_)]++ν1x) (B:=[(l,_),(bd,_)]) rfl U25 rfl rfl Tf.s3 Tf.z3 rfl Tf.i3 rfl rfl rfl ha2 (jN.lit hAm) Ye rfl Ye Yi Yd (aKB (fun p hp=>aJW _ (aJY.2 ⟨p,hp,rfl⟩))) rfl aGL (fun u1x ω1x ha2x=>aE ((q5,_)::(q4,.cells [u].toArray 25 (0,0))::(q3,.cells [v].toArray 183 (0,0))::(wb,.cells [cv,.int .i64 y.fit,qv,.map (some mb)].toArray 268 (0,0))::(mb,.map es1 cl1)::(ν1x++(ω1x++[(l,_),(bd,_)]))) ((aKK _ _ _).trans (aKK _ _ _))<|aK rfl rfl rfl ha1x.cells1 Tf.s183 (.tail (.tail .head)) Ye rfl ha1x.cell1 trivial<|aK rfl rfl rfl ha2x.cells1 Tf.s25 (.tail .head) Ye rfl ha2x.cell1 aGL ?_);have hI1:WO y out (pre++[x]) (es1,cl1,M1,v1x,ν1x,u1x,ω1x):=aFL hM1 hok1 hc1 (by simpa using ha1x) (by simpa using ha2x);refine Zz<|hZ<|Zak ?_;exact fun a w hh=>fS (A:=[(_,_),(_,_),(_,_),(_,_)]++(ν1x++ω1x)) (B:=[(bd,.deferred (some []))]) (es1,cl1,M1,v1x,ν1x,u1x,ω1x) hI1 rfl rfl a w ((hh.dropBoxes 1).boxesEq (WX [_,_,_,_] ν1x ω1x [_,_]))
    ·refine Zr rfl U25 Tf.s3 Tf.z3 rfl rfl rfl rfl (.cons rfl rfl .nil) (fun b902 D902 hD902 hA902=>?_);have hAm:=hA902;refine Zz<|aP [(true,3)] rfl<|aE ([(_,_),(_,_),(_,_),(_,_),(_,_)]++ν++(ω++[(l,_),(bd,_)])) (aKK _ _ _).symm<|aX (A:=[(_,_),(_,_),(_,_),(_,_),(_,_)]) (B:=(ω++[(l,_),(bd,_)])) rfl U183 rfl rfl Tf.s276 Tf.z276 rfl Tf.i276 rfl rfl rfl ha1 (jN.lit hAs) Ye (by simpa using hs9) (G6 hfit7) (by simpa using bP _) Yd (aKB (fun p hp=>aKC _ (aJY.2 ⟨p,hp,rfl⟩))) rfl aGL (fun v1x ν1x ha1x=>Zz<|iA [(false,7),(false,8),(false,9)] rfl<|aE (([(_,_),(_,_),(_,_),(_,_),(_,_)]++ν1x)++ω++[(l,_),(bd,_)]) (aKK _ _ _).symm<|aX (A:=[(_,_),(_,_),(_,_),(_,_),(_,_)]++ν1x) (B:=[(l,_),(bd,_)]) rfl U25 rfl rfl Tf.s3 Tf.z3 rfl Tf.i3 rfl rfl rfl ha2 (jN.lit hAm) Ye rfl Ye Yi Yd (aKB (fun p hp=>aJW _ (aJY.2 ⟨p,hp,rfl⟩))) rfl aGL (fun u1x ω1x ha2x=>aE ((q5,_)::(q4,.cells [u].toArray 25 (0,0))::(q3,.cells [v].toArray 183 (0,0))::(wb,.cells [cv,.int .i64 y.fit,qv,.map (some mb)].toArray 268 (0,0))::(mb,.map es1 cl1)::(ν1x++(ω1x++[(l,_),(bd,_)]))) ((aKK _ _ _).trans (aKK _ _ _))<|aK rfl rfl rfl ha1x.cells1 Tf.s183 (.tail (.tail .head)) Ye rfl ha1x.cell1 trivial<|aK rfl rfl rfl ha2x.cells1 Tf.s25 (.tail .head) Ye rfl ha2x.cell1 aGL ?_));have hI1:WO y out (pre++[x]) (es1,cl1,M1,v1x,ν1x,u1x,ω1x):=aFL hM1 hok1 hc1 (by simpa using ha1x) (by simpa using ha2x);refine Zz<|hZ<|Zak ?_;exact fun a w hh=>fS (A:=[(_,_),(_,_),(_,_),(_,_)]++(ν1x++ω1x)) (B:=[(bd,.deferred (some []))]) (es1,cl1,M1,v1x,ν1x,u1x,ω1x) hI1 rfl rfl a w ((hh.dropBoxes 1).boxesEq (WX [_,_,_,_] ν1x ω1x [_,_]))
   ·refine Zr rfl U25 Tf.s3 Tf.z3 rfl rfl rfl rfl (.cons rfl rfl .nil) (fun b901 D901 hD901 hA901=>?_);have hAm:=hA901;refine Zz<|aP [(true,2),(true,3)] rfl<|Zr rfl U183 Tf.s276 Tf.z276 rfl rfl rfl rfl (.cons rfl (by simpa using hs9) .nil) (fun b902 D902 hD902 hA902=>?_);have hAs:=hA902;refine aE ([(_,_),(_,_),(_,_),(_,_),(_,_)]++ν++(ω++[(l,_),(bd,_)])) (aKK _ _ _).symm<|aX (A:=[(_,_),(_,_),(_,_),(_,_),(_,_)]) (B:=(ω++[(l,_),(bd,_)])) rfl U183 rfl rfl Tf.s276 Tf.z276 rfl Tf.i276 rfl rfl rfl ha1 (jN.lit hAs) Ye (by simpa using hs9) (G6 hfit7) (by simpa using bP _) Yd (aKB (fun p hp=>aKC _ (aJY.2 ⟨p,hp,rfl⟩))) rfl aGL (fun v1x ν1x ha1x=>Zz<|iA [(false,7),(false,8),(false,9)] rfl<|aE (([(_,_),(_,_),(_,_),(_,_),(_,_)]++ν1x)++ω++[(l,_),(bd,_)]) (aKK _ _ _).symm<|aX (A:=[(_,_),(_,_),(_,_),(_,_),(_,_)]++ν1x) (B:=[(l,_),(bd,_)]) rfl U25 rfl rfl Tf.s3 Tf.z3 rfl Tf.i3 rfl rfl rfl ha2 (jN.lit hAm) Ye rfl Ye Yi Yd (aKB (fun p hp=>aJW _ (aJY.2 ⟨p,hp,rfl⟩))) rfl aGL (fun u1x ω1x ha2x=>aE ((q5,_)::(q4,.cells [u].toArray 25 (0,0))::(q3,.cells [v].toArray 183 (0,0))::(wb,.cells [cv,.int .i64 y.fit,qv,.map (some mb)].toArray 268 (0,0))::(mb,.map es1 cl1)::(ν1x++(ω1x++[(l,_),(bd,_)]))) ((aKK _ _ _).trans (aKK _ _ _))<|aK rfl rfl rfl ha1x.cells1 Tf.s183 (.tail (.tail .head)) Ye rfl ha1x.cell1 trivial<|aK rfl rfl rfl ha2x.cells1 Tf.s25 (.tail .head) Ye rfl ha2x.cell1 aGL ?_));have hI1:WO y out (pre++[x]) (es1,cl1,M1,v1x,ν1x,u1x,ω1x):=aFL hM1 hok1 hc1 (by simpa using ha1x) (by simpa using ha2x);refine Zz<|hZ<|Zak ?_;exact fun a w hh=>fS (A:=[(_,_),(_,_),(_,_),(_,_)]++(ν1x++ω1x)) (B:=[(bd,.deferred (some []))]) (es1,cl1,M1,v1x,ν1x,u1x,ω1x) hI1 rfl rfl a w ((hh.dropBoxes 1).boxesEq (WX [_,_,_,_] ν1x ω1x [_,_]))
  ·have hI0:WO y out (pre++[x]) (es1,cl1,M1,v,ν,u,ω):=aAQ hM1 hok1 hc1 ha1 ha2;refine aAX<|Zak ?_;exact fun a w hh=>fS (A:=[(_,_),(_,_),(_,_),(_,_)]++(ν++ω)) (B:=[(bd,.deferred (some []))]) (es1,cl1,M1,v,ν,u,ω) hI0 rfl rfl a w ((hh.dropBoxes 1).boxesEq (WX [_,_,_,_] ν ω [_,_]))
 ·rintro⟨es,clock,M,v,ν,u,ω⟩ bd ⟨hM,hok,ha1,ha2⟩;simp only at hM hok ha1 ha2;rw[xP]at ha1 ha2;have hfit7:∀p∈eM y out,p.1.fits.length=7:=by rw[←xP];exact B4 y out _
  have hsl:(eM y out).length≤2097152:=by rw[←xP];have:=T7 y out (C1.cT (gK y.chairs));have:=j5 hn7;omega
  refine xW ((q4,.cells [u].toArray 25 (0,0))::(q3,.cells [v].toArray 183 (0,0))::(wb,.cells [cv,.int .i64 y.fit,qv,.map (some mb)].toArray 268 (0,0))::(mb,.map es clock)::((ν++ω)++[(bd,.deferred (some []))])) rfl<|Zak<|Zag<|aCX<|C.drawA [] 1 4 6 (fun _ _ _ h=>h)<|Zm rfl Tf.a183 rfl (List.Mem.tail _ (List.Mem.head _)) rfl<|Zm rfl Tf.a25 rfl (List.Mem.head _) rfl<|aGA rfl rfl rfl ha1.cells1 Tf.s183 (.tail .head) Ye rfl ha1.cell1 trivial<|aK rfl rfl rfl ha2.cells1 Tf.s25 .head Ye rfl ha2.cell1 trivial<|L.n5<|xW ([(_,_),(_,_),(_,_),(_,_)]++ν++(ω++[(bd,_)])) (aDN [_,_,_,_] ν ω [_])<|Q0 (A:=[(_,_),(_,_),(_,_),(_,_)]) (B:=ω++[(bd,_)]) ha1 ZG (fun D8 hD8 hF8=>?_);refine xW ([(_,_),(_,_),(_,_),(_,_)]++ω++[(bd,_)]) (aKK _ _ _).symm<|Q0 (A:=[(_,_),(_,_),(_,_),(_,_)]) (B:=[(bd,_)]) ha2 ZG (fun D9 hD9 hF9=>?_);exact AG (A:=[(_,_),(_,_)]) (ν':=[(_,_),(_,_)]) (B:=[]) (vs:=[_,_]) rfl rfl rfl ⟨⟨_,_,_,rfl,(aJS _ (aNM _)),aKP ⟨Tf.a183,rfl⟩⟩,⟨_,_,_,rfl,aNM _,aKP ⟨Tf.a25,rfl⟩⟩,aGL⟩ rfl (fun D hD=>⟨v,u,rfl,(hF8.scs Ye Yd).up BL.up ((hD9 _ Ye).trans (hD _ Ye)),(hF9.ints Ye Yd).up RI.up (hD _ Ye),es,clock,M,rfl,hM,hok⟩)
end L7
end Go.Fs
namespace Go.Fs
open Go.Proofs
namespace L7
open C7
def iG(s:Sc)(l:List (Int×Int)):Nat:=s.whole+(l.filter fun p=>fB s.fits p.1.toNat p.2.toNat).length
def LY(l:List (Int×Int)):Prop:=∀p∈l,∃x z:Nat,p=((x:Int),(z:Int))∧x<7∧z<7
theorem RV(s:Sc)(l:List (Int×Int)):iG s l≤s.whole+l.length:=by
 have:=aNC (fun p:Int×Int=>fB s.fits p.1.toNat p.2.toNat) l;unfold iG;omega
theorem EU{s:Sc}{l:List (Int×Int)}{k x z:Nat}(h:l[k]?= some ((x:Int),(z:Int))):((iG s (l.take (k+1)):Nat):Int)=(iG s (l.take k):Int)+((((s.fits.getD x 0) >>> z:Nat):Int)%2):=by
 rw[kA];unfold iG;rw[aKL,h,aLZ,aMX,aJZ];have:([((x:Int),(z:Int))].filter fun p:Int×Int=>fB s.fits p.1.toNat p.2.toNat).length=if(s.fits.getD x 0).testBit z=true then 1 else 0:=by
  show(List.filter (fun p:Int×Int=>(s.fits.getD p.1.toNat 0).testBit p.2.toNat) [((x:Int),(z:Int))]).length=_;rw[aNS];simp only[aLX];split<;>rfl
 rw[this];split<;>omega
theorem NN{a b:Nat}(ha:a<128)(hb:b<128):a|||b<128:=Nat.or_lt_two_pow (n:=7) ha hb
theorem LQ(w b:Nat)(a0 a1 a2 a3 a4 a5 a6:Nat)(lv:Value)(l:List (Int×Int))(D:aA)(_hF:∀f∈[a0,a1,a2,a3,a4,a5,a6],f<128)(hw:w≤7)(hl:Sl D R2 2 lv l)(hp:LY l)(hlen:l.length≤1000):Fn Tryz.prog 150 #[.agg #[.int .i64 (w:Int),.int .i64 (b:Int),.int .i64 (a0:Int),.int .i64 (a1:Int),.int .i64 (a2:Int),.int .i64 (a3:Int),.int .i64 (a4:Int),.int .i64 (a5:Int),.int .i64 (a6:Int)],lv] D (fun _ v=>v=.int .i64 (iG ⟨w,b,[a0,a1,a2,a3,a4,a5,a6]⟩ l:Int)):=by
 have hll:=hl.len;refine enter 29 Tryz.func150 rfl rfl rfl rfl fun h0=>C.s1<|Zv rfl (fun q1 E1 hE1 hB1=>Zi rfl<|L.n3<|Zj rfl Tf.f276_0 rfl<|Zg 0 rfl Tf.a3 rfl hB1 rfl<|Zi rfl<|L.n4<|Za rfl<|aW rfl U117 rfl hl rfl rfl trivial<|Za rfl ?_);refine L.n1<|Zai<|cN (γ:=Nat) (fun k=>l.length-k) (fun k=>k≤l.length) (fun k=>[(12,.int .i64 (k:Int)),(5,.int .i64 (iG ⟨w,b,[a0,a1,a2,a3,a4,a5,a6]⟩ (l.take k):Int))]) [(11,_),(10,_),(4,_),(2,_)] (fun k=>[E1,D]) 0 Yd ⟨Yb,(by simp[iG];rfl),aGL⟩ C.rs (aD) ?_
 rintro k h1;refine C.s1<|Zae rfl<|L.n2<|aF rfl (fun hc1=>?_) (fun hc1=>?_)
 ·have hk:k<l.length:=by omega
  obtain⟨p,hp0⟩:∃p,l[k]?= some p:=⟨_,aJT hk⟩
  obtain⟨x,z,rfl,hx7,hz7⟩:=hp p (aJV hp0);have hml:=RV ⟨w,b,[a0,a1,a2,a3,a4,a5,a6]⟩ (l.take k);have htl:(l.take k).length≤k:=aOP _ _;simp only at hml;refine C.kn<|aCX<|Zai<|C.s1<|Zt rfl U117 Tf.s196 rfl hl rfl hp0 (fun b1 o1 cs1 hr1 hcl1 hA1=>?_);obtain rfl:cs1=[.int .i64 _,.int .i64 _]:=hr1;refine Zs rfl Tf.a196 rfl hA1 Tf.s196<|Zw rfl Tf.z196 rfl (fun q2=>Zu rfl Tf.s196 (bO.head)<|L.n1<|C.drawA [] 6 12 1022 (fun _ _ _ h=>cZ (P:=Tryz.prog) (fn:=Tryz.f150) _ _ _ h)<|Za rfl<|Zj rfl Tf.f196_0 rfl<|Zm rfl Tf.a3 rfl (List.Mem.head _) rfl<|Zj rfl Tf.f276_2 rfl<|dR rfl U274 Tf.s3 rfl rfl Yd Yd rfl trivial<|bD (o:=0+1+1) (k:=x*1) rfl Tf.a3 rfl hB1.tail.tail Ye (PR a0 a1 a2 a3 a4 a5 a6 hx7) aJN rfl trivial<|Zj rfl Tf.f196_1 rfl ?_);refine Zm rfl Tf.a3 rfl (List.Mem.head _) rfl<|K3 rfl rfl rfl Yd rfl trivial<|zR rfl rfl rfl (Int.natCast_nonneg _) Yd (by rw[kA];split<;>simp only[rP]<;>omega) rfl trivial<|rI rfl rfl rfl (by rw[kA];simp only[rP];split<;>omega) rfl trivial<|Zi rfl<|Zz<|Zak<|Zag<|C.rg<|Zy rfl<|Za rfl<|Zz ?_
  exact aH 20 (k+1) Yd Yd ⟨Yb,(by rw[EU hp0];rfl),aGL⟩ rfl rfl (aKT _ (aJU _)) (aD)
 ·obtain rfl:k=l.length:=by omega
  rw[aLL];refine aR<|Zah<|Zah<|Zal<|Zag<|C.s1<|Za rfl<|Zi rfl<|L.n5 ?_;exact Zc [_] rfl ⟨rfl,aGL⟩ (fun D hD=>rfl)
theorem x5(s:Sc)(lv:Value)(l:List (Int×Int))(hs:∀f∈s.fits,f<128)(hw:s.whole≤7)(hp:LY l)(hlen:l.length≤1000)(D:aA)(hl:Sl D R2 2 lv l)(hs7:s.fits.length=7):Fn Tryz.prog 150 #[.agg (ints (vE s)).toArray,lv] D (fun _ v=>v=.int .i64 (iG s l:Int)):=by
 obtain⟨w,b,F⟩:=s;obtain⟨a0,a1,a2,a3,a4,a5,a6,rfl⟩:=YZ hs7;exact LQ w b a0 a1 a2 a3 a4 a5 a6 lv l D hs hw hl hp hlen
end L7
end Go.Fs
namespace Go.Fs
open Go.Proofs
namespace L7
open C7
def eA(y:bJ):(Int×Int)×Int:=if aT y≠0 then((0,0),aT y)else match(eM y []).map fun p=>(p.2:Int)with
 | []=>((0,0),11)
 |m::l=>((m::l).foldl (fun r n=>(min r.1 n,max r.2 n)) (m,m),0)
theorem CD{y:bJ}(h:aT y=0)(hn:eM y []=[]):Value.tuple #[.agg #[.int .i64 0,.int .i64 0],.int .i64 11]=.tuple #[iP (eA y).1,.int .i64 (eA y).2]:=by
 rw[eA,aKO Yd,hn];rfl
theorem yX{y:bJ}{L:List Int}{m0:Int}(h:aT y=0)(hL:((eM y []).map fun p=>(p.2:Int))=L)(hm:L[0]?= some m0):Value.tuple #[.agg #[.int .i64 (L.foldl (fun r n=>(min r.1 n,max r.2 n)) (m0,m0)).1,.int .i64 (L.foldl (fun r n=>(min r.1 n,max r.2 n)) (m0,m0)).2],.int .i64 0]=.tuple #[iP (eA y).1,.int .i64 (eA y).2]:=by
  rw[eA,aKO Yd,hL];cases L with
  |nil=>simp at hm
  | cons m l => obtain rfl : m = m0 := by simpa using hm
                rfl
theorem y8{L:List Int}{k:Nat}{n m0:Int}(h:L[k]?= some n):(L.take (k+1)).foldl (fun r n=>(min r.1 n,max r.2 n)) (m0,m0)=(min ((L.take k).foldl (fun r n=>(min r.1 n,max r.2 n)) (m0,m0)).1 n,max ((L.take k).foldl (fun r n=>(min r.1 n,max r.2 n)) (m0,m0)).2 n):=by
 rw[aKL,h,aLZ,aMA];rfl
theorem lJ(yv:Value)(y:bJ)(D:aA)(hy:lE D yv y):Fn Tryz.prog 49 #[yv] D (fun _ v=>v=.tuple #[iP (eA y).1,.int .i64 (eA y).2]):=by
 have hy0:=hy;obtain⟨cv,qv,rfl,hc,hq⟩:=hy;refine enter 48 Tryz.func49 rfl rfl rfl rfl fun h0=>C.s1<|Zv rfl (fun q1 E1 hE1 hB1=>Zw rfl Tf.z114 rfl (fun q2=>Zi rfl<|L.n4<|Zs rfl Tf.a40 rfl hB1 Tf.s40<|Zd rfl (fun D1 hD1=>qO _ y _ (hy0.up (hD1 _ Ye)))<|Zi rfl<|L.n3<|Za rfl<|eQ rfl rfl rfl rfl aGL ?_));refine L.n1<|aF rfl (fun hc1=>?_) (fun hc1=>?_)
 ·refine C.s1<|Zq [.int .i64 0,.int .i64 0] rfl Tf.p114 Tf.z114 rfl rfl<|Za rfl<|Zu rfl Tf.s114 (bO.head)<|Zi rfl<|L.n5<|Zaj ?_;exact Zc [_,_] rfl ⟨⟨_,_,_,rfl,(List.Mem.head _),Or.inr ⟨Tf.a114,(by first|exact Tf.s114|(simp only[aLH,aI, *];exact Tf.s114)),rfl⟩⟩,rfl,aGL⟩ (fun D hD=>by show Value.tuple _=_;rw[eA,aKS hc1];rfl)
 ·have hf0:aT y=0:=by omega
  have hyo:=aDZ hf0;have hn7:=hyo.len;refine C.kn<|C.s1<|Zs rfl Tf.a40 rfl hB1 Tf.s40<|eZ (μ:=_) rfl rfl rfl (fun D5 hD5=>A5 _ y _ _ D5 rfl) rfl aGL (fun v5 D6 _ hD6 hp5=>?_);obtain⟨wb,mb,rfl,rfl⟩:=hp5;refine aE ([]++[(_,_),(_,_)]++([(_,_)])) rfl<|dF (A:=[]) (ν:=[(_,_),(_,_)]) (B:=[(_,_)]) rfl rfl rfl rfl (aKP rfl) (Q4 (cs:=[_,_,_,_])) (fun D7 hD7=>V9 wb mb _ _ y [] _ Yd hyo.fit hyo.size #[] 0 [] _ (hc.up qY.up (hD7 _ Ye)) (hq.up R2.up (hD7 _ Ye)) Sl.nil rfl O8.nil) rfl aGL (fun v7 D8 _ hD8 hp7=>?_);obtain⟨sv,mv,rfl,hsv,hmv,es1,cl1,M1,rfl,hM1,hok1⟩:=hp7;refine Za rfl<|Zaa rfl<|Zaa rfl<|Zi rfl<|Zi rfl<|L.n4<|Za rfl<|aW rfl U25 rfl hmv rfl rfl trivial<|dH rfl rfl rfl rfl trivial<|L.n1<|aF rfl (fun hc2=>?_) (fun hc2=>?_)
  ·have hnil:eM y []=[]:=by simpa using hc2
   refine C.s1<|Zq [.int .i64 0,.int .i64 0] rfl Tf.p114 Tf.z114 rfl rfl<|Zu rfl Tf.s114 (.tail (.tail (bO.head)))<|Zi rfl<|L.n5<|Zaj ?_;exact Zc [_,_] rfl ⟨⟨_,_,_,rfl,(List.Mem.tail _ (List.Mem.tail _ (List.Mem.head _))),Or.inr ⟨Tf.a114,(by first|exact Tf.s114|(simp only[aLH,aI, *];exact Tf.s114)),rfl⟩⟩,rfl,aGL⟩ (fun D hD=>CD hf0 hnil)
  ·generalize hL:((eM y []).map fun p=>(p.2:Int))=ms at hmv hc2 ⊢
   have hml:=hmv.len;have hne:ms≠[]:=fun e=>hc2 (by rw[e];rfl)
   obtain⟨m0,hm0⟩:∃m,ms[0]?= some m:=⟨ms[0]'(aNF.2 hne),aJT _⟩
   refine C.kn<|aCX<|jU [] 3 [false,false,false,true,true,true,false,true,true,true,false,false] [.fork [0,1,2,3,4,5,6,7] 8 (.fin [9]) 9 (.fin [8]),.fin [10,11]] Tf.follows (fun _ _ _ h=>cZ (P:=Tryz.prog) (fn:=Tryz.f49) _ _ _ h) Yg<|mE<|bG [(false,0),(false,1),(false,2),(true,3),(true,4),(true,5),(false,6),(true,7)] rfl<|Za rfl<|Zt rfl U25 Tf.s3 rfl hmv rfl hm0 (fun b1 o1 cs1 hr1 hcl1 hA1=>?_);obtain rfl:cs1=[.int .i64 _]:=hr1;refine Zg 0 rfl Tf.a3 rfl hA1 rfl<|Za rfl<|Zt rfl U25 Tf.s3 rfl hmv rfl hm0 (fun b2 o2 cs2 hr2 hcl2 hA2=>?_);obtain rfl:cs2=[.int .i64 _]:=hr2;refine Zg 0 rfl Tf.a3 rfl hA2 rfl<|Zq [.int .i64 m0,.int .i64 m0] rfl Tf.p114 Tf.z114 rfl rfl<|Zq [.func (.func 91) #[] #[]] rfl Tf.p191 Tf.z191 rfl rfl<|Zz (cY true true rfl rfl ?_ ?_)
   ·refine Zw rfl Tf.z114 rfl (fun q3=>Zz<|aP [(true,9)] rfl<|Zw rfl Tf.z191 rfl (fun q4=>Zz<|iA [(false,10),(false,11)] rfl<|Zu rfl Tf.s114 (.tail (bO.head))<|Zu rfl Tf.s191 (bO.head)<|Zz<|hZ<|Zag<|C.s2 ?_));refine Za rfl<|aW rfl U25 rfl hmv rfl rfl trivial<|Za rfl<|L.n1<|Zai<|cE (γ:=Nat) (fun k=>ms.length-k) (fun k=>k≤ms.length) (fun k=>[(37,.int .i64 (k:Int))]) [(36,_),(35,_),(8,_),(7,_),(3,_),(2,_)] (fun k=>(q4,.cells [.func (.func 91) #[] #[]].toArray 191 (0,0))::(q3,.cells [.int .i64 (List.foldl (fun r n=>(min r.1 n,max r.2 n)) (m0,m0) (ms.take k)).1,.int .i64 (List.foldl (fun r n=>(min r.1 n,max r.2 n)) (m0,m0) (ms.take k)).2].toArray 114 (0,0))::(wb,.cells [cv,.int .i64 y.fit,qv,.map (some mb)].toArray 268 (0,0))::(mb,.map es1 cl1)::[(q2,.cells [.int .i64 0,.int .i64 0].toArray 114 (0,0))]) (fun k=>[D8,D6,E1,D]) 0 Yd ⟨Yb,aGL⟩ C.rs (aJU _) (aD) ?_;rintro k h1;refine C.s1<|Zae rfl<|L.n2<|aF rfl (fun hc3=>?_) (fun hc3=>?_)
    ·have hk:k<ms.length:=by omega
     obtain⟨n,hn0⟩:∃n,ms[k]?= some n:=⟨_,aJT hk⟩
     have hst:=y8 (m0:=m0) hn0;refine C.kn<|aCX<|Zai<|C.s1<|Zt rfl U25 Tf.s3 rfl hmv rfl hn0 (fun b3 o3 cs3 hr3 hcl3 hA3=>?_);obtain rfl:cs3=[.int .i64 _]:=hr3;refine Zg 0 rfl Tf.a3 rfl hA3 rfl<|Zi rfl<|L.n1<|C.rg<|Zj rfl Tf.f191_0 rfl<|Zm rfl Tf.a188 rfl (List.Mem.head _) rfl<|Zp rfl Tf.a114 rfl (List.Mem.tail _ (List.Mem.head _)) Tf.s114<|Za rfl<|Zd rfl (fun D2 hD2=>nW (List.foldl (fun r n=>(min r.1 n,max r.2 n)) (m0,m0) (ms.take k)) n _)<|Zu rfl Tf.s114 (.tail (bO.head))<|Zz<|Zak ?_;refine Zag<|C.rg<|Zy rfl<|Za rfl<|Zz ?_;rw[←hst];exact aH 12 (k+1) Yd Yd ⟨Yb,aGL⟩ rfl rfl (aJU _) (aD)
    ·obtain rfl:k=ms.length:=by omega
     rw[aLL];refine aR<|Zah<|Zah<|Zal<|Zag<|C.s1<|Zp rfl Tf.a114 rfl (List.Mem.tail _ (List.Mem.head _)) Tf.s114<|Zu rfl Tf.s114 (.tail (.tail (.tail (.tail (bO.head)))))<|Zi rfl<|L.n5 ?_;exact Zc [_,_] rfl ⟨⟨_,_,_,rfl,(List.Mem.tail _ (List.Mem.tail _ (List.Mem.tail _ (List.Mem.tail _ (List.Mem.head _))))),Or.inr ⟨Tf.a114,(by first|exact Tf.s114|(simp only[aLH,aI, *];exact Tf.s114)),rfl⟩⟩,rfl,aGL⟩ (fun D hD=>yX hf0 hL hm0)
   ·refine Zw rfl Tf.z191 rfl (fun q3=>Zz<|aP [(true,8)] rfl<|Zw rfl Tf.z114 rfl (fun q4=>Zz<|iA [(false,10),(false,11)] rfl<|Zu rfl Tf.s114 (bO.head)<|Zu rfl Tf.s191 (.tail (bO.head))<|Zz<|hZ<|Zag<|C.s2 ?_));refine Za rfl<|aW rfl U25 rfl hmv rfl rfl trivial<|Za rfl<|L.n1<|Zai<|cE (γ:=Nat) (fun k=>ms.length-k) (fun k=>k≤ms.length) (fun k=>[(37,.int .i64 (k:Int))]) [(36,_),(35,_),(7,_),(8,_),(3,_),(2,_)] (fun k=>(q4,.cells [.int .i64 (List.foldl (fun r n=>(min r.1 n,max r.2 n)) (m0,m0) (ms.take k)).1,.int .i64 (List.foldl (fun r n=>(min r.1 n,max r.2 n)) (m0,m0) (ms.take k)).2].toArray 114 (0,0))::(q3,.cells [.func (.func 91) #[] #[]].toArray 191 (0,0))::(wb,.cells [cv,.int .i64 y.fit,qv,.map (some mb)].toArray 268 (0,0))::(mb,.map es1 cl1)::[(q2,.cells [.int .i64 0,.int .i64 0].toArray 114 (0,0))]) (fun k=>[D8,D6,E1,D]) 0 Yd ⟨Yb,aGL⟩ C.rs (aJU _) (aD) ?_;rintro k h1;refine C.s1<|Zae rfl<|L.n2<|aF rfl (fun hc3=>?_) (fun hc3=>?_)
    ·have hk:k<ms.length:=by omega
     obtain⟨n,hn0⟩:∃n,ms[k]?= some n:=⟨_,aJT hk⟩
     have hst:=y8 (m0:=m0) hn0;refine C.kn<|aCX<|Zai<|C.s1<|Zt rfl U25 Tf.s3 rfl hmv rfl hn0 (fun b3 o3 cs3 hr3 hcl3 hA3=>?_);obtain rfl:cs3=[.int .i64 _]:=hr3;refine Zg 0 rfl Tf.a3 rfl hA3 rfl<|Zi rfl<|L.n1<|C.rg<|Zj rfl Tf.f191_0 rfl<|Zm rfl Tf.a188 rfl (List.Mem.tail _ (List.Mem.head _)) rfl<|Zp rfl Tf.a114 rfl (List.Mem.head _) Tf.s114<|Za rfl<|Zd rfl (fun D2 hD2=>nW (List.foldl (fun r n=>(min r.1 n,max r.2 n)) (m0,m0) (ms.take k)) n _)<|Zu rfl Tf.s114 (bO.head)<|Zz<|Zak ?_;refine Zag<|C.rg<|Zy rfl<|Za rfl<|Zz ?_;rw[←hst];exact aH 12 (k+1) Yd Yd ⟨Yb,aGL⟩ rfl rfl (aJU _) (aD)
    ·obtain rfl:k=ms.length:=by omega
     rw[aLL];refine aR<|Zah<|Zah<|Zal<|Zag<|C.s1<|Zp rfl Tf.a114 rfl (List.Mem.head _) Tf.s114<|Zu rfl Tf.s114 (.tail (.tail (.tail (.tail (bO.head)))))<|Zi rfl<|L.n5 ?_;exact Zc [_,_] rfl ⟨⟨_,_,_,rfl,(List.Mem.tail _ (List.Mem.tail _ (List.Mem.tail _ (List.Mem.tail _ (List.Mem.head _))))),Or.inr ⟨Tf.a114,(by first|exact Tf.s114|(simp only[aLH,aI, *];exact Tf.s114)),rfl⟩⟩,rfl,aGL⟩ (fun D hD=>yX hf0 hL hm0)
end L7
end Go.Fs
