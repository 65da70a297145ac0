/- Of the proof of BookPlace: V2, V3, V4, V5, V6, V7, V8, V9, V10, V11, V12, V13, V14, Shell, V15, V16, V17, V18, V19, V20, V21. -/
import Derived.Test.YtbaniakdgogjeaaGreatDoorZBookPlaceAF
import Derived.Test.YtbaniakdgogjeaaGreatDoorZBookPlaceAC
import Derived.Test.YtbaniakdgogjeaaGreatDoorZBookPlaceAE
import Derived.Test.YtbaniakdgogjeaaGreatDoorZBookPlaceAD
import Derived.ProofKit
import Derived.OpenShut
import Derived.WideKeyArgs
import Derived.JoinedCond
namespace Go.Fs
open Go.Proofs
namespace L3
open L1
open C3
def EP(lo:Int)(k:Nat):List Int:=(List.range k).map fun i:Nat=>lo+(i:Int)
theorem QI{s n lo hi:Int}(h:s≠n):dV s n lo hi=[s]:=by unfold dV;rw[aKS h]
theorem SB{s n lo hi:Int}(h:¬s≠n):dV s n lo hi=EP lo (hi+1-lo).toNat:=by unfold dV;rw[aKO h];rfl
theorem gY(n lo hi:Int)(D:aA):Fn Tryz.prog 64 #[.int .i64 n,.int .i64 lo,.int .i64 hi] D (fun _ v=>v=.bool (C1.fL n lo hi)):=by
 refine enter 15 Tryz.func64 rfl rfl rfl rfl fun h0=>C.s1<|Zi rfl<|L.n3<|Za rfl<|Za rfl<|iM rfl rfl rfl rfl trivial<|Za rfl ?_
 refine' cQ [(false,4),(false,5),(false,6),(false,7)] [(false,8)] (s:=10) (p:=14) rfl rfl (fun hg1=>?_) (fun hg1=>?_) ?_;rotate_left
 ·refine Zb rfl<|Zb rfl<|iM rfl rfl rfl rfl ⟨_,rfl,rfl⟩<|Zac rfl ?_;exact L.cu 3
 ·refine Zl rfl<|Zl rfl<|Zl rfl<|Zad rfl ?_;exact L.cu 3
 refine Zi rfl<|L.n5 ?_;exact Zc [_] rfl ⟨rfl,aGL⟩ (fun D hD=>rfl)
theorem sT(sv:Value)(x:Int)(xs:List Int)(D:aA)(hS:Sl D RI 1 sv (x::xs)):
  Fn Tryz.prog 135 #[sv] D (fun _ v=>v=.int .i64 (xs.foldl min x)):=by
 refine enter 5 Tryz.func135 rfl rfl rfl rfl fun h0=>C.s1<|Zi rfl<|L.n3<|Za rfl<|Zd rfl (fun D1 hD1=>K8 _ x xs _ (Sl.at RI.up hD1 Yk Ye))<|Zi rfl<|L.n5 ?_
 exact Zc [_] rfl ⟨rfl,aGL⟩ (fun D hD=>rfl)
theorem VT(r:Int×Int)(n:Int)(D:aA):Fn Tryz.prog 251 #[iP r,.int .i64 n] D (fun _ v=>v=.bool (C1.fL n r.1 r.2)):=by
 refine enter 11 Tryz.func251 rfl rfl rfl rfl fun h0=>C.s1<|Zv rfl (fun q1 E1 hE1 hB1=>Zi rfl<|L.n3<|Za rfl<|Zj rfl Tf.f63_0 rfl<|Zg 0 rfl Tf.a3 rfl hB1 rfl<|Zj rfl Tf.f63_1 rfl<|Zg 1 rfl Tf.a3 rfl hB1 rfl<|Zd rfl (fun D1 hD1=>gY _ _ _ _)<|Zi rfl ?_);refine L.n5 ?_
 exact Zc [_] rfl ⟨rfl,aGL⟩ (fun D hD=>rfl)
theorem V0(r:Int×Int)(n:Int)(D:aA):Fn Tryz.prog 109 #[iP r,.int .i64 n] D (fun _ v=>v=iP (min r.1 n,max r.2 n)):=by
 refine enter 15 Tryz.func109 rfl rfl rfl rfl fun h0=>C.s1<|Zv rfl (fun q1 E1 hE1 hB1=>Zw rfl Tf.z63 rfl (fun q2=>L.n2<|iH [] 4 [0,1,2,5,6,7,8,3,4,9,10] [false,false,true,true,true,true,true,true,true,false,false] [(false,0),(false,1),(true,2),(true,5),(true,6),(true,7),(true,8),(true,3),(true,4),(false,9),(false,10)] Tf.follows (fun _ _ _ h=>cZ (P:=Tryz.prog) (fn:=Tryz.f109) _ _ _ h) Yg rfl<|Zj rfl Tf.f63_0 rfl<|Zg 0 rfl Tf.a3 rfl hB1 rfl<|Za rfl<|Zj rfl Tf.f63_1 rfl<|Zg 1 rfl Tf.a3 rfl hB1 rfl<|Za rfl ?_));refine oV rfl rfl rfl rfl trivial<|Zr rfl U25 Tf.s3 Tf.z3 rfl rfl rfl rfl (.cons rfl rfl (.cons rfl rfl .nil)) (fun b901 D901 hD901 hA901=>?_)
 have hS901:=Sl.ofInts (l:=[_,_]) (n:=2) (cap:=2) hA901 rfl Yd Yd;refine Zd rfl (fun D1 hD1=>sT _ r.1 [n] _ (hS901.up RI.up (hD1 _ Ye)))<|Zq [.int .i64 (min r.1 n),.int .i64 (max r.2 n)] rfl Tf.p63 Tf.z63 rfl rfl<|Zu rfl Tf.s63 (bO.head)<|L.n5 ?_;exact Zc [_] rfl ⟨⟨_,_,_,rfl,(List.Mem.head _),Or.inr ⟨Tf.a63,(by first|exact Tf.s63|(simp only[aLH,aI, *];exact Tf.s63)),rfl⟩⟩,aGL⟩ (fun D hD=>rfl)
theorem O2(sv fv:Value)(xs:List fC)(p:fC→Bool)(D:aA)(hS:Sl D nZ 3 sv xs)(hp:cF Tryz.prog D x7 fv p):
  Fn Tryz.prog 264 #[sv,fv] D (fun _ v=>v=.int .i64 (idxOf p xs)):=by
 have hl:=hS.len;obtain⟨f,c1,c2,rfl,hf⟩:=hp;refine enter 19 Tryz.func264 rfl rfl rfl rfl fun h0=>C.s1<|Zi rfl<|L.n4<|Za rfl<|aW rfl U33 rfl Yk rfl rfl trivial<|Za rfl<|L.n1<|Zai<|cN (γ:=Nat) (fun k=>xs.length-k) (fun k=>k≤xs.length∧(xs.take k).any p=false) (fun k=>[(8,.int .i64 k)]) [(7,_),(4,_),(0,_),(1,_)] (fun k=>[D]) 0 Ye ⟨Yb,aGL⟩ C.rs (aD) ?_
 rintro k ⟨h1,h2⟩;refine C.s1<|Zae rfl<|L.n2<|aF rfl (fun hc1=>?_) (fun hc1=>?_)
 ·have hk:k<xs.length:=by omega
  obtain⟨x,hx⟩:∃x,xs[k]?= some x:=⟨_,aJT hk⟩
  refine C.kn<|aCX<|Zai<|C.s1<|Za rfl<|Zi rfl<|L.n3<|Za rfl<|Za rfl<|Za rfl<|cR rfl U33 Tf.s133 rfl Yk rfl Yd Yk rfl aGL (fun b1 o1 cs1 hr1 hcl1 hA1=>?_);obtain rfl:cs1=[.int .i64 _,.int .i64 _,.int .i64 _]:=hr1;refine Zs rfl Tf.a133 rfl hA1 Tf.s133<|Zd rfl (fun D1 hD1=>hf x _ (hD1 _ Ye))<|L.n1<|aJ rfl (fun hc2=>?_) (fun hc2=>?_)
  ·refine C.s1<|Za rfl<|Zi rfl<|L.n5<|BW<|Zaj<|Zaj<|BW<|Zaj ?_;exact Zc [_] rfl ⟨rfl,aGL⟩ (fun D hD=>by show Value.int _ _=_;rw[gN hx h2 hc2])
  ·refine aAX<|Zak<|Zag<|C.rg<|Zy rfl<|Za rfl<|Zz ?_;have hpx:p x=false:=hc2;have h3:(xs.take (k+1)).any p=false:=by rw[aKL,hx,aMY,h2];simp[hpx]
   exact aH 12 (k+1) ⟨by omega,h3⟩ Yd ⟨Yb,aGL⟩ rfl rfl (aJU _) (aD)
 ·refine aR<|Zah<|Zah<|Zal<|Zag<|C.s1<|Zi rfl<|L.n5 ?_;exact Zc [_] rfl ⟨rfl,aGL⟩ (fun D hD=>by show Value.int _ _=_;rw[eT Yab])
theorem yH(sv fv:Value)(xs:List fC)(p:fC→Bool)(D:aA)(hS:Sl D nZ 3 sv xs)(hp:cF Tryz.prog D x7 fv p):
  Fn Tryz.prog 213 #[sv,fv] D (fun _ v=>v=.bool (xs.any p)):=by
 refine enter 9 Tryz.func213 rfl rfl rfl rfl fun h0=>C.s1<|Zi rfl<|L.n3<|Za rfl<|Za rfl<|Zd rfl (fun D1 hD1=>O2 _ _ xs p _ (Sl.at nZ.up hD1 Yk Ye) (hp.up (hD1 _ Ye)))<|nI rfl rfl rfl rfl trivial<|Zi rfl<|L.n5 ?_
 exact Zc [_] rfl ⟨rfl,aGL⟩ (fun D hD=>by show Value.bool (decide _)=_;rw[gO])
theorem UD(b:Nat)(fv:Value)(p:fC→Bool)(x:fC)(D:aA)(hp:cF Tryz.prog D x7 fv p)(hB:At D b 0 [fv]):
  Fn Tryz.prog 214 #[x7 x,.pointer (some ⟨b,0,none⟩)] D (fun _ v=>v=.bool (!p x)):=by
 obtain⟨f,c1,c2,rfl,hf⟩:=hp;refine enter 8 Tryz.func214 rfl rfl rfl rfl fun h0=>C.s1<|Zv rfl (fun q1 E1 hE1 hB1=>Zi rfl<|L.n3<|Zg 0 rfl Tf.a250 rfl hB rfl<|Zs rfl Tf.a133 rfl hB1 Tf.s133<|Zd rfl (fun D1 hD1=>hf x _ (hD1 _ Ye))<|Zaf rfl<|Zi rfl<|L.n5 ?_)
 exact Zc [_] rfl ⟨rfl,aGL⟩ (fun D hD=>rfl)
theorem VS(sv fv:Value)(xs:List fC)(p:fC→Bool)(D:aA)(hS:Sl D nZ 3 sv xs)(hp:cF Tryz.prog D x7 fv p)(h1:fv.cells=#[fv]):
  Fn Tryz.prog 133 #[sv,fv] D (fun _ v=>v=.bool (xs.all p)):=by
 refine enter 9 Tryz.func133 rfl rfl rfl rfl fun h0=>C.s1<|mJ (vs:=[fv]) rfl rfl h1 rfl aGL (fun b D1 hD1 hB=>Zi rfl<|L.n3<|Za rfl<|bE rfl rfl rfl rfl trivial<|Zd rfl (fun D1 hD1=>yH _ _ xs (fun x=> !p x) _ (Sl.at nZ.up hD1 Yk Ye) ⟨_,[],[.pointer (some ⟨b,0,none⟩)],rfl,fun x D2 hl=>UD b fv p x D2 (hp.up ((hD1 _ Ye).trans hl)) (hB.up ((hD1 _ Ye).trans hl))⟩)<|Zaf rfl<|Zi rfl<|L.n5 ?_)
 exact Zc [_] rfl ⟨rfl,aGL⟩ (fun D hD=>by show Value.bool (!_)=_;rw[jX])
theorem P0(sv fv:Value)(xs:List Cn)(p:Cn→Bool)(D:aA)(hS:Sl D pC 3 sv xs)(hp:cF Tryz.prog D aBF fv p):
  Fn Tryz.prog 265 #[sv,fv] D (fun _ v=>v=.int .i64 (idxOf p xs)):=by
 have hl:=hS.len;obtain⟨f,c1,c2,rfl,hf⟩:=hp;refine enter 19 Tryz.func265 rfl rfl rfl rfl fun h0=>C.s1<|Zi rfl<|L.n4<|Za rfl<|aW rfl U34 rfl Yk rfl rfl trivial<|Za rfl<|L.n1<|Zai<|cN (γ:=Nat) (fun k=>xs.length-k) (fun k=>k≤xs.length∧(xs.take k).any p=false) (fun k=>[(8,.int .i64 k)]) [(7,_),(4,_),(0,_),(1,_)] (fun k=>[D]) 0 Ye ⟨Yb,aGL⟩ C.rs (aD) ?_
 rintro k ⟨h1,h2⟩;refine C.s1<|Zae rfl<|L.n2<|aF rfl (fun hc1=>?_) (fun hc1=>?_)
 ·have hk:k<xs.length:=by omega
  obtain⟨x,hx⟩:∃x,xs[k]?= some x:=⟨_,aJT hk⟩
  refine C.kn<|aCX<|Zai<|C.s1<|Za rfl<|Zi rfl<|L.n3<|Za rfl<|Za rfl<|Za rfl<|cR rfl U34 Tf.s135 rfl Yk rfl Yd Yk rfl aGL (fun b1 o1 cs1 hr1 hcl1 hA1=>?_);obtain rfl:cs1=[.int .i64 _,.int .i64 _,.int .i64 _]:=hr1;refine Zs rfl Tf.a135 rfl hA1 Tf.s135<|Zd rfl (fun D1 hD1=>hf x _ (hD1 _ Ye))<|L.n1<|aJ rfl (fun hc2=>?_) (fun hc2=>?_)
  ·refine C.s1<|Za rfl<|Zi rfl<|L.n5<|BW<|Zaj<|Zaj<|BW<|Zaj ?_;exact Zc [_] rfl ⟨rfl,aGL⟩ (fun D hD=>by show Value.int _ _=_;rw[gN hx h2 hc2])
  ·refine aAX<|Zak<|Zag<|C.rg<|Zy rfl<|Za rfl<|Zz ?_;have hpx:p x=false:=hc2;have h3:(xs.take (k+1)).any p=false:=by rw[aKL,hx,aMY,h2];simp[hpx]
   exact aH 12 (k+1) ⟨by omega,h3⟩ Yd ⟨Yb,aGL⟩ rfl rfl (aJU _) (aD)
 ·refine aR<|Zah<|Zah<|Zal<|Zag<|C.s1<|Zi rfl<|L.n5 ?_;exact Zc [_] rfl ⟨rfl,aGL⟩ (fun D hD=>by show Value.int _ _=_;rw[eT Yab])
theorem yE(sv fv:Value)(xs:List Cn)(p:Cn→Bool)(D:aA)(hS:Sl D pC 3 sv xs)(hp:cF Tryz.prog D aBF fv p):
  Fn Tryz.prog 215 #[sv,fv] D (fun _ v=>v=.bool (xs.any p)):=by
 refine enter 9 Tryz.func215 rfl rfl rfl rfl fun h0=>C.s1<|Zi rfl<|L.n3<|Za rfl<|Za rfl<|Zd rfl (fun D1 hD1=>P0 _ _ xs p _ (Sl.at pC.up hD1 Yk Ye) (hp.up (hD1 _ Ye)))<|nI rfl rfl rfl rfl trivial<|Zi rfl<|L.n5 ?_
 exact Zc [_] rfl ⟨rfl,aGL⟩ (fun D hD=>by show Value.bool (decide _)=_;rw[gO])
theorem RQ(b:Nat)(fv:Value)(p:Cn→Bool)(x:Cn)(D:aA)(hp:cF Tryz.prog D aBF fv p)(hB:At D b 0 [fv]):
  Fn Tryz.prog 216 #[aBF x,.pointer (some ⟨b,0,none⟩)] D (fun _ v=>v=.bool (!p x)):=by
 obtain⟨f,c1,c2,rfl,hf⟩:=hp;refine enter 8 Tryz.func216 rfl rfl rfl rfl fun h0=>C.s1<|Zv rfl (fun q1 E1 hE1 hB1=>Zi rfl<|L.n3<|Zg 0 rfl Tf.a251 rfl hB rfl<|Zs rfl Tf.a135 rfl hB1 Tf.s135<|Zd rfl (fun D1 hD1=>hf x _ (hD1 _ Ye))<|Zaf rfl<|Zi rfl<|L.n5 ?_)
 exact Zc [_] rfl ⟨rfl,aGL⟩ (fun D hD=>rfl)
theorem HP(sv fv:Value)(xs:List Cn)(p:Cn→Bool)(D:aA)(hS:Sl D pC 3 sv xs)(hp:cF Tryz.prog D aBF fv p)(h1:fv.cells=#[fv]):
  Fn Tryz.prog 134 #[sv,fv] D (fun _ v=>v=.bool (xs.all p)):=by
 refine enter 9 Tryz.func134 rfl rfl rfl rfl fun h0=>C.s1<|mJ (vs:=[fv]) rfl rfl h1 rfl aGL (fun b D1 hD1 hB=>Zi rfl<|L.n3<|Za rfl<|bE rfl rfl rfl rfl trivial<|Zd rfl (fun D1 hD1=>yE _ _ xs (fun x=> !p x) _ (Sl.at pC.up hD1 Yk Ye) ⟨_,[],[.pointer (some ⟨b,0,none⟩)],rfl,fun x D2 hl=>RQ b fv p x D2 (hp.up ((hD1 _ Ye).trans hl)) (hB.up ((hD1 _ Ye).trans hl))⟩)<|Zaf rfl<|Zi rfl<|L.n5 ?_)
 exact Zc [_] rfl ⟨rfl,aGL⟩ (fun D hD=>by show Value.bool (!_)=_;rw[jX])
theorem TY(bv:Value)(b:aZ)(l:fC)(D:aA)(hb:fO D bv b)(hn:0≤b.chairs∧b.chairs≤100):Fn Tryz.prog 131 #[bv,x7 l] D (fun _ v=>v=.bool (qT b.chairs l)):=by
 obtain⟨lv,cv,rfl,hl,hc⟩:=hb;refine enter 24 Tryz.func131 rfl rfl rfl rfl fun h0=>C.s1<|Zv rfl (fun q1 E1 hE1 hB1=>Zv rfl (fun q2 E2 hE2 hB2=>Zi rfl<|L.n3<|Zj rfl Tf.f133_0 rfl<|Zg 0 rfl Tf.a3 rfl hB2 rfl<|Zd rfl (fun D1 hD1=>gY _ _ _ _)<|Za rfl ?_))
 refine' cQ [(false,4),(false,5),(false,6),(false,7),(false,8),(false,9),(false,10)] [(false,11),(false,12),(false,13),(false,14),(false,15),(false,16),(false,17),(false,18),(false,19)] (s:=8) (p:=15) rfl rfl (fun hg1=>?_) (fun hg1=>?_) ?_;rotate_left
 ·refine Zk rfl Tf.f133_1 rfl<|Zh 1 rfl Tf.a3 rfl hB2 rfl<|Zk rfl Tf.f36_0 rfl<|Zh 0 rfl Tf.a3 rfl hB1 rfl<|fW rfl rfl rfl Yf rfl ⟨_,rfl,rfl⟩<|Ze rfl (fun D2 hD2=>gY _ _ _ _)<|Zac rfl ?_;exact L.cu 6
 ·refine Zl rfl<|Zl rfl<|Zl rfl<|Zl rfl<|Zl rfl<|Zl rfl<|Zad rfl ?_;exact L.cu 6
 refine Za rfl ?_;refine' cQ [(false,12),(false,13),(false,14),(false,15),(false,16),(false,17),(false,18)] [(false,19)] (s:=16) (p:=23) rfl rfl (fun hg2=>?_) (fun hg2=>?_) ?_;rotate_left
 ·refine Zk rfl Tf.f133_2 rfl<|Zh 2 rfl Tf.a3 rfl hB2 rfl<|Zk rfl Tf.f36_0 rfl<|Zh 0 rfl Tf.a3 rfl hB1 rfl<|fW rfl rfl rfl Yf rfl ⟨_,rfl,rfl⟩<|Ze rfl (fun D3 hD3=>gY _ _ _ _)<|Zac rfl ?_;exact L.cu 6
 ·refine Zl rfl<|Zl rfl<|Zl rfl<|Zl rfl<|Zl rfl<|Zl rfl<|Zad rfl ?_;exact L.cu 6
 refine Zi rfl<|L.n5 ?_;exact Zc [_] rfl ⟨rfl,aGL⟩ (fun D hD=>rfl)
theorem IP(bv:Value)(b:aZ)(c:Cn)(D:aA)(hb:fO D bv b):Fn Tryz.prog 132 #[bv,aBF c] D (fun _ v=>v=.bool (lX b.lines.length c)):=by
 obtain⟨lv,cv,rfl,hl,hc⟩:=hb;refine enter 31 Tryz.func132 rfl rfl rfl rfl fun h0=>C.s1<|Zv rfl (fun q1 E1 hE1 hB1=>Zv rfl (fun q2 E2 hE2 hB2=>Zi rfl<|L.n3<|Zj rfl Tf.f135_1 rfl<|dO rfl (k:=1) Tf.a63 Tf.s63 rfl hB2 Yc rfl rfl aJN rfl trivial<|Zw rfl Tf.z63 rfl (fun q3=>Zu rfl Tf.s63 (bO.head)<|L.n3<|Zj rfl Tf.f135_0 rfl ?_)));refine Zg 0 rfl Tf.a3 rfl hB2 rfl<|Zj rfl Tf.f36_3 rfl<|Zg 3 rfl Tf.a33 rfl hB1 rfl<|aW rfl U33 rfl hl rfl rfl trivial<|Zd rfl (fun D1 hD1=>gY _ _ _ _)<|Za rfl ?_
 refine' cQ [(false,7),(false,8),(false,9),(false,10)] [(false,11),(false,12),(false,13),(false,14),(false,15),(false,16),(false,17),(false,18),(false,19),(false,20),(false,21),(false,22),(false,23)] (s:=14) (p:=18) rfl rfl (fun hg1=>?_) (fun hg1=>?_) ?_;rotate_left
 ·refine Zk rfl Tf.f63_0 rfl<|aS rfl Tf.a3 rfl (List.Mem.head _) rfl aJN rfl ⟨_,rfl,rfl⟩<|iM rfl rfl rfl rfl ⟨_,rfl,rfl⟩<|Zac rfl ?_;exact L.cu 3
 ·refine Zl rfl<|Zl rfl<|Zl rfl<|Zad rfl ?_;exact L.cu 3
 refine Za rfl ?_;refine' cQ [(false,12),(false,13),(false,14),(false,15),(false,16),(false,17)] [(false,18),(false,19),(false,20),(false,21),(false,22),(false,23)] (s:=19) (p:=25) rfl rfl (fun hg2=>?_) (fun hg2=>?_) ?_;rotate_left
 ·refine Zk rfl Tf.f63_0 rfl<|aS rfl Tf.a3 rfl (List.Mem.head _) rfl aJN rfl ⟨_,rfl,rfl⟩<|Zk rfl Tf.f63_1 rfl<|aS rfl Tf.a3 rfl (List.Mem.head _) rfl aJN rfl ⟨_,rfl,rfl⟩<|iM rfl rfl rfl rfl ⟨_,rfl,rfl⟩<|Zac rfl ?_;exact L.cu 5
 ·refine Zl rfl<|Zl rfl<|Zl rfl<|Zl rfl<|Zl rfl<|Zad rfl ?_;exact L.cu 5
 refine Za rfl ?_;refine' cQ [(false,19),(false,20),(false,21),(false,22)] [(false,23)] (s:=26) (p:=30) rfl rfl (fun hg3=>?_) (fun hg3=>?_) ?_;rotate_left
 ·refine Zk rfl Tf.f63_1 rfl<|aS rfl Tf.a3 rfl (List.Mem.head _) rfl aJN rfl ⟨_,rfl,rfl⟩<|iM rfl rfl rfl rfl ⟨_,rfl,rfl⟩<|Zac rfl ?_;exact L.cu 3
 ·refine Zl rfl<|Zl rfl<|Zl rfl<|Zad rfl ?_;exact L.cu 3
 refine Zi rfl<|L.n5 ?_;exact Zc [_] rfl ⟨rfl,aGL⟩ (fun D hD=>rfl)
theorem W5(s n lo hi:Int)(D:aA)(h1: -10≤lo∧lo≤10)(h2: -10≤hi∧hi≤100):Fn Tryz.prog 217 #[.int .i64 s,.int .i64 n,.int .i64 lo,.int .i64 hi] D (fun D' v=>Sl D' RI 1 v (dV s n lo hi)):=by
 refine enter 26 Tryz.func217 rfl rfl rfl rfl fun h0=>C.s1<|Zi rfl<|L.n4<|Za rfl<|Za rfl<|eQ rfl rfl rfl rfl trivial<|L.n1<|aF rfl (fun hc1=>?_) (fun hc1=>?_)
 ·refine C.s1<|Za rfl<|Zr rfl U25 Tf.s3 Tf.z3 rfl rfl rfl rfl (.cons rfl rfl .nil) (fun b901 D901 hD901 hA901=>?_);have hS901:=Sl.ofInts (l:=[_]) (n:=1) (cap:=1) hA901 rfl Yd Yd;refine Zi rfl<|L.n5<|Zaj ?_;exact Zc [_] rfl ⟨rfl,aGL⟩ (fun D hD=>by rw[QI hc1];exact hS901.up RI.up (hD _ Ye))
 ·refine C.kn<|C.s2<|Za rfl<|Zi rfl<|L.n1<|Zai<|cE (γ:=Nat×Value×aC) (fun g=>(hi+1-lo).toNat-g.1) (fun g=>g.1≤(hi+1-lo).toNat∧bR 3 1 g.2.1 g.1 (ints (EP lo g.1)) g.2.2) (fun g=>[(8,g.2.1),(9,.int .i64 (lo+(g.1:Int)))]) [(3,_)] (fun g=>g.2.2++[]) (fun g=>[D]) (0,.slice none 0 0,[]) ⟨by simp,by simpa [ints,EP]using bR.nil⟩ ⟨Yb,Yb,aGL⟩ ⟨rfl,aGL⟩ (aJU _) (aD) ?_;rintro⟨k,v,ν⟩ ⟨h11,ha⟩;simp only at h11 ha;refine C.s2<|Za rfl<|Za rfl<|iM rfl rfl rfl rfl trivial<|L.n1<|aF rfl (fun hc2=>?_) (fun hc2=>?_)
  ·simp only at hc2;refine C.kn<|aCX<|Zai<|C.rg<|Za rfl<|Za rfl<|Zr rfl U25 Tf.s3 Tf.z3 rfl rfl rfl rfl (.cons rfl rfl .nil) (fun b902 D902 hD902 hA902=>?_);have hS902:=Sl.ofInts (l:=[_]) (n:=1) (cap:=1) hA902 rfl Yd Yd;refine aX (A:=[]) (B:=_) rfl U25 rfl rfl Tf.s3 Tf.z3 rfl Tf.i3 rfl rfl rfl ha (jN.lit hA902) Ye rfl (by simp[EP]) Yi Yd (aKP rfl) rfl aGL (fun v1 ν1 ha1=>?_);have ha2:bR 3 1 v1 (k+1) (ints (EP lo (k+1))) ν1:=by unfold EP;rw[aMB,aKN,aOE,←eL];exact ha1
   refine Zi rfl<|Zz<|Zak<|Zag<|C.rg<|Za rfl<|Zy rfl<|Zi rfl<|Zz ?_;exact aH 13 (k+1,v1,ν1) ⟨by simp only;omega,ha2⟩ Ym ⟨rfl,(by show some (Value.int _ _)=some (Value.int _ _);congr 2;push_cast;omega),aGL⟩ rfl rfl (aJU _) (fun D h=>⟨D,aJS _ (h),Le.refl D⟩)
  ·have hk:k=(hi+1-lo).toNat:=by simp only at hc2;omega
   rw[hk]at ha;refine aR<|Zah<|Zah<|Zal<|Zag<|C.s1<|Za rfl<|Zi rfl<|L.n5<|eO (A:=[]) (B:=[]) ha rfl (fun D2 hD2 hF=>?_);exact Zc [_] rfl ⟨rfl,aGL⟩ (fun D hD=>by rw[SB hc1];exact(hF.ints (by simp[EP]) Yd).up RI.up (hD _ Ye))
end L3
end Go.Fs
namespace Go.Fs
open Go.Proofs
namespace L3
open L1
open C3
def aCF(n:Int)(l:fC)(x c:Int):List fC:=(dV l.token (-1) 0 (n-1)).map fun t=>⟨x,c,t⟩
def aDJ(n:Int)(l:fC)(x:Int):List fC:=(dV l.chair (-1) 0 (n-1)).flatMap (aCF n l x)
def UQ(n:Int)(l:fC)(k:Nat):List fC:=((dV l.kind 0 1 2).take k).flatMap (aDJ n l)
def OP(n:Int)(l:fC)(k:Nat)(x:Int)(j:Nat):List fC:=UQ n l k++((dV l.chair (-1) 0 (n-1)).take j).flatMap (aCF n l x)
def KK(n:Int)(l:fC)(k:Nat)(x:Int)(j:Nat)(c:Int)(i:Nat):List fC:=OP n l k x j++((dV l.token (-1) 0 (n-1)).take i).map fun t=>⟨x,c,t⟩
theorem GR{n:Int}{l:fC}:UQ n l (dV l.kind 0 1 2).length=bN n l:=by unfold UQ;rw[aLL];rfl
theorem OZ{n:Int}{l:fC}{k:Nat}{x:Int}:OP n l k x 0=UQ n l k:=by unfold OP;simp
theorem QA{n:Int}{l:fC}{k:Nat}{x:Int}{j:Nat}{c:Int}:KK n l k x j c 0=OP n l k x j:=by unfold KK;simp
theorem XD{n:Int}{l:fC}{k:Nat}{x:Int}(h:(dV l.kind 0 1 2)[k]?= some x):OP n l k x (dV l.chair (-1) 0 (n-1)).length=UQ n l (k+1):=by
 unfold OP UQ;rw[aLL,aKL,h,aLZ,aLE,aLR];rfl
theorem UT{n:Int}{l:fC}{k:Nat}{x:Int}{j:Nat}{c:Int}(h:(dV l.chair (-1) 0 (n-1))[j]?= some c):KK n l k x j c (dV l.token (-1) 0 (n-1)).length=OP n l k x (j+1):=by
 unfold KK OP;rw[aLL,aKL,h,aLZ,aLE,aLR,aKK];rfl
theorem SC{n:Int}{l:fC}{k:Nat}{x:Int}{j:Nat}{c:Int}{i:Nat}{t:Int}(h:(dV l.token (-1) 0 (n-1))[i]?= some t):KK n l k x j c (i+1)=KK n l k x j c i++[⟨x,c,t⟩]:=by
 unfold KK;rw[aKL,h,aLZ,aKN,←aKK];rfl
theorem pX{s none lo hi:Int}{m:Nat}(h:hi+1-lo≤m)(h1:1≤m):(dV s none lo hi).length≤m:=by
 unfold dV;split
 ·simpa using h1
 ·simp;omega
theorem iW{α β:Type}{f:α→List β}{m:Nat}:∀(l:List α),(∀x∈l,(f x).length≤m)→(l.flatMap f).length≤l.length*m
 | [],_=>by simp
 |x::l,h=>by
  rw[aLO,aJZ,aKD,aMQ];have:=iW l fun y hy=>h y (aKA _ hy)
  have:=h x aKI;omega
theorem GK{n:Int}{l:fC}(hn:n≤4)(x c:Int):(aCF n l x c).length≤4:=by unfold aCF;rw[aMI];exact pX Yd Yd
theorem XA{n:Int}{l:fC}(hn:n≤4)(x:Int):(aDJ n l x).length≤16:=by
 unfold aDJ;have h1:=iW (m:=4) (f:=aCF n l x) (dV l.chair (-1) 0 (n-1)) fun c _=>GK hn x c
 have h2:=pX (s:=l.chair) (none:= -1) (lo:=0) (hi:=n-1) (m:=4) Yd Yd;omega
theorem HB{n:Int}{l:fC}(hn:n≤4)(k:Nat):(UQ n l k).length≤32:=by
 unfold UQ;have h1:=iW (m:=16) (f:=aDJ n l) ((dV l.kind 0 1 2).take k) fun x _=>XA hn x
 have h2:=pX (s:=l.kind) (none:=0) (lo:=1) (hi:=2) (m:=2) Yd Yd;have h3:((dV l.kind 0 1 2).take k).length≤(dV l.kind 0 1 2).length:=by rw[aMJ];omega
 omega
theorem DK{n:Int}{l:fC}(hn:n≤4):(bN n l).length≤32:=by rw[←GR];exact HB hn _
theorem XN{n:Int}{l:fC}{k:Nat}{x:Int}{j:Nat}{c:Int}{i:Nat}(hn:n≤4):(KK n l k x j c i).length≤60:=by
 unfold KK OP;rw[aJZ,aJZ,aMI];have h0:=HB (l:=l) hn k;have h1:=iW (m:=4) (f:=aCF n l x) ((dV l.chair (-1) 0 (n-1)).take j) fun c _=>GK hn x c
 have h2:=pX (s:=l.chair) (none:= -1) (lo:=0) (hi:=n-1) (m:=4) Yd Yd;have h3:=pX (s:=l.token) (none:= -1) (lo:=0) (hi:=n-1) (m:=4) Yd Yd;have h4:((dV l.chair (-1) 0 (n-1)).take j).length≤4:=by rw[aMJ];omega
 have h5:((dV l.token (-1) 0 (n-1)).take i).length≤4:=by rw[aMJ];omega
 omega
def vZ(l:List fC):List Value:=l.flatMap fun x=>[.int .i64 x.kind,.int .i64 x.chair,.int .i64 x.token]
theorem AQ(l:List fC):(vZ l).length=l.length*3:=by
 induction l with
 |nil=>rfl
 |cons c l ih=>unfold vZ at ih ⊢;rw[aLO,aJZ,ih];simp only[aKD,aLY];omega
theorem SW{l:List fC}{i:Nat}{c:fC}(hi:l[i]?= some c):((vZ l).drop (i*3)).take 3=[.int .i64 c.kind,.int .i64 c.chair,.int .i64 c.token]:=by
  induction l generalizing i with
  |nil=>simp at hi
  |cons d l ih=>
    unfold vZ at ih ⊢
    rw[aLO];cases i with
    | zero => obtain rfl : d = c := by simpa using hi
              rfl
    |succ i=>
      rw[aOF,aLJ Yad,aLG];have:(i+1)*3- [Value.int .i64 d.kind,Value.int .i64 d.chair,Value.int .i64 d.token].length=i*3:=by simp;omega
      rw[this];exact ih Yal
theorem _root_.Go.Fs.jJ.lins{D:aA}{v:Value}{n:Nat}{l:List fC}(hF:jJ D v n (vZ l))(hn:l.length=n)(hb:n≤9223372036854775807):Sl D nZ 3 v l:=
 hF.sl hn hb fun _i _t hi=>⟨_,rfl,rfl,SW hi⟩
theorem lU(bv:Value)(b:aZ)(l:fC)(D:aA)(hb:fO D bv b)(hn:1≤b.chairs∧b.chairs≤4):Fn Tryz.prog 136 #[bv,x7 l] D (fun D' v=>Sl D' nZ 3 v (bN b.chairs l)):=by
 obtain⟨lv,cv,rfl,hl,hc⟩:=hb;refine enter 52 Tryz.func136 rfl rfl rfl rfl fun h0=>C.s1<|Zv rfl (fun q1 E1 hE1 hB1=>Zv rfl (fun q2 E2 hE2 hB2=>Zi rfl<|L.n4<|Zj rfl Tf.f133_0 rfl<|Zg 0 rfl Tf.a3 rfl hB2 rfl<|bU rfl rfl rfl (fun D1 hD1=>W5 _ _ _ _ _ Yd Yd) rfl aGL (fun v1 D1 hD1 hp1=>?_)))
 have hw1:=hp1;refine aW rfl U25 rfl hw1 rfl rfl trivial<|Za rfl<|L.n1<|Zai<|cE (γ:=Nat×Value×aC) (fun g=>(dV l.kind 0 1 2).length-g.1) (fun g=>g.1≤(dV l.kind 0 1 2).length∧bR 133 3 g.2.1 (UQ b.chairs l g.1).length (vZ (UQ b.chairs l g.1)) g.2.2) (fun g=>[(4,g.2.1),(15,.int .i64 (g.1:Int))]) [(14,_),(13,_),(3,_),(2,_)] (fun g=>g.2.2++[]) (fun g=>[D1,E2,E1,D]) (0,.slice none 0 0,[]) ⟨by simp,bR.nil⟩ ⟨Yb,Yb,aGL⟩ C.rs (aJU _) (aD) ?_;rintro⟨k,v,ν⟩ ⟨h1,ha1⟩;simp only at h1 ha1;refine C.s1<|Zae rfl<|L.n2<|aF rfl (fun hc1=>?_) (fun hc1=>?_)
 ·simp only at hc1;have hlw1:=hw1.len;obtain⟨x,hx1⟩:∃x,(dV l.kind 0 1 2)[k]?= some x:=⟨_,aJT Yd⟩
  refine C.kn<|aCX<|Zai<|C.s1<|Zt rfl U25 Tf.s3 rfl hw1 rfl hx1 (fun b1 o1 cs1 hr1 hcl1 hA1=>?_);obtain rfl:cs1=[.int .i64 _]:=hr1;refine Zg 0 rfl Tf.a3 rfl hA1 rfl<|Zi rfl<|L.n3<|Zj rfl Tf.f133_1 rfl<|Zg 1 rfl Tf.a3 rfl hB2 rfl<|Zj rfl Tf.f36_0 rfl<|Zg 0 rfl Tf.a3 rfl hB1 rfl<|fW rfl rfl rfl Yf rfl trivial<|bU rfl rfl rfl (fun D2 hD2=>W5 _ _ _ _ _ Yd Yd) rfl aGL (fun v2 D2 hD2 hp2=>?_);have hw2:=hp2;refine aW rfl U25 rfl hw2 rfl rfl trivial<|Za rfl<|L.n1<|Zai<|cE (γ:=Nat×Value×aC) (fun g=>(dV l.chair (-1) 0 (b.chairs-1)).length-g.1) (fun g=>g.1≤(dV l.chair (-1) 0 (b.chairs-1)).length∧bR 133 3 g.2.1 (OP b.chairs l k x g.1).length (vZ (OP b.chairs l k x g.1)) g.2.2) (fun g=>[(4,g.2.1),(26,.int .i64 (g.1:Int))]) [(25,_),(24,_),(23,_),(22,_),(21,_),(20,_),(19,_),(6,_),(18,_),(17,_),(16,_),(15,_),(14,_),(13,_),(3,_),(2,_)] (fun g=>g.2.2++[]) (fun g=>[D2,D1,E2,E1,D]) (0,v,ν) ⟨by simp,by rw[OZ];exact ha1⟩ ⟨Yb,Yb,aGL⟩ C.rs (aJU _) (aD) ?_
  rintro⟨j,w,ν2⟩ ⟨h2,haJ⟩;simp only at h2 haJ;refine C.s1<|Zae rfl<|L.n2<|aF rfl (fun hc2=>?_) (fun hc2=>?_)
  ·simp only at hc2;have hlw2:=hw2.len;obtain⟨c,hx2⟩:∃x,(dV l.chair (-1) 0 (b.chairs-1))[j]?= some x:=⟨_,aJT Yd⟩
   refine C.kn<|aCX<|Zai<|C.s1<|Zt rfl U25 Tf.s3 rfl hw2 rfl hx2 (fun b2 o2 cs2 hr2 hcl2 hA2=>?_);obtain rfl:cs2=[.int .i64 _]:=hr2;refine Zg 0 rfl Tf.a3 rfl hA2 rfl<|Zi rfl<|L.n3<|Zj rfl Tf.f133_2 rfl<|Zg 2 rfl Tf.a3 rfl hB2 rfl<|Zj rfl Tf.f36_0 rfl<|Zg 0 rfl Tf.a3 rfl hB1 rfl<|fW rfl rfl rfl Yf rfl trivial<|bU rfl rfl rfl (fun D3 hD3=>W5 _ _ _ _ _ Yd Yd) rfl aGL (fun v3 D3 hD3 hp3=>?_);have hw3:=hp3;refine aW rfl U25 rfl hw3 rfl rfl trivial<|Za rfl<|L.n1<|Zai<|cE (γ:=Nat×Value×aC) (fun g=>(dV l.token (-1) 0 (b.chairs-1)).length-g.1) (fun g=>g.1≤(dV l.token (-1) 0 (b.chairs-1)).length∧bR 133 3 g.2.1 (KK b.chairs l k x j c g.1).length (vZ (KK b.chairs l k x j c g.1)) g.2.2) (fun g=>[(4,g.2.1),(37,.int .i64 (g.1:Int))]) [(36,_),(35,_),(34,_),(33,_),(32,_),(31,_),(30,_),(8,_),(29,_),(28,_),(27,_),(26,_),(25,_),(24,_),(23,_),(22,_),(21,_),(20,_),(19,_),(6,_),(18,_),(17,_),(16,_),(15,_),(14,_),(13,_),(3,_),(2,_)] (fun g=>g.2.2++[]) (fun g=>[D3,D2,D1,E2,E1,D]) (0,w,ν2) ⟨by simp,by rw[QA];exact haJ⟩ ⟨Yb,Yb,aGL⟩ C.rs (aJU _) (aD) ?_
   rintro⟨i,u,ν3⟩ ⟨h3,haI⟩;simp only at h3 haI;refine C.s1<|Zae rfl<|L.n2<|aF rfl (fun hc3=>?_) (fun hc3=>?_)
   ·simp only at hc3;have hlw3:=hw3.len;obtain⟨t,hx3⟩:∃x,(dV l.token (-1) 0 (b.chairs-1))[i]?= some x:=⟨_,aJT Yd⟩
    refine C.kn<|aCX<|Zai<|C.s1<|Zt rfl U25 Tf.s3 rfl hw3 rfl hx3 (fun b3 o3 cs3 hr3 hcl3 hA3=>?_);obtain rfl:cs3=[.int .i64 _]:=hr3;refine Zg 0 rfl Tf.a3 rfl hA3 rfl<|Zi rfl<|L.n1<|C.rg<|Za rfl<|Za rfl<|Za rfl<|Za rfl<|Zq [.int .i64 x,.int .i64 c,.int .i64 t] rfl Tf.p133 Tf.z133 rfl rfl<|Zr rfl U33 Tf.s133 Tf.z133 rfl rfl rfl rfl (.cons rfl rfl .nil) (fun b901 D901 hD901 hA901=>?_);have hli:=XN (n:=b.chairs) (l:=l) (k:=k) (x:=x) (j:=j) (c:=c) (i:=i) Yd;refine aX (A:=[]) (B:=[]) rfl U33 rfl rfl Tf.s133 Tf.z133 rfl Tf.i133 rfl rfl rfl haI (jN.lit hA901) Ye rfl (AQ _) Yi Yd (aKP rfl) rfl aGL (fun v7 ν7 ha7=>?_);have hn7:bR 133 3 v7 (KK b.chairs l k x j c (i+1)).length (vZ (KK b.chairs l k x j c (i+1))) ν7:=by rw[SC hx3];simpa [vZ]using ha7
    refine Zi rfl<|Zz<|Zak<|Zag<|C.rg<|Zy rfl<|Za rfl<|Zz ?_;exact aH 16 (i+1,v7,ν7) ⟨by simp only;omega,hn7⟩ Ym ⟨Yb,Yb,aGL⟩ rfl rfl (aJU _) (fun D h=>⟨D,aJS _ (h),Le.refl D⟩)
   ·have hi:i=(dV l.token (-1) 0 (b.chairs-1)).length:=by simp only at hc3;omega
    rw[hi,UT hx2]at haI;refine aR<|Zah<|Zah<|Zal<|Zak<|Zag<|C.rg<|Zy rfl<|Za rfl<|Zz ?_;exact aH 17 (j+1,u,ν3) ⟨by simp only;omega,haI⟩ Ym ⟨Yb,Yb,aGL⟩ rfl rfl (aJU _) (fun D h=>⟨D,aJS _ (h),Le.refl D⟩)
  ·have hj:j=(dV l.chair (-1) 0 (b.chairs-1)).length:=by simp only at hc2;omega
   rw[hj,XD hx1]at haJ;refine aR<|Zah<|Zah<|Zal<|Zak<|Zag<|C.rg<|Zy rfl<|Za rfl<|Zz ?_;exact aH 17 (k+1,w,ν2) ⟨by simp only;omega,haJ⟩ Ym ⟨Yb,Yb,aGL⟩ rfl rfl (aJU _) (fun D h=>⟨D,aJS _ (h),Le.refl D⟩)
 ·have hk:k=(dV l.kind 0 1 2).length:=by simp only at hc1;omega
  rw[hk,GR]at ha1;refine aR<|Zah<|Zah<|Zal<|Zag<|C.s1<|Za rfl<|Zi rfl<|L.n5<|eO (A:=[]) (B:=[]) ha1 rfl (fun D2 hD2 hF=>?_);exact Zc [_] rfl ⟨rfl,aGL⟩ (fun D hD=>(hF.lins rfl (by have:=DK (l:=l) hn.2;omega)).up nZ.up (hD _ Ye))
end L3
end Go.Fs
namespace Go.Fs
open Go.Proofs
namespace L3
open L1
open C3
theorem aCI{b:aZ}(h:((!C1.fL b.chairs 1 4|| !C1.fL b.coin 1 99)|| !C1.fL b.box 0 999)=false):1≤b.chairs∧b.chairs≤4:=by
 simp only[aMM,Bool.not_eq_false',C1.cG]at h;exact h.1.1
theorem aCV{b:aZ}(h:((((!C1.fL b.chairs 1 4|| !C1.fL b.coin 1 99)|| !C1.fL b.box 0 999)|| !b.lines.all (qT b.chairs))|| !b.counts.all (lX b.lines.length))=false):oP b=true∧1≤b.chairs∧b.chairs≤4:=by
 simp only[aMM,Bool.not_eq_false']at h;obtain⟨⟨⟨⟨h1,h2⟩,h3⟩,h4⟩,h5⟩:=h;exact⟨by unfold oP;rw[h1,h2,h3,h4,h5];rfl,(C1.cG.1 h1)⟩
theorem EK{b:aZ}(h:(decide ((8:Int)<b.lines.length)||decide ((4:Int)<b.counts.length))=false):¬(8<b.lines.length∨4<b.counts.length):=by
 simp only[aMM,aLW]at h;omega
theorem NF{b:aZ}(h:(decide ((8:Int)<b.lines.length)||decide ((4:Int)<b.counts.length))=true):aT b=3:=by
 simp only[aLP,aKU]at h;unfold aT;rw[aKS Yd]
theorem aBQ{b:aZ}(h:(decide ((8:Int)<b.lines.length)||decide ((4:Int)<b.counts.length))=false)(h2:((((!C1.fL b.chairs 1 4|| !C1.fL b.coin 1 99)|| !C1.fL b.box 0 999)|| !b.lines.all (qT b.chairs))|| !b.counts.all (lX b.lines.length))=true):aT b=1:=by
 unfold aT;rw[aKO (EK h),aKS]
 revert h2;unfold oP
 generalize C1.fL b.chairs 1 4=x,C1.fL b.coin 1 99=y,C1.fL b.box 0 999=z,b.lines.all (qT b.chairs)=u,b.counts.all (lX b.lines.length)=w;cases x<;>cases y<;>cases z<;>cases u<;>cases w<;>decide
theorem XY{b:aZ}(h:(decide ((8:Int)<b.lines.length)||decide ((4:Int)<b.counts.length))=false)(h2:oP b=true)(h3:uH b.chairs b.lines>4096):aT b=3:=by
 unfold aT;rw[aKO (EK h),aKO (by rw[h2];simp),aKS h3]
theorem VW{b:aZ}(h:(decide ((8:Int)<b.lines.length)||decide ((4:Int)<b.counts.length))=false)(h2:oP b=true)(h3:¬uH b.chairs b.lines>4096):aT b=0:=by
 unfold aT;rw[aKO (EK h),aKO (by rw[h2];simp),aKO h3]
theorem DU{n:Int}{ls:List fC}{i:Nat}{x:fC}(hx:ls[i]?= some x):uH n (ls.take (i+1))=min (uH n (ls.take i)*(bN n x).length) 4097:=by
 unfold uH;rw[aKL,hx,aLZ,aMA];rfl
theorem QO(n:Int)(ls:List fC):0≤uH n ls∧uH n ls≤4097:=by
 unfold uH;have key:∀(l:List fC) (m:Int),0≤m∧m≤4097→0≤l.foldl (fun(m:Int) l=>min (m*((bN n l).length:Int)) 4097) m∧l.foldl (fun(m:Int) l=>min (m*((bN n l).length:Int)) 4097) m≤4097:=by
  intro l;induction l with
  |nil=>intro m h;exact h
  |cons x l ih=>
   intro m h;rw[aMF];refine ih _ ⟨?_,by omega⟩;have:0≤m*((bN n x).length:Int):=Int.mul_nonneg h.1 Yd;omega
 exact key ls 1 Yd
theorem aAJ{m:Int}{k:Nat}(h:0≤m∧m≤4097)(hk:k≤32):rP .i64 (m*(k:Int)):=by
 have h1:0≤m*(k:Int):=Int.mul_nonneg h.1 Yd;have h2:m*(k:Int)≤4097*32:=Int.mul_le_mul h.2 Yd Yd Yd;simp only[rP];omega
theorem mT(bv:Value)(b:aZ)(D:aA)(hb:fO D bv b):Fn Tryz.prog 82 #[bv] D (fun _ v=>v=.int .i64 (aT b)):=by
 have hb0:=hb;obtain⟨lv,cv,rfl,hl,hc⟩:=hb;have hll:=hl.len;refine enter 72 Tryz.func82 rfl rfl rfl rfl fun h0=>C.s1<|Zv rfl (fun q1 E1 hE1 hB1=>Zi rfl<|L.n2<|C.drawA [] 1 6 28 (fun _ _ _ h=>cZ (P:=Tryz.prog) (fn:=Tryz.f82) _ _ _ h)<|Zs rfl Tf.a36 rfl hB1 Tf.s36<|bE rfl rfl rfl rfl trivial<|Zs rfl Tf.a36 rfl hB1 Tf.s36<|bE rfl rfl rfl rfl trivial<|Zi rfl<|Zi rfl ?_);refine L.n2<|Zai<|C.s1<|Zj rfl Tf.f36_3 rfl<|Zg 3 rfl Tf.a33 rfl hB1 rfl<|aW rfl U33 rfl hl rfl rfl trivial<|eR rfl rfl rfl rfl trivial<|Za rfl ?_
 refine' iE [(false,5),(false,6),(false,7),(false,8),(false,9)] [(false,10)] (s:=17) (p:=22) rfl rfl (fun hg1=>?_) (fun hg1=>?_) ?_;rotate_left
 ·refine Zk rfl Tf.f36_4 rfl<|Zh 4 rfl Tf.a34 rfl hB1 rfl<|aW rfl U34 rfl hc rfl rfl ⟨_,rfl,rfl⟩<|eR rfl rfl rfl rfl ⟨_,rfl,rfl⟩<|Zad rfl ?_;exact L.cu 4
 ·refine Zl rfl<|Zl rfl<|Zl rfl<|Zl rfl<|Zac rfl ?_;exact L.cu 4
 refine Zi rfl<|L.n1<|aJ rfl (fun hc1=>?_) (fun hc1=>?_)
 ·refine C.s1<|Zi rfl<|L.n5<|BW<|Zaj ?_;exact Zc [_] rfl ⟨rfl,aGL⟩ (fun D hD=>by show Value.int _ _=_;rw[NF hc1])
 ·refine C.s1<|Zj rfl Tf.f36_0 rfl<|Zg 0 rfl Tf.a3 rfl hB1 rfl<|Zd rfl (fun D1 hD1=>gY _ _ _ _)<|Zaf rfl<|Za rfl ?_;refine' iE [(false,5),(false,6),(false,7),(false,8),(false,9)] [(false,10),(false,11),(false,12),(false,13),(false,14),(false,15),(false,16),(false,17),(false,18),(false,19),(false,20),(false,21),(false,22),(false,23),(false,24),(false,25),(false,26),(false,27),(false,28),(false,29),(false,30)] (s:=28) (p:=33) rfl rfl (fun hg2=>?_) (fun hg2=>?_) ?_;rotate_left
  ·refine Zk rfl Tf.f36_1 rfl<|Zh 1 rfl Tf.a3 rfl hB1 rfl<|Ze rfl (fun D2 hD2=>gY _ _ _ _)<|jT rfl rfl rfl ⟨_,rfl,rfl⟩<|Zad rfl ?_;exact L.cu 4
  ·refine Zl rfl<|Zl rfl<|Zl rfl<|Zl rfl<|Zac rfl ?_;exact L.cu 4
  refine Za rfl ?_;refine' iE [(false,11),(false,12),(false,13),(false,14),(false,15)] [(false,16),(false,17),(false,18),(false,19),(false,20),(false,21),(false,22),(false,23),(false,24),(false,25),(false,26),(false,27),(false,28),(false,29),(false,30)] (s:=34) (p:=39) rfl rfl (fun hg3=>?_) (fun hg3=>?_) ?_;rotate_left
  ·refine Zk rfl Tf.f36_2 rfl<|Zh 2 rfl Tf.a3 rfl hB1 rfl<|Ze rfl (fun D3 hD3=>gY _ _ _ _)<|jT rfl rfl rfl ⟨_,rfl,rfl⟩<|Zad rfl ?_;exact L.cu 4
  ·refine Zl rfl<|Zl rfl<|Zl rfl<|Zl rfl<|Zac rfl ?_;exact L.cu 4
  refine Za rfl ?_;refine' iE [(false,17),(false,18),(false,19),(false,20),(false,21),(false,22)] [(false,23),(false,24),(false,25),(false,26),(false,27),(false,28),(false,29),(false,30)] (s:=40) (p:=46) rfl rfl (fun hg4=>?_) (fun hg4=>?_) ?_;rotate_left
  ·have hch:=aCI hg4;refine Zk rfl Tf.f36_3 rfl<|Zh 3 rfl Tf.a33 rfl hB1 rfl<|Zb rfl<|Ze rfl (fun D4 hD4=>VS _ _ _ (qT b.chairs) _ (Sl.at nZ.up hD4 Yk Ye) ⟨_,[_],[],rfl,fun r D2 hl=>TY _ b r D2 (hb0.up ((hD4 _ Ye).trans hl)) Yd⟩ rfl)<|jT rfl rfl rfl ⟨_,rfl,rfl⟩<|Zad rfl ?_;exact L.cu 5
  ·refine Zl rfl<|Zl rfl<|Zl rfl<|Zl rfl<|Zl rfl<|Zac rfl ?_;exact L.cu 5
  refine Za rfl ?_;refine' iE [(false,24),(false,25),(false,26),(false,27),(false,28),(false,29)] [(false,30)] (s:=47) (p:=53) rfl rfl (fun hg5=>?_) (fun hg5=>?_) ?_;rotate_left
  ·refine Zk rfl Tf.f36_4 rfl<|Zh 4 rfl Tf.a34 rfl hB1 rfl<|Zb rfl<|Ze rfl (fun D5 hD5=>HP _ _ _ (lX b.lines.length) _ (Sl.at pC.up hD5 Yk Ye) ⟨_,[_],[],rfl,fun r D2 hl=>IP _ b r D2 (hb0.up ((hD5 _ Ye).trans hl))⟩ rfl)<|jT rfl rfl rfl ⟨_,rfl,rfl⟩<|Zad rfl ?_;exact L.cu 5
  ·refine Zl rfl<|Zl rfl<|Zl rfl<|Zl rfl<|Zl rfl<|Zac rfl ?_;exact L.cu 5
  refine Zi rfl<|L.n1<|aJ rfl (fun hc2=>?_) (fun hc2=>?_)
  ·refine C.s1<|Zi rfl<|L.n5<|BW<|Zaj ?_;exact Zc [_] rfl ⟨rfl,aGL⟩ (fun D hD=>by show Value.int _ _=_;rw[aBQ hc1 hc2])
  ·obtain⟨hok,hch4⟩:=aCV hc2;refine aAX<|Zak<|Zag<|C.s1<|Zi rfl<|L.n4<|Zj rfl Tf.f36_3 rfl<|Zg 3 rfl Tf.a33 rfl hB1 rfl<|aW rfl U33 rfl hl rfl rfl trivial<|Za rfl<|L.n1<|Zai ?_;refine cN (γ:=Nat) (fun i=>b.lines.length-i) (fun i=>i≤b.lines.length) (fun i=>[(57,.int .i64 (i:Int)),(5,.int .i64 (uH b.chairs (b.lines.take i)))]) [(56,_),(55,_),(2,_),(1,_)] (fun i=>[E1,D]) 0 Yd ⟨Yb,Yb,aGL⟩ C.rs (aD) ?_;rintro i h1;refine C.s1<|Zae rfl<|L.n2<|aF rfl (fun hc3=>?_) (fun hc3=>?_)
   ·have hi:i<b.lines.length:=by omega
    obtain⟨x,hx⟩:∃x,b.lines[i]?= some x:=⟨_,aJT hi⟩
    refine C.kn<|aCX<|Zai<|C.s1<|Zt rfl U33 Tf.s133 rfl hl rfl hx (fun b1 o1 cs1 hr1 hcl1 hA1=>?_);obtain rfl:cs1=[.int .i64 _,.int .i64 _,.int .i64 _]:=hr1;refine Zs rfl Tf.a133 rfl hA1 Tf.s133<|Zw rfl Tf.z133 rfl (fun q2=>Zu rfl Tf.s133 (bO.head)<|L.n1<|C.rg<|Za rfl<|Zs rfl Tf.a36 rfl hB1 Tf.s36<|Zp rfl Tf.a133 rfl (List.Mem.head _) Tf.s133<|bU rfl rfl rfl (fun D6 hD6=>lU _ b x _ (hb0.up (hD6 _ Ye)) Yd) rfl aGL (fun v6 D6 hD6 hp6=>?_));have hr3:=hp6;have hrl:=DK (l:=x) (n:=b.chairs) Yd;have hmk:=QO b.chairs (b.lines.take i);refine aW rfl U33 rfl hr3 rfl rfl trivial<|S3 rfl rfl rfl (aAJ hmk hrl) rfl trivial<|Zr rfl U25 Tf.s3 Tf.z3 rfl rfl rfl rfl (.cons rfl rfl (.cons rfl rfl .nil)) (fun b901 D901 hD901 hA901=>?_);have hS901:=Sl.ofInts (l:=[_,_]) (n:=2) (cap:=2) hA901 rfl Yd Yd;refine Zd rfl (fun D7 hD7=>sT _ _ [4097] _ (hS901.up RI.up (hD7 _ Ye)))<|Zi rfl<|Zz<|Zak<|Zag<|C.rg<|Zy rfl<|Za rfl<|Zz ?_;exact aH 17 (i+1) Yd Yd ⟨Yb,(by rw[DU hx];rfl),aGL⟩ rfl rfl (List.Sublist.cons _ (aJU _)) (fun D h=>⟨D,aJS _ (aJS _ (h)),Le.refl D⟩)
   ·obtain rfl:i=b.lines.length:=by omega
    rw[aLL];refine aR<|Zah<|Zah<|Zal<|Zag<|C.s2<|Za rfl<|eR rfl rfl rfl rfl trivial<|L.n1<|aF rfl (fun hc4=>?_) (fun hc4=>?_)
    ·refine C.s1<|Zi rfl<|L.n5<|Zaj ?_;exact Zc [_] rfl ⟨rfl,aGL⟩ (fun D hD=>by show Value.int _ _=_;rw[XY hc1 hok hc4])
    ·refine C.kn<|C.s1<|Zi rfl<|L.n5 ?_;exact Zc [_] rfl ⟨rfl,aGL⟩ (fun D hD=>by show Value.int _ _=_;rw[VW hc1 hok hc4])
end L3
end Go.Fs
namespace Go.Fs
open Go.Proofs
namespace L3
open L1
section
variable{P:Program}{X:Cx}{γb:Type}[Membership Nat γb]{bad:γb}{all:Array Oper}{K:Act→World→Prop}{Q:Exit→Act→World→Prop}
variable{σ:bT}{μ:aC}{Ds:List aA}{os:List (Bool×Nat)}{fl:Bool}{ix:Nat}
variable{d:Nat}{x y z:Operand}{u v:Value}{ty:TypeId}{pos:String}{aft:Array Edge}{g:Option (Nat×Bool)}
theorem nA{t:TypeId}{b k:Nat}{l:List Int}{n:Int}{e:TypeId}{μ':aC}(ho:all[ix]?= some ⟨none,.store t x y,ty,pos,aft,g⟩)(hs:TS P t 1)(hx:ev σ x=some (.pointer (some ⟨b,k,none⟩)))(hy:ev σ y=some (.int .i64 n))
  (hm:bO μ b (.cells (ints l).toArray e (0,0)) (.cells (ints (l.set k n)).toArray e (0,0)) μ') (hl:k<l.length) (hfl:fl=false∨b∈bad) (hg:cW all σ g)
  (kk:WL P X bad all K Q os σ μ' Ds):WL P X bad all K Q ((fl,ix)::os) σ μ Ds:=by
 have hil:(ints l).length=l.length:=aI l;refine fV (off:=k) (us:=[.int .i64 n]) (vs:=ints l) (ws:=ints (l.set k n)) ho hx hy rfl hs hm (by simp[hil];omega) ?_ (fun u hu=>by simp at hu;subst hu;rfl) hfl hg kk
 rw[show ints (l.set k n)=(ints l).set k (.int .i64 n) by simp[ints,List.map_set],List.set_eq_take_append_cons_drop,aKS (by rw[hil];exact hl)];simp
end
open C3
theorem mH{q a b:Nat}(h:a=b):some (Value.pointer (some ⟨q,a,none⟩))=some (Value.pointer (some ⟨q,b,none⟩)):=by rw[h]
theorem tI{s:Sc}(h4:s.ch.length=4)(h5:s.tk.length=4):(gZ s).length=10:=by unfold gZ;simp[h4,h5]
theorem ZA{s:Sc}(h4:s.ch.length=4){c:Int}(hc:0≤c∧c<4):(ints (gZ s))[0+c.toNat*1]?= some (.int .i64 (jR s.ch c)):=by
 rw[aNB,aND];refine cD ?_;unfold gZ jR;rw[aKK,aMV Yd,aMD,aJT Yd];rfl
theorem YX{s:Sc}(h4:s.ch.length=4)(h5:s.tk.length=4){c:Int}(hc:0≤c∧c<4):(ints (gZ s))[0+4+c.toNat*1]?= some (.int .i64 (jR s.tk c)):=by
 rw[aND];refine cD ?_;unfold gZ jR;rw[aKK,aJO Yd,aMV Yd,aMD,show 0+4+c.toNat-s.ch.length=c.toNat by omega,aJT Yd];rfl
theorem X3{l:List Int}(h:l.length=4):∃a b c d,l=[a,b,c,d]:=by
 match l,h with
 | [a,b,c,d],_=>exact⟨a,b,c,d,rfl⟩
theorem sN{s:Sc}(h4:s.ch.length=4)(h5:s.tk.length=4):(gZ s)[8]?= some s.money:=by
 obtain⟨a,b,c,d,e⟩:=X3 h4;obtain⟨a',b',c',d',e'⟩:=X3 h5;unfold gZ;rw[e,e'];rfl
theorem s6{s:Sc}(h4:s.ch.length=4)(h5:s.tk.length=4):(gZ s)[9]?= some s.mixed:=by
 obtain⟨a,b,c,d,e⟩:=X3 h4;obtain⟨a',b',c',d',e'⟩:=X3 h5;unfold gZ;rw[e,e'];rfl
theorem GJ{s:Sc}(h4:s.ch.length=4)(h5:s.tk.length=4){c t:Int}(hc:0≤c∧c<4)(ht:0≤t∧t<4)(x y m:Int):
  (((gZ s).set c.toNat x).set (4+t.toNat) y).set 8 m=gZ ⟨s.ch.set c.toNat x,s.tk.set t.toNat y,m,s.mixed⟩∧∀z,((((gZ s).set 9 z).set c.toNat x).set (4+t.toNat) y).set 8 m=gZ ⟨s.ch.set c.toNat x,s.tk.set t.toNat y,m,z⟩:=by
 obtain⟨a,b,c',d,e⟩:=X3 h4;obtain⟨a',b',c'',d',e'⟩:=X3 h5;unfold gZ;rw[e,e'];have hc':c.toNat=0∨c.toNat=1∨c.toNat=2∨c.toNat=3:=by omega
 have ht':t.toNat=0∨t.toNat=1∨t.toNat=2∨t.toNat=3:=by omega
 rcases hc' with h|h|h|h<;>rcases ht' with h'|h'|h'|h'<;>rw[h,h']<;>exact⟨rfl,fun _=>rfl⟩
theorem aAH{s:Sc}{l:fC}(h:((!(decide (jR s.ch l.chair≠0)==decide (l.kind=2)))||(!(decide (jR s.tk l.token≠0)==decide (l.kind=2))))=true):eF s l=false:=by
 unfold eF
 revert h
 generalize decide (jR s.ch l.chair≠0)=a,decide (jR s.tk l.token≠0)=c,decide (l.kind=2)=e;cases a<;>cases c<;>cases e<;>decide
theorem VR{s:Sc}{l:fC}(h:((!(decide (jR s.ch l.chair≠0)==decide (l.kind=2)))||(!(decide (jR s.tk l.token≠0)==decide (l.kind=2))))=false):eF s l=true:=by
 unfold eF
 revert h
 generalize decide (jR s.ch l.chair≠0)=a,decide (jR s.tk l.token≠0)=c,decide (l.kind=2)=e;cases a<;>cases c<;>cases e<;>decide
theorem ZT{b:aZ}{s:Sc}{i:Int}{l:fC}(h:eF s l=false):Value.tuple #[.agg (ints (gZ s)).toArray,.bool false]=.tuple #[CL (if eF s l=true then bQ b s i l else s),.bool (eF s l)]:=by rw[h];rfl
theorem c8{b:aZ}{s:Sc}{i:Int}{l:fC}{L:List Int}(h:eF s l=true)(hL:L=gZ (bQ b s i l)):Value.tuple #[.agg (ints L).toArray,.bool true]=.tuple #[CL (if eF s l=true then bQ b s i l else s),.bool (eF s l)]:=by rw[h,hL];rfl
theorem R9{b:aZ}{s:Sc}{i:Int}{l:fC}{L:List Int}(h4:s.ch.length=4)(h5:s.tk.length=4)(hc:0≤l.chair∧l.chair<4)(ht:0≤l.token∧l.token<4)(hk:l.kind=2)
  (h:(jR s.ch l.chair≠jR s.tk l.token∧L=(gZ s).set 9 (s.mixed+1))∨(jR s.ch l.chair=jR s.tk l.token∧L=gZ s)):((L.set l.chair.toNat 0).set (4+l.token.toNat) 0).set 8 (s.money-b.coin)=gZ (bQ b s i l):=by
 obtain⟨g1,g2⟩:=GJ h4 h5 hc ht 0 0 (s.money-b.coin);unfold bQ;rw[aKS hk];rcases h with⟨e,rfl⟩|⟨e,rfl⟩
 ·rw[g2,aKS e]
 ·rw[g1,aKO (by rw[e];simp)]
theorem NI{b:aZ}{s:Sc}{i:Int}{l:fC}(h4:s.ch.length=4)(h5:s.tk.length=4)(hc:0≤l.chair∧l.chair<4)(ht:0≤l.token∧l.token<4)(hk:l.kind≠2):
  (((gZ s).set l.chair.toNat (i+1)).set (4+l.token.toNat) (i+1)).set 8 (s.money+b.coin)=gZ (bQ b s i l):=by
 rw[(GJ h4 h5 hc ht (i+1) (i+1) (s.money+b.coin)).1];unfold bQ;rw[aKO hk]
theorem oJ(bv:Value)(b:aZ)(s:Sc)(i:Int)(l:fC)(D:aA)(hb:fO D bv b)(h4:s.ch.length=4)(h5:s.tk.length=4)(hc:0≤l.chair∧l.chair<4)(ht:0≤l.token∧l.token<4)(hi:0≤i∧i≤100)(hm: -100000≤s.money∧s.money≤100000)(hx:0≤s.mixed∧s.mixed≤1000)(hn:0≤b.coin∧b.coin≤99):
  Fn Tryz.prog 189 #[bv,CL s,.int .i64 i,x7 l] D (fun _ v=>v=.tuple #[CL (if eF s l=true then bQ b s i l else s),.bool (eF s l)]):=by
 obtain⟨lv,cv,rfl,hl,hcn⟩:=hb;have hs10:=tI h4 h5;refine enter 83 Tryz.func189 rfl rfl rfl rfl fun h0=>C.s1<|Zv rfl (fun q1 E1 hE1 hB1=>W2 rfl (e:=149) rfl rfl rfl aGL (fun q2=>Zv rfl (fun q3 E3 hE3 hB3=>Zw rfl Tf.z149 rfl (fun q4=>Zi rfl<|L.n3<|Zj rfl Tf.f133_0 rfl<|Zg 0 rfl Tf.a3 rfl hB3 rfl<|dH rfl rfl rfl rfl trivial<|Zi rfl ?_))));refine L.n4<|Zj rfl Tf.f133_1 rfl<|Zg 1 rfl Tf.a3 rfl hB3 rfl<|Zj rfl Tf.f149_0 rfl<|dR rfl U147 Tf.s3 rfl rfl Yd Yd rfl trivial<|aS (v:=.int .i64 (jR s.ch l.chair)) rfl Tf.a3 rfl (aJS _ (aNM _)) (ZA h4 hc) aJN rfl trivial<|eQ rfl rfl rfl rfl trivial<|Za rfl<|j0 rfl U4 rfl rfl rfl trivial<|Za rfl ?_
 refine' iE [(false,9),(false,10),(false,11),(false,12),(false,13),(false,14),(false,15),(false,16),(false,17)] [] (s:=22) (p:=31) rfl rfl (fun hg1=>?_) (fun hg1=>?_) ?_;rotate_left
 ·refine Zk rfl Tf.f133_2 rfl<|Zh 2 rfl Tf.a3 rfl hB3 rfl<|Zk rfl Tf.f149_1 rfl<|dR rfl U147 Tf.s3 rfl rfl Yd Yd rfl ⟨_,rfl,rfl⟩<|aS (v:=.int .i64 (jR s.tk l.token)) rfl Tf.a3 rfl (aJS _ (aNM _)) (YX h4 h5 ht) aJN rfl ⟨_,rfl,rfl⟩<|eQ rfl rfl rfl rfl ⟨_,rfl,rfl⟩<|Zb rfl<|j0 rfl U4 rfl rfl rfl ⟨_,rfl,rfl⟩<|Zad rfl ?_;exact L.cu 8
 ·refine Zl rfl<|Zl rfl<|Zl rfl<|Zl rfl<|Zl rfl<|Zl rfl<|Zl rfl<|Zl rfl<|Zac rfl ?_;exact L.cu 8
 refine L.n1<|aJ rfl (fun hc1=>?_) (fun hc1=>?_)
 ·refine C.s1<|aY (e:=149) (fz:=(0,0)) rfl Tf.a149 rfl (aJS _ (aNM _)) (by rw[show(ints _).length=10 by simp[hs10]];exact Tf.s149) aJN rfl trivial<|bH rfl rfl rfl rfl Tf.s149 (by simp[hs10]) (by rfl) .head (bP _) trivial<|Zi rfl<|L.n5<|Zaj ?_;exact Zc [_,_] rfl ⟨⟨_,_,_,rfl,(List.Mem.head _),Or.inr ⟨Tf.a149,(by rw[show(ints _).toArray.size=10 by simp[hs10]];exact Tf.s149),rfl⟩⟩,rfl,aGL⟩ (fun D hD=>ZT (aAH hc1))
 ·have hcan:eF s l=true:=VR hc1;refine C.kn<|C.s2<|Za rfl<|L.n1<|aF rfl (fun hc2=>?_) (fun hc2=>?_)
  ·have hk2:l.kind=2:=by simpa using hc2
   refine aCX<|aCX<|C.drawA [] 4 11 996 (fun _ _ _ h=>cZ (P:=Tryz.prog) (fn:=Tryz.f189) _ _ _ h)<|Zj rfl Tf.f133_1 rfl<|Zg 1 rfl Tf.a3 rfl hB3 rfl<|Zj rfl Tf.f149_0 rfl<|dR rfl U147 Tf.s3 rfl rfl Yd Yd rfl trivial<|aS (v:=.int .i64 (jR s.ch l.chair)) rfl Tf.a3 rfl (aJS _ (aNM _)) (ZA h4 hc) aJN rfl trivial<|Zj rfl Tf.f133_2 rfl<|Zg 2 rfl Tf.a3 rfl hB3 rfl<|Zj rfl Tf.f149_1 rfl<|dR rfl U147 Tf.s3 rfl rfl Yd Yd rfl aGL ?_;refine aS (v:=.int .i64 (jR s.tk l.token)) rfl Tf.a3 rfl (aJS _ (aNM _)) (YX h4 h5 ht) aJN rfl trivial<|eQ rfl rfl rfl rfl trivial<|L.n1<|aF rfl (fun hc3=>?_) (fun hc3=>?_)
   ·refine C.rg<|Zj rfl Tf.f149_3 rfl<|aS (v:=.int .i64 s.mixed) rfl Tf.a3 rfl (aJS _ (aNM _)) (cD (s6 h4 h5)) aJN rfl trivial<|Zy rfl<|Zj rfl Tf.f149_3 rfl<|pL (k:=9) rfl Tf.s3 rfl rfl (.tail bO.head) Yu trivial<|L.n2<|iH (dC.mk [q3]) 2 [0,1,2,3,4,5,7,6,8,9] [false,false,true,true,true,true,true,true,false,false] [(false,0),(false,1),(true,2),(true,3),(true,4),(true,5),(true,7),(true,6),(false,8),(false,9)] Tf.follows (fun _ _ _ h=>cZ (P:=Tryz.prog) (fn:=Tryz.f189) _ _ _ h) Yg rfl<|Zj rfl Tf.f133_1 rfl<|bD rfl (k:=1) Tf.a3 rfl hB3 Yc rfl (dC.out Ye) rfl trivial<|Zj rfl Tf.f133_2 rfl<|bD rfl (k:=2) Tf.a3 rfl hB3 Yc rfl (dC.out Ye) rfl aGL ?_;refine Zj rfl Tf.f149_0 rfl<|dR rfl U147 Tf.s3 rfl rfl Yd Yd rfl trivial<|Zj rfl Tf.f149_1 rfl<|bB hB3 Ye (fun hap=>nA (k:=l.chair.toNat) rfl Tf.s3 (mH Yd) rfl (.tail bO.head) Yu (aKB (dC.in_ Yt)) trivial<|dR rfl U147 Tf.s3 rfl rfl Yd Yd rfl trivial<|bB hB3 Ye (fun hap=>nA (k:=4+l.token.toNat) rfl Tf.s3 (mH Yd) rfl (.tail bO.head) Yu (aKB (dC.in_ Yt)) trivial<|L.n3<|Zj rfl Tf.f149_2 rfl<|aS (v:=.int .i64 s.money) rfl Tf.a3 rfl (aJS _ (aNM _)) (cD Yaa) aJN rfl trivial<|Zj rfl Tf.f36_1 rfl ?_));refine Zg 1 rfl Tf.a3 rfl hB1 rfl<|fW rfl rfl rfl Yf rfl trivial<|Zj rfl Tf.f149_2 rfl<|pL (k:=8) rfl Tf.s3 rfl rfl (.tail bO.head) Yu trivial<|L.n3<|aY (e:=149) (fz:=(0,0)) rfl Tf.a149 rfl (aJS _ (aNM _)) (by rw[show(ints _).length=10 by simp[hs10]];exact Tf.s149) aJN rfl trivial<|bH rfl rfl rfl rfl Tf.s149 (by simp[hs10]) (by rfl) .head (bP _) trivial<|Zi rfl<|L.n5<|Zaj ?_
    exact Zc [_,_] rfl ⟨⟨_,_,_,rfl,(aNM _),aKB ⟨Tf.a149,(by rw[show(ints _).toArray.size=10 by simp[hs10]];exact Tf.s149),rfl⟩⟩,rfl,aGL⟩ (fun D hD=>c8 hcan (R9 h4 h5 hc ht hk2 (aKP ⟨by simpa using hc3,rfl⟩)))
   ·refine C.kn<|aCX<|iH (dC.mk [q3]) 2 [0,1,2,3,4,5,7,6,8,9] [false,false,true,true,true,true,true,true,false,false] [(false,0),(false,1),(true,2),(true,3),(true,4),(true,5),(true,7),(true,6),(false,8),(false,9)] Tf.follows (fun _ _ _ h=>cZ (P:=Tryz.prog) (fn:=Tryz.f189) _ _ _ h) Yg rfl<|Zj rfl Tf.f133_1 rfl<|bD rfl (k:=1) Tf.a3 rfl hB3 Yc rfl (dC.out Ye) rfl trivial<|Zj rfl Tf.f133_2 rfl<|bD rfl (k:=2) Tf.a3 rfl hB3 Yc rfl (dC.out Ye) rfl trivial<|Zj rfl Tf.f149_0 rfl<|dR rfl U147 Tf.s3 rfl rfl Yd Yd rfl trivial<|Zj rfl Tf.f149_1 rfl<|bB hB3 Ye (fun hap=>nA (k:=l.chair.toNat) rfl Tf.s3 (mH Yd) rfl (.tail bO.head) Yu (aKB (dC.in_ Yt)) aGL ?_);refine dR rfl U147 Tf.s3 rfl rfl Yd Yd rfl trivial<|bB hB3 Ye (fun hap=>nA (k:=4+l.token.toNat) rfl Tf.s3 (mH Yd) rfl (.tail bO.head) Yu (aKB (dC.in_ Yt)) trivial<|L.n3<|Zj rfl Tf.f149_2 rfl<|aS (v:=.int .i64 s.money) rfl Tf.a3 rfl (aJS _ (aNM _)) (cD Yaa) aJN rfl trivial<|Zj rfl Tf.f36_1 rfl<|Zg 1 rfl Tf.a3 rfl hB1 rfl<|fW rfl rfl rfl Yf rfl trivial<|Zj rfl Tf.f149_2 rfl<|pL (k:=8) rfl Tf.s3 rfl rfl (.tail bO.head) Yu trivial<|L.n3 ?_);refine aY (e:=149) (fz:=(0,0)) rfl Tf.a149 rfl (aJS _ (aNM _)) (by rw[show(ints _).length=10 by simp[hs10]];exact Tf.s149) aJN rfl trivial<|bH rfl rfl rfl rfl Tf.s149 (by simp[hs10]) (by rfl) .head (bP _) trivial<|Zi rfl<|L.n5<|Zaj ?_
    exact Zc [_,_] rfl ⟨⟨_,_,_,rfl,(aNM _),aKB ⟨Tf.a149,(by rw[show(ints _).toArray.size=10 by simp[hs10]];exact Tf.s149),rfl⟩⟩,rfl,aGL⟩ (fun D hD=>c8 hcan (R9 h4 h5 hc ht hk2 (aKB ⟨by simpa using hc3,rfl⟩)))
  ·have hk2:l.kind≠2:=by simpa using hc2
   refine C.kn<|aCX<|iH (dC.mk [q3]) 2 [0,1,2,3,4,5,6,7,8,9,11,10,12,13] [false,false,true,true,true,true,true,true,true,true,true,true,false,false] [(false,0),(false,1),(true,2),(true,3),(true,4),(true,5),(true,6),(true,7),(true,8),(true,9),(true,11),(true,10),(false,12),(false,13)] Tf.follows (fun _ _ _ h=>cZ (P:=Tryz.prog) (fn:=Tryz.f189) _ _ _ h) Yg rfl<|Zj rfl Tf.f133_1 rfl<|bD rfl (k:=1) Tf.a3 rfl hB3 Yc rfl (dC.out Ye) rfl trivial<|Zj rfl Tf.f133_2 rfl<|bD rfl (k:=2) Tf.a3 rfl hB3 Yc rfl (dC.out Ye) rfl trivial<|Za rfl<|Zy rfl<|Za rfl<|Zy rfl<|Zj rfl Tf.f149_0 rfl ?_;refine dR rfl U147 Tf.s3 rfl rfl Yd Yd rfl trivial<|Zj rfl Tf.f149_1 rfl<|bB hB3 Ye (fun hap=>nA (k:=l.chair.toNat) rfl Tf.s3 (mH Yd) rfl (.tail bO.head) Yu (aKB (dC.in_ Yt)) trivial<|dR rfl U147 Tf.s3 rfl rfl Yd Yd rfl trivial<|bB hB3 Ye (fun hap=>nA (k:=4+l.token.toNat) rfl Tf.s3 (mH Yd) rfl (.tail bO.head) Yu (aKB (dC.in_ Yt)) trivial<|L.n3<|Zj rfl Tf.f149_2 rfl<|aS (v:=.int .i64 s.money) rfl Tf.a3 rfl (aJS _ (aNM _)) (cD Yaa) aJN rfl trivial<|Zj rfl Tf.f36_1 rfl<|Zg 1 rfl Tf.a3 rfl hB1 rfl ?_));refine Zy rfl<|Zj rfl Tf.f149_2 rfl<|pL (k:=8) rfl Tf.s3 rfl rfl (.tail bO.head) Yu trivial<|L.n3<|aY (e:=149) (fz:=(0,0)) rfl Tf.a149 rfl (aJS _ (aNM _)) (by rw[show(ints _).length=10 by simp[hs10]];exact Tf.s149) aJN rfl trivial<|bH rfl rfl rfl rfl Tf.s149 (by simp[hs10]) (by rfl) .head (bP _) trivial<|Zi rfl<|L.n5 ?_
   exact Zc [_,_] rfl ⟨⟨_,_,_,rfl,(aNM _),aKB ⟨Tf.a149,(by rw[show(ints _).toArray.size=10 by simp[hs10]];exact Tf.s149),rfl⟩⟩,rfl,aGL⟩ (fun D hD=>c8 hcan (NI h4 h5 hc ht hk2))
end L3
end Go.Fs
namespace Go.Fs
open Go.Proofs
namespace L3
open L1
open C3
theorem m8(c:Cn)(ba bs:Nat)(a:Int)(s:Sc)(D:aA)(h4:s.ch.length=4)(h5:s.tk.length=4)(hA:At D ba 0 [.int .i64 a])(hS:At D bs 0 (ints (gZ s))):
  Fn Tryz.prog 250 #[aBF c,.pointer (some ⟨ba,0,none⟩),.pointer (some ⟨bs,0,none⟩)] D (fun _ v=>v=.bool (decide (c.after≠a)||C1.fL s.money c.lo c.hi)):=by
 refine enter 16 Tryz.func250 rfl rfl rfl rfl fun h0=>C.s1<|Zv rfl (fun q1 E1 hE1 hB1=>Zi rfl<|L.n3<|Zj rfl Tf.f135_0 rfl<|Zg 0 rfl Tf.a3 rfl hB1 rfl<|Zg 0 rfl Tf.a3 rfl hA rfl<|eQ rfl rfl rfl rfl trivial<|Za rfl ?_)
 refine' iE [(false,5),(false,6),(false,7),(false,8),(false,9),(false,10)] [(false,11)] (s:=9) (p:=15) rfl rfl (fun hg1=>?_) (fun hg1=>?_) ?_;rotate_left
 ·refine Zk rfl Tf.f135_1 rfl<|dO rfl (k:=1) Tf.a63 Tf.s63 rfl hB1 Yc rfl rfl aJN rfl ⟨_,rfl,rfl⟩<|Zk rfl Tf.f149_2 rfl<|bD (v:=.int .i64 s.money) rfl (k:=8) Tf.a3 rfl hS Yc (cD (sN h4 h5)) aJN rfl ⟨_,rfl,rfl⟩<|Ze rfl (fun D1 hD1=>VT (c.lo,c.hi) _ _)<|Zad rfl ?_;exact L.cu 5
 ·refine Zl rfl<|Zl rfl<|Zl rfl<|Zl rfl<|Zl rfl<|Zac rfl ?_;exact L.cu 5
 refine Zi rfl<|L.n5 ?_;exact Zc [_] rfl ⟨rfl,aGL⟩ (fun D hD=>rfl)
theorem I8(bv:Value)(b:aZ)(s:Sc)(a:Int)(D:aA)(hb:fO D bv b)(h4:s.ch.length=4)(h5:s.tk.length=4):Fn Tryz.prog 188 #[bv,CL s,.int .i64 a] D (fun _ v=>v=.bool (eS b s a)):=by
 obtain⟨lv,cv,rfl,hl,hc⟩:=hb;refine enter 11 Tryz.func188 rfl rfl rfl rfl fun h0=>C.s1<|Zv rfl (fun q1 E1 hE1 hB1=>Zv rfl (fun q2 E2 hE2 hB2=>Zv rfl (fun q3 E3 hE3 hB3=>Zi rfl<|L.n3<|Zj rfl Tf.f36_4 rfl<|Zg 4 rfl Tf.a34 rfl hB1 rfl<|bE rfl rfl rfl rfl trivial<|Zd rfl (fun D1 hD1=>HP _ _ _ (fun c=>decide (c.after≠a)||C1.fL s.money c.lo c.hi) _ (Sl.at pC.up hD1 Yk Ye) ⟨_,[],[_,_],rfl,fun c D2 hl=>m8 c _ _ a s D2 h4 h5 (hB3.up ((hD1 _ Ye).trans hl)) (hB2.up ((hD1 _ Ye).trans hl))⟩ rfl)<|Zi rfl ?_)));refine L.n5 ?_
 exact Zc [_] rfl ⟨rfl,aGL⟩ (fun D hD=>rfl)
theorem qA(bv:Value)(b:aZ)(D:aA)(hb:fO D bv b):Fn Tryz.prog 139 #[bv] D (fun _ v=>v=CL (eH b)):=by
 obtain⟨lv,cv,rfl,hl,hc⟩:=hb;refine enter 6 Tryz.func139 rfl rfl rfl rfl fun h0=>C.s1<|Zv rfl (fun q1 E1 hE1 hB1=>Zw rfl Tf.z149 rfl (fun q2=>L.n3<|Zj rfl Tf.f36_2 rfl<|Zg 2 rfl Tf.a3 rfl hB1 rfl<|Zq [.int .i64 0,.int .i64 0,.int .i64 0,.int .i64 0,.int .i64 0,.int .i64 0,.int .i64 0,.int .i64 0,.int .i64 b.box,.int .i64 0] rfl Tf.p149 Tf.z149 rfl rfl<|Zu rfl Tf.s149 (bO.head)<|L.n5 ?_))
 exact Zc [_] rfl ⟨⟨_,_,_,rfl,(aNM _),aKB ⟨Tf.a149,(by first|exact Tf.s149|(simp only[aLH,aI, *];exact Tf.s149)),rfl⟩⟩,aGL⟩ (fun D hD=>rfl)
end L3
end Go.Fs
namespace Go.Fs
open Go.Proofs
namespace L3
open L1
open C3
structure JO(b:aZ):Prop where
 ch:1≤b.chairs∧b.chairs≤4
 co:1≤b.coin∧b.coin≤99
 bx:0≤b.box∧b.box≤999
 l8:b.lines.length≤8
 c4:b.counts.length≤4
 ln:∀l∈b.lines,qT b.chairs l=true
theorem aDB{b:aZ}(h:aT b=0):JO b:=by
 unfold aT at h;split at h
 ·omega
 ·rename_i h1;split at h
  ·omega
  ·rename_i h2;have h3:oP b=true:=by simpa using h2
   unfold oP at h3;simp only[aKG,C1.cG,aKX]at h3;exact⟨h3.1.1.1.1,h3.1.1.1.2,h3.1.1.2,by omega,by omega,h3.1.2⟩
def bM(l:List Sc):List Value:=l.flatMap fun s=>ints (gZ s)
structure aCJ(b:aZ)(s:Sc)(k:Nat):Prop where
 lc:s.ch.length=4
 lt:s.tk.length=4
 mo:b.box-99*(k:Int)≤s.money∧s.money≤b.box+99*(k:Int)
 mi:0≤s.mixed∧s.mixed≤k
theorem sZ{b:aZ}(hb:JO b){s:Sc}{k:Nat}(h:aCJ b s k)(l:fC)(i:Int):aCJ b (bQ b s i l) (k+1):=by
 have:=hb.co;have:=h.mo;have:=h.mi;unfold bQ;split
 ·refine⟨by simp[h.lc],by simp[h.lt],?_,?_⟩
  ·simp only;push_cast;omega
  ·simp only;split<;>push_cast<;>omega
 ·refine⟨by simp[h.lc],by simp[h.lt],?_,?_⟩
  ·simp only;push_cast;omega
  ·simp only;push_cast;omega
theorem vK{l:List Sc}(h:∀s∈l,(gZ s).length=10){i:Nat}{s:Sc}(hi:l[i]?= some s):((bM l).drop (i*10)).take 10=ints (gZ s):=by
 induction l generalizing i with
 |nil=>simp at hi
 |cons u l ih=>
  have hu:(ints (gZ u)).length=10:=by rw[aI,h u aKI]
  have e:bM (u::l)=ints (gZ u)++bM l:=rfl;rw[e];cases i with
  |zero=>
   obtain rfl:u=s:=by simpa using hi
   rw[aOG,aOA,aLN Yd,aLA Yd]
  |succ i=>
   rw[aOF,aLJ Yd,aLG,hu,show(i+1)*10-10=i*10 by omega];exact ih (fun t ht=>h t (aKA _ ht)) Yal
end L3
end Go.Fs
namespace Go.Fs
open Go.Proofs
namespace L3
open L1
open C3
end L3
end Go.Fs
namespace Go.Fs
open Go.Proofs
namespace L3
open L1
open C3
def NA(l:List Int)(k:Nat):List Int:=(List.range 4).map fun j=>if j<k then min (l.getD j 0) 1 else 0
theorem OK{l:List Int}{k:Nat}{x:Int}(hx:l[k]?= some x):(NA l k).set k (min x 1)=NA l (k+1):=by
 apply aJM;intro i;unfold NA;rw[List.getElem?_set,aLC,aLC];simp only[aMI,List.length_range];by_cases hi:i<4
 ·rw[aJD hi];simp only[aLK];by_cases e:k=i
  ·subst e;rw[aKS rfl,aKS hi,aKS Yd,aMD,hx];rfl
  ·rw[aKO e];by_cases h:i<k
   ·rw[aKS h,aKS Yd]
   ·rw[aKO h,aKO Yd]
 ·rw[aNE Yal];by_cases e:k=i
  ·subst e;rw[aKS rfl,aKO hi];rfl
  ·rw[aKO e];rfl
theorem YJ{l:List Int}(h:l.length=4):NA l 4=rO l:=by
 obtain⟨a,b,c,d,rfl⟩:=X3 h;rfl
theorem K9(l:List Int)(D:aA)(h4:l.length=4):Fn Tryz.prog 219 #[.agg (ints l).toArray] D (fun _ v=>v=.agg (ints (rO l)).toArray):=by
 refine enter 17 Tryz.func219 rfl rfl rfl rfl fun h0=>C.s1<|Zv rfl (fun q1 E1 hE1 hB1=>Zw rfl Tf.z147 rfl (fun q2=>L.n4<|cO rfl Tf.a147 rfl hB1 Yj (by rw[show(ints _).length=4 by simp[h4]];exact Tf.s147) aJN rfl trivial<|Za rfl<|L.n1<|Zai<|cE (γ:=Nat) (fun k=>4-k) (fun k=>k≤4) (fun k=>[(6,.int .i64 (k:Int))]) [(5,_),(2,_)] (fun k=>[(q2,.cells (ints (NA l k)).toArray 147 (0,0))]) (fun k=>[E1,D]) 0 Yd ⟨Yb,aGL⟩ C.rs (aJU _) (aD) ?_))
 rintro k h1;refine C.s1<|Zae rfl<|L.n2<|aF rfl (fun hc1=>?_) (fun hc1=>?_)
 ·have hk:k<4:=by omega
  obtain⟨x,hx0⟩:∃x,l[k]?= some x:=⟨_,aJT Yd⟩
  have hx:l[((k:Nat):Int).toNat]?= some x:=by simpa using hx0
  have hstep:=OK hx0;refine C.kn<|aCX<|Zai<|C.s1<|Za rfl<|J6 (l:=l) rfl U147 Tf.a3 Tf.s3 rfl rfl Yd Yd hx rfl trivial<|Zi rfl<|Zi rfl<|L.n1<|C.rg<|Za rfl<|Za rfl ?_;refine Zr rfl U25 Tf.s3 Tf.z3 rfl rfl rfl rfl (.cons rfl rfl (.cons rfl rfl .nil)) (fun b901 D901 hD901 hA901=>?_);have hS901:=Sl.ofInts (l:=[_,_]) (n:=2) (cap:=2) hA901 rfl Yd Yd;refine Zd rfl (fun D1 hD1=>sT _ x [1] _ (hS901.up RI.up (hD1 _ Ye)))<|dR rfl U147 Tf.s3 rfl rfl Yd Yd rfl trivial<|pL (k:=k) rfl Tf.s3 (mH Yd) rfl .head (by simp[NA];omega) aGL ?_
  rw[show(NA l k).set k (List.foldl min x [1])=NA l (k+1)from hstep];refine Zz<|Zak<|Zag<|C.rg<|Zy rfl<|Za rfl<|Zz ?_;exact aH 13 (k+1) Yd Yd ⟨Yb,aGL⟩ rfl rfl (aJU _) (fun D h=>⟨D,aJS _ (h),Le.refl D⟩)
 ·obtain rfl:k=4:=by omega
  refine aR<|Zah<|Zah<|Zal<|Zag<|C.s1<|aY (e:=147) (fz:=(0,0)) rfl Tf.a147 rfl (aNM _) (by rw[show(ints _).length=4 by simp[NA]];exact Tf.s147) aJN rfl trivial<|bH rfl rfl rfl rfl Tf.s147 (by simp[NA]) (by simp[NA]) .head (bP _) trivial<|L.n5 ?_;exact Zc [_] rfl ⟨⟨_,_,_,rfl,(List.Mem.head _),Or.inr ⟨Tf.a147,(by rw[show(ints _).toArray.size=4 by simp[NA]];exact Tf.s147),rfl⟩⟩,aGL⟩ (fun D hD=>by show Value.agg _=_;rw[YJ h4])
theorem aEN:KS Tryz.prog 317 9:=by
 have hf:(Tryz.prog.fieldsOf 317).toList=[(Tryz.prog.fieldsOf 317)[0]!,(Tryz.prog.fieldsOf 317)[1]!,(Tryz.prog.fieldsOf 317)[2]!]:=by kernel_rfl
 refine⟨by kernel_rfl,by kernel_rfl,by kernel_rfl,?_⟩;rw[hf];refine .cons (sF.int (by decide+kernel) Yg Yg) (.cons (n:=4) (sF.arr (e:=3) (by decide+kernel) Yg Yg Yg Yg ?_ ?_) (.cons (n:=4) (sF.arr (e:=3) (by decide+kernel) Yg Yg Yg Yg ?_ ?_) .nil))
 ·rw[show((Tryz.prog.fieldsOf 317)[1]!).type=147 by kernel_rfl];exact Tf.a147
 ·rw[show((Tryz.prog.fieldsOf 317)[1]!).type=147 by kernel_rfl];exact Tf.s147
 ·rw[show((Tryz.prog.fieldsOf 317)[2]!).type=147 by kernel_rfl];exact Tf.a147
 ·rw[show((Tryz.prog.fieldsOf 317)[2]!).type=147 by kernel_rfl];exact Tf.s147
theorem aEL:KM Tryz.prog 317 4:=⟨(Tryz.prog.fieldsOf 317)[0]!,(Tryz.prog.fieldsOf 317)[1]!,(Tryz.prog.fieldsOf 317)[2]!,3,by kernel_rfl,by kernel_rfl,by decide+kernel,by decide+kernel,by decide+kernel,by kernel_rfl,by kernel_rfl,by kernel_rfl,by kernel_rfl,by kernel_rfl,by kernel_rfl,by kernel_rfl,
 by rw[show((Tryz.prog.fieldsOf 317)[1]!).type=147 by kernel_rfl];exact Tf.a147,by rw[show((Tryz.prog.fieldsOf 317)[1]!).type=147 by kernel_rfl];exact Tf.s147,by rw[show((Tryz.prog.fieldsOf 317)[2]!).type=147 by kernel_rfl];exact Tf.a147,by rw[show((Tryz.prog.fieldsOf 317)[2]!).type=147 by kernel_rfl];exact Tf.s147,Tf.s3⟩
theorem rK:zU Tryz.prog 317 (pA (n:=9)):=KM.key aEL aEN
end L3
end Go.Fs
namespace Go.Fs
open Go.Proofs
namespace L3
open L1
section
variable{P:Program}{X:Cx}{γb:Type}[Membership Nat γb]{bad:γb}{all:Array Oper}{K:Act→World→Prop}{Q:Exit→Act→World→Prop}
variable{σ:bT}{μ:aC}{Ds:List aA}{os:List (Bool×Nat)}
theorem P5(k:(μ.map fun p=>p.1).Nodup→WL P X bad all K Q os σ μ Ds):WL P X bad all K Q os σ μ Ds:=fun a w hh=>by
 obtain⟨_,_,_,D,hs,_⟩:=id hh;exact k hs.nd a w hh
end
theorem xY{w q1 q3 q4:Nat}{o o3:Obj}{R:aC}(h1:w∉aC.ks ((q4,o)::(q3,o3)::R))(h2:q1∉aC.ks ((q4,o)::(q3,o3)::R))(h3:(((q4,o)::(q3,o3)::R).map fun p=>p.1).Nodup):q4∉[w,q1,q3]:=by
 simp only[aLB,aLT,aJX,not_or]at h1 h2 h3;intro h;simp only[aJX,aJN,aMT]at h;rcases h with rfl|rfl|rfl
 ·exact h1.1 rfl
 ·exact h2.1 rfl
 ·exact h3.1.1 rfl
open C3
def qW(b:aZ)(Mm:List (lA 9×Bool)):Prop:=∀p∈Mm,∀(i:Nat) (s:Sc),G3 b s→MX s→s.ch.length=4→p.1.l=UA s i→p.2=eP b (b.lines.drop i) i s
theorem qW.nil{b:aZ}:qW b []:=fun p hp=>by cases hp
theorem qW.add{b:aZ}{Mm M':List (lA 9×Bool)}{i:Nat}{s:Sc}{a:lA 9}{r:Bool}(h:qW b Mm)(hm:∀p∈M',p∈Mm∨p=(a,r))(ha:a.l=UA s i)(hi:G3 b s)(hp:MX s)(h4:s.ch.length=4)(hr:r=eP b (b.lines.drop i) i s):qW b M':=by
 intro p hp' i' s' hi' hps' h4' he;rcases hm p hp' with h1|h1
 ·exact h p h1 i' s' hi' hps' h4' he
 ·subst h1;simp only at he ⊢
  rw[ha]at he;obtain⟨e1,e2⟩:=TT (ls:=b.lines.drop i) he hi hi' hp hps' h4 h4';rw[hr,←e1];exact e2.trans (by rw[←e1])
theorem X6{a c d:Value}{lv cv lv' cv':Value}(h:Value.agg #[a,c,d,lv,cv]=.agg #[a,c,d,lv',cv']):lv=lv'∧cv=cv':=by
 simp at h;exact h
theorem VN{b:aZ}{ls:List fC}{i:Nat}{s:Sc}(h:eS b s i=false):eP b ls i s=false:=by
 cases ls with
 |nil=>exact h
 |cons l ls=>unfold eP;rw[h];rfl
theorem RH{b:aZ}{i:Nat}{s:Sc}(h:eS b s i=true)(hi:(i:Int)=(b.lines.length:Int)):eP b (b.lines.drop i) i s=true:=by
 rw[aLJ Yd];exact h
def i7(b:aZ)(i:Nat)(s:Sc)(r:fC):Bool:=eF s r&&eP b (b.lines.drop (i+1)) (i+1) (bQ b s i r)
theorem yJ{b:aZ}{i:Nat}{s:Sc}{r:fC}(h:eF s r=true):eP b (b.lines.drop (i+1)) (i+1) (bQ b s i r)=i7 b i s r:=by unfold i7;rw[h];rfl
theorem T4{b:aZ}{i:Nat}{s:Sc}{r:fC}(h:eF s r=false):false=i7 b i s r:=by unfold i7;rw[h];rfl
theorem uT{b:aZ}{s:Sc}{i:Int}{r:fC}(h4:s.ch.length=4)(h5:s.tk.length=4):(gZ (bQ b s i r)).length=10:=by
 unfold bQ;split
 ·exact tI (by simp[h4]) (by simp[h5])
 ·exact tI (by simp[h4]) (by simp[h5])
theorem vV{mb cl:Nat}{es:Array MapEntry}:∀p∈[(mb,Obj.map es cl)],cK p.2:=by
 intro p hp;simp only[aJX,aJN,aMT]at hp;subst hp;trivial
set_option maxHeartbeats 1000000 in
theorem g8{b:aZ}{bv lv cv:Value}{wb mb:Nat}(hbo:JO b)(hbv:bv=.agg #[.int .i64 b.chairs,.int .i64 b.coin,.int .i64 b.box,lv,cv]):
  ∀(j i:Nat) (s:Sc) (es:Array MapEntry) (cl:Nat) (Mm:List (lA 9×Bool)) (D:aA),i+j=b.lines.length→aCJ b s i→MX s→G3 b s→oA pA Value.bool es Mm→qW b Mm→fO D bv b→At D wb 0 [.int .i64 b.chairs,.int .i64 b.coin,.int .i64 b.box,lv,cv,.map (some mb)]→
  N6 Tryz.prog 138 [.pointer (some ⟨wb,0,none⟩),CL s,.int .i64 (i:Int)] D [(mb,.map es cl)] (fun _ v ν'=>v=.bool (eP b (b.lines.drop i) i s)∧∃es' cl' M',ν'=[(mb,.map es' cl')]∧oA pA Value.bool es' M'∧qW b M'):=by
 subst hbv;intro j;induction j using Nat.strongRecOn with
 |_ j ih=>
 intro i s es cl Mm D hij hsb hsp hsi hM hok hb0 hA;obtain⟨ch,tk,mo,mi⟩:=s;obtain⟨c0,c1,c2,c3,rfl⟩:=X3 hsb.lc;obtain⟨k0,k1,k2,k3,rfl⟩:=X3 hsb.lt;have hb:=hb0;obtain⟨lv',cv',he,hl,hc⟩:=hb;obtain⟨rfl,rfl⟩:=X6 he;have hl8:=hbo.l8;have hch:=hbo.ch;have hco:=hbo.co;have hbx:=hbo.bx;have hmo:=hsb.mo;have hmi:=hsb.mi;simp only at hmo hmi;show N6 _ _ [.pointer (some ⟨wb,0,none⟩),.agg #[.int .i64 c0,.int .i64 c1,.int .i64 c2,.int .i64 c3,.int .i64 k0,.int .i64 k1,.int .i64 k2,.int .i64 k3,.int .i64 mo,.int .i64 mi],.int .i64 (i:Int)] _ _ _;refine fR 94 Tryz.func138 rfl rfl rfl rfl (fun h0 hwl hwn=>C.s1<|Zv rfl (fun q1 E1 hE1 hB1=>Zi rfl<|L.n2<|aCX<|C.drawA [] 5 8 48 (fun _ _ _ h=>aU (P:=Tryz.prog) (fn:=Tryz.f138) _ _ _ h)<|Za rfl<|Zab rfl<|Zj rfl Tf.f259_0 rfl<|dO rfl (k:=0) Tf.a36 Tf.s36 rfl hA Yc rfl rfl aJN rfl trivial<|Zs rfl Tf.a149 rfl hB1 Tf.s149 ?_));refine Za rfl<|Zd rfl (fun D1 hD1=>I8 _ b (⟨[c0,c1,c2,c3],[k0,k1,k2,k3],mo,mi⟩:Sc) i _ (hb0.up (hD1 _ Ye)) rfl rfl)<|Zaf rfl<|L.n1<|aJ rfl (fun hc1=>?_) (fun hc1=>?_)
 ·refine C.s1<|Zi rfl<|L.n5<|Zaj ?_;exact Zx [] [] [_] [_] rfl ⟨rfl,aGL⟩ rfl (fun D' hD=>⟨aKJ Value.bool (VN (by simpa using hc1)).symm,es,cl,Mm,rfl,hM,hok⟩)
 ·have hcd:eS b (⟨[c0,c1,c2,c3],[k0,k1,k2,k3],mo,mi⟩:Sc) i=true:=by simpa using hc1
  refine C.kn<|C.s2<|Za rfl<|Za rfl<|Zab rfl<|Zj rfl Tf.f259_0 rfl<|Zj rfl Tf.f36_3 rfl<|Zg 3 rfl Tf.a33 rfl hA rfl<|aW rfl U33 rfl hl rfl rfl trivial<|dH rfl rfl rfl rfl trivial<|L.n1<|aF rfl (fun hc2=>?_) (fun hc2=>?_)
  ·refine C.s1<|Zi rfl<|L.n5<|Zaj ?_;exact Zx [] [] [_] [_] rfl ⟨rfl,aGL⟩ rfl (fun D' hD=>⟨aKJ Value.bool (RH hcd hc2).symm,es,cl,Mm,rfl,hM,hok⟩)
  ·have hil:i<b.lines.length:=by omega
   obtain⟨z,hz⟩:∃z,b.lines[i]?= some z:=⟨_,aJT hil⟩
   have hdr:b.lines.drop i=z::b.lines.drop (i+1):=by rw[aLV hil];congr 1;exact aKZ ((aJT hil).symm.trans hz)
   refine C.kn<|aCX<|jU [] 3 [false,true,true,true,true,true,true,false,true,false] [.fork [0,1,2,4,5] 3 (.fork [] 6 (.fin [7,8]) 8 (.fin [6,7])) 8 (.fin [3,6,7]),.fin [9]] Tf.follows (fun _ _ _ h=>aU (P:=Tryz.prog) (fn:=Tryz.f138) _ _ _ h) Yg<|mE<|bG [(false,0),(true,1),(true,2),(true,4),(true,5)] rfl<|Za rfl<|Zj rfl Tf.f149_0 rfl<|dO rfl (k:=0) Tf.a147 Tf.s147 rfl hB1 Yc rfl rfl aJN rfl trivial<|Zj rfl Tf.f149_1 rfl<|dO rfl (k:=4) Tf.a147 Tf.s147 rfl hB1 Yc rfl rfl aJN rfl trivial<|Zz (cY true true rfl rfl ?_ ?_)
   ·refine Zd rfl (fun D2 hD2=>K9 [c0,c1,c2,c3] _ rfl)<|Zz<|bG [] rfl<|Zz (cY true true rfl rfl ?_ ?_)
    ·refine Zd rfl (fun D3 hD3=>K9 [k0,k1,k2,k3] _ rfl)<|Zz<|aP [(false,7),(true,8)] rfl<|hG (cs:=[.int .i64 (i:Int),.int .i64 (min c0 1),.int .i64 (min c1 1),.int .i64 (min c2 1),.int .i64 (min c3 1),.int .i64 (min k0 1),.int .i64 (min k1 1),.int .i64 (min k2 1),.int .i64 (min k3 1)]) rfl Tf.p317 Tf.z317 rfl Yg rfl trivial<|Zw rfl Tf.z317 rfl (fun q2=>Zz<|iA [(false,9)] rfl<|Zu rfl Tf.s317 (bO.head)<|Zz<|hZ<|Zag<|aCX ?_);refine C.drawA [] 6 11 784 (fun _ _ _ h=>aU (P:=Tryz.prog) (fn:=Tryz.f138) _ _ _ h)<|Za rfl<|Zab rfl<|Zj rfl Tf.f259_1 rfl<|Zg 5 rfl Tf.a257 rfl hA rfl<|Zp rfl Tf.a317 rfl (List.Mem.head _) Tf.s317<|xS (val:=pA (n:=9)) (wal:=Value.bool) (a:=⟨[(i:Int),min c0 1,min c1 1,min c2 1,min c3 1,min k0 1,min k1 1,min k2 1,min k3 1],rfl⟩) rfl U257 rK Tf.z4 rfl rfl (aJS _ (aNM _)) aJN hM rfl aGL (fun nv ok hin hout=>Za rfl<|Zaa rfl<|Zaa rfl<|Zi rfl<|Zi rfl ?_);refine L.n4<|Za rfl<|L.n1<|aJ rfl (fun hc3=>?_) (fun hc3=>?_)
     ·obtain⟨r,rfl,hmem⟩:=hin hc3;refine C.s1<|Za rfl<|Zi rfl<|L.n5<|Zaj ?_;exact Zx [(_,_)] [] [_] [_] rfl ⟨rfl,aGL⟩ rfl (fun D' hD=>⟨aKJ Value.bool (hok _ hmem i (⟨[c0,c1,c2,c3],[k0,k1,k2,k3],mo,mi⟩:Sc) hsi hsp rfl rfl),es,cl,Mm,rfl,hM,hok⟩)
     ·obtain rfl:=hout hc3;refine C.kn<|aCX<|aCX<|iH [] 3 [0,1,2,3,4,5,6,7,8,9,10,11,14,12,13] [false,false,false,false,true,true,true,true,true,true,true,true,true,true,true] [(false,0),(false,1),(false,2),(false,3),(true,4),(true,5),(true,6),(true,7),(true,8),(true,9),(true,10),(true,11),(true,14),(true,12),(true,13)] Tf.follows (fun _ _ _ h=>aU (P:=Tryz.prog) (fn:=Tryz.f138) _ _ _ h) Yg rfl<|Za rfl<|Zab rfl<|Zj rfl Tf.f259_0 rfl<|dO rfl (k:=0) Tf.a36 Tf.s36 rfl hA Yc rfl rfl aJN rfl trivial<|Za rfl<|Zab rfl<|Zj rfl Tf.f259_0 rfl<|Zj rfl Tf.f36_3 rfl ?_;refine Zg 3 rfl Tf.a33 rfl hA rfl<|Za rfl<|Zt rfl U33 Tf.s133 rfl hl rfl hz (fun b1 o1 cs1 hr1 hcl1 hA1=>?_);obtain rfl:cs1=[.int .i64 _,.int .i64 _,.int .i64 _]:=hr1;refine Zs rfl Tf.a133 rfl hA1 Tf.s133<|Za rfl<|bU rfl rfl rfl (fun D4 hD4=>lU _ b z _ (hb0.up (hD4 _ Ye)) Yd) rfl aGL (fun v4 D4 hD4 hp4=>?_);have hr:=hp4;have hrl:=hr.len;refine aW rfl U33 rfl Yk rfl rfl trivial<|L.n1<|Zai<|cE (γ:=Nat×Array MapEntry×Nat×List (lA 9×Bool)) (fun g=>(bN b.chairs z).length-g.1) (fun g=>g.1≤(bN b.chairs z).length∧((bN b.chairs z).take g.1).any (fun r=>i7 b i (⟨[c0,c1,c2,c3],[k0,k1,k2,k3],mo,mi⟩:Sc) r)=false∧oA pA Value.bool g.2.1 g.2.2.2∧qW b g.2.2.2) (fun g=>[(63,.int .i64 (g.1:Int)),(8,.bool false)]) [(62,_),(61,_),(7,_),(6,_),(4,_),(0,_),(2,_)] (fun g=>[(q2,.cells [.int .i64 (i:Int),.int .i64 (min c0 1),.int .i64 (min c1 1),.int .i64 (min c2 1),.int .i64 (min c3 1),.int .i64 (min k0 1),.int .i64 (min k1 1),.int .i64 (min k2 1),.int .i64 (min k3 1)].toArray 317 (0,0)),(mb,.map g.2.1 g.2.2.1)]) (fun g=>[D4,E1,D]) (0,es,cl,Mm) ⟨by simp,rfl,hM,hok⟩ ⟨Yb,Yb,aGL⟩ C.rs (aJU _) (aD) ?_;rintro⟨k,es2,cl2,M2⟩ ⟨h1,hno,hM2,hok2⟩;simp only at h1 hno hM2 hok2;refine C.s1<|Zae rfl<|L.n2<|aF rfl (fun hc4=>?_) (fun hc4=>?_)
      ·simp only at hc4;obtain⟨x,hx⟩:∃x,(bN b.chairs z)[k]?= some x:=⟨_,aJT Yd⟩
       have hin:=((mU (hbo.ln z (aJV hz))).1 (aJV hx)).1;refine C.kn<|aCX<|Zai<|C.s1<|Zt rfl U33 Tf.s133 rfl hr rfl hx (fun b2 o2 cs2 hr2 hcl2 hA2=>?_);obtain rfl:cs2=[.int .i64 _,.int .i64 _,.int .i64 _]:=hr2;refine Zs rfl Tf.a133 rfl hA2 Tf.s133<|Zw rfl Tf.z133 rfl (fun q3=>Zu rfl Tf.s133 (bO.head)<|L.n2 ?_);have hif:(gZ (if eF (⟨[c0,c1,c2,c3],[k0,k1,k2,k3],mo,mi⟩:Sc) x=true then(bQ b (⟨[c0,c1,c2,c3],[k0,k1,k2,k3],mo,mi⟩:Sc) i x)else(⟨[c0,c1,c2,c3],[k0,k1,k2,k3],mo,mi⟩:Sc))).length=10:=by split;exact uT rfl rfl;rfl
       have hnl:(gZ (bQ b (⟨[c0,c1,c2,c3],[k0,k1,k2,k3],mo,mi⟩:Sc) i x)).length=10:=uT rfl rfl;refine jU (dC.mk [wb,q1,q3]) 6 [false,false,false,false,true,true,true,true,false,false,true,true,true,false] [.fork [0,1,2,3,4,5,6] 7 (.fin [8,9,10,11]) 11 (.fin [7,8,9,10]),.fin [12,13]] Tf.follows (fun _ _ _ h=>aU (P:=Tryz.prog) (fn:=Tryz.f138) _ _ _ h) Yg<|mE<|bG [(false,0),(false,1),(false,2),(false,3),(true,4),(true,5),(true,6)] rfl<|Za rfl<|Zab rfl<|Zj rfl Tf.f259_0 rfl<|dO rfl (k:=0) Tf.a36 Tf.s36 rfl hA Yc rfl rfl (dC.out Ye) rfl trivial<|cO rfl Tf.a149 rfl hB1 Yj Tf.s149 (dC.out Ye) rfl trivial<|Za rfl<|aY rfl Tf.a133 rfl (List.Mem.head _) Tf.s133 (dC.out Ye) rfl trivial<|Zz (cY true true rfl rfl ?_ ?_)
       ·refine Zd rfl (fun D5 hD5=>oJ _ b (⟨[c0,c1,c2,c3],[k0,k1,k2,k3],mo,mi⟩:Sc) i x _ (hb0.up (hD5 _ Ye)) rfl rfl Yaf Yaf Yd Yak Yap Yd)<|Zz<|aP [(false,8),(false,9),(true,10),(true,11)] rfl<|Za rfl<|Zaa rfl<|Zaa rfl<|Zw rfl Tf.z149 rfl (fun q4=>Zz<|iA [(true,12),(false,13)] rfl<|bB hA Ye (fun hap1=>bB hB1 Ye (fun hap2=>P5 (fun hnd=>?_))));refine fV (off:=0) (us:=ints (gZ (if eF (⟨[c0,c1,c2,c3],[k0,k1,k2,k3],mo,mi⟩:Sc) x=true then(bQ b (⟨[c0,c1,c2,c3],[k0,k1,k2,k3],mo,mi⟩:Sc) i x)else(⟨[c0,c1,c2,c3],[k0,k1,k2,k3],mo,mi⟩:Sc)))) (ws:=ints (gZ (if eF (⟨[c0,c1,c2,c3],[k0,k1,k2,k3],mo,mi⟩:Sc) x=true then(bQ b (⟨[c0,c1,c2,c3],[k0,k1,k2,k3],mo,mi⟩:Sc) i x)else(⟨[c0,c1,c2,c3],[k0,k1,k2,k3],mo,mi⟩:Sc)))) rfl rfl rfl rfl (by rw[show(ints _).length=10 by simp[hif]];exact Tf.s149) .head Yaq Yaq (bP _) (aKB (dC.in_ (xY hap1 hap2 hnd))) trivial<|Zi rfl<|Zz<|hZ<|Zag<|C.s1<|Za rfl<|Za rfl<|yR (γ:=Bool×Array MapEntry×Nat×List (lA 9×Bool)) (fun g=>g.1=i7 b i (⟨[c0,c1,c2,c3],[k0,k1,k2,k3],mo,mi⟩:Sc) x∧oA pA Value.bool g.2.1 g.2.2.2∧qW b g.2.2.2) (fun g=>g.1) (fun g=>[(q4,.cells (ints (gZ (if eF (⟨[c0,c1,c2,c3],[k0,k1,k2,k3],mo,mi⟩:Sc) x=true then(bQ b (⟨[c0,c1,c2,c3],[k0,k1,k2,k3],mo,mi⟩:Sc) i x)else(⟨[c0,c1,c2,c3],[k0,k1,k2,k3],mo,mi⟩:Sc)))).toArray 149 (0,0)),(q3,.cells [.int .i64 x.kind,.int .i64 x.chair,.int .i64 x.token].toArray 133 (0,0)),(q2,.cells [.int .i64 (i:Int),.int .i64 (min c0 1),.int .i64 (min c1 1),.int .i64 (min c2 1),.int .i64 (min c3 1),.int .i64 (min k0 1),.int .i64 (min k1 1),.int .i64 (min k2 1),.int .i64 (min k3 1)].toArray 317 (0,0)),(mb,.map g.2.1 g.2.2.1)]) [(false,2),(false,3),(false,4),(false,5),(false,6),(false,7)] [] (s:=79) (p:=85) rfl rfl (fun hg1=>?_) (fun hg1=>?_) ?_
        ·have hgc:=hg1;rw[aKS hgc];refine Zb rfl<|aY (e:=149) (fz:=(0,0)) rfl Tf.a149 rfl (aNM _) (by rw[show(ints _).length=10 by simp[hnl]];exact Tf.s149) aJN rfl ⟨_,rfl,rfl⟩<|Zb rfl<|rI rfl rfl rfl Yf rfl ⟨_,rfl,rfl⟩<|aE ([(_,_),(_,_),(_,_)]++[(_,_)]++([])) rfl<|dF (A:=[(_,_),(_,_),(_,_)]) (ν:=[(_,_)]) (B:=[]) rfl rfl rfl rfl (aKP rfl) vV (fun D9 hD9=>ih (j-1) Yd (i+1) (bQ b (⟨[c0,c1,c2,c3],[k0,k1,k2,k3],mo,mi⟩:Sc) i x) es2 cl2 M2 _ Yd (sZ hbo hsb x i) (lW hsp i x) (pR hsi rfl hgc hin.2.1 (by have:=hin.2.2.1;omega)) hM2 hok2 (hb0.up (hD9 _ Ye)) (hA.up (hD9 _ Ye))) rfl ⟨_,rfl,rfl⟩ (fun v9 D10 _ hD10 hp9=>?_)
         obtain⟨rfl,es3,cl3,M3,rfl,hM3,hok3⟩:=hp9;refine Zac rfl ?_;exact aG fun a w hh=>⟨(_,es3,cl3,M3),⟨yJ Yk,hM3,hok3⟩,(hh.cutK 5 rfl).ds (fun _ h=>aJS _ (h))⟩
        ·refine Zl rfl<|Zl rfl<|Zl rfl<|Zl rfl<|Zl rfl<|Zad rfl ?_;exact aG fun a w hh=>⟨(false,es2,cl2,M2),⟨T4 Yk,hM2,hok2⟩,hh.cutK 5 rfl⟩
        rintro⟨bm,es3,cl3,M3⟩ ⟨hbm,hM3,hok3⟩;simp only at hbm hM3 hok3;refine L.n1<|aJ rfl (fun hc5=>?_) (fun hc5=>?_)
        ·obtain rfl:bm=true:=hc5;have hres:true=eP b (b.lines.drop i) i (⟨[c0,c1,c2,c3],[k0,k1,k2,k3],mo,mi⟩:Sc):=by rw[hdr,eP,hcd,aNI];exact(aNT.2 ⟨x,aJV hx,hbm.symm⟩).symm
         refine C.s1<|Zi rfl<|L.n1<|aR<|gE rfl<|Zah<|Zah<|Zal<|Zag<|aCX<|C.drawA [] 3 7 48 (fun _ _ _ h=>aU (P:=Tryz.prog) (fn:=Tryz.f138) _ _ _ h)<|Za rfl ?_;refine Zab rfl<|Zj rfl Tf.f259_1 rfl<|Zg 5 rfl Tf.a257 rfl hA rfl<|Zp rfl Tf.a317 rfl (List.Mem.tail _ (List.Mem.tail _ (List.Mem.head _))) Tf.s317<|Za rfl<|jC (val:=pA (n:=9)) (wal:=Value.bool) (A:=[(_,_),(_,_),(_,_)]) (B:=[]) (a:=⟨[(i:Int),min c0 1,min c1 1,min c2 1,min c3 1,min k0 1,min k1 1,min k2 1,min k3 1],rfl⟩) (n:=true) rfl U257 rK rfl rfl rfl hM3 aGL (fun es9 cl9 M9 hM9 hm9=>L.n3<|Za rfl<|Zi rfl<|L.n5 ?_);exact Zx [(_,_),(_,_),(_,_)] [] [_] [_] rfl ⟨rfl,aGL⟩ rfl (fun D' hD=>⟨aKJ Value.bool hres,es9,cl9,M9,rfl,hM9,hok3.add hm9 rfl hsi hsp rfl hres⟩)
        ·obtain rfl:bm=false:=hc5;have hgo:i7 b i (⟨[c0,c1,c2,c3],[k0,k1,k2,k3],mo,mi⟩:Sc) x=false:=hbm.symm;refine aAX<|Zak<|Zag<|C.rg<|Zy rfl<|Za rfl<|Zz ?_;exact aH 24 (k+1,es3,cl3,M3) ⟨by simp only;omega,by simp only;rw[aKL,hx,aMY,hno];simp[hgo],hM3,hok3⟩ Ym ⟨Yb,Yb,aGL⟩ rfl rfl (List.Sublist.cons _ (List.Sublist.cons _ (aJU _))) (aD)
       ·refine Zw rfl Tf.z149 rfl (fun q4=>Zz<|aP [(true,7),(false,8),(false,9),(true,10)] rfl<|Zd rfl (fun D5 hD5=>oJ _ b (⟨[c0,c1,c2,c3],[k0,k1,k2,k3],mo,mi⟩:Sc) i x _ (hb0.up (hD5 _ Ye)) rfl rfl Yaf Yaf Yd Yak Yap Yd)<|Za rfl<|Zaa rfl<|Zaa rfl<|Zz<|iA [(true,12),(false,13)] rfl<|bB hA Ye (fun hap1=>bB hB1 Ye (fun hap2=>P5 (fun hnd=>?_))));refine fV (off:=0) (us:=ints (gZ (if eF (⟨[c0,c1,c2,c3],[k0,k1,k2,k3],mo,mi⟩:Sc) x=true then(bQ b (⟨[c0,c1,c2,c3],[k0,k1,k2,k3],mo,mi⟩:Sc) i x)else(⟨[c0,c1,c2,c3],[k0,k1,k2,k3],mo,mi⟩:Sc)))) (ws:=ints (gZ (if eF (⟨[c0,c1,c2,c3],[k0,k1,k2,k3],mo,mi⟩:Sc) x=true then(bQ b (⟨[c0,c1,c2,c3],[k0,k1,k2,k3],mo,mi⟩:Sc) i x)else(⟨[c0,c1,c2,c3],[k0,k1,k2,k3],mo,mi⟩:Sc)))) rfl rfl rfl rfl (by rw[show(ints _).length=10 by simp[hif]];exact Tf.s149) .head Yaq Yaq (bP _) (aKB (dC.in_ (xY hap1 hap2 hnd))) trivial<|Zi rfl<|Zz<|hZ<|Zag<|C.s1<|Za rfl<|Za rfl<|yR (γ:=Bool×Array MapEntry×Nat×List (lA 9×Bool)) (fun g=>g.1=i7 b i (⟨[c0,c1,c2,c3],[k0,k1,k2,k3],mo,mi⟩:Sc) x∧oA pA Value.bool g.2.1 g.2.2.2∧qW b g.2.2.2) (fun g=>g.1) (fun g=>[(q4,.cells (ints (gZ (if eF (⟨[c0,c1,c2,c3],[k0,k1,k2,k3],mo,mi⟩:Sc) x=true then(bQ b (⟨[c0,c1,c2,c3],[k0,k1,k2,k3],mo,mi⟩:Sc) i x)else(⟨[c0,c1,c2,c3],[k0,k1,k2,k3],mo,mi⟩:Sc)))).toArray 149 (0,0)),(q3,.cells [.int .i64 x.kind,.int .i64 x.chair,.int .i64 x.token].toArray 133 (0,0)),(q2,.cells [.int .i64 (i:Int),.int .i64 (min c0 1),.int .i64 (min c1 1),.int .i64 (min c2 1),.int .i64 (min c3 1),.int .i64 (min k0 1),.int .i64 (min k1 1),.int .i64 (min k2 1),.int .i64 (min k3 1)].toArray 317 (0,0)),(mb,.map g.2.1 g.2.2.1)]) [(false,2),(false,3),(false,4),(false,5),(false,6),(false,7)] [] (s:=79) (p:=85) rfl rfl (fun hg1=>?_) (fun hg1=>?_) ?_
        ·have hgc:=hg1;rw[aKS hgc];refine Zb rfl<|aY (e:=149) (fz:=(0,0)) rfl Tf.a149 rfl (aNM _) (by rw[show(ints _).length=10 by simp[hnl]];exact Tf.s149) aJN rfl ⟨_,rfl,rfl⟩<|Zb rfl<|rI rfl rfl rfl Yf rfl ⟨_,rfl,rfl⟩<|aE ([(_,_),(_,_),(_,_)]++[(_,_)]++([])) rfl<|dF (A:=[(_,_),(_,_),(_,_)]) (ν:=[(_,_)]) (B:=[]) rfl rfl rfl rfl (aKP rfl) vV (fun D9 hD9=>ih (j-1) Yd (i+1) (bQ b (⟨[c0,c1,c2,c3],[k0,k1,k2,k3],mo,mi⟩:Sc) i x) es2 cl2 M2 _ Yd (sZ hbo hsb x i) (lW hsp i x) (pR hsi rfl hgc hin.2.1 (by have:=hin.2.2.1;omega)) hM2 hok2 (hb0.up (hD9 _ Ye)) (hA.up (hD9 _ Ye))) rfl ⟨_,rfl,rfl⟩ (fun v9 D10 _ hD10 hp9=>?_)
         obtain⟨rfl,es3,cl3,M3,rfl,hM3,hok3⟩:=hp9;refine Zac rfl ?_;exact aG fun a w hh=>⟨(_,es3,cl3,M3),⟨yJ Yk,hM3,hok3⟩,(hh.cutK 5 rfl).ds (fun _ h=>aJS _ (h))⟩
        ·refine Zl rfl<|Zl rfl<|Zl rfl<|Zl rfl<|Zl rfl<|Zad rfl ?_;exact aG fun a w hh=>⟨(false,es2,cl2,M2),⟨T4 Yk,hM2,hok2⟩,hh.cutK 5 rfl⟩
        rintro⟨bm,es3,cl3,M3⟩ ⟨hbm,hM3,hok3⟩;simp only at hbm hM3 hok3;refine L.n1<|aJ rfl (fun hc5=>?_) (fun hc5=>?_)
        ·obtain rfl:bm=true:=hc5;have hres:true=eP b (b.lines.drop i) i (⟨[c0,c1,c2,c3],[k0,k1,k2,k3],mo,mi⟩:Sc):=by rw[hdr,eP,hcd,aNI];exact(aNT.2 ⟨x,aJV hx,hbm.symm⟩).symm
         refine C.s1<|Zi rfl<|L.n1<|aR<|gE rfl<|Zah<|Zah<|Zal<|Zag<|aCX<|C.drawA [] 3 7 48 (fun _ _ _ h=>aU (P:=Tryz.prog) (fn:=Tryz.f138) _ _ _ h)<|Za rfl ?_;refine Zab rfl<|Zj rfl Tf.f259_1 rfl<|Zg 5 rfl Tf.a257 rfl hA rfl<|Zp rfl Tf.a317 rfl (List.Mem.tail _ (List.Mem.tail _ (List.Mem.head _))) Tf.s317<|Za rfl<|jC (val:=pA (n:=9)) (wal:=Value.bool) (A:=[(_,_),(_,_),(_,_)]) (B:=[]) (a:=⟨[(i:Int),min c0 1,min c1 1,min c2 1,min c3 1,min k0 1,min k1 1,min k2 1,min k3 1],rfl⟩) (n:=true) rfl U257 rK rfl rfl rfl hM3 aGL (fun es9 cl9 M9 hM9 hm9=>L.n3<|Za rfl<|Zi rfl<|L.n5 ?_);exact Zx [(_,_),(_,_),(_,_)] [] [_] [_] rfl ⟨rfl,aGL⟩ rfl (fun D' hD=>⟨aKJ Value.bool hres,es9,cl9,M9,rfl,hM9,hok3.add hm9 rfl hsi hsp rfl hres⟩)
        ·obtain rfl:bm=false:=hc5;have hgo:i7 b i (⟨[c0,c1,c2,c3],[k0,k1,k2,k3],mo,mi⟩:Sc) x=false:=hbm.symm;refine aAX<|Zak<|Zag<|C.rg<|Zy rfl<|Za rfl<|Zz ?_;exact aH 24 (k+1,es3,cl3,M3) ⟨by simp only;omega,by simp only;rw[aKL,hx,aMY,hno];simp[hgo],hM3,hok3⟩ Ym ⟨Yb,Yb,aGL⟩ rfl rfl (List.Sublist.cons _ (List.Sublist.cons _ (aJU _))) (aD)
      ·obtain rfl:k=(bN b.chairs z).length:=by simp only at hc4;omega
       rw[aLL]at hno;have hres:false=eP b (b.lines.drop i) i (⟨[c0,c1,c2,c3],[k0,k1,k2,k3],mo,mi⟩:Sc):=by rw[hdr,eP,hcd];exact hno.symm
       refine aR<|Zah<|Zah<|Zal<|Zag<|aCX<|C.drawA [] 3 7 48 (fun _ _ _ h=>aU (P:=Tryz.prog) (fn:=Tryz.f138) _ _ _ h)<|Za rfl<|Zab rfl<|Zj rfl Tf.f259_1 rfl<|Zg 5 rfl Tf.a257 rfl hA rfl<|Zp rfl Tf.a317 rfl (List.Mem.head _) Tf.s317 ?_;refine Za rfl<|jC (val:=pA (n:=9)) (wal:=Value.bool) (A:=[(_,_)]) (B:=[]) (a:=⟨[(i:Int),min c0 1,min c1 1,min c2 1,min c3 1,min k0 1,min k1 1,min k2 1,min k3 1],rfl⟩) (n:=false) rfl U257 rK rfl rfl rfl hM2 aGL (fun es9 cl9 M9 hM9 hm9=>L.n3<|Za rfl<|Zi rfl<|L.n5 ?_);exact Zx [(_,_)] [] [_] [_] rfl ⟨rfl,aGL⟩ rfl (fun D' hD=>⟨aKJ Value.bool hres,es9,cl9,M9,rfl,hM9,hok2.add hm9 rfl hsi hsp rfl hres⟩)
    ·refine Zw rfl Tf.z317 rfl (fun q2=>Zz<|aP [(true,6),(false,7)] rfl<|Zd rfl (fun D3 hD3=>K9 [k0,k1,k2,k3] _ rfl)<|hG (cs:=[.int .i64 (i:Int),.int .i64 (min c0 1),.int .i64 (min c1 1),.int .i64 (min c2 1),.int .i64 (min c3 1),.int .i64 (min k0 1),.int .i64 (min k1 1),.int .i64 (min k2 1),.int .i64 (min k3 1)]) rfl Tf.p317 Tf.z317 rfl Yg rfl trivial<|Zz<|iA [(false,9)] rfl<|Zu rfl Tf.s317 (bO.head)<|Zz<|hZ<|Zag<|aCX ?_);refine C.drawA [] 6 11 784 (fun _ _ _ h=>aU (P:=Tryz.prog) (fn:=Tryz.f138) _ _ _ h)<|Za rfl<|Zab rfl<|Zj rfl Tf.f259_1 rfl<|Zg 5 rfl Tf.a257 rfl hA rfl<|Zp rfl Tf.a317 rfl (List.Mem.head _) Tf.s317<|xS (val:=pA (n:=9)) (wal:=Value.bool) (a:=⟨[(i:Int),min c0 1,min c1 1,min c2 1,min c3 1,min k0 1,min k1 1,min k2 1,min k3 1],rfl⟩) rfl U257 rK Tf.z4 rfl rfl (aJS _ (aNM _)) aJN hM rfl aGL (fun nv ok hin hout=>Za rfl<|Zaa rfl<|Zaa rfl<|Zi rfl<|Zi rfl ?_);refine L.n4<|Za rfl<|L.n1<|aJ rfl (fun hc3=>?_) (fun hc3=>?_)
     ·obtain⟨r,rfl,hmem⟩:=hin hc3;refine C.s1<|Za rfl<|Zi rfl<|L.n5<|Zaj ?_;exact Zx [(_,_)] [] [_] [_] rfl ⟨rfl,aGL⟩ rfl (fun D' hD=>⟨aKJ Value.bool (hok _ hmem i (⟨[c0,c1,c2,c3],[k0,k1,k2,k3],mo,mi⟩:Sc) hsi hsp rfl rfl),es,cl,Mm,rfl,hM,hok⟩)
     ·obtain rfl:=hout hc3;refine C.kn<|aCX<|aCX<|iH [] 3 [0,1,2,3,4,5,6,7,8,9,10,11,14,12,13] [false,false,false,false,true,true,true,true,true,true,true,true,true,true,true] [(false,0),(false,1),(false,2),(false,3),(true,4),(true,5),(true,6),(true,7),(true,8),(true,9),(true,10),(true,11),(true,14),(true,12),(true,13)] Tf.follows (fun _ _ _ h=>aU (P:=Tryz.prog) (fn:=Tryz.f138) _ _ _ h) Yg rfl<|Za rfl<|Zab rfl<|Zj rfl Tf.f259_0 rfl<|dO rfl (k:=0) Tf.a36 Tf.s36 rfl hA Yc rfl rfl aJN rfl trivial<|Za rfl<|Zab rfl<|Zj rfl Tf.f259_0 rfl<|Zj rfl Tf.f36_3 rfl ?_;refine Zg 3 rfl Tf.a33 rfl hA rfl<|Za rfl<|Zt rfl U33 Tf.s133 rfl hl rfl hz (fun b1 o1 cs1 hr1 hcl1 hA1=>?_);obtain rfl:cs1=[.int .i64 _,.int .i64 _,.int .i64 _]:=hr1;refine Zs rfl Tf.a133 rfl hA1 Tf.s133<|Za rfl<|bU rfl rfl rfl (fun D4 hD4=>lU _ b z _ (hb0.up (hD4 _ Ye)) Yd) rfl aGL (fun v4 D4 hD4 hp4=>?_);have hr:=hp4;have hrl:=hr.len;refine aW rfl U33 rfl Yk rfl rfl trivial<|L.n1<|Zai<|cE (γ:=Nat×Array MapEntry×Nat×List (lA 9×Bool)) (fun g=>(bN b.chairs z).length-g.1) (fun g=>g.1≤(bN b.chairs z).length∧((bN b.chairs z).take g.1).any (fun r=>i7 b i (⟨[c0,c1,c2,c3],[k0,k1,k2,k3],mo,mi⟩:Sc) r)=false∧oA pA Value.bool g.2.1 g.2.2.2∧qW b g.2.2.2) (fun g=>[(63,.int .i64 (g.1:Int)),(8,.bool false)]) [(62,_),(61,_),(7,_),(6,_),(4,_),(0,_),(2,_)] (fun g=>[(q2,.cells [.int .i64 (i:Int),.int .i64 (min c0 1),.int .i64 (min c1 1),.int .i64 (min c2 1),.int .i64 (min c3 1),.int .i64 (min k0 1),.int .i64 (min k1 1),.int .i64 (min k2 1),.int .i64 (min k3 1)].toArray 317 (0,0)),(mb,.map g.2.1 g.2.2.1)]) (fun g=>[D4,E1,D]) (0,es,cl,Mm) ⟨by simp,rfl,hM,hok⟩ ⟨Yb,Yb,aGL⟩ C.rs (aJU _) (aD) ?_;rintro⟨k,es2,cl2,M2⟩ ⟨h1,hno,hM2,hok2⟩;simp only at h1 hno hM2 hok2;refine C.s1<|Zae rfl<|L.n2<|aF rfl (fun hc4=>?_) (fun hc4=>?_)
      ·simp only at hc4;obtain⟨x,hx⟩:∃x,(bN b.chairs z)[k]?= some x:=⟨_,aJT Yd⟩
       have hin:=((mU (hbo.ln z (aJV hz))).1 (aJV hx)).1;refine C.kn<|aCX<|Zai<|C.s1<|Zt rfl U33 Tf.s133 rfl hr rfl hx (fun b2 o2 cs2 hr2 hcl2 hA2=>?_);obtain rfl:cs2=[.int .i64 _,.int .i64 _,.int .i64 _]:=hr2;refine Zs rfl Tf.a133 rfl hA2 Tf.s133<|Zw rfl Tf.z133 rfl (fun q3=>Zu rfl Tf.s133 (bO.head)<|L.n2 ?_);have hif:(gZ (if eF (⟨[c0,c1,c2,c3],[k0,k1,k2,k3],mo,mi⟩:Sc) x=true then(bQ b (⟨[c0,c1,c2,c3],[k0,k1,k2,k3],mo,mi⟩:Sc) i x)else(⟨[c0,c1,c2,c3],[k0,k1,k2,k3],mo,mi⟩:Sc))).length=10:=by split;exact uT rfl rfl;rfl
       have hnl:(gZ (bQ b (⟨[c0,c1,c2,c3],[k0,k1,k2,k3],mo,mi⟩:Sc) i x)).length=10:=uT rfl rfl;refine jU (dC.mk [wb,q1,q3]) 6 [false,false,false,false,true,true,true,true,false,false,true,true,true,false] [.fork [0,1,2,3,4,5,6] 7 (.fin [8,9,10,11]) 11 (.fin [7,8,9,10]),.fin [12,13]] Tf.follows (fun _ _ _ h=>aU (P:=Tryz.prog) (fn:=Tryz.f138) _ _ _ h) Yg<|mE<|bG [(false,0),(false,1),(false,2),(false,3),(true,4),(true,5),(true,6)] rfl<|Za rfl<|Zab rfl<|Zj rfl Tf.f259_0 rfl<|dO rfl (k:=0) Tf.a36 Tf.s36 rfl hA Yc rfl rfl (dC.out Ye) rfl trivial<|cO rfl Tf.a149 rfl hB1 Yj Tf.s149 (dC.out Ye) rfl trivial<|Za rfl<|aY rfl Tf.a133 rfl (List.Mem.head _) Tf.s133 (dC.out Ye) rfl trivial<|Zz (cY true true rfl rfl ?_ ?_)
       ·refine Zd rfl (fun D5 hD5=>oJ _ b (⟨[c0,c1,c2,c3],[k0,k1,k2,k3],mo,mi⟩:Sc) i x _ (hb0.up (hD5 _ Ye)) rfl rfl Yaf Yaf Yd Yak Yap Yd)<|Zz<|aP [(false,8),(false,9),(true,10),(true,11)] rfl<|Za rfl<|Zaa rfl<|Zaa rfl<|Zw rfl Tf.z149 rfl (fun q4=>Zz<|iA [(true,12),(false,13)] rfl<|bB hA Ye (fun hap1=>bB hB1 Ye (fun hap2=>P5 (fun hnd=>?_))));refine fV (off:=0) (us:=ints (gZ (if eF (⟨[c0,c1,c2,c3],[k0,k1,k2,k3],mo,mi⟩:Sc) x=true then(bQ b (⟨[c0,c1,c2,c3],[k0,k1,k2,k3],mo,mi⟩:Sc) i x)else(⟨[c0,c1,c2,c3],[k0,k1,k2,k3],mo,mi⟩:Sc)))) (ws:=ints (gZ (if eF (⟨[c0,c1,c2,c3],[k0,k1,k2,k3],mo,mi⟩:Sc) x=true then(bQ b (⟨[c0,c1,c2,c3],[k0,k1,k2,k3],mo,mi⟩:Sc) i x)else(⟨[c0,c1,c2,c3],[k0,k1,k2,k3],mo,mi⟩:Sc)))) rfl rfl rfl rfl (by rw[show(ints _).length=10 by simp[hif]];exact Tf.s149) .head Yaq Yaq (bP _) (aKB (dC.in_ (xY hap1 hap2 hnd))) trivial<|Zi rfl<|Zz<|hZ<|Zag<|C.s1<|Za rfl<|Za rfl<|yR (γ:=Bool×Array MapEntry×Nat×List (lA 9×Bool)) (fun g=>g.1=i7 b i (⟨[c0,c1,c2,c3],[k0,k1,k2,k3],mo,mi⟩:Sc) x∧oA pA Value.bool g.2.1 g.2.2.2∧qW b g.2.2.2) (fun g=>g.1) (fun g=>[(q4,.cells (ints (gZ (if eF (⟨[c0,c1,c2,c3],[k0,k1,k2,k3],mo,mi⟩:Sc) x=true then(bQ b (⟨[c0,c1,c2,c3],[k0,k1,k2,k3],mo,mi⟩:Sc) i x)else(⟨[c0,c1,c2,c3],[k0,k1,k2,k3],mo,mi⟩:Sc)))).toArray 149 (0,0)),(q3,.cells [.int .i64 x.kind,.int .i64 x.chair,.int .i64 x.token].toArray 133 (0,0)),(q2,.cells [.int .i64 (i:Int),.int .i64 (min c0 1),.int .i64 (min c1 1),.int .i64 (min c2 1),.int .i64 (min c3 1),.int .i64 (min k0 1),.int .i64 (min k1 1),.int .i64 (min k2 1),.int .i64 (min k3 1)].toArray 317 (0,0)),(mb,.map g.2.1 g.2.2.1)]) [(false,2),(false,3),(false,4),(false,5),(false,6),(false,7)] [] (s:=79) (p:=85) rfl rfl (fun hg1=>?_) (fun hg1=>?_) ?_
        ·have hgc:=hg1;rw[aKS hgc];refine Zb rfl<|aY (e:=149) (fz:=(0,0)) rfl Tf.a149 rfl (aNM _) (by rw[show(ints _).length=10 by simp[hnl]];exact Tf.s149) aJN rfl ⟨_,rfl,rfl⟩<|Zb rfl<|rI rfl rfl rfl Yf rfl ⟨_,rfl,rfl⟩<|aE ([(_,_),(_,_),(_,_)]++[(_,_)]++([])) rfl<|dF (A:=[(_,_),(_,_),(_,_)]) (ν:=[(_,_)]) (B:=[]) rfl rfl rfl rfl (aKP rfl) vV (fun D9 hD9=>ih (j-1) Yd (i+1) (bQ b (⟨[c0,c1,c2,c3],[k0,k1,k2,k3],mo,mi⟩:Sc) i x) es2 cl2 M2 _ Yd (sZ hbo hsb x i) (lW hsp i x) (pR hsi rfl hgc hin.2.1 (by have:=hin.2.2.1;omega)) hM2 hok2 (hb0.up (hD9 _ Ye)) (hA.up (hD9 _ Ye))) rfl ⟨_,rfl,rfl⟩ (fun v9 D10 _ hD10 hp9=>?_)
         obtain⟨rfl,es3,cl3,M3,rfl,hM3,hok3⟩:=hp9;refine Zac rfl ?_;exact aG fun a w hh=>⟨(_,es3,cl3,M3),⟨yJ Yk,hM3,hok3⟩,(hh.cutK 5 rfl).ds (fun _ h=>aJS _ (h))⟩
        ·refine Zl rfl<|Zl rfl<|Zl rfl<|Zl rfl<|Zl rfl<|Zad rfl ?_;exact aG fun a w hh=>⟨(false,es2,cl2,M2),⟨T4 Yk,hM2,hok2⟩,hh.cutK 5 rfl⟩
        rintro⟨bm,es3,cl3,M3⟩ ⟨hbm,hM3,hok3⟩;simp only at hbm hM3 hok3;refine L.n1<|aJ rfl (fun hc5=>?_) (fun hc5=>?_)
        ·obtain rfl:bm=true:=hc5;have hres:true=eP b (b.lines.drop i) i (⟨[c0,c1,c2,c3],[k0,k1,k2,k3],mo,mi⟩:Sc):=by rw[hdr,eP,hcd,aNI];exact(aNT.2 ⟨x,aJV hx,hbm.symm⟩).symm
         refine C.s1<|Zi rfl<|L.n1<|aR<|gE rfl<|Zah<|Zah<|Zal<|Zag<|aCX<|C.drawA [] 3 7 48 (fun _ _ _ h=>aU (P:=Tryz.prog) (fn:=Tryz.f138) _ _ _ h)<|Za rfl ?_;refine Zab rfl<|Zj rfl Tf.f259_1 rfl<|Zg 5 rfl Tf.a257 rfl hA rfl<|Zp rfl Tf.a317 rfl (List.Mem.tail _ (List.Mem.tail _ (List.Mem.head _))) Tf.s317<|Za rfl<|jC (val:=pA (n:=9)) (wal:=Value.bool) (A:=[(_,_),(_,_),(_,_)]) (B:=[]) (a:=⟨[(i:Int),min c0 1,min c1 1,min c2 1,min c3 1,min k0 1,min k1 1,min k2 1,min k3 1],rfl⟩) (n:=true) rfl U257 rK rfl rfl rfl hM3 aGL (fun es9 cl9 M9 hM9 hm9=>L.n3<|Za rfl<|Zi rfl<|L.n5 ?_);exact Zx [(_,_),(_,_),(_,_)] [] [_] [_] rfl ⟨rfl,aGL⟩ rfl (fun D' hD=>⟨aKJ Value.bool hres,es9,cl9,M9,rfl,hM9,hok3.add hm9 rfl hsi hsp rfl hres⟩)
        ·obtain rfl:bm=false:=hc5;have hgo:i7 b i (⟨[c0,c1,c2,c3],[k0,k1,k2,k3],mo,mi⟩:Sc) x=false:=hbm.symm;refine aAX<|Zak<|Zag<|C.rg<|Zy rfl<|Za rfl<|Zz ?_;exact aH 24 (k+1,es3,cl3,M3) ⟨by simp only;omega,by simp only;rw[aKL,hx,aMY,hno];simp[hgo],hM3,hok3⟩ Ym ⟨Yb,Yb,aGL⟩ rfl rfl (List.Sublist.cons _ (List.Sublist.cons _ (aJU _))) (aD)
       ·refine Zw rfl Tf.z149 rfl (fun q4=>Zz<|aP [(true,7),(false,8),(false,9),(true,10)] rfl<|Zd rfl (fun D5 hD5=>oJ _ b (⟨[c0,c1,c2,c3],[k0,k1,k2,k3],mo,mi⟩:Sc) i x _ (hb0.up (hD5 _ Ye)) rfl rfl Yaf Yaf Yd Yak Yap Yd)<|Za rfl<|Zaa rfl<|Zaa rfl<|Zz<|iA [(true,12),(false,13)] rfl<|bB hA Ye (fun hap1=>bB hB1 Ye (fun hap2=>P5 (fun hnd=>?_))));refine fV (off:=0) (us:=ints (gZ (if eF (⟨[c0,c1,c2,c3],[k0,k1,k2,k3],mo,mi⟩:Sc) x=true then(bQ b (⟨[c0,c1,c2,c3],[k0,k1,k2,k3],mo,mi⟩:Sc) i x)else(⟨[c0,c1,c2,c3],[k0,k1,k2,k3],mo,mi⟩:Sc)))) (ws:=ints (gZ (if eF (⟨[c0,c1,c2,c3],[k0,k1,k2,k3],mo,mi⟩:Sc) x=true then(bQ b (⟨[c0,c1,c2,c3],[k0,k1,k2,k3],mo,mi⟩:Sc) i x)else(⟨[c0,c1,c2,c3],[k0,k1,k2,k3],mo,mi⟩:Sc)))) rfl rfl rfl rfl (by rw[show(ints _).length=10 by simp[hif]];exact Tf.s149) .head Yaq Yaq (bP _) (aKB (dC.in_ (xY hap1 hap2 hnd))) trivial<|Zi rfl<|Zz<|hZ<|Zag<|C.s1<|Za rfl<|Za rfl<|yR (γ:=Bool×Array MapEntry×Nat×List (lA 9×Bool)) (fun g=>g.1=i7 b i (⟨[c0,c1,c2,c3],[k0,k1,k2,k3],mo,mi⟩:Sc) x∧oA pA Value.bool g.2.1 g.2.2.2∧qW b g.2.2.2) (fun g=>g.1) (fun g=>[(q4,.cells (ints (gZ (if eF (⟨[c0,c1,c2,c3],[k0,k1,k2,k3],mo,mi⟩:Sc) x=true then(bQ b (⟨[c0,c1,c2,c3],[k0,k1,k2,k3],mo,mi⟩:Sc) i x)else(⟨[c0,c1,c2,c3],[k0,k1,k2,k3],mo,mi⟩:Sc)))).toArray 149 (0,0)),(q3,.cells [.int .i64 x.kind,.int .i64 x.chair,.int .i64 x.token].toArray 133 (0,0)),(q2,.cells [.int .i64 (i:Int),.int .i64 (min c0 1),.int .i64 (min c1 1),.int .i64 (min c2 1),.int .i64 (min c3 1),.int .i64 (min k0 1),.int .i64 (min k1 1),.int .i64 (min k2 1),.int .i64 (min k3 1)].toArray 317 (0,0)),(mb,.map g.2.1 g.2.2.1)]) [(false,2),(false,3),(false,4),(false,5),(false,6),(false,7)] [] (s:=79) (p:=85) rfl rfl (fun hg1=>?_) (fun hg1=>?_) ?_
        ·have hgc:=hg1;rw[aKS hgc];refine Zb rfl<|aY (e:=149) (fz:=(0,0)) rfl Tf.a149 rfl (aNM _) (by rw[show(ints _).length=10 by simp[hnl]];exact Tf.s149) aJN rfl ⟨_,rfl,rfl⟩<|Zb rfl<|rI rfl rfl rfl Yf rfl ⟨_,rfl,rfl⟩<|aE ([(_,_),(_,_),(_,_)]++[(_,_)]++([])) rfl<|dF (A:=[(_,_),(_,_),(_,_)]) (ν:=[(_,_)]) (B:=[]) rfl rfl rfl rfl (aKP rfl) vV (fun D9 hD9=>ih (j-1) Yd (i+1) (bQ b (⟨[c0,c1,c2,c3],[k0,k1,k2,k3],mo,mi⟩:Sc) i x) es2 cl2 M2 _ Yd (sZ hbo hsb x i) (lW hsp i x) (pR hsi rfl hgc hin.2.1 (by have:=hin.2.2.1;omega)) hM2 hok2 (hb0.up (hD9 _ Ye)) (hA.up (hD9 _ Ye))) rfl ⟨_,rfl,rfl⟩ (fun v9 D10 _ hD10 hp9=>?_)
         obtain⟨rfl,es3,cl3,M3,rfl,hM3,hok3⟩:=hp9;refine Zac rfl ?_;exact aG fun a w hh=>⟨(_,es3,cl3,M3),⟨yJ Yk,hM3,hok3⟩,(hh.cutK 5 rfl).ds (fun _ h=>aJS _ (h))⟩
        ·refine Zl rfl<|Zl rfl<|Zl rfl<|Zl rfl<|Zl rfl<|Zad rfl ?_;exact aG fun a w hh=>⟨(false,es2,cl2,M2),⟨T4 Yk,hM2,hok2⟩,hh.cutK 5 rfl⟩
        rintro⟨bm,es3,cl3,M3⟩ ⟨hbm,hM3,hok3⟩;simp only at hbm hM3 hok3;refine L.n1<|aJ rfl (fun hc5=>?_) (fun hc5=>?_)
        ·obtain rfl:bm=true:=hc5;have hres:true=eP b (b.lines.drop i) i (⟨[c0,c1,c2,c3],[k0,k1,k2,k3],mo,mi⟩:Sc):=by rw[hdr,eP,hcd,aNI];exact(aNT.2 ⟨x,aJV hx,hbm.symm⟩).symm
         refine C.s1<|Zi rfl<|L.n1<|aR<|gE rfl<|Zah<|Zah<|Zal<|Zag<|aCX<|C.drawA [] 3 7 48 (fun _ _ _ h=>aU (P:=Tryz.prog) (fn:=Tryz.f138) _ _ _ h)<|Za rfl ?_;refine Zab rfl<|Zj rfl Tf.f259_1 rfl<|Zg 5 rfl Tf.a257 rfl hA rfl<|Zp rfl Tf.a317 rfl (List.Mem.tail _ (List.Mem.tail _ (List.Mem.head _))) Tf.s317<|Za rfl<|jC (val:=pA (n:=9)) (wal:=Value.bool) (A:=[(_,_),(_,_),(_,_)]) (B:=[]) (a:=⟨[(i:Int),min c0 1,min c1 1,min c2 1,min c3 1,min k0 1,min k1 1,min k2 1,min k3 1],rfl⟩) (n:=true) rfl U257 rK rfl rfl rfl hM3 aGL (fun es9 cl9 M9 hM9 hm9=>L.n3<|Za rfl<|Zi rfl<|L.n5 ?_);exact Zx [(_,_),(_,_),(_,_)] [] [_] [_] rfl ⟨rfl,aGL⟩ rfl (fun D' hD=>⟨aKJ Value.bool hres,es9,cl9,M9,rfl,hM9,hok3.add hm9 rfl hsi hsp rfl hres⟩)
        ·obtain rfl:bm=false:=hc5;have hgo:i7 b i (⟨[c0,c1,c2,c3],[k0,k1,k2,k3],mo,mi⟩:Sc) x=false:=hbm.symm;refine aAX<|Zak<|Zag<|C.rg<|Zy rfl<|Za rfl<|Zz ?_;exact aH 24 (k+1,es3,cl3,M3) ⟨by simp only;omega,by simp only;rw[aKL,hx,aMY,hno];simp[hgo],hM3,hok3⟩ Ym ⟨Yb,Yb,aGL⟩ rfl rfl (List.Sublist.cons _ (List.Sublist.cons _ (aJU _))) (aD)
      ·obtain rfl:k=(bN b.chairs z).length:=by simp only at hc4;omega
       rw[aLL]at hno;have hres:false=eP b (b.lines.drop i) i (⟨[c0,c1,c2,c3],[k0,k1,k2,k3],mo,mi⟩:Sc):=by rw[hdr,eP,hcd];exact hno.symm
       refine aR<|Zah<|Zah<|Zal<|Zag<|aCX<|C.drawA [] 3 7 48 (fun _ _ _ h=>aU (P:=Tryz.prog) (fn:=Tryz.f138) _ _ _ h)<|Za rfl<|Zab rfl<|Zj rfl Tf.f259_1 rfl<|Zg 5 rfl Tf.a257 rfl hA rfl<|Zp rfl Tf.a317 rfl (List.Mem.head _) Tf.s317 ?_;refine Za rfl<|jC (val:=pA (n:=9)) (wal:=Value.bool) (A:=[(_,_)]) (B:=[]) (a:=⟨[(i:Int),min c0 1,min c1 1,min c2 1,min c3 1,min k0 1,min k1 1,min k2 1,min k3 1],rfl⟩) (n:=false) rfl U257 rK rfl rfl rfl hM2 aGL (fun es9 cl9 M9 hM9 hm9=>L.n3<|Za rfl<|Zi rfl<|L.n5 ?_);exact Zx [(_,_)] [] [_] [_] rfl ⟨rfl,aGL⟩ rfl (fun D' hD=>⟨aKJ Value.bool hres,es9,cl9,M9,rfl,hM9,hok2.add hm9 rfl hsi hsp rfl hres⟩)
   ·refine Zw rfl Tf.z317 rfl (fun q2=>Zz<|aP [(true,3),(true,6),(false,7)] rfl<|Zd rfl (fun D2 hD2=>K9 [c0,c1,c2,c3] _ rfl)<|Zd rfl (fun D3 hD3=>K9 [k0,k1,k2,k3] _ rfl)<|hG (cs:=[.int .i64 (i:Int),.int .i64 (min c0 1),.int .i64 (min c1 1),.int .i64 (min c2 1),.int .i64 (min c3 1),.int .i64 (min k0 1),.int .i64 (min k1 1),.int .i64 (min k2 1),.int .i64 (min k3 1)]) rfl Tf.p317 Tf.z317 rfl Yg rfl trivial<|Zz<|iA [(false,9)] rfl<|Zu rfl Tf.s317 (bO.head)<|Zz<|hZ<|Zag ?_);refine aCX<|C.drawA [] 6 11 784 (fun _ _ _ h=>aU (P:=Tryz.prog) (fn:=Tryz.f138) _ _ _ h)<|Za rfl<|Zab rfl<|Zj rfl Tf.f259_1 rfl<|Zg 5 rfl Tf.a257 rfl hA rfl<|Zp rfl Tf.a317 rfl (List.Mem.head _) Tf.s317<|xS (val:=pA (n:=9)) (wal:=Value.bool) (a:=⟨[(i:Int),min c0 1,min c1 1,min c2 1,min c3 1,min k0 1,min k1 1,min k2 1,min k3 1],rfl⟩) rfl U257 rK Tf.z4 rfl rfl (aJS _ (aNM _)) aJN hM rfl aGL (fun nv ok hin hout=>Za rfl<|Zaa rfl<|Zaa rfl<|Zi rfl ?_);refine Zi rfl<|L.n4<|Za rfl<|L.n1<|aJ rfl (fun hc3=>?_) (fun hc3=>?_)
    ·obtain⟨r,rfl,hmem⟩:=hin hc3;refine C.s1<|Za rfl<|Zi rfl<|L.n5<|Zaj ?_;exact Zx [(_,_)] [] [_] [_] rfl ⟨rfl,aGL⟩ rfl (fun D' hD=>⟨aKJ Value.bool (hok _ hmem i (⟨[c0,c1,c2,c3],[k0,k1,k2,k3],mo,mi⟩:Sc) hsi hsp rfl rfl),es,cl,Mm,rfl,hM,hok⟩)
    ·obtain rfl:=hout hc3;refine C.kn<|aCX<|aCX<|iH [] 3 [0,1,2,3,4,5,6,7,8,9,10,11,14,12,13] [false,false,false,false,true,true,true,true,true,true,true,true,true,true,true] [(false,0),(false,1),(false,2),(false,3),(true,4),(true,5),(true,6),(true,7),(true,8),(true,9),(true,10),(true,11),(true,14),(true,12),(true,13)] Tf.follows (fun _ _ _ h=>aU (P:=Tryz.prog) (fn:=Tryz.f138) _ _ _ h) Yg rfl<|Za rfl<|Zab rfl<|Zj rfl Tf.f259_0 rfl<|dO rfl (k:=0) Tf.a36 Tf.s36 rfl hA Yc rfl rfl aJN rfl trivial<|Za rfl<|Zab rfl<|Zj rfl Tf.f259_0 rfl<|Zj rfl Tf.f36_3 rfl ?_;refine Zg 3 rfl Tf.a33 rfl hA rfl<|Za rfl<|Zt rfl U33 Tf.s133 rfl hl rfl hz (fun b1 o1 cs1 hr1 hcl1 hA1=>?_);obtain rfl:cs1=[.int .i64 _,.int .i64 _,.int .i64 _]:=hr1;refine Zs rfl Tf.a133 rfl hA1 Tf.s133<|Za rfl<|bU rfl rfl rfl (fun D4 hD4=>lU _ b z _ (hb0.up (hD4 _ Ye)) Yd) rfl aGL (fun v4 D4 hD4 hp4=>?_);have hr:=hp4;have hrl:=hr.len;refine aW rfl U33 rfl Yk rfl rfl trivial<|L.n1<|Zai<|cE (γ:=Nat×Array MapEntry×Nat×List (lA 9×Bool)) (fun g=>(bN b.chairs z).length-g.1) (fun g=>g.1≤(bN b.chairs z).length∧((bN b.chairs z).take g.1).any (fun r=>i7 b i (⟨[c0,c1,c2,c3],[k0,k1,k2,k3],mo,mi⟩:Sc) r)=false∧oA pA Value.bool g.2.1 g.2.2.2∧qW b g.2.2.2) (fun g=>[(63,.int .i64 (g.1:Int)),(8,.bool false)]) [(62,_),(61,_),(7,_),(6,_),(4,_),(0,_),(2,_)] (fun g=>[(q2,.cells [.int .i64 (i:Int),.int .i64 (min c0 1),.int .i64 (min c1 1),.int .i64 (min c2 1),.int .i64 (min c3 1),.int .i64 (min k0 1),.int .i64 (min k1 1),.int .i64 (min k2 1),.int .i64 (min k3 1)].toArray 317 (0,0)),(mb,.map g.2.1 g.2.2.1)]) (fun g=>[D4,E1,D]) (0,es,cl,Mm) ⟨by simp,rfl,hM,hok⟩ ⟨Yb,Yb,aGL⟩ C.rs (aJU _) (aD) ?_;rintro⟨k,es2,cl2,M2⟩ ⟨h1,hno,hM2,hok2⟩;simp only at h1 hno hM2 hok2;refine C.s1<|Zae rfl<|L.n2<|aF rfl (fun hc4=>?_) (fun hc4=>?_)
     ·simp only at hc4;obtain⟨x,hx⟩:∃x,(bN b.chairs z)[k]?= some x:=⟨_,aJT Yd⟩
      have hin:=((mU (hbo.ln z (aJV hz))).1 (aJV hx)).1;refine C.kn<|aCX<|Zai<|C.s1<|Zt rfl U33 Tf.s133 rfl hr rfl hx (fun b2 o2 cs2 hr2 hcl2 hA2=>?_);obtain rfl:cs2=[.int .i64 _,.int .i64 _,.int .i64 _]:=hr2;refine Zs rfl Tf.a133 rfl hA2 Tf.s133<|Zw rfl Tf.z133 rfl (fun q3=>Zu rfl Tf.s133 (bO.head)<|L.n2 ?_);have hif:(gZ (if eF (⟨[c0,c1,c2,c3],[k0,k1,k2,k3],mo,mi⟩:Sc) x=true then(bQ b (⟨[c0,c1,c2,c3],[k0,k1,k2,k3],mo,mi⟩:Sc) i x)else(⟨[c0,c1,c2,c3],[k0,k1,k2,k3],mo,mi⟩:Sc))).length=10:=by split;exact uT rfl rfl;rfl
      have hnl:(gZ (bQ b (⟨[c0,c1,c2,c3],[k0,k1,k2,k3],mo,mi⟩:Sc) i x)).length=10:=uT rfl rfl;refine jU (dC.mk [wb,q1,q3]) 6 [false,false,false,false,true,true,true,true,false,false,true,true,true,false] [.fork [0,1,2,3,4,5,6] 7 (.fin [8,9,10,11]) 11 (.fin [7,8,9,10]),.fin [12,13]] Tf.follows (fun _ _ _ h=>aU (P:=Tryz.prog) (fn:=Tryz.f138) _ _ _ h) Yg<|mE<|bG [(false,0),(false,1),(false,2),(false,3),(true,4),(true,5),(true,6)] rfl<|Za rfl<|Zab rfl<|Zj rfl Tf.f259_0 rfl<|dO rfl (k:=0) Tf.a36 Tf.s36 rfl hA Yc rfl rfl (dC.out Ye) rfl trivial<|cO rfl Tf.a149 rfl hB1 Yj Tf.s149 (dC.out Ye) rfl trivial<|Za rfl<|aY rfl Tf.a133 rfl (List.Mem.head _) Tf.s133 (dC.out Ye) rfl trivial<|Zz (cY true true rfl rfl ?_ ?_)
      ·refine Zd rfl (fun D5 hD5=>oJ _ b (⟨[c0,c1,c2,c3],[k0,k1,k2,k3],mo,mi⟩:Sc) i x _ (hb0.up (hD5 _ Ye)) rfl rfl Yaf Yaf Yd Yak Yap Yd)<|Zz<|aP [(false,8),(false,9),(true,10),(true,11)] rfl<|Za rfl<|Zaa rfl<|Zaa rfl<|Zw rfl Tf.z149 rfl (fun q4=>Zz<|iA [(true,12),(false,13)] rfl<|bB hA Ye (fun hap1=>bB hB1 Ye (fun hap2=>P5 (fun hnd=>?_))));refine fV (off:=0) (us:=ints (gZ (if eF (⟨[c0,c1,c2,c3],[k0,k1,k2,k3],mo,mi⟩:Sc) x=true then(bQ b (⟨[c0,c1,c2,c3],[k0,k1,k2,k3],mo,mi⟩:Sc) i x)else(⟨[c0,c1,c2,c3],[k0,k1,k2,k3],mo,mi⟩:Sc)))) (ws:=ints (gZ (if eF (⟨[c0,c1,c2,c3],[k0,k1,k2,k3],mo,mi⟩:Sc) x=true then(bQ b (⟨[c0,c1,c2,c3],[k0,k1,k2,k3],mo,mi⟩:Sc) i x)else(⟨[c0,c1,c2,c3],[k0,k1,k2,k3],mo,mi⟩:Sc)))) rfl rfl rfl rfl (by rw[show(ints _).length=10 by simp[hif]];exact Tf.s149) .head Yaq Yaq (bP _) (aKB (dC.in_ (xY hap1 hap2 hnd))) trivial<|Zi rfl<|Zz<|hZ<|Zag<|C.s1<|Za rfl<|Za rfl<|yR (γ:=Bool×Array MapEntry×Nat×List (lA 9×Bool)) (fun g=>g.1=i7 b i (⟨[c0,c1,c2,c3],[k0,k1,k2,k3],mo,mi⟩:Sc) x∧oA pA Value.bool g.2.1 g.2.2.2∧qW b g.2.2.2) (fun g=>g.1) (fun g=>[(q4,.cells (ints (gZ (if eF (⟨[c0,c1,c2,c3],[k0,k1,k2,k3],mo,mi⟩:Sc) x=true then(bQ b (⟨[c0,c1,c2,c3],[k0,k1,k2,k3],mo,mi⟩:Sc) i x)else(⟨[c0,c1,c2,c3],[k0,k1,k2,k3],mo,mi⟩:Sc)))).toArray 149 (0,0)),(q3,.cells [.int .i64 x.kind,.int .i64 x.chair,.int .i64 x.token].toArray 133 (0,0)),(q2,.cells [.int .i64 (i:Int),.int .i64 (min c0 1),.int .i64 (min c1 1),.int .i64 (min c2 1),.int .i64 (min c3 1),.int .i64 (min k0 1),.int .i64 (min k1 1),.int .i64 (min k2 1),.int .i64 (min k3 1)].toArray 317 (0,0)),(mb,.map g.2.1 g.2.2.1)]) [(false,2),(false,3),(false,4),(false,5),(false,6),(false,7)] [] (s:=79) (p:=85) rfl rfl (fun hg1=>?_) (fun hg1=>?_) ?_
       ·have hgc:=hg1;rw[aKS hgc];refine Zb rfl<|aY (e:=149) (fz:=(0,0)) rfl Tf.a149 rfl (aNM _) (by rw[show(ints _).length=10 by simp[hnl]];exact Tf.s149) aJN rfl ⟨_,rfl,rfl⟩<|Zb rfl<|rI rfl rfl rfl Yf rfl ⟨_,rfl,rfl⟩<|aE ([(_,_),(_,_),(_,_)]++[(_,_)]++([])) rfl<|dF (A:=[(_,_),(_,_),(_,_)]) (ν:=[(_,_)]) (B:=[]) rfl rfl rfl rfl (aKP rfl) vV (fun D9 hD9=>ih (j-1) Yd (i+1) (bQ b (⟨[c0,c1,c2,c3],[k0,k1,k2,k3],mo,mi⟩:Sc) i x) es2 cl2 M2 _ Yd (sZ hbo hsb x i) (lW hsp i x) (pR hsi rfl hgc hin.2.1 (by have:=hin.2.2.1;omega)) hM2 hok2 (hb0.up (hD9 _ Ye)) (hA.up (hD9 _ Ye))) rfl ⟨_,rfl,rfl⟩ (fun v9 D10 _ hD10 hp9=>?_)
        obtain⟨rfl,es3,cl3,M3,rfl,hM3,hok3⟩:=hp9;refine Zac rfl ?_;exact aG fun a w hh=>⟨(_,es3,cl3,M3),⟨yJ Yk,hM3,hok3⟩,(hh.cutK 5 rfl).ds (fun _ h=>aJS _ (h))⟩
       ·refine Zl rfl<|Zl rfl<|Zl rfl<|Zl rfl<|Zl rfl<|Zad rfl ?_;exact aG fun a w hh=>⟨(false,es2,cl2,M2),⟨T4 Yk,hM2,hok2⟩,hh.cutK 5 rfl⟩
       rintro⟨bm,es3,cl3,M3⟩ ⟨hbm,hM3,hok3⟩;simp only at hbm hM3 hok3;refine L.n1<|aJ rfl (fun hc5=>?_) (fun hc5=>?_)
       ·obtain rfl:bm=true:=hc5;have hres:true=eP b (b.lines.drop i) i (⟨[c0,c1,c2,c3],[k0,k1,k2,k3],mo,mi⟩:Sc):=by rw[hdr,eP,hcd,aNI];exact(aNT.2 ⟨x,aJV hx,hbm.symm⟩).symm
        refine C.s1<|Zi rfl<|L.n1<|aR<|gE rfl<|Zah<|Zah<|Zal<|Zag<|aCX<|C.drawA [] 3 7 48 (fun _ _ _ h=>aU (P:=Tryz.prog) (fn:=Tryz.f138) _ _ _ h)<|Za rfl ?_;refine Zab rfl<|Zj rfl Tf.f259_1 rfl<|Zg 5 rfl Tf.a257 rfl hA rfl<|Zp rfl Tf.a317 rfl (List.Mem.tail _ (List.Mem.tail _ (List.Mem.head _))) Tf.s317<|Za rfl<|jC (val:=pA (n:=9)) (wal:=Value.bool) (A:=[(_,_),(_,_),(_,_)]) (B:=[]) (a:=⟨[(i:Int),min c0 1,min c1 1,min c2 1,min c3 1,min k0 1,min k1 1,min k2 1,min k3 1],rfl⟩) (n:=true) rfl U257 rK rfl rfl rfl hM3 aGL (fun es9 cl9 M9 hM9 hm9=>L.n3<|Za rfl<|Zi rfl<|L.n5 ?_);exact Zx [(_,_),(_,_),(_,_)] [] [_] [_] rfl ⟨rfl,aGL⟩ rfl (fun D' hD=>⟨aKJ Value.bool hres,es9,cl9,M9,rfl,hM9,hok3.add hm9 rfl hsi hsp rfl hres⟩)
       ·obtain rfl:bm=false:=hc5;have hgo:i7 b i (⟨[c0,c1,c2,c3],[k0,k1,k2,k3],mo,mi⟩:Sc) x=false:=hbm.symm;refine aAX<|Zak<|Zag<|C.rg<|Zy rfl<|Za rfl<|Zz ?_;exact aH 24 (k+1,es3,cl3,M3) ⟨by simp only;omega,by simp only;rw[aKL,hx,aMY,hno];simp[hgo],hM3,hok3⟩ Ym ⟨Yb,Yb,aGL⟩ rfl rfl (List.Sublist.cons _ (List.Sublist.cons _ (aJU _))) (aD)
      ·refine Zw rfl Tf.z149 rfl (fun q4=>Zz<|aP [(true,7),(false,8),(false,9),(true,10)] rfl<|Zd rfl (fun D5 hD5=>oJ _ b (⟨[c0,c1,c2,c3],[k0,k1,k2,k3],mo,mi⟩:Sc) i x _ (hb0.up (hD5 _ Ye)) rfl rfl Yaf Yaf Yd Yak Yap Yd)<|Za rfl<|Zaa rfl<|Zaa rfl<|Zz<|iA [(true,12),(false,13)] rfl<|bB hA Ye (fun hap1=>bB hB1 Ye (fun hap2=>P5 (fun hnd=>?_))));refine fV (off:=0) (us:=ints (gZ (if eF (⟨[c0,c1,c2,c3],[k0,k1,k2,k3],mo,mi⟩:Sc) x=true then(bQ b (⟨[c0,c1,c2,c3],[k0,k1,k2,k3],mo,mi⟩:Sc) i x)else(⟨[c0,c1,c2,c3],[k0,k1,k2,k3],mo,mi⟩:Sc)))) (ws:=ints (gZ (if eF (⟨[c0,c1,c2,c3],[k0,k1,k2,k3],mo,mi⟩:Sc) x=true then(bQ b (⟨[c0,c1,c2,c3],[k0,k1,k2,k3],mo,mi⟩:Sc) i x)else(⟨[c0,c1,c2,c3],[k0,k1,k2,k3],mo,mi⟩:Sc)))) rfl rfl rfl rfl (by rw[show(ints _).length=10 by simp[hif]];exact Tf.s149) .head Yaq Yaq (bP _) (aKB (dC.in_ (xY hap1 hap2 hnd))) trivial<|Zi rfl<|Zz<|hZ<|Zag<|C.s1<|Za rfl<|Za rfl<|yR (γ:=Bool×Array MapEntry×Nat×List (lA 9×Bool)) (fun g=>g.1=i7 b i (⟨[c0,c1,c2,c3],[k0,k1,k2,k3],mo,mi⟩:Sc) x∧oA pA Value.bool g.2.1 g.2.2.2∧qW b g.2.2.2) (fun g=>g.1) (fun g=>[(q4,.cells (ints (gZ (if eF (⟨[c0,c1,c2,c3],[k0,k1,k2,k3],mo,mi⟩:Sc) x=true then(bQ b (⟨[c0,c1,c2,c3],[k0,k1,k2,k3],mo,mi⟩:Sc) i x)else(⟨[c0,c1,c2,c3],[k0,k1,k2,k3],mo,mi⟩:Sc)))).toArray 149 (0,0)),(q3,.cells [.int .i64 x.kind,.int .i64 x.chair,.int .i64 x.token].toArray 133 (0,0)),(q2,.cells [.int .i64 (i:Int),.int .i64 (min c0 1),.int .i64 (min c1 1),.int .i64 (min c2 1),.int .i64 (min c3 1),.int .i64 (min k0 1),.int .i64 (min k1 1),.int .i64 (min k2 1),.int .i64 (min k3 1)].toArray 317 (0,0)),(mb,.map g.2.1 g.2.2.1)]) [(false,2),(false,3),(false,4),(false,5),(false,6),(false,7)] [] (s:=79) (p:=85) rfl rfl (fun hg1=>?_) (fun hg1=>?_) ?_
       ·have hgc:=hg1;rw[aKS hgc];refine Zb rfl<|aY (e:=149) (fz:=(0,0)) rfl Tf.a149 rfl (aNM _) (by rw[show(ints _).length=10 by simp[hnl]];exact Tf.s149) aJN rfl ⟨_,rfl,rfl⟩<|Zb rfl<|rI rfl rfl rfl Yf rfl ⟨_,rfl,rfl⟩<|aE ([(_,_),(_,_),(_,_)]++[(_,_)]++([])) rfl<|dF (A:=[(_,_),(_,_),(_,_)]) (ν:=[(_,_)]) (B:=[]) rfl rfl rfl rfl (aKP rfl) vV (fun D9 hD9=>ih (j-1) Yd (i+1) (bQ b (⟨[c0,c1,c2,c3],[k0,k1,k2,k3],mo,mi⟩:Sc) i x) es2 cl2 M2 _ Yd (sZ hbo hsb x i) (lW hsp i x) (pR hsi rfl hgc hin.2.1 (by have:=hin.2.2.1;omega)) hM2 hok2 (hb0.up (hD9 _ Ye)) (hA.up (hD9 _ Ye))) rfl ⟨_,rfl,rfl⟩ (fun v9 D10 _ hD10 hp9=>?_)
        obtain⟨rfl,es3,cl3,M3,rfl,hM3,hok3⟩:=hp9;refine Zac rfl ?_;exact aG fun a w hh=>⟨(_,es3,cl3,M3),⟨yJ Yk,hM3,hok3⟩,(hh.cutK 5 rfl).ds (fun _ h=>aJS _ (h))⟩
       ·refine Zl rfl<|Zl rfl<|Zl rfl<|Zl rfl<|Zl rfl<|Zad rfl ?_;exact aG fun a w hh=>⟨(false,es2,cl2,M2),⟨T4 Yk,hM2,hok2⟩,hh.cutK 5 rfl⟩
       rintro⟨bm,es3,cl3,M3⟩ ⟨hbm,hM3,hok3⟩;simp only at hbm hM3 hok3;refine L.n1<|aJ rfl (fun hc5=>?_) (fun hc5=>?_)
       ·obtain rfl:bm=true:=hc5;have hres:true=eP b (b.lines.drop i) i (⟨[c0,c1,c2,c3],[k0,k1,k2,k3],mo,mi⟩:Sc):=by rw[hdr,eP,hcd,aNI];exact(aNT.2 ⟨x,aJV hx,hbm.symm⟩).symm
        refine C.s1<|Zi rfl<|L.n1<|aR<|gE rfl<|Zah<|Zah<|Zal<|Zag<|aCX<|C.drawA [] 3 7 48 (fun _ _ _ h=>aU (P:=Tryz.prog) (fn:=Tryz.f138) _ _ _ h)<|Za rfl ?_;refine Zab rfl<|Zj rfl Tf.f259_1 rfl<|Zg 5 rfl Tf.a257 rfl hA rfl<|Zp rfl Tf.a317 rfl (List.Mem.tail _ (List.Mem.tail _ (List.Mem.head _))) Tf.s317<|Za rfl<|jC (val:=pA (n:=9)) (wal:=Value.bool) (A:=[(_,_),(_,_),(_,_)]) (B:=[]) (a:=⟨[(i:Int),min c0 1,min c1 1,min c2 1,min c3 1,min k0 1,min k1 1,min k2 1,min k3 1],rfl⟩) (n:=true) rfl U257 rK rfl rfl rfl hM3 aGL (fun es9 cl9 M9 hM9 hm9=>L.n3<|Za rfl<|Zi rfl<|L.n5 ?_);exact Zx [(_,_),(_,_),(_,_)] [] [_] [_] rfl ⟨rfl,aGL⟩ rfl (fun D' hD=>⟨aKJ Value.bool hres,es9,cl9,M9,rfl,hM9,hok3.add hm9 rfl hsi hsp rfl hres⟩)
       ·obtain rfl:bm=false:=hc5;have hgo:i7 b i (⟨[c0,c1,c2,c3],[k0,k1,k2,k3],mo,mi⟩:Sc) x=false:=hbm.symm;refine aAX<|Zak<|Zag<|C.rg<|Zy rfl<|Za rfl<|Zz ?_;exact aH 24 (k+1,es3,cl3,M3) ⟨by simp only;omega,by simp only;rw[aKL,hx,aMY,hno];simp[hgo],hM3,hok3⟩ Ym ⟨Yb,Yb,aGL⟩ rfl rfl (List.Sublist.cons _ (List.Sublist.cons _ (aJU _))) (aD)
     ·obtain rfl:k=(bN b.chairs z).length:=by simp only at hc4;omega
      rw[aLL]at hno;have hres:false=eP b (b.lines.drop i) i (⟨[c0,c1,c2,c3],[k0,k1,k2,k3],mo,mi⟩:Sc):=by rw[hdr,eP,hcd];exact hno.symm
      refine aR<|Zah<|Zah<|Zal<|Zag<|aCX<|C.drawA [] 3 7 48 (fun _ _ _ h=>aU (P:=Tryz.prog) (fn:=Tryz.f138) _ _ _ h)<|Za rfl<|Zab rfl<|Zj rfl Tf.f259_1 rfl<|Zg 5 rfl Tf.a257 rfl hA rfl<|Zp rfl Tf.a317 rfl (List.Mem.head _) Tf.s317 ?_;refine Za rfl<|jC (val:=pA (n:=9)) (wal:=Value.bool) (A:=[(_,_)]) (B:=[]) (a:=⟨[(i:Int),min c0 1,min c1 1,min c2 1,min c3 1,min k0 1,min k1 1,min k2 1,min k3 1],rfl⟩) (n:=false) rfl U257 rK rfl rfl rfl hM2 aGL (fun es9 cl9 M9 hM9 hm9=>L.n3<|Za rfl<|Zi rfl<|L.n5 ?_);exact Zx [(_,_)] [] [_] [_] rfl ⟨rfl,aGL⟩ rfl (fun D' hD=>⟨aKJ Value.bool hres,es9,cl9,M9,rfl,hM9,hok2.add hm9 rfl hsi hsp rfl hres⟩)
end L3
end Go.Fs
namespace Go.Fs
open Go.Proofs
namespace L3
open L1
open C3
theorem B1(b:aZ):aCJ b (eH b) 0:=⟨rfl,rfl,by simp[eH],by simp[eH]⟩
theorem yI(b:aZ):MX (eH b):=⟨fun x hx=>by simp[eH]at hx;omega,fun x hx=>by simp[eH]at hx;omega⟩
theorem zG(bv:Value)(b:aZ)(D:aA)(hb:fO D bv b)(hbo:JO b):Fn Tryz.prog 85 #[bv] D (fun _ v=>v=.bool (decide (truths b≠[]))):=by
 have hb0:=hb;obtain⟨lv,cv,rfl,hl,hc⟩:=hb;refine enter 10 Tryz.func85 rfl rfl rfl rfl fun h0=>C.s1<|Zv rfl (fun q1 E1 hE1 hB1=>Zi rfl<|L.n2<|jU [] 3 [false,true,true,true,true,true,false,false] [.fork [0,4] 1 (.fork [2] 3 (.fin [5]) 5 (.fin [3])) 5 (.fin [1,2,3]),.fin [6,7]] Tf.follows (fun _ _ _ h=>cZ (P:=Tryz.prog) (fn:=Tryz.f85) _ _ _ h) Yg<|mE<|bG [(false,0),(true,4)] rfl<|Zs rfl Tf.a36 rfl hB1 Tf.s36<|Zs rfl Tf.a36 rfl hB1 Tf.s36<|Zz (cY true true rfl rfl ?_ ?_))
 ·refine pY rfl rfl aGL (fun qm=>Zz<|bG [(true,2)] rfl<|hG (cs:=[.int .i64 b.chairs,.int .i64 b.coin,.int .i64 b.box,lv,cv,.map (some qm)]) rfl Tf.p259 Tf.z259 rfl Yg rfl trivial<|Zz (cY true true rfl rfl ?_ ?_))
  ·refine Zv rfl (fun q2 E2 hE2 hB2=>Zz<|aP [(true,5)] rfl<|Zd rfl (fun D1 hD1=>qA _ b _ (hb0.up (hD1 _ Ye)))<|Zz<|iA [(false,6),(false,7)] rfl<|dF (A:=[]) (ν:=[(_,_)]) (B:=[]) rfl rfl rfl rfl (aKP rfl) vV (fun D9 hD9=>g8 hbo rfl b.lines.length 0 (eH b) #[] 0 [] _ Yd (B1 b) (yI b) (yB b) rfl qW.nil (hb0.up (hD9 _ Ye)) (hB2.up (hD9 _ Ye))) rfl aGL (fun v9 D10 _ hD10 hp9=>?_));obtain⟨rfl,es3,cl3,M3,rfl,hM3,hok3⟩:=hp9;refine Zi rfl<|Zz<|hZ<|Zag<|aCY ?_;exact Zc [_] rfl ⟨rfl,aGL⟩ (fun D hD=>by show Value.bool _=_;rw[aOA,rW])
  ·refine Zd rfl (fun D1 hD1=>qA _ b _ (hb0.up (hD1 _ Ye)))<|Zz<|aP [(true,3)] rfl<|Zv rfl (fun q2 E2 hE2 hB2=>Zz<|iA [(false,6),(false,7)] rfl<|dF (A:=[]) (ν:=[(_,_)]) (B:=[]) rfl rfl rfl rfl (aKP rfl) vV (fun D9 hD9=>g8 hbo rfl b.lines.length 0 (eH b) #[] 0 [] _ Yd (B1 b) (yI b) (yB b) rfl qW.nil (hb0.up (hD9 _ Ye)) (hB2.up (hD9 _ Ye))) rfl aGL (fun v9 D10 _ hD10 hp9=>?_));obtain⟨rfl,es3,cl3,M3,rfl,hM3,hok3⟩:=hp9;refine Zi rfl<|Zz<|hZ<|Zag<|aCY ?_;exact Zc [_] rfl ⟨rfl,aGL⟩ (fun D hD=>by show Value.bool _=_;rw[aOA,rW])
 ·refine Zd rfl (fun D1 hD1=>qA _ b _ (hb0.up (hD1 _ Ye)))<|Zz<|aP [(true,1),(true,2),(true,3)] rfl<|pY rfl rfl aGL (fun qm=>hG (cs:=[.int .i64 b.chairs,.int .i64 b.coin,.int .i64 b.box,lv,cv,.map (some qm)]) rfl Tf.p259 Tf.z259 rfl Yg rfl trivial<|Zv rfl (fun q2 E2 hE2 hB2=>Zz<|iA [(false,6),(false,7)] rfl<|dF (A:=[]) (ν:=[(_,_)]) (B:=[]) rfl rfl rfl rfl (aKP rfl) vV (fun D9 hD9=>g8 hbo rfl b.lines.length 0 (eH b) #[] 0 [] _ Yd (B1 b) (yI b) (yB b) rfl qW.nil (hb0.up (hD9 _ Ye)) (hB2.up (hD9 _ Ye))) rfl aGL (fun v9 D10 _ hD10 hp9=>?_)));obtain⟨rfl,es3,cl3,M3,rfl,hM3,hok3⟩:=hp9;refine Zi rfl<|Zz<|hZ<|Zag<|aCY ?_;exact Zc [_] rfl ⟨rfl,aGL⟩ (fun D hD=>by show Value.bool _=_;rw[aOA,rW])
theorem S6(bv:Value)(b:aZ)(fine:Bool)(D:aA)(hb:fO D bv b):Fn Tryz.prog 63 #[bv,.bool fine] D (fun _ v=>v=.int .i64 (rS b fine)):=by
 have hb0:=hb;obtain⟨lv,cv,rfl,hl,hc⟩:=hb;refine enter 19 Tryz.func63 rfl rfl rfl rfl fun h0=>C.s1<|Zv rfl (fun q1 E1 hE1 hB1=>Zi rfl<|L.n4<|Zs rfl Tf.a36 rfl hB1 Tf.s36<|Zd rfl (fun D1 hD1=>mT _ b _ (hb0.up (hD1 _ Ye)))<|Zi rfl<|L.n1<|Zai<|C.s1<|Za rfl ?_);refine eQ rfl rfl rfl rfl trivial<|Zi rfl<|L.n1<|aJ rfl (fun hc1=>?_) (fun hc1=>?_)
 ·refine C.s1<|Za rfl<|Zi rfl<|L.n5<|BW<|Zaj ?_;exact Zc [_] rfl ⟨rfl,aGL⟩ (fun D hD=>by show Value.int _ _=_;rw[rS,aKS (by simpa using hc1)])
 ·have hf0:aT b=0:=by simpa using hc1
  have hbo:=aDB hf0;refine C.s1<|Za rfl<|Zaf rfl<|Zi rfl<|L.n1<|aJ rfl (fun hc2=>?_) (fun hc2=>?_)
  ·refine C.s1<|Zi rfl<|L.n5<|BW<|Zaj ?_;exact Zc [_] rfl ⟨rfl,aGL⟩ (fun D hD=>by show Value.int _ _=_;rw[rS,aKO Yd,aKS Yam])
  ·refine C.s1<|Zs rfl Tf.a36 rfl hB1 Tf.s36<|Zd rfl (fun D2 hD2=>zG _ b _ (hb0.up (hD2 _ Ye)) hbo)<|Zaf rfl<|Zi rfl<|L.n1<|aJ rfl (fun hc3=>?_) (fun hc3=>?_)
   ·refine C.s1<|Zi rfl<|L.n5<|BW<|Zaj ?_;exact Zc [_] rfl ⟨rfl,aGL⟩ (fun D hD=>by show Value.int _ _=_;rw[rS,aKO Yd,aKO Yam,aKS (by simpa using hc3)])
   ·refine aAX<|Zak<|Zag<|C.s1<|Zi rfl<|L.n5 ?_;exact Zc [_] rfl ⟨rfl,aGL⟩ (fun D hD=>by show Value.int _ _=_;rw[rS,aKO Yd,aKO Yam,aKO (by simpa using hc3)])
end L3
end Go.Fs
namespace Go.Fs
open Go.Proofs
namespace L3
open L1
open C3
end L3
end Go.Fs
namespace Go.Fs
open Go.Proofs
namespace L3
open L1
open C3
end L3
end Go.Fs
namespace Go.Fs
open Go.Proofs
namespace L3
open L1
open C3
def WZ(l:List Cn):List Value:=l.flatMap fun x=>[.int .i64 x.after,.int .i64 x.lo,.int .i64 x.hi]
theorem UR(l:List Cn):(WZ l).length=l.length*3:=by
 induction l with
 |nil=>rfl
 |cons c l ih=>unfold WZ at ih ⊢;rw[aLO,aJZ,ih];simp only[aKD,aLY];omega
theorem UY{l:List Cn}{i:Nat}{c:Cn}(hi:l[i]?= some c):((WZ l).drop (i*3)).take 3=[.int .i64 c.after,.int .i64 c.lo,.int .i64 c.hi]:=by
  induction l generalizing i with
  |nil=>simp at hi
  |cons d l ih=>
    unfold WZ at ih ⊢
    rw[aLO];cases i with
    | zero => obtain rfl : d = c := by simpa using hi
              rfl
    |succ i=>
      rw[aOF,aLJ Yad,aLG];have:(i+1)*3- [Value.int .i64 d.after,Value.int .i64 d.lo,Value.int .i64 d.hi].length=i*3:=by simp;omega
      rw[this];exact ih Yal
theorem _root_.Go.Fs.jJ.cns{D:aA}{v:Value}{n:Nat}{l:List Cn}(hF:jJ D v n (WZ l))(hn:l.length=n)(hb:n≤9223372036854775807):Sl D pC 3 v l:=
 hF.sl hn hb fun _i _t hi=>⟨_,rfl,rfl,UY hi⟩
theorem G7{a c:Value}{x y z:Int}(ha:∀u∈[a],cell1 u=true)(hb:∀u∈[c],cell1 u=true):∀u∈[.int .i64 x,.int .i64 y,.int .i64 z,a,c],cell1 u=true:=by
 intro u hu;simp only[aJX,aJN,aMT]at hu;rcases hu with rfl|rfl|rfl|rfl|rfl
 ·rfl
 ·rfl
 ·rfl
 ·exact ha _ aKI
 ·exact hb _ aKI
end L3
end Go.Fs
namespace Go.Fs
open Go.ChangeShapes Go.WideShapes Go.RowKit
def tZ(W:World):aA:=fun b=>match W.heap[b]? with
 |some (.cells cs _ _)=>cs.toList
 |_=>[]
theorem BC(W:World){cs:Array Value}{e:TypeId}{fz:Nat×Nat}(h0:W.heap[0]?= some (.cells cs e fz))(hne:cs.toList≠[]):dS (tZ W) W:=by
 have hf:tZ W 0=cs.toList:=by unfold tZ;rw[h0]
 refine⟨?_,by rw[hf];exact hne,e,fz,by rw[hf];exact h0⟩;intro b hb;unfold tZ at hb ⊢
 split at hb
 ·rename_i cs e fz h;exact⟨cs,e,fz,h,List.prefix_refl _⟩
 ·exact absurd rfl hb
theorem tT{W:World}{b i:Nat}{v:Value}(h:W.cell? ⟨b,i,none⟩=some v):(tZ W b)[i]?= some v:=by
 unfold World.cell? at h;unfold tZ;split at h
 ·rename_i cs e fz hb;simp only at hb;rw[hb];simpa using h
 ·cases h
structure AC(W W':World):Prop where
 env:s7 W'=s7 W
 size:W.heap.size≤W'.heap.size
 old:∀b,b<W.heap.size→W'.heap[b]?= W.heap[b]?
theorem AC.but{W W':World}(h:AC W W')(may:MemPlace→Prop):W.keptBut W' may:=by
 refine⟨aKJ Prod.fst h.env,aKJ Prod.snd h.env,fun i hi=>?_⟩;rw[h.old i hi];cases W.heap[i]? with
 |none=>rfl
 |some o=>cases o<;>first|exact⟨rfl,rfl,rfl,fun _ _=>rfl⟩|exact Or.inr ⟨rfl,rfl⟩|rfl
theorem AC.frozen{W W':World}(h:AC W W'){a:Addr}(hl:a.block<W.heap.size):W'.frozen? a=W.frozen? a:=by
 unfold World.frozen?;rw[h.old _ hl]
theorem AC.same{W W':World}(h:AC W W'){p:MemPlace}(hp:p.block<W.heap.size):W.sameAt W' p:=by
 cases p with
 |cell b off=>
  simp only[World.sameAt,World.cell?];rw[h.old b hp]
 |map b=>exact h.old b hp
theorem Fn.calls{P:Program}{f:FuncId}{args:Array Value}{D:aA}{post:aA→Value→Prop}(h:Fn P f args D post){W:World}(hD:dS D W):
  Calls P f args W fun e W'=>∃v D',e=.returned v∧post D' v∧AC W W':=
 (h.2 W hD).mono (by
  rintro e W' ⟨v,D',he,hs,hp⟩;exact⟨v,D',he,hp,hs.env _ rfl,hs.size,fun b hb=>hs.old b hb Ye⟩)
section
variable{H:Type}{enc:TypeId×Value→H}{P:Program}
theorem uE(hl:laidOutB P=true){W W':World}{sp:Nat→Bool}:∀(ts:List TypeId) (vs:List Value) (ds:List (DataW H)) (ps:List MemPlace),(∀t∈ts,P.readableRec t=true∧t<P.types.size)→
  DataW.TrodAll enc P W 0 (fun _=>true) true ts vs ds ps→(∀p∈ps,W.sameAt W' p)→(∀p∈ps,sp p.block=true)→DataW.TrodAll enc P W' 0 sp true ts vs ds ps
 | [],vs,ds,ps,_,h,_,_=>by
  obtain⟨rfl,rfl,rfl⟩:=trodAll_nil h;exact trodAll_mk0
 |t::ts,vs,ds,ps,hr,h,hsame,hs=>by
  obtain⟨v,vs',d,ds',p,q,rfl,rfl,rfl,h1,h2⟩:=trodAll_cons h;exact trodAll_cons_mk (WideElems.Trod_stays hl (hr t aKI).1 (hr t aKI).2 h1 (fun x hx=>hsame x (aKC _ hx)) (fun x hx=>hs x (aKC _ hx)))
   (uE hl ts vs' ds' q (fun u hu=>hr u (aKA _ hu)) h2 (fun x hx=>hsame x (aJW _ hx)) (fun x hx=>hs x (aJW _ hx)))
theorem IE{f:Func}{s:ChangeSpec}{apart fresh handsOn again:Bool}{W W':World}{args:Array Value}{v:Value}{ds gs:List (DataW H)}{before pa pv:List MemPlace}(hW:DataW.Whole enc P f.params.toList s.vars apart W args.toList ds gs before)
  (hres:∀(b:Nat) (sp:Nat→Bool) (hd:Bool),DataW.TrodAll enc P W' b sp hd f.resultTypes.toList (v.resultList f.resultTypes.size) (s.fn H (ds++gs)).results [])
  (hargs:∀sp:Nat→Bool,(∀p∈before,sp p.block=true)→DataW.TrodAll enc P W' 0 sp true f.params.toList args.toList (s.fn H (ds++gs)).args pa)
  (hvars:∀sp:Nat→Bool,(∀p∈before,sp p.block=true)→DataW.TrodVars enc P W' sp s.vars (s.fn H (ds++gs)).vars pv)
  (hps:before=pa++pv) (hk:W.keptBut W' (· ∈before)) (hfz:∀a:Addr,a.block<W.heap.size→W'.frozen? a=W.frozen? a)
  (hok:∀(j:Nat) (t:TypeId) (r:Value),f.resultTypes[j]?= some t→(v.resultList f.resultTypes.size)[j]?= some r→Value.okWide P W' .any 0 t r):s.post enc P f apart fresh handsOn again W args v W':=by
 have hold:∀p∈before,(fun b=>decide (b<W.heap.size)) p.block=true:=fun p hp=>by simpa using hW.lt p hp
 have hlt:=hW.lt;refine⟨ds,gs,before,[],pa,pv,hW,hres _ _ _,hargs _ hold,hvars _ hold,World.keptBut_mono (fun p hp=>⟨hp,aKB (by rwa [hps,aKM]at hp)⟩) hk,fun _=>?_⟩;obtain⟨_,_,_,_,_,hz,hn⟩:=hW;refine⟨hok,_,_,([]++pa)++pv,⟨[]++pa,pv,trodAll_append (hargs _ (fun _ _=>rfl)) (hres _ _ _),hvars _ (fun _ _=>rfl),rfl,fun b off hp=>?_,fun ha=>?_⟩,fun p hp _=>?_⟩
 ·have hb:MemPlace.cell b off∈before:=by rw[hps];simpa using hp
  rw[hfz _ (by simpa [MemPlace.block]using hlt _ hb)];exact hz b off hb
 ·have:=hn ha;rw[hps]at this;simpa using this
 ·rw[hps];simpa using hp
theorem RM{f:Func}{s:ChangeSpec}{tb:TypeId}{W W':World}{args:Array Value}{ds gs:List (DataW H)}{before:List MemPlace}(hl:laidOutB P=true)(hp:(f.params.toList.all fun t=>P.readableRec t&&decide (t<P.types.size))=true)(hvars:s.vars=[])
  (hres:f.resultTypes=#[tb]) (htb:P.underlying tb=some .bool) (hW:DataW.Whole enc P f.params.toList s.vars false W args.toList ds gs before) (hs:s.fn H (ds++gs)={results:=[.lit (.bool true)],args:=ds}) (hk:AC W W'):
  s.post enc P f false true false false W args (.bool true) W':=by
 have hlt:=hW.lt;have hW':=hW;obtain⟨p,q,hA,hV,rfl,hfz,hnd⟩:=hW';rw[hvars]at hV;obtain⟨_,rfl⟩:=trodVars_none hV;refine IE (pa:=p) (pv:=[]) hW (fun b sp hd=>?_) (fun sp hsp=>?_) (fun sp _=>?_) rfl (hk.but _) (fun _=>hk.frozen) (ok_one hres rfl (okWide_bool_mk htb true))
 ·rw[hs,hres];exact trodAll_mk1 (shut_bool htb true)
 ·rw[hs];refine uE hl _ _ _ _ (fun t ht=>?_) hA (fun x hx=>hk.same (hlt x (aKC _ hx))) (fun x hx=>hsp x (aKC _ hx));have:=aKX.1 hp t ht;simpa using this
 ·rw[hs,hvars];rfl

def xF(P:Program)(t:TypeId){α:Type}(R:Rd α):Prop:=∀{H:Type} (enc:TypeId×Value→H) (W:World) (n:Nat) (cs:List Value) (x:DataW H×List MemPlace),DataW.trod enc P W 0 (fun _=>true) true n t cs=some x→∃a,R (tZ W) a cs
theorem SN{k:IntKind}{n:Int}(h:(Lit.int k n).wf=true):rP k n:=by
 cases k<;>simpa [Lit.wf,IntKind.min,IntKind.max,IntKind.signed,IntKind.bits,rP]using h
def aDU{α:Type}(R:Rd α)(sz:Nat):Rd (List α):=fun D xs cs=>∃v,cs=[v]∧Sl D R sz v xs
theorem xF.slice{t e:TypeId}{sz:Nat}{α:Type}{R:Rd α}(ht:P.underlying t=some (.slice e))(hc:P.cellsOf e=sz)(hpos:0<sz)(hel:xF P e R):xF P t (aDU R sz):=fun {H} enc W fuel cs x hx=>by
 rcases DataW.trod_slice ht hx with⟨rfl,_⟩|⟨a,len,cap,elems,rest,n,_,rfl,_,_,hl,hm,hlen,hel',_,_⟩
 ·exact⟨[],_,rfl,Sl.nil⟩
 have hm':cap≤9223372036854775807:=by simpa [maxLen]using hm
 have key:∀i,i<len→∃cs,(∃y,R (tZ W) y cs)∧cs.length=sz∧∀j,j<sz→W.cell? ((a.add (i*sz)).add j)=cs[j]? :=by
  intro i hi;have h1:=hel' i hi;rw[aJT Yd,hc]at h1;simp only[Option.bind_eq_some_iff]at h1;obtain⟨cs,h2,h3⟩:=h1;obtain⟨_,h4,h5⟩:=World.cells?_some h2;exact⟨cs,hel enc W n cs _ h3,h4,h5⟩
 by_cases h0:len=0
 ·subst h0;exact⟨[],_,rfl,some a,cap,rfl,aGD _,by simp,aKP rfl⟩
 have hspot:a=⟨a.block,a.off,none⟩:=by
  obtain⟨cs,_,h2,h3⟩:=key 0 Yd;have h4:=h3 0 hpos;rw[aOG]at h4;simp only[Addr.add,aMG]at h4;rw[aJT (show 0<cs.length by omega)]at h4;unfold World.cell? at h4;split at h4
  ·split at h4
   ·cases h4
   ·rename_i hs;obtain⟨b,o,s⟩:=a;cases s with
    |none=>rfl
    |some=>simp at hs
  ·cases h4
 have pick:∃ys:List α,ys.length=len∧∀i y,ys[i]?= some y→∃cs,R (tZ W) y cs∧cs.length=sz∧∀j,j<sz→W.cell? ((a.add (i*sz)).add j)=cs[j]? :=by
  refine⟨List.ofFn fun i:Fin len=>(key i.1 i.2).choose_spec.1.choose,by simp,fun i y hy=>?_⟩;rw[List.getElem?_ofFn]at hy;split at hy
  ·rename_i hi;cases hy;exact⟨_,(key i hi).choose_spec.1.choose_spec,(key i hi).choose_spec.2.1,(key i hi).choose_spec.2.2⟩
  ·cases hy
 obtain⟨ys,hys,hy⟩:=pick;refine⟨ys,_,rfl,some a,cap,by rw[hys],by omega,by omega,aKB ⟨a.block,a.off,by rw[←hspot],fun i y hi=>?_⟩⟩;obtain⟨cs,h1,h2,h3⟩:=hy i y hi;refine⟨cs,h1,h2,fun j v hj=>?_⟩;have hjl:=(aKH.1 hj).1;have h4:=h3 j Yd;rw[hj,hspot,eK,eK]at h4;exact tT h4
theorem xF.trod{t:TypeId}{α:Type}{R:Rd α}(h:xF P t R){W:World}{v:Value}{d:DataW H}{ps:List MemPlace}(hd:DataW.Trod enc P W 0 (fun _=>true) true t v d ps):∃a,R (tZ W) a v.cells.toList:=by
 obtain⟨fuel,hf⟩:=hd;exact h enc W fuel _ _ hf
theorem BY{t e:TypeId}{α:Type}{R:Rd α}{sz:Nat}(ht:P.underlying t=some (.slice e))(h:xF P t (aDU R sz)){W:World}{r:Reach}{b0:Nat}{v:Value}{d:DataW H}{ps:List MemPlace}(hval:Value.okWide P W r b0 t v)(hd:DataW.Trod enc P W 0 (fun _=>true) true t v d ps):
  ∃xs,Sl (tZ W) R sz v xs:=by
 obtain⟨a,len,cap,rfl⟩:=okWide_slice ht hval;obtain⟨xs,u,hc,hs⟩:=h.trod hd;simp only[Value.cells,aLS,and_true]at hc;exact⟨xs,by rw[hc];exact hs⟩
end
end Go.Fs
namespace Go.Fs
open Go.Proofs
namespace L3
open L1
open C3
end L3
end Go.Fs
namespace Go.Fs
open Go.Proofs
namespace L3
open L1
open C3
end L3
end Go.Fs
namespace Go.Fs
open Go.Proofs
namespace L3
open L1
open C3
end L3
end Go.Fs
namespace Go.Fs
open Go.Proofs
namespace L3
open L1
open C3
end L3
end Go.Fs
namespace Go.Fs
open Go.Proofs
namespace L3
open L1
open C3
end L3
end Go.Fs
namespace Go.Fs
open Go.Proofs
namespace L3
open L1
open C3
end L3
end Go.Fs
namespace Go.Fs
open Go.Proofs
namespace L3
open L1
open C3
end L3
end Go.Fs
