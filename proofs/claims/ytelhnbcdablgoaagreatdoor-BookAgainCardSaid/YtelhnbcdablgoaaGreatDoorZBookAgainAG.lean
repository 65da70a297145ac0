/- Of the proof of BookAgain: V2, V3, V4, V5, V6, V7, V8, V9, V10, V11, V12, V13, V14, Shell, V15, V16, V17, V18, V19, V20, V21. -/
import Derived.Test.YtelhnbcdablgoaaGreatDoorZBookAgainAF
import Derived.Test.YtelhnbcdablgoaaGreatDoorZBookAgainAC
import Derived.Test.YtelhnbcdablgoaaGreatDoorZBookAgainAE
import Derived.Test.YtelhnbcdablgoaaGreatDoorZBookAgainAD
import Derived.ProofKit
import Derived.OpenShut
import Derived.WideKeyArgs
import Derived.JoinedCond
namespace Go.Fs
open Go.Proofs
namespace L3
open L1
open C3
def JC(lo:Int)(k:Nat):List Int:=(List.range k).map fun i:Nat=>lo+(i:Int)
theorem WZ{s n lo hi:Int}(h:s≠n):eA s n lo hi=[s]:=by unfold eA;rw[aMT h]
theorem XL{s n lo hi:Int}(h:¬s≠n):eA s n lo hi=JC lo (hi+1-lo).toNat:=by unfold eA;rw[aMM h];rfl
theorem iG(n lo hi:Int)(D:aA):Fn Tryz.prog 92 #[.int .i64 n,.int .i64 lo,.int .i64 hi] D (fun _ v=>v=.bool (C1.fP n lo hi)):=by
 refine enter 15 Tryz.func92 rfl rfl rfl rfl fun h0=>C.s1<|Zi rfl<|L.n3<|Za rfl<|Za rfl<|iW rfl rfl rfl rfl trivial<|Za rfl ?_
 refine' L.anK 4 (s:=10) (p:=14) rfl (fun hg1=>?_) (fun hg1=>?_) ?_;rotate_left
 ·refine Zb rfl<|Zb rfl<|iW rfl rfl rfl rfl ⟨_,rfl,rfl⟩<|Zy rfl ?_;exact L.cu 3
 ·refine Zh rfl<|Zh rfl<|Zh rfl<|Zz rfl ?_;exact L.cu 3
 refine Zi rfl<|L.n5 ?_;exact leave1 rfl rfl rfl rfl (fun D hD=>rfl)
theorem uB(sv:Value)(x:Int)(xs:List Int)(D:aA)(hS:Sl D RI 1 sv (x::xs)):
  Fn Tryz.prog 149 #[sv] D (fun _ v=>v=.int .i64 (xs.foldl min x)):=by
 refine enter 5 Tryz.func149 rfl rfl rfl rfl fun h0=>C.s1<|Zi rfl<|L.n3<|Za rfl<|Ze rfl (fun D1 hD1=>R9 _ x xs _ (Sl.at RI.up hD1 Yk Ye))<|Zi rfl<|L.n5 ?_
 exact leave1 rfl rfl rfl rfl (fun D hD=>rfl)
theorem aDR(r:Int×Int)(n:Int)(D:aA):Fn Tryz.prog 281 #[jC r,.int .i64 n] D (fun _ v=>v=.bool (C1.fP n r.1 r.2)):=by
 refine enter 11 Tryz.func281 rfl rfl rfl rfl fun h0=>C.s1<|Zt rfl (fun q1 E1 hE1 hB1=>Zi rfl<|L.n3<|Za rfl<|Zj rfl Tf.f65_0 rfl<|Zc 0 rfl Tf.a3 rfl hB1 rfl<|Zj rfl Tf.f65_1 rfl<|Zc 1 rfl Tf.a3 rfl hB1 rfl<|Ze rfl (fun D1 hD1=>iG _ _ _ _)<|Zi rfl ?_);refine L.n5 ?_
 exact leave1 rfl rfl rfl rfl (fun D hD=>rfl)
theorem W8(r:Int×Int)(n:Int)(D:aA):Fn Tryz.prog 155 #[jC r,.int .i64 n] D (fun _ v=>v=jC (min r.1 n,max r.2 n)):=by
 refine enter 15 Tryz.func155 rfl rfl rfl rfl fun h0=>C.s1<|Zt rfl (fun q1 E1 hE1 hB1=>Zv rfl Tf.z65 rfl (fun q2=>L.n2<|iE [] 4 [0,1,2,5,6,7,8,3,4,9,10] [false,false,true,true,true,true,true,true,true,false,false] [(false,0),(false,1),(true,2),(true,5),(true,6),(true,7),(true,8),(true,3),(true,4),(false,9),(false,10)] Tf.follows (fun _ _ _ h=>bP (P:=Tryz.prog) (fn:=Tryz.f155) _ _ _ h) Yg rfl<|Zj rfl Tf.f65_0 rfl<|Zc 0 rfl Tf.a3 rfl hB1 rfl<|Za rfl<|Zj rfl Tf.f65_1 rfl<|Zc 1 rfl Tf.a3 rfl hB1 rfl<|Za rfl ?_));refine pU rfl rfl rfl rfl trivial<|Zn rfl U25 Tf.s3 Tf.z3 rfl rfl rfl rfl (.cons rfl rfl (.cons rfl rfl .nil)) (fun b901 D901 hD901 hA901=>?_)
 have hS901:=Sl.ofInts (l:=[_,_]) (n:=2) (cap:=2) hA901 rfl Yd Yd;refine Ze rfl (fun D1 hD1=>uB _ r.1 [n] _ (hS901.up RI.up (hD1 _ Ye)))<|Zr [.int .i64 (min r.1 n),.int .i64 (max r.2 n)] rfl Tf.p65 Tf.z65 rfl rfl<|Zu rfl Tf.s65 (bS.head)<|L.n5 ?_;exact Zm [_] rfl ⟨⟨_,_,_,rfl,(List.Mem.head _),Or.inr ⟨Tf.a65,(by first|exact Tf.s65|(simp only[aNG,aJ, *];exact Tf.s65)),rfl⟩⟩,cW⟩ (fun D hD=>rfl)
theorem V8(sv fv:Value)(xs:List fE)(p:fE→Bool)(D:aA)(hS:Sl D pB 3 sv xs)(hp:cN Tryz.prog D DY fv p):
  Fn Tryz.prog 278 #[sv,fv] D (fun _ v=>v=.int .i64 (idxOf p xs)):=by
 have hl:=hS.len;obtain⟨f,c1,c2,rfl,hf⟩:=hp;refine enter 19 Tryz.func278 rfl rfl rfl rfl fun h0=>C.s1<|Zi rfl<|L.n4<|Za rfl<|aO rfl U33 rfl Yk rfl rfl trivial<|Za rfl<|L.n1<|Zai<|bT (γ:=Nat) (fun k=>xs.length-k) (fun k=>k≤xs.length∧(xs.take k).any p=false) (fun k=>[(8,.int .i64 k)]) [(7,_),(4,_),(0,_),(1,_)] (fun k=>[D]) 0 Ye ⟨Ya,cW⟩ C.rs (aD) ?_
 rintro k ⟨h1,h2⟩;refine C.s1<|Zac rfl<|L.n2<|aE rfl (fun hc1=>?_) (fun hc1=>?_)
 ·have hk:k<xs.length:=by omega
  obtain⟨x,hx⟩:=C.ge xs k;refine C.kn<|aK<|Zai<|C.s1<|Za rfl<|Zi rfl<|L.n3<|Za rfl<|Za rfl<|Za rfl<|cT rfl U33 Tf.s160 rfl Yk rfl Yd Yk rfl cW (fun b1 o1 cs1 hr1 hcl1 hA1=>?_);obtain rfl:cs1=[.int .i64 _,.int .i64 _,.int .i64 _]:=hr1;refine Zq rfl Tf.a160 rfl hA1 Tf.s160<|Ze rfl (fun D1 hD1=>hf x _ (hD1 _ Ye))<|L.n1<|aI rfl (fun hc2=>?_) (fun hc2=>?_)
  ·refine C.s1<|Za rfl<|Zi rfl<|L.n5<|Zal<|Zah<|Zah<|Zal<|Zah ?_;exact leave1 rfl rfl rfl rfl (fun D hD=>by show Value.int _ _=_;rw[gZ hx h2 hc2])
  ·refine bB<|Zak<|Zag<|C.rg<|Zw rfl<|Za rfl<|Zaa ?_;have hpx:p x=false:=hc2;have h3:(xs.take (k+1)).any p=false:=by rw[aMN,hx,aOY,h2];simp[hpx]
   exact aG 12 (k+1) ⟨by omega,h3⟩ Yd ⟨Ya,cW⟩ rfl rfl (LT _) (aD)
 ·refine aP<|Zaj<|Zaj<|Zam<|Zag<|C.s1<|Zi rfl<|L.n5 ?_;exact leave1 rfl rfl rfl rfl (fun D hD=>by show Value.int _ _=_;rw[fA Yac])
theorem zL(sv fv:Value)(xs:List fE)(p:fE→Bool)(D:aA)(hS:Sl D pB 3 sv xs)(hp:cN Tryz.prog D DY fv p):
  Fn Tryz.prog 225 #[sv,fv] D (fun _ v=>v=.bool (xs.any p)):=by
 refine enter 9 Tryz.func225 rfl rfl rfl rfl fun h0=>C.s1<|Zi rfl<|L.n3<|Za rfl<|Za rfl<|Ze rfl (fun D1 hD1=>V8 _ _ xs p _ (Sl.at pB.up hD1 Yk Ye) (hp.up (hD1 _ Ye)))<|oT rfl rfl rfl rfl trivial<|Zi rfl<|L.n5 ?_
 exact leave1 rfl rfl rfl rfl (fun D hD=>by show Value.bool (decide _)=_;rw[gX])
theorem YE(b:Nat)(fv:Value)(p:fE→Bool)(x:fE)(D:aA)(hp:cN Tryz.prog D DY fv p)(hB:At D b 0 [fv]):
  Fn Tryz.prog 226 #[DY x,.pointer (some ⟨b,0,none⟩)] D (fun _ v=>v=.bool (!p x)):=by
 obtain⟨f,c1,c2,rfl,hf⟩:=hp;refine enter 8 Tryz.func226 rfl rfl rfl rfl fun h0=>C.s1<|Zt rfl (fun q1 E1 hE1 hB1=>Zi rfl<|L.n3<|Zc 0 rfl Tf.a288 rfl hB rfl<|Zq rfl Tf.a160 rfl hB1 Tf.s160<|Ze rfl (fun D1 hD1=>hf x _ (hD1 _ Ye))<|Zae rfl<|Zi rfl<|L.n5 ?_)
 exact leave1 rfl rfl rfl rfl (fun D hD=>rfl)
theorem aDT(sv fv:Value)(xs:List fE)(p:fE→Bool)(D:aA)(hS:Sl D pB 3 sv xs)(hp:cN Tryz.prog D DY fv p)(h1:fv.cells=#[fv]):
  Fn Tryz.prog 147 #[sv,fv] D (fun _ v=>v=.bool (xs.all p)):=by
 refine enter 9 Tryz.func147 rfl rfl rfl rfl fun h0=>C.s1<|mX (vs:=[fv]) rfl rfl h1 rfl cW (fun b D1 hD1 hB=>Zi rfl<|L.n3<|Za rfl<|bH rfl rfl rfl rfl trivial<|Ze rfl (fun D1 hD1=>zL _ _ xs (fun x=> !p x) _ (Sl.at pB.up hD1 Yk Ye) ⟨_,[],[.pointer (some ⟨b,0,none⟩)],rfl,fun x D2 hl=>YE b fv p x D2 (hp.up ((hD1 _ Ye).trans hl)) (hB.up ((hD1 _ Ye).trans hl))⟩)<|Zae rfl<|Zi rfl<|L.n5 ?_)
 exact leave1 rfl rfl rfl rfl (fun D hD=>by show Value.bool (!_)=_;rw[kM])
theorem T2(sv fv:Value)(xs:List Cn)(p:Cn→Bool)(D:aA)(hS:Sl D qQ 3 sv xs)(hp:cN Tryz.prog D aGT fv p):
  Fn Tryz.prog 279 #[sv,fv] D (fun _ v=>v=.int .i64 (idxOf p xs)):=by
 have hl:=hS.len;obtain⟨f,c1,c2,rfl,hf⟩:=hp;refine enter 19 Tryz.func279 rfl rfl rfl rfl fun h0=>C.s1<|Zi rfl<|L.n4<|Za rfl<|aO rfl U34 rfl Yk rfl rfl trivial<|Za rfl<|L.n1<|Zai<|bT (γ:=Nat) (fun k=>xs.length-k) (fun k=>k≤xs.length∧(xs.take k).any p=false) (fun k=>[(8,.int .i64 k)]) [(7,_),(4,_),(0,_),(1,_)] (fun k=>[D]) 0 Ye ⟨Ya,cW⟩ C.rs (aD) ?_
 rintro k ⟨h1,h2⟩;refine C.s1<|Zac rfl<|L.n2<|aE rfl (fun hc1=>?_) (fun hc1=>?_)
 ·have hk:k<xs.length:=by omega
  obtain⟨x,hx⟩:=C.ge xs k;refine C.kn<|aK<|Zai<|C.s1<|Za rfl<|Zi rfl<|L.n3<|Za rfl<|Za rfl<|Za rfl<|cT rfl U34 Tf.s162 rfl Yk rfl Yd Yk rfl cW (fun b1 o1 cs1 hr1 hcl1 hA1=>?_);obtain rfl:cs1=[.int .i64 _,.int .i64 _,.int .i64 _]:=hr1;refine Zq rfl Tf.a162 rfl hA1 Tf.s162<|Ze rfl (fun D1 hD1=>hf x _ (hD1 _ Ye))<|L.n1<|aI rfl (fun hc2=>?_) (fun hc2=>?_)
  ·refine C.s1<|Za rfl<|Zi rfl<|L.n5<|Zal<|Zah<|Zah<|Zal<|Zah ?_;exact leave1 rfl rfl rfl rfl (fun D hD=>by show Value.int _ _=_;rw[gZ hx h2 hc2])
  ·refine bB<|Zak<|Zag<|C.rg<|Zw rfl<|Za rfl<|Zaa ?_;have hpx:p x=false:=hc2;have h3:(xs.take (k+1)).any p=false:=by rw[aMN,hx,aOY,h2];simp[hpx]
   exact aG 12 (k+1) ⟨by omega,h3⟩ Yd ⟨Ya,cW⟩ rfl rfl (LT _) (aD)
 ·refine aP<|Zaj<|Zaj<|Zam<|Zag<|C.s1<|Zi rfl<|L.n5 ?_;exact leave1 rfl rfl rfl rfl (fun D hD=>by show Value.int _ _=_;rw[fA Yac])
theorem B2(sv fv:Value)(xs:List Cn)(p:Cn→Bool)(D:aA)(hS:Sl D qQ 3 sv xs)(hp:cN Tryz.prog D aGT fv p):
  Fn Tryz.prog 227 #[sv,fv] D (fun _ v=>v=.bool (xs.any p)):=by
 refine enter 9 Tryz.func227 rfl rfl rfl rfl fun h0=>C.s1<|Zi rfl<|L.n3<|Za rfl<|Za rfl<|Ze rfl (fun D1 hD1=>T2 _ _ xs p _ (Sl.at qQ.up hD1 Yk Ye) (hp.up (hD1 _ Ye)))<|oT rfl rfl rfl rfl trivial<|Zi rfl<|L.n5 ?_
 exact leave1 rfl rfl rfl rfl (fun D hD=>by show Value.bool (decide _)=_;rw[gX])
theorem TR(b:Nat)(fv:Value)(p:Cn→Bool)(x:Cn)(D:aA)(hp:cN Tryz.prog D aGT fv p)(hB:At D b 0 [fv]):
  Fn Tryz.prog 228 #[aGT x,.pointer (some ⟨b,0,none⟩)] D (fun _ v=>v=.bool (!p x)):=by
 obtain⟨f,c1,c2,rfl,hf⟩:=hp;refine enter 8 Tryz.func228 rfl rfl rfl rfl fun h0=>C.s1<|Zt rfl (fun q1 E1 hE1 hB1=>Zi rfl<|L.n3<|Zc 0 rfl Tf.a289 rfl hB rfl<|Zq rfl Tf.a162 rfl hB1 Tf.s162<|Ze rfl (fun D1 hD1=>hf x _ (hD1 _ Ye))<|Zae rfl<|Zi rfl<|L.n5 ?_)
 exact leave1 rfl rfl rfl rfl (fun D hD=>rfl)
theorem KX(sv fv:Value)(xs:List Cn)(p:Cn→Bool)(D:aA)(hS:Sl D qQ 3 sv xs)(hp:cN Tryz.prog D aGT fv p)(h1:fv.cells=#[fv]):
  Fn Tryz.prog 148 #[sv,fv] D (fun _ v=>v=.bool (xs.all p)):=by
 refine enter 9 Tryz.func148 rfl rfl rfl rfl fun h0=>C.s1<|mX (vs:=[fv]) rfl rfl h1 rfl cW (fun b D1 hD1 hB=>Zi rfl<|L.n3<|Za rfl<|bH rfl rfl rfl rfl trivial<|Ze rfl (fun D1 hD1=>B2 _ _ xs (fun x=> !p x) _ (Sl.at qQ.up hD1 Yk Ye) ⟨_,[],[.pointer (some ⟨b,0,none⟩)],rfl,fun x D2 hl=>TR b fv p x D2 (hp.up ((hD1 _ Ye).trans hl)) (hB.up ((hD1 _ Ye).trans hl))⟩)<|Zae rfl<|Zi rfl<|L.n5 ?_)
 exact leave1 rfl rfl rfl rfl (fun D hD=>by show Value.bool (!_)=_;rw[kM])
theorem XV(bv:Value)(b:aZ)(l:fE)(D:aA)(hb:fJ D bv b)(hn:0≤b.chairs∧b.chairs≤100):Fn Tryz.prog 145 #[bv,DY l] D (fun _ v=>v=.bool (sD b.chairs l)):=by
 obtain⟨lv,cv,rfl,hl,hc⟩:=hb;refine enter 24 Tryz.func145 rfl rfl rfl rfl fun h0=>C.s1<|Zt rfl (fun q1 E1 hE1 hB1=>Zt rfl (fun q2 E2 hE2 hB2=>Zi rfl<|L.n3<|Zj rfl Tf.f160_0 rfl<|Zc 0 rfl Tf.a3 rfl hB2 rfl<|Ze rfl (fun D1 hD1=>iG _ _ _ _)<|Za rfl ?_))
 refine' L.anK 7 (s:=8) (p:=15) rfl (fun hg1=>?_) (fun hg1=>?_) ?_;rotate_left
 ·refine Zk rfl Tf.f160_1 rfl<|Zd 1 rfl Tf.a3 rfl hB2 rfl<|Zk rfl Tf.f36_0 rfl<|Zd 0 rfl Tf.a3 rfl hB1 rfl<|gH rfl rfl rfl Yf rfl ⟨_,rfl,rfl⟩<|Zf rfl (fun D2 hD2=>iG _ _ _ _)<|Zy rfl ?_;exact L.cu 6
 ·refine Zh rfl<|Zh rfl<|Zh rfl<|Zh rfl<|Zh rfl<|Zh rfl<|Zz rfl ?_;exact L.cu 6
 refine Za rfl ?_;refine' L.anK 7 (s:=16) (p:=23) rfl (fun hg2=>?_) (fun hg2=>?_) ?_;rotate_left
 ·refine Zk rfl Tf.f160_2 rfl<|Zd 2 rfl Tf.a3 rfl hB2 rfl<|Zk rfl Tf.f36_0 rfl<|Zd 0 rfl Tf.a3 rfl hB1 rfl<|gH rfl rfl rfl Yf rfl ⟨_,rfl,rfl⟩<|Zf rfl (fun D3 hD3=>iG _ _ _ _)<|Zy rfl ?_;exact L.cu 6
 ·refine Zh rfl<|Zh rfl<|Zh rfl<|Zh rfl<|Zh rfl<|Zh rfl<|Zz rfl ?_;exact L.cu 6
 refine Zi rfl<|L.n5 ?_;exact leave1 rfl rfl rfl rfl (fun D hD=>rfl)
theorem QJ(bv:Value)(b:aZ)(c:Cn)(D:aA)(hb:fJ D bv b):Fn Tryz.prog 146 #[bv,aGT c] D (fun _ v=>v=.bool (mM b.lines.length c)):=by
 obtain⟨lv,cv,rfl,hl,hc⟩:=hb;refine enter 31 Tryz.func146 rfl rfl rfl rfl fun h0=>C.s1<|Zt rfl (fun q1 E1 hE1 hB1=>Zt rfl (fun q2 E2 hE2 hB2=>Zi rfl<|L.n3<|Zj rfl Tf.f162_1 rfl<|cR rfl (k:=1) Tf.a65 Tf.s65 rfl hB2 Yc rfl rfl GT rfl trivial<|Zv rfl Tf.z65 rfl (fun q3=>Zu rfl Tf.s65 (bS.head)<|L.n3<|Zj rfl Tf.f162_0 rfl ?_)));refine Zc 0 rfl Tf.a3 rfl hB2 rfl<|Zj rfl Tf.f36_3 rfl<|Zc 3 rfl Tf.a33 rfl hB1 rfl<|aO rfl U33 rfl hl rfl rfl trivial<|Ze rfl (fun D1 hD1=>iG _ _ _ _)<|Za rfl ?_
 refine' L.anK 4 (s:=14) (p:=18) rfl (fun hg1=>?_) (fun hg1=>?_) ?_;rotate_left
 ·refine Zk rfl Tf.f65_0 rfl<|aT rfl Tf.a3 rfl (List.Mem.head _) rfl GT rfl ⟨_,rfl,rfl⟩<|iW rfl rfl rfl rfl ⟨_,rfl,rfl⟩<|Zy rfl ?_;exact L.cu 3
 ·refine Zh rfl<|Zh rfl<|Zh rfl<|Zz rfl ?_;exact L.cu 3
 refine Za rfl ?_;refine' L.anK 6 (s:=19) (p:=25) rfl (fun hg2=>?_) (fun hg2=>?_) ?_;rotate_left
 ·refine Zk rfl Tf.f65_0 rfl<|aT rfl Tf.a3 rfl (List.Mem.head _) rfl GT rfl ⟨_,rfl,rfl⟩<|Zk rfl Tf.f65_1 rfl<|aT rfl Tf.a3 rfl (List.Mem.head _) rfl GT rfl ⟨_,rfl,rfl⟩<|iW rfl rfl rfl rfl ⟨_,rfl,rfl⟩<|Zy rfl ?_;exact L.cu 5
 ·refine Zh rfl<|Zh rfl<|Zh rfl<|Zh rfl<|Zh rfl<|Zz rfl ?_;exact L.cu 5
 refine Za rfl ?_;refine' L.anK 4 (s:=26) (p:=30) rfl (fun hg3=>?_) (fun hg3=>?_) ?_;rotate_left
 ·refine Zk rfl Tf.f65_1 rfl<|aT rfl Tf.a3 rfl (List.Mem.head _) rfl GT rfl ⟨_,rfl,rfl⟩<|iW rfl rfl rfl rfl ⟨_,rfl,rfl⟩<|Zy rfl ?_;exact L.cu 3
 ·refine Zh rfl<|Zh rfl<|Zh rfl<|Zz rfl ?_;exact L.cu 3
 refine Zi rfl<|L.n5 ?_;exact leave1 rfl rfl rfl rfl (fun D hD=>rfl)
theorem p8(s n lo hi:Int)(D:aA)(h1: -10≤lo∧lo≤10)(h2: -10≤hi∧hi≤100):Fn Tryz.prog 229 #[.int .i64 s,.int .i64 n,.int .i64 lo,.int .i64 hi] D (fun D' v=>Sl D' RI 1 v (eA s n lo hi)):=by
 refine enter 26 Tryz.func229 rfl rfl rfl rfl fun h0=>C.s1<|Zi rfl<|L.n4<|Za rfl<|Za rfl<|Zaf rfl<|L.n1<|aE rfl (fun hc1=>?_) (fun hc1=>?_)
 ·refine C.s1<|Za rfl<|Zn rfl U25 Tf.s3 Tf.z3 rfl rfl rfl rfl (.cons rfl rfl .nil) (fun b901 D901 hD901 hA901=>?_);have hS901:=Sl.ofInts (l:=[_]) (n:=1) (cap:=1) hA901 rfl Yd Yd;refine Zi rfl<|L.n5<|Zah ?_;exact leave1 rfl rfl rfl rfl (fun D hD=>by rw[WZ hc1];exact hS901.up RI.up (hD _ Ye))
 ·refine C.kn<|C.s2<|Za rfl<|Zi rfl<|L.n1<|Zai<|cK (γ:=Nat×Value×aC) (fun g=>(hi+1-lo).toNat-g.1) (fun g=>g.1≤(hi+1-lo).toNat∧bM 3 1 g.2.1 g.1 (ints (JC lo g.1)) g.2.2) (fun g=>[(8,g.2.1),(9,.int .i64 (lo+(g.1:Int)))]) [(3,_)] (fun g=>g.2.2++[]) (fun g=>[D]) (0,.slice none 0 0,[]) ⟨by simp,by simpa [ints,JC]using bM.nil⟩ ⟨Ya,Ya,cW⟩ ⟨rfl,cW⟩ (LT _) (aD) ?_;rintro⟨k,v,ν⟩ ⟨h11,ha⟩;simp only at h11 ha;refine C.s2<|Za rfl<|Za rfl<|iW rfl rfl rfl rfl trivial<|L.n1<|aE rfl (fun hc2=>?_) (fun hc2=>?_)
  ·simp only at hc2;refine C.kn<|aK<|Zai<|C.rg<|Za rfl<|Za rfl<|Zn rfl U25 Tf.s3 Tf.z3 rfl rfl rfl rfl (.cons rfl rfl .nil) (fun b902 D902 hD902 hA902=>?_);have hS902:=Sl.ofInts (l:=[_]) (n:=1) (cap:=1) hA902 rfl Yd Yd;refine aV (A:=[]) (B:=_) rfl U25 rfl rfl Tf.s3 Tf.z3 rfl Tf.i3 rfl rfl rfl ha (jM.lit hA902) Ye rfl (by simp[JC]) Yi Yd (aMR rfl) rfl cW (fun v1 ν1 ha1=>?_);have ha2:bM 3 1 v1 (k+1) (ints (JC lo (k+1))) ν1:=by unfold JC;rw[aOF,aMP,aQD,←eQ];exact ha1
   refine Zi rfl<|Zaa<|Zak<|Zag<|C.rg<|Za rfl<|Zw rfl<|Zi rfl<|Zaa ?_;exact aG 13 (k+1,v1,ν1) ⟨by simp only;omega,ha2⟩ Yl ⟨rfl,(by show some (Value.int _ _)=some (Value.int _ _);congr 2;push_cast;omega),cW⟩ rfl rfl (LT _) (fun D h=>⟨D,aRH _ (h),Le.refl D⟩)
  ·have hk:k=(hi+1-lo).toNat:=by simp only at hc2;omega
   rw[hk]at ha;refine aP<|Zaj<|Zaj<|Zam<|Zag<|C.s1<|Za rfl<|Zi rfl<|L.n5<|eN (A:=[]) (B:=[]) ha rfl (fun D2 hD2 hF=>?_);exact leave1 rfl rfl rfl rfl (fun D hD=>by rw[XL hc1];exact(hF.ints (by simp[JC]) Yd).up RI.up (hD _ Ye))
end L3
end Go.Fs
namespace Go.Fs
open Go.Proofs
namespace L3
open L1
open C3
def aJM(n:Int)(l:fE)(x c:Int):List fE:=(eA l.token (-1) 0 (n-1)).map fun t=>⟨x,c,t⟩
def aKW(n:Int)(l:fE)(x:Int):List fE:=(eA l.chair (-1) 0 (n-1)).flatMap (aJM n l x)
def aBJ(n:Int)(l:fE)(k:Nat):List fE:=((eA l.kind 0 1 2).take k).flatMap (aKW n l)
def ZQ(n:Int)(l:fE)(k:Nat)(x:Int)(j:Nat):List fE:=aBJ n l k++((eA l.chair (-1) 0 (n-1)).take j).flatMap (aJM n l x)
def PH(n:Int)(l:fE)(k:Nat)(x:Int)(j:Nat)(c:Int)(i:Nat):List fE:=ZQ n l k x j++((eA l.token (-1) 0 (n-1)).take i).map fun t=>⟨x,c,t⟩
theorem MC{n:Int}{l:fE}:aBJ n l (eA l.kind 0 1 2).length=bR n l:=by unfold aBJ;rw[aNL];rfl
theorem VT{n:Int}{l:fE}{k:Nat}{x:Int}:ZQ n l k x 0=aBJ n l k:=by unfold ZQ;simp
theorem WO{n:Int}{l:fE}{k:Nat}{x:Int}{j:Nat}{c:Int}:PH n l k x j c 0=ZQ n l k x j:=by unfold PH;simp
theorem aEL{n:Int}{l:fE}{k:Nat}{x:Int}(h:(eA l.kind 0 1 2)[k]?= some x):ZQ n l k x (eA l.chair (-1) 0 (n-1)).length=aBJ n l (k+1):=by
 unfold ZQ aBJ;rw[aNL,aMN,h,aOD,aND,aNT];rfl
theorem aBV{n:Int}{l:fE}{k:Nat}{x:Int}{j:Nat}{c:Int}(h:(eA l.chair (-1) 0 (n-1))[j]?= some c):PH n l k x j c (eA l.token (-1) 0 (n-1)).length=ZQ n l k x (j+1):=by
 unfold PH ZQ;rw[aNL,aMN,h,aOD,aND,aNT,aMK];rfl
theorem ZY{n:Int}{l:fE}{k:Nat}{x:Int}{j:Nat}{c:Int}{i:Nat}{t:Int}(h:(eA l.token (-1) 0 (n-1))[i]?= some t):PH n l k x j c (i+1)=PH n l k x j c i++[⟨x,c,t⟩]:=by
 unfold PH;rw[aMN,h,aOD,aMP,←aMK];rfl
theorem rD{s none lo hi:Int}{m:Nat}(h:hi+1-lo≤m)(h1:1≤m):(eA s none lo hi).length≤m:=by
 unfold eA;split
 ·simpa using h1
 ·simp;omega
theorem jI{α β:Type}{f:α→List β}{m:Nat}:∀(l:List α),(∀x∈l,(f x).length≤m)→(l.flatMap f).length≤l.length*m
 | [],_=>by simp
 |x::l,h=>by
  rw[aNQ,aLY,aMI,aOR];have:=jI l fun y hy=>h y (aLZ _ hy)
  have:=h x aMF;omega
theorem ML{n:Int}{l:fE}(hn:n≤4)(x c:Int):(aJM n l x c).length≤4:=by unfold aJM;rw[aOL];exact rD Yd Yd
theorem aES{n:Int}{l:fE}(hn:n≤4)(x:Int):(aKW n l x).length≤16:=by
 unfold aKW;have h1:=jI (m:=4) (f:=aJM n l x) (eA l.chair (-1) 0 (n-1)) fun c _=>ML hn x c
 have h2:=rD (s:=l.chair) (none:= -1) (lo:=0) (hi:=n-1) (m:=4) Yd Yd;omega
theorem NA{n:Int}{l:fE}(hn:n≤4)(k:Nat):(aBJ n l k).length≤32:=by
 unfold aBJ;have h1:=jI (m:=16) (f:=aKW n l) ((eA l.kind 0 1 2).take k) fun x _=>aES hn x
 have h2:=rD (s:=l.kind) (none:=0) (lo:=1) (hi:=2) (m:=2) Yd Yd;have h3:((eA l.kind 0 1 2).take k).length≤(eA l.kind 0 1 2).length:=by rw[aON];omega
 omega
theorem IC{n:Int}{l:fE}(hn:n≤4):(bR n l).length≤32:=by rw[←MC];exact NA hn _
theorem aCH{n:Int}{l:fE}{k:Nat}{x:Int}{j:Nat}{c:Int}{i:Nat}(hn:n≤4):(PH n l k x j c i).length≤60:=by
 unfold PH ZQ;rw[aLY,aLY,aOL];have h0:=NA (l:=l) hn k;have h1:=jI (m:=4) (f:=aJM n l x) ((eA l.chair (-1) 0 (n-1)).take j) fun c _=>ML hn x c
 have h2:=rD (s:=l.chair) (none:= -1) (lo:=0) (hi:=n-1) (m:=4) Yd Yd;have h3:=rD (s:=l.token) (none:= -1) (lo:=0) (hi:=n-1) (m:=4) Yd Yd;have h4:((eA l.chair (-1) 0 (n-1)).take j).length≤4:=by rw[aON];omega
 have h5:((eA l.token (-1) 0 (n-1)).take i).length≤4:=by rw[aON];omega
 omega
def yB(l:List fE):List Value:=l.flatMap fun x=>[.int .i64 x.kind,.int .i64 x.chair,.int .i64 x.token]
theorem EZ(l:List fE):(yB l).length=l.length*3:=by
 induction l with
 |nil=>rfl
 |cons c l ih=>unfold yB at ih ⊢;rw[aNQ,aLY,ih];simp only[aMI,aNX];omega
theorem aAN{l:List fE}{i:Nat}{c:fE}(hi:l[i]?= some c):((yB l).drop (i*3)).take 3=[.int .i64 c.kind,.int .i64 c.chair,.int .i64 c.token]:=by
  induction l generalizing i with
  |nil=>simp at hi
  |cons d l ih=>
    unfold yB at ih ⊢
    rw[aNQ];cases i with
    | zero => obtain rfl : d = c := by simpa using hi
              rfl
    |succ i=>
      rw[aQE,aNM Yah,aNE];have:(i+1)*3- [Value.int .i64 d.kind,Value.int .i64 d.chair,Value.int .i64 d.token].length=i*3:=by simp;omega
      rw[this];exact ih Yaj
theorem _root_.Go.Fs.jY.lins{D:aA}{v:Value}{n:Nat}{l:List fE}(hF:jY D v n (yB l))(hn:l.length=n)(hb:n≤9223372036854775807):Sl D pB 3 v l:=
 hF.sl hn hb fun _i _t hi=>⟨_,rfl,rfl,aAN hi⟩
theorem mL(bv:Value)(b:aZ)(l:fE)(D:aA)(hb:fJ D bv b)(hn:1≤b.chairs∧b.chairs≤4):Fn Tryz.prog 150 #[bv,DY l] D (fun D' v=>Sl D' pB 3 v (bR b.chairs l)):=by
 obtain⟨lv,cv,rfl,hl,hc⟩:=hb;refine enter 52 Tryz.func150 rfl rfl rfl rfl fun h0=>C.s1<|Zt rfl (fun q1 E1 hE1 hB1=>Zt rfl (fun q2 E2 hE2 hB2=>Zi rfl<|L.n4<|Zj rfl Tf.f160_0 rfl<|Zc 0 rfl Tf.a3 rfl hB2 rfl<|bZ rfl rfl rfl (fun D1 hD1=>p8 _ _ _ _ _ Yd Yd) rfl cW (fun v1 D1 hD1 hp1=>?_)))
 have hw1:=hp1;refine aO rfl U25 rfl hw1 rfl rfl trivial<|Za rfl<|L.n1<|Zai<|cK (γ:=Nat×Value×aC) (fun g=>(eA l.kind 0 1 2).length-g.1) (fun g=>g.1≤(eA l.kind 0 1 2).length∧bM 160 3 g.2.1 (aBJ b.chairs l g.1).length (yB (aBJ b.chairs l g.1)) g.2.2) (fun g=>[(4,g.2.1),(15,.int .i64 (g.1:Int))]) [(14,_),(13,_),(3,_),(2,_)] (fun g=>g.2.2++[]) (fun g=>[D1,E2,E1,D]) (0,.slice none 0 0,[]) ⟨by simp,bM.nil⟩ ⟨Ya,Ya,cW⟩ C.rs (LT _) (aD) ?_;rintro⟨k,v,ν⟩ ⟨h1,ha1⟩;simp only at h1 ha1;refine C.s1<|Zac rfl<|L.n2<|aE rfl (fun hc1=>?_) (fun hc1=>?_)
 ·simp only at hc1;have hlw1:=hw1.len;obtain⟨x,hx1⟩:=C.ge (eA l.kind 0 1 2) k;refine C.kn<|aK<|Zai<|C.s1<|Zp rfl U25 Tf.s3 rfl hw1 rfl hx1 (fun b1 o1 cs1 hr1 hcl1 hA1=>?_);obtain rfl:cs1=[.int .i64 _]:=hr1;refine Zc 0 rfl Tf.a3 rfl hA1 rfl<|Zi rfl<|L.n3<|Zj rfl Tf.f160_1 rfl<|Zc 1 rfl Tf.a3 rfl hB2 rfl<|Zj rfl Tf.f36_0 rfl<|Zc 0 rfl Tf.a3 rfl hB1 rfl<|gH rfl rfl rfl Yf rfl trivial<|bZ rfl rfl rfl (fun D2 hD2=>p8 _ _ _ _ _ Yd Yd) rfl cW (fun v2 D2 hD2 hp2=>?_);have hw2:=hp2;refine aO rfl U25 rfl hw2 rfl rfl trivial<|Za rfl<|L.n1<|Zai<|cK (γ:=Nat×Value×aC) (fun g=>(eA l.chair (-1) 0 (b.chairs-1)).length-g.1) (fun g=>g.1≤(eA l.chair (-1) 0 (b.chairs-1)).length∧bM 160 3 g.2.1 (ZQ b.chairs l k x g.1).length (yB (ZQ b.chairs l k x g.1)) g.2.2) (fun g=>[(4,g.2.1),(26,.int .i64 (g.1:Int))]) [(25,_),(24,_),(23,_),(22,_),(21,_),(20,_),(19,_),(6,_),(18,_),(17,_),(16,_),(15,_),(14,_),(13,_),(3,_),(2,_)] (fun g=>g.2.2++[]) (fun g=>[D2,D1,E2,E1,D]) (0,v,ν) ⟨by simp,by rw[VT];exact ha1⟩ ⟨Ya,Ya,cW⟩ C.rs (LT _) (aD) ?_
  rintro⟨j,w,ν2⟩ ⟨h2,haJ⟩;simp only at h2 haJ;refine C.s1<|Zac rfl<|L.n2<|aE rfl (fun hc2=>?_) (fun hc2=>?_)
  ·simp only at hc2;have hlw2:=hw2.len;obtain⟨c,hx2⟩:∃x,(eA l.chair (-1) 0 (b.chairs-1))[j]?= some x:=⟨_,LE Yd⟩
   refine C.kn<|aK<|Zai<|C.s1<|Zp rfl U25 Tf.s3 rfl hw2 rfl hx2 (fun b2 o2 cs2 hr2 hcl2 hA2=>?_);obtain rfl:cs2=[.int .i64 _]:=hr2;refine Zc 0 rfl Tf.a3 rfl hA2 rfl<|Zi rfl<|L.n3<|Zj rfl Tf.f160_2 rfl<|Zc 2 rfl Tf.a3 rfl hB2 rfl<|Zj rfl Tf.f36_0 rfl<|Zc 0 rfl Tf.a3 rfl hB1 rfl<|gH rfl rfl rfl Yf rfl trivial<|bZ rfl rfl rfl (fun D3 hD3=>p8 _ _ _ _ _ Yd Yd) rfl cW (fun v3 D3 hD3 hp3=>?_);have hw3:=hp3;refine aO rfl U25 rfl hw3 rfl rfl trivial<|Za rfl<|L.n1<|Zai<|cK (γ:=Nat×Value×aC) (fun g=>(eA l.token (-1) 0 (b.chairs-1)).length-g.1) (fun g=>g.1≤(eA l.token (-1) 0 (b.chairs-1)).length∧bM 160 3 g.2.1 (PH b.chairs l k x j c g.1).length (yB (PH b.chairs l k x j c g.1)) g.2.2) (fun g=>[(4,g.2.1),(37,.int .i64 (g.1:Int))]) [(36,_),(35,_),(34,_),(33,_),(32,_),(31,_),(30,_),(8,_),(29,_),(28,_),(27,_),(26,_),(25,_),(24,_),(23,_),(22,_),(21,_),(20,_),(19,_),(6,_),(18,_),(17,_),(16,_),(15,_),(14,_),(13,_),(3,_),(2,_)] (fun g=>g.2.2++[]) (fun g=>[D3,D2,D1,E2,E1,D]) (0,w,ν2) ⟨by simp,by rw[WO];exact haJ⟩ ⟨Ya,Ya,cW⟩ C.rs (LT _) (aD) ?_
   rintro⟨i,u,ν3⟩ ⟨h3,haI⟩;simp only at h3 haI;refine C.s1<|Zac rfl<|L.n2<|aE rfl (fun hc3=>?_) (fun hc3=>?_)
   ·simp only at hc3;have hlw3:=hw3.len;obtain⟨t,hx3⟩:∃x,(eA l.token (-1) 0 (b.chairs-1))[i]?= some x:=⟨_,LE Yd⟩
    refine C.kn<|aK<|Zai<|C.s1<|Zp rfl U25 Tf.s3 rfl hw3 rfl hx3 (fun b3 o3 cs3 hr3 hcl3 hA3=>?_);obtain rfl:cs3=[.int .i64 _]:=hr3;refine Zc 0 rfl Tf.a3 rfl hA3 rfl<|Zi rfl<|L.n1<|C.rg<|Za rfl<|Za rfl<|Za rfl<|Za rfl<|Zr [.int .i64 x,.int .i64 c,.int .i64 t] rfl Tf.p160 Tf.z160 rfl rfl<|Zn rfl U33 Tf.s160 Tf.z160 rfl rfl rfl rfl (.cons rfl rfl .nil) (fun b901 D901 hD901 hA901=>?_);have hli:=aCH (n:=b.chairs) (l:=l) (k:=k) (x:=x) (j:=j) (c:=c) (i:=i) Yd;refine aV (A:=[]) (B:=[]) rfl U33 rfl rfl Tf.s160 Tf.z160 rfl Tf.i160 rfl rfl rfl haI (jM.lit hA901) Ye rfl (EZ _) Yi Yd (aMR rfl) rfl cW (fun v7 ν7 ha7=>?_);have hn7:bM 160 3 v7 (PH b.chairs l k x j c (i+1)).length (yB (PH b.chairs l k x j c (i+1))) ν7:=by rw[ZY hx3];simpa [yB]using ha7
    refine Zi rfl<|Zaa<|Zak<|Zag<|C.rg<|Zw rfl<|Za rfl<|Zaa ?_;exact aG 16 (i+1,v7,ν7) ⟨by simp only;omega,hn7⟩ Yl ⟨Ya,Ya,cW⟩ rfl rfl (LT _) (fun D h=>⟨D,aRH _ (h),Le.refl D⟩)
   ·have hi:i=(eA l.token (-1) 0 (b.chairs-1)).length:=by simp only at hc3;omega
    rw[hi,aBV hx2]at haI;refine aP<|Zaj<|Zaj<|Zam<|Zak<|Zag<|C.rg<|Zw rfl<|Za rfl<|Zaa ?_;exact aG 17 (j+1,u,ν3) ⟨by simp only;omega,haI⟩ Yl ⟨Ya,Ya,cW⟩ rfl rfl (LT _) (fun D h=>⟨D,aRH _ (h),Le.refl D⟩)
  ·have hj:j=(eA l.chair (-1) 0 (b.chairs-1)).length:=by simp only at hc2;omega
   rw[hj,aEL hx1]at haJ;refine aP<|Zaj<|Zaj<|Zam<|Zak<|Zag<|C.rg<|Zw rfl<|Za rfl<|Zaa ?_;exact aG 17 (k+1,w,ν2) ⟨by simp only;omega,haJ⟩ Yl ⟨Ya,Ya,cW⟩ rfl rfl (LT _) (fun D h=>⟨D,aRH _ (h),Le.refl D⟩)
 ·have hk:k=(eA l.kind 0 1 2).length:=by simp only at hc1;omega
  rw[hk,MC]at ha1;refine aP<|Zaj<|Zaj<|Zam<|Zag<|C.s1<|Za rfl<|Zi rfl<|L.n5<|eN (A:=[]) (B:=[]) ha1 rfl (fun D2 hD2 hF=>?_);exact leave1 rfl rfl rfl rfl (fun D hD=>(hF.lins rfl (by have:=IC (l:=l) hn.2;omega)).up pB.up (hD _ Ye))
end L3
end Go.Fs
namespace Go.Fs
open Go.Proofs
namespace L3
open L1
open C3
theorem aKJ{b:aZ}(h:((!C1.fP b.chairs 1 4|| !C1.fP b.coin 1 99)|| !C1.fP b.box 0 999)=false):1≤b.chairs∧b.chairs≤4:=by
 simp only[aOM,Bool.not_eq_false',C1.cD]at h;exact h.1.1
theorem aJR{b:aZ}(h:((((!C1.fP b.chairs 1 4|| !C1.fP b.coin 1 99)|| !C1.fP b.box 0 999)|| !b.lines.all (sD b.chairs))|| !b.counts.all (mM b.lines.length))=false):pW b=true∧1≤b.chairs∧b.chairs≤4:=by
 simp only[aOM,Bool.not_eq_false']at h;obtain⟨⟨⟨⟨h1,h2⟩,h3⟩,h4⟩,h5⟩:=h;exact⟨by unfold pW;rw[h1,h2,h3,h4,h5];rfl,(C1.cD.1 h1)⟩
theorem KF{b:aZ}(h:(decide ((8:Int)<b.lines.length)||decide ((4:Int)<b.counts.length))=false):¬(8<b.lines.length∨4<b.counts.length):=by
 simp only[aOM,aNV]at h;omega
theorem VG{b:aZ}(h:(decide ((8:Int)<b.lines.length)||decide ((4:Int)<b.counts.length))=true):aU b=3:=by
 simp only[aNR,aMV]at h;unfold aU;rw[aMT Yd]
theorem aIZ{b:aZ}(h:(decide ((8:Int)<b.lines.length)||decide ((4:Int)<b.counts.length))=false)(h2:((((!C1.fP b.chairs 1 4|| !C1.fP b.coin 1 99)|| !C1.fP b.box 0 999)|| !b.lines.all (sD b.chairs))|| !b.counts.all (mM b.lines.length))=true):aU b=1:=by
 unfold aU;rw[aMM (KF h),aMT]
 revert h2;unfold pW
 generalize C1.fP b.chairs 1 4=x,C1.fP b.coin 1 99=y,C1.fP b.box 0 999=z,b.lines.all (sD b.chairs)=u,b.counts.all (mM b.lines.length)=w;cases x<;>cases y<;>cases z<;>cases u<;>cases w<;>decide
theorem aDX{b:aZ}(h:(decide ((8:Int)<b.lines.length)||decide ((4:Int)<b.counts.length))=false)(h2:pW b=true)(h3:wA b.chairs b.lines>4096):aU b=3:=by
 unfold aU;rw[aMM (KF h),aMM (by rw[h2];simp),aMT h3]
theorem aFD{b:aZ}(h:(decide ((8:Int)<b.lines.length)||decide ((4:Int)<b.counts.length))=false)(h2:pW b=true)(h3:¬wA b.chairs b.lines>4096):aU b=0:=by
 unfold aU;rw[aMM (KF h),aMM (by rw[h2];simp),aMM h3]
theorem GK{n:Int}{ls:List fE}{i:Nat}{x:fE}(hx:ls[i]?= some x):wA n (ls.take (i+1))=min (wA n (ls.take i)*(bR n x).length) 4097:=by
 unfold wA;rw[aMN,hx,aOD,aOA];rfl
theorem ZF(n:Int)(ls:List fE):0≤wA n ls∧wA n ls≤4097:=by
 unfold wA;have key:∀(l:List fE) (m:Int),0≤m∧m≤4097→0≤l.foldl (fun(m:Int) l=>min (m*((bR n l).length:Int)) 4097) m∧l.foldl (fun(m:Int) l=>min (m*((bR n l).length:Int)) 4097) m≤4097:=by
  intro l;induction l with
  |nil=>intro m h;exact h
  |cons x l ih=>
   intro m h;rw[aOI];refine ih _ ⟨?_,by omega⟩;have:0≤m*((bR n x).length:Int):=Int.mul_nonneg h.1 Yd;omega
 exact key ls 1 Yd
theorem aIV{m:Int}{k:Nat}(h:0≤m∧m≤4097)(hk:k≤32):rM .i64 (m*(k:Int)):=by
 have h1:0≤m*(k:Int):=Int.mul_nonneg h.1 Yd;have h2:m*(k:Int)≤4097*32:=Int.mul_le_mul h.2 Yd Yd Yd;simp only[rM];omega
theorem sR(bv:Value)(b:aZ)(D:aA)(hb:fJ D bv b):Fn Tryz.prog 86 #[bv] D (fun _ v=>v=.int .i64 (aU b)):=by
 have hb0:=hb;obtain⟨lv,cv,rfl,hl,hc⟩:=hb;have hll:=hl.len;refine enter 72 Tryz.func86 rfl rfl rfl rfl fun h0=>C.s1<|Zt rfl (fun q1 E1 hE1 hB1=>Zi rfl<|L.n2<|C.drawA [] 1 6 28 (fun _ _ _ h=>bP (P:=Tryz.prog) (fn:=Tryz.f86) _ _ _ h)<|Zq rfl Tf.a36 rfl hB1 Tf.s36<|bH rfl rfl rfl rfl trivial<|Zq rfl Tf.a36 rfl hB1 Tf.s36<|bH rfl rfl rfl rfl trivial<|Zi rfl<|Zi rfl ?_);refine L.n2<|Zai<|C.s1<|Zj rfl Tf.f36_3 rfl<|Zc 3 rfl Tf.a33 rfl hB1 rfl<|aO rfl U33 rfl hl rfl rfl trivial<|dZ rfl rfl rfl rfl trivial<|Za rfl ?_
 refine' L.orK 5 (s:=17) (p:=22) rfl (fun hg1=>?_) (fun hg1=>?_) ?_;rotate_left
 ·refine Zk rfl Tf.f36_4 rfl<|Zd 4 rfl Tf.a34 rfl hB1 rfl<|aO rfl U34 rfl hc rfl rfl ⟨_,rfl,rfl⟩<|dZ rfl rfl rfl rfl ⟨_,rfl,rfl⟩<|Zz rfl ?_;exact L.cu 4
 ·refine Zh rfl<|Zh rfl<|Zh rfl<|Zh rfl<|Zy rfl ?_;exact L.cu 4
 refine Zi rfl<|L.n1<|aI rfl (fun hc1=>?_) (fun hc1=>?_)
 ·refine C.s1<|Zi rfl<|L.n5<|Zal<|Zah ?_;exact leave1 rfl rfl rfl rfl (fun D hD=>by show Value.int _ _=_;rw[VG hc1])
 ·refine C.s1<|Zj rfl Tf.f36_0 rfl<|Zc 0 rfl Tf.a3 rfl hB1 rfl<|Ze rfl (fun D1 hD1=>iG _ _ _ _)<|Zae rfl<|Za rfl ?_;refine' L.orK 5 (s:=28) (p:=33) rfl (fun hg2=>?_) (fun hg2=>?_) ?_;rotate_left
  ·refine Zk rfl Tf.f36_1 rfl<|Zd 1 rfl Tf.a3 rfl hB1 rfl<|Zf rfl (fun D2 hD2=>iG _ _ _ _)<|jD rfl rfl rfl ⟨_,rfl,rfl⟩<|Zz rfl ?_;exact L.cu 4
  ·refine Zh rfl<|Zh rfl<|Zh rfl<|Zh rfl<|Zy rfl ?_;exact L.cu 4
  refine Za rfl ?_;refine' L.orK 5 (s:=34) (p:=39) rfl (fun hg3=>?_) (fun hg3=>?_) ?_;rotate_left
  ·refine Zk rfl Tf.f36_2 rfl<|Zd 2 rfl Tf.a3 rfl hB1 rfl<|Zf rfl (fun D3 hD3=>iG _ _ _ _)<|jD rfl rfl rfl ⟨_,rfl,rfl⟩<|Zz rfl ?_;exact L.cu 4
  ·refine Zh rfl<|Zh rfl<|Zh rfl<|Zh rfl<|Zy rfl ?_;exact L.cu 4
  refine Za rfl ?_;refine' L.orK 6 (s:=40) (p:=46) rfl (fun hg4=>?_) (fun hg4=>?_) ?_;rotate_left
  ·have hch:=aKJ hg4;refine Zk rfl Tf.f36_3 rfl<|Zd 3 rfl Tf.a33 rfl hB1 rfl<|Zb rfl<|Zf rfl (fun D4 hD4=>aDT _ _ _ (sD b.chairs) _ (Sl.at pB.up hD4 Yk Ye) ⟨_,[_],[],rfl,fun r D2 hl=>XV _ b r D2 (hb0.up ((hD4 _ Ye).trans hl)) Yd⟩ rfl)<|jD rfl rfl rfl ⟨_,rfl,rfl⟩<|Zz rfl ?_;exact L.cu 5
  ·refine Zh rfl<|Zh rfl<|Zh rfl<|Zh rfl<|Zh rfl<|Zy rfl ?_;exact L.cu 5
  refine Za rfl ?_;refine' L.orK 6 (s:=47) (p:=53) rfl (fun hg5=>?_) (fun hg5=>?_) ?_;rotate_left
  ·refine Zk rfl Tf.f36_4 rfl<|Zd 4 rfl Tf.a34 rfl hB1 rfl<|Zb rfl<|Zf rfl (fun D5 hD5=>KX _ _ _ (mM b.lines.length) _ (Sl.at qQ.up hD5 Yk Ye) ⟨_,[_],[],rfl,fun r D2 hl=>QJ _ b r D2 (hb0.up ((hD5 _ Ye).trans hl))⟩ rfl)<|jD rfl rfl rfl ⟨_,rfl,rfl⟩<|Zz rfl ?_;exact L.cu 5
  ·refine Zh rfl<|Zh rfl<|Zh rfl<|Zh rfl<|Zh rfl<|Zy rfl ?_;exact L.cu 5
  refine Zi rfl<|L.n1<|aI rfl (fun hc2=>?_) (fun hc2=>?_)
  ·refine C.s1<|Zi rfl<|L.n5<|Zal<|Zah ?_;exact leave1 rfl rfl rfl rfl (fun D hD=>by show Value.int _ _=_;rw[aIZ hc1 hc2])
  ·obtain⟨hok,hch4⟩:=aJR hc2;refine bB<|Zak<|Zag<|C.s1<|Zi rfl<|L.n4<|Zj rfl Tf.f36_3 rfl<|Zc 3 rfl Tf.a33 rfl hB1 rfl<|aO rfl U33 rfl hl rfl rfl trivial<|Za rfl<|L.n1<|Zai ?_;refine bT (γ:=Nat) (fun i=>b.lines.length-i) (fun i=>i≤b.lines.length) (fun i=>[(57,.int .i64 (i:Int)),(5,.int .i64 (wA b.chairs (b.lines.take i)))]) [(56,_),(55,_),(2,_),(1,_)] (fun i=>[E1,D]) 0 Yd ⟨Ya,Ya,cW⟩ C.rs (aD) ?_;rintro i h1;refine C.s1<|Zac rfl<|L.n2<|aE rfl (fun hc3=>?_) (fun hc3=>?_)
   ·have hi:i<b.lines.length:=by omega
    obtain⟨x,hx⟩:=C.ge b.lines i;refine C.kn<|aK<|Zai<|C.s1<|Zp rfl U33 Tf.s160 rfl hl rfl hx (fun b1 o1 cs1 hr1 hcl1 hA1=>?_);obtain rfl:cs1=[.int .i64 _,.int .i64 _,.int .i64 _]:=hr1;refine Zq rfl Tf.a160 rfl hA1 Tf.s160<|Zv rfl Tf.z160 rfl (fun q2=>Zu rfl Tf.s160 (bS.head)<|L.n1<|C.rg<|Za rfl<|Zq rfl Tf.a36 rfl hB1 Tf.s36<|Zs rfl Tf.a160 rfl (List.Mem.head _) Tf.s160<|bZ rfl rfl rfl (fun D6 hD6=>mL _ b x _ (hb0.up (hD6 _ Ye)) Yd) rfl cW (fun v6 D6 hD6 hp6=>?_));have hr3:=hp6;have hrl:=IC (l:=x) (n:=b.chairs) Yd;have hmk:=ZF b.chairs (b.lines.take i);refine aO rfl U33 rfl hr3 rfl rfl trivial<|Z9 rfl rfl rfl (aIV hmk hrl) rfl trivial<|Zn rfl U25 Tf.s3 Tf.z3 rfl rfl rfl rfl (.cons rfl rfl (.cons rfl rfl .nil)) (fun b901 D901 hD901 hA901=>?_);have hS901:=Sl.ofInts (l:=[_,_]) (n:=2) (cap:=2) hA901 rfl Yd Yd;refine Ze rfl (fun D7 hD7=>uB _ _ [4097] _ (hS901.up RI.up (hD7 _ Ye)))<|Zi rfl<|Zaa<|Zak<|Zag<|C.rg<|Zw rfl<|Za rfl<|Zaa ?_;exact aG 17 (i+1) Yd Yd ⟨Ya,(by rw[GK hx];rfl),cW⟩ rfl rfl (List.Sublist.cons _ (LT _)) (fun D h=>⟨D,aRH _ (aRH _ (h)),Le.refl D⟩)
   ·obtain rfl:i=b.lines.length:=by omega
    rw[aNL];refine aP<|Zaj<|Zaj<|Zam<|Zag<|C.s2<|Za rfl<|dZ rfl rfl rfl rfl trivial<|L.n1<|aE rfl (fun hc4=>?_) (fun hc4=>?_)
    ·refine C.s1<|Zi rfl<|L.n5<|Zah ?_;exact leave1 rfl rfl rfl rfl (fun D hD=>by show Value.int _ _=_;rw[aDX hc1 hok hc4])
    ·refine C.kn<|C.s1<|Zi rfl<|L.n5 ?_;exact leave1 rfl rfl rfl rfl (fun D hD=>by show Value.int _ _=_;rw[aFD hc1 hok hc4])
end L3
end Go.Fs
namespace Go.Fs
open Go.Proofs
namespace L3
open L1
section
variable{P:Program}{X:Cx}{γb:Type}[Membership Nat γb]{bad:γb}{all:Array Oper}{K:Act→World→Prop}{Q:Exit→Act→World→Prop}
variable{σ:bI}{μ:aC}{Ds:List aA}{os:List (Bool×Nat)}{fl:Bool}{ix:Nat}
variable{d:Nat}{x y z:Operand}{u v:Value}{ty:TypeId}{pos:String}{aft:Array Edge}{g:Option (Nat×Bool)}
theorem nW{t:TypeId}{b k:Nat}{l:List Int}{n:Int}{e:TypeId}{μ':aC}(ho:all[ix]?= some ⟨none,.store t x y,ty,pos,aft,g⟩)(hs:TS P t 1)(hx:ev σ x=some (.pointer (some ⟨b,k,none⟩)))(hy:ev σ y=some (.int .i64 n))
  (hm:bS μ b (.cells (ints l).toArray e (0,0)) (.cells (ints (l.set k n)).toArray e (0,0)) μ') (hl:k<l.length) (hfl:fl=false∨b∈bad) (hg:cY all σ g)
  (kk:WL P X bad all K Q os σ μ' Ds):WL P X bad all K Q ((fl,ix)::os) σ μ Ds:=by
 have hil:(ints l).length=l.length:=aJ l;refine gF (off:=k) (us:=[.int .i64 n]) (vs:=ints l) (ws:=ints (l.set k n)) ho hx hy rfl hs hm (by simp[hil];omega) ?_ (fun u hu=>by simp at hu;subst hu;rfl) hfl hg kk
 rw[show ints (l.set k n)=(ints l).set k (.int .i64 n) by simp[ints,List.map_set],List.set_eq_take_append_cons_drop,aMT (by rw[hil];exact hl)];simp
end
open C3
theorem nC{q a b:Nat}(h:a=b):some (Value.pointer (some ⟨q,a,none⟩))=some (Value.pointer (some ⟨q,b,none⟩)):=by rw[h]
theorem vI{s:Sc}(h4:s.ch.length=4)(h5:s.tk.length=4):(iI s).length=10:=by unfold iI;simp[h4,h5]
theorem aGG{s:Sc}(h4:s.ch.length=4){c:Int}(hc:0≤c∧c<4):(ints (iI s))[0+c.toNat*1]?= some (.int .i64 (kF s.ch c)):=by
 rw[aPC,aPE];refine cA ?_;unfold iI kF;rw[aMK,aOV Yd,aOB,LE Yd];rfl
theorem aFT{s:Sc}(h4:s.ch.length=4)(h5:s.tk.length=4){c:Int}(hc:0≤c∧c<4):(ints (iI s))[0+4+c.toNat*1]?= some (.int .i64 (kF s.tk c)):=by
 rw[aPE];refine cA ?_;unfold iI kF;rw[aMK,aQL Yd,aOV Yd,aOB,show 0+4+c.toNat-s.ch.length=c.toNat by omega,LE Yd];rfl
theorem n8{l:List Int}(h:l.length=4):∃a b c d,l=[a,b,c,d]:=by
 match l,h with
 | [a,b,c,d],_=>exact⟨a,b,c,d,rfl⟩
theorem uL{s:Sc}(h4:s.ch.length=4)(h5:s.tk.length=4):(iI s)[8]?= some s.money:=by
 obtain⟨a,b,c,d,e⟩:=n8 h4;obtain⟨a',b',c',d',e'⟩:=n8 h5;unfold iI;rw[e,e'];rfl
theorem CB{s:Sc}(h4:s.ch.length=4)(h5:s.tk.length=4):(iI s)[9]?= some s.mixed:=by
 obtain⟨a,b,c,d,e⟩:=n8 h4;obtain⟨a',b',c',d',e'⟩:=n8 h5;unfold iI;rw[e,e'];rfl
theorem LM{s:Sc}(h4:s.ch.length=4)(h5:s.tk.length=4){c t:Int}(hc:0≤c∧c<4)(ht:0≤t∧t<4)(x y m:Int):
  (((iI s).set c.toNat x).set (4+t.toNat) y).set 8 m=iI ⟨s.ch.set c.toNat x,s.tk.set t.toNat y,m,s.mixed⟩∧∀z,((((iI s).set 9 z).set c.toNat x).set (4+t.toNat) y).set 8 m=iI ⟨s.ch.set c.toNat x,s.tk.set t.toNat y,m,z⟩:=by
 obtain⟨a,b,c',d,e⟩:=n8 h4;obtain⟨a',b',c'',d',e'⟩:=n8 h5;unfold iI;rw[e,e'];have hc':c.toNat=0∨c.toNat=1∨c.toNat=2∨c.toNat=3:=by omega
 have ht':t.toNat=0∨t.toNat=1∨t.toNat=2∨t.toNat=3:=by omega
 rcases hc' with h|h|h|h<;>rcases ht' with h'|h'|h'|h'<;>rw[h,h']<;>exact⟨rfl,fun _=>rfl⟩
theorem aGK{s:Sc}{l:fE}(h:((!(decide (kF s.ch l.chair≠0)==decide (l.kind=2)))||(!(decide (kF s.tk l.token≠0)==decide (l.kind=2))))=true):eI s l=false:=by
 unfold eI
 revert h
 generalize decide (kF s.ch l.chair≠0)=a,decide (kF s.tk l.token≠0)=c,decide (l.kind=2)=e;cases a<;>cases c<;>cases e<;>decide
theorem aEN{s:Sc}{l:fE}(h:((!(decide (kF s.ch l.chair≠0)==decide (l.kind=2)))||(!(decide (kF s.tk l.token≠0)==decide (l.kind=2))))=false):eI s l=true:=by
 unfold eI
 revert h
 generalize decide (kF s.ch l.chair≠0)=a,decide (kF s.tk l.token≠0)=c,decide (l.kind=2)=e;cases a<;>cases c<;>cases e<;>decide
theorem aID{b:aZ}{s:Sc}{i:Int}{l:fE}(h:eI s l=false):Value.tuple #[.agg (ints (iI s)).toArray,.bool false]=.tuple #[GO (if eI s l=true then bW b s i l else s),.bool (eI s l)]:=by rw[h];rfl
theorem o8{b:aZ}{s:Sc}{i:Int}{l:fE}{L:List Int}(h:eI s l=true)(hL:L=iI (bW b s i l)):Value.tuple #[.agg (ints L).toArray,.bool true]=.tuple #[GO (if eI s l=true then bW b s i l else s),.bool (eI s l)]:=by rw[h,hL];rfl
theorem j9{b:aZ}{s:Sc}{i:Int}{l:fE}{L:List Int}(h4:s.ch.length=4)(h5:s.tk.length=4)(hc:0≤l.chair∧l.chair<4)(ht:0≤l.token∧l.token<4)(hk:l.kind=2)
  (h:(kF s.ch l.chair≠kF s.tk l.token∧L=(iI s).set 9 (s.mixed+1))∨(kF s.ch l.chair=kF s.tk l.token∧L=iI s)):((L.set l.chair.toNat 0).set (4+l.token.toNat) 0).set 8 (s.money-b.coin)=iI (bW b s i l):=by
 obtain⟨g1,g2⟩:=LM h4 h5 hc ht 0 0 (s.money-b.coin);unfold bW;rw[aMT hk];rcases h with⟨e,rfl⟩|⟨e,rfl⟩
 ·rw[g2,aMT e]
 ·rw[g1,aMM (by rw[e];simp)]
theorem XD{b:aZ}{s:Sc}{i:Int}{l:fE}(h4:s.ch.length=4)(h5:s.tk.length=4)(hc:0≤l.chair∧l.chair<4)(ht:0≤l.token∧l.token<4)(hk:l.kind≠2):
  (((iI s).set l.chair.toNat (i+1)).set (4+l.token.toNat) (i+1)).set 8 (s.money+b.coin)=iI (bW b s i l):=by
 rw[(LM h4 h5 hc ht (i+1) (i+1) (s.money+b.coin)).1];unfold bW;rw[aMM hk]
theorem pL(bv:Value)(b:aZ)(s:Sc)(i:Int)(l:fE)(D:aA)(hb:fJ D bv b)(h4:s.ch.length=4)(h5:s.tk.length=4)(hc:0≤l.chair∧l.chair<4)(ht:0≤l.token∧l.token<4)(hi:0≤i∧i≤100)(hm: -100000≤s.money∧s.money≤100000)(hx:0≤s.mixed∧s.mixed≤1000)(hn:0≤b.coin∧b.coin≤99):
  Fn Tryz.prog 233 #[bv,GO s,.int .i64 i,DY l] D (fun _ v=>v=.tuple #[GO (if eI s l=true then bW b s i l else s),.bool (eI s l)]):=by
 obtain⟨lv,cv,rfl,hl,hcn⟩:=hb;have hs10:=vI h4 h5;refine enter 83 Tryz.func233 rfl rfl rfl rfl fun h0=>C.s1<|Zt rfl (fun q1 E1 hE1 hB1=>j0 rfl (e:=207) rfl rfl rfl cW (fun q2=>Zt rfl (fun q3 E3 hE3 hB3=>Zv rfl Tf.z207 rfl (fun q4=>Zi rfl<|L.n3<|Zj rfl Tf.f160_0 rfl<|Zc 0 rfl Tf.a3 rfl hB3 rfl<|dU rfl rfl rfl rfl trivial<|Zi rfl ?_))));refine L.n4<|Zj rfl Tf.f160_1 rfl<|Zc 1 rfl Tf.a3 rfl hB3 rfl<|Zj rfl Tf.f207_0 rfl<|dN rfl U205 Tf.s3 rfl rfl Yd Yd rfl trivial<|aT (v:=.int .i64 (kF s.ch l.chair)) rfl Tf.a3 rfl (aRH _ (GE _)) (aGG h4 hc) GT rfl trivial<|Zaf rfl<|Za rfl<|s6 rfl U4 rfl rfl rfl trivial<|Za rfl ?_
 refine' L.orK 9 (s:=22) (p:=31) rfl (fun hg1=>?_) (fun hg1=>?_) ?_;rotate_left
 ·refine Zk rfl Tf.f160_2 rfl<|Zd 2 rfl Tf.a3 rfl hB3 rfl<|Zk rfl Tf.f207_1 rfl<|dN rfl U205 Tf.s3 rfl rfl Yd Yd rfl ⟨_,rfl,rfl⟩<|aT (v:=.int .i64 (kF s.tk l.token)) rfl Tf.a3 rfl (aRH _ (GE _)) (aFT h4 h5 ht) GT rfl ⟨_,rfl,rfl⟩<|mS rfl rfl rfl rfl ⟨_,rfl,rfl⟩<|Zb rfl<|s6 rfl U4 rfl rfl rfl ⟨_,rfl,rfl⟩<|Zz rfl ?_;exact L.cu 8
 ·refine Zh rfl<|Zh rfl<|Zh rfl<|Zh rfl<|Zh rfl<|Zh rfl<|Zh rfl<|Zh rfl<|Zy rfl ?_;exact L.cu 8
 refine L.n1<|aI rfl (fun hc1=>?_) (fun hc1=>?_)
 ·refine C.s1<|bA (e:=207) (fz:=(0,0)) rfl Tf.a207 rfl (aRH _ (GE _)) (by rw[show(ints _).length=10 by simp[hs10]];exact Tf.s207) GT rfl trivial<|bK rfl rfl rfl rfl Tf.s207 (by simp[hs10]) (by rfl) .head (bU _) trivial<|Zi rfl<|L.n5<|Zah ?_;exact Zm [_,_] rfl ⟨⟨_,_,_,rfl,(List.Mem.head _),Or.inr ⟨Tf.a207,(by rw[show(ints _).toArray.size=10 by simp[hs10]];exact Tf.s207),rfl⟩⟩,rfl,cW⟩ (fun D hD=>aID (aGK hc1))
 ·have hcan:eI s l=true:=aEN hc1;refine C.kn<|C.s2<|Za rfl<|L.n1<|aE rfl (fun hc2=>?_) (fun hc2=>?_)
  ·have hk2:l.kind=2:=by simpa using hc2
   refine aK<|aK<|C.drawA [] 4 11 996 (fun _ _ _ h=>bP (P:=Tryz.prog) (fn:=Tryz.f233) _ _ _ h)<|Zj rfl Tf.f160_1 rfl<|Zc 1 rfl Tf.a3 rfl hB3 rfl<|Zj rfl Tf.f207_0 rfl<|dN rfl U205 Tf.s3 rfl rfl Yd Yd rfl trivial<|aT (v:=.int .i64 (kF s.ch l.chair)) rfl Tf.a3 rfl (aRH _ (GE _)) (aGG h4 hc) GT rfl trivial<|Zj rfl Tf.f160_2 rfl<|Zc 2 rfl Tf.a3 rfl hB3 rfl<|Zj rfl Tf.f207_1 rfl<|dN rfl U205 Tf.s3 rfl rfl Yd Yd rfl cW ?_;refine aT (v:=.int .i64 (kF s.tk l.token)) rfl Tf.a3 rfl (aRH _ (GE _)) (aFT h4 h5 ht) GT rfl trivial<|Zaf rfl<|L.n1<|aE rfl (fun hc3=>?_) (fun hc3=>?_)
   ·refine C.rg<|Zj rfl Tf.f207_3 rfl<|aT (v:=.int .i64 s.mixed) rfl Tf.a3 rfl (aRH _ (GE _)) (cA (CB h4 h5)) GT rfl trivial<|Zw rfl<|Zj rfl Tf.f207_3 rfl<|rI (k:=9) rfl Tf.s3 rfl rfl (.tail bS.head) Yw trivial<|L.n2<|iE (dF.mk [q3]) 2 [0,1,2,3,4,5,7,6,8,9] [false,false,true,true,true,true,true,true,false,false] [(false,0),(false,1),(true,2),(true,3),(true,4),(true,5),(true,7),(true,6),(false,8),(false,9)] Tf.follows (fun _ _ _ h=>bP (P:=Tryz.prog) (fn:=Tryz.f233) _ _ _ h) Yg rfl<|Zj rfl Tf.f160_1 rfl<|bC rfl (k:=1) Tf.a3 rfl hB3 Yc rfl (dF.out Ye) rfl trivial<|Zj rfl Tf.f160_2 rfl<|bC rfl (k:=2) Tf.a3 rfl hB3 Yc rfl (dF.out Ye) rfl cW ?_;refine Zj rfl Tf.f207_0 rfl<|dN rfl U205 Tf.s3 rfl rfl Yd Yd rfl trivial<|Zj rfl Tf.f207_1 rfl<|bD hB3 Ye (fun hap=>nW (k:=l.chair.toNat) rfl Tf.s3 (nC Yd) rfl (.tail bS.head) Yw (aMD (dF.in_ Yt)) trivial<|dN rfl U205 Tf.s3 rfl rfl Yd Yd rfl trivial<|bD hB3 Ye (fun hap=>nW (k:=4+l.token.toNat) rfl Tf.s3 (nC Yd) rfl (.tail bS.head) Yw (aMD (dF.in_ Yt)) trivial<|L.n3<|Zj rfl Tf.f207_2 rfl<|aT (v:=.int .i64 s.money) rfl Tf.a3 rfl (aRH _ (GE _)) (cA Yab) GT rfl trivial<|Zj rfl Tf.f36_1 rfl ?_));refine Zc 1 rfl Tf.a3 rfl hB1 rfl<|gH rfl rfl rfl Yf rfl trivial<|Zj rfl Tf.f207_2 rfl<|rI (k:=8) rfl Tf.s3 rfl rfl (.tail bS.head) Yw trivial<|L.n3<|bA (e:=207) (fz:=(0,0)) rfl Tf.a207 rfl (aRH _ (GE _)) (by rw[show(ints _).length=10 by simp[hs10]];exact Tf.s207) GT rfl trivial<|bK rfl rfl rfl rfl Tf.s207 (by simp[hs10]) (by rfl) .head (bU _) trivial<|Zi rfl<|L.n5<|Zah ?_
    exact Zm [_,_] rfl ⟨⟨_,_,_,rfl,(GE _),aMD ⟨Tf.a207,(by rw[show(ints _).toArray.size=10 by simp[hs10]];exact Tf.s207),rfl⟩⟩,rfl,cW⟩ (fun D hD=>o8 hcan (j9 h4 h5 hc ht hk2 (aMR ⟨by simpa using hc3,rfl⟩)))
   ·refine C.kn<|aK<|iE (dF.mk [q3]) 2 [0,1,2,3,4,5,7,6,8,9] [false,false,true,true,true,true,true,true,false,false] [(false,0),(false,1),(true,2),(true,3),(true,4),(true,5),(true,7),(true,6),(false,8),(false,9)] Tf.follows (fun _ _ _ h=>bP (P:=Tryz.prog) (fn:=Tryz.f233) _ _ _ h) Yg rfl<|Zj rfl Tf.f160_1 rfl<|bC rfl (k:=1) Tf.a3 rfl hB3 Yc rfl (dF.out Ye) rfl trivial<|Zj rfl Tf.f160_2 rfl<|bC rfl (k:=2) Tf.a3 rfl hB3 Yc rfl (dF.out Ye) rfl trivial<|Zj rfl Tf.f207_0 rfl<|dN rfl U205 Tf.s3 rfl rfl Yd Yd rfl trivial<|Zj rfl Tf.f207_1 rfl<|bD hB3 Ye (fun hap=>nW (k:=l.chair.toNat) rfl Tf.s3 (nC Yd) rfl (.tail bS.head) Yw (aMD (dF.in_ Yt)) cW ?_);refine dN rfl U205 Tf.s3 rfl rfl Yd Yd rfl trivial<|bD hB3 Ye (fun hap=>nW (k:=4+l.token.toNat) rfl Tf.s3 (nC Yd) rfl (.tail bS.head) Yw (aMD (dF.in_ Yt)) trivial<|L.n3<|Zj rfl Tf.f207_2 rfl<|aT (v:=.int .i64 s.money) rfl Tf.a3 rfl (aRH _ (GE _)) (cA Yab) GT rfl trivial<|Zj rfl Tf.f36_1 rfl<|Zc 1 rfl Tf.a3 rfl hB1 rfl<|gH rfl rfl rfl Yf rfl trivial<|Zj rfl Tf.f207_2 rfl<|rI (k:=8) rfl Tf.s3 rfl rfl (.tail bS.head) Yw trivial<|L.n3 ?_);refine bA (e:=207) (fz:=(0,0)) rfl Tf.a207 rfl (aRH _ (GE _)) (by rw[show(ints _).length=10 by simp[hs10]];exact Tf.s207) GT rfl trivial<|bK rfl rfl rfl rfl Tf.s207 (by simp[hs10]) (by rfl) .head (bU _) trivial<|Zi rfl<|L.n5<|Zah ?_
    exact Zm [_,_] rfl ⟨⟨_,_,_,rfl,(GE _),aMD ⟨Tf.a207,(by rw[show(ints _).toArray.size=10 by simp[hs10]];exact Tf.s207),rfl⟩⟩,rfl,cW⟩ (fun D hD=>o8 hcan (j9 h4 h5 hc ht hk2 (aMD ⟨by simpa using hc3,rfl⟩)))
  ·have hk2:l.kind≠2:=by simpa using hc2
   refine C.kn<|aK<|iE (dF.mk [q3]) 2 [0,1,2,3,4,5,6,7,8,9,11,10,12,13] [false,false,true,true,true,true,true,true,true,true,true,true,false,false] [(false,0),(false,1),(true,2),(true,3),(true,4),(true,5),(true,6),(true,7),(true,8),(true,9),(true,11),(true,10),(false,12),(false,13)] Tf.follows (fun _ _ _ h=>bP (P:=Tryz.prog) (fn:=Tryz.f233) _ _ _ h) Yg rfl<|Zj rfl Tf.f160_1 rfl<|bC rfl (k:=1) Tf.a3 rfl hB3 Yc rfl (dF.out Ye) rfl trivial<|Zj rfl Tf.f160_2 rfl<|bC rfl (k:=2) Tf.a3 rfl hB3 Yc rfl (dF.out Ye) rfl trivial<|Za rfl<|Zw rfl<|Za rfl<|Zw rfl<|Zj rfl Tf.f207_0 rfl ?_;refine dN rfl U205 Tf.s3 rfl rfl Yd Yd rfl trivial<|Zj rfl Tf.f207_1 rfl<|bD hB3 Ye (fun hap=>nW (k:=l.chair.toNat) rfl Tf.s3 (nC Yd) rfl (.tail bS.head) Yw (aMD (dF.in_ Yt)) trivial<|dN rfl U205 Tf.s3 rfl rfl Yd Yd rfl trivial<|bD hB3 Ye (fun hap=>nW (k:=4+l.token.toNat) rfl Tf.s3 (nC Yd) rfl (.tail bS.head) Yw (aMD (dF.in_ Yt)) trivial<|L.n3<|Zj rfl Tf.f207_2 rfl<|aT (v:=.int .i64 s.money) rfl Tf.a3 rfl (aRH _ (GE _)) (cA Yab) GT rfl trivial<|Zj rfl Tf.f36_1 rfl<|Zc 1 rfl Tf.a3 rfl hB1 rfl ?_));refine Zw rfl<|Zj rfl Tf.f207_2 rfl<|rI (k:=8) rfl Tf.s3 rfl rfl (.tail bS.head) Yw trivial<|L.n3<|bA (e:=207) (fz:=(0,0)) rfl Tf.a207 rfl (aRH _ (GE _)) (by rw[show(ints _).length=10 by simp[hs10]];exact Tf.s207) GT rfl trivial<|bK rfl rfl rfl rfl Tf.s207 (by simp[hs10]) (by rfl) .head (bU _) trivial<|Zi rfl<|L.n5 ?_
   exact Zm [_,_] rfl ⟨⟨_,_,_,rfl,(GE _),aMD ⟨Tf.a207,(by rw[show(ints _).toArray.size=10 by simp[hs10]];exact Tf.s207),rfl⟩⟩,rfl,cW⟩ (fun D hD=>o8 hcan (XD h4 h5 hc ht hk2))
end L3
end Go.Fs
namespace Go.Fs
open Go.Proofs
namespace L3
open L1
open C3
theorem FJ(c:Cn)(ba bs:Nat)(a:Int)(s:Sc)(D:aA)(h4:s.ch.length=4)(h5:s.tk.length=4)(hA:At D ba 0 [.int .i64 a])(hS:At D bs 0 (ints (iI s))):
  Fn Tryz.prog 280 #[aGT c,.pointer (some ⟨ba,0,none⟩),.pointer (some ⟨bs,0,none⟩)] D (fun _ v=>v=.bool (decide (c.after≠a)||C1.fP s.money c.lo c.hi)):=by
 refine enter 16 Tryz.func280 rfl rfl rfl rfl fun h0=>C.s1<|Zt rfl (fun q1 E1 hE1 hB1=>Zi rfl<|L.n3<|Zj rfl Tf.f162_0 rfl<|Zc 0 rfl Tf.a3 rfl hB1 rfl<|Zc 0 rfl Tf.a3 rfl hA rfl<|Zaf rfl<|Za rfl ?_)
 refine' L.orK 6 (s:=9) (p:=15) rfl (fun hg1=>?_) (fun hg1=>?_) ?_;rotate_left
 ·refine Zk rfl Tf.f162_1 rfl<|cR rfl (k:=1) Tf.a65 Tf.s65 rfl hB1 Yc rfl rfl GT rfl ⟨_,rfl,rfl⟩<|Zk rfl Tf.f207_2 rfl<|bC (v:=.int .i64 s.money) rfl (k:=8) Tf.a3 rfl hS Yc (cA (uL h4 h5)) GT rfl ⟨_,rfl,rfl⟩<|Zf rfl (fun D1 hD1=>aDR (c.lo,c.hi) _ _)<|Zz rfl ?_;exact L.cu 5
 ·refine Zh rfl<|Zh rfl<|Zh rfl<|Zh rfl<|Zh rfl<|Zy rfl ?_;exact L.cu 5
 refine Zi rfl<|L.n5 ?_;exact leave1 rfl rfl rfl rfl (fun D hD=>rfl)
theorem S1(bv:Value)(b:aZ)(s:Sc)(a:Int)(D:aA)(hb:fJ D bv b)(h4:s.ch.length=4)(h5:s.tk.length=4):Fn Tryz.prog 231 #[bv,GO s,.int .i64 a] D (fun _ v=>v=.bool (eY b s a)):=by
 obtain⟨lv,cv,rfl,hl,hc⟩:=hb;refine enter 11 Tryz.func231 rfl rfl rfl rfl fun h0=>C.s1<|Zt rfl (fun q1 E1 hE1 hB1=>Zt rfl (fun q2 E2 hE2 hB2=>Zt rfl (fun q3 E3 hE3 hB3=>Zi rfl<|L.n3<|Zj rfl Tf.f36_4 rfl<|Zc 4 rfl Tf.a34 rfl hB1 rfl<|bH rfl rfl rfl rfl trivial<|Ze rfl (fun D1 hD1=>KX _ _ _ (fun c=>decide (c.after≠a)||C1.fP s.money c.lo c.hi) _ (Sl.at qQ.up hD1 Yk Ye) ⟨_,[],[_,_],rfl,fun c D2 hl=>FJ c _ _ a s D2 h4 h5 (hB3.up ((hD1 _ Ye).trans hl)) (hB2.up ((hD1 _ Ye).trans hl))⟩ rfl)<|Zi rfl ?_)));refine L.n5 ?_
 exact leave1 rfl rfl rfl rfl (fun D hD=>rfl)
theorem qC(bv:Value)(b:aZ)(D:aA)(hb:fJ D bv b):Fn Tryz.prog 153 #[bv] D (fun _ v=>v=GO (eG b)):=by
 obtain⟨lv,cv,rfl,hl,hc⟩:=hb;refine enter 6 Tryz.func153 rfl rfl rfl rfl fun h0=>C.s1<|Zt rfl (fun q1 E1 hE1 hB1=>Zv rfl Tf.z207 rfl (fun q2=>L.n3<|Zj rfl Tf.f36_2 rfl<|Zc 2 rfl Tf.a3 rfl hB1 rfl<|Zr [.int .i64 0,.int .i64 0,.int .i64 0,.int .i64 0,.int .i64 0,.int .i64 0,.int .i64 0,.int .i64 0,.int .i64 b.box,.int .i64 0] rfl Tf.p207 Tf.z207 rfl rfl<|Zu rfl Tf.s207 (bS.head)<|L.n5 ?_))
 exact Zm [_] rfl ⟨⟨_,_,_,rfl,(GE _),aMD ⟨Tf.a207,(by first|exact Tf.s207|(simp only[aNG,aJ, *];exact Tf.s207)),rfl⟩⟩,cW⟩ (fun D hD=>rfl)
end L3
end Go.Fs
namespace Go.Fs
open Go.Proofs
namespace L3
open L1
open C3
structure SB(b:aZ):Prop where
 ch:1≤b.chairs∧b.chairs≤4
 co:1≤b.coin∧b.coin≤99
 bx:0≤b.box∧b.box≤999
 l8:b.lines.length≤8
 c4:b.counts.length≤4
 ln:∀l∈b.lines,sD b.chairs l=true
theorem aKQ{b:aZ}(h:aU b=0):SB b:=by
 unfold aU at h;split at h
 ·omega
 ·rename_i h1;split at h
  ·omega
  ·rename_i h2;have h3:pW b=true:=by simpa using h2
   unfold pW at h3;simp only[aMC,C1.cD,aMU]at h3;exact⟨h3.1.1.1.1,h3.1.1.1.2,h3.1.1.2,by omega,by omega,h3.1.2⟩
def bQ(l:List Sc):List Value:=l.flatMap fun s=>ints (iI s)
structure aKO(b:aZ)(s:Sc)(k:Nat):Prop where
 lc:s.ch.length=4
 lt:s.tk.length=4
 mo:b.box-99*(k:Int)≤s.money∧s.money≤b.box+99*(k:Int)
 mi:0≤s.mixed∧s.mixed≤k
theorem tW{b:aZ}(hb:SB b){s:Sc}{k:Nat}(h:aKO b s k)(l:fE)(i:Int):aKO b (bW b s i l) (k+1):=by
 have:=hb.co;have:=h.mo;have:=h.mi;unfold bW;split
 ·refine⟨by simp[h.lc],by simp[h.lt],?_,?_⟩
  ·simp only;push_cast;omega
  ·simp only;split<;>push_cast<;>omega
 ·refine⟨by simp[h.lc],by simp[h.lt],?_,?_⟩
  ·simp only;push_cast;omega
  ·simp only;push_cast;omega
theorem wY{l:List Sc}(h:∀s∈l,(iI s).length=10){i:Nat}{s:Sc}(hi:l[i]?= some s):((bQ l).drop (i*10)).take 10=ints (iI s):=by
 induction l generalizing i with
 |nil=>simp at hi
 |cons u l ih=>
  have hu:(ints (iI u)).length=10:=by rw[aJ,h u aMF]
  have e:bQ (u::l)=ints (iI u)++bQ l:=rfl;rw[e];cases i with
  |zero=>
   obtain rfl:u=s:=by simpa using hi
   rw[aQF,aPZ,aNP Yd,aNA Yd]
  |succ i=>
   rw[aQE,aNM Yd,aNE,hu,show(i+1)*10-10=i*10 by omega];exact ih (fun t ht=>h t (aLZ _ ht)) Yaj
end L3
end Go.Fs
namespace Go.Fs
open Go.Proofs
namespace L3
open L1
open C3
end L3
end Go.Fs
namespace Go.Fs
open Go.Proofs
namespace L3
open L1
open C3
def TO(l:List Int)(k:Nat):List Int:=(List.range 4).map fun j=>if j<k then min (l.getD j 0) 1 else 0
theorem aBB{l:List Int}{k:Nat}{x:Int}(hx:l[k]?= some x):(TO l k).set k (min x 1)=TO l (k+1):=by
 apply aRB;intro i;unfold TO;rw[List.getElem?_set,aNB,aNB];simp only[aOL,List.length_range];by_cases hi:i<4
 ·rw[aQS hi];simp only[aNN];by_cases e:k=i
  ·subst e;rw[aMT rfl,aMT hi,aMT Yd,aOB,hx];rfl
  ·rw[aMM e];by_cases h:i<k
   ·rw[aMT h,aMT Yd]
   ·rw[aMM h,aMM Yd]
 ·rw[aPH Yaj];by_cases e:k=i
  ·subst e;rw[aMT rfl,aMM hi];rfl
  ·rw[aMM e];rfl
theorem aCI{l:List Int}(h:l.length=4):TO l 4=tD l:=by
 obtain⟨a,b,c,d,rfl⟩:=n8 h;rfl
theorem S5(l:List Int)(D:aA)(h4:l.length=4):Fn Tryz.prog 232 #[.agg (ints l).toArray] D (fun _ v=>v=.agg (ints (tD l)).toArray):=by
 refine enter 17 Tryz.func232 rfl rfl rfl rfl fun h0=>C.s1<|Zt rfl (fun q1 E1 hE1 hB1=>Zv rfl Tf.z205 rfl (fun q2=>L.n4<|cU rfl Tf.a205 rfl hB1 Yj (by rw[show(ints _).length=4 by simp[h4]];exact Tf.s205) GT rfl trivial<|Za rfl<|L.n1<|Zai<|cK (γ:=Nat) (fun k=>4-k) (fun k=>k≤4) (fun k=>[(6,.int .i64 (k:Int))]) [(5,_),(2,_)] (fun k=>[(q2,.cells (ints (TO l k)).toArray 205 (0,0))]) (fun k=>[E1,D]) 0 Yd ⟨Ya,cW⟩ C.rs (LT _) (aD) ?_))
 rintro k h1;refine C.s1<|Zac rfl<|L.n2<|aE rfl (fun hc1=>?_) (fun hc1=>?_)
 ·have hk:k<4:=by omega
  obtain⟨x,hx0⟩:=C.ge l k;have hx:l[((k:Nat):Int).toNat]?= some x:=by simpa using hx0
  have hstep:=aBB hx0;refine C.kn<|aK<|Zai<|C.s1<|Za rfl<|R6 (l:=l) rfl U205 Tf.a3 Tf.s3 rfl rfl Yd Yd hx rfl trivial<|Zi rfl<|Zi rfl<|L.n1<|C.rg<|Za rfl<|Za rfl ?_;refine Zn rfl U25 Tf.s3 Tf.z3 rfl rfl rfl rfl (.cons rfl rfl (.cons rfl rfl .nil)) (fun b901 D901 hD901 hA901=>?_);have hS901:=Sl.ofInts (l:=[_,_]) (n:=2) (cap:=2) hA901 rfl Yd Yd;refine Ze rfl (fun D1 hD1=>uB _ x [1] _ (hS901.up RI.up (hD1 _ Ye)))<|dN rfl U205 Tf.s3 rfl rfl Yd Yd rfl trivial<|rI (k:=k) rfl Tf.s3 (nC Yd) rfl .head (by simp[TO];omega) cW ?_
  rw[show(TO l k).set k (List.foldl min x [1])=TO l (k+1)from hstep];refine Zaa<|Zak<|Zag<|C.rg<|Zw rfl<|Za rfl<|Zaa ?_;exact aG 13 (k+1) Yd Yd ⟨Ya,cW⟩ rfl rfl (LT _) (fun D h=>⟨D,aRH _ (h),Le.refl D⟩)
 ·obtain rfl:k=4:=by omega
  refine aP<|Zaj<|Zaj<|Zam<|Zag<|C.s1<|bA (e:=205) (fz:=(0,0)) rfl Tf.a205 rfl (GE _) (by rw[show(ints _).length=4 by simp[TO]];exact Tf.s205) GT rfl trivial<|bK rfl rfl rfl rfl Tf.s205 (by simp[TO]) (by simp[TO]) .head (bU _) trivial<|L.n5 ?_;exact Zm [_] rfl ⟨⟨_,_,_,rfl,(List.Mem.head _),Or.inr ⟨Tf.a205,(by rw[show(ints _).toArray.size=4 by simp[TO]];exact Tf.s205),rfl⟩⟩,cW⟩ (fun D hD=>by show Value.agg _=_;rw[aCI h4])
theorem aGV:KS Tryz.prog 358 9:=by
 have hf:(Tryz.prog.fieldsOf 358).toList=[(Tryz.prog.fieldsOf 358)[0]!,(Tryz.prog.fieldsOf 358)[1]!,(Tryz.prog.fieldsOf 358)[2]!]:=by kernel_rfl
 refine⟨by kernel_rfl,by kernel_rfl,by kernel_rfl,?_⟩;rw[hf];refine .cons (hU.int Yad Yg Yg) (.cons (n:=4) (hU.arr (e:=3) Yad Yg Yg Yg Yg ?_ ?_) (.cons (n:=4) (hU.arr (e:=3) Yad Yg Yg Yg Yg ?_ ?_) .nil))
 ·rw[show((Tryz.prog.fieldsOf 358)[1]!).type=205 by kernel_rfl];exact Tf.a205
 ·rw[show((Tryz.prog.fieldsOf 358)[1]!).type=205 by kernel_rfl];exact Tf.s205
 ·rw[show((Tryz.prog.fieldsOf 358)[2]!).type=205 by kernel_rfl];exact Tf.a205
 ·rw[show((Tryz.prog.fieldsOf 358)[2]!).type=205 by kernel_rfl];exact Tf.s205
theorem aIL:KM Tryz.prog 358 4:=⟨(Tryz.prog.fieldsOf 358)[0]!,(Tryz.prog.fieldsOf 358)[1]!,(Tryz.prog.fieldsOf 358)[2]!,3,by kernel_rfl,by kernel_rfl,by decide+kernel,by decide+kernel,by decide+kernel,by kernel_rfl,by kernel_rfl,by kernel_rfl,by kernel_rfl,by kernel_rfl,by kernel_rfl,by kernel_rfl,
 by rw[show((Tryz.prog.fieldsOf 358)[1]!).type=205 by kernel_rfl];exact Tf.a205,by rw[show((Tryz.prog.fieldsOf 358)[1]!).type=205 by kernel_rfl];exact Tf.s205,by rw[show((Tryz.prog.fieldsOf 358)[2]!).type=205 by kernel_rfl];exact Tf.a205,by rw[show((Tryz.prog.fieldsOf 358)[2]!).type=205 by kernel_rfl];exact Tf.s205,Tf.s3⟩
theorem sY:I0 Tryz.prog 358 (qB (n:=9)):=KM.key aIL aGV
end L3
end Go.Fs
namespace Go.Fs
open Go.Proofs
namespace L3
open L1
section
variable{P:Program}{X:Cx}{γb:Type}[Membership Nat γb]{bad:γb}{all:Array Oper}{K:Act→World→Prop}{Q:Exit→Act→World→Prop}
variable{σ:bI}{μ:aC}{Ds:List aA}{os:List (Bool×Nat)}
theorem V6(k:(μ.map fun p=>p.1).Nodup→WL P X bad all K Q os σ μ Ds):WL P X bad all K Q os σ μ Ds:=fun a w hh=>by
 obtain⟨_,_,_,D,hs,_⟩:=id hh;exact k hs.nd a w hh
end
theorem zP{w q1 q3 q4:Nat}{o o3:Obj}{R:aC}(h1:w∉aC.ks ((q4,o)::(q3,o3)::R))(h2:q1∉aC.ks ((q4,o)::(q3,o3)::R))(h3:(((q4,o)::(q3,o3)::R).map fun p=>p.1).Nodup):q4∉[w,q1,q3]:=by
 simp only[aMZ,aNW,aLX,not_or]at h1 h2 h3;intro h;simp only[aLX,GT,aNU]at h;rcases h with rfl|rfl|rfl
 ·exact h1.1 rfl
 ·exact h2.1 rfl
 ·exact h3.1.1 rfl
open C3
def sN(b:aZ)(Mm:List (lR 9×Bool)):Prop:=∀p∈Mm,∀(i:Nat) (s:Sc),Q8 b s→TM s→s.ch.length=4→p.1.l=ZM s i→p.2=eX b (b.lines.drop i) i s
theorem sN.nil{b:aZ}:sN b []:=fun p hp=>by cases hp
theorem sN.add{b:aZ}{Mm M':List (lR 9×Bool)}{i:Nat}{s:Sc}{a:lR 9}{r:Bool}(h:sN b Mm)(hm:∀p∈M',p∈Mm∨p=(a,r))(ha:a.l=ZM s i)(hi:Q8 b s)(hp:TM s)(h4:s.ch.length=4)(hr:r=eX b (b.lines.drop i) i s):sN b M':=by
 intro p hp' i' s' hi' hps' h4' he;rcases hm p hp' with h1|h1
 ·exact h p h1 i' s' hi' hps' h4' he
 ·subst h1;simp only at he ⊢
  rw[ha]at he;obtain⟨e1,e2⟩:=VR (ls:=b.lines.drop i) he hi hi' hp hps' h4 h4';rw[hr,←e1];exact e2.trans (by rw[←e1])
theorem y2{a c d:Value}{lv cv lv' cv':Value}(h:Value.agg #[a,c,d,lv,cv]=.agg #[a,c,d,lv',cv']):lv=lv'∧cv=cv':=by
 simp at h;exact h
theorem aFR{b:aZ}{ls:List fE}{i:Nat}{s:Sc}(h:eY b s i=false):eX b ls i s=false:=by
 cases ls with
 |nil=>exact h
 |cons l ls=>unfold eX;rw[h];rfl
theorem WW{b:aZ}{i:Nat}{s:Sc}(h:eY b s i=true)(hi:(i:Int)=(b.lines.length:Int)):eX b (b.lines.drop i) i s=true:=by
 rw[aNM Yd];exact h
def o7(b:aZ)(i:Nat)(s:Sc)(r:fE):Bool:=eI s r&&eX b (b.lines.drop (i+1)) (i+1) (bW b s i r)
theorem C6{b:aZ}{i:Nat}{s:Sc}{r:fE}(h:eI s r=true):eX b (b.lines.drop (i+1)) (i+1) (bW b s i r)=o7 b i s r:=by unfold o7;rw[h];rfl
theorem Y7{b:aZ}{i:Nat}{s:Sc}{r:fE}(h:eI s r=false):false=o7 b i s r:=by unfold o7;rw[h];rfl
theorem wV{b:aZ}{s:Sc}{i:Int}{r:fE}(h4:s.ch.length=4)(h5:s.tk.length=4):(iI (bW b s i r)).length=10:=by
 unfold bW;split
 ·exact vI (by simp[h4]) (by simp[h5])
 ·exact vI (by simp[h4]) (by simp[h5])
theorem xW{mb cl:Nat}{es:Array MapEntry}:∀p∈[(mb,Obj.map es cl)],cQ p.2:=by
 intro p hp;simp only[aLX,GT,aNU]at hp;subst hp;trivial
set_option maxHeartbeats 1000000 in
theorem u5{b:aZ}{bv lv cv:Value}{wb mb:Nat}(hbo:SB b)(hbv:bv=.agg #[.int .i64 b.chairs,.int .i64 b.coin,.int .i64 b.box,lv,cv]):
  ∀(j i:Nat) (s:Sc) (es:Array MapEntry) (cl:Nat) (Mm:List (lR 9×Bool)) (D:aA),i+j=b.lines.length→aKO b s i→TM s→Q8 b s→oZ qB Value.bool es Mm→sN b Mm→fJ D bv b→At D wb 0 [.int .i64 b.chairs,.int .i64 b.coin,.int .i64 b.box,lv,cv,.map (some mb)]→
  T1 Tryz.prog 152 [.pointer (some ⟨wb,0,none⟩),GO s,.int .i64 (i:Int)] D [(mb,.map es cl)] (fun _ v ν'=>v=.bool (eX b (b.lines.drop i) i s)∧∃es' cl' M',ν'=[(mb,.map es' cl')]∧oZ qB Value.bool es' M'∧sN b M'):=by
 subst hbv;intro j;induction j using Nat.strongRecOn with
 |_ j ih=>
 intro i s es cl Mm D hij hsb hsp hsi hM hok hb0 hA;obtain⟨ch,tk,mo,mi⟩:=s;obtain⟨c0,c1,c2,c3,rfl⟩:=n8 hsb.lc;obtain⟨k0,k1,k2,k3,rfl⟩:=n8 hsb.lt;have hb:=hb0;obtain⟨lv',cv',he,hl,hc⟩:=hb;obtain⟨rfl,rfl⟩:=y2 he;have hl8:=hbo.l8;have hch:=hbo.ch;have hco:=hbo.co;have hbx:=hbo.bx;have hmo:=hsb.mo;have hmi:=hsb.mi;simp only at hmo hmi;show T1 _ _ [.pointer (some ⟨wb,0,none⟩),.agg #[.int .i64 c0,.int .i64 c1,.int .i64 c2,.int .i64 c3,.int .i64 k0,.int .i64 k1,.int .i64 k2,.int .i64 k3,.int .i64 mo,.int .i64 mi],.int .i64 (i:Int)] _ _ _;refine fZ 94 Tryz.func152 rfl rfl rfl rfl (fun h0 hwl hwn=>C.s1<|Zt rfl (fun q1 E1 hE1 hB1=>Zi rfl<|L.n2<|aK<|C.drawA [] 5 8 48 (fun _ _ _ h=>aW (P:=Tryz.prog) (fn:=Tryz.f152) _ _ _ h)<|Za rfl<|Zad rfl<|Zj rfl Tf.f297_0 rfl<|cR rfl (k:=0) Tf.a36 Tf.s36 rfl hA Yc rfl rfl GT rfl trivial<|Zq rfl Tf.a207 rfl hB1 Tf.s207 ?_));refine Za rfl<|Ze rfl (fun D1 hD1=>S1 _ b (⟨[c0,c1,c2,c3],[k0,k1,k2,k3],mo,mi⟩:Sc) i _ (hb0.up (hD1 _ Ye)) rfl rfl)<|Zae rfl<|L.n1<|aI rfl (fun hc1=>?_) (fun hc1=>?_)
 ·refine C.s1<|Zi rfl<|L.n5<|Zah ?_;exact Zx [] [] [_] [_] rfl ⟨rfl,cW⟩ rfl (fun D' hD=>⟨aMQ Value.bool (aFR (by simpa using hc1)).symm,es,cl,Mm,rfl,hM,hok⟩)
 ·have hcd:eY b (⟨[c0,c1,c2,c3],[k0,k1,k2,k3],mo,mi⟩:Sc) i=true:=by simpa using hc1
  refine C.kn<|C.s2<|Za rfl<|Za rfl<|Zad rfl<|Zj rfl Tf.f297_0 rfl<|Zj rfl Tf.f36_3 rfl<|Zc 3 rfl Tf.a33 rfl hA rfl<|aO rfl U33 rfl hl rfl rfl trivial<|dU rfl rfl rfl rfl trivial<|L.n1<|aE rfl (fun hc2=>?_) (fun hc2=>?_)
  ·refine C.s1<|Zi rfl<|L.n5<|Zah ?_;exact Zx [] [] [_] [_] rfl ⟨rfl,cW⟩ rfl (fun D' hD=>⟨aMQ Value.bool (WW hcd hc2).symm,es,cl,Mm,rfl,hM,hok⟩)
  ·have hil:i<b.lines.length:=by omega
   obtain⟨z,hz⟩:=C.ge b.lines i;have hdr:b.lines.drop i=z::b.lines.drop (i+1):=by rw[aNZ hil];congr 1;exact aMY ((LE hil).symm.trans hz)
   refine C.kn<|aK<|jV [] 3 [false,true,true,true,true,true,true,false,true,false] [.fork [0,1,2,4,5] 3 (.fork [] 6 (.fin [7,8]) 8 (.fin [6,7])) 8 (.fin [3,6,7]),.fin [9]] Tf.follows (fun _ _ _ h=>aW (P:=Tryz.prog) (fn:=Tryz.f152) _ _ _ h) Yg ?_;apply XJ (γ:=Nat) (fun _=>True) _ _ _ [.fork [0,1,2,4,5] 3 (.fork [] 6 (.fin [7,8]) 8 (.fin [6,7])) 8 (.fin [3,6,7])] [.fin [9]] rfl
   ·refine nA<|bG [(false,0),(true,1),(true,2),(true,4),(true,5)] rfl<|Za rfl<|Zj rfl Tf.f207_0 rfl<|cR rfl (k:=0) Tf.a205 Tf.s205 rfl hB1 Yc rfl rfl GT rfl trivial<|Zj rfl Tf.f207_1 rfl<|cR rfl (k:=4) Tf.a205 Tf.s205 rfl hB1 Yc rfl rfl GT rfl trivial<|Zaa (dB true true rfl rfl ?_ ?_)
    ·refine Ze rfl (fun D2 hD2=>S5 [c0,c1,c2,c3] _ rfl)<|Zaa<|bG [] rfl<|Zaa (dB true true rfl rfl ?_ ?_)
     ·refine Ze rfl (fun D3 hD3=>S5 [k0,k1,k2,k3] _ rfl)<|Zaa<|aR [(false,7),(true,8)] rfl<|iH (cs:=[.int .i64 (i:Int),.int .i64 (min c0 1),.int .i64 (min c1 1),.int .i64 (min c2 1),.int .i64 (min c3 1),.int .i64 (min k0 1),.int .i64 (min k1 1),.int .i64 (min k2 1),.int .i64 (min k3 1)]) rfl Tf.p358 Tf.z358 rfl Yg rfl trivial<|Zv rfl Tf.z358 rfl (fun q2=>Zaa ?_);exact fun a w hh=>⟨q2,cW,hh⟩
     ·refine Zv rfl Tf.z358 rfl (fun q2=>Zaa<|aR [(true,6),(false,7)] rfl<|Ze rfl (fun D3 hD3=>S5 [k0,k1,k2,k3] _ rfl)<|iH (cs:=[.int .i64 (i:Int),.int .i64 (min c0 1),.int .i64 (min c1 1),.int .i64 (min c2 1),.int .i64 (min c3 1),.int .i64 (min k0 1),.int .i64 (min k1 1),.int .i64 (min k2 1),.int .i64 (min k3 1)]) rfl Tf.p358 Tf.z358 rfl Yg rfl trivial<|Zaa ?_);exact fun a w hh=>⟨q2,cW,hh.weak C.rs (LT _) aD⟩
    ·refine Zv rfl Tf.z358 rfl (fun q2=>Zaa<|aR [(true,3),(true,6),(false,7)] rfl<|Ze rfl (fun D2 hD2=>S5 [c0,c1,c2,c3] _ rfl)<|Ze rfl (fun D3 hD3=>S5 [k0,k1,k2,k3] _ rfl)<|iH (cs:=[.int .i64 (i:Int),.int .i64 (min c0 1),.int .i64 (min c1 1),.int .i64 (min c2 1),.int .i64 (min c3 1),.int .i64 (min k0 1),.int .i64 (min k1 1),.int .i64 (min k2 1),.int .i64 (min k3 1)]) rfl Tf.p358 Tf.z358 rfl Yg rfl trivial<|Zaa ?_);exact fun a w hh=>⟨q2,cW,hh.weak C.rs (LT _) aD⟩
   rintro q2 -;refine hP [(false,9)] rfl<|Zu rfl Tf.s358 (bS.head)<|Zaa<|iC<|Zag<|aK<|C.drawA [] 6 11 784 (fun _ _ _ h=>aW (P:=Tryz.prog) (fn:=Tryz.f152) _ _ _ h)<|Za rfl<|Zad rfl<|Zj rfl Tf.f297_1 rfl<|Zc 5 rfl Tf.a295 rfl hA rfl<|Zs rfl Tf.a358 rfl (List.Mem.head _) Tf.s358 ?_;refine A5 (val:=qB (n:=9)) (wal:=Value.bool) (a:=⟨[(i:Int),min c0 1,min c1 1,min c2 1,min c3 1,min k0 1,min k1 1,min k2 1,min k3 1],rfl⟩) rfl U295 sY Tf.z4 rfl rfl (aRH _ (GE _)) GT hM rfl cW (fun nv ok hin hout=>Za rfl<|Zab rfl<|Zab rfl<|Zi rfl<|Zi rfl<|L.n4<|Za rfl<|L.n1<|aI rfl (fun hc3=>?_) (fun hc3=>?_))
   ·obtain⟨r,rfl,hmem⟩:=hin hc3;refine C.s1<|Za rfl<|Zi rfl<|L.n5<|Zah ?_;exact Zx [(_,_)] [] [_] [_] rfl ⟨rfl,cW⟩ rfl (fun D' hD=>⟨aMQ Value.bool (hok _ hmem i (⟨[c0,c1,c2,c3],[k0,k1,k2,k3],mo,mi⟩:Sc) hsi hsp rfl rfl),es,cl,Mm,rfl,hM,hok⟩)
   ·obtain rfl:=hout hc3;refine C.kn<|aK<|aK<|iE [] 3 [0,1,2,3,4,5,6,7,8,9,10,11,14,12,13] [false,false,false,false,true,true,true,true,true,true,true,true,true,true,true] [(false,0),(false,1),(false,2),(false,3),(true,4),(true,5),(true,6),(true,7),(true,8),(true,9),(true,10),(true,11),(true,14),(true,12),(true,13)] Tf.follows (fun _ _ _ h=>aW (P:=Tryz.prog) (fn:=Tryz.f152) _ _ _ h) Yg rfl<|Za rfl<|Zad rfl<|Zj rfl Tf.f297_0 rfl<|cR rfl (k:=0) Tf.a36 Tf.s36 rfl hA Yc rfl rfl GT rfl trivial<|Za rfl<|Zad rfl<|Zj rfl Tf.f297_0 rfl<|Zj rfl Tf.f36_3 rfl ?_;refine Zc 3 rfl Tf.a33 rfl hA rfl<|Za rfl<|Zp rfl U33 Tf.s160 rfl hl rfl hz (fun b1 o1 cs1 hr1 hcl1 hA1=>?_);obtain rfl:cs1=[.int .i64 _,.int .i64 _,.int .i64 _]:=hr1;refine Zq rfl Tf.a160 rfl hA1 Tf.s160<|Za rfl<|bZ rfl rfl rfl (fun D4 hD4=>mL _ b z _ (hb0.up (hD4 _ Ye)) Yd) rfl cW (fun v4 D4 hD4 hp4=>?_);have hr:=hp4;have hrl:=hr.len;refine aO rfl U33 rfl Yk rfl rfl trivial<|L.n1<|Zai<|cK (γ:=Nat×Array MapEntry×Nat×List (lR 9×Bool)) (fun g=>(bR b.chairs z).length-g.1) (fun g=>g.1≤(bR b.chairs z).length∧((bR b.chairs z).take g.1).any (fun r=>o7 b i (⟨[c0,c1,c2,c3],[k0,k1,k2,k3],mo,mi⟩:Sc) r)=false∧oZ qB Value.bool g.2.1 g.2.2.2∧sN b g.2.2.2) (fun g=>[(63,.int .i64 (g.1:Int)),(8,.bool false)]) [(62,_),(61,_),(7,_),(6,_),(4,_),(0,_),(2,_)] (fun g=>[(q2,.cells [.int .i64 (i:Int),.int .i64 (min c0 1),.int .i64 (min c1 1),.int .i64 (min c2 1),.int .i64 (min c3 1),.int .i64 (min k0 1),.int .i64 (min k1 1),.int .i64 (min k2 1),.int .i64 (min k3 1)].toArray 358 (0,0)),(mb,.map g.2.1 g.2.2.1)]) (fun g=>[D4,E1,D]) (0,es,cl,Mm) ⟨by simp,rfl,hM,hok⟩ ⟨Ya,Ya,cW⟩ C.rs (LT _) (aD) ?_;rintro⟨k,es2,cl2,M2⟩ ⟨h1,hno,hM2,hok2⟩;simp only at h1 hno hM2 hok2;refine C.s1<|Zac rfl<|L.n2<|aE rfl (fun hc4=>?_) (fun hc4=>?_)
    ·simp only at hc4;obtain⟨x,hx⟩:=C.ge (bR b.chairs z) k;have hin:=((nR (hbo.ln z (aLW hz))).1 (aLW hx)).1;refine C.kn<|aK<|Zai<|C.s1<|Zp rfl U33 Tf.s160 rfl hr rfl hx (fun b2 o2 cs2 hr2 hcl2 hA2=>?_);obtain rfl:cs2=[.int .i64 _,.int .i64 _,.int .i64 _]:=hr2;refine Zq rfl Tf.a160 rfl hA2 Tf.s160<|Zv rfl Tf.z160 rfl (fun q3=>Zu rfl Tf.s160 (bS.head)<|L.n2 ?_);have hif:(iI (if eI (⟨[c0,c1,c2,c3],[k0,k1,k2,k3],mo,mi⟩:Sc) x=true then(bW b (⟨[c0,c1,c2,c3],[k0,k1,k2,k3],mo,mi⟩:Sc) i x)else(⟨[c0,c1,c2,c3],[k0,k1,k2,k3],mo,mi⟩:Sc))).length=10:=by split;exact wV rfl rfl;rfl
     have hnl:(iI (bW b (⟨[c0,c1,c2,c3],[k0,k1,k2,k3],mo,mi⟩:Sc) i x)).length=10:=wV rfl rfl;refine jV (dF.mk [wb,q1,q3]) 6 [false,false,false,false,true,true,true,true,false,false,true,true,true,false] [.fork [0,1,2,3,4,5,6] 7 (.fin [8,9,10,11]) 11 (.fin [7,8,9,10]),.fin [12,13]] Tf.follows (fun _ _ _ h=>aW (P:=Tryz.prog) (fn:=Tryz.f152) _ _ _ h) Yg ?_;apply XJ (γ:=Nat) (fun _=>True) _ _ _ [.fork [0,1,2,3,4,5,6] 7 (.fin [8,9,10,11]) 11 (.fin [7,8,9,10])] [.fin [12,13]] rfl
     ·refine nA<|bG [(false,0),(false,1),(false,2),(false,3),(true,4),(true,5),(true,6)] rfl<|Za rfl<|Zad rfl<|Zj rfl Tf.f297_0 rfl<|cR rfl (k:=0) Tf.a36 Tf.s36 rfl hA Yc rfl rfl (dF.out Ye) rfl trivial<|cU rfl Tf.a207 rfl hB1 Yj Tf.s207 (dF.out Ye) rfl trivial<|Za rfl<|bA rfl Tf.a160 rfl (List.Mem.head _) Tf.s160 (dF.out Ye) rfl trivial<|Zaa (dB true true rfl rfl ?_ ?_)
      ·refine Ze rfl (fun D5 hD5=>pL _ b (⟨[c0,c1,c2,c3],[k0,k1,k2,k3],mo,mi⟩:Sc) i x _ (hb0.up (hD5 _ Ye)) rfl rfl (by have:=hin.2;omega) (by have:=hin.2;omega) Yd (by show -100000≤mo∧mo≤100000;omega) (by show 0≤mi∧mi≤1000;omega) Yd)<|Zaa<|aR [(false,8),(false,9),(true,10),(true,11)] rfl<|Za rfl<|Zab rfl<|Zab rfl<|Zv rfl Tf.z207 rfl (fun q4=>Zaa ?_);exact fun a w hh=>⟨q4,cW,hh⟩
      ·refine Zv rfl Tf.z207 rfl (fun q4=>Zaa<|aR [(true,7),(false,8),(false,9),(true,10)] rfl<|Ze rfl (fun D5 hD5=>pL _ b (⟨[c0,c1,c2,c3],[k0,k1,k2,k3],mo,mi⟩:Sc) i x _ (hb0.up (hD5 _ Ye)) rfl rfl (by have:=hin.2;omega) (by have:=hin.2;omega) Yd (by show -100000≤mo∧mo≤100000;omega) (by show 0≤mi∧mi≤1000;omega) Yd)<|Za rfl<|Zab rfl<|Zab rfl<|Zaa ?_);exact fun a w hh=>⟨q4,cW,hh.weak C.rs (LT _) aD⟩
     rintro q4 -;refine hP [(true,12),(false,13)] rfl<|bD hA Ye (fun hap1=>bD hB1 Ye (fun hap2=>V6 (fun hnd=>gF (off:=0) (us:=ints (iI (if eI (⟨[c0,c1,c2,c3],[k0,k1,k2,k3],mo,mi⟩:Sc) x=true then(bW b (⟨[c0,c1,c2,c3],[k0,k1,k2,k3],mo,mi⟩:Sc) i x)else(⟨[c0,c1,c2,c3],[k0,k1,k2,k3],mo,mi⟩:Sc)))) (ws:=ints (iI (if eI (⟨[c0,c1,c2,c3],[k0,k1,k2,k3],mo,mi⟩:Sc) x=true then(bW b (⟨[c0,c1,c2,c3],[k0,k1,k2,k3],mo,mi⟩:Sc) i x)else(⟨[c0,c1,c2,c3],[k0,k1,k2,k3],mo,mi⟩:Sc)))) rfl rfl rfl rfl (by rw[show(ints _).length=10 by simp[hif]];exact Tf.s207) .head (by simp[hif]) (by simp[hif]) (bU _) (aMD (dF.in_ (zP hap1 hap2 hnd))) trivial<|Zi rfl<|Zaa<|iC<|Zag<|C.s1<|Za rfl<|Za rfl ?_)));refine B8 (γ:=Bool×Array MapEntry×Nat×List (lR 9×Bool)) (fun g=>g.1=o7 b i (⟨[c0,c1,c2,c3],[k0,k1,k2,k3],mo,mi⟩:Sc) x∧oZ qB Value.bool g.2.1 g.2.2.2∧sN b g.2.2.2) (fun g=>g.1) (fun g=>[(q4,.cells (ints (iI (if eI (⟨[c0,c1,c2,c3],[k0,k1,k2,k3],mo,mi⟩:Sc) x=true then(bW b (⟨[c0,c1,c2,c3],[k0,k1,k2,k3],mo,mi⟩:Sc) i x)else(⟨[c0,c1,c2,c3],[k0,k1,k2,k3],mo,mi⟩:Sc)))).toArray 207 (0,0)),(q3,.cells [.int .i64 x.kind,.int .i64 x.chair,.int .i64 x.token].toArray 160 (0,0)),(q2,.cells [.int .i64 (i:Int),.int .i64 (min c0 1),.int .i64 (min c1 1),.int .i64 (min c2 1),.int .i64 (min c3 1),.int .i64 (min k0 1),.int .i64 (min k1 1),.int .i64 (min k2 1),.int .i64 (min k3 1)].toArray 358 (0,0)),(mb,.map g.2.1 g.2.2.1)]) [(false,2),(false,3),(false,4),(false,5),(false,6),(false,7)] [] (s:=79) (p:=85) rfl rfl (fun hg1=>?_) (fun hg1=>?_) ?_
     ·have hgc:=hg1;rw[aMT hgc];refine Zb rfl<|bA (e:=207) (fz:=(0,0)) rfl Tf.a207 rfl (GE _) (by rw[show(ints _).length=10 by simp[hnl]];exact Tf.s207) GT rfl ⟨_,rfl,rfl⟩<|Zb rfl<|qU rfl rfl rfl Yf rfl ⟨_,rfl,rfl⟩<|aF ([(_,_),(_,_),(_,_)]++[(_,_)]++([])) rfl<|dL (A:=[(_,_),(_,_),(_,_)]) (ν:=[(_,_)]) (B:=[]) rfl rfl rfl rfl (aMR rfl) xW (fun D9 hD9=>ih (j-1) Yd (i+1) (bW b (⟨[c0,c1,c2,c3],[k0,k1,k2,k3],mo,mi⟩:Sc) i x) es2 cl2 M2 _ Yd (tW hbo hsb x i) (mU hsp i x) (qS hsi rfl hgc hin.2.1 (by have:=hin.2.2.1;omega)) hM2 hok2 (hb0.up (hD9 _ Ye)) (hA.up (hD9 _ Ye))) rfl ⟨_,rfl,rfl⟩ (fun v9 D10 _ hD10 hp9=>?_)
      obtain⟨rfl,es3,cl3,M3,rfl,hM3,hok3⟩:=hp9;refine Zy rfl ?_;exact kT fun a w hh=>⟨(_,es3,cl3,M3),⟨C6 Yk,hM3,hok3⟩,(hh.cutK 5 rfl).ds (fun _ h=>aRH _ (h))⟩
     ·refine Zh rfl<|Zh rfl<|Zh rfl<|Zh rfl<|Zh rfl<|Zz rfl ?_;exact kT fun a w hh=>⟨(false,es2,cl2,M2),⟨Y7 Yk,hM2,hok2⟩,hh.cutK 5 rfl⟩
     rintro⟨bm,es3,cl3,M3⟩ ⟨hbm,hM3,hok3⟩;simp only at hbm hM3 hok3;refine L.n1<|aI rfl (fun hc5=>?_) (fun hc5=>?_)
     ·obtain rfl:bm=true:=hc5;have hres:true=eX b (b.lines.drop i) i (⟨[c0,c1,c2,c3],[k0,k1,k2,k3],mo,mi⟩:Sc):=by rw[hdr,eX,hcd,aPM];exact(aPT.2 ⟨x,aLW hx,hbm.symm⟩).symm
      refine C.s1<|Zi rfl<|L.n1<|aP<|gQ rfl<|Zaj<|Zaj<|Zam<|Zag<|aK<|C.drawA [] 3 7 48 (fun _ _ _ h=>aW (P:=Tryz.prog) (fn:=Tryz.f152) _ _ _ h)<|Za rfl ?_;refine Zad rfl<|Zj rfl Tf.f297_1 rfl<|Zc 5 rfl Tf.a295 rfl hA rfl<|Zs rfl Tf.a358 rfl (List.Mem.tail _ (List.Mem.tail _ (List.Mem.head _))) Tf.s358<|Za rfl<|jO (val:=qB (n:=9)) (wal:=Value.bool) (A:=[(_,_),(_,_),(_,_)]) (B:=[]) (a:=⟨[(i:Int),min c0 1,min c1 1,min c2 1,min c3 1,min k0 1,min k1 1,min k2 1,min k3 1],rfl⟩) (n:=true) rfl U295 sY rfl rfl rfl hM3 cW (fun es9 cl9 M9 hM9 hm9=>L.n3<|Za rfl<|Zi rfl<|L.n5 ?_);exact Zx [(_,_),(_,_),(_,_)] [] [_] [_] rfl ⟨rfl,cW⟩ rfl (fun D' hD=>⟨aMQ Value.bool hres,es9,cl9,M9,rfl,hM9,hok3.add hm9 rfl hsi hsp rfl hres⟩)
     ·obtain rfl:bm=false:=hc5;have hgo:o7 b i (⟨[c0,c1,c2,c3],[k0,k1,k2,k3],mo,mi⟩:Sc) x=false:=hbm.symm;refine bB<|Zak<|Zag<|C.rg<|Zw rfl<|Za rfl<|Zaa ?_;exact aG 24 (k+1,es3,cl3,M3) ⟨by simp only;omega,by simp only;rw[aMN,hx,aOY,hno];simp[hgo],hM3,hok3⟩ Yl ⟨Ya,Ya,cW⟩ rfl rfl (List.Sublist.cons _ (List.Sublist.cons _ (LT _))) (aD)
    ·obtain rfl:k=(bR b.chairs z).length:=by simp only at hc4;omega
     rw[aNL]at hno;have hres:false=eX b (b.lines.drop i) i (⟨[c0,c1,c2,c3],[k0,k1,k2,k3],mo,mi⟩:Sc):=by rw[hdr,eX,hcd];exact hno.symm
     refine aP<|Zaj<|Zaj<|Zam<|Zag<|aK<|C.drawA [] 3 7 48 (fun _ _ _ h=>aW (P:=Tryz.prog) (fn:=Tryz.f152) _ _ _ h)<|Za rfl<|Zad rfl<|Zj rfl Tf.f297_1 rfl<|Zc 5 rfl Tf.a295 rfl hA rfl<|Zs rfl Tf.a358 rfl (List.Mem.head _) Tf.s358 ?_;refine Za rfl<|jO (val:=qB (n:=9)) (wal:=Value.bool) (A:=[(_,_)]) (B:=[]) (a:=⟨[(i:Int),min c0 1,min c1 1,min c2 1,min c3 1,min k0 1,min k1 1,min k2 1,min k3 1],rfl⟩) (n:=false) rfl U295 sY rfl rfl rfl hM2 cW (fun es9 cl9 M9 hM9 hm9=>L.n3<|Za rfl<|Zi rfl<|L.n5 ?_);exact Zx [(_,_)] [] [_] [_] rfl ⟨rfl,cW⟩ rfl (fun D' hD=>⟨aMQ Value.bool hres,es9,cl9,M9,rfl,hM9,hok2.add hm9 rfl hsi hsp rfl hres⟩)
end L3
end Go.Fs
namespace Go.Fs
open Go.Proofs
namespace L3
open L1
open C3
theorem J8(b:aZ):aKO b (eG b) 0:=⟨rfl,rfl,by simp[eG],by simp[eG]⟩
theorem zX(b:aZ):TM (eG b):=⟨fun x hx=>by simp[eG]at hx;omega,fun x hx=>by simp[eG]at hx;omega⟩
theorem H5(bv:Value)(b:aZ)(D:aA)(hb:fJ D bv b)(hbo:SB b):Fn Tryz.prog 89 #[bv] D (fun _ v=>v=.bool (decide (truths b≠[]))):=by
 have hb0:=hb;obtain⟨lv,cv,rfl,hl,hc⟩:=hb;refine enter 10 Tryz.func89 rfl rfl rfl rfl fun h0=>C.s1<|Zt rfl (fun q1 E1 hE1 hB1=>Zi rfl<|L.n2<|jV [] 3 [false,true,true,true,true,true,false,false] [.fork [0,4] 1 (.fork [2] 3 (.fin [5]) 5 (.fin [3])) 5 (.fin [1,2,3]),.fin [6,7]] Tf.follows (fun _ _ _ h=>bP (P:=Tryz.prog) (fn:=Tryz.f89) _ _ _ h) Yg<|nA<|bG [(false,0),(true,4)] rfl<|Zq rfl Tf.a36 rfl hB1 Tf.s36<|Zq rfl Tf.a36 rfl hB1 Tf.s36<|Zaa (dB true true rfl rfl ?_ ?_))
 ·refine qE rfl rfl cW (fun qm=>Zaa<|bG [(true,2)] rfl<|iH (cs:=[.int .i64 b.chairs,.int .i64 b.coin,.int .i64 b.box,lv,cv,.map (some qm)]) rfl Tf.p297 Tf.z297 rfl Yg rfl trivial<|Zaa (dB true true rfl rfl ?_ ?_))
  ·refine Zt rfl (fun q2 E2 hE2 hB2=>Zaa<|aR [(true,5)] rfl<|Ze rfl (fun D1 hD1=>qC _ b _ (hb0.up (hD1 _ Ye)))<|Zaa<|hP [(false,6),(false,7)] rfl<|dL (A:=[]) (ν:=[(_,_)]) (B:=[]) rfl rfl rfl rfl (aMR rfl) xW (fun D9 hD9=>u5 hbo rfl b.lines.length 0 (eG b) #[] 0 [] _ Yd (J8 b) (zX b) (zZ b) rfl sN.nil (hb0.up (hD9 _ Ye)) (hB2.up (hD9 _ Ye))) rfl cW (fun v9 D10 _ hD10 hp9=>?_));obtain⟨rfl,es3,cl3,M3,rfl,hM3,hok3⟩:=hp9;refine Zi rfl<|Zaa<|iC<|Zag<|b7 ?_;exact leave1 rfl rfl rfl rfl (fun D hD=>by show Value.bool _=_;rw[aPZ,tT])
  ·refine Ze rfl (fun D1 hD1=>qC _ b _ (hb0.up (hD1 _ Ye)))<|Zaa<|aR [(true,3)] rfl<|Zt rfl (fun q2 E2 hE2 hB2=>Zaa<|hP [(false,6),(false,7)] rfl<|dL (A:=[]) (ν:=[(_,_)]) (B:=[]) rfl rfl rfl rfl (aMR rfl) xW (fun D9 hD9=>u5 hbo rfl b.lines.length 0 (eG b) #[] 0 [] _ Yd (J8 b) (zX b) (zZ b) rfl sN.nil (hb0.up (hD9 _ Ye)) (hB2.up (hD9 _ Ye))) rfl cW (fun v9 D10 _ hD10 hp9=>?_));obtain⟨rfl,es3,cl3,M3,rfl,hM3,hok3⟩:=hp9;refine Zi rfl<|Zaa<|iC<|Zag<|b7 ?_;exact leave1 rfl rfl rfl rfl (fun D hD=>by show Value.bool _=_;rw[aPZ,tT])
 ·refine Ze rfl (fun D1 hD1=>qC _ b _ (hb0.up (hD1 _ Ye)))<|Zaa<|aR [(true,1),(true,2),(true,3)] rfl<|qE rfl rfl cW (fun qm=>iH (cs:=[.int .i64 b.chairs,.int .i64 b.coin,.int .i64 b.box,lv,cv,.map (some qm)]) rfl Tf.p297 Tf.z297 rfl Yg rfl trivial<|Zt rfl (fun q2 E2 hE2 hB2=>Zaa<|hP [(false,6),(false,7)] rfl<|dL (A:=[]) (ν:=[(_,_)]) (B:=[]) rfl rfl rfl rfl (aMR rfl) xW (fun D9 hD9=>u5 hbo rfl b.lines.length 0 (eG b) #[] 0 [] _ Yd (J8 b) (zX b) (zZ b) rfl sN.nil (hb0.up (hD9 _ Ye)) (hB2.up (hD9 _ Ye))) rfl cW (fun v9 D10 _ hD10 hp9=>?_)));obtain⟨rfl,es3,cl3,M3,rfl,hM3,hok3⟩:=hp9;refine Zi rfl<|Zaa<|iC<|Zag<|b7 ?_;exact leave1 rfl rfl rfl rfl (fun D hD=>by show Value.bool _=_;rw[aPZ,tT])
theorem Y9(bv:Value)(b:aZ)(fine:Bool)(D:aA)(hb:fJ D bv b):Fn Tryz.prog 91 #[bv,.bool fine] D (fun _ v=>v=.int .i64 (uQ b fine)):=by
 have hb0:=hb;obtain⟨lv,cv,rfl,hl,hc⟩:=hb;refine enter 19 Tryz.func91 rfl rfl rfl rfl fun h0=>C.s1<|Zt rfl (fun q1 E1 hE1 hB1=>Zi rfl<|L.n4<|Zq rfl Tf.a36 rfl hB1 Tf.s36<|Ze rfl (fun D1 hD1=>sR _ b _ (hb0.up (hD1 _ Ye)))<|Zi rfl<|L.n1<|Zai<|C.s1<|Za rfl ?_);refine Zaf rfl<|Zi rfl<|L.n1<|aI rfl (fun hc1=>?_) (fun hc1=>?_)
 ·refine C.s1<|Za rfl<|Zi rfl<|L.n5<|Zal<|Zah ?_;exact leave1 rfl rfl rfl rfl (fun D hD=>by show Value.int _ _=_;rw[uQ,aMT (by simpa using hc1)])
 ·have hf0:aU b=0:=by simpa using hc1
  have hbo:=aKQ hf0;refine C.s1<|Za rfl<|Zae rfl<|Zi rfl<|L.n1<|aI rfl (fun hc2=>?_) (fun hc2=>?_)
  ·refine C.s1<|Zi rfl<|L.n5<|Zal<|Zah ?_;exact leave1 rfl rfl rfl rfl (fun D hD=>by show Value.int _ _=_;rw[uQ,aMM Yd,aMT Yao])
  ·refine C.s1<|Zq rfl Tf.a36 rfl hB1 Tf.s36<|Ze rfl (fun D2 hD2=>H5 _ b _ (hb0.up (hD2 _ Ye)) hbo)<|Zae rfl<|Zi rfl<|L.n1<|aI rfl (fun hc3=>?_) (fun hc3=>?_)
   ·refine C.s1<|Zi rfl<|L.n5<|Zal<|Zah ?_;exact leave1 rfl rfl rfl rfl (fun D hD=>by show Value.int _ _=_;rw[uQ,aMM Yd,aMM Yao,aMT (by simpa using hc3)])
   ·refine bB<|Zak<|Zag<|C.s1<|Zi rfl<|L.n5 ?_;exact leave1 rfl rfl rfl rfl (fun D hD=>by show Value.int _ _=_;rw[uQ,aMM Yd,aMM Yao,aMM (by simpa using hc3)])
end L3
end Go.Fs
namespace Go.Fs
open Go.Proofs
namespace L3
open L1
open C3
end L3
end Go.Fs
namespace Go.Fs
open Go.Proofs
namespace L3
open L1
open C3
end L3
end Go.Fs
namespace Go.Fs
open Go.Proofs
namespace L3
open L1
open C3
def aDN(l:List Cn):List Value:=l.flatMap fun x=>[.int .i64 x.after,.int .i64 x.lo,.int .i64 x.hi]
theorem aEH(l:List Cn):(aDN l).length=l.length*3:=by
 induction l with
 |nil=>rfl
 |cons c l ih=>unfold aDN at ih ⊢;rw[aNQ,aLY,ih];simp only[aMI,aNX];omega
theorem aCQ{l:List Cn}{i:Nat}{c:Cn}(hi:l[i]?= some c):((aDN l).drop (i*3)).take 3=[.int .i64 c.after,.int .i64 c.lo,.int .i64 c.hi]:=by
  induction l generalizing i with
  |nil=>simp at hi
  |cons d l ih=>
    unfold aDN at ih ⊢
    rw[aNQ];cases i with
    | zero => obtain rfl : d = c := by simpa using hi
              rfl
    |succ i=>
      rw[aQE,aNM Yah,aNE];have:(i+1)*3- [Value.int .i64 d.after,Value.int .i64 d.lo,Value.int .i64 d.hi].length=i*3:=by simp;omega
      rw[this];exact ih Yaj
theorem _root_.Go.Fs.jY.cns{D:aA}{v:Value}{n:Nat}{l:List Cn}(hF:jY D v n (aDN l))(hn:l.length=n)(hb:n≤9223372036854775807):Sl D qQ 3 v l:=
 hF.sl hn hb fun _i _t hi=>⟨_,rfl,rfl,aCQ hi⟩
theorem L9{a c:Value}{x y z:Int}(ha:∀u∈[a],cell1 u=true)(hb:∀u∈[c],cell1 u=true):∀u∈[.int .i64 x,.int .i64 y,.int .i64 z,a,c],cell1 u=true:=by
 intro u hu;simp only[aLX,GT,aNU]at hu;rcases hu with rfl|rfl|rfl|rfl|rfl
 ·rfl
 ·rfl
 ·rfl
 ·exact ha _ aMF
 ·exact hb _ aMF
end L3
end Go.Fs
namespace Go.Fs
open Go.ChangeShapes Go.WideShapes Go.RowKit
def vT(W:World):aA:=fun b=>match W.heap[b]? with
 |some (.cells cs _ _)=>cs.toList
 |_=>[]
theorem ED(W:World){cs:Array Value}{e:TypeId}{fz:Nat×Nat}(h0:W.heap[0]?= some (.cells cs e fz))(hne:cs.toList≠[]):dX (vT W) W:=by
 have hf:vT W 0=cs.toList:=by unfold vT;rw[h0]
 refine⟨?_,by rw[hf];exact hne,e,fz,by rw[hf];exact h0⟩;intro b hb;unfold vT at hb ⊢
 split at hb
 ·rename_i cs e fz h;exact⟨cs,e,fz,h,List.prefix_refl _⟩
 ·exact absurd rfl hb
theorem vE{W:World}{b i:Nat}{v:Value}(h:W.cell? ⟨b,i,none⟩=some v):(vT W b)[i]?= some v:=by
 unfold World.cell? at h;unfold vT;split at h
 ·rename_i cs e fz hb;simp only at hb;rw[hb];simpa using h
 ·cases h
structure DR(W W':World):Prop where
 env:CR W'=CR W
 size:W.heap.size≤W'.heap.size
 old:∀b,b<W.heap.size→W'.heap[b]?= W.heap[b]?
theorem DR.but{W W':World}(h:DR W W')(may:MemPlace→Prop):W.keptBut W' may:=by
 refine⟨aMQ Prod.fst h.env,aMQ Prod.snd h.env,fun i hi=>?_⟩;rw[h.old i hi];cases W.heap[i]? with
 |none=>rfl
 |some o=>cases o<;>first|exact⟨rfl,rfl,rfl,fun _ _=>rfl⟩|exact Or.inr ⟨rfl,rfl⟩|rfl
theorem DR.frozen{W W':World}(h:DR W W'){a:Addr}(hl:a.block<W.heap.size):W'.frozen? a=W.frozen? a:=by
 unfold World.frozen?;rw[h.old _ hl]
theorem DR.same{W W':World}(h:DR W W'){p:MemPlace}(hp:p.block<W.heap.size):W.sameAt W' p:=by
 cases p with
 |cell b off=>
  simp only[World.sameAt,World.cell?];rw[h.old b hp]
 |map b=>exact h.old b hp
theorem Fn.calls{P:Program}{f:FuncId}{args:Array Value}{D:aA}{post:aA→Value→Prop}(h:Fn P f args D post){W:World}(hD:dX D W):
  Calls P f args W fun e W'=>∃v D',e=.returned v∧post D' v∧DR W W':=
 (h.2 W hD).mono (by
  rintro e W' ⟨v,D',he,hs,hp⟩;exact⟨v,D',he,hp,hs.env _ rfl,hs.size,fun b hb=>hs.old b hb Ye⟩)
section
variable{H:Type}{enc:TypeId×Value→H}{P:Program}
theorem wD(hl:laidOutB P=true){W W':World}{sp:Nat→Bool}:∀(ts:List TypeId) (vs:List Value) (ds:List (DataW H)) (ps:List MemPlace),(∀t∈ts,P.readableRec t=true∧t<P.types.size)→
  DataW.TrodAll enc P W 0 (fun _=>true) true ts vs ds ps→(∀p∈ps,W.sameAt W' p)→(∀p∈ps,sp p.block=true)→DataW.TrodAll enc P W' 0 sp true ts vs ds ps
 | [],vs,ds,ps,_,h,_,_=>by
  obtain⟨rfl,rfl,rfl⟩:=trodAll_nil h;exact trodAll_mk0
 |t::ts,vs,ds,ps,hr,h,hsame,hs=>by
  obtain⟨v,vs',d,ds',p,q,rfl,rfl,rfl,h1,h2⟩:=trodAll_cons h;exact trodAll_cons_mk (WideElems.Trod_stays hl (hr t aMF).1 (hr t aMF).2 h1 (fun x hx=>hsame x (aMG _ hx)) (fun x hx=>hs x (aMG _ hx)))
   (wD hl ts vs' ds' q (fun u hu=>hr u (aLZ _ hu)) h2 (fun x hx=>hsame x (aMA _ hx)) (fun x hx=>hs x (aMA _ hx)))
theorem QL{f:Func}{s:ChangeSpec}{apart fresh handsOn again:Bool}{W W':World}{args:Array Value}{v:Value}{ds gs:List (DataW H)}{before pa pv:List MemPlace}(hW:DataW.Whole enc P f.params.toList s.vars apart W args.toList ds gs before)
  (hres:∀(b:Nat) (sp:Nat→Bool) (hd:Bool),DataW.TrodAll enc P W' b sp hd f.resultTypes.toList (v.resultList f.resultTypes.size) (s.fn H (ds++gs)).results [])
  (hargs:∀sp:Nat→Bool,(∀p∈before,sp p.block=true)→DataW.TrodAll enc P W' 0 sp true f.params.toList args.toList (s.fn H (ds++gs)).args pa)
  (hvars:∀sp:Nat→Bool,(∀p∈before,sp p.block=true)→DataW.TrodVars enc P W' sp s.vars (s.fn H (ds++gs)).vars pv)
  (hps:before=pa++pv) (hk:W.keptBut W' (· ∈before)) (hfz:∀a:Addr,a.block<W.heap.size→W'.frozen? a=W.frozen? a)
  (hok:∀(j:Nat) (t:TypeId) (r:Value),f.resultTypes[j]?= some t→(v.resultList f.resultTypes.size)[j]?= some r→Value.okWide P W' .any 0 t r):s.post enc P f apart fresh handsOn again W args v W':=by
 have hold:∀p∈before,(fun b=>decide (b<W.heap.size)) p.block=true:=fun p hp=>by simpa using hW.lt p hp
 have hlt:=hW.lt;refine⟨ds,gs,before,[],pa,pv,hW,hres _ _ _,hargs _ hold,hvars _ hold,World.keptBut_mono (fun p hp=>⟨hp,aMD (by rwa [hps,aMO]at hp)⟩) hk,fun _=>?_⟩;obtain⟨_,_,_,_,_,hz,hn⟩:=hW;refine⟨hok,_,_,([]++pa)++pv,⟨[]++pa,pv,trodAll_append (hargs _ (fun _ _=>rfl)) (hres _ _ _),hvars _ (fun _ _=>rfl),rfl,fun b off hp=>?_,fun ha=>?_⟩,fun p hp _=>?_⟩
 ·have hb:MemPlace.cell b off∈before:=by rw[hps];simpa using hp
  rw[hfz _ (by simpa [MemPlace.block]using hlt _ hb)];exact hz b off hb
 ·have:=hn ha;rw[hps]at this;simpa using this
 ·rw[hps];simpa using hp
theorem VN{f:Func}{s:ChangeSpec}{tb:TypeId}{W W':World}{args:Array Value}{ds gs:List (DataW H)}{before:List MemPlace}(hl:laidOutB P=true)(hp:(f.params.toList.all fun t=>P.readableRec t&&decide (t<P.types.size))=true)(hvars:s.vars=[])
  (hres:f.resultTypes=#[tb]) (htb:P.underlying tb=some .bool) (hW:DataW.Whole enc P f.params.toList s.vars false W args.toList ds gs before) (hs:s.fn H (ds++gs)={results:=[.lit (.bool true)],args:=ds}) (hk:DR W W'):
  s.post enc P f false true false false W args (.bool true) W':=by
 have hlt:=hW.lt;have hW':=hW;obtain⟨p,q,hA,hV,rfl,hfz,hnd⟩:=hW';rw[hvars]at hV;obtain⟨_,rfl⟩:=trodVars_none hV;refine QL (pa:=p) (pv:=[]) hW (fun b sp hd=>?_) (fun sp hsp=>?_) (fun sp _=>?_) rfl (hk.but _) (fun _=>hk.frozen) (ok_one hres rfl (okWide_bool_mk htb true))
 ·rw[hs,hres];exact trodAll_mk1 (shut_bool htb true)
 ·rw[hs];refine wD hl _ _ _ _ (fun t ht=>?_) hA (fun x hx=>hk.same (hlt x (aMG _ hx))) (fun x hx=>hsp x (aMG _ hx));have:=aMU.1 hp t ht;simpa using this
 ·rw[hs,hvars];rfl

def yY(P:Program)(t:TypeId){α:Type}(R:Rd α):Prop:=∀{H:Type} (enc:TypeId×Value→H) (W:World) (n:Nat) (cs:List Value) (x:DataW H×List MemPlace),DataW.trod enc P W 0 (fun _=>true) true n t cs=some x→∃a,R (vT W) a cs
theorem OS{k:IntKind}{n:Int}(h:(Lit.int k n).wf=true):rM k n:=by
 cases k<;>simpa [Lit.wf,IntKind.min,IntKind.max,IntKind.signed,IntKind.bits,rM]using h
def aLN{α:Type}(R:Rd α)(sz:Nat):Rd (List α):=fun D xs cs=>∃v,cs=[v]∧Sl D R sz v xs
theorem yY.slice{t e:TypeId}{sz:Nat}{α:Type}{R:Rd α}(ht:P.underlying t=some (.slice e))(hc:P.cellsOf e=sz)(hpos:0<sz)(hel:yY P e R):yY P t (aLN R sz):=fun {H} enc W fuel cs x hx=>by
 rcases DataW.trod_slice ht hx with⟨rfl,_⟩|⟨a,len,cap,elems,rest,n,_,rfl,_,_,hl,hm,hlen,hel',_,_⟩
 ·exact⟨[],_,rfl,Sl.nil⟩
 have hm':cap≤9223372036854775807:=by simpa [maxLen]using hm
 have key:∀i,i<len→∃cs,(∃y,R (vT W) y cs)∧cs.length=sz∧∀j,j<sz→W.cell? ((a.add (i*sz)).add j)=cs[j]? :=by
  intro i hi;have h1:=hel' i hi;rw[LE Yd,hc]at h1;simp only[Option.bind_eq_some_iff]at h1;obtain⟨cs,h2,h3⟩:=h1;obtain⟨_,h4,h5⟩:=World.cells?_some h2;exact⟨cs,hel enc W n cs _ h3,h4,h5⟩
 by_cases h0:len=0
 ·subst h0;exact⟨[],_,rfl,some a,cap,rfl,Nat.zero_le _,by simp,aMR rfl⟩
 have hspot:a=⟨a.block,a.off,none⟩:=by
  obtain⟨cs,_,h2,h3⟩:=key 0 Yd;have h4:=h3 0 hpos;rw[aQF]at h4;simp only[Addr.add,aOJ]at h4;rw[LE (show 0<cs.length by omega)]at h4;unfold World.cell? at h4;split at h4
  ·split at h4
   ·cases h4
   ·rename_i hs;obtain⟨b,o,s⟩:=a;cases s with
    |none=>rfl
    |some=>simp at hs
  ·cases h4
 have pick:∃ys:List α,ys.length=len∧∀i y,ys[i]?= some y→∃cs,R (vT W) y cs∧cs.length=sz∧∀j,j<sz→W.cell? ((a.add (i*sz)).add j)=cs[j]? :=by
  refine⟨List.ofFn fun i:Fin len=>(key i.1 i.2).choose_spec.1.choose,by simp,fun i y hy=>?_⟩;rw[List.getElem?_ofFn]at hy;split at hy
  ·rename_i hi;cases hy;exact⟨_,(key i hi).choose_spec.1.choose_spec,(key i hi).choose_spec.2.1,(key i hi).choose_spec.2.2⟩
  ·cases hy
 obtain⟨ys,hys,hy⟩:=pick;refine⟨ys,_,rfl,some a,cap,by rw[hys],by omega,by omega,aMD ⟨a.block,a.off,by rw[←hspot],fun i y hi=>?_⟩⟩;obtain⟨cs,h1,h2,h3⟩:=hy i y hi;refine⟨cs,h1,h2,fun j v hj=>?_⟩;have hjl:=(aMH.1 hj).1;have h4:=h3 j Yd;rw[hj,hspot,eO,eO]at h4;exact vE h4
theorem yY.trod{t:TypeId}{α:Type}{R:Rd α}(h:yY P t R){W:World}{v:Value}{d:DataW H}{ps:List MemPlace}(hd:DataW.Trod enc P W 0 (fun _=>true) true t v d ps):∃a,R (vT W) a v.cells.toList:=by
 obtain⟨fuel,hf⟩:=hd;exact h enc W fuel _ _ hf
theorem HQ{t e:TypeId}{α:Type}{R:Rd α}{sz:Nat}(ht:P.underlying t=some (.slice e))(h:yY P t (aLN R sz)){W:World}{r:Reach}{b0:Nat}{v:Value}{d:DataW H}{ps:List MemPlace}(hval:Value.okWide P W r b0 t v)(hd:DataW.Trod enc P W 0 (fun _=>true) true t v d ps):
  ∃xs,Sl (vT W) R sz v xs:=by
 obtain⟨a,len,cap,rfl⟩:=okWide_slice ht hval;obtain⟨xs,u,hc,hs⟩:=h.trod hd;simp only[Value.cells,aOC,and_true]at hc;exact⟨xs,by rw[hc];exact hs⟩
end
end Go.Fs
namespace Go.Fs
open Go.Proofs
namespace L3
open L1
open C3
end L3
end Go.Fs
namespace Go.Fs
open Go.Proofs
namespace L3
open L1
open C3
end L3
end Go.Fs
namespace Go.Fs
open Go.Proofs
namespace L3
open L1
open C3
end L3
end Go.Fs
namespace Go.Fs
open Go.Proofs
namespace L3
open L1
open C3
end L3
end Go.Fs
namespace Go.Fs
open Go.Proofs
namespace L3
open L1
open C3
end L3
end Go.Fs
namespace Go.Fs
open Go.Proofs
namespace L3
open L1
open C3
end L3
end Go.Fs
namespace Go.Fs
open Go.Proofs
namespace L3
open L1
open C3
end L3
end Go.Fs
