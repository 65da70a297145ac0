/- Of the proof of BookWrites: V2, V3, V4, V5, V6, V7, V8, V9, V10, V11, V12, V13, V14, Shell, V15, V16, V17, V18, V19, V20, V21. -/
import Derived.Test.YtelhnbcdablgoaaGreatDoorZBookWritesAF
import Derived.Test.YtelhnbcdablgoaaGreatDoorZBookWritesAC
import Derived.Test.YtelhnbcdablgoaaGreatDoorZBookWritesAE
import Derived.Test.YtelhnbcdablgoaaGreatDoorZBookWritesAD
import Derived.ProofKit
import Derived.OpenShut
import Derived.WideKeyArgs
import Derived.JoinedCond
namespace Go.Fs
open Go.Proofs
namespace L3
open L1
open C3
def EZ(lo:Int)(k:Nat):List Int:=(List.range k).map fun i:Nat=>lo+(i:Int)
theorem PG{s n lo hi:Int}(h:s≠n):dT s n lo hi=[s]:=by unfold dT;rw[aGX h]
theorem TT{s n lo hi:Int}(h:¬s≠n):dT s n lo hi=EZ lo (hi+1-lo).toNat:=by unfold dT;rw[aGQ h];rfl
theorem gV(n lo hi:Int)(D:aA):Fn Tryz.prog 92 #[.int .i64 n,.int .i64 lo,.int .i64 hi] D (fun _ v=>v=.bool (C1.fL n lo hi)):=by
 refine enter 15 Tryz.func92 rfl rfl rfl rfl fun h0=>C.s1<|Zh rfl<|L.n3<|Za rfl<|Za rfl<|hP rfl rfl rfl rfl trivial<|Za rfl ?_
 refine' L.anK 4 (s:=10) (p:=14) rfl (fun hg1=>?_) (fun hg1=>?_) ?_;rotate_left
 ·refine Zb rfl<|Zb rfl<|hP rfl rfl rfl rfl ⟨_,rfl,rfl⟩<|Zab rfl ?_;exact L.cu 3
 ·refine Zk rfl<|Zk rfl<|Zk rfl<|Zac rfl ?_;exact L.cu 3
 refine Zh rfl<|L.n5 ?_;exact leave1 rfl rfl rfl rfl (fun D hD=>rfl)
theorem sN(sv:Value)(x:Int)(xs:List Int)(D:aA)(hS:Sl D RI 1 sv (x::xs)):
  Fn Tryz.prog 149 #[sv] D (fun _ v=>v=.int .i64 (xs.foldl min x)):=by
 refine enter 5 Tryz.func149 rfl rfl rfl rfl fun h0=>C.s1<|Zh rfl<|L.n3<|Za rfl<|Zc rfl (fun D1 hD1=>I3 _ x xs _ (Sl.at RI.up hD1 Yk Ye))<|Zh rfl<|L.n5 ?_
 exact leave1 rfl rfl rfl rfl (fun D hD=>rfl)
theorem YE(r:Int×Int)(n:Int)(D:aA):Fn Tryz.prog 281 #[iL r,.int .i64 n] D (fun _ v=>v=.bool (C1.fL n r.1 r.2)):=by
 refine enter 11 Tryz.func281 rfl rfl rfl rfl fun h0=>C.s1<|Zv rfl (fun q1 E1 hE1 hB1=>Zh rfl<|L.n3<|Za rfl<|Zi rfl Tf.f65_0 rfl<|Zf 0 rfl Tf.a3 rfl hB1 rfl<|Zi rfl Tf.f65_1 rfl<|Zf 1 rfl Tf.a3 rfl hB1 rfl<|Zc rfl (fun D1 hD1=>gV _ _ _ _)<|Zh rfl ?_);refine L.n5 ?_
 exact leave1 rfl rfl rfl rfl (fun D hD=>rfl)
theorem Y8(r:Int×Int)(n:Int)(D:aA):Fn Tryz.prog 155 #[iL r,.int .i64 n] D (fun _ v=>v=iL (min r.1 n,max r.2 n)):=by
 refine enter 15 Tryz.func155 rfl rfl rfl rfl fun h0=>C.s1<|Zv rfl (fun q1 E1 hE1 hB1=>Zw rfl Tf.z65 rfl (fun q2=>L.n2<|iS [] 4 [0,1,2,5,6,7,8,3,4,9,10] [false,false,true,true,true,true,true,true,true,false,false] [(false,0),(false,1),(true,2),(true,5),(true,6),(true,7),(true,8),(true,3),(true,4),(false,9),(false,10)] Tf.follows (fun _ _ _ h=>bZ (P:=Tryz.prog) (fn:=Tryz.f155) _ _ _ h) Yg rfl<|Zi rfl Tf.f65_0 rfl<|Zf 0 rfl Tf.a3 rfl hB1 rfl<|Za rfl<|Zi rfl Tf.f65_1 rfl<|Zf 1 rfl Tf.a3 rfl hB1 rfl<|Za rfl ?_));refine oW rfl rfl rfl rfl trivial<|Zp rfl U25 Tf.s3 Tf.z3 rfl rfl rfl rfl (.cons rfl rfl (.cons rfl rfl .nil)) (fun b901 D901 hD901 hA901=>?_)
 have hS901:=Sl.ofInts (l:=[_,_]) (n:=2) (cap:=2) hA901 rfl Yd Yd;refine Zc rfl (fun D1 hD1=>sN _ r.1 [n] _ (hS901.up RI.up (hD1 _ Ye)))<|Zq [.int .i64 (min r.1 n),.int .i64 (max r.2 n)] rfl Tf.p65 Tf.z65 rfl rfl<|Zu rfl Tf.s65 (bL.head)<|L.n5 ?_;exact Zm [_] rfl ⟨⟨_,_,_,rfl,(List.Mem.head _),Or.inr ⟨Tf.a65,(by first|exact Tf.s65|(simp only[aHK,aI, *];exact Tf.s65)),rfl⟩⟩,aLJ⟩ (fun D hD=>rfl)
theorem S4(sv fv:Value)(xs:List eZ)(p:eZ→Bool)(D:aA)(hS:Sl D nX 3 sv xs)(hp:cD Tryz.prog D x8 fv p):
  Fn Tryz.prog 278 #[sv,fv] D (fun _ v=>v=.int .i64 (idxOf p xs)):=by
 have hl:=hS.len;obtain⟨f,c1,c2,rfl,hf⟩:=hp;refine enter 19 Tryz.func278 rfl rfl rfl rfl fun h0=>C.s1<|Zh rfl<|L.n4<|Za rfl<|aV rfl U33 rfl Yk rfl rfl trivial<|Za rfl<|L.n1<|Zah<|cG (γ:=Nat) (fun k=>xs.length-k) (fun k=>k≤xs.length∧(xs.take k).any p=false) (fun k=>[(8,.int .i64 k)]) [(7,_),(4,_),(0,_),(1,_)] (fun k=>[D]) 0 Ye ⟨Yb,aLJ⟩ C.rs (aD) ?_
 rintro k ⟨h1,h2⟩;refine C.s1<|Zad rfl<|L.n2<|aE rfl (fun hc1=>?_) (fun hc1=>?_)
 ·have hk:k<xs.length:=by omega
  obtain⟨x,hx⟩:=C.ge xs k;refine C.kn<|aL<|Zah<|C.s1<|Za rfl<|Zh rfl<|L.n3<|Za rfl<|Za rfl<|Za rfl<|cR rfl U33 Tf.s160 rfl Yk rfl Yd Yk rfl aLJ (fun b1 o1 cs1 hr1 hcl1 hA1=>?_);obtain rfl:cs1=[.int .i64 _,.int .i64 _,.int .i64 _]:=hr1;refine Zr rfl Tf.a160 rfl hA1 Tf.s160<|Zc rfl (fun D1 hD1=>hf x _ (hD1 _ Ye))<|L.n1<|aQ rfl (fun hc2=>?_) (fun hc2=>?_)
  ·refine C.s1<|Za rfl<|Zh rfl<|L.n5<|aG<|Zaj<|Zaj<|aG<|Zaj ?_;exact leave1 rfl rfl rfl rfl (fun D hD=>by show Value.int _ _=_;rw[gT hx h2 hc2])
  ·refine bR<|Zak<|Zag<|C.rg<|Zx rfl<|Za rfl<|Zz ?_;have hpx:p x=false:=hc2;have h3:(xs.take (k+1)).any p=false:=by rw[aGT,hx,aJQ,h2];simp[hpx]
   exact aH 12 (k+1) ⟨by omega,h3⟩ Yd ⟨Yb,aLJ⟩ rfl rfl (LT _) (aD)
 ·refine aR<|Zai<|Zai<|Zal<|Zag<|C.s1<|Zh rfl<|L.n5 ?_;exact leave1 rfl rfl rfl rfl (fun D hD=>by show Value.int _ _=_;rw[eQ Yab])
theorem yY(sv fv:Value)(xs:List eZ)(p:eZ→Bool)(D:aA)(hS:Sl D nX 3 sv xs)(hp:cD Tryz.prog D x8 fv p):
  Fn Tryz.prog 225 #[sv,fv] D (fun _ v=>v=.bool (xs.any p)):=by
 refine enter 9 Tryz.func225 rfl rfl rfl rfl fun h0=>C.s1<|Zh rfl<|L.n3<|Za rfl<|Za rfl<|Zc rfl (fun D1 hD1=>S4 _ _ xs p _ (Sl.at nX.up hD1 Yk Ye) (hp.up (hD1 _ Ye)))<|nJ rfl rfl rfl rfl trivial<|Zh rfl<|L.n5 ?_
 exact leave1 rfl rfl rfl rfl (fun D hD=>by show Value.bool (decide _)=_;rw[gS])
theorem QL(b:Nat)(fv:Value)(p:eZ→Bool)(x:eZ)(D:aA)(hp:cD Tryz.prog D x8 fv p)(hB:At D b 0 [fv]):
  Fn Tryz.prog 226 #[x8 x,.pointer (some ⟨b,0,none⟩)] D (fun _ v=>v=.bool (!p x)):=by
 obtain⟨f,c1,c2,rfl,hf⟩:=hp;refine enter 8 Tryz.func226 rfl rfl rfl rfl fun h0=>C.s1<|Zv rfl (fun q1 E1 hE1 hB1=>Zh rfl<|L.n3<|Zf 0 rfl Tf.a288 rfl hB rfl<|Zr rfl Tf.a160 rfl hB1 Tf.s160<|Zc rfl (fun D1 hD1=>hf x _ (hD1 _ Ye))<|Zaf rfl<|Zh rfl<|L.n5 ?_)
 exact leave1 rfl rfl rfl rfl (fun D hD=>rfl)
theorem XW(sv fv:Value)(xs:List eZ)(p:eZ→Bool)(D:aA)(hS:Sl D nX 3 sv xs)(hp:cD Tryz.prog D x8 fv p)(h1:fv.cells=#[fv]):
  Fn Tryz.prog 147 #[sv,fv] D (fun _ v=>v=.bool (xs.all p)):=by
 refine enter 9 Tryz.func147 rfl rfl rfl rfl fun h0=>C.s1<|mA (vs:=[fv]) rfl rfl h1 rfl aLJ (fun b D1 hD1 hB=>Zh rfl<|L.n3<|Za rfl<|bB rfl rfl rfl rfl trivial<|Zc rfl (fun D1 hD1=>yY _ _ xs (fun x=> !p x) _ (Sl.at nX.up hD1 Yk Ye) ⟨_,[],[.pointer (some ⟨b,0,none⟩)],rfl,fun x D2 hl=>QL b fv p x D2 (hp.up ((hD1 _ Ye).trans hl)) (hB.up ((hD1 _ Ye).trans hl))⟩)<|Zaf rfl<|Zh rfl<|L.n5 ?_)
 exact leave1 rfl rfl rfl rfl (fun D hD=>by show Value.bool (!_)=_;rw[jW])
theorem Q2(sv fv:Value)(xs:List Cn)(p:Cn→Bool)(D:aA)(hS:Sl D pR 3 sv xs)(hp:cD Tryz.prog D aAU fv p):
  Fn Tryz.prog 279 #[sv,fv] D (fun _ v=>v=.int .i64 (idxOf p xs)):=by
 have hl:=hS.len;obtain⟨f,c1,c2,rfl,hf⟩:=hp;refine enter 19 Tryz.func279 rfl rfl rfl rfl fun h0=>C.s1<|Zh rfl<|L.n4<|Za rfl<|aV rfl U34 rfl Yk rfl rfl trivial<|Za rfl<|L.n1<|Zah<|cG (γ:=Nat) (fun k=>xs.length-k) (fun k=>k≤xs.length∧(xs.take k).any p=false) (fun k=>[(8,.int .i64 k)]) [(7,_),(4,_),(0,_),(1,_)] (fun k=>[D]) 0 Ye ⟨Yb,aLJ⟩ C.rs (aD) ?_
 rintro k ⟨h1,h2⟩;refine C.s1<|Zad rfl<|L.n2<|aE rfl (fun hc1=>?_) (fun hc1=>?_)
 ·have hk:k<xs.length:=by omega
  obtain⟨x,hx⟩:=C.ge xs k;refine C.kn<|aL<|Zah<|C.s1<|Za rfl<|Zh rfl<|L.n3<|Za rfl<|Za rfl<|Za rfl<|cR rfl U34 Tf.s162 rfl Yk rfl Yd Yk rfl aLJ (fun b1 o1 cs1 hr1 hcl1 hA1=>?_);obtain rfl:cs1=[.int .i64 _,.int .i64 _,.int .i64 _]:=hr1;refine Zr rfl Tf.a162 rfl hA1 Tf.s162<|Zc rfl (fun D1 hD1=>hf x _ (hD1 _ Ye))<|L.n1<|aQ rfl (fun hc2=>?_) (fun hc2=>?_)
  ·refine C.s1<|Za rfl<|Zh rfl<|L.n5<|aG<|Zaj<|Zaj<|aG<|Zaj ?_;exact leave1 rfl rfl rfl rfl (fun D hD=>by show Value.int _ _=_;rw[gT hx h2 hc2])
  ·refine bR<|Zak<|Zag<|C.rg<|Zx rfl<|Za rfl<|Zz ?_;have hpx:p x=false:=hc2;have h3:(xs.take (k+1)).any p=false:=by rw[aGT,hx,aJQ,h2];simp[hpx]
   exact aH 12 (k+1) ⟨by omega,h3⟩ Yd ⟨Yb,aLJ⟩ rfl rfl (LT _) (aD)
 ·refine aR<|Zai<|Zai<|Zal<|Zag<|C.s1<|Zh rfl<|L.n5 ?_;exact leave1 rfl rfl rfl rfl (fun D hD=>by show Value.int _ _=_;rw[eQ Yab])
theorem yL(sv fv:Value)(xs:List Cn)(p:Cn→Bool)(D:aA)(hS:Sl D pR 3 sv xs)(hp:cD Tryz.prog D aAU fv p):
  Fn Tryz.prog 227 #[sv,fv] D (fun _ v=>v=.bool (xs.any p)):=by
 refine enter 9 Tryz.func227 rfl rfl rfl rfl fun h0=>C.s1<|Zh rfl<|L.n3<|Za rfl<|Za rfl<|Zc rfl (fun D1 hD1=>Q2 _ _ xs p _ (Sl.at pR.up hD1 Yk Ye) (hp.up (hD1 _ Ye)))<|nJ rfl rfl rfl rfl trivial<|Zh rfl<|L.n5 ?_
 exact leave1 rfl rfl rfl rfl (fun D hD=>by show Value.bool (decide _)=_;rw[gS])
theorem SH(b:Nat)(fv:Value)(p:Cn→Bool)(x:Cn)(D:aA)(hp:cD Tryz.prog D aAU fv p)(hB:At D b 0 [fv]):
  Fn Tryz.prog 228 #[aAU x,.pointer (some ⟨b,0,none⟩)] D (fun _ v=>v=.bool (!p x)):=by
 obtain⟨f,c1,c2,rfl,hf⟩:=hp;refine enter 8 Tryz.func228 rfl rfl rfl rfl fun h0=>C.s1<|Zv rfl (fun q1 E1 hE1 hB1=>Zh rfl<|L.n3<|Zf 0 rfl Tf.a289 rfl hB rfl<|Zr rfl Tf.a162 rfl hB1 Tf.s162<|Zc rfl (fun D1 hD1=>hf x _ (hD1 _ Ye))<|Zaf rfl<|Zh rfl<|L.n5 ?_)
 exact leave1 rfl rfl rfl rfl (fun D hD=>rfl)
theorem GX(sv fv:Value)(xs:List Cn)(p:Cn→Bool)(D:aA)(hS:Sl D pR 3 sv xs)(hp:cD Tryz.prog D aAU fv p)(h1:fv.cells=#[fv]):
  Fn Tryz.prog 148 #[sv,fv] D (fun _ v=>v=.bool (xs.all p)):=by
 refine enter 9 Tryz.func148 rfl rfl rfl rfl fun h0=>C.s1<|mA (vs:=[fv]) rfl rfl h1 rfl aLJ (fun b D1 hD1 hB=>Zh rfl<|L.n3<|Za rfl<|bB rfl rfl rfl rfl trivial<|Zc rfl (fun D1 hD1=>yL _ _ xs (fun x=> !p x) _ (Sl.at pR.up hD1 Yk Ye) ⟨_,[],[.pointer (some ⟨b,0,none⟩)],rfl,fun x D2 hl=>SH b fv p x D2 (hp.up ((hD1 _ Ye).trans hl)) (hB.up ((hD1 _ Ye).trans hl))⟩)<|Zaf rfl<|Zh rfl<|L.n5 ?_)
 exact leave1 rfl rfl rfl rfl (fun D hD=>by show Value.bool (!_)=_;rw[jW])
theorem OP(bv:Value)(b:aW)(l:eZ)(D:aA)(hb:fP D bv b)(hn:0≤b.chairs∧b.chairs≤100):Fn Tryz.prog 145 #[bv,x8 l] D (fun _ v=>v=.bool (qQ b.chairs l)):=by
 obtain⟨lv,cv,rfl,hl,hc⟩:=hb;refine enter 24 Tryz.func145 rfl rfl rfl rfl fun h0=>C.s1<|Zv rfl (fun q1 E1 hE1 hB1=>Zv rfl (fun q2 E2 hE2 hB2=>Zh rfl<|L.n3<|Zi rfl Tf.f160_0 rfl<|Zf 0 rfl Tf.a3 rfl hB2 rfl<|Zc rfl (fun D1 hD1=>gV _ _ _ _)<|Za rfl ?_))
 refine' L.anK 7 (s:=8) (p:=15) rfl (fun hg1=>?_) (fun hg1=>?_) ?_;rotate_left
 ·refine Zj rfl Tf.f160_1 rfl<|Zg 1 rfl Tf.a3 rfl hB2 rfl<|Zj rfl Tf.f36_0 rfl<|Zg 0 rfl Tf.a3 rfl hB1 rfl<|fJ rfl rfl rfl Yf rfl ⟨_,rfl,rfl⟩<|Zd rfl (fun D2 hD2=>gV _ _ _ _)<|Zab rfl ?_;exact L.cu 6
 ·refine Zk rfl<|Zk rfl<|Zk rfl<|Zk rfl<|Zk rfl<|Zk rfl<|Zac rfl ?_;exact L.cu 6
 refine Za rfl ?_;refine' L.anK 7 (s:=16) (p:=23) rfl (fun hg2=>?_) (fun hg2=>?_) ?_;rotate_left
 ·refine Zj rfl Tf.f160_2 rfl<|Zg 2 rfl Tf.a3 rfl hB2 rfl<|Zj rfl Tf.f36_0 rfl<|Zg 0 rfl Tf.a3 rfl hB1 rfl<|fJ rfl rfl rfl Yf rfl ⟨_,rfl,rfl⟩<|Zd rfl (fun D3 hD3=>gV _ _ _ _)<|Zab rfl ?_;exact L.cu 6
 ·refine Zk rfl<|Zk rfl<|Zk rfl<|Zk rfl<|Zk rfl<|Zk rfl<|Zac rfl ?_;exact L.cu 6
 refine Zh rfl<|L.n5 ?_;exact leave1 rfl rfl rfl rfl (fun D hD=>rfl)
theorem JP(bv:Value)(b:aW)(c:Cn)(D:aA)(hb:fP D bv b):Fn Tryz.prog 146 #[bv,aAU c] D (fun _ v=>v=.bool (lU b.lines.length c)):=by
 obtain⟨lv,cv,rfl,hl,hc⟩:=hb;refine enter 31 Tryz.func146 rfl rfl rfl rfl fun h0=>C.s1<|Zv rfl (fun q1 E1 hE1 hB1=>Zv rfl (fun q2 E2 hE2 hB2=>Zh rfl<|L.n3<|Zi rfl Tf.f162_1 rfl<|eP rfl (k:=1) Tf.a65 Tf.s65 rfl hB2 Yc rfl rfl GT rfl trivial<|Zw rfl Tf.z65 rfl (fun q3=>Zu rfl Tf.s65 (bL.head)<|L.n3<|Zi rfl Tf.f162_0 rfl ?_)));refine Zf 0 rfl Tf.a3 rfl hB2 rfl<|Zi rfl Tf.f36_3 rfl<|Zf 3 rfl Tf.a33 rfl hB1 rfl<|aV rfl U33 rfl hl rfl rfl trivial<|Zc rfl (fun D1 hD1=>gV _ _ _ _)<|Za rfl ?_
 refine' L.anK 4 (s:=14) (p:=18) rfl (fun hg1=>?_) (fun hg1=>?_) ?_;rotate_left
 ·refine Zj rfl Tf.f65_0 rfl<|aS rfl Tf.a3 rfl (List.Mem.head _) rfl GT rfl ⟨_,rfl,rfl⟩<|hP rfl rfl rfl rfl ⟨_,rfl,rfl⟩<|Zab rfl ?_;exact L.cu 3
 ·refine Zk rfl<|Zk rfl<|Zk rfl<|Zac rfl ?_;exact L.cu 3
 refine Za rfl ?_;refine' L.anK 6 (s:=19) (p:=25) rfl (fun hg2=>?_) (fun hg2=>?_) ?_;rotate_left
 ·refine Zj rfl Tf.f65_0 rfl<|aS rfl Tf.a3 rfl (List.Mem.head _) rfl GT rfl ⟨_,rfl,rfl⟩<|Zj rfl Tf.f65_1 rfl<|aS rfl Tf.a3 rfl (List.Mem.head _) rfl GT rfl ⟨_,rfl,rfl⟩<|hP rfl rfl rfl rfl ⟨_,rfl,rfl⟩<|Zab rfl ?_;exact L.cu 5
 ·refine Zk rfl<|Zk rfl<|Zk rfl<|Zk rfl<|Zk rfl<|Zac rfl ?_;exact L.cu 5
 refine Za rfl ?_;refine' L.anK 4 (s:=26) (p:=30) rfl (fun hg3=>?_) (fun hg3=>?_) ?_;rotate_left
 ·refine Zj rfl Tf.f65_1 rfl<|aS rfl Tf.a3 rfl (List.Mem.head _) rfl GT rfl ⟨_,rfl,rfl⟩<|hP rfl rfl rfl rfl ⟨_,rfl,rfl⟩<|Zab rfl ?_;exact L.cu 3
 ·refine Zk rfl<|Zk rfl<|Zk rfl<|Zac rfl ?_;exact L.cu 3
 refine Zh rfl<|L.n5 ?_;exact leave1 rfl rfl rfl rfl (fun D hD=>rfl)
theorem Z5(s n lo hi:Int)(D:aA)(h1: -10≤lo∧lo≤10)(h2: -10≤hi∧hi≤100):Fn Tryz.prog 229 #[.int .i64 s,.int .i64 n,.int .i64 lo,.int .i64 hi] D (fun D' v=>Sl D' RI 1 v (dT s n lo hi)):=by
 refine enter 26 Tryz.func229 rfl rfl rfl rfl fun h0=>C.s1<|Zh rfl<|L.n4<|Za rfl<|Za rfl<|eI rfl rfl rfl rfl trivial<|L.n1<|aE rfl (fun hc1=>?_) (fun hc1=>?_)
 ·refine C.s1<|Za rfl<|Zp rfl U25 Tf.s3 Tf.z3 rfl rfl rfl rfl (.cons rfl rfl .nil) (fun b901 D901 hD901 hA901=>?_);have hS901:=Sl.ofInts (l:=[_]) (n:=1) (cap:=1) hA901 rfl Yd Yd;refine Zh rfl<|L.n5<|Zaj ?_;exact leave1 rfl rfl rfl rfl (fun D hD=>by rw[PG hc1];exact hS901.up RI.up (hD _ Ye))
 ·refine C.kn<|C.s2<|Za rfl<|Zh rfl<|L.n1<|Zah<|cJ (γ:=Nat×Value×aC) (fun g=>(hi+1-lo).toNat-g.1) (fun g=>g.1≤(hi+1-lo).toNat∧bN 3 1 g.2.1 g.1 (ints (EZ lo g.1)) g.2.2) (fun g=>[(8,g.2.1),(9,.int .i64 (lo+(g.1:Int)))]) [(3,_)] (fun g=>g.2.2++[]) (fun g=>[D]) (0,.slice none 0 0,[]) ⟨by simp,by simpa [ints,EZ]using bN.nil⟩ ⟨Yb,Yb,aLJ⟩ ⟨rfl,aLJ⟩ (LT _) (aD) ?_;rintro⟨k,v,ν⟩ ⟨h11,ha⟩;simp only at h11 ha;refine C.s2<|Za rfl<|Za rfl<|hP rfl rfl rfl rfl trivial<|L.n1<|aE rfl (fun hc2=>?_) (fun hc2=>?_)
  ·simp only at hc2;refine C.kn<|aL<|Zah<|C.rg<|Za rfl<|Za rfl<|Zp rfl U25 Tf.s3 Tf.z3 rfl rfl rfl rfl (.cons rfl rfl .nil) (fun b902 D902 hD902 hA902=>?_);have hS902:=Sl.ofInts (l:=[_]) (n:=1) (cap:=1) hA902 rfl Yd Yd;refine bA (A:=[]) (B:=_) rfl U25 rfl rfl Tf.s3 Tf.z3 rfl Tf.i3 rfl rfl rfl ha (jL.lit hA902) Ye rfl (by simp[EZ]) Yi Yd (aGR rfl) rfl aLJ (fun v1 ν1 ha1=>?_);have ha2:bN 3 1 v1 (k+1) (ints (EZ lo (k+1))) ν1:=by unfold EZ;rw[aIF,aGS,aKN,←eW];exact ha1
   refine Zh rfl<|Zz<|Zak<|Zag<|C.rg<|Za rfl<|Zx rfl<|Zh rfl<|Zz ?_;exact aH 13 (k+1,v1,ν1) ⟨by simp only;omega,ha2⟩ Yn ⟨rfl,(by show some (Value.int _ _)=some (Value.int _ _);congr 2;push_cast;omega),aLJ⟩ rfl rfl (LT _) (fun D h=>⟨D,LE _ (h),Le.refl D⟩)
  ·have hk:k=(hi+1-lo).toNat:=by simp only at hc2;omega
   rw[hk]at ha;refine aR<|Zai<|Zai<|Zal<|Zag<|C.s1<|Za rfl<|Zh rfl<|L.n5<|eF (A:=[]) (B:=[]) ha rfl (fun D2 hD2 hF=>?_);exact leave1 rfl rfl rfl rfl (fun D hD=>by rw[TT hc1];exact(hF.ints (by simp[EZ]) Yd).up RI.up (hD _ Ye))
end L3
end Go.Fs
namespace Go.Fs
open Go.Proofs
namespace L3
open L1
open C3
def aDQ(n:Int)(l:eZ)(x c:Int):List eZ:=(dT l.token (-1) 0 (n-1)).map fun t=>⟨x,c,t⟩
def aFE(n:Int)(l:eZ)(x:Int):List eZ:=(dT l.chair (-1) 0 (n-1)).flatMap (aDQ n l x)
def VX(n:Int)(l:eZ)(k:Nat):List eZ:=((dT l.kind 0 1 2).take k).flatMap (aFE n l)
def OI(n:Int)(l:eZ)(k:Nat)(x:Int)(j:Nat):List eZ:=VX n l k++((dT l.chair (-1) 0 (n-1)).take j).flatMap (aDQ n l x)
def JV(n:Int)(l:eZ)(k:Nat)(x:Int)(j:Nat)(c:Int)(i:Nat):List eZ:=OI n l k x j++((dT l.token (-1) 0 (n-1)).take i).map fun t=>⟨x,c,t⟩
theorem HX{n:Int}{l:eZ}:VX n l (dT l.kind 0 1 2).length=cN n l:=by unfold VX;rw[aHT];rfl
theorem RD{n:Int}{l:eZ}{k:Nat}{x:Int}:OI n l k x 0=VX n l k:=by unfold OI;simp
theorem UG{n:Int}{l:eZ}{k:Nat}{x:Int}{j:Nat}{c:Int}:JV n l k x j c 0=OI n l k x j:=by unfold JV;simp
theorem ZD{n:Int}{l:eZ}{k:Nat}{x:Int}(h:(dT l.kind 0 1 2)[k]?= some x):OI n l k x (dT l.chair (-1) 0 (n-1)).length=VX n l (k+1):=by
 unfold OI VX;rw[aHT,aGT,h,aIB,aHG,aHW];rfl
theorem ZR{n:Int}{l:eZ}{k:Nat}{x:Int}{j:Nat}{c:Int}(h:(dT l.chair (-1) 0 (n-1))[j]?= some c):JV n l k x j c (dT l.token (-1) 0 (n-1)).length=OI n l k x (j+1):=by
 unfold JV OI;rw[aHT,aGT,h,aIB,aHG,aHW,aGN];rfl
theorem VT{n:Int}{l:eZ}{k:Nat}{x:Int}{j:Nat}{c:Int}{i:Nat}{t:Int}(h:(dT l.token (-1) 0 (n-1))[i]?= some t):JV n l k x j c (i+1)=JV n l k x j c i++[⟨x,c,t⟩]:=by
 unfold JV;rw[aGT,h,aIB,aGS,←aGN];rfl
theorem pL{s none lo hi:Int}{m:Nat}(h:hi+1-lo≤m)(h1:1≤m):(dT s none lo hi).length≤m:=by
 unfold dT;split
 ·simpa using h1
 ·simp;omega
theorem iR{α β:Type}{f:α→List β}{m:Nat}:∀(l:List α),(∀x∈l,(f x).length≤m)→(l.flatMap f).length≤l.length*m
 | [],_=>by simp
 |x::l,h=>by
  rw[aHS,aGC,aGM,aIW];have:=iR l fun y hy=>h y (aGE _ hy)
  have:=h x aGL;omega
theorem GU{n:Int}{l:eZ}(hn:n≤4)(x c:Int):(aDQ n l x c).length≤4:=by unfold aDQ;rw[aHR];exact pL Yd Yd
theorem YG{n:Int}{l:eZ}(hn:n≤4)(x:Int):(aFE n l x).length≤16:=by
 unfold aFE;have h1:=iR (m:=4) (f:=aDQ n l x) (dT l.chair (-1) 0 (n-1)) fun c _=>GU hn x c
 have h2:=pL (s:=l.chair) (none:= -1) (lo:=0) (hi:=n-1) (m:=4) Yd Yd;omega
theorem GY{n:Int}{l:eZ}(hn:n≤4)(k:Nat):(VX n l k).length≤32:=by
 unfold VX;have h1:=iR (m:=16) (f:=aFE n l) ((dT l.kind 0 1 2).take k) fun x _=>YG hn x
 have h2:=pL (s:=l.kind) (none:=0) (lo:=1) (hi:=2) (m:=2) Yd Yd;have h3:((dT l.kind 0 1 2).take k).length≤(dT l.kind 0 1 2).length:=by rw[aHZ];omega
 omega
theorem DB{n:Int}{l:eZ}(hn:n≤4):(cN n l).length≤32:=by rw[←HX];exact GY hn _
theorem WU{n:Int}{l:eZ}{k:Nat}{x:Int}{j:Nat}{c:Int}{i:Nat}(hn:n≤4):(JV n l k x j c i).length≤60:=by
 unfold JV OI;rw[aGC,aGC,aHR];have h0:=GY (l:=l) hn k;have h1:=iR (m:=4) (f:=aDQ n l x) ((dT l.chair (-1) 0 (n-1)).take j) fun c _=>GU hn x c
 have h2:=pL (s:=l.chair) (none:= -1) (lo:=0) (hi:=n-1) (m:=4) Yd Yd;have h3:=pL (s:=l.token) (none:= -1) (lo:=0) (hi:=n-1) (m:=4) Yd Yd;have h4:((dT l.chair (-1) 0 (n-1)).take j).length≤4:=by rw[aHZ];omega
 have h5:((dT l.token (-1) 0 (n-1)).take i).length≤4:=by rw[aHZ];omega
 omega
def wY(l:List eZ):List Value:=l.flatMap fun x=>[.int .i64 x.kind,.int .i64 x.chair,.int .i64 x.token]
theorem AC(l:List eZ):(wY l).length=l.length*3:=by
 induction l with
 |nil=>rfl
 |cons c l ih=>unfold wY at ih ⊢;rw[aHS,aGC,ih];simp only[aGM,aIA];omega
theorem QB{l:List eZ}{i:Nat}{c:eZ}(hi:l[i]?= some c):((wY l).drop (i*3)).take 3=[.int .i64 c.kind,.int .i64 c.chair,.int .i64 c.token]:=by
  induction l generalizing i with
  |nil=>simp at hi
  |cons d l ih=>
    unfold wY at ih ⊢
    rw[aHS];cases i with
    | zero => obtain rfl : d = c := by simpa using hi
              rfl
    |succ i=>
      rw[aJY,aHO Yaf,aHI];have:(i+1)*3- [Value.int .i64 d.kind,Value.int .i64 d.chair,Value.int .i64 d.token].length=i*3:=by simp;omega
      rw[this];exact ih Yaj
theorem _root_.Go.Fs.jK.lins{D:aA}{v:Value}{n:Nat}{l:List eZ}(hF:jK D v n (wY l))(hn:l.length=n)(hb:n≤9223372036854775807):Sl D nX 3 v l:=
 hF.sl hn hb fun _i _t hi=>⟨_,rfl,rfl,QB hi⟩
theorem tE(bv:Value)(b:aW)(l:eZ)(D:aA)(hb:fP D bv b)(hn:1≤b.chairs∧b.chairs≤4):Fn Tryz.prog 150 #[bv,x8 l] D (fun D' v=>Sl D' nX 3 v (cN b.chairs l)):=by
 obtain⟨lv,cv,rfl,hl,hc⟩:=hb;refine enter 52 Tryz.func150 rfl rfl rfl rfl fun h0=>C.s1<|Zv rfl (fun q1 E1 hE1 hB1=>Zv rfl (fun q2 E2 hE2 hB2=>Zh rfl<|L.n4<|Zi rfl Tf.f160_0 rfl<|Zf 0 rfl Tf.a3 rfl hB2 rfl<|cB rfl rfl rfl (fun D1 hD1=>Z5 _ _ _ _ _ Yd Yd) rfl aLJ (fun v1 D1 hD1 hp1=>?_)))
 have hw1:=hp1;refine aV rfl U25 rfl hw1 rfl rfl trivial<|Za rfl<|L.n1<|Zah<|cJ (γ:=Nat×Value×aC) (fun g=>(dT l.kind 0 1 2).length-g.1) (fun g=>g.1≤(dT l.kind 0 1 2).length∧bN 160 3 g.2.1 (VX b.chairs l g.1).length (wY (VX b.chairs l g.1)) g.2.2) (fun g=>[(4,g.2.1),(15,.int .i64 (g.1:Int))]) [(14,_),(13,_),(3,_),(2,_)] (fun g=>g.2.2++[]) (fun g=>[D1,E2,E1,D]) (0,.slice none 0 0,[]) ⟨by simp,bN.nil⟩ ⟨Yb,Yb,aLJ⟩ C.rs (LT _) (aD) ?_;rintro⟨k,v,ν⟩ ⟨h1,ha1⟩;simp only at h1 ha1;refine C.s1<|Zad rfl<|L.n2<|aE rfl (fun hc1=>?_) (fun hc1=>?_)
 ·simp only at hc1;have hlw1:=hw1.len;obtain⟨x,hx1⟩:=C.ge (dT l.kind 0 1 2) k;refine C.kn<|aL<|Zah<|C.s1<|Zs rfl U25 Tf.s3 rfl hw1 rfl hx1 (fun b1 o1 cs1 hr1 hcl1 hA1=>?_);obtain rfl:cs1=[.int .i64 _]:=hr1;refine Zf 0 rfl Tf.a3 rfl hA1 rfl<|Zh rfl<|L.n3<|Zi rfl Tf.f160_1 rfl<|Zf 1 rfl Tf.a3 rfl hB2 rfl<|Zi rfl Tf.f36_0 rfl<|Zf 0 rfl Tf.a3 rfl hB1 rfl<|fJ rfl rfl rfl Yf rfl trivial<|cB rfl rfl rfl (fun D2 hD2=>Z5 _ _ _ _ _ Yd Yd) rfl aLJ (fun v2 D2 hD2 hp2=>?_);have hw2:=hp2;refine aV rfl U25 rfl hw2 rfl rfl trivial<|Za rfl<|L.n1<|Zah<|cJ (γ:=Nat×Value×aC) (fun g=>(dT l.chair (-1) 0 (b.chairs-1)).length-g.1) (fun g=>g.1≤(dT l.chair (-1) 0 (b.chairs-1)).length∧bN 160 3 g.2.1 (OI b.chairs l k x g.1).length (wY (OI b.chairs l k x g.1)) g.2.2) (fun g=>[(4,g.2.1),(26,.int .i64 (g.1:Int))]) [(25,_),(24,_),(23,_),(22,_),(21,_),(20,_),(19,_),(6,_),(18,_),(17,_),(16,_),(15,_),(14,_),(13,_),(3,_),(2,_)] (fun g=>g.2.2++[]) (fun g=>[D2,D1,E2,E1,D]) (0,v,ν) ⟨by simp,by rw[RD];exact ha1⟩ ⟨Yb,Yb,aLJ⟩ C.rs (LT _) (aD) ?_
  rintro⟨j,w,ν2⟩ ⟨h2,haJ⟩;simp only at h2 haJ;refine C.s1<|Zad rfl<|L.n2<|aE rfl (fun hc2=>?_) (fun hc2=>?_)
  ·simp only at hc2;have hlw2:=hw2.len;obtain⟨c,hx2⟩:∃x,(dT l.chair (-1) 0 (b.chairs-1))[j]?= some x:=⟨_,aGF Yd⟩
   refine C.kn<|aL<|Zah<|C.s1<|Zs rfl U25 Tf.s3 rfl hw2 rfl hx2 (fun b2 o2 cs2 hr2 hcl2 hA2=>?_);obtain rfl:cs2=[.int .i64 _]:=hr2;refine Zf 0 rfl Tf.a3 rfl hA2 rfl<|Zh rfl<|L.n3<|Zi rfl Tf.f160_2 rfl<|Zf 2 rfl Tf.a3 rfl hB2 rfl<|Zi rfl Tf.f36_0 rfl<|Zf 0 rfl Tf.a3 rfl hB1 rfl<|fJ rfl rfl rfl Yf rfl trivial<|cB rfl rfl rfl (fun D3 hD3=>Z5 _ _ _ _ _ Yd Yd) rfl aLJ (fun v3 D3 hD3 hp3=>?_);have hw3:=hp3;refine aV rfl U25 rfl hw3 rfl rfl trivial<|Za rfl<|L.n1<|Zah<|cJ (γ:=Nat×Value×aC) (fun g=>(dT l.token (-1) 0 (b.chairs-1)).length-g.1) (fun g=>g.1≤(dT l.token (-1) 0 (b.chairs-1)).length∧bN 160 3 g.2.1 (JV b.chairs l k x j c g.1).length (wY (JV b.chairs l k x j c g.1)) g.2.2) (fun g=>[(4,g.2.1),(37,.int .i64 (g.1:Int))]) [(36,_),(35,_),(34,_),(33,_),(32,_),(31,_),(30,_),(8,_),(29,_),(28,_),(27,_),(26,_),(25,_),(24,_),(23,_),(22,_),(21,_),(20,_),(19,_),(6,_),(18,_),(17,_),(16,_),(15,_),(14,_),(13,_),(3,_),(2,_)] (fun g=>g.2.2++[]) (fun g=>[D3,D2,D1,E2,E1,D]) (0,w,ν2) ⟨by simp,by rw[UG];exact haJ⟩ ⟨Yb,Yb,aLJ⟩ C.rs (LT _) (aD) ?_
   rintro⟨i,u,ν3⟩ ⟨h3,haI⟩;simp only at h3 haI;refine C.s1<|Zad rfl<|L.n2<|aE rfl (fun hc3=>?_) (fun hc3=>?_)
   ·simp only at hc3;have hlw3:=hw3.len;obtain⟨t,hx3⟩:∃x,(dT l.token (-1) 0 (b.chairs-1))[i]?= some x:=⟨_,aGF Yd⟩
    refine C.kn<|aL<|Zah<|C.s1<|Zs rfl U25 Tf.s3 rfl hw3 rfl hx3 (fun b3 o3 cs3 hr3 hcl3 hA3=>?_);obtain rfl:cs3=[.int .i64 _]:=hr3;refine Zf 0 rfl Tf.a3 rfl hA3 rfl<|Zh rfl<|L.n1<|C.rg<|Za rfl<|Za rfl<|Za rfl<|Za rfl<|Zq [.int .i64 x,.int .i64 c,.int .i64 t] rfl Tf.p160 Tf.z160 rfl rfl<|Zp rfl U33 Tf.s160 Tf.z160 rfl rfl rfl rfl (.cons rfl rfl .nil) (fun b901 D901 hD901 hA901=>?_);have hli:=WU (n:=b.chairs) (l:=l) (k:=k) (x:=x) (j:=j) (c:=c) (i:=i) Yd;refine bA (A:=[]) (B:=[]) rfl U33 rfl rfl Tf.s160 Tf.z160 rfl Tf.i160 rfl rfl rfl haI (jL.lit hA901) Ye rfl (AC _) Yi Yd (aGR rfl) rfl aLJ (fun v7 ν7 ha7=>?_);have hn7:bN 160 3 v7 (JV b.chairs l k x j c (i+1)).length (wY (JV b.chairs l k x j c (i+1))) ν7:=by rw[VT hx3];simpa [wY]using ha7
    refine Zh rfl<|Zz<|Zak<|Zag<|C.rg<|Zx rfl<|Za rfl<|Zz ?_;exact aH 16 (i+1,v7,ν7) ⟨by simp only;omega,hn7⟩ Yn ⟨Yb,Yb,aLJ⟩ rfl rfl (LT _) (fun D h=>⟨D,LE _ (h),Le.refl D⟩)
   ·have hi:i=(dT l.token (-1) 0 (b.chairs-1)).length:=by simp only at hc3;omega
    rw[hi,ZR hx2]at haI;refine aR<|Zai<|Zai<|Zal<|Zak<|Zag<|C.rg<|Zx rfl<|Za rfl<|Zz ?_;exact aH 17 (j+1,u,ν3) ⟨by simp only;omega,haI⟩ Yn ⟨Yb,Yb,aLJ⟩ rfl rfl (LT _) (fun D h=>⟨D,LE _ (h),Le.refl D⟩)
  ·have hj:j=(dT l.chair (-1) 0 (b.chairs-1)).length:=by simp only at hc2;omega
   rw[hj,ZD hx1]at haJ;refine aR<|Zai<|Zai<|Zal<|Zak<|Zag<|C.rg<|Zx rfl<|Za rfl<|Zz ?_;exact aH 17 (k+1,w,ν2) ⟨by simp only;omega,haJ⟩ Yn ⟨Yb,Yb,aLJ⟩ rfl rfl (LT _) (fun D h=>⟨D,LE _ (h),Le.refl D⟩)
 ·have hk:k=(dT l.kind 0 1 2).length:=by simp only at hc1;omega
  rw[hk,HX]at ha1;refine aR<|Zai<|Zai<|Zal<|Zag<|C.s1<|Za rfl<|Zh rfl<|L.n5<|eF (A:=[]) (B:=[]) ha1 rfl (fun D2 hD2 hF=>?_);exact leave1 rfl rfl rfl rfl (fun D hD=>(hF.lins rfl (by have:=DB (l:=l) hn.2;omega)).up nX.up (hD _ Ye))
end L3
end Go.Fs
namespace Go.Fs
open Go.Proofs
namespace L3
open L1
open C3
theorem aEA{b:aW}(h:((!C1.fL b.chairs 1 4|| !C1.fL b.coin 1 99)|| !C1.fL b.box 0 999)=false):1≤b.chairs∧b.chairs≤4:=by
 simp only[aJM,Bool.not_eq_false',C1.cE]at h;exact h.1.1
theorem aDY{b:aW}(h:((((!C1.fL b.chairs 1 4|| !C1.fL b.coin 1 99)|| !C1.fL b.box 0 999)|| !b.lines.all (qQ b.chairs))|| !b.counts.all (lU b.lines.length))=false):oY b=true∧1≤b.chairs∧b.chairs≤4:=by
 simp only[aJM,Bool.not_eq_false']at h;obtain⟨⟨⟨⟨h1,h2⟩,h3⟩,h4⟩,h5⟩:=h;exact⟨by unfold oY;rw[h1,h2,h3,h4,h5];rfl,(C1.cE.1 h1)⟩
theorem CS{b:aW}(h:(decide ((8:Int)<b.lines.length)||decide ((4:Int)<b.counts.length))=false):¬(8<b.lines.length∨4<b.counts.length):=by
 simp only[aJM,aIT]at h;omega
theorem UD{b:aW}(h:(decide ((8:Int)<b.lines.length)||decide ((4:Int)<b.counts.length))=true):aT b=3:=by
 simp only[aIC,aGZ]at h;unfold aT;rw[aGX Yd]
theorem aBD{b:aW}(h:(decide ((8:Int)<b.lines.length)||decide ((4:Int)<b.counts.length))=false)(h2:((((!C1.fL b.chairs 1 4|| !C1.fL b.coin 1 99)|| !C1.fL b.box 0 999)|| !b.lines.all (qQ b.chairs))|| !b.counts.all (lU b.lines.length))=true):aT b=1:=by
 unfold aT;rw[aGQ (CS h),aGX]
 revert h2;unfold oY
 generalize C1.fL b.chairs 1 4=x,C1.fL b.coin 1 99=y,C1.fL b.box 0 999=z,b.lines.all (qQ b.chairs)=u,b.counts.all (lU b.lines.length)=w;cases x<;>cases y<;>cases z<;>cases u<;>cases w<;>decide
theorem ZH{b:aW}(h:(decide ((8:Int)<b.lines.length)||decide ((4:Int)<b.counts.length))=false)(h2:oY b=true)(h3:uO b.chairs b.lines>4096):aT b=3:=by
 unfold aT;rw[aGQ (CS h),aGQ (by rw[h2];simp),aGX h3]
theorem WJ{b:aW}(h:(decide ((8:Int)<b.lines.length)||decide ((4:Int)<b.counts.length))=false)(h2:oY b=true)(h3:¬uO b.chairs b.lines>4096):aT b=0:=by
 unfold aT;rw[aGQ (CS h),aGQ (by rw[h2];simp),aGQ h3]
theorem DV{n:Int}{ls:List eZ}{i:Nat}{x:eZ}(hx:ls[i]?= some x):uO n (ls.take (i+1))=min (uO n (ls.take i)*(cN n x).length) 4097:=by
 unfold uO;rw[aGT,hx,aIB,aIG];rfl
theorem PR(n:Int)(ls:List eZ):0≤uO n ls∧uO n ls≤4097:=by
 unfold uO;have key:∀(l:List eZ) (m:Int),0≤m∧m≤4097→0≤l.foldl (fun(m:Int) l=>min (m*((cN n l).length:Int)) 4097) m∧l.foldl (fun(m:Int) l=>min (m*((cN n l).length:Int)) 4097) m≤4097:=by
  intro l;induction l with
  |nil=>intro m h;exact h
  |cons x l ih=>
   intro m h;rw[aIO];refine ih _ ⟨?_,by omega⟩;have:0≤m*((cN n x).length:Int):=Int.mul_nonneg h.1 Yd;omega
 exact key ls 1 Yd
theorem aCO{m:Int}{k:Nat}(h:0≤m∧m≤4097)(hk:k≤32):rJ .i64 (m*(k:Int)):=by
 have h1:0≤m*(k:Int):=Int.mul_nonneg h.1 Yd;have h2:m*(k:Int)≤4097*32:=Int.mul_le_mul h.2 Yd Yd Yd;simp only[rJ];omega
theorem rG(bv:Value)(b:aW)(D:aA)(hb:fP D bv b):Fn Tryz.prog 86 #[bv] D (fun _ v=>v=.int .i64 (aT b)):=by
 have hb0:=hb;obtain⟨lv,cv,rfl,hl,hc⟩:=hb;have hll:=hl.len;refine enter 72 Tryz.func86 rfl rfl rfl rfl fun h0=>C.s1<|Zv rfl (fun q1 E1 hE1 hB1=>Zh rfl<|L.n2<|C.drawA [] 1 6 28 (fun _ _ _ h=>bZ (P:=Tryz.prog) (fn:=Tryz.f86) _ _ _ h)<|Zr rfl Tf.a36 rfl hB1 Tf.s36<|bB rfl rfl rfl rfl trivial<|Zr rfl Tf.a36 rfl hB1 Tf.s36<|bB rfl rfl rfl rfl trivial<|Zh rfl<|Zh rfl ?_);refine L.n2<|Zah<|C.s1<|Zi rfl Tf.f36_3 rfl<|Zf 3 rfl Tf.a33 rfl hB1 rfl<|aV rfl U33 rfl hl rfl rfl trivial<|eT rfl rfl rfl rfl trivial<|Za rfl ?_
 refine' L.orK 5 (s:=17) (p:=22) rfl (fun hg1=>?_) (fun hg1=>?_) ?_;rotate_left
 ·refine Zj rfl Tf.f36_4 rfl<|Zg 4 rfl Tf.a34 rfl hB1 rfl<|aV rfl U34 rfl hc rfl rfl ⟨_,rfl,rfl⟩<|eT rfl rfl rfl rfl ⟨_,rfl,rfl⟩<|Zac rfl ?_;exact L.cu 4
 ·refine Zk rfl<|Zk rfl<|Zk rfl<|Zk rfl<|Zab rfl ?_;exact L.cu 4
 refine Zh rfl<|L.n1<|aQ rfl (fun hc1=>?_) (fun hc1=>?_)
 ·refine C.s1<|Zh rfl<|L.n5<|aG<|Zaj ?_;exact leave1 rfl rfl rfl rfl (fun D hD=>by show Value.int _ _=_;rw[UD hc1])
 ·refine C.s1<|Zi rfl Tf.f36_0 rfl<|Zf 0 rfl Tf.a3 rfl hB1 rfl<|Zc rfl (fun D1 hD1=>gV _ _ _ _)<|Zaf rfl<|Za rfl ?_;refine' L.orK 5 (s:=28) (p:=33) rfl (fun hg2=>?_) (fun hg2=>?_) ?_;rotate_left
  ·refine Zj rfl Tf.f36_1 rfl<|Zg 1 rfl Tf.a3 rfl hB1 rfl<|Zd rfl (fun D2 hD2=>gV _ _ _ _)<|iW rfl rfl rfl ⟨_,rfl,rfl⟩<|Zac rfl ?_;exact L.cu 4
  ·refine Zk rfl<|Zk rfl<|Zk rfl<|Zk rfl<|Zab rfl ?_;exact L.cu 4
  refine Za rfl ?_;refine' L.orK 5 (s:=34) (p:=39) rfl (fun hg3=>?_) (fun hg3=>?_) ?_;rotate_left
  ·refine Zj rfl Tf.f36_2 rfl<|Zg 2 rfl Tf.a3 rfl hB1 rfl<|Zd rfl (fun D3 hD3=>gV _ _ _ _)<|iW rfl rfl rfl ⟨_,rfl,rfl⟩<|Zac rfl ?_;exact L.cu 4
  ·refine Zk rfl<|Zk rfl<|Zk rfl<|Zk rfl<|Zab rfl ?_;exact L.cu 4
  refine Za rfl ?_;refine' L.orK 6 (s:=40) (p:=46) rfl (fun hg4=>?_) (fun hg4=>?_) ?_;rotate_left
  ·have hch:=aEA hg4;refine Zj rfl Tf.f36_3 rfl<|Zg 3 rfl Tf.a33 rfl hB1 rfl<|Zb rfl<|Zd rfl (fun D4 hD4=>XW _ _ _ (qQ b.chairs) _ (Sl.at nX.up hD4 Yk Ye) ⟨_,[_],[],rfl,fun r D2 hl=>OP _ b r D2 (hb0.up ((hD4 _ Ye).trans hl)) Yd⟩ rfl)<|iW rfl rfl rfl ⟨_,rfl,rfl⟩<|Zac rfl ?_;exact L.cu 5
  ·refine Zk rfl<|Zk rfl<|Zk rfl<|Zk rfl<|Zk rfl<|Zab rfl ?_;exact L.cu 5
  refine Za rfl ?_;refine' L.orK 6 (s:=47) (p:=53) rfl (fun hg5=>?_) (fun hg5=>?_) ?_;rotate_left
  ·refine Zj rfl Tf.f36_4 rfl<|Zg 4 rfl Tf.a34 rfl hB1 rfl<|Zb rfl<|Zd rfl (fun D5 hD5=>GX _ _ _ (lU b.lines.length) _ (Sl.at pR.up hD5 Yk Ye) ⟨_,[_],[],rfl,fun r D2 hl=>JP _ b r D2 (hb0.up ((hD5 _ Ye).trans hl))⟩ rfl)<|iW rfl rfl rfl ⟨_,rfl,rfl⟩<|Zac rfl ?_;exact L.cu 5
  ·refine Zk rfl<|Zk rfl<|Zk rfl<|Zk rfl<|Zk rfl<|Zab rfl ?_;exact L.cu 5
  refine Zh rfl<|L.n1<|aQ rfl (fun hc2=>?_) (fun hc2=>?_)
  ·refine C.s1<|Zh rfl<|L.n5<|aG<|Zaj ?_;exact leave1 rfl rfl rfl rfl (fun D hD=>by show Value.int _ _=_;rw[aBD hc1 hc2])
  ·obtain⟨hok,hch4⟩:=aDY hc2;refine bR<|Zak<|Zag<|C.s1<|Zh rfl<|L.n4<|Zi rfl Tf.f36_3 rfl<|Zf 3 rfl Tf.a33 rfl hB1 rfl<|aV rfl U33 rfl hl rfl rfl trivial<|Za rfl<|L.n1<|Zah ?_;refine cG (γ:=Nat) (fun i=>b.lines.length-i) (fun i=>i≤b.lines.length) (fun i=>[(57,.int .i64 (i:Int)),(5,.int .i64 (uO b.chairs (b.lines.take i)))]) [(56,_),(55,_),(2,_),(1,_)] (fun i=>[E1,D]) 0 Yd ⟨Yb,Yb,aLJ⟩ C.rs (aD) ?_;rintro i h1;refine C.s1<|Zad rfl<|L.n2<|aE rfl (fun hc3=>?_) (fun hc3=>?_)
   ·have hi:i<b.lines.length:=by omega
    obtain⟨x,hx⟩:=C.ge b.lines i;refine C.kn<|aL<|Zah<|C.s1<|Zs rfl U33 Tf.s160 rfl hl rfl hx (fun b1 o1 cs1 hr1 hcl1 hA1=>?_);obtain rfl:cs1=[.int .i64 _,.int .i64 _,.int .i64 _]:=hr1;refine Zr rfl Tf.a160 rfl hA1 Tf.s160<|Zw rfl Tf.z160 rfl (fun q2=>Zu rfl Tf.s160 (bL.head)<|L.n1<|C.rg<|Za rfl<|Zr rfl Tf.a36 rfl hB1 Tf.s36<|Zt rfl Tf.a160 rfl (List.Mem.head _) Tf.s160<|cB rfl rfl rfl (fun D6 hD6=>tE _ b x _ (hb0.up (hD6 _ Ye)) Yd) rfl aLJ (fun v6 D6 hD6 hp6=>?_));have hr3:=hp6;have hrl:=DB (l:=x) (n:=b.chairs) Yd;have hmk:=PR b.chairs (b.lines.take i);refine aV rfl U33 rfl hr3 rfl rfl trivial<|wL rfl rfl rfl (aCO hmk hrl) rfl trivial<|Zp rfl U25 Tf.s3 Tf.z3 rfl rfl rfl rfl (.cons rfl rfl (.cons rfl rfl .nil)) (fun b901 D901 hD901 hA901=>?_);have hS901:=Sl.ofInts (l:=[_,_]) (n:=2) (cap:=2) hA901 rfl Yd Yd;refine Zc rfl (fun D7 hD7=>sN _ _ [4097] _ (hS901.up RI.up (hD7 _ Ye)))<|Zh rfl<|Zz<|Zak<|Zag<|C.rg<|Zx rfl<|Za rfl<|Zz ?_;exact aH 17 (i+1) Yd Yd ⟨Yb,(by rw[DV hx];rfl),aLJ⟩ rfl rfl (List.Sublist.cons _ (LT _)) (fun D h=>⟨D,LE _ (LE _ (h)),Le.refl D⟩)
   ·obtain rfl:i=b.lines.length:=by omega
    rw[aHT];refine aR<|Zai<|Zai<|Zal<|Zag<|C.s2<|Za rfl<|eT rfl rfl rfl rfl trivial<|L.n1<|aE rfl (fun hc4=>?_) (fun hc4=>?_)
    ·refine C.s1<|Zh rfl<|L.n5<|Zaj ?_;exact leave1 rfl rfl rfl rfl (fun D hD=>by show Value.int _ _=_;rw[ZH hc1 hok hc4])
    ·refine C.kn<|C.s1<|Zh rfl<|L.n5 ?_;exact leave1 rfl rfl rfl rfl (fun D hD=>by show Value.int _ _=_;rw[WJ hc1 hok hc4])
end L3
end Go.Fs
namespace Go.Fs
open Go.Proofs
namespace L3
open L1
section
variable{P:Program}{X:Cx}{γb:Type}[Membership Nat γb]{bad:γb}{all:Array Oper}{K:Act→World→Prop}{Q:Exit→Act→World→Prop}
variable{σ:bQ}{μ:aC}{Ds:List aA}{os:List (Bool×Nat)}{fl:Bool}{ix:Nat}
variable{d:Nat}{x y z:Operand}{u v:Value}{ty:TypeId}{pos:String}{aft:Array Edge}{g:Option (Nat×Bool)}
theorem mY{t:TypeId}{b k:Nat}{l:List Int}{n:Int}{e:TypeId}{μ':aC}(ho:all[ix]?= some ⟨none,.store t x y,ty,pos,aft,g⟩)(hs:TS P t 1)(hx:ev σ x=some (.pointer (some ⟨b,k,none⟩)))(hy:ev σ y=some (.int .i64 n))
  (hm:bL μ b (.cells (ints l).toArray e (0,0)) (.cells (ints (l.set k n)).toArray e (0,0)) μ') (hl:k<l.length) (hfl:fl=false∨b∈bad) (hg:cS all σ g)
  (kk:WL P X bad all K Q os σ μ' Ds):WL P X bad all K Q ((fl,ix)::os) σ μ Ds:=by
 have hil:(ints l).length=l.length:=aI l;refine nG (off:=k) (us:=[.int .i64 n]) (vs:=ints l) (ws:=ints (l.set k n)) ho hx hy rfl hs hm (by simp[hil];omega) ?_ (fun u hu=>by simp at hu;subst hu;rfl) hfl hg kk
 rw[show ints (l.set k n)=(ints l).set k (.int .i64 n) by simp[ints,List.map_set],List.set_eq_take_append_cons_drop,aGX (by rw[hil];exact hl)];simp
end
open C3
theorem oT{q a b:Nat}(h:a=b):some (Value.pointer (some ⟨q,a,none⟩))=some (Value.pointer (some ⟨q,b,none⟩)):=by rw[h]
theorem uC{s:Sc}(h4:s.ch.length=4)(h5:s.tk.length=4):(kX s).length=10:=by unfold kX;simp[h4,h5]
theorem aAR{s:Sc}(h4:s.ch.length=4){c:Int}(hc:0≤c∧c<4):(ints (kX s))[0+c.toNat*1]?= some (.int .i64 (jQ s.ch c)):=by
 rw[aJA,aIR];refine cA ?_;unfold kX jQ;rw[aGN,aIU Yd,aHP,aGF Yd];rfl
theorem aAQ{s:Sc}(h4:s.ch.length=4)(h5:s.tk.length=4){c:Int}(hc:0≤c∧c<4):(ints (kX s))[0+4+c.toNat*1]?= some (.int .i64 (jQ s.tk c)):=by
 rw[aIR];refine cA ?_;unfold kX jQ;rw[aGN,aKM Yd,aIU Yd,aHP,show 0+4+c.toNat-s.ch.length=c.toNat by omega,aGF Yd];rfl
theorem n8{l:List Int}(h:l.length=4):∃a b c d,l=[a,b,c,d]:=by
 match l,h with
 | [a,b,c,d],_=>exact⟨a,b,c,d,rfl⟩
theorem rV{s:Sc}(h4:s.ch.length=4)(h5:s.tk.length=4):(kX s)[8]?= some s.money:=by
 obtain⟨a,b,c,d,e⟩:=n8 h4;obtain⟨a',b',c',d',e'⟩:=n8 h5;unfold kX;rw[e,e'];rfl
theorem AN{s:Sc}(h4:s.ch.length=4)(h5:s.tk.length=4):(kX s)[9]?= some s.mixed:=by
 obtain⟨a,b,c,d,e⟩:=n8 h4;obtain⟨a',b',c',d',e'⟩:=n8 h5;unfold kX;rw[e,e'];rfl
theorem GW{s:Sc}(h4:s.ch.length=4)(h5:s.tk.length=4){c t:Int}(hc:0≤c∧c<4)(ht:0≤t∧t<4)(x y m:Int):
  (((kX s).set c.toNat x).set (4+t.toNat) y).set 8 m=kX ⟨s.ch.set c.toNat x,s.tk.set t.toNat y,m,s.mixed⟩∧∀z,((((kX s).set 9 z).set c.toNat x).set (4+t.toNat) y).set 8 m=kX ⟨s.ch.set c.toNat x,s.tk.set t.toNat y,m,z⟩:=by
 obtain⟨a,b,c',d,e⟩:=n8 h4;obtain⟨a',b',c'',d',e'⟩:=n8 h5;unfold kX;rw[e,e'];have hc':c.toNat=0∨c.toNat=1∨c.toNat=2∨c.toNat=3:=by omega
 have ht':t.toNat=0∨t.toNat=1∨t.toNat=2∨t.toNat=3:=by omega
 rcases hc' with h|h|h|h<;>rcases ht' with h'|h'|h'|h'<;>rw[h,h']<;>exact⟨rfl,fun _=>rfl⟩
theorem aBJ{s:Sc}{l:eZ}(h:((!(decide (jQ s.ch l.chair≠0)==decide (l.kind=2)))||(!(decide (jQ s.tk l.token≠0)==decide (l.kind=2))))=true):iA s l=false:=by
 unfold iA
 revert h
 generalize decide (jQ s.ch l.chair≠0)=a,decide (jQ s.tk l.token≠0)=c,decide (l.kind=2)=e;cases a<;>cases c<;>cases e<;>decide
theorem WA{s:Sc}{l:eZ}(h:((!(decide (jQ s.ch l.chair≠0)==decide (l.kind=2)))||(!(decide (jQ s.tk l.token≠0)==decide (l.kind=2))))=false):iA s l=true:=by
 unfold iA
 revert h
 generalize decide (jQ s.ch l.chair≠0)=a,decide (jQ s.tk l.token≠0)=c,decide (l.kind=2)=e;cases a<;>cases c<;>cases e<;>decide
theorem aDH{b:aW}{s:Sc}{i:Int}{l:eZ}(h:iA s l=false):Value.tuple #[.agg (ints (kX s)).toArray,.bool false]=.tuple #[FR (if iA s l=true then dO b s i l else s),.bool (iA s l)]:=by rw[h];rfl
theorem m3{b:aW}{s:Sc}{i:Int}{l:eZ}{L:List Int}(h:iA s l=true)(hL:L=kX (dO b s i l)):Value.tuple #[.agg (ints L).toArray,.bool true]=.tuple #[FR (if iA s l=true then dO b s i l else s),.bool (iA s l)]:=by rw[h,hL];rfl
theorem W7{b:aW}{s:Sc}{i:Int}{l:eZ}{L:List Int}(h4:s.ch.length=4)(h5:s.tk.length=4)(hc:0≤l.chair∧l.chair<4)(ht:0≤l.token∧l.token<4)(hk:l.kind=2)
  (h:(jQ s.ch l.chair≠jQ s.tk l.token∧L=(kX s).set 9 (s.mixed+1))∨(jQ s.ch l.chair=jQ s.tk l.token∧L=kX s)):((L.set l.chair.toNat 0).set (4+l.token.toNat) 0).set 8 (s.money-b.coin)=kX (dO b s i l):=by
 obtain⟨g1,g2⟩:=GW h4 h5 hc ht 0 0 (s.money-b.coin);unfold dO;rw[aGX hk];rcases h with⟨e,rfl⟩|⟨e,rfl⟩
 ·rw[g2,aGX e]
 ·rw[g1,aGQ (by rw[e];simp)]
theorem QD{b:aW}{s:Sc}{i:Int}{l:eZ}(h4:s.ch.length=4)(h5:s.tk.length=4)(hc:0≤l.chair∧l.chair<4)(ht:0≤l.token∧l.token<4)(hk:l.kind≠2):
  (((kX s).set l.chair.toNat (i+1)).set (4+l.token.toNat) (i+1)).set 8 (s.money+b.coin)=kX (dO b s i l):=by
 rw[(GW h4 h5 hc ht (i+1) (i+1) (s.money+b.coin)).1];unfold dO;rw[aGQ hk]
theorem B0(bv:Value)(b:aW)(s:Sc)(i:Int)(l:eZ)(D:aA)(hb:fP D bv b)(h4:s.ch.length=4)(h5:s.tk.length=4)(hc:0≤l.chair∧l.chair<4)(ht:0≤l.token∧l.token<4)(hi:0≤i∧i≤100)(hm: -100000≤s.money∧s.money≤100000)(hx:0≤s.mixed∧s.mixed≤1000)(hn:0≤b.coin∧b.coin≤99):
  Fn Tryz.prog 233 #[bv,FR s,.int .i64 i,x8 l] D (fun _ v=>v=.tuple #[FR (if iA s l=true then dO b s i l else s),.bool (iA s l)]):=by
 obtain⟨lv,cv,rfl,hl,hcn⟩:=hb;have hs10:=uC h4 h5;refine enter 83 Tryz.func233 rfl rfl rfl rfl fun h0=>C.s1<|Zv rfl (fun q1 E1 hE1 hB1=>V4 rfl (e:=207) rfl rfl rfl aLJ (fun q2=>Zv rfl (fun q3 E3 hE3 hB3=>Zw rfl Tf.z207 rfl (fun q4=>Zh rfl<|L.n3<|Zi rfl Tf.f160_0 rfl<|Zf 0 rfl Tf.a3 rfl hB3 rfl<|dK rfl rfl rfl rfl trivial<|Zh rfl ?_))));refine L.n4<|Zi rfl Tf.f160_1 rfl<|Zf 1 rfl Tf.a3 rfl hB3 rfl<|Zi rfl Tf.f207_0 rfl<|dR rfl U205 Tf.s3 rfl rfl Yd Yd rfl trivial<|aS (v:=.int .i64 (jQ s.ch l.chair)) rfl Tf.a3 rfl (LE _ (GE _)) (aAR h4 hc) GT rfl trivial<|eI rfl rfl rfl rfl trivial<|Za rfl<|g9 rfl U4 rfl rfl rfl trivial<|Za rfl ?_
 refine' L.orK 9 (s:=22) (p:=31) rfl (fun hg1=>?_) (fun hg1=>?_) ?_;rotate_left
 ·refine Zj rfl Tf.f160_2 rfl<|Zg 2 rfl Tf.a3 rfl hB3 rfl<|Zj rfl Tf.f207_1 rfl<|dR rfl U205 Tf.s3 rfl rfl Yd Yd rfl ⟨_,rfl,rfl⟩<|aS (v:=.int .i64 (jQ s.tk l.token)) rfl Tf.a3 rfl (LE _ (GE _)) (aAQ h4 h5 ht) GT rfl ⟨_,rfl,rfl⟩<|eI rfl rfl rfl rfl ⟨_,rfl,rfl⟩<|Zb rfl<|g9 rfl U4 rfl rfl rfl ⟨_,rfl,rfl⟩<|Zac rfl ?_;exact L.cu 8
 ·refine Zk rfl<|Zk rfl<|Zk rfl<|Zk rfl<|Zk rfl<|Zk rfl<|Zk rfl<|Zk rfl<|Zab rfl ?_;exact L.cu 8
 refine L.n1<|aQ rfl (fun hc1=>?_) (fun hc1=>?_)
 ·refine C.s1<|bK (e:=207) (fz:=(0,0)) rfl Tf.a207 rfl (LE _ (GE _)) (by rw[show(ints _).length=10 by simp[hs10]];exact Tf.s207) GT rfl trivial<|bD rfl rfl rfl rfl Tf.s207 (by simp[hs10]) (by rfl) .head (cW _) trivial<|Zh rfl<|L.n5<|Zaj ?_;exact Zm [_,_] rfl ⟨⟨_,_,_,rfl,(List.Mem.head _),Or.inr ⟨Tf.a207,(by rw[show(ints _).toArray.size=10 by simp[hs10]];exact Tf.s207),rfl⟩⟩,rfl,aLJ⟩ (fun D hD=>aDH (aBJ hc1))
 ·have hcan:iA s l=true:=WA hc1;refine C.kn<|C.s2<|Za rfl<|L.n1<|aE rfl (fun hc2=>?_) (fun hc2=>?_)
  ·have hk2:l.kind=2:=by simpa using hc2
   refine aL<|aL<|C.drawA [] 4 11 996 (fun _ _ _ h=>bZ (P:=Tryz.prog) (fn:=Tryz.f233) _ _ _ h)<|Zi rfl Tf.f160_1 rfl<|Zf 1 rfl Tf.a3 rfl hB3 rfl<|Zi rfl Tf.f207_0 rfl<|dR rfl U205 Tf.s3 rfl rfl Yd Yd rfl trivial<|aS (v:=.int .i64 (jQ s.ch l.chair)) rfl Tf.a3 rfl (LE _ (GE _)) (aAR h4 hc) GT rfl trivial<|Zi rfl Tf.f160_2 rfl<|Zf 2 rfl Tf.a3 rfl hB3 rfl<|Zi rfl Tf.f207_1 rfl<|dR rfl U205 Tf.s3 rfl rfl Yd Yd rfl aLJ ?_;refine aS (v:=.int .i64 (jQ s.tk l.token)) rfl Tf.a3 rfl (LE _ (GE _)) (aAQ h4 h5 ht) GT rfl trivial<|eI rfl rfl rfl rfl trivial<|L.n1<|aE rfl (fun hc3=>?_) (fun hc3=>?_)
   ·refine C.rg<|Zi rfl Tf.f207_3 rfl<|aS (v:=.int .i64 s.mixed) rfl Tf.a3 rfl (LE _ (GE _)) (cA (AN h4 h5)) GT rfl trivial<|Zx rfl<|Zi rfl Tf.f207_3 rfl<|pI (k:=9) rfl Tf.s3 rfl rfl (.tail bL.head) Yu trivial<|L.n2<|iS (dN.mk [q3]) 2 [0,1,2,3,4,5,7,6,8,9] [false,false,true,true,true,true,true,true,false,false] [(false,0),(false,1),(true,2),(true,3),(true,4),(true,5),(true,7),(true,6),(false,8),(false,9)] Tf.follows (fun _ _ _ h=>bZ (P:=Tryz.prog) (fn:=Tryz.f233) _ _ _ h) Yg rfl<|Zi rfl Tf.f160_1 rfl<|bC rfl (k:=1) Tf.a3 rfl hB3 Yc rfl (dN.out Ye) rfl trivial<|Zi rfl Tf.f160_2 rfl<|bC rfl (k:=2) Tf.a3 rfl hB3 Yc rfl (dN.out Ye) rfl aLJ ?_;refine Zi rfl Tf.f207_0 rfl<|dR rfl U205 Tf.s3 rfl rfl Yd Yd rfl trivial<|Zi rfl Tf.f207_1 rfl<|bP hB3 Ye (fun hap=>mY (k:=l.chair.toNat) rfl Tf.s3 (oT Yd) rfl (.tail bL.head) Yu (aGH (dN.in_ Yt)) trivial<|dR rfl U205 Tf.s3 rfl rfl Yd Yd rfl trivial<|bP hB3 Ye (fun hap=>mY (k:=4+l.token.toNat) rfl Tf.s3 (oT Yd) rfl (.tail bL.head) Yu (aGH (dN.in_ Yt)) trivial<|L.n3<|Zi rfl Tf.f207_2 rfl<|aS (v:=.int .i64 s.money) rfl Tf.a3 rfl (LE _ (GE _)) (cA Yaa) GT rfl trivial<|Zi rfl Tf.f36_1 rfl ?_));refine Zf 1 rfl Tf.a3 rfl hB1 rfl<|fJ rfl rfl rfl Yf rfl trivial<|Zi rfl Tf.f207_2 rfl<|pI (k:=8) rfl Tf.s3 rfl rfl (.tail bL.head) Yu trivial<|L.n3<|bK (e:=207) (fz:=(0,0)) rfl Tf.a207 rfl (LE _ (GE _)) (by rw[show(ints _).length=10 by simp[hs10]];exact Tf.s207) GT rfl trivial<|bD rfl rfl rfl rfl Tf.s207 (by simp[hs10]) (by rfl) .head (cW _) trivial<|Zh rfl<|L.n5<|Zaj ?_
    exact Zm [_,_] rfl ⟨⟨_,_,_,rfl,(GE _),aGH ⟨Tf.a207,(by rw[show(ints _).toArray.size=10 by simp[hs10]];exact Tf.s207),rfl⟩⟩,rfl,aLJ⟩ (fun D hD=>m3 hcan (W7 h4 h5 hc ht hk2 (aGR ⟨by simpa using hc3,rfl⟩)))
   ·refine C.kn<|aL<|iS (dN.mk [q3]) 2 [0,1,2,3,4,5,7,6,8,9] [false,false,true,true,true,true,true,true,false,false] [(false,0),(false,1),(true,2),(true,3),(true,4),(true,5),(true,7),(true,6),(false,8),(false,9)] Tf.follows (fun _ _ _ h=>bZ (P:=Tryz.prog) (fn:=Tryz.f233) _ _ _ h) Yg rfl<|Zi rfl Tf.f160_1 rfl<|bC rfl (k:=1) Tf.a3 rfl hB3 Yc rfl (dN.out Ye) rfl trivial<|Zi rfl Tf.f160_2 rfl<|bC rfl (k:=2) Tf.a3 rfl hB3 Yc rfl (dN.out Ye) rfl trivial<|Zi rfl Tf.f207_0 rfl<|dR rfl U205 Tf.s3 rfl rfl Yd Yd rfl trivial<|Zi rfl Tf.f207_1 rfl<|bP hB3 Ye (fun hap=>mY (k:=l.chair.toNat) rfl Tf.s3 (oT Yd) rfl (.tail bL.head) Yu (aGH (dN.in_ Yt)) aLJ ?_);refine dR rfl U205 Tf.s3 rfl rfl Yd Yd rfl trivial<|bP hB3 Ye (fun hap=>mY (k:=4+l.token.toNat) rfl Tf.s3 (oT Yd) rfl (.tail bL.head) Yu (aGH (dN.in_ Yt)) trivial<|L.n3<|Zi rfl Tf.f207_2 rfl<|aS (v:=.int .i64 s.money) rfl Tf.a3 rfl (LE _ (GE _)) (cA Yaa) GT rfl trivial<|Zi rfl Tf.f36_1 rfl<|Zf 1 rfl Tf.a3 rfl hB1 rfl<|fJ rfl rfl rfl Yf rfl trivial<|Zi rfl Tf.f207_2 rfl<|pI (k:=8) rfl Tf.s3 rfl rfl (.tail bL.head) Yu trivial<|L.n3 ?_);refine bK (e:=207) (fz:=(0,0)) rfl Tf.a207 rfl (LE _ (GE _)) (by rw[show(ints _).length=10 by simp[hs10]];exact Tf.s207) GT rfl trivial<|bD rfl rfl rfl rfl Tf.s207 (by simp[hs10]) (by rfl) .head (cW _) trivial<|Zh rfl<|L.n5<|Zaj ?_
    exact Zm [_,_] rfl ⟨⟨_,_,_,rfl,(GE _),aGH ⟨Tf.a207,(by rw[show(ints _).toArray.size=10 by simp[hs10]];exact Tf.s207),rfl⟩⟩,rfl,aLJ⟩ (fun D hD=>m3 hcan (W7 h4 h5 hc ht hk2 (aGH ⟨by simpa using hc3,rfl⟩)))
  ·have hk2:l.kind≠2:=by simpa using hc2
   refine C.kn<|aL<|iS (dN.mk [q3]) 2 [0,1,2,3,4,5,6,7,8,9,11,10,12,13] [false,false,true,true,true,true,true,true,true,true,true,true,false,false] [(false,0),(false,1),(true,2),(true,3),(true,4),(true,5),(true,6),(true,7),(true,8),(true,9),(true,11),(true,10),(false,12),(false,13)] Tf.follows (fun _ _ _ h=>bZ (P:=Tryz.prog) (fn:=Tryz.f233) _ _ _ h) Yg rfl<|Zi rfl Tf.f160_1 rfl<|bC rfl (k:=1) Tf.a3 rfl hB3 Yc rfl (dN.out Ye) rfl trivial<|Zi rfl Tf.f160_2 rfl<|bC rfl (k:=2) Tf.a3 rfl hB3 Yc rfl (dN.out Ye) rfl trivial<|Za rfl<|Zx rfl<|Za rfl<|Zx rfl<|Zi rfl Tf.f207_0 rfl ?_;refine dR rfl U205 Tf.s3 rfl rfl Yd Yd rfl trivial<|Zi rfl Tf.f207_1 rfl<|bP hB3 Ye (fun hap=>mY (k:=l.chair.toNat) rfl Tf.s3 (oT Yd) rfl (.tail bL.head) Yu (aGH (dN.in_ Yt)) trivial<|dR rfl U205 Tf.s3 rfl rfl Yd Yd rfl trivial<|bP hB3 Ye (fun hap=>mY (k:=4+l.token.toNat) rfl Tf.s3 (oT Yd) rfl (.tail bL.head) Yu (aGH (dN.in_ Yt)) trivial<|L.n3<|Zi rfl Tf.f207_2 rfl<|aS (v:=.int .i64 s.money) rfl Tf.a3 rfl (LE _ (GE _)) (cA Yaa) GT rfl trivial<|Zi rfl Tf.f36_1 rfl<|Zf 1 rfl Tf.a3 rfl hB1 rfl ?_));refine Zx rfl<|Zi rfl Tf.f207_2 rfl<|pI (k:=8) rfl Tf.s3 rfl rfl (.tail bL.head) Yu trivial<|L.n3<|bK (e:=207) (fz:=(0,0)) rfl Tf.a207 rfl (LE _ (GE _)) (by rw[show(ints _).length=10 by simp[hs10]];exact Tf.s207) GT rfl trivial<|bD rfl rfl rfl rfl Tf.s207 (by simp[hs10]) (by rfl) .head (cW _) trivial<|Zh rfl<|L.n5 ?_
   exact Zm [_,_] rfl ⟨⟨_,_,_,rfl,(GE _),aGH ⟨Tf.a207,(by rw[show(ints _).toArray.size=10 by simp[hs10]];exact Tf.s207),rfl⟩⟩,rfl,aLJ⟩ (fun D hD=>m3 hcan (QD h4 h5 hc ht hk2))
end L3
end Go.Fs
namespace Go.Fs
open Go.Proofs
namespace L3
open L1
open C3
theorem AA(c:Cn)(ba bs:Nat)(a:Int)(s:Sc)(D:aA)(h4:s.ch.length=4)(h5:s.tk.length=4)(hA:At D ba 0 [.int .i64 a])(hS:At D bs 0 (ints (kX s))):
  Fn Tryz.prog 280 #[aAU c,.pointer (some ⟨ba,0,none⟩),.pointer (some ⟨bs,0,none⟩)] D (fun _ v=>v=.bool (decide (c.after≠a)||C1.fL s.money c.lo c.hi)):=by
 refine enter 16 Tryz.func280 rfl rfl rfl rfl fun h0=>C.s1<|Zv rfl (fun q1 E1 hE1 hB1=>Zh rfl<|L.n3<|Zi rfl Tf.f162_0 rfl<|Zf 0 rfl Tf.a3 rfl hB1 rfl<|Zf 0 rfl Tf.a3 rfl hA rfl<|eI rfl rfl rfl rfl trivial<|Za rfl ?_)
 refine' L.orK 6 (s:=9) (p:=15) rfl (fun hg1=>?_) (fun hg1=>?_) ?_;rotate_left
 ·refine Zj rfl Tf.f162_1 rfl<|eP rfl (k:=1) Tf.a65 Tf.s65 rfl hB1 Yc rfl rfl GT rfl ⟨_,rfl,rfl⟩<|Zj rfl Tf.f207_2 rfl<|bC (v:=.int .i64 s.money) rfl (k:=8) Tf.a3 rfl hS Yc (cA (rV h4 h5)) GT rfl ⟨_,rfl,rfl⟩<|Zd rfl (fun D1 hD1=>YE (c.lo,c.hi) _ _)<|Zac rfl ?_;exact L.cu 5
 ·refine Zk rfl<|Zk rfl<|Zk rfl<|Zk rfl<|Zk rfl<|Zab rfl ?_;exact L.cu 5
 refine Zh rfl<|L.n5 ?_;exact leave1 rfl rfl rfl rfl (fun D hD=>rfl)
theorem N6(bv:Value)(b:aW)(s:Sc)(a:Int)(D:aA)(hb:fP D bv b)(h4:s.ch.length=4)(h5:s.tk.length=4):Fn Tryz.prog 231 #[bv,FR s,.int .i64 a] D (fun _ v=>v=.bool (eO b s a)):=by
 obtain⟨lv,cv,rfl,hl,hc⟩:=hb;refine enter 11 Tryz.func231 rfl rfl rfl rfl fun h0=>C.s1<|Zv rfl (fun q1 E1 hE1 hB1=>Zv rfl (fun q2 E2 hE2 hB2=>Zv rfl (fun q3 E3 hE3 hB3=>Zh rfl<|L.n3<|Zi rfl Tf.f36_4 rfl<|Zf 4 rfl Tf.a34 rfl hB1 rfl<|bB rfl rfl rfl rfl trivial<|Zc rfl (fun D1 hD1=>GX _ _ _ (fun c=>decide (c.after≠a)||C1.fL s.money c.lo c.hi) _ (Sl.at pR.up hD1 Yk Ye) ⟨_,[],[_,_],rfl,fun c D2 hl=>AA c _ _ a s D2 h4 h5 (hB3.up ((hD1 _ Ye).trans hl)) (hB2.up ((hD1 _ Ye).trans hl))⟩ rfl)<|Zh rfl ?_)));refine L.n5 ?_
 exact leave1 rfl rfl rfl rfl (fun D hD=>rfl)
theorem pA(bv:Value)(b:aW)(D:aA)(hb:fP D bv b):Fn Tryz.prog 153 #[bv] D (fun _ v=>v=FR (eG b)):=by
 obtain⟨lv,cv,rfl,hl,hc⟩:=hb;refine enter 6 Tryz.func153 rfl rfl rfl rfl fun h0=>C.s1<|Zv rfl (fun q1 E1 hE1 hB1=>Zw rfl Tf.z207 rfl (fun q2=>L.n3<|Zi rfl Tf.f36_2 rfl<|Zf 2 rfl Tf.a3 rfl hB1 rfl<|Zq [.int .i64 0,.int .i64 0,.int .i64 0,.int .i64 0,.int .i64 0,.int .i64 0,.int .i64 0,.int .i64 0,.int .i64 b.box,.int .i64 0] rfl Tf.p207 Tf.z207 rfl rfl<|Zu rfl Tf.s207 (bL.head)<|L.n5 ?_))
 exact Zm [_] rfl ⟨⟨_,_,_,rfl,(GE _),aGH ⟨Tf.a207,(by first|exact Tf.s207|(simp only[aHK,aI, *];exact Tf.s207)),rfl⟩⟩,aLJ⟩ (fun D hD=>rfl)
end L3
end Go.Fs
namespace Go.Fs
open Go.Proofs
namespace L3
open L1
open C3
structure NR(b:aW):Prop where
 ch:1≤b.chairs∧b.chairs≤4
 co:1≤b.coin∧b.coin≤99
 bx:0≤b.box∧b.box≤999
 l8:b.lines.length≤8
 c4:b.counts.length≤4
 ln:∀l∈b.lines,qQ b.chairs l=true
theorem aEH{b:aW}(h:aT b=0):NR b:=by
 unfold aT at h;split at h
 ·omega
 ·rename_i h1;split at h
  ·omega
  ·rename_i h2;have h3:oY b=true:=by simpa using h2
   unfold oY at h3;simp only[aGO,C1.cE,aGY]at h3;exact⟨h3.1.1.1.1,h3.1.1.1.2,h3.1.1.2,by omega,by omega,h3.1.2⟩
def bM(l:List Sc):List Value:=l.flatMap fun s=>ints (kX s)
structure aEG(b:aW)(s:Sc)(k:Nat):Prop where
 lc:s.ch.length=4
 lt:s.tk.length=4
 mo:b.box-99*(k:Int)≤s.money∧s.money≤b.box+99*(k:Int)
 mi:0≤s.mixed∧s.mixed≤k
theorem RW{b:aW}(hb:NR b){s:Sc}{k:Nat}(h:aEG b s k)(l:eZ)(i:Int):aEG b (dO b s i l) (k+1):=by
 have:=hb.co;have:=h.mo;have:=h.mi;unfold dO;split
 ·refine⟨by simp[h.lc],by simp[h.lt],?_,?_⟩
  ·simp only;push_cast;omega
  ·simp only;split<;>push_cast<;>omega
 ·refine⟨by simp[h.lc],by simp[h.lt],?_,?_⟩
  ·simp only;push_cast;omega
  ·simp only;push_cast;omega
theorem uS{l:List Sc}(h:∀s∈l,(kX s).length=10){i:Nat}{s:Sc}(hi:l[i]?= some s):((bM l).drop (i*10)).take 10=ints (kX s):=by
 induction l generalizing i with
 |nil=>simp at hi
 |cons u l ih=>
  have hu:(ints (kX u)).length=10:=by rw[aI,h u aGL]
  have e:bM (u::l)=ints (kX u)++bM l:=rfl;rw[e];cases i with
  |zero=>
   obtain rfl:u=s:=by simpa using hi
   rw[aKG,aJU,aHN Yd,aHE Yd]
  |succ i=>
   rw[aJY,aHO Yd,aHI,hu,show(i+1)*10-10=i*10 by omega];exact ih (fun t ht=>h t (aGE _ ht)) Yaj
end L3
end Go.Fs
namespace Go.Fs
open Go.Proofs
namespace L3
open L1
open C3
end L3
end Go.Fs
namespace Go.Fs
open Go.Proofs
namespace L3
open L1
open C3
def OB(l:List Int)(k:Nat):List Int:=(List.range 4).map fun j=>if j<k then min (l.getD j 0) 1 else 0
theorem RJ{l:List Int}{k:Nat}{x:Int}(hx:l[k]?= some x):(OB l k).set k (min x 1)=OB l (k+1):=by
 apply aLE;intro i;unfold OB;rw[List.getElem?_set,aHD,aHD];simp only[aHR,List.length_range];by_cases hi:i<4
 ·rw[aKY hi];simp only[aHM];by_cases e:k=i
  ·subst e;rw[aGX rfl,aGX hi,aGX Yd,aHP,hx];rfl
  ·rw[aGQ e];by_cases h:i<k
   ·rw[aGX h,aGX Yd]
   ·rw[aGQ h,aGQ Yd]
 ·rw[aJJ Yaj];by_cases e:k=i
  ·subst e;rw[aGX rfl,aGQ hi];rfl
  ·rw[aGQ e];rfl
theorem WD{l:List Int}(h:l.length=4):OB l 4=rL l:=by
 obtain⟨a,b,c,d,rfl⟩:=n8 h;rfl
theorem F0(l:List Int)(D:aA)(h4:l.length=4):Fn Tryz.prog 232 #[.agg (ints l).toArray] D (fun _ v=>v=.agg (ints (rL l)).toArray):=by
 refine enter 17 Tryz.func232 rfl rfl rfl rfl fun h0=>C.s1<|Zv rfl (fun q1 E1 hE1 hB1=>Zw rfl Tf.z205 rfl (fun q2=>L.n4<|cO rfl Tf.a205 rfl hB1 Yj (by rw[show(ints _).length=4 by simp[h4]];exact Tf.s205) GT rfl trivial<|Za rfl<|L.n1<|Zah<|cJ (γ:=Nat) (fun k=>4-k) (fun k=>k≤4) (fun k=>[(6,.int .i64 (k:Int))]) [(5,_),(2,_)] (fun k=>[(q2,.cells (ints (OB l k)).toArray 205 (0,0))]) (fun k=>[E1,D]) 0 Yd ⟨Yb,aLJ⟩ C.rs (LT _) (aD) ?_))
 rintro k h1;refine C.s1<|Zad rfl<|L.n2<|aE rfl (fun hc1=>?_) (fun hc1=>?_)
 ·have hk:k<4:=by omega
  obtain⟨x,hx0⟩:=C.ge l k;have hx:l[((k:Nat):Int).toNat]?= some x:=by simpa using hx0
  have hstep:=RJ hx0;refine C.kn<|aL<|Zah<|C.s1<|Za rfl<|P5 (l:=l) rfl U205 Tf.a3 Tf.s3 rfl rfl Yd Yd hx rfl trivial<|Zh rfl<|Zh rfl<|L.n1<|C.rg<|Za rfl<|Za rfl ?_;refine Zp rfl U25 Tf.s3 Tf.z3 rfl rfl rfl rfl (.cons rfl rfl (.cons rfl rfl .nil)) (fun b901 D901 hD901 hA901=>?_);have hS901:=Sl.ofInts (l:=[_,_]) (n:=2) (cap:=2) hA901 rfl Yd Yd;refine Zc rfl (fun D1 hD1=>sN _ x [1] _ (hS901.up RI.up (hD1 _ Ye)))<|dR rfl U205 Tf.s3 rfl rfl Yd Yd rfl trivial<|pI (k:=k) rfl Tf.s3 (oT Yd) rfl .head (by simp[OB];omega) aLJ ?_
  rw[show(OB l k).set k (List.foldl min x [1])=OB l (k+1)from hstep];refine Zz<|Zak<|Zag<|C.rg<|Zx rfl<|Za rfl<|Zz ?_;exact aH 13 (k+1) Yd Yd ⟨Yb,aLJ⟩ rfl rfl (LT _) (fun D h=>⟨D,LE _ (h),Le.refl D⟩)
 ·obtain rfl:k=4:=by omega
  refine aR<|Zai<|Zai<|Zal<|Zag<|C.s1<|bK (e:=205) (fz:=(0,0)) rfl Tf.a205 rfl (GE _) (by rw[show(ints _).length=4 by simp[OB]];exact Tf.s205) GT rfl trivial<|bD rfl rfl rfl rfl Tf.s205 (by simp[OB]) (by simp[OB]) .head (cW _) trivial<|L.n5 ?_;exact Zm [_] rfl ⟨⟨_,_,_,rfl,(List.Mem.head _),Or.inr ⟨Tf.a205,(by rw[show(ints _).toArray.size=4 by simp[OB]];exact Tf.s205),rfl⟩⟩,aLJ⟩ (fun D hD=>by show Value.agg _=_;rw[WD h4])
theorem aDG:KS Tryz.prog 358 9:=by
 have hf:(Tryz.prog.fieldsOf 358).toList=[(Tryz.prog.fieldsOf 358)[0]!,(Tryz.prog.fieldsOf 358)[1]!,(Tryz.prog.fieldsOf 358)[2]!]:=by kernel_rfl
 refine⟨by kernel_rfl,by kernel_rfl,by kernel_rfl,?_⟩;rw[hf];refine .cons (sO.int (by decide+kernel) Yg Yg) (.cons (n:=4) (sO.arr (e:=3) (by decide+kernel) Yg Yg Yg Yg ?_ ?_) (.cons (n:=4) (sO.arr (e:=3) (by decide+kernel) Yg Yg Yg Yg ?_ ?_) .nil))
 ·rw[show((Tryz.prog.fieldsOf 358)[1]!).type=205 by kernel_rfl];exact Tf.a205
 ·rw[show((Tryz.prog.fieldsOf 358)[1]!).type=205 by kernel_rfl];exact Tf.s205
 ·rw[show((Tryz.prog.fieldsOf 358)[2]!).type=205 by kernel_rfl];exact Tf.a205
 ·rw[show((Tryz.prog.fieldsOf 358)[2]!).type=205 by kernel_rfl];exact Tf.s205
theorem aDM:KM Tryz.prog 358 4:=⟨(Tryz.prog.fieldsOf 358)[0]!,(Tryz.prog.fieldsOf 358)[1]!,(Tryz.prog.fieldsOf 358)[2]!,3,by kernel_rfl,by kernel_rfl,by decide+kernel,by decide+kernel,by decide+kernel,by kernel_rfl,by kernel_rfl,by kernel_rfl,by kernel_rfl,by kernel_rfl,by kernel_rfl,by kernel_rfl,
 by rw[show((Tryz.prog.fieldsOf 358)[1]!).type=205 by kernel_rfl];exact Tf.a205,by rw[show((Tryz.prog.fieldsOf 358)[1]!).type=205 by kernel_rfl];exact Tf.s205,by rw[show((Tryz.prog.fieldsOf 358)[2]!).type=205 by kernel_rfl];exact Tf.a205,by rw[show((Tryz.prog.fieldsOf 358)[2]!).type=205 by kernel_rfl];exact Tf.s205,Tf.s3⟩
theorem SB:zX Tryz.prog 358 (zA (n:=9)):=KM.key aDM aDG
end L3
end Go.Fs
namespace Go.Fs
open Go.Proofs
namespace L3
open L1
section
variable{P:Program}{X:Cx}{γb:Type}[Membership Nat γb]{bad:γb}{all:Array Oper}{K:Act→World→Prop}{Q:Exit→Act→World→Prop}
variable{σ:bQ}{μ:aC}{Ds:List aA}{os:List (Bool×Nat)}
theorem aBT(k:(μ.map fun p=>p.1).Nodup→WL P X bad all K Q os σ μ Ds):WL P X bad all K Q os σ μ Ds:=fun a w hh=>by
 obtain⟨_,_,_,D,hs,_⟩:=id hh;exact k hs.nd a w hh
end
theorem aBN{w q1 q3 q4:Nat}{o o3:Obj}{R:aC}(h1:w∉aC.ks ((q4,o)::(q3,o3)::R))(h2:q1∉aC.ks ((q4,o)::(q3,o3)::R))(h3:(((q4,o)::(q3,o3)::R).map fun p=>p.1).Nodup):q4∉[w,q1,q3]:=by
 simp only[aHB,aHX,aGB,not_or]at h1 h2 h3;intro h;simp only[aGB,GT,aIY]at h;rcases h with rfl|rfl|rfl
 ·exact h1.1 rfl
 ·exact h2.1 rfl
 ·exact h3.1.1 rfl
open C3
def zZ(b:aW)(Mm:List (oQ 9×Bool)):Prop:=∀p∈Mm,∀(i:Nat) (s:Sc),I0 b s→OE s→s.ch.length=4→p.1.l=RY s i→p.2=iP b (b.lines.drop i) i s
theorem zZ.nil{b:aW}:zZ b []:=fun p hp=>by cases hp
theorem zZ.add{b:aW}{Mm M':List (oQ 9×Bool)}{i:Nat}{s:Sc}{a:oQ 9}{r:Bool}(h:zZ b Mm)(hm:∀p∈M',p∈Mm∨p=(a,r))(ha:a.l=RY s i)(hi:I0 b s)(hp:OE s)(h4:s.ch.length=4)(hr:r=iP b (b.lines.drop i) i s):zZ b M':=by
 intro p hp' i' s' hi' hps' h4' he;rcases hm p hp' with h1|h1
 ·exact h p h1 i' s' hi' hps' h4' he
 ·subst h1;simp only at he ⊢
  rw[ha]at he;obtain⟨e1,e2⟩:=SS (ls:=b.lines.drop i) he hi hi' hp hps' h4 h4';rw[hr,←e1];exact e2.trans (by rw[←e1])
theorem e6{a c d:Value}{lv cv lv' cv':Value}(h:Value.agg #[a,c,d,lv,cv]=.agg #[a,c,d,lv',cv']):lv=lv'∧cv=cv':=by
 simp at h;exact h
theorem ZY{b:aW}{ls:List eZ}{i:Nat}{s:Sc}(h:eO b s i=false):iP b ls i s=false:=by
 cases ls with
 |nil=>exact h
 |cons l ls=>unfold iP;rw[h];rfl
theorem QP{b:aW}{i:Nat}{s:Sc}(h:eO b s i=true)(hi:(i:Int)=(b.lines.length:Int)):iP b (b.lines.drop i) i s=true:=by
 rw[aHO Yd];exact h
def aBW(b:aW)(i:Nat)(s:Sc)(r:eZ):Bool:=iA s r&&iP b (b.lines.drop (i+1)) (i+1) (dO b s i r)
theorem aBP{b:aW}{i:Nat}{s:Sc}{r:eZ}(h:iA s r=true):iP b (b.lines.drop (i+1)) (i+1) (dO b s i r)=aBW b i s r:=by unfold aBW;rw[h];rfl
theorem aET{b:aW}{i:Nat}{s:Sc}{r:eZ}(h:iA s r=false):false=aBW b i s r:=by unfold aBW;rw[h];rfl
theorem CL{b:aW}{s:Sc}{i:Int}{r:eZ}(h4:s.ch.length=4)(h5:s.tk.length=4):(kX (dO b s i r)).length=10:=by
 unfold dO;split
 ·exact uC (by simp[h4]) (by simp[h5])
 ·exact uC (by simp[h4]) (by simp[h5])
theorem HN{mb cl:Nat}{es:Array MapEntry}:∀p∈[(mb,Obj.map es cl)],cF p.2:=by
 intro p hp;simp only[aGB,GT,aIY]at hp;subst hp;trivial
set_option maxHeartbeats 1000000 in
theorem b8{b:aW}{bv lv cv:Value}{wb mb:Nat}(hbo:NR b)(hbv:bv=.agg #[.int .i64 b.chairs,.int .i64 b.coin,.int .i64 b.box,lv,cv]):
  ∀(j i:Nat) (s:Sc) (es:Array MapEntry) (cl:Nat) (Mm:List (oQ 9×Bool)) (D:aA),i+j=b.lines.length→aEG b s i→OE s→I0 b s→vD zA Value.bool es Mm→zZ b Mm→fP D bv b→At D wb 0 [.int .i64 b.chairs,.int .i64 b.coin,.int .i64 b.box,lv,cv,.map (some mb)]→
  Q1 Tryz.prog 152 [.pointer (some ⟨wb,0,none⟩),FR s,.int .i64 (i:Int)] D [(mb,.map es cl)] (fun _ v ν'=>v=.bool (iP b (b.lines.drop i) i s)∧∃es' cl' M',ν'=[(mb,.map es' cl')]∧vD zA Value.bool es' M'∧zZ b M'):=by
 subst hbv;intro j;induction j using Nat.strongRecOn with
 |_ j ih=>
 intro i s es cl Mm D hij hsb hsp hsi hM hok hb0 hA;obtain⟨ch,tk,mo,mi⟩:=s;obtain⟨c0,c1,c2,c3,rfl⟩:=n8 hsb.lc;obtain⟨k0,k1,k2,k3,rfl⟩:=n8 hsb.lt;have hb:=hb0;obtain⟨lv',cv',he,hl,hc⟩:=hb;obtain⟨rfl,rfl⟩:=e6 he;have hl8:=hbo.l8;have hch:=hbo.ch;have hco:=hbo.co;have hbx:=hbo.bx;have hmo:=hsb.mo;have hmi:=hsb.mi;simp only at hmo hmi;show Q1 _ _ [.pointer (some ⟨wb,0,none⟩),.agg #[.int .i64 c0,.int .i64 c1,.int .i64 c2,.int .i64 c3,.int .i64 k0,.int .i64 k1,.int .i64 k2,.int .i64 k3,.int .i64 mo,.int .i64 mi],.int .i64 (i:Int)] _ _ _;refine fT 94 Tryz.func152 rfl rfl rfl rfl (fun h0 hwl hwn=>C.s1<|Zv rfl (fun q1 E1 hE1 hB1=>Zh rfl<|L.n2<|aL<|C.drawA [] 5 8 48 (fun _ _ _ h=>bT (P:=Tryz.prog) (fn:=Tryz.f152) _ _ _ h)<|Za rfl<|Zae rfl<|Zi rfl Tf.f297_0 rfl<|eP rfl (k:=0) Tf.a36 Tf.s36 rfl hA Yc rfl rfl GT rfl trivial<|Zr rfl Tf.a207 rfl hB1 Tf.s207 ?_));refine Za rfl<|Zc rfl (fun D1 hD1=>N6 _ b (⟨[c0,c1,c2,c3],[k0,k1,k2,k3],mo,mi⟩:Sc) i _ (hb0.up (hD1 _ Ye)) rfl rfl)<|Zaf rfl<|L.n1<|aQ rfl (fun hc1=>?_) (fun hc1=>?_)
 ·refine C.s1<|Zh rfl<|L.n5<|Zaj ?_;exact Zy [] [] [_] [_] rfl ⟨rfl,aLJ⟩ rfl (fun D' hD=>⟨aGV Value.bool (ZY (by simpa using hc1)).symm,es,cl,Mm,rfl,hM,hok⟩)
 ·have hcd:eO b (⟨[c0,c1,c2,c3],[k0,k1,k2,k3],mo,mi⟩:Sc) i=true:=by simpa using hc1
  refine C.kn<|C.s2<|Za rfl<|Za rfl<|Zae rfl<|Zi rfl Tf.f297_0 rfl<|Zi rfl Tf.f36_3 rfl<|Zf 3 rfl Tf.a33 rfl hA rfl<|aV rfl U33 rfl hl rfl rfl trivial<|dK rfl rfl rfl rfl trivial<|L.n1<|aE rfl (fun hc2=>?_) (fun hc2=>?_)
  ·refine C.s1<|Zh rfl<|L.n5<|Zaj ?_;exact Zy [] [] [_] [_] rfl ⟨rfl,aLJ⟩ rfl (fun D' hD=>⟨aGV Value.bool (QP hcd hc2).symm,es,cl,Mm,rfl,hM,hok⟩)
  ·have hil:i<b.lines.length:=by omega
   obtain⟨z,hz⟩:=C.ge b.lines i;have hdr:b.lines.drop i=z::b.lines.drop (i+1):=by rw[aIJ hil];congr 1;exact aHC ((aGF hil).symm.trans hz)
   refine C.kn<|aL<|kK [] 3 [false,true,true,true,true,true,true,false,true,false] [.fork [0,1,2,4,5] 3 (.fork [] 6 (.fin [7,8]) 8 (.fin [6,7])) 8 (.fin [3,6,7]),.fin [9]] Tf.follows (fun _ _ _ h=>bT (P:=Tryz.prog) (fn:=Tryz.f152) _ _ _ h) Yg ?_;apply C4 (γ:=Nat) (fun _=>True) _ _ _ [.fork [0,1,2,4,5] 3 (.fork [] 6 (.fin [7,8]) 8 (.fin [6,7])) 8 (.fin [3,6,7])] [.fin [9]] rfl
   ·refine nE<|bE [(false,0),(true,1),(true,2),(true,4),(true,5)] rfl<|Za rfl<|Zi rfl Tf.f207_0 rfl<|eP rfl (k:=0) Tf.a205 Tf.s205 rfl hB1 Yc rfl rfl GT rfl trivial<|Zi rfl Tf.f207_1 rfl<|eP rfl (k:=4) Tf.a205 Tf.s205 rfl hB1 Yc rfl rfl GT rfl trivial<|Zz (cX true true rfl rfl ?_ ?_)
    ·refine Zc rfl (fun D2 hD2=>F0 [c0,c1,c2,c3] _ rfl)<|Zz<|bE [] rfl<|Zz (cX true true rfl rfl ?_ ?_)
     ·refine Zc rfl (fun D3 hD3=>F0 [k0,k1,k2,k3] _ rfl)<|Zz<|aP [(false,7),(true,8)] rfl<|gC (cs:=[.int .i64 (i:Int),.int .i64 (min c0 1),.int .i64 (min c1 1),.int .i64 (min c2 1),.int .i64 (min c3 1),.int .i64 (min k0 1),.int .i64 (min k1 1),.int .i64 (min k2 1),.int .i64 (min k3 1)]) rfl Tf.p358 Tf.z358 rfl Yg rfl trivial<|Zw rfl Tf.z358 rfl (fun q2=>Zz ?_);exact fun a w hh=>⟨q2,aLJ,hh⟩
     ·refine Zw rfl Tf.z358 rfl (fun q2=>Zz<|aP [(true,6),(false,7)] rfl<|Zc rfl (fun D3 hD3=>F0 [k0,k1,k2,k3] _ rfl)<|gC (cs:=[.int .i64 (i:Int),.int .i64 (min c0 1),.int .i64 (min c1 1),.int .i64 (min c2 1),.int .i64 (min c3 1),.int .i64 (min k0 1),.int .i64 (min k1 1),.int .i64 (min k2 1),.int .i64 (min k3 1)]) rfl Tf.p358 Tf.z358 rfl Yg rfl trivial<|Zz ?_);exact fun a w hh=>⟨q2,aLJ,hh.weak C.rs (LT _) aD⟩
    ·refine Zw rfl Tf.z358 rfl (fun q2=>Zz<|aP [(true,3),(true,6),(false,7)] rfl<|Zc rfl (fun D2 hD2=>F0 [c0,c1,c2,c3] _ rfl)<|Zc rfl (fun D3 hD3=>F0 [k0,k1,k2,k3] _ rfl)<|gC (cs:=[.int .i64 (i:Int),.int .i64 (min c0 1),.int .i64 (min c1 1),.int .i64 (min c2 1),.int .i64 (min c3 1),.int .i64 (min k0 1),.int .i64 (min k1 1),.int .i64 (min k2 1),.int .i64 (min k3 1)]) rfl Tf.p358 Tf.z358 rfl Yg rfl trivial<|Zz ?_);exact fun a w hh=>⟨q2,aLJ,hh.weak C.rs (LT _) aD⟩
   rintro q2 -;refine kW [(false,9)] rfl<|Zu rfl Tf.s358 (bL.head)<|Zz<|kE<|Zag<|aL<|C.drawA [] 6 11 784 (fun _ _ _ h=>bT (P:=Tryz.prog) (fn:=Tryz.f152) _ _ _ h)<|Za rfl<|Zae rfl<|Zi rfl Tf.f297_1 rfl<|Zf 5 rfl Tf.a295 rfl hA rfl<|Zt rfl Tf.a358 rfl (List.Mem.head _) Tf.s358 ?_;refine KW (val:=zA (n:=9)) (wal:=Value.bool) (a:=⟨[(i:Int),min c0 1,min c1 1,min c2 1,min c3 1,min k0 1,min k1 1,min k2 1,min k3 1],rfl⟩) rfl U295 SB Tf.z4 rfl rfl (LE _ (GE _)) GT hM rfl aLJ (fun nv ok hin hout=>Za rfl<|Zaa rfl<|Zaa rfl<|Zh rfl<|Zh rfl<|L.n4<|Za rfl<|L.n1<|aQ rfl (fun hc3=>?_) (fun hc3=>?_))
   ·obtain⟨r,rfl,hmem⟩:=hin hc3;refine C.s1<|Za rfl<|Zh rfl<|L.n5<|Zaj ?_;exact Zy [(_,_)] [] [_] [_] rfl ⟨rfl,aLJ⟩ rfl (fun D' hD=>⟨aGV Value.bool (hok _ hmem i (⟨[c0,c1,c2,c3],[k0,k1,k2,k3],mo,mi⟩:Sc) hsi hsp rfl rfl),es,cl,Mm,rfl,hM,hok⟩)
   ·obtain rfl:=hout hc3;refine C.kn<|aL<|aL<|iS [] 3 [0,1,2,3,4,5,6,7,8,9,10,11,14,12,13] [false,false,false,false,true,true,true,true,true,true,true,true,true,true,true] [(false,0),(false,1),(false,2),(false,3),(true,4),(true,5),(true,6),(true,7),(true,8),(true,9),(true,10),(true,11),(true,14),(true,12),(true,13)] Tf.follows (fun _ _ _ h=>bT (P:=Tryz.prog) (fn:=Tryz.f152) _ _ _ h) Yg rfl<|Za rfl<|Zae rfl<|Zi rfl Tf.f297_0 rfl<|eP rfl (k:=0) Tf.a36 Tf.s36 rfl hA Yc rfl rfl GT rfl trivial<|Za rfl<|Zae rfl<|Zi rfl Tf.f297_0 rfl<|Zi rfl Tf.f36_3 rfl ?_;refine Zf 3 rfl Tf.a33 rfl hA rfl<|Za rfl<|Zs rfl U33 Tf.s160 rfl hl rfl hz (fun b1 o1 cs1 hr1 hcl1 hA1=>?_);obtain rfl:cs1=[.int .i64 _,.int .i64 _,.int .i64 _]:=hr1;refine Zr rfl Tf.a160 rfl hA1 Tf.s160<|Za rfl<|cB rfl rfl rfl (fun D4 hD4=>tE _ b z _ (hb0.up (hD4 _ Ye)) Yd) rfl aLJ (fun v4 D4 hD4 hp4=>?_);have hr:=hp4;have hrl:=hr.len;refine aV rfl U33 rfl Yk rfl rfl trivial<|L.n1<|Zah<|cJ (γ:=Nat×Array MapEntry×Nat×List (oQ 9×Bool)) (fun g=>(cN b.chairs z).length-g.1) (fun g=>g.1≤(cN b.chairs z).length∧((cN b.chairs z).take g.1).any (fun r=>aBW b i (⟨[c0,c1,c2,c3],[k0,k1,k2,k3],mo,mi⟩:Sc) r)=false∧vD zA Value.bool g.2.1 g.2.2.2∧zZ b g.2.2.2) (fun g=>[(63,.int .i64 (g.1:Int)),(8,.bool false)]) [(62,_),(61,_),(7,_),(6,_),(4,_),(0,_),(2,_)] (fun g=>[(q2,.cells [.int .i64 (i:Int),.int .i64 (min c0 1),.int .i64 (min c1 1),.int .i64 (min c2 1),.int .i64 (min c3 1),.int .i64 (min k0 1),.int .i64 (min k1 1),.int .i64 (min k2 1),.int .i64 (min k3 1)].toArray 358 (0,0)),(mb,.map g.2.1 g.2.2.1)]) (fun g=>[D4,E1,D]) (0,es,cl,Mm) ⟨by simp,rfl,hM,hok⟩ ⟨Yb,Yb,aLJ⟩ C.rs (LT _) (aD) ?_;rintro⟨k,es2,cl2,M2⟩ ⟨h1,hno,hM2,hok2⟩;simp only at h1 hno hM2 hok2;refine C.s1<|Zad rfl<|L.n2<|aE rfl (fun hc4=>?_) (fun hc4=>?_)
    ·simp only at hc4;obtain⟨x,hx⟩:=C.ge (cN b.chairs z) k;have hin:=((wS (hbo.ln z (aGD hz))).1 (aGD hx)).1;refine C.kn<|aL<|Zah<|C.s1<|Zs rfl U33 Tf.s160 rfl hr rfl hx (fun b2 o2 cs2 hr2 hcl2 hA2=>?_);obtain rfl:cs2=[.int .i64 _,.int .i64 _,.int .i64 _]:=hr2;refine Zr rfl Tf.a160 rfl hA2 Tf.s160<|Zw rfl Tf.z160 rfl (fun q3=>Zu rfl Tf.s160 (bL.head)<|L.n2 ?_);have hif:(kX (if iA (⟨[c0,c1,c2,c3],[k0,k1,k2,k3],mo,mi⟩:Sc) x=true then(dO b (⟨[c0,c1,c2,c3],[k0,k1,k2,k3],mo,mi⟩:Sc) i x)else(⟨[c0,c1,c2,c3],[k0,k1,k2,k3],mo,mi⟩:Sc))).length=10:=by split;exact CL rfl rfl;rfl
     have hnl:(kX (dO b (⟨[c0,c1,c2,c3],[k0,k1,k2,k3],mo,mi⟩:Sc) i x)).length=10:=CL rfl rfl;refine kK (dN.mk [wb,q1,q3]) 6 [false,false,false,false,true,true,true,true,false,false,true,true,true,false] [.fork [0,1,2,3,4,5,6] 7 (.fin [8,9,10,11]) 11 (.fin [7,8,9,10]),.fin [12,13]] Tf.follows (fun _ _ _ h=>bT (P:=Tryz.prog) (fn:=Tryz.f152) _ _ _ h) Yg ?_;apply C4 (γ:=Nat) (fun _=>True) _ _ _ [.fork [0,1,2,3,4,5,6] 7 (.fin [8,9,10,11]) 11 (.fin [7,8,9,10])] [.fin [12,13]] rfl
     ·refine nE<|bE [(false,0),(false,1),(false,2),(false,3),(true,4),(true,5),(true,6)] rfl<|Za rfl<|Zae rfl<|Zi rfl Tf.f297_0 rfl<|eP rfl (k:=0) Tf.a36 Tf.s36 rfl hA Yc rfl rfl (dN.out Ye) rfl trivial<|cO rfl Tf.a207 rfl hB1 Yj Tf.s207 (dN.out Ye) rfl trivial<|Za rfl<|bK rfl Tf.a160 rfl (List.Mem.head _) Tf.s160 (dN.out Ye) rfl trivial<|Zz (cX true true rfl rfl ?_ ?_)
      ·refine Zc rfl (fun D5 hD5=>B0 _ b (⟨[c0,c1,c2,c3],[k0,k1,k2,k3],mo,mi⟩:Sc) i x _ (hb0.up (hD5 _ Ye)) rfl rfl (by have:=hin.2;omega) (by have:=hin.2;omega) Yd (by show -100000≤mo∧mo≤100000;omega) (by show 0≤mi∧mi≤1000;omega) Yd)<|Zz<|aP [(false,8),(false,9),(true,10),(true,11)] rfl<|Za rfl<|Zaa rfl<|Zaa rfl<|Zw rfl Tf.z207 rfl (fun q4=>Zz ?_);exact fun a w hh=>⟨q4,aLJ,hh⟩
      ·refine Zw rfl Tf.z207 rfl (fun q4=>Zz<|aP [(true,7),(false,8),(false,9),(true,10)] rfl<|Zc rfl (fun D5 hD5=>B0 _ b (⟨[c0,c1,c2,c3],[k0,k1,k2,k3],mo,mi⟩:Sc) i x _ (hb0.up (hD5 _ Ye)) rfl rfl (by have:=hin.2;omega) (by have:=hin.2;omega) Yd (by show -100000≤mo∧mo≤100000;omega) (by show 0≤mi∧mi≤1000;omega) Yd)<|Za rfl<|Zaa rfl<|Zaa rfl<|Zz ?_);exact fun a w hh=>⟨q4,aLJ,hh.weak C.rs (LT _) aD⟩
     rintro q4 -;refine kW [(true,12),(false,13)] rfl<|bP hA Ye (fun hap1=>bP hB1 Ye (fun hap2=>aBT (fun hnd=>nG (off:=0) (us:=ints (kX (if iA (⟨[c0,c1,c2,c3],[k0,k1,k2,k3],mo,mi⟩:Sc) x=true then(dO b (⟨[c0,c1,c2,c3],[k0,k1,k2,k3],mo,mi⟩:Sc) i x)else(⟨[c0,c1,c2,c3],[k0,k1,k2,k3],mo,mi⟩:Sc)))) (ws:=ints (kX (if iA (⟨[c0,c1,c2,c3],[k0,k1,k2,k3],mo,mi⟩:Sc) x=true then(dO b (⟨[c0,c1,c2,c3],[k0,k1,k2,k3],mo,mi⟩:Sc) i x)else(⟨[c0,c1,c2,c3],[k0,k1,k2,k3],mo,mi⟩:Sc)))) rfl rfl rfl rfl (by rw[show(ints _).length=10 by simp[hif]];exact Tf.s207) .head (by simp[hif]) (by simp[hif]) (cW _) (aGH (dN.in_ (aBN hap1 hap2 hnd))) trivial<|Zh rfl<|Zz<|kE<|Zag<|C.s1<|Za rfl<|Za rfl ?_)));refine aCB (γ:=Bool×Array MapEntry×Nat×List (oQ 9×Bool)) (fun g=>g.1=aBW b i (⟨[c0,c1,c2,c3],[k0,k1,k2,k3],mo,mi⟩:Sc) x∧vD zA Value.bool g.2.1 g.2.2.2∧zZ b g.2.2.2) (fun g=>g.1) (fun g=>[(q4,.cells (ints (kX (if iA (⟨[c0,c1,c2,c3],[k0,k1,k2,k3],mo,mi⟩:Sc) x=true then(dO b (⟨[c0,c1,c2,c3],[k0,k1,k2,k3],mo,mi⟩:Sc) i x)else(⟨[c0,c1,c2,c3],[k0,k1,k2,k3],mo,mi⟩:Sc)))).toArray 207 (0,0)),(q3,.cells [.int .i64 x.kind,.int .i64 x.chair,.int .i64 x.token].toArray 160 (0,0)),(q2,.cells [.int .i64 (i:Int),.int .i64 (min c0 1),.int .i64 (min c1 1),.int .i64 (min c2 1),.int .i64 (min c3 1),.int .i64 (min k0 1),.int .i64 (min k1 1),.int .i64 (min k2 1),.int .i64 (min k3 1)].toArray 358 (0,0)),(mb,.map g.2.1 g.2.2.1)]) [(false,2),(false,3),(false,4),(false,5),(false,6),(false,7)] [] (s:=79) (p:=85) rfl rfl (fun hg1=>?_) (fun hg1=>?_) ?_
     ·have hgc:=hg1;rw[aGX hgc];refine Zb rfl<|bK (e:=207) (fz:=(0,0)) rfl Tf.a207 rfl (GE _) (by rw[show(ints _).length=10 by simp[hnl]];exact Tf.s207) GT rfl ⟨_,rfl,rfl⟩<|Zb rfl<|nH rfl rfl rfl Yf rfl ⟨_,rfl,rfl⟩<|aF ([(_,_),(_,_),(_,_)]++[(_,_)]++([])) rfl<|dX (A:=[(_,_),(_,_),(_,_)]) (ν:=[(_,_)]) (B:=[]) rfl rfl rfl rfl (aGR rfl) HN (fun D9 hD9=>ih (j-1) Yd (i+1) (dO b (⟨[c0,c1,c2,c3],[k0,k1,k2,k3],mo,mi⟩:Sc) i x) es2 cl2 M2 _ Yd (RW hbo hsb x i) (I1 hsp i x) (TG hsi rfl hgc hin.2.1 (by have:=hin.2.2.1;omega)) hM2 hok2 (hb0.up (hD9 _ Ye)) (hA.up (hD9 _ Ye))) rfl ⟨_,rfl,rfl⟩ (fun v9 D10 _ hD10 hp9=>?_)
      obtain⟨rfl,es3,cl3,M3,rfl,hM3,hok3⟩:=hp9;refine Zab rfl ?_;exact zS fun a w hh=>⟨(_,es3,cl3,M3),⟨aBP Yk,hM3,hok3⟩,(hh.cutK 5 rfl).ds (fun _ h=>LE _ (h))⟩
     ·refine Zk rfl<|Zk rfl<|Zk rfl<|Zk rfl<|Zk rfl<|Zac rfl ?_;exact zS fun a w hh=>⟨(false,es2,cl2,M2),⟨aET Yk,hM2,hok2⟩,hh.cutK 5 rfl⟩
     rintro⟨bm,es3,cl3,M3⟩ ⟨hbm,hM3,hok3⟩;simp only at hbm hM3 hok3;refine L.n1<|aQ rfl (fun hc5=>?_) (fun hc5=>?_)
     ·obtain rfl:bm=true:=hc5;have hres:true=iP b (b.lines.drop i) i (⟨[c0,c1,c2,c3],[k0,k1,k2,k3],mo,mi⟩:Sc):=by rw[hdr,iP,hcd,aKB];exact(aLH.2 ⟨x,aGD hx,hbm.symm⟩).symm
      refine C.s1<|Zh rfl<|L.n1<|aR<|lQ rfl<|Zai<|Zai<|Zal<|Zag<|aL<|C.drawA [] 3 7 48 (fun _ _ _ h=>bT (P:=Tryz.prog) (fn:=Tryz.f152) _ _ _ h)<|Za rfl ?_;refine Zae rfl<|Zi rfl Tf.f297_1 rfl<|Zf 5 rfl Tf.a295 rfl hA rfl<|Zt rfl Tf.a358 rfl (List.Mem.tail _ (List.Mem.tail _ (List.Mem.head _))) Tf.s358<|Za rfl<|T0 (val:=zA (n:=9)) (wal:=Value.bool) (A:=[(_,_),(_,_),(_,_)]) (B:=[]) (a:=⟨[(i:Int),min c0 1,min c1 1,min c2 1,min c3 1,min k0 1,min k1 1,min k2 1,min k3 1],rfl⟩) (n:=true) rfl U295 SB rfl rfl rfl hM3 aLJ (fun es9 cl9 M9 hM9 hm9=>L.n3<|Za rfl<|Zh rfl<|L.n5 ?_);exact Zy [(_,_),(_,_),(_,_)] [] [_] [_] rfl ⟨rfl,aLJ⟩ rfl (fun D' hD=>⟨aGV Value.bool hres,es9,cl9,M9,rfl,hM9,hok3.add hm9 rfl hsi hsp rfl hres⟩)
     ·obtain rfl:bm=false:=hc5;have hgo:aBW b i (⟨[c0,c1,c2,c3],[k0,k1,k2,k3],mo,mi⟩:Sc) x=false:=hbm.symm;refine bR<|Zak<|Zag<|C.rg<|Zx rfl<|Za rfl<|Zz ?_;exact aH 24 (k+1,es3,cl3,M3) ⟨by simp only;omega,by simp only;rw[aGT,hx,aJQ,hno];simp[hgo],hM3,hok3⟩ Yn ⟨Yb,Yb,aLJ⟩ rfl rfl (List.Sublist.cons _ (List.Sublist.cons _ (LT _))) (aD)
    ·obtain rfl:k=(cN b.chairs z).length:=by simp only at hc4;omega
     rw[aHT]at hno;have hres:false=iP b (b.lines.drop i) i (⟨[c0,c1,c2,c3],[k0,k1,k2,k3],mo,mi⟩:Sc):=by rw[hdr,iP,hcd];exact hno.symm
     refine aR<|Zai<|Zai<|Zal<|Zag<|aL<|C.drawA [] 3 7 48 (fun _ _ _ h=>bT (P:=Tryz.prog) (fn:=Tryz.f152) _ _ _ h)<|Za rfl<|Zae rfl<|Zi rfl Tf.f297_1 rfl<|Zf 5 rfl Tf.a295 rfl hA rfl<|Zt rfl Tf.a358 rfl (List.Mem.head _) Tf.s358 ?_;refine Za rfl<|T0 (val:=zA (n:=9)) (wal:=Value.bool) (A:=[(_,_)]) (B:=[]) (a:=⟨[(i:Int),min c0 1,min c1 1,min c2 1,min c3 1,min k0 1,min k1 1,min k2 1,min k3 1],rfl⟩) (n:=false) rfl U295 SB rfl rfl rfl hM2 aLJ (fun es9 cl9 M9 hM9 hm9=>L.n3<|Za rfl<|Zh rfl<|L.n5 ?_);exact Zy [(_,_)] [] [_] [_] rfl ⟨rfl,aLJ⟩ rfl (fun D' hD=>⟨aGV Value.bool hres,es9,cl9,M9,rfl,hM9,hok2.add hm9 rfl hsi hsp rfl hres⟩)
end L3
end Go.Fs
namespace Go.Fs
open Go.Proofs
namespace L3
open L1
open C3
theorem A9(b:aW):aEG b (eG b) 0:=⟨rfl,rfl,by simp[eG],by simp[eG]⟩
theorem yG(b:aW):OE (eG b):=⟨fun x hx=>by simp[eG]at hx;omega,fun x hx=>by simp[eG]at hx;omega⟩
theorem zG(bv:Value)(b:aW)(D:aA)(hb:fP D bv b)(hbo:NR b):Fn Tryz.prog 89 #[bv] D (fun _ v=>v=.bool (decide (truths b≠[]))):=by
 have hb0:=hb;obtain⟨lv,cv,rfl,hl,hc⟩:=hb;refine enter 10 Tryz.func89 rfl rfl rfl rfl fun h0=>C.s1<|Zv rfl (fun q1 E1 hE1 hB1=>Zh rfl<|L.n2<|kK [] 3 [false,true,true,true,true,true,false,false] [.fork [0,4] 1 (.fork [2] 3 (.fin [5]) 5 (.fin [3])) 5 (.fin [1,2,3]),.fin [6,7]] Tf.follows (fun _ _ _ h=>bZ (P:=Tryz.prog) (fn:=Tryz.f89) _ _ _ h) Yg<|nE<|bE [(false,0),(true,4)] rfl<|Zr rfl Tf.a36 rfl hB1 Tf.s36<|Zr rfl Tf.a36 rfl hB1 Tf.s36<|Zz (cX true true rfl rfl ?_ ?_))
 ·refine pM rfl rfl aLJ (fun qm=>Zz<|bE [(true,2)] rfl<|gC (cs:=[.int .i64 b.chairs,.int .i64 b.coin,.int .i64 b.box,lv,cv,.map (some qm)]) rfl Tf.p297 Tf.z297 rfl Yg rfl trivial<|Zz (cX true true rfl rfl ?_ ?_))
  ·refine Zv rfl (fun q2 E2 hE2 hB2=>Zz<|aP [(true,5)] rfl<|Zc rfl (fun D1 hD1=>pA _ b _ (hb0.up (hD1 _ Ye)))<|Zz<|kW [(false,6),(false,7)] rfl<|dX (A:=[]) (ν:=[(_,_)]) (B:=[]) rfl rfl rfl rfl (aGR rfl) HN (fun D9 hD9=>b8 hbo rfl b.lines.length 0 (eG b) #[] 0 [] _ Yd (A9 b) (yG b) (yR b) rfl zZ.nil (hb0.up (hD9 _ Ye)) (hB2.up (hD9 _ Ye))) rfl aLJ (fun v9 D10 _ hD10 hp9=>?_));obtain⟨rfl,es3,cl3,M3,rfl,hM3,hok3⟩:=hp9;refine Zh rfl<|Zz<|kE<|Zag<|H8 ?_;exact leave1 rfl rfl rfl rfl (fun D hD=>by show Value.bool _=_;rw[aJU,tA])
  ·refine Zc rfl (fun D1 hD1=>pA _ b _ (hb0.up (hD1 _ Ye)))<|Zz<|aP [(true,3)] rfl<|Zv rfl (fun q2 E2 hE2 hB2=>Zz<|kW [(false,6),(false,7)] rfl<|dX (A:=[]) (ν:=[(_,_)]) (B:=[]) rfl rfl rfl rfl (aGR rfl) HN (fun D9 hD9=>b8 hbo rfl b.lines.length 0 (eG b) #[] 0 [] _ Yd (A9 b) (yG b) (yR b) rfl zZ.nil (hb0.up (hD9 _ Ye)) (hB2.up (hD9 _ Ye))) rfl aLJ (fun v9 D10 _ hD10 hp9=>?_));obtain⟨rfl,es3,cl3,M3,rfl,hM3,hok3⟩:=hp9;refine Zh rfl<|Zz<|kE<|Zag<|H8 ?_;exact leave1 rfl rfl rfl rfl (fun D hD=>by show Value.bool _=_;rw[aJU,tA])
 ·refine Zc rfl (fun D1 hD1=>pA _ b _ (hb0.up (hD1 _ Ye)))<|Zz<|aP [(true,1),(true,2),(true,3)] rfl<|pM rfl rfl aLJ (fun qm=>gC (cs:=[.int .i64 b.chairs,.int .i64 b.coin,.int .i64 b.box,lv,cv,.map (some qm)]) rfl Tf.p297 Tf.z297 rfl Yg rfl trivial<|Zv rfl (fun q2 E2 hE2 hB2=>Zz<|kW [(false,6),(false,7)] rfl<|dX (A:=[]) (ν:=[(_,_)]) (B:=[]) rfl rfl rfl rfl (aGR rfl) HN (fun D9 hD9=>b8 hbo rfl b.lines.length 0 (eG b) #[] 0 [] _ Yd (A9 b) (yG b) (yR b) rfl zZ.nil (hb0.up (hD9 _ Ye)) (hB2.up (hD9 _ Ye))) rfl aLJ (fun v9 D10 _ hD10 hp9=>?_)));obtain⟨rfl,es3,cl3,M3,rfl,hM3,hok3⟩:=hp9;refine Zh rfl<|Zz<|kE<|Zag<|H8 ?_;exact leave1 rfl rfl rfl rfl (fun D hD=>by show Value.bool _=_;rw[aJU,tA])
theorem T4(bv:Value)(b:aW)(fine:Bool)(D:aA)(hb:fP D bv b):Fn Tryz.prog 91 #[bv,.bool fine] D (fun _ v=>v=.int .i64 (sI b fine)):=by
 have hb0:=hb;obtain⟨lv,cv,rfl,hl,hc⟩:=hb;refine enter 19 Tryz.func91 rfl rfl rfl rfl fun h0=>C.s1<|Zv rfl (fun q1 E1 hE1 hB1=>Zh rfl<|L.n4<|Zr rfl Tf.a36 rfl hB1 Tf.s36<|Zc rfl (fun D1 hD1=>rG _ b _ (hb0.up (hD1 _ Ye)))<|Zh rfl<|L.n1<|Zah<|C.s1<|Za rfl ?_);refine eI rfl rfl rfl rfl trivial<|Zh rfl<|L.n1<|aQ rfl (fun hc1=>?_) (fun hc1=>?_)
 ·refine C.s1<|Za rfl<|Zh rfl<|L.n5<|aG<|Zaj ?_;exact leave1 rfl rfl rfl rfl (fun D hD=>by show Value.int _ _=_;rw[sI,aGX (by simpa using hc1)])
 ·have hf0:aT b=0:=by simpa using hc1
  have hbo:=aEH hf0;refine C.s1<|Za rfl<|Zaf rfl<|Zh rfl<|L.n1<|aQ rfl (fun hc2=>?_) (fun hc2=>?_)
  ·refine C.s1<|Zh rfl<|L.n5<|aG<|Zaj ?_;exact leave1 rfl rfl rfl rfl (fun D hD=>by show Value.int _ _=_;rw[sI,aGQ Yd,aGX Yak])
  ·refine C.s1<|Zr rfl Tf.a36 rfl hB1 Tf.s36<|Zc rfl (fun D2 hD2=>zG _ b _ (hb0.up (hD2 _ Ye)) hbo)<|Zaf rfl<|Zh rfl<|L.n1<|aQ rfl (fun hc3=>?_) (fun hc3=>?_)
   ·refine C.s1<|Zh rfl<|L.n5<|aG<|Zaj ?_;exact leave1 rfl rfl rfl rfl (fun D hD=>by show Value.int _ _=_;rw[sI,aGQ Yd,aGQ Yak,aGX (by simpa using hc3)])
   ·refine bR<|Zak<|Zag<|C.s1<|Zh rfl<|L.n5 ?_;exact leave1 rfl rfl rfl rfl (fun D hD=>by show Value.int _ _=_;rw[sI,aGQ Yd,aGQ Yak,aGQ (by simpa using hc3)])
end L3
end Go.Fs
namespace Go.Fs
open Go.Proofs
namespace L3
open L1
open C3
end L3
end Go.Fs
namespace Go.Fs
open Go.Proofs
namespace L3
open L1
open C3
end L3
end Go.Fs
namespace Go.Fs
open Go.Proofs
namespace L3
open L1
open C3
def YY(l:List Cn):List Value:=l.flatMap fun x=>[.int .i64 x.after,.int .i64 x.lo,.int .i64 x.hi]
theorem XT(l:List Cn):(YY l).length=l.length*3:=by
 induction l with
 |nil=>rfl
 |cons c l ih=>unfold YY at ih ⊢;rw[aHS,aGC,ih];simp only[aGM,aIA];omega
theorem WN{l:List Cn}{i:Nat}{c:Cn}(hi:l[i]?= some c):((YY l).drop (i*3)).take 3=[.int .i64 c.after,.int .i64 c.lo,.int .i64 c.hi]:=by
  induction l generalizing i with
  |nil=>simp at hi
  |cons d l ih=>
    unfold YY at ih ⊢
    rw[aHS];cases i with
    | zero => obtain rfl : d = c := by simpa using hi
              rfl
    |succ i=>
      rw[aJY,aHO Yaf,aHI];have:(i+1)*3- [Value.int .i64 d.after,Value.int .i64 d.lo,Value.int .i64 d.hi].length=i*3:=by simp;omega
      rw[this];exact ih Yaj
theorem _root_.Go.Fs.jK.cns{D:aA}{v:Value}{n:Nat}{l:List Cn}(hF:jK D v n (YY l))(hn:l.length=n)(hb:n≤9223372036854775807):Sl D pR 3 v l:=
 hF.sl hn hb fun _i _t hi=>⟨_,rfl,rfl,WN hi⟩
theorem C0{a c:Value}{x y z:Int}(ha:∀u∈[a],cell1 u=true)(hb:∀u∈[c],cell1 u=true):∀u∈[.int .i64 x,.int .i64 y,.int .i64 z,a,c],cell1 u=true:=by
 intro u hu;simp only[aGB,GT,aIY]at hu;rcases hu with rfl|rfl|rfl|rfl|rfl
 ·rfl
 ·rfl
 ·rfl
 ·exact ha _ aGL
 ·exact hb _ aGL
end L3
end Go.Fs
namespace Go.Fs
open Go.ChangeShapes Go.WideShapes Go.RowKit
def uD(W:World):aA:=fun b=>match W.heap[b]? with
 |some (.cells cs _ _)=>cs.toList
 |_=>[]
theorem BG(W:World){cs:Array Value}{e:TypeId}{fz:Nat×Nat}(h0:W.heap[0]?= some (.cells cs e fz))(hne:cs.toList≠[]):dQ (uD W) W:=by
 have hf:uD W 0=cs.toList:=by unfold uD;rw[h0]
 refine⟨?_,by rw[hf];exact hne,e,fz,by rw[hf];exact h0⟩;intro b hb;unfold uD at hb ⊢
 split at hb
 ·rename_i cs e fz h;exact⟨cs,e,fz,h,List.prefix_refl _⟩
 ·exact absurd rfl hb
theorem tY{W:World}{b i:Nat}{v:Value}(h:W.cell? ⟨b,i,none⟩=some v):(uD W b)[i]?= some v:=by
 unfold World.cell? at h;unfold uD;split at h
 ·rename_i cs e fz hb;simp only at hb;rw[hb];simpa using h
 ·cases h
structure p8(W W':World):Prop where
 env:Q3 W'=Q3 W
 size:W.heap.size≤W'.heap.size
 old:∀b,b<W.heap.size→W'.heap[b]?= W.heap[b]?
theorem p8.but{W W':World}(h:p8 W W')(may:MemPlace→Prop):W.keptBut W' may:=by
 refine⟨aGV Prod.fst h.env,aGV Prod.snd h.env,fun i hi=>?_⟩;rw[h.old i hi];cases W.heap[i]? with
 |none=>rfl
 |some o=>cases o<;>first|exact⟨rfl,rfl,rfl,fun _ _=>rfl⟩|exact Or.inr ⟨rfl,rfl⟩|rfl
theorem p8.frozen{W W':World}(h:p8 W W'){a:Addr}(hl:a.block<W.heap.size):W'.frozen? a=W.frozen? a:=by
 unfold World.frozen?;rw[h.old _ hl]
theorem p8.same{W W':World}(h:p8 W W'){p:MemPlace}(hp:p.block<W.heap.size):W.sameAt W' p:=by
 cases p with
 |cell b off=>
  simp only[World.sameAt,World.cell?];rw[h.old b hp]
 |map b=>exact h.old b hp
theorem Fn.calls{P:Program}{f:FuncId}{args:Array Value}{D:aA}{post:aA→Value→Prop}(h:Fn P f args D post){W:World}(hD:dQ D W):
  Calls P f args W fun e W'=>∃v D',e=.returned v∧post D' v∧p8 W W':=
 (h.2 W hD).mono (by
  rintro e W' ⟨v,D',he,hs,hp⟩;exact⟨v,D',he,hp,hs.env _ rfl,hs.size,fun b hb=>hs.old b hb Ye⟩)
section
variable{H:Type}{enc:TypeId×Value→H}{P:Program}
theorem uP(hl:laidOutB P=true){W W':World}{sp:Nat→Bool}:∀(ts:List TypeId) (vs:List Value) (ds:List (DataW H)) (ps:List MemPlace),(∀t∈ts,P.readableRec t=true∧t<P.types.size)→
  DataW.TrodAll enc P W 0 (fun _=>true) true ts vs ds ps→(∀p∈ps,W.sameAt W' p)→(∀p∈ps,sp p.block=true)→DataW.TrodAll enc P W' 0 sp true ts vs ds ps
 | [],vs,ds,ps,_,h,_,_=>by
  obtain⟨rfl,rfl,rfl⟩:=trodAll_nil h;exact trodAll_mk0
 |t::ts,vs,ds,ps,hr,h,hsame,hs=>by
  obtain⟨v,vs',d,ds',p,q,rfl,rfl,rfl,h1,h2⟩:=trodAll_cons h;exact trodAll_cons_mk (WideElems.Trod_stays hl (hr t aGL).1 (hr t aGL).2 h1 (fun x hx=>hsame x (aGI _ hx)) (fun x hx=>hs x (aGI _ hx)))
   (uP hl ts vs' ds' q (fun u hu=>hr u (aGE _ hu)) h2 (fun x hx=>hsame x (aFZ _ hx)) (fun x hx=>hs x (aFZ _ hx)))
theorem LL{f:Func}{s:ChangeSpec}{apart fresh handsOn again:Bool}{W W':World}{args:Array Value}{v:Value}{ds gs:List (DataW H)}{before pa pv:List MemPlace}(hW:DataW.Whole enc P f.params.toList s.vars apart W args.toList ds gs before)
  (hres:∀(b:Nat) (sp:Nat→Bool) (hd:Bool),DataW.TrodAll enc P W' b sp hd f.resultTypes.toList (v.resultList f.resultTypes.size) (s.fn H (ds++gs)).results [])
  (hargs:∀sp:Nat→Bool,(∀p∈before,sp p.block=true)→DataW.TrodAll enc P W' 0 sp true f.params.toList args.toList (s.fn H (ds++gs)).args pa)
  (hvars:∀sp:Nat→Bool,(∀p∈before,sp p.block=true)→DataW.TrodVars enc P W' sp s.vars (s.fn H (ds++gs)).vars pv)
  (hps:before=pa++pv) (hk:W.keptBut W' (· ∈before)) (hfz:∀a:Addr,a.block<W.heap.size→W'.frozen? a=W.frozen? a)
  (hok:∀(j:Nat) (t:TypeId) (r:Value),f.resultTypes[j]?= some t→(v.resultList f.resultTypes.size)[j]?= some r→Value.okWide P W' .any 0 t r):s.post enc P f apart fresh handsOn again W args v W':=by
 have hold:∀p∈before,(fun b=>decide (b<W.heap.size)) p.block=true:=fun p hp=>by simpa using hW.lt p hp
 have hlt:=hW.lt;refine⟨ds,gs,before,[],pa,pv,hW,hres _ _ _,hargs _ hold,hvars _ hold,World.keptBut_mono (fun p hp=>⟨hp,aGH (by rwa [hps,aGP]at hp)⟩) hk,fun _=>?_⟩;obtain⟨_,_,_,_,_,hz,hn⟩:=hW;refine⟨hok,_,_,([]++pa)++pv,⟨[]++pa,pv,trodAll_append (hargs _ (fun _ _=>rfl)) (hres _ _ _),hvars _ (fun _ _=>rfl),rfl,fun b off hp=>?_,fun ha=>?_⟩,fun p hp _=>?_⟩
 ·have hb:MemPlace.cell b off∈before:=by rw[hps];simpa using hp
  rw[hfz _ (by simpa [MemPlace.block]using hlt _ hb)];exact hz b off hb
 ·have:=hn ha;rw[hps]at this;simpa using this
 ·rw[hps];simpa using hp
theorem TD{f:Func}{s:ChangeSpec}{tb:TypeId}{W W':World}{args:Array Value}{ds gs:List (DataW H)}{before:List MemPlace}(hl:laidOutB P=true)(hp:(f.params.toList.all fun t=>P.readableRec t&&decide (t<P.types.size))=true)(hvars:s.vars=[])
  (hres:f.resultTypes=#[tb]) (htb:P.underlying tb=some .bool) (hW:DataW.Whole enc P f.params.toList s.vars false W args.toList ds gs before) (hs:s.fn H (ds++gs)={results:=[.lit (.bool true)],args:=ds}) (hk:p8 W W'):
  s.post enc P f false true false false W args (.bool true) W':=by
 have hlt:=hW.lt;have hW':=hW;obtain⟨p,q,hA,hV,rfl,hfz,hnd⟩:=hW';rw[hvars]at hV;obtain⟨_,rfl⟩:=trodVars_none hV;refine LL (pa:=p) (pv:=[]) hW (fun b sp hd=>?_) (fun sp hsp=>?_) (fun sp _=>?_) rfl (hk.but _) (fun _=>hk.frozen) (ok_one hres rfl (okWide_bool_mk htb true))
 ·rw[hs,hres];exact trodAll_mk1 (shut_bool htb true)
 ·rw[hs];refine uP hl _ _ _ _ (fun t ht=>?_) hA (fun x hx=>hk.same (hlt x (aGI _ hx))) (fun x hx=>hsp x (aGI _ hx));have:=aGY.1 hp t ht;simpa using this
 ·rw[hs,hvars];rfl

def xN(P:Program)(t:TypeId){α:Type}(R:Rd α):Prop:=∀{H:Type} (enc:TypeId×Value→H) (W:World) (n:Nat) (cs:List Value) (x:DataW H×List MemPlace),DataW.trod enc P W 0 (fun _=>true) true n t cs=some x→∃a,R (uD W) a cs
def aFT{α:Type}(R:Rd α)(sz:Nat):Rd (List α):=fun D xs cs=>∃v,cs=[v]∧Sl D R sz v xs
theorem xN.slice{t e:TypeId}{sz:Nat}{α:Type}{R:Rd α}(ht:P.underlying t=some (.slice e))(hc:P.cellsOf e=sz)(hpos:0<sz)(hel:xN P e R):xN P t (aFT R sz):=fun {H} enc W fuel cs x hx=>by
 rcases DataW.trod_slice ht hx with⟨rfl,_⟩|⟨a,len,cap,elems,rest,n,_,rfl,_,_,hl,hm,hlen,hel',_,_⟩
 ·exact⟨[],_,rfl,Sl.nil⟩
 have hm':cap≤9223372036854775807:=by simpa [maxLen]using hm
 have key:∀i,i<len→∃cs,(∃y,R (uD W) y cs)∧cs.length=sz∧∀j,j<sz→W.cell? ((a.add (i*sz)).add j)=cs[j]? :=by
  intro i hi;have h1:=hel' i hi;rw[aGF Yd,hc]at h1;simp only[Option.bind_eq_some_iff]at h1;obtain⟨cs,h2,h3⟩:=h1;obtain⟨_,h4,h5⟩:=World.cells?_some h2;exact⟨cs,hel enc W n cs _ h3,h4,h5⟩
 by_cases h0:len=0
 ·subst h0;exact⟨[],_,rfl,some a,cap,rfl,aKO _,by simp,aGR rfl⟩
 have hspot:a=⟨a.block,a.off,none⟩:=by
  obtain⟨cs,_,h2,h3⟩:=key 0 Yd;have h4:=h3 0 hpos;rw[aKG]at h4;simp only[Addr.add,aII]at h4;rw[aGF (show 0<cs.length by omega)]at h4;unfold World.cell? at h4;split at h4
  ·split at h4
   ·cases h4
   ·rename_i hs;obtain⟨b,o,s⟩:=a;cases s with
    |none=>rfl
    |some=>simp at hs
  ·cases h4
 have pick:∃ys:List α,ys.length=len∧∀i y,ys[i]?= some y→∃cs,R (uD W) y cs∧cs.length=sz∧∀j,j<sz→W.cell? ((a.add (i*sz)).add j)=cs[j]? :=by
  refine⟨List.ofFn fun i:Fin len=>(key i.1 i.2).choose_spec.1.choose,by simp,fun i y hy=>?_⟩;rw[List.getElem?_ofFn]at hy;split at hy
  ·rename_i hi;cases hy;exact⟨_,(key i hi).choose_spec.1.choose_spec,(key i hi).choose_spec.2.1,(key i hi).choose_spec.2.2⟩
  ·cases hy
 obtain⟨ys,hys,hy⟩:=pick;refine⟨ys,_,rfl,some a,cap,by rw[hys],by omega,by omega,aGH ⟨a.block,a.off,by rw[←hspot],fun i y hi=>?_⟩⟩;obtain⟨cs,h1,h2,h3⟩:=hy i y hi;refine⟨cs,h1,h2,fun j v hj=>?_⟩;have hjl:=(aGJ.1 hj).1;have h4:=h3 j Yd;rw[hj,hspot,dW,dW]at h4;exact tY h4
theorem xN.trod{t:TypeId}{α:Type}{R:Rd α}(h:xN P t R){W:World}{v:Value}{d:DataW H}{ps:List MemPlace}(hd:DataW.Trod enc P W 0 (fun _=>true) true t v d ps):∃a,R (uD W) a v.cells.toList:=by
 obtain⟨fuel,hf⟩:=hd;exact h enc W fuel _ _ hf
theorem DP{t e:TypeId}{α:Type}{R:Rd α}{sz:Nat}(ht:P.underlying t=some (.slice e))(h:xN P t (aFT R sz)){W:World}{r:Reach}{b0:Nat}{v:Value}{d:DataW H}{ps:List MemPlace}(hval:Value.okWide P W r b0 t v)(hd:DataW.Trod enc P W 0 (fun _=>true) true t v d ps):
  ∃xs,Sl (uD W) R sz v xs:=by
 obtain⟨a,len,cap,rfl⟩:=okWide_slice ht hval;obtain⟨xs,u,hc,hs⟩:=h.trod hd;simp only[Value.cells,aIP,and_true]at hc;exact⟨xs,by rw[hc];exact hs⟩
end
end Go.Fs
namespace Go.Fs
open Go.Proofs
namespace L3
open L1
open C3
end L3
end Go.Fs
namespace Go.Fs
open Go.Proofs
namespace L3
open L1
open C3
end L3
end Go.Fs
namespace Go.Fs
open Go.Proofs
namespace L3
open L1
open C3
end L3
end Go.Fs
namespace Go.Fs
open Go.Proofs
namespace L3
open L1
open C3
end L3
end Go.Fs
namespace Go.Fs
open Go.Proofs
namespace L3
open L1
open C3
end L3
end Go.Fs
namespace Go.Fs
open Go.Proofs
namespace L3
open L1
open C3
end L3
end Go.Fs
namespace Go.Fs
open Go.Proofs
namespace L3
open L1
open C3
end L3
end Go.Fs
