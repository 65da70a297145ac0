/- Of the proof of BookGoesOn: V2, V3, V4, V5, V6, V7, V8, V9, V10, V11, V12, V13, V14, Shell, V15, V16, V17, V18, V19, V20, V21. -/
import Derived.Test.YtelhnbcdablgoaaGreatDoorZBookGoesOnAF
import Derived.Test.YtelhnbcdablgoaaGreatDoorZBookGoesOnAC
import Derived.Test.YtelhnbcdablgoaaGreatDoorZBookGoesOnAE
import Derived.Test.YtelhnbcdablgoaaGreatDoorZBookGoesOnAD
import Derived.ProofKit
import Derived.OpenShut
import Derived.WideKeyArgs
import Derived.JoinedCond
namespace Go.Fs
open Go.Proofs
namespace L3
open L1
open C3
def FJ(lo:Int)(k:Nat):List Int:=(List.range k).map fun i:Nat=>lo+(i:Int)
theorem QX{s n lo hi:Int}(h:s≠n):dV s n lo hi=[s]:=by unfold dV;rw[aJT h]
theorem QU{s n lo hi:Int}(h:¬s≠n):dV s n lo hi=FJ lo (hi+1-lo).toNat:=by unfold dV;rw[aJM h];rfl
theorem iE(n lo hi:Int)(D:aA):Fn Tryz.prog 92 #[.int .i64 n,.int .i64 lo,.int .i64 hi] D (fun _ v=>v=.bool (C1.fR n lo hi)):=by
 refine enter 15 Tryz.func92 rfl rfl rfl rfl fun h0=>C.s1<|Zh rfl<|L.n3<|Za rfl<|Za rfl<|iJ rfl rfl rfl rfl trivial<|Za rfl ?_
 refine' L.anK 4 (s:=10) (p:=14) rfl (fun hg1=>?_) (fun hg1=>?_) ?_;rotate_left
 ·refine Zb rfl<|Zb rfl<|iJ rfl rfl rfl rfl ⟨_,rfl,rfl⟩<|Zac rfl ?_;exact L.cu 3
 ·refine Zk rfl<|Zk rfl<|Zk rfl<|Zad rfl ?_;exact L.cu 3
 refine Zh rfl<|L.n5 ?_;exact leave1 rfl rfl rfl rfl (fun D hD=>rfl)
theorem tA(sv:Value)(x:Int)(xs:List Int)(D:aA)(hS:Sl D RI 1 sv (x::xs)):
  Fn Tryz.prog 149 #[sv] D (fun _ v=>v=.int .i64 (xs.foldl min x)):=by
 refine enter 5 Tryz.func149 rfl rfl rfl rfl fun h0=>C.s1<|Zh rfl<|L.n3<|Za rfl<|Zd rfl (fun D1 hD1=>S1 _ x xs _ (Sl.at RI.up hD1 Yk Ye))<|Zh rfl<|L.n5 ?_
 exact leave1 rfl rfl rfl rfl (fun D hD=>rfl)
theorem ZF(r:Int×Int)(n:Int)(D:aA):Fn Tryz.prog 281 #[iU r,.int .i64 n] D (fun _ v=>v=.bool (C1.fR n r.1 r.2)):=by
 refine enter 11 Tryz.func281 rfl rfl rfl rfl fun h0=>C.s1<|Zw rfl (fun q1 E1 hE1 hB1=>Zh rfl<|L.n3<|Za rfl<|Zi rfl Tf.f65_0 rfl<|Zf 0 rfl Tf.a3 rfl hB1 rfl<|Zi rfl Tf.f65_1 rfl<|Zf 1 rfl Tf.a3 rfl hB1 rfl<|Zd rfl (fun D1 hD1=>iE _ _ _ _)<|Zh rfl ?_);refine L.n5 ?_
 exact leave1 rfl rfl rfl rfl (fun D hD=>rfl)
theorem V8(r:Int×Int)(n:Int)(D:aA):Fn Tryz.prog 155 #[iU r,.int .i64 n] D (fun _ v=>v=iU (min r.1 n,max r.2 n)):=by
 refine enter 15 Tryz.func155 rfl rfl rfl rfl fun h0=>C.s1<|Zw rfl (fun q1 E1 hE1 hB1=>Zx rfl Tf.z65 rfl (fun q2=>L.n2<|iW [] 4 [0,1,2,5,6,7,8,3,4,9,10] [false,false,true,true,true,true,true,true,true,false,false] [(false,0),(false,1),(true,2),(true,5),(true,6),(true,7),(true,8),(true,3),(true,4),(false,9),(false,10)] Tf.follows (fun _ _ _ h=>cA (P:=Tryz.prog) (fn:=Tryz.f155) _ _ _ h) Yg rfl<|Zi rfl Tf.f65_0 rfl<|Zf 0 rfl Tf.a3 rfl hB1 rfl<|Za rfl<|Zi rfl Tf.f65_1 rfl<|Zf 1 rfl Tf.a3 rfl hB1 rfl<|Za rfl ?_));refine oZ rfl rfl rfl rfl trivial<|Zp rfl U25 Tf.s3 Tf.z3 rfl rfl rfl rfl (.cons rfl rfl (.cons rfl rfl .nil)) (fun b901 D901 hD901 hA901=>?_)
 have hS901:=Sl.ofInts (l:=[_,_]) (n:=2) (cap:=2) hA901 rfl Yd Yd;refine Zd rfl (fun D1 hD1=>tA _ r.1 [n] _ (hS901.up RI.up (hD1 _ Ye)))<|Zq [.int .i64 (min r.1 n),.int .i64 (max r.2 n)] rfl Tf.p65 Tf.z65 rfl rfl<|Zv rfl Tf.s65 (bM.head)<|L.n5 ?_;exact Zm [_] rfl ⟨⟨_,_,_,rfl,(List.Mem.head _),Or.inr ⟨Tf.a65,(by first|exact Tf.s65|(simp only[aKH,aH, *];exact Tf.s65)),rfl⟩⟩,aOJ⟩ (fun D hD=>rfl)
theorem S4(sv fv:Value)(xs:List fH)(p:fH→Bool)(D:aA)(hS:Sl D oL 3 sv xs)(hp:cF Tryz.prog D AD fv p):
  Fn Tryz.prog 278 #[sv,fv] D (fun _ v=>v=.int .i64 (idxOf p xs)):=by
 have hl:=hS.len;obtain⟨f,c1,c2,rfl,hf⟩:=hp;refine enter 19 Tryz.func278 rfl rfl rfl rfl fun h0=>C.s1<|Zh rfl<|L.n4<|Za rfl<|aR rfl U33 rfl Yk rfl rfl trivial<|Za rfl<|L.n1<|Zaj<|cJ (γ:=Nat) (fun k=>xs.length-k) (fun k=>k≤xs.length∧(xs.take k).any p=false) (fun k=>[(8,.int .i64 k)]) [(7,_),(4,_),(0,_),(1,_)] (fun k=>[D]) 0 Ye ⟨Yb,aOJ⟩ C.rs (aD) ?_
 rintro k ⟨h1,h2⟩;refine C.s1<|Zae rfl<|L.n2<|aE rfl (fun hc1=>?_) (fun hc1=>?_)
 ·have hk:k<xs.length:=by omega
  obtain⟨x,hx⟩:=C.ge xs k;refine C.kn<|aM<|Zaj<|C.s1<|Za rfl<|Zh rfl<|L.n3<|Za rfl<|Za rfl<|Za rfl<|cU rfl U33 Tf.s160 rfl Yk rfl Yd Yk rfl aOJ (fun b1 o1 cs1 hr1 hcl1 hA1=>?_);obtain rfl:cs1=[.int .i64 _,.int .i64 _,.int .i64 _]:=hr1;refine Zr rfl Tf.a160 rfl hA1 Tf.s160<|Zd rfl (fun D1 hD1=>hf x _ (hD1 _ Ye))<|L.n1<|aJ rfl (fun hc2=>?_) (fun hc2=>?_)
  ·refine C.s1<|Za rfl<|Zh rfl<|L.n5<|Zam<|Zai<|Zai<|Zam<|Zai ?_;exact leave1 rfl rfl rfl rfl (fun D hD=>by show Value.int _ _=_;rw[hU hx h2 hc2])
  ·refine bQ<|Zal<|Zah<|C.rg<|Zy rfl<|Za rfl<|Zab ?_;have hpx:p x=false:=hc2;have h3:(xs.take (k+1)).any p=false:=by rw[aJP,hx,aMT,h2];simp[hpx]
   exact aG 12 (k+1) ⟨by omega,h3⟩ Yd ⟨Yb,aOJ⟩ rfl rfl (LE _) (aD)
 ·refine aQ<|Zak<|Zak<|Zan<|Zah<|C.s1<|Zh rfl<|L.n5 ?_;exact leave1 rfl rfl rfl rfl (fun D hD=>by show Value.int _ _=_;rw[eW Yab])
theorem zN(sv fv:Value)(xs:List fH)(p:fH→Bool)(D:aA)(hS:Sl D oL 3 sv xs)(hp:cF Tryz.prog D AD fv p):
  Fn Tryz.prog 225 #[sv,fv] D (fun _ v=>v=.bool (xs.any p)):=by
 refine enter 9 Tryz.func225 rfl rfl rfl rfl fun h0=>C.s1<|Zh rfl<|L.n3<|Za rfl<|Za rfl<|Zd rfl (fun D1 hD1=>S4 _ _ xs p _ (Sl.at oL.up hD1 Yk Ye) (hp.up (hD1 _ Ye)))<|nS rfl rfl rfl rfl trivial<|Zh rfl<|L.n5 ?_
 exact leave1 rfl rfl rfl rfl (fun D hD=>by show Value.bool (decide _)=_;rw[hC])
theorem XA(b:Nat)(fv:Value)(p:fH→Bool)(x:fH)(D:aA)(hp:cF Tryz.prog D AD fv p)(hB:At D b 0 [fv]):
  Fn Tryz.prog 226 #[AD x,.pointer (some ⟨b,0,none⟩)] D (fun _ v=>v=.bool (!p x)):=by
 obtain⟨f,c1,c2,rfl,hf⟩:=hp;refine enter 8 Tryz.func226 rfl rfl rfl rfl fun h0=>C.s1<|Zw rfl (fun q1 E1 hE1 hB1=>Zh rfl<|L.n3<|Zf 0 rfl Tf.a288 rfl hB rfl<|Zr rfl Tf.a160 rfl hB1 Tf.s160<|Zd rfl (fun D1 hD1=>hf x _ (hD1 _ Ye))<|Zag rfl<|Zh rfl<|L.n5 ?_)
 exact leave1 rfl rfl rfl rfl (fun D hD=>rfl)
theorem aCY(sv fv:Value)(xs:List fH)(p:fH→Bool)(D:aA)(hS:Sl D oL 3 sv xs)(hp:cF Tryz.prog D AD fv p)(h1:fv.cells=#[fv]):
  Fn Tryz.prog 147 #[sv,fv] D (fun _ v=>v=.bool (xs.all p)):=by
 refine enter 9 Tryz.func147 rfl rfl rfl rfl fun h0=>C.s1<|mU (vs:=[fv]) rfl rfl h1 rfl aOJ (fun b D1 hD1 hB=>Zh rfl<|L.n3<|Za rfl<|bB rfl rfl rfl rfl trivial<|Zd rfl (fun D1 hD1=>zN _ _ xs (fun x=> !p x) _ (Sl.at oL.up hD1 Yk Ye) ⟨_,[],[.pointer (some ⟨b,0,none⟩)],rfl,fun x D2 hl=>XA b fv p x D2 (hp.up ((hD1 _ Ye).trans hl)) (hB.up ((hD1 _ Ye).trans hl))⟩)<|Zag rfl<|Zh rfl<|L.n5 ?_)
 exact leave1 rfl rfl rfl rfl (fun D hD=>by show Value.bool (!_)=_;rw[kH])
theorem U0(sv fv:Value)(xs:List Cn)(p:Cn→Bool)(D:aA)(hS:Sl D qQ 3 sv xs)(hp:cF Tryz.prog D aFB fv p):
  Fn Tryz.prog 279 #[sv,fv] D (fun _ v=>v=.int .i64 (idxOf p xs)):=by
 have hl:=hS.len;obtain⟨f,c1,c2,rfl,hf⟩:=hp;refine enter 19 Tryz.func279 rfl rfl rfl rfl fun h0=>C.s1<|Zh rfl<|L.n4<|Za rfl<|aR rfl U34 rfl Yk rfl rfl trivial<|Za rfl<|L.n1<|Zaj<|cJ (γ:=Nat) (fun k=>xs.length-k) (fun k=>k≤xs.length∧(xs.take k).any p=false) (fun k=>[(8,.int .i64 k)]) [(7,_),(4,_),(0,_),(1,_)] (fun k=>[D]) 0 Ye ⟨Yb,aOJ⟩ C.rs (aD) ?_
 rintro k ⟨h1,h2⟩;refine C.s1<|Zae rfl<|L.n2<|aE rfl (fun hc1=>?_) (fun hc1=>?_)
 ·have hk:k<xs.length:=by omega
  obtain⟨x,hx⟩:=C.ge xs k;refine C.kn<|aM<|Zaj<|C.s1<|Za rfl<|Zh rfl<|L.n3<|Za rfl<|Za rfl<|Za rfl<|cU rfl U34 Tf.s162 rfl Yk rfl Yd Yk rfl aOJ (fun b1 o1 cs1 hr1 hcl1 hA1=>?_);obtain rfl:cs1=[.int .i64 _,.int .i64 _,.int .i64 _]:=hr1;refine Zr rfl Tf.a162 rfl hA1 Tf.s162<|Zd rfl (fun D1 hD1=>hf x _ (hD1 _ Ye))<|L.n1<|aJ rfl (fun hc2=>?_) (fun hc2=>?_)
  ·refine C.s1<|Za rfl<|Zh rfl<|L.n5<|Zam<|Zai<|Zai<|Zam<|Zai ?_;exact leave1 rfl rfl rfl rfl (fun D hD=>by show Value.int _ _=_;rw[hU hx h2 hc2])
  ·refine bQ<|Zal<|Zah<|C.rg<|Zy rfl<|Za rfl<|Zab ?_;have hpx:p x=false:=hc2;have h3:(xs.take (k+1)).any p=false:=by rw[aJP,hx,aMT,h2];simp[hpx]
   exact aG 12 (k+1) ⟨by omega,h3⟩ Yd ⟨Yb,aOJ⟩ rfl rfl (LE _) (aD)
 ·refine aQ<|Zak<|Zak<|Zan<|Zah<|C.s1<|Zh rfl<|L.n5 ?_;exact leave1 rfl rfl rfl rfl (fun D hD=>by show Value.int _ _=_;rw[eW Yab])
theorem yU(sv fv:Value)(xs:List Cn)(p:Cn→Bool)(D:aA)(hS:Sl D qQ 3 sv xs)(hp:cF Tryz.prog D aFB fv p):
  Fn Tryz.prog 227 #[sv,fv] D (fun _ v=>v=.bool (xs.any p)):=by
 refine enter 9 Tryz.func227 rfl rfl rfl rfl fun h0=>C.s1<|Zh rfl<|L.n3<|Za rfl<|Za rfl<|Zd rfl (fun D1 hD1=>U0 _ _ xs p _ (Sl.at qQ.up hD1 Yk Ye) (hp.up (hD1 _ Ye)))<|nS rfl rfl rfl rfl trivial<|Zh rfl<|L.n5 ?_
 exact leave1 rfl rfl rfl rfl (fun D hD=>by show Value.bool (decide _)=_;rw[hC])
theorem XF(b:Nat)(fv:Value)(p:Cn→Bool)(x:Cn)(D:aA)(hp:cF Tryz.prog D aFB fv p)(hB:At D b 0 [fv]):
  Fn Tryz.prog 228 #[aFB x,.pointer (some ⟨b,0,none⟩)] D (fun _ v=>v=.bool (!p x)):=by
 obtain⟨f,c1,c2,rfl,hf⟩:=hp;refine enter 8 Tryz.func228 rfl rfl rfl rfl fun h0=>C.s1<|Zw rfl (fun q1 E1 hE1 hB1=>Zh rfl<|L.n3<|Zf 0 rfl Tf.a289 rfl hB rfl<|Zr rfl Tf.a162 rfl hB1 Tf.s162<|Zd rfl (fun D1 hD1=>hf x _ (hD1 _ Ye))<|Zag rfl<|Zh rfl<|L.n5 ?_)
 exact leave1 rfl rfl rfl rfl (fun D hD=>rfl)
theorem HV(sv fv:Value)(xs:List Cn)(p:Cn→Bool)(D:aA)(hS:Sl D qQ 3 sv xs)(hp:cF Tryz.prog D aFB fv p)(h1:fv.cells=#[fv]):
  Fn Tryz.prog 148 #[sv,fv] D (fun _ v=>v=.bool (xs.all p)):=by
 refine enter 9 Tryz.func148 rfl rfl rfl rfl fun h0=>C.s1<|mU (vs:=[fv]) rfl rfl h1 rfl aOJ (fun b D1 hD1 hB=>Zh rfl<|L.n3<|Za rfl<|bB rfl rfl rfl rfl trivial<|Zd rfl (fun D1 hD1=>yU _ _ xs (fun x=> !p x) _ (Sl.at qQ.up hD1 Yk Ye) ⟨_,[],[.pointer (some ⟨b,0,none⟩)],rfl,fun x D2 hl=>XF b fv p x D2 (hp.up ((hD1 _ Ye).trans hl)) (hB.up ((hD1 _ Ye).trans hl))⟩)<|Zag rfl<|Zh rfl<|L.n5 ?_)
 exact leave1 rfl rfl rfl rfl (fun D hD=>by show Value.bool (!_)=_;rw[kH])
theorem TW(bv:Value)(b:aX)(l:fH)(D:aA)(hb:fW D bv b)(hn:0≤b.chairs∧b.chairs≤100):Fn Tryz.prog 145 #[bv,AD l] D (fun _ v=>v=.bool (rC b.chairs l)):=by
 obtain⟨lv,cv,rfl,hl,hc⟩:=hb;refine enter 24 Tryz.func145 rfl rfl rfl rfl fun h0=>C.s1<|Zw rfl (fun q1 E1 hE1 hB1=>Zw rfl (fun q2 E2 hE2 hB2=>Zh rfl<|L.n3<|Zi rfl Tf.f160_0 rfl<|Zf 0 rfl Tf.a3 rfl hB2 rfl<|Zd rfl (fun D1 hD1=>iE _ _ _ _)<|Za rfl ?_))
 refine' L.anK 7 (s:=8) (p:=15) rfl (fun hg1=>?_) (fun hg1=>?_) ?_;rotate_left
 ·refine Zj rfl Tf.f160_1 rfl<|Zg 1 rfl Tf.a3 rfl hB2 rfl<|Zj rfl Tf.f36_0 rfl<|Zg 0 rfl Tf.a3 rfl hB1 rfl<|fX rfl rfl rfl Yf rfl ⟨_,rfl,rfl⟩<|Ze rfl (fun D2 hD2=>iE _ _ _ _)<|Zac rfl ?_;exact L.cu 6
 ·refine Zk rfl<|Zk rfl<|Zk rfl<|Zk rfl<|Zk rfl<|Zk rfl<|Zad rfl ?_;exact L.cu 6
 refine Za rfl ?_;refine' L.anK 7 (s:=16) (p:=23) rfl (fun hg2=>?_) (fun hg2=>?_) ?_;rotate_left
 ·refine Zj rfl Tf.f160_2 rfl<|Zg 2 rfl Tf.a3 rfl hB2 rfl<|Zj rfl Tf.f36_0 rfl<|Zg 0 rfl Tf.a3 rfl hB1 rfl<|fX rfl rfl rfl Yf rfl ⟨_,rfl,rfl⟩<|Ze rfl (fun D3 hD3=>iE _ _ _ _)<|Zac rfl ?_;exact L.cu 6
 ·refine Zk rfl<|Zk rfl<|Zk rfl<|Zk rfl<|Zk rfl<|Zk rfl<|Zad rfl ?_;exact L.cu 6
 refine Zh rfl<|L.n5 ?_;exact leave1 rfl rfl rfl rfl (fun D hD=>rfl)
theorem MO(bv:Value)(b:aX)(c:Cn)(D:aA)(hb:fW D bv b):Fn Tryz.prog 146 #[bv,aFB c] D (fun _ v=>v=.bool (mO b.lines.length c)):=by
 obtain⟨lv,cv,rfl,hl,hc⟩:=hb;refine enter 31 Tryz.func146 rfl rfl rfl rfl fun h0=>C.s1<|Zw rfl (fun q1 E1 hE1 hB1=>Zw rfl (fun q2 E2 hE2 hB2=>Zh rfl<|L.n3<|Zi rfl Tf.f162_1 rfl<|eV rfl (k:=1) Tf.a65 Tf.s65 rfl hB2 Yc rfl rfl GT rfl trivial<|Zx rfl Tf.z65 rfl (fun q3=>Zv rfl Tf.s65 (bM.head)<|L.n3<|Zi rfl Tf.f162_0 rfl ?_)));refine Zf 0 rfl Tf.a3 rfl hB2 rfl<|Zi rfl Tf.f36_3 rfl<|Zf 3 rfl Tf.a33 rfl hB1 rfl<|aR rfl U33 rfl hl rfl rfl trivial<|Zd rfl (fun D1 hD1=>iE _ _ _ _)<|Za rfl ?_
 refine' L.anK 4 (s:=14) (p:=18) rfl (fun hg1=>?_) (fun hg1=>?_) ?_;rotate_left
 ·refine Zj rfl Tf.f65_0 rfl<|aS rfl Tf.a3 rfl (List.Mem.head _) rfl GT rfl ⟨_,rfl,rfl⟩<|iJ rfl rfl rfl rfl ⟨_,rfl,rfl⟩<|Zac rfl ?_;exact L.cu 3
 ·refine Zk rfl<|Zk rfl<|Zk rfl<|Zad rfl ?_;exact L.cu 3
 refine Za rfl ?_;refine' L.anK 6 (s:=19) (p:=25) rfl (fun hg2=>?_) (fun hg2=>?_) ?_;rotate_left
 ·refine Zj rfl Tf.f65_0 rfl<|aS rfl Tf.a3 rfl (List.Mem.head _) rfl GT rfl ⟨_,rfl,rfl⟩<|Zj rfl Tf.f65_1 rfl<|aS rfl Tf.a3 rfl (List.Mem.head _) rfl GT rfl ⟨_,rfl,rfl⟩<|iJ rfl rfl rfl rfl ⟨_,rfl,rfl⟩<|Zac rfl ?_;exact L.cu 5
 ·refine Zk rfl<|Zk rfl<|Zk rfl<|Zk rfl<|Zk rfl<|Zad rfl ?_;exact L.cu 5
 refine Za rfl ?_;refine' L.anK 4 (s:=26) (p:=30) rfl (fun hg3=>?_) (fun hg3=>?_) ?_;rotate_left
 ·refine Zj rfl Tf.f65_1 rfl<|aS rfl Tf.a3 rfl (List.Mem.head _) rfl GT rfl ⟨_,rfl,rfl⟩<|iJ rfl rfl rfl rfl ⟨_,rfl,rfl⟩<|Zac rfl ?_;exact L.cu 3
 ·refine Zk rfl<|Zk rfl<|Zk rfl<|Zad rfl ?_;exact L.cu 3
 refine Zh rfl<|L.n5 ?_;exact leave1 rfl rfl rfl rfl (fun D hD=>rfl)
theorem l7(s n lo hi:Int)(D:aA)(h1: -10≤lo∧lo≤10)(h2: -10≤hi∧hi≤100):Fn Tryz.prog 229 #[.int .i64 s,.int .i64 n,.int .i64 lo,.int .i64 hi] D (fun D' v=>Sl D' RI 1 v (dV s n lo hi)):=by
 refine enter 26 Tryz.func229 rfl rfl rfl rfl fun h0=>C.s1<|Zh rfl<|L.n4<|Za rfl<|Za rfl<|dZ rfl rfl rfl rfl trivial<|L.n1<|aE rfl (fun hc1=>?_) (fun hc1=>?_)
 ·refine C.s1<|Za rfl<|Zp rfl U25 Tf.s3 Tf.z3 rfl rfl rfl rfl (.cons rfl rfl .nil) (fun b901 D901 hD901 hA901=>?_);have hS901:=Sl.ofInts (l:=[_]) (n:=1) (cap:=1) hA901 rfl Yd Yd;refine Zh rfl<|L.n5<|Zai ?_;exact leave1 rfl rfl rfl rfl (fun D hD=>by rw[QX hc1];exact hS901.up RI.up (hD _ Ye))
 ·refine C.kn<|C.s2<|Za rfl<|Zh rfl<|L.n1<|Zaj<|cE (γ:=Nat×Value×aC) (fun g=>(hi+1-lo).toNat-g.1) (fun g=>g.1≤(hi+1-lo).toNat∧bL 3 1 g.2.1 g.1 (ints (FJ lo g.1)) g.2.2) (fun g=>[(8,g.2.1),(9,.int .i64 (lo+(g.1:Int)))]) [(3,_)] (fun g=>g.2.2++[]) (fun g=>[D]) (0,.slice none 0 0,[]) ⟨by simp,by simpa [ints,FJ]using bL.nil⟩ ⟨Yb,Yb,aOJ⟩ ⟨rfl,aOJ⟩ (LE _) (aD) ?_;rintro⟨k,v,ν⟩ ⟨h11,ha⟩;simp only at h11 ha;refine C.s2<|Za rfl<|Za rfl<|iJ rfl rfl rfl rfl trivial<|L.n1<|aE rfl (fun hc2=>?_) (fun hc2=>?_)
  ·simp only at hc2;refine C.kn<|aM<|Zaj<|C.rg<|Za rfl<|Za rfl<|Zp rfl U25 Tf.s3 Tf.z3 rfl rfl rfl rfl (.cons rfl rfl .nil) (fun b902 D902 hD902 hA902=>?_);have hS902:=Sl.ofInts (l:=[_]) (n:=1) (cap:=1) hA902 rfl Yd Yd;refine aU (A:=[]) (B:=_) rfl U25 rfl rfl Tf.s3 Tf.z3 rfl Tf.i3 rfl rfl rfl ha (jE.lit hA902) Ye rfl (by simp[FJ]) Yi Yd (aJQ rfl) rfl aOJ (fun v1 ν1 ha1=>?_);have ha2:bL 3 1 v1 (k+1) (ints (FJ lo (k+1))) ν1:=by unfold FJ;rw[aLG,aJN,aNE,←eN];exact ha1
   refine Zh rfl<|Zab<|Zal<|Zah<|C.rg<|Za rfl<|Zy rfl<|Zh rfl<|Zab ?_;exact aG 13 (k+1,v1,ν1) ⟨by simp only;omega,ha2⟩ Yl ⟨rfl,(by show some (Value.int _ _)=some (Value.int _ _);congr 2;push_cast;omega),aOJ⟩ rfl rfl (LE _) (fun D h=>⟨D,LT _ (h),Le.refl D⟩)
  ·have hk:k=(hi+1-lo).toNat:=by simp only at hc2;omega
   rw[hk]at ha;refine aQ<|Zak<|Zak<|Zan<|Zah<|C.s1<|Za rfl<|Zh rfl<|L.n5<|eK (A:=[]) (B:=[]) ha rfl (fun D2 hD2 hF=>?_);exact leave1 rfl rfl rfl rfl (fun D hD=>by rw[QU hc1];exact(hF.ints (by simp[FJ]) Yd).up RI.up (hD _ Ye))
end L3
end Go.Fs
namespace Go.Fs
open Go.Proofs
namespace L3
open L1
open C3
def aGU(n:Int)(l:fH)(x c:Int):List fH:=(dV l.token (-1) 0 (n-1)).map fun t=>⟨x,c,t⟩
def aIA(n:Int)(l:fH)(x:Int):List fH:=(dV l.chair (-1) 0 (n-1)).flatMap (aGU n l x)
def ZE(n:Int)(l:fH)(k:Nat):List fH:=((dV l.kind 0 1 2).take k).flatMap (aIA n l)
def YG(n:Int)(l:fH)(k:Nat)(x:Int)(j:Nat):List fH:=ZE n l k++((dV l.chair (-1) 0 (n-1)).take j).flatMap (aGU n l x)
def QG(n:Int)(l:fH)(k:Nat)(x:Int)(j:Nat)(c:Int)(i:Nat):List fH:=YG n l k x j++((dV l.token (-1) 0 (n-1)).take i).map fun t=>⟨x,c,t⟩
theorem IW{n:Int}{l:fH}:ZE n l (dV l.kind 0 1 2).length=cR n l:=by unfold ZE;rw[aKN];rfl
theorem RK{n:Int}{l:fH}{k:Nat}{x:Int}:YG n l k x 0=ZE n l k:=by unfold YG;simp
theorem XR{n:Int}{l:fH}{k:Nat}{x:Int}{j:Nat}{c:Int}:QG n l k x j c 0=YG n l k x j:=by unfold QG;simp
theorem aAN{n:Int}{l:fH}{k:Nat}{x:Int}(h:(dV l.kind 0 1 2)[k]?= some x):YG n l k x (dV l.chair (-1) 0 (n-1)).length=ZE n l (k+1):=by
 unfold YG ZE;rw[aKN,aJP,h,aLC,aKE,aKV];rfl
theorem aAX{n:Int}{l:fH}{k:Nat}{x:Int}{j:Nat}{c:Int}(h:(dV l.chair (-1) 0 (n-1))[j]?= some c):QG n l k x j c (dV l.token (-1) 0 (n-1)).length=YG n l k x (j+1):=by
 unfold QG YG;rw[aKN,aJP,h,aLC,aKE,aKV,aJL];rfl
theorem VG{n:Int}{l:fH}{k:Nat}{x:Int}{j:Nat}{c:Int}{i:Nat}{t:Int}(h:(dV l.token (-1) 0 (n-1))[i]?= some t):QG n l k x j c (i+1)=QG n l k x j c i++[⟨x,c,t⟩]:=by
 unfold QG;rw[aJP,h,aLC,aJN,←aJL];rfl
theorem qJ{s none lo hi:Int}{m:Nat}(h:hi+1-lo≤m)(h1:1≤m):(dV s none lo hi).length≤m:=by
 unfold dV;split
 ·simpa using h1
 ·simp;omega
theorem iZ{α β:Type}{f:α→List β}{m:Nat}:∀(l:List α),(∀x∈l,(f x).length≤m)→(l.flatMap f).length≤l.length*m
 | [],_=>by simp
 |x::l,h=>by
  rw[aKR,aIX,aJD,aLW];have:=iZ l fun y hy=>h y (aJB _ hy)
  have:=h x aJH;omega
theorem JB{n:Int}{l:fH}(hn:n≤4)(x c:Int):(aGU n l x c).length≤4:=by unfold aGU;rw[aLA];exact qJ Yd Yd
theorem aCD{n:Int}{l:fH}(hn:n≤4)(x:Int):(aIA n l x).length≤16:=by
 unfold aIA;have h1:=iZ (m:=4) (f:=aGU n l x) (dV l.chair (-1) 0 (n-1)) fun c _=>JB hn x c
 have h2:=qJ (s:=l.chair) (none:= -1) (lo:=0) (hi:=n-1) (m:=4) Yd Yd;omega
theorem JA{n:Int}{l:fH}(hn:n≤4)(k:Nat):(ZE n l k).length≤32:=by
 unfold ZE;have h1:=iZ (m:=16) (f:=aIA n l) ((dV l.kind 0 1 2).take k) fun x _=>aCD hn x
 have h2:=qJ (s:=l.kind) (none:=0) (lo:=1) (hi:=2) (m:=2) Yd Yd;have h3:((dV l.kind 0 1 2).take k).length≤(dV l.kind 0 1 2).length:=by rw[aKL];omega
 omega
theorem FD{n:Int}{l:fH}(hn:n≤4):(cR n l).length≤32:=by rw[←IW];exact JA hn _
theorem ZN{n:Int}{l:fH}{k:Nat}{x:Int}{j:Nat}{c:Int}{i:Nat}(hn:n≤4):(QG n l k x j c i).length≤60:=by
 unfold QG YG;rw[aIX,aIX,aLA];have h0:=JA (l:=l) hn k;have h1:=iZ (m:=4) (f:=aGU n l x) ((dV l.chair (-1) 0 (n-1)).take j) fun c _=>JB hn x c
 have h2:=qJ (s:=l.chair) (none:= -1) (lo:=0) (hi:=n-1) (m:=4) Yd Yd;have h3:=qJ (s:=l.token) (none:= -1) (lo:=0) (hi:=n-1) (m:=4) Yd Yd;have h4:((dV l.chair (-1) 0 (n-1)).take j).length≤4:=by rw[aKL];omega
 have h5:((dV l.token (-1) 0 (n-1)).take i).length≤4:=by rw[aKL];omega
 omega
def wJ(l:List fH):List Value:=l.flatMap fun x=>[.int .i64 x.kind,.int .i64 x.chair,.int .i64 x.token]
theorem BS(l:List fH):(wJ l).length=l.length*3:=by
 induction l with
 |nil=>rfl
 |cons c l ih=>unfold wJ at ih ⊢;rw[aKR,aIX,ih];simp only[aJD,aKZ];omega
theorem SD{l:List fH}{i:Nat}{c:fH}(hi:l[i]?= some c):((wJ l).drop (i*3)).take 3=[.int .i64 c.kind,.int .i64 c.chair,.int .i64 c.token]:=by
  induction l generalizing i with
  |nil=>simp at hi
  |cons d l ih=>
    unfold wJ at ih ⊢
    rw[aKR];cases i with
    | zero => obtain rfl : d = c := by simpa using hi
              rfl
    |succ i=>
      rw[aMY,aKK Yaf,aKF];have:(i+1)*3- [Value.int .i64 d.kind,Value.int .i64 d.chair,Value.int .i64 d.token].length=i*3:=by simp;omega
      rw[this];exact ih Yaj
theorem _root_.Go.Fs.jN.lins{D:aA}{v:Value}{n:Nat}{l:List fH}(hF:jN D v n (wJ l))(hn:l.length=n)(hb:n≤9223372036854775807):Sl D oL 3 v l:=
 hF.sl hn hb fun _i _t hi=>⟨_,rfl,rfl,SD hi⟩
theorem tE(bv:Value)(b:aX)(l:fH)(D:aA)(hb:fW D bv b)(hn:1≤b.chairs∧b.chairs≤4):Fn Tryz.prog 150 #[bv,AD l] D (fun D' v=>Sl D' oL 3 v (cR b.chairs l)):=by
 obtain⟨lv,cv,rfl,hl,hc⟩:=hb;refine enter 52 Tryz.func150 rfl rfl rfl rfl fun h0=>C.s1<|Zw rfl (fun q1 E1 hE1 hB1=>Zw rfl (fun q2 E2 hE2 hB2=>Zh rfl<|L.n4<|Zi rfl Tf.f160_0 rfl<|Zf 0 rfl Tf.a3 rfl hB2 rfl<|Zt rfl (fun D1 hD1=>l7 _ _ _ _ _ Yd Yd) (fun v1 D1 hD1 hp1=>?_)))
 have hw1:=hp1;refine aR rfl U25 rfl hw1 rfl rfl trivial<|Za rfl<|L.n1<|Zaj<|cE (γ:=Nat×Value×aC) (fun g=>(dV l.kind 0 1 2).length-g.1) (fun g=>g.1≤(dV l.kind 0 1 2).length∧bL 160 3 g.2.1 (ZE b.chairs l g.1).length (wJ (ZE b.chairs l g.1)) g.2.2) (fun g=>[(4,g.2.1),(15,.int .i64 (g.1:Int))]) [(14,_),(13,_),(3,_),(2,_)] (fun g=>g.2.2++[]) (fun g=>[D1,E2,E1,D]) (0,.slice none 0 0,[]) ⟨by simp,bL.nil⟩ ⟨Yb,Yb,aOJ⟩ C.rs (LE _) (aD) ?_;rintro⟨k,v,ν⟩ ⟨h1,ha1⟩;simp only at h1 ha1;refine C.s1<|Zae rfl<|L.n2<|aE rfl (fun hc1=>?_) (fun hc1=>?_)
 ·simp only at hc1;have hlw1:=hw1.len;obtain⟨x,hx1⟩:=C.ge (dV l.kind 0 1 2) k;refine C.kn<|aM<|Zaj<|C.s1<|Zs rfl U25 Tf.s3 rfl hw1 rfl hx1 (fun b1 o1 cs1 hr1 hcl1 hA1=>?_);obtain rfl:cs1=[.int .i64 _]:=hr1;refine Zf 0 rfl Tf.a3 rfl hA1 rfl<|Zh rfl<|L.n3<|Zi rfl Tf.f160_1 rfl<|Zf 1 rfl Tf.a3 rfl hB2 rfl<|Zi rfl Tf.f36_0 rfl<|Zf 0 rfl Tf.a3 rfl hB1 rfl<|fX rfl rfl rfl Yf rfl trivial<|Zt rfl (fun D2 hD2=>l7 _ _ _ _ _ Yd Yd) (fun v2 D2 hD2 hp2=>?_);have hw2:=hp2;refine aR rfl U25 rfl hw2 rfl rfl trivial<|Za rfl<|L.n1<|Zaj<|cE (γ:=Nat×Value×aC) (fun g=>(dV l.chair (-1) 0 (b.chairs-1)).length-g.1) (fun g=>g.1≤(dV l.chair (-1) 0 (b.chairs-1)).length∧bL 160 3 g.2.1 (YG b.chairs l k x g.1).length (wJ (YG b.chairs l k x g.1)) g.2.2) (fun g=>[(4,g.2.1),(26,.int .i64 (g.1:Int))]) [(25,_),(24,_),(23,_),(22,_),(21,_),(20,_),(19,_),(6,_),(18,_),(17,_),(16,_),(15,_),(14,_),(13,_),(3,_),(2,_)] (fun g=>g.2.2++[]) (fun g=>[D2,D1,E2,E1,D]) (0,v,ν) ⟨by simp,by rw[RK];exact ha1⟩ ⟨Yb,Yb,aOJ⟩ C.rs (LE _) (aD) ?_
  rintro⟨j,w,ν2⟩ ⟨h2,haJ⟩;simp only at h2 haJ;refine C.s1<|Zae rfl<|L.n2<|aE rfl (fun hc2=>?_) (fun hc2=>?_)
  ·simp only at hc2;have hlw2:=hw2.len;obtain⟨c,hx2⟩:∃x,(dV l.chair (-1) 0 (b.chairs-1))[j]?= some x:=⟨_,aJC Yd⟩
   refine C.kn<|aM<|Zaj<|C.s1<|Zs rfl U25 Tf.s3 rfl hw2 rfl hx2 (fun b2 o2 cs2 hr2 hcl2 hA2=>?_);obtain rfl:cs2=[.int .i64 _]:=hr2;refine Zf 0 rfl Tf.a3 rfl hA2 rfl<|Zh rfl<|L.n3<|Zi rfl Tf.f160_2 rfl<|Zf 2 rfl Tf.a3 rfl hB2 rfl<|Zi rfl Tf.f36_0 rfl<|Zf 0 rfl Tf.a3 rfl hB1 rfl<|fX rfl rfl rfl Yf rfl trivial<|Zt rfl (fun D3 hD3=>l7 _ _ _ _ _ Yd Yd) (fun v3 D3 hD3 hp3=>?_);have hw3:=hp3;refine aR rfl U25 rfl hw3 rfl rfl trivial<|Za rfl<|L.n1<|Zaj<|cE (γ:=Nat×Value×aC) (fun g=>(dV l.token (-1) 0 (b.chairs-1)).length-g.1) (fun g=>g.1≤(dV l.token (-1) 0 (b.chairs-1)).length∧bL 160 3 g.2.1 (QG b.chairs l k x j c g.1).length (wJ (QG b.chairs l k x j c g.1)) g.2.2) (fun g=>[(4,g.2.1),(37,.int .i64 (g.1:Int))]) [(36,_),(35,_),(34,_),(33,_),(32,_),(31,_),(30,_),(8,_),(29,_),(28,_),(27,_),(26,_),(25,_),(24,_),(23,_),(22,_),(21,_),(20,_),(19,_),(6,_),(18,_),(17,_),(16,_),(15,_),(14,_),(13,_),(3,_),(2,_)] (fun g=>g.2.2++[]) (fun g=>[D3,D2,D1,E2,E1,D]) (0,w,ν2) ⟨by simp,by rw[XR];exact haJ⟩ ⟨Yb,Yb,aOJ⟩ C.rs (LE _) (aD) ?_
   rintro⟨i,u,ν3⟩ ⟨h3,haI⟩;simp only at h3 haI;refine C.s1<|Zae rfl<|L.n2<|aE rfl (fun hc3=>?_) (fun hc3=>?_)
   ·simp only at hc3;have hlw3:=hw3.len;obtain⟨t,hx3⟩:∃x,(dV l.token (-1) 0 (b.chairs-1))[i]?= some x:=⟨_,aJC Yd⟩
    refine C.kn<|aM<|Zaj<|C.s1<|Zs rfl U25 Tf.s3 rfl hw3 rfl hx3 (fun b3 o3 cs3 hr3 hcl3 hA3=>?_);obtain rfl:cs3=[.int .i64 _]:=hr3;refine Zf 0 rfl Tf.a3 rfl hA3 rfl<|Zh rfl<|L.n1<|C.rg<|Za rfl<|Za rfl<|Za rfl<|Za rfl<|Zq [.int .i64 x,.int .i64 c,.int .i64 t] rfl Tf.p160 Tf.z160 rfl rfl<|Zp rfl U33 Tf.s160 Tf.z160 rfl rfl rfl rfl (.cons rfl rfl .nil) (fun b901 D901 hD901 hA901=>?_);have hli:=ZN (n:=b.chairs) (l:=l) (k:=k) (x:=x) (j:=j) (c:=c) (i:=i) Yd;refine aU (A:=[]) (B:=[]) rfl U33 rfl rfl Tf.s160 Tf.z160 rfl Tf.i160 rfl rfl rfl haI (jE.lit hA901) Ye rfl (BS _) Yi Yd (aJQ rfl) rfl aOJ (fun v7 ν7 ha7=>?_);have hn7:bL 160 3 v7 (QG b.chairs l k x j c (i+1)).length (wJ (QG b.chairs l k x j c (i+1))) ν7:=by rw[VG hx3];simpa [wJ]using ha7
    refine Zh rfl<|Zab<|Zal<|Zah<|C.rg<|Zy rfl<|Za rfl<|Zab ?_;exact aG 16 (i+1,v7,ν7) ⟨by simp only;omega,hn7⟩ Yl ⟨Yb,Yb,aOJ⟩ rfl rfl (LE _) (fun D h=>⟨D,LT _ (h),Le.refl D⟩)
   ·have hi:i=(dV l.token (-1) 0 (b.chairs-1)).length:=by simp only at hc3;omega
    rw[hi,aAX hx2]at haI;refine aQ<|Zak<|Zak<|Zan<|Zal<|Zah<|C.rg<|Zy rfl<|Za rfl<|Zab ?_;exact aG 17 (j+1,u,ν3) ⟨by simp only;omega,haI⟩ Yl ⟨Yb,Yb,aOJ⟩ rfl rfl (LE _) (fun D h=>⟨D,LT _ (h),Le.refl D⟩)
  ·have hj:j=(dV l.chair (-1) 0 (b.chairs-1)).length:=by simp only at hc2;omega
   rw[hj,aAN hx1]at haJ;refine aQ<|Zak<|Zak<|Zan<|Zal<|Zah<|C.rg<|Zy rfl<|Za rfl<|Zab ?_;exact aG 17 (k+1,w,ν2) ⟨by simp only;omega,haJ⟩ Yl ⟨Yb,Yb,aOJ⟩ rfl rfl (LE _) (fun D h=>⟨D,LT _ (h),Le.refl D⟩)
 ·have hk:k=(dV l.kind 0 1 2).length:=by simp only at hc1;omega
  rw[hk,IW]at ha1;refine aQ<|Zak<|Zak<|Zan<|Zah<|C.s1<|Za rfl<|Zh rfl<|L.n5<|eK (A:=[]) (B:=[]) ha1 rfl (fun D2 hD2 hF=>?_);exact leave1 rfl rfl rfl rfl (fun D hD=>(hF.lins rfl (by have:=FD (l:=l) hn.2;omega)).up oL.up (hD _ Ye))
end L3
end Go.Fs
namespace Go.Fs
open Go.Proofs
namespace L3
open L1
open C3
theorem aHY{b:aX}(h:((!C1.fR b.chairs 1 4|| !C1.fR b.coin 1 99)|| !C1.fR b.box 0 999)=false):1≤b.chairs∧b.chairs≤4:=by
 simp only[aMK,Bool.not_eq_false',C1.cG]at h;exact h.1.1
theorem aHI{b:aX}(h:((((!C1.fR b.chairs 1 4|| !C1.fR b.coin 1 99)|| !C1.fR b.box 0 999)|| !b.lines.all (rC b.chairs))|| !b.counts.all (mO b.lines.length))=false):pI b=true∧1≤b.chairs∧b.chairs≤4:=by
 simp only[aMK,Bool.not_eq_false']at h;obtain⟨⟨⟨⟨h1,h2⟩,h3⟩,h4⟩,h5⟩:=h;exact⟨by unfold pI;rw[h1,h2,h3,h4,h5];rfl,(C1.cG.1 h1)⟩
theorem GP{b:aX}(h:(decide ((8:Int)<b.lines.length)||decide ((4:Int)<b.counts.length))=false):¬(8<b.lines.length∨4<b.counts.length):=by
 simp only[aMK,aLY]at h;omega
theorem UK{b:aX}(h:(decide ((8:Int)<b.lines.length)||decide ((4:Int)<b.counts.length))=true):aT b=3:=by
 simp only[aKS,aJV]at h;unfold aT;rw[aJT Yd]
theorem aET{b:aX}(h:(decide ((8:Int)<b.lines.length)||decide ((4:Int)<b.counts.length))=false)(h2:((((!C1.fR b.chairs 1 4|| !C1.fR b.coin 1 99)|| !C1.fR b.box 0 999)|| !b.lines.all (rC b.chairs))|| !b.counts.all (mO b.lines.length))=true):aT b=1:=by
 unfold aT;rw[aJM (GP h),aJT]
 revert h2;unfold pI
 generalize C1.fR b.chairs 1 4=x,C1.fR b.coin 1 99=y,C1.fR b.box 0 999=z,b.lines.all (rC b.chairs)=u,b.counts.all (mO b.lines.length)=w;cases x<;>cases y<;>cases z<;>cases u<;>cases w<;>decide
theorem aBR{b:aX}(h:(decide ((8:Int)<b.lines.length)||decide ((4:Int)<b.counts.length))=false)(h2:pI b=true)(h3:vB b.chairs b.lines>4096):aT b=3:=by
 unfold aT;rw[aJM (GP h),aJM (by rw[h2];simp),aJT h3]
theorem ZM{b:aX}(h:(decide ((8:Int)<b.lines.length)||decide ((4:Int)<b.counts.length))=false)(h2:pI b=true)(h3:¬vB b.chairs b.lines>4096):aT b=0:=by
 unfold aT;rw[aJM (GP h),aJM (by rw[h2];simp),aJM h3]
theorem EY{n:Int}{ls:List fH}{i:Nat}{x:fH}(hx:ls[i]?= some x):vB n (ls.take (i+1))=min (vB n (ls.take i)*(cR n x).length) 4097:=by
 unfold vB;rw[aJP,hx,aLC,aLE];rfl
theorem UO(n:Int)(ls:List fH):0≤vB n ls∧vB n ls≤4097:=by
 unfold vB;have key:∀(l:List fH) (m:Int),0≤m∧m≤4097→0≤l.foldl (fun(m:Int) l=>min (m*((cR n l).length:Int)) 4097) m∧l.foldl (fun(m:Int) l=>min (m*((cR n l).length:Int)) 4097) m≤4097:=by
  intro l;induction l with
  |nil=>intro m h;exact h
  |cons x l ih=>
   intro m h;rw[aLK];refine ih _ ⟨?_,by omega⟩;have:0≤m*((cR n x).length:Int):=Int.mul_nonneg h.1 Yd;omega
 exact key ls 1 Yd
theorem aEI{m:Int}{k:Nat}(h:0≤m∧m≤4097)(hk:k≤32):qR .i64 (m*(k:Int)):=by
 have h1:0≤m*(k:Int):=Int.mul_nonneg h.1 Yd;have h2:m*(k:Int)≤4097*32:=Int.mul_le_mul h.2 Yd Yd Yd;simp only[qR];omega
theorem qZ(bv:Value)(b:aX)(D:aA)(hb:fW D bv b):Fn Tryz.prog 86 #[bv] D (fun _ v=>v=.int .i64 (aT b)):=by
 have hb0:=hb;obtain⟨lv,cv,rfl,hl,hc⟩:=hb;have hll:=hl.len;refine enter 72 Tryz.func86 rfl rfl rfl rfl fun h0=>C.s1<|Zw rfl (fun q1 E1 hE1 hB1=>Zh rfl<|L.n2<|C.drawA [] 1 6 28 (fun _ _ _ h=>cA (P:=Tryz.prog) (fn:=Tryz.f86) _ _ _ h)<|Zr rfl Tf.a36 rfl hB1 Tf.s36<|bB rfl rfl rfl rfl trivial<|Zr rfl Tf.a36 rfl hB1 Tf.s36<|bB rfl rfl rfl rfl trivial<|Zh rfl<|Zh rfl ?_);refine L.n2<|Zaj<|C.s1<|Zi rfl Tf.f36_3 rfl<|Zf 3 rfl Tf.a33 rfl hB1 rfl<|aR rfl U33 rfl hl rfl rfl trivial<|eB rfl rfl rfl rfl trivial<|Za rfl ?_
 refine' L.orK 5 (s:=17) (p:=22) rfl (fun hg1=>?_) (fun hg1=>?_) ?_;rotate_left
 ·refine Zj rfl Tf.f36_4 rfl<|Zg 4 rfl Tf.a34 rfl hB1 rfl<|aR rfl U34 rfl hc rfl rfl ⟨_,rfl,rfl⟩<|eB rfl rfl rfl rfl ⟨_,rfl,rfl⟩<|Zad rfl ?_;exact L.cu 4
 ·refine Zk rfl<|Zk rfl<|Zk rfl<|Zk rfl<|Zac rfl ?_;exact L.cu 4
 refine Zh rfl<|L.n1<|aJ rfl (fun hc1=>?_) (fun hc1=>?_)
 ·refine C.s1<|Zh rfl<|L.n5<|Zam<|Zai ?_;exact leave1 rfl rfl rfl rfl (fun D hD=>by show Value.int _ _=_;rw[UK hc1])
 ·refine C.s1<|Zi rfl Tf.f36_0 rfl<|Zf 0 rfl Tf.a3 rfl hB1 rfl<|Zd rfl (fun D1 hD1=>iE _ _ _ _)<|Zag rfl<|Za rfl ?_;refine' L.orK 5 (s:=28) (p:=33) rfl (fun hg2=>?_) (fun hg2=>?_) ?_;rotate_left
  ·refine Zj rfl Tf.f36_1 rfl<|Zg 1 rfl Tf.a3 rfl hB1 rfl<|Ze rfl (fun D2 hD2=>iE _ _ _ _)<|jU rfl rfl rfl ⟨_,rfl,rfl⟩<|Zad rfl ?_;exact L.cu 4
  ·refine Zk rfl<|Zk rfl<|Zk rfl<|Zk rfl<|Zac rfl ?_;exact L.cu 4
  refine Za rfl ?_;refine' L.orK 5 (s:=34) (p:=39) rfl (fun hg3=>?_) (fun hg3=>?_) ?_;rotate_left
  ·refine Zj rfl Tf.f36_2 rfl<|Zg 2 rfl Tf.a3 rfl hB1 rfl<|Ze rfl (fun D3 hD3=>iE _ _ _ _)<|jU rfl rfl rfl ⟨_,rfl,rfl⟩<|Zad rfl ?_;exact L.cu 4
  ·refine Zk rfl<|Zk rfl<|Zk rfl<|Zk rfl<|Zac rfl ?_;exact L.cu 4
  refine Za rfl ?_;refine' L.orK 6 (s:=40) (p:=46) rfl (fun hg4=>?_) (fun hg4=>?_) ?_;rotate_left
  ·have hch:=aHY hg4;refine Zj rfl Tf.f36_3 rfl<|Zg 3 rfl Tf.a33 rfl hB1 rfl<|Zb rfl<|Ze rfl (fun D4 hD4=>aCY _ _ _ (rC b.chairs) _ (Sl.at oL.up hD4 Yk Ye) ⟨_,[_],[],rfl,fun r D2 hl=>TW _ b r D2 (hb0.up ((hD4 _ Ye).trans hl)) Yd⟩ rfl)<|jU rfl rfl rfl ⟨_,rfl,rfl⟩<|Zad rfl ?_;exact L.cu 5
  ·refine Zk rfl<|Zk rfl<|Zk rfl<|Zk rfl<|Zk rfl<|Zac rfl ?_;exact L.cu 5
  refine Za rfl ?_;refine' L.orK 6 (s:=47) (p:=53) rfl (fun hg5=>?_) (fun hg5=>?_) ?_;rotate_left
  ·refine Zj rfl Tf.f36_4 rfl<|Zg 4 rfl Tf.a34 rfl hB1 rfl<|Zb rfl<|Ze rfl (fun D5 hD5=>HV _ _ _ (mO b.lines.length) _ (Sl.at qQ.up hD5 Yk Ye) ⟨_,[_],[],rfl,fun r D2 hl=>MO _ b r D2 (hb0.up ((hD5 _ Ye).trans hl))⟩ rfl)<|jU rfl rfl rfl ⟨_,rfl,rfl⟩<|Zad rfl ?_;exact L.cu 5
  ·refine Zk rfl<|Zk rfl<|Zk rfl<|Zk rfl<|Zk rfl<|Zac rfl ?_;exact L.cu 5
  refine Zh rfl<|L.n1<|aJ rfl (fun hc2=>?_) (fun hc2=>?_)
  ·refine C.s1<|Zh rfl<|L.n5<|Zam<|Zai ?_;exact leave1 rfl rfl rfl rfl (fun D hD=>by show Value.int _ _=_;rw[aET hc1 hc2])
  ·obtain⟨hok,hch4⟩:=aHI hc2;refine bQ<|Zal<|Zah<|C.s1<|Zh rfl<|L.n4<|Zi rfl Tf.f36_3 rfl<|Zf 3 rfl Tf.a33 rfl hB1 rfl<|aR rfl U33 rfl hl rfl rfl trivial<|Za rfl<|L.n1<|Zaj ?_;refine cJ (γ:=Nat) (fun i=>b.lines.length-i) (fun i=>i≤b.lines.length) (fun i=>[(57,.int .i64 (i:Int)),(5,.int .i64 (vB b.chairs (b.lines.take i)))]) [(56,_),(55,_),(2,_),(1,_)] (fun i=>[E1,D]) 0 Yd ⟨Yb,Yb,aOJ⟩ C.rs (aD) ?_;rintro i h1;refine C.s1<|Zae rfl<|L.n2<|aE rfl (fun hc3=>?_) (fun hc3=>?_)
   ·have hi:i<b.lines.length:=by omega
    obtain⟨x,hx⟩:=C.ge b.lines i;refine C.kn<|aM<|Zaj<|C.s1<|Zs rfl U33 Tf.s160 rfl hl rfl hx (fun b1 o1 cs1 hr1 hcl1 hA1=>?_);obtain rfl:cs1=[.int .i64 _,.int .i64 _,.int .i64 _]:=hr1;refine Zr rfl Tf.a160 rfl hA1 Tf.s160<|Zx rfl Tf.z160 rfl (fun q2=>Zv rfl Tf.s160 (bM.head)<|L.n1<|C.rg<|Za rfl<|Zr rfl Tf.a36 rfl hB1 Tf.s36<|Zu rfl Tf.a160 rfl (List.Mem.head _) Tf.s160<|Zt rfl (fun D6 hD6=>tE _ b x _ (hb0.up (hD6 _ Ye)) Yd) (fun v6 D6 hD6 hp6=>?_));have hr3:=hp6;have hrl:=FD (l:=x) (n:=b.chairs) Yd;have hmk:=UO b.chairs (b.lines.take i);refine aR rfl U33 rfl hr3 rfl rfl trivial<|Q9 rfl rfl rfl (aEI hmk hrl) rfl trivial<|Zp rfl U25 Tf.s3 Tf.z3 rfl rfl rfl rfl (.cons rfl rfl (.cons rfl rfl .nil)) (fun b901 D901 hD901 hA901=>?_);have hS901:=Sl.ofInts (l:=[_,_]) (n:=2) (cap:=2) hA901 rfl Yd Yd;refine Zd rfl (fun D7 hD7=>tA _ _ [4097] _ (hS901.up RI.up (hD7 _ Ye)))<|Zh rfl<|Zab<|Zal<|Zah<|C.rg<|Zy rfl<|Za rfl<|Zab ?_;exact aG 17 (i+1) Yd Yd ⟨Yb,(by rw[EY hx];rfl),aOJ⟩ rfl rfl (List.Sublist.cons _ (LE _)) (fun D h=>⟨D,LT _ (LT _ (h)),Le.refl D⟩)
   ·obtain rfl:i=b.lines.length:=by omega
    rw[aKN];refine aQ<|Zak<|Zak<|Zan<|Zah<|C.s2<|Za rfl<|eB rfl rfl rfl rfl trivial<|L.n1<|aE rfl (fun hc4=>?_) (fun hc4=>?_)
    ·refine C.s1<|Zh rfl<|L.n5<|Zai ?_;exact leave1 rfl rfl rfl rfl (fun D hD=>by show Value.int _ _=_;rw[aBR hc1 hok hc4])
    ·refine C.kn<|C.s1<|Zh rfl<|L.n5 ?_;exact leave1 rfl rfl rfl rfl (fun D hD=>by show Value.int _ _=_;rw[ZM hc1 hok hc4])
end L3
end Go.Fs
namespace Go.Fs
open Go.Proofs
namespace L3
open L1
section
variable{P:Program}{X:Cx}{γb:Type}[Membership Nat γb]{bad:γb}{all:Array Oper}{K:Act→World→Prop}{Q:Exit→Act→World→Prop}
variable{σ:bS}{μ:aC}{Ds:List aA}{os:List (Bool×Nat)}{fl:Bool}{ix:Nat}
variable{d:Nat}{x y z:Operand}{u v:Value}{ty:TypeId}{pos:String}{aft:Array Edge}{g:Option (Nat×Bool)}
theorem nM{t:TypeId}{b k:Nat}{l:List Int}{n:Int}{e:TypeId}{μ':aC}(ho:all[ix]?= some ⟨none,.store t x y,ty,pos,aft,g⟩)(hs:TS P t 1)(hx:ev σ x=some (.pointer (some ⟨b,k,none⟩)))(hy:ev σ y=some (.int .i64 n))
  (hm:bM μ b (.cells (ints l).toArray e (0,0)) (.cells (ints (l.set k n)).toArray e (0,0)) μ') (hl:k<l.length) (hfl:fl=false∨b∈bad) (hg:cT all σ g)
  (kk:WL P X bad all K Q os σ μ' Ds):WL P X bad all K Q ((fl,ix)::os) σ μ Ds:=by
 have hil:(ints l).length=l.length:=aH l;refine nT (off:=k) (us:=[.int .i64 n]) (vs:=ints l) (ws:=ints (l.set k n)) ho hx hy rfl hs hm (by simp[hil];omega) ?_ (fun u hu=>by simp at hu;subst hu;rfl) hfl hg kk
 rw[show ints (l.set k n)=(ints l).set k (.int .i64 n) by simp[ints,List.map_set],List.set_eq_take_append_cons_drop,aJT (by rw[hil];exact hl)];simp
end
open C3
theorem pJ{q a b:Nat}(h:a=b):some (Value.pointer (some ⟨q,a,none⟩))=some (Value.pointer (some ⟨q,b,none⟩)):=by rw[h]
theorem tW{s:Sc}(h4:s.ch.length=4)(h5:s.tk.length=4):(lL s).length=10:=by unfold lL;simp[h4,h5]
theorem aDK{s:Sc}(h4:s.ch.length=4){c:Int}(hc:0≤c∧c<4):(ints (lL s))[0+c.toNat*1]?= some (.int .i64 (jS s.ch c)):=by
 rw[aMC,aLV];refine cD ?_;unfold lL jS;rw[aJL,aMA Yd,aKX,aJC Yd];rfl
theorem aDN{s:Sc}(h4:s.ch.length=4)(h5:s.tk.length=4){c:Int}(hc:0≤c∧c<4):(ints (lL s))[0+4+c.toNat*1]?= some (.int .i64 (jS s.tk c)):=by
 rw[aLV];refine cD ?_;unfold lL jS;rw[aJL,aNK Yd,aMA Yd,aKX,show 0+4+c.toNat-s.ch.length=c.toNat by omega,aJC Yd];rfl
theorem j3{l:List Int}(h:l.length=4):∃a b c d,l=[a,b,c,d]:=by
 match l,h with
 | [a,b,c,d],_=>exact⟨a,b,c,d,rfl⟩
theorem sK{s:Sc}(h4:s.ch.length=4)(h5:s.tk.length=4):(lL s)[8]?= some s.money:=by
 obtain⟨a,b,c,d,e⟩:=j3 h4;obtain⟨a',b',c',d',e'⟩:=j3 h5;unfold lL;rw[e,e'];rfl
theorem DM{s:Sc}(h4:s.ch.length=4)(h5:s.tk.length=4):(lL s)[9]?= some s.mixed:=by
 obtain⟨a,b,c,d,e⟩:=j3 h4;obtain⟨a',b',c',d',e'⟩:=j3 h5;unfold lL;rw[e,e'];rfl
theorem JN{s:Sc}(h4:s.ch.length=4)(h5:s.tk.length=4){c t:Int}(hc:0≤c∧c<4)(ht:0≤t∧t<4)(x y m:Int):
  (((lL s).set c.toNat x).set (4+t.toNat) y).set 8 m=lL ⟨s.ch.set c.toNat x,s.tk.set t.toNat y,m,s.mixed⟩∧∀z,((((lL s).set 9 z).set c.toNat x).set (4+t.toNat) y).set 8 m=lL ⟨s.ch.set c.toNat x,s.tk.set t.toNat y,m,z⟩:=by
 obtain⟨a,b,c',d,e⟩:=j3 h4;obtain⟨a',b',c'',d',e'⟩:=j3 h5;unfold lL;rw[e,e'];have hc':c.toNat=0∨c.toNat=1∨c.toNat=2∨c.toNat=3:=by omega
 have ht':t.toNat=0∨t.toNat=1∨t.toNat=2∨t.toNat=3:=by omega
 rcases hc' with h|h|h|h<;>rcases ht' with h'|h'|h'|h'<;>rw[h,h']<;>exact⟨rfl,fun _=>rfl⟩
theorem aGC{s:Sc}{l:fH}(h:((!(decide (jS s.ch l.chair≠0)==decide (l.kind=2)))||(!(decide (jS s.tk l.token≠0)==decide (l.kind=2))))=true):iI s l=false:=by
 unfold iI
 revert h
 generalize decide (jS s.ch l.chair≠0)=a,decide (jS s.tk l.token≠0)=c,decide (l.kind=2)=e;cases a<;>cases c<;>cases e<;>decide
theorem ZG{s:Sc}{l:fH}(h:((!(decide (jS s.ch l.chair≠0)==decide (l.kind=2)))||(!(decide (jS s.tk l.token≠0)==decide (l.kind=2))))=false):iI s l=true:=by
 unfold iI
 revert h
 generalize decide (jS s.ch l.chair≠0)=a,decide (jS s.tk l.token≠0)=c,decide (l.kind=2)=e;cases a<;>cases c<;>cases e<;>decide
theorem aFN{b:aX}{s:Sc}{i:Int}{l:fH}(h:iI s l=false):Value.tuple #[.agg (ints (lL s)).toArray,.bool false]=.tuple #[FQ (if iI s l=true then dQ b s i l else s),.bool (iI s l)]:=by rw[h];rfl
theorem j5{b:aX}{s:Sc}{i:Int}{l:fH}{L:List Int}(h:iI s l=true)(hL:L=lL (dQ b s i l)):Value.tuple #[.agg (ints L).toArray,.bool true]=.tuple #[FQ (if iI s l=true then dQ b s i l else s),.bool (iI s l)]:=by rw[h,hL];rfl
theorem Z9{b:aX}{s:Sc}{i:Int}{l:fH}{L:List Int}(h4:s.ch.length=4)(h5:s.tk.length=4)(hc:0≤l.chair∧l.chair<4)(ht:0≤l.token∧l.token<4)(hk:l.kind=2)
  (h:(jS s.ch l.chair≠jS s.tk l.token∧L=(lL s).set 9 (s.mixed+1))∨(jS s.ch l.chair=jS s.tk l.token∧L=lL s)):((L.set l.chair.toNat 0).set (4+l.token.toNat) 0).set 8 (s.money-b.coin)=lL (dQ b s i l):=by
 obtain⟨g1,g2⟩:=JN h4 h5 hc ht 0 0 (s.money-b.coin);unfold dQ;rw[aJT hk];rcases h with⟨e,rfl⟩|⟨e,rfl⟩
 ·rw[g2,aJT e]
 ·rw[g1,aJM (by rw[e];simp)]
theorem RF{b:aX}{s:Sc}{i:Int}{l:fH}(h4:s.ch.length=4)(h5:s.tk.length=4)(hc:0≤l.chair∧l.chair<4)(ht:0≤l.token∧l.token<4)(hk:l.kind≠2):
  (((lL s).set l.chair.toNat (i+1)).set (4+l.token.toNat) (i+1)).set 8 (s.money+b.coin)=lL (dQ b s i l):=by
 rw[(JN h4 h5 hc ht (i+1) (i+1) (s.money+b.coin)).1];unfold dQ;rw[aJM hk]
theorem G4(bv:Value)(b:aX)(s:Sc)(i:Int)(l:fH)(D:aA)(hb:fW D bv b)(h4:s.ch.length=4)(h5:s.tk.length=4)(hc:0≤l.chair∧l.chair<4)(ht:0≤l.token∧l.token<4)(hi:0≤i∧i≤100)(hm: -100000≤s.money∧s.money≤100000)(hx:0≤s.mixed∧s.mixed≤1000)(hn:0≤b.coin∧b.coin≤99):
  Fn Tryz.prog 233 #[bv,FQ s,.int .i64 i,AD l] D (fun _ v=>v=.tuple #[FQ (if iI s l=true then dQ b s i l else s),.bool (iI s l)]):=by
 obtain⟨lv,cv,rfl,hl,hcn⟩:=hb;have hs10:=tW h4 h5;refine enter 83 Tryz.func233 rfl rfl rfl rfl fun h0=>C.s1<|Zw rfl (fun q1 E1 hE1 hB1=>Y7 rfl (e:=207) rfl rfl rfl aOJ (fun q2=>Zw rfl (fun q3 E3 hE3 hB3=>Zx rfl Tf.z207 rfl (fun q4=>Zh rfl<|L.n3<|Zi rfl Tf.f160_0 rfl<|Zf 0 rfl Tf.a3 rfl hB3 rfl<|dJ rfl rfl rfl rfl trivial<|Zh rfl ?_))));refine L.n4<|Zi rfl Tf.f160_1 rfl<|Zf 1 rfl Tf.a3 rfl hB3 rfl<|Zi rfl Tf.f207_0 rfl<|dT rfl U205 Tf.s3 rfl rfl Yd Yd rfl trivial<|aS (v:=.int .i64 (jS s.ch l.chair)) rfl Tf.a3 rfl (LT _ (GE _)) (aDK h4 hc) GT rfl trivial<|dZ rfl rfl rfl rfl trivial<|Za rfl<|i7 rfl U4 rfl rfl rfl trivial<|Za rfl ?_
 refine' L.orK 9 (s:=22) (p:=31) rfl (fun hg1=>?_) (fun hg1=>?_) ?_;rotate_left
 ·refine Zj rfl Tf.f160_2 rfl<|Zg 2 rfl Tf.a3 rfl hB3 rfl<|Zj rfl Tf.f207_1 rfl<|dT rfl U205 Tf.s3 rfl rfl Yd Yd rfl ⟨_,rfl,rfl⟩<|aS (v:=.int .i64 (jS s.tk l.token)) rfl Tf.a3 rfl (LT _ (GE _)) (aDN h4 h5 ht) GT rfl ⟨_,rfl,rfl⟩<|dZ rfl rfl rfl rfl ⟨_,rfl,rfl⟩<|Zb rfl<|i7 rfl U4 rfl rfl rfl ⟨_,rfl,rfl⟩<|Zad rfl ?_;exact L.cu 8
 ·refine Zk rfl<|Zk rfl<|Zk rfl<|Zk rfl<|Zk rfl<|Zk rfl<|Zk rfl<|Zk rfl<|Zac rfl ?_;exact L.cu 8
 refine L.n1<|aJ rfl (fun hc1=>?_) (fun hc1=>?_)
 ·refine C.s1<|bJ (e:=207) (fz:=(0,0)) rfl Tf.a207 rfl (LT _ (GE _)) (by rw[show(ints _).length=10 by simp[hs10]];exact Tf.s207) GT rfl trivial<|aW rfl rfl rfl rfl Tf.s207 (by simp[hs10]) (by rfl) .head (cY _) trivial<|Zh rfl<|L.n5<|Zai ?_;exact Zm [_,_] rfl ⟨⟨_,_,_,rfl,(List.Mem.head _),Or.inr ⟨Tf.a207,(by rw[show(ints _).toArray.size=10 by simp[hs10]];exact Tf.s207),rfl⟩⟩,rfl,aOJ⟩ (fun D hD=>aFN (aGC hc1))
 ·have hcan:iI s l=true:=ZG hc1;refine C.kn<|C.s2<|Za rfl<|L.n1<|aE rfl (fun hc2=>?_) (fun hc2=>?_)
  ·have hk2:l.kind=2:=by simpa using hc2
   refine aM<|aM<|C.drawA [] 4 11 996 (fun _ _ _ h=>cA (P:=Tryz.prog) (fn:=Tryz.f233) _ _ _ h)<|Zi rfl Tf.f160_1 rfl<|Zf 1 rfl Tf.a3 rfl hB3 rfl<|Zi rfl Tf.f207_0 rfl<|dT rfl U205 Tf.s3 rfl rfl Yd Yd rfl trivial<|aS (v:=.int .i64 (jS s.ch l.chair)) rfl Tf.a3 rfl (LT _ (GE _)) (aDK h4 hc) GT rfl trivial<|Zi rfl Tf.f160_2 rfl<|Zf 2 rfl Tf.a3 rfl hB3 rfl<|Zi rfl Tf.f207_1 rfl<|dT rfl U205 Tf.s3 rfl rfl Yd Yd rfl aOJ ?_;refine aS (v:=.int .i64 (jS s.tk l.token)) rfl Tf.a3 rfl (LT _ (GE _)) (aDN h4 h5 ht) GT rfl trivial<|dZ rfl rfl rfl rfl trivial<|L.n1<|aE rfl (fun hc3=>?_) (fun hc3=>?_)
   ·refine C.rg<|Zi rfl Tf.f207_3 rfl<|aS (v:=.int .i64 s.mixed) rfl Tf.a3 rfl (LT _ (GE _)) (cD (DM h4 h5)) GT rfl trivial<|Zy rfl<|Zi rfl Tf.f207_3 rfl<|pZ (k:=9) rfl Tf.s3 rfl rfl (.tail bM.head) Yu trivial<|L.n2<|iW (dO.mk [q3]) 2 [0,1,2,3,4,5,7,6,8,9] [false,false,true,true,true,true,true,true,false,false] [(false,0),(false,1),(true,2),(true,3),(true,4),(true,5),(true,7),(true,6),(false,8),(false,9)] Tf.follows (fun _ _ _ h=>cA (P:=Tryz.prog) (fn:=Tryz.f233) _ _ _ h) Yg rfl<|Zi rfl Tf.f160_1 rfl<|bC rfl (k:=1) Tf.a3 rfl hB3 Yc rfl (dO.out Ye) rfl trivial<|Zi rfl Tf.f160_2 rfl<|bC rfl (k:=2) Tf.a3 rfl hB3 Yc rfl (dO.out Ye) rfl aOJ ?_;refine Zi rfl Tf.f207_0 rfl<|dT rfl U205 Tf.s3 rfl rfl Yd Yd rfl trivial<|Zi rfl Tf.f207_1 rfl<|bR hB3 Ye (fun hap=>nM (k:=l.chair.toNat) rfl Tf.s3 (pJ Yd) rfl (.tail bM.head) Yu (aJE (dO.in_ Yt)) trivial<|dT rfl U205 Tf.s3 rfl rfl Yd Yd rfl trivial<|bR hB3 Ye (fun hap=>nM (k:=4+l.token.toNat) rfl Tf.s3 (pJ Yd) rfl (.tail bM.head) Yu (aJE (dO.in_ Yt)) trivial<|L.n3<|Zi rfl Tf.f207_2 rfl<|aS (v:=.int .i64 s.money) rfl Tf.a3 rfl (LT _ (GE _)) (cD Yaa) GT rfl trivial<|Zi rfl Tf.f36_1 rfl ?_));refine Zf 1 rfl Tf.a3 rfl hB1 rfl<|fX rfl rfl rfl Yf rfl trivial<|Zi rfl Tf.f207_2 rfl<|pZ (k:=8) rfl Tf.s3 rfl rfl (.tail bM.head) Yu trivial<|L.n3<|bJ (e:=207) (fz:=(0,0)) rfl Tf.a207 rfl (LT _ (GE _)) (by rw[show(ints _).length=10 by simp[hs10]];exact Tf.s207) GT rfl trivial<|aW rfl rfl rfl rfl Tf.s207 (by simp[hs10]) (by rfl) .head (cY _) trivial<|Zh rfl<|L.n5<|Zai ?_
    exact Zm [_,_] rfl ⟨⟨_,_,_,rfl,(GE _),aJE ⟨Tf.a207,(by rw[show(ints _).toArray.size=10 by simp[hs10]];exact Tf.s207),rfl⟩⟩,rfl,aOJ⟩ (fun D hD=>j5 hcan (Z9 h4 h5 hc ht hk2 (aJQ ⟨by simpa using hc3,rfl⟩)))
   ·refine C.kn<|aM<|iW (dO.mk [q3]) 2 [0,1,2,3,4,5,7,6,8,9] [false,false,true,true,true,true,true,true,false,false] [(false,0),(false,1),(true,2),(true,3),(true,4),(true,5),(true,7),(true,6),(false,8),(false,9)] Tf.follows (fun _ _ _ h=>cA (P:=Tryz.prog) (fn:=Tryz.f233) _ _ _ h) Yg rfl<|Zi rfl Tf.f160_1 rfl<|bC rfl (k:=1) Tf.a3 rfl hB3 Yc rfl (dO.out Ye) rfl trivial<|Zi rfl Tf.f160_2 rfl<|bC rfl (k:=2) Tf.a3 rfl hB3 Yc rfl (dO.out Ye) rfl trivial<|Zi rfl Tf.f207_0 rfl<|dT rfl U205 Tf.s3 rfl rfl Yd Yd rfl trivial<|Zi rfl Tf.f207_1 rfl<|bR hB3 Ye (fun hap=>nM (k:=l.chair.toNat) rfl Tf.s3 (pJ Yd) rfl (.tail bM.head) Yu (aJE (dO.in_ Yt)) aOJ ?_);refine dT rfl U205 Tf.s3 rfl rfl Yd Yd rfl trivial<|bR hB3 Ye (fun hap=>nM (k:=4+l.token.toNat) rfl Tf.s3 (pJ Yd) rfl (.tail bM.head) Yu (aJE (dO.in_ Yt)) trivial<|L.n3<|Zi rfl Tf.f207_2 rfl<|aS (v:=.int .i64 s.money) rfl Tf.a3 rfl (LT _ (GE _)) (cD Yaa) GT rfl trivial<|Zi rfl Tf.f36_1 rfl<|Zf 1 rfl Tf.a3 rfl hB1 rfl<|fX rfl rfl rfl Yf rfl trivial<|Zi rfl Tf.f207_2 rfl<|pZ (k:=8) rfl Tf.s3 rfl rfl (.tail bM.head) Yu trivial<|L.n3 ?_);refine bJ (e:=207) (fz:=(0,0)) rfl Tf.a207 rfl (LT _ (GE _)) (by rw[show(ints _).length=10 by simp[hs10]];exact Tf.s207) GT rfl trivial<|aW rfl rfl rfl rfl Tf.s207 (by simp[hs10]) (by rfl) .head (cY _) trivial<|Zh rfl<|L.n5<|Zai ?_
    exact Zm [_,_] rfl ⟨⟨_,_,_,rfl,(GE _),aJE ⟨Tf.a207,(by rw[show(ints _).toArray.size=10 by simp[hs10]];exact Tf.s207),rfl⟩⟩,rfl,aOJ⟩ (fun D hD=>j5 hcan (Z9 h4 h5 hc ht hk2 (aJE ⟨by simpa using hc3,rfl⟩)))
  ·have hk2:l.kind≠2:=by simpa using hc2
   refine C.kn<|aM<|iW (dO.mk [q3]) 2 [0,1,2,3,4,5,6,7,8,9,11,10,12,13] [false,false,true,true,true,true,true,true,true,true,true,true,false,false] [(false,0),(false,1),(true,2),(true,3),(true,4),(true,5),(true,6),(true,7),(true,8),(true,9),(true,11),(true,10),(false,12),(false,13)] Tf.follows (fun _ _ _ h=>cA (P:=Tryz.prog) (fn:=Tryz.f233) _ _ _ h) Yg rfl<|Zi rfl Tf.f160_1 rfl<|bC rfl (k:=1) Tf.a3 rfl hB3 Yc rfl (dO.out Ye) rfl trivial<|Zi rfl Tf.f160_2 rfl<|bC rfl (k:=2) Tf.a3 rfl hB3 Yc rfl (dO.out Ye) rfl trivial<|Za rfl<|Zy rfl<|Za rfl<|Zy rfl<|Zi rfl Tf.f207_0 rfl ?_;refine dT rfl U205 Tf.s3 rfl rfl Yd Yd rfl trivial<|Zi rfl Tf.f207_1 rfl<|bR hB3 Ye (fun hap=>nM (k:=l.chair.toNat) rfl Tf.s3 (pJ Yd) rfl (.tail bM.head) Yu (aJE (dO.in_ Yt)) trivial<|dT rfl U205 Tf.s3 rfl rfl Yd Yd rfl trivial<|bR hB3 Ye (fun hap=>nM (k:=4+l.token.toNat) rfl Tf.s3 (pJ Yd) rfl (.tail bM.head) Yu (aJE (dO.in_ Yt)) trivial<|L.n3<|Zi rfl Tf.f207_2 rfl<|aS (v:=.int .i64 s.money) rfl Tf.a3 rfl (LT _ (GE _)) (cD Yaa) GT rfl trivial<|Zi rfl Tf.f36_1 rfl<|Zf 1 rfl Tf.a3 rfl hB1 rfl ?_));refine Zy rfl<|Zi rfl Tf.f207_2 rfl<|pZ (k:=8) rfl Tf.s3 rfl rfl (.tail bM.head) Yu trivial<|L.n3<|bJ (e:=207) (fz:=(0,0)) rfl Tf.a207 rfl (LT _ (GE _)) (by rw[show(ints _).length=10 by simp[hs10]];exact Tf.s207) GT rfl trivial<|aW rfl rfl rfl rfl Tf.s207 (by simp[hs10]) (by rfl) .head (cY _) trivial<|Zh rfl<|L.n5 ?_
   exact Zm [_,_] rfl ⟨⟨_,_,_,rfl,(GE _),aJE ⟨Tf.a207,(by rw[show(ints _).toArray.size=10 by simp[hs10]];exact Tf.s207),rfl⟩⟩,rfl,aOJ⟩ (fun D hD=>j5 hcan (RF h4 h5 hc ht hk2))
end L3
end Go.Fs
namespace Go.Fs
open Go.Proofs
namespace L3
open L1
open C3
theorem CL(c:Cn)(ba bs:Nat)(a:Int)(s:Sc)(D:aA)(h4:s.ch.length=4)(h5:s.tk.length=4)(hA:At D ba 0 [.int .i64 a])(hS:At D bs 0 (ints (lL s))):
  Fn Tryz.prog 280 #[aFB c,.pointer (some ⟨ba,0,none⟩),.pointer (some ⟨bs,0,none⟩)] D (fun _ v=>v=.bool (decide (c.after≠a)||C1.fR s.money c.lo c.hi)):=by
 refine enter 16 Tryz.func280 rfl rfl rfl rfl fun h0=>C.s1<|Zw rfl (fun q1 E1 hE1 hB1=>Zh rfl<|L.n3<|Zi rfl Tf.f162_0 rfl<|Zf 0 rfl Tf.a3 rfl hB1 rfl<|Zf 0 rfl Tf.a3 rfl hA rfl<|dZ rfl rfl rfl rfl trivial<|Za rfl ?_)
 refine' L.orK 6 (s:=9) (p:=15) rfl (fun hg1=>?_) (fun hg1=>?_) ?_;rotate_left
 ·refine Zj rfl Tf.f162_1 rfl<|eV rfl (k:=1) Tf.a65 Tf.s65 rfl hB1 Yc rfl rfl GT rfl ⟨_,rfl,rfl⟩<|Zj rfl Tf.f207_2 rfl<|bC (v:=.int .i64 s.money) rfl (k:=8) Tf.a3 rfl hS Yc (cD (sK h4 h5)) GT rfl ⟨_,rfl,rfl⟩<|Ze rfl (fun D1 hD1=>ZF (c.lo,c.hi) _ _)<|Zad rfl ?_;exact L.cu 5
 ·refine Zk rfl<|Zk rfl<|Zk rfl<|Zk rfl<|Zk rfl<|Zac rfl ?_;exact L.cu 5
 refine Zh rfl<|L.n5 ?_;exact leave1 rfl rfl rfl rfl (fun D hD=>rfl)
theorem O1(bv:Value)(b:aX)(s:Sc)(a:Int)(D:aA)(hb:fW D bv b)(h4:s.ch.length=4)(h5:s.tk.length=4):Fn Tryz.prog 231 #[bv,FQ s,.int .i64 a] D (fun _ v=>v=.bool (eT b s a)):=by
 obtain⟨lv,cv,rfl,hl,hc⟩:=hb;refine enter 11 Tryz.func231 rfl rfl rfl rfl fun h0=>C.s1<|Zw rfl (fun q1 E1 hE1 hB1=>Zw rfl (fun q2 E2 hE2 hB2=>Zw rfl (fun q3 E3 hE3 hB3=>Zh rfl<|L.n3<|Zi rfl Tf.f36_4 rfl<|Zf 4 rfl Tf.a34 rfl hB1 rfl<|bB rfl rfl rfl rfl trivial<|Zd rfl (fun D1 hD1=>HV _ _ _ (fun c=>decide (c.after≠a)||C1.fR s.money c.lo c.hi) _ (Sl.at qQ.up hD1 Yk Ye) ⟨_,[],[_,_],rfl,fun c D2 hl=>CL c _ _ a s D2 h4 h5 (hB3.up ((hD1 _ Ye).trans hl)) (hB2.up ((hD1 _ Ye).trans hl))⟩ rfl)<|Zh rfl ?_)));refine L.n5 ?_
 exact leave1 rfl rfl rfl rfl (fun D hD=>rfl)
theorem pM(bv:Value)(b:aX)(D:aA)(hb:fW D bv b):Fn Tryz.prog 153 #[bv] D (fun _ v=>v=FQ (eF b)):=by
 obtain⟨lv,cv,rfl,hl,hc⟩:=hb;refine enter 6 Tryz.func153 rfl rfl rfl rfl fun h0=>C.s1<|Zw rfl (fun q1 E1 hE1 hB1=>Zx rfl Tf.z207 rfl (fun q2=>L.n3<|Zi rfl Tf.f36_2 rfl<|Zf 2 rfl Tf.a3 rfl hB1 rfl<|Zq [.int .i64 0,.int .i64 0,.int .i64 0,.int .i64 0,.int .i64 0,.int .i64 0,.int .i64 0,.int .i64 0,.int .i64 b.box,.int .i64 0] rfl Tf.p207 Tf.z207 rfl rfl<|Zv rfl Tf.s207 (bM.head)<|L.n5 ?_))
 exact Zm [_] rfl ⟨⟨_,_,_,rfl,(GE _),aJE ⟨Tf.a207,(by first|exact Tf.s207|(simp only[aKH,aH, *];exact Tf.s207)),rfl⟩⟩,aOJ⟩ (fun D hD=>rfl)
end L3
end Go.Fs
namespace Go.Fs
open Go.Proofs
namespace L3
open L1
open C3
structure MZ(b:aX):Prop where
 ch:1≤b.chairs∧b.chairs≤4
 co:1≤b.coin∧b.coin≤99
 bx:0≤b.box∧b.box≤999
 l8:b.lines.length≤8
 c4:b.counts.length≤4
 ln:∀l∈b.lines,rC b.chairs l=true
theorem aHD{b:aX}(h:aT b=0):MZ b:=by
 unfold aT at h;split at h
 ·omega
 ·rename_i h1;split at h
  ·omega
  ·rename_i h2;have h3:pI b=true:=by simpa using h2
   unfold pI at h3;simp only[aJI,C1.cG,aJW]at h3;exact⟨h3.1.1.1.1,h3.1.1.1.2,h3.1.1.2,by omega,by omega,h3.1.2⟩
def bO(l:List Sc):List Value:=l.flatMap fun s=>ints (lL s)
structure aHU(b:aX)(s:Sc)(k:Nat):Prop where
 lc:s.ch.length=4
 lt:s.tk.length=4
 mo:b.box-99*(k:Int)≤s.money∧s.money≤b.box+99*(k:Int)
 mi:0≤s.mixed∧s.mixed≤k
theorem VU{b:aX}(hb:MZ b){s:Sc}{k:Nat}(h:aHU b s k)(l:fH)(i:Int):aHU b (dQ b s i l) (k+1):=by
 have:=hb.co;have:=h.mo;have:=h.mi;unfold dQ;split
 ·refine⟨by simp[h.lc],by simp[h.lt],?_,?_⟩
  ·simp only;push_cast;omega
  ·simp only;split<;>push_cast<;>omega
 ·refine⟨by simp[h.lc],by simp[h.lt],?_,?_⟩
  ·simp only;push_cast;omega
  ·simp only;push_cast;omega
theorem vJ{l:List Sc}(h:∀s∈l,(lL s).length=10){i:Nat}{s:Sc}(hi:l[i]?= some s):((bO l).drop (i*10)).take 10=ints (lL s):=by
 induction l generalizing i with
 |nil=>simp at hi
 |cons u l ih=>
  have hu:(ints (lL u)).length=10:=by rw[aH,h u aJH]
  have e:bO (u::l)=ints (lL u)++bO l:=rfl;rw[e];cases i with
  |zero=>
   obtain rfl:u=s:=by simpa using hi
   rw[aNF,aMS,aKM Yd,aKC Yd]
  |succ i=>
   rw[aMY,aKK Yd,aKF,hu,show(i+1)*10-10=i*10 by omega];exact ih (fun t ht=>h t (aJB _ ht)) Yaj
end L3
end Go.Fs
namespace Go.Fs
open Go.Proofs
namespace L3
open L1
open C3
end L3
end Go.Fs
namespace Go.Fs
open Go.Proofs
namespace L3
open L1
open C3
def QL(l:List Int)(k:Nat):List Int:=(List.range 4).map fun j=>if j<k then min (l.getD j 0) 1 else 0
theorem SP{l:List Int}{k:Nat}{x:Int}(hx:l[k]?= some x):(QL l k).set k (min x 1)=QL l (k+1):=by
 apply aOE;intro i;unfold QL;rw[List.getElem?_set,aKA,aKA];simp only[aLA,List.length_range];by_cases hi:i<4
 ·rw[aNW hi];simp only[aKJ];by_cases e:k=i
  ·subst e;rw[aJT rfl,aJT hi,aJT Yd,aKX,hx];rfl
  ·rw[aJM e];by_cases h:i<k
   ·rw[aJT h,aJT Yd]
   ·rw[aJM h,aJM Yd]
 ·rw[aMG Yaj];by_cases e:k=i
  ·subst e;rw[aJT rfl,aJM hi];rfl
  ·rw[aJM e];rfl
theorem ZX{l:List Int}(h:l.length=4):QL l 4=rX l:=by
 obtain⟨a,b,c,d,rfl⟩:=j3 h;rfl
theorem P9(l:List Int)(D:aA)(h4:l.length=4):Fn Tryz.prog 232 #[.agg (ints l).toArray] D (fun _ v=>v=.agg (ints (rX l)).toArray):=by
 refine enter 17 Tryz.func232 rfl rfl rfl rfl fun h0=>C.s1<|Zw rfl (fun q1 E1 hE1 hB1=>Zx rfl Tf.z205 rfl (fun q2=>L.n4<|cQ rfl Tf.a205 rfl hB1 Yj (by rw[show(ints _).length=4 by simp[h4]];exact Tf.s205) GT rfl trivial<|Za rfl<|L.n1<|Zaj<|cE (γ:=Nat) (fun k=>4-k) (fun k=>k≤4) (fun k=>[(6,.int .i64 (k:Int))]) [(5,_),(2,_)] (fun k=>[(q2,.cells (ints (QL l k)).toArray 205 (0,0))]) (fun k=>[E1,D]) 0 Yd ⟨Yb,aOJ⟩ C.rs (LE _) (aD) ?_))
 rintro k h1;refine C.s1<|Zae rfl<|L.n2<|aE rfl (fun hc1=>?_) (fun hc1=>?_)
 ·have hk:k<4:=by omega
  obtain⟨x,hx0⟩:=C.ge l k;have hx:l[((k:Nat):Int).toNat]?= some x:=by simpa using hx0
  have hstep:=SP hx0;refine C.kn<|aM<|Zaj<|C.s1<|Za rfl<|I9 (l:=l) rfl U205 Tf.a3 Tf.s3 rfl rfl Yd Yd hx rfl trivial<|Zh rfl<|Zh rfl<|L.n1<|C.rg<|Za rfl<|Za rfl ?_;refine Zp rfl U25 Tf.s3 Tf.z3 rfl rfl rfl rfl (.cons rfl rfl (.cons rfl rfl .nil)) (fun b901 D901 hD901 hA901=>?_);have hS901:=Sl.ofInts (l:=[_,_]) (n:=2) (cap:=2) hA901 rfl Yd Yd;refine Zd rfl (fun D1 hD1=>tA _ x [1] _ (hS901.up RI.up (hD1 _ Ye)))<|dT rfl U205 Tf.s3 rfl rfl Yd Yd rfl trivial<|pZ (k:=k) rfl Tf.s3 (pJ Yd) rfl .head (by simp[QL];omega) aOJ ?_
  rw[show(QL l k).set k (List.foldl min x [1])=QL l (k+1)from hstep];refine Zab<|Zal<|Zah<|C.rg<|Zy rfl<|Za rfl<|Zab ?_;exact aG 13 (k+1) Yd Yd ⟨Yb,aOJ⟩ rfl rfl (LE _) (fun D h=>⟨D,LT _ (h),Le.refl D⟩)
 ·obtain rfl:k=4:=by omega
  refine aQ<|Zak<|Zak<|Zan<|Zah<|C.s1<|bJ (e:=205) (fz:=(0,0)) rfl Tf.a205 rfl (GE _) (by rw[show(ints _).length=4 by simp[QL]];exact Tf.s205) GT rfl trivial<|aW rfl rfl rfl rfl Tf.s205 (by simp[QL]) (by simp[QL]) .head (cY _) trivial<|L.n5 ?_;exact Zm [_] rfl ⟨⟨_,_,_,rfl,(List.Mem.head _),Or.inr ⟨Tf.a205,(by rw[show(ints _).toArray.size=4 by simp[QL]];exact Tf.s205),rfl⟩⟩,aOJ⟩ (fun D hD=>by show Value.agg _=_;rw[ZX h4])
theorem aEF:KS Tryz.prog 358 9:=by
 have hf:(Tryz.prog.fieldsOf 358).toList=[(Tryz.prog.fieldsOf 358)[0]!,(Tryz.prog.fieldsOf 358)[1]!,(Tryz.prog.fieldsOf 358)[2]!]:=by kernel_rfl
 refine⟨by kernel_rfl,by kernel_rfl,by kernel_rfl,?_⟩;rw[hf];refine .cons (sV.int (by decide+kernel) Yg Yg) (.cons (n:=4) (sV.arr (e:=3) (by decide+kernel) Yg Yg Yg Yg ?_ ?_) (.cons (n:=4) (sV.arr (e:=3) (by decide+kernel) Yg Yg Yg Yg ?_ ?_) .nil))
 ·rw[show((Tryz.prog.fieldsOf 358)[1]!).type=205 by kernel_rfl];exact Tf.a205
 ·rw[show((Tryz.prog.fieldsOf 358)[1]!).type=205 by kernel_rfl];exact Tf.s205
 ·rw[show((Tryz.prog.fieldsOf 358)[2]!).type=205 by kernel_rfl];exact Tf.a205
 ·rw[show((Tryz.prog.fieldsOf 358)[2]!).type=205 by kernel_rfl];exact Tf.s205
theorem aDU:KM Tryz.prog 358 4:=⟨(Tryz.prog.fieldsOf 358)[0]!,(Tryz.prog.fieldsOf 358)[1]!,(Tryz.prog.fieldsOf 358)[2]!,3,by kernel_rfl,by kernel_rfl,by decide+kernel,by decide+kernel,by decide+kernel,by kernel_rfl,by kernel_rfl,by kernel_rfl,by kernel_rfl,by kernel_rfl,by kernel_rfl,by kernel_rfl,
 by rw[show((Tryz.prog.fieldsOf 358)[1]!).type=205 by kernel_rfl];exact Tf.a205,by rw[show((Tryz.prog.fieldsOf 358)[1]!).type=205 by kernel_rfl];exact Tf.s205,by rw[show((Tryz.prog.fieldsOf 358)[2]!).type=205 by kernel_rfl];exact Tf.a205,by rw[show((Tryz.prog.fieldsOf 358)[2]!).type=205 by kernel_rfl];exact Tf.s205,Tf.s3⟩
theorem UT:B8 Tryz.prog 358 (A4 (n:=9)):=KM.key aDU aEF
end L3
end Go.Fs
namespace Go.Fs
open Go.Proofs
namespace L3
open L1
section
variable{P:Program}{X:Cx}{γb:Type}[Membership Nat γb]{bad:γb}{all:Array Oper}{K:Act→World→Prop}{Q:Exit→Act→World→Prop}
variable{σ:bS}{μ:aC}{Ds:List aA}{os:List (Bool×Nat)}
theorem aFP(k:(μ.map fun p=>p.1).Nodup→WL P X bad all K Q os σ μ Ds):WL P X bad all K Q os σ μ Ds:=fun a w hh=>by
 obtain⟨_,_,_,D,hs,_⟩:=id hh;exact k hs.nd a w hh
end
theorem aEE{w q1 q3 q4:Nat}{o o3:Obj}{R:aC}(h1:w∉aC.ks ((q4,o)::(q3,o3)::R))(h2:q1∉aC.ks ((q4,o)::(q3,o3)::R))(h3:(((q4,o)::(q3,o3)::R).map fun p=>p.1).Nodup):q4∉[w,q1,q3]:=by
 simp only[aJY,aKW,aIW,not_or]at h1 h2 h3;intro h;simp only[aIW,GT,aLT]at h;rcases h with rfl|rfl|rfl
 ·exact h1.1 rfl
 ·exact h2.1 rfl
 ·exact h3.1.1 rfl
open C3
def C4(b:aX)(Mm:List (pG 9×Bool)):Prop:=∀p∈Mm,∀(i:Nat) (s:Sc),G9 b s→QP s→s.ch.length=4→p.1.l=ST s i→p.2=jB b (b.lines.drop i) i s
theorem C4.nil{b:aX}:C4 b []:=fun p hp=>by cases hp
theorem C4.add{b:aX}{Mm M':List (pG 9×Bool)}{i:Nat}{s:Sc}{a:pG 9}{r:Bool}(h:C4 b Mm)(hm:∀p∈M',p∈Mm∨p=(a,r))(ha:a.l=ST s i)(hi:G9 b s)(hp:QP s)(h4:s.ch.length=4)(hr:r=jB b (b.lines.drop i) i s):C4 b M':=by
 intro p hp' i' s' hi' hps' h4' he;rcases hm p hp' with h1|h1
 ·exact h p h1 i' s' hi' hps' h4' he
 ·subst h1;simp only at he ⊢
  rw[ha]at he;obtain⟨e1,e2⟩:=UA (ls:=b.lines.drop i) he hi hi' hp hps' h4 h4';rw[hr,←e1];exact e2.trans (by rw[←e1])
theorem p8{a c d:Value}{lv cv lv' cv':Value}(h:Value.agg #[a,c,d,lv,cv]=.agg #[a,c,d,lv',cv']):lv=lv'∧cv=cv':=by
 simp at h;exact h
theorem aBB{b:aX}{ls:List fH}{i:Nat}{s:Sc}(h:eT b s i=false):jB b ls i s=false:=by
 cases ls with
 |nil=>exact h
 |cons l ls=>unfold jB;rw[h];rfl
theorem SI{b:aX}{i:Nat}{s:Sc}(h:eT b s i=true)(hi:(i:Int)=(b.lines.length:Int)):jB b (b.lines.drop i) i s=true:=by
 rw[aKK Yd];exact h
def aEH(b:aX)(i:Nat)(s:Sc)(r:fH):Bool:=iI s r&&jB b (b.lines.drop (i+1)) (i+1) (dQ b s i r)
theorem aGF{b:aX}{i:Nat}{s:Sc}{r:fH}(h:iI s r=true):jB b (b.lines.drop (i+1)) (i+1) (dQ b s i r)=aEH b i s r:=by unfold aEH;rw[h];rfl
theorem aHQ{b:aX}{i:Nat}{s:Sc}{r:fH}(h:iI s r=false):false=aEH b i s r:=by unfold aEH;rw[h];rfl
theorem HR{b:aX}{s:Sc}{i:Int}{r:fH}(h4:s.ch.length=4)(h5:s.tk.length=4):(lL (dQ b s i r)).length=10:=by
 unfold dQ;split
 ·exact tW (by simp[h4]) (by simp[h5])
 ·exact tW (by simp[h4]) (by simp[h5])
theorem IS{mb cl:Nat}{es:Array MapEntry}:∀p∈[(mb,Obj.map es cl)],cN p.2:=by
 intro p hp;simp only[aIW,GT,aLT]at hp;subst hp;trivial
set_option maxHeartbeats 1000000 in
theorem l5{b:aX}{bv lv cv:Value}{wb mb:Nat}(hbo:MZ b)(hbv:bv=.agg #[.int .i64 b.chairs,.int .i64 b.coin,.int .i64 b.box,lv,cv]):
  ∀(j i:Nat) (s:Sc) (es:Array MapEntry) (cl:Nat) (Mm:List (pG 9×Bool)) (D:aA),i+j=b.lines.length→aHU b s i→QP s→G9 b s→vW A4 Value.bool es Mm→C4 b Mm→fW D bv b→At D wb 0 [.int .i64 b.chairs,.int .i64 b.coin,.int .i64 b.box,lv,cv,.map (some mb)]→
  S3 Tryz.prog 152 [.pointer (some ⟨wb,0,none⟩),FQ s,.int .i64 (i:Int)] D [(mb,.map es cl)] (fun _ v ν'=>v=.bool (jB b (b.lines.drop i) i s)∧∃es' cl' M',ν'=[(mb,.map es' cl')]∧vW A4 Value.bool es' M'∧C4 b M'):=by
 subst hbv;intro j;induction j using Nat.strongRecOn with
 |_ j ih=>
 intro i s es cl Mm D hij hsb hsp hsi hM hok hb0 hA;obtain⟨ch,tk,mo,mi⟩:=s;obtain⟨c0,c1,c2,c3,rfl⟩:=j3 hsb.lc;obtain⟨k0,k1,k2,k3,rfl⟩:=j3 hsb.lt;have hb:=hb0;obtain⟨lv',cv',he,hl,hc⟩:=hb;obtain⟨rfl,rfl⟩:=p8 he;have hl8:=hbo.l8;have hch:=hbo.ch;have hco:=hbo.co;have hbx:=hbo.bx;have hmo:=hsb.mo;have hmi:=hsb.mi;simp only at hmo hmi;show S3 _ _ [.pointer (some ⟨wb,0,none⟩),.agg #[.int .i64 c0,.int .i64 c1,.int .i64 c2,.int .i64 c3,.int .i64 k0,.int .i64 k1,.int .i64 k2,.int .i64 k3,.int .i64 mo,.int .i64 mi],.int .i64 (i:Int)] _ _ _;refine gC 94 Tryz.func152 rfl rfl rfl rfl (fun h0 hwl hwn=>C.s1<|Zw rfl (fun q1 E1 hE1 hB1=>Zh rfl<|L.n2<|aM<|C.drawA [] 5 8 48 (fun _ _ _ h=>bT (P:=Tryz.prog) (fn:=Tryz.f152) _ _ _ h)<|Za rfl<|Zaf rfl<|Zi rfl Tf.f297_0 rfl<|eV rfl (k:=0) Tf.a36 Tf.s36 rfl hA Yc rfl rfl GT rfl trivial<|Zr rfl Tf.a207 rfl hB1 Tf.s207 ?_));refine Za rfl<|Zd rfl (fun D1 hD1=>O1 _ b (⟨[c0,c1,c2,c3],[k0,k1,k2,k3],mo,mi⟩:Sc) i _ (hb0.up (hD1 _ Ye)) rfl rfl)<|Zag rfl<|L.n1<|aJ rfl (fun hc1=>?_) (fun hc1=>?_)
 ·refine C.s1<|Zh rfl<|L.n5<|Zai ?_;exact Zz [] [] [_] [_] rfl ⟨rfl,aOJ⟩ rfl (fun D' hD=>⟨aJS Value.bool (aBB (by simpa using hc1)).symm,es,cl,Mm,rfl,hM,hok⟩)
 ·have hcd:eT b (⟨[c0,c1,c2,c3],[k0,k1,k2,k3],mo,mi⟩:Sc) i=true:=by simpa using hc1
  refine C.kn<|C.s2<|Za rfl<|Za rfl<|Zaf rfl<|Zi rfl Tf.f297_0 rfl<|Zi rfl Tf.f36_3 rfl<|Zf 3 rfl Tf.a33 rfl hA rfl<|aR rfl U33 rfl hl rfl rfl trivial<|dJ rfl rfl rfl rfl trivial<|L.n1<|aE rfl (fun hc2=>?_) (fun hc2=>?_)
  ·refine C.s1<|Zh rfl<|L.n5<|Zai ?_;exact Zz [] [] [_] [_] rfl ⟨rfl,aOJ⟩ rfl (fun D' hD=>⟨aJS Value.bool (SI hcd hc2).symm,es,cl,Mm,rfl,hM,hok⟩)
  ·have hil:i<b.lines.length:=by omega
   obtain⟨z,hz⟩:=C.ge b.lines i;have hdr:b.lines.drop i=z::b.lines.drop (i+1):=by rw[aLL hil];congr 1;exact aJZ ((aJC hil).symm.trans hz)
   refine C.kn<|aM<|kV [] 3 [false,true,true,true,true,true,true,false,true,false] [.fork [0,1,2,4,5] 3 (.fork [] 6 (.fin [7,8]) 8 (.fin [6,7])) 8 (.fin [3,6,7]),.fin [9]] Tf.follows (fun _ _ _ h=>bT (P:=Tryz.prog) (fn:=Tryz.f152) _ _ _ h) Yg ?_;apply P2 (γ:=Nat) (fun _=>True) _ _ _ [.fork [0,1,2,4,5] 3 (.fork [] 6 (.fin [7,8]) 8 (.fin [6,7])) 8 (.fin [3,6,7])] [.fin [9]] rfl
   ·refine nR<|bE [(false,0),(true,1),(true,2),(true,4),(true,5)] rfl<|Za rfl<|Zi rfl Tf.f207_0 rfl<|eV rfl (k:=0) Tf.a205 Tf.s205 rfl hB1 Yc rfl rfl GT rfl trivial<|Zi rfl Tf.f207_1 rfl<|eV rfl (k:=4) Tf.a205 Tf.s205 rfl hB1 Yc rfl rfl GT rfl trivial<|Zab (cZ true true rfl rfl ?_ ?_)
    ·refine Zd rfl (fun D2 hD2=>P9 [c0,c1,c2,c3] _ rfl)<|Zab<|bE [] rfl<|Zab (cZ true true rfl rfl ?_ ?_)
     ·refine Zd rfl (fun D3 hD3=>P9 [k0,k1,k2,k3] _ rfl)<|Zab<|aP [(false,7),(true,8)] rfl<|gP (cs:=[.int .i64 (i:Int),.int .i64 (min c0 1),.int .i64 (min c1 1),.int .i64 (min c2 1),.int .i64 (min c3 1),.int .i64 (min k0 1),.int .i64 (min k1 1),.int .i64 (min k2 1),.int .i64 (min k3 1)]) rfl Tf.p358 Tf.z358 rfl Yg rfl trivial<|Zx rfl Tf.z358 rfl (fun q2=>Zab ?_);exact fun a w hh=>⟨q2,aOJ,hh⟩
     ·refine Zx rfl Tf.z358 rfl (fun q2=>Zab<|aP [(true,6),(false,7)] rfl<|Zd rfl (fun D3 hD3=>P9 [k0,k1,k2,k3] _ rfl)<|gP (cs:=[.int .i64 (i:Int),.int .i64 (min c0 1),.int .i64 (min c1 1),.int .i64 (min c2 1),.int .i64 (min c3 1),.int .i64 (min k0 1),.int .i64 (min k1 1),.int .i64 (min k2 1),.int .i64 (min k3 1)]) rfl Tf.p358 Tf.z358 rfl Yg rfl trivial<|Zab ?_);exact fun a w hh=>⟨q2,aOJ,hh.weak C.rs (LE _) aD⟩
    ·refine Zx rfl Tf.z358 rfl (fun q2=>Zab<|aP [(true,3),(true,6),(false,7)] rfl<|Zd rfl (fun D2 hD2=>P9 [c0,c1,c2,c3] _ rfl)<|Zd rfl (fun D3 hD3=>P9 [k0,k1,k2,k3] _ rfl)<|gP (cs:=[.int .i64 (i:Int),.int .i64 (min c0 1),.int .i64 (min c1 1),.int .i64 (min c2 1),.int .i64 (min c3 1),.int .i64 (min k0 1),.int .i64 (min k1 1),.int .i64 (min k2 1),.int .i64 (min k3 1)]) rfl Tf.p358 Tf.z358 rfl Yg rfl trivial<|Zab ?_);exact fun a w hh=>⟨q2,aOJ,hh.weak C.rs (LE _) aD⟩
   rintro q2 -;refine kY [(false,9)] rfl<|Zv rfl Tf.s358 (bM.head)<|Zab<|kS<|Zah<|aM<|C.drawA [] 6 11 784 (fun _ _ _ h=>bT (P:=Tryz.prog) (fn:=Tryz.f152) _ _ _ h)<|Za rfl<|Zaf rfl<|Zi rfl Tf.f297_1 rfl<|Zf 5 rfl Tf.a295 rfl hA rfl<|Zu rfl Tf.a358 rfl (List.Mem.head _) Tf.s358 ?_;refine LH (val:=A4 (n:=9)) (wal:=Value.bool) (a:=⟨[(i:Int),min c0 1,min c1 1,min c2 1,min c3 1,min k0 1,min k1 1,min k2 1,min k3 1],rfl⟩) rfl U295 UT Tf.z4 rfl rfl (LT _ (GE _)) GT hM rfl aOJ (fun nv ok hin hout=>Za rfl<|Zaa rfl<|Zaa rfl<|Zh rfl<|Zh rfl<|L.n4<|Za rfl<|L.n1<|aJ rfl (fun hc3=>?_) (fun hc3=>?_))
   ·obtain⟨r,rfl,hmem⟩:=hin hc3;refine C.s1<|Za rfl<|Zh rfl<|L.n5<|Zai ?_;exact Zz [(_,_)] [] [_] [_] rfl ⟨rfl,aOJ⟩ rfl (fun D' hD=>⟨aJS Value.bool (hok _ hmem i (⟨[c0,c1,c2,c3],[k0,k1,k2,k3],mo,mi⟩:Sc) hsi hsp rfl rfl),es,cl,Mm,rfl,hM,hok⟩)
   ·obtain rfl:=hout hc3;refine C.kn<|aM<|aM<|iW [] 3 [0,1,2,3,4,5,6,7,8,9,10,11,14,12,13] [false,false,false,false,true,true,true,true,true,true,true,true,true,true,true] [(false,0),(false,1),(false,2),(false,3),(true,4),(true,5),(true,6),(true,7),(true,8),(true,9),(true,10),(true,11),(true,14),(true,12),(true,13)] Tf.follows (fun _ _ _ h=>bT (P:=Tryz.prog) (fn:=Tryz.f152) _ _ _ h) Yg rfl<|Za rfl<|Zaf rfl<|Zi rfl Tf.f297_0 rfl<|eV rfl (k:=0) Tf.a36 Tf.s36 rfl hA Yc rfl rfl GT rfl trivial<|Za rfl<|Zaf rfl<|Zi rfl Tf.f297_0 rfl<|Zi rfl Tf.f36_3 rfl ?_;refine Zf 3 rfl Tf.a33 rfl hA rfl<|Za rfl<|Zs rfl U33 Tf.s160 rfl hl rfl hz (fun b1 o1 cs1 hr1 hcl1 hA1=>?_);obtain rfl:cs1=[.int .i64 _,.int .i64 _,.int .i64 _]:=hr1;refine Zr rfl Tf.a160 rfl hA1 Tf.s160<|Za rfl<|Zt rfl (fun D4 hD4=>tE _ b z _ (hb0.up (hD4 _ Ye)) Yd) (fun v4 D4 hD4 hp4=>?_);have hr:=hp4;have hrl:=hr.len;refine aR rfl U33 rfl Yk rfl rfl trivial<|L.n1<|Zaj<|cE (γ:=Nat×Array MapEntry×Nat×List (pG 9×Bool)) (fun g=>(cR b.chairs z).length-g.1) (fun g=>g.1≤(cR b.chairs z).length∧((cR b.chairs z).take g.1).any (fun r=>aEH b i (⟨[c0,c1,c2,c3],[k0,k1,k2,k3],mo,mi⟩:Sc) r)=false∧vW A4 Value.bool g.2.1 g.2.2.2∧C4 b g.2.2.2) (fun g=>[(63,.int .i64 (g.1:Int)),(8,.bool false)]) [(62,_),(61,_),(7,_),(6,_),(4,_),(0,_),(2,_)] (fun g=>[(q2,.cells [.int .i64 (i:Int),.int .i64 (min c0 1),.int .i64 (min c1 1),.int .i64 (min c2 1),.int .i64 (min c3 1),.int .i64 (min k0 1),.int .i64 (min k1 1),.int .i64 (min k2 1),.int .i64 (min k3 1)].toArray 358 (0,0)),(mb,.map g.2.1 g.2.2.1)]) (fun g=>[D4,E1,D]) (0,es,cl,Mm) ⟨by simp,rfl,hM,hok⟩ ⟨Yb,Yb,aOJ⟩ C.rs (LE _) (aD) ?_;rintro⟨k,es2,cl2,M2⟩ ⟨h1,hno,hM2,hok2⟩;simp only at h1 hno hM2 hok2;refine C.s1<|Zae rfl<|L.n2<|aE rfl (fun hc4=>?_) (fun hc4=>?_)
    ·simp only at hc4;obtain⟨x,hx⟩:=C.ge (cR b.chairs z) k;have hin:=((xS (hbo.ln z (aJA hz))).1 (aJA hx)).1;refine C.kn<|aM<|Zaj<|C.s1<|Zs rfl U33 Tf.s160 rfl hr rfl hx (fun b2 o2 cs2 hr2 hcl2 hA2=>?_);obtain rfl:cs2=[.int .i64 _,.int .i64 _,.int .i64 _]:=hr2;refine Zr rfl Tf.a160 rfl hA2 Tf.s160<|Zx rfl Tf.z160 rfl (fun q3=>Zv rfl Tf.s160 (bM.head)<|L.n2 ?_);have hif:(lL (if iI (⟨[c0,c1,c2,c3],[k0,k1,k2,k3],mo,mi⟩:Sc) x=true then(dQ b (⟨[c0,c1,c2,c3],[k0,k1,k2,k3],mo,mi⟩:Sc) i x)else(⟨[c0,c1,c2,c3],[k0,k1,k2,k3],mo,mi⟩:Sc))).length=10:=by split;exact HR rfl rfl;rfl
     have hnl:(lL (dQ b (⟨[c0,c1,c2,c3],[k0,k1,k2,k3],mo,mi⟩:Sc) i x)).length=10:=HR rfl rfl;refine kV (dO.mk [wb,q1,q3]) 6 [false,false,false,false,true,true,true,true,false,false,true,true,true,false] [.fork [0,1,2,3,4,5,6] 7 (.fin [8,9,10,11]) 11 (.fin [7,8,9,10]),.fin [12,13]] Tf.follows (fun _ _ _ h=>bT (P:=Tryz.prog) (fn:=Tryz.f152) _ _ _ h) Yg ?_;apply P2 (γ:=Nat) (fun _=>True) _ _ _ [.fork [0,1,2,3,4,5,6] 7 (.fin [8,9,10,11]) 11 (.fin [7,8,9,10])] [.fin [12,13]] rfl
     ·refine nR<|bE [(false,0),(false,1),(false,2),(false,3),(true,4),(true,5),(true,6)] rfl<|Za rfl<|Zaf rfl<|Zi rfl Tf.f297_0 rfl<|eV rfl (k:=0) Tf.a36 Tf.s36 rfl hA Yc rfl rfl (dO.out Ye) rfl trivial<|cQ rfl Tf.a207 rfl hB1 Yj Tf.s207 (dO.out Ye) rfl trivial<|Za rfl<|bJ rfl Tf.a160 rfl (List.Mem.head _) Tf.s160 (dO.out Ye) rfl trivial<|Zab (cZ true true rfl rfl ?_ ?_)
      ·refine Zd rfl (fun D5 hD5=>G4 _ b (⟨[c0,c1,c2,c3],[k0,k1,k2,k3],mo,mi⟩:Sc) i x _ (hb0.up (hD5 _ Ye)) rfl rfl (by have:=hin.2;omega) (by have:=hin.2;omega) Yd (by show -100000≤mo∧mo≤100000;omega) (by show 0≤mi∧mi≤1000;omega) Yd)<|Zab<|aP [(false,8),(false,9),(true,10),(true,11)] rfl<|Za rfl<|Zaa rfl<|Zaa rfl<|Zx rfl Tf.z207 rfl (fun q4=>Zab ?_);exact fun a w hh=>⟨q4,aOJ,hh⟩
      ·refine Zx rfl Tf.z207 rfl (fun q4=>Zab<|aP [(true,7),(false,8),(false,9),(true,10)] rfl<|Zd rfl (fun D5 hD5=>G4 _ b (⟨[c0,c1,c2,c3],[k0,k1,k2,k3],mo,mi⟩:Sc) i x _ (hb0.up (hD5 _ Ye)) rfl rfl (by have:=hin.2;omega) (by have:=hin.2;omega) Yd (by show -100000≤mo∧mo≤100000;omega) (by show 0≤mi∧mi≤1000;omega) Yd)<|Za rfl<|Zaa rfl<|Zaa rfl<|Zab ?_);exact fun a w hh=>⟨q4,aOJ,hh.weak C.rs (LE _) aD⟩
     rintro q4 -;refine kY [(true,12),(false,13)] rfl<|bR hA Ye (fun hap1=>bR hB1 Ye (fun hap2=>aFP (fun hnd=>nT (off:=0) (us:=ints (lL (if iI (⟨[c0,c1,c2,c3],[k0,k1,k2,k3],mo,mi⟩:Sc) x=true then(dQ b (⟨[c0,c1,c2,c3],[k0,k1,k2,k3],mo,mi⟩:Sc) i x)else(⟨[c0,c1,c2,c3],[k0,k1,k2,k3],mo,mi⟩:Sc)))) (ws:=ints (lL (if iI (⟨[c0,c1,c2,c3],[k0,k1,k2,k3],mo,mi⟩:Sc) x=true then(dQ b (⟨[c0,c1,c2,c3],[k0,k1,k2,k3],mo,mi⟩:Sc) i x)else(⟨[c0,c1,c2,c3],[k0,k1,k2,k3],mo,mi⟩:Sc)))) rfl rfl rfl rfl (by rw[show(ints _).length=10 by simp[hif]];exact Tf.s207) .head (by simp[hif]) (by simp[hif]) (cY _) (aJE (dO.in_ (aEE hap1 hap2 hnd))) trivial<|Zh rfl<|Zab<|kS<|Zah<|C.s1<|Za rfl<|Za rfl ?_)));refine aEW (γ:=Bool×Array MapEntry×Nat×List (pG 9×Bool)) (fun g=>g.1=aEH b i (⟨[c0,c1,c2,c3],[k0,k1,k2,k3],mo,mi⟩:Sc) x∧vW A4 Value.bool g.2.1 g.2.2.2∧C4 b g.2.2.2) (fun g=>g.1) (fun g=>[(q4,.cells (ints (lL (if iI (⟨[c0,c1,c2,c3],[k0,k1,k2,k3],mo,mi⟩:Sc) x=true then(dQ b (⟨[c0,c1,c2,c3],[k0,k1,k2,k3],mo,mi⟩:Sc) i x)else(⟨[c0,c1,c2,c3],[k0,k1,k2,k3],mo,mi⟩:Sc)))).toArray 207 (0,0)),(q3,.cells [.int .i64 x.kind,.int .i64 x.chair,.int .i64 x.token].toArray 160 (0,0)),(q2,.cells [.int .i64 (i:Int),.int .i64 (min c0 1),.int .i64 (min c1 1),.int .i64 (min c2 1),.int .i64 (min c3 1),.int .i64 (min k0 1),.int .i64 (min k1 1),.int .i64 (min k2 1),.int .i64 (min k3 1)].toArray 358 (0,0)),(mb,.map g.2.1 g.2.2.1)]) [(false,2),(false,3),(false,4),(false,5),(false,6),(false,7)] [] (s:=79) (p:=85) rfl rfl (fun hg1=>?_) (fun hg1=>?_) ?_
     ·have hgc:=hg1;rw[aJT hgc];refine Zb rfl<|bJ (e:=207) (fz:=(0,0)) rfl Tf.a207 rfl (GE _) (by rw[show(ints _).length=10 by simp[hnl]];exact Tf.s207) GT rfl ⟨_,rfl,rfl⟩<|Zb rfl<|yF rfl rfl rfl Yf rfl ⟨_,rfl,rfl⟩<|aF ([(_,_),(_,_),(_,_)]++[(_,_)]++([])) rfl<|eA (A:=[(_,_),(_,_),(_,_)]) (ν:=[(_,_)]) (B:=[]) rfl rfl rfl rfl (aJQ rfl) IS (fun D9 hD9=>ih (j-1) Yd (i+1) (dQ b (⟨[c0,c1,c2,c3],[k0,k1,k2,k3],mo,mi⟩:Sc) i x) es2 cl2 M2 _ Yd (VU hbo hsb x i) (N5 hsp i x) (WF hsi rfl hgc hin.2.1 (by have:=hin.2.2.1;omega)) hM2 hok2 (hb0.up (hD9 _ Ye)) (hA.up (hD9 _ Ye))) rfl ⟨_,rfl,rfl⟩ (fun v9 D10 _ hD10 hp9=>?_)
      obtain⟨rfl,es3,cl3,M3,rfl,hM3,hok3⟩:=hp9;refine Zac rfl ?_;exact A8 fun a w hh=>⟨(_,es3,cl3,M3),⟨aGF Yk,hM3,hok3⟩,(hh.cutK 5 rfl).ds (fun _ h=>LT _ (h))⟩
     ·refine Zk rfl<|Zk rfl<|Zk rfl<|Zk rfl<|Zk rfl<|Zad rfl ?_;exact A8 fun a w hh=>⟨(false,es2,cl2,M2),⟨aHQ Yk,hM2,hok2⟩,hh.cutK 5 rfl⟩
     rintro⟨bm,es3,cl3,M3⟩ ⟨hbm,hM3,hok3⟩;simp only at hbm hM3 hok3;refine L.n1<|aJ rfl (fun hc5=>?_) (fun hc5=>?_)
     ·obtain rfl:bm=true:=hc5;have hres:true=jB b (b.lines.drop i) i (⟨[c0,c1,c2,c3],[k0,k1,k2,k3],mo,mi⟩:Sc):=by rw[hdr,jB,hcd,aNA];exact(aOH.2 ⟨x,aJA hx,hbm.symm⟩).symm
      refine C.s1<|Zh rfl<|L.n1<|aQ<|mN rfl<|Zak<|Zak<|Zan<|Zah<|aM<|C.drawA [] 3 7 48 (fun _ _ _ h=>bT (P:=Tryz.prog) (fn:=Tryz.f152) _ _ _ h)<|Za rfl ?_;refine Zaf rfl<|Zi rfl Tf.f297_1 rfl<|Zf 5 rfl Tf.a295 rfl hA rfl<|Zu rfl Tf.a358 rfl (List.Mem.tail _ (List.Mem.tail _ (List.Mem.head _))) Tf.s358<|Za rfl<|Z7 (val:=A4 (n:=9)) (wal:=Value.bool) (A:=[(_,_),(_,_),(_,_)]) (B:=[]) (a:=⟨[(i:Int),min c0 1,min c1 1,min c2 1,min c3 1,min k0 1,min k1 1,min k2 1,min k3 1],rfl⟩) (n:=true) rfl U295 UT rfl rfl rfl hM3 aOJ (fun es9 cl9 M9 hM9 hm9=>L.n3<|Za rfl<|Zh rfl<|L.n5 ?_);exact Zz [(_,_),(_,_),(_,_)] [] [_] [_] rfl ⟨rfl,aOJ⟩ rfl (fun D' hD=>⟨aJS Value.bool hres,es9,cl9,M9,rfl,hM9,hok3.add hm9 rfl hsi hsp rfl hres⟩)
     ·obtain rfl:bm=false:=hc5;have hgo:aEH b i (⟨[c0,c1,c2,c3],[k0,k1,k2,k3],mo,mi⟩:Sc) x=false:=hbm.symm;refine bQ<|Zal<|Zah<|C.rg<|Zy rfl<|Za rfl<|Zab ?_;exact aG 24 (k+1,es3,cl3,M3) ⟨by simp only;omega,by simp only;rw[aJP,hx,aMT,hno];simp[hgo],hM3,hok3⟩ Yl ⟨Yb,Yb,aOJ⟩ rfl rfl (List.Sublist.cons _ (List.Sublist.cons _ (LE _))) (aD)
    ·obtain rfl:k=(cR b.chairs z).length:=by simp only at hc4;omega
     rw[aKN]at hno;have hres:false=jB b (b.lines.drop i) i (⟨[c0,c1,c2,c3],[k0,k1,k2,k3],mo,mi⟩:Sc):=by rw[hdr,jB,hcd];exact hno.symm
     refine aQ<|Zak<|Zak<|Zan<|Zah<|aM<|C.drawA [] 3 7 48 (fun _ _ _ h=>bT (P:=Tryz.prog) (fn:=Tryz.f152) _ _ _ h)<|Za rfl<|Zaf rfl<|Zi rfl Tf.f297_1 rfl<|Zf 5 rfl Tf.a295 rfl hA rfl<|Zu rfl Tf.a358 rfl (List.Mem.head _) Tf.s358 ?_;refine Za rfl<|Z7 (val:=A4 (n:=9)) (wal:=Value.bool) (A:=[(_,_)]) (B:=[]) (a:=⟨[(i:Int),min c0 1,min c1 1,min c2 1,min c3 1,min k0 1,min k1 1,min k2 1,min k3 1],rfl⟩) (n:=false) rfl U295 UT rfl rfl rfl hM2 aOJ (fun es9 cl9 M9 hM9 hm9=>L.n3<|Za rfl<|Zh rfl<|L.n5 ?_);exact Zz [(_,_)] [] [_] [_] rfl ⟨rfl,aOJ⟩ rfl (fun D' hD=>⟨aJS Value.bool hres,es9,cl9,M9,rfl,hM9,hok2.add hm9 rfl hsi hsp rfl hres⟩)
end L3
end Go.Fs
namespace Go.Fs
open Go.Proofs
namespace L3
open L1
open C3
theorem G3(b:aX):aHU b (eF b) 0:=⟨rfl,rfl,by simp[eF],by simp[eF]⟩
theorem zP(b:aX):QP (eF b):=⟨fun x hx=>by simp[eF]at hx;omega,fun x hx=>by simp[eF]at hx;omega⟩
theorem zS(bv:Value)(b:aX)(D:aA)(hb:fW D bv b)(hbo:MZ b):Fn Tryz.prog 89 #[bv] D (fun _ v=>v=.bool (decide (truths b≠[]))):=by
 have hb0:=hb;obtain⟨lv,cv,rfl,hl,hc⟩:=hb;refine enter 10 Tryz.func89 rfl rfl rfl rfl fun h0=>C.s1<|Zw rfl (fun q1 E1 hE1 hB1=>Zh rfl<|L.n2<|kV [] 3 [false,true,true,true,true,true,false,false] [.fork [0,4] 1 (.fork [2] 3 (.fin [5]) 5 (.fin [3])) 5 (.fin [1,2,3]),.fin [6,7]] Tf.follows (fun _ _ _ h=>cA (P:=Tryz.prog) (fn:=Tryz.f89) _ _ _ h) Yg<|nR<|bE [(false,0),(true,4)] rfl<|Zr rfl Tf.a36 rfl hB1 Tf.s36<|Zr rfl Tf.a36 rfl hB1 Tf.s36<|Zab (cZ true true rfl rfl ?_ ?_))
 ·refine pN rfl rfl aOJ (fun qm=>Zab<|bE [(true,2)] rfl<|gP (cs:=[.int .i64 b.chairs,.int .i64 b.coin,.int .i64 b.box,lv,cv,.map (some qm)]) rfl Tf.p297 Tf.z297 rfl Yg rfl trivial<|Zab (cZ true true rfl rfl ?_ ?_))
  ·refine Zw rfl (fun q2 E2 hE2 hB2=>Zab<|aP [(true,5)] rfl<|Zd rfl (fun D1 hD1=>pM _ b _ (hb0.up (hD1 _ Ye)))<|Zab<|kY [(false,6),(false,7)] rfl<|eA (A:=[]) (ν:=[(_,_)]) (B:=[]) rfl rfl rfl rfl (aJQ rfl) IS (fun D9 hD9=>l5 hbo rfl b.lines.length 0 (eF b) #[] 0 [] _ Yd (G3 b) (zP b) (zA b) rfl C4.nil (hb0.up (hD9 _ Ye)) (hB2.up (hD9 _ Ye))) rfl aOJ (fun v9 D10 _ hD10 hp9=>?_));obtain⟨rfl,es3,cl3,M3,rfl,hM3,hok3⟩:=hp9;refine Zh rfl<|Zab<|kS<|Zah<|N9 ?_;exact leave1 rfl rfl rfl rfl (fun D hD=>by show Value.bool _=_;rw[aMS,sG])
  ·refine Zd rfl (fun D1 hD1=>pM _ b _ (hb0.up (hD1 _ Ye)))<|Zab<|aP [(true,3)] rfl<|Zw rfl (fun q2 E2 hE2 hB2=>Zab<|kY [(false,6),(false,7)] rfl<|eA (A:=[]) (ν:=[(_,_)]) (B:=[]) rfl rfl rfl rfl (aJQ rfl) IS (fun D9 hD9=>l5 hbo rfl b.lines.length 0 (eF b) #[] 0 [] _ Yd (G3 b) (zP b) (zA b) rfl C4.nil (hb0.up (hD9 _ Ye)) (hB2.up (hD9 _ Ye))) rfl aOJ (fun v9 D10 _ hD10 hp9=>?_));obtain⟨rfl,es3,cl3,M3,rfl,hM3,hok3⟩:=hp9;refine Zh rfl<|Zab<|kS<|Zah<|N9 ?_;exact leave1 rfl rfl rfl rfl (fun D hD=>by show Value.bool _=_;rw[aMS,sG])
 ·refine Zd rfl (fun D1 hD1=>pM _ b _ (hb0.up (hD1 _ Ye)))<|Zab<|aP [(true,1),(true,2),(true,3)] rfl<|pN rfl rfl aOJ (fun qm=>gP (cs:=[.int .i64 b.chairs,.int .i64 b.coin,.int .i64 b.box,lv,cv,.map (some qm)]) rfl Tf.p297 Tf.z297 rfl Yg rfl trivial<|Zw rfl (fun q2 E2 hE2 hB2=>Zab<|kY [(false,6),(false,7)] rfl<|eA (A:=[]) (ν:=[(_,_)]) (B:=[]) rfl rfl rfl rfl (aJQ rfl) IS (fun D9 hD9=>l5 hbo rfl b.lines.length 0 (eF b) #[] 0 [] _ Yd (G3 b) (zP b) (zA b) rfl C4.nil (hb0.up (hD9 _ Ye)) (hB2.up (hD9 _ Ye))) rfl aOJ (fun v9 D10 _ hD10 hp9=>?_)));obtain⟨rfl,es3,cl3,M3,rfl,hM3,hok3⟩:=hp9;refine Zh rfl<|Zab<|kS<|Zah<|N9 ?_;exact leave1 rfl rfl rfl rfl (fun D hD=>by show Value.bool _=_;rw[aMS,sG])
theorem V6(bv:Value)(b:aX)(fine:Bool)(D:aA)(hb:fW D bv b):Fn Tryz.prog 91 #[bv,.bool fine] D (fun _ v=>v=.int .i64 (sH b fine)):=by
 have hb0:=hb;obtain⟨lv,cv,rfl,hl,hc⟩:=hb;refine enter 19 Tryz.func91 rfl rfl rfl rfl fun h0=>C.s1<|Zw rfl (fun q1 E1 hE1 hB1=>Zh rfl<|L.n4<|Zr rfl Tf.a36 rfl hB1 Tf.s36<|Zd rfl (fun D1 hD1=>qZ _ b _ (hb0.up (hD1 _ Ye)))<|Zh rfl<|L.n1<|Zaj<|C.s1<|Za rfl ?_);refine dZ rfl rfl rfl rfl trivial<|Zh rfl<|L.n1<|aJ rfl (fun hc1=>?_) (fun hc1=>?_)
 ·refine C.s1<|Za rfl<|Zh rfl<|L.n5<|Zam<|Zai ?_;exact leave1 rfl rfl rfl rfl (fun D hD=>by show Value.int _ _=_;rw[sH,aJT (by simpa using hc1)])
 ·have hf0:aT b=0:=by simpa using hc1
  have hbo:=aHD hf0;refine C.s1<|Za rfl<|Zag rfl<|Zh rfl<|L.n1<|aJ rfl (fun hc2=>?_) (fun hc2=>?_)
  ·refine C.s1<|Zh rfl<|L.n5<|Zam<|Zai ?_;exact leave1 rfl rfl rfl rfl (fun D hD=>by show Value.int _ _=_;rw[sH,aJM Yd,aJT Yak])
  ·refine C.s1<|Zr rfl Tf.a36 rfl hB1 Tf.s36<|Zd rfl (fun D2 hD2=>zS _ b _ (hb0.up (hD2 _ Ye)) hbo)<|Zag rfl<|Zh rfl<|L.n1<|aJ rfl (fun hc3=>?_) (fun hc3=>?_)
   ·refine C.s1<|Zh rfl<|L.n5<|Zam<|Zai ?_;exact leave1 rfl rfl rfl rfl (fun D hD=>by show Value.int _ _=_;rw[sH,aJM Yd,aJM Yak,aJT (by simpa using hc3)])
   ·refine bQ<|Zal<|Zah<|C.s1<|Zh rfl<|L.n5 ?_;exact leave1 rfl rfl rfl rfl (fun D hD=>by show Value.int _ _=_;rw[sH,aJM Yd,aJM Yak,aJM (by simpa using hc3)])
end L3
end Go.Fs
namespace Go.Fs
open Go.Proofs
namespace L3
open L1
open C3
end L3
end Go.Fs
namespace Go.Fs
open Go.Proofs
namespace L3
open L1
open C3
end L3
end Go.Fs
namespace Go.Fs
open Go.Proofs
namespace L3
open L1
open C3
def aAJ(l:List Cn):List Value:=l.flatMap fun x=>[.int .i64 x.after,.int .i64 x.lo,.int .i64 x.hi]
theorem aCJ(l:List Cn):(aAJ l).length=l.length*3:=by
 induction l with
 |nil=>rfl
 |cons c l ih=>unfold aAJ at ih ⊢;rw[aKR,aIX,ih];simp only[aJD,aKZ];omega
theorem aDD{l:List Cn}{i:Nat}{c:Cn}(hi:l[i]?= some c):((aAJ l).drop (i*3)).take 3=[.int .i64 c.after,.int .i64 c.lo,.int .i64 c.hi]:=by
  induction l generalizing i with
  |nil=>simp at hi
  |cons d l ih=>
    unfold aAJ at ih ⊢
    rw[aKR];cases i with
    | zero => obtain rfl : d = c := by simpa using hi
              rfl
    |succ i=>
      rw[aMY,aKK Yaf,aKF];have:(i+1)*3- [Value.int .i64 d.after,Value.int .i64 d.lo,Value.int .i64 d.hi].length=i*3:=by simp;omega
      rw[this];exact ih Yaj
theorem _root_.Go.Fs.jN.cns{D:aA}{v:Value}{n:Nat}{l:List Cn}(hF:jN D v n (aAJ l))(hn:l.length=n)(hb:n≤9223372036854775807):Sl D qQ 3 v l:=
 hF.sl hn hb fun _i _t hi=>⟨_,rfl,rfl,aDD hi⟩
theorem N4{a c:Value}{x y z:Int}(ha:∀u∈[a],cell1 u=true)(hb:∀u∈[c],cell1 u=true):∀u∈[.int .i64 x,.int .i64 y,.int .i64 z,a,c],cell1 u=true:=by
 intro u hu;simp only[aIW,GT,aLT]at hu;rcases hu with rfl|rfl|rfl|rfl|rfl
 ·rfl
 ·rfl
 ·rfl
 ·exact ha _ aJH
 ·exact hb _ aJH
end L3
end Go.Fs
namespace Go.Fs
open Go.ChangeShapes Go.WideShapes Go.RowKit
def uN(W:World):aA:=fun b=>match W.heap[b]? with
 |some (.cells cs _ _)=>cs.toList
 |_=>[]
theorem CF(W:World){cs:Array Value}{e:TypeId}{fz:Nat×Nat}(h0:W.heap[0]?= some (.cells cs e fz))(hne:cs.toList≠[]):dM (uN W) W:=by
 have hf:uN W 0=cs.toList:=by unfold uN;rw[h0]
 refine⟨?_,by rw[hf];exact hne,e,fz,by rw[hf];exact h0⟩;intro b hb;unfold uN at hb ⊢
 split at hb
 ·rename_i cs e fz h;exact⟨cs,e,fz,h,List.prefix_refl _⟩
 ·exact absurd rfl hb
theorem tZ{W:World}{b i:Nat}{v:Value}(h:W.cell? ⟨b,i,none⟩=some v):(uN W b)[i]?= some v:=by
 unfold World.cell? at h;unfold uN;split at h
 ·rename_i cs e fz hb;simp only at hb;rw[hb];simpa using h
 ·cases h
structure BH(W W':World):Prop where
 env:BA W'=BA W
 size:W.heap.size≤W'.heap.size
 old:∀b,b<W.heap.size→W'.heap[b]?= W.heap[b]?
theorem BH.but{W W':World}(h:BH W W')(may:MemPlace→Prop):W.keptBut W' may:=by
 refine⟨aJS Prod.fst h.env,aJS Prod.snd h.env,fun i hi=>?_⟩;rw[h.old i hi];cases W.heap[i]? with
 |none=>rfl
 |some o=>cases o<;>first|exact⟨rfl,rfl,rfl,fun _ _=>rfl⟩|exact Or.inr ⟨rfl,rfl⟩|rfl
theorem BH.frozen{W W':World}(h:BH W W'){a:Addr}(hl:a.block<W.heap.size):W'.frozen? a=W.frozen? a:=by
 unfold World.frozen?;rw[h.old _ hl]
theorem BH.same{W W':World}(h:BH W W'){p:MemPlace}(hp:p.block<W.heap.size):W.sameAt W' p:=by
 cases p with
 |cell b off=>
  simp only[World.sameAt,World.cell?];rw[h.old b hp]
 |map b=>exact h.old b hp
theorem Fn.calls{P:Program}{f:FuncId}{args:Array Value}{D:aA}{post:aA→Value→Prop}(h:Fn P f args D post){W:World}(hD:dM D W):
  Calls P f args W fun e W'=>∃v D',e=.returned v∧post D' v∧BH W W':=
 (h.2 W hD).mono (by
  rintro e W' ⟨v,D',he,hs,hp⟩;exact⟨v,D',he,hp,hs.env _ rfl,hs.size,fun b hb=>hs.old b hb Ye⟩)
section
variable{H:Type}{enc:TypeId×Value→H}{P:Program}
theorem uW(hl:laidOutB P=true){W W':World}{sp:Nat→Bool}:∀(ts:List TypeId) (vs:List Value) (ds:List (DataW H)) (ps:List MemPlace),(∀t∈ts,P.readableRec t=true∧t<P.types.size)→
  DataW.TrodAll enc P W 0 (fun _=>true) true ts vs ds ps→(∀p∈ps,W.sameAt W' p)→(∀p∈ps,sp p.block=true)→DataW.TrodAll enc P W' 0 sp true ts vs ds ps
 | [],vs,ds,ps,_,h,_,_=>by
  obtain⟨rfl,rfl,rfl⟩:=trodAll_nil h;exact trodAll_mk0
 |t::ts,vs,ds,ps,hr,h,hsame,hs=>by
  obtain⟨v,vs',d,ds',p,q,rfl,rfl,rfl,h1,h2⟩:=trodAll_cons h;exact trodAll_cons_mk (WideElems.Trod_stays hl (hr t aJH).1 (hr t aJH).2 h1 (fun x hx=>hsame x (aJG _ hx)) (fun x hx=>hs x (aJG _ hx)))
   (uW hl ts vs' ds' q (fun u hu=>hr u (aJB _ hu)) h2 (fun x hx=>hsame x (aIZ _ hx)) (fun x hx=>hs x (aIZ _ hx)))
theorem NX{f:Func}{s:ChangeSpec}{apart fresh handsOn again:Bool}{W W':World}{args:Array Value}{v:Value}{ds gs:List (DataW H)}{before pa pv:List MemPlace}(hW:DataW.Whole enc P f.params.toList s.vars apart W args.toList ds gs before)
  (hres:∀(b:Nat) (sp:Nat→Bool) (hd:Bool),DataW.TrodAll enc P W' b sp hd f.resultTypes.toList (v.resultList f.resultTypes.size) (s.fn H (ds++gs)).results [])
  (hargs:∀sp:Nat→Bool,(∀p∈before,sp p.block=true)→DataW.TrodAll enc P W' 0 sp true f.params.toList args.toList (s.fn H (ds++gs)).args pa)
  (hvars:∀sp:Nat→Bool,(∀p∈before,sp p.block=true)→DataW.TrodVars enc P W' sp s.vars (s.fn H (ds++gs)).vars pv)
  (hps:before=pa++pv) (hk:W.keptBut W' (· ∈before)) (hfz:∀a:Addr,a.block<W.heap.size→W'.frozen? a=W.frozen? a)
  (hok:∀(j:Nat) (t:TypeId) (r:Value),f.resultTypes[j]?= some t→(v.resultList f.resultTypes.size)[j]?= some r→Value.okWide P W' .any 0 t r):s.post enc P f apart fresh handsOn again W args v W':=by
 have hold:∀p∈before,(fun b=>decide (b<W.heap.size)) p.block=true:=fun p hp=>by simpa using hW.lt p hp
 have hlt:=hW.lt;refine⟨ds,gs,before,[],pa,pv,hW,hres _ _ _,hargs _ hold,hvars _ hold,World.keptBut_mono (fun p hp=>⟨hp,aJE (by rwa [hps,aJO]at hp)⟩) hk,fun _=>?_⟩;obtain⟨_,_,_,_,_,hz,hn⟩:=hW;refine⟨hok,_,_,([]++pa)++pv,⟨[]++pa,pv,trodAll_append (hargs _ (fun _ _=>rfl)) (hres _ _ _),hvars _ (fun _ _=>rfl),rfl,fun b off hp=>?_,fun ha=>?_⟩,fun p hp _=>?_⟩
 ·have hb:MemPlace.cell b off∈before:=by rw[hps];simpa using hp
  rw[hfz _ (by simpa [MemPlace.block]using hlt _ hb)];exact hz b off hb
 ·have:=hn ha;rw[hps]at this;simpa using this
 ·rw[hps];simpa using hp
theorem UC{f:Func}{s:ChangeSpec}{tb:TypeId}{W W':World}{args:Array Value}{ds gs:List (DataW H)}{before:List MemPlace}(hl:laidOutB P=true)(hp:(f.params.toList.all fun t=>P.readableRec t&&decide (t<P.types.size))=true)(hvars:s.vars=[])
  (hres:f.resultTypes=#[tb]) (htb:P.underlying tb=some .bool) (hW:DataW.Whole enc P f.params.toList s.vars false W args.toList ds gs before) (hs:s.fn H (ds++gs)={results:=[.lit (.bool true)],args:=ds}) (hk:BH W W'):
  s.post enc P f false true false false W args (.bool true) W':=by
 have hlt:=hW.lt;have hW':=hW;obtain⟨p,q,hA,hV,rfl,hfz,hnd⟩:=hW';rw[hvars]at hV;obtain⟨_,rfl⟩:=trodVars_none hV;refine NX (pa:=p) (pv:=[]) hW (fun b sp hd=>?_) (fun sp hsp=>?_) (fun sp _=>?_) rfl (hk.but _) (fun _=>hk.frozen) (ok_one hres rfl (okWide_bool_mk htb true))
 ·rw[hs,hres];exact trodAll_mk1 (shut_bool htb true)
 ·rw[hs];refine uW hl _ _ _ _ (fun t ht=>?_) hA (fun x hx=>hk.same (hlt x (aJG _ hx))) (fun x hx=>hsp x (aJG _ hx));have:=aJW.1 hp t ht;simpa using this
 ·rw[hs,hvars];rfl

def xP(P:Program)(t:TypeId){α:Type}(R:Rd α):Prop:=∀{H:Type} (enc:TypeId×Value→H) (W:World) (n:Nat) (cs:List Value) (x:DataW H×List MemPlace),DataW.trod enc P W 0 (fun _=>true) true n t cs=some x→∃a,R (uN W) a cs
theorem PH{k:IntKind}{n:Int}(h:(Lit.int k n).wf=true):qR k n:=by
 cases k<;>simpa [Lit.wf,IntKind.min,IntKind.max,IntKind.signed,IntKind.bits,qR]using h
def aIK{α:Type}(R:Rd α)(sz:Nat):Rd (List α):=fun D xs cs=>∃v,cs=[v]∧Sl D R sz v xs
theorem xP.slice{t e:TypeId}{sz:Nat}{α:Type}{R:Rd α}(ht:P.underlying t=some (.slice e))(hc:P.cellsOf e=sz)(hpos:0<sz)(hel:xP P e R):xP P t (aIK R sz):=fun {H} enc W fuel cs x hx=>by
 rcases DataW.trod_slice ht hx with⟨rfl,_⟩|⟨a,len,cap,elems,rest,n,_,rfl,_,_,hl,hm,hlen,hel',_,_⟩
 ·exact⟨[],_,rfl,Sl.nil⟩
 have hm':cap≤9223372036854775807:=by simpa [maxLen]using hm
 have key:∀i,i<len→∃cs,(∃y,R (uN W) y cs)∧cs.length=sz∧∀j,j<sz→W.cell? ((a.add (i*sz)).add j)=cs[j]? :=by
  intro i hi;have h1:=hel' i hi;rw[aJC Yd,hc]at h1;simp only[Option.bind_eq_some_iff]at h1;obtain⟨cs,h2,h3⟩:=h1;obtain⟨_,h4,h5⟩:=World.cells?_some h2;exact⟨cs,hel enc W n cs _ h3,h4,h5⟩
 by_cases h0:len=0
 ·subst h0;exact⟨[],_,rfl,some a,cap,rfl,aMX _,by simp,aJQ rfl⟩
 have hspot:a=⟨a.block,a.off,none⟩:=by
  obtain⟨cs,_,h2,h3⟩:=key 0 Yd;have h4:=h3 0 hpos;rw[aNF]at h4;simp only[Addr.add,aLH]at h4;rw[aJC (show 0<cs.length by omega)]at h4;unfold World.cell? at h4;split at h4
  ·split at h4
   ·cases h4
   ·rename_i hs;obtain⟨b,o,s⟩:=a;cases s with
    |none=>rfl
    |some=>simp at hs
  ·cases h4
 have pick:∃ys:List α,ys.length=len∧∀i y,ys[i]?= some y→∃cs,R (uN W) y cs∧cs.length=sz∧∀j,j<sz→W.cell? ((a.add (i*sz)).add j)=cs[j]? :=by
  refine⟨List.ofFn fun i:Fin len=>(key i.1 i.2).choose_spec.1.choose,by simp,fun i y hy=>?_⟩;rw[List.getElem?_ofFn]at hy;split at hy
  ·rename_i hi;cases hy;exact⟨_,(key i hi).choose_spec.1.choose_spec,(key i hi).choose_spec.2.1,(key i hi).choose_spec.2.2⟩
  ·cases hy
 obtain⟨ys,hys,hy⟩:=pick;refine⟨ys,_,rfl,some a,cap,by rw[hys],by omega,by omega,aJE ⟨a.block,a.off,by rw[←hspot],fun i y hi=>?_⟩⟩;obtain⟨cs,h1,h2,h3⟩:=hy i y hi;refine⟨cs,h1,h2,fun j v hj=>?_⟩;have hjl:=(aJK.1 hj).1;have h4:=h3 j Yd;rw[hj,hspot,dW,dW]at h4;exact tZ h4
theorem xP.trod{t:TypeId}{α:Type}{R:Rd α}(h:xP P t R){W:World}{v:Value}{d:DataW H}{ps:List MemPlace}(hd:DataW.Trod enc P W 0 (fun _=>true) true t v d ps):∃a,R (uN W) a v.cells.toList:=by
 obtain⟨fuel,hf⟩:=hd;exact h enc W fuel _ _ hf
theorem EP{t e:TypeId}{α:Type}{R:Rd α}{sz:Nat}(ht:P.underlying t=some (.slice e))(h:xP P t (aIK R sz)){W:World}{r:Reach}{b0:Nat}{v:Value}{d:DataW H}{ps:List MemPlace}(hval:Value.okWide P W r b0 t v)(hd:DataW.Trod enc P W 0 (fun _=>true) true t v d ps):
  ∃xs,Sl (uN W) R sz v xs:=by
 obtain⟨a,len,cap,rfl⟩:=okWide_slice ht hval;obtain⟨xs,u,hc,hs⟩:=h.trod hd;simp only[Value.cells,aLN,and_true]at hc;exact⟨xs,by rw[hc];exact hs⟩
end
end Go.Fs
namespace Go.Fs
open Go.Proofs
namespace L3
open L1
open C3
end L3
end Go.Fs
namespace Go.Fs
open Go.Proofs
namespace L3
open L1
open C3
end L3
end Go.Fs
namespace Go.Fs
open Go.Proofs
namespace L3
open L1
open C3
end L3
end Go.Fs
namespace Go.Fs
open Go.Proofs
namespace L3
open L1
open C3
end L3
end Go.Fs
namespace Go.Fs
open Go.Proofs
namespace L3
open L1
open C3
end L3
end Go.Fs
namespace Go.Fs
open Go.Proofs
namespace L3
open L1
open C3
end L3
end Go.Fs
namespace Go.Fs
open Go.Proofs
namespace L3
open L1
open C3
end L3
end Go.Fs
