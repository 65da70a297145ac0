/- Of the proof of BookPlace: AW5, AW6, AW7, AW8, MapK, Eqs, UW1, MapV, Range, UW2, SW1, SW2. -/
import Derived.Test.YtbaniakdgogjeaaGreatDoorZBookPlaceAD
import Derived.Test.YtbaniakdgogjeaaGreatDoorZBookPlaceAC
import Derived.Maps.RangeRun
namespace Go.Fs
open Go.Proofs
namespace L1
open C1
theorem FK{ts:List (List Int)}{q:List Int→Bool}{t0 t:List Int}{j:Nat}(hj:ts[j]?= some t)(h:(ts.take j).all (fun t=>q t==q t0)=true)(hc:(!(q t==q t0))=false):(ts.take (j+1)).all (fun t=>q t==q t0)=true:=by
 rw[aKL,hj,List.all_append,h];simpa using hc
theorem j7{r:dJ}{f:Bool}(h:dA r f=0):truths r≠[]:=by
 unfold dA at h;split at h;omega;split at h;omega;split at h;omega;assumption
theorem wS{r:dJ}{f:Bool}(h:dA r f=0):f=true:=by
 unfold dA at h;split at h;omega;split at h;omega;rename_i hf;simpa using hf
theorem NQ{r:dJ}{i j:Int}(hok:oG r)(h:dA r (nU r i j)=0):0≤i∧i≤j∧j<9:=by
 have:=wS h;simp only[nU,aKG,cG]at this;have:=hok.len9;omega
theorem uS{r:dJ}(hok:oG r):∀t∈truths r,t.length≤9∧∀x∈t,0≤x∧x≤1:=fun t ht=>⟨by have:=(tR ht).1;have:=hok.len9;omega,(tR ht).2⟩
theorem J4{ts:List (List Int)}{k:Nat}{t:List Int}{f:List Int→Int}{a:Int}(h:ts[k]?= some t):((ts.take (k+1)).map f).foldl min a=min (((ts.take k).map f).foldl min a) (f t):=by
 rw[aKL,h,aLZ,aKN,aMA];rfl
theorem I1{ts:List (List Int)}{k:Nat}{t:List Int}{f:List Int→Int}{a:Int}(h:ts[k]?= some t):((ts.take (k+1)).map f).foldl max a=max (((ts.take k).map f).foldl max a) (f t):=by
 rw[aKL,h,aLZ,aKN,aMA];rfl
open C1
theorem aHA(sv:Value)(ts:List (List Int))(i j:Int)(D:aA)(hS:Sl D RT 9 sv ts)(hne:ts≠[])(hall:∀t∈ts,t.length≤9∧∀x∈t,0≤x∧x≤1)(hi0:0≤i)(hij:i≤j)(hj9:j<9):
  Fn Tryz.prog 69 #[sv,.int .i64 i,.int .i64 j] D (fun _ v=>v=.agg #[.int .i64 (TH ts i.toNat j.toNat),.int .i64 (PD ts i.toNat j.toNat)]):=by
 have hl:=hS.len;obtain⟨t0,ht0⟩:∃t,ts[0]?= some t:=⟨ts[0]'(aNF.2 hne),aJT _⟩
 have ht0m:=aJV ht0;have hb0:=Y5 (hall t0 ht0m).2 i.toNat j.toNat Yd;have hp90:=fA (hall t0 ht0m).1;refine enter 36 Tryz.func69 rfl rfl rfl rfl fun h0=>C.s1<|Zw rfl Tf.z67 rfl (fun q1=>L.n3<|Za rfl<|Zt rfl U156 Tf.s161 rfl hS rfl ht0 (fun b1 o1 cs1 hr1 hcl1 hA1=>?_))
 obtain rfl:cs1=ints (eB _):=hr1;refine cO rfl Tf.a161 rfl hA1 Yc (by first|exact Tf.s161|(simp only[*];exact Tf.s161)) aJN rfl trivial<|Zd rfl (fun D1 hD1=>wD t0 _ (hall _ ht0m).1 (hall _ ht0m).2)<|Za rfl<|Za rfl<|Zd rfl (fun D2 hD2=>ZF t0 i j _ hi0 hij hj9 (hall _ ht0m).2)<|Zi rfl<|L.n3<|Za rfl<|Za rfl<|Zq [.int .i64 (kS t0 i.toNat j.toNat),.int .i64 (kS t0 i.toNat j.toNat)] rfl Tf.p67 Tf.z67 rfl rfl<|Zw rfl Tf.z67 rfl (fun q2=>Zu rfl Tf.s67 (bO.head) ?_);refine L.n4<|Za rfl<|aW rfl U156 rfl Yk rfl rfl trivial<|Za rfl<|L.n1<|Zai<|cE (γ:=Nat) (fun k=>ts.length-k) (fun k=>k≤ts.length) (fun k=>[(23,.int .i64 (k:Int))]) [(22,_),(21,_),(8,_),(6,_),(1,_),(2,_)] (fun k=>[(q2,.cells [.int .i64 (((ts.take k).map fun t=>kS t i.toNat j.toNat).foldl min (kS t0 i.toNat j.toNat)),.int .i64 (((ts.take k).map fun t=>kS t i.toNat j.toNat).foldl max (kS t0 i.toNat j.toNat))].toArray 67 (0,0)),(q1,.cells [.int .i64 0,.int .i64 0].toArray 67 (0,0))]) (fun k=>[D]) 0 Yd ⟨Yb,aGL⟩ C.rs (aJU _) (aD) ?_;rintro k h1;refine C.s1<|Zae rfl<|L.n2<|aF rfl (fun hc1=>?_) (fun hc1=>?_)
 ·have hkk:k<ts.length:=by omega
  obtain⟨t,ht⟩:∃t,ts[k]?= some t:=⟨_,aJT hkk⟩
  have htm:=aJV ht;obtain⟨htl,htb⟩:=hall t htm;have hp9:=fA htl;refine C.kn<|aCX<|Zai<|C.s1<|Zt rfl U156 Tf.s161 rfl hS rfl ht (fun b2 o2 cs2 hr2 hcl2 hA2=>?_);obtain rfl:cs2=ints (eB _):=hr2;refine cO rfl Tf.a161 rfl hA2 Yc (by first|exact Tf.s161|(simp only[*];exact Tf.s161)) aJN rfl trivial<|Zw rfl Tf.z161 rfl (fun q3=>bH rfl rfl rfl rfl Tf.s161 Yae Ya (bO.head) Yh trivial<|L.n1<|iH [] 3 [0,1,3,4,2,5,6,7] [false,true,true,true,true,true,false,false] [(false,0),(true,1),(true,3),(true,4),(true,2),(true,5),(false,6),(false,7)] Tf.follows (fun _ _ _ h=>cZ (P:=Tryz.prog) (fn:=Tryz.f69) _ _ _ h) Yg rfl<|Zp rfl Tf.a67 rfl (List.Mem.tail _ (List.Mem.head _)) Tf.s67<|aY rfl Tf.a161 rfl (List.Mem.head _) (by first|exact Tf.s161|(simp only[*];exact Tf.s161)) aJN rfl trivial<|Za rfl<|Za rfl<|Zd rfl (fun D3 hD3=>wD t _ (hall _ htm).1 (hall _ htm).2)<|Zd rfl (fun D4 hD4=>ZF t i j _ hi0 hij hj9 (hall _ htm).2)<|Zd rfl (fun D5 hD5=>nW _ _ _ _) ?_);refine Zu rfl Tf.s67 (.tail (bO.head))<|Zz<|Zak<|Zag<|C.rg<|Zy rfl<|Za rfl<|Zz ?_;rw[←J4 ht,←I1 ht];exact aH 14 (k+1) Yd Yd ⟨Yb,aGL⟩ rfl rfl (List.Sublist.cons _ (aJU _)) (aD)
 ·obtain rfl:k=ts.length:=by omega
  rw[aLL,I2 _ _ (by rw[aLC,ht0];rfl),G5 _ _ (by rw[aLC,ht0];rfl)];refine aR<|Zah<|Zah<|Zal<|Zag<|C.s1<|Zp rfl Tf.a67 rfl (List.Mem.head _) Tf.s67<|Zu rfl Tf.s67 (.tail (bO.head))<|L.n5 ?_;exact Zc [_] rfl ⟨⟨_,_,_,rfl,(List.Mem.tail _ (List.Mem.head _)),Or.inr ⟨Tf.a67,(by first|exact Tf.s67|(simp only[aLH,aI, *];exact Tf.s67)),rfl⟩⟩,aGL⟩ (fun D hD=>rfl)
theorem yQ(rv:Value)(r:dJ)(i j:Int)(D:aA)(hr:mL D rv r):Fn Tryz.prog 39 #[rv,.int .i64 i,.int .i64 j] D (fun _ v=>v=.tuple #[.agg (if dA r (nU r i j)=0 then #[.int .i64 (TH (truths r) i.toNat j.toNat),.int .i64 (PD (truths r) i.toNat j.toNat)]else #[.int .i64 0,.int .i64 0]),.int .i64 (dA r (nU r i j))]):=by
 have hr0:=hr;obtain⟨pv,cv,rfl,hp,hc⟩:=hr;refine enter 30 Tryz.func39 rfl rfl rfl rfl fun h0=>C.s1<|Zv rfl (fun q1 E1 hE1 hB1=>Zw rfl Tf.z67 rfl (fun q2=>Zi rfl<|L.n2<|C.drawA [] 4 11 798 (fun _ _ _ h=>cZ (P:=Tryz.prog) (fn:=Tryz.f39) _ _ _ h)<|Zs rfl Tf.a28 rfl hB1 Tf.s28<|Zs rfl Tf.a28 rfl hB1 Tf.s28<|Za rfl<|Za rfl<|Zd rfl (fun D1 hD1=>WK _ r i j _ (hr0.up (hD1 _ Ye))) ?_));refine bU rfl rfl rfl (fun D2 hD2=>pG _ r _ _ (hr0.up (hD2 _ Ye))) rfl aGL (fun v2 D2 hD2 hp2=>?_)
 obtain⟨wv,rfl,hwk⟩:=hp2;refine Za rfl<|Zaa rfl<|Zaa rfl<|Zi rfl<|Zi rfl<|L.n4<|Za rfl<|eQ rfl rfl rfl rfl trivial<|L.n1<|aF rfl (fun hc1=>?_) (fun hc1=>?_)
 ·refine C.s1<|Zq [.int .i64 0,.int .i64 0] rfl Tf.p67 Tf.z67 rfl rfl<|Za rfl<|Zu rfl Tf.s67 (bO.head)<|Zi rfl<|L.n5<|Zaj ?_;exact Zc [_,_] rfl ⟨⟨_,_,_,rfl,(List.Mem.head _),Or.inr ⟨Tf.a67,(by first|exact Tf.s67|(simp only[aLH,aI, *];exact Tf.s67)),rfl⟩⟩,rfl,aGL⟩ (fun D hD=>by show Value.tuple _=_;rw[aKO hc1])
 ·have he0:dA r (nU r i j)=0:=by omega
  obtain⟨hok,wb,pv2,cv2,tv,rfl,hA,hp2,hc2',ht⟩:=hwk he0;have htn:=j7 he0;have hall:=uS hok;have hpt:=NQ hok he0;refine C.kn<|C.s1<|Za rfl<|Zab rfl<|Zj rfl Tf.f158_1 rfl<|Zg 4 rfl Tf.a156 rfl hA rfl<|Za rfl<|Za rfl<|Zd rfl (fun D3 hD3=>aHA _ _ i j _ (ht.up RT.up (hD3 _ Ye)) htn hall hpt.1 hpt.2.1 hpt.2.2)<|Zu rfl Tf.s67 (bO.head)<|Zi rfl<|L.n5 ?_;exact Zc [_,_] rfl ⟨⟨_,_,_,rfl,(List.Mem.head _),Or.inr ⟨Tf.a67,(by first|exact Tf.s67|(simp only[aLH,aI, *];exact Tf.s67)),rfl⟩⟩,rfl,aGL⟩ (fun D hD=>by show Value.tuple _=_;rw[aKS he0,he0])
theorem B2(wv:Value)(t:List Int)(i:Nat)(D:aA)(h9:t.length≤9)(hi:i<9):Fn Tryz.prog 247 #[wv,.agg (ints (eB t)).toArray,.int .i64 (i:Int)] D (fun _ v=>v=.bool (TL i t)):=by
 have hg:=UG hi h9;refine enter 11 Tryz.func247 rfl rfl rfl rfl fun h0=>C.s1<|Zv rfl (fun q1 E1 hE1 hB1=>Zi rfl<|L.n3<|Za rfl<|dI rfl U161 Tf.s3 rfl rfl Yd Yd rfl trivial<|gD rfl Tf.a3 rfl hB1 Ye (cD hg) aJN rfl trivial<|eR rfl rfl rfl rfl trivial<|Zi rfl<|L.n5 ?_)
 exact Zc [_] rfl ⟨rfl,aGL⟩ (fun D hD=>rfl)
theorem aGF(fv wv:Value)(f:FuncId)(r:dJ)(p:Nat→List Int→Bool)(many:Nat)(D:aA)(hfv:fv=.func (.func f) #[] #[])(hw:NZ D wv r)(hok:oG r)(hne:truths r≠[])(hm:many≤9)
  (hf:∀t∈truths r,∀i,i<many→∀D',Le D D'→Fn Tryz.prog f #[wv,.agg (ints (eB t)).toArray,.int .i64 (i:Int)] D' (fun _ v=>v=.bool (p i t))):
  Fn Tryz.prog 248 #[.agg #[fv],wv,.int .i64 (many:Int)] D (fun D' v=>Sl D' RI 1 v ((List.range many).map fun i=>vd (truths r) (p i))):=by
 obtain⟨wb,pv,cv,tv,rfl,hA,hp,hc,ht⟩:=hw;subst hfv;have hl:=ht.len;have hall:=uS hok;obtain⟨t0,ht0⟩:∃t,(truths r)[0]?= some t:=⟨(truths r)[0]'(aNF.2 hne),aJT _⟩
 have ht0m:=aJV ht0;have hp90:=fA (hall t0 ht0m).1;refine enter 52 Tryz.func248 rfl rfl rfl rfl fun h0=>C.s1<|Zv rfl (fun q1 E1 hE1 hB1=>Zi rfl<|L.n4<|Za rfl<|Za rfl<|L.n1<|Zai<|cE (γ:=Nat×Value×aC) (fun g=>many-g.1) (fun g=>g.1≤many∧bR 3 1 g.2.1 g.1 (ints ((List.range g.1).map fun i=>vd (truths r) (p i))) g.2.2) (fun g=>[(13,.int .i64 (g.1:Int)),(6,g.2.1)]) [(12,_),(3,_),(1,_)] (fun g=>g.2.2++[]) (fun g=>[E1,D]) (0,.slice none 0 0,[]) ⟨by simp,by simpa [ints]using bR.nil⟩ ⟨Yb,Yb,aGL⟩ C.rs (aJU _) (aD) ?_)
 rintro⟨k,v,ν⟩ ⟨h1,ha⟩;refine C.s1<|Zae rfl<|L.n2<|aF rfl (fun hc1=>?_) (fun hc1=>?_)
 ·refine C.kn<|aCX<|Zai<|C.s1<|Za rfl<|Zi rfl<|L.n1<|HR<|aCX<|C.drawA [] 6 12 1020 (fun _ _ _ h=>cZ (P:=Tryz.prog) (fn:=Tryz.f248) _ _ _ h)<|Zj rfl Tf.f340_0 rfl<|Zg 0 rfl Tf.a337 rfl hB1 rfl ?_;refine Za rfl<|Za rfl<|Zab rfl<|Zj rfl Tf.f158_1 rfl<|Zg 4 rfl Tf.a156 rfl hA rfl<|Zt rfl U156 Tf.s161 rfl ht rfl ht0 (fun b1 o1 cs1 hr1 hcl1 hA1=>?_);obtain rfl:cs1=ints (eB _):=hr1;refine cO rfl Tf.a161 rfl hA1 Yc (by first|exact Tf.s161|(simp only[*];exact Tf.s161)) aJN rfl trivial<|Za rfl<|Zd rfl (fun D1 hD1=>hf t0 ht0m k Yd _ (hD1 _ Ye))<|Zi rfl<|L.n3<|Zi rfl<|L.n4<|Za rfl<|L.n1<|aJ rfl (fun hc2=>?_) (fun hc2=>?_)
  ·refine C.rg<|Zi rfl<|L.n2<|Z2<|Zag<|C.s2<|Za rfl<|Zab rfl<|Zj rfl Tf.f158_1 rfl<|Zg 4 rfl Tf.a156 rfl hA rfl<|aW rfl U156 rfl Yk rfl rfl trivial<|Za rfl ?_;refine L.n1<|Zai<|cN (γ:=Nat) (fun j=>(truths r).length-j) (fun j=>j≤(truths r).length∧((truths r).take j).all (fun t=>p k t==p k t0)=true) (fun j=>[(33,.int .i64 (j:Int))]) [(32,_),(31,_),(30,_),(29,_),(28,_),(9,_),(27,_),(8,_),(26,_),(25,_),(24,_),(23,_),(22,_),(21,_),(20,_),(19,_),(18,_),(17,_),(16,_),(7,_),(15,_),(14,_),(13,_),(6,_),(12,_),(3,_),(1,_)] (fun j=>[E1,D]) 0 Ye ⟨Yb,aGL⟩ C.rs (aD) ?_;rintro j ⟨h3,h4⟩;refine C.s1<|Zae rfl<|L.n2<|aF rfl (fun hc3=>?_) (fun hc3=>?_)
   ·have hj:j<(truths r).length:=by omega
    obtain⟨t,ht1⟩:∃t,(truths r)[j]?= some t:=⟨_,aJT hj⟩
    have htm:=aJV ht1;obtain⟨htl,htb⟩:=hall t htm;have hp9:=fA htl;refine C.kn<|aCX<|Zai<|C.s1<|Zt rfl U156 Tf.s161 rfl ht rfl ht1 (fun b2 o2 cs2 hr2 hcl2 hA2=>?_);obtain rfl:cs2=ints (eB _):=hr2;refine cO rfl Tf.a161 rfl hA2 Yc (by first|exact Tf.s161|(simp only[*];exact Tf.s161)) aJN rfl trivial<|Zw rfl Tf.z161 rfl (fun q2=>bH rfl rfl rfl rfl Tf.s161 Yae Ya (bO.head) Yh trivial<|L.n3<|Zj rfl Tf.f340_0 rfl<|Zg 0 rfl Tf.a337 rfl hB1 rfl<|Za rfl<|aY rfl Tf.a161 rfl (List.Mem.head _) (by first|exact Tf.s161|(simp only[*];exact Tf.s161)) aJN rfl trivial<|Za rfl<|Zd rfl (fun D2 hD2=>hf t htm k Yd _ (hD2 _ Ye))<|Za rfl<|j0 rfl U4 rfl rfl rfl aGL ?_);refine L.n1<|aJ rfl (fun hc4=>?_) (fun hc4=>?_)
    ·have hv:vd (truths r) (p k)=3:=ZE ht0 ht1 hc4;refine C.s1<|Zi rfl<|L.n1<|aR<|gE rfl<|Zah<|Zah<|Zal<|Zag<|C.rg<|Za rfl<|Za rfl ?_;refine Zr rfl U25 Tf.s3 Tf.z3 rfl rfl rfl rfl (.cons rfl rfl .nil) (fun b901 D901 hD901 hA901=>?_);have hS901:=Sl.ofInts (l:=[_]) (n:=1) (cap:=1) hA901 rfl Yd Yd;refine aX (A:=[(_,_)]) (B:=_) rfl U25 rfl rfl Tf.s3 Tf.z3 rfl Tf.i3 rfl rfl rfl ha (jN.lit hA901) Ye rfl Ye Yi Yd (aKP rfl) rfl aGL (fun v1 ν1 ha1=>?_);have ha2:bR 3 1 v1 (k+1) (ints ((List.range (k+1)).map fun i=>vd (truths r) (p i))) ν1:=by rw[aMB,aKN,aOE,hv,←eL];exact ha1
     refine Zi rfl<|Zz<|qR<|Zak<|Zag<|C.rg<|Zy rfl<|Za rfl<|Zz ?_;exact aH 45 (k+1,v1,ν1) ⟨by simp only;omega,ha2⟩ Ym ⟨Yb,Yb,aGL⟩ rfl rfl (List.Sublist.cons _ (aJU _)) (fun D h=>⟨D,aJS _ (h),Le.refl D⟩)
    ·have hcc:=hc4;refine aAX<|Zak<|Zag<|C.rg<|Zy rfl<|Za rfl<|Zz ?_;exact aH 15 (j+1) ⟨by omega,FK ht1 h4 hcc⟩ Yd ⟨Yb,aGL⟩ rfl rfl (List.Sublist.cons _ (aJU _)) (aD)
   ·have hv:vd (truths r) (p k)=1:=by rw[PH ht0 Yd h4,aKS (by simp[hc2])]
    refine aR<|Zah<|Zah<|Zal<|Zag<|C.rg<|Za rfl<|Za rfl<|Zr rfl U25 Tf.s3 Tf.z3 rfl rfl rfl rfl (.cons rfl rfl .nil) (fun b902 D902 hD902 hA902=>?_);have hS902:=Sl.ofInts (l:=[_]) (n:=1) (cap:=1) hA902 rfl Yd Yd;refine aX (A:=[]) (B:=_) rfl U25 rfl rfl Tf.s3 Tf.z3 rfl Tf.i3 rfl rfl rfl ha (jN.lit hA902) Ye rfl Ye Yi Yd (aKP rfl) rfl aGL (fun v2 ν2 ha2=>?_);have ha2:bR 3 1 v2 (k+1) (ints ((List.range (k+1)).map fun i=>vd (truths r) (p i))) ν2:=by rw[aMB,aKN,aOE,hv,←eL];exact ha2
    refine Zi rfl<|Zz<|qR<|Zak<|Zag<|C.rg<|Zy rfl<|Za rfl<|Zz ?_;exact aH 33 (k+1,v2,ν2) ⟨by simp only;omega,ha2⟩ Ym ⟨Yb,Yb,aGL⟩ rfl rfl (aJU _) (fun D h=>⟨D,aJS _ (h),Le.refl D⟩)
  ·refine C.kn<|aCX<|Z2<|Zag<|C.s2<|Za rfl<|Zab rfl<|Zj rfl Tf.f158_1 rfl<|Zg 4 rfl Tf.a156 rfl hA rfl<|aW rfl U156 rfl Yk rfl rfl trivial<|Za rfl<|L.n1 ?_;refine Zai<|cN (γ:=Nat) (fun j=>(truths r).length-j) (fun j=>j≤(truths r).length∧((truths r).take j).all (fun t=>p k t==p k t0)=true) (fun j=>[(33,.int .i64 (j:Int))]) [(32,_),(31,_),(30,_),(29,_),(28,_),(27,_),(9,_),(8,_),(26,_),(25,_),(24,_),(23,_),(22,_),(21,_),(20,_),(19,_),(18,_),(17,_),(16,_),(7,_),(15,_),(14,_),(13,_),(6,_),(12,_),(3,_),(1,_)] (fun j=>[E1,D]) 0 Ye ⟨Yb,aGL⟩ C.rs (aD) ?_;rintro j ⟨h3,h4⟩;refine C.s1<|Zae rfl<|L.n2<|aF rfl (fun hc5=>?_) (fun hc5=>?_)
   ·have hj:j<(truths r).length:=by omega
    obtain⟨t,ht1⟩:∃t,(truths r)[j]?= some t:=⟨_,aJT hj⟩
    have htm:=aJV ht1;obtain⟨htl,htb⟩:=hall t htm;have hp9:=fA htl;refine C.kn<|aCX<|Zai<|C.s1<|Zt rfl U156 Tf.s161 rfl ht rfl ht1 (fun b3 o3 cs3 hr3 hcl3 hA3=>?_);obtain rfl:cs3=ints (eB _):=hr3;refine cO rfl Tf.a161 rfl hA3 Yc (by first|exact Tf.s161|(simp only[*];exact Tf.s161)) aJN rfl trivial<|Zw rfl Tf.z161 rfl (fun q3=>bH rfl rfl rfl rfl Tf.s161 Yae Ya (bO.head) Yh trivial<|L.n3<|Zj rfl Tf.f340_0 rfl<|Zg 0 rfl Tf.a337 rfl hB1 rfl<|Za rfl<|aY rfl Tf.a161 rfl (List.Mem.head _) (by first|exact Tf.s161|(simp only[*];exact Tf.s161)) aJN rfl trivial<|Za rfl<|Zd rfl (fun D3 hD3=>hf t htm k Yd _ (hD3 _ Ye))<|Za rfl<|j0 rfl U4 rfl rfl rfl aGL ?_);refine L.n1<|aJ rfl (fun hc6=>?_) (fun hc6=>?_)
    ·have hv:vd (truths r) (p k)=3:=ZE ht0 ht1 hc6;refine C.s1<|Zi rfl<|L.n1<|aR<|gE rfl<|Zah<|Zah<|Zal<|Zag<|C.rg<|Za rfl<|Za rfl ?_;refine Zr rfl U25 Tf.s3 Tf.z3 rfl rfl rfl rfl (.cons rfl rfl .nil) (fun b903 D903 hD903 hA903=>?_);have hS903:=Sl.ofInts (l:=[_]) (n:=1) (cap:=1) hA903 rfl Yd Yd;refine aX (A:=[(_,_)]) (B:=_) rfl U25 rfl rfl Tf.s3 Tf.z3 rfl Tf.i3 rfl rfl rfl ha (jN.lit hA903) Ye rfl Ye Yi Yd (aKP rfl) rfl aGL (fun v3 ν3 ha3=>?_);have ha2:bR 3 1 v3 (k+1) (ints ((List.range (k+1)).map fun i=>vd (truths r) (p i))) ν3:=by rw[aMB,aKN,aOE,hv,←eL];exact ha3
     refine Zi rfl<|Zz<|qR<|Zak<|Zag<|C.rg<|Zy rfl<|Za rfl<|Zz ?_;exact aH 45 (k+1,v3,ν3) ⟨by simp only;omega,ha2⟩ Ym ⟨Yb,Yb,aGL⟩ rfl rfl (List.Sublist.cons _ (aJU _)) (fun D h=>⟨D,aJS _ (h),Le.refl D⟩)
    ·have hcc:=hc6;refine aAX<|Zak<|Zag<|C.rg<|Zy rfl<|Za rfl<|Zz ?_;exact aH 15 (j+1) ⟨by omega,FK ht1 h4 hcc⟩ Yd ⟨Yb,aGL⟩ rfl rfl (List.Sublist.cons _ (aJU _)) (aD)
   ·have hv:vd (truths r) (p k)=2:=by rw[PH ht0 Yd h4,aKO (by simp[hc2])]
    refine aR<|Zah<|Zah<|Zal<|Zag<|C.rg<|Za rfl<|Za rfl<|Zr rfl U25 Tf.s3 Tf.z3 rfl rfl rfl rfl (.cons rfl rfl .nil) (fun b904 D904 hD904 hA904=>?_);have hS904:=Sl.ofInts (l:=[_]) (n:=1) (cap:=1) hA904 rfl Yd Yd;refine aX (A:=[]) (B:=_) rfl U25 rfl rfl Tf.s3 Tf.z3 rfl Tf.i3 rfl rfl rfl ha (jN.lit hA904) Ye rfl Ye Yi Yd (aKP rfl) rfl aGL (fun v4 ν4 ha4=>?_);have ha2:bR 3 1 v4 (k+1) (ints ((List.range (k+1)).map fun i=>vd (truths r) (p i))) ν4:=by rw[aMB,aKN,aOE,hv,←eL];exact ha4
    refine Zi rfl<|Zz<|qR<|Zak<|Zag<|C.rg<|Zy rfl<|Za rfl<|Zz ?_;exact aH 33 (k+1,v4,ν4) ⟨by simp only;omega,ha2⟩ Ym ⟨Yb,Yb,aGL⟩ rfl rfl (aJU _) (fun D h=>⟨D,aJS _ (h),Le.refl D⟩)
 ·obtain rfl:k=many:=by omega
  refine aR<|Zah<|Zah<|Zal<|Zag<|C.s1<|Za rfl<|Zi rfl<|L.n5<|eO (A:=[]) (B:=[]) ha rfl (fun D2 hD2 hF=>?_);exact Zc [_] rfl ⟨rfl,aGL⟩ (fun D hD=>(hF.ints Ye Yd).up RI.up (hD _ Ye))
theorem Q6(rv:Value)(r:dJ)(D:aA)(hr:mL D rv r):Fn Tryz.prog 183 #[rv] D (fun D' v=>∃lv,v=.tuple #[lv,.int .i64 (dA r true)]∧Sl D' RI 1 lv (if dA r true=0 then(List.range r.places.length).map (fun i=>vd (truths r) (TL i))else [])):=by
 have hr0:=hr;obtain⟨pv,cv,rfl,hp,hc⟩:=hr;have hl1:=hp.len;have hl2:=hc.len;refine enter 20 Tryz.func183 rfl rfl rfl rfl fun h0=>C.s1<|Zv rfl (fun q1 E1 hE1 hB1=>Zi rfl<|Zi rfl<|L.n3<|Zs rfl Tf.a28 rfl hB1 Tf.s28<|bU rfl rfl rfl (fun D1 hD1=>pG _ r _ _ (hr0.up (hD1 _ Ye))) rfl aGL (fun v1 D1 hD1 hp1=>?_))
 obtain⟨wv,rfl,hwk⟩:=hp1;refine Za rfl<|Zaa rfl<|Zaa rfl<|Zi rfl<|Zi rfl<|L.n4<|Za rfl<|eQ rfl rfl rfl rfl trivial<|L.n1<|aF rfl (fun hc1=>?_) (fun hc1=>?_)
 ·refine C.s1<|Za rfl<|Zi rfl<|Zi rfl<|L.n5<|Zaj ?_;exact Zc [_,_] rfl C.rs (fun D hD=>⟨_,rfl,by rw[aKO hc1];exact Sl.nil⟩)
 ·have he0:dA r true=0:=by omega
  obtain⟨hok,wb,pv2,cv2,tv,rfl,hA,hp2,hc2',ht⟩:=hwk he0;have htn:=j7 he0;have hall:=uS hok;refine C.kn<|C.s1<|Zq [.func (.func 247) #[] #[]] rfl Tf.p340 Tf.z340 rfl rfl<|Za rfl<|Zj rfl Tf.f28_0 rfl<|Zg 0 rfl Tf.a25 rfl hB1 rfl<|aW rfl U25 rfl hp rfl rfl trivial<|bU rfl rfl rfl (fun D2 hD2=>aGF _ _ 247 r (TL) r.places.length _ rfl ⟨wb,pv2,cv2,tv,rfl,hA.up (hD2 _ Ye),hp2.up RI.up (hD2 _ Ye),hc2'.up RC.up (hD2 _ Ye),ht.up RT.up (hD2 _ Ye)⟩ hok htn (by have:=hok.len9;have:=hok.cnt6;omega) (fun t htm i hi D2 hl=>B2 _ t i D2 (hall t htm).1 (by have:=hok.len9;omega))) rfl aGL (fun v2 D2 hD2 hp2=>Zi rfl<|Zi rfl<|L.n5 ?_)
  exact Zc [_,_] rfl C.rs (fun D hD=>⟨_,by rw[he0];rfl,by rw[aKS he0];exact hp2.up RI.up (hD _ Ye)⟩)
end L1
end Go.Fs
namespace Go.Fs
open Go.Proofs
namespace L1
open C1
end L1
end Go.Fs
namespace Go.Fs
open Go.Proofs
namespace L1
end L1
end Go.Fs
namespace Go.Fs
open Go.Proofs
namespace L1
open C1
open C1
theorem RL(rv:Value)(r:dJ)(D:aA)(hr:mL D rv r):Fn Tryz.prog 44 #[rv] D (fun _ v=>v=.tuple #[.int .i64 (oS r),.int .i64 (xT r)]):=by
 have hr0:=hr;obtain⟨pv,cv,rfl,hp,hc⟩:=hr;refine b6 47 Tryz.func44 rfl rfl rfl rfl fun h0=>C.s1<|Zv rfl (fun q1 E1 hE1 hB1=>Zi rfl<|Zi rfl<|L.n4<|Zs rfl Tf.a28 rfl hB1 Tf.s28<|Zd rfl (fun D1 hD1=>zM _ r _ (hr0.up (hD1 _ Ye)))<|Zi rfl<|L.n3<|Za rfl<|eQ rfl rfl rfl rfl aGL ?_);refine L.n1<|aF rfl (fun hc1=>?_) (fun hc1=>?_)
 ·refine C.s1<|Za rfl<|Zi rfl<|Zi rfl<|L.n5<|Zaj ?_;exact oO (vs:=[_,_]) rfl rfl rfl C.rs (fun D hD=>by show Value.tuple _=_;rw[oS,xT,aKS hc1,aKS hc1]<;>rfl)
 ·have hok:oG r:=P9.1 Yd;refine C.kn<|C.s1<|Zw rfl Tf.z3 rfl (fun q2=>Zw rfl Tf.z4 rfl (fun q3=>Zo rfl Tf.s3 (.tail (bO.head)) rfl<|Zo rfl Tf.s4 (bO.head) rfl<|L.n3<|Zw rfl Tf.z161 rfl (fun q4=>L.n4<|Zs rfl Tf.a28 rfl hB1 Tf.s28<|bU rfl rfl rfl (fun D2 hD2=>GC _ r _ (hr0.up (hD2 _ Ye)) hok.len9) rfl aGL (fun v2 D2 hD2 hp2=>L.n1 ?_))));refine Zai ?_;obtain⟨br,rfl,hit⟩:=hp2;refine oH (γ:=Option Int×List Int) (xs:=(cT r.places).map eB) (enc:=Z6) (Dr:=D2) (sE r) (fun _ _ _=>False) (fun g=>[(q4,.cells (ints g.2).toArray 161 (0,0)),(q3,.cells [.bool g.1.isSome].toArray 4 (0,0)),(q2,.cells [.int .i64 (g.1.getD 0)].toArray 3 (0,0))]) (none,List.replicate 9 0) rfl rfl rfl rfl hit Ye (fun _=>rfl) rfl ⟨rfl,rfl,fun u hu=>by simp at hu⟩ rfl ?_ ?_ (fun _ _ _ _ h=>h.elim)
  ·rintro pre x ⟨o,last⟩ ⟨us,hx⟩ hΦ l bd rec hh D7 hD7 hst hpend;obtain⟨t,hk,rfl,htm,htake⟩:=tG hx;obtain⟨hlen,htb⟩:=mQ htm;have htr:lN r t:=⟨hlen,htb⟩
   have hp9:=fA (t:=t) (by have:=hok.len9;omega);have hl9:last.length=9:=hΦ.2.1;refine C.rg<|Zw rfl Tf.z161 rfl (fun q5=>Zu rfl Tf.s161 (bO.head)<|Zz ?_);refine fun a w hhh=>tO (A:=[(_,_),(_,_),(_,_),(_,_)]) (B:=[(bd,.deferred (some []))]) (r:=rec) (l:=l) (by rfl) hst ?_ a w hhh
   refine Zai<|C.s2<|Zm rfl Tf.a4 rfl (List.Mem.tail _ (List.Mem.tail _ (List.Mem.head _))) rfl<|Za rfl ?_;refine' cQ [(false,2),(false,3),(false,4),(false,5)] [] (s:=20) (p:=24) rfl rfl (fun hg1=>?_) (fun hg1=>?_) ?_;rotate_left
   ·refine aY rfl Tf.a161 rfl (aNM _) Yx aJN rfl ⟨_,rfl,rfl⟩<|aY rfl Tf.a161 rfl (List.Mem.tail _ (List.Mem.head _)) Yx aJN rfl ⟨_,rfl,rfl⟩<|EI rfl Yg U161 U3 Yg hp9 hl9 rfl rfl rfl ⟨_,rfl,rfl⟩<|Zac rfl ?_;exact L.cu 3
   ·refine Zl rfl<|Zl rfl<|Zl rfl<|Zad rfl ?_;exact L.cu 3
   refine L.n1<|aJ rfl (fun hc2=>?_) (fun hc2=>?_)
   ·refine aR<|Zah<|Zal ?_;exact fun a w hh=>fS (A:=[(_,_),(_,_),(_,_)]) (B:=[(bd,.deferred (some []))]) (o,last) (BQ hΦ htm htake hc2) rfl rfl a w (hh.dropBoxes 1)
   ·refine C.kn<|C.s1<|aY rfl Tf.a161 rfl (List.Mem.head _) Yx aJN rfl trivial<|Zu rfl Tf.s161 (.tail (bO.head))<|L.n2<|C.drawA [] 4 9 198 (fun _ _ _ h=>h)<|Zs rfl Tf.a28 rfl hB1 Tf.s28<|aY rfl Tf.a161 rfl (List.Mem.head _) Yx aJN rfl trivial<|Zd rfl (fun D3 hD3=>wD t _ (by have:=hok.len9;omega) htb)<|Zd rfl (fun D4 hD4=>AO _ r t _ (hr0.up (hD4 _ Ye)) hok htr)<|Za rfl<|Zaa rfl ?_;refine Zaa rfl<|Zi rfl<|Zi rfl<|L.n3<|Za rfl<|Za rfl ?_;refine' cQ [(false,2),(false,3),(false,4),(false,5),(false,6),(false,7),(false,8),(false,9)] [] (s:=34) (p:=42) rfl rfl (fun hg2=>?_) (fun hg2=>?_) ?_;rotate_left
    ·refine aS rfl Tf.a4 rfl (aJS _ (aJS _ (aNM _))) rfl aJN rfl ⟨_,rfl,rfl⟩<|jT rfl rfl rfl ⟨_,rfl,rfl⟩<|Zb rfl ?_;refine' iE [(false,5),(false,6),(false,7),(false,8)] [(false,9)] (s:=37) (p:=41) rfl rfl (fun hg3=>?_) (fun hg3=>?_) ?_;rotate_left
     ·refine Zb rfl<|aS rfl Tf.a3 rfl (List.Mem.tail _ (List.Mem.tail _ (List.Mem.tail _ (List.Mem.head _)))) rfl aJN rfl ⟨_,rfl,rfl⟩<|UL rfl rfl rfl rfl ⟨_,rfl,rfl⟩<|mS rfl rfl rfl rfl ⟨_,rfl,rfl⟩ ?_;exact L.cu 3
     ·refine Zl rfl<|Zl rfl<|Zl rfl<|mZ rfl rfl rfl rfl ⟨_,rfl,rfl⟩ ?_;exact L.cu 3
     refine Zac rfl ?_;exact L.cu 4
    ·refine Zl rfl<|Zl rfl<|Zl rfl<|Zl rfl<|Zl rfl<|Zl rfl<|Zl rfl<|Zad rfl ?_;exact L.cu 7
    refine L.n1<|aJ rfl (fun hc3=>?_) (fun hc3=>?_)
    ·refine C.rg<|Za rfl<|Zo rfl Tf.s3 (.tail (.tail (.tail (bO.head)))) rfl<|Zo rfl Tf.s4 (.tail (.tail (bO.head))) rfl<|Zz<|Zak ?_;exact fun a w hh=>fS (A:=[(_,_),(_,_),(_,_)]) (B:=[(bd,.deferred (some []))]) (some (if dZ r t=true then(nP r t:Int)else 0),eB t) (JK hΦ hp9 htake hc3) rfl rfl a w (hh.dropBoxes 1)
    ·refine aAX<|Zak ?_;exact fun a w hh=>fS (A:=[(_,_),(_,_),(_,_)]) (B:=[(bd,.deferred (some []))]) (o,eB t) (NS hΦ hp9 htake hc3) rfl rfl a w (hh.dropBoxes 1)
  ·rintro⟨o,last⟩ bd hΦ;have ho:o=jV r (cT r.places):=by simpa [sE]using hΦ.1
   have hf0:aT r=0:=by omega
   refine Zak<|Zag<|C.s2<|Zm rfl Tf.a4 rfl (List.Mem.tail _ (List.Mem.head _)) rfl<|Zaf rfl<|L.n1<|aJ rfl (fun hc4=>?_) (fun hc4=>?_)
   ·refine C.s1<|Zi rfl<|Zi rfl<|L.n5<|Zaj ?_;exact qM (vs:=[_,_]) (A:=[(_,_),(_,_),(_,_)]) rfl rfl rfl C.rs (fun D hD=>by show Value.tuple _=_;rw[(aFU ho hf0 hc4).1,(aFU ho hf0 hc4).2]<;>rfl)
   ·refine C.kn<|C.s1<|Zm rfl Tf.a3 rfl (List.Mem.tail _ (List.Mem.tail _ (List.Mem.head _))) rfl<|Zi rfl<|Zi rfl<|L.n5 ?_;exact qM (vs:=[_,_]) (A:=[(_,_),(_,_),(_,_)]) rfl rfl rfl C.rs (fun D hD=>by show Value.tuple _=_;rw[(AS ho hf0 hc4).1,(AS ho hf0 hc4).2]<;>rfl)
end L1
end Go.Fs
namespace Go.Fs
variable{P:Program}{X:Cx}{γb:Type}[Membership Nat γb]{bad:γb}{all:Array Oper}{K:Act→World→Prop}{Q:Exit→Act→World→Prop}
variable{σ:bT}{μ:aC}{Ds:List aA}{os:List (Bool×Nat)}{fl:Bool}{ix:Nat}
variable{d:Nat}{x y z:Operand}{u v:Value}{ty:TypeId}{pos:String}{aft:Array Edge}{g:Option (Nat×Bool)}
structure zU(P:Program)(k:TypeId){α:Type}[DecidableEq α](val:α→Value):Prop where
 und:∃fs,P.underlying k=some (.struct fs)
 eq:∀a b w,(Op.equal k (val a) (val b)).run P w=.ok (decide (a=b)) w
 chk:∀em a w,(Instr.checkKey em 10000 k (val a)).run P w=.ok () w
 stay:∀a,Instr.sameBits 10000 (val a) (val a)=true
 agg:∀a,∃cs,val a=.agg cs
variable{α:Type}[DecidableEq α]{val:α→Value}
def qF(val:α→Value)(es:Array MapEntry)(M:List (α×Int)):Prop:=es.toList.map (fun e=>(e.key,e.val))=M.map fun x=>(val x.1,Value.int .i64 x.2)
def yG(a:α):List (α×Int)→Nat→Option (Nat×Int)
 | [],_=>none
 |(b,n)::M,i=>if a=b then some (i,n)else yG a M (i+1)
theorem xM{a:α}:∀{M:List (α×Int)} {i j:Nat} {n:Int},yG a M i=some (j,n)→∃k,j=i+k∧M[k]?= some (a,n)
 |(b,m)::M,i,j,n,h=>by
  simp only[yG]at h;split at h
  ·rename_i he;cases h;exact⟨0,rfl,by rw[he];rfl⟩
  ·obtain⟨k,rfl,hk⟩:=xM h;exact⟨k+1,by omega,by simpa using hk⟩
theorem qG{k:TypeId}(h:zU P k val)(a:α)(w:World):∀(es:List MapEntry) (M:List (α×Int)) (i:Nat),es.map (fun e=>(e.key,e.val))=M.map (fun x=>(val x.1,Value.int .i64 x.2))→
  (Instr.findAsking k (val a) es i).run P w=.ok ((yG a M i).map fun p=>(p.1,Value.int .i64 p.2)) w
 | [],[],i,_=>rfl
 | [],_::_,i,hm=>by simp at hm
 |e::es,[],i,hm=>by simp at hm
 |e::es,(b,n)::M,i,hm=>by
  simp only[aLB,aLS,aNY]at hm;obtain⟨⟨hk,hv⟩,hm⟩:=hm;simp only[Instr.findAsking,Sem.run_bind,hk,h.eq,Result.andThen_ok,yG];by_cases he:a=b
  ·subst he;simp only[decide_true,aMG,Sem.run_pure,hv];rfl
  ·simp only[he,decide_false,aLI,aMN];exact qG h a w es M (i+1) hm
theorem uI{k:TypeId}(h:zU P k val)(a:α)(w:World){es:List MapEntry}{M:List (α×Int)}(hm:es.map (fun e=>(e.key,e.val))=M.map (fun x=>(val x.1,Value.int .i64 x.2))):
  (Instr.findKey k (val a) es).run P w=.ok ((yG a M 0).map fun p=>(p.1,Value.int .i64 p.2)) w:=by
 obtain⟨fs,hu⟩:=h.und;unfold Instr.findKey;rw[Sem.run_bind,TU.of hu w];cases es with
 |nil=>
  cases M with
  |nil=>rfl
  |cons x M=>simp at hm
 |cons e es=>
  have hn:Instr.findNow (.struct fs) (val a) (e::es) 0=none:=by
   obtain⟨cs,hc⟩:=h.agg a;rw[hc];rfl
  simp only[Result.andThen_ok,hn];exact qG h a w (e::es) M 0 hm
theorem LA{t k e:TypeId}{b clock:Nat}{es:Array MapEntry}{M:List (α×Int)}{a:α}(ho:all[ix]?= some ⟨some d,.lookup t x y true,ty,pos,aft,g⟩)(ht:P.underlying t=some (.map k e))(hk:zU P k val)(hz:TZ P e (.int .i64 0))
  (hx:ev σ x=some (.map (some b))) (hy:ev σ y=some (val a)) (hm:(b,Obj.map es clock)∈μ) (hb:b∉bad) (hM:qF val es M) (hN:Nat.blt d X.N=true) (hg:cW all σ g)
  (kk:∀n ok,(ok=true→(a,n)∈M)→WL P X bad all K Q os ((d,.tuple #[.int .i64 n,.bool ok])::σ) μ Ds):WL P X bad all K Q ((fl,ix)::os) σ μ Ds:=by
 have run:∀w,w.heap[b]?= some (Obj.map es clock)→(Instr.lookup t (.map (some b)) (val a) true).run P w=.ok (.tuple #[.int .i64 (match yG a M 0 with|some (_,v)=>v|none=>0),.bool (yG a M 0).isSome]) w:=by
  intro w hw;have hf:=uI hk a w hM;unfold Instr.lookup;simp only[Sem.run_bind,TU.of ht w,Result.andThen_ok,gJ hw,Sem.run_pure,hk.chk];rw[hf];cases yG a M 0 with
  |none=>simp only[aMH,Result.andThen_ok,Sem.run_bind,hz w,Sem.run_pure];rfl
  |some r=>obtain⟨j,v⟩:=r;simp only[aLK,Result.andThen_ok];rfl
 refine jB ho rfl rfl hN hg (fun a' w hh w' hk'=>?_) (kk (match yG a M 0 with|some (_,v)=>v|none=>0) (yG a M 0).isSome fun hok=>?_)
 ·simp only[execOp,hh.eval hx,hh.eval hy,Sem.run_bind,run w' (hh.boxAt hm hb hk'),Result.andThen_ok,Sem.run_pure]
 ·cases hp:yG a M 0 with
  |none=>rw[hp]at hok;cases hok
  |some r=>
   obtain⟨j,n⟩:=r;obtain⟨i,_,hi⟩:=xM hp;exact aJV hi
theorem MH{t k e:TypeId}{b clock:Nat}{es:Array MapEntry}{M:List (α×Int)}{a:α}{n:Int}{A B:aC}(ho:all[ix]?= some ⟨none,.mapUpdate t x y z,ty,pos,aft,g⟩)(ht:P.underlying t=some (.map k e))(hk:zU P k val)
  (hx:ev σ x=some (.map (some b))) (hy:ev σ y=some (val a)) (hz:ev σ z=some (.int .i64 n)) (hM:qF val es M) (hg:cW all σ g)
  (kk:∀es' clock' M',qF val es' M'→(∀p∈M',p∈M∨p=(a,n))→WL P X bad all K Q os σ (A++(b,.map es' clock')::B) Ds):WL P X bad all K Q ((false,ix)::os) σ (A++(b,.map es clock)::B) Ds:=by
 refine dN ho rfl rfl hg fun a' w hh=>?_
 obtain⟨h1,h2,h3,D,h4,h5,h6⟩:=id hh;have hw:=(h4.box (b,.map es clock) Ye).1;have run:∃es' clock' M',qF val es' M'∧(∀p∈M',p∈M∨p=(a,n))∧(Instr.mapUpdate t (.map (some b)) (val a) (.int .i64 n)).run P w=.ok () {w with heap:=w.heap.setIfInBounds b (.map es' clock')}:=by
  have hf:=uI hk a w hM;have hset:∀o,(setObj b o).run P w=.ok () {w with heap:=w.heap.setIfInBounds b o}:=fun o=>by simp[setObj,Sem.run,hw]
  cases hp:yG a M 0 with
  |none=>
   refine⟨es.push {key:=val a,val:=.int .i64 n,born:=clock},clock+1,M++[(a,n)],?_,fun p hp=>by simpa using hp,?_⟩
   ·unfold qF at hM ⊢
    rw[Array.toList_push,aKN,aKN,hM];rfl
   ·unfold Instr.mapUpdate;simp only[Sem.run_bind,TU.of ht w,Result.andThen_ok,gJ hw,hk.chk];rw[hf,hp];simp only[aMH,Result.andThen_ok,hset]
  |some r=>
   obtain⟨j,m⟩:=r;obtain⟨i,hi0,hi⟩:=xM hp;rw[aNB]at hi0;subst hi0
   have hMi:∀i,(es.toList[i]?).map (fun e:MapEntry=>(e.key,e.val))=(M[i]?).map (fun x:α×Int=>(val x.1,Value.int .i64 x.2)):=fun i=>by rw[←aLC,←aLC,hM]
   have hj:=hMi j;rw[hi]at hj;obtain⟨e0,he0,hke⟩:=aMP.1 hj;simp only[aNY]at hke;have he0':es[j]?= some e0:=by simpa using he0
   refine⟨es.modify j fun e=>{e with key:=val a,val:=.int .i64 n},clock,M.set j (a,n),?_,fun p hp=>(List.mem_or_eq_of_mem_set hp),?_⟩
   ·unfold qF;apply aJM;intro q;rw[aLC,aLC,Array.getElem?_toList,Array.getElem?_modify,List.getElem?_set];have hq:=hMi q;rw[Array.getElem?_toList]at hq;by_cases hjq:j=q
    ·subst hjq;have hlt:=(aKH.1 hi).1;simp[he0',hlt]
    ·simp only[hjq,aMN];exact hq
   ·have hks:(Instr.keyThatStays (val a) (val a)).run P w=.ok (val a) w:=by
     have:Instr.sameBits 10000 (val a) (val a)=true:=hk.stay a;unfold Instr.keyThatStays;rw[aKS this,Sem.run_pure]
    unfold Instr.mapUpdate;simp only[Sem.run_bind,TU.of ht w,Result.andThen_ok,gJ hw,hk.chk];rw[hf,hp];simp only[aLK,Result.andThen_ok,he0',aNL,hke.1,Sem.run_bind,hks,hset]
 obtain⟨es',clock',M',hM',hmem,hr⟩:=run;have hHas:bO (A++(b,Obj.map es clock)::B) b (.map es clock) (.map es' clock') (A++(b,.map es' clock')::B):=.app .head;have hs:=h4.set (w':={w with heap:=w.heap.setIfInBounds b (.map es' clock')}) hHas ⟨rfl,rfl⟩ trivial;have:(execOp a'.eval ⟨none,.mapUpdate t x y z,ty,pos,aft,g⟩).run P w=.ok .skip {w with heap:=w.heap.setIfInBounds b (.map es' clock')}:=by
  simp only[execOp,hh.eval hx,hh.eval hy,hh.eval hz,Sem.run_bind,hr,Result.andThen_ok,Sem.run_pure]
 rw[this];exact⟨fun h=>by simp at h,kk es' clock' M' hM' hmem _ _ ⟨h1,h2,h3,D,hs,h5,h6.step (fun _ p hp=>aKP Yq) (fun _=>gC ⟨rfl,rfl⟩ (aJY.2 ⟨_,hHas.mem,rfl⟩)) hs.dom⟩⟩

structure lA(n:Nat) where
 l:List Int
 h:l.length=n
deriving DecidableEq
def pA{n:Nat}(a:lA n):Value:=.agg (ints a.l).toArray
def KA(P:Program)(k:TypeId)(n:Nat):Prop:=∃f0 f1 e,P.underlying k=some (.struct (P.fieldsOf k))∧P.stoodInHeld k=false∧P.fieldsOf k=#[f0,f1]∧f0.name≠ "_" ∧f1.name≠ "_" ∧f0.offset=0∧f1.offset=1∧
 P.underlying f0.type=some (.int .i64)∧P.underlying f1.type=some (.array n e)∧P.underlying e=some (.int .i64)∧P.cellsOf e=1∧TA P f1.type true∧TS P f1.type n∧TS P e 1
theorem OE{t:TypeId}{n:Nat}(ha:TA P t true)(hs:TS P t n){l:List Int}(hl:l.length=n+1)(w:World):(part t (ints l).toArray 1).run P w=.ok (.agg (ints (l.drop 1)).toArray) w:=by
 unfold part;simp only[Sem.run_bind,ha w,Result.andThen_ok,aMG,hs w,Sem.run_pure];congr 2;apply Array.ext';simp only[Array.toList_extract,List.extract_eq_take_drop,ints,List.map_drop];rw[aLA Yad]
theorem KA.key{k:TypeId}{n:Nat}(h:KA P k n):zU P k (pA (n:=n+1)):=by
 obtain⟨f0,f1,e,hu,hst,hf,n0,n1,o0,o1,t0,t1,te,hc,ha,hs,hse⟩:=h;have hsplit:∀a:lA (n+1),∃x r,a.l=x::r∧r.length=n:=by
  rintro⟨l,hl⟩;cases l with
  |nil=>simp at hl
  |cons x r=>exact⟨x,r,rfl,by simpa using hl⟩
 have p0:∀(x:Int) (r:List Int) (w:World),(part f0.type (ints (x::r)).toArray f0.offset).run P w=.ok (.int .i64 x) w:=fun x r w=>dT t0 (by rw[o0];rfl) w
 have p1:∀(x:Int) (r:List Int) (w:World),r.length=n→(part f1.type (ints (x::r)).toArray f1.offset).run P w=.ok (.agg (ints r).toArray) w:=fun x r w hr=>by
  rw[o1];exact OE ha hs (l:=x::r) (by simp[hr]) w
 refine⟨⟨_,hu⟩,fun a b w=>?_,fun em a w=>?_,fun a=>?_,fun a=>⟨_,rfl⟩⟩
 ·obtain⟨x,r,ea,hr⟩:=hsplit a;obtain⟨x',r',eb,hr'⟩:=hsplit b;have he:=run_equalIn_struct (P:=P) w 9999 k (ints (x::r)).toArray (ints (x'::r')).toArray hu hst;have hab:decide (a=b)=((x==x')&&(r==r')):=by
   rw[aNR];simp only[aKU,aKG,aJK];constructor
   ·rintro rfl;rw[ea]at eb;exact List.cons.inj eb
   ·rintro⟨h1,h2⟩;obtain⟨la,ha'⟩:=a;obtain⟨lb,hb'⟩:=b;simp only at ea eb;subst ea eb h1 h2;rfl
  show(Op.equalIn (9999+1) k (.agg (ints a.l).toArray) (.agg (ints b.l).toArray)).run P w=_;rw[ea,eb,he,hf,hab];have e0:=run_equalIn_int w 9998 f0.type .i64 .i64 x x' t0;obtain⟨inf,hinf⟩:=info_of_underlying te;have e1:=run_equalIn_array (P:=P) w 9998 (ints r).toArray (ints r').toArray t1 hinf;rw[hc,jF 9997 te r r' w (List.range n) (fun j hj=>by have:=aNN.1 hj;omega),rC hr hr']at e1
  have s1:(Op.eqFields 9999 (ints (x::r)).toArray (ints (x'::r')).toArray [f1]).run P w=.ok (r==r') w:=by
   simp only[Op.eqFields,n1,ne_eq,aNP,aMG,Sem.run_bind,p1 _ _ _ hr,p1 _ _ _ hr',Result.andThen_ok];rw[e1];simp only[Result.andThen_ok];cases r==r'<;>rfl
  show(Op.eqFields 9999 (ints (x::r)).toArray (ints (x'::r')).toArray (f0::[f1])).run P w=_;rw[Op.eqFields,aKS n0];simp only[Sem.run_bind,p0,Result.andThen_ok];rw[e0];simp only[Result.andThen_ok];cases hx:x==x' with
  |true=>
   simp only[aGH,aLI,aMN,aNI];rw[s1]
  |false=>simp only[aJQ,aMG,Sem.run_pure,Bool.false_and]
 ·obtain⟨x,r,ea,hr⟩:=hsplit a;have c0:(Instr.checkKey em (9998+1) f0.type (.int .i64 x)).run P w=.ok () w:=by
   rw[Instr.checkKey,Sem.run_bind,TU.of t0 w];rfl
  have ce:∀m:Int,(Instr.checkKey em (9997+1) e (.int .i64 m)).run P w=.ok () w:=fun m=>by
   rw[Instr.checkKey,Sem.run_bind,TU.of te w];rfl
  have c1:(Instr.checkKey em (9998+1) f1.type (.agg (ints r).toArray)).run P w=.ok () w:=by
   rw[Instr.checkKey,Sem.run_bind,TU.of t1 w];simp only[Result.andThen_ok];rw[Std.Legacy.Range.forIn_eq_forIn_range'];have key:∀(is:List Nat),(∀i∈is,i<n)→((forIn is PUnit.unit fun i _=>do Instr.checkKey em 9998 e (←part e (ints r).toArray (i*(←sizeOf e)));Pure.pure (ForInStep.yield PUnit.unit):Sem PUnit)).run P w=.ok PUnit.unit w:=by
    intro is;induction is with
    |nil=>intro _;rfl
    |cons i is ih=>
     intro hi;have hlt:=hi i aKI;have g1:(ints r).toArray[i*1]?= some (.int .i64 r[i]):=by rw[aND];simpa using cD (aJT (show i<r.length by omega))
     rw[List.forIn_cons];simp only[Sem.run_bind,hse w,Result.andThen_ok,dT te g1];rw[ce];simp only[Result.andThen_ok,Sem.run_pure];exact ih fun j hj=>hi j (aKA _ hj)
   have:=key (List.range' 0 n) (fun i hi=>by simpa using hi);simpa using this
  show(Instr.checkKey em (9999+1) k (.agg (ints a.l).toArray)).run P w=_;rw[ea,Instr.checkKey,Sem.run_bind,TU.of hu w];simp only[Result.andThen_ok];rw[hf,←Array.forIn_toList];simp only[List.forIn_cons,List.forIn_nil,n0,n1,ne_eq,aNP,aMG,Sem.run_bind,p0,Result.andThen_ok,Sem.run_pure];rw[c0];simp only[Result.andThen_ok,Sem.run_pure,Sem.run_bind,p1 _ _ _ hr];rw[c1];simp[Sem.run_pure,Result.andThen_ok]
 ·show Instr.sameBits (9999+1) (.agg (ints a.l).toArray) (.agg (ints a.l).toArray)=true;simp only[Instr.sameBits,beq_self_eq_true,aNI,aKX];rintro⟨p,q⟩ hpq;obtain⟨i,hi⟩:=aNW.1 hpq;rw[List.getElem?_zip_eq_some]at hi;obtain⟨h1,h2⟩:=hi;simp only at h1 h2;rw[h1]at h2;obtain rfl:=aKZ h2;have:p∈ints a.l:=aJV (by simpa using h1);obtain⟨m,_,rfl⟩:=aJY.1 this;simp[Instr.sameBits]
end Go.Fs
namespace Go.Fs
variable{P:Program}{X:Cx}{γb:Type}[Membership Nat γb]{bad:γb}{all:Array Oper}{K:Act→World→Prop}{Q:Exit→Act→World→Prop}
variable{σ:bT}{μ:aC}{Ds:List aA}{os:List (Bool×Nat)}{fl:Bool}{ix:Nat}
variable{d:Nat}{x y z:Operand}{u v:Value}{ty:TypeId}{pos:String}{aft:Array Edge}{g:Option (Nat×Bool)}
structure sF(P:Program)(f:Field)(o n:Nat):Prop where
 name:f.name≠ "_"
 eqp:∀(l m:List Int) w,o+n≤l.length→o+n≤m.length→∃u v,(part f.type (ints l).toArray f.offset).run P w=.ok u w∧(part f.type (ints m).toArray f.offset).run P w=.ok v w∧(Op.equalIn 9999 f.type u v).run P w=.ok ((l.drop o).take n==(m.drop o).take n) w
inductive L6(P:Program):Nat→Nat→List Field→Prop
 |nil {o}:L6 P o o []
 |cons {o n e f fs} (h:sF P f o n) (r:L6 P (o+n) e fs):L6 P o e (f::fs)
theorem L6.le{o e:Nat}{fs:List Field}(h:L6 P o e fs):o≤e:=by
 induction h with
 |nil=>exact aKR _
 |cons _ _ ih=>omega
theorem O1(l m:List Int)(o n:Nat):(l.drop o==m.drop o)=(((l.drop o).take n==(m.drop o).take n)&&(l.drop (o+n)==m.drop (o+n))):=by
 rw[aNR];simp only[aJK,aKG];constructor
 ·intro h;exact⟨by rw[h],by rw[←aGC,←aGC,h]⟩
 ·rintro⟨h1,h2⟩;rw[←aNU n (l.drop o),←aNU n (m.drop o),h1,aGC,aGC,h2]
theorem Z0(l m:List Int)(w:World){o e:Nat}{fs:List Field}(h:L6 P o e fs)(hl:l.length=e)(hm:m.length=e):(Op.eqFields 9999 (ints l).toArray (ints m).toArray fs).run P w=.ok (l.drop o==m.drop o) w:=by
 induction h with
 |nil=>
  rw[aLJ Yd,aLJ Yd];rfl
 | @cons o n e f fs h r ih=>
  have hle:=r.le;obtain⟨u,v,h1,h2,h3⟩:=h.eqp l m w Yd Yd;rw[Op.eqFields,aKS h.name];simp only[Sem.run_bind,h1,h2,Result.andThen_ok];rw[h3,O1 l m o n];simp only[Result.andThen_ok];cases hx:(l.drop o).take n==(m.drop o).take n with
  |true=>
   simp only[aGH,aLI,aMN,aNI];exact ih hl hm
  |false=>simp only[aJQ,aMG,Sem.run_pure,Bool.false_and]
theorem sF.int{f:Field}{o:Nat}(hn:f.name≠ "_")(ho:f.offset=o)(ht:P.underlying f.type=some (.int .i64)):sF P f o 1:=by
 refine⟨hn,fun l m w hl hm=>?_⟩;have h1:l[o]?= some (l[o]'Yd):=aJT _;have h2:m[o]?= some (m[o]'Yd):=aJT _;refine⟨.int .i64 l[o],.int .i64 m[o],dT ht (by rw[ho];simpa using cD h1) w,dT ht (by rw[ho];simpa using cD h2) w,?_⟩
 rw[run_equalIn_int w 9998 f.type .i64 .i64 _ _ ht];congr 1;have t1:(l.drop o).take 1=[l[o]]:=by rw[aLV (show o<l.length by omega)];rfl
 have t2:(m.drop o).take 1=[m[o]]:=by rw[aLV (show o<m.length by omega)];rfl
 rw[t1,t2];simp
theorem tW{t:TypeId}{n o:Nat}(ha:TA P t true)(hs:TS P t n){l:List Int}(_hl:o+n≤l.length)(w:World):(part t (ints l).toArray o).run P w=.ok (.agg (ints ((l.drop o).take n)).toArray) w:=by
 unfold part;simp only[Sem.run_bind,ha w,Result.andThen_ok,aMG,hs w,Sem.run_pure];congr 2;apply Array.ext';simp only[Array.toList_extract,List.extract_eq_take_drop,ints,List.map_drop,List.map_take];congr 1;omega
theorem sF.arr{f:Field}{o n:Nat}{e:TypeId}(hn:f.name≠ "_")(ho:f.offset=o)(ht:P.underlying f.type=some (.array n e))(he:P.underlying e=some (.int .i64))(hc:P.cellsOf e=1)(ha:TA P f.type true)(hs:TS P f.type n):sF P f o n:=by
 refine⟨hn,fun l m w hl hm=>⟨_,_,by rw[ho];exact tW ha hs hl w,by rw[ho];exact tW ha hs hm w,?_⟩⟩;obtain⟨i,hi⟩:=info_of_underlying he;have h:=run_equalIn_array (P:=P) w 9998 (ints ((l.drop o).take n)).toArray (ints ((m.drop o).take n)).toArray ht hi;have e1:((l.drop o).take n).length=n:=by rw[aMJ,aMR];omega
 have e2:((m.drop o).take n).length=n:=by rw[aMJ,aMR];omega
 rw[hc,jF 9997 he _ _ w (List.range n) (fun j hj=>by have:=aNN.1 hj;omega),rC e1 e2]at h;exact h
def KS(P:Program)(t:TypeId)(n:Nat):Prop:=P.underlying t=some (.struct (P.fieldsOf t))∧P.stoodInHeld t=false∧P.eqGuardType P.depth t=false∧L6 P 0 n (P.fieldsOf t).toList
theorem zO{t:TypeId}{n:Nat}(h:KS P t n){l m:List Int}(hl:l.length=n)(hm:m.length=n)(w:World):(Op.equal t (.agg (ints l).toArray) (.agg (ints m).toArray)).run P w=.ok (l==m) w:=by
 have he:=run_equalIn_struct (P:=P) w 9999 t (ints l).toArray (ints m).toArray h.1 h.2.1;show(Op.equalIn (9999+1) t (.agg (ints l).toArray) (.agg (ints m).toArray)).run P w=_;rw[he,Z0 l m w h.2.2.2 hl hm];simp
theorem ZV{t t':TypeId}{n:Nat}{l m:List Int}(ho:all[ix]?= some ⟨some d,.binOp .neq t x y t',ty,pos,aft,g⟩)(ht:KS P t n)(hl:l.length=n)(hm:m.length=n)(hx:ev σ x=some (.agg (ints l).toArray))(hy:ev σ y=some (.agg (ints m).toArray))(hN:Nat.blt d X.N=true)(hg:cW all σ g)
  (kk:WL P X bad all K Q os ((d,.bool (!(l==m)))::σ) μ Ds):WL P X bad all K Q ((fl,ix)::os) σ μ Ds:=
 DR ho (fun w=>by
  have hgd:(eqGuard .neq t x y (.agg (ints l).toArray) (.agg (ints m).toArray)).run P w=.ok () w:=by
   simp only[eqGuard,program];simp[Sem.run,ht.2.2.1,go_sem]
  rw[Sem.run_bind,hgd];show((do Pure.pure (Value.bool (!(←Op.equal t (.agg (ints l).toArray) (.agg (ints m).toArray))))):Sem Value).run P w=_;rw[Sem.run_bind,zO ht hl hm];rfl) hx hy hN hg kk
end Go.Fs
namespace Go.Fs
open Go.Proofs
namespace L2
open L1
open C2
open C1 (fL cG oY nG)
theorem mW{r:Int×Int}(h:fZ r=true):0≤r.1∧r.1≤r.2∧r.2≤99:=by
 unfold fZ eE at h;simp only[aKG,aKU,cG]at h;omega
theorem dM(n lo hi:Int)(D:aA):Fn Tryz.prog 126 #[.int .i64 n,.int .i64 lo,.int .i64 hi] D (fun _ v=>v=.bool (fL n lo hi)):=by
 refine enter 15 Tryz.func126 rfl rfl rfl rfl fun h0=>C.s1<|Zi rfl<|L.n3<|Za rfl<|Za rfl<|iM rfl rfl rfl rfl trivial<|Za rfl ?_
 refine' cQ [(false,4),(false,5),(false,6),(false,7)] [(false,8)] (s:=10) (p:=14) rfl rfl (fun hg1=>?_) (fun hg1=>?_) ?_;rotate_left
 ·refine Zb rfl<|Zb rfl<|iM rfl rfl rfl rfl ⟨_,rfl,rfl⟩<|Zac rfl ?_;exact L.cu 3
 ·refine Zl rfl<|Zl rfl<|Zl rfl<|Zad rfl ?_;exact L.cu 3
 refine Zi rfl<|L.n5 ?_;exact Zc [_] rfl ⟨rfl,aGL⟩ (fun D hD=>rfl)
theorem tV(n:Int)(D:aA):Fn Tryz.prog 203 #[iV n] D (fun _ v=>v=.bool (eE n)):=by
 refine enter 5 Tryz.func203 rfl rfl rfl rfl fun h0=>C.s1<|Zi rfl<|L.n3<|Za rfl<|Zd rfl (fun D1 hD1=>dM _ _ _ _)<|Zi rfl<|L.n5 ?_
 exact Zc [_] rfl ⟨rfl,aGL⟩ (fun D hD=>rfl)
theorem iS(sv:Value)(x:Int)(xs:List Int)(D:aA)(hS:Sl D RI 1 sv (x::xs)):
  Fn Tryz.prog 206 #[sv] D (fun _ v=>v=.int .i64 (xs.foldl min x)):=by
 refine enter 5 Tryz.func206 rfl rfl rfl rfl fun h0=>C.s1<|Zi rfl<|L.n3<|Za rfl<|Zd rfl (fun D1 hD1=>L1.K8 _ x xs _ (Sl.at RI.up hD1 Yk Ye))<|Zi rfl<|L.n5 ?_
 exact Zc [_] rfl ⟨rfl,aGL⟩ (fun D hD=>rfl)
theorem F9(r:Int×Int)(D:aA):Fn Tryz.prog 202 #[iP r] D (fun _ v=>v=.bool (fZ r)):=by
 refine enter 18 Tryz.func202 rfl rfl rfl rfl fun h0=>C.s1<|Zv rfl (fun q1 E1 hE1 hB1=>Zi rfl<|L.n3<|Zj rfl Tf.f76_0 rfl<|Zg 0 rfl Tf.a3 rfl hB1 rfl<|Zj rfl Tf.f76_1 rfl<|Zg 1 rfl Tf.a3 rfl hB1 rfl<|iM rfl rfl rfl rfl trivial<|Za rfl ?_)
 refine' cQ [(false,6),(false,7),(false,8),(false,9)] [(false,10),(false,11),(false,12),(false,13),(false,14),(false,15)] (s:=8) (p:=12) rfl rfl (fun hg1=>?_) (fun hg1=>?_) ?_;rotate_left
 ·refine Zk rfl Tf.f76_0 rfl<|Zh 0 rfl Tf.a3 rfl hB1 rfl<|Ze rfl (fun D1 hD1=>tV _ _)<|Zac rfl ?_;exact L.cu 3
 ·refine Zl rfl<|Zl rfl<|Zl rfl<|Zad rfl ?_;exact L.cu 3
 refine Za rfl ?_;refine' cQ [(false,11),(false,12),(false,13),(false,14)] [(false,15)] (s:=13) (p:=17) rfl rfl (fun hg2=>?_) (fun hg2=>?_) ?_;rotate_left
 ·refine Zk rfl Tf.f76_1 rfl<|Zh 1 rfl Tf.a3 rfl hB1 rfl<|Ze rfl (fun D2 hD2=>tV _ _)<|Zac rfl ?_;exact L.cu 3
 ·refine Zl rfl<|Zl rfl<|Zl rfl<|Zad rfl ?_;exact L.cu 3
 refine Zi rfl<|L.n5 ?_;exact Zc [_] rfl ⟨rfl,aGL⟩ (fun D hD=>rfl)
theorem GI(r:Int×Int)(h:fZ r=true)(D:aA):Fn Tryz.prog 207 #[iP r] D (fun _ v=>v=.int .i64 (eW r)):=by
 have hb:=mW h;refine enter 9 Tryz.func207 rfl rfl rfl rfl fun h0=>C.s1<|Zv rfl (fun q1 E1 hE1 hB1=>Zi rfl<|L.n3<|Zj rfl Tf.f76_1 rfl<|Zg 1 rfl Tf.a3 rfl hB1 rfl<|Zj rfl Tf.f76_0 rfl<|Zg 0 rfl Tf.a3 rfl hB1 rfl<|fW rfl rfl rfl Yf rfl trivial<|Zy rfl<|Zi rfl ?_);refine L.n5 ?_
 exact Zc [_] rfl ⟨rfl,aGL⟩ (fun D hD=>rfl)
theorem B2(r:Int×Int)(n:Int)(D:aA):Fn Tryz.prog 211 #[iP r,.int .i64 n] D (fun _ v=>v=.bool (fL n r.1 r.2)):=by
 refine enter 11 Tryz.func211 rfl rfl rfl rfl fun h0=>C.s1<|Zv rfl (fun q1 E1 hE1 hB1=>Zi rfl<|L.n3<|Za rfl<|Zj rfl Tf.f76_0 rfl<|Zg 0 rfl Tf.a3 rfl hB1 rfl<|Zj rfl Tf.f76_1 rfl<|Zg 1 rfl Tf.a3 rfl hB1 rfl<|Zd rfl (fun D1 hD1=>dM _ _ _ _)<|Zi rfl ?_);refine L.n5 ?_
 exact Zc [_] rfl ⟨rfl,aGL⟩ (fun D hD=>rfl)
theorem nW(r:Int×Int)(n:Int)(D:aA):Fn Tryz.prog 128 #[iP r,.int .i64 n] D (fun _ v=>v=iP (min r.1 n,max r.2 n)):=by
 refine enter 15 Tryz.func128 rfl rfl rfl rfl fun h0=>C.s1<|Zv rfl (fun q1 E1 hE1 hB1=>Zw rfl Tf.z76 rfl (fun q2=>L.n2<|iH [] 4 [0,1,2,5,6,7,8,3,4,9,10] [false,false,true,true,true,true,true,true,true,false,false] [(false,0),(false,1),(true,2),(true,5),(true,6),(true,7),(true,8),(true,3),(true,4),(false,9),(false,10)] Tf.follows (fun _ _ _ h=>cZ (P:=Tryz.prog) (fn:=Tryz.f128) _ _ _ h) Yg rfl<|Zj rfl Tf.f76_0 rfl<|Zg 0 rfl Tf.a3 rfl hB1 rfl<|Za rfl<|Zj rfl Tf.f76_1 rfl<|Zg 1 rfl Tf.a3 rfl hB1 rfl<|Za rfl ?_));refine oV rfl rfl rfl rfl trivial<|Zr rfl U25 Tf.s3 Tf.z3 rfl rfl rfl rfl (.cons rfl rfl (.cons rfl rfl .nil)) (fun b901 D901 hD901 hA901=>?_)
 have hS901:=Sl.ofInts (l:=[_,_]) (n:=2) (cap:=2) hA901 rfl Yd Yd;refine Zd rfl (fun D1 hD1=>iS _ r.1 [n] _ (hS901.up RI.up (hD1 _ Ye)))<|Zq [.int .i64 (min r.1 n),.int .i64 (max r.2 n)] rfl Tf.p76 Tf.z76 rfl rfl<|Zu rfl Tf.s76 (bO.head)<|L.n5 ?_;exact Zc [_] rfl ⟨⟨_,_,_,rfl,(List.Mem.head _),Or.inr ⟨Tf.a76,(by first|exact Tf.s76|(simp only[aLH,aI, *];exact Tf.s76)),rfl⟩⟩,aGL⟩ (fun D hD=>rfl)
theorem GU(tv:Value)(t:bA)(n:Int)(D:aA)(ht:gL D tv t):Fn Tryz.prog 129 #[tv,.int .i64 n] D (fun _ v=>v=.bool (T9 t.last n)):=by
 have ht0:=ht;obtain⟨hv,lv,mv,rfl,hh,hl,hm⟩:=ht;have hll:=hl.len;refine enter 9 Tryz.func129 rfl rfl rfl rfl fun h0=>C.s1<|Zv rfl (fun q1 E1 hE1 hB1=>Zi rfl<|L.n3<|Za rfl<|Zj rfl Tf.f32_0 rfl<|Zg 0 rfl Tf.a3 rfl hB1 rfl<|Zd rfl (fun D1 hD1=>dM _ _ _ _)<|Zi rfl<|L.n5 ?_)
 exact Zc [_] rfl ⟨rfl,aGL⟩ (fun D hD=>rfl)
theorem aAK(tv:Value)(t:bA)(n:Int)(D:aA)(ht:gL D tv t):Fn Tryz.prog 77 #[tv,.int .i64 n] D (fun _ v=>v=.bool (fL n 0 ((t.levels.length:Int)-1))):=by
 have ht0:=ht;obtain⟨hv,lv,mv,rfl,hh,hl,hm⟩:=ht;have hll:=hl.len;refine enter 11 Tryz.func77 rfl rfl rfl rfl fun h0=>C.s1<|Zv rfl (fun q1 E1 hE1 hB1=>Zi rfl<|L.n3<|Za rfl<|Zj rfl Tf.f32_3 rfl<|Zg 3 rfl Tf.a25 rfl hB1 rfl<|aW rfl U25 rfl Yk rfl rfl trivial<|fW rfl rfl rfl Yf rfl trivial<|Zd rfl (fun D1 hD1=>dM _ _ _ _)<|Zi rfl ?_);refine L.n5 ?_
 exact Zc [_] rfl ⟨rfl,aGL⟩ (fun D hD=>rfl)
theorem p8(tv:Value)(t:bA)(a b:Int)(D:aA)(ht:gL D tv t):Fn Tryz.prog 80 #[tv,.int .i64 a,.int .i64 b] D (fun _ v=>v=.bool (nS t.last a b)):=by
 have ht0:=ht;obtain⟨hv,lv,mv,rfl,hh,hl,hm⟩:=ht;have hll:=hl.len;refine enter 20 Tryz.func80 rfl rfl rfl rfl fun h0=>C.s1<|Zv rfl (fun q1 E1 hE1 hB1=>Zi rfl<|L.n3<|Zs rfl Tf.a32 rfl hB1 Tf.s32<|Za rfl<|Zd rfl (fun D1 hD1=>GU _ t _ _ (ht0.up (hD1 _ Ye)))<|Za rfl ?_)
 refine' cQ [(false,4),(false,5),(false,6),(false,7)] [(false,8),(false,9),(false,10),(false,11),(false,12),(false,13)] (s:=10) (p:=14) rfl rfl (fun hg1=>?_) (fun hg1=>?_) ?_;rotate_left
 ·refine cO rfl Tf.a32 rfl hB1 Yc Tf.s32 aJN rfl ⟨_,rfl,rfl⟩<|Zb rfl<|Ze rfl (fun D2 hD2=>GU _ t _ _ (ht0.up (hD2 _ Ye)))<|Zac rfl ?_;exact L.cu 3
 ·refine Zl rfl<|Zl rfl<|Zl rfl<|Zad rfl ?_;exact L.cu 3
 refine Za rfl ?_;refine' cQ [(false,9),(false,10),(false,11),(false,12)] [(false,13)] (s:=15) (p:=19) rfl rfl (fun hg2=>?_) (fun hg2=>?_) ?_;rotate_left
 ·refine Zb rfl<|Zb rfl<|iM rfl rfl rfl rfl ⟨_,rfl,rfl⟩<|Zac rfl ?_;exact L.cu 3
 ·refine Zl rfl<|Zl rfl<|Zl rfl<|Zad rfl ?_;exact L.cu 3
 refine Zi rfl<|L.n5 ?_;exact Zc [_] rfl ⟨rfl,aGL⟩ (fun D hD=>rfl)
theorem XK(tv:Value)(t:bA)(m:Mk)(D:aA)(ht:gL D tv t):Fn Tryz.prog 200 #[tv,aCD m] D (fun _ v=>v=.bool (pQ t.last m)):=by
 have ht0:=ht;obtain⟨hv,lv,mv,rfl,hh,hl,hm⟩:=ht;refine enter 16 Tryz.func200 rfl rfl rfl rfl fun h0=>C.s1<|Zv rfl (fun q1 E1 hE1 hB1=>Zv rfl (fun q2 E2 hE2 hB2=>Zi rfl<|L.n3<|Zs rfl Tf.a32 rfl hB1 Tf.s32<|Zj rfl Tf.f131_0 rfl<|Zg 0 rfl Tf.a3 rfl hB2 rfl<|Zj rfl Tf.f131_1 rfl<|Zg 1 rfl Tf.a3 rfl hB2 rfl<|Zd rfl (fun D1 hD1=>p8 _ t _ _ _ (ht0.up (hD1 _ Ye))) ?_));refine Za rfl ?_
 refine' cQ [(false,7),(false,8),(false,9),(false,10)] [(false,11)] (s:=11) (p:=15) rfl rfl (fun hg1=>?_) (fun hg1=>?_) ?_;rotate_left
 ·refine Zk rfl Tf.f131_2 rfl<|dO rfl (k:=2) Tf.a76 Tf.s76 rfl hB2 Yc rfl rfl aJN rfl ⟨_,rfl,rfl⟩<|Ze rfl (fun D2 hD2=>F9 (m.lo,m.hi) _)<|Zac rfl ?_;exact L.cu 3
 ·refine Zl rfl<|Zl rfl<|Zl rfl<|Zad rfl ?_;exact L.cu 3
 refine Zi rfl<|L.n5 ?_;exact Zc [_] rfl ⟨rfl,aGL⟩ (fun D hD=>rfl)
theorem oZ(sv fv:Value)(xs:List (Int×Int))(p:(Int×Int)→Bool)(D:aA)(hS:Sl D zX 2 sv xs)(hp:cF Tryz.prog D iP fv p):
  Fn Tryz.prog 282 #[sv,fv] D (fun _ v=>v=.int .i64 (idxOf p xs)):=by
 have hl:=hS.len;obtain⟨f,c1,c2,rfl,hf⟩:=hp;refine enter 19 Tryz.func282 rfl rfl rfl rfl fun h0=>C.s1<|Zi rfl<|L.n4<|Za rfl<|aW rfl U29 rfl Yk rfl rfl trivial<|Za rfl<|L.n1<|Zai<|cN (γ:=Nat) (fun k=>xs.length-k) (fun k=>k≤xs.length∧(xs.take k).any p=false) (fun k=>[(8,.int .i64 k)]) [(7,_),(4,_),(0,_),(1,_)] (fun k=>[D]) 0 Ye ⟨Yb,aGL⟩ C.rs (aD) ?_
 rintro k ⟨h1,h2⟩;refine C.s1<|Zae rfl<|L.n2<|aF rfl (fun hc1=>?_) (fun hc1=>?_)
 ·have hk:k<xs.length:=by omega
  obtain⟨x,hx⟩:∃x,xs[k]?= some x:=⟨_,aJT hk⟩
  refine C.kn<|aCX<|Zai<|C.s1<|Za rfl<|Zi rfl<|L.n3<|Za rfl<|Za rfl<|Za rfl<|cR rfl U29 Tf.s76 rfl Yk rfl Yd Yk rfl aGL (fun b1 o1 cs1 hr1 hcl1 hA1=>?_);obtain rfl:cs1=[.int .i64 _,.int .i64 _]:=hr1;refine Zs rfl Tf.a76 rfl hA1 Tf.s76<|Zd rfl (fun D1 hD1=>hf x _ (hD1 _ Ye))<|L.n1<|aJ rfl (fun hc2=>?_) (fun hc2=>?_)
  ·refine C.s1<|Za rfl<|Zi rfl<|L.n5<|BW<|Zaj<|Zaj<|BW<|Zaj ?_;exact Zc [_] rfl ⟨rfl,aGL⟩ (fun D hD=>by show Value.int _ _=_;rw[L1.gN hx h2 hc2])
  ·refine aAX<|Zak<|Zag<|C.rg<|Zy rfl<|Za rfl<|Zz ?_;have hpx:p x=false:=hc2;have h3:(xs.take (k+1)).any p=false:=by rw[aKL,hx,aMY,h2];simp[hpx]
   exact aH 12 (k+1) ⟨by omega,h3⟩ Yd ⟨Yb,aGL⟩ rfl rfl (aJU _) (aD)
 ·refine aR<|Zah<|Zah<|Zal<|Zag<|C.s1<|Zi rfl<|L.n5 ?_;exact Zc [_] rfl ⟨rfl,aGL⟩ (fun D hD=>by show Value.int _ _=_;rw[L1.eT Yab])
theorem lL(sv fv:Value)(xs:List (Int×Int))(p:(Int×Int)→Bool)(D:aA)(hS:Sl D zX 2 sv xs)(hp:cF Tryz.prog D iP fv p):
  Fn Tryz.prog 259 #[sv,fv] D (fun _ v=>v=.bool (xs.any p)):=by
 refine enter 9 Tryz.func259 rfl rfl rfl rfl fun h0=>C.s1<|Zi rfl<|L.n3<|Za rfl<|Za rfl<|Zd rfl (fun D1 hD1=>oZ _ _ xs p _ (Sl.at zX.up hD1 Yk Ye) (hp.up (hD1 _ Ye)))<|nI rfl rfl rfl rfl trivial<|Zi rfl<|L.n5 ?_
 exact Zc [_] rfl ⟨rfl,aGL⟩ (fun D hD=>by show Value.bool (decide _)=_;rw[L1.gO])
theorem I7(b:Nat)(fv:Value)(p:(Int×Int)→Bool)(x:(Int×Int))(D:aA)(hp:cF Tryz.prog D iP fv p)(hB:At D b 0 [fv]):
  Fn Tryz.prog 260 #[iP x,.pointer (some ⟨b,0,none⟩)] D (fun _ v=>v=.bool (!p x)):=by
 obtain⟨f,c1,c2,rfl,hf⟩:=hp;refine enter 8 Tryz.func260 rfl rfl rfl rfl fun h0=>C.s1<|Zv rfl (fun q1 E1 hE1 hB1=>Zi rfl<|L.n3<|Zg 0 rfl Tf.a308 rfl hB rfl<|Zs rfl Tf.a76 rfl hB1 Tf.s76<|Zd rfl (fun D1 hD1=>hf x _ (hD1 _ Ye))<|Zaf rfl<|Zi rfl<|L.n5 ?_)
 exact Zc [_] rfl ⟨rfl,aGL⟩ (fun D hD=>rfl)
theorem d5(sv fv:Value)(xs:List (Int×Int))(p:(Int×Int)→Bool)(D:aA)(hS:Sl D zX 2 sv xs)(hp:cF Tryz.prog D iP fv p)(h1:fv.cells=#[fv]):
  Fn Tryz.prog 201 #[sv,fv] D (fun _ v=>v=.bool (xs.all p)):=by
 refine enter 9 Tryz.func201 rfl rfl rfl rfl fun h0=>C.s1<|mJ (vs:=[fv]) rfl rfl h1 rfl aGL (fun b D1 hD1 hB=>Zi rfl<|L.n3<|Za rfl<|bE rfl rfl rfl rfl trivial<|Zd rfl (fun D1 hD1=>lL _ _ xs (fun x=> !p x) _ (Sl.at zX.up hD1 Yk Ye) ⟨_,[],[.pointer (some ⟨b,0,none⟩)],rfl,fun x D2 hl=>I7 b fv p x D2 (hp.up ((hD1 _ Ye).trans hl)) (hB.up ((hD1 _ Ye).trans hl))⟩)<|Zaf rfl<|Zi rfl<|L.n5 ?_)
 exact Zc [_] rfl ⟨rfl,aGL⟩ (fun D hD=>by show Value.bool (!_)=_;rw[L1.jX])
theorem P7(sv fv:Value)(xs:List Mk)(p:Mk→Bool)(D:aA)(hS:Sl D p4 4 sv xs)(hp:cF Tryz.prog D aCD fv p):
  Fn Tryz.prog 283 #[sv,fv] D (fun _ v=>v=.int .i64 (idxOf p xs)):=by
 have hl:=hS.len;obtain⟨f,c1,c2,rfl,hf⟩:=hp;refine enter 19 Tryz.func283 rfl rfl rfl rfl fun h0=>C.s1<|Zi rfl<|L.n4<|Za rfl<|aW rfl U30 rfl Yk rfl rfl trivial<|Za rfl<|L.n1<|Zai<|cN (γ:=Nat) (fun k=>xs.length-k) (fun k=>k≤xs.length∧(xs.take k).any p=false) (fun k=>[(8,.int .i64 k)]) [(7,_),(4,_),(0,_),(1,_)] (fun k=>[D]) 0 Ye ⟨Yb,aGL⟩ C.rs (aD) ?_
 rintro k ⟨h1,h2⟩;refine C.s1<|Zae rfl<|L.n2<|aF rfl (fun hc1=>?_) (fun hc1=>?_)
 ·have hk:k<xs.length:=by omega
  obtain⟨x,hx⟩:∃x,xs[k]?= some x:=⟨_,aJT hk⟩
  refine C.kn<|aCX<|Zai<|C.s1<|Za rfl<|Zi rfl<|L.n3<|Za rfl<|Za rfl<|Za rfl<|cR rfl U30 Tf.s131 rfl Yk rfl Yd Yk rfl aGL (fun b1 o1 cs1 hr1 hcl1 hA1=>?_);obtain rfl:cs1=[.int .i64 _,.int .i64 _,.int .i64 _,.int .i64 _]:=hr1;refine Zs rfl Tf.a131 rfl hA1 Tf.s131<|Zd rfl (fun D1 hD1=>hf x _ (hD1 _ Ye))<|L.n1<|aJ rfl (fun hc2=>?_) (fun hc2=>?_)
  ·refine C.s1<|Za rfl<|Zi rfl<|L.n5<|BW<|Zaj<|Zaj<|BW<|Zaj ?_;exact Zc [_] rfl ⟨rfl,aGL⟩ (fun D hD=>by show Value.int _ _=_;rw[L1.gN hx h2 hc2])
  ·refine aAX<|Zak<|Zag<|C.rg<|Zy rfl<|Za rfl<|Zz ?_;have hpx:p x=false:=hc2;have h3:(xs.take (k+1)).any p=false:=by rw[aKL,hx,aMY,h2];simp[hpx]
   exact aH 12 (k+1) ⟨by omega,h3⟩ Yd ⟨Yb,aGL⟩ rfl rfl (aJU _) (aD)
 ·refine aR<|Zah<|Zah<|Zal<|Zag<|C.s1<|Zi rfl<|L.n5 ?_;exact Zc [_] rfl ⟨rfl,aGL⟩ (fun D hD=>by show Value.int _ _=_;rw[L1.eT Yab])
theorem yO(sv fv:Value)(xs:List Mk)(p:Mk→Bool)(D:aA)(hS:Sl D p4 4 sv xs)(hp:cF Tryz.prog D aCD fv p):
  Fn Tryz.prog 262 #[sv,fv] D (fun _ v=>v=.bool (xs.any p)):=by
 refine enter 9 Tryz.func262 rfl rfl rfl rfl fun h0=>C.s1<|Zi rfl<|L.n3<|Za rfl<|Za rfl<|Zd rfl (fun D1 hD1=>P7 _ _ xs p _ (Sl.at p4.up hD1 Yk Ye) (hp.up (hD1 _ Ye)))<|nI rfl rfl rfl rfl trivial<|Zi rfl<|L.n5 ?_
 exact Zc [_] rfl ⟨rfl,aGL⟩ (fun D hD=>by show Value.bool (decide _)=_;rw[L1.gO])
theorem RE(b:Nat)(fv:Value)(p:Mk→Bool)(x:Mk)(D:aA)(hp:cF Tryz.prog D aCD fv p)(hB:At D b 0 [fv]):
  Fn Tryz.prog 263 #[aCD x,.pointer (some ⟨b,0,none⟩)] D (fun _ v=>v=.bool (!p x)):=by
 obtain⟨f,c1,c2,rfl,hf⟩:=hp;refine enter 8 Tryz.func263 rfl rfl rfl rfl fun h0=>C.s1<|Zv rfl (fun q1 E1 hE1 hB1=>Zi rfl<|L.n3<|Zg 0 rfl Tf.a306 rfl hB rfl<|Zs rfl Tf.a131 rfl hB1 Tf.s131<|Zd rfl (fun D1 hD1=>hf x _ (hD1 _ Ye))<|Zaf rfl<|Zi rfl<|L.n5 ?_)
 exact Zc [_] rfl ⟨rfl,aGL⟩ (fun D hD=>rfl)
theorem VX(sv fv:Value)(xs:List Mk)(p:Mk→Bool)(D:aA)(hS:Sl D p4 4 sv xs)(hp:cF Tryz.prog D aCD fv p)(h1:fv.cells=#[fv]):
  Fn Tryz.prog 205 #[sv,fv] D (fun _ v=>v=.bool (xs.all p)):=by
 refine enter 9 Tryz.func205 rfl rfl rfl rfl fun h0=>C.s1<|mJ (vs:=[fv]) rfl rfl h1 rfl aGL (fun b D1 hD1 hB=>Zi rfl<|L.n3<|Za rfl<|bE rfl rfl rfl rfl trivial<|Zd rfl (fun D1 hD1=>yO _ _ xs (fun x=> !p x) _ (Sl.at p4.up hD1 Yk Ye) ⟨_,[],[.pointer (some ⟨b,0,none⟩)],rfl,fun x D2 hl=>RE b fv p x D2 (hp.up ((hD1 _ Ye).trans hl)) (hB.up ((hD1 _ Ye).trans hl))⟩)<|Zaf rfl<|Zi rfl<|L.n5 ?_)
 exact Zc [_] rfl ⟨rfl,aGL⟩ (fun D hD=>by show Value.bool (!_)=_;rw[L1.jX])
theorem sV(b:Nat)(fv:Value)(p:Int→Bool)(x:Int)(D:aA)(hp:cF Tryz.prog D iV fv p)(hB:At D b 0 [fv]):
  Fn Tryz.prog 261 #[iV x,.pointer (some ⟨b,0,none⟩)] D (fun _ v=>v=.bool (!p x)):=by
 obtain⟨f,c1,c2,rfl,hf⟩:=hp;refine enter 8 Tryz.func261 rfl rfl rfl rfl fun h0=>C.s1<|Zi rfl<|L.n3<|Zg 0 rfl Tf.a172 rfl hB rfl<|Za rfl<|Zd rfl (fun D1 hD1=>hf x _ (hD1 _ Ye))<|Zaf rfl<|Zi rfl<|L.n5 ?_
 exact Zc [_] rfl ⟨rfl,aGL⟩ (fun D hD=>rfl)
theorem wN(sv fv:Value)(xs:List Int)(p:Int→Bool)(D:aA)(hS:Sl D RI 1 sv xs)(hp:cF Tryz.prog D iV fv p)(h1:fv.cells=#[fv]):
  Fn Tryz.prog 204 #[sv,fv] D (fun _ v=>v=.bool (xs.all p)):=by
 refine enter 9 Tryz.func204 rfl rfl rfl rfl fun h0=>C.s1<|mJ (vs:=[fv]) rfl rfl h1 rfl aGL (fun b D1 hD1 hB=>Zi rfl<|L.n3<|Za rfl<|bE rfl rfl rfl rfl trivial<|Zd rfl (fun D1 hD1=>L1.iZ _ _ xs (fun x=> !p x) _ (Sl.at RI.up hD1 Yk Ye) ⟨_,[],[.pointer (some ⟨b,0,none⟩)],rfl,fun x D2 hl=>sV b fv p x D2 (hp.up ((hD1 _ Ye).trans hl)) (hB.up ((hD1 _ Ye).trans hl))⟩)<|Zaf rfl<|Zi rfl<|L.n5 ?_)
 exact Zc [_] rfl ⟨rfl,aGL⟩ (fun D hD=>by show Value.bool (!_)=_;rw[L1.jX])
theorem PF(sv:Value)(x:Int)(xs:List Int)(D:aA)(hS:Sl D RI 1 sv (x::xs)):
  Fn Tryz.prog 212 #[sv] D (fun _ v=>v=.int .i64 (xs.foldl max x)):=by
 have hl:=hS.len;simp only[aKD]at hl;refine enter 25 Tryz.func212 rfl rfl rfl rfl fun h0=>C.s1<|Zi rfl<|L.n4<|Za rfl<|aW rfl U25 rfl Yk rfl rfl trivial<|Zae rfl<|L.n1<|aF rfl (fun hc1=>?_) (fun hc1=>?_)
 ·exact absurd hc1 (by simp only[aKD];omega)
 ·refine C.kn<|C.s1<|Za rfl<|cR rfl U25 Tf.s3 rfl Yk rfl Yd (by rfl) rfl aGL (fun b1 o1 cs1 hr1 hcl1 hA1=>?_);obtain rfl:cs1=[.int .i64 _]:=hr1;refine Zg 0 rfl Tf.a3 rfl hA1 rfl<|Zi rfl<|L.n4<|Zi rfl<|L.n1<|Zai<|cN (γ:=Nat) (fun k=>xs.length-k) (fun k=>k≤xs.length) (fun k=>[(3,.int .i64 ((xs.take k).foldl max x)),(4,.int .i64 (k+1:Int))]) [(2,_),(0,_)] (fun k=>[D]) 0 Yd ⟨Yb,Yb,aGL⟩ C.rs (aD) ?_;rintro k h1;refine C.s2<|Za rfl<|Za rfl<|aW rfl U25 rfl Yk rfl rfl trivial<|Zae rfl<|L.n1<|aF rfl (fun hc2=>?_) (fun hc2=>?_)
  ·simp only[aKD]at hc2;have hk:k<xs.length:=by omega
   obtain⟨y,hy⟩:∃y,xs[k]?= some y:=⟨_,aJT hk⟩
   have hy2:(x::xs)[(k+1:Int).toNat]?= some y:=by rw[show((k:Int)+1).toNat=k+1 by omega];simpa using hy
   refine C.kn<|aCX<|Zai<|C.rg<|Za rfl<|Za rfl<|Za rfl<|cR rfl U25 Tf.s3 rfl Yk rfl Yd Yk rfl aGL (fun b2 o2 cs2 hr2 hcl2 hA2=>?_);obtain rfl:cs2=[.int .i64 _]:=hr2;refine Zg 0 rfl Tf.a3 rfl hA2 rfl<|oV rfl rfl rfl rfl trivial<|Zi rfl<|Zz<|Zak<|Zag<|C.rg<|Za rfl<|Zy rfl<|Zi rfl<|Zz ?_;have h3:(xs.take (k+1)).foldl max x=max ((xs.take k).foldl max x) y:=by rw[aKL,hy,aMA];rfl
   exact aH 16 (k+1) Yd Yd ⟨(by rw[h3];rfl),Yb,aGL⟩ rfl rfl (aJU _) (aD)
  ·simp only[aKD]at hc2;refine aR<|Zah<|Zah<|Zal<|Zag<|C.s1<|Za rfl<|Zi rfl<|L.n5 ?_;exact Zc [_] rfl ⟨rfl,aGL⟩ (fun D hD=>by show Value.int _ _=_;rw[aLA Yd])
end L2
end Go.Fs
namespace Go.Fs
variable{P:Program}{X:Cx}{γb:Type}[Membership Nat γb]{bad:γb}{all:Array Oper}{K:Act→World→Prop}{Q:Exit→Act→World→Prop}
variable{σ:bT}{μ:aC}{Ds:List aA}{os:List (Bool×Nat)}{fl:Bool}{ix:Nat}
variable{d:Nat}{x y z:Operand}{u v:Value}{ty:TypeId}{pos:String}{aft:Array Edge}{g:Option (Nat×Bool)}
theorem K2.key{k:TypeId}(h:K2 P k):zU P k iP:=by
 refine⟨⟨_,h.1⟩,fun a b w=>?_,fun em a w=>zV h em a w,fun a=>?_,fun a=>⟨_,rfl⟩⟩
 ·rw[wI h];congr 1;by_cases e:a=b
  ·subst e;simp
  ·simp[e]
 ·simp[iP,Instr.sameBits]

theorem GG{em:Bool}{t e:TypeId}{n:Nat}(t1:P.underlying t=some (.array n e))(te:P.underlying e=some (.int .i64))(hse:TS P e 1){r:List Int}(hr:r.length=n)(w:World):(Instr.checkKey em (9998+1) t (.agg (ints r).toArray)).run P w=.ok () w:=by
 have ce:∀m:Int,(Instr.checkKey em (9997+1) e (.int .i64 m)).run P w=.ok () w:=fun m=>by
  rw[Instr.checkKey,Sem.run_bind,TU.of te w];rfl
 rw[Instr.checkKey,Sem.run_bind,TU.of t1 w];simp only[Result.andThen_ok];rw[Std.Legacy.Range.forIn_eq_forIn_range'];have key:∀(is:List Nat),(∀i∈is,i<n)→((forIn is PUnit.unit fun i _=>do Instr.checkKey em 9998 e (←part e (ints r).toArray (i*(←sizeOf e)));Pure.pure (ForInStep.yield PUnit.unit):Sem PUnit)).run P w=.ok PUnit.unit w:=by
  intro is;induction is with
  |nil=>intro _;rfl
  |cons i is ih=>
   intro hi;have hlt:=hi i aKI;have g1:(ints r).toArray[i*1]?= some (.int .i64 r[i]):=by rw[aND];simpa using cD (aJT (show i<r.length by omega))
   rw[List.forIn_cons];simp only[Sem.run_bind,hse w,Result.andThen_ok,dT te g1];rw[ce];simp only[Result.andThen_ok,Sem.run_pure];exact ih fun j hj=>hi j (aKA _ hj)
 have:=key (List.range' 0 n) (fun i hi=>by simpa using hi);simpa using this
def KM(P:Program)(k:TypeId)(n:Nat):Prop:=∃f0 f1 f2 e,P.underlying k=some (.struct (P.fieldsOf k))∧P.fieldsOf k=#[f0,f1,f2]∧f0.name≠ "_" ∧f1.name≠ "_" ∧f2.name≠ "_" ∧f0.offset=0∧f1.offset=1∧f2.offset=n+1∧
 P.underlying f0.type=some (.int .i64)∧P.underlying f1.type=some (.array n e)∧P.underlying f2.type=some (.array n e)∧P.underlying e=some (.int .i64)∧TA P f1.type true∧TS P f1.type n∧TA P f2.type true∧TS P f2.type n∧TS P e 1
theorem KM.key{k:TypeId}{n:Nat}(h:KM P k n)(hks:KS P k (n+n+1)):zU P k (pA (n:=n+n+1)):=by
 obtain⟨f0,f1,f2,e,hu,hf,n0,n1,n2,o0,o1,o2,t0,t1,t2,te,a1,s1,a2,s2,hse⟩:=h;refine⟨⟨_,hu⟩,fun a b w=>?_,fun em a w=>?_,fun a=>?_,fun a=>⟨_,rfl⟩⟩
 ·have:=zO (P:=P) hks a.h b.h w;show(Op.equal k (.agg (ints a.l).toArray) (.agg (ints b.l).toArray)).run P w=_;rw[this];congr 1;obtain⟨la,ha⟩:=a;obtain⟨lb,hb⟩:=b;rw[aNR];simp
 ·have hl:=a.h;have c0:∀x:Int,(Instr.checkKey em (9998+1) f0.type (.int .i64 x)).run P w=.ok () w:=fun x=>by
   rw[Instr.checkKey,Sem.run_bind,TU.of t0 w];rfl
  obtain⟨x,hx⟩:∃x,a.l[0]?= some x:=⟨_,aJT Yd⟩
  have p0:(part f0.type (ints a.l).toArray f0.offset).run P w=.ok (.int .i64 x) w:=dT t0 (by rw[o0];simpa using cD hx) w;have p1:(part f1.type (ints a.l).toArray f1.offset).run P w=.ok (.agg (ints ((a.l.drop 1).take n)).toArray) w:=by rw[o1];exact tW a1 s1 Yd w
  have p2:(part f2.type (ints a.l).toArray f2.offset).run P w=.ok (.agg (ints ((a.l.drop (n+1)).take n)).toArray) w:=by rw[o2];exact tW a2 s2 Yd w
  have c1:=GG (em:=em) t1 te hse (r:=(a.l.drop 1).take n) (by rw[aMJ,aMR];omega) w;have c2:=GG (em:=em) t2 te hse (r:=(a.l.drop (n+1)).take n) (by rw[aMJ,aMR];omega) w
  show(Instr.checkKey em (9999+1) k (.agg (ints a.l).toArray)).run P w=_;rw[Instr.checkKey,Sem.run_bind,TU.of hu w];simp only[Result.andThen_ok];rw[hf,←Array.forIn_toList];simp only[List.forIn_cons,List.forIn_nil,n0,n1,n2,ne_eq,aNP,aMG,Sem.run_bind,p0,Result.andThen_ok,Sem.run_pure];rw[c0];simp only[Result.andThen_ok,Sem.run_pure,Sem.run_bind,p1];rw[c1];simp only[Result.andThen_ok,Sem.run_pure,Sem.run_bind,p2];rw[c2];simp[Sem.run_pure,Result.andThen_ok]
 ·show Instr.sameBits (9999+1) (.agg (ints a.l).toArray) (.agg (ints a.l).toArray)=true;simp only[Instr.sameBits,beq_self_eq_true,aNI,aKX];rintro⟨p,q⟩ hpq;obtain⟨i,hi⟩:=aNW.1 hpq;rw[List.getElem?_zip_eq_some]at hi;obtain⟨h1,h2⟩:=hi;simp only at h1 h2;rw[h1]at h2;obtain rfl:=aKZ h2;have:p∈ints a.l:=aJV (by simpa using h1);obtain⟨m,_,rfl⟩:=aJY.1 this;simp[Instr.sameBits]
variable{α β:Type}[DecidableEq α]{val:α→Value}{wal:β→Value}
def oA(val:α→Value)(wal:β→Value)(es:Array MapEntry)(M:List (α×β)):Prop:=es.toList.map (fun e=>(e.key,e.val))=M.map fun x=>(val x.1,wal x.2)
def sO(a:α):List (α×β)→Nat→Option (Nat×β)
 | [],_=>none
 |(b,n)::M,i=>if a=b then some (i,n)else sO a M (i+1)
theorem tS{a:α}:∀{M:List (α×β)} {i j:Nat} {n:β},sO a M i=some (j,n)→∃k,j=i+k∧M[k]?= some (a,n)
 |(b,m)::M,i,j,n,h=>by
  simp only[sO]at h;split at h
  ·rename_i he;cases h;exact⟨0,rfl,by rw[he];rfl⟩
  ·obtain⟨k,rfl,hk⟩:=tS h;exact⟨k+1,by omega,by simpa using hk⟩
theorem pT{k:TypeId}(h:zU P k val)(a:α)(w:World):∀(es:List MapEntry) (M:List (α×β)) (i:Nat),es.map (fun e=>(e.key,e.val))=M.map (fun x=>(val x.1,wal x.2))→
  (Instr.findAsking k (val a) es i).run P w=.ok ((sO a M i).map fun p=>(p.1,wal p.2)) w
 | [],[],i,_=>rfl
 | [],_::_,i,hm=>by simp at hm
 |e::es,[],i,hm=>by simp at hm
 |e::es,(b,n)::M,i,hm=>by
  simp only[aLB,aLS,aNY]at hm;obtain⟨⟨hk,hv⟩,hm⟩:=hm;simp only[Instr.findAsking,Sem.run_bind,hk,h.eq,Result.andThen_ok,sO];by_cases he:a=b
  ·subst he;simp only[decide_true,aMG,Sem.run_pure,hv];rfl
  ·simp only[he,decide_false,aLI,aMN];exact pT h a w es M (i+1) hm
theorem oT{k:TypeId}(h:zU P k val)(a:α)(w:World){es:List MapEntry}{M:List (α×β)}(hm:es.map (fun e=>(e.key,e.val))=M.map (fun x=>(val x.1,wal x.2))):
  (Instr.findKey k (val a) es).run P w=.ok ((sO a M 0).map fun p=>(p.1,wal p.2)) w:=by
 obtain⟨fs,hu⟩:=h.und;unfold Instr.findKey;rw[Sem.run_bind,TU.of hu w];cases es with
 |nil=>
  cases M with
  |nil=>rfl
  |cons x M=>simp at hm
 |cons e es=>
  have hn:Instr.findNow (.struct fs) (val a) (e::es) 0=none:=by
   obtain⟨cs,hc⟩:=h.agg a;rw[hc];rfl
  simp only[Result.andThen_ok,hn];exact pT h a w (e::es) M 0 hm
theorem xS{t k e:TypeId}{b clock:Nat}{es:Array MapEntry}{M:List (α×β)}{a:α}(ho:all[ix]?= some ⟨some d,.lookup t x y true,ty,pos,aft,g⟩)(ht:P.underlying t=some (.map k e))(hk:zU P k val){z0:Value}(hz:TZ P e z0)
  (hx:ev σ x=some (.map (some b))) (hy:ev σ y=some (val a)) (hm:(b,Obj.map es clock)∈μ) (hb:b∉bad) (hM:oA val wal es M) (hN:Nat.blt d X.N=true) (hg:cW all σ g)
  (kk:∀n ok,(ok=true→∃r,n=wal r∧(a,r)∈M)→(ok=false→n=z0)→WL P X bad all K Q os ((d,.tuple #[n,.bool ok])::σ) μ Ds):WL P X bad all K Q ((fl,ix)::os) σ μ Ds:=by
 have run:∀w,w.heap[b]?= some (Obj.map es clock)→(Instr.lookup t (.map (some b)) (val a) true).run P w=.ok (.tuple #[(match sO a M 0 with|some (_,v)=>wal v|none=>z0),.bool (sO a M 0).isSome]) w:=by
  intro w hw;have hf:=oT hk a w hM;unfold Instr.lookup;simp only[Sem.run_bind,TU.of ht w,Result.andThen_ok,gJ hw,Sem.run_pure,hk.chk];rw[hf];cases sO a M 0 with
  |none=>simp only[aMH,Result.andThen_ok,Sem.run_bind,hz w,Sem.run_pure];rfl
  |some r=>obtain⟨j,v⟩:=r;simp only[aLK,Result.andThen_ok];rfl
 refine jB ho rfl rfl hN hg (fun a' w hh w' hk'=>?_) (kk (match sO a M 0 with|some (_,v)=>wal v|none=>z0) (sO a M 0).isSome (fun hok=>?_) fun hok=>?_)
 ·simp only[execOp,hh.eval hx,hh.eval hy,Sem.run_bind,run w' (hh.boxAt hm hb hk'),Result.andThen_ok,Sem.run_pure]
 ·cases hp:sO a M 0 with
  |none=>rw[hp]at hok;cases hok
  |some r=>
   obtain⟨j,n⟩:=r;obtain⟨i,_,hi⟩:=tS hp;exact⟨n,rfl,aJV hi⟩
 ·cases hp:sO a M 0 with
  |none=>rfl
  |some r=>rw[hp]at hok;cases hok
theorem jC{t k e:TypeId}{b clock:Nat}{es:Array MapEntry}{M:List (α×β)}{a:α}{n:β}{A B:aC}(ho:all[ix]?= some ⟨none,.mapUpdate t x y z,ty,pos,aft,g⟩)(ht:P.underlying t=some (.map k e))(hk:zU P k val)
  (hx:ev σ x=some (.map (some b))) (hy:ev σ y=some (val a)) (hz:ev σ z=some (wal n)) (hM:oA val wal es M) (hg:cW all σ g)
  (kk:∀es' clock' M',oA val wal es' M'→(∀p∈M',p∈M∨p=(a,n))→WL P X bad all K Q os σ (A++(b,.map es' clock')::B) Ds):WL P X bad all K Q ((false,ix)::os) σ (A++(b,.map es clock)::B) Ds:=by
 refine dN ho rfl rfl hg fun a' w hh=>?_
 obtain⟨h1,h2,h3,D,h4,h5,h6⟩:=id hh;have hw:=(h4.box (b,.map es clock) Ye).1;have run:∃es' clock' M',oA val wal es' M'∧(∀p∈M',p∈M∨p=(a,n))∧(Instr.mapUpdate t (.map (some b)) (val a) (wal n)).run P w=.ok () {w with heap:=w.heap.setIfInBounds b (.map es' clock')}:=by
  have hf:=oT hk a w hM;have hset:∀o,(setObj b o).run P w=.ok () {w with heap:=w.heap.setIfInBounds b o}:=fun o=>by simp[setObj,Sem.run,hw]
  cases hp:sO a M 0 with
  |none=>
   refine⟨es.push {key:=val a,val:=wal n,born:=clock},clock+1,M++[(a,n)],?_,fun p hp=>by simpa using hp,?_⟩
   ·unfold oA at hM ⊢
    rw[Array.toList_push,aKN,aKN,hM];rfl
   ·unfold Instr.mapUpdate;simp only[Sem.run_bind,TU.of ht w,Result.andThen_ok,gJ hw,hk.chk];rw[hf,hp];simp only[aMH,Result.andThen_ok,hset]
  |some r=>
   obtain⟨j,m⟩:=r;obtain⟨i,hi0,hi⟩:=tS hp;rw[aNB]at hi0;subst hi0
   have hMi:∀i,(es.toList[i]?).map (fun e:MapEntry=>(e.key,e.val))=(M[i]?).map (fun x:α×β=>(val x.1,wal x.2)):=fun i=>by rw[←aLC,←aLC,hM]
   have hj:=hMi j;rw[hi]at hj;obtain⟨e0,he0,hke⟩:=aMP.1 hj;simp only[aNY]at hke;have he0':es[j]?= some e0:=by simpa using he0
   refine⟨es.modify j fun e=>{e with key:=val a,val:=wal n},clock,M.set j (a,n),?_,fun p hp=>(List.mem_or_eq_of_mem_set hp),?_⟩
   ·unfold oA;apply aJM;intro q;rw[aLC,aLC,Array.getElem?_toList,Array.getElem?_modify,List.getElem?_set];have hq:=hMi q;rw[Array.getElem?_toList]at hq;by_cases hjq:j=q
    ·subst hjq;have hlt:=(aKH.1 hi).1;simp[he0',hlt]
    ·simp only[hjq,aMN];exact hq
   ·have hks:(Instr.keyThatStays (val a) (val a)).run P w=.ok (val a) w:=by
     have:Instr.sameBits 10000 (val a) (val a)=true:=hk.stay a;unfold Instr.keyThatStays;rw[aKS this,Sem.run_pure]
    unfold Instr.mapUpdate;simp only[Sem.run_bind,TU.of ht w,Result.andThen_ok,gJ hw,hk.chk];rw[hf,hp];simp only[aLK,Result.andThen_ok,he0',aNL,hke.1,Sem.run_bind,hks,hset]
 obtain⟨es',clock',M',hM',hmem,hr⟩:=run;have hHas:bO (A++(b,Obj.map es clock)::B) b (.map es clock) (.map es' clock') (A++(b,.map es' clock')::B):=.app .head;have hs:=h4.set (w':={w with heap:=w.heap.setIfInBounds b (.map es' clock')}) hHas ⟨rfl,rfl⟩ trivial;have:(execOp a'.eval ⟨none,.mapUpdate t x y z,ty,pos,aft,g⟩).run P w=.ok .skip {w with heap:=w.heap.setIfInBounds b (.map es' clock')}:=by
  simp only[execOp,hh.eval hx,hh.eval hy,hh.eval hz,Sem.run_bind,hr,Result.andThen_ok,Sem.run_pure]
 rw[this];exact⟨fun h=>by simp at h,kk es' clock' M' hM' hmem _ _ ⟨h1,h2,h3,D,hs,h5,h6.step (fun _ p hp=>aKP Yq) (fun _=>gC ⟨rfl,rfl⟩ (aJY.2 ⟨_,hHas.mem,rfl⟩)) hs.dom⟩⟩
end Go.Fs
namespace Go.Fs
variable{P:Program}{X:Cx}{γb:Type}[Membership Nat γb]{bad:γb}{all:Array Oper}{K:Act→World→Prop}{Q:Exit→Act→World→Prop}
variable{σ:bT}{μ:aC}{Ds:List aA}{os:List (Bool×Nat)}{fl:Bool}{ix:Nat}
variable{d:Nat}{x y z:Operand}{u v:Value}{ty:TypeId}{pos:String}{aft:Array Edge}{g:Option (Nat×Bool)}
def ZH:Unit→Value:=fun _=>.bool true
structure pP(es:Array MapEntry)(clock:Nat)(S:List (Int×Int)):Prop where
 cells:oA iP ZH es (S.map fun a=>(a,()))
 nd:(es.toList.map (·.born)).Nodup
 lt:∀e∈es.toList,e.born<clock
theorem pP.nil:pP #[] 0 []:=⟨rfl,aMC,fun e he=>by simp at he⟩
def y6(S:List (Int×Int))(a:Int×Int):List (Int×Int):=if a∈S then S else S++[a]
theorem SY{S:List (Int×Int)}{a p:Int×Int}:p∈y6 S a ↔ p∈S∨p=a:=by
 unfold y6;split
 ·rename_i h;exact⟨aKP,fun h'=>h'.elim id fun e=>e▸h⟩
 ·simp
theorem pP.key{es:Array MapEntry}{clock:Nat}{S:List (Int×Int)}(h:pP es clock S){e:MapEntry}(he:e∈es.toList):∃a∈S,e.key=iP a∧e.val=.bool true:=by
 have h1:=h.cells;unfold oA at h1;obtain⟨i,hi⟩:=aNW.1 he;have h2:(es.toList.map fun e=>(e.key,e.val))[i]?= some (e.key,e.val):=by rw[aLC,hi];rfl
 rw[h1,aJJ,aLC]at h2;obtain⟨a,ha,hk⟩:=aMP.1 h2;simp only[Function.comp,aNY]at hk;exact⟨a,aJV ha,hk.1.symm,hk.2.symm⟩
theorem pP.ent{es:Array MapEntry}{clock:Nat}{S:List (Int×Int)}(h:pP es clock S){a:Int×Int}(ha:a∈S):∃e∈es.toList,e.key=iP a:=by
 have h1:=h.cells;unfold oA at h1;obtain⟨i,hi⟩:=aNW.1 ha;have h2:((S.map fun a=>(a,())).map fun x=>(iP x.1,ZH x.2))[i]?= some (iP a,.bool true):=by rw[aJJ,aLC,hi];rfl
 rw[←h1,aLC]at h2;obtain⟨e,he,hk⟩:=aMP.1 h2;simp only[aNY]at hk;exact⟨e,aJV he,hk.1⟩
theorem JH{S:List (Int×Int)}{a:Int×Int}:∀{i:Nat},sO a (S.map fun a=>(a,())) i=none→a∉S:=by
 induction S with
 |nil=>intro i _;exact aJN
 |cons b S ih=>
  intro i h;simp only[aLB,sO]at h;split at h
  ·cases h
  ·rename_i hne;intro hm;rcases aJX.1 hm with e|hm
   ·exact hne e
   ·exact ih h hm
theorem aAZ{t k e:TypeId}{b clock:Nat}{es:Array MapEntry}{S:List (Int×Int)}{a:Int×Int}{A B:aC}(ho:all[ix]?= some ⟨none,.mapUpdate t x y z,ty,pos,aft,g⟩)(ht:P.underlying t=some (.map k e))(hk:K2 P k)
  (hx:ev σ x=some (.map (some b))) (hy:ev σ y=some (iP a)) (hz:ev σ z=some (.bool true)) (hM:pP es clock S) (hg:cW all σ g)
  (kk:∀es' clock',pP es' clock' (y6 S a)→WL P X bad all K Q os σ (A++(b,.map es' clock')::B) Ds):WL P X bad all K Q ((false,ix)::os) σ (A++(b,.map es clock)::B) Ds:=by
 refine dN ho rfl rfl hg fun a' w hh=>?_
 obtain⟨h1,h2,h3,D,h4,h5,h6⟩:=id hh;have hw:=(h4.box (b,.map es clock) Ye).1;have hK:=hk.key;have run:∃es' clock',pP es' clock' (y6 S a)∧(Instr.mapUpdate t (.map (some b)) (iP a) (.bool true)).run P w=.ok () {w with heap:=w.heap.setIfInBounds b (.map es' clock')}:=by
  have hf:=oT (wal:=ZH) hK a w hM.cells;have hset:∀o,(setObj b o).run P w=.ok () {w with heap:=w.heap.setIfInBounds b o}:=fun o=>by simp[setObj,Sem.run,hw]
  cases hp:sO a (S.map fun a=>(a,())) 0 with
  |none=>
   have hna:=JH hp;refine⟨es.push {key:=iP a,val:=.bool true,born:=clock},clock+1,⟨?_,?_,?_⟩,?_⟩
   ·have hM':=hM.cells;unfold oA at hM' ⊢
    unfold y6;rw[aKO hna,Array.toList_push,aKN,hM',aKN,aKN];rfl
   ·rw[Array.toList_push,aKN,aKE];refine⟨hM.nd,by simp,fun b1 hb1 b2 hb2=>?_⟩;obtain⟨e1,he1,rfl⟩:=aJY.1 hb1;have:=hM.lt e1 he1;simp only[aLB,aOC,aKQ]at hb2;omega
   ·intro e1 he1;rw[Array.toList_push]at he1;rcases aKM.1 he1 with he1|he1
    ·have:=hM.lt e1 he1;omega
    ·simp only[aKQ]at he1;subst he1;exact Nat.lt_succ_self _
   ·unfold Instr.mapUpdate;simp only[Sem.run_bind,TU.of ht w,Result.andThen_ok,gJ hw,hK.chk];rw[hf,hp];simp only[aMH,Result.andThen_ok,hset]
  |some r=>
   obtain⟨j,m⟩:=r;obtain⟨i,hi0,hi⟩:=tS hp;rw[aNB]at hi0;subst hi0
   have hSj:S[j]?= some a:=by
    rw[aLC]at hi;obtain⟨a',ha',hk'⟩:=aMP.1 hi;rw[ha',(Prod.mk.inj hk').1]
   have hMi:∀i,(es.toList[i]?).map (fun e:MapEntry=>(e.key,e.val))=(S[i]?).map (fun x:Int×Int=>(iP x,Value.bool true)):=fun i=>by
    have:=hM.cells;unfold oA at this;rw[←aLC,this,aJJ,aLC];rfl
   have hj:=hMi j;rw[hSj]at hj;obtain⟨e0,he0,hke⟩:=aMP.1 hj;simp only[aNY]at hke;have he0':es[j]?= some e0:=by simpa using he0
   have hmod:es.modify j (fun e=>{e with key:=iP a,val:=.bool true})=es:=by
    apply Array.ext_getElem?;intro q;rw[Array.getElem?_modify];by_cases hjq:j=q
    ·subst hjq;simp only[he0',aMG,aLK];obtain⟨k0,v0,b0⟩:=e0;simp only at hke;rw[hke.1,hke.2]
    ·simp[hjq]
   refine⟨es,clock,?_,?_⟩
   ·unfold y6;rw[aKS (aJV hSj)];exact hM
   ·have hks:(Instr.keyThatStays (iP a) (iP a)).run P w=.ok (iP a) w:=by
     have:Instr.sameBits 10000 (iP a) (iP a)=true:=hK.stay a;unfold Instr.keyThatStays;rw[aKS this,Sem.run_pure]
    unfold Instr.mapUpdate;simp only[Sem.run_bind,TU.of ht w,Result.andThen_ok,gJ hw,hK.chk];rw[hf,hp];simp only[aLK,Result.andThen_ok,he0',aNL,hke.1,Sem.run_bind,hks,hset,hmod]
 obtain⟨es',clock',hM',hr⟩:=run;have hHas:bO (A++(b,Obj.map es clock)::B) b (.map es clock) (.map es' clock') (A++(b,.map es' clock')::B):=.app .head;have hs:=h4.set (w':={w with heap:=w.heap.setIfInBounds b (.map es' clock')}) hHas ⟨rfl,rfl⟩ trivial;have:(execOp a'.eval ⟨none,.mapUpdate t x y z,ty,pos,aft,g⟩).run P w=.ok .skip {w with heap:=w.heap.setIfInBounds b (.map es' clock')}:=by
  simp only[execOp,hh.eval hx,hh.eval hy,hh.eval hz,Sem.run_bind,hr,Result.andThen_ok,Sem.run_pure]
 rw[this];exact⟨fun h=>by simp at h,kk es' clock' hM' _ _ ⟨h1,h2,h3,D,hs,h5,h6.step (fun _ p hp=>aKP Yq) (fun _=>gC ⟨rfl,rfl⟩ (aJY.2 ⟨_,hHas.mem,rfl⟩)) hs.dom⟩⟩
theorem NM{t k e:TypeId}{b clock:Nat}{es:Array MapEntry}(ho:all[ix]?= some ⟨some d,.range t x,ty,pos,aft,g⟩)(ht:P.underlying t=some (.map k e))(hx:ev σ x=some (.map (some b)))(hm:(b,Obj.map es clock)∈μ)(hN:Nat.blt d X.N=true)(hg:cW all σ g)
  (kk:∀r,WL P X bad all K Q os ((d,.pointer (some ⟨r,0,none⟩))::σ) ((r,.mapIter (some b) clock #[] clock)::μ) Ds):WL P X bad all K Q ((fl,ix)::os) σ μ Ds:=by
 refine dN ho rfl rfl hg fun a w hh=>?_
 obtain⟨h1,h2,h3,D,h4,h5,h6⟩:=id hh;have:(execOp a.eval ⟨some d,.range t x,ty,pos,aft,g⟩).run P w=.ok (.value (.pointer (some ⟨w.heap.size,0,none⟩))) {w with heap:=w.heap.push (.mapIter (some b) clock #[] clock)}:=by
  simp only[execOp,hh.eval hx,Sem.run_bind,run_range_map w t k e b es clock ht (h4.box _ hm).1,Result.andThen_ok,Sem.run_pure];rfl
 rw[this];exact⟨fun _=>lK _ _ _,kk _ _ _ (Hl.put ⟨h1,h2,h3,D,h4.push _ (show cK (.mapIter (some b) clock #[] clock)from aGL),h5,h6.step (fun _ p hp=>by rcases aJX.1 hp with rfl|hp;exact Or.inr (aKR _);exact Or.inl (aJY.2 ⟨p,hp,rfl⟩)) (fun _=>wZ _ _) (h4.push _ (show cK (.mapIter (some b) clock #[] clock)from aGL)).dom⟩ hN _)⟩
theorem YA{b r since c0 clock:Nat}{seen:Array Nat}{es:Array MapEntry}{A B:aC}(ho:all[ix]?= some ⟨some d,.next x false,ty,pos,aft,g⟩)(hx:ev σ x=some (.pointer (some ⟨r,0,none⟩)))(hm:(b,Obj.map es clock)∈A++(r,.mapIter (some b) since seen c0)::B)
  (hold:∀e∈es.toList,e.born<since) (hsc:since≤c0) (hN:Nat.blt d X.N=true) (hg:cW all σ g)
  (kk:∀(ok:Bool) (vs:Array Value) (o':Obj),vs.toList[0]?= some (.bool ok)→(ok=false→(leftOf es seen).size=0∧o'=.mapIter (some b) since seen c0)→(ok=true→∃e∈(leftOf es seen).toList,o'=.mapIter (some b) since (seen.push e.born) clock)→WL P X bad all K Q os ((d,.tuple vs)::σ) (A++(r,o')::B) Ds):
  WL P X bad all K Q ((false,ix)::os) σ (A++(r,.mapIter (some b) since seen c0)::B) Ds:=by
 refine dN ho rfl rfl hg fun a w hh=>?_
 have hh0:=hh;obtain⟨h1,h2,h3,D,h4,h5,h6⟩:=id hh;have hr:=(h4.box (r,.mapIter (some b) since seen c0) Ye).1;have hb:=(h4.box _ hm).1;rcases run_next_at (P:=P) w ty r b since c0 seen es clock hr hb hold hsc with⟨hl,hrun⟩|⟨e,he,w1,hw1,hrun⟩
 ·have:(execOp a.eval ⟨some d,.next x false,ty,pos,aft,g⟩).run P w=.ok (.value (.tuple #[.bool false])) w:=by
   simp only[execOp,hh.eval hx,Sem.run_bind,hrun,Result.andThen_ok,Sem.run_pure]
  rw[this];exact⟨fun h=>by simp at h,kk false _ _ rfl (fun _=>⟨hl,rfl⟩) (fun h=>by cases h) _ _ (hh0.put hN _)⟩
 ·have hh1:Hl X σ (A++(r,.mapIter (some b) since seen c0)::B) Ds a w1:=by
   rcases hw1 with rfl|rfl
   ·exact hh0
   ·exact hh0.drew
  have:(execOp a.eval ⟨some d,.next x false,ty,pos,aft,g⟩).run P w=.ok (.value (.tuple #[.bool true,e.key,e.val])) (ChangeMaps.setBlock w1 r (.mapIter (some b) since (seen.push e.born) clock)):=by
   simp only[execOp,hh.eval hx,Sem.run_bind,hrun,Result.andThen_ok,Sem.run_pure]
  rw[this];obtain⟨h1,h2,h3,D,h4,h5,h6⟩:=hh1;have hHas:bO (A++(r,Obj.mapIter (some b) since seen c0)::B) r (.mapIter (some b) since seen c0) (.mapIter (some b) since (seen.push e.born) clock) (A++(r,.mapIter (some b) since (seen.push e.born) clock)::B):=.app .head;have hs:=h4.set (w':=ChangeMaps.setBlock w1 r (.mapIter (some b) since (seen.push e.born) clock)) hHas ⟨rfl,rfl⟩ trivial;exact⟨fun h=>by simp at h,kk true _ _ rfl (fun h=>by cases h) (fun _=>⟨e,he,rfl⟩) _ _ (Hl.put ⟨h1,h2,h3,D,hs,h5,h6.step (fun _ p hp=>aKP Yq) (fun _=>gC ⟨rfl,rfl⟩ (aJY.2 ⟨_,hHas.mem,rfl⟩)) hs.dom⟩ hN _)⟩
theorem SQ{b r since clock:Nat}{seen:Array Nat}{es:Array MapEntry}{e:MapEntry}(ho:all[ix]?= some ⟨some d,.entry x,ty,pos,aft,g⟩)(hx:ev σ x=some (.pointer (some ⟨r,0,none⟩)))(hm:(b,Obj.map es clock)∈μ)(hr:(r,Obj.mapIter (some b) since (seen.push e.born) clock)∈μ)
  (he:e∈es.toList) (hn:(es.toList.map (·.born)).Nodup) (hN:Nat.blt d X.N=true) (hg:cW all σ g)
  (kk:WL P X bad all K Q os ((d,.tuple #[e.key,e.val])::σ) μ Ds):WL P X bad all K Q ((fl,ix)::os) σ μ Ds:=by
 refine dN ho rfl rfl hg fun a w hh=>?_
 obtain⟨h1,h2,h3,D,h4,h5,h6⟩:=id hh;have:(execOp a.eval ⟨some d,.entry x,ty,pos,aft,g⟩).run P w=.ok (.value (.tuple #[e.key,e.val])) w:=by
  simp only[execOp,hh.eval hx,Sem.run_bind,run_entry_at w r b since seen es clock e (h4.box _ hr).1 (h4.box _ hm).1 he hn,Result.andThen_ok,Sem.run_pure]
 rw[this];exact⟨fun _=>jK.refl _ _,kk _ _ (hh.put hN _)⟩
theorem MN{t e:TypeId}{n b l h:Nat}{k1 k2:IntKind}{i j:Int}(ho:all[ix]?= some ⟨some d,.slice t x (some y) (some z) none,ty,pos,aft,g⟩)(ht:P.underlying t=some (.array n e))(hs:TS P e 1)(hx:ev σ x=some (.pointer (some ⟨b,0,none⟩)))
  (hy:ev σ y=some (.int k1 i)) (hz:ev σ z=some (.int k2 j)) (hi:i=(l:Int)) (hj:j=(h:Int)) (h1:l≤h) (h2:h≤n) (h3:l<n)
  (hN:Nat.blt d X.N=true) (hg:cW all σ g) (kk:WL P X bad all K Q os ((d,.slice (some ⟨b,l,none⟩) (h-l) (n-l))::σ) μ Ds):WL P X bad all K Q ((fl,ix)::os) σ μ Ds:=by
 subst hi;subst hj
 refine bL ho rfl rfl hN hg (fun ρ hρ w'=>?_) kk;simp only[execOp,hρ x _ hx,hρ y _ hy,hρ z _ hz,aMH,aLK];unfold Instr.sliceAt Instr.sureAddr Instr.sliceBounds Instr.sliceBound asIntOf;have a1:(0:Int)≤(l:Int)∧(l:Int)≤(h:Nat):=by omega
 have a2:(0:Int)≤(h:Int)∧(h:Int)≤(n:Nat):=by omega
 simp only[Sem.run_bind,TU.of ht w',Result.andThen_ok,hs w',Sem.run_pure,pure_bind,a1,a2,aJG,aMG,aLX,aND];rw[aKO Yd];simp[Addr.add];exact fun h=>h.symm
theorem QG{t e:TypeId}{n b h:Nat}{k2:IntKind}{j:Int}(ho:all[ix]?= some ⟨some d,.slice t x none (some z) none,ty,pos,aft,g⟩)(ht:P.underlying t=some (.array n e))(hs:TS P e 1)(hx:ev σ x=some (.pointer (some ⟨b,0,none⟩)))
  (hz:ev σ z=some (.int k2 j)) (hj:j=(h:Int)) (h2:h≤n)
  (hN:Nat.blt d X.N=true) (hg:cW all σ g) (kk:WL P X bad all K Q os ((d,.slice (some ⟨b,0,none⟩) h n)::σ) μ Ds):WL P X bad all K Q ((fl,ix)::os) σ μ Ds:=by
 subst hj;refine bL ho rfl rfl hN hg (fun ρ hρ w'=>?_) kk;simp only[execOp,hρ x _ hx,hρ z _ hz,aMH,aLK];unfold Instr.sliceAt Instr.sureAddr Instr.sliceBounds Instr.sliceBound asIntOf;have a2:(0:Int)≤(h:Int)∧(h:Int)≤(n:Nat):=by omega
 simp only[Sem.run_bind,TU.of ht w',Result.andThen_ok,hs w',Sem.run_pure,pure_bind,a2,aJG,aMG,aLX,aOG,aNZ];split<;>simp[Addr.add]
theorem FX{D:aA}{b n l h:Nat}{c:List Int}(hA:At D b 0 (ints c))(hl:c.length=n)(h1:l≤h)(h2:h≤n)(hb:n≤9223372036854775807):Sl D RI 1 (.slice (some ⟨b,l,none⟩) (h-l) (n-l)) ((c.drop l).take (h-l)):=by
 have hlen:((c.drop l).take (h-l)).length=h-l:=by simp;omega
 refine⟨_,_,by rw[hlen],by omega,by omega,aKB ⟨b,l,rfl,fun i x hi=>⟨_,rfl,rfl,fun j v hj=>?_⟩⟩⟩;rw[List.getElem?_take]at hi;split at hi
 ·rw[aMW]at hi;cases j with
  |zero=>
   have h5:v=.int .i64 x:=by simpa using hj.symm
   subst h5;have:=hA (l+i) (.int .i64 x) (cD hi);simpa using this
  |succ j=>simp at hj
 ·cases hi
theorem ZP{γ:Type}(I:γ→Prop)(S:γ→Bool)(XX:γ→Cx)(M:γ→aC)(xs ys:List (Bool×Nat)){s p:Nat}{b:Bool}(hXr:∀g,(XX g).r=X.r)(ho:os=xs++ys)(hs:look σ s=some (.bool b))
  (hyes:b=true→WL P X bad all (fun a w=>∃g,I g∧Hl (XX g) ((p,.bool (S g))::(s,.bool true)::σ) (M g) Ds a w) Q xs ((s,.bool true)::σ) μ Ds)
  (hno:b=false→WL P X bad all (fun a w=>∃g,I g∧Hl (XX g) ((p,.bool (S g))::(s,.bool false)::σ) (M g) Ds a w) Q xs ((s,.bool false)::σ) μ Ds)
  (k:∀g,I g→WL P (XX g) bad all K Q ys ((p,.bool (S g))::σ) (M g) Ds):WL P X bad all K Q os σ μ Ds:=by
 have hsub:∀u,Value.bool b=u→∀a w,Hl X σ μ Ds a w→Hl X ((s,u)::σ) μ Ds a w:=by
  rintro _ rfl a w ⟨h1,h2,h3⟩;refine⟨h1,fun t v ht=>?_,h3⟩;simp only[look]at ht;cases hb:Nat.beq s t with
  |true=>rw[hb]at ht;cases ht;obtain rfl:=aLM hb;exact h2 _ _ hs
  |false=>rw[hb]at ht;exact h2 _ _ ht
 have hback:∀(X:Cx) u v μ',Value.bool b=u→∀a w,Hl X ((p,v)::(s,u)::σ) μ' Ds a w→Hl X ((p,v)::σ) μ' Ds a w:=by
  rintro X _ v μ' rfl a w ⟨h1,h2,h3⟩;refine⟨h1,fun t v' ht=>?_,h3⟩;refine h2 t v' ?_;simp only[look]at ht ⊢
  cases hp:Nat.beq p t with
  |true=>rw[hp]at ht;exact ht
  |false=>
   rw[hp]at ht;cases hb:Nat.beq s t with
   |true=>obtain rfl:=aLM hb;rw[←ht,hs]
   |false=>exact ht
 subst ho;intro a w hh;cases b
 ·refine WL.append (hno rfl a w (hsub _ rfl a w hh)) ?_;rintro a w ⟨g,hI,h⟩;rw[←hXr g];exact k g hI a w (hback _ _ _ _ rfl a w h)
 ·refine WL.append (hyes rfl a w (hsub _ rfl a w hh)) ?_;rintro a w ⟨g,hI,h⟩;rw[←hXr g];exact k g hI a w (hback _ _ _ _ rfl a w h)

theorem WM{f:FuncId}{fn:Func}{c:Code}{args:List Value}{D:aA}{post:aA→Value→aC→Prop}(N:Nat)(hf:P.funcs[f]?= some fn)(hn:(fn.name== "runtime.NumGoroutine")=false)(hb:fn.body=some c)(hN:fn.ntmps=N)(hsz:Nat.ble args.length N=true)
  (h:∀h0:H0,WC P ⟨none,N,[],h0,h0.size,D,[],none⟩ (uK P fn (mA ⟨none,N,[],h0,h0.size,D,[],none⟩ post)) c (gF 0 args) [] [D]):BJ P f args.toArray D post:=by
 refine⟨EF.of hf hn hb,fun w hw=>?_⟩;subst hN;have hsz:=aME hsz;have hq:∀e a w',uK P fn (mA ⟨none,fn.ntmps,[],hd w,w.heap.size,D,[],none⟩ post) e a w'→bodyPostM (FW none) 0 P fn (mA ⟨none,fn.ntmps,[],hd w,w.heap.size,D,[],none⟩ post) e a w':=by
  intro e a w' he;cases e<;>first|exact he|exact he.elim
 have hwp:=h (hd w) {tmps:=args.toArray++Array.replicate (fn.ntmps-args.toArray.size) undef,defers:=[]} w ⟨by simp;omega,fun s v hs=>by
  obtain⟨_,h2⟩:=eD args 0 s v hs;have hl:=(aKH.1 h2).1;simp only[aNZ]at h2 hl;show(args.toArray++_)[s]?= some v;rw[aMS Yao];simpa using h2,rfl,D,⟨aKR _,aKR _,(fun _ _ _=>rfl),(fun _ _=>rfl),hw,(fun p hp=>by cases hp),aMC,(fun p hp=>by cases hp),fun e he=>aKZ he⟩,(fun D₁ h1=>by simp only[aKQ]at h1;subst h1;exact Le.refl _),aGL⟩
 refine(cX (r:=none) (n:=0)).1 ((callsIn_of_wp_marks hf hb aGL (wpIn_mono hwp hq) rfl).mono ?_);rintro e w' ⟨v,D',μ',rfl,hs,hp⟩;exact⟨v,D',μ',rfl,hs,hp⟩
theorem m3{fn:Func}{bd:Nat}{post:aA→Value→aC→Prop}{e:Exit}(he:(match e with|.normal=>true|.ret=>true|_=>false)=true){rs:List ResultVar}{vs:List Value}{A B ν':aC}(hds:X.ds=[])(hr:fn.results=rs.toArray)(h:rN P X σ (A++ν'++B++[(bd,Obj.deferred none)]) rs vs)
  (hp:∀D,(∀D₁∈Ds,Le D₁ D)→post D (nY vs) ν'):∀a w,Hl (X.withDs bd) σ (A++ν'++B++[(bd,Obj.deferred (some []))]) Ds a w→uK P fn (mA X post) e a w:=by
 intro a w hh;obtain⟨h1,h2,h3,D,h4,h5,h6⟩:=hh;have hHas:bO (A++ν'++B++[(bd,Obj.deferred (some []))]) bd (.deferred (some [])) (.deferred none) (A++ν'++B++[(bd,Obj.deferred none)]):=.app .head;have hs:=h4.set (w':=w.putObj bd (.deferred none)) hHas ⟨rfl,rfl⟩ trivial;have hh':Hl X σ (A++ν'++B++[(bd,Obj.deferred none)]) Ds {a with defers:=[]} (w.putObj bd (.deferred none)):=
  ⟨h1,h2,hds.symm,D,hs,h5,h6.step (X:=X.withDs bd) (fun _ p hp=>aKP Yq) (fun _=>gC ⟨rfl,rfl⟩ (aJY.2 ⟨_,hHas.mem,rfl⟩)) hs.dom⟩
 have hrun:=fQ hh' hr h;have hb:=(h4.box (bd,Obj.deferred (some [])) Ye).1;have hnd:=hs.nd;simp only[aKN]at hnd;have hs':fN X.h0 X.lo X.D0 X.mods ν' D (w.putObj bd (.deferred none)):=hs.sub (fun p hp=>aKC _ (aKC _ (aJW _ hp))) (aKE.1 (aKE.1 (aKE.1 hnd).1).1).2.1;have:LeavesInM (FW none) 0 P fn a.tmps (mA X post) a.defers .returning w:=by
  have h3':a.defers=[jI bd]:=h3.trans (by show jI bd::X.ds=_;rw[hds]);rw[h3'];exact⟨by simp,aKP ⟨bd,_,rfl,run_takeDeferred hb,_,hrun,_,D,ν',rfl,hs',hp D h5⟩⟩
 cases e<;>first|exact this|cases he
end Go.Fs
namespace Go.Fs
open Go.Proofs
namespace L2
open L1
open C2
open C1 (fL cG oY nG)
theorem NL{c pre:List Int}{n:Int}{i:Nat}(hl:pre.length=i)(hp:c.take (i+1)=pre++[n]):c[(i:Int).toNat]?= some n:=by
 have h:(c.take (i+1))[i]?= some n:=by rw[hp,←hl];simp
 rw[aMZ (Nat.lt_succ_self i)]at h;exact h
theorem JC{step:Int}{c pre:List Int}{n:Int}{i:Nat}(hl:pre.length=i)(hp:c.take (i+1)=pre++[n])(hb:∀x∈pre,0≤x∧x≤99)(_h10:c.length=10)(hi:i<10):
  ∃m,(i≠0→c[((i:Int)-1).toNat]?= some m)∧(0≤m∧m≤99)∧(decide ((i:Int)=0)||fL (n-m) (-step) step)=jM step pre.getLast? n:=by
 rcases List.eq_nil_or_concat pre with rfl|⟨q,m,rfl⟩
 ·refine⟨0,fun h=>absurd hl.symm h,by omega,?_⟩;simp only[aLY]at hl;subst hl;simp[jM]
 ·refine⟨m,fun _=>?_,hb m Ye,?_⟩
  ·have h:(c.take (i+1))[i-1]?= some m:=by
    rw[hp];simp only[List.concat_eq_append,aJZ,aNK]at hl;rw[show i-1=q.length by omega];simp
   rw[aMZ Yd]at h;rw[show((i:Int)-1).toNat=i-1 by omega];exact h
  ·have:(i:Int)≠0:=by
    simp only[List.concat_eq_append,aJZ,aNK]at hl;omega
   unfold jM;rw[decide_eq_false this,Bool.false_or];simp
theorem aBB{c pre:List Int}{i n:Nat}{k:Int}(h:c.length=10)(hi:i<n)(hn:n≤10)(hp:c.take i=pre)(hz:c.drop n=List.replicate (10-n) 0):(c.set i k).length=10∧(c.set i k).take (i+1)=pre++[k]∧(c.set i k).drop n=List.replicate (10-n) 0:=
 ⟨by simp[h],by rw[aKL,List.getElem?_set_self Yd,aLZ,List.take_set_of_le (aKR _),hp],by rw[List.drop_set_of_lt hi];exact hz⟩
theorem A6(last step:Int)(hv lv mv:Value)(c pre:List Int)(n:Int)(i:Nat)(D:aA)(hs:0≤step∧step≤99)(h10:c.length=10)(hi9:i<10)(hl:pre.length=i)(hp:c.take (i+1)=pre++[n])(hb:∀x∈pre,0≤x∧x≤99)(hn:0≤n∧n≤99):
  Fn Tryz.prog 210 #[.agg #[.int .i64 last,hv,.int .i64 step,lv,mv],.agg (ints c).toArray,.int .i64 (i:Int)] D (fun _ v=>v=.bool (jM step pre.getLast? n)):=by
 have hn0:=NL hl hp;obtain⟨m,hm0,hmb,hnr⟩:=JC (step:=step) hl hp hb h10 hi9;refine enter 25 Tryz.func210 rfl rfl rfl rfl fun h0=>C.s1<|Zv rfl (fun q1 E1 hE1 hB1=>Zv rfl (fun q2 E2 hE2 hB2=>Zi rfl<|L.n2<|C.drawA [] 6 19 64448 (fun _ _ _ h=>cZ (P:=Tryz.prog) (fn:=Tryz.f210) _ _ _ h)<|Za rfl<|dH rfl rfl rfl rfl trivial<|Za rfl ?_))
 refine' iE [(false,3),(false,4),(false,5),(true,6),(true,7),(true,8),(true,9),(false,10),(true,11),(true,12),(true,13),(true,14),(true,15),(false,16),(false,17)] [(false,18)] (s:=9) (p:=24) rfl rfl (fun hg1=>?_) (fun hg1=>?_) ?_;rotate_left
 ·have hi0:(i:Int)≠0:=by simpa using hg1
  have hm1:=hm0 Yd;refine Zb rfl<|dI rfl U244 Tf.s3 rfl rfl Yd Yd rfl ⟨_,rfl,rfl⟩<|gD rfl Tf.a3 rfl hB2 Ye (cD hn0) aJN rfl ⟨_,rfl,rfl⟩<|Zb rfl<|fW rfl rfl rfl Yf rfl ⟨_,rfl,rfl⟩<|dI rfl U244 Tf.s3 rfl rfl Yd Yd rfl ⟨_,rfl,rfl⟩<|gD rfl Tf.a3 rfl hB2 Ye (cD hm1) aJN rfl ⟨_,rfl,rfl⟩<|fW rfl rfl rfl Yf rfl ⟨_,rfl,rfl⟩<|Zk rfl Tf.f32_2 rfl<|Zh 2 rfl Tf.a3 rfl hB1 rfl<|ZD rfl rfl Yf rfl ⟨_,rfl,rfl⟩<|Zk rfl Tf.f32_2 rfl ?_;refine Zh 2 rfl Tf.a3 rfl hB1 rfl<|Ze rfl (fun D1 hD1=>dM _ _ _ _)<|Zad rfl ?_;exact L.cu 14
 ·refine Zl rfl<|Zl rfl<|Zl rfl<|Zl rfl<|Zl rfl<|Zl rfl<|Zl rfl<|Zl rfl<|Zl rfl<|Zl rfl<|Zl rfl<|Zl rfl ?_;refine Zl rfl<|Zl rfl<|Zac rfl ?_;exact L.cu 14
 refine Zi rfl<|L.n5 ?_;exact Zc [_] rfl ⟨rfl,aGL⟩ (fun D hD=>by show Value.bool _=_;rw[hnr])
def fK(br bY bc bh:Nat)(c:List Int):aC:=[(bh,.cells [.func (.func 209) #[] #[.pointer (some ⟨br,0,none⟩),.pointer (some ⟨bY,0,none⟩),.pointer (some ⟨bc,0,none⟩),.pointer (some ⟨bh,0,none⟩)]].toArray 172 (0,0)),(bc,.cells (ints c).toArray 244 (0,0))]
def wW(J Jx:List (List Int)→oB)(br bY bc bh:Nat)(step:Int)(hs:List (Int×Int))(pre:List Int)(i:Nat)(done:List (List Int))(v:Value)(J':oB)(μ':aC):Prop:=
 ∃b c',v=.bool b∧c'.length=10∧c'.take i=pre∧c'.drop hs.length=List.replicate (10-hs.length) 0∧μ'=fK br bY bc bh c'∧(if b=true then J'=J (done++(fY step (hs.drop i) pre.getLast?).map fun t=>cJ (pre++t))else ∃p,J'=Jx p)
theorem pF{lo l:Nat}{J Jx:List (List Int)→oB}{t:bA}{xs:List (List Int)}{Dr Dy:aA}{Ds:List aA}{br bY bc bh:Nat}{hv lv mv:Value}(hto:j2 t)
  (hs:∀pre,uQ lo (J pre)) (hsx:∀pre,uQ lo (Jx pre)) (hY:HC Tryz.prog Dr lo l J Jx xs) (hDr:Dr∈Ds) (hDy:Dy∈Ds) (hA:At Dr br 0 [.int .i64 t.last,hv,.int .i64 t.step,lv,mv]) (hpl:Sl Dr zX 2 hv t.heights) (hB:At Dy bY 0 [.func (.yield l) #[] #[]]):
  ∀(j i:Nat) (pre c:List Int) (done rest:List (List Int)) (iv:Int),iv=i→i+j=t.heights.length→pre.length=i→c.length=10→c.take i=pre→c.drop t.heights.length=List.replicate (10-t.heights.length) 0→(∀x∈pre,0≤x∧x≤99)→
   xs=done++(fY t.step (t.heights.drop i) pre.getLast?).map (fun t=>cJ (pre++t))++rest→
   aCA Tryz.prog 209 [.int .i64 iv,.pointer (some ⟨br,0,none⟩),.pointer (some ⟨bY,0,none⟩),.pointer (some ⟨bc,0,none⟩),.pointer (some ⟨bh,0,none⟩)] lo (J done) (fK br bY bc bh c) Ds (wW J Jx br bY bc bh t.step t.heights pre i done):=by
 intro j;induction j using Nat.strongRecOn with
 |_ j ih=>
 intro i pre c done rest iv hiv hij hl h9 hp hz hpb hxs;subst hiv;have hmx:=hpl.len;have hlast:=hto.last;have hlen:=hto.len;have hn9:=hto.len10;refine vG (μ:=fK br bY bc bh c) 46 Tryz.func209 rfl rfl rfl rfl<|C.s1<|Zi rfl<|L.n4<|Za rfl<|Zj rfl Tf.f32_0 rfl<|Zg 0 rfl Tf.a3 rfl hA rfl<|eR rfl rfl rfl rfl trivial<|L.n1<|aF rfl (fun hc1=>?_) (fun hc1=>?_)
 ·have hin:i=t.heights.length:=by omega
  subst hin;have hleaf:=(CN (l:=pre) (by rw[hl];exact hp) (by rw[hl];exact hz))
  rw[List.drop_length]at hxs;simp only[fY,aLB,aOC,aKF]at hxs;rw[hleaf,aKK,aNV]at hxs;refine C.s1<|Zg 0 rfl Tf.a311 rfl hB rfl<|aY rfl Tf.a244 rfl (List.Mem.tail _ (List.Mem.head _)) Yw aJN rfl trivial<|AF (l:=l) (J1:=J (done++[c])) (J0:=Jx (done++[c])) rfl rfl rfl rfl (hs _) (hsx _) (fun D w hd hJ hb hl=>hY done c _ D w ⟨rest,hxs⟩ hd hJ (fun b hbm=>by obtain⟨p,hp,rfl⟩:=aJY.1 hbm;exact hb p hp) (hl _ hDr)) rfl aGL (fun b1 J1 hJ1=>Zi rfl<|L.n5<|Zaj ?_)
  exact iF (P:=Tryz.prog) (fn:=Tryz.f209) (N:=46) (vs:=[_]) rfl rfl ⟨rfl,aGL⟩ (fun D h=>⟨D,h,Le.refl D⟩) ⟨b1,c,rfl,h9,hp,hz,rfl,by cases b1<;>simp only[hJ1,aMG,aLI,aMN];exact⟨_,rfl⟩;simp[fY,hleaf]⟩
 ·have hin:i<t.heights.length:=by omega
  obtain⟨r,hri⟩:∃r,t.heights[i]?= some r:=⟨_,aJT hin⟩
  have hrb:=hto.hts r (aJV hri);have hrg:=mW hrb;have hsz:eW r=r.2-r.1+1:=rfl;have hd:t.heights.drop i=r::t.heights.drop (i+1):=by rw[aLV hin];congr 1;exact aKZ ((aJT hin).symm.trans hri)
  rw[hd,←GX]at hxs;refine C.kn<|C.s2<|Zj rfl Tf.f32_1 rfl<|Zg 1 rfl Tf.a29 rfl hA rfl<|Za rfl<|Zt rfl U29 Tf.s76 rfl hpl rfl hri (fun b1 o1 cs1 hr1 hcl1 hA1=>?_);obtain rfl:cs1=[.int .i64 _,.int .i64 _]:=hr1;refine Zs rfl Tf.a76 rfl hA1 Tf.s76<|Zd rfl (fun D1 hD1=>GI r hrb _)<|Za rfl<|L.n1<|Zai<|A2 (γ:=Nat×List Int) (fun g=>(eW r).toNat-g.1) (fun g=>g.1≤(eW r).toNat∧g.2.length=10∧g.2.take i=pre∧g.2.drop t.heights.length=List.replicate (10-t.heights.length) 0) (fun g=>J (done++BK t.step (t.heights.drop (i+1)) pre r g.1)) (fun g=>[(21,.int .i64 (g.1:Int))]) [(20,_),(6,_),(0,_),(1,_),(3,_),(4,_)] (fun g=>fK br bY bc bh g.2) (fun g=>Ds) (0,c) ⟨by simp,h9,hp,hz⟩ (by simp[TE]) ⟨Yb,aGL⟩ C.rs (aJU _) (aD) ?_;rintro⟨k,c1⟩ ⟨h11,h91,hp1,hz1⟩;simp only at h11 h91 hp1 hz1;refine C.s1<|Zae rfl<|L.n2<|aF rfl (fun hc2=>?_) (fun hc2=>?_)
  ·obtain⟨rr,hr⟩:=TO (step:=t.step) (rs:=t.heights.drop (i+1)) (pre:=pre) (r:=r) (k:=k) (n:=(eW r).toNat) Yd;have hset:=aBB (k:=r.1+(k:Int)) h91 hin hn9 hp1 hz1;have h9s:(c1.set ((i:Int)).toNat (r.1+(k:Int))).length=10:=hset.1;have hpn:∀x∈pre++[r.1+(k:Int)],0≤x∧x≤99:=fun x hx=>by rcases aKM.1 hx with hx|hx;exact hpb x hx;simp only[aKQ]at hx;omega
   refine C.kn<|aCX<|Zai<|C.s1<|Za rfl<|Zi rfl<|L.n3<|Za rfl<|Zj rfl Tf.f32_1 rfl<|Zg 1 rfl Tf.a29 rfl hA rfl<|Za rfl<|Zt rfl U29 Tf.s76 rfl hpl rfl hri (fun b2 o2 cs2 hr2 hcl2 hA2=>?_);obtain rfl:cs2=[.int .i64 _,.int .i64 _]:=hr2;refine Zj rfl Tf.f76_0 rfl<|Zg 0 rfl Tf.a3 rfl hA2 rfl<|Za rfl<|Zy rfl<|dI rfl U244 Tf.s3 rfl rfl Yd Yd rfl trivial<|H1 rfl Tf.s3 rfl rfl (.tail (bO.head)) (by simp only[*];omega) trivial<|L.n3<|Zs rfl Tf.a32 rfl hA Tf.s32<|aY rfl Tf.a244 rfl (List.Mem.tail _ (List.Mem.head _)) Yw aJN rfl trivial<|Za rfl<|Zd rfl (fun D2 hD2=>A6 t.last t.step hv lv mv (c1.set i (r.1+(k:Int))) pre (r.1+(k:Int)) i _ hto.step hset.1 Yd hl hset.2.1 hpb Yd)<|Za rfl ?_;refine ZP (γ:=Bool×List Int×oB) (fun g=>g.2.1.length=10∧g.2.1.take (i+1)=pre++[r.1+(k:Int)]∧g.2.1.drop t.heights.length=List.replicate (10-t.heights.length) 0∧(if g.1=true then ∃p,g.2.2=Jx p else g.2.2=J (done++BK t.step (t.heights.drop (i+1)) pre r (k+1)))) (fun g=>g.1) (fun g=>Xj 46 lo g.2.2) (fun g=>fK br bY bc bh g.2.1) [(false,5),(false,6),(false,7),(false,8),(false,9),(false,10)] [] (s:=38) (p:=44) (fun _=>rfl) rfl rfl (fun hg1=>?_) (fun hg1=>?_) ?_
   ·have hnear:jM t.step pre.getLast? (r.1+(k:Int))=true:=by simpa using hg1
    refine aS rfl Tf.a172 rfl (aNM _) rfl aJN rfl ⟨_,rfl,rfl⟩<|Zb rfl<|rI rfl rfl rfl Yf rfl ⟨_,rfl,rfl⟩<|mP rfl rfl rfl rfl (ih (j-1) Yd (i+1) (pre++[r.1+(k:Int)]) (c1.set i (r.1+(k:Int))) (done++BK t.step (t.heights.drop (i+1)) pre r k) (rr++rest) (i+1:Int) Yd Yd Yad (by simpa using h91) hset.2.1 hset.2.2 hpn (by rw[hxs,hr,GN hnear];simp)) rfl ⟨_,rfl,rfl⟩ ?_;rintro _ J2 _ ⟨b2,c2,rfl,h9',hp',hz',rfl,hJ2⟩;refine jT rfl rfl rfl ⟨_,rfl,rfl⟩<|Zac rfl ?_;exact aG fun a w hh=>⟨(!b2,c2,J2),⟨h9',hp',hz',by cases b2<;>simp only[aGH,aJQ,aMG,aLI,aMN]at hJ2 ⊢;exact hJ2;rw[hJ2,GN hnear,aKK]⟩,hh.cutK 5 rfl⟩
   ·refine Zl rfl<|Zl rfl<|Zl rfl<|Zl rfl<|Zl rfl<|Zad rfl ?_;exact aG fun a w hh=>⟨(false,c1.set i (r.1+(k:Int)),J (done++BK t.step (t.heights.drop (i+1)) pre r k)),⟨hset.1,hset.2.1,hset.2.2,by simp only[aLI,aMN];rw[aAT (by simpa using hg1)]⟩,hh.cutK 5 rfl⟩
   rintro⟨b3,c3,J3⟩ ⟨h93,hp3,hz3,hJ3⟩;simp only at h93 hp3 hz3 hJ3;refine L.n1<|aJ rfl (fun hc3=>?_) (fun hc3=>?_)
   ·obtain rfl:b3=true:=by simpa using hc3
    refine C.s1<|Zi rfl<|L.n5<|BW<|Zaj<|Zaj<|BW<|Zaj ?_;exact iF (P:=Tryz.prog) (fn:=Tryz.f209) (N:=46) (vs:=[_]) rfl rfl ⟨rfl,aGL⟩ (fun D h=>⟨D,h,Le.refl D⟩) ⟨false,c3,rfl,h93,L1.nM hp3 hl,hz3,rfl,by simpa using hJ3⟩
   ·obtain rfl:b3=false:=by simpa using hc3
    refine aAX<|Zak<|Zag<|C.rg<|Zy rfl<|Za rfl<|Zz ?_;exact kT 22 (k+1,c3) ⟨by simp only;omega,h93,L1.nM hp3 hl,hz3⟩ Ym (by simpa using hJ3) ⟨Yb,aGL⟩ rfl rfl (aJU _) (aD)
  ·refine aR<|Zah<|Zah<|Zal<|Zag<|C.s1<|Zi rfl<|L.n5 ?_;exact iF (P:=Tryz.prog) (fn:=Tryz.f209) (N:=46) (vs:=[_]) rfl rfl ⟨rfl,aGL⟩ (fun D h=>⟨D,h,Le.refl D⟩) ⟨true,c1,rfl,h91,hp1,hz1,rfl,by simp only[aMG];rw[hd,←GX,show k=(eW r).toNat by omega]⟩
theorem JP(t:bA)(Dr:aA)(br:Nat)(hv lv mv:Value)(hto:j2 t)(hA:At Dr br 0 [.int .i64 t.last,hv,.int .i64 t.step,lv,mv])(hpl:Sl Dr zX 2 hv t.heights):
  yM Tryz.prog 208 [.pointer (some ⟨br,0,none⟩)] Dr ((fF t).map cJ) Z6:=by
 refine Q5 8 Tryz.func208 rfl rfl rfl rfl (fun lo l J Jx hs hsx hY=>C.s1<|Zv rfl (fun q1 E1 hE1 hB1=>L.n3<|Zw rfl Tf.z244 rfl (fun q2=>L.n3<|Zw rfl Tf.z172 rfl (fun q3=>L.n3<|bE rfl rfl rfl rfl trivial<|Zo rfl Tf.s172 (bO.head) rfl<|L.n1<|C.rg ?_))));refine Zm rfl Tf.a172 rfl (List.Mem.head _) rfl<|mP rfl rfl rfl rfl (pF (l:=l) hto hs hsx hY Ye Ye hA hpl hB1 t.heights.length 0 [] (List.replicate 10 0) [] [] 0 rfl Yd rfl rfl rfl (List.drop_replicate ..) (fun x hx=>by cases hx) (by simp[fF])) rfl aGL ?_;rintro _ J2 _ ⟨b2,c2,rfl,h9',hp',hz',rfl,hJ2⟩;refine Zz ?_;exact iF (P:=Tryz.prog) (fn:=Tryz.f208) (N:=8) (vs:=[]) rfl rfl aGL (fun D h=>⟨D,by simp only[aKQ]at h;subst h;simp,Le.refl D⟩) (by cases b2<;>simp[fF]at hJ2 ⊢;exact aKB hJ2;exact aKP hJ2)
theorem m1(tv:Value)(t:bA)(D:aA)(ht:gL D tv t)(hto:j2 t):
  Fn Tryz.prog 124 #[tv] D (fun D' v=>∃br,v=.func (.func 208) #[] #[.pointer (some ⟨br,0,none⟩)]∧yM Tryz.prog 208 [.pointer (some ⟨br,0,none⟩)] D' ((fF t).map cJ) Z6):=by
 obtain⟨hv,lv,mv,rfl,hh,hl,hm⟩:=ht;refine enter 4 Tryz.func124 rfl rfl rfl rfl fun h0=>C.s1<|Zv rfl (fun q1 E1 hE1 hB1=>Zi rfl<|L.n3<|bE rfl rfl rfl rfl trivial<|Zi rfl<|L.n5 ?_)
 exact Zc [_] rfl ⟨rfl,aGL⟩ (fun D hD=>⟨_,rfl,JP t _ q1 hv lv mv hto (hB1.up (hD _ Ye)) (hh.up zX.up (hD _ Ye))⟩)
end L2
end Go.Fs
namespace Go.Fs
open Go.Proofs
namespace L7
open C7
theorem gN{α:Type}{p:α→Bool}{xs:List α}{k:Nat}{x:α}(hx:xs[k]?= some x)(h:(xs.take k).any p=false)(hp:p x=true):idxOf p xs=k:=by
 have hk:=(aKH.1 hx).1;have he:=(aKH.1 hx).2;have h1:xs.any p=true:=aNT.2 ⟨x,aJV hx,hp⟩;have h2:xs.findIdx p=k:=by
  rw[List.findIdx_eq hk];refine⟨by rw[he];exact hp,fun j hj=>?_⟩
  have:=List.any_eq_false.1 h (xs[j]'Yd) (by
   rw[List.mem_take_iff_getElem];exact⟨j,by omega,rfl⟩)
  simpa using this
 simp[idxOf,h1,h2]
theorem eT{α:Type}{p:α→Bool}{xs:List α}(h:xs.any p=false):idxOf p xs= -1:=by simp[idxOf,h]
theorem gO{α:Type}{p:α→Bool}{xs:List α}:decide (0≤idxOf p xs)=xs.any p:=by
 unfold idxOf;cases h:xs.any p<;>simp
theorem jX{α:Type}{p:α→Bool}{xs:List α}:(!xs.any fun x=> !p x)=xs.all p:=by
 rw[List.all_eq_not_any_not]
theorem dM(n lo hi:Int)(D:aA):Fn Tryz.prog 141 #[.int .i64 n,.int .i64 lo,.int .i64 hi] D (fun _ v=>v=.bool (fL n lo hi)):=by
 refine enter 15 Tryz.func141 rfl rfl rfl rfl fun h0=>C.s1<|Zi rfl<|L.n3<|Za rfl<|Za rfl<|iM rfl rfl rfl rfl trivial<|Za rfl ?_
 refine' cQ [(false,4),(false,5),(false,6),(false,7)] [(false,8)] (s:=10) (p:=14) rfl rfl (fun hg1=>?_) (fun hg1=>?_) ?_;rotate_left
 ·refine Zb rfl<|Zb rfl<|iM rfl rfl rfl rfl ⟨_,rfl,rfl⟩<|Zac rfl ?_;exact L.cu 3
 ·refine Zl rfl<|Zl rfl<|Zl rfl<|Zad rfl ?_;exact L.cu 3
 refine Zi rfl<|L.n5 ?_;exact Zc [_] rfl ⟨rfl,aGL⟩ (fun D hD=>rfl)
theorem oW(sv fv:Value)(xs:List Int)(p:Int→Bool)(D:aA)(hS:Sl D RI 1 sv xs)(hp:cF Tryz.prog D iV fv p):
  Fn Tryz.prog 257 #[sv,fv] D (fun _ v=>v=.int .i64 (idxOf p xs)):=by
 have hl:=hS.len;obtain⟨f,c1,c2,rfl,hf⟩:=hp;refine enter 19 Tryz.func257 rfl rfl rfl rfl fun h0=>C.s1<|Zi rfl<|L.n4<|Za rfl<|aW rfl U25 rfl Yk rfl rfl trivial<|Za rfl<|L.n1<|Zai<|cN (γ:=Nat) (fun k=>xs.length-k) (fun k=>k≤xs.length∧(xs.take k).any p=false) (fun k=>[(8,.int .i64 k)]) [(7,_),(4,_),(0,_),(1,_)] (fun k=>[D]) 0 Ye ⟨Yb,aGL⟩ C.rs (aD) ?_
 rintro k ⟨h1,h2⟩;refine C.s1<|Zae rfl<|L.n2<|aF rfl (fun hc1=>?_) (fun hc1=>?_)
 ·have hk:k<xs.length:=by omega
  obtain⟨x,hx⟩:∃x,xs[k]?= some x:=⟨_,aJT hk⟩
  refine C.kn<|aCX<|Zai<|C.s1<|Za rfl<|Zi rfl<|L.n3<|Za rfl<|Za rfl<|Za rfl<|cR rfl U25 Tf.s3 rfl Yk rfl Yd Yk rfl aGL (fun b1 o1 cs1 hr1 hcl1 hA1=>?_);obtain rfl:cs1=[.int .i64 _]:=hr1;refine Zg 0 rfl Tf.a3 rfl hA1 rfl<|Zd rfl (fun D1 hD1=>hf x _ (hD1 _ Ye))<|L.n1<|aJ rfl (fun hc2=>?_) (fun hc2=>?_)
  ·refine C.s1<|Za rfl<|Zi rfl<|L.n5<|BW<|Zaj<|Zaj<|BW<|Zaj ?_;exact Zc [_] rfl ⟨rfl,aGL⟩ (fun D hD=>by show Value.int _ _=_;rw[gN hx h2 hc2])
  ·refine aAX<|Zak<|Zag<|C.rg<|Zy rfl<|Za rfl<|Zz ?_;have hpx:p x=false:=hc2;have h3:(xs.take (k+1)).any p=false:=by rw[aKL,hx,aMY,h2];simp[hpx]
   exact aH 12 (k+1) ⟨by omega,h3⟩ Yd ⟨Yb,aGL⟩ rfl rfl (aJU _) (aD)
 ·refine aR<|Zah<|Zah<|Zal<|Zag<|C.s1<|Zi rfl<|L.n5 ?_;exact Zc [_] rfl ⟨rfl,aGL⟩ (fun D hD=>by show Value.int _ _=_;rw[eT Yab])
theorem iZ(sv fv:Value)(xs:List Int)(p:Int→Bool)(D:aA)(hS:Sl D RI 1 sv xs)(hp:cF Tryz.prog D iV fv p):
  Fn Tryz.prog 194 #[sv,fv] D (fun _ v=>v=.bool (xs.any p)):=by
 refine enter 9 Tryz.func194 rfl rfl rfl rfl fun h0=>C.s1<|Zi rfl<|L.n3<|Za rfl<|Za rfl<|Zd rfl (fun D1 hD1=>oW _ _ xs p _ (Sl.at RI.up hD1 Yk Ye) (hp.up (hD1 _ Ye)))<|nI rfl rfl rfl rfl trivial<|Zi rfl<|L.n5 ?_
 exact Zc [_] rfl ⟨rfl,aGL⟩ (fun D hD=>by show Value.bool (decide _)=_;rw[gO])
theorem sV(b:Nat)(fv:Value)(p:Int→Bool)(x:Int)(D:aA)(hp:cF Tryz.prog D iV fv p)(hB:At D b 0 [fv]):
  Fn Tryz.prog 284 #[iV x,.pointer (some ⟨b,0,none⟩)] D (fun _ v=>v=.bool (!p x)):=by
 obtain⟨f,c1,c2,rfl,hf⟩:=hp;refine enter 8 Tryz.func284 rfl rfl rfl rfl fun h0=>C.s1<|Zi rfl<|L.n3<|Zg 0 rfl Tf.a172 rfl hB rfl<|Za rfl<|Zd rfl (fun D1 hD1=>hf x _ (hD1 _ Ye))<|Zaf rfl<|Zi rfl<|L.n5 ?_
 exact Zc [_] rfl ⟨rfl,aGL⟩ (fun D hD=>rfl)
theorem wN(sv fv:Value)(xs:List Int)(p:Int→Bool)(D:aA)(hS:Sl D RI 1 sv xs)(hp:cF Tryz.prog D iV fv p)(h1:fv.cells=#[fv]):
  Fn Tryz.prog 267 #[sv,fv] D (fun _ v=>v=.bool (xs.all p)):=by
 refine enter 9 Tryz.func267 rfl rfl rfl rfl fun h0=>C.s1<|mJ (vs:=[fv]) rfl rfl h1 rfl aGL (fun b D1 hD1 hB=>Zi rfl<|L.n3<|Za rfl<|bE rfl rfl rfl rfl trivial<|Zd rfl (fun D1 hD1=>iZ _ _ xs (fun x=> !p x) _ (Sl.at RI.up hD1 Yk Ye) ⟨_,[],[.pointer (some ⟨b,0,none⟩)],rfl,fun x D2 hl=>sV b fv p x D2 (hp.up ((hD1 _ Ye).trans hl)) (hB.up ((hD1 _ Ye).trans hl))⟩)<|Zaf rfl<|Zi rfl<|L.n5 ?_)
 exact Zc [_] rfl ⟨rfl,aGL⟩ (fun D hD=>by show Value.bool (!_)=_;rw[jX])
theorem oX(sv fv:Value)(xs:List Ch)(p:Ch→Bool)(D:aA)(hS:Sl D qY 4 sv xs)(hp:cF Tryz.prog D aCB fv p):
  Fn Tryz.prog 266 #[sv,fv] D (fun _ v=>v=.int .i64 (idxOf p xs)):=by
 have hl:=hS.len;obtain⟨f,c1,c2,rfl,hf⟩:=hp;refine enter 19 Tryz.func266 rfl rfl rfl rfl fun h0=>C.s1<|Zi rfl<|L.n4<|Za rfl<|aW rfl U37 rfl Yk rfl rfl trivial<|Za rfl<|L.n1<|Zai<|cN (γ:=Nat) (fun k=>xs.length-k) (fun k=>k≤xs.length∧(xs.take k).any p=false) (fun k=>[(8,.int .i64 k)]) [(7,_),(4,_),(0,_),(1,_)] (fun k=>[D]) 0 Ye ⟨Yb,aGL⟩ C.rs (aD) ?_
 rintro k ⟨h1,h2⟩;refine C.s1<|Zae rfl<|L.n2<|aF rfl (fun hc1=>?_) (fun hc1=>?_)
 ·have hk:k<xs.length:=by omega
  obtain⟨x,hx⟩:∃x,xs[k]?= some x:=⟨_,aJT hk⟩
  refine C.kn<|aCX<|Zai<|C.s1<|Za rfl<|Zi rfl<|L.n3<|Za rfl<|Za rfl<|Za rfl<|cR rfl U37 Tf.s80 rfl Yk rfl Yd Yk rfl aGL (fun b1 o1 cs1 hr1 hcl1 hA1=>?_);obtain rfl:cs1=[.int .i64 _,.int .i64 _,.int .i64 _,.int .i64 _]:=hr1;refine Zs rfl Tf.a80 rfl hA1 Tf.s80<|Zd rfl (fun D1 hD1=>hf x _ (hD1 _ Ye))<|L.n1<|aJ rfl (fun hc2=>?_) (fun hc2=>?_)
  ·refine C.s1<|Za rfl<|Zi rfl<|L.n5<|BW<|Zaj<|Zaj<|BW<|Zaj ?_;exact Zc [_] rfl ⟨rfl,aGL⟩ (fun D hD=>by show Value.int _ _=_;rw[gN hx h2 hc2])
  ·refine aAX<|Zak<|Zag<|C.rg<|Zy rfl<|Za rfl<|Zz ?_;have hpx:p x=false:=hc2;have h3:(xs.take (k+1)).any p=false:=by rw[aKL,hx,aMY,h2];simp[hpx]
   exact aH 12 (k+1) ⟨by omega,h3⟩ Yd ⟨Yb,aGL⟩ rfl rfl (aJU _) (aD)
 ·refine aR<|Zah<|Zah<|Zal<|Zag<|C.s1<|Zi rfl<|L.n5 ?_;exact Zc [_] rfl ⟨rfl,aGL⟩ (fun D hD=>by show Value.int _ _=_;rw[eT Yab])
theorem lB(sv fv:Value)(xs:List Ch)(p:Ch→Bool)(D:aA)(hS:Sl D qY 4 sv xs)(hp:cF Tryz.prog D aCB fv p):
  Fn Tryz.prog 220 #[sv,fv] D (fun _ v=>v=.bool (xs.any p)):=by
 refine enter 9 Tryz.func220 rfl rfl rfl rfl fun h0=>C.s1<|Zi rfl<|L.n3<|Za rfl<|Za rfl<|Zd rfl (fun D1 hD1=>oX _ _ xs p _ (Sl.at qY.up hD1 Yk Ye) (hp.up (hD1 _ Ye)))<|nI rfl rfl rfl rfl trivial<|Zi rfl<|L.n5 ?_
 exact Zc [_] rfl ⟨rfl,aGL⟩ (fun D hD=>by show Value.bool (decide _)=_;rw[gO])
theorem H2(b:Nat)(fv:Value)(p:Ch→Bool)(x:Ch)(D:aA)(hp:cF Tryz.prog D aCB fv p)(hB:At D b 0 [fv]):
  Fn Tryz.prog 221 #[aCB x,.pointer (some ⟨b,0,none⟩)] D (fun _ v=>v=.bool (!p x)):=by
 obtain⟨f,c1,c2,rfl,hf⟩:=hp;refine enter 8 Tryz.func221 rfl rfl rfl rfl fun h0=>C.s1<|Zv rfl (fun q1 E1 hE1 hB1=>Zi rfl<|L.n3<|Zg 0 rfl Tf.a264 rfl hB rfl<|Zs rfl Tf.a80 rfl hB1 Tf.s80<|Zd rfl (fun D1 hD1=>hf x _ (hD1 _ Ye))<|Zaf rfl<|Zi rfl<|L.n5 ?_)
 exact Zc [_] rfl ⟨rfl,aGL⟩ (fun D hD=>rfl)
theorem Y7(sv fv:Value)(xs:List Ch)(p:Ch→Bool)(D:aA)(hS:Sl D qY 4 sv xs)(hp:cF Tryz.prog D aCB fv p)(h1:fv.cells=#[fv]):
  Fn Tryz.prog 142 #[sv,fv] D (fun _ v=>v=.bool (xs.all p)):=by
 refine enter 9 Tryz.func142 rfl rfl rfl rfl fun h0=>C.s1<|mJ (vs:=[fv]) rfl rfl h1 rfl aGL (fun b D1 hD1 hB=>Zi rfl<|L.n3<|Za rfl<|bE rfl rfl rfl rfl trivial<|Zd rfl (fun D1 hD1=>lB _ _ xs (fun x=> !p x) _ (Sl.at qY.up hD1 Yk Ye) ⟨_,[],[.pointer (some ⟨b,0,none⟩)],rfl,fun x D2 hl=>H2 b fv p x D2 (hp.up ((hD1 _ Ye).trans hl)) (hB.up ((hD1 _ Ye).trans hl))⟩)<|Zaf rfl<|Zi rfl<|L.n5 ?_)
 exact Zc [_] rfl ⟨rfl,aGL⟩ (fun D hD=>by show Value.bool (!_)=_;rw[jX])
theorem oZ(sv fv:Value)(xs:List (Int×Int))(p:(Int×Int)→Bool)(D:aA)(hS:Sl D R2 2 sv xs)(hp:cF Tryz.prog D iP fv p):
  Fn Tryz.prog 269 #[sv,fv] D (fun _ v=>v=.int .i64 (idxOf p xs)):=by
 have hl:=hS.len;obtain⟨f,c1,c2,rfl,hf⟩:=hp;refine enter 19 Tryz.func269 rfl rfl rfl rfl fun h0=>C.s1<|Zi rfl<|L.n4<|Za rfl<|aW rfl U38 rfl Yk rfl rfl trivial<|Za rfl<|L.n1<|Zai<|cN (γ:=Nat) (fun k=>xs.length-k) (fun k=>k≤xs.length∧(xs.take k).any p=false) (fun k=>[(8,.int .i64 k)]) [(7,_),(4,_),(0,_),(1,_)] (fun k=>[D]) 0 Ye ⟨Yb,aGL⟩ C.rs (aD) ?_
 rintro k ⟨h1,h2⟩;refine C.s1<|Zae rfl<|L.n2<|aF rfl (fun hc1=>?_) (fun hc1=>?_)
 ·have hk:k<xs.length:=by omega
  obtain⟨x,hx⟩:∃x,xs[k]?= some x:=⟨_,aJT hk⟩
  refine C.kn<|aCX<|Zai<|C.s1<|Za rfl<|Zi rfl<|L.n3<|Za rfl<|Za rfl<|Za rfl<|cR rfl U38 Tf.s114 rfl Yk rfl Yd Yk rfl aGL (fun b1 o1 cs1 hr1 hcl1 hA1=>?_);obtain rfl:cs1=[.int .i64 _,.int .i64 _]:=hr1;refine Zs rfl Tf.a114 rfl hA1 Tf.s114<|Zd rfl (fun D1 hD1=>hf x _ (hD1 _ Ye))<|L.n1<|aJ rfl (fun hc2=>?_) (fun hc2=>?_)
  ·refine C.s1<|Za rfl<|Zi rfl<|L.n5<|BW<|Zaj<|Zaj<|BW<|Zaj ?_;exact Zc [_] rfl ⟨rfl,aGL⟩ (fun D hD=>by show Value.int _ _=_;rw[gN hx h2 hc2])
  ·refine aAX<|Zak<|Zag<|C.rg<|Zy rfl<|Za rfl<|Zz ?_;have hpx:p x=false:=hc2;have h3:(xs.take (k+1)).any p=false:=by rw[aKL,hx,aMY,h2];simp[hpx]
   exact aH 12 (k+1) ⟨by omega,h3⟩ Yd ⟨Yb,aGL⟩ rfl rfl (aJU _) (aD)
 ·refine aR<|Zah<|Zah<|Zal<|Zag<|C.s1<|Zi rfl<|L.n5 ?_;exact Zc [_] rfl ⟨rfl,aGL⟩ (fun D hD=>by show Value.int _ _=_;rw[eT Yab])
theorem lL(sv fv:Value)(xs:List (Int×Int))(p:(Int×Int)→Bool)(D:aA)(hS:Sl D R2 2 sv xs)(hp:cF Tryz.prog D iP fv p):
  Fn Tryz.prog 223 #[sv,fv] D (fun _ v=>v=.bool (xs.any p)):=by
 refine enter 9 Tryz.func223 rfl rfl rfl rfl fun h0=>C.s1<|Zi rfl<|L.n3<|Za rfl<|Za rfl<|Zd rfl (fun D1 hD1=>oZ _ _ xs p _ (Sl.at R2.up hD1 Yk Ye) (hp.up (hD1 _ Ye)))<|nI rfl rfl rfl rfl trivial<|Zi rfl<|L.n5 ?_
 exact Zc [_] rfl ⟨rfl,aGL⟩ (fun D hD=>by show Value.bool (decide _)=_;rw[gO])
theorem I7(b:Nat)(fv:Value)(p:(Int×Int)→Bool)(x:(Int×Int))(D:aA)(hp:cF Tryz.prog D iP fv p)(hB:At D b 0 [fv]):
  Fn Tryz.prog 224 #[iP x,.pointer (some ⟨b,0,none⟩)] D (fun _ v=>v=.bool (!p x)):=by
 obtain⟨f,c1,c2,rfl,hf⟩:=hp;refine enter 8 Tryz.func224 rfl rfl rfl rfl fun h0=>C.s1<|Zv rfl (fun q1 E1 hE1 hB1=>Zi rfl<|L.n3<|Zg 0 rfl Tf.a262 rfl hB rfl<|Zs rfl Tf.a114 rfl hB1 Tf.s114<|Zd rfl (fun D1 hD1=>hf x _ (hD1 _ Ye))<|Zaf rfl<|Zi rfl<|L.n5 ?_)
 exact Zc [_] rfl ⟨rfl,aGL⟩ (fun D hD=>rfl)
theorem d5(sv fv:Value)(xs:List (Int×Int))(p:(Int×Int)→Bool)(D:aA)(hS:Sl D R2 2 sv xs)(hp:cF Tryz.prog D iP fv p)(h1:fv.cells=#[fv]):
  Fn Tryz.prog 144 #[sv,fv] D (fun _ v=>v=.bool (xs.all p)):=by
 refine enter 9 Tryz.func144 rfl rfl rfl rfl fun h0=>C.s1<|mJ (vs:=[fv]) rfl rfl h1 rfl aGL (fun b D1 hD1 hB=>Zi rfl<|L.n3<|Za rfl<|bE rfl rfl rfl rfl trivial<|Zd rfl (fun D1 hD1=>lL _ _ xs (fun x=> !p x) _ (Sl.at R2.up hD1 Yk Ye) ⟨_,[],[.pointer (some ⟨b,0,none⟩)],rfl,fun x D2 hl=>I7 b fv p x D2 (hp.up ((hD1 _ Ye).trans hl)) (hB.up ((hD1 _ Ye).trans hl))⟩)<|Zaf rfl<|Zi rfl<|L.n5 ?_)
 exact Zc [_] rfl ⟨rfl,aGL⟩ (fun D hD=>by show Value.bool (!_)=_;rw[jX])
theorem K8(sv:Value)(x:Int)(xs:List Int)(D:aA)(hS:Sl D RI 1 sv (x::xs)):
  Fn Tryz.prog 199 #[sv] D (fun _ v=>v=.int .i64 (xs.foldl min x)):=by
 have hl:=hS.len;simp only[aKD]at hl;refine enter 25 Tryz.func199 rfl rfl rfl rfl fun h0=>C.s1<|Zi rfl<|L.n4<|Za rfl<|aW rfl U25 rfl Yk rfl rfl trivial<|Zae rfl<|L.n1<|aF rfl (fun hc1=>?_) (fun hc1=>?_)
 ·exact absurd hc1 (by simp only[aKD];omega)
 ·refine C.kn<|C.s1<|Za rfl<|cR rfl U25 Tf.s3 rfl Yk rfl Yd (by rfl) rfl aGL (fun b1 o1 cs1 hr1 hcl1 hA1=>?_);obtain rfl:cs1=[.int .i64 _]:=hr1;refine Zg 0 rfl Tf.a3 rfl hA1 rfl<|Zi rfl<|L.n4<|Zi rfl<|L.n1<|Zai<|cN (γ:=Nat) (fun k=>xs.length-k) (fun k=>k≤xs.length) (fun k=>[(3,.int .i64 ((xs.take k).foldl min x)),(4,.int .i64 (k+1:Int))]) [(2,_),(0,_)] (fun k=>[D]) 0 Yd ⟨Yb,Yb,aGL⟩ C.rs (aD) ?_;rintro k h1;refine C.s2<|Za rfl<|Za rfl<|aW rfl U25 rfl Yk rfl rfl trivial<|Zae rfl<|L.n1<|aF rfl (fun hc2=>?_) (fun hc2=>?_)
  ·simp only[aKD]at hc2;have hk:k<xs.length:=by omega
   obtain⟨y,hy⟩:∃y,xs[k]?= some y:=⟨_,aJT hk⟩
   have hy2:(x::xs)[(k+1:Int).toNat]?= some y:=by rw[show((k:Int)+1).toNat=k+1 by omega];simpa using hy
   refine C.kn<|aCX<|Zai<|C.rg<|Za rfl<|Za rfl<|Za rfl<|cR rfl U25 Tf.s3 rfl Yk rfl Yd Yk rfl aGL (fun b2 o2 cs2 hr2 hcl2 hA2=>?_);obtain rfl:cs2=[.int .i64 _]:=hr2;refine Zg 0 rfl Tf.a3 rfl hA2 rfl<|PN rfl rfl rfl rfl trivial<|Zi rfl<|Zz<|Zak<|Zag<|C.rg<|Za rfl<|Zy rfl<|Zi rfl<|Zz ?_;have h3:(xs.take (k+1)).foldl min x=min ((xs.take k).foldl min x) y:=by rw[aKL,hy,aMA];rfl
   exact aH 16 (k+1) Yd Yd ⟨(by rw[h3];rfl),Yb,aGL⟩ rfl rfl (aJU _) (aD)
  ·simp only[aKD]at hc2;refine aR<|Zah<|Zah<|Zal<|Zag<|C.s1<|Za rfl<|Zi rfl<|L.n5 ?_;exact Zc [_] rfl ⟨rfl,aGL⟩ (fun D hD=>by show Value.int _ _=_;rw[aLA Yd])
theorem iS(sv:Value)(x:Int)(xs:List Int)(D:aA)(hS:Sl D RI 1 sv (x::xs)):
  Fn Tryz.prog 149 #[sv] D (fun _ v=>v=.int .i64 (xs.foldl min x)):=by
 refine enter 5 Tryz.func149 rfl rfl rfl rfl fun h0=>C.s1<|Zi rfl<|L.n3<|Za rfl<|Zd rfl (fun D1 hD1=>K8 _ x xs _ (Sl.at RI.up hD1 Yk Ye))<|Zi rfl<|L.n5 ?_
 exact Zc [_] rfl ⟨rfl,aGL⟩ (fun D hD=>rfl)
end L7
end Go.Fs
namespace Go.Fs
open Go.Proofs
namespace L7
open C7
theorem YU{p:Pt}:(p.l== [1,1,1])=iO p:=by
 obtain⟨a,b,c⟩:=p;simp only[iO,Pt.l,Pt.mk.injEq];rw[aNR];simp
theorem QC{m k i:Nat}(hk:m.testBit k=true)(h1:i≤k)(h:((m >>> i:Nat):Int)%2=0):i+1≤k:=by
 rw[kA]at h;have:i≠k:=by rintro rfl;rw[hk]at h;simp at h
 omega
theorem WN{m k i:Nat}(hl:∀i,i<k→m.testBit i=false)(h1:i≤k)(h:¬((m >>> i:Nat):Int)%2=0):i=k:=by
 rw[kA]at h;by_cases hi:i<k
 ·rw[hl i hi]at h;simp at h
 ·omega
theorem B2(r:Int×Int)(n:Int)(D:aA):Fn Tryz.prog 230 #[iP r,.int .i64 n] D (fun _ v=>v=.bool (fL n r.1 r.2)):=by
 refine enter 11 Tryz.func230 rfl rfl rfl rfl fun h0=>C.s1<|Zv rfl (fun q1 E1 hE1 hB1=>Zi rfl<|L.n3<|Za rfl<|Zj rfl Tf.f114_0 rfl<|Zg 0 rfl Tf.a3 rfl hB1 rfl<|Zj rfl Tf.f114_1 rfl<|Zg 1 rfl Tf.a3 rfl hB1 rfl<|Zd rfl (fun D1 hD1=>dM _ _ _ _)<|Zi rfl ?_);refine L.n5 ?_
 exact Zc [_] rfl ⟨rfl,aGL⟩ (fun D hD=>rfl)
theorem nW(r:Int×Int)(n:Int)(D:aA):Fn Tryz.prog 91 #[iP r,.int .i64 n] D (fun _ v=>v=iP (min r.1 n,max r.2 n)):=by
 refine enter 15 Tryz.func91 rfl rfl rfl rfl fun h0=>C.s1<|Zv rfl (fun q1 E1 hE1 hB1=>Zw rfl Tf.z114 rfl (fun q2=>L.n2<|iH [] 4 [0,1,2,5,6,7,8,3,4,9,10] [false,false,true,true,true,true,true,true,true,false,false] [(false,0),(false,1),(true,2),(true,5),(true,6),(true,7),(true,8),(true,3),(true,4),(false,9),(false,10)] Tf.follows (fun _ _ _ h=>cZ (P:=Tryz.prog) (fn:=Tryz.f91) _ _ _ h) Yg rfl<|Zj rfl Tf.f114_0 rfl<|Zg 0 rfl Tf.a3 rfl hB1 rfl<|Za rfl<|Zj rfl Tf.f114_1 rfl<|Zg 1 rfl Tf.a3 rfl hB1 rfl<|Za rfl ?_));refine oV rfl rfl rfl rfl trivial<|Zr rfl U25 Tf.s3 Tf.z3 rfl rfl rfl rfl (.cons rfl rfl (.cons rfl rfl .nil)) (fun b901 D901 hD901 hA901=>?_)
 have hS901:=Sl.ofInts (l:=[_,_]) (n:=2) (cap:=2) hA901 rfl Yd Yd;refine Zd rfl (fun D1 hD1=>iS _ r.1 [n] _ (hS901.up RI.up (hD1 _ Ye)))<|Zq [.int .i64 (min r.1 n),.int .i64 (max r.2 n)] rfl Tf.p114 Tf.z114 rfl rfl<|Zu rfl Tf.s114 (bO.head)<|L.n5 ?_;exact Zc [_] rfl ⟨⟨_,_,_,rfl,(List.Mem.head _),Or.inr ⟨Tf.a114,(by first|exact Tf.s114|(simp only[aLH,aI, *];exact Tf.s114)),rfl⟩⟩,aGL⟩ (fun D hD=>rfl)
theorem JQ(n m:Int)(b:Nat)(D:aA)(hB:At D b 0 [.int .i64 m]):Fn Tryz.prog 268 #[.int .i64 n,.pointer (some ⟨b,0,none⟩)] D (fun _ v=>v=.bool (fL n 0 m)):=by
 refine enter 7 Tryz.func268 rfl rfl rfl rfl fun h0=>C.s1<|Zi rfl<|L.n3<|Za rfl<|Zg 0 rfl Tf.a3 rfl hB rfl<|Zd rfl (fun D1 hD1=>dM _ _ _ _)<|Zi rfl<|L.n5 ?_
 exact Zc [_] rfl ⟨rfl,aGL⟩ (fun D hD=>rfl)
theorem PA(p:Pt)(m:Int)(D:aA):Fn Tryz.prog 222 #[aDG p,.int .i64 m] D (fun _ v=>v=.bool (HJ p m)):=by
 refine enter 8 Tryz.func222 rfl rfl rfl rfl fun h0=>C.s1<|Zv rfl (fun q1 E1 hE1 hB1=>Zv rfl (fun q2 E2 hE2 hB2=>Zi rfl<|L.n3<|OR rfl U78 Tf.s3 rfl rfl trivial<|bE rfl rfl rfl rfl trivial<|Zd rfl (fun D1 hD1=>wN _ _ p.l (fun x=>fL x 0 m) _ (Sl.ofInts (l:=p.l) (n:=3) (cap:=3) (hB1.up (hD1 _ Ye)) rfl Yd Yd) ⟨_,[],[_],rfl,fun x D2 hl=>JQ x m q2 D2 (hB2.up ((hD1 _ Ye).trans hl))⟩ rfl)<|Zi rfl<|L.n5 ?_))
 exact Zc [_] rfl ⟨rfl,aGL⟩ (fun D hD=>rfl)
theorem O6(c:Ch)(D:aA):Fn Tryz.prog 143 #[aCB c] D (fun _ v=>v=.bool (gX c)):=by
 refine enter 11 Tryz.func143 rfl rfl rfl rfl fun h0=>C.s1<|Zv rfl (fun q1 E1 hE1 hB1=>Zi rfl<|L.n3<|Zj rfl Tf.f80_0 rfl<|Zg 0 rfl Tf.a3 rfl hB1 rfl<|Zd rfl (fun D1 hD1=>dM _ _ _ _)<|Za rfl ?_)
 refine' cQ [(false,4),(false,5),(false,6),(false,7)] [(false,8)] (s:=6) (p:=10) rfl rfl (fun hg1=>?_) (fun hg1=>?_) ?_;rotate_left
 ·refine Zk rfl Tf.f80_1 rfl<|dO rfl (k:=1) Tf.a78 Tf.s78 rfl hB1 Yc rfl rfl aJN rfl ⟨_,rfl,rfl⟩<|Ze rfl (fun D2 hD2=>PA c.parts 2 _)<|Zac rfl ?_;exact L.cu 3
 ·refine Zl rfl<|Zl rfl<|Zl rfl<|Zad rfl ?_;exact L.cu 3
 refine Zi rfl<|L.n5 ?_;exact Zc [_] rfl ⟨rfl,aGL⟩ (fun D hD=>rfl)
theorem QD(yv:Value)(y:bJ)(r:Int×Int)(D:aA)(hy:lE D yv y):Fn Tryz.prog 140 #[yv,iP r] D (fun _ v=>v=.bool (kZ r)):=by
 obtain⟨cv,qv,rfl,hc,hq⟩:=hy;refine enter 20 Tryz.func140 rfl rfl rfl rfl fun h0=>C.s1<|Zv rfl (fun q1 E1 hE1 hB1=>Zv rfl (fun q2 E2 hE2 hB2=>Zi rfl<|L.n3<|Zj rfl Tf.f114_0 rfl<|Zg 0 rfl Tf.a3 rfl hB2 rfl<|iM rfl rfl rfl rfl trivial<|Za rfl ?_))
 refine' cQ [(false,4),(false,5),(false,6),(false,7),(false,8),(false,9)] [(false,10),(false,11),(false,12),(false,13),(false,14),(false,15)] (s:=8) (p:=14) rfl rfl (fun hg1=>?_) (fun hg1=>?_) ?_;rotate_left
 ·refine Zk rfl Tf.f114_0 rfl<|Zh 0 rfl Tf.a3 rfl hB2 rfl<|Zk rfl Tf.f114_1 rfl<|Zh 1 rfl Tf.a3 rfl hB2 rfl<|iM rfl rfl rfl rfl ⟨_,rfl,rfl⟩<|Zac rfl ?_;exact L.cu 5
 ·refine Zl rfl<|Zl rfl<|Zl rfl<|Zl rfl<|Zl rfl<|Zad rfl ?_;exact L.cu 5
 refine Za rfl ?_;refine' cQ [(false,11),(false,12),(false,13),(false,14)] [(false,15)] (s:=15) (p:=19) rfl rfl (fun hg2=>?_) (fun hg2=>?_) ?_;rotate_left
 ·refine Zk rfl Tf.f114_1 rfl<|Zh 1 rfl Tf.a3 rfl hB2 rfl<|iM rfl rfl rfl rfl ⟨_,rfl,rfl⟩<|Zac rfl ?_;exact L.cu 3
 ·refine Zl rfl<|Zl rfl<|Zl rfl<|Zad rfl ?_;exact L.cu 3
 refine Zi rfl<|L.n5 ?_;exact Zc [_] rfl ⟨rfl,aGL⟩ (fun D hD=>rfl)
theorem wT(p:Pt)(D:aA):Fn Tryz.prog 227 #[aDG p] D (fun _ v=>v=.bool (iO p)):=by
 refine enter 6 Tryz.func227 rfl rfl rfl rfl fun h0=>C.s1<|Zv rfl (fun q1 E1 hE1 hB1=>Zi rfl<|L.n3<|cO rfl Tf.a78 rfl hB1 Yc Yy aJN rfl trivial<|H5 (cs:=[.int .i64 1,.int .i64 1,.int .i64 1]) rfl U78 Tf.s3 Tf.z78 rfl rfl rfl trivial<|EI (l:=p.l) (m:=[1,1,1]) rfl Yg U78 U3 Yg rfl rfl rfl rfl rfl trivial<|Zi rfl<|L.n5 ?_)
 exact Zc [_] rfl ⟨rfl,aGL⟩ (fun D hD=>by show Value.bool _=_;rw[YU])
theorem LI(m k:Nat)(D:aA)(hk:m.testBit k=true)(hk2:k≤60)(hl:∀i,i<k→m.testBit i=false):Fn Tryz.prog 270 #[.int .i64 (m:Int)] D (fun _ v=>v=.int .i64 (k:Int)):=by
 refine enter 11 Tryz.func270 rfl rfl rfl rfl fun h0=>C.s1<|Zi rfl<|L.n2<|Zai<|cN (γ:=Nat) (fun i=>k-i) (fun i=>i≤k) (fun i=>[(2,.int .i64 (i:Int))]) [(0,_)] (fun i=>[D]) 0 Yd ⟨Yb,aGL⟩ ⟨rfl,aGL⟩ (aD) ?_
 rintro i h1;refine C.s2<|Za rfl<|Za rfl<|K3 rfl rfl rfl Yd rfl trivial<|zR rfl rfl rfl (Int.natCast_nonneg _) Yd (by rw[kA];split<;>simp only[rP]<;>omega) rfl trivial<|dH rfl rfl rfl rfl trivial<|L.n1<|aF rfl (fun hc1=>?_) (fun hc1=>?_)
 ·refine C.kn<|Zai<|C.rg<|Za rfl<|Zy rfl<|Zi rfl<|Zz<|Zak ?_;exact aH 9 (i+1) (QC hk h1 hc1) (by have:=QC hk h1 hc1;omega) ⟨Yb,aGL⟩ rfl rfl (aJU _) (aD)
 ·obtain rfl:=WN hl h1 hc1;refine aR<|Zah<|Zah<|Zal<|Zag<|C.s1<|Za rfl<|Zi rfl<|L.n5 ?_;exact Zc [_] rfl ⟨rfl,aGL⟩ (fun D hD=>rfl)
end L7
end Go.Fs
