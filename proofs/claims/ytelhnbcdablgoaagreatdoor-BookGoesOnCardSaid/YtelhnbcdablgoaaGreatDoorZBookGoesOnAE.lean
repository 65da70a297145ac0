/- Of the proof of BookGoesOn: AW5, AW6, AW7, AW8, MapK, Eqs, UW1, MapV, Range, UW2, SW1, SW2. -/
import Derived.Test.YtelhnbcdablgoaaGreatDoorZBookGoesOnAD
import Derived.Test.YtelhnbcdablgoaaGreatDoorZBookGoesOnAC
import Derived.Maps.RangeRun
namespace Go.Fs
open Go.Proofs
namespace L1
open C1
theorem KF{ts:List (List Int)}{q:List Int→Bool}{t0 t:List Int}{j:Nat}(hj:ts[j]?= some t)(h:(ts.take j).all (fun t=>q t==q t0)=true)(hc:(!(q t==q t0))=false):(ts.take (j+1)).all (fun t=>q t==q t0)=true:=by
 rw[aJP,hj,List.all_append,h];simpa using hc
theorem AK{r:dK}{f:Bool}(h:dF r f=0):truths r≠[]:=by
 unfold dF at h;split at h;omega;split at h;omega;split at h;omega;assumption
theorem yA{r:dK}{f:Bool}(h:dF r f=0):f=true:=by
 unfold dF at h;split at h;omega;split at h;omega;rename_i hf;simpa using hf
theorem SR{r:dK}{i j:Int}(hok:oQ r)(h:dF r (nW r i j)=0):0≤i∧i≤j∧j<9:=by
 have:=yA h;simp only[nW,aJI,cG]at this;have:=hok.len9;omega
theorem vY{r:dK}(hok:oQ r):∀t∈truths r,t.length≤9∧∀x∈t,0≤x∧x≤1:=fun t ht=>⟨by have:=(uI ht).1;have:=hok.len9;omega,(uI ht).2⟩
theorem S2{ts:List (List Int)}{k:Nat}{t:List Int}{f:List Int→Int}{a:Int}(h:ts[k]?= some t):((ts.take (k+1)).map f).foldl min a=min (((ts.take k).map f).foldl min a) (f t):=by
 rw[aJP,h,aLC,aJN,aLE];rfl
theorem K3{ts:List (List Int)}{k:Nat}{t:List Int}{f:List Int→Int}{a:Int}(h:ts[k]?= some t):((ts.take (k+1)).map f).foldl max a=max (((ts.take k).map f).foldl max a) (f t):=by
 rw[aJP,h,aLC,aJN,aLE];rfl
open C1
theorem LS(sv:Value)(ts:List (List Int))(i j:Int)(D:aA)(hS:Sl D RT 9 sv ts)(hne:ts≠[])(hall:∀t∈ts,t.length≤9∧∀x∈t,0≤x∧x≤1)(hi0:0≤i)(hij:i≤j)(hj9:j<9):
  Fn Tryz.prog 75 #[sv,.int .i64 i,.int .i64 j] D (fun _ v=>v=.agg #[.int .i64 (XE ts i.toNat j.toNat),.int .i64 (TD ts i.toNat j.toNat)]):=by
 have hl:=hS.len;obtain⟨t0,ht0⟩:∃t,ts[0]?= some t:=⟨ts[0]'(aMH.2 hne),aJC _⟩
 have ht0m:=aJA ht0;have hb0:=w9 (hall t0 ht0m).2 i.toNat j.toNat Yd;have hp90:=fJ (hall t0 ht0m).1;refine enter 36 Tryz.func75 rfl rfl rfl rfl fun h0=>C.s1<|Zx rfl Tf.z88 rfl (fun q1=>L.n3<|Za rfl<|Zs rfl U174 Tf.s179 rfl hS rfl ht0 (fun b1 o1 cs1 hr1 hcl1 hA1=>?_))
 obtain rfl:cs1=ints (eD _):=hr1;refine cQ rfl Tf.a179 rfl hA1 Yc (by first|exact Tf.s179|(simp only[*];exact Tf.s179)) GT rfl trivial<|Zd rfl (fun D1 hD1=>wR t0 _ (hall _ ht0m).1 (hall _ ht0m).2)<|Za rfl<|Za rfl<|Zd rfl (fun D2 hD2=>aDP t0 i j _ hi0 hij hj9 (hall _ ht0m).2)<|Zh rfl<|L.n3<|Za rfl<|Za rfl<|Zq [.int .i64 (lB t0 i.toNat j.toNat),.int .i64 (lB t0 i.toNat j.toNat)] rfl Tf.p88 Tf.z88 rfl rfl<|Zx rfl Tf.z88 rfl (fun q2=>Zv rfl Tf.s88 (bM.head) ?_);refine L.n4<|Za rfl<|aR rfl U174 rfl Yk rfl rfl trivial<|Za rfl<|L.n1<|Zaj<|cE (γ:=Nat) (fun k=>ts.length-k) (fun k=>k≤ts.length) (fun k=>[(23,.int .i64 (k:Int))]) [(22,_),(21,_),(8,_),(6,_),(1,_),(2,_)] (fun k=>[(q2,.cells [.int .i64 (((ts.take k).map fun t=>lB t i.toNat j.toNat).foldl min (lB t0 i.toNat j.toNat)),.int .i64 (((ts.take k).map fun t=>lB t i.toNat j.toNat).foldl max (lB t0 i.toNat j.toNat))].toArray 88 (0,0)),(q1,.cells [.int .i64 0,.int .i64 0].toArray 88 (0,0))]) (fun k=>[D]) 0 Yd ⟨Yb,aOJ⟩ C.rs (LE _) (aD) ?_;rintro k h1;refine C.s1<|Zae rfl<|L.n2<|aE rfl (fun hc1=>?_) (fun hc1=>?_)
 ·have hkk:k<ts.length:=by omega
  obtain⟨t,ht⟩:=C.ge ts k;have htm:=aJA ht;obtain⟨htl,htb⟩:=hall t htm;have hp9:=fJ htl;refine C.kn<|aM<|Zaj<|C.s1<|Zs rfl U174 Tf.s179 rfl hS rfl ht (fun b2 o2 cs2 hr2 hcl2 hA2=>?_);obtain rfl:cs2=ints (eD _):=hr2;refine cQ rfl Tf.a179 rfl hA2 Yc (by first|exact Tf.s179|(simp only[*];exact Tf.s179)) GT rfl trivial<|Zx rfl Tf.z179 rfl (fun q3=>aW rfl rfl rfl rfl Tf.s179 Yad Ya (bM.head) Yh trivial<|L.n1<|iW [] 3 [0,1,3,4,2,5,6,7] [false,true,true,true,true,true,false,false] [(false,0),(true,1),(true,3),(true,4),(true,2),(true,5),(false,6),(false,7)] Tf.follows (fun _ _ _ h=>cA (P:=Tryz.prog) (fn:=Tryz.f75) _ _ _ h) Yg rfl<|Zu rfl Tf.a88 rfl (List.Mem.tail _ (List.Mem.head _)) Tf.s88<|bJ rfl Tf.a179 rfl (List.Mem.head _) (by first|exact Tf.s179|(simp only[*];exact Tf.s179)) GT rfl trivial<|Za rfl<|Za rfl<|Zd rfl (fun D3 hD3=>wR t _ (hall _ htm).1 (hall _ htm).2)<|Zd rfl (fun D4 hD4=>aDP t i j _ hi0 hij hj9 (hall _ htm).2)<|Zd rfl (fun D5 hD5=>oA _ _ _ _) ?_);refine Zv rfl Tf.s88 (.tail (bM.head))<|Zab<|Zal<|Zah<|C.rg<|Zy rfl<|Za rfl<|Zab ?_;rw[←S2 ht,←K3 ht];exact aG 14 (k+1) Yd Yd ⟨Yb,aOJ⟩ rfl rfl (List.Sublist.cons _ (LE _)) (aD)
 ·obtain rfl:k=ts.length:=by omega
  rw[aKN,I2 _ _ (by rw[aKA,ht0];rfl),H1 _ _ (by rw[aKA,ht0];rfl)];refine aQ<|Zak<|Zak<|Zan<|Zah<|C.s1<|Zu rfl Tf.a88 rfl (List.Mem.head _) Tf.s88<|Zv rfl Tf.s88 (.tail (bM.head))<|L.n5 ?_;exact Zm [_] rfl ⟨⟨_,_,_,rfl,(List.Mem.tail _ (List.Mem.head _)),Or.inr ⟨Tf.a88,(by first|exact Tf.s88|(simp only[aKH,aH, *];exact Tf.s88)),rfl⟩⟩,aOJ⟩ (fun D hD=>rfl)
theorem yW(rv:Value)(r:dK)(i j:Int)(D:aA)(hr:mW D rv r):Fn Tryz.prog 44 #[rv,.int .i64 i,.int .i64 j] D (fun _ v=>v=.tuple #[.agg (if dF r (nW r i j)=0 then #[.int .i64 (XE (truths r) i.toNat j.toNat),.int .i64 (TD (truths r) i.toNat j.toNat)]else #[.int .i64 0,.int .i64 0]),.int .i64 (dF r (nW r i j))]):=by
 have hr0:=hr;obtain⟨pv,cv,rfl,hp,hc⟩:=hr;refine enter 30 Tryz.func44 rfl rfl rfl rfl fun h0=>C.s1<|Zw rfl (fun q1 E1 hE1 hB1=>Zx rfl Tf.z88 rfl (fun q2=>Zh rfl<|L.n2<|C.drawA [] 4 11 798 (fun _ _ _ h=>cA (P:=Tryz.prog) (fn:=Tryz.f44) _ _ _ h)<|Zr rfl Tf.a28 rfl hB1 Tf.s28<|Zr rfl Tf.a28 rfl hB1 Tf.s28<|Za rfl<|Za rfl<|Zd rfl (fun D1 hD1=>aAT _ r i j _ (hr0.up (hD1 _ Ye))) ?_));refine Zt rfl (fun D2 hD2=>pV _ r _ _ (hr0.up (hD2 _ Ye))) (fun v2 D2 hD2 hp2=>?_)
 obtain⟨wv,rfl,hwk⟩:=hp2;refine Za rfl<|Zaa rfl<|Zaa rfl<|Zh rfl<|Zh rfl<|L.n4<|Za rfl<|dZ rfl rfl rfl rfl trivial<|L.n1<|aE rfl (fun hc1=>?_) (fun hc1=>?_)
 ·refine C.s1<|Zq [.int .i64 0,.int .i64 0] rfl Tf.p88 Tf.z88 rfl rfl<|Za rfl<|Zv rfl Tf.s88 (bM.head)<|Zh rfl<|L.n5<|Zai ?_;exact Zm [_,_] rfl ⟨⟨_,_,_,rfl,(List.Mem.head _),Or.inr ⟨Tf.a88,(by first|exact Tf.s88|(simp only[aKH,aH, *];exact Tf.s88)),rfl⟩⟩,rfl,aOJ⟩ (fun D hD=>by show Value.tuple _=_;rw[aJM hc1])
 ·have he0:dF r (nW r i j)=0:=by omega
  obtain⟨hok,wb,pv2,cv2,tv,rfl,hA,hp2,hc2',ht⟩:=hwk he0;have htn:=AK he0;have hall:=vY hok;have hpt:=SR hok he0;refine C.kn<|C.s1<|Za rfl<|Zaf rfl<|Zi rfl Tf.f176_1 rfl<|Zf 4 rfl Tf.a174 rfl hA rfl<|Za rfl<|Za rfl<|Zd rfl (fun D3 hD3=>LS _ _ i j _ (ht.up RT.up (hD3 _ Ye)) htn hall hpt.1 hpt.2.1 hpt.2.2)<|Zv rfl Tf.s88 (bM.head)<|Zh rfl<|L.n5 ?_;exact Zm [_,_] rfl ⟨⟨_,_,_,rfl,(List.Mem.head _),Or.inr ⟨Tf.a88,(by first|exact Tf.s88|(simp only[aKH,aH, *];exact Tf.s88)),rfl⟩⟩,rfl,aOJ⟩ (fun D hD=>by show Value.tuple _=_;rw[aJT he0,he0])
theorem I6(wv:Value)(t:List Int)(i:Nat)(D:aA)(h9:t.length≤9)(hi:i<9):Fn Tryz.prog 263 #[wv,.agg (ints (eD t)).toArray,.int .i64 (i:Int)] D (fun _ v=>v=.bool (QT i t)):=by
 have hg:=UQ hi h9;refine enter 11 Tryz.func263 rfl rfl rfl rfl fun h0=>C.s1<|Zw rfl (fun q1 E1 hE1 hB1=>Zh rfl<|L.n3<|Za rfl<|dH rfl U179 Tf.s3 rfl rfl Yd Yd rfl trivial<|gL rfl Tf.a3 rfl hB1 Ye (cD hg) GT rfl trivial<|eB rfl rfl rfl rfl trivial<|Zh rfl<|L.n5 ?_)
 exact leave1 rfl rfl rfl rfl (fun D hD=>rfl)
theorem CT(fv wv:Value)(f:FuncId)(r:dK)(p:Nat→List Int→Bool)(many:Nat)(D:aA)(hfv:fv=.func (.func f) #[] #[])(hw:TT D wv r)(hok:oQ r)(hne:truths r≠[])(hm:many≤9)
  (hf:∀t∈truths r,∀i,i<many→∀D',Le D D'→Fn Tryz.prog f #[wv,.agg (ints (eD t)).toArray,.int .i64 (i:Int)] D' (fun _ v=>v=.bool (p i t))):
  Fn Tryz.prog 264 #[.agg #[fv],wv,.int .i64 (many:Int)] D (fun D' v=>Sl D' RI 1 v ((List.range many).map fun i=>vd (truths r) (p i))):=by
 obtain⟨wb,pv,cv,tv,rfl,hA,hp,hc,ht⟩:=hw;subst hfv;have hl:=ht.len;have hall:=vY hok;obtain⟨t0,ht0⟩:∃t,(truths r)[0]?= some t:=⟨(truths r)[0]'(aMH.2 hne),aJC _⟩
 have ht0m:=aJA ht0;have hp90:=fJ (hall t0 ht0m).1;refine enter 52 Tryz.func264 rfl rfl rfl rfl fun h0=>C.s1<|Zw rfl (fun q1 E1 hE1 hB1=>Zh rfl<|L.n4<|Za rfl<|Za rfl<|L.n1<|Zaj<|cE (γ:=Nat×Value×aC) (fun g=>many-g.1) (fun g=>g.1≤many∧bL 3 1 g.2.1 g.1 (ints ((List.range g.1).map fun i=>vd (truths r) (p i))) g.2.2) (fun g=>[(13,.int .i64 (g.1:Int)),(6,g.2.1)]) [(12,_),(3,_),(1,_)] (fun g=>g.2.2++[]) (fun g=>[E1,D]) (0,.slice none 0 0,[]) ⟨by simp,by simpa [ints]using bL.nil⟩ ⟨Yb,Yb,aOJ⟩ C.rs (LE _) (aD) ?_)
 rintro⟨k,v,ν⟩ ⟨h1,ha⟩;refine C.s1<|Zae rfl<|L.n2<|aE rfl (fun hc1=>?_) (fun hc1=>?_)
 ·refine C.kn<|aM<|Zaj<|C.s1<|Za rfl<|Zh rfl<|L.n1<|f7<|aM<|C.drawA [] 6 12 1020 (fun _ _ _ h=>cA (P:=Tryz.prog) (fn:=Tryz.f264) _ _ _ h)<|Zi rfl Tf.f384_0 rfl<|Zf 0 rfl Tf.a381 rfl hB1 rfl ?_;refine Za rfl<|Za rfl<|Zaf rfl<|Zi rfl Tf.f176_1 rfl<|Zf 4 rfl Tf.a174 rfl hA rfl<|Zs rfl U174 Tf.s179 rfl ht rfl ht0 (fun b1 o1 cs1 hr1 hcl1 hA1=>?_);obtain rfl:cs1=ints (eD _):=hr1;refine cQ rfl Tf.a179 rfl hA1 Yc (by first|exact Tf.s179|(simp only[*];exact Tf.s179)) GT rfl trivial<|Za rfl<|Zd rfl (fun D1 hD1=>hf t0 ht0m k Yd _ (hD1 _ Ye))<|Zh rfl<|L.n3<|Zh rfl<|L.n4<|Za rfl<|L.n1<|aJ rfl (fun hc2=>?_) (fun hc2=>?_)
  ·refine C.rg<|Zh rfl<|L.n2<|G5<|Zah<|C.s2<|Za rfl<|Zaf rfl<|Zi rfl Tf.f176_1 rfl<|Zf 4 rfl Tf.a174 rfl hA rfl<|aR rfl U174 rfl Yk rfl rfl trivial<|Za rfl ?_;refine L.n1<|Zaj<|cJ (γ:=Nat) (fun j=>(truths r).length-j) (fun j=>j≤(truths r).length∧((truths r).take j).all (fun t=>p k t==p k t0)=true) (fun j=>[(33,.int .i64 (j:Int))]) [(32,_),(31,_),(30,_),(29,_),(28,_),(9,_),(27,_),(8,_),(26,_),(25,_),(24,_),(23,_),(22,_),(21,_),(20,_),(19,_),(18,_),(17,_),(16,_),(7,_),(15,_),(14,_),(13,_),(6,_),(12,_),(3,_),(1,_)] (fun j=>[E1,D]) 0 Ye ⟨Yb,aOJ⟩ C.rs (aD) ?_;rintro j ⟨h3,h4⟩;refine C.s1<|Zae rfl<|L.n2<|aE rfl (fun hc3=>?_) (fun hc3=>?_)
   ·have hj:j<(truths r).length:=by omega
    obtain⟨t,ht1⟩:=C.ge (truths r) j;have htm:=aJA ht1;obtain⟨htl,htb⟩:=hall t htm;have hp9:=fJ htl;refine C.kn<|aM<|Zaj<|C.s1<|Zs rfl U174 Tf.s179 rfl ht rfl ht1 (fun b2 o2 cs2 hr2 hcl2 hA2=>?_);obtain rfl:cs2=ints (eD _):=hr2;refine cQ rfl Tf.a179 rfl hA2 Yc (by first|exact Tf.s179|(simp only[*];exact Tf.s179)) GT rfl trivial<|Zx rfl Tf.z179 rfl (fun q2=>aW rfl rfl rfl rfl Tf.s179 Yad Ya (bM.head) Yh trivial<|L.n3<|Zi rfl Tf.f384_0 rfl<|Zf 0 rfl Tf.a381 rfl hB1 rfl<|Za rfl<|bJ rfl Tf.a179 rfl (List.Mem.head _) (by first|exact Tf.s179|(simp only[*];exact Tf.s179)) GT rfl trivial<|Za rfl<|Zd rfl (fun D2 hD2=>hf t htm k Yd _ (hD2 _ Ye))<|Za rfl<|i7 rfl U4 rfl rfl rfl aOJ ?_);refine L.n1<|aJ rfl (fun hc4=>?_) (fun hc4=>?_)
    ·have hv:vd (truths r) (p k)=3:=aDF ht0 ht1 hc4;refine C.s1<|Zh rfl<|L.n1<|aQ<|mN rfl<|Zak<|Zak<|Zan<|Zah<|C.rg<|Za rfl<|Za rfl ?_;refine Zp rfl U25 Tf.s3 Tf.z3 rfl rfl rfl rfl (.cons rfl rfl .nil) (fun b901 D901 hD901 hA901=>?_);have hS901:=Sl.ofInts (l:=[_]) (n:=1) (cap:=1) hA901 rfl Yd Yd;refine aU (A:=[(_,_)]) (B:=_) rfl U25 rfl rfl Tf.s3 Tf.z3 rfl Tf.i3 rfl rfl rfl ha (jE.lit hA901) Ye rfl Ye Yi Yd (aJQ rfl) rfl aOJ (fun v1 ν1 ha1=>?_);have ha2:bL 3 1 v1 (k+1) (ints ((List.range (k+1)).map fun i=>vd (truths r) (p i))) ν1:=by rw[aLG,aJN,aNE,hv,←eN];exact ha1
     refine Zh rfl<|Zab<|lM<|Zal<|Zah<|C.rg<|Zy rfl<|Za rfl<|Zab ?_;exact aG 45 (k+1,v1,ν1) ⟨by simp only;omega,ha2⟩ Yl ⟨Yb,Yb,aOJ⟩ rfl rfl (List.Sublist.cons _ (LE _)) (fun D h=>⟨D,LT _ (h),Le.refl D⟩)
    ·have hcc:=hc4;refine bQ<|Zal<|Zah<|C.rg<|Zy rfl<|Za rfl<|Zab ?_;exact aG 15 (j+1) ⟨by omega,KF ht1 h4 hcc⟩ Yd ⟨Yb,aOJ⟩ rfl rfl (List.Sublist.cons _ (LE _)) (aD)
   ·have hv:vd (truths r) (p k)=1:=by rw[YJ ht0 Yd h4,aJT (by simp[hc2])]
    refine aQ<|Zak<|Zak<|Zan<|Zah<|C.rg<|Za rfl<|Za rfl<|Zp rfl U25 Tf.s3 Tf.z3 rfl rfl rfl rfl (.cons rfl rfl .nil) (fun b902 D902 hD902 hA902=>?_);have hS902:=Sl.ofInts (l:=[_]) (n:=1) (cap:=1) hA902 rfl Yd Yd;refine aU (A:=[]) (B:=_) rfl U25 rfl rfl Tf.s3 Tf.z3 rfl Tf.i3 rfl rfl rfl ha (jE.lit hA902) Ye rfl Ye Yi Yd (aJQ rfl) rfl aOJ (fun v2 ν2 ha2=>?_);have ha2:bL 3 1 v2 (k+1) (ints ((List.range (k+1)).map fun i=>vd (truths r) (p i))) ν2:=by rw[aLG,aJN,aNE,hv,←eN];exact ha2
    refine Zh rfl<|Zab<|lM<|Zal<|Zah<|C.rg<|Zy rfl<|Za rfl<|Zab ?_;exact aG 33 (k+1,v2,ν2) ⟨by simp only;omega,ha2⟩ Yl ⟨Yb,Yb,aOJ⟩ rfl rfl (LE _) (fun D h=>⟨D,LT _ (h),Le.refl D⟩)
  ·refine C.kn<|aM<|G5<|Zah<|C.s2<|Za rfl<|Zaf rfl<|Zi rfl Tf.f176_1 rfl<|Zf 4 rfl Tf.a174 rfl hA rfl<|aR rfl U174 rfl Yk rfl rfl trivial<|Za rfl<|L.n1 ?_;refine Zaj<|cJ (γ:=Nat) (fun j=>(truths r).length-j) (fun j=>j≤(truths r).length∧((truths r).take j).all (fun t=>p k t==p k t0)=true) (fun j=>[(33,.int .i64 (j:Int))]) [(32,_),(31,_),(30,_),(29,_),(28,_),(27,_),(9,_),(8,_),(26,_),(25,_),(24,_),(23,_),(22,_),(21,_),(20,_),(19,_),(18,_),(17,_),(16,_),(7,_),(15,_),(14,_),(13,_),(6,_),(12,_),(3,_),(1,_)] (fun j=>[E1,D]) 0 Ye ⟨Yb,aOJ⟩ C.rs (aD) ?_;rintro j ⟨h3,h4⟩;refine C.s1<|Zae rfl<|L.n2<|aE rfl (fun hc5=>?_) (fun hc5=>?_)
   ·have hj:j<(truths r).length:=by omega
    obtain⟨t,ht1⟩:=C.ge (truths r) j;have htm:=aJA ht1;obtain⟨htl,htb⟩:=hall t htm;have hp9:=fJ htl;refine C.kn<|aM<|Zaj<|C.s1<|Zs rfl U174 Tf.s179 rfl ht rfl ht1 (fun b3 o3 cs3 hr3 hcl3 hA3=>?_);obtain rfl:cs3=ints (eD _):=hr3;refine cQ rfl Tf.a179 rfl hA3 Yc (by first|exact Tf.s179|(simp only[*];exact Tf.s179)) GT rfl trivial<|Zx rfl Tf.z179 rfl (fun q3=>aW rfl rfl rfl rfl Tf.s179 Yad Ya (bM.head) Yh trivial<|L.n3<|Zi rfl Tf.f384_0 rfl<|Zf 0 rfl Tf.a381 rfl hB1 rfl<|Za rfl<|bJ rfl Tf.a179 rfl (List.Mem.head _) (by first|exact Tf.s179|(simp only[*];exact Tf.s179)) GT rfl trivial<|Za rfl<|Zd rfl (fun D3 hD3=>hf t htm k Yd _ (hD3 _ Ye))<|Za rfl<|i7 rfl U4 rfl rfl rfl aOJ ?_);refine L.n1<|aJ rfl (fun hc6=>?_) (fun hc6=>?_)
    ·have hv:vd (truths r) (p k)=3:=aDF ht0 ht1 hc6;refine C.s1<|Zh rfl<|L.n1<|aQ<|mN rfl<|Zak<|Zak<|Zan<|Zah<|C.rg<|Za rfl<|Za rfl ?_;refine Zp rfl U25 Tf.s3 Tf.z3 rfl rfl rfl rfl (.cons rfl rfl .nil) (fun b903 D903 hD903 hA903=>?_);have hS903:=Sl.ofInts (l:=[_]) (n:=1) (cap:=1) hA903 rfl Yd Yd;refine aU (A:=[(_,_)]) (B:=_) rfl U25 rfl rfl Tf.s3 Tf.z3 rfl Tf.i3 rfl rfl rfl ha (jE.lit hA903) Ye rfl Ye Yi Yd (aJQ rfl) rfl aOJ (fun v3 ν3 ha3=>?_);have ha2:bL 3 1 v3 (k+1) (ints ((List.range (k+1)).map fun i=>vd (truths r) (p i))) ν3:=by rw[aLG,aJN,aNE,hv,←eN];exact ha3
     refine Zh rfl<|Zab<|lM<|Zal<|Zah<|C.rg<|Zy rfl<|Za rfl<|Zab ?_;exact aG 45 (k+1,v3,ν3) ⟨by simp only;omega,ha2⟩ Yl ⟨Yb,Yb,aOJ⟩ rfl rfl (List.Sublist.cons _ (LE _)) (fun D h=>⟨D,LT _ (h),Le.refl D⟩)
    ·have hcc:=hc6;refine bQ<|Zal<|Zah<|C.rg<|Zy rfl<|Za rfl<|Zab ?_;exact aG 15 (j+1) ⟨by omega,KF ht1 h4 hcc⟩ Yd ⟨Yb,aOJ⟩ rfl rfl (List.Sublist.cons _ (LE _)) (aD)
   ·have hv:vd (truths r) (p k)=2:=by rw[YJ ht0 Yd h4,aJM (by simp[hc2])]
    refine aQ<|Zak<|Zak<|Zan<|Zah<|C.rg<|Za rfl<|Za rfl<|Zp rfl U25 Tf.s3 Tf.z3 rfl rfl rfl rfl (.cons rfl rfl .nil) (fun b904 D904 hD904 hA904=>?_);have hS904:=Sl.ofInts (l:=[_]) (n:=1) (cap:=1) hA904 rfl Yd Yd;refine aU (A:=[]) (B:=_) rfl U25 rfl rfl Tf.s3 Tf.z3 rfl Tf.i3 rfl rfl rfl ha (jE.lit hA904) Ye rfl Ye Yi Yd (aJQ rfl) rfl aOJ (fun v4 ν4 ha4=>?_);have ha2:bL 3 1 v4 (k+1) (ints ((List.range (k+1)).map fun i=>vd (truths r) (p i))) ν4:=by rw[aLG,aJN,aNE,hv,←eN];exact ha4
    refine Zh rfl<|Zab<|lM<|Zal<|Zah<|C.rg<|Zy rfl<|Za rfl<|Zab ?_;exact aG 33 (k+1,v4,ν4) ⟨by simp only;omega,ha2⟩ Yl ⟨Yb,Yb,aOJ⟩ rfl rfl (LE _) (fun D h=>⟨D,LT _ (h),Le.refl D⟩)
 ·obtain rfl:k=many:=by omega
  refine aQ<|Zak<|Zak<|Zan<|Zah<|C.s1<|Za rfl<|Zh rfl<|L.n5<|eK (A:=[]) (B:=[]) ha rfl (fun D2 hD2 hF=>?_);exact leave1 rfl rfl rfl rfl (fun D hD=>(hF.ints Ye Yd).up RI.up (hD _ Ye))
theorem MX(rv:Value)(r:dK)(D:aA)(hr:mW D rv r):Fn Tryz.prog 198 #[rv] D (fun D' v=>∃lv,v=.tuple #[lv,.int .i64 (dF r true)]∧Sl D' RI 1 lv (if dF r true=0 then(List.range r.places.length).map (fun i=>vd (truths r) (QT i))else [])):=by
 have hr0:=hr;obtain⟨pv,cv,rfl,hp,hc⟩:=hr;have hl1:=hp.len;have hl2:=hc.len;refine enter 20 Tryz.func198 rfl rfl rfl rfl fun h0=>C.s1<|Zw rfl (fun q1 E1 hE1 hB1=>Zh rfl<|Zh rfl<|L.n3<|Zr rfl Tf.a28 rfl hB1 Tf.s28<|Zt rfl (fun D1 hD1=>pV _ r _ _ (hr0.up (hD1 _ Ye))) (fun v1 D1 hD1 hp1=>?_))
 obtain⟨wv,rfl,hwk⟩:=hp1;refine Za rfl<|Zaa rfl<|Zaa rfl<|Zh rfl<|Zh rfl<|L.n4<|Za rfl<|dZ rfl rfl rfl rfl trivial<|L.n1<|aE rfl (fun hc1=>?_) (fun hc1=>?_)
 ·refine C.s1<|Za rfl<|Zh rfl<|Zh rfl<|L.n5<|Zai ?_;exact Zm [_,_] rfl C.rs (fun D hD=>⟨_,rfl,by rw[aJM hc1];exact Sl.nil⟩)
 ·have he0:dF r true=0:=by omega
  obtain⟨hok,wb,pv2,cv2,tv,rfl,hA,hp2,hc2',ht⟩:=hwk he0;have htn:=AK he0;have hall:=vY hok;refine C.kn<|C.s1<|Zq [.func (.func 263) #[] #[]] rfl Tf.p384 Tf.z384 rfl rfl<|Za rfl<|Zi rfl Tf.f28_0 rfl<|Zf 0 rfl Tf.a25 rfl hB1 rfl<|aR rfl U25 rfl hp rfl rfl trivial<|Zt rfl (fun D2 hD2=>CT _ _ 263 r (QT) r.places.length _ rfl ⟨wb,pv2,cv2,tv,rfl,hA.up (hD2 _ Ye),hp2.up RI.up (hD2 _ Ye),hc2'.up RC.up (hD2 _ Ye),ht.up RT.up (hD2 _ Ye)⟩ hok htn (by have:=hok.len9;have:=hok.cnt6;omega) (fun t htm i hi D2 hl=>I6 _ t i D2 (hall t htm).1 (by have:=hok.len9;omega))) (fun v2 D2 hD2 hp2=>Zh rfl<|Zh rfl<|L.n5 ?_)
  exact Zm [_,_] rfl C.rs (fun D hD=>⟨_,by rw[he0];rfl,by rw[aJT he0];exact hp2.up RI.up (hD _ Ye)⟩)
end L1
end Go.Fs
namespace Go.Fs
open Go.Proofs
namespace L1
open C1
end L1
end Go.Fs
namespace Go.Fs
open Go.Proofs
namespace L1
end L1
end Go.Fs
namespace Go.Fs
open Go.Proofs
namespace L1
open C1
open C1
theorem YC(rv:Value)(r:dK)(D:aA)(hr:mW D rv r):Fn Tryz.prog 45 #[rv] D (fun _ v=>v=.tuple #[.int .i64 (pD r),.int .i64 (yT r)]):=by
 have hr0:=hr;obtain⟨pv,cv,rfl,hp,hc⟩:=hr;refine m8 47 Tryz.func45 rfl rfl rfl rfl fun h0=>C.s1<|Zw rfl (fun q1 E1 hE1 hB1=>Zh rfl<|Zh rfl<|L.n4<|Zr rfl Tf.a28 rfl hB1 Tf.s28<|Zd rfl (fun D1 hD1=>zX _ r _ (hr0.up (hD1 _ Ye)))<|Zh rfl<|L.n3<|Za rfl<|dZ rfl rfl rfl rfl aOJ ?_);refine L.n1<|aE rfl (fun hc1=>?_) (fun hc1=>?_)
 ·refine C.s1<|Za rfl<|Zh rfl<|Zh rfl<|L.n5<|Zai ?_;exact oX (vs:=[_,_]) rfl rfl rfl C.rs (fun D hD=>by show Value.tuple _=_;rw[pD,yT,aJT hc1,aJT hc1]<;>rfl)
 ·have hok:oQ r:=X9.1 Yd;refine C.kn<|C.s1<|Zx rfl Tf.z3 rfl (fun q2=>Zx rfl Tf.z4 rfl (fun q3=>Zn rfl Tf.s3 (.tail (bM.head)) rfl<|Zn rfl Tf.s4 (bM.head) rfl<|L.n3<|Zx rfl Tf.z179 rfl (fun q4=>L.n4<|Zr rfl Tf.a28 rfl hB1 Tf.s28<|Zt rfl (fun D2 hD2=>KK _ r _ (hr0.up (hD2 _ Ye)) hok.len9) (fun v2 D2 hD2 hp2=>L.n1 ?_))));refine Zaj ?_;obtain⟨br,rfl,hit⟩:=hp2;refine mK (γ:=Option Int×List Int) (xs:=(cW r.places).map eD) (enc:=l4) (Dr:=D2) (tH r) (fun _ _ _=>False) (fun g=>[(q4,.cells (ints g.2).toArray 179 (0,0)),(q3,.cells [.bool g.1.isSome].toArray 4 (0,0)),(q2,.cells [.int .i64 (g.1.getD 0)].toArray 3 (0,0))]) (none,List.replicate 9 0) rfl rfl rfl rfl hit Ye (fun _=>rfl) rfl ⟨rfl,rfl,fun u hu=>by simp at hu⟩ rfl ?_ ?_ (fun _ _ _ _ h=>h.elim)
  ·rintro pre x ⟨o,last⟩ ⟨us,hx⟩ hΦ l bd rec hh D7 hD7 hst hpend;obtain⟨t,hk,rfl,htm,htake⟩:=tU hx;obtain⟨hlen,htb⟩:=nC htm;have htr:mD r t:=⟨hlen,htb⟩
   have hp9:=fJ (t:=t) (by have:=hok.len9;omega);have hl9:last.length=9:=hΦ.2.1;refine C.rg<|Zx rfl Tf.z179 rfl (fun q5=>Zv rfl Tf.s179 (bM.head)<|Zab ?_);refine fun a w hhh=>rF (A:=[(_,_),(_,_),(_,_),(_,_)]) (B:=[(bd,.deferred (some []))]) (r:=rec) (l:=l) (by rfl) hst ?_ a w hhh
   refine Zaj<|C.s2<|Zl rfl Tf.a4 rfl (List.Mem.tail _ (List.Mem.tail _ (List.Mem.head _))) rfl<|Za rfl ?_;refine' L.anK 4 (s:=20) (p:=24) rfl (fun hg1=>?_) (fun hg1=>?_) ?_;rotate_left
   ·refine bJ rfl Tf.a179 rfl (GE _) Yx GT rfl ⟨_,rfl,rfl⟩<|bJ rfl Tf.a179 rfl (List.Mem.tail _ (List.Mem.head _)) Yx GT rfl ⟨_,rfl,rfl⟩<|FF rfl Yg U179 U3 Yg hp9 hl9 rfl rfl rfl ⟨_,rfl,rfl⟩<|Zac rfl ?_;exact L.cu 3
   ·refine Zk rfl<|Zk rfl<|Zk rfl<|Zad rfl ?_;exact L.cu 3
   refine L.n1<|aJ rfl (fun hc2=>?_) (fun hc2=>?_)
   ·refine aQ<|Zak<|Zan ?_;exact fun a w hh=>fN (A:=[(_,_),(_,_),(_,_)]) (B:=[(bd,.deferred (some []))]) (o,last) (FE hΦ htm htake hc2) rfl rfl a w (hh.dropBoxes 1)
   ·refine C.kn<|C.s1<|bJ rfl Tf.a179 rfl (List.Mem.head _) Yx GT rfl trivial<|Zv rfl Tf.s179 (.tail (bM.head))<|L.n2<|C.drawA [] 4 9 198 (fun _ _ _ h=>h)<|Zr rfl Tf.a28 rfl hB1 Tf.s28<|bJ rfl Tf.a179 rfl (List.Mem.head _) Yx GT rfl trivial<|Zd rfl (fun D3 hD3=>wR t _ (by have:=hok.len9;omega) htb)<|Zd rfl (fun D4 hD4=>CZ _ r t _ (hr0.up (hD4 _ Ye)) hok htr)<|Za rfl<|Zaa rfl ?_;refine Zaa rfl<|Zh rfl<|Zh rfl<|L.n3<|Za rfl<|Za rfl ?_;refine' L.anK 8 (s:=34) (p:=42) rfl (fun hg2=>?_) (fun hg2=>?_) ?_;rotate_left
    ·refine aS rfl Tf.a4 rfl (LT _ (LT _ (GE _))) rfl GT rfl ⟨_,rfl,rfl⟩<|jU rfl rfl rfl ⟨_,rfl,rfl⟩<|Zb rfl ?_;refine' L.orK 4 (s:=37) (p:=41) rfl (fun hg3=>?_) (fun hg3=>?_) ?_;rotate_left
     ·refine Zb rfl<|aS rfl Tf.a3 rfl (List.Mem.tail _ (List.Mem.tail _ (List.Mem.tail _ (List.Mem.head _)))) rfl GT rfl ⟨_,rfl,rfl⟩<|IJ rfl rfl rfl rfl ⟨_,rfl,rfl⟩<|mZ rfl rfl rfl rfl ⟨_,rfl,rfl⟩ ?_;exact L.cu 3
     ·refine Zk rfl<|Zk rfl<|Zk rfl<|nH rfl rfl rfl rfl ⟨_,rfl,rfl⟩ ?_;exact L.cu 3
     refine Zac rfl ?_;exact L.cu 4
    ·refine Zk rfl<|Zk rfl<|Zk rfl<|Zk rfl<|Zk rfl<|Zk rfl<|Zk rfl<|Zad rfl ?_;exact L.cu 7
    refine L.n1<|aJ rfl (fun hc3=>?_) (fun hc3=>?_)
    ·refine C.rg<|Za rfl<|Zn rfl Tf.s3 (.tail (.tail (.tail (bM.head)))) rfl<|Zn rfl Tf.s4 (.tail (.tail (bM.head))) rfl<|Zab<|Zal ?_;exact fun a w hh=>fN (A:=[(_,_),(_,_),(_,_)]) (B:=[(bd,.deferred (some []))]) (some (if dX r t=true then(oF r t:Int)else 0),eD t) (LL hΦ hp9 htake hc3) rfl rfl a w (hh.dropBoxes 1)
    ·refine bQ<|Zal ?_;exact fun a w hh=>fN (A:=[(_,_),(_,_),(_,_)]) (B:=[(bd,.deferred (some []))]) (o,eD t) (WO hΦ hp9 htake hc3) rfl rfl a w (hh.dropBoxes 1)
  ·rintro⟨o,last⟩ bd hΦ;have ho:o=kC r (cW r.places):=by simpa [tH]using hΦ.1
   have hf0:aT r=0:=by omega
   refine Zal<|Zah<|C.s2<|Zl rfl Tf.a4 rfl (List.Mem.tail _ (List.Mem.head _)) rfl<|Zag rfl<|L.n1<|aJ rfl (fun hc4=>?_) (fun hc4=>?_)
   ·refine C.s1<|Zh rfl<|Zh rfl<|L.n5<|Zai ?_;exact rL (vs:=[_,_]) (A:=[(_,_),(_,_),(_,_)]) rfl rfl rfl C.rs (fun D hD=>by show Value.tuple _=_;rw[(BL ho hf0 hc4).1,(BL ho hf0 hc4).2]<;>rfl)
   ·refine C.kn<|C.s1<|Zl rfl Tf.a3 rfl (List.Mem.tail _ (List.Mem.tail _ (List.Mem.head _))) rfl<|Zh rfl<|Zh rfl<|L.n5 ?_;exact rL (vs:=[_,_]) (A:=[(_,_),(_,_),(_,_)]) rfl rfl rfl C.rs (fun D hD=>by show Value.tuple _=_;rw[(AF ho hf0 hc4).1,(AF ho hf0 hc4).2]<;>rfl)
end L1
end Go.Fs
namespace Go.Fs
variable{P:Program}{X:Cx}{γb:Type}[Membership Nat γb]{bad:γb}{all:Array Oper}{K:Act→World→Prop}{Q:Exit→Act→World→Prop}
variable{σ:bS}{μ:aC}{Ds:List aA}{os:List (Bool×Nat)}{fl:Bool}{ix:Nat}
variable{d:Nat}{x y z:Operand}{u v:Value}{ty:TypeId}{pos:String}{aft:Array Edge}{g:Option (Nat×Bool)}
structure B8(P:Program)(k:TypeId){α:Type}[DecidableEq α](val:α→Value):Prop where
 und:∃fs,P.underlying k=some (.struct fs)
 eq:∀a b w,(Op.equal k (val a) (val b)).run P w=.ok (decide (a=b)) w
 chk:∀em a w,(Instr.checkKey em 10000 k (val a)).run P w=.ok () w
 stay:∀a,Instr.sameBits 10000 (val a) (val a)=true
 agg:∀a,∃cs,val a=.agg cs
variable{α:Type}[DecidableEq α]{val:α→Value}
def qA(val:α→Value)(es:Array MapEntry)(M:List (α×Int)):Prop:=es.toList.map (fun e=>(e.key,e.val))=M.map fun x=>(val x.1,Value.int .i64 x.2)
def zM(a:α):List (α×Int)→Nat→Option (Nat×Int)
 | [],_=>none
 |(b,n)::M,i=>if a=b then some (i,n)else zM a M (i+1)
theorem zL{a:α}:∀{M:List (α×Int)} {i j:Nat} {n:Int},zM a M i=some (j,n)→∃k,j=i+k∧M[k]?= some (a,n)
 |(b,m)::M,i,j,n,h=>by
  simp only[zM]at h;split at h
  ·rename_i he;cases h;exact⟨0,rfl,by rw[he];rfl⟩
  ·obtain⟨k,rfl,hk⟩:=zL h;exact⟨k+1,by omega,by simpa using hk⟩
theorem qN{k:TypeId}(h:B8 P k val)(a:α)(w:World):∀(es:List MapEntry) (M:List (α×Int)) (i:Nat),es.map (fun e=>(e.key,e.val))=M.map (fun x=>(val x.1,Value.int .i64 x.2))→
  (Instr.findAsking k (val a) es i).run P w=.ok ((zM a M i).map fun p=>(p.1,Value.int .i64 p.2)) w
 | [],[],i,_=>rfl
 | [],_::_,i,hm=>by simp at hm
 |e::es,[],i,hm=>by simp at hm
 |e::es,(b,n)::M,i,hm=>by
  simp only[aJY,aLN,aMW]at hm;obtain⟨⟨hk,hv⟩,hm⟩:=hm;simp only[Instr.findAsking,Sem.run_bind,hk,h.eq,Result.andThen_ok,zM];by_cases he:a=b
  ·subst he;simp only[decide_true,aLH,Sem.run_pure,hv];rfl
  ·simp only[he,decide_false,aKI,aLR];exact qN h a w es M (i+1) hm
theorem vC{k:TypeId}(h:B8 P k val)(a:α)(w:World){es:List MapEntry}{M:List (α×Int)}(hm:es.map (fun e=>(e.key,e.val))=M.map (fun x=>(val x.1,Value.int .i64 x.2))):
  (Instr.findKey k (val a) es).run P w=.ok ((zM a M 0).map fun p=>(p.1,Value.int .i64 p.2)) w:=by
 obtain⟨fs,hu⟩:=h.und;unfold Instr.findKey;rw[Sem.run_bind,TU.of hu w];cases es with
 |nil=>
  cases M with
  |nil=>rfl
  |cons x M=>simp at hm
 |cons e es=>
  have hn:Instr.findNow (.struct fs) (val a) (e::es) 0=none:=by
   obtain⟨cs,hc⟩:=h.agg a;rw[hc];rfl
  simp only[Result.andThen_ok,hn];exact qN h a w (e::es) M 0 hm
theorem LY{t k e:TypeId}{b clock:Nat}{es:Array MapEntry}{M:List (α×Int)}{a:α}(ho:all[ix]?= some ⟨some d,.lookup t x y true,ty,pos,aft,g⟩)(ht:P.underlying t=some (.map k e))(hk:B8 P k val)(hz:TZ P e (.int .i64 0))
  (hx:ev σ x=some (.map (some b))) (hy:ev σ y=some (val a)) (hm:(b,Obj.map es clock)∈μ) (hb:b∉bad) (hM:qA val es M) (hN:Nat.blt d X.N=true) (hg:cT all σ g)
  (kk:∀n ok,(ok=true→(a,n)∈M)→WL P X bad all K Q os ((d,.tuple #[.int .i64 n,.bool ok])::σ) μ Ds):WL P X bad all K Q ((fl,ix)::os) σ μ Ds:=by
 have run:∀w,w.heap[b]?= some (Obj.map es clock)→(Instr.lookup t (.map (some b)) (val a) true).run P w=.ok (.tuple #[.int .i64 (match zM a M 0 with|some (_,v)=>v|none=>0),.bool (zM a M 0).isSome]) w:=by
  intro w hw;have hf:=vC hk a w hM;unfold Instr.lookup;simp only[Sem.run_bind,TU.of ht w,Result.andThen_ok,gR hw,Sem.run_pure,hk.chk];rw[hf];cases zM a M 0 with
  |none=>simp only[aLF,Result.andThen_ok,Sem.run_bind,hz w,Sem.run_pure];rfl
  |some r=>obtain⟨j,v⟩:=r;simp only[aKJ,Result.andThen_ok];rfl
 refine jL ho rfl rfl hN hg (fun a' w hh w' hk'=>?_) (kk (match zM a M 0 with|some (_,v)=>v|none=>0) (zM a M 0).isSome fun hok=>?_)
 ·simp only[execOp,hh.eval hx,hh.eval hy,Sem.run_bind,run w' (hh.boxAt hm hb hk'),Result.andThen_ok,Sem.run_pure]
 ·cases hp:zM a M 0 with
  |none=>rw[hp]at hok;cases hok
  |some r=>
   obtain⟨j,n⟩:=r;obtain⟨i,_,hi⟩:=zL hp;exact aJA hi
theorem NL{t k e:TypeId}{b clock:Nat}{es:Array MapEntry}{M:List (α×Int)}{a:α}{n:Int}{A B:aC}(ho:all[ix]?= some ⟨none,.mapUpdate t x y z,ty,pos,aft,g⟩)(ht:P.underlying t=some (.map k e))(hk:B8 P k val)
  (hx:ev σ x=some (.map (some b))) (hy:ev σ y=some (val a)) (hz:ev σ z=some (.int .i64 n)) (hM:qA val es M) (hg:cT all σ g)
  (kk:∀es' clock' M',qA val es' M'→(∀p∈M',p∈M∨p=(a,n))→WL P X bad all K Q os σ (A++(b,.map es' clock')::B) Ds):WL P X bad all K Q ((false,ix)::os) σ (A++(b,.map es clock)::B) Ds:=by
 refine dI ho rfl rfl hg fun a' w hh=>?_
 obtain⟨h1,h2,h3,D,h4,h5,h6⟩:=id hh;have hw:=(h4.box (b,.map es clock) Ye).1;have run:∃es' clock' M',qA val es' M'∧(∀p∈M',p∈M∨p=(a,n))∧(Instr.mapUpdate t (.map (some b)) (val a) (.int .i64 n)).run P w=.ok () {w with heap:=w.heap.setIfInBounds b (.map es' clock')}:=by
  have hf:=vC hk a w hM;have hset:∀o,(setObj b o).run P w=.ok () {w with heap:=w.heap.setIfInBounds b o}:=fun o=>by simp[setObj,Sem.run,hw]
  cases hp:zM a M 0 with
  |none=>
   refine⟨es.push {key:=val a,val:=.int .i64 n,born:=clock},clock+1,M++[(a,n)],?_,fun p hp=>by simpa using hp,?_⟩
   ·unfold qA at hM ⊢
    rw[Array.toList_push,aJN,aJN,hM];rfl
   ·unfold Instr.mapUpdate;simp only[Sem.run_bind,TU.of ht w,Result.andThen_ok,gR hw,hk.chk];rw[hf,hp];simp only[aLF,Result.andThen_ok,hset]
  |some r=>
   obtain⟨j,m⟩:=r;obtain⟨i,hi0,hi⟩:=zL hp;rw[aMC]at hi0;subst hi0
   have hMi:∀i,(es.toList[i]?).map (fun e:MapEntry=>(e.key,e.val))=(M[i]?).map (fun x:α×Int=>(val x.1,Value.int .i64 x.2)):=fun i=>by rw[←aKA,←aKA,hM]
   have hj:=hMi j;rw[hi]at hj;obtain⟨e0,he0,hke⟩:=aMB.1 hj;simp only[aMW]at hke;have he0':es[j]?= some e0:=by simpa using he0
   refine⟨es.modify j fun e=>{e with key:=val a,val:=.int .i64 n},clock,M.set j (a,n),?_,fun p hp=>(List.mem_or_eq_of_mem_set hp),?_⟩
   ·unfold qA;apply aOE;intro q;rw[aKA,aKA,Array.getElem?_toList,Array.getElem?_modify,List.getElem?_set];have hq:=hMi q;rw[Array.getElem?_toList]at hq;by_cases hjq:j=q
    ·subst hjq;have hlt:=(aJK.1 hi).1;simp[he0',hlt]
    ·simp only[hjq,aLR];exact hq
   ·have hks:(Instr.keyThatStays (val a) (val a)).run P w=.ok (val a) w:=by
     have:Instr.sameBits 10000 (val a) (val a)=true:=hk.stay a;unfold Instr.keyThatStays;rw[aJT this,Sem.run_pure]
    unfold Instr.mapUpdate;simp only[Sem.run_bind,TU.of ht w,Result.andThen_ok,gR hw,hk.chk];rw[hf,hp];simp only[aKJ,Result.andThen_ok,he0',aMO,hke.1,Sem.run_bind,hks,hset]
 obtain⟨es',clock',M',hM',hmem,hr⟩:=run;have hHas:bM (A++(b,Obj.map es clock)::B) b (.map es clock) (.map es' clock') (A++(b,.map es' clock')::B):=.app .head;have hs:=h4.set (w':={w with heap:=w.heap.setIfInBounds b (.map es' clock')}) hHas ⟨rfl,rfl⟩ trivial;have:(execOp a'.eval ⟨none,.mapUpdate t x y z,ty,pos,aft,g⟩).run P w=.ok .skip {w with heap:=w.heap.setIfInBounds b (.map es' clock')}:=by
  simp only[execOp,hh.eval hx,hh.eval hy,hh.eval hz,Sem.run_bind,hr,Result.andThen_ok,Sem.run_pure]
 rw[this];exact⟨fun h=>by simp at h,kk es' clock' M' hM' hmem _ _ ⟨h1,h2,h3,D,hs,h5,h6.step (fun _ p hp=>aJQ Yq) (fun _=>gM ⟨rfl,rfl⟩ (aIY.2 ⟨_,hHas.mem,rfl⟩)) hs.dom⟩⟩

structure pG(n:Nat) where
 l:List Int
 h:l.length=n
deriving DecidableEq
def A4{n:Nat}(a:pG n):Value:=.agg (ints a.l).toArray
def KA(P:Program)(k:TypeId)(n:Nat):Prop:=∃f0 f1 e,P.underlying k=some (.struct (P.fieldsOf k))∧P.stoodInHeld k=false∧P.fieldsOf k=#[f0,f1]∧f0.name≠ "_" ∧f1.name≠ "_" ∧f0.offset=0∧f1.offset=1∧
 P.underlying f0.type=some (.int .i64)∧P.underlying f1.type=some (.array n e)∧P.underlying e=some (.int .i64)∧P.cellsOf e=1∧TA P f1.type true∧TS P f1.type n∧TS P e 1
theorem QR{t:TypeId}{n:Nat}(ha:TA P t true)(hs:TS P t n){l:List Int}(hl:l.length=n+1)(w:World):(part t (ints l).toArray 1).run P w=.ok (.agg (ints (l.drop 1)).toArray) w:=by
 unfold part;simp only[Sem.run_bind,ha w,Result.andThen_ok,aLH,hs w,Sem.run_pure];congr 2;apply Array.ext';simp only[Array.toList_extract,List.extract_eq_take_drop,ints,List.map_drop];rw[aKC Yaf]
theorem KA.key{k:TypeId}{n:Nat}(h:KA P k n):B8 P k (A4 (n:=n+1)):=by
 obtain⟨f0,f1,e,hu,hst,hf,n0,n1,o0,o1,t0,t1,te,hc,ha,hs,hse⟩:=h;have hsplit:∀a:pG (n+1),∃x r,a.l=x::r∧r.length=n:=by
  rintro⟨l,hl⟩;cases l with
  |nil=>simp at hl
  |cons x r=>exact⟨x,r,rfl,by simpa using hl⟩
 have p0:∀(x:Int) (r:List Int) (w:World),(part f0.type (ints (x::r)).toArray f0.offset).run P w=.ok (.int .i64 x) w:=fun x r w=>dD t0 (by rw[o0];rfl) w
 have p1:∀(x:Int) (r:List Int) (w:World),r.length=n→(part f1.type (ints (x::r)).toArray f1.offset).run P w=.ok (.agg (ints r).toArray) w:=fun x r w hr=>by
  rw[o1];exact QR ha hs (l:=x::r) (by simp[hr]) w
 refine⟨⟨_,hu⟩,fun a b w=>?_,fun em a w=>?_,fun a=>?_,fun a=>⟨_,rfl⟩⟩
 ·obtain⟨x,r,ea,hr⟩:=hsplit a;obtain⟨x',r',eb,hr'⟩:=hsplit b;have he:=run_equalIn_struct (P:=P) w 9999 k (ints (x::r)).toArray (ints (x'::r')).toArray hu hst;have hab:decide (a=b)=((x==x')&&(r==r')):=by
   rw[aMN];simp only[aJV,aJI,aNR];constructor
   ·rintro rfl;rw[ea]at eb;exact List.cons.inj eb
   ·rintro⟨h1,h2⟩;obtain⟨la,ha'⟩:=a;obtain⟨lb,hb'⟩:=b;simp only at ea eb;subst ea eb h1 h2;rfl
  show(Op.equalIn (9999+1) k (.agg (ints a.l).toArray) (.agg (ints b.l).toArray)).run P w=_;rw[ea,eb,he,hf,hab];have e0:=run_equalIn_int w 9998 f0.type .i64 .i64 x x' t0;obtain⟨inf,hinf⟩:=info_of_underlying te;have e1:=run_equalIn_array (P:=P) w 9998 (ints r).toArray (ints r').toArray t1 hinf;rw[hc,jM 9997 te r r' w (List.range n) (fun j hj=>by have:=aMJ.1 hj;omega),nG hr hr']at e1
  have s1:(Op.eqFields 9999 (ints (x::r)).toArray (ints (x'::r')).toArray [f1]).run P w=.ok (r==r') w:=by
   simp only[Op.eqFields,n1,ne_eq,aNQ,aLH,Sem.run_bind,p1 _ _ _ hr,p1 _ _ _ hr',Result.andThen_ok];rw[e1];simp only[Result.andThen_ok];cases r==r'<;>rfl
  show(Op.eqFields 9999 (ints (x::r)).toArray (ints (x'::r')).toArray (f0::[f1])).run P w=_;rw[Op.eqFields,aJT n0];simp only[Sem.run_bind,p0,Result.andThen_ok];rw[e0];simp only[Result.andThen_ok];cases hx:x==x' with
  |true=>
   simp only[aOF,aKI,aLR,aNA];rw[s1]
  |false=>simp only[aOA,aLH,Sem.run_pure,Bool.false_and]
 ·obtain⟨x,r,ea,hr⟩:=hsplit a;have c0:(Instr.checkKey em (9998+1) f0.type (.int .i64 x)).run P w=.ok () w:=by
   rw[Instr.checkKey,Sem.run_bind,TU.of t0 w];rfl
  have ce:∀m:Int,(Instr.checkKey em (9997+1) e (.int .i64 m)).run P w=.ok () w:=fun m=>by
   rw[Instr.checkKey,Sem.run_bind,TU.of te w];rfl
  have c1:(Instr.checkKey em (9998+1) f1.type (.agg (ints r).toArray)).run P w=.ok () w:=by
   rw[Instr.checkKey,Sem.run_bind,TU.of t1 w];simp only[Result.andThen_ok];rw[Std.Legacy.Range.forIn_eq_forIn_range'];have key:∀(is:List Nat),(∀i∈is,i<n)→((forIn is PUnit.unit fun i _=>do Instr.checkKey em 9998 e (←part e (ints r).toArray (i*(←sizeOf e)));Pure.pure (ForInStep.yield PUnit.unit):Sem PUnit)).run P w=.ok PUnit.unit w:=by
    intro is;induction is with
    |nil=>intro _;rfl
    |cons i is ih=>
     intro hi;have hlt:=hi i aJH;have g1:(ints r).toArray[i*1]?= some (.int .i64 r[i]):=by rw[aLV];simpa using cD (aJC (show i<r.length by omega))
     rw[List.forIn_cons];simp only[Sem.run_bind,hse w,Result.andThen_ok,dD te g1];rw[ce];simp only[Result.andThen_ok,Sem.run_pure];exact ih fun j hj=>hi j (aJB _ hj)
   have:=key (List.range' 0 n) (fun i hi=>by simpa using hi);simpa using this
  show(Instr.checkKey em (9999+1) k (.agg (ints a.l).toArray)).run P w=_;rw[ea,Instr.checkKey,Sem.run_bind,TU.of hu w];simp only[Result.andThen_ok];rw[hf,←Array.forIn_toList];simp only[List.forIn_cons,List.forIn_nil,n0,n1,ne_eq,aNQ,aLH,Sem.run_bind,p0,Result.andThen_ok,Sem.run_pure];rw[c0];simp only[Result.andThen_ok,Sem.run_pure,Sem.run_bind,p1 _ _ _ hr];rw[c1];simp[Sem.run_pure,Result.andThen_ok]
 ·show Instr.sameBits (9999+1) (.agg (ints a.l).toArray) (.agg (ints a.l).toArray)=true;simp only[Instr.sameBits,beq_self_eq_true,aNA,aJW];rintro⟨p,q⟩ hpq;obtain⟨i,hi⟩:=aMV.1 hpq;rw[List.getElem?_zip_eq_some]at hi;obtain⟨h1,h2⟩:=hi;simp only at h1 h2;rw[h1]at h2;obtain rfl:=aJZ h2;have:p∈ints a.l:=aJA (by simpa using h1);obtain⟨m,_,rfl⟩:=aIY.1 this;simp[Instr.sameBits]
end Go.Fs
namespace Go.Fs
variable{P:Program}{X:Cx}{γb:Type}[Membership Nat γb]{bad:γb}{all:Array Oper}{K:Act→World→Prop}{Q:Exit→Act→World→Prop}
variable{σ:bS}{μ:aC}{Ds:List aA}{os:List (Bool×Nat)}{fl:Bool}{ix:Nat}
variable{d:Nat}{x y z:Operand}{u v:Value}{ty:TypeId}{pos:String}{aft:Array Edge}{g:Option (Nat×Bool)}
structure sV(P:Program)(f:Field)(o n:Nat):Prop where
 name:f.name≠ "_"
 eqp:∀(l m:List Int) w,o+n≤l.length→o+n≤m.length→∃u v,(part f.type (ints l).toArray f.offset).run P w=.ok u w∧(part f.type (ints m).toArray f.offset).run P w=.ok v w∧(Op.equalIn 9999 f.type u v).run P w=.ok ((l.drop o).take n==(m.drop o).take n) w
inductive H8(P:Program):Nat→Nat→List Field→Prop
 |nil {o}:H8 P o o []
 |cons {o n e f fs} (h:sV P f o n) (r:H8 P (o+n) e fs):H8 P o e (f::fs)
theorem H8.le{o e:Nat}{fs:List Field}(h:H8 P o e fs):o≤e:=by
 induction h with
 |nil=>exact aJU _
 |cons _ _ ih=>omega
theorem T5(l m:List Int)(o n:Nat):(l.drop o==m.drop o)=(((l.drop o).take n==(m.drop o).take n)&&(l.drop (o+n)==m.drop (o+n))):=by
 rw[aMN];simp only[aNR,aJI];constructor
 ·intro h;exact⟨by rw[h],by rw[←aMZ,←aMZ,h]⟩
 ·rintro⟨h1,h2⟩;rw[←aLD n (l.drop o),←aLD n (m.drop o),h1,aMZ,aMZ,h2]
theorem t7(l m:List Int)(w:World){o e:Nat}{fs:List Field}(h:H8 P o e fs)(hl:l.length=e)(hm:m.length=e):(Op.eqFields 9999 (ints l).toArray (ints m).toArray fs).run P w=.ok (l.drop o==m.drop o) w:=by
 induction h with
 |nil=>
  rw[aKK Yd,aKK Yd];rfl
 | @cons o n e f fs h r ih=>
  have hle:=r.le;obtain⟨u,v,h1,h2,h3⟩:=h.eqp l m w Yd Yd;rw[Op.eqFields,aJT h.name];simp only[Sem.run_bind,h1,h2,Result.andThen_ok];rw[h3,T5 l m o n];simp only[Result.andThen_ok];cases hx:(l.drop o).take n==(m.drop o).take n with
  |true=>
   simp only[aOF,aKI,aLR,aNA];exact ih hl hm
  |false=>simp only[aOA,aLH,Sem.run_pure,Bool.false_and]
theorem sV.int{f:Field}{o:Nat}(hn:f.name≠ "_")(ho:f.offset=o)(ht:P.underlying f.type=some (.int .i64)):sV P f o 1:=by
 refine⟨hn,fun l m w hl hm=>?_⟩;have h1:l[o]?= some (l[o]'Yd):=aJC _;have h2:m[o]?= some (m[o]'Yd):=aJC _;refine⟨.int .i64 l[o],.int .i64 m[o],dD ht (by rw[ho];simpa using cD h1) w,dD ht (by rw[ho];simpa using cD h2) w,?_⟩
 rw[run_equalIn_int w 9998 f.type .i64 .i64 _ _ ht];congr 1;have t1:(l.drop o).take 1=[l[o]]:=by rw[aLL (show o<l.length by omega)];rfl
 have t2:(m.drop o).take 1=[m[o]]:=by rw[aLL (show o<m.length by omega)];rfl
 rw[t1,t2];simp
theorem tR{t:TypeId}{n o:Nat}(ha:TA P t true)(hs:TS P t n){l:List Int}(_hl:o+n≤l.length)(w:World):(part t (ints l).toArray o).run P w=.ok (.agg (ints ((l.drop o).take n)).toArray) w:=by
 unfold part;simp only[Sem.run_bind,ha w,Result.andThen_ok,aLH,hs w,Sem.run_pure];congr 2;apply Array.ext';simp only[Array.toList_extract,List.extract_eq_take_drop,ints,List.map_drop,List.map_take];congr 1;omega
theorem sV.arr{f:Field}{o n:Nat}{e:TypeId}(hn:f.name≠ "_")(ho:f.offset=o)(ht:P.underlying f.type=some (.array n e))(he:P.underlying e=some (.int .i64))(hc:P.cellsOf e=1)(ha:TA P f.type true)(hs:TS P f.type n):sV P f o n:=by
 refine⟨hn,fun l m w hl hm=>⟨_,_,by rw[ho];exact tR ha hs hl w,by rw[ho];exact tR ha hs hm w,?_⟩⟩;obtain⟨i,hi⟩:=info_of_underlying he;have h:=run_equalIn_array (P:=P) w 9998 (ints ((l.drop o).take n)).toArray (ints ((m.drop o).take n)).toArray ht hi;have e1:((l.drop o).take n).length=n:=by rw[aKL,aLB];omega
 have e2:((m.drop o).take n).length=n:=by rw[aKL,aLB];omega
 rw[hc,jM 9997 he _ _ w (List.range n) (fun j hj=>by have:=aMJ.1 hj;omega),nG e1 e2]at h;exact h
def KS(P:Program)(t:TypeId)(n:Nat):Prop:=P.underlying t=some (.struct (P.fieldsOf t))∧P.stoodInHeld t=false∧P.eqGuardType P.depth t=false∧H8 P 0 n (P.fieldsOf t).toList
theorem A2{t:TypeId}{n:Nat}(h:KS P t n){l m:List Int}(hl:l.length=n)(hm:m.length=n)(w:World):(Op.equal t (.agg (ints l).toArray) (.agg (ints m).toArray)).run P w=.ok (l==m) w:=by
 have he:=run_equalIn_struct (P:=P) w 9999 t (ints l).toArray (ints m).toArray h.1 h.2.1;show(Op.equalIn (9999+1) t (.agg (ints l).toArray) (.agg (ints m).toArray)).run P w=_;rw[he,t7 l m w h.2.2.2 hl hm];simp
theorem aFJ{t t':TypeId}{n:Nat}{l m:List Int}(ho:all[ix]?= some ⟨some d,.binOp .neq t x y t',ty,pos,aft,g⟩)(ht:KS P t n)(hl:l.length=n)(hm:m.length=n)(hx:ev σ x=some (.agg (ints l).toArray))(hy:ev σ y=some (.agg (ints m).toArray))(hN:Nat.blt d X.N=true)(hg:cT all σ g)
  (kk:WL P X bad all K Q os ((d,.bool (!(l==m)))::σ) μ Ds):WL P X bad all K Q ((fl,ix)::os) σ μ Ds:=
 m3 ho (fun w=>by
  have hgd:(eqGuard .neq t x y (.agg (ints l).toArray) (.agg (ints m).toArray)).run P w=.ok () w:=by
   simp only[eqGuard,program];simp[Sem.run,ht.2.2.1,go_sem]
  rw[Sem.run_bind,hgd];show((do Pure.pure (Value.bool (!(←Op.equal t (.agg (ints l).toArray) (.agg (ints m).toArray))))):Sem Value).run P w=_;rw[Sem.run_bind,A2 ht hl hm];rfl) hx hy hN hg kk
end Go.Fs
namespace Go.Fs
open Go.Proofs
namespace L2
open L1
open C2
open C1 (fR cG pB nQ)
theorem nA{r:Int×Int}(h:gH r=true):0≤r.1∧r.1≤r.2∧r.2≤99:=by
 unfold gH eH at h;simp only[aJI,aJV,cG]at h;omega
theorem dN(n lo hi:Int)(D:aA):Fn Tryz.prog 140 #[.int .i64 n,.int .i64 lo,.int .i64 hi] D (fun _ v=>v=.bool (fR n lo hi)):=by
 refine enter 15 Tryz.func140 rfl rfl rfl rfl fun h0=>C.s1<|Zh rfl<|L.n3<|Za rfl<|Za rfl<|iJ rfl rfl rfl rfl trivial<|Za rfl ?_
 refine' L.anK 4 (s:=10) (p:=14) rfl (fun hg1=>?_) (fun hg1=>?_) ?_;rotate_left
 ·refine Zb rfl<|Zb rfl<|iJ rfl rfl rfl rfl ⟨_,rfl,rfl⟩<|Zac rfl ?_;exact L.cu 3
 ·refine Zk rfl<|Zk rfl<|Zk rfl<|Zad rfl ?_;exact L.cu 3
 refine Zh rfl<|L.n5 ?_;exact leave1 rfl rfl rfl rfl (fun D hD=>rfl)
theorem tQ(n:Int)(D:aA):Fn Tryz.prog 215 #[iV n] D (fun _ v=>v=.bool (eH n)):=by
 refine enter 5 Tryz.func215 rfl rfl rfl rfl fun h0=>C.s1<|Zh rfl<|L.n3<|Za rfl<|Zd rfl (fun D1 hD1=>dN _ _ _ _)<|Zh rfl<|L.n5 ?_
 exact leave1 rfl rfl rfl rfl (fun D hD=>rfl)
theorem jC(sv:Value)(x:Int)(xs:List Int)(D:aA)(hS:Sl D RI 1 sv (x::xs)):
  Fn Tryz.prog 218 #[sv] D (fun _ v=>v=.int .i64 (xs.foldl min x)):=by
 refine enter 5 Tryz.func218 rfl rfl rfl rfl fun h0=>C.s1<|Zh rfl<|L.n3<|Za rfl<|Zd rfl (fun D1 hD1=>L1.S1 _ x xs _ (Sl.at RI.up hD1 Yk Ye))<|Zh rfl<|L.n5 ?_
 exact leave1 rfl rfl rfl rfl (fun D hD=>rfl)
theorem O7(r:Int×Int)(D:aA):Fn Tryz.prog 214 #[iU r] D (fun _ v=>v=.bool (gH r)):=by
 refine enter 18 Tryz.func214 rfl rfl rfl rfl fun h0=>C.s1<|Zw rfl (fun q1 E1 hE1 hB1=>Zh rfl<|L.n3<|Zi rfl Tf.f99_0 rfl<|Zf 0 rfl Tf.a3 rfl hB1 rfl<|Zi rfl Tf.f99_1 rfl<|Zf 1 rfl Tf.a3 rfl hB1 rfl<|iJ rfl rfl rfl rfl trivial<|Za rfl ?_)
 refine' L.anK 4 (s:=8) (p:=12) rfl (fun hg1=>?_) (fun hg1=>?_) ?_;rotate_left
 ·refine Zj rfl Tf.f99_0 rfl<|Zg 0 rfl Tf.a3 rfl hB1 rfl<|Ze rfl (fun D1 hD1=>tQ _ _)<|Zac rfl ?_;exact L.cu 3
 ·refine Zk rfl<|Zk rfl<|Zk rfl<|Zad rfl ?_;exact L.cu 3
 refine Za rfl ?_;refine' L.anK 4 (s:=13) (p:=17) rfl (fun hg2=>?_) (fun hg2=>?_) ?_;rotate_left
 ·refine Zj rfl Tf.f99_1 rfl<|Zg 1 rfl Tf.a3 rfl hB1 rfl<|Ze rfl (fun D2 hD2=>tQ _ _)<|Zac rfl ?_;exact L.cu 3
 ·refine Zk rfl<|Zk rfl<|Zk rfl<|Zad rfl ?_;exact L.cu 3
 refine Zh rfl<|L.n5 ?_;exact leave1 rfl rfl rfl rfl (fun D hD=>rfl)
theorem IG(r:Int×Int)(h:gH r=true)(D:aA):Fn Tryz.prog 219 #[iU r] D (fun _ v=>v=.int .i64 (eX r)):=by
 have hb:=nA h;refine enter 9 Tryz.func219 rfl rfl rfl rfl fun h0=>C.s1<|Zw rfl (fun q1 E1 hE1 hB1=>Zh rfl<|L.n3<|Zi rfl Tf.f99_1 rfl<|Zf 1 rfl Tf.a3 rfl hB1 rfl<|Zi rfl Tf.f99_0 rfl<|Zf 0 rfl Tf.a3 rfl hB1 rfl<|fX rfl rfl rfl Yf rfl trivial<|Zy rfl<|Zh rfl ?_);refine L.n5 ?_
 exact leave1 rfl rfl rfl rfl (fun D hD=>rfl)
theorem I6(r:Int×Int)(n:Int)(D:aA):Fn Tryz.prog 223 #[iU r,.int .i64 n] D (fun _ v=>v=.bool (fR n r.1 r.2)):=by
 refine enter 11 Tryz.func223 rfl rfl rfl rfl fun h0=>C.s1<|Zw rfl (fun q1 E1 hE1 hB1=>Zh rfl<|L.n3<|Za rfl<|Zi rfl Tf.f99_0 rfl<|Zf 0 rfl Tf.a3 rfl hB1 rfl<|Zi rfl Tf.f99_1 rfl<|Zf 1 rfl Tf.a3 rfl hB1 rfl<|Zd rfl (fun D1 hD1=>dN _ _ _ _)<|Zh rfl ?_);refine L.n5 ?_
 exact leave1 rfl rfl rfl rfl (fun D hD=>rfl)
theorem oA(r:Int×Int)(n:Int)(D:aA):Fn Tryz.prog 142 #[iU r,.int .i64 n] D (fun _ v=>v=iU (min r.1 n,max r.2 n)):=by
 refine enter 15 Tryz.func142 rfl rfl rfl rfl fun h0=>C.s1<|Zw rfl (fun q1 E1 hE1 hB1=>Zx rfl Tf.z99 rfl (fun q2=>L.n2<|iW [] 4 [0,1,2,5,6,7,8,3,4,9,10] [false,false,true,true,true,true,true,true,true,false,false] [(false,0),(false,1),(true,2),(true,5),(true,6),(true,7),(true,8),(true,3),(true,4),(false,9),(false,10)] Tf.follows (fun _ _ _ h=>cA (P:=Tryz.prog) (fn:=Tryz.f142) _ _ _ h) Yg rfl<|Zi rfl Tf.f99_0 rfl<|Zf 0 rfl Tf.a3 rfl hB1 rfl<|Za rfl<|Zi rfl Tf.f99_1 rfl<|Zf 1 rfl Tf.a3 rfl hB1 rfl<|Za rfl ?_));refine oZ rfl rfl rfl rfl trivial<|Zp rfl U25 Tf.s3 Tf.z3 rfl rfl rfl rfl (.cons rfl rfl (.cons rfl rfl .nil)) (fun b901 D901 hD901 hA901=>?_)
 have hS901:=Sl.ofInts (l:=[_,_]) (n:=2) (cap:=2) hA901 rfl Yd Yd;refine Zd rfl (fun D1 hD1=>jC _ r.1 [n] _ (hS901.up RI.up (hD1 _ Ye)))<|Zq [.int .i64 (min r.1 n),.int .i64 (max r.2 n)] rfl Tf.p99 Tf.z99 rfl rfl<|Zv rfl Tf.s99 (bM.head)<|L.n5 ?_;exact Zm [_] rfl ⟨⟨_,_,_,rfl,(List.Mem.head _),Or.inr ⟨Tf.a99,(by first|exact Tf.s99|(simp only[aKH,aH, *];exact Tf.s99)),rfl⟩⟩,aOJ⟩ (fun D hD=>rfl)
theorem JQ(tv:Value)(t:aZ)(n:Int)(D:aA)(ht:gT D tv t):Fn Tryz.prog 143 #[tv,.int .i64 n] D (fun _ v=>v=.bool (W0 t.last n)):=by
 have ht0:=ht;obtain⟨hv,lv,mv,rfl,hh,hl,hm⟩:=ht;have hll:=hl.len;refine enter 9 Tryz.func143 rfl rfl rfl rfl fun h0=>C.s1<|Zw rfl (fun q1 E1 hE1 hB1=>Zh rfl<|L.n3<|Za rfl<|Zi rfl Tf.f32_0 rfl<|Zf 0 rfl Tf.a3 rfl hB1 rfl<|Zd rfl (fun D1 hD1=>dN _ _ _ _)<|Zh rfl<|L.n5 ?_)
 exact leave1 rfl rfl rfl rfl (fun D hD=>rfl)
theorem aFH(tv:Value)(t:aZ)(n:Int)(D:aA)(ht:gT D tv t):Fn Tryz.prog 81 #[tv,.int .i64 n] D (fun _ v=>v=.bool (fR n 0 ((t.levels.length:Int)-1))):=by
 have ht0:=ht;obtain⟨hv,lv,mv,rfl,hh,hl,hm⟩:=ht;have hll:=hl.len;refine enter 11 Tryz.func81 rfl rfl rfl rfl fun h0=>C.s1<|Zw rfl (fun q1 E1 hE1 hB1=>Zh rfl<|L.n3<|Za rfl<|Zi rfl Tf.f32_3 rfl<|Zf 3 rfl Tf.a25 rfl hB1 rfl<|aR rfl U25 rfl Yk rfl rfl trivial<|fX rfl rfl rfl Yf rfl trivial<|Zd rfl (fun D1 hD1=>dN _ _ _ _)<|Zh rfl ?_);refine L.n5 ?_
 exact leave1 rfl rfl rfl rfl (fun D hD=>rfl)
theorem AJ(tv:Value)(t:aZ)(a b:Int)(D:aA)(ht:gT D tv t):Fn Tryz.prog 84 #[tv,.int .i64 a,.int .i64 b] D (fun _ v=>v=.bool (nU t.last a b)):=by
 have ht0:=ht;obtain⟨hv,lv,mv,rfl,hh,hl,hm⟩:=ht;have hll:=hl.len;refine enter 20 Tryz.func84 rfl rfl rfl rfl fun h0=>C.s1<|Zw rfl (fun q1 E1 hE1 hB1=>Zh rfl<|L.n3<|Zr rfl Tf.a32 rfl hB1 Tf.s32<|Za rfl<|Zd rfl (fun D1 hD1=>JQ _ t _ _ (ht0.up (hD1 _ Ye)))<|Za rfl ?_)
 refine' L.anK 4 (s:=10) (p:=14) rfl (fun hg1=>?_) (fun hg1=>?_) ?_;rotate_left
 ·refine cQ rfl Tf.a32 rfl hB1 Yc Tf.s32 GT rfl ⟨_,rfl,rfl⟩<|Zb rfl<|Ze rfl (fun D2 hD2=>JQ _ t _ _ (ht0.up (hD2 _ Ye)))<|Zac rfl ?_;exact L.cu 3
 ·refine Zk rfl<|Zk rfl<|Zk rfl<|Zad rfl ?_;exact L.cu 3
 refine Za rfl ?_;refine' L.anK 4 (s:=15) (p:=19) rfl (fun hg2=>?_) (fun hg2=>?_) ?_;rotate_left
 ·refine Zb rfl<|Zb rfl<|iJ rfl rfl rfl rfl ⟨_,rfl,rfl⟩<|Zac rfl ?_;exact L.cu 3
 ·refine Zk rfl<|Zk rfl<|Zk rfl<|Zad rfl ?_;exact L.cu 3
 refine Zh rfl<|L.n5 ?_;exact leave1 rfl rfl rfl rfl (fun D hD=>rfl)
theorem aCG(tv:Value)(t:aZ)(m:Mk)(D:aA)(ht:gT D tv t):Fn Tryz.prog 212 #[tv,aGR m] D (fun _ v=>v=.bool (pO t.last m)):=by
 have ht0:=ht;obtain⟨hv,lv,mv,rfl,hh,hl,hm⟩:=ht;refine enter 16 Tryz.func212 rfl rfl rfl rfl fun h0=>C.s1<|Zw rfl (fun q1 E1 hE1 hB1=>Zw rfl (fun q2 E2 hE2 hB2=>Zh rfl<|L.n3<|Zr rfl Tf.a32 rfl hB1 Tf.s32<|Zi rfl Tf.f158_0 rfl<|Zf 0 rfl Tf.a3 rfl hB2 rfl<|Zi rfl Tf.f158_1 rfl<|Zf 1 rfl Tf.a3 rfl hB2 rfl<|Zd rfl (fun D1 hD1=>AJ _ t _ _ _ (ht0.up (hD1 _ Ye))) ?_));refine Za rfl ?_
 refine' L.anK 4 (s:=11) (p:=15) rfl (fun hg1=>?_) (fun hg1=>?_) ?_;rotate_left
 ·refine Zj rfl Tf.f158_2 rfl<|eV rfl (k:=2) Tf.a99 Tf.s99 rfl hB2 Yc rfl rfl GT rfl ⟨_,rfl,rfl⟩<|Ze rfl (fun D2 hD2=>O7 (m.lo,m.hi) _)<|Zac rfl ?_;exact L.cu 3
 ·refine Zk rfl<|Zk rfl<|Zk rfl<|Zad rfl ?_;exact L.cu 3
 refine Zh rfl<|L.n5 ?_;exact leave1 rfl rfl rfl rfl (fun D hD=>rfl)
theorem pE(sv fv:Value)(xs:List (Int×Int))(p:(Int×Int)→Bool)(D:aA)(hS:Sl D E0 2 sv xs)(hp:cF Tryz.prog D iU fv p):
  Fn Tryz.prog 298 #[sv,fv] D (fun _ v=>v=.int .i64 (idxOf p xs)):=by
 have hl:=hS.len;obtain⟨f,c1,c2,rfl,hf⟩:=hp;refine enter 19 Tryz.func298 rfl rfl rfl rfl fun h0=>C.s1<|Zh rfl<|L.n4<|Za rfl<|aR rfl U29 rfl Yk rfl rfl trivial<|Za rfl<|L.n1<|Zaj<|cJ (γ:=Nat) (fun k=>xs.length-k) (fun k=>k≤xs.length∧(xs.take k).any p=false) (fun k=>[(8,.int .i64 k)]) [(7,_),(4,_),(0,_),(1,_)] (fun k=>[D]) 0 Ye ⟨Yb,aOJ⟩ C.rs (aD) ?_
 rintro k ⟨h1,h2⟩;refine C.s1<|Zae rfl<|L.n2<|aE rfl (fun hc1=>?_) (fun hc1=>?_)
 ·have hk:k<xs.length:=by omega
  obtain⟨x,hx⟩:=C.ge xs k;refine C.kn<|aM<|Zaj<|C.s1<|Za rfl<|Zh rfl<|L.n3<|Za rfl<|Za rfl<|Za rfl<|cU rfl U29 Tf.s99 rfl Yk rfl Yd Yk rfl aOJ (fun b1 o1 cs1 hr1 hcl1 hA1=>?_);obtain rfl:cs1=[.int .i64 _,.int .i64 _]:=hr1;refine Zr rfl Tf.a99 rfl hA1 Tf.s99<|Zd rfl (fun D1 hD1=>hf x _ (hD1 _ Ye))<|L.n1<|aJ rfl (fun hc2=>?_) (fun hc2=>?_)
  ·refine C.s1<|Za rfl<|Zh rfl<|L.n5<|Zam<|Zai<|Zai<|Zam<|Zai ?_;exact leave1 rfl rfl rfl rfl (fun D hD=>by show Value.int _ _=_;rw[L1.hU hx h2 hc2])
  ·refine bQ<|Zal<|Zah<|C.rg<|Zy rfl<|Za rfl<|Zab ?_;have hpx:p x=false:=hc2;have h3:(xs.take (k+1)).any p=false:=by rw[aJP,hx,aMT,h2];simp[hpx]
   exact aG 12 (k+1) ⟨by omega,h3⟩ Yd ⟨Yb,aOJ⟩ rfl rfl (LE _) (aD)
 ·refine aQ<|Zak<|Zak<|Zan<|Zah<|C.s1<|Zh rfl<|L.n5 ?_;exact leave1 rfl rfl rfl rfl (fun D hD=>by show Value.int _ _=_;rw[L1.eW Yab])
theorem lT(sv fv:Value)(xs:List (Int×Int))(p:(Int×Int)→Bool)(D:aA)(hS:Sl D E0 2 sv xs)(hp:cF Tryz.prog D iU fv p):
  Fn Tryz.prog 273 #[sv,fv] D (fun _ v=>v=.bool (xs.any p)):=by
 refine enter 9 Tryz.func273 rfl rfl rfl rfl fun h0=>C.s1<|Zh rfl<|L.n3<|Za rfl<|Za rfl<|Zd rfl (fun D1 hD1=>pE _ _ xs p _ (Sl.at E0.up hD1 Yk Ye) (hp.up (hD1 _ Ye)))<|nS rfl rfl rfl rfl trivial<|Zh rfl<|L.n5 ?_
 exact leave1 rfl rfl rfl rfl (fun D hD=>by show Value.bool (decide _)=_;rw[L1.hC])
theorem R7(b:Nat)(fv:Value)(p:(Int×Int)→Bool)(x:(Int×Int))(D:aA)(hp:cF Tryz.prog D iU fv p)(hB:At D b 0 [fv]):
  Fn Tryz.prog 274 #[iU x,.pointer (some ⟨b,0,none⟩)] D (fun _ v=>v=.bool (!p x)):=by
 obtain⟨f,c1,c2,rfl,hf⟩:=hp;refine enter 8 Tryz.func274 rfl rfl rfl rfl fun h0=>C.s1<|Zw rfl (fun q1 E1 hE1 hB1=>Zh rfl<|L.n3<|Zf 0 rfl Tf.a349 rfl hB rfl<|Zr rfl Tf.a99 rfl hB1 Tf.s99<|Zd rfl (fun D1 hD1=>hf x _ (hD1 _ Ye))<|Zag rfl<|Zh rfl<|L.n5 ?_)
 exact leave1 rfl rfl rfl rfl (fun D hD=>rfl)
theorem p5(sv fv:Value)(xs:List (Int×Int))(p:(Int×Int)→Bool)(D:aA)(hS:Sl D E0 2 sv xs)(hp:cF Tryz.prog D iU fv p)(h1:fv.cells=#[fv]):
  Fn Tryz.prog 213 #[sv,fv] D (fun _ v=>v=.bool (xs.all p)):=by
 refine enter 9 Tryz.func213 rfl rfl rfl rfl fun h0=>C.s1<|mU (vs:=[fv]) rfl rfl h1 rfl aOJ (fun b D1 hD1 hB=>Zh rfl<|L.n3<|Za rfl<|bB rfl rfl rfl rfl trivial<|Zd rfl (fun D1 hD1=>lT _ _ xs (fun x=> !p x) _ (Sl.at E0.up hD1 Yk Ye) ⟨_,[],[.pointer (some ⟨b,0,none⟩)],rfl,fun x D2 hl=>R7 b fv p x D2 (hp.up ((hD1 _ Ye).trans hl)) (hB.up ((hD1 _ Ye).trans hl))⟩)<|Zag rfl<|Zh rfl<|L.n5 ?_)
 exact leave1 rfl rfl rfl rfl (fun D hD=>by show Value.bool (!_)=_;rw[L1.kH])
theorem T0(sv fv:Value)(xs:List Mk)(p:Mk→Bool)(D:aA)(hS:Sl D CG 4 sv xs)(hp:cF Tryz.prog D aGR fv p):
  Fn Tryz.prog 299 #[sv,fv] D (fun _ v=>v=.int .i64 (idxOf p xs)):=by
 have hl:=hS.len;obtain⟨f,c1,c2,rfl,hf⟩:=hp;refine enter 19 Tryz.func299 rfl rfl rfl rfl fun h0=>C.s1<|Zh rfl<|L.n4<|Za rfl<|aR rfl U30 rfl Yk rfl rfl trivial<|Za rfl<|L.n1<|Zaj<|cJ (γ:=Nat) (fun k=>xs.length-k) (fun k=>k≤xs.length∧(xs.take k).any p=false) (fun k=>[(8,.int .i64 k)]) [(7,_),(4,_),(0,_),(1,_)] (fun k=>[D]) 0 Ye ⟨Yb,aOJ⟩ C.rs (aD) ?_
 rintro k ⟨h1,h2⟩;refine C.s1<|Zae rfl<|L.n2<|aE rfl (fun hc1=>?_) (fun hc1=>?_)
 ·have hk:k<xs.length:=by omega
  obtain⟨x,hx⟩:=C.ge xs k;refine C.kn<|aM<|Zaj<|C.s1<|Za rfl<|Zh rfl<|L.n3<|Za rfl<|Za rfl<|Za rfl<|cU rfl U30 Tf.s158 rfl Yk rfl Yd Yk rfl aOJ (fun b1 o1 cs1 hr1 hcl1 hA1=>?_);obtain rfl:cs1=[.int .i64 _,.int .i64 _,.int .i64 _,.int .i64 _]:=hr1;refine Zr rfl Tf.a158 rfl hA1 Tf.s158<|Zd rfl (fun D1 hD1=>hf x _ (hD1 _ Ye))<|L.n1<|aJ rfl (fun hc2=>?_) (fun hc2=>?_)
  ·refine C.s1<|Za rfl<|Zh rfl<|L.n5<|Zam<|Zai<|Zai<|Zam<|Zai ?_;exact leave1 rfl rfl rfl rfl (fun D hD=>by show Value.int _ _=_;rw[L1.hU hx h2 hc2])
  ·refine bQ<|Zal<|Zah<|C.rg<|Zy rfl<|Za rfl<|Zab ?_;have hpx:p x=false:=hc2;have h3:(xs.take (k+1)).any p=false:=by rw[aJP,hx,aMT,h2];simp[hpx]
   exact aG 12 (k+1) ⟨by omega,h3⟩ Yd ⟨Yb,aOJ⟩ rfl rfl (LE _) (aD)
 ·refine aQ<|Zak<|Zak<|Zan<|Zah<|C.s1<|Zh rfl<|L.n5 ?_;exact leave1 rfl rfl rfl rfl (fun D hD=>by show Value.int _ _=_;rw[L1.eW Yab])
theorem yQ(sv fv:Value)(xs:List Mk)(p:Mk→Bool)(D:aA)(hS:Sl D CG 4 sv xs)(hp:cF Tryz.prog D aGR fv p):
  Fn Tryz.prog 276 #[sv,fv] D (fun _ v=>v=.bool (xs.any p)):=by
 refine enter 9 Tryz.func276 rfl rfl rfl rfl fun h0=>C.s1<|Zh rfl<|L.n3<|Za rfl<|Za rfl<|Zd rfl (fun D1 hD1=>T0 _ _ xs p _ (Sl.at CG.up hD1 Yk Ye) (hp.up (hD1 _ Ye)))<|nS rfl rfl rfl rfl trivial<|Zh rfl<|L.n5 ?_
 exact leave1 rfl rfl rfl rfl (fun D hD=>by show Value.bool (decide _)=_;rw[L1.hC])
theorem TE(b:Nat)(fv:Value)(p:Mk→Bool)(x:Mk)(D:aA)(hp:cF Tryz.prog D aGR fv p)(hB:At D b 0 [fv]):
  Fn Tryz.prog 277 #[aGR x,.pointer (some ⟨b,0,none⟩)] D (fun _ v=>v=.bool (!p x)):=by
 obtain⟨f,c1,c2,rfl,hf⟩:=hp;refine enter 8 Tryz.func277 rfl rfl rfl rfl fun h0=>C.s1<|Zw rfl (fun q1 E1 hE1 hB1=>Zh rfl<|L.n3<|Zf 0 rfl Tf.a347 rfl hB rfl<|Zr rfl Tf.a158 rfl hB1 Tf.s158<|Zd rfl (fun D1 hD1=>hf x _ (hD1 _ Ye))<|Zag rfl<|Zh rfl<|L.n5 ?_)
 exact leave1 rfl rfl rfl rfl (fun D hD=>rfl)
theorem aCA(sv fv:Value)(xs:List Mk)(p:Mk→Bool)(D:aA)(hS:Sl D CG 4 sv xs)(hp:cF Tryz.prog D aGR fv p)(h1:fv.cells=#[fv]):
  Fn Tryz.prog 217 #[sv,fv] D (fun _ v=>v=.bool (xs.all p)):=by
 refine enter 9 Tryz.func217 rfl rfl rfl rfl fun h0=>C.s1<|mU (vs:=[fv]) rfl rfl h1 rfl aOJ (fun b D1 hD1 hB=>Zh rfl<|L.n3<|Za rfl<|bB rfl rfl rfl rfl trivial<|Zd rfl (fun D1 hD1=>yQ _ _ xs (fun x=> !p x) _ (Sl.at CG.up hD1 Yk Ye) ⟨_,[],[.pointer (some ⟨b,0,none⟩)],rfl,fun x D2 hl=>TE b fv p x D2 (hp.up ((hD1 _ Ye).trans hl)) (hB.up ((hD1 _ Ye).trans hl))⟩)<|Zag rfl<|Zh rfl<|L.n5 ?_)
 exact leave1 rfl rfl rfl rfl (fun D hD=>by show Value.bool (!_)=_;rw[L1.kH])
theorem sZ(b:Nat)(fv:Value)(p:Int→Bool)(x:Int)(D:aA)(hp:cF Tryz.prog D iV fv p)(hB:At D b 0 [fv]):
  Fn Tryz.prog 275 #[iV x,.pointer (some ⟨b,0,none⟩)] D (fun _ v=>v=.bool (!p x)):=by
 obtain⟨f,c1,c2,rfl,hf⟩:=hp;refine enter 8 Tryz.func275 rfl rfl rfl rfl fun h0=>C.s1<|Zh rfl<|L.n3<|Zf 0 rfl Tf.a191 rfl hB rfl<|Za rfl<|Zd rfl (fun D1 hD1=>hf x _ (hD1 _ Ye))<|Zag rfl<|Zh rfl<|L.n5 ?_
 exact leave1 rfl rfl rfl rfl (fun D hD=>rfl)
theorem wN(sv fv:Value)(xs:List Int)(p:Int→Bool)(D:aA)(hS:Sl D RI 1 sv xs)(hp:cF Tryz.prog D iV fv p)(h1:fv.cells=#[fv]):
  Fn Tryz.prog 216 #[sv,fv] D (fun _ v=>v=.bool (xs.all p)):=by
 refine enter 9 Tryz.func216 rfl rfl rfl rfl fun h0=>C.s1<|mU (vs:=[fv]) rfl rfl h1 rfl aOJ (fun b D1 hD1 hB=>Zh rfl<|L.n3<|Za rfl<|bB rfl rfl rfl rfl trivial<|Zd rfl (fun D1 hD1=>L1.jI _ _ xs (fun x=> !p x) _ (Sl.at RI.up hD1 Yk Ye) ⟨_,[],[.pointer (some ⟨b,0,none⟩)],rfl,fun x D2 hl=>sZ b fv p x D2 (hp.up ((hD1 _ Ye).trans hl)) (hB.up ((hD1 _ Ye).trans hl))⟩)<|Zag rfl<|Zh rfl<|L.n5 ?_)
 exact leave1 rfl rfl rfl rfl (fun D hD=>by show Value.bool (!_)=_;rw[L1.kH])
theorem SV(sv:Value)(x:Int)(xs:List Int)(D:aA)(hS:Sl D RI 1 sv (x::xs)):
  Fn Tryz.prog 224 #[sv] D (fun _ v=>v=.int .i64 (xs.foldl max x)):=by
 have hl:=hS.len;simp only[aJD]at hl;refine enter 25 Tryz.func224 rfl rfl rfl rfl fun h0=>C.s1<|Zh rfl<|L.n4<|Za rfl<|aR rfl U25 rfl Yk rfl rfl trivial<|Zae rfl<|L.n1<|aE rfl (fun hc1=>?_) (fun hc1=>?_)
 ·exact absurd hc1 (by simp only[aJD];omega)
 ·refine C.kn<|C.s1<|Za rfl<|cU rfl U25 Tf.s3 rfl Yk rfl Yd (by rfl) rfl aOJ (fun b1 o1 cs1 hr1 hcl1 hA1=>?_);obtain rfl:cs1=[.int .i64 _]:=hr1;refine Zf 0 rfl Tf.a3 rfl hA1 rfl<|Zh rfl<|L.n4<|Zh rfl<|L.n1<|Zaj<|cJ (γ:=Nat) (fun k=>xs.length-k) (fun k=>k≤xs.length) (fun k=>[(3,.int .i64 ((xs.take k).foldl max x)),(4,.int .i64 (k+1:Int))]) [(2,_),(0,_)] (fun k=>[D]) 0 Yd ⟨Yb,Yb,aOJ⟩ C.rs (aD) ?_;rintro k h1;refine C.s2<|Za rfl<|Za rfl<|aR rfl U25 rfl Yk rfl rfl trivial<|Zae rfl<|L.n1<|aE rfl (fun hc2=>?_) (fun hc2=>?_)
  ·simp only[aJD]at hc2;have hk:k<xs.length:=by omega
   obtain⟨y,hy⟩:=C.ge xs k;have hy2:(x::xs)[(k+1:Int).toNat]?= some y:=by rw[show((k:Int)+1).toNat=k+1 by omega];simpa using hy
   refine C.kn<|aM<|Zaj<|C.rg<|Za rfl<|Za rfl<|Za rfl<|cU rfl U25 Tf.s3 rfl Yk rfl Yd Yk rfl aOJ (fun b2 o2 cs2 hr2 hcl2 hA2=>?_);obtain rfl:cs2=[.int .i64 _]:=hr2;refine Zf 0 rfl Tf.a3 rfl hA2 rfl<|oZ rfl rfl rfl rfl trivial<|Zh rfl<|Zab<|Zal<|Zah<|C.rg<|Za rfl<|Zy rfl<|Zh rfl<|Zab ?_;have h3:(xs.take (k+1)).foldl max x=max ((xs.take k).foldl max x) y:=by rw[aJP,hy,aLE];rfl
   exact aG 16 (k+1) Yd Yd ⟨(by rw[h3];rfl),Yb,aOJ⟩ rfl rfl (LE _) (aD)
  ·simp only[aJD]at hc2;refine aQ<|Zak<|Zak<|Zan<|Zah<|C.s1<|Za rfl<|Zh rfl<|L.n5 ?_;exact leave1 rfl rfl rfl rfl (fun D hD=>by show Value.int _ _=_;rw[aKC Yd])
end L2
end Go.Fs
namespace Go.Fs
variable{P:Program}{X:Cx}{γb:Type}[Membership Nat γb]{bad:γb}{all:Array Oper}{K:Act→World→Prop}{Q:Exit→Act→World→Prop}
variable{σ:bS}{μ:aC}{Ds:List aA}{os:List (Bool×Nat)}{fl:Bool}{ix:Nat}
variable{d:Nat}{x y z:Operand}{u v:Value}{ty:TypeId}{pos:String}{aft:Array Edge}{g:Option (Nat×Bool)}
theorem K2.key{k:TypeId}(h:K2 P k):B8 P k iU:=by
 refine⟨⟨_,h.1⟩,fun a b w=>?_,fun em a w=>B9 h em a w,fun a=>?_,fun a=>⟨_,rfl⟩⟩
 ·rw[xM h];congr 1;by_cases e:a=b
  ·subst e;simp
  ·simp[e]
 ·simp[iU,Instr.sameBits]

theorem JH{em:Bool}{t e:TypeId}{n:Nat}(t1:P.underlying t=some (.array n e))(te:P.underlying e=some (.int .i64))(hse:TS P e 1){r:List Int}(hr:r.length=n)(w:World):(Instr.checkKey em (9998+1) t (.agg (ints r).toArray)).run P w=.ok () w:=by
 have ce:∀m:Int,(Instr.checkKey em (9997+1) e (.int .i64 m)).run P w=.ok () w:=fun m=>by
  rw[Instr.checkKey,Sem.run_bind,TU.of te w];rfl
 rw[Instr.checkKey,Sem.run_bind,TU.of t1 w];simp only[Result.andThen_ok];rw[Std.Legacy.Range.forIn_eq_forIn_range'];have key:∀(is:List Nat),(∀i∈is,i<n)→((forIn is PUnit.unit fun i _=>do Instr.checkKey em 9998 e (←part e (ints r).toArray (i*(←sizeOf e)));Pure.pure (ForInStep.yield PUnit.unit):Sem PUnit)).run P w=.ok PUnit.unit w:=by
  intro is;induction is with
  |nil=>intro _;rfl
  |cons i is ih=>
   intro hi;have hlt:=hi i aJH;have g1:(ints r).toArray[i*1]?= some (.int .i64 r[i]):=by rw[aLV];simpa using cD (aJC (show i<r.length by omega))
   rw[List.forIn_cons];simp only[Sem.run_bind,hse w,Result.andThen_ok,dD te g1];rw[ce];simp only[Result.andThen_ok,Sem.run_pure];exact ih fun j hj=>hi j (aJB _ hj)
 have:=key (List.range' 0 n) (fun i hi=>by simpa using hi);simpa using this
def KM(P:Program)(k:TypeId)(n:Nat):Prop:=∃f0 f1 f2 e,P.underlying k=some (.struct (P.fieldsOf k))∧P.fieldsOf k=#[f0,f1,f2]∧f0.name≠ "_" ∧f1.name≠ "_" ∧f2.name≠ "_" ∧f0.offset=0∧f1.offset=1∧f2.offset=n+1∧
 P.underlying f0.type=some (.int .i64)∧P.underlying f1.type=some (.array n e)∧P.underlying f2.type=some (.array n e)∧P.underlying e=some (.int .i64)∧TA P f1.type true∧TS P f1.type n∧TA P f2.type true∧TS P f2.type n∧TS P e 1
theorem KM.key{k:TypeId}{n:Nat}(h:KM P k n)(hks:KS P k (n+n+1)):B8 P k (A4 (n:=n+n+1)):=by
 obtain⟨f0,f1,f2,e,hu,hf,n0,n1,n2,o0,o1,o2,t0,t1,t2,te,a1,s1,a2,s2,hse⟩:=h;refine⟨⟨_,hu⟩,fun a b w=>?_,fun em a w=>?_,fun a=>?_,fun a=>⟨_,rfl⟩⟩
 ·have:=A2 (P:=P) hks a.h b.h w;show(Op.equal k (.agg (ints a.l).toArray) (.agg (ints b.l).toArray)).run P w=_;rw[this];congr 1;obtain⟨la,ha⟩:=a;obtain⟨lb,hb⟩:=b;rw[aMN];simp
 ·have hl:=a.h;have c0:∀x:Int,(Instr.checkKey em (9998+1) f0.type (.int .i64 x)).run P w=.ok () w:=fun x=>by
   rw[Instr.checkKey,Sem.run_bind,TU.of t0 w];rfl
  obtain⟨x,hx⟩:=C.ge a.l 0;have p0:(part f0.type (ints a.l).toArray f0.offset).run P w=.ok (.int .i64 x) w:=dD t0 (by rw[o0];simpa using cD hx) w
  have p1:(part f1.type (ints a.l).toArray f1.offset).run P w=.ok (.agg (ints ((a.l.drop 1).take n)).toArray) w:=by rw[o1];exact tR a1 s1 Yd w
  have p2:(part f2.type (ints a.l).toArray f2.offset).run P w=.ok (.agg (ints ((a.l.drop (n+1)).take n)).toArray) w:=by rw[o2];exact tR a2 s2 Yd w
  have c1:=JH (em:=em) t1 te hse (r:=(a.l.drop 1).take n) (by rw[aKL,aLB];omega) w;have c2:=JH (em:=em) t2 te hse (r:=(a.l.drop (n+1)).take n) (by rw[aKL,aLB];omega) w
  show(Instr.checkKey em (9999+1) k (.agg (ints a.l).toArray)).run P w=_;rw[Instr.checkKey,Sem.run_bind,TU.of hu w];simp only[Result.andThen_ok];rw[hf,←Array.forIn_toList];simp only[List.forIn_cons,List.forIn_nil,n0,n1,n2,ne_eq,aNQ,aLH,Sem.run_bind,p0,Result.andThen_ok,Sem.run_pure];rw[c0];simp only[Result.andThen_ok,Sem.run_pure,Sem.run_bind,p1];rw[c1];simp only[Result.andThen_ok,Sem.run_pure,Sem.run_bind,p2];rw[c2];simp[Sem.run_pure,Result.andThen_ok]
 ·show Instr.sameBits (9999+1) (.agg (ints a.l).toArray) (.agg (ints a.l).toArray)=true;simp only[Instr.sameBits,beq_self_eq_true,aNA,aJW];rintro⟨p,q⟩ hpq;obtain⟨i,hi⟩:=aMV.1 hpq;rw[List.getElem?_zip_eq_some]at hi;obtain⟨h1,h2⟩:=hi;simp only at h1 h2;rw[h1]at h2;obtain rfl:=aJZ h2;have:p∈ints a.l:=aJA (by simpa using h1);obtain⟨m,_,rfl⟩:=aIY.1 this;simp[Instr.sameBits]
variable{α β:Type}[DecidableEq α]{val:α→Value}{wal:β→Value}
def vW(val:α→Value)(wal:β→Value)(es:Array MapEntry)(M:List (α×β)):Prop:=es.toList.map (fun e=>(e.key,e.val))=M.map fun x=>(val x.1,wal x.2)
def tG(a:α):List (α×β)→Nat→Option (Nat×β)
 | [],_=>none
 |(b,n)::M,i=>if a=b then some (i,n)else tG a M (i+1)
theorem uH{a:α}:∀{M:List (α×β)} {i j:Nat} {n:β},tG a M i=some (j,n)→∃k,j=i+k∧M[k]?= some (a,n)
 |(b,m)::M,i,j,n,h=>by
  simp only[tG]at h;split at h
  ·rename_i he;cases h;exact⟨0,rfl,by rw[he];rfl⟩
  ·obtain⟨k,rfl,hk⟩:=uH h;exact⟨k+1,by omega,by simpa using hk⟩
theorem qP{k:TypeId}(h:B8 P k val)(a:α)(w:World):∀(es:List MapEntry) (M:List (α×β)) (i:Nat),es.map (fun e=>(e.key,e.val))=M.map (fun x=>(val x.1,wal x.2))→
  (Instr.findAsking k (val a) es i).run P w=.ok ((tG a M i).map fun p=>(p.1,wal p.2)) w
 | [],[],i,_=>rfl
 | [],_::_,i,hm=>by simp at hm
 |e::es,[],i,hm=>by simp at hm
 |e::es,(b,n)::M,i,hm=>by
  simp only[aJY,aLN,aMW]at hm;obtain⟨⟨hk,hv⟩,hm⟩:=hm;simp only[Instr.findAsking,Sem.run_bind,hk,h.eq,Result.andThen_ok,tG];by_cases he:a=b
  ·subst he;simp only[decide_true,aLH,Sem.run_pure,hv];rfl
  ·simp only[he,decide_false,aKI,aLR];exact qP h a w es M (i+1) hm
theorem pH{k:TypeId}(h:B8 P k val)(a:α)(w:World){es:List MapEntry}{M:List (α×β)}(hm:es.map (fun e=>(e.key,e.val))=M.map (fun x=>(val x.1,wal x.2))):
  (Instr.findKey k (val a) es).run P w=.ok ((tG a M 0).map fun p=>(p.1,wal p.2)) w:=by
 obtain⟨fs,hu⟩:=h.und;unfold Instr.findKey;rw[Sem.run_bind,TU.of hu w];cases es with
 |nil=>
  cases M with
  |nil=>rfl
  |cons x M=>simp at hm
 |cons e es=>
  have hn:Instr.findNow (.struct fs) (val a) (e::es) 0=none:=by
   obtain⟨cs,hc⟩:=h.agg a;rw[hc];rfl
  simp only[Result.andThen_ok,hn];exact qP h a w (e::es) M 0 hm
theorem LH{t k e:TypeId}{b clock:Nat}{es:Array MapEntry}{M:List (α×β)}{a:α}(ho:all[ix]?= some ⟨some d,.lookup t x y true,ty,pos,aft,g⟩)(ht:P.underlying t=some (.map k e))(hk:B8 P k val){z0:Value}(hz:TZ P e z0)
  (hx:ev σ x=some (.map (some b))) (hy:ev σ y=some (val a)) (hm:(b,Obj.map es clock)∈μ) (hb:b∉bad) (hM:vW val wal es M) (hN:Nat.blt d X.N=true) (hg:cT all σ g)
  (kk:∀n ok,(ok=true→∃r,n=wal r∧(a,r)∈M)→(ok=false→n=z0)→WL P X bad all K Q os ((d,.tuple #[n,.bool ok])::σ) μ Ds):WL P X bad all K Q ((fl,ix)::os) σ μ Ds:=by
 have run:∀w,w.heap[b]?= some (Obj.map es clock)→(Instr.lookup t (.map (some b)) (val a) true).run P w=.ok (.tuple #[(match tG a M 0 with|some (_,v)=>wal v|none=>z0),.bool (tG a M 0).isSome]) w:=by
  intro w hw;have hf:=pH hk a w hM;unfold Instr.lookup;simp only[Sem.run_bind,TU.of ht w,Result.andThen_ok,gR hw,Sem.run_pure,hk.chk];rw[hf];cases tG a M 0 with
  |none=>simp only[aLF,Result.andThen_ok,Sem.run_bind,hz w,Sem.run_pure];rfl
  |some r=>obtain⟨j,v⟩:=r;simp only[aKJ,Result.andThen_ok];rfl
 refine jL ho rfl rfl hN hg (fun a' w hh w' hk'=>?_) (kk (match tG a M 0 with|some (_,v)=>wal v|none=>z0) (tG a M 0).isSome (fun hok=>?_) fun hok=>?_)
 ·simp only[execOp,hh.eval hx,hh.eval hy,Sem.run_bind,run w' (hh.boxAt hm hb hk'),Result.andThen_ok,Sem.run_pure]
 ·cases hp:tG a M 0 with
  |none=>rw[hp]at hok;cases hok
  |some r=>
   obtain⟨j,n⟩:=r;obtain⟨i,_,hi⟩:=uH hp;exact⟨n,rfl,aJA hi⟩
 ·cases hp:tG a M 0 with
  |none=>rfl
  |some r=>rw[hp]at hok;cases hok
theorem Z7{t k e:TypeId}{b clock:Nat}{es:Array MapEntry}{M:List (α×β)}{a:α}{n:β}{A B:aC}(ho:all[ix]?= some ⟨none,.mapUpdate t x y z,ty,pos,aft,g⟩)(ht:P.underlying t=some (.map k e))(hk:B8 P k val)
  (hx:ev σ x=some (.map (some b))) (hy:ev σ y=some (val a)) (hz:ev σ z=some (wal n)) (hM:vW val wal es M) (hg:cT all σ g)
  (kk:∀es' clock' M',vW val wal es' M'→(∀p∈M',p∈M∨p=(a,n))→WL P X bad all K Q os σ (A++(b,.map es' clock')::B) Ds):WL P X bad all K Q ((false,ix)::os) σ (A++(b,.map es clock)::B) Ds:=by
 refine dI ho rfl rfl hg fun a' w hh=>?_
 obtain⟨h1,h2,h3,D,h4,h5,h6⟩:=id hh;have hw:=(h4.box (b,.map es clock) Ye).1;have run:∃es' clock' M',vW val wal es' M'∧(∀p∈M',p∈M∨p=(a,n))∧(Instr.mapUpdate t (.map (some b)) (val a) (wal n)).run P w=.ok () {w with heap:=w.heap.setIfInBounds b (.map es' clock')}:=by
  have hf:=pH hk a w hM;have hset:∀o,(setObj b o).run P w=.ok () {w with heap:=w.heap.setIfInBounds b o}:=fun o=>by simp[setObj,Sem.run,hw]
  cases hp:tG a M 0 with
  |none=>
   refine⟨es.push {key:=val a,val:=wal n,born:=clock},clock+1,M++[(a,n)],?_,fun p hp=>by simpa using hp,?_⟩
   ·unfold vW at hM ⊢
    rw[Array.toList_push,aJN,aJN,hM];rfl
   ·unfold Instr.mapUpdate;simp only[Sem.run_bind,TU.of ht w,Result.andThen_ok,gR hw,hk.chk];rw[hf,hp];simp only[aLF,Result.andThen_ok,hset]
  |some r=>
   obtain⟨j,m⟩:=r;obtain⟨i,hi0,hi⟩:=uH hp;rw[aMC]at hi0;subst hi0
   have hMi:∀i,(es.toList[i]?).map (fun e:MapEntry=>(e.key,e.val))=(M[i]?).map (fun x:α×β=>(val x.1,wal x.2)):=fun i=>by rw[←aKA,←aKA,hM]
   have hj:=hMi j;rw[hi]at hj;obtain⟨e0,he0,hke⟩:=aMB.1 hj;simp only[aMW]at hke;have he0':es[j]?= some e0:=by simpa using he0
   refine⟨es.modify j fun e=>{e with key:=val a,val:=wal n},clock,M.set j (a,n),?_,fun p hp=>(List.mem_or_eq_of_mem_set hp),?_⟩
   ·unfold vW;apply aOE;intro q;rw[aKA,aKA,Array.getElem?_toList,Array.getElem?_modify,List.getElem?_set];have hq:=hMi q;rw[Array.getElem?_toList]at hq;by_cases hjq:j=q
    ·subst hjq;have hlt:=(aJK.1 hi).1;simp[he0',hlt]
    ·simp only[hjq,aLR];exact hq
   ·have hks:(Instr.keyThatStays (val a) (val a)).run P w=.ok (val a) w:=by
     have:Instr.sameBits 10000 (val a) (val a)=true:=hk.stay a;unfold Instr.keyThatStays;rw[aJT this,Sem.run_pure]
    unfold Instr.mapUpdate;simp only[Sem.run_bind,TU.of ht w,Result.andThen_ok,gR hw,hk.chk];rw[hf,hp];simp only[aKJ,Result.andThen_ok,he0',aMO,hke.1,Sem.run_bind,hks,hset]
 obtain⟨es',clock',M',hM',hmem,hr⟩:=run;have hHas:bM (A++(b,Obj.map es clock)::B) b (.map es clock) (.map es' clock') (A++(b,.map es' clock')::B):=.app .head;have hs:=h4.set (w':={w with heap:=w.heap.setIfInBounds b (.map es' clock')}) hHas ⟨rfl,rfl⟩ trivial;have:(execOp a'.eval ⟨none,.mapUpdate t x y z,ty,pos,aft,g⟩).run P w=.ok .skip {w with heap:=w.heap.setIfInBounds b (.map es' clock')}:=by
  simp only[execOp,hh.eval hx,hh.eval hy,hh.eval hz,Sem.run_bind,hr,Result.andThen_ok,Sem.run_pure]
 rw[this];exact⟨fun h=>by simp at h,kk es' clock' M' hM' hmem _ _ ⟨h1,h2,h3,D,hs,h5,h6.step (fun _ p hp=>aJQ Yq) (fun _=>gM ⟨rfl,rfl⟩ (aIY.2 ⟨_,hHas.mem,rfl⟩)) hs.dom⟩⟩
end Go.Fs
namespace Go.Fs
variable{P:Program}{X:Cx}{γb:Type}[Membership Nat γb]{bad:γb}{all:Array Oper}{K:Act→World→Prop}{Q:Exit→Act→World→Prop}
variable{σ:bS}{μ:aC}{Ds:List aA}{os:List (Bool×Nat)}{fl:Bool}{ix:Nat}
variable{d:Nat}{x y z:Operand}{u v:Value}{ty:TypeId}{pos:String}{aft:Array Edge}{g:Option (Nat×Bool)}
def aFU:Unit→Value:=fun _=>.bool true
structure qC(es:Array MapEntry)(clock:Nat)(S:List (Int×Int)):Prop where
 cells:vW iU aFU es (S.map fun a=>(a,()))
 nd:(es.toList.map (·.born)).Nodup
 lt:∀e∈es.toList,e.born<clock
theorem qC.nil:qC #[] 0 []:=⟨rfl,aLI,fun e he=>by simp at he⟩
def CC(S:List (Int×Int))(a:Int×Int):List (Int×Int):=if a∈S then S else S++[a]
theorem VI{S:List (Int×Int)}{a p:Int×Int}:p∈CC S a ↔ p∈S∨p=a:=by
 unfold CC;split
 ·rename_i h;exact⟨aJQ,fun h'=>h'.elim id fun e=>e▸h⟩
 ·simp
theorem qC.key{es:Array MapEntry}{clock:Nat}{S:List (Int×Int)}(h:qC es clock S){e:MapEntry}(he:e∈es.toList):∃a∈S,e.key=iU a∧e.val=.bool true:=by
 have h1:=h.cells;unfold vW at h1;obtain⟨i,hi⟩:=aMV.1 he;have h2:(es.toList.map fun e=>(e.key,e.val))[i]?= some (e.key,e.val):=by rw[aKA,hi];rfl
 rw[h1,aNT,aKA]at h2;obtain⟨a,ha,hk⟩:=aMB.1 h2;simp only[Function.comp,aMW]at hk;exact⟨a,aJA ha,hk.1.symm,hk.2.symm⟩
theorem qC.ent{es:Array MapEntry}{clock:Nat}{S:List (Int×Int)}(h:qC es clock S){a:Int×Int}(ha:a∈S):∃e∈es.toList,e.key=iU a:=by
 have h1:=h.cells;unfold vW at h1;obtain⟨i,hi⟩:=aMV.1 ha;have h2:((S.map fun a=>(a,())).map fun x=>(iU x.1,aFU x.2))[i]?= some (iU a,.bool true):=by rw[aNT,aKA,hi];rfl
 rw[←h1,aKA]at h2;obtain⟨e,he,hk⟩:=aMB.1 h2;simp only[aMW]at hk;exact⟨e,aJA he,hk.1⟩
theorem OU{S:List (Int×Int)}{a:Int×Int}:∀{i:Nat},tG a (S.map fun a=>(a,())) i=none→a∉S:=by
 induction S with
 |nil=>intro i _;exact GT
 |cons b S ih=>
  intro i h;simp only[aJY,tG]at h;split at h
  ·cases h
  ·rename_i hne;intro hm;rcases aIW.1 hm with e|hm
   ·exact hne e
   ·exact ih h hm
theorem aGD{t k e:TypeId}{b clock:Nat}{es:Array MapEntry}{S:List (Int×Int)}{a:Int×Int}{A B:aC}(ho:all[ix]?= some ⟨none,.mapUpdate t x y z,ty,pos,aft,g⟩)(ht:P.underlying t=some (.map k e))(hk:K2 P k)
  (hx:ev σ x=some (.map (some b))) (hy:ev σ y=some (iU a)) (hz:ev σ z=some (.bool true)) (hM:qC es clock S) (hg:cT all σ g)
  (kk:∀es' clock',qC es' clock' (CC S a)→WL P X bad all K Q os σ (A++(b,.map es' clock')::B) Ds):WL P X bad all K Q ((false,ix)::os) σ (A++(b,.map es clock)::B) Ds:=by
 refine dI ho rfl rfl hg fun a' w hh=>?_
 obtain⟨h1,h2,h3,D,h4,h5,h6⟩:=id hh;have hw:=(h4.box (b,.map es clock) Ye).1;have hK:=hk.key;have run:∃es' clock',qC es' clock' (CC S a)∧(Instr.mapUpdate t (.map (some b)) (iU a) (.bool true)).run P w=.ok () {w with heap:=w.heap.setIfInBounds b (.map es' clock')}:=by
  have hf:=pH (wal:=aFU) hK a w hM.cells;have hset:∀o,(setObj b o).run P w=.ok () {w with heap:=w.heap.setIfInBounds b o}:=fun o=>by simp[setObj,Sem.run,hw]
  cases hp:tG a (S.map fun a=>(a,())) 0 with
  |none=>
   have hna:=OU hp;refine⟨es.push {key:=iU a,val:=.bool true,born:=clock},clock+1,⟨?_,?_,?_⟩,?_⟩
   ·have hM':=hM.cells;unfold vW at hM' ⊢
    unfold CC;rw[aJM hna,Array.toList_push,aJN,hM',aJN,aJN];rfl
   ·rw[Array.toList_push,aJN,aJJ];refine⟨hM.nd,by simp,fun b1 hb1 b2 hb2=>?_⟩;obtain⟨e1,he1,rfl⟩:=aIY.1 hb1;have:=hM.lt e1 he1;simp only[aJY,aNC,aJR]at hb2;omega
   ·intro e1 he1;rw[Array.toList_push]at he1;rcases aJO.1 he1 with he1|he1
    ·have:=hM.lt e1 he1;omega
    ·simp only[aJR]at he1;subst he1;exact Nat.lt_succ_self _
   ·unfold Instr.mapUpdate;simp only[Sem.run_bind,TU.of ht w,Result.andThen_ok,gR hw,hK.chk];rw[hf,hp];simp only[aLF,Result.andThen_ok,hset]
  |some r=>
   obtain⟨j,m⟩:=r;obtain⟨i,hi0,hi⟩:=uH hp;rw[aMC]at hi0;subst hi0
   have hSj:S[j]?= some a:=by
    rw[aKA]at hi;obtain⟨a',ha',hk'⟩:=aMB.1 hi;rw[ha',(Prod.mk.inj hk').1]
   have hMi:∀i,(es.toList[i]?).map (fun e:MapEntry=>(e.key,e.val))=(S[i]?).map (fun x:Int×Int=>(iU x,Value.bool true)):=fun i=>by
    have:=hM.cells;unfold vW at this;rw[←aKA,this,aNT,aKA];rfl
   have hj:=hMi j;rw[hSj]at hj;obtain⟨e0,he0,hke⟩:=aMB.1 hj;simp only[aMW]at hke;have he0':es[j]?= some e0:=by simpa using he0
   have hmod:es.modify j (fun e=>{e with key:=iU a,val:=.bool true})=es:=by
    apply Array.ext_getElem?;intro q;rw[Array.getElem?_modify];by_cases hjq:j=q
    ·subst hjq;simp only[he0',aLH,aKJ];obtain⟨k0,v0,b0⟩:=e0;simp only at hke;rw[hke.1,hke.2]
    ·simp[hjq]
   refine⟨es,clock,?_,?_⟩
   ·unfold CC;rw[aJT (aJA hSj)];exact hM
   ·have hks:(Instr.keyThatStays (iU a) (iU a)).run P w=.ok (iU a) w:=by
     have:Instr.sameBits 10000 (iU a) (iU a)=true:=hK.stay a;unfold Instr.keyThatStays;rw[aJT this,Sem.run_pure]
    unfold Instr.mapUpdate;simp only[Sem.run_bind,TU.of ht w,Result.andThen_ok,gR hw,hK.chk];rw[hf,hp];simp only[aKJ,Result.andThen_ok,he0',aMO,hke.1,Sem.run_bind,hks,hset,hmod]
 obtain⟨es',clock',hM',hr⟩:=run;have hHas:bM (A++(b,Obj.map es clock)::B) b (.map es clock) (.map es' clock') (A++(b,.map es' clock')::B):=.app .head;have hs:=h4.set (w':={w with heap:=w.heap.setIfInBounds b (.map es' clock')}) hHas ⟨rfl,rfl⟩ trivial;have:(execOp a'.eval ⟨none,.mapUpdate t x y z,ty,pos,aft,g⟩).run P w=.ok .skip {w with heap:=w.heap.setIfInBounds b (.map es' clock')}:=by
  simp only[execOp,hh.eval hx,hh.eval hy,hh.eval hz,Sem.run_bind,hr,Result.andThen_ok,Sem.run_pure]
 rw[this];exact⟨fun h=>by simp at h,kk es' clock' hM' _ _ ⟨h1,h2,h3,D,hs,h5,h6.step (fun _ p hp=>aJQ Yq) (fun _=>gM ⟨rfl,rfl⟩ (aIY.2 ⟨_,hHas.mem,rfl⟩)) hs.dom⟩⟩
theorem YQ{t k e:TypeId}{b clock:Nat}{es:Array MapEntry}(ho:all[ix]?= some ⟨some d,.range t x,ty,pos,aft,g⟩)(ht:P.underlying t=some (.map k e))(hx:ev σ x=some (.map (some b)))(hm:(b,Obj.map es clock)∈μ)(hN:Nat.blt d X.N=true)(hg:cT all σ g)
  (kk:∀r,WL P X bad all K Q os ((d,.pointer (some ⟨r,0,none⟩))::σ) ((r,.mapIter (some b) clock #[] clock)::μ) Ds):WL P X bad all K Q ((fl,ix)::os) σ μ Ds:=by
 refine dI ho rfl rfl hg fun a w hh=>?_
 obtain⟨h1,h2,h3,D,h4,h5,h6⟩:=id hh;have:(execOp a.eval ⟨some d,.range t x,ty,pos,aft,g⟩).run P w=.ok (.value (.pointer (some ⟨w.heap.size,0,none⟩))) {w with heap:=w.heap.push (.mapIter (some b) clock #[] clock)}:=by
  simp only[execOp,hh.eval hx,Sem.run_bind,run_range_map w t k e b es clock ht (h4.box _ hm).1,Result.andThen_ok,Sem.run_pure];rfl
 rw[this];exact⟨fun _=>lQ _ _ _,kk _ _ _ (Hl.put ⟨h1,h2,h3,D,h4.push _ (show cN (.mapIter (some b) clock #[] clock)from aOJ),h5,h6.step (fun _ p hp=>by rcases aIW.1 hp with rfl|hp;exact Or.inr (aJU _);exact Or.inl (aIY.2 ⟨p,hp,rfl⟩)) (fun _=>wL _ _) (h4.push _ (show cN (.mapIter (some b) clock #[] clock)from aOJ)).dom⟩ hN _)⟩
theorem aCO{b r since c0 clock:Nat}{seen:Array Nat}{es:Array MapEntry}{A B:aC}(ho:all[ix]?= some ⟨some d,.next x false,ty,pos,aft,g⟩)(hx:ev σ x=some (.pointer (some ⟨r,0,none⟩)))(hm:(b,Obj.map es clock)∈A++(r,.mapIter (some b) since seen c0)::B)
  (hold:∀e∈es.toList,e.born<since) (hsc:since≤c0) (hN:Nat.blt d X.N=true) (hg:cT all σ g)
  (kk:∀(ok:Bool) (vs:Array Value) (o':Obj),vs.toList[0]?= some (.bool ok)→(ok=false→(leftOf es seen).size=0∧o'=.mapIter (some b) since seen c0)→(ok=true→∃e∈(leftOf es seen).toList,o'=.mapIter (some b) since (seen.push e.born) clock)→WL P X bad all K Q os ((d,.tuple vs)::σ) (A++(r,o')::B) Ds):
  WL P X bad all K Q ((false,ix)::os) σ (A++(r,.mapIter (some b) since seen c0)::B) Ds:=by
 refine dI ho rfl rfl hg fun a w hh=>?_
 have hh0:=hh;obtain⟨h1,h2,h3,D,h4,h5,h6⟩:=id hh;have hr:=(h4.box (r,.mapIter (some b) since seen c0) Ye).1;have hb:=(h4.box _ hm).1;rcases run_next_at (P:=P) w ty r b since c0 seen es clock hr hb hold hsc with⟨hl,hrun⟩|⟨e,he,w1,hw1,hrun⟩
 ·have:(execOp a.eval ⟨some d,.next x false,ty,pos,aft,g⟩).run P w=.ok (.value (.tuple #[.bool false])) w:=by
   simp only[execOp,hh.eval hx,Sem.run_bind,hrun,Result.andThen_ok,Sem.run_pure]
  rw[this];exact⟨fun h=>by simp at h,kk false _ _ rfl (fun _=>⟨hl,rfl⟩) (fun h=>by cases h) _ _ (hh0.put hN _)⟩
 ·have hh1:Hl X σ (A++(r,.mapIter (some b) since seen c0)::B) Ds a w1:=by
   rcases hw1 with rfl|rfl
   ·exact hh0
   ·exact hh0.drew
  have:(execOp a.eval ⟨some d,.next x false,ty,pos,aft,g⟩).run P w=.ok (.value (.tuple #[.bool true,e.key,e.val])) (ChangeMaps.setBlock w1 r (.mapIter (some b) since (seen.push e.born) clock)):=by
   simp only[execOp,hh.eval hx,Sem.run_bind,hrun,Result.andThen_ok,Sem.run_pure]
  rw[this];obtain⟨h1,h2,h3,D,h4,h5,h6⟩:=hh1;have hHas:bM (A++(r,Obj.mapIter (some b) since seen c0)::B) r (.mapIter (some b) since seen c0) (.mapIter (some b) since (seen.push e.born) clock) (A++(r,.mapIter (some b) since (seen.push e.born) clock)::B):=.app .head;have hs:=h4.set (w':=ChangeMaps.setBlock w1 r (.mapIter (some b) since (seen.push e.born) clock)) hHas ⟨rfl,rfl⟩ trivial;exact⟨fun h=>by simp at h,kk true _ _ rfl (fun h=>by cases h) (fun _=>⟨e,he,rfl⟩) _ _ (Hl.put ⟨h1,h2,h3,D,hs,h5,h6.step (fun _ p hp=>aJQ Yq) (fun _=>gM ⟨rfl,rfl⟩ (aIY.2 ⟨_,hHas.mem,rfl⟩)) hs.dom⟩ hN _)⟩
theorem SY{b r since clock:Nat}{seen:Array Nat}{es:Array MapEntry}{e:MapEntry}(ho:all[ix]?= some ⟨some d,.entry x,ty,pos,aft,g⟩)(hx:ev σ x=some (.pointer (some ⟨r,0,none⟩)))(hm:(b,Obj.map es clock)∈μ)(hr:(r,Obj.mapIter (some b) since (seen.push e.born) clock)∈μ)
  (he:e∈es.toList) (hn:(es.toList.map (·.born)).Nodup) (hN:Nat.blt d X.N=true) (hg:cT all σ g)
  (kk:WL P X bad all K Q os ((d,.tuple #[e.key,e.val])::σ) μ Ds):WL P X bad all K Q ((fl,ix)::os) σ μ Ds:=by
 refine dI ho rfl rfl hg fun a w hh=>?_
 obtain⟨h1,h2,h3,D,h4,h5,h6⟩:=id hh;have:(execOp a.eval ⟨some d,.entry x,ty,pos,aft,g⟩).run P w=.ok (.value (.tuple #[e.key,e.val])) w:=by
  simp only[execOp,hh.eval hx,Sem.run_bind,run_entry_at w r b since seen es clock e (h4.box _ hr).1 (h4.box _ hm).1 he hn,Result.andThen_ok,Sem.run_pure]
 rw[this];exact⟨fun _=>jW.refl _ _,kk _ _ (hh.put hN _)⟩
theorem LW{t e:TypeId}{n b l h:Nat}{k1 k2:IntKind}{i j:Int}(ho:all[ix]?= some ⟨some d,.slice t x (some y) (some z) none,ty,pos,aft,g⟩)(ht:P.underlying t=some (.array n e))(hs:TS P e 1)(hx:ev σ x=some (.pointer (some ⟨b,0,none⟩)))
  (hy:ev σ y=some (.int k1 i)) (hz:ev σ z=some (.int k2 j)) (hi:i=(l:Int)) (hj:j=(h:Int)) (h1:l≤h) (h2:h≤n) (h3:l<n)
  (hN:Nat.blt d X.N=true) (hg:cT all σ g) (kk:WL P X bad all K Q os ((d,.slice (some ⟨b,l,none⟩) (h-l) (n-l))::σ) μ Ds):WL P X bad all K Q ((fl,ix)::os) σ μ Ds:=by
 subst hi;subst hj
 refine bG ho rfl rfl hN hg (fun ρ hρ w'=>?_) kk;simp only[execOp,hρ x _ hx,hρ y _ hy,hρ z _ hz,aLF,aKJ];unfold Instr.sliceAt Instr.sureAddr Instr.sliceBounds Instr.sliceBound asIntOf;have a1:(0:Int)≤(l:Int)∧(l:Int)≤(h:Nat):=by omega
 have a2:(0:Int)≤(h:Int)∧(h:Int)≤(n:Nat):=by omega
 simp only[Sem.run_bind,TU.of ht w',Result.andThen_ok,hs w',Sem.run_pure,pure_bind,a1,a2,aNM,aLH,aKT,aLV];rw[aJM Yd];simp[Addr.add];exact fun h=>h.symm
theorem TX{t e:TypeId}{n b h:Nat}{k2:IntKind}{j:Int}(ho:all[ix]?= some ⟨some d,.slice t x none (some z) none,ty,pos,aft,g⟩)(ht:P.underlying t=some (.array n e))(hs:TS P e 1)(hx:ev σ x=some (.pointer (some ⟨b,0,none⟩)))
  (hz:ev σ z=some (.int k2 j)) (hj:j=(h:Int)) (h2:h≤n)
  (hN:Nat.blt d X.N=true) (hg:cT all σ g) (kk:WL P X bad all K Q os ((d,.slice (some ⟨b,0,none⟩) h n)::σ) μ Ds):WL P X bad all K Q ((fl,ix)::os) σ μ Ds:=by
 subst hj;refine bG ho rfl rfl hN hg (fun ρ hρ w'=>?_) kk;simp only[execOp,hρ x _ hx,hρ z _ hz,aLF,aKJ];unfold Instr.sliceAt Instr.sureAddr Instr.sliceBounds Instr.sliceBound asIntOf;have a2:(0:Int)≤(h:Int)∧(h:Int)≤(n:Nat):=by omega
 simp only[Sem.run_bind,TU.of ht w',Result.andThen_ok,hs w',Sem.run_pure,pure_bind,a2,aNM,aLH,aKT,aNF,aML];split<;>simp[Addr.add]
theorem JC{D:aA}{b n l h:Nat}{c:List Int}(hA:At D b 0 (ints c))(hl:c.length=n)(h1:l≤h)(h2:h≤n)(hb:n≤9223372036854775807):Sl D RI 1 (.slice (some ⟨b,l,none⟩) (h-l) (n-l)) ((c.drop l).take (h-l)):=by
 have hlen:((c.drop l).take (h-l)).length=h-l:=by simp;omega
 refine⟨_,_,by rw[hlen],by omega,by omega,aJE ⟨b,l,rfl,fun i x hi=>⟨_,rfl,rfl,fun j v hj=>?_⟩⟩⟩;rw[List.getElem?_take]at hi;split at hi
 ·rw[aLM]at hi;cases j with
  |zero=>
   have h5:v=.int .i64 x:=by simpa using hj.symm
   subst h5;have:=hA (l+i) (.int .i64 x) (cD hi);simpa using this
  |succ j=>simp at hj
 ·cases hi
theorem aEZ{γ:Type}(I:γ→Prop)(S:γ→Bool)(XX:γ→Cx)(M:γ→aC)(xs ys:List (Bool×Nat)){s p:Nat}{b:Bool}(hXr:∀g,(XX g).r=X.r)(ho:os=xs++ys)(hs:look σ s=some (.bool b))
  (hyes:b=true→WL P X bad all (fun a w=>∃g,I g∧Hl (XX g) ((p,.bool (S g))::(s,.bool true)::σ) (M g) Ds a w) Q xs ((s,.bool true)::σ) μ Ds)
  (hno:b=false→WL P X bad all (fun a w=>∃g,I g∧Hl (XX g) ((p,.bool (S g))::(s,.bool false)::σ) (M g) Ds a w) Q xs ((s,.bool false)::σ) μ Ds)
  (k:∀g,I g→WL P (XX g) bad all K Q ys ((p,.bool (S g))::σ) (M g) Ds):WL P X bad all K Q os σ μ Ds:=by
 have hsub:∀u,Value.bool b=u→∀a w,Hl X σ μ Ds a w→Hl X ((s,u)::σ) μ Ds a w:=by
  rintro _ rfl a w ⟨h1,h2,h3⟩;refine⟨h1,fun t v ht=>?_,h3⟩;simp only[look]at ht;cases hb:Nat.beq s t with
  |true=>rw[hb]at ht;cases ht;obtain rfl:=aKQ hb;exact h2 _ _ hs
  |false=>rw[hb]at ht;exact h2 _ _ ht
 have hback:∀(X:Cx) u v μ',Value.bool b=u→∀a w,Hl X ((p,v)::(s,u)::σ) μ' Ds a w→Hl X ((p,v)::σ) μ' Ds a w:=by
  rintro X _ v μ' rfl a w ⟨h1,h2,h3⟩;refine⟨h1,fun t v' ht=>?_,h3⟩;refine h2 t v' ?_;simp only[look]at ht ⊢
  cases hp:Nat.beq p t with
  |true=>rw[hp]at ht;exact ht
  |false=>
   rw[hp]at ht;cases hb:Nat.beq s t with
   |true=>obtain rfl:=aKQ hb;rw[←ht,hs]
   |false=>exact ht
 subst ho;intro a w hh;cases b
 ·refine WL.append (hno rfl a w (hsub _ rfl a w hh)) ?_;rintro a w ⟨g,hI,h⟩;rw[←hXr g];exact k g hI a w (hback _ _ _ _ rfl a w h)
 ·refine WL.append (hyes rfl a w (hsub _ rfl a w hh)) ?_;rintro a w ⟨g,hI,h⟩;rw[←hXr g];exact k g hI a w (hback _ _ _ _ rfl a w h)

theorem JW{f:FuncId}{fn:Func}{c:Code}{args:List Value}{D:aA}{post:aA→Value→aC→Prop}(N:Nat)(hf:P.funcs[f]?= some fn)(hn:(fn.name== "runtime.NumGoroutine")=false)(hb:fn.body=some c)(hN:fn.ntmps=N)(hsz:Nat.ble args.length N=true)
  (h:∀h0:H0,WC P ⟨none,N,[],h0,h0.size,D,[],none⟩ (uR P fn (lW ⟨none,N,[],h0,h0.size,D,[],none⟩ post)) c (gJ 0 args) [] [D]):CN P f args.toArray D post:=by
 refine⟨EF.of hf hn hb,fun w hw=>?_⟩;subst hN;have hsz:=aLJ hsz;have hq:∀e a w',uR P fn (lW ⟨none,fn.ntmps,[],hd w,w.heap.size,D,[],none⟩ post) e a w'→bodyPostM (FW none) 0 P fn (lW ⟨none,fn.ntmps,[],hd w,w.heap.size,D,[],none⟩ post) e a w':=by
  intro e a w' he;cases e<;>first|exact he|exact he.elim
 have hwp:=h (hd w) {tmps:=args.toArray++Array.replicate (fn.ntmps-args.toArray.size) undef,defers:=[]} w ⟨by simp;omega,fun s v hs=>by
  obtain⟨_,h2⟩:=eL args 0 s v hs;have hl:=(aJK.1 h2).1;simp only[aML]at h2 hl;show(args.toArray++_)[s]?= some v;rw[aLX Yam];simpa using h2,rfl,D,⟨aJU _,aJU _,(fun _ _ _=>rfl),(fun _ _=>rfl),hw,(fun p hp=>by cases hp),aLI,(fun p hp=>by cases hp),fun e he=>aJZ he⟩,(fun D₁ h1=>by simp only[aJR]at h1;subst h1;exact Le.refl _),aOJ⟩
 refine(cS (r:=none) (n:=0)).1 ((callsIn_of_wp_marks hf hb aOJ (wpIn_mono hwp hq) rfl).mono ?_);rintro e w' ⟨v,D',μ',rfl,hs,hp⟩;exact⟨v,D',μ',rfl,hs,hp⟩
theorem I3{fn:Func}{bd:Nat}{post:aA→Value→aC→Prop}{e:Exit}(he:(match e with|.normal=>true|.ret=>true|_=>false)=true){rs:List ResultVar}{vs:List Value}{A B ν':aC}(hds:X.ds=[])(hr:fn.results=rs.toArray)(h:rW P X σ (A++ν'++B++[(bd,Obj.deferred none)]) rs vs)
  (hp:∀D,(∀D₁∈Ds,Le D₁ D)→post D (mX vs) ν'):∀a w,Hl (X.withDs bd) σ (A++ν'++B++[(bd,Obj.deferred (some []))]) Ds a w→uR P fn (lW X post) e a w:=by
 intro a w hh;obtain⟨h1,h2,h3,D,h4,h5,h6⟩:=hh;have hHas:bM (A++ν'++B++[(bd,Obj.deferred (some []))]) bd (.deferred (some [])) (.deferred none) (A++ν'++B++[(bd,Obj.deferred none)]):=.app .head;have hs:=h4.set (w':=w.putObj bd (.deferred none)) hHas ⟨rfl,rfl⟩ trivial;have hh':Hl X σ (A++ν'++B++[(bd,Obj.deferred none)]) Ds {a with defers:=[]} (w.putObj bd (.deferred none)):=
  ⟨h1,h2,hds.symm,D,hs,h5,h6.step (X:=X.withDs bd) (fun _ p hp=>aJQ Yq) (fun _=>gM ⟨rfl,rfl⟩ (aIY.2 ⟨_,hHas.mem,rfl⟩)) hs.dom⟩
 have hrun:=fZ hh' hr h;have hb:=(h4.box (bd,Obj.deferred (some [])) Ye).1;have hnd:=hs.nd;simp only[aJN]at hnd;have hs':fP X.h0 X.lo X.D0 X.mods ν' D (w.putObj bd (.deferred none)):=hs.sub (fun p hp=>aJG _ (aJG _ (aIZ _ hp))) (aJJ.1 (aJJ.1 (aJJ.1 hnd).1).1).2.1;have:LeavesInM (FW none) 0 P fn a.tmps (lW X post) a.defers .returning w:=by
  have h3':a.defers=[jQ bd]:=h3.trans (by show jQ bd::X.ds=_;rw[hds]);rw[h3'];exact⟨by simp,aJQ ⟨bd,_,rfl,run_takeDeferred hb,_,hrun,_,D,ν',rfl,hs',hp D h5⟩⟩
 cases e<;>first|exact this|cases he
end Go.Fs
namespace Go.Fs
open Go.Proofs
namespace L2
open L1
open C2
open C1 (fR cG pB nQ)
theorem UW{c pre:List Int}{n:Int}{i:Nat}(hl:pre.length=i)(hp:c.take (i+1)=pre++[n]):c[(i:Int).toNat]?= some n:=by
 have h:(c.take (i+1))[i]?= some n:=by rw[hp,←hl];simp
 rw[aMD (Nat.lt_succ_self i)]at h;exact h
theorem LO{step:Int}{c pre:List Int}{n:Int}{i:Nat}(hl:pre.length=i)(hp:c.take (i+1)=pre++[n])(hb:∀x∈pre,0≤x∧x≤99)(_h10:c.length=10)(hi:i<10):
  ∃m,(i≠0→c[((i:Int)-1).toNat]?= some m)∧(0≤m∧m≤99)∧(decide ((i:Int)=0)||fR (n-m) (-step) step)=jZ step pre.getLast? n:=by
 rcases List.eq_nil_or_concat pre with rfl|⟨q,m,rfl⟩
 ·refine⟨0,fun h=>absurd hl.symm h,by omega,?_⟩;simp only[aKZ]at hl;subst hl;simp[jZ]
 ·refine⟨m,fun _=>?_,hb m Ye,?_⟩
  ·have h:(c.take (i+1))[i-1]?= some m:=by
    rw[hp];simp only[List.concat_eq_append,aIX,aMM]at hl;rw[show i-1=q.length by omega];simp
   rw[aMD Yd]at h;rw[show((i:Int)-1).toNat=i-1 by omega];exact h
  ·have:(i:Int)≠0:=by
    simp only[List.concat_eq_append,aIX,aMM]at hl;omega
   unfold jZ;rw[decide_eq_false this,Bool.false_or];simp
theorem aGB{c pre:List Int}{i n:Nat}{k:Int}(h:c.length=10)(hi:i<n)(hn:n≤10)(hp:c.take i=pre)(hz:c.drop n=List.replicate (10-n) 0):(c.set i k).length=10∧(c.set i k).take (i+1)=pre++[k]∧(c.set i k).drop n=List.replicate (10-n) 0:=
 ⟨by simp[h],by rw[aJP,List.getElem?_set_self Yd,aLC,List.take_set_of_le (aJU _),hp],by rw[List.drop_set_of_lt hi];exact hz⟩
theorem C6(last step:Int)(hv lv mv:Value)(c pre:List Int)(n:Int)(i:Nat)(D:aA)(hs:0≤step∧step≤99)(h10:c.length=10)(hi9:i<10)(hl:pre.length=i)(hp:c.take (i+1)=pre++[n])(hb:∀x∈pre,0≤x∧x≤99)(hn:0≤n∧n≤99):
  Fn Tryz.prog 222 #[.agg #[.int .i64 last,hv,.int .i64 step,lv,mv],.agg (ints c).toArray,.int .i64 (i:Int)] D (fun _ v=>v=.bool (jZ step pre.getLast? n)):=by
 have hn0:=UW hl hp;obtain⟨m,hm0,hmb,hnr⟩:=LO (step:=step) hl hp hb h10 hi9;refine enter 25 Tryz.func222 rfl rfl rfl rfl fun h0=>C.s1<|Zw rfl (fun q1 E1 hE1 hB1=>Zw rfl (fun q2 E2 hE2 hB2=>Zh rfl<|L.n2<|C.drawA [] 6 19 64448 (fun _ _ _ h=>cA (P:=Tryz.prog) (fn:=Tryz.f222) _ _ _ h)<|Za rfl<|dJ rfl rfl rfl rfl trivial<|Za rfl ?_))
 refine' L.orK 15 (s:=9) (p:=24) rfl (fun hg1=>?_) (fun hg1=>?_) ?_;rotate_left
 ·have hi0:(i:Int)≠0:=by simpa using hg1
  have hm1:=hm0 Yd;refine Zb rfl<|dH rfl U282 Tf.s3 rfl rfl Yd Yd rfl ⟨_,rfl,rfl⟩<|gL rfl Tf.a3 rfl hB2 Ye (cD hn0) GT rfl ⟨_,rfl,rfl⟩<|Zb rfl<|fX rfl rfl rfl Yf rfl ⟨_,rfl,rfl⟩<|dH rfl U282 Tf.s3 rfl rfl Yd Yd rfl ⟨_,rfl,rfl⟩<|gL rfl Tf.a3 rfl hB2 Ye (cD hm1) GT rfl ⟨_,rfl,rfl⟩<|fX rfl rfl rfl Yf rfl ⟨_,rfl,rfl⟩<|Zj rfl Tf.f32_2 rfl<|Zg 2 rfl Tf.a3 rfl hB1 rfl<|aDE rfl rfl Yf rfl ⟨_,rfl,rfl⟩<|Zj rfl Tf.f32_2 rfl ?_;refine Zg 2 rfl Tf.a3 rfl hB1 rfl<|Ze rfl (fun D1 hD1=>dN _ _ _ _)<|Zad rfl ?_;exact L.cu 14
 ·refine Zk rfl<|Zk rfl<|Zk rfl<|Zk rfl<|Zk rfl<|Zk rfl<|Zk rfl<|Zk rfl<|Zk rfl<|Zk rfl<|Zk rfl<|Zk rfl ?_;refine Zk rfl<|Zk rfl<|Zac rfl ?_;exact L.cu 14
 refine Zh rfl<|L.n5 ?_;exact leave1 rfl rfl rfl rfl (fun D hD=>by show Value.bool _=_;rw[hnr])
def fS(br bY bc bh:Nat)(c:List Int):aC:=[(bh,.cells [.func (.func 221) #[] #[.pointer (some ⟨br,0,none⟩),.pointer (some ⟨bY,0,none⟩),.pointer (some ⟨bc,0,none⟩),.pointer (some ⟨bh,0,none⟩)]].toArray 191 (0,0)),(bc,.cells (ints c).toArray 282 (0,0))]
def xB(J Jx:List (List Int)→oK)(br bY bc bh:Nat)(step:Int)(hs:List (Int×Int))(pre:List Int)(i:Nat)(done:List (List Int))(v:Value)(J':oK)(μ':aC):Prop:=
 ∃b c',v=.bool b∧c'.length=10∧c'.take i=pre∧c'.drop hs.length=List.replicate (10-hs.length) 0∧μ'=fS br bY bc bh c'∧(if b=true then J'=J (done++(gI step (hs.drop i) pre.getLast?).map fun t=>cO (pre++t))else ∃p,J'=Jx p)
theorem qE{lo l:Nat}{J Jx:List (List Int)→oK}{t:aZ}{xs:List (List Int)}{Dr Dy:aA}{Ds:List aA}{br bY bc bh:Nat}{hv lv mv:Value}(hto:x9 t)
  (hs:∀pre,vE lo (J pre)) (hsx:∀pre,vE lo (Jx pre)) (hY:KL Tryz.prog Dr lo l J Jx xs) (hDr:Dr∈Ds) (hDy:Dy∈Ds) (hA:At Dr br 0 [.int .i64 t.last,hv,.int .i64 t.step,lv,mv]) (hpl:Sl Dr E0 2 hv t.heights) (hB:At Dy bY 0 [.func (.yield l) #[] #[]]):
  ∀(j i:Nat) (pre c:List Int) (done rest:List (List Int)) (iv:Int),iv=i→i+j=t.heights.length→pre.length=i→c.length=10→c.take i=pre→c.drop t.heights.length=List.replicate (10-t.heights.length) 0→(∀x∈pre,0≤x∧x≤99)→
   xs=done++(gI t.step (t.heights.drop i) pre.getLast?).map (fun t=>cO (pre++t))++rest→
   aGP Tryz.prog 221 [.int .i64 iv,.pointer (some ⟨br,0,none⟩),.pointer (some ⟨bY,0,none⟩),.pointer (some ⟨bc,0,none⟩),.pointer (some ⟨bh,0,none⟩)] lo (J done) (fS br bY bc bh c) Ds (xB J Jx br bY bc bh t.step t.heights pre i done):=by
 intro j;induction j using Nat.strongRecOn with
 |_ j ih=>
 intro i pre c done rest iv hiv hij hl h9 hp hz hpb hxs;subst hiv;have hmx:=hpl.len;have hlast:=hto.last;have hlen:=hto.len;have hn9:=hto.len10;refine wG (μ:=fS br bY bc bh c) 46 Tryz.func221 rfl rfl rfl rfl<|C.s1<|Zh rfl<|L.n4<|Za rfl<|Zi rfl Tf.f32_0 rfl<|Zf 0 rfl Tf.a3 rfl hA rfl<|eB rfl rfl rfl rfl trivial<|L.n1<|aE rfl (fun hc1=>?_) (fun hc1=>?_)
 ·have hin:i=t.heights.length:=by omega
  subst hin;have hleaf:=(FB (l:=pre) (by rw[hl];exact hp) (by rw[hl];exact hz))
  rw[List.drop_length]at hxs;simp only[gI,aJY,aNC,aJF]at hxs;rw[hleaf,aJL,aMU]at hxs;refine C.s1<|Zf 0 rfl Tf.a352 rfl hB rfl<|bJ rfl Tf.a282 rfl (List.Mem.tail _ (List.Mem.head _)) Yw GT rfl trivial<|R1 (l:=l) (J1:=J (done++[c])) (J0:=Jx (done++[c])) rfl rfl rfl rfl (hs _) (hsx _) (fun D w hd hJ hb hl=>hY done c _ D w ⟨rest,hxs⟩ hd hJ (fun b hbm=>by obtain⟨p,hp,rfl⟩:=aIY.1 hbm;exact hb p hp) (hl _ hDr)) rfl aOJ (fun b1 J1 hJ1=>Zh rfl<|L.n5<|Zai ?_)
  exact hZ (P:=Tryz.prog) (fn:=Tryz.f221) (N:=46) (vs:=[_]) rfl rfl ⟨rfl,aOJ⟩ (fun D h=>⟨D,h,Le.refl D⟩) ⟨b1,c,rfl,h9,hp,hz,rfl,by cases b1<;>simp only[hJ1,aLH,aKI,aLR];exact⟨_,rfl⟩;simp[gI,hleaf]⟩
 ·have hin:i<t.heights.length:=by omega
  obtain⟨r,hri⟩:=C.ge t.heights i;have hrb:=hto.hts r (aJA hri);have hrg:=nA hrb;have hsz:eX r=r.2-r.1+1:=rfl;have hd:t.heights.drop i=r::t.heights.drop (i+1):=by rw[aLL hin];congr 1;exact aJZ ((aJC hin).symm.trans hri)
  rw[hd,←KC]at hxs;refine C.kn<|C.s2<|Zi rfl Tf.f32_1 rfl<|Zf 1 rfl Tf.a29 rfl hA rfl<|Za rfl<|Zs rfl U29 Tf.s99 rfl hpl rfl hri (fun b1 o1 cs1 hr1 hcl1 hA1=>?_);obtain rfl:cs1=[.int .i64 _,.int .i64 _]:=hr1;refine Zr rfl Tf.a99 rfl hA1 Tf.s99<|Zd rfl (fun D1 hD1=>IG r hrb _)<|Za rfl<|L.n1<|Zaj<|xU (γ:=Nat×List Int) (fun g=>(eX r).toNat-g.1) (fun g=>g.1≤(eX r).toNat∧g.2.length=10∧g.2.take i=pre∧g.2.drop t.heights.length=List.replicate (10-t.heights.length) 0) (fun g=>J (done++DV t.step (t.heights.drop (i+1)) pre r g.1)) (fun g=>[(21,.int .i64 (g.1:Int))]) [(20,_),(6,_),(0,_),(1,_),(3,_),(4,_)] (fun g=>fS br bY bc bh g.2) (fun g=>Ds) (0,c) ⟨by simp,h9,hp,hz⟩ (by simp[YM]) ⟨Yb,aOJ⟩ C.rs (LE _) (aD) ?_;rintro⟨k,c1⟩ ⟨h11,h91,hp1,hz1⟩;simp only at h11 h91 hp1 hz1;refine C.s1<|Zae rfl<|L.n2<|aE rfl (fun hc2=>?_) (fun hc2=>?_)
  ·obtain⟨rr,hr⟩:=VW (step:=t.step) (rs:=t.heights.drop (i+1)) (pre:=pre) (r:=r) (k:=k) (n:=(eX r).toNat) Yd;have hset:=aGB (k:=r.1+(k:Int)) h91 hin hn9 hp1 hz1;have h9s:(c1.set ((i:Int)).toNat (r.1+(k:Int))).length=10:=hset.1;have hpn:∀x∈pre++[r.1+(k:Int)],0≤x∧x≤99:=fun x hx=>by rcases aJO.1 hx with hx|hx;exact hpb x hx;simp only[aJR]at hx;omega
   refine C.kn<|aM<|Zaj<|C.s1<|Za rfl<|Zh rfl<|L.n3<|Za rfl<|Zi rfl Tf.f32_1 rfl<|Zf 1 rfl Tf.a29 rfl hA rfl<|Za rfl<|Zs rfl U29 Tf.s99 rfl hpl rfl hri (fun b2 o2 cs2 hr2 hcl2 hA2=>?_);obtain rfl:cs2=[.int .i64 _,.int .i64 _]:=hr2;refine Zi rfl Tf.f99_0 rfl<|Zf 0 rfl Tf.a3 rfl hA2 rfl<|Za rfl<|Zy rfl<|dH rfl U282 Tf.s3 rfl rfl Yd Yd rfl trivial<|O9 rfl Tf.s3 rfl rfl (.tail (bM.head)) (by simp only[*];omega) trivial<|L.n3<|Zr rfl Tf.a32 rfl hA Tf.s32<|bJ rfl Tf.a282 rfl (List.Mem.tail _ (List.Mem.head _)) Yw GT rfl trivial<|Za rfl<|Zd rfl (fun D2 hD2=>C6 t.last t.step hv lv mv (c1.set i (r.1+(k:Int))) pre (r.1+(k:Int)) i _ hto.step hset.1 Yd hl hset.2.1 hpb Yd)<|Za rfl ?_;refine aEZ (γ:=Bool×List Int×oK) (fun g=>g.2.1.length=10∧g.2.1.take (i+1)=pre++[r.1+(k:Int)]∧g.2.1.drop t.heights.length=List.replicate (10-t.heights.length) 0∧(if g.1=true then ∃p,g.2.2=Jx p else g.2.2=J (done++DV t.step (t.heights.drop (i+1)) pre r (k+1)))) (fun g=>g.1) (fun g=>Xj 46 lo g.2.2) (fun g=>fS br bY bc bh g.2.1) [(false,5),(false,6),(false,7),(false,8),(false,9),(false,10)] [] (s:=38) (p:=44) (fun _=>rfl) rfl rfl (fun hg1=>?_) (fun hg1=>?_) ?_
   ·have hnear:jZ t.step pre.getLast? (r.1+(k:Int))=true:=by simpa using hg1
    refine aS rfl Tf.a191 rfl (GE _) rfl GT rfl ⟨_,rfl,rfl⟩<|Zb rfl<|yF rfl rfl rfl Yf rfl ⟨_,rfl,rfl⟩<|oN rfl rfl rfl rfl (ih (j-1) Yd (i+1) (pre++[r.1+(k:Int)]) (c1.set i (r.1+(k:Int))) (done++DV t.step (t.heights.drop (i+1)) pre r k) (rr++rest) (i+1:Int) Yd Yd Yaf (by simpa using h91) hset.2.1 hset.2.2 hpn (by rw[hxs,hr,JY hnear];simp)) rfl ⟨_,rfl,rfl⟩ ?_;rintro _ J2 _ ⟨b2,c2,rfl,h9',hp',hz',rfl,hJ2⟩;refine jU rfl rfl rfl ⟨_,rfl,rfl⟩<|Zac rfl ?_;exact A8 fun a w hh=>⟨(!b2,c2,J2),⟨h9',hp',hz',by cases b2<;>simp only[aOF,aOA,aLH,aKI,aLR]at hJ2 ⊢;exact hJ2;rw[hJ2,JY hnear,aJL]⟩,hh.cutK 5 rfl⟩
   ·refine Zk rfl<|Zk rfl<|Zk rfl<|Zk rfl<|Zk rfl<|Zad rfl ?_;exact A8 fun a w hh=>⟨(false,c1.set i (r.1+(k:Int)),J (done++DV t.step (t.heights.drop (i+1)) pre r k)),⟨hset.1,hset.2.1,hset.2.2,by simp only[aKI,aLR];rw[aEM (by simpa using hg1)]⟩,hh.cutK 5 rfl⟩
   rintro⟨b3,c3,J3⟩ ⟨h93,hp3,hz3,hJ3⟩;simp only at h93 hp3 hz3 hJ3;refine L.n1<|aJ rfl (fun hc3=>?_) (fun hc3=>?_)
   ·obtain rfl:b3=true:=by simpa using hc3
    refine C.s1<|Zh rfl<|L.n5<|Zam<|Zai<|Zai<|Zam<|Zai ?_;exact hZ (P:=Tryz.prog) (fn:=Tryz.f221) (N:=46) (vs:=[_]) rfl rfl ⟨rfl,aOJ⟩ (fun D h=>⟨D,h,Le.refl D⟩) ⟨false,c3,rfl,h93,L1.oD hp3 hl,hz3,rfl,by simpa using hJ3⟩
   ·obtain rfl:b3=false:=by simpa using hc3
    refine bQ<|Zal<|Zah<|C.rg<|Zy rfl<|Za rfl<|Zab ?_;exact mG 22 (k+1,c3) ⟨by simp only;omega,h93,L1.oD hp3 hl,hz3⟩ Yl (by simpa using hJ3) ⟨Yb,aOJ⟩ rfl rfl (LE _) (aD)
  ·refine aQ<|Zak<|Zak<|Zan<|Zah<|C.s1<|Zh rfl<|L.n5 ?_;exact hZ (P:=Tryz.prog) (fn:=Tryz.f221) (N:=46) (vs:=[_]) rfl rfl ⟨rfl,aOJ⟩ (fun D h=>⟨D,h,Le.refl D⟩) ⟨true,c1,rfl,h91,hp1,hz1,rfl,by simp only[aLH];rw[hd,←KC,show k=(eX r).toNat by omega]⟩
theorem PG(t:aZ)(Dr:aA)(br:Nat)(hv lv mv:Value)(hto:x9 t)(hA:At Dr br 0 [.int .i64 t.last,hv,.int .i64 t.step,lv,mv])(hpl:Sl Dr E0 2 hv t.heights):
  tK Tryz.prog 220 [.pointer (some ⟨br,0,none⟩)] Dr ((fG t).map cO) l4:=by
 refine yL 8 Tryz.func220 rfl rfl rfl rfl (fun lo l J Jx hs hsx hY=>C.s1<|Zw rfl (fun q1 E1 hE1 hB1=>L.n3<|Zx rfl Tf.z282 rfl (fun q2=>L.n3<|Zx rfl Tf.z191 rfl (fun q3=>L.n3<|bB rfl rfl rfl rfl trivial<|Zn rfl Tf.s191 (bM.head) rfl<|L.n1<|C.rg ?_))));refine Zl rfl Tf.a191 rfl (List.Mem.head _) rfl<|oN rfl rfl rfl rfl (qE (l:=l) hto hs hsx hY Ye Ye hA hpl hB1 t.heights.length 0 [] (List.replicate 10 0) [] [] 0 rfl Yd rfl rfl rfl (List.drop_replicate ..) (fun x hx=>by cases hx) (by simp[fG])) rfl aOJ ?_;rintro _ J2 _ ⟨b2,c2,rfl,h9',hp',hz',rfl,hJ2⟩;refine Zab ?_;exact hZ (P:=Tryz.prog) (fn:=Tryz.f220) (N:=8) (vs:=[]) rfl rfl aOJ (fun D h=>⟨D,by simp only[aJR]at h;subst h;simp,Le.refl D⟩) (by cases b2<;>simp[fG]at hJ2 ⊢;exact aJE hJ2;exact aJQ hJ2)
theorem AM(tv:Value)(t:aZ)(D:aA)(ht:gT D tv t)(hto:x9 t):
  Fn Tryz.prog 138 #[tv] D (fun D' v=>∃br,v=.func (.func 220) #[] #[.pointer (some ⟨br,0,none⟩)]∧tK Tryz.prog 220 [.pointer (some ⟨br,0,none⟩)] D' ((fG t).map cO) l4):=by
 obtain⟨hv,lv,mv,rfl,hh,hl,hm⟩:=ht;refine enter 4 Tryz.func138 rfl rfl rfl rfl fun h0=>C.s1<|Zw rfl (fun q1 E1 hE1 hB1=>Zh rfl<|L.n3<|bB rfl rfl rfl rfl trivial<|Zh rfl<|L.n5 ?_)
 exact leave1 rfl rfl rfl rfl (fun D hD=>⟨_,rfl,PG t _ q1 hv lv mv hto (hB1.up (hD _ Ye)) (hh.up E0.up (hD _ Ye))⟩)
end L2
end Go.Fs
namespace Go.Fs
open Go.Proofs
namespace L7
open C7
theorem hU{α:Type}{p:α→Bool}{xs:List α}{k:Nat}{x:α}(hx:xs[k]?= some x)(h:(xs.take k).any p=false)(hp:p x=true):idxOf p xs=k:=by
 have hk:=(aJK.1 hx).1;have he:=(aJK.1 hx).2;have h1:xs.any p=true:=aOH.2 ⟨x,aJA hx,hp⟩;have h2:xs.findIdx p=k:=by
  rw[List.findIdx_eq hk];refine⟨by rw[he];exact hp,fun j hj=>?_⟩
  have:=List.any_eq_false.1 h (xs[j]'Yd) (by
   rw[List.mem_take_iff_getElem];exact⟨j,by omega,rfl⟩)
  simpa using this
 simp[idxOf,h1,h2]
theorem eW{α:Type}{p:α→Bool}{xs:List α}(h:xs.any p=false):idxOf p xs= -1:=by simp[idxOf,h]
theorem hC{α:Type}{p:α→Bool}{xs:List α}:decide (0≤idxOf p xs)=xs.any p:=by
 unfold idxOf;cases h:xs.any p<;>simp
theorem kH{α:Type}{p:α→Bool}{xs:List α}:(!xs.any fun x=> !p x)=xs.all p:=by
 rw[List.all_eq_not_any_not]
theorem dN(n lo hi:Int)(D:aA):Fn Tryz.prog 157 #[.int .i64 n,.int .i64 lo,.int .i64 hi] D (fun _ v=>v=.bool (fR n lo hi)):=by
 refine enter 15 Tryz.func157 rfl rfl rfl rfl fun h0=>C.s1<|Zh rfl<|L.n3<|Za rfl<|Za rfl<|iJ rfl rfl rfl rfl trivial<|Za rfl ?_
 refine' L.anK 4 (s:=10) (p:=14) rfl (fun hg1=>?_) (fun hg1=>?_) ?_;rotate_left
 ·refine Zb rfl<|Zb rfl<|iJ rfl rfl rfl rfl ⟨_,rfl,rfl⟩<|Zac rfl ?_;exact L.cu 3
 ·refine Zk rfl<|Zk rfl<|Zk rfl<|Zad rfl ?_;exact L.cu 3
 refine Zh rfl<|L.n5 ?_;exact leave1 rfl rfl rfl rfl (fun D hD=>rfl)
theorem pA(sv fv:Value)(xs:List Int)(p:Int→Bool)(D:aA)(hS:Sl D RI 1 sv xs)(hp:cF Tryz.prog D iV fv p):
  Fn Tryz.prog 271 #[sv,fv] D (fun _ v=>v=.int .i64 (idxOf p xs)):=by
 have hl:=hS.len;obtain⟨f,c1,c2,rfl,hf⟩:=hp;refine enter 19 Tryz.func271 rfl rfl rfl rfl fun h0=>C.s1<|Zh rfl<|L.n4<|Za rfl<|aR rfl U25 rfl Yk rfl rfl trivial<|Za rfl<|L.n1<|Zaj<|cJ (γ:=Nat) (fun k=>xs.length-k) (fun k=>k≤xs.length∧(xs.take k).any p=false) (fun k=>[(8,.int .i64 k)]) [(7,_),(4,_),(0,_),(1,_)] (fun k=>[D]) 0 Ye ⟨Yb,aOJ⟩ C.rs (aD) ?_
 rintro k ⟨h1,h2⟩;refine C.s1<|Zae rfl<|L.n2<|aE rfl (fun hc1=>?_) (fun hc1=>?_)
 ·have hk:k<xs.length:=by omega
  obtain⟨x,hx⟩:=C.ge xs k;refine C.kn<|aM<|Zaj<|C.s1<|Za rfl<|Zh rfl<|L.n3<|Za rfl<|Za rfl<|Za rfl<|cU rfl U25 Tf.s3 rfl Yk rfl Yd Yk rfl aOJ (fun b1 o1 cs1 hr1 hcl1 hA1=>?_);obtain rfl:cs1=[.int .i64 _]:=hr1;refine Zf 0 rfl Tf.a3 rfl hA1 rfl<|Zd rfl (fun D1 hD1=>hf x _ (hD1 _ Ye))<|L.n1<|aJ rfl (fun hc2=>?_) (fun hc2=>?_)
  ·refine C.s1<|Za rfl<|Zh rfl<|L.n5<|Zam<|Zai<|Zai<|Zam<|Zai ?_;exact leave1 rfl rfl rfl rfl (fun D hD=>by show Value.int _ _=_;rw[hU hx h2 hc2])
  ·refine bQ<|Zal<|Zah<|C.rg<|Zy rfl<|Za rfl<|Zab ?_;have hpx:p x=false:=hc2;have h3:(xs.take (k+1)).any p=false:=by rw[aJP,hx,aMT,h2];simp[hpx]
   exact aG 12 (k+1) ⟨by omega,h3⟩ Yd ⟨Yb,aOJ⟩ rfl rfl (LE _) (aD)
 ·refine aQ<|Zak<|Zak<|Zan<|Zah<|C.s1<|Zh rfl<|L.n5 ?_;exact leave1 rfl rfl rfl rfl (fun D hD=>by show Value.int _ _=_;rw[eW Yab])
theorem jI(sv fv:Value)(xs:List Int)(p:Int→Bool)(D:aA)(hS:Sl D RI 1 sv xs)(hp:cF Tryz.prog D iV fv p):
  Fn Tryz.prog 206 #[sv,fv] D (fun _ v=>v=.bool (xs.any p)):=by
 refine enter 9 Tryz.func206 rfl rfl rfl rfl fun h0=>C.s1<|Zh rfl<|L.n3<|Za rfl<|Za rfl<|Zd rfl (fun D1 hD1=>pA _ _ xs p _ (Sl.at RI.up hD1 Yk Ye) (hp.up (hD1 _ Ye)))<|nS rfl rfl rfl rfl trivial<|Zh rfl<|L.n5 ?_
 exact leave1 rfl rfl rfl rfl (fun D hD=>by show Value.bool (decide _)=_;rw[hC])
theorem sZ(b:Nat)(fv:Value)(p:Int→Bool)(x:Int)(D:aA)(hp:cF Tryz.prog D iV fv p)(hB:At D b 0 [fv]):
  Fn Tryz.prog 300 #[iV x,.pointer (some ⟨b,0,none⟩)] D (fun _ v=>v=.bool (!p x)):=by
 obtain⟨f,c1,c2,rfl,hf⟩:=hp;refine enter 8 Tryz.func300 rfl rfl rfl rfl fun h0=>C.s1<|Zh rfl<|L.n3<|Zf 0 rfl Tf.a191 rfl hB rfl<|Za rfl<|Zd rfl (fun D1 hD1=>hf x _ (hD1 _ Ye))<|Zag rfl<|Zh rfl<|L.n5 ?_
 exact leave1 rfl rfl rfl rfl (fun D hD=>rfl)
theorem wN(sv fv:Value)(xs:List Int)(p:Int→Bool)(D:aA)(hS:Sl D RI 1 sv xs)(hp:cF Tryz.prog D iV fv p)(h1:fv.cells=#[fv]):
  Fn Tryz.prog 283 #[sv,fv] D (fun _ v=>v=.bool (xs.all p)):=by
 refine enter 9 Tryz.func283 rfl rfl rfl rfl fun h0=>C.s1<|mU (vs:=[fv]) rfl rfl h1 rfl aOJ (fun b D1 hD1 hB=>Zh rfl<|L.n3<|Za rfl<|bB rfl rfl rfl rfl trivial<|Zd rfl (fun D1 hD1=>jI _ _ xs (fun x=> !p x) _ (Sl.at RI.up hD1 Yk Ye) ⟨_,[],[.pointer (some ⟨b,0,none⟩)],rfl,fun x D2 hl=>sZ b fv p x D2 (hp.up ((hD1 _ Ye).trans hl)) (hB.up ((hD1 _ Ye).trans hl))⟩)<|Zag rfl<|Zh rfl<|L.n5 ?_)
 exact leave1 rfl rfl rfl rfl (fun D hD=>by show Value.bool (!_)=_;rw[kH])
theorem oY(sv fv:Value)(xs:List Ch)(p:Ch→Bool)(D:aA)(hS:Sl D rP 4 sv xs)(hp:cF Tryz.prog D aGS fv p):
  Fn Tryz.prog 282 #[sv,fv] D (fun _ v=>v=.int .i64 (idxOf p xs)):=by
 have hl:=hS.len;obtain⟨f,c1,c2,rfl,hf⟩:=hp;refine enter 19 Tryz.func282 rfl rfl rfl rfl fun h0=>C.s1<|Zh rfl<|L.n4<|Za rfl<|aR rfl U37 rfl Yk rfl rfl trivial<|Za rfl<|L.n1<|Zaj<|cJ (γ:=Nat) (fun k=>xs.length-k) (fun k=>k≤xs.length∧(xs.take k).any p=false) (fun k=>[(8,.int .i64 k)]) [(7,_),(4,_),(0,_),(1,_)] (fun k=>[D]) 0 Ye ⟨Yb,aOJ⟩ C.rs (aD) ?_
 rintro k ⟨h1,h2⟩;refine C.s1<|Zae rfl<|L.n2<|aE rfl (fun hc1=>?_) (fun hc1=>?_)
 ·have hk:k<xs.length:=by omega
  obtain⟨x,hx⟩:=C.ge xs k;refine C.kn<|aM<|Zaj<|C.s1<|Za rfl<|Zh rfl<|L.n3<|Za rfl<|Za rfl<|Za rfl<|cU rfl U37 Tf.s103 rfl Yk rfl Yd Yk rfl aOJ (fun b1 o1 cs1 hr1 hcl1 hA1=>?_);obtain rfl:cs1=[.int .i64 _,.int .i64 _,.int .i64 _,.int .i64 _]:=hr1;refine Zr rfl Tf.a103 rfl hA1 Tf.s103<|Zd rfl (fun D1 hD1=>hf x _ (hD1 _ Ye))<|L.n1<|aJ rfl (fun hc2=>?_) (fun hc2=>?_)
  ·refine C.s1<|Za rfl<|Zh rfl<|L.n5<|Zam<|Zai<|Zai<|Zam<|Zai ?_;exact leave1 rfl rfl rfl rfl (fun D hD=>by show Value.int _ _=_;rw[hU hx h2 hc2])
  ·refine bQ<|Zal<|Zah<|C.rg<|Zy rfl<|Za rfl<|Zab ?_;have hpx:p x=false:=hc2;have h3:(xs.take (k+1)).any p=false:=by rw[aJP,hx,aMT,h2];simp[hpx]
   exact aG 12 (k+1) ⟨by omega,h3⟩ Yd ⟨Yb,aOJ⟩ rfl rfl (LE _) (aD)
 ·refine aQ<|Zak<|Zak<|Zan<|Zah<|C.s1<|Zh rfl<|L.n5 ?_;exact leave1 rfl rfl rfl rfl (fun D hD=>by show Value.int _ _=_;rw[eW Yab])
theorem lY(sv fv:Value)(xs:List Ch)(p:Ch→Bool)(D:aA)(hS:Sl D rP 4 sv xs)(hp:cF Tryz.prog D aGS fv p):
  Fn Tryz.prog 236 #[sv,fv] D (fun _ v=>v=.bool (xs.any p)):=by
 refine enter 9 Tryz.func236 rfl rfl rfl rfl fun h0=>C.s1<|Zh rfl<|L.n3<|Za rfl<|Za rfl<|Zd rfl (fun D1 hD1=>oY _ _ xs p _ (Sl.at rP.up hD1 Yk Ye) (hp.up (hD1 _ Ye)))<|nS rfl rfl rfl rfl trivial<|Zh rfl<|L.n5 ?_
 exact leave1 rfl rfl rfl rfl (fun D hD=>by show Value.bool (decide _)=_;rw[hC])
theorem I7(b:Nat)(fv:Value)(p:Ch→Bool)(x:Ch)(D:aA)(hp:cF Tryz.prog D aGS fv p)(hB:At D b 0 [fv]):
  Fn Tryz.prog 237 #[aGS x,.pointer (some ⟨b,0,none⟩)] D (fun _ v=>v=.bool (!p x)):=by
 obtain⟨f,c1,c2,rfl,hf⟩:=hp;refine enter 8 Tryz.func237 rfl rfl rfl rfl fun h0=>C.s1<|Zw rfl (fun q1 E1 hE1 hB1=>Zh rfl<|L.n3<|Zf 0 rfl Tf.a307 rfl hB rfl<|Zr rfl Tf.a103 rfl hB1 Tf.s103<|Zd rfl (fun D1 hD1=>hf x _ (hD1 _ Ye))<|Zag rfl<|Zh rfl<|L.n5 ?_)
 exact leave1 rfl rfl rfl rfl (fun D hD=>rfl)
theorem g9(sv fv:Value)(xs:List Ch)(p:Ch→Bool)(D:aA)(hS:Sl D rP 4 sv xs)(hp:cF Tryz.prog D aGS fv p)(h1:fv.cells=#[fv]):
  Fn Tryz.prog 158 #[sv,fv] D (fun _ v=>v=.bool (xs.all p)):=by
 refine enter 9 Tryz.func158 rfl rfl rfl rfl fun h0=>C.s1<|mU (vs:=[fv]) rfl rfl h1 rfl aOJ (fun b D1 hD1 hB=>Zh rfl<|L.n3<|Za rfl<|bB rfl rfl rfl rfl trivial<|Zd rfl (fun D1 hD1=>lY _ _ xs (fun x=> !p x) _ (Sl.at rP.up hD1 Yk Ye) ⟨_,[],[.pointer (some ⟨b,0,none⟩)],rfl,fun x D2 hl=>I7 b fv p x D2 (hp.up ((hD1 _ Ye).trans hl)) (hB.up ((hD1 _ Ye).trans hl))⟩)<|Zag rfl<|Zh rfl<|L.n5 ?_)
 exact leave1 rfl rfl rfl rfl (fun D hD=>by show Value.bool (!_)=_;rw[kH])
theorem pE(sv fv:Value)(xs:List (Int×Int))(p:(Int×Int)→Bool)(D:aA)(hS:Sl D R2 2 sv xs)(hp:cF Tryz.prog D iU fv p):
  Fn Tryz.prog 285 #[sv,fv] D (fun _ v=>v=.int .i64 (idxOf p xs)):=by
 have hl:=hS.len;obtain⟨f,c1,c2,rfl,hf⟩:=hp;refine enter 19 Tryz.func285 rfl rfl rfl rfl fun h0=>C.s1<|Zh rfl<|L.n4<|Za rfl<|aR rfl U38 rfl Yk rfl rfl trivial<|Za rfl<|L.n1<|Zaj<|cJ (γ:=Nat) (fun k=>xs.length-k) (fun k=>k≤xs.length∧(xs.take k).any p=false) (fun k=>[(8,.int .i64 k)]) [(7,_),(4,_),(0,_),(1,_)] (fun k=>[D]) 0 Ye ⟨Yb,aOJ⟩ C.rs (aD) ?_
 rintro k ⟨h1,h2⟩;refine C.s1<|Zae rfl<|L.n2<|aE rfl (fun hc1=>?_) (fun hc1=>?_)
 ·have hk:k<xs.length:=by omega
  obtain⟨x,hx⟩:=C.ge xs k;refine C.kn<|aM<|Zaj<|C.s1<|Za rfl<|Zh rfl<|L.n3<|Za rfl<|Za rfl<|Za rfl<|cU rfl U38 Tf.s133 rfl Yk rfl Yd Yk rfl aOJ (fun b1 o1 cs1 hr1 hcl1 hA1=>?_);obtain rfl:cs1=[.int .i64 _,.int .i64 _]:=hr1;refine Zr rfl Tf.a133 rfl hA1 Tf.s133<|Zd rfl (fun D1 hD1=>hf x _ (hD1 _ Ye))<|L.n1<|aJ rfl (fun hc2=>?_) (fun hc2=>?_)
  ·refine C.s1<|Za rfl<|Zh rfl<|L.n5<|Zam<|Zai<|Zai<|Zam<|Zai ?_;exact leave1 rfl rfl rfl rfl (fun D hD=>by show Value.int _ _=_;rw[hU hx h2 hc2])
  ·refine bQ<|Zal<|Zah<|C.rg<|Zy rfl<|Za rfl<|Zab ?_;have hpx:p x=false:=hc2;have h3:(xs.take (k+1)).any p=false:=by rw[aJP,hx,aMT,h2];simp[hpx]
   exact aG 12 (k+1) ⟨by omega,h3⟩ Yd ⟨Yb,aOJ⟩ rfl rfl (LE _) (aD)
 ·refine aQ<|Zak<|Zak<|Zan<|Zah<|C.s1<|Zh rfl<|L.n5 ?_;exact leave1 rfl rfl rfl rfl (fun D hD=>by show Value.int _ _=_;rw[eW Yab])
theorem lT(sv fv:Value)(xs:List (Int×Int))(p:(Int×Int)→Bool)(D:aA)(hS:Sl D R2 2 sv xs)(hp:cF Tryz.prog D iU fv p):
  Fn Tryz.prog 239 #[sv,fv] D (fun _ v=>v=.bool (xs.any p)):=by
 refine enter 9 Tryz.func239 rfl rfl rfl rfl fun h0=>C.s1<|Zh rfl<|L.n3<|Za rfl<|Za rfl<|Zd rfl (fun D1 hD1=>pE _ _ xs p _ (Sl.at R2.up hD1 Yk Ye) (hp.up (hD1 _ Ye)))<|nS rfl rfl rfl rfl trivial<|Zh rfl<|L.n5 ?_
 exact leave1 rfl rfl rfl rfl (fun D hD=>by show Value.bool (decide _)=_;rw[hC])
theorem R7(b:Nat)(fv:Value)(p:(Int×Int)→Bool)(x:(Int×Int))(D:aA)(hp:cF Tryz.prog D iU fv p)(hB:At D b 0 [fv]):
  Fn Tryz.prog 240 #[iU x,.pointer (some ⟨b,0,none⟩)] D (fun _ v=>v=.bool (!p x)):=by
 obtain⟨f,c1,c2,rfl,hf⟩:=hp;refine enter 8 Tryz.func240 rfl rfl rfl rfl fun h0=>C.s1<|Zw rfl (fun q1 E1 hE1 hB1=>Zh rfl<|L.n3<|Zf 0 rfl Tf.a305 rfl hB rfl<|Zr rfl Tf.a133 rfl hB1 Tf.s133<|Zd rfl (fun D1 hD1=>hf x _ (hD1 _ Ye))<|Zag rfl<|Zh rfl<|L.n5 ?_)
 exact leave1 rfl rfl rfl rfl (fun D hD=>rfl)
theorem p5(sv fv:Value)(xs:List (Int×Int))(p:(Int×Int)→Bool)(D:aA)(hS:Sl D R2 2 sv xs)(hp:cF Tryz.prog D iU fv p)(h1:fv.cells=#[fv]):
  Fn Tryz.prog 160 #[sv,fv] D (fun _ v=>v=.bool (xs.all p)):=by
 refine enter 9 Tryz.func160 rfl rfl rfl rfl fun h0=>C.s1<|mU (vs:=[fv]) rfl rfl h1 rfl aOJ (fun b D1 hD1 hB=>Zh rfl<|L.n3<|Za rfl<|bB rfl rfl rfl rfl trivial<|Zd rfl (fun D1 hD1=>lT _ _ xs (fun x=> !p x) _ (Sl.at R2.up hD1 Yk Ye) ⟨_,[],[.pointer (some ⟨b,0,none⟩)],rfl,fun x D2 hl=>R7 b fv p x D2 (hp.up ((hD1 _ Ye).trans hl)) (hB.up ((hD1 _ Ye).trans hl))⟩)<|Zag rfl<|Zh rfl<|L.n5 ?_)
 exact leave1 rfl rfl rfl rfl (fun D hD=>by show Value.bool (!_)=_;rw[kH])
theorem S1(sv:Value)(x:Int)(xs:List Int)(D:aA)(hS:Sl D RI 1 sv (x::xs)):
  Fn Tryz.prog 211 #[sv] D (fun _ v=>v=.int .i64 (xs.foldl min x)):=by
 have hl:=hS.len;simp only[aJD]at hl;refine enter 25 Tryz.func211 rfl rfl rfl rfl fun h0=>C.s1<|Zh rfl<|L.n4<|Za rfl<|aR rfl U25 rfl Yk rfl rfl trivial<|Zae rfl<|L.n1<|aE rfl (fun hc1=>?_) (fun hc1=>?_)
 ·exact absurd hc1 (by simp only[aJD];omega)
 ·refine C.kn<|C.s1<|Za rfl<|cU rfl U25 Tf.s3 rfl Yk rfl Yd (by rfl) rfl aOJ (fun b1 o1 cs1 hr1 hcl1 hA1=>?_);obtain rfl:cs1=[.int .i64 _]:=hr1;refine Zf 0 rfl Tf.a3 rfl hA1 rfl<|Zh rfl<|L.n4<|Zh rfl<|L.n1<|Zaj<|cJ (γ:=Nat) (fun k=>xs.length-k) (fun k=>k≤xs.length) (fun k=>[(3,.int .i64 ((xs.take k).foldl min x)),(4,.int .i64 (k+1:Int))]) [(2,_),(0,_)] (fun k=>[D]) 0 Yd ⟨Yb,Yb,aOJ⟩ C.rs (aD) ?_;rintro k h1;refine C.s2<|Za rfl<|Za rfl<|aR rfl U25 rfl Yk rfl rfl trivial<|Zae rfl<|L.n1<|aE rfl (fun hc2=>?_) (fun hc2=>?_)
  ·simp only[aJD]at hc2;have hk:k<xs.length:=by omega
   obtain⟨y,hy⟩:=C.ge xs k;have hy2:(x::xs)[(k+1:Int).toNat]?= some y:=by rw[show((k:Int)+1).toNat=k+1 by omega];simpa using hy
   refine C.kn<|aM<|Zaj<|C.rg<|Za rfl<|Za rfl<|Za rfl<|cU rfl U25 Tf.s3 rfl Yk rfl Yd Yk rfl aOJ (fun b2 o2 cs2 hr2 hcl2 hA2=>?_);obtain rfl:cs2=[.int .i64 _]:=hr2;refine Zf 0 rfl Tf.a3 rfl hA2 rfl<|RM rfl rfl rfl rfl trivial<|Zh rfl<|Zab<|Zal<|Zah<|C.rg<|Za rfl<|Zy rfl<|Zh rfl<|Zab ?_;have h3:(xs.take (k+1)).foldl min x=min ((xs.take k).foldl min x) y:=by rw[aJP,hy,aLE];rfl
   exact aG 16 (k+1) Yd Yd ⟨(by rw[h3];rfl),Yb,aOJ⟩ rfl rfl (LE _) (aD)
  ·simp only[aJD]at hc2;refine aQ<|Zak<|Zak<|Zan<|Zah<|C.s1<|Za rfl<|Zh rfl<|L.n5 ?_;exact leave1 rfl rfl rfl rfl (fun D hD=>by show Value.int _ _=_;rw[aKC Yd])
theorem jC(sv:Value)(x:Int)(xs:List Int)(D:aA)(hS:Sl D RI 1 sv (x::xs)):
  Fn Tryz.prog 165 #[sv] D (fun _ v=>v=.int .i64 (xs.foldl min x)):=by
 refine enter 5 Tryz.func165 rfl rfl rfl rfl fun h0=>C.s1<|Zh rfl<|L.n3<|Za rfl<|Zd rfl (fun D1 hD1=>S1 _ x xs _ (Sl.at RI.up hD1 Yk Ye))<|Zh rfl<|L.n5 ?_
 exact leave1 rfl rfl rfl rfl (fun D hD=>rfl)
end L7
end Go.Fs
namespace Go.Fs
open Go.Proofs
namespace L7
open C7
theorem aAZ{p:Pt}:(p.l== [1,1,1])=iT p:=by
 obtain⟨a,b,c⟩:=p;simp only[iT,Pt.l,Pt.mk.injEq];rw[aMN];simp
theorem WA{m k i:Nat}(hk:m.testBit k=true)(h1:i≤k)(h:((m >>> i:Nat):Int)%2=0):i+1≤k:=by
 rw[kE]at h;have:i≠k:=by rintro rfl;rw[hk]at h;simp at h
 omega
theorem aBF{m k i:Nat}(hl:∀i,i<k→m.testBit i=false)(h1:i≤k)(h:¬((m >>> i:Nat):Int)%2=0):i=k:=by
 rw[kE]at h;by_cases hi:i<k
 ·rw[hl i hi]at h;simp at h
 ·omega
theorem I6(r:Int×Int)(n:Int)(D:aA):Fn Tryz.prog 246 #[iU r,.int .i64 n] D (fun _ v=>v=.bool (fR n r.1 r.2)):=by
 refine enter 11 Tryz.func246 rfl rfl rfl rfl fun h0=>C.s1<|Zw rfl (fun q1 E1 hE1 hB1=>Zh rfl<|L.n3<|Za rfl<|Zi rfl Tf.f133_0 rfl<|Zf 0 rfl Tf.a3 rfl hB1 rfl<|Zi rfl Tf.f133_1 rfl<|Zf 1 rfl Tf.a3 rfl hB1 rfl<|Zd rfl (fun D1 hD1=>dN _ _ _ _)<|Zh rfl ?_);refine L.n5 ?_
 exact leave1 rfl rfl rfl rfl (fun D hD=>rfl)
theorem oA(r:Int×Int)(n:Int)(D:aA):Fn Tryz.prog 99 #[iU r,.int .i64 n] D (fun _ v=>v=iU (min r.1 n,max r.2 n)):=by
 refine enter 15 Tryz.func99 rfl rfl rfl rfl fun h0=>C.s1<|Zw rfl (fun q1 E1 hE1 hB1=>Zx rfl Tf.z133 rfl (fun q2=>L.n2<|iW [] 4 [0,1,2,5,6,7,8,3,4,9,10] [false,false,true,true,true,true,true,true,true,false,false] [(false,0),(false,1),(true,2),(true,5),(true,6),(true,7),(true,8),(true,3),(true,4),(false,9),(false,10)] Tf.follows (fun _ _ _ h=>cA (P:=Tryz.prog) (fn:=Tryz.f99) _ _ _ h) Yg rfl<|Zi rfl Tf.f133_0 rfl<|Zf 0 rfl Tf.a3 rfl hB1 rfl<|Za rfl<|Zi rfl Tf.f133_1 rfl<|Zf 1 rfl Tf.a3 rfl hB1 rfl<|Za rfl ?_));refine oZ rfl rfl rfl rfl trivial<|Zp rfl U25 Tf.s3 Tf.z3 rfl rfl rfl rfl (.cons rfl rfl (.cons rfl rfl .nil)) (fun b901 D901 hD901 hA901=>?_)
 have hS901:=Sl.ofInts (l:=[_,_]) (n:=2) (cap:=2) hA901 rfl Yd Yd;refine Zd rfl (fun D1 hD1=>jC _ r.1 [n] _ (hS901.up RI.up (hD1 _ Ye)))<|Zq [.int .i64 (min r.1 n),.int .i64 (max r.2 n)] rfl Tf.p133 Tf.z133 rfl rfl<|Zv rfl Tf.s133 (bM.head)<|L.n5 ?_;exact Zm [_] rfl ⟨⟨_,_,_,rfl,(List.Mem.head _),Or.inr ⟨Tf.a133,(by first|exact Tf.s133|(simp only[aKH,aH, *];exact Tf.s133)),rfl⟩⟩,aOJ⟩ (fun D hD=>rfl)
theorem MB(n m:Int)(b:Nat)(D:aA)(hB:At D b 0 [.int .i64 m]):Fn Tryz.prog 284 #[.int .i64 n,.pointer (some ⟨b,0,none⟩)] D (fun _ v=>v=.bool (fR n 0 m)):=by
 refine enter 7 Tryz.func284 rfl rfl rfl rfl fun h0=>C.s1<|Zh rfl<|L.n3<|Za rfl<|Zf 0 rfl Tf.a3 rfl hB rfl<|Zd rfl (fun D1 hD1=>dN _ _ _ _)<|Zh rfl<|L.n5 ?_
 exact leave1 rfl rfl rfl rfl (fun D hD=>rfl)
theorem SM(p:Pt)(m:Int)(D:aA):Fn Tryz.prog 238 #[aIB p,.int .i64 m] D (fun _ v=>v=.bool (KT p m)):=by
 refine enter 8 Tryz.func238 rfl rfl rfl rfl fun h0=>C.s1<|Zw rfl (fun q1 E1 hE1 hB1=>Zw rfl (fun q2 E2 hE2 hB2=>Zh rfl<|L.n3<|RQ rfl U101 Tf.s3 rfl rfl trivial<|bB rfl rfl rfl rfl trivial<|Zd rfl (fun D1 hD1=>wN _ _ p.l (fun x=>fR x 0 m) _ (Sl.ofInts (l:=p.l) (n:=3) (cap:=3) (hB1.up (hD1 _ Ye)) rfl Yd Yd) ⟨_,[],[_],rfl,fun x D2 hl=>MB x m q2 D2 (hB2.up ((hD1 _ Ye).trans hl))⟩ rfl)<|Zh rfl<|L.n5 ?_))
 exact leave1 rfl rfl rfl rfl (fun D hD=>rfl)
theorem T6(c:Ch)(D:aA):Fn Tryz.prog 159 #[aGS c] D (fun _ v=>v=.bool (iG c)):=by
 refine enter 11 Tryz.func159 rfl rfl rfl rfl fun h0=>C.s1<|Zw rfl (fun q1 E1 hE1 hB1=>Zh rfl<|L.n3<|Zi rfl Tf.f103_0 rfl<|Zf 0 rfl Tf.a3 rfl hB1 rfl<|Zd rfl (fun D1 hD1=>dN _ _ _ _)<|Za rfl ?_)
 refine' L.anK 4 (s:=6) (p:=10) rfl (fun hg1=>?_) (fun hg1=>?_) ?_;rotate_left
 ·refine Zj rfl Tf.f103_1 rfl<|eV rfl (k:=1) Tf.a101 Tf.s101 rfl hB1 Yc rfl rfl GT rfl ⟨_,rfl,rfl⟩<|Ze rfl (fun D2 hD2=>SM c.parts 2 _)<|Zac rfl ?_;exact L.cu 3
 ·refine Zk rfl<|Zk rfl<|Zk rfl<|Zad rfl ?_;exact L.cu 3
 refine Zh rfl<|L.n5 ?_;exact leave1 rfl rfl rfl rfl (fun D hD=>rfl)
theorem WT(yv:Value)(y:bI)(r:Int×Int)(D:aA)(hy:lO D yv y):Fn Tryz.prog 156 #[yv,iU r] D (fun _ v=>v=.bool (kW r)):=by
 obtain⟨cv,qv,rfl,hc,hq⟩:=hy;refine enter 20 Tryz.func156 rfl rfl rfl rfl fun h0=>C.s1<|Zw rfl (fun q1 E1 hE1 hB1=>Zw rfl (fun q2 E2 hE2 hB2=>Zh rfl<|L.n3<|Zi rfl Tf.f133_0 rfl<|Zf 0 rfl Tf.a3 rfl hB2 rfl<|iJ rfl rfl rfl rfl trivial<|Za rfl ?_))
 refine' L.anK 6 (s:=8) (p:=14) rfl (fun hg1=>?_) (fun hg1=>?_) ?_;rotate_left
 ·refine Zj rfl Tf.f133_0 rfl<|Zg 0 rfl Tf.a3 rfl hB2 rfl<|Zj rfl Tf.f133_1 rfl<|Zg 1 rfl Tf.a3 rfl hB2 rfl<|iJ rfl rfl rfl rfl ⟨_,rfl,rfl⟩<|Zac rfl ?_;exact L.cu 5
 ·refine Zk rfl<|Zk rfl<|Zk rfl<|Zk rfl<|Zk rfl<|Zad rfl ?_;exact L.cu 5
 refine Za rfl ?_;refine' L.anK 4 (s:=15) (p:=19) rfl (fun hg2=>?_) (fun hg2=>?_) ?_;rotate_left
 ·refine Zj rfl Tf.f133_1 rfl<|Zg 1 rfl Tf.a3 rfl hB2 rfl<|iJ rfl rfl rfl rfl ⟨_,rfl,rfl⟩<|Zac rfl ?_;exact L.cu 3
 ·refine Zk rfl<|Zk rfl<|Zk rfl<|Zad rfl ?_;exact L.cu 3
 refine Zh rfl<|L.n5 ?_;exact leave1 rfl rfl rfl rfl (fun D hD=>rfl)
theorem qI(p:Pt)(D:aA):Fn Tryz.prog 243 #[aIB p] D (fun _ v=>v=.bool (iT p)):=by
 refine enter 6 Tryz.func243 rfl rfl rfl rfl fun h0=>C.s1<|Zw rfl (fun q1 E1 hE1 hB1=>Zh rfl<|L.n3<|cQ rfl Tf.a101 rfl hB1 Yc Yy GT rfl trivial<|xG (cs:=[.int .i64 1,.int .i64 1,.int .i64 1]) rfl U101 Tf.s3 Tf.z101 rfl rfl rfl trivial<|FF (l:=p.l) (m:=[1,1,1]) rfl Yg U101 U3 Yg rfl rfl rfl rfl rfl trivial<|Zh rfl<|L.n5 ?_)
 exact leave1 rfl rfl rfl rfl (fun D hD=>by show Value.bool _=_;rw[aAZ])
theorem PN(m k:Nat)(D:aA)(hk:m.testBit k=true)(hk2:k≤60)(hl:∀i,i<k→m.testBit i=false):Fn Tryz.prog 286 #[.int .i64 (m:Int)] D (fun _ v=>v=.int .i64 (k:Int)):=by
 refine enter 11 Tryz.func286 rfl rfl rfl rfl fun h0=>C.s1<|Zh rfl<|L.n2<|Zaj<|cJ (γ:=Nat) (fun i=>k-i) (fun i=>i≤k) (fun i=>[(2,.int .i64 (i:Int))]) [(0,_)] (fun i=>[D]) 0 Yd ⟨Yb,aOJ⟩ ⟨rfl,aOJ⟩ (aD) ?_
 rintro i h1;refine C.s2<|Za rfl<|Za rfl<|O6 rfl rfl rfl Yd rfl trivial<|wM rfl rfl rfl (Int.natCast_nonneg _) Yd (by rw[kE];split<;>simp only[qR]<;>omega) rfl trivial<|dJ rfl rfl rfl rfl trivial<|L.n1<|aE rfl (fun hc1=>?_) (fun hc1=>?_)
 ·refine C.kn<|Zaj<|C.rg<|Za rfl<|Zy rfl<|Zh rfl<|Zab<|Zal ?_;exact aG 9 (i+1) (WA hk h1 hc1) (by have:=WA hk h1 hc1;omega) ⟨Yb,aOJ⟩ rfl rfl (LE _) (aD)
 ·obtain rfl:=aBF hl h1 hc1;refine aQ<|Zak<|Zak<|Zan<|Zah<|C.s1<|Za rfl<|Zh rfl<|L.n5 ?_;exact leave1 rfl rfl rfl rfl (fun D hD=>rfl)
end L7
end Go.Fs
