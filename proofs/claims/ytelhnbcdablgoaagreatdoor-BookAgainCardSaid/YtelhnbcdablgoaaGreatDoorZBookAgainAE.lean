/- Of the proof of BookAgain: AW5, AW6, AW7, AW8, MapK, Eqs, UW1, MapV, Range, UW2, SW1, SW2. -/
import Derived.Test.YtelhnbcdablgoaaGreatDoorZBookAgainAD
import Derived.Test.YtelhnbcdablgoaaGreatDoorZBookAgainAC
import Derived.Maps.RangeRun
namespace Go.Fs
open Go.Proofs
namespace L1
open C1
theorem MV{ts:List (List Int)}{q:List Int→Bool}{t0 t:List Int}{j:Nat}(hj:ts[j]?= some t)(h:(ts.take j).all (fun t=>q t==q t0)=true)(hc:(!(q t==q t0))=false):(ts.take (j+1)).all (fun t=>q t==q t0)=true:=by
 rw[aMN,hj,List.all_append,h];simpa using hc
theorem EK{r:dH}{f:Bool}(h:dE r f=0):truths r≠[]:=by
 unfold dE at h;split at h;omega;split at h;omega;split at h;omega;assumption
theorem yR{r:dH}{f:Bool}(h:dE r f=0):f=true:=by
 unfold dE at h;split at h;omega;split at h;omega;rename_i hf;simpa using hf
theorem YI{r:dH}{i j:Int}(hok:oO r)(h:dE r (oP r i j)=0):0≤i∧i≤j∧j<9:=by
 have:=yR h;simp only[oP,aMC,cD]at this;have:=hok.len9;omega
theorem wR{r:dH}(hok:oO r):∀t∈truths r,t.length≤9∧∀x∈t,0≤x∧x≤1:=fun t ht=>⟨by have:=(vM ht).1;have:=hok.len9;omega,(vM ht).2⟩
theorem O2{ts:List (List Int)}{k:Nat}{t:List Int}{f:List Int→Int}{a:Int}(h:ts[k]?= some t):((ts.take (k+1)).map f).foldl min a=min (((ts.take k).map f).foldl min a) (f t):=by
 rw[aMN,h,aOD,aMP,aOA];rfl
theorem Q9{ts:List (List Int)}{k:Nat}{t:List Int}{f:List Int→Int}{a:Int}(h:ts[k]?= some t):((ts.take (k+1)).map f).foldl max a=max (((ts.take k).map f).foldl max a) (f t):=by
 rw[aMN,h,aOD,aMP,aOA];rfl
open C1
theorem QO(sv:Value)(ts:List (List Int))(i j:Int)(D:aA)(hS:Sl D RT 9 sv ts)(hne:ts≠[])(hall:∀t∈ts,t.length≤9∧∀x∈t,0≤x∧x≤1)(hi0:0≤i)(hij:i≤j)(hj9:j<9):
  Fn Tryz.prog 75 #[sv,.int .i64 i,.int .i64 j] D (fun _ v=>v=.agg #[.int .i64 (TY ts i.toNat j.toNat),.int .i64 (ZI ts i.toNat j.toNat)]):=by
 have hl:=hS.len;obtain⟨t0,ht0⟩:∃t,ts[0]?= some t:=⟨ts[0]'(aPI.2 hne),LE _⟩
 have ht0m:=aLW ht0;have hb0:=y3 (hall t0 ht0m).2 i.toNat j.toNat Yd;have hp90:=fI (hall t0 ht0m).1;refine enter 36 Tryz.func75 rfl rfl rfl rfl fun h0=>C.s1<|Zv rfl Tf.z88 rfl (fun q1=>L.n3<|Za rfl<|Zp rfl U174 Tf.s179 rfl hS rfl ht0 (fun b1 o1 cs1 hr1 hcl1 hA1=>?_))
 obtain rfl:cs1=ints (eF _):=hr1;refine cU rfl Tf.a179 rfl hA1 Yc (by first|exact Tf.s179|(simp only[*];exact Tf.s179)) GT rfl trivial<|Ze rfl (fun D1 hD1=>yK t0 _ (hall _ ht0m).1 (hall _ ht0m).2)<|Za rfl<|Za rfl<|Ze rfl (fun D2 hD2=>aFY t0 i j _ hi0 hij hj9 (hall _ ht0m).2)<|Zi rfl<|L.n3<|Za rfl<|Za rfl<|Zr [.int .i64 (lA t0 i.toNat j.toNat),.int .i64 (lA t0 i.toNat j.toNat)] rfl Tf.p88 Tf.z88 rfl rfl<|Zv rfl Tf.z88 rfl (fun q2=>Zu rfl Tf.s88 (bS.head) ?_);refine L.n4<|Za rfl<|aO rfl U174 rfl Yk rfl rfl trivial<|Za rfl<|L.n1<|Zai<|cK (γ:=Nat) (fun k=>ts.length-k) (fun k=>k≤ts.length) (fun k=>[(23,.int .i64 (k:Int))]) [(22,_),(21,_),(8,_),(6,_),(1,_),(2,_)] (fun k=>[(q2,.cells [.int .i64 (((ts.take k).map fun t=>lA t i.toNat j.toNat).foldl min (lA t0 i.toNat j.toNat)),.int .i64 (((ts.take k).map fun t=>lA t i.toNat j.toNat).foldl max (lA t0 i.toNat j.toNat))].toArray 88 (0,0)),(q1,.cells [.int .i64 0,.int .i64 0].toArray 88 (0,0))]) (fun k=>[D]) 0 Yd ⟨Ya,cW⟩ C.rs (LT _) (aD) ?_;rintro k h1;refine C.s1<|Zac rfl<|L.n2<|aE rfl (fun hc1=>?_) (fun hc1=>?_)
 ·have hkk:k<ts.length:=by omega
  obtain⟨t,ht⟩:=C.ge ts k;have htm:=aLW ht;obtain⟨htl,htb⟩:=hall t htm;have hp9:=fI htl;refine C.kn<|aK<|Zai<|C.s1<|Zp rfl U174 Tf.s179 rfl hS rfl ht (fun b2 o2 cs2 hr2 hcl2 hA2=>?_);obtain rfl:cs2=ints (eF _):=hr2;refine cU rfl Tf.a179 rfl hA2 Yc (by first|exact Tf.s179|(simp only[*];exact Tf.s179)) GT rfl trivial<|Zv rfl Tf.z179 rfl (fun q3=>bK rfl rfl rfl rfl Tf.s179 Yaf Yb (bS.head) Yh trivial<|L.n1<|iE [] 3 [0,1,3,4,2,5,6,7] [false,true,true,true,true,true,false,false] [(false,0),(true,1),(true,3),(true,4),(true,2),(true,5),(false,6),(false,7)] Tf.follows (fun _ _ _ h=>bP (P:=Tryz.prog) (fn:=Tryz.f75) _ _ _ h) Yg rfl<|Zs rfl Tf.a88 rfl (List.Mem.tail _ (List.Mem.head _)) Tf.s88<|bA rfl Tf.a179 rfl (List.Mem.head _) (by first|exact Tf.s179|(simp only[*];exact Tf.s179)) GT rfl trivial<|Za rfl<|Za rfl<|Ze rfl (fun D3 hD3=>yK t _ (hall _ htm).1 (hall _ htm).2)<|Ze rfl (fun D4 hD4=>aFY t i j _ hi0 hij hj9 (hall _ htm).2)<|Ze rfl (fun D5 hD5=>oM _ _ _ _) ?_);refine Zu rfl Tf.s88 (.tail (bS.head))<|Zaa<|Zak<|Zag<|C.rg<|Zw rfl<|Za rfl<|Zaa ?_;rw[←O2 ht,←Q9 ht];exact aG 14 (k+1) Yd Yd ⟨Ya,cW⟩ rfl rfl (List.Sublist.cons _ (LT _)) (aD)
 ·obtain rfl:k=ts.length:=by omega
  rw[aNL,R4 _ _ (by rw[aNB,ht0];rfl),S4 _ _ (by rw[aNB,ht0];rfl)];refine aP<|Zaj<|Zaj<|Zam<|Zag<|C.s1<|Zs rfl Tf.a88 rfl (List.Mem.head _) Tf.s88<|Zu rfl Tf.s88 (.tail (bS.head))<|L.n5 ?_;exact Zm [_] rfl ⟨⟨_,_,_,rfl,(List.Mem.tail _ (List.Mem.head _)),Or.inr ⟨Tf.a88,(by first|exact Tf.s88|(simp only[aNG,aJ, *];exact Tf.s88)),rfl⟩⟩,cW⟩ (fun D hD=>rfl)
theorem B7(rv:Value)(r:dH)(i j:Int)(D:aA)(hr:lS D rv r):Fn Tryz.prog 44 #[rv,.int .i64 i,.int .i64 j] D (fun _ v=>v=.tuple #[.agg (if dE r (oP r i j)=0 then #[.int .i64 (TY (truths r) i.toNat j.toNat),.int .i64 (ZI (truths r) i.toNat j.toNat)]else #[.int .i64 0,.int .i64 0]),.int .i64 (dE r (oP r i j))]):=by
 have hr0:=hr;obtain⟨pv,cv,rfl,hp,hc⟩:=hr;refine enter 30 Tryz.func44 rfl rfl rfl rfl fun h0=>C.s1<|Zt rfl (fun q1 E1 hE1 hB1=>Zv rfl Tf.z88 rfl (fun q2=>Zi rfl<|L.n2<|C.drawA [] 4 11 798 (fun _ _ _ h=>bP (P:=Tryz.prog) (fn:=Tryz.f44) _ _ _ h)<|Zq rfl Tf.a28 rfl hB1 Tf.s28<|Zq rfl Tf.a28 rfl hB1 Tf.s28<|Za rfl<|Za rfl<|Ze rfl (fun D1 hD1=>aDK _ r i j _ (hr0.up (hD1 _ Ye))) ?_));refine bZ rfl rfl rfl (fun D2 hD2=>qG _ r _ _ (hr0.up (hD2 _ Ye))) rfl cW (fun v2 D2 hD2 hp2=>?_)
 obtain⟨wv,rfl,hwk⟩:=hp2;refine Za rfl<|Zab rfl<|Zab rfl<|Zi rfl<|Zi rfl<|L.n4<|Za rfl<|Zaf rfl<|L.n1<|aE rfl (fun hc1=>?_) (fun hc1=>?_)
 ·refine C.s1<|Zr [.int .i64 0,.int .i64 0] rfl Tf.p88 Tf.z88 rfl rfl<|Za rfl<|Zu rfl Tf.s88 (bS.head)<|Zi rfl<|L.n5<|Zah ?_;exact Zm [_,_] rfl ⟨⟨_,_,_,rfl,(List.Mem.head _),Or.inr ⟨Tf.a88,(by first|exact Tf.s88|(simp only[aNG,aJ, *];exact Tf.s88)),rfl⟩⟩,rfl,cW⟩ (fun D hD=>by show Value.tuple _=_;rw[aMM hc1])
 ·have he0:dE r (oP r i j)=0:=by omega
  obtain⟨hok,wb,pv2,cv2,tv,rfl,hA,hp2,hc2',ht⟩:=hwk he0;have htn:=EK he0;have hall:=wR hok;have hpt:=YI hok he0;refine C.kn<|C.s1<|Za rfl<|Zad rfl<|Zj rfl Tf.f176_1 rfl<|Zc 4 rfl Tf.a174 rfl hA rfl<|Za rfl<|Za rfl<|Ze rfl (fun D3 hD3=>QO _ _ i j _ (ht.up RT.up (hD3 _ Ye)) htn hall hpt.1 hpt.2.1 hpt.2.2)<|Zu rfl Tf.s88 (bS.head)<|Zi rfl<|L.n5 ?_;exact Zm [_,_] rfl ⟨⟨_,_,_,rfl,(List.Mem.head _),Or.inr ⟨Tf.a88,(by first|exact Tf.s88|(simp only[aNG,aJ, *];exact Tf.s88)),rfl⟩⟩,rfl,cW⟩ (fun D hD=>by show Value.tuple _=_;rw[aMT he0,he0])
theorem P0(wv:Value)(t:List Int)(i:Nat)(D:aA)(h9:t.length≤9)(hi:i<9):Fn Tryz.prog 263 #[wv,.agg (ints (eF t)).toArray,.int .i64 (i:Int)] D (fun _ v=>v=.bool (YS i t)):=by
 have hg:=XW hi h9;refine enter 11 Tryz.func263 rfl rfl rfl rfl fun h0=>C.s1<|Zt rfl (fun q1 E1 hE1 hB1=>Zi rfl<|L.n3<|Za rfl<|dO rfl U179 Tf.s3 rfl rfl Yd Yd rfl trivial<|gM rfl Tf.a3 rfl hB1 Ye (cA hg) GT rfl trivial<|dZ rfl rfl rfl rfl trivial<|Zi rfl<|L.n5 ?_)
 exact leave1 rfl rfl rfl rfl (fun D hD=>rfl)
theorem CS(fv wv:Value)(f:FuncId)(r:dH)(p:Nat→List Int→Bool)(many:Nat)(D:aA)(hfv:fv=.func (.func f) #[] #[])(hw:aAW D wv r)(hok:oO r)(hne:truths r≠[])(hm:many≤9)
  (hf:∀t∈truths r,∀i,i<many→∀D',Le D D'→Fn Tryz.prog f #[wv,.agg (ints (eF t)).toArray,.int .i64 (i:Int)] D' (fun _ v=>v=.bool (p i t))):
  Fn Tryz.prog 264 #[.agg #[fv],wv,.int .i64 (many:Int)] D (fun D' v=>Sl D' RI 1 v ((List.range many).map fun i=>vd (truths r) (p i))):=by
 obtain⟨wb,pv,cv,tv,rfl,hA,hp,hc,ht⟩:=hw;subst hfv;have hl:=ht.len;have hall:=wR hok;obtain⟨t0,ht0⟩:∃t,(truths r)[0]?= some t:=⟨(truths r)[0]'(aPI.2 hne),LE _⟩
 have ht0m:=aLW ht0;have hp90:=fI (hall t0 ht0m).1;refine enter 52 Tryz.func264 rfl rfl rfl rfl fun h0=>C.s1<|Zt rfl (fun q1 E1 hE1 hB1=>Zi rfl<|L.n4<|Za rfl<|Za rfl<|L.n1<|Zai<|cK (γ:=Nat×Value×aC) (fun g=>many-g.1) (fun g=>g.1≤many∧bM 3 1 g.2.1 g.1 (ints ((List.range g.1).map fun i=>vd (truths r) (p i))) g.2.2) (fun g=>[(13,.int .i64 (g.1:Int)),(6,g.2.1)]) [(12,_),(3,_),(1,_)] (fun g=>g.2.2++[]) (fun g=>[E1,D]) (0,.slice none 0 0,[]) ⟨by simp,by simpa [ints]using bM.nil⟩ ⟨Ya,Ya,cW⟩ C.rs (LT _) (aD) ?_)
 rintro⟨k,v,ν⟩ ⟨h1,ha⟩;refine C.s1<|Zac rfl<|L.n2<|aE rfl (fun hc1=>?_) (fun hc1=>?_)
 ·refine C.kn<|aK<|Zai<|C.s1<|Za rfl<|Zi rfl<|L.n1<|MY<|aK<|C.drawA [] 6 12 1020 (fun _ _ _ h=>bP (P:=Tryz.prog) (fn:=Tryz.f264) _ _ _ h)<|Zj rfl Tf.f384_0 rfl<|Zc 0 rfl Tf.a381 rfl hB1 rfl ?_;refine Za rfl<|Za rfl<|Zad rfl<|Zj rfl Tf.f176_1 rfl<|Zc 4 rfl Tf.a174 rfl hA rfl<|Zp rfl U174 Tf.s179 rfl ht rfl ht0 (fun b1 o1 cs1 hr1 hcl1 hA1=>?_);obtain rfl:cs1=ints (eF _):=hr1;refine cU rfl Tf.a179 rfl hA1 Yc (by first|exact Tf.s179|(simp only[*];exact Tf.s179)) GT rfl trivial<|Za rfl<|Ze rfl (fun D1 hD1=>hf t0 ht0m k Yd _ (hD1 _ Ye))<|Zi rfl<|L.n3<|Zi rfl<|L.n4<|Za rfl<|L.n1<|aI rfl (fun hc2=>?_) (fun hc2=>?_)
  ·refine C.rg<|Zi rfl<|L.n2<|y6<|Zag<|C.s2<|Za rfl<|Zad rfl<|Zj rfl Tf.f176_1 rfl<|Zc 4 rfl Tf.a174 rfl hA rfl<|aO rfl U174 rfl Yk rfl rfl trivial<|Za rfl ?_;refine L.n1<|Zai<|bT (γ:=Nat) (fun j=>(truths r).length-j) (fun j=>j≤(truths r).length∧((truths r).take j).all (fun t=>p k t==p k t0)=true) (fun j=>[(33,.int .i64 (j:Int))]) [(32,_),(31,_),(30,_),(29,_),(28,_),(9,_),(27,_),(8,_),(26,_),(25,_),(24,_),(23,_),(22,_),(21,_),(20,_),(19,_),(18,_),(17,_),(16,_),(7,_),(15,_),(14,_),(13,_),(6,_),(12,_),(3,_),(1,_)] (fun j=>[E1,D]) 0 Ye ⟨Ya,cW⟩ C.rs (aD) ?_;rintro j ⟨h3,h4⟩;refine C.s1<|Zac rfl<|L.n2<|aE rfl (fun hc3=>?_) (fun hc3=>?_)
   ·have hj:j<(truths r).length:=by omega
    obtain⟨t,ht1⟩:=C.ge (truths r) j;have htm:=aLW ht1;obtain⟨htl,htb⟩:=hall t htm;have hp9:=fI htl;refine C.kn<|aK<|Zai<|C.s1<|Zp rfl U174 Tf.s179 rfl ht rfl ht1 (fun b2 o2 cs2 hr2 hcl2 hA2=>?_);obtain rfl:cs2=ints (eF _):=hr2;refine cU rfl Tf.a179 rfl hA2 Yc (by first|exact Tf.s179|(simp only[*];exact Tf.s179)) GT rfl trivial<|Zv rfl Tf.z179 rfl (fun q2=>bK rfl rfl rfl rfl Tf.s179 Yaf Yb (bS.head) Yh trivial<|L.n3<|Zj rfl Tf.f384_0 rfl<|Zc 0 rfl Tf.a381 rfl hB1 rfl<|Za rfl<|bA rfl Tf.a179 rfl (List.Mem.head _) (by first|exact Tf.s179|(simp only[*];exact Tf.s179)) GT rfl trivial<|Za rfl<|Ze rfl (fun D2 hD2=>hf t htm k Yd _ (hD2 _ Ye))<|Za rfl<|s6 rfl U4 rfl rfl rfl cW ?_);refine L.n1<|aI rfl (fun hc4=>?_) (fun hc4=>?_)
    ·have hv:vd (truths r) (p k)=3:=aGF ht0 ht1 hc4;refine C.s1<|Zi rfl<|L.n1<|aP<|gQ rfl<|Zaj<|Zaj<|Zam<|Zag<|C.rg<|Za rfl<|Za rfl ?_;refine Zn rfl U25 Tf.s3 Tf.z3 rfl rfl rfl rfl (.cons rfl rfl .nil) (fun b901 D901 hD901 hA901=>?_);have hS901:=Sl.ofInts (l:=[_]) (n:=1) (cap:=1) hA901 rfl Yd Yd;refine aV (A:=[(_,_)]) (B:=_) rfl U25 rfl rfl Tf.s3 Tf.z3 rfl Tf.i3 rfl rfl rfl ha (jM.lit hA901) Ye rfl Ye Yi Yd (aMR rfl) rfl cW (fun v1 ν1 ha1=>?_);have ha2:bM 3 1 v1 (k+1) (ints ((List.range (k+1)).map fun i=>vd (truths r) (p i))) ν1:=by rw[aOF,aMP,aQD,hv,←eQ];exact ha1
     refine Zi rfl<|Zaa<|sS<|Zak<|Zag<|C.rg<|Zw rfl<|Za rfl<|Zaa ?_;exact aG 45 (k+1,v1,ν1) ⟨by simp only;omega,ha2⟩ Yl ⟨Ya,Ya,cW⟩ rfl rfl (List.Sublist.cons _ (LT _)) (fun D h=>⟨D,aRH _ (h),Le.refl D⟩)
    ·have hcc:=hc4;refine bB<|Zak<|Zag<|C.rg<|Zw rfl<|Za rfl<|Zaa ?_;exact aG 15 (j+1) ⟨by omega,MV ht1 h4 hcc⟩ Yd ⟨Ya,cW⟩ rfl rfl (List.Sublist.cons _ (LT _)) (aD)
   ·have hv:vd (truths r) (p k)=1:=by rw[aAX ht0 Yd h4,aMT (by simp[hc2])]
    refine aP<|Zaj<|Zaj<|Zam<|Zag<|C.rg<|Za rfl<|Za rfl<|Zn rfl U25 Tf.s3 Tf.z3 rfl rfl rfl rfl (.cons rfl rfl .nil) (fun b902 D902 hD902 hA902=>?_);have hS902:=Sl.ofInts (l:=[_]) (n:=1) (cap:=1) hA902 rfl Yd Yd;refine aV (A:=[]) (B:=_) rfl U25 rfl rfl Tf.s3 Tf.z3 rfl Tf.i3 rfl rfl rfl ha (jM.lit hA902) Ye rfl Ye Yi Yd (aMR rfl) rfl cW (fun v2 ν2 ha2=>?_);have ha2:bM 3 1 v2 (k+1) (ints ((List.range (k+1)).map fun i=>vd (truths r) (p i))) ν2:=by rw[aOF,aMP,aQD,hv,←eQ];exact ha2
    refine Zi rfl<|Zaa<|sS<|Zak<|Zag<|C.rg<|Zw rfl<|Za rfl<|Zaa ?_;exact aG 33 (k+1,v2,ν2) ⟨by simp only;omega,ha2⟩ Yl ⟨Ya,Ya,cW⟩ rfl rfl (LT _) (fun D h=>⟨D,aRH _ (h),Le.refl D⟩)
  ·refine C.kn<|aK<|y6<|Zag<|C.s2<|Za rfl<|Zad rfl<|Zj rfl Tf.f176_1 rfl<|Zc 4 rfl Tf.a174 rfl hA rfl<|aO rfl U174 rfl Yk rfl rfl trivial<|Za rfl<|L.n1 ?_;refine Zai<|bT (γ:=Nat) (fun j=>(truths r).length-j) (fun j=>j≤(truths r).length∧((truths r).take j).all (fun t=>p k t==p k t0)=true) (fun j=>[(33,.int .i64 (j:Int))]) [(32,_),(31,_),(30,_),(29,_),(28,_),(27,_),(9,_),(8,_),(26,_),(25,_),(24,_),(23,_),(22,_),(21,_),(20,_),(19,_),(18,_),(17,_),(16,_),(7,_),(15,_),(14,_),(13,_),(6,_),(12,_),(3,_),(1,_)] (fun j=>[E1,D]) 0 Ye ⟨Ya,cW⟩ C.rs (aD) ?_;rintro j ⟨h3,h4⟩;refine C.s1<|Zac rfl<|L.n2<|aE rfl (fun hc5=>?_) (fun hc5=>?_)
   ·have hj:j<(truths r).length:=by omega
    obtain⟨t,ht1⟩:=C.ge (truths r) j;have htm:=aLW ht1;obtain⟨htl,htb⟩:=hall t htm;have hp9:=fI htl;refine C.kn<|aK<|Zai<|C.s1<|Zp rfl U174 Tf.s179 rfl ht rfl ht1 (fun b3 o3 cs3 hr3 hcl3 hA3=>?_);obtain rfl:cs3=ints (eF _):=hr3;refine cU rfl Tf.a179 rfl hA3 Yc (by first|exact Tf.s179|(simp only[*];exact Tf.s179)) GT rfl trivial<|Zv rfl Tf.z179 rfl (fun q3=>bK rfl rfl rfl rfl Tf.s179 Yaf Yb (bS.head) Yh trivial<|L.n3<|Zj rfl Tf.f384_0 rfl<|Zc 0 rfl Tf.a381 rfl hB1 rfl<|Za rfl<|bA rfl Tf.a179 rfl (List.Mem.head _) (by first|exact Tf.s179|(simp only[*];exact Tf.s179)) GT rfl trivial<|Za rfl<|Ze rfl (fun D3 hD3=>hf t htm k Yd _ (hD3 _ Ye))<|Za rfl<|s6 rfl U4 rfl rfl rfl cW ?_);refine L.n1<|aI rfl (fun hc6=>?_) (fun hc6=>?_)
    ·have hv:vd (truths r) (p k)=3:=aGF ht0 ht1 hc6;refine C.s1<|Zi rfl<|L.n1<|aP<|gQ rfl<|Zaj<|Zaj<|Zam<|Zag<|C.rg<|Za rfl<|Za rfl ?_;refine Zn rfl U25 Tf.s3 Tf.z3 rfl rfl rfl rfl (.cons rfl rfl .nil) (fun b903 D903 hD903 hA903=>?_);have hS903:=Sl.ofInts (l:=[_]) (n:=1) (cap:=1) hA903 rfl Yd Yd;refine aV (A:=[(_,_)]) (B:=_) rfl U25 rfl rfl Tf.s3 Tf.z3 rfl Tf.i3 rfl rfl rfl ha (jM.lit hA903) Ye rfl Ye Yi Yd (aMR rfl) rfl cW (fun v3 ν3 ha3=>?_);have ha2:bM 3 1 v3 (k+1) (ints ((List.range (k+1)).map fun i=>vd (truths r) (p i))) ν3:=by rw[aOF,aMP,aQD,hv,←eQ];exact ha3
     refine Zi rfl<|Zaa<|sS<|Zak<|Zag<|C.rg<|Zw rfl<|Za rfl<|Zaa ?_;exact aG 45 (k+1,v3,ν3) ⟨by simp only;omega,ha2⟩ Yl ⟨Ya,Ya,cW⟩ rfl rfl (List.Sublist.cons _ (LT _)) (fun D h=>⟨D,aRH _ (h),Le.refl D⟩)
    ·have hcc:=hc6;refine bB<|Zak<|Zag<|C.rg<|Zw rfl<|Za rfl<|Zaa ?_;exact aG 15 (j+1) ⟨by omega,MV ht1 h4 hcc⟩ Yd ⟨Ya,cW⟩ rfl rfl (List.Sublist.cons _ (LT _)) (aD)
   ·have hv:vd (truths r) (p k)=2:=by rw[aAX ht0 Yd h4,aMM (by simp[hc2])]
    refine aP<|Zaj<|Zaj<|Zam<|Zag<|C.rg<|Za rfl<|Za rfl<|Zn rfl U25 Tf.s3 Tf.z3 rfl rfl rfl rfl (.cons rfl rfl .nil) (fun b904 D904 hD904 hA904=>?_);have hS904:=Sl.ofInts (l:=[_]) (n:=1) (cap:=1) hA904 rfl Yd Yd;refine aV (A:=[]) (B:=_) rfl U25 rfl rfl Tf.s3 Tf.z3 rfl Tf.i3 rfl rfl rfl ha (jM.lit hA904) Ye rfl Ye Yi Yd (aMR rfl) rfl cW (fun v4 ν4 ha4=>?_);have ha2:bM 3 1 v4 (k+1) (ints ((List.range (k+1)).map fun i=>vd (truths r) (p i))) ν4:=by rw[aOF,aMP,aQD,hv,←eQ];exact ha4
    refine Zi rfl<|Zaa<|sS<|Zak<|Zag<|C.rg<|Zw rfl<|Za rfl<|Zaa ?_;exact aG 33 (k+1,v4,ν4) ⟨by simp only;omega,ha2⟩ Yl ⟨Ya,Ya,cW⟩ rfl rfl (LT _) (fun D h=>⟨D,aRH _ (h),Le.refl D⟩)
 ·obtain rfl:k=many:=by omega
  refine aP<|Zaj<|Zaj<|Zam<|Zag<|C.s1<|Za rfl<|Zi rfl<|L.n5<|eN (A:=[]) (B:=[]) ha rfl (fun D2 hD2 hF=>?_);exact leave1 rfl rfl rfl rfl (fun D hD=>(hF.ints Ye Yd).up RI.up (hD _ Ye))
theorem SD(rv:Value)(r:dH)(D:aA)(hr:lS D rv r):Fn Tryz.prog 198 #[rv] D (fun D' v=>∃lv,v=.tuple #[lv,.int .i64 (dE r true)]∧Sl D' RI 1 lv (if dE r true=0 then(List.range r.places.length).map (fun i=>vd (truths r) (YS i))else [])):=by
 have hr0:=hr;obtain⟨pv,cv,rfl,hp,hc⟩:=hr;have hl1:=hp.len;have hl2:=hc.len;refine enter 20 Tryz.func198 rfl rfl rfl rfl fun h0=>C.s1<|Zt rfl (fun q1 E1 hE1 hB1=>Zi rfl<|Zi rfl<|L.n3<|Zq rfl Tf.a28 rfl hB1 Tf.s28<|bZ rfl rfl rfl (fun D1 hD1=>qG _ r _ _ (hr0.up (hD1 _ Ye))) rfl cW (fun v1 D1 hD1 hp1=>?_))
 obtain⟨wv,rfl,hwk⟩:=hp1;refine Za rfl<|Zab rfl<|Zab rfl<|Zi rfl<|Zi rfl<|L.n4<|Za rfl<|Zaf rfl<|L.n1<|aE rfl (fun hc1=>?_) (fun hc1=>?_)
 ·refine C.s1<|Za rfl<|Zi rfl<|Zi rfl<|L.n5<|Zah ?_;exact Zm [_,_] rfl C.rs (fun D hD=>⟨_,rfl,by rw[aMM hc1];exact Sl.nil⟩)
 ·have he0:dE r true=0:=by omega
  obtain⟨hok,wb,pv2,cv2,tv,rfl,hA,hp2,hc2',ht⟩:=hwk he0;have htn:=EK he0;have hall:=wR hok;refine C.kn<|C.s1<|Zr [.func (.func 263) #[] #[]] rfl Tf.p384 Tf.z384 rfl rfl<|Za rfl<|Zj rfl Tf.f28_0 rfl<|Zc 0 rfl Tf.a25 rfl hB1 rfl<|aO rfl U25 rfl hp rfl rfl trivial<|bZ rfl rfl rfl (fun D2 hD2=>CS _ _ 263 r (YS) r.places.length _ rfl ⟨wb,pv2,cv2,tv,rfl,hA.up (hD2 _ Ye),hp2.up RI.up (hD2 _ Ye),hc2'.up RC.up (hD2 _ Ye),ht.up RT.up (hD2 _ Ye)⟩ hok htn (by have:=hok.len9;have:=hok.cnt6;omega) (fun t htm i hi D2 hl=>P0 _ t i D2 (hall t htm).1 (by have:=hok.len9;omega))) rfl cW (fun v2 D2 hD2 hp2=>Zi rfl<|Zi rfl<|L.n5 ?_)
  exact Zm [_,_] rfl C.rs (fun D hD=>⟨_,by rw[he0];rfl,by rw[aMT he0];exact hp2.up RI.up (hD _ Ye)⟩)
end L1
end Go.Fs
namespace Go.Fs
open Go.Proofs
namespace L1
open C1
end L1
end Go.Fs
namespace Go.Fs
open Go.Proofs
namespace L1
end L1
end Go.Fs
namespace Go.Fs
open Go.Proofs
namespace L1
open C1
open C1
theorem VX(rv:Value)(r:dH)(D:aA)(hr:lS D rv r):Fn Tryz.prog 45 #[rv] D (fun _ v=>v=.tuple #[.int .i64 (pV r),.int .i64 (C8 r)]):=by
 have hr0:=hr;obtain⟨pv,cv,rfl,hp,hc⟩:=hr;refine l9 47 Tryz.func45 rfl rfl rfl rfl fun h0=>C.s1<|Zt rfl (fun q1 E1 hE1 hB1=>Zi rfl<|Zi rfl<|L.n4<|Zq rfl Tf.a28 rfl hB1 Tf.s28<|Ze rfl (fun D1 hD1=>E0 _ r _ (hr0.up (hD1 _ Ye)))<|Zi rfl<|L.n3<|Za rfl<|Zaf rfl ?_);refine L.n1<|aE rfl (fun hc1=>?_) (fun hc1=>?_)
 ·refine C.s1<|Za rfl<|Zi rfl<|Zi rfl<|L.n5<|Zah ?_;exact pE (vs:=[_,_]) rfl rfl rfl C.rs (fun D hD=>by show Value.tuple _=_;rw[pV,C8,aMT hc1,aMT hc1]<;>rfl)
 ·have hok:oO r:=zS.1 Yd;refine C.kn<|C.s1<|Zv rfl Tf.z3 rfl (fun q2=>Zv rfl Tf.z4 rfl (fun q3=>aL rfl rfl rfl rfl Tf.s3 (.tail (bS.head)) Ye rfl Yi trivial<|aL rfl rfl rfl rfl Tf.s4 (bS.head) Ye rfl Yi trivial<|L.n3<|Zv rfl Tf.z179 rfl (fun q4=>L.n4<|Zq rfl Tf.a28 rfl hB1 Tf.s28<|bZ rfl rfl rfl (fun D2 hD2=>LY _ r _ (hr0.up (hD2 _ Ye)) hok.len9) rfl cW (fun v2 D2 hD2 hp2=>L.n1 ?_))));refine Zai ?_;obtain⟨br,rfl,hit⟩:=hp2;refine pD (γ:=Option Int×List Int) (xs:=(cX r.places).map eF) (enc:=l6) (Dr:=D2) (tK r) (fun _ _ _=>False) (fun g=>[(q4,.cells (ints g.2).toArray 179 (0,0)),(q3,.cells [.bool g.1.isSome].toArray 4 (0,0)),(q2,.cells [.int .i64 (g.1.getD 0)].toArray 3 (0,0))]) (none,List.replicate 9 0) rfl rfl rfl rfl hit Ye (fun _=>rfl) rfl ⟨rfl,rfl,fun u hu=>by simp at hu⟩ rfl ?_ ?_ (fun _ _ _ _ h=>h.elim)
  ·rintro pre x ⟨o,last⟩ ⟨us,hx⟩ hΦ l bd rec hh D7 hD7 hst hpend;obtain⟨t,hk,rfl,htm,htake⟩:=vJ hx;obtain⟨hlen,htb⟩:=nS htm;have htr:mF r t:=⟨hlen,htb⟩
   have hp9:=fI (t:=t) (by have:=hok.len9;omega);have hl9:last.length=9:=hΦ.2.1;refine C.rg<|Zv rfl Tf.z179 rfl (fun q5=>Zu rfl Tf.s179 (bS.head)<|Zaa ?_);refine fun a w hhh=>uW (A:=[(_,_),(_,_),(_,_),(_,_)]) (B:=[(bd,.deferred (some []))]) (r:=rec) (l:=l) (by rfl) hst ?_ a w hhh
   refine Zai<|C.s2<|Zl rfl Tf.a4 rfl (List.Mem.tail _ (List.Mem.tail _ (List.Mem.head _))) rfl<|Za rfl ?_;refine' L.anK 4 (s:=20) (p:=24) rfl (fun hg1=>?_) (fun hg1=>?_) ?_;rotate_left
   ·refine bA rfl Tf.a179 rfl (GE _) Yy GT rfl ⟨_,rfl,rfl⟩<|bA rfl Tf.a179 rfl (List.Mem.tail _ (List.Mem.head _)) Yy GT rfl ⟨_,rfl,rfl⟩<|GB rfl Yg U179 U3 Yg hp9 hl9 rfl rfl rfl ⟨_,rfl,rfl⟩<|Zy rfl ?_;exact L.cu 3
   ·refine Zh rfl<|Zh rfl<|Zh rfl<|Zz rfl ?_;exact L.cu 3
   refine L.n1<|aI rfl (fun hc2=>?_) (fun hc2=>?_)
   ·refine aP<|Zaj<|Zam ?_;exact fun a w hh=>gC (A:=[(_,_),(_,_),(_,_)]) (B:=[(bd,.deferred (some []))]) (o,last) (IN hΦ htm htake hc2) rfl rfl a w (hh.dropBoxes 1)
   ·refine C.kn<|C.s1<|bA rfl Tf.a179 rfl (List.Mem.head _) Yy GT rfl trivial<|Zu rfl Tf.s179 (.tail (bS.head))<|L.n2<|C.drawA [] 4 9 198 (fun _ _ _ h=>h)<|Zq rfl Tf.a28 rfl hB1 Tf.s28<|bA rfl Tf.a179 rfl (List.Mem.head _) Yy GT rfl trivial<|Ze rfl (fun D3 hD3=>yK t _ (by have:=hok.len9;omega) htb)<|Ze rfl (fun D4 hD4=>DF _ r t _ (hr0.up (hD4 _ Ye)) hok htr)<|Za rfl<|Zab rfl ?_;refine Zab rfl<|Zi rfl<|Zi rfl<|L.n3<|Za rfl<|Za rfl ?_;refine' L.anK 8 (s:=34) (p:=42) rfl (fun hg2=>?_) (fun hg2=>?_) ?_;rotate_left
    ·refine aT rfl Tf.a4 rfl (aRH _ (aRH _ (GE _))) rfl GT rfl ⟨_,rfl,rfl⟩<|jD rfl rfl rfl ⟨_,rfl,rfl⟩<|Zb rfl ?_;refine' L.orK 4 (s:=37) (p:=41) rfl (fun hg3=>?_) (fun hg3=>?_) ?_;rotate_left
     ·refine Zb rfl<|aT rfl Tf.a3 rfl (List.Mem.tail _ (List.Mem.tail _ (List.Mem.tail _ (List.Mem.head _)))) rfl GT rfl ⟨_,rfl,rfl⟩<|MN rfl rfl rfl rfl ⟨_,rfl,rfl⟩<|nI rfl rfl rfl rfl ⟨_,rfl,rfl⟩ ?_;exact L.cu 3
     ·refine Zh rfl<|Zh rfl<|Zh rfl<|nJ rfl rfl rfl rfl ⟨_,rfl,rfl⟩ ?_;exact L.cu 3
     refine Zy rfl ?_;exact L.cu 4
    ·refine Zh rfl<|Zh rfl<|Zh rfl<|Zh rfl<|Zh rfl<|Zh rfl<|Zh rfl<|Zz rfl ?_;exact L.cu 7
    refine L.n1<|aI rfl (fun hc3=>?_) (fun hc3=>?_)
    ·refine C.rg<|Za rfl<|aL rfl rfl rfl rfl Tf.s3 (.tail (.tail (.tail (bS.head)))) Ye rfl Yi trivial<|aL rfl rfl rfl rfl Tf.s4 (.tail (.tail (bS.head))) Ye rfl Yi trivial<|Zaa<|Zak ?_;exact fun a w hh=>gC (A:=[(_,_),(_,_),(_,_)]) (B:=[(bd,.deferred (some []))]) (some (if eC r t=true then(oJ r t:Int)else 0),eF t) (QG hΦ hp9 htake hc3) rfl rfl a w (hh.dropBoxes 1)
    ·refine bB<|Zak ?_;exact fun a w hh=>gC (A:=[(_,_),(_,_),(_,_)]) (B:=[(bd,.deferred (some []))]) (o,eF t) (WA hΦ hp9 htake hc3) rfl rfl a w (hh.dropBoxes 1)
  ·rintro⟨o,last⟩ bd hΦ;have ho:o=kN r (cX r.places):=by simpa [tK]using hΦ.1
   have hf0:aU r=0:=by omega
   refine Zak<|Zag<|C.s2<|Zl rfl Tf.a4 rfl (List.Mem.tail _ (List.Mem.head _)) rfl<|Zae rfl<|L.n1<|aI rfl (fun hc4=>?_) (fun hc4=>?_)
   ·refine C.s1<|Zi rfl<|Zi rfl<|L.n5<|Zah ?_;exact rR (vs:=[_,_]) (A:=[(_,_),(_,_),(_,_)]) rfl rfl rfl C.rs (fun D hD=>by show Value.tuple _=_;rw[(EM ho hf0 hc4).1,(EM ho hf0 hc4).2]<;>rfl)
   ·refine C.kn<|C.s1<|Zl rfl Tf.a3 rfl (List.Mem.tail _ (List.Mem.tail _ (List.Mem.head _))) rfl<|Zi rfl<|Zi rfl<|L.n5 ?_;exact rR (vs:=[_,_]) (A:=[(_,_),(_,_),(_,_)]) rfl rfl rfl C.rs (fun D hD=>by show Value.tuple _=_;rw[(AP ho hf0 hc4).1,(AP ho hf0 hc4).2]<;>rfl)
end L1
end Go.Fs
namespace Go.Fs
variable{P:Program}{X:Cx}{γb:Type}[Membership Nat γb]{bad:γb}{all:Array Oper}{K:Act→World→Prop}{Q:Exit→Act→World→Prop}
variable{σ:bI}{μ:aC}{Ds:List aA}{os:List (Bool×Nat)}{fl:Bool}{ix:Nat}
variable{d:Nat}{x y z:Operand}{u v:Value}{ty:TypeId}{pos:String}{aft:Array Edge}{g:Option (Nat×Bool)}
structure I0(P:Program)(k:TypeId){α:Type}[DecidableEq α](val:α→Value):Prop where
 und:∃fs,P.underlying k=some (.struct fs)
 eq:∀a b w,(Op.equal k (val a) (val b)).run P w=.ok (decide (a=b)) w
 chk:∀em a w,(Instr.checkKey em 10000 k (val a)).run P w=.ok () w
 stay:∀a,Instr.sameBits 10000 (val a) (val a)=true
 agg:∀a,∃cs,val a=.agg cs
variable{α:Type}[DecidableEq α]{val:α→Value}
def rC(val:α→Value)(es:Array MapEntry)(M:List (α×Int)):Prop:=es.toList.map (fun e=>(e.key,e.val))=M.map fun x=>(val x.1,Value.int .i64 x.2)
def A8(a:α):List (α×Int)→Nat→Option (Nat×Int)
 | [],_=>none
 |(b,n)::M,i=>if a=b then some (i,n)else A8 a M (i+1)
theorem zM{a:α}:∀{M:List (α×Int)} {i j:Nat} {n:Int},A8 a M i=some (j,n)→∃k,j=i+k∧M[k]?= some (a,n)
 |(b,m)::M,i,j,n,h=>by
  simp only[A8]at h;split at h
  ·rename_i he;cases h;exact⟨0,rfl,by rw[he];rfl⟩
  ·obtain⟨k,rfl,hk⟩:=zM h;exact⟨k+1,by omega,by simpa using hk⟩
theorem rE{k:TypeId}(h:I0 P k val)(a:α)(w:World):∀(es:List MapEntry) (M:List (α×Int)) (i:Nat),es.map (fun e=>(e.key,e.val))=M.map (fun x=>(val x.1,Value.int .i64 x.2))→
  (Instr.findAsking k (val a) es i).run P w=.ok ((A8 a M i).map fun p=>(p.1,Value.int .i64 p.2)) w
 | [],[],i,_=>rfl
 | [],_::_,i,hm=>by simp at hm
 |e::es,[],i,hm=>by simp at hm
 |e::es,(b,n)::M,i,hm=>by
  simp only[aMZ,aOC,aPX]at hm;obtain⟨⟨hk,hv⟩,hm⟩:=hm;simp only[Instr.findAsking,Sem.run_bind,hk,h.eq,Result.andThen_ok,A8];by_cases he:a=b
  ·subst he;simp only[decide_true,aOJ,Sem.run_pure,hv];rfl
  ·simp only[he,decide_false,aNJ,aOP];exact rE h a w es M (i+1) hm
theorem vZ{k:TypeId}(h:I0 P k val)(a:α)(w:World){es:List MapEntry}{M:List (α×Int)}(hm:es.map (fun e=>(e.key,e.val))=M.map (fun x=>(val x.1,Value.int .i64 x.2))):
  (Instr.findKey k (val a) es).run P w=.ok ((A8 a M 0).map fun p=>(p.1,Value.int .i64 p.2)) w:=by
 obtain⟨fs,hu⟩:=h.und;unfold Instr.findKey;rw[Sem.run_bind,TU.of hu w];cases es with
 |nil=>
  cases M with
  |nil=>rfl
  |cons x M=>simp at hm
 |cons e es=>
  have hn:Instr.findNow (.struct fs) (val a) (e::es) 0=none:=by
   obtain⟨cs,hc⟩:=h.agg a;rw[hc];rfl
  simp only[Result.andThen_ok,hn];exact rE h a w (e::es) M 0 hm
theorem PB{t k e:TypeId}{b clock:Nat}{es:Array MapEntry}{M:List (α×Int)}{a:α}(ho:all[ix]?= some ⟨some d,.lookup t x y true,ty,pos,aft,g⟩)(ht:P.underlying t=some (.map k e))(hk:I0 P k val)(hz:TZ P e (.int .i64 0))
  (hx:ev σ x=some (.map (some b))) (hy:ev σ y=some (val a)) (hm:(b,Obj.map es clock)∈μ) (hb:b∉bad) (hM:rC val es M) (hN:Nat.blt d X.N=true) (hg:cY all σ g)
  (kk:∀n ok,(ok=true→(a,n)∈M)→WL P X bad all K Q os ((d,.tuple #[.int .i64 n,.bool ok])::σ) μ Ds):WL P X bad all K Q ((fl,ix)::os) σ μ Ds:=by
 have run:∀w,w.heap[b]?= some (Obj.map es clock)→(Instr.lookup t (.map (some b)) (val a) true).run P w=.ok (.tuple #[.int .i64 (match A8 a M 0 with|some (_,v)=>v|none=>0),.bool (A8 a M 0).isSome]) w:=by
  intro w hw;have hf:=vZ hk a w hM;unfold Instr.lookup;simp only[Sem.run_bind,TU.of ht w,Result.andThen_ok,gS hw,Sem.run_pure,hk.chk];rw[hf];cases A8 a M 0 with
  |none=>simp only[aOK,Result.andThen_ok,Sem.run_bind,hz w,Sem.run_pure];rfl
  |some r=>obtain⟨j,v⟩:=r;simp only[aNN,Result.andThen_ok];rfl
 refine jT ho rfl rfl hN hg (fun a' w hh w' hk'=>?_) (kk (match A8 a M 0 with|some (_,v)=>v|none=>0) (A8 a M 0).isSome fun hok=>?_)
 ·simp only[execOp,hh.eval hx,hh.eval hy,Sem.run_bind,run w' (hh.boxAt hm hb hk'),Result.andThen_ok,Sem.run_pure]
 ·cases hp:A8 a M 0 with
  |none=>rw[hp]at hok;cases hok
  |some r=>
   obtain⟨j,n⟩:=r;obtain⟨i,_,hi⟩:=zM hp;exact aLW hi
theorem SY{t k e:TypeId}{b clock:Nat}{es:Array MapEntry}{M:List (α×Int)}{a:α}{n:Int}{A B:aC}(ho:all[ix]?= some ⟨none,.mapUpdate t x y z,ty,pos,aft,g⟩)(ht:P.underlying t=some (.map k e))(hk:I0 P k val)
  (hx:ev σ x=some (.map (some b))) (hy:ev σ y=some (val a)) (hz:ev σ z=some (.int .i64 n)) (hM:rC val es M) (hg:cY all σ g)
  (kk:∀es' clock' M',rC val es' M'→(∀p∈M',p∈M∨p=(a,n))→WL P X bad all K Q os σ (A++(b,.map es' clock')::B) Ds):WL P X bad all K Q ((false,ix)::os) σ (A++(b,.map es clock)::B) Ds:=by
 refine dP ho rfl rfl hg fun a' w hh=>?_
 obtain⟨h1,h2,h3,D,h4,h5,h6⟩:=id hh;have hw:=(h4.box (b,.map es clock) Ye).1;have run:∃es' clock' M',rC val es' M'∧(∀p∈M',p∈M∨p=(a,n))∧(Instr.mapUpdate t (.map (some b)) (val a) (.int .i64 n)).run P w=.ok () {w with heap:=w.heap.setIfInBounds b (.map es' clock')}:=by
  have hf:=vZ hk a w hM;have hset:∀o,(setObj b o).run P w=.ok () {w with heap:=w.heap.setIfInBounds b o}:=fun o=>by simp[setObj,Sem.run,hw]
  cases hp:A8 a M 0 with
  |none=>
   refine⟨es.push {key:=val a,val:=.int .i64 n,born:=clock},clock+1,M++[(a,n)],?_,fun p hp=>by simpa using hp,?_⟩
   ·unfold rC at hM ⊢
    rw[Array.toList_push,aMP,aMP,hM];rfl
   ·unfold Instr.mapUpdate;simp only[Sem.run_bind,TU.of ht w,Result.andThen_ok,gS hw,hk.chk];rw[hf,hp];simp only[aOK,Result.andThen_ok,hset]
  |some r=>
   obtain⟨j,m⟩:=r;obtain⟨i,hi0,hi⟩:=zM hp;rw[aPC]at hi0;subst hi0
   have hMi:∀i,(es.toList[i]?).map (fun e:MapEntry=>(e.key,e.val))=(M[i]?).map (fun x:α×Int=>(val x.1,Value.int .i64 x.2)):=fun i=>by rw[←aNB,←aNB,hM]
   have hj:=hMi j;rw[hi]at hj;obtain⟨e0,he0,hke⟩:=aOZ.1 hj;simp only[aPX]at hke;have he0':es[j]?= some e0:=by simpa using he0
   refine⟨es.modify j fun e=>{e with key:=val a,val:=.int .i64 n},clock,M.set j (a,n),?_,fun p hp=>(aRE hp),?_⟩
   ·unfold rC;apply aRB;intro q;rw[aNB,aNB,Array.getElem?_toList,Array.getElem?_modify,List.getElem?_set];have hq:=hMi q;rw[Array.getElem?_toList]at hq;by_cases hjq:j=q
    ·subst hjq;have hlt:=(aMH.1 hi).1;simp[he0',hlt]
    ·simp only[hjq,aOP];exact hq
   ·have hks:(Instr.keyThatStays (val a) (val a)).run P w=.ok (val a) w:=by
     have:Instr.sameBits 10000 (val a) (val a)=true:=hk.stay a;unfold Instr.keyThatStays;rw[aMT this,Sem.run_pure]
    unfold Instr.mapUpdate;simp only[Sem.run_bind,TU.of ht w,Result.andThen_ok,gS hw,hk.chk];rw[hf,hp];simp only[aNN,Result.andThen_ok,he0',aPG,hke.1,Sem.run_bind,hks,hset]
 obtain⟨es',clock',M',hM',hmem,hr⟩:=run;have hHas:bS (A++(b,Obj.map es clock)::B) b (.map es clock) (.map es' clock') (A++(b,.map es' clock')::B):=.app .head;have hs:=h4.set (w':={w with heap:=w.heap.setIfInBounds b (.map es' clock')}) hHas ⟨rfl,rfl⟩ trivial;have:(execOp a'.eval ⟨none,.mapUpdate t x y z,ty,pos,aft,g⟩).run P w=.ok .skip {w with heap:=w.heap.setIfInBounds b (.map es' clock')}:=by
  simp only[execOp,hh.eval hx,hh.eval hy,hh.eval hz,Sem.run_bind,hr,Result.andThen_ok,Sem.run_pure]
 rw[this];exact⟨fun h=>by simp at h,kk es' clock' M' hM' hmem _ _ ⟨h1,h2,h3,D,hs,h5,h6.step (fun _ p hp=>aMR Yq) (fun _=>gL ⟨rfl,rfl⟩ (aMB.2 ⟨_,hHas.mem,rfl⟩)) hs.dom⟩⟩

structure lR(n:Nat) where
 l:List Int
 h:l.length=n
deriving DecidableEq
def qB{n:Nat}(a:lR n):Value:=.agg (ints a.l).toArray
def KA(P:Program)(k:TypeId)(n:Nat):Prop:=∃f0 f1 e,P.underlying k=some (.struct (P.fieldsOf k))∧P.stoodInHeld k=false∧P.fieldsOf k=#[f0,f1]∧f0.name≠ "_" ∧f1.name≠ "_" ∧f0.offset=0∧f1.offset=1∧
 P.underlying f0.type=some (.int .i64)∧P.underlying f1.type=some (.array n e)∧P.underlying e=some (.int .i64)∧P.cellsOf e=1∧TA P f1.type true∧TS P f1.type n∧TS P e 1
theorem VM{t:TypeId}{n:Nat}(ha:TA P t true)(hs:TS P t n){l:List Int}(hl:l.length=n+1)(w:World):(part t (ints l).toArray 1).run P w=.ok (.agg (ints (l.drop 1)).toArray) w:=by
 unfold part;simp only[Sem.run_bind,ha w,Result.andThen_ok,aOJ,hs w,Sem.run_pure];congr 2;apply Array.ext';simp only[Array.toList_extract,List.extract_eq_take_drop,ints,List.map_drop];rw[aNA Yah]
theorem KA.key{k:TypeId}{n:Nat}(h:KA P k n):I0 P k (qB (n:=n+1)):=by
 obtain⟨f0,f1,e,hu,hst,hf,n0,n1,o0,o1,t0,t1,te,hc,ha,hs,hse⟩:=h;have hsplit:∀a:lR (n+1),∃x r,a.l=x::r∧r.length=n:=by
  rintro⟨l,hl⟩;cases l with
  |nil=>simp at hl
  |cons x r=>exact⟨x,r,rfl,by simpa using hl⟩
 have p0:∀(x:Int) (r:List Int) (w:World),(part f0.type (ints (x::r)).toArray f0.offset).run P w=.ok (.int .i64 x) w:=fun x r w=>cO t0 (by rw[o0];rfl) w
 have p1:∀(x:Int) (r:List Int) (w:World),r.length=n→(part f1.type (ints (x::r)).toArray f1.offset).run P w=.ok (.agg (ints r).toArray) w:=fun x r w hr=>by
  rw[o1];exact VM ha hs (l:=x::r) (by simp[hr]) w
 refine⟨⟨_,hu⟩,fun a b w=>?_,fun em a w=>?_,fun a=>?_,fun a=>⟨_,rfl⟩⟩
 ·obtain⟨x,r,ea,hr⟩:=hsplit a;obtain⟨x',r',eb,hr'⟩:=hsplit b;have he:=run_equalIn_struct (P:=P) w 9999 k (ints (x::r)).toArray (ints (x'::r')).toArray hu hst;have hab:decide (a=b)=((x==x')&&(r==r')):=by
   rw[aPR];simp only[aMV,aMC,aQZ];constructor
   ·rintro rfl;rw[ea]at eb;exact List.cons.inj eb
   ·rintro⟨h1,h2⟩;obtain⟨la,ha'⟩:=a;obtain⟨lb,hb'⟩:=b;simp only at ea eb;subst ea eb h1 h2;rfl
  show(Op.equalIn (9999+1) k (.agg (ints a.l).toArray) (.agg (ints b.l).toArray)).run P w=_;rw[ea,eb,he,hf,hab];have e0:=run_equalIn_int w 9998 f0.type .i64 .i64 x x' t0;obtain⟨inf,hinf⟩:=info_of_underlying te;have e1:=run_equalIn_array (P:=P) w 9998 (ints r).toArray (ints r').toArray t1 hinf;rw[hc,jS 9997 te r r' w (List.range n) (fun j hj=>by have:=aPF.1 hj;omega),rX hr hr']at e1
  have s1:(Op.eqFields 9999 (ints (x::r)).toArray (ints (x'::r')).toArray [f1]).run P w=.ok (r==r') w:=by
   simp only[Op.eqFields,n1,ne_eq,aQP,aOJ,Sem.run_bind,p1 _ _ _ hr,p1 _ _ _ hr',Result.andThen_ok];rw[e1];simp only[Result.andThen_ok];cases r==r'<;>rfl
  show(Op.eqFields 9999 (ints (x::r)).toArray (ints (x'::r')).toArray (f0::[f1])).run P w=_;rw[Op.eqFields,aMT n0];simp only[Sem.run_bind,p0,Result.andThen_ok];rw[e0];simp only[Result.andThen_ok];cases hx:x==x' with
  |true=>
   simp only[Bool.not_true,aNJ,aOP,aPM];rw[s1]
  |false=>simp only[aRF,aOJ,Sem.run_pure,Bool.false_and]
 ·obtain⟨x,r,ea,hr⟩:=hsplit a;have c0:(Instr.checkKey em (9998+1) f0.type (.int .i64 x)).run P w=.ok () w:=by
   rw[Instr.checkKey,Sem.run_bind,TU.of t0 w];rfl
  have ce:∀m:Int,(Instr.checkKey em (9997+1) e (.int .i64 m)).run P w=.ok () w:=fun m=>by
   rw[Instr.checkKey,Sem.run_bind,TU.of te w];rfl
  have c1:(Instr.checkKey em (9998+1) f1.type (.agg (ints r).toArray)).run P w=.ok () w:=by
   rw[Instr.checkKey,Sem.run_bind,TU.of t1 w];simp only[Result.andThen_ok];rw[Std.Legacy.Range.forIn_eq_forIn_range'];have key:∀(is:List Nat),(∀i∈is,i<n)→((forIn is PUnit.unit fun i _=>do Instr.checkKey em 9998 e (←part e (ints r).toArray (i*(←sizeOf e)));Pure.pure (ForInStep.yield PUnit.unit):Sem PUnit)).run P w=.ok PUnit.unit w:=by
    intro is;induction is with
    |nil=>intro _;rfl
    |cons i is ih=>
     intro hi;have hlt:=hi i aMF;have g1:(ints r).toArray[i*1]?= some (.int .i64 r[i]):=by rw[aPE];simpa using cA (LE (show i<r.length by omega))
     rw[List.forIn_cons];simp only[Sem.run_bind,hse w,Result.andThen_ok,cO te g1];rw[ce];simp only[Result.andThen_ok,Sem.run_pure];exact ih fun j hj=>hi j (aLZ _ hj)
   have:=key (List.range' 0 n) (fun i hi=>by simpa using hi);simpa using this
  show(Instr.checkKey em (9999+1) k (.agg (ints a.l).toArray)).run P w=_;rw[ea,Instr.checkKey,Sem.run_bind,TU.of hu w];simp only[Result.andThen_ok];rw[hf,←Array.forIn_toList];simp only[List.forIn_cons,List.forIn_nil,n0,n1,ne_eq,aQP,aOJ,Sem.run_bind,p0,Result.andThen_ok,Sem.run_pure];rw[c0];simp only[Result.andThen_ok,Sem.run_pure,Sem.run_bind,p1 _ _ _ hr];rw[c1];simp[Sem.run_pure,Result.andThen_ok]
 ·show Instr.sameBits (9999+1) (.agg (ints a.l).toArray) (.agg (ints a.l).toArray)=true;simp only[Instr.sameBits,beq_self_eq_true,aPM,aMU];rintro⟨p,q⟩ hpq;obtain⟨i,hi⟩:=aPW.1 hpq;rw[List.getElem?_zip_eq_some]at hi;obtain⟨h1,h2⟩:=hi;simp only at h1 h2;rw[h1]at h2;obtain rfl:=aMY h2;have:p∈ints a.l:=aLW (by simpa using h1);obtain⟨m,_,rfl⟩:=aMB.1 this;simp[Instr.sameBits]
end Go.Fs
namespace Go.Fs
variable{P:Program}{X:Cx}{γb:Type}[Membership Nat γb]{bad:γb}{all:Array Oper}{K:Act→World→Prop}{Q:Exit→Act→World→Prop}
variable{σ:bI}{μ:aC}{Ds:List aA}{os:List (Bool×Nat)}{fl:Bool}{ix:Nat}
variable{d:Nat}{x y z:Operand}{u v:Value}{ty:TypeId}{pos:String}{aft:Array Edge}{g:Option (Nat×Bool)}
structure hU(P:Program)(f:Field)(o n:Nat):Prop where
 name:f.name≠ "_"
 eqp:∀(l m:List Int) w,o+n≤l.length→o+n≤m.length→∃u v,(part f.type (ints l).toArray f.offset).run P w=.ok u w∧(part f.type (ints m).toArray f.offset).run P w=.ok v w∧(Op.equalIn 9999 f.type u v).run P w=.ok ((l.drop o).take n==(m.drop o).take n) w
inductive Q3(P:Program):Nat→Nat→List Field→Prop
 |nil {o}:Q3 P o o []
 |cons {o n e f fs} (h:hU P f o n) (r:Q3 P (o+n) e fs):Q3 P o e (f::fs)
theorem Q3.le{o e:Nat}{fs:List Field}(h:Q3 P o e fs):o≤e:=by
 induction h with
 |nil=>exact aMS _
 |cons _ _ ih=>omega
theorem V5(l m:List Int)(o n:Nat):(l.drop o==m.drop o)=(((l.drop o).take n==(m.drop o).take n)&&(l.drop (o+n)==m.drop (o+n))):=by
 rw[aPR];simp only[aQZ,aMC];constructor
 ·intro h;exact⟨by rw[h],by rw[←List.drop_drop,←List.drop_drop,h]⟩
 ·rintro⟨h1,h2⟩;rw[←aPU n (l.drop o),←aPU n (m.drop o),h1,List.drop_drop,List.drop_drop,h2]
theorem m8(l m:List Int)(w:World){o e:Nat}{fs:List Field}(h:Q3 P o e fs)(hl:l.length=e)(hm:m.length=e):(Op.eqFields 9999 (ints l).toArray (ints m).toArray fs).run P w=.ok (l.drop o==m.drop o) w:=by
 induction h with
 |nil=>
  rw[aNM Yd,aNM Yd];rfl
 | @cons o n e f fs h r ih=>
  have hle:=r.le;obtain⟨u,v,h1,h2,h3⟩:=h.eqp l m w Yd Yd;rw[Op.eqFields,aMT h.name];simp only[Sem.run_bind,h1,h2,Result.andThen_ok];rw[h3,V5 l m o n];simp only[Result.andThen_ok];cases hx:(l.drop o).take n==(m.drop o).take n with
  |true=>
   simp only[Bool.not_true,aNJ,aOP,aPM];exact ih hl hm
  |false=>simp only[aRF,aOJ,Sem.run_pure,Bool.false_and]
theorem hU.int{f:Field}{o:Nat}(hn:f.name≠ "_")(ho:f.offset=o)(ht:P.underlying f.type=some (.int .i64)):hU P f o 1:=by
 refine⟨hn,fun l m w hl hm=>?_⟩;have h1:l[o]?= some (l[o]'Yd):=LE _;have h2:m[o]?= some (m[o]'Yd):=LE _;refine⟨.int .i64 l[o],.int .i64 m[o],cO ht (by rw[ho];simpa using cA h1) w,cO ht (by rw[ho];simpa using cA h2) w,?_⟩
 rw[run_equalIn_int w 9998 f.type .i64 .i64 _ _ ht];congr 1;have t1:(l.drop o).take 1=[l[o]]:=by rw[aNZ (show o<l.length by omega)];rfl
 have t2:(m.drop o).take 1=[m[o]]:=by rw[aNZ (show o<m.length by omega)];rfl
 rw[t1,t2];simp
theorem nY{t:TypeId}{n o:Nat}(ha:TA P t true)(hs:TS P t n){l:List Int}(_hl:o+n≤l.length)(w:World):(part t (ints l).toArray o).run P w=.ok (.agg (ints ((l.drop o).take n)).toArray) w:=by
 unfold part;simp only[Sem.run_bind,ha w,Result.andThen_ok,aOJ,hs w,Sem.run_pure];congr 2;apply Array.ext';simp only[Array.toList_extract,List.extract_eq_take_drop,ints,List.map_drop,List.map_take];congr 1;omega
theorem hU.arr{f:Field}{o n:Nat}{e:TypeId}(hn:f.name≠ "_")(ho:f.offset=o)(ht:P.underlying f.type=some (.array n e))(he:P.underlying e=some (.int .i64))(hc:P.cellsOf e=1)(ha:TA P f.type true)(hs:TS P f.type n):hU P f o n:=by
 refine⟨hn,fun l m w hl hm=>⟨_,_,by rw[ho];exact nY ha hs hl w,by rw[ho];exact nY ha hs hm w,?_⟩⟩;obtain⟨i,hi⟩:=info_of_underlying he;have h:=run_equalIn_array (P:=P) w 9998 (ints ((l.drop o).take n)).toArray (ints ((m.drop o).take n)).toArray ht hi;have e1:((l.drop o).take n).length=n:=by rw[aON,aOS];omega
 have e2:((m.drop o).take n).length=n:=by rw[aON,aOS];omega
 rw[hc,jS 9997 he _ _ w (List.range n) (fun j hj=>by have:=aPF.1 hj;omega),rX e1 e2]at h;exact h
def KS(P:Program)(t:TypeId)(n:Nat):Prop:=P.underlying t=some (.struct (P.fieldsOf t))∧P.stoodInHeld t=false∧P.eqGuardType P.depth t=false∧Q3 P 0 n (P.fieldsOf t).toList
theorem G7{t:TypeId}{n:Nat}(h:KS P t n){l m:List Int}(hl:l.length=n)(hm:m.length=n)(w:World):(Op.equal t (.agg (ints l).toArray) (.agg (ints m).toArray)).run P w=.ok (l==m) w:=by
 have he:=run_equalIn_struct (P:=P) w 9999 t (ints l).toArray (ints m).toArray h.1 h.2.1;show(Op.equalIn (9999+1) t (.agg (ints l).toArray) (.agg (ints m).toArray)).run P w=_;rw[he,m8 l m w h.2.2.2 hl hm];simp
theorem xK{t t':TypeId}{n:Nat}{l m:List Int}(ho:all[ix]?= some ⟨some d,.binOp .neq t x y t',ty,pos,aft,g⟩)(ht:KS P t n)(hl:l.length=n)(hm:m.length=n)(hx:ev σ x=some (.agg (ints l).toArray))(hy:ev σ y=some (.agg (ints m).toArray))(hN:Nat.blt d X.N=true)(hg:cY all σ g)
  (kk:WL P X bad all K Q os ((d,.bool (!(l==m)))::σ) μ Ds):WL P X bad all K Q ((fl,ix)::os) σ μ Ds:=
 AG ho (fun w=>by
  have hgd:(eqGuard .neq t x y (.agg (ints l).toArray) (.agg (ints m).toArray)).run P w=.ok () w:=by
   simp only[eqGuard,program];simp[Sem.run,ht.2.2.1,go_sem]
  rw[Sem.run_bind,hgd];show((do Pure.pure (Value.bool (!(←Op.equal t (.agg (ints l).toArray) (.agg (ints m).toArray))))):Sem Value).run P w=_;rw[Sem.run_bind,G7 ht hl hm];rfl) hx hy hN hg kk
end Go.Fs
namespace Go.Fs
open Go.Proofs
namespace L2
open L1
open C2
open C1 (fP cD pZ oH)
theorem nH{r:Int×Int}(h:fO r=true):0≤r.1∧r.1≤r.2∧r.2≤99:=by
 unfold fO dW at h;simp only[aMC,aMV,cD]at h;omega
theorem dR(n lo hi:Int)(D:aA):Fn Tryz.prog 140 #[.int .i64 n,.int .i64 lo,.int .i64 hi] D (fun _ v=>v=.bool (fP n lo hi)):=by
 refine enter 15 Tryz.func140 rfl rfl rfl rfl fun h0=>C.s1<|Zi rfl<|L.n3<|Za rfl<|Za rfl<|iW rfl rfl rfl rfl trivial<|Za rfl ?_
 refine' L.anK 4 (s:=10) (p:=14) rfl (fun hg1=>?_) (fun hg1=>?_) ?_;rotate_left
 ·refine Zb rfl<|Zb rfl<|iW rfl rfl rfl rfl ⟨_,rfl,rfl⟩<|Zy rfl ?_;exact L.cu 3
 ·refine Zh rfl<|Zh rfl<|Zh rfl<|Zz rfl ?_;exact L.cu 3
 refine Zi rfl<|L.n5 ?_;exact leave1 rfl rfl rfl rfl (fun D hD=>rfl)
theorem vA(n:Int)(D:aA):Fn Tryz.prog 215 #[iV n] D (fun _ v=>v=.bool (dW n)):=by
 refine enter 5 Tryz.func215 rfl rfl rfl rfl fun h0=>C.s1<|Zi rfl<|L.n3<|Za rfl<|Ze rfl (fun D1 hD1=>dR _ _ _ _)<|Zi rfl<|L.n5 ?_
 exact leave1 rfl rfl rfl rfl (fun D hD=>rfl)
theorem jG(sv:Value)(x:Int)(xs:List Int)(D:aA)(hS:Sl D RI 1 sv (x::xs)):
  Fn Tryz.prog 218 #[sv] D (fun _ v=>v=.int .i64 (xs.foldl min x)):=by
 refine enter 5 Tryz.func218 rfl rfl rfl rfl fun h0=>C.s1<|Zi rfl<|L.n3<|Za rfl<|Ze rfl (fun D1 hD1=>L1.R9 _ x xs _ (Sl.at RI.up hD1 Yk Ye))<|Zi rfl<|L.n5 ?_
 exact leave1 rfl rfl rfl rfl (fun D hD=>rfl)
theorem R7(r:Int×Int)(D:aA):Fn Tryz.prog 214 #[jC r] D (fun _ v=>v=.bool (fO r)):=by
 refine enter 18 Tryz.func214 rfl rfl rfl rfl fun h0=>C.s1<|Zt rfl (fun q1 E1 hE1 hB1=>Zi rfl<|L.n3<|Zj rfl Tf.f99_0 rfl<|Zc 0 rfl Tf.a3 rfl hB1 rfl<|Zj rfl Tf.f99_1 rfl<|Zc 1 rfl Tf.a3 rfl hB1 rfl<|iW rfl rfl rfl rfl trivial<|Za rfl ?_)
 refine' L.anK 4 (s:=8) (p:=12) rfl (fun hg1=>?_) (fun hg1=>?_) ?_;rotate_left
 ·refine Zk rfl Tf.f99_0 rfl<|Zd 0 rfl Tf.a3 rfl hB1 rfl<|Zf rfl (fun D1 hD1=>vA _ _)<|Zy rfl ?_;exact L.cu 3
 ·refine Zh rfl<|Zh rfl<|Zh rfl<|Zz rfl ?_;exact L.cu 3
 refine Za rfl ?_;refine' L.anK 4 (s:=13) (p:=17) rfl (fun hg2=>?_) (fun hg2=>?_) ?_;rotate_left
 ·refine Zk rfl Tf.f99_1 rfl<|Zd 1 rfl Tf.a3 rfl hB1 rfl<|Zf rfl (fun D2 hD2=>vA _ _)<|Zy rfl ?_;exact L.cu 3
 ·refine Zh rfl<|Zh rfl<|Zh rfl<|Zz rfl ?_;exact L.cu 3
 refine Zi rfl<|L.n5 ?_;exact leave1 rfl rfl rfl rfl (fun D hD=>rfl)
theorem NE(r:Int×Int)(h:fO r=true)(D:aA):Fn Tryz.prog 219 #[jC r] D (fun _ v=>v=.int .i64 (fD r)):=by
 have hb:=nH h;refine enter 9 Tryz.func219 rfl rfl rfl rfl fun h0=>C.s1<|Zt rfl (fun q1 E1 hE1 hB1=>Zi rfl<|L.n3<|Zj rfl Tf.f99_1 rfl<|Zc 1 rfl Tf.a3 rfl hB1 rfl<|Zj rfl Tf.f99_0 rfl<|Zc 0 rfl Tf.a3 rfl hB1 rfl<|gH rfl rfl rfl Yf rfl trivial<|Zw rfl<|Zi rfl ?_);refine L.n5 ?_
 exact leave1 rfl rfl rfl rfl (fun D hD=>rfl)
theorem P0(r:Int×Int)(n:Int)(D:aA):Fn Tryz.prog 223 #[jC r,.int .i64 n] D (fun _ v=>v=.bool (fP n r.1 r.2)):=by
 refine enter 11 Tryz.func223 rfl rfl rfl rfl fun h0=>C.s1<|Zt rfl (fun q1 E1 hE1 hB1=>Zi rfl<|L.n3<|Za rfl<|Zj rfl Tf.f99_0 rfl<|Zc 0 rfl Tf.a3 rfl hB1 rfl<|Zj rfl Tf.f99_1 rfl<|Zc 1 rfl Tf.a3 rfl hB1 rfl<|Ze rfl (fun D1 hD1=>dR _ _ _ _)<|Zi rfl ?_);refine L.n5 ?_
 exact leave1 rfl rfl rfl rfl (fun D hD=>rfl)
theorem oM(r:Int×Int)(n:Int)(D:aA):Fn Tryz.prog 142 #[jC r,.int .i64 n] D (fun _ v=>v=jC (min r.1 n,max r.2 n)):=by
 refine enter 15 Tryz.func142 rfl rfl rfl rfl fun h0=>C.s1<|Zt rfl (fun q1 E1 hE1 hB1=>Zv rfl Tf.z99 rfl (fun q2=>L.n2<|iE [] 4 [0,1,2,5,6,7,8,3,4,9,10] [false,false,true,true,true,true,true,true,true,false,false] [(false,0),(false,1),(true,2),(true,5),(true,6),(true,7),(true,8),(true,3),(true,4),(false,9),(false,10)] Tf.follows (fun _ _ _ h=>bP (P:=Tryz.prog) (fn:=Tryz.f142) _ _ _ h) Yg rfl<|Zj rfl Tf.f99_0 rfl<|Zc 0 rfl Tf.a3 rfl hB1 rfl<|Za rfl<|Zj rfl Tf.f99_1 rfl<|Zc 1 rfl Tf.a3 rfl hB1 rfl<|Za rfl ?_));refine pU rfl rfl rfl rfl trivial<|Zn rfl U25 Tf.s3 Tf.z3 rfl rfl rfl rfl (.cons rfl rfl (.cons rfl rfl .nil)) (fun b901 D901 hD901 hA901=>?_)
 have hS901:=Sl.ofInts (l:=[_,_]) (n:=2) (cap:=2) hA901 rfl Yd Yd;refine Ze rfl (fun D1 hD1=>jG _ r.1 [n] _ (hS901.up RI.up (hD1 _ Ye)))<|Zr [.int .i64 (min r.1 n),.int .i64 (max r.2 n)] rfl Tf.p99 Tf.z99 rfl rfl<|Zu rfl Tf.s99 (bS.head)<|L.n5 ?_;exact Zm [_] rfl ⟨⟨_,_,_,rfl,(List.Mem.head _),Or.inr ⟨Tf.a99,(by first|exact Tf.s99|(simp only[aNG,aJ, *];exact Tf.s99)),rfl⟩⟩,cW⟩ (fun D hD=>rfl)
theorem LK(tv:Value)(t:aY)(n:Int)(D:aA)(ht:gI D tv t):Fn Tryz.prog 143 #[tv,.int .i64 n] D (fun _ v=>v=.bool (f7 t.last n)):=by
 have ht0:=ht;obtain⟨hv,lv,mv,rfl,hh,hl,hm⟩:=ht;have hll:=hl.len;refine enter 9 Tryz.func143 rfl rfl rfl rfl fun h0=>C.s1<|Zt rfl (fun q1 E1 hE1 hB1=>Zi rfl<|L.n3<|Za rfl<|Zj rfl Tf.f32_0 rfl<|Zc 0 rfl Tf.a3 rfl hB1 rfl<|Ze rfl (fun D1 hD1=>dR _ _ _ _)<|Zi rfl<|L.n5 ?_)
 exact leave1 rfl rfl rfl rfl (fun D hD=>rfl)
theorem aJE(tv:Value)(t:aY)(n:Int)(D:aA)(ht:gI D tv t):Fn Tryz.prog 81 #[tv,.int .i64 n] D (fun _ v=>v=.bool (fP n 0 ((t.levels.length:Int)-1))):=by
 have ht0:=ht;obtain⟨hv,lv,mv,rfl,hh,hl,hm⟩:=ht;have hll:=hl.len;refine enter 11 Tryz.func81 rfl rfl rfl rfl fun h0=>C.s1<|Zt rfl (fun q1 E1 hE1 hB1=>Zi rfl<|L.n3<|Za rfl<|Zj rfl Tf.f32_3 rfl<|Zc 3 rfl Tf.a25 rfl hB1 rfl<|aO rfl U25 rfl Yk rfl rfl trivial<|gH rfl rfl rfl Yf rfl trivial<|Ze rfl (fun D1 hD1=>dR _ _ _ _)<|Zi rfl ?_);refine L.n5 ?_
 exact leave1 rfl rfl rfl rfl (fun D hD=>rfl)
theorem CJ(tv:Value)(t:aY)(a b:Int)(D:aA)(ht:gI D tv t):Fn Tryz.prog 84 #[tv,.int .i64 a,.int .i64 b] D (fun _ v=>v=.bool (oI t.last a b)):=by
 have ht0:=ht;obtain⟨hv,lv,mv,rfl,hh,hl,hm⟩:=ht;have hll:=hl.len;refine enter 20 Tryz.func84 rfl rfl rfl rfl fun h0=>C.s1<|Zt rfl (fun q1 E1 hE1 hB1=>Zi rfl<|L.n3<|Zq rfl Tf.a32 rfl hB1 Tf.s32<|Za rfl<|Ze rfl (fun D1 hD1=>LK _ t _ _ (ht0.up (hD1 _ Ye)))<|Za rfl ?_)
 refine' L.anK 4 (s:=10) (p:=14) rfl (fun hg1=>?_) (fun hg1=>?_) ?_;rotate_left
 ·refine cU rfl Tf.a32 rfl hB1 Yc Tf.s32 GT rfl ⟨_,rfl,rfl⟩<|Zb rfl<|Zf rfl (fun D2 hD2=>LK _ t _ _ (ht0.up (hD2 _ Ye)))<|Zy rfl ?_;exact L.cu 3
 ·refine Zh rfl<|Zh rfl<|Zh rfl<|Zz rfl ?_;exact L.cu 3
 refine Za rfl ?_;refine' L.anK 4 (s:=15) (p:=19) rfl (fun hg2=>?_) (fun hg2=>?_) ?_;rotate_left
 ·refine Zb rfl<|Zb rfl<|iW rfl rfl rfl rfl ⟨_,rfl,rfl⟩<|Zy rfl ?_;exact L.cu 3
 ·refine Zh rfl<|Zh rfl<|Zh rfl<|Zz rfl ?_;exact L.cu 3
 refine Zi rfl<|L.n5 ?_;exact leave1 rfl rfl rfl rfl (fun D hD=>rfl)
theorem aCT(tv:Value)(t:aY)(m:Mk)(D:aA)(ht:gI D tv t):Fn Tryz.prog 212 #[tv,aJL m] D (fun _ v=>v=.bool (qI t.last m)):=by
 have ht0:=ht;obtain⟨hv,lv,mv,rfl,hh,hl,hm⟩:=ht;refine enter 16 Tryz.func212 rfl rfl rfl rfl fun h0=>C.s1<|Zt rfl (fun q1 E1 hE1 hB1=>Zt rfl (fun q2 E2 hE2 hB2=>Zi rfl<|L.n3<|Zq rfl Tf.a32 rfl hB1 Tf.s32<|Zj rfl Tf.f158_0 rfl<|Zc 0 rfl Tf.a3 rfl hB2 rfl<|Zj rfl Tf.f158_1 rfl<|Zc 1 rfl Tf.a3 rfl hB2 rfl<|Ze rfl (fun D1 hD1=>CJ _ t _ _ _ (ht0.up (hD1 _ Ye))) ?_));refine Za rfl ?_
 refine' L.anK 4 (s:=11) (p:=15) rfl (fun hg1=>?_) (fun hg1=>?_) ?_;rotate_left
 ·refine Zk rfl Tf.f158_2 rfl<|cR rfl (k:=2) Tf.a99 Tf.s99 rfl hB2 Yc rfl rfl GT rfl ⟨_,rfl,rfl⟩<|Zf rfl (fun D2 hD2=>R7 (m.lo,m.hi) _)<|Zy rfl ?_;exact L.cu 3
 ·refine Zh rfl<|Zh rfl<|Zh rfl<|Zz rfl ?_;exact L.cu 3
 refine Zi rfl<|L.n5 ?_;exact leave1 rfl rfl rfl rfl (fun D hD=>rfl)
theorem pT(sv fv:Value)(xs:List (Int×Int))(p:(Int×Int)→Bool)(D:aA)(hS:Sl D I2 2 sv xs)(hp:cN Tryz.prog D jC fv p):
  Fn Tryz.prog 298 #[sv,fv] D (fun _ v=>v=.int .i64 (idxOf p xs)):=by
 have hl:=hS.len;obtain⟨f,c1,c2,rfl,hf⟩:=hp;refine enter 19 Tryz.func298 rfl rfl rfl rfl fun h0=>C.s1<|Zi rfl<|L.n4<|Za rfl<|aO rfl U29 rfl Yk rfl rfl trivial<|Za rfl<|L.n1<|Zai<|bT (γ:=Nat) (fun k=>xs.length-k) (fun k=>k≤xs.length∧(xs.take k).any p=false) (fun k=>[(8,.int .i64 k)]) [(7,_),(4,_),(0,_),(1,_)] (fun k=>[D]) 0 Ye ⟨Ya,cW⟩ C.rs (aD) ?_
 rintro k ⟨h1,h2⟩;refine C.s1<|Zac rfl<|L.n2<|aE rfl (fun hc1=>?_) (fun hc1=>?_)
 ·have hk:k<xs.length:=by omega
  obtain⟨x,hx⟩:=C.ge xs k;refine C.kn<|aK<|Zai<|C.s1<|Za rfl<|Zi rfl<|L.n3<|Za rfl<|Za rfl<|Za rfl<|cT rfl U29 Tf.s99 rfl Yk rfl Yd Yk rfl cW (fun b1 o1 cs1 hr1 hcl1 hA1=>?_);obtain rfl:cs1=[.int .i64 _,.int .i64 _]:=hr1;refine Zq rfl Tf.a99 rfl hA1 Tf.s99<|Ze rfl (fun D1 hD1=>hf x _ (hD1 _ Ye))<|L.n1<|aI rfl (fun hc2=>?_) (fun hc2=>?_)
  ·refine C.s1<|Za rfl<|Zi rfl<|L.n5<|Zal<|Zah<|Zah<|Zal<|Zah ?_;exact leave1 rfl rfl rfl rfl (fun D hD=>by show Value.int _ _=_;rw[L1.gZ hx h2 hc2])
  ·refine bB<|Zak<|Zag<|C.rg<|Zw rfl<|Za rfl<|Zaa ?_;have hpx:p x=false:=hc2;have h3:(xs.take (k+1)).any p=false:=by rw[aMN,hx,aOY,h2];simp[hpx]
   exact aG 12 (k+1) ⟨by omega,h3⟩ Yd ⟨Ya,cW⟩ rfl rfl (LT _) (aD)
 ·refine aP<|Zaj<|Zaj<|Zam<|Zag<|C.s1<|Zi rfl<|L.n5 ?_;exact leave1 rfl rfl rfl rfl (fun D hD=>by show Value.int _ _=_;rw[L1.fA Yac])
theorem lW(sv fv:Value)(xs:List (Int×Int))(p:(Int×Int)→Bool)(D:aA)(hS:Sl D I2 2 sv xs)(hp:cN Tryz.prog D jC fv p):
  Fn Tryz.prog 273 #[sv,fv] D (fun _ v=>v=.bool (xs.any p)):=by
 refine enter 9 Tryz.func273 rfl rfl rfl rfl fun h0=>C.s1<|Zi rfl<|L.n3<|Za rfl<|Za rfl<|Ze rfl (fun D1 hD1=>pT _ _ xs p _ (Sl.at I2.up hD1 Yk Ye) (hp.up (hD1 _ Ye)))<|oT rfl rfl rfl rfl trivial<|Zi rfl<|L.n5 ?_
 exact leave1 rfl rfl rfl rfl (fun D hD=>by show Value.bool (decide _)=_;rw[L1.gX])
theorem N8(b:Nat)(fv:Value)(p:(Int×Int)→Bool)(x:(Int×Int))(D:aA)(hp:cN Tryz.prog D jC fv p)(hB:At D b 0 [fv]):
  Fn Tryz.prog 274 #[jC x,.pointer (some ⟨b,0,none⟩)] D (fun _ v=>v=.bool (!p x)):=by
 obtain⟨f,c1,c2,rfl,hf⟩:=hp;refine enter 8 Tryz.func274 rfl rfl rfl rfl fun h0=>C.s1<|Zt rfl (fun q1 E1 hE1 hB1=>Zi rfl<|L.n3<|Zc 0 rfl Tf.a349 rfl hB rfl<|Zq rfl Tf.a99 rfl hB1 Tf.s99<|Ze rfl (fun D1 hD1=>hf x _ (hD1 _ Ye))<|Zae rfl<|Zi rfl<|L.n5 ?_)
 exact leave1 rfl rfl rfl rfl (fun D hD=>rfl)
theorem s7(sv fv:Value)(xs:List (Int×Int))(p:(Int×Int)→Bool)(D:aA)(hS:Sl D I2 2 sv xs)(hp:cN Tryz.prog D jC fv p)(h1:fv.cells=#[fv]):
  Fn Tryz.prog 213 #[sv,fv] D (fun _ v=>v=.bool (xs.all p)):=by
 refine enter 9 Tryz.func213 rfl rfl rfl rfl fun h0=>C.s1<|mX (vs:=[fv]) rfl rfl h1 rfl cW (fun b D1 hD1 hB=>Zi rfl<|L.n3<|Za rfl<|bH rfl rfl rfl rfl trivial<|Ze rfl (fun D1 hD1=>lW _ _ xs (fun x=> !p x) _ (Sl.at I2.up hD1 Yk Ye) ⟨_,[],[.pointer (some ⟨b,0,none⟩)],rfl,fun x D2 hl=>N8 b fv p x D2 (hp.up ((hD1 _ Ye).trans hl)) (hB.up ((hD1 _ Ye).trans hl))⟩)<|Zae rfl<|Zi rfl<|L.n5 ?_)
 exact leave1 rfl rfl rfl rfl (fun D hD=>by show Value.bool (!_)=_;rw[L1.kM])
theorem W1(sv fv:Value)(xs:List Mk)(p:Mk→Bool)(D:aA)(hS:Sl D EY 4 sv xs)(hp:cN Tryz.prog D aJL fv p):
  Fn Tryz.prog 299 #[sv,fv] D (fun _ v=>v=.int .i64 (idxOf p xs)):=by
 have hl:=hS.len;obtain⟨f,c1,c2,rfl,hf⟩:=hp;refine enter 19 Tryz.func299 rfl rfl rfl rfl fun h0=>C.s1<|Zi rfl<|L.n4<|Za rfl<|aO rfl U30 rfl Yk rfl rfl trivial<|Za rfl<|L.n1<|Zai<|bT (γ:=Nat) (fun k=>xs.length-k) (fun k=>k≤xs.length∧(xs.take k).any p=false) (fun k=>[(8,.int .i64 k)]) [(7,_),(4,_),(0,_),(1,_)] (fun k=>[D]) 0 Ye ⟨Ya,cW⟩ C.rs (aD) ?_
 rintro k ⟨h1,h2⟩;refine C.s1<|Zac rfl<|L.n2<|aE rfl (fun hc1=>?_) (fun hc1=>?_)
 ·have hk:k<xs.length:=by omega
  obtain⟨x,hx⟩:=C.ge xs k;refine C.kn<|aK<|Zai<|C.s1<|Za rfl<|Zi rfl<|L.n3<|Za rfl<|Za rfl<|Za rfl<|cT rfl U30 Tf.s158 rfl Yk rfl Yd Yk rfl cW (fun b1 o1 cs1 hr1 hcl1 hA1=>?_);obtain rfl:cs1=[.int .i64 _,.int .i64 _,.int .i64 _,.int .i64 _]:=hr1;refine Zq rfl Tf.a158 rfl hA1 Tf.s158<|Ze rfl (fun D1 hD1=>hf x _ (hD1 _ Ye))<|L.n1<|aI rfl (fun hc2=>?_) (fun hc2=>?_)
  ·refine C.s1<|Za rfl<|Zi rfl<|L.n5<|Zal<|Zah<|Zah<|Zal<|Zah ?_;exact leave1 rfl rfl rfl rfl (fun D hD=>by show Value.int _ _=_;rw[L1.gZ hx h2 hc2])
  ·refine bB<|Zak<|Zag<|C.rg<|Zw rfl<|Za rfl<|Zaa ?_;have hpx:p x=false:=hc2;have h3:(xs.take (k+1)).any p=false:=by rw[aMN,hx,aOY,h2];simp[hpx]
   exact aG 12 (k+1) ⟨by omega,h3⟩ Yd ⟨Ya,cW⟩ rfl rfl (LT _) (aD)
 ·refine aP<|Zaj<|Zaj<|Zam<|Zag<|C.s1<|Zi rfl<|L.n5 ?_;exact leave1 rfl rfl rfl rfl (fun D hD=>by show Value.int _ _=_;rw[L1.fA Yac])
theorem A0(sv fv:Value)(xs:List Mk)(p:Mk→Bool)(D:aA)(hS:Sl D EY 4 sv xs)(hp:cN Tryz.prog D aJL fv p):
  Fn Tryz.prog 276 #[sv,fv] D (fun _ v=>v=.bool (xs.any p)):=by
 refine enter 9 Tryz.func276 rfl rfl rfl rfl fun h0=>C.s1<|Zi rfl<|L.n3<|Za rfl<|Za rfl<|Ze rfl (fun D1 hD1=>W1 _ _ xs p _ (Sl.at EY.up hD1 Yk Ye) (hp.up (hD1 _ Ye)))<|oT rfl rfl rfl rfl trivial<|Zi rfl<|L.n5 ?_
 exact leave1 rfl rfl rfl rfl (fun D hD=>by show Value.bool (decide _)=_;rw[L1.gX])
theorem WY(b:Nat)(fv:Value)(p:Mk→Bool)(x:Mk)(D:aA)(hp:cN Tryz.prog D aJL fv p)(hB:At D b 0 [fv]):
  Fn Tryz.prog 277 #[aJL x,.pointer (some ⟨b,0,none⟩)] D (fun _ v=>v=.bool (!p x)):=by
 obtain⟨f,c1,c2,rfl,hf⟩:=hp;refine enter 8 Tryz.func277 rfl rfl rfl rfl fun h0=>C.s1<|Zt rfl (fun q1 E1 hE1 hB1=>Zi rfl<|L.n3<|Zc 0 rfl Tf.a347 rfl hB rfl<|Zq rfl Tf.a158 rfl hB1 Tf.s158<|Ze rfl (fun D1 hD1=>hf x _ (hD1 _ Ye))<|Zae rfl<|Zi rfl<|L.n5 ?_)
 exact leave1 rfl rfl rfl rfl (fun D hD=>rfl)
theorem aEB(sv fv:Value)(xs:List Mk)(p:Mk→Bool)(D:aA)(hS:Sl D EY 4 sv xs)(hp:cN Tryz.prog D aJL fv p)(h1:fv.cells=#[fv]):
  Fn Tryz.prog 217 #[sv,fv] D (fun _ v=>v=.bool (xs.all p)):=by
 refine enter 9 Tryz.func217 rfl rfl rfl rfl fun h0=>C.s1<|mX (vs:=[fv]) rfl rfl h1 rfl cW (fun b D1 hD1 hB=>Zi rfl<|L.n3<|Za rfl<|bH rfl rfl rfl rfl trivial<|Ze rfl (fun D1 hD1=>A0 _ _ xs (fun x=> !p x) _ (Sl.at EY.up hD1 Yk Ye) ⟨_,[],[.pointer (some ⟨b,0,none⟩)],rfl,fun x D2 hl=>WY b fv p x D2 (hp.up ((hD1 _ Ye).trans hl)) (hB.up ((hD1 _ Ye).trans hl))⟩)<|Zae rfl<|Zi rfl<|L.n5 ?_)
 exact leave1 rfl rfl rfl rfl (fun D hD=>by show Value.bool (!_)=_;rw[L1.kM])
theorem uN(b:Nat)(fv:Value)(p:Int→Bool)(x:Int)(D:aA)(hp:cN Tryz.prog D iV fv p)(hB:At D b 0 [fv]):
  Fn Tryz.prog 275 #[iV x,.pointer (some ⟨b,0,none⟩)] D (fun _ v=>v=.bool (!p x)):=by
 obtain⟨f,c1,c2,rfl,hf⟩:=hp;refine enter 8 Tryz.func275 rfl rfl rfl rfl fun h0=>C.s1<|Zi rfl<|L.n3<|Zc 0 rfl Tf.a191 rfl hB rfl<|Za rfl<|Ze rfl (fun D1 hD1=>hf x _ (hD1 _ Ye))<|Zae rfl<|Zi rfl<|L.n5 ?_
 exact leave1 rfl rfl rfl rfl (fun D hD=>rfl)
theorem xY(sv fv:Value)(xs:List Int)(p:Int→Bool)(D:aA)(hS:Sl D RI 1 sv xs)(hp:cN Tryz.prog D iV fv p)(h1:fv.cells=#[fv]):
  Fn Tryz.prog 216 #[sv,fv] D (fun _ v=>v=.bool (xs.all p)):=by
 refine enter 9 Tryz.func216 rfl rfl rfl rfl fun h0=>C.s1<|mX (vs:=[fv]) rfl rfl h1 rfl cW (fun b D1 hD1 hB=>Zi rfl<|L.n3<|Za rfl<|bH rfl rfl rfl rfl trivial<|Ze rfl (fun D1 hD1=>L1.jP _ _ xs (fun x=> !p x) _ (Sl.at RI.up hD1 Yk Ye) ⟨_,[],[.pointer (some ⟨b,0,none⟩)],rfl,fun x D2 hl=>uN b fv p x D2 (hp.up ((hD1 _ Ye).trans hl)) (hB.up ((hD1 _ Ye).trans hl))⟩)<|Zae rfl<|Zi rfl<|L.n5 ?_)
 exact leave1 rfl rfl rfl rfl (fun D hD=>by show Value.bool (!_)=_;rw[L1.kM])
theorem YF(sv:Value)(x:Int)(xs:List Int)(D:aA)(hS:Sl D RI 1 sv (x::xs)):
  Fn Tryz.prog 224 #[sv] D (fun _ v=>v=.int .i64 (xs.foldl max x)):=by
 have hl:=hS.len;simp only[aMI]at hl;refine enter 25 Tryz.func224 rfl rfl rfl rfl fun h0=>C.s1<|Zi rfl<|L.n4<|Za rfl<|aO rfl U25 rfl Yk rfl rfl trivial<|Zac rfl<|L.n1<|aE rfl (fun hc1=>?_) (fun hc1=>?_)
 ·exact absurd hc1 (by simp only[aMI];omega)
 ·refine C.kn<|C.s1<|Za rfl<|cT rfl U25 Tf.s3 rfl Yk rfl Yd (by rfl) rfl cW (fun b1 o1 cs1 hr1 hcl1 hA1=>?_);obtain rfl:cs1=[.int .i64 _]:=hr1;refine Zc 0 rfl Tf.a3 rfl hA1 rfl<|Zi rfl<|L.n4<|Zi rfl<|L.n1<|Zai<|bT (γ:=Nat) (fun k=>xs.length-k) (fun k=>k≤xs.length) (fun k=>[(3,.int .i64 ((xs.take k).foldl max x)),(4,.int .i64 (k+1:Int))]) [(2,_),(0,_)] (fun k=>[D]) 0 Yd ⟨Ya,Ya,cW⟩ C.rs (aD) ?_;rintro k h1;refine C.s2<|Za rfl<|Za rfl<|aO rfl U25 rfl Yk rfl rfl trivial<|Zac rfl<|L.n1<|aE rfl (fun hc2=>?_) (fun hc2=>?_)
  ·simp only[aMI]at hc2;have hk:k<xs.length:=by omega
   obtain⟨y,hy⟩:=C.ge xs k;have hy2:(x::xs)[(k+1:Int).toNat]?= some y:=by rw[show((k:Int)+1).toNat=k+1 by omega];simpa using hy
   refine C.kn<|aK<|Zai<|C.rg<|Za rfl<|Za rfl<|Za rfl<|cT rfl U25 Tf.s3 rfl Yk rfl Yd Yk rfl cW (fun b2 o2 cs2 hr2 hcl2 hA2=>?_);obtain rfl:cs2=[.int .i64 _]:=hr2;refine Zc 0 rfl Tf.a3 rfl hA2 rfl<|pU rfl rfl rfl rfl trivial<|Zi rfl<|Zaa<|Zak<|Zag<|C.rg<|Za rfl<|Zw rfl<|Zi rfl<|Zaa ?_;have h3:(xs.take (k+1)).foldl max x=max ((xs.take k).foldl max x) y:=by rw[aMN,hy,aOA];rfl
   exact aG 16 (k+1) Yd Yd ⟨(by rw[h3];rfl),Ya,cW⟩ rfl rfl (LT _) (aD)
  ·simp only[aMI]at hc2;refine aP<|Zaj<|Zaj<|Zam<|Zag<|C.s1<|Za rfl<|Zi rfl<|L.n5 ?_;exact leave1 rfl rfl rfl rfl (fun D hD=>by show Value.int _ _=_;rw[aNA Yd])
end L2
end Go.Fs
namespace Go.Fs
variable{P:Program}{X:Cx}{γb:Type}[Membership Nat γb]{bad:γb}{all:Array Oper}{K:Act→World→Prop}{Q:Exit→Act→World→Prop}
variable{σ:bI}{μ:aC}{Ds:List aA}{os:List (Bool×Nat)}{fl:Bool}{ix:Nat}
variable{d:Nat}{x y z:Operand}{u v:Value}{ty:TypeId}{pos:String}{aft:Array Edge}{g:Option (Nat×Bool)}
theorem K2.key{k:TypeId}(h:K2 P k):I0 P k jC:=by
 refine⟨⟨_,h.1⟩,fun a b w=>?_,fun em a w=>H9 h em a w,fun a=>?_,fun a=>⟨_,rfl⟩⟩
 ·rw[xX h];congr 1;by_cases e:a=b
  ·subst e;simp
  ·simp[e]
 ·simp[jC,Instr.sameBits]

theorem MK{em:Bool}{t e:TypeId}{n:Nat}(t1:P.underlying t=some (.array n e))(te:P.underlying e=some (.int .i64))(hse:TS P e 1){r:List Int}(hr:r.length=n)(w:World):(Instr.checkKey em (9998+1) t (.agg (ints r).toArray)).run P w=.ok () w:=by
 have ce:∀m:Int,(Instr.checkKey em (9997+1) e (.int .i64 m)).run P w=.ok () w:=fun m=>by
  rw[Instr.checkKey,Sem.run_bind,TU.of te w];rfl
 rw[Instr.checkKey,Sem.run_bind,TU.of t1 w];simp only[Result.andThen_ok];rw[Std.Legacy.Range.forIn_eq_forIn_range'];have key:∀(is:List Nat),(∀i∈is,i<n)→((forIn is PUnit.unit fun i _=>do Instr.checkKey em 9998 e (←part e (ints r).toArray (i*(←sizeOf e)));Pure.pure (ForInStep.yield PUnit.unit):Sem PUnit)).run P w=.ok PUnit.unit w:=by
  intro is;induction is with
  |nil=>intro _;rfl
  |cons i is ih=>
   intro hi;have hlt:=hi i aMF;have g1:(ints r).toArray[i*1]?= some (.int .i64 r[i]):=by rw[aPE];simpa using cA (LE (show i<r.length by omega))
   rw[List.forIn_cons];simp only[Sem.run_bind,hse w,Result.andThen_ok,cO te g1];rw[ce];simp only[Result.andThen_ok,Sem.run_pure];exact ih fun j hj=>hi j (aLZ _ hj)
 have:=key (List.range' 0 n) (fun i hi=>by simpa using hi);simpa using this
def KM(P:Program)(k:TypeId)(n:Nat):Prop:=∃f0 f1 f2 e,P.underlying k=some (.struct (P.fieldsOf k))∧P.fieldsOf k=#[f0,f1,f2]∧f0.name≠ "_" ∧f1.name≠ "_" ∧f2.name≠ "_" ∧f0.offset=0∧f1.offset=1∧f2.offset=n+1∧
 P.underlying f0.type=some (.int .i64)∧P.underlying f1.type=some (.array n e)∧P.underlying f2.type=some (.array n e)∧P.underlying e=some (.int .i64)∧TA P f1.type true∧TS P f1.type n∧TA P f2.type true∧TS P f2.type n∧TS P e 1
theorem KM.key{k:TypeId}{n:Nat}(h:KM P k n)(hks:KS P k (n+n+1)):I0 P k (qB (n:=n+n+1)):=by
 obtain⟨f0,f1,f2,e,hu,hf,n0,n1,n2,o0,o1,o2,t0,t1,t2,te,a1,s1,a2,s2,hse⟩:=h;refine⟨⟨_,hu⟩,fun a b w=>?_,fun em a w=>?_,fun a=>?_,fun a=>⟨_,rfl⟩⟩
 ·have:=G7 (P:=P) hks a.h b.h w;show(Op.equal k (.agg (ints a.l).toArray) (.agg (ints b.l).toArray)).run P w=_;rw[this];congr 1;obtain⟨la,ha⟩:=a;obtain⟨lb,hb⟩:=b;rw[aPR];simp
 ·have hl:=a.h;have c0:∀x:Int,(Instr.checkKey em (9998+1) f0.type (.int .i64 x)).run P w=.ok () w:=fun x=>by
   rw[Instr.checkKey,Sem.run_bind,TU.of t0 w];rfl
  obtain⟨x,hx⟩:=C.ge a.l 0;have p0:(part f0.type (ints a.l).toArray f0.offset).run P w=.ok (.int .i64 x) w:=cO t0 (by rw[o0];simpa using cA hx) w
  have p1:(part f1.type (ints a.l).toArray f1.offset).run P w=.ok (.agg (ints ((a.l.drop 1).take n)).toArray) w:=by rw[o1];exact nY a1 s1 Yd w
  have p2:(part f2.type (ints a.l).toArray f2.offset).run P w=.ok (.agg (ints ((a.l.drop (n+1)).take n)).toArray) w:=by rw[o2];exact nY a2 s2 Yd w
  have c1:=MK (em:=em) t1 te hse (r:=(a.l.drop 1).take n) (by rw[aON,aOS];omega) w;have c2:=MK (em:=em) t2 te hse (r:=(a.l.drop (n+1)).take n) (by rw[aON,aOS];omega) w
  show(Instr.checkKey em (9999+1) k (.agg (ints a.l).toArray)).run P w=_;rw[Instr.checkKey,Sem.run_bind,TU.of hu w];simp only[Result.andThen_ok];rw[hf,←Array.forIn_toList];simp only[List.forIn_cons,List.forIn_nil,n0,n1,n2,ne_eq,aQP,aOJ,Sem.run_bind,p0,Result.andThen_ok,Sem.run_pure];rw[c0];simp only[Result.andThen_ok,Sem.run_pure,Sem.run_bind,p1];rw[c1];simp only[Result.andThen_ok,Sem.run_pure,Sem.run_bind,p2];rw[c2];simp[Sem.run_pure,Result.andThen_ok]
 ·show Instr.sameBits (9999+1) (.agg (ints a.l).toArray) (.agg (ints a.l).toArray)=true;simp only[Instr.sameBits,beq_self_eq_true,aPM,aMU];rintro⟨p,q⟩ hpq;obtain⟨i,hi⟩:=aPW.1 hpq;rw[List.getElem?_zip_eq_some]at hi;obtain⟨h1,h2⟩:=hi;simp only at h1 h2;rw[h1]at h2;obtain rfl:=aMY h2;have:p∈ints a.l:=aLW (by simpa using h1);obtain⟨m,_,rfl⟩:=aMB.1 this;simp[Instr.sameBits]
variable{α β:Type}[DecidableEq α]{val:α→Value}{wal:β→Value}
def oZ(val:α→Value)(wal:β→Value)(es:Array MapEntry)(M:List (α×β)):Prop:=es.toList.map (fun e=>(e.key,e.val))=M.map fun x=>(val x.1,wal x.2)
def tF(a:α):List (α×β)→Nat→Option (Nat×β)
 | [],_=>none
 |(b,n)::M,i=>if a=b then some (i,n)else tF a M (i+1)
theorem vC{a:α}:∀{M:List (α×β)} {i j:Nat} {n:β},tF a M i=some (j,n)→∃k,j=i+k∧M[k]?= some (a,n)
 |(b,m)::M,i,j,n,h=>by
  simp only[tF]at h;split at h
  ·rename_i he;cases h;exact⟨0,rfl,by rw[he];rfl⟩
  ·obtain⟨k,rfl,hk⟩:=vC h;exact⟨k+1,by omega,by simpa using hk⟩
theorem qF{k:TypeId}(h:I0 P k val)(a:α)(w:World):∀(es:List MapEntry) (M:List (α×β)) (i:Nat),es.map (fun e=>(e.key,e.val))=M.map (fun x=>(val x.1,wal x.2))→
  (Instr.findAsking k (val a) es i).run P w=.ok ((tF a M i).map fun p=>(p.1,wal p.2)) w
 | [],[],i,_=>rfl
 | [],_::_,i,hm=>by simp at hm
 |e::es,[],i,hm=>by simp at hm
 |e::es,(b,n)::M,i,hm=>by
  simp only[aMZ,aOC,aPX]at hm;obtain⟨⟨hk,hv⟩,hm⟩:=hm;simp only[Instr.findAsking,Sem.run_bind,hk,h.eq,Result.andThen_ok,tF];by_cases he:a=b
  ·subst he;simp only[decide_true,aOJ,Sem.run_pure,hv];rfl
  ·simp only[he,decide_false,aNJ,aOP];exact qF h a w es M (i+1) hm
theorem qA{k:TypeId}(h:I0 P k val)(a:α)(w:World){es:List MapEntry}{M:List (α×β)}(hm:es.map (fun e=>(e.key,e.val))=M.map (fun x=>(val x.1,wal x.2))):
  (Instr.findKey k (val a) es).run P w=.ok ((tF a M 0).map fun p=>(p.1,wal p.2)) w:=by
 obtain⟨fs,hu⟩:=h.und;unfold Instr.findKey;rw[Sem.run_bind,TU.of hu w];cases es with
 |nil=>
  cases M with
  |nil=>rfl
  |cons x M=>simp at hm
 |cons e es=>
  have hn:Instr.findNow (.struct fs) (val a) (e::es) 0=none:=by
   obtain⟨cs,hc⟩:=h.agg a;rw[hc];rfl
  simp only[Result.andThen_ok,hn];exact qF h a w (e::es) M 0 hm
theorem A5{t k e:TypeId}{b clock:Nat}{es:Array MapEntry}{M:List (α×β)}{a:α}(ho:all[ix]?= some ⟨some d,.lookup t x y true,ty,pos,aft,g⟩)(ht:P.underlying t=some (.map k e))(hk:I0 P k val){z0:Value}(hz:TZ P e z0)
  (hx:ev σ x=some (.map (some b))) (hy:ev σ y=some (val a)) (hm:(b,Obj.map es clock)∈μ) (hb:b∉bad) (hM:oZ val wal es M) (hN:Nat.blt d X.N=true) (hg:cY all σ g)
  (kk:∀n ok,(ok=true→∃r,n=wal r∧(a,r)∈M)→(ok=false→n=z0)→WL P X bad all K Q os ((d,.tuple #[n,.bool ok])::σ) μ Ds):WL P X bad all K Q ((fl,ix)::os) σ μ Ds:=by
 have run:∀w,w.heap[b]?= some (Obj.map es clock)→(Instr.lookup t (.map (some b)) (val a) true).run P w=.ok (.tuple #[(match tF a M 0 with|some (_,v)=>wal v|none=>z0),.bool (tF a M 0).isSome]) w:=by
  intro w hw;have hf:=qA hk a w hM;unfold Instr.lookup;simp only[Sem.run_bind,TU.of ht w,Result.andThen_ok,gS hw,Sem.run_pure,hk.chk];rw[hf];cases tF a M 0 with
  |none=>simp only[aOK,Result.andThen_ok,Sem.run_bind,hz w,Sem.run_pure];rfl
  |some r=>obtain⟨j,v⟩:=r;simp only[aNN,Result.andThen_ok];rfl
 refine jT ho rfl rfl hN hg (fun a' w hh w' hk'=>?_) (kk (match tF a M 0 with|some (_,v)=>wal v|none=>z0) (tF a M 0).isSome (fun hok=>?_) fun hok=>?_)
 ·simp only[execOp,hh.eval hx,hh.eval hy,Sem.run_bind,run w' (hh.boxAt hm hb hk'),Result.andThen_ok,Sem.run_pure]
 ·cases hp:tF a M 0 with
  |none=>rw[hp]at hok;cases hok
  |some r=>
   obtain⟨j,n⟩:=r;obtain⟨i,_,hi⟩:=vC hp;exact⟨n,rfl,aLW hi⟩
 ·cases hp:tF a M 0 with
  |none=>rfl
  |some r=>rw[hp]at hok;cases hok
theorem jO{t k e:TypeId}{b clock:Nat}{es:Array MapEntry}{M:List (α×β)}{a:α}{n:β}{A B:aC}(ho:all[ix]?= some ⟨none,.mapUpdate t x y z,ty,pos,aft,g⟩)(ht:P.underlying t=some (.map k e))(hk:I0 P k val)
  (hx:ev σ x=some (.map (some b))) (hy:ev σ y=some (val a)) (hz:ev σ z=some (wal n)) (hM:oZ val wal es M) (hg:cY all σ g)
  (kk:∀es' clock' M',oZ val wal es' M'→(∀p∈M',p∈M∨p=(a,n))→WL P X bad all K Q os σ (A++(b,.map es' clock')::B) Ds):WL P X bad all K Q ((false,ix)::os) σ (A++(b,.map es clock)::B) Ds:=by
 refine dP ho rfl rfl hg fun a' w hh=>?_
 obtain⟨h1,h2,h3,D,h4,h5,h6⟩:=id hh;have hw:=(h4.box (b,.map es clock) Ye).1;have run:∃es' clock' M',oZ val wal es' M'∧(∀p∈M',p∈M∨p=(a,n))∧(Instr.mapUpdate t (.map (some b)) (val a) (wal n)).run P w=.ok () {w with heap:=w.heap.setIfInBounds b (.map es' clock')}:=by
  have hf:=qA hk a w hM;have hset:∀o,(setObj b o).run P w=.ok () {w with heap:=w.heap.setIfInBounds b o}:=fun o=>by simp[setObj,Sem.run,hw]
  cases hp:tF a M 0 with
  |none=>
   refine⟨es.push {key:=val a,val:=wal n,born:=clock},clock+1,M++[(a,n)],?_,fun p hp=>by simpa using hp,?_⟩
   ·unfold oZ at hM ⊢
    rw[Array.toList_push,aMP,aMP,hM];rfl
   ·unfold Instr.mapUpdate;simp only[Sem.run_bind,TU.of ht w,Result.andThen_ok,gS hw,hk.chk];rw[hf,hp];simp only[aOK,Result.andThen_ok,hset]
  |some r=>
   obtain⟨j,m⟩:=r;obtain⟨i,hi0,hi⟩:=vC hp;rw[aPC]at hi0;subst hi0
   have hMi:∀i,(es.toList[i]?).map (fun e:MapEntry=>(e.key,e.val))=(M[i]?).map (fun x:α×β=>(val x.1,wal x.2)):=fun i=>by rw[←aNB,←aNB,hM]
   have hj:=hMi j;rw[hi]at hj;obtain⟨e0,he0,hke⟩:=aOZ.1 hj;simp only[aPX]at hke;have he0':es[j]?= some e0:=by simpa using he0
   refine⟨es.modify j fun e=>{e with key:=val a,val:=wal n},clock,M.set j (a,n),?_,fun p hp=>(aRE hp),?_⟩
   ·unfold oZ;apply aRB;intro q;rw[aNB,aNB,Array.getElem?_toList,Array.getElem?_modify,List.getElem?_set];have hq:=hMi q;rw[Array.getElem?_toList]at hq;by_cases hjq:j=q
    ·subst hjq;have hlt:=(aMH.1 hi).1;simp[he0',hlt]
    ·simp only[hjq,aOP];exact hq
   ·have hks:(Instr.keyThatStays (val a) (val a)).run P w=.ok (val a) w:=by
     have:Instr.sameBits 10000 (val a) (val a)=true:=hk.stay a;unfold Instr.keyThatStays;rw[aMT this,Sem.run_pure]
    unfold Instr.mapUpdate;simp only[Sem.run_bind,TU.of ht w,Result.andThen_ok,gS hw,hk.chk];rw[hf,hp];simp only[aNN,Result.andThen_ok,he0',aPG,hke.1,Sem.run_bind,hks,hset]
 obtain⟨es',clock',M',hM',hmem,hr⟩:=run;have hHas:bS (A++(b,Obj.map es clock)::B) b (.map es clock) (.map es' clock') (A++(b,.map es' clock')::B):=.app .head;have hs:=h4.set (w':={w with heap:=w.heap.setIfInBounds b (.map es' clock')}) hHas ⟨rfl,rfl⟩ trivial;have:(execOp a'.eval ⟨none,.mapUpdate t x y z,ty,pos,aft,g⟩).run P w=.ok .skip {w with heap:=w.heap.setIfInBounds b (.map es' clock')}:=by
  simp only[execOp,hh.eval hx,hh.eval hy,hh.eval hz,Sem.run_bind,hr,Result.andThen_ok,Sem.run_pure]
 rw[this];exact⟨fun h=>by simp at h,kk es' clock' M' hM' hmem _ _ ⟨h1,h2,h3,D,hs,h5,h6.step (fun _ p hp=>aMR Yq) (fun _=>gL ⟨rfl,rfl⟩ (aMB.2 ⟨_,hHas.mem,rfl⟩)) hs.dom⟩⟩
end Go.Fs
namespace Go.Fs
variable{P:Program}{X:Cx}{γb:Type}[Membership Nat γb]{bad:γb}{all:Array Oper}{K:Act→World→Prop}{Q:Exit→Act→World→Prop}
variable{σ:bI}{μ:aC}{Ds:List aA}{os:List (Bool×Nat)}{fl:Bool}{ix:Nat}
variable{d:Nat}{x y z:Operand}{u v:Value}{ty:TypeId}{pos:String}{aft:Array Edge}{g:Option (Nat×Bool)}
def aHY:Unit→Value:=fun _=>.bool true
structure qD(es:Array MapEntry)(clock:Nat)(S:List (Int×Int)):Prop where
 cells:oZ jC aHY es (S.map fun a=>(a,()))
 nd:(es.toList.map (·.born)).Nodup
 lt:∀e∈es.toList,e.born<clock
theorem qD.nil:qD #[] 0 []:=⟨rfl,aOH,fun e he=>by simp at he⟩
def CQ(S:List (Int×Int))(a:Int×Int):List (Int×Int):=if a∈S then S else S++[a]
theorem WG{S:List (Int×Int)}{a p:Int×Int}:p∈CQ S a ↔ p∈S∨p=a:=by
 unfold CQ;split
 ·rename_i h;exact⟨aMR,fun h'=>h'.elim id fun e=>e▸h⟩
 ·simp
theorem qD.key{es:Array MapEntry}{clock:Nat}{S:List (Int×Int)}(h:qD es clock S){e:MapEntry}(he:e∈es.toList):∃a∈S,e.key=jC a∧e.val=.bool true:=by
 have h1:=h.cells;unfold oZ at h1;obtain⟨i,hi⟩:=aPW.1 he;have h2:(es.toList.map fun e=>(e.key,e.val))[i]?= some (e.key,e.val):=by rw[aNB,hi];rfl
 rw[h1,aQY,aNB]at h2;obtain⟨a,ha,hk⟩:=aOZ.1 h2;simp only[Function.comp,aPX]at hk;exact⟨a,aLW ha,hk.1.symm,hk.2.symm⟩
theorem qD.ent{es:Array MapEntry}{clock:Nat}{S:List (Int×Int)}(h:qD es clock S){a:Int×Int}(ha:a∈S):∃e∈es.toList,e.key=jC a:=by
 have h1:=h.cells;unfold oZ at h1;obtain⟨i,hi⟩:=aPW.1 ha;have h2:((S.map fun a=>(a,())).map fun x=>(jC x.1,aHY x.2))[i]?= some (jC a,.bool true):=by rw[aQY,aNB,hi];rfl
 rw[←h1,aNB]at h2;obtain⟨e,he,hk⟩:=aOZ.1 h2;simp only[aPX]at hk;exact⟨e,aLW he,hk.1⟩
theorem OQ{S:List (Int×Int)}{a:Int×Int}:∀{i:Nat},tF a (S.map fun a=>(a,())) i=none→a∉S:=by
 induction S with
 |nil=>intro i _;exact GT
 |cons b S ih=>
  intro i h;simp only[aMZ,tF]at h;split at h
  ·cases h
  ·rename_i hne;intro hm;rcases aLX.1 hm with e|hm
   ·exact hne e
   ·exact ih h hm
theorem aIT{t k e:TypeId}{b clock:Nat}{es:Array MapEntry}{S:List (Int×Int)}{a:Int×Int}{A B:aC}(ho:all[ix]?= some ⟨none,.mapUpdate t x y z,ty,pos,aft,g⟩)(ht:P.underlying t=some (.map k e))(hk:K2 P k)
  (hx:ev σ x=some (.map (some b))) (hy:ev σ y=some (jC a)) (hz:ev σ z=some (.bool true)) (hM:qD es clock S) (hg:cY all σ g)
  (kk:∀es' clock',qD es' clock' (CQ S a)→WL P X bad all K Q os σ (A++(b,.map es' clock')::B) Ds):WL P X bad all K Q ((false,ix)::os) σ (A++(b,.map es clock)::B) Ds:=by
 refine dP ho rfl rfl hg fun a' w hh=>?_
 obtain⟨h1,h2,h3,D,h4,h5,h6⟩:=id hh;have hw:=(h4.box (b,.map es clock) Ye).1;have hK:=hk.key;have run:∃es' clock',qD es' clock' (CQ S a)∧(Instr.mapUpdate t (.map (some b)) (jC a) (.bool true)).run P w=.ok () {w with heap:=w.heap.setIfInBounds b (.map es' clock')}:=by
  have hf:=qA (wal:=aHY) hK a w hM.cells;have hset:∀o,(setObj b o).run P w=.ok () {w with heap:=w.heap.setIfInBounds b o}:=fun o=>by simp[setObj,Sem.run,hw]
  cases hp:tF a (S.map fun a=>(a,())) 0 with
  |none=>
   have hna:=OQ hp;refine⟨es.push {key:=jC a,val:=.bool true,born:=clock},clock+1,⟨?_,?_,?_⟩,?_⟩
   ·have hM':=hM.cells;unfold oZ at hM' ⊢
    unfold CQ;rw[aMM hna,Array.toList_push,aMP,hM',aMP,aMP];rfl
   ·rw[Array.toList_push,aMP,aMJ];refine⟨hM.nd,by simp,fun b1 hb1 b2 hb2=>?_⟩;obtain⟨e1,he1,rfl⟩:=aMB.1 hb1;have:=hM.lt e1 he1;simp only[aMZ,aQB,aML]at hb2;omega
   ·intro e1 he1;rw[Array.toList_push]at he1;rcases aMO.1 he1 with he1|he1
    ·have:=hM.lt e1 he1;omega
    ·simp only[aML]at he1;subst he1;exact Nat.lt_succ_self _
   ·unfold Instr.mapUpdate;simp only[Sem.run_bind,TU.of ht w,Result.andThen_ok,gS hw,hK.chk];rw[hf,hp];simp only[aOK,Result.andThen_ok,hset]
  |some r=>
   obtain⟨j,m⟩:=r;obtain⟨i,hi0,hi⟩:=vC hp;rw[aPC]at hi0;subst hi0
   have hSj:S[j]?= some a:=by
    rw[aNB]at hi;obtain⟨a',ha',hk'⟩:=aOZ.1 hi;rw[ha',(Prod.mk.inj hk').1]
   have hMi:∀i,(es.toList[i]?).map (fun e:MapEntry=>(e.key,e.val))=(S[i]?).map (fun x:Int×Int=>(jC x,Value.bool true)):=fun i=>by
    have:=hM.cells;unfold oZ at this;rw[←aNB,this,aQY,aNB];rfl
   have hj:=hMi j;rw[hSj]at hj;obtain⟨e0,he0,hke⟩:=aOZ.1 hj;simp only[aPX]at hke;have he0':es[j]?= some e0:=by simpa using he0
   have hmod:es.modify j (fun e=>{e with key:=jC a,val:=.bool true})=es:=by
    apply Array.ext_getElem?;intro q;rw[Array.getElem?_modify];by_cases hjq:j=q
    ·subst hjq;simp only[he0',aOJ,aNN];obtain⟨k0,v0,b0⟩:=e0;simp only at hke;rw[hke.1,hke.2]
    ·simp[hjq]
   refine⟨es,clock,?_,?_⟩
   ·unfold CQ;rw[aMT (aLW hSj)];exact hM
   ·have hks:(Instr.keyThatStays (jC a) (jC a)).run P w=.ok (jC a) w:=by
     have:Instr.sameBits 10000 (jC a) (jC a)=true:=hK.stay a;unfold Instr.keyThatStays;rw[aMT this,Sem.run_pure]
    unfold Instr.mapUpdate;simp only[Sem.run_bind,TU.of ht w,Result.andThen_ok,gS hw,hK.chk];rw[hf,hp];simp only[aNN,Result.andThen_ok,he0',aPG,hke.1,Sem.run_bind,hks,hset,hmod]
 obtain⟨es',clock',hM',hr⟩:=run;have hHas:bS (A++(b,Obj.map es clock)::B) b (.map es clock) (.map es' clock') (A++(b,.map es' clock')::B):=.app .head;have hs:=h4.set (w':={w with heap:=w.heap.setIfInBounds b (.map es' clock')}) hHas ⟨rfl,rfl⟩ trivial;have:(execOp a'.eval ⟨none,.mapUpdate t x y z,ty,pos,aft,g⟩).run P w=.ok .skip {w with heap:=w.heap.setIfInBounds b (.map es' clock')}:=by
  simp only[execOp,hh.eval hx,hh.eval hy,hh.eval hz,Sem.run_bind,hr,Result.andThen_ok,Sem.run_pure]
 rw[this];exact⟨fun h=>by simp at h,kk es' clock' hM' _ _ ⟨h1,h2,h3,D,hs,h5,h6.step (fun _ p hp=>aMR Yq) (fun _=>gL ⟨rfl,rfl⟩ (aMB.2 ⟨_,hHas.mem,rfl⟩)) hs.dom⟩⟩
theorem VI{t k e:TypeId}{b clock:Nat}{es:Array MapEntry}(ho:all[ix]?= some ⟨some d,.range t x,ty,pos,aft,g⟩)(ht:P.underlying t=some (.map k e))(hx:ev σ x=some (.map (some b)))(hm:(b,Obj.map es clock)∈μ)(hN:Nat.blt d X.N=true)(hg:cY all σ g)
  (kk:∀r,WL P X bad all K Q os ((d,.pointer (some ⟨r,0,none⟩))::σ) ((r,.mapIter (some b) clock #[] clock)::μ) Ds):WL P X bad all K Q ((fl,ix)::os) σ μ Ds:=by
 refine dP ho rfl rfl hg fun a w hh=>?_
 obtain⟨h1,h2,h3,D,h4,h5,h6⟩:=id hh;have:(execOp a.eval ⟨some d,.range t x,ty,pos,aft,g⟩).run P w=.ok (.value (.pointer (some ⟨w.heap.size,0,none⟩))) {w with heap:=w.heap.push (.mapIter (some b) clock #[] clock)}:=by
  simp only[execOp,hh.eval hx,Sem.run_bind,run_range_map w t k e b es clock ht (h4.box _ hm).1,Result.andThen_ok,Sem.run_pure];rfl
 rw[this];exact⟨fun _=>kS _ _ _,kk _ _ _ (Hl.put ⟨h1,h2,h3,D,h4.push _ (show cQ (.mapIter (some b) clock #[] clock)from cW),h5,h6.step (fun _ p hp=>by rcases aLX.1 hp with rfl|hp;exact Or.inr (aMS _);exact Or.inl (aMB.2 ⟨p,hp,rfl⟩)) (fun _=>tI _ _) (h4.push _ (show cQ (.mapIter (some b) clock #[] clock)from cW)).dom⟩ hN _)⟩
theorem aEK{b r since c0 clock:Nat}{seen:Array Nat}{es:Array MapEntry}{A B:aC}(ho:all[ix]?= some ⟨some d,.next x false,ty,pos,aft,g⟩)(hx:ev σ x=some (.pointer (some ⟨r,0,none⟩)))(hm:(b,Obj.map es clock)∈A++(r,.mapIter (some b) since seen c0)::B)
  (hold:∀e∈es.toList,e.born<since) (hsc:since≤c0) (hN:Nat.blt d X.N=true) (hg:cY all σ g)
  (kk:∀(ok:Bool) (vs:Array Value) (o':Obj),vs.toList[0]?= some (.bool ok)→(ok=false→(leftOf es seen).size=0∧o'=.mapIter (some b) since seen c0)→(ok=true→∃e∈(leftOf es seen).toList,o'=.mapIter (some b) since (seen.push e.born) clock)→WL P X bad all K Q os ((d,.tuple vs)::σ) (A++(r,o')::B) Ds):
  WL P X bad all K Q ((false,ix)::os) σ (A++(r,.mapIter (some b) since seen c0)::B) Ds:=by
 refine dP ho rfl rfl hg fun a w hh=>?_
 have hh0:=hh;obtain⟨h1,h2,h3,D,h4,h5,h6⟩:=id hh;have hr:=(h4.box (r,.mapIter (some b) since seen c0) Ye).1;have hb:=(h4.box _ hm).1;rcases run_next_at (P:=P) w ty r b since c0 seen es clock hr hb hold hsc with⟨hl,hrun⟩|⟨e,he,w1,hw1,hrun⟩
 ·have:(execOp a.eval ⟨some d,.next x false,ty,pos,aft,g⟩).run P w=.ok (.value (.tuple #[.bool false])) w:=by
   simp only[execOp,hh.eval hx,Sem.run_bind,hrun,Result.andThen_ok,Sem.run_pure]
  rw[this];exact⟨fun h=>by simp at h,kk false _ _ rfl (fun _=>⟨hl,rfl⟩) (fun h=>by cases h) _ _ (hh0.put hN _)⟩
 ·have hh1:Hl X σ (A++(r,.mapIter (some b) since seen c0)::B) Ds a w1:=by
   rcases hw1 with rfl|rfl
   ·exact hh0
   ·exact hh0.drew
  have:(execOp a.eval ⟨some d,.next x false,ty,pos,aft,g⟩).run P w=.ok (.value (.tuple #[.bool true,e.key,e.val])) (ChangeMaps.setBlock w1 r (.mapIter (some b) since (seen.push e.born) clock)):=by
   simp only[execOp,hh.eval hx,Sem.run_bind,hrun,Result.andThen_ok,Sem.run_pure]
  rw[this];obtain⟨h1,h2,h3,D,h4,h5,h6⟩:=hh1;have hHas:bS (A++(r,Obj.mapIter (some b) since seen c0)::B) r (.mapIter (some b) since seen c0) (.mapIter (some b) since (seen.push e.born) clock) (A++(r,.mapIter (some b) since (seen.push e.born) clock)::B):=.app .head;have hs:=h4.set (w':=ChangeMaps.setBlock w1 r (.mapIter (some b) since (seen.push e.born) clock)) hHas ⟨rfl,rfl⟩ trivial;exact⟨fun h=>by simp at h,kk true _ _ rfl (fun h=>by cases h) (fun _=>⟨e,he,rfl⟩) _ _ (Hl.put ⟨h1,h2,h3,D,hs,h5,h6.step (fun _ p hp=>aMR Yq) (fun _=>gL ⟨rfl,rfl⟩ (aMB.2 ⟨_,hHas.mem,rfl⟩)) hs.dom⟩ hN _)⟩
theorem VJ{b r since clock:Nat}{seen:Array Nat}{es:Array MapEntry}{e:MapEntry}(ho:all[ix]?= some ⟨some d,.entry x,ty,pos,aft,g⟩)(hx:ev σ x=some (.pointer (some ⟨r,0,none⟩)))(hm:(b,Obj.map es clock)∈μ)(hr:(r,Obj.mapIter (some b) since (seen.push e.born) clock)∈μ)
  (he:e∈es.toList) (hn:(es.toList.map (·.born)).Nodup) (hN:Nat.blt d X.N=true) (hg:cY all σ g)
  (kk:WL P X bad all K Q os ((d,.tuple #[e.key,e.val])::σ) μ Ds):WL P X bad all K Q ((fl,ix)::os) σ μ Ds:=by
 refine dP ho rfl rfl hg fun a w hh=>?_
 obtain⟨h1,h2,h3,D,h4,h5,h6⟩:=id hh;have:(execOp a.eval ⟨some d,.entry x,ty,pos,aft,g⟩).run P w=.ok (.value (.tuple #[e.key,e.val])) w:=by
  simp only[execOp,hh.eval hx,Sem.run_bind,run_entry_at w r b since seen es clock e (h4.box _ hr).1 (h4.box _ hm).1 he hn,Result.andThen_ok,Sem.run_pure]
 rw[this];exact⟨fun _=>jZ.refl _ _,kk _ _ (hh.put hN _)⟩
theorem OT{t e:TypeId}{n b l h:Nat}{k1 k2:IntKind}{i j:Int}(ho:all[ix]?= some ⟨some d,.slice t x (some y) (some z) none,ty,pos,aft,g⟩)(ht:P.underlying t=some (.array n e))(hs:TS P e 1)(hx:ev σ x=some (.pointer (some ⟨b,0,none⟩)))
  (hy:ev σ y=some (.int k1 i)) (hz:ev σ z=some (.int k2 j)) (hi:i=(l:Int)) (hj:j=(h:Int)) (h1:l≤h) (h2:h≤n) (h3:l<n)
  (hN:Nat.blt d X.N=true) (hg:cY all σ g) (kk:WL P X bad all K Q os ((d,.slice (some ⟨b,l,none⟩) (h-l) (n-l))::σ) μ Ds):WL P X bad all K Q ((fl,ix)::os) σ μ Ds:=by
 subst hi;subst hj
 refine bO ho rfl rfl hN hg (fun ρ hρ w'=>?_) kk;simp only[execOp,hρ x _ hx,hρ y _ hy,hρ z _ hz,aOK,aNN];unfold Instr.sliceAt Instr.sureAddr Instr.sliceBounds Instr.sliceBound asIntOf;have a1:(0:Int)≤(l:Int)∧(l:Int)≤(h:Nat):=by omega
 have a2:(0:Int)≤(h:Int)∧(h:Int)≤(n:Nat):=by omega
 simp only[Sem.run_bind,TU.of ht w',Result.andThen_ok,hs w',Sem.run_pure,pure_bind,a1,a2,aQV,aOJ,aNO,aPE];rw[aMM Yd];simp[Addr.add];exact fun h=>h.symm
theorem VH{t e:TypeId}{n b h:Nat}{k2:IntKind}{j:Int}(ho:all[ix]?= some ⟨some d,.slice t x none (some z) none,ty,pos,aft,g⟩)(ht:P.underlying t=some (.array n e))(hs:TS P e 1)(hx:ev σ x=some (.pointer (some ⟨b,0,none⟩)))
  (hz:ev σ z=some (.int k2 j)) (hj:j=(h:Int)) (h2:h≤n)
  (hN:Nat.blt d X.N=true) (hg:cY all σ g) (kk:WL P X bad all K Q os ((d,.slice (some ⟨b,0,none⟩) h n)::σ) μ Ds):WL P X bad all K Q ((fl,ix)::os) σ μ Ds:=by
 subst hj;refine bO ho rfl rfl hN hg (fun ρ hρ w'=>?_) kk;simp only[execOp,hρ x _ hx,hρ z _ hz,aOK,aNN];unfold Instr.sliceAt Instr.sureAddr Instr.sliceBounds Instr.sliceBound asIntOf;have a2:(0:Int)≤(h:Int)∧(h:Int)≤(n:Nat):=by omega
 simp only[Sem.run_bind,TU.of ht w',Result.andThen_ok,hs w',Sem.run_pure,pure_bind,a2,aQV,aOJ,aNO,aQF,aPY];split<;>simp[Addr.add]
theorem LX{D:aA}{b n l h:Nat}{c:List Int}(hA:At D b 0 (ints c))(hl:c.length=n)(h1:l≤h)(h2:h≤n)(hb:n≤9223372036854775807):Sl D RI 1 (.slice (some ⟨b,l,none⟩) (h-l) (n-l)) ((c.drop l).take (h-l)):=by
 have hlen:((c.drop l).take (h-l)).length=h-l:=by simp;omega
 refine⟨_,_,by rw[hlen],by omega,by omega,aMD ⟨b,l,rfl,fun i x hi=>⟨_,rfl,rfl,fun j v hj=>?_⟩⟩⟩;rw[List.getElem?_take]at hi;split at hi
 ·rw[aOW]at hi;cases j with
  |zero=>
   have h5:v=.int .i64 x:=by simpa using hj.symm
   subst h5;have:=hA (l+i) (.int .i64 x) (cA hi);simpa using this
  |succ j=>simp at hj
 ·cases hi
theorem aGZ{γ:Type}(I:γ→Prop)(S:γ→Bool)(XX:γ→Cx)(M:γ→aC)(xs ys:List (Bool×Nat)){s p:Nat}{b:Bool}(hXr:∀g,(XX g).r=X.r)(ho:os=xs++ys)(hs:look σ s=some (.bool b))
  (hyes:b=true→WL P X bad all (fun a w=>∃g,I g∧Hl (XX g) ((p,.bool (S g))::(s,.bool true)::σ) (M g) Ds a w) Q xs ((s,.bool true)::σ) μ Ds)
  (hno:b=false→WL P X bad all (fun a w=>∃g,I g∧Hl (XX g) ((p,.bool (S g))::(s,.bool false)::σ) (M g) Ds a w) Q xs ((s,.bool false)::σ) μ Ds)
  (k:∀g,I g→WL P (XX g) bad all K Q ys ((p,.bool (S g))::σ) (M g) Ds):WL P X bad all K Q os σ μ Ds:=by
 have hsub:∀u,Value.bool b=u→∀a w,Hl X σ μ Ds a w→Hl X ((s,u)::σ) μ Ds a w:=by
  rintro _ rfl a w ⟨h1,h2,h3⟩;refine⟨h1,fun t v ht=>?_,h3⟩;simp only[look]at ht;cases hb:Nat.beq s t with
  |true=>rw[hb]at ht;cases ht;obtain rfl:=aNH hb;exact h2 _ _ hs
  |false=>rw[hb]at ht;exact h2 _ _ ht
 have hback:∀(X:Cx) u v μ',Value.bool b=u→∀a w,Hl X ((p,v)::(s,u)::σ) μ' Ds a w→Hl X ((p,v)::σ) μ' Ds a w:=by
  rintro X _ v μ' rfl a w ⟨h1,h2,h3⟩;refine⟨h1,fun t v' ht=>?_,h3⟩;refine h2 t v' ?_;simp only[look]at ht ⊢
  cases hp:Nat.beq p t with
  |true=>rw[hp]at ht;exact ht
  |false=>
   rw[hp]at ht;cases hb:Nat.beq s t with
   |true=>obtain rfl:=aNH hb;rw[←ht,hs]
   |false=>exact ht
 subst ho;intro a w hh;cases b
 ·refine WL.append (hno rfl a w (hsub _ rfl a w hh)) ?_;rintro a w ⟨g,hI,h⟩;rw[←hXr g];exact k g hI a w (hback _ _ _ _ rfl a w h)
 ·refine WL.append (hyes rfl a w (hsub _ rfl a w hh)) ?_;rintro a w ⟨g,hI,h⟩;rw[←hXr g];exact k g hI a w (hback _ _ _ _ rfl a w h)

theorem aEM{f:FuncId}{fn:Func}{c:Code}{args:List Value}{D:aA}{post:aA→Value→aC→Prop}(N:Nat)(hf:P.funcs[f]?= some fn)(hn:(fn.name== "runtime.NumGoroutine")=false)(hb:fn.body=some c)(hN:fn.ntmps=N)(hsz:Nat.ble args.length N=true)
  (h:∀h0:H0,WC P ⟨none,N,[],h0,h0.size,D,[],none⟩ (wI P fn (mV ⟨none,N,[],h0,h0.size,D,[],none⟩ post)) c (gN 0 args) [] [D]):DH P f args.toArray D post:=by
 refine⟨EF.of hf hn hb,fun w hw=>?_⟩;subst hN;have hsz:=aOE hsz;have hq:∀e a w',wI P fn (mV ⟨none,fn.ntmps,[],hd w,w.heap.size,D,[],none⟩ post) e a w'→bodyPostM (FW none) 0 P fn (mV ⟨none,fn.ntmps,[],hd w,w.heap.size,D,[],none⟩ post) e a w':=by
  intro e a w' he;cases e<;>first|exact he|exact he.elim
 have hwp:=h (hd w) {tmps:=args.toArray++Array.replicate (fn.ntmps-args.toArray.size) undef,defers:=[]} w ⟨by simp;omega,fun s v hs=>by
  obtain⟨_,h2⟩:=eK args 0 s v hs;have hl:=(aMH.1 h2).1;simp only[aPY]at h2 hl;show(args.toArray++_)[s]?= some v;rw[aOT Yan];simpa using h2,rfl,D,⟨aMS _,aMS _,(fun _ _ _=>rfl),(fun _ _=>rfl),hw,(fun p hp=>by cases hp),aOH,(fun p hp=>by cases hp),fun e he=>aMY he⟩,(fun D₁ h1=>by simp only[aML]at h1;subst h1;exact Le.refl _),cW⟩
 refine(dA (r:=none) (n:=0)).1 ((callsIn_of_wp_marks hf hb cW (wpIn_mono hwp hq) rfl).mono ?_);rintro e w' ⟨v,D',μ',rfl,hs,hp⟩;exact⟨v,D',μ',rfl,hs,hp⟩
theorem DP{fn:Func}{bd:Nat}{post:aA→Value→aC→Prop}{e:Exit}(he:(match e with|.normal=>true|.ret=>true|_=>false)=true){rs:List ResultVar}{vs:List Value}{A B ν':aC}(hds:X.ds=[])(hr:fn.results=rs.toArray)(h:tE P X σ (A++ν'++B++[(bd,Obj.deferred none)]) rs vs)
  (hp:∀D,(∀D₁∈Ds,Le D₁ D)→post D (nE vs) ν'):∀a w,Hl (X.withDs bd) σ (A++ν'++B++[(bd,Obj.deferred (some []))]) Ds a w→wI P fn (mV X post) e a w:=by
 intro a w hh;obtain⟨h1,h2,h3,D,h4,h5,h6⟩:=hh;have hHas:bS (A++ν'++B++[(bd,Obj.deferred (some []))]) bd (.deferred (some [])) (.deferred none) (A++ν'++B++[(bd,Obj.deferred none)]):=.app .head;have hs:=h4.set (w':=w.putObj bd (.deferred none)) hHas ⟨rfl,rfl⟩ trivial;have hh':Hl X σ (A++ν'++B++[(bd,Obj.deferred none)]) Ds {a with defers:=[]} (w.putObj bd (.deferred none)):=
  ⟨h1,h2,hds.symm,D,hs,h5,h6.step (X:=X.withDs bd) (fun _ p hp=>aMR Yq) (fun _=>gL ⟨rfl,rfl⟩ (aMB.2 ⟨_,hHas.mem,rfl⟩)) hs.dom⟩
 have hrun:=fX hh' hr h;have hb:=(h4.box (bd,Obj.deferred (some [])) Ye).1;have hnd:=hs.nd;simp only[aMP]at hnd;have hs':fU X.h0 X.lo X.D0 X.mods ν' D (w.putObj bd (.deferred none)):=hs.sub (fun p hp=>aMG _ (aMG _ (aMA _ hp))) (aMJ.1 (aMJ.1 (aMJ.1 hnd).1).1).2.1;have:LeavesInM (FW none) 0 P fn a.tmps (mV X post) a.defers .returning w:=by
  have h3':a.defers=[jX bd]:=h3.trans (by show jX bd::X.ds=_;rw[hds]);rw[h3'];exact⟨by simp,aMR ⟨bd,_,rfl,run_takeDeferred hb,_,hrun,_,D,ν',rfl,hs',hp D h5⟩⟩
 cases e<;>first|exact this|cases he
end Go.Fs
namespace Go.Fs
open Go.Proofs
namespace L2
open L1
open C2
open C1 (fP cD pZ oH)
theorem UE{c pre:List Int}{n:Int}{i:Nat}(hl:pre.length=i)(hp:c.take (i+1)=pre++[n]):c[(i:Int).toNat]?= some n:=by
 have h:(c.take (i+1))[i]?= some n:=by rw[hp,←hl];simp
 rw[aPA (Nat.lt_succ_self i)]at h;exact h
theorem SE{step:Int}{c pre:List Int}{n:Int}{i:Nat}(hl:pre.length=i)(hp:c.take (i+1)=pre++[n])(hb:∀x∈pre,0≤x∧x≤99)(_h10:c.length=10)(hi:i<10):
  ∃m,(i≠0→c[((i:Int)-1).toNat]?= some m)∧(0≤m∧m≤99)∧(decide ((i:Int)=0)||fP (n-m) (-step) step)=kA step pre.getLast? n:=by
 rcases List.eq_nil_or_concat pre with rfl|⟨q,m,rfl⟩
 ·refine⟨0,fun h=>absurd hl.symm h,by omega,?_⟩;simp only[aNX]at hl;subst hl;simp[kA]
 ·refine⟨m,fun _=>?_,hb m Ye,?_⟩
  ·have h:(c.take (i+1))[i-1]?= some m:=by
    rw[hp];simp only[List.concat_eq_append,aLY,aPO]at hl;rw[show i-1=q.length by omega];simp
   rw[aPA Yd]at h;rw[show((i:Int)-1).toNat=i-1 by omega];exact h
  ·have:(i:Int)≠0:=by
    simp only[List.concat_eq_append,aLY,aPO]at hl;omega
   unfold kA;rw[aPN this,Bool.false_or];simp
theorem aIW{c pre:List Int}{i n:Nat}{k:Int}(h:c.length=10)(hi:i<n)(hn:n≤10)(hp:c.take i=pre)(hz:c.drop n=List.replicate (10-n) 0):(c.set i k).length=10∧(c.set i k).take (i+1)=pre++[k]∧(c.set i k).drop n=List.replicate (10-n) 0:=
 ⟨by simp[h],by rw[aMN,List.getElem?_set_self Yd,aOD,List.take_set_of_le (aMS _),hp],by rw[List.drop_set_of_lt hi];exact hz⟩
theorem I3(last step:Int)(hv lv mv:Value)(c pre:List Int)(n:Int)(i:Nat)(D:aA)(hs:0≤step∧step≤99)(h10:c.length=10)(hi9:i<10)(hl:pre.length=i)(hp:c.take (i+1)=pre++[n])(hb:∀x∈pre,0≤x∧x≤99)(hn:0≤n∧n≤99):
  Fn Tryz.prog 222 #[.agg #[.int .i64 last,hv,.int .i64 step,lv,mv],.agg (ints c).toArray,.int .i64 (i:Int)] D (fun _ v=>v=.bool (kA step pre.getLast? n)):=by
 have hn0:=UE hl hp;obtain⟨m,hm0,hmb,hnr⟩:=SE (step:=step) hl hp hb h10 hi9;refine enter 25 Tryz.func222 rfl rfl rfl rfl fun h0=>C.s1<|Zt rfl (fun q1 E1 hE1 hB1=>Zt rfl (fun q2 E2 hE2 hB2=>Zi rfl<|L.n2<|C.drawA [] 6 19 64448 (fun _ _ _ h=>bP (P:=Tryz.prog) (fn:=Tryz.f222) _ _ _ h)<|Za rfl<|dU rfl rfl rfl rfl trivial<|Za rfl ?_))
 refine' L.orK 15 (s:=9) (p:=24) rfl (fun hg1=>?_) (fun hg1=>?_) ?_;rotate_left
 ·have hi0:(i:Int)≠0:=by simpa using hg1
  have hm1:=hm0 Yd;refine Zb rfl<|dO rfl U282 Tf.s3 rfl rfl Yd Yd rfl ⟨_,rfl,rfl⟩<|gM rfl Tf.a3 rfl hB2 Ye (cA hn0) GT rfl ⟨_,rfl,rfl⟩<|Zb rfl<|gH rfl rfl rfl Yf rfl ⟨_,rfl,rfl⟩<|dO rfl U282 Tf.s3 rfl rfl Yd Yd rfl ⟨_,rfl,rfl⟩<|gM rfl Tf.a3 rfl hB2 Ye (cA hm1) GT rfl ⟨_,rfl,rfl⟩<|gH rfl rfl rfl Yf rfl ⟨_,rfl,rfl⟩<|Zk rfl Tf.f32_2 rfl<|Zd 2 rfl Tf.a3 rfl hB1 rfl<|aFW rfl rfl Yf rfl ⟨_,rfl,rfl⟩<|Zk rfl Tf.f32_2 rfl ?_;refine Zd 2 rfl Tf.a3 rfl hB1 rfl<|Zf rfl (fun D1 hD1=>dR _ _ _ _)<|Zz rfl ?_;exact L.cu 14
 ·refine Zh rfl<|Zh rfl<|Zh rfl<|Zh rfl<|Zh rfl<|Zh rfl<|Zh rfl<|Zh rfl<|Zh rfl<|Zh rfl<|Zh rfl<|Zh rfl ?_;refine Zh rfl<|Zh rfl<|Zy rfl ?_;exact L.cu 14
 refine Zi rfl<|L.n5 ?_;exact leave1 rfl rfl rfl rfl (fun D hD=>by show Value.bool _=_;rw[hnr])
def fR(br bY bc bh:Nat)(c:List Int):aC:=[(bh,.cells [.func (.func 221) #[] #[.pointer (some ⟨br,0,none⟩),.pointer (some ⟨bY,0,none⟩),.pointer (some ⟨bc,0,none⟩),.pointer (some ⟨bh,0,none⟩)]].toArray 191 (0,0)),(bc,.cells (ints c).toArray 282 (0,0))]
def xR(J Jx:List (List Int)→pC)(br bY bc bh:Nat)(step:Int)(hs:List (Int×Int))(pre:List Int)(i:Nat)(done:List (List Int))(v:Value)(J':pC)(μ':aC):Prop:=
 ∃b c',v=.bool b∧c'.length=10∧c'.take i=pre∧c'.drop hs.length=List.replicate (10-hs.length) 0∧μ'=fR br bY bc bh c'∧(if b=true then J'=J (done++(gK step (hs.drop i) pre.getLast?).map fun t=>cS (pre++t))else ∃p,J'=Jx p)
theorem qH{lo l:Nat}{J Jx:List (List Int)→pC}{t:aY}{xs:List (List Int)}{Dr Dy:aA}{Ds:List aA}{br bY bc bh:Nat}{hv lv mv:Value}(hto:z8 t)
  (hs:∀pre,xE lo (J pre)) (hsx:∀pre,xE lo (Jx pre)) (hY:LR Tryz.prog Dr lo l J Jx xs) (hDr:Dr∈Ds) (hDy:Dy∈Ds) (hA:At Dr br 0 [.int .i64 t.last,hv,.int .i64 t.step,lv,mv]) (hpl:Sl Dr I2 2 hv t.heights) (hB:At Dy bY 0 [.func (.yield l) #[] #[]]):
  ∀(j i:Nat) (pre c:List Int) (done rest:List (List Int)) (iv:Int),iv=i→i+j=t.heights.length→pre.length=i→c.length=10→c.take i=pre→c.drop t.heights.length=List.replicate (10-t.heights.length) 0→(∀x∈pre,0≤x∧x≤99)→
   xs=done++(gK t.step (t.heights.drop i) pre.getLast?).map (fun t=>cS (pre++t))++rest→
   aJK Tryz.prog 221 [.int .i64 iv,.pointer (some ⟨br,0,none⟩),.pointer (some ⟨bY,0,none⟩),.pointer (some ⟨bc,0,none⟩),.pointer (some ⟨bh,0,none⟩)] lo (J done) (fR br bY bc bh c) Ds (xR J Jx br bY bc bh t.step t.heights pre i done):=by
 intro j;induction j using Nat.strongRecOn with
 |_ j ih=>
 intro i pre c done rest iv hiv hij hl h9 hp hz hpb hxs;subst hiv;have hmx:=hpl.len;have hlast:=hto.last;have hlen:=hto.len;have hn9:=hto.len10;refine xI (μ:=fR br bY bc bh c) 46 Tryz.func221 rfl rfl rfl rfl<|C.s1<|Zi rfl<|L.n4<|Za rfl<|Zj rfl Tf.f32_0 rfl<|Zc 0 rfl Tf.a3 rfl hA rfl<|dZ rfl rfl rfl rfl trivial<|L.n1<|aE rfl (fun hc1=>?_) (fun hc1=>?_)
 ·have hin:i=t.heights.length:=by omega
  subst hin;have hleaf:=(HM (l:=pre) (by rw[hl];exact hp) (by rw[hl];exact hz))
  rw[List.drop_length]at hxs;simp only[gK,aMZ,aQB,aME]at hxs;rw[hleaf,aMK,aPV]at hxs;refine C.s1<|Zc 0 rfl Tf.a352 rfl hB rfl<|bA rfl Tf.a282 rfl (List.Mem.tail _ (List.Mem.head _)) Yx GT rfl trivial<|EO (l:=l) (J1:=J (done++[c])) (J0:=Jx (done++[c])) rfl rfl rfl rfl (hs _) (hsx _) (fun D w hd hJ hb hl=>hY done c _ D w ⟨rest,hxs⟩ hd hJ (fun b hbm=>by obtain⟨p,hp,rfl⟩:=aMB.1 hbm;exact hb p hp) (hl _ hDr)) rfl cW (fun b1 J1 hJ1=>Zi rfl<|L.n5<|Zah ?_)
  exact iP (P:=Tryz.prog) (fn:=Tryz.f221) (N:=46) (vs:=[_]) rfl rfl ⟨rfl,cW⟩ (fun D h=>⟨D,h,Le.refl D⟩) ⟨b1,c,rfl,h9,hp,hz,rfl,by cases b1<;>simp only[hJ1,aOJ,aNJ,aOP];exact⟨_,rfl⟩;simp[gK,hleaf]⟩
 ·have hin:i<t.heights.length:=by omega
  obtain⟨r,hri⟩:=C.ge t.heights i;have hrb:=hto.hts r (aLW hri);have hrg:=nH hrb;have hsz:fD r=r.2-r.1+1:=rfl;have hd:t.heights.drop i=r::t.heights.drop (i+1):=by rw[aNZ hin];congr 1;exact aMY ((LE hin).symm.trans hri)
  rw[hd,←aLT]at hxs;refine C.kn<|C.s2<|Zj rfl Tf.f32_1 rfl<|Zc 1 rfl Tf.a29 rfl hA rfl<|Za rfl<|Zp rfl U29 Tf.s99 rfl hpl rfl hri (fun b1 o1 cs1 hr1 hcl1 hA1=>?_);obtain rfl:cs1=[.int .i64 _,.int .i64 _]:=hr1;refine Zq rfl Tf.a99 rfl hA1 Tf.s99<|Ze rfl (fun D1 hD1=>NE r hrb _)<|Za rfl<|L.n1<|Zai<|J5 (γ:=Nat×List Int) (fun g=>(fD r).toNat-g.1) (fun g=>g.1≤(fD r).toNat∧g.2.length=10∧g.2.take i=pre∧g.2.drop t.heights.length=List.replicate (10-t.heights.length) 0) (fun g=>J (done++FP t.step (t.heights.drop (i+1)) pre r g.1)) (fun g=>[(21,.int .i64 (g.1:Int))]) [(20,_),(6,_),(0,_),(1,_),(3,_),(4,_)] (fun g=>fR br bY bc bh g.2) (fun g=>Ds) (0,c) ⟨by simp,h9,hp,hz⟩ (by simp[VA]) ⟨Ya,cW⟩ C.rs (LT _) (aD) ?_;rintro⟨k,c1⟩ ⟨h11,h91,hp1,hz1⟩;simp only at h11 h91 hp1 hz1;refine C.s1<|Zac rfl<|L.n2<|aE rfl (fun hc2=>?_) (fun hc2=>?_)
  ·obtain⟨rr,hr⟩:=UL (step:=t.step) (rs:=t.heights.drop (i+1)) (pre:=pre) (r:=r) (k:=k) (n:=(fD r).toNat) Yd;have hset:=aIW (k:=r.1+(k:Int)) h91 hin hn9 hp1 hz1;have h9s:(c1.set ((i:Int)).toNat (r.1+(k:Int))).length=10:=hset.1;have hpn:∀x∈pre++[r.1+(k:Int)],0≤x∧x≤99:=fun x hx=>by rcases aMO.1 hx with hx|hx;exact hpb x hx;simp only[aML]at hx;omega
   refine C.kn<|aK<|Zai<|C.s1<|Za rfl<|Zi rfl<|L.n3<|Za rfl<|Zj rfl Tf.f32_1 rfl<|Zc 1 rfl Tf.a29 rfl hA rfl<|Za rfl<|Zp rfl U29 Tf.s99 rfl hpl rfl hri (fun b2 o2 cs2 hr2 hcl2 hA2=>?_);obtain rfl:cs2=[.int .i64 _,.int .i64 _]:=hr2;refine Zj rfl Tf.f99_0 rfl<|Zc 0 rfl Tf.a3 rfl hA2 rfl<|Za rfl<|Zw rfl<|dO rfl U282 Tf.s3 rfl rfl Yd Yd rfl trivial<|T0 rfl Tf.s3 rfl rfl (.tail (bS.head)) (by simp only[*];omega) trivial<|L.n3<|Zq rfl Tf.a32 rfl hA Tf.s32<|bA rfl Tf.a282 rfl (List.Mem.tail _ (List.Mem.head _)) Yx GT rfl trivial<|Za rfl<|Ze rfl (fun D2 hD2=>I3 t.last t.step hv lv mv (c1.set i (r.1+(k:Int))) pre (r.1+(k:Int)) i _ hto.step hset.1 Yd hl hset.2.1 hpb Yd)<|Za rfl ?_;refine aGZ (γ:=Bool×List Int×pC) (fun g=>g.2.1.length=10∧g.2.1.take (i+1)=pre++[r.1+(k:Int)]∧g.2.1.drop t.heights.length=List.replicate (10-t.heights.length) 0∧(if g.1=true then ∃p,g.2.2=Jx p else g.2.2=J (done++FP t.step (t.heights.drop (i+1)) pre r (k+1)))) (fun g=>g.1) (fun g=>Xj 46 lo g.2.2) (fun g=>fR br bY bc bh g.2.1) [(false,5),(false,6),(false,7),(false,8),(false,9),(false,10)] [] (s:=38) (p:=44) (fun _=>rfl) rfl rfl (fun hg1=>?_) (fun hg1=>?_) ?_
   ·have hnear:kA t.step pre.getLast? (r.1+(k:Int))=true:=by simpa using hg1
    refine aT rfl Tf.a191 rfl (GE _) rfl GT rfl ⟨_,rfl,rfl⟩<|Zb rfl<|qU rfl rfl rfl Yf rfl ⟨_,rfl,rfl⟩<|nQ rfl rfl rfl rfl (ih (j-1) Yd (i+1) (pre++[r.1+(k:Int)]) (c1.set i (r.1+(k:Int))) (done++FP t.step (t.heights.drop (i+1)) pre r k) (rr++rest) (i+1:Int) Yd Yd Yah (by simpa using h91) hset.2.1 hset.2.2 hpn (by rw[hxs,hr,NC hnear];simp)) rfl ⟨_,rfl,rfl⟩ ?_;rintro _ J2 _ ⟨b2,c2,rfl,h9',hp',hz',rfl,hJ2⟩;refine jD rfl rfl rfl ⟨_,rfl,rfl⟩<|Zy rfl ?_;exact kT fun a w hh=>⟨(!b2,c2,J2),⟨h9',hp',hz',by cases b2<;>simp only[Bool.not_true,aRF,aOJ,aNJ,aOP]at hJ2 ⊢;exact hJ2;rw[hJ2,NC hnear,aMK]⟩,hh.cutK 5 rfl⟩
   ·refine Zh rfl<|Zh rfl<|Zh rfl<|Zh rfl<|Zh rfl<|Zz rfl ?_;exact kT fun a w hh=>⟨(false,c1.set i (r.1+(k:Int)),J (done++FP t.step (t.heights.drop (i+1)) pre r k)),⟨hset.1,hset.2.1,hset.2.2,by simp only[aNJ,aOP];rw[aGU (by simpa using hg1)]⟩,hh.cutK 5 rfl⟩
   rintro⟨b3,c3,J3⟩ ⟨h93,hp3,hz3,hJ3⟩;simp only at h93 hp3 hz3 hJ3;refine L.n1<|aI rfl (fun hc3=>?_) (fun hc3=>?_)
   ·obtain rfl:b3=true:=by simpa using hc3
    refine C.s1<|Zi rfl<|L.n5<|Zal<|Zah<|Zah<|Zal<|Zah ?_;exact iP (P:=Tryz.prog) (fn:=Tryz.f221) (N:=46) (vs:=[_]) rfl rfl ⟨rfl,cW⟩ (fun D h=>⟨D,h,Le.refl D⟩) ⟨false,c3,rfl,h93,L1.oL hp3 hl,hz3,rfl,by simpa using hJ3⟩
   ·obtain rfl:b3=false:=by simpa using hc3
    refine bB<|Zak<|Zag<|C.rg<|Zw rfl<|Za rfl<|Zaa ?_;exact lM 22 (k+1,c3) ⟨by simp only;omega,h93,L1.oL hp3 hl,hz3⟩ Yl (by simpa using hJ3) ⟨Ya,cW⟩ rfl rfl (LT _) (aD)
  ·refine aP<|Zaj<|Zaj<|Zam<|Zag<|C.s1<|Zi rfl<|L.n5 ?_;exact iP (P:=Tryz.prog) (fn:=Tryz.f221) (N:=46) (vs:=[_]) rfl rfl ⟨rfl,cW⟩ (fun D h=>⟨D,h,Le.refl D⟩) ⟨true,c1,rfl,h91,hp1,hz1,rfl,by simp only[aOJ];rw[hd,←aLT,show k=(fD r).toNat by omega]⟩
theorem NV(t:aY)(Dr:aA)(br:Nat)(hv lv mv:Value)(hto:z8 t)(hA:At Dr br 0 [.int .i64 t.last,hv,.int .i64 t.step,lv,mv])(hpl:Sl Dr I2 2 hv t.heights):
  zU Tryz.prog 220 [.pointer (some ⟨br,0,none⟩)] Dr ((fK t).map cS) l6:=by
 refine W7 8 Tryz.func220 rfl rfl rfl rfl (fun lo l J Jx hs hsx hY=>C.s1<|Zt rfl (fun q1 E1 hE1 hB1=>L.n3<|Zv rfl Tf.z282 rfl (fun q2=>L.n3<|Zv rfl Tf.z191 rfl (fun q3=>L.n3<|bH rfl rfl rfl rfl trivial<|aL rfl rfl rfl rfl Tf.s191 (bS.head) Ye rfl Yi trivial<|L.n1<|C.rg ?_))));refine Zl rfl Tf.a191 rfl (List.Mem.head _) rfl<|nQ rfl rfl rfl rfl (qH (l:=l) hto hs hsx hY Ye Ye hA hpl hB1 t.heights.length 0 [] (List.replicate 10 0) [] [] 0 rfl Yd rfl rfl rfl (List.drop_replicate ..) (fun x hx=>by cases hx) (by simp[fK])) rfl cW ?_;rintro _ J2 _ ⟨b2,c2,rfl,h9',hp',hz',rfl,hJ2⟩;refine Zaa ?_;exact iP (P:=Tryz.prog) (fn:=Tryz.f220) (N:=8) (vs:=[]) rfl rfl cW (fun D h=>⟨D,by simp only[aML]at h;subst h;simp,Le.refl D⟩) (by cases b2<;>simp[fK]at hJ2 ⊢;exact aMD hJ2;exact aMR hJ2)
theorem CA(tv:Value)(t:aY)(D:aA)(ht:gI D tv t)(hto:z8 t):
  Fn Tryz.prog 138 #[tv] D (fun D' v=>∃br,v=.func (.func 220) #[] #[.pointer (some ⟨br,0,none⟩)]∧zU Tryz.prog 220 [.pointer (some ⟨br,0,none⟩)] D' ((fK t).map cS) l6):=by
 obtain⟨hv,lv,mv,rfl,hh,hl,hm⟩:=ht;refine enter 4 Tryz.func138 rfl rfl rfl rfl fun h0=>C.s1<|Zt rfl (fun q1 E1 hE1 hB1=>Zi rfl<|L.n3<|bH rfl rfl rfl rfl trivial<|Zi rfl<|L.n5 ?_)
 exact leave1 rfl rfl rfl rfl (fun D hD=>⟨_,rfl,NV t _ q1 hv lv mv hto (hB1.up (hD _ Ye)) (hh.up I2.up (hD _ Ye))⟩)
end L2
end Go.Fs
namespace Go.Fs
open Go.Proofs
namespace L7
open C7
theorem gZ{α:Type}{p:α→Bool}{xs:List α}{k:Nat}{x:α}(hx:xs[k]?= some x)(h:(xs.take k).any p=false)(hp:p x=true):idxOf p xs=k:=by
 have hk:=(aMH.1 hx).1;have he:=(aMH.1 hx).2;have h1:xs.any p=true:=aPT.2 ⟨x,aLW hx,hp⟩;have h2:xs.findIdx p=k:=by
  rw[List.findIdx_eq hk];refine⟨by rw[he];exact hp,fun j hj=>?_⟩
  have:=List.any_eq_false.1 h (xs[j]'Yd) (by
   rw[List.mem_take_iff_getElem];exact⟨j,by omega,rfl⟩)
  simpa using this
 simp[idxOf,h1,h2]
theorem fA{α:Type}{p:α→Bool}{xs:List α}(h:xs.any p=false):idxOf p xs= -1:=by simp[idxOf,h]
theorem gX{α:Type}{p:α→Bool}{xs:List α}:decide (0≤idxOf p xs)=xs.any p:=by
 unfold idxOf;cases h:xs.any p<;>simp
theorem kM{α:Type}{p:α→Bool}{xs:List α}:(!xs.any fun x=> !p x)=xs.all p:=by
 rw[List.all_eq_not_any_not]
theorem dR(n lo hi:Int)(D:aA):Fn Tryz.prog 157 #[.int .i64 n,.int .i64 lo,.int .i64 hi] D (fun _ v=>v=.bool (fP n lo hi)):=by
 refine enter 15 Tryz.func157 rfl rfl rfl rfl fun h0=>C.s1<|Zi rfl<|L.n3<|Za rfl<|Za rfl<|iW rfl rfl rfl rfl trivial<|Za rfl ?_
 refine' L.anK 4 (s:=10) (p:=14) rfl (fun hg1=>?_) (fun hg1=>?_) ?_;rotate_left
 ·refine Zb rfl<|Zb rfl<|iW rfl rfl rfl rfl ⟨_,rfl,rfl⟩<|Zy rfl ?_;exact L.cu 3
 ·refine Zh rfl<|Zh rfl<|Zh rfl<|Zz rfl ?_;exact L.cu 3
 refine Zi rfl<|L.n5 ?_;exact leave1 rfl rfl rfl rfl (fun D hD=>rfl)
theorem pS(sv fv:Value)(xs:List Int)(p:Int→Bool)(D:aA)(hS:Sl D RI 1 sv xs)(hp:cN Tryz.prog D iV fv p):
  Fn Tryz.prog 271 #[sv,fv] D (fun _ v=>v=.int .i64 (idxOf p xs)):=by
 have hl:=hS.len;obtain⟨f,c1,c2,rfl,hf⟩:=hp;refine enter 19 Tryz.func271 rfl rfl rfl rfl fun h0=>C.s1<|Zi rfl<|L.n4<|Za rfl<|aO rfl U25 rfl Yk rfl rfl trivial<|Za rfl<|L.n1<|Zai<|bT (γ:=Nat) (fun k=>xs.length-k) (fun k=>k≤xs.length∧(xs.take k).any p=false) (fun k=>[(8,.int .i64 k)]) [(7,_),(4,_),(0,_),(1,_)] (fun k=>[D]) 0 Ye ⟨Ya,cW⟩ C.rs (aD) ?_
 rintro k ⟨h1,h2⟩;refine C.s1<|Zac rfl<|L.n2<|aE rfl (fun hc1=>?_) (fun hc1=>?_)
 ·have hk:k<xs.length:=by omega
  obtain⟨x,hx⟩:=C.ge xs k;refine C.kn<|aK<|Zai<|C.s1<|Za rfl<|Zi rfl<|L.n3<|Za rfl<|Za rfl<|Za rfl<|cT rfl U25 Tf.s3 rfl Yk rfl Yd Yk rfl cW (fun b1 o1 cs1 hr1 hcl1 hA1=>?_);obtain rfl:cs1=[.int .i64 _]:=hr1;refine Zc 0 rfl Tf.a3 rfl hA1 rfl<|Ze rfl (fun D1 hD1=>hf x _ (hD1 _ Ye))<|L.n1<|aI rfl (fun hc2=>?_) (fun hc2=>?_)
  ·refine C.s1<|Za rfl<|Zi rfl<|L.n5<|Zal<|Zah<|Zah<|Zal<|Zah ?_;exact leave1 rfl rfl rfl rfl (fun D hD=>by show Value.int _ _=_;rw[gZ hx h2 hc2])
  ·refine bB<|Zak<|Zag<|C.rg<|Zw rfl<|Za rfl<|Zaa ?_;have hpx:p x=false:=hc2;have h3:(xs.take (k+1)).any p=false:=by rw[aMN,hx,aOY,h2];simp[hpx]
   exact aG 12 (k+1) ⟨by omega,h3⟩ Yd ⟨Ya,cW⟩ rfl rfl (LT _) (aD)
 ·refine aP<|Zaj<|Zaj<|Zam<|Zag<|C.s1<|Zi rfl<|L.n5 ?_;exact leave1 rfl rfl rfl rfl (fun D hD=>by show Value.int _ _=_;rw[fA Yac])
theorem jP(sv fv:Value)(xs:List Int)(p:Int→Bool)(D:aA)(hS:Sl D RI 1 sv xs)(hp:cN Tryz.prog D iV fv p):
  Fn Tryz.prog 206 #[sv,fv] D (fun _ v=>v=.bool (xs.any p)):=by
 refine enter 9 Tryz.func206 rfl rfl rfl rfl fun h0=>C.s1<|Zi rfl<|L.n3<|Za rfl<|Za rfl<|Ze rfl (fun D1 hD1=>pS _ _ xs p _ (Sl.at RI.up hD1 Yk Ye) (hp.up (hD1 _ Ye)))<|oT rfl rfl rfl rfl trivial<|Zi rfl<|L.n5 ?_
 exact leave1 rfl rfl rfl rfl (fun D hD=>by show Value.bool (decide _)=_;rw[gX])
theorem uN(b:Nat)(fv:Value)(p:Int→Bool)(x:Int)(D:aA)(hp:cN Tryz.prog D iV fv p)(hB:At D b 0 [fv]):
  Fn Tryz.prog 300 #[iV x,.pointer (some ⟨b,0,none⟩)] D (fun _ v=>v=.bool (!p x)):=by
 obtain⟨f,c1,c2,rfl,hf⟩:=hp;refine enter 8 Tryz.func300 rfl rfl rfl rfl fun h0=>C.s1<|Zi rfl<|L.n3<|Zc 0 rfl Tf.a191 rfl hB rfl<|Za rfl<|Ze rfl (fun D1 hD1=>hf x _ (hD1 _ Ye))<|Zae rfl<|Zi rfl<|L.n5 ?_
 exact leave1 rfl rfl rfl rfl (fun D hD=>rfl)
theorem xY(sv fv:Value)(xs:List Int)(p:Int→Bool)(D:aA)(hS:Sl D RI 1 sv xs)(hp:cN Tryz.prog D iV fv p)(h1:fv.cells=#[fv]):
  Fn Tryz.prog 283 #[sv,fv] D (fun _ v=>v=.bool (xs.all p)):=by
 refine enter 9 Tryz.func283 rfl rfl rfl rfl fun h0=>C.s1<|mX (vs:=[fv]) rfl rfl h1 rfl cW (fun b D1 hD1 hB=>Zi rfl<|L.n3<|Za rfl<|bH rfl rfl rfl rfl trivial<|Ze rfl (fun D1 hD1=>jP _ _ xs (fun x=> !p x) _ (Sl.at RI.up hD1 Yk Ye) ⟨_,[],[.pointer (some ⟨b,0,none⟩)],rfl,fun x D2 hl=>uN b fv p x D2 (hp.up ((hD1 _ Ye).trans hl)) (hB.up ((hD1 _ Ye).trans hl))⟩)<|Zae rfl<|Zi rfl<|L.n5 ?_)
 exact leave1 rfl rfl rfl rfl (fun D hD=>by show Value.bool (!_)=_;rw[kM])
theorem pR(sv fv:Value)(xs:List Ch)(p:Ch→Bool)(D:aA)(hS:Sl D sK 4 sv xs)(hp:cN Tryz.prog D aJN fv p):
  Fn Tryz.prog 282 #[sv,fv] D (fun _ v=>v=.int .i64 (idxOf p xs)):=by
 have hl:=hS.len;obtain⟨f,c1,c2,rfl,hf⟩:=hp;refine enter 19 Tryz.func282 rfl rfl rfl rfl fun h0=>C.s1<|Zi rfl<|L.n4<|Za rfl<|aO rfl U37 rfl Yk rfl rfl trivial<|Za rfl<|L.n1<|Zai<|bT (γ:=Nat) (fun k=>xs.length-k) (fun k=>k≤xs.length∧(xs.take k).any p=false) (fun k=>[(8,.int .i64 k)]) [(7,_),(4,_),(0,_),(1,_)] (fun k=>[D]) 0 Ye ⟨Ya,cW⟩ C.rs (aD) ?_
 rintro k ⟨h1,h2⟩;refine C.s1<|Zac rfl<|L.n2<|aE rfl (fun hc1=>?_) (fun hc1=>?_)
 ·have hk:k<xs.length:=by omega
  obtain⟨x,hx⟩:=C.ge xs k;refine C.kn<|aK<|Zai<|C.s1<|Za rfl<|Zi rfl<|L.n3<|Za rfl<|Za rfl<|Za rfl<|cT rfl U37 Tf.s103 rfl Yk rfl Yd Yk rfl cW (fun b1 o1 cs1 hr1 hcl1 hA1=>?_);obtain rfl:cs1=[.int .i64 _,.int .i64 _,.int .i64 _,.int .i64 _]:=hr1;refine Zq rfl Tf.a103 rfl hA1 Tf.s103<|Ze rfl (fun D1 hD1=>hf x _ (hD1 _ Ye))<|L.n1<|aI rfl (fun hc2=>?_) (fun hc2=>?_)
  ·refine C.s1<|Za rfl<|Zi rfl<|L.n5<|Zal<|Zah<|Zah<|Zal<|Zah ?_;exact leave1 rfl rfl rfl rfl (fun D hD=>by show Value.int _ _=_;rw[gZ hx h2 hc2])
  ·refine bB<|Zak<|Zag<|C.rg<|Zw rfl<|Za rfl<|Zaa ?_;have hpx:p x=false:=hc2;have h3:(xs.take (k+1)).any p=false:=by rw[aMN,hx,aOY,h2];simp[hpx]
   exact aG 12 (k+1) ⟨by omega,h3⟩ Yd ⟨Ya,cW⟩ rfl rfl (LT _) (aD)
 ·refine aP<|Zaj<|Zaj<|Zam<|Zag<|C.s1<|Zi rfl<|L.n5 ?_;exact leave1 rfl rfl rfl rfl (fun D hD=>by show Value.int _ _=_;rw[fA Yac])
theorem lT(sv fv:Value)(xs:List Ch)(p:Ch→Bool)(D:aA)(hS:Sl D sK 4 sv xs)(hp:cN Tryz.prog D aJN fv p):
  Fn Tryz.prog 236 #[sv,fv] D (fun _ v=>v=.bool (xs.any p)):=by
 refine enter 9 Tryz.func236 rfl rfl rfl rfl fun h0=>C.s1<|Zi rfl<|L.n3<|Za rfl<|Za rfl<|Ze rfl (fun D1 hD1=>pR _ _ xs p _ (Sl.at sK.up hD1 Yk Ye) (hp.up (hD1 _ Ye)))<|oT rfl rfl rfl rfl trivial<|Zi rfl<|L.n5 ?_
 exact leave1 rfl rfl rfl rfl (fun D hD=>by show Value.bool (decide _)=_;rw[gX])
theorem P5(b:Nat)(fv:Value)(p:Ch→Bool)(x:Ch)(D:aA)(hp:cN Tryz.prog D aJN fv p)(hB:At D b 0 [fv]):
  Fn Tryz.prog 237 #[aJN x,.pointer (some ⟨b,0,none⟩)] D (fun _ v=>v=.bool (!p x)):=by
 obtain⟨f,c1,c2,rfl,hf⟩:=hp;refine enter 8 Tryz.func237 rfl rfl rfl rfl fun h0=>C.s1<|Zt rfl (fun q1 E1 hE1 hB1=>Zi rfl<|L.n3<|Zc 0 rfl Tf.a307 rfl hB rfl<|Zq rfl Tf.a103 rfl hB1 Tf.s103<|Ze rfl (fun D1 hD1=>hf x _ (hD1 _ Ye))<|Zae rfl<|Zi rfl<|L.n5 ?_)
 exact leave1 rfl rfl rfl rfl (fun D hD=>rfl)
theorem l7(sv fv:Value)(xs:List Ch)(p:Ch→Bool)(D:aA)(hS:Sl D sK 4 sv xs)(hp:cN Tryz.prog D aJN fv p)(h1:fv.cells=#[fv]):
  Fn Tryz.prog 158 #[sv,fv] D (fun _ v=>v=.bool (xs.all p)):=by
 refine enter 9 Tryz.func158 rfl rfl rfl rfl fun h0=>C.s1<|mX (vs:=[fv]) rfl rfl h1 rfl cW (fun b D1 hD1 hB=>Zi rfl<|L.n3<|Za rfl<|bH rfl rfl rfl rfl trivial<|Ze rfl (fun D1 hD1=>lT _ _ xs (fun x=> !p x) _ (Sl.at sK.up hD1 Yk Ye) ⟨_,[],[.pointer (some ⟨b,0,none⟩)],rfl,fun x D2 hl=>P5 b fv p x D2 (hp.up ((hD1 _ Ye).trans hl)) (hB.up ((hD1 _ Ye).trans hl))⟩)<|Zae rfl<|Zi rfl<|L.n5 ?_)
 exact leave1 rfl rfl rfl rfl (fun D hD=>by show Value.bool (!_)=_;rw[kM])
theorem pT(sv fv:Value)(xs:List (Int×Int))(p:(Int×Int)→Bool)(D:aA)(hS:Sl D R2 2 sv xs)(hp:cN Tryz.prog D jC fv p):
  Fn Tryz.prog 285 #[sv,fv] D (fun _ v=>v=.int .i64 (idxOf p xs)):=by
 have hl:=hS.len;obtain⟨f,c1,c2,rfl,hf⟩:=hp;refine enter 19 Tryz.func285 rfl rfl rfl rfl fun h0=>C.s1<|Zi rfl<|L.n4<|Za rfl<|aO rfl U38 rfl Yk rfl rfl trivial<|Za rfl<|L.n1<|Zai<|bT (γ:=Nat) (fun k=>xs.length-k) (fun k=>k≤xs.length∧(xs.take k).any p=false) (fun k=>[(8,.int .i64 k)]) [(7,_),(4,_),(0,_),(1,_)] (fun k=>[D]) 0 Ye ⟨Ya,cW⟩ C.rs (aD) ?_
 rintro k ⟨h1,h2⟩;refine C.s1<|Zac rfl<|L.n2<|aE rfl (fun hc1=>?_) (fun hc1=>?_)
 ·have hk:k<xs.length:=by omega
  obtain⟨x,hx⟩:=C.ge xs k;refine C.kn<|aK<|Zai<|C.s1<|Za rfl<|Zi rfl<|L.n3<|Za rfl<|Za rfl<|Za rfl<|cT rfl U38 Tf.s133 rfl Yk rfl Yd Yk rfl cW (fun b1 o1 cs1 hr1 hcl1 hA1=>?_);obtain rfl:cs1=[.int .i64 _,.int .i64 _]:=hr1;refine Zq rfl Tf.a133 rfl hA1 Tf.s133<|Ze rfl (fun D1 hD1=>hf x _ (hD1 _ Ye))<|L.n1<|aI rfl (fun hc2=>?_) (fun hc2=>?_)
  ·refine C.s1<|Za rfl<|Zi rfl<|L.n5<|Zal<|Zah<|Zah<|Zal<|Zah ?_;exact leave1 rfl rfl rfl rfl (fun D hD=>by show Value.int _ _=_;rw[gZ hx h2 hc2])
  ·refine bB<|Zak<|Zag<|C.rg<|Zw rfl<|Za rfl<|Zaa ?_;have hpx:p x=false:=hc2;have h3:(xs.take (k+1)).any p=false:=by rw[aMN,hx,aOY,h2];simp[hpx]
   exact aG 12 (k+1) ⟨by omega,h3⟩ Yd ⟨Ya,cW⟩ rfl rfl (LT _) (aD)
 ·refine aP<|Zaj<|Zaj<|Zam<|Zag<|C.s1<|Zi rfl<|L.n5 ?_;exact leave1 rfl rfl rfl rfl (fun D hD=>by show Value.int _ _=_;rw[fA Yac])
theorem lW(sv fv:Value)(xs:List (Int×Int))(p:(Int×Int)→Bool)(D:aA)(hS:Sl D R2 2 sv xs)(hp:cN Tryz.prog D jC fv p):
  Fn Tryz.prog 239 #[sv,fv] D (fun _ v=>v=.bool (xs.any p)):=by
 refine enter 9 Tryz.func239 rfl rfl rfl rfl fun h0=>C.s1<|Zi rfl<|L.n3<|Za rfl<|Za rfl<|Ze rfl (fun D1 hD1=>pT _ _ xs p _ (Sl.at R2.up hD1 Yk Ye) (hp.up (hD1 _ Ye)))<|oT rfl rfl rfl rfl trivial<|Zi rfl<|L.n5 ?_
 exact leave1 rfl rfl rfl rfl (fun D hD=>by show Value.bool (decide _)=_;rw[gX])
theorem N8(b:Nat)(fv:Value)(p:(Int×Int)→Bool)(x:(Int×Int))(D:aA)(hp:cN Tryz.prog D jC fv p)(hB:At D b 0 [fv]):
  Fn Tryz.prog 240 #[jC x,.pointer (some ⟨b,0,none⟩)] D (fun _ v=>v=.bool (!p x)):=by
 obtain⟨f,c1,c2,rfl,hf⟩:=hp;refine enter 8 Tryz.func240 rfl rfl rfl rfl fun h0=>C.s1<|Zt rfl (fun q1 E1 hE1 hB1=>Zi rfl<|L.n3<|Zc 0 rfl Tf.a305 rfl hB rfl<|Zq rfl Tf.a133 rfl hB1 Tf.s133<|Ze rfl (fun D1 hD1=>hf x _ (hD1 _ Ye))<|Zae rfl<|Zi rfl<|L.n5 ?_)
 exact leave1 rfl rfl rfl rfl (fun D hD=>rfl)
theorem s7(sv fv:Value)(xs:List (Int×Int))(p:(Int×Int)→Bool)(D:aA)(hS:Sl D R2 2 sv xs)(hp:cN Tryz.prog D jC fv p)(h1:fv.cells=#[fv]):
  Fn Tryz.prog 160 #[sv,fv] D (fun _ v=>v=.bool (xs.all p)):=by
 refine enter 9 Tryz.func160 rfl rfl rfl rfl fun h0=>C.s1<|mX (vs:=[fv]) rfl rfl h1 rfl cW (fun b D1 hD1 hB=>Zi rfl<|L.n3<|Za rfl<|bH rfl rfl rfl rfl trivial<|Ze rfl (fun D1 hD1=>lW _ _ xs (fun x=> !p x) _ (Sl.at R2.up hD1 Yk Ye) ⟨_,[],[.pointer (some ⟨b,0,none⟩)],rfl,fun x D2 hl=>N8 b fv p x D2 (hp.up ((hD1 _ Ye).trans hl)) (hB.up ((hD1 _ Ye).trans hl))⟩)<|Zae rfl<|Zi rfl<|L.n5 ?_)
 exact leave1 rfl rfl rfl rfl (fun D hD=>by show Value.bool (!_)=_;rw[kM])
theorem R9(sv:Value)(x:Int)(xs:List Int)(D:aA)(hS:Sl D RI 1 sv (x::xs)):
  Fn Tryz.prog 211 #[sv] D (fun _ v=>v=.int .i64 (xs.foldl min x)):=by
 have hl:=hS.len;simp only[aMI]at hl;refine enter 25 Tryz.func211 rfl rfl rfl rfl fun h0=>C.s1<|Zi rfl<|L.n4<|Za rfl<|aO rfl U25 rfl Yk rfl rfl trivial<|Zac rfl<|L.n1<|aE rfl (fun hc1=>?_) (fun hc1=>?_)
 ·exact absurd hc1 (by simp only[aMI];omega)
 ·refine C.kn<|C.s1<|Za rfl<|cT rfl U25 Tf.s3 rfl Yk rfl Yd (by rfl) rfl cW (fun b1 o1 cs1 hr1 hcl1 hA1=>?_);obtain rfl:cs1=[.int .i64 _]:=hr1;refine Zc 0 rfl Tf.a3 rfl hA1 rfl<|Zi rfl<|L.n4<|Zi rfl<|L.n1<|Zai<|bT (γ:=Nat) (fun k=>xs.length-k) (fun k=>k≤xs.length) (fun k=>[(3,.int .i64 ((xs.take k).foldl min x)),(4,.int .i64 (k+1:Int))]) [(2,_),(0,_)] (fun k=>[D]) 0 Yd ⟨Ya,Ya,cW⟩ C.rs (aD) ?_;rintro k h1;refine C.s2<|Za rfl<|Za rfl<|aO rfl U25 rfl Yk rfl rfl trivial<|Zac rfl<|L.n1<|aE rfl (fun hc2=>?_) (fun hc2=>?_)
  ·simp only[aMI]at hc2;have hk:k<xs.length:=by omega
   obtain⟨y,hy⟩:=C.ge xs k;have hy2:(x::xs)[(k+1:Int).toNat]?= some y:=by rw[show((k:Int)+1).toNat=k+1 by omega];simpa using hy
   refine C.kn<|aK<|Zai<|C.rg<|Za rfl<|Za rfl<|Za rfl<|cT rfl U25 Tf.s3 rfl Yk rfl Yd Yk rfl cW (fun b2 o2 cs2 hr2 hcl2 hA2=>?_);obtain rfl:cs2=[.int .i64 _]:=hr2;refine Zc 0 rfl Tf.a3 rfl hA2 rfl<|aAU rfl rfl rfl rfl trivial<|Zi rfl<|Zaa<|Zak<|Zag<|C.rg<|Za rfl<|Zw rfl<|Zi rfl<|Zaa ?_;have h3:(xs.take (k+1)).foldl min x=min ((xs.take k).foldl min x) y:=by rw[aMN,hy,aOA];rfl
   exact aG 16 (k+1) Yd Yd ⟨(by rw[h3];rfl),Ya,cW⟩ rfl rfl (LT _) (aD)
  ·simp only[aMI]at hc2;refine aP<|Zaj<|Zaj<|Zam<|Zag<|C.s1<|Za rfl<|Zi rfl<|L.n5 ?_;exact leave1 rfl rfl rfl rfl (fun D hD=>by show Value.int _ _=_;rw[aNA Yd])
theorem jG(sv:Value)(x:Int)(xs:List Int)(D:aA)(hS:Sl D RI 1 sv (x::xs)):
  Fn Tryz.prog 165 #[sv] D (fun _ v=>v=.int .i64 (xs.foldl min x)):=by
 refine enter 5 Tryz.func165 rfl rfl rfl rfl fun h0=>C.s1<|Zi rfl<|L.n3<|Za rfl<|Ze rfl (fun D1 hD1=>R9 _ x xs _ (Sl.at RI.up hD1 Yk Ye))<|Zi rfl<|L.n5 ?_
 exact leave1 rfl rfl rfl rfl (fun D hD=>rfl)
end L7
end Go.Fs
namespace Go.Fs
open Go.Proofs
namespace L7
open C7
theorem aBP{p:Pt}:(p.l== [1,1,1])=iY p:=by
 obtain⟨a,b,c⟩:=p;simp only[iY,Pt.l,Pt.mk.injEq];rw[aPR];simp
theorem ZV{m k i:Nat}(hk:m.testBit k=true)(h1:i≤k)(h:((m >>> i:Nat):Int)%2=0):i+1≤k:=by
 rw[kK]at h;have:i≠k:=by rintro rfl;rw[hk]at h;simp at h
 omega
theorem aCW{m k i:Nat}(hl:∀i,i<k→m.testBit i=false)(h1:i≤k)(h:¬((m >>> i:Nat):Int)%2=0):i=k:=by
 rw[kK]at h;by_cases hi:i<k
 ·rw[hl i hi]at h;simp at h
 ·omega
theorem P0(r:Int×Int)(n:Int)(D:aA):Fn Tryz.prog 246 #[jC r,.int .i64 n] D (fun _ v=>v=.bool (fP n r.1 r.2)):=by
 refine enter 11 Tryz.func246 rfl rfl rfl rfl fun h0=>C.s1<|Zt rfl (fun q1 E1 hE1 hB1=>Zi rfl<|L.n3<|Za rfl<|Zj rfl Tf.f133_0 rfl<|Zc 0 rfl Tf.a3 rfl hB1 rfl<|Zj rfl Tf.f133_1 rfl<|Zc 1 rfl Tf.a3 rfl hB1 rfl<|Ze rfl (fun D1 hD1=>dR _ _ _ _)<|Zi rfl ?_);refine L.n5 ?_
 exact leave1 rfl rfl rfl rfl (fun D hD=>rfl)
theorem oM(r:Int×Int)(n:Int)(D:aA):Fn Tryz.prog 99 #[jC r,.int .i64 n] D (fun _ v=>v=jC (min r.1 n,max r.2 n)):=by
 refine enter 15 Tryz.func99 rfl rfl rfl rfl fun h0=>C.s1<|Zt rfl (fun q1 E1 hE1 hB1=>Zv rfl Tf.z133 rfl (fun q2=>L.n2<|iE [] 4 [0,1,2,5,6,7,8,3,4,9,10] [false,false,true,true,true,true,true,true,true,false,false] [(false,0),(false,1),(true,2),(true,5),(true,6),(true,7),(true,8),(true,3),(true,4),(false,9),(false,10)] Tf.follows (fun _ _ _ h=>bP (P:=Tryz.prog) (fn:=Tryz.f99) _ _ _ h) Yg rfl<|Zj rfl Tf.f133_0 rfl<|Zc 0 rfl Tf.a3 rfl hB1 rfl<|Za rfl<|Zj rfl Tf.f133_1 rfl<|Zc 1 rfl Tf.a3 rfl hB1 rfl<|Za rfl ?_));refine pU rfl rfl rfl rfl trivial<|Zn rfl U25 Tf.s3 Tf.z3 rfl rfl rfl rfl (.cons rfl rfl (.cons rfl rfl .nil)) (fun b901 D901 hD901 hA901=>?_)
 have hS901:=Sl.ofInts (l:=[_,_]) (n:=2) (cap:=2) hA901 rfl Yd Yd;refine Ze rfl (fun D1 hD1=>jG _ r.1 [n] _ (hS901.up RI.up (hD1 _ Ye)))<|Zr [.int .i64 (min r.1 n),.int .i64 (max r.2 n)] rfl Tf.p133 Tf.z133 rfl rfl<|Zu rfl Tf.s133 (bS.head)<|L.n5 ?_;exact Zm [_] rfl ⟨⟨_,_,_,rfl,(List.Mem.head _),Or.inr ⟨Tf.a133,(by first|exact Tf.s133|(simp only[aNG,aJ, *];exact Tf.s133)),rfl⟩⟩,cW⟩ (fun D hD=>rfl)
theorem PM(n m:Int)(b:Nat)(D:aA)(hB:At D b 0 [.int .i64 m]):Fn Tryz.prog 284 #[.int .i64 n,.pointer (some ⟨b,0,none⟩)] D (fun _ v=>v=.bool (fP n 0 m)):=by
 refine enter 7 Tryz.func284 rfl rfl rfl rfl fun h0=>C.s1<|Zi rfl<|L.n3<|Za rfl<|Zc 0 rfl Tf.a3 rfl hB rfl<|Ze rfl (fun D1 hD1=>dR _ _ _ _)<|Zi rfl<|L.n5 ?_
 exact leave1 rfl rfl rfl rfl (fun D hD=>rfl)
theorem XK(p:Pt)(m:Int)(D:aA):Fn Tryz.prog 238 #[aKU p,.int .i64 m] D (fun _ v=>v=.bool (LQ p m)):=by
 refine enter 8 Tryz.func238 rfl rfl rfl rfl fun h0=>C.s1<|Zt rfl (fun q1 E1 hE1 hB1=>Zt rfl (fun q2 E2 hE2 hB2=>Zi rfl<|L.n3<|TV rfl U101 Tf.s3 rfl rfl trivial<|bH rfl rfl rfl rfl trivial<|Ze rfl (fun D1 hD1=>xY _ _ p.l (fun x=>fP x 0 m) _ (Sl.ofInts (l:=p.l) (n:=3) (cap:=3) (hB1.up (hD1 _ Ye)) rfl Yd Yd) ⟨_,[],[_],rfl,fun x D2 hl=>PM x m q2 D2 (hB2.up ((hD1 _ Ye).trans hl))⟩ rfl)<|Zi rfl<|L.n5 ?_))
 exact leave1 rfl rfl rfl rfl (fun D hD=>rfl)
theorem U8(c:Ch)(D:aA):Fn Tryz.prog 159 #[aJN c] D (fun _ v=>v=.bool (iF c)):=by
 refine enter 11 Tryz.func159 rfl rfl rfl rfl fun h0=>C.s1<|Zt rfl (fun q1 E1 hE1 hB1=>Zi rfl<|L.n3<|Zj rfl Tf.f103_0 rfl<|Zc 0 rfl Tf.a3 rfl hB1 rfl<|Ze rfl (fun D1 hD1=>dR _ _ _ _)<|Za rfl ?_)
 refine' L.anK 4 (s:=6) (p:=10) rfl (fun hg1=>?_) (fun hg1=>?_) ?_;rotate_left
 ·refine Zk rfl Tf.f103_1 rfl<|cR rfl (k:=1) Tf.a101 Tf.s101 rfl hB1 Yc rfl rfl GT rfl ⟨_,rfl,rfl⟩<|Zf rfl (fun D2 hD2=>XK c.parts 2 _)<|Zy rfl ?_;exact L.cu 3
 ·refine Zh rfl<|Zh rfl<|Zh rfl<|Zz rfl ?_;exact L.cu 3
 refine Zi rfl<|L.n5 ?_;exact leave1 rfl rfl rfl rfl (fun D hD=>rfl)
theorem aAY(yv:Value)(y:bJ)(r:Int×Int)(D:aA)(hy:kR D yv y):Fn Tryz.prog 156 #[yv,jC r] D (fun _ v=>v=.bool (lC r)):=by
 obtain⟨cv,qv,rfl,hc,hq⟩:=hy;refine enter 20 Tryz.func156 rfl rfl rfl rfl fun h0=>C.s1<|Zt rfl (fun q1 E1 hE1 hB1=>Zt rfl (fun q2 E2 hE2 hB2=>Zi rfl<|L.n3<|Zj rfl Tf.f133_0 rfl<|Zc 0 rfl Tf.a3 rfl hB2 rfl<|iW rfl rfl rfl rfl trivial<|Za rfl ?_))
 refine' L.anK 6 (s:=8) (p:=14) rfl (fun hg1=>?_) (fun hg1=>?_) ?_;rotate_left
 ·refine Zk rfl Tf.f133_0 rfl<|Zd 0 rfl Tf.a3 rfl hB2 rfl<|Zk rfl Tf.f133_1 rfl<|Zd 1 rfl Tf.a3 rfl hB2 rfl<|iW rfl rfl rfl rfl ⟨_,rfl,rfl⟩<|Zy rfl ?_;exact L.cu 5
 ·refine Zh rfl<|Zh rfl<|Zh rfl<|Zh rfl<|Zh rfl<|Zz rfl ?_;exact L.cu 5
 refine Za rfl ?_;refine' L.anK 4 (s:=15) (p:=19) rfl (fun hg2=>?_) (fun hg2=>?_) ?_;rotate_left
 ·refine Zk rfl Tf.f133_1 rfl<|Zd 1 rfl Tf.a3 rfl hB2 rfl<|iW rfl rfl rfl rfl ⟨_,rfl,rfl⟩<|Zy rfl ?_;exact L.cu 3
 ·refine Zh rfl<|Zh rfl<|Zh rfl<|Zz rfl ?_;exact L.cu 3
 refine Zi rfl<|L.n5 ?_;exact leave1 rfl rfl rfl rfl (fun D hD=>rfl)
theorem xZ(p:Pt)(D:aA):Fn Tryz.prog 243 #[aKU p] D (fun _ v=>v=.bool (iY p)):=by
 refine enter 6 Tryz.func243 rfl rfl rfl rfl fun h0=>C.s1<|Zt rfl (fun q1 E1 hE1 hB1=>Zi rfl<|L.n3<|cU rfl Tf.a101 rfl hB1 Yc Yz GT rfl trivial<|O7 (cs:=[.int .i64 1,.int .i64 1,.int .i64 1]) rfl U101 Tf.s3 Tf.z101 rfl rfl rfl trivial<|GB (l:=p.l) (m:=[1,1,1]) rfl Yg U101 U3 Yg rfl rfl rfl rfl rfl trivial<|Zi rfl<|L.n5 ?_)
 exact leave1 rfl rfl rfl rfl (fun D hD=>by show Value.bool _=_;rw[aBP])
theorem SP(m k:Nat)(D:aA)(hk:m.testBit k=true)(hk2:k≤60)(hl:∀i,i<k→m.testBit i=false):Fn Tryz.prog 286 #[.int .i64 (m:Int)] D (fun _ v=>v=.int .i64 (k:Int)):=by
 refine enter 11 Tryz.func286 rfl rfl rfl rfl fun h0=>C.s1<|Zi rfl<|L.n2<|Zai<|bT (γ:=Nat) (fun i=>k-i) (fun i=>i≤k) (fun i=>[(2,.int .i64 (i:Int))]) [(0,_)] (fun i=>[D]) 0 Yd ⟨Ya,cW⟩ ⟨rfl,cW⟩ (aD) ?_
 rintro i h1;refine C.s2<|Za rfl<|Za rfl<|S6 rfl rfl rfl Yd rfl trivial<|wE rfl rfl rfl (Int.natCast_nonneg _) Yd (by rw[kK];split<;>simp only[rM]<;>omega) rfl trivial<|dU rfl rfl rfl rfl trivial<|L.n1<|aE rfl (fun hc1=>?_) (fun hc1=>?_)
 ·refine C.kn<|Zai<|C.rg<|Za rfl<|Zw rfl<|Zi rfl<|Zaa<|Zak ?_;exact aG 9 (i+1) (ZV hk h1 hc1) (by have:=ZV hk h1 hc1;omega) ⟨Ya,cW⟩ rfl rfl (LT _) (aD)
 ·obtain rfl:=aCW hl h1 hc1;refine aP<|Zaj<|Zaj<|Zam<|Zag<|C.s1<|Za rfl<|Zi rfl<|L.n5 ?_;exact leave1 rfl rfl rfl rfl (fun D hD=>rfl)
end L7
end Go.Fs
