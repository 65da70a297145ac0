/- Of the proof of BookWrites: AW5, AW6, AW7, AW8, MapK, Eqs, UW1, MapV, Range, UW2, SW1, SW2. -/
import Derived.Test.YtelhnbcdablgoaaGreatDoorZBookWritesAD
import Derived.Test.YtelhnbcdablgoaaGreatDoorZBookWritesAC
import Derived.Maps.RangeRun
namespace Go.Fs
open Go.Proofs
namespace L1
open C1
theorem HF{ts:List (List Int)}{q:List Int→Bool}{t0 t:List Int}{j:Nat}(hj:ts[j]?= some t)(h:(ts.take j).all (fun t=>q t==q t0)=true)(hc:(!(q t==q t0))=false):(ts.take (j+1)).all (fun t=>q t==q t0)=true:=by
 rw[aGT,hj,List.all_append,h];simpa using hc
theorem p9{r:dF}{f:Bool}(h:dC r f=0):truths r≠[]:=by
 unfold dC at h;split at h;omega;split at h;omega;split at h;omega;assumption
theorem wJ{r:dF}{f:Bool}(h:dC r f=0):f=true:=by
 unfold dC at h;split at h;omega;split at h;omega;rename_i hf;simpa using hf
theorem VA{r:dF}{i j:Int}(hok:oD r)(h:dC r (nF r i j)=0):0≤i∧i≤j∧j<9:=by
 have:=wJ h;simp only[nF,aGO,cE]at this;have:=hok.len9;omega
theorem uW{r:dF}(hok:oD r):∀t∈truths r,t.length≤9∧∀x∈t,0≤x∧x≤1:=fun t ht=>⟨by have:=(tO ht).1;have:=hok.len9;omega,(tO ht).2⟩
theorem M6{ts:List (List Int)}{k:Nat}{t:List Int}{f:List Int→Int}{a:Int}(h:ts[k]?= some t):((ts.take (k+1)).map f).foldl min a=min (((ts.take k).map f).foldl min a) (f t):=by
 rw[aGT,h,aIB,aGS,aIG];rfl
theorem H2{ts:List (List Int)}{k:Nat}{t:List Int}{f:List Int→Int}{a:Int}(h:ts[k]?= some t):((ts.take (k+1)).map f).foldl max a=max (((ts.take k).map f).foldl max a) (f t):=by
 rw[aGT,h,aIB,aGS,aIG];rfl
open C1
theorem JY(sv:Value)(ts:List (List Int))(i j:Int)(D:aA)(hS:Sl D RT 9 sv ts)(hne:ts≠[])(hall:∀t∈ts,t.length≤9∧∀x∈t,0≤x∧x≤1)(hi0:0≤i)(hij:i≤j)(hj9:j<9):
  Fn Tryz.prog 75 #[sv,.int .i64 i,.int .i64 j] D (fun _ v=>v=.agg #[.int .i64 (UJ ts i.toNat j.toNat),.int .i64 (OG ts i.toNat j.toNat)]):=by
 have hl:=hS.len;obtain⟨t0,ht0⟩:∃t,ts[0]?= some t:=⟨ts[0]'(aJK.2 hne),aGF _⟩
 have ht0m:=aGD ht0;have hb0:=k9 (hall t0 ht0m).2 i.toNat j.toNat Yd;have hp90:=fD (hall t0 ht0m).1;refine enter 36 Tryz.func75 rfl rfl rfl rfl fun h0=>C.s1<|Zw rfl Tf.z88 rfl (fun q1=>L.n3<|Za rfl<|Zs rfl U174 Tf.s179 rfl hS rfl ht0 (fun b1 o1 cs1 hr1 hcl1 hA1=>?_))
 obtain rfl:cs1=ints (dY _):=hr1;refine cO rfl Tf.a179 rfl hA1 Yc (by first|exact Tf.s179|(simp only[*];exact Tf.s179)) GT rfl trivial<|Zc rfl (fun D1 hD1=>wE t0 _ (hall _ ht0m).1 (hall _ ht0m).2)<|Za rfl<|Za rfl<|Zc rfl (fun D2 hD2=>aAI t0 i j _ hi0 hij hj9 (hall _ ht0m).2)<|Zh rfl<|L.n3<|Za rfl<|Za rfl<|Zq [.int .i64 (kV t0 i.toNat j.toNat),.int .i64 (kV t0 i.toNat j.toNat)] rfl Tf.p88 Tf.z88 rfl rfl<|Zw rfl Tf.z88 rfl (fun q2=>Zu rfl Tf.s88 (bL.head) ?_);refine L.n4<|Za rfl<|aV rfl U174 rfl Yk rfl rfl trivial<|Za rfl<|L.n1<|Zah<|cJ (γ:=Nat) (fun k=>ts.length-k) (fun k=>k≤ts.length) (fun k=>[(23,.int .i64 (k:Int))]) [(22,_),(21,_),(8,_),(6,_),(1,_),(2,_)] (fun k=>[(q2,.cells [.int .i64 (((ts.take k).map fun t=>kV t i.toNat j.toNat).foldl min (kV t0 i.toNat j.toNat)),.int .i64 (((ts.take k).map fun t=>kV t i.toNat j.toNat).foldl max (kV t0 i.toNat j.toNat))].toArray 88 (0,0)),(q1,.cells [.int .i64 0,.int .i64 0].toArray 88 (0,0))]) (fun k=>[D]) 0 Yd ⟨Yb,aLJ⟩ C.rs (LT _) (aD) ?_;rintro k h1;refine C.s1<|Zad rfl<|L.n2<|aE rfl (fun hc1=>?_) (fun hc1=>?_)
 ·have hkk:k<ts.length:=by omega
  obtain⟨t,ht⟩:=C.ge ts k;have htm:=aGD ht;obtain⟨htl,htb⟩:=hall t htm;have hp9:=fD htl;refine C.kn<|aL<|Zah<|C.s1<|Zs rfl U174 Tf.s179 rfl hS rfl ht (fun b2 o2 cs2 hr2 hcl2 hA2=>?_);obtain rfl:cs2=ints (dY _):=hr2;refine cO rfl Tf.a179 rfl hA2 Yc (by first|exact Tf.s179|(simp only[*];exact Tf.s179)) GT rfl trivial<|Zw rfl Tf.z179 rfl (fun q3=>bD rfl rfl rfl rfl Tf.s179 Yad Ya (bL.head) Yh trivial<|L.n1<|iS [] 3 [0,1,3,4,2,5,6,7] [false,true,true,true,true,true,false,false] [(false,0),(true,1),(true,3),(true,4),(true,2),(true,5),(false,6),(false,7)] Tf.follows (fun _ _ _ h=>bZ (P:=Tryz.prog) (fn:=Tryz.f75) _ _ _ h) Yg rfl<|Zt rfl Tf.a88 rfl (List.Mem.tail _ (List.Mem.head _)) Tf.s88<|bK rfl Tf.a179 rfl (List.Mem.head _) (by first|exact Tf.s179|(simp only[*];exact Tf.s179)) GT rfl trivial<|Za rfl<|Za rfl<|Zc rfl (fun D3 hD3=>wE t _ (hall _ htm).1 (hall _ htm).2)<|Zc rfl (fun D4 hD4=>aAI t i j _ hi0 hij hj9 (hall _ htm).2)<|Zc rfl (fun D5 hD5=>nU _ _ _ _) ?_);refine Zu rfl Tf.s88 (.tail (bL.head))<|Zz<|Zak<|Zag<|C.rg<|Zx rfl<|Za rfl<|Zz ?_;rw[←M6 ht,←H2 ht];exact aH 14 (k+1) Yd Yd ⟨Yb,aLJ⟩ rfl rfl (List.Sublist.cons _ (LT _)) (aD)
 ·obtain rfl:k=ts.length:=by omega
  rw[aHT,F9 _ _ (by rw[aHD,ht0];rfl),G4 _ _ (by rw[aHD,ht0];rfl)];refine aR<|Zai<|Zai<|Zal<|Zag<|C.s1<|Zt rfl Tf.a88 rfl (List.Mem.head _) Tf.s88<|Zu rfl Tf.s88 (.tail (bL.head))<|L.n5 ?_;exact Zm [_] rfl ⟨⟨_,_,_,rfl,(List.Mem.tail _ (List.Mem.head _)),Or.inr ⟨Tf.a88,(by first|exact Tf.s88|(simp only[aHK,aI, *];exact Tf.s88)),rfl⟩⟩,aLJ⟩ (fun D hD=>rfl)
theorem yE(rv:Value)(r:dF)(i j:Int)(D:aA)(hr:mJ D rv r):Fn Tryz.prog 44 #[rv,.int .i64 i,.int .i64 j] D (fun _ v=>v=.tuple #[.agg (if dC r (nF r i j)=0 then #[.int .i64 (UJ (truths r) i.toNat j.toNat),.int .i64 (OG (truths r) i.toNat j.toNat)]else #[.int .i64 0,.int .i64 0]),.int .i64 (dC r (nF r i j))]):=by
 have hr0:=hr;obtain⟨pv,cv,rfl,hp,hc⟩:=hr;refine enter 30 Tryz.func44 rfl rfl rfl rfl fun h0=>C.s1<|Zv rfl (fun q1 E1 hE1 hB1=>Zw rfl Tf.z88 rfl (fun q2=>Zh rfl<|L.n2<|C.drawA [] 4 11 798 (fun _ _ _ h=>bZ (P:=Tryz.prog) (fn:=Tryz.f44) _ _ _ h)<|Zr rfl Tf.a28 rfl hB1 Tf.s28<|Zr rfl Tf.a28 rfl hB1 Tf.s28<|Za rfl<|Za rfl<|Zc rfl (fun D1 hD1=>WH _ r i j _ (hr0.up (hD1 _ Ye))) ?_));refine cB rfl rfl rfl (fun D2 hD2=>pE _ r _ _ (hr0.up (hD2 _ Ye))) rfl aLJ (fun v2 D2 hD2 hp2=>?_)
 obtain⟨wv,rfl,hwk⟩:=hp2;refine Za rfl<|Zaa rfl<|Zaa rfl<|Zh rfl<|Zh rfl<|L.n4<|Za rfl<|eI rfl rfl rfl rfl trivial<|L.n1<|aE rfl (fun hc1=>?_) (fun hc1=>?_)
 ·refine C.s1<|Zq [.int .i64 0,.int .i64 0] rfl Tf.p88 Tf.z88 rfl rfl<|Za rfl<|Zu rfl Tf.s88 (bL.head)<|Zh rfl<|L.n5<|Zaj ?_;exact Zm [_,_] rfl ⟨⟨_,_,_,rfl,(List.Mem.head _),Or.inr ⟨Tf.a88,(by first|exact Tf.s88|(simp only[aHK,aI, *];exact Tf.s88)),rfl⟩⟩,rfl,aLJ⟩ (fun D hD=>by show Value.tuple _=_;rw[aGQ hc1])
 ·have he0:dC r (nF r i j)=0:=by omega
  obtain⟨hok,wb,pv2,cv2,tv,rfl,hA,hp2,hc2',ht⟩:=hwk he0;have htn:=p9 he0;have hall:=uW hok;have hpt:=VA hok he0;refine C.kn<|C.s1<|Za rfl<|Zae rfl<|Zi rfl Tf.f176_1 rfl<|Zf 4 rfl Tf.a174 rfl hA rfl<|Za rfl<|Za rfl<|Zc rfl (fun D3 hD3=>JY _ _ i j _ (ht.up RT.up (hD3 _ Ye)) htn hall hpt.1 hpt.2.1 hpt.2.2)<|Zu rfl Tf.s88 (bL.head)<|Zh rfl<|L.n5 ?_;exact Zm [_,_] rfl ⟨⟨_,_,_,rfl,(List.Mem.head _),Or.inr ⟨Tf.a88,(by first|exact Tf.s88|(simp only[aHK,aI, *];exact Tf.s88)),rfl⟩⟩,rfl,aLJ⟩ (fun D hD=>by show Value.tuple _=_;rw[aGX he0,he0])
theorem K6(wv:Value)(t:List Int)(i:Nat)(D:aA)(h9:t.length≤9)(hi:i<9):Fn Tryz.prog 263 #[wv,.agg (ints (dY t)).toArray,.int .i64 (i:Int)] D (fun _ v=>v=.bool (UV i t)):=by
 have hg:=OW hi h9;refine enter 11 Tryz.func263 rfl rfl rfl rfl fun h0=>C.s1<|Zv rfl (fun q1 E1 hE1 hB1=>Zh rfl<|L.n3<|Za rfl<|dE rfl U179 Tf.s3 rfl rfl Yd Yd rfl trivial<|gD rfl Tf.a3 rfl hB1 Ye (cA hg) GT rfl trivial<|eT rfl rfl rfl rfl trivial<|Zh rfl<|L.n5 ?_)
 exact leave1 rfl rfl rfl rfl (fun D hD=>rfl)
theorem BI(fv wv:Value)(f:FuncId)(r:dF)(p:Nat→List Int→Bool)(many:Nat)(D:aA)(hfv:fv=.func (.func f) #[] #[])(hw:UQ D wv r)(hok:oD r)(hne:truths r≠[])(hm:many≤9)
  (hf:∀t∈truths r,∀i,i<many→∀D',Le D D'→Fn Tryz.prog f #[wv,.agg (ints (dY t)).toArray,.int .i64 (i:Int)] D' (fun _ v=>v=.bool (p i t))):
  Fn Tryz.prog 264 #[.agg #[fv],wv,.int .i64 (many:Int)] D (fun D' v=>Sl D' RI 1 v ((List.range many).map fun i=>vd (truths r) (p i))):=by
 obtain⟨wb,pv,cv,tv,rfl,hA,hp,hc,ht⟩:=hw;subst hfv;have hl:=ht.len;have hall:=uW hok;obtain⟨t0,ht0⟩:∃t,(truths r)[0]?= some t:=⟨(truths r)[0]'(aJK.2 hne),aGF _⟩
 have ht0m:=aGD ht0;have hp90:=fD (hall t0 ht0m).1;refine enter 52 Tryz.func264 rfl rfl rfl rfl fun h0=>C.s1<|Zv rfl (fun q1 E1 hE1 hB1=>Zh rfl<|L.n4<|Za rfl<|Za rfl<|L.n1<|Zah<|cJ (γ:=Nat×Value×aC) (fun g=>many-g.1) (fun g=>g.1≤many∧bN 3 1 g.2.1 g.1 (ints ((List.range g.1).map fun i=>vd (truths r) (p i))) g.2.2) (fun g=>[(13,.int .i64 (g.1:Int)),(6,g.2.1)]) [(12,_),(3,_),(1,_)] (fun g=>g.2.2++[]) (fun g=>[E1,D]) (0,.slice none 0 0,[]) ⟨by simp,by simpa [ints]using bN.nil⟩ ⟨Yb,Yb,aLJ⟩ C.rs (LT _) (aD) ?_)
 rintro⟨k,v,ν⟩ ⟨h1,ha⟩;refine C.s1<|Zad rfl<|L.n2<|aE rfl (fun hc1=>?_) (fun hc1=>?_)
 ·refine C.kn<|aL<|Zah<|C.s1<|Za rfl<|Zh rfl<|L.n1<|l7<|aL<|C.drawA [] 6 12 1020 (fun _ _ _ h=>bZ (P:=Tryz.prog) (fn:=Tryz.f264) _ _ _ h)<|Zi rfl Tf.f384_0 rfl<|Zf 0 rfl Tf.a381 rfl hB1 rfl ?_;refine Za rfl<|Za rfl<|Zae rfl<|Zi rfl Tf.f176_1 rfl<|Zf 4 rfl Tf.a174 rfl hA rfl<|Zs rfl U174 Tf.s179 rfl ht rfl ht0 (fun b1 o1 cs1 hr1 hcl1 hA1=>?_);obtain rfl:cs1=ints (dY _):=hr1;refine cO rfl Tf.a179 rfl hA1 Yc (by first|exact Tf.s179|(simp only[*];exact Tf.s179)) GT rfl trivial<|Za rfl<|Zc rfl (fun D1 hD1=>hf t0 ht0m k Yd _ (hD1 _ Ye))<|Zh rfl<|L.n3<|Zh rfl<|L.n4<|Za rfl<|L.n1<|aQ rfl (fun hc2=>?_) (fun hc2=>?_)
  ·refine C.rg<|Zh rfl<|L.n2<|B8<|Zag<|C.s2<|Za rfl<|Zae rfl<|Zi rfl Tf.f176_1 rfl<|Zf 4 rfl Tf.a174 rfl hA rfl<|aV rfl U174 rfl Yk rfl rfl trivial<|Za rfl ?_;refine L.n1<|Zah<|cG (γ:=Nat) (fun j=>(truths r).length-j) (fun j=>j≤(truths r).length∧((truths r).take j).all (fun t=>p k t==p k t0)=true) (fun j=>[(33,.int .i64 (j:Int))]) [(32,_),(31,_),(30,_),(29,_),(28,_),(9,_),(27,_),(8,_),(26,_),(25,_),(24,_),(23,_),(22,_),(21,_),(20,_),(19,_),(18,_),(17,_),(16,_),(7,_),(15,_),(14,_),(13,_),(6,_),(12,_),(3,_),(1,_)] (fun j=>[E1,D]) 0 Ye ⟨Yb,aLJ⟩ C.rs (aD) ?_;rintro j ⟨h3,h4⟩;refine C.s1<|Zad rfl<|L.n2<|aE rfl (fun hc3=>?_) (fun hc3=>?_)
   ·have hj:j<(truths r).length:=by omega
    obtain⟨t,ht1⟩:=C.ge (truths r) j;have htm:=aGD ht1;obtain⟨htl,htb⟩:=hall t htm;have hp9:=fD htl;refine C.kn<|aL<|Zah<|C.s1<|Zs rfl U174 Tf.s179 rfl ht rfl ht1 (fun b2 o2 cs2 hr2 hcl2 hA2=>?_);obtain rfl:cs2=ints (dY _):=hr2;refine cO rfl Tf.a179 rfl hA2 Yc (by first|exact Tf.s179|(simp only[*];exact Tf.s179)) GT rfl trivial<|Zw rfl Tf.z179 rfl (fun q2=>bD rfl rfl rfl rfl Tf.s179 Yad Ya (bL.head) Yh trivial<|L.n3<|Zi rfl Tf.f384_0 rfl<|Zf 0 rfl Tf.a381 rfl hB1 rfl<|Za rfl<|bK rfl Tf.a179 rfl (List.Mem.head _) (by first|exact Tf.s179|(simp only[*];exact Tf.s179)) GT rfl trivial<|Za rfl<|Zc rfl (fun D2 hD2=>hf t htm k Yd _ (hD2 _ Ye))<|Za rfl<|g9 rfl U4 rfl rfl rfl aLJ ?_);refine L.n1<|aQ rfl (fun hc4=>?_) (fun hc4=>?_)
    ·have hv:vd (truths r) (p k)=3:=aAJ ht0 ht1 hc4;refine C.s1<|Zh rfl<|L.n1<|aR<|lQ rfl<|Zai<|Zai<|Zal<|Zag<|C.rg<|Za rfl<|Za rfl ?_;refine Zp rfl U25 Tf.s3 Tf.z3 rfl rfl rfl rfl (.cons rfl rfl .nil) (fun b901 D901 hD901 hA901=>?_);have hS901:=Sl.ofInts (l:=[_]) (n:=1) (cap:=1) hA901 rfl Yd Yd;refine bA (A:=[(_,_)]) (B:=_) rfl U25 rfl rfl Tf.s3 Tf.z3 rfl Tf.i3 rfl rfl rfl ha (jL.lit hA901) Ye rfl Ye Yi Yd (aGR rfl) rfl aLJ (fun v1 ν1 ha1=>?_);have ha2:bN 3 1 v1 (k+1) (ints ((List.range (k+1)).map fun i=>vd (truths r) (p i))) ν1:=by rw[aIF,aGS,aKN,hv,←eW];exact ha1
     refine Zh rfl<|Zz<|lI<|Zak<|Zag<|C.rg<|Zx rfl<|Za rfl<|Zz ?_;exact aH 45 (k+1,v1,ν1) ⟨by simp only;omega,ha2⟩ Yn ⟨Yb,Yb,aLJ⟩ rfl rfl (List.Sublist.cons _ (LT _)) (fun D h=>⟨D,LE _ (h),Le.refl D⟩)
    ·have hcc:=hc4;refine bR<|Zak<|Zag<|C.rg<|Zx rfl<|Za rfl<|Zz ?_;exact aH 15 (j+1) ⟨by omega,HF ht1 h4 hcc⟩ Yd ⟨Yb,aLJ⟩ rfl rfl (List.Sublist.cons _ (LT _)) (aD)
   ·have hv:vd (truths r) (p k)=1:=by rw[OF ht0 Yd h4,aGX (by simp[hc2])]
    refine aR<|Zai<|Zai<|Zal<|Zag<|C.rg<|Za rfl<|Za rfl<|Zp rfl U25 Tf.s3 Tf.z3 rfl rfl rfl rfl (.cons rfl rfl .nil) (fun b902 D902 hD902 hA902=>?_);have hS902:=Sl.ofInts (l:=[_]) (n:=1) (cap:=1) hA902 rfl Yd Yd;refine bA (A:=[]) (B:=_) rfl U25 rfl rfl Tf.s3 Tf.z3 rfl Tf.i3 rfl rfl rfl ha (jL.lit hA902) Ye rfl Ye Yi Yd (aGR rfl) rfl aLJ (fun v2 ν2 ha2=>?_);have ha2:bN 3 1 v2 (k+1) (ints ((List.range (k+1)).map fun i=>vd (truths r) (p i))) ν2:=by rw[aIF,aGS,aKN,hv,←eW];exact ha2
    refine Zh rfl<|Zz<|lI<|Zak<|Zag<|C.rg<|Zx rfl<|Za rfl<|Zz ?_;exact aH 33 (k+1,v2,ν2) ⟨by simp only;omega,ha2⟩ Yn ⟨Yb,Yb,aLJ⟩ rfl rfl (LT _) (fun D h=>⟨D,LE _ (h),Le.refl D⟩)
  ·refine C.kn<|aL<|B8<|Zag<|C.s2<|Za rfl<|Zae rfl<|Zi rfl Tf.f176_1 rfl<|Zf 4 rfl Tf.a174 rfl hA rfl<|aV rfl U174 rfl Yk rfl rfl trivial<|Za rfl<|L.n1 ?_;refine Zah<|cG (γ:=Nat) (fun j=>(truths r).length-j) (fun j=>j≤(truths r).length∧((truths r).take j).all (fun t=>p k t==p k t0)=true) (fun j=>[(33,.int .i64 (j:Int))]) [(32,_),(31,_),(30,_),(29,_),(28,_),(27,_),(9,_),(8,_),(26,_),(25,_),(24,_),(23,_),(22,_),(21,_),(20,_),(19,_),(18,_),(17,_),(16,_),(7,_),(15,_),(14,_),(13,_),(6,_),(12,_),(3,_),(1,_)] (fun j=>[E1,D]) 0 Ye ⟨Yb,aLJ⟩ C.rs (aD) ?_;rintro j ⟨h3,h4⟩;refine C.s1<|Zad rfl<|L.n2<|aE rfl (fun hc5=>?_) (fun hc5=>?_)
   ·have hj:j<(truths r).length:=by omega
    obtain⟨t,ht1⟩:=C.ge (truths r) j;have htm:=aGD ht1;obtain⟨htl,htb⟩:=hall t htm;have hp9:=fD htl;refine C.kn<|aL<|Zah<|C.s1<|Zs rfl U174 Tf.s179 rfl ht rfl ht1 (fun b3 o3 cs3 hr3 hcl3 hA3=>?_);obtain rfl:cs3=ints (dY _):=hr3;refine cO rfl Tf.a179 rfl hA3 Yc (by first|exact Tf.s179|(simp only[*];exact Tf.s179)) GT rfl trivial<|Zw rfl Tf.z179 rfl (fun q3=>bD rfl rfl rfl rfl Tf.s179 Yad Ya (bL.head) Yh trivial<|L.n3<|Zi rfl Tf.f384_0 rfl<|Zf 0 rfl Tf.a381 rfl hB1 rfl<|Za rfl<|bK rfl Tf.a179 rfl (List.Mem.head _) (by first|exact Tf.s179|(simp only[*];exact Tf.s179)) GT rfl trivial<|Za rfl<|Zc rfl (fun D3 hD3=>hf t htm k Yd _ (hD3 _ Ye))<|Za rfl<|g9 rfl U4 rfl rfl rfl aLJ ?_);refine L.n1<|aQ rfl (fun hc6=>?_) (fun hc6=>?_)
    ·have hv:vd (truths r) (p k)=3:=aAJ ht0 ht1 hc6;refine C.s1<|Zh rfl<|L.n1<|aR<|lQ rfl<|Zai<|Zai<|Zal<|Zag<|C.rg<|Za rfl<|Za rfl ?_;refine Zp rfl U25 Tf.s3 Tf.z3 rfl rfl rfl rfl (.cons rfl rfl .nil) (fun b903 D903 hD903 hA903=>?_);have hS903:=Sl.ofInts (l:=[_]) (n:=1) (cap:=1) hA903 rfl Yd Yd;refine bA (A:=[(_,_)]) (B:=_) rfl U25 rfl rfl Tf.s3 Tf.z3 rfl Tf.i3 rfl rfl rfl ha (jL.lit hA903) Ye rfl Ye Yi Yd (aGR rfl) rfl aLJ (fun v3 ν3 ha3=>?_);have ha2:bN 3 1 v3 (k+1) (ints ((List.range (k+1)).map fun i=>vd (truths r) (p i))) ν3:=by rw[aIF,aGS,aKN,hv,←eW];exact ha3
     refine Zh rfl<|Zz<|lI<|Zak<|Zag<|C.rg<|Zx rfl<|Za rfl<|Zz ?_;exact aH 45 (k+1,v3,ν3) ⟨by simp only;omega,ha2⟩ Yn ⟨Yb,Yb,aLJ⟩ rfl rfl (List.Sublist.cons _ (LT _)) (fun D h=>⟨D,LE _ (h),Le.refl D⟩)
    ·have hcc:=hc6;refine bR<|Zak<|Zag<|C.rg<|Zx rfl<|Za rfl<|Zz ?_;exact aH 15 (j+1) ⟨by omega,HF ht1 h4 hcc⟩ Yd ⟨Yb,aLJ⟩ rfl rfl (List.Sublist.cons _ (LT _)) (aD)
   ·have hv:vd (truths r) (p k)=2:=by rw[OF ht0 Yd h4,aGQ (by simp[hc2])]
    refine aR<|Zai<|Zai<|Zal<|Zag<|C.rg<|Za rfl<|Za rfl<|Zp rfl U25 Tf.s3 Tf.z3 rfl rfl rfl rfl (.cons rfl rfl .nil) (fun b904 D904 hD904 hA904=>?_);have hS904:=Sl.ofInts (l:=[_]) (n:=1) (cap:=1) hA904 rfl Yd Yd;refine bA (A:=[]) (B:=_) rfl U25 rfl rfl Tf.s3 Tf.z3 rfl Tf.i3 rfl rfl rfl ha (jL.lit hA904) Ye rfl Ye Yi Yd (aGR rfl) rfl aLJ (fun v4 ν4 ha4=>?_);have ha2:bN 3 1 v4 (k+1) (ints ((List.range (k+1)).map fun i=>vd (truths r) (p i))) ν4:=by rw[aIF,aGS,aKN,hv,←eW];exact ha4
    refine Zh rfl<|Zz<|lI<|Zak<|Zag<|C.rg<|Zx rfl<|Za rfl<|Zz ?_;exact aH 33 (k+1,v4,ν4) ⟨by simp only;omega,ha2⟩ Yn ⟨Yb,Yb,aLJ⟩ rfl rfl (LT _) (fun D h=>⟨D,LE _ (h),Le.refl D⟩)
 ·obtain rfl:k=many:=by omega
  refine aR<|Zai<|Zai<|Zal<|Zag<|C.s1<|Za rfl<|Zh rfl<|L.n5<|eF (A:=[]) (B:=[]) ha rfl (fun D2 hD2 hF=>?_);exact leave1 rfl rfl rfl rfl (fun D hD=>(hF.ints Ye Yd).up RI.up (hD _ Ye))
theorem MH(rv:Value)(r:dF)(D:aA)(hr:mJ D rv r):Fn Tryz.prog 198 #[rv] D (fun D' v=>∃lv,v=.tuple #[lv,.int .i64 (dC r true)]∧Sl D' RI 1 lv (if dC r true=0 then(List.range r.places.length).map (fun i=>vd (truths r) (UV i))else [])):=by
 have hr0:=hr;obtain⟨pv,cv,rfl,hp,hc⟩:=hr;have hl1:=hp.len;have hl2:=hc.len;refine enter 20 Tryz.func198 rfl rfl rfl rfl fun h0=>C.s1<|Zv rfl (fun q1 E1 hE1 hB1=>Zh rfl<|Zh rfl<|L.n3<|Zr rfl Tf.a28 rfl hB1 Tf.s28<|cB rfl rfl rfl (fun D1 hD1=>pE _ r _ _ (hr0.up (hD1 _ Ye))) rfl aLJ (fun v1 D1 hD1 hp1=>?_))
 obtain⟨wv,rfl,hwk⟩:=hp1;refine Za rfl<|Zaa rfl<|Zaa rfl<|Zh rfl<|Zh rfl<|L.n4<|Za rfl<|eI rfl rfl rfl rfl trivial<|L.n1<|aE rfl (fun hc1=>?_) (fun hc1=>?_)
 ·refine C.s1<|Za rfl<|Zh rfl<|Zh rfl<|L.n5<|Zaj ?_;exact Zm [_,_] rfl C.rs (fun D hD=>⟨_,rfl,by rw[aGQ hc1];exact Sl.nil⟩)
 ·have he0:dC r true=0:=by omega
  obtain⟨hok,wb,pv2,cv2,tv,rfl,hA,hp2,hc2',ht⟩:=hwk he0;have htn:=p9 he0;have hall:=uW hok;refine C.kn<|C.s1<|Zq [.func (.func 263) #[] #[]] rfl Tf.p384 Tf.z384 rfl rfl<|Za rfl<|Zi rfl Tf.f28_0 rfl<|Zf 0 rfl Tf.a25 rfl hB1 rfl<|aV rfl U25 rfl hp rfl rfl trivial<|cB rfl rfl rfl (fun D2 hD2=>BI _ _ 263 r (UV) r.places.length _ rfl ⟨wb,pv2,cv2,tv,rfl,hA.up (hD2 _ Ye),hp2.up RI.up (hD2 _ Ye),hc2'.up RC.up (hD2 _ Ye),ht.up RT.up (hD2 _ Ye)⟩ hok htn (by have:=hok.len9;have:=hok.cnt6;omega) (fun t htm i hi D2 hl=>K6 _ t i D2 (hall t htm).1 (by have:=hok.len9;omega))) rfl aLJ (fun v2 D2 hD2 hp2=>Zh rfl<|Zh rfl<|L.n5 ?_)
  exact Zm [_,_] rfl C.rs (fun D hD=>⟨_,by rw[he0];rfl,by rw[aGX he0];exact hp2.up RI.up (hD _ Ye)⟩)
end L1
end Go.Fs
namespace Go.Fs
open Go.Proofs
namespace L1
open C1
end L1
end Go.Fs
namespace Go.Fs
open Go.Proofs
namespace L1
end L1
end Go.Fs
namespace Go.Fs
open Go.Proofs
namespace L1
open C1
open C1
theorem UO(rv:Value)(r:dF)(D:aA)(hr:mJ D rv r):Fn Tryz.prog 45 #[rv] D (fun _ v=>v=.tuple #[.int .i64 (oU r),.int .i64 (xX r)]):=by
 have hr0:=hr;obtain⟨pv,cv,rfl,hp,hc⟩:=hr;refine J6 47 Tryz.func45 rfl rfl rfl rfl fun h0=>C.s1<|Zv rfl (fun q1 E1 hE1 hB1=>Zh rfl<|Zh rfl<|L.n4<|Zr rfl Tf.a28 rfl hB1 Tf.s28<|Zc rfl (fun D1 hD1=>zM _ r _ (hr0.up (hD1 _ Ye)))<|Zh rfl<|L.n3<|Za rfl<|eI rfl rfl rfl rfl aLJ ?_);refine L.n1<|aE rfl (fun hc1=>?_) (fun hc1=>?_)
 ·refine C.s1<|Za rfl<|Zh rfl<|Zh rfl<|L.n5<|Zaj ?_;exact oJ (vs:=[_,_]) rfl rfl rfl C.rs (fun D hD=>by show Value.tuple _=_;rw[oU,xX,aGX hc1,aGX hc1]<;>rfl)
 ·have hok:oD r:=Y3.1 Yd;refine C.kn<|C.s1<|Zw rfl Tf.z3 rfl (fun q2=>Zw rfl Tf.z4 rfl (fun q3=>Zn rfl Tf.s3 (.tail (bL.head)) rfl<|Zn rfl Tf.s4 (bL.head) rfl<|L.n3<|Zw rfl Tf.z179 rfl (fun q4=>L.n4<|Zr rfl Tf.a28 rfl hB1 Tf.s28<|cB rfl rfl rfl (fun D2 hD2=>IU _ r _ (hr0.up (hD2 _ Ye)) hok.len9) rfl aLJ (fun v2 D2 hD2 hp2=>L.n1 ?_))));refine Zah ?_;obtain⟨br,rfl,hit⟩:=hp2;refine lV (γ:=Option Int×List Int) (xs:=(cQ r.places).map dY) (enc:=f8) (Dr:=D2) (rQ r) (fun _ _ _=>False) (fun g=>[(q4,.cells (ints g.2).toArray 179 (0,0)),(q3,.cells [.bool g.1.isSome].toArray 4 (0,0)),(q2,.cells [.int .i64 (g.1.getD 0)].toArray 3 (0,0))]) (none,List.replicate 9 0) rfl rfl rfl rfl hit Ye (fun _=>rfl) rfl ⟨rfl,rfl,fun u hu=>by simp at hu⟩ rfl ?_ ?_ (fun _ _ _ _ h=>h.elim)
  ·rintro pre x ⟨o,last⟩ ⟨us,hx⟩ hΦ l bd rec hh D7 hD7 hst hpend;obtain⟨t,hk,rfl,htm,htake⟩:=tM hx;obtain⟨hlen,htb⟩:=mS htm;have htr:lN r t:=⟨hlen,htb⟩
   have hp9:=fD (t:=t) (by have:=hok.len9;omega);have hl9:last.length=9:=hΦ.2.1;refine C.rg<|Zw rfl Tf.z179 rfl (fun q5=>Zu rfl Tf.s179 (bL.head)<|Zz ?_);refine fun a w hhh=>qW (A:=[(_,_),(_,_),(_,_),(_,_)]) (B:=[(bd,.deferred (some []))]) (r:=rec) (l:=l) (by rfl) hst ?_ a w hhh
   refine Zah<|C.s2<|Zl rfl Tf.a4 rfl (List.Mem.tail _ (List.Mem.tail _ (List.Mem.head _))) rfl<|Za rfl ?_;refine' L.anK 4 (s:=20) (p:=24) rfl (fun hg1=>?_) (fun hg1=>?_) ?_;rotate_left
   ·refine bK rfl Tf.a179 rfl (GE _) Yx GT rfl ⟨_,rfl,rfl⟩<|bK rfl Tf.a179 rfl (List.Mem.tail _ (List.Mem.head _)) Yx GT rfl ⟨_,rfl,rfl⟩<|EU rfl Yg U179 U3 Yg hp9 hl9 rfl rfl rfl ⟨_,rfl,rfl⟩<|Zab rfl ?_;exact L.cu 3
   ·refine Zk rfl<|Zk rfl<|Zk rfl<|Zac rfl ?_;exact L.cu 3
   refine L.n1<|aQ rfl (fun hc2=>?_) (fun hc2=>?_)
   ·refine aR<|Zai<|Zal ?_;exact fun a w hh=>fH (A:=[(_,_),(_,_),(_,_)]) (B:=[(bd,.deferred (some []))]) (o,last) (EW hΦ htm htake hc2) rfl rfl a w (hh.dropBoxes 1)
   ·refine C.kn<|C.s1<|bK rfl Tf.a179 rfl (List.Mem.head _) Yx GT rfl trivial<|Zu rfl Tf.s179 (.tail (bL.head))<|L.n2<|C.drawA [] 4 9 198 (fun _ _ _ h=>h)<|Zr rfl Tf.a28 rfl hB1 Tf.s28<|bK rfl Tf.a179 rfl (List.Mem.head _) Yx GT rfl trivial<|Zc rfl (fun D3 hD3=>wE t _ (by have:=hok.len9;omega) htb)<|Zc rfl (fun D4 hD4=>BY _ r t _ (hr0.up (hD4 _ Ye)) hok htr)<|Za rfl<|Zaa rfl ?_;refine Zaa rfl<|Zh rfl<|Zh rfl<|L.n3<|Za rfl<|Za rfl ?_;refine' L.anK 8 (s:=34) (p:=42) rfl (fun hg2=>?_) (fun hg2=>?_) ?_;rotate_left
    ·refine aS rfl Tf.a4 rfl (LE _ (LE _ (GE _))) rfl GT rfl ⟨_,rfl,rfl⟩<|iW rfl rfl rfl ⟨_,rfl,rfl⟩<|Zb rfl ?_;refine' L.orK 4 (s:=37) (p:=41) rfl (fun hg3=>?_) (fun hg3=>?_) ?_;rotate_left
     ·refine Zb rfl<|aS rfl Tf.a3 rfl (List.Mem.tail _ (List.Mem.tail _ (List.Mem.tail _ (List.Mem.head _)))) rfl GT rfl ⟨_,rfl,rfl⟩<|FZ rfl rfl rfl rfl ⟨_,rfl,rfl⟩<|B6 rfl rfl rfl rfl ⟨_,rfl,rfl⟩ ?_;exact L.cu 3
     ·refine Zk rfl<|Zk rfl<|Zk rfl<|A5 rfl rfl rfl rfl ⟨_,rfl,rfl⟩ ?_;exact L.cu 3
     refine Zab rfl ?_;exact L.cu 4
    ·refine Zk rfl<|Zk rfl<|Zk rfl<|Zk rfl<|Zk rfl<|Zk rfl<|Zk rfl<|Zac rfl ?_;exact L.cu 7
    refine L.n1<|aQ rfl (fun hc3=>?_) (fun hc3=>?_)
    ·refine C.rg<|Za rfl<|Zn rfl Tf.s3 (.tail (.tail (.tail (bL.head)))) rfl<|Zn rfl Tf.s4 (.tail (.tail (bL.head))) rfl<|Zz<|Zak ?_;exact fun a w hh=>fH (A:=[(_,_),(_,_),(_,_)]) (B:=[(bd,.deferred (some []))]) (some (if dV r t=true then(nA r t:Int)else 0),dY t) (KK hΦ hp9 htake hc3) rfl rfl a w (hh.dropBoxes 1)
    ·refine bR<|Zak ?_;exact fun a w hh=>fH (A:=[(_,_),(_,_),(_,_)]) (B:=[(bd,.deferred (some []))]) (o,dY t) (QS hΦ hp9 htake hc3) rfl rfl a w (hh.dropBoxes 1)
  ·rintro⟨o,last⟩ bd hΦ;have ho:o=jS r (cQ r.places):=by simpa [rQ]using hΦ.1
   have hf0:aT r=0:=by omega
   refine Zak<|Zag<|C.s2<|Zl rfl Tf.a4 rfl (List.Mem.tail _ (List.Mem.head _)) rfl<|Zaf rfl<|L.n1<|aQ rfl (fun hc4=>?_) (fun hc4=>?_)
   ·refine C.s1<|Zh rfl<|Zh rfl<|L.n5<|Zaj ?_;exact oG (vs:=[_,_]) (A:=[(_,_),(_,_),(_,_)]) rfl rfl rfl C.rs (fun D hD=>by show Value.tuple _=_;rw[(o5 ho hf0 hc4).1,(o5 ho hf0 hc4).2]<;>rfl)
   ·refine C.kn<|C.s1<|Zl rfl Tf.a3 rfl (List.Mem.tail _ (List.Mem.tail _ (List.Mem.head _))) rfl<|Zh rfl<|Zh rfl<|L.n5 ?_;exact oG (vs:=[_,_]) (A:=[(_,_),(_,_),(_,_)]) rfl rfl rfl C.rs (fun D hD=>by show Value.tuple _=_;rw[(AK ho hf0 hc4).1,(AK ho hf0 hc4).2]<;>rfl)
end L1
end Go.Fs
namespace Go.Fs
variable{P:Program}{X:Cx}{γb:Type}[Membership Nat γb]{bad:γb}{all:Array Oper}{K:Act→World→Prop}{Q:Exit→Act→World→Prop}
variable{σ:bQ}{μ:aC}{Ds:List aA}{os:List (Bool×Nat)}{fl:Bool}{ix:Nat}
variable{d:Nat}{x y z:Operand}{u v:Value}{ty:TypeId}{pos:String}{aft:Array Edge}{g:Option (Nat×Bool)}
structure zX(P:Program)(k:TypeId){α:Type}[DecidableEq α](val:α→Value):Prop where
 und:∃fs,P.underlying k=some (.struct fs)
 eq:∀a b w,(Op.equal k (val a) (val b)).run P w=.ok (decide (a=b)) w
 chk:∀em a w,(Instr.checkKey em 10000 k (val a)).run P w=.ok () w
 stay:∀a,Instr.sameBits 10000 (val a) (val a)=true
 agg:∀a,∃cs,val a=.agg cs
variable{α:Type}[DecidableEq α]{val:α→Value}
def pN(val:α→Value)(es:Array MapEntry)(M:List (α×Int)):Prop:=es.toList.map (fun e=>(e.key,e.val))=M.map fun x=>(val x.1,Value.int .i64 x.2)
def xY(a:α):List (α×Int)→Nat→Option (Nat×Int)
 | [],_=>none
 |(b,n)::M,i=>if a=b then some (i,n)else xY a M (i+1)
theorem xZ{a:α}:∀{M:List (α×Int)} {i j:Nat} {n:Int},xY a M i=some (j,n)→∃k,j=i+k∧M[k]?= some (a,n)
 |(b,m)::M,i,j,n,h=>by
  simp only[xY]at h;split at h
  ·rename_i he;cases h;exact⟨0,rfl,by rw[he];rfl⟩
  ·obtain⟨k,rfl,hk⟩:=xZ h;exact⟨k+1,by omega,by simpa using hk⟩
theorem qE{k:TypeId}(h:zX P k val)(a:α)(w:World):∀(es:List MapEntry) (M:List (α×Int)) (i:Nat),es.map (fun e=>(e.key,e.val))=M.map (fun x=>(val x.1,Value.int .i64 x.2))→
  (Instr.findAsking k (val a) es i).run P w=.ok ((xY a M i).map fun p=>(p.1,Value.int .i64 p.2)) w
 | [],[],i,_=>rfl
 | [],_::_,i,hm=>by simp at hm
 |e::es,[],i,hm=>by simp at hm
 |e::es,(b,n)::M,i,hm=>by
  simp only[aHB,aIP,aJV]at hm;obtain⟨⟨hk,hv⟩,hm⟩:=hm;simp only[Instr.findAsking,Sem.run_bind,hk,h.eq,Result.andThen_ok,xY];by_cases he:a=b
  ·subst he;simp only[decide_true,aII,Sem.run_pure,hv];rfl
  ·simp only[he,decide_false,aHL,aIL];exact qE h a w es M (i+1) hm
theorem uN{k:TypeId}(h:zX P k val)(a:α)(w:World){es:List MapEntry}{M:List (α×Int)}(hm:es.map (fun e=>(e.key,e.val))=M.map (fun x=>(val x.1,Value.int .i64 x.2))):
  (Instr.findKey k (val a) es).run P w=.ok ((xY a M 0).map fun p=>(p.1,Value.int .i64 p.2)) w:=by
 obtain⟨fs,hu⟩:=h.und;unfold Instr.findKey;rw[Sem.run_bind,TU.of hu w];cases es with
 |nil=>
  cases M with
  |nil=>rfl
  |cons x M=>simp at hm
 |cons e es=>
  have hn:Instr.findNow (.struct fs) (val a) (e::es) 0=none:=by
   obtain⟨cs,hc⟩:=h.agg a;rw[hc];rfl
  simp only[Result.andThen_ok,hn];exact qE h a w (e::es) M 0 hm
theorem NQ{t k e:TypeId}{b clock:Nat}{es:Array MapEntry}{M:List (α×Int)}{a:α}(ho:all[ix]?= some ⟨some d,.lookup t x y true,ty,pos,aft,g⟩)(ht:P.underlying t=some (.map k e))(hk:zX P k val)(hz:TZ P e (.int .i64 0))
  (hx:ev σ x=some (.map (some b))) (hy:ev σ y=some (val a)) (hm:(b,Obj.map es clock)∈μ) (hb:b∉bad) (hM:pN val es M) (hN:Nat.blt d X.N=true) (hg:cS all σ g)
  (kk:∀n ok,(ok=true→(a,n)∈M)→WL P X bad all K Q os ((d,.tuple #[.int .i64 n,.bool ok])::σ) μ Ds):WL P X bad all K Q ((fl,ix)::os) σ μ Ds:=by
 have run:∀w,w.heap[b]?= some (Obj.map es clock)→(Instr.lookup t (.map (some b)) (val a) true).run P w=.ok (.tuple #[.int .i64 (match xY a M 0 with|some (_,v)=>v|none=>0),.bool (xY a M 0).isSome]) w:=by
  intro w hw;have hf:=uN hk a w hM;unfold Instr.lookup;simp only[Sem.run_bind,TU.of ht w,Result.andThen_ok,gH hw,Sem.run_pure,hk.chk];rw[hf];cases xY a M 0 with
  |none=>simp only[aIK,Result.andThen_ok,Sem.run_bind,hz w,Sem.run_pure];rfl
  |some r=>obtain⟨j,v⟩:=r;simp only[aHM,Result.andThen_ok];rfl
 refine jA ho rfl rfl hN hg (fun a' w hh w' hk'=>?_) (kk (match xY a M 0 with|some (_,v)=>v|none=>0) (xY a M 0).isSome fun hok=>?_)
 ·simp only[execOp,hh.eval hx,hh.eval hy,Sem.run_bind,run w' (hh.boxAt hm hb hk'),Result.andThen_ok,Sem.run_pure]
 ·cases hp:xY a M 0 with
  |none=>rw[hp]at hok;cases hok
  |some r=>
   obtain⟨j,n⟩:=r;obtain⟨i,_,hi⟩:=xZ hp;exact aGD hi
theorem MJ{t k e:TypeId}{b clock:Nat}{es:Array MapEntry}{M:List (α×Int)}{a:α}{n:Int}{A B:aC}(ho:all[ix]?= some ⟨none,.mapUpdate t x y z,ty,pos,aft,g⟩)(ht:P.underlying t=some (.map k e))(hk:zX P k val)
  (hx:ev σ x=some (.map (some b))) (hy:ev σ y=some (val a)) (hz:ev σ z=some (.int .i64 n)) (hM:pN val es M) (hg:cS all σ g)
  (kk:∀es' clock' M',pN val es' M'→(∀p∈M',p∈M∨p=(a,n))→WL P X bad all K Q os σ (A++(b,.map es' clock')::B) Ds):WL P X bad all K Q ((false,ix)::os) σ (A++(b,.map es clock)::B) Ds:=by
 refine dI ho rfl rfl hg fun a' w hh=>?_
 obtain⟨h1,h2,h3,D,h4,h5,h6⟩:=id hh;have hw:=(h4.box (b,.map es clock) Ye).1;have run:∃es' clock' M',pN val es' M'∧(∀p∈M',p∈M∨p=(a,n))∧(Instr.mapUpdate t (.map (some b)) (val a) (.int .i64 n)).run P w=.ok () {w with heap:=w.heap.setIfInBounds b (.map es' clock')}:=by
  have hf:=uN hk a w hM;have hset:∀o,(setObj b o).run P w=.ok () {w with heap:=w.heap.setIfInBounds b o}:=fun o=>by simp[setObj,Sem.run,hw]
  cases hp:xY a M 0 with
  |none=>
   refine⟨es.push {key:=val a,val:=.int .i64 n,born:=clock},clock+1,M++[(a,n)],?_,fun p hp=>by simpa using hp,?_⟩
   ·unfold pN at hM ⊢
    rw[Array.toList_push,aGS,aGS,hM];rfl
   ·unfold Instr.mapUpdate;simp only[Sem.run_bind,TU.of ht w,Result.andThen_ok,gH hw,hk.chk];rw[hf,hp];simp only[aIK,Result.andThen_ok,hset]
  |some r=>
   obtain⟨j,m⟩:=r;obtain⟨i,hi0,hi⟩:=xZ hp;rw[aJA]at hi0;subst hi0
   have hMi:∀i,(es.toList[i]?).map (fun e:MapEntry=>(e.key,e.val))=(M[i]?).map (fun x:α×Int=>(val x.1,Value.int .i64 x.2)):=fun i=>by rw[←aHD,←aHD,hM]
   have hj:=hMi j;rw[hi]at hj;obtain⟨e0,he0,hke⟩:=aIZ.1 hj;simp only[aJV]at hke;have he0':es[j]?= some e0:=by simpa using he0
   refine⟨es.modify j fun e=>{e with key:=val a,val:=.int .i64 n},clock,M.set j (a,n),?_,fun p hp=>(List.mem_or_eq_of_mem_set hp),?_⟩
   ·unfold pN;apply aLE;intro q;rw[aHD,aHD,Array.getElem?_toList,Array.getElem?_modify,List.getElem?_set];have hq:=hMi q;rw[Array.getElem?_toList]at hq;by_cases hjq:j=q
    ·subst hjq;have hlt:=(aGJ.1 hi).1;simp[he0',hlt]
    ·simp only[hjq,aIL];exact hq
   ·have hks:(Instr.keyThatStays (val a) (val a)).run P w=.ok (val a) w:=by
     have:Instr.sameBits 10000 (val a) (val a)=true:=hk.stay a;unfold Instr.keyThatStays;rw[aGX this,Sem.run_pure]
    unfold Instr.mapUpdate;simp only[Sem.run_bind,TU.of ht w,Result.andThen_ok,gH hw,hk.chk];rw[hf,hp];simp only[aHM,Result.andThen_ok,he0',aJP,hke.1,Sem.run_bind,hks,hset]
 obtain⟨es',clock',M',hM',hmem,hr⟩:=run;have hHas:bL (A++(b,Obj.map es clock)::B) b (.map es clock) (.map es' clock') (A++(b,.map es' clock')::B):=.app .head;have hs:=h4.set (w':={w with heap:=w.heap.setIfInBounds b (.map es' clock')}) hHas ⟨rfl,rfl⟩ trivial;have:(execOp a'.eval ⟨none,.mapUpdate t x y z,ty,pos,aft,g⟩).run P w=.ok .skip {w with heap:=w.heap.setIfInBounds b (.map es' clock')}:=by
  simp only[execOp,hh.eval hx,hh.eval hy,hh.eval hz,Sem.run_bind,hr,Result.andThen_ok,Sem.run_pure]
 rw[this];exact⟨fun h=>by simp at h,kk es' clock' M' hM' hmem _ _ ⟨h1,h2,h3,D,hs,h5,h6.step (fun _ p hp=>aGR Yq) (fun _=>gF ⟨rfl,rfl⟩ (aGA.2 ⟨_,hHas.mem,rfl⟩)) hs.dom⟩⟩

structure oQ(n:Nat) where
 l:List Int
 h:l.length=n
deriving DecidableEq
def zA{n:Nat}(a:oQ n):Value:=.agg (ints a.l).toArray
def KA(P:Program)(k:TypeId)(n:Nat):Prop:=∃f0 f1 e,P.underlying k=some (.struct (P.fieldsOf k))∧P.stoodInHeld k=false∧P.fieldsOf k=#[f0,f1]∧f0.name≠ "_" ∧f1.name≠ "_" ∧f0.offset=0∧f1.offset=1∧
 P.underlying f0.type=some (.int .i64)∧P.underlying f1.type=some (.array n e)∧P.underlying e=some (.int .i64)∧P.cellsOf e=1∧TA P f1.type true∧TS P f1.type n∧TS P e 1
theorem OL{t:TypeId}{n:Nat}(ha:TA P t true)(hs:TS P t n){l:List Int}(hl:l.length=n+1)(w:World):(part t (ints l).toArray 1).run P w=.ok (.agg (ints (l.drop 1)).toArray) w:=by
 unfold part;simp only[Sem.run_bind,ha w,Result.andThen_ok,aII,hs w,Sem.run_pure];congr 2;apply Array.ext';simp only[Array.toList_extract,List.extract_eq_take_drop,ints,List.map_drop];rw[aHE Yaf]
theorem KA.key{k:TypeId}{n:Nat}(h:KA P k n):zX P k (zA (n:=n+1)):=by
 obtain⟨f0,f1,e,hu,hst,hf,n0,n1,o0,o1,t0,t1,te,hc,ha,hs,hse⟩:=h;have hsplit:∀a:oQ (n+1),∃x r,a.l=x::r∧r.length=n:=by
  rintro⟨l,hl⟩;cases l with
  |nil=>simp at hl
  |cons x r=>exact⟨x,r,rfl,by simpa using hl⟩
 have p0:∀(x:Int) (r:List Int) (w:World),(part f0.type (ints (x::r)).toArray f0.offset).run P w=.ok (.int .i64 x) w:=fun x r w=>dB t0 (by rw[o0];rfl) w
 have p1:∀(x:Int) (r:List Int) (w:World),r.length=n→(part f1.type (ints (x::r)).toArray f1.offset).run P w=.ok (.agg (ints r).toArray) w:=fun x r w hr=>by
  rw[o1];exact OL ha hs (l:=x::r) (by simp[hr]) w
 refine⟨⟨_,hu⟩,fun a b w=>?_,fun em a w=>?_,fun a=>?_,fun a=>⟨_,rfl⟩⟩
 ·obtain⟨x,r,ea,hr⟩:=hsplit a;obtain⟨x',r',eb,hr'⟩:=hsplit b;have he:=run_equalIn_struct (P:=P) w 9999 k (ints (x::r)).toArray (ints (x'::r')).toArray hu hst;have hab:decide (a=b)=((x==x')&&(r==r')):=by
   rw[aJO];simp only[aGZ,aGO,aKV];constructor
   ·rintro rfl;rw[ea]at eb;exact List.cons.inj eb
   ·rintro⟨h1,h2⟩;obtain⟨la,ha'⟩:=a;obtain⟨lb,hb'⟩:=b;simp only at ea eb;subst ea eb h1 h2;rfl
  show(Op.equalIn (9999+1) k (.agg (ints a.l).toArray) (.agg (ints b.l).toArray)).run P w=_;rw[ea,eb,he,hf,hab];have e0:=run_equalIn_int w 9998 f0.type .i64 .i64 x x' t0;obtain⟨inf,hinf⟩:=info_of_underlying te;have e1:=run_equalIn_array (P:=P) w 9998 (ints r).toArray (ints r').toArray t1 hinf;rw[hc,iY 9997 te r r' w (List.range n) (fun j hj=>by have:=aJH.1 hj;omega),mL hr hr']at e1
  have s1:(Op.eqFields 9999 (ints (x::r)).toArray (ints (x'::r')).toArray [f1]).run P w=.ok (r==r') w:=by
   simp only[Op.eqFields,n1,ne_eq,aKU,aII,Sem.run_bind,p1 _ _ _ hr,p1 _ _ _ hr',Result.andThen_ok];rw[e1];simp only[Result.andThen_ok];cases r==r'<;>rfl
  show(Op.eqFields 9999 (ints (x::r)).toArray (ints (x'::r')).toArray (f0::[f1])).run P w=_;rw[Op.eqFields,aGX n0];simp only[Sem.run_bind,p0,Result.andThen_ok];rw[e0];simp only[Result.andThen_ok];cases hx:x==x' with
  |true=>
   simp only[aLF,aHL,aIL,aKB];rw[s1]
  |false=>simp only[aKQ,aII,Sem.run_pure,Bool.false_and]
 ·obtain⟨x,r,ea,hr⟩:=hsplit a;have c0:(Instr.checkKey em (9998+1) f0.type (.int .i64 x)).run P w=.ok () w:=by
   rw[Instr.checkKey,Sem.run_bind,TU.of t0 w];rfl
  have ce:∀m:Int,(Instr.checkKey em (9997+1) e (.int .i64 m)).run P w=.ok () w:=fun m=>by
   rw[Instr.checkKey,Sem.run_bind,TU.of te w];rfl
  have c1:(Instr.checkKey em (9998+1) f1.type (.agg (ints r).toArray)).run P w=.ok () w:=by
   rw[Instr.checkKey,Sem.run_bind,TU.of t1 w];simp only[Result.andThen_ok];rw[Std.Legacy.Range.forIn_eq_forIn_range'];have key:∀(is:List Nat),(∀i∈is,i<n)→((forIn is PUnit.unit fun i _=>do Instr.checkKey em 9998 e (←part e (ints r).toArray (i*(←sizeOf e)));Pure.pure (ForInStep.yield PUnit.unit):Sem PUnit)).run P w=.ok PUnit.unit w:=by
    intro is;induction is with
    |nil=>intro _;rfl
    |cons i is ih=>
     intro hi;have hlt:=hi i aGL;have g1:(ints r).toArray[i*1]?= some (.int .i64 r[i]):=by rw[aIR];simpa using cA (aGF (show i<r.length by omega))
     rw[List.forIn_cons];simp only[Sem.run_bind,hse w,Result.andThen_ok,dB te g1];rw[ce];simp only[Result.andThen_ok,Sem.run_pure];exact ih fun j hj=>hi j (aGE _ hj)
   have:=key (List.range' 0 n) (fun i hi=>by simpa using hi);simpa using this
  show(Instr.checkKey em (9999+1) k (.agg (ints a.l).toArray)).run P w=_;rw[ea,Instr.checkKey,Sem.run_bind,TU.of hu w];simp only[Result.andThen_ok];rw[hf,←Array.forIn_toList];simp only[List.forIn_cons,List.forIn_nil,n0,n1,ne_eq,aKU,aII,Sem.run_bind,p0,Result.andThen_ok,Sem.run_pure];rw[c0];simp only[Result.andThen_ok,Sem.run_pure,Sem.run_bind,p1 _ _ _ hr];rw[c1];simp[Sem.run_pure,Result.andThen_ok]
 ·show Instr.sameBits (9999+1) (.agg (ints a.l).toArray) (.agg (ints a.l).toArray)=true;simp only[Instr.sameBits,beq_self_eq_true,aKB,aGY];rintro⟨p,q⟩ hpq;obtain⟨i,hi⟩:=aJT.1 hpq;rw[List.getElem?_zip_eq_some]at hi;obtain⟨h1,h2⟩:=hi;simp only at h1 h2;rw[h1]at h2;obtain rfl:=aHC h2;have:p∈ints a.l:=aGD (by simpa using h1);obtain⟨m,_,rfl⟩:=aGA.1 this;simp[Instr.sameBits]
end Go.Fs
namespace Go.Fs
variable{P:Program}{X:Cx}{γb:Type}[Membership Nat γb]{bad:γb}{all:Array Oper}{K:Act→World→Prop}{Q:Exit→Act→World→Prop}
variable{σ:bQ}{μ:aC}{Ds:List aA}{os:List (Bool×Nat)}{fl:Bool}{ix:Nat}
variable{d:Nat}{x y z:Operand}{u v:Value}{ty:TypeId}{pos:String}{aft:Array Edge}{g:Option (Nat×Bool)}
structure sO(P:Program)(f:Field)(o n:Nat):Prop where
 name:f.name≠ "_"
 eqp:∀(l m:List Int) w,o+n≤l.length→o+n≤m.length→∃u v,(part f.type (ints l).toArray f.offset).run P w=.ok u w∧(part f.type (ints m).toArray f.offset).run P w=.ok v w∧(Op.equalIn 9999 f.type u v).run P w=.ok ((l.drop o).take n==(m.drop o).take n) w
inductive O0(P:Program):Nat→Nat→List Field→Prop
 |nil {o}:O0 P o o []
 |cons {o n e f fs} (h:sO P f o n) (r:O0 P (o+n) e fs):O0 P o e (f::fs)
theorem O0.le{o e:Nat}{fs:List Field}(h:O0 P o e fs):o≤e:=by
 induction h with
 |nil=>exact aGW _
 |cons _ _ ih=>omega
theorem S0(l m:List Int)(o n:Nat):(l.drop o==m.drop o)=(((l.drop o).take n==(m.drop o).take n)&&(l.drop (o+n)==m.drop (o+n))):=by
 rw[aJO];simp only[aKV,aGO];constructor
 ·intro h;exact⟨by rw[h],by rw[←aKA,←aKA,h]⟩
 ·rintro⟨h1,h2⟩;rw[←aIM n (l.drop o),←aIM n (m.drop o),h1,aKA,aKA,h2]
theorem j6(l m:List Int)(w:World){o e:Nat}{fs:List Field}(h:O0 P o e fs)(hl:l.length=e)(hm:m.length=e):(Op.eqFields 9999 (ints l).toArray (ints m).toArray fs).run P w=.ok (l.drop o==m.drop o) w:=by
 induction h with
 |nil=>
  rw[aHO Yd,aHO Yd];rfl
 | @cons o n e f fs h r ih=>
  have hle:=r.le;obtain⟨u,v,h1,h2,h3⟩:=h.eqp l m w Yd Yd;rw[Op.eqFields,aGX h.name];simp only[Sem.run_bind,h1,h2,Result.andThen_ok];rw[h3,S0 l m o n];simp only[Result.andThen_ok];cases hx:(l.drop o).take n==(m.drop o).take n with
  |true=>
   simp only[aLF,aHL,aIL,aKB];exact ih hl hm
  |false=>simp only[aKQ,aII,Sem.run_pure,Bool.false_and]
theorem sO.int{f:Field}{o:Nat}(hn:f.name≠ "_")(ho:f.offset=o)(ht:P.underlying f.type=some (.int .i64)):sO P f o 1:=by
 refine⟨hn,fun l m w hl hm=>?_⟩;have h1:l[o]?= some (l[o]'Yd):=aGF _;have h2:m[o]?= some (m[o]'Yd):=aGF _;refine⟨.int .i64 l[o],.int .i64 m[o],dB ht (by rw[ho];simpa using cA h1) w,dB ht (by rw[ho];simpa using cA h2) w,?_⟩
 rw[run_equalIn_int w 9998 f.type .i64 .i64 _ _ ht];congr 1;have t1:(l.drop o).take 1=[l[o]]:=by rw[aIJ (show o<l.length by omega)];rfl
 have t2:(m.drop o).take 1=[m[o]]:=by rw[aIJ (show o<m.length by omega)];rfl
 rw[t1,t2];simp
theorem tN{t:TypeId}{n o:Nat}(ha:TA P t true)(hs:TS P t n){l:List Int}(_hl:o+n≤l.length)(w:World):(part t (ints l).toArray o).run P w=.ok (.agg (ints ((l.drop o).take n)).toArray) w:=by
 unfold part;simp only[Sem.run_bind,ha w,Result.andThen_ok,aII,hs w,Sem.run_pure];congr 2;apply Array.ext';simp only[Array.toList_extract,List.extract_eq_take_drop,ints,List.map_drop,List.map_take];congr 1;omega
theorem sO.arr{f:Field}{o n:Nat}{e:TypeId}(hn:f.name≠ "_")(ho:f.offset=o)(ht:P.underlying f.type=some (.array n e))(he:P.underlying e=some (.int .i64))(hc:P.cellsOf e=1)(ha:TA P f.type true)(hs:TS P f.type n):sO P f o n:=by
 refine⟨hn,fun l m w hl hm=>⟨_,_,by rw[ho];exact tN ha hs hl w,by rw[ho];exact tN ha hs hm w,?_⟩⟩;obtain⟨i,hi⟩:=info_of_underlying he;have h:=run_equalIn_array (P:=P) w 9998 (ints ((l.drop o).take n)).toArray (ints ((m.drop o).take n)).toArray ht hi;have e1:((l.drop o).take n).length=n:=by rw[aHZ,aHU];omega
 have e2:((m.drop o).take n).length=n:=by rw[aHZ,aHU];omega
 rw[hc,iY 9997 he _ _ w (List.range n) (fun j hj=>by have:=aJH.1 hj;omega),mL e1 e2]at h;exact h
def KS(P:Program)(t:TypeId)(n:Nat):Prop:=P.underlying t=some (.struct (P.fieldsOf t))∧P.stoodInHeld t=false∧P.eqGuardType P.depth t=false∧O0 P 0 n (P.fieldsOf t).toList
theorem zT{t:TypeId}{n:Nat}(h:KS P t n){l m:List Int}(hl:l.length=n)(hm:m.length=n)(w:World):(Op.equal t (.agg (ints l).toArray) (.agg (ints m).toArray)).run P w=.ok (l==m) w:=by
 have he:=run_equalIn_struct (P:=P) w 9999 t (ints l).toArray (ints m).toArray h.1 h.2.1;show(Op.equalIn (9999+1) t (.agg (ints l).toArray) (.agg (ints m).toArray)).run P w=_;rw[he,j6 l m w h.2.2.2 hl hm];simp
theorem aBA{t t':TypeId}{n:Nat}{l m:List Int}(ho:all[ix]?= some ⟨some d,.binOp .neq t x y t',ty,pos,aft,g⟩)(ht:KS P t n)(hl:l.length=n)(hm:m.length=n)(hx:ev σ x=some (.agg (ints l).toArray))(hy:ev σ y=some (.agg (ints m).toArray))(hN:Nat.blt d X.N=true)(hg:cS all σ g)
  (kk:WL P X bad all K Q os ((d,.bool (!(l==m)))::σ) μ Ds):WL P X bad all K Q ((fl,ix)::os) σ μ Ds:=
 d6 ho (fun w=>by
  have hgd:(eqGuard .neq t x y (.agg (ints l).toArray) (.agg (ints m).toArray)).run P w=.ok () w:=by
   simp only[eqGuard,program];simp[Sem.run,ht.2.2.1,go_sem]
  rw[Sem.run_bind,hgd];show((do Pure.pure (Value.bool (!(←Op.equal t (.agg (ints l).toArray) (.agg (ints m).toArray))))):Sem Value).run P w=_;rw[Sem.run_bind,zT ht hl hm];rfl) hx hy hN hg kk
end Go.Fs
namespace Go.Fs
open Go.Proofs
namespace L2
open L1
open C2
open C1 (fL cE oZ nI)
theorem mP{r:Int×Int}(h:fX r=true):0≤r.1∧r.1≤r.2∧r.2≤99:=by
 unfold fX eE at h;simp only[aGO,aGZ,cE]at h;omega
theorem dG(n lo hi:Int)(D:aA):Fn Tryz.prog 140 #[.int .i64 n,.int .i64 lo,.int .i64 hi] D (fun _ v=>v=.bool (fL n lo hi)):=by
 refine enter 15 Tryz.func140 rfl rfl rfl rfl fun h0=>C.s1<|Zh rfl<|L.n3<|Za rfl<|Za rfl<|hP rfl rfl rfl rfl trivial<|Za rfl ?_
 refine' L.anK 4 (s:=10) (p:=14) rfl (fun hg1=>?_) (fun hg1=>?_) ?_;rotate_left
 ·refine Zb rfl<|Zb rfl<|hP rfl rfl rfl rfl ⟨_,rfl,rfl⟩<|Zab rfl ?_;exact L.cu 3
 ·refine Zk rfl<|Zk rfl<|Zk rfl<|Zac rfl ?_;exact L.cu 3
 refine Zh rfl<|L.n5 ?_;exact leave1 rfl rfl rfl rfl (fun D hD=>rfl)
theorem tT(n:Int)(D:aA):Fn Tryz.prog 215 #[iV n] D (fun _ v=>v=.bool (eE n)):=by
 refine enter 5 Tryz.func215 rfl rfl rfl rfl fun h0=>C.s1<|Zh rfl<|L.n3<|Za rfl<|Zc rfl (fun D1 hD1=>dG _ _ _ _)<|Zh rfl<|L.n5 ?_
 exact leave1 rfl rfl rfl rfl (fun D hD=>rfl)
theorem iT(sv:Value)(x:Int)(xs:List Int)(D:aA)(hS:Sl D RI 1 sv (x::xs)):
  Fn Tryz.prog 218 #[sv] D (fun _ v=>v=.int .i64 (xs.foldl min x)):=by
 refine enter 5 Tryz.func218 rfl rfl rfl rfl fun h0=>C.s1<|Zh rfl<|L.n3<|Za rfl<|Zc rfl (fun D1 hD1=>L1.I3 _ x xs _ (Sl.at RI.up hD1 Yk Ye))<|Zh rfl<|L.n5 ?_
 exact leave1 rfl rfl rfl rfl (fun D hD=>rfl)
theorem O3(r:Int×Int)(D:aA):Fn Tryz.prog 214 #[iL r] D (fun _ v=>v=.bool (fX r)):=by
 refine enter 18 Tryz.func214 rfl rfl rfl rfl fun h0=>C.s1<|Zv rfl (fun q1 E1 hE1 hB1=>Zh rfl<|L.n3<|Zi rfl Tf.f99_0 rfl<|Zf 0 rfl Tf.a3 rfl hB1 rfl<|Zi rfl Tf.f99_1 rfl<|Zf 1 rfl Tf.a3 rfl hB1 rfl<|hP rfl rfl rfl rfl trivial<|Za rfl ?_)
 refine' L.anK 4 (s:=8) (p:=12) rfl (fun hg1=>?_) (fun hg1=>?_) ?_;rotate_left
 ·refine Zj rfl Tf.f99_0 rfl<|Zg 0 rfl Tf.a3 rfl hB1 rfl<|Zd rfl (fun D1 hD1=>tT _ _)<|Zab rfl ?_;exact L.cu 3
 ·refine Zk rfl<|Zk rfl<|Zk rfl<|Zac rfl ?_;exact L.cu 3
 refine Za rfl ?_;refine' L.anK 4 (s:=13) (p:=17) rfl (fun hg2=>?_) (fun hg2=>?_) ?_;rotate_left
 ·refine Zj rfl Tf.f99_1 rfl<|Zg 1 rfl Tf.a3 rfl hB1 rfl<|Zd rfl (fun D2 hD2=>tT _ _)<|Zab rfl ?_;exact L.cu 3
 ·refine Zk rfl<|Zk rfl<|Zk rfl<|Zac rfl ?_;exact L.cu 3
 refine Zh rfl<|L.n5 ?_;exact leave1 rfl rfl rfl rfl (fun D hD=>rfl)
theorem HG(r:Int×Int)(h:fX r=true)(D:aA):Fn Tryz.prog 219 #[iL r] D (fun _ v=>v=.int .i64 (eS r)):=by
 have hb:=mP h;refine enter 9 Tryz.func219 rfl rfl rfl rfl fun h0=>C.s1<|Zv rfl (fun q1 E1 hE1 hB1=>Zh rfl<|L.n3<|Zi rfl Tf.f99_1 rfl<|Zf 1 rfl Tf.a3 rfl hB1 rfl<|Zi rfl Tf.f99_0 rfl<|Zf 0 rfl Tf.a3 rfl hB1 rfl<|fJ rfl rfl rfl Yf rfl trivial<|Zx rfl<|Zh rfl ?_);refine L.n5 ?_
 exact leave1 rfl rfl rfl rfl (fun D hD=>rfl)
theorem K6(r:Int×Int)(n:Int)(D:aA):Fn Tryz.prog 223 #[iL r,.int .i64 n] D (fun _ v=>v=.bool (fL n r.1 r.2)):=by
 refine enter 11 Tryz.func223 rfl rfl rfl rfl fun h0=>C.s1<|Zv rfl (fun q1 E1 hE1 hB1=>Zh rfl<|L.n3<|Za rfl<|Zi rfl Tf.f99_0 rfl<|Zf 0 rfl Tf.a3 rfl hB1 rfl<|Zi rfl Tf.f99_1 rfl<|Zf 1 rfl Tf.a3 rfl hB1 rfl<|Zc rfl (fun D1 hD1=>dG _ _ _ _)<|Zh rfl ?_);refine L.n5 ?_
 exact leave1 rfl rfl rfl rfl (fun D hD=>rfl)
theorem nU(r:Int×Int)(n:Int)(D:aA):Fn Tryz.prog 142 #[iL r,.int .i64 n] D (fun _ v=>v=iL (min r.1 n,max r.2 n)):=by
 refine enter 15 Tryz.func142 rfl rfl rfl rfl fun h0=>C.s1<|Zv rfl (fun q1 E1 hE1 hB1=>Zw rfl Tf.z99 rfl (fun q2=>L.n2<|iS [] 4 [0,1,2,5,6,7,8,3,4,9,10] [false,false,true,true,true,true,true,true,true,false,false] [(false,0),(false,1),(true,2),(true,5),(true,6),(true,7),(true,8),(true,3),(true,4),(false,9),(false,10)] Tf.follows (fun _ _ _ h=>bZ (P:=Tryz.prog) (fn:=Tryz.f142) _ _ _ h) Yg rfl<|Zi rfl Tf.f99_0 rfl<|Zf 0 rfl Tf.a3 rfl hB1 rfl<|Za rfl<|Zi rfl Tf.f99_1 rfl<|Zf 1 rfl Tf.a3 rfl hB1 rfl<|Za rfl ?_));refine oW rfl rfl rfl rfl trivial<|Zp rfl U25 Tf.s3 Tf.z3 rfl rfl rfl rfl (.cons rfl rfl (.cons rfl rfl .nil)) (fun b901 D901 hD901 hA901=>?_)
 have hS901:=Sl.ofInts (l:=[_,_]) (n:=2) (cap:=2) hA901 rfl Yd Yd;refine Zc rfl (fun D1 hD1=>iT _ r.1 [n] _ (hS901.up RI.up (hD1 _ Ye)))<|Zq [.int .i64 (min r.1 n),.int .i64 (max r.2 n)] rfl Tf.p99 Tf.z99 rfl rfl<|Zu rfl Tf.s99 (bL.head)<|L.n5 ?_;exact Zm [_] rfl ⟨⟨_,_,_,rfl,(List.Mem.head _),Or.inr ⟨Tf.a99,(by first|exact Tf.s99|(simp only[aHK,aI, *];exact Tf.s99)),rfl⟩⟩,aLJ⟩ (fun D hD=>rfl)
theorem GS(tv:Value)(t:aZ)(n:Int)(D:aA)(ht:gL D tv t):Fn Tryz.prog 143 #[tv,.int .i64 n] D (fun _ v=>v=.bool (T2 t.last n)):=by
 have ht0:=ht;obtain⟨hv,lv,mv,rfl,hh,hl,hm⟩:=ht;have hll:=hl.len;refine enter 9 Tryz.func143 rfl rfl rfl rfl fun h0=>C.s1<|Zv rfl (fun q1 E1 hE1 hB1=>Zh rfl<|L.n3<|Za rfl<|Zi rfl Tf.f32_0 rfl<|Zf 0 rfl Tf.a3 rfl hB1 rfl<|Zc rfl (fun D1 hD1=>dG _ _ _ _)<|Zh rfl<|L.n5 ?_)
 exact leave1 rfl rfl rfl rfl (fun D hD=>rfl)
theorem aBY(tv:Value)(t:aZ)(n:Int)(D:aA)(ht:gL D tv t):Fn Tryz.prog 81 #[tv,.int .i64 n] D (fun _ v=>v=.bool (fL n 0 ((t.levels.length:Int)-1))):=by
 have ht0:=ht;obtain⟨hv,lv,mv,rfl,hh,hl,hm⟩:=ht;have hll:=hl.len;refine enter 11 Tryz.func81 rfl rfl rfl rfl fun h0=>C.s1<|Zv rfl (fun q1 E1 hE1 hB1=>Zh rfl<|L.n3<|Za rfl<|Zi rfl Tf.f32_3 rfl<|Zf 3 rfl Tf.a25 rfl hB1 rfl<|aV rfl U25 rfl Yk rfl rfl trivial<|fJ rfl rfl rfl Yf rfl trivial<|Zc rfl (fun D1 hD1=>dG _ _ _ _)<|Zh rfl ?_);refine L.n5 ?_
 exact leave1 rfl rfl rfl rfl (fun D hD=>rfl)
theorem u9(tv:Value)(t:aZ)(a b:Int)(D:aA)(ht:gL D tv t):Fn Tryz.prog 84 #[tv,.int .i64 a,.int .i64 b] D (fun _ v=>v=.bool (nM t.last a b)):=by
 have ht0:=ht;obtain⟨hv,lv,mv,rfl,hh,hl,hm⟩:=ht;have hll:=hl.len;refine enter 20 Tryz.func84 rfl rfl rfl rfl fun h0=>C.s1<|Zv rfl (fun q1 E1 hE1 hB1=>Zh rfl<|L.n3<|Zr rfl Tf.a32 rfl hB1 Tf.s32<|Za rfl<|Zc rfl (fun D1 hD1=>GS _ t _ _ (ht0.up (hD1 _ Ye)))<|Za rfl ?_)
 refine' L.anK 4 (s:=10) (p:=14) rfl (fun hg1=>?_) (fun hg1=>?_) ?_;rotate_left
 ·refine cO rfl Tf.a32 rfl hB1 Yc Tf.s32 GT rfl ⟨_,rfl,rfl⟩<|Zb rfl<|Zd rfl (fun D2 hD2=>GS _ t _ _ (ht0.up (hD2 _ Ye)))<|Zab rfl ?_;exact L.cu 3
 ·refine Zk rfl<|Zk rfl<|Zk rfl<|Zac rfl ?_;exact L.cu 3
 refine Za rfl ?_;refine' L.anK 4 (s:=15) (p:=19) rfl (fun hg2=>?_) (fun hg2=>?_) ?_;rotate_left
 ·refine Zb rfl<|Zb rfl<|hP rfl rfl rfl rfl ⟨_,rfl,rfl⟩<|Zab rfl ?_;exact L.cu 3
 ·refine Zk rfl<|Zk rfl<|Zk rfl<|Zac rfl ?_;exact L.cu 3
 refine Zh rfl<|L.n5 ?_;exact leave1 rfl rfl rfl rfl (fun D hD=>rfl)
theorem XF(tv:Value)(t:aZ)(m:Mk)(D:aA)(ht:gL D tv t):Fn Tryz.prog 212 #[tv,aDS m] D (fun _ v=>v=.bool (pT t.last m)):=by
 have ht0:=ht;obtain⟨hv,lv,mv,rfl,hh,hl,hm⟩:=ht;refine enter 16 Tryz.func212 rfl rfl rfl rfl fun h0=>C.s1<|Zv rfl (fun q1 E1 hE1 hB1=>Zv rfl (fun q2 E2 hE2 hB2=>Zh rfl<|L.n3<|Zr rfl Tf.a32 rfl hB1 Tf.s32<|Zi rfl Tf.f158_0 rfl<|Zf 0 rfl Tf.a3 rfl hB2 rfl<|Zi rfl Tf.f158_1 rfl<|Zf 1 rfl Tf.a3 rfl hB2 rfl<|Zc rfl (fun D1 hD1=>u9 _ t _ _ _ (ht0.up (hD1 _ Ye))) ?_));refine Za rfl ?_
 refine' L.anK 4 (s:=11) (p:=15) rfl (fun hg1=>?_) (fun hg1=>?_) ?_;rotate_left
 ·refine Zj rfl Tf.f158_2 rfl<|eP rfl (k:=2) Tf.a99 Tf.s99 rfl hB2 Yc rfl rfl GT rfl ⟨_,rfl,rfl⟩<|Zd rfl (fun D2 hD2=>O3 (m.lo,m.hi) _)<|Zab rfl ?_;exact L.cu 3
 ·refine Zk rfl<|Zk rfl<|Zk rfl<|Zac rfl ?_;exact L.cu 3
 refine Zh rfl<|L.n5 ?_;exact leave1 rfl rfl rfl rfl (fun D hD=>rfl)
theorem oR(sv fv:Value)(xs:List (Int×Int))(p:(Int×Int)→Bool)(D:aA)(hS:Sl D A1 2 sv xs)(hp:cD Tryz.prog D iL fv p):
  Fn Tryz.prog 298 #[sv,fv] D (fun _ v=>v=.int .i64 (idxOf p xs)):=by
 have hl:=hS.len;obtain⟨f,c1,c2,rfl,hf⟩:=hp;refine enter 19 Tryz.func298 rfl rfl rfl rfl fun h0=>C.s1<|Zh rfl<|L.n4<|Za rfl<|aV rfl U29 rfl Yk rfl rfl trivial<|Za rfl<|L.n1<|Zah<|cG (γ:=Nat) (fun k=>xs.length-k) (fun k=>k≤xs.length∧(xs.take k).any p=false) (fun k=>[(8,.int .i64 k)]) [(7,_),(4,_),(0,_),(1,_)] (fun k=>[D]) 0 Ye ⟨Yb,aLJ⟩ C.rs (aD) ?_
 rintro k ⟨h1,h2⟩;refine C.s1<|Zad rfl<|L.n2<|aE rfl (fun hc1=>?_) (fun hc1=>?_)
 ·have hk:k<xs.length:=by omega
  obtain⟨x,hx⟩:=C.ge xs k;refine C.kn<|aL<|Zah<|C.s1<|Za rfl<|Zh rfl<|L.n3<|Za rfl<|Za rfl<|Za rfl<|cR rfl U29 Tf.s99 rfl Yk rfl Yd Yk rfl aLJ (fun b1 o1 cs1 hr1 hcl1 hA1=>?_);obtain rfl:cs1=[.int .i64 _,.int .i64 _]:=hr1;refine Zr rfl Tf.a99 rfl hA1 Tf.s99<|Zc rfl (fun D1 hD1=>hf x _ (hD1 _ Ye))<|L.n1<|aQ rfl (fun hc2=>?_) (fun hc2=>?_)
  ·refine C.s1<|Za rfl<|Zh rfl<|L.n5<|aG<|Zaj<|Zaj<|aG<|Zaj ?_;exact leave1 rfl rfl rfl rfl (fun D hD=>by show Value.int _ _=_;rw[L1.gT hx h2 hc2])
  ·refine bR<|Zak<|Zag<|C.rg<|Zx rfl<|Za rfl<|Zz ?_;have hpx:p x=false:=hc2;have h3:(xs.take (k+1)).any p=false:=by rw[aGT,hx,aJQ,h2];simp[hpx]
   exact aH 12 (k+1) ⟨by omega,h3⟩ Yd ⟨Yb,aLJ⟩ rfl rfl (LT _) (aD)
 ·refine aR<|Zai<|Zai<|Zal<|Zag<|C.s1<|Zh rfl<|L.n5 ?_;exact leave1 rfl rfl rfl rfl (fun D hD=>by show Value.int _ _=_;rw[L1.eQ Yab])
theorem kZ(sv fv:Value)(xs:List (Int×Int))(p:(Int×Int)→Bool)(D:aA)(hS:Sl D A1 2 sv xs)(hp:cD Tryz.prog D iL fv p):
  Fn Tryz.prog 273 #[sv,fv] D (fun _ v=>v=.bool (xs.any p)):=by
 refine enter 9 Tryz.func273 rfl rfl rfl rfl fun h0=>C.s1<|Zh rfl<|L.n3<|Za rfl<|Za rfl<|Zc rfl (fun D1 hD1=>oR _ _ xs p _ (Sl.at A1.up hD1 Yk Ye) (hp.up (hD1 _ Ye)))<|nJ rfl rfl rfl rfl trivial<|Zh rfl<|L.n5 ?_
 exact leave1 rfl rfl rfl rfl (fun D hD=>by show Value.bool (decide _)=_;rw[L1.gS])
theorem P7(b:Nat)(fv:Value)(p:(Int×Int)→Bool)(x:(Int×Int))(D:aA)(hp:cD Tryz.prog D iL fv p)(hB:At D b 0 [fv]):
  Fn Tryz.prog 274 #[iL x,.pointer (some ⟨b,0,none⟩)] D (fun _ v=>v=.bool (!p x)):=by
 obtain⟨f,c1,c2,rfl,hf⟩:=hp;refine enter 8 Tryz.func274 rfl rfl rfl rfl fun h0=>C.s1<|Zv rfl (fun q1 E1 hE1 hB1=>Zh rfl<|L.n3<|Zf 0 rfl Tf.a349 rfl hB rfl<|Zr rfl Tf.a99 rfl hB1 Tf.s99<|Zc rfl (fun D1 hD1=>hf x _ (hD1 _ Ye))<|Zaf rfl<|Zh rfl<|L.n5 ?_)
 exact leave1 rfl rfl rfl rfl (fun D hD=>rfl)
theorem g8(sv fv:Value)(xs:List (Int×Int))(p:(Int×Int)→Bool)(D:aA)(hS:Sl D A1 2 sv xs)(hp:cD Tryz.prog D iL fv p)(h1:fv.cells=#[fv]):
  Fn Tryz.prog 213 #[sv,fv] D (fun _ v=>v=.bool (xs.all p)):=by
 refine enter 9 Tryz.func213 rfl rfl rfl rfl fun h0=>C.s1<|mA (vs:=[fv]) rfl rfl h1 rfl aLJ (fun b D1 hD1 hB=>Zh rfl<|L.n3<|Za rfl<|bB rfl rfl rfl rfl trivial<|Zc rfl (fun D1 hD1=>kZ _ _ xs (fun x=> !p x) _ (Sl.at A1.up hD1 Yk Ye) ⟨_,[],[.pointer (some ⟨b,0,none⟩)],rfl,fun x D2 hl=>P7 b fv p x D2 (hp.up ((hD1 _ Ye).trans hl)) (hB.up ((hD1 _ Ye).trans hl))⟩)<|Zaf rfl<|Zh rfl<|L.n5 ?_)
 exact leave1 rfl rfl rfl rfl (fun D hD=>by show Value.bool (!_)=_;rw[L1.jW])
theorem R7(sv fv:Value)(xs:List Mk)(p:Mk→Bool)(D:aA)(hS:Sl D BJ 4 sv xs)(hp:cD Tryz.prog D aDS fv p):
  Fn Tryz.prog 299 #[sv,fv] D (fun _ v=>v=.int .i64 (idxOf p xs)):=by
 have hl:=hS.len;obtain⟨f,c1,c2,rfl,hf⟩:=hp;refine enter 19 Tryz.func299 rfl rfl rfl rfl fun h0=>C.s1<|Zh rfl<|L.n4<|Za rfl<|aV rfl U30 rfl Yk rfl rfl trivial<|Za rfl<|L.n1<|Zah<|cG (γ:=Nat) (fun k=>xs.length-k) (fun k=>k≤xs.length∧(xs.take k).any p=false) (fun k=>[(8,.int .i64 k)]) [(7,_),(4,_),(0,_),(1,_)] (fun k=>[D]) 0 Ye ⟨Yb,aLJ⟩ C.rs (aD) ?_
 rintro k ⟨h1,h2⟩;refine C.s1<|Zad rfl<|L.n2<|aE rfl (fun hc1=>?_) (fun hc1=>?_)
 ·have hk:k<xs.length:=by omega
  obtain⟨x,hx⟩:=C.ge xs k;refine C.kn<|aL<|Zah<|C.s1<|Za rfl<|Zh rfl<|L.n3<|Za rfl<|Za rfl<|Za rfl<|cR rfl U30 Tf.s158 rfl Yk rfl Yd Yk rfl aLJ (fun b1 o1 cs1 hr1 hcl1 hA1=>?_);obtain rfl:cs1=[.int .i64 _,.int .i64 _,.int .i64 _,.int .i64 _]:=hr1;refine Zr rfl Tf.a158 rfl hA1 Tf.s158<|Zc rfl (fun D1 hD1=>hf x _ (hD1 _ Ye))<|L.n1<|aQ rfl (fun hc2=>?_) (fun hc2=>?_)
  ·refine C.s1<|Za rfl<|Zh rfl<|L.n5<|aG<|Zaj<|Zaj<|aG<|Zaj ?_;exact leave1 rfl rfl rfl rfl (fun D hD=>by show Value.int _ _=_;rw[L1.gT hx h2 hc2])
  ·refine bR<|Zak<|Zag<|C.rg<|Zx rfl<|Za rfl<|Zz ?_;have hpx:p x=false:=hc2;have h3:(xs.take (k+1)).any p=false:=by rw[aGT,hx,aJQ,h2];simp[hpx]
   exact aH 12 (k+1) ⟨by omega,h3⟩ Yd ⟨Yb,aLJ⟩ rfl rfl (LT _) (aD)
 ·refine aR<|Zai<|Zai<|Zal<|Zag<|C.s1<|Zh rfl<|L.n5 ?_;exact leave1 rfl rfl rfl rfl (fun D hD=>by show Value.int _ _=_;rw[L1.eQ Yab])
theorem xR(sv fv:Value)(xs:List Mk)(p:Mk→Bool)(D:aA)(hS:Sl D BJ 4 sv xs)(hp:cD Tryz.prog D aDS fv p):
  Fn Tryz.prog 276 #[sv,fv] D (fun _ v=>v=.bool (xs.any p)):=by
 refine enter 9 Tryz.func276 rfl rfl rfl rfl fun h0=>C.s1<|Zh rfl<|L.n3<|Za rfl<|Za rfl<|Zc rfl (fun D1 hD1=>R7 _ _ xs p _ (Sl.at BJ.up hD1 Yk Ye) (hp.up (hD1 _ Ye)))<|nJ rfl rfl rfl rfl trivial<|Zh rfl<|L.n5 ?_
 exact leave1 rfl rfl rfl rfl (fun D hD=>by show Value.bool (decide _)=_;rw[L1.gS])
theorem TV(b:Nat)(fv:Value)(p:Mk→Bool)(x:Mk)(D:aA)(hp:cD Tryz.prog D aDS fv p)(hB:At D b 0 [fv]):
  Fn Tryz.prog 277 #[aDS x,.pointer (some ⟨b,0,none⟩)] D (fun _ v=>v=.bool (!p x)):=by
 obtain⟨f,c1,c2,rfl,hf⟩:=hp;refine enter 8 Tryz.func277 rfl rfl rfl rfl fun h0=>C.s1<|Zv rfl (fun q1 E1 hE1 hB1=>Zh rfl<|L.n3<|Zf 0 rfl Tf.a347 rfl hB rfl<|Zr rfl Tf.a158 rfl hB1 Tf.s158<|Zc rfl (fun D1 hD1=>hf x _ (hD1 _ Ye))<|Zaf rfl<|Zh rfl<|L.n5 ?_)
 exact leave1 rfl rfl rfl rfl (fun D hD=>rfl)
theorem YR(sv fv:Value)(xs:List Mk)(p:Mk→Bool)(D:aA)(hS:Sl D BJ 4 sv xs)(hp:cD Tryz.prog D aDS fv p)(h1:fv.cells=#[fv]):
  Fn Tryz.prog 217 #[sv,fv] D (fun _ v=>v=.bool (xs.all p)):=by
 refine enter 9 Tryz.func217 rfl rfl rfl rfl fun h0=>C.s1<|mA (vs:=[fv]) rfl rfl h1 rfl aLJ (fun b D1 hD1 hB=>Zh rfl<|L.n3<|Za rfl<|bB rfl rfl rfl rfl trivial<|Zc rfl (fun D1 hD1=>xR _ _ xs (fun x=> !p x) _ (Sl.at BJ.up hD1 Yk Ye) ⟨_,[],[.pointer (some ⟨b,0,none⟩)],rfl,fun x D2 hl=>TV b fv p x D2 (hp.up ((hD1 _ Ye).trans hl)) (hB.up ((hD1 _ Ye).trans hl))⟩)<|Zaf rfl<|Zh rfl<|L.n5 ?_)
 exact leave1 rfl rfl rfl rfl (fun D hD=>by show Value.bool (!_)=_;rw[L1.jW])
theorem sT(b:Nat)(fv:Value)(p:Int→Bool)(x:Int)(D:aA)(hp:cD Tryz.prog D iV fv p)(hB:At D b 0 [fv]):
  Fn Tryz.prog 275 #[iV x,.pointer (some ⟨b,0,none⟩)] D (fun _ v=>v=.bool (!p x)):=by
 obtain⟨f,c1,c2,rfl,hf⟩:=hp;refine enter 8 Tryz.func275 rfl rfl rfl rfl fun h0=>C.s1<|Zh rfl<|L.n3<|Zf 0 rfl Tf.a191 rfl hB rfl<|Za rfl<|Zc rfl (fun D1 hD1=>hf x _ (hD1 _ Ye))<|Zaf rfl<|Zh rfl<|L.n5 ?_
 exact leave1 rfl rfl rfl rfl (fun D hD=>rfl)
theorem xL(sv fv:Value)(xs:List Int)(p:Int→Bool)(D:aA)(hS:Sl D RI 1 sv xs)(hp:cD Tryz.prog D iV fv p)(h1:fv.cells=#[fv]):
  Fn Tryz.prog 216 #[sv,fv] D (fun _ v=>v=.bool (xs.all p)):=by
 refine enter 9 Tryz.func216 rfl rfl rfl rfl fun h0=>C.s1<|mA (vs:=[fv]) rfl rfl h1 rfl aLJ (fun b D1 hD1 hB=>Zh rfl<|L.n3<|Za rfl<|bB rfl rfl rfl rfl trivial<|Zc rfl (fun D1 hD1=>L1.jD _ _ xs (fun x=> !p x) _ (Sl.at RI.up hD1 Yk Ye) ⟨_,[],[.pointer (some ⟨b,0,none⟩)],rfl,fun x D2 hl=>sT b fv p x D2 (hp.up ((hD1 _ Ye).trans hl)) (hB.up ((hD1 _ Ye).trans hl))⟩)<|Zaf rfl<|Zh rfl<|L.n5 ?_)
 exact leave1 rfl rfl rfl rfl (fun D hD=>by show Value.bool (!_)=_;rw[L1.jW])
theorem PW(sv:Value)(x:Int)(xs:List Int)(D:aA)(hS:Sl D RI 1 sv (x::xs)):
  Fn Tryz.prog 224 #[sv] D (fun _ v=>v=.int .i64 (xs.foldl max x)):=by
 have hl:=hS.len;simp only[aGM]at hl;refine enter 25 Tryz.func224 rfl rfl rfl rfl fun h0=>C.s1<|Zh rfl<|L.n4<|Za rfl<|aV rfl U25 rfl Yk rfl rfl trivial<|Zad rfl<|L.n1<|aE rfl (fun hc1=>?_) (fun hc1=>?_)
 ·exact absurd hc1 (by simp only[aGM];omega)
 ·refine C.kn<|C.s1<|Za rfl<|cR rfl U25 Tf.s3 rfl Yk rfl Yd (by rfl) rfl aLJ (fun b1 o1 cs1 hr1 hcl1 hA1=>?_);obtain rfl:cs1=[.int .i64 _]:=hr1;refine Zf 0 rfl Tf.a3 rfl hA1 rfl<|Zh rfl<|L.n4<|Zh rfl<|L.n1<|Zah<|cG (γ:=Nat) (fun k=>xs.length-k) (fun k=>k≤xs.length) (fun k=>[(3,.int .i64 ((xs.take k).foldl max x)),(4,.int .i64 (k+1:Int))]) [(2,_),(0,_)] (fun k=>[D]) 0 Yd ⟨Yb,Yb,aLJ⟩ C.rs (aD) ?_;rintro k h1;refine C.s2<|Za rfl<|Za rfl<|aV rfl U25 rfl Yk rfl rfl trivial<|Zad rfl<|L.n1<|aE rfl (fun hc2=>?_) (fun hc2=>?_)
  ·simp only[aGM]at hc2;have hk:k<xs.length:=by omega
   obtain⟨y,hy⟩:=C.ge xs k;have hy2:(x::xs)[(k+1:Int).toNat]?= some y:=by rw[show((k:Int)+1).toNat=k+1 by omega];simpa using hy
   refine C.kn<|aL<|Zah<|C.rg<|Za rfl<|Za rfl<|Za rfl<|cR rfl U25 Tf.s3 rfl Yk rfl Yd Yk rfl aLJ (fun b2 o2 cs2 hr2 hcl2 hA2=>?_);obtain rfl:cs2=[.int .i64 _]:=hr2;refine Zf 0 rfl Tf.a3 rfl hA2 rfl<|oW rfl rfl rfl rfl trivial<|Zh rfl<|Zz<|Zak<|Zag<|C.rg<|Za rfl<|Zx rfl<|Zh rfl<|Zz ?_;have h3:(xs.take (k+1)).foldl max x=max ((xs.take k).foldl max x) y:=by rw[aGT,hy,aIG];rfl
   exact aH 16 (k+1) Yd Yd ⟨(by rw[h3];rfl),Yb,aLJ⟩ rfl rfl (LT _) (aD)
  ·simp only[aGM]at hc2;refine aR<|Zai<|Zai<|Zal<|Zag<|C.s1<|Za rfl<|Zh rfl<|L.n5 ?_;exact leave1 rfl rfl rfl rfl (fun D hD=>by show Value.int _ _=_;rw[aHE Yd])
end L2
end Go.Fs
namespace Go.Fs
variable{P:Program}{X:Cx}{γb:Type}[Membership Nat γb]{bad:γb}{all:Array Oper}{K:Act→World→Prop}{Q:Exit→Act→World→Prop}
variable{σ:bQ}{μ:aC}{Ds:List aA}{os:List (Bool×Nat)}{fl:Bool}{ix:Nat}
variable{d:Nat}{x y z:Operand}{u v:Value}{ty:TypeId}{pos:String}{aft:Array Edge}{g:Option (Nat×Bool)}
theorem K2.key{k:TypeId}(h:K2 P k):zX P k iL:=by
 refine⟨⟨_,h.1⟩,fun a b w=>?_,fun em a w=>zY h em a w,fun a=>?_,fun a=>⟨_,rfl⟩⟩
 ·rw[wK h];congr 1;by_cases e:a=b
  ·subst e;simp
  ·simp[e]
 ·simp[iL,Instr.sameBits]

theorem HZ{em:Bool}{t e:TypeId}{n:Nat}(t1:P.underlying t=some (.array n e))(te:P.underlying e=some (.int .i64))(hse:TS P e 1){r:List Int}(hr:r.length=n)(w:World):(Instr.checkKey em (9998+1) t (.agg (ints r).toArray)).run P w=.ok () w:=by
 have ce:∀m:Int,(Instr.checkKey em (9997+1) e (.int .i64 m)).run P w=.ok () w:=fun m=>by
  rw[Instr.checkKey,Sem.run_bind,TU.of te w];rfl
 rw[Instr.checkKey,Sem.run_bind,TU.of t1 w];simp only[Result.andThen_ok];rw[Std.Legacy.Range.forIn_eq_forIn_range'];have key:∀(is:List Nat),(∀i∈is,i<n)→((forIn is PUnit.unit fun i _=>do Instr.checkKey em 9998 e (←part e (ints r).toArray (i*(←sizeOf e)));Pure.pure (ForInStep.yield PUnit.unit):Sem PUnit)).run P w=.ok PUnit.unit w:=by
  intro is;induction is with
  |nil=>intro _;rfl
  |cons i is ih=>
   intro hi;have hlt:=hi i aGL;have g1:(ints r).toArray[i*1]?= some (.int .i64 r[i]):=by rw[aIR];simpa using cA (aGF (show i<r.length by omega))
   rw[List.forIn_cons];simp only[Sem.run_bind,hse w,Result.andThen_ok,dB te g1];rw[ce];simp only[Result.andThen_ok,Sem.run_pure];exact ih fun j hj=>hi j (aGE _ hj)
 have:=key (List.range' 0 n) (fun i hi=>by simpa using hi);simpa using this
def KM(P:Program)(k:TypeId)(n:Nat):Prop:=∃f0 f1 f2 e,P.underlying k=some (.struct (P.fieldsOf k))∧P.fieldsOf k=#[f0,f1,f2]∧f0.name≠ "_" ∧f1.name≠ "_" ∧f2.name≠ "_" ∧f0.offset=0∧f1.offset=1∧f2.offset=n+1∧
 P.underlying f0.type=some (.int .i64)∧P.underlying f1.type=some (.array n e)∧P.underlying f2.type=some (.array n e)∧P.underlying e=some (.int .i64)∧TA P f1.type true∧TS P f1.type n∧TA P f2.type true∧TS P f2.type n∧TS P e 1
theorem KM.key{k:TypeId}{n:Nat}(h:KM P k n)(hks:KS P k (n+n+1)):zX P k (zA (n:=n+n+1)):=by
 obtain⟨f0,f1,f2,e,hu,hf,n0,n1,n2,o0,o1,o2,t0,t1,t2,te,a1,s1,a2,s2,hse⟩:=h;refine⟨⟨_,hu⟩,fun a b w=>?_,fun em a w=>?_,fun a=>?_,fun a=>⟨_,rfl⟩⟩
 ·have:=zT (P:=P) hks a.h b.h w;show(Op.equal k (.agg (ints a.l).toArray) (.agg (ints b.l).toArray)).run P w=_;rw[this];congr 1;obtain⟨la,ha⟩:=a;obtain⟨lb,hb⟩:=b;rw[aJO];simp
 ·have hl:=a.h;have c0:∀x:Int,(Instr.checkKey em (9998+1) f0.type (.int .i64 x)).run P w=.ok () w:=fun x=>by
   rw[Instr.checkKey,Sem.run_bind,TU.of t0 w];rfl
  obtain⟨x,hx⟩:=C.ge a.l 0;have p0:(part f0.type (ints a.l).toArray f0.offset).run P w=.ok (.int .i64 x) w:=dB t0 (by rw[o0];simpa using cA hx) w
  have p1:(part f1.type (ints a.l).toArray f1.offset).run P w=.ok (.agg (ints ((a.l.drop 1).take n)).toArray) w:=by rw[o1];exact tN a1 s1 Yd w
  have p2:(part f2.type (ints a.l).toArray f2.offset).run P w=.ok (.agg (ints ((a.l.drop (n+1)).take n)).toArray) w:=by rw[o2];exact tN a2 s2 Yd w
  have c1:=HZ (em:=em) t1 te hse (r:=(a.l.drop 1).take n) (by rw[aHZ,aHU];omega) w;have c2:=HZ (em:=em) t2 te hse (r:=(a.l.drop (n+1)).take n) (by rw[aHZ,aHU];omega) w
  show(Instr.checkKey em (9999+1) k (.agg (ints a.l).toArray)).run P w=_;rw[Instr.checkKey,Sem.run_bind,TU.of hu w];simp only[Result.andThen_ok];rw[hf,←Array.forIn_toList];simp only[List.forIn_cons,List.forIn_nil,n0,n1,n2,ne_eq,aKU,aII,Sem.run_bind,p0,Result.andThen_ok,Sem.run_pure];rw[c0];simp only[Result.andThen_ok,Sem.run_pure,Sem.run_bind,p1];rw[c1];simp only[Result.andThen_ok,Sem.run_pure,Sem.run_bind,p2];rw[c2];simp[Sem.run_pure,Result.andThen_ok]
 ·show Instr.sameBits (9999+1) (.agg (ints a.l).toArray) (.agg (ints a.l).toArray)=true;simp only[Instr.sameBits,beq_self_eq_true,aKB,aGY];rintro⟨p,q⟩ hpq;obtain⟨i,hi⟩:=aJT.1 hpq;rw[List.getElem?_zip_eq_some]at hi;obtain⟨h1,h2⟩:=hi;simp only at h1 h2;rw[h1]at h2;obtain rfl:=aHC h2;have:p∈ints a.l:=aGD (by simpa using h1);obtain⟨m,_,rfl⟩:=aGA.1 this;simp[Instr.sameBits]
variable{α β:Type}[DecidableEq α]{val:α→Value}{wal:β→Value}
def vD(val:α→Value)(wal:β→Value)(es:Array MapEntry)(M:List (α×β)):Prop:=es.toList.map (fun e=>(e.key,e.val))=M.map fun x=>(val x.1,wal x.2)
def sY(a:α):List (α×β)→Nat→Option (Nat×β)
 | [],_=>none
 |(b,n)::M,i=>if a=b then some (i,n)else sY a M (i+1)
theorem uA{a:α}:∀{M:List (α×β)} {i j:Nat} {n:β},sY a M i=some (j,n)→∃k,j=i+k∧M[k]?= some (a,n)
 |(b,m)::M,i,j,n,h=>by
  simp only[sY]at h;split at h
  ·rename_i he;cases h;exact⟨0,rfl,by rw[he];rfl⟩
  ·obtain⟨k,rfl,hk⟩:=uA h;exact⟨k+1,by omega,by simpa using hk⟩
theorem pV{k:TypeId}(h:zX P k val)(a:α)(w:World):∀(es:List MapEntry) (M:List (α×β)) (i:Nat),es.map (fun e=>(e.key,e.val))=M.map (fun x=>(val x.1,wal x.2))→
  (Instr.findAsking k (val a) es i).run P w=.ok ((sY a M i).map fun p=>(p.1,wal p.2)) w
 | [],[],i,_=>rfl
 | [],_::_,i,hm=>by simp at hm
 |e::es,[],i,hm=>by simp at hm
 |e::es,(b,n)::M,i,hm=>by
  simp only[aHB,aIP,aJV]at hm;obtain⟨⟨hk,hv⟩,hm⟩:=hm;simp only[Instr.findAsking,Sem.run_bind,hk,h.eq,Result.andThen_ok,sY];by_cases he:a=b
  ·subst he;simp only[decide_true,aII,Sem.run_pure,hv];rfl
  ·simp only[he,decide_false,aHL,aIL];exact pV h a w es M (i+1) hm
theorem oX{k:TypeId}(h:zX P k val)(a:α)(w:World){es:List MapEntry}{M:List (α×β)}(hm:es.map (fun e=>(e.key,e.val))=M.map (fun x=>(val x.1,wal x.2))):
  (Instr.findKey k (val a) es).run P w=.ok ((sY a M 0).map fun p=>(p.1,wal p.2)) w:=by
 obtain⟨fs,hu⟩:=h.und;unfold Instr.findKey;rw[Sem.run_bind,TU.of hu w];cases es with
 |nil=>
  cases M with
  |nil=>rfl
  |cons x M=>simp at hm
 |cons e es=>
  have hn:Instr.findNow (.struct fs) (val a) (e::es) 0=none:=by
   obtain⟨cs,hc⟩:=h.agg a;rw[hc];rfl
  simp only[Result.andThen_ok,hn];exact pV h a w (e::es) M 0 hm
theorem KW{t k e:TypeId}{b clock:Nat}{es:Array MapEntry}{M:List (α×β)}{a:α}(ho:all[ix]?= some ⟨some d,.lookup t x y true,ty,pos,aft,g⟩)(ht:P.underlying t=some (.map k e))(hk:zX P k val){z0:Value}(hz:TZ P e z0)
  (hx:ev σ x=some (.map (some b))) (hy:ev σ y=some (val a)) (hm:(b,Obj.map es clock)∈μ) (hb:b∉bad) (hM:vD val wal es M) (hN:Nat.blt d X.N=true) (hg:cS all σ g)
  (kk:∀n ok,(ok=true→∃r,n=wal r∧(a,r)∈M)→(ok=false→n=z0)→WL P X bad all K Q os ((d,.tuple #[n,.bool ok])::σ) μ Ds):WL P X bad all K Q ((fl,ix)::os) σ μ Ds:=by
 have run:∀w,w.heap[b]?= some (Obj.map es clock)→(Instr.lookup t (.map (some b)) (val a) true).run P w=.ok (.tuple #[(match sY a M 0 with|some (_,v)=>wal v|none=>z0),.bool (sY a M 0).isSome]) w:=by
  intro w hw;have hf:=oX hk a w hM;unfold Instr.lookup;simp only[Sem.run_bind,TU.of ht w,Result.andThen_ok,gH hw,Sem.run_pure,hk.chk];rw[hf];cases sY a M 0 with
  |none=>simp only[aIK,Result.andThen_ok,Sem.run_bind,hz w,Sem.run_pure];rfl
  |some r=>obtain⟨j,v⟩:=r;simp only[aHM,Result.andThen_ok];rfl
 refine jA ho rfl rfl hN hg (fun a' w hh w' hk'=>?_) (kk (match sY a M 0 with|some (_,v)=>wal v|none=>z0) (sY a M 0).isSome (fun hok=>?_) fun hok=>?_)
 ·simp only[execOp,hh.eval hx,hh.eval hy,Sem.run_bind,run w' (hh.boxAt hm hb hk'),Result.andThen_ok,Sem.run_pure]
 ·cases hp:sY a M 0 with
  |none=>rw[hp]at hok;cases hok
  |some r=>
   obtain⟨j,n⟩:=r;obtain⟨i,_,hi⟩:=uA hp;exact⟨n,rfl,aGD hi⟩
 ·cases hp:sY a M 0 with
  |none=>rfl
  |some r=>rw[hp]at hok;cases hok
theorem T0{t k e:TypeId}{b clock:Nat}{es:Array MapEntry}{M:List (α×β)}{a:α}{n:β}{A B:aC}(ho:all[ix]?= some ⟨none,.mapUpdate t x y z,ty,pos,aft,g⟩)(ht:P.underlying t=some (.map k e))(hk:zX P k val)
  (hx:ev σ x=some (.map (some b))) (hy:ev σ y=some (val a)) (hz:ev σ z=some (wal n)) (hM:vD val wal es M) (hg:cS all σ g)
  (kk:∀es' clock' M',vD val wal es' M'→(∀p∈M',p∈M∨p=(a,n))→WL P X bad all K Q os σ (A++(b,.map es' clock')::B) Ds):WL P X bad all K Q ((false,ix)::os) σ (A++(b,.map es clock)::B) Ds:=by
 refine dI ho rfl rfl hg fun a' w hh=>?_
 obtain⟨h1,h2,h3,D,h4,h5,h6⟩:=id hh;have hw:=(h4.box (b,.map es clock) Ye).1;have run:∃es' clock' M',vD val wal es' M'∧(∀p∈M',p∈M∨p=(a,n))∧(Instr.mapUpdate t (.map (some b)) (val a) (wal n)).run P w=.ok () {w with heap:=w.heap.setIfInBounds b (.map es' clock')}:=by
  have hf:=oX hk a w hM;have hset:∀o,(setObj b o).run P w=.ok () {w with heap:=w.heap.setIfInBounds b o}:=fun o=>by simp[setObj,Sem.run,hw]
  cases hp:sY a M 0 with
  |none=>
   refine⟨es.push {key:=val a,val:=wal n,born:=clock},clock+1,M++[(a,n)],?_,fun p hp=>by simpa using hp,?_⟩
   ·unfold vD at hM ⊢
    rw[Array.toList_push,aGS,aGS,hM];rfl
   ·unfold Instr.mapUpdate;simp only[Sem.run_bind,TU.of ht w,Result.andThen_ok,gH hw,hk.chk];rw[hf,hp];simp only[aIK,Result.andThen_ok,hset]
  |some r=>
   obtain⟨j,m⟩:=r;obtain⟨i,hi0,hi⟩:=uA hp;rw[aJA]at hi0;subst hi0
   have hMi:∀i,(es.toList[i]?).map (fun e:MapEntry=>(e.key,e.val))=(M[i]?).map (fun x:α×β=>(val x.1,wal x.2)):=fun i=>by rw[←aHD,←aHD,hM]
   have hj:=hMi j;rw[hi]at hj;obtain⟨e0,he0,hke⟩:=aIZ.1 hj;simp only[aJV]at hke;have he0':es[j]?= some e0:=by simpa using he0
   refine⟨es.modify j fun e=>{e with key:=val a,val:=wal n},clock,M.set j (a,n),?_,fun p hp=>(List.mem_or_eq_of_mem_set hp),?_⟩
   ·unfold vD;apply aLE;intro q;rw[aHD,aHD,Array.getElem?_toList,Array.getElem?_modify,List.getElem?_set];have hq:=hMi q;rw[Array.getElem?_toList]at hq;by_cases hjq:j=q
    ·subst hjq;have hlt:=(aGJ.1 hi).1;simp[he0',hlt]
    ·simp only[hjq,aIL];exact hq
   ·have hks:(Instr.keyThatStays (val a) (val a)).run P w=.ok (val a) w:=by
     have:Instr.sameBits 10000 (val a) (val a)=true:=hk.stay a;unfold Instr.keyThatStays;rw[aGX this,Sem.run_pure]
    unfold Instr.mapUpdate;simp only[Sem.run_bind,TU.of ht w,Result.andThen_ok,gH hw,hk.chk];rw[hf,hp];simp only[aHM,Result.andThen_ok,he0',aJP,hke.1,Sem.run_bind,hks,hset]
 obtain⟨es',clock',M',hM',hmem,hr⟩:=run;have hHas:bL (A++(b,Obj.map es clock)::B) b (.map es clock) (.map es' clock') (A++(b,.map es' clock')::B):=.app .head;have hs:=h4.set (w':={w with heap:=w.heap.setIfInBounds b (.map es' clock')}) hHas ⟨rfl,rfl⟩ trivial;have:(execOp a'.eval ⟨none,.mapUpdate t x y z,ty,pos,aft,g⟩).run P w=.ok .skip {w with heap:=w.heap.setIfInBounds b (.map es' clock')}:=by
  simp only[execOp,hh.eval hx,hh.eval hy,hh.eval hz,Sem.run_bind,hr,Result.andThen_ok,Sem.run_pure]
 rw[this];exact⟨fun h=>by simp at h,kk es' clock' M' hM' hmem _ _ ⟨h1,h2,h3,D,hs,h5,h6.step (fun _ p hp=>aGR Yq) (fun _=>gF ⟨rfl,rfl⟩ (aGA.2 ⟨_,hHas.mem,rfl⟩)) hs.dom⟩⟩
end Go.Fs
namespace Go.Fs
variable{P:Program}{X:Cx}{γb:Type}[Membership Nat γb]{bad:γb}{all:Array Oper}{K:Act→World→Prop}{Q:Exit→Act→World→Prop}
variable{σ:bQ}{μ:aC}{Ds:List aA}{os:List (Bool×Nat)}{fl:Bool}{ix:Nat}
variable{d:Nat}{x y z:Operand}{u v:Value}{ty:TypeId}{pos:String}{aft:Array Edge}{g:Option (Nat×Bool)}
def aAS:Unit→Value:=fun _=>.bool true
structure pU(es:Array MapEntry)(clock:Nat)(S:List (Int×Int)):Prop where
 cells:vD iL aAS es (S.map fun a=>(a,()))
 nd:(es.toList.map (·.born)).Nodup
 lt:∀e∈es.toList,e.born<clock
theorem pU.nil:pU #[] 0 []:=⟨rfl,aID,fun e he=>by simp at he⟩
def CA(S:List (Int×Int))(a:Int×Int):List (Int×Int):=if a∈S then S else S++[a]
theorem OY{S:List (Int×Int)}{a p:Int×Int}:p∈CA S a ↔ p∈S∨p=a:=by
 unfold CA;split
 ·rename_i h;exact⟨aGR,fun h'=>h'.elim id fun e=>e▸h⟩
 ·simp
theorem pU.key{es:Array MapEntry}{clock:Nat}{S:List (Int×Int)}(h:pU es clock S){e:MapEntry}(he:e∈es.toList):∃a∈S,e.key=iL a∧e.val=.bool true:=by
 have h1:=h.cells;unfold vD at h1;obtain⟨i,hi⟩:=aJT.1 he;have h2:(es.toList.map fun e=>(e.key,e.val))[i]?= some (e.key,e.val):=by rw[aHD,hi];rfl
 rw[h1,List.map_map,aHD]at h2;obtain⟨a,ha,hk⟩:=aIZ.1 h2;simp only[Function.comp,aJV]at hk;exact⟨a,aGD ha,hk.1.symm,hk.2.symm⟩
theorem pU.ent{es:Array MapEntry}{clock:Nat}{S:List (Int×Int)}(h:pU es clock S){a:Int×Int}(ha:a∈S):∃e∈es.toList,e.key=iL a:=by
 have h1:=h.cells;unfold vD at h1;obtain⟨i,hi⟩:=aJT.1 ha;have h2:((S.map fun a=>(a,())).map fun x=>(iL x.1,aAS x.2))[i]?= some (iL a,.bool true):=by rw[List.map_map,aHD,hi];rfl
 rw[←h1,aHD]at h2;obtain⟨e,he,hk⟩:=aIZ.1 h2;simp only[aJV]at hk;exact⟨e,aGD he,hk.1⟩
theorem NU{S:List (Int×Int)}{a:Int×Int}:∀{i:Nat},sY a (S.map fun a=>(a,())) i=none→a∉S:=by
 induction S with
 |nil=>intro i _;exact GT
 |cons b S ih=>
  intro i h;simp only[aHB,sY]at h;split at h
  ·cases h
  ·rename_i hne;intro hm;rcases aGB.1 hm with e|hm
   ·exact hne e
   ·exact ih h hm
theorem aCE{t k e:TypeId}{b clock:Nat}{es:Array MapEntry}{S:List (Int×Int)}{a:Int×Int}{A B:aC}(ho:all[ix]?= some ⟨none,.mapUpdate t x y z,ty,pos,aft,g⟩)(ht:P.underlying t=some (.map k e))(hk:K2 P k)
  (hx:ev σ x=some (.map (some b))) (hy:ev σ y=some (iL a)) (hz:ev σ z=some (.bool true)) (hM:pU es clock S) (hg:cS all σ g)
  (kk:∀es' clock',pU es' clock' (CA S a)→WL P X bad all K Q os σ (A++(b,.map es' clock')::B) Ds):WL P X bad all K Q ((false,ix)::os) σ (A++(b,.map es clock)::B) Ds:=by
 refine dI ho rfl rfl hg fun a' w hh=>?_
 obtain⟨h1,h2,h3,D,h4,h5,h6⟩:=id hh;have hw:=(h4.box (b,.map es clock) Ye).1;have hK:=hk.key;have run:∃es' clock',pU es' clock' (CA S a)∧(Instr.mapUpdate t (.map (some b)) (iL a) (.bool true)).run P w=.ok () {w with heap:=w.heap.setIfInBounds b (.map es' clock')}:=by
  have hf:=oX (wal:=aAS) hK a w hM.cells;have hset:∀o,(setObj b o).run P w=.ok () {w with heap:=w.heap.setIfInBounds b o}:=fun o=>by simp[setObj,Sem.run,hw]
  cases hp:sY a (S.map fun a=>(a,())) 0 with
  |none=>
   have hna:=NU hp;refine⟨es.push {key:=iL a,val:=.bool true,born:=clock},clock+1,⟨?_,?_,?_⟩,?_⟩
   ·have hM':=hM.cells;unfold vD at hM' ⊢
    unfold CA;rw[aGQ hna,Array.toList_push,aGS,hM',aGS,aGS];rfl
   ·rw[Array.toList_push,aGS,aGK];refine⟨hM.nd,by simp,fun b1 hb1 b2 hb2=>?_⟩;obtain⟨e1,he1,rfl⟩:=aGA.1 hb1;have:=hM.lt e1 he1;simp only[aHB,aKD,aGU]at hb2;omega
   ·intro e1 he1;rw[Array.toList_push]at he1;rcases aGP.1 he1 with he1|he1
    ·have:=hM.lt e1 he1;omega
    ·simp only[aGU]at he1;subst he1;exact Nat.lt_succ_self _
   ·unfold Instr.mapUpdate;simp only[Sem.run_bind,TU.of ht w,Result.andThen_ok,gH hw,hK.chk];rw[hf,hp];simp only[aIK,Result.andThen_ok,hset]
  |some r=>
   obtain⟨j,m⟩:=r;obtain⟨i,hi0,hi⟩:=uA hp;rw[aJA]at hi0;subst hi0
   have hSj:S[j]?= some a:=by
    rw[aHD]at hi;obtain⟨a',ha',hk'⟩:=aIZ.1 hi;rw[ha',(Prod.mk.inj hk').1]
   have hMi:∀i,(es.toList[i]?).map (fun e:MapEntry=>(e.key,e.val))=(S[i]?).map (fun x:Int×Int=>(iL x,Value.bool true)):=fun i=>by
    have:=hM.cells;unfold vD at this;rw[←aHD,this,List.map_map,aHD];rfl
   have hj:=hMi j;rw[hSj]at hj;obtain⟨e0,he0,hke⟩:=aIZ.1 hj;simp only[aJV]at hke;have he0':es[j]?= some e0:=by simpa using he0
   have hmod:es.modify j (fun e=>{e with key:=iL a,val:=.bool true})=es:=by
    apply Array.ext_getElem?;intro q;rw[Array.getElem?_modify];by_cases hjq:j=q
    ·subst hjq;simp only[he0',aII,aHM];obtain⟨k0,v0,b0⟩:=e0;simp only at hke;rw[hke.1,hke.2]
    ·simp[hjq]
   refine⟨es,clock,?_,?_⟩
   ·unfold CA;rw[aGX (aGD hSj)];exact hM
   ·have hks:(Instr.keyThatStays (iL a) (iL a)).run P w=.ok (iL a) w:=by
     have:Instr.sameBits 10000 (iL a) (iL a)=true:=hK.stay a;unfold Instr.keyThatStays;rw[aGX this,Sem.run_pure]
    unfold Instr.mapUpdate;simp only[Sem.run_bind,TU.of ht w,Result.andThen_ok,gH hw,hK.chk];rw[hf,hp];simp only[aHM,Result.andThen_ok,he0',aJP,hke.1,Sem.run_bind,hks,hset,hmod]
 obtain⟨es',clock',hM',hr⟩:=run;have hHas:bL (A++(b,Obj.map es clock)::B) b (.map es clock) (.map es' clock') (A++(b,.map es' clock')::B):=.app .head;have hs:=h4.set (w':={w with heap:=w.heap.setIfInBounds b (.map es' clock')}) hHas ⟨rfl,rfl⟩ trivial;have:(execOp a'.eval ⟨none,.mapUpdate t x y z,ty,pos,aft,g⟩).run P w=.ok .skip {w with heap:=w.heap.setIfInBounds b (.map es' clock')}:=by
  simp only[execOp,hh.eval hx,hh.eval hy,hh.eval hz,Sem.run_bind,hr,Result.andThen_ok,Sem.run_pure]
 rw[this];exact⟨fun h=>by simp at h,kk es' clock' hM' _ _ ⟨h1,h2,h3,D,hs,h5,h6.step (fun _ p hp=>aGR Yq) (fun _=>gF ⟨rfl,rfl⟩ (aGA.2 ⟨_,hHas.mem,rfl⟩)) hs.dom⟩⟩
theorem OR{t k e:TypeId}{b clock:Nat}{es:Array MapEntry}(ho:all[ix]?= some ⟨some d,.range t x,ty,pos,aft,g⟩)(ht:P.underlying t=some (.map k e))(hx:ev σ x=some (.map (some b)))(hm:(b,Obj.map es clock)∈μ)(hN:Nat.blt d X.N=true)(hg:cS all σ g)
  (kk:∀r,WL P X bad all K Q os ((d,.pointer (some ⟨r,0,none⟩))::σ) ((r,.mapIter (some b) clock #[] clock)::μ) Ds):WL P X bad all K Q ((fl,ix)::os) σ μ Ds:=by
 refine dI ho rfl rfl hg fun a w hh=>?_
 obtain⟨h1,h2,h3,D,h4,h5,h6⟩:=id hh;have:(execOp a.eval ⟨some d,.range t x,ty,pos,aft,g⟩).run P w=.ok (.value (.pointer (some ⟨w.heap.size,0,none⟩))) {w with heap:=w.heap.push (.mapIter (some b) clock #[] clock)}:=by
  simp only[execOp,hh.eval hx,Sem.run_bind,run_range_map w t k e b es clock ht (h4.box _ hm).1,Result.andThen_ok,Sem.run_pure];rfl
 rw[this];exact⟨fun _=>lD _ _ _,kk _ _ _ (Hl.put ⟨h1,h2,h3,D,h4.push _ (show cF (.mapIter (some b) clock #[] clock)from aLJ),h5,h6.step (fun _ p hp=>by rcases aGB.1 hp with rfl|hp;exact Or.inr (aGW _);exact Or.inl (aGA.2 ⟨p,hp,rfl⟩)) (fun _=>wD _ _) (h4.push _ (show cF (.mapIter (some b) clock #[] clock)from aLJ)).dom⟩ hN _)⟩
theorem aAC{b r since c0 clock:Nat}{seen:Array Nat}{es:Array MapEntry}{A B:aC}(ho:all[ix]?= some ⟨some d,.next x false,ty,pos,aft,g⟩)(hx:ev σ x=some (.pointer (some ⟨r,0,none⟩)))(hm:(b,Obj.map es clock)∈A++(r,.mapIter (some b) since seen c0)::B)
  (hold:∀e∈es.toList,e.born<since) (hsc:since≤c0) (hN:Nat.blt d X.N=true) (hg:cS all σ g)
  (kk:∀(ok:Bool) (vs:Array Value) (o':Obj),vs.toList[0]?= some (.bool ok)→(ok=false→(leftOf es seen).size=0∧o'=.mapIter (some b) since seen c0)→(ok=true→∃e∈(leftOf es seen).toList,o'=.mapIter (some b) since (seen.push e.born) clock)→WL P X bad all K Q os ((d,.tuple vs)::σ) (A++(r,o')::B) Ds):
  WL P X bad all K Q ((false,ix)::os) σ (A++(r,.mapIter (some b) since seen c0)::B) Ds:=by
 refine dI ho rfl rfl hg fun a w hh=>?_
 have hh0:=hh;obtain⟨h1,h2,h3,D,h4,h5,h6⟩:=id hh;have hr:=(h4.box (r,.mapIter (some b) since seen c0) Ye).1;have hb:=(h4.box _ hm).1;rcases run_next_at (P:=P) w ty r b since c0 seen es clock hr hb hold hsc with⟨hl,hrun⟩|⟨e,he,w1,hw1,hrun⟩
 ·have:(execOp a.eval ⟨some d,.next x false,ty,pos,aft,g⟩).run P w=.ok (.value (.tuple #[.bool false])) w:=by
   simp only[execOp,hh.eval hx,Sem.run_bind,hrun,Result.andThen_ok,Sem.run_pure]
  rw[this];exact⟨fun h=>by simp at h,kk false _ _ rfl (fun _=>⟨hl,rfl⟩) (fun h=>by cases h) _ _ (hh0.put hN _)⟩
 ·have hh1:Hl X σ (A++(r,.mapIter (some b) since seen c0)::B) Ds a w1:=by
   rcases hw1 with rfl|rfl
   ·exact hh0
   ·exact hh0.drew
  have:(execOp a.eval ⟨some d,.next x false,ty,pos,aft,g⟩).run P w=.ok (.value (.tuple #[.bool true,e.key,e.val])) (ChangeMaps.setBlock w1 r (.mapIter (some b) since (seen.push e.born) clock)):=by
   simp only[execOp,hh.eval hx,Sem.run_bind,hrun,Result.andThen_ok,Sem.run_pure]
  rw[this];obtain⟨h1,h2,h3,D,h4,h5,h6⟩:=hh1;have hHas:bL (A++(r,Obj.mapIter (some b) since seen c0)::B) r (.mapIter (some b) since seen c0) (.mapIter (some b) since (seen.push e.born) clock) (A++(r,.mapIter (some b) since (seen.push e.born) clock)::B):=.app .head;have hs:=h4.set (w':=ChangeMaps.setBlock w1 r (.mapIter (some b) since (seen.push e.born) clock)) hHas ⟨rfl,rfl⟩ trivial;exact⟨fun h=>by simp at h,kk true _ _ rfl (fun h=>by cases h) (fun _=>⟨e,he,rfl⟩) _ _ (Hl.put ⟨h1,h2,h3,D,hs,h5,h6.step (fun _ p hp=>aGR Yq) (fun _=>gF ⟨rfl,rfl⟩ (aGA.2 ⟨_,hHas.mem,rfl⟩)) hs.dom⟩ hN _)⟩
theorem TM{b r since clock:Nat}{seen:Array Nat}{es:Array MapEntry}{e:MapEntry}(ho:all[ix]?= some ⟨some d,.entry x,ty,pos,aft,g⟩)(hx:ev σ x=some (.pointer (some ⟨r,0,none⟩)))(hm:(b,Obj.map es clock)∈μ)(hr:(r,Obj.mapIter (some b) since (seen.push e.born) clock)∈μ)
  (he:e∈es.toList) (hn:(es.toList.map (·.born)).Nodup) (hN:Nat.blt d X.N=true) (hg:cS all σ g)
  (kk:WL P X bad all K Q os ((d,.tuple #[e.key,e.val])::σ) μ Ds):WL P X bad all K Q ((fl,ix)::os) σ μ Ds:=by
 refine dI ho rfl rfl hg fun a w hh=>?_
 obtain⟨h1,h2,h3,D,h4,h5,h6⟩:=id hh;have:(execOp a.eval ⟨some d,.entry x,ty,pos,aft,g⟩).run P w=.ok (.value (.tuple #[e.key,e.val])) w:=by
  simp only[execOp,hh.eval hx,Sem.run_bind,run_entry_at w r b since seen es clock e (h4.box _ hr).1 (h4.box _ hm).1 he hn,Result.andThen_ok,Sem.run_pure]
 rw[this];exact⟨fun _=>jI.refl _ _,kk _ _ (hh.put hN _)⟩
theorem LC{t e:TypeId}{n b l h:Nat}{k1 k2:IntKind}{i j:Int}(ho:all[ix]?= some ⟨some d,.slice t x (some y) (some z) none,ty,pos,aft,g⟩)(ht:P.underlying t=some (.array n e))(hs:TS P e 1)(hx:ev σ x=some (.pointer (some ⟨b,0,none⟩)))
  (hy:ev σ y=some (.int k1 i)) (hz:ev σ z=some (.int k2 j)) (hi:i=(l:Int)) (hj:j=(h:Int)) (h1:l≤h) (h2:h≤n) (h3:l<n)
  (hN:Nat.blt d X.N=true) (hg:cS all σ g) (kk:WL P X bad all K Q os ((d,.slice (some ⟨b,l,none⟩) (h-l) (n-l))::σ) μ Ds):WL P X bad all K Q ((fl,ix)::os) σ μ Ds:=by
 subst hi;subst hj
 refine bH ho rfl rfl hN hg (fun ρ hρ w'=>?_) kk;simp only[execOp,hρ x _ hx,hρ y _ hy,hρ z _ hz,aIK,aHM];unfold Instr.sliceAt Instr.sureAddr Instr.sliceBounds Instr.sliceBound asIntOf;have a1:(0:Int)≤(l:Int)∧(l:Int)≤(h:Nat):=by omega
 have a2:(0:Int)≤(h:Int)∧(h:Int)≤(n:Nat):=by omega
 simp only[Sem.run_bind,TU.of ht w',Result.andThen_ok,hs w',Sem.run_pure,pure_bind,a1,a2,aLA,aII,aIH,aIR];rw[aGQ Yd];simp[Addr.add];exact fun h=>h.symm
theorem VI{t e:TypeId}{n b h:Nat}{k2:IntKind}{j:Int}(ho:all[ix]?= some ⟨some d,.slice t x none (some z) none,ty,pos,aft,g⟩)(ht:P.underlying t=some (.array n e))(hs:TS P e 1)(hx:ev σ x=some (.pointer (some ⟨b,0,none⟩)))
  (hz:ev σ z=some (.int k2 j)) (hj:j=(h:Int)) (h2:h≤n)
  (hN:Nat.blt d X.N=true) (hg:cS all σ g) (kk:WL P X bad all K Q os ((d,.slice (some ⟨b,0,none⟩) h n)::σ) μ Ds):WL P X bad all K Q ((fl,ix)::os) σ μ Ds:=by
 subst hj;refine bH ho rfl rfl hN hg (fun ρ hρ w'=>?_) kk;simp only[execOp,hρ x _ hx,hρ z _ hz,aIK,aHM];unfold Instr.sliceAt Instr.sureAddr Instr.sliceBounds Instr.sliceBound asIntOf;have a2:(0:Int)≤(h:Int)∧(h:Int)≤(n:Nat):=by omega
 simp only[Sem.run_bind,TU.of ht w',Result.andThen_ok,hs w',Sem.run_pure,pure_bind,a2,aLA,aII,aIH,aKG,aJN];split<;>simp[Addr.add]
theorem GL{D:aA}{b n l h:Nat}{c:List Int}(hA:At D b 0 (ints c))(hl:c.length=n)(h1:l≤h)(h2:h≤n)(hb:n≤9223372036854775807):Sl D RI 1 (.slice (some ⟨b,l,none⟩) (h-l) (n-l)) ((c.drop l).take (h-l)):=by
 have hlen:((c.drop l).take (h-l)).length=h-l:=by simp;omega
 refine⟨_,_,by rw[hlen],by omega,by omega,aGH ⟨b,l,rfl,fun i x hi=>⟨_,rfl,rfl,fun j v hj=>?_⟩⟩⟩;rw[List.getElem?_take]at hi;split at hi
 ·rw[aIQ]at hi;cases j with
  |zero=>
   have h5:v=.int .i64 x:=by simpa using hj.symm
   subst h5;have:=hA (l+i) (.int .i64 x) (cA hi);simpa using this
  |succ j=>simp at hj
 ·cases hi
theorem aBH{γ:Type}(I:γ→Prop)(S:γ→Bool)(XX:γ→Cx)(M:γ→aC)(xs ys:List (Bool×Nat)){s p:Nat}{b:Bool}(hXr:∀g,(XX g).r=X.r)(ho:os=xs++ys)(hs:look σ s=some (.bool b))
  (hyes:b=true→WL P X bad all (fun a w=>∃g,I g∧Hl (XX g) ((p,.bool (S g))::(s,.bool true)::σ) (M g) Ds a w) Q xs ((s,.bool true)::σ) μ Ds)
  (hno:b=false→WL P X bad all (fun a w=>∃g,I g∧Hl (XX g) ((p,.bool (S g))::(s,.bool false)::σ) (M g) Ds a w) Q xs ((s,.bool false)::σ) μ Ds)
  (k:∀g,I g→WL P (XX g) bad all K Q ys ((p,.bool (S g))::σ) (M g) Ds):WL P X bad all K Q os σ μ Ds:=by
 have hsub:∀u,Value.bool b=u→∀a w,Hl X σ μ Ds a w→Hl X ((s,u)::σ) μ Ds a w:=by
  rintro _ rfl a w ⟨h1,h2,h3⟩;refine⟨h1,fun t v ht=>?_,h3⟩;simp only[look]at ht;cases hb:Nat.beq s t with
  |true=>rw[hb]at ht;cases ht;obtain rfl:=aHQ hb;exact h2 _ _ hs
  |false=>rw[hb]at ht;exact h2 _ _ ht
 have hback:∀(X:Cx) u v μ',Value.bool b=u→∀a w,Hl X ((p,v)::(s,u)::σ) μ' Ds a w→Hl X ((p,v)::σ) μ' Ds a w:=by
  rintro X _ v μ' rfl a w ⟨h1,h2,h3⟩;refine⟨h1,fun t v' ht=>?_,h3⟩;refine h2 t v' ?_;simp only[look]at ht ⊢
  cases hp:Nat.beq p t with
  |true=>rw[hp]at ht;exact ht
  |false=>
   rw[hp]at ht;cases hb:Nat.beq s t with
   |true=>obtain rfl:=aHQ hb;rw[←ht,hs]
   |false=>exact ht
 subst ho;intro a w hh;cases b
 ·refine WL.append (hno rfl a w (hsub _ rfl a w hh)) ?_;rintro a w ⟨g,hI,h⟩;rw[←hXr g];exact k g hI a w (hback _ _ _ _ rfl a w h)
 ·refine WL.append (hyes rfl a w (hsub _ rfl a w hh)) ?_;rintro a w ⟨g,hI,h⟩;rw[←hXr g];exact k g hI a w (hback _ _ _ _ rfl a w h)

theorem ZP{f:FuncId}{fn:Func}{c:Code}{args:List Value}{D:aA}{post:aA→Value→aC→Prop}(N:Nat)(hf:P.funcs[f]?= some fn)(hn:(fn.name== "runtime.NumGoroutine")=false)(hb:fn.body=some c)(hN:fn.ntmps=N)(hsz:Nat.ble args.length N=true)
  (h:∀h0:H0,WC P ⟨none,N,[],h0,h0.size,D,[],none⟩ (uR P fn (lG ⟨none,N,[],h0,h0.size,D,[],none⟩ post)) c (gG 0 args) [] [D]):CI P f args.toArray D post:=by
 refine⟨EF.of hf hn hb,fun w hw=>?_⟩;subst hN;have hsz:=aIE hsz;have hq:∀e a w',uR P fn (lG ⟨none,fn.ntmps,[],hd w,w.heap.size,D,[],none⟩ post) e a w'→bodyPostM (FW none) 0 P fn (lG ⟨none,fn.ntmps,[],hd w,w.heap.size,D,[],none⟩ post) e a w':=by
  intro e a w' he;cases e<;>first|exact he|exact he.elim
 have hwp:=h (hd w) {tmps:=args.toArray++Array.replicate (fn.ntmps-args.toArray.size) undef,defers:=[]} w ⟨by simp;omega,fun s v hs=>by
  obtain⟨_,h2⟩:=eA args 0 s v hs;have hl:=(aGJ.1 h2).1;simp only[aJN]at h2 hl;show(args.toArray++_)[s]?= some v;rw[aIX Yam];simpa using h2,rfl,D,⟨aGW _,aGW _,(fun _ _ _=>rfl),(fun _ _=>rfl),hw,(fun p hp=>by cases hp),aID,(fun p hp=>by cases hp),fun e he=>aHC he⟩,(fun D₁ h1=>by simp only[aGU]at h1;subst h1;exact Le.refl _),aLJ⟩
 refine(cU (r:=none) (n:=0)).1 ((callsIn_of_wp_marks hf hb aLJ (wpIn_mono hwp hq) rfl).mono ?_);rintro e w' ⟨v,D',μ',rfl,hs,hp⟩;exact⟨v,D',μ',rfl,hs,hp⟩
theorem y8{fn:Func}{bd:Nat}{post:aA→Value→aC→Prop}{e:Exit}(he:(match e with|.normal=>true|.ret=>true|_=>false)=true){rs:List ResultVar}{vs:List Value}{A B ν':aC}(hds:X.ds=[])(hr:fn.results=rs.toArray)(h:rM P X σ (A++ν'++B++[(bd,Obj.deferred none)]) rs vs)
  (hp:∀D,(∀D₁∈Ds,Le D₁ D)→post D (mI vs) ν'):∀a w,Hl (X.withDs bd) σ (A++ν'++B++[(bd,Obj.deferred (some []))]) Ds a w→uR P fn (lG X post) e a w:=by
 intro a w hh;obtain⟨h1,h2,h3,D,h4,h5,h6⟩:=hh;have hHas:bL (A++ν'++B++[(bd,Obj.deferred (some []))]) bd (.deferred (some [])) (.deferred none) (A++ν'++B++[(bd,Obj.deferred none)]):=.app .head;have hs:=h4.set (w':=w.putObj bd (.deferred none)) hHas ⟨rfl,rfl⟩ trivial;have hh':Hl X σ (A++ν'++B++[(bd,Obj.deferred none)]) Ds {a with defers:=[]} (w.putObj bd (.deferred none)):=
  ⟨h1,h2,hds.symm,D,hs,h5,h6.step (X:=X.withDs bd) (fun _ p hp=>aGR Yq) (fun _=>gF ⟨rfl,rfl⟩ (aGA.2 ⟨_,hHas.mem,rfl⟩)) hs.dom⟩
 have hrun:=fR hh' hr h;have hb:=(h4.box (bd,Obj.deferred (some [])) Ye).1;have hnd:=hs.nd;simp only[aGS]at hnd;have hs':fI X.h0 X.lo X.D0 X.mods ν' D (w.putObj bd (.deferred none)):=hs.sub (fun p hp=>aGI _ (aGI _ (aFZ _ hp))) (aGK.1 (aGK.1 (aGK.1 hnd).1).1).2.1;have:LeavesInM (FW none) 0 P fn a.tmps (lG X post) a.defers .returning w:=by
  have h3':a.defers=[jF bd]:=h3.trans (by show jF bd::X.ds=_;rw[hds]);rw[h3'];exact⟨by simp,aGR ⟨bd,_,rfl,run_takeDeferred hb,_,hrun,_,D,ν',rfl,hs',hp D h5⟩⟩
 cases e<;>first|exact this|cases he
end Go.Fs
namespace Go.Fs
open Go.Proofs
namespace L2
open L1
open C2
open C1 (fL cE oZ nI)
theorem QO{c pre:List Int}{n:Int}{i:Nat}(hl:pre.length=i)(hp:c.take (i+1)=pre++[n]):c[(i:Int).toNat]?= some n:=by
 have h:(c.take (i+1))[i]?= some n:=by rw[hp,←hl];simp
 rw[aJC (Nat.lt_succ_self i)]at h;exact h
theorem ME{step:Int}{c pre:List Int}{n:Int}{i:Nat}(hl:pre.length=i)(hp:c.take (i+1)=pre++[n])(hb:∀x∈pre,0≤x∧x≤99)(_h10:c.length=10)(hi:i<10):
  ∃m,(i≠0→c[((i:Int)-1).toNat]?= some m)∧(0≤m∧m≤99)∧(decide ((i:Int)=0)||fL (n-m) (-step) step)=jM step pre.getLast? n:=by
 rcases List.eq_nil_or_concat pre with rfl|⟨q,m,rfl⟩
 ·refine⟨0,fun h=>absurd hl.symm h,by omega,?_⟩;simp only[aIA]at hl;subst hl;simp[jM]
 ·refine⟨m,fun _=>?_,hb m Ye,?_⟩
  ·have h:(c.take (i+1))[i-1]?= some m:=by
    rw[hp];simp only[List.concat_eq_append,aGC,aJE]at hl;rw[show i-1=q.length by omega];simp
   rw[aJC Yd]at h;rw[show((i:Int)-1).toNat=i-1 by omega];exact h
  ·have:(i:Int)≠0:=by
    simp only[List.concat_eq_append,aGC,aJE]at hl;omega
   unfold jM;rw[decide_eq_false this,Bool.false_or];simp
theorem aBQ{c pre:List Int}{i n:Nat}{k:Int}(h:c.length=10)(hi:i<n)(hn:n≤10)(hp:c.take i=pre)(hz:c.drop n=List.replicate (10-n) 0):(c.set i k).length=10∧(c.set i k).take (i+1)=pre++[k]∧(c.set i k).drop n=List.replicate (10-n) 0:=
 ⟨by simp[h],by rw[aGT,List.getElem?_set_self Yd,aIB,List.take_set_of_le (aGW _),hp],by rw[List.drop_set_of_lt hi];exact hz⟩
theorem B9(last step:Int)(hv lv mv:Value)(c pre:List Int)(n:Int)(i:Nat)(D:aA)(hs:0≤step∧step≤99)(h10:c.length=10)(hi9:i<10)(hl:pre.length=i)(hp:c.take (i+1)=pre++[n])(hb:∀x∈pre,0≤x∧x≤99)(hn:0≤n∧n≤99):
  Fn Tryz.prog 222 #[.agg #[.int .i64 last,hv,.int .i64 step,lv,mv],.agg (ints c).toArray,.int .i64 (i:Int)] D (fun _ v=>v=.bool (jM step pre.getLast? n)):=by
 have hn0:=QO hl hp;obtain⟨m,hm0,hmb,hnr⟩:=ME (step:=step) hl hp hb h10 hi9;refine enter 25 Tryz.func222 rfl rfl rfl rfl fun h0=>C.s1<|Zv rfl (fun q1 E1 hE1 hB1=>Zv rfl (fun q2 E2 hE2 hB2=>Zh rfl<|L.n2<|C.drawA [] 6 19 64448 (fun _ _ _ h=>bZ (P:=Tryz.prog) (fn:=Tryz.f222) _ _ _ h)<|Za rfl<|dK rfl rfl rfl rfl trivial<|Za rfl ?_))
 refine' L.orK 15 (s:=9) (p:=24) rfl (fun hg1=>?_) (fun hg1=>?_) ?_;rotate_left
 ·have hi0:(i:Int)≠0:=by simpa using hg1
  have hm1:=hm0 Yd;refine Zb rfl<|dE rfl U282 Tf.s3 rfl rfl Yd Yd rfl ⟨_,rfl,rfl⟩<|gD rfl Tf.a3 rfl hB2 Ye (cA hn0) GT rfl ⟨_,rfl,rfl⟩<|Zb rfl<|fJ rfl rfl rfl Yf rfl ⟨_,rfl,rfl⟩<|dE rfl U282 Tf.s3 rfl rfl Yd Yd rfl ⟨_,rfl,rfl⟩<|gD rfl Tf.a3 rfl hB2 Ye (cA hm1) GT rfl ⟨_,rfl,rfl⟩<|fJ rfl rfl rfl Yf rfl ⟨_,rfl,rfl⟩<|Zj rfl Tf.f32_2 rfl<|Zg 2 rfl Tf.a3 rfl hB1 rfl<|aAP rfl rfl Yf rfl ⟨_,rfl,rfl⟩<|Zj rfl Tf.f32_2 rfl ?_;refine Zg 2 rfl Tf.a3 rfl hB1 rfl<|Zd rfl (fun D1 hD1=>dG _ _ _ _)<|Zac rfl ?_;exact L.cu 14
 ·refine Zk rfl<|Zk rfl<|Zk rfl<|Zk rfl<|Zk rfl<|Zk rfl<|Zk rfl<|Zk rfl<|Zk rfl<|Zk rfl<|Zk rfl<|Zk rfl ?_;refine Zk rfl<|Zk rfl<|Zab rfl ?_;exact L.cu 14
 refine Zh rfl<|L.n5 ?_;exact leave1 rfl rfl rfl rfl (fun D hD=>by show Value.bool _=_;rw[hnr])
def fO(br bY bc bh:Nat)(c:List Int):aC:=[(bh,.cells [.func (.func 221) #[] #[.pointer (some ⟨br,0,none⟩),.pointer (some ⟨bY,0,none⟩),.pointer (some ⟨bc,0,none⟩),.pointer (some ⟨bh,0,none⟩)]].toArray 191 (0,0)),(bc,.cells (ints c).toArray 282 (0,0))]
def xF(J Jx:List (List Int)→nY)(br bY bc bh:Nat)(step:Int)(hs:List (Int×Int))(pre:List Int)(i:Nat)(done:List (List Int))(v:Value)(J':nY)(μ':aC):Prop:=
 ∃b c',v=.bool b∧c'.length=10∧c'.take i=pre∧c'.drop hs.length=List.replicate (10-hs.length) 0∧μ'=fO br bY bc bh c'∧(if b=true then J'=J (done++(fY step (hs.drop i) pre.getLast?).map fun t=>cK (pre++t))else ∃p,J'=Jx p)
theorem pS{lo l:Nat}{J Jx:List (List Int)→nY}{t:aZ}{xs:List (List Int)}{Dr Dy:aA}{Ds:List aA}{br bY bc bh:Nat}{hv lv mv:Value}(hto:n9 t)
  (hs:∀pre,vI lo (J pre)) (hsx:∀pre,vI lo (Jx pre)) (hY:IC Tryz.prog Dr lo l J Jx xs) (hDr:Dr∈Ds) (hDy:Dy∈Ds) (hA:At Dr br 0 [.int .i64 t.last,hv,.int .i64 t.step,lv,mv]) (hpl:Sl Dr A1 2 hv t.heights) (hB:At Dy bY 0 [.func (.yield l) #[] #[]]):
  ∀(j i:Nat) (pre c:List Int) (done rest:List (List Int)) (iv:Int),iv=i→i+j=t.heights.length→pre.length=i→c.length=10→c.take i=pre→c.drop t.heights.length=List.replicate (10-t.heights.length) 0→(∀x∈pre,0≤x∧x≤99)→
   xs=done++(fY t.step (t.heights.drop i) pre.getLast?).map (fun t=>cK (pre++t))++rest→
   aDT Tryz.prog 221 [.int .i64 iv,.pointer (some ⟨br,0,none⟩),.pointer (some ⟨bY,0,none⟩),.pointer (some ⟨bc,0,none⟩),.pointer (some ⟨bh,0,none⟩)] lo (J done) (fO br bY bc bh c) Ds (xF J Jx br bY bc bh t.step t.heights pre i done):=by
 intro j;induction j using Nat.strongRecOn with
 |_ j ih=>
 intro i pre c done rest iv hiv hij hl h9 hp hz hpb hxs;subst hiv;have hmx:=hpl.len;have hlast:=hto.last;have hlen:=hto.len;have hn9:=hto.len10;refine vR (μ:=fO br bY bc bh c) 46 Tryz.func221 rfl rfl rfl rfl<|C.s1<|Zh rfl<|L.n4<|Za rfl<|Zi rfl Tf.f32_0 rfl<|Zf 0 rfl Tf.a3 rfl hA rfl<|eT rfl rfl rfl rfl trivial<|L.n1<|aE rfl (fun hc1=>?_) (fun hc1=>?_)
 ·have hin:i=t.heights.length:=by omega
  subst hin;have hleaf:=(FJ (l:=pre) (by rw[hl];exact hp) (by rw[hl];exact hz))
  rw[List.drop_length]at hxs;simp only[fY,aHB,aKD,aGG]at hxs;rw[hleaf,aGN,aJS]at hxs;refine C.s1<|Zf 0 rfl Tf.a352 rfl hB rfl<|bK rfl Tf.a282 rfl (List.Mem.tail _ (List.Mem.head _)) Yw GT rfl trivial<|K7 (l:=l) (J1:=J (done++[c])) (J0:=Jx (done++[c])) rfl rfl rfl rfl (hs _) (hsx _) (fun D w hd hJ hb hl=>hY done c _ D w ⟨rest,hxs⟩ hd hJ (fun b hbm=>by obtain⟨p,hp,rfl⟩:=aGA.1 hbm;exact hb p hp) (hl _ hDr)) rfl aLJ (fun b1 J1 hJ1=>Zh rfl<|L.n5<|Zaj ?_)
  exact gM (P:=Tryz.prog) (fn:=Tryz.f221) (N:=46) (vs:=[_]) rfl rfl ⟨rfl,aLJ⟩ (fun D h=>⟨D,h,Le.refl D⟩) ⟨b1,c,rfl,h9,hp,hz,rfl,by cases b1<;>simp only[hJ1,aII,aHL,aIL];exact⟨_,rfl⟩;simp[fY,hleaf]⟩
 ·have hin:i<t.heights.length:=by omega
  obtain⟨r,hri⟩:=C.ge t.heights i;have hrb:=hto.hts r (aGD hri);have hrg:=mP hrb;have hsz:eS r=r.2-r.1+1:=rfl;have hd:t.heights.drop i=r::t.heights.drop (i+1):=by rw[aIJ hin];congr 1;exact aHC ((aGF hin).symm.trans hri)
  rw[hd,←IH]at hxs;refine C.kn<|C.s2<|Zi rfl Tf.f32_1 rfl<|Zf 1 rfl Tf.a29 rfl hA rfl<|Za rfl<|Zs rfl U29 Tf.s99 rfl hpl rfl hri (fun b1 o1 cs1 hr1 hcl1 hA1=>?_);obtain rfl:cs1=[.int .i64 _,.int .i64 _]:=hr1;refine Zr rfl Tf.a99 rfl hA1 Tf.s99<|Zc rfl (fun D1 hD1=>HG r hrb _)<|Za rfl<|L.n1<|Zah<|wN (γ:=Nat×List Int) (fun g=>(eS r).toNat-g.1) (fun g=>g.1≤(eS r).toNat∧g.2.length=10∧g.2.take i=pre∧g.2.drop t.heights.length=List.replicate (10-t.heights.length) 0) (fun g=>J (done++CJ t.step (t.heights.drop (i+1)) pre r g.1)) (fun g=>[(21,.int .i64 (g.1:Int))]) [(20,_),(6,_),(0,_),(1,_),(3,_),(4,_)] (fun g=>fO br bY bc bh g.2) (fun g=>Ds) (0,c) ⟨by simp,h9,hp,hz⟩ (by simp[PM]) ⟨Yb,aLJ⟩ C.rs (LT _) (aD) ?_;rintro⟨k,c1⟩ ⟨h11,h91,hp1,hz1⟩;simp only at h11 h91 hp1 hz1;refine C.s1<|Zad rfl<|L.n2<|aE rfl (fun hc2=>?_) (fun hc2=>?_)
  ·obtain⟨rr,hr⟩:=QZ (step:=t.step) (rs:=t.heights.drop (i+1)) (pre:=pre) (r:=r) (k:=k) (n:=(eS r).toNat) Yd;have hset:=aBQ (k:=r.1+(k:Int)) h91 hin hn9 hp1 hz1;have h9s:(c1.set ((i:Int)).toNat (r.1+(k:Int))).length=10:=hset.1;have hpn:∀x∈pre++[r.1+(k:Int)],0≤x∧x≤99:=fun x hx=>by rcases aGP.1 hx with hx|hx;exact hpb x hx;simp only[aGU]at hx;omega
   refine C.kn<|aL<|Zah<|C.s1<|Za rfl<|Zh rfl<|L.n3<|Za rfl<|Zi rfl Tf.f32_1 rfl<|Zf 1 rfl Tf.a29 rfl hA rfl<|Za rfl<|Zs rfl U29 Tf.s99 rfl hpl rfl hri (fun b2 o2 cs2 hr2 hcl2 hA2=>?_);obtain rfl:cs2=[.int .i64 _,.int .i64 _]:=hr2;refine Zi rfl Tf.f99_0 rfl<|Zf 0 rfl Tf.a3 rfl hA2 rfl<|Za rfl<|Zx rfl<|dE rfl U282 Tf.s3 rfl rfl Yd Yd rfl trivial<|C9 rfl Tf.s3 rfl rfl (.tail (bL.head)) (by simp only[*];omega) trivial<|L.n3<|Zr rfl Tf.a32 rfl hA Tf.s32<|bK rfl Tf.a282 rfl (List.Mem.tail _ (List.Mem.head _)) Yw GT rfl trivial<|Za rfl<|Zc rfl (fun D2 hD2=>B9 t.last t.step hv lv mv (c1.set i (r.1+(k:Int))) pre (r.1+(k:Int)) i _ hto.step hset.1 Yd hl hset.2.1 hpb Yd)<|Za rfl ?_;refine aBH (γ:=Bool×List Int×nY) (fun g=>g.2.1.length=10∧g.2.1.take (i+1)=pre++[r.1+(k:Int)]∧g.2.1.drop t.heights.length=List.replicate (10-t.heights.length) 0∧(if g.1=true then ∃p,g.2.2=Jx p else g.2.2=J (done++CJ t.step (t.heights.drop (i+1)) pre r (k+1)))) (fun g=>g.1) (fun g=>Xj 46 lo g.2.2) (fun g=>fO br bY bc bh g.2.1) [(false,5),(false,6),(false,7),(false,8),(false,9),(false,10)] [] (s:=38) (p:=44) (fun _=>rfl) rfl rfl (fun hg1=>?_) (fun hg1=>?_) ?_
   ·have hnear:jM t.step pre.getLast? (r.1+(k:Int))=true:=by simpa using hg1
    refine aS rfl Tf.a191 rfl (GE _) rfl GT rfl ⟨_,rfl,rfl⟩<|Zb rfl<|nH rfl rfl rfl Yf rfl ⟨_,rfl,rfl⟩<|nZ rfl rfl rfl rfl (ih (j-1) Yd (i+1) (pre++[r.1+(k:Int)]) (c1.set i (r.1+(k:Int))) (done++CJ t.step (t.heights.drop (i+1)) pre r k) (rr++rest) (i+1:Int) Yd Yd Yaf (by simpa using h91) hset.2.1 hset.2.2 hpn (by rw[hxs,hr,GJ hnear];simp)) rfl ⟨_,rfl,rfl⟩ ?_;rintro _ J2 _ ⟨b2,c2,rfl,h9',hp',hz',rfl,hJ2⟩;refine iW rfl rfl rfl ⟨_,rfl,rfl⟩<|Zab rfl ?_;exact zS fun a w hh=>⟨(!b2,c2,J2),⟨h9',hp',hz',by cases b2<;>simp only[aLF,aKQ,aII,aHL,aIL]at hJ2 ⊢;exact hJ2;rw[hJ2,GJ hnear,aGN]⟩,hh.cutK 5 rfl⟩
   ·refine Zk rfl<|Zk rfl<|Zk rfl<|Zk rfl<|Zk rfl<|Zac rfl ?_;exact zS fun a w hh=>⟨(false,c1.set i (r.1+(k:Int)),J (done++CJ t.step (t.heights.drop (i+1)) pre r k)),⟨hset.1,hset.2.1,hset.2.2,by simp only[aHL,aIL];rw[aBG (by simpa using hg1)]⟩,hh.cutK 5 rfl⟩
   rintro⟨b3,c3,J3⟩ ⟨h93,hp3,hz3,hJ3⟩;simp only at h93 hp3 hz3 hJ3;refine L.n1<|aQ rfl (fun hc3=>?_) (fun hc3=>?_)
   ·obtain rfl:b3=true:=by simpa using hc3
    refine C.s1<|Zh rfl<|L.n5<|aG<|Zaj<|Zaj<|aG<|Zaj ?_;exact gM (P:=Tryz.prog) (fn:=Tryz.f221) (N:=46) (vs:=[_]) rfl rfl ⟨rfl,aLJ⟩ (fun D h=>⟨D,h,Le.refl D⟩) ⟨false,c3,rfl,h93,L1.nN hp3 hl,hz3,rfl,by simpa using hJ3⟩
   ·obtain rfl:b3=false:=by simpa using hc3
    refine bR<|Zak<|Zag<|C.rg<|Zx rfl<|Za rfl<|Zz ?_;exact lS 22 (k+1,c3) ⟨by simp only;omega,h93,L1.nN hp3 hl,hz3⟩ Yn (by simpa using hJ3) ⟨Yb,aLJ⟩ rfl rfl (LT _) (aD)
  ·refine aR<|Zai<|Zai<|Zal<|Zag<|C.s1<|Zh rfl<|L.n5 ?_;exact gM (P:=Tryz.prog) (fn:=Tryz.f221) (N:=46) (vs:=[_]) rfl rfl ⟨rfl,aLJ⟩ (fun D h=>⟨D,h,Le.refl D⟩) ⟨true,c1,rfl,h91,hp1,hz1,rfl,by simp only[aII];rw[hd,←IH,show k=(eS r).toNat by omega]⟩
theorem MU(t:aZ)(Dr:aA)(br:Nat)(hv lv mv:Value)(hto:n9 t)(hA:At Dr br 0 [.int .i64 t.last,hv,.int .i64 t.step,lv,mv])(hpl:Sl Dr A1 2 hv t.heights):
  sK Tryz.prog 220 [.pointer (some ⟨br,0,none⟩)] Dr ((fC t).map cK) f8:=by
 refine yF 8 Tryz.func220 rfl rfl rfl rfl (fun lo l J Jx hs hsx hY=>C.s1<|Zv rfl (fun q1 E1 hE1 hB1=>L.n3<|Zw rfl Tf.z282 rfl (fun q2=>L.n3<|Zw rfl Tf.z191 rfl (fun q3=>L.n3<|bB rfl rfl rfl rfl trivial<|Zn rfl Tf.s191 (bL.head) rfl<|L.n1<|C.rg ?_))));refine Zl rfl Tf.a191 rfl (List.Mem.head _) rfl<|nZ rfl rfl rfl rfl (pS (l:=l) hto hs hsx hY Ye Ye hA hpl hB1 t.heights.length 0 [] (List.replicate 10 0) [] [] 0 rfl Yd rfl rfl rfl (List.drop_replicate ..) (fun x hx=>by cases hx) (by simp[fC])) rfl aLJ ?_;rintro _ J2 _ ⟨b2,c2,rfl,h9',hp',hz',rfl,hJ2⟩;refine Zz ?_;exact gM (P:=Tryz.prog) (fn:=Tryz.f220) (N:=8) (vs:=[]) rfl rfl aLJ (fun D h=>⟨D,by simp only[aGU]at h;subst h;simp,Le.refl D⟩) (by cases b2<;>simp[fC]at hJ2 ⊢;exact aGH hJ2;exact aGR hJ2)
theorem BX(tv:Value)(t:aZ)(D:aA)(ht:gL D tv t)(hto:n9 t):
  Fn Tryz.prog 138 #[tv] D (fun D' v=>∃br,v=.func (.func 220) #[] #[.pointer (some ⟨br,0,none⟩)]∧sK Tryz.prog 220 [.pointer (some ⟨br,0,none⟩)] D' ((fC t).map cK) f8):=by
 obtain⟨hv,lv,mv,rfl,hh,hl,hm⟩:=ht;refine enter 4 Tryz.func138 rfl rfl rfl rfl fun h0=>C.s1<|Zv rfl (fun q1 E1 hE1 hB1=>Zh rfl<|L.n3<|bB rfl rfl rfl rfl trivial<|Zh rfl<|L.n5 ?_)
 exact leave1 rfl rfl rfl rfl (fun D hD=>⟨_,rfl,MU t _ q1 hv lv mv hto (hB1.up (hD _ Ye)) (hh.up A1.up (hD _ Ye))⟩)
end L2
end Go.Fs
namespace Go.Fs
open Go.Proofs
namespace L7
open C7
theorem gT{α:Type}{p:α→Bool}{xs:List α}{k:Nat}{x:α}(hx:xs[k]?= some x)(h:(xs.take k).any p=false)(hp:p x=true):idxOf p xs=k:=by
 have hk:=(aGJ.1 hx).1;have he:=(aGJ.1 hx).2;have h1:xs.any p=true:=aLH.2 ⟨x,aGD hx,hp⟩;have h2:xs.findIdx p=k:=by
  rw[List.findIdx_eq hk];refine⟨by rw[he];exact hp,fun j hj=>?_⟩
  have:=List.any_eq_false.1 h (xs[j]'Yd) (by
   rw[List.mem_take_iff_getElem];exact⟨j,by omega,rfl⟩)
  simpa using this
 simp[idxOf,h1,h2]
theorem eQ{α:Type}{p:α→Bool}{xs:List α}(h:xs.any p=false):idxOf p xs= -1:=by simp[idxOf,h]
theorem gS{α:Type}{p:α→Bool}{xs:List α}:decide (0≤idxOf p xs)=xs.any p:=by
 unfold idxOf;cases h:xs.any p<;>simp
theorem jW{α:Type}{p:α→Bool}{xs:List α}:(!xs.any fun x=> !p x)=xs.all p:=by
 rw[List.all_eq_not_any_not]
theorem dG(n lo hi:Int)(D:aA):Fn Tryz.prog 157 #[.int .i64 n,.int .i64 lo,.int .i64 hi] D (fun _ v=>v=.bool (fL n lo hi)):=by
 refine enter 15 Tryz.func157 rfl rfl rfl rfl fun h0=>C.s1<|Zh rfl<|L.n3<|Za rfl<|Za rfl<|hP rfl rfl rfl rfl trivial<|Za rfl ?_
 refine' L.anK 4 (s:=10) (p:=14) rfl (fun hg1=>?_) (fun hg1=>?_) ?_;rotate_left
 ·refine Zb rfl<|Zb rfl<|hP rfl rfl rfl rfl ⟨_,rfl,rfl⟩<|Zab rfl ?_;exact L.cu 3
 ·refine Zk rfl<|Zk rfl<|Zk rfl<|Zac rfl ?_;exact L.cu 3
 refine Zh rfl<|L.n5 ?_;exact leave1 rfl rfl rfl rfl (fun D hD=>rfl)
theorem oS(sv fv:Value)(xs:List Int)(p:Int→Bool)(D:aA)(hS:Sl D RI 1 sv xs)(hp:cD Tryz.prog D iV fv p):
  Fn Tryz.prog 271 #[sv,fv] D (fun _ v=>v=.int .i64 (idxOf p xs)):=by
 have hl:=hS.len;obtain⟨f,c1,c2,rfl,hf⟩:=hp;refine enter 19 Tryz.func271 rfl rfl rfl rfl fun h0=>C.s1<|Zh rfl<|L.n4<|Za rfl<|aV rfl U25 rfl Yk rfl rfl trivial<|Za rfl<|L.n1<|Zah<|cG (γ:=Nat) (fun k=>xs.length-k) (fun k=>k≤xs.length∧(xs.take k).any p=false) (fun k=>[(8,.int .i64 k)]) [(7,_),(4,_),(0,_),(1,_)] (fun k=>[D]) 0 Ye ⟨Yb,aLJ⟩ C.rs (aD) ?_
 rintro k ⟨h1,h2⟩;refine C.s1<|Zad rfl<|L.n2<|aE rfl (fun hc1=>?_) (fun hc1=>?_)
 ·have hk:k<xs.length:=by omega
  obtain⟨x,hx⟩:=C.ge xs k;refine C.kn<|aL<|Zah<|C.s1<|Za rfl<|Zh rfl<|L.n3<|Za rfl<|Za rfl<|Za rfl<|cR rfl U25 Tf.s3 rfl Yk rfl Yd Yk rfl aLJ (fun b1 o1 cs1 hr1 hcl1 hA1=>?_);obtain rfl:cs1=[.int .i64 _]:=hr1;refine Zf 0 rfl Tf.a3 rfl hA1 rfl<|Zc rfl (fun D1 hD1=>hf x _ (hD1 _ Ye))<|L.n1<|aQ rfl (fun hc2=>?_) (fun hc2=>?_)
  ·refine C.s1<|Za rfl<|Zh rfl<|L.n5<|aG<|Zaj<|Zaj<|aG<|Zaj ?_;exact leave1 rfl rfl rfl rfl (fun D hD=>by show Value.int _ _=_;rw[gT hx h2 hc2])
  ·refine bR<|Zak<|Zag<|C.rg<|Zx rfl<|Za rfl<|Zz ?_;have hpx:p x=false:=hc2;have h3:(xs.take (k+1)).any p=false:=by rw[aGT,hx,aJQ,h2];simp[hpx]
   exact aH 12 (k+1) ⟨by omega,h3⟩ Yd ⟨Yb,aLJ⟩ rfl rfl (LT _) (aD)
 ·refine aR<|Zai<|Zai<|Zal<|Zag<|C.s1<|Zh rfl<|L.n5 ?_;exact leave1 rfl rfl rfl rfl (fun D hD=>by show Value.int _ _=_;rw[eQ Yab])
theorem jD(sv fv:Value)(xs:List Int)(p:Int→Bool)(D:aA)(hS:Sl D RI 1 sv xs)(hp:cD Tryz.prog D iV fv p):
  Fn Tryz.prog 206 #[sv,fv] D (fun _ v=>v=.bool (xs.any p)):=by
 refine enter 9 Tryz.func206 rfl rfl rfl rfl fun h0=>C.s1<|Zh rfl<|L.n3<|Za rfl<|Za rfl<|Zc rfl (fun D1 hD1=>oS _ _ xs p _ (Sl.at RI.up hD1 Yk Ye) (hp.up (hD1 _ Ye)))<|nJ rfl rfl rfl rfl trivial<|Zh rfl<|L.n5 ?_
 exact leave1 rfl rfl rfl rfl (fun D hD=>by show Value.bool (decide _)=_;rw[gS])
theorem sT(b:Nat)(fv:Value)(p:Int→Bool)(x:Int)(D:aA)(hp:cD Tryz.prog D iV fv p)(hB:At D b 0 [fv]):
  Fn Tryz.prog 300 #[iV x,.pointer (some ⟨b,0,none⟩)] D (fun _ v=>v=.bool (!p x)):=by
 obtain⟨f,c1,c2,rfl,hf⟩:=hp;refine enter 8 Tryz.func300 rfl rfl rfl rfl fun h0=>C.s1<|Zh rfl<|L.n3<|Zf 0 rfl Tf.a191 rfl hB rfl<|Za rfl<|Zc rfl (fun D1 hD1=>hf x _ (hD1 _ Ye))<|Zaf rfl<|Zh rfl<|L.n5 ?_
 exact leave1 rfl rfl rfl rfl (fun D hD=>rfl)
theorem xL(sv fv:Value)(xs:List Int)(p:Int→Bool)(D:aA)(hS:Sl D RI 1 sv xs)(hp:cD Tryz.prog D iV fv p)(h1:fv.cells=#[fv]):
  Fn Tryz.prog 283 #[sv,fv] D (fun _ v=>v=.bool (xs.all p)):=by
 refine enter 9 Tryz.func283 rfl rfl rfl rfl fun h0=>C.s1<|mA (vs:=[fv]) rfl rfl h1 rfl aLJ (fun b D1 hD1 hB=>Zh rfl<|L.n3<|Za rfl<|bB rfl rfl rfl rfl trivial<|Zc rfl (fun D1 hD1=>jD _ _ xs (fun x=> !p x) _ (Sl.at RI.up hD1 Yk Ye) ⟨_,[],[.pointer (some ⟨b,0,none⟩)],rfl,fun x D2 hl=>sT b fv p x D2 (hp.up ((hD1 _ Ye).trans hl)) (hB.up ((hD1 _ Ye).trans hl))⟩)<|Zaf rfl<|Zh rfl<|L.n5 ?_)
 exact leave1 rfl rfl rfl rfl (fun D hD=>by show Value.bool (!_)=_;rw[jW])
theorem oP(sv fv:Value)(xs:List Ch)(p:Ch→Bool)(D:aA)(hS:Sl D rC 4 sv xs)(hp:cD Tryz.prog D aDU fv p):
  Fn Tryz.prog 282 #[sv,fv] D (fun _ v=>v=.int .i64 (idxOf p xs)):=by
 have hl:=hS.len;obtain⟨f,c1,c2,rfl,hf⟩:=hp;refine enter 19 Tryz.func282 rfl rfl rfl rfl fun h0=>C.s1<|Zh rfl<|L.n4<|Za rfl<|aV rfl U37 rfl Yk rfl rfl trivial<|Za rfl<|L.n1<|Zah<|cG (γ:=Nat) (fun k=>xs.length-k) (fun k=>k≤xs.length∧(xs.take k).any p=false) (fun k=>[(8,.int .i64 k)]) [(7,_),(4,_),(0,_),(1,_)] (fun k=>[D]) 0 Ye ⟨Yb,aLJ⟩ C.rs (aD) ?_
 rintro k ⟨h1,h2⟩;refine C.s1<|Zad rfl<|L.n2<|aE rfl (fun hc1=>?_) (fun hc1=>?_)
 ·have hk:k<xs.length:=by omega
  obtain⟨x,hx⟩:=C.ge xs k;refine C.kn<|aL<|Zah<|C.s1<|Za rfl<|Zh rfl<|L.n3<|Za rfl<|Za rfl<|Za rfl<|cR rfl U37 Tf.s103 rfl Yk rfl Yd Yk rfl aLJ (fun b1 o1 cs1 hr1 hcl1 hA1=>?_);obtain rfl:cs1=[.int .i64 _,.int .i64 _,.int .i64 _,.int .i64 _]:=hr1;refine Zr rfl Tf.a103 rfl hA1 Tf.s103<|Zc rfl (fun D1 hD1=>hf x _ (hD1 _ Ye))<|L.n1<|aQ rfl (fun hc2=>?_) (fun hc2=>?_)
  ·refine C.s1<|Za rfl<|Zh rfl<|L.n5<|aG<|Zaj<|Zaj<|aG<|Zaj ?_;exact leave1 rfl rfl rfl rfl (fun D hD=>by show Value.int _ _=_;rw[gT hx h2 hc2])
  ·refine bR<|Zak<|Zag<|C.rg<|Zx rfl<|Za rfl<|Zz ?_;have hpx:p x=false:=hc2;have h3:(xs.take (k+1)).any p=false:=by rw[aGT,hx,aJQ,h2];simp[hpx]
   exact aH 12 (k+1) ⟨by omega,h3⟩ Yd ⟨Yb,aLJ⟩ rfl rfl (LT _) (aD)
 ·refine aR<|Zai<|Zai<|Zal<|Zag<|C.s1<|Zh rfl<|L.n5 ?_;exact leave1 rfl rfl rfl rfl (fun D hD=>by show Value.int _ _=_;rw[eQ Yab])
theorem lA(sv fv:Value)(xs:List Ch)(p:Ch→Bool)(D:aA)(hS:Sl D rC 4 sv xs)(hp:cD Tryz.prog D aDU fv p):
  Fn Tryz.prog 236 #[sv,fv] D (fun _ v=>v=.bool (xs.any p)):=by
 refine enter 9 Tryz.func236 rfl rfl rfl rfl fun h0=>C.s1<|Zh rfl<|L.n3<|Za rfl<|Za rfl<|Zc rfl (fun D1 hD1=>oP _ _ xs p _ (Sl.at rC.up hD1 Yk Ye) (hp.up (hD1 _ Ye)))<|nJ rfl rfl rfl rfl trivial<|Zh rfl<|L.n5 ?_
 exact leave1 rfl rfl rfl rfl (fun D hD=>by show Value.bool (decide _)=_;rw[gS])
theorem G6(b:Nat)(fv:Value)(p:Ch→Bool)(x:Ch)(D:aA)(hp:cD Tryz.prog D aDU fv p)(hB:At D b 0 [fv]):
  Fn Tryz.prog 237 #[aDU x,.pointer (some ⟨b,0,none⟩)] D (fun _ v=>v=.bool (!p x)):=by
 obtain⟨f,c1,c2,rfl,hf⟩:=hp;refine enter 8 Tryz.func237 rfl rfl rfl rfl fun h0=>C.s1<|Zv rfl (fun q1 E1 hE1 hB1=>Zh rfl<|L.n3<|Zf 0 rfl Tf.a307 rfl hB rfl<|Zr rfl Tf.a103 rfl hB1 Tf.s103<|Zc rfl (fun D1 hD1=>hf x _ (hD1 _ Ye))<|Zaf rfl<|Zh rfl<|L.n5 ?_)
 exact leave1 rfl rfl rfl rfl (fun D hD=>rfl)
theorem m9(sv fv:Value)(xs:List Ch)(p:Ch→Bool)(D:aA)(hS:Sl D rC 4 sv xs)(hp:cD Tryz.prog D aDU fv p)(h1:fv.cells=#[fv]):
  Fn Tryz.prog 158 #[sv,fv] D (fun _ v=>v=.bool (xs.all p)):=by
 refine enter 9 Tryz.func158 rfl rfl rfl rfl fun h0=>C.s1<|mA (vs:=[fv]) rfl rfl h1 rfl aLJ (fun b D1 hD1 hB=>Zh rfl<|L.n3<|Za rfl<|bB rfl rfl rfl rfl trivial<|Zc rfl (fun D1 hD1=>lA _ _ xs (fun x=> !p x) _ (Sl.at rC.up hD1 Yk Ye) ⟨_,[],[.pointer (some ⟨b,0,none⟩)],rfl,fun x D2 hl=>G6 b fv p x D2 (hp.up ((hD1 _ Ye).trans hl)) (hB.up ((hD1 _ Ye).trans hl))⟩)<|Zaf rfl<|Zh rfl<|L.n5 ?_)
 exact leave1 rfl rfl rfl rfl (fun D hD=>by show Value.bool (!_)=_;rw[jW])
theorem oR(sv fv:Value)(xs:List (Int×Int))(p:(Int×Int)→Bool)(D:aA)(hS:Sl D R2 2 sv xs)(hp:cD Tryz.prog D iL fv p):
  Fn Tryz.prog 285 #[sv,fv] D (fun _ v=>v=.int .i64 (idxOf p xs)):=by
 have hl:=hS.len;obtain⟨f,c1,c2,rfl,hf⟩:=hp;refine enter 19 Tryz.func285 rfl rfl rfl rfl fun h0=>C.s1<|Zh rfl<|L.n4<|Za rfl<|aV rfl U38 rfl Yk rfl rfl trivial<|Za rfl<|L.n1<|Zah<|cG (γ:=Nat) (fun k=>xs.length-k) (fun k=>k≤xs.length∧(xs.take k).any p=false) (fun k=>[(8,.int .i64 k)]) [(7,_),(4,_),(0,_),(1,_)] (fun k=>[D]) 0 Ye ⟨Yb,aLJ⟩ C.rs (aD) ?_
 rintro k ⟨h1,h2⟩;refine C.s1<|Zad rfl<|L.n2<|aE rfl (fun hc1=>?_) (fun hc1=>?_)
 ·have hk:k<xs.length:=by omega
  obtain⟨x,hx⟩:=C.ge xs k;refine C.kn<|aL<|Zah<|C.s1<|Za rfl<|Zh rfl<|L.n3<|Za rfl<|Za rfl<|Za rfl<|cR rfl U38 Tf.s133 rfl Yk rfl Yd Yk rfl aLJ (fun b1 o1 cs1 hr1 hcl1 hA1=>?_);obtain rfl:cs1=[.int .i64 _,.int .i64 _]:=hr1;refine Zr rfl Tf.a133 rfl hA1 Tf.s133<|Zc rfl (fun D1 hD1=>hf x _ (hD1 _ Ye))<|L.n1<|aQ rfl (fun hc2=>?_) (fun hc2=>?_)
  ·refine C.s1<|Za rfl<|Zh rfl<|L.n5<|aG<|Zaj<|Zaj<|aG<|Zaj ?_;exact leave1 rfl rfl rfl rfl (fun D hD=>by show Value.int _ _=_;rw[gT hx h2 hc2])
  ·refine bR<|Zak<|Zag<|C.rg<|Zx rfl<|Za rfl<|Zz ?_;have hpx:p x=false:=hc2;have h3:(xs.take (k+1)).any p=false:=by rw[aGT,hx,aJQ,h2];simp[hpx]
   exact aH 12 (k+1) ⟨by omega,h3⟩ Yd ⟨Yb,aLJ⟩ rfl rfl (LT _) (aD)
 ·refine aR<|Zai<|Zai<|Zal<|Zag<|C.s1<|Zh rfl<|L.n5 ?_;exact leave1 rfl rfl rfl rfl (fun D hD=>by show Value.int _ _=_;rw[eQ Yab])
theorem kZ(sv fv:Value)(xs:List (Int×Int))(p:(Int×Int)→Bool)(D:aA)(hS:Sl D R2 2 sv xs)(hp:cD Tryz.prog D iL fv p):
  Fn Tryz.prog 239 #[sv,fv] D (fun _ v=>v=.bool (xs.any p)):=by
 refine enter 9 Tryz.func239 rfl rfl rfl rfl fun h0=>C.s1<|Zh rfl<|L.n3<|Za rfl<|Za rfl<|Zc rfl (fun D1 hD1=>oR _ _ xs p _ (Sl.at R2.up hD1 Yk Ye) (hp.up (hD1 _ Ye)))<|nJ rfl rfl rfl rfl trivial<|Zh rfl<|L.n5 ?_
 exact leave1 rfl rfl rfl rfl (fun D hD=>by show Value.bool (decide _)=_;rw[gS])
theorem P7(b:Nat)(fv:Value)(p:(Int×Int)→Bool)(x:(Int×Int))(D:aA)(hp:cD Tryz.prog D iL fv p)(hB:At D b 0 [fv]):
  Fn Tryz.prog 240 #[iL x,.pointer (some ⟨b,0,none⟩)] D (fun _ v=>v=.bool (!p x)):=by
 obtain⟨f,c1,c2,rfl,hf⟩:=hp;refine enter 8 Tryz.func240 rfl rfl rfl rfl fun h0=>C.s1<|Zv rfl (fun q1 E1 hE1 hB1=>Zh rfl<|L.n3<|Zf 0 rfl Tf.a305 rfl hB rfl<|Zr rfl Tf.a133 rfl hB1 Tf.s133<|Zc rfl (fun D1 hD1=>hf x _ (hD1 _ Ye))<|Zaf rfl<|Zh rfl<|L.n5 ?_)
 exact leave1 rfl rfl rfl rfl (fun D hD=>rfl)
theorem g8(sv fv:Value)(xs:List (Int×Int))(p:(Int×Int)→Bool)(D:aA)(hS:Sl D R2 2 sv xs)(hp:cD Tryz.prog D iL fv p)(h1:fv.cells=#[fv]):
  Fn Tryz.prog 160 #[sv,fv] D (fun _ v=>v=.bool (xs.all p)):=by
 refine enter 9 Tryz.func160 rfl rfl rfl rfl fun h0=>C.s1<|mA (vs:=[fv]) rfl rfl h1 rfl aLJ (fun b D1 hD1 hB=>Zh rfl<|L.n3<|Za rfl<|bB rfl rfl rfl rfl trivial<|Zc rfl (fun D1 hD1=>kZ _ _ xs (fun x=> !p x) _ (Sl.at R2.up hD1 Yk Ye) ⟨_,[],[.pointer (some ⟨b,0,none⟩)],rfl,fun x D2 hl=>P7 b fv p x D2 (hp.up ((hD1 _ Ye).trans hl)) (hB.up ((hD1 _ Ye).trans hl))⟩)<|Zaf rfl<|Zh rfl<|L.n5 ?_)
 exact leave1 rfl rfl rfl rfl (fun D hD=>by show Value.bool (!_)=_;rw[jW])
theorem I3(sv:Value)(x:Int)(xs:List Int)(D:aA)(hS:Sl D RI 1 sv (x::xs)):
  Fn Tryz.prog 211 #[sv] D (fun _ v=>v=.int .i64 (xs.foldl min x)):=by
 have hl:=hS.len;simp only[aGM]at hl;refine enter 25 Tryz.func211 rfl rfl rfl rfl fun h0=>C.s1<|Zh rfl<|L.n4<|Za rfl<|aV rfl U25 rfl Yk rfl rfl trivial<|Zad rfl<|L.n1<|aE rfl (fun hc1=>?_) (fun hc1=>?_)
 ·exact absurd hc1 (by simp only[aGM];omega)
 ·refine C.kn<|C.s1<|Za rfl<|cR rfl U25 Tf.s3 rfl Yk rfl Yd (by rfl) rfl aLJ (fun b1 o1 cs1 hr1 hcl1 hA1=>?_);obtain rfl:cs1=[.int .i64 _]:=hr1;refine Zf 0 rfl Tf.a3 rfl hA1 rfl<|Zh rfl<|L.n4<|Zh rfl<|L.n1<|Zah<|cG (γ:=Nat) (fun k=>xs.length-k) (fun k=>k≤xs.length) (fun k=>[(3,.int .i64 ((xs.take k).foldl min x)),(4,.int .i64 (k+1:Int))]) [(2,_),(0,_)] (fun k=>[D]) 0 Yd ⟨Yb,Yb,aLJ⟩ C.rs (aD) ?_;rintro k h1;refine C.s2<|Za rfl<|Za rfl<|aV rfl U25 rfl Yk rfl rfl trivial<|Zad rfl<|L.n1<|aE rfl (fun hc2=>?_) (fun hc2=>?_)
  ·simp only[aGM]at hc2;have hk:k<xs.length:=by omega
   obtain⟨y,hy⟩:=C.ge xs k;have hy2:(x::xs)[(k+1:Int).toNat]?= some y:=by rw[show((k:Int)+1).toNat=k+1 by omega];simpa using hy
   refine C.kn<|aL<|Zah<|C.rg<|Za rfl<|Za rfl<|Za rfl<|cR rfl U25 Tf.s3 rfl Yk rfl Yd Yk rfl aLJ (fun b2 o2 cs2 hr2 hcl2 hA2=>?_);obtain rfl:cs2=[.int .i64 _]:=hr2;refine Zf 0 rfl Tf.a3 rfl hA2 rfl<|RV rfl rfl rfl rfl trivial<|Zh rfl<|Zz<|Zak<|Zag<|C.rg<|Za rfl<|Zx rfl<|Zh rfl<|Zz ?_;have h3:(xs.take (k+1)).foldl min x=min ((xs.take k).foldl min x) y:=by rw[aGT,hy,aIG];rfl
   exact aH 16 (k+1) Yd Yd ⟨(by rw[h3];rfl),Yb,aLJ⟩ rfl rfl (LT _) (aD)
  ·simp only[aGM]at hc2;refine aR<|Zai<|Zai<|Zal<|Zag<|C.s1<|Za rfl<|Zh rfl<|L.n5 ?_;exact leave1 rfl rfl rfl rfl (fun D hD=>by show Value.int _ _=_;rw[aHE Yd])
theorem iT(sv:Value)(x:Int)(xs:List Int)(D:aA)(hS:Sl D RI 1 sv (x::xs)):
  Fn Tryz.prog 165 #[sv] D (fun _ v=>v=.int .i64 (xs.foldl min x)):=by
 refine enter 5 Tryz.func165 rfl rfl rfl rfl fun h0=>C.s1<|Zh rfl<|L.n3<|Za rfl<|Zc rfl (fun D1 hD1=>I3 _ x xs _ (Sl.at RI.up hD1 Yk Ye))<|Zh rfl<|L.n5 ?_
 exact leave1 rfl rfl rfl rfl (fun D hD=>rfl)
end L7
end Go.Fs
namespace Go.Fs
open Go.Proofs
namespace L7
open C7
theorem XZ{p:Pt}:(p.l== [1,1,1])=iJ p:=by
 obtain⟨a,b,c⟩:=p;simp only[iJ,Pt.l,Pt.mk.injEq];rw[aJO];simp
theorem RR{m k i:Nat}(hk:m.testBit k=true)(h1:i≤k)(h:((m >>> i:Nat):Int)%2=0):i+1≤k:=by
 rw[jR]at h;have:i≠k:=by rintro rfl;rw[hk]at h;simp at h
 omega
theorem XI{m k i:Nat}(hl:∀i,i<k→m.testBit i=false)(h1:i≤k)(h:¬((m >>> i:Nat):Int)%2=0):i=k:=by
 rw[jR]at h;by_cases hi:i<k
 ·rw[hl i hi]at h;simp at h
 ·omega
theorem K6(r:Int×Int)(n:Int)(D:aA):Fn Tryz.prog 246 #[iL r,.int .i64 n] D (fun _ v=>v=.bool (fL n r.1 r.2)):=by
 refine enter 11 Tryz.func246 rfl rfl rfl rfl fun h0=>C.s1<|Zv rfl (fun q1 E1 hE1 hB1=>Zh rfl<|L.n3<|Za rfl<|Zi rfl Tf.f133_0 rfl<|Zf 0 rfl Tf.a3 rfl hB1 rfl<|Zi rfl Tf.f133_1 rfl<|Zf 1 rfl Tf.a3 rfl hB1 rfl<|Zc rfl (fun D1 hD1=>dG _ _ _ _)<|Zh rfl ?_);refine L.n5 ?_
 exact leave1 rfl rfl rfl rfl (fun D hD=>rfl)
theorem nU(r:Int×Int)(n:Int)(D:aA):Fn Tryz.prog 99 #[iL r,.int .i64 n] D (fun _ v=>v=iL (min r.1 n,max r.2 n)):=by
 refine enter 15 Tryz.func99 rfl rfl rfl rfl fun h0=>C.s1<|Zv rfl (fun q1 E1 hE1 hB1=>Zw rfl Tf.z133 rfl (fun q2=>L.n2<|iS [] 4 [0,1,2,5,6,7,8,3,4,9,10] [false,false,true,true,true,true,true,true,true,false,false] [(false,0),(false,1),(true,2),(true,5),(true,6),(true,7),(true,8),(true,3),(true,4),(false,9),(false,10)] Tf.follows (fun _ _ _ h=>bZ (P:=Tryz.prog) (fn:=Tryz.f99) _ _ _ h) Yg rfl<|Zi rfl Tf.f133_0 rfl<|Zf 0 rfl Tf.a3 rfl hB1 rfl<|Za rfl<|Zi rfl Tf.f133_1 rfl<|Zf 1 rfl Tf.a3 rfl hB1 rfl<|Za rfl ?_));refine oW rfl rfl rfl rfl trivial<|Zp rfl U25 Tf.s3 Tf.z3 rfl rfl rfl rfl (.cons rfl rfl (.cons rfl rfl .nil)) (fun b901 D901 hD901 hA901=>?_)
 have hS901:=Sl.ofInts (l:=[_,_]) (n:=2) (cap:=2) hA901 rfl Yd Yd;refine Zc rfl (fun D1 hD1=>iT _ r.1 [n] _ (hS901.up RI.up (hD1 _ Ye)))<|Zq [.int .i64 (min r.1 n),.int .i64 (max r.2 n)] rfl Tf.p133 Tf.z133 rfl rfl<|Zu rfl Tf.s133 (bL.head)<|L.n5 ?_;exact Zm [_] rfl ⟨⟨_,_,_,rfl,(List.Mem.head _),Or.inr ⟨Tf.a133,(by first|exact Tf.s133|(simp only[aHK,aI, *];exact Tf.s133)),rfl⟩⟩,aLJ⟩ (fun D hD=>rfl)
theorem MO(n m:Int)(b:Nat)(D:aA)(hB:At D b 0 [.int .i64 m]):Fn Tryz.prog 284 #[.int .i64 n,.pointer (some ⟨b,0,none⟩)] D (fun _ v=>v=.bool (fL n 0 m)):=by
 refine enter 7 Tryz.func284 rfl rfl rfl rfl fun h0=>C.s1<|Zh rfl<|L.n3<|Za rfl<|Zf 0 rfl Tf.a3 rfl hB rfl<|Zc rfl (fun D1 hD1=>dG _ _ _ _)<|Zh rfl<|L.n5 ?_
 exact leave1 rfl rfl rfl rfl (fun D hD=>rfl)
theorem VL(p:Pt)(m:Int)(D:aA):Fn Tryz.prog 238 #[aFF p,.int .i64 m] D (fun _ v=>v=.bool (IY p m)):=by
 refine enter 8 Tryz.func238 rfl rfl rfl rfl fun h0=>C.s1<|Zv rfl (fun q1 E1 hE1 hB1=>Zv rfl (fun q2 E2 hE2 hB2=>Zh rfl<|L.n3<|VS rfl U101 Tf.s3 rfl rfl trivial<|bB rfl rfl rfl rfl trivial<|Zc rfl (fun D1 hD1=>xL _ _ p.l (fun x=>fL x 0 m) _ (Sl.ofInts (l:=p.l) (n:=3) (cap:=3) (hB1.up (hD1 _ Ye)) rfl Yd Yd) ⟨_,[],[_],rfl,fun x D2 hl=>MO x m q2 D2 (hB2.up ((hD1 _ Ye).trans hl))⟩ rfl)<|Zh rfl<|L.n5 ?_))
 exact leave1 rfl rfl rfl rfl (fun D hD=>rfl)
theorem R0(c:Ch)(D:aA):Fn Tryz.prog 159 #[aDU c] D (fun _ v=>v=.bool (hC c)):=by
 refine enter 11 Tryz.func159 rfl rfl rfl rfl fun h0=>C.s1<|Zv rfl (fun q1 E1 hE1 hB1=>Zh rfl<|L.n3<|Zi rfl Tf.f103_0 rfl<|Zf 0 rfl Tf.a3 rfl hB1 rfl<|Zc rfl (fun D1 hD1=>dG _ _ _ _)<|Za rfl ?_)
 refine' L.anK 4 (s:=6) (p:=10) rfl (fun hg1=>?_) (fun hg1=>?_) ?_;rotate_left
 ·refine Zj rfl Tf.f103_1 rfl<|eP rfl (k:=1) Tf.a101 Tf.s101 rfl hB1 Yc rfl rfl GT rfl ⟨_,rfl,rfl⟩<|Zd rfl (fun D2 hD2=>VL c.parts 2 _)<|Zab rfl ?_;exact L.cu 3
 ·refine Zk rfl<|Zk rfl<|Zk rfl<|Zac rfl ?_;exact L.cu 3
 refine Zh rfl<|L.n5 ?_;exact leave1 rfl rfl rfl rfl (fun D hD=>rfl)
theorem TY(yv:Value)(y:bI)(r:Int×Int)(D:aA)(hy:lE D yv y):Fn Tryz.prog 156 #[yv,iL r] D (fun _ v=>v=.bool (kM r)):=by
 obtain⟨cv,qv,rfl,hc,hq⟩:=hy;refine enter 20 Tryz.func156 rfl rfl rfl rfl fun h0=>C.s1<|Zv rfl (fun q1 E1 hE1 hB1=>Zv rfl (fun q2 E2 hE2 hB2=>Zh rfl<|L.n3<|Zi rfl Tf.f133_0 rfl<|Zf 0 rfl Tf.a3 rfl hB2 rfl<|hP rfl rfl rfl rfl trivial<|Za rfl ?_))
 refine' L.anK 6 (s:=8) (p:=14) rfl (fun hg1=>?_) (fun hg1=>?_) ?_;rotate_left
 ·refine Zj rfl Tf.f133_0 rfl<|Zg 0 rfl Tf.a3 rfl hB2 rfl<|Zj rfl Tf.f133_1 rfl<|Zg 1 rfl Tf.a3 rfl hB2 rfl<|hP rfl rfl rfl rfl ⟨_,rfl,rfl⟩<|Zab rfl ?_;exact L.cu 5
 ·refine Zk rfl<|Zk rfl<|Zk rfl<|Zk rfl<|Zk rfl<|Zac rfl ?_;exact L.cu 5
 refine Za rfl ?_;refine' L.anK 4 (s:=15) (p:=19) rfl (fun hg2=>?_) (fun hg2=>?_) ?_;rotate_left
 ·refine Zj rfl Tf.f133_1 rfl<|Zg 1 rfl Tf.a3 rfl hB2 rfl<|hP rfl rfl rfl rfl ⟨_,rfl,rfl⟩<|Zab rfl ?_;exact L.cu 3
 ·refine Zk rfl<|Zk rfl<|Zk rfl<|Zac rfl ?_;exact L.cu 3
 refine Zh rfl<|L.n5 ?_;exact leave1 rfl rfl rfl rfl (fun D hD=>rfl)
theorem qF(p:Pt)(D:aA):Fn Tryz.prog 243 #[aFF p] D (fun _ v=>v=.bool (iJ p)):=by
 refine enter 6 Tryz.func243 rfl rfl rfl rfl fun h0=>C.s1<|Zv rfl (fun q1 E1 hE1 hB1=>Zh rfl<|L.n3<|cO rfl Tf.a101 rfl hB1 Yc Yy GT rfl trivial<|xD (cs:=[.int .i64 1,.int .i64 1,.int .i64 1]) rfl U101 Tf.s3 Tf.z101 rfl rfl rfl trivial<|EU (l:=p.l) (m:=[1,1,1]) rfl Yg U101 U3 Yg rfl rfl rfl rfl rfl trivial<|Zh rfl<|L.n5 ?_)
 exact leave1 rfl rfl rfl rfl (fun D hD=>by show Value.bool _=_;rw[XZ])
theorem MC(m k:Nat)(D:aA)(hk:m.testBit k=true)(hk2:k≤60)(hl:∀i,i<k→m.testBit i=false):Fn Tryz.prog 286 #[.int .i64 (m:Int)] D (fun _ v=>v=.int .i64 (k:Int)):=by
 refine enter 11 Tryz.func286 rfl rfl rfl rfl fun h0=>C.s1<|Zh rfl<|L.n2<|Zah<|cG (γ:=Nat) (fun i=>k-i) (fun i=>i≤k) (fun i=>[(2,.int .i64 (i:Int))]) [(0,_)] (fun i=>[D]) 0 Yd ⟨Yb,aLJ⟩ ⟨rfl,aLJ⟩ (aD) ?_
 rintro i h1;refine C.s2<|Za rfl<|Za rfl<|G7 rfl rfl rfl Yd rfl trivial<|pK rfl rfl rfl (Int.natCast_nonneg _) Yd (by rw[jR];split<;>simp only[rJ]<;>omega) rfl trivial<|dK rfl rfl rfl rfl trivial<|L.n1<|aE rfl (fun hc1=>?_) (fun hc1=>?_)
 ·refine C.kn<|Zah<|C.rg<|Za rfl<|Zx rfl<|Zh rfl<|Zz<|Zak ?_;exact aH 9 (i+1) (RR hk h1 hc1) (by have:=RR hk h1 hc1;omega) ⟨Yb,aLJ⟩ rfl rfl (LT _) (aD)
 ·obtain rfl:=XI hl h1 hc1;refine aR<|Zai<|Zai<|Zal<|Zag<|C.s1<|Za rfl<|Zh rfl<|L.n5 ?_;exact leave1 rfl rfl rfl rfl (fun D hD=>rfl)
end L7
end Go.Fs
