/- Of the proof of BookWider: AW5, AW6, AW7, AW8, MapK, Eqs, UW1, MapV, Range, UW2, SW1, SW2, SW3, SW4. -/
import Derived.Test.YtdjdcpieiedfgaaGreatDoorZBookWiderAD
import Derived.Test.YtdjdcpieiedfgaaGreatDoorZBookWiderAC
import Derived.Maps.RangeRun
namespace Go.Fs
open Go.Proofs Tryz
namespace L1
open C1
theorem WZ{ts:List (List Int)}{q:List Int→Bool}{t0 t:List Int}{j:Nat}(hj:ts[j]?= some t)(h:(ts.take j).all (fun t=>q t==q t0)=true)(hc:(!(q t==q t0))=false):(ts.take (j+1)).all (fun t=>q t==q t0)=true:=by
 rw[aZG,hj,List.all_append,h];simpa using hc
theorem IY{r:dG}{f:Bool}(h:cK r f=0):truths r≠[]:=by
 unfold cK at h;split at h;omega;split at h;omega;split at h;omega;assumption
theorem N4{r:dG}{f:Bool}(h:cK r f=0):f=true:=by
 unfold cK at h;split at h;omega;split at h;omega;rename_i hf;simpa using hf
theorem aKQ{r:dG}{i j:Int}(hok:oQ r)(h:cK r (oG r i j)=0):0≤i∧i≤j∧j<9:=by
 have:=N4 h;simp only[oG,aYT,bX]at this;have:=hok.len9;omega
theorem I7{r:dG}(hok:oQ r):∀t∈truths r,t.length≤9∧∀x∈t,0≤x∧x≤1:=fun t ht=>⟨by have:=(B0 ht).1;have:=hok.len9;omega,(B0 ht).2⟩
theorem p4{ts:List (List Int)}{k:Nat}{t:List Int}{f:List Int→Int}{a:Int}(h:ts[k]?= some t):((ts.take (k+1)).map f).foldl min a=min (((ts.take k).map f).foldl min a) (f t):=by
 rw[aZG,h,bAR,aZH,bAN];rfl
theorem u9{ts:List (List Int)}{k:Nat}{t:List Int}{f:List Int→Int}{a:Int}(h:ts[k]?= some t):((ts.take (k+1)).map f).foldl max a=max (((ts.take k).map f).foldl max a) (f t):=by
 rw[aZG,h,bAR,aZH,bAN];rfl
theorem aAG(sv:Value)(ts:List (List Int))(i j:Int)(D:aC)(hS:Sl D RT 9 sv ts)(hne:ts≠[])(hall:∀t∈ts,t.length≤9∧∀x∈t,0≤x∧x≤1)(G:0≤i)(hij:i≤j)(I:j<9):
  Fn prog 122 #[sv,qI i,qI j] D (fun _ v=>v=.agg #[qI (AQ ts i.toNat j.toNat),qI (BB ts i.toNat j.toNat)]):=by
 have hl:=hS.len;obtain⟨t0,ht0⟩:∃t,ts[0]?= some t:=⟨ts[0]'(bBY.2 hne),aYU _⟩
 have ht0m:=LE ht0;have hH:=HL (hall t0 ht0m).2 i.toNat j.toNat Yd;have hB:=gP (hall t0 ht0m).1;refine Zs 36 func122 rfl (fun h0=>aA<|Zx rfl oA rfl (fun q1=>aL<|Za rfl<|Zw rfl U249 dZ rfl hS rfl ht0 (fun b1 o1 M O hE R=>?_)));obtain rfl:M=ints (fM _):=O;refine dQ rfl jO rfl R Yc (by first|exact dZ|(simp only[*];exact dZ)) n3 rfl bDY<|Zc rfl (fun D1 hI=>P0 t0 _ (hall _ ht0m).1 (hall _ ht0m).2)<|Za rfl<|Za rfl<|Zc rfl (fun D2 hJ=>aSR t0 i j _ G hij I (hall _ ht0m).2)<|Zg rfl<|aL<|Za rfl<|Za rfl<|Zr [qI (oN t0 i.toNat j.toNat),qI (oN t0 i.toNat j.toNat)] rfl x9 oA rfl<|Zx rfl oA rfl (fun q2=>Zt rfl gY (bR.head) ?_);refine bJ<|Za rfl<|cZ rfl U249 rfl Yl rfl rfl bDY<|Za rfl<|aF<|Zar<|dD (γ:=Nat) (fun k=>ts.length-k) (fun k=>k≤ts.length) (fun k=>[(23,qI (k:Int))]) [(22,_),(21,_),(8,_),(6,_),(1,_),(2,_)] (fun k=>[(q2,qC [qI (((ts.take k).map fun t=>oN t i.toNat j.toNat).foldl min (oN t0 i.toNat j.toNat)),qI (((ts.take k).map fun t=>oN t i.toNat j.toNat).foldl max (oN t0 i.toNat j.toNat))] 75),(q1,qC [qI 0,qI 0] 75)]) (fun k=>[D]) 0 Yd ⟨Yb,bDY⟩ cQ Mm5 (aH) ?_;rintro k h1;refine aA<|Zai rfl<|bT<|Zz rfl (fun U=>?_) (fun U=>?_)
 ·have hkk:k<ts.length:=by omega
  obtain⟨t,ht⟩:=dV ts k;have htm:=LE ht;obtain⟨htl,htb⟩:=hall t htm;have hK:=gP htl;refine aT<|aS<|Zar<|aA<|Zw rfl U249 dZ rfl hS rfl ht (fun b2 o2 V Y hF Z=>?_);obtain rfl:V=ints (fM _):=Y;refine dQ rfl jO rfl Z Yc (by first|exact dZ|(simp only[*];exact dZ)) n3 rfl bDY<|Zx rfl rR rfl (fun q3=>bD rfl rfl rfl rfl dZ Yaf Ya (bR.head) Yh bDY<|aF<|lI [] 3 [0,1,3,4,2,5,6,7] [false,true,true,true,true,true,false,false] [(false,0),(true,1),(true,3),(true,4),(true,2),(true,5),(false,6),(false,7)] bI (fun _ _ _ h=>kL (P:=prog) (fn:=f122) _ _ _ h) Yg rfl<|Zy rfl wL rfl Mm1 gY<|bK rfl jO rfl Mm0 (by first|exact dZ|(simp only[*];exact dZ)) n3 rfl bDY<|Za rfl<|Za rfl<|Zc rfl (fun D3 hM=>P0 t _ (hall _ htm).1 (hall _ htm).2)<|Zc rfl (fun D4 hN=>aSR t i j _ G hij I (hall _ htm).2)<|Zc rfl (fun D5 hO=>sK _ _ _ _) ?_);refine Zt rfl gY (.tail (bR.head))<|Zah<|Zat<|Zaq<|aU<|Zaa rfl<|Za rfl<|Zah ?_;rw[←p4 ht,←u9 ht];exact aK 14 (k+1) Yd Yd ⟨Yb,bDY⟩ rfl rfl (List.Sublist.cons _ Mm5) (aH)
 ·obtain rfl:k=ts.length:=by omega
  rw[bAA,m8 _ _ (by rw[aZT,ht0];rfl),n8 _ _ (by rw[aZT,ht0];rfl)];refine aW<|Zas<|Zas<|Zav<|Zaq<|aA<|Zy rfl wL rfl Mm0 gY<|Zt rfl gY (.tail (bR.head))<|aG ?_;exact cS (vs:=[_]) rfl rfl rfl ⟨⟨_,_,_,rfl,Mm1,aYZ ⟨wL,(by first|exact gY|(simp only[aZV,aO, *];exact gY)),rfl⟩⟩,bDY⟩ (fun D hD=>rfl)
theorem zN(rv:Value)(r:dG)(i j:Int)(D:aC)(hr:pC D rv r):Fn prog 50 #[rv,qI i,qI j] D (fun _ v=>v=.tuple #[.agg (if cK r (oG r i j)=0 then #[qI (AQ (truths r) i.toNat j.toNat),qI (BB (truths r) i.toNat j.toNat)]else #[qI 0,qI 0]),qI (cK r (oG r i j))]):=by
 have I:=hr;obtain⟨pv,cv,rfl,hp,hc⟩:=hr;refine Zs 30 func50 rfl (fun h0=>aA<|Zu rfl (fun q1 E1 Z M=>Zx rfl oA rfl (fun q2=>Zg rfl<|bT<|bW [] 4 11 798<|Zq rfl kD rfl M jX<|Zq rfl kD rfl M jX<|Za rfl<|Za rfl<|Zc rfl (fun D1 V=>aPS _ r i j _ (I.up (V _ Ye))) ?_)));refine Zv rfl (fun D2 O=>wA _ r _ _ (I.up (O _ Ye))) (fun v2 D2 O R=>?_);obtain⟨wv,rfl,hwk⟩:=R;refine Za rfl<|Zaf rfl<|Zaf rfl<|Zg rfl<|Zg rfl<|bJ<|Za rfl<|Zak rfl<|aF<|Zz rfl (fun U=>?_) (fun U=>?_)
 ·refine aA<|Zr [qI 0,qI 0] rfl x9 oA rfl<|Za rfl<|Zt rfl gY (bR.head)<|Zg rfl<|aG<|Zap ?_;exact cS (vs:=[_,_]) rfl rfl rfl ⟨⟨_,_,_,rfl,Mm0,aYZ ⟨wL,(by first|exact gY|(simp only[aZV,aO, *];exact gY)),rfl⟩⟩,rfl,bDY⟩ (fun D hD=>by show Value.tuple _=_;rw[aZB U])
 ·have G:cK r (oG r i j)=0:=by omega
  obtain⟨hok,wb,hB,hE,tv,rfl,hA,R,hc2',ht⟩:=hwk G;have htn:=IY G;have hall:=I7 hok;have hpt:=aKQ hok G;refine aT<|aA<|Za rfl<|Zaj rfl<|Zh rfl pN rfl<|Zj 4 rfl A9 rfl hA rfl<|Za rfl<|Za rfl<|Zc rfl (fun D3 Y=>aAG _ _ i j _ (ht.up RT.up (Y _ Ye)) htn hall hpt.1 hpt.2.1 hpt.2.2)<|Zt rfl gY (bR.head)<|Zg rfl<|aG ?_;exact cS (vs:=[_,_]) rfl rfl rfl ⟨⟨_,_,_,rfl,Mm0,aYZ ⟨wL,(by first|exact gY|(simp only[aZV,aO, *];exact gY)),rfl⟩⟩,rfl,bDY⟩ (fun D hD=>by show Value.tuple _=_;rw[aZK G,G])
theorem AF(wv:Value)(t:List Int)(i:Nat)(D:aC)(I:t.length≤9)(hi:i<9):Fn prog 353 #[wv,.agg (ints (fM t)).toArray,qI (i:Int)] D (fun _ v=>v=.bool (aFN i t)):=by
 have hg:=aFH hi I;refine Zs 11 func353 rfl (fun h0=>aA<|Zu rfl (fun q1 O M G=>Zg rfl<|aL<|Za rfl<|eM rfl U258 aM rfl rfl Yd Yd rfl bDY<|iW rfl aJ rfl G Ye (cD hg) n3 rfl bDY<|fI rfl rfl rfl rfl bDY<|Zg rfl<|aG ?_));exact aE rfl (fun D hD=>rfl)
theorem JR(fv wv:Value)(f:FuncId)(r:dG)(p:Nat→List Int→Bool)(many:Nat)(D:aC)(hfv:fv=.func (.func f) #[] #[])(hw:aJW D wv r)(hok:oQ r)(hne:truths r≠[])(hm:many≤9)
  (hf:∀t∈truths r,∀i,i<many→∀D',Le D D'→Fn prog f #[wv,.agg (ints (fM t)).toArray,qI (i:Int)] D' (fun _ v=>v=.bool (p i t))):
  Fn prog 354 #[.agg #[fv],wv,qI (many:Int)] D (fun D' v=>Sl D' RI 1 v ((List.range many).map fun i=>vd (truths r) (p i))):=by
 obtain⟨wb,pv,cv,tv,rfl,hA,hp,hc,ht⟩:=hw;subst hfv;have hl:=ht.len;have hall:=I7 hok;obtain⟨t0,ht0⟩:∃t,(truths r)[0]?= some t:=⟨(truths r)[0]'(bBY.2 hne),aYU _⟩
 have ht0m:=LE ht0;have hp90:=gP (hall t0 ht0m).1;refine Zs 52 func354 rfl (fun h0=>aA<|Zu rfl (fun q1 E1 hE1 V=>Zg rfl<|bJ<|Za rfl<|Za rfl<|aF<|Zar<|dD (γ:=Nat×Value×aD) (fun g=>many-g.1) (fun g=>g.1≤many∧bS 3 1 g.2.1 g.1 (ints ((List.range g.1).map fun i=>vd (truths r) (p i))) g.2.2) (fun g=>[(13,qI (g.1:Int)),(6,g.2.1)]) [(12,_),(3,_),(1,_)] (fun g=>g.2.2++[]) (fun g=>[E1,D]) (0,qN,[]) ⟨by simp,by simpa [ints]using bS.nil⟩ ⟨Yb,Yb,bDY⟩ cQ Mm5 (aH) ?_));rintro⟨k,v,ν⟩ ⟨h1,ha⟩;refine aA<|Zai rfl<|bT<|Zz rfl (fun hE=>?_) (fun hE=>?_)
 ·refine aT<|aS<|Zar<|aA<|Za rfl<|Zg rfl<|aF<|UV<|aS<|bW [] 6 12 1020<|Zh rfl S2 rfl<|Zj 0 rfl GR rfl V rfl ?_;refine Za rfl<|Za rfl<|Zaj rfl<|Zh rfl pN rfl<|Zj 4 rfl A9 rfl hA rfl<|Zw rfl U249 dZ rfl ht rfl ht0 (fun b1 o1 hH hI hcl1 hJ=>?_);obtain rfl:hH=ints (fM _):=hI;refine dQ rfl jO rfl hJ Yc (by first|exact dZ|(simp only[*];exact dZ)) n3 rfl bDY<|Za rfl<|Zc rfl (fun D1 hK=>hf t0 ht0m k Yd _ (hK _ Ye))<|Zg rfl<|aL<|Zg rfl<|bJ<|Za rfl<|aF<|aP rfl (fun hc2=>?_) (fun hc2=>?_)
  ·refine aU<|Zg rfl<|bT<|GV<|Zaq<|eH<|Za rfl<|Zaj rfl<|Zh rfl pN rfl<|Zj 4 rfl A9 rfl hA rfl<|cZ rfl U249 rfl Yl rfl rfl bDY<|Za rfl ?_;refine aF<|Zar<|Zl Nat (fun j=>(truths r).length-j) (fun j=>j≤(truths r).length∧((truths r).take j).all (fun t=>p k t==p k t0)=true) (fun j=>[(33,qI (j:Int))]) [(32,_),(31,_),(30,_),(29,_),(28,_),(9,_),(27,_),(8,_),(26,_),(25,_),(24,_),(23,_),(22,_),(21,_),(20,_),(19,_),(18,_),(17,_),(16,_),(7,_),(15,_),(14,_),(13,_),(6,_),(12,_),(3,_),(1,_)] (fun j=>[E1,D]) 0 ⟨Yb,bDY⟩ ?_;rintro j ⟨h3,h4⟩;refine aA<|Zai rfl<|bT<|Zz rfl (fun hM=>?_) (fun hM=>?_)
   ·have hj:j<(truths r).length:=by omega
    obtain⟨t,G⟩:=dV (truths r) j;have htm:=LE G;obtain⟨htl,htb⟩:=hall t htm;have hN:=gP htl;refine aT<|aS<|Zar<|aA<|Zw rfl U249 dZ rfl ht rfl G (fun b2 o2 hO hR hcl2 hS=>?_);obtain rfl:hO=ints (fM _):=hR;refine dQ rfl jO rfl hS Yc (by first|exact dZ|(simp only[*];exact dZ)) n3 rfl bDY<|Zx rfl rR rfl (fun q2=>bD rfl rfl rfl rfl dZ Yaf Ya (bR.head) Yh bDY<|aL<|Zh rfl S2 rfl<|Zj 0 rfl GR rfl V rfl<|Za rfl<|bK rfl jO rfl Mm0 (by first|exact dZ|(simp only[*];exact dZ)) n3 rfl bDY<|Za rfl<|Zc rfl (fun D2 hB=>hf t htm k Yd _ (hB _ Ye))<|Za rfl<|ID rfl U4 rfl rfl rfl bDY ?_);refine aF<|aP rfl (fun Y=>?_) (fun Y=>?_)
    ·have hv:vd (truths r) (p k)=3:=aSJ ht0 G Y;refine aA<|Zg rfl<|aF<|aW<|tS rfl<|Zas<|Zas<|Zav<|Zaq<|aU<|Za rfl<|Za rfl ?_;refine Zp rfl U25 aM dS rfl (.cons rfl rfl .nil) (fun b901 D901 hX M=>?_);have hY:=Sl.ofInts (l:=[_]) (n:=1) (cap:=1) M rfl Yd Yd;refine bB (A:=[(_,_)]) (B:=_) rfl U25 rfl rfl aM dS rfl oD rfl rfl rfl ha (mI.lit M) Ye rfl Ye Yk Yd (aZE rfl) rfl bDY (fun v1 ν1 rA=>?_);have I:bS 3 1 v1 (k+1) (ints ((List.range (k+1)).map fun i=>vd (truths r) (p i))) ν1:=by rw[bAS,aZH,bCP,hv,←fV];exact rA
     refine Zg rfl<|Zah<|wV<|Zat<|Zaq<|aU<|Zaa rfl<|Za rfl<|Zah ?_;exact aK 45 (k+1,v1,ν1) ⟨by simp only;omega,I⟩ Ym ⟨Yb,Yb,bDY⟩ rfl rfl (List.Sublist.cons _ Mm5) (fun D h=>⟨D,aZJ _ (h),Le.refl D⟩)
    ·have hcc:=Y;refine bM<|Zat<|Zaq<|aU<|Zaa rfl<|Za rfl<|Zah ?_;exact aK 15 (j+1) ⟨by omega,WZ G h4 hcc⟩ Yd ⟨Yb,bDY⟩ rfl rfl (List.Sublist.cons _ Mm5) (aH)
   ·have hv:vd (truths r) (p k)=1:=by rw[aDM ht0 Yd h4,aZK (by simp[hc2])]
    refine aW<|Zas<|Zas<|Zav<|Zaq<|aU<|Za rfl<|Za rfl<|Zp rfl U25 aM dS rfl (.cons rfl rfl .nil) (fun b902 D902 rB O=>?_);have hS902:=Sl.ofInts (l:=[_]) (n:=1) (cap:=1) O rfl Yd Yd;refine bB (A:=[]) (B:=_) rfl U25 rfl rfl aM dS rfl oD rfl rfl rfl ha (mI.lit O) Ye rfl Ye Yk Yd (aZE rfl) rfl bDY (fun v2 ν2 I=>?_);have I:bS 3 1 v2 (k+1) (ints ((List.range (k+1)).map fun i=>vd (truths r) (p i))) ν2:=by rw[bAS,aZH,bCP,hv,←fV];exact I
    refine Zg rfl<|Zah<|wV<|Zat<|Zaq<|aU<|Zaa rfl<|Za rfl<|Zah ?_;exact aK 33 (k+1,v2,ν2) ⟨by simp only;omega,I⟩ Ym ⟨Yb,Yb,bDY⟩ rfl rfl Mm5 (fun D h=>⟨D,aZJ _ (h),Le.refl D⟩)
  ·refine aT<|aS<|GV<|Zaq<|eH<|Za rfl<|Zaj rfl<|Zh rfl pN rfl<|Zj 4 rfl A9 rfl hA rfl<|cZ rfl U249 rfl Yl rfl rfl bDY<|Za rfl<|aF ?_;refine Zar<|Zl Nat (fun j=>(truths r).length-j) (fun j=>j≤(truths r).length∧((truths r).take j).all (fun t=>p k t==p k t0)=true) (fun j=>[(33,qI (j:Int))]) [(32,_),(31,_),(30,_),(29,_),(28,_),(27,_),(9,_),(8,_),(26,_),(25,_),(24,_),(23,_),(22,_),(21,_),(20,_),(19,_),(18,_),(17,_),(16,_),(7,_),(15,_),(14,_),(13,_),(6,_),(12,_),(3,_),(1,_)] (fun j=>[E1,D]) 0 ⟨Yb,bDY⟩ ?_;rintro j ⟨h3,h4⟩;refine aA<|Zai rfl<|bT<|Zz rfl (fun hc5=>?_) (fun hc5=>?_)
   ·have hj:j<(truths r).length:=by omega
    obtain⟨t,G⟩:=dV (truths r) j;have htm:=LE G;obtain⟨htl,htb⟩:=hall t htm;have hN:=gP htl;refine aT<|aS<|Zar<|aA<|Zw rfl U249 dZ rfl ht rfl G (fun b3 o3 cs3 hr3 hcl3 hA3=>?_);obtain rfl:cs3=ints (fM _):=hr3;refine dQ rfl jO rfl hA3 Yc (by first|exact dZ|(simp only[*];exact dZ)) n3 rfl bDY<|Zx rfl rR rfl (fun q3=>bD rfl rfl rfl rfl dZ Yaf Ya (bR.head) Yh bDY<|aL<|Zh rfl S2 rfl<|Zj 0 rfl GR rfl V rfl<|Za rfl<|bK rfl jO rfl Mm0 (by first|exact dZ|(simp only[*];exact dZ)) n3 rfl bDY<|Za rfl<|Zc rfl (fun D3 hD3=>hf t htm k Yd _ (hD3 _ Ye))<|Za rfl<|ID rfl U4 rfl rfl rfl bDY ?_);refine aF<|aP rfl (fun Z=>?_) (fun Z=>?_)
    ·have hv:vd (truths r) (p k)=3:=aSJ ht0 G Z;refine aA<|Zg rfl<|aF<|aW<|tS rfl<|Zas<|Zas<|Zav<|Zaq<|aU<|Za rfl<|Za rfl ?_;refine Zp rfl U25 aM dS rfl (.cons rfl rfl .nil) (fun b903 D903 hD903 R=>?_);have hS903:=Sl.ofInts (l:=[_]) (n:=1) (cap:=1) R rfl Yd Yd;refine bB (A:=[(_,_)]) (B:=_) rfl U25 rfl rfl aM dS rfl oD rfl rfl rfl ha (mI.lit R) Ye rfl Ye Yk Yd (aZE rfl) rfl bDY (fun v3 ν3 ha3=>?_);have I:bS 3 1 v3 (k+1) (ints ((List.range (k+1)).map fun i=>vd (truths r) (p i))) ν3:=by rw[bAS,aZH,bCP,hv,←fV];exact ha3
     refine Zg rfl<|Zah<|wV<|Zat<|Zaq<|aU<|Zaa rfl<|Za rfl<|Zah ?_;exact aK 45 (k+1,v3,ν3) ⟨by simp only;omega,I⟩ Ym ⟨Yb,Yb,bDY⟩ rfl rfl (List.Sublist.cons _ Mm5) (fun D h=>⟨D,aZJ _ (h),Le.refl D⟩)
    ·have hcc:=Z;refine bM<|Zat<|Zaq<|aU<|Zaa rfl<|Za rfl<|Zah ?_;exact aK 15 (j+1) ⟨by omega,WZ G h4 hcc⟩ Yd ⟨Yb,bDY⟩ rfl rfl (List.Sublist.cons _ Mm5) (aH)
   ·have hv:vd (truths r) (p k)=2:=by rw[aDM ht0 Yd h4,aZB (by simp[hc2])]
    refine aW<|Zas<|Zas<|Zav<|Zaq<|aU<|Za rfl<|Za rfl<|Zp rfl U25 aM dS rfl (.cons rfl rfl .nil) (fun b904 D904 hD904 U=>?_);have hS904:=Sl.ofInts (l:=[_]) (n:=1) (cap:=1) U rfl Yd Yd;refine bB (A:=[]) (B:=_) rfl U25 rfl rfl aM dS rfl oD rfl rfl rfl ha (mI.lit U) Ye rfl Ye Yk Yd (aZE rfl) rfl bDY (fun v4 ν4 ha4=>?_);have I:bS 3 1 v4 (k+1) (ints ((List.range (k+1)).map fun i=>vd (truths r) (p i))) ν4:=by rw[bAS,aZH,bCP,hv,←fV];exact ha4
    refine Zg rfl<|Zah<|wV<|Zat<|Zaq<|aU<|Zaa rfl<|Za rfl<|Zah ?_;exact aK 33 (k+1,v4,ν4) ⟨by simp only;omega,I⟩ Ym ⟨Yb,Yb,bDY⟩ rfl rfl Mm5 (fun D h=>⟨D,aZJ _ (h),Le.refl D⟩)
 ·obtain rfl:k=many:=by omega
  refine aW<|Zas<|Zas<|Zav<|Zaq<|aA<|Za rfl<|Zg rfl<|aG<|gC (A:=[]) (B:=[]) ha rfl (fun D2 hB hF=>?_);exact aE rfl (fun D hD=>(hF.ints Ye Yd).up RI.up (hD _ Ye))
theorem aAP(rv:Value)(r:dG)(D:aC)(hr:pC D rv r):Fn prog 296 #[rv] D (fun D' v=>∃lv,v=.tuple #[lv,qI (cK r true)]∧Sl D' RI 1 lv (if cK r true=0 then(List.range r.places.length).map (fun i=>vd (truths r) (aFN i))else [])):=by
 have V:=hr;obtain⟨pv,cv,rfl,hp,hc⟩:=hr;have hl1:=hp.len;have hE:=hc.len;refine Zs 20 func296 rfl (fun h0=>aA<|Zu rfl (fun q1 E1 hF O=>Zg rfl<|Zg rfl<|aL<|Zq rfl kD rfl O jX<|Zv rfl (fun D1 R=>wA _ r _ _ (V.up (R _ Ye))) (fun v1 D1 R Y=>?_)));obtain⟨wv,rfl,hwk⟩:=Y;refine Za rfl<|Zaf rfl<|Zaf rfl<|Zg rfl<|Zg rfl<|bJ<|Za rfl<|Zak rfl<|aF<|Zz rfl (fun U=>?_) (fun U=>?_)
 ·refine aA<|Za rfl<|Zg rfl<|Zg rfl<|aG<|Zap ?_;exact cS (vs:=[_,_]) rfl rfl rfl cQ (fun D hD=>⟨_,rfl,by rw[aZB U];exact Sl.nil⟩)
 ·have I:cK r true=0:=by omega
  obtain⟨hok,wb,Z,hB,tv,rfl,hA,M,hc2',ht⟩:=hwk I;have htn:=IY I;have hall:=I7 hok;refine aT<|aA<|Zr [.func (.func 353) #[] #[]] rfl aMF aNJ rfl<|Za rfl<|Zh rfl eB rfl<|Zj 0 rfl dN rfl O rfl<|Zab rfl U25 rfl hp rfl<|Zv rfl (fun D2 G=>JR _ _ 353 r (aFN) r.places.length _ rfl ⟨wb,Z,hB,tv,rfl,hA.up (G _ Ye),M.up RI.up (G _ Ye),hc2'.up RC.up (G _ Ye),ht.up RT.up (G _ Ye)⟩ hok htn (by have:=hok.len9;have:=hok.cnt6;omega) (fun t htm i hi D2 hl=>AF _ t i D2 (hall t htm).1 (by have:=hok.len9;omega))) (fun v2 D2 G M=>Zg rfl<|Zg rfl<|aG ?_)
  exact cS (vs:=[_,_]) rfl rfl rfl cQ (fun D hD=>⟨_,by rw[I];rfl,by rw[aZK I];exact M.up RI.up (hD _ Ye)⟩)
end L1
open Go.Proofs
namespace L1
open C1
end L1
namespace L1
end L1
namespace L1
open C1
theorem aEC(rv:Value)(r:dG)(D:aC)(hr:pC D rv r):Fn prog 67 #[rv] D (fun _ v=>v=.tuple #[qI (uQ r),qI (T7 r)]):=by
 have M:=hr;obtain⟨pv,cv,rfl,hp,hc⟩:=hr;refine GA 47 func67 rfl rfl rfl rfl fun h0=>aA<|Zu rfl (fun q1 E1 hK O=>Zg rfl<|Zg rfl<|bJ<|Zq rfl kD rfl O jX<|Zc rfl (fun D1 Z=>Z0 _ r _ (M.up (Z _ Ye)))<|Zg rfl<|aL<|Za rfl<|Zak rfl ?_);refine aF<|Zz rfl (fun R=>?_) (fun R=>?_)
 ·refine aA<|Za rfl<|Zg rfl<|Zg rfl<|aG<|Zap ?_;exact uC (vs:=[_,_]) rfl rfl rfl cQ (fun D hD=>by show Value.tuple _=_;rw[uQ,T7,aZK R,aZK R]<;>rfl)
 ·have hok:oQ r:=sC.1 Yd;refine aT<|aA<|Zx rfl dS rfl (fun q2=>Zx rfl nS rfl (fun q3=>Zo rfl aM (.tail (bR.head)) rfl<|Zo rfl lT (bR.head) rfl<|aL<|Zx rfl rR rfl (fun q4=>bJ<|Zq rfl kD rfl O jX<|Zv rfl (fun D2 Y=>WM _ r _ (M.up (Y _ Ye)) hok.len9) (fun v2 D2 Y hB=>aF ?_))));refine Zar ?_;obtain⟨br,rfl,hit⟩:=hB;refine uG (γ:=Option Int×List Int) (xs:=(cT r.places).map fM) (enc:=HA) (Dr:=D2) (yO r) (fun _ _ _=>False) (fun g=>[(q4,qC (ints g.2) 258),(q3,qC [.bool g.1.isSome] 4),(q2,qC [qI (g.1.getD 0)] 3)]) (none,List.replicate 9 0) rfl rfl rfl rfl hit Ye (fun _=>rfl) rfl ⟨rfl,rfl,fun u hu=>by simp at hu⟩ rfl ?_ ?_ (fun _ _ _ _ h=>h.elim)
  ·rintro pre x ⟨o,last⟩ ⟨us,hx⟩ hΦ l bd rec hh D7 hM hst hpend;obtain⟨t,hk,rfl,htm,htake⟩:=zY hx;obtain⟨hlen,htb⟩:=rF htm;have htr:qB r t:=⟨hlen,htb⟩
   have U:=gP (t:=t) (by have:=hok.len9;omega);have hE:last.length=9:=hΦ.2.1;refine aU<|Zx rfl rR rfl (fun q5=>Zt rfl dZ (bR.head)<|Zah ?_);refine fun a w hhh=>B2 (A:=[(_,_),(_,_),(_,_),(_,_)]) (B:=[(bd,.deferred (some []))]) (r:=rec) (l:=l) Yax hst ?_ a w hhh
   refine Zar<|eH<|Zm rfl BW rfl Mm2 rfl<|Za rfl ?_;refine' dJ 4 (s:=20) (p:=24) rfl (fun hF=>?_) (fun hF=>?_) ?_;rotate_left
   ·refine bK rfl jO rfl Mm0 Yw n3 rfl ⟨_,rfl,rfl⟩<|bK rfl jO rfl Mm1 Yw n3 rfl ⟨_,rfl,rfl⟩<|PH rfl Yg U258 U3 Yg U hE rfl rfl rfl ⟨_,rfl,rfl⟩<|Zad rfl ?_;exact aQ 3
   ·refine Zf rfl<|Zf rfl<|Zf rfl<|Zae rfl ?_;exact aQ 3
   refine aF<|aP rfl (fun hc2=>?_) (fun hc2=>?_)
   ·refine aW<|Zas<|Zav ?_;exact fun a w hh=>iN (A:=[(_,_),(_,_),(_,_)]) (B:=[(bd,.deferred (some []))]) (o,last) (RH hΦ htm htake hc2) rfl rfl a w (hh.dropBoxes 1)
   ·refine aT<|aA<|bK rfl jO rfl Mm0 Yw n3 rfl bDY<|Zt rfl dZ (.tail (bR.head))<|bT<|rK [] 4 9 198 (fun _ _ _ h=>h)<|Zq rfl kD rfl O jX<|bK rfl jO rfl Mm0 Yw n3 rfl bDY<|Zc rfl (fun D3 hN=>P0 t _ (by have:=hok.len9;omega) htb)<|Zc rfl (fun D4 hH=>MO _ r t _ (M.up (hH _ Ye)) hok htr)<|Za rfl<|Zaf rfl ?_;refine Zaf rfl<|Zg rfl<|Zg rfl<|aL<|Za rfl<|Za rfl ?_;refine' dJ 8 (s:=34) (p:=42) rfl (fun hI=>?_) (fun hI=>?_) ?_;rotate_left
    ·refine Zn rfl BW rfl Mm2 rfl<|lJ rfl rfl rfl ⟨_,rfl,rfl⟩<|Zb rfl ?_;refine' cR 4 (s:=37) (p:=41) rfl (fun hJ=>?_) (fun hJ=>?_) ?_;rotate_left
     ·refine Zb rfl<|Zn rfl aJ rfl Mm3 rfl<|DL rfl rfl rfl rfl ⟨_,rfl,rfl⟩<|rP rfl rfl rfl rfl ⟨_,rfl,rfl⟩ ?_;exact aQ 3
     ·refine Zf rfl<|Zf rfl<|Zf rfl<|rQ rfl rfl rfl rfl ⟨_,rfl,rfl⟩ ?_;exact aQ 3
     refine Zad rfl ?_;exact aQ 4
    ·refine Zf rfl<|Zf rfl<|Zf rfl<|Zf rfl<|Zf rfl<|Zf rfl<|Zf rfl<|Zae rfl ?_;exact aQ 7
    refine aF<|aP rfl (fun V=>?_) (fun V=>?_)
    ·refine aU<|Za rfl<|Zo rfl aM (.tail (.tail (.tail (bR.head)))) rfl<|Zo rfl lT (.tail (.tail (bR.head))) rfl<|Zah<|Zat ?_;exact fun a w hh=>iN (A:=[(_,_),(_,_),(_,_)]) (B:=[(bd,.deferred (some []))]) (some (if eN r t=true then(nR r t:Int)else 0),fM t) (XZ hΦ U htake V) rfl rfl a w (hh.dropBoxes 1)
    ·refine bM<|Zat ?_;exact fun a w hh=>iN (A:=[(_,_),(_,_),(_,_)]) (B:=[(bd,.deferred (some []))]) (o,fM t) (aKB hΦ U htake V) rfl rfl a w (hh.dropBoxes 1)
  ·rintro⟨o,last⟩ bd hΦ;have ho:o=nF r (cT r.places):=by simpa [yO]using hΦ.1
   have I:aV r=0:=by omega
   refine Zat<|Zaq<|eH<|Zm rfl BW rfl Mm1 rfl<|Zal rfl<|aF<|aP rfl (fun G=>?_) (fun G=>?_)
   ·refine aA<|Zg rfl<|Zg rfl<|aG<|Zap ?_;exact xG (vs:=[_,_]) (A:=[(_,_),(_,_),(_,_)]) rfl rfl rfl cQ (fun D hD=>by show Value.tuple _=_;rw[(LL ho I G).1,(LL ho I G).2]<;>rfl)
   ·refine aT<|aA<|Zm rfl aJ rfl Mm2 rfl<|Zg rfl<|Zg rfl<|aG ?_;exact xG (vs:=[_,_]) (A:=[(_,_),(_,_),(_,_)]) rfl rfl rfl cQ (fun D hD=>by show Value.tuple _=_;rw[(KG ho I G).1,(KG ho I G).2]<;>rfl)
end L1
variable{P:Program}{X:Cx}{γb:Type}[Membership Nat γb]{bad:γb}{all:Array Oper}{K:Act→World→Prop}{Q:Exit→Act→World→Prop}
variable{σ:bO}{μ:aD}{Ds:List aC}{os:List (Bool×Nat)}{fl:Bool}{ix:Nat}
variable{d:Nat}{x y z:Operand}{u v:Value}{ty:TypeId}{pos:String}{aft:Array Edge}{g:Option (Nat×Bool)}
structure BN(P:Program)(k:TypeId){α:Type}[DecidableEq α](val:α→Value):Prop where
 und:∃fs,P.underlying k=some (.struct fs)
 eq:∀a b w,(Op.equal k (val a) (val b)).run P w=.ok (decide (a=b)) w
 chk:∀em a w,(Instr.checkKey em 10000 k (val a)).run P w=.ok () w
 stay:∀a,Instr.sameBits 10000 (val a) (val a)=true
 agg:∀a,∃cs,val a=.agg cs
variable{α β:Type}[DecidableEq α]{val:α→Value}{wal:β→Value}
def C6(val:α→Value)(wal:β→Value)(es:Array MapEntry)(M:List (α×β)):Prop:=es.toList.map (fun e=>(e.key,e.val))=M.map fun x=>(val x.1,wal x.2)
def yB(a:α):List (α×β)→Nat→Option (Nat×β)
 | [],_=>none
 |(b,n)::M,i=>if a=b then some (i,n)else yB a M (i+1)
theorem B5{a:α}:∀{M:List (α×β)} {i j:Nat} {n:β},yB a M i=some (j,n)→∃k,j=i+k∧M[k]?= some (a,n)
 |(b,m)::M,i,j,n,h=>by
  simp only[yB]at h;split at h
  ·rename_i he;cases h;exact⟨0,rfl,by rw[he];rfl⟩
  ·obtain⟨k,rfl,hk⟩:=B5 h;exact⟨k+1,by omega,by simpa using hk⟩
theorem vV{k:TypeId}(h:BN P k val)(a:α)(w:World):∀(es:List MapEntry) (M:List (α×β)) (i:Nat),es.map (fun e=>(e.key,e.val))=M.map (fun x=>(val x.1,wal x.2))→
  (Instr.findAsking k (val a) es i).run P w=.ok ((yB a M i).map fun p=>(p.1,wal p.2)) w
 | [],[],i,_=>rfl
 | [],_::_,i,hm=>by simp at hm
 |e::es,[],i,hm=>by simp at hm
 |e::es,(b,n)::M,i,hm=>by
  simp only[aZR,bAT,bCQ]at hm;obtain⟨⟨hk,hv⟩,hm⟩:=hm;simp only[Instr.findAsking,Sem.run_bind,hk,h.eq,Result.andThen_ok,yB];by_cases he:a=b
  ·subst he;simp only[decide_true,bAX,Sem.run_pure,hv];rfl
  ·simp only[he,decide_false,bAE,bBH];exact vV h a w es M (i+1) hm
theorem uS{k:TypeId}(h:BN P k val)(a:α)(w:World){es:List MapEntry}{M:List (α×β)}(hm:es.map (fun e=>(e.key,e.val))=M.map (fun x=>(val x.1,wal x.2))):
  (Instr.findKey k (val a) es).run P w=.ok ((yB a M 0).map fun p=>(p.1,wal p.2)) w:=by
 obtain⟨fs,hu⟩:=h.und;unfold Instr.findKey;rw[Sem.run_bind,TU.of hu w];cases es with
 |nil=>
  cases M with
  |nil=>rfl
  |cons x M=>simp at hm
 |cons e es=>
  have hn:Instr.findNow (.struct fs) (val a) (e::es) 0=none:=by
   obtain⟨cs,hc⟩:=h.agg a;rw[hc];rfl
  simp only[Result.andThen_ok,hn];exact vV h a w (e::es) M 0 hm
theorem CL{t k e:TypeId}{b clock:Nat}{es:Array MapEntry}{M:List (α×β)}{a:α}(ho:all[ix]?= some ⟨some d,.lookup t x y true,ty,pos,aft,g⟩)(ht:P.underlying t=some (.map k e))(hk:BN P k val){z0:Value}(hz:TZ P e z0)
  (hx:ev σ x=some (.map (some b))) (hy:ev σ y=some (val a)) (hm:(b,Obj.map es clock)∈μ) (hb:b∉bad) (hM:C6 val wal es M) (hN:Nat.blt d X.N=true) (hg:dE all σ g)
  (kk:∀n ok,(ok=true→∃r,n=wal r∧(a,r)∈M)→(ok=false→n=z0)→WL P X bad all K Q os ((d,.tuple #[n,.bool ok])::σ) μ Ds):WL P X bad all K Q ((fl,ix)::os) σ μ Ds:=by
 have run:∀w,w.heap[b]?= some (Obj.map es clock)→(Instr.lookup t (.map (some b)) (val a) true).run P w=.ok (.tuple #[(match yB a M 0 with|some (_,v)=>wal v|none=>z0),.bool (yB a M 0).isSome]) w:=by
  intro w hw;have hf:=uS hk a w hM;unfold Instr.lookup;simp only[Sem.run_bind,TU.of ht w,Result.andThen_ok,nP hw,Sem.run_pure,hk.chk];rw[hf];cases yB a M 0 with
  |none=>simp only[bBA,Result.andThen_ok,Sem.run_bind,hz w,Sem.run_pure];rfl
  |some r=>obtain⟨j,v⟩:=r;simp only[aZX,Result.andThen_ok];rfl
 refine nE ho rfl rfl hN hg (fun a' w hh w' hk'=>?_) (kk (match yB a M 0 with|some (_,v)=>wal v|none=>z0) (yB a M 0).isSome (fun hok=>?_) fun hok=>?_)
 ·simp only[execOp,hh.eval hx,hh.eval hy,Sem.run_bind,run w' (hh.boxAt hm hb hk'),Result.andThen_ok,Sem.run_pure]
 ·cases hp:yB a M 0 with
  |none=>rw[hp]at hok;cases hok
  |some r=>
   obtain⟨j,n⟩:=r;obtain⟨i,_,hi⟩:=B5 hp;exact⟨n,rfl,LE hi⟩
 ·cases hp:yB a M 0 with
  |none=>rfl
  |some r=>rw[hp]at hok;cases hok
theorem S5{t k e:TypeId}{b clock:Nat}{es:Array MapEntry}{M:List (α×β)}{a:α}{n:β}{A B:aD}(ho:all[ix]?= some ⟨none,.mapUpdate t x y z,ty,pos,aft,g⟩)(ht:P.underlying t=some (.map k e))(hk:BN P k val)
  (hx:ev σ x=some (.map (some b))) (hy:ev σ y=some (val a)) (hz:ev σ z=some (wal n)) (hM:C6 val wal es M) (hg:dE all σ g)
  (kk:∀es' clock' M',C6 val wal es' M'→(∀p∈M',p∈M∨p=(a,n))→WL P X bad all K Q os σ (A++(b,.map es' clock')::B) Ds):WL P X bad all K Q ((false,ix)::os) σ (A++(b,.map es clock)::B) Ds:=by
 refine eZ ho rfl rfl hg fun a' w hh=>?_
 obtain⟨h1,h2,h3,D,h4,h5,O⟩:=id hh;have hw:=(h4.box (b,.map es clock) Ye).1;have run:∃es' clock' M',C6 val wal es' M'∧(∀p∈M',p∈M∨p=(a,n))∧(Instr.mapUpdate t (.map (some b)) (val a) (wal n)).run P w=.ok () {w with heap:=w.heap.setIfInBounds b (.map es' clock')}:=by
  have hf:=uS hk a w hM;have hset:∀o,(setObj b o).run P w=.ok () {w with heap:=w.heap.setIfInBounds b o}:=fun o=>by simp[setObj,Sem.run,hw]
  cases hp:yB a M 0 with
  |none=>
   refine⟨es.push {key:=val a,val:=wal n,born:=clock},clock+1,M++[(a,n)],?_,fun p hp=>by simpa using hp,?_⟩
   ·unfold C6 at hM ⊢
    rw[Array.toList_push,aZH,aZH,hM];rfl
   ·unfold Instr.mapUpdate;simp only[Sem.run_bind,TU.of ht w,Result.andThen_ok,nP hw,hk.chk];rw[hf,hp];simp only[bBA,Result.andThen_ok,hset]
  |some r=>
   obtain⟨j,m⟩:=r;obtain⟨i,G,hi⟩:=B5 hp;rw[bCB]at G;subst G
   have hMi:∀i,(es.toList[i]?).map (fun e:MapEntry=>(e.key,e.val))=(M[i]?).map (fun x:α×β=>(val x.1,wal x.2)):=fun i=>by rw[←aZT,←aZT,hM]
   have hj:=hMi j;rw[hi]at hj;obtain⟨e0,I,hke⟩:=bBS.1 hj;simp only[bCQ]at hke;have he0':es[j]?= some e0:=by simpa using I
   refine⟨es.modify j fun e=>{e with key:=val a,val:=wal n},clock,M.set j (a,n),?_,fun p hp=>(bDB hp),?_⟩
   ·unfold C6;apply bDE;intro q;rw[aZT,aZT,Array.getElem?_toList,Array.getElem?_modify,List.getElem?_set];have hq:=hMi q;rw[Array.getElem?_toList]at hq;by_cases hjq:j=q
    ·subst hjq;have hlt:=(aYV.1 hi).1;simp[he0',hlt]
    ·simp only[hjq,bBH];exact hq
   ·have hks:(Instr.keyThatStays (val a) (val a)).run P w=.ok (val a) w:=by
     have:Instr.sameBits 10000 (val a) (val a)=true:=hk.stay a;unfold Instr.keyThatStays;rw[aZK this,Sem.run_pure]
    unfold Instr.mapUpdate;simp only[Sem.run_bind,TU.of ht w,Result.andThen_ok,nP hw,hk.chk];rw[hf,hp];simp only[aZX,Result.andThen_ok,he0',bCH,hke.1,Sem.run_bind,hks,hset]
 obtain⟨es',clock',M',hM',hmem,hr⟩:=run;have hHas:bR (A++(b,Obj.map es clock)::B) b (.map es clock) (.map es' clock') (A++(b,.map es' clock')::B):=.app .head;have hs:=h4.set (w':={w with heap:=w.heap.setIfInBounds b (.map es' clock')}) hHas ⟨rfl,rfl⟩ trivial;have:(execOp a'.eval ⟨none,.mapUpdate t x y z,ty,pos,aft,g⟩).run P w=.ok .skip {w with heap:=w.heap.setIfInBounds b (.map es' clock')}:=by
  simp only[execOp,hh.eval hx,hh.eval hy,hh.eval hz,Sem.run_bind,hr,Result.andThen_ok,Sem.run_pure]
 rw[this];exact⟨fun h=>by simp at h,kk es' clock' M' hM' hmem _ _ ⟨h1,h2,h3,D,hs,h5,O.step (fun _ p hp=>aZE Yq) (fun _=>kI ⟨rfl,rfl⟩ (GT.2 ⟨_,hHas.mem,rfl⟩)) hs.dom⟩⟩

def yF(val:α→Value)(es:Array MapEntry)(M:List (α×Int)):Prop:=C6 val (Value.int .i64) es M
theorem ZB{t k e:TypeId}{b clock:Nat}{es:Array MapEntry}{M:List (α×Int)}{a:α}(ho:all[ix]?= some ⟨some d,.lookup t x y true,ty,pos,aft,g⟩)(ht:P.underlying t=some (.map k e))(hk:BN P k val)(hz:TZ P e (qI 0))
  (hx:ev σ x=some (.map (some b))) (hy:ev σ y=some (val a)) (hm:(b,Obj.map es clock)∈μ) (hb:b∉bad) (hM:yF val es M) (hN:Nat.blt d X.N=true) (hg:dE all σ g)
  (kk:∀n ok,(ok=true→(a,n)∈M)→WL P X bad all K Q os ((d,.tuple #[qI n,.bool ok])::σ) μ Ds):WL P X bad all K Q ((fl,ix)::os) σ μ Ds:=
 CL (wal:=Value.int .i64) ho ht hk hz hx hy hm hb hM hN hg fun n ok h1 h2=>by
  cases ok with
  |true=>obtain⟨r,rfl,hr⟩:=h1 rfl;exact kk r true fun _=>hr
  |false=>rw[h2 rfl];exact kk 0 false fun h=>by cases h
theorem aBZ{t k e:TypeId}{b clock:Nat}{es:Array MapEntry}{M:List (α×Int)}{a:α}{n:Int}{A B:aD}(ho:all[ix]?= some ⟨none,.mapUpdate t x y z,ty,pos,aft,g⟩)(ht:P.underlying t=some (.map k e))(hk:BN P k val)
  (hx:ev σ x=some (.map (some b))) (hy:ev σ y=some (val a)) (hz:ev σ z=some (qI n)) (hM:yF val es M) (hg:dE all σ g)
  (kk:∀es' clock' M',yF val es' M'→(∀p∈M',p∈M∨p=(a,n))→WL P X bad all K Q os σ (A++(b,.map es' clock')::B) Ds):WL P X bad all K Q ((false,ix)::os) σ (A++(b,.map es clock)::B) Ds:=
 S5 (wal:=Value.int .i64) ho ht hk hx hy hz hM hg kk

structure uW(n:Nat) where
 l:List Int
 h:l.length=n
deriving DecidableEq
def X2{n:Nat}(a:uW n):Value:=.agg (ints a.l).toArray
def KA(P:Program)(k:TypeId)(n:Nat):Prop:=∃f0 f1 e,P.underlying k=some (.struct (P.fieldsOf k))∧P.stoodInHeld k=false∧P.fieldsOf k=#[f0,f1]∧f0.name≠ "_" ∧f1.name≠ "_" ∧f0.offset=0∧f1.offset=1∧
 P.underlying f0.type=some (.int .i64)∧P.underlying f1.type=some (.array n e)∧P.underlying e=some (.int .i64)∧P.cellsOf e=1∧TA P f1.type true∧TS P f1.type n∧TS P e 1
theorem aFZ{t:TypeId}{n:Nat}(ha:TA P t true)(hs:TS P t n){l:List Int}(hl:l.length=n+1)(w:World):(part t (ints l).toArray 1).run P w=.ok (.agg (ints (l.drop 1)).toArray) w:=by
 unfold part;simp only[Sem.run_bind,ha w,Result.andThen_ok,bAX,hs w,Sem.run_pure];congr 2;apply Array.ext';simp only[Array.toList_extract,List.extract_eq_take_drop,ints,List.map_drop];rw[aZP Yaj]
theorem KA.key{k:TypeId}{n:Nat}(h:KA P k n):BN P k (X2 (n:=n+1)):=by
 obtain⟨f0,f1,e,hu,hst,hf,n0,n1,o0,o1,t0,t1,te,hc,ha,hs,hse⟩:=h;have hsplit:∀a:uW (n+1),∃x r,a.l=x::r∧r.length=n:=by
  rintro⟨l,hl⟩;cases l with
  |nil=>simp at hl
  |cons x r=>exact⟨x,r,rfl,by simpa using hl⟩
 have p0:∀(x:Int) (r:List Int) (w:World),(part f0.type (ints (x::r)).toArray f0.offset).run P w=.ok (qI x) w:=fun x r w=>dA t0 (by rw[o0];rfl) w
 have p1:∀(x:Int) (r:List Int) (w:World),r.length=n→(part f1.type (ints (x::r)).toArray f1.offset).run P w=.ok (.agg (ints r).toArray) w:=fun x r w hr=>by
  rw[o1];exact aFZ ha hs (l:=x::r) (by simp[hr]) w
 refine⟨⟨_,hu⟩,fun a b w=>?_,fun em a w=>?_,fun a=>?_,fun a=>⟨_,rfl⟩⟩
 ·obtain⟨x,r,ea,hr⟩:=hsplit a;obtain⟨x',r',eb,hr'⟩:=hsplit b;have he:=run_equalIn_struct (P:=P) w 9999 k (ints (x::r)).toArray (ints (x'::r')).toArray hu hst;have hab:decide (a=b)=((x==x')&&(r==r')):=by
   rw[bCG];simp only[aZI,aYT,bDR];constructor
   ·rintro rfl;rw[ea]at eb;exact List.cons.inj eb
   ·rintro⟨h1,h2⟩;obtain⟨la,ha'⟩:=a;obtain⟨lb,hb'⟩:=b;simp only at ea eb;subst ea eb h1 h2;rfl
  show(Op.equalIn (9999+1) k (.agg (ints a.l).toArray) (.agg (ints b.l).toArray)).run P w=_;rw[ea,eb,he,hf,hab];have e0:=run_equalIn_int w 9998 f0.type .i64 .i64 x x' t0;obtain⟨inf,hinf⟩:=info_of_underlying te;have G:=run_equalIn_array (P:=P) w 9998 (ints r).toArray (ints r').toArray t1 hinf;rw[hc,lZ 9997 te r r' w (List.range n) (fun j hj=>by have:=bBF.1 hj;omega),xJ hr hr']at G
  have I:(Op.eqFields 9999 (ints (x::r)).toArray (ints (x'::r')).toArray [f1]).run P w=.ok (r==r') w:=by
   simp only[Op.eqFields,n1,ne_eq,bDD,bAX,Sem.run_bind,p1 _ _ _ hr,p1 _ _ _ hr',Result.andThen_ok];rw[G];simp only[Result.andThen_ok];cases r==r'<;>rfl
  show(Op.eqFields 9999 (ints (x::r)).toArray (ints (x'::r')).toArray (f0::[f1])).run P w=_;rw[Op.eqFields,aZK n0];simp only[Sem.run_bind,p0,Result.andThen_ok];rw[e0];simp only[Result.andThen_ok];cases hx:x==x' with
  |true=>
   simp only[Bool.not_true,bAE,bBH,bCR];rw[I]
  |false=>simp only[Bool.not_false,bAX,Sem.run_pure,Bool.false_and]
 ·obtain⟨x,r,ea,hr⟩:=hsplit a;have c0:(Instr.checkKey em (9998+1) f0.type (qI x)).run P w=.ok () w:=by
   rw[Instr.checkKey,Sem.run_bind,TU.of t0 w];rfl
  have ce:∀m:Int,(Instr.checkKey em (9997+1) e (qI m)).run P w=.ok () w:=fun m=>by
   rw[Instr.checkKey,Sem.run_bind,TU.of te w];rfl
  have c1:(Instr.checkKey em (9998+1) f1.type (.agg (ints r).toArray)).run P w=.ok () w:=by
   rw[Instr.checkKey,Sem.run_bind,TU.of t1 w];simp only[Result.andThen_ok];rw[Std.Legacy.Range.forIn_eq_forIn_range'];have key:∀(is:List Nat),(∀i∈is,i<n)→((forIn is PUnit.unit fun i _=>do Instr.checkKey em 9998 e (←part e (ints r).toArray (i*(←sizeOf e)));Pure.pure (ForInStep.yield PUnit.unit):Sem PUnit)).run P w=.ok PUnit.unit w:=by
    intro is;induction is with
    |nil=>intro _;rfl
    |cons i is ih=>
     intro hi;have hlt:=hi i LT;have g1:(ints r).toArray[i*1]?= some (qI r[i]):=by rw[bBQ];simpa using cD (aYU (show i<r.length by omega))
     rw[List.forIn_cons];simp only[Sem.run_bind,hse w,Result.andThen_ok,dA te g1];rw[ce];simp only[Result.andThen_ok,Sem.run_pure];exact ih fun j hj=>hi j (n5 _ hj)
   have:=key (List.range' 0 n) (fun i hi=>by simpa using hi);simpa using this
  show(Instr.checkKey em (9999+1) k (.agg (ints a.l).toArray)).run P w=_;rw[ea,Instr.checkKey,Sem.run_bind,TU.of hu w];simp only[Result.andThen_ok];rw[hf,←Array.forIn_toList];simp only[List.forIn_cons,List.forIn_nil,n0,n1,ne_eq,bDD,bAX,Sem.run_bind,p0,Result.andThen_ok,Sem.run_pure];rw[c0];simp only[Result.andThen_ok,Sem.run_pure,Sem.run_bind,p1 _ _ _ hr];rw[c1];simp[Sem.run_pure,Result.andThen_ok]
 ·show Instr.sameBits (9999+1) (.agg (ints a.l).toArray) (.agg (ints a.l).toArray)=true;simp only[Instr.sameBits,beq_self_eq_true,bCR,aZN];rintro⟨p,q⟩ hpq;obtain⟨i,hi⟩:=bBW.1 hpq;rw[bDV]at hi;obtain⟨h1,h2⟩:=hi;simp only at h1 h2;rw[h1]at h2;obtain rfl:=aZO h2;have:p∈ints a.l:=LE (by simpa using h1);obtain⟨m,_,rfl⟩:=GT.1 this;simp[Instr.sameBits]
structure jY(P:Program)(f:Field)(o n:Nat):Prop where
 name:f.name≠ "_"
 eqp:∀(l m:List Int) w,o+n≤l.length→o+n≤m.length→∃u v,(part f.type (ints l).toArray f.offset).run P w=.ok u w∧(part f.type (ints m).toArray f.offset).run P w=.ok v w∧(Op.equalIn 9999 f.type u v).run P w=.ok ((l.drop o).take n==(m.drop o).take n) w
inductive j2(P:Program):Nat→Nat→List Field→Prop
 |nil {o}:j2 P o o []
 |cons {o n e f fs} (h:jY P f o n) (r:j2 P (o+n) e fs):j2 P o e (f::fs)
theorem j2.le{o e:Nat}{fs:List Field}(h:j2 P o e fs):o≤e:=by
 induction h with
 |nil=>exact aZL _
 |cons _ _ ih=>omega
theorem AR(l m:List Int)(o n:Nat):(l.drop o==m.drop o)=(((l.drop o).take n==(m.drop o).take n)&&(l.drop (o+n)==m.drop (o+n))):=by
 rw[bCG];simp only[bDR,aYT];constructor
 ·intro h;exact⟨by rw[h],by rw[←List.drop_drop,←List.drop_drop,h]⟩
 ·rintro⟨h1,h2⟩;rw[←bBV n (l.drop o),←bBV n (m.drop o),h1,List.drop_drop,List.drop_drop,h2]
theorem IB(l m:List Int)(w:World){o e:Nat}{fs:List Field}(h:j2 P o e fs)(hl:l.length=e)(hm:m.length=e):(Op.eqFields 9999 (ints l).toArray (ints m).toArray fs).run P w=.ok (l.drop o==m.drop o) w:=by
 induction h with
 |nil=>
  rw[aZZ Yd,aZZ Yd];rfl
 | @cons o n e f fs h r ih=>
  have hle:=r.le;obtain⟨u,v,h1,h2,h3⟩:=h.eqp l m w Yd Yd;rw[Op.eqFields,aZK h.name];simp only[Sem.run_bind,h1,h2,Result.andThen_ok];rw[h3,AR l m o n];simp only[Result.andThen_ok];cases hx:(l.drop o).take n==(m.drop o).take n with
  |true=>
   simp only[Bool.not_true,bAE,bBH,bCR];exact ih hl hm
  |false=>simp only[Bool.not_false,bAX,Sem.run_pure,Bool.false_and]
theorem jY.int{f:Field}{o:Nat}(hn:f.name≠ "_")(ho:f.offset=o)(ht:P.underlying f.type=some (.int .i64)):jY P f o 1:=by
 refine⟨hn,fun l m w hl hm=>?_⟩;have h1:l[o]?= some (l[o]'Yd):=aYU _;have h2:m[o]?= some (m[o]'Yd):=aYU _;refine⟨qI l[o],qI m[o],dA ht (by rw[ho];simpa using cD h1) w,dA ht (by rw[ho];simpa using cD h2) w,?_⟩
 rw[run_equalIn_int w 9998 f.type .i64 .i64 _ _ ht];congr 1;have t1:(l.drop o).take 1=[l[o]]:=by rw[bAM (show o<l.length by omega)];rfl
 have t2:(m.drop o).take 1=[m[o]]:=by rw[bAM (show o<m.length by omega)];rfl
 rw[t1,t2];simp
theorem sH{t:TypeId}{n o:Nat}(ha:TA P t true)(hs:TS P t n){l:List Int}(_hl:o+n≤l.length)(w:World):(part t (ints l).toArray o).run P w=.ok (.agg (ints ((l.drop o).take n)).toArray) w:=by
 unfold part;simp only[Sem.run_bind,ha w,Result.andThen_ok,bAX,hs w,Sem.run_pure];congr 2;apply Array.ext';simp only[Array.toList_extract,List.extract_eq_take_drop,ints,List.map_drop,List.map_take];congr 1;omega
theorem jY.arr{f:Field}{o n:Nat}{e:TypeId}(hn:f.name≠ "_")(ho:f.offset=o)(ht:P.underlying f.type=some (.array n e))(he:P.underlying e=some (.int .i64))(hc:P.cellsOf e=1)(ha:TA P f.type true)(hs:TS P f.type n):jY P f o n:=by
 refine⟨hn,fun l m w hl hm=>⟨_,_,by rw[ho];exact sH ha hs hl w,by rw[ho];exact sH ha hs hm w,?_⟩⟩;obtain⟨i,hi⟩:=info_of_underlying he;have h:=run_equalIn_array (P:=P) w 9998 (ints ((l.drop o).take n)).toArray (ints ((m.drop o).take n)).toArray ht hi;have G:((l.drop o).take n).length=n:=by rw[bBI,bBT];omega
 have I:((m.drop o).take n).length=n:=by rw[bBI,bBT];omega
 rw[hc,lZ 9997 he _ _ w (List.range n) (fun j hj=>by have:=bBF.1 hj;omega),xJ G I]at h;exact h
def KS(P:Program)(t:TypeId)(n:Nat):Prop:=P.underlying t=some (.struct (P.fieldsOf t))∧P.stoodInHeld t=false∧P.eqGuardType P.depth t=false∧j2 P 0 n (P.fieldsOf t).toList
theorem X5{t:TypeId}{n:Nat}(h:KS P t n){l m:List Int}(hl:l.length=n)(hm:m.length=n)(w:World):(Op.equal t (.agg (ints l).toArray) (.agg (ints m).toArray)).run P w=.ok (l==m) w:=by
 have he:=run_equalIn_struct (P:=P) w 9999 t (ints l).toArray (ints m).toArray h.1 h.2.1;show(Op.equalIn (9999+1) t (.agg (ints l).toArray) (.agg (ints m).toArray)).run P w=_;rw[he,IB l m w h.2.2.2 hl hm];simp
theorem J4{t t':TypeId}{n:Nat}{l m:List Int}(ho:all[ix]?= some ⟨some d,.binOp .neq t x y t',ty,pos,aft,g⟩)(ht:KS P t n)(hl:l.length=n)(hm:m.length=n)(hx:ev σ x=some (.agg (ints l).toArray))(hy:ev σ y=some (.agg (ints m).toArray))(hN:Nat.blt d X.N=true)(hg:dE all σ g)
  (kk:WL P X bad all K Q os ((d,.bool (!(l==m)))::σ) μ Ds):WL P X bad all K Q ((fl,ix)::os) σ μ Ds:=
 HX ho (fun w=>by
  have hgd:(eqGuard .neq t x y (.agg (ints l).toArray) (.agg (ints m).toArray)).run P w=.ok () w:=by
   simp only[eqGuard,program];simp[Sem.run,ht.2.2.1,go_sem]
  rw[Sem.run_bind,hgd];show((do Pure.pure (Value.bool (!(←Op.equal t (.agg (ints l).toArray) (.agg (ints m).toArray))))):Sem Value).run P w=_;rw[Sem.run_bind,X5 ht hl hm];rfl) hx hy hN hg kk
namespace L2
open L1
open C2
open C1 (gW bX qO pB)
theorem rH{r:Int×Int}(h:fW r=true):0≤r.1∧r.1≤r.2∧r.2≤99:=by
 unfold fW eJ at h;simp only[aYT,aZI,bX]at h;omega
theorem eP(n lo hi:Int)(D:aC):Fn prog 181 #[qI n,qI lo,qI hi] D (fun _ v=>v=.bool (gW n lo hi)):=by
 refine Zs 15 func181 rfl (fun h0=>aA<|Zg rfl<|aL<|Za rfl<|Za rfl<|lE rfl rfl rfl rfl bDY<|Za rfl ?_);refine' dJ 4 (s:=10) (p:=14) rfl (fun G=>?_) (fun G=>?_) ?_;rotate_left
 ·refine Zb rfl<|Zb rfl<|lE rfl rfl rfl rfl ⟨_,rfl,rfl⟩<|Zad rfl ?_;exact aQ 3
 ·refine Zf rfl<|Zf rfl<|Zf rfl<|Zae rfl ?_;exact aQ 3
 refine Zg rfl<|aG ?_;exact aE rfl (fun D hD=>rfl)
theorem zV(n:Int)(D:aC):Fn prog 254 #[iV n] D (fun _ v=>v=.bool (eJ n)):=by
 refine Zs 5 func254 rfl (fun h0=>aA<|Zg rfl<|aL<|Za rfl<|Zc rfl (fun I G=>eP _ _ _ _)<|Zg rfl<|aG ?_);exact aE rfl (fun D hD=>rfl)
theorem lR(sv:Value)(x:Int)(xs:List Int)(D:aC)(hS:Sl D RI 1 sv (x::xs)):
  Fn prog 257 #[sv] D (fun _ v=>v=qI (xs.foldl min x)):=by
 refine Zs 5 func257 rfl (fun h0=>aA<|Zg rfl<|aL<|Za rfl<|Zc rfl (fun I G=>L1.m2 _ x xs _ (Sl.at RI.up G Yl Ye))<|Zg rfl<|aG ?_);exact aE rfl (fun D hD=>rfl)
theorem l7(r:Int×Int)(D:aC):Fn prog 253 #[kX r] D (fun _ v=>v=.bool (fW r)):=by
 refine Zs 18 func253 rfl (fun h0=>aA<|Zu rfl (fun q1 V O G=>Zg rfl<|aL<|Zh rfl mR rfl<|Zj 0 rfl aJ rfl G rfl<|Zh rfl oO rfl<|Zj 1 rfl aJ rfl G rfl<|lE rfl rfl rfl rfl bDY<|Za rfl ?_));refine' dJ 4 (s:=8) (p:=12) rfl (fun I=>?_) (fun I=>?_) ?_;rotate_left
 ·refine Zi rfl mR rfl<|Zk 0 rfl aJ rfl G rfl<|Zd rfl (fun Y R=>zV _ _)<|Zad rfl ?_;exact aQ 3
 ·refine Zf rfl<|Zf rfl<|Zf rfl<|Zae rfl ?_;exact aQ 3
 refine Za rfl ?_;refine' dJ 4 (s:=13) (p:=17) rfl (fun M=>?_) (fun M=>?_) ?_;rotate_left
 ·refine Zi rfl oO rfl<|Zk 1 rfl aJ rfl G rfl<|Zd rfl (fun Z U=>zV _ _)<|Zad rfl ?_;exact aQ 3
 ·refine Zf rfl<|Zf rfl<|Zf rfl<|Zae rfl ?_;exact aQ 3
 refine Zg rfl<|aG ?_;exact aE rfl (fun D hD=>rfl)
theorem VJ(r:Int×Int)(h:fW r=true)(D:aC):Fn prog 258 #[kX r] D (fun _ v=>v=qI (eW r)):=by
 have hb:=rH h;refine Zs 9 func258 rfl (fun h0=>aA<|Zu rfl (fun q1 M I G=>Zg rfl<|aL<|Zh rfl oO rfl<|Zj 1 rfl aJ rfl G rfl<|Zh rfl mR rfl<|Zj 0 rfl aJ rfl G rfl<|Zan rfl<|Zaa rfl<|Zg rfl ?_));refine aG ?_;exact aE rfl (fun D hD=>rfl)
theorem AF(r:Int×Int)(n:Int)(D:aC):Fn prog 262 #[kX r,qI n] D (fun _ v=>v=.bool (gW n r.1 r.2)):=by
 refine Zs 11 func262 rfl (fun h0=>aA<|Zu rfl (fun q1 O I G=>Zg rfl<|aL<|Za rfl<|Zh rfl mR rfl<|Zj 0 rfl aJ rfl G rfl<|Zh rfl oO rfl<|Zj 1 rfl aJ rfl G rfl<|Zc rfl (fun R M=>eP _ _ _ _)<|Zg rfl ?_));refine aG ?_;exact aE rfl (fun D hD=>rfl)
theorem sK(r:Int×Int)(n:Int)(D:aC):Fn prog 183 #[kX r,qI n] D (fun _ v=>v=kX (min r.1 n,max r.2 n)):=by
 refine Zs 15 func183 rfl (fun h0=>aA<|Zu rfl (fun q1 Z Y M=>Zx rfl iH rfl (fun q2=>bT<|lI [] 4 [0,1,2,5,6,7,8,3,4,9,10] [false,false,true,true,true,true,true,true,true,false,false] [(false,0),(false,1),(true,2),(true,5),(true,6),(true,7),(true,8),(true,3),(true,4),(false,9),(false,10)] bI (fun _ _ _ h=>kL (P:=prog) (fn:=f183) _ _ _ h) Yg rfl<|Zh rfl mR rfl<|Zj 0 rfl aJ rfl M rfl<|Za rfl<|Zh rfl oO rfl<|Zj 1 rfl aJ rfl M rfl<|Za rfl ?_)));refine qW rfl rfl rfl rfl bDY<|Zp rfl U25 aM dS rfl (.cons rfl rfl (.cons rfl rfl .nil)) (fun U V O G=>?_);have I:=Sl.ofInts (l:=[_,_]) (n:=2) (cap:=2) G rfl Yd Yd;refine Zc rfl (fun D1 R=>lR _ r.1 [n] _ (I.up RI.up (R _ Ye)))<|Zr [qI (min r.1 n),qI (max r.2 n)] rfl H9 iH rfl<|Zt rfl cB (bR.head)<|aG ?_;exact cS (vs:=[_]) rfl rfl rfl ⟨⟨_,_,_,rfl,Mm0,aYZ ⟨jQ,(by first|exact cB|(simp only[aZV,aO, *];exact cB)),rfl⟩⟩,bDY⟩ (fun D hD=>rfl)
theorem UT(tv:Value)(t:aY)(n:Int)(D:aC)(ht:iJ D tv t):Fn prog 217 #[tv,qI n] D (fun _ v=>v=.bool (CU t.last n)):=by
 have ht0:=ht;obtain⟨hv,lv,mv,rfl,hh,hl,hm⟩:=ht;have hll:=hl.len;refine Zs 9 func217 rfl (fun h0=>aA<|Zu rfl (fun q1 O I G=>Zg rfl<|aL<|Za rfl<|Zh rfl jU rfl<|Zj 0 rfl aJ rfl G rfl<|Zc rfl (fun R M=>eP _ _ _ _)<|Zg rfl<|aG ?_));exact aE rfl (fun D hD=>rfl)
theorem aUM(tv:Value)(t:aY)(n:Int)(D:aC)(ht:iJ D tv t):Fn prog 91 #[tv,qI n] D (fun _ v=>v=.bool (gW n 0 ((t.levels.length:Int)-1))):=by
 have ht0:=ht;obtain⟨hv,lv,mv,rfl,hh,hl,hm⟩:=ht;have hll:=hl.len;refine Zs 11 func91 rfl (fun h0=>aA<|Zu rfl (fun q1 O I G=>Zg rfl<|aL<|Za rfl<|Zh rfl gR rfl<|Zj 3 rfl dN rfl G rfl<|cZ rfl U25 rfl Yl rfl rfl bDY<|Zan rfl<|Zc rfl (fun R M=>eP _ _ _ _)<|Zg rfl ?_));refine aG ?_;exact aE rfl (fun D hD=>rfl)
theorem JQ(tv:Value)(t:aY)(a b:Int)(D:aC)(ht:iJ D tv t):Fn prog 136 #[tv,qI a,qI b] D (fun _ v=>v=.bool (tJ t.last a b)):=by
 have ht0:=ht;obtain⟨hv,lv,mv,rfl,hh,hl,hm⟩:=ht;have hll:=hl.len;refine Zs 20 func136 rfl (fun h0=>aA<|Zu rfl (fun q1 V U G=>Zg rfl<|aL<|Zq rfl iI rfl G gT<|Za rfl<|Zc rfl (fun Y I=>UT _ t _ _ (ht0.up (I _ Ye)))<|Za rfl ?_));refine' dJ 4 (s:=10) (p:=14) rfl (fun M=>?_) (fun M=>?_) ?_;rotate_left
 ·refine dQ rfl iI rfl G Yc gT n3 rfl ⟨_,rfl,rfl⟩<|Zb rfl<|Zd rfl (fun Z O=>UT _ t _ _ (ht0.up (O _ Ye)))<|Zad rfl ?_;exact aQ 3
 ·refine Zf rfl<|Zf rfl<|Zf rfl<|Zae rfl ?_;exact aQ 3
 refine Za rfl ?_;refine' dJ 4 (s:=15) (p:=19) rfl (fun R=>?_) (fun R=>?_) ?_;rotate_left
 ·refine Zb rfl<|Zb rfl<|lE rfl rfl rfl rfl ⟨_,rfl,rfl⟩<|Zad rfl ?_;exact aQ 3
 ·refine Zf rfl<|Zf rfl<|Zf rfl<|Zae rfl ?_;exact aQ 3
 refine Zg rfl<|aG ?_;exact aE rfl (fun D hD=>rfl)
theorem aOS(tv:Value)(t:aY)(m:Mk)(D:aC)(ht:iJ D tv t):Fn prog 251 #[tv,aWI m] D (fun _ v=>v=.bool (uY t.last m)):=by
 have ht0:=ht;obtain⟨hv,lv,mv,rfl,hh,hl,hm⟩:=ht;refine Zs 16 func251 rfl (fun h0=>aA<|Zu rfl (fun q1 Y R I=>Zu rfl (fun q2 Z U G=>Zg rfl<|aL<|Zq rfl iI rfl I gT<|Zh rfl BT rfl<|Zj 0 rfl aJ rfl G rfl<|Zh rfl CB rfl<|Zj 1 rfl aJ rfl G rfl<|Zc rfl (fun D1 M=>JQ _ t _ _ _ (ht0.up (M _ Ye))) ?_)));refine Za rfl ?_;refine' dJ 4 (s:=11) (p:=15) rfl (fun O=>?_) (fun O=>?_) ?_;rotate_left
 ·refine Zi rfl EJ rfl<|dW rfl (k:=2) jQ cB rfl G Yc rfl rfl n3 rfl ⟨_,rfl,rfl⟩<|Zd rfl (fun D2 V=>l7 (m.lo,m.hi) _)<|Zad rfl ?_;exact aQ 3
 ·refine Zf rfl<|Zf rfl<|Zf rfl<|Zae rfl ?_;exact aQ 3
 refine Zg rfl<|aG ?_;exact aE rfl (fun D hD=>rfl)
theorem uO(sv fv:Value)(xs:List (Int×Int))(p:(Int×Int)→Bool)(D:aC)(hS:Sl D Z7 2 sv xs)(hp:cX prog D kX fv p):
  Fn prog 370 #[sv,fv] D (fun _ v=>v=qI (idxOf p xs)):=by
 have hl:=hS.len;obtain⟨f,c1,c2,rfl,hf⟩:=hp;refine Zs 19 func370 rfl (fun h0=>aA<|Zg rfl<|bJ<|Za rfl<|cZ rfl U29 rfl Yl rfl rfl bDY<|Za rfl<|aF<|Zar<|Zl Nat (fun k=>xs.length-k) (fun k=>k≤xs.length∧(xs.take k).any p=false) (fun k=>[(8,qI k)]) [(7,_),(4,_),(0,_),(1,_)] (fun k=>[D]) 0 ⟨Yb,bDY⟩ ?_);rintro k ⟨h1,h2⟩;refine aA<|Zai rfl<|bT<|Zz rfl (fun G=>?_) (fun G=>?_)
 ·have hk:k<xs.length:=by omega
  obtain⟨x,hx⟩:=dV xs k;refine aT<|aS<|Zar<|aA<|Za rfl<|Zg rfl<|aL<|Za rfl<|Za rfl<|Za rfl<|eY rfl U29 cB rfl Yl rfl Yd Yl rfl bDY (fun V o1 I M U O=>?_);obtain rfl:I=[qI _,qI _]:=M;refine Zq rfl jQ rfl O cB<|Zc rfl (fun Y R=>hf x _ (R _ Ye))<|aF<|aP rfl (fun hc2=>?_) (fun hc2=>?_)
  ·refine aA<|Za rfl<|Zg rfl<|aG<|Zau<|Zap<|Zap<|Zau<|Zap ?_;exact aE rfl (fun D hD=>by show Value.int _ _=_;rw[L1.kA hx h2 hc2])
  ·refine bM<|Zat<|Zaq<|aU<|Zaa rfl<|Za rfl<|Zah ?_;have hpx:p x=false:=hc2;have h3:(xs.take (k+1)).any p=false:=by rw[aZG,hx,bCF,h2];simp[hpx]
   exact aK 12 (k+1) ⟨by omega,h3⟩ Yd ⟨Yb,bDY⟩ rfl rfl Mm5 (aH)
 ·refine aW<|Zas<|Zas<|Zav<|Zaq<|aA<|Zg rfl<|aG ?_;exact aE rfl (fun D hD=>by show Value.int _ _=_;rw[L1.gE Yab])
theorem pR(sv fv:Value)(xs:List (Int×Int))(p:(Int×Int)→Bool)(D:aC)(hS:Sl D Z7 2 sv xs)(hp:cX prog D kX fv p):
  Fn prog 331 #[sv,fv] D (fun _ v=>v=.bool (xs.any p)):=by
 refine Zs 9 func331 rfl (fun h0=>aA<|Zg rfl<|aL<|Za rfl<|Za rfl<|Zc rfl (fun I G=>uO _ _ xs p _ (Sl.at Z7.up G Yl Ye) (hp.up (G _ Ye)))<|tC rfl rfl rfl rfl bDY<|Zg rfl<|aG ?_);exact aE rfl (fun D hD=>by show Value.bool (decide _)=_;rw[L1.jT])
theorem x8(b:Nat)(fv:Value)(p:(Int×Int)→Bool)(x:(Int×Int))(D:aC)(hp:cX prog D kX fv p)(hB:At D b 0 [fv]):
  Fn prog 332 #[kX x,qP b] D (fun _ v=>v=.bool (!p x)):=by
 obtain⟨f,c1,c2,rfl,hf⟩:=hp;refine Zs 8 func332 rfl (fun h0=>aA<|Zu rfl (fun q1 O M G=>Zg rfl<|aL<|Zj 0 rfl aRJ rfl hB rfl<|Zq rfl jQ rfl G cB<|Zc rfl (fun R I=>hf x _ (I _ Ye))<|Zal rfl<|Zg rfl<|aG ?_));exact aE rfl (fun D hD=>rfl)
theorem GK(sv fv:Value)(xs:List (Int×Int))(p:(Int×Int)→Bool)(D:aC)(hS:Sl D Z7 2 sv xs)(hp:cX prog D kX fv p)(h1:fv.cells=#[fv]):
  Fn prog 252 #[sv,fv] D (fun _ v=>v=.bool (xs.all p)):=by
 refine Zs 9 func252 rfl (fun h0=>aA<|rC (vs:=[fv]) rfl rfl h1 rfl bDY (fun b I G hB=>Zg rfl<|aL<|Za rfl<|Zao rfl<|Zc rfl (fun I G=>pR _ _ xs (fun x=> !p x) _ (Sl.at Z7.up G Yl Ye) ⟨_,[],[qP b],rfl,fun x M hl=>x8 b fv p x M (hp.up ((G _ Ye).trans hl)) (hB.up ((G _ Ye).trans hl))⟩)<|Zal rfl<|Zg rfl<|aG ?_));exact aE rfl (fun D hD=>by show Value.bool (!_)=_;rw[L1.nI])
theorem BA(sv fv:Value)(xs:List Mk)(p:Mk→Bool)(D:aC)(hS:Sl D KX 4 sv xs)(hp:cX prog D aWI fv p):
  Fn prog 371 #[sv,fv] D (fun _ v=>v=qI (idxOf p xs)):=by
 have hl:=hS.len;obtain⟨f,c1,c2,rfl,hf⟩:=hp;refine Zs 19 func371 rfl (fun h0=>aA<|Zg rfl<|bJ<|Za rfl<|cZ rfl U30 rfl Yl rfl rfl bDY<|Za rfl<|aF<|Zar<|Zl Nat (fun k=>xs.length-k) (fun k=>k≤xs.length∧(xs.take k).any p=false) (fun k=>[(8,qI k)]) [(7,_),(4,_),(0,_),(1,_)] (fun k=>[D]) 0 ⟨Yb,bDY⟩ ?_);rintro k ⟨h1,h2⟩;refine aA<|Zai rfl<|bT<|Zz rfl (fun G=>?_) (fun G=>?_)
 ·have hk:k<xs.length:=by omega
  obtain⟨x,hx⟩:=dV xs k;refine aT<|aS<|Zar<|aA<|Za rfl<|Zg rfl<|aL<|Za rfl<|Za rfl<|Za rfl<|eY rfl U30 iG rfl Yl rfl Yd Yl rfl bDY (fun V o1 I M U O=>?_);obtain rfl:I=[qI _,qI _,qI _,qI _]:=M;refine Zq rfl P5 rfl O iG<|Zc rfl (fun Y R=>hf x _ (R _ Ye))<|aF<|aP rfl (fun hc2=>?_) (fun hc2=>?_)
  ·refine aA<|Za rfl<|Zg rfl<|aG<|Zau<|Zap<|Zap<|Zau<|Zap ?_;exact aE rfl (fun D hD=>by show Value.int _ _=_;rw[L1.kA hx h2 hc2])
  ·refine bM<|Zat<|Zaq<|aU<|Zaa rfl<|Za rfl<|Zah ?_;have hpx:p x=false:=hc2;have h3:(xs.take (k+1)).any p=false:=by rw[aZG,hx,bCF,h2];simp[hpx]
   exact aK 12 (k+1) ⟨by omega,h3⟩ Yd ⟨Yb,bDY⟩ rfl rfl Mm5 (aH)
 ·refine aW<|Zas<|Zas<|Zav<|Zaq<|aA<|Zg rfl<|aG ?_;exact aE rfl (fun D hD=>by show Value.int _ _=_;rw[L1.gE Yab])
theorem V7(sv fv:Value)(xs:List Mk)(p:Mk→Bool)(D:aC)(hS:Sl D KX 4 sv xs)(hp:cX prog D aWI fv p):
  Fn prog 334 #[sv,fv] D (fun _ v=>v=.bool (xs.any p)):=by
 refine Zs 9 func334 rfl (fun h0=>aA<|Zg rfl<|aL<|Za rfl<|Za rfl<|Zc rfl (fun I G=>BA _ _ xs p _ (Sl.at KX.up G Yl Ye) (hp.up (G _ Ye)))<|tC rfl rfl rfl rfl bDY<|Zg rfl<|aG ?_);exact aE rfl (fun D hD=>by show Value.bool (decide _)=_;rw[L1.jT])
theorem aDW(b:Nat)(fv:Value)(p:Mk→Bool)(x:Mk)(D:aC)(hp:cX prog D aWI fv p)(hB:At D b 0 [fv]):
  Fn prog 335 #[aWI x,qP b] D (fun _ v=>v=.bool (!p x)):=by
 obtain⟨f,c1,c2,rfl,hf⟩:=hp;refine Zs 8 func335 rfl (fun h0=>aA<|Zu rfl (fun q1 O M G=>Zg rfl<|aL<|Zj 0 rfl aQD rfl hB rfl<|Zq rfl P5 rfl G iG<|Zc rfl (fun R I=>hf x _ (I _ Ye))<|Zal rfl<|Zg rfl<|aG ?_));exact aE rfl (fun D hD=>rfl)
theorem aOC(sv fv:Value)(xs:List Mk)(p:Mk→Bool)(D:aC)(hS:Sl D KX 4 sv xs)(hp:cX prog D aWI fv p)(h1:fv.cells=#[fv]):
  Fn prog 256 #[sv,fv] D (fun _ v=>v=.bool (xs.all p)):=by
 refine Zs 9 func256 rfl (fun h0=>aA<|rC (vs:=[fv]) rfl rfl h1 rfl bDY (fun b I G hB=>Zg rfl<|aL<|Za rfl<|Zao rfl<|Zc rfl (fun I G=>V7 _ _ xs (fun x=> !p x) _ (Sl.at KX.up G Yl Ye) ⟨_,[],[qP b],rfl,fun x M hl=>aDW b fv p x M (hp.up ((G _ Ye).trans hl)) (hB.up ((G _ Ye).trans hl))⟩)<|Zal rfl<|Zg rfl<|aG ?_));exact aE rfl (fun D hD=>by show Value.bool (!_)=_;rw[L1.nI])
theorem yC(b:Nat)(fv:Value)(p:Int→Bool)(x:Int)(D:aC)(hp:cX prog D iV fv p)(hB:At D b 0 [fv]):
  Fn prog 333 #[iV x,qP b] D (fun _ v=>v=.bool (!p x)):=by
 obtain⟨f,c1,c2,rfl,hf⟩:=hp;refine Zs 8 func333 rfl (fun h0=>aA<|Zg rfl<|aL<|Zj 0 rfl oV rfl hB rfl<|Za rfl<|Zc rfl (fun I G=>hf x _ (G _ Ye))<|Zal rfl<|Zg rfl<|aG ?_);exact aE rfl (fun D hD=>rfl)
theorem O4(sv fv:Value)(xs:List Int)(p:Int→Bool)(D:aC)(hS:Sl D RI 1 sv xs)(hp:cX prog D iV fv p)(h1:fv.cells=#[fv]):
  Fn prog 255 #[sv,fv] D (fun _ v=>v=.bool (xs.all p)):=by
 refine Zs 9 func255 rfl (fun h0=>aA<|rC (vs:=[fv]) rfl rfl h1 rfl bDY (fun b I G hB=>Zg rfl<|aL<|Za rfl<|Zao rfl<|Zc rfl (fun I G=>L1.mE _ _ xs (fun x=> !p x) _ (Sl.at RI.up G Yl Ye) ⟨_,[],[qP b],rfl,fun x M hl=>yC b fv p x M (hp.up ((G _ Ye).trans hl)) (hB.up ((G _ Ye).trans hl))⟩)<|Zal rfl<|Zg rfl<|aG ?_));exact aE rfl (fun D hD=>by show Value.bool (!_)=_;rw[L1.nI])
theorem aDP(sv:Value)(x:Int)(xs:List Int)(D:aC)(hS:Sl D RI 1 sv (x::xs)):
  Fn prog 314 #[sv] D (fun _ v=>v=qI (xs.foldl max x)):=by
 have hl:=hS.len;simp only[aYW]at hl;refine Zs 25 func314 rfl (fun h0=>aA<|Zg rfl<|bJ<|Za rfl<|cZ rfl U25 rfl Yl rfl rfl bDY<|Zai rfl<|aF<|Zz rfl (fun G=>?_) (fun G=>?_))
 ·exact absurd G (by simp only[aYW];omega)
 ·refine aT<|aA<|Za rfl<|eY rfl U25 aM rfl Yl rfl Yd Yax rfl bDY (fun b1 o1 I M Y O=>?_);obtain rfl:I=[qI _]:=M;refine Zj 0 rfl aJ rfl O rfl<|Zg rfl<|bJ<|Zg rfl<|aF<|Zar<|gX (γ:=Nat) (fun k=>xs.length-k) (fun k=>k≤xs.length) (fun k=>[(3,qI ((xs.take k).foldl max x)),(4,qI (k+1:Int))]) [(2,_),(0,_)] (fun k=>[D]) 0 Yd ⟨Yb,Yb,bDY⟩ cQ (aH) ?_;rintro k h1;refine eH<|Za rfl<|Za rfl<|cZ rfl U25 rfl Yl rfl rfl bDY<|Zai rfl<|aF<|Zz rfl (fun hc2=>?_) (fun hc2=>?_)
  ·simp only[aYW]at hc2;have hk:k<xs.length:=by omega
   obtain⟨y,hy⟩:=dV xs k;have hB:(x::xs)[(k+1:Int).toNat]?= some y:=by rw[show((k:Int)+1).toNat=k+1 by omega];simpa using hy
   refine aT<|aS<|Zar<|aU<|Za rfl<|Za rfl<|Za rfl<|eY rfl U25 aM rfl Yl rfl Yd Yl rfl bDY (fun b2 o2 R U Z V=>?_);obtain rfl:R=[qI _]:=U;refine Zj 0 rfl aJ rfl V rfl<|qW rfl rfl rfl rfl bDY<|Zg rfl<|Zah<|Zat<|Zaq<|aU<|Za rfl<|Zaa rfl<|Zg rfl<|Zah ?_;have h3:(xs.take (k+1)).foldl max x=max ((xs.take k).foldl max x) y:=by rw[aZG,hy,bAN];rfl
   exact aK 16 (k+1) Yd Yd ⟨(by rw[h3];rfl),Yb,bDY⟩ rfl rfl Mm5 (aH)
  ·simp only[aYW]at hc2;refine aW<|Zas<|Zas<|Zav<|Zaq<|aA<|Za rfl<|Zg rfl<|aG ?_;exact aE rfl (fun D hD=>by show Value.int _ _=_;rw[aZP Yd])
end L2
theorem K2.key{k:TypeId}(h:K2 P k):BN P k kX:=by
 refine⟨⟨_,h.1⟩,fun a b w=>?_,fun em a w=>Z4 h em a w,fun a=>?_,fun a=>⟨_,rfl⟩⟩
 ·rw[N7 h];congr 1;by_cases e:a=b
  ·subst e;simp
  ·simp[e]
 ·simp[kX,Instr.sameBits]

theorem TD{em:Bool}{t e:TypeId}{n:Nat}(t1:P.underlying t=some (.array n e))(te:P.underlying e=some (.int .i64))(hse:TS P e 1){r:List Int}(hr:r.length=n)(w:World):(Instr.checkKey em (9998+1) t (.agg (ints r).toArray)).run P w=.ok () w:=by
 have ce:∀m:Int,(Instr.checkKey em (9997+1) e (qI m)).run P w=.ok () w:=fun m=>by
  rw[Instr.checkKey,Sem.run_bind,TU.of te w];rfl
 rw[Instr.checkKey,Sem.run_bind,TU.of t1 w];simp only[Result.andThen_ok];rw[Std.Legacy.Range.forIn_eq_forIn_range'];have key:∀(is:List Nat),(∀i∈is,i<n)→((forIn is PUnit.unit fun i _=>do Instr.checkKey em 9998 e (←part e (ints r).toArray (i*(←sizeOf e)));Pure.pure (ForInStep.yield PUnit.unit):Sem PUnit)).run P w=.ok PUnit.unit w:=by
  intro is;induction is with
  |nil=>intro _;rfl
  |cons i is ih=>
   intro hi;have hlt:=hi i LT;have g1:(ints r).toArray[i*1]?= some (qI r[i]):=by rw[bBQ];simpa using cD (aYU (show i<r.length by omega))
   rw[List.forIn_cons];simp only[Sem.run_bind,hse w,Result.andThen_ok,dA te g1];rw[ce];simp only[Result.andThen_ok,Sem.run_pure];exact ih fun j hj=>hi j (n5 _ hj)
 have:=key (List.range' 0 n) (fun i hi=>by simpa using hi);simpa using this
def KM(P:Program)(k:TypeId)(n:Nat):Prop:=∃f0 f1 f2 e,P.underlying k=some (.struct (P.fieldsOf k))∧P.fieldsOf k=#[f0,f1,f2]∧f0.name≠ "_" ∧f1.name≠ "_" ∧f2.name≠ "_" ∧f0.offset=0∧f1.offset=1∧f2.offset=n+1∧
 P.underlying f0.type=some (.int .i64)∧P.underlying f1.type=some (.array n e)∧P.underlying f2.type=some (.array n e)∧P.underlying e=some (.int .i64)∧TA P f1.type true∧TS P f1.type n∧TA P f2.type true∧TS P f2.type n∧TS P e 1
theorem KM.key{k:TypeId}{n:Nat}(h:KM P k n)(hks:KS P k (n+n+1)):BN P k (X2 (n:=n+n+1)):=by
 obtain⟨f0,f1,f2,e,hu,hf,n0,n1,n2,o0,o1,o2,t0,t1,t2,te,G,I,a2,M,hse⟩:=h;refine⟨⟨_,hu⟩,fun a b w=>?_,fun em a w=>?_,fun a=>?_,fun a=>⟨_,rfl⟩⟩
 ·have:=X5 (P:=P) hks a.h b.h w;show(Op.equal k (.agg (ints a.l).toArray) (.agg (ints b.l).toArray)).run P w=_;rw[this];congr 1;obtain⟨la,ha⟩:=a;obtain⟨lb,hb⟩:=b;rw[bCG];simp
 ·have hl:=a.h;have c0:∀x:Int,(Instr.checkKey em (9998+1) f0.type (qI x)).run P w=.ok () w:=fun x=>by
   rw[Instr.checkKey,Sem.run_bind,TU.of t0 w];rfl
  obtain⟨x,hx⟩:=dV a.l 0;have p0:(part f0.type (ints a.l).toArray f0.offset).run P w=.ok (qI x) w:=dA t0 (by rw[o0];simpa using cD hx) w
  have p1:(part f1.type (ints a.l).toArray f1.offset).run P w=.ok (.agg (ints ((a.l.drop 1).take n)).toArray) w:=by rw[o1];exact sH G I Yd w
  have p2:(part f2.type (ints a.l).toArray f2.offset).run P w=.ok (.agg (ints ((a.l.drop (n+1)).take n)).toArray) w:=by rw[o2];exact sH a2 M Yd w
  have c1:=TD (em:=em) t1 te hse (r:=(a.l.drop 1).take n) Yau w;have c2:=TD (em:=em) t2 te hse (r:=(a.l.drop (n+1)).take n) Yau w;show(Instr.checkKey em (9999+1) k (.agg (ints a.l).toArray)).run P w=_;rw[Instr.checkKey,Sem.run_bind,TU.of hu w];simp only[Result.andThen_ok];rw[hf,←Array.forIn_toList];simp only[List.forIn_cons,List.forIn_nil,n0,n1,n2,ne_eq,bDD,bAX,Sem.run_bind,p0,Result.andThen_ok,Sem.run_pure];rw[c0];simp only[Result.andThen_ok,Sem.run_pure,Sem.run_bind,p1];rw[c1];simp only[Result.andThen_ok,Sem.run_pure,Sem.run_bind,p2];rw[c2];simp[Sem.run_pure,Result.andThen_ok]
 ·show Instr.sameBits (9999+1) (.agg (ints a.l).toArray) (.agg (ints a.l).toArray)=true;simp only[Instr.sameBits,beq_self_eq_true,bCR,aZN];rintro⟨p,q⟩ hpq;obtain⟨i,hi⟩:=bBW.1 hpq;rw[bDV]at hi;obtain⟨h1,h2⟩:=hi;simp only at h1 h2;rw[h1]at h2;obtain rfl:=aZO h2;have:p∈ints a.l:=LE (by simpa using h1);obtain⟨m,_,rfl⟩:=GT.1 this;simp[Instr.sameBits]
def aUO:Unit→Value:=fun _=>.bool true
structure vP(es:Array MapEntry)(clock:Nat)(S:List (Int×Int)):Prop where
 cells:C6 kX aUO es (S.map fun a=>(a,()))
 nd:(es.toList.map (·.born)).Nodup
 lt:∀e∈es.toList,e.born<clock
theorem vP.nil:vP #[] 0 []:=⟨rfl,bAV,fun e he=>by simp at he⟩
def JT(S:List (Int×Int))(a:Int×Int):List (Int×Int):=if a∈S then S else S++[a]
theorem aGO{S:List (Int×Int)}{a p:Int×Int}:p∈JT S a ↔ p∈S∨p=a:=by
 unfold JT;split
 ·rename_i h;exact⟨aZE,fun h'=>h'.elim id fun e=>e▸h⟩
 ·simp
theorem vP.key{es:Array MapEntry}{clock:Nat}{S:List (Int×Int)}(h:vP es clock S){e:MapEntry}(he:e∈es.toList):∃a∈S,e.key=kX a∧e.val=.bool true:=by
 have h1:=h.cells;unfold C6 at h1;obtain⟨i,hi⟩:=bBW.1 he;have h2:(es.toList.map fun e=>(e.key,e.val))[i]?= some (e.key,e.val):=by rw[aZT,hi];rfl
 rw[h1,bDQ,aZT]at h2;obtain⟨a,ha,hk⟩:=bBS.1 h2;simp only[Function.comp,bCQ]at hk;exact⟨a,LE ha,hk.1.symm,hk.2.symm⟩
theorem vP.ent{es:Array MapEntry}{clock:Nat}{S:List (Int×Int)}(h:vP es clock S){a:Int×Int}(ha:a∈S):∃e∈es.toList,e.key=kX a:=by
 have h1:=h.cells;unfold C6 at h1;obtain⟨i,hi⟩:=bBW.1 ha;have h2:((S.map fun a=>(a,())).map fun x=>(kX x.1,aUO x.2))[i]?= some (kX a,.bool true):=by rw[bDQ,aZT,hi];rfl
 rw[←h1,aZT]at h2;obtain⟨e,he,hk⟩:=bBS.1 h2;simp only[bCQ]at hk;exact⟨e,LE he,hk.1⟩
theorem aAI{S:List (Int×Int)}{a:Int×Int}:∀{i:Nat},yB a (S.map fun a=>(a,())) i=none→a∉S:=by
 induction S with
 |nil=>intro i _;exact n3
 |cons b S ih=>
  intro i h;simp only[aZR,yB]at h;split at h
  ·cases h
  ·rename_i hne;intro hm;rcases n4.1 hm with e|hm
   ·exact hne e
   ·exact ih h hm
theorem aVT{t k e:TypeId}{b clock:Nat}{es:Array MapEntry}{S:List (Int×Int)}{a:Int×Int}{A B:aD}(ho:all[ix]?= some ⟨none,.mapUpdate t x y z,ty,pos,aft,g⟩)(ht:P.underlying t=some (.map k e))(hk:K2 P k)
  (hx:ev σ x=some (.map (some b))) (hy:ev σ y=some (kX a)) (hz:ev σ z=some (.bool true)) (hM:vP es clock S) (hg:dE all σ g)
  (kk:∀es' clock',vP es' clock' (JT S a)→WL P X bad all K Q os σ (A++(b,.map es' clock')::B) Ds):WL P X bad all K Q ((false,ix)::os) σ (A++(b,.map es clock)::B) Ds:=by
 refine eZ ho rfl rfl hg fun a' w hh=>?_
 obtain⟨h1,h2,h3,D,h4,h5,V⟩:=id hh;have hw:=(h4.box (b,.map es clock) Ye).1;have hK:=hk.key;have run:∃es' clock',vP es' clock' (JT S a)∧(Instr.mapUpdate t (.map (some b)) (kX a) (.bool true)).run P w=.ok () {w with heap:=w.heap.setIfInBounds b (.map es' clock')}:=by
  have hf:=uS (wal:=aUO) hK a w hM.cells;have hset:∀o,(setObj b o).run P w=.ok () {w with heap:=w.heap.setIfInBounds b o}:=fun o=>by simp[setObj,Sem.run,hw]
  cases hp:yB a (S.map fun a=>(a,())) 0 with
  |none=>
   have hna:=aAI hp;refine⟨es.push {key:=kX a,val:=.bool true,born:=clock},clock+1,⟨?_,?_,?_⟩,?_⟩
   ·have hM':=hM.cells;unfold C6 at hM' ⊢
    unfold JT;rw[aZB hna,Array.toList_push,aZH,hM',aZH,aZH];rfl
   ·rw[Array.toList_push,aZH,aZC];refine⟨hM.nd,by simp,fun Y M b2 O=>?_⟩;obtain⟨R,G,rfl⟩:=GT.1 M;have:=hM.lt R G;simp only[aZR,bCT,aZM]at O;omega
   ·intro R G;rw[Array.toList_push]at G;rcases aZF.1 G with G|G
    ·have:=hM.lt R G;omega
    ·simp only[aZM]at G;subst G;exact Nat.lt_succ_self _
   ·unfold Instr.mapUpdate;simp only[Sem.run_bind,TU.of ht w,Result.andThen_ok,nP hw,hK.chk];rw[hf,hp];simp only[bBA,Result.andThen_ok,hset]
  |some r=>
   obtain⟨j,m⟩:=r;obtain⟨i,I,hi⟩:=B5 hp;rw[bCB]at I;subst I
   have hSj:S[j]?= some a:=by
    rw[aZT]at hi;obtain⟨a',ha',hk'⟩:=bBS.1 hi;rw[ha',(Prod.mk.inj hk').1]
   have hMi:∀i,(es.toList[i]?).map (fun e:MapEntry=>(e.key,e.val))=(S[i]?).map (fun x:Int×Int=>(kX x,Value.bool true)):=fun i=>by
    have:=hM.cells;unfold C6 at this;rw[←aZT,this,bDQ,aZT];rfl
   have hj:=hMi j;rw[hSj]at hj;obtain⟨e0,U,hke⟩:=bBS.1 hj;simp only[bCQ]at hke;have he0':es[j]?= some e0:=by simpa using U
   have hmod:es.modify j (fun e=>{e with key:=kX a,val:=.bool true})=es:=by
    apply Array.ext_getElem?;intro q;rw[Array.getElem?_modify];by_cases hjq:j=q
    ·subst hjq;simp only[he0',bAX,aZX];obtain⟨Z,v0,b0⟩:=e0;simp only at hke;rw[hke.1,hke.2]
    ·simp[hjq]
   refine⟨es,clock,?_,?_⟩
   ·unfold JT;rw[aZK (LE hSj)];exact hM
   ·have hks:(Instr.keyThatStays (kX a) (kX a)).run P w=.ok (kX a) w:=by
     have:Instr.sameBits 10000 (kX a) (kX a)=true:=hK.stay a;unfold Instr.keyThatStays;rw[aZK this,Sem.run_pure]
    unfold Instr.mapUpdate;simp only[Sem.run_bind,TU.of ht w,Result.andThen_ok,nP hw,hK.chk];rw[hf,hp];simp only[aZX,Result.andThen_ok,he0',bCH,hke.1,Sem.run_bind,hks,hset,hmod]
 obtain⟨es',clock',hM',hr⟩:=run;have hHas:bR (A++(b,Obj.map es clock)::B) b (.map es clock) (.map es' clock') (A++(b,.map es' clock')::B):=.app .head;have hs:=h4.set (w':={w with heap:=w.heap.setIfInBounds b (.map es' clock')}) hHas ⟨rfl,rfl⟩ trivial;have:(execOp a'.eval ⟨none,.mapUpdate t x y z,ty,pos,aft,g⟩).run P w=.ok .skip {w with heap:=w.heap.setIfInBounds b (.map es' clock')}:=by
  simp only[execOp,hh.eval hx,hh.eval hy,hh.eval hz,Sem.run_bind,hr,Result.andThen_ok,Sem.run_pure]
 rw[this];exact⟨fun h=>by simp at h,kk es' clock' hM' _ _ ⟨h1,h2,h3,D,hs,h5,V.step (fun _ p hp=>aZE Yq) (fun _=>kI ⟨rfl,rfl⟩ (GT.2 ⟨_,hHas.mem,rfl⟩)) hs.dom⟩⟩
theorem aKK{t k e:TypeId}{b clock:Nat}{es:Array MapEntry}(ho:all[ix]?= some ⟨some d,.range t x,ty,pos,aft,g⟩)(ht:P.underlying t=some (.map k e))(hx:ev σ x=some (.map (some b)))(hm:(b,Obj.map es clock)∈μ)(hN:Nat.blt d X.N=true)(hg:dE all σ g)
  (kk:∀r,WL P X bad all K Q os ((d,qP r)::σ) ((r,.mapIter (some b) clock #[] clock)::μ) Ds):WL P X bad all K Q ((fl,ix)::os) σ μ Ds:=by
 refine eZ ho rfl rfl hg fun a w hh=>?_
 obtain⟨h1,h2,h3,D,h4,h5,G⟩:=id hh;have:(execOp a.eval ⟨some d,.range t x,ty,pos,aft,g⟩).run P w=.ok (.value (.pointer (some ⟨w.heap.size,0,none⟩))) {w with heap:=w.heap.push (.mapIter (some b) clock #[] clock)}:=by
  simp only[execOp,hh.eval hx,Sem.run_bind,run_range_map w t k e b es clock ht (h4.box _ hm).1,Result.andThen_ok,Sem.run_pure];rfl
 rw[this];exact⟨fun _=>pJ _ _ _,kk _ _ _ (Hl.put ⟨h1,h2,h3,D,h4.push _ (show dB (.mapIter (some b) clock #[] clock)from bDY),h5,G.step (fun _ p hp=>by rcases n4.1 hp with rfl|hp;exact Or.inr (aZL _);exact Or.inl (GT.2 ⟨p,hp,rfl⟩)) (fun _=>R1 _ _) (h4.push _ (show dB (.mapIter (some b) clock #[] clock)from bDY)).dom⟩ hN _)⟩
theorem aLK{b r since c0 clock:Nat}{seen:Array Nat}{es:Array MapEntry}{A B:aD}(ho:all[ix]?= some ⟨some d,.next x false,ty,pos,aft,g⟩)(hx:ev σ x=some (qP r))(hm:(b,Obj.map es clock)∈A++(r,.mapIter (some b) since seen c0)::B)
  (hold:∀e∈es.toList,e.born<since) (hsc:since≤c0) (hN:Nat.blt d X.N=true) (hg:dE all σ g)
  (kk:∀(ok:Bool) (vs:Array Value) (o':Obj),vs.toList[0]?= some (.bool ok)→(ok=false→(leftOf es seen).size=0∧o'=.mapIter (some b) since seen c0)→(ok=true→∃e∈(leftOf es seen).toList,o'=.mapIter (some b) since (seen.push e.born) clock)→WL P X bad all K Q os ((d,.tuple vs)::σ) (A++(r,o')::B) Ds):
  WL P X bad all K Q ((false,ix)::os) σ (A++(r,.mapIter (some b) since seen c0)::B) Ds:=by
 refine eZ ho rfl rfl hg fun a w hh=>?_
 have G:=hh;obtain⟨h1,h2,h3,D,h4,h5,O⟩:=id hh;have hr:=(h4.box (r,.mapIter (some b) since seen c0) Ye).1;have hb:=(h4.box _ hm).1;rcases run_next_at (P:=P) w ty r b since c0 seen es clock hr hb hold hsc with⟨hl,hrun⟩|⟨e,he,w1,I,hrun⟩
 ·have:(execOp a.eval ⟨some d,.next x false,ty,pos,aft,g⟩).run P w=.ok (.value (.tuple #[.bool false])) w:=by
   simp only[execOp,hh.eval hx,Sem.run_bind,hrun,Result.andThen_ok,Sem.run_pure]
  rw[this];exact⟨fun h=>by simp at h,kk false _ _ rfl (fun _=>⟨hl,rfl⟩) (fun h=>by cases h) _ _ (G.put hN _)⟩
 ·have M:Hl X σ (A++(r,.mapIter (some b) since seen c0)::B) Ds a w1:=by
   rcases I with rfl|rfl
   ·exact G
   ·exact G.drew
  have:(execOp a.eval ⟨some d,.next x false,ty,pos,aft,g⟩).run P w=.ok (.value (.tuple #[.bool true,e.key,e.val])) (ChangeMaps.setBlock w1 r (.mapIter (some b) since (seen.push e.born) clock)):=by
   simp only[execOp,hh.eval hx,Sem.run_bind,hrun,Result.andThen_ok,Sem.run_pure]
  rw[this];obtain⟨h1,h2,h3,D,h4,h5,O⟩:=M;have hHas:bR (A++(r,Obj.mapIter (some b) since seen c0)::B) r (.mapIter (some b) since seen c0) (.mapIter (some b) since (seen.push e.born) clock) (A++(r,.mapIter (some b) since (seen.push e.born) clock)::B):=.app .head;have hs:=h4.set (w':=ChangeMaps.setBlock w1 r (.mapIter (some b) since (seen.push e.born) clock)) hHas ⟨rfl,rfl⟩ trivial;exact⟨fun h=>by simp at h,kk true _ _ rfl (fun h=>by cases h) (fun _=>⟨e,he,rfl⟩) _ _ (Hl.put ⟨h1,h2,h3,D,hs,h5,O.step (fun _ p hp=>aZE Yq) (fun _=>kI ⟨rfl,rfl⟩ (GT.2 ⟨_,hHas.mem,rfl⟩)) hs.dom⟩ hN _)⟩
theorem aGV{b r since clock:Nat}{seen:Array Nat}{es:Array MapEntry}{e:MapEntry}(ho:all[ix]?= some ⟨some d,.entry x,ty,pos,aft,g⟩)(hx:ev σ x=some (qP r))(hm:(b,Obj.map es clock)∈μ)(hr:(r,Obj.mapIter (some b) since (seen.push e.born) clock)∈μ)
  (he:e∈es.toList) (hn:(es.toList.map (·.born)).Nodup) (hN:Nat.blt d X.N=true) (hg:dE all σ g)
  (kk:WL P X bad all K Q os ((d,.tuple #[e.key,e.val])::σ) μ Ds):WL P X bad all K Q ((fl,ix)::os) σ μ Ds:=by
 refine eZ ho rfl rfl hg fun a w hh=>?_
 obtain⟨h1,h2,h3,D,h4,h5,G⟩:=id hh;have:(execOp a.eval ⟨some d,.entry x,ty,pos,aft,g⟩).run P w=.ok (.value (.tuple #[e.key,e.val])) w:=by
  simp only[execOp,hh.eval hx,Sem.run_bind,run_entry_at w r b since seen es clock e (h4.box _ hr).1 (h4.box _ hm).1 he hn,Result.andThen_ok,Sem.run_pure]
 rw[this];exact⟨fun _=>nZ.refl _ _,kk _ _ (hh.put hN _)⟩
theorem aBB{t e:TypeId}{n b l h:Nat}{G I:IntKind}{i j:Int}(ho:all[ix]?= some ⟨some d,.slice t x (some y) (some z) none,ty,pos,aft,g⟩)(ht:P.underlying t=some (.array n e))(hs:TS P e 1)(hx:ev σ x=some (qP b))
  (hy:ev σ y=some (.int G i)) (hz:ev σ z=some (.int I j)) (hi:i=(l:Int)) (hj:j=(h:Int)) (h1:l≤h) (h2:h≤n) (h3:l<n)
  (hN:Nat.blt d X.N=true) (hg:dE all σ g) (kk:WL P X bad all K Q os ((d,.slice (some ⟨b,l,none⟩) (h-l) (n-l))::σ) μ Ds):WL P X bad all K Q ((fl,ix)::os) σ μ Ds:=by
 subst hi;subst hj
 refine bQ ho rfl rfl hN hg (fun ρ hρ w'=>?_) kk;simp only[execOp,hρ x _ hx,hρ y _ hy,hρ z _ hz,bBA,aZX];unfold Instr.sliceAt Instr.sureAddr Instr.sliceBounds Instr.sliceBound asIntOf;have M:(0:Int)≤(l:Int)∧(l:Int)≤(h:Nat):=by omega
 have a2:(0:Int)≤(h:Int)∧(h:Int)≤(n:Nat):=by omega
 simp only[Sem.run_bind,TU.of ht w',Result.andThen_ok,hs w',Sem.run_pure,pure_bind,M,a2,bDO,bAX,bAK,bBQ];rw[aZB Yd];simp[Addr.add];exact fun h=>h.symm
theorem aDZ{t e:TypeId}{n b h:Nat}{G:IntKind}{j:Int}(ho:all[ix]?= some ⟨some d,.slice t x none (some z) none,ty,pos,aft,g⟩)(ht:P.underlying t=some (.array n e))(hs:TS P e 1)(hx:ev σ x=some (qP b))
  (hz:ev σ z=some (.int G j)) (hj:j=(h:Int)) (h2:h≤n)
  (hN:Nat.blt d X.N=true) (hg:dE all σ g) (kk:WL P X bad all K Q os ((d,qS b h n)::σ) μ Ds):WL P X bad all K Q ((fl,ix)::os) σ μ Ds:=by
 subst hj;refine bQ ho rfl rfl hN hg (fun ρ hρ w'=>?_) kk;simp only[execOp,hρ x _ hx,hρ z _ hz,bBA,aZX];unfold Instr.sliceAt Instr.sureAddr Instr.sliceBounds Instr.sliceBound asIntOf;have a2:(0:Int)≤(h:Int)∧(h:Int)≤(n:Nat):=by omega
 simp only[Sem.run_bind,TU.of ht w',Result.andThen_ok,hs w',Sem.run_pure,pure_bind,a2,bDO,bAX,bAK,bCS,bCM];split<;>simp[Addr.add]
theorem VA{D:aC}{b n l h:Nat}{c:List Int}(hA:At D b 0 (ints c))(hl:c.length=n)(h1:l≤h)(h2:h≤n)(hb:n≤9223372036854775807):Sl D RI 1 (.slice (some ⟨b,l,none⟩) (h-l) (n-l)) ((c.drop l).take (h-l)):=by
 have hlen:((c.drop l).take (h-l)).length=h-l:=by simp;omega
 refine⟨_,_,by rw[hlen],by omega,by omega,aYZ ⟨b,l,rfl,fun i x hi=>⟨_,rfl,rfl,fun j v hj=>?_⟩⟩⟩;rw[List.getElem?_take]at hi;split at hi
 ·rw[bBJ]at hi;cases j with
  |zero=>
   have h5:v=qI x:=by simpa using hj.symm
   subst h5;have:=hA (l+i) (qI x) (cD hi);simpa using this
  |succ j=>simp at hj
 ·cases hi
theorem aTR{γ:Type}(I:γ→Prop)(S:γ→Bool)(XX:γ→Cx)(M:γ→aD)(xs ys:List (Bool×Nat)){s p:Nat}{b:Bool}(hXr:∀g,(XX g).r=X.r)(ho:os=xs++ys)(hs:look σ s=some (.bool b))
  (hyes:b=true→WL P X bad all (fun a w=>∃g,I g∧Hl (XX g) ((p,.bool (S g))::(s,.bool true)::σ) (M g) Ds a w) Q xs ((s,.bool true)::σ) μ Ds)
  (hno:b=false→WL P X bad all (fun a w=>∃g,I g∧Hl (XX g) ((p,.bool (S g))::(s,.bool false)::σ) (M g) Ds a w) Q xs ((s,.bool false)::σ) μ Ds)
  (k:∀g,I g→WL P (XX g) bad all K Q ys ((p,.bool (S g))::σ) (M g) Ds):WL P X bad all K Q os σ μ Ds:=by
 have hsub:∀u,Value.bool b=u→∀a w,Hl X σ μ Ds a w→Hl X ((s,u)::σ) μ Ds a w:=by
  rintro _ rfl a w ⟨h1,h2,h3⟩;refine⟨h1,fun t v ht=>?_,h3⟩;simp only[look]at ht;cases hb:Nat.beq s t with
  |true=>rw[hb]at ht;cases ht;obtain rfl:=bAF hb;exact h2 _ _ hs
  |false=>rw[hb]at ht;exact h2 _ _ ht
 have hback:∀(X:Cx) u v μ',Value.bool b=u→∀a w,Hl X ((p,v)::(s,u)::σ) μ' Ds a w→Hl X ((p,v)::σ) μ' Ds a w:=by
  rintro X _ v μ' rfl a w ⟨h1,h2,h3⟩;refine⟨h1,fun t v' ht=>?_,h3⟩;refine h2 t v' ?_;simp only[look]at ht ⊢
  cases hp:Nat.beq p t with
  |true=>rw[hp]at ht;exact ht
  |false=>
   rw[hp]at ht;cases hb:Nat.beq s t with
   |true=>obtain rfl:=bAF hb;rw[←ht,hs]
   |false=>exact ht
 subst ho;intro a w hh;cases b
 ·refine WL.append (hno rfl a w (hsub _ rfl a w hh)) ?_;rintro a w ⟨g,hI,h⟩;rw[←hXr g];exact k g hI a w (hback _ _ _ _ rfl a w h)
 ·refine WL.append (hyes rfl a w (hsub _ rfl a w hh)) ?_;rintro a w ⟨g,hI,h⟩;rw[←hXr g];exact k g hI a w (hback _ _ _ _ rfl a w h)

theorem aRI{f:FuncId}{fn:Func}{c:Code}{args:List Value}{D:aC}{post:aC→Value→aD→Prop}(N:Nat)(hf:P.funcs[f]?= some fn)(hn:(fn.name== "runtime.NumGoroutine")=false)(hb:fn.body=some c)(hN:fn.ntmps=N)(hsz:Nat.ble args.length N=true)
  (h:∀h0:H0,WC P ⟨none,N,[],h0,h0.size,D,[],none⟩ (G0 P fn (pL ⟨none,N,[],h0,h0.size,D,[],none⟩ post)) c (iS 0 args) [] [D]):KZ P f args.toArray D post:=by
 refine⟨EF.of hf hn hb,fun w hw=>?_⟩;subst hN;have hsz:=bAZ hsz;have hq:∀e a w',G0 P fn (pL ⟨none,fn.ntmps,[],hd w,w.heap.size,D,[],none⟩ post) e a w'→bodyPostM (FW none) 0 P fn (pL ⟨none,fn.ntmps,[],hd w,w.heap.size,D,[],none⟩ post) e a w':=by
  intro e a w' he;cases e<;>first|exact he|exact he.elim
 have hwp:=h (hd w) {tmps:=args.toArray++Array.replicate (fn.ntmps-args.toArray.size) undef,defers:=[]} w ⟨by simp;omega,fun s v hs=>by
  obtain⟨_,h2⟩:=fQ args 0 s v hs;have hl:=(aYV.1 h2).1;simp only[bCM]at h2 hl;show(args.toArray++_)[s]?= some v;rw[bBD Yan];simpa using h2,rfl,D,⟨aZL _,aZL _,(fun _ _ _=>rfl),(fun _ _=>rfl),hw,Yi,bAV,Yi,fun e he=>aZO he⟩,(fun D₁ h1=>by simp only[aZM]at h1;subst h1;exact Le.refl _),bDY⟩
 refine(dP (r:=none) (n:=0)).1 ((callsIn_of_wp_marks hf hb bDY (wpIn_mono hwp hq) rfl).mono ?_);rintro e w' ⟨v,D',μ',rfl,hs,hp⟩;exact⟨v,D',μ',rfl,hs,hp⟩
theorem MA{fn:Func}{bd:Nat}{post:aC→Value→aD→Prop}{e:Exit}(he:(match e with|.normal=>true|.ret=>true|_=>false)=true){rs:List ResultVar}{vs:List Value}{A B ν':aD}(hds:X.ds=[])(hr:fn.results=rs.toArray)(h:xT P X σ (A++ν'++B++[(bd,Obj.deferred none)]) rs vs)
  (hp:∀D,(∀D₁∈Ds,Le D₁ D)→post D (qE vs) ν'):∀a w,Hl (X.withDs bd) σ (A++ν'++B++[(bd,Obj.deferred (some []))]) Ds a w→G0 P fn (pL X post) e a w:=by
 intro a w hh;obtain⟨h1,h2,h3,D,h4,h5,G⟩:=hh;have hHas:bR (A++ν'++B++[(bd,Obj.deferred (some []))]) bd (.deferred (some [])) (.deferred none) (A++ν'++B++[(bd,Obj.deferred none)]):=.app .head;have hs:=h4.set (w':=w.putObj bd (.deferred none)) hHas ⟨rfl,rfl⟩ trivial;have hh':Hl X σ (A++ν'++B++[(bd,Obj.deferred none)]) Ds {a with defers:=[]} (w.putObj bd (.deferred none)):=
  ⟨h1,h2,hds.symm,D,hs,h5,G.step (X:=X.withDs bd) (fun _ p hp=>aZE Yq) (fun _=>kI ⟨rfl,rfl⟩ (GT.2 ⟨_,hHas.mem,rfl⟩)) hs.dom⟩
 have hrun:=iK hh' hr h;have hb:=(h4.box (bd,Obj.deferred (some [])) Ye).1;have hnd:=hs.nd;simp only[aZH]at hnd;have hs':iD X.h0 X.lo X.D0 X.mods ν' D (w.putObj bd (.deferred none)):=hs.sub (fun p hp=>aYX _ (aYX _ (GE _ hp))) (aZC.1 (aZC.1 (aZC.1 hnd).1).1).2.1;have:LeavesInM (FW none) 0 P fn a.tmps (pL X post) a.defers .returning w:=by
  have h3':a.defers=[mH bd]:=h3.trans (by show mH bd::X.ds=_;rw[hds]);rw[h3'];exact⟨by simp,aZE ⟨bd,_,rfl,run_takeDeferred hb,_,hrun,_,D,ν',rfl,hs',hp D h5⟩⟩
 cases e<;>first|exact this|cases he
namespace L2
open L1
open C2
open C1 (gW bX qO pB)
theorem aJR{c pre:List Int}{n:Int}{i:Nat}(hl:pre.length=i)(hp:c.take (i+1)=pre++[n]):c[(i:Int).toNat]?= some n:=by
 have h:(c.take (i+1))[i]?= some n:=by rw[hp,←hl];simp
 rw[bBL (Nat.lt_succ_self i)]at h;exact h
theorem aAD{step:Int}{c pre:List Int}{n:Int}{i:Nat}(hl:pre.length=i)(hp:c.take (i+1)=pre++[n])(hb:∀x∈pre,0≤x∧x≤99)(_h10:c.length=10)(hi:i<10):
  ∃m,(i≠0→c[((i:Int)-1).toNat]?= some m)∧(0≤m∧m≤99)∧(decide ((i:Int)=0)||gW (n-m) (-step) step)=mU step pre.getLast? n:=by
 rcases List.eq_nil_or_concat pre with rfl|⟨q,m,rfl⟩
 ·refine⟨0,fun h=>absurd hl.symm h,by omega,?_⟩;simp only[bAP]at hl;subst hl;simp[mU]
 ·refine⟨m,fun _=>?_,hb m Ye,?_⟩
  ·have h:(c.take (i+1))[i-1]?= some m:=by
    rw[hp];simp only[List.concat_eq_append,aYS,bCD]at hl;rw[show i-1=q.length by omega];simp
   rw[bBL Yd]at h;rw[show((i:Int)-1).toNat=i-1 by omega];exact h
  ·have:(i:Int)≠0:=by
    simp only[List.concat_eq_append,aYS,bCD]at hl;omega
   unfold mU;rw[bCC this,Bool.false_or];simp
theorem aWB{c pre:List Int}{i n:Nat}{k:Int}(h:c.length=10)(hi:i<n)(hn:n≤10)(hp:c.take i=pre)(hz:c.drop n=List.replicate (10-n) 0):(c.set i k).length=10∧(c.set i k).take (i+1)=pre++[k]∧(c.set i k).drop n=List.replicate (10-n) 0:=
 ⟨by simp[h],by rw[aZG,List.getElem?_set_self Yd,bAR,List.take_set_of_le (aZL _),hp],by rw[List.drop_set_of_lt hi];exact hz⟩
theorem c8(last step:Int)(hv lv mv:Value)(c pre:List Int)(n:Int)(i:Nat)(D:aC)(hs:0≤step∧step≤99)(O:c.length=10)(R:i<10)(hl:pre.length=i)(hp:c.take (i+1)=pre++[n])(hb:∀x∈pre,0≤x∧x≤99)(hn:0≤n∧n≤99):
  Fn prog 261 #[.agg #[qI last,hv,qI step,lv,mv],.agg (ints c).toArray,qI (i:Int)] D (fun _ v=>v=.bool (mU step pre.getLast? n)):=by
 have U:=aJR hl hp;obtain⟨m,V,hmb,hnr⟩:=aAD (step:=step) hl hp hb O R;refine Zs 25 func261 rfl (fun h0=>aA<|Zu rfl (fun q1 E1 Z G=>Zu rfl (fun q2 E2 hB I=>Zg rfl<|bT<|bW [] 6 19 64448<|Za rfl<|Zam rfl<|Za rfl ?_)));refine' cR 15 (s:=9) (p:=24) rfl (fun M=>?_) (fun M=>?_) ?_;rotate_left
 ·have hE:(i:Int)≠0:=by simpa using M
  have Y:=V Yd;refine Zb rfl<|eM rfl U320 aM rfl rfl Yd Yd rfl ⟨_,rfl,rfl⟩<|iW rfl aJ rfl I Ye (cD U) n3 rfl ⟨_,rfl,rfl⟩<|Zb rfl<|P9 rfl rfl rfl Yf rfl ⟨_,rfl,rfl⟩<|eM rfl U320 aM rfl rfl Yd Yd rfl ⟨_,rfl,rfl⟩<|iW rfl aJ rfl I Ye (cD Y) n3 rfl ⟨_,rfl,rfl⟩<|P9 rfl rfl rfl Yf rfl ⟨_,rfl,rfl⟩<|Zi rfl tH rfl<|Zk 2 rfl aJ rfl G rfl<|aSH rfl rfl Yf rfl ⟨_,rfl,rfl⟩<|Zi rfl tH rfl ?_;refine Zk 2 rfl aJ rfl G rfl<|Zd rfl (fun D1 hF=>eP _ _ _ _)<|Zae rfl ?_;exact aQ 14
 ·refine Zf rfl<|Zf rfl<|Zf rfl<|Zf rfl<|Zf rfl<|Zf rfl<|Zf rfl<|Zf rfl<|Zf rfl<|Zf rfl<|Zf rfl<|Zf rfl ?_;refine Zf rfl<|Zf rfl<|Zad rfl ?_;exact aQ 14
 refine Zg rfl<|aG ?_;exact aE rfl (fun D hD=>by show Value.bool _=_;rw[hnr])
def iC(br bY bc bh:Nat)(c:List Int):aD:=[(bh,qC [.func (.func 260) #[] #[qP br,qP bY,qP bc,qP bh]] 182),(bc,qC (ints c) 320)]
def Q5(J Jx:List (List Int)→tL)(br bY bc bh:Nat)(step:Int)(hs:List (Int×Int))(pre:List Int)(i:Nat)(done:List (List Int))(v:Value)(J':tL)(μ':aD):Prop:=
 ∃b c',v=.bool b∧c'.length=10∧c'.take i=pre∧c'.drop hs.length=List.replicate (10-hs.length) 0∧μ'=iC br bY bc bh c'∧(if b=true then J'=J (done++(gZ step (hs.drop i) pre.getLast?).map fun t=>dF (pre++t))else ∃p,J'=Jx p)
theorem wE{lo l:Nat}{J Jx:List (List Int)→tL}{t:aY}{xs:List (List Int)}{Dr Dy:aC}{Ds:List aC}{br bY bc bh:Nat}{hv lv mv:Value}(hto:BX t)
  (hs:∀pre,I8 lo (J pre)) (hsx:∀pre,I8 lo (Jx pre)) (hY:UM prog Dr lo l J Jx xs) (hDr:Dr∈Ds) (hDy:Dy∈Ds) (hA:At Dr br 0 [qI t.last,hv,qI t.step,lv,mv]) (hpl:Sl Dr Z7 2 hv t.heights) (hB:At Dy bY 0 [.func (.yield l) #[] #[]]):
  ∀(j i:Nat) (pre c:List Int) (done rest:List (List Int)) (iv:Int),iv=i→i+j=t.heights.length→pre.length=i→c.length=10→c.take i=pre→c.drop t.heights.length=List.replicate (10-t.heights.length) 0→(∀x∈pre,0≤x∧x≤99)→
   xs=done++(gZ t.step (t.heights.drop i) pre.getLast?).map (fun t=>dF (pre++t))++rest→
   aWF prog 260 [qI iv,qP br,qP bY,qP bc,qP bh] lo (J done) (iC br bY bc bh c) Ds (Q5 J Jx br bY bc bh t.step t.heights pre i done):=by
 intro j;induction j using Nat.strongRecOn with
 |_ j ih=>
 intro i pre c done rest iv hiv hij hl h9 hp hz hpb hxs;subst hiv;have hmx:=hpl.len;have hlast:=hto.last;have hlen:=hto.len;have hD:=hto.len10;refine H7 (μ:=iC br bY bc bh c) 46 func260 rfl rfl rfl rfl<|aA<|Zg rfl<|bJ<|Za rfl<|Zh rfl jU rfl<|Zj 0 rfl aJ rfl hA rfl<|fI rfl rfl rfl rfl bDY<|aF<|Zz rfl (fun hE=>?_) (fun hE=>?_)
 ·have hin:i=t.heights.length:=by omega
  subst hin;have hleaf:=(OH (l:=pre) (by rw[hl];exact hp) (by rw[hl];exact hz))
  rw[List.drop_length]at hxs;simp only[gZ,aZR,bCT,aZA]at hxs;rw[hleaf,aZD,bCK]at hxs;refine aA<|Zj 0 rfl aOO rfl hB rfl<|bK rfl nJ rfl Mm1 Yu n3 rfl bDY<|II (l:=l) (J1:=J (done++[c])) (J0:=Jx (done++[c])) rfl rfl rfl rfl (hs _) (hsx _) (fun D w hd hJ hb hl=>hY done c _ D w ⟨rest,hxs⟩ hd hJ (fun b hbm=>by obtain⟨p,hp,rfl⟩:=GT.1 hbm;exact hb p hp) (hl _ hDr)) rfl bDY (fun b1 J1 hF=>Zg rfl<|aG<|Zap ?_)
  exact lO (P:=prog) (fn:=f260) (N:=46) (vs:=[_]) rfl rfl ⟨rfl,bDY⟩ (fun D h=>⟨D,h,Le.refl D⟩) ⟨b1,c,rfl,h9,hp,hz,rfl,by cases b1<;>simp only[hF,bAX,bAE,bBH];exact⟨_,rfl⟩;simp[gZ,hleaf]⟩
 ·have hin:i<t.heights.length:=by omega
  obtain⟨r,hri⟩:=dV t.heights i;have hrb:=hto.hts r (LE hri);have hrg:=rH hrb;have hsz:eW r=r.2-r.1+1:=rfl;have hd:t.heights.drop i=r::t.heights.drop (i+1):=by rw[bAM hin];congr 1;exact aZO ((aYU hin).symm.trans hri)
  rw[hd,←UK]at hxs;refine aT<|eH<|Zh rfl fP rfl<|Zj 1 rfl lM rfl hA rfl<|Za rfl<|Zw rfl U29 cB rfl hpl rfl hri (fun b1 o1 hH hI hS hK=>?_);obtain rfl:hH=[qI _,qI _]:=hI;refine Zq rfl jQ rfl hK cB<|Zc rfl (fun D1 rA=>VJ r hrb _)<|Za rfl<|aF<|Zar<|a7 (γ:=Nat×List Int) (fun g=>(eW r).toNat-g.1) (fun g=>g.1≤(eW r).toNat∧g.2.length=10∧g.2.take i=pre∧g.2.drop t.heights.length=List.replicate (10-t.heights.length) 0) (fun g=>J (done++NV t.step (t.heights.drop (i+1)) pre r g.1)) (fun g=>[(21,qI (g.1:Int))]) [(20,_),(6,_),(0,_),(1,_),(3,_),(4,_)] (fun g=>iC br bY bc bh g.2) (fun g=>Ds) (0,c) ⟨by simp,h9,hp,hz⟩ (by simp[aIK]) ⟨Yb,bDY⟩ cQ Mm5 (aH) ?_;rintro⟨k,c1⟩ ⟨hM,G,I,M⟩;simp only at hM G I M;refine aA<|Zai rfl<|bT<|Zz rfl (fun hc2=>?_) (fun hc2=>?_)
  ·obtain⟨rr,hr⟩:=aEW (step:=t.step) (rs:=t.heights.drop (i+1)) (pre:=pre) (r:=r) (k:=k) (n:=(eW r).toNat) Yd;have hset:=aWB (k:=r.1+(k:Int)) G hin hD I M;have h9s:(c1.set ((i:Int)).toNat (r.1+(k:Int))).length=10:=hset.1;have hpn:∀x∈pre++[r.1+(k:Int)],0≤x∧x≤99:=fun x hx=>by rcases aZF.1 hx with hx|hx;exact hpb x hx;simp only[aZM]at hx;omega
   refine aT<|aS<|Zar<|aA<|Za rfl<|Zg rfl<|aL<|Za rfl<|Zh rfl fP rfl<|Zj 1 rfl lM rfl hA rfl<|Za rfl<|Zw rfl U29 cB rfl hpl rfl hri (fun b2 o2 hN hO hX hR=>?_);obtain rfl:hN=[qI _,qI _]:=hO;refine Zh rfl mR rfl<|Zj 0 rfl aJ rfl hR rfl<|Za rfl<|Zaa rfl<|eM rfl U320 aM rfl rfl Yd Yd rfl bDY<|x3 rfl aM rfl rfl (.tail (bR.head)) (by simp only[*];omega) bDY<|aL<|Zq rfl iI rfl hA gT<|bK rfl nJ rfl Mm1 Yu n3 rfl bDY<|Za rfl<|Zc rfl (fun D2 rB=>c8 t.last t.step hv lv mv (c1.set i (r.1+(k:Int))) pre (r.1+(k:Int)) i _ hto.step hset.1 Yd hl hset.2.1 hpb Yd)<|Za rfl ?_;refine aTR (γ:=Bool×List Int×tL) (fun g=>g.2.1.length=10∧g.2.1.take (i+1)=pre++[r.1+(k:Int)]∧g.2.1.drop t.heights.length=List.replicate (10-t.heights.length) 0∧(if g.1=true then ∃p,g.2.2=Jx p else g.2.2=J (done++NV t.step (t.heights.drop (i+1)) pre r (k+1)))) (fun g=>g.1) (fun g=>Xj 46 lo g.2.2) (fun g=>iC br bY bc bh g.2.1) [(false,5),(false,6),(false,7),(false,8),(false,9),(false,10)] [] (s:=38) (p:=44) (fun _=>rfl) rfl rfl (fun O=>?_) (fun O=>?_) ?_
   ·have hnear:mU t.step pre.getLast? (r.1+(k:Int))=true:=by simpa using O
    refine Zn rfl oV rfl Mm0 rfl<|Zb rfl<|y7 rfl rfl rfl Yf rfl ⟨_,rfl,rfl⟩<|tY rfl rfl rfl rfl (ih (j-1) Yd (i+1) (pre++[r.1+(k:Int)]) (c1.set i (r.1+(k:Int))) (done++NV t.step (t.heights.drop (i+1)) pre r k) (rr++rest) (i+1:Int) Yd Yd Yaj (by simpa using G) hset.2.1 hset.2.2 hpn (by rw[hxs,hr,WA hnear];simp)) rfl ⟨_,rfl,rfl⟩ ?_;rintro _ J2 _ ⟨b2,c2,rfl,h9',hp',hz',rfl,hJ2⟩;refine lJ rfl rfl rfl ⟨_,rfl,rfl⟩<|Zad rfl ?_;exact X0 fun a w hh=>⟨(!b2,c2,J2),⟨h9',hp',hz',by cases b2<;>simp only[Bool.not_true,Bool.not_false,bAX,bAE,bBH]at hJ2 ⊢;exact hJ2;rw[hJ2,WA hnear,aZD]⟩,hh.cutK 5 rfl⟩
   ·refine Zf rfl<|Zf rfl<|Zf rfl<|Zf rfl<|Zf rfl<|Zae rfl ?_;exact X0 fun a w hh=>⟨(false,c1.set i (r.1+(k:Int)),J (done++NV t.step (t.heights.drop (i+1)) pre r k)),⟨hset.1,hset.2.1,hset.2.2,by simp only[bAE,bBH];rw[aUU (by simpa using O)]⟩,hh.cutK 5 rfl⟩
   rintro⟨b3,c3,J3⟩ ⟨R,U,V,Y⟩;simp only at R U V Y;refine aF<|aP rfl (fun Z=>?_) (fun Z=>?_)
   ·obtain rfl:b3=true:=by simpa using Z
    refine aA<|Zg rfl<|aG<|Zau<|Zap<|Zap<|Zau<|Zap ?_;exact lO (P:=prog) (fn:=f260) (N:=46) (vs:=[_]) rfl rfl ⟨rfl,bDY⟩ (fun D h=>⟨D,h,Le.refl D⟩) ⟨false,c3,rfl,R,L1.sP U hl,V,rfl,by simpa using Y⟩
   ·obtain rfl:b3=false:=by simpa using Z
    refine bM<|Zat<|Zaq<|aU<|Zaa rfl<|Za rfl<|Zah ?_;exact tG 22 (k+1,c3) ⟨by simp only;omega,R,L1.sP U hl,V⟩ Ym (by simpa using Y) ⟨Yb,bDY⟩ rfl rfl Mm5 (aH)
  ·refine aW<|Zas<|Zas<|Zav<|Zaq<|aA<|Zg rfl<|aG ?_;exact lO (P:=prog) (fn:=f260) (N:=46) (vs:=[_]) rfl rfl ⟨rfl,bDY⟩ (fun D h=>⟨D,h,Le.refl D⟩) ⟨true,c1,rfl,G,I,M,rfl,by simp only[bAX];rw[hd,←UK,show k=(eW r).toNat by omega]⟩
theorem aAW(t:aY)(Dr:aC)(br:Nat)(hv lv mv:Value)(hto:BX t)(hA:At Dr br 0 [qI t.last,hv,qI t.step,lv,mv])(hpl:Sl Dr Z7 2 hv t.heights):
  U7 prog 259 [qP br] Dr ((fO t).map dF) HA:=by
 refine CJ 8 func259 rfl rfl rfl rfl (fun lo l J Jx hs hsx hY=>aA<|Zu rfl (fun q1 M I G=>aL<|Zx rfl K7 rfl (fun q2=>aL<|Zx rfl d4 rfl (fun O=>aL<|Zao rfl<|Zo rfl g7 (bR.head) rfl<|aF<|aU ?_))));refine Zm rfl oV rfl Mm0 rfl<|tY rfl rfl rfl rfl (wE (l:=l) hto hs hsx hY Ye Ye hA hpl G t.heights.length 0 [] (List.replicate 10 0) [] [] 0 rfl Yd rfl rfl rfl (List.drop_replicate ..) (fun x hx=>by cases hx) (by simp[fO])) rfl bDY ?_;rintro _ R _ ⟨b2,c2,rfl,h9',hp',hz',rfl,hJ2⟩;refine Zah ?_;exact lO (P:=prog) (fn:=f259) (N:=8) (vs:=[]) rfl rfl bDY (fun D h=>⟨D,by simp only[aZM]at h;subst h;simp,Le.refl D⟩) (by cases b2<;>simp[fO]at hJ2 ⊢;exact aYZ hJ2;exact aZE hJ2)
theorem MJ(tv:Value)(t:aY)(D:aC)(ht:iJ D tv t)(hto:BX t):
  Fn prog 179 #[tv] D (fun D' v=>∃br,v=.func (.func 259) #[] #[qP br]∧U7 prog 259 [qP br] D' ((fO t).map dF) HA):=by
 obtain⟨hv,lv,mv,rfl,hh,hl,hm⟩:=ht;refine Zs 4 func179 rfl (fun h0=>aA<|Zu rfl (fun q1 M I G=>Zg rfl<|aL<|Zao rfl<|Zg rfl<|aG ?_));exact aE rfl (fun D hD=>⟨_,rfl,aAW t _ q1 hv lv mv hto (G.up (hD _ Ye)) (hh.up Z7.up (hD _ Ye))⟩)
end L2
namespace L7
open C7
theorem kA{α:Type}{p:α→Bool}{xs:List α}{k:Nat}{x:α}(hx:xs[k]?= some x)(h:(xs.take k).any p=false)(hp:p x=true):idxOf p xs=k:=by
 have hk:=(aYV.1 hx).1;have he:=(aYV.1 hx).2;have h1:xs.any p=true:=bDW.2 ⟨x,LE hx,hp⟩;have h2:xs.findIdx p=k:=by
  rw[List.findIdx_eq hk];refine⟨by rw[he];exact hp,fun j hj=>?_⟩
  have:=List.any_eq_false.1 h (xs[j]'Yd) (by
   rw[List.mem_take_iff_getElem];exact⟨j,by omega,rfl⟩)
  simpa using this
 simp[idxOf,h1,h2]
theorem gE{α:Type}{p:α→Bool}{xs:List α}(h:xs.any p=false):idxOf p xs= -1:=by simp[idxOf,h]
theorem jT{α:Type}{p:α→Bool}{xs:List α}:decide (0≤idxOf p xs)=xs.any p:=by
 unfold idxOf;cases h:xs.any p<;>simp
theorem nI{α:Type}{p:α→Bool}{xs:List α}:(!xs.any fun x=> !p x)=xs.all p:=by
 rw[List.all_eq_not_any_not]
theorem eP(n lo hi:Int)(D:aC):Fn prog 169 #[qI n,qI lo,qI hi] D (fun _ v=>v=.bool (gW n lo hi)):=by
 refine Zs 15 func169 rfl (fun h0=>aA<|Zg rfl<|aL<|Za rfl<|Za rfl<|lE rfl rfl rfl rfl bDY<|Za rfl ?_);refine' dJ 4 (s:=10) (p:=14) rfl (fun G=>?_) (fun G=>?_) ?_;rotate_left
 ·refine Zb rfl<|Zb rfl<|lE rfl rfl rfl rfl ⟨_,rfl,rfl⟩<|Zad rfl ?_;exact aQ 3
 ·refine Zf rfl<|Zf rfl<|Zf rfl<|Zae rfl ?_;exact aQ 3
 refine Zg rfl<|aG ?_;exact aE rfl (fun D hD=>rfl)
theorem uL(sv fv:Value)(xs:List Int)(p:Int→Bool)(D:aC)(hS:Sl D RI 1 sv xs)(hp:cX prog D iV fv p):
  Fn prog 364 #[sv,fv] D (fun _ v=>v=qI (idxOf p xs)):=by
 have hl:=hS.len;obtain⟨f,c1,c2,rfl,hf⟩:=hp;refine Zs 19 func364 rfl (fun h0=>aA<|Zg rfl<|bJ<|Za rfl<|cZ rfl U25 rfl Yl rfl rfl bDY<|Za rfl<|aF<|Zar<|Zl Nat (fun k=>xs.length-k) (fun k=>k≤xs.length∧(xs.take k).any p=false) (fun k=>[(8,qI k)]) [(7,_),(4,_),(0,_),(1,_)] (fun k=>[D]) 0 ⟨Yb,bDY⟩ ?_);rintro k ⟨h1,h2⟩;refine aA<|Zai rfl<|bT<|Zz rfl (fun G=>?_) (fun G=>?_)
 ·have hk:k<xs.length:=by omega
  obtain⟨x,hx⟩:=dV xs k;refine aT<|aS<|Zar<|aA<|Za rfl<|Zg rfl<|aL<|Za rfl<|Za rfl<|Za rfl<|eY rfl U25 aM rfl Yl rfl Yd Yl rfl bDY (fun V o1 I M U O=>?_);obtain rfl:I=[qI _]:=M;refine Zj 0 rfl aJ rfl O rfl<|Zc rfl (fun Y R=>hf x _ (R _ Ye))<|aF<|aP rfl (fun hc2=>?_) (fun hc2=>?_)
  ·refine aA<|Za rfl<|Zg rfl<|aG<|Zau<|Zap<|Zap<|Zau<|Zap ?_;exact aE rfl (fun D hD=>by show Value.int _ _=_;rw[kA hx h2 hc2])
  ·refine bM<|Zat<|Zaq<|aU<|Zaa rfl<|Za rfl<|Zah ?_;have hpx:p x=false:=hc2;have h3:(xs.take (k+1)).any p=false:=by rw[aZG,hx,bCF,h2];simp[hpx]
   exact aK 12 (k+1) ⟨by omega,h3⟩ Yd ⟨Yb,bDY⟩ rfl rfl Mm5 (aH)
 ·refine aW<|Zas<|Zas<|Zav<|Zaq<|aA<|Zg rfl<|aG ?_;exact aE rfl (fun D hD=>by show Value.int _ _=_;rw[gE Yab])
theorem mE(sv fv:Value)(xs:List Int)(p:Int→Bool)(D:aC)(hS:Sl D RI 1 sv xs)(hp:cX prog D iV fv p):
  Fn prog 309 #[sv,fv] D (fun _ v=>v=.bool (xs.any p)):=by
 refine Zs 9 func309 rfl (fun h0=>aA<|Zg rfl<|aL<|Za rfl<|Za rfl<|Zc rfl (fun I G=>uL _ _ xs p _ (Sl.at RI.up G Yl Ye) (hp.up (G _ Ye)))<|tC rfl rfl rfl rfl bDY<|Zg rfl<|aG ?_);exact aE rfl (fun D hD=>by show Value.bool (decide _)=_;rw[jT])
theorem yC(b:Nat)(fv:Value)(p:Int→Bool)(x:Int)(D:aC)(hp:cX prog D iV fv p)(hB:At D b 0 [fv]):
  Fn prog 369 #[iV x,qP b] D (fun _ v=>v=.bool (!p x)):=by
 obtain⟨f,c1,c2,rfl,hf⟩:=hp;refine Zs 8 func369 rfl (fun h0=>aA<|Zg rfl<|aL<|Zj 0 rfl oV rfl hB rfl<|Za rfl<|Zc rfl (fun I G=>hf x _ (G _ Ye))<|Zal rfl<|Zg rfl<|aG ?_);exact aE rfl (fun D hD=>rfl)
theorem O4(sv fv:Value)(xs:List Int)(p:Int→Bool)(D:aC)(hS:Sl D RI 1 sv xs)(hp:cX prog D iV fv p)(h1:fv.cells=#[fv]):
  Fn prog 327 #[sv,fv] D (fun _ v=>v=.bool (xs.all p)):=by
 refine Zs 9 func327 rfl (fun h0=>aA<|rC (vs:=[fv]) rfl rfl h1 rfl bDY (fun b I G hB=>Zg rfl<|aL<|Za rfl<|Zao rfl<|Zc rfl (fun I G=>mE _ _ xs (fun x=> !p x) _ (Sl.at RI.up G Yl Ye) ⟨_,[],[qP b],rfl,fun x M hl=>yC b fv p x M (hp.up ((G _ Ye).trans hl)) (hB.up ((G _ Ye).trans hl))⟩)<|Zal rfl<|Zg rfl<|aG ?_));exact aE rfl (fun D hD=>by show Value.bool (!_)=_;rw[nI])
theorem uT(sv fv:Value)(xs:List Ch)(p:Ch→Bool)(D:aC)(hS:Sl D wZ 4 sv xs)(hp:cX prog D aWG fv p):
  Fn prog 326 #[sv,fv] D (fun _ v=>v=qI (idxOf p xs)):=by
 have hl:=hS.len;obtain⟨f,c1,c2,rfl,hf⟩:=hp;refine Zs 19 func326 rfl (fun h0=>aA<|Zg rfl<|bJ<|Za rfl<|cZ rfl U37 rfl Yl rfl rfl bDY<|Za rfl<|aF<|Zar<|Zl Nat (fun k=>xs.length-k) (fun k=>k≤xs.length∧(xs.take k).any p=false) (fun k=>[(8,qI k)]) [(7,_),(4,_),(0,_),(1,_)] (fun k=>[D]) 0 ⟨Yb,bDY⟩ ?_);rintro k ⟨h1,h2⟩;refine aA<|Zai rfl<|bT<|Zz rfl (fun G=>?_) (fun G=>?_)
 ·have hk:k<xs.length:=by omega
  obtain⟨x,hx⟩:=dV xs k;refine aT<|aS<|Zar<|aA<|Za rfl<|Zg rfl<|aL<|Za rfl<|Za rfl<|Za rfl<|eY rfl U37 iQ rfl Yl rfl Yd Yl rfl bDY (fun V o1 I M U O=>?_);obtain rfl:I=[qI _,qI _,qI _,qI _]:=M;refine Zq rfl N5 rfl O iQ<|Zc rfl (fun Y R=>hf x _ (R _ Ye))<|aF<|aP rfl (fun hc2=>?_) (fun hc2=>?_)
  ·refine aA<|Za rfl<|Zg rfl<|aG<|Zau<|Zap<|Zap<|Zau<|Zap ?_;exact aE rfl (fun D hD=>by show Value.int _ _=_;rw[kA hx h2 hc2])
  ·refine bM<|Zat<|Zaq<|aU<|Zaa rfl<|Za rfl<|Zah ?_;have hpx:p x=false:=hc2;have h3:(xs.take (k+1)).any p=false:=by rw[aZG,hx,bCF,h2];simp[hpx]
   exact aK 12 (k+1) ⟨by omega,h3⟩ Yd ⟨Yb,bDY⟩ rfl rfl Mm5 (aH)
 ·refine aW<|Zas<|Zas<|Zav<|Zaq<|aA<|Zg rfl<|aG ?_;exact aE rfl (fun D hD=>by show Value.int _ _=_;rw[gE Yab])
theorem pO(sv fv:Value)(xs:List Ch)(p:Ch→Bool)(D:aC)(hS:Sl D wZ 4 sv xs)(hp:cX prog D aWG fv p):
  Fn prog 239 #[sv,fv] D (fun _ v=>v=.bool (xs.any p)):=by
 refine Zs 9 func239 rfl (fun h0=>aA<|Zg rfl<|aL<|Za rfl<|Za rfl<|Zc rfl (fun I G=>uT _ _ xs p _ (Sl.at wZ.up G Yl Ye) (hp.up (G _ Ye)))<|tC rfl rfl rfl rfl bDY<|Zg rfl<|aG ?_);exact aE rfl (fun D hD=>by show Value.bool (decide _)=_;rw[jT])
theorem AJ(b:Nat)(fv:Value)(p:Ch→Bool)(x:Ch)(D:aC)(hp:cX prog D aWG fv p)(hB:At D b 0 [fv]):
  Fn prog 240 #[aWG x,qP b] D (fun _ v=>v=.bool (!p x)):=by
 obtain⟨f,c1,c2,rfl,hf⟩:=hp;refine Zs 8 func240 rfl (fun h0=>aA<|Zu rfl (fun q1 O M G=>Zg rfl<|aL<|Zj 0 rfl aLI rfl hB rfl<|Zq rfl N5 rfl G iQ<|Zc rfl (fun R I=>hf x _ (I _ Ye))<|Zal rfl<|Zg rfl<|aG ?_));exact aE rfl (fun D hD=>rfl)
theorem EZ(sv fv:Value)(xs:List Ch)(p:Ch→Bool)(D:aC)(hS:Sl D wZ 4 sv xs)(hp:cX prog D aWG fv p)(h1:fv.cells=#[fv]):
  Fn prog 170 #[sv,fv] D (fun _ v=>v=.bool (xs.all p)):=by
 refine Zs 9 func170 rfl (fun h0=>aA<|rC (vs:=[fv]) rfl rfl h1 rfl bDY (fun b I G hB=>Zg rfl<|aL<|Za rfl<|Zao rfl<|Zc rfl (fun I G=>pO _ _ xs (fun x=> !p x) _ (Sl.at wZ.up G Yl Ye) ⟨_,[],[qP b],rfl,fun x M hl=>AJ b fv p x M (hp.up ((G _ Ye).trans hl)) (hB.up ((G _ Ye).trans hl))⟩)<|Zal rfl<|Zg rfl<|aG ?_));exact aE rfl (fun D hD=>by show Value.bool (!_)=_;rw[nI])
theorem uO(sv fv:Value)(xs:List (Int×Int))(p:(Int×Int)→Bool)(D:aC)(hS:Sl D R2 2 sv xs)(hp:cX prog D kX fv p):
  Fn prog 329 #[sv,fv] D (fun _ v=>v=qI (idxOf p xs)):=by
 have hl:=hS.len;obtain⟨f,c1,c2,rfl,hf⟩:=hp;refine Zs 19 func329 rfl (fun h0=>aA<|Zg rfl<|bJ<|Za rfl<|cZ rfl U38 rfl Yl rfl rfl bDY<|Za rfl<|aF<|Zar<|Zl Nat (fun k=>xs.length-k) (fun k=>k≤xs.length∧(xs.take k).any p=false) (fun k=>[(8,qI k)]) [(7,_),(4,_),(0,_),(1,_)] (fun k=>[D]) 0 ⟨Yb,bDY⟩ ?_);rintro k ⟨h1,h2⟩;refine aA<|Zai rfl<|bT<|Zz rfl (fun G=>?_) (fun G=>?_)
 ·have hk:k<xs.length:=by omega
  obtain⟨x,hx⟩:=dV xs k;refine aT<|aS<|Zar<|aA<|Za rfl<|Zg rfl<|aL<|Za rfl<|Za rfl<|Za rfl<|eY rfl U38 cU rfl Yl rfl Yd Yl rfl bDY (fun V o1 I M U O=>?_);obtain rfl:I=[qI _,qI _]:=M;refine Zq rfl nQ rfl O cU<|Zc rfl (fun Y R=>hf x _ (R _ Ye))<|aF<|aP rfl (fun hc2=>?_) (fun hc2=>?_)
  ·refine aA<|Za rfl<|Zg rfl<|aG<|Zau<|Zap<|Zap<|Zau<|Zap ?_;exact aE rfl (fun D hD=>by show Value.int _ _=_;rw[kA hx h2 hc2])
  ·refine bM<|Zat<|Zaq<|aU<|Zaa rfl<|Za rfl<|Zah ?_;have hpx:p x=false:=hc2;have h3:(xs.take (k+1)).any p=false:=by rw[aZG,hx,bCF,h2];simp[hpx]
   exact aK 12 (k+1) ⟨by omega,h3⟩ Yd ⟨Yb,bDY⟩ rfl rfl Mm5 (aH)
 ·refine aW<|Zas<|Zas<|Zav<|Zaq<|aA<|Zg rfl<|aG ?_;exact aE rfl (fun D hD=>by show Value.int _ _=_;rw[gE Yab])
theorem pR(sv fv:Value)(xs:List (Int×Int))(p:(Int×Int)→Bool)(D:aC)(hS:Sl D R2 2 sv xs)(hp:cX prog D kX fv p):
  Fn prog 242 #[sv,fv] D (fun _ v=>v=.bool (xs.any p)):=by
 refine Zs 9 func242 rfl (fun h0=>aA<|Zg rfl<|aL<|Za rfl<|Za rfl<|Zc rfl (fun I G=>uO _ _ xs p _ (Sl.at R2.up G Yl Ye) (hp.up (G _ Ye)))<|tC rfl rfl rfl rfl bDY<|Zg rfl<|aG ?_);exact aE rfl (fun D hD=>by show Value.bool (decide _)=_;rw[jT])
theorem x8(b:Nat)(fv:Value)(p:(Int×Int)→Bool)(x:(Int×Int))(D:aC)(hp:cX prog D kX fv p)(hB:At D b 0 [fv]):
  Fn prog 243 #[kX x,qP b] D (fun _ v=>v=.bool (!p x)):=by
 obtain⟨f,c1,c2,rfl,hf⟩:=hp;refine Zs 8 func243 rfl (fun h0=>aA<|Zu rfl (fun q1 O M G=>Zg rfl<|aL<|Zj 0 rfl aLM rfl hB rfl<|Zq rfl nQ rfl G cU<|Zc rfl (fun R I=>hf x _ (I _ Ye))<|Zal rfl<|Zg rfl<|aG ?_));exact aE rfl (fun D hD=>rfl)
theorem GK(sv fv:Value)(xs:List (Int×Int))(p:(Int×Int)→Bool)(D:aC)(hS:Sl D R2 2 sv xs)(hp:cX prog D kX fv p)(h1:fv.cells=#[fv]):
  Fn prog 172 #[sv,fv] D (fun _ v=>v=.bool (xs.all p)):=by
 refine Zs 9 func172 rfl (fun h0=>aA<|rC (vs:=[fv]) rfl rfl h1 rfl bDY (fun b I G hB=>Zg rfl<|aL<|Za rfl<|Zao rfl<|Zc rfl (fun I G=>pR _ _ xs (fun x=> !p x) _ (Sl.at R2.up G Yl Ye) ⟨_,[],[qP b],rfl,fun x M hl=>x8 b fv p x M (hp.up ((G _ Ye).trans hl)) (hB.up ((G _ Ye).trans hl))⟩)<|Zal rfl<|Zg rfl<|aG ?_));exact aE rfl (fun D hD=>by show Value.bool (!_)=_;rw[nI])
theorem m2(sv:Value)(x:Int)(xs:List Int)(D:aC)(hS:Sl D RI 1 sv (x::xs)):
  Fn prog 250 #[sv] D (fun _ v=>v=qI (xs.foldl min x)):=by
 have hl:=hS.len;simp only[aYW]at hl;refine Zs 25 func250 rfl (fun h0=>aA<|Zg rfl<|bJ<|Za rfl<|cZ rfl U25 rfl Yl rfl rfl bDY<|Zai rfl<|aF<|Zz rfl (fun G=>?_) (fun G=>?_))
 ·exact absurd G (by simp only[aYW];omega)
 ·refine aT<|aA<|Za rfl<|eY rfl U25 aM rfl Yl rfl Yd Yax rfl bDY (fun b1 o1 I M Y O=>?_);obtain rfl:I=[qI _]:=M;refine Zj 0 rfl aJ rfl O rfl<|Zg rfl<|bJ<|Zg rfl<|aF<|Zar<|gX (γ:=Nat) (fun k=>xs.length-k) (fun k=>k≤xs.length) (fun k=>[(3,qI ((xs.take k).foldl min x)),(4,qI (k+1:Int))]) [(2,_),(0,_)] (fun k=>[D]) 0 Yd ⟨Yb,Yb,bDY⟩ cQ (aH) ?_;rintro k h1;refine eH<|Za rfl<|Za rfl<|cZ rfl U25 rfl Yl rfl rfl bDY<|Zai rfl<|aF<|Zz rfl (fun hc2=>?_) (fun hc2=>?_)
  ·simp only[aYW]at hc2;have hk:k<xs.length:=by omega
   obtain⟨y,hy⟩:=dV xs k;have hB:(x::xs)[(k+1:Int).toNat]?= some y:=by rw[show((k:Int)+1).toNat=k+1 by omega];simpa using hy
   refine aT<|aS<|Zar<|aU<|Za rfl<|Za rfl<|Za rfl<|eY rfl U25 aM rfl Yl rfl Yd Yl rfl bDY (fun b2 o2 R U Z V=>?_);obtain rfl:R=[qI _]:=U;refine Zj 0 rfl aJ rfl V rfl<|OM rfl rfl rfl rfl bDY<|Zg rfl<|Zah<|Zat<|Zaq<|aU<|Za rfl<|Zaa rfl<|Zg rfl<|Zah ?_;have h3:(xs.take (k+1)).foldl min x=min ((xs.take k).foldl min x) y:=by rw[aZG,hy,bAN];rfl
   exact aK 16 (k+1) Yd Yd ⟨(by rw[h3];rfl),Yb,bDY⟩ rfl rfl Mm5 (aH)
  ·simp only[aYW]at hc2;refine aW<|Zas<|Zas<|Zav<|Zaq<|aA<|Za rfl<|Zg rfl<|aG ?_;exact aE rfl (fun D hD=>by show Value.int _ _=_;rw[aZP Yd])
theorem lR(sv:Value)(x:Int)(xs:List Int)(D:aC)(hS:Sl D RI 1 sv (x::xs)):
  Fn prog 177 #[sv] D (fun _ v=>v=qI (xs.foldl min x)):=by
 refine Zs 5 func177 rfl (fun h0=>aA<|Zg rfl<|aL<|Za rfl<|Zc rfl (fun I G=>m2 _ x xs _ (Sl.at RI.up G Yl Ye))<|Zg rfl<|aG ?_);exact aE rfl (fun D hD=>rfl)
end L7
namespace L7
open C7
theorem aMM{p:Pt}:(p.l== [1,1,1])=lG p:=by
 obtain⟨a,b,c⟩:=p;simp only[lG,Pt.l,Pt.mk.injEq];rw[bCG];simp
theorem aEO{m k i:Nat}(hk:m.testBit k=true)(h1:i≤k)(h:((m >>> i:Nat):Int)%2=0):i+1≤k:=by
 rw[nG]at h;have:i≠k:=by rintro rfl;rw[hk]at h;simp at h
 omega
theorem aNE{m k i:Nat}(hl:∀i,i<k→m.testBit i=false)(h1:i≤k)(h:¬((m >>> i:Nat):Int)%2=0):i=k:=by
 rw[nG]at h;by_cases hi:i<k
 ·rw[hl i hi]at h;simp at h
 ·omega
theorem AF(r:Int×Int)(n:Int)(D:aC):Fn prog 249 #[kX r,qI n] D (fun _ v=>v=.bool (gW n r.1 r.2)):=by
 refine Zs 11 func249 rfl (fun h0=>aA<|Zu rfl (fun q1 O I G=>Zg rfl<|aL<|Za rfl<|Zh rfl qJ rfl<|Zj 0 rfl aJ rfl G rfl<|Zh rfl qT rfl<|Zj 1 rfl aJ rfl G rfl<|Zc rfl (fun R M=>eP _ _ _ _)<|Zg rfl ?_));refine aG ?_;exact aE rfl (fun D hD=>rfl)
theorem sK(r:Int×Int)(n:Int)(D:aC):Fn prog 89 #[kX r,qI n] D (fun _ v=>v=kX (min r.1 n,max r.2 n)):=by
 refine Zs 15 func89 rfl (fun h0=>aA<|Zu rfl (fun q1 Z Y M=>Zx rfl kG rfl (fun q2=>bT<|lI [] 4 [0,1,2,5,6,7,8,3,4,9,10] [false,false,true,true,true,true,true,true,true,false,false] [(false,0),(false,1),(true,2),(true,5),(true,6),(true,7),(true,8),(true,3),(true,4),(false,9),(false,10)] bI (fun _ _ _ h=>kL (P:=prog) (fn:=f89) _ _ _ h) Yg rfl<|Zh rfl qJ rfl<|Zj 0 rfl aJ rfl M rfl<|Za rfl<|Zh rfl qT rfl<|Zj 1 rfl aJ rfl M rfl<|Za rfl ?_)));refine qW rfl rfl rfl rfl bDY<|Zp rfl U25 aM dS rfl (.cons rfl rfl (.cons rfl rfl .nil)) (fun U V O G=>?_);have I:=Sl.ofInts (l:=[_,_]) (n:=2) (cap:=2) G rfl Yd Yd;refine Zc rfl (fun D1 R=>lR _ r.1 [n] _ (I.up RI.up (R _ Ye)))<|Zr [qI (min r.1 n),qI (max r.2 n)] rfl y8 kG rfl<|Zt rfl cU (bR.head)<|aG ?_;exact cS (vs:=[_]) rfl rfl rfl ⟨⟨_,_,_,rfl,Mm0,aYZ ⟨nQ,(by first|exact cU|(simp only[aZV,aO, *];exact cU)),rfl⟩⟩,bDY⟩ (fun D hD=>rfl)
theorem YW(n m:Int)(b:Nat)(D:aC)(hB:At D b 0 [qI m]):Fn prog 328 #[qI n,qP b] D (fun _ v=>v=.bool (gW n 0 m)):=by
 refine Zs 7 func328 rfl (fun h0=>aA<|Zg rfl<|aL<|Za rfl<|Zj 0 rfl aJ rfl hB rfl<|Zc rfl (fun I G=>eP _ _ _ _)<|Zg rfl<|aG ?_);exact aE rfl (fun D hD=>rfl)
theorem aGF(p:Pt)(m:Int)(D:aC):Fn prog 241 #[aXW p,qI m] D (fun _ v=>v=.bool (TB p m)):=by
 refine Zs 8 func241 rfl (fun h0=>aA<|Zu rfl (fun q1 V O I=>Zu rfl (fun q2 Y R M=>Zg rfl<|aL<|aHR rfl U210 aM rfl rfl bDY<|Zao rfl<|Zc rfl (fun Z G=>O4 _ _ p.l (fun x=>gW x 0 m) _ (Sl.ofInts (l:=p.l) (n:=3) (cap:=3) (I.up (G _ Ye)) rfl Yd Yd) ⟨_,[],[_],rfl,fun x U hl=>YW x m q2 U (M.up ((G _ Ye).trans hl))⟩ rfl)<|Zg rfl<|aG ?_)));exact aE rfl (fun D hD=>rfl)
theorem BL(c:Ch)(D:aC):Fn prog 171 #[aWG c] D (fun _ v=>v=.bool (kC c)):=by
 refine Zs 11 func171 rfl (fun h0=>aA<|Zu rfl (fun q1 U M G=>Zg rfl<|aL<|Zh rfl S9 rfl<|Zj 0 rfl aJ rfl G rfl<|Zc rfl (fun V O=>eP _ _ _ _)<|Za rfl ?_));refine' dJ 4 (s:=6) (p:=10) rfl (fun I=>?_) (fun I=>?_) ?_;rotate_left
 ·refine Zi rfl A0 rfl<|dW rfl (k:=1) nH mA rfl G Yc rfl rfl n3 rfl ⟨_,rfl,rfl⟩<|Zd rfl (fun Y R=>aGF c.parts 2 _)<|Zad rfl ?_;exact aQ 3
 ·refine Zf rfl<|Zf rfl<|Zf rfl<|Zae rfl ?_;exact aQ 3
 refine Zg rfl<|aG ?_;exact aE rfl (fun D hD=>rfl)
theorem aKT(yv:Value)(y:bC)(r:Int×Int)(D:aC)(hy:nM D yv y):Fn prog 168 #[yv,kX r] D (fun _ v=>v=.bool (oH r)):=by
 obtain⟨cv,qv,rfl,hc,hq⟩:=hy;refine Zs 20 func168 rfl (fun h0=>aA<|Zu rfl (fun q1 V O R=>Zu rfl (fun q2 Y U G=>Zg rfl<|aL<|Zh rfl qJ rfl<|Zj 0 rfl aJ rfl G rfl<|lE rfl rfl rfl rfl bDY<|Za rfl ?_)));refine' dJ 6 (s:=8) (p:=14) rfl (fun I=>?_) (fun I=>?_) ?_;rotate_left
 ·refine Zi rfl qJ rfl<|Zk 0 rfl aJ rfl G rfl<|Zi rfl qT rfl<|Zk 1 rfl aJ rfl G rfl<|lE rfl rfl rfl rfl ⟨_,rfl,rfl⟩<|Zad rfl ?_;exact aQ 5
 ·refine Zf rfl<|Zf rfl<|Zf rfl<|Zf rfl<|Zf rfl<|Zae rfl ?_;exact aQ 5
 refine Za rfl ?_;refine' dJ 4 (s:=15) (p:=19) rfl (fun M=>?_) (fun M=>?_) ?_;rotate_left
 ·refine Zi rfl qT rfl<|Zk 1 rfl aJ rfl G rfl<|lE rfl rfl rfl rfl ⟨_,rfl,rfl⟩<|Zad rfl ?_;exact aQ 3
 ·refine Zf rfl<|Zf rfl<|Zf rfl<|Zae rfl ?_;exact aQ 3
 refine Zg rfl<|aG ?_;exact aE rfl (fun D hD=>rfl)
theorem Q0(p:Pt)(D:aC):Fn prog 246 #[aXW p] D (fun _ v=>v=.bool (lG p)):=by
 refine Zs 6 func246 rfl (fun h0=>aA<|Zu rfl (fun q1 M I G=>Zg rfl<|aL<|dQ rfl nH rfl G Yc Yx n3 rfl bDY<|AI (cs:=[qI 1,qI 1,qI 1]) rfl U210 aM Q4 rfl rfl rfl bDY<|PH (l:=p.l) (m:=[1,1,1]) rfl Yg U210 U3 Yg rfl rfl rfl rfl rfl bDY<|Zg rfl<|aG ?_));exact aE rfl (fun D hD=>by show Value.bool _=_;rw[aMM])
theorem aCT(m k:Nat)(D:aC)(hk:m.testBit k=true)(I:k≤60)(hl:∀i,i<k→m.testBit i=false):Fn prog 330 #[qI (m:Int)] D (fun _ v=>v=qI (k:Int)):=by
 refine Zs 11 func330 rfl (fun h0=>aA<|Zg rfl<|bT<|Zar<|gX (γ:=Nat) (fun i=>k-i) (fun i=>i≤k) (fun i=>[(2,qI (i:Int))]) [(0,_)] (fun i=>[D]) 0 Yd ⟨Yb,bDY⟩ ⟨rfl,bDY⟩ (aH) ?_);rintro i h1;refine eH<|Za rfl<|Za rfl<|s4 rfl rfl rfl Yd rfl bDY<|G1 rfl rfl rfl (Int.natCast_nonneg _) Yd (by rw[nG];split<;>simp only[uN]<;>omega) rfl bDY<|Zam rfl<|aF<|Zz rfl (fun G=>?_) (fun G=>?_)
 ·refine aT<|Zar<|aU<|Za rfl<|Zaa rfl<|Zg rfl<|Zah<|Zat ?_;exact aK 9 (i+1) (aEO hk h1 G) (by have:=aEO hk h1 G;omega) ⟨Yb,bDY⟩ rfl rfl Mm5 (aH)
 ·obtain rfl:=aNE hl h1 G;refine aW<|Zas<|Zas<|Zav<|Zaq<|aA<|Za rfl<|Zg rfl<|aG ?_;exact aE rfl (fun D hD=>rfl)
end L7
namespace L7
open C7
def LV(l:List Int):Nat:=(l.filter fun n=>decide (n=2)).length
theorem aOP(l:List Int):LV l≤l.length:=bBO _ _
theorem aUI(l:List Ch):lB l≤3*l.length:=by
 induction l with
 |nil=>simp[lB]
 |cons c l ih=>
  have:aTG c.parts≤3:=bBO _ _;simp only[lB,aZR,List.sum_cons,aYW]at ih ⊢
  omega
theorem aFW{l:List Ch}{i:Nat}{x:Ch}(hx:l[i]?= some x):((lB (l.take (i+1)):Nat):Int)=((lB (l.take i)+LV (x.parts.l.take 3):Nat):Int):=by
 rw[aZG,hx];simp[lB,aTG,LV,Pt.l]
theorem aQF{x:Ch}{k:Nat}{n:Int}(hx:kC x=true)(hn:x.parts.l[k]?= some n):0≤n∧n≤2:=by
 simp only[kC,aYT,TB,aZN]at hx;have:=hx.2 n (LE hn);simpa [gW]using this
theorem aBO{l:List Int}{k u:Nat}{n:Int}(hn:l[k]?= some n)(h:0≤n∧n≤2):((u+LV (l.take (k+1)):Nat):Int)=((u+LV (l.take k):Nat):Int)+n / 2:=by
 rw[aZG,hn];simp only[LV,bAR,bBK,aYS];by_cases h2:n=2
 ·subst h2;simp;omega
 ·simp[h2];omega
theorem aGE{y:bC}(h:(decide ((7:Int)<y.chairs.length)||decide ((5:Int)<y.claims.length))=true):aV y=3:=by
 simp only[bAD,aZI]at h;unfold aV;rw[aZK Yd]
theorem FV{y:bC}(h:(decide ((7:Int)<y.chairs.length)||decide ((5:Int)<y.claims.length))=false):¬(7<y.chairs.length∨5<y.claims.length):=by
 simp only[bAU,bAH]at h;omega
theorem aTB{y:bC}(h:(decide ((7:Int)<y.chairs.length)||decide ((5:Int)<y.claims.length))=false)(h2:((!gW y.fit 0 9|| !y.chairs.all kC)|| !y.claims.all oH)=true):aV y=1:=by
 unfold aV;rw[aZB (FV h),aZK]
 revert h2;unfold G8
 generalize gW y.fit 0 9=a,y.chairs.all kC=b,y.claims.all oH=c;cases a<;>cases b<;>cases c<;>decide
theorem PU{y:bC}(h2:((!gW y.fit 0 9|| !y.chairs.all kC)|| !y.claims.all oH)=false):G8 y=true:=by
 revert h2;unfold G8
 generalize gW y.fit 0 9=a,y.chairs.all kC=b,y.claims.all oH=c;cases a<;>cases b<;>cases c<;>decide
theorem aWQ{y:bC}(h:(decide ((7:Int)<y.chairs.length)||decide ((5:Int)<y.claims.length))=false)(h2:((!gW y.fit 0 9|| !y.chairs.all kC)|| !y.claims.all oH)=false):y.chairs.length≤7∧∀x∈y.chairs,kC x=true:=by
 have h3:=PU h2;simp only[G8,aYT,aZN]at h3;have:=FV h;exact⟨by omega,h3.1.2⟩
theorem aON{y:bC}(h:(decide ((7:Int)<y.chairs.length)||decide ((5:Int)<y.claims.length))=false)(h2:((!gW y.fit 0 9|| !y.chairs.all kC)|| !y.claims.all oH)=false)(h3:(8:Int)<lB y.chairs):aV y=3:=by
 unfold aV;rw[aZB (FV h),aZB (by rw[PU h2];simp),aZK Yd]
theorem aOV{y:bC}(h:(decide ((7:Int)<y.chairs.length)||decide ((5:Int)<y.claims.length))=false)(h2:((!gW y.fit 0 9|| !y.chairs.all kC)|| !y.claims.all oH)=false)(h3:¬(8:Int)<lB y.chairs):aV y=0:=by
 unfold aV;rw[aZB (FV h),aZB (by rw[PU h2];simp),aZB Yd]
theorem aUV{p:Pt}{k:Nat}{m:Int}(h:p.l[k]?= some m):([qI p.a,qI p.b,qI p.c]:List Value)[k*1]?= some (qI m):=by
 rw[bBQ,show([qI p.a,qI p.b,qI p.c]:List Value)=p.l.map (Value.int .i64)from rfl,aZT,h];rfl
theorem xA(yv:Value)(y:bC)(D:aC)(hy:nM D yv y):Fn prog 86 #[yv] D (fun _ v=>v=qI (aV y)):=by
 have U:=hy;obtain⟨cv,qv,rfl,hc,hq⟩:=hy;refine Zs 60 func86 rfl (fun h0=>aA<|Zu rfl (fun q1 E1 hN G=>Zg rfl<|aL<|Zq rfl jC rfl G iO<|Zao rfl<|Zg rfl<|bT<|Zar<|aA<|Zh rfl eO rfl ?_));refine Zj 0 rfl jE rfl G rfl<|Zab rfl U37 rfl hc rfl<|fI rfl rfl rfl rfl bDY<|Za rfl ?_;refine' cR 5 (s:=16) (p:=21) rfl (fun V=>?_) (fun V=>?_) ?_;rotate_left
 ·refine Zi rfl iB rfl<|Zk 2 rfl pV rfl G rfl<|cZ rfl U38 rfl hq rfl rfl ⟨_,rfl,rfl⟩<|fI rfl rfl rfl rfl ⟨_,rfl,rfl⟩<|Zae rfl ?_;exact aQ 4
 ·refine Zf rfl<|Zf rfl<|Zf rfl<|Zf rfl<|Zad rfl ?_;exact aQ 4
 refine Zg rfl<|aF<|aP rfl (fun I=>?_) (fun I=>?_)
 ·refine aA<|Zg rfl<|aG<|Zau<|Zap ?_;exact aE rfl (fun D hD=>by show Value.int _ _=_;rw[aGE I])
 ·refine aA<|Zh rfl tI rfl<|Zj 1 rfl aJ rfl G rfl<|Zc rfl (fun D1 hO=>eP _ _ _ _)<|Zal rfl<|Za rfl ?_;refine' cR 5 (s:=27) (p:=32) rfl (fun Y=>?_) (fun Y=>?_) ?_;rotate_left
  ·refine Zi rfl eO rfl<|Zk 0 rfl jE rfl G rfl<|Zd rfl (fun R Z=>EZ _ _ _ kC _ (Sl.at wZ.up Z Yl Ye) (.of fun x R=>BL x R) rfl)<|lJ rfl rfl rfl ⟨_,rfl,rfl⟩<|Zae rfl ?_;exact aQ 4
  ·refine Zf rfl<|Zf rfl<|Zf rfl<|Zf rfl<|Zad rfl ?_;exact aQ 4
  refine Za rfl ?_;refine' cR 6 (s:=33) (p:=39) rfl (fun hB=>?_) (fun hB=>?_) ?_;rotate_left
  ·refine Zi rfl iB rfl<|Zk 2 rfl pV rfl G rfl<|Zb rfl<|Zd rfl (fun D3 O=>GK _ _ _ oH _ (Sl.at R2.up O Yl Ye) ⟨_,[_],[],rfl,fun r R hl=>aKT _ y r R (U.up ((O _ Ye).trans hl))⟩ rfl)<|lJ rfl rfl rfl ⟨_,rfl,rfl⟩<|Zae rfl ?_;exact aQ 5
  ·refine Zf rfl<|Zf rfl<|Zf rfl<|Zf rfl<|Zf rfl<|Zad rfl ?_;exact aQ 5
  refine Zg rfl<|aF<|aP rfl (fun hc2=>?_) (fun hc2=>?_)
  ·refine aA<|Zg rfl<|aG<|Zau<|Zap ?_;exact aE rfl (fun D hD=>by show Value.int _ _=_;rw[aTB I hc2])
  ·obtain⟨hR,hok⟩:=aWQ I hc2;refine bM<|Zat<|Zaq<|aA<|Zg rfl<|bJ<|Zh rfl eO rfl<|Zj 0 rfl jE rfl G rfl<|Zab rfl U37 rfl hc rfl<|Za rfl<|aF<|Zar ?_;refine gX (γ:=Nat) (fun i=>y.chairs.length-i) (fun i=>i≤y.chairs.length) (fun i=>[(43,qI (i:Int)),(4,qI (lB (y.chairs.take i):Int))]) [(42,_),(41,_),(2,_)] (fun i=>[E1,D]) 0 Yd ⟨Yb,(by simp[lB];rfl),bDY⟩ cQ (aH) ?_
   rintro i h1;refine aA<|Zai rfl<|bT<|Zz rfl (fun hE=>?_) (fun hE=>?_)
   ·have hi:i<y.chairs.length:=by omega
    obtain⟨x,hx⟩:=dV y.chairs i;have hxo:=hok x (LE hx);have hub:=aUI (y.chairs.take i);have hut:(y.chairs.take i).length≤i:=bDH _ _;refine aT<|aS<|Zar<|aA<|Zw rfl U37 iQ rfl hc rfl hx (fun b1 o1 hF hH hM hI=>?_);obtain rfl:hF=[qI _,qI _,qI _,qI _]:=hH;refine Zq rfl N5 rfl hI iQ<|Zx rfl zU rfl (fun q2=>Zt rfl iQ (bR.head)<|aL<|Zh rfl A0 rfl<|dM rfl nH mA rfl Mm0 rfl rfl n3 rfl bDY<|Za rfl<|aF<|Zar<|gX (γ:=Nat) (fun k=>3-k) (fun k=>k≤3) (fun k=>[(49,qI (k:Int)),(4,qI ((lB (y.chairs.take i)+LV (x.parts.l.take k):Nat):Int))]) [(48,_),(47,_),(6,_),(46,_),(45,_),(44,_),(43,_),(42,_),(41,_),(2,_)] (fun k=>[E1,D]) 0 Yd ⟨Yb,(by simp[LV];rfl),bDY⟩ cQ (aH) ?_)
    rintro k h2;refine aA<|Zai rfl<|bT<|Zz rfl (fun hJ=>?_) (fun hJ=>?_)
    ·have hS:k<3:=by omega
     obtain⟨n,hn⟩:∃n,x.parts.l[k]?= some n:=⟨_,aYU (by simp[Pt.l];omega)⟩
     have hK:=aQF hxo hn;have hkl:=aOP (x.parts.l.take k);have hkt:(x.parts.l.take k).length≤k:=bDH _ _;refine aT<|aS<|Zar<|aA<|p5 (l:=x.parts.l) rfl U210 aJ aM rfl rfl Yd Yd hn rfl bDY<|Zg rfl<|aF<|aU<|Za rfl<|Za rfl<|KO rfl rfl rfl Yd Yd Yf rfl bDY<|Zaa rfl ?_;refine Zg rfl<|Zah<|Zat<|Zaq<|aU<|Zaa rfl<|Za rfl<|Zah ?_;exact aK 12 (k+1) Yd Yd ⟨Yb,(by rw[aBO hn hK];rfl),bDY⟩ rfl rfl Mm5 (aH)
    ·obtain rfl:k=3:=by omega
     refine aW<|Zas<|Zas<|Zav<|Zat<|Zaq<|aU<|Zaa rfl<|Za rfl<|Zah ?_;exact aK 12 (i+1) Yd Yd ⟨Yb,(by rw[aFW hx];rfl),bDY⟩ rfl rfl (List.Sublist.cons _ Mm5) (aH)
   ·obtain rfl:i=y.chairs.length:=by omega
    rw[bAA];refine aW<|Zas<|Zas<|Zav<|Zaq<|eH<|Za rfl<|fI rfl rfl rfl rfl bDY<|aF<|Zz rfl (fun M=>?_) (fun M=>?_)
    ·refine aA<|Zg rfl<|aG<|Zap ?_;exact aE rfl (fun D hD=>by show Value.int _ _=_;rw[aON I hc2 M])
    ·refine aT<|aA<|Zg rfl<|aG ?_;exact aE rfl (fun D hD=>by show Value.int _ _=_;rw[aOV I hc2 M])
end L7
namespace L7
open C7
def DF(p:Pt):Prop:=(0≤p.a∧p.a≤1)∧(0≤p.b∧p.b≤1)∧(0≤p.c∧p.c≤1)
def WK(p q:Pt):Bool:=(!lG p&& !lG q)&&lG ⟨max p.a q.a,max p.b q.b,max p.c q.c⟩
def CC(f:Int)(x z:Ch):Bool:=gW (x.size-z.size) (-f) f
theorem aDU(p q:Pt)(D:aC)(hp:DF p)(hq:DF q):Fn prog 247 #[aXW p,aXW q] D (fun _ v=>v=.bool (WK p q)):=by
 refine Zs 32 func247 rfl (fun h0=>aA<|Zu rfl (fun q1 E1 R G=>Zu rfl (fun q2 E2 U I=>Zg rfl<|aL<|dQ rfl nH rfl G Yc Yx n3 rfl bDY<|Zc rfl (fun D1 V=>Q0 p _)<|Zal rfl<|Za rfl ?_)));refine' dJ 4 (s:=8) (p:=12) rfl (fun M=>?_) (fun M=>?_) ?_;rotate_left
 ·refine dQ rfl nH rfl I Yc Yx n3 rfl ⟨_,rfl,rfl⟩<|Zd rfl (fun D2 Y=>Q0 q _)<|lJ rfl rfl rfl ⟨_,rfl,rfl⟩<|Zad rfl ?_;exact aQ 3
 ·refine Zf rfl<|Zf rfl<|Zf rfl<|Zae rfl ?_;exact aQ 3
 refine Za rfl ?_;refine' dJ 18 (s:=13) (p:=31) rfl (fun O=>?_) (fun O=>?_) ?_;rotate_left
 ·refine eM rfl U210 aM rfl rfl Yy Yy rfl ⟨_,rfl,rfl⟩<|iW rfl aJ rfl G Ye rfl n3 rfl ⟨_,rfl,rfl⟩<|eM rfl U210 aM rfl rfl Yy Yy rfl ⟨_,rfl,rfl⟩<|iW rfl aJ rfl I Ye rfl n3 rfl ⟨_,rfl,rfl⟩<|PW rfl rfl rfl hp.1 hq.1 rfl ⟨_,rfl,rfl⟩<|eM rfl U210 aM rfl rfl Yy Yy rfl ⟨_,rfl,rfl⟩<|iW rfl aJ rfl G Ye rfl n3 rfl ⟨_,rfl,rfl⟩<|eM rfl U210 aM rfl rfl Yy Yy rfl ⟨_,rfl,rfl⟩<|iW rfl aJ rfl I Ye rfl n3 rfl ⟨_,rfl,rfl⟩<|PW rfl rfl rfl hp.2.1 hq.2.1 rfl ⟨_,rfl,rfl⟩<|eM rfl U210 aM rfl rfl Yy Yy rfl ⟨_,rfl,rfl⟩<|iW rfl aJ rfl G Ye rfl n3 rfl ⟨_,rfl,rfl⟩ ?_;refine eM rfl U210 aM rfl rfl Yy Yy rfl ⟨_,rfl,rfl⟩<|iW rfl aJ rfl I Ye rfl n3 rfl ⟨_,rfl,rfl⟩<|PW rfl rfl rfl hp.2.2 hq.2.2 rfl ⟨_,rfl,rfl⟩<|AI (cs:=[qI (max p.a q.a),qI (max p.b q.b),qI (max p.c q.c)]) rfl U210 aM Q4 rfl rfl rfl ⟨_,rfl,rfl⟩<|Zd rfl (fun D3 Z=>Q0 ⟨max p.a q.a,max p.b q.b,max p.c q.c⟩ _)<|Zad rfl ?_;exact aQ 17
 ·refine Zf rfl<|Zf rfl<|Zf rfl<|Zf rfl<|Zf rfl<|Zf rfl<|Zf rfl<|Zf rfl<|Zf rfl<|Zf rfl<|Zf rfl<|Zf rfl ?_;refine Zf rfl<|Zf rfl<|Zf rfl<|Zf rfl<|Zf rfl<|Zae rfl ?_;exact aQ 17
 refine Zg rfl<|aG ?_;exact aE rfl (fun D hD=>rfl)
theorem c8(yv:Value)(y:bC)(a b:Nat)(x z:Ch)(D:aC)(hy:nM D yv y)(hf:0≤y.fit∧y.fit≤9)(hx:y.chairs[a]?= some x)(hz:y.chairs[b]?= some z)(hxs:0≤x.size∧x.size≤9)(hzs:0≤z.size∧z.size≤9):Fn prog 147 #[yv,qI (a:Int),qI (b:Int)] D (fun _ v=>v=.bool (CC y.fit x z)):=by
 obtain⟨cv,qv,rfl,hc,hq⟩:=hy;refine Zs 26 func147 rfl (fun h0=>aA<|Zu rfl (fun q1 E1 hB G=>Zg rfl<|bT<|bW [] 6 20 257988<|Zh rfl eO rfl<|Zj 0 rfl jE rfl G rfl<|Za rfl<|Zw rfl U37 iQ rfl hc rfl hx (fun b1 o1 I M Y O=>?_)));obtain rfl:I=[qI _,qI _,qI _,qI _]:=M;refine Zh rfl S9 rfl<|Zj 0 rfl aJ rfl O rfl<|Zh rfl eO rfl<|Zj 0 rfl jE rfl G rfl<|Za rfl<|Zw rfl U37 iQ rfl hc rfl hz (fun b2 o2 R U Z V=>?_);obtain rfl:R=[qI _,qI _,qI _,qI _]:=U;refine Zh rfl S9 rfl<|Zj 0 rfl aJ rfl V rfl<|Zan rfl<|Zh rfl tI rfl<|Zj 1 rfl aJ rfl G rfl<|aSH rfl rfl Yf rfl bDY<|Zh rfl tI rfl<|Zj 1 rfl aJ rfl G rfl<|Zc rfl (fun D1 hE=>eP _ _ _ _)<|Zg rfl<|aG ?_;exact aE rfl (fun D hD=>rfl)
end L7
end Go.Fs
