/- Of the proof of BookNames: AW5, AW6, AW7, AW8, MapK, Eqs, UW1, MapV, Range, UW2, SW1, SW2, SW3, SW4. -/
import Derived.Test.YtelhnbcdablgoaaGreatDoorZBookNamesAD
import Derived.Test.YtelhnbcdablgoaaGreatDoorZBookNamesAC
import Derived.Maps.RangeRun
namespace Go.Fs
open Go.Proofs Tryz
namespace L1
open C1
theorem UT{ts:List (List Int)}{q:List Int→Bool}{t0 t:List Int}{j:Nat}(hj:ts[j]?= some t)(h:(ts.take j).all (fun t=>q t==q t0)=true)(hc:(!(q t==q t0))=false):(ts.take (j+1)).all (fun t=>q t==q t0)=true:=by
 rw[aYG,hj,List.all_append,h];simpa using hc
theorem IW{r:eC}{f:Bool}(h:eG r f=0):truths r≠[]:=by
 unfold eG at h;split at h;omega;split at h;omega;split at h;omega;assumption
theorem J9{r:eC}{f:Bool}(h:eG r f=0):f=true:=by
 unfold eG at h;split at h;omega;split at h;omega;rename_i hf;simpa using hf
theorem aEQ{r:eC}{i j:Int}(hok:tN r)(h:eG r (sJ r i j)=0):0≤i∧i≤j∧j<9:=by
 have:=J9 h;simp only[sJ,aYB,dA]at this;have:=hok.len9;omega
theorem H9{r:eC}(hok:tN r):∀t∈truths r,t.length≤9∧∀x∈t,0≤x∧x≤1:=fun t ht=>⟨by have:=(A7 ht).1;have:=hok.len9;omega,(A7 ht).2⟩
theorem AA{ts:List (List Int)}{k:Nat}{t:List Int}{f:List Int→Int}{a:Int}(h:ts[k]?= some t):((ts.take (k+1)).map f).foldl min a=min (((ts.take k).map f).foldl min a) (f t):=by
 rw[aYG,h,aZH,aYE,aZM];rfl
theorem AN{ts:List (List Int)}{k:Nat}{t:List Int}{f:List Int→Int}{a:Int}(h:ts[k]?= some t):((ts.take (k+1)).map f).foldl max a=max (((ts.take k).map f).foldl max a) (f t):=by
 rw[aYG,h,aZH,aYE,aZM];rfl
theorem aAM(sv:Value)(ts:List (List Int))(i j:Int)(D:aC)(hS:Sl D RT 9 sv ts)(hne:ts≠[])(hall:∀t∈ts,t.length≤9∧∀x∈t,0≤x∧x≤1)(G:0≤i)(hij:i≤j)(I:j<9):
  Fn prog 75 #[sv,qI i,qI j] D (fun _ v=>v=.agg #[qI (aJG ts i.toNat j.toNat),qI (aDL ts i.toNat j.toNat)]):=by
 have hl:=hS.len;obtain⟨t0,ht0⟩:∃t,ts[0]?= some t:=⟨ts[0]'(bAU.2 hne),aXT _⟩
 have ht0m:=LT ht0;have hF:=HT (hall t0 ht0m).2 i.toNat j.toNat Yd;have Z:=gX (hall t0 ht0m).1;refine enter 36 func75 rfl rfl rfl rfl fun h0=>aA<|Zw rfl qE rfl (fun q1=>aK<|Za rfl<|Zx rfl U174 dW rfl hS rfl ht0 (fun b1 o1 M O hB R=>?_))
 obtain rfl:M=ints (fL _):=O;refine dL rfl jS rfl R Yc (by first|exact dW|(simp only[*];exact dW)) n3 rfl bCV<|Zc rfl (fun D1 hH=>N4 t0 _ (hall _ ht0m).1 (hall _ ht0m).2)<|Za rfl<|Za rfl<|Zc rfl (fun D2 hI=>aQX t0 i j _ G hij I (hall _ ht0m).2)<|Zj rfl<|aK<|Za rfl<|Za rfl<|Zo [qI (oR t0 i.toNat j.toNat),qI (oR t0 i.toNat j.toNat)] rfl r0 qE rfl<|Zw rfl qE rfl (fun q2=>Zu rfl iT (bO.head) ?_);refine bW<|Za rfl<|dH rfl U174 rfl Ym rfl rfl bCV<|Za rfl<|aG<|Zar<|dB (γ:=Nat) (fun k=>ts.length-k) (fun k=>k≤ts.length) (fun k=>[(23,qI (k:Int))]) [(22,_),(21,_),(8,_),(6,_),(1,_),(2,_)] (fun k=>[(q2,qC [qI (((ts.take k).map fun t=>oR t i.toNat j.toNat).foldl min (oR t0 i.toNat j.toNat)),qI (((ts.take k).map fun t=>oR t i.toNat j.toNat).foldl max (oR t0 i.toNat j.toNat))] 88),(q1,qC [qI 0,qI 0] 88)]) (fun k=>[D]) 0 Yd ⟨Yb,bCV⟩ bA Mm5 (aE) ?_;rintro k h1;refine aA<|Zai rfl<|bR<|Zz rfl (fun T=>?_) (fun T=>?_)
 ·have hkk:k<ts.length:=by omega
  obtain⟨t,ht⟩:=dX ts k;have htm:=LT ht;obtain⟨htl,htb⟩:=hall t htm;have hJ:=gX htl;refine aZ<|aO<|Zar<|aA<|Zx rfl U174 dW rfl hS rfl ht (fun b2 o2 U V hE Y=>?_);obtain rfl:U=ints (fL _):=V;refine dL rfl jS rfl Y Yc (by first|exact dW|(simp only[*];exact dW)) n3 rfl bCV<|Zw rfl qW rfl (fun q3=>aV rfl rfl rfl rfl dW Yak Ya (bO.head) Yh bCV<|aG<|lR [] 3 [0,1,3,4,2,5,6,7] [false,true,true,true,true,true,false,false] [(false,0),(true,1),(true,3),(true,4),(true,2),(true,5),(false,6),(false,7)] bI (fun _ _ _ h=>iO (P:=prog) (fn:=f75) _ _ _ h) Yf rfl<|Zy rfl wQ rfl Mm1 iT<|bT rfl jS rfl Mm0 (by first|exact dW|(simp only[*];exact dW)) n3 rfl bCV<|Za rfl<|Za rfl<|Zc rfl (fun D3 hK=>N4 t _ (hall _ htm).1 (hall _ htm).2)<|Zc rfl (fun D4 hM=>aQX t i j _ G hij I (hall _ htm).2)<|Zc rfl (fun D5 hN=>sM _ _ _ _) ?_);refine Zu rfl iT (.tail (bO.head))<|Zae<|Zat<|Zap<|aX<|Zaa rfl<|Za rfl<|Zae ?_;rw[←AA ht,←AN ht];exact aM 14 (k+1) Yd Yd ⟨Yb,bCV⟩ rfl rfl (List.Sublist.cons _ Mm5) (aE)
 ·obtain rfl:k=ts.length:=by omega
  rw[aZB,AQ _ _ (by rw[aYQ,ht0];rfl),AG _ _ (by rw[aYQ,ht0];rfl)];refine aT<|Zaq<|Zaq<|Zau<|Zap<|aA<|Zy rfl wQ rfl Mm0 iT<|Zu rfl iT (.tail (bO.head))<|aH ?_;exact Zl [_] rfl ⟨⟨_,_,_,rfl,Mm1,Or.inr ⟨wQ,(by first|exact iT|(simp only[aYU,aN, *];exact iT)),rfl⟩⟩,bCV⟩ (fun D hD=>rfl)
theorem zS(rv:Value)(r:eC)(i j:Int)(D:aC)(hr:nX D rv r):Fn prog 44 #[rv,qI i,qI j] D (fun _ v=>v=.tuple #[.agg (if eG r (sJ r i j)=0 then #[qI (aJG (truths r) i.toNat j.toNat),qI (aDL (truths r) i.toNat j.toNat)]else #[qI 0,qI 0]),qI (eG r (sJ r i j))]):=by
 have I:=hr;obtain⟨pv,cv,rfl,hp,hc⟩:=hr;refine enter 30 func44 rfl rfl rfl rfl fun h0=>aA<|Zv rfl (fun q1 E1 Y M=>Zw rfl qE rfl (fun q2=>Zj rfl<|bR<|bM [] 4 11 798<|Zs rfl iW rfl M fX<|Zs rfl iW rfl M fX<|Za rfl<|Za rfl<|Zc rfl (fun D1 U=>aKU _ r i j _ (I.up (U _ Ye))) ?_));refine Zt rfl (fun Z O=>vL _ r _ _ (I.up (O _ Ye))) (fun v2 Z O R=>?_)
 obtain⟨wv,rfl,hwk⟩:=R;refine Za rfl<|Zad rfl<|Zad rfl<|Zj rfl<|Zj rfl<|bW<|Za rfl<|Zam rfl<|aG<|Zz rfl (fun T=>?_) (fun T=>?_)
 ·refine aA<|Zo [qI 0,qI 0] rfl r0 qE rfl<|Za rfl<|Zu rfl iT (bO.head)<|Zj rfl<|aH<|Zas ?_;exact Zl [_,_] rfl ⟨⟨_,_,_,rfl,Mm0,Or.inr ⟨wQ,(by first|exact iT|(simp only[aYU,aN, *];exact iT)),rfl⟩⟩,rfl,bCV⟩ (fun D hD=>by show Value.tuple _=_;rw[aYC T])
 ·have G:eG r (sJ r i j)=0:=by omega
  obtain⟨hok,wb,hB,hE,tv,rfl,hA,R,hc2',ht⟩:=hwk G;have htn:=IW G;have hall:=H9 hok;have hpt:=aEQ hok G;refine aZ<|aA<|Za rfl<|Zaj rfl<|Zh rfl pE rfl<|Zf 4 rfl zM rfl hA rfl<|Za rfl<|Za rfl<|Zc rfl (fun D3 V=>aAM _ _ i j _ (ht.up RT.up (V _ Ye)) htn hall hpt.1 hpt.2.1 hpt.2.2)<|Zu rfl iT (bO.head)<|Zj rfl<|aH ?_;exact Zl [_,_] rfl ⟨⟨_,_,_,rfl,Mm0,Or.inr ⟨wQ,(by first|exact iT|(simp only[aYU,aN, *];exact iT)),rfl⟩⟩,rfl,bCV⟩ (fun D hD=>by show Value.tuple _=_;rw[aYJ G,G])
theorem o5(wv:Value)(t:List Int)(i:Nat)(D:aC)(h9:t.length≤9)(hi:i<9):Fn prog 263 #[wv,.agg (ints (fL t)).toArray,qI (i:Int)] D (fun _ v=>v=.bool (aIY i t)):=by
 have hg:=aFZ hi h9;refine enter 11 func263 rfl rfl rfl rfl fun h0=>aA<|Zv rfl (fun M O I G=>Zj rfl<|aK<|Za rfl<|eJ rfl U179 aL rfl rfl Yd Yd rfl bCV<|jH rfl aI rfl G Ye (cK hg) n3 rfl bCV<|iH rfl rfl rfl rfl bCV<|Zj rfl<|aH ?_)
 exact aF rfl (fun D hD=>rfl)
theorem LY(fv wv:Value)(f:FuncId)(r:eC)(p:Nat→List Int→Bool)(many:Nat)(D:aC)(hfv:fv=.func (.func f) #[] #[])(hw:aGW D wv r)(hok:tN r)(hne:truths r≠[])(hm:many≤9)
  (hf:∀t∈truths r,∀i,i<many→∀D',Le D D'→Fn prog f #[wv,.agg (ints (fL t)).toArray,qI (i:Int)] D' (fun _ v=>v=.bool (p i t))):
  Fn prog 264 #[.agg #[fv],wv,qI (many:Int)] D (fun D' v=>Sl D' RI 1 v ((List.range many).map fun i=>vd (truths r) (p i))):=by
 obtain⟨wb,pv,cv,tv,rfl,hA,hp,hc,ht⟩:=hw;subst hfv;have hl:=ht.len;have hall:=H9 hok;obtain⟨t0,ht0⟩:∃t,(truths r)[0]?= some t:=⟨(truths r)[0]'(bAU.2 hne),aXT _⟩
 have ht0m:=LT ht0;have hp90:=gX (hall t0 ht0m).1;refine enter 52 func264 rfl rfl rfl rfl fun h0=>aA<|Zv rfl (fun q1 E1 hE1 U=>Zj rfl<|bW<|Za rfl<|Za rfl<|aG<|Zar<|dB (γ:=Nat×Value×aD) (fun g=>many-g.1) (fun g=>g.1≤many∧bZ 3 1 g.2.1 g.1 (ints ((List.range g.1).map fun i=>vd (truths r) (p i))) g.2.2) (fun g=>[(13,qI (g.1:Int)),(6,g.2.1)]) [(12,_),(3,_),(1,_)] (fun g=>g.2.2++[]) (fun g=>[E1,D]) (0,qN,[]) ⟨by simp,by simpa [ints]using bZ.nil⟩ ⟨Yb,Yb,bCV⟩ bA Mm5 (aE) ?_)
 rintro⟨k,v,ν⟩ ⟨h1,ha⟩;refine aA<|Zai rfl<|bR<|Zz rfl (fun hB=>?_) (fun hB=>?_)
 ·refine aZ<|aO<|Zar<|aA<|Za rfl<|Zj rfl<|aG<|HP<|aO<|bM [] 6 12 1020<|Zh rfl S5 rfl<|Zf 0 rfl HR rfl U rfl ?_;refine Za rfl<|Za rfl<|Zaj rfl<|Zh rfl pE rfl<|Zf 4 rfl zM rfl hA rfl<|Zx rfl U174 dW rfl ht rfl ht0 (fun b1 o1 hE hH hcl1 hI=>?_);obtain rfl:hE=ints (fL _):=hH;refine dL rfl jS rfl hI Yc (by first|exact dW|(simp only[*];exact dW)) n3 rfl bCV<|Za rfl<|Zc rfl (fun D1 hJ=>hf t0 ht0m k Yd _ (hJ _ Ye))<|Zj rfl<|aK<|Zj rfl<|bW<|Za rfl<|aG<|aW rfl (fun hc2=>?_) (fun hc2=>?_)
  ·refine aX<|Zj rfl<|bR<|b8<|Zap<|dV<|Za rfl<|Zaj rfl<|Zh rfl pE rfl<|Zf 4 rfl zM rfl hA rfl<|dH rfl U174 rfl Ym rfl rfl bCV<|Za rfl ?_;refine aG<|Zar<|bP (γ:=Nat) (fun j=>(truths r).length-j) (fun j=>j≤(truths r).length∧((truths r).take j).all (fun t=>p k t==p k t0)=true) (fun j=>[(33,qI (j:Int))]) [(32,_),(31,_),(30,_),(29,_),(28,_),(9,_),(27,_),(8,_),(26,_),(25,_),(24,_),(23,_),(22,_),(21,_),(20,_),(19,_),(18,_),(17,_),(16,_),(7,_),(15,_),(14,_),(13,_),(6,_),(12,_),(3,_),(1,_)] (fun j=>[E1,D]) 0 Ye ⟨Yb,bCV⟩ bA (aE) ?_;rintro j ⟨h3,h4⟩;refine aA<|Zai rfl<|bR<|Zz rfl (fun hK=>?_) (fun hK=>?_)
   ·have hj:j<(truths r).length:=by omega
    obtain⟨t,G⟩:=dX (truths r) j;have htm:=LT G;obtain⟨htl,htb⟩:=hall t htm;have hM:=gX htl;refine aZ<|aO<|Zar<|aA<|Zx rfl U174 dW rfl ht rfl G (fun b2 o2 hN hO hcl2 hR=>?_);obtain rfl:hN=ints (fL _):=hO;refine dL rfl jS rfl hR Yc (by first|exact dW|(simp only[*];exact dW)) n3 rfl bCV<|Zw rfl qW rfl (fun q2=>aV rfl rfl rfl rfl dW Yak Ya (bO.head) Yh bCV<|aK<|Zh rfl S5 rfl<|Zf 0 rfl HR rfl U rfl<|Za rfl<|bT rfl jS rfl Mm0 (by first|exact dW|(simp only[*];exact dW)) n3 rfl bCV<|Za rfl<|Zc rfl (fun D2 Z=>hf t htm k Yd _ (Z _ Ye))<|Za rfl<|HQ rfl U4 rfl rfl rfl bCV ?_);refine aG<|aW rfl (fun V=>?_) (fun V=>?_)
    ·have hv:vd (truths r) (p k)=3:=aQR ht0 G V;refine aA<|Zj rfl<|aG<|aT<|pS rfl<|Zaq<|Zaq<|Zau<|Zap<|aX<|Za rfl<|Za rfl ?_;refine Zn rfl U25 aL dR rfl (.cons rfl rfl .nil) (fun b901 D901 hS M=>?_);have hX:=Sl.ofInts (l:=[_]) (n:=1) (cap:=1) M rfl Yd Yd;refine bE (A:=[(_,_)]) (B:=_) rfl U25 rfl rfl aL dR rfl nV rfl rfl rfl ha (mK.lit M) Ye rfl Ye Yj Yd (aYF rfl) rfl bCV (fun v1 ν1 hY=>?_);have I:bZ 3 1 v1 (k+1) (ints ((List.range (k+1)).map fun i=>vd (truths r) (p i))) ν1:=by rw[aZR,aYE,bBT,hv,←gS];exact hY
     refine Zj rfl<|Zae<|oW<|Zat<|Zap<|aX<|Zaa rfl<|Za rfl<|Zae ?_;exact aM 45 (k+1,v1,ν1) ⟨by simp only;omega,I⟩ Yo ⟨Yb,Yb,bCV⟩ rfl rfl (List.Sublist.cons _ Mm5) (fun D h=>⟨D,aYK _ (h),Le.refl D⟩)
    ·have hcc:=V;refine cB<|Zat<|Zap<|aX<|Zaa rfl<|Za rfl<|Zae ?_;exact aM 15 (j+1) ⟨by omega,UT G h4 hcc⟩ Yd ⟨Yb,bCV⟩ rfl rfl (List.Sublist.cons _ Mm5) (aE)
   ·have hv:vd (truths r) (p k)=1:=by rw[aEE ht0 Yd h4,aYJ (by simp[hc2])]
    refine aT<|Zaq<|Zaq<|Zau<|Zap<|aX<|Za rfl<|Za rfl<|Zn rfl U25 aL dR rfl (.cons rfl rfl .nil) (fun b902 D902 rA O=>?_);have rB:=Sl.ofInts (l:=[_]) (n:=1) (cap:=1) O rfl Yd Yd;refine bE (A:=[]) (B:=_) rfl U25 rfl rfl aL dR rfl nV rfl rfl rfl ha (mK.lit O) Ye rfl Ye Yj Yd (aYF rfl) rfl bCV (fun v2 ν2 I=>?_);have I:bZ 3 1 v2 (k+1) (ints ((List.range (k+1)).map fun i=>vd (truths r) (p i))) ν2:=by rw[aZR,aYE,bBT,hv,←gS];exact I
    refine Zj rfl<|Zae<|oW<|Zat<|Zap<|aX<|Zaa rfl<|Za rfl<|Zae ?_;exact aM 33 (k+1,v2,ν2) ⟨by simp only;omega,I⟩ Yo ⟨Yb,Yb,bCV⟩ rfl rfl Mm5 (fun D h=>⟨D,aYK _ (h),Le.refl D⟩)
  ·refine aZ<|aO<|b8<|Zap<|dV<|Za rfl<|Zaj rfl<|Zh rfl pE rfl<|Zf 4 rfl zM rfl hA rfl<|dH rfl U174 rfl Ym rfl rfl bCV<|Za rfl<|aG ?_;refine Zar<|bP (γ:=Nat) (fun j=>(truths r).length-j) (fun j=>j≤(truths r).length∧((truths r).take j).all (fun t=>p k t==p k t0)=true) (fun j=>[(33,qI (j:Int))]) [(32,_),(31,_),(30,_),(29,_),(28,_),(27,_),(9,_),(8,_),(26,_),(25,_),(24,_),(23,_),(22,_),(21,_),(20,_),(19,_),(18,_),(17,_),(16,_),(7,_),(15,_),(14,_),(13,_),(6,_),(12,_),(3,_),(1,_)] (fun j=>[E1,D]) 0 Ye ⟨Yb,bCV⟩ bA (aE) ?_;rintro j ⟨h3,h4⟩;refine aA<|Zai rfl<|bR<|Zz rfl (fun hc5=>?_) (fun hc5=>?_)
   ·have hj:j<(truths r).length:=by omega
    obtain⟨t,G⟩:=dX (truths r) j;have htm:=LT G;obtain⟨htl,htb⟩:=hall t htm;have hM:=gX htl;refine aZ<|aO<|Zar<|aA<|Zx rfl U174 dW rfl ht rfl G (fun b3 o3 cs3 hr3 hcl3 hA3=>?_);obtain rfl:cs3=ints (fL _):=hr3;refine dL rfl jS rfl hA3 Yc (by first|exact dW|(simp only[*];exact dW)) n3 rfl bCV<|Zw rfl qW rfl (fun q3=>aV rfl rfl rfl rfl dW Yak Ya (bO.head) Yh bCV<|aK<|Zh rfl S5 rfl<|Zf 0 rfl HR rfl U rfl<|Za rfl<|bT rfl jS rfl Mm0 (by first|exact dW|(simp only[*];exact dW)) n3 rfl bCV<|Za rfl<|Zc rfl (fun D3 hD3=>hf t htm k Yd _ (hD3 _ Ye))<|Za rfl<|HQ rfl U4 rfl rfl rfl bCV ?_);refine aG<|aW rfl (fun Y=>?_) (fun Y=>?_)
    ·have hv:vd (truths r) (p k)=3:=aQR ht0 G Y;refine aA<|Zj rfl<|aG<|aT<|pS rfl<|Zaq<|Zaq<|Zau<|Zap<|aX<|Za rfl<|Za rfl ?_;refine Zn rfl U25 aL dR rfl (.cons rfl rfl .nil) (fun b903 D903 hD903 R=>?_);have hS903:=Sl.ofInts (l:=[_]) (n:=1) (cap:=1) R rfl Yd Yd;refine bE (A:=[(_,_)]) (B:=_) rfl U25 rfl rfl aL dR rfl nV rfl rfl rfl ha (mK.lit R) Ye rfl Ye Yj Yd (aYF rfl) rfl bCV (fun v3 ν3 ha3=>?_);have I:bZ 3 1 v3 (k+1) (ints ((List.range (k+1)).map fun i=>vd (truths r) (p i))) ν3:=by rw[aZR,aYE,bBT,hv,←gS];exact ha3
     refine Zj rfl<|Zae<|oW<|Zat<|Zap<|aX<|Zaa rfl<|Za rfl<|Zae ?_;exact aM 45 (k+1,v3,ν3) ⟨by simp only;omega,I⟩ Yo ⟨Yb,Yb,bCV⟩ rfl rfl (List.Sublist.cons _ Mm5) (fun D h=>⟨D,aYK _ (h),Le.refl D⟩)
    ·have hcc:=Y;refine cB<|Zat<|Zap<|aX<|Zaa rfl<|Za rfl<|Zae ?_;exact aM 15 (j+1) ⟨by omega,UT G h4 hcc⟩ Yd ⟨Yb,bCV⟩ rfl rfl (List.Sublist.cons _ Mm5) (aE)
   ·have hv:vd (truths r) (p k)=2:=by rw[aEE ht0 Yd h4,aYC (by simp[hc2])]
    refine aT<|Zaq<|Zaq<|Zau<|Zap<|aX<|Za rfl<|Za rfl<|Zn rfl U25 aL dR rfl (.cons rfl rfl .nil) (fun b904 D904 hD904 T=>?_);have hS904:=Sl.ofInts (l:=[_]) (n:=1) (cap:=1) T rfl Yd Yd;refine bE (A:=[]) (B:=_) rfl U25 rfl rfl aL dR rfl nV rfl rfl rfl ha (mK.lit T) Ye rfl Ye Yj Yd (aYF rfl) rfl bCV (fun v4 ν4 ha4=>?_);have I:bZ 3 1 v4 (k+1) (ints ((List.range (k+1)).map fun i=>vd (truths r) (p i))) ν4:=by rw[aZR,aYE,bBT,hv,←gS];exact ha4
    refine Zj rfl<|Zae<|oW<|Zat<|Zap<|aX<|Zaa rfl<|Za rfl<|Zae ?_;exact aM 33 (k+1,v4,ν4) ⟨by simp only;omega,I⟩ Yo ⟨Yb,Yb,bCV⟩ rfl rfl Mm5 (fun D h=>⟨D,aYK _ (h),Le.refl D⟩)
 ·obtain rfl:k=many:=by omega
  refine aT<|Zaq<|Zaq<|Zau<|Zap<|aA<|Za rfl<|Zj rfl<|aH<|gR (A:=[]) (B:=[]) ha rfl (fun D2 Z hF=>?_);exact aF rfl (fun D hD=>(hF.ints Ye Yd).up RI.up (hD _ Ye))
theorem aAE(rv:Value)(r:eC)(D:aC)(hr:nX D rv r):Fn prog 198 #[rv] D (fun D' v=>∃lv,v=.tuple #[lv,qI (eG r true)]∧Sl D' RI 1 lv (if eG r true=0 then(List.range r.places.length).map (fun i=>vd (truths r) (aIY i))else [])):=by
 have U:=hr;obtain⟨pv,cv,rfl,hp,hc⟩:=hr;have hl1:=hp.len;have hB:=hc.len;refine enter 20 func198 rfl rfl rfl rfl fun h0=>aA<|Zv rfl (fun q1 E1 hE O=>Zj rfl<|Zj rfl<|aK<|Zs rfl iW rfl O fX<|Zt rfl (fun D1 R=>vL _ r _ _ (U.up (R _ Ye))) (fun v1 D1 R V=>?_))
 obtain⟨wv,rfl,hwk⟩:=V;refine Za rfl<|Zad rfl<|Zad rfl<|Zj rfl<|Zj rfl<|bW<|Za rfl<|Zam rfl<|aG<|Zz rfl (fun T=>?_) (fun T=>?_)
 ·refine aA<|Za rfl<|Zj rfl<|Zj rfl<|aH<|Zas ?_;exact jK (vs:=[_,_]) rfl rfl rfl bA (fun D hD=>⟨_,rfl,by rw[aYC T];exact Sl.nil⟩)
 ·have I:eG r true=0:=by omega
  obtain⟨hok,wb,Y,Z,tv,rfl,hA,M,hc2',ht⟩:=hwk I;have htn:=IW I;have hall:=H9 hok;refine aZ<|aA<|Zo [.func (.func 263) #[] #[]] rfl aQD aNY rfl<|Za rfl<|Zh rfl eF rfl<|Zf 0 rfl dS rfl O rfl<|Zab rfl U25 rfl hp rfl<|Zt rfl (fun D2 G=>LY _ _ 263 r (aIY) r.places.length _ rfl ⟨wb,Y,Z,tv,rfl,hA.up (G _ Ye),M.up RI.up (G _ Ye),hc2'.up RC.up (G _ Ye),ht.up RT.up (G _ Ye)⟩ hok htn (by have:=hok.len9;have:=hok.cnt6;omega) (fun t htm i hi D2 hl=>o5 _ t i D2 (hall t htm).1 (by have:=hok.len9;omega))) (fun v2 D2 G M=>Zj rfl<|Zj rfl<|aH ?_)
  exact jK (vs:=[_,_]) rfl rfl rfl bA (fun D hD=>⟨_,by rw[I];rfl,by rw[aYJ I];exact M.up RI.up (hD _ Ye)⟩)
end L1
open Go.Proofs
namespace L1
open C1
end L1
namespace L1
end L1
namespace L1
open C1
theorem aJD(rv:Value)(r:eC)(D:aC)(hr:nX D rv r):Fn prog 45 #[rv] D (fun _ v=>v=.tuple #[qI (uE r),qI (R0 r)]):=by
 have M:=hr;obtain⟨pv,cv,rfl,hp,hc⟩:=hr;refine GP 47 func45 rfl rfl rfl rfl fun h0=>aA<|Zv rfl (fun q1 E1 hJ O=>Zj rfl<|Zj rfl<|bW<|Zs rfl iW rfl O fX<|Zc rfl (fun D1 Y=>X9 _ r _ (M.up (Y _ Ye)))<|Zj rfl<|aK<|Za rfl<|Zam rfl ?_);refine aG<|Zz rfl (fun R=>?_) (fun R=>?_)
 ·refine aA<|Za rfl<|Zj rfl<|Zj rfl<|aH<|Zas ?_;exact tL (vs:=[_,_]) rfl rfl rfl bA (fun D hD=>by show Value.tuple _=_;rw[uE,R0,aYJ R,aYJ R]<;>rfl)
 ·have hok:tN r:=EB.1 Yd;refine aZ<|aA<|Zw rfl dR rfl (fun q2=>Zw rfl nT rfl (fun q3=>Zm rfl aL (.tail (bO.head)) rfl<|Zm rfl lU (bO.head) rfl<|aK<|Zw rfl qW rfl (fun q4=>bW<|Zs rfl iW rfl O fX<|Zt rfl (fun D2 V=>VX _ r _ (M.up (V _ Ye)) hok.len9) (fun v2 D2 V Z=>aG ?_))));refine Zar ?_;obtain⟨br,rfl,hit⟩:=Z;refine pY (γ:=Option Int×List Int) (xs:=(dQ r.places).map fL) (enc:=FY) (Dr:=D2) (zB r) (fun _ _ _=>False) (fun g=>[(q4,qC (ints g.2) 179),(q3,qC [.bool g.1.isSome] 4),(q2,qC [qI (g.1.getD 0)] 3)]) (none,List.replicate 9 0) rfl rfl rfl rfl hit Ye (fun _=>rfl) rfl ⟨rfl,rfl,fun u hu=>by simp at hu⟩ rfl ?_ ?_ (fun _ _ _ _ h=>h.elim)
  ·rintro pre x ⟨o,last⟩ ⟨us,hx⟩ hΦ l bd rec hh D7 hK hst hpend;obtain⟨t,hk,rfl,htm,htake⟩:=zF hx;obtain⟨hlen,htb⟩:=rC htm;have htr:pP r t:=⟨hlen,htb⟩
   have T:=gX (t:=t) (by have:=hok.len9;omega);have hB:last.length=9:=hΦ.2.1;refine aX<|Zw rfl qW rfl (fun q5=>Zu rfl dW (bO.head)<|Zae ?_);refine fun a w hhh=>wT (A:=[(_,_),(_,_),(_,_),(_,_)]) (B:=[(bd,.deferred (some []))]) (r:=rec) (l:=l) Yav hst ?_ a w hhh
   refine Zar<|dV<|Zp rfl CK rfl Mm2 rfl<|Za rfl ?_;refine' dM 4 (s:=20) (p:=24) rfl (fun hE=>?_) (fun hE=>?_) ?_;rotate_left
   ·refine bT rfl jS rfl Mm0 Yab n3 rfl ⟨_,rfl,rfl⟩<|bT rfl jS rfl Mm1 Yab n3 rfl ⟨_,rfl,rfl⟩<|OS rfl Yf U179 U3 Yf T hB rfl rfl rfl ⟨_,rfl,rfl⟩<|Zag rfl ?_;exact aR 3
   ·refine Zk rfl<|Zk rfl<|Zk rfl<|Zah rfl ?_;exact aR 3
   refine aG<|aW rfl (fun hc2=>?_) (fun hc2=>?_)
   ·refine aT<|Zaq<|Zau ?_;exact fun a w hh=>iA (A:=[(_,_),(_,_),(_,_)]) (B:=[(bd,.deferred (some []))]) (o,last) (NR hΦ htm htake hc2) rfl rfl a w (hh.dropBoxes 1)
   ·refine aZ<|aA<|bT rfl jS rfl Mm0 Yab n3 rfl bCV<|Zu rfl dW (.tail (bO.head))<|bR<|pR [] 4 9 198 (fun _ _ _ h=>h)<|Zs rfl iW rfl O fX<|bT rfl jS rfl Mm0 Yab n3 rfl bCV<|Zc rfl (fun D3 hM=>N4 t _ (by have:=hok.len9;omega) htb)<|Zc rfl (fun D4 hF=>JQ _ r t _ (M.up (hF _ Ye)) hok htr)<|Za rfl<|Zad rfl ?_;refine Zad rfl<|Zj rfl<|Zj rfl<|aK<|Za rfl<|Za rfl ?_;refine' dM 8 (s:=34) (p:=42) rfl (fun hH=>?_) (fun hH=>?_) ?_;rotate_left
    ·refine Zq rfl CK rfl Mm2 rfl<|Zal rfl<|Zb rfl ?_;refine' dY 4 (s:=37) (p:=41) rfl (fun hI=>?_) (fun hI=>?_) ?_;rotate_left
     ·refine Zb rfl<|Zq rfl aI rfl Mm3 rfl<|aEY rfl rfl rfl rfl ⟨_,rfl,rfl⟩<|g8 rfl rfl rfl rfl ⟨_,rfl,rfl⟩ ?_;exact aR 3
     ·refine Zk rfl<|Zk rfl<|Zk rfl<|Z5 rfl rfl rfl rfl ⟨_,rfl,rfl⟩ ?_;exact aR 3
     refine Zag rfl ?_;exact aR 4
    ·refine Zk rfl<|Zk rfl<|Zk rfl<|Zk rfl<|Zk rfl<|Zk rfl<|Zk rfl<|Zah rfl ?_;exact aR 7
    refine aG<|aW rfl (fun U=>?_) (fun U=>?_)
    ·refine aX<|Za rfl<|Zm rfl aL (.tail (.tail (.tail (bO.head)))) rfl<|Zm rfl lU (.tail (.tail (bO.head))) rfl<|Zae<|Zat ?_;exact fun a w hh=>iA (A:=[(_,_),(_,_),(_,_)]) (B:=[(bd,.deferred (some []))]) (some (if fH r t=true then(sE r t:Int)else 0),fL t) (YV hΦ T htake U) rfl rfl a w (hh.dropBoxes 1)
    ·refine cB<|Zat ?_;exact fun a w hh=>iA (A:=[(_,_),(_,_),(_,_)]) (B:=[(bd,.deferred (some []))]) (o,fL t) (aIR hΦ T htake U) rfl rfl a w (hh.dropBoxes 1)
  ·rintro⟨o,last⟩ bd hΦ;have ho:o=nE r (dQ r.places):=by simpa [zB]using hΦ.1
   have I:bB r=0:=by omega
   refine Zat<|Zap<|dV<|Zp rfl CK rfl Mm1 rfl<|Zak rfl<|aG<|aW rfl (fun G=>?_) (fun G=>?_)
   ·refine aA<|Zj rfl<|Zj rfl<|aH<|Zas ?_;exact xD (vs:=[_,_]) (A:=[(_,_),(_,_),(_,_)]) rfl rfl rfl bA (fun D hD=>by show Value.tuple _=_;rw[(LK ho I G).1,(LK ho I G).2]<;>rfl)
   ·refine aZ<|aA<|Zp rfl aI rfl Mm2 rfl<|Zj rfl<|Zj rfl<|aH ?_;exact xD (vs:=[_,_]) (A:=[(_,_),(_,_),(_,_)]) rfl rfl rfl bA (fun D hD=>by show Value.tuple _=_;rw[(MW ho I G).1,(MW ho I G).2]<;>rfl)
end L1
variable{P:Program}{X:Cx}{γb:Type}[Membership Nat γb]{bad:γb}{all:Array Oper}{K:Act→World→Prop}{Q:Exit→Act→World→Prop}
variable{σ:cG}{μ:aD}{Ds:List aC}{os:List (Bool×Nat)}{fl:Bool}{ix:Nat}
variable{d:Nat}{x y z:Operand}{u v:Value}{ty:TypeId}{pos:String}{aft:Array Edge}{g:Option (Nat×Bool)}
structure Y9(P:Program)(k:TypeId){α:Type}[DecidableEq α](val:α→Value):Prop where
 und:∃fs,P.underlying k=some (.struct fs)
 eq:∀a b w,(Op.equal k (val a) (val b)).run P w=.ok (decide (a=b)) w
 chk:∀em a w,(Instr.checkKey em 10000 k (val a)).run P w=.ok () w
 stay:∀a,Instr.sameBits 10000 (val a) (val a)=true
 agg:∀a,∃cs,val a=.agg cs
variable{α:Type}[DecidableEq α]{val:α→Value}
def vC(val:α→Value)(es:Array MapEntry)(M:List (α×Int)):Prop:=es.toList.map (fun e=>(e.key,e.val))=M.map fun x=>(val x.1,Value.int .i64 x.2)
def V6(a:α):List (α×Int)→Nat→Option (Nat×Int)
 | [],_=>none
 |(b,n)::M,i=>if a=b then some (i,n)else V6 a M (i+1)
theorem S0{a:α}:∀{M:List (α×Int)} {i j:Nat} {n:Int},V6 a M i=some (j,n)→∃k,j=i+k∧M[k]?= some (a,n)
 |(b,m)::M,i,j,n,h=>by
  simp only[V6]at h;split at h
  ·rename_i he;cases h;exact⟨0,rfl,by rw[he];rfl⟩
  ·obtain⟨k,rfl,hk⟩:=S0 h;exact⟨k+1,by omega,by simpa using hk⟩
theorem uZ{k:TypeId}(h:Y9 P k val)(a:α)(w:World):∀(es:List MapEntry) (M:List (α×Int)) (i:Nat),es.map (fun e=>(e.key,e.val))=M.map (fun x=>(val x.1,Value.int .i64 x.2))→
  (Instr.findAsking k (val a) es i).run P w=.ok ((V6 a M i).map fun p=>(p.1,Value.int .i64 p.2)) w
 | [],[],i,_=>rfl
 | [],_::_,i,hm=>by simp at hm
 |e::es,[],i,hm=>by simp at hm
 |e::es,(b,n)::M,i,hm=>by
  simp only[aYN,aZS,bBG]at hm;obtain⟨⟨hk,hv⟩,hm⟩:=hm;simp only[Instr.findAsking,Sem.run_bind,hk,h.eq,Result.andThen_ok,V6];by_cases he:a=b
  ·subst he;simp only[decide_true,aZU,Sem.run_pure,hv];rfl
  ·simp only[he,decide_false,aYY,aZW];exact uZ h a w es M (i+1) hm
theorem B6{k:TypeId}(h:Y9 P k val)(a:α)(w:World){es:List MapEntry}{M:List (α×Int)}(hm:es.map (fun e=>(e.key,e.val))=M.map (fun x=>(val x.1,Value.int .i64 x.2))):
  (Instr.findKey k (val a) es).run P w=.ok ((V6 a M 0).map fun p=>(p.1,Value.int .i64 p.2)) w:=by
 obtain⟨fs,hu⟩:=h.und;unfold Instr.findKey;rw[Sem.run_bind,TU.of hu w];cases es with
 |nil=>
  cases M with
  |nil=>rfl
  |cons x M=>simp at hm
 |cons e es=>
  have hn:Instr.findNow (.struct fs) (val a) (e::es) 0=none:=by
   obtain⟨cs,hc⟩:=h.agg a;rw[hc];rfl
  simp only[Result.andThen_ok,hn];exact uZ h a w (e::es) M 0 hm
theorem WX{t k e:TypeId}{b clock:Nat}{es:Array MapEntry}{M:List (α×Int)}{a:α}(ho:all[ix]?= some ⟨some d,.lookup t x y true,ty,pos,aft,g⟩)(ht:P.underlying t=some (.map k e))(hk:Y9 P k val)(hz:TZ P e (qI 0))
  (hx:ev σ x=some (.map (some b))) (hy:ev σ y=some (val a)) (hm:(b,Obj.map es clock)∈μ) (hb:b∉bad) (hM:vC val es M) (hN:Nat.blt d X.N=true) (hg:dE all σ g)
  (kk:∀n ok,(ok=true→(a,n)∈M)→WL P X bad all K Q os ((d,.tuple #[qI n,.bool ok])::σ) μ Ds):WL P X bad all K Q ((fl,ix)::os) σ μ Ds:=by
 have run:∀w,w.heap[b]?= some (Obj.map es clock)→(Instr.lookup t (.map (some b)) (val a) true).run P w=.ok (.tuple #[qI (match V6 a M 0 with|some (_,v)=>v|none=>0),.bool (V6 a M 0).isSome]) w:=by
  intro w hw;have hf:=B6 hk a w hM;unfold Instr.lookup;simp only[Sem.run_bind,TU.of ht w,Result.andThen_ok,jN hw,Sem.run_pure,hk.chk];rw[hf];cases V6 a M 0 with
  |none=>simp only[aZX,Result.andThen_ok,Sem.run_bind,hz w,Sem.run_pure];rfl
  |some r=>obtain⟨j,v⟩:=r;simp only[aYX,Result.andThen_ok];rfl
 refine mA ho rfl rfl hN hg (fun a' w hh w' hk'=>?_) (kk (match V6 a M 0 with|some (_,v)=>v|none=>0) (V6 a M 0).isSome fun hok=>?_)
 ·simp only[execOp,hh.eval hx,hh.eval hy,Sem.run_bind,run w' (hh.boxAt hm hb hk'),Result.andThen_ok,Sem.run_pure]
 ·cases hp:V6 a M 0 with
  |none=>rw[hp]at hok;cases hok
  |some r=>
   obtain⟨j,n⟩:=r;obtain⟨i,_,hi⟩:=S0 hp;exact LT hi
theorem XI{t k e:TypeId}{b clock:Nat}{es:Array MapEntry}{M:List (α×Int)}{a:α}{n:Int}{A B:aD}(ho:all[ix]?= some ⟨none,.mapUpdate t x y z,ty,pos,aft,g⟩)(ht:P.underlying t=some (.map k e))(hk:Y9 P k val)
  (hx:ev σ x=some (.map (some b))) (hy:ev σ y=some (val a)) (hz:ev σ z=some (qI n)) (hM:vC val es M) (hg:dE all σ g)
  (kk:∀es' clock' M',vC val es' M'→(∀p∈M',p∈M∨p=(a,n))→WL P X bad all K Q os σ (A++(b,.map es' clock')::B) Ds):WL P X bad all K Q ((false,ix)::os) σ (A++(b,.map es clock)::B) Ds:=by
 refine eI ho rfl rfl hg fun a' w hh=>?_
 obtain⟨h1,h2,h3,D,h4,h5,O⟩:=id hh;have hw:=(h4.box (b,.map es clock) Ye).1;have run:∃es' clock' M',vC val es' M'∧(∀p∈M',p∈M∨p=(a,n))∧(Instr.mapUpdate t (.map (some b)) (val a) (qI n)).run P w=.ok () {w with heap:=w.heap.setIfInBounds b (.map es' clock')}:=by
  have hf:=B6 hk a w hM;have hset:∀o,(setObj b o).run P w=.ok () {w with heap:=w.heap.setIfInBounds b o}:=fun o=>by simp[setObj,Sem.run,hw]
  cases hp:V6 a M 0 with
  |none=>
   refine⟨es.push {key:=val a,val:=qI n,born:=clock},clock+1,M++[(a,n)],?_,fun p hp=>by simpa using hp,?_⟩
   ·unfold vC at hM ⊢
    rw[Array.toList_push,aYE,aYE,hM];rfl
   ·unfold Instr.mapUpdate;simp only[Sem.run_bind,TU.of ht w,Result.andThen_ok,jN hw,hk.chk];rw[hf,hp];simp only[aZX,Result.andThen_ok,hset]
  |some r=>
   obtain⟨j,m⟩:=r;obtain⟨i,G,hi⟩:=S0 hp;rw[bAL]at G;subst G
   have hMi:∀i,(es.toList[i]?).map (fun e:MapEntry=>(e.key,e.val))=(M[i]?).map (fun x:α×Int=>(val x.1,Value.int .i64 x.2)):=fun i=>by rw[←aYQ,←aYQ,hM]
   have hj:=hMi j;rw[hi]at hj;obtain⟨e0,I,hke⟩:=bAE.1 hj;simp only[bBG]at hke;have he0':es[j]?= some e0:=by simpa using I
   refine⟨es.modify j fun e=>{e with key:=val a,val:=qI n},clock,M.set j (a,n),?_,fun p hp=>(List.mem_or_eq_of_mem_set hp),?_⟩
   ·unfold vC;apply bCN;intro q;rw[aYQ,aYQ,Array.getElem?_toList,Array.getElem?_modify,List.getElem?_set];have hq:=hMi q;rw[Array.getElem?_toList]at hq;by_cases hjq:j=q
    ·subst hjq;have hlt:=(aXZ.1 hi).1;simp[he0',hlt]
    ·simp only[hjq,aZW];exact hq
   ·have hks:(Instr.keyThatStays (val a) (val a)).run P w=.ok (val a) w:=by
     have:Instr.sameBits 10000 (val a) (val a)=true:=hk.stay a;unfold Instr.keyThatStays;rw[aYJ this,Sem.run_pure]
    unfold Instr.mapUpdate;simp only[Sem.run_bind,TU.of ht w,Result.andThen_ok,jN hw,hk.chk];rw[hf,hp];simp only[aYX,Result.andThen_ok,he0',bAZ,hke.1,Sem.run_bind,hks,hset]
 obtain⟨es',clock',M',hM',hmem,hr⟩:=run;have hHas:bO (A++(b,Obj.map es clock)::B) b (.map es clock) (.map es' clock') (A++(b,.map es' clock')::B):=.app .head;have hs:=h4.set (w':={w with heap:=w.heap.setIfInBounds b (.map es' clock')}) hHas ⟨rfl,rfl⟩ trivial;have:(execOp a'.eval ⟨none,.mapUpdate t x y z,ty,pos,aft,g⟩).run P w=.ok .skip {w with heap:=w.heap.setIfInBounds b (.map es' clock')}:=by
  simp only[execOp,hh.eval hx,hh.eval hy,hh.eval hz,Sem.run_bind,hr,Result.andThen_ok,Sem.run_pure]
 rw[this];exact⟨fun h=>by simp at h,kk es' clock' M' hM' hmem _ _ ⟨h1,h2,h3,D,hs,h5,O.step (fun _ p hp=>aYF Yq) (fun _=>jI ⟨rfl,rfl⟩ (n4.2 ⟨_,hHas.mem,rfl⟩)) hs.dom⟩⟩

structure uJ(n:Nat) where
 l:List Int
 h:l.length=n
deriving DecidableEq
def X8{n:Nat}(a:uJ n):Value:=.agg (ints a.l).toArray
def KA(P:Program)(k:TypeId)(n:Nat):Prop:=∃f0 f1 e,P.underlying k=some (.struct (P.fieldsOf k))∧P.stoodInHeld k=false∧P.fieldsOf k=#[f0,f1]∧f0.name≠ "_" ∧f1.name≠ "_" ∧f0.offset=0∧f1.offset=1∧
 P.underlying f0.type=some (.int .i64)∧P.underlying f1.type=some (.array n e)∧P.underlying e=some (.int .i64)∧P.cellsOf e=1∧TA P f1.type true∧TS P f1.type n∧TS P e 1
theorem aDH{t:TypeId}{n:Nat}(ha:TA P t true)(hs:TS P t n){l:List Int}(hl:l.length=n+1)(w:World):(part t (ints l).toArray 1).run P w=.ok (.agg (ints (l.drop 1)).toArray) w:=by
 unfold part;simp only[Sem.run_bind,ha w,Result.andThen_ok,aZU,hs w,Sem.run_pure];congr 2;apply Array.ext';simp only[Array.toList_extract,List.extract_eq_take_drop,ints,List.map_drop];rw[aYO Yam]
theorem KA.key{k:TypeId}{n:Nat}(h:KA P k n):Y9 P k (X8 (n:=n+1)):=by
 obtain⟨f0,f1,e,hu,hst,hf,n0,n1,o0,o1,t0,t1,te,hc,ha,hs,hse⟩:=h;have hsplit:∀a:uJ (n+1),∃x r,a.l=x::r∧r.length=n:=by
  rintro⟨l,hl⟩;cases l with
  |nil=>simp at hl
  |cons x r=>exact⟨x,r,rfl,by simpa using hl⟩
 have p0:∀(x:Int) (r:List Int) (w:World),(part f0.type (ints (x::r)).toArray f0.offset).run P w=.ok (qI x) w:=fun x r w=>cO t0 (by rw[o0];rfl) w
 have G:∀(x:Int) (r:List Int) (w:World),r.length=n→(part f1.type (ints (x::r)).toArray f1.offset).run P w=.ok (.agg (ints r).toArray) w:=fun x r w hr=>by
  rw[o1];exact aDH ha hs (l:=x::r) (by simp[hr]) w
 refine⟨⟨_,hu⟩,fun a b w=>?_,fun em a w=>?_,fun a=>?_,fun a=>⟨_,rfl⟩⟩
 ·obtain⟨x,r,ea,hr⟩:=hsplit a;obtain⟨x',r',eb,hr'⟩:=hsplit b;have he:=run_equalIn_struct (P:=P) w 9999 k (ints (x::r)).toArray (ints (x'::r')).toArray hu hst;have hab:decide (a=b)=((x==x')&&(r==r')):=by
   rw[bAY];simp only[aYM,aYB,bCC];constructor
   ·rintro rfl;rw[ea]at eb;exact List.cons.inj eb
   ·rintro⟨h1,h2⟩;obtain⟨la,ha'⟩:=a;obtain⟨lb,hb'⟩:=b;simp only at ea eb;subst ea eb h1 h2;rfl
  show(Op.equalIn (9999+1) k (.agg (ints a.l).toArray) (.agg (ints b.l).toArray)).run P w=_;rw[ea,eb,he,hf,hab];have e0:=run_equalIn_int w 9998 f0.type .i64 .i64 x x' t0;obtain⟨inf,hinf⟩:=info_of_underlying te;have I:=run_equalIn_array (P:=P) w 9998 (ints r).toArray (ints r').toArray t1 hinf;rw[hc,mD 9997 te r r' w (List.range n) (fun j hj=>by have:=bAR.1 hj;omega),rL hr hr']at I
  have M:(Op.eqFields 9999 (ints (x::r)).toArray (ints (x'::r')).toArray [f1]).run P w=.ok (r==r') w:=by
   simp only[Op.eqFields,n1,ne_eq,bCB,aZU,Sem.run_bind,G _ _ _ hr,G _ _ _ hr',Result.andThen_ok];rw[I];simp only[Result.andThen_ok];cases r==r'<;>rfl
  show(Op.eqFields 9999 (ints (x::r)).toArray (ints (x'::r')).toArray (f0::[f1])).run P w=_;rw[Op.eqFields,aYJ n0];simp only[Sem.run_bind,p0,Result.andThen_ok];rw[e0];simp only[Result.andThen_ok];cases hx:x==x' with
  |true=>
   simp only[bCO,aYY,aZW,bBL];rw[M]
  |false=>simp only[bCI,aZU,Sem.run_pure,Bool.false_and]
 ·obtain⟨x,r,ea,hr⟩:=hsplit a;have c0:(Instr.checkKey em (9998+1) f0.type (qI x)).run P w=.ok () w:=by
   rw[Instr.checkKey,Sem.run_bind,TU.of t0 w];rfl
  have ce:∀m:Int,(Instr.checkKey em (9997+1) e (qI m)).run P w=.ok () w:=fun m=>by
   rw[Instr.checkKey,Sem.run_bind,TU.of te w];rfl
  have c1:(Instr.checkKey em (9998+1) f1.type (.agg (ints r).toArray)).run P w=.ok () w:=by
   rw[Instr.checkKey,Sem.run_bind,TU.of t1 w];simp only[Result.andThen_ok];rw[Std.Legacy.Range.forIn_eq_forIn_range'];have key:∀(is:List Nat),(∀i∈is,i<n)→((forIn is PUnit.unit fun i _=>do Instr.checkKey em 9998 e (←part e (ints r).toArray (i*(←sizeOf e)));Pure.pure (ForInStep.yield PUnit.unit):Sem PUnit)).run P w=.ok PUnit.unit w:=by
    intro is;induction is with
    |nil=>intro _;rfl
    |cons i is ih=>
     intro hi;have hlt:=hi i aXW;have g1:(ints r).toArray[i*1]?= some (qI r[i]):=by rw[bAF];simpa using cK (aXT (show i<r.length by omega))
     rw[List.forIn_cons];simp only[Sem.run_bind,hse w,Result.andThen_ok,cO te g1];rw[ce];simp only[Result.andThen_ok,Sem.run_pure];exact ih fun j hj=>hi j (LE _ hj)
   have:=key (List.range' 0 n) (fun i hi=>by simpa using hi);simpa using this
  show(Instr.checkKey em (9999+1) k (.agg (ints a.l).toArray)).run P w=_;rw[ea,Instr.checkKey,Sem.run_bind,TU.of hu w];simp only[Result.andThen_ok];rw[hf,←Array.forIn_toList];simp only[List.forIn_cons,List.forIn_nil,n0,n1,ne_eq,bCB,aZU,Sem.run_bind,p0,Result.andThen_ok,Sem.run_pure];rw[c0];simp only[Result.andThen_ok,Sem.run_pure,Sem.run_bind,G _ _ _ hr];rw[c1];simp[Sem.run_pure,Result.andThen_ok]
 ·show Instr.sameBits (9999+1) (.agg (ints a.l).toArray) (.agg (ints a.l).toArray)=true;simp only[Instr.sameBits,beq_self_eq_true,bBL,aYL];rintro⟨p,q⟩ hpq;obtain⟨i,hi⟩:=bBD.1 hpq;rw[List.getElem?_zip_eq_some]at hi;obtain⟨h1,h2⟩:=hi;simp only at h1 h2;rw[h1]at h2;obtain rfl:=aYS h2;have:p∈ints a.l:=LT (by simpa using h1);obtain⟨m,_,rfl⟩:=n4.1 this;simp[Instr.sameBits]
structure kG(P:Program)(f:Field)(o n:Nat):Prop where
 name:f.name≠ "_"
 eqp:∀(l m:List Int) w,o+n≤l.length→o+n≤m.length→∃u v,(part f.type (ints l).toArray f.offset).run P w=.ok u w∧(part f.type (ints m).toArray f.offset).run P w=.ok v w∧(Op.equalIn 9999 f.type u v).run P w=.ok ((l.drop o).take n==(m.drop o).take n) w
inductive u6(P:Program):Nat→Nat→List Field→Prop
 |nil {o}:u6 P o o []
 |cons {o n e f fs} (h:kG P f o n) (r:u6 P (o+n) e fs):u6 P o e (f::fs)
theorem u6.le{o e:Nat}{fs:List Field}(h:u6 P o e fs):o≤e:=by
 induction h with
 |nil=>exact aYI _
 |cons _ _ ih=>omega
theorem BB(l m:List Int)(o n:Nat):(l.drop o==m.drop o)=(((l.drop o).take n==(m.drop o).take n)&&(l.drop (o+n)==m.drop (o+n))):=by
 rw[bAY];simp only[bCC,aYB];constructor
 ·intro h;exact⟨by rw[h],by rw[←bBX,←bBX,h]⟩
 ·rintro⟨h1,h2⟩;rw[←bAJ n (l.drop o),←bAJ n (m.drop o),h1,bBX,bBX,h2]
theorem HM(l m:List Int)(w:World){o e:Nat}{fs:List Field}(h:u6 P o e fs)(hl:l.length=e)(hm:m.length=e):(Op.eqFields 9999 (ints l).toArray (ints m).toArray fs).run P w=.ok (l.drop o==m.drop o) w:=by
 induction h with
 |nil=>
  rw[aYV Yd,aYV Yd];rfl
 | @cons o n e f fs h r ih=>
  have hle:=r.le;obtain⟨u,v,h1,h2,h3⟩:=h.eqp l m w Yd Yd;rw[Op.eqFields,aYJ h.name];simp only[Sem.run_bind,h1,h2,Result.andThen_ok];rw[h3,BB l m o n];simp only[Result.andThen_ok];cases hx:(l.drop o).take n==(m.drop o).take n with
  |true=>
   simp only[bCO,aYY,aZW,bBL];exact ih hl hm
  |false=>simp only[bCI,aZU,Sem.run_pure,Bool.false_and]
theorem kG.int{f:Field}{o:Nat}(hn:f.name≠ "_")(ho:f.offset=o)(ht:P.underlying f.type=some (.int .i64)):kG P f o 1:=by
 refine⟨hn,fun l m w hl hm=>?_⟩;have h1:l[o]?= some (l[o]'Yd):=aXT _;have h2:m[o]?= some (m[o]'Yd):=aXT _;refine⟨qI l[o],qI m[o],cO ht (by rw[ho];simpa using cK h1) w,cO ht (by rw[ho];simpa using cK h2) w,?_⟩
 rw[run_equalIn_int w 9998 f.type .i64 .i64 _ _ ht];congr 1;have t1:(l.drop o).take 1=[l[o]]:=by rw[aZO (show o<l.length by omega)];rfl
 have t2:(m.drop o).take 1=[m[o]]:=by rw[aZO (show o<m.length by omega)];rfl
 rw[t1,t2];simp
theorem rS{t:TypeId}{n o:Nat}(ha:TA P t true)(hs:TS P t n){l:List Int}(_hl:o+n≤l.length)(w:World):(part t (ints l).toArray o).run P w=.ok (.agg (ints ((l.drop o).take n)).toArray) w:=by
 unfold part;simp only[Sem.run_bind,ha w,Result.andThen_ok,aZU,hs w,Sem.run_pure];congr 2;apply Array.ext';simp only[Array.toList_extract,List.extract_eq_take_drop,ints,List.map_drop,List.map_take];congr 1;omega
theorem kG.arr{f:Field}{o n:Nat}{e:TypeId}(hn:f.name≠ "_")(ho:f.offset=o)(ht:P.underlying f.type=some (.array n e))(he:P.underlying e=some (.int .i64))(hc:P.cellsOf e=1)(ha:TA P f.type true)(hs:TS P f.type n):kG P f o n:=by
 refine⟨hn,fun l m w hl hm=>⟨_,_,by rw[ho];exact rS ha hs hl w,by rw[ho];exact rS ha hs hm w,?_⟩⟩;obtain⟨i,hi⟩:=info_of_underlying he;have h:=run_equalIn_array (P:=P) w 9998 (ints ((l.drop o).take n)).toArray (ints ((m.drop o).take n)).toArray ht hi;have G:((l.drop o).take n).length=n:=by rw[aZJ,bAA];omega
 have I:((m.drop o).take n).length=n:=by rw[aZJ,bAA];omega
 rw[hc,mD 9997 he _ _ w (List.range n) (fun j hj=>by have:=bAR.1 hj;omega),rL G I]at h;exact h
def KS(P:Program)(t:TypeId)(n:Nat):Prop:=P.underlying t=some (.struct (P.fieldsOf t))∧P.stoodInHeld t=false∧P.eqGuardType P.depth t=false∧u6 P 0 n (P.fieldsOf t).toList
theorem X1{t:TypeId}{n:Nat}(h:KS P t n){l m:List Int}(hl:l.length=n)(hm:m.length=n)(w:World):(Op.equal t (.agg (ints l).toArray) (.agg (ints m).toArray)).run P w=.ok (l==m) w:=by
 have he:=run_equalIn_struct (P:=P) w 9999 t (ints l).toArray (ints m).toArray h.1 h.2.1;show(Op.equalIn (9999+1) t (.agg (ints l).toArray) (.agg (ints m).toArray)).run P w=_;rw[he,HM l m w h.2.2.2 hl hm];simp
theorem C9{t t':TypeId}{n:Nat}{l m:List Int}(ho:all[ix]?= some ⟨some d,.binOp .neq t x y t',ty,pos,aft,g⟩)(ht:KS P t n)(hl:l.length=n)(hm:m.length=n)(hx:ev σ x=some (.agg (ints l).toArray))(hy:ev σ y=some (.agg (ints m).toArray))(hN:Nat.blt d X.N=true)(hg:dE all σ g)
  (kk:WL P X bad all K Q os ((d,.bool (!(l==m)))::σ) μ Ds):WL P X bad all K Q ((fl,ix)::os) σ μ Ds:=
 t6 ho (fun w=>by
  have hgd:(eqGuard .neq t x y (.agg (ints l).toArray) (.agg (ints m).toArray)).run P w=.ok () w:=by
   simp only[eqGuard,program];simp[Sem.run,ht.2.2.1,go_sem]
  rw[Sem.run_bind,hgd];show((do Pure.pure (Value.bool (!(←Op.equal t (.agg (ints l).toArray) (.agg (ints m).toArray))))):Sem Value).run P w=_;rw[Sem.run_bind,X1 ht hl hm];rfl) hx hy hN hg kk
namespace L2
open L1
open C2
open C1 (iK dA uC sP)
theorem qV{r:Int×Int}(h:jE r=true):0≤r.1∧r.1≤r.2∧r.2≤99:=by
 unfold jE fT at h;simp only[aYB,aYM,dA]at h;omega
theorem eN(n lo hi:Int)(D:aC):Fn prog 140 #[qI n,qI lo,qI hi] D (fun _ v=>v=.bool (iK n lo hi)):=by
 refine enter 15 func140 rfl rfl rfl rfl fun h0=>aA<|Zj rfl<|aK<|Za rfl<|Za rfl<|mL rfl rfl rfl rfl bCV<|Za rfl ?_
 refine' dM 4 (s:=10) (p:=14) rfl (fun G=>?_) (fun G=>?_) ?_;rotate_left
 ·refine Zb rfl<|Zb rfl<|mL rfl rfl rfl rfl ⟨_,rfl,rfl⟩<|Zag rfl ?_;exact aR 3
 ·refine Zk rfl<|Zk rfl<|Zk rfl<|Zah rfl ?_;exact aR 3
 refine Zj rfl<|aH ?_;exact aF rfl (fun D hD=>rfl)
theorem A3(n:Int)(D:aC):Fn prog 215 #[iV n] D (fun _ v=>v=.bool (fT n)):=by
 refine enter 5 func215 rfl rfl rfl rfl fun h0=>aA<|Zj rfl<|aK<|Za rfl<|Zc rfl (fun I G=>eN _ _ _ _)<|Zj rfl<|aH ?_
 exact aF rfl (fun D hD=>rfl)
theorem lY(sv:Value)(x:Int)(xs:List Int)(D:aC)(hS:Sl D RI 1 sv (x::xs)):
  Fn prog 218 #[sv] D (fun _ v=>v=qI (xs.foldl min x)):=by
 refine enter 5 func218 rfl rfl rfl rfl fun h0=>aA<|Zj rfl<|aK<|Za rfl<|Zc rfl (fun I G=>L1.AZ _ x xs _ (Sl.at RI.up G Ym Ye))<|Zj rfl<|aH ?_
 exact aF rfl (fun D hD=>rfl)
theorem x9(r:Int×Int)(D:aC):Fn prog 214 #[lJ r] D (fun _ v=>v=.bool (jE r)):=by
 refine enter 18 func214 rfl rfl rfl rfl fun h0=>aA<|Zv rfl (fun U V O G=>Zj rfl<|aK<|Zh rfl sO rfl<|Zf 0 rfl aI rfl G rfl<|Zh rfl uV rfl<|Zf 1 rfl aI rfl G rfl<|mL rfl rfl rfl rfl bCV<|Za rfl ?_)
 refine' dM 4 (s:=8) (p:=12) rfl (fun I=>?_) (fun I=>?_) ?_;rotate_left
 ·refine Zi rfl sO rfl<|Zg 0 rfl aI rfl G rfl<|Zd rfl (fun Y R=>A3 _ _)<|Zag rfl ?_;exact aR 3
 ·refine Zk rfl<|Zk rfl<|Zk rfl<|Zah rfl ?_;exact aR 3
 refine Za rfl ?_;refine' dM 4 (s:=13) (p:=17) rfl (fun M=>?_) (fun M=>?_) ?_;rotate_left
 ·refine Zi rfl uV rfl<|Zg 1 rfl aI rfl G rfl<|Zd rfl (fun Z T=>A3 _ _)<|Zag rfl ?_;exact aR 3
 ·refine Zk rfl<|Zk rfl<|Zk rfl<|Zah rfl ?_;exact aR 3
 refine Zj rfl<|aH ?_;exact aF rfl (fun D hD=>rfl)
theorem UJ(r:Int×Int)(h:jE r=true)(D:aC):Fn prog 219 #[lJ r] D (fun _ v=>v=qI (gL r)):=by
 have hb:=qV h;refine enter 9 func219 rfl rfl rfl rfl fun h0=>aA<|Zv rfl (fun M O I G=>Zj rfl<|aK<|Zh rfl uV rfl<|Zf 1 rfl aI rfl G rfl<|Zh rfl sO rfl<|Zf 0 rfl aI rfl G rfl<|hU rfl rfl rfl Yg rfl bCV<|Zaa rfl<|Zj rfl ?_);refine aH ?_
 exact aF rfl (fun D hD=>rfl)
theorem o5(r:Int×Int)(n:Int)(D:aC):Fn prog 223 #[lJ r,qI n] D (fun _ v=>v=.bool (iK n r.1 r.2)):=by
 refine enter 11 func223 rfl rfl rfl rfl fun h0=>aA<|Zv rfl (fun O R I G=>Zj rfl<|aK<|Za rfl<|Zh rfl sO rfl<|Zf 0 rfl aI rfl G rfl<|Zh rfl uV rfl<|Zf 1 rfl aI rfl G rfl<|Zc rfl (fun T M=>eN _ _ _ _)<|Zj rfl ?_);refine aH ?_
 exact aF rfl (fun D hD=>rfl)
theorem sM(r:Int×Int)(n:Int)(D:aC):Fn prog 142 #[lJ r,qI n] D (fun _ v=>v=lJ (min r.1 n,max r.2 n)):=by
 refine enter 15 func142 rfl rfl rfl rfl fun h0=>aA<|Zv rfl (fun Y Z V M=>Zw rfl gJ rfl (fun q2=>bR<|lR [] 4 [0,1,2,5,6,7,8,3,4,9,10] [false,false,true,true,true,true,true,true,true,false,false] [(false,0),(false,1),(true,2),(true,5),(true,6),(true,7),(true,8),(true,3),(true,4),(false,9),(false,10)] bI (fun _ _ _ h=>iO (P:=prog) (fn:=f142) _ _ _ h) Yf rfl<|Zh rfl sO rfl<|Zf 0 rfl aI rfl M rfl<|Za rfl<|Zh rfl uV rfl<|Zf 1 rfl aI rfl M rfl<|Za rfl ?_));refine tZ rfl rfl rfl rfl bCV<|Zn rfl U25 aL dR rfl (.cons rfl rfl (.cons rfl rfl .nil)) (fun T U O G=>?_)
 have I:=Sl.ofInts (l:=[_,_]) (n:=2) (cap:=2) G rfl Yd Yd;refine Zc rfl (fun D1 R=>lY _ r.1 [n] _ (I.up RI.up (R _ Ye)))<|Zo [qI (min r.1 n),qI (max r.2 n)] rfl yT gJ rfl<|Zu rfl cE (bO.head)<|aH ?_;exact Zl [_] rfl ⟨⟨_,_,_,rfl,Mm0,Or.inr ⟨kB,(by first|exact cE|(simp only[aYU,aN, *];exact cE)),rfl⟩⟩,bCV⟩ (fun D hD=>rfl)
theorem TB(tv:Value)(t:bD)(n:Int)(D:aC)(ht:hG D tv t):Fn prog 143 #[tv,qI n] D (fun _ v=>v=.bool (DZ t.last n)):=by
 have ht0:=ht;obtain⟨hv,lv,mv,rfl,hh,hl,hm⟩:=ht;have hll:=hl.len;refine enter 9 func143 rfl rfl rfl rfl fun h0=>aA<|Zv rfl (fun O R I G=>Zj rfl<|aK<|Za rfl<|Zh rfl jU rfl<|Zf 0 rfl aI rfl G rfl<|Zc rfl (fun T M=>eN _ _ _ _)<|Zj rfl<|aH ?_)
 exact aF rfl (fun D hD=>rfl)
theorem aUY(tv:Value)(t:bD)(n:Int)(D:aC)(ht:hG D tv t):Fn prog 81 #[tv,qI n] D (fun _ v=>v=.bool (iK n 0 ((t.levels.length:Int)-1))):=by
 have ht0:=ht;obtain⟨hv,lv,mv,rfl,hh,hl,hm⟩:=ht;have hll:=hl.len;refine enter 11 func81 rfl rfl rfl rfl fun h0=>aA<|Zv rfl (fun O R I G=>Zj rfl<|aK<|Za rfl<|Zh rfl jJ rfl<|Zf 3 rfl dS rfl G rfl<|dH rfl U25 rfl Ym rfl rfl bCV<|hU rfl rfl rfl Yg rfl bCV<|Zc rfl (fun T M=>eN _ _ _ _)<|Zj rfl ?_);refine aH ?_
 exact aF rfl (fun D hD=>rfl)
theorem JF(tv:Value)(t:bD)(a b:Int)(D:aC)(ht:hG D tv t):Fn prog 84 #[tv,qI a,qI b] D (fun _ v=>v=.bool (sG t.last a b)):=by
 have ht0:=ht;obtain⟨hv,lv,mv,rfl,hh,hl,hm⟩:=ht;have hll:=hl.len;refine enter 20 func84 rfl rfl rfl rfl fun h0=>aA<|Zv rfl (fun U V T G=>Zj rfl<|aK<|Zs rfl gY rfl G eW<|Za rfl<|Zc rfl (fun Y I=>TB _ t _ _ (ht0.up (I _ Ye)))<|Za rfl ?_)
 refine' dM 4 (s:=10) (p:=14) rfl (fun M=>?_) (fun M=>?_) ?_;rotate_left
 ·refine dL rfl gY rfl G Yc eW n3 rfl ⟨_,rfl,rfl⟩<|Zb rfl<|Zd rfl (fun Z O=>TB _ t _ _ (ht0.up (O _ Ye)))<|Zag rfl ?_;exact aR 3
 ·refine Zk rfl<|Zk rfl<|Zk rfl<|Zah rfl ?_;exact aR 3
 refine Za rfl ?_;refine' dM 4 (s:=15) (p:=19) rfl (fun R=>?_) (fun R=>?_) ?_;rotate_left
 ·refine Zb rfl<|Zb rfl<|mL rfl rfl rfl rfl ⟨_,rfl,rfl⟩<|Zag rfl ?_;exact aR 3
 ·refine Zk rfl<|Zk rfl<|Zk rfl<|Zah rfl ?_;exact aR 3
 refine Zj rfl<|aH ?_;exact aF rfl (fun D hD=>rfl)
theorem aNZ(tv:Value)(t:bD)(m:Mk)(D:aC)(ht:hG D tv t):Fn prog 212 #[tv,aVG m] D (fun _ v=>v=.bool (uT t.last m)):=by
 have ht0:=ht;obtain⟨hv,lv,mv,rfl,hh,hl,hm⟩:=ht;refine enter 16 func212 rfl rfl rfl rfl fun h0=>aA<|Zv rfl (fun V Y R I=>Zv rfl (fun Z E2 T G=>Zj rfl<|aK<|Zs rfl gY rfl I eW<|Zh rfl DD rfl<|Zf 0 rfl aI rfl G rfl<|Zh rfl DW rfl<|Zf 1 rfl aI rfl G rfl<|Zc rfl (fun D1 M=>JF _ t _ _ _ (ht0.up (M _ Ye))) ?_));refine Za rfl ?_
 refine' dM 4 (s:=11) (p:=15) rfl (fun O=>?_) (fun O=>?_) ?_;rotate_left
 ·refine Zi rfl CQ rfl<|dC rfl (k:=2) kB cE rfl G Yc rfl rfl n3 rfl ⟨_,rfl,rfl⟩<|Zd rfl (fun D2 U=>x9 (m.lo,m.hi) _)<|Zag rfl ?_;exact aR 3
 ·refine Zk rfl<|Zk rfl<|Zk rfl<|Zah rfl ?_;exact aR 3
 refine Zj rfl<|aH ?_;exact aF rfl (fun D hD=>rfl)
theorem uI(sv fv:Value)(xs:List (Int×Int))(p:(Int×Int)→Bool)(D:aC)(hS:Sl D C8 2 sv xs)(hp:cY prog D lJ fv p):
  Fn prog 298 #[sv,fv] D (fun _ v=>v=qI (idxOf p xs)):=by
 have hl:=hS.len;obtain⟨f,c1,c2,rfl,hf⟩:=hp;refine enter 19 func298 rfl rfl rfl rfl fun h0=>aA<|Zj rfl<|bW<|Za rfl<|dH rfl U29 rfl Ym rfl rfl bCV<|Za rfl<|aG<|Zar<|bP (γ:=Nat) (fun k=>xs.length-k) (fun k=>k≤xs.length∧(xs.take k).any p=false) (fun k=>[(8,qI k)]) [(7,_),(4,_),(0,_),(1,_)] (fun k=>[D]) 0 Ye ⟨Yb,bCV⟩ bA (aE) ?_
 rintro k ⟨h1,h2⟩;refine aA<|Zai rfl<|bR<|Zz rfl (fun G=>?_) (fun G=>?_)
 ·have hk:k<xs.length:=by omega
  obtain⟨x,hx⟩:=dX xs k;refine aZ<|aO<|Zar<|aA<|Za rfl<|Zj rfl<|aK<|Za rfl<|Za rfl<|Za rfl<|eY rfl U29 cE rfl Ym rfl Yd Ym rfl bCV (fun U o1 I M T O=>?_);obtain rfl:I=[qI _,qI _]:=M;refine Zs rfl kB rfl O cE<|Zc rfl (fun V R=>hf x _ (R _ Ye))<|aG<|aW rfl (fun hc2=>?_) (fun hc2=>?_)
  ·refine aA<|Za rfl<|Zj rfl<|aH<|Zav<|Zas<|Zas<|Zav<|Zas ?_;exact aF rfl (fun D hD=>by show Value.int _ _=_;rw[L1.jY hx h2 hc2])
  ·refine cB<|Zat<|Zap<|aX<|Zaa rfl<|Za rfl<|Zae ?_;have hpx:p x=false:=hc2;have h3:(xs.take (k+1)).any p=false:=by rw[aYG,hx,bBA,h2];simp[hpx]
   exact aM 12 (k+1) ⟨by omega,h3⟩ Yd ⟨Yb,bCV⟩ rfl rfl Mm5 (aE)
 ·refine aT<|Zaq<|Zaq<|Zau<|Zap<|aA<|Zj rfl<|aH ?_;exact aF rfl (fun D hD=>by show Value.int _ _=_;rw[L1.gK Yah])
theorem pI(sv fv:Value)(xs:List (Int×Int))(p:(Int×Int)→Bool)(D:aC)(hS:Sl D C8 2 sv xs)(hp:cY prog D lJ fv p):
  Fn prog 273 #[sv,fv] D (fun _ v=>v=.bool (xs.any p)):=by
 refine enter 9 func273 rfl rfl rfl rfl fun h0=>aA<|Zj rfl<|aK<|Za rfl<|Za rfl<|Zc rfl (fun I G=>uI _ _ xs p _ (Sl.at C8.up G Ym Ye) (hp.up (G _ Ye)))<|rZ rfl rfl rfl rfl bCV<|Zj rfl<|aH ?_
 exact aF rfl (fun D hD=>by show Value.bool (decide _)=_;rw[L1.kD])
theorem AD(b:Nat)(fv:Value)(p:(Int×Int)→Bool)(x:(Int×Int))(D:aC)(hp:cY prog D lJ fv p)(hB:At D b 0 [fv]):
  Fn prog 274 #[lJ x,qP b] D (fun _ v=>v=.bool (!p x)):=by
 obtain⟨f,c1,c2,rfl,hf⟩:=hp;refine enter 8 func274 rfl rfl rfl rfl fun h0=>aA<|Zv rfl (fun O R M G=>Zj rfl<|aK<|Zf 0 rfl aNJ rfl hB rfl<|Zs rfl kB rfl G cE<|Zc rfl (fun T I=>hf x _ (I _ Ye))<|Zak rfl<|Zj rfl<|aH ?_)
 exact aF rfl (fun D hD=>rfl)
theorem IL(sv fv:Value)(xs:List (Int×Int))(p:(Int×Int)→Bool)(D:aC)(hS:Sl D C8 2 sv xs)(hp:cY prog D lJ fv p)(h1:fv.cells=#[fv]):
  Fn prog 213 #[sv,fv] D (fun _ v=>v=.bool (xs.all p)):=by
 refine enter 9 func213 rfl rfl rfl rfl fun h0=>aA<|qH (vs:=[fv]) rfl rfl h1 rfl bCV (fun b I G hB=>Zj rfl<|aK<|Za rfl<|Zao rfl<|Zc rfl (fun I G=>pI _ _ xs (fun x=> !p x) _ (Sl.at C8.up G Ym Ye) ⟨_,[],[qP b],rfl,fun x M hl=>AD b fv p x M (hp.up ((G _ Ye).trans hl)) (hB.up ((G _ Ye).trans hl))⟩)<|Zak rfl<|Zj rfl<|aH ?_)
 exact aF rfl (fun D hD=>by show Value.bool (!_)=_;rw[L1.nM])
theorem BI(sv fv:Value)(xs:List Mk)(p:Mk→Bool)(D:aC)(hS:Sl D IM 4 sv xs)(hp:cY prog D aVG fv p):
  Fn prog 299 #[sv,fv] D (fun _ v=>v=qI (idxOf p xs)):=by
 have hl:=hS.len;obtain⟨f,c1,c2,rfl,hf⟩:=hp;refine enter 19 func299 rfl rfl rfl rfl fun h0=>aA<|Zj rfl<|bW<|Za rfl<|dH rfl U30 rfl Ym rfl rfl bCV<|Za rfl<|aG<|Zar<|bP (γ:=Nat) (fun k=>xs.length-k) (fun k=>k≤xs.length∧(xs.take k).any p=false) (fun k=>[(8,qI k)]) [(7,_),(4,_),(0,_),(1,_)] (fun k=>[D]) 0 Ye ⟨Yb,bCV⟩ bA (aE) ?_
 rintro k ⟨h1,h2⟩;refine aA<|Zai rfl<|bR<|Zz rfl (fun G=>?_) (fun G=>?_)
 ·have hk:k<xs.length:=by omega
  obtain⟨x,hx⟩:=dX xs k;refine aZ<|aO<|Zar<|aA<|Za rfl<|Zj rfl<|aK<|Za rfl<|Za rfl<|Za rfl<|eY rfl U30 iN rfl Ym rfl Yd Ym rfl bCV (fun U o1 I M T O=>?_);obtain rfl:I=[qI _,qI _,qI _,qI _]:=M;refine Zs rfl J5 rfl O iN<|Zc rfl (fun V R=>hf x _ (R _ Ye))<|aG<|aW rfl (fun hc2=>?_) (fun hc2=>?_)
  ·refine aA<|Za rfl<|Zj rfl<|aH<|Zav<|Zas<|Zas<|Zav<|Zas ?_;exact aF rfl (fun D hD=>by show Value.int _ _=_;rw[L1.jY hx h2 hc2])
  ·refine cB<|Zat<|Zap<|aX<|Zaa rfl<|Za rfl<|Zae ?_;have hpx:p x=false:=hc2;have h3:(xs.take (k+1)).any p=false:=by rw[aYG,hx,bBA,h2];simp[hpx]
   exact aM 12 (k+1) ⟨by omega,h3⟩ Yd ⟨Yb,bCV⟩ rfl rfl Mm5 (aE)
 ·refine aT<|Zaq<|Zaq<|Zau<|Zap<|aA<|Zj rfl<|aH ?_;exact aF rfl (fun D hD=>by show Value.int _ _=_;rw[L1.gK Yah])
theorem W1(sv fv:Value)(xs:List Mk)(p:Mk→Bool)(D:aC)(hS:Sl D IM 4 sv xs)(hp:cY prog D aVG fv p):
  Fn prog 276 #[sv,fv] D (fun _ v=>v=.bool (xs.any p)):=by
 refine enter 9 func276 rfl rfl rfl rfl fun h0=>aA<|Zj rfl<|aK<|Za rfl<|Za rfl<|Zc rfl (fun I G=>BI _ _ xs p _ (Sl.at IM.up G Ym Ye) (hp.up (G _ Ye)))<|rZ rfl rfl rfl rfl bCV<|Zj rfl<|aH ?_
 exact aF rfl (fun D hD=>by show Value.bool (decide _)=_;rw[L1.kD])
theorem aGP(b:Nat)(fv:Value)(p:Mk→Bool)(x:Mk)(D:aC)(hp:cY prog D aVG fv p)(hB:At D b 0 [fv]):
  Fn prog 277 #[aVG x,qP b] D (fun _ v=>v=.bool (!p x)):=by
 obtain⟨f,c1,c2,rfl,hf⟩:=hp;refine enter 8 func277 rfl rfl rfl rfl fun h0=>aA<|Zv rfl (fun O R M G=>Zj rfl<|aK<|Zf 0 rfl aPQ rfl hB rfl<|Zs rfl J5 rfl G iN<|Zc rfl (fun T I=>hf x _ (I _ Ye))<|Zak rfl<|Zj rfl<|aH ?_)
 exact aF rfl (fun D hD=>rfl)
theorem aOW(sv fv:Value)(xs:List Mk)(p:Mk→Bool)(D:aC)(hS:Sl D IM 4 sv xs)(hp:cY prog D aVG fv p)(h1:fv.cells=#[fv]):
  Fn prog 217 #[sv,fv] D (fun _ v=>v=.bool (xs.all p)):=by
 refine enter 9 func217 rfl rfl rfl rfl fun h0=>aA<|qH (vs:=[fv]) rfl rfl h1 rfl bCV (fun b I G hB=>Zj rfl<|aK<|Za rfl<|Zao rfl<|Zc rfl (fun I G=>W1 _ _ xs (fun x=> !p x) _ (Sl.at IM.up G Ym Ye) ⟨_,[],[qP b],rfl,fun x M hl=>aGP b fv p x M (hp.up ((G _ Ye).trans hl)) (hB.up ((G _ Ye).trans hl))⟩)<|Zak rfl<|Zj rfl<|aH ?_)
 exact aF rfl (fun D hD=>by show Value.bool (!_)=_;rw[L1.nM])
theorem yV(b:Nat)(fv:Value)(p:Int→Bool)(x:Int)(D:aC)(hp:cY prog D iV fv p)(hB:At D b 0 [fv]):
  Fn prog 275 #[iV x,qP b] D (fun _ v=>v=.bool (!p x)):=by
 obtain⟨f,c1,c2,rfl,hf⟩:=hp;refine enter 8 func275 rfl rfl rfl rfl fun h0=>aA<|Zj rfl<|aK<|Zf 0 rfl oH rfl hB rfl<|Za rfl<|Zc rfl (fun I G=>hf x _ (G _ Ye))<|Zak rfl<|Zj rfl<|aH ?_
 exact aF rfl (fun D hD=>rfl)
theorem N9(sv fv:Value)(xs:List Int)(p:Int→Bool)(D:aC)(hS:Sl D RI 1 sv xs)(hp:cY prog D iV fv p)(h1:fv.cells=#[fv]):
  Fn prog 216 #[sv,fv] D (fun _ v=>v=.bool (xs.all p)):=by
 refine enter 9 func216 rfl rfl rfl rfl fun h0=>aA<|qH (vs:=[fv]) rfl rfl h1 rfl bCV (fun b I G hB=>Zj rfl<|aK<|Za rfl<|Zao rfl<|Zc rfl (fun I G=>L1.lZ _ _ xs (fun x=> !p x) _ (Sl.at RI.up G Ym Ye) ⟨_,[],[qP b],rfl,fun x M hl=>yV b fv p x M (hp.up ((G _ Ye).trans hl)) (hB.up ((G _ Ye).trans hl))⟩)<|Zak rfl<|Zj rfl<|aH ?_)
 exact aF rfl (fun D hD=>by show Value.bool (!_)=_;rw[L1.nM])
theorem aGM(sv:Value)(x:Int)(xs:List Int)(D:aC)(hS:Sl D RI 1 sv (x::xs)):
  Fn prog 224 #[sv] D (fun _ v=>v=qI (xs.foldl max x)):=by
 have hl:=hS.len;simp only[aXY]at hl;refine enter 25 func224 rfl rfl rfl rfl fun h0=>aA<|Zj rfl<|bW<|Za rfl<|dH rfl U25 rfl Ym rfl rfl bCV<|Zai rfl<|aG<|Zz rfl (fun G=>?_) (fun G=>?_)
 ·exact absurd G (by simp only[aXY];omega)
 ·refine aZ<|aA<|Za rfl<|eY rfl U25 aL rfl Ym rfl Yd Yav rfl bCV (fun b1 o1 I M V O=>?_);obtain rfl:I=[qI _]:=M;refine Zf 0 rfl aI rfl O rfl<|Zj rfl<|bW<|Zj rfl<|aG<|Zar<|bP (γ:=Nat) (fun k=>xs.length-k) (fun k=>k≤xs.length) (fun k=>[(3,qI ((xs.take k).foldl max x)),(4,qI (k+1:Int))]) [(2,_),(0,_)] (fun k=>[D]) 0 Yd ⟨Yb,Yb,bCV⟩ bA (aE) ?_;rintro k h1;refine dV<|Za rfl<|Za rfl<|dH rfl U25 rfl Ym rfl rfl bCV<|Zai rfl<|aG<|Zz rfl (fun hc2=>?_) (fun hc2=>?_)
  ·simp only[aXY]at hc2;have hk:k<xs.length:=by omega
   obtain⟨y,hy⟩:=dX xs k;have Z:(x::xs)[(k+1:Int).toNat]?= some y:=by rw[show((k:Int)+1).toNat=k+1 by omega];simpa using hy
   refine aZ<|aO<|Zar<|aX<|Za rfl<|Za rfl<|Za rfl<|eY rfl U25 aL rfl Ym rfl Yd Ym rfl bCV (fun b2 o2 R T Y U=>?_);obtain rfl:R=[qI _]:=T;refine Zf 0 rfl aI rfl U rfl<|tZ rfl rfl rfl rfl bCV<|Zj rfl<|Zae<|Zat<|Zap<|aX<|Za rfl<|Zaa rfl<|Zj rfl<|Zae ?_;have h3:(xs.take (k+1)).foldl max x=max ((xs.take k).foldl max x) y:=by rw[aYG,hy,aZM];rfl
   exact aM 16 (k+1) Yd Yd ⟨(by rw[h3];rfl),Yb,bCV⟩ rfl rfl Mm5 (aE)
  ·simp only[aXY]at hc2;refine aT<|Zaq<|Zaq<|Zau<|Zap<|aA<|Za rfl<|Zj rfl<|aH ?_;exact aF rfl (fun D hD=>by show Value.int _ _=_;rw[aYO Yd])
end L2
theorem K2.key{k:TypeId}(h:K2 P k):Y9 P k lJ:=by
 refine⟨⟨_,h.1⟩,fun a b w=>?_,fun em a w=>Z1 h em a w,fun a=>?_,fun a=>⟨_,rfl⟩⟩
 ·rw[L0 h];congr 1;by_cases e:a=b
  ·subst e;simp
  ·simp[e]
 ·simp[lJ,Instr.sameBits]

theorem VB{em:Bool}{t e:TypeId}{n:Nat}(t1:P.underlying t=some (.array n e))(te:P.underlying e=some (.int .i64))(hse:TS P e 1){r:List Int}(hr:r.length=n)(w:World):(Instr.checkKey em (9998+1) t (.agg (ints r).toArray)).run P w=.ok () w:=by
 have ce:∀m:Int,(Instr.checkKey em (9997+1) e (qI m)).run P w=.ok () w:=fun m=>by
  rw[Instr.checkKey,Sem.run_bind,TU.of te w];rfl
 rw[Instr.checkKey,Sem.run_bind,TU.of t1 w];simp only[Result.andThen_ok];rw[Std.Legacy.Range.forIn_eq_forIn_range'];have key:∀(is:List Nat),(∀i∈is,i<n)→((forIn is PUnit.unit fun i _=>do Instr.checkKey em 9998 e (←part e (ints r).toArray (i*(←sizeOf e)));Pure.pure (ForInStep.yield PUnit.unit):Sem PUnit)).run P w=.ok PUnit.unit w:=by
  intro is;induction is with
  |nil=>intro _;rfl
  |cons i is ih=>
   intro hi;have hlt:=hi i aXW;have g1:(ints r).toArray[i*1]?= some (qI r[i]):=by rw[bAF];simpa using cK (aXT (show i<r.length by omega))
   rw[List.forIn_cons];simp only[Sem.run_bind,hse w,Result.andThen_ok,cO te g1];rw[ce];simp only[Result.andThen_ok,Sem.run_pure];exact ih fun j hj=>hi j (LE _ hj)
 have:=key (List.range' 0 n) (fun i hi=>by simpa using hi);simpa using this
def KM(P:Program)(k:TypeId)(n:Nat):Prop:=∃f0 f1 f2 e,P.underlying k=some (.struct (P.fieldsOf k))∧P.fieldsOf k=#[f0,f1,f2]∧f0.name≠ "_" ∧f1.name≠ "_" ∧f2.name≠ "_" ∧f0.offset=0∧f1.offset=1∧f2.offset=n+1∧
 P.underlying f0.type=some (.int .i64)∧P.underlying f1.type=some (.array n e)∧P.underlying f2.type=some (.array n e)∧P.underlying e=some (.int .i64)∧TA P f1.type true∧TS P f1.type n∧TA P f2.type true∧TS P f2.type n∧TS P e 1
theorem KM.key{k:TypeId}{n:Nat}(h:KM P k n)(hks:KS P k (n+n+1)):Y9 P k (X8 (n:=n+n+1)):=by
 obtain⟨f0,f1,f2,e,hu,hf,n0,n1,n2,o0,o1,o2,t0,t1,t2,te,G,I,a2,M,hse⟩:=h;refine⟨⟨_,hu⟩,fun a b w=>?_,fun em a w=>?_,fun a=>?_,fun a=>⟨_,rfl⟩⟩
 ·have:=X1 (P:=P) hks a.h b.h w;show(Op.equal k (.agg (ints a.l).toArray) (.agg (ints b.l).toArray)).run P w=_;rw[this];congr 1;obtain⟨la,ha⟩:=a;obtain⟨lb,hb⟩:=b;rw[bAY];simp
 ·have hl:=a.h;have c0:∀x:Int,(Instr.checkKey em (9998+1) f0.type (qI x)).run P w=.ok () w:=fun x=>by
   rw[Instr.checkKey,Sem.run_bind,TU.of t0 w];rfl
  obtain⟨x,hx⟩:=dX a.l 0;have p0:(part f0.type (ints a.l).toArray f0.offset).run P w=.ok (qI x) w:=cO t0 (by rw[o0];simpa using cK hx) w
  have O:(part f1.type (ints a.l).toArray f1.offset).run P w=.ok (.agg (ints ((a.l.drop 1).take n)).toArray) w:=by rw[o1];exact rS G I Yd w
  have R:(part f2.type (ints a.l).toArray f2.offset).run P w=.ok (.agg (ints ((a.l.drop (n+1)).take n)).toArray) w:=by rw[o2];exact rS a2 M Yd w
  have c1:=VB (em:=em) t1 te hse (r:=(a.l.drop 1).take n) Yaw w;have c2:=VB (em:=em) t2 te hse (r:=(a.l.drop (n+1)).take n) Yaw w;show(Instr.checkKey em (9999+1) k (.agg (ints a.l).toArray)).run P w=_;rw[Instr.checkKey,Sem.run_bind,TU.of hu w];simp only[Result.andThen_ok];rw[hf,←Array.forIn_toList];simp only[List.forIn_cons,List.forIn_nil,n0,n1,n2,ne_eq,bCB,aZU,Sem.run_bind,p0,Result.andThen_ok,Sem.run_pure];rw[c0];simp only[Result.andThen_ok,Sem.run_pure,Sem.run_bind,O];rw[c1];simp only[Result.andThen_ok,Sem.run_pure,Sem.run_bind,R];rw[c2];simp[Sem.run_pure,Result.andThen_ok]
 ·show Instr.sameBits (9999+1) (.agg (ints a.l).toArray) (.agg (ints a.l).toArray)=true;simp only[Instr.sameBits,beq_self_eq_true,bBL,aYL];rintro⟨p,q⟩ hpq;obtain⟨i,hi⟩:=bBD.1 hpq;rw[List.getElem?_zip_eq_some]at hi;obtain⟨h1,h2⟩:=hi;simp only at h1 h2;rw[h1]at h2;obtain rfl:=aYS h2;have:p∈ints a.l:=LT (by simpa using h1);obtain⟨m,_,rfl⟩:=n4.1 this;simp[Instr.sameBits]
variable{α β:Type}[DecidableEq α]{val:α→Value}{wal:β→Value}
def G9(val:α→Value)(wal:β→Value)(es:Array MapEntry)(M:List (α×β)):Prop:=es.toList.map (fun e=>(e.key,e.val))=M.map fun x=>(val x.1,wal x.2)
def yF(a:α):List (α×β)→Nat→Option (Nat×β)
 | [],_=>none
 |(b,n)::M,i=>if a=b then some (i,n)else yF a M (i+1)
theorem A1{a:α}:∀{M:List (α×β)} {i j:Nat} {n:β},yF a M i=some (j,n)→∃k,j=i+k∧M[k]?= some (a,n)
 |(b,m)::M,i,j,n,h=>by
  simp only[yF]at h;split at h
  ·rename_i he;cases h;exact⟨0,rfl,by rw[he];rfl⟩
  ·obtain⟨k,rfl,hk⟩:=A1 h;exact⟨k+1,by omega,by simpa using hk⟩
theorem vO{k:TypeId}(h:Y9 P k val)(a:α)(w:World):∀(es:List MapEntry) (M:List (α×β)) (i:Nat),es.map (fun e=>(e.key,e.val))=M.map (fun x=>(val x.1,wal x.2))→
  (Instr.findAsking k (val a) es i).run P w=.ok ((yF a M i).map fun p=>(p.1,wal p.2)) w
 | [],[],i,_=>rfl
 | [],_::_,i,hm=>by simp at hm
 |e::es,[],i,hm=>by simp at hm
 |e::es,(b,n)::M,i,hm=>by
  simp only[aYN,aZS,bBG]at hm;obtain⟨⟨hk,hv⟩,hm⟩:=hm;simp only[Instr.findAsking,Sem.run_bind,hk,h.eq,Result.andThen_ok,yF];by_cases he:a=b
  ·subst he;simp only[decide_true,aZU,Sem.run_pure,hv];rfl
  ·simp only[he,decide_false,aYY,aZW];exact vO h a w es M (i+1) hm
theorem uG{k:TypeId}(h:Y9 P k val)(a:α)(w:World){es:List MapEntry}{M:List (α×β)}(hm:es.map (fun e=>(e.key,e.val))=M.map (fun x=>(val x.1,wal x.2))):
  (Instr.findKey k (val a) es).run P w=.ok ((yF a M 0).map fun p=>(p.1,wal p.2)) w:=by
 obtain⟨fs,hu⟩:=h.und;unfold Instr.findKey;rw[Sem.run_bind,TU.of hu w];cases es with
 |nil=>
  cases M with
  |nil=>rfl
  |cons x M=>simp at hm
 |cons e es=>
  have hn:Instr.findNow (.struct fs) (val a) (e::es) 0=none:=by
   obtain⟨cs,hc⟩:=h.agg a;rw[hc];rfl
  simp only[Result.andThen_ok,hn];exact vO h a w (e::es) M 0 hm
theorem XN{t k e:TypeId}{b clock:Nat}{es:Array MapEntry}{M:List (α×β)}{a:α}(ho:all[ix]?= some ⟨some d,.lookup t x y true,ty,pos,aft,g⟩)(ht:P.underlying t=some (.map k e))(hk:Y9 P k val){z0:Value}(hz:TZ P e z0)
  (hx:ev σ x=some (.map (some b))) (hy:ev σ y=some (val a)) (hm:(b,Obj.map es clock)∈μ) (hb:b∉bad) (hM:G9 val wal es M) (hN:Nat.blt d X.N=true) (hg:dE all σ g)
  (kk:∀n ok,(ok=true→∃r,n=wal r∧(a,r)∈M)→(ok=false→n=z0)→WL P X bad all K Q os ((d,.tuple #[n,.bool ok])::σ) μ Ds):WL P X bad all K Q ((fl,ix)::os) σ μ Ds:=by
 have run:∀w,w.heap[b]?= some (Obj.map es clock)→(Instr.lookup t (.map (some b)) (val a) true).run P w=.ok (.tuple #[(match yF a M 0 with|some (_,v)=>wal v|none=>z0),.bool (yF a M 0).isSome]) w:=by
  intro w hw;have hf:=uG hk a w hM;unfold Instr.lookup;simp only[Sem.run_bind,TU.of ht w,Result.andThen_ok,jN hw,Sem.run_pure,hk.chk];rw[hf];cases yF a M 0 with
  |none=>simp only[aZX,Result.andThen_ok,Sem.run_bind,hz w,Sem.run_pure];rfl
  |some r=>obtain⟨j,v⟩:=r;simp only[aYX,Result.andThen_ok];rfl
 refine mA ho rfl rfl hN hg (fun a' w hh w' hk'=>?_) (kk (match yF a M 0 with|some (_,v)=>wal v|none=>z0) (yF a M 0).isSome (fun hok=>?_) fun hok=>?_)
 ·simp only[execOp,hh.eval hx,hh.eval hy,Sem.run_bind,run w' (hh.boxAt hm hb hk'),Result.andThen_ok,Sem.run_pure]
 ·cases hp:yF a M 0 with
  |none=>rw[hp]at hok;cases hok
  |some r=>
   obtain⟨j,n⟩:=r;obtain⟨i,_,hi⟩:=A1 hp;exact⟨n,rfl,LT hi⟩
 ·cases hp:yF a M 0 with
  |none=>rfl
  |some r=>rw[hp]at hok;cases hok
theorem ED{t k e:TypeId}{b clock:Nat}{es:Array MapEntry}{M:List (α×β)}{a:α}{n:β}{A B:aD}(ho:all[ix]?= some ⟨none,.mapUpdate t x y z,ty,pos,aft,g⟩)(ht:P.underlying t=some (.map k e))(hk:Y9 P k val)
  (hx:ev σ x=some (.map (some b))) (hy:ev σ y=some (val a)) (hz:ev σ z=some (wal n)) (hM:G9 val wal es M) (hg:dE all σ g)
  (kk:∀es' clock' M',G9 val wal es' M'→(∀p∈M',p∈M∨p=(a,n))→WL P X bad all K Q os σ (A++(b,.map es' clock')::B) Ds):WL P X bad all K Q ((false,ix)::os) σ (A++(b,.map es clock)::B) Ds:=by
 refine eI ho rfl rfl hg fun a' w hh=>?_
 obtain⟨h1,h2,h3,D,h4,h5,O⟩:=id hh;have hw:=(h4.box (b,.map es clock) Ye).1;have run:∃es' clock' M',G9 val wal es' M'∧(∀p∈M',p∈M∨p=(a,n))∧(Instr.mapUpdate t (.map (some b)) (val a) (wal n)).run P w=.ok () {w with heap:=w.heap.setIfInBounds b (.map es' clock')}:=by
  have hf:=uG hk a w hM;have hset:∀o,(setObj b o).run P w=.ok () {w with heap:=w.heap.setIfInBounds b o}:=fun o=>by simp[setObj,Sem.run,hw]
  cases hp:yF a M 0 with
  |none=>
   refine⟨es.push {key:=val a,val:=wal n,born:=clock},clock+1,M++[(a,n)],?_,fun p hp=>by simpa using hp,?_⟩
   ·unfold G9 at hM ⊢
    rw[Array.toList_push,aYE,aYE,hM];rfl
   ·unfold Instr.mapUpdate;simp only[Sem.run_bind,TU.of ht w,Result.andThen_ok,jN hw,hk.chk];rw[hf,hp];simp only[aZX,Result.andThen_ok,hset]
  |some r=>
   obtain⟨j,m⟩:=r;obtain⟨i,G,hi⟩:=A1 hp;rw[bAL]at G;subst G
   have hMi:∀i,(es.toList[i]?).map (fun e:MapEntry=>(e.key,e.val))=(M[i]?).map (fun x:α×β=>(val x.1,wal x.2)):=fun i=>by rw[←aYQ,←aYQ,hM]
   have hj:=hMi j;rw[hi]at hj;obtain⟨e0,I,hke⟩:=bAE.1 hj;simp only[bBG]at hke;have he0':es[j]?= some e0:=by simpa using I
   refine⟨es.modify j fun e=>{e with key:=val a,val:=wal n},clock,M.set j (a,n),?_,fun p hp=>(List.mem_or_eq_of_mem_set hp),?_⟩
   ·unfold G9;apply bCN;intro q;rw[aYQ,aYQ,Array.getElem?_toList,Array.getElem?_modify,List.getElem?_set];have hq:=hMi q;rw[Array.getElem?_toList]at hq;by_cases hjq:j=q
    ·subst hjq;have hlt:=(aXZ.1 hi).1;simp[he0',hlt]
    ·simp only[hjq,aZW];exact hq
   ·have hks:(Instr.keyThatStays (val a) (val a)).run P w=.ok (val a) w:=by
     have:Instr.sameBits 10000 (val a) (val a)=true:=hk.stay a;unfold Instr.keyThatStays;rw[aYJ this,Sem.run_pure]
    unfold Instr.mapUpdate;simp only[Sem.run_bind,TU.of ht w,Result.andThen_ok,jN hw,hk.chk];rw[hf,hp];simp only[aYX,Result.andThen_ok,he0',bAZ,hke.1,Sem.run_bind,hks,hset]
 obtain⟨es',clock',M',hM',hmem,hr⟩:=run;have hHas:bO (A++(b,Obj.map es clock)::B) b (.map es clock) (.map es' clock') (A++(b,.map es' clock')::B):=.app .head;have hs:=h4.set (w':={w with heap:=w.heap.setIfInBounds b (.map es' clock')}) hHas ⟨rfl,rfl⟩ trivial;have:(execOp a'.eval ⟨none,.mapUpdate t x y z,ty,pos,aft,g⟩).run P w=.ok .skip {w with heap:=w.heap.setIfInBounds b (.map es' clock')}:=by
  simp only[execOp,hh.eval hx,hh.eval hy,hh.eval hz,Sem.run_bind,hr,Result.andThen_ok,Sem.run_pure]
 rw[this];exact⟨fun h=>by simp at h,kk es' clock' M' hM' hmem _ _ ⟨h1,h2,h3,D,hs,h5,O.step (fun _ p hp=>aYF Yq) (fun _=>jI ⟨rfl,rfl⟩ (n4.2 ⟨_,hHas.mem,rfl⟩)) hs.dom⟩⟩
def aTH:Unit→Value:=fun _=>.bool true
structure vN(es:Array MapEntry)(clock:Nat)(S:List (Int×Int)):Prop where
 cells:G9 lJ aTH es (S.map fun a=>(a,()))
 nd:(es.toList.map (·.born)).Nodup
 lt:∀e∈es.toList,e.born<clock
theorem vN.nil:vN #[] 0 []:=⟨rfl,aZP,fun e he=>by simp at he⟩
def NA(S:List (Int×Int))(a:Int×Int):List (Int×Int):=if a∈S then S else S++[a]
theorem aJH{S:List (Int×Int)}{a p:Int×Int}:p∈NA S a ↔ p∈S∨p=a:=by
 unfold NA;split
 ·rename_i h;exact⟨aYF,fun h'=>h'.elim id fun e=>e▸h⟩
 ·simp
theorem vN.key{es:Array MapEntry}{clock:Nat}{S:List (Int×Int)}(h:vN es clock S){e:MapEntry}(he:e∈es.toList):∃a∈S,e.key=lJ a∧e.val=.bool true:=by
 have h1:=h.cells;unfold G9 at h1;obtain⟨i,hi⟩:=bBD.1 he;have h2:(es.toList.map fun e=>(e.key,e.val))[i]?= some (e.key,e.val):=by rw[aYQ,hi];rfl
 rw[h1,List.map_map,aYQ]at h2;obtain⟨a,ha,hk⟩:=bAE.1 h2;simp only[Function.comp,bBG]at hk;exact⟨a,LT ha,hk.1.symm,hk.2.symm⟩
theorem vN.ent{es:Array MapEntry}{clock:Nat}{S:List (Int×Int)}(h:vN es clock S){a:Int×Int}(ha:a∈S):∃e∈es.toList,e.key=lJ a:=by
 have h1:=h.cells;unfold G9 at h1;obtain⟨i,hi⟩:=bBD.1 ha;have h2:((S.map fun a=>(a,())).map fun x=>(lJ x.1,aTH x.2))[i]?= some (lJ a,.bool true):=by rw[List.map_map,aYQ,hi];rfl
 rw[←h1,aYQ]at h2;obtain⟨e,he,hk⟩:=bAE.1 h2;simp only[bBG]at hk;exact⟨e,LT he,hk.1⟩
theorem WU{S:List (Int×Int)}{a:Int×Int}:∀{i:Nat},yF a (S.map fun a=>(a,())) i=none→a∉S:=by
 induction S with
 |nil=>intro i _;exact n3
 |cons b S ih=>
  intro i h;simp only[aYN,yF]at h;split at h
  ·cases h
  ·rename_i hne;intro hm;rcases GE.1 hm with e|hm
   ·exact hne e
   ·exact ih h hm
theorem aSL{t k e:TypeId}{b clock:Nat}{es:Array MapEntry}{S:List (Int×Int)}{a:Int×Int}{A B:aD}(ho:all[ix]?= some ⟨none,.mapUpdate t x y z,ty,pos,aft,g⟩)(ht:P.underlying t=some (.map k e))(hk:K2 P k)
  (hx:ev σ x=some (.map (some b))) (hy:ev σ y=some (lJ a)) (hz:ev σ z=some (.bool true)) (hM:vN es clock S) (hg:dE all σ g)
  (kk:∀es' clock',vN es' clock' (NA S a)→WL P X bad all K Q os σ (A++(b,.map es' clock')::B) Ds):WL P X bad all K Q ((false,ix)::os) σ (A++(b,.map es clock)::B) Ds:=by
 refine eI ho rfl rfl hg fun a' w hh=>?_
 obtain⟨h1,h2,h3,D,h4,h5,U⟩:=id hh;have hw:=(h4.box (b,.map es clock) Ye).1;have hK:=hk.key;have run:∃es' clock',vN es' clock' (NA S a)∧(Instr.mapUpdate t (.map (some b)) (lJ a) (.bool true)).run P w=.ok () {w with heap:=w.heap.setIfInBounds b (.map es' clock')}:=by
  have hf:=uG (wal:=aTH) hK a w hM.cells;have hset:∀o,(setObj b o).run P w=.ok () {w with heap:=w.heap.setIfInBounds b o}:=fun o=>by simp[setObj,Sem.run,hw]
  cases hp:yF a (S.map fun a=>(a,())) 0 with
  |none=>
   have hna:=WU hp;refine⟨es.push {key:=lJ a,val:=.bool true,born:=clock},clock+1,⟨?_,?_,?_⟩,?_⟩
   ·have hM':=hM.cells;unfold G9 at hM' ⊢
    unfold NA;rw[aYC hna,Array.toList_push,aYE,hM',aYE,aYE];rfl
   ·rw[Array.toList_push,aYE,aXX];refine⟨hM.nd,by simp,fun V M b2 O=>?_⟩;obtain⟨R,G,rfl⟩:=n4.1 M;have:=hM.lt R G;simp only[aYN,bBM,aYH]at O;omega
   ·intro R G;rw[Array.toList_push]at G;rcases aYD.1 G with G|G
    ·have:=hM.lt R G;omega
    ·simp only[aYH]at G;subst G;exact Nat.lt_succ_self _
   ·unfold Instr.mapUpdate;simp only[Sem.run_bind,TU.of ht w,Result.andThen_ok,jN hw,hK.chk];rw[hf,hp];simp only[aZX,Result.andThen_ok,hset]
  |some r=>
   obtain⟨j,m⟩:=r;obtain⟨i,I,hi⟩:=A1 hp;rw[bAL]at I;subst I
   have hSj:S[j]?= some a:=by
    rw[aYQ]at hi;obtain⟨a',ha',hk'⟩:=bAE.1 hi;rw[ha',(Prod.mk.inj hk').1]
   have hMi:∀i,(es.toList[i]?).map (fun e:MapEntry=>(e.key,e.val))=(S[i]?).map (fun x:Int×Int=>(lJ x,Value.bool true)):=fun i=>by
    have:=hM.cells;unfold G9 at this;rw[←aYQ,this,List.map_map,aYQ];rfl
   have hj:=hMi j;rw[hSj]at hj;obtain⟨e0,T,hke⟩:=bAE.1 hj;simp only[bBG]at hke;have he0':es[j]?= some e0:=by simpa using T
   have hmod:es.modify j (fun e=>{e with key:=lJ a,val:=.bool true})=es:=by
    apply Array.ext_getElem?;intro q;rw[Array.getElem?_modify];by_cases hjq:j=q
    ·subst hjq;simp only[he0',aZU,aYX];obtain⟨Y,v0,Z⟩:=e0;simp only at hke;rw[hke.1,hke.2]
    ·simp[hjq]
   refine⟨es,clock,?_,?_⟩
   ·unfold NA;rw[aYJ (LT hSj)];exact hM
   ·have hks:(Instr.keyThatStays (lJ a) (lJ a)).run P w=.ok (lJ a) w:=by
     have:Instr.sameBits 10000 (lJ a) (lJ a)=true:=hK.stay a;unfold Instr.keyThatStays;rw[aYJ this,Sem.run_pure]
    unfold Instr.mapUpdate;simp only[Sem.run_bind,TU.of ht w,Result.andThen_ok,jN hw,hK.chk];rw[hf,hp];simp only[aYX,Result.andThen_ok,he0',bAZ,hke.1,Sem.run_bind,hks,hset,hmod]
 obtain⟨es',clock',hM',hr⟩:=run;have hHas:bO (A++(b,Obj.map es clock)::B) b (.map es clock) (.map es' clock') (A++(b,.map es' clock')::B):=.app .head;have hs:=h4.set (w':={w with heap:=w.heap.setIfInBounds b (.map es' clock')}) hHas ⟨rfl,rfl⟩ trivial;have:(execOp a'.eval ⟨none,.mapUpdate t x y z,ty,pos,aft,g⟩).run P w=.ok .skip {w with heap:=w.heap.setIfInBounds b (.map es' clock')}:=by
  simp only[execOp,hh.eval hx,hh.eval hy,hh.eval hz,Sem.run_bind,hr,Result.andThen_ok,Sem.run_pure]
 rw[this];exact⟨fun h=>by simp at h,kk es' clock' hM' _ _ ⟨h1,h2,h3,D,hs,h5,U.step (fun _ p hp=>aYF Yq) (fun _=>jI ⟨rfl,rfl⟩ (n4.2 ⟨_,hHas.mem,rfl⟩)) hs.dom⟩⟩
theorem aEO{t k e:TypeId}{b clock:Nat}{es:Array MapEntry}(ho:all[ix]?= some ⟨some d,.range t x,ty,pos,aft,g⟩)(ht:P.underlying t=some (.map k e))(hx:ev σ x=some (.map (some b)))(hm:(b,Obj.map es clock)∈μ)(hN:Nat.blt d X.N=true)(hg:dE all σ g)
  (kk:∀r,WL P X bad all K Q os ((d,qP r)::σ) ((r,.mapIter (some b) clock #[] clock)::μ) Ds):WL P X bad all K Q ((fl,ix)::os) σ μ Ds:=by
 refine eI ho rfl rfl hg fun a w hh=>?_
 obtain⟨h1,h2,h3,D,h4,h5,G⟩:=id hh;have:(execOp a.eval ⟨some d,.range t x,ty,pos,aft,g⟩).run P w=.ok (.value (.pointer (some ⟨w.heap.size,0,none⟩))) {w with heap:=w.heap.push (.mapIter (some b) clock #[] clock)}:=by
  simp only[execOp,hh.eval hx,Sem.run_bind,run_range_map w t k e b es clock ht (h4.box _ hm).1,Result.andThen_ok,Sem.run_pure];rfl
 rw[this];exact⟨fun _=>nR _ _ _,kk _ _ _ (Hl.put ⟨h1,h2,h3,D,h4.push _ (show dD (.mapIter (some b) clock #[] clock)from bCV),h5,G.step (fun _ p hp=>by rcases GE.1 hp with rfl|hp;exact Or.inr (aYI _);exact Or.inl (n4.2 ⟨p,hp,rfl⟩)) (fun _=>P7 _ _) (h4.push _ (show dD (.mapIter (some b) clock #[] clock)from bCV)).dom⟩ hN _)⟩
theorem aNX{b r since c0 clock:Nat}{seen:Array Nat}{es:Array MapEntry}{A B:aD}(ho:all[ix]?= some ⟨some d,.next x false,ty,pos,aft,g⟩)(hx:ev σ x=some (qP r))(hm:(b,Obj.map es clock)∈A++(r,.mapIter (some b) since seen c0)::B)
  (hold:∀e∈es.toList,e.born<since) (hsc:since≤c0) (hN:Nat.blt d X.N=true) (hg:dE all σ g)
  (kk:∀(ok:Bool) (vs:Array Value) (o':Obj),vs.toList[0]?= some (.bool ok)→(ok=false→(leftOf es seen).size=0∧o'=.mapIter (some b) since seen c0)→(ok=true→∃e∈(leftOf es seen).toList,o'=.mapIter (some b) since (seen.push e.born) clock)→WL P X bad all K Q os ((d,.tuple vs)::σ) (A++(r,o')::B) Ds):
  WL P X bad all K Q ((false,ix)::os) σ (A++(r,.mapIter (some b) since seen c0)::B) Ds:=by
 refine eI ho rfl rfl hg fun a w hh=>?_
 have G:=hh;obtain⟨h1,h2,h3,D,h4,h5,R⟩:=id hh;have hr:=(h4.box (r,.mapIter (some b) since seen c0) Ye).1;have hb:=(h4.box _ hm).1;rcases run_next_at (P:=P) w ty r b since c0 seen es clock hr hb hold hsc with⟨hl,hrun⟩|⟨e,he,I,M,hrun⟩
 ·have:(execOp a.eval ⟨some d,.next x false,ty,pos,aft,g⟩).run P w=.ok (.value (.tuple #[.bool false])) w:=by
   simp only[execOp,hh.eval hx,Sem.run_bind,hrun,Result.andThen_ok,Sem.run_pure]
  rw[this];exact⟨fun h=>by simp at h,kk false _ _ rfl (fun _=>⟨hl,rfl⟩) (fun h=>by cases h) _ _ (G.put hN _)⟩
 ·have O:Hl X σ (A++(r,.mapIter (some b) since seen c0)::B) Ds a I:=by
   rcases M with rfl|rfl
   ·exact G
   ·exact G.drew
  have:(execOp a.eval ⟨some d,.next x false,ty,pos,aft,g⟩).run P w=.ok (.value (.tuple #[.bool true,e.key,e.val])) (ChangeMaps.setBlock I r (.mapIter (some b) since (seen.push e.born) clock)):=by
   simp only[execOp,hh.eval hx,Sem.run_bind,hrun,Result.andThen_ok,Sem.run_pure]
  rw[this];obtain⟨h1,h2,h3,D,h4,h5,R⟩:=O;have hHas:bO (A++(r,Obj.mapIter (some b) since seen c0)::B) r (.mapIter (some b) since seen c0) (.mapIter (some b) since (seen.push e.born) clock) (A++(r,.mapIter (some b) since (seen.push e.born) clock)::B):=.app .head;have hs:=h4.set (w':=ChangeMaps.setBlock I r (.mapIter (some b) since (seen.push e.born) clock)) hHas ⟨rfl,rfl⟩ trivial;exact⟨fun h=>by simp at h,kk true _ _ rfl (fun h=>by cases h) (fun _=>⟨e,he,rfl⟩) _ _ (Hl.put ⟨h1,h2,h3,D,hs,h5,R.step (fun _ p hp=>aYF Yq) (fun _=>jI ⟨rfl,rfl⟩ (n4.2 ⟨_,hHas.mem,rfl⟩)) hs.dom⟩ hN _)⟩
theorem aCI{b r since clock:Nat}{seen:Array Nat}{es:Array MapEntry}{e:MapEntry}(ho:all[ix]?= some ⟨some d,.entry x,ty,pos,aft,g⟩)(hx:ev σ x=some (qP r))(hm:(b,Obj.map es clock)∈μ)(hr:(r,Obj.mapIter (some b) since (seen.push e.born) clock)∈μ)
  (he:e∈es.toList) (hn:(es.toList.map (·.born)).Nodup) (hN:Nat.blt d X.N=true) (hg:dE all σ g)
  (kk:WL P X bad all K Q os ((d,.tuple #[e.key,e.val])::σ) μ Ds):WL P X bad all K Q ((fl,ix)::os) σ μ Ds:=by
 refine eI ho rfl rfl hg fun a w hh=>?_
 obtain⟨h1,h2,h3,D,h4,h5,G⟩:=id hh;have:(execOp a.eval ⟨some d,.entry x,ty,pos,aft,g⟩).run P w=.ok (.value (.tuple #[e.key,e.val])) w:=by
  simp only[execOp,hh.eval hx,Sem.run_bind,run_entry_at w r b since seen es clock e (h4.box _ hr).1 (h4.box _ hm).1 he hn,Result.andThen_ok,Sem.run_pure]
 rw[this];exact⟨fun _=>nC.refl _ _,kk _ _ (hh.put hN _)⟩
theorem ZG{t e:TypeId}{n b l h:Nat}{G I:IntKind}{i j:Int}(ho:all[ix]?= some ⟨some d,.slice t x (some y) (some z) none,ty,pos,aft,g⟩)(ht:P.underlying t=some (.array n e))(hs:TS P e 1)(hx:ev σ x=some (qP b))
  (hy:ev σ y=some (.int G i)) (hz:ev σ z=some (.int I j)) (hi:i=(l:Int)) (hj:j=(h:Int)) (h1:l≤h) (h2:h≤n) (h3:l<n)
  (hN:Nat.blt d X.N=true) (hg:dE all σ g) (kk:WL P X bad all K Q os ((d,.slice (some ⟨b,l,none⟩) (h-l) (n-l))::σ) μ Ds):WL P X bad all K Q ((fl,ix)::os) σ μ Ds:=by
 subst hi;subst hj
 refine bX ho rfl rfl hN hg (fun ρ hρ w'=>?_) kk;simp only[execOp,hρ x _ hx,hρ y _ hy,hρ z _ hz,aZX,aYX];unfold Instr.sliceAt Instr.sureAddr Instr.sliceBounds Instr.sliceBound asIntOf;have M:(0:Int)≤(l:Int)∧(l:Int)≤(h:Nat):=by omega
 have a2:(0:Int)≤(h:Int)∧(h:Int)≤(n:Nat):=by omega
 simp only[Sem.run_bind,TU.of ht w',Result.andThen_ok,hs w',Sem.run_pure,pure_bind,M,a2,bCL,aZU,aZN,bAF];rw[aYC Yd];simp[Addr.add];exact fun h=>h.symm
theorem aGI{t e:TypeId}{n b h:Nat}{G:IntKind}{j:Int}(ho:all[ix]?= some ⟨some d,.slice t x none (some z) none,ty,pos,aft,g⟩)(ht:P.underlying t=some (.array n e))(hs:TS P e 1)(hx:ev σ x=some (qP b))
  (hz:ev σ z=some (.int G j)) (hj:j=(h:Int)) (h2:h≤n)
  (hN:Nat.blt d X.N=true) (hg:dE all σ g) (kk:WL P X bad all K Q os ((d,qS b h n)::σ) μ Ds):WL P X bad all K Q ((fl,ix)::os) σ μ Ds:=by
 subst hj;refine bX ho rfl rfl hN hg (fun ρ hρ w'=>?_) kk;simp only[execOp,hρ x _ hx,hρ z _ hz,aZX,aYX];unfold Instr.sliceAt Instr.sureAddr Instr.sliceBounds Instr.sliceBound asIntOf;have a2:(0:Int)≤(h:Int)∧(h:Int)≤(n:Nat):=by omega
 simp only[Sem.run_bind,TU.of ht w',Result.andThen_ok,hs w',Sem.run_pure,pure_bind,a2,bCL,aZU,aZN,bBS,bAX];split<;>simp[Addr.add]
theorem UK{D:aC}{b n l h:Nat}{c:List Int}(hA:At D b 0 (ints c))(hl:c.length=n)(h1:l≤h)(h2:h≤n)(hb:n≤9223372036854775807):Sl D RI 1 (.slice (some ⟨b,l,none⟩) (h-l) (n-l)) ((c.drop l).take (h-l)):=by
 have hlen:((c.drop l).take (h-l)).length=h-l:=by simp;omega
 refine⟨_,_,by rw[hlen],by omega,by omega,aXR ⟨b,l,rfl,fun i x hi=>⟨_,rfl,rfl,fun j v hj=>?_⟩⟩⟩;rw[List.getElem?_take]at hi;split at hi
 ·rw[bAD]at hi;cases j with
  |zero=>
   have h5:v=qI x:=by simpa using hj.symm
   subst h5;have:=hA (l+i) (qI x) (cK hi);simpa using this
  |succ j=>simp at hj
 ·cases hi
theorem aRY{γ:Type}(I:γ→Prop)(S:γ→Bool)(XX:γ→Cx)(M:γ→aD)(xs ys:List (Bool×Nat)){s p:Nat}{b:Bool}(hXr:∀g,(XX g).r=X.r)(ho:os=xs++ys)(hs:look σ s=some (.bool b))
  (hyes:b=true→WL P X bad all (fun a w=>∃g,I g∧Hl (XX g) ((p,.bool (S g))::(s,.bool true)::σ) (M g) Ds a w) Q xs ((s,.bool true)::σ) μ Ds)
  (hno:b=false→WL P X bad all (fun a w=>∃g,I g∧Hl (XX g) ((p,.bool (S g))::(s,.bool false)::σ) (M g) Ds a w) Q xs ((s,.bool false)::σ) μ Ds)
  (k:∀g,I g→WL P (XX g) bad all K Q ys ((p,.bool (S g))::σ) (M g) Ds):WL P X bad all K Q os σ μ Ds:=by
 have hsub:∀u,Value.bool b=u→∀a w,Hl X σ μ Ds a w→Hl X ((s,u)::σ) μ Ds a w:=by
  rintro _ rfl a w ⟨h1,h2,h3⟩;refine⟨h1,fun t v ht=>?_,h3⟩;simp only[look]at ht;cases hb:Nat.beq s t with
  |true=>rw[hb]at ht;cases ht;obtain rfl:=aYZ hb;exact h2 _ _ hs
  |false=>rw[hb]at ht;exact h2 _ _ ht
 have hback:∀(X:Cx) u v μ',Value.bool b=u→∀a w,Hl X ((p,v)::(s,u)::σ) μ' Ds a w→Hl X ((p,v)::σ) μ' Ds a w:=by
  rintro X _ v μ' rfl a w ⟨h1,h2,h3⟩;refine⟨h1,fun t v' ht=>?_,h3⟩;refine h2 t v' ?_;simp only[look]at ht ⊢
  cases hp:Nat.beq p t with
  |true=>rw[hp]at ht;exact ht
  |false=>
   rw[hp]at ht;cases hb:Nat.beq s t with
   |true=>obtain rfl:=aYZ hb;rw[←ht,hs]
   |false=>exact ht
 subst ho;intro a w hh;cases b
 ·refine WL.append (hno rfl a w (hsub _ rfl a w hh)) ?_;rintro a w ⟨g,hI,h⟩;rw[←hXr g];exact k g hI a w (hback _ _ _ _ rfl a w h)
 ·refine WL.append (hyes rfl a w (hsub _ rfl a w hh)) ?_;rintro a w ⟨g,hI,h⟩;rw[←hXr g];exact k g hI a w (hback _ _ _ _ rfl a w h)

theorem VA{f:FuncId}{fn:Func}{c:Code}{args:List Value}{D:aC}{post:aC→Value→aD→Prop}(N:Nat)(hf:P.funcs[f]?= some fn)(hn:(fn.name== "runtime.NumGoroutine")=false)(hb:fn.body=some c)(hN:fn.ntmps=N)(hsz:Nat.ble args.length N=true)
  (h:∀h0:H0,WC P ⟨none,N,[],h0,h0.size,D,[],none⟩ (B2 P fn (pF ⟨none,N,[],h0,h0.size,D,[],none⟩ post)) c (jG 0 args) [] [D]):MZ P f args.toArray D post:=by
 refine⟨EF.of hf hn hb,fun w hw=>?_⟩;subst hN;have hsz:=aZC hsz;have hq:∀e a w',B2 P fn (pF ⟨none,fn.ntmps,[],hd w,w.heap.size,D,[],none⟩ post) e a w'→bodyPostM (FW none) 0 P fn (pF ⟨none,fn.ntmps,[],hd w,w.heap.size,D,[],none⟩ post) e a w':=by
  intro e a w' he;cases e<;>first|exact he|exact he.elim
 have hwp:=h (hd w) {tmps:=args.toArray++Array.replicate (fn.ntmps-args.toArray.size) undef,defers:=[]} w ⟨by simp;omega,fun s v hs=>by
  obtain⟨_,h2⟩:=fQ args 0 s v hs;have hl:=(aXZ.1 h2).1;simp only[bAX]at h2 hl;show(args.toArray++_)[s]?= some v;rw[bAI Yas];simpa using h2,rfl,D,⟨aYI _,aYI _,(fun _ _ _=>rfl),(fun _ _=>rfl),hw,Yi,aZP,Yi,fun e he=>aYS he⟩,(fun D₁ h1=>by simp only[aYH]at h1;subst h1;exact Le.refl _),bCV⟩
 refine(dN (r:=none) (n:=0)).1 ((callsIn_of_wp_marks hf hb bCV (wpIn_mono hwp hq) rfl).mono ?_);rintro e w' ⟨v,D',μ',rfl,hs,hp⟩;exact⟨v,D',μ',rfl,hs,hp⟩
theorem j4{fn:Func}{bd:Nat}{post:aC→Value→aD→Prop}{e:Exit}(he:(match e with|.normal=>true|.ret=>true|_=>false)=true){rs:List ResultVar}{vs:List Value}{A B ν':aD}(hds:X.ds=[])(hr:fn.results=rs.toArray)(h:wL P X σ (A++ν'++B++[(bd,Obj.deferred none)]) rs vs)
  (hp:∀D,(∀D₁∈Ds,Le D₁ D)→post D (pT vs) ν'):∀a w,Hl (X.withDs bd) σ (A++ν'++B++[(bd,Obj.deferred (some []))]) Ds a w→B2 P fn (pF X post) e a w:=by
 intro a w hh;obtain⟨h1,h2,h3,D,h4,h5,G⟩:=hh;have hHas:bO (A++ν'++B++[(bd,Obj.deferred (some []))]) bd (.deferred (some [])) (.deferred none) (A++ν'++B++[(bd,Obj.deferred none)]):=.app .head;have hs:=h4.set (w':=w.putObj bd (.deferred none)) hHas ⟨rfl,rfl⟩ trivial;have hh':Hl X σ (A++ν'++B++[(bd,Obj.deferred none)]) Ds {a with defers:=[]} (w.putObj bd (.deferred none)):=
  ⟨h1,h2,hds.symm,D,hs,h5,G.step (X:=X.withDs bd) (fun _ p hp=>aYF Yq) (fun _=>jI ⟨rfl,rfl⟩ (n4.2 ⟨_,hHas.mem,rfl⟩)) hs.dom⟩
 have hrun:=iQ hh' hr h;have hb:=(h4.box (bd,Obj.deferred (some [])) Ye).1;have hnd:=hs.nd;simp only[aYE]at hnd;have hs':hP X.h0 X.lo X.D0 X.mods ν' D (w.putObj bd (.deferred none)):=hs.sub (fun p hp=>aXU _ (aXU _ (n5 _ hp))) (aXX.1 (aXX.1 (aXX.1 hnd).1).1).2.1;have:LeavesInM (FW none) 0 P fn a.tmps (pF X post) a.defers .returning w:=by
  have h3':a.defers=[mQ bd]:=h3.trans (by show mQ bd::X.ds=_;rw[hds]);rw[h3'];exact⟨by simp,aYF ⟨bd,_,rfl,run_takeDeferred hb,_,hrun,_,D,ν',rfl,hs',hp D h5⟩⟩
 cases e<;>first|exact this|cases he
namespace L2
open L1
open C2
open C1 (iK dA uC sP)
theorem aCD{c pre:List Int}{n:Int}{i:Nat}(hl:pre.length=i)(hp:c.take (i+1)=pre++[n]):c[(i:Int).toNat]?= some n:=by
 have h:(c.take (i+1))[i]?= some n:=by rw[hp,←hl];simp
 rw[bAN (Nat.lt_succ_self i)]at h;exact h
theorem YX{step:Int}{c pre:List Int}{n:Int}{i:Nat}(hl:pre.length=i)(hp:c.take (i+1)=pre++[n])(hb:∀x∈pre,0≤x∧x≤99)(_h10:c.length=10)(hi:i<10):
  ∃m,(i≠0→c[((i:Int)-1).toNat]?= some m)∧(0≤m∧m≤99)∧(decide ((i:Int)=0)||iK (n-m) (-step) step)=mV step pre.getLast? n:=by
 rcases List.eq_nil_or_concat pre with rfl|⟨q,m,rfl⟩
 ·refine⟨0,fun h=>absurd hl.symm h,by omega,?_⟩;simp only[aYW]at hl;subst hl;simp[mV]
 ·refine⟨m,fun _=>?_,hb m Ye,?_⟩
  ·have h:(c.take (i+1))[i-1]?= some m:=by
    rw[hp];simp only[List.concat_eq_append,GT,bBE]at hl;rw[show i-1=q.length by omega];simp
   rw[bAN Yd]at h;rw[show((i:Int)-1).toNat=i-1 by omega];exact h
  ·have:(i:Int)≠0:=by
    simp only[List.concat_eq_append,GT,bBE]at hl;omega
   unfold mV;rw[bAW this,Bool.false_or];simp
theorem aTU{c pre:List Int}{i n:Nat}{k:Int}(h:c.length=10)(hi:i<n)(hn:n≤10)(hp:c.take i=pre)(hz:c.drop n=List.replicate (10-n) 0):(c.set i k).length=10∧(c.set i k).take (i+1)=pre++[k]∧(c.set i k).drop n=List.replicate (10-n) 0:=
 ⟨by simp[h],by rw[aYG,List.getElem?_set_self Yd,aZH,List.take_set_of_le (aYI _),hp],by rw[List.drop_set_of_lt hi];exact hz⟩
theorem b6(last step:Int)(hv lv mv:Value)(c pre:List Int)(n:Int)(i:Nat)(D:aC)(hs:0≤step∧step≤99)(O:c.length=10)(R:i<10)(hl:pre.length=i)(hp:c.take (i+1)=pre++[n])(hb:∀x∈pre,0≤x∧x≤99)(hn:0≤n∧n≤99):
  Fn prog 222 #[.agg #[qI last,hv,qI step,lv,mv],.agg (ints c).toArray,qI (i:Int)] D (fun _ v=>v=.bool (mV step pre.getLast? n)):=by
 have T:=aCD hl hp;obtain⟨m,U,hmb,hnr⟩:=YX (step:=step) hl hp hb O R;refine enter 25 func222 rfl rfl rfl rfl fun h0=>aA<|Zv rfl (fun q1 E1 Y G=>Zv rfl (fun q2 E2 Z I=>Zj rfl<|bR<|bM [] 6 19 64448<|Za rfl<|Zan rfl<|Za rfl ?_))
 refine' dY 15 (s:=9) (p:=24) rfl (fun M=>?_) (fun M=>?_) ?_;rotate_left
 ·have hB:(i:Int)≠0:=by simpa using M
  have V:=U Yd;refine Zb rfl<|eJ rfl U282 aL rfl rfl Yd Yd rfl ⟨_,rfl,rfl⟩<|jH rfl aI rfl I Ye (cK T) n3 rfl ⟨_,rfl,rfl⟩<|Zb rfl<|hU rfl rfl rfl Yg rfl ⟨_,rfl,rfl⟩<|eJ rfl U282 aL rfl rfl Yd Yd rfl ⟨_,rfl,rfl⟩<|jH rfl aI rfl I Ye (cK V) n3 rfl ⟨_,rfl,rfl⟩<|hU rfl rfl rfl Yg rfl ⟨_,rfl,rfl⟩<|Zi rfl sY rfl<|Zg 2 rfl aI rfl G rfl<|aQQ rfl rfl Yg rfl ⟨_,rfl,rfl⟩<|Zi rfl sY rfl ?_;refine Zg 2 rfl aI rfl G rfl<|Zd rfl (fun D1 hE=>eN _ _ _ _)<|Zah rfl ?_;exact aR 14
 ·refine Zk rfl<|Zk rfl<|Zk rfl<|Zk rfl<|Zk rfl<|Zk rfl<|Zk rfl<|Zk rfl<|Zk rfl<|Zk rfl<|Zk rfl<|Zk rfl ?_;refine Zk rfl<|Zk rfl<|Zag rfl ?_;exact aR 14
 refine Zj rfl<|aH ?_;exact aF rfl (fun D hD=>by show Value.bool _=_;rw[hnr])
def iI(br bY bc bh:Nat)(c:List Int):aD:=[(bh,qC [.func (.func 221) #[] #[qP br,qP bY,qP bc,qP bh]] 191),(bc,qC (ints c) 282)]
def N1(J Jx:List (List Int)→tF)(br bY bc bh:Nat)(step:Int)(hs:List (Int×Int))(pre:List Int)(i:Nat)(done:List (List Int))(v:Value)(J':tF)(μ':aD):Prop:=
 ∃b c',v=.bool b∧c'.length=10∧c'.take i=pre∧c'.drop hs.length=List.replicate (10-hs.length) 0∧μ'=iI br bY bc bh c'∧(if b=true then J'=J (done++(jD step (hs.drop i) pre.getLast?).map fun t=>dG (pre++t))else ∃p,J'=Jx p)
theorem vH{lo l:Nat}{J Jx:List (List Int)→tF}{t:bD}{xs:List (List Int)}{Dr Dy:aC}{Ds:List aC}{br bY bc bh:Nat}{hv lv mv:Value}(hto:IN t)
  (hs:∀pre,G8 lo (J pre)) (hsx:∀pre,G8 lo (Jx pre)) (hY:UF prog Dr lo l J Jx xs) (hDr:Dr∈Ds) (hDy:Dy∈Ds) (hA:At Dr br 0 [qI t.last,hv,qI t.step,lv,mv]) (hpl:Sl Dr C8 2 hv t.heights) (hB:At Dy bY 0 [.func (.yield l) #[] #[]]):
  ∀(j i:Nat) (pre c:List Int) (done rest:List (List Int)) (iv:Int),iv=i→i+j=t.heights.length→pre.length=i→c.length=10→c.take i=pre→c.drop t.heights.length=List.replicate (10-t.heights.length) 0→(∀x∈pre,0≤x∧x≤99)→
   xs=done++(jD t.step (t.heights.drop i) pre.getLast?).map (fun t=>dG (pre++t))++rest→
   aVE prog 221 [qI iv,qP br,qP bY,qP bc,qP bh] lo (J done) (iI br bY bc bh c) Ds (N1 J Jx br bY bc bh t.step t.heights pre i done):=by
 intro j;induction j using Nat.strongRecOn with
 |_ j ih=>
 intro i pre c done rest iv hiv hij hl h9 hp hz hpb hxs;subst hiv;have hmx:=hpl.len;have hlast:=hto.last;have hlen:=hto.len;have Z:=hto.len10;refine I0 (μ:=iI br bY bc bh c) 46 func221 rfl rfl rfl rfl<|aA<|Zj rfl<|bW<|Za rfl<|Zh rfl jU rfl<|Zf 0 rfl aI rfl hA rfl<|iH rfl rfl rfl rfl bCV<|aG<|Zz rfl (fun hD=>?_) (fun hD=>?_)
 ·have hin:i=t.heights.length:=by omega
  subst hin;have hleaf:=(OZ (l:=pre) (by rw[hl];exact hp) (by rw[hl];exact hz))
  rw[List.drop_length]at hxs;simp only[jD,aYN,bBM,aXS]at hxs;rw[hleaf,aYA,bBC]at hxs;refine aA<|Zf 0 rfl aOI rfl hB rfl<|bT rfl nL rfl Mm1 Yaa n3 rfl bCV<|y0 (l:=l) (J1:=J (done++[c])) (J0:=Jx (done++[c])) rfl rfl rfl rfl (hs _) (hsx _) (fun D w hd hJ hb hl=>hY done c _ D w ⟨rest,hxs⟩ hd hJ (fun b hbm=>by obtain⟨p,hp,rfl⟩:=n4.1 hbm;exact hb p hp) (hl _ hDr)) rfl bCV (fun b1 J1 hE=>Zj rfl<|aH<|Zas ?_)
  exact jZ (P:=prog) (fn:=f221) (N:=46) (vs:=[_]) rfl rfl ⟨rfl,bCV⟩ (fun D h=>⟨D,h,Le.refl D⟩) ⟨b1,c,rfl,h9,hp,hz,rfl,by cases b1<;>simp only[hE,aZU,aYY,aZW];exact⟨_,rfl⟩;simp[jD,hleaf]⟩
 ·have hin:i<t.heights.length:=by omega
  obtain⟨r,hri⟩:=dX t.heights i;have hrb:=hto.hts r (LT hri);have hrg:=qV hrb;have hsz:gL r=r.2-r.1+1:=rfl;have hd:t.heights.drop i=r::t.heights.drop (i+1):=by rw[aZO hin];congr 1;exact aYS ((aXT hin).symm.trans hri)
  rw[hd,←UW]at hxs;refine aZ<|dV<|Zh rfl fA rfl<|Zf 1 rfl lX rfl hA rfl<|Za rfl<|Zx rfl U29 cE rfl hpl rfl hri (fun b1 o1 hF hH hR hI=>?_);obtain rfl:hF=[qI _,qI _]:=hH;refine Zs rfl kB rfl hI cE<|Zc rfl (fun D1 hX=>UJ r hrb _)<|Za rfl<|aG<|Zar<|K9 (γ:=Nat×List Int) (fun g=>(gL r).toNat-g.1) (fun g=>g.1≤(gL r).toNat∧g.2.length=10∧g.2.take i=pre∧g.2.drop t.heights.length=List.replicate (10-t.heights.length) 0) (fun g=>J (done++NI t.step (t.heights.drop (i+1)) pre r g.1)) (fun g=>[(21,qI (g.1:Int))]) [(20,_),(6,_),(0,_),(1,_),(3,_),(4,_)] (fun g=>iI br bY bc bh g.2) (fun g=>Ds) (0,c) ⟨by simp,h9,hp,hz⟩ (by simp[aCM]) ⟨Yb,bCV⟩ bA Mm5 (aE) ?_;rintro⟨k,c1⟩ ⟨hK,G,I,M⟩;simp only at hK G I M;refine aA<|Zai rfl<|bR<|Zz rfl (fun hc2=>?_) (fun hc2=>?_)
  ·obtain⟨rr,hr⟩:=aFD (step:=t.step) (rs:=t.heights.drop (i+1)) (pre:=pre) (r:=r) (k:=k) (n:=(gL r).toNat) Yd;have hset:=aTU (k:=r.1+(k:Int)) G hin Z I M;have h9s:(c1.set ((i:Int)).toNat (r.1+(k:Int))).length=10:=hset.1;have hpn:∀x∈pre++[r.1+(k:Int)],0≤x∧x≤99:=fun x hx=>by rcases aYD.1 hx with hx|hx;exact hpb x hx;simp only[aYH]at hx;omega
   refine aZ<|aO<|Zar<|aA<|Za rfl<|Zj rfl<|aK<|Za rfl<|Zh rfl fA rfl<|Zf 1 rfl lX rfl hA rfl<|Za rfl<|Zx rfl U29 cE rfl hpl rfl hri (fun b2 o2 hM hN hS hO=>?_);obtain rfl:hM=[qI _,qI _]:=hN;refine Zh rfl sO rfl<|Zf 0 rfl aI rfl hO rfl<|Za rfl<|Zaa rfl<|eJ rfl U282 aL rfl rfl Yd Yd rfl bCV<|t8 rfl aL rfl rfl (.tail (bO.head)) (by simp only[*];omega) bCV<|aK<|Zs rfl gY rfl hA eW<|bT rfl nL rfl Mm1 Yaa n3 rfl bCV<|Za rfl<|Zc rfl (fun D2 rA=>b6 t.last t.step hv lv mv (c1.set i (r.1+(k:Int))) pre (r.1+(k:Int)) i _ hto.step hset.1 Yd hl hset.2.1 hpb Yd)<|Za rfl ?_;refine aRY (γ:=Bool×List Int×tF) (fun g=>g.2.1.length=10∧g.2.1.take (i+1)=pre++[r.1+(k:Int)]∧g.2.1.drop t.heights.length=List.replicate (10-t.heights.length) 0∧(if g.1=true then ∃p,g.2.2=Jx p else g.2.2=J (done++NI t.step (t.heights.drop (i+1)) pre r (k+1)))) (fun g=>g.1) (fun g=>Xj 46 lo g.2.2) (fun g=>iI br bY bc bh g.2.1) [(false,5),(false,6),(false,7),(false,8),(false,9),(false,10)] [] (s:=38) (p:=44) (fun _=>rfl) rfl rfl (fun O=>?_) (fun O=>?_) ?_
   ·have hnear:mV t.step pre.getLast? (r.1+(k:Int))=true:=by simpa using O
    refine Zq rfl oH rfl Mm0 rfl<|Zb rfl<|B4 rfl rfl rfl Yg rfl ⟨_,rfl,rfl⟩<|tT rfl rfl rfl rfl (ih (j-1) Yd (i+1) (pre++[r.1+(k:Int)]) (c1.set i (r.1+(k:Int))) (done++NI t.step (t.heights.drop (i+1)) pre r k) (rr++rest) (i+1:Int) Yd Yd Yam (by simpa using G) hset.2.1 hset.2.2 hpn (by rw[hxs,hr,VD hnear];simp)) rfl ⟨_,rfl,rfl⟩ ?_;rintro _ J2 _ ⟨b2,c2,rfl,h9',hp',hz',rfl,hJ2⟩;refine Zal rfl<|Zag rfl ?_;exact xN fun a w hh=>⟨(!b2,c2,J2),⟨h9',hp',hz',by cases b2<;>simp only[bCO,bCI,aZU,aYY,aZW]at hJ2 ⊢;exact hJ2;rw[hJ2,VD hnear,aYA]⟩,hh.cutK 5 rfl⟩
   ·refine Zk rfl<|Zk rfl<|Zk rfl<|Zk rfl<|Zk rfl<|Zah rfl ?_;exact xN fun a w hh=>⟨(false,c1.set i (r.1+(k:Int)),J (done++NI t.step (t.heights.drop (i+1)) pre r k)),⟨hset.1,hset.2.1,hset.2.2,by simp only[aYY,aZW];rw[aRH (by simpa using O)]⟩,hh.cutK 5 rfl⟩
   rintro⟨b3,c3,J3⟩ ⟨R,T,U,V⟩;simp only at R T U V;refine aG<|aW rfl (fun Y=>?_) (fun Y=>?_)
   ·obtain rfl:b3=true:=by simpa using Y
    refine aA<|Zj rfl<|aH<|Zav<|Zas<|Zas<|Zav<|Zas ?_;exact jZ (P:=prog) (fn:=f221) (N:=46) (vs:=[_]) rfl rfl ⟨rfl,bCV⟩ (fun D h=>⟨D,h,Le.refl D⟩) ⟨false,c3,rfl,R,L1.sU T hl,U,rfl,by simpa using V⟩
   ·obtain rfl:b3=false:=by simpa using Y
    refine cB<|Zat<|Zap<|aX<|Zaa rfl<|Za rfl<|Zae ?_;exact pX 22 (k+1,c3) ⟨by simp only;omega,R,L1.sU T hl,U⟩ Yo (by simpa using V) ⟨Yb,bCV⟩ rfl rfl Mm5 (aE)
  ·refine aT<|Zaq<|Zaq<|Zau<|Zap<|aA<|Zj rfl<|aH ?_;exact jZ (P:=prog) (fn:=f221) (N:=46) (vs:=[_]) rfl rfl ⟨rfl,bCV⟩ (fun D h=>⟨D,h,Le.refl D⟩) ⟨true,c1,rfl,G,I,M,rfl,by simp only[aZU];rw[hd,←UW,show k=(gL r).toNat by omega]⟩
theorem WO(t:bD)(Dr:aC)(br:Nat)(hv lv mv:Value)(hto:IN t)(hA:At Dr br 0 [qI t.last,hv,qI t.step,lv,mv])(hpl:Sl Dr C8 2 hv t.heights):
  yZ prog 220 [qP br] Dr ((gQ t).map dG) FY:=by
 refine T8 8 func220 rfl rfl rfl rfl (fun lo l J Jx hs hsx hY=>aA<|Zv rfl (fun M O I G=>aK<|Zw rfl K7 rfl (fun R=>aK<|Zw rfl d7 rfl (fun T=>aK<|Zao rfl<|Zm rfl a8 (bO.head) rfl<|aG<|aX ?_))));refine Zp rfl oH rfl Mm0 rfl<|tT rfl rfl rfl rfl (vH (l:=l) hto hs hsx hY Ye Ye hA hpl G t.heights.length 0 [] (List.replicate 10 0) [] [] 0 rfl Yd rfl rfl rfl (List.drop_replicate ..) (fun x hx=>by cases hx) (by simp[gQ])) rfl bCV ?_;rintro _ U _ ⟨b2,c2,rfl,h9',hp',hz',rfl,hJ2⟩;refine Zae ?_;exact jZ (P:=prog) (fn:=f220) (N:=8) (vs:=[]) rfl rfl bCV (fun D h=>⟨D,by simp only[aYH]at h;subst h;simp,Le.refl D⟩) (by cases b2<;>simp[gQ]at hJ2 ⊢;exact aXR hJ2;exact aYF hJ2)
theorem KO(tv:Value)(t:bD)(D:aC)(ht:hG D tv t)(hto:IN t):
  Fn prog 138 #[tv] D (fun D' v=>∃br,v=.func (.func 220) #[] #[qP br]∧yZ prog 220 [qP br] D' ((gQ t).map dG) FY):=by
 obtain⟨hv,lv,mv,rfl,hh,hl,hm⟩:=ht;refine enter 4 func138 rfl rfl rfl rfl fun h0=>aA<|Zv rfl (fun I O M G=>Zj rfl<|aK<|Zao rfl<|Zj rfl<|aH ?_)
 exact aF rfl (fun D hD=>⟨_,rfl,WO t _ I hv lv mv hto (G.up (hD _ Ye)) (hh.up C8.up (hD _ Ye))⟩)
end L2
namespace L7
open C7
theorem jY{α:Type}{p:α→Bool}{xs:List α}{k:Nat}{x:α}(hx:xs[k]?= some x)(h:(xs.take k).any p=false)(hp:p x=true):idxOf p xs=k:=by
 have hk:=(aXZ.1 hx).1;have he:=(aXZ.1 hx).2;have h1:xs.any p=true:=bCT.2 ⟨x,LT hx,hp⟩;have h2:xs.findIdx p=k:=by
  rw[List.findIdx_eq hk];refine⟨by rw[he];exact hp,fun j hj=>?_⟩
  have:=List.any_eq_false.1 h (xs[j]'Yd) (by
   rw[List.mem_take_iff_getElem];exact⟨j,by omega,rfl⟩)
  simpa using this
 simp[idxOf,h1,h2]
theorem gK{α:Type}{p:α→Bool}{xs:List α}(h:xs.any p=false):idxOf p xs= -1:=by simp[idxOf,h]
theorem kD{α:Type}{p:α→Bool}{xs:List α}:decide (0≤idxOf p xs)=xs.any p:=by
 unfold idxOf;cases h:xs.any p<;>simp
theorem nM{α:Type}{p:α→Bool}{xs:List α}:(!xs.any fun x=> !p x)=xs.all p:=by
 rw[List.all_eq_not_any_not]
theorem eN(n lo hi:Int)(D:aC):Fn prog 157 #[qI n,qI lo,qI hi] D (fun _ v=>v=.bool (iK n lo hi)):=by
 refine enter 15 func157 rfl rfl rfl rfl fun h0=>aA<|Zj rfl<|aK<|Za rfl<|Za rfl<|mL rfl rfl rfl rfl bCV<|Za rfl ?_
 refine' dM 4 (s:=10) (p:=14) rfl (fun G=>?_) (fun G=>?_) ?_;rotate_left
 ·refine Zb rfl<|Zb rfl<|mL rfl rfl rfl rfl ⟨_,rfl,rfl⟩<|Zag rfl ?_;exact aR 3
 ·refine Zk rfl<|Zk rfl<|Zk rfl<|Zah rfl ?_;exact aR 3
 refine Zj rfl<|aH ?_;exact aF rfl (fun D hD=>rfl)
theorem uK(sv fv:Value)(xs:List Int)(p:Int→Bool)(D:aC)(hS:Sl D RI 1 sv xs)(hp:cY prog D iV fv p):
  Fn prog 271 #[sv,fv] D (fun _ v=>v=qI (idxOf p xs)):=by
 have hl:=hS.len;obtain⟨f,c1,c2,rfl,hf⟩:=hp;refine enter 19 func271 rfl rfl rfl rfl fun h0=>aA<|Zj rfl<|bW<|Za rfl<|dH rfl U25 rfl Ym rfl rfl bCV<|Za rfl<|aG<|Zar<|bP (γ:=Nat) (fun k=>xs.length-k) (fun k=>k≤xs.length∧(xs.take k).any p=false) (fun k=>[(8,qI k)]) [(7,_),(4,_),(0,_),(1,_)] (fun k=>[D]) 0 Ye ⟨Yb,bCV⟩ bA (aE) ?_
 rintro k ⟨h1,h2⟩;refine aA<|Zai rfl<|bR<|Zz rfl (fun G=>?_) (fun G=>?_)
 ·have hk:k<xs.length:=by omega
  obtain⟨x,hx⟩:=dX xs k;refine aZ<|aO<|Zar<|aA<|Za rfl<|Zj rfl<|aK<|Za rfl<|Za rfl<|Za rfl<|eY rfl U25 aL rfl Ym rfl Yd Ym rfl bCV (fun U o1 I M T O=>?_);obtain rfl:I=[qI _]:=M;refine Zf 0 rfl aI rfl O rfl<|Zc rfl (fun V R=>hf x _ (R _ Ye))<|aG<|aW rfl (fun hc2=>?_) (fun hc2=>?_)
  ·refine aA<|Za rfl<|Zj rfl<|aH<|Zav<|Zas<|Zas<|Zav<|Zas ?_;exact aF rfl (fun D hD=>by show Value.int _ _=_;rw[jY hx h2 hc2])
  ·refine cB<|Zat<|Zap<|aX<|Zaa rfl<|Za rfl<|Zae ?_;have hpx:p x=false:=hc2;have h3:(xs.take (k+1)).any p=false:=by rw[aYG,hx,bBA,h2];simp[hpx]
   exact aM 12 (k+1) ⟨by omega,h3⟩ Yd ⟨Yb,bCV⟩ rfl rfl Mm5 (aE)
 ·refine aT<|Zaq<|Zaq<|Zau<|Zap<|aA<|Zj rfl<|aH ?_;exact aF rfl (fun D hD=>by show Value.int _ _=_;rw[gK Yah])
theorem lZ(sv fv:Value)(xs:List Int)(p:Int→Bool)(D:aC)(hS:Sl D RI 1 sv xs)(hp:cY prog D iV fv p):
  Fn prog 206 #[sv,fv] D (fun _ v=>v=.bool (xs.any p)):=by
 refine enter 9 func206 rfl rfl rfl rfl fun h0=>aA<|Zj rfl<|aK<|Za rfl<|Za rfl<|Zc rfl (fun I G=>uK _ _ xs p _ (Sl.at RI.up G Ym Ye) (hp.up (G _ Ye)))<|rZ rfl rfl rfl rfl bCV<|Zj rfl<|aH ?_
 exact aF rfl (fun D hD=>by show Value.bool (decide _)=_;rw[kD])
theorem yV(b:Nat)(fv:Value)(p:Int→Bool)(x:Int)(D:aC)(hp:cY prog D iV fv p)(hB:At D b 0 [fv]):
  Fn prog 300 #[iV x,qP b] D (fun _ v=>v=.bool (!p x)):=by
 obtain⟨f,c1,c2,rfl,hf⟩:=hp;refine enter 8 func300 rfl rfl rfl rfl fun h0=>aA<|Zj rfl<|aK<|Zf 0 rfl oH rfl hB rfl<|Za rfl<|Zc rfl (fun I G=>hf x _ (G _ Ye))<|Zak rfl<|Zj rfl<|aH ?_
 exact aF rfl (fun D hD=>rfl)
theorem N9(sv fv:Value)(xs:List Int)(p:Int→Bool)(D:aC)(hS:Sl D RI 1 sv xs)(hp:cY prog D iV fv p)(h1:fv.cells=#[fv]):
  Fn prog 283 #[sv,fv] D (fun _ v=>v=.bool (xs.all p)):=by
 refine enter 9 func283 rfl rfl rfl rfl fun h0=>aA<|qH (vs:=[fv]) rfl rfl h1 rfl bCV (fun b I G hB=>Zj rfl<|aK<|Za rfl<|Zao rfl<|Zc rfl (fun I G=>lZ _ _ xs (fun x=> !p x) _ (Sl.at RI.up G Ym Ye) ⟨_,[],[qP b],rfl,fun x M hl=>yV b fv p x M (hp.up ((G _ Ye).trans hl)) (hB.up ((G _ Ye).trans hl))⟩)<|Zak rfl<|Zj rfl<|aH ?_)
 exact aF rfl (fun D hD=>by show Value.bool (!_)=_;rw[nM])
theorem uB(sv fv:Value)(xs:List Ch)(p:Ch→Bool)(D:aC)(hS:Sl D wB 4 sv xs)(hp:cY prog D aVC fv p):
  Fn prog 282 #[sv,fv] D (fun _ v=>v=qI (idxOf p xs)):=by
 have hl:=hS.len;obtain⟨f,c1,c2,rfl,hf⟩:=hp;refine enter 19 func282 rfl rfl rfl rfl fun h0=>aA<|Zj rfl<|bW<|Za rfl<|dH rfl U37 rfl Ym rfl rfl bCV<|Za rfl<|aG<|Zar<|bP (γ:=Nat) (fun k=>xs.length-k) (fun k=>k≤xs.length∧(xs.take k).any p=false) (fun k=>[(8,qI k)]) [(7,_),(4,_),(0,_),(1,_)] (fun k=>[D]) 0 Ye ⟨Yb,bCV⟩ bA (aE) ?_
 rintro k ⟨h1,h2⟩;refine aA<|Zai rfl<|bR<|Zz rfl (fun G=>?_) (fun G=>?_)
 ·have hk:k<xs.length:=by omega
  obtain⟨x,hx⟩:=dX xs k;refine aZ<|aO<|Zar<|aA<|Za rfl<|Zj rfl<|aK<|Za rfl<|Za rfl<|Za rfl<|eY rfl U37 jA rfl Ym rfl Yd Ym rfl bCV (fun U o1 I M T O=>?_);obtain rfl:I=[qI _,qI _,qI _,qI _]:=M;refine Zs rfl I7 rfl O jA<|Zc rfl (fun V R=>hf x _ (R _ Ye))<|aG<|aW rfl (fun hc2=>?_) (fun hc2=>?_)
  ·refine aA<|Za rfl<|Zj rfl<|aH<|Zav<|Zas<|Zas<|Zav<|Zas ?_;exact aF rfl (fun D hD=>by show Value.int _ _=_;rw[jY hx h2 hc2])
  ·refine cB<|Zat<|Zap<|aX<|Zaa rfl<|Za rfl<|Zae ?_;have hpx:p x=false:=hc2;have h3:(xs.take (k+1)).any p=false:=by rw[aYG,hx,bBA,h2];simp[hpx]
   exact aM 12 (k+1) ⟨by omega,h3⟩ Yd ⟨Yb,bCV⟩ rfl rfl Mm5 (aE)
 ·refine aT<|Zaq<|Zaq<|Zau<|Zap<|aA<|Zj rfl<|aH ?_;exact aF rfl (fun D hD=>by show Value.int _ _=_;rw[gK Yah])
theorem pC(sv fv:Value)(xs:List Ch)(p:Ch→Bool)(D:aC)(hS:Sl D wB 4 sv xs)(hp:cY prog D aVC fv p):
  Fn prog 236 #[sv,fv] D (fun _ v=>v=.bool (xs.any p)):=by
 refine enter 9 func236 rfl rfl rfl rfl fun h0=>aA<|Zj rfl<|aK<|Za rfl<|Za rfl<|Zc rfl (fun I G=>uB _ _ xs p _ (Sl.at wB.up G Ym Ye) (hp.up (G _ Ye)))<|rZ rfl rfl rfl rfl bCV<|Zj rfl<|aH ?_
 exact aF rfl (fun D hD=>by show Value.bool (decide _)=_;rw[kD])
theorem y6(b:Nat)(fv:Value)(p:Ch→Bool)(x:Ch)(D:aC)(hp:cY prog D aVC fv p)(hB:At D b 0 [fv]):
  Fn prog 237 #[aVC x,qP b] D (fun _ v=>v=.bool (!p x)):=by
 obtain⟨f,c1,c2,rfl,hf⟩:=hp;refine enter 8 func237 rfl rfl rfl rfl fun h0=>aA<|Zv rfl (fun O R M G=>Zj rfl<|aK<|Zf 0 rfl aOD rfl hB rfl<|Zs rfl I7 rfl G jA<|Zc rfl (fun T I=>hf x _ (I _ Ye))<|Zak rfl<|Zj rfl<|aH ?_)
 exact aF rfl (fun D hD=>rfl)
theorem GJ(sv fv:Value)(xs:List Ch)(p:Ch→Bool)(D:aC)(hS:Sl D wB 4 sv xs)(hp:cY prog D aVC fv p)(h1:fv.cells=#[fv]):
  Fn prog 158 #[sv,fv] D (fun _ v=>v=.bool (xs.all p)):=by
 refine enter 9 func158 rfl rfl rfl rfl fun h0=>aA<|qH (vs:=[fv]) rfl rfl h1 rfl bCV (fun b I G hB=>Zj rfl<|aK<|Za rfl<|Zao rfl<|Zc rfl (fun I G=>pC _ _ xs (fun x=> !p x) _ (Sl.at wB.up G Ym Ye) ⟨_,[],[qP b],rfl,fun x M hl=>y6 b fv p x M (hp.up ((G _ Ye).trans hl)) (hB.up ((G _ Ye).trans hl))⟩)<|Zak rfl<|Zj rfl<|aH ?_)
 exact aF rfl (fun D hD=>by show Value.bool (!_)=_;rw[nM])
theorem uI(sv fv:Value)(xs:List (Int×Int))(p:(Int×Int)→Bool)(D:aC)(hS:Sl D R2 2 sv xs)(hp:cY prog D lJ fv p):
  Fn prog 285 #[sv,fv] D (fun _ v=>v=qI (idxOf p xs)):=by
 have hl:=hS.len;obtain⟨f,c1,c2,rfl,hf⟩:=hp;refine enter 19 func285 rfl rfl rfl rfl fun h0=>aA<|Zj rfl<|bW<|Za rfl<|dH rfl U38 rfl Ym rfl rfl bCV<|Za rfl<|aG<|Zar<|bP (γ:=Nat) (fun k=>xs.length-k) (fun k=>k≤xs.length∧(xs.take k).any p=false) (fun k=>[(8,qI k)]) [(7,_),(4,_),(0,_),(1,_)] (fun k=>[D]) 0 Ye ⟨Yb,bCV⟩ bA (aE) ?_
 rintro k ⟨h1,h2⟩;refine aA<|Zai rfl<|bR<|Zz rfl (fun G=>?_) (fun G=>?_)
 ·have hk:k<xs.length:=by omega
  obtain⟨x,hx⟩:=dX xs k;refine aZ<|aO<|Zar<|aA<|Za rfl<|Zj rfl<|aK<|Za rfl<|Za rfl<|Za rfl<|eY rfl U38 cD rfl Ym rfl Yd Ym rfl bCV (fun U o1 I M T O=>?_);obtain rfl:I=[qI _,qI _]:=M;refine Zs rfl kL rfl O cD<|Zc rfl (fun V R=>hf x _ (R _ Ye))<|aG<|aW rfl (fun hc2=>?_) (fun hc2=>?_)
  ·refine aA<|Za rfl<|Zj rfl<|aH<|Zav<|Zas<|Zas<|Zav<|Zas ?_;exact aF rfl (fun D hD=>by show Value.int _ _=_;rw[jY hx h2 hc2])
  ·refine cB<|Zat<|Zap<|aX<|Zaa rfl<|Za rfl<|Zae ?_;have hpx:p x=false:=hc2;have h3:(xs.take (k+1)).any p=false:=by rw[aYG,hx,bBA,h2];simp[hpx]
   exact aM 12 (k+1) ⟨by omega,h3⟩ Yd ⟨Yb,bCV⟩ rfl rfl Mm5 (aE)
 ·refine aT<|Zaq<|Zaq<|Zau<|Zap<|aA<|Zj rfl<|aH ?_;exact aF rfl (fun D hD=>by show Value.int _ _=_;rw[gK Yah])
theorem pI(sv fv:Value)(xs:List (Int×Int))(p:(Int×Int)→Bool)(D:aC)(hS:Sl D R2 2 sv xs)(hp:cY prog D lJ fv p):
  Fn prog 239 #[sv,fv] D (fun _ v=>v=.bool (xs.any p)):=by
 refine enter 9 func239 rfl rfl rfl rfl fun h0=>aA<|Zj rfl<|aK<|Za rfl<|Za rfl<|Zc rfl (fun I G=>uI _ _ xs p _ (Sl.at R2.up G Ym Ye) (hp.up (G _ Ye)))<|rZ rfl rfl rfl rfl bCV<|Zj rfl<|aH ?_
 exact aF rfl (fun D hD=>by show Value.bool (decide _)=_;rw[kD])
theorem AD(b:Nat)(fv:Value)(p:(Int×Int)→Bool)(x:(Int×Int))(D:aC)(hp:cY prog D lJ fv p)(hB:At D b 0 [fv]):
  Fn prog 240 #[lJ x,qP b] D (fun _ v=>v=.bool (!p x)):=by
 obtain⟨f,c1,c2,rfl,hf⟩:=hp;refine enter 8 func240 rfl rfl rfl rfl fun h0=>aA<|Zv rfl (fun O R M G=>Zj rfl<|aK<|Zf 0 rfl aLQ rfl hB rfl<|Zs rfl kL rfl G cD<|Zc rfl (fun T I=>hf x _ (I _ Ye))<|Zak rfl<|Zj rfl<|aH ?_)
 exact aF rfl (fun D hD=>rfl)
theorem IL(sv fv:Value)(xs:List (Int×Int))(p:(Int×Int)→Bool)(D:aC)(hS:Sl D R2 2 sv xs)(hp:cY prog D lJ fv p)(h1:fv.cells=#[fv]):
  Fn prog 160 #[sv,fv] D (fun _ v=>v=.bool (xs.all p)):=by
 refine enter 9 func160 rfl rfl rfl rfl fun h0=>aA<|qH (vs:=[fv]) rfl rfl h1 rfl bCV (fun b I G hB=>Zj rfl<|aK<|Za rfl<|Zao rfl<|Zc rfl (fun I G=>pI _ _ xs (fun x=> !p x) _ (Sl.at R2.up G Ym Ye) ⟨_,[],[qP b],rfl,fun x M hl=>AD b fv p x M (hp.up ((G _ Ye).trans hl)) (hB.up ((G _ Ye).trans hl))⟩)<|Zak rfl<|Zj rfl<|aH ?_)
 exact aF rfl (fun D hD=>by show Value.bool (!_)=_;rw[nM])
theorem AZ(sv:Value)(x:Int)(xs:List Int)(D:aC)(hS:Sl D RI 1 sv (x::xs)):
  Fn prog 211 #[sv] D (fun _ v=>v=qI (xs.foldl min x)):=by
 have hl:=hS.len;simp only[aXY]at hl;refine enter 25 func211 rfl rfl rfl rfl fun h0=>aA<|Zj rfl<|bW<|Za rfl<|dH rfl U25 rfl Ym rfl rfl bCV<|Zai rfl<|aG<|Zz rfl (fun G=>?_) (fun G=>?_)
 ·exact absurd G (by simp only[aXY];omega)
 ·refine aZ<|aA<|Za rfl<|eY rfl U25 aL rfl Ym rfl Yd Yav rfl bCV (fun b1 o1 I M V O=>?_);obtain rfl:I=[qI _]:=M;refine Zf 0 rfl aI rfl O rfl<|Zj rfl<|bW<|Zj rfl<|aG<|Zar<|bP (γ:=Nat) (fun k=>xs.length-k) (fun k=>k≤xs.length) (fun k=>[(3,qI ((xs.take k).foldl min x)),(4,qI (k+1:Int))]) [(2,_),(0,_)] (fun k=>[D]) 0 Yd ⟨Yb,Yb,bCV⟩ bA (aE) ?_;rintro k h1;refine dV<|Za rfl<|Za rfl<|dH rfl U25 rfl Ym rfl rfl bCV<|Zai rfl<|aG<|Zz rfl (fun hc2=>?_) (fun hc2=>?_)
  ·simp only[aXY]at hc2;have hk:k<xs.length:=by omega
   obtain⟨y,hy⟩:=dX xs k;have Z:(x::xs)[(k+1:Int).toNat]?= some y:=by rw[show((k:Int)+1).toNat=k+1 by omega];simpa using hy
   refine aZ<|aO<|Zar<|aX<|Za rfl<|Za rfl<|Za rfl<|eY rfl U25 aL rfl Ym rfl Yd Ym rfl bCV (fun b2 o2 R T Y U=>?_);obtain rfl:R=[qI _]:=T;refine Zf 0 rfl aI rfl U rfl<|aBR rfl rfl rfl rfl bCV<|Zj rfl<|Zae<|Zat<|Zap<|aX<|Za rfl<|Zaa rfl<|Zj rfl<|Zae ?_;have h3:(xs.take (k+1)).foldl min x=min ((xs.take k).foldl min x) y:=by rw[aYG,hy,aZM];rfl
   exact aM 16 (k+1) Yd Yd ⟨(by rw[h3];rfl),Yb,bCV⟩ rfl rfl Mm5 (aE)
  ·simp only[aXY]at hc2;refine aT<|Zaq<|Zaq<|Zau<|Zap<|aA<|Za rfl<|Zj rfl<|aH ?_;exact aF rfl (fun D hD=>by show Value.int _ _=_;rw[aYO Yd])
theorem lY(sv:Value)(x:Int)(xs:List Int)(D:aC)(hS:Sl D RI 1 sv (x::xs)):
  Fn prog 165 #[sv] D (fun _ v=>v=qI (xs.foldl min x)):=by
 refine enter 5 func165 rfl rfl rfl rfl fun h0=>aA<|Zj rfl<|aK<|Za rfl<|Zc rfl (fun I G=>AZ _ x xs _ (Sl.at RI.up G Ym Ye))<|Zj rfl<|aH ?_
 exact aF rfl (fun D hD=>rfl)
end L7
namespace L7
open C7
theorem aQE{p:Pt}:(p.l== [1,1,1])=lE p:=by
 obtain⟨a,b,c⟩:=p;simp only[lE,Pt.l,Pt.mk.injEq];rw[bAY];simp
theorem aCY{m k i:Nat}(hk:m.testBit k=true)(h1:i≤k)(h:((m >>> i:Nat):Int)%2=0):i+1≤k:=by
 rw[nK]at h;have:i≠k:=by rintro rfl;rw[hk]at h;simp at h
 omega
theorem aLZ{m k i:Nat}(hl:∀i,i<k→m.testBit i=false)(h1:i≤k)(h:¬((m >>> i:Nat):Int)%2=0):i=k:=by
 rw[nK]at h;by_cases hi:i<k
 ·rw[hl i hi]at h;simp at h
 ·omega
theorem o5(r:Int×Int)(n:Int)(D:aC):Fn prog 246 #[lJ r,qI n] D (fun _ v=>v=.bool (iK n r.1 r.2)):=by
 refine enter 11 func246 rfl rfl rfl rfl fun h0=>aA<|Zv rfl (fun O R I G=>Zj rfl<|aK<|Za rfl<|Zh rfl rR rfl<|Zf 0 rfl aI rfl G rfl<|Zh rfl rT rfl<|Zf 1 rfl aI rfl G rfl<|Zc rfl (fun T M=>eN _ _ _ _)<|Zj rfl ?_);refine aH ?_
 exact aF rfl (fun D hD=>rfl)
theorem sM(r:Int×Int)(n:Int)(D:aC):Fn prog 99 #[lJ r,qI n] D (fun _ v=>v=lJ (min r.1 n,max r.2 n)):=by
 refine enter 15 func99 rfl rfl rfl rfl fun h0=>aA<|Zv rfl (fun Y Z V M=>Zw rfl jL rfl (fun q2=>bR<|lR [] 4 [0,1,2,5,6,7,8,3,4,9,10] [false,false,true,true,true,true,true,true,true,false,false] [(false,0),(false,1),(true,2),(true,5),(true,6),(true,7),(true,8),(true,3),(true,4),(false,9),(false,10)] bI (fun _ _ _ h=>iO (P:=prog) (fn:=f99) _ _ _ h) Yf rfl<|Zh rfl rR rfl<|Zf 0 rfl aI rfl M rfl<|Za rfl<|Zh rfl rT rfl<|Zf 1 rfl aI rfl M rfl<|Za rfl ?_));refine tZ rfl rfl rfl rfl bCV<|Zn rfl U25 aL dR rfl (.cons rfl rfl (.cons rfl rfl .nil)) (fun T U O G=>?_)
 have I:=Sl.ofInts (l:=[_,_]) (n:=2) (cap:=2) G rfl Yd Yd;refine Zc rfl (fun D1 R=>lY _ r.1 [n] _ (I.up RI.up (R _ Ye)))<|Zo [qI (min r.1 n),qI (max r.2 n)] rfl P9 jL rfl<|Zu rfl cD (bO.head)<|aH ?_;exact Zl [_] rfl ⟨⟨_,_,_,rfl,Mm0,Or.inr ⟨kL,(by first|exact cD|(simp only[aYU,aN, *];exact cD)),rfl⟩⟩,bCV⟩ (fun D hD=>rfl)
theorem aAI(n m:Int)(b:Nat)(D:aC)(hB:At D b 0 [qI m]):Fn prog 284 #[qI n,qP b] D (fun _ v=>v=.bool (iK n 0 m)):=by
 refine enter 7 func284 rfl rfl rfl rfl fun h0=>aA<|Zj rfl<|aK<|Za rfl<|Zf 0 rfl aI rfl hB rfl<|Zc rfl (fun I G=>eN _ _ _ _)<|Zj rfl<|aH ?_
 exact aF rfl (fun D hD=>rfl)
theorem aDT(p:Pt)(m:Int)(D:aC):Fn prog 238 #[aWW p,qI m] D (fun _ v=>v=.bool (SU p m)):=by
 refine enter 8 func238 rfl rfl rfl rfl fun h0=>aA<|Zv rfl (fun V Y O I=>Zv rfl (fun R Z T M=>Zj rfl<|aK<|aFE rfl U101 aL rfl rfl bCV<|Zao rfl<|Zc rfl (fun D1 G=>N9 _ _ p.l (fun x=>iK x 0 m) _ (Sl.ofInts (l:=p.l) (n:=3) (cap:=3) (I.up (G _ Ye)) rfl Yd Yd) ⟨_,[],[_],rfl,fun x U hl=>aAI x m R U (M.up ((G _ Ye).trans hl))⟩ rfl)<|Zj rfl<|aH ?_))
 exact aF rfl (fun D hD=>rfl)
theorem BN(c:Ch)(D:aC):Fn prog 159 #[aVC c] D (fun _ v=>v=.bool (kO c)):=by
 refine enter 11 func159 rfl rfl rfl rfl fun h0=>aA<|Zv rfl (fun T U M G=>Zj rfl<|aK<|Zh rfl R1 rfl<|Zf 0 rfl aI rfl G rfl<|Zc rfl (fun V O=>eN _ _ _ _)<|Za rfl ?_)
 refine' dM 4 (s:=6) (p:=10) rfl (fun I=>?_) (fun I=>?_) ?_;rotate_left
 ·refine Zi rfl zQ rfl<|dC rfl (k:=1) nD mJ rfl G Yc rfl rfl n3 rfl ⟨_,rfl,rfl⟩<|Zd rfl (fun Y R=>aDT c.parts 2 _)<|Zag rfl ?_;exact aR 3
 ·refine Zk rfl<|Zk rfl<|Zk rfl<|Zah rfl ?_;exact aR 3
 refine Zj rfl<|aH ?_;exact aF rfl (fun D hD=>rfl)
theorem aJP(yv:Value)(y:bQ)(r:Int×Int)(D:aC)(hy:lM D yv y):Fn prog 156 #[yv,lJ r] D (fun _ v=>v=.bool (oS r)):=by
 obtain⟨cv,qv,rfl,hc,hq⟩:=hy;refine enter 20 func156 rfl rfl rfl rfl fun h0=>aA<|Zv rfl (fun U V O R=>Zv rfl (fun Y Z T G=>Zj rfl<|aK<|Zh rfl rR rfl<|Zf 0 rfl aI rfl G rfl<|mL rfl rfl rfl rfl bCV<|Za rfl ?_))
 refine' dM 6 (s:=8) (p:=14) rfl (fun I=>?_) (fun I=>?_) ?_;rotate_left
 ·refine Zi rfl rR rfl<|Zg 0 rfl aI rfl G rfl<|Zi rfl rT rfl<|Zg 1 rfl aI rfl G rfl<|mL rfl rfl rfl rfl ⟨_,rfl,rfl⟩<|Zag rfl ?_;exact aR 5
 ·refine Zk rfl<|Zk rfl<|Zk rfl<|Zk rfl<|Zk rfl<|Zah rfl ?_;exact aR 5
 refine Za rfl ?_;refine' dM 4 (s:=15) (p:=19) rfl (fun M=>?_) (fun M=>?_) ?_;rotate_left
 ·refine Zi rfl rT rfl<|Zg 1 rfl aI rfl G rfl<|mL rfl rfl rfl rfl ⟨_,rfl,rfl⟩<|Zag rfl ?_;exact aR 3
 ·refine Zk rfl<|Zk rfl<|Zk rfl<|Zah rfl ?_;exact aR 3
 refine Zj rfl<|aH ?_;exact aF rfl (fun D hD=>rfl)
theorem vJ(p:Pt)(D:aC):Fn prog 243 #[aWW p] D (fun _ v=>v=.bool (lE p)):=by
 refine enter 6 func243 rfl rfl rfl rfl fun h0=>aA<|Zv rfl (fun M O I G=>Zj rfl<|aK<|dL rfl nD rfl G Yc Yac n3 rfl bCV<|P2 (cs:=[qI 1,qI 1,qI 1]) rfl U101 aL M6 rfl rfl rfl bCV<|OS (l:=p.l) (m:=[1,1,1]) rfl Yf U101 U3 Yf rfl rfl rfl rfl rfl bCV<|Zj rfl<|aH ?_)
 exact aF rfl (fun D hD=>by show Value.bool _=_;rw[aQE])
theorem aBK(m k:Nat)(D:aC)(hk:m.testBit k=true)(I:k≤60)(hl:∀i,i<k→m.testBit i=false):Fn prog 286 #[qI (m:Int)] D (fun _ v=>v=qI (k:Int)):=by
 refine enter 11 func286 rfl rfl rfl rfl fun h0=>aA<|Zj rfl<|bR<|Zar<|bP (γ:=Nat) (fun i=>k-i) (fun i=>i≤k) (fun i=>[(2,qI (i:Int))]) [(0,_)] (fun i=>[D]) 0 Yd ⟨Yb,bCV⟩ ⟨rfl,bCV⟩ (aE) ?_
 rintro i h1;refine dV<|Za rfl<|Za rfl<|u0 rfl rfl rfl Yd rfl bCV<|uU rfl rfl rfl (Int.natCast_nonneg _) Yd (by rw[nK];split<;>simp only[xO]<;>omega) rfl bCV<|Zan rfl<|aG<|Zz rfl (fun G=>?_) (fun G=>?_)
 ·refine aZ<|Zar<|aX<|Za rfl<|Zaa rfl<|Zj rfl<|Zae<|Zat ?_;exact aM 9 (i+1) (aCY hk h1 G) (by have:=aCY hk h1 G;omega) ⟨Yb,bCV⟩ rfl rfl Mm5 (aE)
 ·obtain rfl:=aLZ hl h1 G;refine aT<|Zaq<|Zaq<|Zau<|Zap<|aA<|Za rfl<|Zj rfl<|aH ?_;exact aF rfl (fun D hD=>rfl)
end L7
namespace L7
open C7
def JA(l:List Int):Nat:=(l.filter fun n=>decide (n=2)).length
theorem aOP(l:List Int):JA l≤l.length:=bAS _ _
theorem aRQ(l:List Ch):lI l≤3*l.length:=by
 induction l with
 |nil=>simp[lI]
 |cons c l ih=>
  have:aTW c.parts≤3:=bAS _ _;simp only[lI,aYN,List.sum_cons,aXY]at ih ⊢
  omega
theorem aDG{l:List Ch}{i:Nat}{x:Ch}(hx:l[i]?= some x):((lI (l.take (i+1)):Nat):Int)=((lI (l.take i)+JA (x.parts.l.take 3):Nat):Int):=by
 rw[aYG,hx];simp[lI,aTW,JA,Pt.l]
theorem aOO{x:Ch}{k:Nat}{n:Int}(hx:kO x=true)(hn:x.parts.l[k]?= some n):0≤n∧n≤2:=by
 simp only[kO,aYB,SU,aYL]at hx;have:=hx.2 n (LT hn);simpa [iK]using this
theorem XM{l:List Int}{k u:Nat}{n:Int}(hn:l[k]?= some n)(h:0≤n∧n≤2):((u+JA (l.take (k+1)):Nat):Int)=((u+JA (l.take k):Nat):Int)+n / 2:=by
 rw[aYG,hn];simp only[JA,aZH,bAQ,GT];by_cases h2:n=2
 ·subst h2;simp;omega
 ·simp[h2];omega
theorem aJL{y:bQ}(h:(decide ((7:Int)<y.chairs.length)||decide ((5:Int)<y.claims.length))=true):bB y=3:=by
 simp only[aZT,aYM]at h;unfold bB;rw[aYJ Yd]
theorem HF{y:bQ}(h:(decide ((7:Int)<y.chairs.length)||decide ((5:Int)<y.claims.length))=false):¬(7<y.chairs.length∨5<y.claims.length):=by
 simp only[bAB,aZK]at h;omega
theorem aRO{y:bQ}(h:(decide ((7:Int)<y.chairs.length)||decide ((5:Int)<y.claims.length))=false)(h2:((!iK y.fit 0 9|| !y.chairs.all kO)|| !y.claims.all oS)=true):bB y=1:=by
 unfold bB;rw[aYC (HF h),aYJ]
 revert h2;unfold F9
 generalize iK y.fit 0 9=a,y.chairs.all kO=b,y.claims.all oS=c;cases a<;>cases b<;>cases c<;>decide
theorem RE{y:bQ}(h2:((!iK y.fit 0 9|| !y.chairs.all kO)|| !y.claims.all oS)=false):F9 y=true:=by
 revert h2;unfold F9
 generalize iK y.fit 0 9=a,y.chairs.all kO=b,y.claims.all oS=c;cases a<;>cases b<;>cases c<;>decide
theorem aVS{y:bQ}(h:(decide ((7:Int)<y.chairs.length)||decide ((5:Int)<y.claims.length))=false)(h2:((!iK y.fit 0 9|| !y.chairs.all kO)|| !y.claims.all oS)=false):y.chairs.length≤7∧∀x∈y.chairs,kO x=true:=by
 have h3:=RE h2;simp only[F9,aYB,aYL]at h3;have:=HF h;exact⟨by omega,h3.1.2⟩
theorem aQK{y:bQ}(h:(decide ((7:Int)<y.chairs.length)||decide ((5:Int)<y.claims.length))=false)(h2:((!iK y.fit 0 9|| !y.chairs.all kO)|| !y.claims.all oS)=false)(h3:(8:Int)<lI y.chairs):bB y=3:=by
 unfold bB;rw[aYC (HF h),aYC (by rw[RE h2];simp),aYJ Yd]
theorem aLT{y:bQ}(h:(decide ((7:Int)<y.chairs.length)||decide ((5:Int)<y.claims.length))=false)(h2:((!iK y.fit 0 9|| !y.chairs.all kO)|| !y.claims.all oS)=false)(h3:¬(8:Int)<lI y.chairs):bB y=0:=by
 unfold bB;rw[aYC (HF h),aYC (by rw[RE h2];simp),aYC Yd]
theorem aUZ{p:Pt}{k:Nat}{m:Int}(h:p.l[k]?= some m):([qI p.a,qI p.b,qI p.c]:List Value)[k*1]?= some (qI m):=by
 rw[bAF,show([qI p.a,qI p.b,qI p.c]:List Value)=p.l.map (Value.int .i64)from rfl,aYQ,h];rfl
theorem xE(yv:Value)(y:bQ)(D:aC)(hy:lM D yv y):Fn prog 96 #[yv] D (fun _ v=>v=qI (bB y)):=by
 have T:=hy;obtain⟨cv,qv,rfl,hc,hq⟩:=hy;refine enter 60 func96 rfl rfl rfl rfl fun h0=>aA<|Zv rfl (fun q1 E1 hM G=>Zj rfl<|aK<|Zs rfl jP rfl G iD<|Zao rfl<|Zj rfl<|bR<|Zar<|aA<|Zh rfl eR rfl ?_);refine Zf 0 rfl kC rfl G rfl<|Zab rfl U37 rfl hc rfl<|iH rfl rfl rfl rfl bCV<|Za rfl ?_
 refine' dY 5 (s:=16) (p:=21) rfl (fun U=>?_) (fun U=>?_) ?_;rotate_left
 ·refine Zi rfl iL rfl<|Zg 2 rfl oZ rfl G rfl<|dH rfl U38 rfl hq rfl rfl ⟨_,rfl,rfl⟩<|iH rfl rfl rfl rfl ⟨_,rfl,rfl⟩<|Zah rfl ?_;exact aR 4
 ·refine Zk rfl<|Zk rfl<|Zk rfl<|Zk rfl<|Zag rfl ?_;exact aR 4
 refine Zj rfl<|aG<|aW rfl (fun I=>?_) (fun I=>?_)
 ·refine aA<|Zj rfl<|aH<|Zav<|Zas ?_;exact aF rfl (fun D hD=>by show Value.int _ _=_;rw[aJL I])
 ·refine aA<|Zh rfl sL rfl<|Zf 1 rfl aI rfl G rfl<|Zc rfl (fun D1 hN=>eN _ _ _ _)<|Zak rfl<|Za rfl ?_;refine' dY 5 (s:=27) (p:=32) rfl (fun V=>?_) (fun V=>?_) ?_;rotate_left
  ·refine Zi rfl eR rfl<|Zg 0 rfl kC rfl G rfl<|Zd rfl (fun R Y=>GJ _ _ _ kO _ (Sl.at wB.up Y Ym Ye) (.of fun x R=>BN x R) rfl)<|Zal rfl<|Zah rfl ?_;exact aR 4
  ·refine Zk rfl<|Zk rfl<|Zk rfl<|Zk rfl<|Zag rfl ?_;exact aR 4
  refine Za rfl ?_;refine' dY 6 (s:=33) (p:=39) rfl (fun Z=>?_) (fun Z=>?_) ?_;rotate_left
  ·refine Zi rfl iL rfl<|Zg 2 rfl oZ rfl G rfl<|Zb rfl<|Zd rfl (fun D3 O=>IL _ _ _ oS _ (Sl.at R2.up O Ym Ye) ⟨_,[_],[],rfl,fun r R hl=>aJP _ y r R (T.up ((O _ Ye).trans hl))⟩ rfl)<|Zal rfl<|Zah rfl ?_;exact aR 5
  ·refine Zk rfl<|Zk rfl<|Zk rfl<|Zk rfl<|Zk rfl<|Zag rfl ?_;exact aR 5
  refine Zj rfl<|aG<|aW rfl (fun hc2=>?_) (fun hc2=>?_)
  ·refine aA<|Zj rfl<|aH<|Zav<|Zas ?_;exact aF rfl (fun D hD=>by show Value.int _ _=_;rw[aRO I hc2])
  ·obtain⟨hO,hok⟩:=aVS I hc2;refine cB<|Zat<|Zap<|aA<|Zj rfl<|bW<|Zh rfl eR rfl<|Zf 0 rfl kC rfl G rfl<|Zab rfl U37 rfl hc rfl<|Za rfl<|aG<|Zar ?_;refine bP (γ:=Nat) (fun i=>y.chairs.length-i) (fun i=>i≤y.chairs.length) (fun i=>[(43,qI (i:Int)),(4,qI (lI (y.chairs.take i):Int))]) [(42,_),(41,_),(2,_)] (fun i=>[E1,D]) 0 Yd ⟨Yb,(by simp[lI];rfl),bCV⟩ bA (aE) ?_
   rintro i h1;refine aA<|Zai rfl<|bR<|Zz rfl (fun hB=>?_) (fun hB=>?_)
   ·have hi:i<y.chairs.length:=by omega
    obtain⟨x,hx⟩:=dX y.chairs i;have hxo:=hok x (LT hx);have hub:=aRQ (y.chairs.take i);have hut:(y.chairs.take i).length≤i:=bCF _ _;refine aZ<|aO<|Zar<|aA<|Zx rfl U37 jA rfl hc rfl hx (fun b1 o1 hE hF hK hH=>?_);obtain rfl:hE=[qI _,qI _,qI _,qI _]:=hF;refine Zs rfl I7 rfl hH jA<|Zw rfl zY rfl (fun q2=>Zu rfl jA (bO.head)<|aK<|Zh rfl zQ rfl<|eE rfl nD mJ rfl Mm0 rfl rfl n3 rfl bCV<|Za rfl<|aG<|Zar<|bP (γ:=Nat) (fun k=>3-k) (fun k=>k≤3) (fun k=>[(49,qI (k:Int)),(4,qI ((lI (y.chairs.take i)+JA (x.parts.l.take k):Nat):Int))]) [(48,_),(47,_),(6,_),(46,_),(45,_),(44,_),(43,_),(42,_),(41,_),(2,_)] (fun k=>[E1,D]) 0 Yd ⟨Yb,(by simp[JA];rfl),bCV⟩ bA (aE) ?_)
    rintro k h2;refine aA<|Zai rfl<|bR<|Zz rfl (fun hI=>?_) (fun hI=>?_)
    ·have hR:k<3:=by omega
     obtain⟨n,hn⟩:∃n,x.parts.l[k]?= some n:=⟨_,aXT (by simp[Pt.l];omega)⟩
     have hJ:=aOO hxo hn;have hkl:=aOP (x.parts.l.take k);have hkt:(x.parts.l.take k).length≤k:=bCF _ _;refine aZ<|aO<|Zar<|aA<|m3 (l:=x.parts.l) rfl U101 aI aL rfl rfl Yd Yd hn rfl bCV<|Zj rfl<|aG<|aX<|Za rfl<|Za rfl<|s5 rfl rfl rfl Yd Yd Yg rfl bCV<|Zaa rfl ?_;refine Zj rfl<|Zae<|Zat<|Zap<|aX<|Zaa rfl<|Za rfl<|Zae ?_;exact aM 12 (k+1) Yd Yd ⟨Yb,(by rw[XM hn hJ];rfl),bCV⟩ rfl rfl Mm5 (aE)
    ·obtain rfl:k=3:=by omega
     refine aT<|Zaq<|Zaq<|Zau<|Zat<|Zap<|aX<|Zaa rfl<|Za rfl<|Zae ?_;exact aM 12 (i+1) Yd Yd ⟨Yb,(by rw[aDG hx];rfl),bCV⟩ rfl rfl (List.Sublist.cons _ Mm5) (aE)
   ·obtain rfl:i=y.chairs.length:=by omega
    rw[aZB];refine aT<|Zaq<|Zaq<|Zau<|Zap<|dV<|Za rfl<|iH rfl rfl rfl rfl bCV<|aG<|Zz rfl (fun M=>?_) (fun M=>?_)
    ·refine aA<|Zj rfl<|aH<|Zas ?_;exact aF rfl (fun D hD=>by show Value.int _ _=_;rw[aQK I hc2 M])
    ·refine aZ<|aA<|Zj rfl<|aH ?_;exact aF rfl (fun D hD=>by show Value.int _ _=_;rw[aLT I hc2 M])
end L7
namespace L7
open C7
def EY(p:Pt):Prop:=(0≤p.a∧p.a≤1)∧(0≤p.b∧p.b≤1)∧(0≤p.c∧p.c≤1)
def TY(p q:Pt):Bool:=(!lE p&& !lE q)&&lE ⟨max p.a q.a,max p.b q.b,max p.c q.c⟩
def MM(f:Int)(x z:Ch):Bool:=iK (x.size-z.size) (-f) f
theorem aJJ(p q:Pt)(D:aC)(hp:EY p)(hq:EY q):Fn prog 244 #[aWW p,aWW q] D (fun _ v=>v=.bool (TY p q)):=by
 refine enter 32 func244 rfl rfl rfl rfl fun h0=>aA<|Zv rfl (fun Z E1 R G=>Zv rfl (fun q2 E2 T I=>Zj rfl<|aK<|dL rfl nD rfl G Yc Yac n3 rfl bCV<|Zc rfl (fun D1 U=>vJ p _)<|Zak rfl<|Za rfl ?_))
 refine' dM 4 (s:=8) (p:=12) rfl (fun M=>?_) (fun M=>?_) ?_;rotate_left
 ·refine dL rfl nD rfl I Yc Yac n3 rfl ⟨_,rfl,rfl⟩<|Zd rfl (fun D2 V=>vJ q _)<|Zal rfl<|Zag rfl ?_;exact aR 3
 ·refine Zk rfl<|Zk rfl<|Zk rfl<|Zah rfl ?_;exact aR 3
 refine Za rfl ?_;refine' dM 18 (s:=13) (p:=31) rfl (fun O=>?_) (fun O=>?_) ?_;rotate_left
 ·refine eJ rfl U101 aL rfl rfl Yad Yad rfl ⟨_,rfl,rfl⟩<|jH rfl aI rfl G Ye rfl n3 rfl ⟨_,rfl,rfl⟩<|eJ rfl U101 aL rfl rfl Yad Yad rfl ⟨_,rfl,rfl⟩<|jH rfl aI rfl I Ye rfl n3 rfl ⟨_,rfl,rfl⟩<|PJ rfl rfl rfl hp.1 hq.1 rfl ⟨_,rfl,rfl⟩<|eJ rfl U101 aL rfl rfl Yad Yad rfl ⟨_,rfl,rfl⟩<|jH rfl aI rfl G Ye rfl n3 rfl ⟨_,rfl,rfl⟩<|eJ rfl U101 aL rfl rfl Yad Yad rfl ⟨_,rfl,rfl⟩<|jH rfl aI rfl I Ye rfl n3 rfl ⟨_,rfl,rfl⟩<|PJ rfl rfl rfl hp.2.1 hq.2.1 rfl ⟨_,rfl,rfl⟩<|eJ rfl U101 aL rfl rfl Yad Yad rfl ⟨_,rfl,rfl⟩<|jH rfl aI rfl G Ye rfl n3 rfl ⟨_,rfl,rfl⟩ ?_;refine eJ rfl U101 aL rfl rfl Yad Yad rfl ⟨_,rfl,rfl⟩<|jH rfl aI rfl I Ye rfl n3 rfl ⟨_,rfl,rfl⟩<|PJ rfl rfl rfl hp.2.2 hq.2.2 rfl ⟨_,rfl,rfl⟩<|P2 (cs:=[qI (max p.a q.a),qI (max p.b q.b),qI (max p.c q.c)]) rfl U101 aL M6 rfl rfl rfl ⟨_,rfl,rfl⟩<|Zd rfl (fun D3 Y=>vJ ⟨max p.a q.a,max p.b q.b,max p.c q.c⟩ _)<|Zag rfl ?_;exact aR 17
 ·refine Zk rfl<|Zk rfl<|Zk rfl<|Zk rfl<|Zk rfl<|Zk rfl<|Zk rfl<|Zk rfl<|Zk rfl<|Zk rfl<|Zk rfl<|Zk rfl ?_;refine Zk rfl<|Zk rfl<|Zk rfl<|Zk rfl<|Zk rfl<|Zah rfl ?_;exact aR 17
 refine Zj rfl<|aH ?_;exact aF rfl (fun D hD=>rfl)
theorem b6(yv:Value)(y:bQ)(a b:Nat)(x z:Ch)(D:aC)(hy:lM D yv y)(hf:0≤y.fit∧y.fit≤9)(hx:y.chairs[a]?= some x)(hz:y.chairs[b]?= some z)(hxs:0≤x.size∧x.size≤9)(hzs:0≤z.size∧z.size≤9):Fn prog 103 #[yv,qI (a:Int),qI (b:Int)] D (fun _ v=>v=.bool (MM y.fit x z)):=by
 obtain⟨cv,qv,rfl,hc,hq⟩:=hy;refine enter 26 func103 rfl rfl rfl rfl fun h0=>aA<|Zv rfl (fun q1 E1 Z G=>Zj rfl<|bR<|bM [] 6 20 257988<|Zh rfl eR rfl<|Zf 0 rfl kC rfl G rfl<|Za rfl<|Zx rfl U37 jA rfl hc rfl hx (fun b1 o1 I M V O=>?_))
 obtain rfl:I=[qI _,qI _,qI _,qI _]:=M;refine Zh rfl R1 rfl<|Zf 0 rfl aI rfl O rfl<|Zh rfl eR rfl<|Zf 0 rfl kC rfl G rfl<|Za rfl<|Zx rfl U37 jA rfl hc rfl hz (fun b2 o2 R T Y U=>?_);obtain rfl:R=[qI _,qI _,qI _,qI _]:=T;refine Zh rfl R1 rfl<|Zf 0 rfl aI rfl U rfl<|hU rfl rfl rfl Yg rfl bCV<|Zh rfl sL rfl<|Zf 1 rfl aI rfl G rfl<|aQQ rfl rfl Yg rfl bCV<|Zh rfl sL rfl<|Zf 1 rfl aI rfl G rfl<|Zc rfl (fun D1 hB=>eN _ _ _ _)<|Zj rfl<|aH ?_;exact aF rfl (fun D hD=>rfl)
end L7
end Go.Fs
