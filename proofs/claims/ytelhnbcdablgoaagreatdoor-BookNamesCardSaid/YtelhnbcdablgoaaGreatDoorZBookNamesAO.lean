/- Of the proof of BookNames: BW53, BW34, BW35, BW47, Conv, LitB, BW54. -/
import Derived.Test.YtelhnbcdablgoaaGreatDoorZBookNamesAN
import Derived.Lib.ConvBytes
import Derived.Lib.SlBytesConst
namespace Go.Fs
open Go.Proofs Tryz
namespace L12
open C12 Go.Lib
theorem SE(a b:Int)(D:aC):Fn prog 106 #[.agg #[qI a,qI b]] D (fun _ v=>v=.agg #[qI a,qI b]):=by
 refine enter 8 func106 rfl rfl rfl rfl fun h0=>aA<|Zv rfl (fun M O I G=>Zw rfl gJ rfl (fun R=>aK<|Zh rfl aBH rfl<|Zf 0 rfl aI rfl G rfl<|Zh rfl WY rfl<|Zf 1 rfl aI rfl G rfl<|Zo [qI a,qI b] rfl yT gJ rfl<|Zu rfl cE (bO.head)<|aH ?_))
 exact Zl [_] rfl ⟨⟨_,_,_,rfl,Mm0,aXR ⟨kB,(by first|exact cE|(simp only[aYU,aN, *];exact cE)),rfl⟩⟩,bCV⟩ (fun D hD=>rfl)
theorem DI(sv:Value)(xs:List Int)(D:aC)(hS:Sl D RI 1 sv xs)(hl:xs.length≤10000000):Fn prog 104 #[sv] D (fun D' v=>Sl D' RI 1 v xs):=by
 refine enter 5 func104 rfl rfl rfl rfl fun h0=>aA<|Zj rfl<|aK<|Za rfl<|bE (A:=[]) (ν:=[]) (B:=[]) rfl U25 rfl rfl aL dR rfl nV rfl rfl rfl bZ.nil (mK.ints hS) Ye Ye rfl (dF _) Yd (aYF rfl) rfl bCV (fun M ν1 G=>Zj rfl<|aH ?_)
 have I:bZ 3 1 M xs.length (ints xs) ν1:=by simpa using G
 refine gR (A:=[]) (B:=[]) I rfl (fun R O hF=>?_);exact aF rfl (fun D' hD=>(hF.ints rfl Yd).up RI.up (hD _ Ye))
theorem CY(sv:Value)(xs:List Int)(D:aC)(hS:Sl D RI 1 sv xs)(hl:xs.length≤10000000):Fn prog 105 #[sv] D (fun D' v=>Sl D' RI 1 v xs):=by
 refine enter 6 func105 rfl rfl rfl rfl fun h0=>aA<|Zj rfl<|aK<|Zn rfl U25 aL dR rfl .nil (fun R T G I=>Za rfl<|bE (A:=[]) (ν:=[]) (B:=[]) rfl U25 rfl rfl aL dR rfl nV rfl rfl rfl bZ.nil (mK.ints hS) Ye Ye rfl (dF _) Yd (aYF rfl) rfl bCV (fun U ν1 M=>Zj rfl<|aH ?_))
 have O:bZ 3 1 U xs.length (ints xs) ν1:=by simpa using M
 refine gR (A:=[]) (B:=[]) O rfl (fun Y V hF=>?_);exact aF rfl (fun D' hD=>(hF.ints rfl Yd).up RI.up (hD _ Ye))
theorem aGT(rv:Value)(r:C1.eC)(D:aC)(hr:nX D rv r)(h1:r.places.length≤100)(h2:r.counts=[]):Fn prog 54 #[rv] D (fun D' v=>nX D' v r):=by
 obtain⟨pv,cv,rfl,hp,hc⟩:=hr;refine enter 39 func54 rfl rfl rfl rfl fun h0=>aA<|Zv rfl (fun Z T U I=>Zw rfl j0 rfl (fun q2=>bR<|lC [] 3 [false,false,true,true,true,true,true,false,true,false] [.fork [0,1,3,4,5,6] 2 (.fin [7,8]) 8 (.fin [2,7]),.fin [9]] bI (fun _ _ _ h=>iO (P:=prog) (fn:=f54) _ _ _ h) Yf<|oJ<|bL [(false,0),(false,1),(true,3),(true,4),(true,5),(true,6)] rfl<|Zh rfl aGV rfl<|Zf 0 rfl dS rfl I rfl<|Zh rfl aJQ rfl<|Zf 2 rfl aI rfl I rfl ?_));refine Zh rfl aIM rfl<|Zf 3 rfl aI rfl I rfl<|Zae (dP true true rfl rfl ?_ ?_)
 ·refine Zt rfl (fun R M=>DI _ r.places _ (hp.up RI.up (M _ Ye)) Yd) (fun V R M O=>?_);obtain⟨va,vc,rfl⟩:=O.shape;refine Zae<|aS [(false,7),(true,8)] rfl<|Zo [.slice va r.places.length vc,qN,qI r.wrong,qI r.off] rfl aIW j0 rfl<|Zw rfl j0 rfl (fun Y=>Zae<|kQ [(false,9)] rfl<|aV rfl rfl rfl rfl fX Ya Ya (bO.head) Yj bCV<|Zae<|kU<|Zap<|dV<|Zj rfl ?_);refine aG<|Zar<|bP (γ:=Nat) (fun k=>0) (fun k=>k=0) (fun k=>[(4,qI (k:Int))]) [(3,_),(2,_),(1,_)] (fun k=>[R,T,D]) 0 rfl ⟨Yb,bCV⟩ bA (aE) ?_;rintro k rfl;refine dV<|Za rfl<|Zh rfl MA rfl<|Zf 1 rfl aBX rfl I rfl<|Zab rfl U70 rfl hc rfl<|Zai rfl<|aG<|Zz rfl (fun G=>?_) (fun G=>?_)
  ·simp only[h2,aYW]at G;exact absurd G Yd
  ·refine aT<|Zaq<|Zaq<|Zau<|Zap<|aA<|Zy rfl iW rfl Mm0 fX<|aV rfl rfl rfl rfl fX Ya Ya (.tail (bO.head)) Yj bCV<|aH ?_;exact Zl [_] rfl ⟨⟨_,_,_,rfl,Mm1,Or.inr ⟨iW,fX,rfl⟩⟩,bCV⟩ (fun D' hD=>⟨_,_,rfl,O.up RI.up (hD _ Ye),by rw[h2];exact Sl.nil⟩)
 ·refine Zw rfl j0 rfl (fun Y=>Zae<|aS [(true,2),(false,7)] rfl<|Zt rfl (fun R M=>DI _ r.places _ (hp.up RI.up (M _ Ye)) Yd) (fun V R M O=>?_));obtain⟨va,vc,rfl⟩:=O.shape;refine Zo [.slice va r.places.length vc,qN,qI r.wrong,qI r.off] rfl aIW j0 rfl<|Zae<|kQ [(false,9)] rfl<|aV rfl rfl rfl rfl fX Ya Ya (bO.head) Yj bCV<|Zae<|kU<|Zap<|dV<|Zj rfl<|aG<|Zar<|bP (γ:=Nat) (fun k=>0) (fun k=>k=0) (fun k=>[(4,qI (k:Int))]) [(3,_),(2,_),(1,_)] (fun k=>[R,T,D]) 0 rfl ⟨Yb,bCV⟩ bA (aE) ?_;rintro k rfl;refine dV<|Za rfl<|Zh rfl MA rfl<|Zf 1 rfl aBX rfl I rfl<|Zab rfl U70 rfl hc rfl<|Zai rfl<|aG<|Zz rfl (fun G=>?_) (fun G=>?_)
  ·simp only[h2,aYW]at G;exact absurd G Yd
  ·refine aT<|Zaq<|Zaq<|Zau<|Zap<|aA<|Zy rfl iW rfl Mm0 fX<|aV rfl rfl rfl rfl fX Ya Ya (.tail (bO.head)) Yj bCV<|aH ?_;exact Zl [_] rfl ⟨⟨_,_,_,rfl,Mm1,Or.inr ⟨iW,fX,rfl⟩⟩,bCV⟩ (fun D' hD=>⟨_,_,rfl,O.up RI.up (hD _ Ye),by rw[h2];exact Sl.nil⟩)
theorem QD(tv:Value)(t:C2.bD)(D:aC)(ht:hG D tv t)(h1:t.heights.length≤100)(h2:t.levels.length≤100)(h3:t.marks=[]):Fn prog 55 #[tv] D (fun D' v=>hG D' v t):=by
 obtain⟨hv,lv,mv,rfl,hh,hl,hm⟩:=ht;refine enter 59 func55 rfl rfl rfl rfl fun h0=>aA<|Zv rfl (fun q1 E1 hR G=>Zw rfl AM rfl (fun q2=>bR<|lC [] 3 [false,false,true,true,true,true,true,false,true,false] [.fork [0,1,2,3,4,5] 6 (.fin [7,8]) 8 (.fin [6,7]),.fin [9]] bI (fun _ _ _ h=>iO (P:=prog) (fn:=f55) _ _ _ h) Yf<|oJ<|bL [(false,0),(false,1),(true,2),(true,3),(true,4),(true,5)] rfl<|Zh rfl aCB rfl<|Zf 0 rfl aI rfl G rfl<|Zh rfl aGH rfl<|Zf 2 rfl aI rfl G rfl ?_));refine Zh rfl aFS rfl<|Zf 3 rfl dS rfl G rfl<|Zae (dP true true rfl rfl ?_ ?_)
 ·refine Zt rfl (fun V O=>CY _ t.levels _ (hl.up RI.up (O _ Ye)) Yd) (fun v1 V O R=>?_);obtain⟨va,vc,rfl⟩:=R.shape;refine Zae<|aS [(false,7),(true,8)] rfl<|Zo [qI t.last,qN,qI t.step,.slice va t.levels.length vc,qN] rfl aFN AM rfl<|Zw rfl AM rfl (fun q3=>Zae<|kQ [(false,9)] rfl<|aV rfl rfl rfl rfl eW Ya Ya (bO.head) Yj bCV<|Zae<|kU<|Zap<|dV<|Zj rfl ?_);refine aG<|Zar<|dB (γ:=Nat×Value×aD) (fun g=>t.heights.length-g.1) (fun g=>g.1≤t.heights.length∧bZ 99 2 g.2.1 g.1 ((t.heights.take g.1).flatMap cP) g.2.2) (fun g=>[(4,qI (g.1:Int))]) [(3,_),(2,_),(1,_)] (fun g=>(q3,qC [qI t.last,g.2.1,qI t.step,.slice va t.levels.length vc,qN] 32)::(q2,qC [qI 0,qN,qI 0,qN,qN] 32)::(g.2.2++[])) (fun g=>[V,E1,D]) (0,qN,[]) ⟨by simp,by simpa using bZ.nil⟩ ⟨Yb,bCV⟩ bA Mm5 (aE) ?_;rintro⟨k,w1,ν⟩ ⟨T,ha⟩;simp only at T ha;refine dV<|Za rfl<|Zh rfl Q4 rfl<|Zf 1 rfl GH rfl G rfl<|Zab rfl U73 rfl hh rfl<|Zai rfl<|aG<|Zz rfl (fun Y=>?_) (fun Y=>?_)
  ·have hk:k<t.heights.length:=by omega
   obtain⟨x,hx⟩:=dX t.heights k;refine aZ<|aO<|Zar<|bM [] 5 12 508<|Zh rfl fA rfl<|Zp rfl lX rfl Mm0 rfl<|Zh rfl Q4 rfl<|Zf 1 rfl GH rfl G rfl<|Za rfl<|Zx rfl U73 L9 rfl hh rfl hx (fun b1 o1 Z hB hJ hE=>?_);have e1:Z=_:=hB;subst e1;refine Zs rfl VG rfl hE L9<|Zc rfl (fun D2 hN=>SE x.1 x.2 _)<|Zn rfl U29 cE gJ rfl (.cons rfl rfl .nil) (fun hK hM hF I=>bE (A:=[(_,_),(_,_)]) (B:=[]) rfl U29 rfl rfl cE gJ rfl AK rfl rfl rfl ha (mK.lit I) Ye rfl (by rw[bS (n:=2) (fun _=>rfl),aZJ,bBH Yd]) Yj Yd (aYF rfl) rfl bCV (fun v7 ν7 M=>?_));have hH:bZ 99 2 v7 (k+1) ((t.heights.take (k+1)).flatMap cP) ν7:=by rw[aYG,hx,aZH,aYP];exact M
   refine Zh rfl fA rfl<|bJ rfl rfl rfl M.cells1 l7 (bO.head) Ye rfl M.cell1 bCV<|Zae<|Zat<|Zap<|aX<|Za rfl<|Zaa rfl<|Zj rfl<|Zae ?_;exact aM 20 (k+1,v7,ν7) ⟨by simp only;omega,hH⟩ Yo ⟨Yb,bCV⟩ rfl rfl Mm5 (fun D h=>⟨D,aYK _ (h),Le.refl D⟩)
  ·obtain rfl:k=t.heights.length:=by omega
   rw[aZB]at ha;refine aT<|Zaq<|Zaq<|Zau<|Zap<|aO<|aO<|sH (A:=[(_,_),(_,_)]) (B:=[]) ha rfl (fun D8 hO hI=>?_);clear T;have hcz:Sl D8 C8 2 w1 t.heights:=kF (f:=cP) (fun _ _=>rfl) (fun _=>rfl) hI Yd;have U:=hcz.cell1;clear ha;refine aX<|Zj rfl<|aG<|Zar<|bP (γ:=Nat) (fun k=>0) (fun k=>k=0) (fun k=>[(5,qI (k:Int))]) [(3,_),(2,_),(1,_)] (fun k=>[D8,V,E1,D]) 0 rfl ⟨Yb,bCV⟩ bA (aE) ?_;rintro k rfl;refine dV<|Za rfl<|Zh rfl JH rfl<|Zf 4 rfl aCW rfl G rfl<|Zab rfl U74 rfl hm rfl<|Zai rfl<|aG<|Zz rfl (fun hc2=>?_) (fun hc2=>?_)
   ·simp only[h3,aYW]at hc2;exact absurd hc2 Yd
   ·refine aT<|Zaq<|Zaq<|Zau<|Zap<|aA<|Zy rfl gY rfl Mm0 eW<|aV rfl rfl rfl rfl eW Ya Ya (.tail (bO.head)) (by simp[cell1];exact U _ Ye) bCV<|aH ?_;exact Zl [_] rfl ⟨⟨_,_,_,rfl,Mm1,Or.inr ⟨gY,eW,rfl⟩⟩,bCV⟩ (fun D' hD=>⟨w1,_,_,rfl,hcz.up C8.up (hD _ Ye),R.up RI.up (hD _ Ye),by rw[h3];exact Sl.nil⟩)
 ·refine Zw rfl AM rfl (fun q3=>Zae<|aS [(true,6),(false,7)] rfl<|Zt rfl (fun V O=>CY _ t.levels _ (hl.up RI.up (O _ Ye)) Yd) (fun v1 V O R=>?_));obtain⟨va,vc,rfl⟩:=R.shape;refine Zo [qI t.last,qN,qI t.step,.slice va t.levels.length vc,qN] rfl aFN AM rfl<|Zae<|kQ [(false,9)] rfl<|aV rfl rfl rfl rfl eW Ya Ya (bO.head) Yj bCV<|Zae<|kU<|Zap<|dV<|Zj rfl<|aG<|Zar<|dB (γ:=Nat×Value×aD) (fun g=>t.heights.length-g.1) (fun g=>g.1≤t.heights.length∧bZ 99 2 g.2.1 g.1 ((t.heights.take g.1).flatMap cP) g.2.2) (fun g=>[(4,qI (g.1:Int))]) [(3,_),(2,_),(1,_)] (fun g=>(q3,qC [qI t.last,g.2.1,qI t.step,.slice va t.levels.length vc,qN] 32)::(q2,qC [qI 0,qN,qI 0,qN,qN] 32)::(g.2.2++[])) (fun g=>[V,E1,D]) (0,qN,[]) ⟨by simp,by simpa using bZ.nil⟩ ⟨Yb,bCV⟩ bA Mm5 (aE) ?_;rintro⟨k,w1,ν⟩ ⟨T,ha⟩;simp only at T ha;refine dV<|Za rfl<|Zh rfl Q4 rfl<|Zf 1 rfl GH rfl G rfl<|Zab rfl U73 rfl hh rfl<|Zai rfl<|aG<|Zz rfl (fun Y=>?_) (fun Y=>?_)
  ·have hk:k<t.heights.length:=by omega
   obtain⟨x,hx⟩:=dX t.heights k;refine aZ<|aO<|Zar<|bM [] 5 12 508<|Zh rfl fA rfl<|Zp rfl lX rfl Mm0 rfl<|Zh rfl Q4 rfl<|Zf 1 rfl GH rfl G rfl<|Za rfl<|Zx rfl U73 L9 rfl hh rfl hx (fun b1 o1 Z hB hJ hE=>?_);have e1:Z=_:=hB;subst e1;refine Zs rfl VG rfl hE L9<|Zc rfl (fun D2 hN=>SE x.1 x.2 _)<|Zn rfl U29 cE gJ rfl (.cons rfl rfl .nil) (fun hK hM hF I=>bE (A:=[(_,_),(_,_)]) (B:=[]) rfl U29 rfl rfl cE gJ rfl AK rfl rfl rfl ha (mK.lit I) Ye rfl (by rw[bS (n:=2) (fun _=>rfl),aZJ,bBH Yd]) Yj Yd (aYF rfl) rfl bCV (fun v7 ν7 M=>?_));have hH:bZ 99 2 v7 (k+1) ((t.heights.take (k+1)).flatMap cP) ν7:=by rw[aYG,hx,aZH,aYP];exact M
   refine Zh rfl fA rfl<|bJ rfl rfl rfl M.cells1 l7 (bO.head) Ye rfl M.cell1 bCV<|Zae<|Zat<|Zap<|aX<|Za rfl<|Zaa rfl<|Zj rfl<|Zae ?_;exact aM 20 (k+1,v7,ν7) ⟨by simp only;omega,hH⟩ Yo ⟨Yb,bCV⟩ rfl rfl Mm5 (fun D h=>⟨D,aYK _ (h),Le.refl D⟩)
  ·obtain rfl:k=t.heights.length:=by omega
   rw[aZB]at ha;refine aT<|Zaq<|Zaq<|Zau<|Zap<|aO<|aO<|sH (A:=[(_,_),(_,_)]) (B:=[]) ha rfl (fun D8 hO hI=>?_);clear T;have hcz:Sl D8 C8 2 w1 t.heights:=kF (f:=cP) (fun _ _=>rfl) (fun _=>rfl) hI Yd;have U:=hcz.cell1;clear ha;refine aX<|Zj rfl<|aG<|Zar<|bP (γ:=Nat) (fun k=>0) (fun k=>k=0) (fun k=>[(5,qI (k:Int))]) [(3,_),(2,_),(1,_)] (fun k=>[D8,V,E1,D]) 0 rfl ⟨Yb,bCV⟩ bA (aE) ?_;rintro k rfl;refine dV<|Za rfl<|Zh rfl JH rfl<|Zf 4 rfl aCW rfl G rfl<|Zab rfl U74 rfl hm rfl<|Zai rfl<|aG<|Zz rfl (fun hc2=>?_) (fun hc2=>?_)
   ·simp only[h3,aYW]at hc2;exact absurd hc2 Yd
   ·refine aT<|Zaq<|Zaq<|Zau<|Zap<|aA<|Zy rfl gY rfl Mm0 eW<|aV rfl rfl rfl rfl eW Ya Ya (.tail (bO.head)) (by simp[cell1];exact U _ Ye) bCV<|aH ?_;exact Zl [_] rfl ⟨⟨_,_,_,rfl,Mm1,Or.inr ⟨gY,eW,rfl⟩⟩,bCV⟩ (fun D' hD=>⟨w1,_,_,rfl,hcz.up C8.up (hD _ Ye),R.up RI.up (hD _ Ye),by rw[h3];exact Sl.nil⟩)
theorem m7(sv:Value)(xs:List C3.gM)(D:aC)(hS:Sl D oB 3 sv xs)(h1:xs=[]):Fn prog 107 #[sv] D (fun D' v=>Sl D' oB 3 v xs):=by
 refine enter 31 func107 rfl rfl rfl rfl fun h0=>aA<|Zj rfl<|aK<|Zj rfl<|bW<|Zj rfl<|aG<|Zar<|bP (γ:=Nat) (fun k=>0) (fun k=>k=0) (fun k=>[(4,qI (k:Int))]) [(3,_),(2,_),(0,_)] (fun k=>[D]) 0 rfl ⟨Yb,bCV⟩ bA (aE) ?_
 rintro k rfl;refine dV<|Za rfl<|Za rfl<|Zab rfl U77 rfl hS rfl<|Zai rfl<|aG<|Zz rfl (fun G=>?_) (fun G=>?_)
 ·simp only[h1,aYW]at G;exact absurd G Yd
 ·refine aT<|Zaq<|Zaq<|Zau<|Zap<|aA<|Za rfl<|Zj rfl<|aH ?_;exact aF rfl (fun D' hD=>by rw[h1];exact Sl.nil)
theorem XT(bv:Value)(b:C3.bG)(D:aC)(hb:fY D bv b)(h1:b.lines=[])(h2:b.counts=[]):Fn prog 56 #[bv] D (fun D' v=>fY D' v b):=by
 obtain⟨lv,cv,rfl,hl,hc⟩:=hb;refine enter 42 func56 rfl rfl rfl rfl fun h0=>aA<|Zv rfl (fun Z T U I=>Zw rfl H4 rfl (fun q2=>bR<|lC [] 3 [false,false,true,true,true,true,true,true,true,false,true,false] [.fork [0,1,2,3,4,5,6,7] 8 (.fin [9,10]) 10 (.fin [8,9]),.fin [11]] bI (fun _ _ _ h=>iO (P:=prog) (fn:=f56) _ _ _ h) Yf<|oJ<|bL [(false,0),(false,1),(true,2),(true,3),(true,4),(true,5),(true,6),(true,7)] rfl<|Zh rfl aBS rfl<|Zf 0 rfl aI rfl I rfl<|Zh rfl aEM rfl<|Zf 1 rfl aI rfl I rfl ?_));refine Zh rfl aCC rfl<|Zf 2 rfl aI rfl I rfl<|Zh rfl aFW rfl<|Zf 3 rfl aTZ rfl I rfl<|Zae (dP true true rfl rfl ?_ ?_)
 ·refine Zt rfl (fun R M=>m7 _ b.lines _ (hl.up oB.up (M _ Ye)) h1) (fun V R M O=>?_);obtain⟨va,vc,rfl⟩:=O.shape;refine Zae<|aS [(false,9),(true,10)] rfl<|Zo [qI b.chairs,qI b.coin,qI b.box,.slice va b.lines.length vc,qN] rfl aFQ H4 rfl<|Zw rfl H4 rfl (fun Y=>Zae<|kQ [(false,11)] rfl<|aV rfl rfl rfl rfl dO Ya Ya (bO.head) Yj bCV<|Zae<|kU<|Zap<|dV<|Zj rfl ?_);refine aG<|Zar<|bP (γ:=Nat) (fun k=>0) (fun k=>k=0) (fun k=>[(4,qI (k:Int))]) [(3,_),(2,_),(1,_)] (fun k=>[R,T,D]) 0 rfl ⟨Yb,bCV⟩ bA (aE) ?_;rintro k rfl;refine dV<|Za rfl<|Zh rfl IV rfl<|Zf 4 rfl aIH rfl I rfl<|Zab rfl U78 rfl hc rfl<|Zai rfl<|aG<|Zz rfl (fun G=>?_) (fun G=>?_)
  ·simp only[h2,aYW]at G;exact absurd G Yd
  ·refine aT<|Zaq<|Zaq<|Zau<|Zap<|aA<|Zy rfl eL rfl Mm0 dO<|aV rfl rfl rfl rfl dO Ya Ya (.tail (bO.head)) Yj bCV<|aH ?_;exact Zl [_] rfl ⟨⟨_,_,_,rfl,Mm1,Or.inr ⟨eL,dO,rfl⟩⟩,bCV⟩ (fun D' hD=>⟨_,_,rfl,O.up oB.up (hD _ Ye),by rw[h2];exact Sl.nil⟩)
 ·refine Zw rfl H4 rfl (fun Y=>Zae<|aS [(true,8),(false,9)] rfl<|Zt rfl (fun R M=>m7 _ b.lines _ (hl.up oB.up (M _ Ye)) h1) (fun V R M O=>?_));obtain⟨va,vc,rfl⟩:=O.shape;refine Zo [qI b.chairs,qI b.coin,qI b.box,.slice va b.lines.length vc,qN] rfl aFQ H4 rfl<|Zae<|kQ [(false,11)] rfl<|aV rfl rfl rfl rfl dO Ya Ya (bO.head) Yj bCV<|Zae<|kU<|Zap<|dV<|Zj rfl<|aG<|Zar<|bP (γ:=Nat) (fun k=>0) (fun k=>k=0) (fun k=>[(4,qI (k:Int))]) [(3,_),(2,_),(1,_)] (fun k=>[R,T,D]) 0 rfl ⟨Yb,bCV⟩ bA (aE) ?_;rintro k rfl;refine dV<|Za rfl<|Zh rfl IV rfl<|Zf 4 rfl aIH rfl I rfl<|Zab rfl U78 rfl hc rfl<|Zai rfl<|aG<|Zz rfl (fun G=>?_) (fun G=>?_)
  ·simp only[h2,aYW]at G;exact absurd G Yd
  ·refine aT<|Zaq<|Zaq<|Zau<|Zap<|aA<|Zy rfl eL rfl Mm0 dO<|aV rfl rfl rfl rfl dO Ya Ya (.tail (bO.head)) Yj bCV<|aH ?_;exact Zl [_] rfl ⟨⟨_,_,_,rfl,Mm1,Or.inr ⟨eL,dO,rfl⟩⟩,bCV⟩ (fun D' hD=>⟨_,_,rfl,O.up oB.up (hD _ Ye),by rw[h2];exact Sl.nil⟩)
theorem YS(yv:Value)(y:C7.bQ)(D:aC)(hy:lM D yv y)(h1:y.chairs=[])(h2:y.claims=[]):Fn prog 57 #[yv] D (fun D' v=>lM D' v y):=by
 obtain⟨cv,qv,rfl,hc,hq⟩:=hy;refine enter 53 func57 rfl rfl rfl rfl fun h0=>aA<|Zv rfl (fun R M O G=>Zw rfl NZ rfl (fun T=>aK<|Zh rfl aCE rfl<|Zf 1 rfl aI rfl G rfl<|Zo [qN,qI y.fit,qN] rfl aUU NZ rfl<|Zw rfl NZ rfl (fun U=>aV rfl rfl rfl rfl iD Ya Ya (bO.head) Yj bCV<|bW<|Zj rfl ?_)));refine aG<|Zar<|bP (γ:=Nat) (fun k=>0) (fun k=>k=0) (fun k=>[(4,qI (k:Int))]) [(3,_),(2,_),(1,_)] (fun k=>[M,D]) 0 rfl ⟨Yb,bCV⟩ bA (aE) ?_
 rintro k rfl;refine dV<|Za rfl<|Zh rfl aGO rfl<|Zf 0 rfl aSA rfl G rfl<|Zab rfl U81 rfl hc rfl<|Zai rfl<|aG<|Zz rfl (fun I=>?_) (fun I=>?_)
 ·simp only[h1,aYW]at I;exact absurd I Yd
 ·refine aT<|Zaq<|Zaq<|Zau<|Zap<|dV<|Zj rfl<|aG<|Zar<|bP (γ:=Nat) (fun k=>0) (fun k=>k=0) (fun k=>[(5,qI (k:Int))]) [(3,_),(2,_),(1,_)] (fun k=>[M,D]) 0 rfl ⟨Yb,bCV⟩ bA (aE) ?_;rintro k rfl;refine dV<|Za rfl<|Zh rfl aCT rfl<|Zf 2 rfl aSD rfl G rfl<|Zab rfl U82 rfl hq rfl<|Zai rfl<|aG<|Zz rfl (fun hc2=>?_) (fun hc2=>?_)
  ·simp only[h2,aYW]at hc2;exact absurd hc2 Yd
  ·refine aT<|Zaq<|Zaq<|Zau<|Zap<|aA<|Zy rfl jP rfl Mm0 iD<|aV rfl rfl rfl rfl iD Ya Ya (.tail (bO.head)) Yj bCV<|aH ?_;exact Zl [_] rfl ⟨⟨_,_,_,rfl,Mm1,Or.inr ⟨jP,iD,rfl⟩⟩,bCV⟩ (fun D' hD=>⟨_,_,rfl,by rw[h1];exact Sl.nil,by rw[h2];exact Sl.nil⟩)
theorem XZ(D:aC):Fn prog 25 #[] D (fun D' v=>fN D' v H1):=by
 refine enter 17 func25 rfl rfl rfl rfl fun h0=>aA<|Zw rfl aCN rfl (fun q1=>aK<|Zw rfl aCN rfl (fun q2=>aK<|Zn rfl U25 aL dR rfl (.cons rfl rfl (.cons rfl rfl (.cons rfl rfl (.cons rfl rfl .nil)))) (fun O Y U G=>?_)))
 have I:=Sl.ofInts (l:=[_,_,_,_]) (n:=4) (cap:=4) G rfl Yd Yd;refine Zo [qS O 4 4,qN,qI 0,qI 1] rfl aUQ aRX rfl<|Zh rfl JD rfl<|Zm rfl PW (bO.head) rfl<|aK<|Zo [qI 5,qI 5] rfl d4 N3 rfl<|Zo [qI 5,qI 5] rfl d4 N3 rfl<|Zo [qI 5,qI 5] rfl d4 N3 rfl<|Zo [qI 5,qI 5] rfl d4 N3 rfl<|Zn rfl U73 L9 N3 rfl (.cons rfl rfl (.cons rfl rfl (.cons rfl rfl (.cons rfl rfl .nil)))) (fun T Z V M=>Zo [qI 3,qS T 4 4,qI 5,qN,qN] rfl aVA aTX rfl<|Zh rfl KL rfl<|Zm rfl QO (bO.head) rfl ?_);refine aK<|Zo [qI 3,qI 5,qI 20,qN,qN] rfl aTA aTI rfl<|Zh rfl LA rfl<|Zm rfl QI (bO.head) rfl<|aK<|Zo [qN,qI 1,qN] rfl aSS aTP rfl<|Zh rfl KU rfl<|Zm rfl QJ (bO.head) rfl<|aK<|Zy rfl aFL rfl Mm0 RG<|aV rfl rfl rfl rfl RG Ya Ya (.tail (bO.head)) Yj bCV<|aH ?_;exact Zl [_] rfl ⟨⟨_,_,_,rfl,Mm1,Or.inr ⟨aFL,RG,rfl⟩⟩,bCV⟩ (fun D' hD=>⟨_,_,_,_,_,_,_,_,_,rfl,⟨I.up RI.up (hD _ Ye),Sl.nil,(kF (f:=cP) (R:=C8) (xs:=[(5,5),(5,5),(5,5),(5,5)]) (fun _ _=>rfl) (fun _=>rfl) (aXR ⟨_,4,rfl,by decide,M⟩) Yad).up C8.up (hD _ Ye),Sl.nil,Sl.nil,Sl.nil,Sl.nil,Sl.nil,Sl.nil⟩⟩)
theorem PP(sv:Value)(s:aQ)(D:aC)(hs:fN D sv s)(h1:s.row.places.length≤100)(h2:s.table.heights.length≤100)(h3:s.table.levels.length≤100)(e1:s.row.counts=[])(e2:s.table.marks=[])(e3:s.book.lines=[])(e4:s.book.counts=[])(e5:s.yard.chairs=[])(e6:s.yard.claims=[]):Fn prog 24 #[sv] D (fun D' v=>fN D' v s):=by
 obtain⟨pv,cv,hv,lv,mv,bl,bc,yc,yq,rfl,hL⟩:=hs;unfold cR;refine enter 16 func24 rfl rfl rfl rfl fun h0=>aA<|Zv rfl (fun q1 E1 rB G=>Zw rfl lB rfl (fun q2=>bR<|lR [] 5 [0,1,3,4,6,7,9,10,2,5,8,11,12,13] [false,false,true,true,true,true,true,true,true,true,true,false,false,false] [(false,0),(false,1),(true,3),(true,4),(true,6),(true,7),(true,9),(true,10),(true,2),(true,5),(true,8),(false,11),(false,12),(false,13)] bI (fun _ _ _ h=>iO (P:=prog) (fn:=f24) _ _ _ h) Yf rfl<|Zh rfl JD rfl<|dC rfl (k:=0) aTJ PW rfl G Yc rfl rfl n3 rfl bCV<|Zh rfl KL rfl<|dC rfl (k:=4) aTV QO rfl G Yc rfl rfl n3 rfl bCV<|Zh rfl LA rfl<|dC rfl (k:=9) aSE QI rfl G Yc rfl rfl n3 rfl bCV ?_));refine Zh rfl KU rfl<|dC rfl (k:=14) aTB QJ rfl G Yc rfl rfl n3 rfl bCV<|Zt rfl (fun D1 U=>aGT _ s.row _ (hL.row.up (U _ Ye)) h1 e1) (fun v1 D1 U hH=>?_)
 obtain⟨hI,hJ,rfl,I,hc2⟩:=hH;refine Zt rfl (fun D2 V=>QD _ s.table _ (hL.table.up (V _ Ye)) h2 h3 e2) (fun v2 D2 V I=>?_);obtain⟨hK,hM,hN,rfl,Y,Z,hB⟩:=I;refine Zt rfl (fun D3 hE=>XT _ s.book _ (hL.book.up (hE _ Ye)) e3 e4) (fun v3 D3 hE hO=>?_);obtain⟨hR,hS,rfl,M,O⟩:=hO;refine Zt rfl (fun D4 hF=>YS _ s.yard _ (hL.yard.up (hF _ Ye)) e5 e6) (fun v4 D4 hF hX=>?_);obtain⟨hY,rA,rfl,R,T⟩:=hX;refine jB (cs:=[hI,hJ,qI s.row.wrong,qI s.row.off,qI s.table.last,hK,qI s.table.step,hM,hN,qI s.book.chairs,qI s.book.coin,qI s.book.box,hR,hS,hY,qI s.yard.fit,rA]) rfl aDV lB rfl Yf rfl bCV<|aV rfl rfl rfl rfl dK Ya Ya (bO.head) (by simp[cell1];exact⟨I.cell1 _ Ye,hc2.cell1 _ Ye,Y.cell1 _ Ye,Z.cell1 _ Ye,hB.cell1 _ Ye,M.cell1 _ Ye,O.cell1 _ Ye,R.cell1 _ Ye,T.cell1 _ Ye⟩) bCV<|aH ?_
 exact Zl [_] rfl ⟨⟨_,_,_,rfl,Mm0,aXR ⟨iU,dK,rfl⟩⟩,bCV⟩ (fun D' hD=>⟨_,_,_,_,_,_,_,_,_,rfl,⟨I.up RI.up (hD _ Ye),hc2.up RC.up (hD _ Ye),Y.up C8.up (hD _ Ye),Z.up RI.up (hD _ Ye),hB.up IM.up (hD _ Ye),M.up oB.up (hD _ Ye),O.up uN.up (hD _ Ye),R.up wB.up (hD _ Ye),T.up R2.up (hD _ Ye)⟩⟩)
end L12
open Go.Proofs
namespace L12
open C12
end L12
namespace L12
open C12 Go.Lib
theorem aWL{D:aC}{b:Nat}{x:UInt8}{v:Value}(hA:At D b 0 ([v]++[]))(hv:v=.int .u8 (x.toNat:Int)):Sl D RU 1 (qS b 1 1) [x]:=by
 refine⟨_,_,rfl,aYI _,by simp,aXR ⟨b,0,rfl,fun i y hi=>⟨_,rfl,rfl,fun j u hj=>?_⟩⟩⟩;obtain rfl:i=0:=by have:=(aXZ.1 hi).1;simpa using this
 obtain rfl:x=y:=by simpa using hi
 cases j with
 |zero=>
  obtain rfl:Value.int .u8 x.toNat=u:=by simpa using hj
  have:=hA 0 v rfl;rw[hv]at this;simpa using this
 |succ j=>simp at hj
theorem aLY{n:Int}(h0:0≤n)(h1:n≤9):Value.int .u8 (48+n)=.int .u8 ((UInt8.ofNat (48+n.toNat)).toNat:Int):=by
 rw[UInt8.toNat_ofNat'];congr 1;omega
theorem OB{n:Int}(h0:0≤n)(h1:n≤9):qQ (itoa n)=⟨#[UInt8.ofNat (48+n.toNat)]⟩:=by
 obtain⟨m,rfl⟩:=Int.eq_ofNat_of_zero_le h0;have key:((List.range 10).all fun m=>itoa (m:Int)== [UInt8.ofNat (48+m)])=true:=by decide+kernel
 have:=aYL.1 key m (bAR.2 Yd);rw[eq_of_beq this];rfl
theorem zG{n:Int}(h0:0≤n)(h1:n≤9):(qQ (itoa n)).size=1:=by rw[OB h0 h1];rfl
theorem N8(n:Int)(I:0≤n)(M:n≤9)(D:aC):Fn prog 64 #[qI n] D (fun _ v=>v=.string (qQ (itoa n))):=by
 refine enter 19 func64 rfl rfl rfl rfl fun h0=>aA<|Zj rfl<|bW<|Za rfl<|Zai rfl<|aG<|Zz rfl (fun O=>?_) (fun O=>?_)
 ·omega
 ·refine aZ<|dV<|Za rfl<|Zai rfl<|aG<|Zz rfl (fun hc2=>?_) (fun hc2=>?_)
  ·refine aA<|Za rfl<|Zaa rfl<|O0 rfl U3 U5 rfl Yg rfl bCV<|Zn rfl U51 gN CB rfl (.cons rfl rfl .nil) (fun T U R G=>?_)
   skip
   refine qZ (l:=[UInt8.ofNat (48+n.toNat)]) rfl U51 U5 U9 rfl (aWL G (aLY I M)) Ye (fun _ _ _ _ _=>n3) rfl bCV<|Zj rfl<|aH<|Zas ?_;exact aF rfl (fun D hD=>by show Value.string _=_;rw[OB I M])
  ·omega
end L12
namespace L12
open C12 Go.Lib
def uA:Nat→Nat→List UInt8
 |_,0=>[]
 |n,k+1=>uA (n / 10) k++[UInt8.ofNat (48+n%10)]
theorem MK:∀(k n:Nat),(uA n k).length=k
 |0,_=>rfl
 |k+1,n=>by rw[uA,GT,MK k];rfl
theorem rW(k n:Nat):(qQ (uA n k)).size=k:=by rw[uQ,MK]
theorem Q5{n:Int}(h:0≤n){k:Nat}:qQ (uA (n / 10).toNat k)++qQ (itoa (n%10))=qQ (uA n.toNat (k+1)):=by
 obtain⟨m,rfl⟩:=Int.eq_ofNat_of_zero_le h;rw[OB Yd Yd,uA,show((m:Int) / 10).toNat=(m:Int).toNat / 10 by omega,show((m:Int)%10).toNat=(m:Int).toNat%10 by omega];apply Go.WideShapes.bytes_inj;simp[qQ]
theorem aJN{i:Nat}{s:ByteArray}:((((qQ (uA ((s.size:Nat):Int).toNat 2)++⟨#[59]⟩)++s)++⟨#[59]⟩)++qQ (uA ((lV i s.data.toList:Nat):Int).toNat 4))++⟨#[10]⟩=qQ (mF i s.data.toList):=by
 apply Go.WideShapes.bytes_inj;simp[qQ,mF,vW,uA,wC,Nat.div_div_eq_div_mul]
theorem BU(i:Nat)(s:ByteArray):(qQ (mF i s.data.toList)).size=9+s.size:=by rw[uQ,nW];rfl
theorem XS{ls:List ByteArray}{k:Nat}{x:ByteArray}(h:ls[k]?= some x):qQ (oU ((iP ls).take k))++qQ (mF k x.data.toList)=qQ (oU ((iP ls).take (k+1))):=by
 rw[y9 (y1 h)];apply Go.WideShapes.bytes_inj;simp[qQ]
theorem s6{ls:List ByteArray}(k:Nat)(hn:ls.length≤100)(hsz:∀x∈ls,x.size≤50):(qQ (oU ((iP ls).take k))).size≤6000:=by
 have h:=xG ((iP ls).take k) 0 50 (fun l hl=>by
  obtain⟨x,hx,rfl⟩:=n4.1 (bBZ hl);exact hsz x hx)
 rw[uQ];refine bAM h ?_;rw[aZJ,q9];omega
theorem aKI(n:Int)(_hz0:0≤n)(_hz1:n≤1000000)(D:aC):Fn prog 69 #[qI n,qI 0] D (fun _ v=>v=.string (qQ (uA n.toNat 0))):=by
 refine enter 16 func69 rfl rfl rfl rfl fun h0=>aA<|Zj rfl<|bW<|Za rfl<|Zan rfl<|aG<|Zz rfl (fun G=>?_) (fun G=>?_)
 ·refine aA<|Zj rfl<|aH<|Zas ?_;exact aF rfl (fun D hD=>rfl)
 ·exact(G rfl).elim
theorem aKC(n:Int)(I:0≤n)(M:n≤1000000)(D:aC):Fn prog 69 #[qI n,qI 1] D (fun _ v=>v=.string (qQ (uA n.toNat 1))):=by
 refine enter 16 func69 rfl rfl rfl rfl fun h0=>aA<|Zj rfl<|bW<|Za rfl<|Zan rfl<|aG<|Zz rfl (fun G=>?_) (fun G=>?_)
 ·exact absurd G Yad
 ·have T:=zG (n:=n%10) Yd Yd;have z2:(qQ (uA (n / 10).toNat 0)).size=0:=rW _ _;refine aZ<|aA<|Za rfl<|s5 rfl rfl rfl Yd Yd Yg rfl bCV<|Za rfl<|hU rfl rfl rfl Yg rfl bCV<|Zc rfl (fun U O=>aKI (n / 10) Yd Yd _)<|Za rfl<|uU rfl rfl rfl Yd Yd Yg rfl bCV<|Zc rfl (fun V R=>N8 (n%10) Yd Yd _)<|fI rfl rfl rfl Yd rfl bCV<|Zj rfl ?_;refine aH ?_;exact aF rfl (fun D hD=>by show Value.string _=_;rw[Q5 I])
theorem VW(n:Int)(I:0≤n)(M:n≤1000000)(D:aC):Fn prog 69 #[qI n,qI 2] D (fun _ v=>v=.string (qQ (uA n.toNat 2))):=by
 refine enter 16 func69 rfl rfl rfl rfl fun h0=>aA<|Zj rfl<|bW<|Za rfl<|Zan rfl<|aG<|Zz rfl (fun G=>?_) (fun G=>?_)
 ·exact absurd G Yad
 ·have T:=zG (n:=n%10) Yd Yd;have z2:(qQ (uA (n / 10).toNat 1)).size=1:=rW _ _;refine aZ<|aA<|Za rfl<|s5 rfl rfl rfl Yd Yd Yg rfl bCV<|Za rfl<|hU rfl rfl rfl Yg rfl bCV<|Zc rfl (fun U O=>aKC (n / 10) Yd Yd _)<|Za rfl<|uU rfl rfl rfl Yd Yd Yg rfl bCV<|Zc rfl (fun V R=>N8 (n%10) Yd Yd _)<|fI rfl rfl rfl Yd rfl bCV<|Zj rfl ?_;refine aH ?_;exact aF rfl (fun D hD=>by show Value.string _=_;rw[Q5 I])
theorem aNR(n:Int)(I:0≤n)(M:n≤1000000)(D:aC):Fn prog 69 #[qI n,qI 3] D (fun _ v=>v=.string (qQ (uA n.toNat 3))):=by
 refine enter 16 func69 rfl rfl rfl rfl fun h0=>aA<|Zj rfl<|bW<|Za rfl<|Zan rfl<|aG<|Zz rfl (fun G=>?_) (fun G=>?_)
 ·exact absurd G Yad
 ·have T:=zG (n:=n%10) Yd Yd;have z2:(qQ (uA (n / 10).toNat 2)).size=2:=rW _ _;refine aZ<|aA<|Za rfl<|s5 rfl rfl rfl Yd Yd Yg rfl bCV<|Za rfl<|hU rfl rfl rfl Yg rfl bCV<|Zc rfl (fun U O=>VW (n / 10) Yd Yd _)<|Za rfl<|uU rfl rfl rfl Yd Yd Yg rfl bCV<|Zc rfl (fun V R=>N8 (n%10) Yd Yd _)<|fI rfl rfl rfl Yd rfl bCV<|Zj rfl ?_;refine aH ?_;exact aF rfl (fun D hD=>by show Value.string _=_;rw[Q5 I])
theorem aOS(n:Int)(I:0≤n)(M:n≤1000000)(D:aC):Fn prog 69 #[qI n,qI 4] D (fun _ v=>v=.string (qQ (uA n.toNat 4))):=by
 refine enter 16 func69 rfl rfl rfl rfl fun h0=>aA<|Zj rfl<|bW<|Za rfl<|Zan rfl<|aG<|Zz rfl (fun G=>?_) (fun G=>?_)
 ·exact absurd G Yad
 ·have T:=zG (n:=n%10) Yd Yd;have z2:(qQ (uA (n / 10).toNat 3)).size=3:=rW _ _;refine aZ<|aA<|Za rfl<|s5 rfl rfl rfl Yd Yd Yg rfl bCV<|Za rfl<|hU rfl rfl rfl Yg rfl bCV<|Zc rfl (fun U O=>aNR (n / 10) Yd Yd _)<|Za rfl<|uU rfl rfl rfl Yd Yd Yg rfl bCV<|Zc rfl (fun V R=>N8 (n%10) Yd Yd _)<|fI rfl rfl rfl Yd rfl bCV<|Zj rfl ?_;refine aH ?_;exact aF rfl (fun D hD=>by show Value.string _=_;rw[Q5 I])
theorem aBG(i:Nat)(s:ByteArray)(hi:i≤100000)(hs:s.size≤1000)(D:aC):Fn prog 70 #[qI (i:Int),.string s] D (fun _ v=>v=qI ((lV i s.data.toList:Nat):Int)):=by
 refine enter 28 func70 rfl rfl rfl rfl fun h0=>aA<|Zj rfl<|aK<|Za rfl<|Zaa rfl<|N7 rfl rfl rfl Yg rfl bCV<|Zj rfl<|bW<|Zj rfl<|aG<|Zar ?_;refine bP (γ:=Nat) (fun k=>s.size-k) (fun k=>k≤s.size) (fun k=>[(6,qI (k:Int)),(5,qI ((37*(i+1)+yR 0 (s.data.toList.take k):Nat):Int))]) [(4,_),(1,_)] (fun k=>[D]) 0 Yd ⟨Yb,(by show some (Value.int _ _)=some (Value.int _ _);congr 2),bCV⟩ bA (aE) ?_
 rintro k hI;refine dV<|Za rfl<|Za rfl<|lN rfl U9 rfl rfl rfl bCV<|Zai rfl<|aG<|Zz rfl (fun G=>?_) (fun G=>?_)
 ·have hk:k<s.size:=by omega
  obtain⟨b,hb⟩:∃b,s.data.toList[k]?= some b:=⟨_,aXT (by simpa using hk)⟩
  have I:=b.toNat_lt;refine aZ<|aO<|Zar<|aX<|Za rfl<|Za rfl<|N7 rfl rfl rfl Yg rfl bCV<|Zaa rfl<|Za rfl<|Za rfl<|u9 rfl U9 rfl rfl Yd (by rw[aZN];exact SA hb) rfl bCV<|O0 rfl U5 U3 rfl Yg rfl bCV ?_;refine N7 rfl rfl rfl (by have:=i6 hb hs;simp only[xO];omega) rfl bCV<|B4 rfl rfl rfl (by have:=i6 hb hs;have:=HO (s:=s) (k:=k) hs;simp only[xO];omega) rfl bCV<|Zj rfl<|Zae<|Zat<|Zap<|aX<|Za rfl<|Zaa rfl<|Zj rfl<|Zae ?_
  exact aM 20 (k+1) Yd Yd ⟨(by rw[show((k:Int)+1)=((k+1:Nat):Int) by omega];rfl),Ya3,bCV⟩ rfl rfl Mm5 (aE)
 ·obtain rfl:k=s.size:=by omega
  have htk:s.data.toList.take s.size=s.data.toList:=aYO (show s.data.toList.length≤s.size by simp);have hsm:=HO (s:=s) (k:=s.size) hs;rw[htk]at hsm ⊢
  refine aT<|Zaq<|Zaq<|Zau<|Zap<|aA<|Za rfl<|uU rfl rfl rfl Yd Yd Yg rfl bCV<|Zj rfl<|aH ?_;exact aF rfl (fun D hD=>by show Value.int _ _=_;congr 1)
theorem QF(i:Nat)(s:ByteArray)(hi:i≤100000)(hs:s.size≤99)(D:aC):Fn prog 39 #[qI (i:Int),.string s] D (fun _ v=>v=.string (qQ (mF i s.data.toList))):=by
 have hck:=CE i s.data.toList;have O:(qQ (uA ((s.size:Nat):Int).toNat 2)).size=2:=rW _ _;have z2:(qQ (uA ((lV i s.data.toList:Nat):Int).toNat 4)).size=4:=rW _ _;have z3:(⟨#[59]⟩:ByteArray).size=1:=rfl;have z4:(⟨#[10]⟩:ByteArray).size=1:=rfl;refine enter 18 func39 rfl rfl rfl rfl fun h0=>aA<|Zj rfl<|aK<|Za rfl<|lN rfl U9 rfl rfl rfl bCV<|Zc rfl (fun R G=>VW ((s.size:Nat):Int) Yd Yd _)<|fI rfl rfl rfl Yan rfl bCV<|Za rfl<|fI rfl rfl rfl Yan rfl bCV<|fI rfl rfl rfl Yan rfl bCV<|Za rfl ?_;refine Za rfl<|Zc rfl (fun T I=>aBG i s hi Yd _)<|Zc rfl (fun U M=>aOS ((lV i s.data.toList:Nat):Int) Yd Yd _)<|fI rfl rfl rfl Yan rfl bCV<|fI rfl rfl rfl Yan rfl bCV<|Zj rfl<|aH ?_
 exact aF rfl (fun D hD=>by show Value.string _=_;rw[aJN])
theorem aEA(lv:Value)(ls:List ByteArray)(D:aC)(hS:Sl D RS 1 lv ls)(hn:ls.length≤100)(hsz:∀x∈ls,x.size≤50):Fn prog 19 #[lv] D (fun _ v=>v=.string (qQ (oU (iP ls)))):=by
 refine enter 20 func19 rfl rfl rfl rfl fun h0=>aA<|Zj rfl<|aK<|Zj rfl<|bW<|Zj rfl<|aG<|Zar<|bP (γ:=Nat) (fun k=>ls.length-k) (fun k=>k≤ls.length) (fun k=>[(4,qI (k:Int)),(3,.string (qQ (oU ((iP ls).take k))))]) [(2,_),(0,_)] (fun k=>[D]) 0 Ye ⟨Yb,Yb,bCV⟩ bA (aE) ?_
 rintro k h1;refine dV<|Za rfl<|Za rfl<|Zab rfl U22 rfl hS rfl<|Zai rfl<|aG<|Zz rfl (fun G=>?_) (fun G=>?_)
 ·have hk:k<ls.length:=by omega
  obtain⟨x,hx⟩:=dX ls k;have R:=hsz x (LT hx);have hfz:=s6 k hn hsz;have hrz:=BU k x;refine aZ<|aO<|Zar<|aX<|Za rfl<|Za rfl<|Za rfl<|Za rfl<|Zx rfl U22 jC rfl hS rfl hx (fun V o1 I M T O=>?_);obtain rfl:I=[.string _]:=M;refine Zf 0 rfl I9 rfl O rfl<|Zc rfl (fun Y U=>QF k x Yd Yd _)<|fI rfl rfl rfl Yan rfl bCV<|Zj rfl<|Zae<|Zat<|Zap<|aX<|Za rfl<|Zaa rfl<|Zj rfl<|Zae ?_;exact aM 18 (k+1) Yd Yd ⟨(by rw[show((k:Int)+1)=((k+1:Nat):Int) by omega];rfl),(by show some (Value.string _)=some (Value.string _);rw[XS hx]),bCV⟩ rfl rfl Mm5 (aE)
 ·obtain rfl:k=ls.length:=by omega
  refine aT<|Zaq<|Zaq<|Zau<|Zap<|aA<|Za rfl<|Zj rfl<|aH ?_;exact aF rfl (fun D hD=>by show Value.string _=_;rw[aYO (by rw[q9];exact aYI _)])
end L12
open Go.Lib
variable{P:Program}{X:Cx}{γb:Type}[Membership Nat γb]{bad:γb}{all:Array Oper}{K:Act→World→Prop}{Q:Exit→Act→World→Prop}
variable{σ:cG}{μ:aD}{Ds:List aC}{os:List (Bool×Nat)}{fl:Bool}{ix:Nat}
variable{d:Nat}{x y z:Operand}{u v:Value}{ty:TypeId}{pos:String}{aft:Array Edge}{g:Option (Nat×Bool)}
theorem hP.pushW{h0:H0}{lo:Nat}{D0 D:aC}{mods:List Nat}{μ:aD}{w w':World}(h:hP h0 lo D0 mods μ D w)(vs:List Value){e:TypeId}{fz:Nat×Nat}(hold:∀b,b<w.heap.size→w'.heap[b]?= w.heap[b]?)(hnew:w'.heap[w.heap.size]?= some (.cells vs.toArray e fz))(hsz:w'.heap.size=w.heap.size+1)(henv:BG w'=BG w):
  ∃D',Le D D'∧D' w.heap.size=vs∧(∀b,b≠w.heap.size→D' b=D b)∧hP h0 lo D0 mods μ D' w':=by
 have hf:=h.agr.fresh (aYI w.heap.size);refine⟨fun b=>if b=w.heap.size then vs else D b,⟨fun b=>?_,by simp only[show(0:Nat)≠w.heap.size by have:=h.agr.pos;omega,aZW]⟩,by simp,(fun b hb=>by simp[hb]),?_⟩
 ·by_cases hb:b=w.heap.size
  ·subst hb;rw[hf];exact bCD
  ·simp[hb]
 ·have hle:=bAM h.hlo h.size;refine⟨h.hlo,by have:=h.size;omega,fun b hb hm=>?_,fun b hb=>?_,h.agr.of (fun b hb=>?_) (by simp only[show(0:Nat)≠w.heap.size by have:=h.agr.pos;omega,aZW]) (hold 0 h.agr.pos),fun p hp=>?_,h.nd,h.fz,fun e he=>henv.trans (h.env e he)⟩
  ·rw[hold b (bAC hb hle)];exact h.old b hb hm
  ·have hne:b≠w.heap.size:=by omega
   simp only[hne,aZW];exact h.dold b hb
  ·by_cases he:b=w.heap.size
   ·subst he;exact⟨vs.toArray,e,fz,hnew,by simp⟩
   ·simp only[he,aZW]at hb ⊢
    obtain⟨cs,e',fz',hc,hp⟩:=h.agr.1 b hb;exact⟨cs,e',fz',by rw[hold b (bK hc)];exact hc,hp⟩
  ·obtain⟨h1,h2,h3⟩:=h.box p hp;have hl:=bK h1;refine⟨by rw[hold p.1 hl];exact h1,?_,h3⟩
   have hne:p.1≠w.heap.size:=by omega
   simp only[hne,aZW];exact h2
theorem m6:∀{is:List Nat},(∀i∈is,i<all.size)→is.map (fun i=>all[i]?)=(gH all (is.map fun i=>(false,i))).map fun o=>some o.2
 | [],_=>rfl
 |i::is,h=>by
  obtain⟨o,hi⟩:∃o,all[i]?= some o:=⟨_,bBB (h i aXW)⟩
  rw[aYN,aYN,sS hi,aYN,hi,m6 fun j hj=>h j (LE _ hj)]
variable{P:Program}{X:Cx}{Q:Exit→Act→World→Prop}{σ:cG}{μ:aD}{Ds:List aC}
theorem aJU{t e:TypeId}{n rid G T:Nat}{parts:Array (Nat×Operand)}{us:List (Nat×Value)}{l:List UInt8}{z0:Value}{ops:Array Oper}{I O:TypeId}{p0 Y:String}{a0 Z:Array Edge}
  (h0:ops[0]?= some ⟨some G,.buildSlice t n parts,I,p0,a0,none⟩) (h1:ops[1]?= some ⟨some T,.convert t t (.tmp G),O,Y,Z,none⟩) (ht:P.underlying t=some (.slice e)) (he:P.underlying e=some (.int .u8)) (hs:TS P e 1) (hz:TZ P e z0)
  (hu:u7 σ parts.toList=some us) (hn:us.length=n) (hnz:Nat.ble n 4096=true) (hf:FC 1 0 us (bc l)) (R:Nat.blt G X.N=true) (U:Nat.blt T X.N=true)
  (kk:∀v D,(∀D₁∈Ds,Le D₁ D)→Sl D RU 1 v l→WL P X [] ops (fun a w=>Q .normal a w) Q (((List.range ops.size).drop 2).map fun i=>(false,i)) ((T,v)::(G,v)::σ) μ (D::Ds)):WC P X Q (.region rid ops false) σ μ Ds:=by
 intro a w hh;have hsz:2≤ops.size:=by have:=(bAH.1 h1).1;omega
 have er:List.range ops.size=0::1::(List.range ops.size).drop 2:=by
  obtain⟨k,hk⟩:∃k,ops.size=k+2:=⟨ops.size-2,by omega⟩
  rw[hk,List.range_succ_eq_map,List.range_succ_eq_map];rfl
 refine wpIn_region ?_;rw[er];obtain⟨k1,k2,k3,D,h4,h5,h6⟩:=id hh;have hnz':n≤4096:=aZC hnz;have hlen:(bc l).length=n*1:=by rw[hf.len,hn]
 have hll:l.length=n:=by rw[lA]at hlen;omega
 have e1:(parts.map fun(i,x)=>(i,a.eval x)).toList=us:=by rw[←vY (fun _ _ hx=>hh.eval hx) hu];simp
 have hrun:(execOp a.eval ⟨some G,.buildSlice t n parts,I,p0,a0,none⟩).run P w=.ok (.value (.slice (some ⟨w.heap.size,0,none⟩) n n)) (w.alloc (.cells (bc l).toArray e)):=by
  simp only[execOp,Instr.buildSlice,Sem.run_bind,TU.of ht w,Result.andThen_ok,hs w];rw[aYC Yd];simp only[pure_bind];have key:∀zc:Array Value,Instr.fill (fun i=>some (i*1,1)) ((Array.range (n*1)).map (zc[· %zc.size]!)) us=some (bc l).toArray:=by
   intro zc;have:=CV hf [] ((Array.range (n*1)).map (zc[· %zc.size]!)).toList Ye (by simp[hlen]);rw[aYT,aYT]at this;exact this
  split
  ·simp only[Sem.run_bind,Sem.run_pure,Result.andThen_ok,e1,key,iC];rfl
  ·simp only[Sem.run_bind,Sem.run_pure,Result.andThen_ok,hz w,e1,key,iC];rfl
 rw[wpOpsIn_cons];unfold wpOpIn;simp only[h0];rw[aYJ (hh.wanted (o:=⟨some G,.buildSlice t n parts,I,p0,a0,none⟩) bCV)];refine⟨fun _ _=>trivial,?_⟩;rw[wA rfl,hrun];show wpOpsIn (FW X.r) 0 P ops Q (1::(List.range ops.size).drop 2) (a.put (some G) _) _;have hd0:G<a.tmps.size:=by rw[k1];simpa [bCU]using R
 have V:(a.put (some G) (.slice (some ⟨w.heap.size,0,none⟩) n n)).eval (.tmp G)=.slice (some ⟨w.heap.size,0,none⟩) n n:=by
  show(a.put (some G) _).tmps.getD G undef=_;rw[aZE];show((a.tmps.setIfInBounds G _)[G]?).getD undef=_;rw[bCK hd0];rfl
 have M:(execOp (a.put (some G) (.slice (some ⟨w.heap.size,0,none⟩) n n)).eval ⟨some T,.convert t t (.tmp G),O,Y,Z,none⟩).run P (w.alloc (.cells (bc l).toArray e))=.ok (.value (.slice (some ⟨w.heap.size,0,none⟩) n n)) (w.alloc (.cells (bc l).toArray e ((bc l).toArray.size,(bc l).toArray.size+1))):=by
  simp only[execOp,V];rw[Sem.run_bind,Go.Lib.run_convert_bytes_const w t e _ n n ht he];rfl
 rw[wpOpsIn_cons];unfold wpOpIn;simp only[h1];rw[aYJ Yav];refine⟨fun _ _=>trivial,?_⟩;rw[wA rfl,M];obtain⟨D',hle,hD',hDo,hs'⟩:=h4.pushW (e:=e) (fz:=((bc l).toArray.size,(bc l).toArray.size+1)) (w':=w.alloc (.cells (bc l).toArray e ((bc l).toArray.size,(bc l).toArray.size+1))) (bc l) (fun b hb=>by show(w.heap.push _)[b]?= _;rw[Array.getElem?_push,aYC Yd]) (by show(w.heap.push _)[w.heap.size]?= _;rw[Array.getElem?_push,aYJ rfl]) (by show(w.heap.push _).size=_;simp) rfl
 have hA:At D' w.heap.size 0 (bc l):=fun j v hj=>by rw[hD',bAL];exact hj
 have hS:Sl D' RU 1 (.slice (some ⟨w.heap.size,0,none⟩) n n) l:=
  Sl.of_at hA hll (aYI _) Yd fun i b hb=>⟨[.int .u8 b.toNat],rfl,rfl,by
   have h:=aCO hb;have hl:=(aXZ.1 h).1;rw[bAF,aZO hl];rw[aXT hl]at h;rw[List.take_succ_cons,List.take_zero,aYS h]⟩
 have hv:∀i∈(List.range ops.size).drop 2,i<ops.size:=fun i hi=>bAR.1 (List.mem_of_mem_drop hi)
 refine zE (fun _ _ h=>h) _ _ (m6 hv) _ _ (kk _ D' (fun D₁ hD₁=>(h5 D₁ hD₁).trans hle) hS _ _ (Hl.put (Hl.put ⟨k1,k2,k3,D',hs',fun D₁ hD₁=>?_,h6.step (fun _ p hp=>aYF (n4.2 ⟨p,hp,rfl⟩)) (fun _=>⟨by show _≤(w.heap.push _).size;simp,fun b hb _=>⟨by show(w.heap.push _)[b]?= _;rw[Array.getElem?_push,aYC Yd],hDo b Yd⟩,rfl⟩) hs'.dom⟩ R _) U _));rcases GE.1 hD₁ with rfl|hD₁
 ·exact Le.refl _
 ·exact(h5 D₁ hD₁).trans hle
namespace L12
open C12 Go.Lib
def l3:List ByteArray:=[(⟨#[112,108,97,99,101]⟩:ByteArray),⟨#[112,108,97,99,101]⟩,⟨#[112,108,97,99,101]⟩,⟨#[115,101,101,110,32,57,32,48]⟩,⟨#[115,101,101,110,32,48,32,51]⟩,⟨#[99,111,117,110,116,32,56,32,49]⟩,⟨#[117,110,99,111,117,110,116,32,50]⟩,⟨#[119,114,111,110,103,32,55]⟩,⟨#[111,102,102,32,49,48]⟩,⟨#[116,105,100,101,32,52,32,49,32,49]⟩,⟨#[116,105,100,101,32,48,32,53,32,56]⟩,⟨#[115,116,101,112,32,48]⟩,⟨#[109,97,114,107,32,51,32,51,32,57,32,57]⟩,⟨#[109,97,114,107,32,50,32,49,32,48,32,57]⟩,⟨#[104,105,114,101,32,51,32,48]⟩,⟨#[115,109,117,100,103,101,32,49]⟩,⟨#[115,116,114,105,107,101,32,57]⟩,⟨#[112,97,114,116,32,48,32,51,32,49]⟩,⟨#[112,97,114,116,32,48,32,48,32,51]⟩,⟨#[99,108,97,105,109,32,51,32,50]⟩,⟨#[99,108,97,105,109,32,50,32,51]⟩,⟨#[102,105,116,32,49,48]⟩,⟨#[108,101,118,101,108,32,48,53]⟩,⟨#[108,101,118,101,108]⟩]
def AP:List ByteArray:=[(⟨#[104,105,114,101,32,49,32,48]⟩:ByteArray)]
def qT:List ByteArray:=[(⟨#[115,116,101,112,32,54]⟩:ByteArray),⟨#[98]⟩]
def aQP:List ByteArray:=[(⟨#[97]⟩:ByteArray),⟨#[115,116,101,112,32,54]⟩]
def S9:List ByteArray:=List.replicate 41 ⟨#[]⟩
def aWJ:List UInt8:=[48,49,59,97,59,48,49,51,52,10,114,101,115,116]
def aIP:List UInt8:=[48,49,59,97,59,48,49,51,52,10,48,49,59,97,59,48,49,51,53,10]
theorem aBY:LC (aP (wG++AP)).1:=⟨by decide+kernel,by decide+kernel,by decide+kernel,by decide+kernel,by decide+kernel,by decide+kernel,by decide+kernel,by decide+kernel,by decide+kernel,by decide+kernel,by decide+kernel⟩
theorem aPP:LC (aP []).1:=⟨by decide+kernel,by decide+kernel,by decide+kernel,by decide+kernel,by decide+kernel,by decide+kernel,by decide+kernel,by decide+kernel,by decide+kernel,by decide+kernel,by decide+kernel⟩
theorem DT{s:ByteArray}(h:s.size=51):(aP [s]).2.2=3:=by
 have hf:fP [s]=3:=MX (k:=0) rfl Yd;rw[tD (by rw[hf];decide),hf]
theorem LP{s:ByteArray}(h:s.size=51):(wP [s]).2=3:=by
 have:=DT h;unfold wP;rw[aYC Yd,this]
theorem GC(D:aC)(hV:mY D):Fn prog 5 #[] D (fun _ v=>v=.bool true):=by
 refine enter 168 func5 rfl rfl rfl rfl fun h0=>aA<|Zj rfl<|aK<|Zn rfl U22 jC tf_z9 rfl (.cons rfl rfl (.cons rfl rfl (.cons rfl rfl (.cons rfl rfl (.cons rfl rfl (.cons rfl rfl (.cons rfl rfl (.cons rfl rfl (.cons rfl rfl (.cons rfl rfl (.cons rfl rfl (.cons rfl rfl (.cons rfl rfl (.cons rfl rfl (.cons rfl rfl (.cons rfl rfl (.cons rfl rfl (.cons rfl rfl (.cons rfl rfl (.cons rfl rfl (.cons rfl rfl (.cons rfl rfl (.cons rfl rfl (.cons rfl rfl .nil)))))))))))))))))))))))) (fun b901 hS hD901 hB=>Zt rfl (fun D1 hX=>d8 _ l3 _ ((mE (l:=l3) hB Yad).up RS.up (hX _ Ye)) Yad Yad) (fun v1 D1 hX hp1=>?_))
 have hd1:=hp1;refine Zt rfl (fun D2 hE=>wH _ (wG++l3) _ (hd1.up RS.up (hE _ Ye)) (hV.up (hE _ Ye))) (fun v2 D2 hE hp2=>?_);obtain⟨w11,w12,rfl,⟨pv1,cv1,hv1,hY,mv1,bl1,bc1,yc1,yq1,rfl,hL1⟩,I⟩:=hp2;unfold cR;obtain⟨ea,ec,rfl⟩:=I.shape;have p1len:(aP (wG++l3)).2.1.length=39:=by decide+kernel
 refine Za rfl<|Zad rfl<|Zad rfl<|Zad rfl<|Zw rfl lB rfl (fun q1=>aV rfl rfl rfl rfl dK Ya Ya (bO.head) (gU hL1) bCV<|Zj rfl<|Zj rfl<|aK<|Zn rfl U22 jC tf_z9 rfl (.cons rfl rfl .nil) (fun b902 rA hD902 hF=>Zt rfl (fun D3 rB=>d8 _ AP _ ((mE (l:=AP) hF Yad).up RS.up (rB _ Ye)) Yad Yad) (fun v3 D3 rB hp3=>?_)));have hd2:=hp3;refine Zc rfl (fun D4 hD4=>V4 _ (wG++AP) _ (hd2.up RS.up (hD4 _ Ye)) (hV.up (hD4 _ Ye)) (fun _=>aBY))<|Za rfl<|Zad rfl<|Zad rfl<|Zj rfl<|Zj rfl<|aK<|Zn rfl U22 jC tf_z9 rfl (.cons rfl rfl .nil) (fun b903 D903 hD903 hH=>Zt rfl (fun D5 hD5=>d8 _ AP _ ((mE (l:=AP) hH Yad).up RS.up (hD5 _ Ye)) Yad Yad) (fun v5 D5 hD5 hp5=>?_));have hd3:=hp5;refine Zc rfl (fun D6 hD6=>vR _ (wG++AP) _ (hd3.up RS.up (hD6 _ Ye)) (hV.up (hD6 _ Ye)))<|Za rfl<|Zad rfl<|Zad rfl<|Zw rfl mO rfl (fun q2=>aV rfl rfl rfl rfl eA Ya Ya (bO.head) Yj bCV<|Zj rfl<|aK<|Zt rfl (fun D7 hD7=>wH _ [] _ Sl.nil (hV.up (hD7 _ Ye))) (fun v7 D7 hD7 hp7=>?_));obtain⟨w41,w42,rfl,⟨pv4,cv4,hv4,lv4,mv4,bl4,bc4,yc4,yq4,rfl,hL4⟩,hes4⟩:=hp7;unfold cR;refine Za rfl<|Zad rfl<|Zad rfl<|Zad rfl<|Zw rfl lB rfl (fun q3=>aV rfl rfl rfl rfl dK Ya Ya (bO.head) (gU hL4) bCV<|Zj rfl<|Zj rfl<|bR<|aO<|bM [] 11 37 12884902912<|Za rfl ?_);refine Zam rfl<|Za rfl ?_;refine' dY 4 (s:=43) (p:=47) rfl (fun hg1=>?_) (fun hg1=>?_) ?_;rotate_left
 ·refine Zb rfl<|dH rfl U43 rfl I rfl rfl ⟨_,rfl,rfl⟩<|oC rfl rfl rfl rfl ⟨_,rfl,rfl⟩<|Zah rfl ?_;exact aR 3
 ·refine Zk rfl<|Zk rfl<|Zk rfl<|Zag rfl ?_;exact aR 3
 refine Za rfl ?_;refine' dY 6 (s:=48) (p:=54) rfl (fun hg2=>?_) (fun hg2=>?_) ?_;rotate_left
 ·refine Zb rfl<|vK (j:=15) rfl U43 pG rfl I rfl (by rw[p1len];omega) rfl ⟨_,rfl,rfl⟩ (fun ta hT=>oG rfl U25 aL dR rfl rfl rfl rfl (.cons rfl rfl (.cons rfl rfl (.cons rfl rfl (.cons rfl rfl (.cons rfl rfl (.cons rfl rfl (.cons rfl rfl (.cons rfl rfl (.cons rfl rfl (.cons rfl rfl (.cons rfl rfl (.cons rfl rfl (.cons rfl rfl (.cons rfl rfl (.cons rfl rfl (.cons rfl rfl (.cons rfl rfl (.cons rfl rfl (.cons rfl rfl (.cons rfl rfl (.cons rfl rfl (.cons rfl rfl (.cons rfl rfl (.cons rfl rfl .nil)))))))))))))))))))))))) rfl ⟨_,rfl,rfl⟩ (fun b904 D904 hD904 hI=>?_));have hJ:=Sl.ofInts (l:=[_,_,_,_,_,_,_,_,_,_,_,_,_,_,_,_,_,_,_,_,_,_,_,_]) (n:=24) (cap:=24) hI rfl Yd Yd;refine Zd rfl (fun D8 hD8=>j6 _ _ ((aP (wG++l3)).2.1.drop 15) [0,0,3,7,2,2,7,2,2,7,2,9,11,2,7,6,7,7,2,2,11,2,4,4] _ (hT.up RI.up (hD8 _ Ye)) (hJ.up RI.up (hD8 _ Ye)))<|Zal rfl<|Zah rfl ?_;exact xN fun a w hh=>(hh.cutK 5 rfl).ds (fun _ h=>aYK _ (h))
 ·refine Zk rfl<|Zk rfl<|Zk rfl<|Zk rfl<|Zk rfl<|Zag rfl ?_;exact aR 5
 refine Za rfl ?_;refine' dY 3 (s:=55) (p:=58) rfl (fun hg3=>?_) (fun hg3=>?_) ?_;rotate_left
 ·refine Zb rfl<|oC rfl rfl rfl rfl ⟨_,rfl,rfl⟩<|Zah rfl ?_;exact aR 2
 ·refine Zk rfl<|Zk rfl<|Zag rfl ?_;exact aR 2
 refine Za rfl ?_;refine' dY 3 (s:=59) (p:=62) rfl (fun hg4=>?_) (fun hg4=>?_) ?_;rotate_left
 ·refine Zb rfl<|MR rfl rfl rfl rfl ⟨_,rfl,rfl⟩<|Zah rfl ?_;exact aR 2
 ·refine Zk rfl<|Zk rfl<|Zag rfl ?_;exact aR 2
 refine Za rfl ?_;refine' dY 3 (s:=63) (p:=66) rfl (fun hg5=>?_) (fun hg5=>?_) ?_;rotate_left
 ·refine Zb rfl<|oC rfl rfl rfl rfl ⟨_,rfl,rfl⟩<|Zah rfl ?_;exact aR 2
 ·refine Zk rfl<|Zk rfl<|Zag rfl ?_;exact aR 2
 refine Za rfl ?_;refine' dY 3 (s:=67) (p:=70) rfl (fun hg6=>?_) (fun hg6=>?_) ?_;rotate_left
 ·refine Zb rfl<|oC rfl rfl rfl rfl ⟨_,rfl,rfl⟩<|Zah rfl ?_;exact aR 2
 ·refine Zk rfl<|Zk rfl<|Zag rfl ?_;exact aR 2
 refine Za rfl ?_;refine' dY 6 (s:=71) (p:=77) rfl (fun hg7=>?_) (fun hg7=>?_) ?_;rotate_left
 ·refine bT rfl iU rfl Mm0 dK n3 rfl ⟨_,rfl,rfl⟩<|k9 rfl rfl rfl (fun D9 hD9=>XZ _) rfl ⟨_,rfl,rfl⟩ (fun v9 D9 hD9 hp9=>?_);have hbg:=hp9;refine k9 rfl rfl rfl (fun D10 O=>PP _ H1 _ (hbg.up (O _ Ye)) Yad Yad Yad rfl rfl rfl rfl rfl rfl) rfl ⟨_,rfl,rfl⟩ (fun v10 D10 O hp10=>?_);have hsg:=hp10;refine Zd rfl (fun D11 R=>YO _ _ (aP []).1 H1 _ ⟨pv4,cv4,hv4,lv4,mv4,bl4,bc4,yc4,yq4,rfl,hL4.up (R _ Ye)⟩ (hsg.up (R _ Ye)))<|Zal rfl<|Zah rfl ?_;exact xN fun a w hh=>(hh.cutK 5 rfl).ds (fun _ h=>aYK _ (aYK _ (h)))
 ·refine Zk rfl<|Zk rfl<|Zk rfl<|Zk rfl<|Zk rfl<|Zag rfl ?_;exact aR 5
 refine aG<|aW rfl (fun hc1=>?_) (fun hc1=>?_)
 ·exact absurd hc1 Yaf
 ·refine aZ<|aA<|Zj rfl<|bR<|Zar<|bP (γ:=ByteArray) (fun s=>51-s.size) (fun s=>s.size≤51) (fun s=>[(11,.string s)]) [(10,_),(7,_),(5,_),(4,_),(3,_),(0,_)] (fun s=>[D7,D5,D903,D3,rA,D2,D1,hS,D]) ⟨#[115,116,101,112,32,49]⟩ Yad ⟨Yb,bCV⟩ bA (aE) ?_;rintro s hs;refine dV<|Za rfl<|lN rfl U9 rfl rfl rfl bCV<|Zai rfl<|aG<|Zz rfl (fun hc2=>?_) (fun hc2=>?_)
  ·refine aZ<|Zar<|aX<|Za rfl<|fI rfl rfl rfl (by show s.size+1≤_;omega) rfl bCV<|Zj rfl<|Zae<|Zat ?_;exact aM 7 (s++⟨#[49]⟩) (by rw[bBV];show s.size+1≤51;omega) (by rw[bBV];show 51-(s.size+1)<51-s.size;omega) ⟨rfl,bCV⟩ rfl rfl Mm5 (aE)
  ·have T:s.size=51:=by omega
   refine aT<|Zaq<|Zaq<|Zau<|Zap<|aA<|Za rfl<|Zn rfl U22 jC tf_z9 rfl (.cons rfl rfl .nil) (fun b905 D905 hD905 hK=>Zt rfl (fun D12 M=>wH _ [s] _ ((mE (l:=[s]) hK (by show 1≤1000;omega)).up RS.up (M _ Ye)) (hV.up (M _ Ye))) (fun v12 D12 M hp12=>?_));obtain⟨w51,w52,rfl,⟨pv5,cv5,hv5,lv5,mv5,bl5,bc5,yc5,yq5,rfl,hL5⟩,hes5⟩:=hp12;unfold cR;refine Za rfl<|Zad rfl<|Zad rfl<|Zad rfl<|Zj rfl<|aK<|O1 (n:=41) (cs:=S9.map Value.string) rfl U22 jC tf_z9 rfl KJ rfl rfl rfl rfl Yf rfl bCV (fun mb7 Dm7 hDm7 hAm7=>Zc rfl (fun D13 U=>vR _ S9 _ ((mE (l:=S9) hAm7 Yad).up RS.up (U _ Ye)) (hV.up (U _ Ye)))<|Za rfl<|Zad rfl<|Zad rfl<|Zj rfl ?_);refine aK<|Za rfl<|Zn rfl U22 jC tf_z9 rfl (.cons rfl rfl .nil) (fun b906 D906 hD906 hM=>Zc rfl (fun D14 V=>zS _ [s] _ ((mE (l:=[s]) hM (by show 1≤1000;omega)).up RS.up (V _ Ye)) (hV.up (V _ Ye)))<|Za rfl<|Zad rfl<|Zad rfl<|Zj rfl<|aK<|O1 (n:=41) (cs:=S9.map Value.string) rfl U22 jC tf_z9 rfl KJ rfl rfl rfl rfl Yf rfl bCV (fun mb8 Dm8 hDm8 hAm8=>Zt rfl (fun D15 Y=>LB _ S9 _ ((mE (l:=S9) hAm8 Yad).up RS.up (Y _ Ye))) (fun v15 D15 Y hp15=>?_)))
   obtain⟨wv,rfl, -⟩:=hp15;refine Za rfl<|Zad rfl<|Zad rfl<|Zj rfl<|aK<|Zc rfl (fun D16 hD16=>V4 _ [] _ Sl.nil (hV.up (hD16 _ Ye)) (fun _=>aPP))<|Za rfl<|Zad rfl<|Zad rfl<|Zj rfl<|Zj rfl<|bR ?_;refine aJU (l:=aWJ) rfl rfl U51 U5 gN CB rfl rfl rfl (.cons rfl rfl (.cons rfl rfl (.cons rfl rfl (.cons rfl rfl (.cons rfl rfl (.cons rfl rfl (.cons rfl rfl (.cons rfl rfl (.cons rfl rfl (.cons rfl rfl (.cons rfl rfl (.cons rfl rfl (.cons rfl rfl (.cons rfl rfl .nil)))))))))))))) rfl rfl (fun bv15 DB15 hDB15 hB15=>Zn rfl U22 jC tf_z9 rfl (.cons rfl rfl (.cons rfl rfl .nil)) (fun b907 D907 hD907 hN=>Zt rfl (fun D17 G=>aAN _ _ aWJ qT _ (hB15.up RU.up (G _ Ye)) Yad ((mE (l:=qT) hN Yad).up RS.up (G _ Ye)) (hV.up (G _ Ye))) (fun v17 D17 G hp17=>?_)));obtain⟨yv,rfl,hyb⟩:=hp17;refine Za rfl<|Zad rfl<|Zad rfl<|Zj rfl<|Zj rfl<|bR<|aJU (l:=aIP) rfl rfl U51 U5 gN CB rfl rfl rfl (.cons rfl rfl (.cons rfl rfl (.cons rfl rfl (.cons rfl rfl (.cons rfl rfl (.cons rfl rfl (.cons rfl rfl (.cons rfl rfl (.cons rfl rfl (.cons rfl rfl (.cons rfl rfl (.cons rfl rfl (.cons rfl rfl (.cons rfl rfl (.cons rfl rfl (.cons rfl rfl (.cons rfl rfl (.cons rfl rfl (.cons rfl rfl (.cons rfl rfl .nil)))))))))))))))))))) rfl rfl (fun bv16 DB16 hDB16 hB16=>fM rfl rfl rfl (fun D60 hD60=>X0 _ aIP _ (hB16.up RU.up (hD60 _ Ye)) Yad) rfl bCV (fun v60 D61 ν60 hD61 hp60=>?_));obtain⟨hY,rfl,hac⟩:=hp60;refine aIB (A:=[]) (B:=[(_,_),(_,_),(_,_)]) hac rfl (fun D62 hD62 hF62=>?_);have hl1:Sl D62 RS 1 hY ((tE 40 0 0 aIP).map (·.1)):=hF62.strs rfl (by have h9:=P4 40 0 0 aIP;rw[aZL];omega)
   refine Za rfl<|Zad rfl<|Zad rfl<|Zj rfl<|Zj rfl<|bR<|bM [] 14 46 35970351104<|Za rfl<|Zan rfl<|Za rfl ?_;refine' dM 3 (s:=125) (p:=128) rfl (fun hg8=>?_) (fun hg8=>?_) ?_;rotate_left
   ·refine Zb rfl<|qU rfl rfl rfl rfl ⟨_,rfl,rfl⟩<|Zag rfl ?_;exact aR 2
   ·refine Zk rfl<|Zk rfl<|Zah rfl ?_;exact aR 2
   refine Za rfl ?_;refine' dM 3 (s:=129) (p:=132) rfl (fun hg9=>?_) (fun hg9=>?_) ?_;rotate_left
   ·refine Zb rfl<|qU rfl rfl rfl rfl ⟨_,rfl,rfl⟩<|Zag rfl ?_;exact aR 2
   ·refine Zk rfl<|Zk rfl<|Zah rfl ?_;exact aR 2
   refine Za rfl ?_;refine' dM 3 (s:=133) (p:=136) rfl (fun hg10=>?_) (fun hg10=>?_) ?_;rotate_left
   ·refine Zb rfl<|qU rfl rfl rfl rfl ⟨_,rfl,rfl⟩<|Zag rfl ?_;exact aR 2
   ·refine Zk rfl<|Zk rfl<|Zah rfl ?_;exact aR 2
   refine Za rfl ?_;refine' dM 3 (s:=137) (p:=140) rfl (fun hg11=>?_) (fun hg11=>?_) ?_;rotate_left
   ·refine Zb rfl<|qU rfl rfl rfl rfl ⟨_,rfl,rfl⟩<|Zag rfl ?_;exact aR 2
   ·refine Zk rfl<|Zk rfl<|Zah rfl ?_;exact aR 2
   refine Za rfl ?_;refine' dM 3 (s:=141) (p:=144) rfl (fun hg12=>?_) (fun hg12=>?_) ?_;rotate_left
   ·refine Zb rfl<|yA rfl rfl rfl rfl ⟨_,rfl,rfl⟩<|Zag rfl ?_;exact aR 2
   ·refine Zk rfl<|Zk rfl<|Zah rfl ?_;exact aR 2
   refine Za rfl ?_;refine' dM 3 (s:=145) (p:=148) rfl (fun hg13=>?_) (fun hg13=>?_) ?_;rotate_left
   ·refine Zb rfl<|qU rfl rfl rfl rfl ⟨_,rfl,rfl⟩<|Zag rfl ?_;exact aR 2
   ·refine Zk rfl<|Zk rfl<|Zah rfl ?_;exact aR 2
   refine Za rfl ?_;refine' dM 6 (s:=149) (p:=155) rfl (fun hg14=>?_) (fun hg14=>?_) ?_;rotate_left
   ·refine Zb rfl<|qZ rfl U51 U5 U9 rfl hyb Ye (fun _ _ _ _ _=>n3) rfl ⟨_,rfl,rfl⟩<|oG rfl U22 jC tf_z9 rfl rfl rfl rfl (.cons rfl rfl (.cons rfl rfl .nil)) rfl ⟨_,rfl,rfl⟩ (fun b908 D908 hD908 hO=>Zd rfl (fun D18 hD18=>aEA _ aQP _ ((mE (l:=aQP) hO Yad).up RS.up (hD18 _ Ye)) Yad Yad)<|yA rfl rfl rfl rfl ⟨_,rfl,rfl⟩<|Zag rfl ?_);exact xN fun a w hh=>(hh.cutK 5 rfl).ds (fun _ h=>aYK _ (h))
   ·refine Zk rfl<|Zk rfl<|Zk rfl<|Zk rfl<|Zk rfl<|Zah rfl ?_;exact aR 5
   refine Za rfl ?_;refine' dM 4 (s:=156) (p:=160) rfl (fun hg15=>?_) (fun hg15=>?_) ?_;rotate_left
   ·refine Zb rfl<|oG rfl U22 jC tf_z9 rfl rfl rfl rfl (.cons rfl rfl .nil) rfl ⟨_,rfl,rfl⟩ (fun b909 D909 hD909 hR=>Zd rfl (fun D19 Z=>PA _ _ (List.map (fun x:ByteArray×Nat=>x.1) (tE 40 0 0 aIP)) aB _ (hl1.up RS.up (Z _ Ye)) ((mE (l:=aB) hR Yad).up RS.up (Z _ Ye)))<|Zag rfl ?_);exact xN fun a w hh=>(hh.cutK 3 rfl).ds (fun _ h=>aYK _ (h))
   ·refine Zk rfl<|Zk rfl<|Zk rfl<|Zah rfl ?_;exact aR 3
   refine Za rfl ?_;refine' dM 3 (s:=161) (p:=164) rfl (fun hg16=>?_) (fun hg16=>?_) ?_;rotate_left
   ·refine Zb rfl<|qU rfl rfl rfl rfl ⟨_,rfl,rfl⟩<|Zag rfl ?_;exact aR 2
   ·refine Zk rfl<|Zk rfl<|Zah rfl ?_;exact aR 2
   refine Za rfl ?_;refine' dM 2 (s:=165) (p:=167) rfl (fun hg17=>?_) (fun hg17=>?_) ?_;rotate_left
   ·refine Zd rfl (fun D20 hD20=>aJV _ (hV.up (hD20 _ Ye)))<|Zag rfl ?_;exact aR 1
   ·refine Zk rfl<|Zah rfl ?_;exact aR 1
   refine Zj rfl<|aH ?_;exact aF rfl (fun D hD=>aXV Value.bool (by rw[DT T,LP T];decide+kernel))
end L12
end Go.Fs
