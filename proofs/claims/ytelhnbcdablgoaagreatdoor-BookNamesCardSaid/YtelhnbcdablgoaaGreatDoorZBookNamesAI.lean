/- Of the proof of BookNames: BW8, BW9, BW10, BW11, BW12, Delete, BW13, BW14, BW15, StrMap, BW16, Acts, Line, Defer, Str. -/
import Derived.Test.YtelhnbcdablgoaaGreatDoorZBookNamesAH
import Derived.Test.YtelhnbcdablgoaaGreatDoorZBookNamesAD
import Derived.Test.YtelhnbcdablgoaaGreatDoorZBookNamesAE
import Derived.Lib.Split
import Derived.Lib.AtoiTie
import Derived.Lib.AtoiAllCases
import Derived.Lib.ItoaNum
import Derived.WideShapes
import Derived.DefersIn
import Derived.RecoverIn
import Derived.Laws.Concat
import Derived.Laws.Strings
import Derived.Below
namespace Go.Fs
open Go.Proofs Tryz
namespace L12
open C12
theorem ZT(wb:Nat)(s:aQ)(pv cv hv lv mv bl bc yc yq nv:Value)(a b:Int)(ν:aD)(D:aC)(hn:Sl D RI 1 nv [a,b])(ha:bZ 133 2 yq s.yard.claims.length (s.yard.claims.flatMap cP) ν)(hsm:s.yard.claims.length≤100):mC prog 188 [qP wb,nv] D ((wb,qC (cR s pv cv hv lv mv bl bc yc yq) 253)::ν) (fun _ _ ν'=>((a≤b∧b≤7)∧(s.yard.claims.length:Int)<5)∧∃R ν1,ν'=(wb,qC (cR s pv cv hv lv mv bl bc yc R) 253)::ν1∧bZ 133 2 R (s.yard.claims.length+1) ((s.yard.claims++[(a,b)]).flatMap cP) ν1) (fun v=>((b<a∨7<b)∧v=fE 2)∨((a≤b∧b≤7)∧5≤(s.yard.claims.length:Int)∧v=fE 3)):=by
 obtain⟨bt,ot,ct,rfl⟩:=kJ hn Ye;have hbt:=nN hn;refine eP 39 func188 rfl rfl rfl rfl (fun h0 hwl hwn=>aO<|cX [] 3 7 56<|Za rfl<|cZ rfl hn<|Za rfl<|cZ rfl hn<|Ze [(_,_)] ν [] rfl (Or.inr Yi) (fun D5 T=>DN a b 7 _) (fun v5 D6 T G=>cU (P:=prog) (fn:=f188) rfl (aYF ⟨G.1,G.2⟩)) (fun v5 D6 ν5 T G=>?_));obtain⟨U,rfl⟩:=G;refine aK<|Za rfl<|Zaj rfl<|Zh rfl aY rfl<|Zh rfl dZ rfl<|Zh rfl iL rfl<|Zp rfl oZ rfl Mm0 rfl<|fC rfl U38 rfl ha rfl rfl bCV<|Ze [(_,_)] ν [] rfl (Or.inr Yi) (fun D7 V=>xI (s.yard.claims.length:Int) 5 _) (fun v7 D8 V I=>cU (P:=prog) (fn:=f188) rfl (aXR ⟨U,I.1,I.2⟩)) (fun v7 D8 ν7 V I=>?_);obtain⟨Y,rfl⟩:=I;refine aG<|lG hbt Ye (fun hap=>xP (fun hnd=>?_));have hnu:=mS hap hnd;have hwbo:wb∉eQ.mk [bt,wb]:=eQ.out Ye;have hbto:bt∉eQ.mk [bt,wb]:=eQ.out Ye;refine cX (eQ.mk [bt,wb]) 4 21 65534<|Za rfl<|Za rfl<|Zaj rfl<|Zh rfl aY rfl<|Zh rfl dZ rfl<|Zh rfl iL rfl<|cF rfl oZ rfl Mm0 rfl Yn rfl bCV<|Za rfl<|cZ rfl hn<|Za rfl<|cZ rfl hn ?_;refine Zo [qI a,qI b] rfl P9 jL rfl<|Zn rfl U38 cD jL rfl (.cons rfl rfl .nil) (fun hE hF Z M=>aJ ((wb,qC (cR s pv cv hv lv mv bl bc yc yq) 253)::ν) rfl<|aJ ((wb,qC (cR s pv cv hv lv mv bl bc yc yq) 253)::ν++[]) (aXS _).symm<|bE (A:=[(wb,qC (cR s pv cv hv lv mv bl bc yc yq) 253)]) (B:=[]) rfl U38 rfl rfl cD jL rfl UY rfl rfl rfl ha (mK.lit M) Ye rfl (bS (n:=2) (fun _=>rfl) _) Yj Yd Yp rfl bCV (fun R ν1 O=>aJ ((wb,qC (cR s pv cv hv lv mv bl bc yc yq) 253)::ν1) (aXS _) ?_));have hB:bZ 133 2 R (s.yard.claims.length+1) ((s.yard.claims++[(a,b)]).flatMap cP) ν1:=by rw[aYP,aZG];exact O
 refine Zaj rfl<|Zh rfl aY rfl<|Zh rfl dZ rfl<|Zh rfl iL rfl<|bJ (ws:=(cR s pv cv hv lv mv bl bc yc R)) rfl rfl rfl O.cells1 FP .head Ye rfl O.cell1 bCV<|Zae ?_;refine fun a w hh=>kP (P:=prog) (fn:=f188) (A:=[]) (ν':=((wb,_)::ν1)) (B:=[]) (vs:=[]) rfl rfl rfl bCV (fun D' hD=>⟨⟨U,Y⟩,R,ν1,rfl,hB⟩) a w (hh.boxesEq (aXS _).symm)
theorem Y5(wb:Nat)(s:aQ)(pv cv hv lv mv bl bc yc yq nv:Value)(a b:Int)(ν:aD)(D:aC)(hn:Sl D RI 1 nv [a,b])(ha:bZ 160 3 bl s.book.lines.length (s.book.lines.flatMap cL) ν)(hsm:s.book.lines.length≤100)(kd:Int):mC prog 257 [qP wb,nv,qI kd] D ((wb,qC (cR s pv cv hv lv mv bl bc yc yq) 253)::ν) (fun _ _ ν'=>(max a b<s.book.chairs∧(s.book.lines.length:Int)<8)∧∃R ν1,ν'=(wb,qC (cR s pv cv hv lv mv R bc yc yq) 253)::ν1∧bZ 160 3 R (s.book.lines.length+1) ((s.book.lines++[(⟨kd,a,b⟩:C3.gM)]).flatMap cL) ν1) (fun v=>(s.book.chairs≤max a b∧v=fE 7)∨(max a b<s.book.chairs∧8≤(s.book.lines.length:Int)∧v=fE 3)):=by
 obtain⟨bt,ot,ct,rfl⟩:=kJ hn Ye;have hbt:=nN hn;refine eP 49 func257 rfl rfl rfl rfl (fun h0 hwl hwn=>aO<|cX [] 6 14 8120<|Za rfl<|cZ rfl hn<|Za rfl<|cZ rfl hn<|tZ rfl rfl rfl rfl bCV<|Za rfl<|Zaj rfl<|Zh rfl aY rfl<|Zh rfl eK rfl ?_);refine Zh rfl oF rfl<|Zp rfl aI rfl Mm0 rfl<|Ze [(_,_)] ν [] rfl (Or.inr Yi) (fun D5 T=>kS (max a b) s.book.chairs _) (fun v5 D6 T G=>cU (P:=prog) (fn:=f257) rfl (aYF ⟨G.1,G.2⟩)) (fun v5 D6 ν5 T G=>?_);obtain⟨U,rfl⟩:=G;refine aK<|Za rfl<|Zaj rfl<|Zh rfl aY rfl<|Zh rfl eK rfl<|Zh rfl cQ rfl<|Zp rfl eX rfl Mm0 rfl<|fC rfl U33 rfl ha rfl rfl bCV<|Ze [(_,_)] ν [] rfl (Or.inr Yi) (fun D7 V=>xI (s.book.lines.length:Int) 8 _) (fun v7 D8 V I=>cU (P:=prog) (fn:=f257) rfl (aXR ⟨U,I.1,I.2⟩)) (fun v7 D8 ν7 V I=>?_);obtain⟨Y,rfl⟩:=I;refine aG<|lG hbt Ye (fun hap=>xP (fun hnd=>?_));have hnu:=mS hap hnd;have hwbo:wb∉eQ.mk [bt,wb]:=eQ.out Ye;have hbto:bt∉eQ.mk [bt,wb]:=eQ.out Ye;refine cX (eQ.mk [bt,wb]) 4 22 131070<|Za rfl<|Za rfl<|Zaj rfl<|Zh rfl aY rfl<|Zh rfl eK rfl<|Zh rfl cQ rfl<|cF rfl eX rfl Mm0 rfl Yn rfl bCV<|Za rfl<|Za rfl<|cZ rfl hn<|Za rfl ?_;refine cZ rfl hn<|Zo [qI kd,qI a,qI b] rfl RV dU rfl<|Zn rfl U33 bH dU rfl (.cons rfl rfl .nil) (fun hE hF Z M=>aJ ((wb,qC (cR s pv cv hv lv mv bl bc yc yq) 253)::ν) rfl<|aJ ((wb,qC (cR s pv cv hv lv mv bl bc yc yq) 253)::ν++[]) (aXS _).symm<|bE (A:=[(wb,qC (cR s pv cv hv lv mv bl bc yc yq) 253)]) (B:=[]) rfl U33 rfl rfl bH dU rfl iB rfl rfl rfl ha (mK.lit M) Ye rfl (bS (n:=3) (fun _=>rfl) _) Yj Yd Yp rfl bCV (fun R ν1 O=>aJ ((wb,qC (cR s pv cv hv lv mv bl bc yc yq) 253)::ν1) (aXS _) ?_));have hB:bZ 160 3 R (s.book.lines.length+1) ((s.book.lines++[(⟨kd,a,b⟩:C3.gM)]).flatMap cL) ν1:=by rw[aYP,aZG];exact O
 refine Zaj rfl<|Zh rfl aY rfl<|Zh rfl eK rfl<|Zh rfl cQ rfl<|bJ (ws:=(cR s pv cv hv lv mv R bc yc yq)) rfl rfl rfl O.cells1 eH .head Ye rfl O.cell1 bCV<|Zae ?_;refine fun a w hh=>kP (P:=prog) (fn:=f257) (A:=[]) (ν':=((wb,_)::ν1)) (B:=[]) (vs:=[]) rfl rfl rfl bCV (fun D' hD=>⟨⟨U,Y⟩,R,ν1,rfl,hB⟩) a w (hh.boxesEq (aXS _).symm)
theorem Y0(wb:Nat)(s:aQ)(pv cv hv lv mv bl bc yc yq nv:Value)(a b:Int)(ν:aD)(D:aC)(hn:Sl D RI 1 nv [a,b])(ha:bZ 156 3 cv s.row.counts.length (s.row.counts.flatMap cC) ν)(hsm:s.row.counts.length≤100)(bk:Bool)(hpl:∃x c,pv=.slice x s.row.places.length c):mC prog 253 [qP wb,nv,.bool bk] D ((wb,qC (cR s pv cv hv lv mv bl bc yc yq) 253)::ν) (fun _ _ ν'=>((a≤(s.row.places.length:Int)∧b≤9)∧(s.row.counts.length:Int)<6)∧∃U ν1,ν'=(wb,qC (cR s pv U hv lv mv bl bc yc yq) 253)::ν1∧bZ 156 3 U (s.row.counts.length+1) ((s.row.counts++[(⟨bk,a,b⟩:C1.wI)]).flatMap cC) ν1) (fun v=>(((s.row.places.length:Int)<a∨9<b)∧v=fE 2)∨((a≤(s.row.places.length:Int)∧b≤9)∧6≤(s.row.counts.length:Int)∧v=fE 3)):=by
 obtain⟨bt,ot,ct,rfl⟩:=kJ hn Ye;have hbt:=nN hn;refine eP 52 func253 rfl rfl rfl rfl (fun h0 hwl hwn=>aO<|cX [] 9 17 31736<|Za rfl<|cZ rfl hn<|Za rfl<|Zaj rfl<|Zh rfl aY rfl<|Zh rfl dJ rfl<|Zh rfl eF rfl<|Zp rfl dS rfl Mm0 rfl ?_);obtain⟨aq,cq,hq⟩:=hpl;refine aGC rfl U25 rfl hq rfl rfl bCV<|iH rfl rfl rfl rfl bCV<|Za rfl<|cZ rfl hn<|iH rfl rfl rfl rfl bCV<|Zn rfl U327 lU nT rfl (.cons rfl rfl (.cons rfl rfl .nil)) (fun hI hJ hB M=>Ze [(_,_)] ν [] rfl (aXR Yi) (fun D5 O=>fG 2 [decide ((s.row.places.length:Int)<a),decide (9<b)] _ _ ((gZ (l:=[decide ((s.row.places.length:Int)<a),decide (9<b)]) (fun _ _ _ h=>h) M Ye).up RB.up (O _ Ye))) (fun v5 D6 O G=>cU (P:=prog) (fn:=f253) rfl (aYF ⟨by simpa using G.1,G.2⟩)) (fun v5 D6 ν5 O G=>?_));obtain⟨V,rfl⟩:=G;have Y:a≤(s.row.places.length:Int)∧b≤9:=by simpa using V
 refine aK<|Za rfl<|Zaj rfl<|Zh rfl aY rfl<|Zh rfl dJ rfl<|Zh rfl iE rfl<|Zp rfl pH rfl Mm0 rfl<|fC rfl U26 rfl ha rfl rfl bCV<|Ze [(_,_)] ν [] rfl (Or.inr Yi) (fun D7 Z=>xI (s.row.counts.length:Int) 6 _) (fun v7 D8 Z I=>cU (P:=prog) (fn:=f253) rfl (aXR ⟨Y,I.1,I.2⟩)) (fun v7 D8 ν7 Z I=>?_);obtain⟨hE,rfl⟩:=I;refine aG<|lG hbt Ye (fun hap=>xP (fun hnd=>?_));have hnu:=mS hap hnd;have hwbo:wb∉eQ.mk [bt,wb]:=eQ.out Ye;have hbto:bt∉eQ.mk [bt,wb]:=eQ.out Ye;refine cX (eQ.mk [bt,wb]) 4 22 131070<|Za rfl<|Za rfl<|Zaj rfl<|Zh rfl aY rfl<|Zh rfl dJ rfl<|Zh rfl iE rfl<|cF rfl pH rfl Mm0 rfl Yn rfl bCV<|Za rfl<|Za rfl<|cZ rfl hn<|Za rfl ?_;refine cZ rfl hn<|Zo [.bool bk,qI a,qI b] rfl aNK xA rfl<|Zn rfl U26 hZ xA rfl (.cons rfl rfl .nil) (fun hK hM hF R=>aJ ((wb,qC (cR s pv cv hv lv mv bl bc yc yq) 253)::ν) rfl<|aJ ((wb,qC (cR s pv cv hv lv mv bl bc yc yq) 253)::ν++[]) (aXS _).symm<|bE (A:=[(wb,qC (cR s pv cv hv lv mv bl bc yc yq) 253)]) (B:=[]) rfl U26 rfl rfl hZ xA rfl TD rfl rfl rfl ha (mK.lit R) Ye rfl (bS (n:=3) (fun _=>rfl) _) Yj Yd Yp rfl bCV (fun U ν1 T=>aJ ((wb,qC (cR s pv cv hv lv mv bl bc yc yq) 253)::ν1) (aXS _) ?_));have hH:bZ 156 3 U (s.row.counts.length+1) ((s.row.counts++[(⟨bk,a,b⟩:C1.wI)]).flatMap cC) ν1:=by rw[aYP,aZG];exact T
 refine Zaj rfl<|Zh rfl aY rfl<|Zh rfl dJ rfl<|Zh rfl iE rfl<|bJ (ws:=(cR s pv U hv lv mv bl bc yc yq)) rfl rfl rfl T.cells1 GU .head Ye rfl T.cell1 bCV<|Zae ?_;refine fun a w hh=>kP (P:=prog) (fn:=f253) (A:=[]) (ν':=((wb,_)::ν1)) (B:=[]) (vs:=[]) rfl rfl rfl bCV (fun D' hD=>⟨⟨Y,hE⟩,U,ν1,rfl,hH⟩) a w (hh.boxesEq (aXS _).symm)
theorem aDE(wb:Nat)(s:aQ)(pv cv hv lv mv bl bc yc yq nv:Value)(a b c d:Int)(ν:aD)(D:aC)(hn:Sl D RI 1 nv [a,b,c,d])(ha:bZ 158 4 mv s.table.marks.length (s.table.marks.flatMap cM) ν)(hsm:s.table.marks.length≤100)(hht:∃x c,hv=.slice x s.table.heights.length c):mC prog 179 [qP wb,nv] D ((wb,qC (cR s pv cv hv lv mv bl bc yc yq) 253)::ν) (fun _ _ ν'=>(max a b<(s.table.heights.length:Int)∧a≤b∧(c≤d∧d≤99)∧(s.table.marks.length:Int)<5)∧∃v1 ν1,ν'=(wb,qC (cR s pv cv hv lv v1 bl bc yc yq) 253)::ν1∧bZ 158 4 v1 (s.table.marks.length+1) ((s.table.marks++[(⟨a,b,c,d⟩:C2.Mk)]).flatMap cM) ν1) (fun v=>((s.table.heights.length:Int)≤max a b∧v=fE 7)∨(max a b<(s.table.heights.length:Int)∧b<a∧v=fE 2)∨(max a b<(s.table.heights.length:Int)∧a≤b∧(d<c∨99<d)∧v=fE 2)∨(max a b<(s.table.heights.length:Int)∧a≤b∧(c≤d∧d≤99)∧5≤(s.table.marks.length:Int)∧v=fE 3)):=by
 obtain⟨bt,ot,ct,rfl⟩:=kJ hn Ye;have hbt:=nN hn;refine eP 70 func179 rfl rfl rfl rfl (fun h0 hwl hwn=>aO<|cX [] 7 15 16312<|Za rfl<|cZ rfl hn<|Za rfl<|cZ rfl hn<|tZ rfl rfl rfl rfl bCV<|Za rfl<|Zaj rfl<|Zh rfl aY rfl<|Zh rfl cT rfl ?_);refine Zh rfl fA rfl<|Zp rfl lX rfl Mm0 rfl ?_;obtain⟨aq,cq,hq⟩:=hht;refine aGC rfl U29 rfl hq rfl rfl bCV<|Ze [(_,_)] ν [] rfl (Or.inr Yi) (fun D5 hE=>kS (max a b) (s.table.heights.length:Int) _) (fun v5 D6 hE I=>cU (P:=prog) (fn:=f179) rfl (aYF ⟨I.1,I.2⟩)) (fun v5 D6 ν5 hE I=>?_);obtain⟨M,rfl⟩:=I;refine bR<|cX [] 5 9 56<|Za rfl<|cZ rfl hn<|Za rfl<|cZ rfl hn<|iH rfl rfl rfl rfl bCV<|Zn rfl U327 lU nT rfl (.cons rfl rfl .nil) (fun hS hX hK U=>Ze [(_,_)] ν [] rfl (aXR Yi) (fun D7 V=>fG 2 [decide (b<a)] _ _ ((gZ (l:=[decide (b<a)]) (fun _ _ _ h=>h) U Ye).up RB.up (V _ Ye))) (fun v7 D8 V O=>cU (P:=prog) (fn:=f179) rfl (aXR (aYF ⟨M,by simpa using O.1,O.2⟩))) (fun v7 D8 ν7 V O=>?_));obtain⟨hF,rfl⟩:=O;have Y:a≤b:=by simpa using hF
 refine bR<|cX [] 3 7 56<|Za rfl<|cZ rfl hn<|Za rfl<|cZ rfl hn<|Ze [(_,_)] ν [] rfl (Or.inr Yi) (fun D9 hH=>DN c d 99 _) (fun v9 D10 hH R=>cU (P:=prog) (fn:=f179) rfl (aXR (aXR (aYF ⟨M,Y,R.1,R.2⟩)))) (fun v9 D10 ν9 hH R=>?_);obtain⟨hI,rfl⟩:=R;refine aK<|Za rfl<|Zaj rfl<|Zh rfl aY rfl<|Zh rfl cT rfl<|Zh rfl iF rfl<|Zp rfl oY rfl Mm0 rfl<|fC rfl U30 rfl ha rfl rfl bCV<|Ze [(_,_)] ν [] rfl (Or.inr Yi) (fun rB T=>xI (s.table.marks.length:Int) 5 _) (fun hM hN T G=>cU (P:=prog) (fn:=f179) rfl (aXR (aXR (aXR ⟨M,Y,hI,G.1,G.2⟩)))) (fun hM hN ν11 T G=>?_);obtain⟨hJ,rfl⟩:=G;refine aG<|lG hbt Ye (fun hap=>xP (fun hnd=>?_));have hnu:=mS hap hnd;have hwbo:wb∉eQ.mk [bt,wb]:=eQ.out Ye;have hbto:bt∉eQ.mk [bt,wb]:=eQ.out Ye;refine cX (eQ.mk [bt,wb]) 4 28 8388606<|Za rfl<|Za rfl<|Zaj rfl<|Zh rfl aY rfl<|Zh rfl cT rfl<|Zh rfl iF rfl<|cF rfl oY rfl Mm0 rfl Yn rfl bCV<|Za rfl<|cZ rfl hn<|Za rfl<|cZ rfl hn ?_;refine Za rfl<|cZ rfl hn<|Za rfl<|cZ rfl hn<|Zo [qI c,qI d] rfl yT gJ rfl<|Zo [qI a,qI b,qI c,qI d] rfl aPW wE rfl<|Zn rfl U30 iN wE rfl (.cons rfl rfl .nil) (fun hY rA hO Z=>aJ ((wb,qC (cR s pv cv hv lv mv bl bc yc yq) 253)::ν) rfl<|aJ ((wb,qC (cR s pv cv hv lv mv bl bc yc yq) 253)::ν++[]) (aXS _).symm<|bE (A:=[(wb,qC (cR s pv cv hv lv mv bl bc yc yq) 253)]) (B:=[]) rfl U30 rfl rfl iN wE rfl VV rfl rfl rfl ha (mK.lit Z) Ye rfl (bS (n:=4) (fun _=>rfl) _) Yj Yd Yp rfl bCV (fun v1 ν1 hB=>aJ ((wb,qC (cR s pv cv hv lv mv bl bc yc yq) 253)::ν1) (aXS _) ?_));have hR:bZ 158 4 v1 (s.table.marks.length+1) ((s.table.marks++[(⟨a,b,c,d⟩:C2.Mk)]).flatMap cM) ν1:=by rw[aYP,aZG];exact hB
 refine Zaj rfl<|Zh rfl aY rfl<|Zh rfl cT rfl<|Zh rfl iF rfl<|bJ (ws:=(cR s pv cv hv lv v1 bl bc yc yq)) rfl rfl rfl hB.cells1 IJ .head Ye rfl hB.cell1 bCV<|Zae ?_;refine fun a w hh=>kP (P:=prog) (fn:=f179) (A:=[]) (ν':=((wb,_)::ν1)) (B:=[]) (vs:=[]) rfl rfl rfl bCV (fun D' hD=>⟨⟨M,Y,hI,hJ⟩,v1,ν1,rfl,hR⟩) a w (hh.boxesEq (aXS _).symm)
end L12
namespace L12
open C12
theorem AH{α:Type}{f:α→List Value}{n i:Nat}(h:∀x,(f x).length=n){xs:List α}(hi:i<xs.length){x:α}{junk:List Value}:(xs.flatMap f++junk).take (0+i*n)++f x++(xs.flatMap f++junk).drop (0+i*n+(f x).length)=(xs.set i x).flatMap f++junk:=by
 rw[bAL];induction xs generalizing i with
 |nil=>simp at hi
 |cons d xs ih=>
  cases i with
  |zero=>
   have e:(d::xs).flatMap f++junk=f d++(xs.flatMap f++junk):=by simp
   have G:((d::xs).set 0 x).flatMap f++junk=f x++(xs.flatMap f++junk):=by simp
   rw[bBS,List.take_zero,aYT,bAL,e,G,h,←h d,List.drop_left]
  |succ i=>
   have hi':i<xs.length:=by simpa using hi
   have e:(d::xs).flatMap f++junk=f d++(xs.flatMap f++junk):=by simp
   have G:((d::xs).set (i+1) x).flatMap f++junk=f d++((xs.set i x).flatMap f++junk):=by simp
   rw[e,G,show(i+1)*n=(f d).length+i*n by rw[h,bAG];omega,List.take_length_add_append,show(f d).length+i*n+(f x).length=(f d).length+(i*n+(f x).length) by omega,bBQ,aYA,aYA];congr 1;rw[←aYA];exact ih hi'
theorem aHY(wb:Nat)(s:aQ)(pv cv hv lv mv bl bc yc yq nv:Value)(a b:Int)(ν:aD)(D:aC)(hn:Sl D RI 1 nv [a,b])(ha:bZ 3 1 pv s.row.places.length (s.row.places.flatMap cI) ν)(hsm:s.row.places.length≤100)(V:0≤a):mC prog 169 [qP wb,nv] D ((wb,qC (cR s pv cv hv lv mv bl bc yc yq) 253)::ν) (fun _ _ ν'=>(a<(s.row.places.length:Int)∧b≤2)∧∃ν1,ν'=(wb,qC (cR s pv cv hv lv mv bl bc yc yq) 253)::ν1∧bZ 3 1 pv s.row.places.length ((s.row.places.set a.toNat b).flatMap cI) ν1) (fun v=>((s.row.places.length:Int)≤a∧v=fE 7)∨(a<(s.row.places.length:Int)∧2<b∧v=fE 2)):=by
 obtain⟨bt,ot,ct,rfl⟩:=kJ hn Ye;have hbt:=nN hn;refine eP 32 func169 rfl rfl rfl rfl (fun h0 hwl hwn=>aO<|cX [] 7 11 1016<|Za rfl<|cZ rfl hn<|Za rfl<|Zaj rfl<|Zh rfl aY rfl<|Zh rfl dJ rfl<|Zh rfl eF rfl<|Zp rfl dS rfl Mm0 rfl<|fC rfl U25 rfl ha rfl rfl bCV ?_);refine Ze [(_,_)] ν [] rfl (Or.inr Yi) (fun D5 M=>kS a (s.row.places.length:Int) _) (fun v5 Y M G=>cU (P:=prog) (fn:=f169) rfl (aYF ⟨G.1,G.2⟩)) (fun v5 Y ν5 M G=>?_);obtain⟨O,rfl⟩:=G;refine aK<|Za rfl<|cZ rfl hn<|Ze [(_,_)] ν [] rfl (Or.inr Yi) (fun D7 R=>tI b 2 _) (fun Z D8 R I=>cU (P:=prog) (fn:=f169) rfl (aXR ⟨O,I.1,I.2⟩)) (fun Z D8 ν7 R I=>?_);obtain⟨T,rfl⟩:=I;refine aG ?_;obtain⟨bx,cap,junk,rfl,hcap,rfl,hl1,U⟩:=ha.some Yd;refine cX [] 5 14 4032<|Za rfl<|Zaj rfl<|Zh rfl aY rfl<|Zh rfl dJ rfl<|Zh rfl eF rfl<|Zp rfl dS rfl Mm0 rfl<|Za rfl<|cZ rfl hn<|Za rfl<|cZ rfl hn<|gT rfl U25 aL rfl rfl Yd Yd rfl bCV ?_;refine bJ (off:=0+(a.toNat)*1) (us:=[qI b]) (ws:=((s.row.places.set a.toNat b).flatMap cI)++junk) rfl rfl rfl rfl aL (.tail .head) (by rw[GT,bS (f:=cI) (n:=1) (fun _=>rfl)];simp;omega) (AH (f:=cI) (n:=1) (xs:=s.row.places) (i:=a.toNat) (x:=b) (fun _=>rfl) Yd) Yj bCV<|Zae ?_
 exact Zaf [] [] [_,_] [] rfl (fun D' hD=>⟨⟨O,T⟩,_,rfl,aXR ⟨bx,cap,junk,rfl,hcap,rfl,by rw[bS (n:=1) (fun _=>rfl),bBN],by rw[GT,bS (n:=1) (fun _=>rfl),bBN,←U,GT,hl1]⟩⟩)
theorem ZR(wb:Nat)(s:aQ)(pv cv hv lv mv bl bc yc yq nv:Value)(a b:Int)(ν:aD)(D:aC)(hn:Sl D RI 1 nv [a,b])(ha:bZ 3 1 lv s.table.levels.length (s.table.levels.flatMap cI) ν)(hsm:s.table.levels.length≤100)(V:0≤a):mC prog 178 [qP wb,nv] D ((wb,qC (cR s pv cv hv lv mv bl bc yc yq) 253)::ν) (fun _ _ ν'=>(a<(s.table.levels.length:Int)∧b≤99)∧∃ν1,ν'=(wb,qC (cR s pv cv hv lv mv bl bc yc yq) 253)::ν1∧bZ 3 1 lv s.table.levels.length ((s.table.levels.set a.toNat b).flatMap cI) ν1) (fun v=>((s.table.levels.length:Int)≤a∧v=fE 7)∨(a<(s.table.levels.length:Int)∧99<b∧v=fE 2)):=by
 obtain⟨bt,ot,ct,rfl⟩:=kJ hn Ye;have hbt:=nN hn;refine eP 32 func178 rfl rfl rfl rfl (fun h0 hwl hwn=>aO<|cX [] 7 11 1016<|Za rfl<|cZ rfl hn<|Za rfl<|Zaj rfl<|Zh rfl aY rfl<|Zh rfl cT rfl<|Zh rfl jJ rfl<|Zp rfl dS rfl Mm0 rfl<|fC rfl U25 rfl ha rfl rfl bCV ?_);refine Ze [(_,_)] ν [] rfl (Or.inr Yi) (fun D5 M=>kS a (s.table.levels.length:Int) _) (fun v5 Y M G=>cU (P:=prog) (fn:=f178) rfl (aYF ⟨G.1,G.2⟩)) (fun v5 Y ν5 M G=>?_);obtain⟨O,rfl⟩:=G;refine aK<|Za rfl<|cZ rfl hn<|Ze [(_,_)] ν [] rfl (Or.inr Yi) (fun D7 R=>tI b 99 _) (fun Z D8 R I=>cU (P:=prog) (fn:=f178) rfl (aXR ⟨O,I.1,I.2⟩)) (fun Z D8 ν7 R I=>?_);obtain⟨T,rfl⟩:=I;refine aG ?_;obtain⟨bx,cap,junk,rfl,hcap,rfl,hl1,U⟩:=ha.some Yd;refine cX [] 5 14 4032<|Za rfl<|Zaj rfl<|Zh rfl aY rfl<|Zh rfl cT rfl<|Zh rfl jJ rfl<|Zp rfl dS rfl Mm0 rfl<|Za rfl<|cZ rfl hn<|Za rfl<|cZ rfl hn<|gT rfl U25 aL rfl rfl Yd Yd rfl bCV ?_;refine bJ (off:=0+(a.toNat)*1) (us:=[qI b]) (ws:=((s.table.levels.set a.toNat b).flatMap cI)++junk) rfl rfl rfl rfl aL (.tail .head) (by rw[GT,bS (f:=cI) (n:=1) (fun _=>rfl)];simp;omega) (AH (f:=cI) (n:=1) (xs:=s.table.levels) (i:=a.toNat) (x:=b) (fun _=>rfl) Yd) Yj bCV<|Zae ?_
 exact Zaf [] [] [_,_] [] rfl (fun D' hD=>⟨⟨O,T⟩,_,rfl,aXR ⟨bx,cap,junk,rfl,hcap,rfl,by rw[bS (n:=1) (fun _=>rfl),bBN],by rw[GT,bS (n:=1) (fun _=>rfl),bBN,←U,GT,hl1]⟩⟩)
theorem aIG(wb:Nat)(s:aQ)(pv cv hv lv mv bl bc yc yq nv:Value)(a b c:Int)(ν:aD)(D:aC)(hn:Sl D RI 1 nv [a,b,c])(ha:bZ 99 2 hv s.table.heights.length (s.table.heights.flatMap cP) ν)(hsm:s.table.heights.length≤100)(hF:0≤a)(hH:0≤b∧b≤1000):mC prog 175 [qP wb,nv] D ((wb,qC (cR s pv cv hv lv mv bl bc yc yq) 253)::ν) (fun _ _ ν'=>(a<(s.table.heights.length:Int)∧b≤c∧c≤99∧c≤b+2)∧∃ν1,ν'=(wb,qC (cR s pv cv hv lv mv bl bc yc yq) 253)::ν1∧bZ 99 2 hv s.table.heights.length ((s.table.heights.set a.toNat (b,c)).flatMap cP) ν1) (fun v=>((s.table.heights.length:Int)≤a∧v=fE 7)∨(a<(s.table.heights.length:Int)∧(c<b∨99<c∨b+2<c)∧v=fE 2)):=by
 obtain⟨bt,ot,ct,rfl⟩:=kJ hn Ye;have hbt:=nN hn;refine eP 53 func175 rfl rfl rfl rfl (fun h0 hwl hwn=>aO<|cX [] 7 11 1016<|Za rfl<|cZ rfl hn<|Za rfl<|Zaj rfl<|Zh rfl aY rfl<|Zh rfl cT rfl<|Zh rfl fA rfl<|Zp rfl lX rfl Mm0 rfl<|fC rfl U29 rfl ha rfl rfl bCV ?_);refine Ze [(_,_)] ν [] rfl (Or.inr Yi) (fun D5 R=>kS a (s.table.heights.length:Int) _) (fun v5 D6 R G=>cU (P:=prog) (fn:=f175) rfl (aYF ⟨G.1,G.2⟩)) (fun v5 D6 ν5 R G=>?_);obtain⟨T,rfl⟩:=G;refine bR<|cX [] 6 21 524216<|Za rfl<|cZ rfl hn<|Za rfl<|cZ rfl hn<|iH rfl rfl rfl rfl bCV<|Za rfl<|cZ rfl hn<|iH rfl rfl rfl rfl bCV<|Za rfl<|cZ rfl hn ?_;refine Za rfl<|cZ rfl hn<|Zaa rfl<|iH rfl rfl rfl rfl bCV<|Zn rfl U327 lU nT rfl (.cons rfl rfl (.cons rfl rfl (.cons rfl rfl .nil))) (fun hB hE V M=>Ze [(_,_)] ν [] rfl (aXR Yi) (fun D7 O=>fG 2 [decide (c<b),decide (99<c),decide (b+2<c)] _ _ ((gZ (l:=[decide (c<b),decide (99<c),decide (b+2<c)]) (fun _ _ _ h=>h) M Ye).up RB.up (O _ Ye))) (fun v7 D8 O I=>cU (P:=prog) (fn:=f175) rfl (aXR ⟨T,by simpa using I.1,I.2⟩)) (fun v7 D8 ν7 O I=>?_));obtain⟨U,rfl⟩:=I;have Y:b≤c∧c≤99∧c≤b+2:=by simpa using U
 refine aG ?_;obtain⟨bx,cap,junk,rfl,hcap,rfl,hl1,Z⟩:=ha.some Yd;refine cX [] 5 18 65472<|Za rfl<|Zaj rfl<|Zh rfl aY rfl<|Zh rfl cT rfl<|Zh rfl fA rfl<|Zp rfl lX rfl Mm0 rfl<|Za rfl<|cZ rfl hn<|Za rfl<|cZ rfl hn<|Za rfl ?_;refine cZ rfl hn<|Zo [qI b,qI c] rfl yT gJ rfl<|gT rfl U29 cE rfl rfl Yd Yd rfl bCV<|bJ (off:=0+(a.toNat)*2) (us:=[qI b,qI c]) (ws:=((s.table.heights.set a.toNat (b,c)).flatMap cP)++junk) rfl rfl rfl rfl cE (.tail .head) (by rw[GT,bS (f:=cP) (n:=2) (fun _=>rfl)];simp;omega) (AH (f:=cP) (n:=2) (xs:=s.table.heights) (i:=a.toNat) (x:=(b,c)) (fun _=>rfl) Yd) Yj bCV<|Zae ?_
 exact Zaf [] [] [_,_] [] rfl (fun D' hD=>⟨⟨T,Y⟩,_,rfl,aXR ⟨bx,cap,junk,rfl,hcap,rfl,by rw[bS (n:=2) (fun _=>rfl),bBN],by rw[GT,bS (n:=2) (fun _=>rfl),bBN,←Z,GT,hl1]⟩⟩)
end L12
namespace L12
open C12
theorem zA{wb t e sz n:Nat}{cs cells:List Value}{v:Value}{ν:aD}(ha:bZ e sz v n cells ν):∀p∈(wb,Obj.cells cs.toArray t (0,0))::ν,dD p.2:=by
 intro p hp;rcases GE.1 hp with rfl|hp
 ·rfl
 ·rcases ha with⟨_,_,_,_,rfl⟩|⟨b,cap,junk,_,_,rfl,_⟩
  ·cases hp
  ·simp only[aYH]at hp;subst hp;rfl
theorem aAU(wb:Nat)(s:aQ)(pv cv hv lv mv bl bc yc yq nv:Value)(a b:Int)(ν:aD)(D:aC)(hn:Sl D RI 1 nv [a,b])(ha:bZ 156 3 cv s.row.counts.length (s.row.counts.flatMap cC) ν)(hsm:s.row.counts.length≤100)(hpl:∃x c,pv=.slice x s.row.places.length c):mC prog 170 [qP wb,nv] D ((wb,qC (cR s pv cv hv lv mv bl bc yc yq) 253)::ν) (fun _ _ ν'=>((a≤(s.row.places.length:Int)∧b≤9)∧(s.row.counts.length:Int)<6)∧∃M ν1,ν'=(wb,qC (cR s pv M hv lv mv bl bc yc yq) 253)::ν1∧bZ 156 3 M (s.row.counts.length+1) ((s.row.counts++[(⟨false,a,b⟩:C1.wI)]).flatMap cC) ν1) (fun v=>(((s.row.places.length:Int)<a∨9<b)∧v=fE 2)∨((a≤(s.row.places.length:Int)∧b≤9)∧6≤(s.row.counts.length:Int)∧v=fE 3)):=by
 refine eP 7 func170 rfl rfl rfl rfl (fun h0 hwl hwn=>aX<|Za rfl<|Za rfl<|aJ ((wb,qC (cR s pv cv hv lv mv bl bc yc yq) 253)::ν++[]) (aXS _).symm<|fD (A:=[]) (ν:=(wb,qC (cR s pv cv hv lv mv bl bc yc yq) 253)::ν) (B:=[]) rfl rfl rfl rfl (aYF rfl) (zA ha) (fun R G=>Y0 wb s pv cv hv lv mv bl bc yc yq nv a b ν _ (hn.up RI.up (G _ Ye)) ha hsm false hpl) rfl bCV (fun v5 O G I=>cU (P:=prog) (fn:=f170) rfl I) (fun v5 O ν5 G I=>aJ ν5 (aXS _)<|Zae ?_));refine fun a w hh=>kP (P:=prog) (fn:=f170) (A:=[]) (ν':=ν5) (B:=[]) (vs:=[]) rfl rfl rfl bCV (fun D' hD=>I) a w (hh.boxesEq (aXS _).symm)
theorem aHO(wb:Nat)(s:aQ)(pv cv hv lv mv bl bc yc yq nv:Value)(a b:Int)(ν:aD)(D:aC)(hn:Sl D RI 1 nv [a,b])(ha:bZ 156 3 cv s.row.counts.length (s.row.counts.flatMap cC) ν)(hsm:s.row.counts.length≤100)(hpl:∃x c,pv=.slice x s.row.places.length c):mC prog 171 [qP wb,nv] D ((wb,qC (cR s pv cv hv lv mv bl bc yc yq) 253)::ν) (fun _ _ ν'=>((a≤(s.row.places.length:Int)∧b≤9)∧(s.row.counts.length:Int)<6)∧∃M ν1,ν'=(wb,qC (cR s pv M hv lv mv bl bc yc yq) 253)::ν1∧bZ 156 3 M (s.row.counts.length+1) ((s.row.counts++[(⟨true,a,b⟩:C1.wI)]).flatMap cC) ν1) (fun v=>(((s.row.places.length:Int)<a∨9<b)∧v=fE 2)∨((a≤(s.row.places.length:Int)∧b≤9)∧6≤(s.row.counts.length:Int)∧v=fE 3)):=by
 refine eP 7 func171 rfl rfl rfl rfl (fun h0 hwl hwn=>aX<|Za rfl<|Za rfl<|aJ ((wb,qC (cR s pv cv hv lv mv bl bc yc yq) 253)::ν++[]) (aXS _).symm<|fD (A:=[]) (ν:=(wb,qC (cR s pv cv hv lv mv bl bc yc yq) 253)::ν) (B:=[]) rfl rfl rfl rfl (aYF rfl) (zA ha) (fun R G=>Y0 wb s pv cv hv lv mv bl bc yc yq nv a b ν _ (hn.up RI.up (G _ Ye)) ha hsm true hpl) rfl bCV (fun v5 O G I=>cU (P:=prog) (fn:=f171) rfl I) (fun v5 O ν5 G I=>aJ ν5 (aXS _)<|Zae ?_));refine fun a w hh=>kP (P:=prog) (fn:=f171) (A:=[]) (ν':=ν5) (B:=[]) (vs:=[]) rfl rfl rfl bCV (fun D' hD=>I) a w (hh.boxesEq (aXS _).symm)
theorem aDR(wb:Nat)(s:aQ)(pv cv hv lv mv bl bc yc yq nv:Value)(a b:Int)(ν:aD)(D:aC)(hn:Sl D RI 1 nv [a,b])(ha:bZ 160 3 bl s.book.lines.length (s.book.lines.flatMap cL) ν)(hsm:s.book.lines.length≤100):mC prog 181 [qP wb,nv] D ((wb,qC (cR s pv cv hv lv mv bl bc yc yq) 253)::ν) (fun _ _ ν'=>(max a b<s.book.chairs∧(s.book.lines.length:Int)<8)∧∃M ν1,ν'=(wb,qC (cR s pv cv hv lv mv M bc yc yq) 253)::ν1∧bZ 160 3 M (s.book.lines.length+1) ((s.book.lines++[(⟨1,a,b⟩:C3.gM)]).flatMap cL) ν1) (fun v=>(s.book.chairs≤max a b∧v=fE 7)∨(max a b<s.book.chairs∧8≤(s.book.lines.length:Int)∧v=fE 3)):=by
 refine eP 7 func181 rfl rfl rfl rfl (fun h0 hwl hwn=>aX<|Za rfl<|Za rfl<|aJ ((wb,qC (cR s pv cv hv lv mv bl bc yc yq) 253)::ν++[]) (aXS _).symm<|fD (A:=[]) (ν:=(wb,qC (cR s pv cv hv lv mv bl bc yc yq) 253)::ν) (B:=[]) rfl rfl rfl rfl (aYF rfl) (zA ha) (fun R G=>Y5 wb s pv cv hv lv mv bl bc yc yq nv a b ν _ (hn.up RI.up (G _ Ye)) ha hsm 1) rfl bCV (fun v5 O G I=>cU (P:=prog) (fn:=f181) rfl I) (fun v5 O ν5 G I=>aJ ν5 (aXS _)<|Zae ?_));refine fun a w hh=>kP (P:=prog) (fn:=f181) (A:=[]) (ν':=ν5) (B:=[]) (vs:=[]) rfl rfl rfl bCV (fun D' hD=>I) a w (hh.boxesEq (aXS _).symm)
theorem YQ(wb:Nat)(s:aQ)(pv cv hv lv mv bl bc yc yq nv:Value)(a b:Int)(ν:aD)(D:aC)(hn:Sl D RI 1 nv [a,b])(ha:bZ 160 3 bl s.book.lines.length (s.book.lines.flatMap cL) ν)(hsm:s.book.lines.length≤100):mC prog 182 [qP wb,nv] D ((wb,qC (cR s pv cv hv lv mv bl bc yc yq) 253)::ν) (fun _ _ ν'=>(max a b<s.book.chairs∧(s.book.lines.length:Int)<8)∧∃M ν1,ν'=(wb,qC (cR s pv cv hv lv mv M bc yc yq) 253)::ν1∧bZ 160 3 M (s.book.lines.length+1) ((s.book.lines++[(⟨2,a,b⟩:C3.gM)]).flatMap cL) ν1) (fun v=>(s.book.chairs≤max a b∧v=fE 7)∨(max a b<s.book.chairs∧8≤(s.book.lines.length:Int)∧v=fE 3)):=by
 refine eP 7 func182 rfl rfl rfl rfl (fun h0 hwl hwn=>aX<|Za rfl<|Za rfl<|aJ ((wb,qC (cR s pv cv hv lv mv bl bc yc yq) 253)::ν++[]) (aXS _).symm<|fD (A:=[]) (ν:=(wb,qC (cR s pv cv hv lv mv bl bc yc yq) 253)::ν) (B:=[]) rfl rfl rfl rfl (aYF rfl) (zA ha) (fun R G=>Y5 wb s pv cv hv lv mv bl bc yc yq nv a b ν _ (hn.up RI.up (G _ Ye)) ha hsm 2) rfl bCV (fun v5 O G I=>cU (P:=prog) (fn:=f182) rfl I) (fun v5 O ν5 G I=>aJ ν5 (aXS _)<|Zae ?_));refine fun a w hh=>kP (P:=prog) (fn:=f182) (A:=[]) (ν':=ν5) (B:=[]) (vs:=[]) rfl rfl rfl bCV (fun D' hD=>I) a w (hh.boxesEq (aXS _).symm)
end L12
namespace L12
open C12
theorem YK{α:Type}{f:α→List Value}{n i k:Nat}(h:∀x,(f x).length=n){xs:List α}{x:α}{v:Value}{junk:List Value}(hx:xs[i]?= some x)(hk:k<n)(hv:(f x)[k]?= some v):(xs.flatMap f++junk)[0+i*n+k]?= some v:=by
 have h1:=EA h hx junk;have h2:(((xs.flatMap f++junk).drop (i*n)).take n)[k]?= some v:=by rw[h1];exact hv
 rw[bAN hk,bAD]at h2;rw[bAL];exact h2
theorem JM{α:Type}{f:α→List Value}{n i k off:Nat}(h:∀x,(f x).length=n){xs:List α}{x x2:α}{v:Value}{junk:List Value}(hx:xs[i]?= some x)(hk:k<n)(h2:f x2=(f x).take k++[v]++(f x).drop (k+1))(ho:off=i*n+k):(xs.flatMap f++junk).take off++[v]++(xs.flatMap f++junk).drop (off+ [v].length)=(xs.set i x2).flatMap f++junk:=by
 subst ho;induction xs generalizing i with
 |nil=>simp at hx
 |cons d xs ih=>
  have e:(d::xs).flatMap f++junk=f d++(xs.flatMap f++junk):=by simp
  cases i with
  |zero=>
   obtain rfl:d=x:=by simpa using hx
   have G:((d::xs).set 0 x2).flatMap f++junk=f x2++(xs.flatMap f++junk):=by simp
   rw[bBS,bAL,e,G,h2,aZA (by rw[h];omega),bBE,List.drop_append_of_le_length (by rw[h];omega)];simp
  |succ i=>
   have G:((d::xs).set (i+1) x2).flatMap f++junk=f d++((xs.set i x2).flatMap f++junk):=by simp
   rw[e,G,show(i+1)*n+k=(f d).length+(i*n+k) by rw[h,bAG];omega,List.take_length_add_append,show(f d).length+(i*n+k)+ [v].length=(f d).length+(i*n+k+ [v].length) by omega,bBQ,aYA,aYA];congr 1;rw[←aYA];exact ih (by simpa using hx)
def UI(p:C7.Pt)(i:Nat)(v:Int):C7.Pt:=if i=0 then {p with a:=v}else if i=1 then {p with b:=v}else {p with c:=v}
theorem aRG{x:C7.Ch}{i:Nat}{v:Int}(h:i<3):cH {x with parts:=UI x.parts i v}=(cH x).take (1+i)++[qI v]++(cH x).drop (1+i+1):=by
 have:i=0∨i=1∨i=2:=by omega
 rcases this with rfl|rfl|rfl<;>rfl
theorem RK(wb:Nat)(s:aQ)(pv cv hv lv mv bl bc yc yq nv:Value)(a:Int)(ν:aD)(D:aC)(hn:Sl D RI 1 nv [a])(ha:bZ 160 3 bl s.book.lines.length (s.book.lines.flatMap cL) ν)(hsm:s.book.lines.length≤100)(hE:0≤a):mC prog 183 [qP wb,nv] D ((wb,qC (cR s pv cv hv lv mv bl bc yc yq) 253)::ν) (fun _ _ ν'=>∃x,s.book.lines[a.toNat]?= some x∧(x.token≠ -1)∧∃ν1,ν'=(wb,qC (cR s pv cv hv lv mv bl bc yc yq) 253)::ν1∧bZ 160 3 bl s.book.lines.length ((s.book.lines.set a.toNat {x with token:= -1}).flatMap cL) ν1) (fun v=>((s.book.lines.length:Int)≤a∧v=fE 7)∨(∃x,s.book.lines[a.toNat]?= some x∧x.token= -1∧v=fE 6)):=by
 obtain⟨bt,ot,ct,rfl⟩:=kJ hn Ye;have hbt:=nN hn;refine eP 36 func183 rfl rfl rfl rfl (fun h0 hwl hwn=>aO<|cX [] 7 11 1016<|Za rfl<|cZ rfl hn<|Za rfl<|Zaj rfl<|Zh rfl aY rfl<|Zh rfl eK rfl<|Zh rfl cQ rfl<|Zp rfl eX rfl Mm0 rfl<|fC rfl U33 rfl ha rfl rfl bCV ?_);refine Ze [(_,_)] ν [] rfl (Or.inr Yi) (fun D5 R=>kS a (s.book.lines.length:Int) _) (fun v5 D6 R G=>cU (P:=prog) (fn:=f183) rfl (aYF ⟨G.1,G.2⟩)) (fun v5 D6 ν5 R G=>?_);obtain⟨hF,rfl⟩:=G;refine bR ?_;obtain⟨bx,cap,junk,rfl,hcap,rfl,hl1,U⟩:=ha.some Yd;obtain⟨x,hx⟩:=dX s.book.lines (a.toNat);refine cX [] 6 11 448<|Za rfl<|Zaj rfl<|Zh rfl aY rfl<|Zh rfl eK rfl<|Zh rfl cQ rfl<|Zp rfl eX rfl Mm0 rfl<|Za rfl<|cZ rfl hn<|gT rfl U33 bH rfl rfl Yd Yd rfl bCV<|Zj rfl<|aK ?_;refine Za rfl<|Zaj rfl<|Zh rfl mI rfl<|cF (v:=qI x.token) rfl aI rfl Mm1 (by simpa using YK (f:=cL) (n:=3) (k:=2) (fun _=>rfl) hx Yd rfl) n3 rfl bCV<|Zan rfl<|Zn rfl U327 lU nT rfl (.cons rfl rfl .nil) (fun Z hB V M=>Ze [(_,_),(_,_)] [] [] rfl (aXR Yi) (fun D7 O=>fG 6 [decide (x.token= -1)] _ _ ((gZ (l:=[decide (x.token= -1)]) (fun _ _ _ h=>h) M Ye).up RB.up (O _ Ye))) (fun v7 D8 O I=>cU (P:=prog) (fn:=f183) rfl (aXR ⟨x,hx,by simpa using I.1,I.2⟩)) (fun v7 D8 ν7 O I=>?_));obtain⟨T,rfl⟩:=I;have Y:x.token≠ -1:=by simpa using T
 refine aG<|aX<|Za rfl<|Zaj rfl<|Zh rfl mI rfl<|bJ (off:=0+a.toNat*3+2) (us:=[qI (-1)]) (ws:=((s.book.lines.set a.toNat {x with token:= -1}).flatMap cL)++junk) rfl rfl rfl rfl aL (.tail .head) (by rw[GT,bS (f:=cL) (n:=3) (fun _=>rfl)];simp;omega) (JM (f:=cL) (n:=3) (xs:=s.book.lines) (i:=a.toNat) (k:=2) (x:=x) (x2:={x with token:= -1}) (fun _=>rfl) hx Yd rfl Yd) Yj bCV<|Zae ?_;exact Zaf [] [] [_,_] [] rfl (fun D' hD=>⟨x,hx,Y,_,rfl,aXR ⟨bx,cap,junk,rfl,hcap,rfl,by rw[bS (n:=3) (fun _=>rfl),bBN],by rw[GT,bS (n:=3) (fun _=>rfl),bBN,←U,GT,hl1]⟩⟩)
theorem aFB(wb:Nat)(s:aQ)(pv cv hv lv mv bl bc yc yq nv:Value)(a b c:Int)(ν:aD)(D:aC)(hn:Sl D RI 1 nv [a,b,c])(ha:bZ 103 4 yc s.yard.chairs.length (s.yard.chairs.flatMap cH) ν)(hsm:s.yard.chairs.length≤100)(hB:0≤a)(hE:0≤b):mC prog 186 [qP wb,nv] D ((wb,qC (cR s pv cv hv lv mv bl bc yc yq) 253)::ν) (fun _ _ ν'=>∃x,s.yard.chairs[a.toNat]?= some x∧(b<3∧c≤2)∧∃ν1,ν'=(wb,qC (cR s pv cv hv lv mv bl bc yc yq) 253)::ν1∧bZ 103 4 yc s.yard.chairs.length ((s.yard.chairs.set a.toNat {x with parts:=UI x.parts b.toNat c}).flatMap cH) ν1) (fun v=>((s.yard.chairs.length:Int)≤a∧v=fE 7)∨(a<(s.yard.chairs.length:Int)∧3≤b∧v=fE 7)∨(a<(s.yard.chairs.length:Int)∧b<3∧2<c∧v=fE 2)):=by
 obtain⟨bt,ot,ct,rfl⟩:=kJ hn Ye;have hbt:=nN hn;refine eP 41 func186 rfl rfl rfl rfl (fun h0 hwl hwn=>aO<|cX [] 7 11 1016<|Za rfl<|cZ rfl hn<|Za rfl<|Zaj rfl<|Zh rfl aY rfl<|Zh rfl dZ rfl<|Zh rfl eR rfl<|Zp rfl kC rfl Mm0 rfl<|fC rfl U37 rfl ha rfl rfl bCV ?_);refine Ze [(_,_)] ν [] rfl (Or.inr Yi) (fun D5 O=>kS a (s.yard.chairs.length:Int) _) (fun v5 D6 O G=>cU (P:=prog) (fn:=f186) rfl (aYF ⟨G.1,G.2⟩)) (fun v5 D6 ν5 O G=>?_);obtain⟨R,rfl⟩:=G;refine aK<|Za rfl<|cZ rfl hn<|Ze [(_,_)] ν [] rfl (Or.inr Yi) (fun D7 T=>kS b 3 _) (fun v7 D8 T I=>cU (P:=prog) (fn:=f186) rfl (aXR (aYF ⟨R,I.1,I.2⟩))) (fun v7 D8 ν7 T I=>?_);obtain⟨U,rfl⟩:=I;refine aK<|Za rfl<|cZ rfl hn<|Ze [(_,_)] ν [] rfl (Or.inr Yi) (fun D9 V=>tI c 2 _) (fun v9 D10 V M=>cU (P:=prog) (fn:=f186) rfl (aXR (aXR ⟨R,U,M.1,M.2⟩))) (fun v9 D10 ν9 V M=>?_);obtain⟨Y,rfl⟩:=M;refine aG ?_;obtain⟨bx,cap,junk,rfl,hcap,rfl,hl1,Z⟩:=ha.some Yd;obtain⟨x,hx⟩:=dX s.yard.chairs (a.toNat);refine cX [] 5 19 131008<|Za rfl<|Zaj rfl<|Zh rfl aY rfl<|Zh rfl dZ rfl<|Zh rfl eR rfl<|Zp rfl kC rfl Mm0 rfl<|Za rfl<|cZ rfl hn<|Za rfl<|cZ rfl hn<|Za rfl ?_;refine cZ rfl hn<|gT rfl U37 jA rfl rfl Yd Yd rfl bCV<|Zh rfl zQ rfl<|eZ rfl U101 aL rfl rfl Yd Yd rfl bCV<|bJ (off:=0+a.toNat*4+1+b.toNat*1) (us:=[qI c]) (ws:=((s.yard.chairs.set a.toNat {x with parts:=UI x.parts b.toNat c}).flatMap cH)++junk) rfl rfl rfl rfl aL (.tail .head) (by rw[GT,bS (f:=cH) (n:=4) (fun _=>rfl)];simp;omega) (JM (f:=cH) (n:=4) (xs:=s.yard.chairs) (i:=a.toNat) (k:=(1+b.toNat)) (x:=x) (x2:={x with parts:=UI x.parts b.toNat c}) (fun _=>rfl) hx Yd (aRG Yd) Yd) Yj bCV<|Zae ?_
 exact Zaf [] [] [_,_] [] rfl (fun D' hD=>⟨x,hx,⟨U,Y⟩,_,rfl,aXR ⟨bx,cap,junk,rfl,hcap,rfl,by rw[bS (n:=4) (fun _=>rfl),bBN],by rw[GT,bS (n:=4) (fun _=>rfl),bBN,←Z,GT,hl1]⟩⟩)
end L12
namespace L12
open C12
def fP(xs:List ByteArray):Int:=if(decide ((40:Int)<(xs.length:Int))|| !xs.all fun l=>decide ((l.size:Int)≤50))=true then 3 else 0
theorem aPM(m:Int)(l:ByteArray)(D:aC):Fn prog 61 #[qI m,.string l] D (fun _ v=>v=.bool (decide ((l.size:Int)≤m))):=by
 refine enter 9 func61 rfl rfl rfl rfl fun h0=>aA<|Zj rfl<|aK<|Za rfl<|lN rfl U9 rfl rfl rfl bCV<|Za rfl<|mL rfl rfl rfl rfl bCV<|Zj rfl<|aH ?_
 exact aF rfl (fun D hD=>rfl)
theorem BK(sv fv:Value)(xs:List ByteArray)(p:ByteArray→Bool)(D:aC)(hS:Sl D RS 1 sv xs)(hp:cY prog D Value.string fv p):
  Fn prog 200 #[sv,fv] D (fun _ v=>v=qI (idxOf p xs)):=by
 have hl:=hS.len;obtain⟨f,c1,c2,rfl,hf⟩:=hp;refine enter 19 func200 rfl rfl rfl rfl fun h0=>aA<|Zj rfl<|bW<|Za rfl<|dH rfl U22 rfl Ym rfl rfl bCV<|Za rfl<|aG<|Zar<|bP (γ:=Nat) (fun k=>xs.length-k) (fun k=>k≤xs.length∧(xs.take k).any p=false) (fun k=>[(8,qI k)]) [(7,_),(4,_),(0,_),(1,_)] (fun k=>[D]) 0 Ye ⟨Yb,bCV⟩ bA (aE) ?_
 rintro k ⟨h1,h2⟩;refine aA<|Zai rfl<|bR<|Zz rfl (fun G=>?_) (fun G=>?_)
 ·have hk:k<xs.length:=by omega
  obtain⟨x,hx⟩:=dX xs k;refine aZ<|aO<|Zar<|aA<|Za rfl<|Zj rfl<|aK<|Za rfl<|Za rfl<|Za rfl<|eY rfl U22 jC rfl Ym rfl Yd Ym rfl bCV (fun U o1 I M T O=>?_);obtain rfl:I=[.string _]:=M;refine Zf 0 rfl I9 rfl O rfl<|Zc rfl (fun V R=>hf x _ (R _ Ye))<|aG<|aW rfl (fun hc2=>?_) (fun hc2=>?_)
  ·refine aA<|Za rfl<|Zj rfl<|aH<|Zav<|Zas<|Zas<|Zav<|Zas ?_;exact aF rfl (fun D hD=>by show Value.int _ _=_;rw[L1.jY hx h2 hc2])
  ·refine cB<|Zat<|Zap<|aX<|Zaa rfl<|Za rfl<|Zae ?_;have hpx:p x=false:=hc2;have h3:(xs.take (k+1)).any p=false:=by rw[aYG,hx,bBA,h2];simp[hpx]
   exact aM 12 (k+1) ⟨by omega,h3⟩ Yd ⟨Yb,bCV⟩ rfl rfl Mm5 (aE)
 ·refine aT<|Zaq<|Zaq<|Zau<|Zap<|aA<|Zj rfl<|aH ?_;exact aF rfl (fun D hD=>by show Value.int _ _=_;rw[L1.gK Yah])
theorem T4(sv fv:Value)(xs:List ByteArray)(p:ByteArray→Bool)(D:aC)(hS:Sl D RS 1 sv xs)(hp:cY prog D Value.string fv p):
  Fn prog 119 #[sv,fv] D (fun _ v=>v=.bool (xs.any p)):=by
 refine enter 9 func119 rfl rfl rfl rfl fun h0=>aA<|Zj rfl<|aK<|Za rfl<|Za rfl<|Zc rfl (fun I G=>BK _ _ xs p _ (Sl.at RS.up G Ym Ye) (hp.up (G _ Ye)))<|rZ rfl rfl rfl rfl bCV<|Zj rfl<|aH ?_
 exact aF rfl (fun D hD=>by show Value.bool (decide _)=_;rw[L1.kD])
theorem aCZ(b:Nat)(fv:Value)(p:ByteArray→Bool)(x:ByteArray)(D:aC)(hp:cY prog D Value.string fv p)(hB:At D b 0 [fv]):
  Fn prog 120 #[.string x,qP b] D (fun _ v=>v=.bool (!p x)):=by
 obtain⟨f,c1,c2,rfl,hf⟩:=hp;refine enter 8 func120 rfl rfl rfl rfl fun h0=>aA<|Zj rfl<|aK<|Zf 0 rfl aLL rfl hB rfl<|Za rfl<|Zc rfl (fun I G=>hf x _ (G _ Ye))<|Zak rfl<|Zj rfl<|aH ?_
 exact aF rfl (fun D hD=>rfl)
theorem aKW(sv fv:Value)(xs:List ByteArray)(p:ByteArray→Bool)(D:aC)(hS:Sl D RS 1 sv xs)(hp:cY prog D Value.string fv p)(h1:fv.cells=#[fv]):
  Fn prog 62 #[sv,fv] D (fun _ v=>v=.bool (xs.all p)):=by
 refine enter 9 func62 rfl rfl rfl rfl fun h0=>aA<|qH (vs:=[fv]) rfl rfl h1 rfl bCV (fun b I G hB=>Zj rfl<|aK<|Za rfl<|Zao rfl<|Zc rfl (fun I G=>T4 _ _ xs (fun x=> !p x) _ (Sl.at RS.up G Ym Ye) ⟨_,[],[qP b],rfl,fun x M hl=>aCZ b fv p x M (hp.up ((G _ Ye).trans hl)) (hB.up ((G _ Ye).trans hl))⟩)<|Zak rfl<|Zj rfl<|aH ?_)
 exact aF rfl (fun D hD=>by show Value.bool (!_)=_;rw[L1.nM])
theorem sT(sv:Value)(xs:List ByteArray)(D:aC)(hS:Sl D RS 1 sv xs):Fn prog 30 #[sv] D (fun _ v=>v=qI (fP xs)):=by
 have hl:=hS.len;refine enter 14 func30 rfl rfl rfl rfl fun h0=>aA<|Zj rfl<|aK<|Zao rfl<|Zj rfl<|bW<|Za rfl<|dH rfl U22 rfl Ym rfl rfl bCV<|iH rfl rfl rfl rfl bCV<|Za rfl ?_
 refine' dY 5 (s:=8) (p:=13) rfl (fun I=>?_) (fun I=>?_) ?_;rotate_left
 ·refine Zb rfl<|Zb rfl<|Zd rfl (fun R M=>aKW _ _ xs (fun l=>decide ((l.size:Int)≤50)) _ (Sl.at RS.up M Ym Ye) ⟨_,[_],[],rfl,fun l O _=>aPM 50 l O⟩ rfl)<|Zal rfl<|Zah rfl ?_;exact aR 4
 ·refine Zk rfl<|Zk rfl<|Zk rfl<|Zk rfl<|Zag rfl ?_;exact aR 4
 refine aG<|aW rfl (fun G=>?_) (fun G=>?_)
 ·refine aA<|Zj rfl<|aH<|Zas ?_;exact aF rfl (fun D hD=>by show Value.int _ _=_;rw[fP,aYJ G])
 ·refine aZ<|aA<|Zj rfl<|aH ?_;exact aF rfl (fun D hD=>by show Value.int _ _=_;rw[fP,aYC (by rw[G];simp)])
end L12
variable{P:Program}{X:Cx}{γb:Type}[Membership Nat γb]{bad:γb}{all:Array Oper}{K:Act→World→Prop}{Q:Exit→Act→World→Prop}
variable{σ:cG}{μ:aD}{Ds:List aC}{os:List (Bool×Nat)}{fl:Bool}{ix:Nat}
variable{d:Nat}{x y z:Operand}{u v:Value}{ty:TypeId}{pos:String}{aft:Array Edge}{g:Option (Nat×Bool)}
theorem wO{A B:aD}{t e tr:TypeId}{b o i m cap c2 sz:Nat}{vs xs:List Value}{ats:Array TypeId}
  (ho:all[ix]?= some ⟨some d,.call {callee:=.builtin .append,args:=#[x,y],argTypes:=ats},tr,pos,aft,g⟩) (ht:P.underlying t=some (.slice e)) (hat:ats[0]?= some t) (G:ats[1]?= some t) (hs:TS P e sz)
  (hx:ev σ x=some (qS b i cap)) (hy:ev σ y=some (.slice (some ⟨b,o,none⟩) m c2)) (hxs:(vs.drop o).take (m*sz)=xs) (hxl:xs.length=m*sz) (hfit:i+m≤cap) (hin:i*sz+m*sz≤vs.length) (I:∀u∈xs,cell1 u=true)
  (hfl:fl=false∨b∈bad) (hN:Nat.blt d X.N=true) (hg:dE all σ g)
  (kk:WL P X bad all K Q os ((d,qS b (i+m) cap)::σ) (A++(b,.cells (vs.take (i*sz)++xs++vs.drop (i*sz+m*sz)).toArray e (0,0))::B) Ds):
  WL P X bad all K Q ((fl,ix)::os) σ (A++(b,.cells vs.toArray e (0,0))::B) Ds:=by
 refine eI ho rfl rfl hg fun a w hh=>?_
 obtain⟨h1,h2,h3,D,h4,h5,M⟩:=id hh;have hbx:=(h4.box (b,.cells vs.toArray e (0,0)) Ye).1;have hex:(execOp a.eval ⟨some d,.call {callee:=.builtin .append,args:=#[x,y],argTypes:=ats},tr,pos,aft,g⟩).run P w=
   ((Builtin.append_ ats tr #[qS b i cap,.slice (some ⟨b,o,none⟩) m c2]).run P w).andThen fun r w'=>.ok (.value r) w':=by
  simp only[execOp,resolve,pure_bind,invoke,builtin];have O:(#[x,y].map a.eval)=#[qS b i cap,.slice (some ⟨b,o,none⟩) m c2]:=by simp[hh.eval hx,hh.eval hy]
  rw[O,Sem.run_bind];simp only[Sem.run_pure]
 rw[hex];have hm:(Builtin.lenOf (.slice (some ⟨b,o,none⟩) m c2)).run P w=.ok m w:=rfl;have hfc:(Builtin.firstCells sz m (.slice (some ⟨b,o,none⟩) m c2)).run P w=.ok xs.toArray w:=by
  simp only[Builtin.firstCells];refine kW hxl fun j u hj=>oK (cs:=vs.toArray) hbx ?_
  have hjl:=(aXZ.1 hj).1;rw[←hxs,bAN Yd,bAD]at hj;simpa using hj
 obtain⟨w',hr,hw'⟩:=iX (P:=P) xs 0 w b (i*sz) vs e hbx Yd I;rw[nJ (tr:=tr) (w':=w') ht hat G hs hm hfc hfit (by
  show(storeCells ((⟨b,0,none⟩:Addr).add (i*sz)) xs).run P w=_;rw[gI,bAL];exact hr)]
 rw[Nat.add_zero,hxl]at hw';have hHas:bO (A++(b,.cells vs.toArray e (0,0))::B) b (.cells vs.toArray e (0,0)) (.cells (vs.take (i*sz)++xs++vs.drop (i*sz+m*sz)).toArray e (0,0)) (A++(b,.cells (vs.take (i*sz)++xs++vs.drop (i*sz+m*sz)).toArray e (0,0))::B):=.app .head;have hst:=h4.set hHas hw' rfl;refine⟨fun hf=>⟨by rw[hw'.1];simp,fun c hc hcb=>?_⟩,kk _ _ (Hl.put ⟨h1,h2,h3,D,hst,h5,M.step (fun _ p hp=>aYF Yq) (fun _=>jI hw' (n4.2 ⟨_,hHas.mem,rfl⟩)) hst.dom⟩ hN _)⟩
 have hb:b∈bad:=by
  rcases hfl with h|h
  ·rw[hf]at h;cases h
  ·exact h
 rw[hw'.1,aZZ (by rintro rfl;exact hcb hb)]
theorem K4{A B:aD}{t e tr:TypeId}{b o n c:Nat}{z0:Value}{vs zs:List Value}{dd:Option Nat}{ats:Array TypeId}
  (ho:all[ix]?= some ⟨dd,.call {callee:=.builtin .clear,args:=#[x],argTypes:=ats},tr,pos,aft,g⟩) (hdd:dd=none) (ht:P.underlying t=some (.slice e)) (hat:ats[0]?= some t) (hz:TZ P e z0) (hx:ev σ x=some (.slice (some ⟨b,o,none⟩) n c)) (hn:n≠0)
  (hzs:Builtin.zeroCells z0.cells n=zs.toArray) (hin:o+zs.length≤vs.length) (G:∀u∈zs,cell1 u=true) (hg:dE all σ g)
  (kk:WL P X bad all K Q os σ (A++(b,.cells (vs.take o++zs++vs.drop (o+zs.length)).toArray e (0,0))::B) Ds):
  WL P X bad all K Q ((false,ix)::os) σ (A++(b,.cells vs.toArray e (0,0))::B) Ds:=by
 subst hdd;refine eI ho rfl rfl hg fun a w hh=>?_
 obtain⟨h1,h2,h3,D,h4,h5,M⟩:=id hh;have hbx:=(h4.box (b,.cells vs.toArray e (0,0)) Ye).1;obtain⟨w',hr,hw'⟩:=iX (P:=P) zs 0 w b o vs e hbx Yd G;rw[Nat.add_zero]at hw';have hcl:(Builtin.clear_ ats tr #[.slice (some ⟨b,o,none⟩) n c]).run P w=.ok (.tuple #[]) w':=by
  have I:(#[Value.slice (some ⟨b,o,none⟩) n c]:Array Value)[0]?= some (.slice (some ⟨b,o,none⟩) n c):=rfl;unfold Builtin.clear_;obtain⟨k,rfl⟩:∃k,n=k+1:=⟨n-1,by omega⟩
  simp only[hat,I,Sem.run_bind,TU.of ht w,Result.andThen_ok,hz w,hzs,Sem.run_pure];rw[hr];rfl
 have hex:∃r,(execOp a.eval ⟨none,.call {callee:=.builtin .clear,args:=#[x],argTypes:=ats},tr,pos,aft,g⟩).run P w=.ok (.value r) w':=by
  refine⟨.tuple #[],?_⟩;simp only[execOp,resolve,pure_bind,invoke,builtin];have I:(#[x].map a.eval)=#[.slice (some ⟨b,o,none⟩) n c]:=by simp[hh.eval hx]
  rw[I,Sem.run_bind,hcl];rfl
 obtain⟨r,hex⟩:=hex;rw[hex];have hHas:bO (A++(b,.cells vs.toArray e (0,0))::B) b (.cells vs.toArray e (0,0)) (.cells (vs.take o++zs++vs.drop (o+zs.length)).toArray e (0,0)) (A++(b,.cells (vs.take o++zs++vs.drop (o+zs.length)).toArray e (0,0))::B):=.app .head;have hst:=h4.set hHas hw' rfl;exact⟨fun h=>by simp at h,kk _ _ ⟨h1,h2,h3,D,hst,h5,M.step (fun _ p hp=>aYF Yq) (fun _=>jI hw' (n4.2 ⟨_,hHas.mem,rfl⟩)) hst.dom⟩⟩
variable{z2:Operand}
theorem VY{t e:TypeId}{b i n cap sz:Nat}{k:IntKind}(ho:all[ix]?= some ⟨some d,.slice t x none (some z) none,ty,pos,aft,g⟩)(ht:P.underlying t=some (.slice e))(hs:TS P e sz)(hx:ev σ x=some (qS b n cap))(hz:ev σ z=some (.int k (i:Int)))(hi:i≤cap)
  (hN:Nat.blt d X.N=true) (hg:dE all σ g) (kk:WL P X bad all K Q os ((d,qS b i cap)::σ) μ Ds):WL P X bad all K Q ((fl,ix)::os) σ μ Ds:=by
 have ha:(if cap=0 then some (⟨b,0,none⟩:Addr)else(some (⟨b,0,none⟩:Addr)).map (·.add (0*sz)))=some ⟨b,0,none⟩:=by
  split
  ·rfl
  ·simp[Addr.add]
 refine bX ho rfl rfl hN hg (fun ρ hρ w'=>?_) kk;simp only[execOp,aZX,aYX,hρ x _ hx,hρ z _ hz];unfold Instr.sliceAt Instr.slice Instr.sliceBounds Instr.sliceBound asIntOf;have hle:(0:Int)≤(i:Int)∧(i:Int)≤(cap:Nat):=by omega
 simp only[Sem.run_bind,TU.of ht w',Result.andThen_ok,Sem.run_pure,pure_bind,hs w',hle,bCL,aZU,aZN,bAX,ha]
theorem RY{t e:TypeId}{b j n cap sz:Nat}{k:IntKind}(ho:all[ix]?= some ⟨some d,.slice t x (some y) none none,ty,pos,aft,g⟩)(ht:P.underlying t=some (.slice e))(hs:TS P e sz)(hx:ev σ x=some (qS b n cap))(hy:ev σ y=some (.int k (j:Int)))(hj:j≤n)
  (hN:Nat.blt d X.N=true) (hg:dE all σ g) (kk:∀o,(j<cap→o=j*sz)→WL P X bad all K Q os ((d,.slice (some ⟨b,o,none⟩) (n-j) (cap-j))::σ) μ Ds):WL P X bad all K Q ((fl,ix)::os) σ μ Ds:=by
 have ha:(if cap=j then some (⟨b,0,none⟩:Addr)else(some (⟨b,0,none⟩:Addr)).map (·.add (j*sz)))=some ⟨b,if cap=j then 0 else j*sz,none⟩:=by
  split
  ·rfl
  ·simp[gI]
 refine bX ho rfl rfl hN hg (fun ρ hρ w'=>?_) (kk (if cap=j then 0 else j*sz) fun h=>by rw[aYC Yd]);simp only[execOp,aZX,aYX,hρ x _ hx,hρ y _ hy];unfold Instr.sliceAt Instr.slice Instr.sliceBounds Instr.sliceBound asIntOf;have hle:(0:Int)≤(j:Int)∧(j:Int)≤(n:Nat):=by omega
 simp only[Sem.run_bind,TU.of ht w',Result.andThen_ok,Sem.run_pure,pure_bind,hs w',hle,bCL,aZU,aZN,ha]
theorem UU{t e:TypeId}{b l h n cap sz:Nat}{k k':IntKind}(ho:all[ix]?= some ⟨some d,.slice t x (some y) (some z) none,ty,pos,aft,g⟩)(ht:P.underlying t=some (.slice e))(hs:TS P e sz)(hx:ev σ x=some (qS b n cap))(hy:ev σ y=some (.int k (l:Int)))(hz:ev σ z=some (.int k' (h:Int)))(h1:l≤h)(h2:h≤cap)(h3:l<cap)
  (hN:Nat.blt d X.N=true) (hg:dE all σ g) (kk:WL P X bad all K Q os ((d,.slice (some ⟨b,l*sz,none⟩) (h-l) (cap-l))::σ) μ Ds):WL P X bad all K Q ((fl,ix)::os) σ μ Ds:=by
 have ha:(if cap=l then some (⟨b,0,none⟩:Addr)else(some (⟨b,0,none⟩:Addr)).map (·.add (l*sz)))=some ⟨b,l*sz,none⟩:=by
  rw[aYC Yd];simp[gI]
 refine bX ho rfl rfl hN hg (fun ρ hρ w'=>?_) kk;simp only[execOp,aZX,aYX,hρ x _ hx,hρ y _ hy,hρ z _ hz];unfold Instr.sliceAt Instr.slice Instr.sliceBounds Instr.sliceBound asIntOf;have G:(0:Int)≤(l:Int)∧(l:Int)≤(h:Nat):=by omega
 have a2:(0:Int)≤(h:Int)∧(h:Int)≤(cap:Nat):=by omega
 simp only[Sem.run_bind,TU.of ht w',Result.andThen_ok,Sem.run_pure,pure_bind,hs w',G,a2,bCL,aZU,aZN,ha]
theorem WD{t e:TypeId}{b l h m n cap sz:Nat}{k k' I:IntKind}(ho:all[ix]?= some ⟨some d,.slice t x (some y) (some z) (some z2),ty,pos,aft,g⟩)(ht:P.underlying t=some (.slice e))(hs:TS P e sz)(hx:ev σ x=some (qS b n cap))(hy:ev σ y=some (.int k (l:Int)))(hz:ev σ z=some (.int k' (h:Int)))(G:ev σ z2=some (.int I (m:Int)))(h1:l≤h)(h2:h≤m)(h3:m≤cap)
  (hN:Nat.blt d X.N=true) (hg:dE all σ g) (kk:∀v,WL P X bad all K Q os ((d,v)::σ) μ Ds):WL P X bad all K Q ((fl,ix)::os) σ μ Ds:=by
 refine bX (v:=.slice (if m=l then some ⟨b,0,none⟩else(some (⟨b,0,none⟩:Addr)).map (·.add (l*sz))) (h-l) (m-l)) ho rfl rfl hN hg (fun ρ hρ w'=>?_) (kk _);simp only[execOp,aYX,hρ x _ hx,hρ y _ hy,hρ z _ hz,hρ z2 _ G];unfold Instr.sliceAt Instr.slice Instr.sliceBounds Instr.sliceBound asIntOf;have M:(0:Int)≤(l:Int)∧(l:Int)≤(h:Nat):=by omega
 have a2:(0:Int)≤(h:Int)∧(h:Int)≤(m:Nat):=by omega
 have a3:(0:Int)≤(m:Int)∧(m:Int)≤(cap:Nat):=by omega
 simp only[Sem.run_bind,TU.of ht w',Result.andThen_ok,Sem.run_pure,pure_bind,hs w',M,a2,a3,bCL,aZU,aZN];rfl
theorem KH{t e:TypeId}{D₁:aC}{b o n cap j:Nat}{k:IntKind}{xs:List Int}(ho:all[ix]?= some ⟨some d,.slice t x (some y) none none,ty,pos,aft,g⟩)(ht:P.underlying t=some (.slice e))(hs:TS P e 1)(hx:ev σ x=some (.slice (some ⟨b,o,none⟩) n cap))(hS:Sl D₁ RI 1 (.slice (some ⟨b,o,none⟩) n cap) xs)(hy:ev σ y=some (.int k (j:Int)))(hj:j<n)
  (hN:Nat.blt d X.N=true) (hg:dE all σ g) (kk:Sl D₁ RI 1 (.slice (some ⟨b,o+j,none⟩) (n-j) (cap-j)) (xs.drop j)→WL P X bad all K Q os ((d,.slice (some ⟨b,o+j,none⟩) (n-j) (cap-j))::σ) μ Ds):WL P X bad all K Q ((fl,ix)::os) σ μ Ds:=by
 obtain⟨a,c,hv,h1,h2,h3⟩:=hS;cases hv;rcases h3 with h3|⟨b',o',ha,h3⟩
 ·subst h3;simp at hj
 cases ha;have ha:(if cap=j then some (⟨b,o,none⟩:Addr)else(some (⟨b,o,none⟩:Addr)).map (·.add (j*1)))=some ⟨b,o+j,none⟩:=by
  rw[aYC Yd];simp[gI]
 refine bX ho rfl rfl hN hg (fun ρ hρ w'=>?_) (kk ⟨_,_,by rw[bAA],by rw[bAA];omega,by rw[bAA];omega,aXR ⟨b,o+j,rfl,fun i z hi=>?_⟩⟩)
 ·simp only[execOp,aZX,aYX,hρ x _ hx,hρ y _ hy];unfold Instr.sliceAt Instr.slice Instr.sliceBounds Instr.sliceBound asIntOf;have hle:(0:Int)≤(j:Int)∧(j:Int)≤(xs.length:Nat):=by omega
  simp only[Sem.run_bind,TU.of ht w',Result.andThen_ok,Sem.run_pure,pure_bind,hs w',hle,bCL,aZU,aZN,ha]
 ·rw[bAD]at hi;obtain⟨cs,hr,hc,hA⟩:=h3 _ _ hi;exact⟨cs,hr,hc,by rw[show o+j+i*1=o+(j+i)*1 by omega];exact hA⟩
theorem GM{t e:TypeId}{n len cap:Nat}{ad:Option Addr}(ho:all[ix]?= some ⟨some d,.sliceToArrayPointer t x,ty,pos,aft,g⟩)(ht:P.underlying t=some (.array n e))(hx:ev σ x=some (.slice ad len cap))(hl:n≤len)
  (hN:Nat.blt d X.N=true) (hg:dE all σ g) (kk:WL P X bad all K Q os ((d,.pointer ad)::σ) μ Ds):WL P X bad all K Q ((fl,ix)::os) σ μ Ds:=by
 refine eI ho rfl rfl hg fun a w hh=>?_
 have:(execOp a.eval ⟨some d,.sliceToArrayPointer t x,ty,pos,aft,g⟩).run P w=.ok (.value (.pointer ad)) w:=by
  simp only[execOp,hh.eval hx];unfold Instr.arrayAt;rw[Sem.run_bind,Sem.run_bind,TU.of ht w];simp only[Result.andThen_ok];rw[aYC Yd];rfl
 rw[this];exact⟨fun _=>nC.refl _ _,kk _ _ (hh.put hN _)⟩
namespace L12
open C12
section
variable{α:Type}{f:α→List Value}{n:Nat}(hf:∀x,(f x).length=n){xs:List α}{i:Nat}
include hf
theorem A0:((xs.drop (i+1)).flatMap f).length=(xs.length-(i+1))*n:=by rw[bS hf,bAA]
theorem ZA(k:Nat):(xs.flatMap f).take (k*n)=(xs.take k).flatMap f:=by
 induction xs generalizing k with
 |nil=>simp
 |cons x xs ih=>
  cases k with
  |zero=>simp
  |succ k=>
   rw[aZD,List.take_succ_cons,aZD,←ih k,show(k+1)*n=(f x).length+k*n by rw[hf,bAG];omega,List.take_length_add_append]
theorem XH(k:Nat):(xs.flatMap f).drop (k*n)=(xs.drop k).flatMap f:=by
 induction xs generalizing k with
 |nil=>simp
 |cons x xs ih=>
  cases k with
  |zero=>simp
  |succ k=>
   rw[aZD,List.drop_succ_cons,←ih k,show(k+1)*n=(f x).length+k*n by rw[hf,bAG];omega,bBQ]
theorem d5{cap o:Nat}{junk:List Value}(hi:i<xs.length)(hcap:xs.length≤cap)(ho:i+1<cap→o=(i+1)*n)(_:(xs.flatMap f++junk).length=cap*n):((xs.flatMap f++junk).drop o).take ((xs.length-(i+1))*n)=(xs.drop (i+1)).flatMap f:=by
 by_cases h:i+1<xs.length
 ·rw[ho Yd,List.drop_append_of_le_length (by rw[bS hf];exact bBY _ Yd),XH hf,aZA (by rw[A0 hf];exact aYI _),aYO (by rw[A0 hf];exact aYI _)]
 ·rw[show xs.length-(i+1)=0 by omega,bBS,List.take_zero,aYV Yd];rfl
theorem zO{junk:List Value}(hi:i<xs.length):(xs.flatMap f++junk).take (i*n)++(xs.drop (i+1)).flatMap f++(xs.flatMap f++junk).drop (i*n+(xs.length-(i+1))*n)=(xs.eraseIdx i).flatMap f++(xs.flatMap f++junk).drop ((xs.length-1)*n):=by
 rw[aZA (by rw[bS hf];exact bBY _ Yd),ZA hf,←aYP,←List.eraseIdx_eq_take_drop_succ,←bAG,show i+(xs.length-(i+1))=xs.length-1 by omega]
theorem M8{cap:Nat}{junk:List Value}(hi:i<xs.length)(_:(xs.flatMap f).length=xs.length*n)(G:(xs.flatMap f++junk).length=cap*n)(hcap:xs.length≤cap):((xs.eraseIdx i).flatMap f++(xs.flatMap f++junk).drop ((xs.length-1)*n)).length=cap*n:=by
 have h1:(xs.length-1)*n≤cap*n:=bBY _ Yd;rw[GT,bS hf,bBR hi,bAA,G];omega
theorem a7{cap b e:Nat}{junk zs:List Value}{cells:List Value}(hi:i<xs.length)(hl1:(xs.flatMap f).length=xs.length*n)(G:(xs.flatMap f++junk).length=cap*n)(hcap:xs.length≤cap)(hz:cells=((xs.eraseIdx i).flatMap f++(xs.flatMap f++junk).drop ((xs.length-1)*n)).take ((xs.length-1)*n)++zs++((xs.eraseIdx i).flatMap f++(xs.flatMap f++junk).drop ((xs.length-1)*n)).drop ((xs.length-1)*n+zs.length))(hzl:(xs.length-1)*n+zs.length≤cap*n:=by simp;omega):
  bZ e n (qS b (xs.length-1) cap) (xs.length-1) ((xs.eraseIdx i).flatMap f) [(b,qC cells e)]:=by
 have hE:((xs.eraseIdx i).flatMap f).length=(xs.length-1)*n:=by rw[bS hf,bBR hi]
 have hT:=M8 hf hi hl1 G hcap;subst hz;generalize hR:(xs.flatMap f++junk).drop ((xs.length-1)*n)=R at hT ⊢
 have I:((xs.eraseIdx i).flatMap f++R).take ((xs.length-1)*n)=(xs.eraseIdx i).flatMap f:=by rw[←hE,bBW]
 rw[I,aYA];refine aXR ⟨b,cap,_,rfl,by omega,rfl,hE,?_⟩;rw[GT,GT,bAA,hT,hE];omega
end
theorem PF(sv:Value)(xs:List C1.wI)(i:Nat)(ν:aD)(D:aC)(ha:bZ 156 3 sv xs.length (xs.flatMap cC) ν)(hi:i<xs.length):BA prog 254 [sv,qI (i:Int),qI ((i+1:Nat):Int)] D ν (fun _ v ν'=>bZ 156 3 v (xs.length-1) ((xs.eraseIdx i).flatMap cC) ν'):=by
 obtain⟨b,cap,junk,rfl,hcap,rfl,hl1,G⟩:=ha.some Yd;refine iR 33 func254 rfl rfl rfl rfl (fun h0 hwl hwn=>aA<|Zj rfl<|aK<|Za rfl<|Za rfl<|Za rfl<|Za rfl<|kK rfl U26 rfl rfl rfl bCV<|WD (l:=i) (h:=i+1) (m:=xs.length) rfl U26 hZ rfl rfl rfl rfl Yd Yd hcap rfl bCV (fun v3=>bW<|Za rfl ?_));refine Za rfl<|Zan rfl<|aG<|Zz rfl (fun I=>?_) (fun I=>?_)
 ·exact absurd I Yd
 ·refine aZ<|aA<|Za rfl<|kK rfl U26 rfl rfl rfl bCV<|Zj rfl<|bR<|bM [] 2 8 58<|Za rfl<|Za rfl<|VY (i:=i) rfl U26 hZ rfl rfl Yd rfl bCV<|Za rfl<|Za rfl ?_;refine RY (j:=i+1) rfl U26 hZ rfl rfl Yd rfl bCV (fun o ho=>wO (A:=[]) (B:=[]) (sz:=3) (xs:=(xs.drop (i+1)).flatMap cC) rfl U26 rfl rfl hZ rfl rfl (d5 (f:=cC) (fun _=>rfl) hi hcap ho G) (A0 (f:=cC) (fun _=>rfl)) Yd Yaj (gW JT _) (aYF rfl) rfl bCV ?_);rw[show i+(xs.length-(i+1))=xs.length-1 by omega];refine aJ [(b,qC ((xs.eraseIdx i).flatMap cC++(xs.flatMap cC++junk).drop ((xs.length-1)*3)) 156)] (by rw[aYT,zO (f:=cC) (fun _=>rfl) hi])<|Zj rfl<|aK<|Za rfl<|Za rfl<|kK rfl U26 rfl rfl rfl bCV<|Za rfl<|UU (l:=xs.length-1) (h:=xs.length) rfl U26 hZ rfl rfl rfl Yd hcap Yd rfl bCV ?_;rw[show xs.length-(xs.length-1)=1 by omega];refine K4 (A:=[]) (B:=[]) (zs:=[.bool false,qI 0,qI 0]) rfl rfl U26 rfl xA rfl Yd Yf (by rw[M8 (f:=cC) (fun _=>rfl) hi hl1 G hcap];simp;omega) Yj bCV<|aK<|Za rfl<|Zj rfl<|aH ?_
  exact Zac [] [] [_] [_] rfl ⟨rfl,bCV⟩ rfl (fun D hD=>a7 (f:=cC) (fun _=>rfl) hi hl1 G hcap rfl)
theorem OU(sv:Value)(xs:List C2.Mk)(i:Nat)(ν:aD)(D:aC)(ha:bZ 158 4 sv xs.length (xs.flatMap cM) ν)(hi:i<xs.length):BA prog 256 [sv,qI (i:Int),qI ((i+1:Nat):Int)] D ν (fun _ v ν'=>bZ 158 4 v (xs.length-1) ((xs.eraseIdx i).flatMap cM) ν'):=by
 obtain⟨b,cap,junk,rfl,hcap,rfl,hl1,G⟩:=ha.some Yd;refine iR 33 func256 rfl rfl rfl rfl (fun h0 hwl hwn=>aA<|Zj rfl<|aK<|Za rfl<|Za rfl<|Za rfl<|Za rfl<|kK rfl U30 rfl rfl rfl bCV<|WD (l:=i) (h:=i+1) (m:=xs.length) rfl U30 iN rfl rfl rfl rfl Yd Yd hcap rfl bCV (fun v3=>bW<|Za rfl ?_));refine Za rfl<|Zan rfl<|aG<|Zz rfl (fun I=>?_) (fun I=>?_)
 ·exact absurd I Yd
 ·refine aZ<|aA<|Za rfl<|kK rfl U30 rfl rfl rfl bCV<|Zj rfl<|bR<|bM [] 2 8 58<|Za rfl<|Za rfl<|VY (i:=i) rfl U30 iN rfl rfl Yd rfl bCV<|Za rfl<|Za rfl ?_;refine RY (j:=i+1) rfl U30 iN rfl rfl Yd rfl bCV (fun o ho=>wO (A:=[]) (B:=[]) (sz:=4) (xs:=(xs.drop (i+1)).flatMap cM) rfl U30 rfl rfl iN rfl rfl (d5 (f:=cM) (fun _=>rfl) hi hcap ho G) (A0 (f:=cM) (fun _=>rfl)) Yd Yaj (gW MQ _) (aYF rfl) rfl bCV ?_);rw[show i+(xs.length-(i+1))=xs.length-1 by omega];refine aJ [(b,qC ((xs.eraseIdx i).flatMap cM++(xs.flatMap cM++junk).drop ((xs.length-1)*4)) 158)] (by rw[aYT,zO (f:=cM) (fun _=>rfl) hi])<|Zj rfl<|aK<|Za rfl<|Za rfl<|kK rfl U30 rfl rfl rfl bCV<|Za rfl<|UU (l:=xs.length-1) (h:=xs.length) rfl U30 iN rfl rfl rfl Yd hcap Yd rfl bCV ?_;rw[show xs.length-(xs.length-1)=1 by omega];refine K4 (A:=[]) (B:=[]) (zs:=[qI 0,qI 0,qI 0,qI 0]) rfl rfl U30 rfl wE rfl Yd Yf (by rw[M8 (f:=cM) (fun _=>rfl) hi hl1 G hcap];simp;omega) Yj bCV<|aK<|Za rfl<|Zj rfl<|aH ?_
  exact Zac [] [] [_] [_] rfl ⟨rfl,bCV⟩ rfl (fun D hD=>a7 (f:=cM) (fun _=>rfl) hi hl1 G hcap rfl)
theorem OY(sv:Value)(xs:List C3.gM)(i:Nat)(ν:aD)(D:aC)(ha:bZ 160 3 sv xs.length (xs.flatMap cL) ν)(hi:i<xs.length):BA prog 258 [sv,qI (i:Int),qI ((i+1:Nat):Int)] D ν (fun _ v ν'=>bZ 160 3 v (xs.length-1) ((xs.eraseIdx i).flatMap cL) ν'):=by
 obtain⟨b,cap,junk,rfl,hcap,rfl,hl1,G⟩:=ha.some Yd;refine iR 33 func258 rfl rfl rfl rfl (fun h0 hwl hwn=>aA<|Zj rfl<|aK<|Za rfl<|Za rfl<|Za rfl<|Za rfl<|kK rfl U33 rfl rfl rfl bCV<|WD (l:=i) (h:=i+1) (m:=xs.length) rfl U33 bH rfl rfl rfl rfl Yd Yd hcap rfl bCV (fun v3=>bW<|Za rfl ?_));refine Za rfl<|Zan rfl<|aG<|Zz rfl (fun I=>?_) (fun I=>?_)
 ·exact absurd I Yd
 ·refine aZ<|aA<|Za rfl<|kK rfl U33 rfl rfl rfl bCV<|Zj rfl<|bR<|bM [] 2 8 58<|Za rfl<|Za rfl<|VY (i:=i) rfl U33 bH rfl rfl Yd rfl bCV<|Za rfl<|Za rfl ?_;refine RY (j:=i+1) rfl U33 bH rfl rfl Yd rfl bCV (fun o ho=>wO (A:=[]) (B:=[]) (sz:=3) (xs:=(xs.drop (i+1)).flatMap cL) rfl U33 rfl rfl bH rfl rfl (d5 (f:=cL) (fun _=>rfl) hi hcap ho G) (A0 (f:=cL) (fun _=>rfl)) Yd Yaj (gW LF _) (aYF rfl) rfl bCV ?_);rw[show i+(xs.length-(i+1))=xs.length-1 by omega];refine aJ [(b,qC ((xs.eraseIdx i).flatMap cL++(xs.flatMap cL++junk).drop ((xs.length-1)*3)) 160)] (by rw[aYT,zO (f:=cL) (fun _=>rfl) hi])<|Zj rfl<|aK<|Za rfl<|Za rfl<|kK rfl U33 rfl rfl rfl bCV<|Za rfl<|UU (l:=xs.length-1) (h:=xs.length) rfl U33 bH rfl rfl rfl Yd hcap Yd rfl bCV ?_;rw[show xs.length-(xs.length-1)=1 by omega];refine K4 (A:=[]) (B:=[]) (zs:=[qI 0,qI 0,qI 0]) rfl rfl U33 rfl dU rfl Yd Yf (by rw[M8 (f:=cL) (fun _=>rfl) hi hl1 G hcap];simp;omega) Yj bCV<|aK<|Za rfl<|Zj rfl<|aH ?_
  exact Zac [] [] [_] [_] rfl ⟨rfl,bCV⟩ rfl (fun D hD=>a7 (f:=cL) (fun _=>rfl) hi hl1 G hcap rfl)
theorem NQ(sv:Value)(xs:List (Int×Int))(i:Nat)(ν:aD)(D:aC)(ha:bZ 133 2 sv xs.length (xs.flatMap cP) ν)(hi:i<xs.length):BA prog 259 [sv,qI (i:Int),qI ((i+1:Nat):Int)] D ν (fun _ v ν'=>bZ 133 2 v (xs.length-1) ((xs.eraseIdx i).flatMap cP) ν'):=by
 obtain⟨b,cap,junk,rfl,hcap,rfl,hl1,G⟩:=ha.some Yd;refine iR 33 func259 rfl rfl rfl rfl (fun h0 hwl hwn=>aA<|Zj rfl<|aK<|Za rfl<|Za rfl<|Za rfl<|Za rfl<|kK rfl U38 rfl rfl rfl bCV<|WD (l:=i) (h:=i+1) (m:=xs.length) rfl U38 cD rfl rfl rfl rfl Yd Yd hcap rfl bCV (fun v3=>bW<|Za rfl ?_));refine Za rfl<|Zan rfl<|aG<|Zz rfl (fun I=>?_) (fun I=>?_)
 ·exact absurd I Yd
 ·refine aZ<|aA<|Za rfl<|kK rfl U38 rfl rfl rfl bCV<|Zj rfl<|bR<|bM [] 2 8 58<|Za rfl<|Za rfl<|VY (i:=i) rfl U38 cD rfl rfl Yd rfl bCV<|Za rfl<|Za rfl ?_;refine RY (j:=i+1) rfl U38 cD rfl rfl Yd rfl bCV (fun o ho=>wO (A:=[]) (B:=[]) (sz:=2) (xs:=(xs.drop (i+1)).flatMap cP) rfl U38 rfl rfl cD rfl rfl (d5 (f:=cP) (fun _=>rfl) hi hcap ho G) (A0 (f:=cP) (fun _=>rfl)) Yd Yaj (gW j5 _) (aYF rfl) rfl bCV ?_);rw[show i+(xs.length-(i+1))=xs.length-1 by omega];refine aJ [(b,qC ((xs.eraseIdx i).flatMap cP++(xs.flatMap cP++junk).drop ((xs.length-1)*2)) 133)] (by rw[aYT,zO (f:=cP) (fun _=>rfl) hi])<|Zj rfl<|aK<|Za rfl<|Za rfl<|kK rfl U38 rfl rfl rfl bCV<|Za rfl<|UU (l:=xs.length-1) (h:=xs.length) rfl U38 cD rfl rfl rfl Yd hcap Yd rfl bCV ?_;rw[show xs.length-(xs.length-1)=1 by omega];refine K4 (A:=[]) (B:=[]) (zs:=[qI 0,qI 0]) rfl rfl U38 rfl jL rfl Yd Yf (by rw[M8 (f:=cP) (fun _=>rfl) hi hl1 G hcap];simp;omega) Yj bCV<|aK<|Za rfl<|Zj rfl<|aH ?_
  exact Zac [] [] [_] [_] rfl ⟨rfl,bCV⟩ rfl (fun D hD=>a7 (f:=cP) (fun _=>rfl) hi hl1 G hcap rfl)
end L12
namespace L12
open C12
theorem nH{e sz n:Nat}{cells:List Value}{v:Value}{ν:aD}(ha:bZ e sz v n cells ν):∀p∈ν,dD p.2:=by
 intro p hp;rcases ha with⟨_,_,_,_,rfl⟩|⟨b,cap,junk,_,_,rfl,_⟩
 ·cases hp
 ·simp only[aYH]at hp;subst hp;rfl
theorem JL(wb:Nat)(s:aQ)(pv cv hv lv mv bl bc yc yq nv:Value)(a:Int)(ν:aD)(D:aC)(hn:Sl D RI 1 nv [a])(ha:bZ 156 3 cv s.row.counts.length (s.row.counts.flatMap cC) ν)(hsm:s.row.counts.length≤100)(U:0≤a):mC prog 172 [qP wb,nv] D ((wb,qC (cR s pv cv hv lv mv bl bc yc yq) 253)::ν) (fun _ _ ν'=>a<(s.row.counts.length:Int)∧∃R ν1,ν'=(wb,qC (cR s pv R hv lv mv bl bc yc yq) 253)::ν1∧bZ 156 3 R (s.row.counts.length-1) ((s.row.counts.eraseIdx a.toNat).flatMap cC) ν1) (fun v=>(s.row.counts.length:Int)≤a∧v=fE 7):=by
 obtain⟨bt,ot,ct,rfl⟩:=kJ hn Ye;obtain⟨i,rfl⟩:∃i:Nat,a=(i:Int):=⟨a.toNat,by omega⟩
 have hbt:=nN hn;refine eP 34 func172 rfl rfl rfl rfl (fun h0 hwl hwn=>aO<|cX [] 7 11 1016<|Za rfl<|cZ rfl hn<|Za rfl<|Zaj rfl<|Zh rfl aY rfl<|Zh rfl dJ rfl<|Zh rfl iE rfl<|Zp rfl pH rfl Mm0 rfl<|fC rfl U26 rfl ha rfl rfl bCV ?_);refine Ze [(_,_)] ν [] rfl (Or.inr Yi) (fun D5 M=>kS (i:Int) (s.row.counts.length:Int) _) (fun v5 V M G=>cU (P:=prog) (fn:=f172) rfl ⟨G.1,G.2⟩) (fun v5 V ν5 M G=>?_);obtain⟨O,rfl⟩:=G;refine aG<|lG hbt Ye (fun hap=>xP (fun hnd=>?_));have hnu:=mS hap hnd;have hwbo:wb∉eQ.mk [bt,wb]:=eQ.out Ye;have hbto:bt∉eQ.mk [bt,wb]:=eQ.out Ye;refine cX (eQ.mk [bt,wb]) 4 20 32766<|Za rfl<|Za rfl<|Zaj rfl<|Zh rfl aY rfl<|Zh rfl dJ rfl<|Zh rfl iE rfl<|cF rfl pH rfl Mm0 rfl Yn rfl bCV<|Za rfl<|cZ rfl hn<|Za rfl<|cZ rfl hn ?_;refine Zaa rfl<|aJ ((wb,qC (cR s pv cv hv lv mv bl bc yc yq) 253)::ν) rfl<|aJ ((wb,qC (cR s pv cv hv lv mv bl bc yc yq) 253)::ν++[]) (aXS _).symm<|fJ (A:=[(wb,qC (cR s pv cv hv lv mv bl bc yc yq) 253)]) (ν:=ν) (B:=[]) rfl rfl rfl rfl Yp (nH ha) (fun D7 Y=>PF _ s.row.counts i ν _ ha Yd) rfl bCV (fun T D8 ν7 Z I=>aJ ((wb,qC (cR s pv cv hv lv mv bl bc yc yq) 253)::ν7) (aXS _)<|Zaj rfl<|Zh rfl aY rfl<|Zh rfl dJ rfl<|Zh rfl iE rfl<|bJ (ws:=(cR s pv T hv lv mv bl bc yc yq)) rfl rfl rfl I.cells1 GU .head Ye rfl I.cell1 bCV<|Zae ?_);refine fun a w hh=>kP (P:=prog) (fn:=f172) (A:=[]) (ν':=((wb,_)::ν7)) (B:=[]) (vs:=[]) rfl rfl rfl bCV (fun D' hD=>⟨O,T,ν7,rfl,I⟩) a w (hh.boxesEq (aXS _).symm)
theorem QB(wb:Nat)(s:aQ)(pv cv hv lv mv bl bc yc yq nv:Value)(a:Int)(ν:aD)(D:aC)(hn:Sl D RI 1 nv [a])(ha:bZ 158 4 mv s.table.marks.length (s.table.marks.flatMap cM) ν)(hsm:s.table.marks.length≤100)(U:0≤a):mC prog 180 [qP wb,nv] D ((wb,qC (cR s pv cv hv lv mv bl bc yc yq) 253)::ν) (fun _ _ ν'=>a<(s.table.marks.length:Int)∧∃R ν1,ν'=(wb,qC (cR s pv cv hv lv R bl bc yc yq) 253)::ν1∧bZ 158 4 R (s.table.marks.length-1) ((s.table.marks.eraseIdx a.toNat).flatMap cM) ν1) (fun v=>(s.table.marks.length:Int)≤a∧v=fE 7):=by
 obtain⟨bt,ot,ct,rfl⟩:=kJ hn Ye;obtain⟨i,rfl⟩:∃i:Nat,a=(i:Int):=⟨a.toNat,by omega⟩
 have hbt:=nN hn;refine eP 34 func180 rfl rfl rfl rfl (fun h0 hwl hwn=>aO<|cX [] 7 11 1016<|Za rfl<|cZ rfl hn<|Za rfl<|Zaj rfl<|Zh rfl aY rfl<|Zh rfl cT rfl<|Zh rfl iF rfl<|Zp rfl oY rfl Mm0 rfl<|fC rfl U30 rfl ha rfl rfl bCV ?_);refine Ze [(_,_)] ν [] rfl (Or.inr Yi) (fun D5 M=>kS (i:Int) (s.table.marks.length:Int) _) (fun v5 V M G=>cU (P:=prog) (fn:=f180) rfl ⟨G.1,G.2⟩) (fun v5 V ν5 M G=>?_);obtain⟨O,rfl⟩:=G;refine aG<|lG hbt Ye (fun hap=>xP (fun hnd=>?_));have hnu:=mS hap hnd;have hwbo:wb∉eQ.mk [bt,wb]:=eQ.out Ye;have hbto:bt∉eQ.mk [bt,wb]:=eQ.out Ye;refine cX (eQ.mk [bt,wb]) 4 20 32766<|Za rfl<|Za rfl<|Zaj rfl<|Zh rfl aY rfl<|Zh rfl cT rfl<|Zh rfl iF rfl<|cF rfl oY rfl Mm0 rfl Yn rfl bCV<|Za rfl<|cZ rfl hn<|Za rfl<|cZ rfl hn ?_;refine Zaa rfl<|aJ ((wb,qC (cR s pv cv hv lv mv bl bc yc yq) 253)::ν) rfl<|aJ ((wb,qC (cR s pv cv hv lv mv bl bc yc yq) 253)::ν++[]) (aXS _).symm<|fJ (A:=[(wb,qC (cR s pv cv hv lv mv bl bc yc yq) 253)]) (ν:=ν) (B:=[]) rfl rfl rfl rfl Yp (nH ha) (fun D7 Y=>OU _ s.table.marks i ν _ ha Yd) rfl bCV (fun T D8 ν7 Z I=>aJ ((wb,qC (cR s pv cv hv lv mv bl bc yc yq) 253)::ν7) (aXS _)<|Zaj rfl<|Zh rfl aY rfl<|Zh rfl cT rfl<|Zh rfl iF rfl<|bJ (ws:=(cR s pv cv hv lv T bl bc yc yq)) rfl rfl rfl I.cells1 IJ .head Ye rfl I.cell1 bCV<|Zae ?_);refine fun a w hh=>kP (P:=prog) (fn:=f180) (A:=[]) (ν':=((wb,_)::ν7)) (B:=[]) (vs:=[]) rfl rfl rfl bCV (fun D' hD=>⟨O,T,ν7,rfl,I⟩) a w (hh.boxesEq (aXS _).symm)
theorem PQ(wb:Nat)(s:aQ)(pv cv hv lv mv bl bc yc yq nv:Value)(a:Int)(ν:aD)(D:aC)(hn:Sl D RI 1 nv [a])(ha:bZ 160 3 bl s.book.lines.length (s.book.lines.flatMap cL) ν)(hsm:s.book.lines.length≤100)(U:0≤a):mC prog 184 [qP wb,nv] D ((wb,qC (cR s pv cv hv lv mv bl bc yc yq) 253)::ν) (fun _ _ ν'=>a<(s.book.lines.length:Int)∧∃R ν1,ν'=(wb,qC (cR s pv cv hv lv mv R bc yc yq) 253)::ν1∧bZ 160 3 R (s.book.lines.length-1) ((s.book.lines.eraseIdx a.toNat).flatMap cL) ν1) (fun v=>(s.book.lines.length:Int)≤a∧v=fE 7):=by
 obtain⟨bt,ot,ct,rfl⟩:=kJ hn Ye;obtain⟨i,rfl⟩:∃i:Nat,a=(i:Int):=⟨a.toNat,by omega⟩
 have hbt:=nN hn;refine eP 34 func184 rfl rfl rfl rfl (fun h0 hwl hwn=>aO<|cX [] 7 11 1016<|Za rfl<|cZ rfl hn<|Za rfl<|Zaj rfl<|Zh rfl aY rfl<|Zh rfl eK rfl<|Zh rfl cQ rfl<|Zp rfl eX rfl Mm0 rfl<|fC rfl U33 rfl ha rfl rfl bCV ?_);refine Ze [(_,_)] ν [] rfl (Or.inr Yi) (fun D5 M=>kS (i:Int) (s.book.lines.length:Int) _) (fun v5 V M G=>cU (P:=prog) (fn:=f184) rfl ⟨G.1,G.2⟩) (fun v5 V ν5 M G=>?_);obtain⟨O,rfl⟩:=G;refine aG<|lG hbt Ye (fun hap=>xP (fun hnd=>?_));have hnu:=mS hap hnd;have hwbo:wb∉eQ.mk [bt,wb]:=eQ.out Ye;have hbto:bt∉eQ.mk [bt,wb]:=eQ.out Ye;refine cX (eQ.mk [bt,wb]) 4 20 32766<|Za rfl<|Za rfl<|Zaj rfl<|Zh rfl aY rfl<|Zh rfl eK rfl<|Zh rfl cQ rfl<|cF rfl eX rfl Mm0 rfl Yn rfl bCV<|Za rfl<|cZ rfl hn<|Za rfl<|cZ rfl hn ?_;refine Zaa rfl<|aJ ((wb,qC (cR s pv cv hv lv mv bl bc yc yq) 253)::ν) rfl<|aJ ((wb,qC (cR s pv cv hv lv mv bl bc yc yq) 253)::ν++[]) (aXS _).symm<|fJ (A:=[(wb,qC (cR s pv cv hv lv mv bl bc yc yq) 253)]) (ν:=ν) (B:=[]) rfl rfl rfl rfl Yp (nH ha) (fun D7 Y=>OY _ s.book.lines i ν _ ha Yd) rfl bCV (fun T D8 ν7 Z I=>aJ ((wb,qC (cR s pv cv hv lv mv bl bc yc yq) 253)::ν7) (aXS _)<|Zaj rfl<|Zh rfl aY rfl<|Zh rfl eK rfl<|Zh rfl cQ rfl<|bJ (ws:=(cR s pv cv hv lv mv T bc yc yq)) rfl rfl rfl I.cells1 eH .head Ye rfl I.cell1 bCV<|Zae ?_);refine fun a w hh=>kP (P:=prog) (fn:=f184) (A:=[]) (ν':=((wb,_)::ν7)) (B:=[]) (vs:=[]) rfl rfl rfl bCV (fun D' hD=>⟨O,T,ν7,rfl,I⟩) a w (hh.boxesEq (aXS _).symm)
theorem MU(wb:Nat)(s:aQ)(pv cv hv lv mv bl bc yc yq nv:Value)(a:Int)(ν:aD)(D:aC)(hn:Sl D RI 1 nv [a])(ha:bZ 133 2 yq s.yard.claims.length (s.yard.claims.flatMap cP) ν)(hsm:s.yard.claims.length≤100)(U:0≤a):mC prog 189 [qP wb,nv] D ((wb,qC (cR s pv cv hv lv mv bl bc yc yq) 253)::ν) (fun _ _ ν'=>a<(s.yard.claims.length:Int)∧∃R ν1,ν'=(wb,qC (cR s pv cv hv lv mv bl bc yc R) 253)::ν1∧bZ 133 2 R (s.yard.claims.length-1) ((s.yard.claims.eraseIdx a.toNat).flatMap cP) ν1) (fun v=>(s.yard.claims.length:Int)≤a∧v=fE 7):=by
 obtain⟨bt,ot,ct,rfl⟩:=kJ hn Ye;obtain⟨i,rfl⟩:∃i:Nat,a=(i:Int):=⟨a.toNat,by omega⟩
 have hbt:=nN hn;refine eP 34 func189 rfl rfl rfl rfl (fun h0 hwl hwn=>aO<|cX [] 7 11 1016<|Za rfl<|cZ rfl hn<|Za rfl<|Zaj rfl<|Zh rfl aY rfl<|Zh rfl dZ rfl<|Zh rfl iL rfl<|Zp rfl oZ rfl Mm0 rfl<|fC rfl U38 rfl ha rfl rfl bCV ?_);refine Ze [(_,_)] ν [] rfl (Or.inr Yi) (fun D5 M=>kS (i:Int) (s.yard.claims.length:Int) _) (fun v5 V M G=>cU (P:=prog) (fn:=f189) rfl ⟨G.1,G.2⟩) (fun v5 V ν5 M G=>?_);obtain⟨O,rfl⟩:=G;refine aG<|lG hbt Ye (fun hap=>xP (fun hnd=>?_));have hnu:=mS hap hnd;have hwbo:wb∉eQ.mk [bt,wb]:=eQ.out Ye;have hbto:bt∉eQ.mk [bt,wb]:=eQ.out Ye;refine cX (eQ.mk [bt,wb]) 4 20 32766<|Za rfl<|Za rfl<|Zaj rfl<|Zh rfl aY rfl<|Zh rfl dZ rfl<|Zh rfl iL rfl<|cF rfl oZ rfl Mm0 rfl Yn rfl bCV<|Za rfl<|cZ rfl hn<|Za rfl<|cZ rfl hn ?_;refine Zaa rfl<|aJ ((wb,qC (cR s pv cv hv lv mv bl bc yc yq) 253)::ν) rfl<|aJ ((wb,qC (cR s pv cv hv lv mv bl bc yc yq) 253)::ν++[]) (aXS _).symm<|fJ (A:=[(wb,qC (cR s pv cv hv lv mv bl bc yc yq) 253)]) (ν:=ν) (B:=[]) rfl rfl rfl rfl Yp (nH ha) (fun D7 Y=>NQ _ s.yard.claims i ν _ ha Yd) rfl bCV (fun T D8 ν7 Z I=>aJ ((wb,qC (cR s pv cv hv lv mv bl bc yc yq) 253)::ν7) (aXS _)<|Zaj rfl<|Zh rfl aY rfl<|Zh rfl dZ rfl<|Zh rfl iL rfl<|bJ (ws:=(cR s pv cv hv lv mv bl bc yc T)) rfl rfl rfl I.cells1 FP .head Ye rfl I.cell1 bCV<|Zae ?_);refine fun a w hh=>kP (P:=prog) (fn:=f189) (A:=[]) (ν':=((wb,_)::ν7)) (B:=[]) (vs:=[]) rfl rfl rfl bCV (fun D' hD=>⟨O,T,ν7,rfl,I⟩) a w (hh.boxesEq (aXS _).symm)
end L12
namespace L12
open C12
theorem aSV{D:aC}{bt ot n ct:Nat}{a b c d:Int}(h:Sl D RI 1 (.slice (some ⟨bt,ot,none⟩) n ct) [a,b,c,d]):At D bt (ot+1) [qI b,qI c,qI d]:=by
  obtain⟨x,cap,hv,h1,h2,h3⟩:=h;cases hv;rcases h3 with h3|⟨b',o,ha,h3⟩
  · cases h3
  · cases ha;intro j v hj;have key:∀(i:Nat) (z:Int),[a,b,c,d][i]?= some z→(D bt)[ot+i]?= some (qI z):=fun i z hi=>by
      obtain⟨cs,hr,hc,hA⟩:=h3 i z hi;obtain rfl:cs=[qI z]:=hr;have:=hA 0 _ rfl;simpa using this
    match j with
    | 0 => obtain rfl : Value.int .i64 b = v := by simpa using hj
           exact key 1 b rfl
    | 1 => obtain rfl : Value.int .i64 c = v := by simpa using hj
           exact key 2 c rfl
    | 2 => obtain rfl : Value.int .i64 d = v := by simpa using hj
           exact key 3 d rfl
    |j+3=>simp at hj
theorem OH(wb:Nat)(s:aQ)(pv cv hv lv mv bl bc yc yq nv:Value)(a b c d:Int)(ν:aD)(D:aC)(hn:Sl D RI 1 nv [a,b,c,d])(ha:bZ 103 4 yc s.yard.chairs.length (s.yard.chairs.flatMap cH) ν)(hsm:s.yard.chairs.length≤100):mC prog 185 [qP wb,nv] D ((wb,qC (cR s pv cv hv lv mv bl bc yc yq) 253)::ν) (fun _ _ ν'=>((a≤9∧max (max b c) d≤2)∧(s.yard.chairs.length:Int)<5)∧∃V ν1,ν'=(wb,qC (cR s pv cv hv lv mv bl bc V yq) 253)::ν1∧bZ 103 4 V (s.yard.chairs.length+1) ((s.yard.chairs++[(⟨a,⟨b,c,d⟩⟩:C7.Ch)]).flatMap cH) ν1) (fun v=>((9<a∨2<max (max b c) d)∧v=fE 2)∨((a≤9∧max (max b c) d≤2)∧5≤(s.yard.chairs.length:Int)∧v=fE 3)):=by
 obtain⟨bt,ot,ct,rfl⟩:=kJ hn Ye;have hbt:=nN hn;refine eP 43 func185 rfl rfl rfl rfl (fun h0 hwl hwn=>aO<|cX [] 5 10 240<|Za rfl<|cZ rfl hn<|iH rfl rfl rfl rfl bCV<|Za rfl<|KH (j:=1) rfl U25 aL rfl hn rfl Ye rfl bCV (fun hsT=>Zc rfl (fun D3 hB=>L2.aGM _ b [c,d] _ (hsT.up RI.up (hB _ Ye)))<|iH rfl rfl rfl rfl bCV<|Zn rfl U327 lU nT rfl (.cons rfl rfl (.cons rfl rfl .nil)) (fun hJ hK hE O=>Ze [(_,_)] ν [] rfl (aXR Yi) (fun D5 R=>fG 2 [decide (9<a),decide (2<max (max b c) d)] _ _ ((gZ (l:=[decide (9<a),decide (2<max (max b c) d)]) (fun _ _ _ h=>h) O Ye).up RB.up (R _ Ye))) (fun v5 D6 R G=>cU (P:=prog) (fn:=f185) rfl (aYF ⟨by simpa only[List.any_cons,List.any_nil,Bool.or_false,Bool.true_beq,aZT,aYM]using G.1,G.2⟩)) (fun v5 D6 ν5 R G=>?_))));obtain⟨M,rfl⟩:=G;have Y:a≤9∧max (max b c) d≤2:=by simp only[List.any_cons,List.any_nil,Bool.or_false,Bool.true_beq,bAB,aZK,Int.not_lt]at M;exact M
 refine aK<|Za rfl<|Zaj rfl<|Zh rfl aY rfl<|Zh rfl dZ rfl<|Zh rfl eR rfl<|Zp rfl kC rfl Mm0 rfl<|fC rfl U37 rfl ha rfl rfl bCV<|Ze [(_,_)] ν [] rfl (Or.inr Yi) (fun D7 Z=>xI (s.yard.chairs.length:Int) 5 _) (fun v7 D8 Z I=>cU (P:=prog) (fn:=f185) rfl (aXR ⟨Y,I.1,I.2⟩)) (fun v7 D8 ν7 Z I=>?_);obtain⟨hF,rfl⟩:=I;refine aG<|lG hbt Ye (fun hap=>xP (fun hnd=>?_));have hnu:=mS hap hnd;have hwbo:wb∉eQ.mk [bt,wb]:=eQ.out Ye;have hbto:bt∉eQ.mk [bt,wb]:=eQ.out Ye;refine cX (eQ.mk [bt,wb]) 4 22 131070<|Za rfl<|Za rfl<|Zaj rfl<|Zh rfl aY rfl<|Zh rfl dZ rfl<|Zh rfl eR rfl<|cF rfl kC rfl Mm0 rfl Yn rfl bCV<|Za rfl<|cZ rfl hn<|Za rfl<|KH (j:=1) rfl U25 aL rfl hn rfl Ye rfl bCV (fun hsU=>?_);refine GM rfl U101 rfl Ye rfl bCV<|dL rfl nD rfl (aSV hn) Ye mJ hbto rfl bCV<|Zo [qI a,qI b,qI c,qI d] rfl aNM zY rfl<|Zn rfl U37 jA zY rfl (.cons rfl rfl .nil) (fun hM hN hH T=>aJ ((wb,qC (cR s pv cv hv lv mv bl bc yc yq) 253)::ν) rfl<|aJ ((wb,qC (cR s pv cv hv lv mv bl bc yc yq) 253)::ν++[]) (aXS _).symm<|bE (A:=[(wb,qC (cR s pv cv hv lv mv bl bc yc yq) 253)]) (B:=[]) rfl U37 rfl rfl jA zY rfl VQ rfl rfl rfl ha (mK.lit T) Ye rfl (bS (n:=4) (fun _=>rfl) _) Yj Yd Yp rfl bCV (fun V ν1 U=>aJ ((wb,qC (cR s pv cv hv lv mv bl bc yc yq) 253)::ν1) (aXS _) ?_));have hI:bZ 103 4 V (s.yard.chairs.length+1) ((s.yard.chairs++[(⟨a,⟨b,c,d⟩⟩:C7.Ch)]).flatMap cH) ν1:=by rw[aYP,aZG];exact U
 refine Zaj rfl<|Zh rfl aY rfl<|Zh rfl dZ rfl<|Zh rfl eR rfl<|bJ (ws:=(cR s pv cv hv lv mv bl bc V yq)) rfl rfl rfl U.cells1 RH .head Ye rfl U.cell1 bCV<|Zae ?_;refine fun a w hh=>kP (P:=prog) (fn:=f185) (A:=[]) (ν':=((wb,_)::ν1)) (B:=[]) (vs:=[]) rfl rfl rfl bCV (fun D' hD=>⟨⟨Y,hF⟩,V,ν1,rfl,hI⟩) a w (hh.boxesEq (aXS _).symm)
end L12
def aAV(es:Array MapEntry)(M:List (ByteArray×Value)):Prop:=es.toList.map (fun e=>(e.key,e.val))=M.map fun p=>(Value.string p.1,p.2)
def U0(s:ByteArray):List (ByteArray×Value)→Nat→Option (Nat×Value)
 | [],_=>none
 |(b,v)::M,i=>if(s==b)=true then some (i,v)else U0 s M (i+1)
theorem W2(s:ByteArray):∀(es:List MapEntry) (M:List (ByteArray×Value)) (i:Nat),es.map (fun e=>(e.key,e.val))=M.map (fun p=>(Value.string p.1,p.2))→Instr.findNow .string (.string s) es i=some (U0 s M i)
 | [],[],i,_=>rfl
 | [],_::_,i,h=>by simp at h
 |_::_,[],i,h=>by simp at h
 |e::es,(b,v)::M,i,h=>by
  simp only[aYN,aZS,bBG]at h;obtain⟨⟨hk,hv⟩,h⟩:=h;simp only[Instr.findNow,hk,Instr.sameNow,U0];cases hb:s==b with
  |true=>simp[hv]
  |false=>simpa using W2 s es M (i+1) h
theorem xM{k:TypeId}(ht:P.underlying k=some .string)(s:ByteArray)(w:World){es:List MapEntry}{M:List (ByteArray×Value)}(h:es.map (fun e=>(e.key,e.val))=M.map (fun p=>(Value.string p.1,p.2))):(Instr.findKey k (.string s) es).run P w=.ok (U0 s M 0) w:=by
 unfold Instr.findKey;rw[Sem.run_bind,TU.of ht w];simp only[Result.andThen_ok,W2 s es M 0 h,Sem.run_pure]
theorem vX{k:TypeId}(ht:P.underlying k=some .string)(em:Bool)(s:ByteArray)(w:World):(Instr.checkKey em 10000 k (.string s)).run P w=.ok () w:=by
 show(Instr.checkKey em (9999+1) k (.string s)).run P w=_;rw[Instr.checkKey,Sem.run_bind,TU.of ht w];rfl
def aDJ(s:ByteArray)(M:List (ByteArray×Value))(z0:Value):Value:=match U0 s M 0 with
 |some (_,v)=>v
 |none=>z0
theorem X5{t k e:TypeId}{b clock:Nat}{es:Array MapEntry}{M:List (ByteArray×Value)}{s:ByteArray}(ho:all[ix]?= some ⟨some d,.lookup t x y true,ty,pos,aft,g⟩)(ht:P.underlying t=some (.map k e))(hk:P.underlying k=some .string){z0:Value}(hz:TZ P e z0)
  (hx:ev σ x=some (.map (some b))) (hy:ev σ y=some (.string s)) (hm:(b,Obj.map es clock)∈μ) (hb:b∉bad) (hM:aAV es M) (hN:Nat.blt d X.N=true) (hg:dE all σ g)
  (kk:WL P X bad all K Q os ((d,.tuple #[aDJ s M z0,.bool (U0 s M 0).isSome])::σ) μ Ds):WL P X bad all K Q ((fl,ix)::os) σ μ Ds:=by
 have run:∀w,w.heap[b]?= some (Obj.map es clock)→(Instr.lookup t (.map (some b)) (.string s) true).run P w=.ok (.tuple #[aDJ s M z0,.bool (U0 s M 0).isSome]) w:=by
  intro w hw;unfold aDJ;have hf:=xM hk s w hM;unfold Instr.lookup;simp only[Sem.run_bind,TU.of ht w,Result.andThen_ok,jN hw,Sem.run_pure,vX hk];rw[hf];cases U0 s M 0 with
  |none=>simp only[Result.andThen_ok,Sem.run_bind,hz w,Sem.run_pure];rfl
  |some r=>obtain⟨j,v⟩:=r;simp only[Result.andThen_ok];rfl
 refine mA ho rfl rfl hN hg (fun a' w hh w' hk'=>?_) kk;simp only[execOp,hh.eval hx,hh.eval hy,Sem.run_bind,run w' (hh.boxAt hm hb hk'),Result.andThen_ok,Sem.run_pure]
theorem cS{t k e:TypeId}{b clock:Nat}{es:Array MapEntry}{M:List (ByteArray×Value)}{s:ByteArray}{A B:aD}(ho:all[ix]?= some ⟨none,.insert t x y z,ty,pos,aft,g⟩)(ht:P.underlying t=some (.map k e))(hk:P.underlying k=some .string)
  (hx:ev σ x=some (.map (some b))) (hy:ev σ y=some (.string s)) (hz:ev σ z=some v) (hM:aAV es M) (hnew:U0 s M 0=none) (hg:dE all σ g)
  (kk:∀es' clock',aAV es' (M++[(s,v)])→WL P X bad all K Q os σ (A++(b,.map es' clock')::B) Ds):WL P X bad all K Q ((false,ix)::os) σ (A++(b,.map es clock)::B) Ds:=by
 refine eI ho rfl rfl hg fun a' w hh=>?_
 obtain⟨h1,h2,h3,D,h4,h5,G⟩:=id hh;have hw:=(h4.box (b,.map es clock) Ye).1;have hf:=xM hk s w hM;have hset:∀o,(setObj b o).run P w=.ok () {w with heap:=w.heap.setIfInBounds b o}:=fun o=>by simp[setObj,Sem.run,hw]
 have hr:(Instr.mapUpdate t (.map (some b)) (.string s) v).run P w=.ok () {w with heap:=w.heap.setIfInBounds b (.map (es.push {key:=.string s,val:=v,born:=clock}) (clock+1))}:=by
  unfold Instr.mapUpdate;simp only[Sem.run_bind,TU.of ht w,Result.andThen_ok,jN hw,vX hk];rw[hf,hnew];simp only[Result.andThen_ok,hset]
 have hHas:bO (A++(b,Obj.map es clock)::B) b (.map es clock) (.map (es.push {key:=.string s,val:=v,born:=clock}) (clock+1)) (A++(b,.map (es.push {key:=.string s,val:=v,born:=clock}) (clock+1))::B):=.app .head;have hs:=h4.set (w':={w with heap:=w.heap.setIfInBounds b (.map (es.push {key:=.string s,val:=v,born:=clock}) (clock+1))}) hHas ⟨rfl,rfl⟩ trivial;have:(execOp a'.eval ⟨none,.insert t x y z,ty,pos,aft,g⟩).run P w=.ok .skip {w with heap:=w.heap.setIfInBounds b (.map (es.push {key:=.string s,val:=v,born:=clock}) (clock+1))}:=by
  simp only[execOp,hh.eval hx,hh.eval hy,hh.eval hz,Sem.run_bind,hr,Result.andThen_ok,Sem.run_pure]
 rw[this];refine⟨fun h=>by simp at h,kk _ _ ?_ _ _ ⟨h1,h2,h3,D,hs,h5,G.step (fun _ p hp=>aYF Yq) (fun _=>jI ⟨rfl,rfl⟩ (n4.2 ⟨_,hHas.mem,rfl⟩)) hs.dom⟩⟩;unfold aAV at hM ⊢
 rw[Array.toList_push,aYE,aYE,hM];rfl
theorem Fn.of_alloc{f:FuncId}{args:Array Value}{D:aC}{cs:List Value}{e:TypeId}{r:Nat→Value}{post:aC→Value→Prop}(hEF:EF P f)
  (h:∀w,eO D w→Calls P f args w fun en w'=>en=.returned (r w.heap.size)∧w'=w.alloc (.cells cs.toArray e (0,0))) (hp:∀D' b,Le D D'→At D' b 0 cs→post D' (r b)):Fn P f args D post:=by
 refine⟨hEF,fun w hw=>(h w hw).mono ?_⟩;rintro en w' ⟨he,rfl⟩;have hst:hP (hd w) w.heap.size D [] [] D w:=⟨aYI _,aYI _,(fun _ _ _=>rfl),(fun _ _=>rfl),hw,Yi,aZP,Yi,fun e he=>aYS he⟩
 obtain⟨D',hle,hb, -,hs⟩:=hst.pushD cs e;have hA:At D' w.heap.size 0 cs:=fun j v hv=>by rw[hb];simpa using hv
 exact⟨_,D',he,hs,hp D' _ hle hA⟩
namespace L12
open C12
def FM:List (ByteArray×Value):=[(⟨#[112,108,97,99,101]⟩,.agg #[qI 0,.func (.func 168) #[] #[]]),(⟨#[115,101,101,110]⟩,.agg #[qI 2,.func (.func 169) #[] #[]]),(⟨#[99,111,117,110,116]⟩,.agg #[qI 2,.func (.func 170) #[] #[]]),(⟨#[98,97,99,107]⟩,.agg #[qI 2,.func (.func 171) #[] #[]]),(⟨#[117,110,99,111,117,110,116]⟩,.agg #[qI 1,.func (.func 172) #[] #[]]),(⟨#[119,114,111,110,103]⟩,.agg #[qI 1,.func (.func 173) #[] #[]]),(⟨#[111,102,102]⟩,.agg #[qI 1,.func (.func 174) #[] #[]]),(⟨#[116,105,100,101]⟩,.agg #[qI 3,.func (.func 175) #[] #[]]),(⟨#[115,116,101,112]⟩,.agg #[qI 1,.func (.func 176) #[] #[]]),(⟨#[108,101,118,101,108]⟩,.agg #[qI 1,.func (.func 177) #[] #[]]),(⟨#[114,97,105,115,101]⟩,.agg #[qI 2,.func (.func 178) #[] #[]]),(⟨#[109,97,114,107]⟩,.agg #[qI 4,.func (.func 179) #[] #[]]),(⟨#[117,110,109,97,114,107]⟩,.agg #[qI 1,.func (.func 180) #[] #[]]),(⟨#[104,105,114,101]⟩,.agg #[qI 2,.func (.func 181) #[] #[]]),(⟨#[98,114,105,110,103]⟩,.agg #[qI 2,.func (.func 182) #[] #[]]),(⟨#[115,109,117,100,103,101]⟩,.agg #[qI 1,.func (.func 183) #[] #[]]),(⟨#[115,116,114,105,107,101]⟩,.agg #[qI 1,.func (.func 184) #[] #[]]),(⟨#[98,114,111,107,101,110]⟩,.agg #[qI 4,.func (.func 185) #[] #[]]),(⟨#[112,97,114,116]⟩,.agg #[qI 3,.func (.func 186) #[] #[]]),(⟨#[102,105,116]⟩,.agg #[qI 1,.func (.func 187) #[] #[]]),(⟨#[99,108,97,105,109]⟩,.agg #[qI 2,.func (.func 188) #[] #[]]),(⟨#[117,110,99,108,97,105,109]⟩,.agg #[qI 1,.func (.func 189) #[] #[]])]
theorem JS(D:aC):MZ prog 112 #[] D (fun _ v ν=>∃b es cl,v=.map (some b)∧ν=[(b,.map es cl)]∧aAV es FM):=by
 refine qG 25 func112 rfl rfl rfl rfl fun h0=>aA<|Zj rfl<|aK<|vE rfl rfl bCV (fun qm=>?_)
 have hJ:aAV #[] []:=rfl;refine Zo [qI 0,.func (.func 168) #[] #[]] rfl gF eU rfl<|cS (A:=[]) (B:=[]) rfl U246 U9 rfl rfl rfl hJ Yf bCV (fun es1 cl1 hK=>Zo [qI 2,.func (.func 169) #[] #[]] rfl gF eU rfl<|cS (A:=[]) (B:=[]) rfl U246 U9 rfl rfl rfl hK Yf bCV (fun es2 cl2 hM=>Zo [qI 2,.func (.func 170) #[] #[]] rfl gF eU rfl<|cS (A:=[]) (B:=[]) rfl U246 U9 rfl rfl rfl hM Yf bCV (fun es3 cl3 hN=>Zo [qI 2,.func (.func 171) #[] #[]] rfl gF eU rfl<|cS (A:=[]) (B:=[]) rfl U246 U9 rfl rfl rfl hN Yf bCV (fun es4 cl4 hO=>Zo [qI 1,.func (.func 172) #[] #[]] rfl gF eU rfl<|cS (A:=[]) (B:=[]) rfl U246 U9 rfl rfl rfl hO Yf bCV (fun es5 cl5 hR=>Zo [qI 1,.func (.func 173) #[] #[]] rfl gF eU rfl<|cS (A:=[]) (B:=[]) rfl U246 U9 rfl rfl rfl hR Yf bCV (fun es6 cl6 hS=>?_))))));refine Zo [qI 1,.func (.func 174) #[] #[]] rfl gF eU rfl<|cS (A:=[]) (B:=[]) rfl U246 U9 rfl rfl rfl hS Yf bCV (fun es7 cl7 hX=>Zo [qI 3,.func (.func 175) #[] #[]] rfl gF eU rfl<|cS (A:=[]) (B:=[]) rfl U246 U9 rfl rfl rfl hX Yf bCV (fun es8 cl8 hY=>Zo [qI 1,.func (.func 176) #[] #[]] rfl gF eU rfl<|cS (A:=[]) (B:=[]) rfl U246 U9 rfl rfl rfl hY Yf bCV (fun es9 cl9 rA=>Zo [qI 1,.func (.func 177) #[] #[]] rfl gF eU rfl<|cS (A:=[]) (B:=[]) rfl U246 U9 rfl rfl rfl rA Yf bCV (fun rB cl10 G=>Zo [qI 2,.func (.func 178) #[] #[]] rfl gF eU rfl<|cS (A:=[]) (B:=[]) rfl U246 U9 rfl rfl rfl G Yf bCV (fun es11 cl11 I=>Zo [qI 4,.func (.func 179) #[] #[]] rfl gF eU rfl<|cS (A:=[]) (B:=[]) rfl U246 U9 rfl rfl rfl I Yf bCV (fun es12 cl12 M=>?_))))));refine Zo [qI 1,.func (.func 180) #[] #[]] rfl gF eU rfl<|cS (A:=[]) (B:=[]) rfl U246 U9 rfl rfl rfl M Yf bCV (fun es13 cl13 O=>Zo [qI 2,.func (.func 181) #[] #[]] rfl gF eU rfl<|cS (A:=[]) (B:=[]) rfl U246 U9 rfl rfl rfl O Yf bCV (fun es14 cl14 R=>Zo [qI 2,.func (.func 182) #[] #[]] rfl gF eU rfl<|cS (A:=[]) (B:=[]) rfl U246 U9 rfl rfl rfl R Yf bCV (fun es15 cl15 T=>Zo [qI 1,.func (.func 183) #[] #[]] rfl gF eU rfl<|cS (A:=[]) (B:=[]) rfl U246 U9 rfl rfl rfl T Yf bCV (fun es16 cl16 U=>Zo [qI 1,.func (.func 184) #[] #[]] rfl gF eU rfl<|cS (A:=[]) (B:=[]) rfl U246 U9 rfl rfl rfl U Yf bCV (fun es17 cl17 V=>Zo [qI 4,.func (.func 185) #[] #[]] rfl gF eU rfl<|cS (A:=[]) (B:=[]) rfl U246 U9 rfl rfl rfl V Yf bCV (fun es18 cl18 Y=>?_))))));refine Zo [qI 3,.func (.func 186) #[] #[]] rfl gF eU rfl<|cS (A:=[]) (B:=[]) rfl U246 U9 rfl rfl rfl Y Yf bCV (fun es19 cl19 Z=>Zo [qI 1,.func (.func 187) #[] #[]] rfl gF eU rfl<|cS (A:=[]) (B:=[]) rfl U246 U9 rfl rfl rfl Z Yf bCV (fun es20 cl20 hB=>Zo [qI 2,.func (.func 188) #[] #[]] rfl gF eU rfl<|cS (A:=[]) (B:=[]) rfl U246 U9 rfl rfl rfl hB Yf bCV (fun es21 cl21 hE=>Zo [qI 1,.func (.func 189) #[] #[]] rfl gF eU rfl<|cS (A:=[]) (B:=[]) rfl U246 U9 rfl rfl rfl hE Yf bCV (fun hF hH hI=>Za rfl<|Zj rfl<|aH ?_))));exact aF rfl (fun D hD=>⟨qm,hF,hH,rfl,rfl,hI⟩)
end L12
namespace C12
abbrev iJ:=aQ→List Int→Except Int aQ
def setRow(s:aQ)(r:C1.eC):aQ:={s with row:=r}
def setTable(s:aQ)(t:C2.bD):aQ:={s with table:=t}
def setBook(s:aQ)(b:C3.bG):aQ:={s with book:=b}
def setYard(s:aQ)(y:C7.bQ):aQ:={s with yard:=y}
def RX(p:C7.Pt)(i:Nat)(v:Int):C7.Pt:=if i=0 then {p with a:=v}else if i=1 then {p with b:=v}else {p with c:=v}
def V7:iJ:=fun s _=>if 7≤(s.row.places.length:Int)then .error 3 else .ok (setRow s {s.row with places:=s.row.places++[2]})
def y2:iJ:=fun s n=>match n with
 | [a,b]=>if(s.row.places.length:Int)≤a then .error 7 else if 2<b then .error 2 else .ok (setRow s {s.row with places:=s.row.places.set a.toNat b})
 |_=>.error 4
def qJ(back:Bool):iJ:=fun s n=>match n with
 | [a,b]=>if(s.row.places.length:Int)<a∨9<b then .error 2 else if 6≤(s.row.counts.length:Int)then .error 3 else .ok (setRow s {s.row with counts:=s.row.counts++[⟨back,a,b⟩]})
 |_=>.error 4
def uP:iJ:=fun s n=>match n with
 | [a]=>if(s.row.counts.length:Int)≤a then .error 7 else .ok (setRow s {s.row with counts:=s.row.counts.eraseIdx a.toNat})
 |_=>.error 4
def R6:iJ:=fun s n=>match n with
 | [a]=>if 6<a then .error 2 else .ok (setRow s {s.row with wrong:=a})
 |_=>.error 4
def YJ:iJ:=fun s n=>match n with
 | [a]=>if 9<a then .error 2 else .ok (setRow s {s.row with off:=a})
 |_=>.error 4
def p5:iJ:=fun s n=>match n with
 | [a,b,c]=>if(s.table.heights.length:Int)≤a then .error 7 else if c<b∨99<c∨b+2<c then .error 2 else .ok (setTable s {s.table with heights:=s.table.heights.set a.toNat (b,c)})
 |_=>.error 4
def DL:iJ:=fun s n=>match n with
 | [a]=>if 99<a then .error 2 else .ok (setTable s {s.table with step:=a})
 |_=>.error 4
def G6:iJ:=fun s n=>match n with
 | [a]=>if 99<a then .error 2 else if 6≤(s.table.levels.length:Int)then .error 3 else .ok (setTable s {s.table with levels:=s.table.levels++[a]})
 |_=>.error 4
def I1:iJ:=fun s n=>match n with
 | [a,b]=>if(s.table.levels.length:Int)≤a then .error 7 else if 99<b then .error 2 else .ok (setTable s {s.table with levels:=s.table.levels.set a.toNat b})
 |_=>.error 4
def Q0:iJ:=fun s n=>match n with
 | [a,b,c,d]=>if(s.table.heights.length:Int)≤max a b then .error 7 else if b<a then .error 2 else if d<c∨99<d then .error 2 else if 5≤(s.table.marks.length:Int)then .error 3 else .ok (setTable s {s.table with marks:=s.table.marks++[⟨a,b,c,d⟩]})
 |_=>.error 4
def zV:iJ:=fun s n=>match n with
 | [a]=>if(s.table.marks.length:Int)≤a then .error 7 else .ok (setTable s {s.table with marks:=s.table.marks.eraseIdx a.toNat})
 |_=>.error 4
def qL(kind:Int):iJ:=fun s n=>match n with
 | [a,b]=>if s.book.chairs≤max a b then .error 7 else if 8≤(s.book.lines.length:Int)then .error 3 else .ok (setBook s {s.book with lines:=s.book.lines++[⟨kind,a,b⟩]})
 |_=>.error 4
def xF:iJ:=fun s n=>match n with
 | [a]=>match s.book.lines[a.toNat]? with
  |none=>.error 7
  |some l=>if l.token= -1 then .error 6 else .ok (setBook s {s.book with lines:=s.book.lines.set a.toNat {l with token:= -1}})
 |_=>.error 4
def zX:iJ:=fun s n=>match n with
 | [a]=>if(s.book.lines.length:Int)≤a then .error 7 else .ok (setBook s {s.book with lines:=s.book.lines.eraseIdx a.toNat})
 |_=>.error 4
def wZ:iJ:=fun s n=>match n with
 | [a,b,c,d]=>if 9<a∨2<max (max b c) d then .error 2 else if 5≤(s.yard.chairs.length:Int)then .error 3 else .ok (setYard s {s.yard with chairs:=s.yard.chairs++[⟨a,⟨b,c,d⟩⟩]})
 |_=>.error 4
def W8:iJ:=fun s n=>match n with
 | [a,b,c]=>match s.yard.chairs[a.toNat]? with
  |none=>.error 7
  |some x=>if 3≤b then .error 7 else if 2<c then .error 2 else .ok (setYard s {s.yard with chairs:=s.yard.chairs.set a.toNat {x with parts:=RX x.parts b.toNat c}})
 |_=>.error 4
def ZW:iJ:=fun s n=>match n with
 | [a]=>if 9<a then .error 2 else .ok (setYard s {s.yard with fit:=a})
 |_=>.error 4
def E9:iJ:=fun s n=>match n with
 | [a,b]=>if b<a∨7<b then .error 2 else if 5≤(s.yard.claims.length:Int)then .error 3 else .ok (setYard s {s.yard with claims:=s.yard.claims++[(a,b)]})
 |_=>.error 4
def vI:iJ:=fun s n=>match n with
 | [a]=>if(s.yard.claims.length:Int)≤a then .error 7 else .ok (setYard s {s.yard with claims:=s.yard.claims.eraseIdx a.toNat})
 |_=>.error 4
open Go.Lib
def qD:List UInt8→List (List UInt8)
 | []=>[[]]
 |b::l=>if b=32 then []::qD l else match qD l with
  | []=>[[b]]
  |p::ps=>(b::p)::ps
theorem aOL(l:List UInt8):qD l≠[]:=by
 cases l with
 |nil=>simp[qD]
 |cons b l=>unfold qD;split;simp;split<;>simp
theorem V8:∀{l:List UInt8},(32:UInt8)∉l→qD l=[l]
 | [],_=>rfl
 |b::l,h=>by
  simp only[GE,not_or]at h;unfold qD;rw[aYC (fun e=>h.1 e.symm),V8 h.2]
theorem x6:∀{l:List UInt8} {i:Nat},l[i]?= some 32→(32:UInt8)∉l.take i→qD l=l.take i::qD (l.drop (i+1))
 | [],i,h,_=>by simp at h
 |b::l,0,h,_=>by
  obtain rfl:b=32:=by simpa using h
  simp[qD]
 |b::l,i+1,h,hn=>by
  simp only[List.take_succ_cons,GE,not_or]at hn;rw[qD,aYC (fun e=>hn.1 e.symm),x6 Yar hn.2];simp
theorem zH{l:List UInt8}{i:Nat}{c:UInt8}:occAt l [c] i=true ↔ l[i]?= some c:=by
 unfold occAt;by_cases h:i<l.length
 ·rw[aZO h,aXT h];simp only[List.isPrefixOf,Bool.and_true,bCC,bCM];exact eq_comm
 ·rw[aYV Yd,bAT Yd];simp[List.isPrefixOf]
theorem JO:∀(n:Nat) (l:List UInt8),l.length≤n→splitK [32] 0 (count l [32]) l=qD l:=by
 intro n;induction n with
 |zero=>
  intro l hl;obtain rfl:l=[]:=List.eq_nil_of_length_eq_zero Yd;rfl
 |succ n ih=>
  intro l hl;rcases index_spec l [32]with⟨h1,h2⟩|⟨i,h1,h2,h3,h4⟩
  ·rw[count_miss h1];refine(V8 fun hm=>?_).symm;obtain⟨i,hi⟩:=bBD.1 hm;have:=h2 i (by have:=(aXZ.1 hi).1;omega)
   rw[zH.2 hi]at this;cases this
  ·have hi:=zH.1 h3;rw[count_hit Ye h1,Nat.add_comm 1,splitK,aYC (by rw[h1];simp),h1]
   have hdl:(l.drop (i+1)).length≤n:=by
    have:=(aXZ.1 hi).1;rw[bAA];omega
   simp only[aZN,Nat.add_zero,bBE];rw[ih _ hdl];refine(x6 hi fun hm=>?_).symm;obtain⟨j,hj⟩:=bBD.1 hm;have hjl:=(aXZ.1 hj).1;rw[aZJ]at hjl;rw[bAN Yd]at hj;have:=h4 j Yd;rw[zH.2 hj]at this;cases this
def qQ(l:List UInt8):ByteArray:=⟨l.toArray⟩
theorem LO(s:ByteArray):qQ s.data.toList=s:=Go.WideShapes.bytes_inj rfl
def iY(s:ByteArray):List ByteArray:=(qD s.data.toList).map qQ
theorem QV(s:ByteArray):splitB ⟨#[32]⟩ 0 (countB s ⟨#[32]⟩) s=iY s:=by
 have h:=splitB_data ⟨#[32]⟩ 0 (countB s ⟨#[32]⟩) s;have h2:splitK [32] 0 (count s.data.toList [32]) s.data.toList=qD s.data.toList:=JO _ _ (aYI _);have h3:(splitB ⟨#[32]⟩ 0 (countB s ⟨#[32]⟩) s).map (·.data.toList)=qD s.data.toList:=h.trans h2;unfold iY;rw[←h3,List.map_map];refine(List.map_id _).symm.trans (List.map_congr_left fun x _=>?_);exact(LO x).symm
theorem JE(s:ByteArray):countB s ⟨#[32]⟩+1=(iY s).length:=by
 have key:∀(n:Nat) (l:List UInt8),l.length≤n→count l [32]+1=(qD l).length:=by
  intro n;induction n with
  |zero=>intro l hl;obtain rfl:l=[]:=List.eq_nil_of_length_eq_zero Yd;rfl
  |succ n ih=>
   intro l hl;rcases index_spec l [32]with⟨h1,h2⟩|⟨i,h1,h2,h3,h4⟩
   ·rw[count_miss h1,V8 fun hm=>?_]
    ·rfl
    ·obtain⟨i,hi⟩:=bBD.1 hm;have:=h2 i (by have:=(aXZ.1 hi).1;omega)
     rw[zH.2 hi]at this;cases this
   ·have hi:=zH.1 h3;have hdl:(l.drop (i+1)).length≤n:=by
     have:=(aXZ.1 hi).1;rw[bAA];omega
    rw[x6 hi fun hm=>?_,aXY,←ih _ hdl,count_hit Ye h1]
    ·simp only[bBE];omega
    ·obtain⟨j,hj⟩:=bBD.1 hm;have hjl:=(aXZ.1 hj).1;rw[aZJ]at hjl;rw[bAN Yd]at hj;have:=h4 j Yd;rw[zH.2 hj]at this;cases this
 unfold iY;rw[aZL];exact key _ _ (aYI _)
theorem RR(l:List UInt8):(qD l).length≤l.length+1:=by
 induction l with
 |nil=>simp[qD]
 |cons b l ih=>
  unfold qD;split
  ·simp;omega
  ·split
   ·simp
   ·rename_i p ps e;rw[e]at ih;simpa using Nat.le_succ_of_le ih
theorem YM{l p:List UInt8}(h:p∈qD l):p.length≤l.length:=by
 induction l generalizing p with
 |nil=>simp[qD]at h;subst h;simp
 |cons b l ih=>
  unfold qD at h;split at h
  ·rcases GE.1 h with rfl|h
   ·simp
   ·exact Nat.le_succ_of_le (ih h)
  ·split at h
   ·simp only[aYH]at h;subst h;simp
   ·rename_i q qs e;rcases GE.1 h with rfl|h
    ·have:=ih (p:=q) (by rw[e];simp);simpa using this
    ·exact Nat.le_succ_of_le (ih (by rw[e];exact LE _ h))

def R5(l:List UInt8):Option Int:=if l.length≤3∧(l.head?≠some 48∨l.length=1)then(decNat l).map fun(n:Nat)=>(n:Int)else none
def aKG(l:List UInt8):Option Int:=match atoiAll l with
 |.ok v=>if 0≤v∧l.length≤3∧itoa v=l then some v else none
 |_=>none
theorem uX{b:UInt8}{d:Nat}(h:digitVal b=some d):d<10∧b=UInt8.ofNat (48+d):=by
 unfold digitVal at h;split at h
 ·cases h;refine⟨by omega,?_⟩;rw[show 48+(b.toNat-48)=b.toNat by omega];simp
 ·cases h
theorem EC{a b:Nat}(ha:a<256)(hb:b<256)(h:UInt8.ofNat a=UInt8.ofNat b):a=b:=by
 have:=aXV UInt8.toNat h;simp only[UInt8.toNat_ofNat']at this;omega
theorem YF{u:Nat}(h:u<10):decDigits u=[UInt8.ofNat (48+u)]:=by rw[decDigits,dif_pos h]
theorem aTG{u:Nat}(h:10≤u)(h2:u<100):decDigits u=[UInt8.ofNat (48+u / 10),UInt8.ofNat (48+u%10)]:=by rw[decDigits,dif_neg Yd,YF Yd];rfl
theorem aXK{u:Nat}(h:100≤u)(h2:u<1000):decDigits u=[UInt8.ofNat (48+u / 10 / 10),UInt8.ofNat (48+u / 10%10),UInt8.ofNat (48+u%10)]:=by rw[decDigits,dif_neg Yd,aTG Yd Yd];rfl
theorem K3(u:Nat):itoa (u:Int)=decDigits u:=by unfold itoa;rw[aYC Yd,aZN]
theorem YW{u:Nat}{b:UInt8}(h:b∈decDigits u):48≤b.toNat∧b.toNat≤57:=by
 induction u using Nat.strongRecOn with
 |_ u ih=>
  by_cases hu:u<10
  ·rw[YF hu]at h;simp only[aYH]at h;subst h
   simp only[UInt8.toNat_ofNat'];omega
  ·rw[decDigits,dif_neg hu,aYD,aYH]at h;rcases h with h|h
   ·exact ih _ Yd h
   ·subst h;simp only[UInt8.toNat_ofNat'];omega
theorem UG(l:List UInt8):aKG l=R5 l:=by
 unfold aKG R5;by_cases hl:l.length≤3
 ·rw[atoiAll_short l Yd];match l,hl with
  | [],_=>rfl
  |b::r,hl=>
   have hat:atoi (b::r)=if(b==45)=true then(decNat r).map fun(m:Nat)=> -(m:Int)else if(b==43)=true then(decNat r).map fun(m:Nat)=>(m:Int)else(decNat (b::r)).map fun(m:Nat)=>(m:Int):=rfl
   rw[hat];by_cases I:b=45
   ·subst I;have hd:decNat (45::r)=none:=by unfold decNat decFrom digitVal;simp
    rw[hd];simp only[beq_self_eq_true,aZU,aZX,ite_self];cases decNat r with
    |none=>rfl
    |some m=>
     simp only[aYX,NumEnd.ofOption];rw[aYC];rintro⟨h1,h2,h3⟩;obtain rfl:m=0:=by omega
     have h4:itoa (-((0:Nat):Int))=[48]:=by rw[show(-((0:Nat):Int))=((0:Nat):Int) by omega,K3,YF Yd];rfl
     rw[h4]at h3;simp at h3
   ·rw[aYC (by simpa using I)];by_cases M:b=43
    ·subst M;have hd:decNat (43::r)=none:=by unfold decNat decFrom digitVal;simp
     rw[hd];simp only[beq_self_eq_true,aZU,aZX,ite_self];cases decNat r with
     |none=>rfl
     |some m=>
      simp only[aYX,NumEnd.ofOption];rw[aYC];rintro⟨h1,h2,h3⟩;rw[K3]at h3;have:=YW (u:=m) (b:=43) (by rw[h3];simp)
      simp at this
    ·rw[aYC (by simpa using M)];have hnone:decNat (b::r)=none→_:=fun h=>h
     cases hd:decNat (b::r)with
     |none=>simp only[aZX,ite_self];rfl
     |some m=>
      simp only[aYX,NumEnd.ofOption];have key:(0≤(m:Int)∧(b::r).length≤3∧itoa (m:Int)=b::r) ↔ ((b::r).length≤3∧((b::r).head?≠some 48∨(b::r).length=1)):=by
       rw[K3];unfold decNat at hd;match r,hl with
       | [],_=>
        simp only[List.isEmpty_cons,aYY,aZW,decFrom]at hd;cases h1:digitVal b with
        |none=>rw[h1]at hd;cases hd
        |some G=>
         rw[h1]at hd;simp only[bCM]at hd;obtain⟨O,rfl⟩:=uX h1;obtain rfl:G=m:=by omega
         rw[YF O];simp
       | [b2],_=>
        simp only[List.isEmpty_cons,aYY,aZW,decFrom]at hd;cases h1:digitVal b with
        |none=>rw[h1]at hd;cases hd
        |some G=>
         cases h2:digitVal b2 with
         |none=>rw[h1,h2]at hd;cases hd
         |some d2=>
          rw[h1,h2]at hd;simp only[bCM]at hd;obtain⟨O,rfl⟩:=uX h1;obtain⟨R,rfl⟩:=uX h2;by_cases z:G=0
          ·subst z;rw[YF Yd];simp
          ·rw[aTG Yd Yd,show m / 10=G by omega,show m%10=d2 by omega];have:UInt8.ofNat G≠0:=fun e=>z (EC (a:=G) (b:=0) Yd Yd e)
           simp[this]
       | [b2,T],_=>
        simp only[List.isEmpty_cons,aYY,aZW,decFrom]at hd;cases h1:digitVal b with
        |none=>rw[h1]at hd;cases hd
        |some G=>
         cases h2:digitVal b2 with
         |none=>rw[h1,h2]at hd;cases hd
         |some d2=>
          cases h3:digitVal T with
          |none=>rw[h1,h2,h3]at hd;cases hd
          |some U=>
           rw[h1,h2,h3]at hd;simp only[bCM]at hd;obtain⟨O,rfl⟩:=uX h1;obtain⟨R,rfl⟩:=uX h2;obtain⟨V,rfl⟩:=uX h3;by_cases z:G=0
           ·subst z;by_cases z2:m<10
            ·rw[YF z2];simp
            ·rw[aTG Yd Yd];simp
           ·rw[aXK Yd Yd,show m / 10 / 10=G by omega,show m / 10%10=d2 by omega,show m%10=U by omega];have:UInt8.ofNat G≠0:=fun e=>z (EC (a:=G) (b:=0) Yd Yd e)
            simp[this]
      by_cases hk:(b::r).length≤3∧((b::r).head?≠some 48∨(b::r).length=1)
      ·rw[aYJ hk,aYJ (key.2 hk)]
      ·rw[aYC hk,aYC (fun h=>hk (key.1 h))]
 ·rw[aYC (fun h=>hl h.1)];split
  ·rw[aYC (fun h=>hl h.2.1)]
  ·rfl
theorem RA{l:List UInt8}{n:Int}(h:R5 l=some n):0≤n∧n≤999∧itoa n=l:=by
 have h2:=h;rw[←UG]at h2;unfold aKG at h2;split at h2
 ·split at h2
  ·rename_i v _ hc;cases h2;refine⟨hc.1,?_,hc.2.2⟩;by_cases hb:n≤999
   ·exact hb
   ·exfalso
    obtain⟨u,rfl⟩:∃u:Nat,n=(u:Int):=⟨n.toNat,by omega⟩
    have h3:=hc.2.2;rw[K3]at h3;have h4:4≤(decDigits u).length:=by
     rw[decDigits,dif_neg Yd,decDigits,dif_neg Yd,decDigits,dif_neg Yd,decDigits];split<;>simp
    rw[h3]at h4;omega
  ·cases h2
 ·cases h2

def sF:List (List UInt8×Nat×iJ):=[
 ([112,108,97,99,101],0,V7),
 ([115,101,101,110],2,y2),
 ([99,111,117,110,116],2,qJ false),
 ([98,97,99,107],2,qJ true),
 ([117,110,99,111,117,110,116],1,uP),
 ([119,114,111,110,103],1,R6),
 ([111,102,102],1,YJ),
 ([116,105,100,101],3,p5),
 ([115,116,101,112],1,DL),
 ([108,101,118,101,108],1,G6),
 ([114,97,105,115,101],2,I1),
 ([109,97,114,107],4,Q0),
 ([117,110,109,97,114,107],1,zV),
 ([104,105,114,101],2,qL 1),
 ([98,114,105,110,103],2,qL 2),
 ([115,109,117,100,103,101],1,xF),
 ([115,116,114,105,107,101],1,zX),
 ([98,114,111,107,101,110],4,wZ),
 ([112,97,114,116],3,W8),
 ([102,105,116],1,ZW),
 ([99,108,97,105,109],2,E9),
 ([117,110,99,108,97,105,109],1,vI)]
def nI(line:ByteArray):Option (iJ×List Int):=
 match qD line.data.toList with
 | []=>none
 |p::ps=>match sF.find? (fun x=>x.1==p)with
  |none=>none
  |some (_,k,act)=>if ps.length=k then(ps.mapM R5).map fun n=>(act,n)else none

structure mW(s:aQ):Prop where
 pl:s.row.places.length≤7
 ct:s.row.counts.length≤6
 ht:s.table.heights.length=4
 lev:s.table.levels.length≤6
 mks:s.table.marks.length≤5
 ln:s.book.lines.length≤8
 ch:s.yard.chairs.length≤5
 cl:s.yard.claims.length≤5
 bc:s.book.chairs=3
theorem mW.setRow{s:aQ}(h:mW s){r:C1.eC}(h1:r.places.length≤7)(h2:r.counts.length≤6):mW (setRow s r):=⟨h1,h2,h.ht,h.lev,h.mks,h.ln,h.ch,h.cl,h.bc⟩
theorem mW.setTable{s:aQ}(h:mW s){r:C2.bD}(h1:r.heights.length=4)(h2:r.levels.length≤6)(h3:r.marks.length≤5):mW (setTable s r):=⟨h.pl,h.ct,h1,h2,h3,h.ln,h.ch,h.cl,h.bc⟩
theorem mW.setBook{s:aQ}(h:mW s){r:C3.bG}(h1:r.lines.length≤8)(h2:r.chairs=3):mW (setBook s r):=⟨h.pl,h.ct,h.ht,h.lev,h.mks,h1,h.ch,h.cl,h2⟩
theorem mW.setYard{s:aQ}(h:mW s){r:C7.bQ}(h1:r.chairs.length≤5)(h2:r.claims.length≤5):mW (setYard s r):=⟨h.pl,h.ct,h.ht,h.lev,h.mks,h.ln,h1,h2,h.bc⟩
def nA(f:iJ):Prop:=∀s n s',mW s→f s n=.ok s'→mW s'
theorem HD:nA V7:=by
 intro s n s' h e;unfold V7 at e;have h1:=h.pl;have h2:=h.ct
 repeat' split at e
 all_goals cases e
 all_goals (refine h.setRow ?_ ?_<;>first|assumption|(simp<;>omega)|(simp only[aZF];split<;>omega))
theorem MP:nA y2:=by
 intro s n s' h e;unfold y2 at e;have h1:=h.pl;have h2:=h.ct
 repeat' split at e
 all_goals cases e
 all_goals (refine h.setRow ?_ ?_<;>first|assumption|(simp<;>omega)|(simp only[aZF];split<;>omega))
theorem Q3(b:Bool):nA (qJ b):=by
 intro s n s' h e;unfold qJ at e;have h1:=h.pl;have h2:=h.ct
 repeat' split at e
 all_goals cases e
 all_goals (refine h.setRow ?_ ?_<;>first|assumption|(simp<;>omega)|(simp only[aZF];split<;>omega))
theorem AS:nA uP:=by
 intro s n s' h e;unfold uP at e;have h1:=h.pl;have h2:=h.ct
 repeat' split at e
 all_goals cases e
 all_goals (refine h.setRow ?_ ?_<;>first|assumption|(simp<;>omega)|(simp only[aZF];split<;>omega))
theorem FE:nA R6:=by
 intro s n s' h e;unfold R6 at e;have h1:=h.pl;have h2:=h.ct
 repeat' split at e
 all_goals cases e
 all_goals (refine h.setRow ?_ ?_<;>first|assumption|(simp<;>omega)|(simp only[aZF];split<;>omega))
theorem QG:nA YJ:=by
 intro s n s' h e;unfold YJ at e;have h1:=h.pl;have h2:=h.ct
 repeat' split at e
 all_goals cases e
 all_goals (refine h.setRow ?_ ?_<;>first|assumption|(simp<;>omega)|(simp only[aZF];split<;>omega))
theorem MD:nA p5:=by
 intro s n s' h e;unfold p5 at e;have h1:=h.ht;have h2:=h.lev;have h3:=h.mks
 repeat' split at e
 all_goals cases e
 all_goals (refine h.setTable ?_ ?_ ?_<;>first|assumption|(simp<;>omega)|(simp only[aZF];split<;>omega))
theorem IQ:nA DL:=by
 intro s n s' h e;unfold DL at e;have h1:=h.ht;have h2:=h.lev;have h3:=h.mks
 repeat' split at e
 all_goals cases e
 all_goals (refine h.setTable ?_ ?_ ?_<;>first|assumption|(simp<;>omega)|(simp only[aZF];split<;>omega))
theorem FR:nA G6:=by
 intro s n s' h e;unfold G6 at e;have h1:=h.ht;have h2:=h.lev;have h3:=h.mks
 repeat' split at e
 all_goals cases e
 all_goals (refine h.setTable ?_ ?_ ?_<;>first|assumption|(simp<;>omega)|(simp only[aZF];split<;>omega))
theorem HV:nA I1:=by
 intro s n s' h e;unfold I1 at e;have h1:=h.ht;have h2:=h.lev;have h3:=h.mks
 repeat' split at e
 all_goals cases e
 all_goals (refine h.setTable ?_ ?_ ?_<;>first|assumption|(simp<;>omega)|(simp only[aZF];split<;>omega))
theorem LI:nA Q0:=by
 intro s n s' h e;unfold Q0 at e;have h1:=h.ht;have h2:=h.lev;have h3:=h.mks
 repeat' split at e
 all_goals cases e
 all_goals (refine h.setTable ?_ ?_ ?_<;>first|assumption|(simp<;>omega)|(simp only[aZF];split<;>omega))
theorem BM:nA zV:=by
 intro s n s' h e;unfold zV at e;have h1:=h.ht;have h2:=h.lev;have h3:=h.mks
 repeat' split at e
 all_goals cases e
 all_goals (refine h.setTable ?_ ?_ ?_<;>first|assumption|(simp<;>omega)|(simp only[aZF];split<;>omega))
theorem O2(k:Int):nA (qL k):=by
 intro s n s' h e;unfold qL at e;have h1:=h.ln;have h2:=h.bc
 repeat' split at e
 all_goals cases e
 all_goals (refine h.setBook ?_ ?_<;>first|assumption|(simp<;>omega)|(simp only[aZF];split<;>omega))
theorem BE:nA xF:=by
 intro s n s' h e;unfold xF at e;have h1:=h.ln;have h2:=h.bc
 repeat' split at e
 all_goals cases e
 all_goals (refine h.setBook ?_ ?_<;>first|assumption|(simp<;>omega)|(simp only[aZF];split<;>omega))
theorem BD:nA zX:=by
 intro s n s' h e;unfold zX at e;have h1:=h.ln;have h2:=h.bc
 repeat' split at e
 all_goals cases e
 all_goals (refine h.setBook ?_ ?_<;>first|assumption|(simp<;>omega)|(simp only[aZF];split<;>omega))
theorem BY:nA wZ:=by
 intro s n s' h e;unfold wZ at e;have h1:=h.ch;have h2:=h.cl
 repeat' split at e
 all_goals cases e
 all_goals (refine h.setYard ?_ ?_<;>first|assumption|(simp<;>omega)|(simp only[aZF];split<;>omega))
theorem LV:nA W8:=by
 intro s n s' h e;unfold W8 at e;have h1:=h.ch;have h2:=h.cl
 repeat' split at e
 all_goals cases e
 all_goals (refine h.setYard ?_ ?_<;>first|assumption|(simp<;>omega)|(simp only[aZF];split<;>omega))
theorem QE:nA ZW:=by
 intro s n s' h e;unfold ZW at e;have h1:=h.ch;have h2:=h.cl
 repeat' split at e
 all_goals cases e
 all_goals (refine h.setYard ?_ ?_<;>first|assumption|(simp<;>omega)|(simp only[aZF];split<;>omega))
theorem FA:nA E9:=by
 intro s n s' h e;unfold E9 at e;have h1:=h.ch;have h2:=h.cl
 repeat' split at e
 all_goals cases e
 all_goals (refine h.setYard ?_ ?_<;>first|assumption|(simp<;>omega)|(simp only[aZF];split<;>omega))
theorem x3:nA vI:=by
 intro s n s' h e;unfold vI at e;have h1:=h.ch;have h2:=h.cl
 repeat' split at e
 all_goals cases e
 all_goals (refine h.setYard ?_ ?_<;>first|assumption|(simp<;>omega)|(simp only[aZF];split<;>omega))
theorem NM:∀x∈sF,nA x.2.2:=by
 intro x hx;simp only[sF,GE,n3,bAO]at hx;rcases hx with rfl|rfl|rfl|rfl|rfl|rfl|rfl|rfl|rfl|rfl|rfl|rfl|rfl|rfl|rfl|rfl|rfl|rfl|rfl|rfl|rfl|rfl
 ·exact HD
 ·exact MP
 ·exact Q3 false
 ·exact Q3 true
 ·exact AS
 ·exact FE
 ·exact QG
 ·exact MD
 ·exact IQ
 ·exact FR
 ·exact HV
 ·exact LI
 ·exact BM
 ·exact O2 1
 ·exact O2 2
 ·exact BE
 ·exact BD
 ·exact BY
 ·exact LV
 ·exact QE
 ·exact FA
 ·exact x3
end C12
abbrev Cx.push(X:Cx)(dd:Deferred):Cx:={X with ds:=dd::X.ds}
theorem aOF{c:Operand}{f:FuncId}{c1 c2:List Value}{ats:Array TypeId}(ho:all[ix]?= some ⟨none,.defer {callee:=.value c,args:=#[],argTypes:=ats},ty,pos,aft,g⟩)(hX:X.r=none)(hc:ev σ c=some (.func (.func f) c1.toArray c2.toArray))(hg:dE all σ g)
  (k:WL P (X.push ⟨.fn (.func f) c2.toArray,c1.toArray⟩) bad all K Q os σ μ Ds):WL P X bad all K Q ((false,ix)::os) σ μ Ds:=by
 intro a w hh;rw[sS ho];have hq:kH (Op.defer {callee:=.value c,args:=#[],argTypes:=ats})=false:=rfl;simp only[rQ,hq,aYY,aZW];unfold G4;rw[aYJ (hh.wanted hg)];refine⟨fun _ _=>trivial,?_⟩;have e:(Oper.semAt (FW X.r).round a.eval ⟨none,.defer {callee:=.value c,args:=#[],argTypes:=ats},ty,pos,aft,g⟩).run P w=.ok (.defer ⟨.fn (.func f) c2.toArray,c1.toArray⟩) w:=by
  rw[hX];show(Oper.semAt none a.eval _).run P w=_;rw[Oper.semAt_none];simp only[execOp,resolve,hh.eval hc,Deferred.ofValue,Array.map_empty,Array.append_empty];rfl
 rw[e];obtain⟨h1,h2,h3,D,h4,h5,G⟩:=hh;exact⟨fun h=>(by simp at h),k _ _ ⟨h1,h2,by simp[Act.put,h3],D,h4,h5,G⟩⟩
theorem aRU{f:FuncId}{fn:Func}{c:Code}{args:List Value}{D:aC}{post:aC→Value→Prop}(N:Nat)(hf:P.funcs[f]?= some fn)(hn:(fn.name== "runtime.NumGoroutine")=false)(hb:fn.body=some c)(hN:fn.ntmps=N)(hsz:Nat.ble args.length N=true)
  (h:∀h0:H0,WC P ⟨none,N,[],h0,h0.size,D,[],none⟩ (bodyPostDIn (FW none) 0 P fn (pF ⟨none,N,[],h0,h0.size,D,[],none⟩ fun D' v _=>post D' v)) c (jG 0 args) [] [D]):Fn P f args.toArray D post:=by
 refine⟨EF.of hf hn hb,fun w hw=>?_⟩;subst hN;have hsz:=aZC hsz;refine(dN (r:=none) (n:=0)).1 ((callsIn_of_wp_defers (R:=pF ⟨none,fn.ntmps,[],hd w,w.heap.size,D,[],none⟩ fun D' v _=>post D' v) hf hb bCV (h (hd w) _ w ⟨?_,fun s v hs=>?_,rfl,D,⟨aYI _,aYI _,fun _ _ _=>rfl,fun _ _=>rfl,hw,Yi,aZP,Yi,fun e he=>aYS he⟩,fun D₁ h1=>?_,bCV⟩) rfl).mono ?_)
 ·simp;omega
 ·obtain⟨_,h2⟩:=fQ args 0 s v hs;have hl:=(aXZ.1 h2).1;simp only[bAX]at h2 hl;show(args.toArray++_)[s]?= some v;rw[bAI Yas];simpa using h2
 ·simp only[aYH]at h1;subst h1;exact Le.refl _
 ·rintro e w' ⟨v,D',μ',rfl,hs,hp⟩;exact⟨v,D',rfl,hs.sub (by intro p hp;cases hp) aZP,hp⟩
def DJ(P:Program)(f:FuncId)(args:List Value)(D:aC)(ν:aD)(u u2:FrameMode)(post:aC→aD→Prop):Prop:=
 EF P f∧∀w,eO D w→(∀p∈ν,w.heap[p.1]?= some p.2∧D p.1=[]∧dD p.2)→ν.ks.Nodup→CallsDIn (FW none) 0 P f args.toArray u w fun e u' w'=>∃v D' ν',e=.returned v∧u'=u2∧hP (hd w) w.heap.size D ν.ks ν' D' w'∧post D' ν'
theorem SN{fn:Func}{post:aC→Value→aD→Prop}{dpost:aC→aD→Prop}{A B ν:aD}{f:FuncId}{c1 c2:List Value}{u u2:FrameMode}{rs:List ResultVar}(hu:u≠.run)(hds:X.ds=[⟨.fn (.func f) c2.toArray,c1.toArray⟩])(hex:X.ex=none)(hun:∀p∈ν,dD p.2)
  (hf:∀D,(∀D₁∈Ds,Le D₁ D)→DJ P f (c1++c2) D ν u u2 dpost) (hst:settle u2=.returning) (hr:fn.results=rs.toArray)
  (h:∀D ν',(∀D₁∈Ds,Le D₁ D)→dpost D ν'→∃vs,wL P X σ (A++ν'++B) rs vs∧post D (pT vs) (A++ν'++B)):∀a w,Hl X σ (A++ν++B) Ds a w→LeavesIn (FW none) 0 P fn a.tmps (pF X post) a.defers u w:=by
 intro a w hh;obtain⟨h1,h2,h3,D,h4,h5,G⟩:=id hh;rw[h3,hds];have hF:=hf D h5;have hbx:∀p∈ν,_:=fun p hp=>h4.box p (aXU _ (n5 _ hp))
 have hnd:=h4.nd;simp only[aYE]at hnd;refine leavesIn_cons hu (fun hh=>by simp[FW]at hh) (f:=f) (args:=(c1++c2).toArray) ?_ (fun _ _=>trivial) ?_
 ·show(callFunc f (c1.toArray++c2.toArray)).run P w=_;rw[hF.1];simp
 ·refine(hF.2 w h4.agr (fun p hp=>⟨(hbx p hp).1,(hbx p hp).2.1,hun p hp⟩) (aXX.1 (aXX.1 hnd).1).2.1).mono ?_;rintro e u' w' ⟨v,D',ν',rfl,rfl,hs,hp⟩;have hle:=fU h4.agr hs;have h5':∀D₁∈Ds,Le D₁ D':=fun D₁ hD₁=>(h5 D₁ hD₁).trans hle
  obtain⟨vs,hv,hpost⟩:=h D' ν' h5' hp;have hh':Hl X σ (A++ν'++B) Ds a w':=⟨h1,h2,h3,D',h4.afterG hs,h5',by unfold A8;rw[hex];trivial⟩
  show LeavesIn (FW none) 0 P fn a.tmps (pF X post) [] (settle u') w';rw[hst];exact⟨_,iQ hh' hr hv,_,D',_,rfl,h4.afterG hs,hpost⟩
theorem aSJ{fn:Func}{post:aC→Value→aD→Prop}{dpost:aC→aD→Prop}{A B ν:aD}{f:FuncId}{c1 c2:List Value}{rs:List ResultVar}{e:Exit}(he:(match e with|.normal=>true|.ret=>true|_=>false)=true)(hds:X.ds=[⟨.fn (.func f) c2.toArray,c1.toArray⟩])(hex:X.ex=none)(hun:∀p∈ν,dD p.2)
  (hf:∀D,(∀D₁∈Ds,Le D₁ D)→DJ P f (c1++c2) D ν .returning .returning dpost) (hr:fn.results=rs.toArray)
  (h:∀D ν',(∀D₁∈Ds,Le D₁ D)→dpost D ν'→∃vs,wL P X σ (A++ν'++B) rs vs∧post D (pT vs) (A++ν'++B)):∀a w,Hl X σ (A++ν++B) Ds a w→bodyPostDIn (FW none) 0 P fn (pF X post) e a w:=by
 intro a w hh;have:=SN (u:=.returning) (u2:=.returning) Ye hds hex hun hf rfl hr h a w hh;cases e<;>first|exact this|cases he
theorem GD{fn:Func}{post:aC→Value→aD→Prop}{dpost:aC→aD→Prop}{A B ν:aD}{f:FuncId}{c1 c2:List Value}{rs:List ResultVar}{v:Value}(hds:X.ds=[⟨.fn (.func f) c2.toArray,c1.toArray⟩])(hex:X.ex=none)(hun:∀p∈ν,dD p.2)
  (hf:∀D,(∀D₁∈Ds,Le D₁ D)→DJ P f (c1++c2) D ν (.panicking (oL v)) (.panicking [{v,recovered:=true}]) dpost) (hr:fn.results=rs.toArray)
  (h:∀D ν',(∀D₁∈Ds,Le D₁ D)→dpost D ν'→∃vs,wL P X σ (A++ν'++B) rs vs∧post D (pT vs) (A++ν'++B)):∀a w,Hl X σ (A++ν++B) Ds a w→bodyPostDIn (FW none) 0 P fn (pF X post) (.panic (oL v)) a w:=
 fun a w hh=>SN Ye hds hex hun hf rfl hr h a w hh
theorem aCU{f:FuncId}{fn:Func}{id t:Nat}{y:Code}{args:List Value}{D:aC}{ν:aD}{u u2:FrameMode}{rv:Value}{dpost:aC→aD→Prop}{ats:Array TypeId}(N:Nat)(hf:P.funcs[f]?= some fn)(hn:(fn.name== "runtime.NumGoroutine")=false)
  (hb:fn.body=some (.seq (.region id #[⟨some t,.call {callee:=.builtin .recover,args:=#[],argTypes:=ats},ty,pos,aft,none⟩] false) y)) (hN:fn.ntmps=N) (hsz:Nat.ble args.length N=true) (ht:Nat.blt t N=true)
  (hrec:∀(c₀:Frame) (cs:List Frame),c₀.mode=u→(recoverD (c₀::cs)=some (rv,{c₀ with mode:=u2}::cs))∨(recoverD (c₀::cs)=none∧rv=.nilIface∧u2=u))
  (h:∀h0:H0,(∀p∈ν,p.1<h0.size)→ν.ks.Nodup→WC P (qA N h0 D ν.ks) (bodyPost P fn (j7 (qA N h0 D ν.ks) (fun D' _ ν'=>dpost D' ν') (fun _=>False))) y ((t,rv)::jG 0 args) ν [D]):DJ P f args D ν u u2 dpost:=by
 refine⟨EF.of hf hn hb,fun w hw hν hnd=>?_⟩;subst hN;have hsz:=aZC hsz;refine callsDIn_of_wpSIn hf hb bCV fun c₀ cs hm=>?_
 have hcs:({c₀ with mode:=u}:Frame)=c₀:=by subst hm;rfl
 have hH:Hl (qA fn.ntmps (hd w) D ν.ks) (jG 0 args) ν [D] {tmps:=args.toArray++Array.replicate (fn.ntmps-args.toArray.size) undef,defers:=[]} w:=by
  refine⟨?_,fun s v hs=>?_,rfl,D,⟨aYI _,aYI _,fun _ _ _=>rfl,fun _ _=>rfl,hw,(fun p hp=>?_),hnd,(fun p hp=>(hν p hp).2.2),fun e he=>aYS he⟩,fun D₁ h1=>?_,bCV⟩
  ·simp[qA];omega
  ·obtain⟨_,h2⟩:=fQ args 0 s v hs;have hl:=(aXZ.1 h2).1;simp only[bAX]at h2 hl;show(args.toArray++_)[s]?= some v;rw[bAI Yas];simpa using h2
  ·exact⟨(hν p hp).1,(hν p hp).2.1,aXR (n4.2 ⟨p,hp,rfl⟩)⟩
  ·simp only[aYH]at h1;subst h1;exact Le.refl _
 have key:=h (hd w) (fun p hp=>bK (hν p hp).1) hnd _ w (hH.put ht rv);refine wpSIn_seq (wpSIn_region ?_);have hex:∀ρ:Operand→Value,(execOp ρ ⟨some t,.call {callee:=.builtin .recover,args:=#[],argTypes:=ats},ty,pos,aft,none⟩).run P w=.ok .recover w:=fun ρ=>by
  simp only[execOp,resolve,Array.map_empty];rfl
 have fin:∀cs',cs'=({c₀ with mode:=u2}:Frame)::cs→(y.wpSIn (FW none) 0 P (bodyPostS P fn c₀ cs fun e u' w'=>∃v D' ν',e=.returned v∧u'=u2∧hP (hd w) w.heap.size D ν.ks ν' D' w'∧dpost D' ν')
   (Act.put {tmps:=args.toArray++Array.replicate (fn.ntmps-args.toArray.size) undef,defers:=[]} (some t) rv) cs' w):=by
  rintro cs' rfl;refine wpSIn_of_wpIn rfl (wpIn_mono key fun e a w' hq=>?_);cases e with
  |normal|ret=>
   obtain⟨hd',v,hr,hR⟩:=hq;rcases hR with⟨v',D',ν',he,hs,hp⟩|⟨_,_,_,_,hp⟩
   ·exact⟨hd',u2,rfl,v,hr,v',D',ν',he,rfl,hs,hp⟩
   ·exact hp.elim
  |panic ch=>
   obtain⟨hd',hR⟩:=hq;rcases hR with⟨v',D',ν',he,hs,hp⟩|⟨_,_,_,_,hp⟩
   ·cases he
   ·exact hp.elim
  |outgrown=>
   rcases hq with⟨v',D',ν',he,hs,hp⟩|⟨_,_,_,_,hp⟩
   ·cases he
   ·exact hp.elim
  |exit=>exact hq.elim
  |goto=>exact hq.elim
 show wpOpsSIn (FW none) 0 P _ _ [0] _ _ _;simp only[wpOpsSIn,List.getElem?_toArray,List.getElem?_cons_zero];refine⟨fun _ _=>trivial,?_⟩;rw[aYJ Yav,hex];rcases hrec c₀ cs hm with hr|⟨hr,rfl,rfl⟩
 ·simp only[hr];exact fin _ rfl
 ·simp only[hr];exact fin _ (by rw[hcs])
theorem aGK{c₀:Frame}{cs:List Frame}(hm:c₀.mode=.returning):recoverD (c₀::cs)=none:=by simp[recoverD,hm]
theorem aJS{c₀:Frame}{cs:List Frame}{v:Value}(hm:c₀.mode=.panicking (oL v)):recoverD (c₀::cs)=some (v,{c₀ with mode:=.panicking [{v,recovered:=true}]}::cs):=by simp[recoverD,hm,oL]
theorem mC.reorder{f:FuncId}{args:List Value}{D:aC}{ν ν2:aD}{post post':aC→Value→aD→Prop}{pan pan':Value→Prop}(h:mC P f args D ν post pan)(hp:ν.Perm ν2)(h1:∀D' v ν',Le D D'→post D' v ν'→∃ν'',ν''.Perm ν'∧post' D' v ν'')(h2:∀v,pan v→pan' v):mC P f args D ν2 post' pan':=by
 refine⟨h.1,fun w hw hν hn=>(h.2 w hw (fun p hp'=>hν p (hp.mem_iff.1 hp')) ((hp.map (·.1)).nodup_iff.2 hn)).mono ?_⟩;have hk:∀b,b∉ν2.ks→b∉ν.ks:=fun b hb hm=>hb ((hp.map (·.1)).mem_iff.1 hm)
 rintro e w' (⟨v,D',ν',he,hs,hpost⟩|⟨v,D',he,hs,hpan⟩)
 ·obtain⟨ν'',hq,hpost'⟩:=h1 D' v ν' (fU hw hs) hpost;refine aYF ⟨v,D',ν'',he,⟨hs.hlo,hs.size,fun b hb hm=>hs.old b hb (hk b hm),hs.dold,hs.agr,fun p hp'=>?_,(hq.map (·.1)).nodup_iff.2 hs.nd,fun p hp'=>hs.fz p (hq.mem_iff.1 hp'),hs.env⟩,hpost'⟩;obtain⟨G,I,M⟩:=hs.box p (hq.mem_iff.1 hp');exact⟨G,I,M.imp id fun hm=>(hp.map (·.1)).mem_iff.1 hm⟩
 ·exact aXR ⟨v,D',he,⟨hs.hlo,hs.size,fun b hb hm=>hs.old b hb (hk b hm),hs.dold,hs.agr,(fun p hp'=>by cases hp'),aZP,(fun p hp'=>by cases hp'),hs.env⟩,h2 v hpan⟩
theorem C4{G I:aD}(h:∀ [BEq (Nat×Obj)] [LawfulBEq (Nat×Obj)] (a:Nat×Obj),G.count a=I.count a):G.Perm I:=by
 classical
 exact List.perm_iff_count.2 fun a=>h a
def aXB(Q:Exit→Act→World→Prop):Exit→Act→World→Prop:=fun e a w=>match e with
 |.panic _=>False
 |e=>Q e a w
theorem aTD:NP (aXB Q):=fun _ _ _ h=>h
theorem ZB{c:Code}(h:WC P X (aXB Q) c σ μ Ds):WC P X Q c σ μ Ds:=fun a w hh=>wpIn_mono (h a w hh) (fun e a w hq=>by cases e<;>first|exact hq|exact hq.elim)
theorem aMT{y:Code}(h:WC P X Q y σ μ Ds):∀a w,Hl X σ μ Ds a w→aXB (Exit.then (y.wpIn (FW X.r) 0 P Q) Q) .normal a w:=h
theorem DU(a b:ByteArray):(a.toList==b.toList)=decide (a=b):=by
 rw[bAY];simp only[bCC,aYM];rw[ByteArray.toList_eq,ByteArray.toList_eq];exact⟨fun h=>Go.WideShapes.bytes_inj h,fun h=>by rw[h]⟩
theorem fI{t t':TypeId}{a b:ByteArray}(ho:all[ix]?= some ⟨some d,.binOp .add t x y t',ty,pos,aft,g⟩)(hx:ev σ x=some (.string a))(hy:ev σ y=some (.string b))(hl:a.size+b.size≤9223372036854775807)(hN:Nat.blt d X.N=true)(hg:dE all σ g)
  (kk:WL P X bad all K Q os ((d,.string (a++b))::σ) μ Ds):WL P X bad all K Q ((fl,ix)::os) σ μ Ds:=
 bX ho rfl rfl hN hg (fun ρ hρ w'=>by
  have:((do eqGuard .add t x y (.string a) (.string b);binOp .add t (.string a) (.string b)):Sem Value).run P w'=.ok (.string (a++b)) w':=by
   rw[Sem.run_bind];have h1:(eqGuard .add t x y (.string a) (.string b)).run P w'=.ok () w':=rfl;rw[h1];show(binOp .add t (.string a) (.string b)).run P w'=_;rw[binOp_string_add];exact run_string_add_sum _ a b hl
  simp only[execOp,hρ x _ hx,hρ y _ hy];rw[Sem.run_bind,this];rfl) kk
theorem yA{t t':TypeId}{a b:ByteArray}(ho:all[ix]?= some ⟨some d,.binOp .eql t x y t',ty,pos,aft,g⟩)(hx:ev σ x=some (.string a))(hy:ev σ y=some (.string b))(hN:Nat.blt d X.N=true)(hg:dE all σ g)
  (kk:WL P X bad all K Q os ((d,.bool (decide (a=b)))::σ) μ Ds):WL P X bad all K Q ((fl,ix)::os) σ μ Ds:=
 yK ho (fun w=>by
  rw[Sem.run_bind];have h1:(eqGuard .eql t x y (.string a) (.string b)).run P w=.ok () w:=rfl;rw[h1,←DU];show(binOp .eql t (.string a) (.string b)).run P w=_;rw[binOp_string_eql];rfl) hx hy hN hg kk
theorem MR{t t':TypeId}{a b:ByteArray}(ho:all[ix]?= some ⟨some d,.binOp .neq t x y t',ty,pos,aft,g⟩)(hx:ev σ x=some (.string a))(hy:ev σ y=some (.string b))(hN:Nat.blt d X.N=true)(hg:dE all σ g)
  (kk:WL P X bad all K Q os ((d,.bool (!decide (a=b)))::σ) μ Ds):WL P X bad all K Q ((fl,ix)::os) σ μ Ds:=
 t6 ho (fun w=>by
  rw[Sem.run_bind];have h1:(eqGuard .neq t x y (.string a) (.string b)).run P w=.ok () w:=rfl;rw[h1,←DU];show(binOp .neq t (.string a) (.string b)).run P w=_;rw[binOp_string_neq];rfl) hx hy hN hg kk
theorem u9{t:TypeId}{s:ByteArray}{k:IntKind}{i:Int}{c:UInt8}(ho:all[ix]?= some ⟨some d,.index t x y,ty,pos,aft,g⟩)(ht:P.underlying t=some .string)(hx:ev σ x=some (.string s))(hy:ev σ y=some (.int k i))(h0:0≤i)(hc:s[i.toNat]?= some c)(hN:Nat.blt d X.N=true)(hg:dE all σ g)
  (kk:WL P X bad all K Q os ((d,.int .u8 c.toNat)::σ) μ Ds):WL P X bad all K Q ((fl,ix)::os) σ μ Ds:=
 bX ho rfl rfl hN hg (fun ρ hρ w'=>by
  simp only[execOp,hρ x _ hx,hρ y _ hy];unfold Instr.index asIntOf;simp only[Sem.run_bind,TU.of ht w',Result.andThen_ok,Sem.run_pure,pure_bind,h0,aZU,hc]) kk
def aAT:Value→Bool
 |.nilIface=>true
 |_=>false
theorem PU{t t':TypeId}{c:Value}{ms:Array (String×TypeId)}(ho:all[ix]?= some ⟨some d,.binOp .eql t x (.const .nilIface) t',ty,pos,aft,g⟩)(ht:P.underlying t=some (.interface ms))(hx:ev σ x=some c)(hc:c=.nilIface∨∃t u,c=.iface t u)(hN:Nat.blt d X.N=true)(hg:dE all σ g)
  (kk:WL P X bad all K Q os ((d,.bool (aAT c))::σ) μ Ds):WL P X bad all K Q ((fl,ix)::os) σ μ Ds:=
 yK ho (fun w=>by
  have h1:(eqGuard .eql t x (.const .nilIface) c .nilIface).run P w=.ok () w:=by
   rcases hc with rfl|⟨_,_,rfl⟩
   ·simp only[eqGuard];cases x<;>rfl
   ·rfl
  have h2:(Op.equal t c .nilIface).run P w=.ok (aAT c) w:=by
   show(Op.equalIn (9999+1) t c .nilIface).run P w=_;rw[Op.equalIn,Sem.run_bind,TU.of ht w];rcases hc with rfl|⟨_,_,rfl⟩<;>rfl
  rw[Sem.run_bind,h1];have h3:(binOp .eql t c .nilIface).run P w=((do Pure.pure (Value.bool (←Op.equal t c .nilIface))):Sem Value).run P w:=by rcases hc with rfl|⟨_,_,rfl⟩<;>rfl
  show(binOp .eql t c .nilIface).run P w=_;rw[h3,Sem.run_bind,h2];rfl) hx rfl hN hg kk
theorem ZD{t t':TypeId}{fs:Array Field}(ho:all[ix]?= some ⟨some d,.typeAssert x t' t true,ty,pos,aft,g⟩)(ht:P.underlying t=some (.struct fs))(hx:ev σ x=some (.iface t v))(hN:Nat.blt d X.N=true)(hg:dE all σ g)
  (kk:WL P X bad all K Q os ((d,.tuple #[v,.bool true])::σ) μ Ds):WL P X bad all K Q ((fl,ix)::os) σ μ Ds:=
 bX ho rfl rfl hN hg (fun ρ hρ w'=>by
  simp only[execOp,hρ x _ hx];unfold Instr.typeAssert;simp only[Sem.run_bind,TU.of ht w',Result.andThen_ok,aZU,Sem.run_pure]) kk

theorem Fn.of_below{f:FuncId}{args:Array Value}{D:aC}{post:aC→Value→Prop}(hEF:EF P f)(h:∀w,eO D w→Calls P f args w fun en w'=>∃r,en=.returned r∧Go.RowKit.Below w.heap.size w w'∧∀D',Le D D'→post D' r):Fn P f args D post:=by
 refine⟨hEF,fun w hw=>(h w hw).mono ?_⟩;rintro en w' ⟨r,he,hb,hp⟩;refine⟨r,D,he,⟨aYI _,hb.size,fun b hl _=>hb.block b hl,fun _ _=>rfl,hw.of (fun b hb'=>?_) rfl (hb.block 0 hw.pos),Yi,aZP,Yi,fun e he=>by rw[←aYS he];exact Prod.ext hb.os hb.output⟩,hp D (Le.refl _)⟩
 obtain⟨cs,e,fz,h1,h2⟩:=hw.1 b hb';exact⟨cs,e,fz,by rw[hb.block b (bK h1)];exact h1,h2⟩
theorem vK{α:Type}{R:Rd α}{t e:TypeId}{D₁:aC}{ad:Option Addr}{n cap j:Nat}{k:IntKind}{xs:List α}(ho:all[ix]?= some ⟨some d,.slice t x (some y) none none,ty,pos,aft,g⟩)(ht:P.underlying t=some (.slice e))(hs:TS P e 1)(hx:ev σ x=some (.slice ad n cap))(hS:Sl D₁ R 1 (.slice ad n cap) xs)(hy:ev σ y=some (.int k (j:Int)))(hj:j≤n)
  (hN:Nat.blt d X.N=true) (hg:dE all σ g) (kk:∀a',Sl D₁ R 1 (.slice a' (n-j) (cap-j)) (xs.drop j)→WL P X bad all K Q os ((d,.slice a' (n-j) (cap-j))::σ) μ Ds):WL P X bad all K Q ((fl,ix)::os) σ μ Ds:=by
 obtain⟨a,c,hv,h1,h2,h3⟩:=hS;cases hv;refine bX (v:=.slice (if cap=j then ad else ad.map (·.add (j*1))) (xs.length-j) (cap-j)) ho rfl rfl hN hg (fun ρ hρ w'=>?_) (kk _ ⟨_,_,by rw[bAA],by rw[bAA];omega,by rw[bAA];omega,?_⟩)
 ·simp only[execOp,aZX,aYX,hρ x _ hx,hρ y _ hy];unfold Instr.sliceAt Instr.slice Instr.sliceBounds Instr.sliceBound asIntOf;have hle:(0:Int)≤(j:Int)∧(j:Int)≤(xs.length:Nat):=by omega
  simp only[Sem.run_bind,TU.of ht w',Result.andThen_ok,Sem.run_pure,pure_bind,hs w',hle,bCL,aZU,aZN]
 ·by_cases he:xs.length=j
  ·exact aYF (aYV Yd)
  ·rcases h3 with h3|⟨b,o,rfl,h3⟩
   ·subst h3;simp at he hj;omega
   ·refine aXR ⟨b,o+j,by rw[aYC Yd];simp[gI],fun i z hi=>?_⟩;rw[bAD]at hi;obtain⟨cs,hr,hc,hA⟩:=h3 _ _ hi;exact⟨cs,hr,hc,by rw[show o+j+i*1=o+(j+i)*1 by omega];exact hA⟩
end Go.Fs
