/- Of the proof of BookWider: BW8, BW9, BW10, BW11, BW12, Delete, BW13, BW14, BW15, StrMap, BW16, Acts, Line, Defer, Str. -/
import Derived.Test.YtdjdcpieiedfgaaGreatDoorZBookWiderAH
import Derived.Test.YtdjdcpieiedfgaaGreatDoorZBookWiderAD
import Derived.Test.YtdjdcpieiedfgaaGreatDoorZBookWiderAE
import Derived.Lib.Split
import Derived.Lib.AtoiTie
import Derived.Lib.AtoiAllCases
import Derived.Lib.ItoaNum
import Derived.WideShapes
import Derived.DefersIn
import Derived.RecoverIn
import Derived.Laws.Concat
import Derived.Laws.Strings
import Derived.Below
namespace Go.Fs
open Go.Proofs Tryz
namespace L12
open C12
theorem aBA(wb:Nat)(s:aN)(pv cv hv lv mv bl bc yc yq nv:Value)(a b:Int)(ν:aD)(D:aC)(hn:Sl D RI 1 nv [a,b])(ha:bS 90 2 yq s.yard.claims.length (s.yard.claims.flatMap cP) ν)(hsm:s.yard.claims.length≤100):lH prog 286 [qP wb,nv] D ((wb,qC (dO s pv cv hv lv mv bl bc yc yq) 343)::ν) (fun _ _ ν'=>((a≤b∧b≤7)∧(s.yard.claims.length:Int)<5)∧∃v1 ν1,ν'=(wb,qC (dO s pv cv hv lv mv bl bc yc v1) 343)::ν1∧bS 90 2 v1 (s.yard.claims.length+1) ((s.yard.claims++[(a,b)]).flatMap cP) ν1) (fun v=>((b<a∨7<b)∧v=fD 2)∨((a≤b∧b≤7)∧5≤(s.yard.claims.length:Int)∧v=fD 3)):=by
 obtain⟨bt,ot,ct,rfl⟩:=kK hn Ye;have hbt:=nL hn;refine eQ 39 func286 rfl rfl rfl rfl (fun h0 hwl hwn=>aS<|cO [] 3 7 56<|Za rfl<|cW rfl hn<|Za rfl<|cW rfl hn<|Ze [(_,_)] ν [] rfl (Or.inr Yi) (fun D5 R=>DR a b 7 _) (fun v5 D6 R G=>cJ (P:=prog) (fn:=f286) rfl (aZE ⟨G.1,G.2⟩)) (fun v5 D6 ν5 R G=>?_));obtain⟨U,rfl⟩:=G;refine aL<|Za rfl<|Zaj rfl<|Zh rfl aX rfl<|Zh rfl dL rfl<|Zh rfl iB rfl<|Zm rfl pV rfl Mm0 rfl<|fJ rfl U38 rfl ha rfl rfl bDY<|Ze [(_,_)] ν [] rfl (Or.inr Yi) (fun D7 V=>xH (s.yard.claims.length:Int) 5 _) (fun v7 D8 V I=>cJ (P:=prog) (fn:=f286) rfl (aYZ ⟨U,I.1,I.2⟩)) (fun v7 D8 ν7 V I=>?_);obtain⟨Y,rfl⟩:=I;refine aF<|lA hbt Ye (fun hap=>zB (fun hnd=>?_));have hnu:=mW hap hnd;have hwbo:wb∉gN.mk [bt,wb]:=gN.out Ye;have hbto:bt∉gN.mk [bt,wb]:=gN.out Ye;refine cO (gN.mk [bt,wb]) 4 21 65534<|Za rfl<|Za rfl<|Zaj rfl<|Zh rfl aX rfl<|Zh rfl dL rfl<|Zh rfl iB rfl<|bZ rfl pV rfl Mm0 rfl Yn rfl bDY<|Za rfl<|cW rfl hn<|Za rfl<|cW rfl hn ?_;refine Zr [qI a,qI b] rfl y8 kG rfl<|Zp rfl U38 cU kG rfl (.cons rfl rfl .nil) (fun hE hF Z M=>aI ((wb,qC (dO s pv cv hv lv mv bl bc yc yq) 343)::ν) rfl<|aI ((wb,qC (dO s pv cv hv lv mv bl bc yc yq) 343)::ν++[]) (aZA _).symm<|bB (A:=[(wb,qC (dO s pv cv hv lv mv bl bc yc yq) 343)]) (B:=[]) rfl U38 rfl rfl cU kG rfl aDK rfl rfl rfl ha (mI.lit M) Ye rfl (bP (n:=2) (fun _=>rfl) _) Yk Yd Yo rfl bDY (fun v1 ν1 O=>aI ((wb,qC (dO s pv cv hv lv mv bl bc yc yq) 343)::ν1) (aZA _) ?_));have hB:bS 90 2 v1 (s.yard.claims.length+1) ((s.yard.claims++[(a,b)]).flatMap cP) ν1:=by rw[aZS,bAJ];exact O
 refine Zaj rfl<|Zh rfl aX rfl<|Zh rfl dL rfl<|Zh rfl iB rfl<|bG (ws:=(dO s pv cv hv lv mv bl bc yc v1)) rfl rfl rfl O.cells1 HH .head Ye rfl O.cell1 bDY<|Zah ?_;refine fun a w hh=>kF (P:=prog) (fn:=f286) (A:=[]) (ν':=((wb,_)::ν1)) (B:=[]) (vs:=[]) rfl rfl rfl bDY (fun D' hD=>⟨⟨U,Y⟩,v1,ν1,rfl,hB⟩) a w (hh.boxesEq (aZA _).symm)
theorem X3(wb:Nat)(s:aN)(pv cv hv lv mv bl bc yc yq nv:Value)(a b:Int)(ν:aD)(D:aC)(hn:Sl D RI 1 nv [a,b])(ha:bS 206 3 bl s.book.lines.length (s.book.lines.flatMap cL) ν)(hsm:s.book.lines.length≤100)(kd:Int):lH prog 347 [qP wb,nv,qI kd] D ((wb,qC (dO s pv cv hv lv mv bl bc yc yq) 343)::ν) (fun _ _ ν'=>(max a b<s.book.chairs∧(s.book.lines.length:Int)<8)∧∃v1 ν1,ν'=(wb,qC (dO s pv cv hv lv mv v1 bc yc yq) 343)::ν1∧bS 206 3 v1 (s.book.lines.length+1) ((s.book.lines++[(⟨kd,a,b⟩:C3.gI)]).flatMap cL) ν1) (fun v=>(s.book.chairs≤max a b∧v=fD 7)∨(max a b<s.book.chairs∧8≤(s.book.lines.length:Int)∧v=fD 3)):=by
 obtain⟨bt,ot,ct,rfl⟩:=kK hn Ye;have hbt:=nL hn;refine eQ 49 func347 rfl rfl rfl rfl (fun h0 hwl hwn=>aS<|cO [] 6 14 8120<|Za rfl<|cW rfl hn<|Za rfl<|cW rfl hn<|qW rfl rfl rfl rfl bDY<|Za rfl<|Zaj rfl<|Zh rfl aX rfl<|Zh rfl eL rfl ?_);refine Zh rfl oI rfl<|Zm rfl aJ rfl Mm0 rfl<|Ze [(_,_)] ν [] rfl (Or.inr Yi) (fun D5 R=>kN (max a b) s.book.chairs _) (fun v5 D6 R G=>cJ (P:=prog) (fn:=f347) rfl (aZE ⟨G.1,G.2⟩)) (fun v5 D6 ν5 R G=>?_);obtain⟨U,rfl⟩:=G;refine aL<|Za rfl<|Zaj rfl<|Zh rfl aX rfl<|Zh rfl eL rfl<|Zh rfl cE rfl<|Zm rfl fA rfl Mm0 rfl<|fJ rfl U33 rfl ha rfl rfl bDY<|Ze [(_,_)] ν [] rfl (Or.inr Yi) (fun D7 V=>xH (s.book.lines.length:Int) 8 _) (fun v7 D8 V I=>cJ (P:=prog) (fn:=f347) rfl (aYZ ⟨U,I.1,I.2⟩)) (fun v7 D8 ν7 V I=>?_);obtain⟨Y,rfl⟩:=I;refine aF<|lA hbt Ye (fun hap=>zB (fun hnd=>?_));have hnu:=mW hap hnd;have hwbo:wb∉gN.mk [bt,wb]:=gN.out Ye;have hbto:bt∉gN.mk [bt,wb]:=gN.out Ye;refine cO (gN.mk [bt,wb]) 4 22 131070<|Za rfl<|Za rfl<|Zaj rfl<|Zh rfl aX rfl<|Zh rfl eL rfl<|Zh rfl cE rfl<|bZ rfl fA rfl Mm0 rfl Yn rfl bDY<|Za rfl<|Za rfl<|cW rfl hn<|Za rfl ?_;refine cW rfl hn<|Zr [qI kd,qI a,qI b] rfl WY jJ rfl<|Zp rfl U33 bU jJ rfl (.cons rfl rfl .nil) (fun hE hF Z M=>aI ((wb,qC (dO s pv cv hv lv mv bl bc yc yq) 343)::ν) rfl<|aI ((wb,qC (dO s pv cv hv lv mv bl bc yc yq) 343)::ν++[]) (aZA _).symm<|bB (A:=[(wb,qC (dO s pv cv hv lv mv bl bc yc yq) 343)]) (B:=[]) rfl U33 rfl rfl bU jJ rfl Q7 rfl rfl rfl ha (mI.lit M) Ye rfl (bP (n:=3) (fun _=>rfl) _) Yk Yd Yo rfl bDY (fun v1 ν1 O=>aI ((wb,qC (dO s pv cv hv lv mv bl bc yc yq) 343)::ν1) (aZA _) ?_));have hB:bS 206 3 v1 (s.book.lines.length+1) ((s.book.lines++[(⟨kd,a,b⟩:C3.gI)]).flatMap cL) ν1:=by rw[aZS,bAJ];exact O
 refine Zaj rfl<|Zh rfl aX rfl<|Zh rfl eL rfl<|Zh rfl cE rfl<|bG (ws:=(dO s pv cv hv lv mv v1 bc yc yq)) rfl rfl rfl O.cells1 eI .head Ye rfl O.cell1 bDY<|Zah ?_;refine fun a w hh=>kF (P:=prog) (fn:=f347) (A:=[]) (ν':=((wb,_)::ν1)) (B:=[]) (vs:=[]) rfl rfl rfl bDY (fun D' hD=>⟨⟨U,Y⟩,v1,ν1,rfl,hB⟩) a w (hh.boxesEq (aZA _).symm)
theorem X4(wb:Nat)(s:aN)(pv cv hv lv mv bl bc yc yq nv:Value)(a b:Int)(ν:aD)(D:aC)(hn:Sl D RI 1 nv [a,b])(ha:bS 202 3 cv s.row.counts.length (s.row.counts.flatMap cC) ν)(hsm:s.row.counts.length≤100)(bk:Bool)(hpl:∃x c,pv=.slice x s.row.places.length c):lH prog 343 [qP wb,nv,.bool bk] D ((wb,qC (dO s pv cv hv lv mv bl bc yc yq) 343)::ν) (fun _ _ ν'=>((a≤(s.row.places.length:Int)∧b≤9)∧(s.row.counts.length:Int)<6)∧∃v1 ν1,ν'=(wb,qC (dO s pv v1 hv lv mv bl bc yc yq) 343)::ν1∧bS 202 3 v1 (s.row.counts.length+1) ((s.row.counts++[(⟨bk,a,b⟩:C1.xI)]).flatMap cC) ν1) (fun v=>(((s.row.places.length:Int)<a∨9<b)∧v=fD 2)∨((a≤(s.row.places.length:Int)∧b≤9)∧6≤(s.row.counts.length:Int)∧v=fD 3)):=by
 obtain⟨bt,ot,ct,rfl⟩:=kK hn Ye;have hbt:=nL hn;refine eQ 52 func343 rfl rfl rfl rfl (fun h0 hwl hwn=>aS<|cO [] 9 17 31736<|Za rfl<|cW rfl hn<|Za rfl<|Zaj rfl<|Zh rfl aX rfl<|Zh rfl dC rfl<|Zh rfl eB rfl<|Zm rfl dN rfl Mm0 rfl ?_);obtain⟨aq,cq,hq⟩:=hpl;refine aFQ rfl U25 rfl hq rfl rfl bDY<|fI rfl rfl rfl rfl bDY<|Za rfl<|cW rfl hn<|fI rfl rfl rfl rfl bDY<|Zp rfl U401 lT nS rfl (.cons rfl rfl (.cons rfl rfl .nil)) (fun hI hJ hB M=>Ze [(_,_)] ν [] rfl (aYZ Yi) (fun D5 O=>fH 2 [decide ((s.row.places.length:Int)<a),decide (9<b)] _ _ ((gQ (l:=[decide ((s.row.places.length:Int)<a),decide (9<b)]) (fun _ _ _ h=>h) M Ye).up RB.up (O _ Ye))) (fun v5 D6 O G=>cJ (P:=prog) (fn:=f343) rfl (aZE ⟨by simpa using G.1,G.2⟩)) (fun v5 D6 ν5 O G=>?_));obtain⟨V,rfl⟩:=G;have Y:a≤(s.row.places.length:Int)∧b≤9:=by simpa using V
 refine aL<|Za rfl<|Zaj rfl<|Zh rfl aX rfl<|Zh rfl dC rfl<|Zh rfl hP rfl<|Zm rfl pT rfl Mm0 rfl<|fJ rfl U26 rfl ha rfl rfl bDY<|Ze [(_,_)] ν [] rfl (Or.inr Yi) (fun D7 Z=>xH (s.row.counts.length:Int) 6 _) (fun v7 D8 Z I=>cJ (P:=prog) (fn:=f343) rfl (aYZ ⟨Y,I.1,I.2⟩)) (fun v7 D8 ν7 Z I=>?_);obtain⟨hE,rfl⟩:=I;refine aF<|lA hbt Ye (fun hap=>zB (fun hnd=>?_));have hnu:=mW hap hnd;have hwbo:wb∉gN.mk [bt,wb]:=gN.out Ye;have hbto:bt∉gN.mk [bt,wb]:=gN.out Ye;refine cO (gN.mk [bt,wb]) 4 22 131070<|Za rfl<|Za rfl<|Zaj rfl<|Zh rfl aX rfl<|Zh rfl dC rfl<|Zh rfl hP rfl<|bZ rfl pT rfl Mm0 rfl Yn rfl bDY<|Za rfl<|Za rfl<|cW rfl hn<|Za rfl ?_;refine cW rfl hn<|Zr [.bool bk,qI a,qI b] rfl aQU wJ rfl<|Zp rfl U26 gV wJ rfl (.cons rfl rfl .nil) (fun hK hM hF R=>aI ((wb,qC (dO s pv cv hv lv mv bl bc yc yq) 343)::ν) rfl<|aI ((wb,qC (dO s pv cv hv lv mv bl bc yc yq) 343)::ν++[]) (aZA _).symm<|bB (A:=[(wb,qC (dO s pv cv hv lv mv bl bc yc yq) 343)]) (B:=[]) rfl U26 rfl rfl gV wJ rfl TY rfl rfl rfl ha (mI.lit R) Ye rfl (bP (n:=3) (fun _=>rfl) _) Yk Yd Yo rfl bDY (fun v1 ν1 U=>aI ((wb,qC (dO s pv cv hv lv mv bl bc yc yq) 343)::ν1) (aZA _) ?_));have hH:bS 202 3 v1 (s.row.counts.length+1) ((s.row.counts++[(⟨bk,a,b⟩:C1.xI)]).flatMap cC) ν1:=by rw[aZS,bAJ];exact U
 refine Zaj rfl<|Zh rfl aX rfl<|Zh rfl dC rfl<|Zh rfl hP rfl<|bG (ws:=(dO s pv v1 hv lv mv bl bc yc yq)) rfl rfl rfl U.cells1 GH .head Ye rfl U.cell1 bDY<|Zah ?_;refine fun a w hh=>kF (P:=prog) (fn:=f343) (A:=[]) (ν':=((wb,_)::ν1)) (B:=[]) (vs:=[]) rfl rfl rfl bDY (fun D' hD=>⟨⟨Y,hE⟩,v1,ν1,rfl,hH⟩) a w (hh.boxesEq (aZA _).symm)
theorem aIL(wb:Nat)(s:aN)(pv cv hv lv mv bl bc yc yq nv:Value)(a b c d:Int)(ν:aD)(D:aC)(hn:Sl D RI 1 nv [a,b,c,d])(ha:bS 204 4 mv s.table.marks.length (s.table.marks.flatMap cM) ν)(hsm:s.table.marks.length≤100)(hht:∃x c,hv=.slice x s.table.heights.length c):lH prog 277 [qP wb,nv] D ((wb,qC (dO s pv cv hv lv mv bl bc yc yq) 343)::ν) (fun _ _ ν'=>(max a b<(s.table.heights.length:Int)∧a≤b∧(c≤d∧d≤99)∧(s.table.marks.length:Int)<5)∧∃v1 ν1,ν'=(wb,qC (dO s pv cv hv lv v1 bl bc yc yq) 343)::ν1∧bS 204 4 v1 (s.table.marks.length+1) ((s.table.marks++[(⟨a,b,c,d⟩:C2.Mk)]).flatMap cM) ν1) (fun v=>((s.table.heights.length:Int)≤max a b∧v=fD 7)∨(max a b<(s.table.heights.length:Int)∧b<a∧v=fD 2)∨(max a b<(s.table.heights.length:Int)∧a≤b∧(d<c∨99<d)∧v=fD 2)∨(max a b<(s.table.heights.length:Int)∧a≤b∧(c≤d∧d≤99)∧5≤(s.table.marks.length:Int)∧v=fD 3)):=by
 obtain⟨bt,ot,ct,rfl⟩:=kK hn Ye;have hbt:=nL hn;refine eQ 70 func277 rfl rfl rfl rfl (fun h0 hwl hwn=>aS<|cO [] 7 15 16312<|Za rfl<|cW rfl hn<|Za rfl<|cW rfl hn<|qW rfl rfl rfl rfl bDY<|Za rfl<|Zaj rfl<|Zh rfl aX rfl<|Zh rfl bN rfl ?_);refine Zh rfl fP rfl<|Zm rfl lM rfl Mm0 rfl ?_;obtain⟨aq,cq,hq⟩:=hht;refine aFQ rfl U29 rfl hq rfl rfl bDY<|Ze [(_,_)] ν [] rfl (Or.inr Yi) (fun D5 hF=>kN (max a b) (s.table.heights.length:Int) _) (fun v5 D6 hF I=>cJ (P:=prog) (fn:=f277) rfl (aZE ⟨I.1,I.2⟩)) (fun v5 D6 ν5 hF I=>?_);obtain⟨M,rfl⟩:=I;refine bT<|cO [] 5 9 56<|Za rfl<|cW rfl hn<|Za rfl<|cW rfl hn<|fI rfl rfl rfl rfl bDY<|Zp rfl U401 lT nS rfl (.cons rfl rfl .nil) (fun hX hY hM V=>Ze [(_,_)] ν [] rfl (aYZ Yi) (fun D7 Y=>fH 2 [decide (b<a)] _ _ ((gQ (l:=[decide (b<a)]) (fun _ _ _ h=>h) V Ye).up RB.up (Y _ Ye))) (fun v7 D8 Y O=>cJ (P:=prog) (fn:=f277) rfl (aYZ (aZE ⟨M,by simpa using O.1,O.2⟩))) (fun v7 D8 ν7 Y O=>?_));obtain⟨hH,rfl⟩:=O;have Z:a≤b:=by simpa using hH
 refine bT<|cO [] 3 7 56<|Za rfl<|cW rfl hn<|Za rfl<|cW rfl hn<|Ze [(_,_)] ν [] rfl (Or.inr Yi) (fun D9 hI=>DR c d 99 _) (fun v9 D10 hI R=>cJ (P:=prog) (fn:=f277) rfl (aYZ (aYZ (aZE ⟨M,Z,R.1,R.2⟩)))) (fun v9 D10 ν9 hI R=>?_);obtain⟨hJ,rfl⟩:=R;refine aL<|Za rfl<|Zaj rfl<|Zh rfl aX rfl<|Zh rfl bN rfl<|Zh rfl iA rfl<|Zm rfl pH rfl Mm0 rfl<|fJ rfl U30 rfl ha rfl rfl bDY<|Ze [(_,_)] ν [] rfl (Or.inr Yi) (fun D11 U=>xH (s.table.marks.length:Int) 5 _) (fun hN hO U G=>cJ (P:=prog) (fn:=f277) rfl (aYZ (aYZ (aYZ ⟨M,Z,hJ,G.1,G.2⟩)))) (fun hN hO ν11 U G=>?_);obtain⟨hK,rfl⟩:=G;refine aF<|lA hbt Ye (fun hap=>zB (fun hnd=>?_));have hnu:=mW hap hnd;have hwbo:wb∉gN.mk [bt,wb]:=gN.out Ye;have hbto:bt∉gN.mk [bt,wb]:=gN.out Ye;refine cO (gN.mk [bt,wb]) 4 28 8388606<|Za rfl<|Za rfl<|Zaj rfl<|Zh rfl aX rfl<|Zh rfl bN rfl<|Zh rfl iA rfl<|bZ rfl pH rfl Mm0 rfl Yn rfl bDY<|Za rfl<|cW rfl hn<|Za rfl<|cW rfl hn ?_;refine Za rfl<|cW rfl hn<|Za rfl<|cW rfl hn<|Zr [qI c,qI d] rfl H9 iH rfl<|Zr [qI a,qI b,qI c,qI d] rfl aPM wS rfl<|Zp rfl U30 iG wS rfl (.cons rfl rfl .nil) (fun rA rB hR hB=>aI ((wb,qC (dO s pv cv hv lv mv bl bc yc yq) 343)::ν) rfl<|aI ((wb,qC (dO s pv cv hv lv mv bl bc yc yq) 343)::ν++[]) (aZA _).symm<|bB (A:=[(wb,qC (dO s pv cv hv lv mv bl bc yc yq) 343)]) (B:=[]) rfl U30 rfl rfl iG wS rfl WH rfl rfl rfl ha (mI.lit hB) Ye rfl (bP (n:=4) (fun _=>rfl) _) Yk Yd Yo rfl bDY (fun v1 ν1 hE=>aI ((wb,qC (dO s pv cv hv lv mv bl bc yc yq) 343)::ν1) (aZA _) ?_));have hS:bS 204 4 v1 (s.table.marks.length+1) ((s.table.marks++[(⟨a,b,c,d⟩:C2.Mk)]).flatMap cM) ν1:=by rw[aZS,bAJ];exact hE
 refine Zaj rfl<|Zh rfl aX rfl<|Zh rfl bN rfl<|Zh rfl iA rfl<|bG (ws:=(dO s pv cv hv lv v1 bl bc yc yq)) rfl rfl rfl hE.cells1 FF .head Ye rfl hE.cell1 bDY<|Zah ?_;refine fun a w hh=>kF (P:=prog) (fn:=f277) (A:=[]) (ν':=((wb,_)::ν1)) (B:=[]) (vs:=[]) rfl rfl rfl bDY (fun D' hD=>⟨⟨M,Z,hJ,hK⟩,v1,ν1,rfl,hS⟩) a w (hh.boxesEq (aZA _).symm)
end L12
namespace L12
open C12
theorem x7{α:Type}{f:α→List Value}{n i:Nat}(h:∀x,(f x).length=n){xs:List α}(hi:i<xs.length){x:α}{junk:List Value}:(xs.flatMap f++junk).take (0+i*n)++f x++(xs.flatMap f++junk).drop (0+i*n+(f x).length)=(xs.set i x).flatMap f++junk:=by
 rw[bCB];induction xs generalizing i with
 |nil=>simp at hi
 |cons d xs ih=>
  cases i with
  |zero=>
   have e:(d::xs).flatMap f++junk=f d++(xs.flatMap f++junk):=by simp
   have G:((d::xs).set 0 x).flatMap f++junk=f x++(xs.flatMap f++junk):=by simp
   rw[bCS,List.take_zero,aZU,bCB,e,G,h,←h d,List.drop_left]
  |succ i=>
   have hi':i<xs.length:=by simpa using hi
   have e:(d::xs).flatMap f++junk=f d++(xs.flatMap f++junk):=by simp
   have G:((d::xs).set (i+1) x).flatMap f++junk=f d++((xs.set i x).flatMap f++junk):=by simp
   rw[e,G,show(i+1)*n=(f d).length+i*n by rw[h,bBU];omega,List.take_length_add_append,show(f d).length+i*n+(f x).length=(f d).length+(i*n+(f x).length) by omega,bCX,aZD,aZD];congr 1;rw[←aZD];exact ih hi'
theorem aGL(wb:Nat)(s:aN)(pv cv hv lv mv bl bc yc yq nv:Value)(a b:Int)(ν:aD)(D:aC)(hn:Sl D RI 1 nv [a,b])(ha:bS 3 1 pv s.row.places.length (s.row.places.flatMap cI) ν)(hsm:s.row.places.length≤100)(Y:0≤a):lH prog 267 [qP wb,nv] D ((wb,qC (dO s pv cv hv lv mv bl bc yc yq) 343)::ν) (fun _ _ ν'=>(a<(s.row.places.length:Int)∧b≤2)∧∃ν1,ν'=(wb,qC (dO s pv cv hv lv mv bl bc yc yq) 343)::ν1∧bS 3 1 pv s.row.places.length ((s.row.places.set a.toNat b).flatMap cI) ν1) (fun v=>((s.row.places.length:Int)≤a∧v=fD 7)∨(a<(s.row.places.length:Int)∧2<b∧v=fD 2)):=by
 obtain⟨bt,ot,ct,rfl⟩:=kK hn Ye;have hbt:=nL hn;refine eQ 32 func267 rfl rfl rfl rfl (fun h0 hwl hwn=>aS<|cO [] 7 11 1016<|Za rfl<|cW rfl hn<|Za rfl<|Zaj rfl<|Zh rfl aX rfl<|Zh rfl dC rfl<|Zh rfl eB rfl<|Zm rfl dN rfl Mm0 rfl<|fJ rfl U25 rfl ha rfl rfl bDY ?_);refine Ze [(_,_)] ν [] rfl (Or.inr Yi) (fun D5 M=>kN a (s.row.places.length:Int) _) (fun v5 Z M G=>cJ (P:=prog) (fn:=f267) rfl (aZE ⟨G.1,G.2⟩)) (fun v5 Z ν5 M G=>?_);obtain⟨O,rfl⟩:=G;refine aL<|Za rfl<|cW rfl hn<|Ze [(_,_)] ν [] rfl (Or.inr Yi) (fun D7 R=>tQ b 2 _) (fun v7 D8 R I=>cJ (P:=prog) (fn:=f267) rfl (aYZ ⟨O,I.1,I.2⟩)) (fun v7 D8 ν7 R I=>?_);obtain⟨U,rfl⟩:=I;refine aF ?_;obtain⟨bx,cap,junk,rfl,hcap,rfl,hl1,V⟩:=ha.some Yd;refine cO [] 5 14 4032<|Za rfl<|Zaj rfl<|Zh rfl aX rfl<|Zh rfl dC rfl<|Zh rfl eB rfl<|Zm rfl dN rfl Mm0 rfl<|Za rfl<|cW rfl hn<|Za rfl<|cW rfl hn<|gO rfl U25 aM rfl rfl Yd Yd rfl bDY ?_;refine bG (off:=0+(a.toNat)*1) (us:=[qI b]) (ws:=((s.row.places.set a.toNat b).flatMap cI)++junk) rfl rfl rfl rfl aM (.tail .head) (by rw[aYS,bP (f:=cI) (n:=1) (fun _=>rfl)];simp;omega) (x7 (f:=cI) (n:=1) (xs:=s.row.places) (i:=a.toNat) (x:=b) (fun _=>rfl) Yd) Yk bDY<|Zah ?_
 exact Zag [] [] [_,_] [] rfl (fun D' hD=>⟨⟨O,U⟩,_,rfl,aYZ ⟨bx,cap,junk,rfl,hcap,rfl,by rw[bP (n:=1) (fun _=>rfl),bBN],by rw[aYS,bP (n:=1) (fun _=>rfl),bBN,←V,aYS,hl1]⟩⟩)
theorem YQ(wb:Nat)(s:aN)(pv cv hv lv mv bl bc yc yq nv:Value)(a b:Int)(ν:aD)(D:aC)(hn:Sl D RI 1 nv [a,b])(ha:bS 3 1 lv s.table.levels.length (s.table.levels.flatMap cI) ν)(hsm:s.table.levels.length≤100)(Y:0≤a):lH prog 276 [qP wb,nv] D ((wb,qC (dO s pv cv hv lv mv bl bc yc yq) 343)::ν) (fun _ _ ν'=>(a<(s.table.levels.length:Int)∧b≤99)∧∃ν1,ν'=(wb,qC (dO s pv cv hv lv mv bl bc yc yq) 343)::ν1∧bS 3 1 lv s.table.levels.length ((s.table.levels.set a.toNat b).flatMap cI) ν1) (fun v=>((s.table.levels.length:Int)≤a∧v=fD 7)∨(a<(s.table.levels.length:Int)∧99<b∧v=fD 2)):=by
 obtain⟨bt,ot,ct,rfl⟩:=kK hn Ye;have hbt:=nL hn;refine eQ 32 func276 rfl rfl rfl rfl (fun h0 hwl hwn=>aS<|cO [] 7 11 1016<|Za rfl<|cW rfl hn<|Za rfl<|Zaj rfl<|Zh rfl aX rfl<|Zh rfl bN rfl<|Zh rfl gR rfl<|Zm rfl dN rfl Mm0 rfl<|fJ rfl U25 rfl ha rfl rfl bDY ?_);refine Ze [(_,_)] ν [] rfl (Or.inr Yi) (fun D5 M=>kN a (s.table.levels.length:Int) _) (fun v5 Z M G=>cJ (P:=prog) (fn:=f276) rfl (aZE ⟨G.1,G.2⟩)) (fun v5 Z ν5 M G=>?_);obtain⟨O,rfl⟩:=G;refine aL<|Za rfl<|cW rfl hn<|Ze [(_,_)] ν [] rfl (Or.inr Yi) (fun D7 R=>tQ b 99 _) (fun v7 D8 R I=>cJ (P:=prog) (fn:=f276) rfl (aYZ ⟨O,I.1,I.2⟩)) (fun v7 D8 ν7 R I=>?_);obtain⟨U,rfl⟩:=I;refine aF ?_;obtain⟨bx,cap,junk,rfl,hcap,rfl,hl1,V⟩:=ha.some Yd;refine cO [] 5 14 4032<|Za rfl<|Zaj rfl<|Zh rfl aX rfl<|Zh rfl bN rfl<|Zh rfl gR rfl<|Zm rfl dN rfl Mm0 rfl<|Za rfl<|cW rfl hn<|Za rfl<|cW rfl hn<|gO rfl U25 aM rfl rfl Yd Yd rfl bDY ?_;refine bG (off:=0+(a.toNat)*1) (us:=[qI b]) (ws:=((s.table.levels.set a.toNat b).flatMap cI)++junk) rfl rfl rfl rfl aM (.tail .head) (by rw[aYS,bP (f:=cI) (n:=1) (fun _=>rfl)];simp;omega) (x7 (f:=cI) (n:=1) (xs:=s.table.levels) (i:=a.toNat) (x:=b) (fun _=>rfl) Yd) Yk bDY<|Zah ?_
 exact Zag [] [] [_,_] [] rfl (fun D' hD=>⟨⟨O,U⟩,_,rfl,aYZ ⟨bx,cap,junk,rfl,hcap,rfl,by rw[bP (n:=1) (fun _=>rfl),bBN],by rw[aYS,bP (n:=1) (fun _=>rfl),bBN,←V,aYS,hl1]⟩⟩)
theorem aIA(wb:Nat)(s:aN)(pv cv hv lv mv bl bc yc yq nv:Value)(a b c:Int)(ν:aD)(D:aC)(hn:Sl D RI 1 nv [a,b,c])(ha:bS 93 2 hv s.table.heights.length (s.table.heights.flatMap cP) ν)(hsm:s.table.heights.length≤100)(hH:0≤a)(hI:0≤b∧b≤1000):lH prog 273 [qP wb,nv] D ((wb,qC (dO s pv cv hv lv mv bl bc yc yq) 343)::ν) (fun _ _ ν'=>(a<(s.table.heights.length:Int)∧b≤c∧c≤99∧c≤b+2)∧∃ν1,ν'=(wb,qC (dO s pv cv hv lv mv bl bc yc yq) 343)::ν1∧bS 93 2 hv s.table.heights.length ((s.table.heights.set a.toNat (b,c)).flatMap cP) ν1) (fun v=>((s.table.heights.length:Int)≤a∧v=fD 7)∨(a<(s.table.heights.length:Int)∧(c<b∨99<c∨b+2<c)∧v=fD 2)):=by
 obtain⟨bt,ot,ct,rfl⟩:=kK hn Ye;have hbt:=nL hn;refine eQ 53 func273 rfl rfl rfl rfl (fun h0 hwl hwn=>aS<|cO [] 7 11 1016<|Za rfl<|cW rfl hn<|Za rfl<|Zaj rfl<|Zh rfl aX rfl<|Zh rfl bN rfl<|Zh rfl fP rfl<|Zm rfl lM rfl Mm0 rfl<|fJ rfl U29 rfl ha rfl rfl bDY ?_);refine Ze [(_,_)] ν [] rfl (Or.inr Yi) (fun D5 R=>kN a (s.table.heights.length:Int) _) (fun v5 D6 R G=>cJ (P:=prog) (fn:=f273) rfl (aZE ⟨G.1,G.2⟩)) (fun v5 D6 ν5 R G=>?_);obtain⟨U,rfl⟩:=G;refine bT<|cO [] 6 21 524216<|Za rfl<|cW rfl hn<|Za rfl<|cW rfl hn<|fI rfl rfl rfl rfl bDY<|Za rfl<|cW rfl hn<|fI rfl rfl rfl rfl bDY<|Za rfl<|cW rfl hn ?_;refine Za rfl<|cW rfl hn<|Zaa rfl<|fI rfl rfl rfl rfl bDY<|Zp rfl U401 lT nS rfl (.cons rfl rfl (.cons rfl rfl (.cons rfl rfl .nil))) (fun hE hF Y M=>Ze [(_,_)] ν [] rfl (aYZ Yi) (fun D7 O=>fH 2 [decide (c<b),decide (99<c),decide (b+2<c)] _ _ ((gQ (l:=[decide (c<b),decide (99<c),decide (b+2<c)]) (fun _ _ _ h=>h) M Ye).up RB.up (O _ Ye))) (fun v7 D8 O I=>cJ (P:=prog) (fn:=f273) rfl (aYZ ⟨U,by simpa using I.1,I.2⟩)) (fun v7 D8 ν7 O I=>?_));obtain⟨V,rfl⟩:=I;have Z:b≤c∧c≤99∧c≤b+2:=by simpa using V
 refine aF ?_;obtain⟨bx,cap,junk,rfl,hcap,rfl,hl1,hB⟩:=ha.some Yd;refine cO [] 5 18 65472<|Za rfl<|Zaj rfl<|Zh rfl aX rfl<|Zh rfl bN rfl<|Zh rfl fP rfl<|Zm rfl lM rfl Mm0 rfl<|Za rfl<|cW rfl hn<|Za rfl<|cW rfl hn<|Za rfl ?_;refine cW rfl hn<|Zr [qI b,qI c] rfl H9 iH rfl<|gO rfl U29 cB rfl rfl Yd Yd rfl bDY<|bG (off:=0+(a.toNat)*2) (us:=[qI b,qI c]) (ws:=((s.table.heights.set a.toNat (b,c)).flatMap cP)++junk) rfl rfl rfl rfl cB (.tail .head) (by rw[aYS,bP (f:=cP) (n:=2) (fun _=>rfl)];simp;omega) (x7 (f:=cP) (n:=2) (xs:=s.table.heights) (i:=a.toNat) (x:=(b,c)) (fun _=>rfl) Yd) Yk bDY<|Zah ?_
 exact Zag [] [] [_,_] [] rfl (fun D' hD=>⟨⟨U,Z⟩,_,rfl,aYZ ⟨bx,cap,junk,rfl,hcap,rfl,by rw[bP (n:=2) (fun _=>rfl),bBN],by rw[aYS,bP (n:=2) (fun _=>rfl),bBN,←hB,aYS,hl1]⟩⟩)
end L12
namespace L12
open C12
theorem yM{wb t e sz n:Nat}{cs cells:List Value}{v:Value}{ν:aD}(ha:bS e sz v n cells ν):∀p∈(wb,Obj.cells cs.toArray t (0,0))::ν,dB p.2:=by
 intro p hp;rcases n4.1 hp with rfl|hp
 ·rfl
 ·rcases ha with⟨_,_,_,_,rfl⟩|⟨b,cap,junk,_,_,rfl,_⟩
  ·cases hp
  ·simp only[aZM]at hp;subst hp;rfl
theorem YY(wb:Nat)(s:aN)(pv cv hv lv mv bl bc yc yq nv:Value)(a b:Int)(ν:aD)(D:aC)(hn:Sl D RI 1 nv [a,b])(ha:bS 202 3 cv s.row.counts.length (s.row.counts.flatMap cC) ν)(hsm:s.row.counts.length≤100)(hpl:∃x c,pv=.slice x s.row.places.length c):lH prog 268 [qP wb,nv] D ((wb,qC (dO s pv cv hv lv mv bl bc yc yq) 343)::ν) (fun _ _ ν'=>((a≤(s.row.places.length:Int)∧b≤9)∧(s.row.counts.length:Int)<6)∧∃v1 ν1,ν'=(wb,qC (dO s pv v1 hv lv mv bl bc yc yq) 343)::ν1∧bS 202 3 v1 (s.row.counts.length+1) ((s.row.counts++[(⟨false,a,b⟩:C1.xI)]).flatMap cC) ν1) (fun v=>(((s.row.places.length:Int)<a∨9<b)∧v=fD 2)∨((a≤(s.row.places.length:Int)∧b≤9)∧6≤(s.row.counts.length:Int)∧v=fD 3)):=by
 refine eQ 7 func268 rfl rfl rfl rfl (fun h0 hwl hwn=>aU<|Za rfl<|Za rfl<|aI ((wb,qC (dO s pv cv hv lv mv bl bc yc yq) 343)::ν++[]) (aZA _).symm<|fE (A:=[]) (ν:=(wb,qC (dO s pv cv hv lv mv bl bc yc yq) 343)::ν) (B:=[]) rfl rfl rfl rfl (aZE rfl) (yM ha) (fun O G=>X4 wb s pv cv hv lv mv bl bc yc yq nv a b ν _ (hn.up RI.up (G _ Ye)) ha hsm false hpl) rfl bDY (fun v5 M G I=>cJ (P:=prog) (fn:=f268) rfl I) (fun v5 M ν5 G I=>aI ν5 (aZA _)<|Zah ?_));refine fun a w hh=>kF (P:=prog) (fn:=f268) (A:=[]) (ν':=ν5) (B:=[]) (vs:=[]) rfl rfl rfl bDY (fun D' hD=>I) a w (hh.boxesEq (aZA _).symm)
theorem aGM(wb:Nat)(s:aN)(pv cv hv lv mv bl bc yc yq nv:Value)(a b:Int)(ν:aD)(D:aC)(hn:Sl D RI 1 nv [a,b])(ha:bS 202 3 cv s.row.counts.length (s.row.counts.flatMap cC) ν)(hsm:s.row.counts.length≤100)(hpl:∃x c,pv=.slice x s.row.places.length c):lH prog 269 [qP wb,nv] D ((wb,qC (dO s pv cv hv lv mv bl bc yc yq) 343)::ν) (fun _ _ ν'=>((a≤(s.row.places.length:Int)∧b≤9)∧(s.row.counts.length:Int)<6)∧∃v1 ν1,ν'=(wb,qC (dO s pv v1 hv lv mv bl bc yc yq) 343)::ν1∧bS 202 3 v1 (s.row.counts.length+1) ((s.row.counts++[(⟨true,a,b⟩:C1.xI)]).flatMap cC) ν1) (fun v=>(((s.row.places.length:Int)<a∨9<b)∧v=fD 2)∨((a≤(s.row.places.length:Int)∧b≤9)∧6≤(s.row.counts.length:Int)∧v=fD 3)):=by
 refine eQ 7 func269 rfl rfl rfl rfl (fun h0 hwl hwn=>aU<|Za rfl<|Za rfl<|aI ((wb,qC (dO s pv cv hv lv mv bl bc yc yq) 343)::ν++[]) (aZA _).symm<|fE (A:=[]) (ν:=(wb,qC (dO s pv cv hv lv mv bl bc yc yq) 343)::ν) (B:=[]) rfl rfl rfl rfl (aZE rfl) (yM ha) (fun O G=>X4 wb s pv cv hv lv mv bl bc yc yq nv a b ν _ (hn.up RI.up (G _ Ye)) ha hsm true hpl) rfl bDY (fun v5 M G I=>cJ (P:=prog) (fn:=f269) rfl I) (fun v5 M ν5 G I=>aI ν5 (aZA _)<|Zah ?_));refine fun a w hh=>kF (P:=prog) (fn:=f269) (A:=[]) (ν':=ν5) (B:=[]) (vs:=[]) rfl rfl rfl bDY (fun D' hD=>I) a w (hh.boxesEq (aZA _).symm)
theorem aDS(wb:Nat)(s:aN)(pv cv hv lv mv bl bc yc yq nv:Value)(a b:Int)(ν:aD)(D:aC)(hn:Sl D RI 1 nv [a,b])(ha:bS 206 3 bl s.book.lines.length (s.book.lines.flatMap cL) ν)(hsm:s.book.lines.length≤100):lH prog 279 [qP wb,nv] D ((wb,qC (dO s pv cv hv lv mv bl bc yc yq) 343)::ν) (fun _ _ ν'=>(max a b<s.book.chairs∧(s.book.lines.length:Int)<8)∧∃v1 ν1,ν'=(wb,qC (dO s pv cv hv lv mv v1 bc yc yq) 343)::ν1∧bS 206 3 v1 (s.book.lines.length+1) ((s.book.lines++[(⟨1,a,b⟩:C3.gI)]).flatMap cL) ν1) (fun v=>(s.book.chairs≤max a b∧v=fD 7)∨(max a b<s.book.chairs∧8≤(s.book.lines.length:Int)∧v=fD 3)):=by
 refine eQ 7 func279 rfl rfl rfl rfl (fun h0 hwl hwn=>aU<|Za rfl<|Za rfl<|aI ((wb,qC (dO s pv cv hv lv mv bl bc yc yq) 343)::ν++[]) (aZA _).symm<|fE (A:=[]) (ν:=(wb,qC (dO s pv cv hv lv mv bl bc yc yq) 343)::ν) (B:=[]) rfl rfl rfl rfl (aZE rfl) (yM ha) (fun O G=>X3 wb s pv cv hv lv mv bl bc yc yq nv a b ν _ (hn.up RI.up (G _ Ye)) ha hsm 1) rfl bDY (fun v5 M G I=>cJ (P:=prog) (fn:=f279) rfl I) (fun v5 M ν5 G I=>aI ν5 (aZA _)<|Zah ?_));refine fun a w hh=>kF (P:=prog) (fn:=f279) (A:=[]) (ν':=ν5) (B:=[]) (vs:=[]) rfl rfl rfl bDY (fun D' hD=>I) a w (hh.boxesEq (aZA _).symm)
theorem aCE(wb:Nat)(s:aN)(pv cv hv lv mv bl bc yc yq nv:Value)(a b:Int)(ν:aD)(D:aC)(hn:Sl D RI 1 nv [a,b])(ha:bS 206 3 bl s.book.lines.length (s.book.lines.flatMap cL) ν)(hsm:s.book.lines.length≤100):lH prog 280 [qP wb,nv] D ((wb,qC (dO s pv cv hv lv mv bl bc yc yq) 343)::ν) (fun _ _ ν'=>(max a b<s.book.chairs∧(s.book.lines.length:Int)<8)∧∃v1 ν1,ν'=(wb,qC (dO s pv cv hv lv mv v1 bc yc yq) 343)::ν1∧bS 206 3 v1 (s.book.lines.length+1) ((s.book.lines++[(⟨2,a,b⟩:C3.gI)]).flatMap cL) ν1) (fun v=>(s.book.chairs≤max a b∧v=fD 7)∨(max a b<s.book.chairs∧8≤(s.book.lines.length:Int)∧v=fD 3)):=by
 refine eQ 7 func280 rfl rfl rfl rfl (fun h0 hwl hwn=>aU<|Za rfl<|Za rfl<|aI ((wb,qC (dO s pv cv hv lv mv bl bc yc yq) 343)::ν++[]) (aZA _).symm<|fE (A:=[]) (ν:=(wb,qC (dO s pv cv hv lv mv bl bc yc yq) 343)::ν) (B:=[]) rfl rfl rfl rfl (aZE rfl) (yM ha) (fun O G=>X3 wb s pv cv hv lv mv bl bc yc yq nv a b ν _ (hn.up RI.up (G _ Ye)) ha hsm 2) rfl bDY (fun v5 M G I=>cJ (P:=prog) (fn:=f280) rfl I) (fun v5 M ν5 G I=>aI ν5 (aZA _)<|Zah ?_));refine fun a w hh=>kF (P:=prog) (fn:=f280) (A:=[]) (ν':=ν5) (B:=[]) (vs:=[]) rfl rfl rfl bDY (fun D' hD=>I) a w (hh.boxesEq (aZA _).symm)
end L12
namespace L12
open C12
theorem aBC{α:Type}{f:α→List Value}{n i k:Nat}(h:∀x,(f x).length=n){xs:List α}{x:α}{v:Value}{junk:List Value}(hx:xs[i]?= some x)(hk:k<n)(hv:(f x)[k]?= some v):(xs.flatMap f++junk)[0+i*n+k]?= some v:=by
 have h1:=CM h hx junk;have h2:(((xs.flatMap f++junk).drop (i*n)).take n)[k]?= some v:=by rw[h1];exact hv
 rw[bBL hk,bBJ]at h2;rw[bCB];exact h2
theorem MB{α:Type}{f:α→List Value}{n i k off:Nat}(h:∀x,(f x).length=n){xs:List α}{x x2:α}{v:Value}{junk:List Value}(hx:xs[i]?= some x)(hk:k<n)(h2:f x2=(f x).take k++[v]++(f x).drop (k+1))(ho:off=i*n+k):(xs.flatMap f++junk).take off++[v]++(xs.flatMap f++junk).drop (off+ [v].length)=(xs.set i x2).flatMap f++junk:=by
 subst ho;induction xs generalizing i with
 |nil=>simp at hx
 |cons d xs ih=>
  have e:(d::xs).flatMap f++junk=f d++(xs.flatMap f++junk):=by simp
  cases i with
  |zero=>
   obtain rfl:d=x:=by simpa using hx
   have G:((d::xs).set 0 x2).flatMap f++junk=f x2++(xs.flatMap f++junk):=by simp
   rw[bCS,bCB,e,G,h2,bAB (by rw[h];omega),bCD,List.drop_append_of_le_length (by rw[h];omega)];simp
  |succ i=>
   have G:((d::xs).set (i+1) x2).flatMap f++junk=f d++((xs.set i x2).flatMap f++junk):=by simp
   rw[e,G,show(i+1)*n+k=(f d).length+(i*n+k) by rw[h,bBU];omega,List.take_length_add_append,show(f d).length+(i*n+k)+ [v].length=(f d).length+(i*n+k+ [v].length) by omega,bCX,aZD,aZD];congr 1;rw[←aZD];exact ih (by simpa using hx)
def WF(p:C7.Pt)(i:Nat)(v:Int):C7.Pt:=if i=0 then {p with a:=v}else if i=1 then {p with b:=v}else {p with c:=v}
theorem aVQ{x:C7.Ch}{i:Nat}{v:Int}(h:i<3):cH {x with parts:=WF x.parts i v}=(cH x).take (1+i)++[qI v]++(cH x).drop (1+i+1):=by
 have:i=0∨i=1∨i=2:=by omega
 rcases this with rfl|rfl|rfl<;>rfl
theorem QA(wb:Nat)(s:aN)(pv cv hv lv mv bl bc yc yq nv:Value)(a:Int)(ν:aD)(D:aC)(hn:Sl D RI 1 nv [a])(ha:bS 206 3 bl s.book.lines.length (s.book.lines.flatMap cL) ν)(hsm:s.book.lines.length≤100)(hF:0≤a):lH prog 281 [qP wb,nv] D ((wb,qC (dO s pv cv hv lv mv bl bc yc yq) 343)::ν) (fun _ _ ν'=>∃x,s.book.lines[a.toNat]?= some x∧(x.token≠ -1)∧∃ν1,ν'=(wb,qC (dO s pv cv hv lv mv bl bc yc yq) 343)::ν1∧bS 206 3 bl s.book.lines.length ((s.book.lines.set a.toNat {x with token:= -1}).flatMap cL) ν1) (fun v=>((s.book.lines.length:Int)≤a∧v=fD 7)∨(∃x,s.book.lines[a.toNat]?= some x∧x.token= -1∧v=fD 6)):=by
 obtain⟨bt,ot,ct,rfl⟩:=kK hn Ye;have hbt:=nL hn;refine eQ 36 func281 rfl rfl rfl rfl (fun h0 hwl hwn=>aS<|cO [] 7 11 1016<|Za rfl<|cW rfl hn<|Za rfl<|Zaj rfl<|Zh rfl aX rfl<|Zh rfl eL rfl<|Zh rfl cE rfl<|Zm rfl fA rfl Mm0 rfl<|fJ rfl U33 rfl ha rfl rfl bDY ?_);refine Ze [(_,_)] ν [] rfl (Or.inr Yi) (fun D5 R=>kN a (s.book.lines.length:Int) _) (fun v5 D6 R G=>cJ (P:=prog) (fn:=f281) rfl (aZE ⟨G.1,G.2⟩)) (fun v5 D6 ν5 R G=>?_);obtain⟨hH,rfl⟩:=G;refine bT ?_;obtain⟨bx,cap,junk,rfl,hcap,rfl,hl1,V⟩:=ha.some Yd;obtain⟨x,hx⟩:=dV s.book.lines (a.toNat);refine cO [] 6 11 448<|Za rfl<|Zaj rfl<|Zh rfl aX rfl<|Zh rfl eL rfl<|Zh rfl cE rfl<|Zm rfl fA rfl Mm0 rfl<|Za rfl<|cW rfl hn<|gO rfl U33 bU rfl rfl Yd Yd rfl bDY<|Zg rfl<|aL ?_;refine Za rfl<|Zaj rfl<|Zh rfl mC rfl<|bZ (v:=qI x.token) rfl aJ rfl Mm1 (by simpa using aBC (f:=cL) (n:=3) (k:=2) (fun _=>rfl) hx Yd rfl) n3 rfl bDY<|Zam rfl<|Zp rfl U401 lT nS rfl (.cons rfl rfl .nil) (fun hB hE Y M=>Ze [(_,_),(_,_)] [] [] rfl (aYZ Yi) (fun D7 O=>fH 6 [decide (x.token= -1)] _ _ ((gQ (l:=[decide (x.token= -1)]) (fun _ _ _ h=>h) M Ye).up RB.up (O _ Ye))) (fun v7 D8 O I=>cJ (P:=prog) (fn:=f281) rfl (aYZ ⟨x,hx,by simpa using I.1,I.2⟩)) (fun v7 D8 ν7 O I=>?_));obtain⟨U,rfl⟩:=I;have Z:x.token≠ -1:=by simpa using U
 refine aF<|aU<|Za rfl<|Zaj rfl<|Zh rfl mC rfl<|bG (off:=0+a.toNat*3+2) (us:=[qI (-1)]) (ws:=((s.book.lines.set a.toNat {x with token:= -1}).flatMap cL)++junk) rfl rfl rfl rfl aM (.tail .head) (by rw[aYS,bP (f:=cL) (n:=3) (fun _=>rfl)];simp;omega) (MB (f:=cL) (n:=3) (xs:=s.book.lines) (i:=a.toNat) (k:=2) (x:=x) (x2:={x with token:= -1}) (fun _=>rfl) hx Yd rfl Yd) Yk bDY<|Zah ?_;exact Zag [] [] [_,_] [] rfl (fun D' hD=>⟨x,hx,Z,_,rfl,aYZ ⟨bx,cap,junk,rfl,hcap,rfl,by rw[bP (n:=3) (fun _=>rfl),bBN],by rw[aYS,bP (n:=3) (fun _=>rfl),bBN,←V,aYS,hl1]⟩⟩)
theorem aEV(wb:Nat)(s:aN)(pv cv hv lv mv bl bc yc yq nv:Value)(a b c:Int)(ν:aD)(D:aC)(hn:Sl D RI 1 nv [a,b,c])(ha:bS 212 4 yc s.yard.chairs.length (s.yard.chairs.flatMap cH) ν)(hsm:s.yard.chairs.length≤100)(hE:0≤a)(hF:0≤b):lH prog 284 [qP wb,nv] D ((wb,qC (dO s pv cv hv lv mv bl bc yc yq) 343)::ν) (fun _ _ ν'=>∃x,s.yard.chairs[a.toNat]?= some x∧(b<3∧c≤2)∧∃ν1,ν'=(wb,qC (dO s pv cv hv lv mv bl bc yc yq) 343)::ν1∧bS 212 4 yc s.yard.chairs.length ((s.yard.chairs.set a.toNat {x with parts:=WF x.parts b.toNat c}).flatMap cH) ν1) (fun v=>((s.yard.chairs.length:Int)≤a∧v=fD 7)∨(a<(s.yard.chairs.length:Int)∧3≤b∧v=fD 7)∨(a<(s.yard.chairs.length:Int)∧b<3∧2<c∧v=fD 2)):=by
 obtain⟨bt,ot,ct,rfl⟩:=kK hn Ye;have hbt:=nL hn;refine eQ 41 func284 rfl rfl rfl rfl (fun h0 hwl hwn=>aS<|cO [] 7 11 1016<|Za rfl<|cW rfl hn<|Za rfl<|Zaj rfl<|Zh rfl aX rfl<|Zh rfl dL rfl<|Zh rfl eO rfl<|Zm rfl jE rfl Mm0 rfl<|fJ rfl U37 rfl ha rfl rfl bDY ?_);refine Ze [(_,_)] ν [] rfl (Or.inr Yi) (fun D5 O=>kN a (s.yard.chairs.length:Int) _) (fun v5 D6 O G=>cJ (P:=prog) (fn:=f284) rfl (aZE ⟨G.1,G.2⟩)) (fun v5 D6 ν5 O G=>?_);obtain⟨R,rfl⟩:=G;refine aL<|Za rfl<|cW rfl hn<|Ze [(_,_)] ν [] rfl (Or.inr Yi) (fun D7 U=>kN b 3 _) (fun v7 D8 U I=>cJ (P:=prog) (fn:=f284) rfl (aYZ (aZE ⟨R,I.1,I.2⟩))) (fun v7 D8 ν7 U I=>?_);obtain⟨V,rfl⟩:=I;refine aL<|Za rfl<|cW rfl hn<|Ze [(_,_)] ν [] rfl (Or.inr Yi) (fun D9 Y=>tQ c 2 _) (fun v9 D10 Y M=>cJ (P:=prog) (fn:=f284) rfl (aYZ (aYZ ⟨R,V,M.1,M.2⟩))) (fun v9 D10 ν9 Y M=>?_);obtain⟨Z,rfl⟩:=M;refine aF ?_;obtain⟨bx,cap,junk,rfl,hcap,rfl,hl1,hB⟩:=ha.some Yd;obtain⟨x,hx⟩:=dV s.yard.chairs (a.toNat);refine cO [] 5 19 131008<|Za rfl<|Zaj rfl<|Zh rfl aX rfl<|Zh rfl dL rfl<|Zh rfl eO rfl<|Zm rfl jE rfl Mm0 rfl<|Za rfl<|cW rfl hn<|Za rfl<|cW rfl hn<|Za rfl ?_;refine cW rfl hn<|gO rfl U37 iQ rfl rfl Yd Yd rfl bDY<|Zh rfl A0 rfl<|fC rfl U210 aM rfl rfl Yd Yd rfl bDY<|bG (off:=0+a.toNat*4+1+b.toNat*1) (us:=[qI c]) (ws:=((s.yard.chairs.set a.toNat {x with parts:=WF x.parts b.toNat c}).flatMap cH)++junk) rfl rfl rfl rfl aM (.tail .head) (by rw[aYS,bP (f:=cH) (n:=4) (fun _=>rfl)];simp;omega) (MB (f:=cH) (n:=4) (xs:=s.yard.chairs) (i:=a.toNat) (k:=(1+b.toNat)) (x:=x) (x2:={x with parts:=WF x.parts b.toNat c}) (fun _=>rfl) hx Yd (aVQ Yd) Yd) Yk bDY<|Zah ?_
 exact Zag [] [] [_,_] [] rfl (fun D' hD=>⟨x,hx,⟨V,Z⟩,_,rfl,aYZ ⟨bx,cap,junk,rfl,hcap,rfl,by rw[bP (n:=4) (fun _=>rfl),bBN],by rw[aYS,bP (n:=4) (fun _=>rfl),bBN,←hB,aYS,hl1]⟩⟩)
end L12
namespace L12
open C12
def eR(xs:List ByteArray):Int:=if(decide ((40:Int)<(xs.length:Int))|| !xs.all fun l=>decide ((l.size:Int)≤50))=true then 3 else 0
theorem aMW(m:Int)(l:ByteArray)(D:aC):Fn prog 100 #[qI m,.string l] D (fun _ v=>v=.bool (decide ((l.size:Int)≤m))):=by
 refine Zs 9 func100 rfl (fun h0=>aA<|Zg rfl<|aL<|Za rfl<|iZ rfl U9 rfl rfl rfl bDY<|Za rfl<|lE rfl rfl rfl rfl bDY<|Zg rfl<|aG ?_);exact aE rfl (fun D hD=>rfl)
theorem BI(sv fv:Value)(xs:List ByteArray)(p:ByteArray→Bool)(D:aC)(hS:Sl D RS 1 sv xs)(hp:cX prog D Value.string fv p):
  Fn prog 300 #[sv,fv] D (fun _ v=>v=qI (idxOf p xs)):=by
 have hl:=hS.len;obtain⟨f,c1,c2,rfl,hf⟩:=hp;refine Zs 19 func300 rfl (fun h0=>aA<|Zg rfl<|bJ<|Za rfl<|cZ rfl U22 rfl Yl rfl rfl bDY<|Za rfl<|aF<|Zar<|Zl Nat (fun k=>xs.length-k) (fun k=>k≤xs.length∧(xs.take k).any p=false) (fun k=>[(8,qI k)]) [(7,_),(4,_),(0,_),(1,_)] (fun k=>[D]) 0 ⟨Yb,bDY⟩ ?_);rintro k ⟨h1,h2⟩;refine aA<|Zai rfl<|bT<|Zz rfl (fun G=>?_) (fun G=>?_)
 ·have hk:k<xs.length:=by omega
  obtain⟨x,hx⟩:=dV xs k;refine aT<|aS<|Zar<|aA<|Za rfl<|Zg rfl<|aL<|Za rfl<|Za rfl<|Za rfl<|eY rfl U22 iY rfl Yl rfl Yd Yl rfl bDY (fun V o1 I M U O=>?_);obtain rfl:I=[.string _]:=M;refine Zj 0 rfl xR rfl O rfl<|Zc rfl (fun Y R=>hf x _ (R _ Ye))<|aF<|aP rfl (fun hc2=>?_) (fun hc2=>?_)
  ·refine aA<|Za rfl<|Zg rfl<|aG<|Zau<|Zap<|Zap<|Zau<|Zap ?_;exact aE rfl (fun D hD=>by show Value.int _ _=_;rw[L1.kA hx h2 hc2])
  ·refine bM<|Zat<|Zaq<|aU<|Zaa rfl<|Za rfl<|Zah ?_;have hpx:p x=false:=hc2;have h3:(xs.take (k+1)).any p=false:=by rw[aZG,hx,bCF,h2];simp[hpx]
   exact aK 12 (k+1) ⟨by omega,h3⟩ Yd ⟨Yb,bDY⟩ rfl rfl Mm5 (aH)
 ·refine aW<|Zas<|Zas<|Zav<|Zaq<|aA<|Zg rfl<|aG ?_;exact aE rfl (fun D hD=>by show Value.int _ _=_;rw[L1.gE Yab])
theorem U0(sv fv:Value)(xs:List ByteArray)(p:ByteArray→Bool)(D:aC)(hS:Sl D RS 1 sv xs)(hp:cX prog D Value.string fv p):
  Fn prog 195 #[sv,fv] D (fun _ v=>v=.bool (xs.any p)):=by
 refine Zs 9 func195 rfl (fun h0=>aA<|Zg rfl<|aL<|Za rfl<|Za rfl<|Zc rfl (fun I G=>BI _ _ xs p _ (Sl.at RS.up G Yl Ye) (hp.up (G _ Ye)))<|tC rfl rfl rfl rfl bDY<|Zg rfl<|aG ?_);exact aE rfl (fun D hD=>by show Value.bool (decide _)=_;rw[L1.jT])
theorem aKF(b:Nat)(fv:Value)(p:ByteArray→Bool)(x:ByteArray)(D:aC)(hp:cX prog D Value.string fv p)(hB:At D b 0 [fv]):
  Fn prog 196 #[.string x,qP b] D (fun _ v=>v=.bool (!p x)):=by
 obtain⟨f,c1,c2,rfl,hf⟩:=hp;refine Zs 8 func196 rfl (fun h0=>aA<|Zg rfl<|aL<|Zj 0 rfl aRK rfl hB rfl<|Za rfl<|Zc rfl (fun I G=>hf x _ (G _ Ye))<|Zal rfl<|Zg rfl<|aG ?_);exact aE rfl (fun D hD=>rfl)
theorem aRE(sv fv:Value)(xs:List ByteArray)(p:ByteArray→Bool)(D:aC)(hS:Sl D RS 1 sv xs)(hp:cX prog D Value.string fv p)(h1:fv.cells=#[fv]):
  Fn prog 101 #[sv,fv] D (fun _ v=>v=.bool (xs.all p)):=by
 refine Zs 9 func101 rfl (fun h0=>aA<|rC (vs:=[fv]) rfl rfl h1 rfl bDY (fun b I G hB=>Zg rfl<|aL<|Za rfl<|Zao rfl<|Zc rfl (fun I G=>U0 _ _ xs (fun x=> !p x) _ (Sl.at RS.up G Yl Ye) ⟨_,[],[qP b],rfl,fun x M hl=>aKF b fv p x M (hp.up ((G _ Ye).trans hl)) (hB.up ((G _ Ye).trans hl))⟩)<|Zal rfl<|Zg rfl<|aG ?_));exact aE rfl (fun D hD=>by show Value.bool (!_)=_;rw[L1.nI])
theorem vL(sv:Value)(xs:List ByteArray)(D:aC)(hS:Sl D RS 1 sv xs):Fn prog 37 #[sv] D (fun _ v=>v=qI (eR xs)):=by
 have hl:=hS.len;refine Zs 14 func37 rfl (fun h0=>aA<|Zg rfl<|aL<|Zao rfl<|Zg rfl<|bJ<|Za rfl<|cZ rfl U22 rfl Yl rfl rfl bDY<|fI rfl rfl rfl rfl bDY<|Za rfl ?_);refine' cR 5 (s:=8) (p:=13) rfl (fun I=>?_) (fun I=>?_) ?_;rotate_left
 ·refine Zb rfl<|Zb rfl<|Zd rfl (fun R M=>aRE _ _ xs (fun l=>decide ((l.size:Int)≤50)) _ (Sl.at RS.up M Yl Ye) ⟨_,[_],[],rfl,fun l O _=>aMW 50 l O⟩ rfl)<|lJ rfl rfl rfl ⟨_,rfl,rfl⟩<|Zae rfl ?_;exact aQ 4
 ·refine Zf rfl<|Zf rfl<|Zf rfl<|Zf rfl<|Zad rfl ?_;exact aQ 4
 refine aF<|aP rfl (fun G=>?_) (fun G=>?_)
 ·refine aA<|Zg rfl<|aG<|Zap ?_;exact aE rfl (fun D hD=>by show Value.int _ _=_;rw[eR,aZK G])
 ·refine aT<|aA<|Zg rfl<|aG ?_;exact aE rfl (fun D hD=>by show Value.int _ _=_;rw[eR,aZB (by rw[G];simp)])
end L12
variable{P:Program}{X:Cx}{γb:Type}[Membership Nat γb]{bad:γb}{all:Array Oper}{K:Act→World→Prop}{Q:Exit→Act→World→Prop}
variable{σ:bO}{μ:aD}{Ds:List aC}{os:List (Bool×Nat)}{fl:Bool}{ix:Nat}
variable{d:Nat}{x y z:Operand}{u v:Value}{ty:TypeId}{pos:String}{aft:Array Edge}{g:Option (Nat×Bool)}
theorem wI{A B:aD}{t e tr:TypeId}{b o i m cap c2 sz:Nat}{vs xs:List Value}{ats:Array TypeId}
  (ho:all[ix]?= some ⟨some d,.call {callee:=.builtin .append,args:=#[x,y],argTypes:=ats},tr,pos,aft,g⟩) (ht:P.underlying t=some (.slice e)) (hat:ats[0]?= some t) (G:ats[1]?= some t) (hs:TS P e sz)
  (hx:ev σ x=some (qS b i cap)) (hy:ev σ y=some (.slice (some ⟨b,o,none⟩) m c2)) (hxs:(vs.drop o).take (m*sz)=xs) (hxl:xs.length=m*sz) (hfit:i+m≤cap) (hin:i*sz+m*sz≤vs.length) (hx1:∀u∈xs,cell1 u=true)
  (hfl:fl=false∨b∈bad) (hN:Nat.blt d X.N=true) (hg:dE all σ g)
  (kk:WL P X bad all K Q os ((d,qS b (i+m) cap)::σ) (A++(b,.cells (vs.take (i*sz)++xs++vs.drop (i*sz+m*sz)).toArray e (0,0))::B) Ds):
  WL P X bad all K Q ((fl,ix)::os) σ (A++(b,.cells vs.toArray e (0,0))::B) Ds:=by
 refine eZ ho rfl rfl hg fun a w hh=>?_
 obtain⟨h1,h2,h3,D,h4,h5,I⟩:=id hh;have hbx:=(h4.box (b,.cells vs.toArray e (0,0)) Ye).1;have hex:(execOp a.eval ⟨some d,.call {callee:=.builtin .append,args:=#[x,y],argTypes:=ats},tr,pos,aft,g⟩).run P w=
   ((Builtin.append_ ats tr #[qS b i cap,.slice (some ⟨b,o,none⟩) m c2]).run P w).andThen fun r w'=>.ok (.value r) w':=by
  simp only[execOp,resolve,pure_bind,invoke,builtin];have M:(#[x,y].map a.eval)=#[qS b i cap,.slice (some ⟨b,o,none⟩) m c2]:=by simp[hh.eval hx,hh.eval hy]
  rw[M,Sem.run_bind];simp only[Sem.run_pure]
 rw[hex];have hm:(Builtin.lenOf (.slice (some ⟨b,o,none⟩) m c2)).run P w=.ok m w:=rfl;have hfc:(Builtin.firstCells sz m (.slice (some ⟨b,o,none⟩) m c2)).run P w=.ok xs.toArray w:=by
  simp only[Builtin.firstCells];refine mZ hxl fun j u hj=>pX (cs:=vs.toArray) hbx ?_
  have hjl:=(aYV.1 hj).1;rw[←hxs,bBL Yd,bBJ]at hj;simpa using hj
 obtain⟨w',hr,hw'⟩:=jS (P:=P) xs 0 w b (i*sz) vs e hbx Yd hx1;rw[xM (tr:=tr) (w':=w') ht hat G hs hm hfc hfit (by
  show(storeCells ((⟨b,0,none⟩:Addr).add (i*sz)) xs).run P w=_;rw[gF,bCB];exact hr)]
 rw[Nat.add_zero,hxl]at hw';have hHas:bR (A++(b,.cells vs.toArray e (0,0))::B) b (.cells vs.toArray e (0,0)) (.cells (vs.take (i*sz)++xs++vs.drop (i*sz+m*sz)).toArray e (0,0)) (A++(b,.cells (vs.take (i*sz)++xs++vs.drop (i*sz+m*sz)).toArray e (0,0))::B):=.app .head;have hst:=h4.set hHas hw' rfl;refine⟨fun hf=>⟨by rw[hw'.1];simp,fun c hc hcb=>?_⟩,kk _ _ (Hl.put ⟨h1,h2,h3,D,hst,h5,I.step (fun _ p hp=>aZE Yq) (fun _=>kI hw' (GT.2 ⟨_,hHas.mem,rfl⟩)) hst.dom⟩ hN _)⟩
 have hb:b∈bad:=by
  rcases hfl with h|h
  ·rw[hf]at h;cases h
  ·exact h
 rw[hw'.1,bBG (by rintro rfl;exact hcb hb)]
theorem O8{A B:aD}{t e tr:TypeId}{b o n c:Nat}{z0:Value}{vs zs:List Value}{dd:Option Nat}{ats:Array TypeId}
  (ho:all[ix]?= some ⟨dd,.call {callee:=.builtin .clear,args:=#[x],argTypes:=ats},tr,pos,aft,g⟩) (hdd:dd=none) (ht:P.underlying t=some (.slice e)) (hat:ats[0]?= some t) (hz:TZ P e z0) (hx:ev σ x=some (.slice (some ⟨b,o,none⟩) n c)) (hn:n≠0)
  (hzs:Builtin.zeroCells z0.cells n=zs.toArray) (hin:o+zs.length≤vs.length) (G:∀u∈zs,cell1 u=true) (hg:dE all σ g)
  (kk:WL P X bad all K Q os σ (A++(b,.cells (vs.take o++zs++vs.drop (o+zs.length)).toArray e (0,0))::B) Ds):
  WL P X bad all K Q ((false,ix)::os) σ (A++(b,.cells vs.toArray e (0,0))::B) Ds:=by
 subst hdd;refine eZ ho rfl rfl hg fun a w hh=>?_
 obtain⟨h1,h2,h3,D,h4,h5,M⟩:=id hh;have hbx:=(h4.box (b,.cells vs.toArray e (0,0)) Ye).1;obtain⟨w',hr,hw'⟩:=jS (P:=P) zs 0 w b o vs e hbx Yd G;rw[Nat.add_zero]at hw';have hcl:(Builtin.clear_ ats tr #[.slice (some ⟨b,o,none⟩) n c]).run P w=.ok (.tuple #[]) w':=by
  have I:(#[Value.slice (some ⟨b,o,none⟩) n c]:Array Value)[0]?= some (.slice (some ⟨b,o,none⟩) n c):=rfl;unfold Builtin.clear_;obtain⟨k,rfl⟩:∃k,n=k+1:=⟨n-1,by omega⟩
  simp only[hat,I,Sem.run_bind,TU.of ht w,Result.andThen_ok,hz w,hzs,Sem.run_pure];rw[hr];rfl
 have hex:∃r,(execOp a.eval ⟨none,.call {callee:=.builtin .clear,args:=#[x],argTypes:=ats},tr,pos,aft,g⟩).run P w=.ok (.value r) w':=by
  refine⟨.tuple #[],?_⟩;simp only[execOp,resolve,pure_bind,invoke,builtin];have I:(#[x].map a.eval)=#[.slice (some ⟨b,o,none⟩) n c]:=by simp[hh.eval hx]
  rw[I,Sem.run_bind,hcl];rfl
 obtain⟨r,hex⟩:=hex;rw[hex];have hHas:bR (A++(b,.cells vs.toArray e (0,0))::B) b (.cells vs.toArray e (0,0)) (.cells (vs.take o++zs++vs.drop (o+zs.length)).toArray e (0,0)) (A++(b,.cells (vs.take o++zs++vs.drop (o+zs.length)).toArray e (0,0))::B):=.app .head;have hst:=h4.set hHas hw' rfl;exact⟨fun h=>by simp at h,kk _ _ ⟨h1,h2,h3,D,hst,h5,M.step (fun _ p hp=>aZE Yq) (fun _=>kI hw' (GT.2 ⟨_,hHas.mem,rfl⟩)) hst.dom⟩⟩
variable{z2:Operand}
theorem UQ{t e:TypeId}{b i n cap sz:Nat}{k:IntKind}(ho:all[ix]?= some ⟨some d,.slice t x none (some z) none,ty,pos,aft,g⟩)(ht:P.underlying t=some (.slice e))(hs:TS P e sz)(hx:ev σ x=some (qS b n cap))(hz:ev σ z=some (.int k (i:Int)))(hi:i≤cap)
  (hN:Nat.blt d X.N=true) (hg:dE all σ g) (kk:WL P X bad all K Q os ((d,qS b i cap)::σ) μ Ds):WL P X bad all K Q ((fl,ix)::os) σ μ Ds:=by
 have ha:(if cap=0 then some (⟨b,0,none⟩:Addr)else(some (⟨b,0,none⟩:Addr)).map (·.add (0*sz)))=some ⟨b,0,none⟩:=by
  split
  ·rfl
  ·simp[Addr.add]
 refine bQ ho rfl rfl hN hg (fun ρ hρ w'=>?_) kk;simp only[execOp,bBA,aZX,hρ x _ hx,hρ z _ hz];unfold Instr.sliceAt Instr.slice Instr.sliceBounds Instr.sliceBound asIntOf;have hle:(0:Int)≤(i:Int)∧(i:Int)≤(cap:Nat):=by omega
 simp only[Sem.run_bind,TU.of ht w',Result.andThen_ok,Sem.run_pure,pure_bind,hs w',hle,bDO,bAX,bAK,bCM,ha]
theorem TM{t e:TypeId}{b j n cap sz:Nat}{k:IntKind}(ho:all[ix]?= some ⟨some d,.slice t x (some y) none none,ty,pos,aft,g⟩)(ht:P.underlying t=some (.slice e))(hs:TS P e sz)(hx:ev σ x=some (qS b n cap))(hy:ev σ y=some (.int k (j:Int)))(hj:j≤n)
  (hN:Nat.blt d X.N=true) (hg:dE all σ g) (kk:∀o,(j<cap→o=j*sz)→WL P X bad all K Q os ((d,.slice (some ⟨b,o,none⟩) (n-j) (cap-j))::σ) μ Ds):WL P X bad all K Q ((fl,ix)::os) σ μ Ds:=by
 have ha:(if cap=j then some (⟨b,0,none⟩:Addr)else(some (⟨b,0,none⟩:Addr)).map (·.add (j*sz)))=some ⟨b,if cap=j then 0 else j*sz,none⟩:=by
  split
  ·rfl
  ·simp[gF]
 refine bQ ho rfl rfl hN hg (fun ρ hρ w'=>?_) (kk (if cap=j then 0 else j*sz) fun h=>by rw[aZB Yd]);simp only[execOp,bBA,aZX,hρ x _ hx,hρ y _ hy];unfold Instr.sliceAt Instr.slice Instr.sliceBounds Instr.sliceBound asIntOf;have hle:(0:Int)≤(j:Int)∧(j:Int)≤(n:Nat):=by omega
 simp only[Sem.run_bind,TU.of ht w',Result.andThen_ok,Sem.run_pure,pure_bind,hs w',hle,bDO,bAX,bAK,ha]
theorem VR{t e:TypeId}{b l h n cap sz:Nat}{k k':IntKind}(ho:all[ix]?= some ⟨some d,.slice t x (some y) (some z) none,ty,pos,aft,g⟩)(ht:P.underlying t=some (.slice e))(hs:TS P e sz)(hx:ev σ x=some (qS b n cap))(hy:ev σ y=some (.int k (l:Int)))(hz:ev σ z=some (.int k' (h:Int)))(h1:l≤h)(h2:h≤cap)(h3:l<cap)
  (hN:Nat.blt d X.N=true) (hg:dE all σ g) (kk:WL P X bad all K Q os ((d,.slice (some ⟨b,l*sz,none⟩) (h-l) (cap-l))::σ) μ Ds):WL P X bad all K Q ((fl,ix)::os) σ μ Ds:=by
 have ha:(if cap=l then some (⟨b,0,none⟩:Addr)else(some (⟨b,0,none⟩:Addr)).map (·.add (l*sz)))=some ⟨b,l*sz,none⟩:=by
  rw[aZB Yd];simp[gF]
 refine bQ ho rfl rfl hN hg (fun ρ hρ w'=>?_) kk;simp only[execOp,bBA,aZX,hρ x _ hx,hρ y _ hy,hρ z _ hz];unfold Instr.sliceAt Instr.slice Instr.sliceBounds Instr.sliceBound asIntOf;have G:(0:Int)≤(l:Int)∧(l:Int)≤(h:Nat):=by omega
 have a2:(0:Int)≤(h:Int)∧(h:Int)≤(cap:Nat):=by omega
 simp only[Sem.run_bind,TU.of ht w',Result.andThen_ok,Sem.run_pure,pure_bind,hs w',G,a2,bDO,bAX,bAK,ha]
theorem VV{t e:TypeId}{b l h m n cap sz:Nat}{k k' I:IntKind}(ho:all[ix]?= some ⟨some d,.slice t x (some y) (some z) (some z2),ty,pos,aft,g⟩)(ht:P.underlying t=some (.slice e))(hs:TS P e sz)(hx:ev σ x=some (qS b n cap))(hy:ev σ y=some (.int k (l:Int)))(hz:ev σ z=some (.int k' (h:Int)))(G:ev σ z2=some (.int I (m:Int)))(h1:l≤h)(h2:h≤m)(h3:m≤cap)
  (hN:Nat.blt d X.N=true) (hg:dE all σ g) (kk:∀v,WL P X bad all K Q os ((d,v)::σ) μ Ds):WL P X bad all K Q ((fl,ix)::os) σ μ Ds:=by
 refine bQ (v:=.slice (if m=l then some ⟨b,0,none⟩else(some (⟨b,0,none⟩:Addr)).map (·.add (l*sz))) (h-l) (m-l)) ho rfl rfl hN hg (fun ρ hρ w'=>?_) (kk _);simp only[execOp,aZX,hρ x _ hx,hρ y _ hy,hρ z _ hz,hρ z2 _ G];unfold Instr.sliceAt Instr.slice Instr.sliceBounds Instr.sliceBound asIntOf;have M:(0:Int)≤(l:Int)∧(l:Int)≤(h:Nat):=by omega
 have a2:(0:Int)≤(h:Int)∧(h:Int)≤(m:Nat):=by omega
 have a3:(0:Int)≤(m:Int)∧(m:Int)≤(cap:Nat):=by omega
 simp only[Sem.run_bind,TU.of ht w',Result.andThen_ok,Sem.run_pure,pure_bind,hs w',M,a2,a3,bDO,bAX,bAK];rfl
theorem MR{t e:TypeId}{D₁:aC}{b o n cap j:Nat}{k:IntKind}{xs:List Int}(ho:all[ix]?= some ⟨some d,.slice t x (some y) none none,ty,pos,aft,g⟩)(ht:P.underlying t=some (.slice e))(hs:TS P e 1)(hx:ev σ x=some (.slice (some ⟨b,o,none⟩) n cap))(hS:Sl D₁ RI 1 (.slice (some ⟨b,o,none⟩) n cap) xs)(hy:ev σ y=some (.int k (j:Int)))(hj:j<n)
  (hN:Nat.blt d X.N=true) (hg:dE all σ g) (kk:Sl D₁ RI 1 (.slice (some ⟨b,o+j,none⟩) (n-j) (cap-j)) (xs.drop j)→WL P X bad all K Q os ((d,.slice (some ⟨b,o+j,none⟩) (n-j) (cap-j))::σ) μ Ds):WL P X bad all K Q ((fl,ix)::os) σ μ Ds:=by
 obtain⟨a,c,hv,h1,h2,h3⟩:=hS;cases hv;rcases h3 with h3|⟨b',o',ha,h3⟩
 ·subst h3;simp at hj
 cases ha;have ha:(if cap=j then some (⟨b,o,none⟩:Addr)else(some (⟨b,o,none⟩:Addr)).map (·.add (j*1)))=some ⟨b,o+j,none⟩:=by
  rw[aZB Yd];simp[gF]
 refine bQ ho rfl rfl hN hg (fun ρ hρ w'=>?_) (kk ⟨_,_,by rw[bBT],by rw[bBT];omega,by rw[bBT];omega,aYZ ⟨b,o+j,rfl,fun i z hi=>?_⟩⟩)
 ·simp only[execOp,bBA,aZX,hρ x _ hx,hρ y _ hy];unfold Instr.sliceAt Instr.slice Instr.sliceBounds Instr.sliceBound asIntOf;have hle:(0:Int)≤(j:Int)∧(j:Int)≤(xs.length:Nat):=by omega
  simp only[Sem.run_bind,TU.of ht w',Result.andThen_ok,Sem.run_pure,pure_bind,hs w',hle,bDO,bAX,bAK,ha]
 ·rw[bBJ]at hi;obtain⟨cs,hr,hc,hA⟩:=h3 _ _ hi;exact⟨cs,hr,hc,by rw[show o+j+i*1=o+(j+i)*1 by omega];exact hA⟩
theorem aOX{t e:TypeId}{n len cap:Nat}{ad:Option Addr}(ho:all[ix]?= some ⟨some d,.sliceToArrayPointer t x,ty,pos,aft,g⟩)(ht:P.underlying t=some (.array n e))(hx:ev σ x=some (.slice ad len cap))(hl:n≤len)
  (hN:Nat.blt d X.N=true) (hg:dE all σ g) (kk:WL P X bad all K Q os ((d,.pointer ad)::σ) μ Ds):WL P X bad all K Q ((fl,ix)::os) σ μ Ds:=by
 refine eZ ho rfl rfl hg fun a w hh=>?_
 have:(execOp a.eval ⟨some d,.sliceToArrayPointer t x,ty,pos,aft,g⟩).run P w=.ok (.value (.pointer ad)) w:=by
  simp only[execOp,hh.eval hx];unfold Instr.arrayAt;rw[Sem.run_bind,Sem.run_bind,TU.of ht w];simp only[Result.andThen_ok];rw[aZB Yd];rfl
 rw[this];exact⟨fun _=>nZ.refl _ _,kk _ _ (hh.put hN _)⟩
namespace L12
open C12
section
variable{α:Type}{f:α→List Value}{n:Nat}(hf:∀x,(f x).length=n){xs:List α}{i:Nat}
include hf
theorem zP:((xs.drop (i+1)).flatMap f).length=(xs.length-(i+1))*n:=by rw[bP hf,bBT]
theorem YD(k:Nat):(xs.flatMap f).take (k*n)=(xs.take k).flatMap f:=by
 induction xs generalizing k with
 |nil=>simp
 |cons x xs ih=>
  cases k with
  |zero=>simp
  |succ k=>
   rw[bAC,List.take_succ_cons,bAC,←ih k,show(k+1)*n=(f x).length+k*n by rw[hf,bBU];omega,List.take_length_add_append]
theorem YZ(k:Nat):(xs.flatMap f).drop (k*n)=(xs.drop k).flatMap f:=by
 induction xs generalizing k with
 |nil=>simp
 |cons x xs ih=>
  cases k with
  |zero=>simp
  |succ k=>
   rw[bAC,List.drop_succ_cons,←ih k,show(k+1)*n=(f x).length+k*n by rw[hf,bBU];omega,bCX]
theorem b7{cap o:Nat}{junk:List Value}(hi:i<xs.length)(hcap:xs.length≤cap)(ho:i+1<cap→o=(i+1)*n)(_:(xs.flatMap f++junk).length=cap*n):((xs.flatMap f++junk).drop o).take ((xs.length-(i+1))*n)=(xs.drop (i+1)).flatMap f:=by
 by_cases h:i+1<xs.length
 ·rw[ho Yd,List.drop_append_of_le_length (by rw[bP hf];exact bDT _ Yd),YZ hf,bAB (by rw[zP hf];exact aZL _),aZP (by rw[zP hf];exact aZL _)]
 ·rw[show xs.length-(i+1)=0 by omega,bCS,List.take_zero,aZZ Yd];rfl
theorem A5{junk:List Value}(hi:i<xs.length):(xs.flatMap f++junk).take (i*n)++(xs.drop (i+1)).flatMap f++(xs.flatMap f++junk).drop (i*n+(xs.length-(i+1))*n)=(xs.eraseIdx i).flatMap f++(xs.flatMap f++junk).drop ((xs.length-1)*n):=by
 rw[bAB (by rw[bP hf];exact bDT _ Yd),YD hf,←aZS,←List.eraseIdx_eq_take_drop_succ,←bBU,show i+(xs.length-(i+1))=xs.length-1 by omega]
theorem L9{cap:Nat}{junk:List Value}(hi:i<xs.length)(_:(xs.flatMap f).length=xs.length*n)(G:(xs.flatMap f++junk).length=cap*n)(hcap:xs.length≤cap):((xs.eraseIdx i).flatMap f++(xs.flatMap f++junk).drop ((xs.length-1)*n)).length=cap*n:=by
 have h1:(xs.length-1)*n≤cap*n:=bDT _ Yd;rw[aYS,bP hf,bCY hi,bBT,G];omega
theorem b8{cap b e:Nat}{junk zs:List Value}{cells:List Value}(hi:i<xs.length)(hl1:(xs.flatMap f).length=xs.length*n)(G:(xs.flatMap f++junk).length=cap*n)(hcap:xs.length≤cap)(hz:cells=((xs.eraseIdx i).flatMap f++(xs.flatMap f++junk).drop ((xs.length-1)*n)).take ((xs.length-1)*n)++zs++((xs.eraseIdx i).flatMap f++(xs.flatMap f++junk).drop ((xs.length-1)*n)).drop ((xs.length-1)*n+zs.length))(hzl:(xs.length-1)*n+zs.length≤cap*n:=by simp;omega):
  bS e n (qS b (xs.length-1) cap) (xs.length-1) ((xs.eraseIdx i).flatMap f) [(b,qC cells e)]:=by
 have hE:((xs.eraseIdx i).flatMap f).length=(xs.length-1)*n:=by rw[bP hf,bCY hi]
 have hT:=L9 hf hi hl1 G hcap;subst hz;generalize hR:(xs.flatMap f++junk).drop ((xs.length-1)*n)=R at hT ⊢
 have I:((xs.eraseIdx i).flatMap f++R).take ((xs.length-1)*n)=(xs.eraseIdx i).flatMap f:=by rw[←hE,bDN]
 rw[I,aZD];refine aYZ ⟨b,cap,_,rfl,by omega,rfl,hE,?_⟩;rw[aYS,aYS,bBT,hT,hE];omega
end
theorem RK(sv:Value)(xs:List C1.xI)(i:Nat)(ν:aD)(D:aC)(ha:bS 202 3 sv xs.length (xs.flatMap cC) ν)(hi:i<xs.length):AN prog 344 [sv,qI (i:Int),qI ((i+1:Nat):Int)] D ν (fun _ v ν'=>bS 202 3 v (xs.length-1) ((xs.eraseIdx i).flatMap cC) ν'):=by
 obtain⟨b,cap,junk,rfl,hcap,rfl,hl1,G⟩:=ha.some Yd;refine iL 33 func344 rfl rfl rfl rfl (fun h0 hwl hwn=>aA<|Zg rfl<|aL<|Za rfl<|Za rfl<|Za rfl<|Za rfl<|kW rfl U26 rfl rfl rfl bDY<|VV (l:=i) (h:=i+1) (m:=xs.length) rfl U26 gV rfl rfl rfl rfl Yd Yd hcap rfl bDY (fun v3=>bJ<|Za rfl ?_));refine Za rfl<|Zam rfl<|aF<|Zz rfl (fun I=>?_) (fun I=>?_)
 ·exact absurd I Yd
 ·refine aT<|aA<|Za rfl<|kW rfl U26 rfl rfl rfl bDY<|Zg rfl<|bT<|bW [] 2 8 58<|Za rfl<|Za rfl<|UQ (i:=i) rfl U26 gV rfl rfl Yd rfl bDY<|Za rfl<|Za rfl ?_;refine TM (j:=i+1) rfl U26 gV rfl rfl Yd rfl bDY (fun o ho=>wI (A:=[]) (B:=[]) (sz:=3) (xs:=(xs.drop (i+1)).flatMap cC) rfl U26 rfl rfl gV rfl rfl (b7 (f:=cC) (fun _=>rfl) hi hcap ho G) (zP (f:=cC) (fun _=>rfl)) Yd Yae (gM LS _) (aZE rfl) rfl bDY ?_);rw[show i+(xs.length-(i+1))=xs.length-1 by omega];refine aI [(b,qC ((xs.eraseIdx i).flatMap cC++(xs.flatMap cC++junk).drop ((xs.length-1)*3)) 202)] (by rw[aZU,A5 (f:=cC) (fun _=>rfl) hi])<|Zg rfl<|aL<|Za rfl<|Za rfl<|kW rfl U26 rfl rfl rfl bDY<|Za rfl<|VR (l:=xs.length-1) (h:=xs.length) rfl U26 gV rfl rfl rfl Yd hcap Yd rfl bDY ?_;rw[show xs.length-(xs.length-1)=1 by omega];refine O8 (A:=[]) (B:=[]) (zs:=[.bool false,qI 0,qI 0]) rfl rfl U26 rfl wJ rfl Yd Yg (by rw[L9 (f:=cC) (fun _=>rfl) hi hl1 G hcap];simp;omega) Yk bDY<|aL<|Za rfl<|Zg rfl<|aG ?_
  exact Zac [] [] [_] [_] rfl ⟨rfl,bDY⟩ rfl (fun D hD=>b8 (f:=cC) (fun _=>rfl) hi hl1 G hcap rfl)
theorem QC(sv:Value)(xs:List C2.Mk)(i:Nat)(ν:aD)(D:aC)(ha:bS 204 4 sv xs.length (xs.flatMap cM) ν)(hi:i<xs.length):AN prog 346 [sv,qI (i:Int),qI ((i+1:Nat):Int)] D ν (fun _ v ν'=>bS 204 4 v (xs.length-1) ((xs.eraseIdx i).flatMap cM) ν'):=by
 obtain⟨b,cap,junk,rfl,hcap,rfl,hl1,G⟩:=ha.some Yd;refine iL 33 func346 rfl rfl rfl rfl (fun h0 hwl hwn=>aA<|Zg rfl<|aL<|Za rfl<|Za rfl<|Za rfl<|Za rfl<|kW rfl U30 rfl rfl rfl bDY<|VV (l:=i) (h:=i+1) (m:=xs.length) rfl U30 iG rfl rfl rfl rfl Yd Yd hcap rfl bDY (fun v3=>bJ<|Za rfl ?_));refine Za rfl<|Zam rfl<|aF<|Zz rfl (fun I=>?_) (fun I=>?_)
 ·exact absurd I Yd
 ·refine aT<|aA<|Za rfl<|kW rfl U30 rfl rfl rfl bDY<|Zg rfl<|bT<|bW [] 2 8 58<|Za rfl<|Za rfl<|UQ (i:=i) rfl U30 iG rfl rfl Yd rfl bDY<|Za rfl<|Za rfl ?_;refine TM (j:=i+1) rfl U30 iG rfl rfl Yd rfl bDY (fun o ho=>wI (A:=[]) (B:=[]) (sz:=4) (xs:=(xs.drop (i+1)).flatMap cM) rfl U30 rfl rfl iG rfl rfl (b7 (f:=cM) (fun _=>rfl) hi hcap ho G) (zP (f:=cM) (fun _=>rfl)) Yd Yae (gM IL _) (aZE rfl) rfl bDY ?_);rw[show i+(xs.length-(i+1))=xs.length-1 by omega];refine aI [(b,qC ((xs.eraseIdx i).flatMap cM++(xs.flatMap cM++junk).drop ((xs.length-1)*4)) 204)] (by rw[aZU,A5 (f:=cM) (fun _=>rfl) hi])<|Zg rfl<|aL<|Za rfl<|Za rfl<|kW rfl U30 rfl rfl rfl bDY<|Za rfl<|VR (l:=xs.length-1) (h:=xs.length) rfl U30 iG rfl rfl rfl Yd hcap Yd rfl bDY ?_;rw[show xs.length-(xs.length-1)=1 by omega];refine O8 (A:=[]) (B:=[]) (zs:=[qI 0,qI 0,qI 0,qI 0]) rfl rfl U30 rfl wS rfl Yd Yg (by rw[L9 (f:=cM) (fun _=>rfl) hi hl1 G hcap];simp;omega) Yk bDY<|aL<|Za rfl<|Zg rfl<|aG ?_
  exact Zac [] [] [_] [_] rfl ⟨rfl,bDY⟩ rfl (fun D hD=>b8 (f:=cM) (fun _=>rfl) hi hl1 G hcap rfl)
theorem OV(sv:Value)(xs:List C3.gI)(i:Nat)(ν:aD)(D:aC)(ha:bS 206 3 sv xs.length (xs.flatMap cL) ν)(hi:i<xs.length):AN prog 348 [sv,qI (i:Int),qI ((i+1:Nat):Int)] D ν (fun _ v ν'=>bS 206 3 v (xs.length-1) ((xs.eraseIdx i).flatMap cL) ν'):=by
 obtain⟨b,cap,junk,rfl,hcap,rfl,hl1,G⟩:=ha.some Yd;refine iL 33 func348 rfl rfl rfl rfl (fun h0 hwl hwn=>aA<|Zg rfl<|aL<|Za rfl<|Za rfl<|Za rfl<|Za rfl<|kW rfl U33 rfl rfl rfl bDY<|VV (l:=i) (h:=i+1) (m:=xs.length) rfl U33 bU rfl rfl rfl rfl Yd Yd hcap rfl bDY (fun v3=>bJ<|Za rfl ?_));refine Za rfl<|Zam rfl<|aF<|Zz rfl (fun I=>?_) (fun I=>?_)
 ·exact absurd I Yd
 ·refine aT<|aA<|Za rfl<|kW rfl U33 rfl rfl rfl bDY<|Zg rfl<|bT<|bW [] 2 8 58<|Za rfl<|Za rfl<|UQ (i:=i) rfl U33 bU rfl rfl Yd rfl bDY<|Za rfl<|Za rfl ?_;refine TM (j:=i+1) rfl U33 bU rfl rfl Yd rfl bDY (fun o ho=>wI (A:=[]) (B:=[]) (sz:=3) (xs:=(xs.drop (i+1)).flatMap cL) rfl U33 rfl rfl bU rfl rfl (b7 (f:=cL) (fun _=>rfl) hi hcap ho G) (zP (f:=cL) (fun _=>rfl)) Yd Yae (gM NE _) (aZE rfl) rfl bDY ?_);rw[show i+(xs.length-(i+1))=xs.length-1 by omega];refine aI [(b,qC ((xs.eraseIdx i).flatMap cL++(xs.flatMap cL++junk).drop ((xs.length-1)*3)) 206)] (by rw[aZU,A5 (f:=cL) (fun _=>rfl) hi])<|Zg rfl<|aL<|Za rfl<|Za rfl<|kW rfl U33 rfl rfl rfl bDY<|Za rfl<|VR (l:=xs.length-1) (h:=xs.length) rfl U33 bU rfl rfl rfl Yd hcap Yd rfl bDY ?_;rw[show xs.length-(xs.length-1)=1 by omega];refine O8 (A:=[]) (B:=[]) (zs:=[qI 0,qI 0,qI 0]) rfl rfl U33 rfl jJ rfl Yd Yg (by rw[L9 (f:=cL) (fun _=>rfl) hi hl1 G hcap];simp;omega) Yk bDY<|aL<|Za rfl<|Zg rfl<|aG ?_
  exact Zac [] [] [_] [_] rfl ⟨rfl,bDY⟩ rfl (fun D hD=>b8 (f:=cL) (fun _=>rfl) hi hl1 G hcap rfl)
theorem RQ(sv:Value)(xs:List (Int×Int))(i:Nat)(ν:aD)(D:aC)(ha:bS 90 2 sv xs.length (xs.flatMap cP) ν)(hi:i<xs.length):AN prog 349 [sv,qI (i:Int),qI ((i+1:Nat):Int)] D ν (fun _ v ν'=>bS 90 2 v (xs.length-1) ((xs.eraseIdx i).flatMap cP) ν'):=by
 obtain⟨b,cap,junk,rfl,hcap,rfl,hl1,G⟩:=ha.some Yd;refine iL 33 func349 rfl rfl rfl rfl (fun h0 hwl hwn=>aA<|Zg rfl<|aL<|Za rfl<|Za rfl<|Za rfl<|Za rfl<|kW rfl U38 rfl rfl rfl bDY<|VV (l:=i) (h:=i+1) (m:=xs.length) rfl U38 cU rfl rfl rfl rfl Yd Yd hcap rfl bDY (fun v3=>bJ<|Za rfl ?_));refine Za rfl<|Zam rfl<|aF<|Zz rfl (fun I=>?_) (fun I=>?_)
 ·exact absurd I Yd
 ·refine aT<|aA<|Za rfl<|kW rfl U38 rfl rfl rfl bDY<|Zg rfl<|bT<|bW [] 2 8 58<|Za rfl<|Za rfl<|UQ (i:=i) rfl U38 cU rfl rfl Yd rfl bDY<|Za rfl<|Za rfl ?_;refine TM (j:=i+1) rfl U38 cU rfl rfl Yd rfl bDY (fun o ho=>wI (A:=[]) (B:=[]) (sz:=2) (xs:=(xs.drop (i+1)).flatMap cP) rfl U38 rfl rfl cU rfl rfl (b7 (f:=cP) (fun _=>rfl) hi hcap ho G) (zP (f:=cP) (fun _=>rfl)) Yd Yae (gM AH _) (aZE rfl) rfl bDY ?_);rw[show i+(xs.length-(i+1))=xs.length-1 by omega];refine aI [(b,qC ((xs.eraseIdx i).flatMap cP++(xs.flatMap cP++junk).drop ((xs.length-1)*2)) 90)] (by rw[aZU,A5 (f:=cP) (fun _=>rfl) hi])<|Zg rfl<|aL<|Za rfl<|Za rfl<|kW rfl U38 rfl rfl rfl bDY<|Za rfl<|VR (l:=xs.length-1) (h:=xs.length) rfl U38 cU rfl rfl rfl Yd hcap Yd rfl bDY ?_;rw[show xs.length-(xs.length-1)=1 by omega];refine O8 (A:=[]) (B:=[]) (zs:=[qI 0,qI 0]) rfl rfl U38 rfl kG rfl Yd Yg (by rw[L9 (f:=cP) (fun _=>rfl) hi hl1 G hcap];simp;omega) Yk bDY<|aL<|Za rfl<|Zg rfl<|aG ?_
  exact Zac [] [] [_] [_] rfl ⟨rfl,bDY⟩ rfl (fun D hD=>b8 (f:=cP) (fun _=>rfl) hi hl1 G hcap rfl)
end L12
namespace L12
open C12
theorem nD{e sz n:Nat}{cells:List Value}{v:Value}{ν:aD}(ha:bS e sz v n cells ν):∀p∈ν,dB p.2:=by
 intro p hp;rcases ha with⟨_,_,_,_,rfl⟩|⟨b,cap,junk,_,_,rfl,_⟩
 ·cases hp
 ·simp only[aZM]at hp;subst hp;rfl
theorem LD(wb:Nat)(s:aN)(pv cv hv lv mv bl bc yc yq nv:Value)(a:Int)(ν:aD)(D:aC)(hn:Sl D RI 1 nv [a])(ha:bS 202 3 cv s.row.counts.length (s.row.counts.flatMap cC) ν)(hsm:s.row.counts.length≤100)(U:0≤a):lH prog 270 [qP wb,nv] D ((wb,qC (dO s pv cv hv lv mv bl bc yc yq) 343)::ν) (fun _ _ ν'=>a<(s.row.counts.length:Int)∧∃v1 ν1,ν'=(wb,qC (dO s pv v1 hv lv mv bl bc yc yq) 343)::ν1∧bS 202 3 v1 (s.row.counts.length-1) ((s.row.counts.eraseIdx a.toNat).flatMap cC) ν1) (fun v=>(s.row.counts.length:Int)≤a∧v=fD 7):=by
 obtain⟨bt,ot,ct,rfl⟩:=kK hn Ye;obtain⟨i,rfl⟩:∃i:Nat,a=(i:Int):=⟨a.toNat,by omega⟩
 have hbt:=nL hn;refine eQ 34 func270 rfl rfl rfl rfl (fun h0 hwl hwn=>aS<|cO [] 7 11 1016<|Za rfl<|cW rfl hn<|Za rfl<|Zaj rfl<|Zh rfl aX rfl<|Zh rfl dC rfl<|Zh rfl hP rfl<|Zm rfl pT rfl Mm0 rfl<|fJ rfl U26 rfl ha rfl rfl bDY ?_);refine Ze [(_,_)] ν [] rfl (Or.inr Yi) (fun D5 M=>kN (i:Int) (s.row.counts.length:Int) _) (fun v5 V M G=>cJ (P:=prog) (fn:=f270) rfl ⟨G.1,G.2⟩) (fun v5 V ν5 M G=>?_);obtain⟨O,rfl⟩:=G;refine aF<|lA hbt Ye (fun hap=>zB (fun hnd=>?_));have hnu:=mW hap hnd;have hwbo:wb∉gN.mk [bt,wb]:=gN.out Ye;have hbto:bt∉gN.mk [bt,wb]:=gN.out Ye;refine cO (gN.mk [bt,wb]) 4 20 32766<|Za rfl<|Za rfl<|Zaj rfl<|Zh rfl aX rfl<|Zh rfl dC rfl<|Zh rfl hP rfl<|bZ rfl pT rfl Mm0 rfl Yn rfl bDY<|Za rfl<|cW rfl hn<|Za rfl<|cW rfl hn ?_;refine Zaa rfl<|aI ((wb,qC (dO s pv cv hv lv mv bl bc yc yq) 343)::ν) rfl<|aI ((wb,qC (dO s pv cv hv lv mv bl bc yc yq) 343)::ν++[]) (aZA _).symm<|fK (A:=[(wb,qC (dO s pv cv hv lv mv bl bc yc yq) 343)]) (ν:=ν) (B:=[]) rfl rfl rfl rfl Yo (nD ha) (fun D7 Y=>RK _ s.row.counts i ν _ ha Yd) rfl bDY (fun R D8 ν7 Z I=>aI ((wb,qC (dO s pv cv hv lv mv bl bc yc yq) 343)::ν7) (aZA _)<|Zaj rfl<|Zh rfl aX rfl<|Zh rfl dC rfl<|Zh rfl hP rfl<|bG (ws:=(dO s pv R hv lv mv bl bc yc yq)) rfl rfl rfl I.cells1 GH .head Ye rfl I.cell1 bDY<|Zah ?_);refine fun a w hh=>kF (P:=prog) (fn:=f270) (A:=[]) (ν':=((wb,_)::ν7)) (B:=[]) (vs:=[]) rfl rfl rfl bDY (fun D' hD=>⟨O,R,ν7,rfl,I⟩) a w (hh.boxesEq (aZA _).symm)
theorem NW(wb:Nat)(s:aN)(pv cv hv lv mv bl bc yc yq nv:Value)(a:Int)(ν:aD)(D:aC)(hn:Sl D RI 1 nv [a])(ha:bS 204 4 mv s.table.marks.length (s.table.marks.flatMap cM) ν)(hsm:s.table.marks.length≤100)(U:0≤a):lH prog 278 [qP wb,nv] D ((wb,qC (dO s pv cv hv lv mv bl bc yc yq) 343)::ν) (fun _ _ ν'=>a<(s.table.marks.length:Int)∧∃v1 ν1,ν'=(wb,qC (dO s pv cv hv lv v1 bl bc yc yq) 343)::ν1∧bS 204 4 v1 (s.table.marks.length-1) ((s.table.marks.eraseIdx a.toNat).flatMap cM) ν1) (fun v=>(s.table.marks.length:Int)≤a∧v=fD 7):=by
 obtain⟨bt,ot,ct,rfl⟩:=kK hn Ye;obtain⟨i,rfl⟩:∃i:Nat,a=(i:Int):=⟨a.toNat,by omega⟩
 have hbt:=nL hn;refine eQ 34 func278 rfl rfl rfl rfl (fun h0 hwl hwn=>aS<|cO [] 7 11 1016<|Za rfl<|cW rfl hn<|Za rfl<|Zaj rfl<|Zh rfl aX rfl<|Zh rfl bN rfl<|Zh rfl iA rfl<|Zm rfl pH rfl Mm0 rfl<|fJ rfl U30 rfl ha rfl rfl bDY ?_);refine Ze [(_,_)] ν [] rfl (Or.inr Yi) (fun D5 M=>kN (i:Int) (s.table.marks.length:Int) _) (fun v5 V M G=>cJ (P:=prog) (fn:=f278) rfl ⟨G.1,G.2⟩) (fun v5 V ν5 M G=>?_);obtain⟨O,rfl⟩:=G;refine aF<|lA hbt Ye (fun hap=>zB (fun hnd=>?_));have hnu:=mW hap hnd;have hwbo:wb∉gN.mk [bt,wb]:=gN.out Ye;have hbto:bt∉gN.mk [bt,wb]:=gN.out Ye;refine cO (gN.mk [bt,wb]) 4 20 32766<|Za rfl<|Za rfl<|Zaj rfl<|Zh rfl aX rfl<|Zh rfl bN rfl<|Zh rfl iA rfl<|bZ rfl pH rfl Mm0 rfl Yn rfl bDY<|Za rfl<|cW rfl hn<|Za rfl<|cW rfl hn ?_;refine Zaa rfl<|aI ((wb,qC (dO s pv cv hv lv mv bl bc yc yq) 343)::ν) rfl<|aI ((wb,qC (dO s pv cv hv lv mv bl bc yc yq) 343)::ν++[]) (aZA _).symm<|fK (A:=[(wb,qC (dO s pv cv hv lv mv bl bc yc yq) 343)]) (ν:=ν) (B:=[]) rfl rfl rfl rfl Yo (nD ha) (fun D7 Y=>QC _ s.table.marks i ν _ ha Yd) rfl bDY (fun R D8 ν7 Z I=>aI ((wb,qC (dO s pv cv hv lv mv bl bc yc yq) 343)::ν7) (aZA _)<|Zaj rfl<|Zh rfl aX rfl<|Zh rfl bN rfl<|Zh rfl iA rfl<|bG (ws:=(dO s pv cv hv lv R bl bc yc yq)) rfl rfl rfl I.cells1 FF .head Ye rfl I.cell1 bDY<|Zah ?_);refine fun a w hh=>kF (P:=prog) (fn:=f278) (A:=[]) (ν':=((wb,_)::ν7)) (B:=[]) (vs:=[]) rfl rfl rfl bDY (fun D' hD=>⟨O,R,ν7,rfl,I⟩) a w (hh.boxesEq (aZA _).symm)
theorem PJ(wb:Nat)(s:aN)(pv cv hv lv mv bl bc yc yq nv:Value)(a:Int)(ν:aD)(D:aC)(hn:Sl D RI 1 nv [a])(ha:bS 206 3 bl s.book.lines.length (s.book.lines.flatMap cL) ν)(hsm:s.book.lines.length≤100)(U:0≤a):lH prog 282 [qP wb,nv] D ((wb,qC (dO s pv cv hv lv mv bl bc yc yq) 343)::ν) (fun _ _ ν'=>a<(s.book.lines.length:Int)∧∃v1 ν1,ν'=(wb,qC (dO s pv cv hv lv mv v1 bc yc yq) 343)::ν1∧bS 206 3 v1 (s.book.lines.length-1) ((s.book.lines.eraseIdx a.toNat).flatMap cL) ν1) (fun v=>(s.book.lines.length:Int)≤a∧v=fD 7):=by
 obtain⟨bt,ot,ct,rfl⟩:=kK hn Ye;obtain⟨i,rfl⟩:∃i:Nat,a=(i:Int):=⟨a.toNat,by omega⟩
 have hbt:=nL hn;refine eQ 34 func282 rfl rfl rfl rfl (fun h0 hwl hwn=>aS<|cO [] 7 11 1016<|Za rfl<|cW rfl hn<|Za rfl<|Zaj rfl<|Zh rfl aX rfl<|Zh rfl eL rfl<|Zh rfl cE rfl<|Zm rfl fA rfl Mm0 rfl<|fJ rfl U33 rfl ha rfl rfl bDY ?_);refine Ze [(_,_)] ν [] rfl (Or.inr Yi) (fun D5 M=>kN (i:Int) (s.book.lines.length:Int) _) (fun v5 V M G=>cJ (P:=prog) (fn:=f282) rfl ⟨G.1,G.2⟩) (fun v5 V ν5 M G=>?_);obtain⟨O,rfl⟩:=G;refine aF<|lA hbt Ye (fun hap=>zB (fun hnd=>?_));have hnu:=mW hap hnd;have hwbo:wb∉gN.mk [bt,wb]:=gN.out Ye;have hbto:bt∉gN.mk [bt,wb]:=gN.out Ye;refine cO (gN.mk [bt,wb]) 4 20 32766<|Za rfl<|Za rfl<|Zaj rfl<|Zh rfl aX rfl<|Zh rfl eL rfl<|Zh rfl cE rfl<|bZ rfl fA rfl Mm0 rfl Yn rfl bDY<|Za rfl<|cW rfl hn<|Za rfl<|cW rfl hn ?_;refine Zaa rfl<|aI ((wb,qC (dO s pv cv hv lv mv bl bc yc yq) 343)::ν) rfl<|aI ((wb,qC (dO s pv cv hv lv mv bl bc yc yq) 343)::ν++[]) (aZA _).symm<|fK (A:=[(wb,qC (dO s pv cv hv lv mv bl bc yc yq) 343)]) (ν:=ν) (B:=[]) rfl rfl rfl rfl Yo (nD ha) (fun D7 Y=>OV _ s.book.lines i ν _ ha Yd) rfl bDY (fun R D8 ν7 Z I=>aI ((wb,qC (dO s pv cv hv lv mv bl bc yc yq) 343)::ν7) (aZA _)<|Zaj rfl<|Zh rfl aX rfl<|Zh rfl eL rfl<|Zh rfl cE rfl<|bG (ws:=(dO s pv cv hv lv mv R bc yc yq)) rfl rfl rfl I.cells1 eI .head Ye rfl I.cell1 bDY<|Zah ?_);refine fun a w hh=>kF (P:=prog) (fn:=f282) (A:=[]) (ν':=((wb,_)::ν7)) (B:=[]) (vs:=[]) rfl rfl rfl bDY (fun D' hD=>⟨O,R,ν7,rfl,I⟩) a w (hh.boxesEq (aZA _).symm)
theorem JY(wb:Nat)(s:aN)(pv cv hv lv mv bl bc yc yq nv:Value)(a:Int)(ν:aD)(D:aC)(hn:Sl D RI 1 nv [a])(ha:bS 90 2 yq s.yard.claims.length (s.yard.claims.flatMap cP) ν)(hsm:s.yard.claims.length≤100)(U:0≤a):lH prog 287 [qP wb,nv] D ((wb,qC (dO s pv cv hv lv mv bl bc yc yq) 343)::ν) (fun _ _ ν'=>a<(s.yard.claims.length:Int)∧∃v1 ν1,ν'=(wb,qC (dO s pv cv hv lv mv bl bc yc v1) 343)::ν1∧bS 90 2 v1 (s.yard.claims.length-1) ((s.yard.claims.eraseIdx a.toNat).flatMap cP) ν1) (fun v=>(s.yard.claims.length:Int)≤a∧v=fD 7):=by
 obtain⟨bt,ot,ct,rfl⟩:=kK hn Ye;obtain⟨i,rfl⟩:∃i:Nat,a=(i:Int):=⟨a.toNat,by omega⟩
 have hbt:=nL hn;refine eQ 34 func287 rfl rfl rfl rfl (fun h0 hwl hwn=>aS<|cO [] 7 11 1016<|Za rfl<|cW rfl hn<|Za rfl<|Zaj rfl<|Zh rfl aX rfl<|Zh rfl dL rfl<|Zh rfl iB rfl<|Zm rfl pV rfl Mm0 rfl<|fJ rfl U38 rfl ha rfl rfl bDY ?_);refine Ze [(_,_)] ν [] rfl (Or.inr Yi) (fun D5 M=>kN (i:Int) (s.yard.claims.length:Int) _) (fun v5 V M G=>cJ (P:=prog) (fn:=f287) rfl ⟨G.1,G.2⟩) (fun v5 V ν5 M G=>?_);obtain⟨O,rfl⟩:=G;refine aF<|lA hbt Ye (fun hap=>zB (fun hnd=>?_));have hnu:=mW hap hnd;have hwbo:wb∉gN.mk [bt,wb]:=gN.out Ye;have hbto:bt∉gN.mk [bt,wb]:=gN.out Ye;refine cO (gN.mk [bt,wb]) 4 20 32766<|Za rfl<|Za rfl<|Zaj rfl<|Zh rfl aX rfl<|Zh rfl dL rfl<|Zh rfl iB rfl<|bZ rfl pV rfl Mm0 rfl Yn rfl bDY<|Za rfl<|cW rfl hn<|Za rfl<|cW rfl hn ?_;refine Zaa rfl<|aI ((wb,qC (dO s pv cv hv lv mv bl bc yc yq) 343)::ν) rfl<|aI ((wb,qC (dO s pv cv hv lv mv bl bc yc yq) 343)::ν++[]) (aZA _).symm<|fK (A:=[(wb,qC (dO s pv cv hv lv mv bl bc yc yq) 343)]) (ν:=ν) (B:=[]) rfl rfl rfl rfl Yo (nD ha) (fun D7 Y=>RQ _ s.yard.claims i ν _ ha Yd) rfl bDY (fun R D8 ν7 Z I=>aI ((wb,qC (dO s pv cv hv lv mv bl bc yc yq) 343)::ν7) (aZA _)<|Zaj rfl<|Zh rfl aX rfl<|Zh rfl dL rfl<|Zh rfl iB rfl<|bG (ws:=(dO s pv cv hv lv mv bl bc yc R)) rfl rfl rfl I.cells1 HH .head Ye rfl I.cell1 bDY<|Zah ?_);refine fun a w hh=>kF (P:=prog) (fn:=f287) (A:=[]) (ν':=((wb,_)::ν7)) (B:=[]) (vs:=[]) rfl rfl rfl bDY (fun D' hD=>⟨O,R,ν7,rfl,I⟩) a w (hh.boxesEq (aZA _).symm)
end L12
namespace L12
open C12
theorem aTA{D:aC}{bt ot n ct:Nat}{a b c d:Int}(h:Sl D RI 1 (.slice (some ⟨bt,ot,none⟩) n ct) [a,b,c,d]):At D bt (ot+1) [qI b,qI c,qI d]:=by
  obtain⟨x,cap,hv,h1,h2,h3⟩:=h;cases hv;rcases h3 with h3|⟨b',o,ha,h3⟩
  · cases h3
  · cases ha;intro j v hj;have key:∀(i:Nat) (z:Int),[a,b,c,d][i]?= some z→(D bt)[ot+i]?= some (qI z):=fun i z hi=>by
      obtain⟨cs,hr,hc,hA⟩:=h3 i z hi;obtain rfl:cs=[qI z]:=hr;have:=hA 0 _ rfl;simpa using this
    match j with
    | 0 => obtain rfl : Value.int .i64 b = v := by simpa using hj
           exact key 1 b rfl
    | 1 => obtain rfl : Value.int .i64 c = v := by simpa using hj
           exact key 2 c rfl
    | 2 => obtain rfl : Value.int .i64 d = v := by simpa using hj
           exact key 3 d rfl
    |j+3=>simp at hj
theorem QB(wb:Nat)(s:aN)(pv cv hv lv mv bl bc yc yq nv:Value)(a b c d:Int)(ν:aD)(D:aC)(hn:Sl D RI 1 nv [a,b,c,d])(ha:bS 212 4 yc s.yard.chairs.length (s.yard.chairs.flatMap cH) ν)(hsm:s.yard.chairs.length≤100):lH prog 283 [qP wb,nv] D ((wb,qC (dO s pv cv hv lv mv bl bc yc yq) 343)::ν) (fun _ _ ν'=>((a≤9∧max (max b c) d≤2)∧(s.yard.chairs.length:Int)<5)∧∃v1 ν1,ν'=(wb,qC (dO s pv cv hv lv mv bl bc v1 yq) 343)::ν1∧bS 212 4 v1 (s.yard.chairs.length+1) ((s.yard.chairs++[(⟨a,⟨b,c,d⟩⟩:C7.Ch)]).flatMap cH) ν1) (fun v=>((9<a∨2<max (max b c) d)∧v=fD 2)∨((a≤9∧max (max b c) d≤2)∧5≤(s.yard.chairs.length:Int)∧v=fD 3)):=by
 obtain⟨bt,ot,ct,rfl⟩:=kK hn Ye;have hbt:=nL hn;refine eQ 43 func283 rfl rfl rfl rfl (fun h0 hwl hwn=>aS<|cO [] 5 10 240<|Za rfl<|cW rfl hn<|fI rfl rfl rfl rfl bDY<|Za rfl<|MR (j:=1) rfl U25 aM rfl hn rfl Ye rfl bDY (fun hsT=>Zc rfl (fun D3 hB=>L2.aDP _ b [c,d] _ (hsT.up RI.up (hB _ Ye)))<|fI rfl rfl rfl rfl bDY<|Zp rfl U401 lT nS rfl (.cons rfl rfl (.cons rfl rfl .nil)) (fun hJ hK hE O=>Ze [(_,_)] ν [] rfl (aYZ Yi) (fun D5 R=>fH 2 [decide (9<a),decide (2<max (max b c) d)] _ _ ((gQ (l:=[decide (9<a),decide (2<max (max b c) d)]) (fun _ _ _ h=>h) O Ye).up RB.up (R _ Ye))) (fun v5 D6 R G=>cJ (P:=prog) (fn:=f283) rfl (aZE ⟨by simpa only[List.any_cons,List.any_nil,Bool.or_false,Bool.true_beq,bAD,aZI]using G.1,G.2⟩)) (fun v5 D6 ν5 R G=>?_))));obtain⟨M,rfl⟩:=G;have Y:a≤9∧max (max b c) d≤2:=by simp only[List.any_cons,List.any_nil,Bool.or_false,Bool.true_beq,bAU,bAH,Int.not_lt]at M;exact M
 refine aL<|Za rfl<|Zaj rfl<|Zh rfl aX rfl<|Zh rfl dL rfl<|Zh rfl eO rfl<|Zm rfl jE rfl Mm0 rfl<|fJ rfl U37 rfl ha rfl rfl bDY<|Ze [(_,_)] ν [] rfl (Or.inr Yi) (fun D7 Z=>xH (s.yard.chairs.length:Int) 5 _) (fun v7 D8 Z I=>cJ (P:=prog) (fn:=f283) rfl (aYZ ⟨Y,I.1,I.2⟩)) (fun v7 D8 ν7 Z I=>?_);obtain⟨hF,rfl⟩:=I;refine aF<|lA hbt Ye (fun hap=>zB (fun hnd=>?_));have hnu:=mW hap hnd;have hwbo:wb∉gN.mk [bt,wb]:=gN.out Ye;have hbto:bt∉gN.mk [bt,wb]:=gN.out Ye;refine cO (gN.mk [bt,wb]) 4 22 131070<|Za rfl<|Za rfl<|Zaj rfl<|Zh rfl aX rfl<|Zh rfl dL rfl<|Zh rfl eO rfl<|bZ rfl jE rfl Mm0 rfl Yn rfl bDY<|Za rfl<|cW rfl hn<|Za rfl<|MR (j:=1) rfl U25 aM rfl hn rfl Ye rfl bDY (fun hsU=>?_);refine aOX rfl U210 rfl Ye rfl bDY<|dQ rfl nH rfl (aTA hn) Ye mA hbto rfl bDY<|Zr [qI a,qI b,qI c,qI d] rfl aPL zU rfl<|Zp rfl U37 iQ zU rfl (.cons rfl rfl .nil) (fun hM hN hH U=>aI ((wb,qC (dO s pv cv hv lv mv bl bc yc yq) 343)::ν) rfl<|aI ((wb,qC (dO s pv cv hv lv mv bl bc yc yq) 343)::ν++[]) (aZA _).symm<|bB (A:=[(wb,qC (dO s pv cv hv lv mv bl bc yc yq) 343)]) (B:=[]) rfl U37 rfl rfl iQ zU rfl XD rfl rfl rfl ha (mI.lit U) Ye rfl (bP (n:=4) (fun _=>rfl) _) Yk Yd Yo rfl bDY (fun v1 ν1 V=>aI ((wb,qC (dO s pv cv hv lv mv bl bc yc yq) 343)::ν1) (aZA _) ?_));have hI:bS 212 4 v1 (s.yard.chairs.length+1) ((s.yard.chairs++[(⟨a,⟨b,c,d⟩⟩:C7.Ch)]).flatMap cH) ν1:=by rw[aZS,bAJ];exact V
 refine Zaj rfl<|Zh rfl aX rfl<|Zh rfl dL rfl<|Zh rfl eO rfl<|bG (ws:=(dO s pv cv hv lv mv bl bc v1 yq)) rfl rfl rfl V.cells1 SG .head Ye rfl V.cell1 bDY<|Zah ?_;refine fun a w hh=>kF (P:=prog) (fn:=f283) (A:=[]) (ν':=((wb,_)::ν1)) (B:=[]) (vs:=[]) rfl rfl rfl bDY (fun D' hD=>⟨⟨Y,hF⟩,v1,ν1,rfl,hI⟩) a w (hh.boxesEq (aZA _).symm)
end L12
def YS(es:Array MapEntry)(M:List (ByteArray×Value)):Prop:=es.toList.map (fun e=>(e.key,e.val))=M.map fun p=>(Value.string p.1,p.2)
def S6(s:ByteArray):List (ByteArray×Value)→Nat→Option (Nat×Value)
 | [],_=>none
 |(b,v)::M,i=>if(s==b)=true then some (i,v)else S6 s M (i+1)
theorem Y4(s:ByteArray):∀(es:List MapEntry) (M:List (ByteArray×Value)) (i:Nat),es.map (fun e=>(e.key,e.val))=M.map (fun p=>(Value.string p.1,p.2))→Instr.findNow .string (.string s) es i=some (S6 s M i)
 | [],[],i,_=>rfl
 | [],_::_,i,h=>by simp at h
 |_::_,[],i,h=>by simp at h
 |e::es,(b,v)::M,i,h=>by
  simp only[aZR,bAT,bCQ]at h;obtain⟨⟨hk,hv⟩,h⟩:=h;simp only[Instr.findNow,hk,Instr.sameNow,S6];cases hb:s==b with
  |true=>simp[hv]
  |false=>simpa using Y4 s es M (i+1) h
theorem xQ{k:TypeId}(ht:P.underlying k=some .string)(s:ByteArray)(w:World){es:List MapEntry}{M:List (ByteArray×Value)}(h:es.map (fun e=>(e.key,e.val))=M.map (fun p=>(Value.string p.1,p.2))):(Instr.findKey k (.string s) es).run P w=.ok (S6 s M 0) w:=by
 unfold Instr.findKey;rw[Sem.run_bind,TU.of ht w];simp only[Result.andThen_ok,Y4 s es M 0 h,Sem.run_pure]
theorem vY{k:TypeId}(ht:P.underlying k=some .string)(em:Bool)(s:ByteArray)(w:World):(Instr.checkKey em 10000 k (.string s)).run P w=.ok () w:=by
 show(Instr.checkKey em (9999+1) k (.string s)).run P w=_;rw[Instr.checkKey,Sem.run_bind,TU.of ht w];rfl
def aIH(s:ByteArray)(M:List (ByteArray×Value))(z0:Value):Value:=match S6 s M 0 with
 |some (_,v)=>v
 |none=>z0
theorem Y5{t k e:TypeId}{b clock:Nat}{es:Array MapEntry}{M:List (ByteArray×Value)}{s:ByteArray}(ho:all[ix]?= some ⟨some d,.lookup t x y true,ty,pos,aft,g⟩)(ht:P.underlying t=some (.map k e))(hk:P.underlying k=some .string){z0:Value}(hz:TZ P e z0)
  (hx:ev σ x=some (.map (some b))) (hy:ev σ y=some (.string s)) (hm:(b,Obj.map es clock)∈μ) (hb:b∉bad) (hM:YS es M) (hN:Nat.blt d X.N=true) (hg:dE all σ g)
  (kk:WL P X bad all K Q os ((d,.tuple #[aIH s M z0,.bool (S6 s M 0).isSome])::σ) μ Ds):WL P X bad all K Q ((fl,ix)::os) σ μ Ds:=by
 have run:∀w,w.heap[b]?= some (Obj.map es clock)→(Instr.lookup t (.map (some b)) (.string s) true).run P w=.ok (.tuple #[aIH s M z0,.bool (S6 s M 0).isSome]) w:=by
  intro w hw;unfold aIH;have hf:=xQ hk s w hM;unfold Instr.lookup;simp only[Sem.run_bind,TU.of ht w,Result.andThen_ok,nP hw,Sem.run_pure,vY hk];rw[hf];cases S6 s M 0 with
  |none=>simp only[Result.andThen_ok,Sem.run_bind,hz w,Sem.run_pure];rfl
  |some r=>obtain⟨j,v⟩:=r;simp only[Result.andThen_ok];rfl
 refine nE ho rfl rfl hN hg (fun a' w hh w' hk'=>?_) kk;simp only[execOp,hh.eval hx,hh.eval hy,Sem.run_bind,run w' (hh.boxAt hm hb hk'),Result.andThen_ok,Sem.run_pure]
theorem cG{t k e:TypeId}{b clock:Nat}{es:Array MapEntry}{M:List (ByteArray×Value)}{s:ByteArray}{A B:aD}(ho:all[ix]?= some ⟨none,.insert t x y z,ty,pos,aft,g⟩)(ht:P.underlying t=some (.map k e))(hk:P.underlying k=some .string)
  (hx:ev σ x=some (.map (some b))) (hy:ev σ y=some (.string s)) (hz:ev σ z=some v) (hM:YS es M) (hnew:S6 s M 0=none) (hg:dE all σ g)
  (kk:∀es' clock',YS es' (M++[(s,v)])→WL P X bad all K Q os σ (A++(b,.map es' clock')::B) Ds):WL P X bad all K Q ((false,ix)::os) σ (A++(b,.map es clock)::B) Ds:=by
 refine eZ ho rfl rfl hg fun a' w hh=>?_
 obtain⟨h1,h2,h3,D,h4,h5,G⟩:=id hh;have hw:=(h4.box (b,.map es clock) Ye).1;have hf:=xQ hk s w hM;have hset:∀o,(setObj b o).run P w=.ok () {w with heap:=w.heap.setIfInBounds b o}:=fun o=>by simp[setObj,Sem.run,hw]
 have hr:(Instr.mapUpdate t (.map (some b)) (.string s) v).run P w=.ok () {w with heap:=w.heap.setIfInBounds b (.map (es.push {key:=.string s,val:=v,born:=clock}) (clock+1))}:=by
  unfold Instr.mapUpdate;simp only[Sem.run_bind,TU.of ht w,Result.andThen_ok,nP hw,vY hk];rw[hf,hnew];simp only[Result.andThen_ok,hset]
 have hHas:bR (A++(b,Obj.map es clock)::B) b (.map es clock) (.map (es.push {key:=.string s,val:=v,born:=clock}) (clock+1)) (A++(b,.map (es.push {key:=.string s,val:=v,born:=clock}) (clock+1))::B):=.app .head;have hs:=h4.set (w':={w with heap:=w.heap.setIfInBounds b (.map (es.push {key:=.string s,val:=v,born:=clock}) (clock+1))}) hHas ⟨rfl,rfl⟩ trivial;have:(execOp a'.eval ⟨none,.insert t x y z,ty,pos,aft,g⟩).run P w=.ok .skip {w with heap:=w.heap.setIfInBounds b (.map (es.push {key:=.string s,val:=v,born:=clock}) (clock+1))}:=by
  simp only[execOp,hh.eval hx,hh.eval hy,hh.eval hz,Sem.run_bind,hr,Result.andThen_ok,Sem.run_pure]
 rw[this];refine⟨fun h=>by simp at h,kk _ _ ?_ _ _ ⟨h1,h2,h3,D,hs,h5,G.step (fun _ p hp=>aZE Yq) (fun _=>kI ⟨rfl,rfl⟩ (GT.2 ⟨_,hHas.mem,rfl⟩)) hs.dom⟩⟩;unfold YS at hM ⊢
 rw[Array.toList_push,aZH,aZH,hM];rfl
theorem Fn.of_alloc{f:FuncId}{args:Array Value}{D:aC}{cs:List Value}{e:TypeId}{r:Nat→Value}{post:aC→Value→Prop}(hEF:EF P f)
  (h:∀w,eX D w→Calls P f args w fun en w'=>en=.returned (r w.heap.size)∧w'=w.alloc (.cells cs.toArray e (0,0))) (hp:∀D' b,Le D D'→At D' b 0 cs→post D' (r b)):Fn P f args D post:=by
 refine⟨hEF,fun w hw=>(h w hw).mono ?_⟩;rintro en w' ⟨he,rfl⟩;have hst:iD (hd w) w.heap.size D [] [] D w:=⟨aZL _,aZL _,(fun _ _ _=>rfl),(fun _ _=>rfl),hw,Yi,bAV,Yi,fun e he=>aZO he⟩
 obtain⟨D',hle,hb, -,hs⟩:=hst.pushD cs e;have hA:At D' w.heap.size 0 cs:=fun j v hv=>by rw[hb];simpa using hv
 exact⟨_,D',he,hs,hp D' _ hle hA⟩
namespace L12
open C12
def FD:List (ByteArray×Value):=[(⟨#[112,108,97,99,101]⟩,.agg #[qI 0,.func (.func 266) #[] #[]]),(⟨#[115,101,101,110]⟩,.agg #[qI 2,.func (.func 267) #[] #[]]),(⟨#[99,111,117,110,116]⟩,.agg #[qI 2,.func (.func 268) #[] #[]]),(⟨#[98,97,99,107]⟩,.agg #[qI 2,.func (.func 269) #[] #[]]),(⟨#[117,110,99,111,117,110,116]⟩,.agg #[qI 1,.func (.func 270) #[] #[]]),(⟨#[119,114,111,110,103]⟩,.agg #[qI 1,.func (.func 271) #[] #[]]),(⟨#[111,102,102]⟩,.agg #[qI 1,.func (.func 272) #[] #[]]),(⟨#[116,105,100,101]⟩,.agg #[qI 3,.func (.func 273) #[] #[]]),(⟨#[115,116,101,112]⟩,.agg #[qI 1,.func (.func 274) #[] #[]]),(⟨#[108,101,118,101,108]⟩,.agg #[qI 1,.func (.func 275) #[] #[]]),(⟨#[114,97,105,115,101]⟩,.agg #[qI 2,.func (.func 276) #[] #[]]),(⟨#[109,97,114,107]⟩,.agg #[qI 4,.func (.func 277) #[] #[]]),(⟨#[117,110,109,97,114,107]⟩,.agg #[qI 1,.func (.func 278) #[] #[]]),(⟨#[104,105,114,101]⟩,.agg #[qI 2,.func (.func 279) #[] #[]]),(⟨#[98,114,105,110,103]⟩,.agg #[qI 2,.func (.func 280) #[] #[]]),(⟨#[115,109,117,100,103,101]⟩,.agg #[qI 1,.func (.func 281) #[] #[]]),(⟨#[115,116,114,105,107,101]⟩,.agg #[qI 1,.func (.func 282) #[] #[]]),(⟨#[98,114,111,107,101,110]⟩,.agg #[qI 4,.func (.func 283) #[] #[]]),(⟨#[112,97,114,116]⟩,.agg #[qI 3,.func (.func 284) #[] #[]]),(⟨#[102,105,116]⟩,.agg #[qI 1,.func (.func 285) #[] #[]]),(⟨#[99,108,97,105,109]⟩,.agg #[qI 2,.func (.func 286) #[] #[]]),(⟨#[117,110,99,108,97,105,109]⟩,.agg #[qI 1,.func (.func 287) #[] #[]])]
theorem KY(D:aC):KZ prog 189 #[] D (fun _ v ν=>∃b es cl,v=.map (some b)∧ν=[(b,.map es cl)]∧YS es FD):=by
 refine pM 25 func189 rfl rfl rfl rfl fun h0=>aA<|Zg rfl<|aL<|vX rfl rfl bDY (fun qm=>?_)
 have hK:YS #[] []:=rfl;refine Zr [qI 0,.func (.func 266) #[] #[]] rfl fY eU rfl<|cG (A:=[]) (B:=[]) rfl U337 U9 rfl rfl rfl hK Yg bDY (fun es1 cl1 hM=>Zr [qI 2,.func (.func 267) #[] #[]] rfl fY eU rfl<|cG (A:=[]) (B:=[]) rfl U337 U9 rfl rfl rfl hM Yg bDY (fun es2 cl2 hN=>Zr [qI 2,.func (.func 268) #[] #[]] rfl fY eU rfl<|cG (A:=[]) (B:=[]) rfl U337 U9 rfl rfl rfl hN Yg bDY (fun es3 cl3 hO=>Zr [qI 2,.func (.func 269) #[] #[]] rfl fY eU rfl<|cG (A:=[]) (B:=[]) rfl U337 U9 rfl rfl rfl hO Yg bDY (fun es4 cl4 hR=>Zr [qI 1,.func (.func 270) #[] #[]] rfl fY eU rfl<|cG (A:=[]) (B:=[]) rfl U337 U9 rfl rfl rfl hR Yg bDY (fun es5 cl5 hS=>Zr [qI 1,.func (.func 271) #[] #[]] rfl fY eU rfl<|cG (A:=[]) (B:=[]) rfl U337 U9 rfl rfl rfl hS Yg bDY (fun es6 cl6 hX=>?_))))));refine Zr [qI 1,.func (.func 272) #[] #[]] rfl fY eU rfl<|cG (A:=[]) (B:=[]) rfl U337 U9 rfl rfl rfl hX Yg bDY (fun es7 cl7 hY=>Zr [qI 3,.func (.func 273) #[] #[]] rfl fY eU rfl<|cG (A:=[]) (B:=[]) rfl U337 U9 rfl rfl rfl hY Yg bDY (fun es8 cl8 rA=>Zr [qI 1,.func (.func 274) #[] #[]] rfl fY eU rfl<|cG (A:=[]) (B:=[]) rfl U337 U9 rfl rfl rfl rA Yg bDY (fun es9 cl9 rB=>Zr [qI 1,.func (.func 275) #[] #[]] rfl fY eU rfl<|cG (A:=[]) (B:=[]) rfl U337 U9 rfl rfl rfl rB Yg bDY (fun es10 cl10 G=>Zr [qI 2,.func (.func 276) #[] #[]] rfl fY eU rfl<|cG (A:=[]) (B:=[]) rfl U337 U9 rfl rfl rfl G Yg bDY (fun es11 cl11 I=>Zr [qI 4,.func (.func 277) #[] #[]] rfl fY eU rfl<|cG (A:=[]) (B:=[]) rfl U337 U9 rfl rfl rfl I Yg bDY (fun es12 cl12 M=>?_))))));refine Zr [qI 1,.func (.func 278) #[] #[]] rfl fY eU rfl<|cG (A:=[]) (B:=[]) rfl U337 U9 rfl rfl rfl M Yg bDY (fun es13 cl13 O=>Zr [qI 2,.func (.func 279) #[] #[]] rfl fY eU rfl<|cG (A:=[]) (B:=[]) rfl U337 U9 rfl rfl rfl O Yg bDY (fun es14 cl14 R=>Zr [qI 2,.func (.func 280) #[] #[]] rfl fY eU rfl<|cG (A:=[]) (B:=[]) rfl U337 U9 rfl rfl rfl R Yg bDY (fun es15 cl15 U=>Zr [qI 1,.func (.func 281) #[] #[]] rfl fY eU rfl<|cG (A:=[]) (B:=[]) rfl U337 U9 rfl rfl rfl U Yg bDY (fun es16 cl16 V=>Zr [qI 1,.func (.func 282) #[] #[]] rfl fY eU rfl<|cG (A:=[]) (B:=[]) rfl U337 U9 rfl rfl rfl V Yg bDY (fun es17 cl17 Y=>Zr [qI 4,.func (.func 283) #[] #[]] rfl fY eU rfl<|cG (A:=[]) (B:=[]) rfl U337 U9 rfl rfl rfl Y Yg bDY (fun es18 cl18 Z=>?_))))));refine Zr [qI 3,.func (.func 284) #[] #[]] rfl fY eU rfl<|cG (A:=[]) (B:=[]) rfl U337 U9 rfl rfl rfl Z Yg bDY (fun es19 cl19 hB=>Zr [qI 1,.func (.func 285) #[] #[]] rfl fY eU rfl<|cG (A:=[]) (B:=[]) rfl U337 U9 rfl rfl rfl hB Yg bDY (fun es20 cl20 hE=>Zr [qI 2,.func (.func 286) #[] #[]] rfl fY eU rfl<|cG (A:=[]) (B:=[]) rfl U337 U9 rfl rfl rfl hE Yg bDY (fun es21 cl21 hF=>Zr [qI 1,.func (.func 287) #[] #[]] rfl fY eU rfl<|cG (A:=[]) (B:=[]) rfl U337 U9 rfl rfl rfl hF Yg bDY (fun hH hI hJ=>Za rfl<|Zg rfl<|aG ?_))));exact aE rfl (fun D hD=>⟨qm,hH,hI,rfl,rfl,hJ⟩)
end L12
namespace C12
abbrev fZ:=aN→List Int→Except Int aN
def setRow(s:aN)(r:C1.dG):aN:={s with row:=r}
def setTable(s:aN)(t:C2.aY):aN:={s with table:=t}
def setBook(s:aN)(b:C3.bA):aN:={s with book:=b}
def setYard(s:aN)(y:C7.bC):aN:={s with yard:=y}
def LB(p:C7.Pt)(i:Nat)(v:Int):C7.Pt:=if i=0 then {p with a:=v}else if i=1 then {p with b:=v}else {p with c:=v}
def yU:fZ:=fun s _=>if 7≤(s.row.places.length:Int)then .error 3 else .ok (setRow s {s.row with places:=s.row.places++[2]})
def yQ:fZ:=fun s n=>match n with
 | [a,b]=>if(s.row.places.length:Int)≤a then .error 7 else if 2<b then .error 2 else .ok (setRow s {s.row with places:=s.row.places.set a.toNat b})
 |_=>.error 4
def oS(back:Bool):fZ:=fun s n=>match n with
 | [a,b]=>if(s.row.places.length:Int)<a∨9<b then .error 2 else if 6≤(s.row.counts.length:Int)then .error 3 else .ok (setRow s {s.row with counts:=s.row.counts++[⟨back,a,b⟩]})
 |_=>.error 4
def qU:fZ:=fun s n=>match n with
 | [a]=>if(s.row.counts.length:Int)≤a then .error 7 else .ok (setRow s {s.row with counts:=s.row.counts.eraseIdx a.toNat})
 |_=>.error 4
def xW:fZ:=fun s n=>match n with
 | [a]=>if 6<a then .error 2 else .ok (setRow s {s.row with wrong:=a})
 |_=>.error 4
def JG:fZ:=fun s n=>match n with
 | [a]=>if 9<a then .error 2 else .ok (setRow s {s.row with off:=a})
 |_=>.error 4
def xN:fZ:=fun s n=>match n with
 | [a,b,c]=>if(s.table.heights.length:Int)≤a then .error 7 else if c<b∨99<c∨b+2<c then .error 2 else .ok (setTable s {s.table with heights:=s.table.heights.set a.toNat (b,c)})
 |_=>.error 4
def W6:fZ:=fun s n=>match n with
 | [a]=>if 99<a then .error 2 else .ok (setTable s {s.table with step:=a})
 |_=>.error 4
def wF:fZ:=fun s n=>match n with
 | [a]=>if 99<a then .error 2 else if 6≤(s.table.levels.length:Int)then .error 3 else .ok (setTable s {s.table with levels:=s.table.levels++[a]})
 |_=>.error 4
def wW:fZ:=fun s n=>match n with
 | [a,b]=>if(s.table.levels.length:Int)≤a then .error 7 else if 99<b then .error 2 else .ok (setTable s {s.table with levels:=s.table.levels.set a.toNat b})
 |_=>.error 4
def yG:fZ:=fun s n=>match n with
 | [a,b,c,d]=>if(s.table.heights.length:Int)≤max a b then .error 7 else if b<a then .error 2 else if d<c∨99<d then .error 2 else if 5≤(s.table.marks.length:Int)then .error 3 else .ok (setTable s {s.table with marks:=s.table.marks++[⟨a,b,c,d⟩]})
 |_=>.error 4
def uJ:fZ:=fun s n=>match n with
 | [a]=>if(s.table.marks.length:Int)≤a then .error 7 else .ok (setTable s {s.table with marks:=s.table.marks.eraseIdx a.toNat})
 |_=>.error 4
def oU(kind:Int):fZ:=fun s n=>match n with
 | [a,b]=>if s.book.chairs≤max a b then .error 7 else if 8≤(s.book.lines.length:Int)then .error 3 else .ok (setBook s {s.book with lines:=s.book.lines++[⟨kind,a,b⟩]})
 |_=>.error 4
def rV:fZ:=fun s n=>match n with
 | [a]=>match s.book.lines[a.toNat]? with
  |none=>.error 7
  |some l=>if l.token= -1 then .error 6 else .ok (setBook s {s.book with lines:=s.book.lines.set a.toNat {l with token:= -1}})
 |_=>.error 4
def uD:fZ:=fun s n=>match n with
 | [a]=>if(s.book.lines.length:Int)≤a then .error 7 else .ok (setBook s {s.book with lines:=s.book.lines.eraseIdx a.toNat})
 |_=>.error 4
def rS:fZ:=fun s n=>match n with
 | [a,b,c,d]=>if 9<a∨2<max (max b c) d then .error 2 else if 5≤(s.yard.chairs.length:Int)then .error 3 else .ok (setYard s {s.yard with chairs:=s.yard.chairs++[⟨a,⟨b,c,d⟩⟩]})
 |_=>.error 4
def vM:fZ:=fun s n=>match n with
 | [a,b,c]=>match s.yard.chairs[a.toNat]? with
  |none=>.error 7
  |some x=>if 3≤b then .error 7 else if 2<c then .error 2 else .ok (setYard s {s.yard with chairs:=s.yard.chairs.set a.toNat {x with parts:=LB x.parts b.toNat c}})
 |_=>.error 4
def LO:fZ:=fun s n=>match n with
 | [a]=>if 9<a then .error 2 else .ok (setYard s {s.yard with fit:=a})
 |_=>.error 4
def xK:fZ:=fun s n=>match n with
 | [a,b]=>if b<a∨7<b then .error 2 else if 5≤(s.yard.claims.length:Int)then .error 3 else .ok (setYard s {s.yard with claims:=s.yard.claims++[(a,b)]})
 |_=>.error 4
def qQ:fZ:=fun s n=>match n with
 | [a]=>if(s.yard.claims.length:Int)≤a then .error 7 else .ok (setYard s {s.yard with claims:=s.yard.claims.eraseIdx a.toNat})
 |_=>.error 4
open Go.Lib
def lN:List UInt8→List (List UInt8)
 | []=>[[]]
 |b::l=>if b=32 then []::lN l else match lN l with
  | []=>[[b]]
  |p::ps=>(b::p)::ps
theorem aNB(l:List UInt8):lN l≠[]:=by
 cases l with
 |nil=>simp[lN]
 |cons b l=>unfold lN;split;simp;split<;>simp
theorem uZ:∀{l:List UInt8},(32:UInt8)∉l→lN l=[l]
 | [],_=>rfl
 |b::l,h=>by
  simp only[n4,not_or]at h;unfold lN;rw[aZB (fun e=>h.1 e.symm),uZ h.2]
theorem O3:∀{l:List UInt8} {i:Nat},l[i]?= some 32→(32:UInt8)∉l.take i→lN l=l.take i::lN (l.drop (i+1))
 | [],i,h,_=>by simp at h
 |b::l,0,h,_=>by
  obtain rfl:b=32:=by simpa using h
  simp[lN]
 |b::l,i+1,h,hn=>by
  simp only[List.take_succ_cons,n4,not_or]at hn;rw[lN,aZB (fun e=>hn.1 e.symm),O3 Yao hn.2];simp
theorem B1{l:List UInt8}{i:Nat}{c:UInt8}:occAt l [c] i=true ↔ l[i]?= some c:=by
 unfold occAt;by_cases h:i<l.length
 ·rw[bAM h,aYU h];simp only[List.isPrefixOf,Bool.and_true,bDR,bCU];exact eq_comm
 ·rw[aZZ Yd,bBX Yd];simp[List.isPrefixOf]
theorem LR:∀(n:Nat) (l:List UInt8),l.length≤n→splitK [32] 0 (count l [32]) l=lN l:=by
 intro n;induction n with
 |zero=>
  intro l hl;obtain rfl:l=[]:=bDL Yd;rfl
 |succ n ih=>
  intro l hl;rcases index_spec l [32]with⟨h1,h2⟩|⟨i,h1,h2,h3,h4⟩
  ·rw[count_miss h1];refine(uZ fun hm=>?_).symm;obtain⟨i,hi⟩:=bBW.1 hm;have:=h2 i (by have:=(aYV.1 hi).1;omega)
   rw[B1.2 hi]at this;cases this
  ·have hi:=B1.1 h3;rw[count_hit Ye h1,Nat.add_comm 1,splitK,aZB (by rw[h1];simp),h1]
   have hdl:(l.drop (i+1)).length≤n:=by
    have:=(aYV.1 hi).1;rw[bBT];omega
   simp only[bAK,Nat.add_zero,bCD];rw[ih _ hdl];refine(O3 hi fun hm=>?_).symm;obtain⟨j,hj⟩:=bBW.1 hm;have hjl:=(aYV.1 hj).1;rw[bBI]at hjl;rw[bBL Yd]at hj;have:=h4 j Yd;rw[B1.2 hj]at this;cases this
def zZ(l:List UInt8):ByteArray:=⟨l.toArray⟩
theorem yE(s:ByteArray):zZ s.data.toList=s:=Go.WideShapes.bytes_inj rfl
def eA(s:ByteArray):List ByteArray:=(lN s.data.toList).map zZ
theorem OW(s:ByteArray):splitB ⟨#[32]⟩ 0 (countB s ⟨#[32]⟩) s=eA s:=by
 have h:=splitB_data ⟨#[32]⟩ 0 (countB s ⟨#[32]⟩) s;have h2:splitK [32] 0 (count s.data.toList [32]) s.data.toList=lN s.data.toList:=LR _ _ (aZL _);have h3:(splitB ⟨#[32]⟩ 0 (countB s ⟨#[32]⟩) s).map (·.data.toList)=lN s.data.toList:=h.trans h2;unfold eA;rw[←h3,bDQ];refine(List.map_id _).symm.trans (bDX fun x _=>?_);exact(yE x).symm
theorem IR(s:ByteArray):countB s ⟨#[32]⟩+1=(eA s).length:=by
 have key:∀(n:Nat) (l:List UInt8),l.length≤n→count l [32]+1=(lN l).length:=by
  intro n;induction n with
  |zero=>intro l hl;obtain rfl:l=[]:=bDL Yd;rfl
  |succ n ih=>
   intro l hl;rcases index_spec l [32]with⟨h1,h2⟩|⟨i,h1,h2,h3,h4⟩
   ·rw[count_miss h1,uZ fun hm=>?_]
    ·rfl
    ·obtain⟨i,hi⟩:=bBW.1 hm;have:=h2 i (by have:=(aYV.1 hi).1;omega)
     rw[B1.2 hi]at this;cases this
   ·have hi:=B1.1 h3;have hdl:(l.drop (i+1)).length≤n:=by
     have:=(aYV.1 hi).1;rw[bBT];omega
    rw[O3 hi fun hm=>?_,aYW,←ih _ hdl,count_hit Ye h1]
    ·simp only[bCD];omega
    ·obtain⟨j,hj⟩:=bBW.1 hm;have hjl:=(aYV.1 hj).1;rw[bBI]at hjl;rw[bBL Yd]at hj;have:=h4 j Yd;rw[B1.2 hj]at this;cases this
 unfold eA;rw[bAY];exact key _ _ (aZL _)
theorem GD(l:List UInt8):(lN l).length≤l.length+1:=by
 induction l with
 |nil=>simp[lN]
 |cons b l ih=>
  unfold lN;split
  ·simp;omega
  ·split
   ·simp
   ·rename_i p ps e;rw[e]at ih;simpa using Nat.le_succ_of_le ih
theorem aCF{l p:List UInt8}(h:p∈lN l):p.length≤l.length:=by
 induction l generalizing p with
 |nil=>simp[lN]at h;subst h;simp
 |cons b l ih=>
  unfold lN at h;split at h
  ·rcases n4.1 h with rfl|h
   ·simp
   ·exact Nat.le_succ_of_le (ih h)
  ·split at h
   ·simp only[aZM]at h;subst h;simp
   ·rename_i q qs e;rcases n4.1 h with rfl|h
    ·have:=ih (p:=q) (by rw[e];simp);simpa using this
    ·exact Nat.le_succ_of_le (ih (by rw[e];exact n5 _ h))

def nY(l:List UInt8):Option Int:=if l.length≤3∧(l.head?≠some 48∨l.length=1)then(decNat l).map fun(n:Nat)=>(n:Int)else none
def aQS(l:List UInt8):Option Int:=match atoiAll l with
 |.ok v=>if 0≤v∧l.length≤3∧itoa v=l then some v else none
 |_=>none
theorem vA{b:UInt8}{d:Nat}(h:digitVal b=some d):d<10∧b=UInt8.ofNat (48+d):=by
 unfold digitVal at h;split at h
 ·cases h;refine⟨by omega,?_⟩;rw[show 48+(b.toNat-48)=b.toNat by omega];simp
 ·cases h
theorem DZ{a b:Nat}(ha:a<256)(hb:b<256)(h:UInt8.ofNat a=UInt8.ofNat b):a=b:=by
 have:=aYY UInt8.toNat h;simp only[UInt8.toNat_ofNat']at this;omega
theorem ZU{u:Nat}(h:u<10):decDigits u=[UInt8.ofNat (48+u)]:=by rw[decDigits,dif_pos h]
theorem aVC{u:Nat}(h:10≤u)(h2:u<100):decDigits u=[UInt8.ofNat (48+u / 10),UInt8.ofNat (48+u%10)]:=by rw[decDigits,dif_neg Yd,ZU Yd];rfl
theorem aYG{u:Nat}(h:100≤u)(h2:u<1000):decDigits u=[UInt8.ofNat (48+u / 10 / 10),UInt8.ofNat (48+u / 10%10),UInt8.ofNat (48+u%10)]:=by rw[decDigits,dif_neg Yd,aVC Yd Yd];rfl
theorem R4(u:Nat):itoa (u:Int)=decDigits u:=by unfold itoa;rw[aZB Yd,bAK]
theorem XR{u:Nat}{b:UInt8}(h:b∈decDigits u):48≤b.toNat∧b.toNat≤57:=by
 induction u using Nat.strongRecOn with
 |_ u ih=>
  by_cases hu:u<10
  ·rw[ZU hu]at h;simp only[aZM]at h;subst h
   simp only[UInt8.toNat_ofNat'];omega
  ·rw[decDigits,dif_neg hu,aZF,aZM]at h;rcases h with h|h
   ·exact ih _ Yd h
   ·subst h;simp only[UInt8.toNat_ofNat'];omega
theorem UC(l:List UInt8):aQS l=nY l:=by
 unfold aQS nY;by_cases hl:l.length≤3
 ·rw[atoiAll_short l Yd];match l,hl with
  | [],_=>rfl
  |b::r,hl=>
   have hat:atoi (b::r)=if(b==45)=true then(decNat r).map fun(m:Nat)=> -(m:Int)else if(b==43)=true then(decNat r).map fun(m:Nat)=>(m:Int)else(decNat (b::r)).map fun(m:Nat)=>(m:Int):=rfl
   rw[hat];by_cases G:b=45
   ·subst G;have hd:decNat (45::r)=none:=by unfold decNat decFrom digitVal;simp
    rw[hd];simp only[beq_self_eq_true,bAX,bBA,ite_self];cases decNat r with
    |none=>rfl
    |some m=>
     simp only[aZX,NumEnd.ofOption];rw[aZB];rintro⟨h1,h2,h3⟩;obtain rfl:m=0:=by omega
     have h4:itoa (-((0:Nat):Int))=[48]:=by rw[show(-((0:Nat):Int))=((0:Nat):Int) by omega,R4,ZU Yd];rfl
     rw[h4]at h3;simp at h3
   ·rw[aZB (by simpa using G)];by_cases I:b=43
    ·subst I;have hd:decNat (43::r)=none:=by unfold decNat decFrom digitVal;simp
     rw[hd];simp only[beq_self_eq_true,bAX,bBA,ite_self];cases decNat r with
     |none=>rfl
     |some m=>
      simp only[aZX,NumEnd.ofOption];rw[aZB];rintro⟨h1,h2,h3⟩;rw[R4]at h3;have:=XR (u:=m) (b:=43) (by rw[h3];simp)
      simp at this
    ·rw[aZB (by simpa using I)];have hnone:decNat (b::r)=none→_:=fun h=>h
     cases hd:decNat (b::r)with
     |none=>simp only[bBA,ite_self];rfl
     |some m=>
      simp only[aZX,NumEnd.ofOption];have key:(0≤(m:Int)∧(b::r).length≤3∧itoa (m:Int)=b::r) ↔ ((b::r).length≤3∧((b::r).head?≠some 48∨(b::r).length=1)):=by
       rw[R4];unfold decNat at hd;match r,hl with
       | [],_=>
        simp only[List.isEmpty_cons,bAE,bBH,decFrom]at hd;cases h1:digitVal b with
        |none=>rw[h1]at hd;cases hd
        |some d1=>
         rw[h1]at hd;simp only[bCU]at hd;obtain⟨M,rfl⟩:=vA h1;obtain rfl:d1=m:=by omega
         rw[ZU M];simp
       | [b2],_=>
        simp only[List.isEmpty_cons,bAE,bBH,decFrom]at hd;cases h1:digitVal b with
        |none=>rw[h1]at hd;cases hd
        |some d1=>
         cases h2:digitVal b2 with
         |none=>rw[h1,h2]at hd;cases hd
         |some d2=>
          rw[h1,h2]at hd;simp only[bCU]at hd;obtain⟨M,rfl⟩:=vA h1;obtain⟨O,rfl⟩:=vA h2;by_cases z:d1=0
          ·subst z;rw[ZU Yd];simp
          ·rw[aVC Yd Yd,show m / 10=d1 by omega,show m%10=d2 by omega];have:UInt8.ofNat d1≠0:=fun e=>z (DZ (a:=d1) (b:=0) Yd Yd e)
           simp[this]
       | [b2,R],_=>
        simp only[List.isEmpty_cons,bAE,bBH,decFrom]at hd;cases h1:digitVal b with
        |none=>rw[h1]at hd;cases hd
        |some d1=>
         cases h2:digitVal b2 with
         |none=>rw[h1,h2]at hd;cases hd
         |some d2=>
          cases h3:digitVal R with
          |none=>rw[h1,h2,h3]at hd;cases hd
          |some U=>
           rw[h1,h2,h3]at hd;simp only[bCU]at hd;obtain⟨M,rfl⟩:=vA h1;obtain⟨O,rfl⟩:=vA h2;obtain⟨V,rfl⟩:=vA h3;by_cases z:d1=0
           ·subst z;by_cases z2:m<10
            ·rw[ZU z2];simp
            ·rw[aVC Yd Yd];simp
           ·rw[aYG Yd Yd,show m / 10 / 10=d1 by omega,show m / 10%10=d2 by omega,show m%10=U by omega];have:UInt8.ofNat d1≠0:=fun e=>z (DZ (a:=d1) (b:=0) Yd Yd e)
            simp[this]
      by_cases hk:(b::r).length≤3∧((b::r).head?≠some 48∨(b::r).length=1)
      ·rw[aZK hk,aZK (key.2 hk)]
      ·rw[aZB hk,aZB (fun h=>hk (key.1 h))]
 ·rw[aZB (fun h=>hl h.1)];split
  ·rw[aZB (fun h=>hl h.2.1)]
  ·rfl
theorem SM{l:List UInt8}{n:Int}(h:nY l=some n):0≤n∧n≤999∧itoa n=l:=by
 have h2:=h;rw[←UC]at h2;unfold aQS at h2;split at h2
 ·split at h2
  ·rename_i v _ hc;cases h2;refine⟨hc.1,?_,hc.2.2⟩;by_cases hb:n≤999
   ·exact hb
   ·exfalso
    obtain⟨u,rfl⟩:∃u:Nat,n=(u:Int):=⟨n.toNat,by omega⟩
    have h3:=hc.2.2;rw[R4]at h3;have h4:4≤(decDigits u).length:=by
     rw[decDigits,dif_neg Yd,decDigits,dif_neg Yd,decDigits,dif_neg Yd,decDigits];split<;>simp
    rw[h3]at h4;omega
  ·cases h2
 ·cases h2

def jF:List (List UInt8×Nat×fZ):=[
 ([112,108,97,99,101],0,yU),
 ([115,101,101,110],2,yQ),
 ([99,111,117,110,116],2,oS false),
 ([98,97,99,107],2,oS true),
 ([117,110,99,111,117,110,116],1,qU),
 ([119,114,111,110,103],1,xW),
 ([111,102,102],1,JG),
 ([116,105,100,101],3,xN),
 ([115,116,101,112],1,W6),
 ([108,101,118,101,108],1,wF),
 ([114,97,105,115,101],2,wW),
 ([109,97,114,107],4,yG),
 ([117,110,109,97,114,107],1,uJ),
 ([104,105,114,101],2,oU 1),
 ([98,114,105,110,103],2,oU 2),
 ([115,109,117,100,103,101],1,rV),
 ([115,116,114,105,107,101],1,uD),
 ([98,114,111,107,101,110],4,rS),
 ([112,97,114,116],3,vM),
 ([102,105,116],1,LO),
 ([99,108,97,105,109],2,xK),
 ([117,110,99,108,97,105,109],1,qQ)]
def jK(line:ByteArray):Option (fZ×List Int):=
 match lN line.data.toList with
 | []=>none
 |p::ps=>match jF.find? (fun x=>x.1==p)with
  |none=>none
  |some (_,k,act)=>if ps.length=k then(ps.mapM nY).map fun n=>(act,n)else none

structure mN(s:aN):Prop where
 pl:s.row.places.length≤7
 ct:s.row.counts.length≤6
 ht:s.table.heights.length=4
 lev:s.table.levels.length≤6
 mks:s.table.marks.length≤5
 ln:s.book.lines.length≤8
 ch:s.yard.chairs.length≤5
 cl:s.yard.claims.length≤5
 bc:s.book.chairs=3
theorem mN.setRow{s:aN}(h:mN s){r:C1.dG}(h1:r.places.length≤7)(h2:r.counts.length≤6):mN (setRow s r):=⟨h1,h2,h.ht,h.lev,h.mks,h.ln,h.ch,h.cl,h.bc⟩
theorem mN.setTable{s:aN}(h:mN s){r:C2.aY}(h1:r.heights.length=4)(h2:r.levels.length≤6)(h3:r.marks.length≤5):mN (setTable s r):=⟨h.pl,h.ct,h1,h2,h3,h.ln,h.ch,h.cl,h.bc⟩
theorem mN.setBook{s:aN}(h:mN s){r:C3.bA}(h1:r.lines.length≤8)(h2:r.chairs=3):mN (setBook s r):=⟨h.pl,h.ct,h.ht,h.lev,h.mks,h1,h.ch,h.cl,h2⟩
theorem mN.setYard{s:aN}(h:mN s){r:C7.bC}(h1:r.chairs.length≤5)(h2:r.claims.length≤5):mN (setYard s r):=⟨h.pl,h.ct,h.ht,h.lev,h.mks,h.ln,h1,h2,h.bc⟩
def mY(f:fZ):Prop:=∀s n s',mN s→f s n=.ok s'→mN s'
theorem HR:mY yU:=by
 intro s n s' h e;unfold yU at e;have h1:=h.pl;have h2:=h.ct
 repeat' split at e
 all_goals cases e
 all_goals (refine h.setRow ?_ ?_<;>first|assumption|(simp<;>omega)|(simp only[bAI];split<;>omega))
theorem MZ:mY yQ:=by
 intro s n s' h e;unfold yQ at e;have h1:=h.pl;have h2:=h.ct
 repeat' split at e
 all_goals cases e
 all_goals (refine h.setRow ?_ ?_<;>first|assumption|(simp<;>omega)|(simp only[bAI];split<;>omega))
theorem K4(b:Bool):mY (oS b):=by
 intro s n s' h e;unfold oS at e;have h1:=h.pl;have h2:=h.ct
 repeat' split at e
 all_goals cases e
 all_goals (refine h.setRow ?_ ?_<;>first|assumption|(simp<;>omega)|(simp only[bAI];split<;>omega))
theorem AL:mY qU:=by
 intro s n s' h e;unfold qU at e;have h1:=h.pl;have h2:=h.ct
 repeat' split at e
 all_goals cases e
 all_goals (refine h.setRow ?_ ?_<;>first|assumption|(simp<;>omega)|(simp only[bAI];split<;>omega))
theorem HS:mY xW:=by
 intro s n s' h e;unfold xW at e;have h1:=h.pl;have h2:=h.ct
 repeat' split at e
 all_goals cases e
 all_goals (refine h.setRow ?_ ?_<;>first|assumption|(simp<;>omega)|(simp only[bAI];split<;>omega))
theorem OS:mY JG:=by
 intro s n s' h e;unfold JG at e;have h1:=h.pl;have h2:=h.ct
 repeat' split at e
 all_goals cases e
 all_goals (refine h.setRow ?_ ?_<;>first|assumption|(simp<;>omega)|(simp only[bAI];split<;>omega))
theorem JB:mY xN:=by
 intro s n s' h e;unfold xN at e;have h1:=h.ht;have h2:=h.lev;have h3:=h.mks
 repeat' split at e
 all_goals cases e
 all_goals (refine h.setTable ?_ ?_ ?_<;>first|assumption|(simp<;>omega)|(simp only[bAI];split<;>omega))
theorem LQ:mY W6:=by
 intro s n s' h e;unfold W6 at e;have h1:=h.ht;have h2:=h.lev;have h3:=h.mks
 repeat' split at e
 all_goals cases e
 all_goals (refine h.setTable ?_ ?_ ?_<;>first|assumption|(simp<;>omega)|(simp only[bAI];split<;>omega))
theorem HO:mY wF:=by
 intro s n s' h e;unfold wF at e;have h1:=h.ht;have h2:=h.lev;have h3:=h.mks
 repeat' split at e
 all_goals cases e
 all_goals (refine h.setTable ?_ ?_ ?_<;>first|assumption|(simp<;>omega)|(simp only[bAI];split<;>omega))
theorem GX:mY wW:=by
 intro s n s' h e;unfold wW at e;have h1:=h.ht;have h2:=h.lev;have h3:=h.mks
 repeat' split at e
 all_goals cases e
 all_goals (refine h.setTable ?_ ?_ ?_<;>first|assumption|(simp<;>omega)|(simp only[bAI];split<;>omega))
theorem MV:mY yG:=by
 intro s n s' h e;unfold yG at e;have h1:=h.ht;have h2:=h.lev;have h3:=h.mks
 repeat' split at e
 all_goals cases e
 all_goals (refine h.setTable ?_ ?_ ?_<;>first|assumption|(simp<;>omega)|(simp only[bAI];split<;>omega))
theorem AO:mY uJ:=by
 intro s n s' h e;unfold uJ at e;have h1:=h.ht;have h2:=h.lev;have h3:=h.mks
 repeat' split at e
 all_goals cases e
 all_goals (refine h.setTable ?_ ?_ ?_<;>first|assumption|(simp<;>omega)|(simp only[bAI];split<;>omega))
theorem Q2(k:Int):mY (oU k):=by
 intro s n s' h e;unfold oU at e;have h1:=h.ln;have h2:=h.bc
 repeat' split at e
 all_goals cases e
 all_goals (refine h.setBook ?_ ?_<;>first|assumption|(simp<;>omega)|(simp only[bAI];split<;>omega))
theorem BO:mY rV:=by
 intro s n s' h e;unfold rV at e;have h1:=h.ln;have h2:=h.bc
 repeat' split at e
 all_goals cases e
 all_goals (refine h.setBook ?_ ?_<;>first|assumption|(simp<;>omega)|(simp only[bAI];split<;>omega))
theorem BJ:mY uD:=by
 intro s n s' h e;unfold uD at e;have h1:=h.ln;have h2:=h.bc
 repeat' split at e
 all_goals cases e
 all_goals (refine h.setBook ?_ ?_<;>first|assumption|(simp<;>omega)|(simp only[bAI];split<;>omega))
theorem AT:mY rS:=by
 intro s n s' h e;unfold rS at e;have h1:=h.ch;have h2:=h.cl
 repeat' split at e
 all_goals cases e
 all_goals (refine h.setYard ?_ ?_<;>first|assumption|(simp<;>omega)|(simp only[bAI];split<;>omega))
theorem MC:mY vM:=by
 intro s n s' h e;unfold vM at e;have h1:=h.ch;have h2:=h.cl
 repeat' split at e
 all_goals cases e
 all_goals (refine h.setYard ?_ ?_<;>first|assumption|(simp<;>omega)|(simp only[bAI];split<;>omega))
theorem QF:mY LO:=by
 intro s n s' h e;unfold LO at e;have h1:=h.ch;have h2:=h.cl
 repeat' split at e
 all_goals cases e
 all_goals (refine h.setYard ?_ ?_<;>first|assumption|(simp<;>omega)|(simp only[bAI];split<;>omega))
theorem GM:mY xK:=by
 intro s n s' h e;unfold xK at e;have h1:=h.ch;have h2:=h.cl
 repeat' split at e
 all_goals cases e
 all_goals (refine h.setYard ?_ ?_<;>first|assumption|(simp<;>omega)|(simp only[bAI];split<;>omega))
theorem x4:mY qQ:=by
 intro s n s' h e;unfold qQ at e;have h1:=h.ch;have h2:=h.cl
 repeat' split at e
 all_goals cases e
 all_goals (refine h.setYard ?_ ?_<;>first|assumption|(simp<;>omega)|(simp only[bAI];split<;>omega))
theorem QU:∀x∈jF,mY x.2.2:=by
 intro x hx;simp only[jF,n4,n3,bBB]at hx;rcases hx with rfl|rfl|rfl|rfl|rfl|rfl|rfl|rfl|rfl|rfl|rfl|rfl|rfl|rfl|rfl|rfl|rfl|rfl|rfl|rfl|rfl|rfl
 ·exact HR
 ·exact MZ
 ·exact K4 false
 ·exact K4 true
 ·exact AL
 ·exact HS
 ·exact OS
 ·exact JB
 ·exact LQ
 ·exact HO
 ·exact GX
 ·exact MV
 ·exact AO
 ·exact Q2 1
 ·exact Q2 2
 ·exact BO
 ·exact BJ
 ·exact AT
 ·exact MC
 ·exact QF
 ·exact GM
 ·exact x4
end C12
abbrev Cx.push(X:Cx)(dd:Deferred):Cx:={X with ds:=dd::X.ds}
theorem aNF{c:Operand}{f:FuncId}{c1 c2:List Value}{ats:Array TypeId}(ho:all[ix]?= some ⟨none,.defer {callee:=.value c,args:=#[],argTypes:=ats},ty,pos,aft,g⟩)(hX:X.r=none)(hc:ev σ c=some (.func (.func f) c1.toArray c2.toArray))(hg:dE all σ g)
  (k:WL P (X.push ⟨.fn (.func f) c2.toArray,c1.toArray⟩) bad all K Q os σ μ Ds):WL P X bad all K Q ((false,ix)::os) σ μ Ds:=by
 intro a w hh;rw[xD ho];have hq:jW (Op.defer {callee:=.value c,args:=#[],argTypes:=ats})=false:=rfl;simp only[sY,hq,bAE,bBH];unfold I1;rw[aZK (hh.wanted hg)];refine⟨fun _ _=>trivial,?_⟩;have e:(Oper.semAt (FW X.r).round a.eval ⟨none,.defer {callee:=.value c,args:=#[],argTypes:=ats},ty,pos,aft,g⟩).run P w=.ok (.defer ⟨.fn (.func f) c2.toArray,c1.toArray⟩) w:=by
  rw[hX];show(Oper.semAt none a.eval _).run P w=_;rw[Oper.semAt_none];simp only[execOp,resolve,hh.eval hc,Deferred.ofValue,Array.map_empty,Array.append_empty];rfl
 rw[e];obtain⟨h1,h2,h3,D,h4,h5,G⟩:=hh;exact⟨fun h=>(by simp at h),k _ _ ⟨h1,h2,by simp[Act.put,h3],D,h4,h5,G⟩⟩
theorem aST{f:FuncId}{fn:Func}{c:Code}{args:List Value}{D:aC}{post:aC→Value→Prop}(N:Nat)(hf:P.funcs[f]?= some fn)(hn:(fn.name== "runtime.NumGoroutine")=false)(hb:fn.body=some c)(hN:fn.ntmps=N)(hsz:Nat.ble args.length N=true)
  (h:∀h0:H0,WC P ⟨none,N,[],h0,h0.size,D,[],none⟩ (bodyPostDIn (FW none) 0 P fn (pL ⟨none,N,[],h0,h0.size,D,[],none⟩ fun D' v _=>post D' v)) c (iS 0 args) [] [D]):Fn P f args.toArray D post:=by
 refine⟨EF.of hf hn hb,fun w hw=>?_⟩;subst hN;have hsz:=bAZ hsz;refine(dP (r:=none) (n:=0)).1 ((callsIn_of_wp_defers (R:=pL ⟨none,fn.ntmps,[],hd w,w.heap.size,D,[],none⟩ fun D' v _=>post D' v) hf hb bDY (h (hd w) _ w ⟨?_,fun s v hs=>?_,rfl,D,⟨aZL _,aZL _,fun _ _ _=>rfl,fun _ _=>rfl,hw,Yi,bAV,Yi,fun e he=>aZO he⟩,fun D₁ h1=>?_,bDY⟩) rfl).mono ?_)
 ·simp;omega
 ·obtain⟨_,h2⟩:=fQ args 0 s v hs;have hl:=(aYV.1 h2).1;simp only[bCM]at h2 hl;show(args.toArray++_)[s]?= some v;rw[bBD Yan];simpa using h2
 ·simp only[aZM]at h1;subst h1;exact Le.refl _
 ·rintro e w' ⟨v,D',μ',rfl,hs,hp⟩;exact⟨v,D',rfl,hs.sub (by intro p hp;cases hp) bAV,hp⟩
def EO(P:Program)(f:FuncId)(args:List Value)(D:aC)(ν:aD)(u u2:FrameMode)(post:aC→aD→Prop):Prop:=
 EF P f∧∀w,eX D w→(∀p∈ν,w.heap[p.1]?= some p.2∧D p.1=[]∧dB p.2)→ν.ks.Nodup→CallsDIn (FW none) 0 P f args.toArray u w fun e u' w'=>∃v D' ν',e=.returned v∧u'=u2∧iD (hd w) w.heap.size D ν.ks ν' D' w'∧post D' ν'
theorem VT{fn:Func}{post:aC→Value→aD→Prop}{dpost:aC→aD→Prop}{A B ν:aD}{f:FuncId}{c1 c2:List Value}{u u2:FrameMode}{rs:List ResultVar}(hu:u≠.run)(hds:X.ds=[⟨.fn (.func f) c2.toArray,c1.toArray⟩])(hex:X.ex=none)(hun:∀p∈ν,dB p.2)
  (hf:∀D,(∀D₁∈Ds,Le D₁ D)→EO P f (c1++c2) D ν u u2 dpost) (hst:settle u2=.returning) (hr:fn.results=rs.toArray)
  (h:∀D ν',(∀D₁∈Ds,Le D₁ D)→dpost D ν'→∃vs,xT P X σ (A++ν'++B) rs vs∧post D (qE vs) (A++ν'++B)):∀a w,Hl X σ (A++ν++B) Ds a w→LeavesIn (FW none) 0 P fn a.tmps (pL X post) a.defers u w:=by
 intro a w hh;obtain⟨h1,h2,h3,D,h4,h5,G⟩:=id hh;rw[h3,hds];have hF:=hf D h5;have hbx:∀p∈ν,_:=fun p hp=>h4.box p (aYX _ (GE _ hp))
 have hnd:=h4.nd;simp only[aZH]at hnd;refine leavesIn_cons hu (fun hh=>by simp[FW]at hh) (f:=f) (args:=(c1++c2).toArray) ?_ (fun _ _=>trivial) ?_
 ·show(callFunc f (c1.toArray++c2.toArray)).run P w=_;rw[hF.1];simp
 ·refine(hF.2 w h4.agr (fun p hp=>⟨(hbx p hp).1,(hbx p hp).2.1,hun p hp⟩) (aZC.1 (aZC.1 hnd).1).2.1).mono ?_;rintro e u' w' ⟨v,D',ν',rfl,rfl,hs,hp⟩;have hle:=gH h4.agr hs;have h5':∀D₁∈Ds,Le D₁ D':=fun D₁ hD₁=>(h5 D₁ hD₁).trans hle
  obtain⟨vs,hv,hpost⟩:=h D' ν' h5' hp;have hh':Hl X σ (A++ν'++B) Ds a w':=⟨h1,h2,h3,D',h4.afterG hs,h5',by unfold C4;rw[hex];trivial⟩
  show LeavesIn (FW none) 0 P fn a.tmps (pL X post) [] (settle u') w';rw[hst];exact⟨_,iK hh' hr hv,_,D',_,rfl,h4.afterG hs,hpost⟩
theorem aSV{fn:Func}{post:aC→Value→aD→Prop}{dpost:aC→aD→Prop}{A B ν:aD}{f:FuncId}{c1 c2:List Value}{rs:List ResultVar}{e:Exit}(he:(match e with|.normal=>true|.ret=>true|_=>false)=true)(hds:X.ds=[⟨.fn (.func f) c2.toArray,c1.toArray⟩])(hex:X.ex=none)(hun:∀p∈ν,dB p.2)
  (hf:∀D,(∀D₁∈Ds,Le D₁ D)→EO P f (c1++c2) D ν .returning .returning dpost) (hr:fn.results=rs.toArray)
  (h:∀D ν',(∀D₁∈Ds,Le D₁ D)→dpost D ν'→∃vs,xT P X σ (A++ν'++B) rs vs∧post D (qE vs) (A++ν'++B)):∀a w,Hl X σ (A++ν++B) Ds a w→bodyPostDIn (FW none) 0 P fn (pL X post) e a w:=by
 intro a w hh;have:=VT (u:=.returning) (u2:=.returning) Ye hds hex hun hf rfl hr h a w hh;cases e<;>first|exact this|cases he
theorem FQ{fn:Func}{post:aC→Value→aD→Prop}{dpost:aC→aD→Prop}{A B ν:aD}{f:FuncId}{c1 c2:List Value}{rs:List ResultVar}{v:Value}(hds:X.ds=[⟨.fn (.func f) c2.toArray,c1.toArray⟩])(hex:X.ex=none)(hun:∀p∈ν,dB p.2)
  (hf:∀D,(∀D₁∈Ds,Le D₁ D)→EO P f (c1++c2) D ν (.panicking (oC v)) (.panicking [{v,recovered:=true}]) dpost) (hr:fn.results=rs.toArray)
  (h:∀D ν',(∀D₁∈Ds,Le D₁ D)→dpost D ν'→∃vs,xT P X σ (A++ν'++B) rs vs∧post D (qE vs) (A++ν'++B)):∀a w,Hl X σ (A++ν++B) Ds a w→bodyPostDIn (FW none) 0 P fn (pL X post) (.panic (oC v)) a w:=
 fun a w hh=>VT Ye hds hex hun hf rfl hr h a w hh
theorem aJT{f:FuncId}{fn:Func}{id t:Nat}{y:Code}{args:List Value}{D:aC}{ν:aD}{u u2:FrameMode}{rv:Value}{dpost:aC→aD→Prop}{ats:Array TypeId}(N:Nat)(hf:P.funcs[f]?= some fn)(hn:(fn.name== "runtime.NumGoroutine")=false)
  (hb:fn.body=some (.seq (.region id #[⟨some t,.call {callee:=.builtin .recover,args:=#[],argTypes:=ats},ty,pos,aft,none⟩] false) y)) (hN:fn.ntmps=N) (hsz:Nat.ble args.length N=true) (ht:Nat.blt t N=true)
  (hrec:∀(c₀:Frame) (cs:List Frame),c₀.mode=u→(recoverD (c₀::cs)=some (rv,{c₀ with mode:=u2}::cs))∨(recoverD (c₀::cs)=none∧rv=.nilIface∧u2=u))
  (h:∀h0:H0,(∀p∈ν,p.1<h0.size)→ν.ks.Nodup→WC P (qR N h0 D ν.ks) (bodyPost P fn (m6 (qR N h0 D ν.ks) (fun D' _ ν'=>dpost D' ν') (fun _=>False))) y ((t,rv)::iS 0 args) ν [D]):EO P f args D ν u u2 dpost:=by
 refine⟨EF.of hf hn hb,fun w hw hν hnd=>?_⟩;subst hN;have hsz:=bAZ hsz;refine callsDIn_of_wpSIn hf hb bDY fun c₀ cs hm=>?_
 have hcs:({c₀ with mode:=u}:Frame)=c₀:=by subst hm;rfl
 have hH:Hl (qR fn.ntmps (hd w) D ν.ks) (iS 0 args) ν [D] {tmps:=args.toArray++Array.replicate (fn.ntmps-args.toArray.size) undef,defers:=[]} w:=by
  refine⟨?_,fun s v hs=>?_,rfl,D,⟨aZL _,aZL _,fun _ _ _=>rfl,fun _ _=>rfl,hw,(fun p hp=>?_),hnd,(fun p hp=>(hν p hp).2.2),fun e he=>aZO he⟩,fun D₁ h1=>?_,bDY⟩
  ·simp[qR];omega
  ·obtain⟨_,h2⟩:=fQ args 0 s v hs;have hl:=(aYV.1 h2).1;simp only[bCM]at h2 hl;show(args.toArray++_)[s]?= some v;rw[bBD Yan];simpa using h2
  ·exact⟨(hν p hp).1,(hν p hp).2.1,aYZ (GT.2 ⟨p,hp,rfl⟩)⟩
  ·simp only[aZM]at h1;subst h1;exact Le.refl _
 have key:=h (hd w) (fun p hp=>bH (hν p hp).1) hnd _ w (hH.put ht rv);refine wpSIn_seq (wpSIn_region ?_);have hex:∀ρ:Operand→Value,(execOp ρ ⟨some t,.call {callee:=.builtin .recover,args:=#[],argTypes:=ats},ty,pos,aft,none⟩).run P w=.ok .recover w:=fun ρ=>by
  simp only[execOp,resolve,Array.map_empty];rfl
 have fin:∀cs',cs'=({c₀ with mode:=u2}:Frame)::cs→(y.wpSIn (FW none) 0 P (bodyPostS P fn c₀ cs fun e u' w'=>∃v D' ν',e=.returned v∧u'=u2∧iD (hd w) w.heap.size D ν.ks ν' D' w'∧dpost D' ν')
   (Act.put {tmps:=args.toArray++Array.replicate (fn.ntmps-args.toArray.size) undef,defers:=[]} (some t) rv) cs' w):=by
  rintro cs' rfl;refine wpSIn_of_wpIn rfl (wpIn_mono key fun e a w' hq=>?_);cases e with
  |normal|ret=>
   obtain⟨hd',v,hr,hR⟩:=hq;rcases hR with⟨v',D',ν',he,hs,hp⟩|⟨_,_,_,_,hp⟩
   ·exact⟨hd',u2,rfl,v,hr,v',D',ν',he,rfl,hs,hp⟩
   ·exact hp.elim
  |panic ch=>
   obtain⟨hd',hR⟩:=hq;rcases hR with⟨v',D',ν',he,hs,hp⟩|⟨_,_,_,_,hp⟩
   ·cases he
   ·exact hp.elim
  |outgrown=>
   rcases hq with⟨v',D',ν',he,hs,hp⟩|⟨_,_,_,_,hp⟩
   ·cases he
   ·exact hp.elim
  |exit=>exact hq.elim
  |goto=>exact hq.elim
 show wpOpsSIn (FW none) 0 P _ _ [0] _ _ _;simp only[wpOpsSIn,List.getElem?_toArray,List.getElem?_cons_zero];refine⟨fun _ _=>trivial,?_⟩;rw[aZK Yax,hex];rcases hrec c₀ cs hm with hr|⟨hr,rfl,rfl⟩
 ·simp only[hr];exact fin _ rfl
 ·simp only[hr];exact fin _ (by rw[hcs])
theorem aJN{c₀:Frame}{cs:List Frame}(hm:c₀.mode=.returning):recoverD (c₀::cs)=none:=by simp[recoverD,hm]
theorem aHW{c₀:Frame}{cs:List Frame}{v:Value}(hm:c₀.mode=.panicking (oC v)):recoverD (c₀::cs)=some (v,{c₀ with mode:=.panicking [{v,recovered:=true}]}::cs):=by simp[recoverD,hm,oC]
theorem lH.reorder{f:FuncId}{args:List Value}{D:aC}{ν ν2:aD}{post post':aC→Value→aD→Prop}{pan pan':Value→Prop}(h:lH P f args D ν post pan)(hp:ν.Perm ν2)(h1:∀D' v ν',Le D D'→post D' v ν'→∃ν'',ν''.Perm ν'∧post' D' v ν'')(h2:∀v,pan v→pan' v):lH P f args D ν2 post' pan':=by
 refine⟨h.1,fun w hw hν hn=>(h.2 w hw (fun p hp'=>hν p (hp.mem_iff.1 hp')) ((hp.map (·.1)).nodup_iff.2 hn)).mono ?_⟩;have hk:∀b,b∉ν2.ks→b∉ν.ks:=fun b hb hm=>hb ((hp.map (·.1)).mem_iff.1 hm)
 rintro e w' (⟨v,D',ν',he,hs,hpost⟩|⟨v,D',he,hs,hpan⟩)
 ·obtain⟨ν'',hq,hpost'⟩:=h1 D' v ν' (gH hw hs) hpost;refine aZE ⟨v,D',ν'',he,⟨hs.hlo,hs.size,fun b hb hm=>hs.old b hb (hk b hm),hs.dold,hs.agr,fun p hp'=>?_,(hq.map (·.1)).nodup_iff.2 hs.nd,fun p hp'=>hs.fz p (hq.mem_iff.1 hp'),hs.env⟩,hpost'⟩;obtain⟨G,I,M⟩:=hs.box p (hq.mem_iff.1 hp');exact⟨G,I,M.imp id fun hm=>(hp.map (·.1)).mem_iff.1 hm⟩
 ·exact aYZ ⟨v,D',he,⟨hs.hlo,hs.size,fun b hb hm=>hs.old b hb (hk b hm),hs.dold,hs.agr,(fun p hp'=>by cases hp'),bAV,(fun p hp'=>by cases hp'),hs.env⟩,h2 v hpan⟩
theorem mQ{G I:aD}(h:∀ [BEq (Nat×Obj)] [LawfulBEq (Nat×Obj)] (a:Nat×Obj),G.count a=I.count a):G.Perm I:=by
 classical
 exact List.perm_iff_count.2 fun a=>h a
def aYI(Q:Exit→Act→World→Prop):Exit→Act→World→Prop:=fun e a w=>match e with
 |.panic _=>False
 |e=>Q e a w
theorem aUX:NP (aYI Q):=fun _ _ _ h=>h
theorem XP{c:Code}(h:WC P X (aYI Q) c σ μ Ds):WC P X Q c σ μ Ds:=fun a w hh=>wpIn_mono (h a w hh) (fun e a w hq=>by cases e<;>first|exact hq|exact hq.elim)
theorem aNU{y:Code}(h:WC P X Q y σ μ Ds):∀a w,Hl X σ μ Ds a w→aYI (Exit.then (y.wpIn (FW X.r) 0 P Q) Q) .normal a w:=h
theorem ZT(a b:ByteArray):(a.toList==b.toList)=decide (a=b):=by
 rw[bCG];simp only[bDR,aZI];rw[ByteArray.toList_eq,ByteArray.toList_eq];exact⟨fun h=>Go.WideShapes.bytes_inj h,fun h=>by rw[h]⟩
theorem kS{t t':TypeId}{a b:ByteArray}(ho:all[ix]?= some ⟨some d,.binOp .add t x y t',ty,pos,aft,g⟩)(hx:ev σ x=some (.string a))(hy:ev σ y=some (.string b))(hl:a.size+b.size≤9223372036854775807)(hN:Nat.blt d X.N=true)(hg:dE all σ g)
  (kk:WL P X bad all K Q os ((d,.string (a++b))::σ) μ Ds):WL P X bad all K Q ((fl,ix)::os) σ μ Ds:=
 bQ ho rfl rfl hN hg (fun ρ hρ w'=>by
  have:((do eqGuard .add t x y (.string a) (.string b);binOp .add t (.string a) (.string b)):Sem Value).run P w'=.ok (.string (a++b)) w':=by
   rw[Sem.run_bind];have h1:(eqGuard .add t x y (.string a) (.string b)).run P w'=.ok () w':=rfl;rw[h1];show(binOp .add t (.string a) (.string b)).run P w'=_;rw[binOp_string_add];exact run_string_add_sum _ a b hl
  simp only[execOp,hρ x _ hx,hρ y _ hy];rw[Sem.run_bind,this];rfl) kk
theorem cN{t t':TypeId}{a b:ByteArray}(ho:all[ix]?= some ⟨some d,.binOp .eql t x y t',ty,pos,aft,g⟩)(hx:ev σ x=some (.string a))(hy:ev σ y=some (.string b))(hN:Nat.blt d X.N=true)(hg:dE all σ g)
  (kk:WL P X bad all K Q os ((d,.bool (decide (a=b)))::σ) μ Ds):WL P X bad all K Q ((fl,ix)::os) σ μ Ds:=
 J9 ho (fun w=>by
  rw[Sem.run_bind];have h1:(eqGuard .eql t x y (.string a) (.string b)).run P w=.ok () w:=rfl;rw[h1,←ZT];show(binOp .eql t (.string a) (.string b)).run P w=_;rw[binOp_string_eql];rfl) hx hy hN hg kk
theorem pU{t:TypeId}{s:ByteArray}{k:IntKind}{i:Int}{c:UInt8}(ho:all[ix]?= some ⟨some d,.index t x y,ty,pos,aft,g⟩)(ht:P.underlying t=some .string)(hx:ev σ x=some (.string s))(hy:ev σ y=some (.int k i))(h0:0≤i)(hc:s[i.toNat]?= some c)(hN:Nat.blt d X.N=true)(hg:dE all σ g)
  (kk:WL P X bad all K Q os ((d,.int .u8 c.toNat)::σ) μ Ds):WL P X bad all K Q ((fl,ix)::os) σ μ Ds:=
 bQ ho rfl rfl hN hg (fun ρ hρ w'=>by
  simp only[execOp,hρ x _ hx,hρ y _ hy];unfold Instr.index asIntOf;simp only[Sem.run_bind,TU.of ht w',Result.andThen_ok,Sem.run_pure,pure_bind,h0,bAX,hc]) kk
theorem QV{t:TypeId}{s:ByteArray}{G I:IntKind}{i j:Int}(ho:all[ix]?= some ⟨some d,.slice t x (some y) (some z) none,ty,pos,aft,g⟩)(ht:P.underlying t=some .string)(hx:ev σ x=some (.string s))(hy:ev σ y=some (.int G i))(hz:ev σ z=some (.int I j))(h0:0≤i)(h1:i≤j)(h2:j≤(s.size:Int))(hN:Nat.blt d X.N=true)(hg:dE all σ g)
  (kk:WL P X bad all K Q os ((d,.string (s.extract i.toNat j.toNat))::σ) μ Ds):WL P X bad all K Q ((fl,ix)::os) σ μ Ds:=
 bQ ho rfl rfl hN hg (fun ρ hρ w'=>by
  simp only[execOp,hρ x _ hx,hρ y _ hy,hρ z _ hz,bBA,aZX];unfold Instr.sliceAt Instr.slice Instr.sliceBounds Instr.sliceBound asIntOf;have M:0≤i∧i≤((j.toNat:Nat):Int):=by omega
  have a2:0≤j∧j≤(s.size:Int):=by omega
  simp only[Sem.run_bind,TU.of ht w',Result.andThen_ok,Sem.run_pure,pure_bind,M,a2,bDO,bAX,Option.isSome_none,bAE,bBH]) kk
theorem NT{t:TypeId}{s:ByteArray}{G:IntKind}{i:Int}(ho:all[ix]?= some ⟨some d,.slice t x (some y) none none,ty,pos,aft,g⟩)(ht:P.underlying t=some .string)(hx:ev σ x=some (.string s))(hy:ev σ y=some (.int G i))(h0:0≤i)(h2:i≤(s.size:Int))(hN:Nat.blt d X.N=true)(hg:dE all σ g)
  (kk:WL P X bad all K Q os ((d,.string (s.extract i.toNat s.size))::σ) μ Ds):WL P X bad all K Q ((fl,ix)::os) σ μ Ds:=
 bQ ho rfl rfl hN hg (fun ρ hρ w'=>by
  simp only[execOp,hρ x _ hx,hρ y _ hy,bBA,aZX];unfold Instr.sliceAt Instr.slice Instr.sliceBounds Instr.sliceBound asIntOf;have I:0≤i∧i≤((s.size:Nat):Int):=by omega
  simp only[Sem.run_bind,TU.of ht w',Result.andThen_ok,Sem.run_pure,pure_bind,I,bDO,bAX,Option.isSome_none,bAE,bBH]) kk
def aBG:Value→Bool
 |.nilIface=>true
 |_=>false
theorem SD{t t':TypeId}{c:Value}{ms:Array (String×TypeId)}(ho:all[ix]?= some ⟨some d,.binOp .eql t x (.const .nilIface) t',ty,pos,aft,g⟩)(ht:P.underlying t=some (.interface ms))(hx:ev σ x=some c)(hc:c=.nilIface∨∃t u,c=.iface t u)(hN:Nat.blt d X.N=true)(hg:dE all σ g)
  (kk:WL P X bad all K Q os ((d,.bool (aBG c))::σ) μ Ds):WL P X bad all K Q ((fl,ix)::os) σ μ Ds:=
 J9 ho (fun w=>by
  have h1:(eqGuard .eql t x (.const .nilIface) c .nilIface).run P w=.ok () w:=by
   rcases hc with rfl|⟨_,_,rfl⟩
   ·simp only[eqGuard];cases x<;>rfl
   ·rfl
  have h2:(Op.equal t c .nilIface).run P w=.ok (aBG c) w:=by
   show(Op.equalIn (9999+1) t c .nilIface).run P w=_;rw[Op.equalIn,Sem.run_bind,TU.of ht w];rcases hc with rfl|⟨_,_,rfl⟩<;>rfl
  rw[Sem.run_bind,h1];have h3:(binOp .eql t c .nilIface).run P w=((do Pure.pure (Value.bool (←Op.equal t c .nilIface))):Sem Value).run P w:=by rcases hc with rfl|⟨_,_,rfl⟩<;>rfl
  show(binOp .eql t c .nilIface).run P w=_;rw[h3,Sem.run_bind,h2];rfl) hx rfl hN hg kk
theorem aAB{t t':TypeId}{fs:Array Field}(ho:all[ix]?= some ⟨some d,.typeAssert x t' t true,ty,pos,aft,g⟩)(ht:P.underlying t=some (.struct fs))(hx:ev σ x=some (.iface t v))(hN:Nat.blt d X.N=true)(hg:dE all σ g)
  (kk:WL P X bad all K Q os ((d,.tuple #[v,.bool true])::σ) μ Ds):WL P X bad all K Q ((fl,ix)::os) σ μ Ds:=
 bQ ho rfl rfl hN hg (fun ρ hρ w'=>by
  simp only[execOp,hρ x _ hx];unfold Instr.typeAssert;simp only[Sem.run_bind,TU.of ht w',Result.andThen_ok,bAX,Sem.run_pure]) kk

theorem Fn.of_below{f:FuncId}{args:Array Value}{D:aC}{post:aC→Value→Prop}(hEF:EF P f)(h:∀w,eX D w→Calls P f args w fun en w'=>∃r,en=.returned r∧Go.RowKit.Below w.heap.size w w'∧∀D',Le D D'→post D' r):Fn P f args D post:=by
 refine⟨hEF,fun w hw=>(h w hw).mono ?_⟩;rintro en w' ⟨r,he,hb,hp⟩;refine⟨r,D,he,⟨aZL _,hb.size,fun b hl _=>hb.block b hl,fun _ _=>rfl,hw.of (fun b hb'=>?_) rfl (hb.block 0 hw.pos),Yi,bAV,Yi,fun e he=>by rw[←aZO he];exact Prod.ext hb.os hb.output⟩,hp D (Le.refl _)⟩
 obtain⟨cs,e,fz,h1,h2⟩:=hw.1 b hb';exact⟨cs,e,fz,by rw[hb.block b (bH h1)];exact h1,h2⟩
theorem CN{α:Type}{R:Rd α}{t e:TypeId}{D₁:aC}{ad:Option Addr}{n cap j:Nat}{k:IntKind}{xs:List α}(ho:all[ix]?= some ⟨some d,.slice t x (some y) none none,ty,pos,aft,g⟩)(ht:P.underlying t=some (.slice e))(hs:TS P e 1)(hx:ev σ x=some (.slice ad n cap))(hS:Sl D₁ R 1 (.slice ad n cap) xs)(hy:ev σ y=some (.int k (j:Int)))(hj:j≤n)
  (hN:Nat.blt d X.N=true) (hg:dE all σ g) (kk:∀a',Sl D₁ R 1 (.slice a' (n-j) (cap-j)) (xs.drop j)→WL P X bad all K Q os ((d,.slice a' (n-j) (cap-j))::σ) μ Ds):WL P X bad all K Q ((fl,ix)::os) σ μ Ds:=by
 obtain⟨a,c,hv,h1,h2,h3⟩:=hS;cases hv;refine bQ (v:=.slice (if cap=j then ad else ad.map (·.add (j*1))) (xs.length-j) (cap-j)) ho rfl rfl hN hg (fun ρ hρ w'=>?_) (kk _ ⟨_,_,by rw[bBT],by rw[bBT];omega,by rw[bBT];omega,?_⟩)
 ·simp only[execOp,bBA,aZX,hρ x _ hx,hρ y _ hy];unfold Instr.sliceAt Instr.slice Instr.sliceBounds Instr.sliceBound asIntOf;have hle:(0:Int)≤(j:Int)∧(j:Int)≤(xs.length:Nat):=by omega
  simp only[Sem.run_bind,TU.of ht w',Result.andThen_ok,Sem.run_pure,pure_bind,hs w',hle,bDO,bAX,bAK]
 ·by_cases he:xs.length=j
  ·exact aZE (aZZ Yd)
  ·rcases h3 with h3|⟨b,o,rfl,h3⟩
   ·subst h3;simp at he hj;omega
   ·refine aYZ ⟨b,o+j,by rw[aZB Yd];simp[gF],fun i z hi=>?_⟩;rw[bBJ]at hi;obtain⟨cs,hr,hc,hA⟩:=h3 _ _ hi;exact⟨cs,hr,hc,by rw[show o+j+i*1=o+(j+i)*1 by omega];exact hA⟩
end Go.Fs
