/- Of the proof of TopEntered: BW18, BW19, BW20, BW21, Bytes, BW22, BW23, File, BW24, Copy, BW25, Eq8, BW26, BW28, Lit. -/
import Derived.Test.YthchgbimdmiemaaGreatDoorZTopEnteredAI
import Derived.Lib.AppendStr
import Derived.Lib.UnsafeStr
import Derived.Lib.Builder
import Derived.Laws.Externs
import Derived.Test.YthchgbimdmiemaaGreatDoorZTopEnteredAH
import Derived.Test.YthchgbimdmiemaaGreatDoorZTopEnteredAE
import Derived.Laws.IdiomStrings
namespace Go.Fs
open Go.Proofs
namespace L12
open C12
def vN(D:aA)(wb:Nat)(s:aK)(ν:aB):Prop:=∃pv cv hv lv mv bl bc yc yq ν1 ν2 ν3 ν4 ν5 ν6 ν7 ν8,ν=(wb,.cells (bG s pv cv hv lv mv bl bc yc yq).toArray 236 (0,0))::(ν8++(ν7++(ν6++(ν5++(ν4++(ν3++(ν2++ν1)))))))∧SN D s pv cv hv lv mv bl bc yc yq ν1 ν2 ν3 ν4 ν5 ν6 ν7 ν8
def eC(P:Program)(f:FuncId)(k:Nat)(act:eJ):Prop:=∀(wb:Nat) (s:aK) (nv:Value) (n:List Int) (ν:aB) (D:aA),Sl D RI 1 nv n→n.length=k→(∀x∈n,0≤x∧x≤999)→vN D wb s ν→sC s→
 iL P f [.pointer (some ⟨wb,0,none⟩),nv] D ν (fun D' _ ν'=>∃s',act s n=.ok s'∧vN D' wb s' ν') (fun v=>∃c,act s n=.error c∧v=dE c)
theorem _root_.Go.Fs.iL.frameE{P:Program}{f:FuncId}{args:List Value}{D:aA}{ν A B:aB}{post:aA→Value→aB→Prop}{pan:Value→Prop}(h:iL P f args D ν post pan):iL P f args D (A++ν++B) (fun D' v ν'=>∃ν0,post D' v ν0∧ν'=A++ν0++B) pan:=h.frame fun _ _ ν' _ hp=>⟨ν',hp,rfl⟩
theorem zI{l:List Int}(h:l.length=1):∃a,l=[a]:=by match l,h with| [a],_=>exact⟨a,rfl⟩
theorem b9{l:List Int}(h:l.length=2):∃a b,l=[a,b]:=by match l,h with| [a,b],_=>exact⟨a,b,rfl⟩
theorem SZ{l:List Int}(h:l.length=3):∃a b c,l=[a,b,c]:=by match l,h with| [a,b,c],_=>exact⟨a,b,c,rfl⟩
theorem TO{l:List Int}(h:l.length=4):∃a b c d,l=[a,b,c,d]:=by match l,h with| [a,b,c,d],_=>exact⟨a,b,c,d,rfl⟩
theorem uT{e sz n:Nat}{cells:List Value}{v:Value}{ν:aB}(h:bC e sz v n cells ν):∃x c,v=.slice x n c:=by
 rcases h with⟨a,rfl,rfl,_,_⟩|⟨b,cap,junk,rfl,_,_,_⟩
 ·exact⟨a,0,rfl⟩
 ·exact⟨_,cap,rfl⟩
theorem n2:eC Tryz.prog 177 0 (uL):=by
 rintro wb s nv n ν D hn hlen hr ⟨pv,cv,hv,lv,mv,bl,bc,yc,yq,ν1,ν2,ν3,ν4,ν5,ν6,ν7,ν8,rfl,hO⟩ hsm;obtain rfl:n=[]:=List.eq_nil_of_length_eq_zero hlen;refine iL.reorder (ν:=[]++((wb,.cells (bG s pv cv hv lv mv bl bc yc yq).toArray 236 (0,0))::ν1)++(ν8++(ν7++(ν6++(ν5++(ν4++(ν3++(ν2)))))))) ((CV wb s pv cv hv lv mv bl bc yc yq nv ν1 D hO.pl hsm.pl).frameE) (aM fun _=>by simp only[List.count_append,List.count_cons,List.count_nil,bG];omega) ?_ ?_
 ·rintro D' v ν' hle ⟨_,⟨hc,v1,νz,rfl,hacc⟩,rfl⟩;refine⟨(wb,.cells (bG s v1 cv hv lv mv bl bc yc yq).toArray 236 (0,0))::(ν8++(ν7++(ν6++(ν5++(ν4++(ν3++(ν2++(νz)))))))),(aM fun _=>by simp only[List.count_append,List.count_cons,List.count_nil];omega),setRow s {s.row with places:=s.row.places++[2]},by unfold uL;simp only[];repeat (first|rw[if_pos Yd]|rw[if_neg Yd]),v1,cv,hv,lv,mv,bl,bc,yc,yq,νz,ν2,ν3,ν4,ν5,ν6,ν7,ν8,rfl,?_⟩
  exact⟨(by have hz:(s.row.places++[2]).length=s.row.places.length+1:=Ye;show bC _ _ _ (s.row.places++[2]).length _ _;rw[hz];exact hacc),hO.ct,hO.ht,hO.lev,hO.mks,hO.ln,hO.cn.up oR.up hle,hO.ch,hO.cl⟩
 ·rintro v ⟨h1,rfl⟩;exact⟨_,by unfold uL;simp only[];repeat (first|rw[if_pos Yd]|rw[if_neg Yd]),rfl⟩
theorem CD:eC Tryz.prog 178 2 (rC):=by
 rintro wb s nv n ν D hn hlen hr ⟨pv,cv,hv,lv,mv,bl,bc,yc,yq,ν1,ν2,ν3,ν4,ν5,ν6,ν7,ν8,rfl,hO⟩ hsm;obtain⟨a,b,rfl⟩:=b9 hlen;have ha:0≤a:=(hr a Ye).1;refine iL.reorder (ν:=[]++((wb,.cells (bG s pv cv hv lv mv bl bc yc yq).toArray 236 (0,0))::ν1)++(ν8++(ν7++(ν6++(ν5++(ν4++(ν3++(ν2)))))))) ((IB wb s pv cv hv lv mv bl bc yc yq nv a b ν1 D hn hO.pl hsm.pl ha).frameE) (aM fun _=>by simp only[List.count_append,List.count_cons,List.count_nil,bG];omega) ?_ ?_
 ·rintro D' v ν' hle ⟨_,⟨hc,νz,rfl,hacc⟩,rfl⟩;refine⟨(wb,.cells (bG s pv cv hv lv mv bl bc yc yq).toArray 236 (0,0))::(ν8++(ν7++(ν6++(ν5++(ν4++(ν3++(ν2++(νz)))))))),(aM fun _=>by simp only[List.count_append,List.count_cons,List.count_nil];omega),setRow s {s.row with places:=s.row.places.set a.toNat b},by unfold rC;simp only[];repeat (first|rw[if_pos Yd]|rw[if_neg Yd]),pv,cv,hv,lv,mv,bl,bc,yc,yq,νz,ν2,ν3,ν4,ν5,ν6,ν7,ν8,rfl,?_⟩
  exact⟨(by have hz:(s.row.places.set a.toNat b).length=s.row.places.length:=Ye;show bC _ _ _ (s.row.places.set a.toNat b).length _ _;rw[hz];exact hacc),hO.ct,hO.ht,hO.lev,hO.mks,hO.ln,hO.cn.up oR.up hle,hO.ch,hO.cl⟩
 ·rintro v (⟨h1,rfl⟩|⟨h1,h2,rfl⟩)
  ·exact⟨_,by unfold rC;simp only[];repeat (first|rw[if_pos Yd]|rw[if_neg Yd]),rfl⟩
  ·exact⟨_,by unfold rC;simp only[];repeat (first|rw[if_pos Yd]|rw[if_neg Yd]),rfl⟩
theorem o8:eC Tryz.prog 179 2 (kR false):=by
 rintro wb s nv n ν D hn hlen hr ⟨pv,cv,hv,lv,mv,bl,bc,yc,yq,ν1,ν2,ν3,ν4,ν5,ν6,ν7,ν8,rfl,hO⟩ hsm;obtain⟨a,b,rfl⟩:=b9 hlen;refine iL.reorder (ν:=[]++((wb,.cells (bG s pv cv hv lv mv bl bc yc yq).toArray 236 (0,0))::ν2)++(ν8++(ν7++(ν6++(ν5++(ν4++(ν3++(ν1)))))))) ((EG wb s pv cv hv lv mv bl bc yc yq nv a b ν2 D hn hO.ct hsm.ct (uT hO.pl)).frameE) (aM fun _=>by simp only[List.count_append,List.count_cons,List.count_nil,bG];omega) ?_ ?_
 ·rintro D' v ν' hle ⟨_,⟨hc,v1,νz,rfl,hacc⟩,rfl⟩;refine⟨(wb,.cells (bG s pv v1 hv lv mv bl bc yc yq).toArray 236 (0,0))::(ν8++(ν7++(ν6++(ν5++(ν4++(ν3++(νz++(ν1)))))))),(aM fun _=>by simp only[List.count_append,List.count_cons,List.count_nil];omega),setRow s {s.row with counts:=s.row.counts++[(⟨false,a,b⟩:C1.oW)]},by unfold kR;simp only[];repeat (first|rw[if_pos Yd]|rw[if_neg Yd]),pv,v1,hv,lv,mv,bl,bc,yc,yq,ν1,νz,ν3,ν4,ν5,ν6,ν7,ν8,rfl,?_⟩
  exact⟨hO.pl,(by have hz:(s.row.counts++[(⟨false,a,b⟩:C1.oW)]).length=s.row.counts.length+1:=Ye;show bC _ _ _ (s.row.counts++[(⟨false,a,b⟩:C1.oW)]).length _ _;rw[hz];exact hacc),hO.ht,hO.lev,hO.mks,hO.ln,hO.cn.up oR.up hle,hO.ch,hO.cl⟩
 ·rintro v (⟨h1,rfl⟩|⟨h1,h2,rfl⟩)
  ·exact⟨_,by unfold kR;simp only[];repeat (first|rw[if_pos Yd]|rw[if_neg Yd]),rfl⟩
  ·exact⟨_,by unfold kR;simp only[];repeat (first|rw[if_pos Yd]|rw[if_neg Yd]),rfl⟩
theorem CQ:eC Tryz.prog 180 2 (kR true):=by
 rintro wb s nv n ν D hn hlen hr ⟨pv,cv,hv,lv,mv,bl,bc,yc,yq,ν1,ν2,ν3,ν4,ν5,ν6,ν7,ν8,rfl,hO⟩ hsm;obtain⟨a,b,rfl⟩:=b9 hlen;refine iL.reorder (ν:=[]++((wb,.cells (bG s pv cv hv lv mv bl bc yc yq).toArray 236 (0,0))::ν2)++(ν8++(ν7++(ν6++(ν5++(ν4++(ν3++(ν1)))))))) ((KZ wb s pv cv hv lv mv bl bc yc yq nv a b ν2 D hn hO.ct hsm.ct (uT hO.pl)).frameE) (aM fun _=>by simp only[List.count_append,List.count_cons,List.count_nil,bG];omega) ?_ ?_
 ·rintro D' v ν' hle ⟨_,⟨hc,v1,νz,rfl,hacc⟩,rfl⟩;refine⟨(wb,.cells (bG s pv v1 hv lv mv bl bc yc yq).toArray 236 (0,0))::(ν8++(ν7++(ν6++(ν5++(ν4++(ν3++(νz++(ν1)))))))),(aM fun _=>by simp only[List.count_append,List.count_cons,List.count_nil];omega),setRow s {s.row with counts:=s.row.counts++[(⟨true,a,b⟩:C1.oW)]},by unfold kR;simp only[];repeat (first|rw[if_pos Yd]|rw[if_neg Yd]),pv,v1,hv,lv,mv,bl,bc,yc,yq,ν1,νz,ν3,ν4,ν5,ν6,ν7,ν8,rfl,?_⟩
  exact⟨hO.pl,(by have hz:(s.row.counts++[(⟨true,a,b⟩:C1.oW)]).length=s.row.counts.length+1:=Ye;show bC _ _ _ (s.row.counts++[(⟨true,a,b⟩:C1.oW)]).length _ _;rw[hz];exact hacc),hO.ht,hO.lev,hO.mks,hO.ln,hO.cn.up oR.up hle,hO.ch,hO.cl⟩
 ·rintro v (⟨h1,rfl⟩|⟨h1,h2,rfl⟩)
  ·exact⟨_,by unfold kR;simp only[];repeat (first|rw[if_pos Yd]|rw[if_neg Yd]),rfl⟩
  ·exact⟨_,by unfold kR;simp only[];repeat (first|rw[if_pos Yd]|rw[if_neg Yd]),rfl⟩
theorem N4:eC Tryz.prog 181 1 (mX):=by
 rintro wb s nv n ν D hn hlen hr ⟨pv,cv,hv,lv,mv,bl,bc,yc,yq,ν1,ν2,ν3,ν4,ν5,ν6,ν7,ν8,rfl,hO⟩ hsm;obtain⟨a,rfl⟩:=zI hlen;have ha:0≤a:=(hr a Ye).1;refine iL.reorder (ν:=[]++((wb,.cells (bG s pv cv hv lv mv bl bc yc yq).toArray 236 (0,0))::ν2)++(ν8++(ν7++(ν6++(ν5++(ν4++(ν3++(ν1)))))))) ((Y5 wb s pv cv hv lv mv bl bc yc yq nv a ν2 D hn hO.ct hsm.ct ha).frameE) (aM fun _=>by simp only[List.count_append,List.count_cons,List.count_nil,bG];omega) ?_ ?_
 ·rintro D' v ν' hle ⟨_,⟨hc,v1,νz,rfl,hacc⟩,rfl⟩;refine⟨(wb,.cells (bG s pv v1 hv lv mv bl bc yc yq).toArray 236 (0,0))::(ν8++(ν7++(ν6++(ν5++(ν4++(ν3++(νz++(ν1)))))))),(aM fun _=>by simp only[List.count_append,List.count_cons,List.count_nil];omega),setRow s {s.row with counts:=s.row.counts.eraseIdx a.toNat},by unfold mX;simp only[];repeat (first|rw[if_pos Yd]|rw[if_neg Yd]),pv,v1,hv,lv,mv,bl,bc,yc,yq,ν1,νz,ν3,ν4,ν5,ν6,ν7,ν8,rfl,?_⟩
  exact⟨hO.pl,(by have hz:(s.row.counts.eraseIdx a.toNat).length=s.row.counts.length-1:=(List.length_eraseIdx_of_lt Yd);show bC _ _ _ (s.row.counts.eraseIdx a.toNat).length _ _;rw[hz];exact hacc),hO.ht,hO.lev,hO.mks,hO.ln,hO.cn.up oR.up hle,hO.ch,hO.cl⟩
 ·rintro v ⟨h1,rfl⟩;exact⟨_,by unfold mX;simp only[];repeat (first|rw[if_pos Yd]|rw[if_neg Yd]),rfl⟩
theorem n6:eC Tryz.prog 182 1 (tV):=by
 rintro wb s nv n ν D hn hlen hr ⟨pv,cv,hv,lv,mv,bl,bc,yc,yq,ν1,ν2,ν3,ν4,ν5,ν6,ν7,ν8,rfl,hO⟩ hsm;obtain⟨a,rfl⟩:=zI hlen;refine iL.reorder (ν:=[]++[(wb,.cells (bG s pv cv hv lv mv bl bc yc yq).toArray 236 (0,0))]++(ν8++(ν7++(ν6++(ν5++(ν4++(ν3++(ν2++(ν1))))))))) ((DV wb s pv cv hv lv mv bl bc yc yq nv a D hn).frame (post':=fun D' v ν'=>a≤6∧ν'=[(wb,.cells [pv,cv,.int .i64 a,.int .i64 s.row.off,.int .i64 s.table.last,hv,.int .i64 s.table.step,lv,mv,.int .i64 s.book.chairs,.int .i64 s.book.coin,.int .i64 s.book.box,bl,bc,yc,.int .i64 s.yard.fit,yq].toArray 236 (0,0))]++(ν8++(ν7++(ν6++(ν5++(ν4++(ν3++(ν2++(ν1))))))))) (fun D' v ν' _ h=>⟨h.1,by rw[h.2];rfl⟩)) (aM fun _=>by simp only[List.count_append,List.count_cons,List.count_nil,bG];omega) ?_ ?_
 ·rintro D' v ν' hle ⟨h1,rfl⟩;refine⟨_,.refl _,setRow s {s.row with wrong:=a},by unfold tV;simp only[];repeat (first|rw[if_pos Yd]|rw[if_neg Yd]),pv,cv,hv,lv,mv,bl,bc,yc,yq,ν1,ν2,ν3,ν4,ν5,ν6,ν7,ν8,rfl,⟨hO.pl,hO.ct,hO.ht,hO.lev,hO.mks,hO.ln,hO.cn.up oR.up hle,hO.ch,hO.cl⟩⟩
 ·rintro v ⟨h1,rfl⟩;exact⟨_,by unfold tV;simp only[];repeat (first|rw[if_pos Yd]|rw[if_neg Yd]),rfl⟩
theorem GZ:eC Tryz.prog 183 1 (EJ):=by
 rintro wb s nv n ν D hn hlen hr ⟨pv,cv,hv,lv,mv,bl,bc,yc,yq,ν1,ν2,ν3,ν4,ν5,ν6,ν7,ν8,rfl,hO⟩ hsm;obtain⟨a,rfl⟩:=zI hlen;refine iL.reorder (ν:=[]++[(wb,.cells (bG s pv cv hv lv mv bl bc yc yq).toArray 236 (0,0))]++(ν8++(ν7++(ν6++(ν5++(ν4++(ν3++(ν2++(ν1))))))))) ((LZ wb s pv cv hv lv mv bl bc yc yq nv a D hn).frame (post':=fun D' v ν'=>a≤9∧ν'=[(wb,.cells [pv,cv,.int .i64 s.row.wrong,.int .i64 a,.int .i64 s.table.last,hv,.int .i64 s.table.step,lv,mv,.int .i64 s.book.chairs,.int .i64 s.book.coin,.int .i64 s.book.box,bl,bc,yc,.int .i64 s.yard.fit,yq].toArray 236 (0,0))]++(ν8++(ν7++(ν6++(ν5++(ν4++(ν3++(ν2++(ν1))))))))) (fun D' v ν' _ h=>⟨h.1,by rw[h.2];rfl⟩)) (aM fun _=>by simp only[List.count_append,List.count_cons,List.count_nil,bG];omega) ?_ ?_
 ·rintro D' v ν' hle ⟨h1,rfl⟩;refine⟨_,.refl _,setRow s {s.row with off:=a},by unfold EJ;simp only[];repeat (first|rw[if_pos Yd]|rw[if_neg Yd]),pv,cv,hv,lv,mv,bl,bc,yc,yq,ν1,ν2,ν3,ν4,ν5,ν6,ν7,ν8,rfl,⟨hO.pl,hO.ct,hO.ht,hO.lev,hO.mks,hO.ln,hO.cn.up oR.up hle,hO.ch,hO.cl⟩⟩
 ·rintro v ⟨h1,rfl⟩;exact⟨_,by unfold EJ;simp only[];repeat (first|rw[if_pos Yd]|rw[if_neg Yd]),rfl⟩
theorem BZ:eC Tryz.prog 184 3 (yN):=by
 rintro wb s nv n ν D hn hlen hr ⟨pv,cv,hv,lv,mv,bl,bc,yc,yq,ν1,ν2,ν3,ν4,ν5,ν6,ν7,ν8,rfl,hO⟩ hsm;obtain⟨a,b,c,rfl⟩:=SZ hlen;have ha:0≤a:=(hr a Ye).1;have hb:0≤b∧b≤1000:=by have:=hr b Ye;omega
 refine iL.reorder (ν:=[]++((wb,.cells (bG s pv cv hv lv mv bl bc yc yq).toArray 236 (0,0))::ν3)++(ν8++(ν7++(ν6++(ν5++(ν4++(ν2++(ν1)))))))) ((KI wb s pv cv hv lv mv bl bc yc yq nv a b c ν3 D hn hO.ht hsm.ht ha hb).frameE) (aM fun _=>by simp only[List.count_append,List.count_cons,List.count_nil,bG];omega) ?_ ?_
 ·rintro D' v ν' hle ⟨_,⟨hc,νz,rfl,hacc⟩,rfl⟩;refine⟨(wb,.cells (bG s pv cv hv lv mv bl bc yc yq).toArray 236 (0,0))::(ν8++(ν7++(ν6++(ν5++(ν4++(νz++(ν2++(ν1)))))))),(aM fun _=>by simp only[List.count_append,List.count_cons,List.count_nil];omega),setTable s {s.table with heights:=s.table.heights.set a.toNat (b,c)},by unfold yN;simp only[];repeat (first|rw[if_pos Yd]|rw[if_neg Yd]),pv,cv,hv,lv,mv,bl,bc,yc,yq,ν1,ν2,νz,ν4,ν5,ν6,ν7,ν8,rfl,?_⟩
  exact⟨hO.pl,hO.ct,(by have hz:(s.table.heights.set a.toNat (b,c)).length=s.table.heights.length:=Ye;show bC _ _ _ (s.table.heights.set a.toNat (b,c)).length _ _;rw[hz];exact hacc),hO.lev,hO.mks,hO.ln,hO.cn.up oR.up hle,hO.ch,hO.cl⟩
 ·rintro v (⟨h1,rfl⟩|⟨h1,h2,rfl⟩)
  ·exact⟨_,by unfold yN;simp only[];repeat (first|rw[if_pos Yd]|rw[if_neg Yd]),rfl⟩
  ·exact⟨_,by unfold yN;simp only[];repeat (first|rw[if_pos Yd]|rw[if_neg Yd]),rfl⟩
theorem EC:eC Tryz.prog 185 1 (A1):=by
 rintro wb s nv n ν D hn hlen hr ⟨pv,cv,hv,lv,mv,bl,bc,yc,yq,ν1,ν2,ν3,ν4,ν5,ν6,ν7,ν8,rfl,hO⟩ hsm;obtain⟨a,rfl⟩:=zI hlen;refine iL.reorder (ν:=[]++[(wb,.cells (bG s pv cv hv lv mv bl bc yc yq).toArray 236 (0,0))]++(ν8++(ν7++(ν6++(ν5++(ν4++(ν3++(ν2++(ν1))))))))) ((FY wb s pv cv hv lv mv bl bc yc yq nv a D hn).frame (post':=fun D' v ν'=>a≤99∧ν'=[(wb,.cells [pv,cv,.int .i64 s.row.wrong,.int .i64 s.row.off,.int .i64 s.table.last,hv,.int .i64 a,lv,mv,.int .i64 s.book.chairs,.int .i64 s.book.coin,.int .i64 s.book.box,bl,bc,yc,.int .i64 s.yard.fit,yq].toArray 236 (0,0))]++(ν8++(ν7++(ν6++(ν5++(ν4++(ν3++(ν2++(ν1))))))))) (fun D' v ν' _ h=>⟨h.1,by rw[h.2];rfl⟩)) (aM fun _=>by simp only[List.count_append,List.count_cons,List.count_nil,bG];omega) ?_ ?_
 ·rintro D' v ν' hle ⟨h1,rfl⟩;refine⟨_,.refl _,setTable s {s.table with step:=a},by unfold A1;simp only[];repeat (first|rw[if_pos Yd]|rw[if_neg Yd]),pv,cv,hv,lv,mv,bl,bc,yc,yq,ν1,ν2,ν3,ν4,ν5,ν6,ν7,ν8,rfl,⟨hO.pl,hO.ct,hO.ht,hO.lev,hO.mks,hO.ln,hO.cn.up oR.up hle,hO.ch,hO.cl⟩⟩
 ·rintro v ⟨h1,rfl⟩;exact⟨_,by unfold A1;simp only[];repeat (first|rw[if_pos Yd]|rw[if_neg Yd]),rfl⟩
theorem j3:eC Tryz.prog 186 1 (rN):=by
 rintro wb s nv n ν D hn hlen hr ⟨pv,cv,hv,lv,mv,bl,bc,yc,yq,ν1,ν2,ν3,ν4,ν5,ν6,ν7,ν8,rfl,hO⟩ hsm;obtain⟨a,rfl⟩:=zI hlen;refine iL.reorder (ν:=[]++((wb,.cells (bG s pv cv hv lv mv bl bc yc yq).toArray 236 (0,0))::ν4)++(ν8++(ν7++(ν6++(ν5++(ν3++(ν2++(ν1)))))))) ((BF wb s pv cv hv lv mv bl bc yc yq nv a ν4 D hn hO.lev hsm.lev).frameE) (aM fun _=>by simp only[List.count_append,List.count_cons,List.count_nil,bG];omega) ?_ ?_
 ·rintro D' v ν' hle ⟨_,⟨hc,v1,νz,rfl,hacc⟩,rfl⟩;refine⟨(wb,.cells (bG s pv cv hv v1 mv bl bc yc yq).toArray 236 (0,0))::(ν8++(ν7++(ν6++(ν5++(νz++(ν3++(ν2++(ν1)))))))),(aM fun _=>by simp only[List.count_append,List.count_cons,List.count_nil];omega),setTable s {s.table with levels:=s.table.levels++[a]},by unfold rN;simp only[];repeat (first|rw[if_pos Yd]|rw[if_neg Yd]),pv,cv,hv,v1,mv,bl,bc,yc,yq,ν1,ν2,ν3,νz,ν5,ν6,ν7,ν8,rfl,?_⟩
  exact⟨hO.pl,hO.ct,hO.ht,(by have hz:(s.table.levels++[a]).length=s.table.levels.length+1:=Ye;show bC _ _ _ (s.table.levels++[a]).length _ _;rw[hz];exact hacc),hO.mks,hO.ln,hO.cn.up oR.up hle,hO.ch,hO.cl⟩
 ·rintro v (⟨h1,rfl⟩|⟨h1,h2,rfl⟩)
  ·exact⟨_,by unfold rN;simp only[];repeat (first|rw[if_pos Yd]|rw[if_neg Yd]),rfl⟩
  ·exact⟨_,by unfold rN;simp only[];repeat (first|rw[if_pos Yd]|rw[if_neg Yd]),rfl⟩
theorem r8:eC Tryz.prog 187 2 (rK):=by
 rintro wb s nv n ν D hn hlen hr ⟨pv,cv,hv,lv,mv,bl,bc,yc,yq,ν1,ν2,ν3,ν4,ν5,ν6,ν7,ν8,rfl,hO⟩ hsm;obtain⟨a,b,rfl⟩:=b9 hlen;have ha:0≤a:=(hr a Ye).1;refine iL.reorder (ν:=[]++((wb,.cells (bG s pv cv hv lv mv bl bc yc yq).toArray 236 (0,0))::ν4)++(ν8++(ν7++(ν6++(ν5++(ν3++(ν2++(ν1)))))))) ((DH wb s pv cv hv lv mv bl bc yc yq nv a b ν4 D hn hO.lev hsm.lev ha).frameE) (aM fun _=>by simp only[List.count_append,List.count_cons,List.count_nil,bG];omega) ?_ ?_
 ·rintro D' v ν' hle ⟨_,⟨hc,νz,rfl,hacc⟩,rfl⟩;refine⟨(wb,.cells (bG s pv cv hv lv mv bl bc yc yq).toArray 236 (0,0))::(ν8++(ν7++(ν6++(ν5++(νz++(ν3++(ν2++(ν1)))))))),(aM fun _=>by simp only[List.count_append,List.count_cons,List.count_nil];omega),setTable s {s.table with levels:=s.table.levels.set a.toNat b},by unfold rK;simp only[];repeat (first|rw[if_pos Yd]|rw[if_neg Yd]),pv,cv,hv,lv,mv,bl,bc,yc,yq,ν1,ν2,ν3,νz,ν5,ν6,ν7,ν8,rfl,?_⟩
  exact⟨hO.pl,hO.ct,hO.ht,(by have hz:(s.table.levels.set a.toNat b).length=s.table.levels.length:=Ye;show bC _ _ _ (s.table.levels.set a.toNat b).length _ _;rw[hz];exact hacc),hO.mks,hO.ln,hO.cn.up oR.up hle,hO.ch,hO.cl⟩
 ·rintro v (⟨h1,rfl⟩|⟨h1,h2,rfl⟩)
  ·exact⟨_,by unfold rK;simp only[];repeat (first|rw[if_pos Yd]|rw[if_neg Yd]),rfl⟩
  ·exact⟨_,by unfold rK;simp only[];repeat (first|rw[if_pos Yd]|rw[if_neg Yd]),rfl⟩
theorem FB:eC Tryz.prog 188 4 (oV):=by
 rintro wb s nv n ν D hn hlen hr ⟨pv,cv,hv,lv,mv,bl,bc,yc,yq,ν1,ν2,ν3,ν4,ν5,ν6,ν7,ν8,rfl,hO⟩ hsm;obtain⟨a,b,c,d,rfl⟩:=TO hlen;refine iL.reorder (ν:=[]++((wb,.cells (bG s pv cv hv lv mv bl bc yc yq).toArray 236 (0,0))::ν5)++(ν8++(ν7++(ν6++(ν4++(ν3++(ν2++(ν1)))))))) ((JH wb s pv cv hv lv mv bl bc yc yq nv a b c d ν5 D hn hO.mks hsm.mks (uT hO.ht)).frameE) (aM fun _=>by simp only[List.count_append,List.count_cons,List.count_nil,bG];omega) ?_ ?_
 ·rintro D' v ν' hle ⟨_,⟨hc,v1,νz,rfl,hacc⟩,rfl⟩;refine⟨(wb,.cells (bG s pv cv hv lv v1 bl bc yc yq).toArray 236 (0,0))::(ν8++(ν7++(ν6++(νz++(ν4++(ν3++(ν2++(ν1)))))))),(aM fun _=>by simp only[List.count_append,List.count_cons,List.count_nil];omega),setTable s {s.table with marks:=s.table.marks++[(⟨a,b,c,d⟩:C2.Mk)]},by unfold oV;simp only[];repeat (first|rw[if_pos Yd]|rw[if_neg Yd]),pv,cv,hv,lv,v1,bl,bc,yc,yq,ν1,ν2,ν3,ν4,νz,ν6,ν7,ν8,rfl,?_⟩
  exact⟨hO.pl,hO.ct,hO.ht,hO.lev,(by have hz:(s.table.marks++[(⟨a,b,c,d⟩:C2.Mk)]).length=s.table.marks.length+1:=Ye;show bC _ _ _ (s.table.marks++[(⟨a,b,c,d⟩:C2.Mk)]).length _ _;rw[hz];exact hacc),hO.ln,hO.cn.up oR.up hle,hO.ch,hO.cl⟩
 ·rintro v (⟨h1,rfl⟩|⟨h1,h2,rfl⟩|⟨h1,h2,h3,rfl⟩|⟨h1,h2,h3,h4,rfl⟩)
  ·exact⟨_,by unfold oV;simp only[];repeat (first|rw[if_pos Yd]|rw[if_neg Yd]),rfl⟩
  ·exact⟨_,by unfold oV;simp only[];repeat (first|rw[if_pos Yd]|rw[if_neg Yd]),rfl⟩
  ·exact⟨_,by unfold oV;simp only[];repeat (first|rw[if_pos Yd]|rw[if_neg Yd]),rfl⟩
  ·exact⟨_,by unfold oV;simp only[];repeat (first|rw[if_pos Yd]|rw[if_neg Yd]),rfl⟩
theorem P5:eC Tryz.prog 189 1 (pV):=by
 rintro wb s nv n ν D hn hlen hr ⟨pv,cv,hv,lv,mv,bl,bc,yc,yq,ν1,ν2,ν3,ν4,ν5,ν6,ν7,ν8,rfl,hO⟩ hsm;obtain⟨a,rfl⟩:=zI hlen;have ha:0≤a:=(hr a Ye).1;refine iL.reorder (ν:=[]++((wb,.cells (bG s pv cv hv lv mv bl bc yc yq).toArray 236 (0,0))::ν5)++(ν8++(ν7++(ν6++(ν4++(ν3++(ν2++(ν1)))))))) ((g7 wb s pv cv hv lv mv bl bc yc yq nv a ν5 D hn hO.mks hsm.mks ha).frameE) (aM fun _=>by simp only[List.count_append,List.count_cons,List.count_nil,bG];omega) ?_ ?_
 ·rintro D' v ν' hle ⟨_,⟨hc,v1,νz,rfl,hacc⟩,rfl⟩;refine⟨(wb,.cells (bG s pv cv hv lv v1 bl bc yc yq).toArray 236 (0,0))::(ν8++(ν7++(ν6++(νz++(ν4++(ν3++(ν2++(ν1)))))))),(aM fun _=>by simp only[List.count_append,List.count_cons,List.count_nil];omega),setTable s {s.table with marks:=s.table.marks.eraseIdx a.toNat},by unfold pV;simp only[];repeat (first|rw[if_pos Yd]|rw[if_neg Yd]),pv,cv,hv,lv,v1,bl,bc,yc,yq,ν1,ν2,ν3,ν4,νz,ν6,ν7,ν8,rfl,?_⟩
  exact⟨hO.pl,hO.ct,hO.ht,hO.lev,(by have hz:(s.table.marks.eraseIdx a.toNat).length=s.table.marks.length-1:=(List.length_eraseIdx_of_lt Yd);show bC _ _ _ (s.table.marks.eraseIdx a.toNat).length _ _;rw[hz];exact hacc),hO.ln,hO.cn.up oR.up hle,hO.ch,hO.cl⟩
 ·rintro v ⟨h1,rfl⟩;exact⟨_,by unfold pV;simp only[];repeat (first|rw[if_pos Yd]|rw[if_neg Yd]),rfl⟩
theorem BO:eC Tryz.prog 190 2 (kP 1):=by
 rintro wb s nv n ν D hn hlen hr ⟨pv,cv,hv,lv,mv,bl,bc,yc,yq,ν1,ν2,ν3,ν4,ν5,ν6,ν7,ν8,rfl,hO⟩ hsm;obtain⟨a,b,rfl⟩:=b9 hlen;refine iL.reorder (ν:=[]++((wb,.cells (bG s pv cv hv lv mv bl bc yc yq).toArray 236 (0,0))::ν6)++(ν8++(ν7++(ν5++(ν4++(ν3++(ν2++(ν1)))))))) ((GW wb s pv cv hv lv mv bl bc yc yq nv a b ν6 D hn hO.ln hsm.ln).frameE) (aM fun _=>by simp only[List.count_append,List.count_cons,List.count_nil,bG];omega) ?_ ?_
 ·rintro D' v ν' hle ⟨_,⟨hc,v1,νz,rfl,hacc⟩,rfl⟩;refine⟨(wb,.cells (bG s pv cv hv lv mv v1 bc yc yq).toArray 236 (0,0))::(ν8++(ν7++(νz++(ν5++(ν4++(ν3++(ν2++(ν1)))))))),(aM fun _=>by simp only[List.count_append,List.count_cons,List.count_nil];omega),setBook s {s.book with lines:=s.book.lines++[(⟨1,a,b⟩:C3.iD)]},by unfold kP;simp only[];repeat (first|rw[if_pos Yd]|rw[if_neg Yd]),pv,cv,hv,lv,mv,v1,bc,yc,yq,ν1,ν2,ν3,ν4,ν5,νz,ν7,ν8,rfl,?_⟩
  exact⟨hO.pl,hO.ct,hO.ht,hO.lev,hO.mks,(by have hz:(s.book.lines++[(⟨1,a,b⟩:C3.iD)]).length=s.book.lines.length+1:=Ye;show bC _ _ _ (s.book.lines++[(⟨1,a,b⟩:C3.iD)]).length _ _;rw[hz];exact hacc),hO.cn.up oR.up hle,hO.ch,hO.cl⟩
 ·rintro v (⟨h1,rfl⟩|⟨h1,h2,rfl⟩)
  ·exact⟨_,by unfold kP;simp only[];repeat (first|rw[if_pos Yd]|rw[if_neg Yd]),rfl⟩
  ·exact⟨_,by unfold kP;simp only[];repeat (first|rw[if_pos Yd]|rw[if_neg Yd]),rfl⟩
theorem d9:eC Tryz.prog 191 2 (kP 2):=by
 rintro wb s nv n ν D hn hlen hr ⟨pv,cv,hv,lv,mv,bl,bc,yc,yq,ν1,ν2,ν3,ν4,ν5,ν6,ν7,ν8,rfl,hO⟩ hsm;obtain⟨a,b,rfl⟩:=b9 hlen;refine iL.reorder (ν:=[]++((wb,.cells (bG s pv cv hv lv mv bl bc yc yq).toArray 236 (0,0))::ν6)++(ν8++(ν7++(ν5++(ν4++(ν3++(ν2++(ν1)))))))) ((BI wb s pv cv hv lv mv bl bc yc yq nv a b ν6 D hn hO.ln hsm.ln).frameE) (aM fun _=>by simp only[List.count_append,List.count_cons,List.count_nil,bG];omega) ?_ ?_
 ·rintro D' v ν' hle ⟨_,⟨hc,v1,νz,rfl,hacc⟩,rfl⟩;refine⟨(wb,.cells (bG s pv cv hv lv mv v1 bc yc yq).toArray 236 (0,0))::(ν8++(ν7++(νz++(ν5++(ν4++(ν3++(ν2++(ν1)))))))),(aM fun _=>by simp only[List.count_append,List.count_cons,List.count_nil];omega),setBook s {s.book with lines:=s.book.lines++[(⟨2,a,b⟩:C3.iD)]},by unfold kP;simp only[];repeat (first|rw[if_pos Yd]|rw[if_neg Yd]),pv,cv,hv,lv,mv,v1,bc,yc,yq,ν1,ν2,ν3,ν4,ν5,νz,ν7,ν8,rfl,?_⟩
  exact⟨hO.pl,hO.ct,hO.ht,hO.lev,hO.mks,(by have hz:(s.book.lines++[(⟨2,a,b⟩:C3.iD)]).length=s.book.lines.length+1:=Ye;show bC _ _ _ (s.book.lines++[(⟨2,a,b⟩:C3.iD)]).length _ _;rw[hz];exact hacc),hO.cn.up oR.up hle,hO.ch,hO.cl⟩
 ·rintro v (⟨h1,rfl⟩|⟨h1,h2,rfl⟩)
  ·exact⟨_,by unfold kP;simp only[];repeat (first|rw[if_pos Yd]|rw[if_neg Yd]),rfl⟩
  ·exact⟨_,by unfold kP;simp only[];repeat (first|rw[if_pos Yd]|rw[if_neg Yd]),rfl⟩
theorem Z3:eC Tryz.prog 192 1 (nX):=by
 rintro wb s nv n ν D hn hlen hr ⟨pv,cv,hv,lv,mv,bl,bc,yc,yq,ν1,ν2,ν3,ν4,ν5,ν6,ν7,ν8,rfl,hO⟩ hsm;obtain⟨a,rfl⟩:=zI hlen;have ha:0≤a:=(hr a Ye).1;refine iL.reorder (ν:=[]++((wb,.cells (bG s pv cv hv lv mv bl bc yc yq).toArray 236 (0,0))::ν6)++(ν8++(ν7++(ν5++(ν4++(ν3++(ν2++(ν1)))))))) ((l3 wb s pv cv hv lv mv bl bc yc yq nv a ν6 D hn hO.ln hsm.ln ha).frameE) (aM fun _=>by simp only[List.count_append,List.count_cons,List.count_nil,bG];omega) ?_ ?_
 ·rintro D' v ν' hle ⟨_,⟨x,hx,hc,νz,rfl,hacc⟩,rfl⟩;refine⟨(wb,.cells (bG s pv cv hv lv mv bl bc yc yq).toArray 236 (0,0))::(ν8++(ν7++(νz++(ν5++(ν4++(ν3++(ν2++(ν1)))))))),(aM fun _=>by simp only[List.count_append,List.count_cons,List.count_nil];omega),setBook s {s.book with lines:=s.book.lines.set a.toNat {x with token:= -1}},by unfold nX;simp only[];rw[hx];simp only[];rw[if_neg hc],pv,cv,hv,lv,mv,bl,bc,yc,yq,ν1,ν2,ν3,ν4,ν5,νz,ν7,ν8,rfl,?_⟩
  exact⟨hO.pl,hO.ct,hO.ht,hO.lev,hO.mks,(by have hz:(s.book.lines.set a.toNat {x with token:= -1}).length=s.book.lines.length:=Ye;show bC _ _ _ (s.book.lines.set a.toNat {x with token:= -1}).length _ _;rw[hz];exact hacc),hO.cn.up oR.up hle,hO.ch,hO.cl⟩
 ·rintro v (⟨h1,rfl⟩|⟨x,hx,h1,rfl⟩)
  ·exact⟨_,by unfold nX;simp only[];rw[List.getElem?_eq_none Yd],rfl⟩
  ·exact⟨_,by unfold nX;simp only[];rw[hx];exact if_pos h1,rfl⟩
theorem Q8:eC Tryz.prog 193 1 (qL):=by
 rintro wb s nv n ν D hn hlen hr ⟨pv,cv,hv,lv,mv,bl,bc,yc,yq,ν1,ν2,ν3,ν4,ν5,ν6,ν7,ν8,rfl,hO⟩ hsm;obtain⟨a,rfl⟩:=zI hlen;have ha:0≤a:=(hr a Ye).1;refine iL.reorder (ν:=[]++((wb,.cells (bG s pv cv hv lv mv bl bc yc yq).toArray 236 (0,0))::ν6)++(ν8++(ν7++(ν5++(ν4++(ν3++(ν2++(ν1)))))))) ((n5 wb s pv cv hv lv mv bl bc yc yq nv a ν6 D hn hO.ln hsm.ln ha).frameE) (aM fun _=>by simp only[List.count_append,List.count_cons,List.count_nil,bG];omega) ?_ ?_
 ·rintro D' v ν' hle ⟨_,⟨hc,v1,νz,rfl,hacc⟩,rfl⟩;refine⟨(wb,.cells (bG s pv cv hv lv mv v1 bc yc yq).toArray 236 (0,0))::(ν8++(ν7++(νz++(ν5++(ν4++(ν3++(ν2++(ν1)))))))),(aM fun _=>by simp only[List.count_append,List.count_cons,List.count_nil];omega),setBook s {s.book with lines:=s.book.lines.eraseIdx a.toNat},by unfold qL;simp only[];repeat (first|rw[if_pos Yd]|rw[if_neg Yd]),pv,cv,hv,lv,mv,v1,bc,yc,yq,ν1,ν2,ν3,ν4,ν5,νz,ν7,ν8,rfl,?_⟩
  exact⟨hO.pl,hO.ct,hO.ht,hO.lev,hO.mks,(by have hz:(s.book.lines.eraseIdx a.toNat).length=s.book.lines.length-1:=(List.length_eraseIdx_of_lt Yd);show bC _ _ _ (s.book.lines.eraseIdx a.toNat).length _ _;rw[hz];exact hacc),hO.cn.up oR.up hle,hO.ch,hO.cl⟩
 ·rintro v ⟨h1,rfl⟩;exact⟨_,by unfold qL;simp only[];repeat (first|rw[if_pos Yd]|rw[if_neg Yd]),rfl⟩
theorem W3:eC Tryz.prog 194 4 (nV):=by
 rintro wb s nv n ν D hn hlen hr ⟨pv,cv,hv,lv,mv,bl,bc,yc,yq,ν1,ν2,ν3,ν4,ν5,ν6,ν7,ν8,rfl,hO⟩ hsm;obtain⟨a,b,c,d,rfl⟩:=TO hlen;refine iL.reorder (ν:=[]++((wb,.cells (bG s pv cv hv lv mv bl bc yc yq).toArray 236 (0,0))::ν7)++(ν8++(ν6++(ν5++(ν4++(ν3++(ν2++(ν1)))))))) ((r3 wb s pv cv hv lv mv bl bc yc yq nv a b c d ν7 D hn hO.ch hsm.ch).frameE) (aM fun _=>by simp only[List.count_append,List.count_cons,List.count_nil,bG];omega) ?_ ?_
 ·rintro D' v ν' hle ⟨_,⟨hc,v1,νz,rfl,hacc⟩,rfl⟩;refine⟨(wb,.cells (bG s pv cv hv lv mv bl bc v1 yq).toArray 236 (0,0))::(ν8++(νz++(ν6++(ν5++(ν4++(ν3++(ν2++(ν1)))))))),(aM fun _=>by simp only[List.count_append,List.count_cons,List.count_nil];omega),setYard s {s.yard with chairs:=s.yard.chairs++[(⟨a,⟨b,c,d⟩⟩:C7.Ch)]},by unfold nV;simp only[];repeat (first|rw[if_pos Yd]|rw[if_neg Yd]),pv,cv,hv,lv,mv,bl,bc,v1,yq,ν1,ν2,ν3,ν4,ν5,ν6,νz,ν8,rfl,?_⟩
  exact⟨hO.pl,hO.ct,hO.ht,hO.lev,hO.mks,hO.ln,hO.cn.up oR.up hle,(by have hz:(s.yard.chairs++[(⟨a,⟨b,c,d⟩⟩:C7.Ch)]).length=s.yard.chairs.length+1:=Ye;show bC _ _ _ (s.yard.chairs++[(⟨a,⟨b,c,d⟩⟩:C7.Ch)]).length _ _;rw[hz];exact hacc),hO.cl⟩
 ·rintro v (⟨h1,rfl⟩|⟨h1,h2,rfl⟩)
  ·exact⟨_,by unfold nV;simp only[];repeat (first|rw[if_pos Yd]|rw[if_neg Yd]),rfl⟩
  ·exact⟨_,by unfold nV;simp only[];repeat (first|rw[if_pos Yd]|rw[if_neg Yd]),rfl⟩
theorem EZ:eC Tryz.prog 195 3 (uW):=by
 rintro wb s nv n ν D hn hlen hr ⟨pv,cv,hv,lv,mv,bl,bc,yc,yq,ν1,ν2,ν3,ν4,ν5,ν6,ν7,ν8,rfl,hO⟩ hsm;obtain⟨a,b,c,rfl⟩:=SZ hlen;have ha:0≤a:=(hr a Ye).1;have hb:0≤b:=(hr b Ye).1;refine iL.reorder (ν:=[]++((wb,.cells (bG s pv cv hv lv mv bl bc yc yq).toArray 236 (0,0))::ν7)++(ν8++(ν6++(ν5++(ν4++(ν3++(ν2++(ν1)))))))) ((IS wb s pv cv hv lv mv bl bc yc yq nv a b c ν7 D hn hO.ch hsm.ch ha hb).frameE) (aM fun _=>by simp only[List.count_append,List.count_cons,List.count_nil,bG];omega) ?_ ?_
 ·rintro D' v ν' hle ⟨_,⟨x,hx,hc,νz,rfl,hacc⟩,rfl⟩;refine⟨(wb,.cells (bG s pv cv hv lv mv bl bc yc yq).toArray 236 (0,0))::(ν8++(νz++(ν6++(ν5++(ν4++(ν3++(ν2++(ν1)))))))),(aM fun _=>by simp only[List.count_append,List.count_cons,List.count_nil];omega),setYard s {s.yard with chairs:=s.yard.chairs.set a.toNat {x with parts:=x3 x.parts b.toNat c}},by unfold uW;simp only[];rw[hx];simp only[];repeat (first|rw[if_pos Yd]|rw[if_neg Yd]),pv,cv,hv,lv,mv,bl,bc,yc,yq,ν1,ν2,ν3,ν4,ν5,ν6,νz,ν8,rfl,?_⟩
  exact⟨hO.pl,hO.ct,hO.ht,hO.lev,hO.mks,hO.ln,hO.cn.up oR.up hle,(by have hz:(s.yard.chairs.set a.toNat {x with parts:=x3 x.parts b.toNat c}).length=s.yard.chairs.length:=Ye;show bC _ _ _ (s.yard.chairs.set a.toNat {x with parts:=x3 x.parts b.toNat c}).length _ _;rw[hz];exact hacc),hO.cl⟩
 ·rintro v (⟨h1,rfl⟩|⟨h1,h2,rfl⟩|⟨h1,h2,h3,rfl⟩)
  ·exact⟨_,by unfold uW;simp only[];rw[List.getElem?_eq_none Yd],rfl⟩
  ·exact⟨_,by unfold uW;simp only[];rw[List.getElem?_eq_getElem Yd];exact if_pos h2,rfl⟩
  ·exact⟨_,by unfold uW;simp only[];rw[List.getElem?_eq_getElem Yd];exact(if_neg Yd).trans (if_pos h3),rfl⟩
theorem JW:eC Tryz.prog 196 1 (DS):=by
 rintro wb s nv n ν D hn hlen hr ⟨pv,cv,hv,lv,mv,bl,bc,yc,yq,ν1,ν2,ν3,ν4,ν5,ν6,ν7,ν8,rfl,hO⟩ hsm;obtain⟨a,rfl⟩:=zI hlen;refine iL.reorder (ν:=[]++[(wb,.cells (bG s pv cv hv lv mv bl bc yc yq).toArray 236 (0,0))]++(ν8++(ν7++(ν6++(ν5++(ν4++(ν3++(ν2++(ν1))))))))) ((MR wb s pv cv hv lv mv bl bc yc yq nv a D hn).frame (post':=fun D' v ν'=>a≤9∧ν'=[(wb,.cells [pv,cv,.int .i64 s.row.wrong,.int .i64 s.row.off,.int .i64 s.table.last,hv,.int .i64 s.table.step,lv,mv,.int .i64 s.book.chairs,.int .i64 s.book.coin,.int .i64 s.book.box,bl,bc,yc,.int .i64 a,yq].toArray 236 (0,0))]++(ν8++(ν7++(ν6++(ν5++(ν4++(ν3++(ν2++(ν1))))))))) (fun D' v ν' _ h=>⟨h.1,by rw[h.2];rfl⟩)) (aM fun _=>by simp only[List.count_append,List.count_cons,List.count_nil,bG];omega) ?_ ?_
 ·rintro D' v ν' hle ⟨h1,rfl⟩;refine⟨_,.refl _,setYard s {s.yard with fit:=a},by unfold DS;simp only[];repeat (first|rw[if_pos Yd]|rw[if_neg Yd]),pv,cv,hv,lv,mv,bl,bc,yc,yq,ν1,ν2,ν3,ν4,ν5,ν6,ν7,ν8,rfl,⟨hO.pl,hO.ct,hO.ht,hO.lev,hO.mks,hO.ln,hO.cn.up oR.up hle,hO.ch,hO.cl⟩⟩
 ·rintro v ⟨h1,rfl⟩;exact⟨_,by unfold DS;simp only[];repeat (first|rw[if_pos Yd]|rw[if_neg Yd]),rfl⟩
theorem d7:eC Tryz.prog 197 2 (rP):=by
 rintro wb s nv n ν D hn hlen hr ⟨pv,cv,hv,lv,mv,bl,bc,yc,yq,ν1,ν2,ν3,ν4,ν5,ν6,ν7,ν8,rfl,hO⟩ hsm;obtain⟨a,b,rfl⟩:=b9 hlen;refine iL.reorder (ν:=[]++((wb,.cells (bG s pv cv hv lv mv bl bc yc yq).toArray 236 (0,0))::ν8)++(ν7++(ν6++(ν5++(ν4++(ν3++(ν2++(ν1)))))))) ((DP wb s pv cv hv lv mv bl bc yc yq nv a b ν8 D hn hO.cl hsm.cl).frameE) (aM fun _=>by simp only[List.count_append,List.count_cons,List.count_nil,bG];omega) ?_ ?_
 ·rintro D' v ν' hle ⟨_,⟨hc,v1,νz,rfl,hacc⟩,rfl⟩;refine⟨(wb,.cells (bG s pv cv hv lv mv bl bc yc v1).toArray 236 (0,0))::(νz++(ν7++(ν6++(ν5++(ν4++(ν3++(ν2++(ν1)))))))),(aM fun _=>by simp only[List.count_append,List.count_cons,List.count_nil];omega),setYard s {s.yard with claims:=s.yard.claims++[(a,b)]},by unfold rP;simp only[];repeat (first|rw[if_pos Yd]|rw[if_neg Yd]),pv,cv,hv,lv,mv,bl,bc,yc,v1,ν1,ν2,ν3,ν4,ν5,ν6,ν7,νz,rfl,?_⟩
  exact⟨hO.pl,hO.ct,hO.ht,hO.lev,hO.mks,hO.ln,hO.cn.up oR.up hle,hO.ch,(by have hz:(s.yard.claims++[(a,b)]).length=s.yard.claims.length+1:=Ye;show bC _ _ _ (s.yard.claims++[(a,b)]).length _ _;rw[hz];exact hacc)⟩
 ·rintro v (⟨h1,rfl⟩|⟨h1,h2,rfl⟩)
  ·exact⟨_,by unfold rP;simp only[];repeat (first|rw[if_pos Yd]|rw[if_neg Yd]),rfl⟩
  ·exact⟨_,by unfold rP;simp only[];repeat (first|rw[if_pos Yd]|rw[if_neg Yd]),rfl⟩
theorem N0:eC Tryz.prog 198 1 (nS):=by
 rintro wb s nv n ν D hn hlen hr ⟨pv,cv,hv,lv,mv,bl,bc,yc,yq,ν1,ν2,ν3,ν4,ν5,ν6,ν7,ν8,rfl,hO⟩ hsm;obtain⟨a,rfl⟩:=zI hlen;have ha:0≤a:=(hr a Ye).1;refine iL.reorder (ν:=[]++((wb,.cells (bG s pv cv hv lv mv bl bc yc yq).toArray 236 (0,0))::ν8)++(ν7++(ν6++(ν5++(ν4++(ν3++(ν2++(ν1)))))))) ((Q0 wb s pv cv hv lv mv bl bc yc yq nv a ν8 D hn hO.cl hsm.cl ha).frameE) (aM fun _=>by simp only[List.count_append,List.count_cons,List.count_nil,bG];omega) ?_ ?_
 ·rintro D' v ν' hle ⟨_,⟨hc,v1,νz,rfl,hacc⟩,rfl⟩;refine⟨(wb,.cells (bG s pv cv hv lv mv bl bc yc v1).toArray 236 (0,0))::(νz++(ν7++(ν6++(ν5++(ν4++(ν3++(ν2++(ν1)))))))),(aM fun _=>by simp only[List.count_append,List.count_cons,List.count_nil];omega),setYard s {s.yard with claims:=s.yard.claims.eraseIdx a.toNat},by unfold nS;simp only[];repeat (first|rw[if_pos Yd]|rw[if_neg Yd]),pv,cv,hv,lv,mv,bl,bc,yc,v1,ν1,ν2,ν3,ν4,ν5,ν6,ν7,νz,rfl,?_⟩
  exact⟨hO.pl,hO.ct,hO.ht,hO.lev,hO.mks,hO.ln,hO.cn.up oR.up hle,hO.ch,(by have hz:(s.yard.claims.eraseIdx a.toNat).length=s.yard.claims.length-1:=(List.length_eraseIdx_of_lt Yd);show bC _ _ _ (s.yard.claims.eraseIdx a.toNat).length _ _;rw[hz];exact hacc)⟩
 ·rintro v ⟨h1,rfl⟩;exact⟨_,by unfold nS;simp only[];repeat (first|rw[if_pos Yd]|rw[if_neg Yd]),rfl⟩
end L12
end Go.Fs
namespace Go.Fs
open Go.Proofs
namespace L12
open C12
def kL(s:aK)(line:ByteArray):aK×Int:=match gP line with
 |none=>(s,4)
 |some (act,n)=>match act s n with
  |.error c=>(s,c)
  |.ok s'=>if bZ s'=0 then(s',0)else(s,bZ s')
theorem y6{s:aK}{line:ByteArray}(h:gP line=none):kL s line=(s,4):=by unfold kL;rw[h]
theorem PN{s:aK}{line:ByteArray}{act:eJ}{n:List Int}{c:Int}(h:gP line=some (act,n))(he:act s n=.error c):kL s line=(s,c):=by unfold kL;rw[h];simp only[];rw[he]
theorem RJ{s s2:aK}{line:ByteArray}{act:eJ}{n:List Int}(h:gP line=some (act,n))(he:act s n=.ok s2)(hs:bZ s2≠0):kL s line=(s,bZ s2):=by unfold kL;rw[h];simp only[];rw[he];exact if_neg hs
theorem I9{s s2:aK}{line:ByteArray}{act:eJ}{n:List Int}(h:gP line=some (act,n))(he:act s n=.ok s2)(hs:bZ s2=0):kL s line=(s2,0):=by unfold kL;rw[h];simp only[];rw[he];exact if_pos hs
theorem AF{s s2:aK}{line:ByteArray}{c:Int}{D:aA}{v:Value}(h:kL s line=(s2,c))(hs:fK D v s2):∃v1,Value.tuple #[v,.int .i64 c]=.tuple #[v1,.int .i64 (kL s line).2]∧fK D v1 (kL s line).1:=by rw[h];exact⟨v,rfl,hs⟩
theorem tA{s:aK}{line:ByteArray}{c:Int}{D:aA}{v:Value}(h:kL s line=(s,c))(hs:fK D v s):∃v1,Value.tuple #[v,.int .i64 c]=.tuple #[v1,.int .i64 (kL s line).2]∧fK D v1 (kL s line).1:=AF h hs
theorem _root_.Go.Fs.C12.iM.small{s:aK}(h:iM s):sC s:=⟨by have:=h.pl;omega,by have:=h.ct;omega,by have:=h.ht;omega,by have:=h.lev;omega,by have:=h.mks;omega,by have:=h.ln;omega,by have:=h.ch;omega,by have:=h.cl;omega⟩
theorem vN.up{D D':aA}{wb:Nat}{s:aK}{ν:aB}(h:vN D wb s ν)(hl:Le D D'):vN D' wb s ν:=by
 obtain⟨pv,cv,hv,lv,mv,bl,bc,yc,yq,ν1,ν2,ν3,ν4,ν5,ν6,ν7,ν8,h1,h2⟩:=h;exact⟨pv,cv,hv,lv,mv,bl,bc,yc,yq,ν1,ν2,ν3,ν4,ν5,ν6,ν7,ν8,h1,⟨h2.pl,h2.ct,h2.ht,h2.lev,h2.mks,h2.ln,h2.cn.up oR.up hl,h2.ch,h2.cl⟩⟩
theorem OR{D:aA}{wb:Nat}{s:aK}{ν:aB}(h:vN D wb s ν):∀p∈ν,cB p.2:=by
 obtain⟨pv,cv,hv,lv,mv,bl,bc,yc,yq,ν1,ν2,ν3,ν4,ν5,ν6,ν7,ν8,rfl,h2⟩:=h;intro p hp;simp only[List.mem_cons,List.mem_append]at hp;rcases hp with rfl|hp|hp|hp|hp|hp|hp|hp|hp
 ·rfl
 ·exact iP h2.cl p hp
 ·exact iP h2.ch p hp
 ·exact iP h2.ln p hp
 ·exact iP h2.mks p hp
 ·exact iP h2.lev p hp
 ·exact iP h2.ht p hp
 ·exact iP h2.ct p hp
 ·exact iP h2.pl p hp
theorem jI{α:Type}{R:Rd α}{D:aA}{sz:Nat}{v:Value}{xs:List α}(h:Sl D R sz v xs):cell1 v=true:=by
 obtain⟨a,c,rfl⟩:=h.shape;rfl
theorem gE{D:aA}{s:aK}{pv cv hv lv mv bl bc yc yq:Value}(h:fI D s pv cv hv lv mv bl bc yc yq):∀u∈[pv,cv,.int .i64 s.row.wrong,.int .i64 s.row.off,.int .i64 s.table.last,hv,.int .i64 s.table.step,lv,mv,.int .i64 s.book.chairs,.int .i64 s.book.coin,.int .i64 s.book.box,bl,bc,yc,.int .i64 s.yard.fit,yq],cell1 u=true:=by
 intro u hu;simp only[List.mem_cons,List.not_mem_nil,or_false]at hu;rcases hu with rfl|rfl|rfl|rfl|rfl|rfl|rfl|rfl|rfl|rfl|rfl|rfl|rfl|rfl|rfl|rfl|rfl<;>first|rfl|exact jI h.pl|exact jI h.ct|exact jI h.ht|exact jI h.lev|exact jI h.mks|exact jI h.ln|exact jI h.cn|exact jI h.ch|exact jI h.cl
section
variable{P:Program}{X:Cx}{Q:Exit→Act→World→Prop}{σ:bF}{Ds:List aA}
theorem V5{c:Code}{B ν:aB}{D0:aA}{wb:Nat}{s:aK}(h:vN D0 wb s ν)(hmods:X.mods=[])(hD0:D0∈Ds:=by simp)(hsm:sC s:=by assumption)
  (kk:∀D pv cv hv lv mv bl bc yc yq,(∀D₁∈Ds,Le D₁ D)→fI D s pv cv hv lv mv bl bc yc yq→WC P X Q c σ ((wb,.cells (bG s pv cv hv lv mv bl bc yc yq).toArray 236 (0,0))::B) (D::Ds)):WC P X Q c σ (ν++B) Ds:=by
 obtain⟨pv,cv,hv,lv,mv,bl,bc,yc,yq,ν1,ν2,ν3,ν4,ν5,ν6,ν7,ν8,rfl,hO⟩:=h;intro a w hh;obtain⟨E8,k8,F8,h8⟩:=(hh.boxesEq (μ':=[(wb,.cells (bG s pv cv hv lv mv bl bc yc yq).toArray 236 (0,0))]++ν8++(ν7++(ν6++(ν5++(ν4++(ν3++(ν2++(ν1++B)))))))) Ye).freeze hO.cl hmods;obtain⟨E7,k7,F7,h7⟩:=(h8.boxesEq (μ':=[(wb,.cells (bG s pv cv hv lv mv bl bc yc yq).toArray 236 (0,0))]++ν7++(ν6++(ν5++(ν4++(ν3++(ν2++(ν1++B))))))) Ye).freeze hO.ch hmods;obtain⟨E6,k6,F6,h6⟩:=(h7.boxesEq (μ':=[(wb,.cells (bG s pv cv hv lv mv bl bc yc yq).toArray 236 (0,0))]++ν6++(ν5++(ν4++(ν3++(ν2++(ν1++B)))))) Ye).freeze hO.ln hmods;obtain⟨E5,k5,F5,h5⟩:=(h6.boxesEq (μ':=[(wb,.cells (bG s pv cv hv lv mv bl bc yc yq).toArray 236 (0,0))]++ν5++(ν4++(ν3++(ν2++(ν1++B))))) Ye).freeze hO.mks hmods;obtain⟨E4,k4,F4,h4⟩:=(h5.boxesEq (μ':=[(wb,.cells (bG s pv cv hv lv mv bl bc yc yq).toArray 236 (0,0))]++ν4++(ν3++(ν2++(ν1++B)))) Ye).freeze hO.lev hmods;obtain⟨E3,k3,F3,h3⟩:=(h4.boxesEq (μ':=[(wb,.cells (bG s pv cv hv lv mv bl bc yc yq).toArray 236 (0,0))]++ν3++(ν2++(ν1++B))) Ye).freeze hO.ht hmods;obtain⟨E2,k2,F2,h2⟩:=(h3.boxesEq (μ':=[(wb,.cells (bG s pv cv hv lv mv bl bc yc yq).toArray 236 (0,0))]++ν2++(ν1++B)) Ye).freeze hO.ct hmods;obtain⟨E1,k1,F1,h1⟩:=(h2.boxesEq (μ':=[(wb,.cells (bG s pv cv hv lv mv bl bc yc yq).toArray 236 (0,0))]++ν1++B) Ye).freeze hO.pl hmods;refine kk E1 pv cv hv lv mv bl bc yc yq (fun D₁ hD₁=>k1 D₁ (by simp[hD₁])) ⟨jB (R:=RI) (n:=1) (f:=cI) (fun _ _=>rfl) (fun _=>rfl) F1 (by have:=hsm.pl;omega),(jB (R:=RC) (n:=3) (f:=cC) (fun _ _=>rfl) (fun _=>rfl) F2 (by have:=hsm.ct;omega)).up RC.up (k1 E2 Ye),(jB (R:=vT) (n:=2) (f:=cP) (fun _ _=>rfl) (fun _=>rfl) F3 (by have:=hsm.ht;omega)).up vT.up (k1 E3 Ye),(jB (R:=RI) (n:=1) (f:=cI) (fun _ _=>rfl) (fun _=>rfl) F4 (by have:=hsm.lev;omega)).up RI.up (k1 E4 Ye),(jB (R:=T1) (n:=4) (f:=cM) (fun _ _=>rfl) (fun _=>rfl) F5 (by have:=hsm.mks;omega)).up T1.up (k1 E5 Ye),
  (jB (R:=oB) (n:=3) (f:=cL) (fun _ _=>rfl) (fun _=>rfl) F6 (by have:=hsm.ln;omega)).up oB.up (k1 E6 Ye),hO.cn.up oR.up (k1 D0 (by simp[hD0])),(jB (R:=qY) (n:=4) (f:=cH) (fun _ _=>rfl) (fun _=>rfl) F7 (by have:=hsm.ch;omega)).up qY.up (k1 E7 Ye),(jB (R:=R2) (n:=2) (f:=cP) (fun _ _=>rfl) (fun _=>rfl) F8 (by have:=hsm.cl;omega)).up R2.up (k1 E8 Ye)⟩ a w ?_
 obtain⟨g1,g2,g3,Dx,g4,g5,g6⟩:=h1;exact⟨g1,g2,g3,Dx,g4,fun D hD=>by
  rcases List.mem_cons.1 hD with rfl|hD
  ·exact g5 _ List.mem_cons_self
  ·exact g5 D (by simp[hD]),g6⟩
end

def mP(b:ByteArray):Option Int:=jC b.data.toList
theorem rO(line:ByteArray):∃p0 ps,cK line=p0::ps:=by
 unfold cK;cases h:gY line.data.toList with
 |nil=>exact absurd h (MI _)
 |cons p ps=>exact⟨_,_,rfl⟩
theorem tN(line:ByteArray):(cK line).length≤line.size+1:=by unfold cK;rw[List.length_map];exact K3 _
theorem JB{line p0 x:ByteArray}{ps:List ByteArray}{k:Nat}(h:cK line=p0::ps)(hx:ps[k]?= some x):x.size≤line.size:=by
 have hm:x∈cK line:=by rw[h];exact List.mem_cons_of_mem _ (List.mem_of_getElem? hx)
 unfold cK at hm;obtain⟨p,hp,rfl⟩:=List.mem_map.1 hm;exact DW hp
theorem R0:∀ps:List (List UInt8),(ps.map vU).mapM mP=ps.mapM jC
 | []=>rfl
 |p::ps=>by
  rw[List.map_cons,List.mapM_cons,List.mapM_cons,R0 ps];rfl
theorem uO{line p0:ByteArray}{ps:List ByteArray}(h:cK line=p0::ps):gP line=match iE.find? (fun x=>x.1==p0.data.toList)with
  |none=>none
  |some (_,k,act)=>if ps.length=k then(ps.mapM mP).map fun n=>(act,n)else none:=by
 unfold cK at h;unfold gP;cases hc:gY line.data.toList with
 |nil=>rw[hc]at h;cases h
 |cons p qs=>
  rw[hc]at h;simp only[List.map_cons,List.cons.injEq]at h;obtain⟨rfl,rfl⟩:=h;simp only[List.length_map];rw[R0];rfl
theorem yH{line p0:ByteArray}{ps:List ByteArray}{l:List UInt8}{k:Nat}{act:eJ}{ns:List Int}(h:cK line=p0::ps)(hf:iE.find? (fun x=>x.1==p0.data.toList)=some (l,k,act))(hk:ps.length=k)(hn:ps.mapM mP=some ns):gP line=some (act,ns):=by
 rw[uO h,hf];simp only[];rw[if_pos hk,hn];rfl
theorem uG:∀{ps:List ByteArray} {k:Nat} {x:ByteArray},ps[k]?= some x→mP x=none→ps.mapM mP=none
 | [],_,_,h,_=>by simp at h
 |p::ps,0,x,h,hx=>by
  obtain rfl:p=x:=by simpa using h
  rw[List.mapM_cons,hx];rfl
 |p::ps,k+1,x,h,hx=>by
  rw[List.mapM_cons,uG (k:=k) (by simpa using h) hx];cases mP p<;>rfl
theorem DE{line p0 x:ByteArray}{ps:List ByteArray}{k:Nat}(h:cK line=p0::ps)(hx:ps[k]?= some x)(hn:jC x.data.toList=none):gP line=none:=by
 rw[uO h,uG hx hn];split
 ·rfl
 ·split<;>rfl
theorem DI{ps:List ByteArray}{x:ByteArray}{ns:List Int}{m:Int}(h:ps.mapM mP=some ns)(hx:mP x=some m):(ps++[x]).mapM mP=some (ns++[m]):=by
 induction ps generalizing ns with
 |nil=>
  obtain rfl:([]:List Int)=ns:=by simpa using h
  rw[List.nil_append,List.mapM_cons,hx];rfl
 |cons p ps ih=>
  rw[List.mapM_cons]at h;cases hp:mP p with
  |none=>rw[hp]at h;cases h
  |some q=>
   cases hq:ps.mapM mP with
   |none=>rw[hp,hq]at h;cases h
   |some qs=>
    rw[hp,hq]at h;obtain rfl:q::qs=ns:=Option.some.inj h;rw[List.cons_append,List.mapM_cons,hp,ih hq];rfl
theorem P4{ps:List ByteArray}{k:Nat}{x:ByteArray}{ns:List Int}{m:Int}(hx:ps[k]?= some x)(h:(ps.take k).mapM mP=some ns)(hm:jC x.data.toList=some m):(ps.take (k+1)).mapM mP=some (ns++[m]):=by
 rw[List.take_add_one,hx];exact DI h hm
theorem wY:∀{ps:List ByteArray} {ns:List Int},ps.mapM mP=some ns→∀x∈ns,0≤x∧x≤999
 | [],ns,h=>by
  obtain rfl:([]:List Int)=ns:=by simpa using h
  intro x hx;cases hx
 |p::ps,ns,h=>by
  rw[List.mapM_cons]at h;cases hp:mP p with
  |none=>rw[hp]at h;cases h
  |some q=>
   cases hq:ps.mapM mP with
   |none=>rw[hp,hq]at h;cases h
   |some qs=>
    rw[hp,hq]at h;obtain rfl:q::qs=ns:=Option.some.inj h;intro x hx;rcases List.mem_cons.1 hx with rfl|hx
    ·have:=r6 hp;omega
    ·exact wY hq x hx

def IF:List (ByteArray×Value)→List (List UInt8×Nat×eJ)→Prop
 | [],[]=>True
 |(b,v)::T,(l,k,act)::L=>b.data.toList=l∧(∃f,v=.agg #[.int .i64 (k:Int),.func (.func f) #[] #[]]∧eC Go.Proofs.Tryz.prog f k act)∧IF T L
 |_,_=>False
theorem QY:IF L0 iE:=⟨rfl,⟨_,rfl,n2⟩,⟨rfl,⟨_,rfl,CD⟩,⟨rfl,⟨_,rfl,o8⟩,⟨rfl,⟨_,rfl,CQ⟩,⟨rfl,⟨_,rfl,N4⟩,⟨rfl,⟨_,rfl,n6⟩,⟨rfl,⟨_,rfl,GZ⟩,⟨rfl,⟨_,rfl,BZ⟩,⟨rfl,⟨_,rfl,EC⟩,⟨rfl,⟨_,rfl,j3⟩,⟨rfl,⟨_,rfl,r8⟩,⟨rfl,⟨_,rfl,FB⟩,⟨rfl,⟨_,rfl,P5⟩,⟨rfl,⟨_,rfl,BO⟩,⟨rfl,⟨_,rfl,d9⟩,⟨rfl,⟨_,rfl,Z3⟩,⟨rfl,⟨_,rfl,Q8⟩,⟨rfl,⟨_,rfl,W3⟩,⟨rfl,⟨_,rfl,EZ⟩,⟨rfl,⟨_,rfl,JW⟩,⟨rfl,⟨_,rfl,d7⟩,⟨rfl,⟨_,rfl,N0⟩,trivial⟩⟩⟩⟩⟩⟩⟩⟩⟩⟩⟩⟩⟩⟩⟩⟩⟩⟩⟩⟩⟩⟩
theorem BD(a b:ByteArray):(a==b)=(b.data.toList==a.data.toList):=by
 rw[Bool.eq_iff_iff];constructor
 ·intro h;rw[beq_toListBytes,ByteArray.toList_eq,ByteArray.toList_eq]at h;rw[eq_of_beq h];simp
 ·intro h;rw[beq_toListBytes,ByteArray.toList_eq,ByteArray.toList_eq,eq_of_beq h];simp
theorem W7(p:ByteArray):∀(T:List (ByteArray×Value)) (L:List (List UInt8×Nat×eJ)) (i:Nat),IF T L→(uI p T i=none∧L.find? (fun x=>x.1==p.data.toList)=none)∨(∃(j k:Nat) (act:eJ) (f:FuncId),uI p T i=some (j,.agg #[.int .i64 (k:Int),.func (.func f) #[] #[]])∧L.find? (fun x=>x.1==p.data.toList)=some (p.data.toList,k,act)∧eC Go.Proofs.Tryz.prog f k act)
 | [],[],_,_=>Or.inl ⟨rfl,rfl⟩
 | [],_::_,_,h=>h.elim
 |_::_,[],_,h=>h.elim
 |(b,v)::T,(l,k,act)::L,i,h=>by
  obtain⟨rfl,⟨f,rfl,hw⟩,hT⟩:=h;unfold uI;rw[List.find?_cons];rw[BD p b];cases hb:b.data.toList==p.data.toList with
  |true=>
   refine Or.inr ⟨i,k,act,f,by rw[if_pos rfl],?_,hw⟩;simp only[];rw[eq_of_beq hb]
  |false=>
   rw[if_neg Ye];exact W7 p T L (i+1) hT
theorem EM(p:ByteArray):∃(k:Nat) (c:Value) (b:Bool),KL p L0 (.agg #[.int .i64 0,.nilFunc])=.agg #[.int .i64 (k:Int),c]∧(uI p L0 0).isSome=b∧(b=true→∃act f,iE.find? (fun x=>x.1==p.data.toList)=some (p.data.toList,k,act)∧c=.func (.func f) #[] #[]∧eC Go.Proofs.Tryz.prog f k act)∧(b=false→iE.find? (fun x=>x.1==p.data.toList)=none)∧cell1 c=true:=by
 unfold KL;rcases W7 p _ _ 0 QY with⟨h1,h2⟩|⟨j,k,act,f,h1,h2,h3⟩
 ·rw[h1];exact⟨0,.nilFunc,false,rfl,rfl,(fun h=>by cases h),fun _=>h2,rfl⟩
 ·rw[h1];exact⟨k,_,true,rfl,rfl,fun _=>⟨act,f,h2,rfl,h3⟩,(fun h=>by cases h),rfl⟩
theorem G0{p l:List UInt8}{k:Nat}{act:eJ}{s s2:aK}{n:List Int}(h:iE.find? (fun x=>x.1==p)=some (l,k,act))(hk:iM s)(ha:act s n=.ok s2):iM s2:=n3 _ (List.mem_of_find?_eq_some h) s n s2 hk ha
theorem j6{line p0:ByteArray}{ps:List ByteArray}{k:Nat}{c:Value}{b:Bool}(h:cK line=p0::ps)(hno:b=false→iE.find? (fun x=>x.1==p0.data.toList)=none)(hyes:b=true→∃act f,iE.find? (fun x=>x.1==p0.data.toList)=some (p0.data.toList,k,act)∧c=.func (.func f) #[] #[]∧eC Go.Proofs.Tryz.prog f k act)(hx:b=false∨¬((cK line).length:Int)-1=(k:Int)):gP line=none:=by
 rw[uO h];cases b with
 |false=>rw[hno rfl]
 |true=>
  obtain⟨act,f,hf,_,_⟩:=hyes rfl;rw[hf];simp only[];rw[if_neg];intro e;rcases hx with hx|hx
  ·cases hx
  ·refine hx ?_;rw[h,List.length_cons];omega
theorem MT{line p0:ByteArray}{ps:List ByteArray}{k:Nat}{b:Bool}(h:cK line=p0::ps)(hf:([(!b||decide (((cK line).length:Int)-1≠(k:Int)))].any fun x=>true==x)=false):b=true∧ps.length=k:=by
 have h2:b=true∧((cK line).length:Int)-1=(k:Int):=by simpa using hf
 refine⟨h2.1,?_⟩;have:=h2.2;rw[h,List.length_cons]at this;omega
theorem MH(q1 q2 q3:Nat)(c2:List Value)(v3:Value)(D:aA):A2 Tryz.prog 118 [.pointer (some ⟨q1,0,none⟩),.pointer (some ⟨q2,0,none⟩),.pointer (some ⟨q3,0,none⟩)] D [(q3,.cells [v3].toArray 44 (0,0)),(q2,.cells c2.toArray 42 (0,0))] .returning .returning (fun _ ν'=>ν'=[(q3,.cells [v3].toArray 44 (0,0)),(q2,.cells c2.toArray 42 (0,0))]):=by
 refine JL (t:=6) (rv:=.nilIface) 15 Tryz.func118 rfl rfl rfl rfl rfl (fun c₀ cs hm=>Or.inr ⟨JE hm,rfl,rfl⟩) (fun h0 hwl hwn=>Zae (Zy (C.rg (m4 rfl U20 rfl (Or.inl rfl) rfl trivial (Zo (Zx (aP rfl (fun hc1=>?_) (fun hc1=>?_))))))))
 ·refine C.rg (Zj rfl (Zo (Zag ?_)));exact dC (A:=[]) (ν':=[_,_]) (B:=[]) (vs:=[]) rfl rfl rfl trivial (fun D' hD=>rfl)
 ·cases hc1
theorem vY(q1 q2 q3:Nat)(s:aK)(pv cv hv lv mv bl bc yc yq:Value)(code:Int)(D:aA)(hB:At D q1 0 (bG s pv cv hv lv mv bl bc yc yq))(hL:fI D s pv cv hv lv mv bl bc yc yq):A2 Tryz.prog 118 [.pointer (some ⟨q1,0,none⟩),.pointer (some ⟨q2,0,none⟩),.pointer (some ⟨q3,0,none⟩)] D [(q3,.cells [.int .i64 0].toArray 44 (0,0)),(q2,.cells [.slice none 0 0,.slice none 0 0,.int .i64 0,.int .i64 0,.int .i64 0,.slice none 0 0,.int .i64 0,.slice none 0 0,.slice none 0 0,.int .i64 0,.int .i64 0,.int .i64 0,.slice none 0 0,.slice none 0 0,.slice none 0 0,.int .i64 0,.slice none 0 0].toArray 42 (0,0))] (.panicking (jH (dE code))) (.panicking [{v:=dE code,recovered:=true}]) (fun _ ν'=>ν'=[(q3,.cells [.int .i64 code].toArray 44 (0,0)),(q2,.cells (bG s pv cv hv lv mv bl bc yc yq).toArray 42 (0,0))]):=by
 refine JL (t:=6) (rv:=(dE code)) 15 Tryz.func118 rfl rfl rfl rfl rfl (fun c₀ cs hm=>Or.inl (HQ hm)) (fun h0 hwl hwn=>Zae (Zy (C.rg (m4 rfl U20 rfl (Or.inr ⟨_,_,rfl⟩) rfl trivial (Zo (Zx (aP rfl (fun hc1=>?_) (fun hc1=>?_))))))))
 ·cases hc1
 ·refine Zy (C.rg (DQ rfl U224 rfl rfl trivial (Zz rfl (Zz rfl (Zo (Zx (aP rfl (fun hc2=>?_) (fun hc2=>?_))))))))
  ·refine Zy (C.rg (Zu rfl Tf.z224 rfl (fun q4=>Zs rfl Tf.s224 (cY.head) (Zo (Zx (gO hB Ye (fun hap=>oM (fun hnd=>?_))))))));have hn1:q1∉[q2]:=by simp[aB.ks]at hap ⊢;exact hap.2.2
   have hn2:q4∉[q2]:=by simp at hnd ⊢;exact hnd.1.2
   refine N8 [q2] 1 [0,1,2,3,4] [false,true,true,true,false] [(false,0),(true,1),(true,2),(true,3),(false,4)] Tf.follows (fun _ _ _ _ he h=>bW (P:=Tryz.prog) (fn:=Tryz.f118) _ _ _ _ he h) Yg rfl (cU rfl Tf.a42 rfl hB Yc Tf.s42 Yk rfl trivial (Zk rfl Tf.f224_0 rfl (aU rfl Tf.a44 rfl (List.Mem.head _) rfl Yk rfl trivial (FV rfl rfl rfl rfl Tf.s42 (.tail (.tail (cY.head))) Ye rfl (gE hL) (Or.inr Ye) trivial (aT rfl rfl rfl rfl Tf.s44 (.tail (cY.head)) Ye rfl Ym trivial (Zo (Zag ?_)))))));exact dC (A:=[_]) (ν':=[_,_]) (B:=[]) (vs:=[]) rfl rfl rfl trivial (fun D' hD=>rfl)
  ·cases hc2
theorem TB(sv:Value)(s:aK)(line:ByteArray)(D:aA)(hs:fK D sv s)(hk0:iM s)(hl:line.size≤1000)(hV:jS D):Fn Tryz.prog 71 #[sv,.string line] D (fun D' v=>∃v1,v=.tuple #[v1,.int .i64 (kL s line).2]∧fK D' v1 (kL s line).1):=by
 have hs0:=hs;obtain⟨pv,cv,hv,lv,mv,bl,bc,yc,yq,rfl,hL⟩:=hs;have hsm:=hk0.small;unfold bG;obtain⟨p0,ps,hcut⟩:=rO line;obtain⟨wk,wc,wis,hval,his,hyes,hno,hwc⟩:=EM p0;have hps:ps.length≤1001:=by have:=tN line;rw[hcut]at this;simp only[List.length_cons]at this;omega
 have hp0:(cK line)[0]?= some p0:=by rw[hcut];rfl
 have hcl:(cK line).length≤1001:=by have:=tN line;omega
 refine RQ 75 Tryz.func71 rfl rfl rfl rfl fun h0=>Zy (C.rg (Zr rfl (fun q1 E1 hE1 hB1=>Zu rfl Tf.z42 rfl (fun q2=>Zu rfl Tf.z44 rfl (fun q3=>Zo (Zx (Zy (C.rg (bH rfl rfl rfl rfl trivial (NN (c1:=[]) (c2:=[.pointer (some ⟨q1,0,none⟩),.pointer (some ⟨q2,0,none⟩),.pointer (some ⟨q3,0,none⟩)]) rfl rfl rfl trivial ?_))))))))));refine Zo (Zx (Zy (C.rg (Za rfl (cW rfl rfl rfl (fun D1 hD1=>JJ line hl _ (hV.up (hD1 _ Ye))) rfl trivial (fun v1 D1 hD1 hp1=>?_))))))
 obtain⟨pa,pc,rfl⟩:=hp1.shape;have hPS:=hp1;refine Zj rfl (Zo (Zx (Zy (CE (wE [] 5 [true,false,false,false,false,false,false,false,true,false,false] [.fork [1,2,3] 0 (.fin [4,5,6,7,8]) 8 (.fin [0,4,5,6,7]),.fin [9,10]] Tf.follows QE Yg (KH (γ:=Nat) (fun g=>True) (fun g=>[(24,.agg #[.int .i64 (wk:Int),wc]),(25,.bool wis),(7,.pointer (some ⟨g,0,none⟩)),(6,.slice pa (cK line).length pc),(4,.pointer (some ⟨q2,0,none⟩)),(5,.pointer (some ⟨q3,0,none⟩)),(2,.pointer (some ⟨q1,0,none⟩))]) (fun g=>[(g,.cells [.int .i64 0,.nilFunc].toArray 228 (0,0)),(q3,.cells [.int .i64 0].toArray 44 (0,0)),(q2,.cells [.slice none 0 0,.slice none 0 0,.int .i64 0,.int .i64 0,.int .i64 0,.slice none 0 0,.int .i64 0,.slice none 0 0,.slice none 0 0,.int .i64 0,.int .i64 0,.int .i64 0,.slice none 0 0,.slice none 0 0,.slice none 0 0,.int .i64 0,.slice none 0 0].toArray 42 (0,0))]) (fun g=>[D1,E1,D]) [.fork [1,2,3] 0 (.fin [4,5,6,7,8]) 8 (.fin [0,4,5,6,7])] [.fin [9,10]] rfl ?_ ?_))))))
 ·refine O1 (dS [(false,1),(false,2),(false,3)] rfl (Za rfl (aJ rfl U22 Tf.s9 rfl hPS rfl Yd hp0 rfl trivial (fun b1 o1 cs1 hr1 hcl1 hA1=>?_))));obtain rfl:cs1=[.string _]:=hr1;refine Zg 0 rfl Tf.a9 rfl hA1 rfl (Zo (gJ true true rfl rfl ?_ ?_))
  ·refine fZ rfl rfl rfl (fun D6 hD6=>X4 _) rfl trivial (fun wv D7 νm hD7 hm=>?_);obtain⟨bm,es,cl,rfl,rfl,hM⟩:=hm;refine Zo (cE [(false,4),(false,5),(false,6),(false,7),(true,8)] rfl (vB (b:=bm) rfl U230 U9 Tf.z228 rfl rfl (List.Mem.head _) List.not_mem_nil hM rfl trivial ?_));rw[hval,his];refine Za rfl (Zz rfl (Zz rfl (Zu rfl Tf.z228 rfl (fun q4=>Zo ?_))));exact fun a w hh=>⟨q4,trivial,hh.weak C.rs (.cons_cons _ (.cons _ (.cons_cons _ (.cons_cons _ (.refl _))))) (fun D hD=>⟨D,by simp only[List.mem_cons,List.not_mem_nil,or_false]at hD ⊢;rcases hD with rfl|rfl|rfl|rfl<;>simp,Le.refl D⟩)⟩
  ·refine Zu rfl Tf.z228 rfl (fun q4=>Zo (cE [(true,0),(false,4),(false,5),(false,6),(false,7)] rfl (fZ rfl rfl rfl (fun D6 hD6=>X4 _) rfl trivial (fun wv D7 νm hD7 hm=>?_))));obtain⟨bm,es,cl,rfl,rfl,hM⟩:=hm;refine vB (b:=bm) rfl U230 U9 Tf.z228 rfl rfl (List.Mem.head _) List.not_mem_nil hM rfl trivial ?_;rw[hval,his];refine Za rfl (Zz rfl (Zz rfl (Zo ?_)));exact fun a w hh=>⟨q4,trivial,hh.weak C.rs (.cons _ (.cons_cons _ (.cons_cons _ (.cons_cons _ (.refl _))))) (fun D hD=>⟨D,by simp only[List.mem_cons,List.not_mem_nil,or_false]at hD ⊢;rcases hD with rfl|rfl|rfl|rfl<;>simp,Le.refl D⟩)⟩
 rintro qx -;dsimp only;refine xK [(false,9),(false,10)] rfl (bL rfl rfl rfl rfl Tf.s228 Ya Ya (cY.head) (by intro u hu;simp only[List.mem_cons,List.not_mem_nil,or_false]at hu;rcases hu with rfl|rfl;rfl;exact hwc) trivial (Zj rfl (Zo (yK (OO (Zy (C.rg (Za rfl (bV rfl rfl rfl trivial (Za rfl ?_))))))))))
 refine' eI [(false,3),(false,4),(false,5),(false,6),(false,7),(false,8),(false,9)] [(false,10),(false,11)] (s:=28) (p:=35) rfl rfl (fun hg1=>?_) (fun hg1=>?_) ?_;rotate_left
 ·refine Zb rfl (aY rfl U22 rfl hPS rfl rfl ⟨_,rfl,rfl⟩ (fW rfl rfl rfl Yf rfl ⟨_,rfl,rfl⟩ (Zl rfl Tf.f228_0 rfl (aU rfl Tf.a3 rfl (List.Mem.head _) rfl List.not_mem_nil rfl ⟨_,rfl,rfl⟩ (dQ rfl rfl rfl rfl ⟨_,rfl,rfl⟩ (Zw rfl ?_))))));exact aF fun a w hh=>hh.cutK 6 rfl
 ·refine Zi rfl (Zi rfl (Zi rfl (Zi rfl (Zi rfl (Zi rfl (Zv rfl ?_))))));exact aF fun a w hh=>hh.cutK 6 rfl
 refine Zm rfl U277 Tf.s4 Tf.z4 rfl rfl rfl rfl (.cons rfl rfl .nil) (fun b901 D901 hD901 hA901=>Zf [] [(_,_),(_,_),(_,_)] [] rfl (Or.inl rfl) (fun p hp=>by cases hp) (fun D30 hD30=>dG 4 [(!wis||decide (((cK line).length:Int)-1≠(wk:Int)))] _ _ ((eD (l:=[(!wis||decide (((cK line).length:Int)-1≠(wk:Int)))]) (fun _ _ _ h=>h) hA901 Ye).up RB.up (hD30 _ Ye))) (fun v30 D31 hD30 hp30 a w hh=>?_) (fun v30 D31 ν30 hD30 hp30=>?_))
 ·obtain⟨hx30,rfl⟩:=hp30;exact J7 (X:=Cx.push ⟨none,75,[],h0,h0.size,D,[],none⟩ ⟨.fn (.func 118) [.pointer (some ⟨q1,0,none⟩),.pointer (some ⟨q2,0,none⟩),.pointer (some ⟨q3,0,none⟩)].toArray,[].toArray⟩) (P:=Tryz.prog) (fn:=Tryz.f71) (f:=118) (c1:=[]) (c2:=[.pointer (some ⟨q1,0,none⟩),.pointer (some ⟨q2,0,none⟩),.pointer (some ⟨q3,0,none⟩)]) (A:=[]) (ν:=[(q3,_),(q2,_)]) (B:=[]) (rs:=[.cell 4 42,.cell 5 44]) (by rfl) (by rfl) (fun p hp=>by simp only[List.mem_cons,List.not_mem_nil,or_false]at hp;rcases hp with rfl|rfl<;>rfl) (fun D hD=>vY q1 q2 q3 s pv cv hv lv mv bl bc yc yq _ D (hB1.up (hD _ Ye)) (hL.up (hD _ Ye))) rfl (fun D ν' hD hq=>by subst hq;exact⟨[_,_],⟨⟨_,_,_,rfl,.tail _ (.head _),Or.inr ⟨Tf.a42,Tf.s42,rfl⟩⟩,⟨_,_,_,rfl,.head _,Or.inl ⟨Tf.a44,rfl⟩⟩,trivial⟩,tA (y6 (j6 hcut hno hyes (by simpa using hx30))) (hs0.up (hD _ Ye))⟩) a w (hh.subB (.cons _ (.refl _)))
 obtain⟨hf30,rfl⟩:=hp30;obtain⟨hwis,hlen⟩:=MT hcut hf30;obtain⟨act,wf,hfind,rfl,hword⟩:=hyes hwis;refine Zo (Zx (Zy (C.rg (Zj rfl (Zo (Zx (Zy (Zy (C.rg (Za rfl (EO (j:=1) rfl U22 Tf.s9 rfl hPS rfl (by rw[hcut];simp) rfl trivial (fun ta hT=>?_))))))))))))
 rw[hcut]at hT ⊢
 simp only[List.drop_succ_cons,List.drop_zero]at hT;rw[show(p0::ps).length-1=ps.length by simp]at hT ⊢
 refine aY rfl U22 rfl hT rfl rfl trivial (Za rfl (Zo (Zx (Zae (cZ (γ:=Nat×Value×aB×List Int) (fun g=>ps.length-g.1) (fun g=>g.1≤ps.length∧(ps.take g.1).mapM mP=some g.2.2.2∧g.2.2.2.length=g.1∧bC 3 1 g.2.1 g.1 (ints g.2.2.2) g.2.2.1) (fun g=>[(41,.int .i64 (g.1:Int)),(9,g.2.1)]) [(40,_),(39,_),(7,_),(4,_),(5,_),(2,_)] (fun g=>g.2.2.1++[(qx,.cells [.int .i64 (wk:Int),.func (.func wf) #[] #[]].toArray 228 (0,0)),(q3,.cells [.int .i64 0].toArray 44 (0,0)),(q2,.cells [.slice none 0 0,.slice none 0 0,.int .i64 0,.int .i64 0,.int .i64 0,.slice none 0 0,.int .i64 0,.slice none 0 0,.slice none 0 0,.int .i64 0,.int .i64 0,.int .i64 0,.slice none 0 0,.slice none 0 0,.slice none 0 0,.int .i64 0,.slice none 0 0].toArray 42 (0,0))]) (fun g=>[D31,D901,D1,E1,D]) (0,.slice none 0 0,[],[]) ⟨by simp,rfl,rfl,by simpa [ints]using bC.nil⟩ ⟨Yb,Yb,trivial⟩ C.rs (List.Sublist.refl _) (aG) ?_)))));rintro⟨k,v,ν,ns⟩ ⟨h1,h2,h3,ha⟩;simp only at h1 h2 h3 ha;refine Zy (C.rg (Zaa rfl (Zo (Zx (Zy (aH rfl (fun hc1=>?_) (fun hc1=>?_)))))))
 ·simp only at hc1;have hk:k<ps.length:=by omega
  obtain⟨x,hx⟩:∃x,ps[k]?= some x:=⟨_,List.getElem?_eq_getElem hk⟩
  have hsz:x.size≤1000:=Nat.le_trans (JB hcut hx) hl;refine Zac (Zx (Zy (Zae (Zy (C.rg (aJ rfl U22 Tf.s9 rfl hT rfl Yd hx rfl trivial (fun b2 o2 cs2 hr2 hcl2 hA2=>?_)))))));obtain rfl:cs2=[.string _]:=hr2;refine Zg 0 rfl Tf.a9 rfl hA2 rfl (Zj rfl (Zo (Zx (Zy (C.rg (Za rfl (cW rfl rfl rfl (fun D2 hD2=>CU x hsz _ (hV.up (hD2 _ Ye))) rfl trivial (fun v2 D2 hD2 hp2=>?_))))))));obtain⟨m,nb,rfl,hm1,hm2⟩:=hp2;refine Za rfl (Zz rfl (Zz rfl (Zj rfl (Zj rfl (Zo (Zx (Zy (C.rg (Za rfl (bV rfl rfl rfl trivial (Zm rfl U277 Tf.s4 Tf.z4 rfl rfl rfl rfl (.cons rfl rfl .nil) (fun b902 D902 hD902 hA902=>?_))))))))))));refine Zf [] _ [] rfl (Or.inl rfl) (fun p hp=>by cases hp) (fun D40 hD40=>dG 4 [!nb] _ _ ((eD (l:=[!nb]) (fun _ _ _ h=>h) hA902 Ye).up RB.up (hD40 _ Ye))) (fun v40 D41 hD40 hp40 a w hh=>?_) (fun v40 D41 ν40 hD40 hp40=>?_)
  ·obtain⟨hx40,rfl⟩:=hp40;exact J7 (X:=Cx.push ⟨none,75,[],h0,h0.size,D,[],none⟩ ⟨.fn (.func 118) [.pointer (some ⟨q1,0,none⟩),.pointer (some ⟨q2,0,none⟩),.pointer (some ⟨q3,0,none⟩)].toArray,[].toArray⟩) (P:=Tryz.prog) (fn:=Tryz.f71) (f:=118) (c1:=[]) (c2:=[.pointer (some ⟨q1,0,none⟩),.pointer (some ⟨q2,0,none⟩),.pointer (some ⟨q3,0,none⟩)]) (A:=[]) (ν:=[(q3,_),(q2,_)]) (B:=[]) (rs:=[.cell 4 42,.cell 5 44]) (by rfl) (by rfl) (fun p hp=>by simp only[List.mem_cons,List.not_mem_nil,or_false]at hp;rcases hp with rfl|rfl<;>rfl) (fun D hD=>vY q1 q2 q3 s pv cv hv lv mv bl bc yc yq _ D (hB1.up (hD _ Ye)) (hL.up (hD _ Ye))) rfl (fun D ν' hD hq=>by subst hq;exact⟨[_,_],⟨⟨_,_,_,rfl,.tail _ (.head _),Or.inr ⟨Tf.a42,Tf.s42,rfl⟩⟩,⟨_,_,_,rfl,.head _,Or.inl ⟨Tf.a44,rfl⟩⟩,trivial⟩,tA (y6 (DE hcut hx (hm2 (by simpa using hx40)))) (hs0.up (hD _ Ye))⟩) a w (hh.subB (.trans (.cons _ (.refl _)) (List.sublist_append_right _ _)))
  obtain⟨hf40,rfl⟩:=hp40;have hnb:=hm1 (by simpa using hf40);refine Zo (Zx (C.rg (Za rfl (Za rfl (Zm rfl U25 Tf.s3 Tf.z3 rfl rfl rfl rfl (.cons rfl rfl .nil) (fun b903 D903 hD903 hA903=>?_))))));have hS903:=Sl.ofInts (l:=[_]) (n:=1) (cap:=1) hA903 rfl Yd Yd;refine aS (A:=[]) (B:=[(_,_),(_,_),(_,_)]) rfl U25 rfl rfl Tf.s3 Tf.z3 rfl Tf.i3 rfl rfl rfl ha (iG.lit hA903) Ye rfl (by simp[ints,h3]) Ym Yd (Or.inl rfl) rfl trivial (fun v1 ν1 ha1=>?_);have ha2:bC 3 1 v1 (k+1) (ints (ns++[m])) ν1:=by rw[←eG];exact ha1
  refine Zj rfl (Zo (Zag (Zx (C.rg (Zt rfl (Za rfl (Zo ?_)))))));exact aN 24 (k+1,v1,ν1,ns++[m]) ⟨by simp only;omega,P4 hx h2 hnb,by simp[h3],ha2⟩ Yo ⟨Yb,Yb,trivial⟩ rfl rfl (List.Sublist.refl _) (fun D h=>⟨D,List.Mem.tail _ (List.Mem.tail _ (List.Mem.tail _ (List.Mem.tail _ (h)))),Le.refl D⟩)
 ·obtain rfl:k=ps.length:=by simp only at hc1;omega
  rw[List.take_length]at h2;refine aZ (Zaf (Zaf (aE (Zx (Zy (xS (A:=[]) (B:=[(_,_),(_,_),(_,_)]) ha rfl (fun D8 hD8 hF8=>?_)))))));have hnS:=hF8.ints (l:=ns) h3 (by have:=hps;omega)
  refine C.rg (Zq rfl Tf.a42 rfl hB1 Tf.s42 (fZ rfl rfl rfl (fun D20 hD20=>K7 _ s _ (hs0.up (hD20 _ Ye)) hsm) rfl trivial (fun wv D21 νW hD21 hw=>?_)));obtain⟨wb,rfl,hO⟩:∃wb,wv=.pointer (some ⟨wb,0,none⟩)∧vN D21 wb s νW:=by
   obtain⟨wb,pv,cv,hv,lv,mv,bl,bc,yc,yq,ν1,ν2,ν3,ν4,ν5,ν6,ν7,ν8,h1,h2,h3⟩:=hw;exact⟨wb,h1,pv,cv,hv,lv,mv,bl,bc,yc,yq,ν1,ν2,ν3,ν4,ν5,ν6,ν7,ν8,h2,h3⟩
  refine Zj rfl (Zo (Zx (Zy (C.rg (Zk rfl Tf.f228_1 rfl (Zn rfl Tf.a226 rfl (List.mem_append_right _ (List.Mem.head _)) rfl (Za rfl (Za rfl (Zf [] [(_,_),(_,_),(_,_)] νW rfl (Or.inl rfl) (OR hO) (fun D50 hD50=>hword wb s _ ns νW _ (hnS.up RI.up (hD50 _ Ye)) Yd (wY h2) (hO.up (hD50 _ Ye)) hsm) (fun v50 D51 hD50 hp50 a w hh=>?_) (fun v50 D51 ν50 hD50 hp50=>?_))))))))))
  ·obtain⟨c50,hx50,rfl⟩:=hp50;exact J7 (X:=Cx.push ⟨none,75,[],h0,h0.size,D,[],none⟩ ⟨.fn (.func 118) [.pointer (some ⟨q1,0,none⟩),.pointer (some ⟨q2,0,none⟩),.pointer (some ⟨q3,0,none⟩)].toArray,[].toArray⟩) (P:=Tryz.prog) (fn:=Tryz.f71) (f:=118) (c1:=[]) (c2:=[.pointer (some ⟨q1,0,none⟩),.pointer (some ⟨q2,0,none⟩),.pointer (some ⟨q3,0,none⟩)]) (A:=[]) (ν:=[(q3,_),(q2,_)]) (B:=[]) (rs:=[.cell 4 42,.cell 5 44]) (by rfl) (by rfl) (fun p hp=>by simp only[List.mem_cons,List.not_mem_nil,or_false]at hp;rcases hp with rfl|rfl<;>rfl) (fun D hD=>vY q1 q2 q3 s pv cv hv lv mv bl bc yc yq _ D (hB1.up (hD _ Ye)) (hL.up (hD _ Ye))) rfl (fun D ν' hD hq=>by subst hq;exact⟨[_,_],⟨⟨_,_,_,rfl,.tail _ (.head _),Or.inr ⟨Tf.a42,Tf.s42,rfl⟩⟩,⟨_,_,_,rfl,.head _,Or.inl ⟨Tf.a44,rfl⟩⟩,trivial⟩,tA (PN (yH hcut hfind hlen h2) hx50) (hs0.up (hD _ Ye))⟩) a w (hh.subB (.cons _ (.refl _)))
  obtain⟨s2,hact,hO2⟩:=hp50;refine Zo (Zx (Zy ?_));have hsm2:sC s2:=(G0 hfind hk0 hact).small;refine V5 (B:=[(_,_),(_,_),(_,_)]) hO2 rfl Ye hsm2 (fun D9 pv2 cv2 hv2 lv2 mv2 bl2 bc2 yc2 yq2 hD9 hL2=>?_);unfold bG;refine C.rg (Za rfl (Zab rfl (Zk rfl Tf.f236_0 rfl (aX rfl Tf.a42 rfl (List.Mem.head _) Tf.s42 List.not_mem_nil rfl trivial (Zf [] [(_,_),(_,_),(_,_),(_,_)] [] rfl (Or.inl rfl) (fun p hp=>by cases hp) (fun D60 hD60=>HL _ s2 _ ⟨pv2,cv2,hv2,lv2,mv2,bl2,bc2,yc2,yq2,rfl,hL2.up (hD60 _ Ye)⟩) (fun v60 D61 hD60 hp60 a w hh=>?_) (fun v60 D61 ν60 hD60 hp60=>?_))))))
  ·obtain⟨hx60,rfl⟩:=hp60;exact J7 (X:=Cx.push ⟨none,75,[],h0,h0.size,D,[],none⟩ ⟨.fn (.func 118) [.pointer (some ⟨q1,0,none⟩),.pointer (some ⟨q2,0,none⟩),.pointer (some ⟨q3,0,none⟩)].toArray,[].toArray⟩) (P:=Tryz.prog) (fn:=Tryz.f71) (f:=118) (c1:=[]) (c2:=[.pointer (some ⟨q1,0,none⟩),.pointer (some ⟨q2,0,none⟩),.pointer (some ⟨q3,0,none⟩)]) (A:=[]) (ν:=[(q3,_),(q2,_)]) (B:=[]) (rs:=[.cell 4 42,.cell 5 44]) (by rfl) (by rfl) (fun p hp=>by simp only[List.mem_cons,List.not_mem_nil,or_false]at hp;rcases hp with rfl|rfl<;>rfl) (fun D hD=>vY q1 q2 q3 s pv cv hv lv mv bl bc yc yq _ D (hB1.up (hD _ Ye)) (hL.up (hD _ Ye))) rfl (fun D ν' hD hq=>by subst hq;exact⟨[_,_],⟨⟨_,_,_,rfl,.tail _ (.head _),Or.inr ⟨Tf.a42,Tf.s42,rfl⟩⟩,⟨_,_,_,rfl,.head _,Or.inl ⟨Tf.a44,rfl⟩⟩,trivial⟩,tA (RJ (yH hcut hfind hlen h2) hact hx60) (hs0.up (hD _ Ye))⟩) a w (hh.subB (.cons _ (.cons _ (.refl _))))
  obtain⟨hf60,rfl⟩:=hp60;refine Zo (Zx (Zy (C.rg (Za rfl (Zab rfl (Zk rfl Tf.f236_0 rfl (aX rfl Tf.a42 rfl (List.Mem.head _) Tf.s42 List.not_mem_nil rfl trivial (bL rfl rfl rfl rfl Tf.s42 Ya Ya (.tail (.tail (.tail (cY.head)))) (gE hL2) trivial (aT rfl rfl rfl rfl Tf.s44 (.tail (.tail (cY.head))) Ye rfl Ym trivial (Zo (Zx ?_)))))))))));refine aC (PZ (X:=Cx.push ⟨none,75,[],h0,h0.size,D,[],none⟩ ⟨.fn (.func 118) [.pointer (some ⟨q1,0,none⟩),.pointer (some ⟨q2,0,none⟩),.pointer (some ⟨q3,0,none⟩)].toArray,[].toArray⟩) (P:=Tryz.prog) (fn:=Tryz.f71) (f:=118) (e:=.ret) (c1:=[]) (c2:=[.pointer (some ⟨q1,0,none⟩),.pointer (some ⟨q2,0,none⟩),.pointer (some ⟨q3,0,none⟩)]) (A:=[(_,_),(_,_)]) (ν:=[(q3,.cells [.int .i64 0].toArray 44 (0,0)),(q2,.cells (bG s2 pv2 cv2 hv2 lv2 mv2 bl2 bc2 yc2 yq2).toArray 42 (0,0))]) (B:=[]) (rs:=[.cell 4 42,.cell 5 44]) (by rfl) (by rfl) (by rfl) (fun p hp=>by simp only[List.mem_cons,List.not_mem_nil,or_false]at hp;rcases hp with rfl|rfl<;>rfl) (fun D hD=>MH q1 q2 q3 _ _ D) rfl ?_)
  intro D ν' hD hq;subst hq;exact⟨[_,_],⟨⟨_,_,_,rfl,.tail _ (.tail _ (.tail _ (.head _))),Or.inr ⟨Tf.a42,Tf.s42,rfl⟩⟩,⟨_,_,_,rfl,.tail _ (.tail _ (.head _)),Or.inl ⟨Tf.a44,rfl⟩⟩,trivial⟩,AF (I9 (yH hcut hfind hlen h2) hact hf60) ⟨pv2,cv2,hv2,lv2,mv2,bl2,bc2,yc2,yq2,rfl,hL2.up (hD D9 Ye)⟩⟩
end L12
end Go.Fs
namespace Go.Fs
open Go.Proofs
namespace L12
open C12
def aL(ls:List ByteArray):aK×List Int:=ls.foldl (fun p l=>((kL p.1 l).1,p.2++[(kL p.1 l).2])) (mQ,[])
theorem p4{ls:List ByteArray}{k:Nat}{x:ByteArray}(h:ls[k]?= some x):aL (ls.take (k+1))=((kL (aL (ls.take k)).1 x).1,(aL (ls.take k)).2++[(kL (aL (ls.take k)).1 x).2]):=by
 unfold aL;rw[List.take_add_one,h,List.foldl_append];rfl
theorem n4{line:ByteArray}{act:eJ}{n:List Int}{s s2:aK}(h:gP line=some (act,n))(hk:iM s)(ha:act s n=.ok s2):iM s2:=by
 unfold gP at h;split at h
 ·cases h
 ·split at h
  ·cases h
  ·rename_i l k act' hf;split at h
   ·obtain⟨m,_,hm⟩:=Option.map_eq_some_iff.1 h;cases hm;exact G0 hf hk ha
   ·cases h
theorem JF{s:aK}(hk:iM s)(line:ByteArray):iM (kL s line).1:=by
 unfold kL;split
 ·exact hk
 ·rename_i act n h;split
  ·exact hk
  ·rename_i s' ha;split
   ·exact n4 h hk ha
   ·exact hk
theorem xR:iM mQ:=⟨by decide,by decide,by decide,by decide,by decide,by decide,by decide,by decide,by decide⟩
theorem NO{q:Nat}{o:Obj}{ν B:aB}(h:(aB.ks ((q,o)::(ν++B))).Nodup):∀p∈ν,p.1∉[q]:=by
 intro p hp hm;obtain rfl:p.1=q:=by simpa using hm
 exact(List.nodup_cons.1 h).1 (List.mem_map.2 ⟨p,List.mem_append_left _ hp,rfl⟩)
structure SY where
 (k:Nat) (s:aK) (es:List Int) (pv cv hv lv mv bl bc yc yq v:Value) (ν:aB) (Dn:aA)
theorem MF(lv:Value)(ls:List ByteArray)(D:aA)(hS:Sl D RS 1 lv ls)(hn:ls.length≤1000)(hsz:∀l∈ls,l.size≤1000)(hV:jS D):Fn Tryz.prog 35 #[lv] D (fun D' v=>∃v1 v2,v=.tuple #[v1,v2]∧fK D' v1 (aL ls).1∧Sl D' RI 1 v2 (aL ls).2):=by
 refine enter 31 Tryz.func35 rfl rfl rfl rfl fun h0=>Zy (C.rg (Zu rfl Tf.z42 rfl (fun q1=>Zj rfl (Zo (Zx (Zy (C.rg (cW rfl rfl rfl (fun D1 hD1=>GQ _) rfl trivial (fun v1 D1 hD1 hp1=>?_)))))))))
 obtain⟨pv,cv,hv,lv2,mv,bl,bc,yc,yq,rfl,hL⟩:=hp1;unfold bG;refine Zu rfl Tf.z42 rfl (fun q2=>bL rfl rfl rfl rfl Tf.s42 Ya Ya (cY.head) (gE hL) trivial (Zo (Zx (Zy (C.rg (Zj rfl (Zo (Zx (Zy (Zy (C.rg ?_)))))))))));refine Za rfl (aY rfl U22 rfl Yl rfl rfl trivial (Za rfl (Zo (Zx (Zae (cZ (γ:=SY) (fun g=>ls.length-g.k) (fun g=>g.k≤ls.length∧aL (ls.take g.k)=(g.s,g.es)∧g.es.length=g.k∧bC 44 1 g.v g.k (ints g.es) g.ν∧fI g.Dn g.s g.pv g.cv g.hv g.lv g.mv g.bl g.bc g.yc g.yq∧iM g.s) (fun g=>[(13,.int .i64 (g.k:Int)),(5,g.v)]) [(12,_),(11,_),(4,_),(3,_),(2,_)] (fun g=>g.ν++[(q2,.cells (bG g.s g.pv g.cv g.hv g.lv g.mv g.bl g.bc g.yc g.yq).toArray 42 (0,0)),(q1,.cells [.slice none 0 0,.slice none 0 0,.int .i64 0,.int .i64 0,.int .i64 0,.slice none 0 0,.int .i64 0,.slice none 0 0,.slice none 0 0,.int .i64 0,.int .i64 0,.int .i64 0,.slice none 0 0,.slice none 0 0,.slice none 0 0,.int .i64 0,.slice none 0 0].toArray 42 (0,0))]) (fun g=>[g.Dn,D]) ⟨0,mQ,[],pv,cv,hv,lv2,mv,bl,bc,yc,yq,.slice none 0 0,[],D1⟩ ⟨by simp,by simp[aL],rfl,by simpa [ints]using bC.nil,hL,xR⟩ ⟨Yb,Yb,trivial⟩ C.rs (List.Sublist.refl _) ((fun D0 h=>by simp only[List.mem_cons,List.not_mem_nil,or_false]at h;rcases h with rfl|rfl<;>exact⟨_,by simp,Le.refl _⟩)) ?_))))))
 rintro⟨k,s,es,pv,cv,hv,lv,mv,bl,bc,yc,yq,v,ν,Dn⟩ ⟨h1,hp,h3,ha,hL,hk⟩;simp only at h1 hp h3 ha hL hk;refine Zy (C.rg (Zaa rfl (Zo (Zx (Zy (aH rfl (fun hc1=>?_) (fun hc1=>?_)))))))
 ·simp only at hc1;have hlt:k<ls.length:=by omega
  obtain⟨x,hx⟩:∃x,ls[k]?= some x:=⟨_,List.getElem?_eq_getElem hlt⟩
  refine Zac (Zx (Zy (Zae (Zy (C.rg (aJ rfl U22 Tf.s9 rfl (hS.up RS.up (Le.refl _)) rfl Yd hx rfl trivial (fun b1 o1 cs1 hr1 hcl1 hA1=>?_)))))));obtain rfl:cs1=[.string _]:=hr1;refine Zg 0 rfl Tf.a9 rfl hA1 rfl (Zj rfl (Zo (Zx (Zy (C.rg (aX rfl Tf.a42 rfl (List.mem_append_right _ (List.Mem.head _)) Tf.s42 List.not_mem_nil rfl trivial (Za rfl (cW rfl rfl rfl (fun D2 hD2=>TB _ s x _ ⟨pv,cv,hv,lv,mv,bl,bc,yc,yq,rfl,hL.up (hD2 _ Ye)⟩ hk (hsz x (List.mem_of_getElem? hx)) (hV.up (hD2 _ Ye))) rfl trivial (fun v2 D2 hD2 hp2=>?_)))))))));obtain⟨w1,rfl,pv2,cv2,hv2,lv2,mv2,bl2,bc2,yc2,yq2,rfl,hL2⟩:=hp2;have hk2:=JF hk x;unfold bG;refine Za rfl (Zz rfl (Zz rfl (Zu rfl Tf.z42 rfl (fun q3=>bL rfl rfl rfl rfl Tf.s42 Ya Ya (cY.head) (gE hL2) trivial (Zj rfl (Zo (Zx (oM (fun hnd=>?_)))))))));have hnu:∀p∈ν,p.1∉[q3]:=NO hnd;have hq3:q3∉jD.mk [q3]:=jD.out Ye;refine C.drawA (jD.mk [q3]) 3 7 30 (fun _ _ _ h=>dI (P:=Tryz.prog) (fn:=Tryz.f35) _ _ _ h) (aX rfl Tf.a42 rfl (List.Mem.head _) Tf.s42 Yk rfl trivial (Za rfl (Za rfl (Zm rfl U43 Tf.s44 Tf.z44 rfl rfl rfl rfl (.cons rfl rfl .nil) (fun b901 D901 hD901 hA901=>?_)))));have hS901:=Sl.ofInts (l:=[_]) (n:=1) (cap:=1) hA901 rfl Yd Yd;refine aS (A:=[(_,_)]) (B:=[(_,_),(_,_)]) rfl U43 rfl rfl Tf.s44 Tf.z44 rfl Tf.i44 rfl rfl rfl ha (iG.lit hA901) Ye rfl (by simp[ints,h3]) Ym Yd (Or.inr (fun p hp=>jD.in_ (hnu p hp))) rfl trivial (fun v1 ν1 ha1=>?_);have ha2:bC 44 1 v1 (k+1) (ints (es++[(kL s x).2])) ν1:=by rw[←eG];exact ha1
  refine aI ((q3,_)::(ν1++[(q2,_),(q1,_)])) rfl (bL rfl rfl rfl rfl Tf.s42 Ya Ya (.tail (.app (cY.head))) (gE hL2) trivial (Zj rfl (Zo (Zag (Zx (C.rg (Zt rfl (Za rfl (Zo ?_)))))))));exact aN 22 ⟨k+1,(kL s x).1,es++[(kL s x).2],pv2,cv2,hv2,lv2,mv2,bl2,bc2,yc2,yq2,v1,ν1,D2⟩ ⟨by simp only;omega,by simp only;rw[p4 hx,hp],by simp[h3],ha2,hL2,hk2⟩ Yo ⟨Yb,Yb,trivial⟩ rfl rfl (List.Sublist.cons _ (List.Sublist.refl _)) ((fun D0 h=>by simp only[List.mem_cons,List.not_mem_nil,or_false]at h;rcases h with rfl|rfl<;>exact⟨_,by simp,Le.refl _⟩))
 ·obtain rfl:k=ls.length:=by simp only at hc1;omega
  rw[List.take_length]at hp;refine aZ (Zaf (Zaf (aE (Zx (Zy (C.rg (aX rfl Tf.a42 rfl (List.mem_append_right _ (List.Mem.head _)) Tf.s42 List.not_mem_nil rfl trivial (Za rfl (bL rfl rfl rfl rfl Tf.s42 Ya Ya (.app (.tail (cY.head))) (gE hL) trivial (Zj rfl (Zo ?_)))))))))));refine Zx (aC (eW (A:=[]) (B:=[(_,_),(_,_)]) ha rfl (fun D9 hD9 hF9=>?_)));have hes:=hF9.ints (l:=es) h3 Yd;exact Zc [_,_] rfl ⟨⟨_,_,_,rfl,List.Mem.tail _ (List.Mem.head _),Or.inr ⟨Tf.a42,Tf.s42,rfl⟩⟩,rfl,trivial⟩ (fun D hD=>⟨_,_,rfl,by rw[hp];exact⟨pv,cv,hv,lv,mv,bl,bc,yc,yq,rfl,hL.up (hD _ Ye)⟩,by rw[hp];exact hes.up RI.up (hD _ Ye)⟩)
end L12
end Go.Fs
namespace Go.Fs
open Go.Proofs
namespace L12
open C12
def HJ:aK:=⟨{places:=[],counts:=[],wrong:=0,off:=0},{last:=0,heights:=[],step:=0,levels:=[],marks:=[]},{chairs:=0,coin:=0,box:=0,lines:=[],counts:=[]},{chairs:=[],fit:=0,claims:=[]}⟩
def dT(ls:List ByteArray):aK×List Int×Int:=if cT ls=0 then((aL ls).1,(aL ls).2,0)else(HJ,[],cT ls)
theorem gG{ls:List ByteArray}(h:cT ls=0):dT ls=((aL ls).1,(aL ls).2,0):=if_pos h
theorem nP{ls:List ByteArray}(h:cT ls≠0):dT ls=(HJ,[],cT ls):=if_neg h
theorem E0{ls:List ByteArray}(h:cT ls=0):ls.length≤40∧∀l∈ls,l.size≤50:=by
 unfold cT at h;split at h
 ·cases h
 ·rename_i h2;simp only[Bool.or_eq_true,decide_eq_true_eq,Bool.not_eq_true',not_or,Bool.not_eq_false,List.all_eq_true]at h2;refine⟨by omega,fun l hl=>?_⟩;have:=h2.2 l hl;omega
theorem B3{ls:List ByteArray}(h:cT ls=0):ls.length≤40:=(E0 h).1
theorem xE{ls:List ByteArray}(h:cT ls=0):∀l∈ls,l.size≤50:=(E0 h).2
theorem OQ(D:aA):fK D (.agg #[.slice none 0 0,.slice none 0 0,.int .i64 0,.int .i64 0,.int .i64 0,.slice none 0 0,.int .i64 0,.slice none 0 0,.slice none 0 0,.int .i64 0,.int .i64 0,.int .i64 0,.slice none 0 0,.slice none 0 0,.slice none 0 0,.int .i64 0,.slice none 0 0]) HJ:=⟨_,_,_,_,_,_,_,_,_,rfl,⟨Sl.nil,Sl.nil,Sl.nil,Sl.nil,Sl.nil,Sl.nil,Sl.nil,Sl.nil,Sl.nil⟩⟩
theorem yT(ls:List ByteArray):iM (aL ls).1:=by
 have:∀(ls:List ByteArray) (p:aK×List Int),iM p.1→iM (ls.foldl (fun p l=>((kL p.1 l).1,p.2++[(kL p.1 l).2])) p).1:=by
  intro ls;induction ls with
  |nil=>exact fun p h=>h
  |cons l ls ih=>exact fun p h=>ih _ (JF h l)
 exact this ls _ xR
theorem X9(ls:List ByteArray)(h:(dT ls).2.2=0):iM (dT ls).1:=by
 by_cases hf:cT ls=0
 ·rw[gG hf];exact yT ls
 ·rw[nP hf]at h;exact absurd h hf
theorem LH(ls:List ByteArray):(dT ls).1.row.places.length≤7:=by
 by_cases hf:cT ls=0
 ·rw[gG hf];exact(yT ls).pl
 ·rw[nP hf];exact Nat.zero_le _
theorem LF(ls:List ByteArray):(dT ls).1.book.lines.length≤8:=by
 by_cases hf:cT ls=0
 ·rw[gG hf];exact(yT ls).ln
 ·rw[nP hf];exact Nat.zero_le _
def sW(ls:List ByteArray):(Int×Int)×Int:=if(dT ls).2.2=0 then(if C1.bE (dT ls).1.row (C1.iT (dT ls).1.row 0 (((dT ls).1.row.places.length:Int)-1))=0 then(C1.tW (C1.truths (dT ls).1.row) (0:Int).toNat (((dT ls).1.row.places.length:Int)-1).toNat,C1.uM (C1.truths (dT ls).1.row) (0:Int).toNat (((dT ls).1.row.places.length:Int)-1).toNat)else(0,0),C1.bE (dT ls).1.row (C1.iT (dT ls).1.row 0 (((dT ls).1.row.places.length:Int)-1)))else((0,0),(dT ls).2.2)
theorem M7(lv:Value)(ls:List ByteArray)(D:aA)(hS:Sl D RS 1 lv ls)(hV:jS D):Fn Tryz.prog 9 #[lv] D (fun D' v=>∃v1 v2,v=.tuple #[v1,v2,.int .i64 (dT ls).2.2]∧fK D' v1 (dT ls).1∧Sl D' RI 1 v2 (dT ls).2.1):=by
 refine enter 19 Tryz.func9 rfl rfl rfl rfl fun h0=>Zy (C.rg (Zu rfl Tf.z42 rfl (fun q1=>Zj rfl (Zj rfl (Zo (Zx (Zy (Zy (C.rg (Za rfl ?_))))))))));refine Zd rfl (fun D1 hD1=>pO _ ls _ (hS.up RS.up (hD1 _ Ye))) (Zj rfl (Zo (Zx (Zy (C.rg (Za rfl (dQ rfl rfl rfl rfl trivial (Zo (Zx (aH rfl (fun hc1=>?_) (fun hc1=>?_)))))))))))
 ·have hf:cT ls≠0:=by simpa using hc1
  refine Zy (C.rg (lY (cs:=[.slice none 0 0,.slice none 0 0,.int .i64 0,.int .i64 0,.int .i64 0,.slice none 0 0,.int .i64 0,.slice none 0 0,.slice none 0 0,.int .i64 0,.int .i64 0,.int .i64 0,.slice none 0 0,.slice none 0 0,.slice none 0 0,.int .i64 0,.slice none 0 0]) rfl Tf.p42 Tf.z42 rfl Yg rfl trivial (Za rfl (bL rfl rfl rfl rfl Tf.s42 Ya Ya (cY.head) Ym trivial (Zj rfl (Zj rfl (Zo (Zx (aC (Zad ?_))))))))));exact Zc [_,_,_] rfl ⟨⟨_,_,_,rfl,(List.Mem.head _),Or.inr ⟨Tf.a42,Tf.s42,rfl⟩⟩,rfl,rfl,trivial⟩ (fun D hD=>⟨_,_,by rw[nP hf];rfl,by rw[nP hf];exact OQ D,by rw[nP hf];exact Sl.nil⟩)
 ·have hf:cT ls=0:=by simpa using hc1
  refine Zac (Zx (Zy (C.rg (Za rfl (cW rfl rfl rfl (fun D2 hD2=>MF _ ls _ (hS.up RS.up (hD2 _ Ye)) (by have:=B3 hf;omega) (fun l hl=>by have:=xE hf l hl;omega) (hV.up (hD2 _ Ye))) rfl trivial (fun v2 D2 hD2 hp2=>?_))))));obtain⟨w1,w2,rfl,⟨pv,cv,hv,lv,mv,bl,bc,yc,yq,rfl,hL⟩,hes⟩:=hp2;unfold bG;refine Za rfl (Zz rfl (Zz rfl (bL rfl rfl rfl rfl Tf.s42 Ya Ya (cY.head) (gE hL) trivial (Zj rfl (Zo (Zx (Zy (C.rg (aX rfl Tf.a42 rfl (List.Mem.head _) Tf.s42 List.not_mem_nil rfl trivial (Za rfl (bL rfl rfl rfl rfl Tf.s42 Ya Ya (cY.head) (gE hL) trivial ?_)))))))))));refine Zj rfl (Zj rfl (Zo (Zx (aC ?_))));exact Zc [_,_,_] rfl ⟨⟨_,_,_,rfl,(List.Mem.head _),Or.inr ⟨Tf.a42,Tf.s42,rfl⟩⟩,rfl,rfl,trivial⟩ (fun D hD=>⟨_,_,by rw[gG hf];rfl,by rw[gG hf];exact⟨pv,cv,hv,lv,mv,bl,bc,yc,yq,rfl,hL.up (hD _ Ye)⟩,by rw[gG hf];exact hes.up RI.up (hD _ Ye)⟩)
theorem xW(rv:Value)(r:C1.cS)(i j:Int)(D:aA)(hr:jQ D rv r):Fn Tryz.prog 33 #[rv,.int .i64 i,.int .i64 j] D (fun _ v=>v=.tuple #[gT (if C1.bE r (C1.iT r i j)=0 then(C1.tW (C1.truths r) i.toNat j.toNat,C1.uM (C1.truths r) i.toNat j.toNat)else(0,0)),.int .i64 (C1.bE r (C1.iT r i j))]):=
 (L1.tP rv r i j D hr).mono fun D' v _ h=>by rw[h];split<;>rfl
theorem tP(lv:Value)(ls:List ByteArray)(D:aA)(hS:Sl D RS 1 lv ls)(hV:jS D):Fn Tryz.prog 14 #[lv] D (fun _ v=>v=.tuple #[gT (sW ls).1,.int .i64 (sW ls).2]):=by
 refine enter 27 Tryz.func14 rfl rfl rfl rfl fun h0=>Zy (C.rg (Zu rfl Tf.z56 rfl (fun q1=>Zj rfl (Zo (Zx (Zy (C.rg (Za rfl (cW rfl rfl rfl (fun D1 hD1=>M7 _ ls _ (hS.up RS.up (hD1 _ Ye)) (hV.up (hD1 _ Ye))) rfl trivial (fun v1 D1 hD1 hp1=>?_))))))))))
 obtain⟨w1,w2,rfl,⟨pv,cv,hv,lv,mv,bl,bc,yc,yq,rfl,hL⟩,hes⟩:=hp1;unfold bG;have hst:(dT ls).2.2=0→iM (dT ls).1:=X9 ls;have hpl7:(dT ls).1.row.places.length≤7:=LH ls;have hln8:(dT ls).1.book.lines.length≤8:=LF ls;refine Za rfl (Zz rfl (Zz rfl (Zz rfl (Zu rfl Tf.z42 rfl (fun q2=>bL rfl rfl rfl rfl Tf.s42 Ya Ya (cY.head) (gE hL) trivial (Zj rfl (Zj rfl (Zo (Zx (Zy (Zy ?_)))))))))));refine C.rg (Za rfl (dQ rfl rfl rfl rfl trivial (Zo (Zx (aH rfl (fun hc1=>?_) (fun hc1=>?_))))))
 ·have hf:(dT ls).2.2≠0:=by simpa using hc1
  refine Zy (C.rg (Zp [.int .i64 0,.int .i64 0] rfl Tf.p56 Tf.z56 rfl rfl (Za rfl (bL rfl rfl rfl rfl Tf.s56 Ya Ya (.tail (cY.head)) Ym trivial (Zj rfl (Zo (Zx (aC (Zad ?_)))))))));exact Zc [_,_] rfl ⟨⟨_,_,_,rfl,(List.Mem.tail _ (List.Mem.head _)),Or.inr ⟨Tf.a56,Tf.s56,rfl⟩⟩,rfl,trivial⟩ (fun D hD=>by unfold sW;rw[if_neg hf];rfl)
 ·have hf:(dT ls).2.2=0:=by simpa using hc1
  refine Zac (Zx (Zy (C.rg (Zk rfl Tf.f42_0 rfl (dU rfl Tf.a28 Tf.s28 rfl (List.Mem.head _) rfl rfl List.not_mem_nil rfl trivial (Zk rfl Tf.f42_0 rfl (Zk rfl Tf.f28_0 rfl (Zn rfl Tf.a25 rfl (List.Mem.head _) rfl (aY rfl U25 rfl (hL.pl.up RI.up (Le.refl _)) rfl rfl trivial (fW rfl rfl rfl Yf rfl trivial (Zd rfl (fun D2 hD2=>xW _ (dT ls).1.row 0 (((dT ls).1.row.places.length:Int)-1) _ (hL.row.up (hD2 _ Ye))) ?_)))))))))));refine Zz rfl (Zz rfl (bL rfl rfl rfl rfl Tf.s56 Ya Ya (.tail (cY.head)) Ym trivial (Zj rfl (Zo (Zx (aC ?_))))));exact Zc [_,_] rfl ⟨⟨_,_,_,rfl,(List.Mem.tail _ (List.Mem.head _)),Or.inr ⟨Tf.a56,Tf.s56,rfl⟩⟩,rfl,trivial⟩ (fun D hD=>by unfold sW;rw[if_pos hf];rfl)
end L12
end Go.Fs
namespace Go.Fs
variable{P:Program}{X:Cx}{γb:Type}[Membership Nat γb]{bad:γb}{all:Array Oper}{K:Act→World→Prop}{Q:Exit→Act→World→Prop}
variable{σ:bF}{μ:aB}{Ds:List aA}{os:List (Bool×Nat)}{fl:Bool}{ix:Nat}
variable{d:Nat}{x y z:Operand}{u v:Value}{ty:TypeId}{pos:String}{aft:Array Edge}{g:Option (Nat×Bool)}
section run
variable{t t1 e tr:TypeId}{sz:Nat}{z0:Value}{i0:TypeInfo}{ats:Array TypeId}
end run
def bc(l:List UInt8):List Value:=l.map fun b=>.int .u8 b.toNat

end Go.Fs
namespace Go.Fs
open Go.Proofs
namespace L12
open C12 Go.Lib
def TM(w:List UInt8)(lo hi:Int):List UInt8:=w++[32]++itoa lo++[46,46]++itoa hi++[10]
def UA(w:List UInt8)(n:Int):List UInt8:=w++[32]++itoa n++[10]
end L12
end Go.Fs
namespace Go.Fs
open Go.Proofs
namespace L12
open C12 Go.Lib
def NB(x:Int):Prop:= -1000≤x∧x≤100000
def TV(s:aK):Int×Int:=if C1.bE s.row (C1.iT s.row 0 ((s.row.places.length:Int)-1))=0 then(C1.tW (C1.truths s.row) (0:Int).toNat ((s.row.places.length:Int)-1).toNat,C1.uM (C1.truths s.row) (0:Int).toNat ((s.row.places.length:Int)-1).toNat)else(0,0)
def TJ(s:aK)(k:Nat):Int×Int:=if C2.fH s.table (C1.eY (k:Int) 0 ((s.table.levels.length:Int)-1))=0 then C2.nU s.table (s.table.levels.getD (k:Int).toNat 0)else(0,0)
def UG(s:aK):Int:=if C2.fH s.table (C2.jZ s.table.last 0 s.table.last)=0 then C2.M8 s.table 0 s.table.last else 0
def TK(s:aK):Int×Int:=if C3.TH s.book (C1.eY (s.book.lines.length:Int) 0 (s.book.lines.length:Int))=0 then L3.TQ (fun s=>s.money) s.book (s.book.lines.length:Int).toNat else(0,0)
def SQ(s:aK):Int×Int:=if C3.TH s.book true=0 then L3.TQ (fun s=>s.mixed) s.book s.book.lines.length else(0,0)
structure TD(s:aK):Prop where
 ch:NB (TV s).1∧NB (TV s).2
 le:NB (C1.JC s.row)
 wet:∀k,k<s.table.levels.length→NB (TJ s k).1∧NB (TJ s k).2
 dry:NB (UG s)
 lv:∀x∈(L3.p9 s.book).1,NB x
 lvn:(L3.p9 s.book).1.length≤100
 lev:s.table.levels.length≤6
 mon:NB (TK s).1∧NB (TK s).2
 mix:NB (SQ s).1∧NB (SQ s).2
 wh:NB (L7.fD s.yard).1.1∧NB (L7.fD s.yard).1.2
 su:NB (L7.SR s.yard).2.1
def r1(s:aK):List UInt8:=TM [99,104,97,105,114,115] (TV s).1 (TV s).2
def r2(s:aK):List UInt8:=r1 s++UA [108,101,97,115,116] (C1.JC s.row)
section
variable{s:aK}
variable(h:TD s)
include h
end
end L12
end Go.Fs
namespace Go.Fs
namespace C12

end C12
end Go.Fs
namespace Go.Fs
open Go.Proofs
namespace L12
open C12 Go.Lib
theorem sS{s:ByteArray}{k:Nat}{b:UInt8}(h:s.data.toList[k]?= some b):s[k]?= some b:=by
 have hk:k<s.size:=by simpa using(List.getElem?_eq_some_iff.1 h).1
 rw[getElem?_pos s k hk];congr 1;obtain⟨h1,h2⟩:=List.getElem?_eq_some_iff.1 h;rw[←h2];rfl
end L12
end Go.Fs
namespace Go.Fs
variable{P:Program}{X:Cx}{γb:Type}[Membership Nat γb]{bad:γb}{all:Array Oper}{K:Act→World→Prop}{Q:Exit→Act→World→Prop}
variable{σ:bF}{μ:aB}{Ds:List aA}{os:List (Bool×Nat)}{fl:Bool}{ix:Nat}
variable{d:Nat}{x y z:Operand}{u v:Value}{ty:TypeId}{pos:String}{aft:Array Edge}{g:Option (Nat×Bool)}
def RU:Rd UInt8:=fun _ b cs=>cs=[.int .u8 b.toNat]


theorem rX{t1 t2 e:TypeId}{D₁:aA}{l:List UInt8}(ho:all[ix]?= some ⟨some d,.convert t1 t2 x,ty,pos,aft,g⟩)(h1:P.underlying t1=some (.slice e))(he:P.underlying e=some (.int .u8))(h2:P.underlying t2=some .string)(hx:ev σ x=some v)(hS:Sl D₁ RU 1 v l)(hD:D₁∈Ds)
  (hbad:∀b o c,v=.slice (some ⟨b,o,none⟩) l.length c→l≠[]→b∉bad) (hN:Nat.blt d X.N=true) (hg:cR all σ g) (kk:WL P X bad all K Q os ((d,.string ⟨l.toArray⟩)::σ) μ Ds):WL P X bad all K Q ((fl,ix)::os) σ μ Ds:=
 kE ho rfl rfl hN hg (fun a w hh w' hk=>by
  have key:(Go.convert t1 t2 v).run P w'=.ok (.string ⟨l.toArray⟩) w':=by
   obtain⟨ad,cap,rfl,k1,k2,k3⟩:=hS;rcases k3 with k3|⟨b,o,rfl,k3⟩
   ·subst k3;cases ad with
    |none=>exact Go.run_convert_bytes_nil w' t1 e h1 he _ cap t2 h2
    |some ad=>exact Go.run_convert_bytes_back w' t1 t2 e ad cap [] h1 he h2 (fun j hj=>by cases hj)
   ·refine Go.run_convert_bytes_back w' t1 t2 e ⟨b,o,none⟩ cap l h1 he h2 (fun j hj=>?_);obtain⟨cs,hr,hc,hA⟩:=k3 j l[j] (List.getElem?_eq_getElem hj);obtain rfl:cs=[.int .u8 l[j].toNat]:=hr;have hb:b∉bad:=hbad b o cap rfl (fun h=>by subst h;cases hj)
    rw[eK];have:=hh.dataAt hD (hA 0 _ rfl) hb hk;simpa using this
  simp only[execOp,hh.eval hx];rw[Sem.run_bind,key];rfl) kk
end Go.Fs
namespace Go.Fs
open Go.Proofs
namespace L12
open C12 Go.Lib
def lP(ls:List ByteArray):List (List UInt8):=ls.map fun x=>x.data.toList
section
variable{P:Program}{X:Cx}{γb:Type}[Membership Nat γb]{bad:γb}{all:Array Oper}{K:Act→World→Prop}{Q:Exit→Act→World→Prop}{σ:bF}{μ:aB}{Ds:List aA}{os:List (Bool×Nat)}
end
end L12
end Go.Fs
namespace Go.Fs
variable{P:Program}{X:Cx}{γb:Type}[Membership Nat γb]{bad:γb}{all:Array Oper}{K:Act→World→Prop}{Q:Exit→Act→World→Prop}
variable{σ:bF}{μ:aB}{Ds:List aA}{os:List (Bool×Nat)}{fl:Bool}{ix:Nat}
variable{d:Nat}{x y z:Operand}{u v:Value}{ty:TypeId}{pos:String}{aft:Array Edge}{g:Option (Nat×Bool)}
end Go.Fs
namespace Go.Fs
open Go.Proofs
namespace L12
open C12 Go.Lib
theorem getD_some{l:List UInt8}{k:Nat}(h:k<l.length):l[k]?= some (l.getD k 0):=by simp[List.getD,List.getElem?_eq_getElem h]
section
variable{i n:Nat}{bs:List UInt8}{f0 f1 f2 f3:UInt8}
end
end L12
end Go.Fs
namespace Go.Fs
open Go.Proofs
namespace L12
open C12 Go.Lib
theorem Tf.z9:TZ Tryz.prog 9 (.string ⟨#[]⟩):=TZ.of Yg
section
variable{P:Program}{X:Cx}{Q:Exit→Act→World→Prop}{σ:bF}{μ:aB}{Ds:List aA}
theorem fE{c:Operand}{x y:Code}{b:Bool}(hc:ev σ c=some (.bool b))(hb:b=true)(h:WC P X Q x σ μ Ds):WC P X Q (.cond c x y) σ μ Ds:=aP hc (fun _=>h) (fun e=>by rw[hb]at e;cases e)
end
theorem PD{b:UInt8}{n:Nat}(h:((b.toNat:Nat):Int)=(n:Int))(_hn:n<256:=by decide):b=UInt8.ofNat n:=by
 have h1:b.toNat=n:=by omega
 rw[←h1];simp
theorem _root_.Go.Fs.kQ.strs{D:aA}{v:Value}{n:Nat}{l:List ByteArray}(h:kQ D v n (l.map Value.string))(hn:l.length=n)(hb:n≤9223372036854775807):Sl D RS 1 v l:=
 h.sl hn hb fun i x hx=>⟨_,rfl,rfl,by rw[Nat.mul_one,List.take_one,List.head?_drop,List.getElem?_map,hx];rfl⟩
theorem LQ(s:ByteArray)(a b:Nat):(s.extract a b).data.toList=(s.data.toList.drop a).take (b-a):=by simp[List.extract_eq_take_drop]
def lR(line:ByteArray)(i f:Nat)(ws:List ByteArray):Prop:=f≤i∧ws.length≤i∧gY line.data.toList=lP ws++gY (line.data.toList.drop f)∧(32:UInt8)∉(line.data.toList.drop f).take (i-f)
theorem lR.zero{line:ByteArray}:lR line 0 0 []:=⟨Nat.le_refl _,Nat.le_refl _,by simp[lP],by simp⟩
theorem DB{l:List UInt8}{f i:Nat}{b:UInt8}(hf:f≤i)(hb:l[i]?= some b):(l.drop f).take (i+1-f)=(l.drop f).take (i-f)++[b]:=by
 have h:(l.drop f)[i-f]?= some b:=by rw[List.getElem?_drop,show f+(i-f)=i by omega];exact hb
 rw[show i+1-f=i-f+1 by omega,List.take_add_one,h];rfl
theorem lR.miss{line:ByteArray}{i f:Nat}{ws:List ByteArray}{b:UInt8}(h:lR line i f ws)(hb:line.data.toList[i]?= some b)(hn:b≠32):lR line (i+1) f ws:=by
 obtain⟨h1,h2,h3,h4⟩:=h;refine⟨by omega,by omega,h3,?_⟩;rw[DB h1 hb,List.mem_append,List.mem_singleton];rintro(h|h)
 ·exact h4 h
 ·exact hn h.symm
theorem lR.hit{line:ByteArray}{i f:Nat}{ws:List ByteArray}{b:UInt8}(h:lR line i f ws)(hb:line.data.toList[i]?= some b)(hn:b=32):lR line (i+1) (i+1) (ws++[line.extract f i]):=by
 subst hn;obtain⟨h1,h2,h3,h4⟩:=h;refine⟨Nat.le_refl _,by simp;omega,?_,by simp⟩
 have hg:(line.data.toList.drop f)[i-f]?= some 32:=by rw[List.getElem?_drop,show f+(i-f)=i by omega];exact hb
 rw[h3,tD hg h4,List.drop_drop,show f+(i-f+1)=i+1 by omega];simp[lP]
theorem e8{line:ByteArray}{f:Nat}{ws:List ByteArray}(h:lR line line.size f ws):cK line=ws++[line.extract f line.size]:=by
 obtain⟨h1,h2,h3,h4⟩:=h;have hl:line.data.toList.length=line.size:=rfl;have ht:(line.data.toList.drop f).take (line.size-f)=line.data.toList.drop f:=List.take_of_length_le (by rw[List.length_drop,hl];exact Nat.le_refl _)
 rw[ht]at h4;unfold cK;rw[h3,nI h4,List.map_append,List.map_singleton];have e1:(lP ws).map vU=ws:=by
  unfold lP;rw[List.map_map]
  conv=>rhs;rw[←List.map_id ws]
  exact List.map_congr_left fun x _=>pD x
 rw[e1];congr 2;rw[←pD (line.extract f line.size),LQ,ht]
def vA(w:List UInt8):Int:=match iE.find? (fun x=>x.1==w)with
 |some (_,k,_)=>(k:Int)
 |none=> -1
def eX(l:List UInt8):Option (List Int):=match gY l with
 | []=>none
 |p::ps=>if vA p=(ps.length:Int)then ps.mapM jC else none
theorem UB{s:ByteArray}(h:0<s.size):s[(0:Int).toNat]?= some (s.data.toList.getD 0 0):=sS (getD_some (k:=0) h)
theorem RY{s:ByteArray}(h:((decide ((s.size:Int)<1)||decide (3<(s.size:Int)))||(decide (((s.data.toList.getD 0 0).toNat:Int)=48)&&decide (1<(s.size:Int))))=false):1≤s.size∧s.size≤3∧(s.data.toList.head?≠some 48∨s.size=1):=by
 simp only[Bool.or_eq_false_iff,Bool.and_eq_false_iff,decide_eq_false_iff_not]at h;obtain⟨⟨h1,h2⟩,h3⟩:=h;refine⟨by omega,by omega,?_⟩;rcases h3 with h3|h3
 ·left;intro e;apply h3;have:s.data.toList.getD 0 0=48:=by rw[List.getD,←List.head?_eq_getElem?,e];rfl
  rw[this];rfl
 ·right;omega
theorem OI{s:ByteArray}(h:((decide ((s.size:Int)<1)||decide (3<(s.size:Int)))||(decide (((s.data.toList.getD 0 0).toNat:Int)=48)&&decide (1<(s.size:Int))))=true):jC s.data.toList=none:=by
 have hl:s.data.toList.length=s.size:=rfl;simp only[Bool.or_eq_true,Bool.and_eq_true,decide_eq_true_eq]at h;unfold jC;rcases h with(h|h)|⟨h,h2⟩
 ·have h0:s.data.toList=[]:=List.eq_nil_of_length_eq_zero Yd;rw[h0];rfl
 ·exact if_neg Yd
 ·apply if_neg;rintro⟨_,h3|h3⟩
  ·apply h3;have h4:s.data.toList.getD 0 0=48:=PD (n:=48) h;rw[List.head?_eq_getElem?,getD_some (k:=0) Yd,h4]
  ·omega
theorem CZ{n k:Nat}(h:n<10^k)(hk:k≤3):n<1000:=Nat.lt_of_lt_of_le h (Nat.pow_le_pow_right Yz hk)
theorem KE{n k:Nat}{b:UInt8}(h:n<10^k)(hb:48≤b.toNat∧b.toNat≤57):n*10+(b.toNat-48)<10^(k+1):=by rw[Nat.pow_succ];omega
theorem LE{l:List UInt8}{k n:Nat}{b:UInt8}(hb:l[k]?= some b)(hd:48≤b.toNat∧b.toNat≤57):decFrom n (l.drop k)=decFrom (n*10+(b.toNat-48)) (l.drop (k+1)):=by
 have hk:=(List.getElem?_eq_some_iff.1 hb).1;rw[List.drop_eq_getElem_cons hk,Option.some.inj ((List.getElem?_eq_getElem hk).symm.trans hb)];simp only[decFrom,digitVal,hd,and_self,if_true]
theorem LO{s:ByteArray}(h:1≤s.size∧s.size≤3∧(s.data.toList.head?≠some 48∨s.size=1)):jC s.data.toList=(decFrom 0 s.data.toList).map fun n:Nat=>(n:Int):=by
 have hl:s.data.toList.length=s.size:=rfl;unfold jC;rw[if_pos ⟨by omega,by rw[hl];exact h.2.2⟩]
 unfold decNat;rw[if_neg];rw[List.isEmpty_iff];intro e;rw[e]at hl;simp at hl;omega
theorem CX{s:ByteArray}{k n:Nat}{b:UInt8}(hok:1≤s.size∧s.size≤3∧(s.data.toList.head?≠some 48∨s.size=1))(hd:decFrom 0 s.data.toList=decFrom n (s.data.toList.drop k))(hb:s.data.toList[k]?= some b)(hn:¬(48≤b.toNat∧b.toNat≤57)):jC s.data.toList=none:=by
 have hk:=(List.getElem?_eq_some_iff.1 hb).1;rw[LO hok,hd,List.drop_eq_getElem_cons hk,Option.some.inj ((List.getElem?_eq_getElem hk).symm.trans hb)];simp only[decFrom,digitVal,hn,if_false,Option.map_none]
theorem KO{s:ByteArray}{n:Nat}(hok:1≤s.size∧s.size≤3∧(s.data.toList.head?≠some 48∨s.size=1))(hd:decFrom 0 s.data.toList=decFrom n (s.data.toList.drop s.size)):jC s.data.toList=some (n:Int):=by
 have e:s.data.toList.drop s.size=[]:=List.drop_eq_nil_of_le (Nat.le_refl _);rw[LO hok,hd,e];rfl
theorem JX{line p0:ByteArray}{ps:List ByteArray}(h:cK line=p0::ps):gY line.data.toList=p0.data.toList::lP ps:=by
 unfold cK at h;cases hc:gY line.data.toList with
 |nil=>rw[hc]at h;cases h
 |cons p qs=>
  rw[hc]at h;simp only[List.map_cons,List.cons.injEq]at h;obtain⟨rfl,rfl⟩:=h;unfold lP;rw[List.map_map];congr 1
  conv=>lhs;rw[←List.map_id qs]
  exact List.map_congr_left fun x _=>rfl
theorem yV:∀ps:List ByteArray,(lP ps).mapM jC=ps.mapM mP
 | []=>rfl
 |p::ps=>by
  have h:lP (p::ps)=p.data.toList::lP ps:=rfl;rw[h,List.mapM_cons,List.mapM_cons,yV ps];rfl
theorem N1{line p0:ByteArray}{ps:List ByteArray}(h:cK line=p0::ps):eX line.data.toList=if vA p0.data.toList=(ps.length:Int)then ps.mapM mP else none:=by
 unfold eX;rw[JX h];simp only[yV];unfold lP;rw[List.length_map]
theorem DN{line p0:ByteArray}{ps:List ByteArray}(h:cK line=p0::ps)(h1:vA p0.data.toList≠((cK line).length:Int)-1):eX line.data.toList=none:=by
 rw[N1 h,if_neg];intro e;apply h1;rw[e,h,List.length_cons];omega
theorem MW{p0 x:ByteArray}{ps:List ByteArray}{k:Nat}(h:ps[k]?= some x):(p0::ps)[(((k+1:Nat):Int)).toNat]?= some x:=by rw[Int.toNat_natCast];simpa using h
theorem GS{line p0 x:ByteArray}{ps:List ByteArray}{k:Nat}(h:cK line=p0::ps)(_:¬vA p0.data.toList≠((cK line).length:Int)-1)(hx:ps[k]?= some x)(hn:jC x.data.toList=none):eX line.data.toList=none:=by
 rw[N1 h,uG hx hn,ite_self]
theorem BX{line p0:ByteArray}{ps:List ByteArray}{ns:List Int}(h:cK line=p0::ps)(h1:¬vA p0.data.toList≠((cK line).length:Int)-1)(hn:ps.mapM mP=some ns):eX line.data.toList=some ns:=by
 rw[N1 h,if_pos,hn];have:=Classical.not_not.1 h1;rw[this,h,List.length_cons];omega
theorem BL{w:ByteArray}(h0:¬w=⟨#[112,108,97,99,101]⟩)(h1:¬w=⟨#[117,110,99,111,117,110,116]⟩)(h2:¬w=⟨#[119,114,111,110,103]⟩)(h3:¬w=⟨#[111,102,102]⟩)(h4:¬w=⟨#[115,116,101,112]⟩)(h5:¬w=⟨#[108,101,118,101,108]⟩)(h6:¬w=⟨#[117,110,109,97,114,107]⟩)(h7:¬w=⟨#[115,109,117,100,103,101]⟩)(h8:¬w=⟨#[115,116,114,105,107,101]⟩)(h9:¬w=⟨#[102,105,116]⟩)(h10:¬w=⟨#[117,110,99,108,97,105,109]⟩)(h11:¬w=⟨#[115,101,101,110]⟩)(h12:¬w=⟨#[99,111,117,110,116]⟩)(h13:¬w=⟨#[98,97,99,107]⟩)(h14:¬w=⟨#[114,97,105,115,101]⟩)(h15:¬w=⟨#[104,105,114,101]⟩)(h16:¬w=⟨#[98,114,105,110,103]⟩)(h17:¬w=⟨#[99,108,97,105,109]⟩)(h18:¬w=⟨#[116,105,100,101]⟩)(h19:¬w=⟨#[112,97,114,116]⟩)(h20:¬w=⟨#[109,97,114,107]⟩)(h21:¬w=⟨#[98,114,111,107,101,110]⟩):vA w.data.toList= -1:=by
 have key:∀l:List UInt8,w≠⟨l.toArray⟩→(l==w.data.toList)=false:=fun l h=>by
  rw[beq_eq_false_iff_ne];rintro rfl;exact h (pD w).symm
 unfold vA iE;simp only[List.find?_cons,List.find?_nil,key [112,108,97,99,101] h0,key [117,110,99,111,117,110,116] h1,key [119,114,111,110,103] h2,key [111,102,102] h3,key [115,116,101,112] h4,key [108,101,118,101,108] h5,key [117,110,109,97,114,107] h6,key [115,109,117,100,103,101] h7,key [115,116,114,105,107,101] h8,key [102,105,116] h9,key [117,110,99,108,97,105,109] h10,key [115,101,101,110] h11,key [99,111,117,110,116] h12,key [98,97,99,107] h13,key [114,97,105,115,101] h14,key [104,105,114,101] h15,key [98,114,105,110,103] h16,key [99,108,97,105,109] h17,key [116,105,100,101] h18,key [112,97,114,116] h19,key [109,97,114,107] h20,key [98,114,111,107,101,110] h21]
theorem B2(line:ByteArray)(hl:line.size≤1000)(D:aA):Fn Tryz.prog 25 #[.string line] D (fun D' v=>Sl D' RS 1 v (cK line)):=by
 refine enter 31 Tryz.func25 rfl rfl rfl rfl fun h0=>Zy (C.rg (Zj rfl (Zo (Zx (Zy (C.rg (Zj rfl (Zo (Zx (Zy ?_))))))))));refine C.rg (Zj rfl (Zo (Zx (Zy (Zy (C.rg (Zj rfl (Zo (Zx (Zae (cZ (γ:=Nat×Nat×List ByteArray×Value×aB) (fun g=>line.size-g.1) (fun g=>g.1≤line.size∧lR line g.1 g.2.1 g.2.2.1∧bC 9 1 g.2.2.2.1 g.2.2.1.length (g.2.2.1.map Value.string) g.2.2.2.2) (fun g=>[(5,.int .i64 (g.1:Int)),(4,.int .i64 (g.2.1:Int)),(3,g.2.2.2.1)]) [(2,_),(0,_)] (fun g=>g.2.2.2.2++[]) (fun g=>[D]) (0,0,[],.slice none 0 0,[]) ⟨by simp,lR.zero,by simpa using bC.nil⟩ ⟨Yb,Yb,Yb,trivial⟩ C.rs (List.Sublist.refl _) (aG) ?_)))))))))))
 rintro⟨i,f,ws,v,ν⟩ ⟨h1,hw,ha⟩;simp only at h1 hw ha;have hfi:=hw.1;have hwl:=hw.2.1;refine Zy (Zy (C.rg (Za rfl (Za rfl (jK rfl U9 rfl rfl rfl trivial (Zaa rfl (Zo (Zx (aH rfl (fun hc1=>?_) (fun hc1=>?_))))))))))
 ·simp only at hc1;have hi:i<line.size:=by omega
  obtain⟨b,hb⟩:∃b,line.data.toList[i]?= some b:=⟨_,List.getElem?_eq_getElem (by simpa using hi)⟩
  refine Zac (Zx (Zy (Zae (Zy (C.rg (Za rfl (Za rfl (lV rfl U9 rfl rfl Yd (by rw[Int.toNat_natCast];exact sS hb) rfl trivial (eL rfl rfl rfl rfl trivial (Zo (Zx ?_)))))))))));refine aH rfl (fun hc2=>?_) (fun hc2=>?_)
  ·have hb32:b=32:=PD hc2;refine Zy (C.rg (Za rfl (Za rfl (Za rfl (Za rfl (o7 rfl U9 rfl rfl rfl (by first|omega|(simp only;omega)) (by first|omega|(simp only;omega)) (by first|omega|(simp only;omega)) rfl trivial (Zm rfl U22 Tf.s9 Tf.z9 rfl rfl rfl rfl (.cons rfl rfl .nil) (fun b901 D901 hD901 hA901=>aS (A:=[]) (B:=[]) rfl U22 rfl rfl Tf.s9 Tf.z9 rfl Tf.i9 rfl rfl rfl ha (iG.lit hA901) Ye rfl Yq Ym Yd (Or.inl rfl) rfl trivial (fun v1 ν1 ha1=>?_)))))))))
   have ha2:bC 9 1 v1 (ws++[line.extract f i]).length ((ws++[line.extract f i]).map Value.string) ν1:=by rw[List.length_append,List.map_append];exact ha1
   refine aI (ν1++[]) rfl (Zj rfl (Zo (Zx (C.rg (Za rfl (Zt rfl (Zj rfl (Zo (Zag (Zx (C.rg ?_)))))))))));refine Za rfl (Zt rfl (Zj rfl (Zo ?_)));exact aN 25 (i+1,i+1,ws++[line.extract f i],v1,ν1) ⟨by simp only;omega,hw.hit hb hb32,ha2⟩ Yo ⟨Yb,Yb,Yb,trivial⟩ rfl rfl (List.Sublist.refl _) (fun D h=>⟨D,List.Mem.tail _ (h),Le.refl D⟩)
  ·have hb32:b≠32:=fun e=>hc2 (by rw[e];rfl)
   refine Zac (Zag (Zx (C.rg (Za rfl (Zt rfl (Zj rfl (Zo ?_)))))));exact aN 14 (i+1,f,ws,v,ν) ⟨by simp only;omega,hw.miss hb hb32,ha⟩ Yo ⟨Yb,Yb,Yb,trivial⟩ rfl rfl (List.Sublist.refl _) (aG)
 ·obtain rfl:i=line.size:=by simp only at hc1;omega
  refine aZ (Zaf (Zaf (aE (Zx (Zy (C.rg (Za rfl (Za rfl (Za rfl (P9 rfl U9 rfl rfl (by first|omega|(simp only;omega)) (by first|omega|(simp only;omega)) rfl trivial (Zm rfl U22 Tf.s9 Tf.z9 rfl rfl rfl rfl (.cons rfl rfl .nil) (fun b902 D902 hD902 hA902=>?_))))))))))));refine aS (A:=[]) (B:=[]) rfl U22 rfl rfl Tf.s9 Tf.z9 rfl Tf.i9 rfl rfl rfl ha (iG.lit hA902) Ye rfl Yq Ym Yd (Or.inl rfl) rfl trivial (fun v2 ν2 ha2=>?_);have ha2:bC 9 1 v2 (ws++[line.extract f line.size]).length ((ws++[line.extract f line.size]).map Value.string) ν2:=by rw[List.length_append,List.map_append];exact ha2
  refine aI (ν2++[]) rfl (Zj rfl (Zo (Zx (aC (eW (A:=[]) (B:=[]) ha2 rfl (fun D9 hD9 hF9=>?_))))));exact Zc [_] rfl ⟨rfl,trivial⟩ (fun D hD=>(by rw[e8 hw];exact(hF9.strs rfl (by rw[List.length_append,List.length_singleton];omega)).up RS.up (hD _ Ye)))
theorem a8(s:ByteArray)(D:aA):Fn Tryz.prog 112 #[.string s] D (fun _ v=>∃m b,v=.tuple #[.int .i64 m,.bool b]∧(b=true→jC s.data.toList=some m)∧(b=false→jC s.data.toList=none)):=by
 refine enter 49 Tryz.func112 rfl rfl rfl rfl fun h0=>Zy (C.rg (Zj rfl (Zj rfl (Zo (Zx (Zy (Zy (C.rg (Za rfl (jK rfl U9 rfl rfl rfl trivial ?_))))))))));refine Zaa rfl (Za rfl ?_)
 refine' eI [(false,4),(false,5),(false,6),(false,7)] [(false,8),(false,9),(false,10),(false,11),(false,12),(false,13),(false,14),(false,15),(false,16),(false,17)] (s:=9) (p:=13) rfl rfl (fun hg1=>?_) (fun hg1=>?_) ?_;rotate_left
 ·refine Zb rfl (jK rfl U9 rfl rfl rfl ⟨_,rfl,rfl⟩ (dO rfl rfl rfl rfl ⟨_,rfl,rfl⟩ (Zw rfl ?_)));exact aF fun a w hh=>hh.cutK 3 rfl
 ·refine Zi rfl (Zi rfl (Zi rfl (Zv rfl ?_)));exact aF fun a w hh=>hh.cutK 3 rfl
 refine Za rfl ?_;refine' eI [(false,9),(false,10),(false,11),(false,12),(false,13),(false,14),(false,15),(false,16),(false,17)] [] (s:=14) (p:=23) rfl rfl (fun hg2=>?_) (fun hg2=>?_) ?_;rotate_left
 ·have hz:0<s.size:=by have:=hg2;simp at this;omega
  refine Zb rfl (lV rfl U9 rfl rfl Yd (UB hz) rfl ⟨_,rfl,rfl⟩ (eL rfl rfl rfl rfl ⟨_,rfl,rfl⟩ (Zb rfl ?_)));refine' dA [(false,13),(false,14),(false,15),(false,16)] [(false,17)] (s:=18) (p:=22) rfl rfl (fun hg3=>?_) (fun hg3=>?_) ?_;rotate_left
  ·refine Zb rfl (jK rfl U9 rfl rfl rfl ⟨_,rfl,rfl⟩ (dO rfl rfl rfl rfl ⟨_,rfl,rfl⟩ (mJ rfl rfl rfl rfl ⟨_,rfl,rfl⟩ ?_)));exact aF fun a w hh=>hh.cutK 3 rfl
  ·refine Zi rfl (Zi rfl (Zi rfl (mA rfl rfl rfl rfl ⟨_,rfl,rfl⟩ ?_)));exact aF fun a w hh=>hh.cutK 3 rfl
  refine Zw rfl ?_;exact aF fun a w hh=>hh.cutK 5 rfl
 ·refine Zi rfl (Zi rfl (Zi rfl (Zi rfl (Zi rfl (Zi rfl (Zi rfl (Zi rfl (Zv rfl ?_))))))));exact aF fun a w hh=>hh.cutK 8 rfl
 refine Zo (Zx (aP rfl (fun hc1=>?_) (fun hc1=>?_)))
 ·refine Zy (C.rg (Zj rfl (Zj rfl (Zo (Zx (aC (Zad ?_)))))));exact Zc [_,_] rfl C.rs (fun D hD=>⟨0,false,rfl,(fun h=>by cases h),fun _=>OI hc1⟩)
 ·have hok:=RY hc1;refine Zac (Zx (Zy (C.rg (Zj rfl (Zo (Zx (Zy (Zy (C.rg (Zj rfl (Zo ?_)))))))))));refine Zx (Zae (bS (γ:=Nat×Nat) (fun g=>s.size-g.1) (fun g=>g.1≤s.size∧g.2<10^g.1∧decFrom 0 s.data.toList=decFrom g.2 (s.data.toList.drop g.1)) (fun g=>[(5,.int .i64 (g.1:Int)),(4,.int .i64 (g.2:Int))]) [(3,_),(2,_),(0,_)] (fun g=>[D]) (0,0) ⟨by simp,by simp,by simp⟩ ⟨Yb,Yb,trivial⟩ C.rs (aG) ?_));rintro⟨k,n⟩ ⟨h1,hn,hd⟩;simp only at h1 hn hd;have hn3:=CZ hn (Nat.le_trans h1 hok.2.1);refine Zy (Zy (C.rg (Za rfl (Za rfl (jK rfl U9 rfl rfl rfl trivial (Zaa rfl (Zo (Zx (aH rfl (fun hc2=>?_) (fun hc2=>?_))))))))))
  ·simp only at hc2;have hk:k<s.size:=by omega
   obtain⟨b,hb⟩:∃b,s.data.toList[k]?= some b:=⟨_,List.getElem?_eq_getElem (by simpa using hk)⟩
   have hb0:=b.toNat_lt;refine Zac (Zx (Zy (Zae (Zy (Zy (C.rg (Za rfl (Za rfl (lV rfl U9 rfl rfl Yd (by rw[Int.toNat_natCast];exact sS hb) rfl trivial (Zaa rfl (Za rfl ?_)))))))))))
   refine' eI [(false,5),(false,6),(false,7),(false,8),(false,9)] [] (s:=34) (p:=39) rfl rfl (fun hg4=>?_) (fun hg4=>?_) ?_;rotate_left
   ·refine Zb rfl (Zb rfl (lV rfl U9 rfl rfl Yd (by rw[Int.toNat_natCast];exact sS hb) rfl ⟨_,rfl,rfl⟩ (dO rfl rfl rfl rfl ⟨_,rfl,rfl⟩ (Zw rfl ?_))));exact aF fun a w hh=>hh.cutK 4 rfl
   ·refine Zi rfl (Zi rfl (Zi rfl (Zi rfl (Zv rfl ?_))));exact aF fun a w hh=>hh.cutK 4 rfl
   refine Zo (Zx (aP rfl (fun hc3=>?_) (fun hc3=>?_)))
   ·refine Zy (C.rg (Zj rfl (Zj rfl (Zo (Zx (aC (Zad (aD (Zad (Zad (aD ?_)))))))))));refine Zad ?_;exact Zc [_,_] rfl C.rs (fun D hD=>⟨0,false,rfl,(fun h=>by cases h),fun _=>CX hok hd hb (by simp at hc3;omega)⟩)
   ·have hbd:48≤b.toNat∧b.toNat≤57:=by simp at hc3;omega
    refine Zac (Zx (C.rg (Za rfl (JU rfl rfl rfl Yf rfl trivial (Za rfl (Za rfl (lV rfl U9 rfl rfl Yd (by rw[Int.toNat_natCast];exact sS hb) rfl trivial (fW rfl rfl rfl Yf rfl trivial (vZ rfl U5 U3 rfl Yf rfl trivial (Zt rfl (Zj rfl ?_)))))))))));refine Zo (Zag (Zx (C.rg (Za rfl (Zt rfl (Zj rfl (Zo ?_)))))));exact aN 24 (k+1,n*10+(b.toNat-48)) ⟨by simp only;omega,KE hn hbd,by simp only;rw[hd,LE hb hbd]⟩ Yo ⟨Yb,(by show some (Value.int _ _)=some (Value.int _ _);congr 2;simp only;omega),trivial⟩ rfl rfl (List.Sublist.refl _) (aG)
  ·obtain rfl:k=s.size:=by simp only at hc2;omega
   refine aZ (Zaf (Zaf (aE (Zx (Zy (C.rg (Za rfl (Zj rfl (Zj rfl (Zo (Zx ?_)))))))))));refine aC ?_;exact Zc [_,_] rfl C.rs (fun D hD=>⟨_,true,rfl,fun _=>KO hok hd,fun h=>by cases h⟩)
theorem LI(w:ByteArray)(D:aA):Fn Tryz.prog 111 #[.string w] D (fun _ v=>v=.int .i64 (vA w.data.toList)):=by
 refine enter 31 Tryz.func111 rfl rfl rfl rfl fun h0=>Zy (C.rg (Zj rfl (Zo (Zx (Zy (Zy (C.rg (Za rfl (Zo (Zx ?_))))))))));refine Zae (Zy (C.rg (bN rfl rfl rfl rfl trivial (Zj rfl (Zo (Zx (aP rfl (fun hc1=>?_) (fun hc1=>?_))))))))
 ·refine Zy (C.rg (Zj rfl (Zo (Zx (aC (aD (Zad ?_)))))));exact Zc [_] rfl ⟨rfl,trivial⟩ (fun D hD=>by obtain rfl:=of_decide_eq_true hc1;rfl)
 ·refine Zy (Zy (C.rg (bN rfl rfl rfl rfl trivial (Zj rfl (Zo (Zx (aP rfl (fun hc2=>?_) (fun hc2=>?_))))))))
  ·refine Zac (Zx (fE rfl hc2 (Zy (C.rg (Zj rfl (Zo (Zx (aC (aD (Zad ?_))))))))));exact Zc [_] rfl ⟨rfl,trivial⟩ (fun D hD=>by obtain rfl:=of_decide_eq_true hc2;rfl)
  ·refine Zy (C.rg (bN rfl rfl rfl rfl trivial (Zj rfl (Zo (Zx (aP rfl (fun hc3=>?_) (fun hc3=>?_)))))))
   ·refine Zac (Zx (fE rfl hc3 (Zy (C.rg (Zj rfl (Zo (Zx (aC (aD (Zad ?_))))))))));exact Zc [_] rfl ⟨rfl,trivial⟩ (fun D hD=>by obtain rfl:=of_decide_eq_true hc3;rfl)
   ·refine Zy (C.rg (bN rfl rfl rfl rfl trivial (Zj rfl (Zo (Zx (aP rfl (fun hc4=>?_) (fun hc4=>?_)))))))
    ·refine Zac (Zx (fE rfl hc4 (Zy (C.rg (Zj rfl (Zo (Zx (aC (aD (Zad ?_))))))))));exact Zc [_] rfl ⟨rfl,trivial⟩ (fun D hD=>by obtain rfl:=of_decide_eq_true hc4;rfl)
    ·refine Zy (C.rg (bN rfl rfl rfl rfl trivial (Zj rfl (Zo (Zx (aP rfl (fun hc5=>?_) (fun hc5=>?_)))))))
     ·refine Zac (Zx (fE rfl hc5 (Zy (C.rg (Zj rfl (Zo (Zx (aC (aD (Zad ?_))))))))));exact Zc [_] rfl ⟨rfl,trivial⟩ (fun D hD=>by obtain rfl:=of_decide_eq_true hc5;rfl)
     ·refine Zy (C.rg (bN rfl rfl rfl rfl trivial (Zj rfl (Zo (Zx (aP rfl (fun hc6=>?_) (fun hc6=>?_)))))))
      ·refine Zac (Zx (fE rfl hc6 (Zy (C.rg (Zj rfl (Zo (Zx (aC (aD (Zad ?_))))))))));exact Zc [_] rfl ⟨rfl,trivial⟩ (fun D hD=>by obtain rfl:=of_decide_eq_true hc6;rfl)
      ·refine Zy (C.rg (bN rfl rfl rfl rfl trivial (Zj rfl (Zo (Zx (aP rfl (fun hc7=>?_) (fun hc7=>?_)))))))
       ·refine Zac (Zx (fE rfl hc7 (Zy (C.rg (Zj rfl (Zo (Zx (aC (aD (Zad ?_))))))))));exact Zc [_] rfl ⟨rfl,trivial⟩ (fun D hD=>by obtain rfl:=of_decide_eq_true hc7;rfl)
       ·refine Zy (C.rg (bN rfl rfl rfl rfl trivial (Zj rfl (Zo (Zx (aP rfl (fun hc8=>?_) (fun hc8=>?_)))))))
        ·refine Zac (Zx (fE rfl hc8 (Zy (C.rg (Zj rfl (Zo (Zx (aC (aD (Zad ?_))))))))));exact Zc [_] rfl ⟨rfl,trivial⟩ (fun D hD=>by obtain rfl:=of_decide_eq_true hc8;rfl)
        ·refine Zy (C.rg (bN rfl rfl rfl rfl trivial (Zj rfl (Zo (Zx (aP rfl (fun hc9=>?_) (fun hc9=>?_)))))))
         ·refine Zac (Zx (fE rfl hc9 (Zy (C.rg (Zj rfl (Zo (Zx (aC (aD (Zad ?_))))))))));exact Zc [_] rfl ⟨rfl,trivial⟩ (fun D hD=>by obtain rfl:=of_decide_eq_true hc9;rfl)
         ·refine Zy (C.rg (bN rfl rfl rfl rfl trivial (Zj rfl (Zo (Zx (aP rfl (fun hc10=>?_) (fun hc10=>?_)))))))
          ·refine Zac (Zx (fE rfl hc10 (Zy (C.rg (Zj rfl (Zo (Zx (aC (aD (Zad ?_))))))))));exact Zc [_] rfl ⟨rfl,trivial⟩ (fun D hD=>by obtain rfl:=of_decide_eq_true hc10;rfl)
          ·refine C.rg (bN rfl rfl rfl rfl trivial (Zj rfl (Zo (Zx (aP rfl (fun hc11=>?_) (fun hc11=>?_))))))
           ·refine Zy (C.rg (Zj rfl (Zo (Zx (aC (aD (Zad ?_)))))));exact Zc [_] rfl ⟨rfl,trivial⟩ (fun D hD=>by obtain rfl:=of_decide_eq_true hc11;rfl)
           ·refine Zy (Zy (C.rg (bN rfl rfl rfl rfl trivial (Zj rfl (Zo (Zx (aP rfl (fun hc12=>?_) (fun hc12=>?_))))))))
            ·refine Zac (Zx (fE rfl hc12 (Zy (C.rg (Zj rfl (Zo (Zx (aC (aD (Zad ?_))))))))));exact Zc [_] rfl ⟨rfl,trivial⟩ (fun D hD=>by obtain rfl:=of_decide_eq_true hc12;rfl)
            ·refine Zy (C.rg (bN rfl rfl rfl rfl trivial (Zj rfl (Zo (Zx (aP rfl (fun hc13=>?_) (fun hc13=>?_)))))))
             ·refine Zac (Zx (fE rfl hc13 (Zy (C.rg (Zj rfl (Zo (Zx (aC (aD (Zad ?_))))))))));exact Zc [_] rfl ⟨rfl,trivial⟩ (fun D hD=>by obtain rfl:=of_decide_eq_true hc13;rfl)
             ·refine Zy (C.rg (bN rfl rfl rfl rfl trivial (Zj rfl (Zo (Zx (aP rfl (fun hc14=>?_) (fun hc14=>?_)))))))
              ·refine Zac (Zx (fE rfl hc14 (Zy (C.rg (Zj rfl (Zo (Zx (aC (aD (Zad ?_))))))))));exact Zc [_] rfl ⟨rfl,trivial⟩ (fun D hD=>by obtain rfl:=of_decide_eq_true hc14;rfl)
              ·refine Zy (C.rg (bN rfl rfl rfl rfl trivial (Zj rfl (Zo (Zx (aP rfl (fun hc15=>?_) (fun hc15=>?_)))))))
               ·refine Zac (Zx (fE rfl hc15 (Zy (C.rg (Zj rfl (Zo (Zx (aC (aD (Zad ?_))))))))));exact Zc [_] rfl ⟨rfl,trivial⟩ (fun D hD=>by obtain rfl:=of_decide_eq_true hc15;rfl)
               ·refine Zy (C.rg (bN rfl rfl rfl rfl trivial (Zj rfl (Zo (Zx (aP rfl (fun hc16=>?_) (fun hc16=>?_)))))))
                ·refine Zac (Zx (fE rfl hc16 (Zy (C.rg (Zj rfl (Zo (Zx (aC (aD (Zad ?_))))))))));exact Zc [_] rfl ⟨rfl,trivial⟩ (fun D hD=>by obtain rfl:=of_decide_eq_true hc16;rfl)
                ·refine Zy (C.rg (bN rfl rfl rfl rfl trivial (Zj rfl (Zo (Zx (aP rfl (fun hc17=>?_) (fun hc17=>?_)))))))
                 ·refine Zac (Zx (fE rfl hc17 (Zy (C.rg (Zj rfl (Zo (Zx (aC (aD (Zad ?_))))))))));exact Zc [_] rfl ⟨rfl,trivial⟩ (fun D hD=>by obtain rfl:=of_decide_eq_true hc17;rfl)
                 ·refine C.rg (bN rfl rfl rfl rfl trivial (Zj rfl (Zo (Zx (aP rfl (fun hc18=>?_) (fun hc18=>?_))))))
                  ·refine Zy (C.rg (Zj rfl (Zo (Zx (aC (aD (Zad ?_)))))));exact Zc [_] rfl ⟨rfl,trivial⟩ (fun D hD=>by obtain rfl:=of_decide_eq_true hc18;rfl)
                  ·refine Zy (Zy (C.rg (bN rfl rfl rfl rfl trivial (Zj rfl (Zo (Zx (aP rfl (fun hc19=>?_) (fun hc19=>?_))))))))
                   ·refine Zac (Zx (fE rfl hc19 (Zy (C.rg (Zj rfl (Zo (Zx (aC (aD (Zad ?_))))))))));exact Zc [_] rfl ⟨rfl,trivial⟩ (fun D hD=>by obtain rfl:=of_decide_eq_true hc19;rfl)
                   ·refine C.rg (bN rfl rfl rfl rfl trivial (Zj rfl (Zo (Zx (aP rfl (fun hc20=>?_) (fun hc20=>?_))))))
                    ·refine Zy (C.rg (Zj rfl (Zo (Zx (aC (aD (Zad ?_)))))));exact Zc [_] rfl ⟨rfl,trivial⟩ (fun D hD=>by obtain rfl:=of_decide_eq_true hc20;rfl)
                    ·refine Zy (Zy (C.rg (bN rfl rfl rfl rfl trivial (Zj rfl (Zo (Zx (aP rfl (fun hc21=>?_) (fun hc21=>?_))))))))
                     ·refine Zac (Zx (fE rfl hc21 (Zy (C.rg (Zj rfl (Zo (Zx (aC (aD (Zad ?_))))))))));exact Zc [_] rfl ⟨rfl,trivial⟩ (fun D hD=>by obtain rfl:=of_decide_eq_true hc21;rfl)
                     ·refine C.rg (bN rfl rfl rfl rfl trivial (Zj rfl (Zo (Zx (aP rfl (fun hc22=>?_) (fun hc22=>?_))))))
                      ·refine Zy (C.rg (Zj rfl (Zo (Zx (aC (aD (Zad ?_)))))));exact Zc [_] rfl ⟨rfl,trivial⟩ (fun D hD=>by obtain rfl:=of_decide_eq_true hc22;rfl)
                      ·refine Zac (Zag (Zx (Zy (C.rg (Zj rfl (Zo (Zx (aC ?_))))))));exact Zc [_] rfl ⟨rfl,trivial⟩ (fun D hD=>by show Value.int _ _=_;rw[BL (w:=w) (of_decide_eq_false hc1) (of_decide_eq_false hc2) (of_decide_eq_false hc3) (of_decide_eq_false hc4) (of_decide_eq_false hc5) (of_decide_eq_false hc6) (of_decide_eq_false hc7) (of_decide_eq_false hc8) (of_decide_eq_false hc9) (of_decide_eq_false hc10) (of_decide_eq_false hc11) (of_decide_eq_false hc12) (of_decide_eq_false hc13) (of_decide_eq_false hc14) (of_decide_eq_false hc15) (of_decide_eq_false hc16) (of_decide_eq_false hc17) (of_decide_eq_false hc18) (of_decide_eq_false hc19) (of_decide_eq_false hc20) (of_decide_eq_false hc21) (of_decide_eq_false hc22)])
theorem U8(line:ByteArray)(hl:line.size≤1000)(D:aA):Fn Tryz.prog 65 #[.string line] D (fun D' v=>∃nv b,v=.tuple #[nv,.bool b]∧(match eX line.data.toList with|some ns=>b=true∧Sl D' RI 1 nv ns|none=>b=false)):=by
 obtain⟨p0,ps,hcut⟩:=rO line;have hcl:=tN line;have hp0:(cK line)[0]?= some p0:=by rw[hcut];rfl
 have hpl:(cK line).length=ps.length+1:=by rw[hcut];rfl
 refine enter 40 Tryz.func65 rfl rfl rfl rfl fun h0=>Zy (C.rg (Zj rfl (Zj rfl (Zo (Zx (Zy (C.rg (Za rfl (cW rfl rfl rfl (fun D1 hD1=>B2 line hl _) rfl trivial (fun v1 D1 hD1 hp1=>Zj rfl ?_))))))))));refine Zo (Zx (Zy (Zy (C.rg (Za rfl (aJ rfl U22 Tf.s9 rfl hp1 rfl Yd hp0 rfl trivial (fun b1 o1 cs1 hr1 hcl1 hA1=>?_)))))))
 obtain rfl:cs1=[.string _]:=hr1;refine Zg 0 rfl Tf.a9 rfl hA1 rfl (Zd rfl (fun D2 hD2=>LI p0 _) (Za rfl (aY rfl U22 rfl hp1 rfl rfl trivial (fW rfl rfl rfl Yf rfl trivial (dQ rfl rfl rfl rfl trivial (Zo (Zx (aH rfl (fun hc1=>?_) (fun hc1=>?_)))))))))
 ·refine Zy (C.rg (Zj rfl (Zj rfl (Zo (Zx (aC (Zad ?_)))))));exact Zc [_,_] rfl C.rs (fun D hD=>⟨_,false,rfl,by rw[DN hcut hc1]⟩)
 ·refine Zac (Zx (Zy (C.rg (Zj rfl (Zo (Zx (Zy (Zy (C.rg (Zj rfl (Zo ?_)))))))))));refine Zx (Zae (cZ (γ:=Nat×List Int×Value×aB) (fun g=>ps.length-g.1) (fun g=>g.1≤ps.length∧(ps.take g.1).mapM mP=some g.2.1∧g.2.1.length=g.1∧bC 3 1 g.2.2.1 g.1 (ints g.2.1) g.2.2.2) (fun g=>[(6,.int .i64 ((g.1+1:Nat):Int)),(5,g.2.2.1)]) [(4,_),(3,_),(2,_)] (fun g=>g.2.2.2++[]) (fun g=>[D1,D]) (0,[],.slice none 0 0,[]) ⟨by simp,rfl,rfl,by simpa [ints]using bC.nil⟩ ⟨Yb,Yb,trivial⟩ C.rs (List.Sublist.refl _) (aG) ?_));rintro⟨k,ns,v,ν⟩ ⟨h1,h2,h3,ha⟩;simp only at h1 h2 h3 ha;refine Zy (Zy (C.rg (Za rfl (Za rfl (aY rfl U22 rfl hp1 rfl rfl trivial (Zaa rfl (Zo (Zx (aH rfl (fun hc2=>?_) (fun hc2=>?_))))))))))
  ·simp only at hc2;have hk:k<ps.length:=by omega
   obtain⟨x,hx⟩:∃x,ps[k]?= some x:=⟨_,List.getElem?_eq_getElem hk⟩
   refine Zac (Zx (Zy (Zae (Zy (C.rg (Za rfl (Za rfl (aJ rfl U22 Tf.s9 rfl hp1 rfl Yd (by rw[hcut];exact MW hx) rfl trivial (fun b2 o2 cs2 hr2 hcl2 hA2=>?_)))))))));obtain rfl:cs2=[.string _]:=hr2;refine Zg 0 rfl Tf.a9 rfl hA2 rfl (cW rfl rfl rfl (fun D3 hD3=>a8 x _) rfl trivial (fun v3 D3 hD3 hp3=>?_));obtain⟨m,nb,rfl,h51,h52⟩:=hp3;refine Za rfl (Zz rfl (Zz rfl (Zj rfl (Zj rfl (Zo (Zx (Zy (Zy (C.rg (Za rfl (bV rfl rfl rfl trivial ?_)))))))))));refine Zo (Zx (aP rfl (fun hc3=>?_) (fun hc3=>?_)))
   ·refine Zy (C.rg (Zj rfl (Zj rfl (Zo (Zx (aC (Zad (aD (Zad (Zad (aD ?_)))))))))));refine Zad ?_;exact Zc [_,_] rfl C.rs (fun D hD=>⟨_,false,rfl,by rw[GS hcut hc1 hx (h52 (by simpa using hc3))]⟩)
   ·have hnb:nb=true:=by simpa using hc3
    refine Zac (Zx (C.rg (Za rfl (Za rfl (Zm rfl U25 Tf.s3 Tf.z3 rfl rfl rfl rfl (.cons rfl rfl .nil) (fun b901 D901 hD901 hA901=>?_))))));have hS901:=Sl.ofInts (l:=[_]) (n:=1) (cap:=1) hA901 rfl Yd Yd;refine aS (A:=[]) (B:=[]) rfl U25 rfl rfl Tf.s3 Tf.z3 rfl Tf.i3 rfl rfl rfl ha (iG.lit hA901) Ye rfl (by simp[ints,h3]) Ym Yd (Or.inl rfl) rfl trivial (fun v1 ν1 ha1=>?_);have ha2:bC 3 1 v1 (k+1) (ints (ns++[m])) ν1:=by rw[←eG];exact ha1
    refine aI (ν1++[]) rfl (Zj rfl (Zo (Zag (Zx (C.rg (Za rfl (Zt rfl (Zj rfl (Zo ?_)))))))));exact aN 26 (k+1,ns++[m],v1,ν1) ⟨by simp only;omega,P4 hx h2 (h51 hnb),by simp[h3],ha2⟩ Yo ⟨Yb,Yb,trivial⟩ rfl rfl (List.Sublist.refl _) (fun D h=>⟨D,List.Mem.tail _ (List.Mem.tail _ (h)),Le.refl D⟩)
  ·obtain rfl:k=ps.length:=by simp only at hc2;omega
   rw[List.take_length]at h2;refine aZ (Zaf (Zaf (aE (Zx (Zy (C.rg (Za rfl (Zj rfl (Zj rfl (Zo (Zx ?_)))))))))));refine aC (eW (A:=[]) (B:=[]) ha rfl (fun D9 hD9 hF9=>?_));have hns:=hF9.ints (l:=ns) h3 Yd;exact Zc [_,_] rfl C.rs (fun D hD=>⟨_,true,rfl,by rw[BX hcut hc1 h2];exact⟨rfl,hns.up RI.up (hD _ Ye)⟩⟩)
end L12
end Go.Fs
namespace Go.Fs
variable{P:Program}{X:Cx}{γb:Type}[Membership Nat γb]{bad:γb}{all:Array Oper}{K:Act→World→Prop}{Q:Exit→Act→World→Prop}
variable{σ:bF}{μ:aB}{Ds:List aA}{os:List (Bool×Nat)}{fl:Bool}{ix:Nat}
variable{d:Nat}{x y z:Operand}{u v:Value}{ty:TypeId}{pos:String}{aft:Array Edge}{g:Option (Nat×Bool)}
end Go.Fs
