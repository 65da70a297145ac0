/- Of the proof of BookNames: BW18, BW19, BW20, BW21, Bytes, BW22, BW23, File, BW24. -/
import Derived.Test.YtelhnbcdablgoaaGreatDoorZBookNamesAJ
import Derived.Test.YtelhnbcdablgoaaGreatDoorZBookNamesAI
import Derived.Lib.AppendStr
import Derived.Lib.UnsafeStr
import Derived.Lib.Builder
import Derived.Laws.Externs
namespace Go.Fs
open Go.Proofs Tryz
namespace L12
open C12
def X2(D:aC)(wb:Nat)(s:aQ)(ν:aD):Prop:=∃pv cv hv lv mv bl bc yc yq ν1 ν2 ν3 ν4 ν5 ν6 ν7 ν8,ν=(wb,qC (cR s pv cv hv lv mv bl bc yc yq) 253)::(ν8++(ν7++(ν6++(ν5++(ν4++(ν3++(ν2++ν1)))))))∧aWM D s pv cv hv lv mv bl bc yc yq ν1 ν2 ν3 ν4 ν5 ν6 ν7 ν8
def gV(P:Program)(f:FuncId)(k:Nat)(act:iJ):Prop:=∀(wb:Nat) (s:aQ) (nv:Value) (n:List Int) (ν:aD) (D:aC),Sl D RI 1 nv n→n.length=k→(∀x∈n,0≤x∧x≤999)→X2 D wb s ν→N0 s→
 mC P f [qP wb,nv] D ν (fun D' _ ν'=>∃s',act s n=.ok s'∧X2 D' wb s' ν') (fun v=>∃c,act s n=.error c∧v=fE c)
theorem _root_.Go.Fs.mC.frameE{P:Program}{f:FuncId}{args:List Value}{D:aC}{ν A B:aD}{post:aC→Value→aD→Prop}{pan:Value→Prop}(h:mC P f args D ν post pan):mC P f args D (A++ν++B) (fun D' v ν'=>∃G,post D' v G∧ν'=A++G++B) pan:=h.frame fun _ _ ν' _ hp=>⟨ν',hp,rfl⟩
theorem BL{l:List Int}(h:l.length=1):∃a,l=[a]:=by match l,h with| [a],_=>exact⟨a,rfl⟩
theorem QU{l:List Int}(h:l.length=2):∃a b,l=[a,b]:=by match l,h with| [a,b],_=>exact⟨a,b,rfl⟩
theorem aVQ{l:List Int}(h:l.length=3):∃a b c,l=[a,b,c]:=by match l,h with| [a,b,c],_=>exact⟨a,b,c,rfl⟩
theorem aVX{l:List Int}(h:l.length=4):∃a b c d,l=[a,b,c,d]:=by match l,h with| [a,b,c,d],_=>exact⟨a,b,c,d,rfl⟩
theorem R7{e sz n:Nat}{cells:List Value}{v:Value}{ν:aD}(h:bZ e sz v n cells ν):∃x c,v=.slice x n c:=by
 rcases h with⟨a,rfl,rfl,_,_⟩|⟨b,cap,junk,rfl,_,_,_⟩
 ·exact⟨a,0,rfl⟩
 ·exact⟨_,cap,rfl⟩
theorem PL:gV prog 168 0 (V7):=by
 rintro wb s nv n ν D hn hlen hr ⟨pv,cv,hv,lv,mv,bl,bc,yc,yq,ν1,ν2,ν3,ν4,ν5,ν6,ν7,ν8,rfl,hO⟩ hsm;obtain rfl:n=[]:=List.eq_nil_of_length_eq_zero hlen;refine mC.reorder (ν:=[]++((wb,qC (cR s pv cv hv lv mv bl bc yc yq) 253)::ν1)++(ν8++(ν7++(ν6++(ν5++(ν4++(ν3++(ν2)))))))) ((YC wb s pv cv hv lv mv bl bc yc yq nv ν1 D hO.pl hsm.pl).frameE) Yk ?_ ?_
 ·rintro D' v ν' hle ⟨_,⟨hc,G,νz,rfl,hacc⟩,rfl⟩;refine⟨(wb,qC (cR s G cv hv lv mv bl bc yc yq) 253)::(ν8++(ν7++(ν6++(ν5++(ν4++(ν3++(ν2++(νz)))))))),Yl,setRow s {s.row with places:=s.row.places++[2]},by unfold V7;simp only[];repeat (first|rw[aYJ Yd]|rw[aYC Yd]),G,cv,hv,lv,mv,bl,bc,yc,yq,νz,ν2,ν3,ν4,ν5,ν6,ν7,ν8,rfl,?_⟩
  exact⟨(by have hz:(s.row.places++[2]).length=s.row.places.length+1:=Ye;show bZ _ _ _ (s.row.places++[2]).length _ _;rw[hz];exact hacc),hO.ct,hO.ht,hO.lev,hO.mks,hO.ln,hO.cn.up uN.up hle,hO.ch,hO.cl⟩
 ·rintro v ⟨h1,rfl⟩;exact⟨_,by unfold V7;simp only[];repeat (first|rw[aYJ Yd]|rw[aYC Yd]),rfl⟩
theorem ZX:gV prog 169 2 (y2):=by
 rintro wb s nv n ν D hn hlen hr ⟨pv,cv,hv,lv,mv,bl,bc,yc,yq,ν1,ν2,ν3,ν4,ν5,ν6,ν7,ν8,rfl,hO⟩ hsm;obtain⟨a,b,rfl⟩:=QU hlen;have ha:0≤a:=(hr a Ye).1;refine mC.reorder (ν:=[]++((wb,qC (cR s pv cv hv lv mv bl bc yc yq) 253)::ν1)++(ν8++(ν7++(ν6++(ν5++(ν4++(ν3++(ν2)))))))) ((aHY wb s pv cv hv lv mv bl bc yc yq nv a b ν1 D hn hO.pl hsm.pl ha).frameE) Yk ?_ ?_
 ·rintro D' v ν' hle ⟨_,⟨hc,νz,rfl,hacc⟩,rfl⟩;refine⟨(wb,qC (cR s pv cv hv lv mv bl bc yc yq) 253)::(ν8++(ν7++(ν6++(ν5++(ν4++(ν3++(ν2++(νz)))))))),Yl,setRow s {s.row with places:=s.row.places.set a.toNat b},by unfold y2;simp only[];repeat (first|rw[aYJ Yd]|rw[aYC Yd]),pv,cv,hv,lv,mv,bl,bc,yc,yq,νz,ν2,ν3,ν4,ν5,ν6,ν7,ν8,rfl,?_⟩
  exact⟨(by have hz:(s.row.places.set a.toNat b).length=s.row.places.length:=Ye;show bZ _ _ _ (s.row.places.set a.toNat b).length _ _;rw[hz];exact hacc),hO.ct,hO.ht,hO.lev,hO.mks,hO.ln,hO.cn.up uN.up hle,hO.ch,hO.cl⟩
 ·rintro v (⟨h1,rfl⟩|⟨h1,h2,rfl⟩)
  ·exact⟨_,by unfold y2;simp only[];repeat (first|rw[aYJ Yd]|rw[aYC Yd]),rfl⟩
  ·exact⟨_,by unfold y2;simp only[];repeat (first|rw[aYJ Yd]|rw[aYC Yd]),rfl⟩
theorem PD:gV prog 170 2 (qJ false):=by
 rintro wb s nv n ν D hn hlen hr ⟨pv,cv,hv,lv,mv,bl,bc,yc,yq,ν1,ν2,ν3,ν4,ν5,ν6,ν7,ν8,rfl,hO⟩ hsm;obtain⟨a,b,rfl⟩:=QU hlen;refine mC.reorder (ν:=[]++((wb,qC (cR s pv cv hv lv mv bl bc yc yq) 253)::ν2)++(ν8++(ν7++(ν6++(ν5++(ν4++(ν3++(ν1)))))))) ((aAU wb s pv cv hv lv mv bl bc yc yq nv a b ν2 D hn hO.ct hsm.ct (R7 hO.pl)).frameE) Yk ?_ ?_
 ·rintro D' v ν' hle ⟨_,⟨hc,G,νz,rfl,hacc⟩,rfl⟩;refine⟨(wb,qC (cR s pv G hv lv mv bl bc yc yq) 253)::(ν8++(ν7++(ν6++(ν5++(ν4++(ν3++(νz++(ν1)))))))),Yl,setRow s {s.row with counts:=s.row.counts++[(⟨false,a,b⟩:C1.wI)]},by unfold qJ;simp only[];repeat (first|rw[aYJ Yd]|rw[aYC Yd]),pv,G,hv,lv,mv,bl,bc,yc,yq,ν1,νz,ν3,ν4,ν5,ν6,ν7,ν8,rfl,?_⟩
  exact⟨hO.pl,(by have hz:(s.row.counts++[(⟨false,a,b⟩:C1.wI)]).length=s.row.counts.length+1:=Ye;show bZ _ _ _ (s.row.counts++[(⟨false,a,b⟩:C1.wI)]).length _ _;rw[hz];exact hacc),hO.ht,hO.lev,hO.mks,hO.ln,hO.cn.up uN.up hle,hO.ch,hO.cl⟩
 ·rintro v (⟨h1,rfl⟩|⟨h1,h2,rfl⟩)
  ·exact⟨_,by unfold qJ;simp only[];repeat (first|rw[aYJ Yd]|rw[aYC Yd]),rfl⟩
  ·exact⟨_,by unfold qJ;simp only[];repeat (first|rw[aYJ Yd]|rw[aYC Yd]),rfl⟩
theorem ZN:gV prog 171 2 (qJ true):=by
 rintro wb s nv n ν D hn hlen hr ⟨pv,cv,hv,lv,mv,bl,bc,yc,yq,ν1,ν2,ν3,ν4,ν5,ν6,ν7,ν8,rfl,hO⟩ hsm;obtain⟨a,b,rfl⟩:=QU hlen;refine mC.reorder (ν:=[]++((wb,qC (cR s pv cv hv lv mv bl bc yc yq) 253)::ν2)++(ν8++(ν7++(ν6++(ν5++(ν4++(ν3++(ν1)))))))) ((aHO wb s pv cv hv lv mv bl bc yc yq nv a b ν2 D hn hO.ct hsm.ct (R7 hO.pl)).frameE) Yk ?_ ?_
 ·rintro D' v ν' hle ⟨_,⟨hc,G,νz,rfl,hacc⟩,rfl⟩;refine⟨(wb,qC (cR s pv G hv lv mv bl bc yc yq) 253)::(ν8++(ν7++(ν6++(ν5++(ν4++(ν3++(νz++(ν1)))))))),Yl,setRow s {s.row with counts:=s.row.counts++[(⟨true,a,b⟩:C1.wI)]},by unfold qJ;simp only[];repeat (first|rw[aYJ Yd]|rw[aYC Yd]),pv,G,hv,lv,mv,bl,bc,yc,yq,ν1,νz,ν3,ν4,ν5,ν6,ν7,ν8,rfl,?_⟩
  exact⟨hO.pl,(by have hz:(s.row.counts++[(⟨true,a,b⟩:C1.wI)]).length=s.row.counts.length+1:=Ye;show bZ _ _ _ (s.row.counts++[(⟨true,a,b⟩:C1.wI)]).length _ _;rw[hz];exact hacc),hO.ht,hO.lev,hO.mks,hO.ln,hO.cn.up uN.up hle,hO.ch,hO.cl⟩
 ·rintro v (⟨h1,rfl⟩|⟨h1,h2,rfl⟩)
  ·exact⟨_,by unfold qJ;simp only[];repeat (first|rw[aYJ Yd]|rw[aYC Yd]),rfl⟩
  ·exact⟨_,by unfold qJ;simp only[];repeat (first|rw[aYJ Yd]|rw[aYC Yd]),rfl⟩
theorem GY:gV prog 172 1 (uP):=by
 rintro wb s nv n ν D hn hlen hr ⟨pv,cv,hv,lv,mv,bl,bc,yc,yq,ν1,ν2,ν3,ν4,ν5,ν6,ν7,ν8,rfl,hO⟩ hsm;obtain⟨a,rfl⟩:=BL hlen;have ha:0≤a:=(hr a Ye).1;refine mC.reorder (ν:=[]++((wb,qC (cR s pv cv hv lv mv bl bc yc yq) 253)::ν2)++(ν8++(ν7++(ν6++(ν5++(ν4++(ν3++(ν1)))))))) ((JL wb s pv cv hv lv mv bl bc yc yq nv a ν2 D hn hO.ct hsm.ct ha).frameE) Yk ?_ ?_
 ·rintro D' v ν' hle ⟨_,⟨hc,G,νz,rfl,hacc⟩,rfl⟩;refine⟨(wb,qC (cR s pv G hv lv mv bl bc yc yq) 253)::(ν8++(ν7++(ν6++(ν5++(ν4++(ν3++(νz++(ν1)))))))),Yl,setRow s {s.row with counts:=s.row.counts.eraseIdx a.toNat},by unfold uP;simp only[];repeat (first|rw[aYJ Yd]|rw[aYC Yd]),pv,G,hv,lv,mv,bl,bc,yc,yq,ν1,νz,ν3,ν4,ν5,ν6,ν7,ν8,rfl,?_⟩
  exact⟨hO.pl,(by have hz:(s.row.counts.eraseIdx a.toNat).length=s.row.counts.length-1:=(bBR Yd);show bZ _ _ _ (s.row.counts.eraseIdx a.toNat).length _ _;rw[hz];exact hacc),hO.ht,hO.lev,hO.mks,hO.ln,hO.cn.up uN.up hle,hO.ch,hO.cl⟩
 ·rintro v ⟨h1,rfl⟩;exact⟨_,by unfold uP;simp only[];repeat (first|rw[aYJ Yd]|rw[aYC Yd]),rfl⟩
theorem PZ:gV prog 173 1 (R6):=by
 rintro wb s nv n ν D hn hlen hr ⟨pv,cv,hv,lv,mv,bl,bc,yc,yq,ν1,ν2,ν3,ν4,ν5,ν6,ν7,ν8,rfl,hO⟩ hsm;obtain⟨a,rfl⟩:=BL hlen;refine mC.reorder (ν:=[]++[(wb,qC (cR s pv cv hv lv mv bl bc yc yq) 253)]++(ν8++(ν7++(ν6++(ν5++(ν4++(ν3++(ν2++(ν1))))))))) ((WM wb s pv cv hv lv mv bl bc yc yq nv a D hn).frame (post':=fun D' v ν'=>a≤6∧ν'=[(wb,qC [pv,cv,qI a,qI s.row.off,qI s.table.last,hv,qI s.table.step,lv,mv,qI s.book.chairs,qI s.book.coin,qI s.book.box,bl,bc,yc,qI s.yard.fit,yq] 253)]++(ν8++(ν7++(ν6++(ν5++(ν4++(ν3++(ν2++(ν1))))))))) (fun D' v ν' _ h=>⟨h.1,by rw[h.2];rfl⟩)) Yk ?_ ?_
 ·rintro D' v ν' hle ⟨h1,rfl⟩;refine⟨_,.refl _,setRow s {s.row with wrong:=a},by unfold R6;simp only[];repeat (first|rw[aYJ Yd]|rw[aYC Yd]),pv,cv,hv,lv,mv,bl,bc,yc,yq,ν1,ν2,ν3,ν4,ν5,ν6,ν7,ν8,rfl,⟨hO.pl,hO.ct,hO.ht,hO.lev,hO.mks,hO.ln,hO.cn.up uN.up hle,hO.ch,hO.cl⟩⟩
 ·rintro v ⟨h1,rfl⟩;exact⟨_,by unfold R6;simp only[];repeat (first|rw[aYJ Yd]|rw[aYC Yd]),rfl⟩
theorem aIA:gV prog 174 1 (YJ):=by
 rintro wb s nv n ν D hn hlen hr ⟨pv,cv,hv,lv,mv,bl,bc,yc,yq,ν1,ν2,ν3,ν4,ν5,ν6,ν7,ν8,rfl,hO⟩ hsm;obtain⟨a,rfl⟩:=BL hlen;refine mC.reorder (ν:=[]++[(wb,qC (cR s pv cv hv lv mv bl bc yc yq) 253)]++(ν8++(ν7++(ν6++(ν5++(ν4++(ν3++(ν2++(ν1))))))))) ((aMH wb s pv cv hv lv mv bl bc yc yq nv a D hn).frame (post':=fun D' v ν'=>a≤9∧ν'=[(wb,qC [pv,cv,qI s.row.wrong,qI a,qI s.table.last,hv,qI s.table.step,lv,mv,qI s.book.chairs,qI s.book.coin,qI s.book.box,bl,bc,yc,qI s.yard.fit,yq] 253)]++(ν8++(ν7++(ν6++(ν5++(ν4++(ν3++(ν2++(ν1))))))))) (fun D' v ν' _ h=>⟨h.1,by rw[h.2];rfl⟩)) Yk ?_ ?_
 ·rintro D' v ν' hle ⟨h1,rfl⟩;refine⟨_,.refl _,setRow s {s.row with off:=a},by unfold YJ;simp only[];repeat (first|rw[aYJ Yd]|rw[aYC Yd]),pv,cv,hv,lv,mv,bl,bc,yc,yq,ν1,ν2,ν3,ν4,ν5,ν6,ν7,ν8,rfl,⟨hO.pl,hO.ct,hO.ht,hO.lev,hO.mks,hO.ln,hO.cn.up uN.up hle,hO.ch,hO.cl⟩⟩
 ·rintro v ⟨h1,rfl⟩;exact⟨_,by unfold YJ;simp only[];repeat (first|rw[aYJ Yd]|rw[aYC Yd]),rfl⟩
theorem XK:gV prog 175 3 (p5):=by
 rintro wb s nv n ν D hn hlen hr ⟨pv,cv,hv,lv,mv,bl,bc,yc,yq,ν1,ν2,ν3,ν4,ν5,ν6,ν7,ν8,rfl,hO⟩ hsm;obtain⟨a,b,c,rfl⟩:=aVQ hlen;have ha:0≤a:=(hr a Ye).1;have hb:0≤b∧b≤1000:=by have:=hr b Ye;omega
 refine mC.reorder (ν:=[]++((wb,qC (cR s pv cv hv lv mv bl bc yc yq) 253)::ν3)++(ν8++(ν7++(ν6++(ν5++(ν4++(ν2++(ν1)))))))) ((aIG wb s pv cv hv lv mv bl bc yc yq nv a b c ν3 D hn hO.ht hsm.ht ha hb).frameE) Yk ?_ ?_
 ·rintro D' v ν' hle ⟨_,⟨hc,νz,rfl,hacc⟩,rfl⟩;refine⟨(wb,qC (cR s pv cv hv lv mv bl bc yc yq) 253)::(ν8++(ν7++(ν6++(ν5++(ν4++(νz++(ν2++(ν1)))))))),Yl,setTable s {s.table with heights:=s.table.heights.set a.toNat (b,c)},by unfold p5;simp only[];repeat (first|rw[aYJ Yd]|rw[aYC Yd]),pv,cv,hv,lv,mv,bl,bc,yc,yq,ν1,ν2,νz,ν4,ν5,ν6,ν7,ν8,rfl,?_⟩
  exact⟨hO.pl,hO.ct,(by have hz:(s.table.heights.set a.toNat (b,c)).length=s.table.heights.length:=Ye;show bZ _ _ _ (s.table.heights.set a.toNat (b,c)).length _ _;rw[hz];exact hacc),hO.lev,hO.mks,hO.ln,hO.cn.up uN.up hle,hO.ch,hO.cl⟩
 ·rintro v (⟨h1,rfl⟩|⟨h1,h2,rfl⟩)
  ·exact⟨_,by unfold p5;simp only[];repeat (first|rw[aYJ Yd]|rw[aYC Yd]),rfl⟩
  ·exact⟨_,by unfold p5;simp only[];repeat (first|rw[aYJ Yd]|rw[aYC Yd]),rfl⟩
theorem WW:gV prog 176 1 (DL):=by
 rintro wb s nv n ν D hn hlen hr ⟨pv,cv,hv,lv,mv,bl,bc,yc,yq,ν1,ν2,ν3,ν4,ν5,ν6,ν7,ν8,rfl,hO⟩ hsm;obtain⟨a,rfl⟩:=BL hlen;refine mC.reorder (ν:=[]++[(wb,qC (cR s pv cv hv lv mv bl bc yc yq) 253)]++(ν8++(ν7++(ν6++(ν5++(ν4++(ν3++(ν2++(ν1))))))))) ((aDZ wb s pv cv hv lv mv bl bc yc yq nv a D hn).frame (post':=fun D' v ν'=>a≤99∧ν'=[(wb,qC [pv,cv,qI s.row.wrong,qI s.row.off,qI s.table.last,hv,qI a,lv,mv,qI s.book.chairs,qI s.book.coin,qI s.book.box,bl,bc,yc,qI s.yard.fit,yq] 253)]++(ν8++(ν7++(ν6++(ν5++(ν4++(ν3++(ν2++(ν1))))))))) (fun D' v ν' _ h=>⟨h.1,by rw[h.2];rfl⟩)) Yk ?_ ?_
 ·rintro D' v ν' hle ⟨h1,rfl⟩;refine⟨_,.refl _,setTable s {s.table with step:=a},by unfold DL;simp only[];repeat (first|rw[aYJ Yd]|rw[aYC Yd]),pv,cv,hv,lv,mv,bl,bc,yc,yq,ν1,ν2,ν3,ν4,ν5,ν6,ν7,ν8,rfl,⟨hO.pl,hO.ct,hO.ht,hO.lev,hO.mks,hO.ln,hO.cn.up uN.up hle,hO.ch,hO.cl⟩⟩
 ·rintro v ⟨h1,rfl⟩;exact⟨_,by unfold DL;simp only[];repeat (first|rw[aYJ Yd]|rw[aYC Yd]),rfl⟩
theorem NL:gV prog 177 1 (G6):=by
 rintro wb s nv n ν D hn hlen hr ⟨pv,cv,hv,lv,mv,bl,bc,yc,yq,ν1,ν2,ν3,ν4,ν5,ν6,ν7,ν8,rfl,hO⟩ hsm;obtain⟨a,rfl⟩:=BL hlen;refine mC.reorder (ν:=[]++((wb,qC (cR s pv cv hv lv mv bl bc yc yq) 253)::ν4)++(ν8++(ν7++(ν6++(ν5++(ν3++(ν2++(ν1)))))))) ((aAS wb s pv cv hv lv mv bl bc yc yq nv a ν4 D hn hO.lev hsm.lev).frameE) Yk ?_ ?_
 ·rintro D' v ν' hle ⟨_,⟨hc,G,νz,rfl,hacc⟩,rfl⟩;refine⟨(wb,qC (cR s pv cv hv G mv bl bc yc yq) 253)::(ν8++(ν7++(ν6++(ν5++(νz++(ν3++(ν2++(ν1)))))))),Yl,setTable s {s.table with levels:=s.table.levels++[a]},by unfold G6;simp only[];repeat (first|rw[aYJ Yd]|rw[aYC Yd]),pv,cv,hv,G,mv,bl,bc,yc,yq,ν1,ν2,ν3,νz,ν5,ν6,ν7,ν8,rfl,?_⟩
  exact⟨hO.pl,hO.ct,hO.ht,(by have hz:(s.table.levels++[a]).length=s.table.levels.length+1:=Ye;show bZ _ _ _ (s.table.levels++[a]).length _ _;rw[hz];exact hacc),hO.mks,hO.ln,hO.cn.up uN.up hle,hO.ch,hO.cl⟩
 ·rintro v (⟨h1,rfl⟩|⟨h1,h2,rfl⟩)
  ·exact⟨_,by unfold G6;simp only[];repeat (first|rw[aYJ Yd]|rw[aYC Yd]),rfl⟩
  ·exact⟨_,by unfold G6;simp only[];repeat (first|rw[aYJ Yd]|rw[aYC Yd]),rfl⟩
theorem QY:gV prog 178 2 (I1):=by
 rintro wb s nv n ν D hn hlen hr ⟨pv,cv,hv,lv,mv,bl,bc,yc,yq,ν1,ν2,ν3,ν4,ν5,ν6,ν7,ν8,rfl,hO⟩ hsm;obtain⟨a,b,rfl⟩:=QU hlen;have ha:0≤a:=(hr a Ye).1;refine mC.reorder (ν:=[]++((wb,qC (cR s pv cv hv lv mv bl bc yc yq) 253)::ν4)++(ν8++(ν7++(ν6++(ν5++(ν3++(ν2++(ν1)))))))) ((ZR wb s pv cv hv lv mv bl bc yc yq nv a b ν4 D hn hO.lev hsm.lev ha).frameE) Yk ?_ ?_
 ·rintro D' v ν' hle ⟨_,⟨hc,νz,rfl,hacc⟩,rfl⟩;refine⟨(wb,qC (cR s pv cv hv lv mv bl bc yc yq) 253)::(ν8++(ν7++(ν6++(ν5++(νz++(ν3++(ν2++(ν1)))))))),Yl,setTable s {s.table with levels:=s.table.levels.set a.toNat b},by unfold I1;simp only[];repeat (first|rw[aYJ Yd]|rw[aYC Yd]),pv,cv,hv,lv,mv,bl,bc,yc,yq,ν1,ν2,ν3,νz,ν5,ν6,ν7,ν8,rfl,?_⟩
  exact⟨hO.pl,hO.ct,hO.ht,(by have hz:(s.table.levels.set a.toNat b).length=s.table.levels.length:=Ye;show bZ _ _ _ (s.table.levels.set a.toNat b).length _ _;rw[hz];exact hacc),hO.mks,hO.ln,hO.cn.up uN.up hle,hO.ch,hO.cl⟩
 ·rintro v (⟨h1,rfl⟩|⟨h1,h2,rfl⟩)
  ·exact⟨_,by unfold I1;simp only[];repeat (first|rw[aYJ Yd]|rw[aYC Yd]),rfl⟩
  ·exact⟨_,by unfold I1;simp only[];repeat (first|rw[aYJ Yd]|rw[aYC Yd]),rfl⟩
theorem aBC:gV prog 179 4 (Q0):=by
 rintro wb s nv n ν D hn hlen hr ⟨pv,cv,hv,lv,mv,bl,bc,yc,yq,ν1,ν2,ν3,ν4,ν5,ν6,ν7,ν8,rfl,hO⟩ hsm;obtain⟨a,b,c,d,rfl⟩:=aVX hlen;refine mC.reorder (ν:=[]++((wb,qC (cR s pv cv hv lv mv bl bc yc yq) 253)::ν5)++(ν8++(ν7++(ν6++(ν4++(ν3++(ν2++(ν1)))))))) ((aDE wb s pv cv hv lv mv bl bc yc yq nv a b c d ν5 D hn hO.mks hsm.mks (R7 hO.ht)).frameE) Yk ?_ ?_
 ·rintro D' v ν' hle ⟨_,⟨hc,G,νz,rfl,hacc⟩,rfl⟩;refine⟨(wb,qC (cR s pv cv hv lv G bl bc yc yq) 253)::(ν8++(ν7++(ν6++(νz++(ν4++(ν3++(ν2++(ν1)))))))),Yl,setTable s {s.table with marks:=s.table.marks++[(⟨a,b,c,d⟩:C2.Mk)]},by unfold Q0;simp only[];repeat (first|rw[aYJ Yd]|rw[aYC Yd]),pv,cv,hv,lv,G,bl,bc,yc,yq,ν1,ν2,ν3,ν4,νz,ν6,ν7,ν8,rfl,?_⟩
  exact⟨hO.pl,hO.ct,hO.ht,hO.lev,(by have hz:(s.table.marks++[(⟨a,b,c,d⟩:C2.Mk)]).length=s.table.marks.length+1:=Ye;show bZ _ _ _ (s.table.marks++[(⟨a,b,c,d⟩:C2.Mk)]).length _ _;rw[hz];exact hacc),hO.ln,hO.cn.up uN.up hle,hO.ch,hO.cl⟩
 ·rintro v (⟨h1,rfl⟩|⟨h1,h2,rfl⟩|⟨h1,h2,h3,rfl⟩|⟨h1,h2,h3,h4,rfl⟩)
  ·exact⟨_,by unfold Q0;simp only[];repeat (first|rw[aYJ Yd]|rw[aYC Yd]),rfl⟩
  ·exact⟨_,by unfold Q0;simp only[];repeat (first|rw[aYJ Yd]|rw[aYC Yd]),rfl⟩
  ·exact⟨_,by unfold Q0;simp only[];repeat (first|rw[aYJ Yd]|rw[aYC Yd]),rfl⟩
  ·exact⟨_,by unfold Q0;simp only[];repeat (first|rw[aYJ Yd]|rw[aYC Yd]),rfl⟩
theorem MJ:gV prog 180 1 (zV):=by
 rintro wb s nv n ν D hn hlen hr ⟨pv,cv,hv,lv,mv,bl,bc,yc,yq,ν1,ν2,ν3,ν4,ν5,ν6,ν7,ν8,rfl,hO⟩ hsm;obtain⟨a,rfl⟩:=BL hlen;have ha:0≤a:=(hr a Ye).1;refine mC.reorder (ν:=[]++((wb,qC (cR s pv cv hv lv mv bl bc yc yq) 253)::ν5)++(ν8++(ν7++(ν6++(ν4++(ν3++(ν2++(ν1)))))))) ((QB wb s pv cv hv lv mv bl bc yc yq nv a ν5 D hn hO.mks hsm.mks ha).frameE) Yk ?_ ?_
 ·rintro D' v ν' hle ⟨_,⟨hc,G,νz,rfl,hacc⟩,rfl⟩;refine⟨(wb,qC (cR s pv cv hv lv G bl bc yc yq) 253)::(ν8++(ν7++(ν6++(νz++(ν4++(ν3++(ν2++(ν1)))))))),Yl,setTable s {s.table with marks:=s.table.marks.eraseIdx a.toNat},by unfold zV;simp only[];repeat (first|rw[aYJ Yd]|rw[aYC Yd]),pv,cv,hv,lv,G,bl,bc,yc,yq,ν1,ν2,ν3,ν4,νz,ν6,ν7,ν8,rfl,?_⟩
  exact⟨hO.pl,hO.ct,hO.ht,hO.lev,(by have hz:(s.table.marks.eraseIdx a.toNat).length=s.table.marks.length-1:=(bBR Yd);show bZ _ _ _ (s.table.marks.eraseIdx a.toNat).length _ _;rw[hz];exact hacc),hO.ln,hO.cn.up uN.up hle,hO.ch,hO.cl⟩
 ·rintro v ⟨h1,rfl⟩;exact⟨_,by unfold zV;simp only[];repeat (first|rw[aYJ Yd]|rw[aYC Yd]),rfl⟩
theorem YT:gV prog 181 2 (qL 1):=by
 rintro wb s nv n ν D hn hlen hr ⟨pv,cv,hv,lv,mv,bl,bc,yc,yq,ν1,ν2,ν3,ν4,ν5,ν6,ν7,ν8,rfl,hO⟩ hsm;obtain⟨a,b,rfl⟩:=QU hlen;refine mC.reorder (ν:=[]++((wb,qC (cR s pv cv hv lv mv bl bc yc yq) 253)::ν6)++(ν8++(ν7++(ν5++(ν4++(ν3++(ν2++(ν1)))))))) ((aDR wb s pv cv hv lv mv bl bc yc yq nv a b ν6 D hn hO.ln hsm.ln).frameE) Yk ?_ ?_
 ·rintro D' v ν' hle ⟨_,⟨hc,G,νz,rfl,hacc⟩,rfl⟩;refine⟨(wb,qC (cR s pv cv hv lv mv G bc yc yq) 253)::(ν8++(ν7++(νz++(ν5++(ν4++(ν3++(ν2++(ν1)))))))),Yl,setBook s {s.book with lines:=s.book.lines++[(⟨1,a,b⟩:C3.gM)]},by unfold qL;simp only[];repeat (first|rw[aYJ Yd]|rw[aYC Yd]),pv,cv,hv,lv,mv,G,bc,yc,yq,ν1,ν2,ν3,ν4,ν5,νz,ν7,ν8,rfl,?_⟩
  exact⟨hO.pl,hO.ct,hO.ht,hO.lev,hO.mks,(by have hz:(s.book.lines++[(⟨1,a,b⟩:C3.gM)]).length=s.book.lines.length+1:=Ye;show bZ _ _ _ (s.book.lines++[(⟨1,a,b⟩:C3.gM)]).length _ _;rw[hz];exact hacc),hO.cn.up uN.up hle,hO.ch,hO.cl⟩
 ·rintro v (⟨h1,rfl⟩|⟨h1,h2,rfl⟩)
  ·exact⟨_,by unfold qL;simp only[];repeat (first|rw[aYJ Yd]|rw[aYC Yd]),rfl⟩
  ·exact⟨_,by unfold qL;simp only[];repeat (first|rw[aYJ Yd]|rw[aYC Yd]),rfl⟩
theorem QX:gV prog 182 2 (qL 2):=by
 rintro wb s nv n ν D hn hlen hr ⟨pv,cv,hv,lv,mv,bl,bc,yc,yq,ν1,ν2,ν3,ν4,ν5,ν6,ν7,ν8,rfl,hO⟩ hsm;obtain⟨a,b,rfl⟩:=QU hlen;refine mC.reorder (ν:=[]++((wb,qC (cR s pv cv hv lv mv bl bc yc yq) 253)::ν6)++(ν8++(ν7++(ν5++(ν4++(ν3++(ν2++(ν1)))))))) ((YQ wb s pv cv hv lv mv bl bc yc yq nv a b ν6 D hn hO.ln hsm.ln).frameE) Yk ?_ ?_
 ·rintro D' v ν' hle ⟨_,⟨hc,G,νz,rfl,hacc⟩,rfl⟩;refine⟨(wb,qC (cR s pv cv hv lv mv G bc yc yq) 253)::(ν8++(ν7++(νz++(ν5++(ν4++(ν3++(ν2++(ν1)))))))),Yl,setBook s {s.book with lines:=s.book.lines++[(⟨2,a,b⟩:C3.gM)]},by unfold qL;simp only[];repeat (first|rw[aYJ Yd]|rw[aYC Yd]),pv,cv,hv,lv,mv,G,bc,yc,yq,ν1,ν2,ν3,ν4,ν5,νz,ν7,ν8,rfl,?_⟩
  exact⟨hO.pl,hO.ct,hO.ht,hO.lev,hO.mks,(by have hz:(s.book.lines++[(⟨2,a,b⟩:C3.gM)]).length=s.book.lines.length+1:=Ye;show bZ _ _ _ (s.book.lines++[(⟨2,a,b⟩:C3.gM)]).length _ _;rw[hz];exact hacc),hO.cn.up uN.up hle,hO.ch,hO.cl⟩
 ·rintro v (⟨h1,rfl⟩|⟨h1,h2,rfl⟩)
  ·exact⟨_,by unfold qL;simp only[];repeat (first|rw[aYJ Yd]|rw[aYC Yd]),rfl⟩
  ·exact⟨_,by unfold qL;simp only[];repeat (first|rw[aYJ Yd]|rw[aYC Yd]),rfl⟩
theorem LS:gV prog 183 1 (xF):=by
 rintro wb s nv n ν D hn hlen hr ⟨pv,cv,hv,lv,mv,bl,bc,yc,yq,ν1,ν2,ν3,ν4,ν5,ν6,ν7,ν8,rfl,hO⟩ hsm;obtain⟨a,rfl⟩:=BL hlen;have ha:0≤a:=(hr a Ye).1;refine mC.reorder (ν:=[]++((wb,qC (cR s pv cv hv lv mv bl bc yc yq) 253)::ν6)++(ν8++(ν7++(ν5++(ν4++(ν3++(ν2++(ν1)))))))) ((RK wb s pv cv hv lv mv bl bc yc yq nv a ν6 D hn hO.ln hsm.ln ha).frameE) Yk ?_ ?_
 ·rintro D' v ν' hle ⟨_,⟨x,hx,hc,νz,rfl,hacc⟩,rfl⟩;refine⟨(wb,qC (cR s pv cv hv lv mv bl bc yc yq) 253)::(ν8++(ν7++(νz++(ν5++(ν4++(ν3++(ν2++(ν1)))))))),Yl,setBook s {s.book with lines:=s.book.lines.set a.toNat {x with token:= -1}},by unfold xF;simp only[];rw[hx];simp only[];rw[aYC hc],pv,cv,hv,lv,mv,bl,bc,yc,yq,ν1,ν2,ν3,ν4,ν5,νz,ν7,ν8,rfl,?_⟩
  exact⟨hO.pl,hO.ct,hO.ht,hO.lev,hO.mks,(by have hz:(s.book.lines.set a.toNat {x with token:= -1}).length=s.book.lines.length:=Ye;show bZ _ _ _ (s.book.lines.set a.toNat {x with token:= -1}).length _ _;rw[hz];exact hacc),hO.cn.up uN.up hle,hO.ch,hO.cl⟩
 ·rintro v (⟨h1,rfl⟩|⟨x,hx,h1,rfl⟩)
  ·exact⟨_,by unfold xF;simp only[];rw[bAT Yd],rfl⟩
  ·exact⟨_,by unfold xF;simp only[];rw[hx];exact aYJ h1,rfl⟩
theorem MC:gV prog 184 1 (zX):=by
 rintro wb s nv n ν D hn hlen hr ⟨pv,cv,hv,lv,mv,bl,bc,yc,yq,ν1,ν2,ν3,ν4,ν5,ν6,ν7,ν8,rfl,hO⟩ hsm;obtain⟨a,rfl⟩:=BL hlen;have ha:0≤a:=(hr a Ye).1;refine mC.reorder (ν:=[]++((wb,qC (cR s pv cv hv lv mv bl bc yc yq) 253)::ν6)++(ν8++(ν7++(ν5++(ν4++(ν3++(ν2++(ν1)))))))) ((PQ wb s pv cv hv lv mv bl bc yc yq nv a ν6 D hn hO.ln hsm.ln ha).frameE) Yk ?_ ?_
 ·rintro D' v ν' hle ⟨_,⟨hc,G,νz,rfl,hacc⟩,rfl⟩;refine⟨(wb,qC (cR s pv cv hv lv mv G bc yc yq) 253)::(ν8++(ν7++(νz++(ν5++(ν4++(ν3++(ν2++(ν1)))))))),Yl,setBook s {s.book with lines:=s.book.lines.eraseIdx a.toNat},by unfold zX;simp only[];repeat (first|rw[aYJ Yd]|rw[aYC Yd]),pv,cv,hv,lv,mv,G,bc,yc,yq,ν1,ν2,ν3,ν4,ν5,νz,ν7,ν8,rfl,?_⟩
  exact⟨hO.pl,hO.ct,hO.ht,hO.lev,hO.mks,(by have hz:(s.book.lines.eraseIdx a.toNat).length=s.book.lines.length-1:=(bBR Yd);show bZ _ _ _ (s.book.lines.eraseIdx a.toNat).length _ _;rw[hz];exact hacc),hO.cn.up uN.up hle,hO.ch,hO.cl⟩
 ·rintro v ⟨h1,rfl⟩;exact⟨_,by unfold zX;simp only[];repeat (first|rw[aYJ Yd]|rw[aYC Yd]),rfl⟩
theorem KB:gV prog 185 4 (wZ):=by
 rintro wb s nv n ν D hn hlen hr ⟨pv,cv,hv,lv,mv,bl,bc,yc,yq,ν1,ν2,ν3,ν4,ν5,ν6,ν7,ν8,rfl,hO⟩ hsm;obtain⟨a,b,c,d,rfl⟩:=aVX hlen;refine mC.reorder (ν:=[]++((wb,qC (cR s pv cv hv lv mv bl bc yc yq) 253)::ν7)++(ν8++(ν6++(ν5++(ν4++(ν3++(ν2++(ν1)))))))) ((OH wb s pv cv hv lv mv bl bc yc yq nv a b c d ν7 D hn hO.ch hsm.ch).frameE) Yk ?_ ?_
 ·rintro D' v ν' hle ⟨_,⟨hc,G,νz,rfl,hacc⟩,rfl⟩;refine⟨(wb,qC (cR s pv cv hv lv mv bl bc G yq) 253)::(ν8++(νz++(ν6++(ν5++(ν4++(ν3++(ν2++(ν1)))))))),Yl,setYard s {s.yard with chairs:=s.yard.chairs++[(⟨a,⟨b,c,d⟩⟩:C7.Ch)]},by unfold wZ;simp only[];repeat (first|rw[aYJ Yd]|rw[aYC Yd]),pv,cv,hv,lv,mv,bl,bc,G,yq,ν1,ν2,ν3,ν4,ν5,ν6,νz,ν8,rfl,?_⟩
  exact⟨hO.pl,hO.ct,hO.ht,hO.lev,hO.mks,hO.ln,hO.cn.up uN.up hle,(by have hz:(s.yard.chairs++[(⟨a,⟨b,c,d⟩⟩:C7.Ch)]).length=s.yard.chairs.length+1:=Ye;show bZ _ _ _ (s.yard.chairs++[(⟨a,⟨b,c,d⟩⟩:C7.Ch)]).length _ _;rw[hz];exact hacc),hO.cl⟩
 ·rintro v (⟨h1,rfl⟩|⟨h1,h2,rfl⟩)
  ·exact⟨_,by unfold wZ;simp only[];repeat (first|rw[aYJ Yd]|rw[aYC Yd]),rfl⟩
  ·exact⟨_,by unfold wZ;simp only[];repeat (first|rw[aYJ Yd]|rw[aYC Yd]),rfl⟩
theorem YR:gV prog 186 3 (W8):=by
 rintro wb s nv n ν D hn hlen hr ⟨pv,cv,hv,lv,mv,bl,bc,yc,yq,ν1,ν2,ν3,ν4,ν5,ν6,ν7,ν8,rfl,hO⟩ hsm;obtain⟨a,b,c,rfl⟩:=aVQ hlen;have ha:0≤a:=(hr a Ye).1;have hb:0≤b:=(hr b Ye).1;refine mC.reorder (ν:=[]++((wb,qC (cR s pv cv hv lv mv bl bc yc yq) 253)::ν7)++(ν8++(ν6++(ν5++(ν4++(ν3++(ν2++(ν1)))))))) ((aFB wb s pv cv hv lv mv bl bc yc yq nv a b c ν7 D hn hO.ch hsm.ch ha hb).frameE) Yk ?_ ?_
 ·rintro D' v ν' hle ⟨_,⟨x,hx,hc,νz,rfl,hacc⟩,rfl⟩;refine⟨(wb,qC (cR s pv cv hv lv mv bl bc yc yq) 253)::(ν8++(νz++(ν6++(ν5++(ν4++(ν3++(ν2++(ν1)))))))),Yl,setYard s {s.yard with chairs:=s.yard.chairs.set a.toNat {x with parts:=RX x.parts b.toNat c}},by unfold W8;simp only[];rw[hx];simp only[];repeat (first|rw[aYJ Yd]|rw[aYC Yd]),pv,cv,hv,lv,mv,bl,bc,yc,yq,ν1,ν2,ν3,ν4,ν5,ν6,νz,ν8,rfl,?_⟩
  exact⟨hO.pl,hO.ct,hO.ht,hO.lev,hO.mks,hO.ln,hO.cn.up uN.up hle,(by have hz:(s.yard.chairs.set a.toNat {x with parts:=RX x.parts b.toNat c}).length=s.yard.chairs.length:=Ye;show bZ _ _ _ (s.yard.chairs.set a.toNat {x with parts:=RX x.parts b.toNat c}).length _ _;rw[hz];exact hacc),hO.cl⟩
 ·rintro v (⟨h1,rfl⟩|⟨h1,h2,rfl⟩|⟨h1,h2,h3,rfl⟩)
  ·exact⟨_,by unfold W8;simp only[];rw[bAT Yd],rfl⟩
  ·exact⟨_,by unfold W8;simp only[];rw[aXT Yd];exact aYJ h2,rfl⟩
  ·exact⟨_,by unfold W8;simp only[];rw[aXT Yd];exact(aYC Yd).trans (aYJ h3),rfl⟩
theorem aJE:gV prog 187 1 (ZW):=by
 rintro wb s nv n ν D hn hlen hr ⟨pv,cv,hv,lv,mv,bl,bc,yc,yq,ν1,ν2,ν3,ν4,ν5,ν6,ν7,ν8,rfl,hO⟩ hsm;obtain⟨a,rfl⟩:=BL hlen;refine mC.reorder (ν:=[]++[(wb,qC (cR s pv cv hv lv mv bl bc yc yq) 253)]++(ν8++(ν7++(ν6++(ν5++(ν4++(ν3++(ν2++(ν1))))))))) ((aMM wb s pv cv hv lv mv bl bc yc yq nv a D hn).frame (post':=fun D' v ν'=>a≤9∧ν'=[(wb,qC [pv,cv,qI s.row.wrong,qI s.row.off,qI s.table.last,hv,qI s.table.step,lv,mv,qI s.book.chairs,qI s.book.coin,qI s.book.box,bl,bc,yc,qI a,yq] 253)]++(ν8++(ν7++(ν6++(ν5++(ν4++(ν3++(ν2++(ν1))))))))) (fun D' v ν' _ h=>⟨h.1,by rw[h.2];rfl⟩)) Yk ?_ ?_
 ·rintro D' v ν' hle ⟨h1,rfl⟩;refine⟨_,.refl _,setYard s {s.yard with fit:=a},by unfold ZW;simp only[];repeat (first|rw[aYJ Yd]|rw[aYC Yd]),pv,cv,hv,lv,mv,bl,bc,yc,yq,ν1,ν2,ν3,ν4,ν5,ν6,ν7,ν8,rfl,⟨hO.pl,hO.ct,hO.ht,hO.lev,hO.mks,hO.ln,hO.cn.up uN.up hle,hO.ch,hO.cl⟩⟩
 ·rintro v ⟨h1,rfl⟩;exact⟨_,by unfold ZW;simp only[];repeat (first|rw[aYJ Yd]|rw[aYC Yd]),rfl⟩
theorem PE:gV prog 188 2 (E9):=by
 rintro wb s nv n ν D hn hlen hr ⟨pv,cv,hv,lv,mv,bl,bc,yc,yq,ν1,ν2,ν3,ν4,ν5,ν6,ν7,ν8,rfl,hO⟩ hsm;obtain⟨a,b,rfl⟩:=QU hlen;refine mC.reorder (ν:=[]++((wb,qC (cR s pv cv hv lv mv bl bc yc yq) 253)::ν8)++(ν7++(ν6++(ν5++(ν4++(ν3++(ν2++(ν1)))))))) ((ZT wb s pv cv hv lv mv bl bc yc yq nv a b ν8 D hn hO.cl hsm.cl).frameE) Yk ?_ ?_
 ·rintro D' v ν' hle ⟨_,⟨hc,G,νz,rfl,hacc⟩,rfl⟩;refine⟨(wb,qC (cR s pv cv hv lv mv bl bc yc G) 253)::(νz++(ν7++(ν6++(ν5++(ν4++(ν3++(ν2++(ν1)))))))),Yl,setYard s {s.yard with claims:=s.yard.claims++[(a,b)]},by unfold E9;simp only[];repeat (first|rw[aYJ Yd]|rw[aYC Yd]),pv,cv,hv,lv,mv,bl,bc,yc,G,ν1,ν2,ν3,ν4,ν5,ν6,ν7,νz,rfl,?_⟩
  exact⟨hO.pl,hO.ct,hO.ht,hO.lev,hO.mks,hO.ln,hO.cn.up uN.up hle,hO.ch,(by have hz:(s.yard.claims++[(a,b)]).length=s.yard.claims.length+1:=Ye;show bZ _ _ _ (s.yard.claims++[(a,b)]).length _ _;rw[hz];exact hacc)⟩
 ·rintro v (⟨h1,rfl⟩|⟨h1,h2,rfl⟩)
  ·exact⟨_,by unfold E9;simp only[];repeat (first|rw[aYJ Yd]|rw[aYC Yd]),rfl⟩
  ·exact⟨_,by unfold E9;simp only[];repeat (first|rw[aYJ Yd]|rw[aYC Yd]),rfl⟩
theorem HG:gV prog 189 1 (vI):=by
 rintro wb s nv n ν D hn hlen hr ⟨pv,cv,hv,lv,mv,bl,bc,yc,yq,ν1,ν2,ν3,ν4,ν5,ν6,ν7,ν8,rfl,hO⟩ hsm;obtain⟨a,rfl⟩:=BL hlen;have ha:0≤a:=(hr a Ye).1;refine mC.reorder (ν:=[]++((wb,qC (cR s pv cv hv lv mv bl bc yc yq) 253)::ν8)++(ν7++(ν6++(ν5++(ν4++(ν3++(ν2++(ν1)))))))) ((MU wb s pv cv hv lv mv bl bc yc yq nv a ν8 D hn hO.cl hsm.cl ha).frameE) Yk ?_ ?_
 ·rintro D' v ν' hle ⟨_,⟨hc,G,νz,rfl,hacc⟩,rfl⟩;refine⟨(wb,qC (cR s pv cv hv lv mv bl bc yc G) 253)::(νz++(ν7++(ν6++(ν5++(ν4++(ν3++(ν2++(ν1)))))))),Yl,setYard s {s.yard with claims:=s.yard.claims.eraseIdx a.toNat},by unfold vI;simp only[];repeat (first|rw[aYJ Yd]|rw[aYC Yd]),pv,cv,hv,lv,mv,bl,bc,yc,G,ν1,ν2,ν3,ν4,ν5,ν6,ν7,νz,rfl,?_⟩
  exact⟨hO.pl,hO.ct,hO.ht,hO.lev,hO.mks,hO.ln,hO.cn.up uN.up hle,hO.ch,(by have hz:(s.yard.claims.eraseIdx a.toNat).length=s.yard.claims.length-1:=(bBR Yd);show bZ _ _ _ (s.yard.claims.eraseIdx a.toNat).length _ _;rw[hz];exact hacc)⟩
 ·rintro v ⟨h1,rfl⟩;exact⟨_,by unfold vI;simp only[];repeat (first|rw[aYJ Yd]|rw[aYC Yd]),rfl⟩
end L12
namespace L12
open C12
def uF(s:aQ)(line:ByteArray):aQ×Int:=match nI line with
 |none=>(s,4)
 |some (act,n)=>match act s n with
  |.error c=>(s,c)
  |.ok s'=>if fW s'=0 then(s',0)else(s,fW s')
theorem ST{s:aQ}{line:ByteArray}(h:nI line=none):uF s line=(s,4):=by unfold uF;rw[h]
theorem aRL{s:aQ}{line:ByteArray}{act:iJ}{n:List Int}{c:Int}(h:nI line=some (act,n))(he:act s n=.error c):uF s line=(s,c):=by unfold uF;rw[h];simp only[];rw[he]
theorem aRF{s G:aQ}{line:ByteArray}{act:iJ}{n:List Int}(h:nI line=some (act,n))(he:act s n=.ok G)(hs:fW G≠0):uF s line=(s,fW G):=by unfold uF;rw[h];simp only[];rw[he];exact aYC hs
theorem aLN{s G:aQ}{line:ByteArray}{act:iJ}{n:List Int}(h:nI line=some (act,n))(he:act s n=.ok G)(hs:fW G=0):uF s line=(G,0):=by unfold uF;rw[h];simp only[];rw[he];exact aYJ hs
theorem SI{s G:aQ}{line:ByteArray}{c:Int}{D:aC}{v:Value}(h:uF s line=(G,c))(hs:fN D v G):∃I,Value.tuple #[v,qI c]=.tuple #[I,qI (uF s line).2]∧fN D I (uF s line).1:=by rw[h];exact⟨v,rfl,hs⟩
theorem Q1{s:aQ}{line:ByteArray}{c:Int}{D:aC}{v:Value}(h:uF s line=(s,c))(hs:fN D v s):∃G,Value.tuple #[v,qI c]=.tuple #[G,qI (uF s line).2]∧fN D G (uF s line).1:=SI h hs
theorem _root_.Go.Fs.C12.mW.small{s:aQ}(h:mW s):N0 s:=⟨by have:=h.pl;omega,by have:=h.ct;omega,by have:=h.ht;omega,by have:=h.lev;omega,by have:=h.mks;omega,by have:=h.ln;omega,by have:=h.ch;omega,by have:=h.cl;omega⟩
theorem X2.up{D D':aC}{wb:Nat}{s:aQ}{ν:aD}(h:X2 D wb s ν)(hl:Le D D'):X2 D' wb s ν:=by
 obtain⟨pv,cv,hv,lv,mv,bl,bc,yc,yq,ν1,ν2,ν3,ν4,ν5,ν6,ν7,ν8,h1,h2⟩:=h;exact⟨pv,cv,hv,lv,mv,bl,bc,yc,yq,ν1,ν2,ν3,ν4,ν5,ν6,ν7,ν8,h1,⟨h2.pl,h2.ct,h2.ht,h2.lev,h2.mks,h2.ln,h2.cn.up uN.up hl,h2.ch,h2.cl⟩⟩
theorem aPI{D:aC}{wb:Nat}{s:aQ}{ν:aD}(h:X2 D wb s ν):∀p∈ν,dD p.2:=by
 obtain⟨pv,cv,hv,lv,mv,bl,bc,yc,yq,ν1,ν2,ν3,ν4,ν5,ν6,ν7,ν8,rfl,h2⟩:=h;intro p hp;simp only[GE,aYD]at hp;rcases hp with rfl|hp|hp|hp|hp|hp|hp|hp|hp
 ·rfl
 ·exact nH h2.cl p hp
 ·exact nH h2.ch p hp
 ·exact nH h2.ln p hp
 ·exact nH h2.mks p hp
 ·exact nH h2.lev p hp
 ·exact nH h2.ht p hp
 ·exact nH h2.ct p hp
 ·exact nH h2.pl p hp
theorem oA{α:Type}{R:Rd α}{D:aC}{sz:Nat}{v:Value}{xs:List α}(h:Sl D R sz v xs):cell1 v=true:=by
 obtain⟨a,c,rfl⟩:=h.shape;rfl
theorem gU{D:aC}{s:aQ}{pv cv hv lv mv bl bc yc yq:Value}(h:jM D s pv cv hv lv mv bl bc yc yq):∀u∈[pv,cv,qI s.row.wrong,qI s.row.off,qI s.table.last,hv,qI s.table.step,lv,mv,qI s.book.chairs,qI s.book.coin,qI s.book.box,bl,bc,yc,qI s.yard.fit,yq],cell1 u=true:=by
 intro u hu;simp only[GE,n3,bAO]at hu;rcases hu with rfl|rfl|rfl|rfl|rfl|rfl|rfl|rfl|rfl|rfl|rfl|rfl|rfl|rfl|rfl|rfl|rfl<;>first|rfl|exact oA h.pl|exact oA h.ct|exact oA h.ht|exact oA h.lev|exact oA h.mks|exact oA h.ln|exact oA h.cn|exact oA h.ch|exact oA h.cl
section
variable{P:Program}{X:Cx}{Q:Exit→Act→World→Prop}{σ:cG}{Ds:List aC}
theorem KF{c:Code}{B ν:aD}{D0:aC}{wb:Nat}{s:aQ}(h:X2 D0 wb s ν)(hmods:X.mods=[])(I:D0∈Ds:=by simp)(hsm:N0 s:=by assumption)
  (kk:∀D pv cv hv lv mv bl bc yc yq,(∀D₁∈Ds,Le D₁ D)→jM D s pv cv hv lv mv bl bc yc yq→WC P X Q c σ ((wb,qC (cR s pv cv hv lv mv bl bc yc yq) 253)::B) (D::Ds)):WC P X Q c σ (ν++B) Ds:=by
 obtain⟨pv,cv,hv,lv,mv,bl,bc,yc,yq,ν1,ν2,ν3,ν4,ν5,ν6,ν7,ν8,rfl,hO⟩:=h;intro a w hh;obtain⟨O,k8,T,U⟩:=(hh.boxesEq (μ':=[(wb,qC (cR s pv cv hv lv mv bl bc yc yq) 253)]++ν8++(ν7++(ν6++(ν5++(ν4++(ν3++(ν2++(ν1++B)))))))) Ye).freeze hO.cl hmods;obtain⟨V,k7,Y,Z⟩:=(U.boxesEq (μ':=[(wb,qC (cR s pv cv hv lv mv bl bc yc yq) 253)]++ν7++(ν6++(ν5++(ν4++(ν3++(ν2++(ν1++B))))))) Ye).freeze hO.ch hmods;obtain⟨E6,k6,F6,h6⟩:=(Z.boxesEq (μ':=[(wb,qC (cR s pv cv hv lv mv bl bc yc yq) 253)]++ν6++(ν5++(ν4++(ν3++(ν2++(ν1++B)))))) Ye).freeze hO.ln hmods;obtain⟨E5,k5,F5,h5⟩:=(h6.boxesEq (μ':=[(wb,qC (cR s pv cv hv lv mv bl bc yc yq) 253)]++ν5++(ν4++(ν3++(ν2++(ν1++B))))) Ye).freeze hO.mks hmods;obtain⟨E4,k4,F4,h4⟩:=(h5.boxesEq (μ':=[(wb,qC (cR s pv cv hv lv mv bl bc yc yq) 253)]++ν4++(ν3++(ν2++(ν1++B)))) Ye).freeze hO.lev hmods;obtain⟨E3,k3,F3,h3⟩:=(h4.boxesEq (μ':=[(wb,qC (cR s pv cv hv lv mv bl bc yc yq) 253)]++ν3++(ν2++(ν1++B))) Ye).freeze hO.ht hmods;obtain⟨E2,k2,F2,h2⟩:=(h3.boxesEq (μ':=[(wb,qC (cR s pv cv hv lv mv bl bc yc yq) 253)]++ν2++(ν1++B)) Ye).freeze hO.ct hmods;obtain⟨E1,G,F1,h1⟩:=(h2.boxesEq (μ':=[(wb,qC (cR s pv cv hv lv mv bl bc yc yq) 253)]++ν1++B) Ye).freeze hO.pl hmods;refine kk E1 pv cv hv lv mv bl bc yc yq (fun D₁ hD₁=>G D₁ (by simp[hD₁])) ⟨kF (R:=RI) (n:=1) (f:=cI) (fun _ _=>rfl) (fun _=>rfl) F1 (by have:=hsm.pl;omega),(kF (R:=RC) (n:=3) (f:=cC) (fun _ _=>rfl) (fun _=>rfl) F2 (by have:=hsm.ct;omega)).up RC.up (G E2 Ye),(kF (R:=C8) (n:=2) (f:=cP) (fun _ _=>rfl) (fun _=>rfl) F3 (by have:=hsm.ht;omega)).up C8.up (G E3 Ye),(kF (R:=RI) (n:=1) (f:=cI) (fun _ _=>rfl) (fun _=>rfl) F4 (by have:=hsm.lev;omega)).up RI.up (G E4 Ye),(kF (R:=IM) (n:=4) (f:=cM) (fun _ _=>rfl) (fun _=>rfl) F5 (by have:=hsm.mks;omega)).up IM.up (G E5 Ye),
  (kF (R:=oB) (n:=3) (f:=cL) (fun _ _=>rfl) (fun _=>rfl) F6 (by have:=hsm.ln;omega)).up oB.up (G E6 Ye),hO.cn.up uN.up (G D0 (by simp[I])),(kF (R:=wB) (n:=4) (f:=cH) (fun _ _=>rfl) (fun _=>rfl) Y (by have:=hsm.ch;omega)).up wB.up (G V Ye),(kF (R:=R2) (n:=2) (f:=cP) (fun _ _=>rfl) (fun _=>rfl) T (by have:=hsm.cl;omega)).up R2.up (G O Ye)⟩ a w ?_
 obtain⟨g1,g2,g3,Dx,g4,M,g6⟩:=h1;exact⟨g1,g2,g3,Dx,g4,fun D hD=>by
  rcases GE.1 hD with rfl|hD
  ·exact M _ aXW
  ·exact M D (by simp[hD]),g6⟩
end

def yC(b:ByteArray):Option Int:=R5 b.data.toList
theorem OR(line:ByteArray):∃p0 ps,iY line=p0::ps:=by
 unfold iY;cases h:qD line.data.toList with
 |nil=>exact absurd h (aOL _)
 |cons p ps=>exact⟨_,_,rfl⟩
theorem CU(line:ByteArray):(iY line).length≤line.size+1:=by unfold iY;rw[aZL];exact RR _
theorem aJA{line p0 x:ByteArray}{ps:List ByteArray}{k:Nat}(h:iY line=p0::ps)(hx:ps[k]?= some x):x.size≤line.size:=by
 have hm:x∈iY line:=by rw[h];exact LE _ (LT hx)
 unfold iY at hm;obtain⟨p,hp,rfl⟩:=n4.1 hm;exact YM hp
theorem KR:∀ps:List (List UInt8),(ps.map qQ).mapM yC=ps.mapM R5
 | []=>rfl
 |p::ps=>by
  rw[aYN,bBK,bBK,KR ps];rfl
theorem T7{line p0:ByteArray}{ps:List ByteArray}(h:iY line=p0::ps):nI line=match sF.find? (fun x=>x.1==p0.data.toList)with
  |none=>none
  |some (_,k,act)=>if ps.length=k then(ps.mapM yC).map fun n=>(act,n)else none:=by
 unfold iY at h;unfold nI;cases hc:qD line.data.toList with
 |nil=>rw[hc]at h;cases h
 |cons p qs=>
  rw[hc]at h;simp only[aYN,aZS]at h;obtain⟨rfl,rfl⟩:=h;simp only[aZL];rw[KR];rfl
theorem w0{line p0:ByteArray}{ps:List ByteArray}{l:List UInt8}{k:Nat}{act:iJ}{ns:List Int}(h:iY line=p0::ps)(hf:sF.find? (fun x=>x.1==p0.data.toList)=some (l,k,act))(hk:ps.length=k)(hn:ps.mapM yC=some ns):nI line=some (act,ns):=by
 rw[T7 h,hf];simp only[];rw[aYJ hk,hn];rfl
theorem CL:∀{ps:List ByteArray} {k:Nat} {x:ByteArray},ps[k]?= some x→yC x=none→ps.mapM yC=none
 | [],_,_,h,_=>by simp at h
 |p::ps,0,x,h,hx=>by
  obtain rfl:p=x:=by simpa using h
  rw[bBK,hx];rfl
 |p::ps,k+1,x,h,hx=>by
  rw[bBK,CL (k:=k) Yar hx];cases yC p<;>rfl
theorem aBE{line p0 x:ByteArray}{ps:List ByteArray}{k:Nat}(h:iY line=p0::ps)(hx:ps[k]?= some x)(hn:R5 x.data.toList=none):nI line=none:=by
 rw[T7 h,CL hx hn];split
 ·rfl
 ·split<;>rfl
theorem XD{ps:List ByteArray}{x:ByteArray}{ns:List Int}{m:Int}(h:ps.mapM yC=some ns)(hx:yC x=some m):(ps++[x]).mapM yC=some (ns++[m]):=by
 induction ps generalizing ns with
 |nil=>
  obtain rfl:([]:List Int)=ns:=by simpa using h
  rw[aYT,bBK,hx];rfl
 |cons p ps ih=>
  rw[bBK]at h;cases hp:yC p with
  |none=>rw[hp]at h;cases h
  |some q=>
   cases hq:ps.mapM yC with
   |none=>rw[hp,hq]at h;cases h
   |some qs=>
    rw[hp,hq]at h;obtain rfl:q::qs=ns:=aYS h;rw[aZV,bBK,hp,ih hq];rfl
theorem aIN{ps:List ByteArray}{k:Nat}{x:ByteArray}{ns:List Int}{m:Int}(hx:ps[k]?= some x)(h:(ps.take k).mapM yC=some ns)(hm:R5 x.data.toList=some m):(ps.take (k+1)).mapM yC=some (ns++[m]):=by
 rw[aYG,hx];exact XD h hm
theorem AO:∀{ps:List ByteArray} {ns:List Int},ps.mapM yC=some ns→∀x∈ns,0≤x∧x≤999
 | [],ns,h=>by
  obtain rfl:([]:List Int)=ns:=by simpa using h
  intro x hx;cases hx
 |p::ps,ns,h=>by
  rw[bBK]at h;cases hp:yC p with
  |none=>rw[hp]at h;cases h
  |some q=>
   cases hq:ps.mapM yC with
   |none=>rw[hp,hq]at h;cases h
   |some qs=>
    rw[hp,hq]at h;obtain rfl:q::qs=ns:=aYS h;intro x hx;rcases GE.1 hx with rfl|hx
    ·have:=RA hp;omega
    ·exact AO hq x hx

def aHK:List (ByteArray×Value)→List (List UInt8×Nat×iJ)→Prop
 | [],[]=>True
 |(b,v)::T,(l,k,act)::L=>b.data.toList=l∧(∃f,v=.agg #[qI (k:Int),.func (.func f) #[] #[]]∧gV Go.Proofs.Tryz.prog f k act)∧aHK T L
 |_,_=>False
theorem aTE:aHK FM sF:=⟨rfl,⟨_,rfl,PL⟩,⟨rfl,⟨_,rfl,ZX⟩,⟨rfl,⟨_,rfl,PD⟩,⟨rfl,⟨_,rfl,ZN⟩,⟨rfl,⟨_,rfl,GY⟩,⟨rfl,⟨_,rfl,PZ⟩,⟨rfl,⟨_,rfl,aIA⟩,⟨rfl,⟨_,rfl,XK⟩,⟨rfl,⟨_,rfl,WW⟩,⟨rfl,⟨_,rfl,NL⟩,⟨rfl,⟨_,rfl,QY⟩,⟨rfl,⟨_,rfl,aBC⟩,⟨rfl,⟨_,rfl,MJ⟩,⟨rfl,⟨_,rfl,YT⟩,⟨rfl,⟨_,rfl,QX⟩,⟨rfl,⟨_,rfl,LS⟩,⟨rfl,⟨_,rfl,MC⟩,⟨rfl,⟨_,rfl,KB⟩,⟨rfl,⟨_,rfl,YR⟩,⟨rfl,⟨_,rfl,aJE⟩,⟨rfl,⟨_,rfl,PE⟩,⟨rfl,⟨_,rfl,HG⟩,bCV⟩⟩⟩⟩⟩⟩⟩⟩⟩⟩⟩⟩⟩⟩⟩⟩⟩⟩⟩⟩⟩⟩
theorem XA(a b:ByteArray):(a==b)=(b.data.toList==a.data.toList):=by
 rw[bAY];constructor
 ·intro h;rw[beq_toListBytes,ByteArray.toList_eq,ByteArray.toList_eq]at h;rw[eq_of_beq h];simp
 ·intro h;rw[beq_toListBytes,ByteArray.toList_eq,ByteArray.toList_eq,eq_of_beq h];simp
theorem KT(p:ByteArray):∀(T:List (ByteArray×Value)) (L:List (List UInt8×Nat×iJ)) (i:Nat),aHK T L→(U0 p T i=none∧L.find? (fun x=>x.1==p.data.toList)=none)∨(∃(j k:Nat) (act:iJ) (f:FuncId),U0 p T i=some (j,.agg #[qI (k:Int),.func (.func f) #[] #[]])∧L.find? (fun x=>x.1==p.data.toList)=some (p.data.toList,k,act)∧gV Go.Proofs.Tryz.prog f k act)
 | [],[],_,_=>aYF ⟨rfl,rfl⟩
 | [],_::_,_,h=>h.elim
 |_::_,[],_,h=>h.elim
 |(b,v)::T,(l,k,act)::L,i,h=>by
  obtain⟨rfl,⟨f,rfl,hw⟩,hT⟩:=h;unfold U0;rw[List.find?_cons];rw[XA p b];cases hb:b.data.toList==p.data.toList with
  |true=>
   refine aXR ⟨i,k,act,f,by rw[aYJ rfl],?_,hw⟩;simp only[];rw[eq_of_beq hb]
  |false=>
   rw[aYC Ye];exact KT p T L (i+1) hT
theorem ZI(p:ByteArray):∃(k:Nat) (c:Value) (b:Bool),aDJ p FM (.agg #[qI 0,.nilFunc])=.agg #[qI (k:Int),c]∧(U0 p FM 0).isSome=b∧(b=true→∃act f,sF.find? (fun x=>x.1==p.data.toList)=some (p.data.toList,k,act)∧c=.func (.func f) #[] #[]∧gV Go.Proofs.Tryz.prog f k act)∧(b=false→sF.find? (fun x=>x.1==p.data.toList)=none)∧cell1 c=true:=by
 unfold aDJ;rcases KT p _ _ 0 aTE with⟨h1,h2⟩|⟨j,k,act,f,h1,h2,h3⟩
 ·rw[h1];exact⟨0,.nilFunc,false,rfl,rfl,(fun h=>by cases h),fun _=>h2,rfl⟩
 ·rw[h1];exact⟨k,_,true,rfl,rfl,fun _=>⟨act,f,h2,rfl,h3⟩,(fun h=>by cases h),rfl⟩
theorem CC{p l:List UInt8}{k:Nat}{act:iJ}{s G:aQ}{n:List Int}(h:sF.find? (fun x=>x.1==p)=some (l,k,act))(hk:mW s)(ha:act s n=.ok G):mW G:=NM _ (List.mem_of_find?_eq_some h) s n G hk ha
theorem QS{line p0:ByteArray}{ps:List ByteArray}{k:Nat}{c:Value}{b:Bool}(h:iY line=p0::ps)(hno:b=false→sF.find? (fun x=>x.1==p0.data.toList)=none)(hyes:b=true→∃act f,sF.find? (fun x=>x.1==p0.data.toList)=some (p0.data.toList,k,act)∧c=.func (.func f) #[] #[]∧gV Go.Proofs.Tryz.prog f k act)(hx:b=false∨¬((iY line).length:Int)-1=(k:Int)):nI line=none:=by
 rw[T7 h];cases b with
 |false=>rw[hno rfl]
 |true=>
  obtain⟨act,f,hf,_,_⟩:=hyes rfl;rw[hf];simp only[];rw[aYC];intro e;rcases hx with hx|hx
  ·cases hx
  ·refine hx ?_;rw[h,aXY];omega
theorem aPY{line p0:ByteArray}{ps:List ByteArray}{k:Nat}{b:Bool}(h:iY line=p0::ps)(hf:([(!b||decide (((iY line).length:Int)-1≠(k:Int)))].any fun x=>true==x)=false):b=true∧ps.length=k:=by
 have h2:b=true∧((iY line).length:Int)-1=(k:Int):=by simpa using hf
 refine⟨h2.1,?_⟩;have:=h2.2;rw[h,aXY]at this;omega
theorem aLP(O I M:Nat)(c2:List Value)(v3:Value)(D:aC):DJ prog 110 [qP O,qP I,qP M] D [(M,qC [v3] 44),(I,qC c2 42)] .returning .returning (fun _ ν'=>ν'=[(M,qC [v3] 44),(I,qC c2 42)]):=by
 refine aCU (t:=6) (rv:=.nilIface) 15 func110 rfl rfl rfl rfl rfl (fun c₀ cs hm=>aXR ⟨aGK hm,rfl,rfl⟩) (fun h0 hwl hwn=>Zar<|aA<|PU rfl U20 rfl (Or.inl rfl) rfl bCV<|aG<|aW rfl (fun G=>?_) (fun G=>?_))
 ·refine aX<|Zj rfl<|Zae<|Zat ?_;exact Zaf [] [] [_,_] [] rfl (fun D' hD=>rfl)
 ·cases G
theorem i1(M G O:Nat)(s:aQ)(pv cv hv lv mv bl bc yc yq:Value)(code:Int)(D:aC)(hB:At D M 0 (cR s pv cv hv lv mv bl bc yc yq))(hL:jM D s pv cv hv lv mv bl bc yc yq):DJ prog 110 [qP M,qP G,qP O] D [(O,qC [qI 0] 44),(G,qC [qN,qN,qI 0,qI 0,qI 0,qN,qI 0,qN,qN,qI 0,qI 0,qI 0,qN,qN,qN,qI 0,qN] 42)] (.panicking (oL (fE code))) (.panicking [{v:=fE code,recovered:=true}]) (fun _ ν'=>ν'=[(O,qC [qI code] 44),(G,qC (cR s pv cv hv lv mv bl bc yc yq) 42)]):=by
 refine aCU (t:=6) (rv:=(fE code)) 15 func110 rfl rfl rfl rfl rfl (fun c₀ cs hm=>aYF (aJS hm)) (fun h0 hwl hwn=>Zar<|aA<|PU rfl U20 rfl (Or.inr ⟨_,_,rfl⟩) rfl bCV<|aG<|aW rfl (fun I=>?_) (fun I=>?_))
 ·cases I
 ·refine aA<|ZD rfl U240 rfl rfl bCV<|Zad rfl<|Zad rfl<|aG<|aW rfl (fun hc2=>?_) (fun hc2=>?_)
  ·refine aA<|Zw rfl UV rfl (fun R=>Zu rfl aMI (bO.head)<|aG<|lG hB Ye (fun hap=>xP (fun hnd=>?_)));have T:M∉[G]:=by simp[aD.ks]at hap ⊢;exact hap.2.2
   have U:R∉[G]:=by simp at hnd ⊢;exact hnd.1.2
   refine IE [G] 1 [0,1,2,3,4] [false,true,true,true,false] [(false,0),(true,1),(true,2),(true,3),(false,4)] bI (fun _ _ _ _ he h=>TG (P:=prog) (fn:=f110) _ _ _ _ he h) Yf rfl<|dL rfl iU rfl hB Yc dK Yn rfl bCV<|Zh rfl aBI rfl<|cF rfl qK rfl Mm0 rfl Yn rfl bCV<|tA rfl rfl rfl rfl dK (.tail (.tail (bO.head))) Ye rfl (gU hL) (Or.inr Ye) bCV<|Zm rfl pG (.tail (bO.head)) rfl<|Zae<|Zat ?_;exact Zaf [_] [] [_,_] [] rfl (fun D' hD=>rfl)
  ·cases hc2
theorem aQW(sv:Value)(s:aQ)(line:ByteArray)(D:aC)(hs:fN D sv s)(hk0:mW s)(hl:line.size≤1000)(hV:mY D):Fn prog 58 #[sv,.string line] D (fun D' v=>∃v1,v=.tuple #[v1,qI (uF s line).2]∧fN D' v1 (uF s line).1):=by
 have R:=hs;obtain⟨pv,cv,hv,lv,mv,bl,bc,yc,yq,rfl,hL⟩:=hs;have hsm:=hk0.small;unfold cR;obtain⟨p0,ps,hcut⟩:=OR line;obtain⟨wk,wc,wis,hval,his,hyes,hno,hwc⟩:=ZI p0;have hps:ps.length≤1001:=by have:=CU line;rw[hcut]at this;simp only[aXY]at this;omega
 have hp0:(iY line)[0]?= some p0:=by rw[hcut];rfl
 have hcl:(iY line).length≤1001:=by have:=CU line;omega
 refine aRU 75 func58 rfl rfl rfl rfl fun h0=>aA<|Zv rfl (fun M E1 hE1 T=>Zw rfl lB rfl (fun G=>Zw rfl GA rfl (fun I=>aK<|Zao rfl<|aOF (c1:=[]) (c2:=[qP M,qP G,qP I]) rfl rfl rfl bCV<|aK<|Za rfl<|Zt rfl (fun D1 hD1=>aBZ line hl _ (hV.up (hD1 _ Ye))) (fun v1 D1 hD1 hp1=>?_))))
 obtain⟨pa,pc,rfl⟩:=hp1.shape;have hPS:=hp1;refine Zj rfl<|bR<|ZB<|lC [] 5 [true,false,false,false,false,false,false,false,true,false,false] [.fork [1,2,3] 0 (.fin [4,5,6,7,8]) 8 (.fin [0,4,5,6,7]),.fin [9,10]] bI aTD Yf<|s7 (γ:=Nat) (fun g=>True) (fun g=>[(24,.agg #[qI (wk:Int),wc]),(25,.bool wis),(7,qP g),(6,.slice pa (iY line).length pc),(4,qP G),(5,qP I),(2,qP M)]) (fun g=>[(g,qC [qI 0,.nilFunc] 244),(I,qC [qI 0] 44),(G,qC [qN,qN,qI 0,qI 0,qI 0,qN,qI 0,qN,qN,qI 0,qI 0,qI 0,qN,qN,qN,qI 0,qN] 42)]) (fun g=>[D1,E1,D]) [.fork [1,2,3] 0 (.fin [4,5,6,7,8]) 8 (.fin [0,4,5,6,7])] [.fin [9,10]] rfl ?_ ?_
 ·refine oJ<|bL [(false,1),(false,2),(false,3)] rfl<|Za rfl<|Zx rfl U22 jC rfl hPS rfl hp0 (fun b1 o1 cs1 hr1 hcl1 hA1=>?_);obtain rfl:cs1=[.string _]:=hr1;refine Zf 0 rfl I9 rfl hA1 rfl<|Zae (dP true true rfl rfl ?_ ?_)
  ·refine fM rfl rfl rfl (fun D6 hD6=>JS _) rfl bCV (fun wv D7 νm hD7 hm=>?_);obtain⟨bm,es,cl,rfl,rfl,hM⟩:=hm;refine Zae<|aS [(false,4),(false,5),(false,6),(false,7),(true,8)] rfl<|X5 (b:=bm) rfl U246 U9 eU rfl rfl Mm0 n3 hM rfl bCV ?_;rw[hval,his];refine Za rfl<|Zad rfl<|Zad rfl<|Zw rfl eU rfl (fun q4=>Zae ?_);exact fun a w hh=>⟨q4,bCV,hh.weak bA (.cons_cons _ (.cons _ (.cons_cons _ (.cons_cons _ (.refl _))))) (fun D hD=>⟨D,by simp only[GE,n3,bAO]at hD ⊢;rcases hD with rfl|rfl|rfl|rfl<;>simp,Le.refl D⟩)⟩
  ·refine Zw rfl eU rfl (fun q4=>Zae<|aS [(true,0),(false,4),(false,5),(false,6),(false,7)] rfl<|fM rfl rfl rfl (fun D6 hD6=>JS _) rfl bCV (fun wv D7 νm hD7 hm=>?_));obtain⟨bm,es,cl,rfl,rfl,hM⟩:=hm;refine X5 (b:=bm) rfl U246 U9 eU rfl rfl Mm0 n3 hM rfl bCV ?_;rw[hval,his];refine Za rfl<|Zad rfl<|Zad rfl<|Zae ?_;exact fun a w hh=>⟨q4,bCV,hh.weak bA (.cons _ (.cons_cons _ (.cons_cons _ (.cons_cons _ (.refl _))))) (fun D hD=>⟨D,by simp only[GE,n3,bAO]at hD ⊢;rcases hD with rfl|rfl|rfl|rfl<;>simp,Le.refl D⟩)⟩
 rintro qx -;dsimp only;refine kQ [(false,9),(false,10)] rfl<|aV rfl rfl rfl rfl aMF Ya Ya (bO.head) (by intro u hu;simp only[GE,n3,bAO]at hu;rcases hu with rfl|rfl;rfl;exact hwc) bCV<|Zj rfl<|Zae<|kU<|aMT<|aA<|Za rfl<|Zak rfl<|Za rfl ?_
 refine' dY 7 (s:=28) (p:=35) rfl (fun hg1=>?_) (fun hg1=>?_) ?_;rotate_left
 ·refine Zb rfl<|dH rfl U22 rfl hPS rfl rfl ⟨_,rfl,rfl⟩<|hU rfl rfl rfl Yg rfl ⟨_,rfl,rfl⟩<|Zi rfl ZE rfl<|Zq rfl aI rfl Mm0 rfl<|oC rfl rfl rfl rfl ⟨_,rfl,rfl⟩<|Zah rfl ?_;exact aR 6
 ·refine Zk rfl<|Zk rfl<|Zk rfl<|Zk rfl<|Zk rfl<|Zk rfl<|Zag rfl ?_;exact aR 6
 refine Zn rfl U327 lU nT rfl (.cons rfl rfl .nil) (fun b901 D901 hD901 hI=>fD (A:=[]) (ν:=[]) (B:=[(_,_),(_,_),(_,_)]) rfl rfl rfl rfl (aYF rfl) Yi (fun D30 U=>fG 4 [(!wis||decide (((iY line).length:Int)-1≠(wk:Int)))] _ _ ((gZ (l:=[(!wis||decide (((iY line).length:Int)-1≠(wk:Int)))]) (fun _ _ _ h=>h) hI Ye).up RB.up (U _ Ye))) rfl bCV (fun v30 D31 U V a w hh=>?_) (fun v30 D31 ν30 U V=>?_))
 ·obtain⟨hx30,rfl⟩:=V;exact GD (X:=Cx.push ⟨none,75,[],h0,h0.size,D,[],none⟩ ⟨.fn (.func 110) [qP M,qP G,qP I].toArray,[].toArray⟩) (P:=prog) (fn:=f58) (f:=110) (c1:=[]) (c2:=[qP M,qP G,qP I]) (A:=[]) (ν:=[(I,_),(G,_)]) (B:=[]) (rs:=[.cell 4 42,.cell 5 44]) Yav Yav (fun p hp=>by simp only[GE,n3,bAO]at hp;rcases hp with rfl|rfl<;>rfl) (fun D hD=>i1 M G I s pv cv hv lv mv bl bc yc yq _ D (T.up (hD _ Ye)) (hL.up (hD _ Ye))) rfl (fun D ν' hD hq=>by subst hq;exact⟨[_,_],⟨⟨_,_,_,rfl,.tail _ (.head _),aXR ⟨iU,dK,rfl⟩⟩,⟨_,_,_,rfl,.head _,aYF ⟨qK,rfl⟩⟩,bCV⟩,Q1 (ST (QS hcut hno hyes (by simpa using hx30))) (R.up (hD _ Ye))⟩) a w (hh.subB (.cons _ (.refl _)))
 obtain⟨hf30,rfl⟩:=V;obtain⟨hwis,hlen⟩:=aPY hcut hf30;obtain⟨act,wf,hfind,rfl,hword⟩:=hyes hwis;refine aK<|Zj rfl<|bW<|Za rfl<|vK (j:=1) rfl U22 jC rfl hPS rfl (by rw[hcut];simp) rfl bCV (fun ta hT=>?_)
 rw[hcut]at hT ⊢
 simp only[List.drop_succ_cons,bBF]at hT;rw[show(p0::ps).length-1=ps.length by simp]at hT ⊢
 refine Zab rfl U22 rfl hT rfl<|Za rfl<|aG<|Zar<|dB (γ:=Nat×Value×aD×List Int) (fun g=>ps.length-g.1) (fun g=>g.1≤ps.length∧(ps.take g.1).mapM yC=some g.2.2.2∧g.2.2.2.length=g.1∧bZ 3 1 g.2.1 g.1 (ints g.2.2.2) g.2.2.1) (fun g=>[(41,qI (g.1:Int)),(9,g.2.1)]) [(40,_),(39,_),(7,_),(4,_),(5,_),(2,_)] (fun g=>g.2.2.1++[(qx,qC [qI (wk:Int),.func (.func wf) #[] #[]] 244),(I,qC [qI 0] 44),(G,qC [qN,qN,qI 0,qI 0,qI 0,qN,qI 0,qN,qN,qI 0,qI 0,qI 0,qN,qN,qN,qI 0,qN] 42)]) (fun g=>[D31,D901,D1,E1,D]) (0,qN,[],[]) ⟨by simp,rfl,rfl,by simpa [ints]using bZ.nil⟩ ⟨Yb,Yb,bCV⟩ bA Mm5 (aE) ?_;rintro⟨k,v,ν,ns⟩ ⟨h1,h2,h3,ha⟩;simp only at h1 h2 h3 ha;refine aA<|Zai rfl<|bR<|Zz rfl (fun hJ=>?_) (fun hJ=>?_)
 ·simp only at hJ;have hk:k<ps.length:=by omega
  obtain⟨x,hx⟩:=dX ps k;have hsz:x.size≤1000:=bAM (aJA hcut hx) hl;refine aZ<|aO<|Zar<|aA<|Zx rfl U22 jC rfl hT rfl hx (fun b2 o2 cs2 hr2 hcl2 hA2=>?_);obtain rfl:cs2=[.string _]:=hr2;refine Zf 0 rfl I9 rfl hA2 rfl<|Zj rfl<|aK<|Za rfl<|Zt rfl (fun D2 hD2=>ZS x hsz _ (hV.up (hD2 _ Ye))) (fun v2 D2 hD2 hp2=>?_);obtain⟨m,nb,rfl,hm1,hm2⟩:=hp2;refine Za rfl<|Zad rfl<|Zad rfl<|Zj rfl<|Zj rfl<|aK<|Za rfl<|Zak rfl<|Zn rfl U327 lU nT rfl (.cons rfl rfl .nil) (fun b902 D902 hD902 hK=>fD (A:=[]) (ν:=[]) (B:=_) rfl rfl rfl rfl (aYF rfl) Yi (fun D40 Y=>fG 4 [!nb] _ _ ((gZ (l:=[!nb]) (fun _ _ _ h=>h) hK Ye).up RB.up (Y _ Ye))) rfl bCV (fun v40 D41 Y Z a w hh=>?_) (fun v40 D41 ν40 Y Z=>?_))
  ·obtain⟨hx40,rfl⟩:=Z;exact GD (X:=Cx.push ⟨none,75,[],h0,h0.size,D,[],none⟩ ⟨.fn (.func 110) [qP M,qP G,qP I].toArray,[].toArray⟩) (P:=prog) (fn:=f58) (f:=110) (c1:=[]) (c2:=[qP M,qP G,qP I]) (A:=[]) (ν:=[(I,_),(G,_)]) (B:=[]) (rs:=[.cell 4 42,.cell 5 44]) Yav Yav (fun p hp=>by simp only[GE,n3,bAO]at hp;rcases hp with rfl|rfl<;>rfl) (fun D hD=>i1 M G I s pv cv hv lv mv bl bc yc yq _ D (T.up (hD _ Ye)) (hL.up (hD _ Ye))) rfl (fun D ν' hD hq=>by subst hq;exact⟨[_,_],⟨⟨_,_,_,rfl,.tail _ (.head _),aXR ⟨iU,dK,rfl⟩⟩,⟨_,_,_,rfl,.head _,aYF ⟨qK,rfl⟩⟩,bCV⟩,Q1 (ST (aBE hcut hx (hm2 (by simpa using hx40)))) (R.up (hD _ Ye))⟩) a w (hh.subB (.trans (.cons _ (.refl _)) (List.sublist_append_right _ _)))
  obtain⟨hf40,rfl⟩:=Z;have hnb:=hm1 (by simpa using hf40);refine aG<|aX<|Za rfl<|Za rfl<|Zn rfl U25 aL dR rfl (.cons rfl rfl .nil) (fun b903 D903 hD903 hB=>?_);have hS903:=Sl.ofInts (l:=[_]) (n:=1) (cap:=1) hB rfl Yd Yd;refine bE (A:=[]) (B:=[(_,_),(_,_),(_,_)]) rfl U25 rfl rfl aL dR rfl nV rfl rfl rfl ha (mK.lit hB) Ye rfl (by simp[ints,h3]) Yj Yd (aYF rfl) rfl bCV (fun v1 ν1 ha1=>?_);have ha2:bZ 3 1 v1 (k+1) (ints (ns++[m])) ν1:=by rw[←gS];exact ha1
  refine Zj rfl<|Zae<|Zat<|Zap<|aX<|Zaa rfl<|Za rfl<|Zae ?_;exact aM 24 (k+1,v1,ν1,ns++[m]) ⟨by simp only;omega,aIN hx h2 hnb,by simp[h3],ha2⟩ Yo ⟨Yb,Yb,bCV⟩ rfl rfl Mm5 (fun D h=>⟨D,aYK _ (aYK _ (aYK _ (aYK _ (h)))),Le.refl D⟩)
 ·obtain rfl:k=ps.length:=by simp only at hJ;omega
  rw[aZB]at h2;refine aT<|Zaq<|Zaq<|Zau<|Zap<|aO<|sH (A:=[]) (B:=[(_,_),(_,_),(_,_)]) ha rfl (fun D8 hD8 hF8=>?_);have hnS:=hF8.ints (l:=ns) h3 (by have:=hps;omega)
  refine aX<|Zs rfl iU rfl T dK<|fM rfl rfl rfl (fun D20 hD20=>c8 _ s _ (R.up (hD20 _ Ye)) hsm) rfl bCV (fun wv D21 νW hD21 hw=>?_);obtain⟨wb,rfl,hO⟩:∃wb,wv=qP wb∧X2 D21 wb s νW:=by
   obtain⟨wb,pv,cv,hv,lv,mv,bl,bc,yc,yq,ν1,ν2,ν3,ν4,ν5,ν6,ν7,ν8,h1,h2,h3⟩:=hw;exact⟨wb,h1,pv,cv,hv,lv,mv,bl,bc,yc,yq,ν1,ν2,ν3,ν4,ν5,ν6,ν7,ν8,h2,h3⟩
  refine Zj rfl<|aK<|Zh rfl YD rfl<|Zp rfl aMC rfl (n5 _ Mm0) rfl<|Za rfl<|Za rfl<|fD (A:=[]) (ν:=νW) (B:=[(_,_),(_,_),(_,_)]) rfl rfl rfl rfl (aYF rfl) (aPI hO) (fun D50 O=>hword wb s _ ns νW _ (hnS.up RI.up (O _ Ye)) Yd (AO h2) (hO.up (O _ Ye)) hsm) rfl bCV (fun v50 D51 O hE a w hh=>?_) (fun v50 D51 ν50 O hE=>?_)
  ·obtain⟨c50,hx50,rfl⟩:=hE;exact GD (X:=Cx.push ⟨none,75,[],h0,h0.size,D,[],none⟩ ⟨.fn (.func 110) [qP M,qP G,qP I].toArray,[].toArray⟩) (P:=prog) (fn:=f58) (f:=110) (c1:=[]) (c2:=[qP M,qP G,qP I]) (A:=[]) (ν:=[(I,_),(G,_)]) (B:=[]) (rs:=[.cell 4 42,.cell 5 44]) Yav Yav (fun p hp=>by simp only[GE,n3,bAO]at hp;rcases hp with rfl|rfl<;>rfl) (fun D hD=>i1 M G I s pv cv hv lv mv bl bc yc yq _ D (T.up (hD _ Ye)) (hL.up (hD _ Ye))) rfl (fun D ν' hD hq=>by subst hq;exact⟨[_,_],⟨⟨_,_,_,rfl,.tail _ (.head _),aXR ⟨iU,dK,rfl⟩⟩,⟨_,_,_,rfl,.head _,aYF ⟨qK,rfl⟩⟩,bCV⟩,Q1 (aRL (w0 hcut hfind hlen h2) hx50) (R.up (hD _ Ye))⟩) a w (hh.subB (.cons _ (.refl _)))
  obtain⟨s2,hact,hO2⟩:=hE;refine bR ?_;have hsm2:N0 s2:=(CC hfind hk0 hact).small;refine KF (B:=[(_,_),(_,_),(_,_)]) hO2 rfl Ye hsm2 (fun D9 hN hR hS hX hY rA rB yc2 yq2 hD9 hL2=>?_);unfold cR;refine aX<|Za rfl<|Zaj rfl<|Zh rfl aY rfl<|Zy rfl iU rfl Mm0 dK<|fD (A:=[]) (ν:=[]) (B:=[(_,_),(_,_),(_,_),(_,_)]) rfl rfl rfl rfl (aYF rfl) Yi (fun D60 hF=>aHQ _ s2 _ ⟨hN,hR,hS,hX,hY,rA,rB,yc2,yq2,rfl,hL2.up (hF _ Ye)⟩) rfl bCV (fun v60 D61 hF hH a w hh=>?_) (fun v60 D61 ν60 hF hH=>?_)
  ·obtain⟨hx60,rfl⟩:=hH;exact GD (X:=Cx.push ⟨none,75,[],h0,h0.size,D,[],none⟩ ⟨.fn (.func 110) [qP M,qP G,qP I].toArray,[].toArray⟩) (P:=prog) (fn:=f58) (f:=110) (c1:=[]) (c2:=[qP M,qP G,qP I]) (A:=[]) (ν:=[(I,_),(G,_)]) (B:=[]) (rs:=[.cell 4 42,.cell 5 44]) Yav Yav (fun p hp=>by simp only[GE,n3,bAO]at hp;rcases hp with rfl|rfl<;>rfl) (fun D hD=>i1 M G I s pv cv hv lv mv bl bc yc yq _ D (T.up (hD _ Ye)) (hL.up (hD _ Ye))) rfl (fun D ν' hD hq=>by subst hq;exact⟨[_,_],⟨⟨_,_,_,rfl,.tail _ (.head _),aXR ⟨iU,dK,rfl⟩⟩,⟨_,_,_,rfl,.head _,aYF ⟨qK,rfl⟩⟩,bCV⟩,Q1 (aRF (w0 hcut hfind hlen h2) hact hx60) (R.up (hD _ Ye))⟩) a w (hh.subB (.cons _ (.cons _ (.refl _))))
  obtain⟨hf60,rfl⟩:=hH;refine aK<|Za rfl<|Zaj rfl<|Zh rfl aY rfl<|Zy rfl iU rfl Mm0 dK<|aV rfl rfl rfl rfl dK Ya Ya (.tail (.tail (.tail (bO.head)))) (gU hL2) bCV<|Zm rfl pG (.tail (.tail (bO.head))) rfl<|aH<|aSJ (X:=Cx.push ⟨none,75,[],h0,h0.size,D,[],none⟩ ⟨.fn (.func 110) [qP M,qP G,qP I].toArray,[].toArray⟩) (P:=prog) (fn:=f58) (f:=110) (e:=.ret) (c1:=[]) (c2:=[qP M,qP G,qP I]) (A:=[(_,_),(_,_)]) (ν:=[(I,qC [qI 0] 44),(G,qC (cR s2 hN hR hS hX hY rA rB yc2 yq2) 42)]) (B:=[]) (rs:=[.cell 4 42,.cell 5 44]) Yav Yav Yav (fun p hp=>by simp only[GE,n3,bAO]at hp;rcases hp with rfl|rfl<;>rfl) (fun D hD=>aLP M G I _ _ D) rfl ?_
  intro D ν' hD hq;subst hq;exact⟨[_,_],⟨⟨_,_,_,rfl,.tail _ (.tail _ (.tail _ (.head _))),aXR ⟨iU,dK,rfl⟩⟩,⟨_,_,_,rfl,.tail _ (.tail _ (.head _)),aYF ⟨qK,rfl⟩⟩,bCV⟩,SI (aLN (w0 hcut hfind hlen h2) hact hf60) ⟨hN,hR,hS,hX,hY,rA,rB,yc2,yq2,rfl,hL2.up (hD D9 Ye)⟩⟩
end L12
namespace L12
open C12
def nS(ls:List ByteArray):aQ×List Int:=ls.foldl (fun p l=>((uF p.1 l).1,p.2++[(uF p.1 l).2])) (H1,[])
theorem RL{ls:List ByteArray}{k:Nat}{x:ByteArray}(h:ls[k]?= some x):nS (ls.take (k+1))=((uF (nS (ls.take k)).1 x).1,(nS (ls.take k)).2++[(uF (nS (ls.take k)).1 x).2]):=by
 unfold nS;rw[aYG,h,aZM];rfl
theorem NY{line:ByteArray}{act:iJ}{n:List Int}{s G:aQ}(h:nI line=some (act,n))(hk:mW s)(ha:act s n=.ok G):mW G:=by
 unfold nI at h;split at h
 ·cases h
 ·split at h
  ·cases h
  ·rename_i l k act' hf;split at h
   ·obtain⟨m,_,hm⟩:=bAE.1 h;cases hm;exact CC hf hk ha
   ·cases h
theorem RF{s:aQ}(hk:mW s)(line:ByteArray):mW (uF s line).1:=by
 unfold uF;split
 ·exact hk
 ·rename_i act n h;split
  ·exact hk
  ·rename_i s' ha;split
   ·exact NY h hk ha
   ·exact hk
theorem x8:mW H1:=⟨by decide,by decide,by decide,by decide,by decide,by decide,by decide,by decide,by decide⟩
theorem aMO{q:Nat}{o:Obj}{ν B:aD}(h:(aD.ks ((q,o)::(ν++B))).Nodup):∀p∈ν,p.1∉[q]:=by
 intro p hp hm;obtain rfl:p.1=q:=by simpa using hm
 exact(aZI.1 h).1 (n4.2 ⟨p,aXU _ hp,rfl⟩)
structure aWP where
 (k:Nat) (s:aQ) (es:List Int) (pv cv hv lv mv bl bc yc yq v:Value) (ν:aD) (Dn:aC)
theorem UD(lv:Value)(ls:List ByteArray)(D:aC)(hS:Sl D RS 1 lv ls)(hn:ls.length≤1000)(hsz:∀l∈ls,l.size≤1000)(hV:mY D):Fn prog 31 #[lv] D (fun D' v=>∃T v2,v=.tuple #[T,v2]∧fN D' T (nS ls).1∧Sl D' RI 1 v2 (nS ls).2):=by
 refine enter 31 func31 rfl rfl rfl rfl fun h0=>aA<|Zw rfl lB rfl (fun q1=>Zj rfl<|aK<|Zt rfl (fun D1 V=>vG _) (fun T D1 V Y=>?_))
 obtain⟨pv,cv,hv,I,mv,bl,bc,yc,yq,rfl,hL⟩:=Y;unfold cR;refine Zw rfl lB rfl (fun q2=>aV rfl rfl rfl rfl dK Ya Ya (bO.head) (gU hL) bCV<|aK<|Zj rfl<|bW<|Za rfl<|dH rfl U22 rfl Ym rfl rfl bCV<|Za rfl<|aG<|Zar<|dB (γ:=aWP) (fun g=>ls.length-g.k) (fun g=>g.k≤ls.length∧nS (ls.take g.k)=(g.s,g.es)∧g.es.length=g.k∧bZ 44 1 g.v g.k (ints g.es) g.ν∧jM g.Dn g.s g.pv g.cv g.hv g.lv g.mv g.bl g.bc g.yc g.yq∧mW g.s) (fun g=>[(13,qI (g.k:Int)),(5,g.v)]) [(12,_),(11,_),(4,_),(3,_),(2,_)] (fun g=>g.ν++[(q2,qC (cR g.s g.pv g.cv g.hv g.lv g.mv g.bl g.bc g.yc g.yq) 42),(q1,qC [qN,qN,qI 0,qI 0,qI 0,qN,qI 0,qN,qN,qI 0,qI 0,qI 0,qN,qN,qN,qI 0,qN] 42)]) (fun g=>[g.Dn,D]) ⟨0,H1,[],pv,cv,hv,I,mv,bl,bc,yc,yq,qN,[],D1⟩ ⟨by simp,by simp[nS],rfl,by simpa [ints]using bZ.nil,hL,x8⟩ ⟨Yb,Yb,bCV⟩ bA Mm5 (Yw) ?_);rintro⟨k,s,es,pv,cv,hv,lv,mv,bl,bc,yc,yq,v,ν,Dn⟩ ⟨h1,hp,h3,ha,hL,hk⟩;simp only at h1 hp h3 ha hL hk;refine aA<|Zai rfl<|bR<|Zz rfl (fun M=>?_) (fun M=>?_)
 ·simp only at M;have hlt:k<ls.length:=by omega
  obtain⟨x,hx⟩:=dX ls k;refine aZ<|aO<|Zar<|aA<|Zx rfl U22 jC rfl (hS.up RS.up (Le.refl _)) rfl hx (fun b1 o1 Z hB hcl1 hE=>?_);obtain rfl:Z=[.string _]:=hB;refine Zf 0 rfl I9 rfl hE rfl<|Zj rfl<|aK<|Zy rfl iU rfl (n5 _ Mm0) dK<|Za rfl<|Zt rfl (fun D2 O=>aQW _ s x _ ⟨pv,cv,hv,lv,mv,bl,bc,yc,yq,rfl,hL.up (O _ Ye)⟩ hk (hsz x (LT hx)) (hV.up (O _ Ye))) (fun v2 D2 O hF=>?_);obtain⟨w1,rfl,hH,hI,hJ,I,hK,hM,hN,hO,hR,rfl,R⟩:=hF;have hX:=RF hk x;unfold cR;refine Za rfl<|Zad rfl<|Zad rfl<|Zw rfl lB rfl (fun U=>aV rfl rfl rfl rfl dK Ya Ya (bO.head) (gU R) bCV<|Zj rfl<|aG<|xP (fun hnd=>?_));have hnu:∀p∈ν,p.1∉[U]:=aMO hnd;have hq3:U∉eQ.mk [U]:=eQ.out Ye;refine bM (eQ.mk [U]) 3 7 30<|bT rfl iU rfl Mm0 dK Yn rfl bCV<|Za rfl<|Za rfl<|Zn rfl U43 pG GA rfl (.cons rfl rfl .nil) (fun b901 D901 hY G=>?_);have rA:=Sl.ofInts (l:=[_]) (n:=1) (cap:=1) G rfl Yd Yd;refine bE (A:=[(_,_)]) (B:=[(_,_),(_,_)]) rfl U43 rfl rfl pG GA rfl aTQ rfl rfl rfl ha (mK.lit G) Ye rfl (by simp[ints,h3]) Yj Yd (aXR (fun p hp=>eQ.in_ (hnu p hp))) rfl bCV (fun T ν1 rB=>?_);have ha2:bZ 44 1 T (k+1) (ints (es++[(uF s x).2])) ν1:=by rw[←gS];exact rB
  refine aJ ((U,_)::(ν1++[(q2,_),(q1,_)])) rfl<|aV rfl rfl rfl rfl dK Ya Ya (.tail (.app (bO.head))) (gU R) bCV<|Zj rfl<|Zae<|Zat<|Zap<|aX<|Zaa rfl<|Za rfl<|Zae ?_;exact aM 22 ⟨k+1,(uF s x).1,es++[(uF s x).2],hH,hI,hJ,I,hK,hM,hN,hO,hR,T,ν1,D2⟩ ⟨by simp only;omega,by simp only;rw[RL hx,hp],by simp[h3],ha2,R,hX⟩ Yo ⟨Yb,Yb,bCV⟩ rfl rfl (List.Sublist.cons _ Mm5) (Yw)
 ·obtain rfl:k=ls.length:=by simp only at M;omega
  rw[aZB]at hp;refine aT<|Zaq<|Zaq<|Zau<|Zap<|aA<|Zy rfl iU rfl (n5 _ Mm0) dK<|Za rfl<|aV rfl rfl rfl rfl dK Ya Ya (.app (.tail (bO.head))) (gU hL) bCV<|Zj rfl<|aH<|gR (A:=[]) (B:=[(_,_),(_,_)]) ha rfl (fun D9 hD9 hF9=>?_);have hes:=hF9.ints (l:=es) h3 Yd;exact Zl [_,_] rfl ⟨⟨_,_,_,rfl,aYK _ Mm0,aXR ⟨iU,dK,rfl⟩⟩,rfl,bCV⟩ (fun D hD=>⟨_,_,rfl,by rw[hp];exact⟨pv,cv,hv,lv,mv,bl,bc,yc,yq,rfl,hL.up (hD _ Ye)⟩,by rw[hp];exact hes.up RI.up (hD _ Ye)⟩)
end L12
namespace L12
open C12
def aEZ:aQ:=⟨{places:=[],counts:=[],wrong:=0,off:=0},{last:=0,heights:=[],step:=0,levels:=[],marks:=[]},{chairs:=0,coin:=0,box:=0,lines:=[],counts:=[]},{chairs:=[],fit:=0,claims:=[]}⟩
def aP(ls:List ByteArray):aQ×List Int×Int:=if fP ls=0 then((nS ls).1,(nS ls).2,0)else(aEZ,[],fP ls)
theorem rX{ls:List ByteArray}(h:fP ls=0):aP ls=((nS ls).1,(nS ls).2,0):=aYJ h
theorem tD{ls:List ByteArray}(h:fP ls≠0):aP ls=(aEZ,[],fP ls):=aYC h
theorem EX{ls:List ByteArray}(h:fP ls=0):ls.length≤40∧∀l∈ls,l.size≤50:=by
 unfold fP at h;split at h
 ·cases h
 ·rename_i h2;simp only[aZT,aYM,bCP,not_or,Bool.not_eq_false,aYL]at h2;refine⟨by omega,fun l hl=>?_⟩;have:=h2.2 l hl;omega
theorem S2{ls:List ByteArray}(h:fP ls=0):ls.length≤40:=(EX h).1
theorem P0{ls:List ByteArray}(h:fP ls=0):∀l∈ls,l.size≤50:=(EX h).2
theorem aNE(D:aC):fN D (.agg #[qN,qN,qI 0,qI 0,qI 0,qN,qI 0,qN,qN,qI 0,qI 0,qI 0,qN,qN,qN,qI 0,qN]) aEZ:=⟨_,_,_,_,_,_,_,_,_,rfl,⟨Sl.nil,Sl.nil,Sl.nil,Sl.nil,Sl.nil,Sl.nil,Sl.nil,Sl.nil,Sl.nil⟩⟩
theorem O6(ls:List ByteArray):mW (nS ls).1:=by
 have:∀(ls:List ByteArray) (p:aQ×List Int),mW p.1→mW (ls.foldl (fun p l=>((uF p.1 l).1,p.2++[(uF p.1 l).2])) p).1:=by
  intro ls;induction ls with
  |nil=>exact fun p h=>h
  |cons l ls ih=>exact fun p h=>ih _ (RF h l)
 exact this ls _ x8
theorem MV(ls:List ByteArray)(h:(aP ls).2.2=0):mW (aP ls).1:=by
 by_cases hf:fP ls=0
 ·rw[rX hf];exact O6 ls
 ·rw[tD hf]at h;exact absurd h hf
theorem p8(ls:List ByteArray):(aP ls).1.row.places.length≤7:=by
 by_cases hf:fP ls=0
 ·rw[rX hf];exact(O6 ls).pl
 ·rw[tD hf];exact bCE _
theorem o9(ls:List ByteArray):(aP ls).1.book.lines.length≤8:=by
 by_cases hf:fP ls=0
 ·rw[rX hf];exact(O6 ls).ln
 ·rw[tD hf];exact bCE _
def p9(ls:List ByteArray):(Int×Int)×Int:=if(aP ls).2.2=0 then(if C3.yB (aP ls).1.book (C1.iK ((aP ls).1.book.lines.length:Int) 0 ((aP ls).1.book.lines.length:Int))=0 then L3.JG (fun s=>s.money) (aP ls).1.book (((aP ls).1.book.lines.length:Int)).toNat else(0,0),C3.yB (aP ls).1.book (C1.iK ((aP ls).1.book.lines.length:Int) 0 ((aP ls).1.book.lines.length:Int)))else((0,0),(aP ls).2.2)
def wP(ls:List ByteArray):(Int×Int)×Int:=if(aP ls).2.2=0 then(if C1.eG (aP ls).1.row (C1.sJ (aP ls).1.row 0 (((aP ls).1.row.places.length:Int)-1))=0 then(C1.aJG (C1.truths (aP ls).1.row) (0:Int).toNat (((aP ls).1.row.places.length:Int)-1).toNat,C1.aDL (C1.truths (aP ls).1.row) (0:Int).toNat (((aP ls).1.row.places.length:Int)-1).toNat)else(0,0),C1.eG (aP ls).1.row (C1.sJ (aP ls).1.row 0 (((aP ls).1.row.places.length:Int)-1)))else((0,0),(aP ls).2.2)
theorem wH(lv:Value)(ls:List ByteArray)(D:aC)(hS:Sl D RS 1 lv ls)(hV:mY D):Fn prog 9 #[lv] D (fun D' v=>∃R v2,v=.tuple #[R,v2,qI (aP ls).2.2]∧fN D' R (aP ls).1∧Sl D' RI 1 v2 (aP ls).2.1):=by
 refine enter 19 func9 rfl rfl rfl rfl fun h0=>aA<|Zw rfl lB rfl (fun U=>Zj rfl<|Zj rfl<|bW<|Za rfl<|Zc rfl (fun V M=>sT _ ls _ (hS.up RS.up (M _ Ye)))<|Zj rfl<|aK<|Za rfl<|Zam rfl ?_);refine aG<|Zz rfl (fun G=>?_) (fun G=>?_)
 ·have hf:fP ls≠0:=by simpa using G
  refine aA<|jB (cs:=[qN,qN,qI 0,qI 0,qI 0,qN,qI 0,qN,qN,qI 0,qI 0,qI 0,qN,qN,qN,qI 0,qN]) rfl aDV lB rfl Yf rfl bCV<|Za rfl<|aV rfl rfl rfl rfl dK Ya Ya (bO.head) Yj bCV<|Zj rfl<|Zj rfl<|aH<|Zas ?_;exact Zl [_,_,_] rfl ⟨⟨_,_,_,rfl,Mm0,Or.inr ⟨iU,dK,rfl⟩⟩,rfl,rfl,bCV⟩ (fun D hD=>⟨_,_,by rw[tD hf];rfl,by rw[tD hf];exact aNE D,by rw[tD hf];exact Sl.nil⟩)
 ·have hf:fP ls=0:=by simpa using G
  refine aZ<|aA<|Za rfl<|Zt rfl (fun T I=>UD _ ls _ (hS.up RS.up (I _ Ye)) (by have:=S2 hf;omega) (fun l hl=>by have:=P0 hf l hl;omega) (hV.up (I _ Ye))) (fun v2 T I O=>?_);obtain⟨Y,Z,rfl,⟨pv,cv,hv,lv,mv,bl,bc,yc,yq,rfl,hL⟩,hes⟩:=O;unfold cR;refine Za rfl<|Zad rfl<|Zad rfl<|aV rfl rfl rfl rfl dK Ya Ya (bO.head) (gU hL) bCV<|Zj rfl<|aK<|Zy rfl iU rfl Mm0 dK<|Za rfl<|aV rfl rfl rfl rfl dK Ya Ya (bO.head) (gU hL) bCV<|Zj rfl<|Zj rfl<|aH ?_;exact Zl [_,_,_] rfl ⟨⟨_,_,_,rfl,Mm0,Or.inr ⟨iU,dK,rfl⟩⟩,rfl,rfl,bCV⟩ (fun D hD=>⟨_,_,by rw[rX hf]<;>rfl,by rw[rX hf];exact⟨pv,cv,hv,lv,mv,bl,bc,yc,yq,rfl,hL.up (hD _ Ye)⟩,by rw[rX hf];exact hes.up RI.up (hD _ Ye)⟩)
theorem x5(rv:Value)(r:C1.eC)(i j:Int)(D:aC)(hr:nX D rv r):Fn prog 44 #[rv,qI i,qI j] D (fun _ v=>v=.tuple #[lJ (if C1.eG r (C1.sJ r i j)=0 then(C1.aJG (C1.truths r) i.toNat j.toNat,C1.aDL (C1.truths r) i.toNat j.toNat)else(0,0)),qI (C1.eG r (C1.sJ r i j))]):=
 (L1.zS rv r i j D hr).mono fun D' v _ h=>by rw[h];split<;>rfl
theorem vR(lv:Value)(ls:List ByteArray)(D:aC)(hS:Sl D RS 1 lv ls)(hV:mY D):Fn prog 22 #[lv] D (fun _ v=>v=.tuple #[lJ (p9 ls).1,qI (p9 ls).2]):=by
 refine enter 26 func22 rfl rfl rfl rfl fun h0=>aA<|Zw rfl mO rfl (fun V=>Zj rfl<|aK<|Za rfl<|Zt rfl (fun U G=>wH _ ls _ (hS.up RS.up (G _ Ye)) (hV.up (G _ Ye))) (fun Y U G M=>?_))
 obtain⟨Z,w2,rfl,⟨pv,cv,hv,lv,mv,bl,bc,yc,yq,rfl,hL⟩,hes⟩:=M;unfold cR;have hst:(aP ls).2.2=0→mW (aP ls).1:=MV ls;have R:(aP ls).1.row.places.length≤7:=p8 ls;have T:(aP ls).1.book.lines.length≤8:=o9 ls;refine Za rfl<|Zad rfl<|Zad rfl<|Zad rfl<|Zw rfl lB rfl (fun q2=>aV rfl rfl rfl rfl dK Ya Ya (bO.head) (gU hL) bCV<|Zj rfl<|Zj rfl<|bW<|Za rfl<|Zam rfl<|aG ?_);refine Zz rfl (fun I=>?_) (fun I=>?_)
 ·have hf:(aP ls).2.2≠0:=by simpa using I
  refine aA<|Zo [qI 0,qI 0] rfl T5 mO rfl<|Za rfl<|aV rfl rfl rfl rfl eA Ya Ya (.tail (bO.head)) Yj bCV<|Zj rfl<|aH<|Zas ?_;exact Zl [_,_] rfl ⟨⟨_,_,_,rfl,Mm1,Or.inr ⟨mP,eA,rfl⟩⟩,rfl,bCV⟩ (fun D hD=>by unfold p9;rw[aYC hf];rfl)
 ·have hf:(aP ls).2.2=0:=by simpa using I
  refine aZ<|aA<|Zh rfl eK rfl<|eE rfl eL dO rfl Mm0 rfl rfl n3 rfl bCV<|Zh rfl eK rfl<|Zh rfl cQ rfl<|Zp rfl eX rfl Mm0 rfl<|Zab rfl U33 rfl (hL.ln.up oB.up (Le.refl _)) rfl<|Zc rfl (fun D2 O=>L3.vR _ (aP ls).1.book ((aP ls).1.book.lines.length:Int) _ (hL.book.up (O _ Ye)))<|Zad rfl<|Zad rfl<|aV rfl rfl rfl rfl eA Ya Ya (.tail (bO.head)) Yj bCV ?_;refine Zj rfl<|aH ?_;exact Zl [_,_] rfl ⟨⟨_,_,_,rfl,Mm1,Or.inr ⟨mP,eA,rfl⟩⟩,rfl,bCV⟩ (fun D hD=>by unfold p9;rw[aYJ hf];rfl)
theorem zS(lv:Value)(ls:List ByteArray)(D:aC)(hS:Sl D RS 1 lv ls)(hV:mY D):Fn prog 26 #[lv] D (fun _ v=>v=.tuple #[lJ (wP ls).1,qI (wP ls).2]):=by
 refine enter 27 func26 rfl rfl rfl rfl fun h0=>aA<|Zw rfl qE rfl (fun V=>Zj rfl<|aK<|Za rfl<|Zt rfl (fun U G=>wH _ ls _ (hS.up RS.up (G _ Ye)) (hV.up (G _ Ye))) (fun Y U G M=>?_))
 obtain⟨Z,w2,rfl,⟨pv,cv,hv,lv,mv,bl,bc,yc,yq,rfl,hL⟩,hes⟩:=M;unfold cR;have hst:(aP ls).2.2=0→mW (aP ls).1:=MV ls;have R:(aP ls).1.row.places.length≤7:=p8 ls;have T:(aP ls).1.book.lines.length≤8:=o9 ls;refine Za rfl<|Zad rfl<|Zad rfl<|Zad rfl<|Zw rfl lB rfl (fun q2=>aV rfl rfl rfl rfl dK Ya Ya (bO.head) (gU hL) bCV<|Zj rfl<|Zj rfl<|bW<|Za rfl<|Zam rfl<|aG ?_);refine Zz rfl (fun I=>?_) (fun I=>?_)
 ·have hf:(aP ls).2.2≠0:=by simpa using I
  refine aA<|Zo [qI 0,qI 0] rfl r0 qE rfl<|Za rfl<|aV rfl rfl rfl rfl iT Ya Ya (.tail (bO.head)) Yj bCV<|Zj rfl<|aH<|Zas ?_;exact Zl [_,_] rfl ⟨⟨_,_,_,rfl,Mm1,Or.inr ⟨wQ,iT,rfl⟩⟩,rfl,bCV⟩ (fun D hD=>by unfold wP;rw[aYC hf];rfl)
 ·have hf:(aP ls).2.2=0:=by simpa using I
  refine aZ<|aA<|Zh rfl dJ rfl<|eE rfl iW fX rfl Mm0 rfl rfl n3 rfl bCV<|Zh rfl dJ rfl<|Zh rfl eF rfl<|Zp rfl dS rfl Mm0 rfl<|Zab rfl U25 rfl (hL.pl.up RI.up (Le.refl _)) rfl<|hU rfl rfl rfl Yg rfl bCV<|Zc rfl (fun D2 O=>x5 _ (aP ls).1.row 0 (((aP ls).1.row.places.length:Int)-1) _ (hL.row.up (O _ Ye)))<|Zad rfl<|Zad rfl ?_;refine aV rfl rfl rfl rfl iT Ya Ya (.tail (bO.head)) Yj bCV<|Zj rfl<|aH ?_;exact Zl [_,_] rfl ⟨⟨_,_,_,rfl,Mm1,Or.inr ⟨wQ,iT,rfl⟩⟩,rfl,bCV⟩ (fun D hD=>by unfold wP;rw[aYJ hf];rfl)
end L12
variable{P:Program}{X:Cx}{γb:Type}[Membership Nat γb]{bad:γb}{all:Array Oper}{K:Act→World→Prop}{Q:Exit→Act→World→Prop}
variable{σ:cG}{μ:aD}{Ds:List aC}{os:List (Bool×Nat)}{fl:Bool}{ix:Nat}
variable{d:Nat}{x y z:Operand}{u v:Value}{ty:TypeId}{pos:String}{aft:Array Edge}{g:Option (Nat×Bool)}
section run
variable{t t1 e tr:TypeId}{sz:Nat}{z0:Value}{i0:TypeInfo}{ats:Array TypeId}
theorem vV(ht:P.underlying t=some (.slice e))(hat:ats[0]?= some t)(G:ats[1]?= some t1)(I:P.underlying t1=some .string)(hs:TS P e sz){w:World}{a:Option Addr}{n cap m:Nat}{xv:Value}{xs:List Value}
  (hm:(Builtin.lenOf xv).run P w=.ok m w) (hx:(Builtin.firstCells sz m xv).run P w=.ok xs.toArray w) (hle:n+m≤cap) {w':World}
  (hst:(match a with|some a=>storeCells (a.add (n*sz)) xs|none=>pure ():Sem Unit).run P w=.ok () w'):
  (Builtin.append_ ats tr #[.slice a n cap,xv]).run P w=.ok (.slice a (n+m) cap) w':=by
 have M:(#[Value.slice a n cap,xv]:Array Value)[0]?= some (.slice a n cap):=rfl;have O:(#[Value.slice a n cap,xv]:Array Value)[1]?= some xv:=rfl;unfold Builtin.append_;simp only[hat,G,M,O,Sem.run_bind,TU.of ht w,TU.of I w,Result.andThen_ok,hs w,Sem.run_pure,aYY,aZW,hm,bCI,aZU,hle,hx];cases a with
 |none=>
  have:w'=w:=by
   have h:(pure ():Sem Unit).run P w=.ok () w':=hst;rw[Sem.run_pure]at h;cases h;rfl
  subst this;rfl
 |some a=>
  have h:(storeCells (a.add (n*sz)) xs).run P w=.ok () w':=hst;simp only[Sem.run_bind,h,Result.andThen_ok,Sem.run_pure]
theorem J4(ht:P.underlying t=some (.slice e))(hat:ats[0]?= some t)(G:ats[1]?= some t1)(I:P.underlying t1=some .string)(hs:TS P e sz)(hz:TZ P e z0)(hi:P.info? e=some i0){w:World}{a:Option Addr}{n cap m:Nat}{xv:Value}{old xs:List Value}
  (hm:(Builtin.lenOf xv).run P w=.ok m w) (hx:∀w',w'.heap=w.heap→(Builtin.firstCells sz m xv).run P w'=.ok xs.toArray w') (ho:∀w',w'.heap=w.heap→(Builtin.firstCells sz n (.slice a n cap)).run P w'=.ok old.toArray w')
  (hgt:cap<n+m) (hlen:n+m≤10000000) (hb:1≤i0.bytes∧i0.bytes≤4096):
  ∃c,n+m≤c∧c≤9223372036854775807∧(Builtin.append_ ats tr #[.slice a n cap,xv]).run P w=.ok (.slice (some ⟨w.heap.size,0,none⟩) (n+m) c)
   {w with drawn:=w.drawn+1,heap:=w.heap.push (.cells (old.toArray++xs.toArray++Builtin.zeroCells z0.cells (c-(n+m))) e (0,0))}:=by
 have M:(#[Value.slice a n cap,xv]:Array Value)[0]?= some (.slice a n cap):=rfl;have O:(#[Value.slice a n cap,xv]:Array Value)[1]?= some xv:=rfl;have hti:∀w,(typeInfo e).run P w=.ok i0 w:=fun w=>by simp[typeInfo,program,Sem.run,hi,go_sem]
 have hcapn:=u1 hgt;have hbig:¬Builtin.nextslicecap (n+m) cap*i0.bytes>2^48:=by
  have:Builtin.nextslicecap (n+m) cap*i0.bytes≤(2*(n+m)+768)*4096:=bCR hcapn hb.2;omega
 have hch:(choose (.appendCap (n+m) cap e)).run P w=.ok ((n+m)+(w.tape w.drawn (.appendCap (n+m) cap e))%(2^63-(n+m))) {w with drawn:=w.drawn+1}:=by
  simp[choose,Sem.run,Question.forced,Question.cut]
 refine⟨(n+m)+(w.tape w.drawn (.appendCap (n+m) cap e))%(2^63-(n+m)),Nat.le_add_right _ _,by have:=Nat.mod_lt (w.tape w.drawn (.appendCap (n+m) cap e)) (show 0<2^63-(n+m) by omega);omega,?_⟩;unfold Builtin.append_;have hnot:¬(n+m≤cap):=by omega
 have hmax:¬(((n+m:Nat):Int)>IntKind.i64.max∧(false=true∨i0.bytes=0)):=by
  rintro⟨_,h|h⟩
  ·cases h
  ·omega
 simp only[hat,G,M,O,Sem.run_bind,TU.of ht w,TU.of I w,Result.andThen_ok,hs w,Sem.run_pure,aYY,aZW,hm,bCI,aZU,hnot,hti];rw[aYC (by rintro⟨_,h|h⟩;exact h.elim;omega)]
 simp only[Sem.run_bind,Result.andThen_ok,hti];rw[aYC hbig];have hzz:∀w,(zeroValue e).run P w=.ok z0 w:=hz;simp only[Sem.run_bind,Sem.run_pure,Result.andThen_ok,hti,hch,tV,hzz,ho {w with drawn:=w.drawn+1} rfl,hx {w with drawn:=w.drawn+1} rfl,iC]
end run
def aAK(v:Value):Prop:=∀a n c,v=.slice a n c→c≤9223372036854775807
theorem Z2{a:Option Addr}{n c:Nat}(h:c≤9223372036854775807):aAK (.slice a n c):=fun _ _ _ e=>by cases e;exact h
theorem QA{A B ν:aD}{t t1 e tr:TypeId}{sz n m:Nat}{cells xs:List Value}{xv:Value}{z0:Value}{ats:Array TypeId}
  (ho:all[ix]?= some ⟨some d,.call {callee:=.builtin .append,args:=#[x,y],argTypes:=ats},tr,pos,aft,g⟩) (ht:P.underlying t=some (.slice e)) (hat:ats[0]?= some t) (G:ats[1]?= some t1) (I:P.underlying t1=some .string)
  (hs:TS P e sz) (hz:TZ P e z0) (T:Nat.beq z0.cells.size sz=true) (hi:(P.info? e).map (fun i=>Nat.ble 1 i.bytes&&Nat.ble i.bytes 4096)=some true) (M:Nat.ble 1 sz=true)
  (hx:ev σ x=some v) (hy:ev σ y=some xv) (hacc:bZ e sz v n cells ν) (hsrc:∀a w,Hl X σ (A++ν++B) Ds a w→(Builtin.lenOf xv).run P w=.ok m w∧∀w',w'.heap=w.heap→(Builtin.firstCells sz m xv).run P w'=.ok xs.toArray w') (hxl:xs.length=m*sz) (hcl:cells.length=n*sz) (U:∀u∈xs,cell1 u=true) (hlen:n+m≤10000000)
  (hfl:fl=false∨∀p∈ν,p.1∈bad) (hcapB:aAK v)
  (hN:Nat.blt d X.N=true) (hg:dE all σ g)
  (kk:∀v' ν',bZ e sz v' (n+m) (cells++xs) ν'→aAK v'→WL P X bad all K Q os ((d,v')::σ) (A++ν'++B) Ds):WL P X bad all K Q ((fl,ix)::os) σ (A++ν++B) Ds:=by
 refine eI ho rfl rfl hg fun a w hh=>?_
 obtain⟨h1,h2,h3,D,h4,h5,Z⟩:=id hh;obtain⟨i0,hi,V,Y⟩:∃i0,P.info? e=some i0∧1≤i0.bytes∧i0.bytes≤4096:=by
  cases h:P.info? e with
  |none=>simp[h]at hi
  |some i=>simp[h]at hi;exact⟨i,rfl,hi⟩
 have hsz:1≤sz:=aZC M;have hz1':=aYZ T;have hex:(execOp a.eval ⟨some d,.call {callee:=.builtin .append,args:=#[x,y],argTypes:=ats},tr,pos,aft,g⟩).run P w=
   ((Builtin.append_ ats tr #[v,xv]).run P w).andThen fun r w'=>.ok (.value r) w':=by
  simp only[execOp,resolve,pure_bind,invoke,builtin];have e1:(#[x,y].map a.eval)=#[v,xv]:=by simp[hh.eval hx,hh.eval hy]
  rw[e1,Sem.run_bind];simp only[Sem.run_pure]
 rw[hex];obtain⟨hm,hfc⟩:=hsrc a w hh;have grow:∀(old:Option Addr) (cap:Nat),v=.slice old n cap→cap<n+m→(∀w',w'.heap=w.heap→(Builtin.firstCells sz n (.slice old n cap)).run P w'=.ok cells.toArray w')→
   Oper.uponIn (FW X.r) 0 P ⟨some d,.call {callee:=.builtin .append,args:=#[x,y],argTypes:=ats},tr,pos,aft,g⟩ a (fun a' w'=>(fl=true→nC bad w w')∧rQ X.r bad P all K Q (gH all os) a' w') Q
    (((Builtin.append_ ats tr #[v,xv]).run P w).andThen fun r w'=>.ok (.value r) w'):=by
  intro old cap hv hgt hold;obtain⟨c,hc,hcB,hrun⟩:=J4 (tr:=tr) ht hat G I hs hz hi hm hfc hold hgt hlen ⟨V,Y⟩;rw[hv,hrun];obtain⟨junk,hjunk⟩:∃junk:List Value,cells.toArray++xs.toArray++Builtin.zeroCells z0.cells (c-(n+m))=(cells++xs++junk).toArray∧(cells++xs++junk).length=c*sz:=by
   refine⟨(Builtin.zeroCells z0.cells (c-(n+m))).toList,by simp,?_⟩;have:=sI z0.cells (c-(n+m));simp only[GT,Array.length_toList,this,hz1',hcl,hxl];rw[←bAG,←bAG];congr 1;omega
  have hpush:=h4.push (.cells (cells++xs++junk).toArray e (0,0)) rfl;simp only[Result.andThen_ok];rw[hjunk.1];refine⟨fun _=>⟨by simp,fun b hb _=>cN hb⟩,?_⟩;have hst:hP X.h0 X.lo X.D0 X.mods (A++[(w.heap.size,.cells (cells++xs++junk).toArray e (0,0))]++B) D {w with drawn:=w.drawn+1,heap:=w.heap.push (.cells (cells++xs++junk).toArray e (0,0))}:=by
   have h:=hpush.sub (μ':=A++[(w.heap.size,.cells (cells++xs++junk).toArray e (0,0))]++B) (fun p hp=>by
    simp only[aYD,GE]at hp ⊢
    rcases hp with(hp|hp)|hp
    ·exact aXR (aYF (aYF hp))
    ·exact aYF (hp.resolve_right Ye)
    ·exact aXR (aXR hp)) (by
    have hn:=hpush.nd;simp only[aYN,aYE,aZI,aYD,not_or]at hn;obtain⟨⟨⟨ha,_⟩,hb⟩,hn⟩:=hn;rw[aXX,aXX]at hn;simp only[aYE,aYN,bBM];rw[aXX,aXX];refine⟨⟨hn.1.1,by simp,fun q hq r hr=>?_⟩,hn.2.1,fun q hq r hr=>?_⟩
    ·simp only[aYH]at hr;rintro rfl;exact ha (hr▸hq)
    ·simp only[aYD,aYH]at hq;rcases hq with hq|hq
     ·exact hn.2.2 q (aXU _ hq) r hr
     ·rintro rfl;exact hb (hq▸hr))
   exact⟨h.hlo,h.size,h.old,h.dold,h.agr,h.box,h.nd,h.fz,h.env⟩
  exact kk _ _ (aXR ⟨_,c,junk,rfl,hc,rfl,by simp[hcl,hxl,bAG],hjunk.2⟩) (Z2 hcB) _ _ (Hl.put ⟨h1,h2,h3,D,hst,h5,Z.step (fun _ p hp=>by
   rcases aYD.1 hp with hp|hp
   ·rcases aYD.1 hp with hp|hp
    ·exact aYF (n4.2 ⟨p,aXU _ (aXU _ hp),rfl⟩)
    ·exact aXR (by rw[aYH.1 hp];exact aYI _)
   ·exact aYF (n4.2 ⟨p,n5 _ hp,rfl⟩)) (fun _=>⟨by simp,fun b hb _=>⟨cN hb,rfl⟩,rfl⟩) hst.dom⟩ hN _)
 rcases hacc with⟨old,hv,hn,hc,hν⟩|⟨b,cap,junk,hv,hncap,hν,hl1,O⟩
 ·subst hn;subst hc;subst hν
  by_cases h0:m=0
  ·subst h0;have hxs:xs=[]:=bAP.1 (by simpa using hxl);subst hxs;rw[hv,vV (tr:=tr) (w':=w) ht hat G I hs hm (hfc w rfl) (aYI _) (by cases old<;>rfl)]
   refine⟨fun _=>nC.refl _ _,kk _ [] (aYF ⟨old,rfl,rfl,rfl,rfl⟩) (Z2 Yad) _ _ (Hl.put hh hN _)⟩
  ·refine grow old 0 hv Yd fun w' _=>?_
   cases old with
   |none=>rfl
   |some a=>simp[Builtin.firstCells,loadCells,loadCellsFrom,Sem.run_pure]
 ·subst hν;have hbx:=(h4.box (b,.cells (cells++junk).toArray e (0,0)) Ye).1;by_cases hfit:n+m≤cap
  ·have hjl:xs.length≤junk.length:=by
    have h1:(n+m)*sz≤cap*sz:=bBY sz hfit;rw[←O,bAG,GT,hcl]at h1;omega
   have R:n*sz+0+xs.length≤(cells++junk).length:=by rw[GT,hcl];omega
   obtain⟨w',hr,hw'⟩:=iX (P:=P) xs 0 w b (n*sz) (cells++junk) e hbx R U;have htk:(cells++junk).take (n*sz+0)++xs++(cells++junk).drop (n*sz+0+xs.length)=cells++xs++junk.drop xs.length:=by
    rw[←hcl,Nat.add_zero,bBW,bBO,aYV Yd];simp
   rw[htk]at hw';rw[hv,vV (tr:=tr) (w':=w') ht hat G I hs hm (hfc w rfl) hfit (by
    show(storeCells ((⟨b,0,none⟩:Addr).add (n*sz)) xs).run P w=_;rw[gI,bAL];exact hr)]
   have hHas:bO (A++[(b,.cells (cells++junk).toArray e (0,0))]++B) b (.cells (cells++junk).toArray e (0,0)) (.cells (cells++xs++junk.drop xs.length).toArray e (0,0)) (A++[(b,.cells (cells++xs++junk.drop xs.length).toArray e (0,0))]++B):=by
    rw[aYA A,aYA A];exact .app .head
   have hst:=h4.set hHas hw' rfl;refine⟨fun hf=>⟨by rw[hw'.1];simp,fun c hc hcb=>?_⟩,kk _ _ (aXR ⟨b,cap,junk.drop xs.length,rfl,hfit,rfl,by simp[hcl,hxl,bAG],?_⟩) (Z2 (hcapB _ _ _ hv)) _ _ (Hl.put ⟨h1,h2,h3,D,hst,h5,Z.step (fun _ p hp=>aYF Yq) (fun _=>jI hw' (n4.2 ⟨_,hHas.mem,rfl⟩)) hst.dom⟩ hN _)⟩
   ·have hb:b∈bad:=by
     rcases hfl with h|h
     ·rw[hf]at h;cases h
     ·exact h _ (aYH.2 rfl)
    rw[hw'.1,aZZ (by rintro rfl;exact hcb hb)]
   ·rw[←O];simp;omega
  ·refine grow _ cap hv Yd fun w' hw'=>?_
   simp only[Builtin.firstCells];refine kW hcl fun j u hj=>oK (cs:=(cells++junk).toArray) (by rw[hw'];exact hbx) ?_
   have:=(aXZ.1 hj).1;simp only[List.getElem?_toArray,bAL];rw[bAK this];exact hj
def bc(l:List UInt8):List Value:=l.map fun b=>.int .u8 b.toNat
theorem lA(l:List UInt8):(bc l).length=l.length:=by simp[bc]
theorem rV(a b:List UInt8):bc (a++b)=bc a++bc b:=by simp[bc]
theorem kT(l:List UInt8):∀u∈bc l,cell1 u=true:=by
 intro u hu;obtain⟨b,_,rfl⟩:=n4.1 hu;rfl
theorem IT{A B ν:aD}{t t1 e tr:TypeId}{n:Nat}{cells:List Value}{s:ByteArray}{z0:Value}{ats:Array TypeId}
  (ho:all[ix]?= some ⟨some d,.call {callee:=.builtin .append,args:=#[x,y],argTypes:=ats},tr,pos,aft,g⟩) (ht:P.underlying t=some (.slice e)) (hat:ats[0]?= some t) (G:ats[1]?= some t1) (I:P.underlying t1=some .string)
  (hs:TS P e 1) (hz:TZ P e z0) (M:Nat.beq z0.cells.size 1=true) (hi:(P.info? e).map (fun i=>Nat.ble 1 i.bytes&&Nat.ble i.bytes 4096)=some true)
  (hx:ev σ x=some v) (hy:ev σ y=some (.string s)) (hacc:bZ e 1 v n cells ν) (hcl:cells.length=n) (hlen:n+s.size≤10000000) (hfl:fl=false∨∀p∈ν,p.1∈bad) (hcapB:aAK v) (hN:Nat.blt d X.N=true) (hg:dE all σ g)
  (kk:∀v' ν',bZ e 1 v' (n+s.size) (cells++bc s.data.toList) ν'→aAK v'→WL P X bad all K Q os ((d,v')::σ) (A++ν'++B) Ds):WL P X bad all K Q ((fl,ix)::os) σ (A++ν++B) Ds:=by
 refine QA (m:=s.size) (xs:=bc s.data.toList) ho ht hat G I hs hz M hi rfl hx hy hacc (fun a w _=>⟨rfl,fun w' _=>?_⟩) (by rw[lA,bAF];rfl) Yd (kT _) hlen hfl hcapB hN hg kk;exact Go.Lib.run_firstCells_string (P:=P) w' 1 s

theorem aQH{t t' e:TypeId}{p:Option Addr}(ho:all[ix]?= some ⟨some d,.binOp .eql t x y t',ty,pos,aft,g⟩)(ht:P.underlying t=some (.pointer e))(hx:ev σ x=some (.pointer p))(hy:ev σ y=some (.pointer none))(hN:Nat.blt d X.N=true)(hg:dE all σ g)
  (kk:WL P X bad all K Q os ((d,.bool p.isNone)::σ) μ Ds):WL P X bad all K Q ((fl,ix)::os) σ μ Ds:=
 yK ho (fun w=>by
  have hgd:(eqGuard .eql t x y (.pointer p) (.pointer none)).run P w=.ok () w:=by
   simp only[eqGuard];simp[go_sem]
  have heq:(Op.equal t (.pointer p) (.pointer none)).run P w=.ok p.isNone w:=by
   show(Op.equalIn (9999+1) t (.pointer p) (.pointer none)).run P w=_;rw[Op.equalIn,Sem.run_bind,TU.of ht w];cases p<;>rfl
  rw[Sem.run_bind,hgd];show((do Pure.pure (Value.bool (←Op.equal t (.pointer p) (.pointer none)))):Sem Value).run P w=_;rw[Sem.run_bind,heq];rfl) hx hy hN hg kk
theorem aPX{t t' e sz b:Nat}(ho:all[ix]?= some ⟨some d,.binOp .neq t x y t',ty,pos,aft,g⟩)(ht:P.underlying t=some (.pointer e))(hs:TS P e sz)(hz:Nat.beq sz 0=false)(hx:ev σ x=some (qP b))(hy:ev σ y=some (qP b))(hN:Nat.blt d X.N=true)(hg:dE all σ g)
  (kk:WL P X bad all K Q os ((d,.bool false)::σ) μ Ds):WL P X bad all K Q ((fl,ix)::os) σ μ Ds:=
 t6 ho (fun w=>by
  have hz':sz≠0:=fun h=>by subst h;cases hz
  have hgd:(eqGuard .neq t x y (qP b) (qP b)).run P w=.ok () w:=by
   simp only[eqGuard];simp[go_sem]
  have heq:(Op.equal t (qP b) (qP b)).run P w=.ok true w:=by
   show(Op.equalIn (9999+1) t _ _).run P w=_;rw[Op.equalIn,Sem.run_bind,TU.of ht w];show(do if(←sizeOf e)≠0 then sameAddr ⟨b,0,none⟩ ⟨b,0,none⟩else if((⟨b,0,none⟩:Addr)==⟨b,0,none⟩)=true then Pure.pure true else Pure.pure ((←choose .zeroSizeEq)=1):Sem Bool).run P w=_;rw[Sem.run_bind,hs w];show(if sz≠0 then _ else _:Sem Bool).run P w=_;rw[aYJ hz'];simp[sameAddr,go_sem]
  rw[Sem.run_bind,hgd];show((do Pure.pure (Value.bool (!(←Op.equal t (qP b) (qP b))))):Sem Value).run P w=_;rw[Sem.run_bind,heq];rfl) hx hy hN hg kk
theorem RD{t1 t2 t e b:TypeId}{vs:List Value}(ho:all[ix]?= some ⟨some d,.convert t1 t2 x,ty,pos,aft,g⟩)(h1:P.underlying t1=some (.pointer t))(h2:P.underlying t2=some .unsafePointer)(ht:(P.info? t).map (fun j=>Nat.beq j.size 0)=some false)(hx:ev σ x=some (qP b))
  (hm:(b,.cells vs.toArray e (0,0))∈μ) (hv:Nat.beq vs.length 0=false) (hb:b∉bad) (hN:Nat.blt d X.N=true) (hg:dE all σ g) (kk:WL P X bad all K Q os ((d,qP b)::σ) μ Ds):WL P X bad all K Q ((fl,ix)::os) σ μ Ds:=
 mA ho rfl rfl hN hg (fun a w hh w' hk=>by
  obtain⟨j,hj,G⟩:=bAE.1 ht;have hbx:=hh.boxAt hm hb hk;have hl:0<vs.length:=by
   cases h:vs.length with
   |zero=>rw[h]at hv;cases hv
   |succ n=>omega
  have:=Go.Lib.run_to_unsafe (P:=P) (w:=w') (e:=e) (cells:=vs.length) ⟨b,0,none⟩ h1 h2 hj (fun h=>by rw[h]at G;cases G) (by simp[World.shape?,hbx]) hl;simp only[execOp,hh.eval hx];rw[Sem.run_bind,this];rfl) kk
theorem HC{t1 t2 t e b:TypeId}{vs:List Value}(ho:all[ix]?= some ⟨some d,.convert t1 t2 x,ty,pos,aft,g⟩)(h1:P.underlying t1=some .unsafePointer)(h2:P.underlying t2=some (.pointer t))(ht:(P.info? t).isSome=true)(hx:ev σ x=some (qP b))
  (hm:(b,.cells vs.toArray e (0,0))∈μ) (hl:liesAt P P.depth e (vs.length / P.cellsOf e) 0 t 1=true) (hb:b∉bad) (hN:Nat.blt d X.N=true) (hg:dE all σ g) (kk:WL P X bad all K Q os ((d,qP b)::σ) μ Ds):WL P X bad all K Q ((fl,ix)::os) σ μ Ds:=
 mA ho rfl rfl hN hg (fun a w hh w' hk=>by
  obtain⟨j,hj⟩:=Option.isSome_iff_exists.1 ht;have hbx:=hh.boxAt hm hb hk;have:=Go.Lib.run_from_unsafe (P:=P) (w:=w') (e:=e) (cells:=vs.length) ⟨b,0,none⟩ h1 h2 hj (by simp[World.shape?,hbx]) hl;simp only[execOp,hh.eval hx];rw[Sem.run_bind,this];rfl) kk
theorem OE{c:Operand}{xs:Array Operand}{ats:Array TypeId}{f:FuncId}{fn:Func}(ho:all[ix]?= some ⟨some d,.call {callee:=.value c,args:=xs,argTypes:=ats},ty,pos,aft,g⟩)(hc:ev σ c=some (.func (.func f) #[] #[]))(hxs:Q8 σ xs.toList=some [v])
  (hf:P.funcs[f]?= some fn) (hname:(fn.name== "runtime.NumGoroutine")=false) (hb:fn.body.isNone=true) (hn:Extern.findNext fn=none) (he:Extern.find fn=some Extern.AbiNoEscape.same) (hN:Nat.blt d X.N=true) (hg:dE all σ g)
  (kk:WL P X bad all K Q os ((d,v)::σ) μ Ds):WL P X bad all K Q ((fl,ix)::os) σ μ Ds:=by
 refine eI ho rfl rfl hg fun a w hh=>?_
 have e:(execOp a.eval ⟨some d,.call {callee:=.value c,args:=xs,argTypes:=ats},ty,pos,aft,g⟩).run P w=.ok (.value v) w:=by
  have G:xs.map a.eval=#[v]:=by
   have:=kA (fun _ _ hx=>hh.eval hx) hxs;rw[show #[v]=[v].toArray from rfl,←this,←bCH]
  simp only[execOp,resolve,hh.eval hc,Deferred.ofValue,pure_bind,invoke,G];show(callFunc f #[v]).run P w=_;rw[Go.run_callFunc_extern hf hname hb hn he];rfl
 rw[e];exact⟨fun _=>nC.refl _ _,kk _ _ (hh.put hN v)⟩
theorem y4{c:Operand}{xs:Array Operand}{ats:Array TypeId}{f:FuncId}{c1 c2 vs:List Value}{post:Value→Prop}(ho:all[ix]?= some ⟨some d,.call {callee:=.value c,args:=xs,argTypes:=ats},ty,pos,aft,g⟩)(hc:ev σ c=some (.func (.func f) c1.toArray c2.toArray))(hxs:Q8 σ xs.toList=some vs)
  (hex:X.ex=none) (hEF:EF P f) (hf:∀D w,hP X.h0 X.lo X.D0 X.mods μ D w→Calls P f (c1++vs++c2).toArray w fun e w'=>∃r,e=.returned r∧Go.RowKit.Below (max 1 X.h0.size) w w'∧post r) (hN:Nat.blt d X.N=true) (hg:dE all σ g)
  (kk:∀r,post r→WL P X bad all K Q os ((d,r)::σ) [] []):WL P X bad all K Q ((false,ix)::os) σ μ Ds:=by
 refine eI ho rfl rfl hg fun a w hh=>?_
 obtain⟨h1,h2,h3,D,h4,h5,O⟩:=id hh;rw[sC hEF (hh.eval hc) (kA (fun _ _ hx=>hh.eval hx) hxs)];refine⟨fun h=>by simp[FW]at h,dN.2 ((hf D w h4).mono ?_)⟩;rintro e w' ⟨r,rfl,hb,hp⟩;refine⟨(fun h=>by cases h),kk r hp _ _ (Hl.put ⟨h1,h2,h3,fun b=>if b<max 1 X.h0.size then D b else [],?_,(fun D₁ h=>by cases h),by unfold A8;rw[hex];trivial⟩ hN r)⟩
 have G:(if 0<max 1 X.h0.size then D 0 else [])=D 0:=aYJ Yd;refine⟨h4.hlo,bAM h4.size hb.size,fun b hl hm=>(hb.block b Yd).trans (h4.old b hl hm),fun b hl=>?_,h4.agr.of (fun b hne=>?_) G (hb.block 0 Yd),Yi,aZP,Yi,fun e he=>?_⟩
 ·rw[aYJ Yd];exact h4.dold b hl
 ·by_cases hl:b<max 1 X.h0.size
  ·rw[aYJ hl]at hne ⊢
   obtain⟨cs,e,fz,I,M⟩:=h4.agr.1 b hne;exact⟨cs,e,fz,by rw[hb.block b hl];exact I,M⟩
  ·rw[aYC hl]at hne;exact absurd rfl hne
 ·rw[←h4.env e he];exact Prod.ext hb.os hb.output
namespace L12
open C12 Go.Lib
def eV(b:Nat)(l:List UInt8)(ν:aD):Prop:=∃p v ν1,ν=(b,qC [.pointer p,v] 115)::ν1∧(p=none∨p=some ⟨b,0,none⟩)∧bZ 5 1 v l.length (bc l) ν1∧aAK v
theorem eV.unf{b:Nat}{l:List UInt8}{ν:aD}(h:eV b l ν):∀p∈ν,dD p.2:=by
 obtain⟨p,v,ν1,rfl,_,ha,_⟩:=h;exact zA ha
def vT(w:List UInt8)(lo hi:Int):List UInt8:=w++[32]++itoa lo++[46,46]++itoa hi++[10]
def y8(w:List UInt8)(n:Int):List UInt8:=w++[32]++itoa n++[10]
theorem uQ(l:List UInt8):(qQ l).size=l.length:=rfl
theorem yH(a:Array UInt8):(⟨a⟩:ByteArray).size=a.size:=rfl
theorem CX(a b:ByteArray):(a++b).data.toList=a.data.toList++b.data.toList:=by simp
theorem FH(u:Nat)(h:u≤100000):(decDigits u).length≤6:=by
 rw[decDigits];split
 ·simp
 ·rw[decDigits];split
  ·simp
  ·rw[decDigits];split
   ·simp
   ·rw[decDigits];split
    ·simp
    ·rw[decDigits];split
     ·simp
     ·rw[decDigits];split
      ·simp
      ·omega
theorem lL{n:Int}(h1: -1000≤n)(h2:n≤100000):(itoa n).length≤7:=by
 unfold itoa;split
 ·rw[aXY];have:=FH n.natAbs Yd;omega
 ·first|(have:=FH n.toNat Yd;omega)|(have:=FH n.natAbs Yd;omega)
theorem FV(b:Nat)(p:Option Addr)(v:Value)(hp:p=none∨p=some ⟨b,0,none⟩)(D:aC):mC prog 71 [qP b] D [(b,qC [.pointer p,v] 115)] (fun _ _ ν'=>ν'=[(b,qC [qP b,v] 115)]) (fun _=>False):=by
 refine eP 20 func71 rfl rfl rfl rfl (fun h0 hwl hwn=>aA<|Za rfl<|Zaj rfl<|Zh rfl T2 rfl<|Zp rfl VI rfl Mm0 rfl<|aQH rfl U113 rfl rfl rfl bCV<|aG<|aW rfl (fun G=>?_) (fun G=>?_))
 ·obtain rfl:p=none:=by simpa using G
  refine aX<|Za rfl<|Za rfl<|RD rfl U113 U263 Yf rfl Mm0 rfl n3 rfl bCV<|OE (f:=124) rfl rfl rfl func124 Yf Yf Yf Yf rfl bCV<|HC rfl U263 U113 Yf rfl Mm0 Yf n3 rfl bCV<|Zaj rfl<|Zh rfl T2 rfl<|Zm rfl TN (bO.head) rfl<|Zae ?_;exact Zaf [] [] [_] [] rfl (fun D' hD=>rfl)
 ·obtain rfl:p=some ⟨b,0,none⟩:=hp.resolve_left (by rintro rfl;cases G);refine aA<|Za rfl<|Zaj rfl<|Zh rfl T2 rfl<|Zp rfl VI rfl Mm0 rfl<|Za rfl<|aPX rfl U113 aKN rfl rfl rfl rfl bCV<|aG<|aW rfl (fun hc2=>?_) (fun hc2=>?_)
  ·cases hc2
  ·refine cB ?_;exact Zaf [] [] [_] [] rfl (fun D' hD=>rfl)
theorem lK(b:Nat)(s:ByteArray)(l:List UInt8)(ν:aD)(D:aC)(hb:eV b l ν)(hl:l.length+s.size≤10000000):mC prog 41 [qP b,.string s] D ν (fun _ _ ν'=>eV b (l++s.data.toList) ν') (fun _=>False):=by
 obtain⟨p,v,ν1,rfl,hp,ha,hcb⟩:=hb;refine eP 19 func41 rfl rfl rfl rfl (fun h0 hwl hwn=>aA<|Zj rfl<|Zj rfl<|aK<|Za rfl<|fD (A:=[]) (ν:=[(b,_)]) (B:=ν1) rfl rfl rfl rfl (aYF rfl) (fun p hp=>by simp only[aYH]at hp;subst hp;rfl) (fun T M=>FV b p v hp _) rfl bCV (fun _ _ _ h=>h.elim) (fun v5 U ν5 M O=>?_))
 subst O;refine aK<|Za rfl<|Za rfl<|Zaj rfl<|Zh rfl CA rfl<|Zp rfl aDU rfl Mm0 rfl<|Za rfl<|aJ ([(b,qC [qP b,v] 115)]++ν1++[]) Ye<|IT (A:=[(b,_)]) (B:=[]) rfl U51 rfl rfl U9 gN CB rfl aGU rfl rfl ha (lA _) hl (aYF rfl) hcb rfl bCV (fun R ν7 G I=>aJ ((b,qC [qP b,v] 115)::ν7) Ye<|Zaj rfl<|Zh rfl CA rfl ?_);refine bJ (ws:=[qP b,R]) rfl rfl rfl G.cells1 aHA .head Ye rfl G.cell1 bCV<|aK<|Za rfl<|lN rfl U9 rfl rfl rfl bCV<|Zj rfl<|Zj rfl<|aH ?_;refine fun a w hh=>kP (P:=prog) (fn:=f41) (A:=[]) (ν':=(b,_)::ν7) (B:=[]) (vs:=[_,_]) rfl rfl rfl bA (fun D' hD=>⟨_,R,ν7,rfl,aXR rfl,by rw[GT,rV];exact G,I⟩) a w (hh.boxesEq (aXS _).symm)
theorem zW(w:ByteArray)(lo hi:Int)(b:Nat)(l:List UInt8)(ν:aD)(D:aC)(hV:mY D)(hw:w.size≤10)(hlo: -1000≤lo∧lo≤100000)(hhi: -1000≤hi∧hi≤100000)(hb:eV b l ν)(hl:l.length≤1000000):mC prog 40 [.string w,qI lo,qI hi,qP b] D ν (fun _ _ ν'=>eV b (l++vT w.data.toList lo hi) ν') (fun _=>False):=by
 have hilo:=lL hlo.1 hlo.2;have hihi:=lL hhi.1 hhi.2;refine eP 18 func40 rfl rfl rfl rfl (fun h0 hwl hwn=>aX<|Za rfl<|fI rfl rfl rfl (by first|omega|(simp only[yH,aYU,aXY,aYW];omega)) rfl bCV<|Za rfl<|Zc rfl (fun T G=>P3 lo Yg _ (hV.up (G _ Ye)))<|fI rfl rfl rfl Yr rfl bCV<|fI rfl rfl rfl Yr rfl bCV<|Za rfl<|Zc rfl (fun U I=>P3 hi Yg _ (hV.up (I _ Ye)))<|fI rfl rfl rfl Yr rfl bCV<|fI rfl rfl rfl Yr rfl bCV ?_);refine aJ ([]++ν++[]) Ye<|fD (A:=[]) (ν:=ν) (B:=[]) rfl rfl rfl rfl (aYF rfl) hb.unf (fun V M=>lK b _ l ν _ hb Ya2) rfl bCV (fun _ _ _ h=>h.elim) (fun v9 D10 R M O=>aJ R Ye<|Zae ?_);refine fun a w hh=>kP (P:=prog) (fn:=f40) (A:=[]) (ν':=R) (B:=[]) (vs:=[]) rfl rfl rfl bCV (fun D' hD=>by simpa [vT,y8,qQ,CX]using O) a w (hh.boxesEq Ye)
theorem HX(w:ByteArray)(m:Int)(b:Nat)(l:List UInt8)(ν:aD)(D:aC)(hV:mY D)(hw:w.size≤10)(hm: -1000≤m∧m≤100000)(hb:eV b l ν)(hl:l.length≤1000000):mC prog 43 [.string w,qI m,qP b] D ν (fun _ _ ν'=>eV b (l++y8 w.data.toList m) ν') (fun _=>False):=by
 have him:=lL hm.1 hm.2;refine eP 12 func43 rfl rfl rfl rfl (fun h0 hwl hwn=>aX<|Za rfl<|fI rfl rfl rfl (by first|omega|(simp only[yH,aYU,aXY,aYW];omega)) rfl bCV<|Za rfl<|Zc rfl (fun R G=>P3 m Yg _ (hV.up (G _ Ye)))<|fI rfl rfl rfl Yr rfl bCV<|fI rfl rfl rfl Yr rfl bCV<|aJ ([]++ν++[]) Ye<|fD (A:=[]) (ν:=ν) (B:=[]) rfl rfl rfl rfl (aYF rfl) hb.unf (fun T I=>lK b _ l ν _ hb Ya2) rfl bCV (fun _ _ _ h=>h.elim) (fun v9 D10 O I M=>aJ O Ye<|Zae ?_))
 refine fun a w hh=>kP (P:=prog) (fn:=f43) (A:=[]) (ν':=O) (B:=[]) (vs:=[]) rfl rfl rfl bCV (fun D' hD=>by simpa [vT,y8,qQ,CX]using M) a w (hh.boxesEq Ye)
end L12
namespace L12
open C12 Go.Lib
def NB(x:Int):Prop:= -1000≤x∧x≤100000
def aQS(s:aQ):Int×Int:=if C1.eG s.row (C1.sJ s.row 0 ((s.row.places.length:Int)-1))=0 then(C1.aJG (C1.truths s.row) (0:Int).toNat ((s.row.places.length:Int)-1).toNat,C1.aDL (C1.truths s.row) (0:Int).toNat ((s.row.places.length:Int)-1).toNat)else(0,0)
def KD(s:aQ)(k:Nat):Int×Int:=if C2.nP s.table (C1.iK (k:Int) 0 ((s.table.levels.length:Int)-1))=0 then C2.aGJ s.table (s.table.levels.getD (k:Int).toNat 0)else(0,0)
def aOE(s:aQ):Int:=if C2.nP s.table (C2.sG s.table.last 0 s.table.last)=0 then C2.aWI s.table 0 s.table.last else 0
def WK(s:aQ):Int×Int:=if C3.yB s.book (C1.iK (s.book.lines.length:Int) 0 (s.book.lines.length:Int))=0 then L3.JG (fun s=>s.money) s.book (s.book.lines.length:Int).toNat else(0,0)
def KE(s:aQ):Int×Int:=if C3.yB s.book true=0 then L3.JG (fun s=>s.mixed) s.book s.book.lines.length else(0,0)
structure LC(s:aQ):Prop where
 ch:NB (aQS s).1∧NB (aQS s).2
 le:NB (C1.uE s.row)
 wet:∀k,k<s.table.levels.length→NB (KD s k).1∧NB (KD s k).2
 dry:NB (aOE s)
 lv:∀x∈(L3.eS s.book).1,NB x
 lvn:(L3.eS s.book).1.length≤100
 lev:s.table.levels.length≤6
 mon:NB (WK s).1∧NB (WK s).2
 mix:NB (KE s).1∧NB (KE s).2
 wh:NB (L7.gC s.yard).1.1∧NB (L7.gC s.yard).1.2
 su:NB (L7.oD s.yard).2.1
def r1(s:aQ):List UInt8:=vT [99,104,97,105,114,115] (aQS s).1 (aQS s).2
def r2(s:aQ):List UInt8:=r1 s++y8 [108,101,97,115,116] (C1.uE s.row)
def r3(s:aQ)(k:Nat):List UInt8:=r2 s++(List.range k).flatMap fun i=>vT [119,101,116] (KD s i).1 (KD s i).2
def r4(s:aQ):List UInt8:=r3 s s.table.levels.length++y8 [100,114,121] (aOE s)
def r5(s:aQ):List UInt8:=r4 s++[108,101,97,118,101]
def r6(s:aQ)(k:Nat):List UInt8:=r5 s++((L3.eS s.book).1.take k).flatMap fun i=>32::itoa i
def r7(s:aQ):List UInt8:=r6 s (L3.eS s.book).1.length++[10]
def aRW(s:aQ):List UInt8:=r7 s++vT [109,111,110,101,121] (WK s).1 (WK s).2
def r8(s:aQ):List UInt8:=if(L3.eS s.book).1=[]then aRW s++vT [109,105,120,101,100] (KE s).1 (KE s).2 else r7 s
def r9(s:aQ):List UInt8:=r8 s++vT [119,104,111,108,101] (L7.gC s.yard).1.1 (L7.gC s.yard).1.2
def oE(s:aQ):List UInt8:=r9 s++y8 [115,117,114,101] (L7.oD s.yard).2.1
def O5(ls:List ByteArray):List UInt8×Int:=if(aP ls).2.2=0 then(oE (aP ls).1,0)else([],(aP ls).2.2)
section
variable{s:aQ}
theorem aWE:r1 s=[]++vT [99,104,97,105,114,115] (aQS s).1 (aQS s).2:=rfl
theorem aWG:r2 s=r1 s++y8 [108,101,97,115,116] (C1.uE s.row):=rfl
theorem aVT:r4 s=r3 s s.table.levels.length++y8 [100,114,121] (aOE s):=rfl
theorem aVP:r5 s=r4 s++[108,101,97,118,101]:=rfl
theorem aVW:r7 s=r6 s (L3.eS s.book).1.length++[10]:=rfl
theorem TJ{k:Nat}:r3 s (k+1)=r3 s k++vT [119,101,116] (KD s k).1 (KD s k).2:=by unfold r3;rw[aZR,aYP,aZG,aYA]
theorem aLC{k:Nat}{x:Int}(h:(L3.eS s.book).1[k]?= some x):r6 s (k+1)=r6 s k++((⟨#[32]⟩:ByteArray)++qQ (itoa x)).data.toList:=by
 unfold r6;rw[aYG,h]
 simp[qQ]
theorem aSG(h:(L3.eS s.book).1=[]):r8 s=aRW s++vT [109,105,120,101,100] (KE s).1 (KE s).2:=aYJ h
theorem aVI(h:(L3.eS s.book).1≠[]):r8 s=r7 s:=aYC h
theorem wR(s:aQ):oE s≠[]:=by unfold oE y8;simp
theorem xY{w:List UInt8}{lo hi:Int}(h:NB lo∧NB hi):(vT w lo hi).length≤w.length+18:=by
 have h1:=lL h.1.1 h.1.2;have h2:=lL h.2.1 h.2.2
 simp only[vT,GT,aXY,aYW];omega
theorem TL{w:List UInt8}{n:Int}(h:NB n):(y8 w n).length≤w.length+9:=by
 have h1:=lL h.1 h.2;simp only[y8,GT,aXY,aYW];omega
variable(h:LC s)
include h
theorem aCK:(r1 s).length≤30:=by have:=xY (w:=[99,104,97,105,114,115]) h.ch;unfold r1;simp only[aXY,aYW]at this;omega
theorem aUV:(r2 s).length≤60:=by have:=TL (w:=[108,101,97,115,116]) h.le;have h1:=aCK h;unfold r2;simp only[aXY,aYW]at this;rw[GT];omega
theorem FS:∀k,k≤s.table.levels.length→(r3 s k).length≤60+30*k
 |0,_=>by have:=aUV h;unfold r3;simpa using this
 |k+1,hk=>by
  have:=FS k Yd;have h2:=xY (w:=[119,101,116]) (h.wet k Yd);rw[TJ,GT];simp only[aXY,aYW]at h2;omega
theorem aEC:(r4 s).length≤300:=by have h1:=FS h _ (aYI _);have h0:=h.lev;have:=TL (w:=[100,114,121]) h.dry;unfold r4;simp only[aXY,aYW]at this;rw[GT];omega
theorem aUW:(r5 s).length≤310:=by have h1:=aEC h;unfold r5;rw[GT];simp only[aXY,aYW];omega
theorem PB(k:Nat):(r6 s k).length≤1200:=by
 have h1:=aUW h;have key:∀l:List Int,(∀x∈l,NB x)→(l.flatMap fun i=>32::itoa i).length≤8*l.length:=by
  intro l;induction l with
  |nil=>intro _;simp
  |cons a l ih=>
   intro hl;have h1:=lL (hl a Ye).1 (hl a Ye).2;have h2:=ih fun x hx=>hl x (by simp[hx])
   rw[aZD,GT];simp only[aXY];omega
 have h2:=key ((L3.eS s.book).1.take k) fun x hx=>h.lv x (bBZ hx)
 have h3:=h.lvn;have h4:((L3.eS s.book).1.take k).length≤100:=by rw[aZJ];omega
 unfold r6;rw[GT];omega
theorem QT:(r7 s).length≤1300:=by have h1:=PB h (L3.eS s.book).1.length;unfold r7;rw[GT];simp only[aXY,aYW];omega
theorem SG:(aRW s).length≤1400:=by have h1:=QT h;have:=xY (w:=[109,111,110,101,121]) h.mon;unfold aRW;simp only[aXY,aYW]at this;rw[GT];omega
theorem OA:(r8 s).length≤1500:=by
 unfold r8;split
 ·have h1:=SG h;have:=xY (w:=[109,105,120,101,100]) h.mix;simp only[aXY,aYW]at this;rw[GT];omega
 ·have h1:=QT h;omega
theorem aHN:(r9 s).length≤1600:=by have h1:=OA h;have:=xY (w:=[119,104,111,108,101]) h.wh;unfold r9;simp only[aXY,aYW]at this;rw[GT];omega
end
theorem DO{x:Int}(h:NB x):((⟨#[32]⟩:ByteArray)++qQ (itoa x)).size≤10:=by
 have:=lL h.1 h.2;rw[bBV,uQ,yH];simp only[aYU,aXY,aYW];omega
theorem zZ{b:Nat}{l:List UInt8}{ν B:aD}{h0:H0}{lo:Nat}{D0 D:aC}{w:World}(h:eV b l ν)(hl:l≠[])(hs:hP h0 lo D0 [] (ν++B) D w):IsBuilder 115 5 (max 1 h0.size) b (byteCells l) w∧max 1 h0.size≤w.heap.size:=by
 obtain⟨p,v,ν1,rfl,hp,ha,hcb⟩:=h;have hlen:0<l.length:=bAU.2 hl;obtain⟨g,cap,junk,rfl,hcap,rfl,h1,h2⟩:=ha.some hlen;obtain⟨G,I,M⟩:=hs.box _ (aXU _ aXW);obtain⟨g1,g2,g3⟩:=hs.box _ (aXU _ (LE _ aXW));have hlo:=hs.hlo;have kb:=hs.agr.ne0 I;have gb:=hs.agr.ne0 g2
 have hk:lo≤b:=M.resolve_right Ye;have hg:lo≤g:=g3.resolve_right Ye;have hne:g≠b:=fun e=>by
  have:=hs.nd;simp[e]at this
 have hat:BuilderAt 115 5 (max 1 h0.size) b (.pointer p) (byteCells l) w:=by
  refine⟨by omega,_,G,⟨by rw[byteCells_length];omega,aXR ⟨g,cap,(bc l++junk).toArray,by rw[byteCells_length],by omega,g1,by rw[byteCells_length];exact hcap,hcb _ _ _ rfl,by simpa using h2,?_⟩⟩,by simp[Value.ownBlock];exact hne⟩;rw[byteCells_length];show(bc l++junk).take (l.length*1)=bc l;rw[←h1,bBW]
 refine⟨?_,?_⟩
 ·rcases hp with rfl|rfl
  ·exact aYF hat
  ·exact aXR hat
 ·have:=bK G;omega
theorem V4(lv:Value)(ls:List ByteArray)(D:aC)(hS:Sl D RS 1 lv ls)(hV:mY D)(hR0:(aP ls).2.2=0→LC (aP ls).1):Fn prog 21 #[lv] D (fun _ v=>v=.tuple #[.string (qQ (O5 ls).1),qI (O5 ls).2]):=by
 refine enter 175 func21 rfl rfl rfl rfl fun h0=>aA<|Zj rfl<|Zj rfl<|aK<|Za rfl<|Zt rfl (fun D1 hD1=>wH _ ls _ (hS.up RS.up (hD1 _ Ye)) (hV.up (hD1 _ Ye))) (fun v1 D1 hD1 hp1=>?_)
 obtain⟨w1,w2,rfl,⟨pv,cv,hv,lv,mv,bl,bc,yc,yq,rfl,hL⟩,hes⟩:=hp1;have hpl7:(aP ls).1.row.places.length≤7:=p8 ls;have hln8:(aP ls).1.book.lines.length≤8:=o9 ls;unfold cR;refine Za rfl<|Zad rfl<|Zad rfl<|Zad rfl<|Zw rfl lB rfl (fun M=>aV rfl rfl rfl rfl dK Ya Ya (bO.head) (gU hL) bCV<|Zj rfl<|Zj rfl<|bW<|Za rfl<|Zam rfl<|aG ?_);refine Zz rfl (fun hc1=>?_) (fun hc1=>?_)
 ·have hf:(aP ls).2.2≠0:=by simpa using hc1
  refine aA<|Za rfl<|Zj rfl<|Zj rfl<|aH<|Zas ?_;exact jK (vs:=[_,_]) rfl rfl rfl bA (fun D hD=>by unfold O5;rw[aYC hf];rfl)
 ·have hf:(aP ls).2.2=0:=by simpa using hc1
  have hR:=hR0 hf;have hlev6:=hR.lev;have hlvn:=hR.lvn;refine aZ<|aA<|Zw rfl aLX rfl (fun G=>aK<|Zao rfl<|Zj rfl<|aK<|Zao rfl<|Zj rfl<|bR ?_);have rA:eV G [] [(G,qC [.pointer none,qN] 115)]:=⟨none,_,[],rfl,aYF rfl,bZ.nil,Z2 Yad⟩
  refine aX<|Zh rfl dJ rfl<|eE rfl iW fX rfl Mm1 rfl rfl n3 rfl bCV<|Zh rfl dJ rfl<|Zh rfl eF rfl<|Zp rfl dS rfl Mm1 rfl<|Zab rfl U25 rfl (hL.pl.up RI.up (Le.refl _)) rfl<|hU rfl rfl rfl Yg rfl bCV<|Zc rfl (fun D2 hD2=>x5 _ (aP ls).1.row 0 (((aP ls).1.row.places.length:Int)-1) _ (hL.row.up (hD2 _ Ye)))<|Za rfl<|Zad rfl<|Zad rfl ?_;refine Zw rfl qE rfl (fun q3=>Zu rfl iT (bO.head)<|Zj rfl<|aK<|Za rfl<|Zh rfl LL rfl<|Zp rfl aI rfl Mm0 rfl<|Zh rfl LD rfl<|Zp rfl aI rfl Mm0 rfl<|o8 (List.Sublist.cons _ Mm5)<|fD (A:=[]) (ν:=[(G,_)]) (B:=[(M,_)]) rfl rfl rfl rfl (aYF rfl) rA.unf (fun D20 hD20=>zW ⟨#[99,104,97,105,114,115]⟩ (aQS (aP ls).1).1 (aQS (aP ls).1).2 G ([]) [(G,_)] _ (hV.up (hD20 _ Ye)) Yad hR.ch.1 hR.ch.2 rA (by have:=(show([]:List UInt8).length≤0 from aYI 0);omega)) rfl bCV (fun _ _ _ h=>h.elim) (fun v20 D21 hK hD21 O=>aJ ((hK++[(M,qC (cR (aP ls).1 pv cv hv lv mv bl bc yc yq) 42)])) rfl ?_))
  replace O:eV G (r1 (aP ls).1) hK:=by first|exact O|(rw[aWE];exact O)|(simpa [r1]using O)
  refine aK<|Zh rfl dJ rfl<|eE rfl iW fX rfl (n5 _ Mm0) rfl rfl n3 rfl bCV<|Zc rfl (fun D3 hD3=>L1.aJD _ (aP ls).1.row _ (hL.row.up (hD3 _ Ye)))<|Za rfl<|Zad rfl<|Zad rfl<|Zj rfl<|Zj rfl<|aK<|Za rfl<|Za rfl ?_;refine fD (A:=[]) (ν:=hK) (B:=[(M,_)]) rfl rfl rfl rfl (aYF rfl) O.unf (fun D22 hD22=>HX ⟨#[108,101,97,115,116]⟩ (C1.uE (aP ls).1.row) G (r1 (aP ls).1) hK _ (hV.up (hD22 _ Ye)) Yad hR.le O (by have:=aCK hR;omega)) rfl bCV (fun _ _ _ h=>h.elim) (fun v22 D23 ν22 hD23 hB=>aJ ((ν22++[(M,qC (cR (aP ls).1 pv cv hv lv mv bl bc yc yq) 42)])) rfl ?_)
  replace hB:eV G (r2 (aP ls).1) ν22:=by first|exact hB|(rw[aWG];exact hB)|(simpa [r2]using hB)
  refine bW<|Zh rfl cT rfl<|Zh rfl jJ rfl<|Zp rfl dS rfl (n5 _ Mm0) rfl<|Zab rfl U25 rfl (hL.lev.up RI.up (Le.refl _)) rfl<|Za rfl<|aG<|Zar<|dB (γ:=Nat×aD) (fun g=>(aP ls).1.table.levels.length-g.1) (fun g=>g.1≤(aP ls).1.table.levels.length∧eV G (r3 (aP ls).1 g.1) g.2) (fun g=>[(73,qI (g.1:Int))]) [(72,_),(9,_),(8,_),(7,_),(4,_),(3,_),(2,_)] (fun g=>g.2++[(M,qC (cR (aP ls).1 pv cv hv lv mv bl bc yc yq) 42)]) (fun g=>[D23,D21,D1,D]) (0,ν22) ⟨by simp,by simpa [r3]using hB⟩ ⟨Yb,bCV⟩ bA Mm5 (aE) ?_;rintro⟨k,ν⟩ ⟨h1,hbv⟩;simp only at h1 hbv;refine aA<|Zai rfl<|bR<|Zz rfl (fun hc2=>?_) (fun hc2=>?_)
  ·simp only at hc2;have hkl:k<(aP ls).1.table.levels.length:=by omega
   refine aZ<|aO<|Zar<|aA<|Za rfl<|Zj rfl<|aK<|Zh rfl cT rfl<|eE rfl gY eW rfl (n5 _ Mm0) rfl rfl n3 rfl bCV<|Za rfl<|Zc rfl (fun D4 hD4=>L2.aFJ _ (aP ls).1.table (k:Int) _ (hL.table.up (hD4 _ Ye)))<|Za rfl ?_;refine Zad rfl<|Zad rfl<|Zw rfl gJ rfl (fun q4=>Zu rfl cE (bO.head)<|Zj rfl<|aG<|aX<|Za rfl<|Zh rfl sO rfl<|Zp rfl aI rfl Mm0 rfl<|Zh rfl uV rfl<|Zp rfl aI rfl Mm0 rfl ?_);refine o8 (List.Sublist.cons _ Mm5)<|fD (A:=[]) (ν:=ν) (B:=[(M,_)]) rfl rfl rfl rfl (aYF rfl) hbv.unf (fun D24 hD24=>zW ⟨#[119,101,116]⟩ (KD (aP ls).1 k).1 (KD (aP ls).1 k).2 G (r3 (aP ls).1 k) ν _ (hV.up (hD24 _ Ye)) Yad (hR.wet k hkl).1 (hR.wet k hkl).2 hbv (by have:=FS hR (k) Yd;omega)) rfl bCV (fun _ _ _ h=>h.elim) (fun v24 D25 ν24 hD25 hH=>aJ ((ν24++[(M,qC (cR (aP ls).1 pv cv hv lv mv bl bc yc yq) 42)])) rfl ?_)
   replace hH:eV G (r3 (aP ls).1 (k+1)) ν24:=by rw[TJ];exact hH
   refine Zae<|Zat<|Zap<|aX<|Zaa rfl<|Za rfl<|Zae ?_;exact aM 21 (k+1,ν24) ⟨by simp only;omega,hH⟩ Yo ⟨Yb,bCV⟩ rfl rfl Mm5 (fun D h=>⟨D,aYK _ (h),Le.refl D⟩)
  ·obtain rfl:k=(aP ls).1.table.levels.length:=by simp only at hc2;omega
   refine aT<|Zaq<|Zaq<|Zau<|Zap<|aA<|Zh rfl cT rfl<|eE rfl gY eW rfl (n5 _ Mm0) rfl rfl n3 rfl bCV<|Zh rfl cT rfl<|Zh rfl jU rfl<|Zp rfl aI rfl (n5 _ Mm0) rfl<|Zc rfl (fun D5 hD5=>L2.aTL _ (aP ls).1.table 0 (aP ls).1.table.last _ (hL.table.up (hD5 _ Ye))) ?_;refine Za rfl<|Zad rfl<|Zad rfl<|Zj rfl<|Zj rfl<|aK<|Za rfl<|Za rfl<|fD (A:=[]) (ν:=ν) (B:=[(M,_)]) rfl rfl rfl rfl (aYF rfl) hbv.unf (fun D26 hD26=>HX ⟨#[100,114,121]⟩ (aOE (aP ls).1) G (r3 (aP ls).1 (aP ls).1.table.levels.length) ν _ (hV.up (hD26 _ Ye)) Yad hR.dry hbv (by have:=FS hR ((aP ls).1.table.levels.length) Yd;omega)) rfl bCV (fun _ _ _ h=>h.elim) (fun v26 D27 hM hD27 R=>aJ ((hM++[(M,qC (cR (aP ls).1 pv cv hv lv mv bl bc yc yq) 42)])) rfl ?_)
   replace R:eV G (r4 (aP ls).1) hM:=by first|exact R|(rw[aVT];exact R)|(simpa [r4]using R)
   refine aK<|fD (A:=[]) (ν:=hM) (B:=[(M,_)]) rfl rfl rfl rfl (aYF rfl) R.unf (fun D28 hD28=>lK G ⟨#[108,101,97,118,101]⟩ (r4 (aP ls).1) hM _ R (by have:=aEC hR;have hz:=(show(⟨#[108,101,97,118,101]⟩:ByteArray).size=5 from rfl);omega)) rfl bCV (fun _ _ _ h=>h.elim) (fun v28 D29 ν28 hD29 hE=>aJ ((ν28++[(M,qC (cR (aP ls).1 pv cv hv lv mv bl bc yc yq) 42)])) rfl ?_);replace hE:eV G (r5 (aP ls).1) ν28:=by first|exact hE|(rw[aVP];exact hE)|(simpa [r5]using hE)
   refine aK<|Zh rfl eK rfl<|eE rfl eL dO rfl (n5 _ Mm0) rfl rfl n3 rfl bCV<|Zt rfl (fun D6 hD6=>L3.aHS _ (aP ls).1.book _ (hL.book.up (hD6 _ Ye))) (fun v6 D6 hD6 hp6=>?_);obtain⟨lvv,rfl,hlv⟩:=hp6;obtain⟨lva,lvc,rfl⟩:=hlv.shape;refine Za rfl<|Zad rfl<|Zad rfl<|Zj rfl<|Zj rfl<|bW<|Za rfl<|Zab rfl U25 rfl hlv rfl<|Za rfl<|aG<|Zar<|dB (γ:=Nat×aD) (fun g=>(L3.eS (aP ls).1.book).1.length-g.1) (fun g=>g.1≤(L3.eS (aP ls).1.book).1.length∧eV G (r6 (aP ls).1 g.1) g.2) (fun g=>[(111,qI (g.1:Int))]) [(110,_),(109,_),(19,_),(9,_),(8,_),(7,_),(4,_),(3,_),(2,_)] (fun g=>g.2++[(M,qC (cR (aP ls).1 pv cv hv lv mv bl bc yc yq) 42)]) (fun g=>[D6,D29,D27,D23,D21,D1,D]) (0,ν28) ⟨by simp,by simpa [r6]using hE⟩ ⟨Yb,bCV⟩ bA Mm5 (aE) ?_;rintro⟨k,ν⟩ ⟨h1,hbv⟩;simp only at h1 hbv;refine aA<|Zai rfl<|bR<|Zz rfl (fun hc3=>?_) (fun hc3=>?_)
   ·simp only at hc3;have hkl:k<(L3.eS (aP ls).1.book).1.length:=by omega
    obtain⟨x,hx⟩:∃x,(L3.eS (aP ls).1.book).1[k]?= some x:=⟨_,aXT hkl⟩
    refine aZ<|aO<|Zar<|aA<|lH rfl hlv rfl hx (fun b1 o1=>Zj rfl<|aG<|aX<|Za rfl<|Zc rfl (fun D7 hD7=>P3 x (by have:=hR.lv x (LT hx);unfold NB at this;simp only[xO];omega) _ (hV.up (hD7 _ Ye)))<|fI rfl rfl rfl (by have:=DO (hR.lv x (LT hx));rw[bBV]at this;omega) rfl bCV<|fD (A:=[]) (ν:=ν) (B:=[(M,_)]) rfl rfl rfl rfl (aYF rfl) hbv.unf (fun D30 hD30=>lK G ((⟨#[32]⟩:ByteArray)++qQ (itoa x)) (r6 (aP ls).1 k) ν _ hbv (by have:=PB hR (k);have hz:=(DO (hR.lv x (LT hx)));omega)) rfl bCV (fun _ _ _ h=>h.elim) (fun v30 D31 ν30 hD31 hI=>?_));refine aJ ((ν30++[(M,qC (cR (aP ls).1 pv cv hv lv mv bl bc yc yq) 42)])) rfl ?_;replace hI:eV G (r6 (aP ls).1 (k+1)) ν30:=by rw[aLC hx];exact hI
    refine Zae<|Zat<|Zap<|aX<|Zaa rfl<|Za rfl<|Zae ?_;exact aM 11 (k+1,ν30) ⟨by simp only;omega,hI⟩ Yo ⟨Yb,bCV⟩ rfl rfl Mm5 (fun D h=>⟨D,aYK _ (h),Le.refl D⟩)
   ·obtain rfl:k=(L3.eS (aP ls).1.book).1.length:=by simp only at hc3;omega
    refine aT<|Zaq<|Zaq<|Zau<|Zap<|aA<|fD (A:=[]) (ν:=ν) (B:=[(M,_)]) rfl rfl rfl rfl (aYF rfl) hbv.unf (fun D32 hD32=>lK G ⟨#[10]⟩ (r6 (aP ls).1 (L3.eS (aP ls).1.book).1.length) ν _ hbv (by have:=PB hR ((L3.eS (aP ls).1.book).1.length);have hz:=(show(⟨#[10]⟩:ByteArray).size=1 from rfl);omega)) rfl bCV (fun _ _ _ h=>h.elim) (fun v32 D33 hJ hD33 I=>aJ ((hJ++[(M,qC (cR (aP ls).1 pv cv hv lv mv bl bc yc yq) 42)])) rfl ?_);replace I:eV G (r7 (aP ls).1) hJ:=by first|exact I|(rw[aVW];exact I)|(simpa [r7]using I)
    refine bW<|Za rfl<|Zab rfl U25 rfl hlv rfl<|Zan rfl<|aG<|Zz rfl (fun hc4=>?_) (fun hc4=>?_)
    ·have hl0:(L3.eS (aP ls).1.book).1=[]:=List.eq_nil_of_length_eq_zero Yd;refine aA<|Zh rfl eK rfl<|eE rfl eL dO rfl (n5 _ Mm0) rfl rfl n3 rfl bCV<|Zh rfl eK rfl<|Zh rfl cQ rfl<|Zp rfl eX rfl (n5 _ Mm0) rfl<|Zab rfl U33 rfl (hL.ln.up oB.up (Le.refl _)) rfl<|Zc rfl (fun D8 hD8=>L3.vR _ (aP ls).1.book ((aP ls).1.book.lines.length:Int) _ (hL.book.up (hD8 _ Ye)))<|Za rfl<|Zad rfl<|Zad rfl<|Zw rfl mO rfl (fun q5=>?_);refine Zu rfl eA (bO.head)<|Zj rfl<|aK<|Zh rfl eK rfl<|eE rfl eL dO rfl (List.Mem.tail _ (n5 _ Mm0)) rfl rfl n3 rfl bCV<|Zc rfl (fun D9 hD9=>L3.aGR _ (aP ls).1.book _ (hL.book.up (hD9 _ Ye)))<|Za rfl<|Zad rfl<|Zad rfl<|Zw rfl mO rfl (fun q6=>Zu rfl eA (bO.head)<|Zj rfl ?_);refine aK<|Za rfl<|Zh rfl uW rfl<|Zp rfl aI rfl Mm1 rfl<|Zh rfl vF rfl<|Zp rfl aI rfl Mm1 rfl<|fD (A:=[(_,_),(_,_)]) (ν:=hJ) (B:=[(M,_)]) rfl rfl rfl rfl (aYF rfl) I.unf (fun D34 hD34=>zW ⟨#[109,111,110,101,121]⟩ (WK (aP ls).1).1 (WK (aP ls).1).2 G (r7 (aP ls).1) hJ _ (hV.up (hD34 _ Ye)) Yad hR.mon.1 hR.mon.2 I (by have:=QT hR;omega)) rfl bCV (fun _ _ _ h=>h.elim) (fun v34 D35 hN hD35 T=>aJ ((q6,_)::(q5,_)::(hN++[(M,qC (cR (aP ls).1 pv cv hv lv mv bl bc yc yq) 42)])) rfl ?_)
     replace T:eV G (aRW (aP ls).1) hN:=by first|exact T|(rw[r7m_eq];exact T)|(simpa [aRW]using T)
     refine aG<|aX<|Za rfl<|Zh rfl uW rfl<|Zp rfl aI rfl Mm0 rfl<|Zh rfl vF rfl<|Zp rfl aI rfl Mm0 rfl<|o8 (List.Sublist.cons _ (List.Sublist.cons _ Mm5))<|fD (A:=[]) (ν:=hN) (B:=[(M,_)]) rfl rfl rfl rfl (aYF rfl) T.unf (fun D36 hD36=>zW ⟨#[109,105,120,101,100]⟩ (KE (aP ls).1).1 (KE (aP ls).1).2 G (aRW (aP ls).1) hN _ (hV.up (hD36 _ Ye)) Yad hR.mix.1 hR.mix.2 T (by have:=SG hR;omega)) rfl bCV (fun _ _ _ h=>h.elim) (fun v36 D37 hO hD37 hF=>aJ ((hO++[(M,qC (cR (aP ls).1 pv cv hv lv mv bl bc yc yq) 42)])) rfl ?_);replace hF:eV G (r8 (aP ls).1) hO:=by rw[aSG hl0];exact hF
     refine aK<|Zh rfl dZ rfl<|eE rfl jP iD rfl (n5 _ Mm0) rfl rfl n3 rfl bCV<|Zc rfl (fun D10 hD10=>L7.vA _ (aP ls).1.yard _ (hL.yard.up (hD10 _ Ye)))<|Za rfl<|Zad rfl<|Zad rfl<|Zw rfl jL rfl (fun q7=>Zu rfl cD (bO.head)<|Zj rfl<|aK<|Za rfl ?_);refine Zh rfl rR rfl<|Zp rfl aI rfl Mm0 rfl<|Zh rfl rT rfl<|Zp rfl aI rfl Mm0 rfl<|o8 (List.Sublist.cons _ Mm5)<|fD (A:=[]) (ν:=hO) (B:=[(M,_)]) rfl rfl rfl rfl (aYF rfl) hF.unf (fun D38 hD38=>zW ⟨#[119,104,111,108,101]⟩ ((L7.gC (aP ls).1.yard).1).1 ((L7.gC (aP ls).1.yard).1).2 G (r8 (aP ls).1) hO _ (hV.up (hD38 _ Ye)) Yad hR.wh.1 hR.wh.2 hF (by have:=OA hR;omega)) rfl bCV (fun _ _ _ h=>h.elim) (fun v38 D39 hX hD39 U=>aJ ((hX++[(M,qC (cR (aP ls).1 pv cv hv lv mv bl bc yc yq) 42)])) rfl ?_)
     replace U:eV G (r9 (aP ls).1) hX:=by first|exact U|(rw[r9_eq];exact U)|(simpa [r9]using U)
     refine aK<|Zh rfl dZ rfl<|eE rfl jP iD rfl (n5 _ Mm0) rfl rfl n3 rfl bCV<|Zt rfl (fun D11 rB=>L7.VF _ (aP ls).1.yard _ (hL.yard.up (rB _ Ye))) (fun v11 D11 rB hp11=>?_);obtain⟨suv,rfl,hsu⟩:=hp11;refine Za rfl<|Zad rfl<|Zad rfl<|Zad rfl<|Zj rfl<|Zj rfl<|Zj rfl<|aK<|Za rfl<|Za rfl<|fD (A:=[]) (ν:=hX) (B:=[(M,_)]) rfl rfl rfl rfl (aYF rfl) U.unf (fun D40 hD40=>HX ⟨#[115,117,114,101]⟩ ((L7.oD (aP ls).1.yard).2.1) G (r9 (aP ls).1) hX _ (hV.up (hD40 _ Ye)) Yad hR.su U (by have:=aHN hR;omega)) rfl bCV (fun _ _ _ h=>h.elim) (fun v40 D41 ν40 hD41 V=>aJ ((ν40++[(M,qC (cR (aP ls).1 pv cv hv lv mv bl bc yc yq) 42)])) rfl ?_)
     replace V:eV G (oE (aP ls).1) ν40:=by first|exact V|(rw[reportL_eq];exact V)|(simpa [oE]using V)
     refine aK<|y4 (post:=fun r=>r=.string (qQ (oE (aP ls).1))) rfl rfl rfl rfl (EF.of func53 rfl rfl) (fun D w hw=>(Go.Proofs.Tryz.Builder_String_any (max 1 h0.size) G (oE (aP ls).1) w (zZ V (wR _) hw).1 (zZ V (wR _) hw).2).mono ?_) rfl bCV (fun r hr=>?_)
     ·rintro e w1 ⟨rfl,hbl⟩;exact⟨_,rfl,hbl,rfl⟩
     subst hr;refine Zj rfl<|Zj rfl<|aH ?_;exact jK (vs:=[_,_]) rfl rfl rfl bA (fun D hD=>by unfold O5;rw[aYJ hf];rfl)
    ·have hl0:(L3.eS (aP ls).1.book).1≠[]:=fun h=>hc4 (by rw[h];rfl)
     have hb8:eV G (r8 (aP ls).1) hJ:=by rw[aVI hl0];exact I
     refine aZ<|aA<|Zh rfl dZ rfl<|eE rfl jP iD rfl (n5 _ Mm0) rfl rfl n3 rfl bCV<|Zc rfl (fun D12 hD12=>L7.vA _ (aP ls).1.yard _ (hL.yard.up (hD12 _ Ye)))<|Za rfl<|Zad rfl<|Zad rfl<|Zw rfl jL rfl (fun q8=>Zu rfl cD (bO.head)<|Zj rfl<|aK ?_);refine Za rfl<|Zh rfl rR rfl<|Zp rfl aI rfl Mm0 rfl<|Zh rfl rT rfl<|Zp rfl aI rfl Mm0 rfl<|o8 (List.Sublist.cons _ Mm5)<|fD (A:=[]) (ν:=hJ) (B:=[(M,_)]) rfl rfl rfl rfl (aYF rfl) hb8.unf (fun D42 hD42=>zW ⟨#[119,104,111,108,101]⟩ ((L7.gC (aP ls).1.yard).1).1 ((L7.gC (aP ls).1.yard).1).2 G (r8 (aP ls).1) hJ _ (hV.up (hD42 _ Ye)) Yad hR.wh.1 hR.wh.2 hb8 (by have:=OA hR;omega)) rfl bCV (fun _ _ _ h=>h.elim) (fun v42 D43 hY hD43 Y=>aJ ((hY++[(M,qC (cR (aP ls).1 pv cv hv lv mv bl bc yc yq) 42)])) rfl ?_)
     replace Y:eV G (r9 (aP ls).1) hY:=by first|exact Y|(rw[r9_eq];exact Y)|(simpa [r9]using Y)
     refine aK<|Zh rfl dZ rfl<|eE rfl jP iD rfl (n5 _ Mm0) rfl rfl n3 rfl bCV<|Zt rfl (fun D13 hD13=>L7.VF _ (aP ls).1.yard _ (hL.yard.up (hD13 _ Ye))) (fun v13 D13 hD13 hp13=>?_);obtain⟨suv,rfl,hsu⟩:=hp13;refine Za rfl<|Zad rfl<|Zad rfl<|Zad rfl<|Zj rfl<|Zj rfl<|Zj rfl<|aK<|Za rfl<|Za rfl<|fD (A:=[]) (ν:=hY) (B:=[(M,_)]) rfl rfl rfl rfl (aYF rfl) Y.unf (fun D44 hD44=>HX ⟨#[115,117,114,101]⟩ ((L7.oD (aP ls).1.yard).2.1) G (r9 (aP ls).1) hY _ (hV.up (hD44 _ Ye)) Yad hR.su Y (by have:=aHN hR;omega)) rfl bCV (fun _ _ _ h=>h.elim) (fun v44 D45 ν44 hD45 Z=>aJ ((ν44++[(M,qC (cR (aP ls).1 pv cv hv lv mv bl bc yc yq) 42)])) rfl ?_)
     replace Z:eV G (oE (aP ls).1) ν44:=by first|exact Z|(rw[reportL_eq];exact Z)|(simpa [oE]using Z)
     refine aK<|y4 (post:=fun r=>r=.string (qQ (oE (aP ls).1))) rfl rfl rfl rfl (EF.of func53 rfl rfl) (fun D w hw=>(Go.Proofs.Tryz.Builder_String_any (max 1 h0.size) G (oE (aP ls).1) w (zZ Z (wR _) hw).1 (zZ Z (wR _) hw).2).mono ?_) rfl bCV (fun r hr=>?_)
     ·rintro e w1 ⟨rfl,hbl⟩;exact⟨_,rfl,hbl,rfl⟩
     subst hr;refine Zj rfl<|Zj rfl<|aH ?_;exact jK (vs:=[_,_]) rfl rfl rfl bA (fun D hD=>by unfold O5;rw[aYJ hf];rfl)
end L12
namespace C12
def yR:Nat→List UInt8→Nat
 |_,[]=>0
 |k,b::t=>(2*k+1)*b.toNat+yR (k+1) t
theorem W4:∀(a b:List UInt8) (k:Nat),yR k (a++b)=yR k a+yR (k+a.length) b
 | [],b,k=>by simp[yR]
 |x::a,b,k=>by
  rw[aZV,yR,yR,W4 a b (k+1),aXY,show k+1+a.length=k+(a.length+1) by omega,Nat.add_assoc]
theorem ZQ{l:List UInt8}{k:Nat}{b:UInt8}(h:l[k]?= some b):yR 0 (l.take (k+1))=yR 0 (l.take k)+(2*k+1)*b.toNat:=by
 have hk:k<l.length:=(aXZ.1 h).1;rw[aYG,h,W4,aZJ,bBH Yd];simp[yR]
theorem TR:∀(l:List UInt8) (k:Nat),yR k l≤(2*(k+l.length)+1)*256*l.length
 | [],k=>by simp[yR]
 |b::l,k=>by
  have h1:=TR l (k+1);have h2:b.toNat≤256:=by have:=b.toNat_lt;omega
  have h3:(2*k+1)*b.toNat≤(2*(k+(l.length+1))+1)*256:=bCR Yd h2;rw[yR,aXY,show k+(l.length+1)=k+1+l.length by omega,Nat.mul_succ];rw[show k+1+l.length=k+(l.length+1) by omega]at h1;rw[show k+1+l.length=k+(l.length+1) by omega];omega
def lV(i:Nat)(l:List UInt8):Nat:=(37*(i+1)+yR 0 l)%9967
theorem CE(i:Nat)(l:List UInt8):lV i l<9967:=Nat.mod_lt _ Yad
def wC(n j:Nat):UInt8:=UInt8.ofNat (48+n / 10^j%10)
theorem aLM(n j:Nat):(wC n j).toNat=48+n / 10^j%10:=by
 unfold wC;rw[UInt8.toNat_ofNat'];have:=Nat.mod_lt (n / 10^j) (show 0<10 by decide);omega
def vW(n:Nat):List UInt8:=[wC n 3,wC n 2,wC n 1,wC n 0]
def Y6(i:Nat)(l:List UInt8):List UInt8:=[59,59,10]++vW (lV i l)
def mF(i:Nat)(l:List UInt8):List UInt8:=[wC l.length 1,wC l.length 0,59]++l++[59]++vW (lV i l)++[10]
theorem nW(i:Nat)(l:List UInt8):(mF i l).length=9+l.length:=by simp[mF,vW];omega
def kE:Nat→List (List UInt8)→List UInt8
 |_,[]=>[]
 |i,l::ls=>mF i l++kE (i+1) ls
theorem xL:∀(a b:List (List UInt8)) (i:Nat),kE i (a++b)=kE i a++kE (i+a.length) b
 | [],b,i=>by simp[kE]
 |x::a,b,i=>by
  rw[aZV,kE,kE,xL a b (i+1),aXY,aYA,show i+1+a.length=i+(a.length+1) by omega]
def oU(ls:List (List UInt8)):List UInt8:=kE 0 ls
theorem y9{ls:List (List UInt8)}{k:Nat}{l:List UInt8}(h:ls[k]?= some l):oU (ls.take (k+1))=oU (ls.take k)++mF k l:=by
 have hk:k<ls.length:=(aXZ.1 h).1;unfold oU;rw[aYG,h,xL,aZJ,bBH Yd];simp[kE]
theorem xG:∀(ls:List (List UInt8)) (i m:Nat),(∀l∈ls,l.length≤m)→(kE i ls).length≤(9+m)*ls.length
 | [],i,m,_=>by simp[kE]
 |l::ls,i,m,h=>by
  have h1:=xG ls (i+1) m fun x hx=>h x (by simp[hx])
  have h2:=h l Ye;rw[kE,GT,nW,aXY,Nat.mul_succ];omega

def tB(c:UInt8):Bool:=decide (48≤c.toNat)&&decide (c.toNat≤57)
def L8(b:List UInt8):Option Nat:=match b with
 |c::d::_=>if tB c=true∧tB d=true∧(c.toNat-48)*10+(d.toNat-48)≤50 then some ((c.toNat-48)*10+(d.toNat-48))else none
 |_=>none
def FZ(n:Nat)(b:List UInt8):List UInt8:=[b.getD 2 0,b.getD (3+n) 0,b.getD (8+n) 0]++(b.drop (4+n)).take 4
def nQ(i:Nat)(b:List UInt8):Option (List UInt8):=if b.length<9 then none else match L8 b with
 |none=>none
 |some n=>if b.length<9+n then none else if FZ n b=Y6 i ((b.drop 3).take n)then some ((b.drop 3).take n)else none
theorem AV{i:Nat}{b l:List UInt8}(h:nQ i b=some l):l.length≤50∧9+l.length≤b.length:=by
 unfold nQ at h;split at h
 ·cases h
 ·split at h
  ·cases h
  ·rename_i n hn;split at h
   ·cases h
   ·split at h
    ·cases h;have G:n≤50:=by
      unfold L8 at hn;split at hn
      ·split at hn
       ·rename_i hh;cases hn;exact hh.2.2
       ·cases hn
      ·cases hn
     rw[aZJ,bAA];omega
    ·cases h
end C12
namespace L12
open C12 Go.Lib
theorem SA{s:ByteArray}{k:Nat}{b:UInt8}(h:s.data.toList[k]?= some b):s[k]?= some b:=by
 have hk:k<s.size:=by simpa using(aXZ.1 h).1
 rw[getElem?_pos s k hk];congr 1;obtain⟨h1,h2⟩:=aXZ.1 h;rw[←h2];rfl
theorem i6{s:ByteArray}{k:Nat}{b:UInt8}(h:s.data.toList[k]?= some b)(hs:s.size≤1000):0≤(2*(k:Int)+1)*(b.toNat:Int)∧(2*(k:Int)+1)*(b.toNat:Int)≤1000000:=by
 have hk:k<s.size:=by simpa using(aXZ.1 h).1
 have hb:=b.toNat_lt;have h1:(2*k+1)*b.toNat≤2001*256:=bCR Yd Yd;have h2:(2*(k:Int)+1)*(b.toNat:Int)=(((2*k+1)*b.toNat:Nat):Int):=by push_cast;rfl
 rw[h2];omega
theorem HO{s:ByteArray}{k:Nat}(hs:s.size≤1000):yR 0 (s.data.toList.take k)≤1000000000:=by
 have h:=TR (s.data.toList.take k) 0;have hl:(s.data.toList.take k).length≤1000:=by
  rw[aZJ];have:s.data.toList.length=s.size:=rfl;omega
 have h1:(2*(0+(s.data.toList.take k).length)+1)*256*(s.data.toList.take k).length≤2001*256*1000:=bCR (bCR Yd (aYI _)) hl;omega
def aVB(n k:Nat):List Value:=[if 3<k then .int .u8 (wC n 3).toNat else .int .u8 0,if 2<k then .int .u8 (wC n 2).toNat else .int .u8 0,if 1<k then .int .u8 (wC n 1).toNat else .int .u8 0,if 0<k then .int .u8 (wC n 0).toNat else .int .u8 0]
theorem aFT{n k:Nat}(hk:k<4):(aVB n k).take (((3:Int)-(k:Int)).toNat)++[.int .u8 (48+((n / 10^k:Nat):Int)%10)]++(aVB n k).drop (((3:Int)-(k:Int)).toNat+ [Value.int .u8 (48+((n / 10^k:Nat):Int)%10)].length)=aVB n (k+1):=by
 have e:Value.int .u8 (48+((n / 10^k:Nat):Int)%10)=.int .u8 ((wC n k).toNat:Int):=by rw[aLM];rfl
 rw[e];obtain rfl|rfl|rfl|rfl:k=0∨k=1∨k=2∨k=3:=by omega
 all_goals rfl
theorem aGE(i:Nat)(s:ByteArray)(hi:i≤100000)(hs:s.size≤1000)(D:aC):Fn prog 201 #[qI (i:Int),.string s] D (fun _ v=>v=qI ((lV i s.data.toList:Nat):Int)):=by
 refine enter 28 func201 rfl rfl rfl rfl fun h0=>aA<|Zj rfl<|aK<|Za rfl<|Zaa rfl<|N7 rfl rfl rfl Yg rfl bCV<|Zj rfl<|bW<|Za rfl<|lN rfl U9 rfl rfl rfl bCV<|Za rfl ?_;refine aG<|Zar<|bP (γ:=Nat) (fun k=>s.size-k) (fun k=>k≤s.size) (fun k=>[(12,qI (k:Int)),(5,qI ((37*(i+1)+yR 0 (s.data.toList.take k):Nat):Int))]) [(11,_),(4,_),(1,_)] (fun k=>[D]) 0 Yd ⟨Yb,(by show some (Value.int _ _)=some (Value.int _ _);congr 2),bCV⟩ bA (aE) ?_
 rintro k hI;refine aA<|Zai rfl<|bR<|Zz rfl (fun G=>?_) (fun G=>?_)
 ·have hk:k<s.size:=by omega
  obtain⟨b,hb⟩:∃b,s.data.toList[k]?= some b:=⟨_,aXT (by simpa using hk)⟩
  have I:=b.toNat_lt;refine aZ<|aO<|Zar<|aA<|Za rfl<|Zj rfl<|aG<|aX<|Za rfl<|Za rfl<|N7 rfl rfl rfl Yg rfl bCV<|Zaa rfl ?_;refine Za rfl<|Za rfl<|u9 rfl U9 rfl rfl Yd (by rw[aZN];exact SA hb) rfl bCV<|O0 rfl U5 U3 rfl Yg rfl bCV<|N7 rfl rfl rfl (by have:=i6 hb hs;simp only[xO];omega) rfl bCV<|B4 rfl rfl rfl (by have:=i6 hb hs;have:=HO (s:=s) (k:=k) hs;simp only[xO];omega) rfl bCV<|Zj rfl<|Zae<|Zat<|Zap<|aX<|Zaa rfl ?_;refine Za rfl<|Zae ?_;exact aM 18 (k+1) Yd Yd ⟨Yb,Ya3,bCV⟩ rfl rfl Mm5 (aE)
 ·obtain rfl:k=s.size:=by omega
  rw[aYO (show s.data.toList.length≤s.size by simp)];refine aT<|Zaq<|Zaq<|Zau<|Zap<|aA<|Za rfl<|uU rfl rfl rfl Yd Yd Yg rfl bCV<|Zj rfl<|aH ?_;exact aF rfl (fun D hD=>by show Value.int _ _=_;congr 1)
theorem UH(n:Nat)(hn:n≤1000000)(D:aC):Fn prog 122 #[qI (n:Int)] D (fun _ v=>v=.agg (bc (vW n)).toArray):=by
 refine enter 18 func122 rfl rfl rfl rfl fun h0=>aA<|Zw rfl SX rfl (fun I=>bW<|Za rfl<|aG<|Zar<|dB (γ:=Nat) (fun k=>4-k) (fun k=>k≤4) (fun k=>[(4,qI (k:Int)),(0,qI ((n / 10^k:Nat):Int))]) [(2,_)] (fun k=>[(I,qC (aVB n k) 257)]) (fun k=>[D]) 0 Yd ⟨Yb,(by show some (Value.int _ _)=some (Value.int _ _);congr 2;simp),bCV⟩ ⟨rfl,bCV⟩ Mm5 (aE) ?_)
 rintro k hI;refine aA<|Zai rfl<|bR<|Zz rfl (fun G=>?_) (fun G=>?_)
 ·have hk:k<4:=by omega
  have hq:n / 10^k≤n:=Nat.div_le_self _ _;have M:(0:Int)≤((n / 10^k:Nat):Int):=Int.natCast_nonneg _;refine aZ<|aO<|Zar<|aA<|Za rfl<|Zj rfl<|aK<|Za rfl<|hU rfl rfl rfl Yg rfl bCV<|Za rfl<|uU rfl rfl rfl Yd Yd Yg rfl bCV<|Zaa rfl ?_;refine O0 rfl U3 U5 rfl Yg rfl bCV<|eJ rfl U257 gN rfl rfl Yd Yd rfl bCV<|bJ (ws:=aVB n (k+1)) rfl rfl rfl rfl gN .head (by simp[aVB]<;>omega) (aFT hk) Yj bCV<|aG<|aX<|Za rfl<|s5 rfl rfl rfl Yd Yd Yg rfl bCV<|Zj rfl<|Zae<|Zat<|Zap<|aX ?_;refine Zaa rfl<|Za rfl<|Zae ?_;exact aM 17 (k+1) Yd Yd ⟨Yb,(by show some (Value.int _ _)=some (Value.int _ _);congr 2;rw[Nat.pow_succ,←Nat.div_div_eq_div_mul];rfl),bCV⟩ rfl rfl Mm5 (aE)
 ·obtain rfl:k=4:=by omega
  refine aT<|Zaq<|Zaq<|Zau<|Zap<|aA<|Zy rfl J6 rfl Mm0 (by first|exact pK|(simp only[aN, *];exact pK))<|aV rfl rfl rfl rfl pK Ya Ya (bO.head) (kT (vW n)) bCV<|aH ?_;exact Zl [_] rfl ⟨⟨_,_,_,rfl,Mm0,Or.inr ⟨J6,(by first|exact pK|(simp only[aYU,aN, *];exact pK)),rfl⟩⟩,bCV⟩ (fun D hD=>rfl)
theorem U1(i:Nat)(s:ByteArray)(hi:i≤100000)(hs:s.size≤1000)(D:aC):Fn prog 121 #[qI (i:Int),.string s] D (fun _ v=>v=.agg (bc (Y6 i s.data.toList)).toArray):=by
 refine enter 11 func121 rfl rfl rfl rfl fun h0=>aA<|Zw rfl wN rfl (fun M=>aK<|P2 (cs:=[.int .u8 59,.int .u8 59,.int .u8 10]) rfl U255 gN VS rfl rfl rfl bCV<|Za rfl<|Za rfl<|Zc rfl (fun O G=>aGE i s hi hs _)<|Zc rfl (fun R I=>UH (lV i s.data.toList) (by have:=CE i s.data.toList;omega) _)<|jB (cs:=[.int .u8 59,.int .u8 59,.int .u8 10,.int .u8 ((wC (lV i s.data.toList) 3).toNat:Int),.int .u8 ((wC (lV i s.data.toList) 2).toNat:Int),.int .u8 ((wC (lV i s.data.toList) 1).toNat:Int),.int .u8 ((wC (lV i s.data.toList) 0).toNat:Int)]) rfl EZ wN rfl Yf rfl bCV<|aV rfl rfl rfl rfl tU Ya Ya (bO.head) (kT (Y6 i s.data.toList)) bCV<|aH ?_)
 exact Zl [_] rfl ⟨⟨_,_,_,rfl,Mm0,aXR ⟨HJ,(by first|exact tU|(simp only[aYU,aN, *];exact tU)),rfl⟩⟩,bCV⟩ (fun D hD=>rfl)
end L12
end Go.Fs
