/- Of the proof of BookWrites: BW18, BW19, BW20, BW21, Bytes, BW22. -/
import Derived.Test.YtelhnbcdablgoaaGreatDoorZBookWritesAK
import Derived.Lib.AppendStr
import Derived.Lib.UnsafeStr
import Derived.Lib.Builder
import Derived.Laws.Externs
namespace Go.Fs
open Go.Proofs
namespace L12
open C12
def zN(D:aA)(wb:Nat)(s:aN)(ν:aC):Prop:=∃pv cv hv lv mv bl bc yc yq ν1 ν2 ν3 ν4 ν5 ν6 ν7 ν8,ν=(wb,.cells (bO s pv cv hv lv mv bl bc yc yq).toArray 253 (0,0))::(ν8++(ν7++(ν6++(ν5++(ν4++(ν3++(ν2++ν1)))))))∧aDX D s pv cv hv lv mv bl bc yc yq ν1 ν2 ν3 ν4 ν5 ν6 ν7 ν8
def fF(P:Program)(f:FuncId)(k:Nat)(act:fN):Prop:=∀(wb:Nat) (s:aN) (nv:Value) (n:List Int) (ν:aC) (D:aA),Sl D RI 1 nv n→n.length=k→(∀x∈n,0≤x∧x≤999)→zN D wb s ν→xC s→
 iZ P f [.pointer (some ⟨wb,0,none⟩),nv] D ν (fun D' _ ν'=>∃s',act s n=.ok s'∧zN D' wb s' ν') (fun v=>∃c,act s n=.error c∧v=dS c)
theorem _root_.Go.Fs.iZ.frameE{P:Program}{f:FuncId}{args:List Value}{D:aA}{ν A B:aC}{post:aA→Value→aC→Prop}{pan:Value→Prop}(h:iZ P f args D ν post pan):iZ P f args D (A++ν++B) (fun D' v ν'=>∃ν0,post D' v ν0∧ν'=A++ν0++B) pan:=h.frame fun _ _ ν' _ hp=>⟨ν',hp,rfl⟩
theorem R3{l:List Int}(h:l.length=1):∃a,l=[a]:=by match l,h with| [a],_=>exact⟨a,rfl⟩
theorem DE{l:List Int}(h:l.length=2):∃a b,l=[a,b]:=by match l,h with| [a,b],_=>exact⟨a,b,rfl⟩
theorem aEI{l:List Int}(h:l.length=3):∃a b c,l=[a,b,c]:=by match l,h with| [a,b,c],_=>exact⟨a,b,c,rfl⟩
theorem aEW{l:List Int}(h:l.length=4):∃a b c d,l=[a,b,c,d]:=by match l,h with| [a,b,c,d],_=>exact⟨a,b,c,d,rfl⟩
theorem yD{e sz n:Nat}{cells:List Value}{v:Value}{ν:aC}(h:bN e sz v n cells ν):∃x c,v=.slice x n c:=by
 rcases h with⟨a,rfl,rfl,_,_⟩|⟨b,cap,junk,rfl,_,_,_⟩
 ·exact⟨a,0,rfl⟩
 ·exact⟨_,cap,rfl⟩
theorem EM:fF Tryz.prog 168 0 (yJ):=by
 rintro wb s nv n ν D hn hlen hr ⟨pv,cv,hv,lv,mv,bl,bc,yc,yq,ν1,ν2,ν3,ν4,ν5,ν6,ν7,ν8,rfl,hO⟩ hsm;obtain rfl:n=[]:=List.eq_nil_of_length_eq_zero hlen;refine iZ.reorder (ν:=[]++((wb,.cells (bO s pv cv hv lv mv bl bc yc yq).toArray 253 (0,0))::ν1)++(ν8++(ν7++(ν6++(ν5++(ν4++(ν3++(ν2)))))))) ((JR wb s pv cv hv lv mv bl bc yc yq nv ν1 D hO.pl hsm.pl).frameE) (aK fun _=>by simp only[aHA,aHF,aHJ,bO];omega) ?_ ?_
 ·rintro D' v ν' hle ⟨_,⟨hc,v1,νz,rfl,hacc⟩,rfl⟩;refine⟨(wb,.cells (bO s v1 cv hv lv mv bl bc yc yq).toArray 253 (0,0))::(ν8++(ν7++(ν6++(ν5++(ν4++(ν3++(ν2++(νz)))))))),(aK fun _=>by simp only[aHA,aHF,aHJ];omega),setRow s {s.row with places:=s.row.places++[2]},by unfold yJ;simp only[];repeat (first|rw[aGX Yd]|rw[aGQ Yd]),v1,cv,hv,lv,mv,bl,bc,yc,yq,νz,ν2,ν3,ν4,ν5,ν6,ν7,ν8,rfl,?_⟩
  exact⟨(by have hz:(s.row.places++[2]).length=s.row.places.length+1:=Ye;show bN _ _ _ (s.row.places++[2]).length _ _;rw[hz];exact hacc),hO.ct,hO.ht,hO.lev,hO.mks,hO.ln,hO.cn.up pR.up hle,hO.ch,hO.cl⟩
 ·rintro v ⟨h1,rfl⟩;exact⟨_,by unfold yJ;simp only[];repeat (first|rw[aGX Yd]|rw[aGQ Yd]),rfl⟩
theorem KG:fF Tryz.prog 169 2 (M8):=by
 rintro wb s nv n ν D hn hlen hr ⟨pv,cv,hv,lv,mv,bl,bc,yc,yq,ν1,ν2,ν3,ν4,ν5,ν6,ν7,ν8,rfl,hO⟩ hsm;obtain⟨a,b,rfl⟩:=DE hlen;have ha:0≤a:=(hr a Ye).1;refine iZ.reorder (ν:=[]++((wb,.cells (bO s pv cv hv lv mv bl bc yc yq).toArray 253 (0,0))::ν1)++(ν8++(ν7++(ν6++(ν5++(ν4++(ν3++(ν2)))))))) ((VE wb s pv cv hv lv mv bl bc yc yq nv a b ν1 D hn hO.pl hsm.pl ha).frameE) (aK fun _=>by simp only[aHA,aHF,aHJ,bO];omega) ?_ ?_
 ·rintro D' v ν' hle ⟨_,⟨hc,νz,rfl,hacc⟩,rfl⟩;refine⟨(wb,.cells (bO s pv cv hv lv mv bl bc yc yq).toArray 253 (0,0))::(ν8++(ν7++(ν6++(ν5++(ν4++(ν3++(ν2++(νz)))))))),(aK fun _=>by simp only[aHA,aHF,aHJ];omega),setRow s {s.row with places:=s.row.places.set a.toNat b},by unfold M8;simp only[];repeat (first|rw[aGX Yd]|rw[aGQ Yd]),pv,cv,hv,lv,mv,bl,bc,yc,yq,νz,ν2,ν3,ν4,ν5,ν6,ν7,ν8,rfl,?_⟩
  exact⟨(by have hz:(s.row.places.set a.toNat b).length=s.row.places.length:=Ye;show bN _ _ _ (s.row.places.set a.toNat b).length _ _;rw[hz];exact hacc),hO.ct,hO.ht,hO.lev,hO.mks,hO.ln,hO.cn.up pR.up hle,hO.ch,hO.cl⟩
 ·rintro v (⟨h1,rfl⟩|⟨h1,h2,rfl⟩)
  ·exact⟨_,by unfold M8;simp only[];repeat (first|rw[aGX Yd]|rw[aGQ Yd]),rfl⟩
  ·exact⟨_,by unfold M8;simp only[];repeat (first|rw[aGX Yd]|rw[aGQ Yd]),rfl⟩
theorem DD:fF Tryz.prog 170 2 (mB false):=by
 rintro wb s nv n ν D hn hlen hr ⟨pv,cv,hv,lv,mv,bl,bc,yc,yq,ν1,ν2,ν3,ν4,ν5,ν6,ν7,ν8,rfl,hO⟩ hsm;obtain⟨a,b,rfl⟩:=DE hlen;refine iZ.reorder (ν:=[]++((wb,.cells (bO s pv cv hv lv mv bl bc yc yq).toArray 253 (0,0))::ν2)++(ν8++(ν7++(ν6++(ν5++(ν4++(ν3++(ν1)))))))) ((LJ wb s pv cv hv lv mv bl bc yc yq nv a b ν2 D hn hO.ct hsm.ct (yD hO.pl)).frameE) (aK fun _=>by simp only[aHA,aHF,aHJ,bO];omega) ?_ ?_
 ·rintro D' v ν' hle ⟨_,⟨hc,v1,νz,rfl,hacc⟩,rfl⟩;refine⟨(wb,.cells (bO s pv v1 hv lv mv bl bc yc yq).toArray 253 (0,0))::(ν8++(ν7++(ν6++(ν5++(ν4++(ν3++(νz++(ν1)))))))),(aK fun _=>by simp only[aHA,aHF,aHJ];omega),setRow s {s.row with counts:=s.row.counts++[(⟨false,a,b⟩:C1.rO)]},by unfold mB;simp only[];repeat (first|rw[aGX Yd]|rw[aGQ Yd]),pv,v1,hv,lv,mv,bl,bc,yc,yq,ν1,νz,ν3,ν4,ν5,ν6,ν7,ν8,rfl,?_⟩
  exact⟨hO.pl,(by have hz:(s.row.counts++[(⟨false,a,b⟩:C1.rO)]).length=s.row.counts.length+1:=Ye;show bN _ _ _ (s.row.counts++[(⟨false,a,b⟩:C1.rO)]).length _ _;rw[hz];exact hacc),hO.ht,hO.lev,hO.mks,hO.ln,hO.cn.up pR.up hle,hO.ch,hO.cl⟩
 ·rintro v (⟨h1,rfl⟩|⟨h1,h2,rfl⟩)
  ·exact⟨_,by unfold mB;simp only[];repeat (first|rw[aGX Yd]|rw[aGQ Yd]),rfl⟩
  ·exact⟨_,by unfold mB;simp only[];repeat (first|rw[aGX Yd]|rw[aGQ Yd]),rfl⟩
theorem KE:fF Tryz.prog 171 2 (mB true):=by
 rintro wb s nv n ν D hn hlen hr ⟨pv,cv,hv,lv,mv,bl,bc,yc,yq,ν1,ν2,ν3,ν4,ν5,ν6,ν7,ν8,rfl,hO⟩ hsm;obtain⟨a,b,rfl⟩:=DE hlen;refine iZ.reorder (ν:=[]++((wb,.cells (bO s pv cv hv lv mv bl bc yc yq).toArray 253 (0,0))::ν2)++(ν8++(ν7++(ν6++(ν5++(ν4++(ν3++(ν1)))))))) ((PK wb s pv cv hv lv mv bl bc yc yq nv a b ν2 D hn hO.ct hsm.ct (yD hO.pl)).frameE) (aK fun _=>by simp only[aHA,aHF,aHJ,bO];omega) ?_ ?_
 ·rintro D' v ν' hle ⟨_,⟨hc,v1,νz,rfl,hacc⟩,rfl⟩;refine⟨(wb,.cells (bO s pv v1 hv lv mv bl bc yc yq).toArray 253 (0,0))::(ν8++(ν7++(ν6++(ν5++(ν4++(ν3++(νz++(ν1)))))))),(aK fun _=>by simp only[aHA,aHF,aHJ];omega),setRow s {s.row with counts:=s.row.counts++[(⟨true,a,b⟩:C1.rO)]},by unfold mB;simp only[];repeat (first|rw[aGX Yd]|rw[aGQ Yd]),pv,v1,hv,lv,mv,bl,bc,yc,yq,ν1,νz,ν3,ν4,ν5,ν6,ν7,ν8,rfl,?_⟩
  exact⟨hO.pl,(by have hz:(s.row.counts++[(⟨true,a,b⟩:C1.rO)]).length=s.row.counts.length+1:=Ye;show bN _ _ _ (s.row.counts++[(⟨true,a,b⟩:C1.rO)]).length _ _;rw[hz];exact hacc),hO.ht,hO.lev,hO.mks,hO.ln,hO.cn.up pR.up hle,hO.ch,hO.cl⟩
 ·rintro v (⟨h1,rfl⟩|⟨h1,h2,rfl⟩)
  ·exact⟨_,by unfold mB;simp only[];repeat (first|rw[aGX Yd]|rw[aGQ Yd]),rfl⟩
  ·exact⟨_,by unfold mB;simp only[];repeat (first|rw[aGX Yd]|rw[aGQ Yd]),rfl⟩
theorem l6:fF Tryz.prog 172 1 (pQ):=by
 rintro wb s nv n ν D hn hlen hr ⟨pv,cv,hv,lv,mv,bl,bc,yc,yq,ν1,ν2,ν3,ν4,ν5,ν6,ν7,ν8,rfl,hO⟩ hsm;obtain⟨a,rfl⟩:=R3 hlen;have ha:0≤a:=(hr a Ye).1;refine iZ.reorder (ν:=[]++((wb,.cells (bO s pv cv hv lv mv bl bc yc yq).toArray 253 (0,0))::ν2)++(ν8++(ν7++(ν6++(ν5++(ν4++(ν3++(ν1)))))))) ((y6 wb s pv cv hv lv mv bl bc yc yq nv a ν2 D hn hO.ct hsm.ct ha).frameE) (aK fun _=>by simp only[aHA,aHF,aHJ,bO];omega) ?_ ?_
 ·rintro D' v ν' hle ⟨_,⟨hc,v1,νz,rfl,hacc⟩,rfl⟩;refine⟨(wb,.cells (bO s pv v1 hv lv mv bl bc yc yq).toArray 253 (0,0))::(ν8++(ν7++(ν6++(ν5++(ν4++(ν3++(νz++(ν1)))))))),(aK fun _=>by simp only[aHA,aHF,aHJ];omega),setRow s {s.row with counts:=s.row.counts.eraseIdx a.toNat},by unfold pQ;simp only[];repeat (first|rw[aGX Yd]|rw[aGQ Yd]),pv,v1,hv,lv,mv,bl,bc,yc,yq,ν1,νz,ν3,ν4,ν5,ν6,ν7,ν8,rfl,?_⟩
  exact⟨hO.pl,(by have hz:(s.row.counts.eraseIdx a.toNat).length=s.row.counts.length-1:=(aKL Yd);show bN _ _ _ (s.row.counts.eraseIdx a.toNat).length _ _;rw[hz];exact hacc),hO.ht,hO.lev,hO.mks,hO.ln,hO.cn.up pR.up hle,hO.ch,hO.cl⟩
 ·rintro v ⟨h1,rfl⟩;exact⟨_,by unfold pQ;simp only[];repeat (first|rw[aGX Yd]|rw[aGQ Yd]),rfl⟩
theorem EK:fF Tryz.prog 173 1 (yN):=by
 rintro wb s nv n ν D hn hlen hr ⟨pv,cv,hv,lv,mv,bl,bc,yc,yq,ν1,ν2,ν3,ν4,ν5,ν6,ν7,ν8,rfl,hO⟩ hsm;obtain⟨a,rfl⟩:=R3 hlen;refine iZ.reorder (ν:=[]++[(wb,.cells (bO s pv cv hv lv mv bl bc yc yq).toArray 253 (0,0))]++(ν8++(ν7++(ν6++(ν5++(ν4++(ν3++(ν2++(ν1))))))))) ((KL wb s pv cv hv lv mv bl bc yc yq nv a D hn).frame (post':=fun D' v ν'=>a≤6∧ν'=[(wb,.cells [pv,cv,.int .i64 a,.int .i64 s.row.off,.int .i64 s.table.last,hv,.int .i64 s.table.step,lv,mv,.int .i64 s.book.chairs,.int .i64 s.book.coin,.int .i64 s.book.box,bl,bc,yc,.int .i64 s.yard.fit,yq].toArray 253 (0,0))]++(ν8++(ν7++(ν6++(ν5++(ν4++(ν3++(ν2++(ν1))))))))) (fun D' v ν' _ h=>⟨h.1,by rw[h.2];rfl⟩)) (aK fun _=>by simp only[aHA,aHF,aHJ,bO];omega) ?_ ?_
 ·rintro D' v ν' hle ⟨h1,rfl⟩;refine⟨_,.refl _,setRow s {s.row with wrong:=a},by unfold yN;simp only[];repeat (first|rw[aGX Yd]|rw[aGQ Yd]),pv,cv,hv,lv,mv,bl,bc,yc,yq,ν1,ν2,ν3,ν4,ν5,ν6,ν7,ν8,rfl,⟨hO.pl,hO.ct,hO.ht,hO.lev,hO.mks,hO.ln,hO.cn.up pR.up hle,hO.ch,hO.cl⟩⟩
 ·rintro v ⟨h1,rfl⟩;exact⟨_,by unfold yN;simp only[];repeat (first|rw[aGX Yd]|rw[aGQ Yd]),rfl⟩
theorem RK:fF Tryz.prog 174 1 (JI):=by
 rintro wb s nv n ν D hn hlen hr ⟨pv,cv,hv,lv,mv,bl,bc,yc,yq,ν1,ν2,ν3,ν4,ν5,ν6,ν7,ν8,rfl,hO⟩ hsm;obtain⟨a,rfl⟩:=R3 hlen;refine iZ.reorder (ν:=[]++[(wb,.cells (bO s pv cv hv lv mv bl bc yc yq).toArray 253 (0,0))]++(ν8++(ν7++(ν6++(ν5++(ν4++(ν3++(ν2++(ν1))))))))) ((YB wb s pv cv hv lv mv bl bc yc yq nv a D hn).frame (post':=fun D' v ν'=>a≤9∧ν'=[(wb,.cells [pv,cv,.int .i64 s.row.wrong,.int .i64 a,.int .i64 s.table.last,hv,.int .i64 s.table.step,lv,mv,.int .i64 s.book.chairs,.int .i64 s.book.coin,.int .i64 s.book.box,bl,bc,yc,.int .i64 s.yard.fit,yq].toArray 253 (0,0))]++(ν8++(ν7++(ν6++(ν5++(ν4++(ν3++(ν2++(ν1))))))))) (fun D' v ν' _ h=>⟨h.1,by rw[h.2];rfl⟩)) (aK fun _=>by simp only[aHA,aHF,aHJ,bO];omega) ?_ ?_
 ·rintro D' v ν' hle ⟨h1,rfl⟩;refine⟨_,.refl _,setRow s {s.row with off:=a},by unfold JI;simp only[];repeat (first|rw[aGX Yd]|rw[aGQ Yd]),pv,cv,hv,lv,mv,bl,bc,yc,yq,ν1,ν2,ν3,ν4,ν5,ν6,ν7,ν8,rfl,⟨hO.pl,hO.ct,hO.ht,hO.lev,hO.mks,hO.ln,hO.cn.up pR.up hle,hO.ch,hO.cl⟩⟩
 ·rintro v ⟨h1,rfl⟩;exact⟨_,by unfold JI;simp only[];repeat (first|rw[aGX Yd]|rw[aGQ Yd]),rfl⟩
theorem JB:fF Tryz.prog 175 3 (J4):=by
 rintro wb s nv n ν D hn hlen hr ⟨pv,cv,hv,lv,mv,bl,bc,yc,yq,ν1,ν2,ν3,ν4,ν5,ν6,ν7,ν8,rfl,hO⟩ hsm;obtain⟨a,b,c,rfl⟩:=aEI hlen;have ha:0≤a:=(hr a Ye).1;have hb:0≤b∧b≤1000:=by have:=hr b Ye;omega
 refine iZ.reorder (ν:=[]++((wb,.cells (bO s pv cv hv lv mv bl bc yc yq).toArray 253 (0,0))::ν3)++(ν8++(ν7++(ν6++(ν5++(ν4++(ν2++(ν1)))))))) ((PN wb s pv cv hv lv mv bl bc yc yq nv a b c ν3 D hn hO.ht hsm.ht ha hb).frameE) (aK fun _=>by simp only[aHA,aHF,aHJ,bO];omega) ?_ ?_
 ·rintro D' v ν' hle ⟨_,⟨hc,νz,rfl,hacc⟩,rfl⟩;refine⟨(wb,.cells (bO s pv cv hv lv mv bl bc yc yq).toArray 253 (0,0))::(ν8++(ν7++(ν6++(ν5++(ν4++(νz++(ν2++(ν1)))))))),(aK fun _=>by simp only[aHA,aHF,aHJ];omega),setTable s {s.table with heights:=s.table.heights.set a.toNat (b,c)},by unfold J4;simp only[];repeat (first|rw[aGX Yd]|rw[aGQ Yd]),pv,cv,hv,lv,mv,bl,bc,yc,yq,ν1,ν2,νz,ν4,ν5,ν6,ν7,ν8,rfl,?_⟩
  exact⟨hO.pl,hO.ct,(by have hz:(s.table.heights.set a.toNat (b,c)).length=s.table.heights.length:=Ye;show bN _ _ _ (s.table.heights.set a.toNat (b,c)).length _ _;rw[hz];exact hacc),hO.lev,hO.mks,hO.ln,hO.cn.up pR.up hle,hO.ch,hO.cl⟩
 ·rintro v (⟨h1,rfl⟩|⟨h1,h2,rfl⟩)
  ·exact⟨_,by unfold J4;simp only[];repeat (first|rw[aGX Yd]|rw[aGQ Yd]),rfl⟩
  ·exact⟨_,by unfold J4;simp only[];repeat (first|rw[aGX Yd]|rw[aGQ Yd]),rfl⟩
theorem MY:fF Tryz.prog 176 1 (U7):=by
 rintro wb s nv n ν D hn hlen hr ⟨pv,cv,hv,lv,mv,bl,bc,yc,yq,ν1,ν2,ν3,ν4,ν5,ν6,ν7,ν8,rfl,hO⟩ hsm;obtain⟨a,rfl⟩:=R3 hlen;refine iZ.reorder (ν:=[]++[(wb,.cells (bO s pv cv hv lv mv bl bc yc yq).toArray 253 (0,0))]++(ν8++(ν7++(ν6++(ν5++(ν4++(ν3++(ν2++(ν1))))))))) ((VQ wb s pv cv hv lv mv bl bc yc yq nv a D hn).frame (post':=fun D' v ν'=>a≤99∧ν'=[(wb,.cells [pv,cv,.int .i64 s.row.wrong,.int .i64 s.row.off,.int .i64 s.table.last,hv,.int .i64 a,lv,mv,.int .i64 s.book.chairs,.int .i64 s.book.coin,.int .i64 s.book.box,bl,bc,yc,.int .i64 s.yard.fit,yq].toArray 253 (0,0))]++(ν8++(ν7++(ν6++(ν5++(ν4++(ν3++(ν2++(ν1))))))))) (fun D' v ν' _ h=>⟨h.1,by rw[h.2];rfl⟩)) (aK fun _=>by simp only[aHA,aHF,aHJ,bO];omega) ?_ ?_
 ·rintro D' v ν' hle ⟨h1,rfl⟩;refine⟨_,.refl _,setTable s {s.table with step:=a},by unfold U7;simp only[];repeat (first|rw[aGX Yd]|rw[aGQ Yd]),pv,cv,hv,lv,mv,bl,bc,yc,yq,ν1,ν2,ν3,ν4,ν5,ν6,ν7,ν8,rfl,⟨hO.pl,hO.ct,hO.ht,hO.lev,hO.mks,hO.ln,hO.cn.up pR.up hle,hO.ch,hO.cl⟩⟩
 ·rintro v ⟨h1,rfl⟩;exact⟨_,by unfold U7;simp only[];repeat (first|rw[aGX Yd]|rw[aGQ Yd]),rfl⟩
theorem FS:fF Tryz.prog 177 1 (vL):=by
 rintro wb s nv n ν D hn hlen hr ⟨pv,cv,hv,lv,mv,bl,bc,yc,yq,ν1,ν2,ν3,ν4,ν5,ν6,ν7,ν8,rfl,hO⟩ hsm;obtain⟨a,rfl⟩:=R3 hlen;refine iZ.reorder (ν:=[]++((wb,.cells (bO s pv cv hv lv mv bl bc yc yq).toArray 253 (0,0))::ν4)++(ν8++(ν7++(ν6++(ν5++(ν3++(ν2++(ν1)))))))) ((KP wb s pv cv hv lv mv bl bc yc yq nv a ν4 D hn hO.lev hsm.lev).frameE) (aK fun _=>by simp only[aHA,aHF,aHJ,bO];omega) ?_ ?_
 ·rintro D' v ν' hle ⟨_,⟨hc,v1,νz,rfl,hacc⟩,rfl⟩;refine⟨(wb,.cells (bO s pv cv hv v1 mv bl bc yc yq).toArray 253 (0,0))::(ν8++(ν7++(ν6++(ν5++(νz++(ν3++(ν2++(ν1)))))))),(aK fun _=>by simp only[aHA,aHF,aHJ];omega),setTable s {s.table with levels:=s.table.levels++[a]},by unfold vL;simp only[];repeat (first|rw[aGX Yd]|rw[aGQ Yd]),pv,cv,hv,v1,mv,bl,bc,yc,yq,ν1,ν2,ν3,νz,ν5,ν6,ν7,ν8,rfl,?_⟩
  exact⟨hO.pl,hO.ct,hO.ht,(by have hz:(s.table.levels++[a]).length=s.table.levels.length+1:=Ye;show bN _ _ _ (s.table.levels++[a]).length _ _;rw[hz];exact hacc),hO.mks,hO.ln,hO.cn.up pR.up hle,hO.ch,hO.cl⟩
 ·rintro v (⟨h1,rfl⟩|⟨h1,h2,rfl⟩)
  ·exact⟨_,by unfold vL;simp only[];repeat (first|rw[aGX Yd]|rw[aGQ Yd]),rfl⟩
  ·exact⟨_,by unfold vL;simp only[];repeat (first|rw[aGX Yd]|rw[aGQ Yd]),rfl⟩
theorem EO:fF Tryz.prog 178 2 (vQ):=by
 rintro wb s nv n ν D hn hlen hr ⟨pv,cv,hv,lv,mv,bl,bc,yc,yq,ν1,ν2,ν3,ν4,ν5,ν6,ν7,ν8,rfl,hO⟩ hsm;obtain⟨a,b,rfl⟩:=DE hlen;have ha:0≤a:=(hr a Ye).1;refine iZ.reorder (ν:=[]++((wb,.cells (bO s pv cv hv lv mv bl bc yc yq).toArray 253 (0,0))::ν4)++(ν8++(ν7++(ν6++(ν5++(ν3++(ν2++(ν1)))))))) ((KU wb s pv cv hv lv mv bl bc yc yq nv a b ν4 D hn hO.lev hsm.lev ha).frameE) (aK fun _=>by simp only[aHA,aHF,aHJ,bO];omega) ?_ ?_
 ·rintro D' v ν' hle ⟨_,⟨hc,νz,rfl,hacc⟩,rfl⟩;refine⟨(wb,.cells (bO s pv cv hv lv mv bl bc yc yq).toArray 253 (0,0))::(ν8++(ν7++(ν6++(ν5++(νz++(ν3++(ν2++(ν1)))))))),(aK fun _=>by simp only[aHA,aHF,aHJ];omega),setTable s {s.table with levels:=s.table.levels.set a.toNat b},by unfold vQ;simp only[];repeat (first|rw[aGX Yd]|rw[aGQ Yd]),pv,cv,hv,lv,mv,bl,bc,yc,yq,ν1,ν2,ν3,νz,ν5,ν6,ν7,ν8,rfl,?_⟩
  exact⟨hO.pl,hO.ct,hO.ht,(by have hz:(s.table.levels.set a.toNat b).length=s.table.levels.length:=Ye;show bN _ _ _ (s.table.levels.set a.toNat b).length _ _;rw[hz];exact hacc),hO.mks,hO.ln,hO.cn.up pR.up hle,hO.ch,hO.cl⟩
 ·rintro v (⟨h1,rfl⟩|⟨h1,h2,rfl⟩)
  ·exact⟨_,by unfold vQ;simp only[];repeat (first|rw[aGX Yd]|rw[aGQ Yd]),rfl⟩
  ·exact⟨_,by unfold vQ;simp only[];repeat (first|rw[aGX Yd]|rw[aGQ Yd]),rfl⟩
theorem MK:fF Tryz.prog 179 4 (vT):=by
 rintro wb s nv n ν D hn hlen hr ⟨pv,cv,hv,lv,mv,bl,bc,yc,yq,ν1,ν2,ν3,ν4,ν5,ν6,ν7,ν8,rfl,hO⟩ hsm;obtain⟨a,b,c,d,rfl⟩:=aEW hlen;refine iZ.reorder (ν:=[]++((wb,.cells (bO s pv cv hv lv mv bl bc yc yq).toArray 253 (0,0))::ν5)++(ν8++(ν7++(ν6++(ν4++(ν3++(ν2++(ν1)))))))) ((TB wb s pv cv hv lv mv bl bc yc yq nv a b c d ν5 D hn hO.mks hsm.mks (yD hO.ht)).frameE) (aK fun _=>by simp only[aHA,aHF,aHJ,bO];omega) ?_ ?_
 ·rintro D' v ν' hle ⟨_,⟨hc,v1,νz,rfl,hacc⟩,rfl⟩;refine⟨(wb,.cells (bO s pv cv hv lv v1 bl bc yc yq).toArray 253 (0,0))::(ν8++(ν7++(ν6++(νz++(ν4++(ν3++(ν2++(ν1)))))))),(aK fun _=>by simp only[aHA,aHF,aHJ];omega),setTable s {s.table with marks:=s.table.marks++[(⟨a,b,c,d⟩:C2.Mk)]},by unfold vT;simp only[];repeat (first|rw[aGX Yd]|rw[aGQ Yd]),pv,cv,hv,lv,v1,bl,bc,yc,yq,ν1,ν2,ν3,ν4,νz,ν6,ν7,ν8,rfl,?_⟩
  exact⟨hO.pl,hO.ct,hO.ht,hO.lev,(by have hz:(s.table.marks++[(⟨a,b,c,d⟩:C2.Mk)]).length=s.table.marks.length+1:=Ye;show bN _ _ _ (s.table.marks++[(⟨a,b,c,d⟩:C2.Mk)]).length _ _;rw[hz];exact hacc),hO.ln,hO.cn.up pR.up hle,hO.ch,hO.cl⟩
 ·rintro v (⟨h1,rfl⟩|⟨h1,h2,rfl⟩|⟨h1,h2,h3,rfl⟩|⟨h1,h2,h3,h4,rfl⟩)
  ·exact⟨_,by unfold vT;simp only[];repeat (first|rw[aGX Yd]|rw[aGQ Yd]),rfl⟩
  ·exact⟨_,by unfold vT;simp only[];repeat (first|rw[aGX Yd]|rw[aGQ Yd]),rfl⟩
  ·exact⟨_,by unfold vT;simp only[];repeat (first|rw[aGX Yd]|rw[aGQ Yd]),rfl⟩
  ·exact⟨_,by unfold vT;simp only[];repeat (first|rw[aGX Yd]|rw[aGQ Yd]),rfl⟩
theorem BM:fF Tryz.prog 180 1 (tU):=by
 rintro wb s nv n ν D hn hlen hr ⟨pv,cv,hv,lv,mv,bl,bc,yc,yq,ν1,ν2,ν3,ν4,ν5,ν6,ν7,ν8,rfl,hO⟩ hsm;obtain⟨a,rfl⟩:=R3 hlen;have ha:0≤a:=(hr a Ye).1;refine iZ.reorder (ν:=[]++((wb,.cells (bO s pv cv hv lv mv bl bc yc yq).toArray 253 (0,0))::ν5)++(ν8++(ν7++(ν6++(ν4++(ν3++(ν2++(ν1)))))))) ((DY wb s pv cv hv lv mv bl bc yc yq nv a ν5 D hn hO.mks hsm.mks ha).frameE) (aK fun _=>by simp only[aHA,aHF,aHJ,bO];omega) ?_ ?_
 ·rintro D' v ν' hle ⟨_,⟨hc,v1,νz,rfl,hacc⟩,rfl⟩;refine⟨(wb,.cells (bO s pv cv hv lv v1 bl bc yc yq).toArray 253 (0,0))::(ν8++(ν7++(ν6++(νz++(ν4++(ν3++(ν2++(ν1)))))))),(aK fun _=>by simp only[aHA,aHF,aHJ];omega),setTable s {s.table with marks:=s.table.marks.eraseIdx a.toNat},by unfold tU;simp only[];repeat (first|rw[aGX Yd]|rw[aGQ Yd]),pv,cv,hv,lv,v1,bl,bc,yc,yq,ν1,ν2,ν3,ν4,νz,ν6,ν7,ν8,rfl,?_⟩
  exact⟨hO.pl,hO.ct,hO.ht,hO.lev,(by have hz:(s.table.marks.eraseIdx a.toNat).length=s.table.marks.length-1:=(aKL Yd);show bN _ _ _ (s.table.marks.eraseIdx a.toNat).length _ _;rw[hz];exact hacc),hO.ln,hO.cn.up pR.up hle,hO.ch,hO.cl⟩
 ·rintro v ⟨h1,rfl⟩;exact⟨_,by unfold tU;simp only[];repeat (first|rw[aGX Yd]|rw[aGQ Yd]),rfl⟩
theorem LW:fF Tryz.prog 181 2 (mE 1):=by
 rintro wb s nv n ν D hn hlen hr ⟨pv,cv,hv,lv,mv,bl,bc,yc,yq,ν1,ν2,ν3,ν4,ν5,ν6,ν7,ν8,rfl,hO⟩ hsm;obtain⟨a,b,rfl⟩:=DE hlen;refine iZ.reorder (ν:=[]++((wb,.cells (bO s pv cv hv lv mv bl bc yc yq).toArray 253 (0,0))::ν6)++(ν8++(ν7++(ν5++(ν4++(ν3++(ν2++(ν1)))))))) ((OT wb s pv cv hv lv mv bl bc yc yq nv a b ν6 D hn hO.ln hsm.ln).frameE) (aK fun _=>by simp only[aHA,aHF,aHJ,bO];omega) ?_ ?_
 ·rintro D' v ν' hle ⟨_,⟨hc,v1,νz,rfl,hacc⟩,rfl⟩;refine⟨(wb,.cells (bO s pv cv hv lv mv v1 bc yc yq).toArray 253 (0,0))::(ν8++(ν7++(νz++(ν5++(ν4++(ν3++(ν2++(ν1)))))))),(aK fun _=>by simp only[aHA,aHF,aHJ];omega),setBook s {s.book with lines:=s.book.lines++[(⟨1,a,b⟩:C3.eZ)]},by unfold mE;simp only[];repeat (first|rw[aGX Yd]|rw[aGQ Yd]),pv,cv,hv,lv,mv,v1,bc,yc,yq,ν1,ν2,ν3,ν4,ν5,νz,ν7,ν8,rfl,?_⟩
  exact⟨hO.pl,hO.ct,hO.ht,hO.lev,hO.mks,(by have hz:(s.book.lines++[(⟨1,a,b⟩:C3.eZ)]).length=s.book.lines.length+1:=Ye;show bN _ _ _ (s.book.lines++[(⟨1,a,b⟩:C3.eZ)]).length _ _;rw[hz];exact hacc),hO.cn.up pR.up hle,hO.ch,hO.cl⟩
 ·rintro v (⟨h1,rfl⟩|⟨h1,h2,rfl⟩)
  ·exact⟨_,by unfold mE;simp only[];repeat (first|rw[aGX Yd]|rw[aGQ Yd]),rfl⟩
  ·exact⟨_,by unfold mE;simp only[];repeat (first|rw[aGX Yd]|rw[aGQ Yd]),rfl⟩
theorem FQ:fF Tryz.prog 182 2 (mE 2):=by
 rintro wb s nv n ν D hn hlen hr ⟨pv,cv,hv,lv,mv,bl,bc,yc,yq,ν1,ν2,ν3,ν4,ν5,ν6,ν7,ν8,rfl,hO⟩ hsm;obtain⟨a,b,rfl⟩:=DE hlen;refine iZ.reorder (ν:=[]++((wb,.cells (bO s pv cv hv lv mv bl bc yc yq).toArray 253 (0,0))::ν6)++(ν8++(ν7++(ν5++(ν4++(ν3++(ν2++(ν1)))))))) ((NL wb s pv cv hv lv mv bl bc yc yq nv a b ν6 D hn hO.ln hsm.ln).frameE) (aK fun _=>by simp only[aHA,aHF,aHJ,bO];omega) ?_ ?_
 ·rintro D' v ν' hle ⟨_,⟨hc,v1,νz,rfl,hacc⟩,rfl⟩;refine⟨(wb,.cells (bO s pv cv hv lv mv v1 bc yc yq).toArray 253 (0,0))::(ν8++(ν7++(νz++(ν5++(ν4++(ν3++(ν2++(ν1)))))))),(aK fun _=>by simp only[aHA,aHF,aHJ];omega),setBook s {s.book with lines:=s.book.lines++[(⟨2,a,b⟩:C3.eZ)]},by unfold mE;simp only[];repeat (first|rw[aGX Yd]|rw[aGQ Yd]),pv,cv,hv,lv,mv,v1,bc,yc,yq,ν1,ν2,ν3,ν4,ν5,νz,ν7,ν8,rfl,?_⟩
  exact⟨hO.pl,hO.ct,hO.ht,hO.lev,hO.mks,(by have hz:(s.book.lines++[(⟨2,a,b⟩:C3.eZ)]).length=s.book.lines.length+1:=Ye;show bN _ _ _ (s.book.lines++[(⟨2,a,b⟩:C3.eZ)]).length _ _;rw[hz];exact hacc),hO.cn.up pR.up hle,hO.ch,hO.cl⟩
 ·rintro v (⟨h1,rfl⟩|⟨h1,h2,rfl⟩)
  ·exact⟨_,by unfold mE;simp only[];repeat (first|rw[aGX Yd]|rw[aGQ Yd]),rfl⟩
  ·exact⟨_,by unfold mE;simp only[];repeat (first|rw[aGX Yd]|rw[aGQ Yd]),rfl⟩
theorem BZ:fF Tryz.prog 183 1 (qS):=by
 rintro wb s nv n ν D hn hlen hr ⟨pv,cv,hv,lv,mv,bl,bc,yc,yq,ν1,ν2,ν3,ν4,ν5,ν6,ν7,ν8,rfl,hO⟩ hsm;obtain⟨a,rfl⟩:=R3 hlen;have ha:0≤a:=(hr a Ye).1;refine iZ.reorder (ν:=[]++((wb,.cells (bO s pv cv hv lv mv bl bc yc yq).toArray 253 (0,0))::ν6)++(ν8++(ν7++(ν5++(ν4++(ν3++(ν2++(ν1)))))))) ((DF wb s pv cv hv lv mv bl bc yc yq nv a ν6 D hn hO.ln hsm.ln ha).frameE) (aK fun _=>by simp only[aHA,aHF,aHJ,bO];omega) ?_ ?_
 ·rintro D' v ν' hle ⟨_,⟨x,hx,hc,νz,rfl,hacc⟩,rfl⟩;refine⟨(wb,.cells (bO s pv cv hv lv mv bl bc yc yq).toArray 253 (0,0))::(ν8++(ν7++(νz++(ν5++(ν4++(ν3++(ν2++(ν1)))))))),(aK fun _=>by simp only[aHA,aHF,aHJ];omega),setBook s {s.book with lines:=s.book.lines.set a.toNat {x with token:= -1}},by unfold qS;simp only[];rw[hx];simp only[];rw[aGQ hc],pv,cv,hv,lv,mv,bl,bc,yc,yq,ν1,ν2,ν3,ν4,ν5,νz,ν7,ν8,rfl,?_⟩
  exact⟨hO.pl,hO.ct,hO.ht,hO.lev,hO.mks,(by have hz:(s.book.lines.set a.toNat {x with token:= -1}).length=s.book.lines.length:=Ye;show bN _ _ _ (s.book.lines.set a.toNat {x with token:= -1}).length _ _;rw[hz];exact hacc),hO.cn.up pR.up hle,hO.ch,hO.cl⟩
 ·rintro v (⟨h1,rfl⟩|⟨x,hx,h1,rfl⟩)
  ·exact⟨_,by unfold qS;simp only[];rw[aJJ Yd],rfl⟩
  ·exact⟨_,by unfold qS;simp only[];rw[hx];exact aGX h1,rfl⟩
theorem x4:fF Tryz.prog 184 1 (tQ):=by
 rintro wb s nv n ν D hn hlen hr ⟨pv,cv,hv,lv,mv,bl,bc,yc,yq,ν1,ν2,ν3,ν4,ν5,ν6,ν7,ν8,rfl,hO⟩ hsm;obtain⟨a,rfl⟩:=R3 hlen;have ha:0≤a:=(hr a Ye).1;refine iZ.reorder (ν:=[]++((wb,.cells (bO s pv cv hv lv mv bl bc yc yq).toArray 253 (0,0))::ν6)++(ν8++(ν7++(ν5++(ν4++(ν3++(ν2++(ν1)))))))) ((CW wb s pv cv hv lv mv bl bc yc yq nv a ν6 D hn hO.ln hsm.ln ha).frameE) (aK fun _=>by simp only[aHA,aHF,aHJ,bO];omega) ?_ ?_
 ·rintro D' v ν' hle ⟨_,⟨hc,v1,νz,rfl,hacc⟩,rfl⟩;refine⟨(wb,.cells (bO s pv cv hv lv mv v1 bc yc yq).toArray 253 (0,0))::(ν8++(ν7++(νz++(ν5++(ν4++(ν3++(ν2++(ν1)))))))),(aK fun _=>by simp only[aHA,aHF,aHJ];omega),setBook s {s.book with lines:=s.book.lines.eraseIdx a.toNat},by unfold tQ;simp only[];repeat (first|rw[aGX Yd]|rw[aGQ Yd]),pv,cv,hv,lv,mv,v1,bc,yc,yq,ν1,ν2,ν3,ν4,ν5,νz,ν7,ν8,rfl,?_⟩
  exact⟨hO.pl,hO.ct,hO.ht,hO.lev,hO.mks,(by have hz:(s.book.lines.eraseIdx a.toNat).length=s.book.lines.length-1:=(aKL Yd);show bN _ _ _ (s.book.lines.eraseIdx a.toNat).length _ _;rw[hz];exact hacc),hO.cn.up pR.up hle,hO.ch,hO.cl⟩
 ·rintro v ⟨h1,rfl⟩;exact⟨_,by unfold tQ;simp only[];repeat (first|rw[aGX Yd]|rw[aGQ Yd]),rfl⟩
theorem AH:fF Tryz.prog 185 4 (qZ):=by
 rintro wb s nv n ν D hn hlen hr ⟨pv,cv,hv,lv,mv,bl,bc,yc,yq,ν1,ν2,ν3,ν4,ν5,ν6,ν7,ν8,rfl,hO⟩ hsm;obtain⟨a,b,c,d,rfl⟩:=aEW hlen;refine iZ.reorder (ν:=[]++((wb,.cells (bO s pv cv hv lv mv bl bc yc yq).toArray 253 (0,0))::ν7)++(ν8++(ν6++(ν5++(ν4++(ν3++(ν2++(ν1)))))))) ((DC wb s pv cv hv lv mv bl bc yc yq nv a b c d ν7 D hn hO.ch hsm.ch).frameE) (aK fun _=>by simp only[aHA,aHF,aHJ,bO];omega) ?_ ?_
 ·rintro D' v ν' hle ⟨_,⟨hc,v1,νz,rfl,hacc⟩,rfl⟩;refine⟨(wb,.cells (bO s pv cv hv lv mv bl bc v1 yq).toArray 253 (0,0))::(ν8++(νz++(ν6++(ν5++(ν4++(ν3++(ν2++(ν1)))))))),(aK fun _=>by simp only[aHA,aHF,aHJ];omega),setYard s {s.yard with chairs:=s.yard.chairs++[(⟨a,⟨b,c,d⟩⟩:C7.Ch)]},by unfold qZ;simp only[];repeat (first|rw[aGX Yd]|rw[aGQ Yd]),pv,cv,hv,lv,mv,bl,bc,v1,yq,ν1,ν2,ν3,ν4,ν5,ν6,νz,ν8,rfl,?_⟩
  exact⟨hO.pl,hO.ct,hO.ht,hO.lev,hO.mks,hO.ln,hO.cn.up pR.up hle,(by have hz:(s.yard.chairs++[(⟨a,⟨b,c,d⟩⟩:C7.Ch)]).length=s.yard.chairs.length+1:=Ye;show bN _ _ _ (s.yard.chairs++[(⟨a,⟨b,c,d⟩⟩:C7.Ch)]).length _ _;rw[hz];exact hacc),hO.cl⟩
 ·rintro v (⟨h1,rfl⟩|⟨h1,h2,rfl⟩)
  ·exact⟨_,by unfold qZ;simp only[];repeat (first|rw[aGX Yd]|rw[aGQ Yd]),rfl⟩
  ·exact⟨_,by unfold qZ;simp only[];repeat (first|rw[aGX Yd]|rw[aGQ Yd]),rfl⟩
theorem MG:fF Tryz.prog 186 3 (zI):=by
 rintro wb s nv n ν D hn hlen hr ⟨pv,cv,hv,lv,mv,bl,bc,yc,yq,ν1,ν2,ν3,ν4,ν5,ν6,ν7,ν8,rfl,hO⟩ hsm;obtain⟨a,b,c,rfl⟩:=aEI hlen;have ha:0≤a:=(hr a Ye).1;have hb:0≤b:=(hr b Ye).1;refine iZ.reorder (ν:=[]++((wb,.cells (bO s pv cv hv lv mv bl bc yc yq).toArray 253 (0,0))::ν7)++(ν8++(ν6++(ν5++(ν4++(ν3++(ν2++(ν1)))))))) ((QG wb s pv cv hv lv mv bl bc yc yq nv a b c ν7 D hn hO.ch hsm.ch ha hb).frameE) (aK fun _=>by simp only[aHA,aHF,aHJ,bO];omega) ?_ ?_
 ·rintro D' v ν' hle ⟨_,⟨x,hx,hc,νz,rfl,hacc⟩,rfl⟩;refine⟨(wb,.cells (bO s pv cv hv lv mv bl bc yc yq).toArray 253 (0,0))::(ν8++(νz++(ν6++(ν5++(ν4++(ν3++(ν2++(ν1)))))))),(aK fun _=>by simp only[aHA,aHF,aHJ];omega),setYard s {s.yard with chairs:=s.yard.chairs.set a.toNat {x with parts:=ID x.parts b.toNat c}},by unfold zI;simp only[];rw[hx];simp only[];repeat (first|rw[aGX Yd]|rw[aGQ Yd]),pv,cv,hv,lv,mv,bl,bc,yc,yq,ν1,ν2,ν3,ν4,ν5,ν6,νz,ν8,rfl,?_⟩
  exact⟨hO.pl,hO.ct,hO.ht,hO.lev,hO.mks,hO.ln,hO.cn.up pR.up hle,(by have hz:(s.yard.chairs.set a.toNat {x with parts:=ID x.parts b.toNat c}).length=s.yard.chairs.length:=Ye;show bN _ _ _ (s.yard.chairs.set a.toNat {x with parts:=ID x.parts b.toNat c}).length _ _;rw[hz];exact hacc),hO.cl⟩
 ·rintro v (⟨h1,rfl⟩|⟨h1,h2,rfl⟩|⟨h1,h2,h3,rfl⟩)
  ·exact⟨_,by unfold zI;simp only[];rw[aJJ Yd],rfl⟩
  ·exact⟨_,by unfold zI;simp only[];rw[aGF Yd];exact aGX h2,rfl⟩
  ·exact⟨_,by unfold zI;simp only[];rw[aGF Yd];exact(aGQ Yd).trans (aGX h3),rfl⟩
theorem OZ:fF Tryz.prog 187 1 (JS):=by
 rintro wb s nv n ν D hn hlen hr ⟨pv,cv,hv,lv,mv,bl,bc,yc,yq,ν1,ν2,ν3,ν4,ν5,ν6,ν7,ν8,rfl,hO⟩ hsm;obtain⟨a,rfl⟩:=R3 hlen;refine iZ.reorder (ν:=[]++[(wb,.cells (bO s pv cv hv lv mv bl bc yc yq).toArray 253 (0,0))]++(ν8++(ν7++(ν6++(ν5++(ν4++(ν3++(ν2++(ν1))))))))) ((YW wb s pv cv hv lv mv bl bc yc yq nv a D hn).frame (post':=fun D' v ν'=>a≤9∧ν'=[(wb,.cells [pv,cv,.int .i64 s.row.wrong,.int .i64 s.row.off,.int .i64 s.table.last,hv,.int .i64 s.table.step,lv,mv,.int .i64 s.book.chairs,.int .i64 s.book.coin,.int .i64 s.book.box,bl,bc,yc,.int .i64 a,yq].toArray 253 (0,0))]++(ν8++(ν7++(ν6++(ν5++(ν4++(ν3++(ν2++(ν1))))))))) (fun D' v ν' _ h=>⟨h.1,by rw[h.2];rfl⟩)) (aK fun _=>by simp only[aHA,aHF,aHJ,bO];omega) ?_ ?_
 ·rintro D' v ν' hle ⟨h1,rfl⟩;refine⟨_,.refl _,setYard s {s.yard with fit:=a},by unfold JS;simp only[];repeat (first|rw[aGX Yd]|rw[aGQ Yd]),pv,cv,hv,lv,mv,bl,bc,yc,yq,ν1,ν2,ν3,ν4,ν5,ν6,ν7,ν8,rfl,⟨hO.pl,hO.ct,hO.ht,hO.lev,hO.mks,hO.ln,hO.cn.up pR.up hle,hO.ch,hO.cl⟩⟩
 ·rintro v ⟨h1,rfl⟩;exact⟨_,by unfold JS;simp only[];repeat (first|rw[aGX Yd]|rw[aGQ Yd]),rfl⟩
theorem EB:fF Tryz.prog 188 2 (uZ):=by
 rintro wb s nv n ν D hn hlen hr ⟨pv,cv,hv,lv,mv,bl,bc,yc,yq,ν1,ν2,ν3,ν4,ν5,ν6,ν7,ν8,rfl,hO⟩ hsm;obtain⟨a,b,rfl⟩:=DE hlen;refine iZ.reorder (ν:=[]++((wb,.cells (bO s pv cv hv lv mv bl bc yc yq).toArray 253 (0,0))::ν8)++(ν7++(ν6++(ν5++(ν4++(ν3++(ν2++(ν1)))))))) ((JO wb s pv cv hv lv mv bl bc yc yq nv a b ν8 D hn hO.cl hsm.cl).frameE) (aK fun _=>by simp only[aHA,aHF,aHJ,bO];omega) ?_ ?_
 ·rintro D' v ν' hle ⟨_,⟨hc,v1,νz,rfl,hacc⟩,rfl⟩;refine⟨(wb,.cells (bO s pv cv hv lv mv bl bc yc v1).toArray 253 (0,0))::(νz++(ν7++(ν6++(ν5++(ν4++(ν3++(ν2++(ν1)))))))),(aK fun _=>by simp only[aHA,aHF,aHJ];omega),setYard s {s.yard with claims:=s.yard.claims++[(a,b)]},by unfold uZ;simp only[];repeat (first|rw[aGX Yd]|rw[aGQ Yd]),pv,cv,hv,lv,mv,bl,bc,yc,v1,ν1,ν2,ν3,ν4,ν5,ν6,ν7,νz,rfl,?_⟩
  exact⟨hO.pl,hO.ct,hO.ht,hO.lev,hO.mks,hO.ln,hO.cn.up pR.up hle,hO.ch,(by have hz:(s.yard.claims++[(a,b)]).length=s.yard.claims.length+1:=Ye;show bN _ _ _ (s.yard.claims++[(a,b)]).length _ _;rw[hz];exact hacc)⟩
 ·rintro v (⟨h1,rfl⟩|⟨h1,h2,rfl⟩)
  ·exact⟨_,by unfold uZ;simp only[];repeat (first|rw[aGX Yd]|rw[aGQ Yd]),rfl⟩
  ·exact⟨_,by unfold uZ;simp only[];repeat (first|rw[aGX Yd]|rw[aGQ Yd]),rfl⟩
theorem d7:fF Tryz.prog 189 1 (pP):=by
 rintro wb s nv n ν D hn hlen hr ⟨pv,cv,hv,lv,mv,bl,bc,yc,yq,ν1,ν2,ν3,ν4,ν5,ν6,ν7,ν8,rfl,hO⟩ hsm;obtain⟨a,rfl⟩:=R3 hlen;have ha:0≤a:=(hr a Ye).1;refine iZ.reorder (ν:=[]++((wb,.cells (bO s pv cv hv lv mv bl bc yc yq).toArray 253 (0,0))::ν8)++(ν7++(ν6++(ν5++(ν4++(ν3++(ν2++(ν1)))))))) ((BW wb s pv cv hv lv mv bl bc yc yq nv a ν8 D hn hO.cl hsm.cl ha).frameE) (aK fun _=>by simp only[aHA,aHF,aHJ,bO];omega) ?_ ?_
 ·rintro D' v ν' hle ⟨_,⟨hc,v1,νz,rfl,hacc⟩,rfl⟩;refine⟨(wb,.cells (bO s pv cv hv lv mv bl bc yc v1).toArray 253 (0,0))::(νz++(ν7++(ν6++(ν5++(ν4++(ν3++(ν2++(ν1)))))))),(aK fun _=>by simp only[aHA,aHF,aHJ];omega),setYard s {s.yard with claims:=s.yard.claims.eraseIdx a.toNat},by unfold pP;simp only[];repeat (first|rw[aGX Yd]|rw[aGQ Yd]),pv,cv,hv,lv,mv,bl,bc,yc,v1,ν1,ν2,ν3,ν4,ν5,ν6,ν7,νz,rfl,?_⟩
  exact⟨hO.pl,hO.ct,hO.ht,hO.lev,hO.mks,hO.ln,hO.cn.up pR.up hle,hO.ch,(by have hz:(s.yard.claims.eraseIdx a.toNat).length=s.yard.claims.length-1:=(aKL Yd);show bN _ _ _ (s.yard.claims.eraseIdx a.toNat).length _ _;rw[hz];exact hacc)⟩
 ·rintro v ⟨h1,rfl⟩;exact⟨_,by unfold pP;simp only[];repeat (first|rw[aGX Yd]|rw[aGQ Yd]),rfl⟩
end L12
end Go.Fs
namespace Go.Fs
open Go.Proofs
namespace L12
open C12
def xU(s:aN)(line:ByteArray):aN×Int:=match jV line with
 |none=>(s,4)
 |some (act,n)=>match act s n with
  |.error c=>(s,c)
  |.ok s'=>if eJ s'=0 then(s',0)else(s,eJ s')
theorem IF{s:aN}{line:ByteArray}(h:jV line=none):xU s line=(s,4):=by unfold xU;rw[h]
theorem aCY{s:aN}{line:ByteArray}{act:fN}{n:List Int}{c:Int}(h:jV line=some (act,n))(he:act s n=.error c):xU s line=(s,c):=by unfold xU;rw[h];simp only[];rw[he]
theorem aAX{s s2:aN}{line:ByteArray}{act:fN}{n:List Int}(h:jV line=some (act,n))(he:act s n=.ok s2)(hs:eJ s2≠0):xU s line=(s,eJ s2):=by unfold xU;rw[h];simp only[];rw[he];exact aGQ hs
theorem ZV{s s2:aN}{line:ByteArray}{act:fN}{n:List Int}(h:jV line=some (act,n))(he:act s n=.ok s2)(hs:eJ s2=0):xU s line=(s2,0):=by unfold xU;rw[h];simp only[];rw[he];exact aGX hs
theorem HE{s s2:aN}{line:ByteArray}{c:Int}{D:aA}{v:Value}(h:xU s line=(s2,c))(hs:gY D v s2):∃v1,Value.tuple #[v,.int .i64 c]=.tuple #[v1,.int .i64 (xU s line).2]∧gY D v1 (xU s line).1:=by rw[h];exact⟨v,rfl,hs⟩
theorem xI{s:aN}{line:ByteArray}{c:Int}{D:aA}{v:Value}(h:xU s line=(s,c))(hs:gY D v s):∃v1,Value.tuple #[v,.int .i64 c]=.tuple #[v1,.int .i64 (xU s line).2]∧gY D v1 (xU s line).1:=HE h hs
theorem _root_.Go.Fs.C12.jZ.small{s:aN}(h:jZ s):xC s:=⟨by have:=h.pl;omega,by have:=h.ct;omega,by have:=h.ht;omega,by have:=h.lev;omega,by have:=h.mks;omega,by have:=h.ln;omega,by have:=h.ch;omega,by have:=h.cl;omega⟩
theorem zN.up{D D':aA}{wb:Nat}{s:aN}{ν:aC}(h:zN D wb s ν)(hl:Le D D'):zN D' wb s ν:=by
 obtain⟨pv,cv,hv,lv,mv,bl,bc,yc,yq,ν1,ν2,ν3,ν4,ν5,ν6,ν7,ν8,h1,h2⟩:=h;exact⟨pv,cv,hv,lv,mv,bl,bc,yc,yq,ν1,ν2,ν3,ν4,ν5,ν6,ν7,ν8,h1,⟨h2.pl,h2.ct,h2.ht,h2.lev,h2.mks,h2.ln,h2.cn.up pR.up hl,h2.ch,h2.cl⟩⟩
theorem WE{D:aA}{wb:Nat}{s:aN}{ν:aC}(h:zN D wb s ν):∀p∈ν,cF p.2:=by
 obtain⟨pv,cv,hv,lv,mv,bl,bc,yc,yq,ν1,ν2,ν3,ν4,ν5,ν6,ν7,ν8,rfl,h2⟩:=h;intro p hp;simp only[aGB,aGP]at hp;rcases hp with rfl|hp|hp|hp|hp|hp|hp|hp|hp
 ·rfl
 ·exact jT h2.cl p hp
 ·exact jT h2.ch p hp
 ·exact jT h2.ln p hp
 ·exact jT h2.mks p hp
 ·exact jT h2.lev p hp
 ·exact jT h2.ht p hp
 ·exact jT h2.ct p hp
 ·exact jT h2.pl p hp
theorem kO{α:Type}{R:Rd α}{D:aA}{sz:Nat}{v:Value}{xs:List α}(h:Sl D R sz v xs):cell1 v=true:=by
 obtain⟨a,c,rfl⟩:=h.shape;rfl
theorem hU{D:aA}{s:aN}{pv cv hv lv mv bl bc yc yq:Value}(h:gK D s pv cv hv lv mv bl bc yc yq):∀u∈[pv,cv,.int .i64 s.row.wrong,.int .i64 s.row.off,.int .i64 s.table.last,hv,.int .i64 s.table.step,lv,mv,.int .i64 s.book.chairs,.int .i64 s.book.coin,.int .i64 s.book.box,bl,bc,yc,.int .i64 s.yard.fit,yq],cell1 u=true:=by
 intro u hu;simp only[aGB,GT,aIY]at hu;rcases hu with rfl|rfl|rfl|rfl|rfl|rfl|rfl|rfl|rfl|rfl|rfl|rfl|rfl|rfl|rfl|rfl|rfl<;>first|rfl|exact kO h.pl|exact kO h.ct|exact kO h.ht|exact kO h.lev|exact kO h.mks|exact kO h.ln|exact kO h.cn|exact kO h.ch|exact kO h.cl
section
variable{P:Program}{X:Cx}{Q:Exit→Act→World→Prop}{σ:bQ}{Ds:List aA}
theorem AZ{c:Code}{B ν:aC}{D0:aA}{wb:Nat}{s:aN}(h:zN D0 wb s ν)(hmods:X.mods=[])(hD0:D0∈Ds:=by simp)(hsm:xC s:=by assumption)
  (kk:∀D pv cv hv lv mv bl bc yc yq,(∀D₁∈Ds,Le D₁ D)→gK D s pv cv hv lv mv bl bc yc yq→WC P X Q c σ ((wb,.cells (bO s pv cv hv lv mv bl bc yc yq).toArray 253 (0,0))::B) (D::Ds)):WC P X Q c σ (ν++B) Ds:=by
 obtain⟨pv,cv,hv,lv,mv,bl,bc,yc,yq,ν1,ν2,ν3,ν4,ν5,ν6,ν7,ν8,rfl,hO⟩:=h;intro a w hh;obtain⟨E8,k8,F8,h8⟩:=(hh.boxesEq (μ':=[(wb,.cells (bO s pv cv hv lv mv bl bc yc yq).toArray 253 (0,0))]++ν8++(ν7++(ν6++(ν5++(ν4++(ν3++(ν2++(ν1++B)))))))) Ye).freeze hO.cl hmods;obtain⟨E7,k7,F7,h7⟩:=(h8.boxesEq (μ':=[(wb,.cells (bO s pv cv hv lv mv bl bc yc yq).toArray 253 (0,0))]++ν7++(ν6++(ν5++(ν4++(ν3++(ν2++(ν1++B))))))) Ye).freeze hO.ch hmods;obtain⟨E6,k6,F6,h6⟩:=(h7.boxesEq (μ':=[(wb,.cells (bO s pv cv hv lv mv bl bc yc yq).toArray 253 (0,0))]++ν6++(ν5++(ν4++(ν3++(ν2++(ν1++B)))))) Ye).freeze hO.ln hmods;obtain⟨E5,k5,F5,h5⟩:=(h6.boxesEq (μ':=[(wb,.cells (bO s pv cv hv lv mv bl bc yc yq).toArray 253 (0,0))]++ν5++(ν4++(ν3++(ν2++(ν1++B))))) Ye).freeze hO.mks hmods;obtain⟨E4,k4,F4,h4⟩:=(h5.boxesEq (μ':=[(wb,.cells (bO s pv cv hv lv mv bl bc yc yq).toArray 253 (0,0))]++ν4++(ν3++(ν2++(ν1++B)))) Ye).freeze hO.lev hmods;obtain⟨E3,k3,F3,h3⟩:=(h4.boxesEq (μ':=[(wb,.cells (bO s pv cv hv lv mv bl bc yc yq).toArray 253 (0,0))]++ν3++(ν2++(ν1++B))) Ye).freeze hO.ht hmods;obtain⟨E2,k2,F2,h2⟩:=(h3.boxesEq (μ':=[(wb,.cells (bO s pv cv hv lv mv bl bc yc yq).toArray 253 (0,0))]++ν2++(ν1++B)) Ye).freeze hO.ct hmods;obtain⟨E1,k1,F1,h1⟩:=(h2.boxesEq (μ':=[(wb,.cells (bO s pv cv hv lv mv bl bc yc yq).toArray 253 (0,0))]++ν1++B) Ye).freeze hO.pl hmods;refine kk E1 pv cv hv lv mv bl bc yc yq (fun D₁ hD₁=>k1 D₁ (by simp[hD₁])) ⟨kB (R:=RI) (n:=1) (f:=cI) (fun _ _=>rfl) (fun _=>rfl) F1 (by have:=hsm.pl;omega),(kB (R:=RC) (n:=3) (f:=cC) (fun _ _=>rfl) (fun _=>rfl) F2 (by have:=hsm.ct;omega)).up RC.up (k1 E2 Ye),(kB (R:=A1) (n:=2) (f:=cP) (fun _ _=>rfl) (fun _=>rfl) F3 (by have:=hsm.ht;omega)).up A1.up (k1 E3 Ye),(kB (R:=RI) (n:=1) (f:=cI) (fun _ _=>rfl) (fun _=>rfl) F4 (by have:=hsm.lev;omega)).up RI.up (k1 E4 Ye),(kB (R:=BJ) (n:=4) (f:=cM) (fun _ _=>rfl) (fun _=>rfl) F5 (by have:=hsm.mks;omega)).up BJ.up (k1 E5 Ye),
  (kB (R:=nX) (n:=3) (f:=cL) (fun _ _=>rfl) (fun _=>rfl) F6 (by have:=hsm.ln;omega)).up nX.up (k1 E6 Ye),hO.cn.up pR.up (k1 D0 (by simp[hD0])),(kB (R:=rC) (n:=4) (f:=cH) (fun _ _=>rfl) (fun _=>rfl) F7 (by have:=hsm.ch;omega)).up rC.up (k1 E7 Ye),(kB (R:=R2) (n:=2) (f:=cP) (fun _ _=>rfl) (fun _=>rfl) F8 (by have:=hsm.cl;omega)).up R2.up (k1 E8 Ye)⟩ a w ?_
 obtain⟨g1,g2,g3,Dx,g4,g5,g6⟩:=h1;exact⟨g1,g2,g3,Dx,g4,fun D hD=>by
  rcases aGB.1 hD with rfl|hD
  ·exact g5 _ aGL
  ·exact g5 D (by simp[hD]),g6⟩
end

def tD(b:ByteArray):Option Int:=yA b.data.toList
theorem FD(line:ByteArray):∃p0 ps,fV line=p0::ps:=by
 unfold fV;cases h:mC line.data.toList with
 |nil=>exact absurd h (YK _)
 |cons p ps=>exact⟨_,_,rfl⟩
theorem V1(line:ByteArray):(fV line).length≤line.size+1:=by unfold fV;rw[aHR];exact GI _
theorem RX{line p0 x:ByteArray}{ps:List ByteArray}{k:Nat}(h:fV line=p0::ps)(hx:ps[k]?= some x):x.size≤line.size:=by
 have hm:x∈fV line:=by rw[h];exact aGE _ (aGD hx)
 unfold fV at hm;obtain⟨p,hp,rfl⟩:=aGA.1 hm;exact ND hp
theorem BU:∀ps:List (List UInt8),(ps.map kY).mapM tD=ps.mapM yA
 | []=>rfl
 |p::ps=>by
  rw[aHB,aJZ,aJZ,BU ps];rfl
theorem yU{line p0:ByteArray}{ps:List ByteArray}(h:fV line=p0::ps):jV line=match nT.find? (fun x=>x.1==p0.data.toList)with
  |none=>none
  |some (_,k,act)=>if ps.length=k then(ps.mapM tD).map fun n=>(act,n)else none:=by
 unfold fV at h;unfold jV;cases hc:mC line.data.toList with
 |nil=>rw[hc]at h;cases h
 |cons p qs=>
  rw[hc]at h;simp only[aHB,aIP]at h;obtain⟨rfl,rfl⟩:=h;simp only[aHR];rw[BU];rfl
theorem L9{line p0:ByteArray}{ps:List ByteArray}{l:List UInt8}{k:Nat}{act:fN}{ns:List Int}(h:fV line=p0::ps)(hf:nT.find? (fun x=>x.1==p0.data.toList)=some (l,k,act))(hk:ps.length=k)(hn:ps.mapM tD=some ns):jV line=some (act,ns):=by
 rw[yU h,hf];simp only[];rw[aGX hk,hn];rfl
theorem X0:∀{ps:List ByteArray} {k:Nat} {x:ByteArray},ps[k]?= some x→tD x=none→ps.mapM tD=none
 | [],_,_,h,_=>by simp at h
 |p::ps,0,x,h,hx=>by
  obtain rfl:p=x:=by simpa using h
  rw[aJZ,hx];rfl
 |p::ps,k+1,x,h,hx=>by
  rw[aJZ,X0 (k:=k) Yal hx];cases tD p<;>rfl
theorem MW{line p0 x:ByteArray}{ps:List ByteArray}{k:Nat}(h:fV line=p0::ps)(hx:ps[k]?= some x)(hn:yA x.data.toList=none):jV line=none:=by
 rw[yU h,X0 hx hn];split
 ·rfl
 ·split<;>rfl
theorem LY{ps:List ByteArray}{x:ByteArray}{ns:List Int}{m:Int}(h:ps.mapM tD=some ns)(hx:tD x=some m):(ps++[x]).mapM tD=some (ns++[m]):=by
 induction ps generalizing ns with
 |nil=>
  obtain rfl:([]:List Int)=ns:=by simpa using h
  rw[aHI,aJZ,hx];rfl
 |cons p ps ih=>
  rw[aJZ]at h;cases hp:tD p with
  |none=>rw[hp]at h;cases h
  |some q=>
   cases hq:ps.mapM tD with
   |none=>rw[hp,hq]at h;cases h
   |some qs=>
    rw[hp,hq]at h;obtain rfl:q::qs=ns:=aHC h;rw[aIN,aJZ,hp,ih hq];rfl
theorem VU{ps:List ByteArray}{k:Nat}{x:ByteArray}{ns:List Int}{m:Int}(hx:ps[k]?= some x)(h:(ps.take k).mapM tD=some ns)(hm:yA x.data.toList=some m):(ps.take (k+1)).mapM tD=some (ns++[m]):=by
 rw[aGT,hx];exact LY h hm
theorem M7:∀{ps:List ByteArray} {ns:List Int},ps.mapM tD=some ns→∀x∈ns,0≤x∧x≤999
 | [],ns,h=>by
  obtain rfl:([]:List Int)=ns:=by simpa using h
  intro x hx;cases hx
 |p::ps,ns,h=>by
  rw[aJZ]at h;cases hp:tD p with
  |none=>rw[hp]at h;cases h
  |some q=>
   cases hq:ps.mapM tD with
   |none=>rw[hp,hq]at h;cases h
   |some qs=>
    rw[hp,hq]at h;obtain rfl:q::qs=ns:=aHC h;intro x hx;rcases aGB.1 hx with rfl|hx
    ·have:=DM hp;omega
    ·exact M7 hq x hx

def OK:List (ByteArray×Value)→List (List UInt8×Nat×fN)→Prop
 | [],[]=>True
 |(b,v)::T,(l,k,act)::L=>b.data.toList=l∧(∃f,v=.agg #[.int .i64 (k:Int),.func (.func f) #[] #[]]∧fF Go.Proofs.Tryz.prog f k act)∧OK T L
 |_,_=>False
theorem aDI:OK l5 nT:=⟨rfl,⟨_,rfl,EM⟩,⟨rfl,⟨_,rfl,KG⟩,⟨rfl,⟨_,rfl,DD⟩,⟨rfl,⟨_,rfl,KE⟩,⟨rfl,⟨_,rfl,l6⟩,⟨rfl,⟨_,rfl,EK⟩,⟨rfl,⟨_,rfl,RK⟩,⟨rfl,⟨_,rfl,JB⟩,⟨rfl,⟨_,rfl,MY⟩,⟨rfl,⟨_,rfl,FS⟩,⟨rfl,⟨_,rfl,EO⟩,⟨rfl,⟨_,rfl,MK⟩,⟨rfl,⟨_,rfl,BM⟩,⟨rfl,⟨_,rfl,LW⟩,⟨rfl,⟨_,rfl,FQ⟩,⟨rfl,⟨_,rfl,BZ⟩,⟨rfl,⟨_,rfl,x4⟩,⟨rfl,⟨_,rfl,AH⟩,⟨rfl,⟨_,rfl,MG⟩,⟨rfl,⟨_,rfl,OZ⟩,⟨rfl,⟨_,rfl,EB⟩,⟨rfl,⟨_,rfl,d7⟩,aLJ⟩⟩⟩⟩⟩⟩⟩⟩⟩⟩⟩⟩⟩⟩⟩⟩⟩⟩⟩⟩⟩⟩
theorem NT(a b:ByteArray):(a==b)=(b.data.toList==a.data.toList):=by
 rw[aJO];constructor
 ·intro h;rw[beq_toListBytes,ByteArray.toList_eq,ByteArray.toList_eq]at h;rw[eq_of_beq h];simp
 ·intro h;rw[beq_toListBytes,ByteArray.toList_eq,ByteArray.toList_eq,eq_of_beq h];simp
theorem x5(p:ByteArray):∀(T:List (ByteArray×Value)) (L:List (List UInt8×Nat×fN)) (i:Nat),OK T L→(xT p T i=none∧L.find? (fun x=>x.1==p.data.toList)=none)∨(∃(j k:Nat) (act:fN) (f:FuncId),xT p T i=some (j,.agg #[.int .i64 (k:Int),.func (.func f) #[] #[]])∧L.find? (fun x=>x.1==p.data.toList)=some (p.data.toList,k,act)∧fF Go.Proofs.Tryz.prog f k act)
 | [],[],_,_=>aGR ⟨rfl,rfl⟩
 | [],_::_,_,h=>h.elim
 |_::_,[],_,h=>h.elim
 |(b,v)::T,(l,k,act)::L,i,h=>by
  obtain⟨rfl,⟨f,rfl,hw⟩,hT⟩:=h;unfold xT;rw[List.find?_cons];rw[NT p b];cases hb:b.data.toList==p.data.toList with
  |true=>
   refine aGH ⟨i,k,act,f,by rw[aGX rfl],?_,hw⟩;simp only[];rw[eq_of_beq hb]
  |false=>
   rw[aGQ Ye];exact x5 p T L (i+1) hT
theorem KV(p:ByteArray):∃(k:Nat) (c:Value) (b:Bool),QT p l5 (.agg #[.int .i64 0,.nilFunc])=.agg #[.int .i64 (k:Int),c]∧(xT p l5 0).isSome=b∧(b=true→∃act f,nT.find? (fun x=>x.1==p.data.toList)=some (p.data.toList,k,act)∧c=.func (.func f) #[] #[]∧fF Go.Proofs.Tryz.prog f k act)∧(b=false→nT.find? (fun x=>x.1==p.data.toList)=none)∧cell1 c=true:=by
 unfold QT;rcases x5 p _ _ 0 aDI with⟨h1,h2⟩|⟨j,k,act,f,h1,h2,h3⟩
 ·rw[h1];exact⟨0,.nilFunc,false,rfl,rfl,(fun h=>by cases h),fun _=>h2,rfl⟩
 ·rw[h1];exact⟨k,_,true,rfl,rfl,fun _=>⟨act,f,h2,rfl,h3⟩,(fun h=>by cases h),rfl⟩
theorem U1{p l:List UInt8}{k:Nat}{act:fN}{s s2:aN}{n:List Int}(h:nT.find? (fun x=>x.1==p)=some (l,k,act))(hk:jZ s)(ha:act s n=.ok s2):jZ s2:=DH _ (List.mem_of_find?_eq_some h) s n s2 hk ha
theorem DS{line p0:ByteArray}{ps:List ByteArray}{k:Nat}{c:Value}{b:Bool}(h:fV line=p0::ps)(hno:b=false→nT.find? (fun x=>x.1==p0.data.toList)=none)(hyes:b=true→∃act f,nT.find? (fun x=>x.1==p0.data.toList)=some (p0.data.toList,k,act)∧c=.func (.func f) #[] #[]∧fF Go.Proofs.Tryz.prog f k act)(hx:b=false∨¬((fV line).length:Int)-1=(k:Int)):jV line=none:=by
 rw[yU h];cases b with
 |false=>rw[hno rfl]
 |true=>
  obtain⟨act,f,hf,_,_⟩:=hyes rfl;rw[hf];simp only[];rw[aGQ];intro e;rcases hx with hx|hx
  ·cases hx
  ·refine hx ?_;rw[h,aGM];omega
theorem XM{line p0:ByteArray}{ps:List ByteArray}{k:Nat}{b:Bool}(h:fV line=p0::ps)(hf:([(!b||decide (((fV line).length:Int)-1≠(k:Int)))].any fun x=>true==x)=false):b=true∧ps.length=k:=by
 have h2:b=true∧((fV line).length:Int)-1=(k:Int):=by simpa using hf
 refine⟨h2.1,?_⟩;have:=h2.2;rw[h,aGM]at this;omega
theorem VZ(q1 q2 q3:Nat)(c2:List Value)(v3:Value)(D:aA):W6 Tryz.prog 110 [.pointer (some ⟨q1,0,none⟩),.pointer (some ⟨q2,0,none⟩),.pointer (some ⟨q3,0,none⟩)] D [(q3,.cells [v3].toArray 44 (0,0)),(q2,.cells c2.toArray 42 (0,0))] .returning .returning (fun _ ν'=>ν'=[(q3,.cells [v3].toArray 44 (0,0)),(q2,.cells c2.toArray 42 (0,0))]):=by
 refine SE (t:=6) (rv:=.nilIface) 15 Tryz.func110 rfl rfl rfl rfl rfl (fun c₀ cs hm=>aGH ⟨PB hm,rfl,rfl⟩) (fun h0 hwl hwn=>Zah<|C.s1<|EL rfl U20 rfl (Or.inl rfl) rfl trivial<|L.n1<|aQ rfl (fun hc1=>?_) (fun hc1=>?_))
 ·refine C.rg<|Zh rfl<|Zz<|Zak ?_;exact cZ (A:=[]) (ν':=[_,_]) (B:=[]) (vs:=[]) rfl rfl rfl aLJ (fun D' hD=>rfl)
 ·cases hc1
theorem B2(q1 q2 q3:Nat)(s:aN)(pv cv hv lv mv bl bc yc yq:Value)(code:Int)(D:aA)(hB:At D q1 0 (bO s pv cv hv lv mv bl bc yc yq))(hL:gK D s pv cv hv lv mv bl bc yc yq):W6 Tryz.prog 110 [.pointer (some ⟨q1,0,none⟩),.pointer (some ⟨q2,0,none⟩),.pointer (some ⟨q3,0,none⟩)] D [(q3,.cells [.int .i64 0].toArray 44 (0,0)),(q2,.cells [.slice none 0 0,.slice none 0 0,.int .i64 0,.int .i64 0,.int .i64 0,.slice none 0 0,.int .i64 0,.slice none 0 0,.slice none 0 0,.int .i64 0,.int .i64 0,.int .i64 0,.slice none 0 0,.slice none 0 0,.slice none 0 0,.int .i64 0,.slice none 0 0].toArray 42 (0,0))] (.panicking (kT (dS code))) (.panicking [{v:=dS code,recovered:=true}]) (fun _ ν'=>ν'=[(q3,.cells [.int .i64 code].toArray 44 (0,0)),(q2,.cells (bO s pv cv hv lv mv bl bc yc yq).toArray 42 (0,0))]):=by
 refine SE (t:=6) (rv:=(dS code)) 15 Tryz.func110 rfl rfl rfl rfl rfl (fun c₀ cs hm=>aGR (VF hm)) (fun h0 hwl hwn=>Zah<|C.s1<|EL rfl U20 rfl (Or.inr ⟨_,_,rfl⟩) rfl trivial<|L.n1<|aQ rfl (fun hc1=>?_) (fun hc1=>?_))
 ·cases hc1
 ·refine C.s1<|NG rfl U240 rfl rfl trivial<|Zaa rfl<|Zaa rfl<|L.n1<|aQ rfl (fun hc2=>?_) (fun hc2=>?_)
  ·refine C.s1<|Zw rfl Tf.z240 rfl (fun q4=>Zu rfl Tf.s240 (bL.head)<|L.n1<|iK hB Ye (fun hap=>rX (fun hnd=>?_)));have hn1:q1∉[q2]:=by simp[aC.ks]at hap ⊢;exact hap.2.2
   have hn2:q4∉[q2]:=by simp at hnd ⊢;exact hnd.1.2
   refine d9 [q2] 1 [0,1,2,3,4] [false,true,true,true,false] [(false,0),(true,1),(true,2),(true,3),(false,4)] Tf.follows (fun _ _ _ _ he h=>cT (P:=Tryz.prog) (fn:=Tryz.f110) _ _ _ _ he h) Yg rfl<|cO rfl Tf.a42 rfl hB Yc Tf.s42 Yj rfl trivial<|Zi rfl Tf.f240_0 rfl<|aS rfl Tf.a44 rfl (List.Mem.head _) rfl Yj rfl trivial<|nG rfl rfl rfl rfl Tf.s42 (.tail (.tail (bL.head))) Ye rfl (hU hL) (Or.inr Ye) trivial<|Zn rfl Tf.s44 (.tail (bL.head)) rfl<|Zz<|Zak ?_;exact cZ (A:=[_]) (ν':=[_,_]) (B:=[]) (vs:=[]) rfl rfl rfl aLJ (fun D' hD=>rfl)
  ·cases hc2
theorem aES(sv:Value)(s:aN)(line:ByteArray)(D:aA)(hs:gY D sv s)(hk0:jZ s)(hl:line.size≤1000)(hV:kC D):Fn Tryz.prog 58 #[sv,.string line] D (fun D' v=>∃v1,v=.tuple #[v1,.int .i64 (xU s line).2]∧gY D' v1 (xU s line).1):=by
 have hs0:=hs;obtain⟨pv,cv,hv,lv,mv,bl,bc,yc,yq,rfl,hL⟩:=hs;have hsm:=hk0.small;unfold bO;obtain⟨p0,ps,hcut⟩:=FD line;obtain⟨wk,wc,wis,hval,his,hyes,hno,hwc⟩:=KV p0;have hps:ps.length≤1001:=by have:=V1 line;rw[hcut]at this;simp only[aGM]at this;omega
 have hp0:(fV line)[0]?= some p0:=by rw[hcut];rfl
 have hcl:(fV line).length≤1001:=by have:=V1 line;omega
 refine aBR 75 Tryz.func58 rfl rfl rfl rfl fun h0=>C.s1<|Zv rfl (fun q1 E1 hE1 hB1=>Zw rfl Tf.z42 rfl (fun q2=>Zw rfl Tf.z44 rfl (fun q3=>L.n3<|bB rfl rfl rfl rfl trivial<|XQ (c1:=[]) (c2:=[.pointer (some ⟨q1,0,none⟩),.pointer (some ⟨q2,0,none⟩),.pointer (some ⟨q3,0,none⟩)]) rfl rfl rfl trivial<|L.n3<|Za rfl<|cB rfl rfl rfl (fun D1 hD1=>RN line hl _ (hV.up (hD1 _ Ye))) rfl aLJ (fun v1 D1 hD1 hp1=>?_))))
 obtain⟨pa,pc,rfl⟩:=hp1.shape;have hPS:=hp1;refine Zh rfl<|L.n2<|NO<|kK [] 5 [true,false,false,false,false,false,false,false,true,false,false] [.fork [1,2,3] 0 (.fin [4,5,6,7,8]) 8 (.fin [0,4,5,6,7]),.fin [9,10]] Tf.follows aBZ Yg<|C4 (γ:=Nat) (fun g=>True) (fun g=>[(24,.agg #[.int .i64 (wk:Int),wc]),(25,.bool wis),(7,.pointer (some ⟨g,0,none⟩)),(6,.slice pa (fV line).length pc),(4,.pointer (some ⟨q2,0,none⟩)),(5,.pointer (some ⟨q3,0,none⟩)),(2,.pointer (some ⟨q1,0,none⟩))]) (fun g=>[(g,.cells [.int .i64 0,.nilFunc].toArray 244 (0,0)),(q3,.cells [.int .i64 0].toArray 44 (0,0)),(q2,.cells [.slice none 0 0,.slice none 0 0,.int .i64 0,.int .i64 0,.int .i64 0,.slice none 0 0,.int .i64 0,.slice none 0 0,.slice none 0 0,.int .i64 0,.int .i64 0,.int .i64 0,.slice none 0 0,.slice none 0 0,.slice none 0 0,.int .i64 0,.slice none 0 0].toArray 42 (0,0))]) (fun g=>[D1,E1,D]) [.fork [1,2,3] 0 (.fin [4,5,6,7,8]) 8 (.fin [0,4,5,6,7])] [.fin [9,10]] rfl ?_ ?_
 ·refine nE<|bE [(false,1),(false,2),(false,3)] rfl<|Za rfl<|Zs rfl U22 Tf.s9 rfl hPS rfl hp0 (fun b1 o1 cs1 hr1 hcl1 hA1=>?_);obtain rfl:cs1=[.string _]:=hr1;refine Zf 0 rfl Tf.a9 rfl hA1 rfl<|Zz (cX true true rfl rfl ?_ ?_)
  ·refine eU rfl rfl rfl (fun D6 hD6=>AX _) rfl aLJ (fun wv D7 νm hD7 hm=>?_);obtain⟨bm,es,cl,rfl,rfl,hM⟩:=hm;refine Zz<|aP [(false,4),(false,5),(false,6),(false,7),(true,8)] rfl<|zL (b:=bm) rfl U246 U9 Tf.z244 rfl rfl (GE _) GT hM rfl aLJ ?_;rw[hval,his];refine Za rfl<|Zaa rfl<|Zaa rfl<|Zw rfl Tf.z244 rfl (fun q4=>Zz ?_);exact fun a w hh=>⟨q4,aLJ,hh.weak C.rs (.cons_cons _ (.cons _ (.cons_cons _ (.cons_cons _ (.refl _))))) (fun D hD=>⟨D,by simp only[aGB,GT,aIY]at hD ⊢;rcases hD with rfl|rfl|rfl|rfl<;>simp,Le.refl D⟩)⟩
  ·refine Zw rfl Tf.z244 rfl (fun q4=>Zz<|aP [(true,0),(false,4),(false,5),(false,6),(false,7)] rfl<|eU rfl rfl rfl (fun D6 hD6=>AX _) rfl aLJ (fun wv D7 νm hD7 hm=>?_));obtain⟨bm,es,cl,rfl,rfl,hM⟩:=hm;refine zL (b:=bm) rfl U246 U9 Tf.z244 rfl rfl (GE _) GT hM rfl aLJ ?_;rw[hval,his];refine Za rfl<|Zaa rfl<|Zaa rfl<|Zz ?_;exact fun a w hh=>⟨q4,aLJ,hh.weak C.rs (.cons _ (.cons_cons _ (.cons_cons _ (.cons_cons _ (.refl _))))) (fun D hD=>⟨D,by simp only[aGB,GT,aIY]at hD ⊢;rcases hD with rfl|rfl|rfl|rfl<;>simp,Le.refl D⟩)⟩
 rintro qx -;dsimp only;refine kW [(false,9),(false,10)] rfl<|bD rfl rfl rfl rfl Tf.s244 Ya Ya (bL.head) (by intro u hu;simp only[aGB,GT,aIY]at hu;rcases hu with rfl|rfl;rfl;exact hwc) trivial<|Zh rfl<|Zz<|kE<|WX<|C.s1<|Za rfl<|Zaf rfl<|Za rfl ?_
 refine' L.orK 7 (s:=28) (p:=35) rfl (fun hg1=>?_) (fun hg1=>?_) ?_;rotate_left
 ·refine Zb rfl<|aV rfl U22 rfl hPS rfl rfl ⟨_,rfl,rfl⟩<|fJ rfl rfl rfl Yf rfl ⟨_,rfl,rfl⟩<|Zj rfl Tf.f244_0 rfl<|aS rfl Tf.a3 rfl (List.Mem.head _) rfl GT rfl ⟨_,rfl,rfl⟩<|eI rfl rfl rfl rfl ⟨_,rfl,rfl⟩<|Zac rfl ?_;exact L.cu 6
 ·refine Zk rfl<|Zk rfl<|Zk rfl<|Zk rfl<|Zk rfl<|Zk rfl<|Zab rfl ?_;exact L.cu 6
 refine Zp rfl U327 Tf.s4 Tf.z4 rfl rfl rfl rfl (.cons rfl rfl .nil) (fun b901 D901 hD901 hA901=>Ze [] [(_,_),(_,_),(_,_)] [] rfl (aGR rfl) (fun p hp=>by cases hp) (fun D30 hD30=>dU 4 [(!wis||decide (((fV line).length:Int)-1≠(wk:Int)))] _ _ ((fA (l:=[(!wis||decide (((fV line).length:Int)-1≠(wk:Int)))]) (fun _ _ _ h=>h) hA901 Ye).up RB.up (hD30 _ Ye))) (fun v30 D31 hD30 hp30 a w hh=>?_) (fun v30 D31 ν30 hD30 hp30=>?_))
 ·obtain⟨hx30,rfl⟩:=hp30;exact b6 (X:=Cx.push ⟨none,75,[],h0,h0.size,D,[],none⟩ ⟨.fn (.func 110) [.pointer (some ⟨q1,0,none⟩),.pointer (some ⟨q2,0,none⟩),.pointer (some ⟨q3,0,none⟩)].toArray,[].toArray⟩) (P:=Tryz.prog) (fn:=Tryz.f58) (f:=110) (c1:=[]) (c2:=[.pointer (some ⟨q1,0,none⟩),.pointer (some ⟨q2,0,none⟩),.pointer (some ⟨q3,0,none⟩)]) (A:=[]) (ν:=[(q3,_),(q2,_)]) (B:=[]) (rs:=[.cell 4 42,.cell 5 44]) (by rfl) (by rfl) (fun p hp=>by simp only[aGB,GT,aIY]at hp;rcases hp with rfl|rfl<;>rfl) (fun D hD=>B2 q1 q2 q3 s pv cv hv lv mv bl bc yc yq _ D (hB1.up (hD _ Ye)) (hL.up (hD _ Ye))) rfl (fun D ν' hD hq=>by subst hq;exact⟨[_,_],⟨⟨_,_,_,rfl,.tail _ (.head _),aGH ⟨Tf.a42,Tf.s42,rfl⟩⟩,⟨_,_,_,rfl,.head _,aGR ⟨Tf.a44,rfl⟩⟩,aLJ⟩,xI (IF (DS hcut hno hyes (by simpa using hx30))) (hs0.up (hD _ Ye))⟩) a w (hh.subB (.cons _ (.refl _)))
 obtain⟨hf30,rfl⟩:=hp30;obtain⟨hwis,hlen⟩:=XM hcut hf30;obtain⟨act,wf,hfind,rfl,hword⟩:=hyes hwis;refine L.n3<|Zh rfl<|L.n4<|Za rfl<|tH (j:=1) rfl U22 Tf.s9 rfl hPS rfl (by rw[hcut];simp) rfl aLJ (fun ta hT=>?_)
 rw[hcut]at hT ⊢
 simp only[aKZ,aJU]at hT;rw[show(p0::ps).length-1=ps.length by simp]at hT ⊢
 refine aV rfl U22 rfl hT rfl rfl trivial<|Za rfl<|L.n1<|Zah<|cJ (γ:=Nat×Value×aC×List Int) (fun g=>ps.length-g.1) (fun g=>g.1≤ps.length∧(ps.take g.1).mapM tD=some g.2.2.2∧g.2.2.2.length=g.1∧bN 3 1 g.2.1 g.1 (ints g.2.2.2) g.2.2.1) (fun g=>[(41,.int .i64 (g.1:Int)),(9,g.2.1)]) [(40,_),(39,_),(7,_),(4,_),(5,_),(2,_)] (fun g=>g.2.2.1++[(qx,.cells [.int .i64 (wk:Int),.func (.func wf) #[] #[]].toArray 244 (0,0)),(q3,.cells [.int .i64 0].toArray 44 (0,0)),(q2,.cells [.slice none 0 0,.slice none 0 0,.int .i64 0,.int .i64 0,.int .i64 0,.slice none 0 0,.int .i64 0,.slice none 0 0,.slice none 0 0,.int .i64 0,.int .i64 0,.int .i64 0,.slice none 0 0,.slice none 0 0,.slice none 0 0,.int .i64 0,.slice none 0 0].toArray 42 (0,0))]) (fun g=>[D31,D901,D1,E1,D]) (0,.slice none 0 0,[],[]) ⟨by simp,rfl,rfl,by simpa [ints]using bN.nil⟩ ⟨Yb,Yb,aLJ⟩ C.rs (LT _) (aD) ?_;rintro⟨k,v,ν,ns⟩ ⟨h1,h2,h3,ha⟩;simp only at h1 h2 h3 ha;refine C.s1<|Zad rfl<|L.n2<|aE rfl (fun hc1=>?_) (fun hc1=>?_)
 ·simp only at hc1;have hk:k<ps.length:=by omega
  obtain⟨x,hx⟩:=C.ge ps k;have hsz:x.size≤1000:=aJB (RX hcut hx) hl;refine C.kn<|aL<|Zah<|C.s1<|Zs rfl U22 Tf.s9 rfl hT rfl hx (fun b2 o2 cs2 hr2 hcl2 hA2=>?_);obtain rfl:cs2=[.string _]:=hr2;refine Zf 0 rfl Tf.a9 rfl hA2 rfl<|Zh rfl<|L.n3<|Za rfl<|cB rfl rfl rfl (fun D2 hD2=>JE x hsz _ (hV.up (hD2 _ Ye))) rfl aLJ (fun v2 D2 hD2 hp2=>?_);obtain⟨m,nb,rfl,hm1,hm2⟩:=hp2;refine Za rfl<|Zaa rfl<|Zaa rfl<|Zh rfl<|Zh rfl<|L.n3<|Za rfl<|Zaf rfl<|Zp rfl U327 Tf.s4 Tf.z4 rfl rfl rfl rfl (.cons rfl rfl .nil) (fun b902 D902 hD902 hA902=>Ze [] _ [] rfl (aGR rfl) (fun p hp=>by cases hp) (fun D40 hD40=>dU 4 [!nb] _ _ ((fA (l:=[!nb]) (fun _ _ _ h=>h) hA902 Ye).up RB.up (hD40 _ Ye))) (fun v40 D41 hD40 hp40 a w hh=>?_) (fun v40 D41 ν40 hD40 hp40=>?_))
  ·obtain⟨hx40,rfl⟩:=hp40;exact b6 (X:=Cx.push ⟨none,75,[],h0,h0.size,D,[],none⟩ ⟨.fn (.func 110) [.pointer (some ⟨q1,0,none⟩),.pointer (some ⟨q2,0,none⟩),.pointer (some ⟨q3,0,none⟩)].toArray,[].toArray⟩) (P:=Tryz.prog) (fn:=Tryz.f58) (f:=110) (c1:=[]) (c2:=[.pointer (some ⟨q1,0,none⟩),.pointer (some ⟨q2,0,none⟩),.pointer (some ⟨q3,0,none⟩)]) (A:=[]) (ν:=[(q3,_),(q2,_)]) (B:=[]) (rs:=[.cell 4 42,.cell 5 44]) (by rfl) (by rfl) (fun p hp=>by simp only[aGB,GT,aIY]at hp;rcases hp with rfl|rfl<;>rfl) (fun D hD=>B2 q1 q2 q3 s pv cv hv lv mv bl bc yc yq _ D (hB1.up (hD _ Ye)) (hL.up (hD _ Ye))) rfl (fun D ν' hD hq=>by subst hq;exact⟨[_,_],⟨⟨_,_,_,rfl,.tail _ (.head _),aGH ⟨Tf.a42,Tf.s42,rfl⟩⟩,⟨_,_,_,rfl,.head _,aGR ⟨Tf.a44,rfl⟩⟩,aLJ⟩,xI (IF (MW hcut hx (hm2 (by simpa using hx40)))) (hs0.up (hD _ Ye))⟩) a w (hh.subB (.trans (.cons _ (.refl _)) (List.sublist_append_right _ _)))
  obtain⟨hf40,rfl⟩:=hp40;have hnb:=hm1 (by simpa using hf40);refine L.n1<|C.rg<|Za rfl<|Za rfl<|Zp rfl U25 Tf.s3 Tf.z3 rfl rfl rfl rfl (.cons rfl rfl .nil) (fun b903 D903 hD903 hA903=>?_);have hS903:=Sl.ofInts (l:=[_]) (n:=1) (cap:=1) hA903 rfl Yd Yd;refine bA (A:=[]) (B:=[(_,_),(_,_),(_,_)]) rfl U25 rfl rfl Tf.s3 Tf.z3 rfl Tf.i3 rfl rfl rfl ha (jL.lit hA903) Ye rfl (by simp[ints,h3]) Yi Yd (aGR rfl) rfl aLJ (fun v1 ν1 ha1=>?_);have ha2:bN 3 1 v1 (k+1) (ints (ns++[m])) ν1:=by rw[←eW];exact ha1
  refine Zh rfl<|Zz<|Zak<|Zag<|C.rg<|Zx rfl<|Za rfl<|Zz ?_;exact aH 24 (k+1,v1,ν1,ns++[m]) ⟨by simp only;omega,VU hx h2 hnb,by simp[h3],ha2⟩ Yn ⟨Yb,Yb,aLJ⟩ rfl rfl (LT _) (fun D h=>⟨D,LE _ (LE _ (LE _ (LE _ (h)))),Le.refl D⟩)
 ·obtain rfl:k=ps.length:=by simp only at hc1;omega
  rw[aHT]at h2;refine aR<|Zai<|Zai<|Zal<|Zag<|aL<|xG (A:=[]) (B:=[(_,_),(_,_),(_,_)]) ha rfl (fun D8 hD8 hF8=>?_);have hnS:=hF8.ints (l:=ns) h3 (by have:=hps;omega)
  refine C.rg<|Zr rfl Tf.a42 rfl hB1 Tf.s42<|eU rfl rfl rfl (fun D20 hD20=>B5 _ s _ (hs0.up (hD20 _ Ye)) hsm) rfl aLJ (fun wv D21 νW hD21 hw=>?_);obtain⟨wb,rfl,hO⟩:∃wb,wv=.pointer (some ⟨wb,0,none⟩)∧zN D21 wb s νW:=by
   obtain⟨wb,pv,cv,hv,lv,mv,bl,bc,yc,yq,ν1,ν2,ν3,ν4,ν5,ν6,ν7,ν8,h1,h2,h3⟩:=hw;exact⟨wb,h1,pv,cv,hv,lv,mv,bl,bc,yc,yq,ν1,ν2,ν3,ν4,ν5,ν6,ν7,ν8,h2,h3⟩
  refine Zh rfl<|L.n3<|Zi rfl Tf.f244_1 rfl<|Zl rfl Tf.a242 rfl (aFZ _ (List.Mem.head _)) rfl<|Za rfl<|Za rfl<|Ze [] [(_,_),(_,_),(_,_)] νW rfl (Or.inl rfl) (WE hO) (fun D50 hD50=>hword wb s _ ns νW _ (hnS.up RI.up (hD50 _ Ye)) Yd (M7 h2) (hO.up (hD50 _ Ye)) hsm) (fun v50 D51 hD50 hp50 a w hh=>?_) (fun v50 D51 ν50 hD50 hp50=>?_)
  ·obtain⟨c50,hx50,rfl⟩:=hp50;exact b6 (X:=Cx.push ⟨none,75,[],h0,h0.size,D,[],none⟩ ⟨.fn (.func 110) [.pointer (some ⟨q1,0,none⟩),.pointer (some ⟨q2,0,none⟩),.pointer (some ⟨q3,0,none⟩)].toArray,[].toArray⟩) (P:=Tryz.prog) (fn:=Tryz.f58) (f:=110) (c1:=[]) (c2:=[.pointer (some ⟨q1,0,none⟩),.pointer (some ⟨q2,0,none⟩),.pointer (some ⟨q3,0,none⟩)]) (A:=[]) (ν:=[(q3,_),(q2,_)]) (B:=[]) (rs:=[.cell 4 42,.cell 5 44]) (by rfl) (by rfl) (fun p hp=>by simp only[aGB,GT,aIY]at hp;rcases hp with rfl|rfl<;>rfl) (fun D hD=>B2 q1 q2 q3 s pv cv hv lv mv bl bc yc yq _ D (hB1.up (hD _ Ye)) (hL.up (hD _ Ye))) rfl (fun D ν' hD hq=>by subst hq;exact⟨[_,_],⟨⟨_,_,_,rfl,.tail _ (.head _),aGH ⟨Tf.a42,Tf.s42,rfl⟩⟩,⟨_,_,_,rfl,.head _,aGR ⟨Tf.a44,rfl⟩⟩,aLJ⟩,xI (aCY (L9 hcut hfind hlen h2) hx50) (hs0.up (hD _ Ye))⟩) a w (hh.subB (.cons _ (.refl _)))
  obtain⟨s2,hact,hO2⟩:=hp50;refine L.n2 ?_;have hsm2:xC s2:=(U1 hfind hk0 hact).small;refine AZ (B:=[(_,_),(_,_),(_,_)]) hO2 rfl Ye hsm2 (fun D9 pv2 cv2 hv2 lv2 mv2 bl2 bc2 yc2 yq2 hD9 hL2=>?_);unfold bO;refine C.rg<|Za rfl<|Zae rfl<|Zi rfl Tf.f253_0 rfl<|Zt rfl Tf.a42 rfl (List.Mem.head _) Tf.s42<|Ze [] [(_,_),(_,_),(_,_),(_,_)] [] rfl (Or.inl rfl) (fun p hp=>by cases hp) (fun D60 hD60=>TQ _ s2 _ ⟨pv2,cv2,hv2,lv2,mv2,bl2,bc2,yc2,yq2,rfl,hL2.up (hD60 _ Ye)⟩) (fun v60 D61 hD60 hp60 a w hh=>?_) (fun v60 D61 ν60 hD60 hp60=>?_)
  ·obtain⟨hx60,rfl⟩:=hp60;exact b6 (X:=Cx.push ⟨none,75,[],h0,h0.size,D,[],none⟩ ⟨.fn (.func 110) [.pointer (some ⟨q1,0,none⟩),.pointer (some ⟨q2,0,none⟩),.pointer (some ⟨q3,0,none⟩)].toArray,[].toArray⟩) (P:=Tryz.prog) (fn:=Tryz.f58) (f:=110) (c1:=[]) (c2:=[.pointer (some ⟨q1,0,none⟩),.pointer (some ⟨q2,0,none⟩),.pointer (some ⟨q3,0,none⟩)]) (A:=[]) (ν:=[(q3,_),(q2,_)]) (B:=[]) (rs:=[.cell 4 42,.cell 5 44]) (by rfl) (by rfl) (fun p hp=>by simp only[aGB,GT,aIY]at hp;rcases hp with rfl|rfl<;>rfl) (fun D hD=>B2 q1 q2 q3 s pv cv hv lv mv bl bc yc yq _ D (hB1.up (hD _ Ye)) (hL.up (hD _ Ye))) rfl (fun D ν' hD hq=>by subst hq;exact⟨[_,_],⟨⟨_,_,_,rfl,.tail _ (.head _),aGH ⟨Tf.a42,Tf.s42,rfl⟩⟩,⟨_,_,_,rfl,.head _,aGR ⟨Tf.a44,rfl⟩⟩,aLJ⟩,xI (aAX (L9 hcut hfind hlen h2) hact hx60) (hs0.up (hD _ Ye))⟩) a w (hh.subB (.cons _ (.cons _ (.refl _))))
  obtain⟨hf60,rfl⟩:=hp60;refine L.n3<|Za rfl<|Zae rfl<|Zi rfl Tf.f253_0 rfl<|Zt rfl Tf.a42 rfl (List.Mem.head _) Tf.s42<|bD rfl rfl rfl rfl Tf.s42 Ya Ya (.tail (.tail (.tail (bL.head)))) (hU hL2) trivial<|Zn rfl Tf.s44 (.tail (.tail (bL.head))) rfl<|L.n5<|aCT (X:=Cx.push ⟨none,75,[],h0,h0.size,D,[],none⟩ ⟨.fn (.func 110) [.pointer (some ⟨q1,0,none⟩),.pointer (some ⟨q2,0,none⟩),.pointer (some ⟨q3,0,none⟩)].toArray,[].toArray⟩) (P:=Tryz.prog) (fn:=Tryz.f58) (f:=110) (e:=.ret) (c1:=[]) (c2:=[.pointer (some ⟨q1,0,none⟩),.pointer (some ⟨q2,0,none⟩),.pointer (some ⟨q3,0,none⟩)]) (A:=[(_,_),(_,_)]) (ν:=[(q3,.cells [.int .i64 0].toArray 44 (0,0)),(q2,.cells (bO s2 pv2 cv2 hv2 lv2 mv2 bl2 bc2 yc2 yq2).toArray 42 (0,0))]) (B:=[]) (rs:=[.cell 4 42,.cell 5 44]) (by rfl) (by rfl) (by rfl) (fun p hp=>by simp only[aGB,GT,aIY]at hp;rcases hp with rfl|rfl<;>rfl) (fun D hD=>VZ q1 q2 q3 _ _ D) rfl ?_
  intro D ν' hD hq;subst hq;exact⟨[_,_],⟨⟨_,_,_,rfl,.tail _ (.tail _ (.tail _ (.head _))),aGH ⟨Tf.a42,Tf.s42,rfl⟩⟩,⟨_,_,_,rfl,.tail _ (.tail _ (.head _)),aGR ⟨Tf.a44,rfl⟩⟩,aLJ⟩,HE (ZV (L9 hcut hfind hlen h2) hact hf60) ⟨pv2,cv2,hv2,lv2,mv2,bl2,bc2,yc2,yq2,rfl,hL2.up (hD D9 Ye)⟩⟩
end L12
end Go.Fs
namespace Go.Fs
open Go.Proofs
namespace L12
open C12
def oM(ls:List ByteArray):aN×List Int:=ls.foldl (fun p l=>((xU p.1 l).1,p.2++[(xU p.1 l).2])) (j0,[])
theorem ED{ls:List ByteArray}{k:Nat}{x:ByteArray}(h:ls[k]?= some x):oM (ls.take (k+1))=((xU (oM (ls.take k)).1 x).1,(oM (ls.take k)).2++[(xU (oM (ls.take k)).1 x).2]):=by
 unfold oM;rw[aGT,h,aIG];rfl
theorem DA{line:ByteArray}{act:fN}{n:List Int}{s s2:aN}(h:jV line=some (act,n))(hk:jZ s)(ha:act s n=.ok s2):jZ s2:=by
 unfold jV at h;split at h
 ·cases h
 ·split at h
  ·cases h
  ·rename_i l k act' hf;split at h
   ·obtain⟨m,_,hm⟩:=aIZ.1 h;cases hm;exact U1 hf hk ha
   ·cases h
theorem UF{s:aN}(hk:jZ s)(line:ByteArray):jZ (xU s line).1:=by
 unfold xU;split
 ·exact hk
 ·rename_i act n h;split
  ·exact hk
  ·rename_i s' ha;split
   ·exact DA h hk ha
   ·exact hk
theorem K3:jZ j0:=⟨by decide,by decide,by decide,by decide,by decide,by decide,by decide,by decide,by decide⟩
theorem ZU{q:Nat}{o:Obj}{ν B:aC}(h:(aC.ks ((q,o)::(ν++B))).Nodup):∀p∈ν,p.1∉[q]:=by
 intro p hp hm;obtain rfl:p.1=q:=by simpa using hm
 exact(aHX.1 h).1 (aGA.2 ⟨p,aGI _ hp,rfl⟩)
structure aEX where
 (k:Nat) (s:aN) (es:List Int) (pv cv hv lv mv bl bc yc yq v:Value) (ν:aC) (Dn:aA)
theorem WB(lv:Value)(ls:List ByteArray)(D:aA)(hS:Sl D RS 1 lv ls)(hn:ls.length≤1000)(hsz:∀l∈ls,l.size≤1000)(hV:kC D):Fn Tryz.prog 31 #[lv] D (fun D' v=>∃v1 v2,v=.tuple #[v1,v2]∧gY D' v1 (oM ls).1∧Sl D' RI 1 v2 (oM ls).2):=by
 refine enter 31 Tryz.func31 rfl rfl rfl rfl fun h0=>C.s1<|Zw rfl Tf.z42 rfl (fun q1=>Zh rfl<|L.n3<|cB rfl rfl rfl (fun D1 hD1=>pA _) rfl aLJ (fun v1 D1 hD1 hp1=>?_))
 obtain⟨pv,cv,hv,lv2,mv,bl,bc,yc,yq,rfl,hL⟩:=hp1;unfold bO;refine Zw rfl Tf.z42 rfl (fun q2=>bD rfl rfl rfl rfl Tf.s42 Ya Ya (bL.head) (hU hL) trivial<|L.n3<|Zh rfl<|L.n4<|Za rfl<|aV rfl U22 rfl Yk rfl rfl trivial<|Za rfl<|L.n1<|Zah<|cJ (γ:=aEX) (fun g=>ls.length-g.k) (fun g=>g.k≤ls.length∧oM (ls.take g.k)=(g.s,g.es)∧g.es.length=g.k∧bN 44 1 g.v g.k (ints g.es) g.ν∧gK g.Dn g.s g.pv g.cv g.hv g.lv g.mv g.bl g.bc g.yc g.yq∧jZ g.s) (fun g=>[(13,.int .i64 (g.k:Int)),(5,g.v)]) [(12,_),(11,_),(4,_),(3,_),(2,_)] (fun g=>g.ν++[(q2,.cells (bO g.s g.pv g.cv g.hv g.lv g.mv g.bl g.bc g.yc g.yq).toArray 42 (0,0)),(q1,.cells [.slice none 0 0,.slice none 0 0,.int .i64 0,.int .i64 0,.int .i64 0,.slice none 0 0,.int .i64 0,.slice none 0 0,.slice none 0 0,.int .i64 0,.int .i64 0,.int .i64 0,.slice none 0 0,.slice none 0 0,.slice none 0 0,.int .i64 0,.slice none 0 0].toArray 42 (0,0))]) (fun g=>[g.Dn,D]) ⟨0,j0,[],pv,cv,hv,lv2,mv,bl,bc,yc,yq,.slice none 0 0,[],D1⟩ ⟨by simp,by simp[oM],rfl,by simpa [ints]using bN.nil,hL,K3⟩ ⟨Yb,Yb,aLJ⟩ C.rs (LT _) ((fun D0 h=>by simp only[aGB,GT,aIY]at h;rcases h with rfl|rfl<;>exact⟨_,by simp,Le.refl _⟩)) ?_)
 rintro⟨k,s,es,pv,cv,hv,lv,mv,bl,bc,yc,yq,v,ν,Dn⟩ ⟨h1,hp,h3,ha,hL,hk⟩;simp only at h1 hp h3 ha hL hk;refine C.s1<|Zad rfl<|L.n2<|aE rfl (fun hc1=>?_) (fun hc1=>?_)
 ·simp only at hc1;have hlt:k<ls.length:=by omega
  obtain⟨x,hx⟩:=C.ge ls k;refine C.kn<|aL<|Zah<|C.s1<|Zs rfl U22 Tf.s9 rfl (hS.up RS.up (Le.refl _)) rfl hx (fun b1 o1 cs1 hr1 hcl1 hA1=>?_);obtain rfl:cs1=[.string _]:=hr1;refine Zf 0 rfl Tf.a9 rfl hA1 rfl<|Zh rfl<|L.n3<|Zt rfl Tf.a42 rfl (aFZ _ (List.Mem.head _)) Tf.s42<|Za rfl<|cB rfl rfl rfl (fun D2 hD2=>aES _ s x _ ⟨pv,cv,hv,lv,mv,bl,bc,yc,yq,rfl,hL.up (hD2 _ Ye)⟩ hk (hsz x (aGD hx)) (hV.up (hD2 _ Ye))) rfl aLJ (fun v2 D2 hD2 hp2=>?_);obtain⟨w1,rfl,pv2,cv2,hv2,lv2,mv2,bl2,bc2,yc2,yq2,rfl,hL2⟩:=hp2;have hk2:=UF hk x;unfold bO;refine Za rfl<|Zaa rfl<|Zaa rfl<|Zw rfl Tf.z42 rfl (fun q3=>bD rfl rfl rfl rfl Tf.s42 Ya Ya (bL.head) (hU hL2) trivial<|Zh rfl<|L.n1<|rX (fun hnd=>?_));have hnu:∀p∈ν,p.1∉[q3]:=ZU hnd;have hq3:q3∉dN.mk [q3]:=dN.out Ye;refine C.drawA (dN.mk [q3]) 3 7 30 (fun _ _ _ h=>bZ (P:=Tryz.prog) (fn:=Tryz.f31) _ _ _ h)<|bK rfl Tf.a42 rfl (List.Mem.head _) Tf.s42 Yj rfl trivial<|Za rfl<|Za rfl<|Zp rfl U43 Tf.s44 Tf.z44 rfl rfl rfl rfl (.cons rfl rfl .nil) (fun b901 D901 hD901 hA901=>?_);have hS901:=Sl.ofInts (l:=[_]) (n:=1) (cap:=1) hA901 rfl Yd Yd;refine bA (A:=[(_,_)]) (B:=[(_,_),(_,_)]) rfl U43 rfl rfl Tf.s44 Tf.z44 rfl Tf.i44 rfl rfl rfl ha (jL.lit hA901) Ye rfl (by simp[ints,h3]) Yi Yd (aGH (fun p hp=>dN.in_ (hnu p hp))) rfl aLJ (fun v1 ν1 ha1=>?_);have ha2:bN 44 1 v1 (k+1) (ints (es++[(xU s x).2])) ν1:=by rw[←eW];exact ha1
  refine aF ((q3,_)::(ν1++[(q2,_),(q1,_)])) rfl<|bD rfl rfl rfl rfl Tf.s42 Ya Ya (.tail (.app (bL.head))) (hU hL2) trivial<|Zh rfl<|Zz<|Zak<|Zag<|C.rg<|Zx rfl<|Za rfl<|Zz ?_;exact aH 22 ⟨k+1,(xU s x).1,es++[(xU s x).2],pv2,cv2,hv2,lv2,mv2,bl2,bc2,yc2,yq2,v1,ν1,D2⟩ ⟨by simp only;omega,by simp only;rw[ED hx,hp],by simp[h3],ha2,hL2,hk2⟩ Yn ⟨Yb,Yb,aLJ⟩ rfl rfl (List.Sublist.cons _ (LT _)) ((fun D0 h=>by simp only[aGB,GT,aIY]at h;rcases h with rfl|rfl<;>exact⟨_,by simp,Le.refl _⟩))
 ·obtain rfl:k=ls.length:=by simp only at hc1;omega
  rw[aHT]at hp;refine aR<|Zai<|Zai<|Zal<|Zag<|C.s1<|Zt rfl Tf.a42 rfl (aFZ _ (List.Mem.head _)) Tf.s42<|Za rfl<|bD rfl rfl rfl rfl Tf.s42 Ya Ya (.app (.tail (bL.head))) (hU hL) trivial<|Zh rfl<|L.n5<|eF (A:=[]) (B:=[(_,_),(_,_)]) ha rfl (fun D9 hD9 hF9=>?_);have hes:=hF9.ints (l:=es) h3 Yd;exact Zm [_,_] rfl ⟨⟨_,_,_,rfl,LE _ (GE _),aGH ⟨Tf.a42,Tf.s42,rfl⟩⟩,rfl,aLJ⟩ (fun D hD=>⟨_,_,rfl,by rw[hp];exact⟨pv,cv,hv,lv,mv,bl,bc,yc,yq,rfl,hL.up (hD _ Ye)⟩,by rw[hp];exact hes.up RI.up (hD _ Ye)⟩)
end L12
end Go.Fs
namespace Go.Fs
open Go.Proofs
namespace L12
open C12
def QV:aN:=⟨{places:=[],counts:=[],wrong:=0,off:=0},{last:=0,heights:=[],step:=0,levels:=[],marks:=[]},{chairs:=0,coin:=0,box:=0,lines:=[],counts:=[]},{chairs:=[],fit:=0,claims:=[]}⟩
def aJ(ls:List ByteArray):aN×List Int×Int:=if eD ls=0 then((oM ls).1,(oM ls).2,0)else(QV,[],eD ls)
theorem mU{ls:List ByteArray}(h:eD ls=0):aJ ls=((oM ls).1,(oM ls).2,0):=aGX h
theorem pO{ls:List ByteArray}(h:eD ls≠0):aJ ls=(QV,[],eD ls):=aGQ h
theorem W3{ls:List ByteArray}(h:eD ls=0):ls.length≤40∧∀l∈ls,l.size≤50:=by
 unfold eD at h;split at h
 ·cases h
 ·rename_i h2;simp only[aIC,aGZ,aKH,not_or,Bool.not_eq_false,aGY]at h2;refine⟨by omega,fun l hl=>?_⟩;have:=h2.2 l hl;omega
theorem X7{ls:List ByteArray}(h:eD ls=0):ls.length≤40:=(W3 h).1
theorem N7{ls:List ByteArray}(h:eD ls=0):∀l∈ls,l.size≤50:=(W3 h).2
theorem ZC(D:aA):gY D (.agg #[.slice none 0 0,.slice none 0 0,.int .i64 0,.int .i64 0,.int .i64 0,.slice none 0 0,.int .i64 0,.slice none 0 0,.slice none 0 0,.int .i64 0,.int .i64 0,.int .i64 0,.slice none 0 0,.slice none 0 0,.slice none 0 0,.int .i64 0,.slice none 0 0]) QV:=⟨_,_,_,_,_,_,_,_,_,rfl,⟨Sl.nil,Sl.nil,Sl.nil,Sl.nil,Sl.nil,Sl.nil,Sl.nil,Sl.nil,Sl.nil⟩⟩
theorem H9(ls:List ByteArray):jZ (oM ls).1:=by
 have:∀(ls:List ByteArray) (p:aN×List Int),jZ p.1→jZ (ls.foldl (fun p l=>((xU p.1 l).1,p.2++[(xU p.1 l).2])) p).1:=by
  intro ls;induction ls with
  |nil=>exact fun p h=>h
  |cons l ls ih=>exact fun p h=>ih _ (UF h l)
 exact this ls _ K3
theorem p5(ls:List ByteArray)(h:(aJ ls).2.2=0):jZ (aJ ls).1:=by
 by_cases hf:eD ls=0
 ·rw[mU hf];exact H9 ls
 ·rw[pO hf]at h;exact absurd h hf
theorem P6(ls:List ByteArray):(aJ ls).1.row.places.length≤7:=by
 by_cases hf:eD ls=0
 ·rw[mU hf];exact(H9 ls).pl
 ·rw[pO hf];exact aKO _
theorem L0(ls:List ByteArray):(aJ ls).1.book.lines.length≤8:=by
 by_cases hf:eD ls=0
 ·rw[mU hf];exact(H9 ls).ln
 ·rw[pO hf];exact aKO _
def O5(ls:List ByteArray):(Int×Int)×Int:=if(aJ ls).2.2=0 then(if C3.sI (aJ ls).1.book (C1.fL ((aJ ls).1.book.lines.length:Int) 0 ((aJ ls).1.book.lines.length:Int))=0 then L3.u6 (fun s=>s.money) (aJ ls).1.book (((aJ ls).1.book.lines.length:Int)).toNat else(0,0),C3.sI (aJ ls).1.book (C1.fL ((aJ ls).1.book.lines.length:Int) 0 ((aJ ls).1.book.lines.length:Int)))else((0,0),(aJ ls).2.2)
def vX(ls:List ByteArray):(Int×Int)×Int:=if(aJ ls).2.2=0 then(if C1.dC (aJ ls).1.row (C1.nF (aJ ls).1.row 0 (((aJ ls).1.row.places.length:Int)-1))=0 then(C1.UJ (C1.truths (aJ ls).1.row) (0:Int).toNat (((aJ ls).1.row.places.length:Int)-1).toNat,C1.OG (C1.truths (aJ ls).1.row) (0:Int).toNat (((aJ ls).1.row.places.length:Int)-1).toNat)else(0,0),C1.dC (aJ ls).1.row (C1.nF (aJ ls).1.row 0 (((aJ ls).1.row.places.length:Int)-1)))else((0,0),(aJ ls).2.2)
theorem A8(lv:Value)(ls:List ByteArray)(D:aA)(hS:Sl D RS 1 lv ls)(hV:kC D):Fn Tryz.prog 9 #[lv] D (fun D' v=>∃v1 v2,v=.tuple #[v1,v2,.int .i64 (aJ ls).2.2]∧gY D' v1 (aJ ls).1∧Sl D' RI 1 v2 (aJ ls).2.1):=by
 refine enter 19 Tryz.func9 rfl rfl rfl rfl fun h0=>C.s1<|Zw rfl Tf.z42 rfl (fun q1=>Zh rfl<|Zh rfl<|L.n4<|Za rfl<|Zc rfl (fun D1 hD1=>qH _ ls _ (hS.up RS.up (hD1 _ Ye)))<|Zh rfl<|L.n3<|Za rfl<|eI rfl rfl rfl rfl aLJ ?_);refine L.n1<|aE rfl (fun hc1=>?_) (fun hc1=>?_)
 ·have hf:eD ls≠0:=by simpa using hc1
  refine C.s1<|gC (cs:=[.slice none 0 0,.slice none 0 0,.int .i64 0,.int .i64 0,.int .i64 0,.slice none 0 0,.int .i64 0,.slice none 0 0,.slice none 0 0,.int .i64 0,.int .i64 0,.int .i64 0,.slice none 0 0,.slice none 0 0,.slice none 0 0,.int .i64 0,.slice none 0 0]) rfl Tf.p42 Tf.z42 rfl Yg rfl trivial<|Za rfl<|bD rfl rfl rfl rfl Tf.s42 Ya Ya (bL.head) Yi trivial<|Zh rfl<|Zh rfl<|L.n5<|Zaj ?_;exact Zm [_,_,_] rfl ⟨⟨_,_,_,rfl,(List.Mem.head _),Or.inr ⟨Tf.a42,Tf.s42,rfl⟩⟩,rfl,rfl,aLJ⟩ (fun D hD=>⟨_,_,by rw[pO hf];rfl,by rw[pO hf];exact ZC D,by rw[pO hf];exact Sl.nil⟩)
 ·have hf:eD ls=0:=by simpa using hc1
  refine C.kn<|C.s1<|Za rfl<|cB rfl rfl rfl (fun D2 hD2=>WB _ ls _ (hS.up RS.up (hD2 _ Ye)) (by have:=X7 hf;omega) (fun l hl=>by have:=N7 hf l hl;omega) (hV.up (hD2 _ Ye))) rfl aLJ (fun v2 D2 hD2 hp2=>?_);obtain⟨w1,w2,rfl,⟨pv,cv,hv,lv,mv,bl,bc,yc,yq,rfl,hL⟩,hes⟩:=hp2;unfold bO;refine Za rfl<|Zaa rfl<|Zaa rfl<|bD rfl rfl rfl rfl Tf.s42 Ya Ya (bL.head) (hU hL) trivial<|Zh rfl<|L.n3<|Zt rfl Tf.a42 rfl (List.Mem.head _) Tf.s42<|Za rfl<|bD rfl rfl rfl rfl Tf.s42 Ya Ya (bL.head) (hU hL) trivial<|Zh rfl<|Zh rfl<|L.n5 ?_;exact Zm [_,_,_] rfl ⟨⟨_,_,_,rfl,(List.Mem.head _),Or.inr ⟨Tf.a42,Tf.s42,rfl⟩⟩,rfl,rfl,aLJ⟩ (fun D hD=>⟨_,_,by rw[mU hf]<;>rfl,by rw[mU hf];exact⟨pv,cv,hv,lv,mv,bl,bc,yc,yq,rfl,hL.up (hD _ Ye)⟩,by rw[mU hf];exact hes.up RI.up (hD _ Ye)⟩)
theorem H6(rv:Value)(r:C1.dF)(i j:Int)(D:aA)(hr:mJ D rv r):Fn Tryz.prog 44 #[rv,.int .i64 i,.int .i64 j] D (fun _ v=>v=.tuple #[iL (if C1.dC r (C1.nF r i j)=0 then(C1.UJ (C1.truths r) i.toNat j.toNat,C1.OG (C1.truths r) i.toNat j.toNat)else(0,0)),.int .i64 (C1.dC r (C1.nF r i j))]):=
 (L1.yE rv r i j D hr).mono fun D' v _ h=>by rw[h];split<;>rfl
theorem wF(lv:Value)(ls:List ByteArray)(D:aA)(hS:Sl D RS 1 lv ls)(hV:kC D):Fn Tryz.prog 22 #[lv] D (fun _ v=>v=.tuple #[iL (O5 ls).1,.int .i64 (O5 ls).2]):=by
 refine enter 26 Tryz.func22 rfl rfl rfl rfl fun h0=>C.s1<|Zw rfl Tf.z65 rfl (fun q1=>Zh rfl<|L.n3<|Za rfl<|cB rfl rfl rfl (fun D1 hD1=>A8 _ ls _ (hS.up RS.up (hD1 _ Ye)) (hV.up (hD1 _ Ye))) rfl aLJ (fun v1 D1 hD1 hp1=>?_))
 obtain⟨w1,w2,rfl,⟨pv,cv,hv,lv,mv,bl,bc,yc,yq,rfl,hL⟩,hes⟩:=hp1;unfold bO;have hst:(aJ ls).2.2=0→jZ (aJ ls).1:=p5 ls;have hpl7:(aJ ls).1.row.places.length≤7:=P6 ls;have hln8:(aJ ls).1.book.lines.length≤8:=L0 ls;refine Za rfl<|Zaa rfl<|Zaa rfl<|Zaa rfl<|Zw rfl Tf.z42 rfl (fun q2=>bD rfl rfl rfl rfl Tf.s42 Ya Ya (bL.head) (hU hL) trivial<|Zh rfl<|Zh rfl<|L.n4<|Za rfl<|eI rfl rfl rfl rfl trivial<|L.n1 ?_);refine aE rfl (fun hc1=>?_) (fun hc1=>?_)
 ·have hf:(aJ ls).2.2≠0:=by simpa using hc1
  refine C.s1<|Zq [.int .i64 0,.int .i64 0] rfl Tf.p65 Tf.z65 rfl rfl<|Za rfl<|bD rfl rfl rfl rfl Tf.s65 Ya Ya (.tail (bL.head)) Yi trivial<|Zh rfl<|L.n5<|Zaj ?_;exact Zm [_,_] rfl ⟨⟨_,_,_,rfl,(List.Mem.tail _ (List.Mem.head _)),Or.inr ⟨Tf.a65,Tf.s65,rfl⟩⟩,rfl,aLJ⟩ (fun D hD=>by unfold O5;rw[aGQ hf];rfl)
 ·have hf:(aJ ls).2.2=0:=by simpa using hc1
  refine C.kn<|C.s1<|Zi rfl Tf.f42_2 rfl<|dA rfl Tf.a36 Tf.s36 rfl (List.Mem.head _) rfl rfl GT rfl trivial<|Zi rfl Tf.f42_2 rfl<|Zi rfl Tf.f36_3 rfl<|Zl rfl Tf.a33 rfl (List.Mem.head _) rfl<|aV rfl U33 rfl (hL.ln.up nX.up (Le.refl _)) rfl rfl trivial<|Zc rfl (fun D2 hD2=>L3.wF _ (aJ ls).1.book ((aJ ls).1.book.lines.length:Int) _ (hL.book.up (hD2 _ Ye)))<|Zaa rfl<|Zaa rfl<|bD rfl rfl rfl rfl Tf.s65 Ya Ya (.tail (bL.head)) Yi aLJ ?_;refine Zh rfl<|L.n5 ?_;exact Zm [_,_] rfl ⟨⟨_,_,_,rfl,(List.Mem.tail _ (List.Mem.head _)),Or.inr ⟨Tf.a65,Tf.s65,rfl⟩⟩,rfl,aLJ⟩ (fun D hD=>by unfold O5;rw[aGX hf];rfl)
theorem yE(lv:Value)(ls:List ByteArray)(D:aA)(hS:Sl D RS 1 lv ls)(hV:kC D):Fn Tryz.prog 26 #[lv] D (fun _ v=>v=.tuple #[iL (vX ls).1,.int .i64 (vX ls).2]):=by
 refine enter 27 Tryz.func26 rfl rfl rfl rfl fun h0=>C.s1<|Zw rfl Tf.z88 rfl (fun q1=>Zh rfl<|L.n3<|Za rfl<|cB rfl rfl rfl (fun D1 hD1=>A8 _ ls _ (hS.up RS.up (hD1 _ Ye)) (hV.up (hD1 _ Ye))) rfl aLJ (fun v1 D1 hD1 hp1=>?_))
 obtain⟨w1,w2,rfl,⟨pv,cv,hv,lv,mv,bl,bc,yc,yq,rfl,hL⟩,hes⟩:=hp1;unfold bO;have hst:(aJ ls).2.2=0→jZ (aJ ls).1:=p5 ls;have hpl7:(aJ ls).1.row.places.length≤7:=P6 ls;have hln8:(aJ ls).1.book.lines.length≤8:=L0 ls;refine Za rfl<|Zaa rfl<|Zaa rfl<|Zaa rfl<|Zw rfl Tf.z42 rfl (fun q2=>bD rfl rfl rfl rfl Tf.s42 Ya Ya (bL.head) (hU hL) trivial<|Zh rfl<|Zh rfl<|L.n4<|Za rfl<|eI rfl rfl rfl rfl trivial<|L.n1 ?_);refine aE rfl (fun hc1=>?_) (fun hc1=>?_)
 ·have hf:(aJ ls).2.2≠0:=by simpa using hc1
  refine C.s1<|Zq [.int .i64 0,.int .i64 0] rfl Tf.p88 Tf.z88 rfl rfl<|Za rfl<|bD rfl rfl rfl rfl Tf.s88 Ya Ya (.tail (bL.head)) Yi trivial<|Zh rfl<|L.n5<|Zaj ?_;exact Zm [_,_] rfl ⟨⟨_,_,_,rfl,(List.Mem.tail _ (List.Mem.head _)),Or.inr ⟨Tf.a88,Tf.s88,rfl⟩⟩,rfl,aLJ⟩ (fun D hD=>by unfold vX;rw[aGQ hf];rfl)
 ·have hf:(aJ ls).2.2=0:=by simpa using hc1
  refine C.kn<|C.s1<|Zi rfl Tf.f42_0 rfl<|dA rfl Tf.a28 Tf.s28 rfl (List.Mem.head _) rfl rfl GT rfl trivial<|Zi rfl Tf.f42_0 rfl<|Zi rfl Tf.f28_0 rfl<|Zl rfl Tf.a25 rfl (List.Mem.head _) rfl<|aV rfl U25 rfl (hL.pl.up RI.up (Le.refl _)) rfl rfl trivial<|fJ rfl rfl rfl Yf rfl trivial<|Zc rfl (fun D2 hD2=>H6 _ (aJ ls).1.row 0 (((aJ ls).1.row.places.length:Int)-1) _ (hL.row.up (hD2 _ Ye)))<|Zaa rfl<|Zaa rfl ?_;refine bD rfl rfl rfl rfl Tf.s88 Ya Ya (.tail (bL.head)) Yi trivial<|Zh rfl<|L.n5 ?_;exact Zm [_,_] rfl ⟨⟨_,_,_,rfl,(List.Mem.tail _ (List.Mem.head _)),Or.inr ⟨Tf.a88,Tf.s88,rfl⟩⟩,rfl,aLJ⟩ (fun D hD=>by unfold vX;rw[aGX hf];rfl)
end L12
end Go.Fs
namespace Go.Fs
variable{P:Program}{X:Cx}{γb:Type}[Membership Nat γb]{bad:γb}{all:Array Oper}{K:Act→World→Prop}{Q:Exit→Act→World→Prop}
variable{σ:bQ}{μ:aC}{Ds:List aA}{os:List (Bool×Nat)}{fl:Bool}{ix:Nat}
variable{d:Nat}{x y z:Operand}{u v:Value}{ty:TypeId}{pos:String}{aft:Array Edge}{g:Option (Nat×Bool)}
section run
variable{t t1 e tr:TypeId}{sz:Nat}{z0:Value}{i0:TypeInfo}{ats:Array TypeId}
theorem qA(ht:P.underlying t=some (.slice e))(hat:ats[0]?= some t)(hat1:ats[1]?= some t1)(ht1:P.underlying t1=some .string)(hs:TS P e sz){w:World}{a:Option Addr}{n cap m:Nat}{xv:Value}{xs:List Value}
  (hm:(Builtin.lenOf xv).run P w=.ok m w) (hx:(Builtin.firstCells sz m xv).run P w=.ok xs.toArray w) (hle:n+m≤cap) {w':World}
  (hst:(match a with|some a=>storeCells (a.add (n*sz)) xs|none=>pure ():Sem Unit).run P w=.ok () w'):
  (Builtin.append_ ats tr #[.slice a n cap,xv]).run P w=.ok (.slice a (n+m) cap) w':=by
 have e1:(#[Value.slice a n cap,xv]:Array Value)[0]?= some (.slice a n cap):=rfl;have e2:(#[Value.slice a n cap,xv]:Array Value)[1]?= some xv:=rfl;unfold Builtin.append_;simp only[hat,hat1,e1,e2,Sem.run_bind,TU.of ht w,TU.of ht1 w,Result.andThen_ok,hs w,Sem.run_pure,aHL,aIL,hm,aKQ,aII,hle,hx];cases a with
 |none=>
  have:w'=w:=by
   have h:(pure ():Sem Unit).run P w=.ok () w':=hst;rw[Sem.run_pure]at h;cases h;rfl
  subst this;rfl
 |some a=>
  have h:(storeCells (a.add (n*sz)) xs).run P w=.ok () w':=hst;simp only[Sem.run_bind,h,Result.andThen_ok,Sem.run_pure]
theorem xQ(ht:P.underlying t=some (.slice e))(hat:ats[0]?= some t)(hat1:ats[1]?= some t1)(ht1:P.underlying t1=some .string)(hs:TS P e sz)(hz:TZ P e z0)(hi:P.info? e=some i0){w:World}{a:Option Addr}{n cap m:Nat}{xv:Value}{old xs:List Value}
  (hm:(Builtin.lenOf xv).run P w=.ok m w) (hx:∀w',w'.heap=w.heap→(Builtin.firstCells sz m xv).run P w'=.ok xs.toArray w') (ho:∀w',w'.heap=w.heap→(Builtin.firstCells sz n (.slice a n cap)).run P w'=.ok old.toArray w')
  (hgt:cap<n+m) (hlen:n+m≤10000000) (hb:1≤i0.bytes∧i0.bytes≤4096):
  ∃c,n+m≤c∧c≤9223372036854775807∧(Builtin.append_ ats tr #[.slice a n cap,xv]).run P w=.ok (.slice (some ⟨w.heap.size,0,none⟩) (n+m) c)
   {w with drawn:=w.drawn+1,heap:=w.heap.push (.cells (old.toArray++xs.toArray++Builtin.zeroCells z0.cells (c-(n+m))) e (0,0))}:=by
 have e1:(#[Value.slice a n cap,xv]:Array Value)[0]?= some (.slice a n cap):=rfl;have e2:(#[Value.slice a n cap,xv]:Array Value)[1]?= some xv:=rfl;have hti:∀w,(typeInfo e).run P w=.ok i0 w:=fun w=>by simp[typeInfo,program,Sem.run,hi,go_sem]
 have hcapn:=C5 hgt;have hbig:¬Builtin.nextslicecap (n+m) cap*i0.bytes>2^48:=by
  have:Builtin.nextslicecap (n+m) cap*i0.bytes≤(2*(n+m)+768)*4096:=Nat.mul_le_mul hcapn hb.2;omega
 have hch:(choose (.appendCap (n+m) cap e)).run P w=.ok ((n+m)+(w.tape w.drawn (.appendCap (n+m) cap e))%(2^63-(n+m))) {w with drawn:=w.drawn+1}:=by
  simp[choose,Sem.run,Question.forced,Question.cut]
 refine⟨(n+m)+(w.tape w.drawn (.appendCap (n+m) cap e))%(2^63-(n+m)),Nat.le_add_right _ _,by have:=Nat.mod_lt (w.tape w.drawn (.appendCap (n+m) cap e)) (show 0<2^63-(n+m) by omega);omega,?_⟩;unfold Builtin.append_;have hnot:¬(n+m≤cap):=by omega
 have hmax:¬(((n+m:Nat):Int)>IntKind.i64.max∧(false=true∨i0.bytes=0)):=by
  rintro⟨_,h|h⟩
  ·cases h
  ·omega
 simp only[hat,hat1,e1,e2,Sem.run_bind,TU.of ht w,TU.of ht1 w,Result.andThen_ok,hs w,Sem.run_pure,aHL,aIL,hm,aKQ,aII,hnot,hti];rw[aGQ (by rintro⟨_,h|h⟩;exact h.elim;omega)]
 simp only[Sem.run_bind,Result.andThen_ok,hti];rw[aGQ hbig];have hzz:∀w,(zeroValue e).run P w=.ok z0 w:=hz;simp only[Sem.run_bind,Sem.run_pure,Result.andThen_ok,hti,hch,rR,hzz,ho {w with drawn:=w.drawn+1} rfl,hx {w with drawn:=w.drawn+1} rfl,gZ]
end run
def LO(v:Value):Prop:=∀a n c,v=.slice a n c→c≤9223372036854775807
theorem A2{a:Option Addr}{n c:Nat}(h:c≤9223372036854775807):LO (.slice a n c):=fun _ _ _ e=>by cases e;exact h
theorem DL{A B ν:aC}{t t1 e tr:TypeId}{sz n m:Nat}{cells xs:List Value}{xv:Value}{z0:Value}{ats:Array TypeId}
  (ho:all[ix]?= some ⟨some d,.call {callee:=.builtin .append,args:=#[x,y],argTypes:=ats},tr,pos,aft,g⟩) (ht:P.underlying t=some (.slice e)) (hat:ats[0]?= some t) (hat1:ats[1]?= some t1) (ht1:P.underlying t1=some .string)
  (hs:TS P e sz) (hz:TZ P e z0) (hz1:Nat.beq z0.cells.size sz=true) (hi:(P.info? e).map (fun i=>Nat.ble 1 i.bytes&&Nat.ble i.bytes 4096)=some true) (hsz1:Nat.ble 1 sz=true)
  (hx:ev σ x=some v) (hy:ev σ y=some xv) (hacc:bN e sz v n cells ν) (hsrc:∀a w,Hl X σ (A++ν++B) Ds a w→(Builtin.lenOf xv).run P w=.ok m w∧∀w',w'.heap=w.heap→(Builtin.firstCells sz m xv).run P w'=.ok xs.toArray w') (hxl:xs.length=m*sz) (hcl:cells.length=n*sz) (hx1:∀u∈xs,cell1 u=true) (hlen:n+m≤10000000)
  (hfl:fl=false∨∀p∈ν,p.1∈bad) (hcapB:LO v)
  (hN:Nat.blt d X.N=true) (hg:cS all σ g)
  (kk:∀v' ν',bN e sz v' (n+m) (cells++xs) ν'→LO v'→WL P X bad all K Q os ((d,v')::σ) (A++ν'++B) Ds):WL P X bad all K Q ((fl,ix)::os) σ (A++ν++B) Ds:=by
 refine dI ho rfl rfl hg fun a w hh=>?_
 obtain⟨h1,h2,h3,D,h4,h5,h6⟩:=id hh;obtain⟨i0,hi,hb1,hb2⟩:∃i0,P.info? e=some i0∧1≤i0.bytes∧i0.bytes≤4096:=by
  cases h:P.info? e with
  |none=>simp[h]at hi
  |some i=>simp[h]at hi;exact⟨i,rfl,hi⟩
 have hsz:1≤sz:=aIE hsz1;have hz1':=aHQ hz1;have hex:(execOp a.eval ⟨some d,.call {callee:=.builtin .append,args:=#[x,y],argTypes:=ats},tr,pos,aft,g⟩).run P w=
   ((Builtin.append_ ats tr #[v,xv]).run P w).andThen fun r w'=>.ok (.value r) w':=by
  simp only[execOp,resolve,pure_bind,invoke,builtin];have e1:(#[x,y].map a.eval)=#[v,xv]:=by simp[hh.eval hx,hh.eval hy]
  rw[e1,Sem.run_bind];simp only[Sem.run_pure]
 rw[hex];obtain⟨hm,hfc⟩:=hsrc a w hh;have grow:∀(old:Option Addr) (cap:Nat),v=.slice old n cap→cap<n+m→(∀w',w'.heap=w.heap→(Builtin.firstCells sz n (.slice old n cap)).run P w'=.ok cells.toArray w')→
   Oper.uponIn (FW X.r) 0 P ⟨some d,.call {callee:=.builtin .append,args:=#[x,y],argTypes:=ats},tr,pos,aft,g⟩ a (fun a' w'=>(fl=true→jI bad w w')∧mH X.r bad P all K Q (eN all os) a' w') Q
    (((Builtin.append_ ats tr #[v,xv]).run P w).andThen fun r w'=>.ok (.value r) w'):=by
  intro old cap hv hgt hold;obtain⟨c,hc,hcB,hrun⟩:=xQ (tr:=tr) ht hat hat1 ht1 hs hz hi hm hfc hold hgt hlen ⟨hb1,hb2⟩;rw[hv,hrun];obtain⟨junk,hjunk⟩:∃junk:List Value,cells.toArray++xs.toArray++Builtin.zeroCells z0.cells (c-(n+m))=(cells++xs++junk).toArray∧(cells++xs++junk).length=c*sz:=by
   refine⟨(Builtin.zeroCells z0.cells (c-(n+m))).toList,by simp,?_⟩;have:=nK z0.cells (c-(n+m));simp only[aGC,Array.length_toList,this,hz1',hcl,hxl];rw[←aIW,←aIW];congr 1;omega
  have hpush:=h4.push (.cells (cells++xs++junk).toArray e (0,0)) rfl;simp only[Result.andThen_ok];rw[hjunk.1];refine⟨fun _=>⟨by simp,fun b hb _=>bU hb⟩,?_⟩;have hst:fI X.h0 X.lo X.D0 X.mods (A++[(w.heap.size,.cells (cells++xs++junk).toArray e (0,0))]++B) D {w with drawn:=w.drawn+1,heap:=w.heap.push (.cells (cells++xs++junk).toArray e (0,0))}:=by
   have h:=hpush.sub (μ':=A++[(w.heap.size,.cells (cells++xs++junk).toArray e (0,0))]++B) (fun p hp=>by
    simp only[aGP,aGB]at hp ⊢
    rcases hp with(hp|hp)|hp
    ·exact aGH (aGR (aGR hp))
    ·exact aGR (hp.resolve_right Ye)
    ·exact aGH (aGH hp)) (by
    have hn:=hpush.nd;simp only[aHB,aGS,aHX,aGP,not_or]at hn;obtain⟨⟨⟨ha,_⟩,hb⟩,hn⟩:=hn;rw[aGK,aGK]at hn;simp only[aGS,aHB,aKD];rw[aGK,aGK];refine⟨⟨hn.1.1,by simp,fun q hq r hr=>?_⟩,hn.2.1,fun q hq r hr=>?_⟩
    ·simp only[aGU]at hr;rintro rfl;exact ha (hr▸hq)
    ·simp only[aGP,aGU]at hq;rcases hq with hq|hq
     ·exact hn.2.2 q (aGI _ hq) r hr
     ·rintro rfl;exact hb (hq▸hr))
   exact⟨h.hlo,h.size,h.old,h.dold,h.agr,h.box,h.nd,h.fz,h.env⟩
  exact kk _ _ (aGH ⟨_,c,junk,rfl,hc,rfl,by simp[hcl,hxl,aIW],hjunk.2⟩) (A2 hcB) _ _ (Hl.put ⟨h1,h2,h3,D,hst,h5,h6.step (fun _ p hp=>by
   rcases aGP.1 hp with hp|hp
   ·rcases aGP.1 hp with hp|hp
    ·exact aGR (aGA.2 ⟨p,aGI _ (aGI _ hp),rfl⟩)
    ·exact aGH (by rw[aGU.1 hp];exact aGW _)
   ·exact aGR (aGA.2 ⟨p,aFZ _ hp,rfl⟩)) (fun _=>⟨by simp,fun b hb _=>⟨bU hb,rfl⟩,rfl⟩) hst.dom⟩ hN _)
 rcases hacc with⟨old,hv,hn,hc,hν⟩|⟨b,cap,junk,hv,hncap,hν,hl1,hl2⟩
 ·subst hn;subst hc;subst hν
  by_cases h0:m=0
  ·subst h0;have hxs:xs=[]:=aJF.1 (by simpa using hxl);subst hxs;rw[hv,qA (tr:=tr) (w':=w) ht hat hat1 ht1 hs hm (hfc w rfl) (aGW _) (by cases old<;>rfl)]
   refine⟨fun _=>jI.refl _ _,kk _ [] (aGR ⟨old,rfl,rfl,rfl,rfl⟩) (A2 Yag) _ _ (Hl.put hh hN _)⟩
  ·refine grow old 0 hv Yd fun w' _=>?_
   cases old with
   |none=>rfl
   |some a=>simp[Builtin.firstCells,loadCells,loadCellsFrom,Sem.run_pure]
 ·subst hν;have hbx:=(h4.box (b,.cells (cells++junk).toArray e (0,0)) Ye).1;by_cases hfit:n+m≤cap
  ·have hjl:xs.length≤junk.length:=by
    have h1:(n+m)*sz≤cap*sz:=aKR sz hfit;rw[←hl2,aIW,aGC,hcl]at h1;omega
   have hcl1:n*sz+0+xs.length≤(cells++junk).length:=by rw[aGC,hcl];omega
   obtain⟨w',hr,hw'⟩:=fU (P:=P) xs 0 w b (n*sz) (cells++junk) e hbx hcl1 hx1;have htk:(cells++junk).take (n*sz+0)++xs++(cells++junk).drop (n*sz+0+xs.length)=cells++xs++junk.drop xs.length:=by
    rw[←hcl,Nat.add_zero,aKP,aJY,aHO Yd];simp
   rw[htk]at hw';rw[hv,qA (tr:=tr) (w':=w') ht hat hat1 ht1 hs hm (hfc w rfl) hfit (by
    show(storeCells ((⟨b,0,none⟩:Addr).add (n*sz)) xs).run P w=_;rw[dW,aJA];exact hr)]
   have hHas:bL (A++[(b,.cells (cells++junk).toArray e (0,0))]++B) b (.cells (cells++junk).toArray e (0,0)) (.cells (cells++xs++junk.drop xs.length).toArray e (0,0)) (A++[(b,.cells (cells++xs++junk.drop xs.length).toArray e (0,0))]++B):=by
    rw[aGN A,aGN A];exact .app .head
   have hst:=h4.set hHas hw' rfl;refine⟨fun hf=>⟨by rw[hw'.1];simp,fun c hc hcb=>?_⟩,kk _ _ (aGH ⟨b,cap,junk.drop xs.length,rfl,hfit,rfl,by simp[hcl,hxl,aIW],?_⟩) (A2 (hcapB _ _ _ hv)) _ _ (Hl.put ⟨h1,h2,h3,D,hst,h5,h6.step (fun _ p hp=>aGR Yq) (fun _=>gF hw' (aGA.2 ⟨_,hHas.mem,rfl⟩)) hst.dom⟩ hN _)⟩
   ·have hb:b∈bad:=by
     rcases hfl with h|h
     ·rw[hf]at h;cases h
     ·exact h _ (aGU.2 rfl)
    rw[hw'.1,aIS (by rintro rfl;exact hcb hb)]
   ·rw[←hl2];simp;omega
  ·refine grow _ cap hv Yd fun w' hw'=>?_
   simp only[Builtin.firstCells];refine iD hcl fun j u hj=>kS (cs:=(cells++junk).toArray) (by rw[hw'];exact hbx) ?_
   have:=(aGJ.1 hj).1;simp only[List.getElem?_toArray,aJA];rw[aIU this];exact hj
def bc(l:List UInt8):List Value:=l.map fun b=>.int .u8 b.toNat
theorem iE(l:List UInt8):(bc l).length=l.length:=by simp[bc]
theorem mV(a b:List UInt8):bc (a++b)=bc a++bc b:=by simp[bc]
theorem hZ(l:List UInt8):∀u∈bc l,cell1 u=true:=by
 intro u hu;obtain⟨b,_,rfl⟩:=aGA.1 hu;rfl
theorem u0{A B ν:aC}{t t1 e tr:TypeId}{n:Nat}{cells:List Value}{s:ByteArray}{z0:Value}{ats:Array TypeId}
  (ho:all[ix]?= some ⟨some d,.call {callee:=.builtin .append,args:=#[x,y],argTypes:=ats},tr,pos,aft,g⟩) (ht:P.underlying t=some (.slice e)) (hat:ats[0]?= some t) (hat1:ats[1]?= some t1) (ht1:P.underlying t1=some .string)
  (hs:TS P e 1) (hz:TZ P e z0) (hz1:Nat.beq z0.cells.size 1=true) (hi:(P.info? e).map (fun i=>Nat.ble 1 i.bytes&&Nat.ble i.bytes 4096)=some true)
  (hx:ev σ x=some v) (hy:ev σ y=some (.string s)) (hacc:bN e 1 v n cells ν) (hcl:cells.length=n) (hlen:n+s.size≤10000000) (hfl:fl=false∨∀p∈ν,p.1∈bad) (hcapB:LO v) (hN:Nat.blt d X.N=true) (hg:cS all σ g)
  (kk:∀v' ν',bN e 1 v' (n+s.size) (cells++bc s.data.toList) ν'→LO v'→WL P X bad all K Q os ((d,v')::σ) (A++ν'++B) Ds):WL P X bad all K Q ((fl,ix)::os) σ (A++ν++B) Ds:=by
 refine DL (m:=s.size) (xs:=bc s.data.toList) ho ht hat hat1 ht1 hs hz hz1 hi rfl hx hy hacc (fun a w _=>⟨rfl,fun w' _=>?_⟩) (by rw[iE,aIR];rfl) Yd (hZ _) hlen hfl hcapB hN hg kk;exact Go.Lib.run_firstCells_string (P:=P) w' 1 s

theorem XE{t t' e:TypeId}{p:Option Addr}(ho:all[ix]?= some ⟨some d,.binOp .eql t x y t',ty,pos,aft,g⟩)(ht:P.underlying t=some (.pointer e))(hx:ev σ x=some (.pointer p))(hy:ev σ y=some (.pointer none))(hN:Nat.blt d X.N=true)(hg:cS all σ g)
  (kk:WL P X bad all K Q os ((d,.bool p.isNone)::σ) μ Ds):WL P X bad all K Q ((fl,ix)::os) σ μ Ds:=
 sX ho (fun w=>by
  have hgd:(eqGuard .eql t x y (.pointer p) (.pointer none)).run P w=.ok () w:=by
   simp only[eqGuard];simp[go_sem]
  have heq:(Op.equal t (.pointer p) (.pointer none)).run P w=.ok p.isNone w:=by
   show(Op.equalIn (9999+1) t (.pointer p) (.pointer none)).run P w=_;rw[Op.equalIn,Sem.run_bind,TU.of ht w];cases p<;>rfl
  rw[Sem.run_bind,hgd];show((do Pure.pure (Value.bool (←Op.equal t (.pointer p) (.pointer none)))):Sem Value).run P w=_;rw[Sem.run_bind,heq];rfl) hx hy hN hg kk
theorem XP{t t' e sz b:Nat}(ho:all[ix]?= some ⟨some d,.binOp .neq t x y t',ty,pos,aft,g⟩)(ht:P.underlying t=some (.pointer e))(hs:TS P e sz)(hz:Nat.beq sz 0=false)(hx:ev σ x=some (.pointer (some ⟨b,0,none⟩)))(hy:ev σ y=some (.pointer (some ⟨b,0,none⟩)))(hN:Nat.blt d X.N=true)(hg:cS all σ g)
  (kk:WL P X bad all K Q os ((d,.bool false)::σ) μ Ds):WL P X bad all K Q ((fl,ix)::os) σ μ Ds:=
 d6 ho (fun w=>by
  have hz':sz≠0:=fun h=>by subst h;cases hz
  have hgd:(eqGuard .neq t x y (.pointer (some ⟨b,0,none⟩)) (.pointer (some ⟨b,0,none⟩))).run P w=.ok () w:=by
   simp only[eqGuard];simp[go_sem]
  have heq:(Op.equal t (.pointer (some ⟨b,0,none⟩)) (.pointer (some ⟨b,0,none⟩))).run P w=.ok true w:=by
   show(Op.equalIn (9999+1) t _ _).run P w=_;rw[Op.equalIn,Sem.run_bind,TU.of ht w];show(do if(←sizeOf e)≠0 then sameAddr ⟨b,0,none⟩ ⟨b,0,none⟩else if((⟨b,0,none⟩:Addr)==⟨b,0,none⟩)=true then Pure.pure true else Pure.pure ((←choose .zeroSizeEq)=1):Sem Bool).run P w=_;rw[Sem.run_bind,hs w];show(if sz≠0 then _ else _:Sem Bool).run P w=_;rw[aGX hz'];simp[sameAddr,go_sem]
  rw[Sem.run_bind,hgd];show((do Pure.pure (Value.bool (!(←Op.equal t (.pointer (some ⟨b,0,none⟩)) (.pointer (some ⟨b,0,none⟩)))))):Sem Value).run P w=_;rw[Sem.run_bind,heq];rfl) hx hy hN hg kk
theorem DG{t1 t2 t e b:TypeId}{vs:List Value}(ho:all[ix]?= some ⟨some d,.convert t1 t2 x,ty,pos,aft,g⟩)(h1:P.underlying t1=some (.pointer t))(h2:P.underlying t2=some .unsafePointer)(ht:(P.info? t).map (fun j=>Nat.beq j.size 0)=some false)(hx:ev σ x=some (.pointer (some ⟨b,0,none⟩)))
  (hm:(b,.cells vs.toArray e (0,0))∈μ) (hv:Nat.beq vs.length 0=false) (hb:b∉bad) (hN:Nat.blt d X.N=true) (hg:cS all σ g) (kk:WL P X bad all K Q os ((d,.pointer (some ⟨b,0,none⟩))::σ) μ Ds):WL P X bad all K Q ((fl,ix)::os) σ μ Ds:=
 jA ho rfl rfl hN hg (fun a w hh w' hk=>by
  obtain⟨j,hj,hj0⟩:=aIZ.1 ht;have hbx:=hh.boxAt hm hb hk;have hl:0<vs.length:=by
   cases h:vs.length with
   |zero=>rw[h]at hv;cases hv
   |succ n=>omega
  have:=Go.Lib.run_to_unsafe (P:=P) (w:=w') (e:=e) (cells:=vs.length) ⟨b,0,none⟩ h1 h2 hj (fun h=>by rw[h]at hj0;cases hj0) (by simp[World.shape?,hbx]) hl;simp only[execOp,hh.eval hx];rw[Sem.run_bind,this];rfl) kk
theorem f5{t1 t2 t e b:TypeId}{vs:List Value}(ho:all[ix]?= some ⟨some d,.convert t1 t2 x,ty,pos,aft,g⟩)(h1:P.underlying t1=some .unsafePointer)(h2:P.underlying t2=some (.pointer t))(ht:(P.info? t).isSome=true)(hx:ev σ x=some (.pointer (some ⟨b,0,none⟩)))
  (hm:(b,.cells vs.toArray e (0,0))∈μ) (hl:liesAt P P.depth e (vs.length / P.cellsOf e) 0 t 1=true) (hb:b∉bad) (hN:Nat.blt d X.N=true) (hg:cS all σ g) (kk:WL P X bad all K Q os ((d,.pointer (some ⟨b,0,none⟩))::σ) μ Ds):WL P X bad all K Q ((fl,ix)::os) σ μ Ds:=
 jA ho rfl rfl hN hg (fun a w hh w' hk=>by
  obtain⟨j,hj⟩:=Option.isSome_iff_exists.1 ht;have hbx:=hh.boxAt hm hb hk;have:=Go.Lib.run_from_unsafe (P:=P) (w:=w') (e:=e) (cells:=vs.length) ⟨b,0,none⟩ h1 h2 hj (by simp[World.shape?,hbx]) hl;simp only[execOp,hh.eval hx];rw[Sem.run_bind,this];rfl) kk
theorem FY{c:Operand}{xs:Array Operand}{ats:Array TypeId}{f:FuncId}{fn:Func}(ho:all[ix]?= some ⟨some d,.call {callee:=.value c,args:=xs,argTypes:=ats},ty,pos,aft,g⟩)(hc:ev σ c=some (.func (.func f) #[] #[]))(hxs:H3 σ xs.toList=some [v])
  (hf:P.funcs[f]?= some fn) (hname:(fn.name== "runtime.NumGoroutine")=false) (hb:fn.body.isNone=true) (hn:Extern.findNext fn=none) (he:Extern.find fn=some Extern.AbiNoEscape.same) (hN:Nat.blt d X.N=true) (hg:cS all σ g)
  (kk:WL P X bad all K Q os ((d,v)::σ) μ Ds):WL P X bad all K Q ((fl,ix)::os) σ μ Ds:=by
 refine dI ho rfl rfl hg fun a w hh=>?_
 have e:(execOp a.eval ⟨some d,.call {callee:=.value c,args:=xs,argTypes:=ats},ty,pos,aft,g⟩).run P w=.ok (.value v) w:=by
  have e1:xs.map a.eval=#[v]:=by
   have:=iB (fun _ _ hx=>hh.eval hx) hxs;rw[show #[v]=[v].toArray from rfl,←this,←aKF]
  simp only[execOp,resolve,hh.eval hc,Deferred.ofValue,pure_bind,invoke,e1];show(callFunc f #[v]).run P w=_;rw[Go.run_callFunc_extern hf hname hb hn he];rfl
 rw[e];exact⟨fun _=>jI.refl _ _,kk _ _ (hh.put hN v)⟩
theorem H1{c:Operand}{xs:Array Operand}{ats:Array TypeId}{f:FuncId}{c1 c2 vs:List Value}{post:Value→Prop}(ho:all[ix]?= some ⟨some d,.call {callee:=.value c,args:=xs,argTypes:=ats},ty,pos,aft,g⟩)(hc:ev σ c=some (.func (.func f) c1.toArray c2.toArray))(hxs:H3 σ xs.toList=some vs)
  (hex:X.ex=none) (hEF:EF P f) (hf:∀D w,fI X.h0 X.lo X.D0 X.mods μ D w→Calls P f (c1++vs++c2).toArray w fun e w'=>∃r,e=.returned r∧Go.RowKit.Below (max 1 X.h0.size) w w'∧post r) (hN:Nat.blt d X.N=true) (hg:cS all σ g)
  (kk:∀r,post r→WL P X bad all K Q os ((d,r)::σ) [] []):WL P X bad all K Q ((false,ix)::os) σ μ Ds:=by
 refine dI ho rfl rfl hg fun a w hh=>?_
 obtain⟨h1,h2,h3,D,h4,h5,h6⟩:=id hh;rw[pD hEF (hh.eval hc) (iB (fun _ _ hx=>hh.eval hx) hxs)];refine⟨fun h=>by simp[FW]at h,cU.2 ((hf D w h4).mono ?_)⟩;rintro e w' ⟨r,rfl,hb,hp⟩;refine⟨(fun h=>by cases h),kk r hp _ _ (Hl.put ⟨h1,h2,h3,fun b=>if b<max 1 X.h0.size then D b else [],?_,(fun D₁ h=>by cases h),by unfold uF;rw[hex];trivial⟩ hN r)⟩
 have h00:(if 0<max 1 X.h0.size then D 0 else [])=D 0:=aGX Yd;refine⟨h4.hlo,aJB h4.size hb.size,fun b hl hm=>(hb.block b Yd).trans (h4.old b hl hm),fun b hl=>?_,h4.agr.of (fun b hne=>?_) h00 (hb.block 0 Yd),(fun p hp=>by cases hp),aID,(fun p hp=>by cases hp),fun e he=>?_⟩
 ·rw[aGX Yd];exact h4.dold b hl
 ·by_cases hl:b<max 1 X.h0.size
  ·rw[aGX hl]at hne ⊢
   obtain⟨cs,e,fz,k1,k2⟩:=h4.agr.1 b hne;exact⟨cs,e,fz,by rw[hb.block b hl];exact k1,k2⟩
  ·rw[aGQ hl]at hne;exact absurd rfl hne
 ·rw[←h4.env e he];exact Prod.ext hb.os hb.output
end Go.Fs
namespace Go.Fs
open Go.Proofs
namespace L12
open C12 Go.Lib
def dP(b:Nat)(l:List UInt8)(ν:aC):Prop:=∃p v ν1,ν=(b,.cells [.pointer p,v].toArray 115 (0,0))::ν1∧(p=none∨p=some ⟨b,0,none⟩)∧bN 5 1 v l.length (bc l) ν1∧LO v
theorem dP.unf{b:Nat}{l:List UInt8}{ν:aC}(h:dP b l ν):∀p∈ν,cF p.2:=by
 obtain⟨p,v,ν1,rfl,_,ha,_⟩:=h;exact rP ha
def pX(w:List UInt8)(lo hi:Int):List UInt8:=w++[32]++itoa lo++[46,46]++itoa hi++[10]
def I8(w:List UInt8)(n:Int):List UInt8:=w++[32]++itoa n++[10]
theorem nV(l:List UInt8):(kY l).size=l.length:=rfl
theorem qC(a:Array UInt8):(⟨a⟩:ByteArray).size=a.size:=rfl
theorem S8(a b:ByteArray):(a++b).data.toList=a.data.toList++b.data.toList:=by simp
theorem i6(u:Nat)(h:u≤100000):(decDigits u).length≤6:=by
 rw[decDigits];split
 ·simp
 ·rw[decDigits];split
  ·simp
  ·rw[decDigits];split
   ·simp
   ·rw[decDigits];split
    ·simp
    ·rw[decDigits];split
     ·simp
     ·rw[decDigits];split
      ·simp
      ·omega
theorem iN{n:Int}(h1: -1000≤n)(h2:n≤100000):(itoa n).length≤7:=by
 unfold itoa;split
 ·rw[aGM];have:=i6 n.natAbs Yd;omega
 ·first|(have:=i6 n.toNat Yd;omega)|(have:=i6 n.natAbs Yd;omega)
theorem i1(b:Nat)(p:Option Addr)(v:Value)(hp:p=none∨p=some ⟨b,0,none⟩)(D:aA):iZ Tryz.prog 71 [.pointer (some ⟨b,0,none⟩)] D [(b,.cells [.pointer p,v].toArray 115 (0,0))] (fun _ _ ν'=>ν'=[(b,.cells [.pointer (some ⟨b,0,none⟩),v].toArray 115 (0,0))]) (fun _=>False):=by
 refine dH 20 Tryz.func71 rfl rfl rfl rfl (fun h0 hwl hwn=>C.s1<|Za rfl<|Zae rfl<|Zi rfl Tf.f115_0 rfl<|Zl rfl Tf.a113 rfl (List.Mem.head _) rfl<|XE rfl U113 rfl rfl rfl trivial<|L.n1<|aQ rfl (fun hc1=>?_) (fun hc1=>?_))
 ·obtain rfl:p=none:=by simpa using hc1
  refine C.rg<|Za rfl<|Za rfl<|DG rfl U113 U263 Yg rfl (List.Mem.head _) rfl GT rfl trivial<|FY (f:=124) rfl rfl rfl Tryz.func124 Yg Yg Yg Yg rfl trivial<|f5 rfl U263 U113 Yg rfl (List.Mem.head _) Yg GT rfl trivial<|Zae rfl<|Zi rfl Tf.f115_0 rfl<|Zn rfl Tf.s113 (bL.head) rfl<|Zz ?_;exact cZ (A:=[]) (ν':=[_]) (B:=[]) (vs:=[]) rfl rfl rfl aLJ (fun D' hD=>rfl)
 ·obtain rfl:p=some ⟨b,0,none⟩:=hp.resolve_left (by rintro rfl;cases hc1);refine C.s1<|Za rfl<|Zae rfl<|Zi rfl Tf.f115_0 rfl<|Zl rfl Tf.a113 rfl (List.Mem.head _) rfl<|Za rfl<|XP rfl U113 Tf.s115 rfl rfl rfl rfl trivial<|L.n1<|aQ rfl (fun hc2=>?_) (fun hc2=>?_)
  ·cases hc2
  ·refine bR ?_;exact cZ (A:=[]) (ν':=[_]) (B:=[]) (vs:=[]) rfl rfl rfl aLJ (fun D' hD=>rfl)
theorem iX(b:Nat)(s:ByteArray)(l:List UInt8)(ν:aC)(D:aA)(hb:dP b l ν)(hl:l.length+s.size≤10000000):iZ Tryz.prog 41 [.pointer (some ⟨b,0,none⟩),.string s] D ν (fun _ _ ν'=>dP b (l++s.data.toList) ν') (fun _=>False):=by
 obtain⟨p,v,ν1,rfl,hp,ha,hcb⟩:=hb;refine dH 19 Tryz.func41 rfl rfl rfl rfl (fun h0 hwl hwn=>C.s1<|Zh rfl<|Zh rfl<|L.n3<|Za rfl<|Ze [] ν1 [(b,_)] rfl (Or.inl rfl) (fun p hp=>by simp only[aGU]at hp;subst hp;rfl) (fun D5 hD5=>i1 b p v hp _) (fun _ _ _ h=>h.elim) (fun v5 D6 ν5 hD5 hp5=>?_))
 subst hp5;refine L.n3<|Za rfl<|Za rfl<|Zae rfl<|Zi rfl Tf.f115_1 rfl<|Zl rfl Tf.a51 rfl (List.Mem.head _) rfl<|Za rfl<|aF ([(b,.cells [.pointer (some ⟨b,0,none⟩),v].toArray 115 (0,0))]++ν1++[]) Ye<|u0 (A:=[(b,_)]) (B:=[]) rfl U51 rfl rfl U9 Tf.s5 Tf.z5 rfl Tf.i5 rfl rfl ha (iE _) hl (aGR rfl) hcb rfl aLJ (fun v7 ν7 ha7 hcb7=>aF ((b,.cells [.pointer (some ⟨b,0,none⟩),v].toArray 115 (0,0))::ν7) Ye<|Zae rfl<|Zi rfl Tf.f115_1 rfl ?_);refine aX (ws:=[.pointer (some ⟨b,0,none⟩),v7]) rfl rfl rfl ha7.cells1 Tf.s51 .head Ye rfl ha7.cell1 trivial<|L.n3<|Za rfl<|gE rfl U9 rfl rfl rfl trivial<|Zh rfl<|Zh rfl<|L.n5 ?_;refine fun a w hh=>cZ (P:=Tryz.prog) (fn:=Tryz.f41) (A:=[]) (ν':=(b,_)::ν7) (B:=[]) (vs:=[_,_]) rfl rfl rfl C.rs (fun D' hD=>⟨_,v7,ν7,rfl,aGH rfl,by rw[aGC,mV];exact ha7,hcb7⟩) a w (hh.boxesEq (aGG _).symm)
theorem tK(w:ByteArray)(lo hi:Int)(b:Nat)(l:List UInt8)(ν:aC)(D:aA)(hV:kC D)(hw:w.size≤10)(hlo: -1000≤lo∧lo≤100000)(hhi: -1000≤hi∧hi≤100000)(hb:dP b l ν)(hl:l.length≤1000000):iZ Tryz.prog 40 [.string w,.int .i64 lo,.int .i64 hi,.pointer (some ⟨b,0,none⟩)] D ν (fun _ _ ν'=>dP b (l++pX w.data.toList lo hi) ν') (fun _=>False):=by
 have hilo:=iN hlo.1 hlo.2;have hihi:=iN hhi.1 hhi.2;refine dH 18 Tryz.func40 rfl rfl rfl rfl (fun h0 hwl hwn=>C.rg<|Za rfl<|dZ rfl rfl rfl (by first|omega|(simp only[qC,aHK,aGM,aIA];omega)) rfl trivial<|Za rfl<|Zc rfl (fun D1 hD1=>xH lo Yf _ (hV.up (hD1 _ Ye)))<|dZ rfl rfl rfl Ys rfl trivial<|dZ rfl rfl rfl Ys rfl trivial<|Za rfl<|Zc rfl (fun D2 hD2=>xH hi Yf _ (hV.up (hD2 _ Ye)))<|dZ rfl rfl rfl Ys rfl trivial<|dZ rfl rfl rfl Ys rfl aLJ ?_);refine aF ([]++ν++[]) Ye<|Ze [] [] ν rfl (Or.inl rfl) hb.unf (fun D9 hD9=>iX b _ l ν _ hb (by simp only[aLC,nV,qC,aHK,aGM,aIA];omega)) (fun _ _ _ h=>h.elim) (fun v9 D10 ν9 hD9 hp9=>aF ν9 Ye<|Zz ?_)
 refine fun a w hh=>cZ (P:=Tryz.prog) (fn:=Tryz.f40) (A:=[]) (ν':=ν9) (B:=[]) (vs:=[]) rfl rfl rfl aLJ (fun D' hD=>by simpa [pX,I8,kY,S8]using hp9) a w (hh.boxesEq Ye)
theorem j2(w:ByteArray)(m:Int)(b:Nat)(l:List UInt8)(ν:aC)(D:aA)(hV:kC D)(hw:w.size≤10)(hm: -1000≤m∧m≤100000)(hb:dP b l ν)(hl:l.length≤1000000):iZ Tryz.prog 43 [.string w,.int .i64 m,.pointer (some ⟨b,0,none⟩)] D ν (fun _ _ ν'=>dP b (l++I8 w.data.toList m) ν') (fun _=>False):=by
 have him:=iN hm.1 hm.2;refine dH 12 Tryz.func43 rfl rfl rfl rfl (fun h0 hwl hwn=>C.rg<|Za rfl<|dZ rfl rfl rfl (by first|omega|(simp only[qC,aHK,aGM,aIA];omega)) rfl trivial<|Za rfl<|Zc rfl (fun D1 hD1=>xH m Yf _ (hV.up (hD1 _ Ye)))<|dZ rfl rfl rfl Ys rfl trivial<|dZ rfl rfl rfl Ys rfl trivial<|aF ([]++ν++[]) Ye<|Ze [] [] ν rfl (Or.inl rfl) hb.unf (fun D9 hD9=>iX b _ l ν _ hb (by simp only[aLC,nV,qC,aHK,aGM,aIA];omega)) (fun _ _ _ h=>h.elim) (fun v9 D10 ν9 hD9 hp9=>aF ν9 Ye<|Zz ?_))
 refine fun a w hh=>cZ (P:=Tryz.prog) (fn:=Tryz.f43) (A:=[]) (ν':=ν9) (B:=[]) (vs:=[]) rfl rfl rfl aLJ (fun D' hD=>by simpa [pX,I8,kY,S8]using hp9) a w (hh.boxesEq Ye)
end L12
end Go.Fs
