/- Of the proof of BookPlace: BW18, BW19, BW20, BW21, Bytes, BW22. -/
import Derived.Test.YtbaniakdgogjeaaGreatDoorZBookPlaceAK
import Derived.Test.YtbaniakdgogjeaaGreatDoorZBookPlaceAJ
import Derived.Lib.AppendStr
import Derived.Lib.UnsafeStr
import Derived.Lib.Builder
import Derived.Laws.Externs
namespace Go.Fs
open Go.Proofs
namespace L12
open C12
def zE(D:aA)(wb:Nat)(s:aN)(ν:aC):Prop:=∃pv cv hv lv mv bl bc yc yq ν1 ν2 ν3 ν4 ν5 ν6 ν7 ν8,ν=(wb,.cells (bS s pv cv hv lv mv bl bc yc yq).toArray 211 (0,0))::(ν8++(ν7++(ν6++(ν5++(ν4++(ν3++(ν2++ν1)))))))∧aCQ D s pv cv hv lv mv bl bc yc yq ν1 ν2 ν3 ν4 ν5 ν6 ν7 ν8
def fE(P:Program)(f:FuncId)(k:Nat)(act:fI):Prop:=∀(wb:Nat) (s:aN) (nv:Value) (n:List Int) (ν:aC) (D:aA),Sl D RI 1 nv n→n.length=k→(∀x∈n,0≤x∧x≤999)→zE D wb s ν→wF s→
 jE P f [.pointer (some ⟨wb,0,none⟩),nv] D ν (fun D' _ ν'=>∃s',act s n=.ok s'∧zE D' wb s' ν') (fun v=>∃c,act s n=.error c∧v=dU c)
theorem _root_.Go.Fs.jE.frameE{P:Program}{f:FuncId}{args:List Value}{D:aA}{ν A B:aC}{post:aA→Value→aC→Prop}{pan:Value→Prop}(h:jE P f args D ν post pan):jE P f args D (A++ν++B) (fun D' v ν'=>∃ν0,post D' v ν0∧ν'=A++ν0++B) pan:=h.frame fun _ _ ν' _ hp=>⟨ν',hp,rfl⟩
theorem O9{l:List Int}(h:l.length=1):∃a,l=[a]:=by match l,h with| [a],_=>exact⟨a,rfl⟩
theorem DZ{l:List Int}(h:l.length=2):∃a b,l=[a,b]:=by match l,h with| [a,b],_=>exact⟨a,b,rfl⟩
theorem aDD{l:List Int}(h:l.length=3):∃a b c,l=[a,b,c]:=by match l,h with| [a,b,c],_=>exact⟨a,b,c,rfl⟩
theorem aCW{l:List Int}(h:l.length=4):∃a b c d,l=[a,b,c,d]:=by match l,h with| [a,b,c,d],_=>exact⟨a,b,c,d,rfl⟩
theorem yC{e sz n:Nat}{cells:List Value}{v:Value}{ν:aC}(h:bR e sz v n cells ν):∃x c,v=.slice x n c:=by
 rcases h with⟨a,rfl,rfl,_,_⟩|⟨b,cap,junk,rfl,_,_,_⟩
 ·exact⟨a,0,rfl⟩
 ·exact⟨_,cap,rfl⟩
theorem EY:fE Tryz.prog 153 0 (xZ):=by
 rintro wb s nv n ν D hn hlen hr ⟨pv,cv,hv,lv,mv,bl,bc,yc,yq,ν1,ν2,ν3,ν4,ν5,ν6,ν7,ν8,rfl,hO⟩ hsm;obtain rfl:n=[]:=List.eq_nil_of_length_eq_zero hlen;refine jE.reorder (ν:=[]++((wb,.cells (bS s pv cv hv lv mv bl bc yc yq).toArray 211 (0,0))::ν1)++(ν8++(ν7++(ν6++(ν5++(ν4++(ν3++(ν2)))))))) ((MB wb s pv cv hv lv mv bl bc yc yq nv ν1 D hO.pl hsm.pl).frameE) (aM fun _=>by simp only[aKY,aLD,aLF,bS];omega) ?_ ?_
 ·rintro D' v ν' hle ⟨_,⟨hc,v1,νz,rfl,hacc⟩,rfl⟩;refine⟨(wb,.cells (bS s v1 cv hv lv mv bl bc yc yq).toArray 211 (0,0))::(ν8++(ν7++(ν6++(ν5++(ν4++(ν3++(ν2++(νz)))))))),(aM fun _=>by simp only[aKY,aLD,aLF];omega),setRow s {s.row with places:=s.row.places++[2]},by unfold xZ;simp only[];repeat (first|rw[aKS Yd]|rw[aKO Yd]),v1,cv,hv,lv,mv,bl,bc,yc,yq,νz,ν2,ν3,ν4,ν5,ν6,ν7,ν8,rfl,?_⟩
  exact⟨(by have hz:(s.row.places++[2]).length=s.row.places.length+1:=Ye;show bR _ _ _ (s.row.places++[2]).length _ _;rw[hz];exact hacc),hO.ct,hO.ht,hO.lev,hO.mks,hO.ln,hO.cn.up pC.up hle,hO.ch,hO.cl⟩
 ·rintro v ⟨h1,rfl⟩;exact⟨_,by unfold xZ;simp only[];repeat (first|rw[aKS Yd]|rw[aKO Yd]),rfl⟩
theorem IL:fE Tryz.prog 154 2 (H9):=by
 rintro wb s nv n ν D hn hlen hr ⟨pv,cv,hv,lv,mv,bl,bc,yc,yq,ν1,ν2,ν3,ν4,ν5,ν6,ν7,ν8,rfl,hO⟩ hsm;obtain⟨a,b,rfl⟩:=DZ hlen;have ha:0≤a:=(hr a Ye).1;refine jE.reorder (ν:=[]++((wb,.cells (bS s pv cv hv lv mv bl bc yc yq).toArray 211 (0,0))::ν1)++(ν8++(ν7++(ν6++(ν5++(ν4++(ν3++(ν2)))))))) ((NH wb s pv cv hv lv mv bl bc yc yq nv a b ν1 D hn hO.pl hsm.pl ha).frameE) (aM fun _=>by simp only[aKY,aLD,aLF,bS];omega) ?_ ?_
 ·rintro D' v ν' hle ⟨_,⟨hc,νz,rfl,hacc⟩,rfl⟩;refine⟨(wb,.cells (bS s pv cv hv lv mv bl bc yc yq).toArray 211 (0,0))::(ν8++(ν7++(ν6++(ν5++(ν4++(ν3++(ν2++(νz)))))))),(aM fun _=>by simp only[aKY,aLD,aLF];omega),setRow s {s.row with places:=s.row.places.set a.toNat b},by unfold H9;simp only[];repeat (first|rw[aKS Yd]|rw[aKO Yd]),pv,cv,hv,lv,mv,bl,bc,yc,yq,νz,ν2,ν3,ν4,ν5,ν6,ν7,ν8,rfl,?_⟩
  exact⟨(by have hz:(s.row.places.set a.toNat b).length=s.row.places.length:=Ye;show bR _ _ _ (s.row.places.set a.toNat b).length _ _;rw[hz];exact hacc),hO.ct,hO.ht,hO.lev,hO.mks,hO.ln,hO.cn.up pC.up hle,hO.ch,hO.cl⟩
 ·rintro v (⟨h1,rfl⟩|⟨h1,h2,rfl⟩)
  ·exact⟨_,by unfold H9;simp only[];repeat (first|rw[aKS Yd]|rw[aKO Yd]),rfl⟩
  ·exact⟨_,by unfold H9;simp only[];repeat (first|rw[aKS Yd]|rw[aKO Yd]),rfl⟩
theorem CB:fE Tryz.prog 155 2 (mK false):=by
 rintro wb s nv n ν D hn hlen hr ⟨pv,cv,hv,lv,mv,bl,bc,yc,yq,ν1,ν2,ν3,ν4,ν5,ν6,ν7,ν8,rfl,hO⟩ hsm;obtain⟨a,b,rfl⟩:=DZ hlen;refine jE.reorder (ν:=[]++((wb,.cells (bS s pv cv hv lv mv bl bc yc yq).toArray 211 (0,0))::ν2)++(ν8++(ν7++(ν6++(ν5++(ν4++(ν3++(ν1)))))))) ((ML wb s pv cv hv lv mv bl bc yc yq nv a b ν2 D hn hO.ct hsm.ct (yC hO.pl)).frameE) (aM fun _=>by simp only[aKY,aLD,aLF,bS];omega) ?_ ?_
 ·rintro D' v ν' hle ⟨_,⟨hc,v1,νz,rfl,hacc⟩,rfl⟩;refine⟨(wb,.cells (bS s pv v1 hv lv mv bl bc yc yq).toArray 211 (0,0))::(ν8++(ν7++(ν6++(ν5++(ν4++(ν3++(νz++(ν1)))))))),(aM fun _=>by simp only[aKY,aLD,aLF];omega),setRow s {s.row with counts:=s.row.counts++[(⟨false,a,b⟩:C1.rQ)]},by unfold mK;simp only[];repeat (first|rw[aKS Yd]|rw[aKO Yd]),pv,v1,hv,lv,mv,bl,bc,yc,yq,ν1,νz,ν3,ν4,ν5,ν6,ν7,ν8,rfl,?_⟩
  exact⟨hO.pl,(by have hz:(s.row.counts++[(⟨false,a,b⟩:C1.rQ)]).length=s.row.counts.length+1:=Ye;show bR _ _ _ (s.row.counts++[(⟨false,a,b⟩:C1.rQ)]).length _ _;rw[hz];exact hacc),hO.ht,hO.lev,hO.mks,hO.ln,hO.cn.up pC.up hle,hO.ch,hO.cl⟩
 ·rintro v (⟨h1,rfl⟩|⟨h1,h2,rfl⟩)
  ·exact⟨_,by unfold mK;simp only[];repeat (first|rw[aKS Yd]|rw[aKO Yd]),rfl⟩
  ·exact⟨_,by unfold mK;simp only[];repeat (first|rw[aKS Yd]|rw[aKO Yd]),rfl⟩
theorem KP:fE Tryz.prog 156 2 (mK true):=by
 rintro wb s nv n ν D hn hlen hr ⟨pv,cv,hv,lv,mv,bl,bc,yc,yq,ν1,ν2,ν3,ν4,ν5,ν6,ν7,ν8,rfl,hO⟩ hsm;obtain⟨a,b,rfl⟩:=DZ hlen;refine jE.reorder (ν:=[]++((wb,.cells (bS s pv cv hv lv mv bl bc yc yq).toArray 211 (0,0))::ν2)++(ν8++(ν7++(ν6++(ν5++(ν4++(ν3++(ν1)))))))) ((RX wb s pv cv hv lv mv bl bc yc yq nv a b ν2 D hn hO.ct hsm.ct (yC hO.pl)).frameE) (aM fun _=>by simp only[aKY,aLD,aLF,bS];omega) ?_ ?_
 ·rintro D' v ν' hle ⟨_,⟨hc,v1,νz,rfl,hacc⟩,rfl⟩;refine⟨(wb,.cells (bS s pv v1 hv lv mv bl bc yc yq).toArray 211 (0,0))::(ν8++(ν7++(ν6++(ν5++(ν4++(ν3++(νz++(ν1)))))))),(aM fun _=>by simp only[aKY,aLD,aLF];omega),setRow s {s.row with counts:=s.row.counts++[(⟨true,a,b⟩:C1.rQ)]},by unfold mK;simp only[];repeat (first|rw[aKS Yd]|rw[aKO Yd]),pv,v1,hv,lv,mv,bl,bc,yc,yq,ν1,νz,ν3,ν4,ν5,ν6,ν7,ν8,rfl,?_⟩
  exact⟨hO.pl,(by have hz:(s.row.counts++[(⟨true,a,b⟩:C1.rQ)]).length=s.row.counts.length+1:=Ye;show bR _ _ _ (s.row.counts++[(⟨true,a,b⟩:C1.rQ)]).length _ _;rw[hz];exact hacc),hO.ht,hO.lev,hO.mks,hO.ln,hO.cn.up pC.up hle,hO.ch,hO.cl⟩
 ·rintro v (⟨h1,rfl⟩|⟨h1,h2,rfl⟩)
  ·exact⟨_,by unfold mK;simp only[];repeat (first|rw[aKS Yd]|rw[aKO Yd]),rfl⟩
  ·exact⟨_,by unfold mK;simp only[];repeat (first|rw[aKS Yd]|rw[aKO Yd]),rfl⟩
theorem Y0:fE Tryz.prog 157 1 (pJ):=by
 rintro wb s nv n ν D hn hlen hr ⟨pv,cv,hv,lv,mv,bl,bc,yc,yq,ν1,ν2,ν3,ν4,ν5,ν6,ν7,ν8,rfl,hO⟩ hsm;obtain⟨a,rfl⟩:=O9 hlen;have ha:0≤a:=(hr a Ye).1;refine jE.reorder (ν:=[]++((wb,.cells (bS s pv cv hv lv mv bl bc yc yq).toArray 211 (0,0))::ν2)++(ν8++(ν7++(ν6++(ν5++(ν4++(ν3++(ν1)))))))) ((BH wb s pv cv hv lv mv bl bc yc yq nv a ν2 D hn hO.ct hsm.ct ha).frameE) (aM fun _=>by simp only[aKY,aLD,aLF,bS];omega) ?_ ?_
 ·rintro D' v ν' hle ⟨_,⟨hc,v1,νz,rfl,hacc⟩,rfl⟩;refine⟨(wb,.cells (bS s pv v1 hv lv mv bl bc yc yq).toArray 211 (0,0))::(ν8++(ν7++(ν6++(ν5++(ν4++(ν3++(νz++(ν1)))))))),(aM fun _=>by simp only[aKY,aLD,aLF];omega),setRow s {s.row with counts:=s.row.counts.eraseIdx a.toNat},by unfold pJ;simp only[];repeat (first|rw[aKS Yd]|rw[aKO Yd]),pv,v1,hv,lv,mv,bl,bc,yc,yq,ν1,νz,ν3,ν4,ν5,ν6,ν7,ν8,rfl,?_⟩
  exact⟨hO.pl,(by have hz:(s.row.counts.eraseIdx a.toNat).length=s.row.counts.length-1:=(aOK Yd);show bR _ _ _ (s.row.counts.eraseIdx a.toNat).length _ _;rw[hz];exact hacc),hO.ht,hO.lev,hO.mks,hO.ln,hO.cn.up pC.up hle,hO.ch,hO.cl⟩
 ·rintro v ⟨h1,rfl⟩;exact⟨_,by unfold pJ;simp only[];repeat (first|rw[aKS Yd]|rw[aKO Yd]),rfl⟩
theorem DT:fE Tryz.prog 158 1 (xU):=by
 rintro wb s nv n ν D hn hlen hr ⟨pv,cv,hv,lv,mv,bl,bc,yc,yq,ν1,ν2,ν3,ν4,ν5,ν6,ν7,ν8,rfl,hO⟩ hsm;obtain⟨a,rfl⟩:=O9 hlen;refine jE.reorder (ν:=[]++[(wb,.cells (bS s pv cv hv lv mv bl bc yc yq).toArray 211 (0,0))]++(ν8++(ν7++(ν6++(ν5++(ν4++(ν3++(ν2++(ν1))))))))) ((KD wb s pv cv hv lv mv bl bc yc yq nv a D hn).frame (post':=fun D' v ν'=>a≤6∧ν'=[(wb,.cells [pv,cv,.int .i64 a,.int .i64 s.row.off,.int .i64 s.table.last,hv,.int .i64 s.table.step,lv,mv,.int .i64 s.book.chairs,.int .i64 s.book.coin,.int .i64 s.book.box,bl,bc,yc,.int .i64 s.yard.fit,yq].toArray 211 (0,0))]++(ν8++(ν7++(ν6++(ν5++(ν4++(ν3++(ν2++(ν1))))))))) (fun D' v ν' _ h=>⟨h.1,by rw[h.2];rfl⟩)) (aM fun _=>by simp only[aKY,aLD,aLF,bS];omega) ?_ ?_
 ·rintro D' v ν' hle ⟨h1,rfl⟩;refine⟨_,.refl _,setRow s {s.row with wrong:=a},by unfold xU;simp only[];repeat (first|rw[aKS Yd]|rw[aKO Yd]),pv,cv,hv,lv,mv,bl,bc,yc,yq,ν1,ν2,ν3,ν4,ν5,ν6,ν7,ν8,rfl,⟨hO.pl,hO.ct,hO.ht,hO.lev,hO.mks,hO.ln,hO.cn.up pC.up hle,hO.ch,hO.cl⟩⟩
 ·rintro v ⟨h1,rfl⟩;exact⟨_,by unfold xU;simp only[];repeat (first|rw[aKS Yd]|rw[aKO Yd]),rfl⟩
theorem PM:fE Tryz.prog 159 1 (LZ):=by
 rintro wb s nv n ν D hn hlen hr ⟨pv,cv,hv,lv,mv,bl,bc,yc,yq,ν1,ν2,ν3,ν4,ν5,ν6,ν7,ν8,rfl,hO⟩ hsm;obtain⟨a,rfl⟩:=O9 hlen;refine jE.reorder (ν:=[]++[(wb,.cells (bS s pv cv hv lv mv bl bc yc yq).toArray 211 (0,0))]++(ν8++(ν7++(ν6++(ν5++(ν4++(ν3++(ν2++(ν1))))))))) ((VQ wb s pv cv hv lv mv bl bc yc yq nv a D hn).frame (post':=fun D' v ν'=>a≤9∧ν'=[(wb,.cells [pv,cv,.int .i64 s.row.wrong,.int .i64 a,.int .i64 s.table.last,hv,.int .i64 s.table.step,lv,mv,.int .i64 s.book.chairs,.int .i64 s.book.coin,.int .i64 s.book.box,bl,bc,yc,.int .i64 s.yard.fit,yq].toArray 211 (0,0))]++(ν8++(ν7++(ν6++(ν5++(ν4++(ν3++(ν2++(ν1))))))))) (fun D' v ν' _ h=>⟨h.1,by rw[h.2];rfl⟩)) (aM fun _=>by simp only[aKY,aLD,aLF,bS];omega) ?_ ?_
 ·rintro D' v ν' hle ⟨h1,rfl⟩;refine⟨_,.refl _,setRow s {s.row with off:=a},by unfold LZ;simp only[];repeat (first|rw[aKS Yd]|rw[aKO Yd]),pv,cv,hv,lv,mv,bl,bc,yc,yq,ν1,ν2,ν3,ν4,ν5,ν6,ν7,ν8,rfl,⟨hO.pl,hO.ct,hO.ht,hO.lev,hO.mks,hO.ln,hO.cn.up pC.up hle,hO.ch,hO.cl⟩⟩
 ·rintro v ⟨h1,rfl⟩;exact⟨_,by unfold LZ;simp only[];repeat (first|rw[aKS Yd]|rw[aKO Yd]),rfl⟩
theorem LO:fE Tryz.prog 160 3 (K0):=by
 rintro wb s nv n ν D hn hlen hr ⟨pv,cv,hv,lv,mv,bl,bc,yc,yq,ν1,ν2,ν3,ν4,ν5,ν6,ν7,ν8,rfl,hO⟩ hsm;obtain⟨a,b,c,rfl⟩:=aDD hlen;have ha:0≤a:=(hr a Ye).1;have hb:0≤b∧b≤1000:=by have:=hr b Ye;omega
 refine jE.reorder (ν:=[]++((wb,.cells (bS s pv cv hv lv mv bl bc yc yq).toArray 211 (0,0))::ν3)++(ν8++(ν7++(ν6++(ν5++(ν4++(ν2++(ν1)))))))) ((SH wb s pv cv hv lv mv bl bc yc yq nv a b c ν3 D hn hO.ht hsm.ht ha hb).frameE) (aM fun _=>by simp only[aKY,aLD,aLF,bS];omega) ?_ ?_
 ·rintro D' v ν' hle ⟨_,⟨hc,νz,rfl,hacc⟩,rfl⟩;refine⟨(wb,.cells (bS s pv cv hv lv mv bl bc yc yq).toArray 211 (0,0))::(ν8++(ν7++(ν6++(ν5++(ν4++(νz++(ν2++(ν1)))))))),(aM fun _=>by simp only[aKY,aLD,aLF];omega),setTable s {s.table with heights:=s.table.heights.set a.toNat (b,c)},by unfold K0;simp only[];repeat (first|rw[aKS Yd]|rw[aKO Yd]),pv,cv,hv,lv,mv,bl,bc,yc,yq,ν1,ν2,νz,ν4,ν5,ν6,ν7,ν8,rfl,?_⟩
  exact⟨hO.pl,hO.ct,(by have hz:(s.table.heights.set a.toNat (b,c)).length=s.table.heights.length:=Ye;show bR _ _ _ (s.table.heights.set a.toNat (b,c)).length _ _;rw[hz];exact hacc),hO.lev,hO.mks,hO.ln,hO.cn.up pC.up hle,hO.ch,hO.cl⟩
 ·rintro v (⟨h1,rfl⟩|⟨h1,h2,rfl⟩)
  ·exact⟨_,by unfold K0;simp only[];repeat (first|rw[aKS Yd]|rw[aKO Yd]),rfl⟩
  ·exact⟨_,by unfold K0;simp only[];repeat (first|rw[aKS Yd]|rw[aKO Yd]),rfl⟩
theorem JA:fE Tryz.prog 161 1 (R0):=by
 rintro wb s nv n ν D hn hlen hr ⟨pv,cv,hv,lv,mv,bl,bc,yc,yq,ν1,ν2,ν3,ν4,ν5,ν6,ν7,ν8,rfl,hO⟩ hsm;obtain⟨a,rfl⟩:=O9 hlen;refine jE.reorder (ν:=[]++[(wb,.cells (bS s pv cv hv lv mv bl bc yc yq).toArray 211 (0,0))]++(ν8++(ν7++(ν6++(ν5++(ν4++(ν3++(ν2++(ν1))))))))) ((OO wb s pv cv hv lv mv bl bc yc yq nv a D hn).frame (post':=fun D' v ν'=>a≤99∧ν'=[(wb,.cells [pv,cv,.int .i64 s.row.wrong,.int .i64 s.row.off,.int .i64 s.table.last,hv,.int .i64 a,lv,mv,.int .i64 s.book.chairs,.int .i64 s.book.coin,.int .i64 s.book.box,bl,bc,yc,.int .i64 s.yard.fit,yq].toArray 211 (0,0))]++(ν8++(ν7++(ν6++(ν5++(ν4++(ν3++(ν2++(ν1))))))))) (fun D' v ν' _ h=>⟨h.1,by rw[h.2];rfl⟩)) (aM fun _=>by simp only[aKY,aLD,aLF,bS];omega) ?_ ?_
 ·rintro D' v ν' hle ⟨h1,rfl⟩;refine⟨_,.refl _,setTable s {s.table with step:=a},by unfold R0;simp only[];repeat (first|rw[aKS Yd]|rw[aKO Yd]),pv,cv,hv,lv,mv,bl,bc,yc,yq,ν1,ν2,ν3,ν4,ν5,ν6,ν7,ν8,rfl,⟨hO.pl,hO.ct,hO.ht,hO.lev,hO.mks,hO.ln,hO.cn.up pC.up hle,hO.ch,hO.cl⟩⟩
 ·rintro v ⟨h1,rfl⟩;exact⟨_,by unfold R0;simp only[];repeat (first|rw[aKS Yd]|rw[aKO Yd]),rfl⟩
theorem EN:fE Tryz.prog 162 1 (vO):=by
 rintro wb s nv n ν D hn hlen hr ⟨pv,cv,hv,lv,mv,bl,bc,yc,yq,ν1,ν2,ν3,ν4,ν5,ν6,ν7,ν8,rfl,hO⟩ hsm;obtain⟨a,rfl⟩:=O9 hlen;refine jE.reorder (ν:=[]++((wb,.cells (bS s pv cv hv lv mv bl bc yc yq).toArray 211 (0,0))::ν4)++(ν8++(ν7++(ν6++(ν5++(ν3++(ν2++(ν1)))))))) ((KV wb s pv cv hv lv mv bl bc yc yq nv a ν4 D hn hO.lev hsm.lev).frameE) (aM fun _=>by simp only[aKY,aLD,aLF,bS];omega) ?_ ?_
 ·rintro D' v ν' hle ⟨_,⟨hc,v1,νz,rfl,hacc⟩,rfl⟩;refine⟨(wb,.cells (bS s pv cv hv v1 mv bl bc yc yq).toArray 211 (0,0))::(ν8++(ν7++(ν6++(ν5++(νz++(ν3++(ν2++(ν1)))))))),(aM fun _=>by simp only[aKY,aLD,aLF];omega),setTable s {s.table with levels:=s.table.levels++[a]},by unfold vO;simp only[];repeat (first|rw[aKS Yd]|rw[aKO Yd]),pv,cv,hv,v1,mv,bl,bc,yc,yq,ν1,ν2,ν3,νz,ν5,ν6,ν7,ν8,rfl,?_⟩
  exact⟨hO.pl,hO.ct,hO.ht,(by have hz:(s.table.levels++[a]).length=s.table.levels.length+1:=Ye;show bR _ _ _ (s.table.levels++[a]).length _ _;rw[hz];exact hacc),hO.mks,hO.ln,hO.cn.up pC.up hle,hO.ch,hO.cl⟩
 ·rintro v (⟨h1,rfl⟩|⟨h1,h2,rfl⟩)
  ·exact⟨_,by unfold vO;simp only[];repeat (first|rw[aKS Yd]|rw[aKO Yd]),rfl⟩
  ·exact⟨_,by unfold vO;simp only[];repeat (first|rw[aKS Yd]|rw[aKO Yd]),rfl⟩
theorem ES:fE Tryz.prog 163 2 (vJ):=by
 rintro wb s nv n ν D hn hlen hr ⟨pv,cv,hv,lv,mv,bl,bc,yc,yq,ν1,ν2,ν3,ν4,ν5,ν6,ν7,ν8,rfl,hO⟩ hsm;obtain⟨a,b,rfl⟩:=DZ hlen;have ha:0≤a:=(hr a Ye).1;refine jE.reorder (ν:=[]++((wb,.cells (bS s pv cv hv lv mv bl bc yc yq).toArray 211 (0,0))::ν4)++(ν8++(ν7++(ν6++(ν5++(ν3++(ν2++(ν1)))))))) ((KN wb s pv cv hv lv mv bl bc yc yq nv a b ν4 D hn hO.lev hsm.lev ha).frameE) (aM fun _=>by simp only[aKY,aLD,aLF,bS];omega) ?_ ?_
 ·rintro D' v ν' hle ⟨_,⟨hc,νz,rfl,hacc⟩,rfl⟩;refine⟨(wb,.cells (bS s pv cv hv lv mv bl bc yc yq).toArray 211 (0,0))::(ν8++(ν7++(ν6++(ν5++(νz++(ν3++(ν2++(ν1)))))))),(aM fun _=>by simp only[aKY,aLD,aLF];omega),setTable s {s.table with levels:=s.table.levels.set a.toNat b},by unfold vJ;simp only[];repeat (first|rw[aKS Yd]|rw[aKO Yd]),pv,cv,hv,lv,mv,bl,bc,yc,yq,ν1,ν2,ν3,νz,ν5,ν6,ν7,ν8,rfl,?_⟩
  exact⟨hO.pl,hO.ct,hO.ht,(by have hz:(s.table.levels.set a.toNat b).length=s.table.levels.length:=Ye;show bR _ _ _ (s.table.levels.set a.toNat b).length _ _;rw[hz];exact hacc),hO.mks,hO.ln,hO.cn.up pC.up hle,hO.ch,hO.cl⟩
 ·rintro v (⟨h1,rfl⟩|⟨h1,h2,rfl⟩)
  ·exact⟨_,by unfold vJ;simp only[];repeat (first|rw[aKS Yd]|rw[aKO Yd]),rfl⟩
  ·exact⟨_,by unfold vJ;simp only[];repeat (first|rw[aKS Yd]|rw[aKO Yd]),rfl⟩
theorem HW:fE Tryz.prog 164 4 (vY):=by
 rintro wb s nv n ν D hn hlen hr ⟨pv,cv,hv,lv,mv,bl,bc,yc,yq,ν1,ν2,ν3,ν4,ν5,ν6,ν7,ν8,rfl,hO⟩ hsm;obtain⟨a,b,c,d,rfl⟩:=aCW hlen;refine jE.reorder (ν:=[]++((wb,.cells (bS s pv cv hv lv mv bl bc yc yq).toArray 211 (0,0))::ν5)++(ν8++(ν7++(ν6++(ν4++(ν3++(ν2++(ν1)))))))) ((PS wb s pv cv hv lv mv bl bc yc yq nv a b c d ν5 D hn hO.mks hsm.mks (yC hO.ht)).frameE) (aM fun _=>by simp only[aKY,aLD,aLF,bS];omega) ?_ ?_
 ·rintro D' v ν' hle ⟨_,⟨hc,v1,νz,rfl,hacc⟩,rfl⟩;refine⟨(wb,.cells (bS s pv cv hv lv v1 bl bc yc yq).toArray 211 (0,0))::(ν8++(ν7++(ν6++(νz++(ν4++(ν3++(ν2++(ν1)))))))),(aM fun _=>by simp only[aKY,aLD,aLF];omega),setTable s {s.table with marks:=s.table.marks++[(⟨a,b,c,d⟩:C2.Mk)]},by unfold vY;simp only[];repeat (first|rw[aKS Yd]|rw[aKO Yd]),pv,cv,hv,lv,v1,bl,bc,yc,yq,ν1,ν2,ν3,ν4,νz,ν6,ν7,ν8,rfl,?_⟩
  exact⟨hO.pl,hO.ct,hO.ht,hO.lev,(by have hz:(s.table.marks++[(⟨a,b,c,d⟩:C2.Mk)]).length=s.table.marks.length+1:=Ye;show bR _ _ _ (s.table.marks++[(⟨a,b,c,d⟩:C2.Mk)]).length _ _;rw[hz];exact hacc),hO.ln,hO.cn.up pC.up hle,hO.ch,hO.cl⟩
 ·rintro v (⟨h1,rfl⟩|⟨h1,h2,rfl⟩|⟨h1,h2,h3,rfl⟩|⟨h1,h2,h3,h4,rfl⟩)
  ·exact⟨_,by unfold vY;simp only[];repeat (first|rw[aKS Yd]|rw[aKO Yd]),rfl⟩
  ·exact⟨_,by unfold vY;simp only[];repeat (first|rw[aKS Yd]|rw[aKO Yd]),rfl⟩
  ·exact⟨_,by unfold vY;simp only[];repeat (first|rw[aKS Yd]|rw[aKO Yd]),rfl⟩
  ·exact⟨_,by unfold vY;simp only[];repeat (first|rw[aKS Yd]|rw[aKO Yd]),rfl⟩
theorem AT:fE Tryz.prog 165 1 (tJ):=by
 rintro wb s nv n ν D hn hlen hr ⟨pv,cv,hv,lv,mv,bl,bc,yc,yq,ν1,ν2,ν3,ν4,ν5,ν6,ν7,ν8,rfl,hO⟩ hsm;obtain⟨a,rfl⟩:=O9 hlen;have ha:0≤a:=(hr a Ye).1;refine jE.reorder (ν:=[]++((wb,.cells (bS s pv cv hv lv mv bl bc yc yq).toArray 211 (0,0))::ν5)++(ν8++(ν7++(ν6++(ν4++(ν3++(ν2++(ν1)))))))) ((DH wb s pv cv hv lv mv bl bc yc yq nv a ν5 D hn hO.mks hsm.mks ha).frameE) (aM fun _=>by simp only[aKY,aLD,aLF,bS];omega) ?_ ?_
 ·rintro D' v ν' hle ⟨_,⟨hc,v1,νz,rfl,hacc⟩,rfl⟩;refine⟨(wb,.cells (bS s pv cv hv lv v1 bl bc yc yq).toArray 211 (0,0))::(ν8++(ν7++(ν6++(νz++(ν4++(ν3++(ν2++(ν1)))))))),(aM fun _=>by simp only[aKY,aLD,aLF];omega),setTable s {s.table with marks:=s.table.marks.eraseIdx a.toNat},by unfold tJ;simp only[];repeat (first|rw[aKS Yd]|rw[aKO Yd]),pv,cv,hv,lv,v1,bl,bc,yc,yq,ν1,ν2,ν3,ν4,νz,ν6,ν7,ν8,rfl,?_⟩
  exact⟨hO.pl,hO.ct,hO.ht,hO.lev,(by have hz:(s.table.marks.eraseIdx a.toNat).length=s.table.marks.length-1:=(aOK Yd);show bR _ _ _ (s.table.marks.eraseIdx a.toNat).length _ _;rw[hz];exact hacc),hO.ln,hO.cn.up pC.up hle,hO.ch,hO.cl⟩
 ·rintro v ⟨h1,rfl⟩;exact⟨_,by unfold tJ;simp only[];repeat (first|rw[aKS Yd]|rw[aKO Yd]),rfl⟩
theorem MM:fE Tryz.prog 166 2 (mG 1):=by
 rintro wb s nv n ν D hn hlen hr ⟨pv,cv,hv,lv,mv,bl,bc,yc,yq,ν1,ν2,ν3,ν4,ν5,ν6,ν7,ν8,rfl,hO⟩ hsm;obtain⟨a,b,rfl⟩:=DZ hlen;refine jE.reorder (ν:=[]++((wb,.cells (bS s pv cv hv lv mv bl bc yc yq).toArray 211 (0,0))::ν6)++(ν8++(ν7++(ν5++(ν4++(ν3++(ν2++(ν1)))))))) ((ND wb s pv cv hv lv mv bl bc yc yq nv a b ν6 D hn hO.ln hsm.ln).frameE) (aM fun _=>by simp only[aKY,aLD,aLF,bS];omega) ?_ ?_
 ·rintro D' v ν' hle ⟨_,⟨hc,v1,νz,rfl,hacc⟩,rfl⟩;refine⟨(wb,.cells (bS s pv cv hv lv mv v1 bc yc yq).toArray 211 (0,0))::(ν8++(ν7++(νz++(ν5++(ν4++(ν3++(ν2++(ν1)))))))),(aM fun _=>by simp only[aKY,aLD,aLF];omega),setBook s {s.book with lines:=s.book.lines++[(⟨1,a,b⟩:C3.fC)]},by unfold mG;simp only[];repeat (first|rw[aKS Yd]|rw[aKO Yd]),pv,cv,hv,lv,mv,v1,bc,yc,yq,ν1,ν2,ν3,ν4,ν5,νz,ν7,ν8,rfl,?_⟩
  exact⟨hO.pl,hO.ct,hO.ht,hO.lev,hO.mks,(by have hz:(s.book.lines++[(⟨1,a,b⟩:C3.fC)]).length=s.book.lines.length+1:=Ye;show bR _ _ _ (s.book.lines++[(⟨1,a,b⟩:C3.fC)]).length _ _;rw[hz];exact hacc),hO.cn.up pC.up hle,hO.ch,hO.cl⟩
 ·rintro v (⟨h1,rfl⟩|⟨h1,h2,rfl⟩)
  ·exact⟨_,by unfold mG;simp only[];repeat (first|rw[aKS Yd]|rw[aKO Yd]),rfl⟩
  ·exact⟨_,by unfold mG;simp only[];repeat (first|rw[aKS Yd]|rw[aKO Yd]),rfl⟩
theorem ED:fE Tryz.prog 167 2 (mG 2):=by
 rintro wb s nv n ν D hn hlen hr ⟨pv,cv,hv,lv,mv,bl,bc,yc,yq,ν1,ν2,ν3,ν4,ν5,ν6,ν7,ν8,rfl,hO⟩ hsm;obtain⟨a,b,rfl⟩:=DZ hlen;refine jE.reorder (ν:=[]++((wb,.cells (bS s pv cv hv lv mv bl bc yc yq).toArray 211 (0,0))::ν6)++(ν8++(ν7++(ν5++(ν4++(ν3++(ν2++(ν1)))))))) ((KY wb s pv cv hv lv mv bl bc yc yq nv a b ν6 D hn hO.ln hsm.ln).frameE) (aM fun _=>by simp only[aKY,aLD,aLF,bS];omega) ?_ ?_
 ·rintro D' v ν' hle ⟨_,⟨hc,v1,νz,rfl,hacc⟩,rfl⟩;refine⟨(wb,.cells (bS s pv cv hv lv mv v1 bc yc yq).toArray 211 (0,0))::(ν8++(ν7++(νz++(ν5++(ν4++(ν3++(ν2++(ν1)))))))),(aM fun _=>by simp only[aKY,aLD,aLF];omega),setBook s {s.book with lines:=s.book.lines++[(⟨2,a,b⟩:C3.fC)]},by unfold mG;simp only[];repeat (first|rw[aKS Yd]|rw[aKO Yd]),pv,cv,hv,lv,mv,v1,bc,yc,yq,ν1,ν2,ν3,ν4,ν5,νz,ν7,ν8,rfl,?_⟩
  exact⟨hO.pl,hO.ct,hO.ht,hO.lev,hO.mks,(by have hz:(s.book.lines++[(⟨2,a,b⟩:C3.fC)]).length=s.book.lines.length+1:=Ye;show bR _ _ _ (s.book.lines++[(⟨2,a,b⟩:C3.fC)]).length _ _;rw[hz];exact hacc),hO.cn.up pC.up hle,hO.ch,hO.cl⟩
 ·rintro v (⟨h1,rfl⟩|⟨h1,h2,rfl⟩)
  ·exact⟨_,by unfold mG;simp only[];repeat (first|rw[aKS Yd]|rw[aKO Yd]),rfl⟩
  ·exact⟨_,by unfold mG;simp only[];repeat (first|rw[aKS Yd]|rw[aKO Yd]),rfl⟩
theorem o9:fE Tryz.prog 168 1 (qI):=by
 rintro wb s nv n ν D hn hlen hr ⟨pv,cv,hv,lv,mv,bl,bc,yc,yq,ν1,ν2,ν3,ν4,ν5,ν6,ν7,ν8,rfl,hO⟩ hsm;obtain⟨a,rfl⟩:=O9 hlen;have ha:0≤a:=(hr a Ye).1;refine jE.reorder (ν:=[]++((wb,.cells (bS s pv cv hv lv mv bl bc yc yq).toArray 211 (0,0))::ν6)++(ν8++(ν7++(ν5++(ν4++(ν3++(ν2++(ν1)))))))) ((DV wb s pv cv hv lv mv bl bc yc yq nv a ν6 D hn hO.ln hsm.ln ha).frameE) (aM fun _=>by simp only[aKY,aLD,aLF,bS];omega) ?_ ?_
 ·rintro D' v ν' hle ⟨_,⟨x,hx,hc,νz,rfl,hacc⟩,rfl⟩;refine⟨(wb,.cells (bS s pv cv hv lv mv bl bc yc yq).toArray 211 (0,0))::(ν8++(ν7++(νz++(ν5++(ν4++(ν3++(ν2++(ν1)))))))),(aM fun _=>by simp only[aKY,aLD,aLF];omega),setBook s {s.book with lines:=s.book.lines.set a.toNat {x with token:= -1}},by unfold qI;simp only[];rw[hx];simp only[];rw[aKO hc],pv,cv,hv,lv,mv,bl,bc,yc,yq,ν1,ν2,ν3,ν4,ν5,νz,ν7,ν8,rfl,?_⟩
  exact⟨hO.pl,hO.ct,hO.ht,hO.lev,hO.mks,(by have hz:(s.book.lines.set a.toNat {x with token:= -1}).length=s.book.lines.length:=Ye;show bR _ _ _ (s.book.lines.set a.toNat {x with token:= -1}).length _ _;rw[hz];exact hacc),hO.cn.up pC.up hle,hO.ch,hO.cl⟩
 ·rintro v (⟨h1,rfl⟩|⟨x,hx,h1,rfl⟩)
  ·exact⟨_,by unfold qI;simp only[];rw[aNE Yd],rfl⟩
  ·exact⟨_,by unfold qI;simp only[];rw[hx];exact aKS h1,rfl⟩
theorem l5:fE Tryz.prog 169 1 (tN):=by
 rintro wb s nv n ν D hn hlen hr ⟨pv,cv,hv,lv,mv,bl,bc,yc,yq,ν1,ν2,ν3,ν4,ν5,ν6,ν7,ν8,rfl,hO⟩ hsm;obtain⟨a,rfl⟩:=O9 hlen;have ha:0≤a:=(hr a Ye).1;refine jE.reorder (ν:=[]++((wb,.cells (bS s pv cv hv lv mv bl bc yc yq).toArray 211 (0,0))::ν6)++(ν8++(ν7++(ν5++(ν4++(ν3++(ν2++(ν1)))))))) ((DN wb s pv cv hv lv mv bl bc yc yq nv a ν6 D hn hO.ln hsm.ln ha).frameE) (aM fun _=>by simp only[aKY,aLD,aLF,bS];omega) ?_ ?_
 ·rintro D' v ν' hle ⟨_,⟨hc,v1,νz,rfl,hacc⟩,rfl⟩;refine⟨(wb,.cells (bS s pv cv hv lv mv v1 bc yc yq).toArray 211 (0,0))::(ν8++(ν7++(νz++(ν5++(ν4++(ν3++(ν2++(ν1)))))))),(aM fun _=>by simp only[aKY,aLD,aLF];omega),setBook s {s.book with lines:=s.book.lines.eraseIdx a.toNat},by unfold tN;simp only[];repeat (first|rw[aKS Yd]|rw[aKO Yd]),pv,cv,hv,lv,mv,v1,bc,yc,yq,ν1,ν2,ν3,ν4,ν5,νz,ν7,ν8,rfl,?_⟩
  exact⟨hO.pl,hO.ct,hO.ht,hO.lev,hO.mks,(by have hz:(s.book.lines.eraseIdx a.toNat).length=s.book.lines.length-1:=(aOK Yd);show bR _ _ _ (s.book.lines.eraseIdx a.toNat).length _ _;rw[hz];exact hacc),hO.cn.up pC.up hle,hO.ch,hO.cl⟩
 ·rintro v ⟨h1,rfl⟩;exact⟨_,by unfold tN;simp only[];repeat (first|rw[aKS Yd]|rw[aKO Yd]),rfl⟩
theorem AR:fE Tryz.prog 170 4 (qV):=by
 rintro wb s nv n ν D hn hlen hr ⟨pv,cv,hv,lv,mv,bl,bc,yc,yq,ν1,ν2,ν3,ν4,ν5,ν6,ν7,ν8,rfl,hO⟩ hsm;obtain⟨a,b,c,d,rfl⟩:=aCW hlen;refine jE.reorder (ν:=[]++((wb,.cells (bS s pv cv hv lv mv bl bc yc yq).toArray 211 (0,0))::ν7)++(ν8++(ν6++(ν5++(ν4++(ν3++(ν2++(ν1)))))))) ((CV wb s pv cv hv lv mv bl bc yc yq nv a b c d ν7 D hn hO.ch hsm.ch).frameE) (aM fun _=>by simp only[aKY,aLD,aLF,bS];omega) ?_ ?_
 ·rintro D' v ν' hle ⟨_,⟨hc,v1,νz,rfl,hacc⟩,rfl⟩;refine⟨(wb,.cells (bS s pv cv hv lv mv bl bc v1 yq).toArray 211 (0,0))::(ν8++(νz++(ν6++(ν5++(ν4++(ν3++(ν2++(ν1)))))))),(aM fun _=>by simp only[aKY,aLD,aLF];omega),setYard s {s.yard with chairs:=s.yard.chairs++[(⟨a,⟨b,c,d⟩⟩:C7.Ch)]},by unfold qV;simp only[];repeat (first|rw[aKS Yd]|rw[aKO Yd]),pv,cv,hv,lv,mv,bl,bc,v1,yq,ν1,ν2,ν3,ν4,ν5,ν6,νz,ν8,rfl,?_⟩
  exact⟨hO.pl,hO.ct,hO.ht,hO.lev,hO.mks,hO.ln,hO.cn.up pC.up hle,(by have hz:(s.yard.chairs++[(⟨a,⟨b,c,d⟩⟩:C7.Ch)]).length=s.yard.chairs.length+1:=Ye;show bR _ _ _ (s.yard.chairs++[(⟨a,⟨b,c,d⟩⟩:C7.Ch)]).length _ _;rw[hz];exact hacc),hO.cl⟩
 ·rintro v (⟨h1,rfl⟩|⟨h1,h2,rfl⟩)
  ·exact⟨_,by unfold qV;simp only[];repeat (first|rw[aKS Yd]|rw[aKO Yd]),rfl⟩
  ·exact⟨_,by unfold qV;simp only[];repeat (first|rw[aKS Yd]|rw[aKO Yd]),rfl⟩
theorem MR:fE Tryz.prog 171 3 (zC):=by
 rintro wb s nv n ν D hn hlen hr ⟨pv,cv,hv,lv,mv,bl,bc,yc,yq,ν1,ν2,ν3,ν4,ν5,ν6,ν7,ν8,rfl,hO⟩ hsm;obtain⟨a,b,c,rfl⟩:=aDD hlen;have ha:0≤a:=(hr a Ye).1;have hb:0≤b:=(hr b Ye).1;refine jE.reorder (ν:=[]++((wb,.cells (bS s pv cv hv lv mv bl bc yc yq).toArray 211 (0,0))::ν7)++(ν8++(ν6++(ν5++(ν4++(ν3++(ν2++(ν1)))))))) ((PV wb s pv cv hv lv mv bl bc yc yq nv a b c ν7 D hn hO.ch hsm.ch ha hb).frameE) (aM fun _=>by simp only[aKY,aLD,aLF,bS];omega) ?_ ?_
 ·rintro D' v ν' hle ⟨_,⟨x,hx,hc,νz,rfl,hacc⟩,rfl⟩;refine⟨(wb,.cells (bS s pv cv hv lv mv bl bc yc yq).toArray 211 (0,0))::(ν8++(νz++(ν6++(ν5++(ν4++(ν3++(ν2++(ν1)))))))),(aM fun _=>by simp only[aKY,aLD,aLF];omega),setYard s {s.yard with chairs:=s.yard.chairs.set a.toNat {x with parts:=GS x.parts b.toNat c}},by unfold zC;simp only[];rw[hx];simp only[];repeat (first|rw[aKS Yd]|rw[aKO Yd]),pv,cv,hv,lv,mv,bl,bc,yc,yq,ν1,ν2,ν3,ν4,ν5,ν6,νz,ν8,rfl,?_⟩
  exact⟨hO.pl,hO.ct,hO.ht,hO.lev,hO.mks,hO.ln,hO.cn.up pC.up hle,(by have hz:(s.yard.chairs.set a.toNat {x with parts:=GS x.parts b.toNat c}).length=s.yard.chairs.length:=Ye;show bR _ _ _ (s.yard.chairs.set a.toNat {x with parts:=GS x.parts b.toNat c}).length _ _;rw[hz];exact hacc),hO.cl⟩
 ·rintro v (⟨h1,rfl⟩|⟨h1,h2,rfl⟩|⟨h1,h2,h3,rfl⟩)
  ·exact⟨_,by unfold zC;simp only[];rw[aNE Yd],rfl⟩
  ·exact⟨_,by unfold zC;simp only[];rw[aJT Yd];exact aKS h2,rfl⟩
  ·exact⟨_,by unfold zC;simp only[];rw[aJT Yd];exact(aKO Yd).trans (aKS h3),rfl⟩
theorem QT:fE Tryz.prog 172 1 (LB):=by
 rintro wb s nv n ν D hn hlen hr ⟨pv,cv,hv,lv,mv,bl,bc,yc,yq,ν1,ν2,ν3,ν4,ν5,ν6,ν7,ν8,rfl,hO⟩ hsm;obtain⟨a,rfl⟩:=O9 hlen;refine jE.reorder (ν:=[]++[(wb,.cells (bS s pv cv hv lv mv bl bc yc yq).toArray 211 (0,0))]++(ν8++(ν7++(ν6++(ν5++(ν4++(ν3++(ν2++(ν1))))))))) ((VA wb s pv cv hv lv mv bl bc yc yq nv a D hn).frame (post':=fun D' v ν'=>a≤9∧ν'=[(wb,.cells [pv,cv,.int .i64 s.row.wrong,.int .i64 s.row.off,.int .i64 s.table.last,hv,.int .i64 s.table.step,lv,mv,.int .i64 s.book.chairs,.int .i64 s.book.coin,.int .i64 s.book.box,bl,bc,yc,.int .i64 a,yq].toArray 211 (0,0))]++(ν8++(ν7++(ν6++(ν5++(ν4++(ν3++(ν2++(ν1))))))))) (fun D' v ν' _ h=>⟨h.1,by rw[h.2];rfl⟩)) (aM fun _=>by simp only[aKY,aLD,aLF,bS];omega) ?_ ?_
 ·rintro D' v ν' hle ⟨h1,rfl⟩;refine⟨_,.refl _,setYard s {s.yard with fit:=a},by unfold LB;simp only[];repeat (first|rw[aKS Yd]|rw[aKO Yd]),pv,cv,hv,lv,mv,bl,bc,yc,yq,ν1,ν2,ν3,ν4,ν5,ν6,ν7,ν8,rfl,⟨hO.pl,hO.ct,hO.ht,hO.lev,hO.mks,hO.ln,hO.cn.up pC.up hle,hO.ch,hO.cl⟩⟩
 ·rintro v ⟨h1,rfl⟩;exact⟨_,by unfold LB;simp only[];repeat (first|rw[aKS Yd]|rw[aKO Yd]),rfl⟩
theorem DY:fE Tryz.prog 173 2 (uX):=by
 rintro wb s nv n ν D hn hlen hr ⟨pv,cv,hv,lv,mv,bl,bc,yc,yq,ν1,ν2,ν3,ν4,ν5,ν6,ν7,ν8,rfl,hO⟩ hsm;obtain⟨a,b,rfl⟩:=DZ hlen;refine jE.reorder (ν:=[]++((wb,.cells (bS s pv cv hv lv mv bl bc yc yq).toArray 211 (0,0))::ν8)++(ν7++(ν6++(ν5++(ν4++(ν3++(ν2++(ν1)))))))) ((JU wb s pv cv hv lv mv bl bc yc yq nv a b ν8 D hn hO.cl hsm.cl).frameE) (aM fun _=>by simp only[aKY,aLD,aLF,bS];omega) ?_ ?_
 ·rintro D' v ν' hle ⟨_,⟨hc,v1,νz,rfl,hacc⟩,rfl⟩;refine⟨(wb,.cells (bS s pv cv hv lv mv bl bc yc v1).toArray 211 (0,0))::(νz++(ν7++(ν6++(ν5++(ν4++(ν3++(ν2++(ν1)))))))),(aM fun _=>by simp only[aKY,aLD,aLF];omega),setYard s {s.yard with claims:=s.yard.claims++[(a,b)]},by unfold uX;simp only[];repeat (first|rw[aKS Yd]|rw[aKO Yd]),pv,cv,hv,lv,mv,bl,bc,yc,v1,ν1,ν2,ν3,ν4,ν5,ν6,ν7,νz,rfl,?_⟩
  exact⟨hO.pl,hO.ct,hO.ht,hO.lev,hO.mks,hO.ln,hO.cn.up pC.up hle,hO.ch,(by have hz:(s.yard.claims++[(a,b)]).length=s.yard.claims.length+1:=Ye;show bR _ _ _ (s.yard.claims++[(a,b)]).length _ _;rw[hz];exact hacc)⟩
 ·rintro v (⟨h1,rfl⟩|⟨h1,h2,rfl⟩)
  ·exact⟨_,by unfold uX;simp only[];repeat (first|rw[aKS Yd]|rw[aKO Yd]),rfl⟩
  ·exact⟨_,by unfold uX;simp only[];repeat (first|rw[aKS Yd]|rw[aKO Yd]),rfl⟩
theorem Z7:fE Tryz.prog 174 1 (pV):=by
 rintro wb s nv n ν D hn hlen hr ⟨pv,cv,hv,lv,mv,bl,bc,yc,yq,ν1,ν2,ν3,ν4,ν5,ν6,ν7,ν8,rfl,hO⟩ hsm;obtain⟨a,rfl⟩:=O9 hlen;have ha:0≤a:=(hr a Ye).1;refine jE.reorder (ν:=[]++((wb,.cells (bS s pv cv hv lv mv bl bc yc yq).toArray 211 (0,0))::ν8)++(ν7++(ν6++(ν5++(ν4++(ν3++(ν2++(ν1)))))))) ((w9 wb s pv cv hv lv mv bl bc yc yq nv a ν8 D hn hO.cl hsm.cl ha).frameE) (aM fun _=>by simp only[aKY,aLD,aLF,bS];omega) ?_ ?_
 ·rintro D' v ν' hle ⟨_,⟨hc,v1,νz,rfl,hacc⟩,rfl⟩;refine⟨(wb,.cells (bS s pv cv hv lv mv bl bc yc v1).toArray 211 (0,0))::(νz++(ν7++(ν6++(ν5++(ν4++(ν3++(ν2++(ν1)))))))),(aM fun _=>by simp only[aKY,aLD,aLF];omega),setYard s {s.yard with claims:=s.yard.claims.eraseIdx a.toNat},by unfold pV;simp only[];repeat (first|rw[aKS Yd]|rw[aKO Yd]),pv,cv,hv,lv,mv,bl,bc,yc,v1,ν1,ν2,ν3,ν4,ν5,ν6,ν7,νz,rfl,?_⟩
  exact⟨hO.pl,hO.ct,hO.ht,hO.lev,hO.mks,hO.ln,hO.cn.up pC.up hle,hO.ch,(by have hz:(s.yard.claims.eraseIdx a.toNat).length=s.yard.claims.length-1:=(aOK Yd);show bR _ _ _ (s.yard.claims.eraseIdx a.toNat).length _ _;rw[hz];exact hacc)⟩
 ·rintro v ⟨h1,rfl⟩;exact⟨_,by unfold pV;simp only[];repeat (first|rw[aKS Yd]|rw[aKO Yd]),rfl⟩
end L12
end Go.Fs
namespace Go.Fs
open Go.Proofs
namespace L12
open C12
def uA(s:aN)(line:ByteArray):aN×Int:=match jW line with
 |none=>(s,4)
 |some (act,n)=>match act s n with
  |.error c=>(s,c)
  |.ok s'=>if dG s'=0 then(s',0)else(s,dG s')
theorem GP{s:aN}{line:ByteArray}(h:jW line=none):uA s line=(s,4):=by unfold uA;rw[h]
theorem aBS{s:aN}{line:ByteArray}{act:fI}{n:List Int}{c:Int}(h:jW line=some (act,n))(he:act s n=.error c):uA s line=(s,c):=by unfold uA;rw[h];simp only[];rw[he]
theorem ZO{s s2:aN}{line:ByteArray}{act:fI}{n:List Int}(h:jW line=some (act,n))(he:act s n=.ok s2)(hs:dG s2≠0):uA s line=(s,dG s2):=by unfold uA;rw[h];simp only[];rw[he];exact aKO hs
theorem VJ{s s2:aN}{line:ByteArray}{act:fI}{n:List Int}(h:jW line=some (act,n))(he:act s n=.ok s2)(hs:dG s2=0):uA s line=(s2,0):=by unfold uA;rw[h];simp only[];rw[he];exact aKS hs
theorem GM{s s2:aN}{line:ByteArray}{c:Int}{D:aA}{v:Value}(h:uA s line=(s2,c))(hs:gW D v s2):∃v1,Value.tuple #[v,.int .i64 c]=.tuple #[v1,.int .i64 (uA s line).2]∧gW D v1 (uA s line).1:=by rw[h];exact⟨v,rfl,hs⟩
theorem wE{s:aN}{line:ByteArray}{c:Int}{D:aA}{v:Value}(h:uA s line=(s,c))(hs:gW D v s):∃v1,Value.tuple #[v,.int .i64 c]=.tuple #[v1,.int .i64 (uA s line).2]∧gW D v1 (uA s line).1:=GM h hs
theorem _root_.Go.Fs.C12.kD.small{s:aN}(h:kD s):wF s:=⟨by have:=h.pl;omega,by have:=h.ct;omega,by have:=h.ht;omega,by have:=h.lev;omega,by have:=h.mks;omega,by have:=h.ln;omega,by have:=h.ch;omega,by have:=h.cl;omega⟩
theorem zE.up{D D':aA}{wb:Nat}{s:aN}{ν:aC}(h:zE D wb s ν)(hl:Le D D'):zE D' wb s ν:=by
 obtain⟨pv,cv,hv,lv,mv,bl,bc,yc,yq,ν1,ν2,ν3,ν4,ν5,ν6,ν7,ν8,h1,h2⟩:=h;exact⟨pv,cv,hv,lv,mv,bl,bc,yc,yq,ν1,ν2,ν3,ν4,ν5,ν6,ν7,ν8,h1,⟨h2.pl,h2.ct,h2.ht,h2.lev,h2.mks,h2.ln,h2.cn.up pC.up hl,h2.ch,h2.cl⟩⟩
theorem WY{D:aA}{wb:Nat}{s:aN}{ν:aC}(h:zE D wb s ν):∀p∈ν,cK p.2:=by
 obtain⟨pv,cv,hv,lv,mv,bl,bc,yc,yq,ν1,ν2,ν3,ν4,ν5,ν6,ν7,ν8,rfl,h2⟩:=h;intro p hp;simp only[aJX,aKM]at hp;rcases hp with rfl|hp|hp|hp|hp|hp|hp|hp|hp
 ·rfl
 ·exact jY h2.cl p hp
 ·exact jY h2.ch p hp
 ·exact jY h2.ln p hp
 ·exact jY h2.mks p hp
 ·exact jY h2.lev p hp
 ·exact jY h2.ht p hp
 ·exact jY h2.ct p hp
 ·exact jY h2.pl p hp
theorem kX{α:Type}{R:Rd α}{D:aA}{sz:Nat}{v:Value}{xs:List α}(h:Sl D R sz v xs):cell1 v=true:=by
 obtain⟨a,c,rfl⟩:=h.shape;rfl
theorem gU{D:aA}{s:aN}{pv cv hv lv mv bl bc yc yq:Value}(h:gM D s pv cv hv lv mv bl bc yc yq):∀u∈[pv,cv,.int .i64 s.row.wrong,.int .i64 s.row.off,.int .i64 s.table.last,hv,.int .i64 s.table.step,lv,mv,.int .i64 s.book.chairs,.int .i64 s.book.coin,.int .i64 s.book.box,bl,bc,yc,.int .i64 s.yard.fit,yq],cell1 u=true:=by
 intro u hu;simp only[aJX,aJN,aMT]at hu;rcases hu with rfl|rfl|rfl|rfl|rfl|rfl|rfl|rfl|rfl|rfl|rfl|rfl|rfl|rfl|rfl|rfl|rfl<;>first|rfl|exact kX h.pl|exact kX h.ct|exact kX h.ht|exact kX h.lev|exact kX h.mks|exact kX h.ln|exact kX h.cn|exact kX h.ch|exact kX h.cl
section
variable{P:Program}{X:Cx}{Q:Exit→Act→World→Prop}{σ:bT}{Ds:List aA}
theorem m7{c:Code}{B ν:aC}{D0:aA}{wb:Nat}{s:aN}(h:zE D0 wb s ν)(hmods:X.mods=[])(hD0:D0∈Ds:=by simp)(hsm:wF s:=by assumption)
  (kk:∀D pv cv hv lv mv bl bc yc yq,(∀D₁∈Ds,Le D₁ D)→gM D s pv cv hv lv mv bl bc yc yq→WC P X Q c σ ((wb,.cells (bS s pv cv hv lv mv bl bc yc yq).toArray 211 (0,0))::B) (D::Ds)):WC P X Q c σ (ν++B) Ds:=by
 obtain⟨pv,cv,hv,lv,mv,bl,bc,yc,yq,ν1,ν2,ν3,ν4,ν5,ν6,ν7,ν8,rfl,hO⟩:=h;intro a w hh;obtain⟨E8,k8,F8,h8⟩:=(hh.boxesEq (μ':=[(wb,.cells (bS s pv cv hv lv mv bl bc yc yq).toArray 211 (0,0))]++ν8++(ν7++(ν6++(ν5++(ν4++(ν3++(ν2++(ν1++B)))))))) Ye).freeze hO.cl hmods;obtain⟨E7,k7,F7,h7⟩:=(h8.boxesEq (μ':=[(wb,.cells (bS s pv cv hv lv mv bl bc yc yq).toArray 211 (0,0))]++ν7++(ν6++(ν5++(ν4++(ν3++(ν2++(ν1++B))))))) Ye).freeze hO.ch hmods;obtain⟨E6,k6,F6,h6⟩:=(h7.boxesEq (μ':=[(wb,.cells (bS s pv cv hv lv mv bl bc yc yq).toArray 211 (0,0))]++ν6++(ν5++(ν4++(ν3++(ν2++(ν1++B)))))) Ye).freeze hO.ln hmods;obtain⟨E5,k5,F5,h5⟩:=(h6.boxesEq (μ':=[(wb,.cells (bS s pv cv hv lv mv bl bc yc yq).toArray 211 (0,0))]++ν5++(ν4++(ν3++(ν2++(ν1++B))))) Ye).freeze hO.mks hmods;obtain⟨E4,k4,F4,h4⟩:=(h5.boxesEq (μ':=[(wb,.cells (bS s pv cv hv lv mv bl bc yc yq).toArray 211 (0,0))]++ν4++(ν3++(ν2++(ν1++B)))) Ye).freeze hO.lev hmods;obtain⟨E3,k3,F3,h3⟩:=(h4.boxesEq (μ':=[(wb,.cells (bS s pv cv hv lv mv bl bc yc yq).toArray 211 (0,0))]++ν3++(ν2++(ν1++B))) Ye).freeze hO.ht hmods;obtain⟨E2,k2,F2,h2⟩:=(h3.boxesEq (μ':=[(wb,.cells (bS s pv cv hv lv mv bl bc yc yq).toArray 211 (0,0))]++ν2++(ν1++B)) Ye).freeze hO.ct hmods;obtain⟨E1,k1,F1,h1⟩:=(h2.boxesEq (μ':=[(wb,.cells (bS s pv cv hv lv mv bl bc yc yq).toArray 211 (0,0))]++ν1++B) Ye).freeze hO.pl hmods;refine kk E1 pv cv hv lv mv bl bc yc yq (fun D₁ hD₁=>k1 D₁ (by simp[hD₁])) ⟨kE (R:=RI) (n:=1) (f:=cI) (fun _ _=>rfl) (fun _=>rfl) F1 (by have:=hsm.pl;omega),(kE (R:=RC) (n:=3) (f:=cC) (fun _ _=>rfl) (fun _=>rfl) F2 (by have:=hsm.ct;omega)).up RC.up (k1 E2 Ye),(kE (R:=zX) (n:=2) (f:=cP) (fun _ _=>rfl) (fun _=>rfl) F3 (by have:=hsm.ht;omega)).up zX.up (k1 E3 Ye),(kE (R:=RI) (n:=1) (f:=cI) (fun _ _=>rfl) (fun _=>rfl) F4 (by have:=hsm.lev;omega)).up RI.up (k1 E4 Ye),(kE (R:=p4) (n:=4) (f:=cM) (fun _ _=>rfl) (fun _=>rfl) F5 (by have:=hsm.mks;omega)).up p4.up (k1 E5 Ye),
  (kE (R:=nZ) (n:=3) (f:=cL) (fun _ _=>rfl) (fun _=>rfl) F6 (by have:=hsm.ln;omega)).up nZ.up (k1 E6 Ye),hO.cn.up pC.up (k1 D0 (by simp[hD0])),(kE (R:=qY) (n:=4) (f:=cH) (fun _ _=>rfl) (fun _=>rfl) F7 (by have:=hsm.ch;omega)).up qY.up (k1 E7 Ye),(kE (R:=R2) (n:=2) (f:=cP) (fun _ _=>rfl) (fun _=>rfl) F8 (by have:=hsm.cl;omega)).up R2.up (k1 E8 Ye)⟩ a w ?_
 obtain⟨g1,g2,g3,Dx,g4,g5,g6⟩:=h1;exact⟨g1,g2,g3,Dx,g4,fun D hD=>by
  rcases aJX.1 hD with rfl|hD
  ·exact g5 _ aKI
  ·exact g5 D (by simp[hD]),g6⟩
end

def oQ(b:ByteArray):Option Int:=lM b.data.toList
theorem uO(line:ByteArray):∃p0 ps,dB line=p0::ps:=by
 unfold dB;cases h:kI line.data.toList with
 |nil=>exact absurd h (VD _)
 |cons p ps=>exact⟨_,_,rfl⟩
theorem yF(line:ByteArray):(dB line).length≤line.size+1:=by unfold dB;rw[aMI];exact b9 _
theorem TW{line p0 x:ByteArray}{ps:List ByteArray}{k:Nat}(h:dB line=p0::ps)(hx:ps[k]?= some x):x.size≤line.size:=by
 have hm:x∈dB line:=by rw[h];exact aKA _ (aJV hx)
 unfold dB at hm;obtain⟨p,hp,rfl⟩:=aJY.1 hm;exact JD hp
theorem aGM:∀ps:List (List UInt8),(ps.map f8).mapM oQ=ps.mapM lM
 | []=>rfl
 |p::ps=>by
  rw[aLB,aNO,aNO,aGM ps];rfl
theorem yK{line p0:ByteArray}{ps:List ByteArray}(h:dB line=p0::ps):jW line=match lC.find? (fun x=>x.1==p0.data.toList)with
  |none=>none
  |some (_,k,act)=>if ps.length=k then(ps.mapM oQ).map fun n=>(act,n)else none:=by
 unfold dB at h;unfold jW;cases hc:kI line.data.toList with
 |nil=>rw[hc]at h;cases h
 |cons p qs=>
  rw[hc]at h;simp only[aLB,aLS]at h;obtain⟨rfl,rfl⟩:=h;simp only[aMI];rw[aGM];rfl
theorem B9{line p0:ByteArray}{ps:List ByteArray}{l:List UInt8}{k:Nat}{act:fI}{ns:List Int}(h:dB line=p0::ps)(hf:lC.find? (fun x=>x.1==p0.data.toList)=some (l,k,act))(hk:ps.length=k)(hn:ps.mapM oQ=some ns):jW line=some (act,ns):=by
 rw[yK h,hf];simp only[];rw[aKS hk,hn];rfl
theorem yP:∀{ps:List ByteArray} {k:Nat} {x:ByteArray},ps[k]?= some x→oQ x=none→ps.mapM oQ=none
 | [],_,_,h,_=>by simp at h
 |p::ps,0,x,h,hx=>by
  obtain rfl:p=x:=by simpa using h
  rw[aNO,hx];rfl
 |p::ps,k+1,x,h,hx=>by
  rw[aNO,yP (k:=k) Yan hx];cases oQ p<;>rfl
theorem MT{line p0 x:ByteArray}{ps:List ByteArray}{k:Nat}(h:dB line=p0::ps)(hx:ps[k]?= some x)(hn:lM x.data.toList=none):jW line=none:=by
 rw[yK h,yP hx hn];split
 ·rfl
 ·split<;>rfl
theorem JX{ps:List ByteArray}{x:ByteArray}{ns:List Int}{m:Int}(h:ps.mapM oQ=some ns)(hx:oQ x=some m):(ps++[x]).mapM oQ=some (ns++[m]):=by
 induction ps generalizing ns with
 |nil=>
  obtain rfl:([]:List Int)=ns:=by simpa using h
  rw[aLG,aNO,hx];rfl
 |cons p ps ih=>
  rw[aNO]at h;cases hp:oQ p with
  |none=>rw[hp]at h;cases h
  |some q=>
   cases hq:ps.mapM oQ with
   |none=>rw[hp,hq]at h;cases h
   |some qs=>
    rw[hp,hq]at h;obtain rfl:q::qs=ns:=aKZ h;rw[aML,aNO,hp,ih hq];rfl
theorem p9{ps:List ByteArray}{k:Nat}{x:ByteArray}{ns:List Int}{m:Int}(hx:ps[k]?= some x)(h:(ps.take k).mapM oQ=some ns)(hm:lM x.data.toList=some m):(ps.take (k+1)).mapM oQ=some (ns++[m]):=by
 rw[aKL,hx];exact JX h hm
theorem I6:∀{ps:List ByteArray} {ns:List Int},ps.mapM oQ=some ns→∀x∈ns,0≤x∧x≤999
 | [],ns,h=>by
  obtain rfl:([]:List Int)=ns:=by simpa using h
  intro x hx;cases hx
 |p::ps,ns,h=>by
  rw[aNO]at h;cases hp:oQ p with
  |none=>rw[hp]at h;cases h
  |some q=>
   cases hq:ps.mapM oQ with
   |none=>rw[hp,hq]at h;cases h
   |some qs=>
    rw[hp,hq]at h;obtain rfl:q::qs=ns:=aKZ h;intro x hx;rcases aJX.1 hx with rfl|hx
    ·have:=DL hp;omega
    ·exact I6 hq x hx

def QZ:List (ByteArray×Value)→List (List UInt8×Nat×fI)→Prop
 | [],[]=>True
 |(b,v)::T,(l,k,act)::L=>b.data.toList=l∧(∃f,v=.agg #[.int .i64 (k:Int),.func (.func f) #[] #[]]∧fE Go.Proofs.Tryz.prog f k act)∧QZ T L
 |_,_=>False
theorem aBI:QZ Z4 lC:=⟨rfl,⟨_,rfl,EY⟩,⟨rfl,⟨_,rfl,IL⟩,⟨rfl,⟨_,rfl,CB⟩,⟨rfl,⟨_,rfl,KP⟩,⟨rfl,⟨_,rfl,Y0⟩,⟨rfl,⟨_,rfl,DT⟩,⟨rfl,⟨_,rfl,PM⟩,⟨rfl,⟨_,rfl,LO⟩,⟨rfl,⟨_,rfl,JA⟩,⟨rfl,⟨_,rfl,EN⟩,⟨rfl,⟨_,rfl,ES⟩,⟨rfl,⟨_,rfl,HW⟩,⟨rfl,⟨_,rfl,AT⟩,⟨rfl,⟨_,rfl,MM⟩,⟨rfl,⟨_,rfl,ED⟩,⟨rfl,⟨_,rfl,o9⟩,⟨rfl,⟨_,rfl,l5⟩,⟨rfl,⟨_,rfl,AR⟩,⟨rfl,⟨_,rfl,MR⟩,⟨rfl,⟨_,rfl,QT⟩,⟨rfl,⟨_,rfl,DY⟩,⟨rfl,⟨_,rfl,Z7⟩,aGL⟩⟩⟩⟩⟩⟩⟩⟩⟩⟩⟩⟩⟩⟩⟩⟩⟩⟩⟩⟩⟩⟩
theorem IA(a b:ByteArray):(a==b)=(b.data.toList==a.data.toList):=by
 rw[aNR];constructor
 ·intro h;rw[beq_toListBytes,ByteArray.toList_eq,ByteArray.toList_eq]at h;rw[eq_of_beq h];simp
 ·intro h;rw[beq_toListBytes,ByteArray.toList_eq,ByteArray.toList_eq,eq_of_beq h];simp
theorem x3(p:ByteArray):∀(T:List (ByteArray×Value)) (L:List (List UInt8×Nat×fI)) (i:Nat),QZ T L→(xQ p T i=none∧L.find? (fun x=>x.1==p.data.toList)=none)∨(∃(j k:Nat) (act:fI) (f:FuncId),xQ p T i=some (j,.agg #[.int .i64 (k:Int),.func (.func f) #[] #[]])∧L.find? (fun x=>x.1==p.data.toList)=some (p.data.toList,k,act)∧fE Go.Proofs.Tryz.prog f k act)
 | [],[],_,_=>aKP ⟨rfl,rfl⟩
 | [],_::_,_,h=>h.elim
 |_::_,[],_,h=>h.elim
 |(b,v)::T,(l,k,act)::L,i,h=>by
  obtain⟨rfl,⟨f,rfl,hw⟩,hT⟩:=h;unfold xQ;rw[List.find?_cons];rw[IA p b];cases hb:b.data.toList==p.data.toList with
  |true=>
   refine aKB ⟨i,k,act,f,by rw[aKS rfl],?_,hw⟩;simp only[];rw[eq_of_beq hb]
  |false=>
   rw[aKO Ye];exact x3 p T L (i+1) hT
theorem JG(p:ByteArray):∃(k:Nat) (c:Value) (b:Bool),QL p Z4 (.agg #[.int .i64 0,.nilFunc])=.agg #[.int .i64 (k:Int),c]∧(xQ p Z4 0).isSome=b∧(b=true→∃act f,lC.find? (fun x=>x.1==p.data.toList)=some (p.data.toList,k,act)∧c=.func (.func f) #[] #[]∧fE Go.Proofs.Tryz.prog f k act)∧(b=false→lC.find? (fun x=>x.1==p.data.toList)=none)∧cell1 c=true:=by
 unfold QL;rcases x3 p _ _ 0 aBI with⟨h1,h2⟩|⟨j,k,act,f,h1,h2,h3⟩
 ·rw[h1];exact⟨0,.nilFunc,false,rfl,rfl,(fun h=>by cases h),fun _=>h2,rfl⟩
 ·rw[h1];exact⟨k,_,true,rfl,rfl,fun _=>⟨act,f,h2,rfl,h3⟩,(fun h=>by cases h),rfl⟩
theorem T2{p l:List UInt8}{k:Nat}{act:fI}{s s2:aN}{n:List Int}(h:lC.find? (fun x=>x.1==p)=some (l,k,act))(hk:kD s)(ha:act s n=.ok s2):kD s2:=EE _ (List.mem_of_find?_eq_some h) s n s2 hk ha
theorem CY{line p0:ByteArray}{ps:List ByteArray}{k:Nat}{c:Value}{b:Bool}(h:dB line=p0::ps)(hno:b=false→lC.find? (fun x=>x.1==p0.data.toList)=none)(hyes:b=true→∃act f,lC.find? (fun x=>x.1==p0.data.toList)=some (p0.data.toList,k,act)∧c=.func (.func f) #[] #[]∧fE Go.Proofs.Tryz.prog f k act)(hx:b=false∨¬((dB line).length:Int)-1=(k:Int)):jW line=none:=by
 rw[yK h];cases b with
 |false=>rw[hno rfl]
 |true=>
  obtain⟨act,f,hf,_,_⟩:=hyes rfl;rw[hf];simp only[];rw[aKO];intro e;rcases hx with hx|hx
  ·cases hx
  ·refine hx ?_;rw[h,aKD];omega
theorem XG{line p0:ByteArray}{ps:List ByteArray}{k:Nat}{b:Bool}(h:dB line=p0::ps)(hf:([(!b||decide (((dB line).length:Int)-1≠(k:Int)))].any fun x=>true==x)=false):b=true∧ps.length=k:=by
 have h2:b=true∧((dB line).length:Int)-1=(k:Int):=by simpa using hf
 refine⟨h2.1,?_⟩;have:=h2.2;rw[h,aKD]at this;omega
theorem WV(q1 q2 q3:Nat)(c2:List Value)(v3:Value)(D:aA):W3 Tryz.prog 98 [.pointer (some ⟨q1,0,none⟩),.pointer (some ⟨q2,0,none⟩),.pointer (some ⟨q3,0,none⟩)] D [(q3,.cells [v3].toArray 44 (0,0)),(q2,.cells c2.toArray 42 (0,0))] .returning .returning (fun _ ν'=>ν'=[(q3,.cells [v3].toArray 44 (0,0)),(q2,.cells c2.toArray 42 (0,0))]):=by
 refine SG (t:=6) (rv:=.nilIface) 15 Tryz.func98 rfl rfl rfl rfl rfl (fun c₀ cs hm=>aKB ⟨NU hm,rfl,rfl⟩) (fun h0 hwl hwn=>Zai<|C.s1<|BO rfl U20 rfl (Or.inl rfl) rfl trivial<|L.n1<|aJ rfl (fun hc1=>?_) (fun hc1=>?_))
 ·refine C.rg<|Zi rfl<|Zz<|Zak ?_;exact dE (A:=[]) (ν':=[_,_]) (B:=[]) (vs:=[]) rfl rfl rfl aGL (fun D' hD=>rfl)
 ·cases hc1
theorem A1(q1 q2 q3:Nat)(s:aN)(pv cv hv lv mv bl bc yc yq:Value)(code:Int)(D:aA)(hB:At D q1 0 (bS s pv cv hv lv mv bl bc yc yq))(hL:gM D s pv cv hv lv mv bl bc yc yq):W3 Tryz.prog 98 [.pointer (some ⟨q1,0,none⟩),.pointer (some ⟨q2,0,none⟩),.pointer (some ⟨q3,0,none⟩)] D [(q3,.cells [.int .i64 0].toArray 44 (0,0)),(q2,.cells [.slice none 0 0,.slice none 0 0,.int .i64 0,.int .i64 0,.int .i64 0,.slice none 0 0,.int .i64 0,.slice none 0 0,.slice none 0 0,.int .i64 0,.int .i64 0,.int .i64 0,.slice none 0 0,.slice none 0 0,.slice none 0 0,.int .i64 0,.slice none 0 0].toArray 42 (0,0))] (.panicking (kL (dU code))) (.panicking [{v:=dU code,recovered:=true}]) (fun _ ν'=>ν'=[(q3,.cells [.int .i64 code].toArray 44 (0,0)),(q2,.cells (bS s pv cv hv lv mv bl bc yc yq).toArray 42 (0,0))]):=by
 refine SG (t:=6) (rv:=(dU code)) 15 Tryz.func98 rfl rfl rfl rfl rfl (fun c₀ cs hm=>aKP (QS hm)) (fun h0 hwl hwn=>Zai<|C.s1<|BO rfl U20 rfl (Or.inr ⟨_,_,rfl⟩) rfl trivial<|L.n1<|aJ rfl (fun hc1=>?_) (fun hc1=>?_))
 ·cases hc1
 ·refine C.s1<|MD rfl U199 rfl rfl trivial<|Zaa rfl<|Zaa rfl<|L.n1<|aJ rfl (fun hc2=>?_) (fun hc2=>?_)
  ·refine C.s1<|Zw rfl Tf.z199 rfl (fun q4=>Zu rfl Tf.s199 (bO.head)<|L.n1<|iJ hB Ye (fun hap=>rU (fun hnd=>?_)));have hn1:q1∉[q2]:=by simp[aC.ks]at hap ⊢;exact hap.2.2
   have hn2:q4∉[q2]:=by simp at hnd ⊢;exact hnd.1.2
   refine e6 [q2] 1 [0,1,2,3,4] [false,true,true,true,false] [(false,0),(true,1),(true,2),(true,3),(false,4)] Tf.follows (fun _ _ _ _ he h=>cU (P:=Tryz.prog) (fn:=Tryz.f98) _ _ _ _ he h) Yg rfl<|cO rfl Tf.a42 rfl hB Yc Tf.s42 Yj rfl trivial<|Zj rfl Tf.f199_0 rfl<|aS rfl Tf.a44 rfl (List.Mem.head _) rfl Yj rfl trivial<|fV rfl rfl rfl rfl Tf.s42 (.tail (.tail (bO.head))) Ye rfl (gU hL) (Or.inr Ye) trivial<|Zo rfl Tf.s44 (.tail (bO.head)) rfl<|Zz<|Zak ?_;exact dE (A:=[_]) (ν':=[_,_]) (B:=[]) (vs:=[]) rfl rfl rfl aGL (fun D' hD=>rfl)
  ·cases hc2
theorem aCM(sv:Value)(s:aN)(line:ByteArray)(D:aA)(hs:gW D sv s)(hk0:kD s)(hl:line.size≤1000)(hV:kG D):Fn Tryz.prog 55 #[sv,.string line] D (fun D' v=>∃v1,v=.tuple #[v1,.int .i64 (uA s line).2]∧gW D' v1 (uA s line).1):=by
 have hs0:=hs;obtain⟨pv,cv,hv,lv,mv,bl,bc,yc,yq,rfl,hL⟩:=hs;have hsm:=hk0.small;unfold bS;obtain⟨p0,ps,hcut⟩:=uO line;obtain⟨wk,wc,wis,hval,his,hyes,hno,hwc⟩:=JG p0;have hps:ps.length≤1001:=by have:=yF line;rw[hcut]at this;simp only[aKD]at this;omega
 have hp0:(dB line)[0]?= some p0:=by rw[hcut];rfl
 have hcl:(dB line).length≤1001:=by have:=yF line;omega
 refine ZJ 75 Tryz.func55 rfl rfl rfl rfl fun h0=>C.s1<|Zv rfl (fun q1 E1 hE1 hB1=>Zw rfl Tf.z42 rfl (fun q2=>Zw rfl Tf.z44 rfl (fun q3=>L.n3<|bE rfl rfl rfl rfl trivial<|VV (c1:=[]) (c2:=[.pointer (some ⟨q1,0,none⟩),.pointer (some ⟨q2,0,none⟩),.pointer (some ⟨q3,0,none⟩)]) rfl rfl rfl trivial<|L.n3<|Za rfl<|bU rfl rfl rfl (fun D1 hD1=>SL line hl _ (hV.up (hD1 _ Ye))) rfl aGL (fun v1 D1 hD1 hp1=>?_))))
 obtain⟨pa,pc,rfl⟩:=hp1.shape;have hPS:=hp1;refine Zi rfl<|L.n2<|JL<|jU [] 5 [true,false,false,false,false,false,false,false,true,false,false] [.fork [1,2,3] 0 (.fin [4,5,6,7,8]) 8 (.fin [0,4,5,6,7]),.fin [9,10]] Tf.follows aAD Yg<|QE (γ:=Nat) (fun g=>True) (fun g=>[(24,.agg #[.int .i64 (wk:Int),wc]),(25,.bool wis),(7,.pointer (some ⟨g,0,none⟩)),(6,.slice pa (dB line).length pc),(4,.pointer (some ⟨q2,0,none⟩)),(5,.pointer (some ⟨q3,0,none⟩)),(2,.pointer (some ⟨q1,0,none⟩))]) (fun g=>[(g,.cells [.int .i64 0,.nilFunc].toArray 203 (0,0)),(q3,.cells [.int .i64 0].toArray 44 (0,0)),(q2,.cells [.slice none 0 0,.slice none 0 0,.int .i64 0,.int .i64 0,.int .i64 0,.slice none 0 0,.int .i64 0,.slice none 0 0,.slice none 0 0,.int .i64 0,.int .i64 0,.int .i64 0,.slice none 0 0,.slice none 0 0,.slice none 0 0,.int .i64 0,.slice none 0 0].toArray 42 (0,0))]) (fun g=>[D1,E1,D]) [.fork [1,2,3] 0 (.fin [4,5,6,7,8]) 8 (.fin [0,4,5,6,7])] [.fin [9,10]] rfl ?_ ?_
 ·refine mE<|bG [(false,1),(false,2),(false,3)] rfl<|Za rfl<|Zt rfl U22 Tf.s9 rfl hPS rfl hp0 (fun b1 o1 cs1 hr1 hcl1 hA1=>?_);obtain rfl:cs1=[.string _]:=hr1;refine Zg 0 rfl Tf.a9 rfl hA1 rfl<|Zz (cY true true rfl rfl ?_ ?_)
  ·refine eZ rfl rfl rfl (fun D6 hD6=>y9 _) rfl aGL (fun wv D7 νm hD7 hm=>?_);obtain⟨bm,es,cl,rfl,rfl,hM⟩:=hm;refine Zz<|aP [(false,4),(false,5),(false,6),(false,7),(true,8)] rfl<|zN (b:=bm) rfl U205 U9 Tf.z203 rfl rfl (aNM _) aJN hM rfl aGL ?_;rw[hval,his];refine Za rfl<|Zaa rfl<|Zaa rfl<|Zw rfl Tf.z203 rfl (fun q4=>Zz ?_);exact fun a w hh=>⟨q4,aGL,hh.weak C.rs (.cons_cons _ (.cons _ (.cons_cons _ (.cons_cons _ (.refl _))))) (fun D hD=>⟨D,by simp only[aJX,aJN,aMT]at hD ⊢;rcases hD with rfl|rfl|rfl|rfl<;>simp,Le.refl D⟩)⟩
  ·refine Zw rfl Tf.z203 rfl (fun q4=>Zz<|aP [(true,0),(false,4),(false,5),(false,6),(false,7)] rfl<|eZ rfl rfl rfl (fun D6 hD6=>y9 _) rfl aGL (fun wv D7 νm hD7 hm=>?_));obtain⟨bm,es,cl,rfl,rfl,hM⟩:=hm;refine zN (b:=bm) rfl U205 U9 Tf.z203 rfl rfl (aNM _) aJN hM rfl aGL ?_;rw[hval,his];refine Za rfl<|Zaa rfl<|Zaa rfl<|Zz ?_;exact fun a w hh=>⟨q4,aGL,hh.weak C.rs (.cons _ (.cons_cons _ (.cons_cons _ (.cons_cons _ (.refl _))))) (fun D hD=>⟨D,by simp only[aJX,aJN,aMT]at hD ⊢;rcases hD with rfl|rfl|rfl|rfl<;>simp,Le.refl D⟩)⟩
 rintro qx -;dsimp only;refine iA [(false,9),(false,10)] rfl<|bH rfl rfl rfl rfl Tf.s203 Ya Ya (bO.head) (by intro u hu;simp only[aJX,aJN,aMT]at hu;rcases hu with rfl|rfl;rfl;exact hwc) trivial<|Zi rfl<|Zz<|hZ<|XE<|C.s1<|Za rfl<|Zaf rfl<|Za rfl ?_
 refine' iE [(false,3),(false,4),(false,5),(false,6),(false,7),(false,8),(false,9)] [(false,10),(false,11)] (s:=28) (p:=35) rfl rfl (fun hg1=>?_) (fun hg1=>?_) ?_;rotate_left
 ·refine Zb rfl<|aW rfl U22 rfl hPS rfl rfl ⟨_,rfl,rfl⟩<|fW rfl rfl rfl Yf rfl ⟨_,rfl,rfl⟩<|Zk rfl Tf.f203_0 rfl<|aS rfl Tf.a3 rfl (List.Mem.head _) rfl aJN rfl ⟨_,rfl,rfl⟩<|eQ rfl rfl rfl rfl ⟨_,rfl,rfl⟩<|Zad rfl ?_;exact L.cu 6
 ·refine Zl rfl<|Zl rfl<|Zl rfl<|Zl rfl<|Zl rfl<|Zl rfl<|Zac rfl ?_;exact L.cu 6
 refine Zr rfl U284 Tf.s4 Tf.z4 rfl rfl rfl rfl (.cons rfl rfl .nil) (fun b901 D901 hD901 hA901=>Zf [] [(_,_),(_,_),(_,_)] [] rfl (aKP rfl) (fun p hp=>by cases hp) (fun D30 hD30=>dY 4 [(!wis||decide (((dB line).length:Int)-1≠(wk:Int)))] _ _ ((fG (l:=[(!wis||decide (((dB line).length:Int)-1≠(wk:Int)))]) (fun _ _ _ h=>h) hA901 Ye).up RB.up (hD30 _ Ye))) (fun v30 D31 hD30 hp30 a w hh=>?_) (fun v30 D31 ν30 hD30 hp30=>?_))
 ·obtain⟨hx30,rfl⟩:=hp30;exact Z1 (X:=Cx.push ⟨none,75,[],h0,h0.size,D,[],none⟩ ⟨.fn (.func 98) [.pointer (some ⟨q1,0,none⟩),.pointer (some ⟨q2,0,none⟩),.pointer (some ⟨q3,0,none⟩)].toArray,[].toArray⟩) (P:=Tryz.prog) (fn:=Tryz.f55) (f:=98) (c1:=[]) (c2:=[.pointer (some ⟨q1,0,none⟩),.pointer (some ⟨q2,0,none⟩),.pointer (some ⟨q3,0,none⟩)]) (A:=[]) (ν:=[(q3,_),(q2,_)]) (B:=[]) (rs:=[.cell 4 42,.cell 5 44]) (by rfl) (by rfl) (fun p hp=>by simp only[aJX,aJN,aMT]at hp;rcases hp with rfl|rfl<;>rfl) (fun D hD=>A1 q1 q2 q3 s pv cv hv lv mv bl bc yc yq _ D (hB1.up (hD _ Ye)) (hL.up (hD _ Ye))) rfl (fun D ν' hD hq=>by subst hq;exact⟨[_,_],⟨⟨_,_,_,rfl,.tail _ (.head _),aKB ⟨Tf.a42,Tf.s42,rfl⟩⟩,⟨_,_,_,rfl,.head _,aKP ⟨Tf.a44,rfl⟩⟩,aGL⟩,wE (GP (CY hcut hno hyes (by simpa using hx30))) (hs0.up (hD _ Ye))⟩) a w (hh.subB (.cons _ (.refl _)))
 obtain⟨hf30,rfl⟩:=hp30;obtain⟨hwis,hlen⟩:=XG hcut hf30;obtain⟨act,wf,hfind,rfl,hword⟩:=hyes hwis;refine L.n3<|Zi rfl<|L.n4<|Za rfl<|Q2 (j:=1) rfl U22 Tf.s9 rfl hPS rfl (by rw[hcut];simp) rfl aGL (fun ta hT=>?_)
 rw[hcut]at hT ⊢
 simp only[aGI,aOA]at hT;rw[show(p0::ps).length-1=ps.length by simp]at hT ⊢
 refine aW rfl U22 rfl hT rfl rfl trivial<|Za rfl<|L.n1<|Zai<|cE (γ:=Nat×Value×aC×List Int) (fun g=>ps.length-g.1) (fun g=>g.1≤ps.length∧(ps.take g.1).mapM oQ=some g.2.2.2∧g.2.2.2.length=g.1∧bR 3 1 g.2.1 g.1 (ints g.2.2.2) g.2.2.1) (fun g=>[(41,.int .i64 (g.1:Int)),(9,g.2.1)]) [(40,_),(39,_),(7,_),(4,_),(5,_),(2,_)] (fun g=>g.2.2.1++[(qx,.cells [.int .i64 (wk:Int),.func (.func wf) #[] #[]].toArray 203 (0,0)),(q3,.cells [.int .i64 0].toArray 44 (0,0)),(q2,.cells [.slice none 0 0,.slice none 0 0,.int .i64 0,.int .i64 0,.int .i64 0,.slice none 0 0,.int .i64 0,.slice none 0 0,.slice none 0 0,.int .i64 0,.int .i64 0,.int .i64 0,.slice none 0 0,.slice none 0 0,.slice none 0 0,.int .i64 0,.slice none 0 0].toArray 42 (0,0))]) (fun g=>[D31,D901,D1,E1,D]) (0,.slice none 0 0,[],[]) ⟨by simp,rfl,rfl,by simpa [ints]using bR.nil⟩ ⟨Yb,Yb,aGL⟩ C.rs (aJU _) (aD) ?_;rintro⟨k,v,ν,ns⟩ ⟨h1,h2,h3,ha⟩;simp only at h1 h2 h3 ha;refine C.s1<|Zae rfl<|L.n2<|aF rfl (fun hc1=>?_) (fun hc1=>?_)
 ·simp only at hc1;have hk:k<ps.length:=by omega
  obtain⟨x,hx⟩:∃x,ps[k]?= some x:=⟨_,aJT hk⟩
  have hsz:x.size≤1000:=aMU (TW hcut hx) hl;refine C.kn<|aCX<|Zai<|C.s1<|Zt rfl U22 Tf.s9 rfl hT rfl hx (fun b2 o2 cs2 hr2 hcl2 hA2=>?_);obtain rfl:cs2=[.string _]:=hr2;refine Zg 0 rfl Tf.a9 rfl hA2 rfl<|Zi rfl<|L.n3<|Za rfl<|bU rfl rfl rfl (fun D2 hD2=>LD x hsz _ (hV.up (hD2 _ Ye))) rfl aGL (fun v2 D2 hD2 hp2=>?_);obtain⟨m,nb,rfl,hm1,hm2⟩:=hp2;refine Za rfl<|Zaa rfl<|Zaa rfl<|Zi rfl<|Zi rfl<|L.n3<|Za rfl<|Zaf rfl<|Zr rfl U284 Tf.s4 Tf.z4 rfl rfl rfl rfl (.cons rfl rfl .nil) (fun b902 D902 hD902 hA902=>Zf [] _ [] rfl (aKP rfl) (fun p hp=>by cases hp) (fun D40 hD40=>dY 4 [!nb] _ _ ((fG (l:=[!nb]) (fun _ _ _ h=>h) hA902 Ye).up RB.up (hD40 _ Ye))) (fun v40 D41 hD40 hp40 a w hh=>?_) (fun v40 D41 ν40 hD40 hp40=>?_))
  ·obtain⟨hx40,rfl⟩:=hp40;exact Z1 (X:=Cx.push ⟨none,75,[],h0,h0.size,D,[],none⟩ ⟨.fn (.func 98) [.pointer (some ⟨q1,0,none⟩),.pointer (some ⟨q2,0,none⟩),.pointer (some ⟨q3,0,none⟩)].toArray,[].toArray⟩) (P:=Tryz.prog) (fn:=Tryz.f55) (f:=98) (c1:=[]) (c2:=[.pointer (some ⟨q1,0,none⟩),.pointer (some ⟨q2,0,none⟩),.pointer (some ⟨q3,0,none⟩)]) (A:=[]) (ν:=[(q3,_),(q2,_)]) (B:=[]) (rs:=[.cell 4 42,.cell 5 44]) (by rfl) (by rfl) (fun p hp=>by simp only[aJX,aJN,aMT]at hp;rcases hp with rfl|rfl<;>rfl) (fun D hD=>A1 q1 q2 q3 s pv cv hv lv mv bl bc yc yq _ D (hB1.up (hD _ Ye)) (hL.up (hD _ Ye))) rfl (fun D ν' hD hq=>by subst hq;exact⟨[_,_],⟨⟨_,_,_,rfl,.tail _ (.head _),aKB ⟨Tf.a42,Tf.s42,rfl⟩⟩,⟨_,_,_,rfl,.head _,aKP ⟨Tf.a44,rfl⟩⟩,aGL⟩,wE (GP (MT hcut hx (hm2 (by simpa using hx40)))) (hs0.up (hD _ Ye))⟩) a w (hh.subB (.trans (.cons _ (.refl _)) (List.sublist_append_right _ _)))
  obtain⟨hf40,rfl⟩:=hp40;have hnb:=hm1 (by simpa using hf40);refine L.n1<|C.rg<|Za rfl<|Za rfl<|Zr rfl U25 Tf.s3 Tf.z3 rfl rfl rfl rfl (.cons rfl rfl .nil) (fun b903 D903 hD903 hA903=>?_);have hS903:=Sl.ofInts (l:=[_]) (n:=1) (cap:=1) hA903 rfl Yd Yd;refine aX (A:=[]) (B:=[(_,_),(_,_),(_,_)]) rfl U25 rfl rfl Tf.s3 Tf.z3 rfl Tf.i3 rfl rfl rfl ha (jN.lit hA903) Ye rfl (by simp[ints,h3]) Yi Yd (aKP rfl) rfl aGL (fun v1 ν1 ha1=>?_);have ha2:bR 3 1 v1 (k+1) (ints (ns++[m])) ν1:=by rw[←eL];exact ha1
  refine Zi rfl<|Zz<|Zak<|Zag<|C.rg<|Zy rfl<|Za rfl<|Zz ?_;exact aH 24 (k+1,v1,ν1,ns++[m]) ⟨by simp only;omega,p9 hx h2 hnb,by simp[h3],ha2⟩ Ym ⟨Yb,Yb,aGL⟩ rfl rfl (aJU _) (fun D h=>⟨D,aJS _ (aJS _ (aJS _ (aJS _ (h)))),Le.refl D⟩)
 ·obtain rfl:k=ps.length:=by simp only at hc1;omega
  rw[aLL]at h2;refine aR<|Zah<|Zah<|Zal<|Zag<|aCX<|wR (A:=[]) (B:=[(_,_),(_,_),(_,_)]) ha rfl (fun D8 hD8 hF8=>?_);have hnS:=hF8.ints (l:=ns) h3 (by have:=hps;omega)
  refine C.rg<|Zs rfl Tf.a42 rfl hB1 Tf.s42<|eZ rfl rfl rfl (fun D20 hD20=>A5 _ s _ (hs0.up (hD20 _ Ye)) hsm) rfl aGL (fun wv D21 νW hD21 hw=>?_);obtain⟨wb,rfl,hO⟩:∃wb,wv=.pointer (some ⟨wb,0,none⟩)∧zE D21 wb s νW:=by
   obtain⟨wb,pv,cv,hv,lv,mv,bl,bc,yc,yq,ν1,ν2,ν3,ν4,ν5,ν6,ν7,ν8,h1,h2,h3⟩:=hw;exact⟨wb,h1,pv,cv,hv,lv,mv,bl,bc,yc,yq,ν1,ν2,ν3,ν4,ν5,ν6,ν7,ν8,h2,h3⟩
  refine Zi rfl<|L.n3<|Zj rfl Tf.f203_1 rfl<|Zm rfl Tf.a201 rfl (aJW _ (List.Mem.head _)) rfl<|Za rfl<|Za rfl<|Zf [] [(_,_),(_,_),(_,_)] νW rfl (Or.inl rfl) (WY hO) (fun D50 hD50=>hword wb s _ ns νW _ (hnS.up RI.up (hD50 _ Ye)) Yd (I6 h2) (hO.up (hD50 _ Ye)) hsm) (fun v50 D51 hD50 hp50 a w hh=>?_) (fun v50 D51 ν50 hD50 hp50=>?_)
  ·obtain⟨c50,hx50,rfl⟩:=hp50;exact Z1 (X:=Cx.push ⟨none,75,[],h0,h0.size,D,[],none⟩ ⟨.fn (.func 98) [.pointer (some ⟨q1,0,none⟩),.pointer (some ⟨q2,0,none⟩),.pointer (some ⟨q3,0,none⟩)].toArray,[].toArray⟩) (P:=Tryz.prog) (fn:=Tryz.f55) (f:=98) (c1:=[]) (c2:=[.pointer (some ⟨q1,0,none⟩),.pointer (some ⟨q2,0,none⟩),.pointer (some ⟨q3,0,none⟩)]) (A:=[]) (ν:=[(q3,_),(q2,_)]) (B:=[]) (rs:=[.cell 4 42,.cell 5 44]) (by rfl) (by rfl) (fun p hp=>by simp only[aJX,aJN,aMT]at hp;rcases hp with rfl|rfl<;>rfl) (fun D hD=>A1 q1 q2 q3 s pv cv hv lv mv bl bc yc yq _ D (hB1.up (hD _ Ye)) (hL.up (hD _ Ye))) rfl (fun D ν' hD hq=>by subst hq;exact⟨[_,_],⟨⟨_,_,_,rfl,.tail _ (.head _),aKB ⟨Tf.a42,Tf.s42,rfl⟩⟩,⟨_,_,_,rfl,.head _,aKP ⟨Tf.a44,rfl⟩⟩,aGL⟩,wE (aBS (B9 hcut hfind hlen h2) hx50) (hs0.up (hD _ Ye))⟩) a w (hh.subB (.cons _ (.refl _)))
  obtain⟨s2,hact,hO2⟩:=hp50;refine L.n2 ?_;have hsm2:wF s2:=(T2 hfind hk0 hact).small;refine m7 (B:=[(_,_),(_,_),(_,_)]) hO2 rfl Ye hsm2 (fun D9 pv2 cv2 hv2 lv2 mv2 bl2 bc2 yc2 yq2 hD9 hL2=>?_);unfold bS;refine C.rg<|Za rfl<|Zab rfl<|Zj rfl Tf.f211_0 rfl<|Zp rfl Tf.a42 rfl (List.Mem.head _) Tf.s42<|Zf [] [(_,_),(_,_),(_,_),(_,_)] [] rfl (Or.inl rfl) (fun p hp=>by cases hp) (fun D60 hD60=>QF _ s2 _ ⟨pv2,cv2,hv2,lv2,mv2,bl2,bc2,yc2,yq2,rfl,hL2.up (hD60 _ Ye)⟩) (fun v60 D61 hD60 hp60 a w hh=>?_) (fun v60 D61 ν60 hD60 hp60=>?_)
  ·obtain⟨hx60,rfl⟩:=hp60;exact Z1 (X:=Cx.push ⟨none,75,[],h0,h0.size,D,[],none⟩ ⟨.fn (.func 98) [.pointer (some ⟨q1,0,none⟩),.pointer (some ⟨q2,0,none⟩),.pointer (some ⟨q3,0,none⟩)].toArray,[].toArray⟩) (P:=Tryz.prog) (fn:=Tryz.f55) (f:=98) (c1:=[]) (c2:=[.pointer (some ⟨q1,0,none⟩),.pointer (some ⟨q2,0,none⟩),.pointer (some ⟨q3,0,none⟩)]) (A:=[]) (ν:=[(q3,_),(q2,_)]) (B:=[]) (rs:=[.cell 4 42,.cell 5 44]) (by rfl) (by rfl) (fun p hp=>by simp only[aJX,aJN,aMT]at hp;rcases hp with rfl|rfl<;>rfl) (fun D hD=>A1 q1 q2 q3 s pv cv hv lv mv bl bc yc yq _ D (hB1.up (hD _ Ye)) (hL.up (hD _ Ye))) rfl (fun D ν' hD hq=>by subst hq;exact⟨[_,_],⟨⟨_,_,_,rfl,.tail _ (.head _),aKB ⟨Tf.a42,Tf.s42,rfl⟩⟩,⟨_,_,_,rfl,.head _,aKP ⟨Tf.a44,rfl⟩⟩,aGL⟩,wE (ZO (B9 hcut hfind hlen h2) hact hx60) (hs0.up (hD _ Ye))⟩) a w (hh.subB (.cons _ (.cons _ (.refl _))))
  obtain⟨hf60,rfl⟩:=hp60;refine L.n3<|Za rfl<|Zab rfl<|Zj rfl Tf.f211_0 rfl<|Zp rfl Tf.a42 rfl (List.Mem.head _) Tf.s42<|bH rfl rfl rfl rfl Tf.s42 Ya Ya (.tail (.tail (.tail (bO.head)))) (gU hL2) trivial<|Zo rfl Tf.s44 (.tail (.tail (bO.head))) rfl<|L.n5<|aAN (X:=Cx.push ⟨none,75,[],h0,h0.size,D,[],none⟩ ⟨.fn (.func 98) [.pointer (some ⟨q1,0,none⟩),.pointer (some ⟨q2,0,none⟩),.pointer (some ⟨q3,0,none⟩)].toArray,[].toArray⟩) (P:=Tryz.prog) (fn:=Tryz.f55) (f:=98) (e:=.ret) (c1:=[]) (c2:=[.pointer (some ⟨q1,0,none⟩),.pointer (some ⟨q2,0,none⟩),.pointer (some ⟨q3,0,none⟩)]) (A:=[(_,_),(_,_)]) (ν:=[(q3,.cells [.int .i64 0].toArray 44 (0,0)),(q2,.cells (bS s2 pv2 cv2 hv2 lv2 mv2 bl2 bc2 yc2 yq2).toArray 42 (0,0))]) (B:=[]) (rs:=[.cell 4 42,.cell 5 44]) (by rfl) (by rfl) (by rfl) (fun p hp=>by simp only[aJX,aJN,aMT]at hp;rcases hp with rfl|rfl<;>rfl) (fun D hD=>WV q1 q2 q3 _ _ D) rfl ?_
  intro D ν' hD hq;subst hq;exact⟨[_,_],⟨⟨_,_,_,rfl,.tail _ (.tail _ (.tail _ (.head _))),aKB ⟨Tf.a42,Tf.s42,rfl⟩⟩,⟨_,_,_,rfl,.tail _ (.tail _ (.head _)),aKP ⟨Tf.a44,rfl⟩⟩,aGL⟩,GM (VJ (B9 hcut hfind hlen h2) hact hf60) ⟨pv2,cv2,hv2,lv2,mv2,bl2,bc2,yc2,yq2,rfl,hL2.up (hD D9 Ye)⟩⟩
end L12
end Go.Fs
namespace Go.Fs
open Go.Proofs
namespace L12
open C12
def mM(ls:List ByteArray):aN×List Int:=ls.foldl (fun p l=>((uA p.1 l).1,p.2++[(uA p.1 l).2])) (yA,[])
theorem BS{ls:List ByteArray}{k:Nat}{x:ByteArray}(h:ls[k]?= some x):mM (ls.take (k+1))=((uA (mM (ls.take k)).1 x).1,(mM (ls.take k)).2++[(uA (mM (ls.take k)).1 x).2]):=by
 unfold mM;rw[aKL,h,aMA];rfl
theorem CF{line:ByteArray}{act:fI}{n:List Int}{s s2:aN}(h:jW line=some (act,n))(hk:kD s)(ha:act s n=.ok s2):kD s2:=by
 unfold jW at h;split at h
 ·cases h
 ·split at h
  ·cases h
  ·rename_i l k act' hf;split at h
   ·obtain⟨m,_,hm⟩:=aMP.1 h;cases hm;exact T2 hf hk ha
   ·cases h
theorem RJ{s:aN}(hk:kD s)(line:ByteArray):kD (uA s line).1:=by
 unfold uA;split
 ·exact hk
 ·rename_i act n h;split
  ·exact hk
  ·rename_i s' ha;split
   ·exact CF h hk ha
   ·exact hk
theorem L0:kD yA:=⟨by decide,by decide,by decide,by decide,by decide,by decide,by decide,by decide,by decide⟩
theorem VO{q:Nat}{o:Obj}{ν B:aC}(h:(aC.ks ((q,o)::(ν++B))).Nodup):∀p∈ν,p.1∉[q]:=by
 intro p hp hm;obtain rfl:p.1=q:=by simpa using hm
 exact(aLT.1 h).1 (aJY.2 ⟨p,aKC _ hp,rfl⟩)
structure aDC where
 (k:Nat) (s:aN) (es:List Int) (pv cv hv lv mv bl bc yc yq v:Value) (ν:aC) (Dn:aA)
theorem VY(lv:Value)(ls:List ByteArray)(D:aA)(hS:Sl D RS 1 lv ls)(hn:ls.length≤1000)(hsz:∀l∈ls,l.size≤1000)(hV:kG D):Fn Tryz.prog 26 #[lv] D (fun D' v=>∃v1 v2,v=.tuple #[v1,v2]∧gW D' v1 (mM ls).1∧Sl D' RI 1 v2 (mM ls).2):=by
 refine enter 31 Tryz.func26 rfl rfl rfl rfl fun h0=>C.s1<|Zw rfl Tf.z42 rfl (fun q1=>Zi rfl<|L.n3<|bU rfl rfl rfl (fun D1 hD1=>qA _) rfl aGL (fun v1 D1 hD1 hp1=>?_))
 obtain⟨pv,cv,hv,lv2,mv,bl,bc,yc,yq,rfl,hL⟩:=hp1;unfold bS;refine Zw rfl Tf.z42 rfl (fun q2=>bH rfl rfl rfl rfl Tf.s42 Ya Ya (bO.head) (gU hL) trivial<|L.n3<|Zi rfl<|L.n4<|Za rfl<|aW rfl U22 rfl Yk rfl rfl trivial<|Za rfl<|L.n1<|Zai<|cE (γ:=aDC) (fun g=>ls.length-g.k) (fun g=>g.k≤ls.length∧mM (ls.take g.k)=(g.s,g.es)∧g.es.length=g.k∧bR 44 1 g.v g.k (ints g.es) g.ν∧gM g.Dn g.s g.pv g.cv g.hv g.lv g.mv g.bl g.bc g.yc g.yq∧kD g.s) (fun g=>[(13,.int .i64 (g.k:Int)),(5,g.v)]) [(12,_),(11,_),(4,_),(3,_),(2,_)] (fun g=>g.ν++[(q2,.cells (bS g.s g.pv g.cv g.hv g.lv g.mv g.bl g.bc g.yc g.yq).toArray 42 (0,0)),(q1,.cells [.slice none 0 0,.slice none 0 0,.int .i64 0,.int .i64 0,.int .i64 0,.slice none 0 0,.int .i64 0,.slice none 0 0,.slice none 0 0,.int .i64 0,.int .i64 0,.int .i64 0,.slice none 0 0,.slice none 0 0,.slice none 0 0,.int .i64 0,.slice none 0 0].toArray 42 (0,0))]) (fun g=>[g.Dn,D]) ⟨0,yA,[],pv,cv,hv,lv2,mv,bl,bc,yc,yq,.slice none 0 0,[],D1⟩ ⟨by simp,by simp[mM],rfl,by simpa [ints]using bR.nil,hL,L0⟩ ⟨Yb,Yb,aGL⟩ C.rs (aJU _) ((fun D0 h=>by simp only[aJX,aJN,aMT]at h;rcases h with rfl|rfl<;>exact⟨_,by simp,Le.refl _⟩)) ?_)
 rintro⟨k,s,es,pv,cv,hv,lv,mv,bl,bc,yc,yq,v,ν,Dn⟩ ⟨h1,hp,h3,ha,hL,hk⟩;simp only at h1 hp h3 ha hL hk;refine C.s1<|Zae rfl<|L.n2<|aF rfl (fun hc1=>?_) (fun hc1=>?_)
 ·simp only at hc1;have hlt:k<ls.length:=by omega
  obtain⟨x,hx⟩:∃x,ls[k]?= some x:=⟨_,aJT hlt⟩
  refine C.kn<|aCX<|Zai<|C.s1<|Zt rfl U22 Tf.s9 rfl (hS.up RS.up (Le.refl _)) rfl hx (fun b1 o1 cs1 hr1 hcl1 hA1=>?_);obtain rfl:cs1=[.string _]:=hr1;refine Zg 0 rfl Tf.a9 rfl hA1 rfl<|Zi rfl<|L.n3<|Zp rfl Tf.a42 rfl (aJW _ (List.Mem.head _)) Tf.s42<|Za rfl<|bU rfl rfl rfl (fun D2 hD2=>aCM _ s x _ ⟨pv,cv,hv,lv,mv,bl,bc,yc,yq,rfl,hL.up (hD2 _ Ye)⟩ hk (hsz x (aJV hx)) (hV.up (hD2 _ Ye))) rfl aGL (fun v2 D2 hD2 hp2=>?_);obtain⟨w1,rfl,pv2,cv2,hv2,lv2,mv2,bl2,bc2,yc2,yq2,rfl,hL2⟩:=hp2;have hk2:=RJ hk x;unfold bS;refine Za rfl<|Zaa rfl<|Zaa rfl<|Zw rfl Tf.z42 rfl (fun q3=>bH rfl rfl rfl rfl Tf.s42 Ya Ya (bO.head) (gU hL2) trivial<|Zi rfl<|L.n1<|rU (fun hnd=>?_));have hnu:∀p∈ν,p.1∉[q3]:=VO hnd;have hq3:q3∉dC.mk [q3]:=dC.out Ye;refine C.drawA (dC.mk [q3]) 3 7 30 (fun _ _ _ h=>cZ (P:=Tryz.prog) (fn:=Tryz.f26) _ _ _ h)<|aY rfl Tf.a42 rfl (List.Mem.head _) Tf.s42 Yj rfl trivial<|Za rfl<|Za rfl<|Zr rfl U43 Tf.s44 Tf.z44 rfl rfl rfl rfl (.cons rfl rfl .nil) (fun b901 D901 hD901 hA901=>?_);have hS901:=Sl.ofInts (l:=[_]) (n:=1) (cap:=1) hA901 rfl Yd Yd;refine aX (A:=[(_,_)]) (B:=[(_,_),(_,_)]) rfl U43 rfl rfl Tf.s44 Tf.z44 rfl Tf.i44 rfl rfl rfl ha (jN.lit hA901) Ye rfl (by simp[ints,h3]) Yi Yd (aKB (fun p hp=>dC.in_ (hnu p hp))) rfl aGL (fun v1 ν1 ha1=>?_);have ha2:bR 44 1 v1 (k+1) (ints (es++[(uA s x).2])) ν1:=by rw[←eL];exact ha1
  refine aE ((q3,_)::(ν1++[(q2,_),(q1,_)])) rfl<|bH rfl rfl rfl rfl Tf.s42 Ya Ya (.tail (.app (bO.head))) (gU hL2) trivial<|Zi rfl<|Zz<|Zak<|Zag<|C.rg<|Zy rfl<|Za rfl<|Zz ?_;exact aH 22 ⟨k+1,(uA s x).1,es++[(uA s x).2],pv2,cv2,hv2,lv2,mv2,bl2,bc2,yc2,yq2,v1,ν1,D2⟩ ⟨by simp only;omega,by simp only;rw[BS hx,hp],by simp[h3],ha2,hL2,hk2⟩ Ym ⟨Yb,Yb,aGL⟩ rfl rfl (List.Sublist.cons _ (aJU _)) ((fun D0 h=>by simp only[aJX,aJN,aMT]at h;rcases h with rfl|rfl<;>exact⟨_,by simp,Le.refl _⟩))
 ·obtain rfl:k=ls.length:=by simp only at hc1;omega
  rw[aLL]at hp;refine aR<|Zah<|Zah<|Zal<|Zag<|C.s1<|Zp rfl Tf.a42 rfl (aJW _ (List.Mem.head _)) Tf.s42<|Za rfl<|bH rfl rfl rfl rfl Tf.s42 Ya Ya (.app (.tail (bO.head))) (gU hL) trivial<|Zi rfl<|L.n5<|eO (A:=[]) (B:=[(_,_),(_,_)]) ha rfl (fun D9 hD9 hF9=>?_);have hes:=hF9.ints (l:=es) h3 Yd;exact Zc [_,_] rfl ⟨⟨_,_,_,rfl,aJS _ (aNM _),aKB ⟨Tf.a42,Tf.s42,rfl⟩⟩,rfl,aGL⟩ (fun D hD=>⟨_,_,rfl,by rw[hp];exact⟨pv,cv,hv,lv,mv,bl,bc,yc,yq,rfl,hL.up (hD _ Ye)⟩,by rw[hp];exact hes.up RI.up (hD _ Ye)⟩)
end L12
end Go.Fs
namespace Go.Fs
open Go.Proofs
namespace L12
open C12
def NY:aN:=⟨{places:=[],counts:=[],wrong:=0,off:=0},{last:=0,heights:=[],step:=0,levels:=[],marks:=[]},{chairs:=0,coin:=0,box:=0,lines:=[],counts:=[]},{chairs:=[],fit:=0,claims:=[]}⟩
def aL(ls:List ByteArray):aN×List Int×Int:=if dW ls=0 then((mM ls).1,(mM ls).2,0)else(NY,[],dW ls)
theorem kF{ls:List ByteArray}(h:dW ls=0):aL ls=((mM ls).1,(mM ls).2,0):=aKS h
theorem pK{ls:List ByteArray}(h:dW ls≠0):aL ls=(NY,[],dW ls):=aKO h
theorem V7{ls:List ByteArray}(h:dW ls=0):ls.length≤40∧∀l∈ls,l.size≤50:=by
 unfold dW at h;split at h
 ·cases h
 ·rename_i h2;simp only[aLP,aKU,aOO,not_or,Bool.not_eq_false,aKX]at h2;refine⟨by omega,fun l hl=>?_⟩;have:=h2.2 l hl;omega
theorem tH{ls:List ByteArray}(h:dW ls=0):ls.length≤40:=(V7 h).1
theorem F0{ls:List ByteArray}(h:dW ls=0):∀l∈ls,l.size≤50:=(V7 h).2
theorem WR(D:aA):gW D (.agg #[.slice none 0 0,.slice none 0 0,.int .i64 0,.int .i64 0,.int .i64 0,.slice none 0 0,.int .i64 0,.slice none 0 0,.slice none 0 0,.int .i64 0,.int .i64 0,.int .i64 0,.slice none 0 0,.slice none 0 0,.slice none 0 0,.int .i64 0,.slice none 0 0]) NY:=⟨_,_,_,_,_,_,_,_,_,rfl,⟨Sl.nil,Sl.nil,Sl.nil,Sl.nil,Sl.nil,Sl.nil,Sl.nil,Sl.nil,Sl.nil⟩⟩
theorem G1(ls:List ByteArray):kD (mM ls).1:=by
 have:∀(ls:List ByteArray) (p:aN×List Int),kD p.1→kD (ls.foldl (fun p l=>((uA p.1 l).1,p.2++[(uA p.1 l).2])) p).1:=by
  intro ls;induction ls with
  |nil=>exact fun p h=>h
  |cons l ls ih=>exact fun p h=>ih _ (RJ h l)
 exact this ls _ L0
theorem l9(ls:List ByteArray)(h:(aL ls).2.2=0):kD (aL ls).1:=by
 by_cases hf:dW ls=0
 ·rw[kF hf];exact G1 ls
 ·rw[pK hf]at h;exact absurd h hf
theorem I3(ls:List ByteArray):(aL ls).1.row.places.length≤7:=by
 by_cases hf:dW ls=0
 ·rw[kF hf];exact(G1 ls).pl
 ·rw[pK hf];exact aGD _
theorem L5(ls:List ByteArray):(aL ls).1.book.lines.length≤8:=by
 by_cases hf:dW ls=0
 ·rw[kF hf];exact(G1 ls).ln
 ·rw[pK hf];exact aGD _
def J7(ls:List ByteArray):(Int×Int)×Int:=if(aL ls).2.2=0 then(if C3.rS (aL ls).1.book (C1.fL ((aL ls).1.book.lines.length:Int) 0 ((aL ls).1.book.lines.length:Int))=0 then L3.AH (fun s=>s.money) (aL ls).1.book (((aL ls).1.book.lines.length:Int)).toNat else(0,0),C3.rS (aL ls).1.book (C1.fL ((aL ls).1.book.lines.length:Int) 0 ((aL ls).1.book.lines.length:Int)))else((0,0),(aL ls).2.2)
def wO(ls:List ByteArray):(Int×Int)×Int:=if(aL ls).2.2=0 then(if C1.dA (aL ls).1.row (C1.nU (aL ls).1.row 0 (((aL ls).1.row.places.length:Int)-1))=0 then(C1.TH (C1.truths (aL ls).1.row) (0:Int).toNat (((aL ls).1.row.places.length:Int)-1).toNat,C1.PD (C1.truths (aL ls).1.row) (0:Int).toNat (((aL ls).1.row.places.length:Int)-1).toNat)else(0,0),C1.dA (aL ls).1.row (C1.nU (aL ls).1.row 0 (((aL ls).1.row.places.length:Int)-1)))else((0,0),(aL ls).2.2)
theorem xD(lv:Value)(ls:List ByteArray)(D:aA)(hS:Sl D RS 1 lv ls)(hV:kG D):Fn Tryz.prog 8 #[lv] D (fun D' v=>∃v1 v2,v=.tuple #[v1,v2,.int .i64 (aL ls).2.2]∧gW D' v1 (aL ls).1∧Sl D' RI 1 v2 (aL ls).2.1):=by
 refine enter 19 Tryz.func8 rfl rfl rfl rfl fun h0=>C.s1<|Zw rfl Tf.z42 rfl (fun q1=>Zi rfl<|Zi rfl<|L.n4<|Za rfl<|Zd rfl (fun D1 hD1=>pE _ ls _ (hS.up RS.up (hD1 _ Ye)))<|Zi rfl<|L.n3<|Za rfl<|eQ rfl rfl rfl rfl aGL ?_);refine L.n1<|aF rfl (fun hc1=>?_) (fun hc1=>?_)
 ·have hf:dW ls≠0:=by simpa using hc1
  refine C.s1<|hG (cs:=[.slice none 0 0,.slice none 0 0,.int .i64 0,.int .i64 0,.int .i64 0,.slice none 0 0,.int .i64 0,.slice none 0 0,.slice none 0 0,.int .i64 0,.int .i64 0,.int .i64 0,.slice none 0 0,.slice none 0 0,.slice none 0 0,.int .i64 0,.slice none 0 0]) rfl Tf.p42 Tf.z42 rfl Yg rfl trivial<|Za rfl<|bH rfl rfl rfl rfl Tf.s42 Ya Ya (bO.head) Yi trivial<|Zi rfl<|Zi rfl<|L.n5<|Zaj ?_;exact Zc [_,_,_] rfl ⟨⟨_,_,_,rfl,(List.Mem.head _),Or.inr ⟨Tf.a42,Tf.s42,rfl⟩⟩,rfl,rfl,aGL⟩ (fun D hD=>⟨_,_,by rw[pK hf];rfl,by rw[pK hf];exact WR D,by rw[pK hf];exact Sl.nil⟩)
 ·have hf:dW ls=0:=by simpa using hc1
  refine C.kn<|C.s1<|Za rfl<|bU rfl rfl rfl (fun D2 hD2=>VY _ ls _ (hS.up RS.up (hD2 _ Ye)) (by have:=tH hf;omega) (fun l hl=>by have:=F0 hf l hl;omega) (hV.up (hD2 _ Ye))) rfl aGL (fun v2 D2 hD2 hp2=>?_);obtain⟨w1,w2,rfl,⟨pv,cv,hv,lv,mv,bl,bc,yc,yq,rfl,hL⟩,hes⟩:=hp2;unfold bS;refine Za rfl<|Zaa rfl<|Zaa rfl<|bH rfl rfl rfl rfl Tf.s42 Ya Ya (bO.head) (gU hL) trivial<|Zi rfl<|L.n3<|Zp rfl Tf.a42 rfl (List.Mem.head _) Tf.s42<|Za rfl<|bH rfl rfl rfl rfl Tf.s42 Ya Ya (bO.head) (gU hL) trivial<|Zi rfl<|Zi rfl<|L.n5 ?_;exact Zc [_,_,_] rfl ⟨⟨_,_,_,rfl,(List.Mem.head _),Or.inr ⟨Tf.a42,Tf.s42,rfl⟩⟩,rfl,rfl,aGL⟩ (fun D hD=>⟨_,_,by rw[kF hf]<;>rfl,by rw[kF hf];exact⟨pv,cv,hv,lv,mv,bl,bc,yc,yq,rfl,hL.up (hD _ Ye)⟩,by rw[kF hf];exact hes.up RI.up (hD _ Ye)⟩)
theorem L8(rv:Value)(r:C1.dJ)(i j:Int)(D:aA)(hr:mL D rv r):Fn Tryz.prog 39 #[rv,.int .i64 i,.int .i64 j] D (fun _ v=>v=.tuple #[iP (if C1.dA r (C1.nU r i j)=0 then(C1.TH (C1.truths r) i.toNat j.toNat,C1.PD (C1.truths r) i.toNat j.toNat)else(0,0)),.int .i64 (C1.dA r (C1.nU r i j))]):=
 (L1.yQ rv r i j D hr).mono fun D' v _ h=>by rw[h];split<;>rfl
theorem xH(lv:Value)(ls:List ByteArray)(D:aA)(hS:Sl D RS 1 lv ls)(hV:kG D):Fn Tryz.prog 20 #[lv] D (fun _ v=>v=.tuple #[iP (J7 ls).1,.int .i64 (J7 ls).2]):=by
 refine enter 26 Tryz.func20 rfl rfl rfl rfl fun h0=>C.s1<|Zw rfl Tf.z63 rfl (fun q1=>Zi rfl<|L.n3<|Za rfl<|bU rfl rfl rfl (fun D1 hD1=>xD _ ls _ (hS.up RS.up (hD1 _ Ye)) (hV.up (hD1 _ Ye))) rfl aGL (fun v1 D1 hD1 hp1=>?_))
 obtain⟨w1,w2,rfl,⟨pv,cv,hv,lv,mv,bl,bc,yc,yq,rfl,hL⟩,hes⟩:=hp1;unfold bS;have hst:(aL ls).2.2=0→kD (aL ls).1:=l9 ls;have hpl7:(aL ls).1.row.places.length≤7:=I3 ls;have hln8:(aL ls).1.book.lines.length≤8:=L5 ls;refine Za rfl<|Zaa rfl<|Zaa rfl<|Zaa rfl<|Zw rfl Tf.z42 rfl (fun q2=>bH rfl rfl rfl rfl Tf.s42 Ya Ya (bO.head) (gU hL) trivial<|Zi rfl<|Zi rfl<|L.n4<|Za rfl<|eQ rfl rfl rfl rfl trivial<|L.n1 ?_);refine aF rfl (fun hc1=>?_) (fun hc1=>?_)
 ·have hf:(aL ls).2.2≠0:=by simpa using hc1
  refine C.s1<|Zq [.int .i64 0,.int .i64 0] rfl Tf.p63 Tf.z63 rfl rfl<|Za rfl<|bH rfl rfl rfl rfl Tf.s63 Ya Ya (.tail (bO.head)) Yi trivial<|Zi rfl<|L.n5<|Zaj ?_;exact Zc [_,_] rfl ⟨⟨_,_,_,rfl,(List.Mem.tail _ (List.Mem.head _)),Or.inr ⟨Tf.a63,Tf.s63,rfl⟩⟩,rfl,aGL⟩ (fun D hD=>by unfold J7;rw[aKO hf];rfl)
 ·have hf:(aL ls).2.2=0:=by simpa using hc1
  refine C.kn<|C.s1<|Zj rfl Tf.f42_2 rfl<|cS rfl Tf.a36 Tf.s36 rfl (List.Mem.head _) rfl rfl aJN rfl trivial<|Zj rfl Tf.f42_2 rfl<|Zj rfl Tf.f36_3 rfl<|Zm rfl Tf.a33 rfl (List.Mem.head _) rfl<|aW rfl U33 rfl (hL.ln.up nZ.up (Le.refl _)) rfl rfl trivial<|Zd rfl (fun D2 hD2=>L3.xH _ (aL ls).1.book ((aL ls).1.book.lines.length:Int) _ (hL.book.up (hD2 _ Ye)))<|Zaa rfl<|Zaa rfl<|bH rfl rfl rfl rfl Tf.s63 Ya Ya (.tail (bO.head)) Yi aGL ?_;refine Zi rfl<|L.n5 ?_;exact Zc [_,_] rfl ⟨⟨_,_,_,rfl,(List.Mem.tail _ (List.Mem.head _)),Or.inr ⟨Tf.a63,Tf.s63,rfl⟩⟩,rfl,aGL⟩ (fun D hD=>by unfold J7;rw[aKS hf];rfl)
theorem yQ(lv:Value)(ls:List ByteArray)(D:aA)(hS:Sl D RS 1 lv ls)(hV:kG D):Fn Tryz.prog 22 #[lv] D (fun _ v=>v=.tuple #[iP (wO ls).1,.int .i64 (wO ls).2]):=by
 refine enter 27 Tryz.func22 rfl rfl rfl rfl fun h0=>C.s1<|Zw rfl Tf.z67 rfl (fun q1=>Zi rfl<|L.n3<|Za rfl<|bU rfl rfl rfl (fun D1 hD1=>xD _ ls _ (hS.up RS.up (hD1 _ Ye)) (hV.up (hD1 _ Ye))) rfl aGL (fun v1 D1 hD1 hp1=>?_))
 obtain⟨w1,w2,rfl,⟨pv,cv,hv,lv,mv,bl,bc,yc,yq,rfl,hL⟩,hes⟩:=hp1;unfold bS;have hst:(aL ls).2.2=0→kD (aL ls).1:=l9 ls;have hpl7:(aL ls).1.row.places.length≤7:=I3 ls;have hln8:(aL ls).1.book.lines.length≤8:=L5 ls;refine Za rfl<|Zaa rfl<|Zaa rfl<|Zaa rfl<|Zw rfl Tf.z42 rfl (fun q2=>bH rfl rfl rfl rfl Tf.s42 Ya Ya (bO.head) (gU hL) trivial<|Zi rfl<|Zi rfl<|L.n4<|Za rfl<|eQ rfl rfl rfl rfl trivial<|L.n1 ?_);refine aF rfl (fun hc1=>?_) (fun hc1=>?_)
 ·have hf:(aL ls).2.2≠0:=by simpa using hc1
  refine C.s1<|Zq [.int .i64 0,.int .i64 0] rfl Tf.p67 Tf.z67 rfl rfl<|Za rfl<|bH rfl rfl rfl rfl Tf.s67 Ya Ya (.tail (bO.head)) Yi trivial<|Zi rfl<|L.n5<|Zaj ?_;exact Zc [_,_] rfl ⟨⟨_,_,_,rfl,(List.Mem.tail _ (List.Mem.head _)),Or.inr ⟨Tf.a67,Tf.s67,rfl⟩⟩,rfl,aGL⟩ (fun D hD=>by unfold wO;rw[aKO hf];rfl)
 ·have hf:(aL ls).2.2=0:=by simpa using hc1
  refine C.kn<|C.s1<|Zj rfl Tf.f42_0 rfl<|cS rfl Tf.a28 Tf.s28 rfl (List.Mem.head _) rfl rfl aJN rfl trivial<|Zj rfl Tf.f42_0 rfl<|Zj rfl Tf.f28_0 rfl<|Zm rfl Tf.a25 rfl (List.Mem.head _) rfl<|aW rfl U25 rfl (hL.pl.up RI.up (Le.refl _)) rfl rfl trivial<|fW rfl rfl rfl Yf rfl trivial<|Zd rfl (fun D2 hD2=>L8 _ (aL ls).1.row 0 (((aL ls).1.row.places.length:Int)-1) _ (hL.row.up (hD2 _ Ye)))<|Zaa rfl<|Zaa rfl ?_;refine bH rfl rfl rfl rfl Tf.s67 Ya Ya (.tail (bO.head)) Yi trivial<|Zi rfl<|L.n5 ?_;exact Zc [_,_] rfl ⟨⟨_,_,_,rfl,(List.Mem.tail _ (List.Mem.head _)),Or.inr ⟨Tf.a67,Tf.s67,rfl⟩⟩,rfl,aGL⟩ (fun D hD=>by unfold wO;rw[aKS hf];rfl)
end L12
end Go.Fs
namespace Go.Fs
variable{P:Program}{X:Cx}{γb:Type}[Membership Nat γb]{bad:γb}{all:Array Oper}{K:Act→World→Prop}{Q:Exit→Act→World→Prop}
variable{σ:bT}{μ:aC}{Ds:List aA}{os:List (Bool×Nat)}{fl:Bool}{ix:Nat}
variable{d:Nat}{x y z:Operand}{u v:Value}{ty:TypeId}{pos:String}{aft:Array Edge}{g:Option (Nat×Bool)}
section run
variable{t t1 e tr:TypeId}{sz:Nat}{z0:Value}{i0:TypeInfo}{ats:Array TypeId}
theorem qE(ht:P.underlying t=some (.slice e))(hat:ats[0]?= some t)(hat1:ats[1]?= some t1)(ht1:P.underlying t1=some .string)(hs:TS P e sz){w:World}{a:Option Addr}{n cap m:Nat}{xv:Value}{xs:List Value}
  (hm:(Builtin.lenOf xv).run P w=.ok m w) (hx:(Builtin.firstCells sz m xv).run P w=.ok xs.toArray w) (hle:n+m≤cap) {w':World}
  (hst:(match a with|some a=>storeCells (a.add (n*sz)) xs|none=>pure ():Sem Unit).run P w=.ok () w'):
  (Builtin.append_ ats tr #[.slice a n cap,xv]).run P w=.ok (.slice a (n+m) cap) w':=by
 have e1:(#[Value.slice a n cap,xv]:Array Value)[0]?= some (.slice a n cap):=rfl;have e2:(#[Value.slice a n cap,xv]:Array Value)[1]?= some xv:=rfl;unfold Builtin.append_;simp only[hat,hat1,e1,e2,Sem.run_bind,TU.of ht w,TU.of ht1 w,Result.andThen_ok,hs w,Sem.run_pure,aLI,aMN,hm,aJQ,aMG,hle,hx];cases a with
 |none=>
  have:w'=w:=by
   have h:(pure ():Sem Unit).run P w=.ok () w':=hst;rw[Sem.run_pure]at h;cases h;rfl
  subst this;rfl
 |some a=>
  have h:(storeCells (a.add (n*sz)) xs).run P w=.ok () w':=hst;simp only[Sem.run_bind,h,Result.andThen_ok,Sem.run_pure]
theorem vR(ht:P.underlying t=some (.slice e))(hat:ats[0]?= some t)(hat1:ats[1]?= some t1)(ht1:P.underlying t1=some .string)(hs:TS P e sz)(hz:TZ P e z0)(hi:P.info? e=some i0){w:World}{a:Option Addr}{n cap m:Nat}{xv:Value}{old xs:List Value}
  (hm:(Builtin.lenOf xv).run P w=.ok m w) (hx:∀w',w'.heap=w.heap→(Builtin.firstCells sz m xv).run P w'=.ok xs.toArray w') (ho:∀w',w'.heap=w.heap→(Builtin.firstCells sz n (.slice a n cap)).run P w'=.ok old.toArray w')
  (hgt:cap<n+m) (hlen:n+m≤10000000) (hb:1≤i0.bytes∧i0.bytes≤4096):
  ∃c,n+m≤c∧c≤9223372036854775807∧(Builtin.append_ ats tr #[.slice a n cap,xv]).run P w=.ok (.slice (some ⟨w.heap.size,0,none⟩) (n+m) c)
   {w with drawn:=w.drawn+1,heap:=w.heap.push (.cells (old.toArray++xs.toArray++Builtin.zeroCells z0.cells (c-(n+m))) e (0,0))}:=by
 have e1:(#[Value.slice a n cap,xv]:Array Value)[0]?= some (.slice a n cap):=rfl;have e2:(#[Value.slice a n cap,xv]:Array Value)[1]?= some xv:=rfl;have hti:∀w,(typeInfo e).run P w=.ok i0 w:=fun w=>by simp[typeInfo,program,Sem.run,hi,go_sem]
 have hcapn:=K4 hgt;have hbig:¬Builtin.nextslicecap (n+m) cap*i0.bytes>2^48:=by
  have:Builtin.nextslicecap (n+m) cap*i0.bytes≤(2*(n+m)+768)*4096:=Nat.mul_le_mul hcapn hb.2;omega
 have hch:(choose (.appendCap (n+m) cap e)).run P w=.ok ((n+m)+(w.tape w.drawn (.appendCap (n+m) cap e))%(2^63-(n+m))) {w with drawn:=w.drawn+1}:=by
  simp[choose,Sem.run,Question.forced,Question.cut]
 refine⟨(n+m)+(w.tape w.drawn (.appendCap (n+m) cap e))%(2^63-(n+m)),Nat.le_add_right _ _,by have:=Nat.mod_lt (w.tape w.drawn (.appendCap (n+m) cap e)) (show 0<2^63-(n+m) by omega);omega,?_⟩;unfold Builtin.append_;have hnot:¬(n+m≤cap):=by omega
 have hmax:¬(((n+m:Nat):Int)>IntKind.i64.max∧(false=true∨i0.bytes=0)):=by
  rintro⟨_,h|h⟩
  ·cases h
  ·omega
 simp only[hat,hat1,e1,e2,Sem.run_bind,TU.of ht w,TU.of ht1 w,Result.andThen_ok,hs w,Sem.run_pure,aLI,aMN,hm,aJQ,aMG,hnot,hti];rw[aKO (by rintro⟨_,h|h⟩;exact h.elim;omega)]
 simp only[Sem.run_bind,Result.andThen_ok,hti];rw[aKO hbig];have hzz:∀w,(zeroValue e).run P w=.ok z0 w:=hz;simp only[Sem.run_bind,Sem.run_pure,Result.andThen_ok,hti,hch,sU,hzz,ho {w with drawn:=w.drawn+1} rfl,hx {w with drawn:=w.drawn+1} rfl,hC]
end run
def IB(v:Value):Prop:=∀a n c,v=.slice a n c→c≤9223372036854775807
theorem A8{a:Option Addr}{n c:Nat}(h:c≤9223372036854775807):IB (.slice a n c):=fun _ _ _ e=>by cases e;exact h
theorem DD{A B ν:aC}{t t1 e tr:TypeId}{sz n m:Nat}{cells xs:List Value}{xv:Value}{z0:Value}{ats:Array TypeId}
  (ho:all[ix]?= some ⟨some d,.call {callee:=.builtin .append,args:=#[x,y],argTypes:=ats},tr,pos,aft,g⟩) (ht:P.underlying t=some (.slice e)) (hat:ats[0]?= some t) (hat1:ats[1]?= some t1) (ht1:P.underlying t1=some .string)
  (hs:TS P e sz) (hz:TZ P e z0) (hz1:Nat.beq z0.cells.size sz=true) (hi:(P.info? e).map (fun i=>Nat.ble 1 i.bytes&&Nat.ble i.bytes 4096)=some true) (hsz1:Nat.ble 1 sz=true)
  (hx:ev σ x=some v) (hy:ev σ y=some xv) (hacc:bR e sz v n cells ν) (hsrc:∀a w,Hl X σ (A++ν++B) Ds a w→(Builtin.lenOf xv).run P w=.ok m w∧∀w',w'.heap=w.heap→(Builtin.firstCells sz m xv).run P w'=.ok xs.toArray w') (hxl:xs.length=m*sz) (hcl:cells.length=n*sz) (hx1:∀u∈xs,cell1 u=true) (hlen:n+m≤10000000)
  (hfl:fl=false∨∀p∈ν,p.1∈bad) (hcapB:IB v)
  (hN:Nat.blt d X.N=true) (hg:cW all σ g)
  (kk:∀v' ν',bR e sz v' (n+m) (cells++xs) ν'→IB v'→WL P X bad all K Q os ((d,v')::σ) (A++ν'++B) Ds):WL P X bad all K Q ((fl,ix)::os) σ (A++ν++B) Ds:=by
 refine dN ho rfl rfl hg fun a w hh=>?_
 obtain⟨h1,h2,h3,D,h4,h5,h6⟩:=id hh;obtain⟨i0,hi,hb1,hb2⟩:∃i0,P.info? e=some i0∧1≤i0.bytes∧i0.bytes≤4096:=by
  cases h:P.info? e with
  |none=>simp[h]at hi
  |some i=>simp[h]at hi;exact⟨i,rfl,hi⟩
 have hsz:1≤sz:=aME hsz1;have hz1':=aLM hz1;have hex:(execOp a.eval ⟨some d,.call {callee:=.builtin .append,args:=#[x,y],argTypes:=ats},tr,pos,aft,g⟩).run P w=
   ((Builtin.append_ ats tr #[v,xv]).run P w).andThen fun r w'=>.ok (.value r) w':=by
  simp only[execOp,resolve,pure_bind,invoke,builtin];have e1:(#[x,y].map a.eval)=#[v,xv]:=by simp[hh.eval hx,hh.eval hy]
  rw[e1,Sem.run_bind];simp only[Sem.run_pure]
 rw[hex];obtain⟨hm,hfc⟩:=hsrc a w hh
 -- a new block
 have grow:∀(old:Option Addr) (cap:Nat),v=.slice old n cap→cap<n+m→(∀w',w'.heap=w.heap→(Builtin.firstCells sz n (.slice old n cap)).run P w'=.ok cells.toArray w')→
   Oper.uponIn (FW X.r) 0 P ⟨some d,.call {callee:=.builtin .append,args:=#[x,y],argTypes:=ats},tr,pos,aft,g⟩ a (fun a' w'=>(fl=true→jK bad w w')∧nB X.r bad P all K Q (eX all os) a' w') Q
    (((Builtin.append_ ats tr #[v,xv]).run P w).andThen fun r w'=>.ok (.value r) w'):=by
  intro old cap hv hgt hold;obtain⟨c,hc,hcB,hrun⟩:=vR (tr:=tr) ht hat hat1 ht1 hs hz hi hm hfc hold hgt hlen ⟨hb1,hb2⟩;rw[hv,hrun];obtain⟨junk,hjunk⟩:∃junk:List Value,cells.toArray++xs.toArray++Builtin.zeroCells z0.cells (c-(n+m))=(cells++xs++junk).toArray∧(cells++xs++junk).length=c*sz:=by
   refine⟨(Builtin.zeroCells z0.cells (c-(n+m))).toList,by simp,?_⟩;have:=nL z0.cells (c-(n+m));simp only[aJZ,Array.length_toList,this,hz1',hcl,hxl];rw[←aMQ,←aMQ];congr 1;omega
  have hpush:=h4.push (.cells (cells++xs++junk).toArray e (0,0)) rfl;simp only[Result.andThen_ok];rw[hjunk.1];refine⟨fun _=>⟨by simp,fun b hb _=>bZ hb⟩,?_⟩;have hst:fN X.h0 X.lo X.D0 X.mods (A++[(w.heap.size,.cells (cells++xs++junk).toArray e (0,0))]++B) D {w with drawn:=w.drawn+1,heap:=w.heap.push (.cells (cells++xs++junk).toArray e (0,0))}:=by
   have h:=hpush.sub (μ':=A++[(w.heap.size,.cells (cells++xs++junk).toArray e (0,0))]++B) (fun p hp=>by
    simp only[aKM,aJX]at hp ⊢
    rcases hp with(hp|hp)|hp
    ·exact aKB (aKP (aKP hp))
    ·exact aKP (hp.resolve_right Ye)
    ·exact aKB (aKB hp)) (by
    have hn:=hpush.nd;simp only[aLB,aKN,aLT,aKM,not_or]at hn;obtain⟨⟨⟨ha,_⟩,hb⟩,hn⟩:=hn;rw[aKE,aKE]at hn;simp only[aKN,aLB,aOC];rw[aKE,aKE];refine⟨⟨hn.1.1,by simp,fun q hq r hr=>?_⟩,hn.2.1,fun q hq r hr=>?_⟩
    ·simp only[aKQ]at hr;rintro rfl;exact ha (hr▸hq)
    ·simp only[aKM,aKQ]at hq;rcases hq with hq|hq
     ·exact hn.2.2 q (aKC _ hq) r hr
     ·rintro rfl;exact hb (hq▸hr))
   exact⟨h.hlo,h.size,h.old,h.dold,h.agr,h.box,h.nd,h.fz,h.env⟩
  exact kk _ _ (aKB ⟨_,c,junk,rfl,hc,rfl,by simp[hcl,hxl,aMQ],hjunk.2⟩) (A8 hcB) _ _ (Hl.put ⟨h1,h2,h3,D,hst,h5,h6.step (fun _ p hp=>by
   rcases aKM.1 hp with hp|hp
   ·rcases aKM.1 hp with hp|hp
    ·exact aKP (aJY.2 ⟨p,aKC _ (aKC _ hp),rfl⟩)
    ·exact aKB (by rw[aKQ.1 hp];exact aKR _)
   ·exact aKP (aJY.2 ⟨p,aJW _ hp,rfl⟩)) (fun _=>⟨by simp,fun b hb _=>⟨bZ hb,rfl⟩,rfl⟩) hst.dom⟩ hN _)
 rcases hacc with⟨old,hv,hn,hc,hν⟩|⟨b,cap,junk,hv,hncap,hν,hl1,hl2⟩
 ·subst hn;subst hc;subst hν
  by_cases h0:m=0
  ·subst h0;have hxs:xs=[]:=aNG.1 (by simpa using hxl);subst hxs;rw[hv,qE (tr:=tr) (w':=w) ht hat hat1 ht1 hs hm (hfc w rfl) (aKR _) (by cases old<;>rfl)]
   refine⟨fun _=>jK.refl _ _,kk _ [] (aKP ⟨old,rfl,rfl,rfl,rfl⟩) (A8 Yah) _ _ (Hl.put hh hN _)⟩
  ·refine grow old 0 hv Yd fun w' _=>?_
   cases old with
   |none=>rfl
   |some a=>simp[Builtin.firstCells,loadCells,loadCellsFrom,Sem.run_pure]
 ·subst hν;have hbx:=(h4.box (b,.cells (cells++junk).toArray e (0,0)) Ye).1;by_cases hfit:n+m≤cap
  ·have hjl:xs.length≤junk.length:=by
    have h1:(n+m)*sz≤cap*sz:=aOM sz hfit;rw[←hl2,aMQ,aJZ,hcl]at h1;omega
   have hcl1:n*sz+0+xs.length≤(cells++junk).length:=by rw[aJZ,hcl];omega
   obtain⟨w',hr,hw'⟩:=fU (P:=P) xs 0 w b (n*sz) (cells++junk) e hbx hcl1 hx1;have htk:(cells++junk).take (n*sz+0)++xs++(cells++junk).drop (n*sz+0+xs.length)=cells++xs++junk.drop xs.length:=by
    rw[←hcl,aGK,aOL,aOF,aLJ Yd];simp
   rw[htk]at hw';rw[hv,qE (tr:=tr) (w':=w') ht hat hat1 ht1 hs hm (hfc w rfl) hfit (by
    show(storeCells ((⟨b,0,none⟩:Addr).add (n*sz)) xs).run P w=_;rw[eK,aNB];exact hr)]
   have hHas:bO (A++[(b,.cells (cells++junk).toArray e (0,0))]++B) b (.cells (cells++junk).toArray e (0,0)) (.cells (cells++xs++junk.drop xs.length).toArray e (0,0)) (A++[(b,.cells (cells++xs++junk.drop xs.length).toArray e (0,0))]++B):=by
    rw[aKK A,aKK A];exact .app .head
   have hst:=h4.set hHas hw' rfl;refine⟨fun hf=>⟨by rw[hw'.1];simp,fun c hc hcb=>?_⟩,kk _ _ (aKB ⟨b,cap,junk.drop xs.length,rfl,hfit,rfl,by simp[hcl,hxl,aMQ],?_⟩) (A8 (hcapB _ _ _ hv)) _ _ (Hl.put ⟨h1,h2,h3,D,hst,h5,h6.step (fun _ p hp=>aKP Yq) (fun _=>gC hw' (aJY.2 ⟨_,hHas.mem,rfl⟩)) hst.dom⟩ hN _)⟩
   ·have hb:b∈bad:=by
     rcases hfl with h|h
     ·rw[hf]at h;cases h
     ·exact h _ (aKQ.2 rfl)
    rw[hw'.1,aMK (by rintro rfl;exact hcb hb)]
   ·rw[←hl2];simp;omega
  ·refine grow _ cap hv Yd fun w' hw'=>?_
   simp only[Builtin.firstCells];refine iC hcl fun j u hj=>kP (cs:=(cells++junk).toArray) (by rw[hw'];exact hbx) ?_
   have:=(aKH.1 hj).1;simp only[List.getElem?_toArray,aNB];rw[aMV this];exact hj
def bc(l:List UInt8):List Value:=l.map fun b=>.int .u8 b.toNat
theorem iY(l:List UInt8):(bc l).length=l.length:=by simp[bc]
theorem nC(a b:List UInt8):bc (a++b)=bc a++bc b:=by simp[bc]
theorem hP(l:List UInt8):∀u∈bc l,cell1 u=true:=by
 intro u hu;obtain⟨b,_,rfl⟩:=aJY.1 hu;rfl
theorem BD{A B ν:aC}{t t1 e tr:TypeId}{n:Nat}{cells:List Value}{s:ByteArray}{z0:Value}{ats:Array TypeId}
  (ho:all[ix]?= some ⟨some d,.call {callee:=.builtin .append,args:=#[x,y],argTypes:=ats},tr,pos,aft,g⟩) (ht:P.underlying t=some (.slice e)) (hat:ats[0]?= some t) (hat1:ats[1]?= some t1) (ht1:P.underlying t1=some .string)
  (hs:TS P e 1) (hz:TZ P e z0) (hz1:Nat.beq z0.cells.size 1=true) (hi:(P.info? e).map (fun i=>Nat.ble 1 i.bytes&&Nat.ble i.bytes 4096)=some true)
  (hx:ev σ x=some v) (hy:ev σ y=some (.string s)) (hacc:bR e 1 v n cells ν) (hcl:cells.length=n) (hlen:n+s.size≤10000000) (hfl:fl=false∨∀p∈ν,p.1∈bad) (hcapB:IB v) (hN:Nat.blt d X.N=true) (hg:cW all σ g)
  (kk:∀v' ν',bR e 1 v' (n+s.size) (cells++bc s.data.toList) ν'→IB v'→WL P X bad all K Q os ((d,v')::σ) (A++ν'++B) Ds):WL P X bad all K Q ((fl,ix)::os) σ (A++ν++B) Ds:=by
 refine DD (m:=s.size) (xs:=bc s.data.toList) ho ht hat hat1 ht1 hs hz hz1 hi rfl hx hy hacc (fun a w _=>⟨rfl,fun w' _=>?_⟩) (by rw[iY,aND];rfl) Yd (hP _) hlen hfl hcapB hN hg kk;exact Go.Lib.run_firstCells_string (P:=P) w' 1 s

theorem UZ{t t' e:TypeId}{p:Option Addr}(ho:all[ix]?= some ⟨some d,.binOp .eql t x y t',ty,pos,aft,g⟩)(ht:P.underlying t=some (.pointer e))(hx:ev σ x=some (.pointer p))(hy:ev σ y=some (.pointer none))(hN:Nat.blt d X.N=true)(hg:cW all σ g)
  (kk:WL P X bad all K Q os ((d,.bool p.isNone)::σ) μ Ds):WL P X bad all K Q ((fl,ix)::os) σ μ Ds:=
 vB ho (fun w=>by
  have hgd:(eqGuard .eql t x y (.pointer p) (.pointer none)).run P w=.ok () w:=by
   simp only[eqGuard];simp[go_sem]
  have heq:(Op.equal t (.pointer p) (.pointer none)).run P w=.ok p.isNone w:=by
   show(Op.equalIn (9999+1) t (.pointer p) (.pointer none)).run P w=_;rw[Op.equalIn,Sem.run_bind,TU.of ht w];cases p<;>rfl
  rw[Sem.run_bind,hgd];show((do Pure.pure (Value.bool (←Op.equal t (.pointer p) (.pointer none)))):Sem Value).run P w=_;rw[Sem.run_bind,heq];rfl) hx hy hN hg kk
theorem XH{t t' e sz b:Nat}(ho:all[ix]?= some ⟨some d,.binOp .neq t x y t',ty,pos,aft,g⟩)(ht:P.underlying t=some (.pointer e))(hs:TS P e sz)(hz:Nat.beq sz 0=false)(hx:ev σ x=some (.pointer (some ⟨b,0,none⟩)))(hy:ev σ y=some (.pointer (some ⟨b,0,none⟩)))(hN:Nat.blt d X.N=true)(hg:cW all σ g)
  (kk:WL P X bad all K Q os ((d,.bool false)::σ) μ Ds):WL P X bad all K Q ((fl,ix)::os) σ μ Ds:=
 DR ho (fun w=>by
  have hz':sz≠0:=fun h=>by subst h;cases hz
  have hgd:(eqGuard .neq t x y (.pointer (some ⟨b,0,none⟩)) (.pointer (some ⟨b,0,none⟩))).run P w=.ok () w:=by
   simp only[eqGuard];simp[go_sem]
  have heq:(Op.equal t (.pointer (some ⟨b,0,none⟩)) (.pointer (some ⟨b,0,none⟩))).run P w=.ok true w:=by
   show(Op.equalIn (9999+1) t _ _).run P w=_;rw[Op.equalIn,Sem.run_bind,TU.of ht w];show(do if(←sizeOf e)≠0 then sameAddr ⟨b,0,none⟩ ⟨b,0,none⟩else if((⟨b,0,none⟩:Addr)==⟨b,0,none⟩)=true then Pure.pure true else Pure.pure ((←choose .zeroSizeEq)=1):Sem Bool).run P w=_;rw[Sem.run_bind,hs w];show(if sz≠0 then _ else _:Sem Bool).run P w=_;rw[aKS hz'];simp[sameAddr,go_sem]
  rw[Sem.run_bind,hgd];show((do Pure.pure (Value.bool (!(←Op.equal t (.pointer (some ⟨b,0,none⟩)) (.pointer (some ⟨b,0,none⟩)))))):Sem Value).run P w=_;rw[Sem.run_bind,heq];rfl) hx hy hN hg kk
theorem CX{t1 t2 t e b:TypeId}{vs:List Value}(ho:all[ix]?= some ⟨some d,.convert t1 t2 x,ty,pos,aft,g⟩)(h1:P.underlying t1=some (.pointer t))(h2:P.underlying t2=some .unsafePointer)(ht:(P.info? t).map (fun j=>Nat.beq j.size 0)=some false)(hx:ev σ x=some (.pointer (some ⟨b,0,none⟩)))
  (hm:(b,.cells vs.toArray e (0,0))∈μ) (hv:Nat.beq vs.length 0=false) (hb:b∉bad) (hN:Nat.blt d X.N=true) (hg:cW all σ g) (kk:WL P X bad all K Q os ((d,.pointer (some ⟨b,0,none⟩))::σ) μ Ds):WL P X bad all K Q ((fl,ix)::os) σ μ Ds:=
 jB ho rfl rfl hN hg (fun a w hh w' hk=>by
  obtain⟨j,hj,hj0⟩:=aMP.1 ht;have hbx:=hh.boxAt hm hb hk;have hl:0<vs.length:=by
   cases h:vs.length with
   |zero=>rw[h]at hv;cases hv
   |succ n=>omega
  have:=Go.Lib.run_to_unsafe (P:=P) (w:=w') (e:=e) (cells:=vs.length) ⟨b,0,none⟩ h1 h2 hj (fun h=>by rw[h]at hj0;cases hj0) (by simp[World.shape?,hbx]) hl;simp only[execOp,hh.eval hx];rw[Sem.run_bind,this];rfl) kk
theorem Y9{t1 t2 t e b:TypeId}{vs:List Value}(ho:all[ix]?= some ⟨some d,.convert t1 t2 x,ty,pos,aft,g⟩)(h1:P.underlying t1=some .unsafePointer)(h2:P.underlying t2=some (.pointer t))(ht:(P.info? t).isSome=true)(hx:ev σ x=some (.pointer (some ⟨b,0,none⟩)))
  (hm:(b,.cells vs.toArray e (0,0))∈μ) (hl:liesAt P P.depth e (vs.length / P.cellsOf e) 0 t 1=true) (hb:b∉bad) (hN:Nat.blt d X.N=true) (hg:cW all σ g) (kk:WL P X bad all K Q os ((d,.pointer (some ⟨b,0,none⟩))::σ) μ Ds):WL P X bad all K Q ((fl,ix)::os) σ μ Ds:=
 jB ho rfl rfl hN hg (fun a w hh w' hk=>by
  obtain⟨j,hj⟩:=Option.isSome_iff_exists.1 ht;have hbx:=hh.boxAt hm hb hk;have:=Go.Lib.run_from_unsafe (P:=P) (w:=w') (e:=e) (cells:=vs.length) ⟨b,0,none⟩ h1 h2 hj (by simp[World.shape?,hbx]) hl;simp only[execOp,hh.eval hx];rw[Sem.run_bind,this];rfl) kk
theorem DG{c:Operand}{xs:Array Operand}{ats:Array TypeId}{f:FuncId}{fn:Func}(ho:all[ix]?= some ⟨some d,.call {callee:=.value c,args:=xs,argTypes:=ats},ty,pos,aft,g⟩)(hc:ev σ c=some (.func (.func f) #[] #[]))(hxs:H8 σ xs.toList=some [v])
  (hf:P.funcs[f]?= some fn) (hname:(fn.name== "runtime.NumGoroutine")=false) (hb:fn.body.isNone=true) (hn:Extern.findNext fn=none) (he:Extern.find fn=some Extern.AbiNoEscape.same) (hN:Nat.blt d X.N=true) (hg:cW all σ g)
  (kk:WL P X bad all K Q os ((d,v)::σ) μ Ds):WL P X bad all K Q ((fl,ix)::os) σ μ Ds:=by
 refine dN ho rfl rfl hg fun a w hh=>?_
 have e:(execOp a.eval ⟨some d,.call {callee:=.value c,args:=xs,argTypes:=ats},ty,pos,aft,g⟩).run P w=.ok (.value v) w:=by
  have e1:xs.map a.eval=#[v]:=by
   have:=hU (fun _ _ hx=>hh.eval hx) hxs;rw[show #[v]=[v].toArray from rfl,←this,←aJF]
  simp only[execOp,resolve,hh.eval hc,Deferred.ofValue,pure_bind,invoke,e1];show(callFunc f #[v]).run P w=_;rw[Go.run_callFunc_extern hf hname hb hn he];rfl
 rw[e];exact⟨fun _=>jK.refl _ _,kk _ _ (hh.put hN v)⟩
theorem B6{c:Operand}{xs:Array Operand}{ats:Array TypeId}{f:FuncId}{c1 c2 vs:List Value}{post:Value→Prop}(ho:all[ix]?= some ⟨some d,.call {callee:=.value c,args:=xs,argTypes:=ats},ty,pos,aft,g⟩)(hc:ev σ c=some (.func (.func f) c1.toArray c2.toArray))(hxs:H8 σ xs.toList=some vs)
  (hex:X.ex=none) (hEF:EF P f) (hf:∀D w,fN X.h0 X.lo X.D0 X.mods μ D w→Calls P f (c1++vs++c2).toArray w fun e w'=>∃r,e=.returned r∧Go.RowKit.Below (max 1 X.h0.size) w w'∧post r) (hN:Nat.blt d X.N=true) (hg:cW all σ g)
  (kk:∀r,post r→WL P X bad all K Q os ((d,r)::σ) [] []):WL P X bad all K Q ((false,ix)::os) σ μ Ds:=by
 refine dN ho rfl rfl hg fun a w hh=>?_
 obtain⟨h1,h2,h3,D,h4,h5,h6⟩:=id hh;rw[pN hEF (hh.eval hc) (hU (fun _ _ hx=>hh.eval hx) hxs)];refine⟨fun h=>by simp[FW]at h,cX.2 ((hf D w h4).mono ?_)⟩;rintro e w' ⟨r,rfl,hb,hp⟩;refine⟨(fun h=>by cases h),kk r hp _ _ (Hl.put ⟨h1,h2,h3,fun b=>if b<max 1 X.h0.size then D b else [],?_,(fun D₁ h=>by cases h),by unfold uB;rw[hex];trivial⟩ hN r)⟩
 have h00:(if 0<max 1 X.h0.size then D 0 else [])=D 0:=aKS Yd;refine⟨h4.hlo,aMU h4.size hb.size,fun b hl hm=>(hb.block b Yd).trans (h4.old b hl hm),fun b hl=>?_,h4.agr.of (fun b hne=>?_) h00 (hb.block 0 Yd),(fun p hp=>by cases hp),aMC,(fun p hp=>by cases hp),fun e he=>?_⟩
 ·rw[aKS Yd];exact h4.dold b hl
 ·by_cases hl:b<max 1 X.h0.size
  ·rw[aKS hl]at hne ⊢
   obtain⟨cs,e,fz,k1,k2⟩:=h4.agr.1 b hne;exact⟨cs,e,fz,by rw[hb.block b hl];exact k1,k2⟩
  ·rw[aKO hl]at hne;exact absurd rfl hne
 ·rw[←h4.env e he];exact Prod.ext hb.os hb.output
end Go.Fs
namespace Go.Fs
open Go.Proofs
namespace L12
open C12 Go.Lib
def dQ(b:Nat)(l:List UInt8)(ν:aC):Prop:=∃p v ν1,ν=(b,.cells [.pointer p,v].toArray 98 (0,0))::ν1∧(p=none∨p=some ⟨b,0,none⟩)∧bR 5 1 v l.length (bc l) ν1∧IB v
theorem dQ.unf{b:Nat}{l:List UInt8}{ν:aC}(h:dQ b l ν):∀p∈ν,cK p.2:=by
 obtain⟨p,v,ν1,rfl,_,ha,_⟩:=h;exact sL ha
def pO(w:List UInt8)(lo hi:Int):List UInt8:=w++[32]++itoa lo++[46,46]++itoa hi++[10]
def I5(w:List UInt8)(n:Int):List UInt8:=w++[32]++itoa n++[10]
theorem wL(l:List UInt8):(f8 l).size=l.length:=rfl
theorem pZ(a:Array UInt8):(⟨a⟩:ByteArray).size=a.size:=rfl
theorem S5(a b:ByteArray):(a++b).data.toList=a.data.toList++b.data.toList:=by simp
theorem X1(u:Nat)(h:u≤100000):(decDigits u).length≤6:=by
 rw[decDigits];split
 ·simp
 ·rw[decDigits];split
  ·simp
  ·rw[decDigits];split
   ·simp
   ·rw[decDigits];split
    ·simp
    ·rw[decDigits];split
     ·simp
     ·rw[decDigits];split
      ·simp
      ·omega
theorem iT{n:Int}(h1: -1000≤n)(h2:n≤100000):(itoa n).length≤7:=by
 unfold itoa;split
 ·rw[aKD];have:=X1 n.natAbs Yd;omega
 ·first|(have:=X1 n.toNat Yd;omega)|(have:=X1 n.natAbs Yd;omega)
theorem d8(b:Nat)(p:Option Addr)(v:Value)(hp:p=none∨p=some ⟨b,0,none⟩)(D:aA):jE Tryz.prog 70 [.pointer (some ⟨b,0,none⟩)] D [(b,.cells [.pointer p,v].toArray 98 (0,0))] (fun _ _ ν'=>ν'=[(b,.cells [.pointer (some ⟨b,0,none⟩),v].toArray 98 (0,0))]) (fun _=>False):=by
 refine dL 20 Tryz.func70 rfl rfl rfl rfl (fun h0 hwl hwn=>C.s1<|Za rfl<|Zab rfl<|Zj rfl Tf.f98_0 rfl<|Zm rfl Tf.a96 rfl (List.Mem.head _) rfl<|UZ rfl U96 rfl rfl rfl trivial<|L.n1<|aJ rfl (fun hc1=>?_) (fun hc1=>?_))
 ·obtain rfl:p=none:=by simpa using hc1
  refine C.rg<|Za rfl<|Za rfl<|CX rfl U96 U227 Yg rfl (List.Mem.head _) rfl aJN rfl trivial<|DG (f:=113) rfl rfl rfl Tryz.func113 Yg Yg Yg Yg rfl trivial<|Y9 rfl U227 U96 Yg rfl (List.Mem.head _) Yg aJN rfl trivial<|Zab rfl<|Zj rfl Tf.f98_0 rfl<|Zo rfl Tf.s96 (bO.head) rfl<|Zz ?_;exact dE (A:=[]) (ν':=[_]) (B:=[]) (vs:=[]) rfl rfl rfl aGL (fun D' hD=>rfl)
 ·obtain rfl:p=some ⟨b,0,none⟩:=hp.resolve_left (by rintro rfl;cases hc1);refine C.s1<|Za rfl<|Zab rfl<|Zj rfl Tf.f98_0 rfl<|Zm rfl Tf.a96 rfl (List.Mem.head _) rfl<|Za rfl<|XH rfl U96 Tf.s98 rfl rfl rfl rfl trivial<|L.n1<|aJ rfl (fun hc2=>?_) (fun hc2=>?_)
  ·cases hc2
  ·refine aAX ?_;exact dE (A:=[]) (ν':=[_]) (B:=[]) (vs:=[]) rfl rfl rfl aGL (fun D' hD=>rfl)
theorem iX(b:Nat)(s:ByteArray)(l:List UInt8)(ν:aC)(D:aA)(hb:dQ b l ν)(hl:l.length+s.size≤10000000):jE Tryz.prog 41 [.pointer (some ⟨b,0,none⟩),.string s] D ν (fun _ _ ν'=>dQ b (l++s.data.toList) ν') (fun _=>False):=by
 obtain⟨p,v,ν1,rfl,hp,ha,hcb⟩:=hb;refine dL 19 Tryz.func41 rfl rfl rfl rfl (fun h0 hwl hwn=>C.s1<|Zi rfl<|Zi rfl<|L.n3<|Za rfl<|Zf [] ν1 [(b,_)] rfl (Or.inl rfl) (fun p hp=>by simp only[aKQ]at hp;subst hp;rfl) (fun D5 hD5=>d8 b p v hp _) (fun _ _ _ h=>h.elim) (fun v5 D6 ν5 hD5 hp5=>?_))
 subst hp5;refine L.n3<|Za rfl<|Za rfl<|Zab rfl<|Zj rfl Tf.f98_1 rfl<|Zm rfl Tf.a53 rfl (List.Mem.head _) rfl<|Za rfl<|aE ([(b,.cells [.pointer (some ⟨b,0,none⟩),v].toArray 98 (0,0))]++ν1++[]) Ye<|BD (A:=[(b,_)]) (B:=[]) rfl U53 rfl rfl U9 Tf.s5 Tf.z5 rfl Tf.i5 rfl rfl ha (iY _) hl (aKP rfl) hcb rfl aGL (fun v7 ν7 ha7 hcb7=>aE ((b,.cells [.pointer (some ⟨b,0,none⟩),v].toArray 98 (0,0))::ν7) Ye<|Zab rfl<|Zj rfl Tf.f98_1 rfl ?_);refine aK (ws:=[.pointer (some ⟨b,0,none⟩),v7]) rfl rfl rfl ha7.cells1 Tf.s53 .head Ye rfl ha7.cell1 trivial<|L.n3<|Za rfl<|gH rfl U9 rfl rfl rfl trivial<|Zi rfl<|Zi rfl<|L.n5 ?_;refine fun a w hh=>dE (P:=Tryz.prog) (fn:=Tryz.f41) (A:=[]) (ν':=(b,_)::ν7) (B:=[]) (vs:=[_,_]) rfl rfl rfl C.rs (fun D' hD=>⟨_,v7,ν7,rfl,aKB rfl,by rw[aJZ,nC];exact ha7,hcb7⟩) a w (hh.boxesEq (aKF _).symm)
theorem tQ(w:ByteArray)(lo hi:Int)(b:Nat)(l:List UInt8)(ν:aC)(D:aA)(hV:kG D)(hw:w.size≤10)(hlo: -1000≤lo∧lo≤100000)(hhi: -1000≤hi∧hi≤100000)(hb:dQ b l ν)(hl:l.length≤1000000):jE Tryz.prog 40 [.string w,.int .i64 lo,.int .i64 hi,.pointer (some ⟨b,0,none⟩)] D ν (fun _ _ ν'=>dQ b (l++pO w.data.toList lo hi) ν') (fun _=>False):=by
 have hilo:=iT hlo.1 hlo.2;have hihi:=iT hhi.1 hhi.2;refine dL 18 Tryz.func40 rfl rfl rfl rfl (fun h0 hwl hwn=>C.rg<|Za rfl<|kU rfl rfl rfl (by first|omega|(simp only[pZ,aLH,aKD,aLY];omega)) rfl trivial<|Za rfl<|Zd rfl (fun D1 hD1=>xK lo Yf _ (hV.up (hD1 _ Ye)))<|kU rfl rfl rfl Ys rfl trivial<|kU rfl rfl rfl Ys rfl trivial<|Za rfl<|Zd rfl (fun D2 hD2=>xK hi Yf _ (hV.up (hD2 _ Ye)))<|kU rfl rfl rfl Ys rfl trivial<|kU rfl rfl rfl Ys rfl aGL ?_);refine aE ([]++ν++[]) Ye<|Zf [] [] ν rfl (Or.inl rfl) hb.unf (fun D9 hD9=>iX b _ l ν _ hb (by simp only[aGG,wL,pZ,aLH,aKD,aLY];omega)) (fun _ _ _ h=>h.elim) (fun v9 D10 ν9 hD9 hp9=>aE ν9 Ye<|Zz ?_)
 refine fun a w hh=>dE (P:=Tryz.prog) (fn:=Tryz.f40) (A:=[]) (ν':=ν9) (B:=[]) (vs:=[]) rfl rfl rfl aGL (fun D' hD=>by simpa [pO,I5,f8,S5]using hp9) a w (hh.boxesEq Ye)
theorem Z8(w:ByteArray)(m:Int)(b:Nat)(l:List UInt8)(ν:aC)(D:aA)(hV:kG D)(hw:w.size≤10)(hm: -1000≤m∧m≤100000)(hb:dQ b l ν)(hl:l.length≤1000000):jE Tryz.prog 43 [.string w,.int .i64 m,.pointer (some ⟨b,0,none⟩)] D ν (fun _ _ ν'=>dQ b (l++I5 w.data.toList m) ν') (fun _=>False):=by
 have him:=iT hm.1 hm.2;refine dL 12 Tryz.func43 rfl rfl rfl rfl (fun h0 hwl hwn=>C.rg<|Za rfl<|kU rfl rfl rfl (by first|omega|(simp only[pZ,aLH,aKD,aLY];omega)) rfl trivial<|Za rfl<|Zd rfl (fun D1 hD1=>xK m Yf _ (hV.up (hD1 _ Ye)))<|kU rfl rfl rfl Ys rfl trivial<|kU rfl rfl rfl Ys rfl trivial<|aE ([]++ν++[]) Ye<|Zf [] [] ν rfl (Or.inl rfl) hb.unf (fun D9 hD9=>iX b _ l ν _ hb (by simp only[aGG,wL,pZ,aLH,aKD,aLY];omega)) (fun _ _ _ h=>h.elim) (fun v9 D10 ν9 hD9 hp9=>aE ν9 Ye<|Zz ?_))
 refine fun a w hh=>dE (P:=Tryz.prog) (fn:=Tryz.f43) (A:=[]) (ν':=ν9) (B:=[]) (vs:=[]) rfl rfl rfl aGL (fun D' hD=>by simpa [pO,I5,f8,S5]using hp9) a w (hh.boxesEq Ye)
end L12
end Go.Fs
