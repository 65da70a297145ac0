/- Of the proof of BookWider: BW18, BW19, BW20, BW21, Bytes, BW22, BW23, File, BW24, Copy. -/
import Derived.Test.YtdjdcpieiedfgaaGreatDoorZBookWiderAJ
import Derived.Test.YtdjdcpieiedfgaaGreatDoorZBookWiderAI
import Derived.Lib.AppendStr
import Derived.Lib.UnsafeStr
import Derived.Lib.Builder
import Derived.Laws.Externs
import Derived.Test.YtdjdcpieiedfgaaGreatDoorZBookWiderAE
import Derived.Laws.IdiomStrings
namespace Go.Fs
open Go.Proofs Tryz
namespace L12
open C12
def Z1(D:aC)(wb:Nat)(s:aN)(ν:aD):Prop:=∃pv cv hv lv mv bl bc yc yq ν1 ν2 ν3 ν4 ν5 ν6 ν7 ν8,ν=(wb,qC (dO s pv cv hv lv mv bl bc yc yq) 343)::(ν8++(ν7++(ν6++(ν5++(ν4++(ν3++(ν2++ν1)))))))∧aXH D s pv cv hv lv mv bl bc yc yq ν1 ν2 ν3 ν4 ν5 ν6 ν7 ν8
def gS(P:Program)(f:FuncId)(k:Nat)(act:fZ):Prop:=∀(wb:Nat) (s:aN) (nv:Value) (n:List Int) (ν:aD) (D:aC),Sl D RI 1 nv n→n.length=k→(∀x∈n,0≤x∧x≤999)→Z1 D wb s ν→N1 s→
 lH P f [qP wb,nv] D ν (fun D' _ ν'=>∃s',act s n=.ok s'∧Z1 D' wb s' ν') (fun v=>∃c,act s n=.error c∧v=fD c)
theorem _root_.Go.Fs.lH.frameE{P:Program}{f:FuncId}{args:List Value}{D:aC}{ν A B:aD}{post:aC→Value→aD→Prop}{pan:Value→Prop}(h:lH P f args D ν post pan):lH P f args D (A++ν++B) (fun D' v ν'=>∃G,post D' v G∧ν'=A++G++B) pan:=h.frame fun _ _ ν' _ hp=>⟨ν',hp,rfl⟩
theorem _root_.Go.Fs.lH.frameB{P:Program}{f:FuncId}{args:List Value}{D:aC}{ν:aD}{post:aC→Value→aD→Prop}{pan:Value→Prop}(h:lH P f args D ν post pan)(B:aD):lH P f args D ([]++ν++B) (fun D' v ν'=>∃G,post D' v G∧ν'=[]++G++B) pan:=h.frameE
theorem AV{l:List Int}(h:l.length=1):∃a,l=[a]:=by match l,h with| [a],_=>exact⟨a,rfl⟩
theorem OB{l:List Int}(h:l.length=2):∃a b,l=[a,b]:=by match l,h with| [a,b],_=>exact⟨a,b,rfl⟩
theorem aWM{l:List Int}(h:l.length=3):∃a b c,l=[a,b,c]:=by match l,h with| [a,b,c],_=>exact⟨a,b,c,rfl⟩
theorem aWO{l:List Int}(h:l.length=4):∃a b c d,l=[a,b,c,d]:=by match l,h with| [a,b,c,d],_=>exact⟨a,b,c,d,rfl⟩
theorem W0{e sz n:Nat}{cells:List Value}{v:Value}{ν:aD}(h:bS e sz v n cells ν):∃x c,v=.slice x n c:=by
 rcases h with⟨a,rfl,rfl,_,_⟩|⟨b,cap,junk,rfl,_,_,_⟩
 ·exact⟨a,0,rfl⟩
 ·exact⟨_,cap,rfl⟩
theorem PA:gS prog 266 0 (yU):=by
 rintro wb s nv n ν D hn hlen hr ⟨pv,cv,hv,lv,mv,bl,bc,yc,yq,ν1,ν2,ν3,ν4,ν5,ν6,ν7,ν8,rfl,hO⟩ hsm;obtain rfl:n=[]:=bDL hlen;refine lH.reorder ((YN wb s pv cv hv lv mv bl bc yc yq nv ν1 D hO.pl hsm.pl).frameB (ν8++(ν7++(ν6++(ν5++(ν4++(ν3++(ν2)))))))) Yj ?_ ?_
 ·rintro D' v ν' hle ⟨_,⟨hc,v1,νz,rfl,hacc⟩,rfl⟩;refine⟨_,Yac,setRow s {s.row with places:=s.row.places++[2]},by unfold yU;simp only[];repeat (first|rw[aZK Yd]|rw[aZB Yd]),v1,cv,hv,lv,mv,bl,bc,yc,yq,νz,ν2,ν3,ν4,ν5,ν6,ν7,ν8,rfl,?_⟩
  exact⟨(by have hz:(s.row.places++[2]).length=s.row.places.length+1:=Ye;show bS _ _ _ (s.row.places++[2]).length _ _;rw[hz];exact hacc),hO.ct,hO.ht,hO.lev,hO.mks,hO.ln,hO.cn.up wC.up hle,hO.ch,hO.cl⟩
 ·rintro v ⟨h1,rfl⟩;exact⟨_,by unfold yU;simp only[];repeat (first|rw[aZK Yd]|rw[aZB Yd]),rfl⟩
theorem XG:gS prog 267 2 (yQ):=by
 rintro wb s nv n ν D hn hlen hr ⟨pv,cv,hv,lv,mv,bl,bc,yc,yq,ν1,ν2,ν3,ν4,ν5,ν6,ν7,ν8,rfl,hO⟩ hsm;obtain⟨a,b,rfl⟩:=OB hlen;have ha:0≤a:=(hr a Ye).1;refine lH.reorder ((aGL wb s pv cv hv lv mv bl bc yc yq nv a b ν1 D hn hO.pl hsm.pl ha).frameB (ν8++(ν7++(ν6++(ν5++(ν4++(ν3++(ν2)))))))) Yj ?_ ?_
 ·rintro D' v ν' hle ⟨_,⟨hc,νz,rfl,hacc⟩,rfl⟩;refine⟨_,Yac,setRow s {s.row with places:=s.row.places.set a.toNat b},by unfold yQ;simp only[];repeat (first|rw[aZK Yd]|rw[aZB Yd]),pv,cv,hv,lv,mv,bl,bc,yc,yq,νz,ν2,ν3,ν4,ν5,ν6,ν7,ν8,rfl,?_⟩
  exact⟨(by have hz:(s.row.places.set a.toNat b).length=s.row.places.length:=Ye;show bS _ _ _ (s.row.places.set a.toNat b).length _ _;rw[hz];exact hacc),hO.ct,hO.ht,hO.lev,hO.mks,hO.ln,hO.cn.up wC.up hle,hO.ch,hO.cl⟩
 ·rintro v (⟨h1,rfl⟩|⟨h1,h2,rfl⟩)
  ·exact⟨_,by unfold yQ;simp only[];repeat (first|rw[aZK Yd]|rw[aZB Yd]),rfl⟩
  ·exact⟨_,by unfold yQ;simp only[];repeat (first|rw[aZK Yd]|rw[aZB Yd]),rfl⟩
theorem NY:gS prog 268 2 (oS false):=by
 rintro wb s nv n ν D hn hlen hr ⟨pv,cv,hv,lv,mv,bl,bc,yc,yq,ν1,ν2,ν3,ν4,ν5,ν6,ν7,ν8,rfl,hO⟩ hsm;obtain⟨a,b,rfl⟩:=OB hlen;refine lH.reorder ((YY wb s pv cv hv lv mv bl bc yc yq nv a b ν2 D hn hO.ct hsm.ct (W0 hO.pl)).frameB (ν8++(ν7++(ν6++(ν5++(ν4++(ν3++(ν1)))))))) Yj ?_ ?_
 ·rintro D' v ν' hle ⟨_,⟨hc,v1,νz,rfl,hacc⟩,rfl⟩;refine⟨_,Yac,setRow s {s.row with counts:=s.row.counts++[(⟨false,a,b⟩:C1.xI)]},by unfold oS;simp only[];repeat (first|rw[aZK Yd]|rw[aZB Yd]),pv,v1,hv,lv,mv,bl,bc,yc,yq,ν1,νz,ν3,ν4,ν5,ν6,ν7,ν8,rfl,?_⟩
  exact⟨hO.pl,(by have hz:(s.row.counts++[(⟨false,a,b⟩:C1.xI)]).length=s.row.counts.length+1:=Ye;show bS _ _ _ (s.row.counts++[(⟨false,a,b⟩:C1.xI)]).length _ _;rw[hz];exact hacc),hO.ht,hO.lev,hO.mks,hO.ln,hO.cn.up wC.up hle,hO.ch,hO.cl⟩
 ·rintro v (⟨h1,rfl⟩|⟨h1,h2,rfl⟩)
  ·exact⟨_,by unfold oS;simp only[];repeat (first|rw[aZK Yd]|rw[aZB Yd]),rfl⟩
  ·exact⟨_,by unfold oS;simp only[];repeat (first|rw[aZK Yd]|rw[aZB Yd]),rfl⟩
theorem aCX:gS prog 269 2 (oS true):=by
 rintro wb s nv n ν D hn hlen hr ⟨pv,cv,hv,lv,mv,bl,bc,yc,yq,ν1,ν2,ν3,ν4,ν5,ν6,ν7,ν8,rfl,hO⟩ hsm;obtain⟨a,b,rfl⟩:=OB hlen;refine lH.reorder ((aGM wb s pv cv hv lv mv bl bc yc yq nv a b ν2 D hn hO.ct hsm.ct (W0 hO.pl)).frameB (ν8++(ν7++(ν6++(ν5++(ν4++(ν3++(ν1)))))))) Yj ?_ ?_
 ·rintro D' v ν' hle ⟨_,⟨hc,v1,νz,rfl,hacc⟩,rfl⟩;refine⟨_,Yac,setRow s {s.row with counts:=s.row.counts++[(⟨true,a,b⟩:C1.xI)]},by unfold oS;simp only[];repeat (first|rw[aZK Yd]|rw[aZB Yd]),pv,v1,hv,lv,mv,bl,bc,yc,yq,ν1,νz,ν3,ν4,ν5,ν6,ν7,ν8,rfl,?_⟩
  exact⟨hO.pl,(by have hz:(s.row.counts++[(⟨true,a,b⟩:C1.xI)]).length=s.row.counts.length+1:=Ye;show bS _ _ _ (s.row.counts++[(⟨true,a,b⟩:C1.xI)]).length _ _;rw[hz];exact hacc),hO.ht,hO.lev,hO.mks,hO.ln,hO.cn.up wC.up hle,hO.ch,hO.cl⟩
 ·rintro v (⟨h1,rfl⟩|⟨h1,h2,rfl⟩)
  ·exact⟨_,by unfold oS;simp only[];repeat (first|rw[aZK Yd]|rw[aZB Yd]),rfl⟩
  ·exact⟨_,by unfold oS;simp only[];repeat (first|rw[aZK Yd]|rw[aZB Yd]),rfl⟩
theorem FK:gS prog 270 1 (qU):=by
 rintro wb s nv n ν D hn hlen hr ⟨pv,cv,hv,lv,mv,bl,bc,yc,yq,ν1,ν2,ν3,ν4,ν5,ν6,ν7,ν8,rfl,hO⟩ hsm;obtain⟨a,rfl⟩:=AV hlen;have ha:0≤a:=(hr a Ye).1;refine lH.reorder ((LD wb s pv cv hv lv mv bl bc yc yq nv a ν2 D hn hO.ct hsm.ct ha).frameB (ν8++(ν7++(ν6++(ν5++(ν4++(ν3++(ν1)))))))) Yj ?_ ?_
 ·rintro D' v ν' hle ⟨_,⟨hc,v1,νz,rfl,hacc⟩,rfl⟩;refine⟨_,Yac,setRow s {s.row with counts:=s.row.counts.eraseIdx a.toNat},by unfold qU;simp only[];repeat (first|rw[aZK Yd]|rw[aZB Yd]),pv,v1,hv,lv,mv,bl,bc,yc,yq,ν1,νz,ν3,ν4,ν5,ν6,ν7,ν8,rfl,?_⟩
  exact⟨hO.pl,(by have hz:(s.row.counts.eraseIdx a.toNat).length=s.row.counts.length-1:=(bCY Yd);show bS _ _ _ (s.row.counts.eraseIdx a.toNat).length _ _;rw[hz];exact hacc),hO.ht,hO.lev,hO.mks,hO.ln,hO.cn.up wC.up hle,hO.ch,hO.cl⟩
 ·rintro v ⟨h1,rfl⟩;exact⟨_,by unfold qU;simp only[];repeat (first|rw[aZK Yd]|rw[aZB Yd]),rfl⟩
theorem OG:gS prog 271 1 (xW):=by
 rintro wb s nv n ν D hn hlen hr ⟨pv,cv,hv,lv,mv,bl,bc,yc,yq,ν1,ν2,ν3,ν4,ν5,ν6,ν7,ν8,rfl,hO⟩ hsm;obtain⟨a,rfl⟩:=AV hlen;refine lH.reorder ((aBK wb s pv cv hv lv mv bl bc yc yq nv a D hn).frameB (ν8++(ν7++(ν6++(ν5++(ν4++(ν3++(ν2++(ν1))))))))) Yj ?_ ?_
 ·rintro D' v ν' hle ⟨_,⟨h1,rfl⟩,rfl⟩;refine⟨_,.refl _,setRow s {s.row with wrong:=a},by unfold xW;simp only[];repeat (first|rw[aZK Yd]|rw[aZB Yd]),pv,cv,hv,lv,mv,bl,bc,yc,yq,ν1,ν2,ν3,ν4,ν5,ν6,ν7,ν8,rfl,⟨hO.pl,hO.ct,hO.ht,hO.lev,hO.mks,hO.ln,hO.cn.up wC.up hle,hO.ch,hO.cl⟩⟩
 ·rintro v ⟨h1,rfl⟩;exact⟨_,by unfold xW;simp only[];repeat (first|rw[aZK Yd]|rw[aZB Yd]),rfl⟩
theorem aIO:gS prog 272 1 (JG):=by
 rintro wb s nv n ν D hn hlen hr ⟨pv,cv,hv,lv,mv,bl,bc,yc,yq,ν1,ν2,ν3,ν4,ν5,ν6,ν7,ν8,rfl,hO⟩ hsm;obtain⟨a,rfl⟩:=AV hlen;refine lH.reorder ((aMU wb s pv cv hv lv mv bl bc yc yq nv a D hn).frameB (ν8++(ν7++(ν6++(ν5++(ν4++(ν3++(ν2++(ν1))))))))) Yj ?_ ?_
 ·rintro D' v ν' hle ⟨_,⟨h1,rfl⟩,rfl⟩;refine⟨_,.refl _,setRow s {s.row with off:=a},by unfold JG;simp only[];repeat (first|rw[aZK Yd]|rw[aZB Yd]),pv,cv,hv,lv,mv,bl,bc,yc,yq,ν1,ν2,ν3,ν4,ν5,ν6,ν7,ν8,rfl,⟨hO.pl,hO.ct,hO.ht,hO.lev,hO.mks,hO.ln,hO.cn.up wC.up hle,hO.ch,hO.cl⟩⟩
 ·rintro v ⟨h1,rfl⟩;exact⟨_,by unfold JG;simp only[];repeat (first|rw[aZK Yd]|rw[aZB Yd]),rfl⟩
theorem XS:gS prog 273 3 (xN):=by
 rintro wb s nv n ν D hn hlen hr ⟨pv,cv,hv,lv,mv,bl,bc,yc,yq,ν1,ν2,ν3,ν4,ν5,ν6,ν7,ν8,rfl,hO⟩ hsm;obtain⟨a,b,c,rfl⟩:=aWM hlen;have ha:0≤a:=(hr a Ye).1;have hb:0≤b∧b≤1000:=by have:=hr b Ye;omega
 refine lH.reorder ((aIA wb s pv cv hv lv mv bl bc yc yq nv a b c ν3 D hn hO.ht hsm.ht ha hb).frameB (ν8++(ν7++(ν6++(ν5++(ν4++(ν2++(ν1)))))))) Yj ?_ ?_
 ·rintro D' v ν' hle ⟨_,⟨hc,νz,rfl,hacc⟩,rfl⟩;refine⟨_,Yz,setTable s {s.table with heights:=s.table.heights.set a.toNat (b,c)},by unfold xN;simp only[];repeat (first|rw[aZK Yd]|rw[aZB Yd]),pv,cv,hv,lv,mv,bl,bc,yc,yq,ν1,ν2,νz,ν4,ν5,ν6,ν7,ν8,rfl,?_⟩
  exact⟨hO.pl,hO.ct,(by have hz:(s.table.heights.set a.toNat (b,c)).length=s.table.heights.length:=Ye;show bS _ _ _ (s.table.heights.set a.toNat (b,c)).length _ _;rw[hz];exact hacc),hO.lev,hO.mks,hO.ln,hO.cn.up wC.up hle,hO.ch,hO.cl⟩
 ·rintro v (⟨h1,rfl⟩|⟨h1,h2,rfl⟩)
  ·exact⟨_,by unfold xN;simp only[];repeat (first|rw[aZK Yd]|rw[aZB Yd]),rfl⟩
  ·exact⟨_,by unfold xN;simp only[];repeat (first|rw[aZK Yd]|rw[aZB Yd]),rfl⟩
theorem XH:gS prog 274 1 (W6):=by
 rintro wb s nv n ν D hn hlen hr ⟨pv,cv,hv,lv,mv,bl,bc,yc,yq,ν1,ν2,ν3,ν4,ν5,ν6,ν7,ν8,rfl,hO⟩ hsm;obtain⟨a,rfl⟩:=AV hlen;refine lH.reorder ((aDO wb s pv cv hv lv mv bl bc yc yq nv a D hn).frameB (ν8++(ν7++(ν6++(ν5++(ν4++(ν3++(ν2++(ν1))))))))) Yj ?_ ?_
 ·rintro D' v ν' hle ⟨_,⟨h1,rfl⟩,rfl⟩;refine⟨_,.refl _,setTable s {s.table with step:=a},by unfold W6;simp only[];repeat (first|rw[aZK Yd]|rw[aZB Yd]),pv,cv,hv,lv,mv,bl,bc,yc,yq,ν1,ν2,ν3,ν4,ν5,ν6,ν7,ν8,rfl,⟨hO.pl,hO.ct,hO.ht,hO.lev,hO.mks,hO.ln,hO.cn.up wC.up hle,hO.ch,hO.cl⟩⟩
 ·rintro v ⟨h1,rfl⟩;exact⟨_,by unfold W6;simp only[];repeat (first|rw[aZK Yd]|rw[aZB Yd]),rfl⟩
theorem RE:gS prog 275 1 (wF):=by
 rintro wb s nv n ν D hn hlen hr ⟨pv,cv,hv,lv,mv,bl,bc,yc,yq,ν1,ν2,ν3,ν4,ν5,ν6,ν7,ν8,rfl,hO⟩ hsm;obtain⟨a,rfl⟩:=AV hlen;refine lH.reorder ((aCH wb s pv cv hv lv mv bl bc yc yq nv a ν4 D hn hO.lev hsm.lev).frameB (ν8++(ν7++(ν6++(ν5++(ν3++(ν2++(ν1)))))))) Yj ?_ ?_
 ·rintro D' v ν' hle ⟨_,⟨hc,v1,νz,rfl,hacc⟩,rfl⟩;refine⟨_,Yz,setTable s {s.table with levels:=s.table.levels++[a]},by unfold wF;simp only[];repeat (first|rw[aZK Yd]|rw[aZB Yd]),pv,cv,hv,v1,mv,bl,bc,yc,yq,ν1,ν2,ν3,νz,ν5,ν6,ν7,ν8,rfl,?_⟩
  exact⟨hO.pl,hO.ct,hO.ht,(by have hz:(s.table.levels++[a]).length=s.table.levels.length+1:=Ye;show bS _ _ _ (s.table.levels++[a]).length _ _;rw[hz];exact hacc),hO.mks,hO.ln,hO.cn.up wC.up hle,hO.ch,hO.cl⟩
 ·rintro v (⟨h1,rfl⟩|⟨h1,h2,rfl⟩)
  ·exact⟨_,by unfold wF;simp only[];repeat (first|rw[aZK Yd]|rw[aZB Yd]),rfl⟩
  ·exact⟨_,by unfold wF;simp only[];repeat (first|rw[aZK Yd]|rw[aZB Yd]),rfl⟩
theorem PN:gS prog 276 2 (wW):=by
 rintro wb s nv n ν D hn hlen hr ⟨pv,cv,hv,lv,mv,bl,bc,yc,yq,ν1,ν2,ν3,ν4,ν5,ν6,ν7,ν8,rfl,hO⟩ hsm;obtain⟨a,b,rfl⟩:=OB hlen;have ha:0≤a:=(hr a Ye).1;refine lH.reorder ((YQ wb s pv cv hv lv mv bl bc yc yq nv a b ν4 D hn hO.lev hsm.lev ha).frameB (ν8++(ν7++(ν6++(ν5++(ν3++(ν2++(ν1)))))))) Yj ?_ ?_
 ·rintro D' v ν' hle ⟨_,⟨hc,νz,rfl,hacc⟩,rfl⟩;refine⟨_,Yz,setTable s {s.table with levels:=s.table.levels.set a.toNat b},by unfold wW;simp only[];repeat (first|rw[aZK Yd]|rw[aZB Yd]),pv,cv,hv,lv,mv,bl,bc,yc,yq,ν1,ν2,ν3,νz,ν5,ν6,ν7,ν8,rfl,?_⟩
  exact⟨hO.pl,hO.ct,hO.ht,(by have hz:(s.table.levels.set a.toNat b).length=s.table.levels.length:=Ye;show bS _ _ _ (s.table.levels.set a.toNat b).length _ _;rw[hz];exact hacc),hO.mks,hO.ln,hO.cn.up wC.up hle,hO.ch,hO.cl⟩
 ·rintro v (⟨h1,rfl⟩|⟨h1,h2,rfl⟩)
  ·exact⟨_,by unfold wW;simp only[];repeat (first|rw[aZK Yd]|rw[aZB Yd]),rfl⟩
  ·exact⟨_,by unfold wW;simp only[];repeat (first|rw[aZK Yd]|rw[aZB Yd]),rfl⟩
theorem aBH:gS prog 277 4 (yG):=by
 rintro wb s nv n ν D hn hlen hr ⟨pv,cv,hv,lv,mv,bl,bc,yc,yq,ν1,ν2,ν3,ν4,ν5,ν6,ν7,ν8,rfl,hO⟩ hsm;obtain⟨a,b,c,d,rfl⟩:=aWO hlen;refine lH.reorder ((aIL wb s pv cv hv lv mv bl bc yc yq nv a b c d ν5 D hn hO.mks hsm.mks (W0 hO.ht)).frameB (ν8++(ν7++(ν6++(ν4++(ν3++(ν2++(ν1)))))))) Yj ?_ ?_
 ·rintro D' v ν' hle ⟨_,⟨hc,v1,νz,rfl,hacc⟩,rfl⟩;refine⟨_,Yz,setTable s {s.table with marks:=s.table.marks++[(⟨a,b,c,d⟩:C2.Mk)]},by unfold yG;simp only[];repeat (first|rw[aZK Yd]|rw[aZB Yd]),pv,cv,hv,lv,v1,bl,bc,yc,yq,ν1,ν2,ν3,ν4,νz,ν6,ν7,ν8,rfl,?_⟩
  exact⟨hO.pl,hO.ct,hO.ht,hO.lev,(by have hz:(s.table.marks++[(⟨a,b,c,d⟩:C2.Mk)]).length=s.table.marks.length+1:=Ye;show bS _ _ _ (s.table.marks++[(⟨a,b,c,d⟩:C2.Mk)]).length _ _;rw[hz];exact hacc),hO.ln,hO.cn.up wC.up hle,hO.ch,hO.cl⟩
 ·rintro v (⟨h1,rfl⟩|⟨h1,h2,rfl⟩|⟨h1,h2,h3,rfl⟩|⟨h1,h2,h3,h4,rfl⟩)
  ·exact⟨_,by unfold yG;simp only[];repeat (first|rw[aZK Yd]|rw[aZB Yd]),rfl⟩
  ·exact⟨_,by unfold yG;simp only[];repeat (first|rw[aZK Yd]|rw[aZB Yd]),rfl⟩
  ·exact⟨_,by unfold yG;simp only[];repeat (first|rw[aZK Yd]|rw[aZB Yd]),rfl⟩
  ·exact⟨_,by unfold yG;simp only[];repeat (first|rw[aZK Yd]|rw[aZB Yd]),rfl⟩
theorem JO:gS prog 278 1 (uJ):=by
 rintro wb s nv n ν D hn hlen hr ⟨pv,cv,hv,lv,mv,bl,bc,yc,yq,ν1,ν2,ν3,ν4,ν5,ν6,ν7,ν8,rfl,hO⟩ hsm;obtain⟨a,rfl⟩:=AV hlen;have ha:0≤a:=(hr a Ye).1;refine lH.reorder ((NW wb s pv cv hv lv mv bl bc yc yq nv a ν5 D hn hO.mks hsm.mks ha).frameB (ν8++(ν7++(ν6++(ν4++(ν3++(ν2++(ν1)))))))) Yj ?_ ?_
 ·rintro D' v ν' hle ⟨_,⟨hc,v1,νz,rfl,hacc⟩,rfl⟩;refine⟨_,Yz,setTable s {s.table with marks:=s.table.marks.eraseIdx a.toNat},by unfold uJ;simp only[];repeat (first|rw[aZK Yd]|rw[aZB Yd]),pv,cv,hv,lv,v1,bl,bc,yc,yq,ν1,ν2,ν3,ν4,νz,ν6,ν7,ν8,rfl,?_⟩
  exact⟨hO.pl,hO.ct,hO.ht,hO.lev,(by have hz:(s.table.marks.eraseIdx a.toNat).length=s.table.marks.length-1:=(bCY Yd);show bS _ _ _ (s.table.marks.eraseIdx a.toNat).length _ _;rw[hz];exact hacc),hO.ln,hO.cn.up wC.up hle,hO.ch,hO.cl⟩
 ·rintro v ⟨h1,rfl⟩;exact⟨_,by unfold uJ;simp only[];repeat (first|rw[aZK Yd]|rw[aZB Yd]),rfl⟩
theorem aCN:gS prog 279 2 (oU 1):=by
 rintro wb s nv n ν D hn hlen hr ⟨pv,cv,hv,lv,mv,bl,bc,yc,yq,ν1,ν2,ν3,ν4,ν5,ν6,ν7,ν8,rfl,hO⟩ hsm;obtain⟨a,b,rfl⟩:=OB hlen;refine lH.reorder ((aDS wb s pv cv hv lv mv bl bc yc yq nv a b ν6 D hn hO.ln hsm.ln).frameB (ν8++(ν7++(ν5++(ν4++(ν3++(ν2++(ν1)))))))) Yj ?_ ?_
 ·rintro D' v ν' hle ⟨_,⟨hc,v1,νz,rfl,hacc⟩,rfl⟩;refine⟨_,Yah,setBook s {s.book with lines:=s.book.lines++[(⟨1,a,b⟩:C3.gI)]},by unfold oU;simp only[];repeat (first|rw[aZK Yd]|rw[aZB Yd]),pv,cv,hv,lv,mv,v1,bc,yc,yq,ν1,ν2,ν3,ν4,ν5,νz,ν7,ν8,rfl,?_⟩
  exact⟨hO.pl,hO.ct,hO.ht,hO.lev,hO.mks,(by have hz:(s.book.lines++[(⟨1,a,b⟩:C3.gI)]).length=s.book.lines.length+1:=Ye;show bS _ _ _ (s.book.lines++[(⟨1,a,b⟩:C3.gI)]).length _ _;rw[hz];exact hacc),hO.cn.up wC.up hle,hO.ch,hO.cl⟩
 ·rintro v (⟨h1,rfl⟩|⟨h1,h2,rfl⟩)
  ·exact⟨_,by unfold oU;simp only[];repeat (first|rw[aZK Yd]|rw[aZB Yd]),rfl⟩
  ·exact⟨_,by unfold oU;simp only[];repeat (first|rw[aZK Yd]|rw[aZB Yd]),rfl⟩
theorem RZ:gS prog 280 2 (oU 2):=by
 rintro wb s nv n ν D hn hlen hr ⟨pv,cv,hv,lv,mv,bl,bc,yc,yq,ν1,ν2,ν3,ν4,ν5,ν6,ν7,ν8,rfl,hO⟩ hsm;obtain⟨a,b,rfl⟩:=OB hlen;refine lH.reorder ((aCE wb s pv cv hv lv mv bl bc yc yq nv a b ν6 D hn hO.ln hsm.ln).frameB (ν8++(ν7++(ν5++(ν4++(ν3++(ν2++(ν1)))))))) Yj ?_ ?_
 ·rintro D' v ν' hle ⟨_,⟨hc,v1,νz,rfl,hacc⟩,rfl⟩;refine⟨_,Yah,setBook s {s.book with lines:=s.book.lines++[(⟨2,a,b⟩:C3.gI)]},by unfold oU;simp only[];repeat (first|rw[aZK Yd]|rw[aZB Yd]),pv,cv,hv,lv,mv,v1,bc,yc,yq,ν1,ν2,ν3,ν4,ν5,νz,ν7,ν8,rfl,?_⟩
  exact⟨hO.pl,hO.ct,hO.ht,hO.lev,hO.mks,(by have hz:(s.book.lines++[(⟨2,a,b⟩:C3.gI)]).length=s.book.lines.length+1:=Ye;show bS _ _ _ (s.book.lines++[(⟨2,a,b⟩:C3.gI)]).length _ _;rw[hz];exact hacc),hO.cn.up wC.up hle,hO.ch,hO.cl⟩
 ·rintro v (⟨h1,rfl⟩|⟨h1,h2,rfl⟩)
  ·exact⟨_,by unfold oU;simp only[];repeat (first|rw[aZK Yd]|rw[aZB Yd]),rfl⟩
  ·exact⟨_,by unfold oU;simp only[];repeat (first|rw[aZK Yd]|rw[aZB Yd]),rfl⟩
theorem MG:gS prog 281 1 (rV):=by
 rintro wb s nv n ν D hn hlen hr ⟨pv,cv,hv,lv,mv,bl,bc,yc,yq,ν1,ν2,ν3,ν4,ν5,ν6,ν7,ν8,rfl,hO⟩ hsm;obtain⟨a,rfl⟩:=AV hlen;have ha:0≤a:=(hr a Ye).1;refine lH.reorder ((QA wb s pv cv hv lv mv bl bc yc yq nv a ν6 D hn hO.ln hsm.ln ha).frameB (ν8++(ν7++(ν5++(ν4++(ν3++(ν2++(ν1)))))))) Yj ?_ ?_
 ·rintro D' v ν' hle ⟨_,⟨x,hx,hc,νz,rfl,hacc⟩,rfl⟩;refine⟨_,Yah,setBook s {s.book with lines:=s.book.lines.set a.toNat {x with token:= -1}},by unfold rV;simp only[];rw[hx];simp only[];rw[aZB hc],pv,cv,hv,lv,mv,bl,bc,yc,yq,ν1,ν2,ν3,ν4,ν5,νz,ν7,ν8,rfl,?_⟩
  exact⟨hO.pl,hO.ct,hO.ht,hO.lev,hO.mks,(by have hz:(s.book.lines.set a.toNat {x with token:= -1}).length=s.book.lines.length:=Ye;show bS _ _ _ (s.book.lines.set a.toNat {x with token:= -1}).length _ _;rw[hz];exact hacc),hO.cn.up wC.up hle,hO.ch,hO.cl⟩
 ·rintro v (⟨h1,rfl⟩|⟨x,hx,h1,rfl⟩)
  ·exact⟨_,by unfold rV;simp only[];rw[bBX Yd],rfl⟩
  ·exact⟨_,by unfold rV;simp only[];rw[hx];exact aZK h1,rfl⟩
theorem JW:gS prog 282 1 (uD):=by
 rintro wb s nv n ν D hn hlen hr ⟨pv,cv,hv,lv,mv,bl,bc,yc,yq,ν1,ν2,ν3,ν4,ν5,ν6,ν7,ν8,rfl,hO⟩ hsm;obtain⟨a,rfl⟩:=AV hlen;have ha:0≤a:=(hr a Ye).1;refine lH.reorder ((PJ wb s pv cv hv lv mv bl bc yc yq nv a ν6 D hn hO.ln hsm.ln ha).frameB (ν8++(ν7++(ν5++(ν4++(ν3++(ν2++(ν1)))))))) Yj ?_ ?_
 ·rintro D' v ν' hle ⟨_,⟨hc,v1,νz,rfl,hacc⟩,rfl⟩;refine⟨_,Yah,setBook s {s.book with lines:=s.book.lines.eraseIdx a.toNat},by unfold uD;simp only[];repeat (first|rw[aZK Yd]|rw[aZB Yd]),pv,cv,hv,lv,mv,v1,bc,yc,yq,ν1,ν2,ν3,ν4,ν5,νz,ν7,ν8,rfl,?_⟩
  exact⟨hO.pl,hO.ct,hO.ht,hO.lev,hO.mks,(by have hz:(s.book.lines.eraseIdx a.toNat).length=s.book.lines.length-1:=(bCY Yd);show bS _ _ _ (s.book.lines.eraseIdx a.toNat).length _ _;rw[hz];exact hacc),hO.cn.up wC.up hle,hO.ch,hO.cl⟩
 ·rintro v ⟨h1,rfl⟩;exact⟨_,by unfold uD;simp only[];repeat (first|rw[aZK Yd]|rw[aZB Yd]),rfl⟩
theorem JN:gS prog 283 4 (rS):=by
 rintro wb s nv n ν D hn hlen hr ⟨pv,cv,hv,lv,mv,bl,bc,yc,yq,ν1,ν2,ν3,ν4,ν5,ν6,ν7,ν8,rfl,hO⟩ hsm;obtain⟨a,b,c,d,rfl⟩:=aWO hlen;refine lH.reorder ((QB wb s pv cv hv lv mv bl bc yc yq nv a b c d ν7 D hn hO.ch hsm.ch).frameB (ν8++(ν6++(ν5++(ν4++(ν3++(ν2++(ν1)))))))) Yj ?_ ?_
 ·rintro D' v ν' hle ⟨_,⟨hc,v1,νz,rfl,hacc⟩,rfl⟩;refine⟨_,Yag,setYard s {s.yard with chairs:=s.yard.chairs++[(⟨a,⟨b,c,d⟩⟩:C7.Ch)]},by unfold rS;simp only[];repeat (first|rw[aZK Yd]|rw[aZB Yd]),pv,cv,hv,lv,mv,bl,bc,v1,yq,ν1,ν2,ν3,ν4,ν5,ν6,νz,ν8,rfl,?_⟩
  exact⟨hO.pl,hO.ct,hO.ht,hO.lev,hO.mks,hO.ln,hO.cn.up wC.up hle,(by have hz:(s.yard.chairs++[(⟨a,⟨b,c,d⟩⟩:C7.Ch)]).length=s.yard.chairs.length+1:=Ye;show bS _ _ _ (s.yard.chairs++[(⟨a,⟨b,c,d⟩⟩:C7.Ch)]).length _ _;rw[hz];exact hacc),hO.cl⟩
 ·rintro v (⟨h1,rfl⟩|⟨h1,h2,rfl⟩)
  ·exact⟨_,by unfold rS;simp only[];repeat (first|rw[aZK Yd]|rw[aZB Yd]),rfl⟩
  ·exact⟨_,by unfold rS;simp only[];repeat (first|rw[aZK Yd]|rw[aZB Yd]),rfl⟩
theorem aBP:gS prog 284 3 (vM):=by
 rintro wb s nv n ν D hn hlen hr ⟨pv,cv,hv,lv,mv,bl,bc,yc,yq,ν1,ν2,ν3,ν4,ν5,ν6,ν7,ν8,rfl,hO⟩ hsm;obtain⟨a,b,c,rfl⟩:=aWM hlen;have ha:0≤a:=(hr a Ye).1;have hb:0≤b:=(hr b Ye).1;refine lH.reorder ((aEV wb s pv cv hv lv mv bl bc yc yq nv a b c ν7 D hn hO.ch hsm.ch ha hb).frameB (ν8++(ν6++(ν5++(ν4++(ν3++(ν2++(ν1)))))))) Yj ?_ ?_
 ·rintro D' v ν' hle ⟨_,⟨x,hx,hc,νz,rfl,hacc⟩,rfl⟩;refine⟨_,Yag,setYard s {s.yard with chairs:=s.yard.chairs.set a.toNat {x with parts:=LB x.parts b.toNat c}},by unfold vM;simp only[];rw[hx];simp only[];repeat (first|rw[aZK Yd]|rw[aZB Yd]),pv,cv,hv,lv,mv,bl,bc,yc,yq,ν1,ν2,ν3,ν4,ν5,ν6,νz,ν8,rfl,?_⟩
  exact⟨hO.pl,hO.ct,hO.ht,hO.lev,hO.mks,hO.ln,hO.cn.up wC.up hle,(by have hz:(s.yard.chairs.set a.toNat {x with parts:=LB x.parts b.toNat c}).length=s.yard.chairs.length:=Ye;show bS _ _ _ (s.yard.chairs.set a.toNat {x with parts:=LB x.parts b.toNat c}).length _ _;rw[hz];exact hacc),hO.cl⟩
 ·rintro v (⟨h1,rfl⟩|⟨h1,h2,rfl⟩|⟨h1,h2,h3,rfl⟩)
  ·exact⟨_,by unfold vM;simp only[];rw[bBX Yd],rfl⟩
  ·exact⟨_,by unfold vM;simp only[];rw[aYU Yd];exact aZK h2,rfl⟩
  ·exact⟨_,by unfold vM;simp only[];rw[aYU Yd];exact(aZB Yd).trans (aZK h3),rfl⟩
theorem aIM:gS prog 285 1 (LO):=by
 rintro wb s nv n ν D hn hlen hr ⟨pv,cv,hv,lv,mv,bl,bc,yc,yq,ν1,ν2,ν3,ν4,ν5,ν6,ν7,ν8,rfl,hO⟩ hsm;obtain⟨a,rfl⟩:=AV hlen;refine lH.reorder ((aNY wb s pv cv hv lv mv bl bc yc yq nv a D hn).frameB (ν8++(ν7++(ν6++(ν5++(ν4++(ν3++(ν2++(ν1))))))))) Yj ?_ ?_
 ·rintro D' v ν' hle ⟨_,⟨h1,rfl⟩,rfl⟩;refine⟨_,.refl _,setYard s {s.yard with fit:=a},by unfold LO;simp only[];repeat (first|rw[aZK Yd]|rw[aZB Yd]),pv,cv,hv,lv,mv,bl,bc,yc,yq,ν1,ν2,ν3,ν4,ν5,ν6,ν7,ν8,rfl,⟨hO.pl,hO.ct,hO.ht,hO.lev,hO.mks,hO.ln,hO.cn.up wC.up hle,hO.ch,hO.cl⟩⟩
 ·rintro v ⟨h1,rfl⟩;exact⟨_,by unfold LO;simp only[];repeat (first|rw[aZK Yd]|rw[aZB Yd]),rfl⟩
theorem RN:gS prog 286 2 (xK):=by
 rintro wb s nv n ν D hn hlen hr ⟨pv,cv,hv,lv,mv,bl,bc,yc,yq,ν1,ν2,ν3,ν4,ν5,ν6,ν7,ν8,rfl,hO⟩ hsm;obtain⟨a,b,rfl⟩:=OB hlen;refine lH.reorder ((aBA wb s pv cv hv lv mv bl bc yc yq nv a b ν8 D hn hO.cl hsm.cl).frameB (ν7++(ν6++(ν5++(ν4++(ν3++(ν2++(ν1)))))))) Yj ?_ ?_
 ·rintro D' v ν' hle ⟨_,⟨hc,v1,νz,rfl,hacc⟩,rfl⟩;refine⟨_,Yag,setYard s {s.yard with claims:=s.yard.claims++[(a,b)]},by unfold xK;simp only[];repeat (first|rw[aZK Yd]|rw[aZB Yd]),pv,cv,hv,lv,mv,bl,bc,yc,v1,ν1,ν2,ν3,ν4,ν5,ν6,ν7,νz,rfl,?_⟩
  exact⟨hO.pl,hO.ct,hO.ht,hO.lev,hO.mks,hO.ln,hO.cn.up wC.up hle,hO.ch,(by have hz:(s.yard.claims++[(a,b)]).length=s.yard.claims.length+1:=Ye;show bS _ _ _ (s.yard.claims++[(a,b)]).length _ _;rw[hz];exact hacc)⟩
 ·rintro v (⟨h1,rfl⟩|⟨h1,h2,rfl⟩)
  ·exact⟨_,by unfold xK;simp only[];repeat (first|rw[aZK Yd]|rw[aZB Yd]),rfl⟩
  ·exact⟨_,by unfold xK;simp only[];repeat (first|rw[aZK Yd]|rw[aZB Yd]),rfl⟩
theorem EW:gS prog 287 1 (qQ):=by
 rintro wb s nv n ν D hn hlen hr ⟨pv,cv,hv,lv,mv,bl,bc,yc,yq,ν1,ν2,ν3,ν4,ν5,ν6,ν7,ν8,rfl,hO⟩ hsm;obtain⟨a,rfl⟩:=AV hlen;have ha:0≤a:=(hr a Ye).1;refine lH.reorder ((JY wb s pv cv hv lv mv bl bc yc yq nv a ν8 D hn hO.cl hsm.cl ha).frameB (ν7++(ν6++(ν5++(ν4++(ν3++(ν2++(ν1)))))))) Yj ?_ ?_
 ·rintro D' v ν' hle ⟨_,⟨hc,v1,νz,rfl,hacc⟩,rfl⟩;refine⟨_,Yag,setYard s {s.yard with claims:=s.yard.claims.eraseIdx a.toNat},by unfold qQ;simp only[];repeat (first|rw[aZK Yd]|rw[aZB Yd]),pv,cv,hv,lv,mv,bl,bc,yc,v1,ν1,ν2,ν3,ν4,ν5,ν6,ν7,νz,rfl,?_⟩
  exact⟨hO.pl,hO.ct,hO.ht,hO.lev,hO.mks,hO.ln,hO.cn.up wC.up hle,hO.ch,(by have hz:(s.yard.claims.eraseIdx a.toNat).length=s.yard.claims.length-1:=(bCY Yd);show bS _ _ _ (s.yard.claims.eraseIdx a.toNat).length _ _;rw[hz];exact hacc)⟩
 ·rintro v ⟨h1,rfl⟩;exact⟨_,by unfold qQ;simp only[];repeat (first|rw[aZK Yd]|rw[aZB Yd]),rfl⟩
end L12
namespace L12
open C12
def nB(s:aN)(line:ByteArray):aN×Int:=match jK line with
 |none=>(s,4)
 |some (act,n)=>match act s n with
  |.error c=>(s,c)
  |.ok s'=>if dK s'=0 then(s',0)else(s,dK s')
theorem TR{s:aN}{line:ByteArray}(h:jK line=none):nB s line=(s,4):=by unfold nB;rw[h]
theorem aGD{s:aN}{line:ByteArray}{act:fZ}{n:List Int}{c:Int}(h:jK line=some (act,n))(he:act s n=.error c):nB s line=(s,c):=by unfold nB;rw[h];simp only[];rw[he]
theorem aHD{s G:aN}{line:ByteArray}{act:fZ}{n:List Int}(h:jK line=some (act,n))(he:act s n=.ok G)(hs:dK G≠0):nB s line=(s,dK G):=by unfold nB;rw[h];simp only[];rw[he];exact aZB hs
theorem TO{s G:aN}{line:ByteArray}{act:fZ}{n:List Int}(h:jK line=some (act,n))(he:act s n=.ok G)(hs:dK G=0):nB s line=(G,0):=by unfold nB;rw[h];simp only[];rw[he];exact aZK hs
theorem UR{s G:aN}{line:ByteArray}{c:Int}{D:aC}{v:Value}(h:nB s line=(G,c))(hs:iF D v G):∃v1,Value.tuple #[v,qI c]=.tuple #[v1,qI (nB s line).2]∧iF D v1 (nB s line).1:=by rw[h];exact⟨v,rfl,hs⟩
theorem L5{s:aN}{line:ByteArray}{c:Int}{D:aC}{v:Value}(h:nB s line=(s,c))(hs:iF D v s):∃v1,Value.tuple #[v,qI c]=.tuple #[v1,qI (nB s line).2]∧iF D v1 (nB s line).1:=UR h hs
theorem _root_.Go.Fs.C12.mN.small{s:aN}(h:mN s):N1 s:=⟨by have:=h.pl;omega,by have:=h.ct;omega,by have:=h.ht;omega,by have:=h.lev;omega,by have:=h.mks;omega,by have:=h.ln;omega,by have:=h.ch;omega,by have:=h.cl;omega⟩
theorem Z1.up{D D':aC}{wb:Nat}{s:aN}{ν:aD}(h:Z1 D wb s ν)(hl:Le D D'):Z1 D' wb s ν:=by
 obtain⟨pv,cv,hv,lv,mv,bl,bc,yc,yq,ν1,ν2,ν3,ν4,ν5,ν6,ν7,ν8,h1,h2⟩:=h;exact⟨pv,cv,hv,lv,mv,bl,bc,yc,yq,ν1,ν2,ν3,ν4,ν5,ν6,ν7,ν8,h1,⟨h2.pl,h2.ct,h2.ht,h2.lev,h2.mks,h2.ln,h2.cn.up wC.up hl,h2.ch,h2.cl⟩⟩
theorem aNQ{D:aC}{wb:Nat}{s:aN}{ν:aD}(h:Z1 D wb s ν):∀p∈ν,dB p.2:=by
 obtain⟨pv,cv,hv,lv,mv,bl,bc,yc,yq,ν1,ν2,ν3,ν4,ν5,ν6,ν7,ν8,rfl,h2⟩:=h;intro p hp;simp only[n4,aZF]at hp;rcases hp with rfl|hp|hp|hp|hp|hp|hp|hp|hp
 ·rfl
 ·exact nD h2.cl p hp
 ·exact nD h2.ch p hp
 ·exact nD h2.ln p hp
 ·exact nD h2.mks p hp
 ·exact nD h2.lev p hp
 ·exact nD h2.ht p hp
 ·exact nD h2.ct p hp
 ·exact nD h2.pl p hp
theorem oP{α:Type}{R:Rd α}{D:aC}{sz:Nat}{v:Value}{xs:List α}(h:Sl D R sz v xs):cell1 v=true:=by
 obtain⟨a,c,rfl⟩:=h.shape;rfl
theorem iU{D:aC}{s:aN}{pv cv hv lv mv bl bc yc yq:Value}(h:jM D s pv cv hv lv mv bl bc yc yq):∀u∈[pv,cv,qI s.row.wrong,qI s.row.off,qI s.table.last,hv,qI s.table.step,lv,mv,qI s.book.chairs,qI s.book.coin,qI s.book.box,bl,bc,yc,qI s.yard.fit,yq],cell1 u=true:=by
 intro u hu;simp only[n4,n3,bBB]at hu;rcases hu with rfl|rfl|rfl|rfl|rfl|rfl|rfl|rfl|rfl|rfl|rfl|rfl|rfl|rfl|rfl|rfl|rfl<;>first|rfl|exact oP h.pl|exact oP h.ct|exact oP h.ht|exact oP h.lev|exact oP h.mks|exact oP h.ln|exact oP h.cn|exact oP h.ch|exact oP h.cl
section
variable{P:Program}{X:Cx}{Q:Exit→Act→World→Prop}{σ:bO}{Ds:List aC}
theorem MU{c:Code}{B ν:aD}{D0:aC}{wb:Nat}{s:aN}(h:Z1 D0 wb s ν)(hmods:X.mods=[])(I:D0∈Ds:=by simp)(hsm:N1 s:=by assumption)
  (kk:∀D pv cv hv lv mv bl bc yc yq,(∀D₁∈Ds,Le D₁ D)→jM D s pv cv hv lv mv bl bc yc yq→WC P X Q c σ ((wb,qC (dO s pv cv hv lv mv bl bc yc yq) 343)::B) (D::Ds)):WC P X Q c σ (ν++B) Ds:=by
 obtain⟨pv,cv,hv,lv,mv,bl,bc,yc,yq,ν1,ν2,ν3,ν4,ν5,ν6,ν7,ν8,rfl,hO⟩:=h;intro a w hh;obtain⟨O,k8,U,V⟩:=(hh.boxesEq (μ':=[(wb,qC (dO s pv cv hv lv mv bl bc yc yq) 343)]++ν8++(ν7++(ν6++(ν5++(ν4++(ν3++(ν2++(ν1++B)))))))) Ye).freeze hO.cl hmods;obtain⟨Y,k7,Z,h7⟩:=(V.boxesEq (μ':=[(wb,qC (dO s pv cv hv lv mv bl bc yc yq) 343)]++ν7++(ν6++(ν5++(ν4++(ν3++(ν2++(ν1++B))))))) Ye).freeze hO.ch hmods;obtain⟨E6,k6,F6,h6⟩:=(h7.boxesEq (μ':=[(wb,qC (dO s pv cv hv lv mv bl bc yc yq) 343)]++ν6++(ν5++(ν4++(ν3++(ν2++(ν1++B)))))) Ye).freeze hO.ln hmods;obtain⟨E5,k5,F5,h5⟩:=(h6.boxesEq (μ':=[(wb,qC (dO s pv cv hv lv mv bl bc yc yq) 343)]++ν5++(ν4++(ν3++(ν2++(ν1++B))))) Ye).freeze hO.mks hmods;obtain⟨E4,k4,F4,h4⟩:=(h5.boxesEq (μ':=[(wb,qC (dO s pv cv hv lv mv bl bc yc yq) 343)]++ν4++(ν3++(ν2++(ν1++B)))) Ye).freeze hO.lev hmods;obtain⟨E3,k3,F3,h3⟩:=(h4.boxesEq (μ':=[(wb,qC (dO s pv cv hv lv mv bl bc yc yq) 343)]++ν3++(ν2++(ν1++B))) Ye).freeze hO.ht hmods;obtain⟨E2,k2,F2,h2⟩:=(h3.boxesEq (μ':=[(wb,qC (dO s pv cv hv lv mv bl bc yc yq) 343)]++ν2++(ν1++B)) Ye).freeze hO.ct hmods;obtain⟨E1,G,F1,h1⟩:=(h2.boxesEq (μ':=[(wb,qC (dO s pv cv hv lv mv bl bc yc yq) 343)]++ν1++B) Ye).freeze hO.pl hmods;refine kk E1 pv cv hv lv mv bl bc yc yq (fun D₁ hD₁=>G D₁ (by simp[hD₁])) ⟨nW (R:=RI) (n:=1) (f:=cI) (fun _ _=>rfl) (fun _=>rfl) F1 (by have:=hsm.pl;omega),(nW (R:=RC) (n:=3) (f:=cC) (fun _ _=>rfl) (fun _=>rfl) F2 (by have:=hsm.ct;omega)).up RC.up (G E2 Ye),(nW (R:=Z7) (n:=2) (f:=cP) (fun _ _=>rfl) (fun _=>rfl) F3 (by have:=hsm.ht;omega)).up Z7.up (G E3 Ye),(nW (R:=RI) (n:=1) (f:=cI) (fun _ _=>rfl) (fun _=>rfl) F4 (by have:=hsm.lev;omega)).up RI.up (G E4 Ye),(nW (R:=KX) (n:=4) (f:=cM) (fun _ _=>rfl) (fun _=>rfl) F5 (by have:=hsm.mks;omega)).up KX.up (G E5 Ye),
  (nW (R:=tN) (n:=3) (f:=cL) (fun _ _=>rfl) (fun _=>rfl) F6 (by have:=hsm.ln;omega)).up tN.up (G E6 Ye),hO.cn.up wC.up (G D0 (by simp[I])),(nW (R:=wZ) (n:=4) (f:=cH) (fun _ _=>rfl) (fun _=>rfl) Z (by have:=hsm.ch;omega)).up wZ.up (G Y Ye),(nW (R:=R2) (n:=2) (f:=cP) (fun _ _=>rfl) (fun _=>rfl) U (by have:=hsm.cl;omega)).up R2.up (G O Ye)⟩ a w ?_
 obtain⟨g1,g2,g3,Dx,g4,M,g6⟩:=h1;exact⟨g1,g2,g3,Dx,g4,fun D hD=>by
  rcases n4.1 hD with rfl|hD
  ·exact M _ LT
  ·exact M D (by simp[hD]),g6⟩
end

def tM(b:ByteArray):Option Int:=nY b.data.toList
theorem wT(line:ByteArray):∃p0 ps,eA line=p0::ps:=by
 unfold eA;cases h:lN line.data.toList with
 |nil=>exact absurd h (aNB _)
 |cons p ps=>exact⟨_,_,rfl⟩
theorem W2(line:ByteArray):(eA line).length≤line.size+1:=by unfold eA;rw[bAY];exact GD _
theorem aEK{line p0 x:ByteArray}{ps:List ByteArray}{k:Nat}(h:eA line=p0::ps)(hx:ps[k]?= some x):x.size≤line.size:=by
 have hm:x∈eA line:=by rw[h];exact n5 _ (LE hx)
 unfold eA at hm;obtain⟨p,hp,rfl⟩:=GT.1 hm;exact aCF hp
theorem NI:∀ps:List (List UInt8),(ps.map zZ).mapM tM=ps.mapM nY
 | []=>rfl
 |p::ps=>by
  rw[aZR,bCA,bCA,NI ps];rfl
theorem A2{line p0:ByteArray}{ps:List ByteArray}(h:eA line=p0::ps):jK line=match jF.find? (fun x=>x.1==p0.data.toList)with
  |none=>none
  |some (_,k,act)=>if ps.length=k then(ps.mapM tM).map fun n=>(act,n)else none:=by
 unfold eA at h;unfold jK;cases hc:lN line.data.toList with
 |nil=>rw[hc]at h;cases h
 |cons p qs=>
  rw[hc]at h;simp only[aZR,bAT]at h;obtain⟨rfl,rfl⟩:=h;simp only[bAY];rw[NI];rfl
theorem j7{line p0:ByteArray}{ps:List ByteArray}{l:List UInt8}{k:Nat}{act:fZ}{ns:List Int}(h:eA line=p0::ps)(hf:jF.find? (fun x=>x.1==p0.data.toList)=some (l,k,act))(hk:ps.length=k)(hn:ps.mapM tM=some ns):jK line=some (act,ns):=by
 rw[A2 h,hf];simp only[];rw[aZK hk,hn];rfl
theorem T4:∀{ps:List ByteArray} {k:Nat} {x:ByteArray},ps[k]?= some x→tM x=none→ps.mapM tM=none
 | [],_,_,h,_=>by simp at h
 |p::ps,0,x,h,hx=>by
  obtain rfl:p=x:=by simpa using h
  rw[bCA,hx];rfl
 |p::ps,k+1,x,h,hx=>by
  rw[bCA,T4 (k:=k) Yao hx];cases tM p<;>rfl
theorem YH{line p0 x:ByteArray}{ps:List ByteArray}{k:Nat}(h:eA line=p0::ps)(hx:ps[k]?= some x)(hn:nY x.data.toList=none):jK line=none:=by
 rw[A2 h,T4 hx hn];split
 ·rfl
 ·split<;>rfl
theorem aAN{ps:List ByteArray}{x:ByteArray}{ns:List Int}{m:Int}(h:ps.mapM tM=some ns)(hx:tM x=some m):(ps++[x]).mapM tM=some (ns++[m]):=by
 induction ps generalizing ns with
 |nil=>
  obtain rfl:([]:List Int)=ns:=by simpa using h
  rw[aZU,bCA,hx];rfl
 |cons p ps ih=>
  rw[bCA]at h;cases hp:tM p with
  |none=>rw[hp]at h;cases h
  |some q=>
   cases hq:ps.mapM tM with
   |none=>rw[hp,hq]at h;cases h
   |some qs=>
    rw[hp,hq]at h;obtain rfl:q::qs=ns:=aZO h;rw[bAW,bCA,hp,ih hq];rfl
theorem MI{ps:List ByteArray}{k:Nat}{x:ByteArray}{ns:List Int}{m:Int}(hx:ps[k]?= some x)(h:(ps.take k).mapM tM=some ns)(hm:nY x.data.toList=some m):(ps.take (k+1)).mapM tM=some (ns++[m]):=by
 rw[aZG,hx];exact aAN h hm
theorem AE:∀{ps:List ByteArray} {ns:List Int},ps.mapM tM=some ns→∀x∈ns,0≤x∧x≤999
 | [],ns,h=>by
  obtain rfl:([]:List Int)=ns:=by simpa using h
  intro x hx;cases hx
 |p::ps,ns,h=>by
  rw[bCA]at h;cases hp:tM p with
  |none=>rw[hp]at h;cases h
  |some q=>
   cases hq:ps.mapM tM with
   |none=>rw[hp,hq]at h;cases h
   |some qs=>
    rw[hp,hq]at h;obtain rfl:q::qs=ns:=aZO h;intro x hx;rcases n4.1 hx with rfl|hx
    ·have:=SM hp;omega
    ·exact AE hq x hx

def aFM:List (ByteArray×Value)→List (List UInt8×Nat×fZ)→Prop
 | [],[]=>True
 |(b,v)::T,(l,k,act)::L=>b.data.toList=l∧(∃f,v=.agg #[qI (k:Int),.func (.func f) #[] #[]]∧gS Go.Proofs.Tryz.prog f k act)∧aFM T L
 |_,_=>False
theorem aVL:aFM FD jF:=⟨rfl,⟨_,rfl,PA⟩,⟨rfl,⟨_,rfl,XG⟩,⟨rfl,⟨_,rfl,NY⟩,⟨rfl,⟨_,rfl,aCX⟩,⟨rfl,⟨_,rfl,FK⟩,⟨rfl,⟨_,rfl,OG⟩,⟨rfl,⟨_,rfl,aIO⟩,⟨rfl,⟨_,rfl,XS⟩,⟨rfl,⟨_,rfl,XH⟩,⟨rfl,⟨_,rfl,RE⟩,⟨rfl,⟨_,rfl,PN⟩,⟨rfl,⟨_,rfl,aBH⟩,⟨rfl,⟨_,rfl,JO⟩,⟨rfl,⟨_,rfl,aCN⟩,⟨rfl,⟨_,rfl,RZ⟩,⟨rfl,⟨_,rfl,MG⟩,⟨rfl,⟨_,rfl,JW⟩,⟨rfl,⟨_,rfl,JN⟩,⟨rfl,⟨_,rfl,aBP⟩,⟨rfl,⟨_,rfl,aIM⟩,⟨rfl,⟨_,rfl,RN⟩,⟨rfl,⟨_,rfl,EW⟩,bDY⟩⟩⟩⟩⟩⟩⟩⟩⟩⟩⟩⟩⟩⟩⟩⟩⟩⟩⟩⟩⟩⟩
theorem aAV(a b:ByteArray):(a==b)=(b.data.toList==a.data.toList):=by
 rw[bCG];constructor
 ·intro h;rw[beq_toListBytes,ByteArray.toList_eq,ByteArray.toList_eq]at h;rw[eq_of_beq h];simp
 ·intro h;rw[beq_toListBytes,ByteArray.toList_eq,ByteArray.toList_eq,eq_of_beq h];simp
theorem NC(p:ByteArray):∀(T:List (ByteArray×Value)) (L:List (List UInt8×Nat×fZ)) (i:Nat),aFM T L→(S6 p T i=none∧L.find? (fun x=>x.1==p.data.toList)=none)∨(∃(j k:Nat) (act:fZ) (f:FuncId),S6 p T i=some (j,.agg #[qI (k:Int),.func (.func f) #[] #[]])∧L.find? (fun x=>x.1==p.data.toList)=some (p.data.toList,k,act)∧gS Go.Proofs.Tryz.prog f k act)
 | [],[],_,_=>aZE ⟨rfl,rfl⟩
 | [],_::_,_,h=>h.elim
 |_::_,[],_,h=>h.elim
 |(b,v)::T,(l,k,act)::L,i,h=>by
  obtain⟨rfl,⟨f,rfl,hw⟩,hT⟩:=h;unfold S6;rw[List.find?_cons];rw[aAV p b];cases hb:b.data.toList==p.data.toList with
  |true=>
   refine aYZ ⟨i,k,act,f,by rw[aZK rfl],?_,hw⟩;simp only[];rw[eq_of_beq hb]
  |false=>
   rw[aZB Ye];exact NC p T L (i+1) hT
theorem ZH(p:ByteArray):∃(k:Nat) (c:Value) (b:Bool),aIH p FD (.agg #[qI 0,.nilFunc])=.agg #[qI (k:Int),c]∧(S6 p FD 0).isSome=b∧(b=true→∃act f,jF.find? (fun x=>x.1==p.data.toList)=some (p.data.toList,k,act)∧c=.func (.func f) #[] #[]∧gS Go.Proofs.Tryz.prog f k act)∧(b=false→jF.find? (fun x=>x.1==p.data.toList)=none)∧cell1 c=true:=by
 unfold aIH;rcases NC p _ _ 0 aVL with⟨h1,h2⟩|⟨j,k,act,f,h1,h2,h3⟩
 ·rw[h1];exact⟨0,.nilFunc,false,rfl,rfl,(fun h=>by cases h),fun _=>h2,rfl⟩
 ·rw[h1];exact⟨k,_,true,rfl,rfl,fun _=>⟨act,f,h2,rfl,h3⟩,(fun h=>by cases h),rfl⟩
theorem BV{p l:List UInt8}{k:Nat}{act:fZ}{s G:aN}{n:List Int}(h:jF.find? (fun x=>x.1==p)=some (l,k,act))(hk:mN s)(ha:act s n=.ok G):mN G:=QU _ (List.mem_of_find?_eq_some h) s n G hk ha
theorem PZ{line p0:ByteArray}{ps:List ByteArray}{k:Nat}{c:Value}{b:Bool}(h:eA line=p0::ps)(hno:b=false→jF.find? (fun x=>x.1==p0.data.toList)=none)(hyes:b=true→∃act f,jF.find? (fun x=>x.1==p0.data.toList)=some (p0.data.toList,k,act)∧c=.func (.func f) #[] #[]∧gS Go.Proofs.Tryz.prog f k act)(hx:b=false∨¬((eA line).length:Int)-1=(k:Int)):jK line=none:=by
 rw[A2 h];cases b with
 |false=>rw[hno rfl]
 |true=>
  obtain⟨act,f,hf,_,_⟩:=hyes rfl;rw[hf];simp only[];rw[aZB];intro e;rcases hx with hx|hx
  ·cases hx
  ·refine hx ?_;rw[h,aYW];omega
theorem aOE{line p0:ByteArray}{ps:List ByteArray}{k:Nat}{b:Bool}(h:eA line=p0::ps)(hf:([(!b||decide (((eA line).length:Int)-1≠(k:Int)))].any fun x=>true==x)=false):b=true∧ps.length=k:=by
 have h2:b=true∧((eA line).length:Int)-1=(k:Int):=by simpa using hf
 refine⟨h2.1,?_⟩;have:=h2.2;rw[h,aYW]at this;omega
theorem aNX(q1 q2 I:Nat)(c2:List Value)(v3:Value)(D:aC):EO prog 187 [qP q1,qP q2,qP I] D [(I,qC [v3] 44),(q2,qC c2 42)] .returning .returning (fun _ ν'=>ν'=[(I,qC [v3] 44),(q2,qC c2 42)]):=by
 refine aJT (t:=6) (rv:=.nilIface) 15 func187 rfl rfl rfl rfl rfl (fun c₀ cs hm=>aYZ ⟨aJN hm,rfl,rfl⟩) (fun h0 hwl hwn=>Zar<|aA<|SD rfl U20 rfl (Or.inl rfl) rfl bDY<|aF<|aP rfl (fun G=>?_) (fun G=>?_))
 ·refine aU<|Zg rfl<|Zah<|Zat ?_;exact Zag [] [] [_,_] [] rfl (fun D' hD=>rfl)
 ·cases G
theorem d7(q1 q2 I:Nat)(s:aN)(pv cv hv lv mv bl bc yc yq:Value)(code:Int)(D:aC)(hB:At D q1 0 (dO s pv cv hv lv mv bl bc yc yq))(hL:jM D s pv cv hv lv mv bl bc yc yq):EO prog 187 [qP q1,qP q2,qP I] D [(I,qC [qI 0] 44),(q2,qC [qN,qN,qI 0,qI 0,qI 0,qN,qI 0,qN,qN,qI 0,qI 0,qI 0,qN,qN,qN,qI 0,qN] 42)] (.panicking (oC (fD code))) (.panicking [{v:=fD code,recovered:=true}]) (fun _ ν'=>ν'=[(I,qC [qI code] 44),(q2,qC (dO s pv cv hv lv mv bl bc yc yq) 42)]):=by
 refine aJT (t:=6) (rv:=(fD code)) 15 func187 rfl rfl rfl rfl rfl (fun c₀ cs hm=>aZE (aHW hm)) (fun h0 hwl hwn=>Zar<|aA<|SD rfl U20 rfl (Or.inr ⟨_,_,rfl⟩) rfl bDY<|aF<|aP rfl (fun G=>?_) (fun G=>?_))
 ·cases G
 ·refine aA<|aAB rfl U331 rfl rfl bDY<|Zaf rfl<|Zaf rfl<|aF<|aP rfl (fun hc2=>?_) (fun hc2=>?_)
  ·refine aA<|Zx rfl VU rfl (fun M=>Zt rfl aLW (bR.head)<|aF<|lA hB Ye (fun hap=>zB (fun hnd=>?_)));have O:q1∉[q2]:=by simp[aD.ks]at hap ⊢;exact hap.2.2
   have R:M∉[q2]:=by simp at hnd ⊢;exact hnd.1.2
   refine SW [q2] 1 [0,1,2,3,4] [false,true,true,true,false] [(false,0),(true,1),(true,2),(true,3),(false,4)] bI (fun _ _ _ _ he h=>VH (P:=prog) (fn:=f187) _ _ _ _ he h) Yg rfl<|dQ rfl iT rfl hB Yc dX Yn rfl bDY<|Zh rfl ZV rfl<|bZ rfl pD rfl Mm0 rfl Yn rfl bDY<|sW rfl rfl rfl rfl dX (.tail (.tail (bR.head))) Ye rfl (iU hL) (Or.inr Ye) bDY<|Zo rfl pG (.tail (bR.head)) rfl<|Zah<|Zat ?_;exact Zag [_] [] [_,_] [] rfl (fun D' hD=>rfl)
  ·cases hc2
theorem aWN(sv:Value)(s:aN)(line:ByteArray)(D:aC)(hs:iF D sv s)(hk0:mN s)(hl:line.size≤1000)(hV:mF D):Fn prog 96 #[sv,.string line] D (fun D' v=>∃v1,v=.tuple #[v1,qI (nB s line).2]∧iF D' v1 (nB s line).1):=by
 have M:=hs;obtain⟨pv,cv,hv,lv,mv,bl,bc,yc,yq,rfl,hL⟩:=hs;have hsm:=hk0.small;unfold dO;obtain⟨p0,ps,hcut⟩:=wT line;obtain⟨wk,wc,wis,hval,his,hyes,hno,hwc⟩:=ZH p0;have hps:ps.length≤1001:=by have:=W2 line;rw[hcut]at this;simp only[aYW]at this;omega
 have hp0:(eA line)[0]?= some p0:=by rw[hcut];rfl
 have hcl:(eA line).length≤1001:=by have:=W2 line;omega
 refine aST 75 func96 rfl rfl rfl rfl fun h0=>aA<|Zu rfl (fun q1 E1 hE1 O=>Zx rfl oL rfl (fun q2=>Zx rfl FS rfl (fun G=>aL<|Zao rfl<|aNF (c1:=[]) (c2:=[qP q1,qP q2,qP G]) rfl rfl rfl bDY<|aL<|Za rfl<|Zv rfl (fun D1 hD1=>aGT line hl _ (hV.up (hD1 _ Ye))) (fun v1 D1 hD1 hp1=>?_))))
 obtain⟨pa,pc,rfl⟩:=hp1.shape;have hPS:=hp1;refine Zg rfl<|bT<|XP<|pY [] 5 [true,false,false,false,false,false,false,false,true,false,false] [.fork [1,2,3] 0 (.fin [4,5,6,7,8]) 8 (.fin [0,4,5,6,7]),.fin [9,10]] bI aUX Yg<|y9 (γ:=Nat) (fun g=>True) (fun g=>[(24,.agg #[qI (wk:Int),wc]),(25,.bool wis),(7,qP g),(6,.slice pa (eA line).length pc),(4,qP q2),(5,qP G),(2,qP q1)]) (fun g=>[(g,qC [qI 0,.nilFunc] 335),(G,qC [qI 0] 44),(q2,qC [qN,qN,qI 0,qI 0,qI 0,qN,qI 0,qN,qN,qI 0,qI 0,qI 0,qN,qN,qN,qI 0,qN] 42)]) (fun g=>[D1,E1,D]) [.fork [1,2,3] 0 (.fin [4,5,6,7,8]) 8 (.fin [0,4,5,6,7])] [.fin [9,10]] rfl ?_ ?_
 ·refine uP<|bL [(false,1),(false,2),(false,3)] rfl<|Za rfl<|Zw rfl U22 iY rfl hPS rfl hp0 (fun b1 o1 cs1 hr1 hcl1 hA1=>?_);obtain rfl:cs1=[.string _]:=hr1;refine Zj 0 rfl xR rfl hA1 rfl<|Zah (eE true true rfl rfl ?_ ?_)
  ·refine fX rfl rfl rfl (fun D6 hD6=>KY _) rfl bDY (fun wv D7 νm hD7 hm=>?_);obtain⟨bm,es,cl,rfl,rfl,hM⟩:=hm;refine Zah<|aZ [(false,4),(false,5),(false,6),(false,7),(true,8)] rfl<|Y5 (b:=bm) rfl U337 U9 eU rfl rfl Mm0 n3 hM rfl bDY ?_;rw[hval,his];refine Za rfl<|Zaf rfl<|Zaf rfl<|Zx rfl eU rfl (fun q4=>Zah ?_);exact fun a w hh=>⟨q4,bDY,hh.weak cQ (.cons_cons _ (.cons _ (.cons_cons _ (.cons_cons _ (.refl _))))) (fun D hD=>⟨D,by simp only[n4,n3,bBB]at hD ⊢;rcases hD with rfl|rfl|rfl|rfl<;>simp,Le.refl D⟩)⟩
  ·refine Zx rfl eU rfl (fun q4=>Zah<|aZ [(true,0),(false,4),(false,5),(false,6),(false,7)] rfl<|fX rfl rfl rfl (fun D6 hD6=>KY _) rfl bDY (fun wv D7 νm hD7 hm=>?_));obtain⟨bm,es,cl,rfl,rfl,hM⟩:=hm;refine Y5 (b:=bm) rfl U337 U9 eU rfl rfl Mm0 n3 hM rfl bDY ?_;rw[hval,his];refine Za rfl<|Zaf rfl<|Zaf rfl<|Zah ?_;exact fun a w hh=>⟨q4,bDY,hh.weak cQ (.cons _ (.cons_cons _ (.cons_cons _ (.cons_cons _ (.refl _))))) (fun D hD=>⟨D,by simp only[n4,n3,bBB]at hD ⊢;rcases hD with rfl|rfl|rfl|rfl<;>simp,Le.refl D⟩)⟩
 rintro qx -;dsimp only;refine oM [(false,9),(false,10)] rfl<|bD rfl rfl rfl rfl aRV Ya Ya (bR.head) (by intro u hu;simp only[n4,n3,bBB]at hu;rcases hu with rfl|rfl;rfl;exact hwc) bDY<|Zg rfl<|Zah<|qF<|aNU<|aA<|Za rfl<|Zal rfl<|Za rfl ?_
 refine' cR 7 (s:=28) (p:=35) rfl (fun hg1=>?_) (fun hg1=>?_) ?_;rotate_left
 ·refine Zb rfl<|cZ rfl U22 rfl hPS rfl rfl ⟨_,rfl,rfl⟩<|P9 rfl rfl rfl Yf rfl ⟨_,rfl,rfl⟩<|Zi rfl ZD rfl<|Zn rfl aJ rfl Mm0 rfl<|mS rfl rfl rfl rfl ⟨_,rfl,rfl⟩<|Zae rfl ?_;exact aQ 6
 ·refine Zf rfl<|Zf rfl<|Zf rfl<|Zf rfl<|Zf rfl<|Zf rfl<|Zad rfl ?_;exact aQ 6
 refine Zp rfl U401 lT nS rfl (.cons rfl rfl .nil) (fun b901 D901 hD901 hH=>fE (A:=[]) (ν:=[]) (B:=[(_,_),(_,_),(_,_)]) rfl rfl rfl rfl (aZE rfl) Yi (fun D30 R=>fH 4 [(!wis||decide (((eA line).length:Int)-1≠(wk:Int)))] _ _ ((gQ (l:=[(!wis||decide (((eA line).length:Int)-1≠(wk:Int)))]) (fun _ _ _ h=>h) hH Ye).up RB.up (R _ Ye))) rfl bDY (fun v30 D31 R U a w hh=>?_) (fun v30 D31 ν30 R U=>?_))
 ·obtain⟨hx30,rfl⟩:=U;exact FQ (X:=Cx.push ⟨none,75,[],h0,h0.size,D,[],none⟩ ⟨.fn (.func 187) [qP q1,qP q2,qP G].toArray,[].toArray⟩) (P:=prog) (fn:=f96) (f:=187) (c1:=[]) (c2:=[qP q1,qP q2,qP G]) (A:=[]) (ν:=[(G,_),(q2,_)]) (B:=[]) (rs:=[.cell 4 42,.cell 5 44]) Yax Yax (fun p hp=>by simp only[n4,n3,bBB]at hp;rcases hp with rfl|rfl<;>rfl) (fun D hD=>d7 q1 q2 G s pv cv hv lv mv bl bc yc yq _ D (O.up (hD _ Ye)) (hL.up (hD _ Ye))) rfl (fun D ν' hD hq=>by subst hq;exact⟨[_,_],⟨⟨_,_,_,rfl,.tail _ (.head _),aYZ ⟨iT,dX,rfl⟩⟩,⟨_,_,_,rfl,.head _,aZE ⟨pD,rfl⟩⟩,bDY⟩,L5 (TR (PZ hcut hno hyes (by simpa using hx30))) (M.up (hD _ Ye))⟩) a w (hh.subB (.cons _ (.refl _)))
 obtain⟨hf30,rfl⟩:=U;obtain⟨hwis,hlen⟩:=aOE hcut hf30;obtain⟨act,wf,hfind,rfl,hword⟩:=hyes hwis;refine aL<|Zg rfl<|bJ<|Za rfl<|CN (j:=1) rfl U22 iY rfl hPS rfl (by rw[hcut];simp) rfl bDY (fun ta hT=>?_)
 rw[hcut]at hT ⊢
 simp only[List.drop_succ_cons,bCN]at hT;rw[show(p0::ps).length-1=ps.length by simp]at hT ⊢
 refine Zab rfl U22 rfl hT rfl<|Za rfl<|aF<|Zar<|dD (γ:=Nat×Value×aD×List Int) (fun g=>ps.length-g.1) (fun g=>g.1≤ps.length∧(ps.take g.1).mapM tM=some g.2.2.2∧g.2.2.2.length=g.1∧bS 3 1 g.2.1 g.1 (ints g.2.2.2) g.2.2.1) (fun g=>[(41,qI (g.1:Int)),(9,g.2.1)]) [(40,_),(39,_),(7,_),(4,_),(5,_),(2,_)] (fun g=>g.2.2.1++[(qx,qC [qI (wk:Int),.func (.func wf) #[] #[]] 335),(G,qC [qI 0] 44),(q2,qC [qN,qN,qI 0,qI 0,qI 0,qN,qI 0,qN,qN,qI 0,qI 0,qI 0,qN,qN,qN,qI 0,qN] 42)]) (fun g=>[D31,D901,D1,E1,D]) (0,qN,[],[]) ⟨by simp,rfl,rfl,by simpa [ints]using bS.nil⟩ ⟨Yb,Yb,bDY⟩ cQ Mm5 (aH) ?_;rintro⟨k,v,ν,ns⟩ ⟨h1,h2,h3,ha⟩;simp only at h1 h2 h3 ha;refine aA<|Zai rfl<|bT<|Zz rfl (fun hI=>?_) (fun hI=>?_)
 ·simp only at hI;have hk:k<ps.length:=by omega
  obtain⟨x,hx⟩:=dV ps k;have hsz:x.size≤1000:=bBE (aEK hcut hx) hl;refine aT<|aS<|Zar<|aA<|Zw rfl U22 iY rfl hT rfl hx (fun b2 o2 cs2 hr2 hcl2 hA2=>?_);obtain rfl:cs2=[.string _]:=hr2;refine Zj 0 rfl xR rfl hA2 rfl<|Zg rfl<|aL<|Za rfl<|Zv rfl (fun D2 hD2=>aCJ x hsz _ (hV.up (hD2 _ Ye))) (fun v2 D2 hD2 hp2=>?_);obtain⟨m,nb,rfl,hm1,hm2⟩:=hp2;refine Za rfl<|Zaf rfl<|Zaf rfl<|Zg rfl<|Zg rfl<|aL<|Za rfl<|Zal rfl<|Zp rfl U401 lT nS rfl (.cons rfl rfl .nil) (fun b902 D902 hD902 hJ=>fE (A:=[]) (ν:=[]) (B:=_) rfl rfl rfl rfl (aZE rfl) Yi (fun D40 V=>fH 4 [!nb] _ _ ((gQ (l:=[!nb]) (fun _ _ _ h=>h) hJ Ye).up RB.up (V _ Ye))) rfl bDY (fun v40 D41 V Y a w hh=>?_) (fun v40 D41 ν40 V Y=>?_))
  ·obtain⟨hx40,rfl⟩:=Y;exact FQ (X:=Cx.push ⟨none,75,[],h0,h0.size,D,[],none⟩ ⟨.fn (.func 187) [qP q1,qP q2,qP G].toArray,[].toArray⟩) (P:=prog) (fn:=f96) (f:=187) (c1:=[]) (c2:=[qP q1,qP q2,qP G]) (A:=[]) (ν:=[(G,_),(q2,_)]) (B:=[]) (rs:=[.cell 4 42,.cell 5 44]) Yax Yax (fun p hp=>by simp only[n4,n3,bBB]at hp;rcases hp with rfl|rfl<;>rfl) (fun D hD=>d7 q1 q2 G s pv cv hv lv mv bl bc yc yq _ D (O.up (hD _ Ye)) (hL.up (hD _ Ye))) rfl (fun D ν' hD hq=>by subst hq;exact⟨[_,_],⟨⟨_,_,_,rfl,.tail _ (.head _),aYZ ⟨iT,dX,rfl⟩⟩,⟨_,_,_,rfl,.head _,aZE ⟨pD,rfl⟩⟩,bDY⟩,L5 (TR (YH hcut hx (hm2 (by simpa using hx40)))) (M.up (hD _ Ye))⟩) a w (hh.subB (.trans (.cons _ (.refl _)) (List.sublist_append_right _ _)))
  obtain⟨hf40,rfl⟩:=Y;have hnb:=hm1 (by simpa using hf40);refine aF<|aU<|Za rfl<|Za rfl<|Zp rfl U25 aM dS rfl (.cons rfl rfl .nil) (fun b903 D903 hD903 Z=>?_);have hS903:=Sl.ofInts (l:=[_]) (n:=1) (cap:=1) Z rfl Yd Yd;refine bB (A:=[]) (B:=[(_,_),(_,_),(_,_)]) rfl U25 rfl rfl aM dS rfl oD rfl rfl rfl ha (mI.lit Z) Ye rfl (by simp[ints,h3]) Yk Yd (aZE rfl) rfl bDY (fun v1 ν1 ha1=>?_);have ha2:bS 3 1 v1 (k+1) (ints (ns++[m])) ν1:=by rw[←fV];exact ha1
  refine Zg rfl<|Zah<|Zat<|Zaq<|aU<|Zaa rfl<|Za rfl<|Zah ?_;exact aK 24 (k+1,v1,ν1,ns++[m]) ⟨by simp only;omega,MI hx h2 hnb,by simp[h3],ha2⟩ Ym ⟨Yb,Yb,bDY⟩ rfl rfl Mm5 (fun D h=>⟨D,aZJ _ (aZJ _ (aZJ _ (aZJ _ (h)))),Le.refl D⟩)
 ·obtain rfl:k=ps.length:=by simp only at hI;omega
  rw[bAA]at h2;refine aW<|Zas<|Zas<|Zav<|Zaq<|aS<|R0 (A:=[]) (B:=[(_,_),(_,_),(_,_)]) ha rfl (fun D8 hD8 hF8=>?_);have hnS:=hF8.ints (l:=ns) h3 (by have:=hps;omega)
  refine aU<|Zq rfl iT rfl O dX<|fX rfl rfl rfl (fun D20 hD20=>i7 _ s _ (M.up (hD20 _ Ye)) hsm) rfl bDY (fun wv D21 νW hD21 hw=>?_);obtain⟨wb,rfl,hO⟩:∃wb,wv=qP wb∧Z1 D21 wb s νW:=by
   obtain⟨wb,pv,cv,hv,lv,mv,bl,bc,yc,yq,ν1,ν2,ν3,ν4,ν5,ν6,ν7,ν8,h1,h2,h3⟩:=hw;exact⟨wb,h1,pv,cv,hv,lv,mv,bl,bc,yc,yq,ν1,ν2,ν3,ν4,ν5,ν6,ν7,ν8,h2,h3⟩
  refine Zg rfl<|aL<|Zh rfl aAK rfl<|Zm rfl aLQ rfl (GE _ Mm0) rfl<|Za rfl<|Za rfl<|fE (A:=[]) (ν:=νW) (B:=[(_,_),(_,_),(_,_)]) rfl rfl rfl rfl (aZE rfl) (aNQ hO) (fun D50 I=>hword wb s _ ns νW _ (hnS.up RI.up (I _ Ye)) Yd (AE h2) (hO.up (I _ Ye)) hsm) rfl bDY (fun v50 D51 I hB a w hh=>?_) (fun v50 D51 ν50 I hB=>?_)
  ·obtain⟨c50,hx50,rfl⟩:=hB;exact FQ (X:=Cx.push ⟨none,75,[],h0,h0.size,D,[],none⟩ ⟨.fn (.func 187) [qP q1,qP q2,qP G].toArray,[].toArray⟩) (P:=prog) (fn:=f96) (f:=187) (c1:=[]) (c2:=[qP q1,qP q2,qP G]) (A:=[]) (ν:=[(G,_),(q2,_)]) (B:=[]) (rs:=[.cell 4 42,.cell 5 44]) Yax Yax (fun p hp=>by simp only[n4,n3,bBB]at hp;rcases hp with rfl|rfl<;>rfl) (fun D hD=>d7 q1 q2 G s pv cv hv lv mv bl bc yc yq _ D (O.up (hD _ Ye)) (hL.up (hD _ Ye))) rfl (fun D ν' hD hq=>by subst hq;exact⟨[_,_],⟨⟨_,_,_,rfl,.tail _ (.head _),aYZ ⟨iT,dX,rfl⟩⟩,⟨_,_,_,rfl,.head _,aZE ⟨pD,rfl⟩⟩,bDY⟩,L5 (aGD (j7 hcut hfind hlen h2) hx50) (M.up (hD _ Ye))⟩) a w (hh.subB (.cons _ (.refl _)))
  obtain⟨s2,hact,hO2⟩:=hB;refine bT ?_;have hsm2:N1 s2:=(BV hfind hk0 hact).small;refine MU (B:=[(_,_),(_,_),(_,_)]) hO2 rfl Ye hsm2 (fun D9 hK hN hR hS hX hY rA rB yq2 hD9 hL2=>?_);unfold dO;refine aU<|Za rfl<|Zaj rfl<|Zh rfl aX rfl<|Zy rfl iT rfl Mm0 dX<|fE (A:=[]) (ν:=[]) (B:=[(_,_),(_,_),(_,_),(_,_)]) rfl rfl rfl rfl (aZE rfl) Yi (fun D60 hE=>aFA _ s2 _ ⟨hK,hN,hR,hS,hX,hY,rA,rB,yq2,rfl,hL2.up (hE _ Ye)⟩) rfl bDY (fun v60 D61 hE hF a w hh=>?_) (fun v60 D61 ν60 hE hF=>?_)
  ·obtain⟨hx60,rfl⟩:=hF;exact FQ (X:=Cx.push ⟨none,75,[],h0,h0.size,D,[],none⟩ ⟨.fn (.func 187) [qP q1,qP q2,qP G].toArray,[].toArray⟩) (P:=prog) (fn:=f96) (f:=187) (c1:=[]) (c2:=[qP q1,qP q2,qP G]) (A:=[]) (ν:=[(G,_),(q2,_)]) (B:=[]) (rs:=[.cell 4 42,.cell 5 44]) Yax Yax (fun p hp=>by simp only[n4,n3,bBB]at hp;rcases hp with rfl|rfl<;>rfl) (fun D hD=>d7 q1 q2 G s pv cv hv lv mv bl bc yc yq _ D (O.up (hD _ Ye)) (hL.up (hD _ Ye))) rfl (fun D ν' hD hq=>by subst hq;exact⟨[_,_],⟨⟨_,_,_,rfl,.tail _ (.head _),aYZ ⟨iT,dX,rfl⟩⟩,⟨_,_,_,rfl,.head _,aZE ⟨pD,rfl⟩⟩,bDY⟩,L5 (aHD (j7 hcut hfind hlen h2) hact hx60) (M.up (hD _ Ye))⟩) a w (hh.subB (.cons _ (.cons _ (.refl _))))
  obtain⟨hf60,rfl⟩:=hF;refine aL<|Za rfl<|Zaj rfl<|Zh rfl aX rfl<|Zy rfl iT rfl Mm0 dX<|bD rfl rfl rfl rfl dX Ya Ya (.tail (.tail (.tail (bR.head)))) (iU hL2) bDY<|Zo rfl pG (.tail (.tail (bR.head))) rfl<|aG<|aSV (X:=Cx.push ⟨none,75,[],h0,h0.size,D,[],none⟩ ⟨.fn (.func 187) [qP q1,qP q2,qP G].toArray,[].toArray⟩) (P:=prog) (fn:=f96) (f:=187) (e:=.ret) (c1:=[]) (c2:=[qP q1,qP q2,qP G]) (A:=[(_,_),(_,_)]) (ν:=[(G,qC [qI 0] 44),(q2,qC (dO s2 hK hN hR hS hX hY rA rB yq2) 42)]) (B:=[]) (rs:=[.cell 4 42,.cell 5 44]) Yax Yax Yax (fun p hp=>by simp only[n4,n3,bBB]at hp;rcases hp with rfl|rfl<;>rfl) (fun D hD=>aNX q1 q2 G _ _ D) rfl ?_
  intro D ν' hD hq;subst hq;exact⟨[_,_],⟨⟨_,_,_,rfl,.tail _ (.tail _ (.tail _ (.head _))),aYZ ⟨iT,dX,rfl⟩⟩,⟨_,_,_,rfl,.tail _ (.tail _ (.head _)),aZE ⟨pD,rfl⟩⟩,bDY⟩,UR (TO (j7 hcut hfind hlen h2) hact hf60) ⟨hK,hN,hR,hS,hX,hY,rA,rB,yq2,rfl,hL2.up (hD D9 Ye)⟩⟩
end L12
namespace L12
open C12
def cA(ls:List ByteArray):aN×List Int:=ls.foldl (fun p l=>((nB p.1 l).1,p.2++[(nB p.1 l).2])) (qZ,[])
theorem QT{ls:List ByteArray}{k:Nat}{x:ByteArray}(h:ls[k]?= some x):cA (ls.take (k+1))=((nB (cA (ls.take k)).1 x).1,(cA (ls.take k)).2++[(nB (cA (ls.take k)).1 x).2]):=by
 unfold cA;rw[aZG,h,bAN];rfl
theorem QD{line:ByteArray}{act:fZ}{n:List Int}{s G:aN}(h:jK line=some (act,n))(hk:mN s)(ha:act s n=.ok G):mN G:=by
 unfold jK at h;split at h
 ·cases h
 ·split at h
  ·cases h
  ·rename_i l k act' hf;split at h
   ·obtain⟨m,_,hm⟩:=bBS.1 h;cases hm;exact BV hf hk ha
   ·cases h
theorem aIT{s:aN}(hk:mN s)(line:ByteArray):mN (nB s line).1:=by
 unfold nB;split
 ·exact hk
 ·rename_i act n h;split
  ·exact hk
  ·rename_i s' ha;split
   ·exact QD h hk ha
   ·exact hk
theorem t8:mN qZ:=⟨by decide,by decide,by decide,by decide,by decide,by decide,by decide,by decide,by decide⟩
theorem aMP{q:Nat}{o:Obj}{ν B:aD}(h:(aD.ks ((q,o)::(ν++B))).Nodup):∀p∈ν,p.1∉[q]:=by
 intro p hp hm;obtain rfl:p.1=q:=by simpa using hm
 exact(bAO.1 h).1 (GT.2 ⟨p,aYX _ hp,rfl⟩)
structure aXO where
 (k:Nat) (s:aN) (es:List Int) (pv cv hv lv mv bl bc yc yq v:Value) (ν:aD) (Dn:aC)
theorem aLD(lv:Value)(ls:List ByteArray)(D:aC)(hS:Sl D RS 1 lv ls)(hn:ls.length≤1000)(hsz:∀l∈ls,l.size≤1000)(hV:mF D):Fn prog 38 #[lv] D (fun D' v=>∃v1 v2,v=.tuple #[v1,v2]∧iF D' v1 (cA ls).1∧Sl D' RI 1 v2 (cA ls).2):=by
 refine Zs 31 func38 rfl (fun h0=>aA<|Zx rfl oL rfl (fun q1=>Zg rfl<|aL<|Zv rfl (fun D1 V=>vO _) (fun v1 D1 V Y=>?_)));obtain⟨pv,cv,hv,I,mv,bl,bc,yc,yq,rfl,hL⟩:=Y;unfold dO;refine Zx rfl oL rfl (fun q2=>bD rfl rfl rfl rfl dX Ya Ya (bR.head) (iU hL) bDY<|aL<|Zg rfl<|bJ<|Za rfl<|cZ rfl U22 rfl Yl rfl rfl bDY<|Za rfl<|aF<|Zar<|dD (γ:=aXO) (fun g=>ls.length-g.k) (fun g=>g.k≤ls.length∧cA (ls.take g.k)=(g.s,g.es)∧g.es.length=g.k∧bS 44 1 g.v g.k (ints g.es) g.ν∧jM g.Dn g.s g.pv g.cv g.hv g.lv g.mv g.bl g.bc g.yc g.yq∧mN g.s) (fun g=>[(13,qI (g.k:Int)),(5,g.v)]) [(12,_),(11,_),(4,_),(3,_),(2,_)] (fun g=>g.ν++[(q2,qC (dO g.s g.pv g.cv g.hv g.lv g.mv g.bl g.bc g.yc g.yq) 42),(q1,qC [qN,qN,qI 0,qI 0,qI 0,qN,qI 0,qN,qN,qI 0,qI 0,qI 0,qN,qN,qN,qI 0,qN] 42)]) (fun g=>[g.Dn,D]) ⟨0,qZ,[],pv,cv,hv,I,mv,bl,bc,yc,yq,qN,[],D1⟩ ⟨by simp,by simp[cA],rfl,by simpa [ints]using bS.nil,hL,t8⟩ ⟨Yb,Yb,bDY⟩ cQ Mm5 (Yaw) ?_);rintro⟨k,s,es,pv,cv,hv,lv,mv,bl,bc,yc,yq,v,ν,Dn⟩ ⟨h1,hp,h3,ha,hL,hk⟩;simp only at h1 hp h3 ha hL hk;refine aA<|Zai rfl<|bT<|Zz rfl (fun M=>?_) (fun M=>?_)
 ·simp only at M;have hlt:k<ls.length:=by omega
  obtain⟨x,hx⟩:=dV ls k;refine aT<|aS<|Zar<|aA<|Zw rfl U22 iY rfl (hS.up RS.up (Le.refl _)) rfl hx (fun b1 o1 Z hB hcl1 hE=>?_);obtain rfl:Z=[.string _]:=hB;refine Zj 0 rfl xR rfl hE rfl<|Zg rfl<|aL<|Zy rfl iT rfl (GE _ Mm0) dX<|Za rfl<|Zv rfl (fun D2 O=>aWN _ s x _ ⟨pv,cv,hv,lv,mv,bl,bc,yc,yq,rfl,hL.up (O _ Ye)⟩ hk (hsz x (LE hx)) (hV.up (O _ Ye))) (fun v2 D2 O hF=>?_);obtain⟨w1,rfl,hH,hI,hJ,I,hK,hM,hN,hO,hR,rfl,R⟩:=hF;have hX:=aIT hk x;unfold dO;refine Za rfl<|Zaf rfl<|Zaf rfl<|Zx rfl oL rfl (fun U=>bD rfl rfl rfl rfl dX Ya Ya (bR.head) (iU R) bDY<|Zg rfl<|aF<|zB (fun hnd=>?_));have hnu:∀p∈ν,p.1∉[U]:=aMP hnd;have hq3:U∉gN.mk [U]:=gN.out Ye;refine bW (gN.mk [U]) 3 7 30<|bK rfl iT rfl Mm0 dX Yn rfl bDY<|Za rfl<|Za rfl<|Zp rfl U43 pG FS rfl (.cons rfl rfl .nil) (fun b901 D901 hY G=>?_);have rA:=Sl.ofInts (l:=[_]) (n:=1) (cap:=1) G rfl Yd Yd;refine bB (A:=[(_,_)]) (B:=[(_,_),(_,_)]) rfl U43 rfl rfl pG FS rfl aUL rfl rfl rfl ha (mI.lit G) Ye rfl (by simp[ints,h3]) Yk Yd (aYZ (fun p hp=>gN.in_ (hnu p hp))) rfl bDY (fun v1 ν1 rB=>?_);have ha2:bS 44 1 v1 (k+1) (ints (es++[(nB s x).2])) ν1:=by rw[←fV];exact rB
  refine aI ((U,_)::(ν1++[(q2,_),(q1,_)])) rfl<|bD rfl rfl rfl rfl dX Ya Ya (.tail (.app (bR.head))) (iU R) bDY<|Zg rfl<|Zah<|Zat<|Zaq<|aU<|Zaa rfl<|Za rfl<|Zah ?_;exact aK 22 ⟨k+1,(nB s x).1,es++[(nB s x).2],hH,hI,hJ,I,hK,hM,hN,hO,hR,v1,ν1,D2⟩ ⟨by simp only;omega,by simp only;rw[QT hx,hp],by simp[h3],ha2,R,hX⟩ Ym ⟨Yb,Yb,bDY⟩ rfl rfl (List.Sublist.cons _ Mm5) (Yaw)
 ·obtain rfl:k=ls.length:=by simp only at M;omega
  rw[bAA]at hp;refine aW<|Zas<|Zas<|Zav<|Zaq<|aA<|Zy rfl iT rfl (GE _ Mm0) dX<|Za rfl<|bD rfl rfl rfl rfl dX Ya Ya (.app (.tail (bR.head))) (iU hL) bDY<|Zg rfl<|aG<|gC (A:=[]) (B:=[(_,_),(_,_)]) ha rfl (fun D9 hD9 hF9=>?_);have hes:=hF9.ints (l:=es) h3 Yd;exact cS (vs:=[_,_]) rfl rfl rfl ⟨⟨_,_,_,rfl,aZJ _ Mm0,aYZ ⟨iT,dX,rfl⟩⟩,rfl,bDY⟩ (fun D hD=>⟨_,_,rfl,by rw[hp];exact⟨pv,cv,hv,lv,mv,bl,bc,yc,yq,rfl,hL.up (hD _ Ye)⟩,by rw[hp];exact hes.up RI.up (hD _ Ye)⟩)
end L12
namespace L12
open C12
def aIE:aN:=⟨{places:=[],counts:=[],wrong:=0,off:=0},{last:=0,heights:=[],step:=0,levels:=[],marks:=[]},{chairs:=0,coin:=0,box:=0,lines:=[],counts:=[]},{chairs:=[],fit:=0,claims:=[]}⟩
def aR(ls:List ByteArray):aN×List Int×Int:=if eR ls=0 then((cA ls).1,(cA ls).2,0)else(aIE,[],eR ls)
theorem nV{ls:List ByteArray}(h:eR ls=0):aR ls=((cA ls).1,(cA ls).2,0):=aZK h
theorem vJ{ls:List ByteArray}(h:eR ls≠0):aR ls=(aIE,[],eR ls):=aZB h
theorem EI{ls:List ByteArray}(h:eR ls=0):ls.length≤40∧∀l∈ls,l.size≤50:=by
 unfold eR at h;split at h
 ·cases h
 ·rename_i h2;simp only[bAD,aZI,bDG,not_or,Bool.not_eq_false,aZN]at h2;refine⟨by omega,fun l hl=>?_⟩;have:=h2.2 l hl;omega
theorem S0{ls:List ByteArray}(h:eR ls=0):ls.length≤40:=(EI h).1
theorem l3{ls:List ByteArray}(h:eR ls=0):∀l∈ls,l.size≤50:=(EI h).2
theorem aLJ(D:aC):iF D (.agg #[qN,qN,qI 0,qI 0,qI 0,qN,qI 0,qN,qN,qI 0,qI 0,qI 0,qN,qN,qN,qI 0,qN]) aIE:=⟨_,_,_,_,_,_,_,_,_,rfl,⟨Sl.nil,Sl.nil,Sl.nil,Sl.nil,Sl.nil,Sl.nil,Sl.nil,Sl.nil,Sl.nil⟩⟩
theorem yN(ls:List ByteArray):mN (cA ls).1:=by
 have:∀(ls:List ByteArray) (p:aN×List Int),mN p.1→mN (ls.foldl (fun p l=>((nB p.1 l).1,p.2++[(nB p.1 l).2])) p).1:=by
  intro ls;induction ls with
  |nil=>exact fun p h=>h
  |cons l ls ih=>exact fun p h=>ih _ (aIT h l)
 exact this ls _ t8
theorem KD(ls:List ByteArray)(h:(aR ls).2.2=0):mN (aR ls).1:=by
 by_cases hf:eR ls=0
 ·rw[nV hf];exact yN ls
 ·rw[vJ hf]at h;exact absurd h hf
theorem x5(ls:List ByteArray):(aR ls).1.row.places.length≤7:=by
 by_cases hf:eR ls=0
 ·rw[nV hf];exact(yN ls).pl
 ·rw[vJ hf];exact Nat.zero_le _
theorem s3(ls:List ByteArray):(aR ls).1.book.lines.length≤8:=by
 by_cases hf:eR ls=0
 ·rw[nV hf];exact(yN ls).ln
 ·rw[vJ hf];exact Nat.zero_le _
def w9(ls:List ByteArray):(Int×Int)×Int:=if(aR ls).2.2=0 then(if C3.yV (aR ls).1.book (C1.gW ((aR ls).1.book.lines.length:Int) 0 ((aR ls).1.book.lines.length:Int))=0 then L3.LC (fun s=>s.money) (aR ls).1.book (((aR ls).1.book.lines.length:Int)).toNat else(0,0),C3.yV (aR ls).1.book (C1.gW ((aR ls).1.book.lines.length:Int) 0 ((aR ls).1.book.lines.length:Int)))else((0,0),(aR ls).2.2)
def zR(ls:List ByteArray):(Int×Int)×Int:=if(aR ls).2.2=0 then(if C1.cK (aR ls).1.row (C1.oG (aR ls).1.row 0 (((aR ls).1.row.places.length:Int)-1))=0 then(C1.AQ (C1.truths (aR ls).1.row) (0:Int).toNat (((aR ls).1.row.places.length:Int)-1).toNat,C1.BB (C1.truths (aR ls).1.row) (0:Int).toNat (((aR ls).1.row.places.length:Int)-1).toNat)else(0,0),C1.cK (aR ls).1.row (C1.oG (aR ls).1.row 0 (((aR ls).1.row.places.length:Int)-1)))else((0,0),(aR ls).2.2)
theorem Q1(lv:Value)(ls:List ByteArray)(D:aC)(hS:Sl D RS 1 lv ls)(hV:mF D):Fn prog 11 #[lv] D (fun D' v=>∃v1 v2,v=.tuple #[v1,v2,qI (aR ls).2.2]∧iF D' v1 (aR ls).1∧Sl D' RI 1 v2 (aR ls).2.1):=by
 refine Zs 19 func11 rfl (fun h0=>aA<|Zx rfl oL rfl (fun q1=>Zg rfl<|Zg rfl<|bJ<|Za rfl<|Zc rfl (fun U M=>vL _ ls _ (hS.up RS.up (M _ Ye)))<|Zg rfl<|aL<|Za rfl<|Zak rfl ?_));refine aF<|Zz rfl (fun G=>?_) (fun G=>?_)
 ·have hf:eR ls≠0:=by simpa using G
  refine aA<|kE (cs:=[qN,qN,qI 0,qI 0,qI 0,qN,qI 0,qN,qN,qI 0,qI 0,qI 0,qN,qN,qN,qI 0,qN]) rfl aTF oL rfl Yg rfl bDY<|Za rfl<|bD rfl rfl rfl rfl dX Ya Ya (bR.head) Yk bDY<|Zg rfl<|Zg rfl<|aG<|Zap ?_;exact cS (vs:=[_,_,_]) rfl rfl rfl ⟨⟨_,_,_,rfl,Mm0,aYZ ⟨iT,dX,rfl⟩⟩,rfl,rfl,bDY⟩ (fun D hD=>⟨_,_,by rw[vJ hf];rfl,by rw[vJ hf];exact aLJ D,by rw[vJ hf];exact Sl.nil⟩)
 ·have hf:eR ls=0:=by simpa using G
  refine aT<|aA<|Za rfl<|Zv rfl (fun R I=>aLD _ ls _ (hS.up RS.up (I _ Ye)) (by have:=S0 hf;omega) (fun l hl=>by have:=l3 hf l hl;omega) (hV.up (I _ Ye))) (fun v2 R I O=>?_);obtain⟨w1,w2,rfl,⟨pv,cv,hv,lv,mv,bl,bc,yc,yq,rfl,hL⟩,hes⟩:=O;unfold dO;refine Za rfl<|Zaf rfl<|Zaf rfl<|bD rfl rfl rfl rfl dX Ya Ya (bR.head) (iU hL) bDY<|Zg rfl<|aL<|Zy rfl iT rfl Mm0 dX<|Za rfl<|bD rfl rfl rfl rfl dX Ya Ya (bR.head) (iU hL) bDY<|Zg rfl<|Zg rfl<|aG ?_;exact cS (vs:=[_,_,_]) rfl rfl rfl ⟨⟨_,_,_,rfl,Mm0,aYZ ⟨iT,dX,rfl⟩⟩,rfl,rfl,bDY⟩ (fun D hD=>⟨_,_,by rw[nV hf]<;>rfl,by rw[nV hf];exact⟨pv,cv,hv,lv,mv,bl,bc,yc,yq,rfl,hL.up (hD _ Ye)⟩,by rw[nV hf];exact hes.up RI.up (hD _ Ye)⟩)
theorem p8(rv:Value)(r:C1.dG)(i j:Int)(D:aC)(hr:pC D rv r):Fn prog 50 #[rv,qI i,qI j] D (fun _ v=>v=.tuple #[kX (if C1.cK r (C1.oG r i j)=0 then(C1.AQ (C1.truths r) i.toNat j.toNat,C1.BB (C1.truths r) i.toNat j.toNat)else(0,0)),qI (C1.cK r (C1.oG r i j))]):=
 (L1.zN rv r i j D hr).mono fun D' v _ h=>by rw[h];split<;>rfl
theorem R5(lv:Value)(ls:List ByteArray)(D:aC)(hS:Sl D RS 1 lv ls)(hV:mF D):Fn prog 18 #[lv] D (fun _ v=>v=.tuple #[kX (w9 ls).1,qI (w9 ls).2]):=by
 refine Zs 26 func18 rfl (fun h0=>aA<|Zx rfl nN rfl (fun q1=>Zg rfl<|aL<|Za rfl<|Zv rfl (fun V G=>Q1 _ ls _ (hS.up RS.up (G _ Ye)) (hV.up (G _ Ye))) (fun v1 V G M=>?_)));obtain⟨w1,w2,rfl,⟨pv,cv,hv,lv,mv,bl,bc,yc,yq,rfl,hL⟩,hes⟩:=M;unfold dO;have hst:(aR ls).2.2=0→mN (aR ls).1:=KD ls;have R:(aR ls).1.row.places.length≤7:=x5 ls;have U:(aR ls).1.book.lines.length≤8:=s3 ls;refine Za rfl<|Zaf rfl<|Zaf rfl<|Zaf rfl<|Zx rfl oL rfl (fun q2=>bD rfl rfl rfl rfl dX Ya Ya (bR.head) (iU hL) bDY<|Zg rfl<|Zg rfl<|bJ<|Za rfl<|Zak rfl<|aF ?_);refine Zz rfl (fun I=>?_) (fun I=>?_)
 ·have hf:(aR ls).2.2≠0:=by simpa using I
  refine aA<|Zr [qI 0,qI 0] rfl R8 nN rfl<|Za rfl<|bD rfl rfl rfl rfl eG Ya Ya (.tail (bR.head)) Yk bDY<|Zg rfl<|aG<|Zap ?_;exact cS (vs:=[_,_]) rfl rfl rfl ⟨⟨_,_,_,rfl,Mm1,aYZ ⟨mM,eG,rfl⟩⟩,rfl,bDY⟩ (fun D hD=>by unfold w9;rw[aZB hf];rfl)
 ·have hf:(aR ls).2.2=0:=by simpa using I
  refine aT<|aA<|Zh rfl eL rfl<|dM rfl fG eK rfl Mm0 rfl rfl n3 rfl bDY<|Zh rfl eL rfl<|Zh rfl cE rfl<|Zm rfl fA rfl Mm0 rfl<|Zab rfl U33 rfl (hL.ln.up tN.up (Le.refl _)) rfl<|Zc rfl (fun Y O=>L3.R5 _ (aR ls).1.book ((aR ls).1.book.lines.length:Int) _ (hL.book.up (O _ Ye)))<|Zaf rfl<|Zaf rfl<|bD rfl rfl rfl rfl eG Ya Ya (.tail (bR.head)) Yk bDY ?_;refine Zg rfl<|aG ?_;exact cS (vs:=[_,_]) rfl rfl rfl ⟨⟨_,_,_,rfl,Mm1,aYZ ⟨mM,eG,rfl⟩⟩,rfl,bDY⟩ (fun D hD=>by unfold w9;rw[aZK hf];rfl)
theorem zN(lv:Value)(ls:List ByteArray)(D:aC)(hS:Sl D RS 1 lv ls)(hV:mF D):Fn prog 19 #[lv] D (fun _ v=>v=.tuple #[kX (zR ls).1,qI (zR ls).2]):=by
 refine Zs 27 func19 rfl (fun h0=>aA<|Zx rfl oA rfl (fun q1=>Zg rfl<|aL<|Za rfl<|Zv rfl (fun V G=>Q1 _ ls _ (hS.up RS.up (G _ Ye)) (hV.up (G _ Ye))) (fun v1 V G M=>?_)));obtain⟨w1,w2,rfl,⟨pv,cv,hv,lv,mv,bl,bc,yc,yq,rfl,hL⟩,hes⟩:=M;unfold dO;have hst:(aR ls).2.2=0→mN (aR ls).1:=KD ls;have R:(aR ls).1.row.places.length≤7:=x5 ls;have U:(aR ls).1.book.lines.length≤8:=s3 ls;refine Za rfl<|Zaf rfl<|Zaf rfl<|Zaf rfl<|Zx rfl oL rfl (fun q2=>bD rfl rfl rfl rfl dX Ya Ya (bR.head) (iU hL) bDY<|Zg rfl<|Zg rfl<|bJ<|Za rfl<|Zak rfl<|aF ?_);refine Zz rfl (fun I=>?_) (fun I=>?_)
 ·have hf:(aR ls).2.2≠0:=by simpa using I
  refine aA<|Zr [qI 0,qI 0] rfl x9 oA rfl<|Za rfl<|bD rfl rfl rfl rfl gY Ya Ya (.tail (bR.head)) Yk bDY<|Zg rfl<|aG<|Zap ?_;exact cS (vs:=[_,_]) rfl rfl rfl ⟨⟨_,_,_,rfl,Mm1,aYZ ⟨wL,gY,rfl⟩⟩,rfl,bDY⟩ (fun D hD=>by unfold zR;rw[aZB hf];rfl)
 ·have hf:(aR ls).2.2=0:=by simpa using I
  refine aT<|aA<|Zh rfl dC rfl<|dM rfl kD jX rfl Mm0 rfl rfl n3 rfl bDY<|Zh rfl dC rfl<|Zh rfl eB rfl<|Zm rfl dN rfl Mm0 rfl<|Zab rfl U25 rfl (hL.pl.up RI.up (Le.refl _)) rfl<|Zan rfl<|Zc rfl (fun Y O=>p8 _ (aR ls).1.row 0 (((aR ls).1.row.places.length:Int)-1) _ (hL.row.up (O _ Ye)))<|Zaf rfl<|Zaf rfl ?_;refine bD rfl rfl rfl rfl gY Ya Ya (.tail (bR.head)) Yk bDY<|Zg rfl<|aG ?_;exact cS (vs:=[_,_]) rfl rfl rfl ⟨⟨_,_,_,rfl,Mm1,aYZ ⟨wL,gY,rfl⟩⟩,rfl,bDY⟩ (fun D hD=>by unfold zR;rw[aZK hf];rfl)
end L12
variable{P:Program}{X:Cx}{γb:Type}[Membership Nat γb]{bad:γb}{all:Array Oper}{K:Act→World→Prop}{Q:Exit→Act→World→Prop}
variable{σ:bO}{μ:aD}{Ds:List aC}{os:List (Bool×Nat)}{fl:Bool}{ix:Nat}
variable{d:Nat}{x y z:Operand}{u v:Value}{ty:TypeId}{pos:String}{aft:Array Edge}{g:Option (Nat×Bool)}
theorem SQ{A B ν:aD}{t t1 e tr:TypeId}{sz n m:Nat}{cells xs:List Value}{xv:Value}{z0:Value}{ats:Array TypeId}
  (ho:all[ix]?= some ⟨some d,.call {callee:=.builtin .append,args:=#[x,y],argTypes:=ats},tr,pos,aft,g⟩) (ht:P.underlying t=some (.slice e)) (hat:ats[0]?= some t) (G:ats[1]?= some t1) (M:P.underlying t1=some .string)
  (hs:TS P e sz) (hz:TZ P e z0) (O:Nat.beq z0.cells.size sz=true) (hi:(P.info? e).map (fun i=>Nat.ble 1 i.bytes&&Nat.ble i.bytes 4096)=some true) (I:Nat.ble 1 sz=true)
  (hx:ev σ x=some v) (hy:ev σ y=some xv) (hacc:bS e sz v n cells ν) (hsrc:∀a w,Hl X σ (A++ν++B) Ds a w→(Builtin.lenOf xv).run P w=.ok m w∧∀w',w'.heap=w.heap→(Builtin.firstCells sz m xv).run P w'=.ok xs.toArray w') (hxl:xs.length=m*sz) (hcl:cells.length=n*sz) (hx1:∀u∈xs,cell1 u=true) (hlen:n+m≤10000000)
  (hfl:fl=false∨∀p∈ν,p.1∈bad) (hcapB:LF v)
  (hN:Nat.blt d X.N=true) (hg:dE all σ g)
  (kk:∀v' ν',bS e sz v' (n+m) (cells++xs) ν'→LF v'→WL P X bad all K Q os ((d,v')::σ) (A++ν'++B) Ds):WL P X bad all K Q ((fl,ix)::os) σ (A++ν++B) Ds:=
 y3 ho ht hat G (aZE M) hs hz O hi I hx hy hacc hsrc hxl hcl hx1 hlen hfl hN hg fun v' ν' h h2=>kk v' ν' h (h2 hcapB)
def bc(l:List UInt8):List Value:=l.map fun b=>.int .u8 b.toNat
theorem lQ(l:List UInt8):(bc l).length=l.length:=by simp[bc]
theorem sE(a b:List UInt8):bc (a++b)=bc a++bc b:=by simp[bc]
theorem kT(l:List UInt8):∀u∈bc l,cell1 u=true:=by
 intro u hu;obtain⟨b,_,rfl⟩:=GT.1 hu;rfl
theorem LK{A B ν:aD}{t t1 e tr:TypeId}{n:Nat}{cells:List Value}{s:ByteArray}{z0:Value}{ats:Array TypeId}
  (ho:all[ix]?= some ⟨some d,.call {callee:=.builtin .append,args:=#[x,y],argTypes:=ats},tr,pos,aft,g⟩) (ht:P.underlying t=some (.slice e)) (hat:ats[0]?= some t) (G:ats[1]?= some t1) (I:P.underlying t1=some .string)
  (hs:TS P e 1) (hz:TZ P e z0) (M:Nat.beq z0.cells.size 1=true) (hi:(P.info? e).map (fun i=>Nat.ble 1 i.bytes&&Nat.ble i.bytes 4096)=some true)
  (hx:ev σ x=some v) (hy:ev σ y=some (.string s)) (hacc:bS e 1 v n cells ν) (hcl:cells.length=n) (hlen:n+s.size≤10000000) (hfl:fl=false∨∀p∈ν,p.1∈bad) (hcapB:LF v) (hN:Nat.blt d X.N=true) (hg:dE all σ g)
  (kk:∀v' ν',bS e 1 v' (n+s.size) (cells++bc s.data.toList) ν'→LF v'→WL P X bad all K Q os ((d,v')::σ) (A++ν'++B) Ds):WL P X bad all K Q ((fl,ix)::os) σ (A++ν++B) Ds:=by
 refine SQ (m:=s.size) (xs:=bc s.data.toList) ho ht hat G I hs hz M hi rfl hx hy hacc (fun a w _=>⟨rfl,fun w' _=>?_⟩) (by rw[lQ,bBQ];rfl) Yd (kT _) hlen hfl hcapB hN hg kk;exact Go.Lib.run_firstCells_string (P:=P) w' 1 s

theorem aNW{t t' e:TypeId}{p:Option Addr}(ho:all[ix]?= some ⟨some d,.binOp .eql t x y t',ty,pos,aft,g⟩)(ht:P.underlying t=some (.pointer e))(hx:ev σ x=some (.pointer p))(hy:ev σ y=some (.pointer none))(hN:Nat.blt d X.N=true)(hg:dE all σ g)
  (kk:WL P X bad all K Q os ((d,.bool p.isNone)::σ) μ Ds):WL P X bad all K Q ((fl,ix)::os) σ μ Ds:=
 J9 ho (fun w=>by
  have hgd:(eqGuard .eql t x y (.pointer p) (.pointer none)).run P w=.ok () w:=by
   simp only[eqGuard];simp[go_sem]
  have heq:(Op.equal t (.pointer p) (.pointer none)).run P w=.ok p.isNone w:=by
   show(Op.equalIn (9999+1) t (.pointer p) (.pointer none)).run P w=_;rw[Op.equalIn,Sem.run_bind,TU.of ht w];cases p<;>rfl
  rw[Sem.run_bind,hgd];show((do Pure.pure (Value.bool (←Op.equal t (.pointer p) (.pointer none)))):Sem Value).run P w=_;rw[Sem.run_bind,heq];rfl) hx hy hN hg kk
theorem aQJ{t t' e sz b:Nat}(ho:all[ix]?= some ⟨some d,.binOp .neq t x y t',ty,pos,aft,g⟩)(ht:P.underlying t=some (.pointer e))(hs:TS P e sz)(hz:Nat.beq sz 0=false)(hx:ev σ x=some (qP b))(hy:ev σ y=some (qP b))(hN:Nat.blt d X.N=true)(hg:dE all σ g)
  (kk:WL P X bad all K Q os ((d,.bool false)::σ) μ Ds):WL P X bad all K Q ((fl,ix)::os) σ μ Ds:=
 HX ho (fun w=>by
  have hz':sz≠0:=fun h=>by subst h;cases hz
  have hgd:(eqGuard .neq t x y (qP b) (qP b)).run P w=.ok () w:=by
   simp only[eqGuard];simp[go_sem]
  have heq:(Op.equal t (qP b) (qP b)).run P w=.ok true w:=by
   show(Op.equalIn (9999+1) t _ _).run P w=_;rw[Op.equalIn,Sem.run_bind,TU.of ht w];show(do if(←sizeOf e)≠0 then sameAddr ⟨b,0,none⟩ ⟨b,0,none⟩else if((⟨b,0,none⟩:Addr)==⟨b,0,none⟩)=true then Pure.pure true else Pure.pure ((←choose .zeroSizeEq)=1):Sem Bool).run P w=_;rw[Sem.run_bind,hs w];show(if sz≠0 then _ else _:Sem Bool).run P w=_;rw[aZK hz'];simp[sameAddr,go_sem]
  rw[Sem.run_bind,hgd];show((do Pure.pure (Value.bool (!(←Op.equal t (qP b) (qP b))))):Sem Value).run P w=_;rw[Sem.run_bind,heq];rfl) hx hy hN hg kk
theorem RD{t1 t2 t e b:TypeId}{vs:List Value}(ho:all[ix]?= some ⟨some d,.convert t1 t2 x,ty,pos,aft,g⟩)(h1:P.underlying t1=some (.pointer t))(h2:P.underlying t2=some .unsafePointer)(ht:(P.info? t).map (fun j=>Nat.beq j.size 0)=some false)(hx:ev σ x=some (qP b))
  (hm:(b,.cells vs.toArray e (0,0))∈μ) (hv:Nat.beq vs.length 0=false) (hb:b∉bad) (hN:Nat.blt d X.N=true) (hg:dE all σ g) (kk:WL P X bad all K Q os ((d,qP b)::σ) μ Ds):WL P X bad all K Q ((fl,ix)::os) σ μ Ds:=
 nE ho rfl rfl hN hg (fun a w hh w' hk=>by
  obtain⟨j,hj,G⟩:=bBS.1 ht;have hbx:=hh.boxAt hm hb hk;have hl:0<vs.length:=by
   cases h:vs.length with
   |zero=>rw[h]at hv;cases hv
   |succ n=>omega
  have:=Go.Lib.run_to_unsafe (P:=P) (w:=w') (e:=e) (cells:=vs.length) ⟨b,0,none⟩ h1 h2 hj (fun h=>by rw[h]at G;cases G) (by simp[World.shape?,hbx]) hl;simp only[execOp,hh.eval hx];rw[Sem.run_bind,this];rfl) kk
theorem GQ{t1 t2 t e b:TypeId}{vs:List Value}(ho:all[ix]?= some ⟨some d,.convert t1 t2 x,ty,pos,aft,g⟩)(h1:P.underlying t1=some .unsafePointer)(h2:P.underlying t2=some (.pointer t))(ht:(P.info? t).isSome=true)(hx:ev σ x=some (qP b))
  (hm:(b,.cells vs.toArray e (0,0))∈μ) (hl:liesAt P P.depth e (vs.length / P.cellsOf e) 0 t 1=true) (hb:b∉bad) (hN:Nat.blt d X.N=true) (hg:dE all σ g) (kk:WL P X bad all K Q os ((d,qP b)::σ) μ Ds):WL P X bad all K Q ((fl,ix)::os) σ μ Ds:=
 nE ho rfl rfl hN hg (fun a w hh w' hk=>by
  obtain⟨j,hj⟩:=Option.isSome_iff_exists.1 ht;have hbx:=hh.boxAt hm hb hk;have:=Go.Lib.run_from_unsafe (P:=P) (w:=w') (e:=e) (cells:=vs.length) ⟨b,0,none⟩ h1 h2 hj (by simp[World.shape?,hbx]) hl;simp only[execOp,hh.eval hx];rw[Sem.run_bind,this];rfl) kk
theorem RM{c:Operand}{xs:Array Operand}{ats:Array TypeId}{f:FuncId}{fn:Func}(ho:all[ix]?= some ⟨some d,.call {callee:=.value c,args:=xs,argTypes:=ats},ty,pos,aft,g⟩)(hc:ev σ c=some (.func (.func f) #[] #[]))(hxs:X7 σ xs.toList=some [v])
  (hf:P.funcs[f]?= some fn) (hname:(fn.name== "runtime.NumGoroutine")=false) (hb:fn.body.isNone=true) (hn:Extern.findNext fn=none) (he:Extern.find fn=some Extern.AbiNoEscape.same) (hN:Nat.blt d X.N=true) (hg:dE all σ g)
  (kk:WL P X bad all K Q os ((d,v)::σ) μ Ds):WL P X bad all K Q ((fl,ix)::os) σ μ Ds:=by
 refine eZ ho rfl rfl hg fun a w hh=>?_
 have e:(execOp a.eval ⟨some d,.call {callee:=.value c,args:=xs,argTypes:=ats},ty,pos,aft,g⟩).run P w=.ok (.value v) w:=by
  have G:xs.map a.eval=#[v]:=by
   have:=kP (fun _ _ hx=>hh.eval hx) hxs;rw[show #[v]=[v].toArray from rfl,←this,←bDM]
  simp only[execOp,resolve,hh.eval hc,Deferred.ofValue,pure_bind,invoke,G];show(callFunc f #[v]).run P w=_;rw[Go.run_callFunc_extern hf hname hb hn he];rfl
 rw[e];exact⟨fun _=>nZ.refl _ _,kk _ _ (hh.put hN v)⟩
theorem y4{c:Operand}{xs:Array Operand}{ats:Array TypeId}{f:FuncId}{c1 c2 vs:List Value}{post:Value→Prop}(ho:all[ix]?= some ⟨some d,.call {callee:=.value c,args:=xs,argTypes:=ats},ty,pos,aft,g⟩)(hc:ev σ c=some (.func (.func f) c1.toArray c2.toArray))(hxs:X7 σ xs.toList=some vs)
  (hex:X.ex=none) (hEF:EF P f) (hf:∀D w,iD X.h0 X.lo X.D0 X.mods μ D w→Calls P f (c1++vs++c2).toArray w fun e w'=>∃r,e=.returned r∧Go.RowKit.Below (max 1 X.h0.size) w w'∧post r) (hN:Nat.blt d X.N=true) (hg:dE all σ g)
  (kk:∀r,post r→WL P X bad all K Q os ((d,r)::σ) [] []):WL P X bad all K Q ((false,ix)::os) σ μ Ds:=by
 refine eZ ho rfl rfl hg fun a w hh=>?_
 obtain⟨h1,h2,h3,D,h4,h5,O⟩:=id hh;rw[vC hEF (hh.eval hc) (kP (fun _ _ hx=>hh.eval hx) hxs)];refine⟨fun h=>by simp[FW]at h,dP.2 ((hf D w h4).mono ?_)⟩;rintro e w' ⟨r,rfl,hb,hp⟩;refine⟨(fun h=>by cases h),kk r hp _ _ (Hl.put ⟨h1,h2,h3,fun b=>if b<max 1 X.h0.size then D b else [],?_,(fun D₁ h=>by cases h),by unfold C4;rw[hex];trivial⟩ hN r)⟩
 have G:(if 0<max 1 X.h0.size then D 0 else [])=D 0:=aZK Yd;refine⟨h4.hlo,bBE h4.size hb.size,fun b hl hm=>(hb.block b Yd).trans (h4.old b hl hm),fun b hl=>?_,h4.agr.of (fun b hne=>?_) G (hb.block 0 Yd),Yi,bAV,Yi,fun e he=>?_⟩
 ·rw[aZK Yd];exact h4.dold b hl
 ·by_cases hl:b<max 1 X.h0.size
  ·rw[aZK hl]at hne ⊢
   obtain⟨cs,e,fz,I,M⟩:=h4.agr.1 b hne;exact⟨cs,e,fz,by rw[hb.block b hl];exact I,M⟩
  ·rw[aZB hl]at hne;exact absurd rfl hne
 ·rw[←h4.env e he];exact Prod.ext hb.os hb.output
namespace L12
open C12 Go.Lib
def eT(b:Nat)(l:List UInt8)(ν:aD):Prop:=∃p v ν1,ν=(b,qC [.pointer p,v] 137)::ν1∧(p=none∨p=some ⟨b,0,none⟩)∧bS 5 1 v l.length (bc l) ν1∧LF v
theorem eT.unf{b:Nat}{l:List UInt8}{ν:aD}(h:eT b l ν):∀p∈ν,dB p.2:=by
 obtain⟨p,v,ν1,rfl,_,ha,_⟩:=h;exact yM ha
def vH(w:List UInt8)(lo hi:Int):List UInt8:=w++[32]++itoa lo++[46,46]++itoa hi++[10]
def u1(w:List UInt8)(n:Int):List UInt8:=w++[32]++itoa n++[10]
theorem y0(l:List UInt8):(zZ l).size=l.length:=rfl
theorem yD(a:Array UInt8):(⟨a⟩:ByteArray).size=a.size:=rfl
theorem ES(a b:ByteArray):(a++b).data.toList=a.data.toList++b.data.toList:=by simp
theorem GU(u:Nat)(h:u≤100000):(decDigits u).length≤6:=by
 rw[decDigits];split
 ·simp
 ·rw[decDigits];split
  ·simp
  ·rw[decDigits];split
   ·simp
   ·rw[decDigits];split
    ·simp
    ·rw[decDigits];split
     ·simp
     ·rw[decDigits];split
      ·simp
      ·omega
theorem lL{n:Int}(h1: -1000≤n)(h2:n≤100000):(itoa n).length≤7:=by
 unfold itoa;split
 ·rw[aYW];have:=GU n.natAbs Yd;omega
 ·first|(have:=GU n.toNat Yd;omega)|(have:=GU n.natAbs Yd;omega)
theorem FJ(b:Nat)(p:Option Addr)(v:Value)(hp:p=none∨p=some ⟨b,0,none⟩)(D:aC):lH prog 130 [qP b] D [(b,qC [.pointer p,v] 137)] (fun _ _ ν'=>ν'=[(b,qC [qP b,v] 137)]) (fun _=>False):=by
 refine eQ 20 func130 rfl rfl rfl rfl (fun h0 hwl hwn=>aA<|Za rfl<|Zaj rfl<|Zh rfl V0 rfl<|Zm rfl UW rfl Mm0 rfl<|aNW rfl U135 rfl rfl rfl bDY<|aF<|aP rfl (fun G=>?_) (fun G=>?_))
 ·obtain rfl:p=none:=by simpa using G
  refine aU<|Za rfl<|Za rfl<|RD rfl U135 U355 Yg rfl Mm0 rfl n3 rfl bDY<|RM (f:=207) rfl rfl rfl func207 Yg Yg Yg Yg rfl bDY<|GQ rfl U355 U135 Yg rfl Mm0 Yg n3 rfl bDY<|Zaj rfl<|Zh rfl V0 rfl<|Zo rfl WR (bR.head) rfl<|Zah ?_;exact Zag [] [] [_] [] rfl (fun D' hD=>rfl)
 ·obtain rfl:p=some ⟨b,0,none⟩:=hp.resolve_left (by rintro rfl;cases G);refine aA<|Za rfl<|Zaj rfl<|Zh rfl V0 rfl<|Zm rfl UW rfl Mm0 rfl<|Za rfl<|aQJ rfl U135 aRD rfl rfl rfl rfl bDY<|aF<|aP rfl (fun hc2=>?_) (fun hc2=>?_)
  ·cases hc2
  ·refine bM ?_;exact Zag [] [] [_] [] rfl (fun D' hD=>rfl)
theorem lX(b:Nat)(s:ByteArray)(l:List UInt8)(ν:aD)(D:aC)(hb:eT b l ν)(hl:l.length+s.size≤10000000):lH prog 64 [qP b,.string s] D ν (fun _ _ ν'=>eT b (l++s.data.toList) ν') (fun _=>False):=by
 obtain⟨p,v,ν1,rfl,hp,ha,hcb⟩:=hb;refine eQ 19 func64 rfl rfl rfl rfl (fun h0 hwl hwn=>aA<|Zg rfl<|Zg rfl<|aL<|Za rfl<|fE (A:=[]) (ν:=[(b,_)]) (B:=ν1) rfl rfl rfl rfl (aZE rfl) (fun p hp=>by simp only[aZM]at hp;subst hp;rfl) (fun U M=>FJ b p v hp _) rfl bDY (fun _ _ _ h=>h.elim) (fun v5 V ν5 M O=>?_))
 subst O;refine aL<|Za rfl<|Za rfl<|Zaj rfl<|Zh rfl EH rfl<|Zm rfl aVO rfl Mm0 rfl<|Za rfl<|aI ([(b,qC [qP b,v] 137)]++ν1++[]) Ye<|LK (A:=[(b,_)]) (B:=[]) rfl U99 rfl rfl U9 kM JA rfl aJQ rfl rfl ha (lQ _) hl (aZE rfl) hcb rfl bDY (fun R ν7 G I=>aI ((b,qC [qP b,v] 137)::ν7) Ye<|Zaj rfl<|Zh rfl EH rfl ?_);refine bG (ws:=[qP b,R]) rfl rfl rfl G.cells1 aJE .head Ye rfl G.cell1 bDY<|aL<|Za rfl<|iZ rfl U9 rfl rfl rfl bDY<|Zg rfl<|Zg rfl<|aG ?_;refine fun a w hh=>kF (P:=prog) (fn:=f64) (A:=[]) (ν':=(b,_)::ν7) (B:=[]) (vs:=[_,_]) rfl rfl rfl cQ (fun D' hD=>⟨_,R,ν7,rfl,aYZ rfl,by rw[aYS,sE];exact G,I⟩) a w (hh.boxesEq (aZA _).symm)
theorem zQ(w:ByteArray)(lo hi:Int)(b:Nat)(l:List UInt8)(ν:aD)(D:aC)(hV:mF D)(hw:w.size≤10)(hlo: -1000≤lo∧lo≤100000)(hhi: -1000≤hi∧hi≤100000)(hb:eT b l ν)(hl:l.length≤1000000):lH prog 63 [.string w,qI lo,qI hi,qP b] D ν (fun _ _ ν'=>eT b (l++vH w.data.toList lo hi) ν') (fun _=>False):=by
 have hilo:=lL hlo.1 hlo.2;have hihi:=lL hhi.1 hhi.2;refine eQ 18 func63 rfl rfl rfl rfl (fun h0 hwl hwn=>aU<|Za rfl<|kS rfl rfl rfl (by first|omega|(simp only[yD,aZV,aYW,bAP];omega)) rfl bDY<|Za rfl<|Zc rfl (fun U G=>M7 lo Yf _ (hV.up (G _ Ye)))<|kS rfl rfl rfl Yp rfl bDY<|kS rfl rfl rfl Yp rfl bDY<|Za rfl<|Zc rfl (fun V I=>M7 hi Yf _ (hV.up (I _ Ye)))<|kS rfl rfl rfl Yp rfl bDY<|kS rfl rfl rfl Yp rfl bDY ?_);refine aI ([]++ν++[]) Ye<|fE (A:=[]) (ν:=ν) (B:=[]) rfl rfl rfl rfl (aZE rfl) hb.unf (fun Y M=>lX b _ l ν _ hb Ya1) rfl bDY (fun _ _ _ h=>h.elim) (fun v9 D10 R M O=>aI R Ye<|Zah ?_);refine fun a w hh=>kF (P:=prog) (fn:=f63) (A:=[]) (ν':=R) (B:=[]) (vs:=[]) rfl rfl rfl bDY (fun D' hD=>by simpa [vH,u1,zZ,ES]using O) a w (hh.boxesEq Ye)
theorem HF(w:ByteArray)(m:Int)(b:Nat)(l:List UInt8)(ν:aD)(D:aC)(hV:mF D)(hw:w.size≤10)(hm: -1000≤m∧m≤100000)(hb:eT b l ν)(hl:l.length≤1000000):lH prog 66 [.string w,qI m,qP b] D ν (fun _ _ ν'=>eT b (l++u1 w.data.toList m) ν') (fun _=>False):=by
 have him:=lL hm.1 hm.2;refine eQ 12 func66 rfl rfl rfl rfl (fun h0 hwl hwn=>aU<|Za rfl<|kS rfl rfl rfl (by first|omega|(simp only[yD,aZV,aYW,bAP];omega)) rfl bDY<|Za rfl<|Zc rfl (fun R G=>M7 m Yf _ (hV.up (G _ Ye)))<|kS rfl rfl rfl Yp rfl bDY<|kS rfl rfl rfl Yp rfl bDY<|aI ([]++ν++[]) Ye<|fE (A:=[]) (ν:=ν) (B:=[]) rfl rfl rfl rfl (aZE rfl) hb.unf (fun U I=>lX b _ l ν _ hb Ya1) rfl bDY (fun _ _ _ h=>h.elim) (fun v9 D10 O I M=>aI O Ye<|Zah ?_))
 refine fun a w hh=>kF (P:=prog) (fn:=f66) (A:=[]) (ν':=O) (B:=[]) (vs:=[]) rfl rfl rfl bDY (fun D' hD=>by simpa [vH,u1,zZ,ES]using M) a w (hh.boxesEq Ye)
end L12
namespace L12
open C12 Go.Lib
def NB(x:Int):Prop:= -1000≤x∧x≤100000
def aSS(s:aN):Int×Int:=if C1.cK s.row (C1.oG s.row 0 ((s.row.places.length:Int)-1))=0 then(C1.AQ (C1.truths s.row) (0:Int).toNat ((s.row.places.length:Int)-1).toNat,C1.BB (C1.truths s.row) (0:Int).toNat ((s.row.places.length:Int)-1).toNat)else(0,0)
def MT(s:aN)(k:Nat):Int×Int:=if C2.jV s.table (C1.gW (k:Int) 0 ((s.table.levels.length:Int)-1))=0 then C2.sN s.table (s.table.levels.getD (k:Int).toNat 0)else(0,0)
def aQE(s:aN):Int:=if C2.jV s.table (C2.tJ s.table.last 0 s.table.last)=0 then C2.aXG s.table 0 s.table.last else 0
def YP(s:aN):Int×Int:=if C3.yV s.book (C1.gW (s.book.lines.length:Int) 0 (s.book.lines.length:Int))=0 then L3.LC (fun s=>s.money) s.book (s.book.lines.length:Int).toNat else(0,0)
def IT(s:aN):Int×Int:=if C3.yV s.book true=0 then L3.LC (fun s=>s.mixed) s.book s.book.lines.length else(0,0)
structure aHJ(s:aN):Prop where
 ch:NB (aSS s).1∧NB (aSS s).2
 le:NB (C1.uQ s.row)
 wet:∀k,k<s.table.levels.length→NB (MT s k).1∧NB (MT s k).2
 dry:NB (aQE s)
 lv:∀x∈(L3.eS s.book).1,NB x
 lvn:(L3.eS s.book).1.length≤100
 lev:s.table.levels.length≤6
 mon:NB (YP s).1∧NB (YP s).2
 mix:NB (IT s).1∧NB (IT s).2
 wh:NB (L7.cF s.yard).1.1∧NB (L7.cF s.yard).1.2
 su:NB (L7.oE s.yard).2.1
def r1(s:aN):List UInt8:=vH [99,104,97,105,114,115] (aSS s).1 (aSS s).2
def r2(s:aN):List UInt8:=r1 s++u1 [108,101,97,115,116] (C1.uQ s.row)
def r3(s:aN)(k:Nat):List UInt8:=r2 s++(List.range k).flatMap fun i=>vH [119,101,116] (MT s i).1 (MT s i).2
def r4(s:aN):List UInt8:=r3 s s.table.levels.length++u1 [100,114,121] (aQE s)
def r5(s:aN):List UInt8:=r4 s++[108,101,97,118,101]
def r6(s:aN)(k:Nat):List UInt8:=r5 s++((L3.eS s.book).1.take k).flatMap fun i=>32::itoa i
def r7(s:aN):List UInt8:=r6 s (L3.eS s.book).1.length++[10]
def aSZ(s:aN):List UInt8:=r7 s++vH [109,111,110,101,121] (YP s).1 (YP s).2
def r8(s:aN):List UInt8:=if(L3.eS s.book).1=[]then aSZ s++vH [109,105,120,101,100] (IT s).1 (IT s).2 else r7 s
def r9(s:aN):List UInt8:=r8 s++vH [119,104,111,108,101] (L7.cF s.yard).1.1 (L7.cF s.yard).1.2
def oK(s:aN):List UInt8:=r9 s++u1 [115,117,114,101] (L7.oE s.yard).2.1
def P3(ls:List ByteArray):List UInt8×Int:=if(aR ls).2.2=0 then(oK (aR ls).1,0)else([],(aR ls).2.2)
section
variable{s:aN}
theorem aWP:r1 s=[]++vH [99,104,97,105,114,115] (aSS s).1 (aSS s).2:=rfl
theorem aXK:r2 s=r1 s++u1 [108,101,97,115,116] (C1.uQ s.row):=rfl
theorem aWL:r4 s=r3 s s.table.levels.length++u1 [100,114,121] (aQE s):=rfl
theorem aXJ:r5 s=r4 s++[108,101,97,118,101]:=rfl
theorem aXL:r7 s=r6 s (L3.eS s.book).1.length++[10]:=rfl
theorem VX{k:Nat}:r3 s (k+1)=r3 s k++vH [119,101,116] (MT s k).1 (MT s k).2:=by unfold r3;rw[bAS,aZS,bAJ,aZD]
theorem aQM{k:Nat}{x:Int}(h:(L3.eS s.book).1[k]?= some x):r6 s (k+1)=r6 s k++((⟨#[32]⟩:ByteArray)++zZ (itoa x)).data.toList:=by
 unfold r6;rw[aZG,h]
 simp[zZ]
theorem aVZ(h:(L3.eS s.book).1=[]):r8 s=aSZ s++vH [109,105,120,101,100] (IT s).1 (IT s).2:=aZK h
theorem aXD(h:(L3.eS s.book).1≠[]):r8 s=r7 s:=aZB h
theorem wH(s:aN):oK s≠[]:=by unfold oK u1;simp
theorem yR{w:List UInt8}{lo hi:Int}(h:NB lo∧NB hi):(vH w lo hi).length≤w.length+18:=by
 have h1:=lL h.1.1 h.1.2;have h2:=lL h.2.1 h.2.2
 simp only[vH,aYS,aYW,bAP];omega
theorem TT{w:List UInt8}{n:Int}(h:NB n):(u1 w n).length≤w.length+9:=by
 have h1:=lL h.1 h.2;simp only[u1,aYS,aYW,bAP];omega
variable(h:aHJ s)
include h
theorem aJC:(r1 s).length≤30:=by have:=yR (w:=[99,104,97,105,114,115]) h.ch;unfold r1;simp only[aYW,bAP]at this;omega
theorem aVH:(r2 s).length≤60:=by have:=TT (w:=[108,101,97,115,116]) h.le;have h1:=aJC h;unfold r2;simp only[aYW,bAP]at this;rw[aYS];omega
theorem GC:∀k,k≤s.table.levels.length→(r3 s k).length≤60+30*k
 |0,_=>by have:=aVH h;unfold r3;simpa using this
 |k+1,hk=>by
  have:=GC k Yd;have h2:=yR (w:=[119,101,116]) (h.wet k Yd);rw[VX,aYS];simp only[aYW,bAP]at h2;omega
theorem aHM:(r4 s).length≤300:=by have h1:=GC h _ (aZL _);have h0:=h.lev;have:=TT (w:=[100,114,121]) h.dry;unfold r4;simp only[aYW,bAP]at this;rw[aYS];omega
theorem aTU:(r5 s).length≤310:=by have h1:=aHM h;unfold r5;rw[aYS];simp only[aYW,bAP];omega
theorem PT(k:Nat):(r6 s k).length≤1200:=by
 have h1:=aTU h;have key:∀l:List Int,(∀x∈l,NB x)→(l.flatMap fun i=>32::itoa i).length≤8*l.length:=by
  intro l;induction l with
  |nil=>intro _;simp
  |cons a l ih=>
   intro hl;have h1:=lL (hl a Ye).1 (hl a Ye).2;have h2:=ih fun x hx=>hl x (by simp[hx])
   rw[bAC,aYS];simp only[aYW];omega
 have h2:=key ((L3.eS s.book).1.take k) fun x hx=>h.lv x (bDU hx)
 have h3:=h.lvn;have h4:((L3.eS s.book).1.take k).length≤100:=by rw[bBI];omega
 unfold r6;rw[aYS];omega
theorem PO:(r7 s).length≤1300:=by have h1:=PT h (L3.eS s.book).1.length;unfold r7;rw[aYS];simp only[aYW,bAP];omega
theorem TX:(aSZ s).length≤1400:=by have h1:=PO h;have:=yR (w:=[109,111,110,101,121]) h.mon;unfold aSZ;simp only[aYW,bAP]at this;rw[aYS];omega
theorem QR:(r8 s).length≤1500:=by
 unfold r8;split
 ·have h1:=TX h;have:=yR (w:=[109,105,120,101,100]) h.mix;simp only[aYW,bAP]at this;rw[aYS];omega
 ·have h1:=PO h;omega
theorem aFR:(r9 s).length≤1600:=by have h1:=QR h;have:=yR (w:=[119,104,111,108,101]) h.wh;unfold r9;simp only[aYW,bAP]at this;rw[aYS];omega
end
theorem DX{x:Int}(h:NB x):((⟨#[32]⟩:ByteArray)++zZ (itoa x)).size≤10:=by
 have:=lL h.1 h.2;rw[bCL,y0,yD];simp only[aZV,aYW,bAP];omega
theorem B9{b:Nat}{l:List UInt8}{ν B:aD}{h0:H0}{lo:Nat}{D0 D:aC}{w:World}(h:eT b l ν)(hl:l≠[])(hs:iD h0 lo D0 [] (ν++B) D w):IsBuilder 137 5 (max 1 h0.size) b (byteCells l) w∧max 1 h0.size≤w.heap.size:=by
 obtain⟨p,v,ν1,rfl,hp,ha,hcb⟩:=h;have hlen:0<l.length:=bBY.2 hl;obtain⟨g,cap,junk,rfl,hcap,rfl,h1,h2⟩:=ha.some hlen;obtain⟨G,I,M⟩:=hs.box _ (aYX _ LT);obtain⟨g1,g2,g3⟩:=hs.box _ (aYX _ (n5 _ LT));have hlo:=hs.hlo;have kb:=hs.agr.ne0 I;have gb:=hs.agr.ne0 g2
 have hk:lo≤b:=M.resolve_right Ye;have hg:lo≤g:=g3.resolve_right Ye;have hne:g≠b:=fun e=>by
  have:=hs.nd;simp[e]at this
 have hat:BuilderAt 137 5 (max 1 h0.size) b (.pointer p) (byteCells l) w:=by
  refine⟨by omega,_,G,⟨by rw[byteCells_length];omega,aYZ ⟨g,cap,(bc l++junk).toArray,by rw[byteCells_length],by omega,g1,by rw[byteCells_length];exact hcap,hcb _ _ _ rfl,by simpa using h2,?_⟩⟩,by simp[Value.ownBlock];exact hne⟩;rw[byteCells_length];show(bc l++junk).take (l.length*1)=bc l;rw[←h1,bDN]
 refine⟨?_,?_⟩
 ·rcases hp with rfl|rfl
  ·exact aZE hat
  ·exact aYZ hat
 ·have:=bH G;omega
theorem aBS(lv:Value)(ls:List ByteArray)(D:aC)(hS:Sl D RS 1 lv ls)(hV:mF D)(hR0:(aR ls).2.2=0→aHJ (aR ls).1):Fn prog 24 #[lv] D (fun _ v=>v=.tuple #[.string (zZ (P3 ls).1),qI (P3 ls).2]):=by
 refine Zs 175 func24 rfl (fun h0=>aA<|Zg rfl<|Zg rfl<|aL<|Za rfl<|Zv rfl (fun D1 hD1=>Q1 _ ls _ (hS.up RS.up (hD1 _ Ye)) (hV.up (hD1 _ Ye))) (fun v1 D1 hD1 hp1=>?_));obtain⟨w1,w2,rfl,⟨pv,cv,hv,lv,mv,bl,bc,yc,yq,rfl,hL⟩,hes⟩:=hp1;have hpl7:(aR ls).1.row.places.length≤7:=x5 ls;have hln8:(aR ls).1.book.lines.length≤8:=s3 ls;unfold dO;refine Za rfl<|Zaf rfl<|Zaf rfl<|Zaf rfl<|Zx rfl oL rfl (fun q1=>bD rfl rfl rfl rfl dX Ya Ya (bR.head) (iU hL) bDY<|Zg rfl<|Zg rfl<|bJ<|Za rfl<|Zak rfl<|aF ?_);refine Zz rfl (fun hc1=>?_) (fun hc1=>?_)
 ·have hf:(aR ls).2.2≠0:=by simpa using hc1
  refine aA<|Za rfl<|Zg rfl<|Zg rfl<|aG<|Zap ?_;exact cS (vs:=[_,_]) rfl rfl rfl cQ (fun D hD=>by unfold P3;rw[aZB hf];rfl)
 ·have hf:(aR ls).2.2=0:=by simpa using hc1
  have hR:=hR0 hf;have hlev6:=hR.lev;have hlvn:=hR.lvn;refine aT<|aA<|Zx rfl aMD rfl (fun q2=>aL<|Zao rfl<|Zg rfl<|aL<|Zao rfl<|Zg rfl<|bT ?_);have hY:eT q2 [] [(q2,qC [.pointer none,qN] 137)]:=⟨none,_,[],rfl,aZE rfl,bS.nil,e6 Yy⟩
  refine aU<|Zh rfl dC rfl<|dM rfl kD jX rfl Mm1 rfl rfl n3 rfl bDY<|Zh rfl dC rfl<|Zh rfl eB rfl<|Zm rfl dN rfl Mm1 rfl<|Zab rfl U25 rfl (hL.pl.up RI.up (Le.refl _)) rfl<|Zan rfl<|Zc rfl (fun D2 hD2=>p8 _ (aR ls).1.row 0 (((aR ls).1.row.places.length:Int)-1) _ (hL.row.up (hD2 _ Ye)))<|Za rfl<|Zaf rfl<|Zaf rfl ?_;refine Zx rfl oA rfl (fun q3=>Zt rfl gY (bR.head)<|Zg rfl<|aL<|Za rfl<|Zh rfl L6 rfl<|Zm rfl aJ rfl Mm0 rfl<|Zh rfl K9 rfl<|Zm rfl aJ rfl Mm0 rfl<|o9 (List.Sublist.cons _ Mm5)<|fE (A:=[]) (ν:=[(q2,_)]) (B:=[(q1,_)]) rfl rfl rfl rfl (aZE rfl) hY.unf (fun D20 hD20=>zQ ⟨#[99,104,97,105,114,115]⟩ (aSS (aR ls).1).1 (aSS (aR ls).1).2 q2 ([]) [(q2,_)] _ (hV.up (hD20 _ Ye)) Yy hR.ch.1 hR.ch.2 hY (by have:=(show([]:List UInt8).length≤0 from aZL 0);omega)) rfl bDY (fun _ _ _ h=>h.elim) (fun v20 D21 hJ hD21 I=>aI ((hJ++[(q1,qC (dO (aR ls).1 pv cv hv lv mv bl bc yc yq) 42)])) rfl ?_))
  replace I:eT q2 (r1 (aR ls).1) hJ:=by first|exact I|(rw[aWP];exact I)|(simpa [r1]using I)
  refine aL<|Zh rfl dC rfl<|dM rfl kD jX rfl (GE _ Mm0) rfl rfl n3 rfl bDY<|Zc rfl (fun D3 hD3=>L1.aEC _ (aR ls).1.row _ (hL.row.up (hD3 _ Ye)))<|Za rfl<|Zaf rfl<|Zaf rfl<|Zg rfl<|Zg rfl<|aL<|Za rfl<|Za rfl ?_;refine fE (A:=[]) (ν:=hJ) (B:=[(q1,_)]) rfl rfl rfl rfl (aZE rfl) I.unf (fun D22 hD22=>HF ⟨#[108,101,97,115,116]⟩ (C1.uQ (aR ls).1.row) q2 (r1 (aR ls).1) hJ _ (hV.up (hD22 _ Ye)) Yy hR.le I (by have:=aJC hR;omega)) rfl bDY (fun _ _ _ h=>h.elim) (fun v22 D23 ν22 hD23 Z=>aI ((ν22++[(q1,qC (dO (aR ls).1 pv cv hv lv mv bl bc yc yq) 42)])) rfl ?_)
  replace Z:eT q2 (r2 (aR ls).1) ν22:=by first|exact Z|(rw[aXK];exact Z)|(simpa [r2]using Z)
  refine bJ<|Zh rfl bN rfl<|Zh rfl gR rfl<|Zm rfl dN rfl (GE _ Mm0) rfl<|Zab rfl U25 rfl (hL.lev.up RI.up (Le.refl _)) rfl<|Za rfl<|aF<|Zar<|dD (γ:=Nat×aD) (fun g=>(aR ls).1.table.levels.length-g.1) (fun g=>g.1≤(aR ls).1.table.levels.length∧eT q2 (r3 (aR ls).1 g.1) g.2) (fun g=>[(73,qI (g.1:Int))]) [(72,_),(9,_),(8,_),(7,_),(4,_),(3,_),(2,_)] (fun g=>g.2++[(q1,qC (dO (aR ls).1 pv cv hv lv mv bl bc yc yq) 42)]) (fun g=>[D23,D21,D1,D]) (0,ν22) ⟨by simp,by simpa [r3]using Z⟩ ⟨Yb,bDY⟩ cQ Mm5 (aH) ?_;rintro⟨k,ν⟩ ⟨h1,hbv⟩;simp only at h1 hbv;refine aA<|Zai rfl<|bT<|Zz rfl (fun hc2=>?_) (fun hc2=>?_)
  ·simp only at hc2;have hkl:k<(aR ls).1.table.levels.length:=by omega
   refine aT<|aS<|Zar<|aA<|Za rfl<|Zg rfl<|aL<|Zh rfl bN rfl<|dM rfl iI gT rfl (GE _ Mm0) rfl rfl n3 rfl bDY<|Za rfl<|Zc rfl (fun D4 hD4=>L2.KH _ (aR ls).1.table (k:Int) _ (hL.table.up (hD4 _ Ye)))<|Za rfl ?_;refine Zaf rfl<|Zaf rfl<|Zx rfl iH rfl (fun q4=>Zt rfl cB (bR.head)<|Zg rfl<|aF<|aU<|Za rfl<|Zh rfl mR rfl<|Zm rfl aJ rfl Mm0 rfl<|Zh rfl oO rfl<|Zm rfl aJ rfl Mm0 rfl ?_);refine o9 (List.Sublist.cons _ Mm5)<|fE (A:=[]) (ν:=ν) (B:=[(q1,_)]) rfl rfl rfl rfl (aZE rfl) hbv.unf (fun D24 hD24=>zQ ⟨#[119,101,116]⟩ (MT (aR ls).1 k).1 (MT (aR ls).1 k).2 q2 (r3 (aR ls).1 k) ν _ (hV.up (hD24 _ Ye)) Yy (hR.wet k hkl).1 (hR.wet k hkl).2 hbv (by have:=GC hR (k) Yd;omega)) rfl bDY (fun _ _ _ h=>h.elim) (fun v24 D25 ν24 hD25 hF=>aI ((ν24++[(q1,qC (dO (aR ls).1 pv cv hv lv mv bl bc yc yq) 42)])) rfl ?_)
   replace hF:eT q2 (r3 (aR ls).1 (k+1)) ν24:=by rw[VX];exact hF
   refine Zah<|Zat<|Zaq<|aU<|Zaa rfl<|Za rfl<|Zah ?_;exact aK 21 (k+1,ν24) ⟨by simp only;omega,hF⟩ Ym ⟨Yb,bDY⟩ rfl rfl Mm5 (fun D h=>⟨D,aZJ _ (h),Le.refl D⟩)
  ·obtain rfl:k=(aR ls).1.table.levels.length:=by simp only at hc2;omega
   refine aW<|Zas<|Zas<|Zav<|Zaq<|aA<|Zh rfl bN rfl<|dM rfl iI gT rfl (GE _ Mm0) rfl rfl n3 rfl bDY<|Zh rfl bN rfl<|Zh rfl jU rfl<|Zm rfl aJ rfl (GE _ Mm0) rfl<|Zc rfl (fun D5 hD5=>L2.aTX _ (aR ls).1.table 0 (aR ls).1.table.last _ (hL.table.up (hD5 _ Ye))) ?_;refine Za rfl<|Zaf rfl<|Zaf rfl<|Zg rfl<|Zg rfl<|aL<|Za rfl<|Za rfl<|fE (A:=[]) (ν:=ν) (B:=[(q1,_)]) rfl rfl rfl rfl (aZE rfl) hbv.unf (fun D26 hD26=>HF ⟨#[100,114,121]⟩ (aQE (aR ls).1) q2 (r3 (aR ls).1 (aR ls).1.table.levels.length) ν _ (hV.up (hD26 _ Ye)) Yy hR.dry hbv (by have:=GC hR ((aR ls).1.table.levels.length) Yd;omega)) rfl bDY (fun _ _ _ h=>h.elim) (fun v26 D27 hK hD27 M=>aI ((hK++[(q1,qC (dO (aR ls).1 pv cv hv lv mv bl bc yc yq) 42)])) rfl ?_)
   replace M:eT q2 (r4 (aR ls).1) hK:=by first|exact M|(rw[aWL];exact M)|(simpa [r4]using M)
   refine aL<|fE (A:=[]) (ν:=hK) (B:=[(q1,_)]) rfl rfl rfl rfl (aZE rfl) M.unf (fun D28 hD28=>lX q2 ⟨#[108,101,97,118,101]⟩ (r4 (aR ls).1) hK _ M (by have:=aHM hR;have hz:=(show(⟨#[108,101,97,118,101]⟩:ByteArray).size=5 from rfl);omega)) rfl bDY (fun _ _ _ h=>h.elim) (fun v28 D29 ν28 hD29 hB=>aI ((ν28++[(q1,qC (dO (aR ls).1 pv cv hv lv mv bl bc yc yq) 42)])) rfl ?_);replace hB:eT q2 (r5 (aR ls).1) ν28:=by first|exact hB|(rw[aXJ];exact hB)|(simpa [r5]using hB)
   refine aL<|Zh rfl eL rfl<|dM rfl fG eK rfl (GE _ Mm0) rfl rfl n3 rfl bDY<|Zv rfl (fun D6 hD6=>L3.aKD _ (aR ls).1.book _ (hL.book.up (hD6 _ Ye))) (fun v6 D6 hD6 hp6=>?_);obtain⟨lvv,rfl,hlv⟩:=hp6;obtain⟨lva,lvc,rfl⟩:=hlv.shape;refine Za rfl<|Zaf rfl<|Zaf rfl<|Zg rfl<|Zg rfl<|bJ<|Za rfl<|Zab rfl U25 rfl hlv rfl<|Za rfl<|aF<|Zar<|dD (γ:=Nat×aD) (fun g=>(L3.eS (aR ls).1.book).1.length-g.1) (fun g=>g.1≤(L3.eS (aR ls).1.book).1.length∧eT q2 (r6 (aR ls).1 g.1) g.2) (fun g=>[(111,qI (g.1:Int))]) [(110,_),(109,_),(19,_),(9,_),(8,_),(7,_),(4,_),(3,_),(2,_)] (fun g=>g.2++[(q1,qC (dO (aR ls).1 pv cv hv lv mv bl bc yc yq) 42)]) (fun g=>[D6,D29,D27,D23,D21,D1,D]) (0,ν28) ⟨by simp,by simpa [r6]using hB⟩ ⟨Yb,bDY⟩ cQ Mm5 (aH) ?_;rintro⟨k,ν⟩ ⟨h1,hbv⟩;simp only at h1 hbv;refine aA<|Zai rfl<|bT<|Zz rfl (fun hc3=>?_) (fun hc3=>?_)
   ·simp only at hc3;have hkl:k<(L3.eS (aR ls).1.book).1.length:=by omega
    obtain⟨x,hx⟩:∃x,(L3.eS (aR ls).1.book).1[k]?= some x:=⟨_,aYU hkl⟩
    refine aT<|aS<|Zar<|aA<|jZ rfl hlv rfl hx (fun b1 o1=>Zg rfl<|aF<|aU<|Za rfl<|Zc rfl (fun D7 hD7=>M7 x (by have:=hR.lv x (LE hx);unfold NB at this;simp only[uN];omega) _ (hV.up (hD7 _ Ye)))<|kS rfl rfl rfl (by have:=DX (hR.lv x (LE hx));rw[bCL]at this;omega) rfl bDY<|fE (A:=[]) (ν:=ν) (B:=[(q1,_)]) rfl rfl rfl rfl (aZE rfl) hbv.unf (fun D30 hD30=>lX q2 ((⟨#[32]⟩:ByteArray)++zZ (itoa x)) (r6 (aR ls).1 k) ν _ hbv (by have:=PT hR (k);have hz:=(DX (hR.lv x (LE hx)));omega)) rfl bDY (fun _ _ _ h=>h.elim) (fun v30 D31 ν30 hD31 hH=>?_));refine aI ((ν30++[(q1,qC (dO (aR ls).1 pv cv hv lv mv bl bc yc yq) 42)])) rfl ?_;replace hH:eT q2 (r6 (aR ls).1 (k+1)) ν30:=by rw[aQM hx];exact hH
    refine Zah<|Zat<|Zaq<|aU<|Zaa rfl<|Za rfl<|Zah ?_;exact aK 11 (k+1,ν30) ⟨by simp only;omega,hH⟩ Ym ⟨Yb,bDY⟩ rfl rfl Mm5 (fun D h=>⟨D,aZJ _ (h),Le.refl D⟩)
   ·obtain rfl:k=(L3.eS (aR ls).1.book).1.length:=by simp only at hc3;omega
    refine aW<|Zas<|Zas<|Zav<|Zaq<|aA<|fE (A:=[]) (ν:=ν) (B:=[(q1,_)]) rfl rfl rfl rfl (aZE rfl) hbv.unf (fun D32 hD32=>lX q2 ⟨#[10]⟩ (r6 (aR ls).1 (L3.eS (aR ls).1.book).1.length) ν _ hbv (by have:=PT hR ((L3.eS (aR ls).1.book).1.length);have hz:=(show(⟨#[10]⟩:ByteArray).size=1 from rfl);omega)) rfl bDY (fun _ _ _ h=>h.elim) (fun v32 D33 hI hD33 G=>aI ((hI++[(q1,qC (dO (aR ls).1 pv cv hv lv mv bl bc yc yq) 42)])) rfl ?_);replace G:eT q2 (r7 (aR ls).1) hI:=by first|exact G|(rw[aXL];exact G)|(simpa [r7]using G)
    refine bJ<|Za rfl<|Zab rfl U25 rfl hlv rfl<|Zam rfl<|aF<|Zz rfl (fun hc4=>?_) (fun hc4=>?_)
    ·have hl0:(L3.eS (aR ls).1.book).1=[]:=bDL Yd;refine aA<|Zh rfl eL rfl<|dM rfl fG eK rfl (GE _ Mm0) rfl rfl n3 rfl bDY<|Zh rfl eL rfl<|Zh rfl cE rfl<|Zm rfl fA rfl (GE _ Mm0) rfl<|Zab rfl U33 rfl (hL.ln.up tN.up (Le.refl _)) rfl<|Zc rfl (fun D8 hD8=>L3.R5 _ (aR ls).1.book ((aR ls).1.book.lines.length:Int) _ (hL.book.up (hD8 _ Ye)))<|Za rfl<|Zaf rfl<|Zaf rfl<|Zx rfl nN rfl (fun q5=>?_);refine Zt rfl eG (bR.head)<|Zg rfl<|aL<|Zh rfl eL rfl<|dM rfl fG eK rfl (List.Mem.tail _ (GE _ Mm0)) rfl rfl n3 rfl bDY<|Zc rfl (fun D9 hD9=>L3.aEG _ (aR ls).1.book _ (hL.book.up (hD9 _ Ye)))<|Za rfl<|Zaf rfl<|Zaf rfl<|Zx rfl nN rfl (fun q6=>Zt rfl eG (bR.head)<|Zg rfl ?_);refine aL<|Za rfl<|Zh rfl vW rfl<|Zm rfl aJ rfl Mm1 rfl<|Zh rfl vG rfl<|Zm rfl aJ rfl Mm1 rfl<|fE (A:=[(_,_),(_,_)]) (ν:=hI) (B:=[(q1,_)]) rfl rfl rfl rfl (aZE rfl) G.unf (fun D34 hD34=>zQ ⟨#[109,111,110,101,121]⟩ (YP (aR ls).1).1 (YP (aR ls).1).2 q2 (r7 (aR ls).1) hI _ (hV.up (hD34 _ Ye)) Yy hR.mon.1 hR.mon.2 G (by have:=PO hR;omega)) rfl bDY (fun _ _ _ h=>h.elim) (fun v34 D35 hM hD35 O=>aI ((q6,_)::(q5,_)::(hM++[(q1,qC (dO (aR ls).1 pv cv hv lv mv bl bc yc yq) 42)])) rfl ?_)
     replace O:eT q2 (aSZ (aR ls).1) hM:=by first|exact O|(rw[r7m_eq];exact O)|(simpa [aSZ]using O)
     refine aF<|aU<|Za rfl<|Zh rfl vW rfl<|Zm rfl aJ rfl Mm0 rfl<|Zh rfl vG rfl<|Zm rfl aJ rfl Mm0 rfl<|o9 (List.Sublist.cons _ (List.Sublist.cons _ Mm5))<|fE (A:=[]) (ν:=hM) (B:=[(q1,_)]) rfl rfl rfl rfl (aZE rfl) O.unf (fun D36 hD36=>zQ ⟨#[109,105,120,101,100]⟩ (IT (aR ls).1).1 (IT (aR ls).1).2 q2 (aSZ (aR ls).1) hM _ (hV.up (hD36 _ Ye)) Yy hR.mix.1 hR.mix.2 O (by have:=TX hR;omega)) rfl bDY (fun _ _ _ h=>h.elim) (fun v36 D37 hN hD37 hE=>aI ((hN++[(q1,qC (dO (aR ls).1 pv cv hv lv mv bl bc yc yq) 42)])) rfl ?_);replace hE:eT q2 (r8 (aR ls).1) hN:=by rw[aVZ hl0];exact hE
     refine aL<|Zh rfl dL rfl<|dM rfl jC iO rfl (GE _ Mm0) rfl rfl n3 rfl bDY<|Zc rfl (fun D10 hD10=>L7.pI _ (aR ls).1.yard _ (hL.yard.up (hD10 _ Ye)))<|Za rfl<|Zaf rfl<|Zaf rfl<|Zx rfl kG rfl (fun q7=>Zt rfl cU (bR.head)<|Zg rfl<|aL<|Za rfl ?_);refine Zh rfl qJ rfl<|Zm rfl aJ rfl Mm0 rfl<|Zh rfl qT rfl<|Zm rfl aJ rfl Mm0 rfl<|o9 (List.Sublist.cons _ Mm5)<|fE (A:=[]) (ν:=hN) (B:=[(q1,_)]) rfl rfl rfl rfl (aZE rfl) hE.unf (fun D38 hD38=>zQ ⟨#[119,104,111,108,101]⟩ ((L7.cF (aR ls).1.yard).1).1 ((L7.cF (aR ls).1.yard).1).2 q2 (r8 (aR ls).1) hN _ (hV.up (hD38 _ Ye)) Yy hR.wh.1 hR.wh.2 hE (by have:=QR hR;omega)) rfl bDY (fun _ _ _ h=>h.elim) (fun v38 D39 hO hD39 R=>aI ((hO++[(q1,qC (dO (aR ls).1 pv cv hv lv mv bl bc yc yq) 42)])) rfl ?_)
     replace R:eT q2 (r9 (aR ls).1) hO:=by first|exact R|(rw[r9_eq];exact R)|(simpa [r9]using R)
     refine aL<|Zh rfl dL rfl<|dM rfl jC iO rfl (GE _ Mm0) rfl rfl n3 rfl bDY<|Zv rfl (fun D11 rA=>L7.XA _ (aR ls).1.yard _ (hL.yard.up (rA _ Ye))) (fun v11 D11 rA hp11=>?_);obtain⟨suv,rfl,hsu⟩:=hp11;refine Za rfl<|Zaf rfl<|Zaf rfl<|Zaf rfl<|Zg rfl<|Zg rfl<|Zg rfl<|aL<|Za rfl<|Za rfl<|fE (A:=[]) (ν:=hO) (B:=[(q1,_)]) rfl rfl rfl rfl (aZE rfl) R.unf (fun D40 hD40=>HF ⟨#[115,117,114,101]⟩ ((L7.oE (aR ls).1.yard).2.1) q2 (r9 (aR ls).1) hO _ (hV.up (hD40 _ Ye)) Yy hR.su R (by have:=aFR hR;omega)) rfl bDY (fun _ _ _ h=>h.elim) (fun v40 D41 ν40 hD41 U=>aI ((ν40++[(q1,qC (dO (aR ls).1 pv cv hv lv mv bl bc yc yq) 42)])) rfl ?_)
     replace U:eT q2 (oK (aR ls).1) ν40:=by first|exact U|(rw[reportL_eq];exact U)|(simpa [oK]using U)
     refine aL<|y4 (post:=fun r=>r=.string (zZ (oK (aR ls).1))) rfl rfl rfl rfl (EF.of func72 rfl rfl) (fun D w hw=>(Go.Proofs.Tryz.Builder_String_any (max 1 h0.size) q2 (oK (aR ls).1) w (B9 U (wH _) hw).1 (B9 U (wH _) hw).2).mono ?_) rfl bDY (fun r hr=>?_)
     ·rintro e w1 ⟨rfl,hbl⟩;exact⟨_,rfl,hbl,rfl⟩
     subst hr;refine Zg rfl<|Zg rfl<|aG ?_;exact cS (vs:=[_,_]) rfl rfl rfl cQ (fun D hD=>by unfold P3;rw[aZK hf];rfl)
    ·have hl0:(L3.eS (aR ls).1.book).1≠[]:=fun h=>hc4 (by rw[h];rfl)
     have hb8:eT q2 (r8 (aR ls).1) hI:=by rw[aXD hl0];exact G
     refine aT<|aA<|Zh rfl dL rfl<|dM rfl jC iO rfl (GE _ Mm0) rfl rfl n3 rfl bDY<|Zc rfl (fun D12 hD12=>L7.pI _ (aR ls).1.yard _ (hL.yard.up (hD12 _ Ye)))<|Za rfl<|Zaf rfl<|Zaf rfl<|Zx rfl kG rfl (fun q8=>Zt rfl cU (bR.head)<|Zg rfl<|aL ?_);refine Za rfl<|Zh rfl qJ rfl<|Zm rfl aJ rfl Mm0 rfl<|Zh rfl qT rfl<|Zm rfl aJ rfl Mm0 rfl<|o9 (List.Sublist.cons _ Mm5)<|fE (A:=[]) (ν:=hI) (B:=[(q1,_)]) rfl rfl rfl rfl (aZE rfl) hb8.unf (fun D42 hD42=>zQ ⟨#[119,104,111,108,101]⟩ ((L7.cF (aR ls).1.yard).1).1 ((L7.cF (aR ls).1.yard).1).2 q2 (r8 (aR ls).1) hI _ (hV.up (hD42 _ Ye)) Yy hR.wh.1 hR.wh.2 hb8 (by have:=QR hR;omega)) rfl bDY (fun _ _ _ h=>h.elim) (fun v42 D43 hX hD43 V=>aI ((hX++[(q1,qC (dO (aR ls).1 pv cv hv lv mv bl bc yc yq) 42)])) rfl ?_)
     replace V:eT q2 (r9 (aR ls).1) hX:=by first|exact V|(rw[r9_eq];exact V)|(simpa [r9]using V)
     refine aL<|Zh rfl dL rfl<|dM rfl jC iO rfl (GE _ Mm0) rfl rfl n3 rfl bDY<|Zv rfl (fun D13 rB=>L7.XA _ (aR ls).1.yard _ (hL.yard.up (rB _ Ye))) (fun v13 D13 rB hp13=>?_);obtain⟨suv,rfl,hsu⟩:=hp13;refine Za rfl<|Zaf rfl<|Zaf rfl<|Zaf rfl<|Zg rfl<|Zg rfl<|Zg rfl<|aL<|Za rfl<|Za rfl<|fE (A:=[]) (ν:=hX) (B:=[(q1,_)]) rfl rfl rfl rfl (aZE rfl) V.unf (fun D44 hD44=>HF ⟨#[115,117,114,101]⟩ ((L7.oE (aR ls).1.yard).2.1) q2 (r9 (aR ls).1) hX _ (hV.up (hD44 _ Ye)) Yy hR.su V (by have:=aFR hR;omega)) rfl bDY (fun _ _ _ h=>h.elim) (fun v44 D45 ν44 hD45 Y=>aI ((ν44++[(q1,qC (dO (aR ls).1 pv cv hv lv mv bl bc yc yq) 42)])) rfl ?_)
     replace Y:eT q2 (oK (aR ls).1) ν44:=by first|exact Y|(rw[reportL_eq];exact Y)|(simpa [oK]using Y)
     refine aL<|y4 (post:=fun r=>r=.string (zZ (oK (aR ls).1))) rfl rfl rfl rfl (EF.of func72 rfl rfl) (fun D w hw=>(Go.Proofs.Tryz.Builder_String_any (max 1 h0.size) q2 (oK (aR ls).1) w (B9 Y (wH _) hw).1 (B9 Y (wH _) hw).2).mono ?_) rfl bDY (fun r hr=>?_)
     ·rintro e w1 ⟨rfl,hbl⟩;exact⟨_,rfl,hbl,rfl⟩
     subst hr;refine Zg rfl<|Zg rfl<|aG ?_;exact cS (vs:=[_,_]) rfl rfl rfl cQ (fun D hD=>by unfold P3;rw[aZK hf];rfl)
end L12
namespace C12
def C5:Nat→List UInt8→Nat
 |_,[]=>0
 |k,b::t=>(2*k+1)*b.toNat+C5 (k+1) t
theorem Y0:∀(a b:List UInt8) (k:Nat),C5 k (a++b)=C5 k a+C5 (k+a.length) b
 | [],b,k=>by simp[C5]
 |x::a,b,k=>by
  rw[bAW,C5,C5,Y0 a b (k+1),aYW,show k+1+a.length=k+(a.length+1) by omega,Nat.add_assoc]
theorem aBQ{l:List UInt8}{k:Nat}{b:UInt8}(h:l[k]?= some b):C5 0 (l.take (k+1))=C5 0 (l.take k)+(2*k+1)*b.toNat:=by
 have hk:k<l.length:=(aYV.1 h).1;rw[aZG,h,Y0,bBI,bCW Yd];simp[C5]
theorem TJ:∀(l:List UInt8) (k:Nat),C5 k l≤(2*(k+l.length)+1)*256*l.length
 | [],k=>by simp[C5]
 |b::l,k=>by
  have h1:=TJ l (k+1);have h2:b.toNat≤256:=by have:=b.toNat_lt;omega
  have h3:(2*k+1)*b.toNat≤(2*(k+(l.length+1))+1)*256:=Nat.mul_le_mul Yd h2;rw[C5,aYW,show k+(l.length+1)=k+1+l.length by omega,Nat.mul_succ];rw[show k+1+l.length=k+(l.length+1) by omega]at h1;rw[show k+1+l.length=k+(l.length+1) by omega];omega
def pW(i:Nat)(l:List UInt8):Nat:=(37*(i+1)+C5 0 l)%9967
theorem aDE(i:Nat)(l:List UInt8):pW i l<9967:=Nat.mod_lt _ Yy
def wG(n j:Nat):UInt8:=UInt8.ofNat (48+n / 10^j%10)
theorem aMH(n j:Nat):(wG n j).toNat=48+n / 10^j%10:=by
 unfold wG;rw[UInt8.toNat_ofNat'];have:=Nat.mod_lt (n / 10^j) (show 0<10 by decide);omega
def xP(n:Nat):List UInt8:=[wG n 3,wG n 2,wG n 1,wG n 0]
def aDR(i:Nat)(l:List UInt8):List UInt8:=[59,59,10]++xP (pW i l)
def uH(i:Nat)(l:List UInt8):List UInt8:=[wG l.length 1,wG l.length 0,59]++l++[59]++xP (pW i l)++[10]
theorem qM(i:Nat)(l:List UInt8):(uH i l).length=9+l.length:=by simp[uH,xP];omega
def jP:Nat→List (List UInt8)→List UInt8
 |_,[]=>[]
 |i,l::ls=>uH i l++jP (i+1) ls
theorem xO:∀(a b:List (List UInt8)) (i:Nat),jP i (a++b)=jP i a++jP (i+a.length) b
 | [],b,i=>by simp[jP]
 |x::a,b,i=>by
  rw[bAW,jP,jP,xO a b (i+1),aYW,aZD,show i+1+a.length=i+(a.length+1) by omega]
def xS(ls:List (List UInt8)):List UInt8:=jP 0 ls
theorem SE{ls:List (List UInt8)}{k:Nat}{l:List UInt8}(h:ls[k]?= some l):xS (ls.take (k+1))=xS (ls.take k)++uH k l:=by
 have hk:k<ls.length:=(aYV.1 h).1;unfold xS;rw[aZG,h,xO,bBI,bCW Yd];simp[jP]
theorem O1:∀(ls:List (List UInt8)) (i m:Nat),(∀l∈ls,l.length≤m)→(jP i ls).length≤(9+m)*ls.length
 | [],i,m,_=>by simp[jP]
 |l::ls,i,m,h=>by
  have h1:=O1 ls (i+1) m fun x hx=>h x (by simp[hx])
  have h2:=h l Ye;rw[jP,aYS,qM,aYW,Nat.mul_succ];omega

end C12
namespace L12
open C12 Go.Lib
theorem TK{s:ByteArray}{k:Nat}{b:UInt8}(h:s.data.toList[k]?= some b):s[k]?= some b:=by
 have hk:k<s.size:=by simpa using(aYV.1 h).1
 rw[getElem?_pos s k hk];congr 1;obtain⟨h1,h2⟩:=aYV.1 h;rw[←h2];rfl
theorem WG{s:ByteArray}{k:Nat}{b:UInt8}(h:s.data.toList[k]?= some b)(hs:s.size≤1000):0≤(2*(k:Int)+1)*(b.toNat:Int)∧(2*(k:Int)+1)*(b.toNat:Int)≤1000000:=by
 have hk:k<s.size:=by simpa using(aYV.1 h).1
 have hb:=b.toNat_lt;have h1:(2*k+1)*b.toNat≤2001*256:=Nat.mul_le_mul Yd Yd;have h2:(2*(k:Int)+1)*(b.toNat:Int)=(((2*k+1)*b.toNat:Nat):Int):=by push_cast;rfl
 rw[h2];omega
theorem aNI{s:ByteArray}{k:Nat}(hs:s.size≤1000):C5 0 (s.data.toList.take k)≤1000000000:=by
 have h:=TJ (s.data.toList.take k) 0;have hl:(s.data.toList.take k).length≤1000:=by
  rw[bBI];have:s.data.toList.length=s.size:=rfl;omega
 have h1:(2*(0+(s.data.toList.take k).length)+1)*256*(s.data.toList.take k).length≤2001*256*1000:=Nat.mul_le_mul (Nat.mul_le_mul Yd (aZL _)) hl;omega
def aWE(n k:Nat):List Value:=[if 3<k then .int .u8 (wG n 3).toNat else .int .u8 0,if 2<k then .int .u8 (wG n 2).toNat else .int .u8 0,if 1<k then .int .u8 (wG n 1).toNat else .int .u8 0,if 0<k then .int .u8 (wG n 0).toNat else .int .u8 0]
theorem aGX{n k:Nat}(hk:k<4):(aWE n k).take (((3:Int)-(k:Int)).toNat)++[.int .u8 (48+((n / 10^k:Nat):Int)%10)]++(aWE n k).drop (((3:Int)-(k:Int)).toNat+ [Value.int .u8 (48+((n / 10^k:Nat):Int)%10)].length)=aWE n (k+1):=by
 have e:Value.int .u8 (48+((n / 10^k:Nat):Int)%10)=.int .u8 ((wG n k).toNat:Int):=by rw[aMH];rfl
 rw[e];obtain rfl|rfl|rfl|rfl:k=0∨k=1∨k=2∨k=3:=by omega
 all_goals rfl
theorem aJU(i:Nat)(s:ByteArray)(hi:i≤100000)(hs:s.size≤1000)(D:aC):Fn prog 356 #[qI (i:Int),.string s] D (fun _ v=>v=qI ((pW i s.data.toList:Nat):Int)):=by
 refine Zs 28 func356 rfl (fun h0=>aA<|Zg rfl<|aL<|Za rfl<|Zaa rfl<|k9 rfl rfl rfl Yf rfl bDY<|Zg rfl<|bJ<|Za rfl<|iZ rfl U9 rfl rfl rfl bDY<|Za rfl ?_);refine aF<|Zar<|gX (γ:=Nat) (fun k=>s.size-k) (fun k=>k≤s.size) (fun k=>[(12,qI (k:Int)),(5,qI ((37*(i+1)+C5 0 (s.data.toList.take k):Nat):Int))]) [(11,_),(4,_),(1,_)] (fun k=>[D]) 0 Yd ⟨Yb,(by show some (Value.int _ _)=some (Value.int _ _);congr 2),bDY⟩ cQ (aH) ?_
 rintro k hI;refine aA<|Zai rfl<|bT<|Zz rfl (fun G=>?_) (fun G=>?_)
 ·have hk:k<s.size:=by omega
  obtain⟨b,hb⟩:∃b,s.data.toList[k]?= some b:=⟨_,aYU (by simpa using hk)⟩
  have I:=b.toNat_lt;refine aT<|aS<|Zar<|aA<|Za rfl<|Zg rfl<|aF<|aU<|Za rfl<|Za rfl<|k9 rfl rfl rfl Yf rfl bDY<|Zaa rfl ?_;refine Za rfl<|Za rfl<|pU rfl U9 rfl rfl Yd Yas rfl bDY<|tO rfl U5 U3 rfl Yf rfl bDY<|k9 rfl rfl rfl (by have:=WG hb hs;simp only[uN];omega) rfl bDY<|y7 rfl rfl rfl (by have:=WG hb hs;have:=aNI (s:=s) (k:=k) hs;simp only[uN];omega) rfl bDY<|Zg rfl<|Zah<|Zat<|Zaq<|aU<|Zaa rfl ?_;refine Za rfl<|Zah ?_;exact aK 18 (k+1) Yd Yd ⟨Yb,(by show some (Value.int _ _)=some (Value.int _ _);congr 2;rw[aBQ hb];push_cast;rw[Int.add_assoc]),bDY⟩ rfl rfl Mm5 (aH)
 ·obtain rfl:k=s.size:=by omega
  rw[aZP (show s.data.toList.length≤s.size by simp)];refine aW<|Zas<|Zas<|Zav<|Zaq<|aA<|Za rfl<|G1 rfl rfl rfl Yd Yd Yf rfl bDY<|Zg rfl<|aG ?_;exact aE rfl (fun D hD=>by show Value.int _ _=_;congr 1)
theorem XE(n:Nat)(hn:n≤1000000)(D:aC):Fn prog 299 #[qI (n:Int)] D (fun _ v=>v=.agg (bc (xP n)).toArray):=by
 refine Zs 18 func299 rfl (fun h0=>aA<|Zx rfl WX rfl (fun q1=>bJ<|Za rfl<|aF<|Zar<|dD (γ:=Nat) (fun k=>4-k) (fun k=>k≤4) (fun k=>[(4,qI (k:Int)),(0,qI ((n / 10^k:Nat):Int))]) [(2,_)] (fun k=>[(q1,qC (aWE n k) 414)]) (fun k=>[D]) 0 Yd ⟨Yb,(by show some (Value.int _ _)=some (Value.int _ _);congr 2;simp),bDY⟩ ⟨rfl,bDY⟩ Mm5 (aH) ?_));rintro k hI;refine aA<|Zai rfl<|bT<|Zz rfl (fun G=>?_) (fun G=>?_)
 ·have hk:k<4:=by omega
  have hq:n / 10^k≤n:=Nat.div_le_self _ _;have I:(0:Int)≤((n / 10^k:Nat):Int):=Int.natCast_nonneg _;refine aT<|aS<|Zar<|aA<|Za rfl<|Zg rfl<|aL<|Za rfl<|Zan rfl<|Za rfl<|G1 rfl rfl rfl Yd Yd Yf rfl bDY<|Zaa rfl ?_;refine tO rfl U3 U5 rfl Yf rfl bDY<|eM rfl U414 kM rfl rfl Yd Yd rfl bDY<|bG (ws:=aWE n (k+1)) rfl rfl rfl rfl kM .head (by simp[aWE]<;>omega) (aGX hk) Yk bDY<|aF<|aU<|Za rfl<|KO rfl rfl rfl Yd Yd Yf rfl bDY<|Zg rfl<|Zah<|Zat<|Zaq<|aU ?_;refine Zaa rfl<|Za rfl<|Zah ?_;exact aK 17 (k+1) Yd Yd ⟨Yb,(by show some (Value.int _ _)=some (Value.int _ _);congr 2;rw[Nat.pow_succ,←Nat.div_div_eq_div_mul];rfl),bDY⟩ rfl rfl Mm5 (aH)
 ·obtain rfl:k=4:=by omega
  refine aW<|Zas<|Zas<|Zav<|Zaq<|aA<|Zy rfl VQ rfl Mm0 (by first|exact wN|(simp only[aO, *];exact wN))<|bD rfl rfl rfl rfl wN Ya Ya (bR.head) (kT (xP n)) bDY<|aG ?_;exact cS (vs:=[_]) rfl rfl rfl ⟨⟨_,_,_,rfl,Mm0,aYZ ⟨VQ,(by first|exact wN|(simp only[aZV,aO, *];exact wN)),rfl⟩⟩,bDY⟩ (fun D hD=>rfl)
theorem aAU(i:Nat)(s:ByteArray)(hi:i≤100000)(hs:s.size≤1000)(D:aC):Fn prog 298 #[qI (i:Int),.string s] D (fun _ v=>v=.agg (bc (aDR i s.data.toList)).toArray):=by
 refine Zs 11 func298 rfl (fun h0=>aA<|Zx rfl HW rfl (fun q1=>aL<|AI (cs:=[.int .u8 59,.int .u8 59,.int .u8 10]) rfl U412 kM aMJ rfl rfl rfl bDY<|Za rfl<|Za rfl<|Zc rfl (fun M G=>aJU i s hi hs _)<|Zc rfl (fun O I=>XE (pW i s.data.toList) (by have:=aDE i s.data.toList;omega) _)<|kE (cs:=[.int .u8 59,.int .u8 59,.int .u8 10,.int .u8 ((wG (pW i s.data.toList) 3).toNat:Int),.int .u8 ((wG (pW i s.data.toList) 2).toNat:Int),.int .u8 ((wG (pW i s.data.toList) 1).toNat:Int),.int .u8 ((wG (pW i s.data.toList) 0).toNat:Int)]) rfl aRQ HW rfl Yg rfl bDY<|bD rfl rfl rfl rfl d8 Ya Ya (bR.head) (kT (aDR i s.data.toList)) bDY<|aG ?_));exact cS (vs:=[_]) rfl rfl rfl ⟨⟨_,_,_,rfl,Mm0,aYZ ⟨aQI,(by first|exact d8|(simp only[aZV,aO, *];exact d8)),rfl⟩⟩,bDY⟩ (fun D hD=>rfl)
end L12
def RU:Rd UInt8:=fun _ b cs=>cs=[.int .u8 b.toNat]
theorem RU.up:RU.Up:=fun _ _ _ h=>h
theorem aRW(l:List UInt8):l.flatMap (fun b:UInt8=>[Value.int .u8 b.toNat])=bc l:=by
 induction l with
 |nil=>rfl
 |cons b l ih=>rw[bAC,ih];rfl
theorem mI.bytes{D:aC}{l:List UInt8}(h:Sl D RU 1 v l):mI D v l.length (bc l):=by
 rw[←aRW];exact mI.of (R:=RU) (fun _ _ _ h=>h) (fun _=>rfl) h
theorem aVG{l:List UInt8}{i:Nat}{b:UInt8}(h:l[i]?= some b):(bc l)[i]?= some (.int .u8 b.toNat):=by simp[bc,h]
theorem mK.bytes{D:aC}{n:Nat}{l:List UInt8}(h:mK D v n (bc l))(hn:l.length=n)(hb:n≤9223372036854775807):Sl D RU 1 v l:=
 h.sl hn hb fun i x hx=>⟨_,rfl,rfl,by
  have h1:=aVG hx;rw[bBQ,List.take_one,List.head?_drop,h1];rfl⟩
def rz(n:Nat):List Value:=List.replicate n (.int .u8 0)
theorem m3(a b:Nat):rz (a+b)=rz a++rz b:=by unfold rz;rw[List.replicate_append_replicate]
theorem H6(n:Nat):(rz n).length=n:=by simp[rz]
theorem aGZ(n:Nat):((Array.range (n*1)).map (#[Value.int .u8 0][· %(#[Value.int .u8 0]:Array Value).size]!)).toList=rz n:=by
 apply bDE;intro i;simp only[bDM,Array.toList_range,aZT,rz,List.getElem?_replicate,bBQ];by_cases hi:i<n
 ·rw[bDI hi,aZK hi];simp only[aZX];congr 1;have:i%(#[Value.int .u8 0]:Array Value).size=0:=by simp[Nat.mod_one]
  rw[this];rfl
 ·rw[bBX Yal,aZB hi];rfl
theorem aAL{A B C us:List Value}{off:Nat}(h:off=A.length)(h2:us.length=B.length):(A++B++C).take off++us++(A++B++C).drop (off+us.length)=A++us++C:=by
 subst h;have G:(A++B++C).take A.length=A:=by rw[aZD,bDN]
 have I:(A++B++C).drop (A.length+us.length)=C:=by rw[h2,←aYS,List.drop_left]
 rw[G,I]
theorem WO{t e e' tr:TypeId}{bd od n cd m k:Nat}{xv:Value}{vs us ws:List Value}{μ':aD}{ats:Array TypeId}
  (ho:all[ix]?= some ⟨some d,.call {callee:=.builtin .copy,args:=#[x,y],argTypes:=ats},tr,pos,aft,g⟩) (ht:P.underlying t=some (.slice e)) (hat:ats[0]?= some t) (hs:TS P e 1) (hx:ev σ x=some (.slice (some ⟨bd,od,none⟩) n cd)) (hy:ev σ y=some xv)
  (hsrc:∀a w,Hl X σ μ Ds a w→(Builtin.lenOf xv).run P w=.ok m w∧(Builtin.firstCells 1 k xv).run P w=.ok us.toArray w) (hk:k=Nat.min m n)
  (hm:bR μ bd (.cells vs.toArray e' (0,0)) (.cells ws.toArray e' (0,0)) μ') (hl:od+us.length≤vs.length) (hw:vs.take od++us++vs.drop (od+us.length)=ws) (G:∀u∈us,cell1 u=true) (hfl:fl=false∨bd∈bad) (hN:Nat.blt d X.N=true) (hg:dE all σ g)
  (kk:WL P X bad all K Q os ((d,qI k)::σ) μ' Ds):WL P X bad all K Q ((fl,ix)::os) σ μ Ds:=by
 refine eZ ho rfl rfl hg fun a w hh=>?_
 obtain⟨h1,h2,h3,D,h4,h5,M⟩:=id hh;obtain⟨hlen,hfc⟩:=hsrc a w hh;obtain⟨w',hr,hw'⟩:=jS (P:=P) us 0 w bd od vs e' (h4.box _ hm.mem).1 Yd G;rw[Nat.add_zero,hw]at hw';have hcp:(Builtin.copy_ ats tr #[.slice (some ⟨bd,od,none⟩) n cd,xv]).run P w=.ok (qI k) w':=by
  have I:(#[Value.slice (some ⟨bd,od,none⟩) n cd,xv]:Array Value)[0]?= some (.slice (some ⟨bd,od,none⟩) n cd):=rfl;have O:(#[Value.slice (some ⟨bd,od,none⟩) n cd,xv]:Array Value)[1]?= some xv:=rfl;unfold Builtin.copy_;simp only[hat,I,O,Sem.run_bind,TU.of ht w,Result.andThen_ok,hlen,hs w,←hk,hfc,hr,Sem.run_pure,goInt]
 have hex:(execOp a.eval ⟨some d,.call {callee:=.builtin .copy,args:=#[x,y],argTypes:=ats},tr,pos,aft,g⟩).run P w=.ok (.value (qI k)) w':=by
  simp only[execOp,resolve,pure_bind,invoke,builtin];have I:(#[x,y].map a.eval)=#[.slice (some ⟨bd,od,none⟩) n cd,xv]:=by simp[hh.eval hx,hh.eval hy]
  rw[I,Sem.run_bind,hcp];rfl
 rw[hex];have hst:=h4.set hm hw' rfl;refine⟨fun hf=>⟨by rw[hw'.1];simp,fun c hc hcb=>?_⟩,kk _ _ (Hl.put ⟨h1,h2,h3,D,hst,h5,M.step (fun _ p hp=>aZE Yar) (fun _=>kI hw' (GT.2 ⟨_,hm.mem,rfl⟩)) hst.dom⟩ hN _)⟩
 have hb:bd∈bad:=by
  rcases hfl with h|h
  ·rw[hf]at h;cases h
  ·exact h
 rw[hw'.1,bBG (by rintro rfl;exact hcb hb)]
theorem aCY{t e e' tr:TypeId}{bd od n cd:Nat}{s:ByteArray}{vs ws:List Value}{μ':aD}{ats:Array TypeId}
  (ho:all[ix]?= some ⟨some d,.call {callee:=.builtin .copy,args:=#[x,y],argTypes:=ats},tr,pos,aft,g⟩) (ht:P.underlying t=some (.slice e)) (hat:ats[0]?= some t) (hs:TS P e 1) (hx:ev σ x=some (.slice (some ⟨bd,od,none⟩) n cd)) (hy:ev σ y=some (.string s)) (hn:s.size≤n)
  (hm:bR μ bd (.cells vs.toArray e' (0,0)) (.cells ws.toArray e' (0,0)) μ') (hl:od+s.size≤vs.length) (hw:vs.take od++bc s.data.toList++vs.drop (od+(bc s.data.toList).length)=ws) (hfl:fl=false∨bd∈bad) (hN:Nat.blt d X.N=true) (hg:dE all σ g)
  (kk:WL P X bad all K Q os ((d,qI s.size)::σ) μ' Ds):WL P X bad all K Q ((fl,ix)::os) σ μ Ds:=
 WO (m:=s.size) (k:=s.size) (us:=bc s.data.toList) ho ht hat hs hx hy (fun a w _=>⟨rfl,Go.Lib.run_firstCells_string (P:=P) w 1 s⟩) (bCW hn).symm hm (by rw[lQ];exact hl) hw (kT _) hfl hN hg kk
theorem DG{t e e' I tr:TypeId}{bd od n cd bs os' m cs:Nat}{vs us ws xs:List Value}{μ':aD}{ats:Array TypeId}
  (ho:all[ix]?= some ⟨some d,.call {callee:=.builtin .copy,args:=#[x,y],argTypes:=ats},tr,pos,aft,g⟩) (ht:P.underlying t=some (.slice e)) (hat:ats[0]?= some t) (hs:TS P e 1) (hx:ev σ x=some (.slice (some ⟨bd,od,none⟩) n cd)) (hy:ev σ y=some (.slice (some ⟨bs,os',none⟩) m cs)) (hn:m≤n)
  (hsm:(bs,.cells xs.toArray I (0,0))∈μ) (hus:(xs.drop os').take m=us) (hul:us.length=m)
  (hm:bR μ bd (.cells vs.toArray e' (0,0)) (.cells ws.toArray e' (0,0)) μ') (hl:od+m≤vs.length) (hw:vs.take od++us++vs.drop (od+us.length)=ws) (G:∀u∈us,cell1 u=true) (hfl:fl=false∨bd∈bad) (hN:Nat.blt d X.N=true) (hg:dE all σ g)
  (kk:WL P X bad all K Q os ((d,qI m)::σ) μ' Ds):WL P X bad all K Q ((fl,ix)::os) σ μ Ds:=
 WO (m:=m) (k:=m) (us:=us) ho ht hat hs hx hy (fun a w hh=>⟨rfl,by
  simp only[Builtin.firstCells];have hbx:w.heap[bs]?= some (.cells xs.toArray I (0,0)):=by
   obtain⟨_,_,_,D,h4,_⟩:=hh;exact(h4.box _ hsm).1
  refine mZ (by rw[bBQ];exact hul) fun j u hj=>pX (cs:=xs.toArray) hbx ?_
  have hjl:=(aYV.1 hj).1;rw[←hus,bBL Yd,bBJ]at hj;simpa using hj⟩) (bCW hn).symm hm Yd hw G hfl hN hg kk

theorem aCM{t e:TypeId}{n b o l:Nat}{G:IntKind}{i:Int}(ho:all[ix]?= some ⟨some d,.slice t x (some y) none none,ty,pos,aft,g⟩)(ht:P.underlying t=some (.array n e))(hs:TS P e 1)(hx:ev σ x=some (.pointer (some ⟨b,o,none⟩)))
  (hy:ev σ y=some (.int G i)) (hi:i=(l:Int)) (h3:l<n)
  (hN:Nat.blt d X.N=true) (hg:dE all σ g) (kk:WL P X bad all K Q os ((d,.slice (some ⟨b,o+l,none⟩) (n-l) (n-l))::σ) μ Ds):WL P X bad all K Q ((fl,ix)::os) σ μ Ds:=by
 subst hi;refine bQ ho rfl rfl hN hg (fun ρ hρ w'=>?_) kk;simp only[execOp,hρ x _ hx,hρ y _ hy,bBA,aZX];unfold Instr.sliceAt Instr.sureAddr Instr.sliceBounds Instr.sliceBound asIntOf;have I:(0:Int)≤(l:Int)∧(l:Int)≤(n:Nat):=by omega
 simp only[Sem.run_bind,TU.of ht w',Result.andThen_ok,hs w',Sem.run_pure,pure_bind,I,bDO,bAX,bAK,bBQ];rw[aZB Yd];simp[Addr.add]
theorem ZF{t e:TypeId}{n b o:Nat}(ho:all[ix]?= some ⟨some d,.slice t x none none none,ty,pos,aft,g⟩)(ht:P.underlying t=some (.array n e))(hs:TS P e 1)(hx:ev σ x=some (.pointer (some ⟨b,o,none⟩)))(h3:Nat.beq n 0=false)
  (hN:Nat.blt d X.N=true) (hg:dE all σ g) (kk:WL P X bad all K Q os ((d,.slice (some ⟨b,o,none⟩) n n)::σ) μ Ds):WL P X bad all K Q ((fl,ix)::os) σ μ Ds:=by
 have h3':¬n=0:=fun h=>by subst h;cases h3
 refine bQ ho rfl rfl hN hg (fun ρ hρ w'=>?_) kk;simp only[execOp,hρ x _ hx,bBA];unfold Instr.sliceAt Instr.sureAddr Instr.sliceBounds;simp only[Sem.run_bind,TU.of ht w',Result.andThen_ok,hs w',Sem.run_pure,pure_bind,bBQ];simp[h3',Addr.add]
theorem aJD{t e:TypeId}{b o j n cap:Nat}{k:IntKind}(ho:all[ix]?= some ⟨some d,.slice t x (some y) none none,ty,pos,aft,g⟩)(ht:P.underlying t=some (.slice e))(hs:TS P e 1)(hx:ev σ x=some (.slice (some ⟨b,o,none⟩) n cap))(hy:ev σ y=some (.int k (j:Int)))(hj:j≤n)(hc:j<cap)
  (hN:Nat.blt d X.N=true) (hg:dE all σ g) (kk:WL P X bad all K Q os ((d,.slice (some ⟨b,o+j,none⟩) (n-j) (cap-j))::σ) μ Ds):WL P X bad all K Q ((fl,ix)::os) σ μ Ds:=by
 have ha:(if cap=j then some (⟨b,o,none⟩:Addr)else(some (⟨b,o,none⟩:Addr)).map (·.add (j*1)))=some ⟨b,o+j,none⟩:=by
  rw[aZB Yd];simp[gF]
 refine bQ ho rfl rfl hN hg (fun ρ hρ w'=>?_) kk;simp only[execOp,bBA,aZX,hρ x _ hx,hρ y _ hy];unfold Instr.sliceAt Instr.slice Instr.sliceBounds Instr.sliceBound asIntOf;have hle:(0:Int)≤(j:Int)∧(j:Int)≤(n:Nat):=by omega
 simp only[Sem.run_bind,TU.of ht w',Result.andThen_ok,Sem.run_pure,pure_bind,hs w',hle,bDO,bAX,bAK,ha]

theorem xF{t1 t2 e:TypeId}{D₁:aC}{l:List UInt8}(ho:all[ix]?= some ⟨some d,.convert t1 t2 x,ty,pos,aft,g⟩)(h1:P.underlying t1=some (.slice e))(he:P.underlying e=some (.int .u8))(h2:P.underlying t2=some .string)(hx:ev σ x=some v)(hS:Sl D₁ RU 1 v l)(hD:D₁∈Ds)
  (hbad:∀b o c,v=.slice (some ⟨b,o,none⟩) l.length c→l≠[]→b∉bad) (hN:Nat.blt d X.N=true) (hg:dE all σ g) (kk:WL P X bad all K Q os ((d,.string ⟨l.toArray⟩)::σ) μ Ds):WL P X bad all K Q ((fl,ix)::os) σ μ Ds:=
 nE ho rfl rfl hN hg (fun a w hh w' hk=>by
  have key:(Go.convert t1 t2 v).run P w'=.ok (.string ⟨l.toArray⟩) w':=by
   obtain⟨ad,cap,rfl,I,M,G⟩:=hS;rcases G with G|⟨b,o,rfl,G⟩
   ·subst G;cases ad with
    |none=>exact Go.run_convert_bytes_nil w' t1 e h1 he _ cap t2 h2
    |some ad=>exact Go.run_convert_bytes_back w' t1 t2 e ad cap [] h1 he h2 (fun j hj=>by cases hj)
   ·refine Go.run_convert_bytes_back w' t1 t2 e ⟨b,o,none⟩ cap l h1 he h2 (fun j hj=>?_);obtain⟨cs,hr,hc,hA⟩:=G j l[j] (aYU hj);obtain rfl:cs=[.int .u8 l[j].toNat]:=hr;have hb:b∉bad:=hbad b o cap rfl (fun h=>by subst h;cases hj)
    rw[gF];have:=hh.dataAt hD (hA 0 _ rfl) hb hk;simpa using this
  simp only[execOp,hh.eval hx];rw[Sem.run_bind,key];rfl) kk
end Go.Fs
