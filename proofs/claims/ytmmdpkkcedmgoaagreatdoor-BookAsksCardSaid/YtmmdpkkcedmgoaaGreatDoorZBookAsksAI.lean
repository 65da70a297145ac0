/- Of BookAsks. -/
import Derived.Test.YtmmdpkkcedmgoaaGreatDoorZBookAsksAF
import Derived.Lib.AppendStr
import Derived.Lib.UnsafeStr
import Derived.Lib.Builder
import Derived.Laws.Externs
import Derived.Laws.IdiomStrings
namespace Go.Fs
open Go.Proofs Tryz
namespace L12
open C12
def pS(T:XB)(D:aC)(wb:Nat)(s:aO)(ν:aD):Prop:=∃pv cv hv lv mv bl bc yc yq ν1 ν2 ν3 ν4 ν5 ν6 ν7 ν8,ν=(wb,qC (dR s pv cv hv lv mv bl bc yc yq) T.w)::(ν8++(ν7++(ν6++(ν5++(ν4++(ν3++(ν2++ν1)))))))∧bJK T D s pv cv hv lv mv bl bc yc yq ν1 ν2 ν3 ν4 ν5 ν6 ν7 ν8
def iL(P:Program)(f:FuncId)(k:Nat)(act:eJ):Prop:=∀(wb:Nat) (s:aO) (nv:Γ) (n:List Int) (ν:aD) (D:aC),Sl D RI 1 nv n→n.length=k→(∀x∈n,0≤x∧x≤999)→pS bKT D wb s ν→O2 s→
 kF P f [qP wb,nv] D ν (fun D' _ ν'=>∃s',act s n=.ok s'∧pS bKT D' wb s' ν') fun v=>∃c,act s n=.error c∧v=fW c
theorem _root_.Go.Fs.kF.frameE{P:Program}{f:FuncId}{args:List Γ}{D:aC}{ν A B:aD}{post:aC→Γ→aD→Prop}{pan:Γ→Prop}(h:kF P f args D ν post pan):kF P f args D (A++ν++B) (fun D' v ν'=>∃I,post D' v I∧ν'=A++I++B) pan:=h.frame fun _ _ ν' _ hp=>⟨ν',hp,rfl⟩
theorem _root_.Go.Fs.kF.frameB{P:Program}{f:FuncId}{args:List Γ}{D:aC}{ν:aD}{post:aC→Γ→aD→Prop}{pan:Γ→Prop}(h:kF P f args D ν post pan)(B:aD):kF P f args D ([]++ν++B) (fun D' v ν'=>∃I,post D' v I∧ν'=[]++I++B) pan:=h.frameE
theorem zF{l:List Int}(h:l.length=1):∃a,l=[a]:=by match l,h with| [a],_=>exact⟨a,rfl⟩
theorem Y3{l:List Int}(h:l.length=2):∃a b,l=[a,b]:=by match l,h with| [a,b],_=>exact⟨a,b,rfl⟩
theorem aYP{l:List Int}(h:l.length=3):∃a b c,l=[a,b,c]:=by match l,h with| [a,b,c],_=>exact⟨a,b,c,rfl⟩
theorem bDW{l:List Int}(h:l.length=4):∃a b c d,l=[a,b,c,d]:=by match l,h with| [a,b,c,d],_=>exact⟨a,b,c,d,rfl⟩
theorem t7{e sz n:Nat}{cells:List Γ}{v:Γ}{ν:aD}(h:bM e sz v n cells ν):∃x c,v=.slice x n c:=by
 rcases h with⟨a,rfl,rfl,_,_⟩|⟨b,cap,junk,rfl,_,_,_⟩
 ·exact⟨a,0,rfl⟩
 ·exact⟨_,cap,rfl⟩
theorem WR:iL prog 262 0 (zY):=by
 rintro wb s nv n ν D hn hlen hr ⟨pv,cv,hv,lv,mv,bl,bc,yc,yq,ν1,ν2,ν3,ν4,ν5,ν6,ν7,ν8,rfl,hO⟩ hsm;obtain rfl:n=[]:=bOL hlen;refine kF.reorder ((aKC wb s pv cv hv lv mv bl bc yc yq nv ν1 D hO.pl hsm.pl).frameB (ν8++(ν7++(ν6++(ν5++(ν4++(ν3++(ν2)))))))) Yj ?_ ?_
 ·rintro D' v ν' hle ⟨_,⟨hc,I,νz,rfl,hacc⟩,rfl⟩;refine⟨_,Yy,mA s {s.row with places:=s.row.places++[2]},Xbu,I,cv,hv,lv,mv,bl,bc,yc,yq,νz,ν2,ν3,ν4,ν5,ν6,ν7,ν8,rfl,?_⟩
  exact⟨(hacc),hO.ct,hO.ht,hO.lev,hO.mks,hO.ln,hO.cn.up vY.up hle,hO.ch,hO.cl⟩
 ·rintro v ⟨h1,rfl⟩;exact⟨_,Xbu,rfl⟩
theorem aHQ:iL prog 263 2 (Y1):=by
 rintro wb s nv n ν D hn hlen hr ⟨pv,cv,hv,lv,mv,bl,bc,yc,yq,ν1,ν2,ν3,ν4,ν5,ν6,ν7,ν8,rfl,hO⟩ hsm;obtain⟨a,b,rfl⟩:=Y3 hlen;have ha:0≤a:=(hr a Yf).1;refine kF.reorder ((aPO wb s pv cv hv lv mv bl bc yc yq nv a b ν1 D hn hO.pl hsm.pl ha).frameB (ν8++(ν7++(ν6++(ν5++(ν4++(ν3++(ν2)))))))) Yj ?_ ?_
 ·rintro D' v ν' hle ⟨_,⟨hc,νz,rfl,hacc⟩,rfl⟩;refine⟨_,Yy,mA s {s.row with places:=s.row.places.set a.toNat b},Ya6,pv,cv,hv,lv,mv,bl,bc,yc,yq,νz,ν2,ν3,ν4,ν5,ν6,ν7,ν8,rfl,?_⟩
  exact⟨(hacc),hO.ct,hO.ht,hO.lev,hO.mks,hO.ln,hO.cn.up vY.up hle,hO.ch,hO.cl⟩
 ·rintro v (⟨h1,rfl⟩|⟨h1,h2,rfl⟩)
  ·exact⟨_,Ya6,rfl⟩
  ·exact⟨_,Ya6,rfl⟩
theorem aAZ:iL prog 264 2 (pJ false):=by
 rintro wb s nv n ν D hn hlen hr ⟨pv,cv,hv,lv,mv,bl,bc,yc,yq,ν1,ν2,ν3,ν4,ν5,ν6,ν7,ν8,rfl,hO⟩ hsm;obtain⟨a,b,rfl⟩:=Y3 hlen;refine kF.reorder ((aGY wb s pv cv hv lv mv bl bc yc yq nv a b ν2 D hn hO.ct hsm.ct (t7 hO.pl)).frameB (ν8++(ν7++(ν6++(ν5++(ν4++(ν3++(ν1)))))))) Yj ?_ ?_
 ·rintro D' v ν' hle ⟨_,⟨hc,I,νz,rfl,hacc⟩,rfl⟩;refine⟨_,Yy,mA s {s.row with counts:=s.row.counts++[(⟨false,a,b⟩:C1.xX)]},Yan,pv,I,hv,lv,mv,bl,bc,yc,yq,ν1,νz,ν3,ν4,ν5,ν6,ν7,ν8,rfl,?_⟩
  exact⟨hO.pl,(hacc),hO.ht,hO.lev,hO.mks,hO.ln,hO.cn.up vY.up hle,hO.ch,hO.cl⟩
 ·rintro v (⟨h1,rfl⟩|⟨h1,h2,rfl⟩)
  ·exact⟨_,Yan,rfl⟩
  ·exact⟨_,Yan,rfl⟩
theorem aLE:iL prog 265 2 (pJ true):=by
 rintro wb s nv n ν D hn hlen hr ⟨pv,cv,hv,lv,mv,bl,bc,yc,yq,ν1,ν2,ν3,ν4,ν5,ν6,ν7,ν8,rfl,hO⟩ hsm;obtain⟨a,b,rfl⟩:=Y3 hlen;refine kF.reorder ((aOJ wb s pv cv hv lv mv bl bc yc yq nv a b ν2 D hn hO.ct hsm.ct (t7 hO.pl)).frameB (ν8++(ν7++(ν6++(ν5++(ν4++(ν3++(ν1)))))))) Yj ?_ ?_
 ·rintro D' v ν' hle ⟨_,⟨hc,I,νz,rfl,hacc⟩,rfl⟩;refine⟨_,Yy,mA s {s.row with counts:=s.row.counts++[(⟨true,a,b⟩:C1.xX)]},Yan,pv,I,hv,lv,mv,bl,bc,yc,yq,ν1,νz,ν3,ν4,ν5,ν6,ν7,ν8,rfl,?_⟩
  exact⟨hO.pl,(hacc),hO.ht,hO.lev,hO.mks,hO.ln,hO.cn.up vY.up hle,hO.ch,hO.cl⟩
 ·rintro v (⟨h1,rfl⟩|⟨h1,h2,rfl⟩)
  ·exact⟨_,Yan,rfl⟩
  ·exact⟨_,Yan,rfl⟩
theorem OG:iL prog 266 1 (qY):=by
 rintro wb s nv n ν D hn hlen hr ⟨pv,cv,hv,lv,mv,bl,bc,yc,yq,ν1,ν2,ν3,ν4,ν5,ν6,ν7,ν8,rfl,hO⟩ hsm;obtain⟨a,rfl⟩:=zF hlen;have ha:0≤a:=(hr a Yf).1;refine kF.reorder ((SA wb s pv cv hv lv mv bl bc yc yq nv a ν2 D hn hO.ct hsm.ct ha).frameB (ν8++(ν7++(ν6++(ν5++(ν4++(ν3++(ν1)))))))) Yj ?_ ?_
 ·rintro D' v ν' hle ⟨_,⟨hc,I,νz,rfl,hacc⟩,rfl⟩;refine⟨_,Yy,mA s {s.row with counts:=s.row.counts.eraseIdx a.toNat},Xcm,pv,I,hv,lv,mv,bl,bc,yc,yq,ν1,νz,ν3,ν4,ν5,ν6,ν7,ν8,rfl,?_⟩
  exact⟨hO.pl,(hacc),hO.ht,hO.lev,hO.mks,hO.ln,hO.cn.up vY.up hle,hO.ch,hO.cl⟩
 ·rintro v ⟨h1,rfl⟩;exact⟨_,Xcm,rfl⟩
theorem aAP:iL prog 267 1 (A8):=by
 rintro wb s nv n ν D hn hlen hr ⟨pv,cv,hv,lv,mv,bl,bc,yc,yq,ν1,ν2,ν3,ν4,ν5,ν6,ν7,ν8,rfl,hO⟩ hsm;obtain⟨a,rfl⟩:=zF hlen;refine kF.reorder ((aLN wb s pv cv hv lv mv bl bc yc yq nv a D hn).frameB (ν8++(ν7++(ν6++(ν5++(ν4++(ν3++(ν2++(ν1))))))))) Yj ?_ ?_
 ·rintro D' v ν' hle ⟨_,⟨h1,rfl⟩,rfl⟩;refine⟨_,.refl _,mA s {s.row with wrong:=a},Xbv,pv,cv,hv,lv,mv,bl,bc,yc,yq,ν1,ν2,ν3,ν4,ν5,ν6,ν7,ν8,rfl,⟨hO.pl,hO.ct,hO.ht,hO.lev,hO.mks,hO.ln,hO.cn.up vY.up hle,hO.ch,hO.cl⟩⟩
 ·rintro v ⟨h1,rfl⟩;exact⟨_,Xbv,rfl⟩
theorem aQP:iL prog 268 1 (NN):=by
 rintro wb s nv n ν D hn hlen hr ⟨pv,cv,hv,lv,mv,bl,bc,yc,yq,ν1,ν2,ν3,ν4,ν5,ν6,ν7,ν8,rfl,hO⟩ hsm;obtain⟨a,rfl⟩:=zF hlen;refine kF.reorder ((aXE wb s pv cv hv lv mv bl bc yc yq nv a D hn).frameB (ν8++(ν7++(ν6++(ν5++(ν4++(ν3++(ν2++(ν1))))))))) Yj ?_ ?_
 ·rintro D' v ν' hle ⟨_,⟨h1,rfl⟩,rfl⟩;refine⟨_,.refl _,mA s {s.row with off:=a},Xbw,pv,cv,hv,lv,mv,bl,bc,yc,yq,ν1,ν2,ν3,ν4,ν5,ν6,ν7,ν8,rfl,⟨hO.pl,hO.ct,hO.ht,hO.lev,hO.mks,hO.ln,hO.cn.up vY.up hle,hO.ch,hO.cl⟩⟩
 ·rintro v ⟨h1,rfl⟩;exact⟨_,Xbw,rfl⟩
theorem aMH:iL prog 269 3 (o9):=by
 rintro wb s nv n ν D hn hlen hr ⟨pv,cv,hv,lv,mv,bl,bc,yc,yq,ν1,ν2,ν3,ν4,ν5,ν6,ν7,ν8,rfl,hO⟩ hsm;obtain⟨a,b,c,rfl⟩:=aYP hlen;have ha:0≤a:=(hr a Yf).1;have hb:0≤b∧b≤1000:=by have:=hr b Yf;omega
 refine kF.reorder ((aOE wb s pv cv hv lv mv bl bc yc yq nv a b c ν3 D hn hO.ht hsm.ht ha hb).frameB (ν8++(ν7++(ν6++(ν5++(ν4++(ν2++(ν1)))))))) Yj ?_ ?_
 ·rintro D' v ν' hle ⟨_,⟨hc,νz,rfl,hacc⟩,rfl⟩;refine⟨_,Yw,iG s {s.table with heights:=s.table.heights.set a.toNat (b,c)},Ya5,pv,cv,hv,lv,mv,bl,bc,yc,yq,ν1,ν2,νz,ν4,ν5,ν6,ν7,ν8,rfl,?_⟩
  exact⟨hO.pl,hO.ct,(hacc),hO.lev,hO.mks,hO.ln,hO.cn.up vY.up hle,hO.ch,hO.cl⟩
 ·rintro v (⟨h1,rfl⟩|⟨h1,h2,rfl⟩)
  ·exact⟨_,Ya5,rfl⟩
  ·exact⟨_,Ya5,rfl⟩
theorem aGU:iL prog 270 1 (Z8):=by
 rintro wb s nv n ν D hn hlen hr ⟨pv,cv,hv,lv,mv,bl,bc,yc,yq,ν1,ν2,ν3,ν4,ν5,ν6,ν7,ν8,rfl,hO⟩ hsm;obtain⟨a,rfl⟩:=zF hlen;refine kF.reorder ((aVF wb s pv cv hv lv mv bl bc yc yq nv a D hn).frameB (ν8++(ν7++(ν6++(ν5++(ν4++(ν3++(ν2++(ν1))))))))) Yj ?_ ?_
 ·rintro D' v ν' hle ⟨_,⟨h1,rfl⟩,rfl⟩;refine⟨_,.refl _,iG s {s.table with step:=a},Xbx,pv,cv,hv,lv,mv,bl,bc,yc,yq,ν1,ν2,ν3,ν4,ν5,ν6,ν7,ν8,rfl,⟨hO.pl,hO.ct,hO.ht,hO.lev,hO.mks,hO.ln,hO.cn.up vY.up hle,hO.ch,hO.cl⟩⟩
 ·rintro v ⟨h1,rfl⟩;exact⟨_,Xbx,rfl⟩
theorem YV:iL prog 271 1 (B6):=by
 rintro wb s nv n ν D hn hlen hr ⟨pv,cv,hv,lv,mv,bl,bc,yc,yq,ν1,ν2,ν3,ν4,ν5,ν6,ν7,ν8,rfl,hO⟩ hsm;obtain⟨a,rfl⟩:=zF hlen;refine kF.reorder ((aIJ wb s pv cv hv lv mv bl bc yc yq nv a ν4 D hn hO.lev hsm.lev).frameB (ν8++(ν7++(ν6++(ν5++(ν3++(ν2++(ν1)))))))) Yj ?_ ?_
 ·rintro D' v ν' hle ⟨_,⟨hc,I,νz,rfl,hacc⟩,rfl⟩;refine⟨_,Yw,iG s {s.table with levels:=s.table.levels++[a]},Ya3,pv,cv,hv,I,mv,bl,bc,yc,yq,ν1,ν2,ν3,νz,ν5,ν6,ν7,ν8,rfl,?_⟩
  exact⟨hO.pl,hO.ct,hO.ht,(hacc),hO.mks,hO.ln,hO.cn.up vY.up hle,hO.ch,hO.cl⟩
 ·rintro v (⟨h1,rfl⟩|⟨h1,h2,rfl⟩)
  ·exact⟨_,Ya3,rfl⟩
  ·exact⟨_,Ya3,rfl⟩
theorem YO:iL prog 272 2 (zW):=by
 rintro wb s nv n ν D hn hlen hr ⟨pv,cv,hv,lv,mv,bl,bc,yc,yq,ν1,ν2,ν3,ν4,ν5,ν6,ν7,ν8,rfl,hO⟩ hsm;obtain⟨a,b,rfl⟩:=Y3 hlen;have ha:0≤a:=(hr a Yf).1;refine kF.reorder ((aGD wb s pv cv hv lv mv bl bc yc yq nv a b ν4 D hn hO.lev hsm.lev ha).frameB (ν8++(ν7++(ν6++(ν5++(ν3++(ν2++(ν1)))))))) Yj ?_ ?_
 ·rintro D' v ν' hle ⟨_,⟨hc,νz,rfl,hacc⟩,rfl⟩;refine⟨_,Yw,iG s {s.table with levels:=s.table.levels.set a.toNat b},Ya2,pv,cv,hv,lv,mv,bl,bc,yc,yq,ν1,ν2,ν3,νz,ν5,ν6,ν7,ν8,rfl,?_⟩
  exact⟨hO.pl,hO.ct,hO.ht,(hacc),hO.mks,hO.ln,hO.cn.up vY.up hle,hO.ch,hO.cl⟩
 ·rintro v (⟨h1,rfl⟩|⟨h1,h2,rfl⟩)
  ·exact⟨_,Ya2,rfl⟩
  ·exact⟨_,Ya2,rfl⟩
theorem aHH:iL prog 273 4 (G5):=by
 rintro wb s nv n ν D hn hlen hr ⟨pv,cv,hv,lv,mv,bl,bc,yc,yq,ν1,ν2,ν3,ν4,ν5,ν6,ν7,ν8,rfl,hO⟩ hsm;obtain⟨a,b,c,d,rfl⟩:=bDW hlen;refine kF.reorder ((aSK wb s pv cv hv lv mv bl bc yc yq nv a b c d ν5 D hn hO.mks hsm.mks (t7 hO.ht)).frameB (ν8++(ν7++(ν6++(ν4++(ν3++(ν2++(ν1)))))))) Yj ?_ ?_
 ·rintro D' v ν' hle ⟨_,⟨hc,I,νz,rfl,hacc⟩,rfl⟩;refine⟨_,Yw,iG s {s.table with marks:=s.table.marks++[(⟨a,b,c,d⟩:C2.Mk)]},Ya7,pv,cv,hv,lv,I,bl,bc,yc,yq,ν1,ν2,ν3,ν4,νz,ν6,ν7,ν8,rfl,?_⟩
  exact⟨hO.pl,hO.ct,hO.ht,hO.lev,(hacc),hO.ln,hO.cn.up vY.up hle,hO.ch,hO.cl⟩
 ·rintro v (⟨h1,rfl⟩|⟨h1,h2,rfl⟩|⟨h1,h2,h3,rfl⟩|⟨h1,h2,h3,h4,rfl⟩)
  ·exact⟨_,Ya7,rfl⟩
  ·exact⟨_,Ya7,rfl⟩
  ·exact⟨_,Ya7,rfl⟩
  ·exact⟨_,Ya7,rfl⟩
theorem UP:iL prog 274 1 (tJ):=by
 rintro wb s nv n ν D hn hlen hr ⟨pv,cv,hv,lv,mv,bl,bc,yc,yq,ν1,ν2,ν3,ν4,ν5,ν6,ν7,ν8,rfl,hO⟩ hsm;obtain⟨a,rfl⟩:=zF hlen;have ha:0≤a:=(hr a Yf).1;refine kF.reorder ((YP wb s pv cv hv lv mv bl bc yc yq nv a ν5 D hn hO.mks hsm.mks ha).frameB (ν8++(ν7++(ν6++(ν4++(ν3++(ν2++(ν1)))))))) Yj ?_ ?_
 ·rintro D' v ν' hle ⟨_,⟨hc,I,νz,rfl,hacc⟩,rfl⟩;refine⟨_,Yw,iG s {s.table with marks:=s.table.marks.eraseIdx a.toNat},Xcn,pv,cv,hv,lv,I,bl,bc,yc,yq,ν1,ν2,ν3,ν4,νz,ν6,ν7,ν8,rfl,?_⟩
  exact⟨hO.pl,hO.ct,hO.ht,hO.lev,(hacc),hO.ln,hO.cn.up vY.up hle,hO.ch,hO.cl⟩
 ·rintro v ⟨h1,rfl⟩;exact⟨_,Xcn,rfl⟩
theorem aHC:iL prog 275 2 (pL 1):=by
 rintro wb s nv n ν D hn hlen hr ⟨pv,cv,hv,lv,mv,bl,bc,yc,yq,ν1,ν2,ν3,ν4,ν5,ν6,ν7,ν8,rfl,hO⟩ hsm;obtain⟨a,b,rfl⟩:=Y3 hlen;refine kF.reorder ((aPQ wb s pv cv hv lv mv bl bc yc yq nv a b ν6 D hn hO.ln hsm.ln).frameB (ν8++(ν7++(ν5++(ν4++(ν3++(ν2++(ν1)))))))) Yj ?_ ?_
 ·rintro D' v ν' hle ⟨_,⟨hc,I,νz,rfl,hacc⟩,rfl⟩;refine⟨_,Yah,oY s {s.book with lines:=s.book.lines++[(⟨1,a,b⟩:C3.cB)]},Yam,pv,cv,hv,lv,mv,I,bc,yc,yq,ν1,ν2,ν3,ν4,ν5,νz,ν7,ν8,rfl,?_⟩
  exact⟨hO.pl,hO.ct,hO.ht,hO.lev,hO.mks,(hacc),hO.cn.up vY.up hle,hO.ch,hO.cl⟩
 ·rintro v (⟨h1,rfl⟩|⟨h1,h2,rfl⟩)
  ·exact⟨_,Yam,rfl⟩
  ·exact⟨_,Yam,rfl⟩
theorem WM:iL prog 276 2 (pL 2):=by
 rintro wb s nv n ν D hn hlen hr ⟨pv,cv,hv,lv,mv,bl,bc,yc,yq,ν1,ν2,ν3,ν4,ν5,ν6,ν7,ν8,rfl,hO⟩ hsm;obtain⟨a,b,rfl⟩:=Y3 hlen;refine kF.reorder ((aJP wb s pv cv hv lv mv bl bc yc yq nv a b ν6 D hn hO.ln hsm.ln).frameB (ν8++(ν7++(ν5++(ν4++(ν3++(ν2++(ν1)))))))) Yj ?_ ?_
 ·rintro D' v ν' hle ⟨_,⟨hc,I,νz,rfl,hacc⟩,rfl⟩;refine⟨_,Yah,oY s {s.book with lines:=s.book.lines++[(⟨2,a,b⟩:C3.cB)]},Yam,pv,cv,hv,lv,mv,I,bc,yc,yq,ν1,ν2,ν3,ν4,ν5,νz,ν7,ν8,rfl,?_⟩
  exact⟨hO.pl,hO.ct,hO.ht,hO.lev,hO.mks,(hacc),hO.cn.up vY.up hle,hO.ch,hO.cl⟩
 ·rintro v (⟨h1,rfl⟩|⟨h1,h2,rfl⟩)
  ·exact⟨_,Yam,rfl⟩
  ·exact⟨_,Yam,rfl⟩
theorem UM:iL prog 277 1 (qJ):=by
 rintro wb s nv n ν D hn hlen hr ⟨pv,cv,hv,lv,mv,bl,bc,yc,yq,ν1,ν2,ν3,ν4,ν5,ν6,ν7,ν8,rfl,hO⟩ hsm;obtain⟨a,rfl⟩:=zF hlen;have ha:0≤a:=(hr a Yf).1;refine kF.reorder ((YY wb s pv cv hv lv mv bl bc yc yq nv a ν6 D hn hO.ln hsm.ln ha).frameB (ν8++(ν7++(ν5++(ν4++(ν3++(ν2++(ν1)))))))) Yj ?_ ?_
 ·rintro D' v ν' hle ⟨_,⟨x,hx,hc,νz,rfl,hacc⟩,rfl⟩;refine⟨_,Yah,oY s {s.book with lines:=s.book.lines.set a.toNat {x with token:= -1}},by unfold qJ;simp only[];rw[hx];simp only[];rw[bLX hc],pv,cv,hv,lv,mv,bl,bc,yc,yq,ν1,ν2,ν3,ν4,ν5,νz,ν7,ν8,rfl,?_⟩
  exact⟨hO.pl,hO.ct,hO.ht,hO.lev,hO.mks,(hacc),hO.cn.up vY.up hle,hO.ch,hO.cl⟩
 ·rintro v (⟨h1,rfl⟩|⟨x,hx,h1,rfl⟩)
  ·exact⟨_,by unfold qJ;simp only[];rw[bOP Yd],rfl⟩
  ·exact⟨_,by unfold qJ;simp only[];rw[hx];exact bMG h1,rfl⟩
theorem QM:iL prog 278 1 (tR):=by
 rintro wb s nv n ν D hn hlen hr ⟨pv,cv,hv,lv,mv,bl,bc,yc,yq,ν1,ν2,ν3,ν4,ν5,ν6,ν7,ν8,rfl,hO⟩ hsm;obtain⟨a,rfl⟩:=zF hlen;have ha:0≤a:=(hr a Yf).1;refine kF.reorder ((WH wb s pv cv hv lv mv bl bc yc yq nv a ν6 D hn hO.ln hsm.ln ha).frameB (ν8++(ν7++(ν5++(ν4++(ν3++(ν2++(ν1)))))))) Yj ?_ ?_
 ·rintro D' v ν' hle ⟨_,⟨hc,I,νz,rfl,hacc⟩,rfl⟩;refine⟨_,Yah,oY s {s.book with lines:=s.book.lines.eraseIdx a.toNat},Xco,pv,cv,hv,lv,mv,I,bc,yc,yq,ν1,ν2,ν3,ν4,ν5,νz,ν7,ν8,rfl,?_⟩
  exact⟨hO.pl,hO.ct,hO.ht,hO.lev,hO.mks,(hacc),hO.cn.up vY.up hle,hO.ch,hO.cl⟩
 ·rintro v ⟨h1,rfl⟩;exact⟨_,Xco,rfl⟩
theorem RF:iL prog 279 4 (tZ):=by
 rintro wb s nv n ν D hn hlen hr ⟨pv,cv,hv,lv,mv,bl,bc,yc,yq,ν1,ν2,ν3,ν4,ν5,ν6,ν7,ν8,rfl,hO⟩ hsm;obtain⟨a,b,c,d,rfl⟩:=bDW hlen;refine kF.reorder ((ZH wb s pv cv hv lv mv bl bc yc yq nv a b c d ν7 D hn hO.ch hsm.ch).frameB (ν8++(ν6++(ν5++(ν4++(ν3++(ν2++(ν1)))))))) Yj ?_ ?_
 ·rintro D' v ν' hle ⟨_,⟨hc,I,νz,rfl,hacc⟩,rfl⟩;refine⟨_,Yag,kR s {s.yard with chairs:=s.yard.chairs++[(⟨a,⟨b,c,d⟩⟩:C7.Ch)]},Ya1,pv,cv,hv,lv,mv,bl,bc,I,yq,ν1,ν2,ν3,ν4,ν5,ν6,νz,ν8,rfl,?_⟩
  exact⟨hO.pl,hO.ct,hO.ht,hO.lev,hO.mks,hO.ln,hO.cn.up vY.up hle,(hacc),hO.cl⟩
 ·rintro v (⟨h1,rfl⟩|⟨h1,h2,rfl⟩)
  ·exact⟨_,Ya1,rfl⟩
  ·exact⟨_,Ya1,rfl⟩
theorem aFU:iL prog 280 3 (vT):=by
 rintro wb s nv n ν D hn hlen hr ⟨pv,cv,hv,lv,mv,bl,bc,yc,yq,ν1,ν2,ν3,ν4,ν5,ν6,ν7,ν8,rfl,hO⟩ hsm;obtain⟨a,b,c,rfl⟩:=aYP hlen;have ha:0≤a:=(hr a Yf).1;have hb:0≤b:=(hr b Yf).1;refine kF.reorder ((aTY wb s pv cv hv lv mv bl bc yc yq nv a b c ν7 D hn hO.ch hsm.ch ha hb).frameB (ν8++(ν6++(ν5++(ν4++(ν3++(ν2++(ν1)))))))) Yj ?_ ?_
 ·rintro D' v ν' hle ⟨_,⟨x,hx,hc,νz,rfl,hacc⟩,rfl⟩;refine⟨_,Yag,kR s {s.yard with chairs:=s.yard.chairs.set a.toNat {x with parts:=i6 x.parts b.toNat c}},by unfold vT;simp only[];rw[hx];simp only[];repeat (first|rw[bMG Yd]|rw[bLX Yd]),pv,cv,hv,lv,mv,bl,bc,yc,yq,ν1,ν2,ν3,ν4,ν5,ν6,νz,ν8,rfl,?_⟩
  exact⟨hO.pl,hO.ct,hO.ht,hO.lev,hO.mks,hO.ln,hO.cn.up vY.up hle,(hacc),hO.cl⟩
 ·rintro v (⟨h1,rfl⟩|⟨h1,h2,rfl⟩|⟨h1,h2,h3,rfl⟩)
  ·exact⟨_,by unfold vT;simp only[];rw[bOP Yd],rfl⟩
  ·exact⟨_,by unfold vT;simp only[];rw[bLR Yd];exact bMG h2,rfl⟩
  ·exact⟨_,by unfold vT;simp only[];rw[bLR Yd];exact(bLX Yd).trans (bMG h3),rfl⟩
theorem aUQ:iL prog 281 1 (PM):=by
 rintro wb s nv n ν D hn hlen hr ⟨pv,cv,hv,lv,mv,bl,bc,yc,yq,ν1,ν2,ν3,ν4,ν5,ν6,ν7,ν8,rfl,hO⟩ hsm;obtain⟨a,rfl⟩:=zF hlen;refine kF.reorder ((aXH wb s pv cv hv lv mv bl bc yc yq nv a D hn).frameB (ν8++(ν7++(ν6++(ν5++(ν4++(ν3++(ν2++(ν1))))))))) Yj ?_ ?_
 ·rintro D' v ν' hle ⟨_,⟨h1,rfl⟩,rfl⟩;refine⟨_,.refl _,kR s {s.yard with fit:=a},Xby,pv,cv,hv,lv,mv,bl,bc,yc,yq,ν1,ν2,ν3,ν4,ν5,ν6,ν7,ν8,rfl,⟨hO.pl,hO.ct,hO.ht,hO.lev,hO.mks,hO.ln,hO.cn.up vY.up hle,hO.ch,hO.cl⟩⟩
 ·rintro v ⟨h1,rfl⟩;exact⟨_,Xby,rfl⟩
theorem ZX:iL prog 282 2 (C9):=by
 rintro wb s nv n ν D hn hlen hr ⟨pv,cv,hv,lv,mv,bl,bc,yc,yq,ν1,ν2,ν3,ν4,ν5,ν6,ν7,ν8,rfl,hO⟩ hsm;obtain⟨a,b,rfl⟩:=Y3 hlen;refine kF.reorder ((aIN wb s pv cv hv lv mv bl bc yc yq nv a b ν8 D hn hO.cl hsm.cl).frameB (ν7++(ν6++(ν5++(ν4++(ν3++(ν2++(ν1)))))))) Yj ?_ ?_
 ·rintro D' v ν' hle ⟨_,⟨hc,I,νz,rfl,hacc⟩,rfl⟩;refine⟨_,Yag,kR s {s.yard with claims:=s.yard.claims++[(a,b)]},Ya4,pv,cv,hv,lv,mv,bl,bc,yc,I,ν1,ν2,ν3,ν4,ν5,ν6,ν7,νz,rfl,?_⟩
  exact⟨hO.pl,hO.ct,hO.ht,hO.lev,hO.mks,hO.ln,hO.cn.up vY.up hle,hO.ch,(hacc)⟩
 ·rintro v (⟨h1,rfl⟩|⟨h1,h2,rfl⟩)
  ·exact⟨_,Ya4,rfl⟩
  ·exact⟨_,Ya4,rfl⟩
theorem MK:iL prog 283 1 (qH):=by
 rintro wb s nv n ν D hn hlen hr ⟨pv,cv,hv,lv,mv,bl,bc,yc,yq,ν1,ν2,ν3,ν4,ν5,ν6,ν7,ν8,rfl,hO⟩ hsm;obtain⟨a,rfl⟩:=zF hlen;have ha:0≤a:=(hr a Yf).1;refine kF.reorder ((VF wb s pv cv hv lv mv bl bc yc yq nv a ν8 D hn hO.cl hsm.cl ha).frameB (ν7++(ν6++(ν5++(ν4++(ν3++(ν2++(ν1)))))))) Yj ?_ ?_
 ·rintro D' v ν' hle ⟨_,⟨hc,I,νz,rfl,hacc⟩,rfl⟩;refine⟨_,Yag,kR s {s.yard with claims:=s.yard.claims.eraseIdx a.toNat},Xcp,pv,cv,hv,lv,mv,bl,bc,yc,I,ν1,ν2,ν3,ν4,ν5,ν6,ν7,νz,rfl,?_⟩
  exact⟨hO.pl,hO.ct,hO.ht,hO.lev,hO.mks,hO.ln,hO.cn.up vY.up hle,hO.ch,(hacc)⟩
 ·rintro v ⟨h1,rfl⟩;exact⟨_,Xcp,rfl⟩
def zM(s:aO)(line:Λ):aO×Int:=match jM line with
 |none=>(s,4)
 |some (act,n)=>match act s n with
  |.error c=>(s,c)
  |.ok s'=>if eI s'=0 then(s',0)else(s,eI s')
theorem PC{s:aO}{line:Λ}(h:jM line=none):zM s line=(s,4):=by unfold zM;rw[h]
theorem aST{s:aO}{line:Λ}{act:eJ}{n:List Int}{c:Int}(h:jM line=some (act,n))(he:act s n=.error c):zM s line=(s,c):=by unfold zM;rw[h];simp only[];rw[he]
theorem aTD{s I:aO}{line:Λ}{act:eJ}{n:List Int}(h:jM line=some (act,n))(he:act s n=.ok I)(hs:eI I≠0):zM s line=(s,eI I):=by unfold zM;rw[h];simp only[];rw[he];exact bLX hs
theorem aCI{s I:aO}{line:Λ}{act:eJ}{n:List Int}(h:jM line=some (act,n))(he:act s n=.ok I)(hs:eI I=0):zM s line=(I,0):=by unfold zM;rw[h];simp only[];rw[he];exact bMG hs
theorem Q7{s I:aO}{line:Λ}{c:Int}{D:aC}{v:Γ}(h:zM s line=(I,c))(hs:iD D v I):∃O,Value.tuple #[v,qI c]=.tuple #[O,qI (zM s line).2]∧iD D O (zM s line).1:=by rw[h];exact⟨v,rfl,hs⟩
theorem c7{s:aO}{line:Λ}{c:Int}{D:aC}{v:Γ}(h:zM s line=(s,c))(hs:iD D v s):∃I,Value.tuple #[v,qI c]=.tuple #[I,qI (zM s line).2]∧iD D I (zM s line).1:=Q7 h hs
theorem _root_.Go.Fs.C12.lT.small{s:aO}(h:lT s):O2 s:=⟨by have:=h.pl;omega,by have:=h.ct;omega,by have:=h.ht;omega,by have:=h.lev;omega,by have:=h.mks;omega,by have:=h.ln;omega,by have:=h.ch;omega,by have:=h.cl;omega⟩
theorem pS.up{T:XB}{D D':aC}{wb:Nat}{s:aO}{ν:aD}(h:pS T D wb s ν)(hl:Le D D'):pS T D' wb s ν:=by
 obtain⟨pv,cv,hv,lv,mv,bl,bc,yc,yq,ν1,ν2,ν3,ν4,ν5,ν6,ν7,ν8,h1,h2⟩:=h;exact⟨pv,cv,hv,lv,mv,bl,bc,yc,yq,ν1,ν2,ν3,ν4,ν5,ν6,ν7,ν8,h1,⟨h2.pl,h2.ct,h2.ht,h2.lev,h2.mks,h2.ln,h2.cn.up vY.up hl,h2.ch,h2.cl⟩⟩
theorem b7{T:XB}{D:aC}{wb:Nat}{s:aO}{ν:aD}(h:pS T D wb s ν):∀p∈ν,dE p.2:=by
 obtain⟨pv,cv,hv,lv,mv,bl,bc,yc,yq,ν1,ν2,ν3,ν4,ν5,ν6,ν7,ν8,rfl,h2⟩:=h;intro p hp;simp only[bLO,bMD]at hp;rcases hp with rfl|hp|hp|hp|hp|hp|hp|hp|hp
 ·rfl
 ·exact oR h2.cl p hp
 ·exact oR h2.ch p hp
 ·exact oR h2.ln p hp
 ·exact oR h2.mks p hp
 ·exact oR h2.lev p hp
 ·exact oR h2.ht p hp
 ·exact oR h2.ct p hp
 ·exact oR h2.pl p hp
theorem oM{α:Type}{R:Rd α}{D:aC}{sz:Nat}{v:Γ}{xs:List α}(h:Sl D R sz v xs):cell1 v=true:=by
 obtain⟨a,c,rfl⟩:=h.shape;rfl
theorem gE{D:aC}{s:aO}{pv cv hv lv mv bl bc yc yq:Γ}(h:jR D s pv cv hv lv mv bl bc yc yq):∀u∈[pv,cv,qI s.row.wrong,qI s.row.off,qI s.table.last,hv,qI s.table.step,lv,mv,qI s.book.chairs,qI s.book.coin,qI s.book.box,bl,bc,yc,qI s.yard.fit,yq],cell1 u=true:=by
 intro u hu;simp only[bLO,n4,bNV]at hu;rcases hu with rfl|rfl|rfl|rfl|rfl|rfl|rfl|rfl|rfl|rfl|rfl|rfl|rfl|rfl|rfl|rfl|rfl<;>first|rfl|exact oM h.pl|exact oM h.ct|exact oM h.ht|exact oM h.lev|exact oM h.mks|exact oM h.ln|exact oM h.cn|exact oM h.ch|exact oM h.cl
section
variable{P:Program}{X:Cx}{Q:Exit→Act→Δ→Prop}{σ:bX}{Ds:List aC}
theorem BG{T:XB}{c:Code}{B ν:aD}{D0:aC}{wb:Nat}{s:aO}(h:pS T D0 wb s ν)(hmods:X.mods=[])(O:D0∈Ds:=by simp)(hsm:O2 s:=by assumption)
  (kk:∀D pv cv hv lv mv bl bc yc yq,(∀D₁∈Ds,Le D₁ D)→jR D s pv cv hv lv mv bl bc yc yq→WC P X Q c σ ((wb,qC (dR s pv cv hv lv mv bl bc yc yq) T.w)::B) (D::Ds)):WC P X Q c σ (ν++B) Ds:=by
 obtain⟨pv,cv,hv,lv,mv,bl,bc,yc,yq,ν1,ν2,ν3,ν4,ν5,ν6,ν7,ν8,rfl,hO⟩:=h;intro a w hh;obtain⟨V,k8,Y,h8⟩:=(hh.boxesEq (μ':=[(wb,qC (dR s pv cv hv lv mv bl bc yc yq) T.w)]++ν8++(ν7++(ν6++(ν5++(ν4++(ν3++(ν2++(ν1++B)))))))) Yf).freeze hO.cl hmods;obtain⟨Z,k7,F7,h7⟩:=(h8.boxesEq (μ':=[(wb,qC (dR s pv cv hv lv mv bl bc yc yq) T.w)]++ν7++(ν6++(ν5++(ν4++(ν3++(ν2++(ν1++B))))))) Yf).freeze hO.ch hmods;obtain⟨E6,k6,F6,h6⟩:=(h7.boxesEq (μ':=[(wb,qC (dR s pv cv hv lv mv bl bc yc yq) T.w)]++ν6++(ν5++(ν4++(ν3++(ν2++(ν1++B)))))) Yf).freeze hO.ln hmods;obtain⟨E5,k5,F5,h5⟩:=(h6.boxesEq (μ':=[(wb,qC (dR s pv cv hv lv mv bl bc yc yq) T.w)]++ν5++(ν4++(ν3++(ν2++(ν1++B))))) Yf).freeze hO.mks hmods;obtain⟨E4,k4,F4,h4⟩:=(h5.boxesEq (μ':=[(wb,qC (dR s pv cv hv lv mv bl bc yc yq) T.w)]++ν4++(ν3++(ν2++(ν1++B)))) Yf).freeze hO.lev hmods;obtain⟨E3,k3,F3,h3⟩:=(h4.boxesEq (μ':=[(wb,qC (dR s pv cv hv lv mv bl bc yc yq) T.w)]++ν3++(ν2++(ν1++B))) Yf).freeze hO.ht hmods;obtain⟨E2,k2,F2,h2⟩:=(h3.boxesEq (μ':=[(wb,qC (dR s pv cv hv lv mv bl bc yc yq) T.w)]++ν2++(ν1++B)) Yf).freeze hO.ct hmods;obtain⟨E1,I,F1,h1⟩:=(h2.boxesEq (μ':=[(wb,qC (dR s pv cv hv lv mv bl bc yc yq) T.w)]++ν1++B) Yf).freeze hO.pl hmods;refine kk E1 pv cv hv lv mv bl bc yc yq (fun D₁ hD₁=>I D₁ (by simp[hD₁])) ⟨nK (R:=RI) (n:=1) (f:=cI) (fun _ _=>rfl) (fun _=>rfl) F1 (by have:=hsm.pl;omega),(nK (R:=RC) (n:=3) (f:=cC) (fun _ _=>rfl) (fun _=>rfl) F2 (by have:=hsm.ct;omega)).up RC.up (I E2 Yf),(nK (R:=BL) (n:=2) (f:=cP) (fun _ _=>rfl) (fun _=>rfl) F3 (by have:=hsm.ht;omega)).up BL.up (I E3 Yf),(nK (R:=RI) (n:=1) (f:=cI) (fun _ _=>rfl) (fun _=>rfl) F4 (by have:=hsm.lev;omega)).up RI.up (I E4 Yf),(nK (R:=UB) (n:=4) (f:=cM) (fun _ _=>rfl) (fun _=>rfl) F5 (by have:=hsm.mks;omega)).up UB.up (I E5 Yf),
  (nK (R:=kE) (n:=3) (f:=cL) (fun _ _=>rfl) (fun _=>rfl) F6 (by have:=hsm.ln;omega)).up kE.up (I E6 Yf),hO.cn.up vY.up (I D0 (by simp[O])),(nK (R:=zS) (n:=4) (f:=cH) (fun _ _=>rfl) (fun _=>rfl) F7 (by have:=hsm.ch;omega)).up zS.up (I Z Yf),(nK (R:=R2) (n:=2) (f:=cP) (fun _ _=>rfl) (fun _=>rfl) Y (by have:=hsm.cl;omega)).up R2.up (I V Yf)⟩ a w ?_
 obtain⟨g1,g2,g3,Dx,g4,U,g6⟩:=h1;exact⟨g1,g2,g3,Dx,g4,fun D hD=>by
  rcases bLO.1 hD with rfl|hD
  ·exact U _ bLP
  ·exact U D (by simp[hD]),g6⟩
end

def vR(b:Λ):Option Int:=rV b.data.toList
theorem pK(line:Λ):∃p0 ps,eC line=p0::ps:=by
 unfold eC;cases h:pX line.data.toList with
 |nil=>exact absurd h (bBJ _)
 |cons p ps=>exact⟨_,_,rfl⟩
theorem O1(line:Λ):(eC line).length≤line.size+1:=by unfold eC;rw[bNE];exact MX _
theorem aOZ{line p0 x:Λ}{ps:List Λ}{k:Nat}(h:eC line=p0::ps)(hx:ps[k]?= some x):x.size≤line.size:=by
 have hm:x∈eC line:=by rw[h];exact LE _ (n5 hx)
 unfold eC at hm;obtain⟨p,hp,rfl⟩:=GE.1 hm;exact aJO hp
theorem SU:∀ps:List (List UInt8),(ps.map LS).mapM vR=ps.mapM rV
 | []=>rfl
 |p::ps=>by
  rw[bMT,bPL,bPL,SU ps];rfl
theorem uM{line p0:Λ}{ps:List Λ}(h:eC line=p0::ps):jM line=match kU.find? (fun x=>x.1==p0.data.toList)with
  |none=>none
  |some (_,k,act)=>if ps.length=k then(ps.mapM vR).map fun n=>(act,n)else none:=by
 unfold eC at h;unfold jM;cases hc:pX line.data.toList with
 |nil=>rw[hc]at h;cases h
 |cons p qs=>
  rw[hc]at h;simp only[bMT,bOH]at h;obtain⟨rfl,rfl⟩:=h;simp only[bNE];rw[SU];rfl
theorem o6{line p0:Λ}{ps:List Λ}{l:List UInt8}{k:Nat}{act:eJ}{ns:List Int}(h:eC line=p0::ps)(hf:kU.find? (fun x=>x.1==p0.data.toList)=some (l,k,act))(hk:ps.length=k)(hn:ps.mapM vR=some ns):jM line=some (act,ns):=by
 rw[uM h,hf];simp only[];rw[bMG hk,hn];rfl
theorem s6:∀{ps:List Λ} {k:Nat} {x:Λ},ps[k]?= some x→vR x=none→ps.mapM vR=none
 | [],_,_,h,_=>by simp at h
 |p::ps,0,x,h,hx=>by
  obtain rfl:p=x:=by simpa using h
  rw[bPL,hx];rfl
 |p::ps,k+1,x,h,hx=>by
  rw[bPL,s6 (k:=k) Yax hx];cases vR p<;>rfl
theorem aMG{line p0 x:Λ}{ps:List Λ}{k:Nat}(h:eC line=p0::ps)(hx:ps[k]?= some x)(hn:rV x.data.toList=none):jM line=none:=by
 rw[uM h,s6 hx hn];split
 ·rfl
 ·split<;>rfl
theorem aKU{ps:List Λ}{x:Λ}{ns:List Int}{m:Int}(h:ps.mapM vR=some ns)(hx:vR x=some m):(ps++[x]).mapM vR=some (ns++[m]):=by
 induction ps generalizing ns with
 |nil=>
  obtain rfl:([]:List Int)=ns:=by simpa using h
  rw[bMW,bPL,hx];rfl
 |cons p ps ih=>
  rw[bPL]at h;cases hp:vR p with
  |none=>rw[hp]at h;cases h
  |some q=>
   cases hq:ps.mapM vR with
   |none=>rw[hp,hq]at h;cases h
   |some qs=>
    rw[hp,hq]at h;obtain rfl:q::qs=ns:=bMQ h;rw[bOF,bPL,hp,ih hq];rfl
theorem TW{ps:List Λ}{k:Nat}{x:Λ}{ns:List Int}{m:Int}(hx:ps[k]?= some x)(h:(ps.take k).mapM vR=some ns)(hm:rV x.data.toList=some m):(ps.take (k+1)).mapM vR=some (ns++[m]):=by
 rw[bLW,hx];exact aKU h hm
theorem W5:∀{ps:List Λ} {ns:List Int},ps.mapM vR=some ns→∀x∈ns,0≤x∧x≤999
 | [],ns,h=>by
  obtain rfl:([]:List Int)=ns:=by simpa using h
  intro x hx;cases hx
 |p::ps,ns,h=>by
  rw[bPL]at h;cases hp:vR p with
  |none=>rw[hp]at h;cases h
  |some q=>
   cases hq:ps.mapM vR with
   |none=>rw[hp,hq]at h;cases h
   |some qs=>
    rw[hp,hq]at h;obtain rfl:q::qs=ns:=bMQ h;intro x hx;rcases bLO.1 hx with rfl|hx
    ·have:=aAD hp;omega
    ·exact W5 hq x hx

def aRU:List (Λ×Γ)→List (List UInt8×Nat×eJ)→Prop
 | [],[]=>True
 |(b,v)::T,(l,k,act)::L=>b.data.toList=l∧(∃f,v=.agg #[qI (k:Int),.func (.func f) #[] #[]]∧iL Go.Proofs.Tryz.prog f k act)∧aRU T L
 |_,_=>False
theorem bGB:aRU PF kU:=⟨rfl,⟨_,rfl,WR⟩,⟨rfl,⟨_,rfl,aHQ⟩,⟨rfl,⟨_,rfl,aAZ⟩,⟨rfl,⟨_,rfl,aLE⟩,⟨rfl,⟨_,rfl,OG⟩,⟨rfl,⟨_,rfl,aAP⟩,⟨rfl,⟨_,rfl,aQP⟩,⟨rfl,⟨_,rfl,aMH⟩,⟨rfl,⟨_,rfl,aGU⟩,⟨rfl,⟨_,rfl,YV⟩,⟨rfl,⟨_,rfl,YO⟩,⟨rfl,⟨_,rfl,aHH⟩,⟨rfl,⟨_,rfl,UP⟩,⟨rfl,⟨_,rfl,aHC⟩,⟨rfl,⟨_,rfl,WM⟩,⟨rfl,⟨_,rfl,UM⟩,⟨rfl,⟨_,rfl,QM⟩,⟨rfl,⟨_,rfl,RF⟩,⟨rfl,⟨_,rfl,aFU⟩,⟨rfl,⟨_,rfl,aUQ⟩,⟨rfl,⟨_,rfl,ZX⟩,⟨rfl,⟨_,rfl,MK⟩,bRD⟩⟩⟩⟩⟩⟩⟩⟩⟩⟩⟩⟩⟩⟩⟩⟩⟩⟩⟩⟩⟩⟩
theorem aIH(a b:Λ):(a==b)=(b.data.toList==a.data.toList):=by
 rw[bOX];constructor
 ·intro h;rw[beq_toListBytes,ByteArray.toList_eq,ByteArray.toList_eq]at h;rw[eq_of_beq h];simp
 ·intro h;rw[beq_toListBytes,ByteArray.toList_eq,ByteArray.toList_eq,eq_of_beq h];simp
theorem SF(p:Λ):∀(T:List (Λ×Γ)) (L:List (List UInt8×Nat×eJ)) (i:Nat),aRU T L→(AI p T i=none∧L.find? (fun x=>x.1==p.data.toList)=none)∨(∃(j k:Nat) (act:eJ) (f:FuncId),AI p T i=some (j,.agg #[qI (k:Int),.func (.func f) #[] #[]])∧L.find? (fun x=>x.1==p.data.toList)=some (p.data.toList,k,act)∧iL Go.Proofs.Tryz.prog f k act)
 | [],[],_,_=>bMF ⟨rfl,rfl⟩
 | [],_::_,_,h=>h.elim
 |_::_,[],_,h=>h.elim
 |(b,v)::T,(l,k,act)::L,i,h=>by
  obtain⟨rfl,⟨f,rfl,hw⟩,hT⟩:=h;unfold AI;rw[List.find?_cons];rw[aIH p b];cases hb:b.data.toList==p.data.toList with
  |true=>
   refine bLY ⟨i,k,act,f,by rw[bMG rfl],?_,hw⟩;simp only[];rw[eq_of_beq hb]
  |false=>
   rw[bLX Yf];exact SF p T L (i+1) hT
theorem aLI(p:Λ):∃(k:Nat) (c:Γ) (b:Bool),aUM p PF (.agg #[qI 0,.nilFunc])=.agg #[qI (k:Int),c]∧(AI p PF 0).isSome=b∧(b=true→∃act f,kU.find? (fun x=>x.1==p.data.toList)=some (p.data.toList,k,act)∧c=.func (.func f) #[] #[]∧iL Go.Proofs.Tryz.prog f k act)∧(b=false→kU.find? (fun x=>x.1==p.data.toList)=none)∧cell1 c=true:=by
 unfold aUM;rcases SF p _ _ 0 bGB with⟨h1,h2⟩|⟨j,k,act,f,h1,h2,h3⟩
 ·rw[h1];exact⟨0,.nilFunc,false,rfl,rfl,(fun h=>Xab),fun _=>h2,rfl⟩
 ·rw[h1];exact⟨k,_,true,rfl,rfl,fun _=>⟨act,f,h2,rfl,h3⟩,(fun h=>Xab),rfl⟩
theorem IX{p l:List UInt8}{k:Nat}{act:eJ}{s I:aO}{n:List Int}(h:kU.find? (fun x=>x.1==p)=some (l,k,act))(hk:lT s)(ha:act s n=.ok I):lT I:=aAH _ (List.mem_of_find?_eq_some h) s n I hk ha
theorem ZG{line p0:Λ}{ps:List Λ}{k:Nat}{c:Γ}{b:Bool}(h:eC line=p0::ps)(hno:b=false→kU.find? (fun x=>x.1==p0.data.toList)=none)(hyes:b=true→∃act f,kU.find? (fun x=>x.1==p0.data.toList)=some (p0.data.toList,k,act)∧c=.func (.func f) #[] #[]∧iL Go.Proofs.Tryz.prog f k act)(hx:b=false∨¬((eC line).length:Int)-1=(k:Int)):jM line=none:=by
 rw[uM h];cases b with
 |false=>rw[hno rfl]
 |true=>
  obtain⟨act,f,hf,_,_⟩:=hyes rfl;rw[hf];simp only[];rw[bLX];intro e;rcases hx with hx|hx
  ·cases hx
  ·refine hx ?_;rw[h,bLU];omega
theorem aZZ{line p0:Λ}{ps:List Λ}{k:Nat}{b:Bool}(h:eC line=p0::ps)(hf:([(!b||decide (((eC line).length:Int)-1≠(k:Int)))].any fun x=>true==x)=false):b=true∧ps.length=k:=by
 have h2:b=true∧((eC line).length:Int)-1=(k:Int):=by simpa using hf
 refine⟨h2.1,?_⟩;have:=h2.2;rw[h,bLU]at this;omega
theorem bBS(R I O:Nat)(c2:List Γ)(v3:Γ)(D:aC):IV prog 203 [qP R,qP I,qP O] D [(O,qC [v3] 27),(I,qC c2 89)] .returning .returning (fun _ ν'=>ν'=[(O,qC [v3] 27),(I,qC c2 89)]):=by
 refine aOX (t:=6) (rv:=.nilIface) 15 func203 rfl rfl rfl rfl rfl (fun c₀ cs hm=>bLY ⟨aUT hm,rfl,rfl⟩) fun h0 hwl hwn=>Za0<|aA<|ZT rfl U20 rfl (Or.inl rfl) rfl bRD<|aF<|Zag rfl (fun hc1=>?_) fun hc1=>?_
 ·refine aP<|Zf rfl<|Zan<|Za3 ?_;exact eG rfl fun D' hD=>rfl
 ·cases hc1
theorem CR(O I R:Nat)(s:aO)(pv cv hv lv mv bl bc yc yq:Γ)(code:Int)(D:aC)(hB:At D O 0 (dR s pv cv hv lv mv bl bc yc yq))(hL:jR D s pv cv hv lv mv bl bc yc yq):IV prog 203 [qP O,qP I,qP R] D [(R,qC [qI 0] 27),(I,qC [qN,qN,qI 0,qI 0,qI 0,qN,qI 0,qN,qN,qI 0,qI 0,qI 0,qN,qN,qN,qI 0,qN] 89)] (.panicking (oP (fW code))) (.panicking [{v:=fW code,recovered:=true}]) (fun _ ν'=>ν'=[(R,qC [qI code] 27),(I,qC (dR s pv cv hv lv mv bl bc yc yq) 89)]):=by
 refine aOX (t:=6) (rv:=(fW code)) 15 func203 rfl rfl rfl rfl rfl (fun c₀ cs hm=>bMF (aTJ hm)) fun h0 hwl hwn=>Za0<|aA<|ZT rfl U20 rfl (Or.inr ⟨_,_,rfl⟩) rfl bRD<|aF<|Zag rfl (fun hc1=>?_) fun hc1=>?_
 ·cases hc1
 ·refine aA<|aGS rfl U347 rfl rfl bRD<|Zao rfl<|Zao rfl<|aF<|Zag rfl (fun hc2=>?_) (fun hc2=>?_)
  ·refine aA<|Zad rfl aCJ rfl fun U=>Zz rfl aWE ζ<|aF<|fD hB Yf fun hap=>pW fun hnd=>?_;have V:O∉[I]:=by simp[aD.ks]at hap ⊢;exact hap.2.2
   have Y:U∉[I]:=by simp at hnd ⊢;exact hnd.1.2
   refine aDQ [I] 1 [0,1,2,3,4] [false,true,true,true,false] [(false,0),(true,1),(true,2),(true,3),(false,4)] bB (fun _ _ _ _ he h=>aBL (P:=prog) (fn:=f203) _ _ _ _ he h) Yg rfl<|cU rfl lK rfl hB Yc fC Ym rfl bRD<|Zj rfl aIM rfl<|bD rfl tA rfl Mm0 rfl Ym rfl bRD<|nE rfl rfl rfl rfl fC (.tail (.tail ζ)) Yf rfl (gE hL) (Or.inr Yf) bRD<|Zr rfl sZ (.tail ζ) rfl<|Zan<|Za3 ?_;exact K9 (A:=[_]) (ν':=[_,_]) (B:=[]) (vs:=[]) rfl rfl rfl bRD fun D' hD=>rfl
  ·cases hc2
theorem bKA(sv:Γ)(s:aO)(line:Λ)(D:aC)(hs:iD D sv s)(hk0:lT s)(hl:line.size≤1000)(hV:pP D):Fn prog 140 #[sv,.string line] D (fun D' v=>∃v1,v=.tuple #[v1,qI (zM s line).2]∧iD D' v1 (zM s line).1):=by
 have V:=hs;obtain⟨pv,cv,hv,lv,mv,bl,bc,yc,yq,rfl,hL⟩:=hs;have hsm:=hk0.small;unfold dR;obtain⟨p0,ps,hcut⟩:=pK line;obtain⟨wk,wc,wis,hval,his,hyes,hno,hwc⟩:=aLI p0;have hps:ps.length≤1001:=by have:=O1 line;rw[hcut]at this;simp only[bLU]at this;omega
 have hp0:(eC line)[0]?= some p0:=by rw[hcut];rfl
 have hcl:(eC line).length≤1001:=by have:=O1 line;omega
 refine bIR 75 func140 rfl rfl rfl rfl fun h0=>aA<|Zy rfl fun R E1 hE1 Y=>Zad rfl tC rfl fun I=>Zad rfl OY rfl fun O=>aJ<|Zax rfl<|bBQ (c1:=[]) (c2:=[qP R,qP I,qP O]) rfl rfl rfl bRD<|aJ<|Za rfl<|Zaa rfl (fun D1 hD1=>aUR line hl _ (hV.up (hD1 _ Yf))) fun v1 D1 hD1 hp1=>?_
 obtain⟨pa,pc,rfl⟩:=hp1.shape;have hPS:=hp1;refine Zf rfl<|bW<|aLU<|oT [] 5 [true,false,false,false,false,false,false,false,true,false,false] [.fork [1,2,3] 0 (.fin [4,5,6,7,8]) 8 (.fin [0,4,5,6,7]),.fin [9,10]] bB bHS Yg<|AC (γ:=Nat) (fun g=>True) (fun g=>[(24,.agg #[qI (wk:Int),wc]),(25,.bool wis),(7,qP g),(6,.slice pa (eC line).length pc),(4,qP I),(5,qP O),(2,qP R)]) (fun g=>[(g,qC [qI 0,.nilFunc] 351),(O,qC [qI 0] 27),(I,qC [qN,qN,qI 0,qI 0,qI 0,qN,qI 0,qN,qN,qI 0,qI 0,qI 0,qN,qN,qN,qI 0,qN] 89)]) (fun g=>[D1,E1,D]) [.fork [1,2,3] 0 (.fin [4,5,6,7,8]) 8 (.fin [0,4,5,6,7])] [.fin [9,10]] rfl ?_ ?_
 ·refine sX<|bP [(false,1),(false,2),(false,3)] rfl<|Za rfl<|Zx rfl U22 kZ rfl hPS rfl hp0 fun b1 o1 cs1 hr1 hcl1 hA1=>?_;obtain rfl:cs1=[.string _]:=hr1;refine Zh 0 rfl wQ rfl hA1 rfl<|Zan (dV true true rfl rfl ?_ ?_)
  ·refine gI rfl rfl rfl (fun D6 hD6=>SE _) rfl bRD fun wv D7 νm hD7 hm=>?_;obtain⟨bm,es,cl,rfl,rfl,hM⟩:=hm;refine Zan<|aT [(false,4),(false,5),(false,6),(false,7),(true,8)] rfl<|AW (b:=bm) rfl U353 U9 fQ rfl rfl Mm0 n4 hM rfl bRD ?_;rw[hval,his];refine Za rfl<|Zao rfl<|Zao rfl<|Zad rfl fQ rfl fun q4=>Zan ?_;exact fun a w hh=>⟨q4,bRD,hh.weak bQ (.cons_cons _ (.cons _ (.cons_cons _ (.cons_cons _ (.refl _))))) fun D hD=>⟨D,Xdc,Le.refl D⟩⟩
  ·refine Zad rfl fQ rfl fun q4=>Zan<|aT [(true,0),(false,4),(false,5),(false,6),(false,7)] rfl<|gI rfl rfl rfl (fun D6 hD6=>SE _) rfl bRD fun wv D7 νm hD7 hm=>?_;obtain⟨bm,es,cl,rfl,rfl,hM⟩:=hm;refine AW (b:=bm) rfl U353 U9 fQ rfl rfl Mm0 n4 hM rfl bRD ?_;rw[hval,his];refine Za rfl<|Zao rfl<|Zao rfl<|Zan ?_;exact fun a w hh=>⟨q4,bRD,hh.weak bQ (.cons _ (.cons_cons _ (.cons_cons _ (.cons_cons _ (.refl _))))) fun D hD=>⟨D,Xdc,Le.refl D⟩⟩
 rintro qx -;dsimp only;refine nT [(false,9),(false,10)] rfl<|bE rfl rfl rfl rfl bDZ Yb Yb ζ (by intro u hu;simp only[bLO,n4,bNV]at hu;rcases hu with rfl|rfl;rfl;exact hwc) bRD<|Zf rfl<|Zan<|pQ<|bBR<|aA<|Za rfl<|Wbr ?_
 refine' dQ 7 (s:=28) (p:=35) rfl (fun hg1=>?_) (fun hg1=>?_) ?_;rotate_left
 ·refine Zb rfl<|eN rfl U22 rfl hPS rfl rfl ⟨_,rfl,rfl⟩<|xF rfl rfl rfl Ye rfl ⟨_,rfl,rfl⟩<|Zk rfl aHE rfl<|Zp rfl aH rfl Mm0 rfl<|IY rfl rfl rfl rfl ⟨_,rfl,rfl⟩<|Zak rfl ?_;exact aN 6
 ·refine Zg rfl<|Zg rfl<|Wf ?_;exact aN 6
 refine Zt rfl U397 mI pO rfl (.cons rfl rfl .nil) fun b901 D901 hD901 hN=>X7 (A:=[]) (ν:=[]) (B:=[(_,_),(_,_),(_,_)]) rfl rfl rfl rfl (bMF rfl) Yi (fun D30 Z=>gG 4 [(!wis||decide (((eC line).length:Int)-1≠(wk:Int)))] _ _ ((iI (l:=[(!wis||decide (((eC line).length:Int)-1≠(wk:Int)))]) (fun _ _ _ h=>h) hN Yf).up RB.up (Z _ Yf))) rfl bRD (fun v30 D31 Z hB a w hh=>?_) fun v30 D31 ν30 Z hB=>?_
 ·obtain⟨hx30,rfl⟩:=hB;exact ML (X:=Cx.push ⟨none,75,[],h0,h0.size,D,[],none⟩ ⟨.fn (.func 203) [qP R,qP I,qP O].toArray,[].toArray⟩) (P:=prog) (fn:=f140) (f:=203) (c1:=[]) (c2:=[qP R,qP I,qP O]) (A:=[]) (ν:=[(O,_),(I,_)]) (B:=[]) (rs:=[.cell 4 89,.cell 5 27]) Ybb Ybb (fun p hp=>Xbh) (fun D hD=>CR R I O s pv cv hv lv mv bl bc yc yq _ D (Y.up (hD _ Yf)) (hL.up (hD _ Yf))) rfl (fun D ν' hD hq=>by subst hq;exact⟨[_,_],⟨⟨_,_,_,rfl,.tail _ (.head _),bLY ⟨lK,fC,rfl⟩⟩,⟨_,_,_,rfl,.head _,bMF ⟨tA,rfl⟩⟩,bRD⟩,c7 (PC (ZG hcut hno hyes (by simpa using hx30))) (V.up (hD _ Yf))⟩) a w (hh.subB (.cons _ (.refl _)))
 obtain⟨hf30,rfl⟩:=hB;obtain⟨hwis,hlen⟩:=aZZ hcut hf30;obtain⟨act,wf,hfind,rfl,hword⟩:=hyes hwis;refine aJ<|Zf rfl<|bG<|Za rfl<|LI (j:=1) rfl U22 kZ rfl hPS rfl (by rw[hcut];simp) rfl bRD fun ta hT=>?_
 rw[hcut]at hT ⊢
 simp only[List.drop_succ_cons,bPN]at hT;rw[show(p0::ps).length-1=ps.length by simp]at hT ⊢
 refine Zah rfl U22 rfl hT rfl<|Za rfl<|aF<|Za0<|Zc (Nat×Γ×aD×List Int) (fun g=>ps.length-g.1) (fun g=>g.1≤ps.length∧(ps.take g.1).mapM vR=some g.2.2.2∧g.2.2.2.length=g.1∧bM 3 1 g.2.1 g.1 (ints g.2.2.2) g.2.2.1) (fun g=>[(41,qI (g.1:Int)),(9,g.2.1)]) [(40,_),(39,_),(7,_),(4,_),(5,_),(2,_)] (fun g=>g.2.2.1++[(qx,qC [qI (wk:Int),.func (.func wf) #[] #[]] 351),(O,qC [qI 0] 27),(I,qC [qN,qN,qI 0,qI 0,qI 0,qN,qI 0,qN,qN,qI 0,qI 0,qI 0,qN,qN,qN,qI 0,qN] 89)]) (fun g=>[D31,D901,D1,E1,D]) (0,qN,[],[]) ⟨Yf,rfl,rfl,Xaj⟩ ⟨Ya,Ya,bRD⟩ Mm5 ?_;rintro⟨k,v,ν,ns⟩ ⟨h1,h2,h3,ha⟩;simp only at h1 h2 h3 ha;refine aA<|Zam rfl<|bW<|Zaf rfl (fun hc1=>?_) fun hc1=>?_
 ·simp only at hc1;have hk:k<ps.length:=by omega
  obtain⟨x,hx⟩:=cR ps k;have hsz:x.size≤1000:=bOB (aOZ hcut hx) hl;refine aQ<|Za2<|Za0<|aA<|Zx rfl U22 kZ rfl hT rfl hx fun b2 o2 cs2 hr2 hcl2 hA2=>?_;obtain rfl:cs2=[.string _]:=hr2;refine Zh 0 rfl wQ rfl hA2 rfl<|Zf rfl<|aJ<|Za rfl<|Zaa rfl (fun D2 hD2=>aGV x hsz _ (hV.up (hD2 _ Yf))) fun v2 D2 hD2 hp2=>?_;obtain⟨m,nb,rfl,hm1,hm2⟩:=hp2;refine Za rfl<|Zao rfl<|Zao rfl<|Zf rfl<|Zf rfl<|aJ<|Za rfl<|Zas rfl<|Zt rfl U397 mI pO rfl (.cons rfl rfl .nil) fun b902 D902 hD902 hP=>X7 (A:=[]) (ν:=[]) (B:=_) rfl rfl rfl rfl (bMF rfl) Yi (fun D40 hE=>gG 4 [!nb] _ _ ((iI (l:=[!nb]) (fun _ _ _ h=>h) hP Yf).up RB.up (hE _ Yf))) rfl bRD (fun v40 D41 hE hF a w hh=>?_) fun v40 D41 ν40 hE hF=>?_
  ·obtain⟨hx40,rfl⟩:=hF;exact ML (X:=Cx.push ⟨none,75,[],h0,h0.size,D,[],none⟩ ⟨.fn (.func 203) [qP R,qP I,qP O].toArray,[].toArray⟩) (P:=prog) (fn:=f140) (f:=203) (c1:=[]) (c2:=[qP R,qP I,qP O]) (A:=[]) (ν:=[(O,_),(I,_)]) (B:=[]) (rs:=[.cell 4 89,.cell 5 27]) Ybb Ybb (fun p hp=>Xbh) (fun D hD=>CR R I O s pv cv hv lv mv bl bc yc yq _ D (Y.up (hD _ Yf)) (hL.up (hD _ Yf))) rfl (fun D ν' hD hq=>by subst hq;exact⟨[_,_],⟨⟨_,_,_,rfl,.tail _ (.head _),bLY ⟨lK,fC,rfl⟩⟩,⟨_,_,_,rfl,.head _,bMF ⟨tA,rfl⟩⟩,bRD⟩,c7 (PC (aMG hcut hx (hm2 (by simpa using hx40)))) (V.up (hD _ Yf))⟩) a w (hh.subB (.trans (.cons _ (.refl _)) (List.sublist_append_right _ _)))
  obtain⟨hf40,rfl⟩:=hF;have hnb:=hm1 (by simpa using hf40);refine aF<|aP<|Za rfl<|Za rfl<|Zt rfl U35 aI cO rfl (.cons rfl rfl .nil) fun b903 D903 hD903 hH=>?_;have hS903:=Sl.ofInts (l:=[_]) (n:=1) (cap:=1) hH rfl Yd Yd;refine aU (A:=[]) (B:=[(_,_),(_,_),(_,_)]) rfl U35 rfl rfl aI cO rfl kD rfl rfl rfl ha (lD.lit hH) Yf rfl (by simp[ints,h3]) Yk Yd (bMF rfl) rfl bRD fun v1 ν1 ha1=>?_;have ha2:bM 3 1 v1 (k+1) (ints (ns++[m])) ν1:=by rw[←eV];exact ha1
  refine Wan ?_;exact aL 24 (k+1,v1,ν1,ns++[m]) ⟨Yn,TW hx h2 hnb,by simp[h3],ha2⟩ Yn ⟨Ya,Ya,bRD⟩ rfl rfl Mm5 fun D h=>⟨D,bMJ _ (bMJ _ (bMJ _ (bMJ _ (h)))),Le.refl D⟩
 ·obtain rfl:k=ps.length:=by simp only at hc1;omega
  rw[bMP]at h2;refine Za5<|Za1<|Za1<|Za6<|Zay<|Za2<|zE (A:=[]) (B:=[(_,_),(_,_),(_,_)]) ha rfl fun D8 hD8 hF8=>?_;have hnS:=hF8.ints (l:=ns) h3 (by have:=hps;omega)
  refine aP<|Zv rfl lK rfl Y fC<|gI rfl rfl rfl (fun D20 hD20=>DD _ s _ (V.up (hD20 _ Yf)) hsm) rfl bRD fun wv D21 νW hD21 hw=>?_;obtain⟨wb,rfl,hO⟩:∃wb,wv=qP wb∧pS bKT D21 wb s νW:=by
   obtain⟨wb,pv,cv,hv,lv,mv,bl,bc,yc,yq,ν1,ν2,ν3,ν4,ν5,ν6,ν7,ν8,h1,h2,h3⟩:=hw;exact⟨wb,h1,pv,cv,hv,lv,mv,bl,bc,yc,yq,ν1,ν2,ν3,ν4,ν5,ν6,ν7,ν8,h2,h3⟩
  refine Zf rfl<|aJ<|Zj rfl aIB rfl<|Zo rfl bDK rfl (GT _ Mm0) rfl<|Za rfl<|Za rfl<|Zm [] [(_,_),(_,_),(_,_)] νW rfl (b7 hO) (fun D50 U=>hword wb s _ ns νW _ (hnS.up RI.up (U _ Yf)) Yd (W5 h2) (hO.up (U _ Yf)) hsm) (fun v50 D51 U hI a w hh=>?_) fun v50 D51 ν50 U hI=>?_
  ·obtain⟨c50,hx50,rfl⟩:=hI;exact ML (X:=Cx.push ⟨none,75,[],h0,h0.size,D,[],none⟩ ⟨.fn (.func 203) [qP R,qP I,qP O].toArray,[].toArray⟩) (P:=prog) (fn:=f140) (f:=203) (c1:=[]) (c2:=[qP R,qP I,qP O]) (A:=[]) (ν:=[(O,_),(I,_)]) (B:=[]) (rs:=[.cell 4 89,.cell 5 27]) Ybb Ybb (fun p hp=>Xbh) (fun D hD=>CR R I O s pv cv hv lv mv bl bc yc yq _ D (Y.up (hD _ Yf)) (hL.up (hD _ Yf))) rfl (fun D ν' hD hq=>by subst hq;exact⟨[_,_],⟨⟨_,_,_,rfl,.tail _ (.head _),bLY ⟨lK,fC,rfl⟩⟩,⟨_,_,_,rfl,.head _,bMF ⟨tA,rfl⟩⟩,bRD⟩,c7 (aST (o6 hcut hfind hlen h2) hx50) (V.up (hD _ Yf))⟩) a w (hh.subB (.cons _ (.refl _)))
  obtain⟨s2,hact,hO2⟩:=hI;refine bW ?_;have hsm2:O2 s2:=(IX hfind hk0 hact).small;refine BG (B:=[(_,_),(_,_),(_,_)]) hO2 rfl Yf hsm2 fun D9 hR hS hX hY rA rB bc2 yc2 yq2 hD9 hL2=>?_;unfold dR;refine aP<|Za rfl<|Zal rfl<|Zj rfl aZ rfl<|Zac rfl lK rfl Mm0 fC<|X7 (A:=[]) (ν:=[]) (B:=[(_,_),(_,_),(_,_),(_,_)]) rfl rfl rfl rfl (bMF rfl) Yi (fun D60 hJ=>aQS _ s2 _ ⟨hR,hS,hX,hY,rA,rB,bc2,yc2,yq2,rfl,hL2.up (hJ _ Yf)⟩) rfl bRD (fun v60 D61 hJ hK a w hh=>?_) fun v60 D61 ν60 hJ hK=>?_
  ·obtain⟨hx60,rfl⟩:=hK;exact ML (X:=Cx.push ⟨none,75,[],h0,h0.size,D,[],none⟩ ⟨.fn (.func 203) [qP R,qP I,qP O].toArray,[].toArray⟩) (P:=prog) (fn:=f140) (f:=203) (c1:=[]) (c2:=[qP R,qP I,qP O]) (A:=[]) (ν:=[(O,_),(I,_)]) (B:=[]) (rs:=[.cell 4 89,.cell 5 27]) Ybb Ybb (fun p hp=>Xbh) (fun D hD=>CR R I O s pv cv hv lv mv bl bc yc yq _ D (Y.up (hD _ Yf)) (hL.up (hD _ Yf))) rfl (fun D ν' hD hq=>by subst hq;exact⟨[_,_],⟨⟨_,_,_,rfl,.tail _ (.head _),bLY ⟨lK,fC,rfl⟩⟩,⟨_,_,_,rfl,.head _,bMF ⟨tA,rfl⟩⟩,bRD⟩,c7 (aTD (o6 hcut hfind hlen h2) hact hx60) (V.up (hD _ Yf))⟩) a w (hh.subB (.cons _ (.cons _ (.refl _))))
  obtain⟨hf60,rfl⟩:=hK;refine aJ<|Za rfl<|Zal rfl<|Zj rfl aZ rfl<|Zac rfl lK rfl Mm0 fC<|bE rfl rfl rfl rfl fC Yb Yb (.tail (.tail (.tail ζ))) (gE hL2) bRD<|Zr rfl sZ (.tail (.tail ζ)) rfl<|aG<|bID (X:=Cx.push ⟨none,75,[],h0,h0.size,D,[],none⟩ ⟨.fn (.func 203) [qP R,qP I,qP O].toArray,[].toArray⟩) (P:=prog) (fn:=f140) (f:=203) (e:=.ret) (c1:=[]) (c2:=[qP R,qP I,qP O]) (A:=[(_,_),(_,_)]) (ν:=[(O,qC [qI 0] 27),(I,qC (dR s2 hR hS hX hY rA rB bc2 yc2 yq2) 89)]) (B:=[]) (rs:=[.cell 4 89,.cell 5 27]) Ybb Ybb Ybb (fun p hp=>Xbh) (fun D hD=>bBS R I O _ _ D) rfl ?_
  intro D ν' hD hq;subst hq;exact⟨[_,_],⟨⟨_,_,_,rfl,.tail _ (.tail _ (.tail _ (.head _))),bLY ⟨lK,fC,rfl⟩⟩,⟨_,_,_,rfl,.tail _ (.tail _ (.head _)),bMF ⟨tA,rfl⟩⟩,bRD⟩,Q7 (aCI (o6 hcut hfind hlen h2) hact hf60) ⟨hR,hS,hX,hY,rA,rB,bc2,yc2,yq2,rfl,hL2.up (hD D9 Yf)⟩⟩
def cJ(ls:List Λ):aO×List Int:=ls.foldl (fun p l=>((zM p.1 l).1,p.2++[(zM p.1 l).2])) (C6,[])
theorem ED{ls:List Λ}{k:Nat}{x:Λ}(h:ls[k]?= some x):cJ (ls.take (k+1))=((zM (cJ (ls.take k)).1 x).1,(cJ (ls.take k)).2++[(zM (cJ (ls.take k)).1 x).2]):=by
 unfold cJ;rw[bLW,h,bNM];rfl
theorem EQ{line:Λ}{act:eJ}{n:List Int}{s I:aO}(h:jM line=some (act,n))(hk:lT s)(ha:act s n=.ok I):lT I:=by
 unfold jM at h;split at h
 ·cases h
 ·split at h
  ·cases h
  ·rename_i l k act' hf;split at h
   ·obtain⟨m,_,hm⟩:=bOY.1 h;cases hm;exact IX hf hk ha
   ·cases h
theorem OZ{s:aO}(hk:lT s)(line:Λ):lT (zM s line).1:=by
 unfold zM;split
 ·exact hk
 ·rename_i act n h;split
  ·exact hk
  ·rename_i s' ha;split
   ·exact EQ h hk ha
   ·exact hk
theorem A7:lT C6:=⟨Yu,Yu,Yu,Yu,Yu,Yu,Yu,Yu,Yu⟩
theorem bAJ{q:Nat}{o:Obj}{ν B:aD}(h:(aD.ks ((q,o)::(ν++B))).Nodup):∀p∈ν,p.1∉[q]:=by
 intro p hp hm;obtain rfl:p.1=q:=by simpa using hm
 exact(bNP.1 h).1 (GE.2 ⟨p,bMA _ hp,rfl⟩)
structure bEI where
 (k:Nat) (s:aO) (es:List Int) (pv cv hv lv mv bl bc yc yq v:Γ) (ν:aD) (Dn:aC)
theorem bAF(lv:Γ)(ls:List Λ)(D:aC)(hS:Sl D RS 1 lv ls)(hn:ls.length≤1000)(hsz:∀l∈ls,l.size≤1000)(hV:pP D):Fn prog 69 #[lv] D (fun D' v=>∃V v2,v=.tuple #[V,v2]∧iD D' V (cJ ls).1∧Sl D' RI 1 v2 (cJ ls).2):=by
 refine Zw 31 func69 rfl fun h0=>aA<|Zad rfl tC rfl fun q1=>Zf rfl<|aJ<|Zaa rfl (fun D1 Z=>yR _) fun V D1 Z hB=>?_;obtain⟨pv,cv,hv,O,mv,bl,bc,yc,yq,rfl,hL⟩:=hB;unfold dR;refine Zad rfl tC rfl (fun q2=>bE rfl rfl rfl rfl fC Yb Yb ζ (gE hL) bRD<|aJ<|Zf rfl<|bG<|Za rfl<|eN rfl U22 rfl Yl rfl rfl bRD<|Za rfl<|aF<|Za0<|fZ (γ:=bEI) (fun g=>ls.length-g.k) (fun g=>g.k≤ls.length∧cJ (ls.take g.k)=(g.s,g.es)∧g.es.length=g.k∧bM 27 1 g.v g.k (ints g.es) g.ν∧jR g.Dn g.s g.pv g.cv g.hv g.lv g.mv g.bl g.bc g.yc g.yq∧lT g.s) (fun g=>[(13,qI (g.k:Int)),(5,g.v)]) [(12,_),(11,_),(4,_),(3,_),(2,_)] (fun g=>g.ν++[(q2,qC (dR g.s g.pv g.cv g.hv g.lv g.mv g.bl g.bc g.yc g.yq) 89),(q1,qC [qN,qN,qI 0,qI 0,qI 0,qN,qI 0,qN,qN,qI 0,qI 0,qI 0,qN,qN,qN,qI 0,qN] 89)]) (fun g=>[g.Dn,D]) ⟨0,C6,[],pv,cv,hv,O,mv,bl,bc,yc,yq,qN,[],D1⟩ ⟨Yf,by simp[cJ],rfl,Xaj,hL,A7⟩ ⟨Ya,Ya,bRD⟩ bQ Mm5 (Yal) ?_);rintro⟨k,s,es,pv,cv,hv,lv,mv,bl,bc,yc,yq,v,ν,Dn⟩ ⟨h1,hp,h3,ha,hL,hk⟩;simp only at h1 hp h3 ha hL hk;refine aA<|Zam rfl<|bW<|Zaf rfl (fun hc1=>?_) fun hc1=>?_
 ·simp only at hc1;have hlt:k<ls.length:=by omega
  obtain⟨x,hx⟩:=cR ls k;refine aQ<|Za2<|Za0<|aA<|Zx rfl U22 kZ rfl (hS.up RS.up (Le.refl _)) rfl hx fun b1 o1 hE hF hcl1 hH=>?_;obtain rfl:hE=[.string _]:=hF;refine Zh 0 rfl wQ rfl hH rfl<|Zf rfl<|aJ<|Zac rfl lK rfl (GT _ Mm0) fC<|Za rfl<|Zaa rfl (fun D2 R=>bKA _ s x _ ⟨pv,cv,hv,lv,mv,bl,bc,yc,yq,rfl,hL.up (R _ Yf)⟩ hk (hsz x (n5 hx)) (hV.up (R _ Yf))) fun v2 D2 R hI=>?_;obtain⟨w1,rfl,hJ,hK,hN,O,hO,hP,hR,hX,hY,rfl,U⟩:=hI;have rA:=OZ hk x;unfold dR;refine Za rfl<|Zao rfl<|Zao rfl<|Zad rfl tC rfl fun Y=>bE rfl rfl rfl rfl fC Yb Yb ζ (gE U) bRD<|Zf rfl<|aF<|pW fun hnd=>?_;have hnu:∀p∈ν,p.1∉[Y]:=bAJ hnd;have hq3:Y∉dC.mk [Y]:=dC.out Yf;refine bS (dC.mk [Y]) 3 7 30<|bI rfl lK rfl Mm0 fC Ym rfl bRD<|Za rfl<|Za rfl<|Zt rfl U90 sZ OY rfl (.cons rfl rfl .nil) fun b901 D901 rB I=>?_;have hS901:=Sl.ofInts (l:=[_]) (n:=1) (cap:=1) I rfl Yd Yd;refine aU (A:=[(_,_)]) (B:=[(_,_),(_,_)]) rfl U90 rfl rfl sZ OY rfl bGG rfl rfl rfl ha (lD.lit I) Yf rfl (by simp[ints,h3]) Yk Yd (bLY fun p hp=>dC.in_ (hnu p hp)) rfl bRD fun V ν1 ha1=>?_;have ha2:bM 27 1 V (k+1) (ints (es++[(zM s x).2])) ν1:=by rw[←eV];exact ha1
  refine aY ((Y,_)::(ν1++[(q2,_),(q1,_)])) rfl<|bE rfl rfl rfl rfl fC Yb Yb (.tail (.app ζ)) (gE U) bRD<|Wan ?_;exact aL 22 ⟨k+1,(zM s x).1,es++[(zM s x).2],hJ,hK,hN,O,hO,hP,hR,hX,hY,V,ν1,D2⟩ ⟨Yn,by simp only;rw[ED hx,hp],by simp[h3],ha2,U,rA⟩ Yn ⟨Ya,Ya,bRD⟩ rfl rfl (List.Sublist.cons _ Mm5) (Yal)
 ·obtain rfl:k=ls.length:=by simp only at hc1;omega
  rw[bMP]at hp;refine Za5<|Za1<|Za1<|Za6<|Zay<|aA<|Zac rfl lK rfl (GT _ Mm0) fC<|Za rfl<|bE rfl rfl rfl rfl fC Yb Yb (.app (.tail ζ)) (gE hL) bRD<|Zf rfl<|aG<|dU (A:=[]) (B:=[(_,_),(_,_)]) ha rfl fun D9 hD9 hF9=>?_;have hes:=hF9.ints (l:=es) h3 Yd;exact Zq [_,_] rfl ⟨⟨_,_,_,rfl,bMJ _ Mm0,bLY ⟨lK,fC,rfl⟩⟩,rfl,bRD⟩ fun D hD=>⟨_,_,rfl,Xdd,by rw[hp];exact hes.up RI.up (hD _ Yf)⟩
def aUE:aO:=⟨{places:=[],counts:=[],wrong:=0,off:=0},{last:=0,heights:=[],step:=0,levels:=[],marks:=[]},{chairs:=0,coin:=0,box:=0,lines:=[],counts:=[]},{chairs:=[],fit:=0,claims:=[]}⟩
def aR(ls:List Λ):aO×List Int×Int:=if eT ls=0 then((cJ ls).1,(cJ ls).2,0)else(aUE,[],eT ls)
theorem nQ{ls:List Λ}(h:eT ls=0):aR ls=((cJ ls).1,(cJ ls).2,0):=bMG h
theorem sN{ls:List Λ}(h:eT ls≠0):aR ls=(aUE,[],eT ls):=bLX h
theorem JR{ls:List Λ}(h:eT ls=0):ls.length≤40∧∀l∈ls,l.size≤50:=by
 unfold eT at h;split at h
 ·cases h
 ·rename_i h2;simp only[bMU,LT,bOQ,bQX,Bool.not_eq_false,bMK]at h2;refine⟨Yd,fun l hl=>?_⟩;have:=h2.2 l hl;omega
theorem KX{ls:List Λ}(h:eT ls=0):ls.length≤40:=(JR h).1
theorem VE{ls:List Λ}(h:eT ls=0):∀l∈ls,l.size≤50:=(JR h).2
theorem bAX(D:aC):iD D (.agg #[qN,qN,qI 0,qI 0,qI 0,qN,qI 0,qN,qN,qI 0,qI 0,qI 0,qN,qN,qN,qI 0,qN]) aUE:=⟨_,_,_,_,_,_,_,_,_,rfl,⟨Sl.nil,Sl.nil,Sl.nil,Sl.nil,Sl.nil,Sl.nil,Sl.nil,Sl.nil,Sl.nil⟩⟩
theorem uZ(ls:List Λ):lT (cJ ls).1:=by
 have:∀(ls:List Λ) (p:aO×List Int),lT p.1→lT (ls.foldl (fun p l=>((zM p.1 l).1,p.2++[(zM p.1 l).2])) p).1:=by
  intro ls;induction ls with
  |nil=>exact fun p h=>h
  |cons l ls ih=>exact fun p h=>ih _ (OZ h l)
 exact this ls _ A7
theorem RK(ls:List Λ)(h:(aR ls).2.2=0):lT (aR ls).1:=by
 by_cases hf:eT ls=0
 ·rw[nQ hf];exact uZ ls
 ·rw[sN hf]at h;exact absurd h hf
theorem ER(ls:List Λ):(aR ls).1.row.places.length≤7:=by
 by_cases hf:eT ls=0
 ·rw[nQ hf];exact(uZ ls).pl
 ·rw[sN hf];exact bRB _
theorem FG(ls:List Λ):(aR ls).1.book.lines.length≤8:=by
 by_cases hf:eT ls=0
 ·rw[nQ hf];exact(uZ ls).ln
 ·rw[sN hf];exact bRB _
def mX(ls:List Λ):(Int×Int)×Int:=if(aR ls).2.2=0 then(if C3.A0 (aR ls).1.book (C1.gU ((aR ls).1.book.lines.length:Int) 0 ((aR ls).1.book.lines.length:Int))=0 then L3.HZ (fun s=>s.money) (aR ls).1.book (((aR ls).1.book.lines.length:Int)).toNat else(0,0),C3.A0 (aR ls).1.book (C1.gU ((aR ls).1.book.lines.length:Int) 0 ((aR ls).1.book.lines.length:Int)))else((0,0),(aR ls).2.2)
def mG(ls:List Λ):(Int×Int)×Int:=if(aR ls).2.2=0 then(if C1.eE (aR ls).1.row (C1.qM (aR ls).1.row 0 (((aR ls).1.row.places.length:Int)-1))=0 then(C1.EB (C1.truths (aR ls).1.row) (0:Int).toNat (((aR ls).1.row.places.length:Int)-1).toNat,C1.DR (C1.truths (aR ls).1.row) (0:Int).toNat (((aR ls).1.row.places.length:Int)-1).toNat)else(0,0),C1.eE (aR ls).1.row (C1.qM (aR ls).1.row 0 (((aR ls).1.row.places.length:Int)-1)))else((0,0),(aR ls).2.2)
theorem CH(lv:Γ)(ls:List Λ)(D:aC)(hS:Sl D RS 1 lv ls)(hV:pP D):Fn prog 23 #[lv] D (fun D' v=>∃U v2,v=.tuple #[U,v2,qI (aR ls).2.2]∧iD D' U (aR ls).1∧Sl D' RI 1 v2 (aR ls).2.1):=by
 refine Zw 19 func23 rfl fun h0=>aA<|Zad rfl tC rfl fun Y=>Zf rfl<|Zf rfl<|bG<|Za rfl<|Zd rfl (fun Z O=>yU _ ls _ (hS.up RS.up (O _ Yf)))<|Wbg ?_;refine aF<|Zaf rfl (fun hc1=>?_) fun hc1=>?_
 ·have hf:eT ls≠0:=by simpa using hc1
  refine aA<|iB (cs:=[qN,qN,qI 0,qI 0,qI 0,qN,qI 0,qN,qN,qI 0,qI 0,qI 0,qN,qN,qN,qI 0,qN]) rfl bHG tC rfl Yg rfl bRD<|Za rfl<|bE rfl rfl rfl rfl fC Yb Yb ζ Yk bRD<|Zf rfl<|Wi ?_;exact Zq [_,_,_] rfl ⟨⟨_,_,_,rfl,Mm0,Or.inr ⟨lK,fC,rfl⟩⟩,rfl,rfl,bRD⟩ fun D hD=>⟨_,_,by rw[sN hf];rfl,by rw[sN hf];exact bAX D,by rw[sN hf];exact Sl.nil⟩
 ·have hf:eT ls=0:=by simpa using hc1
  refine aQ<|aA<|Za rfl<|Zaa rfl (fun V I=>bAF _ ls _ (hS.up RS.up (I _ Yf)) (by have:=KX hf;omega) (fun l hl=>by have:=VE hf l hl;omega) (hV.up (I _ Yf))) fun v2 V I R=>?_;obtain⟨w1,w2,rfl,⟨pv,cv,hv,lv,mv,bl,bc,yc,yq,rfl,hL⟩,hes⟩:=R;unfold dR;refine Za rfl<|Zao rfl<|Zao rfl<|bE rfl rfl rfl rfl fC Yb Yb ζ (gE hL) bRD<|Zf rfl<|aJ<|Zac rfl lK rfl Mm0 fC<|Za rfl<|bE rfl rfl rfl rfl fC Yb Yb ζ (gE hL) bRD<|Zf rfl<|We ?_;exact Zq [_,_,_] rfl ⟨⟨_,_,_,rfl,Mm0,Or.inr ⟨lK,fC,rfl⟩⟩,rfl,rfl,bRD⟩ fun D hD=>⟨_,_,by rw[nQ hf]<;>rfl,by rw[nQ hf];exact⟨pv,cv,hv,lv,mv,bl,bc,yc,yq,rfl,hL.up (hD _ Yf)⟩,by rw[nQ hf];exact hes.up RI.up (hD _ Yf)⟩
theorem EM(rv:Γ)(r:C1.dO)(i j:Int)(D:aC)(hr:oI D rv r):Fn prog 26 #[rv,qI i,qI j] D (fun _ v=>v=.tuple #[lE (if C1.eE r (C1.qM r i j)=0 then(C1.EB (C1.truths r) i.toNat j.toNat,C1.DR (C1.truths r) i.toNat j.toNat)else(0,0)),qI (C1.eE r (C1.qM r i j))]):=
 (L1.R0 rv r i j D hr).mono fun D' v _ h=>by rw[h];split<;>rfl
theorem K7(lv:Γ)(ls:List Λ)(D:aC)(hS:Sl D RS 1 lv ls)(hV:pP D):Fn prog 8 #[lv] D (fun _ v=>v=.tuple #[lE (mX ls).1,qI (mX ls).2]):=by
 refine Zw 26 func8 rfl fun h0=>aA<|Zad rfl lL rfl fun Z=>Zf rfl<|aJ<|Za rfl<|Zaa rfl (fun Y I=>CH _ ls _ (hS.up RS.up (I _ Yf)) (hV.up (I _ Yf))) fun v1 Y I O=>?_;obtain⟨w1,w2,rfl,⟨pv,cv,hv,lv,mv,bl,bc,yc,yq,rfl,hL⟩,hes⟩:=O;unfold dR;have hst:(aR ls).2.2=0→lT (aR ls).1:=RK ls;have U:(aR ls).1.row.places.length≤7:=ER ls;have V:(aR ls).1.book.lines.length≤8:=FG ls;refine Za rfl<|Zao rfl<|Zao rfl<|Zao rfl<|Zad rfl tC rfl fun q2=>Waq ?_;refine Zaf rfl (fun hc1=>?_) fun hc1=>?_
 ·have hf:(aR ls).2.2≠0:=by simpa using hc1
  refine aA<|Zu [qI 0,qI 0] rfl A2 lL rfl<|Za rfl<|bE rfl rfl rfl rfl eF Yb Yb (.tail ζ) Yk bRD<|Wi ?_;exact Zq [_,_] rfl ⟨⟨_,_,_,rfl,Mm1,Or.inr ⟨lZ,eF,rfl⟩⟩,rfl,bRD⟩ fun D hD=>by unfold mX;rw[bLX hf];rfl
 ·have hf:(aR ls).2.2=0:=by simpa using hc1
  refine aQ<|aA<|Zj rfl fS rfl<|dX rfl gO fG rfl Mm0 rfl rfl n4 rfl bRD<|Zj rfl fS rfl<|Zj rfl dN rfl<|Zo rfl hG rfl Mm0 rfl<|Zah rfl U80 rfl (hL.ln.up kE.up (Le.refl _)) rfl<|Zd rfl (fun D2 R=>L3.K7 _ (aR ls).1.book ((aR ls).1.book.lines.length:Int) _ (hL.book.up (R _ Yf)))<|Zao rfl<|Zao rfl<|bE rfl rfl rfl rfl eF Yb Yb (.tail ζ) Yk bRD ?_;refine We ?_;exact Zq [_,_] rfl ⟨⟨_,_,_,rfl,Mm1,Or.inr ⟨lZ,eF,rfl⟩⟩,rfl,bRD⟩ fun D hD=>by unfold mX;rw[bMG hf];rfl
theorem R0(lv:Γ)(ls:List Λ)(D:aC)(hS:Sl D RS 1 lv ls)(hV:pP D):Fn prog 10 #[lv] D (fun _ v=>v=.tuple #[lE (mG ls).1,qI (mG ls).2]):=by
 refine Zw 27 func10 rfl fun h0=>aA<|Zad rfl pF rfl fun Z=>Zf rfl<|aJ<|Za rfl<|Zaa rfl (fun Y I=>CH _ ls _ (hS.up RS.up (I _ Yf)) (hV.up (I _ Yf))) fun v1 Y I O=>?_;obtain⟨w1,w2,rfl,⟨pv,cv,hv,lv,mv,bl,bc,yc,yq,rfl,hL⟩,hes⟩:=O;unfold dR;have hst:(aR ls).2.2=0→lT (aR ls).1:=RK ls;have U:(aR ls).1.row.places.length≤7:=ER ls;have V:(aR ls).1.book.lines.length≤8:=FG ls;refine Za rfl<|Zao rfl<|Zao rfl<|Zao rfl<|Zad rfl tC rfl fun q2=>Waq ?_;refine Zaf rfl (fun hc1=>?_) fun hc1=>?_
 ·have hf:(aR ls).2.2≠0:=by simpa using hc1
  refine aA<|Zu [qI 0,qI 0] rfl W9 pF rfl<|Za rfl<|bE rfl rfl rfl rfl iE Yb Yb (.tail ζ) Yk bRD<|Wi ?_;exact Zq [_,_] rfl ⟨⟨_,_,_,rfl,Mm1,Or.inr ⟨vV,iE,rfl⟩⟩,rfl,bRD⟩ fun D hD=>by unfold mG;rw[bLX hf];rfl
 ·have hf:(aR ls).2.2=0:=by simpa using hc1
  refine aQ<|aA<|Zj rfl eB rfl<|dX rfl mM lY rfl Mm0 rfl rfl n4 rfl bRD<|Zj rfl eB rfl<|Zj rfl fF rfl<|Zo rfl cF rfl Mm0 rfl<|Zah rfl U35 rfl (hL.pl.up RI.up (Le.refl _)) rfl<|Zau rfl<|Zd rfl (fun D2 R=>EM _ (aR ls).1.row 0 (((aR ls).1.row.places.length:Int)-1) _ (hL.row.up (R _ Yf)))<|Zao rfl<|Zao rfl ?_;refine bE rfl rfl rfl rfl iE Yb Yb (.tail ζ) Yk bRD<|We ?_;exact Zq [_,_] rfl ⟨⟨_,_,_,rfl,Mm1,Or.inr ⟨vV,iE,rfl⟩⟩,rfl,bRD⟩ fun D hD=>by unfold mG;rw[bMG hf];rfl
end L12
variable{P:Program}{X:Cx}{γb:Type}[Membership Nat γb]{bad:γb}{all:Array Oper}{K:Act→Δ→Prop}{Q:Exit→Act→Δ→Prop}
variable{σ:bX}{μ:aD}{Ds:List aC}{os:List (Bool×Nat)}{fl:Bool}{ix:Nat}
variable{d:Nat}{x y z:Operand}{u v:Γ}{ty:Θ}{pos:String}{aft:Array Edge}{g:Option (Nat×Bool)}
theorem XH{A B ν:aD}{t t1 e tr:Θ}{sz n m:Nat}{cells xs:List Γ}{xv:Γ}{z0:Γ}{ats:Array Θ}
  (ho:all[ix]?= some ⟨some d,.call {callee:=.builtin .append,args:=#[x,y],argTypes:=ats},tr,pos,aft,g⟩) (ht:P.underlying t=some (.slice e)) (hat:ats[0]?= some t) (I:ats[1]?= some t1) (R:P.underlying t1=some .string)
  (hs:TS P e sz) (hz:TZ P e z0) (U:Nat.beq z0.cells.size sz=true) (hi:(P.info? e).map (fun i=>Nat.ble 1 i.bytes&&Nat.ble i.bytes 4096)=some true) (O:Nat.ble 1 sz=true)
  (hx:ev σ x=some v) (hy:ev σ y=some xv) (hacc:bM e sz v n cells ν) (hsrc:∀a w,Hl X σ (A++ν++B) Ds a w→(Builtin.lenOf xv).run P w=.ok m w∧∀w',w'.heap=w.heap→(Builtin.firstCells sz m xv).run P w'=.ok xs.toArray w') (hxl:xs.length=m*sz) (hcl:cells.length=n*sz) (hx1:∀u∈xs,cell1 u=true) (hlen:n+m≤10000000)
  (hfl:fl=false∨∀p∈ν,p.1∈bad) (hcapB:UF v)
  (hN:Nat.blt d X.N=true) (hg:cZ all σ g)
  (kk:∀v' ν',bM e sz v' (n+m) (cells++xs) ν'→UF v'→WL P X bad all K Q os ((d,v')::σ) (A++ν'++B) Ds):WL P X bad all K Q ((fl,ix)::os) σ (A++ν++B) Ds:=
 FI ho ht hat I (bMF R) hs hz U hi O hx hy hacc hsrc hxl hcl hx1 hlen hfl hN hg fun v' ν' h h2=>kk v' ν' h (h2 hcapB)
def bc(l:List UInt8):List Γ:=l.map fun b=>.int .u8 b.toNat
theorem mP(l:List UInt8):(bc l).length=l.length:=by simp[bc]
theorem uJ(a b:List UInt8):bc (a++b)=bc a++bc b:=by simp[bc]
theorem lU(l:List UInt8):∀u∈bc l,cell1 u=true:=by
 intro u hu;obtain⟨b,_,rfl⟩:=GE.1 hu;rfl
theorem UV{A B ν:aD}{t t1 e tr:Θ}{n:Nat}{cells:List Γ}{s:Λ}{z0:Γ}{ats:Array Θ}
  (ho:all[ix]?= some ⟨some d,.call {callee:=.builtin .append,args:=#[x,y],argTypes:=ats},tr,pos,aft,g⟩) (ht:P.underlying t=some (.slice e)) (hat:ats[0]?= some t) (I:ats[1]?= some t1) (O:P.underlying t1=some .string)
  (hs:TS P e 1) (hz:TZ P e z0) (R:Nat.beq z0.cells.size 1=true) (hi:(P.info? e).map (fun i=>Nat.ble 1 i.bytes&&Nat.ble i.bytes 4096)=some true)
  (hx:ev σ x=some v) (hy:ev σ y=some (.string s)) (hacc:bM e 1 v n cells ν) (hcl:cells.length=n) (hlen:n+s.size≤10000000) (hfl:fl=false∨∀p∈ν,p.1∈bad) (hcapB:UF v) (hN:Nat.blt d X.N=true) (hg:cZ all σ g)
  (kk:∀v' ν',bM e 1 v' (n+s.size) (cells++bc s.data.toList) ν'→UF v'→WL P X bad all K Q os ((d,v')::σ) (A++ν'++B) Ds):WL P X bad all K Q ((fl,ix)::os) σ (A++ν++B) Ds:=by
 refine XH (m:=s.size) (xs:=bc s.data.toList) ho ht hat I O hs hz R hi rfl hx hy hacc (fun a w _=>⟨rfl,fun w' _=>?_⟩) (by rw[mP,bNY];rfl) Yd (lU _) hlen hfl hcapB hN hg kk;exact Go.Lib.run_firstCells_string (P:=P) w' 1 s

theorem aWL{t t' e:Θ}{p:Option Addr}(ho:all[ix]?= some ⟨some d,.binOp .eql t x y t',ty,pos,aft,g⟩)(ht:P.underlying t=some (.pointer e))(hx:ev σ x=some (.pointer p))(hy:ev σ y=some (.pointer none))(hN:Nat.blt d X.N=true)(hg:cZ all σ g)
  (kk:WL P X bad all K Q os ((d,.bool p.isNone)::σ) μ Ds):WL P X bad all K Q ((fl,ix)::os) σ μ Ds:=
 W0 ho (fun w=>by
  have hgd:(eqGuard .eql t x y (.pointer p) (.pointer none)).run P w=.ok () w:=by
   simp only[eqGuard];simp[go_sem]
  have heq:(Op.equal t (.pointer p) (.pointer none)).run P w=.ok p.isNone w:=by
   show(Op.equalIn (9999+1) t (.pointer p) (.pointer none)).run P w=_;rw[Op.equalIn,Ω,TU.of ht w];cases p<;>rfl
  rw[Ω,hgd];show((do Pure.pure (Value.bool (←Op.equal t (.pointer p) (.pointer none)))):Sem Γ).run P w=_;rw[Ω,heq];rfl) hx hy hN hg kk
theorem bDM{t t' e sz b:Nat}(ho:all[ix]?= some ⟨some d,.binOp .neq t x y t',ty,pos,aft,g⟩)(ht:P.underlying t=some (.pointer e))(hs:TS P e sz)(hz:Nat.beq sz 0=false)(hx:ev σ x=some (qP b))(hy:ev σ y=some (qP b))(hN:Nat.blt d X.N=true)(hg:cZ all σ g)
  (kk:WL P X bad all K Q os ((d,.bool false)::σ) μ Ds):WL P X bad all K Q ((fl,ix)::os) σ μ Ds:=
 MY ho (fun w=>by
  have hz':sz≠0:=fun h=>by subst h;cases hz
  have hgd:(eqGuard .neq t x y (qP b) (qP b)).run P w=.ok () w:=by
   simp only[eqGuard];simp[go_sem]
  have heq:(Op.equal t (qP b) (qP b)).run P w=.ok true w:=by
   show(Op.equalIn (9999+1) t _ _).run P w=_;rw[Op.equalIn,Ω,TU.of ht w];show(do if(←sizeOf e)≠0 then sameAddr ⟨b,0,none⟩ ⟨b,0,none⟩else if((⟨b,0,none⟩:Addr)==⟨b,0,none⟩)=true then Pure.pure true else Pure.pure ((←choose .zeroSizeEq)=1):Sem Bool).run P w=_;rw[Ω,hs w];show(if sz≠0 then _ else _:Sem Bool).run P w=_;rw[bMG hz'];simp[sameAddr,go_sem]
  rw[Ω,hgd];show((do Pure.pure (Value.bool (!(←Op.equal t (qP b) (qP b))))):Sem Γ).run P w=_;rw[Ω,heq];rfl) hx hy hN hg kk
theorem aAC{t1 t2 t e b:Θ}{vs:List Γ}(ho:all[ix]?= some ⟨some d,.convert t1 t2 x,ty,pos,aft,g⟩)(h1:P.underlying t1=some (.pointer t))(h2:P.underlying t2=some .unsafePointer)(ht:(P.info? t).map (fun j=>Nat.beq j.size 0)=some false)(hx:ev σ x=some (qP b))
  (hm:(b,.cells vs.toArray e (0,0))∈μ) (hv:Nat.beq vs.length 0=false) (hb:b∉bad) (hN:Nat.blt d X.N=true) (hg:cZ all σ g) (kk:WL P X bad all K Q os ((d,qP b)::σ) μ Ds):WL P X bad all K Q ((fl,ix)::os) σ μ Ds:=
 oZ ho rfl rfl hN hg (fun a w hh w' hk=>by
  obtain⟨j,hj,I⟩:=bOY.1 ht;have hbx:=hh.boxAt hm hb hk;have hl:0<vs.length:=by
   cases h:vs.length with
   |zero=>rw[h]at hv;cases hv
   |succ n=>omega
  have:=Go.Lib.run_to_unsafe (P:=P) (w:=w') (e:=e) (cells:=vs.length) ⟨b,0,none⟩ h1 h2 hj (fun h=>by rw[h]at I;cases I) (by simp[World.shape?,hbx]) hl;simp only[execOp,hh.eval hx];rw[Ω,this];rfl) kk
theorem NM{t1 t2 t e b:Θ}{vs:List Γ}(ho:all[ix]?= some ⟨some d,.convert t1 t2 x,ty,pos,aft,g⟩)(h1:P.underlying t1=some .unsafePointer)(h2:P.underlying t2=some (.pointer t))(ht:(P.info? t).isSome=true)(hx:ev σ x=some (qP b))
  (hm:(b,.cells vs.toArray e (0,0))∈μ) (hl:liesAt P P.depth e (vs.length / P.cellsOf e) 0 t 1=true) (hb:b∉bad) (hN:Nat.blt d X.N=true) (hg:cZ all σ g) (kk:WL P X bad all K Q os ((d,qP b)::σ) μ Ds):WL P X bad all K Q ((fl,ix)::os) σ μ Ds:=
 oZ ho rfl rfl hN hg (fun a w hh w' hk=>by
  obtain⟨j,hj⟩:=Option.isSome_iff_exists.1 ht;have hbx:=hh.boxAt hm hb hk;have:=Go.Lib.run_from_unsafe (P:=P) (w:=w') (e:=e) (cells:=vs.length) ⟨b,0,none⟩ h1 h2 hj (by simp[World.shape?,hbx]) hl;simp only[execOp,hh.eval hx];rw[Ω,this];rfl) kk
theorem aAJ{c:Operand}{xs:Array Operand}{ats:Array Θ}{f:FuncId}{fn:Func}(ho:all[ix]?= some ⟨some d,.call {callee:=.value c,args:=xs,argTypes:=ats},ty,pos,aft,g⟩)(hc:ev σ c=some (.func (.func f) #[] #[]))(hxs:x5 σ xs.toList=some [v])
  (hf:P.funcs[f]?= some fn) (hname:(fn.name== "runtime.NumGoroutine")=false) (hb:fn.body.isNone=true) (hn:Extern.findNext fn=none) (he:Extern.find fn=some Extern.AbiNoEscape.same) (hN:Nat.blt d X.N=true) (hg:cZ all σ g)
  (kk:WL P X bad all K Q os ((d,v)::σ) μ Ds):WL P X bad all K Q ((fl,ix)::os) σ μ Ds:=by
 refine fJ ho rfl rfl hg fun a w hh=>?_
 have e:(execOp a.eval ⟨some d,.call {callee:=.value c,args:=xs,argTypes:=ats},ty,pos,aft,g⟩).run P w=.ok (.value v) w:=by
  have I:xs.map a.eval=#[v]:=by
   have:=lO (fun _ _ hx=>hh.eval hx) hxs;rw[show #[v]=[v].toArray from rfl,←this,←bQQ]
  simp only[execOp,resolve,hh.eval hc,Deferred.ofValue,pure_bind,invoke,I];show(callFunc f #[v]).run P w=_;rw[Go.run_callFunc_extern hf hname hb hn he];rfl
 rw[e];exact⟨fun _=>pV.refl _ _,kk _ _ (hh.put hN v)⟩
theorem EX{c:Operand}{xs:Array Operand}{ats:Array Θ}{f:FuncId}{c1 c2 vs:List Γ}{post:Γ→Prop}(ho:all[ix]?= some ⟨some d,.call {callee:=.value c,args:=xs,argTypes:=ats},ty,pos,aft,g⟩)(hc:ev σ c=some (.func (.func f) c1.toArray c2.toArray))(hxs:x5 σ xs.toList=some vs)
  (hex:X.ex=none) (hEF:EF P f) (hf:∀D w,iX X.h0 X.lo X.D0 X.mods μ D w→Calls P f (c1++vs++c2).toArray w fun e w'=>∃r,e=.returned r∧Go.RowKit.Below (max 1 X.h0.size) w w'∧post r) (hN:Nat.blt d X.N=true) (hg:cZ all σ g)
  (kk:∀r,post r→WL P X bad all K Q os ((d,r)::σ) [] []):WL P X bad all K Q ((false,ix)::os) σ μ Ds:=by
 refine fJ ho rfl rfl hg fun a w hh=>?_
 obtain⟨h1,h2,h3,D,h4,h5,R⟩:=id hh;rw[yH hEF (hh.eval hc) (lO (fun _ _ hx=>hh.eval hx) hxs)];refine⟨fun h=>Xac,dZ.2 ((hf D w h4).mono ?_)⟩;rintro e w' ⟨r,rfl,hb,hp⟩;refine⟨(fun h=>Xab),kk r hp _ _ (Hl.put ⟨h1,h2,h3,fun b=>if b<max 1 X.h0.size then D b else [],?_,(fun D₁ h=>Xab),Xaz⟩ hN r)⟩
 have I:(if 0<max 1 X.h0.size then D 0 else [])=D 0:=bMG Yd;refine⟨h4.hlo,bOB h4.size hb.size,fun b hl hm=>(hb.block b Yd).trans (h4.old b hl hm),fun b hl=>?_,h4.agr.of (fun b hne=>?_) I (hb.block 0 Yd),Yi,bNW,Yi,fun e he=>?_⟩
 ·rw[bMG Yd];exact h4.dold b hl
 ·by_cases hl:b<max 1 X.h0.size
  ·rw[bMG hl]at hne ⊢
   obtain⟨cs,e,fz,O,k2⟩:=h4.agr.1 b hne;exact⟨cs,e,fz,by rw[hb.block b hl];exact O,k2⟩
  ·rw[bLX hl]at hne;exact absurd rfl hne
 ·rw[←h4.env e he];exact Prod.ext hb.os hb.output
namespace L12
open C12 Go.Lib
def fL(b:Nat)(l:List UInt8)(ν:aD):Prop:=∃p v ν1,ν=(b,qC [.pointer p,v] 112)::ν1∧(p=none∨p=some ⟨b,0,none⟩)∧bM 5 1 v l.length (bc l) ν1∧UF v
theorem fL.unf{b:Nat}{l:List UInt8}{ν:aD}(h:fL b l ν):∀p∈ν,dE p.2:=by
 obtain⟨p,v,ν1,rfl,_,ha,_⟩:=h;exact I9 ha
def xZ(w:List UInt8)(lo hi:Int):List UInt8:=w++[32]++itoa lo++[46,46]++itoa hi++[10]
def FB(w:List UInt8)(n:Int):List UInt8:=w++[32]++itoa n++[10]
theorem EH(l:List UInt8):(LS l).size=l.length:=rfl
theorem I5(a:Array UInt8):(⟨a⟩:Λ).size=a.size:=rfl
theorem IP(a b:Λ):(a++b).data.toList=a.data.toList++b.data.toList:=by simp
theorem NJ(u:Nat)(h:u≤100000):(decDigits u).length≤6:=by
 rw[decDigits];split
 ·simp
 ·rw[decDigits];split
  ·simp
  ·rw[decDigits];split
   ·simp
   ·rw[decDigits];split
    ·simp
    ·rw[decDigits];split
     ·simp
     ·rw[decDigits];split
      ·simp
      ·omega
theorem mS{n:Int}(h1: -1000≤n)(h2:n≤100000):(itoa n).length≤7:=by
 unfold itoa;split
 ·rw[bLU];have:=NJ n.natAbs Yd;omega
 ·first|(have:=NJ n.toNat Yd;omega)|(have:=NJ n.natAbs Yd;omega)
theorem PK(b:Nat)(p:Option Addr)(v:Γ)(hp:p=none∨p=some ⟨b,0,none⟩)(D:aC):kF prog 90 [qP b] D [(b,qC [.pointer p,v] 112)] (fun _ _ ν'=>ν'=[(b,qC [qP b,v] 112)]) (fun _=>False):=by
 refine eK 20 func90 rfl rfl rfl rfl fun h0 hwl hwn=>aA<|Za rfl<|Zal rfl<|Zj rfl AN rfl<|Zo rfl aDJ rfl Mm0 rfl<|aWL rfl U110 rfl rfl rfl bRD<|aF<|Zag rfl (fun hc1=>?_) fun hc1=>?_
 ·obtain rfl:p=none:=by simpa using hc1
  refine aP<|Za rfl<|Za rfl<|aAC rfl U110 U271 Yg rfl Mm0 rfl n4 rfl bRD<|aAJ (f:=151) rfl rfl rfl func151 Yg Yg Yg Yg rfl bRD<|NM rfl U271 U110 Yg rfl Mm0 Yg n4 rfl bRD<|Zal rfl<|Zj rfl AN rfl<|Zr rfl aCQ ζ rfl<|Zan ?_;exact K9 (A:=[]) (ν':=[_]) (B:=[]) (vs:=[]) rfl rfl rfl bRD fun D' hD=>rfl
 ·obtain rfl:p=some ⟨b,0,none⟩:=hp.resolve_left (by rintro rfl;cases hc1);refine aA<|Za rfl<|Zal rfl<|Zj rfl AN rfl<|Zo rfl aDJ rfl Mm0 rfl<|Za rfl<|bDM rfl U110 aYS rfl rfl rfl rfl bRD<|aF<|Zag rfl (fun hc2=>?_) (fun hc2=>?_)
  ·cases hc2
  ·refine bH ?_;exact K9 (A:=[]) (ν':=[_]) (B:=[]) (vs:=[]) rfl rfl rfl bRD fun D' hD=>rfl
theorem nA(b:Nat)(s:Λ)(l:List UInt8)(ν:aD)(D:aC)(hb:fL b l ν)(hl:l.length+s.size≤10000000):kF prog 42 [qP b,.string s] D ν (fun _ _ ν'=>fL b (l++s.data.toList) ν') (fun _=>False):=by
 obtain⟨p,v,ν1,rfl,hp,ha,hcb⟩:=hb;refine eK 19 func42 rfl rfl rfl rfl fun h0 hwl hwn=>aA<|Zf rfl<|Zf rfl<|aJ<|Za rfl<|Zm [] ν1 [(b,_)] rfl (fun p hp=>by simp only[bMI]at hp;subst hp;rfl) (fun V R=>PK b p v hp _) (fun _ _ _ h=>h.elim) fun v5 Y ν5 R hp5=>?_
 subst hp5;refine aJ<|Za rfl<|Za rfl<|Zal rfl<|Zj rfl LC rfl<|Zo rfl bGU rfl Mm0 rfl<|Za rfl<|aY ([(b,qC [qP b,v] 112)]++ν1++[]) Yf<|UV (A:=[(b,_)]) (B:=[]) rfl U70 rfl rfl U9 mR aRK rfl aTN rfl rfl ha (mP _) hl (bMF rfl) hcb rfl bRD fun U ν7 I O=>aY ((b,qC [qP b,v] 112)::ν7) Yf<|Zal rfl<|Zj rfl LC rfl ?_;refine Zs [qP b,U] rfl I.cells1 aQR .head rfl I.cell1<|aJ<|Za rfl<|jU rfl U9 rfl rfl rfl bRD<|Zf rfl<|We ?_;refine fun a w hh=>K9 (P:=prog) (fn:=f42) (A:=[]) (ν':=(b,_)::ν7) (B:=[]) (vs:=[_,_]) rfl rfl rfl bQ (fun D' hD=>⟨_,U,ν7,rfl,bLY rfl,by rw[bLT,uJ];exact I,O⟩) a w (hh.boxesEq (bMM _).symm)
theorem O6(w:Λ)(lo hi:Int)(b:Nat)(l:List UInt8)(ν:aD)(D:aC)(hV:pP D)(hw:w.size≤10)(hlo: -1000≤lo∧lo≤100000)(hhi: -1000≤hi∧hi≤100000)(hb:fL b l ν)(hl:l.length≤1000000):kF prog 41 [.string w,qI lo,qI hi,qP b] D ν (fun _ _ ν'=>fL b (l++xZ w.data.toList lo hi) ν') (fun _=>False):=by
 have hilo:=mS hlo.1 hlo.2;have hihi:=mS hhi.1 hhi.2;refine eK 18 func41 rfl rfl rfl rfl (fun h0 hwl hwn=>aP<|Za rfl<|qX rfl rfl rfl (by first|omega|(simp only[I5,bNA,bLU,bNU];omega)) rfl bRD<|Za rfl<|Zd rfl (fun Y I=>X8 lo Ye _ (hV.up (I _ Yf)))<|qX rfl rfl rfl Yr rfl bRD<|qX rfl rfl rfl Yr rfl bRD<|Za rfl<|Zd rfl (fun Z O=>X8 hi Ye _ (hV.up (O _ Yf)))<|qX rfl rfl rfl Yr rfl bRD<|qX rfl rfl rfl Yr rfl bRD ?_);refine aY ([]++ν++[]) Yf<|Zm [] [] ν rfl hb.unf (fun D9 R=>nA b _ l ν _ hb Ybg) (fun _ _ _ h=>h.elim) fun v9 D10 V R U=>aY V Yf<|Zan ?_;refine fun a w hh=>K9 (P:=prog) (fn:=f41) (A:=[]) (ν':=V) (B:=[]) (vs:=[]) rfl rfl rfl bRD (fun D' hD=>by simpa [xZ,FB,LS,IP]using U) a w (hh.boxesEq Yf)
theorem PT(w:Λ)(m:Int)(b:Nat)(l:List UInt8)(ν:aD)(D:aC)(hV:pP D)(hw:w.size≤10)(hm: -1000≤m∧m≤100000)(hb:fL b l ν)(hl:l.length≤1000000):kF prog 44 [.string w,qI m,qP b] D ν (fun _ _ ν'=>fL b (l++FB w.data.toList m) ν') (fun _=>False):=by
 have him:=mS hm.1 hm.2;refine eK 12 func44 rfl rfl rfl rfl fun h0 hwl hwn=>aP<|Za rfl<|qX rfl rfl rfl (by first|omega|(simp only[I5,bNA,bLU,bNU];omega)) rfl bRD<|Za rfl<|Zd rfl (fun V I=>X8 m Ye _ (hV.up (I _ Yf)))<|qX rfl rfl rfl Yr rfl bRD<|qX rfl rfl rfl Yr rfl bRD<|aY ([]++ν++[]) Yf<|Zm [] [] ν rfl hb.unf (fun Y O=>nA b _ l ν _ hb Ybg) (fun _ _ _ h=>h.elim) fun v9 D10 U O R=>aY U Yf<|Zan ?_
 refine fun a w hh=>K9 (P:=prog) (fn:=f44) (A:=[]) (ν':=U) (B:=[]) (vs:=[]) rfl rfl rfl bRD (fun D' hD=>by simpa [xZ,FB,LS,IP]using R) a w (hh.boxesEq Yf)
def NB(x:Int):Prop:= -1000≤x∧x≤100000
def bEL(s:aO):Int×Int:=if C1.eE s.row (C1.qM s.row 0 ((s.row.places.length:Int)-1))=0 then(C1.EB (C1.truths s.row) (0:Int).toNat ((s.row.places.length:Int)-1).toNat,C1.DR (C1.truths s.row) (0:Int).toNat ((s.row.places.length:Int)-1).toNat)else(0,0)
def UL(s:aO)(k:Nat):Int×Int:=if C2.oB s.table (C1.gU (k:Int) 0 ((s.table.levels.length:Int)-1))=0 then C2.aNK s.table (s.table.levels.getD (k:Int).toNat 0)else(0,0)
def bAB(s:aO):Int:=if C2.oB s.table (C2.tD s.table.last 0 s.table.last)=0 then C2.bJP s.table 0 s.table.last else 0
def mL(s:aO):Int×Int:=if C3.A0 s.book (C1.gU (s.book.lines.length:Int) 0 (s.book.lines.length:Int))=0 then L3.HZ (fun s=>s.money) s.book (s.book.lines.length:Int).toNat else(0,0)
def RO(s:aO):Int×Int:=if C3.A0 s.book true=0 then L3.HZ (fun s=>s.mixed) s.book s.book.lines.length else(0,0)
structure aSO(s:aO):Prop where
 ch:NB (bEL s).1∧NB (bEL s).2
 le:NB (C1.xJ s.row)
 wet:∀k,k<s.table.levels.length→NB (UL s k).1∧NB (UL s k).2
 dry:NB (bAB s)
 lv:∀x∈(L3.fI s.book).1,NB x
 lvn:(L3.fI s.book).1.length≤100
 lev:s.table.levels.length≤6
 mon:NB (mL s).1∧NB (mL s).2
 mix:NB (RO s).1∧NB (RO s).2
 wh:NB (L7.fX s.yard).1.1∧NB (L7.fX s.yard).1.2
 su:NB (L7.qB s.yard).2.1
def r1(s:aO):List UInt8:=xZ [99,104,97,105,114,115] (bEL s).1 (bEL s).2
def r2(s:aO):List UInt8:=r1 s++FB [108,101,97,115,116] (C1.xJ s.row)
def r3(s:aO)(k:Nat):List UInt8:=r2 s++(List.range k).flatMap fun i=>xZ [119,101,116] (UL s i).1 (UL s i).2
def r4(s:aO):List UInt8:=r3 s s.table.levels.length++FB [100,114,121] (bAB s)
def r5(s:aO):List UInt8:=r4 s++[108,101,97,118,101]
def r6(s:aO)(k:Nat):List UInt8:=r5 s++((L3.fI s.book).1.take k).flatMap fun i=>32::itoa i
def r7(s:aO):List UInt8:=r6 s (L3.fI s.book).1.length++[10]
def bFE(s:aO):List UInt8:=r7 s++xZ [109,111,110,101,121] (mL s).1 (mL s).2
def r8(s:aO):List UInt8:=if(L3.fI s.book).1=[]then bFE s++xZ [109,105,120,101,100] (RO s).1 (RO s).2 else r7 s
def r9(s:aO):List UInt8:=r8 s++xZ [119,104,111,108,101] (L7.fX s.yard).1.1 (L7.fX s.yard).1.2
def qU(s:aO):List UInt8:=r9 s++FB [115,117,114,101] (L7.qB s.yard).2.1
def Y6(ls:List Λ):List UInt8×Int:=if(aR ls).2.2=0 then(qU (aR ls).1,0)else([],(aR ls).2.2)
section
variable{s:aO}
theorem bJS:r1 s=[]++xZ [99,104,97,105,114,115] (bEL s).1 (bEL s).2:=rfl
theorem bJO:r2 s=r1 s++FB [108,101,97,115,116] (C1.xJ s.row):=rfl
theorem bKB:r4 s=r3 s s.table.levels.length++FB [100,114,121] (bAB s):=rfl
theorem bJX:r5 s=r4 s++[108,101,97,118,101]:=rfl
theorem bJG:r7 s=r6 s (L3.fI s.book).1.length++[10]:=rfl
theorem aBK{k:Nat}:r3 s (k+1)=r3 s k++xZ [119,101,116] (UL s k).1 (UL s k).2:=by unfold r3;rw[bND,bMZ,bOE,bMC]
theorem aXP{k:Nat}{x:Int}(h:(L3.fI s.book).1[k]?= some x):r6 s (k+1)=r6 s k++((⟨#[32]⟩:Λ)++LS (itoa x)).data.toList:=by
 unfold r6;rw[bLW,h]
 simp[LS]
theorem bIZ(h:(L3.fI s.book).1=[]):r8 s=bFE s++xZ [109,105,120,101,100] (RO s).1 (RO s).2:=bMG h
theorem bKE(h:(L3.fI s.book).1≠[]):r8 s=r7 s:=bLX h
theorem A6(s:aO):qU s≠[]:=by unfold qU FB;simp
theorem N8{w:List UInt8}{lo hi:Int}(h:NB lo∧NB hi):(xZ w lo hi).length≤w.length+18:=by
 have h1:=mS h.1.1 h.1.2;have h2:=mS h.2.1 h.2.2
 simp only[xZ,bLT,bLU,bNU];omega
theorem aBG{w:List UInt8}{n:Int}(h:NB n):(FB w n).length≤w.length+9:=by
 have h1:=mS h.1 h.2;simp only[FB,bLT,bLU,bNU];omega
variable(h:aSO s)
include h
theorem aOQ:(r1 s).length≤30:=by have:=N8 (w:=[99,104,97,105,114,115]) h.ch;unfold r1;simp only[bLU,bNU]at this;omega
theorem bFU:(r2 s).length≤60:=by have:=aBG (w:=[108,101,97,115,116]) h.le;have h1:=aOQ h;unfold r2;simp only[bLU,bNU]at this;rw[bLT];omega
theorem OB:∀k,k≤s.table.levels.length→(r3 s k).length≤60+30*k
 |0,_=>by have:=bFU h;unfold r3;simpa using this
 |k+1,hk=>by
  have:=OB k Yd;have h2:=N8 (w:=[119,101,116]) (h.wet k Yd);rw[aBK,bLT];simp only[bLU,bNU]at h2;omega
theorem aOG:(r4 s).length≤300:=by have h1:=OB h _ (bMH _);have h0:=h.lev;have:=aBG (w:=[100,114,121]) h.dry;unfold r4;simp only[bLU,bNU]at this;rw[bLT];omega
theorem bHU:(r5 s).length≤310:=by have h1:=aOG h;unfold r5;rw[bLT];simp only[bLU,bNU];omega
theorem ZV(k:Nat):(r6 s k).length≤1200:=by
 have h1:=bHU h;have key:∀l:List Int,(∀x∈l,NB x)→(l.flatMap fun i=>32::itoa i).length≤8*l.length:=by
  intro l;induction l with
  |nil=>intro _;simp
  |cons a l ih=>
   intro hl;have h1:=mS (hl a Yf).1 (hl a Yf).2;have h2:=ih fun x hx=>hl x (by simp[hx])
   rw[bMS,bLT];simp only[bLU];omega
 have h2:=key ((L3.fI s.book).1.take k) fun x hx=>h.lv x (bQK hx)
 have h3:=h.lvn;have h4:((L3.fI s.book).1.take k).length≤100:=by rw[bNT];omega
 unfold r6;rw[bLT];omega
theorem XL:(r7 s).length≤1300:=by have h1:=ZV h (L3.fI s.book).1.length;unfold r7;rw[bLT];simp only[bLU,bNU];omega
theorem aEF:(bFE s).length≤1400:=by have h1:=XL h;have:=N8 (w:=[109,111,110,101,121]) h.mon;unfold bFE;simp only[bLU,bNU]at this;rw[bLT];omega
theorem YU:(r8 s).length≤1500:=by
 unfold r8;split
 ·have h1:=aEF h;have:=N8 (w:=[109,105,120,101,100]) h.mix;simp only[bLU,bNU]at this;rw[bLT];omega
 ·have h1:=XL h;omega
theorem aQY:(r9 s).length≤1600:=by have h1:=YU h;have:=N8 (w:=[119,104,111,108,101]) h.wh;unfold r9;simp only[bLU,bNU]at this;rw[bLT];omega
end
theorem JZ{x:Int}(h:NB x):((⟨#[32]⟩:Λ)++LS (itoa x)).size≤10:=by
 have:=mS h.1 h.2;rw[ByteArray.size_append,EH,I5];simp only[bNA,bLU,bNU];omega
theorem P9{b:Nat}{l:List UInt8}{ν B:aD}{h0:H0}{lo:Nat}{D0 D:aC}{w:Δ}(h:fL b l ν)(hl:l≠[])(hs:iX h0 lo D0 [] (ν++B) D w):IsBuilder 112 5 (max 1 h0.size) b (byteCells l) w∧max 1 h0.size≤w.heap.size:=by
 obtain⟨p,v,ν1,rfl,hp,ha,hcb⟩:=h;have hlen:0<l.length:=bPC.2 hl;obtain⟨g,cap,junk,rfl,hcap,rfl,h1,h2⟩:=ha.some hlen;obtain⟨I,k2,O⟩:=hs.box _ (bMA _ bLP);obtain⟨g1,g2,g3⟩:=hs.box _ (bMA _ (LE _ bLP));have hlo:=hs.hlo;have kb:=hs.agr.ne0 k2;have gb:=hs.agr.ne0 g2
 have hk:lo≤b:=O.resolve_right Yf;have hg:lo≤g:=g3.resolve_right Yf;have hne:g≠b:=fun e=>by
  have:=hs.nd;simp[e]at this
 have hat:BuilderAt 112 5 (max 1 h0.size) b (.pointer p) (byteCells l) w:=by
  refine⟨Yd,_,I,⟨by rw[byteCells_length];omega,bLY ⟨g,cap,(bc l++junk).toArray,by rw[byteCells_length],Yd,g1,by rw[byteCells_length];exact hcap,hcb _ _ _ rfl,Xal,?_⟩⟩,by simp[Value.ownBlock];exact hne⟩;rw[byteCells_length];show(bc l++junk).take (l.length*1)=bc l;rw[←h1,bQS]
 refine⟨?_,?_⟩
 ·rcases hp with rfl|rfl
  ·exact bMF hat
  ·exact bLY hat
 ·have:=bO I;omega
theorem aGR(lv:Γ)(ls:List Λ)(D:aC)(hS:Sl D RS 1 lv ls)(hV:pP D)(hR0:(aR ls).2.2=0→aSO (aR ls).1):Fn prog 17 #[lv] D (fun _ v=>v=.tuple #[.string (LS (Y6 ls).1),qI (Y6 ls).2]):=by
 refine Zw 175 func17 rfl fun h0=>aA<|Zf rfl<|Zf rfl<|aJ<|Za rfl<|Zaa rfl (fun D1 hD1=>CH _ ls _ (hS.up RS.up (hD1 _ Yf)) (hV.up (hD1 _ Yf))) fun v1 D1 hD1 hp1=>?_;obtain⟨w1,w2,rfl,⟨pv,cv,hv,lv,mv,bl,bc,yc,yq,rfl,hL⟩,hes⟩:=hp1;have hpl7:(aR ls).1.row.places.length≤7:=ER ls;have hln8:(aR ls).1.book.lines.length≤8:=FG ls;unfold dR;refine Za rfl<|Zao rfl<|Zao rfl<|Zao rfl<|Zad rfl tC rfl fun R=>Waq ?_;refine Zaf rfl (fun hc1=>?_) fun hc1=>?_
 ·have hf:(aR ls).2.2≠0:=by simpa using hc1
  refine Wax ?_;exact Zq [_,_] rfl bQ fun D hD=>by unfold Y6;rw[bLX hf];rfl
 ·have hf:(aR ls).2.2=0:=by simpa using hc1
  have hR:=hR0 hf;have hlev6:=hR.lev;have hlvn:=hR.lvn;refine aQ<|aA<|Zad rfl aXA rfl fun I=>aJ<|Zax rfl<|Zf rfl<|aJ<|Zax rfl<|Zf rfl<|bW ?_;have hbb0:fL I [] [(I,qC [.pointer none,qN] 112)]:=⟨none,_,[],rfl,bMF rfl,bM.nil,DI Yu⟩
  refine aP<|Zj rfl eB rfl<|dX rfl mM lY rfl Mm1 rfl rfl n4 rfl bRD<|Zj rfl eB rfl<|Zj rfl fF rfl<|Zo rfl cF rfl Mm1 rfl<|Zah rfl U35 rfl (hL.pl.up RI.up (Le.refl _)) rfl<|Zau rfl<|Zd rfl (fun D2 hD2=>EM _ (aR ls).1.row 0 (((aR ls).1.row.places.length:Int)-1) _ (hL.row.up (hD2 _ Yf)))<|Za rfl<|Zao rfl<|Zao rfl ?_;refine Zad rfl pF rfl fun q3=>Zz rfl iE ζ<|Zf rfl<|aJ<|Za rfl<|Zj rfl QR rfl<|Zo rfl aH rfl Mm0 rfl<|Zj rfl TG rfl<|Zo rfl aH rfl Mm0 rfl<|GH (List.Sublist.cons _ Mm5)<|Zm [] [(R,_)] [(I,_)] rfl hbb0.unf (fun D20 hD20=>O6 ⟨#[99,104,97,105,114,115]⟩ (bEL (aR ls).1).1 (bEL (aR ls).1).2 I ([]) [(I,_)] _ (hV.up (hD20 _ Yf)) Yu hR.ch.1 hR.ch.2 hbb0 (by have:=(show([]:List UInt8).length≤0 from bMH 0);omega)) (fun _ _ _ h=>h.elim) fun v20 D21 hP hD21 U=>aY ((hP++[(R,qC (dR (aR ls).1 pv cv hv lv mv bl bc yc yq) 89)])) rfl ?_
  replace U:fL I (r1 (aR ls).1) hP:=by first|exact U|(rw[bJS];exact U)|(simpa [r1]using U)
  refine aJ<|Zj rfl eB rfl<|dX rfl mM lY rfl (GT _ Mm0) rfl rfl n4 rfl bRD<|Zd rfl (fun D3 hD3=>L1.aQJ _ (aR ls).1.row _ (hL.row.up (hD3 _ Yf)))<|Za rfl<|Zao rfl<|Zao rfl<|Zf rfl<|Zf rfl<|aJ<|Waw ?_;refine Zm [] [(R,_)] hP rfl U.unf (fun D22 hD22=>PT ⟨#[108,101,97,115,116]⟩ (C1.xJ (aR ls).1.row) I (r1 (aR ls).1) hP _ (hV.up (hD22 _ Yf)) Yu hR.le U (by have:=aOQ hR;omega)) (fun _ _ _ h=>h.elim) fun v22 D23 ν22 hD23 hH=>aY ((ν22++[(R,qC (dR (aR ls).1 pv cv hv lv mv bl bc yc yq) 89)])) rfl ?_
  replace hH:fL I (r2 (aR ls).1) ν22:=by first|exact hH|(rw[bJO];exact hH)|(simpa [r2]using hH)
  refine bG<|Zj rfl dA rfl<|Zj rfl lR rfl<|Zo rfl cF rfl (GT _ Mm0) rfl<|Zah rfl U35 rfl (hL.lev.up RI.up (Le.refl _)) rfl<|Za rfl<|aF<|Za0<|Zc (Nat×aD) (fun g=>(aR ls).1.table.levels.length-g.1) (fun g=>g.1≤(aR ls).1.table.levels.length∧fL I (r3 (aR ls).1 g.1) g.2) (fun g=>[(73,qI (g.1:Int))]) [(72,_),(9,_),(8,_),(7,_),(4,_),(3,_),(2,_)] (fun g=>g.2++[(R,qC (dR (aR ls).1 pv cv hv lv mv bl bc yc yq) 89)]) (fun g=>[D23,D21,D1,D]) (0,ν22) ⟨Yf,by simpa [r3]using hH⟩ ⟨Ya,bRD⟩ Mm5 ?_;rintro⟨k,ν⟩ ⟨h1,hbv⟩;simp only at h1 hbv;refine aA<|Zam rfl<|bW<|Zaf rfl (fun hc2=>?_) fun hc2=>?_
  ·simp only at hc2;have hkl:k<(aR ls).1.table.levels.length:=by omega
   refine aQ<|Za2<|Za0<|aA<|Za rfl<|Zf rfl<|aJ<|Zj rfl dA rfl<|dX rfl lB jP rfl (GT _ Mm0) rfl rfl n4 rfl bRD<|Za rfl<|Zd rfl (fun D4 hD4=>L2.aNX _ (aR ls).1.table (k:Int) _ (hL.table.up (hD4 _ Yf)))<|Za rfl ?_;refine Zao rfl<|Zao rfl<|Zad rfl iC rfl fun q4=>Zz rfl cN ζ<|Zf rfl<|aF<|aP<|Za rfl<|Zj rfl rO rfl<|Zo rfl aH rfl Mm0 rfl<|Zj rfl uO rfl<|Zo rfl aH rfl Mm0 rfl ?_;refine GH (List.Sublist.cons _ Mm5)<|Zm [] [(R,_)] ν rfl hbv.unf (fun D24 hD24=>O6 ⟨#[119,101,116]⟩ (UL (aR ls).1 k).1 (UL (aR ls).1 k).2 I (r3 (aR ls).1 k) ν _ (hV.up (hD24 _ Yf)) Yu (hR.wet k hkl).1 (hR.wet k hkl).2 hbv (by have:=OB hR (k) Yd;omega)) (fun _ _ _ h=>h.elim) fun v24 D25 ν24 hD25 hK=>aY ((ν24++[(R,qC (dR (aR ls).1 pv cv hv lv mv bl bc yc yq) 89)])) rfl ?_
   replace hK:fL I (r3 (aR ls).1 (k+1)) ν24:=by rw[aBK];exact hK
   refine Zan<|Wc ?_;exact aL 21 (k+1,ν24) ⟨Yn,hK⟩ Yn ⟨Ya,bRD⟩ rfl rfl Mm5 fun D h=>⟨D,bMJ _ (h),Le.refl D⟩
  ·obtain rfl:k=(aR ls).1.table.levels.length:=by simp only at hc2;omega
   refine Za5<|Za1<|Za1<|Za6<|Zay<|aA<|Zj rfl dA rfl<|dX rfl lB jP rfl (GT _ Mm0) rfl rfl n4 rfl bRD<|Zj rfl dA rfl<|Zj rfl mU rfl<|Zo rfl aH rfl (GT _ Mm0) rfl<|Zd rfl (fun D5 hD5=>L2.bHT _ (aR ls).1.table 0 (aR ls).1.table.last _ (hL.table.up (hD5 _ Yf))) ?_;refine Za rfl<|Zao rfl<|Zao rfl<|Zf rfl<|Zf rfl<|aJ<|Za rfl<|Za rfl<|Zm [] [(R,_)] ν rfl hbv.unf (fun D26 hD26=>PT ⟨#[100,114,121]⟩ (bAB (aR ls).1) I (r3 (aR ls).1 (aR ls).1.table.levels.length) ν _ (hV.up (hD26 _ Yf)) Yu hR.dry hbv (by have:=OB hR ((aR ls).1.table.levels.length) Yd;omega)) (fun _ _ _ h=>h.elim) fun v26 D27 hX hD27 V=>aY ((hX++[(R,qC (dR (aR ls).1 pv cv hv lv mv bl bc yc yq) 89)])) rfl ?_
   replace V:fL I (r4 (aR ls).1) hX:=by first|exact V|(rw[bKB];exact V)|(simpa [r4]using V)
   refine aJ<|Zm [] [(R,_)] hX rfl V.unf (fun D28 hD28=>nA I ⟨#[108,101,97,118,101]⟩ (r4 (aR ls).1) hX _ V (by have:=aOG hR;have hz:=(show(⟨#[108,101,97,118,101]⟩:Λ).size=5 from rfl);omega)) (fun _ _ _ h=>h.elim) fun v28 D29 ν28 hD29 hI=>aY ((ν28++[(R,qC (dR (aR ls).1 pv cv hv lv mv bl bc yc yq) 89)])) rfl ?_;replace hI:fL I (r5 (aR ls).1) ν28:=by first|exact hI|(rw[bJX];exact hI)|(simpa [r5]using hI)
   refine aJ<|Zj rfl fS rfl<|dX rfl gO fG rfl (GT _ Mm0) rfl rfl n4 rfl bRD<|Zaa rfl (fun D6 hD6=>L3.aQG _ (aR ls).1.book _ (hL.book.up (hD6 _ Yf))) fun v6 D6 hD6 hp6=>?_;obtain⟨lvv,rfl,hlv⟩:=hp6;obtain⟨lva,lvc,rfl⟩:=hlv.shape;refine Za rfl<|Zao rfl<|Zao rfl<|Zf rfl<|Zf rfl<|bG<|Za rfl<|Zah rfl U35 rfl hlv rfl<|Za rfl<|aF<|Za0<|Zc (Nat×aD) (fun g=>(L3.fI (aR ls).1.book).1.length-g.1) (fun g=>g.1≤(L3.fI (aR ls).1.book).1.length∧fL I (r6 (aR ls).1 g.1) g.2) (fun g=>[(111,qI (g.1:Int))]) [(110,_),(109,_),(19,_),(9,_),(8,_),(7,_),(4,_),(3,_),(2,_)] (fun g=>g.2++[(R,qC (dR (aR ls).1 pv cv hv lv mv bl bc yc yq) 89)]) (fun g=>[D6,D29,D27,D23,D21,D1,D]) (0,ν28) ⟨Yf,by simpa [r6]using hI⟩ ⟨Ya,bRD⟩ Mm5 ?_;rintro⟨k,ν⟩ ⟨h1,hbv⟩;simp only at h1 hbv;refine aA<|Zam rfl<|bW<|Zaf rfl (fun hc3=>?_) fun hc3=>?_
   ·simp only at hc3;have hkl:k<(L3.fI (aR ls).1.book).1.length:=by omega
    obtain⟨x,hx⟩:∃x,(L3.fI (aR ls).1.book).1[k]?= some x:=⟨_,bLR hkl⟩
    refine aQ<|Za2<|Za0<|aA<|jA rfl hlv rfl hx (fun b1 o1=>Zf rfl<|aF<|aP<|Za rfl<|Zd rfl (fun D7 hD7=>X8 x (by have:=hR.lv x (n5 hx);unfold NB at this;simp only[tQ];omega) _ (hV.up (hD7 _ Yf)))<|qX rfl rfl rfl (by have:=JZ (hR.lv x (n5 hx));rw[ByteArray.size_append]at this;omega) rfl bRD<|Zm [] [(R,_)] ν rfl hbv.unf (fun D30 hD30=>nA I ((⟨#[32]⟩:Λ)++LS (itoa x)) (r6 (aR ls).1 k) ν _ hbv (by have:=ZV hR (k);have hz:=(JZ (hR.lv x (n5 hx)));omega)) (fun _ _ _ h=>h.elim) fun v30 D31 ν30 hD31 hN=>?_);refine aY ((ν30++[(R,qC (dR (aR ls).1 pv cv hv lv mv bl bc yc yq) 89)])) rfl ?_;replace hN:fL I (r6 (aR ls).1 (k+1)) ν30:=by rw[aXP hx];exact hN
    refine Zan<|Wc ?_;exact aL 11 (k+1,ν30) ⟨Yn,hN⟩ Yn ⟨Ya,bRD⟩ rfl rfl Mm5 fun D h=>⟨D,bMJ _ (h),Le.refl D⟩
   ·obtain rfl:k=(L3.fI (aR ls).1.book).1.length:=by simp only at hc3;omega
    refine Za5<|Za1<|Za1<|Za6<|Zay<|aA<|Zm [] [(R,_)] ν rfl hbv.unf (fun D32 hD32=>nA I ⟨#[10]⟩ (r6 (aR ls).1 (L3.fI (aR ls).1.book).1.length) ν _ hbv (by have:=ZV hR ((L3.fI (aR ls).1.book).1.length);have hz:=(show(⟨#[10]⟩:Λ).size=1 from rfl);omega)) (fun _ _ _ h=>h.elim) fun v32 D33 hO hD33 O=>aY ((hO++[(R,qC (dR (aR ls).1 pv cv hv lv mv bl bc yc yq) 89)])) rfl ?_;replace O:fL I (r7 (aR ls).1) hO:=by first|exact O|(rw[bJG];exact O)|(simpa [r7]using O)
    refine bG<|Za rfl<|Zah rfl U35 rfl hlv rfl<|Zap rfl<|aF<|Zaf rfl (fun hc4=>?_) fun hc4=>?_
    ·have hl0:(L3.fI (aR ls).1.book).1=[]:=bOL Yd;refine aA<|Zj rfl fS rfl<|dX rfl gO fG rfl (GT _ Mm0) rfl rfl n4 rfl bRD<|Zj rfl fS rfl<|Zj rfl dN rfl<|Zo rfl hG rfl (GT _ Mm0) rfl<|Zah rfl U80 rfl (hL.ln.up kE.up (Le.refl _)) rfl<|Zd rfl (fun D8 hD8=>L3.K7 _ (aR ls).1.book ((aR ls).1.book.lines.length:Int) _ (hL.book.up (hD8 _ Yf)))<|Za rfl<|Zao rfl<|Zao rfl<|Zad rfl lL rfl fun q5=>?_;refine Zz rfl eF ζ<|Zf rfl<|aJ<|Zj rfl fS rfl<|dX rfl gO fG rfl (List.Mem.tail _ (GT _ Mm0)) rfl rfl n4 rfl bRD<|Zd rfl (fun D9 hD9=>L3.aVC _ (aR ls).1.book _ (hL.book.up (hD9 _ Yf)))<|Za rfl<|Zao rfl<|Zao rfl<|Zad rfl lL rfl fun q6=>Zz rfl eF ζ<|Zf rfl ?_;refine aJ<|Za rfl<|Zj rfl yS rfl<|Zo rfl aH rfl Mm1 rfl<|Zj rfl yX rfl<|Zo rfl aH rfl Mm1 rfl<|Zm [(_,_),(_,_)] [(R,_)] hO rfl O.unf (fun D34 hD34=>O6 ⟨#[109,111,110,101,121]⟩ (mL (aR ls).1).1 (mL (aR ls).1).2 I (r7 (aR ls).1) hO _ (hV.up (hD34 _ Yf)) Yu hR.mon.1 hR.mon.2 O (by have:=XL hR;omega)) (fun _ _ _ h=>h.elim) (fun v34 D35 hY hD35 Y=>aY ((q6,_)::(q5,_)::(hY++[(R,qC (dR (aR ls).1 pv cv hv lv mv bl bc yc yq) 89)])) rfl ?_)
     replace Y:fL I (bFE (aR ls).1) hY:=by first|exact Y|(rw[r7m_eq];exact Y)|(simpa [bFE]using Y)
     refine aF<|aP<|Za rfl<|Zj rfl yS rfl<|Zo rfl aH rfl Mm0 rfl<|Zj rfl yX rfl<|Zo rfl aH rfl Mm0 rfl<|GH (List.Sublist.cons _ (List.Sublist.cons _ Mm5))<|Zm [] [(R,_)] hY rfl Y.unf (fun D36 hD36=>O6 ⟨#[109,105,120,101,100]⟩ (RO (aR ls).1).1 (RO (aR ls).1).2 I (bFE (aR ls).1) hY _ (hV.up (hD36 _ Yf)) Yu hR.mix.1 hR.mix.2 Y (by have:=aEF hR;omega)) (fun _ _ _ h=>h.elim) fun v36 D37 rA hD37 hJ=>aY ((rA++[(R,qC (dR (aR ls).1 pv cv hv lv mv bl bc yc yq) 89)])) rfl ?_;replace hJ:fL I (r8 (aR ls).1) rA:=by rw[bIZ hl0];exact hJ
     refine aJ<|Zj rfl eU rfl<|dX rfl mN lH rfl (GT _ Mm0) rfl rfl n4 rfl bRD<|Zd rfl (fun D10 hD10=>L7.yZ _ (aR ls).1.yard _ (hL.yard.up (hD10 _ Yf)))<|Za rfl<|Zao rfl<|Zao rfl<|Zad rfl jS rfl fun q7=>Zz rfl cQ ζ<|Zf rfl<|aJ<|Za rfl ?_;refine Zj rfl uP rfl<|Zo rfl aH rfl Mm0 rfl<|Zj rfl uR rfl<|Zo rfl aH rfl Mm0 rfl<|GH (List.Sublist.cons _ Mm5)<|Zm [] [(R,_)] rA rfl hJ.unf (fun D38 hD38=>O6 ⟨#[119,104,111,108,101]⟩ ((L7.fX (aR ls).1.yard).1).1 ((L7.fX (aR ls).1.yard).1).2 I (r8 (aR ls).1) rA _ (hV.up (hD38 _ Yf)) Yu hR.wh.1 hR.wh.2 hJ (by have:=YU hR;omega)) (fun _ _ _ h=>h.elim) fun v38 D39 rB hD39 Z=>aY ((rB++[(R,qC (dR (aR ls).1 pv cv hv lv mv bl bc yc yq) 89)])) rfl ?_
     replace Z:fL I (r9 (aR ls).1) rB:=by first|exact Z|(rw[r9_eq];exact Z)|(simpa [r9]using Z)
     refine aJ<|Zj rfl eU rfl<|dX rfl mN lH rfl (GT _ Mm0) rfl rfl n4 rfl bRD<|Zaa rfl (fun D11 hD11=>L7.aBZ _ (aR ls).1.yard _ (hL.yard.up (hD11 _ Yf))) fun v11 D11 hD11 hp11=>?_;obtain⟨suv,rfl,hsu⟩:=hp11;refine Za rfl<|Zao rfl<|Zao rfl<|Zao rfl<|Zf rfl<|Zf rfl<|Zf rfl<|aJ<|Za rfl<|Za rfl<|Zm [] [(R,_)] rB rfl Z.unf (fun D40 hD40=>PT ⟨#[115,117,114,101]⟩ ((L7.qB (aR ls).1.yard).2.1) I (r9 (aR ls).1) rB _ (hV.up (hD40 _ Yf)) Yu hR.su Z (by have:=aQY hR;omega)) (fun _ _ _ h=>h.elim) fun v40 D41 ν40 hD41 hB=>aY ((ν40++[(R,qC (dR (aR ls).1 pv cv hv lv mv bl bc yc yq) 89)])) rfl ?_
     replace hB:fL I (qU (aR ls).1) ν40:=by first|exact hB|(rw[reportL_eq];exact hB)|(simpa [qU]using hB)
     refine aJ<|EX (post:=fun r=>r=.string (LS (qU (aR ls).1))) rfl rfl rfl rfl (EF.of func52 rfl rfl) (fun D w hw=>(Go.Proofs.Tryz.Builder_String_any (max 1 h0.size) I (qU (aR ls).1) w (P9 hB (A6 _) hw).1 (P9 hB (A6 _) hw).2).mono ?_) rfl bRD fun r hr=>?_
     ·rintro e w1 ⟨rfl,hbl⟩;exact⟨_,rfl,hbl,rfl⟩
     subst hr;refine Zf rfl<|We ?_;exact Zq [_,_] rfl bQ fun D hD=>by unfold Y6;rw[bMG hf];rfl
    ·have hl0:(L3.fI (aR ls).1.book).1≠[]:=fun h=>hc4 (by rw[h];rfl)
     have hb8:fL I (r8 (aR ls).1) hO:=by rw[bKE hl0];exact O
     refine aQ<|aA<|Zj rfl eU rfl<|dX rfl mN lH rfl (GT _ Mm0) rfl rfl n4 rfl bRD<|Zd rfl (fun D12 hD12=>L7.yZ _ (aR ls).1.yard _ (hL.yard.up (hD12 _ Yf)))<|Za rfl<|Zao rfl<|Zao rfl<|Zad rfl jS rfl fun q8=>Zz rfl cQ ζ<|Zf rfl<|aJ ?_;refine Za rfl<|Zj rfl uP rfl<|Zo rfl aH rfl Mm0 rfl<|Zj rfl uR rfl<|Zo rfl aH rfl Mm0 rfl<|GH (List.Sublist.cons _ Mm5)<|Zm [] [(R,_)] hO rfl hb8.unf (fun D42 hD42=>O6 ⟨#[119,104,111,108,101]⟩ ((L7.fX (aR ls).1.yard).1).1 ((L7.fX (aR ls).1.yard).1).2 I (r8 (aR ls).1) hO _ (hV.up (hD42 _ Yf)) Yu hR.wh.1 hR.wh.2 hb8 (by have:=YU hR;omega)) (fun _ _ _ h=>h.elim) fun v42 D43 ν42 hD43 hE=>aY ((ν42++[(R,qC (dR (aR ls).1 pv cv hv lv mv bl bc yc yq) 89)])) rfl ?_
     replace hE:fL I (r9 (aR ls).1) ν42:=by first|exact hE|(rw[r9_eq];exact hE)|(simpa [r9]using hE)
     refine aJ<|Zj rfl eU rfl<|dX rfl mN lH rfl (GT _ Mm0) rfl rfl n4 rfl bRD<|Zaa rfl (fun D13 hD13=>L7.aBZ _ (aR ls).1.yard _ (hL.yard.up (hD13 _ Yf))) fun v13 D13 hD13 hp13=>?_;obtain⟨suv,rfl,hsu⟩:=hp13;refine Za rfl<|Zao rfl<|Zao rfl<|Zao rfl<|Zf rfl<|Zf rfl<|Zf rfl<|aJ<|Za rfl<|Za rfl<|Zm [] [(R,_)] ν42 rfl hE.unf (fun D44 hD44=>PT ⟨#[115,117,114,101]⟩ ((L7.qB (aR ls).1.yard).2.1) I (r9 (aR ls).1) ν42 _ (hV.up (hD44 _ Yf)) Yu hR.su hE (by have:=aQY hR;omega)) (fun _ _ _ h=>h.elim) fun v44 D45 ν44 hD45 hF=>aY ((ν44++[(R,qC (dR (aR ls).1 pv cv hv lv mv bl bc yc yq) 89)])) rfl ?_
     replace hF:fL I (qU (aR ls).1) ν44:=by first|exact hF|(rw[reportL_eq];exact hF)|(simpa [qU]using hF)
     refine aJ<|EX (post:=fun r=>r=.string (LS (qU (aR ls).1))) rfl rfl rfl rfl (EF.of func52 rfl rfl) (fun D w hw=>(Go.Proofs.Tryz.Builder_String_any (max 1 h0.size) I (qU (aR ls).1) w (P9 hF (A6 _) hw).1 (P9 hF (A6 _) hw).2).mono ?_) rfl bRD fun r hr=>?_
     ·rintro e w1 ⟨rfl,hbl⟩;exact⟨_,rfl,hbl,rfl⟩
     subst hr;refine Zf rfl<|We ?_;exact Zq [_,_] rfl bQ fun D hD=>by unfold Y6;rw[bMG hf];rfl
end L12
namespace C12
def R7:Nat→List UInt8→Nat
 |_,[]=>0
 |k,b::t=>(2*k+1)*b.toNat+R7 (k+1) t
theorem AX:∀(a b:List UInt8) (k:Nat),R7 k (a++b)=R7 k a+R7 (k+a.length) b
 | [],b,k=>by simp[R7]
 |x::a,b,k=>by
  rw[bOF,R7,R7,AX a b (k+1),bLU,show k+1+a.length=k+(a.length+1) by omega,Nat.add_assoc]
theorem aKZ{l:List UInt8}{k:Nat}{b:UInt8}(h:l[k]?= some b):R7 0 (l.take (k+1))=R7 0 (l.take k)+(2*k+1)*b.toNat:=by
 have hk:k<l.length:=(bLS.1 h).1;rw[bLW,h,AX,bNT,bPH Yd];simp[R7]
theorem aBR:∀(l:List UInt8) (k:Nat),R7 k l≤(2*(k+l.length)+1)*256*l.length
 | [],k=>by simp[R7]
 |b::l,k=>by
  have h1:=aBR l (k+1);have h2:b.toNat≤256:=by have:=b.toNat_lt;omega
  have h3:(2*k+1)*b.toNat≤(2*(k+(l.length+1))+1)*256:=bQJ Yd h2;rw[R7,bLU,show k+(l.length+1)=k+1+l.length by omega,Nat.mul_succ];rw[show k+1+l.length=k+(l.length+1) by omega]at h1;rw[show k+1+l.length=k+(l.length+1) by omega];omega
def rQ(i:Nat)(l:List UInt8):Nat:=(37*(i+1)+R7 0 l)%9967
theorem aME(i:Nat)(l:List UInt8):rQ i l<9967:=Nat.mod_lt _ Yu
def B5(n j:Nat):UInt8:=UInt8.ofNat (48+n / 10^j%10)
theorem bBP(n j:Nat):(B5 n j).toNat=48+n / 10^j%10:=by
 unfold B5;rw[UInt8.toNat_ofNat'];have:=Nat.mod_lt (n / 10^j) (show 0<10 by decide);omega
def G7(n:Nat):List UInt8:=[B5 n 3,B5 n 2,B5 n 1,B5 n 0]
def aPZ(i:Nat)(l:List UInt8):List UInt8:=[59,59,10]++G7 (rQ i l)
def xG(i:Nat)(l:List UInt8):List UInt8:=[B5 l.length 1,B5 l.length 0,59]++l++[59]++G7 (rQ i l)++[10]
theorem sQ(i:Nat)(l:List UInt8):(xG i l).length=9+l.length:=by simp[xG,G7];omega
def kW:Nat→List (List UInt8)→List UInt8
 |_,[]=>[]
 |i,l::ls=>xG i l++kW (i+1) ls
theorem G3:∀(a b:List (List UInt8)) (i:Nat),kW i (a++b)=kW i a++kW (i+a.length) b
 | [],b,i=>by simp[kW]
 |x::a,b,i=>by
  rw[bOF,kW,kW,G3 a b (i+1),bLU,bMC,show i+1+a.length=i+(a.length+1) by omega]
def G1(ls:List (List UInt8)):List UInt8:=kW 0 ls
theorem ZA{ls:List (List UInt8)}{k:Nat}{l:List UInt8}(h:ls[k]?= some l):G1 (ls.take (k+1))=G1 (ls.take k)++xG k l:=by
 have hk:k<ls.length:=(bLS.1 h).1;unfold G1;rw[bLW,h,G3,bNT,bPH Yd];simp[kW]
theorem l3:∀(ls:List (List UInt8)) (i m:Nat),(∀l∈ls,l.length≤m)→(kW i ls).length≤(9+m)*ls.length
 | [],i,m,_=>by simp[kW]
 |l::ls,i,m,h=>by
  have h1:=l3 ls (i+1) m fun x hx=>h x (by simp[hx])
  have h2:=h l Yf;rw[kW,bLT,sQ,bLU,Nat.mul_succ];omega

end C12
namespace L12
open C12 Go.Lib
theorem aDD{s:Λ}{k:Nat}{b:UInt8}(h:s.data.toList[k]?= some b):s[k]?= some b:=by
 have hk:k<s.size:=by simpa using(bLS.1 h).1
 rw[getElem?_pos s k hk];congr 1;obtain⟨h1,h2⟩:=bLS.1 h;rw[←h2];rfl
theorem aEM{s:Λ}{k:Nat}{b:UInt8}(h:s.data.toList[k]?= some b)(hs:s.size≤1000):0≤(2*(k:Int)+1)*(b.toNat:Int)∧(2*(k:Int)+1)*(b.toNat:Int)≤1000000:=by
 have hk:k<s.size:=by simpa using(bLS.1 h).1
 have hb:=b.toNat_lt;have h1:(2*k+1)*b.toNat≤2001*256:=bQJ Yd Yd;have h2:(2*(k:Int)+1)*(b.toNat:Int)=(((2*k+1)*b.toNat:Nat):Int):=by push_cast;rfl
 rw[h2];omega
theorem aYG{s:Λ}{k:Nat}(hs:s.size≤1000):R7 0 (s.data.toList.take k)≤1000000000:=by
 have h:=aBR (s.data.toList.take k) 0;have hl:(s.data.toList.take k).length≤1000:=by
  rw[bNT];have:s.data.toList.length=s.size:=rfl;omega
 have h1:(2*(0+(s.data.toList.take k).length)+1)*256*(s.data.toList.take k).length≤2001*256*1000:=bQJ (bQJ Yd (bMH _)) hl;omega
def bJD(n k:Nat):List Γ:=[if 3<k then .int .u8 (B5 n 3).toNat else .int .u8 0,if 2<k then .int .u8 (B5 n 2).toNat else .int .u8 0,if 1<k then .int .u8 (B5 n 1).toNat else .int .u8 0,if 0<k then .int .u8 (B5 n 0).toNat else .int .u8 0]
theorem aOM{n k:Nat}(hk:k<4):(bJD n k).take (((3:Int)-(k:Int)).toNat)++[.int .u8 (48+((n / 10^k:Nat):Int)%10)]++(bJD n k).drop (((3:Int)-(k:Int)).toNat+ [Value.int .u8 (48+((n / 10^k:Nat):Int)%10)].length)=bJD n (k+1):=by
 have e:Value.int .u8 (48+((n / 10^k:Nat):Int)%10)=.int .u8 ((B5 n k).toNat:Int):=by rw[bBP];rfl
 rw[e];obtain rfl|rfl|rfl|rfl:k=0∨k=1∨k=2∨k=3:=by omega
 all_goals rfl
theorem aSC(i:Nat)(s:Λ)(hi:i≤100000)(hs:s.size≤1000)(D:aC):Fn prog 260 #[qI (i:Int),.string s] D (fun _ v=>v=qI ((rQ i s.data.toList:Nat):Int)):=by
 refine Zw 28 func260 rfl fun h0=>aA<|Zf rfl<|aJ<|Za rfl<|Zae rfl<|BT rfl rfl rfl Ye rfl bRD<|Zf rfl<|bG<|Za rfl<|jU rfl U9 rfl rfl rfl bRD<|Za rfl ?_;refine aF<|Za0<|bK (γ:=Nat) (fun k=>s.size-k) (fun k=>k≤s.size) (fun k=>[(12,qI (k:Int)),(5,qI ((37*(i+1)+R7 0 (s.data.toList.take k):Nat):Int))]) [(11,_),(4,_),(1,_)] (fun k=>[D]) 0 Yd ⟨Ya,(by show some (Value.int _ _)=some (Value.int _ _);congr 2),bRD⟩ bQ (aK) ?_
 rintro k hI;refine aA<|Zam rfl<|bW<|Zaf rfl (fun hc1=>?_) fun hc1=>?_
 ·have hk:k<s.size:=by omega
  obtain⟨b,hb⟩:∃b,s.data.toList[k]?= some b:=⟨_,bLR Xay⟩
  have I:=b.toNat_lt;refine aQ<|Za2<|Za0<|aA<|Za rfl<|Zf rfl<|aF<|aP<|Za rfl<|Za rfl<|BT rfl rfl rfl Ye rfl bRD<|Zae rfl ?_;refine Za rfl<|Za rfl<|rL rfl U9 rfl rfl Yd Ya0 rfl bRD<|uB rfl U5 U3 rfl Ye rfl bRD<|BT rfl rfl rfl (by have:=aEM hb hs;simp only[tQ];omega) rfl bRD<|wJ rfl rfl rfl (by have:=aEM hb hs;have:=aYG (s:=s) (k:=k) hs;simp only[tQ];omega) rfl bRD<|Zf rfl<|Zan<|Za3<|Zay<|aP<|Zae rfl ?_;refine Za rfl<|Zan ?_;exact Zn 18 (k+1) ⟨Ya,(by show some (Value.int _ _)=some (Value.int _ _);congr 2;rw[aKZ hb];push_cast;rw[Int.add_assoc]),bRD⟩ rfl Mm5
 ·obtain rfl:k=s.size:=by omega
  rw[bMV (show s.data.toList.length≤s.size by simp)];refine Za5<|Za1<|Za1<|Za6<|Zay<|aA<|Za rfl<|yJ rfl rfl rfl Yd Yd Ye rfl bRD<|We ?_;exact aE rfl fun D hD=>by show Value.int _ _=_;congr 1
theorem aEX(n:Nat)(hn:n≤1000000)(D:aC):Fn prog 202 #[qI (n:Int)] D (fun _ v=>v=.agg (bc (G7 n)).toArray):=by
 refine Zw 18 func202 rfl (fun h0=>aA<|Zad rfl aEP rfl fun I=>bG<|Za rfl<|aF<|Za0<|fZ (γ:=Nat) (fun k=>4-k) (fun k=>k≤4) (fun k=>[(4,qI (k:Int)),(0,qI ((n / 10^k:Nat):Int))]) [(2,_)] (fun k=>[(I,qC (bJD n k) 341)]) (fun k=>[D]) 0 Yd ⟨Ya,(by show some (Value.int _ _)=some (Value.int _ _);congr 2;simp),bRD⟩ ⟨rfl,bRD⟩ Mm5 (aK) ?_);rintro k hI;refine aA<|Zam rfl<|bW<|Zaf rfl (fun hc1=>?_) fun hc1=>?_
 ·have hk:k<4:=by omega
  have hq:n / 10^k≤n:=Nat.div_le_self _ _;have O:(0:Int)≤((n / 10^k:Nat):Int):=bQG _;refine aQ<|Za2<|Za0<|aA<|Za rfl<|Zf rfl<|aJ<|Za rfl<|Zau rfl<|Za rfl<|yJ rfl rfl rfl Yd Yd Ye rfl bRD<|Zae rfl ?_;refine uB rfl U3 U5 rfl Ye rfl bRD<|cD rfl U341 mR rfl rfl Yd Yd rfl bRD<|cY (ws:=bJD n (k+1)) rfl rfl rfl rfl mR .head (by simp[bJD]<;>omega) (aOM hk) Yk bRD<|aF<|aP<|Za rfl<|KO rfl rfl rfl Yd Yd Ye rfl bRD<|Zf rfl<|Zan<|Za3<|Zay<|aP ?_;refine Zae rfl<|Za rfl<|Zan ?_;exact Zn 17 (k+1) ⟨Ya,(by show some (Value.int _ _)=some (Value.int _ _);congr 2;rw[Nat.pow_succ,←Nat.div_div_eq_div_mul];rfl),bRD⟩ rfl Mm5
 ·obtain rfl:k=4:=by omega
  refine Za5<|Za1<|Za1<|Za6<|Zay<|aA<|Zac rfl aFB rfl Mm0 (by first|exact B9|(simp only[aM, *];exact B9))<|bE rfl rfl rfl rfl B9 Yb Yb ζ (lU (G7 n)) bRD<|aG ?_;exact Zq [_] rfl ⟨⟨_,_,_,rfl,Mm0,Or.inr ⟨aFB,(by first|exact B9|(simp only[bNA,aM, *];exact B9)),rfl⟩⟩,bRD⟩ fun D hD=>rfl
theorem aIV(i:Nat)(s:Λ)(hi:i≤100000)(hs:s.size≤1000)(D:aC):Fn prog 201 #[qI (i:Int),.string s] D (fun _ v=>v=.agg (bc (aPZ i s.data.toList)).toArray):=by
 refine Zw 11 func201 rfl (fun h0=>aA<|Zad rfl OT rfl fun R=>aJ<|j7 (cs:=[.int .u8 59,.int .u8 59,.int .u8 10]) rfl U339 mR aZO rfl rfl rfl bRD<|Za rfl<|Za rfl<|Zd rfl (fun U I=>aSC i s hi hs _)<|Zd rfl (fun V O=>aEX (rQ i s.data.toList) (by have:=aME i s.data.toList;omega) _)<|iB (cs:=[.int .u8 59,.int .u8 59,.int .u8 10,.int .u8 ((B5 (rQ i s.data.toList) 3).toNat:Int),.int .u8 ((B5 (rQ i s.data.toList) 2).toNat:Int),.int .u8 ((B5 (rQ i s.data.toList) 1).toNat:Int),.int .u8 ((B5 (rQ i s.data.toList) 0).toNat:Int)]) rfl aZR OT rfl Yg rfl bRD<|bE rfl rfl rfl rfl CD Yb Yb ζ (lU (aPZ i s.data.toList)) bRD<|aG ?_);exact Zq [_] rfl ⟨⟨_,_,_,rfl,Mm0,Or.inr ⟨bAI,(by first|exact CD|(simp only[bNA,aM, *];exact CD)),rfl⟩⟩,bRD⟩ fun D hD=>rfl
end L12
def RU:Rd UInt8:=fun _ b cs=>cs=[.int .u8 b.toNat]
theorem RU.up:RU.Up:=fun _ _ _ h=>h
theorem aWC(l:List UInt8):l.flatMap (fun b:UInt8=>[Value.int .u8 b.toNat])=bc l:=by
 induction l with
 |nil=>rfl
 |cons b l ih=>rw[bMS,ih];rfl
theorem lD.bytes{D:aC}{l:List UInt8}(h:Sl D RU 1 v l):lD D v l.length (bc l):=by
 rw[←aWC];exact lD.of (R:=RU) (fun _ _ _ h=>h) (fun _=>rfl) h
theorem bGF{l:List UInt8}{i:Nat}{b:UInt8}(h:l[i]?= some b):(bc l)[i]?= some (.int .u8 b.toNat):=by simp[bc,h]
theorem kH.bytes{D:aC}{n:Nat}{l:List UInt8}(h:kH D v n (bc l))(hn:l.length=n)(hb:n≤9223372036854775807):Sl D RU 1 v l:=
 h.sl hn hb fun i x hx=>⟨_,rfl,rfl,by
  have h1:=bGF hx;rw[bNY,List.take_one,List.head?_drop,h1];rfl⟩
def rz(n:Nat):List Γ:=List.replicate n (.int .u8 0)
theorem HL(a b:Nat):rz (a+b)=rz a++rz b:=by unfold rz;rw[List.replicate_append_replicate]
theorem X2(n:Nat):(rz n).length=n:=by simp[rz]
theorem aNG(n:Nat):((Array.range (n*1)).map (#[Value.int .u8 0][· %(#[Value.int .u8 0]:Array Γ).size]!)).toList=rz n:=by
 apply List.ext_getElem?;intro i;simp only[bQQ,Array.toList_range,bNB,rz,List.getElem?_replicate,bNY];by_cases hi:i<n
 ·rw[bPW hi,bMG hi];simp only[bNL];congr 1;have:i%(#[Value.int .u8 0]:Array Γ).size=0:=by simp[Nat.mod_one]
  rw[this];rfl
 ·rw[bOP Yas,bLX hi];rfl
theorem aHI{A B C us:List Γ}{off:Nat}(h:off=A.length)(h2:us.length=B.length):(A++B++C).take off++us++(A++B++C).drop (off+us.length)=A++us++C:=by
 subst h;have I:(A++B++C).take A.length=A:=by rw[bMC,bQS]
 have O:(A++B++C).drop (A.length+us.length)=C:=by rw[h2,←bLT,List.drop_left]
 rw[I,O]
theorem aER{t e e' tr:Θ}{bd od n cd m k:Nat}{xv:Γ}{vs us ws:List Γ}{μ':aD}{ats:Array Θ}
  (ho:all[ix]?= some ⟨some d,.call {callee:=.builtin .copy,args:=#[x,y],argTypes:=ats},tr,pos,aft,g⟩) (ht:P.underlying t=some (.slice e)) (hat:ats[0]?= some t) (hs:TS P e 1) (hx:ev σ x=some (.slice (some ⟨bd,od,none⟩) n cd)) (hy:ev σ y=some xv)
  (hsrc:∀a w,Hl X σ μ Ds a w→(Builtin.lenOf xv).run P w=.ok m w∧(Builtin.firstCells 1 k xv).run P w=.ok us.toArray w) (hk:k=Nat.min m n)
  (hm:bR μ bd (.cells vs.toArray e' (0,0)) (.cells ws.toArray e' (0,0)) μ') (hl:od+us.length≤vs.length) (hw:vs.take od++us++vs.drop (od+us.length)=ws) (hc1:∀u∈us,cell1 u=true) (hfl:fl=false∨bd∈bad) (hN:Nat.blt d X.N=true) (hg:cZ all σ g)
  (kk:WL P X bad all K Q os ((d,qI k)::σ) μ' Ds):WL P X bad all K Q ((fl,ix)::os) σ μ Ds:=by
 refine fJ ho rfl rfl hg fun a w hh=>?_
 obtain⟨h1,h2,h3,D,h4,h5,O⟩:=id hh;obtain⟨hlen,hfc⟩:=hsrc a w hh;obtain⟨w',hr,hw'⟩:=kV (P:=P) us 0 w bd od vs e' (h4.box _ hm.mem).1 Yd hc1;rw[bRC,hw]at hw';have hcp:(Builtin.copy_ ats tr #[.slice (some ⟨bd,od,none⟩) n cd,xv]).run P w=.ok (qI k) w':=by
  have I:(#[Value.slice (some ⟨bd,od,none⟩) n cd,xv]:Array Γ)[0]?= some (.slice (some ⟨bd,od,none⟩) n cd):=rfl;have R:(#[Value.slice (some ⟨bd,od,none⟩) n cd,xv]:Array Γ)[1]?= some xv:=rfl;unfold Builtin.copy_;simp only[hat,I,R,Ω,TU.of ht w,Ξ,hlen,hs w,←hk,hfc,hr,ε,goInt]
 have hex:(execOp a.eval ⟨some d,.call {callee:=.builtin .copy,args:=#[x,y],argTypes:=ats},tr,pos,aft,g⟩).run P w=.ok (.value (qI k)) w':=by
  simp only[execOp,resolve,pure_bind,invoke,builtin];have I:(#[x,y].map a.eval)=#[.slice (some ⟨bd,od,none⟩) n cd,xv]:=by simp[hh.eval hx,hh.eval hy]
  rw[I,Ω,hcp];rfl
 rw[hex];have hst:=h4.set hm hw' rfl;refine⟨fun hf=>⟨Xax,fun c hc hcb=>?_⟩,kk _ _ (Hl.put ⟨h1,h2,h3,D,hst,h5,O.step (fun _ p hp=>bMF Yaz) (fun _=>lJ hw' (GE.2 ⟨_,hm.mem,rfl⟩)) hst.dom⟩ hN _)⟩
 have hb:bd∈bad:=by
  rcases hfl with h|h
  ·rw[hf]at h;cases h
  ·exact h
 rw[hw'.1,bOR (by rintro rfl;exact hcb hb)]
theorem aJS{t e e' tr:Θ}{bd od n cd:Nat}{s:Λ}{vs ws:List Γ}{μ':aD}{ats:Array Θ}
  (ho:all[ix]?= some ⟨some d,.call {callee:=.builtin .copy,args:=#[x,y],argTypes:=ats},tr,pos,aft,g⟩) (ht:P.underlying t=some (.slice e)) (hat:ats[0]?= some t) (hs:TS P e 1) (hx:ev σ x=some (.slice (some ⟨bd,od,none⟩) n cd)) (hy:ev σ y=some (.string s)) (hn:s.size≤n)
  (hm:bR μ bd (.cells vs.toArray e' (0,0)) (.cells ws.toArray e' (0,0)) μ') (hl:od+s.size≤vs.length) (hw:vs.take od++bc s.data.toList++vs.drop (od+(bc s.data.toList).length)=ws) (hfl:fl=false∨bd∈bad) (hN:Nat.blt d X.N=true) (hg:cZ all σ g)
  (kk:WL P X bad all K Q os ((d,qI s.size)::σ) μ' Ds):WL P X bad all K Q ((fl,ix)::os) σ μ Ds:=
 aER (m:=s.size) (k:=s.size) (us:=bc s.data.toList) ho ht hat hs hx hy (fun a w _=>⟨rfl,Go.Lib.run_firstCells_string (P:=P) w 1 s⟩) (bPH hn).symm hm (by rw[mP];exact hl) hw (lU _) hfl hN hg kk
theorem JJ{t e e' I tr:Θ}{bd od n cd bs os' m cs:Nat}{vs us ws xs:List Γ}{μ':aD}{ats:Array Θ}
  (ho:all[ix]?= some ⟨some d,.call {callee:=.builtin .copy,args:=#[x,y],argTypes:=ats},tr,pos,aft,g⟩) (ht:P.underlying t=some (.slice e)) (hat:ats[0]?= some t) (hs:TS P e 1) (hx:ev σ x=some (.slice (some ⟨bd,od,none⟩) n cd)) (hy:ev σ y=some (.slice (some ⟨bs,os',none⟩) m cs)) (hn:m≤n)
  (hsm:(bs,.cells xs.toArray I (0,0))∈μ) (hus:(xs.drop os').take m=us) (hul:us.length=m)
  (hm:bR μ bd (.cells vs.toArray e' (0,0)) (.cells ws.toArray e' (0,0)) μ') (hl:od+m≤vs.length) (hw:vs.take od++us++vs.drop (od+us.length)=ws) (hc1:∀u∈us,cell1 u=true) (hfl:fl=false∨bd∈bad) (hN:Nat.blt d X.N=true) (hg:cZ all σ g)
  (kk:WL P X bad all K Q os ((d,qI m)::σ) μ' Ds):WL P X bad all K Q ((fl,ix)::os) σ μ Ds:=
 aER (m:=m) (k:=m) (us:=us) ho ht hat hs hx hy (fun a w hh=>⟨rfl,by
  simp only[Builtin.firstCells];have hbx:w.heap[bs]?= some (.cells xs.toArray I (0,0)):=by
   obtain⟨_,_,_,D,h4,_⟩:=hh;exact(h4.box _ hsm).1
  refine oJ (by rw[bNY];exact hul) fun j u hj=>sK (cs:=xs.toArray) hbx ?_
  have hjl:=(bLS.1 hj).1;rw[←hus,bOU Yd,bOJ]at hj;simpa using hj⟩) (bPH hn).symm hm Yd hw hc1 hfl hN hg kk

theorem aGO{t e:Θ}{n b o l:Nat}{I:IntKind}{i:Int}(ho:all[ix]?= some ⟨some d,.slice t x (some y) none none,ty,pos,aft,g⟩)(ht:P.underlying t=some (.array n e))(hs:TS P e 1)(hx:ev σ x=some (.pointer (some ⟨b,o,none⟩)))
  (hy:ev σ y=some (.int I i)) (hi:i=(l:Int)) (h3:l<n)
  (hN:Nat.blt d X.N=true) (hg:cZ all σ g) (kk:WL P X bad all K Q os ((d,.slice (some ⟨b,o+l,none⟩) (n-l) (n-l))::σ) μ Ds):WL P X bad all K Q ((fl,ix)::os) σ μ Ds:=by
 subst hi;refine cA ho rfl rfl hN hg (fun ρ hρ w'=>?_) kk;simp only[execOp,hρ x _ hx,hρ y _ hy,bOG,bNL];unfold Instr.sliceAt Instr.sureAddr Instr.sliceBounds Instr.sliceBound asIntOf;have O:(0:Int)≤(l:Int)∧(l:Int)≤(n:Nat):=by omega
 simp only[Ω,TU.of ht w',Ξ,hs w',ε,pure_bind,O,bQT,bOC,bNI,bNY];rw[bLX Yd];simp[Addr.add]
theorem aLK{t e:Θ}{n b o:Nat}(ho:all[ix]?= some ⟨some d,.slice t x none none none,ty,pos,aft,g⟩)(ht:P.underlying t=some (.array n e))(hs:TS P e 1)(hx:ev σ x=some (.pointer (some ⟨b,o,none⟩)))(h3:Nat.beq n 0=false)
  (hN:Nat.blt d X.N=true) (hg:cZ all σ g) (kk:WL P X bad all K Q os ((d,.slice (some ⟨b,o,none⟩) n n)::σ) μ Ds):WL P X bad all K Q ((fl,ix)::os) σ μ Ds:=by
 have h3':¬n=0:=fun h=>by subst h;cases h3
 refine cA ho rfl rfl hN hg (fun ρ hρ w'=>?_) kk;simp only[execOp,hρ x _ hx,bOG];unfold Instr.sliceAt Instr.sureAddr Instr.sliceBounds;simp only[Ω,TU.of ht w',Ξ,hs w',ε,pure_bind,bNY];simp[h3',Addr.add]
theorem aSR{t e:Θ}{b o j n cap:Nat}{k:IntKind}(ho:all[ix]?= some ⟨some d,.slice t x (some y) none none,ty,pos,aft,g⟩)(ht:P.underlying t=some (.slice e))(hs:TS P e 1)(hx:ev σ x=some (.slice (some ⟨b,o,none⟩) n cap))(hy:ev σ y=some (.int k (j:Int)))(hj:j≤n)(hc:j<cap)
  (hN:Nat.blt d X.N=true) (hg:cZ all σ g) (kk:WL P X bad all K Q os ((d,.slice (some ⟨b,o+j,none⟩) (n-j) (cap-j))::σ) μ Ds):WL P X bad all K Q ((fl,ix)::os) σ μ Ds:=by
 have ha:(if cap=j then some (⟨b,o,none⟩:Addr)else(some (⟨b,o,none⟩:Addr)).map (·.add (j*1)))=some ⟨b,o+j,none⟩:=by
  rw[bLX Yd];simp[gY]
 refine cA ho rfl rfl hN hg (fun ρ hρ w'=>?_) kk;simp only[execOp,bOG,bNL,hρ x _ hx,hρ y _ hy];unfold Instr.sliceAt Instr.slice Instr.sliceBounds Instr.sliceBound asIntOf;have hle:(0:Int)≤(j:Int)∧(j:Int)≤(n:Nat):=by omega
 simp only[Ω,TU.of ht w',Ξ,ε,pure_bind,hs w',hle,bQT,bOC,bNI,ha]

theorem MZ{t1 t2 e:Θ}{D₁:aC}{l:List UInt8}(ho:all[ix]?= some ⟨some d,.convert t1 t2 x,ty,pos,aft,g⟩)(h1:P.underlying t1=some (.slice e))(he:P.underlying e=some (.int .u8))(h2:P.underlying t2=some .string)(hx:ev σ x=some v)(hS:Sl D₁ RU 1 v l)(hD:D₁∈Ds)
  (hbad:∀b o c,v=.slice (some ⟨b,o,none⟩) l.length c→l≠[]→b∉bad) (hN:Nat.blt d X.N=true) (hg:cZ all σ g) (kk:WL P X bad all K Q os ((d,.string ⟨l.toArray⟩)::σ) μ Ds):WL P X bad all K Q ((fl,ix)::os) σ μ Ds:=
 oZ ho rfl rfl hN hg (fun a w hh w' hk=>by
  have key:(Go.convert t1 t2 v).run P w'=.ok (.string ⟨l.toArray⟩) w':=by
   obtain⟨ad,cap,rfl,O,k2,I⟩:=hS;rcases I with I|⟨b,o,rfl,I⟩
   ·subst I;cases ad with
    |none=>exact Go.run_convert_bytes_nil w' t1 e h1 he _ cap t2 h2
    |some ad=>exact Go.run_convert_bytes_back w' t1 t2 e ad cap [] h1 he h2 fun j hj=>by cases hj
   ·refine Go.run_convert_bytes_back w' t1 t2 e ⟨b,o,none⟩ cap l h1 he h2 fun j hj=>?_;obtain⟨cs,hr,hc,hA⟩:=I j l[j] (bLR hj);obtain rfl:cs=[.int .u8 l[j].toNat]:=hr;have hb:b∉bad:=hbad b o cap rfl (fun h=>by subst h;cases hj)
    rw[gY];have:=hh.dataAt hD (hA 0 _ rfl) hb hk;simpa using this
  simp only[execOp,hh.eval hx];rw[Ω,key];rfl) kk
namespace L12
open C12 Go.Lib
theorem DA(s:Λ):s.data.toList.length=s.size:=rfl
def gM(ls:List Λ):List (List UInt8):=ls.map fun x=>x.data.toList
theorem aAA{ls:List Λ}{k:Nat}{x:Λ}(h:ls[k]?= some x):(gM ls)[k]?= some x.data.toList:=by unfold gM;rw[bNB,h];rfl
theorem IB{ls:List Λ}(k:Nat)(hn:ls.length≤1000)(hsz:∀l∈ls,l.size≤1000):(G1 ((gM ls).take k)).length≤1009000:=by
 have h:=l3 ((gM ls).take k) 0 1000 (fun l hl=>by
  obtain⟨x,hx,rfl⟩:=GE.1 (bQK hl);exact hsz x hx)
 have h2:((gM ls).take k).length≤1000:=by rw[bNT];unfold gM;rw[bNE];omega
 have h3:(9+1000)*((gM ls).take k).length≤1009*1000:=Nat.mul_le_mul_left _ h2;unfold G1;omega
section
variable{P:Program}{X:Cx}{γb:Type}[Membership Nat γb]{bad:γb}{all:Array Oper}{K:Act→Δ→Prop}{Q:Exit→Act→Δ→Prop}{σ:bX}{μ:aD}{Ds:List aC}{os:List (Bool×Nat)}
theorem V2{b:Nat}{e:Θ}{fz:Nat×Nat}{cs cs':List Γ}(h:cs=cs')(k:WL P X bad all K Q os σ ((b,.cells cs'.toArray e fz)::μ) Ds):WL P X bad all K Q os σ ((b,.cells cs.toArray e fz)::μ) Ds:=h▸k
end
theorem aIA(i:Nat)(s:Λ)(hi:i≤100000)(hs:s.size≤1000)(D:aC):Fn prog 138 #[qI (i:Int),.string s] D (fun D' v=>Sl D' RU 1 v (xG i s.data.toList)):=by
 refine Zw 53 func138 rfl fun h0=>aA<|Zf rfl<|aJ<|Za rfl<|Za rfl<|Zd rfl (fun V O=>aIV i s hi hs _)<|Za rfl<|jU rfl U9 rfl rfl rfl bRD<|Zd rfl (fun Y R=>aEX s.size Yd _)<|Zad rfl OT rfl fun Z=>Zad rfl aEP rfl fun q2=>?_;refine bE rfl rfl rfl rfl CD Yb Yb (.tail ζ) (lU (aPZ i s.data.toList)) bRD<|bE rfl rfl rfl rfl B9 Yb Yb ζ (lU (G7 s.size)) bRD<|aJ<|Za rfl<|jU rfl U9 rfl rfl rfl bRD<|Zae rfl<|Zae rfl<|uA (n:=s.size+9) rfl U70 mR aRK rfl aTN Ya Ya Yd (aNG _) rfl bRD (fun bo=>V2 (cs':=[]++rz 2++rz (s.size+7)) (by first|(rw[bMW,←HL];done)|(rw[bMW,←HL];congr 1;omega))<|Zf rfl<|aJ<|Za rfl ?_);refine aGO (l:=2) rfl U341 mR rfl rfl rfl Yd rfl bRD<|JJ (us:=bc [B5 s.size 1,B5 s.size 0]) rfl U70 rfl mR rfl rfl Yd Mm1 rfl rfl .head (by simp[X2]<;>omega) (aHI rfl rfl) (lU _) (bMF rfl) rfl bRD<|V2 (cs':=bc [B5 s.size 1,B5 s.size 0]++rz 1++rz (s.size+6)) (by first|(rw[bMW,bMC,←HL];done)|(rw[bMW,bMC,←HL];congr 2;omega))<|aJ<|Za rfl<|Zj rfl AD rfl<|cD rfl U339 mR rfl rfl Yd Yd rfl bRD<|Zo rfl aRX rfl Mm2 rfl<|eP rfl U70 mR rfl rfl Yd Yd rfl bRD<|cY (ws:=bc [B5 s.size 1,B5 s.size 0]++bc [59]++rz (s.size+6)) rfl rfl rfl rfl mR .head Xbz (aHI (by simp[mP]<;>omega) rfl) (lU [59]) bRD<|V2 (cs':=bc [B5 s.size 1,B5 s.size 0,59]++rz s.size++rz 6) (by rw[HL,←bMC];rfl)<|aJ ?_;refine Za rfl<|aSR (j:=3) rfl U70 mR rfl rfl Yd Yd rfl bRD<|Za rfl<|aJS (ws:=bc [B5 s.size 1,B5 s.size 0,59]++bc s.data.toList++rz 6) rfl U70 rfl mR rfl rfl Yd .head Xbz (aHI rfl (by rw[mP,X2];rfl)) (bMF rfl) rfl bRD<|V2 (cs':=(bc [B5 s.size 1,B5 s.size 0,59]++bc s.data.toList)++rz 1++rz 5) (by rw[bMC _ (rz 1)];rfl)<|aJ<|Za rfl<|Za rfl<|jU rfl U9 rfl rfl rfl bRD<|Zae rfl<|aSR (j:=3+s.size) rfl U70 mR rfl Ya Yd Yd rfl bRD<|Zf rfl ?_;refine aJ<|Za rfl<|Zj rfl AD rfl<|cD rfl U339 mR rfl rfl Yd Yd rfl bRD<|Zo rfl aRX rfl Mm2 rfl<|eP rfl U70 mR rfl rfl Yd Yd rfl bRD<|cY (ws:=(bc [B5 s.size 1,B5 s.size 0,59]++bc s.data.toList)++bc [59]++rz 5) rfl rfl rfl rfl mR .head Xbz (aHI (by simp[mP]<;>omega) rfl) (lU [59]) bRD<|V2 (cs':=(bc [B5 s.size 1,B5 s.size 0,59]++bc s.data.toList++bc [59])++rz 4++rz 1) (by rw[bMC _ (rz 4)];rfl)<|bW<|bS [] 2 5 12<|Za rfl<|aSR (j:=1) rfl U70 mR rfl rfl Yd Yd rfl bRD ?_;refine Zj rfl aJY rfl<|aLK rfl U341 mR rfl rfl rfl bRD<|JJ (us:=bc (G7 (rQ i s.data.toList))) (ws:=(bc [B5 s.size 1,B5 s.size 0,59]++bc s.data.toList++bc [59])++bc (G7 (rQ i s.data.toList))++rz 1) rfl U70 rfl mR rfl rfl Yd Mm2 rfl rfl .head Xbz (aHI (by simp[mP]<;>omega) rfl) (lU _) (bMF rfl) rfl bRD<|V2 (cs':=(bc [B5 s.size 1,B5 s.size 0,59]++bc s.data.toList++bc [59]++bc (G7 (rQ i s.data.toList)))++rz 1++[]) (by rw[bMM])<|aJ<|Za rfl<|Zj rfl AD rfl<|cD rfl U339 mR rfl rfl Yd Yd rfl bRD<|Zo rfl aRX rfl Mm2 rfl<|eP rfl U70 mR rfl rfl Yd Yd rfl bRD<|cY (ws:=(bc [B5 s.size 1,B5 s.size 0,59]++bc s.data.toList++bc [59]++bc (G7 (rQ i s.data.toList)))++bc [10]++[]) rfl rfl rfl rfl mR .head (by simp[mP,X2,G7]<;>omega) (aHI (by simp[mP,G7]<;>omega) rfl) (lU [10]) bRD<|V2 (cs':=bc (xG i s.data.toList)) (by rw[bMM,←uJ,←uJ,←uJ,←uJ];rfl) ?_;refine aJ<|Za rfl<|We ?_;have ha:bM 5 1 (qS bo (s.size+9) (s.size+9)) (s.size+9) (bc (xG i s.data.toList)) [(bo,qC (bc (xG i s.data.toList)) 5)]:=bLY ⟨bo,s.size+9,[],rfl,bMH _,by rw[bMM],by rw[mP,sQ,DA];omega,by rw[bMM,mP,sQ,DA];omega⟩
 refine dU (A:=[]) (B:=[(_,_),(_,_)]) ha rfl fun D9 U I=>?_;exact aE rfl fun D hD=>(I.bytes (by rw[sQ,DA];omega) Yd).up RU.up (hD _ Yf)
theorem aYH(lv:Γ)(ls:List Λ)(D:aC)(hS:Sl D RS 1 lv ls)(hn:ls.length≤1000)(hsz:∀l∈ls,l.size≤1000):Fn prog 68 #[lv] D (fun D' v=>Sl D' RU 1 v (G1 (gM ls))):=by
 have hfl:=fun k=>IB (ls:=ls) k hn hsz
 refine Zw 19 func68 rfl (fun h0=>aA<|Zf rfl<|bG<|Za rfl<|eN rfl U22 rfl Yl rfl rfl bRD<|Za rfl<|aF<|Za0<|Zc (Nat×Γ×aD) (fun g=>ls.length-g.1) (fun g=>g.1≤ls.length∧bM 5 1 g.2.1 (G1 ((gM ls).take g.1)).length (bc (G1 ((gM ls).take g.1))) g.2.2) (fun g=>[(7,qI (g.1:Int)),(2,g.2.1)]) [(6,_),(5,_)] (fun g=>g.2.2++[]) (fun g=>[D]) (0,qN,[]) ⟨Yf,by simpa [G1,kW,bc]using bM.nil⟩ ⟨Ya,Ya,bRD⟩ Mm5 ?_);rintro⟨k,v,ν⟩ ⟨h1,ha⟩;simp only at h1 ha;have hflk:=hfl k;refine aA<|Zam rfl<|bW<|Zaf rfl (fun hc1=>?_) fun hc1=>?_
 ·simp only at hc1;have hlt:k<ls.length:=by omega
  obtain⟨x,hx⟩:=cR ls k;have hxs:=hsz x (n5 hx);refine aQ<|Za2<|Za0<|aA<|Za rfl<|Zx rfl U22 kZ rfl hS rfl hx fun b1 o1 I O hF R=>?_;obtain rfl:I=[.string _]:=O;refine Zh 0 rfl wQ rfl R rfl<|Zf rfl<|Zf rfl<|aF<|aP<|Za rfl<|Za rfl<|Za rfl<|Zaa rfl (fun D1 U=>aIA k x Yd (hsz x (n5 hx)) _) fun V D1 U Y=>aU (A:=[]) (B:=[]) rfl U70 rfl rfl mR aRK rfl aTN rfl rfl rfl ha (lD.bytes Y) Yf (by rw[mP,bNY]) (by rw[mP,bNY]) (lU _) (by rw[sQ,DA];omega) (bMF rfl) rfl bRD fun V ν1 Z=>?_
  have hB:bM 5 1 V (G1 ((gM ls).take (k+1))).length (bc (G1 ((gM ls).take (k+1)))) ν1:=by rw[ZA (aAA hx),bLT,uJ];exact Z
  refine aY (ν1++[]) rfl<|Wan ?_;exact aL 16 (k+1,V,ν1) ⟨Yn,hB⟩ Yn ⟨Ya,Ya,bRD⟩ rfl rfl Mm5 fun D h=>⟨D,bMJ _ (h),Le.refl D⟩
 ·obtain rfl:k=ls.length:=by simp only at hc1;omega
  rw[show(gM ls).take ls.length=(gM ls)from bMV (by simp[gM])]at ha hflk;refine Za5<|Za1<|Za1<|Za6<|Zay<|aA<|Za rfl<|Zf rfl<|aG<|dU (A:=[]) (B:=[]) ha rfl fun D9 hH hE=>?_;exact aE rfl fun D hD=>(hE.bytes rfl Yd).up RU.up (hD _ Yf)
theorem aSM(lv:Γ)(ls:List Λ)(D:aC)(hS:Sl D RS 1 lv ls):Fn prog 22 #[lv] D (fun D' v=>∃U,v=.tuple #[U,qI (eT ls)]∧Sl D' RU 1 U (if eT ls=0 then G1 (gM ls)else [])):=by
 refine Zw 12 func22 rfl fun h0=>aA<|Zf rfl<|Zf rfl<|bG<|Za rfl<|Zd rfl (fun Y O=>yU _ ls _ (hS.up RS.up (O _ Yf)))<|Zf rfl<|aJ<|Za rfl<|Zaw rfl<|aF ?_;refine Zaf rfl (fun hc1=>?_) fun hc1=>?_
 ·have hf:eT ls≠0:=by simpa using hc1
  refine Wax ?_;exact Zq [_,_] rfl bQ fun D hD=>⟨_,rfl,by rw[bLX hf];exact Sl.nil⟩
 ·have hf:eT ls=0:=by simpa using hc1
  refine aQ<|aA<|Za rfl<|Zaa rfl (fun V I=>aYH _ ls _ (hS.up RS.up (I _ Yf)) (by have:=KX hf;omega) fun l hl=>by have:=VE hf l hl;omega) fun v2 V I R=>Zf rfl<|We ?_;exact Zq [_,_] rfl bQ fun D hD=>⟨_,by rw[hf];rfl,by rw[bMG hf];exact R.up RU.up (hD _ Yf)⟩
end L12
open Go.Proofs
namespace L12
open C12 Go.Lib
theorem getD_some{l:List UInt8}{k:Nat}(h:k<l.length):l[k]?= some (l.getD k 0):=by simp[List.getD,bLR h]
section
variable{i n:Nat}{bs:List UInt8}{f0 f1 f2 f3:UInt8}
end
theorem tf_z9:TZ prog 9 (.string ⟨#[]⟩):=TZ.of Yg
section
variable{P:Program}{X:Cx}{Q:Exit→Act→Δ→Prop}{σ:bX}{μ:aD}{Ds:List aC}
theorem jC{c:Operand}{x y:Code}{b:Bool}(hc:ev σ c=some (.bool b))(hb:b=true)(h:WC P X Q x σ μ Ds):WC P X Q (.cond c x y) σ μ Ds:=WX hc (fun _=>h) fun e=>by rw[hb]at e;cases e
end
theorem bEH{b:UInt8}{n:Nat}(h:((b.toNat:Nat):Int)=(n:Int))(_hn:n<256:=by decide):b=UInt8.ofNat n:=by
 have h1:b.toNat=n:=by omega
 rw[←h1];simp
theorem _root_.Go.Fs.kH.strs{D:aC}{v:Γ}{n:Nat}{l:List Λ}(h:kH D v n (l.map Value.string))(hn:l.length=n)(hb:n≤9223372036854775807):Sl D RS 1 v l:=
 h.sl hn hb fun i x hx=>⟨_,rfl,rfl,by rw[bNY,List.take_one,List.head?_drop,bNB,hx];rfl⟩
theorem aOC(s:Λ)(a b:Nat):(s.extract a b).data.toList=(s.data.toList.drop a).take (b-a):=by simp[List.extract_eq_take_drop]
def vA(line:Λ)(i f:Nat)(ws:List Λ):Prop:=f≤i∧ws.length≤i∧pX line.data.toList=gM ws++pX (line.data.toList.drop f)∧(32:UInt8)∉(line.data.toList.drop f).take (i-f)
theorem vA.zero{line:Λ}:vA line 0 0 []:=⟨bMH _,bMH _,by simp[gM],Yf⟩
theorem aJV{l:List UInt8}{f i:Nat}{b:UInt8}(hf:f≤i)(hb:l[i]?= some b):(l.drop f).take (i+1-f)=(l.drop f).take (i-f)++[b]:=by
 have h:(l.drop f)[i-f]?= some b:=by rw[bOJ,show f+(i-f)=i by omega];exact hb
 rw[show i+1-f=i-f+1 by omega,bLW,h];rfl
theorem vA.miss{line:Λ}{i f:Nat}{ws:List Λ}{b:UInt8}(h:vA line i f ws)(hb:line.data.toList[i]?= some b)(hn:b≠32):vA line (i+1) f ws:=by
 obtain⟨h1,h2,h3,h4⟩:=h;refine⟨Yd,Yd,h3,?_⟩;rw[aJV h1 hb,bMD,bMI];rintro(h|h)
 ·exact h4 h
 ·exact hn h.symm
theorem vA.hit{line:Λ}{i f:Nat}{ws:List Λ}{b:UInt8}(h:vA line i f ws)(hb:line.data.toList[i]?= some b)(hn:b=32):vA line (i+1) (i+1) (ws++[line.extract f i]):=by
 subst hn;obtain⟨h1,h2,h3,h4⟩:=h;refine⟨bMH _,Yap,?_,Yf⟩
 have hg:(line.data.toList.drop f)[i-f]?= some 32:=by rw[bOJ,show f+(i-f)=i by omega];exact hb
 rw[h3,j6 hg h4,List.drop_drop,show f+(i-f+1)=i+1 by omega];simp[gM]
theorem YJ{line:Λ}{f:Nat}{ws:List Λ}(h:vA line line.size f ws):eC line=ws++[line.extract f line.size]:=by
 obtain⟨h1,h2,h3,h4⟩:=h;have hl:line.data.toList.length=line.size:=rfl;have ht:(line.data.toList.drop f).take (line.size-f)=line.data.toList.drop f:=bMV (by rw[bOS,hl];exact bMH _)
 rw[ht]at h4;unfold eC;rw[h3,Q0 h4,bME,bPA];have I:(gM ws).map LS=ws:=by
  unfold gM;rw[bQC]
  conv=>rhs;rw[←List.map_id ws]
  exact bQN fun x _=>yO x
 rw[I];congr 2;rw[←yO (line.extract f line.size),aOC,ht]
def T0(w:List UInt8):Int:=match kU.find? (fun x=>x.1==w)with
 |some (_,k,_)=>(k:Int)
 |none=> -1
def iN(l:List UInt8):Option (List Int):=match pX l with
 | []=>none
 |p::ps=>if T0 p=(ps.length:Int)then ps.mapM rV else none
theorem bLG{s:Λ}(h:0<s.size):s[(0:Int).toNat]?= some (s.data.toList.getD 0 0):=aDD (getD_some (k:=0) h)
theorem bFX{s:Λ}(h:((decide ((s.size:Int)<1)||decide (3<(s.size:Int)))||(decide (((s.data.toList.getD 0 0).toNat:Int)=48)&&decide (1<(s.size:Int))))=false):1≤s.size∧s.size≤3∧(s.data.toList.head?≠some 48∨s.size=1):=by
 simp only[bNG,bQI,bLV]at h;obtain⟨⟨h1,h2⟩,h3⟩:=h;refine⟨Yd,Yd,?_⟩;rcases h3 with h3|h3
 ·left;intro e;apply h3;have:s.data.toList.getD 0 0=48:=by rw[List.getD,←List.head?_eq_getElem?,e];rfl
  rw[this];rfl
 ·right;omega
theorem aZF{s:Λ}(h:((decide ((s.size:Int)<1)||decide (3<(s.size:Int)))||(decide (((s.data.toList.getD 0 0).toNat:Int)=48)&&decide (1<(s.size:Int))))=true):rV s.data.toList=none:=by
 have hl:s.data.toList.length=s.size:=rfl;simp only[bMU,bLQ,LT]at h;unfold rV;rcases h with(h|h)|⟨h,h2⟩
 ·have h0:s.data.toList=[]:=bOL Yd;rw[h0];rfl
 ·exact bLX Yd
 ·apply bLX;rintro⟨_,h3|h3⟩
  ·apply h3;have h4:s.data.toList.getD 0 0=48:=bEH (n:=48) h;rw[List.head?_eq_getElem?,getD_some (k:=0) Yd,h4]
  ·omega
theorem aHU{n k:Nat}(h:n<10^k)(hk:k≤3):n<1000:=bOI h (bNQ Yu hk)
theorem aRP{n k:Nat}{b:UInt8}(h:n<10^k)(hb:48≤b.toNat∧b.toNat≤57):n*10+(b.toNat-48)<10^(k+1):=by rw[Nat.pow_succ];omega
theorem aTG{l:List UInt8}{k n:Nat}{b:UInt8}(hb:l[k]?= some b)(hd:48≤b.toNat∧b.toNat≤57):decFrom n (l.drop k)=decFrom (n*10+(b.toNat-48)) (l.drop (k+1)):=by
 have hk:=(bLS.1 hb).1;rw[bNC hk,bMQ ((bLR hk).symm.trans hb)];simp only[decFrom,digitVal,hd,bQT,bOC]
theorem aNR{s:Λ}(h:1≤s.size∧s.size≤3∧(s.data.toList.head?≠some 48∨s.size=1)):rV s.data.toList=(decFrom 0 s.data.toList).map fun n:Nat=>(n:Int):=by
 have hl:s.data.toList.length=s.size:=rfl;unfold rV;rw[bMG ⟨Yd,by rw[hl];exact h.2.2⟩]
 unfold decNat;rw[bLX];rw[List.isEmpty_iff];intro e;rw[e]at hl;simp at hl;omega
theorem aJC{s:Λ}{k n:Nat}{b:UInt8}(hok:1≤s.size∧s.size≤3∧(s.data.toList.head?≠some 48∨s.size=1))(hd:decFrom 0 s.data.toList=decFrom n (s.data.toList.drop k))(hb:s.data.toList[k]?= some b)(hn:¬(48≤b.toNat∧b.toNat≤57)):rV s.data.toList=none:=by
 have hk:=(bLS.1 hb).1;rw[aNR hok,hd,bNC hk,bMQ ((bLR hk).symm.trans hb)];simp only[decFrom,digitVal,hn,bOO,bOG]
theorem aSY{s:Λ}{n:Nat}(hok:1≤s.size∧s.size≤3∧(s.data.toList.head?≠some 48∨s.size=1))(hd:decFrom 0 s.data.toList=decFrom n (s.data.toList.drop s.size)):rV s.data.toList=some (n:Int):=by
 have e:s.data.toList.drop s.size=[]:=bNK (bMH _);rw[aNR hok,hd,e];rfl
theorem aRV{line p0:Λ}{ps:List Λ}(h:eC line=p0::ps):pX line.data.toList=p0.data.toList::gM ps:=by
 unfold eC at h;cases hc:pX line.data.toList with
 |nil=>rw[hc]at h;cases h
 |cons p qs=>
  rw[hc]at h;simp only[bMT,bOH]at h;obtain⟨rfl,rfl⟩:=h;unfold gM;rw[bQC];congr 1
  conv=>lhs;rw[←List.map_id qs]
  exact bQN fun x _=>rfl
theorem X3:∀ps:List Λ,(gM ps).mapM rV=ps.mapM vR
 | []=>rfl
 |p::ps=>by
  have h:gM (p::ps)=p.data.toList::gM ps:=rfl;rw[h,bPL,bPL,X3 ps];rfl
theorem Z7{line p0:Λ}{ps:List Λ}(h:eC line=p0::ps):iN line.data.toList=if T0 p0.data.toList=(ps.length:Int)then ps.mapM vR else none:=by
 unfold iN;rw[aRV h];simp only[X3];unfold gM;rw[bNE]
theorem aMF{line p0:Λ}{ps:List Λ}(h:eC line=p0::ps)(h1:T0 p0.data.toList≠((eC line).length:Int)-1):iN line.data.toList=none:=by
 rw[Z7 h,bLX];intro e;apply h1;rw[e,h,bLU];omega
theorem bAN{p0 x:Λ}{ps:List Λ}{k:Nat}(h:ps[k]?= some x):(p0::ps)[(((k+1:Nat):Int)).toNat]?= some x:=by rw[bNI];simpa using h
theorem aUY{line p0 x:Λ}{ps:List Λ}{k:Nat}(h:eC line=p0::ps)(_:¬T0 p0.data.toList≠((eC line).length:Int)-1)(hx:ps[k]?= some x)(hn:rV x.data.toList=none):iN line.data.toList=none:=by
 rw[Z7 h,s6 hx hn,ite_self]
theorem aGB{line p0:Λ}{ps:List Λ}{ns:List Int}(h:eC line=p0::ps)(h1:¬T0 p0.data.toList≠((eC line).length:Int)-1)(hn:ps.mapM vR=some ns):iN line.data.toList=some ns:=by
 rw[Z7 h,bMG,hn];have:=bQD.1 h1;rw[this,h,bLU];omega
theorem aIO{w:Λ}(h0:¬w=⟨#[112,108,97,99,101]⟩)(h1:¬w=⟨#[117,110,99,111,117,110,116]⟩)(h2:¬w=⟨#[119,114,111,110,103]⟩)(h3:¬w=⟨#[111,102,102]⟩)(h4:¬w=⟨#[115,116,101,112]⟩)(h5:¬w=⟨#[108,101,118,101,108]⟩)(h6:¬w=⟨#[117,110,109,97,114,107]⟩)(h7:¬w=⟨#[115,109,117,100,103,101]⟩)(h8:¬w=⟨#[115,116,114,105,107,101]⟩)(h9:¬w=⟨#[102,105,116]⟩)(I:¬w=⟨#[117,110,99,108,97,105,109]⟩)(O:¬w=⟨#[115,101,101,110]⟩)(R:¬w=⟨#[99,111,117,110,116]⟩)(U:¬w=⟨#[98,97,99,107]⟩)(V:¬w=⟨#[114,97,105,115,101]⟩)(Y:¬w=⟨#[104,105,114,101]⟩)(Z:¬w=⟨#[98,114,105,110,103]⟩)(hB:¬w=⟨#[99,108,97,105,109]⟩)(hE:¬w=⟨#[116,105,100,101]⟩)(hF:¬w=⟨#[112,97,114,116]⟩)(hH:¬w=⟨#[109,97,114,107]⟩)(hI:¬w=⟨#[98,114,111,107,101,110]⟩):T0 w.data.toList= -1:=by
 have key:∀l:List UInt8,w≠⟨l.toArray⟩→(l==w.data.toList)=false:=fun l h=>by
  rw[beq_eq_false_iff_ne];rintro rfl;exact h (yO w).symm
 unfold T0 kU;simp only[List.find?_cons,List.find?_nil,key [112,108,97,99,101] h0,key [117,110,99,111,117,110,116] h1,key [119,114,111,110,103] h2,key [111,102,102] h3,key [115,116,101,112] h4,key [108,101,118,101,108] h5,key [117,110,109,97,114,107] h6,key [115,109,117,100,103,101] h7,key [115,116,114,105,107,101] h8,key [102,105,116] h9,key [117,110,99,108,97,105,109] I,key [115,101,101,110] O,key [99,111,117,110,116] R,key [98,97,99,107] U,key [114,97,105,115,101] V,key [104,105,114,101] Y,key [98,114,105,110,103] Z,key [99,108,97,105,109] hB,key [116,105,100,101] hE,key [112,97,114,116] hF,key [109,97,114,107] hH,key [98,114,111,107,101,110] hI]
theorem p8(line:Λ)(hl:line.size≤1000)(D:aC):Fn prog 20 #[.string line] D (fun D' v=>Sl D' RS 1 v (eC line)):=by
 refine Zw 31 func20 rfl fun h0=>aA<|Zf rfl<|aJ<|Zf rfl<|aJ<|Zf rfl<|bG<|Zf rfl<|aF<|Za0<|Zc (Nat×Nat×List Λ×Γ×aD) (fun g=>line.size-g.1) (fun g=>g.1≤line.size∧vA line g.1 g.2.1 g.2.2.1∧bM 9 1 g.2.2.2.1 g.2.2.1.length (g.2.2.1.map Value.string) g.2.2.2.2) (fun g=>[(5,qI (g.1:Int)),(4,qI (g.2.1:Int)),(3,g.2.2.2.1)]) [(2,_),(0,_)] (fun g=>g.2.2.2.2++[]) (fun g=>[D]) (0,0,[],qN,[]) ⟨Yf,vA.zero,Xar⟩ ⟨Ya,Ya,Ya,bRD⟩ Mm5 ?_;rintro⟨i,f,ws,v,ν⟩ ⟨h1,hw,ha⟩;simp only at h1 hw ha;have hfi:=hw.1;have hwl:=hw.2.1;refine bZ<|Za rfl<|Za rfl<|jU rfl U9 rfl rfl rfl bRD<|Zam rfl<|aF<|Zaf rfl (fun hc1=>?_) fun hc1=>?_
 ·simp only at hc1;have hi:i<line.size:=by omega
  obtain⟨b,hb⟩:∃b,line.data.toList[i]?= some b:=⟨_,bLR Yas⟩
  refine aQ<|Za2<|Za0<|aA<|Za rfl<|Za rfl<|rL rfl U9 rfl rfl Yd Ya0 rfl bRD<|Zap rfl<|aF<|Zaf rfl (fun hc2=>?_) fun hc2=>?_
  ·have I:b=32:=bEH hc2;refine aA<|Za rfl<|Za rfl<|Za rfl<|Za rfl<|ZN rfl U9 rfl rfl rfl Yai Yai Yai rfl bRD<|Zt rfl U22 kZ tf_z9 rfl (.cons rfl rfl .nil) (fun hE D901 V R=>aU (A:=[]) (B:=[]) rfl U22 rfl rfl kZ tf_z9 rfl aFE rfl rfl rfl ha (lD.lit R) Yf rfl (by rw[bNE,bNY]) Yk Yd (bMF rfl) rfl bRD fun v1 ν1 Y=>?_);have O:bM 9 1 v1 (ws++[line.extract f i]).length ((ws++[line.extract f i]).map Value.string) ν1:=by rw[bLT,bME];exact Y
   refine aY (ν1++[]) rfl<|Zf rfl<|aF<|aP<|Za rfl<|Zae rfl<|Zf rfl<|Zan<|Za3<|Zay<|aP<|Za rfl ?_;refine Zae rfl<|Wbl ?_;exact aL 25 (i+1,i+1,ws++[line.extract f i],v1,ν1) ⟨Yn,hw.hit hb I,O⟩ Yn ⟨Ya,Ya,Ya,bRD⟩ rfl rfl Mm5 fun D h=>⟨D,bMJ _ (h),Le.refl D⟩
  ·have I:b≠32:=fun e=>hc2 Xaf
   refine Wbs ?_;exact aL 14 (i+1,f,ws,v,ν) ⟨Yn,hw.miss hb I,ha⟩ Yn ⟨Ya,Ya,Ya,bRD⟩ rfl rfl Mm5 (aK)
 ·obtain rfl:i=line.size:=by simp only at hc1;omega
  refine Za5<|Za1<|Za1<|Za6<|Zay<|aA<|Za rfl<|Za rfl<|Za rfl<|RY rfl U9 rfl rfl Yai Yai rfl bRD<|Zt rfl U22 kZ tf_z9 rfl (.cons rfl rfl .nil) (fun hF hH Z U=>aU (A:=[]) (B:=[]) rfl U22 rfl rfl kZ tf_z9 rfl aFE rfl rfl rfl ha (lD.lit U) Yf rfl (by rw[bNE,bNY]) Yk Yd (bMF rfl) rfl bRD fun v2 ν2 O=>?_);have O:bM 9 1 v2 (ws++[line.extract f line.size]).length ((ws++[line.extract f line.size]).map Value.string) ν2:=by rw[bLT,bME];exact O
  refine aY (ν2++[]) rfl<|Zf rfl<|aG<|dU (A:=[]) (B:=[]) O rfl fun D9 hI hB=>?_;exact aE rfl fun D hD=>(by rw[YJ hw];exact(hB.strs rfl (by rw[bLT,bOD];omega)).up RS.up (hD _ Yf))
theorem WN(s:Λ)(D:aC):Fn prog 66 #[.string s] D (fun _ v=>∃m b,v=.tuple #[qI m,.bool b]∧(b=true→rV s.data.toList=some m)∧(b=false→rV s.data.toList=none)):=by
 refine Zw 49 func66 rfl fun h0=>aA<|Zf rfl<|Zf rfl<|bG<|Za rfl<|jU rfl U9 rfl rfl rfl bRD<|Wcf ?_;refine' dQ 4 (s:=9) (p:=13) rfl (fun O=>?_) (fun O=>?_) ?_;rotate_left
 ·refine Zb rfl<|jU rfl U9 rfl rfl rfl ⟨_,rfl,rfl⟩<|Wy ?_;exact aN 3
 ·refine Wbo ?_;exact aN 3
 refine Za rfl ?_;refine' dQ 9 (s:=14) (p:=23) rfl (fun I=>?_) (fun I=>?_) ?_;rotate_left
 ·have hz:0<s.size:=by have:=I;simp at this;omega
  refine Zb rfl<|rL rfl U9 rfl rfl Yd (bLG hz) rfl ⟨_,rfl,rfl⟩<|rH rfl rfl rfl rfl ⟨_,rfl,rfl⟩<|Zb rfl ?_;refine' bU 4 (s:=18) (p:=22) rfl (fun R=>?_) (fun R=>?_) ?_;rotate_left
  ·refine Zb rfl<|jU rfl U9 rfl rfl rfl ⟨_,rfl,rfl⟩<|Zar rfl<|oV rfl rfl rfl rfl ⟨_,rfl,rfl⟩ ?_;exact aN 3
  ·refine Zg rfl<|Wcb ?_;exact aN 3
  refine Zak rfl ?_;exact aN 5
 ·refine Zg rfl<|Wal ?_;exact aN 8
 refine aF<|Zag rfl (fun hc1=>?_) fun hc1=>?_
 ·refine aA<|Zf rfl<|Wi ?_;exact Zq [_,_] rfl bQ fun D hD=>⟨0,false,rfl,(fun h=>Xab),fun _=>aZF hc1⟩
 ·have hok:=bFX hc1;refine aQ<|aA<|Zf rfl<|bG<|Zf rfl<|aF<|Za0<|bK (γ:=Nat×Nat) (fun g=>s.size-g.1) (fun g=>g.1≤s.size∧g.2<10^g.1∧decFrom 0 s.data.toList=decFrom g.2 (s.data.toList.drop g.1)) (fun g=>[(5,qI (g.1:Int)),(4,qI (g.2:Int))]) [(3,_),(2,_),(0,_)] (fun g=>[D]) (0,0) ⟨Yf,Yf,Yf⟩ ⟨Ya,Ya,bRD⟩ bQ (aK) ?_;rintro⟨k,n⟩ ⟨h1,hn,hd⟩;simp only at h1 hn hd;have V:=aHU hn (bOB h1 hok.2.1);refine bZ<|Za rfl<|Za rfl<|jU rfl U9 rfl rfl rfl bRD<|Zam rfl<|aF<|Zaf rfl (fun hc2=>?_) (fun hc2=>?_)
  ·simp only at hc2;have hk:k<s.size:=by omega
   obtain⟨b,hb⟩:∃b,s.data.toList[k]?= some b:=⟨_,bLR Xay⟩
   have Y:=b.toNat_lt;refine aQ<|Za2<|Za0<|bZ<|Za rfl<|Za rfl<|rL rfl U9 rfl rfl Yd Ya0 rfl bRD<|Wcf ?_;refine' dQ 5 (s:=34) (p:=39) rfl (fun U=>?_) (fun U=>?_) ?_;rotate_left
   ·refine Zb rfl<|Zb rfl<|rL rfl U9 rfl rfl Yd Ya0 rfl ⟨_,rfl,rfl⟩<|Wy ?_;exact aN 4
   ·refine Wf ?_;exact aN 4
   refine aF<|Zag rfl (fun hc3=>?_) fun hc3=>?_
   ·refine aA<|Zf rfl<|Wbp ?_;exact Zq [_,_] rfl bQ fun D hD=>⟨0,false,rfl,(fun h=>Xab),fun _=>aJC hok hd hb (by simp at hc3;omega)⟩
   ·have hbd:48≤b.toNat∧b.toNat≤57:=by simp at hc3;omega
    refine aQ<|aP<|Za rfl<|BT rfl rfl rfl Ye rfl bRD<|Za rfl<|Za rfl<|rL rfl U9 rfl rfl Yd Ya0 rfl bRD<|Zau rfl<|uB rfl U5 U3 rfl Ye rfl bRD<|Zae rfl<|Wbl ?_;refine Wa ?_;exact aL 24 (k+1,n*10+(b.toNat-48)) ⟨Yn,aRP hn hbd,by simp only;rw[hd,aTG hb hbd]⟩ Yn ⟨Ya,Xde,bRD⟩ rfl rfl Mm5 (aK)
  ·obtain rfl:k=s.size:=by simp only at hc2;omega
   refine Za5<|Za1<|Za1<|Za6<|Zay<|aA<|Za rfl<|Zf rfl<|We ?_;exact Zq [_,_] rfl bQ fun D hD=>⟨_,true,rfl,fun _=>aSY hok hd,fun h=>Xab⟩
theorem yV(w:Λ)(D:aC):Fn prog 65 #[.string w] D (fun _ v=>v=qI (T0 w.data.toList)):=by
 refine Zw 31 func65 rfl fun h0=>aA<|Zf rfl<|bG<|Za rfl<|aF<|Za0<|aA<|Zav rfl<|Zf rfl<|aF<|Zag rfl (fun hc1=>?_) fun hc1=>?_
 ·refine Wm ?_;exact aE rfl fun D hD=>by obtain rfl:=bMN hc1;rfl
 ·refine bZ<|Zav rfl<|Zf rfl<|aF<|Zag rfl (fun hc2=>?_) (fun hc2=>?_)
  ·refine aQ<|jC rfl hc2<|Wm ?_;exact aE rfl fun D hD=>by obtain rfl:=bMN hc2;rfl
  ·refine aA<|Zav rfl<|Zf rfl<|aF<|Zag rfl (fun hc3=>?_) (fun hc3=>?_)
   ·refine aQ<|jC rfl hc3<|Wm ?_;exact aE rfl fun D hD=>by obtain rfl:=bMN hc3;rfl
   ·refine aA<|Zav rfl<|Zf rfl<|aF<|Zag rfl (fun hK=>?_) (fun hK=>?_)
    ·refine aQ<|jC rfl hK<|Wm ?_;exact aE rfl fun D hD=>by obtain rfl:=bMN hK;rfl
    ·refine aA<|Zav rfl<|Zf rfl<|aF<|Zag rfl (fun hN=>?_) (fun hN=>?_)
     ·refine aQ<|jC rfl hN<|Wm ?_;exact aE rfl fun D hD=>by obtain rfl:=bMN hN;rfl
     ·refine aA<|Zav rfl<|Zf rfl<|aF<|Zag rfl (fun hO=>?_) (fun hO=>?_)
      ·refine aQ<|jC rfl hO<|Wm ?_;exact aE rfl fun D hD=>by obtain rfl:=bMN hO;rfl
      ·refine aA<|Zav rfl<|Zf rfl<|aF<|Zag rfl (fun hP=>?_) (fun hP=>?_)
       ·refine aQ<|jC rfl hP<|Wm ?_;exact aE rfl fun D hD=>by obtain rfl:=bMN hP;rfl
       ·refine aA<|Zav rfl<|Zf rfl<|aF<|Zag rfl (fun hR=>?_) (fun hR=>?_)
        ·refine aQ<|jC rfl hR<|Wm ?_;exact aE rfl fun D hD=>by obtain rfl:=bMN hR;rfl
        ·refine aA<|Zav rfl<|Zf rfl<|aF<|Zag rfl (fun hS=>?_) (fun hS=>?_)
         ·refine aQ<|jC rfl hS<|Wm ?_;exact aE rfl fun D hD=>by obtain rfl:=bMN hS;rfl
         ·refine aA<|Zav rfl<|Zf rfl<|aF<|Zag rfl (fun I=>?_) (fun I=>?_)
          ·refine aQ<|jC rfl I<|Wm ?_;exact aE rfl fun D hD=>by obtain rfl:=bMN I;rfl
          ·refine aP<|Zav rfl<|Zf rfl<|aF<|Zag rfl (fun hF=>?_) (fun hF=>?_)
           ·refine Wm ?_;exact aE rfl fun D hD=>by obtain rfl:=bMN hF;rfl
           ·refine bZ<|Zav rfl<|Zf rfl<|aF<|Zag rfl (fun O=>?_) (fun O=>?_)
            ·refine aQ<|jC rfl O<|Wm ?_;exact aE rfl fun D hD=>by obtain rfl:=bMN O;rfl
            ·refine aA<|Zav rfl<|Zf rfl<|aF<|Zag rfl (fun R=>?_) (fun R=>?_)
             ·refine aQ<|jC rfl R<|Wm ?_;exact aE rfl fun D hD=>by obtain rfl:=bMN R;rfl
             ·refine aA<|Zav rfl<|Zf rfl<|aF<|Zag rfl (fun U=>?_) (fun U=>?_)
              ·refine aQ<|jC rfl U<|Wm ?_;exact aE rfl fun D hD=>by obtain rfl:=bMN U;rfl
              ·refine aA<|Zav rfl<|Zf rfl<|aF<|Zag rfl (fun V=>?_) (fun V=>?_)
               ·refine aQ<|jC rfl V<|Wm ?_;exact aE rfl fun D hD=>by obtain rfl:=bMN V;rfl
               ·refine aA<|Zav rfl<|Zf rfl<|aF<|Zag rfl (fun Y=>?_) (fun Y=>?_)
                ·refine aQ<|jC rfl Y<|Wm ?_;exact aE rfl fun D hD=>by obtain rfl:=bMN Y;rfl
                ·refine aA<|Zav rfl<|Zf rfl<|aF<|Zag rfl (fun Z=>?_) (fun Z=>?_)
                 ·refine aQ<|jC rfl Z<|Wm ?_;exact aE rfl fun D hD=>by obtain rfl:=bMN Z;rfl
                 ·refine aP<|Zav rfl<|Zf rfl<|aF<|Zag rfl (fun hH=>?_) (fun hH=>?_)
                  ·refine Wm ?_;exact aE rfl fun D hD=>by obtain rfl:=bMN hH;rfl
                  ·refine bZ<|Zav rfl<|Zf rfl<|aF<|Zag rfl (fun hB=>?_) (fun hB=>?_)
                   ·refine aQ<|jC rfl hB<|Wm ?_;exact aE rfl fun D hD=>by obtain rfl:=bMN hB;rfl
                   ·refine aP<|Zav rfl<|Zf rfl<|aF<|Zag rfl (fun hI=>?_) (fun hI=>?_)
                    ·refine Wm ?_;exact aE rfl fun D hD=>by obtain rfl:=bMN hI;rfl
                    ·refine bZ<|Zav rfl<|Zf rfl<|aF<|Zag rfl (fun hE=>?_) (fun hE=>?_)
                     ·refine aQ<|jC rfl hE<|Wm ?_;exact aE rfl fun D hD=>by obtain rfl:=bMN hE;rfl
                     ·refine aP<|Zav rfl<|Zf rfl<|aF<|Zag rfl (fun hJ=>?_) (fun hJ=>?_)
                      ·refine Wm ?_;exact aE rfl fun D hD=>by obtain rfl:=bMN hJ;rfl
                      ·refine bH<|Wz ?_;exact aE rfl fun D hD=>by show Value.int _ _=_;rw[aIO (w:=w) (bML hc1) (bML hc2) (bML hc3) (bML hK) (bML hN) (bML hO) (bML hP) (bML hR) (bML hS) (bML I) (bML hF) (bML O) (bML R) (bML U) (bML V) (bML Y) (bML Z) (bML hH) (bML hB) (bML hI) (bML hE) (bML hJ)]
theorem AZ(line:Λ)(hl:line.size≤1000)(D:aC):Fn prog 19 #[.string line] D (fun D' v=>∃nv b,v=.tuple #[nv,.bool b]∧(match iN line.data.toList with|some ns=>b=true∧Sl D' RI 1 nv ns|none=>b=false)):=by
 obtain⟨p0,ps,hcut⟩:=pK line;have hcl:=O1 line;have R:(eC line)[0]?= some p0:=by rw[hcut];rfl
 have hpl:(eC line).length=ps.length+1:=by rw[hcut];rfl
 refine Zw 40 func19 rfl fun h0=>aA<|Zf rfl<|Zf rfl<|aJ<|Za rfl<|Zaa rfl (fun D1 U=>p8 line hl _) fun V D1 U O=>Zf rfl<|bG<|Za rfl<|Zx rfl U22 kZ rfl O rfl R fun b1 o1 Y Z hY hB=>?_;obtain rfl:Y=[.string _]:=Z;refine Zh 0 rfl wQ rfl hB rfl<|Zd rfl (fun D2 hD2=>yV p0 _)<|Za rfl<|Zah rfl U22 rfl O rfl<|Zau rfl<|Zaw rfl<|aF<|Zaf rfl (fun hc1=>?_) fun hc1=>?_
 ·refine aA<|Zf rfl<|Wi ?_;exact Zq [_,_] rfl bQ fun D hD=>⟨_,false,rfl,by rw[aMF hcut hc1]⟩
 ·refine aQ<|aA<|Zf rfl<|bG<|Zf rfl<|aF<|Za0<|Zc (Nat×List Int×Γ×aD) (fun g=>ps.length-g.1) (fun g=>g.1≤ps.length∧(ps.take g.1).mapM vR=some g.2.1∧g.2.1.length=g.1∧bM 3 1 g.2.2.1 g.1 (ints g.2.1) g.2.2.2) (fun g=>[(6,qI ((g.1+1:Nat):Int)),(5,g.2.2.1)]) [(4,_),(3,_),(2,_)] (fun g=>g.2.2.2++[]) (fun g=>[D1,D]) (0,[],qN,[]) ⟨Yf,rfl,rfl,Xaj⟩ ⟨Ya,Ya,bRD⟩ Mm5 ?_;rintro⟨k,ns,v,ν⟩ ⟨h1,h2,h3,ha⟩;simp only at h1 h2 h3 ha;refine bZ<|Za rfl<|Za rfl<|Zah rfl U22 rfl O rfl<|Zam rfl<|aF<|Zaf rfl (fun hc2=>?_) (fun hc2=>?_)
  ·simp only at hc2;have hk:k<ps.length:=by omega
   obtain⟨x,hx⟩:=cR ps k;refine aQ<|Za2<|Za0<|aA<|Za rfl<|Za rfl<|Zx rfl U22 kZ rfl O rfl (by rw[hcut];exact bAN hx) fun b2 o2 hE hF rA hH=>?_
   obtain rfl:hE=[.string _]:=hF;refine Zh 0 rfl wQ rfl hH rfl<|Zaa rfl (fun D3 hI=>WN x _) fun v3 D3 hI hJ=>?_;obtain⟨m,nb,rfl,hK,hN⟩:=hJ;refine Za rfl<|Zao rfl<|Zao rfl<|Zf rfl<|Zf rfl<|bG<|Za rfl<|Zas rfl<|aF<|Zag rfl (fun hc3=>?_) fun hc3=>?_
   ·refine aA<|Zf rfl<|Wbp ?_;exact Zq [_,_] rfl bQ fun D hD=>⟨_,false,rfl,by rw[aUY hcut hc1 hx (hN Xao)]⟩
   ·have hnb:nb=true:=by simpa using hc3
    refine aQ<|aP<|Za rfl<|Za rfl<|Zt rfl U35 aI cO rfl (.cons rfl rfl .nil) fun rB D901 hO I=>?_;have hP:=Sl.ofInts (l:=[_]) (n:=1) (cap:=1) I rfl Yd Yd;refine aU (A:=[]) (B:=[]) rfl U35 rfl rfl aI cO rfl kD rfl rfl rfl ha (lD.lit I) Yf rfl (by simp[ints,h3]) Yk Yd (bMF rfl) rfl bRD fun V ν1 hR=>?_;have hS:bM 3 1 V (k+1) (ints (ns++[m])) ν1:=by rw[←eV];exact hR
    refine aY (ν1++[]) rfl<|Wt ?_;exact aL 26 (k+1,ns++[m],V,ν1) ⟨Yn,TW hx h2 (hK hnb),by simp[h3],hS⟩ Yn ⟨Ya,Ya,bRD⟩ rfl rfl Mm5 fun D h=>⟨D,bMJ _ (bMJ _ (h)),Le.refl D⟩
  ·obtain rfl:k=ps.length:=by simp only at hc2;omega
   rw[bMP]at h2;refine Za5<|Za1<|Za1<|Za6<|Zay<|aA<|Za rfl<|Zf rfl<|Zf rfl<|aG<|dU (A:=[]) (B:=[]) ha rfl fun D9 hD9 hX=>?_;have hns:=hX.ints (l:=ns) h3 Yd;exact Zq [_,_] rfl bQ fun D hD=>⟨_,true,rfl,by rw[aGB hcut hc1 h2];exact⟨rfl,hns.up RI.up (hD _ Yf)⟩⟩
end L12
theorem WV{t e tr:Θ}{sz n cap:Nat}{ad ad':Option Addr}{c':Nat}{ats:Array Θ}
  (ho:all[ix]?= some ⟨some d,.call {callee:=.builtin .append,args:=#[x,y],argTypes:=ats},tr,pos,aft,g⟩) (ht:P.underlying t=some (.slice e)) (hat:ats[0]?= some t) (I:ats[1]?= some t) (hs:TS P e sz)
  (hx:ev σ x=some (.slice ad n cap)) (hy:ev σ y=some (.slice ad' 0 c')) (hcap:n≤cap) (hN:Nat.blt d X.N=true) (hg:cZ all σ g)
  (kk:WL P X bad all K Q os ((d,.slice ad n cap)::σ) μ Ds):WL P X bad all K Q ((fl,ix)::os) σ μ Ds:=by
 refine fJ ho rfl rfl hg fun a w hh=>?_
 have hex:(execOp a.eval ⟨some d,.call {callee:=.builtin .append,args:=#[x,y],argTypes:=ats},tr,pos,aft,g⟩).run P w=
   ((Builtin.append_ ats tr #[.slice ad n cap,.slice ad' 0 c']).run P w).andThen fun r w'=>.ok (.value r) w':=by
  simp only[execOp,resolve,pure_bind,invoke,builtin];have O:(#[x,y].map a.eval)=#[.slice ad n cap,.slice ad' 0 c']:=by simp[hh.eval hx,hh.eval hy]
  rw[O,Ω];simp only[ε]
 rw[hex];have hfc:(Builtin.firstCells sz 0 (.slice ad' 0 c')).run P w=.ok ([]:List Γ).toArray w:=by
  cases ad' with
  |none=>rfl
  |some a=>simp[Builtin.firstCells,loadCells,loadCellsFrom]
 rw[G4 (tr:=tr) (w':=w) ht hat I hs (m:=0) (xs:=[]) rfl hfc hcap (by cases ad<;>rfl)];exact⟨fun _=>pV.refl _ _,kk _ _ (hh.put hN _)⟩
theorem aGM{t e tr:Θ}{sz n m b:Nat}{D₁ D₂:aC}{cells xs:List Γ}{xv:Γ}{z0:Γ}{ats:Array Θ}
  (ho:all[ix]?= some ⟨some d,.call {callee:=.builtin .append,args:=#[x,y],argTypes:=ats},tr,pos,aft,g⟩) (ht:P.underlying t=some (.slice e)) (hat:ats[0]?= some t) (I:ats[1]?= some t)
  (hs:TS P e sz) (hz:TZ P e z0) (O:Nat.beq z0.cells.size sz=true) (hi:(P.info? e).map (fun i=>Nat.ble 1 i.bytes&&Nat.ble i.bytes 4096)=some true)
  (hx:ev σ x=some (qS b n n)) (hy:ev σ y=some xv) (hA:At D₁ b 0 cells) (hD:D₁∈Ds) (hcl:cells.length=n*sz) (hsrc:lD D₂ xv m xs) (R:D₂∈Ds) (hxl:xs.length=m*sz) (Y:0<m) (hlen:n+m≤10000000) (hN:Nat.blt d X.N=true) (hg:cZ all σ g)
  (kk:∀v' ν',bM e sz v' (n+m) (cells++xs) ν'→WL P X bad all K Q os ((d,v')::σ) (ν'++μ) Ds):WL P X bad all K Q ((fl,ix)::os) σ μ Ds:=by
 refine fJ ho rfl rfl hg fun a w hh=>?_
 obtain⟨h1,h2,h3,D,h4,h5,Z⟩:=id hh;obtain⟨i0,hi,U,V⟩:∃i0,P.info? e=some i0∧1≤i0.bytes∧i0.bytes≤4096:=by
  cases h:P.info? e with
  |none=>simp[h]at hi
  |some i=>simp[h]at hi;exact⟨i,rfl,hi⟩
 have hz1':=bNO O;have hex:(execOp a.eval ⟨some d,.call {callee:=.builtin .append,args:=#[x,y],argTypes:=ats},tr,pos,aft,g⟩).run P w=
   ((Builtin.append_ ats tr #[qS b n n,xv]).run P w).andThen fun r w'=>.ok (.value r) w':=by
  simp only[execOp,resolve,pure_bind,invoke,builtin];have e1:(#[x,y].map a.eval)=#[qS b n n,xv]:=by simp[hh.eval hx,hh.eval hy]
  rw[e1,Ω];simp only[ε]
 rw[hex];have lies:∀{D₀:aC} (_:D₀∈Ds) (w':Δ),w'.heap=w.heap→∀b o ys,At D₀ b o ys→aRD w' b o ys:=fun hD₀ w' hw' b o ys hA j u hj=>by
  have:=h4.agr.cell ((h5 _ hD₀).get (hA j u hj));unfold World.cell? at this ⊢
  rw[hw'];exact this
 obtain⟨c,hc,hrun⟩:=x7 (tr:=tr) (w:=w) (a:=some ⟨b,0,none⟩) (n:=n) (cap:=n) (old:=cells) ht hat I hs hz hi (KJ hsrc) (fun w' hw'=>K4 hsrc hxl fun b o=>lies R w' hw' b o xs) (fun w' hw'=>by
  simp only[Builtin.firstCells];exact oJ hcl (lies hD w' hw' b 0 cells hA)) Yd hlen ⟨U,V⟩
 rw[hrun];obtain⟨junk,hjunk⟩:∃junk:List Γ,cells.toArray++xs.toArray++Builtin.zeroCells z0.cells (c-(n+m))=(cells++xs++junk).toArray∧(cells++xs++junk).length=c*sz:=by
  refine⟨(Builtin.zeroCells z0.cells (c-(n+m))).toList,Yf,?_⟩;have:=N7 z0.cells (c-(n+m));simp only[bLT,Array.length_toList,this,hz1',hcl,hxl];rw[←bOK,←bOK];congr 1;omega
 have hpush:=h4.push (.cells (cells++xs++junk).toArray e (0,0)) rfl;simp only[Ξ];rw[hjunk.1];refine⟨fun _=>⟨Yf,fun b hb _=>dP hb⟩,?_⟩;have hst:iX X.h0 X.lo X.D0 X.mods ([(w.heap.size,.cells (cells++xs++junk).toArray e (0,0))]++μ) D {w with drawn:=w.drawn+1,heap:=w.heap.push (.cells (cells++xs++junk).toArray e (0,0))}:=
  ⟨hpush.hlo,hpush.size,hpush.old,hpush.dold,hpush.agr,hpush.box,hpush.nd,hpush.fz,hpush.env⟩
 exact kk _ _ (bLY ⟨_,c,junk,rfl,hc,rfl,by simp[hcl,hxl,bOK],hjunk.2⟩) _ _ (Hl.put ⟨h1,h2,h3,D,hst,h5,Z.step (fun _ p hp=>by
  rcases bMD.1 hp with hp|hp
  ·exact bLY (by rw[bMI.1 hp];exact bMH _)
  ·exact bMF (GE.2 ⟨p,hp,rfl⟩)) (fun _=>⟨Yf,fun b hb _=>⟨dP hb,rfl⟩,rfl⟩) hst.dom⟩ hN _)
namespace L12
open C12 Go.Lib
theorem aHM(l:List Λ):∀u∈l.map Value.string,cell1 u=true:=by
 intro u hu;obtain⟨x,_,rfl⟩:=GE.1 hu;rfl
theorem aSJ{α:Type}(f:α→Γ)(l:List α):l.flatMap (fun x=>[f x])=l.map f:=by
 induction l with
 |nil=>rfl
 |cons a l ih=>rw[bMS,ih];rfl
theorem _root_.Go.Fs.lD.strs{D:aC}{v:Γ}{l:List Λ}(h:Sl D RS 1 v l):lD D v l.length (l.map Value.string):=by
 rw[←aSJ];exact lD.of (R:=RS) (fun _ _ _ h=>h) (fun _=>rfl) h
section
variable{α:Type}[DecidableEq α]{xs ys:List α}{a b:α}{k:Nat}
omit [DecidableEq α]in
theorem aOY(ha:xs[k]?= some a)(hb:ys[k]?= some b)(h:xs.take k=ys.take k)(e:a=b):xs.take (k+1)=ys.take (k+1):=by
 rw[bLW,bLW,ha,hb,h,e]
theorem bBT(h:xs.length≠ys.length):decide (xs=ys)=false:=decide_eq_false fun e=>h (by rw[e])
theorem bHC(ha:xs[k]?= some a)(hb:ys[k]?= some b)(h:a≠b):decide (xs=ys)=false:=decide_eq_false fun e=>h (by rw[e,hb]at ha;exact(bMQ ha).symm)
theorem aYU(hl:xs.length=ys.length)(hk:xs.length≤k)(h:xs.take k=ys.take k):decide (xs=ys)=true:=decide_eq_true (by rwa [bMV hk,bMV Yd]at h)
end
theorem aCF{xs:List Λ}{x:Λ}{k n:Nat}(hx:xs[k]?= some x)(h:∀y∈xs.take k,y.size≤n)(hs:x.size≤n):∀y∈xs.take (k+1),y.size≤n:=by
 intro y hy;rw[bLW,hx,bMD]at hy;rcases hy with hy|hy
 ·exact h y hy
 ·simp at hy;subst hy;exact hs
theorem UO{xs:List Λ}(h:40<xs.length):eT xs=3:=by
 unfold eT;rw[bMG];simp;left;omega
theorem QN{xs:List Λ}{x:Λ}{k:Nat}(hx:xs[k]?= some x)(h:50<x.size):eT xs=3:=by
 unfold eT;rw[bMG];simp only[bMU,LT,bOQ,bQV];exact bLY ⟨x,n5 hx,Yap⟩
theorem aMD{xs:List Λ}(h:xs.length≤40)(h2:∀x∈xs,x.size≤50):eT xs=0:=by
 unfold eT;rw[bLX];simp only[bMU,LT,bOQ,bQV,bQX,not_exists,not_and];refine⟨Yd,fun x hx=>?_⟩;have:=h2 x hx;simp;omega
def DW(xs:List Λ):Bool:=decide (xs.length≤45)&&xs.all fun x=>decide (x.size≤70)
theorem Q3{xs:List Λ}:DW xs=true ↔ xs.length≤45∧∀x∈xs,x.size≤70:=by unfold DW;simp
theorem ZS{xs:List Λ}{x:Λ}{k:Nat}(hx:xs[k]?= some x)(h:70<x.size):DW xs=false:=by
 rw[←Bool.not_eq_true,Q3];rintro⟨_,h2⟩;have:=h2 x (n5 hx);omega
theorem aHT{xs:List Λ}{k:Nat}(hk:xs.length≤k∨46≤k)(h:∀x∈xs.take k,x.size≤70):DW xs=decide ((xs.length:Int)≤45):=by
 rw[bOX,Q3,LT];constructor
 ·rintro⟨h1,_⟩;omega
 ·intro h1;have h2:xs.take k=xs:=bMV Yd;rw[h2]at h;exact⟨Yd,h⟩
theorem FF:∀{ps:List (List UInt8)} {ns:List Int},ps.mapM rV=some ns→ns.length=ps.length
 | [],ns,h=>by
  obtain rfl:([]:List Int)=ns:=by simpa using h
  rfl
 |p::ps,ns,h=>by
  rw[bPL]at h;cases hp:rV p with
  |none=>rw[hp]at h;cases h
  |some q=>
   cases hq:ps.mapM rV with
   |none=>rw[hp,hq]at h;cases h
   |some qs=>
    rw[hp,hq]at h;obtain rfl:q::qs=ns:=bMQ h;rw[bLU,bLU,FF hq]
theorem aQK{x:Λ}{ns:List Int}(h:iN x.data.toList=some ns)(hs:x.size≤1000):ns.length≤1001:=by
 have hc:=MX x.data.toList;have hl:x.data.toList.length=x.size:=rfl;unfold iN at h;split at h
 ·cases h
 ·rename_i p ps hps;split at h
  ·have:=FF h;rw[hps,bLU]at hc;omega
  ·cases h
theorem KW{D:aC}{nv:Γ}{nb:Bool}{o:Option (List Int)}(hb:nb=false)(h:match o with|some ns=>nb=true∧Sl D RI 1 nv ns|none=>nb=false):o=none:=by
 cases o with
 |none=>rfl
 |some ns=>rw[hb]at h;cases h.1
def S1(br:Bool)(ns:List Int)(j:Nat):Nat:=((List.range j).filter fun i=>(decide (1≤i)&&decide (ns[i]?= some 2))&&(br||decide (i=2))).length
theorem SS(br:Bool)(ns:List Int):S1 br ns 1=0:=rfl
theorem aDM(br:Bool)(ns:List Int)(j:Nat):S1 br ns j≤j:=by
 unfold S1;exact bOB (bNF _ _) Yf
theorem IM(br:Bool)(ns:List Int)(j:Nat):S1 br ns (j+1)=S1 br ns j+if((decide (1≤j)&&decide (ns[j]?= some 2))&&(br||decide (j=2)))=true then 1 else 0:=by
 unfold S1;rw[bND,bMY,bLT];congr 1;rw[bOA];split<;>rfl
theorem UI{br:Bool}{ns:List Int}{j:Nat}{m:Int}(hm:ns[j]?= some m)(hj:1≤j)(h:(decide (m=2)&&(br||decide ((j:Int)=2)))=true):S1 br ns (j+1)=S1 br ns j+1:=by
 rw[IM,bMG];simp only[bLQ,bMU,LT]at h ⊢
 refine⟨⟨hj,by rw[hm,h.1]⟩,h.2.imp id fun e=>Yd⟩
theorem aDC{br:Bool}{ns:List Int}{j:Nat}{m:Int}(hm:ns[j]?= some m)(h:(decide (m=2)&&(br||decide ((j:Int)=2)))=false):S1 br ns (j+1)=S1 br ns j:=by
 rw[IM,bLX]
 ·rfl
 ·intro hh;simp only[bLQ,bMU,LT]at hh;have:(decide (m=2)&&(br||decide ((j:Int)=2)))=true:=by
   simp only[bLQ,bMU,LT];refine⟨?_,hh.2.imp id fun e=>Yd⟩;have h2:=hh.1.2;rw[hm]at h2;exact bMQ h2
  rw[this]at h;cases h
theorem aKV(br:Bool)(ns:List Int){j:Nat}(h:j≤max 1 ns.length)(h2:ns.length≤j):S1 br ns j=S1 br ns ns.length:=by
 by_cases hl:ns.length=0
 ·rw[hl];obtain rfl|rfl:j=0∨j=1:=by omega
  ·rfl
  ·rfl
 ·obtain rfl:j=ns.length:=by omega
  rfl
def IZ(x:Λ):Λ:=(eC x).headD ⟨#[]⟩
def aZJ(x:Λ):Nat:=match iN x.data.toList with
 |none=>0
 |some _=>if IZ x=⟨#[115,109,117,100,103,101]⟩then 1 else 0
def bHE(x:Λ):Nat:=match iN x.data.toList with
 |none=>0
 |some ns=>if(decide (IZ x=⟨#[98,114,111,107,101,110]⟩)||decide (IZ x=⟨#[112,97,114,116]⟩))=true then S1 (decide (IZ x=⟨#[98,114,111,107,101,110]⟩)) ns ns.length else 0
def aUZ(xs:List Λ):Bool:=decide (((xs.map aZJ).sum:Int)≤3)&&decide (((xs.map bHE).sum:Int)≤4)
theorem aMC{xs:List Λ}{sm un:Nat}(h2:sm=(xs.map aZJ).sum)(h3:un=(xs.map bHE).sum):(decide ((sm:Int)≤3)&&decide ((un:Int)≤4))=aUZ xs:=by rw[h2,h3];rfl
theorem yE{xs:List Λ}{x:Λ}{k:Nat}{f:Λ→Nat}(hx:xs[k]?= some x):((xs.take (k+1)).map f).sum=((xs.take k).map f).sum+f x:=by
 rw[bLW,hx];simp
section
variable{x p0:Λ}{ps:List Λ}{ns:List Int}{j:Nat}
theorem aPU(h:iN x.data.toList=none):aZJ x=0:=by unfold aZJ;rw[h]
theorem aQL(h:iN x.data.toList=none):bHE x=0:=by unfold bHE;rw[h]
theorem EJ(hc:eC x=p0::ps):IZ x=p0:=by unfold IZ;rw[hc];rfl
theorem bAQ(hc:eC x=p0::ps)(h:iN x.data.toList=some ns)(hp:decide (p0=⟨#[115,109,117,100,103,101]⟩)=true):aZJ x=1:=by unfold aZJ;rw[h,EJ hc];exact bMG (bMN hp)
theorem bIM(hc:eC x=p0::ps)(h:iN x.data.toList=some ns)(hp:decide (p0=⟨#[115,109,117,100,103,101]⟩)=false):aZJ x=0:=by unfold aZJ;rw[h,EJ hc];exact bLX (bML hp)
theorem aUL(hc:eC x=p0::ps)(h:iN x.data.toList=some ns)(he:(decide ((j:Int)<(ns.length:Int))&&(decide (p0=⟨#[98,114,111,107,101,110]⟩)||decide (p0=⟨#[112,97,114,116]⟩)))=false)(I:j≤max 1 ns.length)(h8:j=1∨(decide (p0=⟨#[98,114,111,107,101,110]⟩)||decide (p0=⟨#[112,97,114,116]⟩))=true):bHE x=S1 (decide (p0=⟨#[98,114,111,107,101,110]⟩)) ns j:=by
 unfold bHE;rw[h,EJ hc];simp only;rw[bQI]at he;by_cases hb:(decide (p0=⟨#[98,114,111,107,101,110]⟩)||decide (p0=⟨#[112,97,114,116]⟩))=true
 ·rw[bMG hb];have hj:=he.resolve_right (by rw[hb];simp)
  exact(aKV _ ns I (by have:=bML hj;omega)).symm
 ·rw[bLX hb];obtain rfl:=h8.resolve_right hb;rfl
end
theorem aGF{D:aC}{nv:Γ}{nb:Bool}{o:Option (List Int)}(hb:nb=true)(h:match o with|some ns=>nb=true∧Sl D RI 1 nv ns|none=>nb=false):∃ns,o=some ns∧Sl D RI 1 nv ns:=by
 cases o with
 |none=>simp only at h;rw[hb]at h;cases h
 |some ns=>exact⟨ns,rfl,h.2⟩
theorem MF(sv:Γ)(xs:List Λ)(D:aC)(hS:Sl D RS 1 sv xs)(hl:xs.length≤10000000):Fn prog 9 #[sv] D (fun D' v=>Sl D' RS 1 v xs):=by
 refine Zw 6 func9 rfl (fun h0=>aA<|Zf rfl<|aJ<|Zt rfl U22 kZ tf_z9 rfl .nil fun V D901 I O=>Za rfl<|aU (A:=[]) (ν:=[]) (B:=[]) rfl U22 rfl rfl kZ tf_z9 rfl aFE rfl rfl rfl bM.nil (lD.strs hS) Yf (by rw[bNE,bNY]) rfl (aHM _) Yd (bMF rfl) rfl bRD fun Y ν1 R=>We ?_);have U:bM 9 1 Y xs.length (xs.map Value.string) ν1:=by simpa using R
 refine dU (A:=[]) (B:=[]) U rfl fun D2 Z hF=>?_;exact aE rfl fun D' hD=>(hF.strs rfl Yd).up RS.up (hD _ Yf)
theorem ZU(av bv:Γ)(xs ys:List Int)(D:aC)(hx:Sl D RI 1 av xs)(hy:Sl D RI 1 bv ys):Fn prog 24 #[av,bv] D (fun _ v=>v=.bool (decide (xs=ys))):=by
 have hl:=hx.len;refine Zw 26 func24 rfl fun h0=>aA<|Zf rfl<|bG<|Za rfl<|Zah rfl U90 rfl hx rfl<|Za rfl<|Zah rfl U35 rfl hy rfl<|Zaw rfl<|aF<|Zaf rfl (fun hc1=>?_) fun hc1=>?_
 ·refine aA<|Wi ?_;exact aE rfl fun D hD=>bLZ Value.bool (bBT Yd).symm
 ·have hlen:xs.length=ys.length:=by omega
  refine aQ<|bZ<|Zf rfl<|aF<|Za0<|bK (γ:=Nat) (fun k=>xs.length-k) (fun k=>k≤xs.length∧xs.take k=ys.take k) (fun k=>[(5,qI (k:Int))]) [(4,_),(0,_),(1,_)] (fun k=>[D]) 0 Yf ⟨Ya,bRD⟩ bQ (aK) ?_;rintro k ⟨h1,h2⟩;refine bZ<|Za rfl<|Za rfl<|Zah rfl U90 rfl hx rfl<|Zam rfl<|aF<|Zaf rfl (fun hc2=>?_) fun hc2=>?_
  ·have hk:k<xs.length:=by omega
   obtain⟨a,ha⟩:=cR xs k;obtain⟨b,hb⟩:=cR ys k;refine aQ<|Za2<|Za0<|Za2<|bS [] 3 9 242<|Za rfl<|Za rfl<|Zx rfl U90 sZ rfl hx rfl ha fun V Y I O U R=>?_;obtain rfl:I=[qI _]:=O;refine Zh 0 rfl tA rfl R rfl<|Za rfl<|Za rfl<|jA rfl hy rfl hb fun b2 Z=>Zaw rfl<|aF<|Zaf rfl (fun hc3=>?_) fun hc3=>?_
   ·refine aA<|Wh ?_;exact aE rfl fun D hD=>bLZ Value.bool (bHC ha hb (hc3)).symm
   ·refine Wbs ?_;exact aL 17 (k+1) ⟨Yd,aOY ha hb h2 Yd⟩ Yd ⟨Ya,bRD⟩ rfl rfl Mm5 (aK)
  ·refine Wk ?_;exact aE rfl fun D hD=>bLZ Value.bool (aYU hlen Yd h2).symm
theorem aAT(sv:Γ)(xs:List Λ)(D:aC)(hS:Sl D RS 1 sv xs):Fn prog 11 #[sv] D (fun _ v=>v=qI (eT xs)):=by
 have hl:=hS.len;refine Zw 19 func11 rfl fun h0=>aA<|Zf rfl<|bG<|Za rfl<|Zah rfl U22 rfl hS rfl<|Zaq rfl<|aF<|Zaf rfl (fun hc1=>?_) fun hc1=>?_
 ·refine aA<|Wi ?_;exact aE rfl fun D hD=>by show Value.int _ _=_;rw[UO Yd]
 ·have I:xs.length≤40:=by omega
  refine aQ<|bZ<|Zf rfl<|aF<|Za0<|bK (γ:=Nat) (fun k=>xs.length+1-k) (fun k=>k≤xs.length∧∀x∈xs.take k,x.size≤50) (fun k=>[(3,qI (k:Int))]) [(2,_),(0,_)] (fun k=>[D]) 0 ⟨Yd,Yf⟩ ⟨Ya,bRD⟩ bQ (aK) ?_;rintro k ⟨h1,h2⟩;refine bZ<|Za rfl<|Za rfl<|Zah rfl U22 rfl hS rfl<|Zam rfl<|aF<|Zaf rfl (fun hc2=>?_) fun hc2=>?_
  ·have hk:k<xs.length:=by omega
   obtain⟨x,hx⟩:=cR xs k;refine aQ<|Za2<|Za0<|aA<|Za rfl<|Za rfl<|Zx rfl U22 kZ rfl hS rfl hx fun Y Z O R V U=>?_;obtain rfl:O=[.string _]:=R;refine Zh 0 rfl wQ rfl U rfl<|jU rfl U9 rfl rfl rfl bRD<|Zaq rfl<|aF<|Zaf rfl (fun hc3=>?_) fun hc3=>?_
   ·refine aA<|Wh ?_;exact aE rfl fun D hD=>by show Value.int _ _=_;rw[QN hx Yd]
   ·refine Wbs ?_;exact aL 14 (k+1) ⟨Yd,aCF hx h2 Yd⟩ Yd ⟨Ya,bRD⟩ rfl rfl Mm5 (aK)
  ·obtain rfl:k=xs.length:=by omega
   rw[bMP]at h2;refine Wk ?_;exact aE rfl fun D hD=>by show Value.int _ _=_;rw[aMD I h2]
theorem aLY(sv:Γ)(xs:List Λ)(D:aC)(hS:Sl D RS 1 sv xs):Fn prog 5 #[sv] D (fun _ v=>v=.bool (DW xs)):=by
 have hl:=hS.len;refine Zw 23 func5 rfl fun h0=>aA<|Zf rfl<|bG<|Zf rfl<|aF<|Za0<|bK (γ:=Nat) (fun k=>xs.length+1-k) (fun k=>k≤xs.length∧∀x∈xs.take k,x.size≤70) (fun k=>[(3,qI (k:Int))]) [(2,_),(0,_)] (fun k=>[D]) 0 ⟨Yd,Yf⟩ ⟨Ya,bRD⟩ bQ (aK) ?_;rintro k ⟨h1,h2⟩;refine bZ<|Za rfl<|Za rfl<|Zah rfl U22 rfl hS rfl<|Wcf ?_;refine' bU 3 (s:=8) (p:=11) rfl (fun O=>?_) (fun O=>?_) ?_;rotate_left
 ·refine Zb rfl<|LB rfl rfl rfl rfl ⟨_,rfl,rfl⟩<|Zaj rfl ?_;exact aN 2
 ·refine Wat ?_;exact aN 2
 refine aF<|Zag rfl (fun hc1=>?_) fun hc1=>?_
 ·have hk:k<xs.length:=by simp at hc1;omega
  obtain⟨x,hx⟩:=cR xs k;refine aQ<|Za2<|Za0<|aA<|Za rfl<|Za rfl<|Zx rfl U22 kZ rfl hS rfl hx fun Z o1 R U Y V=>?_;obtain rfl:R=[.string _]:=U;refine Zh 0 rfl wQ rfl V rfl<|jU rfl U9 rfl rfl rfl bRD<|Zaq rfl<|aF<|Zaf rfl (fun hc2=>?_) fun hc2=>?_
  ·refine aA<|Wh ?_;exact aE rfl fun D hD=>by show Value.bool _=_;rw[ZS hx Yd]
  ·refine Wbs ?_;exact aL 16 (k+1) ⟨Yd,aCF hx h2 Yd⟩ Yd ⟨Ya,bRD⟩ rfl rfl Mm5 (aK)
 ·have I:xs.length≤k∨46≤k:=by simp at hc1;omega
  refine Za5<|Za1<|Za1<|Za6<|Zay<|aA<|Za rfl<|Zah rfl U22 rfl hS rfl<|gX rfl rfl rfl rfl bRD<|We ?_;exact aE rfl fun D hD=>by show Value.bool (decide _)=_;rw[aHT I h2]
theorem ZI(sv:Γ)(xs:List Λ)(D:aC)(hS:Sl D RS 1 sv xs)(hn:xs.length≤1000)(hsz:∀x∈xs,x.size≤1000):Fn prog 6 #[sv] D (fun _ v=>v=.bool (aUZ xs)):=by
 have hl:=hS.len;refine Zw 72 func6 rfl fun h0=>aA<|Zf rfl<|aJ<|Zf rfl<|Zf rfl<|bG<|Zf rfl<|aF<|Za0<|bK (γ:=Nat×Nat×Nat) (fun g=>xs.length-g.1) (fun g=>g.1≤xs.length∧g.2.1=((xs.take g.1).map aZJ).sum∧g.2.2=((xs.take g.1).map bHE).sum∧g.2.1≤g.1∧g.2.2≤1002*g.1) (fun g=>[(5,qI (g.1:Int)),(3,qI (g.2.1:Int)),(4,qI (g.2.2:Int))]) [(2,_),(0,_)] (fun g=>[D]) (0,0,0) ⟨Yf,Yf,Yf,Yf,Yf⟩ ⟨Ya,Ya,Ya,bRD⟩ bQ (aK) ?_;rintro⟨k,sm,un⟩ ⟨h1,h2,h3,Z,hB⟩;simp only at h1 h2 h3 Z hB;refine bZ<|Za rfl<|Za rfl<|Zah rfl U22 rfl hS rfl<|Zam rfl<|aF<|Zaf rfl (fun hc1=>?_) fun hc1=>?_
 ·simp only at hc1;have hk:k<xs.length:=by omega
  obtain⟨x,hx⟩:=cR xs k;have hxs:=hsz x (n5 hx);refine aQ<|Za2<|Za0<|aA<|Za rfl<|Za rfl<|Zx rfl U22 kZ rfl hS rfl hx fun b1 o1 hE hF hcl1 hH=>?_;obtain rfl:hE=[.string _]:=hF;refine Zh 0 rfl wQ rfl hH rfl<|Zaa rfl (fun D1 hI=>AZ x hxs _) fun v1 D1 hI hJ=>?_;obtain⟨nv,nb,rfl,R⟩:=hJ;refine Za rfl<|Zao rfl<|Zao rfl<|Zf rfl<|Zf rfl<|bG<|Za rfl<|Zas rfl<|aF<|Zag rfl (fun hc2=>?_) fun hc2=>?_
  ·have hns:=KW Yat R;refine Za5<|Za1<|Za6<|Zay<|aP<|Za rfl<|Zae rfl<|Wbl ?_;exact aL 22 (k+1,sm,un) ⟨Yn,by simp only;rw[yE hx,aPU hns];omega,by simp only;rw[yE hx,aQL hns];omega,Yn,Yn⟩ Yn ⟨Ya,Ya,Ya,bRD⟩ rfl rfl Mm5 fun D h=>⟨D,bMJ _ (h),Le.refl D⟩
  ·have hnbt:nb=true:=by simpa using hc2
   obtain⟨ns,hns,hnv⟩:=aGF hnbt R;have hkl:ns.length≤1001:=aQK hns hxs;obtain⟨p0,ps,hcut⟩:=pK x;have hK:(eC x)[0]?= some p0:=by rw[hcut];rfl
   refine aQ<|aA<|Za rfl<|Za rfl<|Zx rfl U22 kZ rfl hS rfl hx fun b2 o2 hN hO hcl2 hP=>?_;obtain rfl:hN=[.string _]:=hO;refine Zh 0 rfl wQ rfl hP rfl<|Zaa rfl (fun D2 hR=>p8 x hxs _) fun v2 D2 hR hX=>Zx rfl U22 kZ rfl hX rfl hK fun b3 o3 hY rA hcl3 rB=>?_;obtain rfl:hY=[.string _]:=rA;refine Zh 0 rfl wQ rfl rB rfl<|Zf rfl<|bG<|Za rfl<|Zav rfl<|aF<|Zag rfl (fun hc3=>?_) fun hc3=>?_
   ·refine aP<|Za rfl<|Zae rfl<|Zf rfl<|aJ<|Zf rfl<|aF<|Za0<|bK (γ:=Nat×Nat) (fun g=>1001+1-g.1) (fun g=>1≤g.1∧g.1≤1002∧g.1≤max 1 ns.length∧g.2=un+S1 (decide (p0=⟨#[98,114,111,107,101,110]⟩)) ns g.1∧(g.1=1∨(decide (p0=⟨#[98,114,111,107,101,110]⟩)||decide (p0=⟨#[112,97,114,116]⟩))=true)) (fun g=>[(9,qI (g.1:Int)),(4,qI (g.2:Int))]) [(3,_),(36,_),(35,_),(34,_),(33,_),(8,_),(32,_),(31,_),(30,_),(29,_),(28,_),(27,_),(26,_),(25,_),(24,_),(7,_),(6,_),(23,_),(22,_),(16,_),(21,_),(20,_),(19,_),(18,_),(17,_),(13,_),(12,_),(11,_),(10,_),(5,_),(2,_),(0,_)] (fun g=>[D2,D1,D]) (1,un) ⟨Yf,Yf,Yn,by simp only;rw[SS];rfl,bMF rfl⟩ ⟨Ya,Ya,bRD⟩ bQ (aK) ?_;rintro⟨j,u2⟩ ⟨h4,h5,Y,h7,h8⟩;simp only at h4 h5 Y h7 h8;have hcj:=aDM (decide (p0=⟨#[98,114,111,107,101,110]⟩)) ns j;refine bZ<|Za rfl<|Za rfl<|Zah rfl U35 rfl hnv rfl<|Wcf ?_;refine' bU 7 (s:=41) (p:=48) rfl (fun hg1=>?_) (fun hg1=>?_) ?_;rotate_left
    ·refine Wau ?_;refine' dQ 3 (s:=44) (p:=47) rfl (fun hg2=>?_) (fun hg2=>?_) ?_;rotate_left
     ·refine Zb rfl<|oK rfl rfl rfl rfl ⟨_,rfl,rfl⟩<|oW rfl rfl rfl rfl ⟨_,rfl,rfl⟩ ?_;exact aN 2
     ·refine Ws ?_;exact aN 2
     refine Zaj rfl ?_;exact aN 4
    ·refine Wo ?_;exact aN 6
    refine aF<|Zag rfl (fun I=>?_) fun I=>?_
    ·have hjl:j<ns.length:=by have hz:=(bLQ _ _).mp I;have:=bMN hz.1;omega
     have hbp:=((bLQ _ _).mp I).2;obtain⟨m,hm⟩:=cR ns j;refine aQ<|Za2<|Za0<|aA<|Za rfl<|Za rfl<|jA rfl hnv rfl hm fun b4 o4=>Was ?_;refine' bU 7 (s:=56) (p:=63) rfl (fun hg3=>?_) (fun hg3=>?_) ?_;rotate_left
     ·refine Wau ?_;refine' dQ 3 (s:=59) (p:=62) rfl (fun hg4=>?_) (fun hg4=>?_) ?_;rotate_left
      ·refine Zb rfl<|Waj ?_;exact aN 2
      ·refine Ws ?_;exact aN 2
      refine Zaj rfl ?_;exact aN 4
     ·refine Wo ?_;exact aN 6
     refine aF<|Zag rfl (fun U=>?_) fun U=>?_
     ·refine Wbx ?_;exact aL 21 (j+1,u2+1) ⟨Yn,Yn,Yn,by simp only;rw[UI hm h4 U];omega,Or.inr hbp⟩ Yn ⟨Ya,Ya,bRD⟩ rfl rfl Mm5 (aK)
     ·refine Wbs ?_;exact aL 18 (j+1,u2) ⟨Yn,Yn,Yn,by simp only;rw[aDC hm U];omega,Or.inr hbp⟩ Yn ⟨Ya,Ya,bRD⟩ rfl rfl Mm5 (aK)
    ·refine Wbn ?_;exact aL 41 (k+1,sm+1,u2) ⟨Yn,by simp only;rw[yE hx,bAQ hcut hns hc3];omega,by simp only;rw[yE hx,aUL (j:=j) hcut hns I Y h8];omega,Yn,Yn⟩ Yn ⟨Ya,Ya,Ya,bRD⟩ rfl rfl Mm5 fun D h=>⟨D,bMJ _ (bMJ _ (h)),Le.refl D⟩
   ·refine aQ<|aA<|Zf rfl<|aF<|Za0<|bK (γ:=Nat×Nat) (fun g=>1001+1-g.1) (fun g=>1≤g.1∧g.1≤1002∧g.1≤max 1 ns.length∧g.2=un+S1 (decide (p0=⟨#[98,114,111,107,101,110]⟩)) ns g.1∧(g.1=1∨(decide (p0=⟨#[98,114,111,107,101,110]⟩)||decide (p0=⟨#[112,97,114,116]⟩))=true)) (fun g=>[(9,qI (g.1:Int)),(4,qI (g.2:Int))]) [(34,_),(33,_),(8,_),(32,_),(31,_),(30,_),(29,_),(28,_),(27,_),(26,_),(25,_),(24,_),(7,_),(6,_),(23,_),(22,_),(16,_),(21,_),(20,_),(19,_),(18,_),(17,_),(13,_),(12,_),(11,_),(10,_),(5,_),(3,_),(2,_),(0,_)] (fun g=>[D2,D1,D]) (1,un) ⟨Yf,Yf,Yn,by simp only;rw[SS];rfl,bMF rfl⟩ ⟨Ya,Ya,bRD⟩ bQ (aK) ?_;rintro⟨j,u2⟩ ⟨h4,h5,Y,h7,h8⟩;simp only at h4 h5 Y h7 h8;have hcj:=aDM (decide (p0=⟨#[98,114,111,107,101,110]⟩)) ns j;refine bZ<|Za rfl<|Za rfl<|Zah rfl U35 rfl hnv rfl<|Wcf ?_;refine' bU 7 (s:=41) (p:=48) rfl (fun hg5=>?_) (fun hg5=>?_) ?_;rotate_left
    ·refine Wau ?_;refine' dQ 3 (s:=44) (p:=47) rfl (fun hg6=>?_) (fun hg6=>?_) ?_;rotate_left
     ·refine Zb rfl<|oK rfl rfl rfl rfl ⟨_,rfl,rfl⟩<|oW rfl rfl rfl rfl ⟨_,rfl,rfl⟩ ?_;exact aN 2
     ·refine Ws ?_;exact aN 2
     refine Zaj rfl ?_;exact aN 4
    ·refine Wo ?_;exact aN 6
    refine aF<|Zag rfl (fun O=>?_) fun O=>?_
    ·have hjl:j<ns.length:=by have hz:=(bLQ _ _).mp O;have:=bMN hz.1;omega
     have hbp:=((bLQ _ _).mp O).2;obtain⟨m,hm⟩:=cR ns j;refine aQ<|Za2<|Za0<|aA<|Za rfl<|Za rfl<|jA rfl hnv rfl hm fun b5 o5=>Was ?_;refine' bU 7 (s:=56) (p:=63) rfl (fun hg7=>?_) (fun hg7=>?_) ?_;rotate_left
     ·refine Wau ?_;refine' dQ 3 (s:=59) (p:=62) rfl (fun hg8=>?_) (fun hg8=>?_) ?_;rotate_left
      ·refine Zb rfl<|Waj ?_;exact aN 2
      ·refine Ws ?_;exact aN 2
      refine Zaj rfl ?_;exact aN 4
     ·refine Wo ?_;exact aN 6
     refine aF<|Zag rfl (fun V=>?_) fun V=>?_
     ·refine Wbx ?_;exact aL 21 (j+1,u2+1) ⟨Yn,Yn,Yn,by simp only;rw[UI hm h4 V];omega,Or.inr hbp⟩ Yn ⟨Ya,Ya,bRD⟩ rfl rfl Mm5 (aK)
     ·refine Wbs ?_;exact aL 18 (j+1,u2) ⟨Yn,Yn,Yn,by simp only;rw[aDC hm V];omega,Or.inr hbp⟩ Yn ⟨Ya,Ya,bRD⟩ rfl rfl Mm5 (aK)
    ·refine Wbn ?_;exact aL 39 (k+1,sm,u2) ⟨Yn,by simp only;rw[yE hx,bIM hcut hns hc3];omega,by simp only;rw[yE hx,aUL (j:=j) hcut hns O Y h8];omega,Yn,Yn⟩ Yn ⟨Ya,Ya,Ya,bRD⟩ rfl rfl Mm5 fun D h=>⟨D,bMJ _ (bMJ _ (h)),Le.refl D⟩
 ·obtain rfl:k=xs.length:=by simp only at hc1;omega
  rw[bMP]at h2 h3;refine Za5<|Za1<|Za1<|Za6<|Zay<|aA<|Za rfl<|gX rfl rfl rfl rfl bRD<|Za rfl ?_;refine' bU 3 (s:=68) (p:=71) rfl (fun hg9=>?_) (fun hg9=>?_) ?_;rotate_left
  ·refine Zb rfl<|Wj ?_;exact aN 2
  ·refine Wat ?_;exact aN 2
  refine We ?_;exact aE rfl fun D hD=>by show Value.bool _=_;rw[aMC h2 h3]
instance(x:Int):Decidable (NB x):=inferInstanceAs (Decidable (_∧_))
def y4:List Λ:=[(⟨#[112,108,97,99,101]⟩:Λ),⟨#[115,101,101,110,32,50,32,49]⟩,⟨#[99,111,117,110,116,32,51,32,50]⟩,⟨#[98,97,99,107,32,51,32,51]⟩,⟨#[116,105,100,101,32,50,32,56,32,57]⟩,⟨#[115,116,101,112,32,52]⟩,⟨#[108,101,118,101,108,32,54]⟩,⟨#[109,97,114,107,32,49,32,51,32,57,32,57]⟩,⟨#[104,105,114,101,32,48,32,49]⟩,⟨#[104,105,114,101,32,49,32,50]⟩,⟨#[98,114,105,110,103,32,48,32,49]⟩,⟨#[115,109,117,100,103,101,32,49]⟩,⟨#[98,114,111,107,101,110,32,52,32,49,32,48,32,48]⟩,⟨#[98,114,111,107,101,110,32,53,32,48,32,49,32,50]⟩,⟨#[99,108,97,105,109,32,48,32,50]⟩]
def VK:List Λ:=[(⟨#[115,116,101,112,32,48]⟩:Λ),⟨#[115,109,117,100,103,101,32,49]⟩,⟨#[108,101,118,101,108,32,48,53]⟩]
def aB:List Λ:=[(⟨#[97]⟩:Λ)]
theorem PW{D:aC}{b:Nat}{l:List Λ}(hA:At D b 0 (l.map Value.string))(hl:l.length≤1000):Sl D RS 1 (qS b l.length l.length) l:=by
 refine⟨_,_,rfl,bMH _,Yd,bLY ⟨b,0,rfl,fun i x hi=>⟨_,rfl,rfl,fun j v hj=>?_⟩⟩⟩;cases j with
 |zero=>
  obtain rfl:Value.string x=v:=by simpa using hj
  have h:=hA i (.string x) (by rw[bNB,hi];rfl);simpa using h
 |succ j=>simp at hj
theorem aYB:aSO (aR y4).1:=⟨Xaa,Xaa,Xaa,Xaa,Xaa,Xaa,Xaa,Xaa,Xaa,Xaa,Xaa⟩
theorem aDX:K2 prog 26:=⟨Yg,Yg,Yg⟩
theorem aQC:K2 prog 31:=⟨Yg,Yg,Yg⟩
theorem NA(D:aC):Fn prog 21 #[qN] D (fun D' v=>Sl D' RS 1 v y4):=by
 refine Zw 6 func21 rfl fun h0=>aA<|Zf rfl<|aJ<|Zt rfl U22 kZ tf_z9 rfl (.cons rfl rfl (.cons rfl rfl (.cons rfl rfl (.cons rfl rfl (.cons rfl rfl (.cons rfl rfl (.cons rfl rfl (.cons rfl rfl (.cons rfl rfl (.cons rfl rfl (.cons rfl rfl (.cons rfl rfl (.cons rfl rfl (.cons rfl rfl (.cons rfl rfl .nil))))))))))))))) fun R D901 O I=>Za rfl<|WV rfl U22 rfl rfl kZ rfl rfl (bMH _) rfl bRD<|We ?_;exact aE rfl fun D hD=>(PW (l:=y4) I Yu).up RS.up (hD _ Yf)
theorem bCJ(mv:Γ)(ms:List Λ)(D:aC)(hS:Sl D RS 1 mv ms)(O:0<ms.length)(hm:ms.length≤1000):Fn prog 21 #[mv] D (fun D' v=>Sl D' RS 1 v (y4++ms)):=by
 refine Zw 6 func21 rfl (fun h0=>aA<|Zf rfl<|aJ<|Zt rfl U22 kZ tf_z9 rfl (.cons rfl rfl (.cons rfl rfl (.cons rfl rfl (.cons rfl rfl (.cons rfl rfl (.cons rfl rfl (.cons rfl rfl (.cons rfl rfl (.cons rfl rfl (.cons rfl rfl (.cons rfl rfl (.cons rfl rfl (.cons rfl rfl (.cons rfl rfl (.cons rfl rfl .nil))))))))))))))) fun Y D901 R I=>Za rfl<|aGM (cells:=[.string ⟨#[112,108,97,99,101]⟩,.string ⟨#[115,101,101,110,32,50,32,49]⟩,.string ⟨#[99,111,117,110,116,32,51,32,50]⟩,.string ⟨#[98,97,99,107,32,51,32,51]⟩,.string ⟨#[116,105,100,101,32,50,32,56,32,57]⟩,.string ⟨#[115,116,101,112,32,52]⟩,.string ⟨#[108,101,118,101,108,32,54]⟩,.string ⟨#[109,97,114,107,32,49,32,51,32,57,32,57]⟩,.string ⟨#[104,105,114,101,32,48,32,49]⟩,.string ⟨#[104,105,114,101,32,49,32,50]⟩,.string ⟨#[98,114,105,110,103,32,48,32,49]⟩,.string ⟨#[115,109,117,100,103,101,32,49]⟩,.string ⟨#[98,114,111,107,101,110,32,52,32,49,32,48,32,48]⟩,.string ⟨#[98,114,111,107,101,110,32,53,32,48,32,49,32,50]⟩,.string ⟨#[99,108,97,105,109,32,48,32,50]⟩]) rfl U22 rfl rfl kZ tf_z9 rfl aFE rfl rfl I Yf rfl (lD.strs hS) Yf (by rw[bNE,bNY]) O Yd rfl bRD fun Z ν1 U=>We ?_);have V:bM 9 1 Z (15+ms.length) ((y4++ms).map Value.string) (ν1++[]):=by rw[bME,bMM];exact U
 refine dU (A:=[]) (ν:=ν1) (B:=[]) (by simpa using V) rfl fun D2 hB hF=>?_;exact aE rfl fun D' hD=>(hF.strs (by rw[bLT];rfl) Yd).up RS.up (hD _ Yf)
theorem n6(D:aC)(hV:pP D):Fn prog 7 #[] D (fun _ v=>v=.bool true):=by
 refine Zw 87 func7 rfl fun h0=>aA<|Zf rfl<|aJ<|Zaa rfl (fun D1 hJ=>NA _) fun v1 D1 hJ hK=>?_;have hN:=hK;refine Zd rfl (fun D2 Z=>K7 _ y4 _ (hN.up RS.up (Z _ Yf)) (hV.up (Z _ Yf)))<|Za rfl<|Zao rfl<|Zao rfl<|Zad rfl lL rfl fun q1=>bE rfl rfl rfl rfl eF Yb Yb ζ Yk bRD<|Zf rfl<|aJ<|Zaa rfl (fun D3 hO=>NA _) fun v3 D3 hO hP=>?_;have hR:=hP;refine Zd rfl (fun D4 hB=>R0 _ y4 _ (hR.up RS.up (hB _ Yf)) (hV.up (hB _ Yf)))<|Za rfl<|Zao rfl<|Zao rfl<|Zad rfl pF rfl fun q2=>bE rfl rfl rfl rfl iE Yb Yb ζ Yk bRD<|Zf rfl<|aJ<|Zaa rfl (fun D5 hS=>NA _) fun v5 D5 hS hp5=>?_;have hX:=hp5;refine Zd rfl (fun D6 hE=>aGR _ y4 _ (hX.up RS.up (hE _ Yf)) (hV.up (hE _ Yf)) fun _=>aYB)<|Za rfl<|Zao rfl<|Zao rfl<|Zf rfl<|Zf rfl<|aJ<|Zt rfl U22 kZ tf_z9 rfl (.cons rfl rfl .nil) fun b901 D901 hY O=>Zaa rfl (fun D7 hF=>aSM _ aB _ ((PW (l:=aB) O Yu).up RS.up (hF _ Yf))) fun v7 D7 hF rA=>?_;obtain⟨wv,rfl,hwr⟩:=rA;refine Za rfl<|Zao rfl<|Zao rfl<|Zf rfl<|Zf rfl<|aJ<|Zt rfl U22 kZ tf_z9 rfl (.cons rfl rfl (.cons rfl rfl (.cons rfl rfl .nil))) fun b902 D902 rB R=>Zaa rfl (fun D8 hH=>bCJ _ VK _ ((PW (l:=VK) R Yu).up RS.up (hH _ Yf)) Yu Yu) fun v8 D8 hH hp8=>?_;have hd5:=hp8;refine Zaa rfl (fun D9 U=>CH _ (y4++VK) _ (hd5.up RS.up (U _ Yf)) (hV.up (U _ Yf))) fun v9 D9 U hp9=>?_;obtain⟨w1,w2,rfl,⟨pv,cv,hv,lv,mv,bl,bc,yc,yq,rfl,hL⟩,hes⟩:=hp9;unfold dR;obtain⟨ea,ec,rfl⟩:=hes.shape;have p3len:(aR (y4++VK)).2.1.length=18:=by decide+kernel
 refine Za rfl<|Zao rfl<|Zao rfl<|Zao rfl<|Zad rfl tC rfl fun q3=>bE rfl rfl rfl rfl fC Yb Yb ζ (gE hL) bRD<|Zf rfl<|Zf rfl<|aJ<|Za rfl<|Was ?_;refine' bU 4 (s:=41) (p:=45) rfl (fun hg1=>?_) (fun hg1=>?_) ?_;rotate_left
 ·refine bI rfl lZ rfl Mm2 eF n4 rfl ⟨_,rfl,rfl⟩<|iB (cs:=[qI 25,qI 25]) rfl A2 lL rfl rfl rfl ⟨_,rfl,rfl⟩<|x9 (a:=(mX y4).1) (b:=(25,25)) rfl Yg aDX rfl rfl rfl ⟨_,rfl,rfl⟩<|Zaj rfl ?_;exact aN 3
 ·refine Wb ?_;exact aN 3
 refine Za rfl ?_;refine' bU 3 (s:=46) (p:=49) rfl (fun hg2=>?_) (fun hg2=>?_) ?_;rotate_left
 ·refine Zb rfl<|Waa ?_;exact aN 2
 ·refine Wat ?_;exact aN 2
 refine Za rfl ?_;refine' bU 4 (s:=50) (p:=54) rfl (fun hg3=>?_) (fun hg3=>?_) ?_;rotate_left
 ·refine bI rfl vV rfl Mm1 iE n4 rfl ⟨_,rfl,rfl⟩<|iB (cs:=[qI 4,qI 4]) rfl W9 pF rfl rfl rfl ⟨_,rfl,rfl⟩<|x9 (a:=(mG y4).1) (b:=(4,4)) rfl Yg aQC rfl rfl rfl ⟨_,rfl,rfl⟩<|Zaj rfl ?_;exact aN 3
 ·refine Wb ?_;exact aN 3
 refine Za rfl ?_;refine' bU 3 (s:=55) (p:=58) rfl (fun hg4=>?_) (fun hg4=>?_) ?_;rotate_left
 ·refine Zb rfl<|Waa ?_;exact aN 2
 ·refine Wat ?_;exact aN 2
 refine Za rfl ?_;refine' bU 3 (s:=59) (p:=62) rfl (fun hg5=>?_) (fun hg5=>?_) ?_;rotate_left
 ·refine Zb rfl<|oK rfl rfl rfl rfl ⟨_,rfl,rfl⟩<|Zaj rfl ?_;exact aN 2
 ·refine Wat ?_;exact aN 2
 refine Za rfl ?_;refine' bU 3 (s:=63) (p:=66) rfl (fun hg6=>?_) (fun hg6=>?_) ?_;rotate_left
 ·refine Zb rfl<|Waa ?_;exact aN 2
 ·refine Wat ?_;exact aN 2
 refine Za rfl ?_;refine' bU 4 (s:=67) (p:=71) rfl (fun hg7=>?_) (fun hg7=>?_) ?_;rotate_left
 ·refine Zb rfl<|MZ rfl U70 U5 U9 rfl hwr Yf (fun _ _ _ _ _=>n4) rfl ⟨_,rfl,rfl⟩<|oK rfl rfl rfl rfl ⟨_,rfl,rfl⟩<|Zaj rfl ?_;exact aN 3
 ·refine Wb ?_;exact aN 3
 refine Za rfl ?_;refine' bU 3 (s:=72) (p:=75) rfl (fun hg8=>?_) (fun hg8=>?_) ?_;rotate_left
 ·refine Zb rfl<|Waa ?_;exact aN 2
 ·refine Wat ?_;exact aN 2
 refine Za rfl ?_;refine' bU 4 (s:=76) (p:=80) rfl (fun hg9=>?_) (fun hg9=>?_) ?_;rotate_left
 ·refine Zb rfl<|eN rfl U90 rfl hes rfl rfl ⟨_,rfl,rfl⟩<|Waa ?_;exact aN 3
 ·refine Wb ?_;exact aN 3
 refine Za rfl ?_;refine' bU 5 (s:=81) (p:=86) rfl (fun hI=>?_) (fun hI=>?_) ?_;rotate_left
 ·refine Zb rfl<|LI (j:=15) rfl U90 sZ rfl hes rfl (by rw[p3len];omega) rfl ⟨_,rfl,rfl⟩ fun ta hT=>Z4 rfl U35 aI cO rfl rfl rfl rfl (.cons rfl rfl (.cons rfl rfl (.cons rfl rfl .nil))) rfl ⟨_,rfl,rfl⟩ fun b903 D903 hD903 V=>?_;have Y:=Sl.ofInts (l:=[_,_,_]) (n:=3) (cap:=3) V rfl Yd Yd;refine Ze rfl (fun D10 I=>ZU _ _ ((aR (y4++VK)).2.1.drop 15) [9,6,4] _ (hT.up RI.up (I _ Yf)) (Y.up RI.up (I _ Yf)))<|Zaj rfl ?_;exact BJ fun a w hh=>(hh.cutK 4 rfl).ds fun _ h=>bMJ _ (h)
 ·refine Zg rfl<|Wb ?_;exact aN 4
 refine We ?_;exact aE rfl fun D hD=>bLZ Value.bool Xaa
theorem aJK{s:aO}(h:eI s=0)(line:Λ):eI (zM s line).1=0:=by
 unfold zM;split
 ·exact h
 ·split
  ·exact h
  ·split
   ·rename_i h2;exact h2
   ·exact h
theorem TV:eI C6=0:=by decide+kernel
theorem GM{I:aO→Prop}(hI:∀s l,I s→I (zM s l).1):∀(ls:List Λ) (p:aO×List Int),I p.1→I (ls.foldl (fun p l=>((zM p.1 l).1,p.2++[(zM p.1 l).2])) p).1
 | [],_,h=>h
 |l::ls,_p,h=>GM hI ls _ (hI _ l h)
theorem GD{I:aO→Prop}(hI:∀s l,I s→I (zM s l).1)(h0:I C6)(ls:List Λ):I (cJ ls).1:=GM hI ls _ h0
theorem xA(ls:List Λ):eI (cJ ls).1=0:=GD (I:=fun s=>eI s=0) (fun _ l h=>aJK h l) TV ls
theorem xB{s:aO}(h:eI s=0):C1.eE s.row true=0∧C2.aX s.table=0∧C2.oB s.table true=0∧C3.aX s.book=0∧C7.aX s.yard=0∧(L7.fX s.yard).2=0:=by
 unfold eI at h;split at h
 ·cases h
 ·split at h
  ·cases h
  ·split at h
   ·cases h
   ·split at h
    ·cases h
    ·split at h
     ·cases h
     ·split at h
      ·cases h
      ·rename_i h1 h2 h3 h4 h5 I;exact⟨bQD.1 h1,bQD.1 h2,bQD.1 h3,bQD.1 h4,bQD.1 h5,bQD.1 I⟩
end L12
namespace L12
open C12
section
variable{α:Type}{xs ys:List α}{k:Nat}{a b:α}
end
def bKK(c:C7.Ch):List Int:=[c.size,c.parts.a,c.parts.b,c.parts.c]
theorem aYN{a b:C7.Ch}(h:bKK a=bKK b):a=b:=by
 obtain⟨I,a2,a3,a4⟩:=a;obtain⟨O,b2,R,U⟩:=b
 simp only[bKK,bOH,and_true]at h;rw[h.1,h.2.1,h.2.2.1,h.2.2.2]
instance:DecidableEq C7.Ch:=fun a b=>decidable_of_iff (bKK a=bKK b) ⟨aYN,fun e=>by rw[e]⟩
end L12
namespace L12
open C12 Go.Lib
end L12
end Go.Fs
namespace Go.Fs.C1

theorem NW{l:List Int}{x:Int}(h:x∈l):rC l≤x:=by
 have key:∀(l:List Int) (a:Int),l.foldl min a≤a∧∀x∈l,l.foldl min a≤x:=by
  intro l;induction l with
  |nil=>intro a;simp
  |cons y l ih=>
   intro a;rw[bMO];obtain⟨h1,h2⟩:=ih (min a y);refine⟨Yd,fun x hx=>?_⟩;rcases bLO.1 hx with rfl|hx
   ·omega
   ·exact h2 x hx
 cases l with
 |nil=>cases h
 |cons y l=>
  rcases bLO.1 h with rfl|h
  ·exact(key l x).1
  ·exact(key l y).2 x h
theorem OS{l:List Int}{x:Int}(h:x∈l):x≤pH l:=by
 have key:∀(l:List Int) (a:Int),a≤l.foldl max a∧∀x∈l,x≤l.foldl max a:=by
  intro l;induction l with
  |nil=>intro a;simp
  |cons y l ih=>
   intro a;rw[bMO];obtain⟨h1,h2⟩:=ih (max a y);refine⟨Yd,fun x hx=>?_⟩;rcases bLO.1 hx with rfl|hx
   ·omega
   ·exact h2 x hx
 cases l with
 |nil=>cases h
 |cons y l=>
  rcases bLO.1 h with rfl|h
  ·exact(key l x).1
  ·exact(key l y).2 x h
theorem FE{l:List Int}(h:l≠[]):rC l∈l:=by
 have key:∀(l:List Int) (a:Int),l.foldl min a=a∨l.foldl min a∈l:=by
  intro l;induction l with
  |nil=>intro a;exact bMF rfl
  |cons y l ih=>
   intro a;rw[bMO];rcases ih (min a y)with h|h
   ·rw[h];rcases Int.le_total a y with h'|h'
    ·exact bMF Yd
    ·exact bLY (by rw[Int.min_eq_right h'];exact bLP)
   ·exact bLY (LE _ h)
 cases l with
 |nil=>exact absurd rfl h
 |cons y l=>
  rcases key l y with h|h
  ·show l.foldl min y∈_;rw[h];exact bLP
  ·exact LE _ h
theorem EI{l:List Int}(h:l≠[]):pH l∈l:=by
 have key:∀(l:List Int) (a:Int),l.foldl max a=a∨l.foldl max a∈l:=by
  intro l;induction l with
  |nil=>intro a;exact bMF rfl
  |cons y l ih=>
   intro a;rw[bMO];rcases ih (max a y)with h|h
   ·rw[h];rcases Int.le_total a y with h'|h'
    ·exact bLY (by rw[Int.max_eq_right h'];exact bLP)
    ·exact bMF Yd
   ·exact bLY (LE _ h)
 cases l with
 |nil=>exact absurd rfl h
 |cons y l=>
  rcases key l y with h|h
  ·show l.foldl max y∈_;rw[h];exact bLP
  ·exact LE _ h


theorem zH:∀{l t:List Int},t∈cE l ↔ t.length=l.length∧∀(k:Nat) (x p:Int),t[k]?= some x→l[k]?= some p→(x=0∨x=1)∧(p=2∨p=x)
 | [],t=>by
  simp only[cE,bMI,bNU];constructor
  ·rintro rfl;simp
  ·rintro⟨h,_⟩;exact bPD.1 h
 |p::ps,t=>by
  have key:∀c:Int,(c=0∨c=1)→(t∈(if p=2∨p=c then(cE ps).map (c:: ·)else []) ↔∃u,t=c::u∧u∈cE ps∧(p=2∨p=c)):=by
   intro c _;split
   ·rename_i h;simp only[GE];constructor
    ·rintro⟨u,hu,rfl⟩;exact⟨u,rfl,hu,h⟩
    ·rintro⟨u,rfl,hu,_⟩;exact⟨u,hu,rfl⟩
   ·rename_i h;constructor
    ·intro h';cases h'
    ·rintro⟨_,_,_,h'⟩;exact absurd h' h
  simp only[cE,bMD];rw[key 0 (bMF rfl),key 1 (bLY rfl)];constructor
  ·have mk:∀(c:Int) (u:List Int),(c=0∨c=1)→t=c::u→u∈cE ps→(p=2∨p=c)→t.length=(p::ps).length∧∀(k:Nat) (x p':Int),t[k]?= some x→(p::ps)[k]?= some p'→(x=0∨x=1)∧(p'=2∨p'=x):=by
    rintro c u hc rfl hu hp;obtain⟨h1,h2⟩:=zH.1 hu;refine⟨by simp[h1],fun k x p' hx hp'=>?_⟩;cases k with
    |zero=>
     simp only[List.getElem?_cons_zero,bPV]at hx hp';subst hx hp';exact⟨hc,hp⟩
    |succ k=>simp only[List.getElem?_cons_succ]at hx hp';exact h2 k x p' hx hp'
   rintro(⟨u,h1,h2,h3⟩|⟨u,h1,h2,h3⟩)
   ·exact mk 0 u (bMF rfl) h1 h2 h3
   ·exact mk 1 u (bLY rfl) h1 h2 h3
  ·rintro⟨h1,h2⟩;cases t with
   |nil=>simp at h1
   |cons c u=>
    have h0:=h2 0 c p rfl rfl;have hu:u∈cE ps:=zH.2 ⟨Xae,fun k x p' hx hp'=>h2 (k+1) x p' Xat (by simpa using hp')⟩;rcases h0.1 with rfl|rfl
    ·exact bMF ⟨u,rfl,hu,h0.2⟩
    ·exact bLY ⟨u,rfl,hu,h0.2⟩



end Go.Fs.C1
namespace Go.Fs
open Go.Proofs
namespace L12
open C1
end L12
namespace L12
open C1 (rC pH NW FE EI OS gU bN)
open C2
theorem aGA{t:aW}{acc:List (List Int)}{s u:List Int}(h:u∈acc):u∈xM t acc s:=by
 unfold xM;split
 ·exact h
 ·exact bMA _ h
theorem EA{t:aW}:∀(l acc:List (List Int)) {u:List Int},u∈acc→u∈l.foldl (xM t) acc
 | [],_,_,h=>h
 |_::l,_,_,h=>EA l _ (aGA h)
theorem XS{t:aW}{acc:List (List Int)}{s:List Int}(h:gZ t s=true):s∈xM t acc s:=by
 unfold xM;split
 ·rename_i hc;rcases hc with hc|hc
  ·rw[h]at hc;cases hc
  ·exact List.mem_of_getLast? hc
 ·exact GT _ Yf
theorem BP{t:aW}:∀(l acc:List (List Int)) {s:List Int},s∈l→gZ t s=true→s∈l.foldl (xM t) acc
 |x::l,acc,s,hs,h=>by
  rcases bLO.1 hs with rfl|hs
  ·exact EA l _ (XS h)
  ·exact BP l _ hs h
theorem SQ{t:aW}{s:List Int}(h:s∈eZ t)(hr:gZ t s=true):s∈bL t:=BP _ _ h hr
theorem HS{t:aW}{s:List Int}(h:s∈bL t):s∈eZ t:=by
 rcases AH _ _ s h with h|h
 ·cases h
 ·exact h
end L12
namespace L12
open C12 Go.Lib
section
variable{s:aO}{x p:Λ}{ps:List Λ}(h:eC x=p::ps)
include h
end
def bEE(s:aO):Prop:=∀r∈s.table.heights,r.2≤r.1+2
theorem FT{line:Λ}{act:eJ}{n:List Int}(h:jM line=some (act,n)):∃x∈kU,x.2.2=act:=by
 obtain⟨p,ps,hc⟩:=pK line;rw[uM hc]at h;split at h
 ·cases h
 ·rename_i hf;split at h
  ·cases hm:ps.mapM vR with
   |none=>rw[hm]at h;cases h
   |some m=>rw[hm]at h;cases h;exact⟨_,List.mem_of_find?_eq_some hf,rfl⟩
  ·cases h
structure bLM(s:aO):Prop where
 row:C1.mD s.row
 tab:C2.IW s.table
 yard:L7.bEW s.yard
 hts:bEE s
section
variable{s:aO}(h:bLM s)
include h
end
end L12
namespace L7
open C7
theorem YE{y:bC}{out:List Int}:(0:Int)<((dT y out).length:Int) ↔∃t,eO y t=true∧pB y.claims out (N1 y t:Nat)=true:=by
 rw[show((0:Int)<((dT y out).length:Int) ↔ 0<(dT y out).length) by omega,List.length_pos_iff_exists_mem];constructor
 ·rintro⟨p,hp⟩;obtain⟨t,h1,h2,_⟩:=W8.1 hp;exact⟨t,h1,h2⟩
 ·rintro⟨t,h1,h2⟩;exact⟨_,W8.2 ⟨t,h1,h2,rfl⟩⟩
end L7
namespace L12
open C12 Go.Lib


theorem aIT{t:C2.aW}{s:List Int}(h:s∈C2.bL t):C2.gZ t s=true:=by
 have key:∀(l acc:List (List Int)),(∀u∈acc,C2.gZ t u=true)→∀u∈l.foldl (C2.xM t) acc,C2.gZ t u=true:=by
  intro l;induction l with
  |nil=>exact fun acc h=>h
  |cons x l ih=>
   intro acc h;refine ih _ fun u hu=>?_
   unfold C2.xM at hu;split at hu
   ·exact h u hu
   ·rename_i hx;rcases bMD.1 hu with hu|hu
    ·exact h u hu
    ·obtain rfl:=bMI.1 hu;simp only[bQX]at hx;simpa using hx.1
 exact key _ [] (fun u hu=>by cases hu) s h
theorem aCU:∀(l:List (Int×Int)) (m:Int),0≤m→(∀r∈l,0≤C2.fN r∧C2.fN r≤3)→l.foldl (fun(m:Int) r=>min (m*C2.fN r) 2001) m≤m*3^l.length
 | [],m,h,_=>by simp
 |r::l,m,h,hr=>by
  obtain⟨a,b⟩:=hr r bLP;have h0:0≤m*C2.fN r:=bRA h a;have h1:m*C2.fN r≤m*3:=Int.mul_le_mul_of_nonneg_left b h;rw[bMO];refine Int.le_trans (aCU l _ Yd fun q hq=>hr q (LE _ hq)) ?_;rw[bLU,Int.pow_succ,Int.mul_comm (3^l.length) 3,←Int.mul_assoc];exact Int.mul_le_mul_of_nonneg_right Yd (Int.pow_nonneg Yd)


section
variable{s:aO}(hst:eI s=0)(hh:bEE s)(hk:lT s){which:Nat}{low high:Int}(hl:0≤low∧low≤1)(hg:0≤high∧high≤1)
include hst hh hk hl hg
end
theorem aXO{α:Type}{p:α→Prop}{l:List α}{a:α}(h:∀x∈l,p x)(ha:p a):∀x∈l++[a],p x:=fun x hx=>(bMD.1 hx).elim (h x) fun e=>by rw[bMI.1 e];exact ha
theorem OU{α:Type}{p:α→Prop}{l:List α}{a:α}{i:Nat}(h:∀x∈l,p x)(ha:p a):∀x∈l.set i a,p x:=fun x hx=>(List.mem_or_eq_of_mem_set hx).elim (h x) fun e=>by rw[e];exact ha
theorem bAV{α:Type}{p:α→Prop}{l:List α}{i:Nat}(h:∀x∈l,p x):∀x∈l.eraseIdx i,p x:=fun x hx=>h x (List.mem_of_mem_eraseIdx hx)
structure jN(s:aO):Prop where
 len0:0<s.row.places.length
 wrong:0≤s.row.wrong∧s.row.wrong≤6
 off:0≤s.row.off∧s.row.off≤9
 place:∀p∈s.row.places,0≤p∧p≤2
 cnt:∀c∈s.row.counts,0≤c.many∧c.many≤s.row.places.length∧0≤c.num∧c.num≤9
 last:s.table.last=3
 step:0≤s.table.step∧s.table.step≤99
 hts:∀r∈s.table.heights,0≤r.1∧r.1≤r.2∧r.2≤99∧r.2≤r.1+2
 levs:∀n∈s.table.levels,0≤n∧n≤99
 mark:∀m∈s.table.marks,0≤m.frm∧m.frm≤m.to∧m.to≤3∧0≤m.lo∧m.lo≤m.hi∧m.hi≤99
 bk:s.book.coin=5∧s.book.box=20∧s.book.counts=[]
 ln:∀l∈s.book.lines,(1≤l.kind∧l.kind≤2)∧(0≤l.chair∧l.chair≤2)∧ -1≤l.token∧l.token≤2
 fit:0≤s.yard.fit∧s.yard.fit≤9
 size:∀c∈s.yard.chairs,(0≤c.size∧c.size≤9)∧(0≤c.parts.a∧c.parts.a≤2)∧(0≤c.parts.b∧c.parts.b≤2)∧0≤c.parts.c∧c.parts.c≤2
 claim:∀r∈s.yard.claims,0≤r.1∧r.1≤r.2∧r.2≤7
theorem aND{p:C7.Pt}{i:Nat}{v:Int}(h:(0≤p.a∧p.a≤2)∧(0≤p.b∧p.b≤2)∧0≤p.c∧p.c≤2)(hv:0≤v∧v≤2):(0≤(i6 p i v).a∧(i6 p i v).a≤2)∧(0≤(i6 p i v).b∧(i6 p i v).b≤2)∧0≤(i6 p i v).c∧(i6 p i v).c≤2:=by
 unfold i6;split
 ·exact⟨hv,h.2⟩
 ·split
  ·exact⟨h.1,hv,h.2.2⟩
  ·exact⟨h.1,h.2.1,hv⟩
theorem GQ:∀x∈kU,∀(s:aO) (n:List Int) (s':aO),lT s→jN s→(∀m∈n,0≤m∧m≤999)→x.2.2 s n=.ok s'→jN s':=by
 intro x hx s n s' hk h hn e;simp only[kU,bLO,n4,bNV]at hx;have kb:=hk.bc;have kh:=hk.ht;obtain⟨g1,g2,g3,g4,U,g6,g7,g8,g9,V,Y,I,Z,O,g15⟩:=h;rcases hx with rfl|rfl|rfl|rfl|rfl|rfl|rfl|rfl|rfl|rfl|rfl|rfl|rfl|rfl|rfl|rfl|rfl|rfl|rfl|rfl|rfl|rfl;all_goals simp only[zY,Y1,pJ,qY,A8,NN,o9,Z8,B6,zW,G5,tJ,pL,qJ,tR,tZ,vT,PM,C9,qH]at e
 all_goals repeat' split at e
 all_goals cases e
 all_goals try simp only[List.forall_mem_cons]at hn
 all_goals refine⟨?_,?_,?_,?_,?_,?_,?_,?_,?_,?_,?_,?_,?_,?_,?_⟩
 all_goals simp only[mA,iG,oY,kR]
 all_goals first|assumption|omega|exact aXO Yl Xcq|exact OU Yl Xcq|exact bAV Yl|(simp only[bLT,bOD,bPR];omega)|(intro c hc;have:=U c hc;simp only[bLT,bOD];omega)|(have R:=I _ (n5 Yl);exact OU I ⟨R.1,R.2.1,Xcq⟩)|(have R:=O _ (n5 Yl);exact OU O ⟨R.1,aND R.2 Yd⟩)
theorem DT:jN C6:=by
 refine⟨Yu,Yu,Yu,Yu,Yu,rfl,Yu,Yu,Yu,fun _ h=>Xab,⟨rfl,rfl,rfl⟩,fun _ h=>Xab,Yu,fun _ h=>Xab,fun _ h=>Xab⟩
theorem H8{line:Λ}{act:eJ}{n:List Int}(h:jM line=some (act,n)):∀m∈n,0≤m∧m≤999:=by
 obtain⟨p,ps,hc⟩:=pK line;rw[uM hc]at h;split at h
 ·cases h
 ·split at h
  ·cases hm:ps.mapM vR with
   |none=>rw[hm]at h;cases h
   |some m=>rw[hm]at h;cases h;exact W5 hm
  ·cases h
theorem aEU{s:aO}(hk:lT s)(h:jN s)(line:Λ):jN (zM s line).1:=by
 unfold zM;cases hp:jM line with
 |none=>exact h
 |some a=>
  obtain⟨act,n⟩:=a;simp only[];cases ha:act s n with
  |error c=>exact h
  |ok s'=>
   simp only[];split
   ·obtain⟨x,hx,rfl⟩:=FT hp;exact GQ x hx s n s' hk h (H8 hp) ha
   ·exact h
theorem X5(ls:List Λ):jN (cJ ls).1:=(GD (I:=fun s=>lT s∧jN s) (fun _s l h=>⟨OZ h.1 l,aEU h.1 h.2 l⟩) ⟨A7,DT⟩ ls).2
section
variable{s:aO}(hk:lT s)(h:jN s)
include hk h
theorem jN.rowOk:C1.mD s.row:=⟨h.len0,by have:=hk.pl;omega,hk.ct,h.wrong,h.off,h.place,h.cnt⟩
theorem jN.tOk:C2.IW s.table:=⟨by rw[h.last];decide,by rw[hk.ht,h.last];decide,h.step,fun r hr=>by
 have:=h.hts r hr;unfold C2.jB C2.fP;simp only[bLQ,LT,C1.bN];omega,hk.lev,h.levs,hk.mks,fun m hm=>by
 have:=h.mark m hm;rw[h.last];unfold C2.wD C2.tD C2.FO C2.jB C2.fP;simp only[bLQ,LT,C1.bN];omega⟩
theorem jN.many:C2.rF s.table.heights≤81:=by
 have:=aCU s.table.heights 1 Yd fun q hq=>by have:=h.hts q hq;unfold C2.fN;omega
 rw[hk.ht]at this;exact Int.le_trans this Yu
theorem jN.fT:C2.aX s.table=if C2.eZ s.table=[]then 9 else 0:=by
 have ho:=h.tOk hk;have h1:C2.aKE s.table=false:=by
  unfold C2.aKE;have:=ho.last;have:=ho.lev;have:=ho.mks
  simp only[bNG,bLV];omega
 have h2:C2.bER s.table=true:=by
  unfold C2.bER C2.fP;simp only[bLQ,LT,bMK,C1.bN];exact⟨⟨⟨⟨⟨ho.last.1,ho.len⟩,ho.hts⟩,ho.step⟩,ho.levs⟩,ho.mark⟩
 unfold C2.aX;rw[h1,h2,bLX Yf,bLX Yf,bLX (by have:=h.many hk;omega)]
theorem jN.fB:C3.aX s.book=if 4096<C3.tE 3 s.book.lines then 3 else 0:=by
 have h1:C3.sY s.book=true:=by
  unfold C3.sY;rw[hk.bc,h.bk.1,h.bk.2.1,h.bk.2.2];simp only[bLQ,bMK,C1.bN];refine⟨⟨⟨⟨Yu,Yu⟩,Yu⟩,fun l hl=>?_⟩,fun _ h=>Xab⟩;have:=h.ln l hl;unfold C3.rN;simp only[bLQ,C1.bN];omega
 unfold C3.aX;rw[h1,bLX (by rw[h.bk.2.2];have:=hk.ln;simp;omega),bLX Yf,hk.bc]
theorem jN.fY:C7.aX s.yard=if 8<C7.dH s.yard.chairs then 3 else 0:=by
 have h1:C7.zN s.yard=true:=by
  unfold C7.zN;simp only[bLQ,bMK,C7.bN];refine⟨⟨h.fit,fun c hc=>?_⟩,fun r hr=>?_⟩
  ·have:=h.size c hc;unfold C7.kI C7.RW C7.Pt.l;simp only[bLQ,bMK,C7.bN,List.forall_mem_cons];exact⟨this.1,this.2.1,this.2.2.1,this.2.2.2,fun _ h=>Xab⟩
  ·have:=h.claim r hr;unfold C7.mF;simp only[bLQ,LT];omega
 unfold C7.aX;rw[h1,bLX (by have:=hk.ch;have:=hk.cl;omega),bLX Yf]
end
def VN(s:aO):Int:=if C1.truths s.row=[]then 11 else if C2.eZ s.table=[]then 9 else if C2.bL s.table=[]then 11 else if 4096<C3.tE 3 s.book.lines∨8<C7.dH s.yard.chairs then 3 else if L7.dT s.yard []=[]then 11 else 0
theorem TE(y:C7.bC):(L7.fX y).2=if C7.aX y≠0 then C7.aX y else if L7.dT y []=[]then 11 else 0:=by
 unfold L7.fX;by_cases h:C7.aX y=0
 ·rw[bLX Yd,bLX Yd];cases L7.dT y []with
  |nil=>rfl
  |cons a l=>simp only[bMT];rfl
 ·rw[bMG h,bMG h]
theorem uK{s:aO}(hk:lT s)(h:jN s):eI s=VN s:=by
 unfold eI VN C1.eE C2.oB;rw[C1.AG.2 (h.rowOk hk),h.fT hk,h.fB hk,h.fY hk,TE,h.fY hk];by_cases I:C1.truths s.row=[]
 ·simp[I]
 ·by_cases a2:C2.eZ s.table=[]
  ·simp[I,a2]
  ·by_cases a3:C2.bL s.table=[]
   ·simp[I,a2,a3]
   ·by_cases a4:4096<C3.tE 3 s.book.lines
    ·simp[I,a2,a3,a4]
    ·by_cases a5:8<C7.dH s.yard.chairs
     ·simp[I,a2,a3,a4,a5]
     ·by_cases O:L7.dT s.yard []=[]
      ·simp[I,a2,a3,a4,a5,O]
      ·simp[I,a2,a3,a4,a5,O]
end L12
open Go.Proofs Tryz
namespace L1
open C1
theorem bDO{r:dO}{t:List Int}(h:t.length≠r.places.length):eO r t=false:=by
 unfold eO;simp[h]
theorem bIO{r:dO}{t:List Int}{k:Nat}{x y:Int}(hx:r.places[k]?= some x)(hy:t[k]?= some y)(h:(!gU y 0 1||(decide (x≠2)&&decide (y≠x)))=true):eO r t=false:=by
 have hm:(y,x)∈t.zip r.places:=n5 (i:=k) (by rw[bQZ];exact⟨hy,hx⟩);have:((t.zip r.places).all fun x=>qA x.1 x.2)=false:=by
  rw[bQV];refine⟨_,hm,?_⟩;unfold qA;simp only[bMU,bOQ,bLQ,LT]at h;rcases h with h|h
  ·simp[h]
  ·simp only[bLQ,bMU,bQR];rintro⟨_,h3|h3⟩
   ·exact h.1 h3
   ·exact h.2 h3
 unfold eO;rw[this];simp
theorem aSE{r:dO}{t:List Int}{k:Nat}{x y:Int}(hx:r.places[k]?= some x)(hy:t[k]?= some y)(h2:((t.zip r.places).take k).all (fun x=>qA x.1 x.2)=true)(h:(!gU y 0 1||(decide (x≠2)&&decide (y≠x)))=false):
  ((t.zip r.places).take (k+1)).all (fun x=>qA x.1 x.2)=true:=by
 rw[bLW,show(t.zip r.places)[k]?= some (y,x) by rw[bQZ];exact⟨hy,hx⟩,List.all_append,h2];simp only[bNG,bQH,bQI,bLV,ne_eq,Decidable.not_not]at h;rcases h with⟨h0,h|h⟩
 ·simp[qA,h,h0]
 ·subst h;simp[qA,h0]
theorem aXT{r:dO}{t:List Int}{k:Nat}(hl:t.length=r.places.length)(hk:t.length≤k)(h2:((t.zip r.places).take k).all (fun x=>qA x.1 x.2)=true):eO r t=true:=by
 rw[bMV Yap]at h2;unfold eO;rw[h2,hl];simp
theorem aAS{r:dO}{t:List Int}{k:Nat}{x:xX}(hx:r.counts[k]?= some x)(h:0<gS t x):((((r.counts.take (k+1)).filter fun c=>decide (0<gS t c)).length:Nat):Int)=((r.counts.take k).filter fun c=>decide (0<gS t c)).length+1:=by
 rw[bLW,hx,bMR,bMY,bLT];simp[h]
theorem aIX{r:dO}{t:List Int}{k:Nat}{x:xX}(hx:r.counts[k]?= some x)(h:¬0<gS t x):((((r.counts.take (k+1)).filter fun c=>decide (0<gS t c)).length:Nat):Int)=((r.counts.take k).filter fun c=>decide (0<gS t c)).length:=by
 rw[bLW,hx,bMR,bMY,bLT];simp[h]
theorem XY(tv:Γ)(t:List Int)(i j:Int)(a n:Nat)(D:aC)(hS:Sl D RI 1 tv t)(hi:i=a)(hj:j+1=a+n)(hn:a+n≤t.length)(hb:∀x∈t,0≤x∧x≤1)(hl:t.length≤100):Fn prog 31 #[tv,qI i,qI j] D (fun _ v=>v=qI (dG t a n)):=by
 subst hi;refine Zw 22 func31 rfl fun h0=>aA<|Zf rfl<|aJ<|Zf rfl<|bG<|Za rfl<|Zf rfl<|aF<|Za0<|bK (γ:=Nat) (fun k=>n-k) (fun k=>k≤n) (fun k=>[(8,qI ((a:Int)+k)),(7,qI (dG t a k))]) [(6,_),(0,_),(2,_)] (fun k=>[D]) 0 Yd ⟨(by simp;rfl),(by simp[dG];rfl),bRD⟩ bQ (aK) ?_
 rintro k h1;refine bZ<|Za rfl<|Za rfl<|gX rfl rfl rfl rfl bRD<|aF<|Zaf rfl (fun hc1=>?_) fun hc1=>?_
 ·have hk:k<n:=by omega
  obtain⟨x,hx0⟩:=cR t (a+k);have hx:t[((a:Int)+k).toNat]?= some x:=by rw[show((a:Int)+k).toNat=a+k by omega];exact hx0
  have hx1:=hb x (n5 hx0);have hx2:=eY hb a k;refine aQ<|Za2<|Za0<|aP<|Za rfl<|Za rfl<|Za rfl<|jA rfl hS rfl hx fun I O=>Zae rfl<|Zf rfl<|Zan<|Za3 ?_;refine Zay<|aP<|Za rfl<|Zae rfl<|Wbl ?_;exact Zn 15 (k+1) ⟨Ya,(by rw[B4 hx0];rfl),bRD⟩ rfl Mm5
 ·obtain rfl:k=n:=by omega
  refine Wl ?_;exact aE rfl fun D hD=>rfl
theorem aUW(tv:Γ)(t:List Int)(c:xX)(D:aC)(hS:Sl D RI 1 tv t)(h0:0≤c.many)(h1:c.many≤t.length)(h2:0≤c.num)(h3:c.num≤9)(hb:∀x∈t,0≤x∧x≤1)(hl:t.length≤100):Fn prog 149 #[tv,cV c] D (fun _ v=>v=qI (gS t c)):=by
 have U:=h0;have V:=h1;have Y:=eY hb 0 c.many.toNat;have Z:=eY hb (t.length-c.many.toNat) c.many.toNat;refine Zw 32 func149 rfl fun h0=>aA<|Zy rfl fun q1 E1 hB I=>Zf rfl<|aJ<|Za rfl<|Zj rfl LM rfl<|Zh 1 rfl aH rfl I rfl<|Zau rfl<|Zd rfl (fun D1 O=>XY _ t _ _ 0 c.many.toNat _ (hS.up RI.up (O _ Yf)) rfl Yd Yd hb hl)<|Zf rfl<|bG ?_;refine Zj rfl aLF rfl<|Zh 0 rfl DS rfl I rfl<|aF<|Zag rfl (fun hc1=>?_) fun hc1=>?_
 ·have hab:H3 t c=dG t (t.length-c.many.toNat) c.many.toNat:=by unfold H3;rw[bMG hc1]
  refine aP<|Za rfl<|Za rfl<|eN rfl U35 rfl Yl rfl rfl bRD<|Zj rfl LM rfl<|Zh 1 rfl aH rfl I rfl<|Zau rfl<|Za rfl<|eN rfl U35 rfl Yl rfl rfl bRD<|Zau rfl<|Zd rfl (fun D2 R=>XY _ t _ _ (t.length-c.many.toNat) c.many.toNat _ (hS.up RI.up (R _ Yf)) Yd Yd Yd hb hl)<|Zf rfl ?_;refine aJ<|Za rfl<|Zj rfl O0 rfl<|Zh 2 rfl aH rfl I rfl<|Zau rfl<|Zj rfl O0 rfl<|Zh 2 rfl aH rfl I rfl<|Za rfl<|Zau rfl<|nZ rfl rfl rfl rfl bRD<|We ?_;exact aE rfl fun D hD=>by show Value.int _ _=_;rw[gS,hab]
 ·have hab:H3 t c=dG t 0 c.many.toNat:=by unfold H3;rw[bLX (by simp[hc1])]
  refine aQ<|aA<|Za rfl<|Zj rfl O0 rfl<|Zh 2 rfl aH rfl I rfl<|Zau rfl<|Zj rfl O0 rfl<|Zh 2 rfl aH rfl I rfl<|Za rfl<|Zau rfl<|nZ rfl rfl rfl rfl bRD<|Zf rfl ?_;refine aG ?_;exact aE rfl fun D hD=>by show Value.int _ _=_;rw[gS,hab]
theorem WQ(rv tv:Γ)(r:dO)(t:List Int)(D:aC)(hr:oI D rv r)(ht:Sl D RI 1 tv t):Fn prog 83 #[rv,tv] D (fun _ v=>v=.bool (eO r t)):=by
 obtain⟨pv,cv,rfl,hp,hc⟩:=hr;have hl:=ht.len;refine Zw 44 func83 rfl fun h0=>aA<|Zy rfl fun q1 E1 hO I=>Zf rfl<|bG<|Za rfl<|Zah rfl U35 rfl ht rfl<|Zj rfl iW rfl<|Zh 0 rfl cF rfl I rfl<|Zah rfl U35 rfl hp rfl<|Zaw rfl<|aF ?_;refine Zaf rfl (fun hc1=>?_) fun hc1=>?_
 ·refine aA<|Wi ?_;exact aE rfl fun D hD=>by show Value.bool _=_;rw[bDO Yd]
 ·have hlen:t.length=r.places.length:=by omega
  refine aQ<|bZ<|Zf rfl<|aF<|Za0<|bK (γ:=Nat) (fun k=>t.length-k) (fun k=>k≤t.length∧((t.zip r.places).take k).all (fun x=>qA x.1 x.2)=true) (fun k=>[(5,qI (k:Int))]) [(4,_),(2,_),(1,_)] (fun k=>[E1,D]) 0 Yf ⟨Ya,bRD⟩ bQ (aK) ?_;rintro k ⟨h1,h2⟩;refine bZ<|Za rfl<|Za rfl<|Zah rfl U35 rfl ht rfl<|Zam rfl<|aF<|Zaf rfl (fun hc2=>?_) fun hc2=>?_
  ·have hk:k<t.length:=by omega
   obtain⟨x,hx⟩:=cR r.places k;obtain⟨y,hy⟩:=cR t k;refine aQ<|Za2<|Za0<|Za2<|bS [] 7 26 8159746<|Za rfl<|Za rfl<|jA rfl ht rfl hy fun b1 o1=>Zd rfl (fun D1 hP=>aDO _ _ _ _)<|Wbr ?_;refine' dQ 19 (s:=24) (p:=43) rfl (fun O=>?_) (fun O=>?_) ?_;rotate_left
   ·refine Zk rfl iW rfl<|Zi 0 rfl cF rfl I rfl<|Zb rfl<|eA rfl U35 aI rfl hp rfl Yd hx rfl ⟨_,rfl,rfl⟩ fun b2 o2 R U hJ V=>?_;obtain rfl:R=[qI _]:=U;refine Zi 0 rfl aH rfl V rfl<|IY rfl rfl rfl rfl ⟨_,rfl,rfl⟩<|Zb rfl ?_;refine' bU 11 (s:=31) (p:=42) rfl (fun Y=>?_) (fun Y=>?_) ?_;rotate_left
    ·refine Zb rfl<|Zb rfl<|eA rfl U35 aI rfl ht rfl Yd hy rfl ⟨_,rfl,rfl⟩ fun b3 o3 Z hB hK hE=>?_;obtain rfl:Z=[qI _]:=hB;refine Zi 0 rfl aH rfl hE rfl<|Zk rfl iW rfl<|Zi 0 rfl cF rfl I rfl<|Zb rfl<|eA rfl U35 aI rfl hp rfl Yd hx rfl ⟨_,rfl,rfl⟩ fun b4 o4 hF hH hN hI=>?_;obtain rfl:hF=[qI _]:=hH;refine Zi 0 rfl aH rfl hI rfl<|IY rfl rfl rfl rfl ⟨_,rfl,rfl⟩<|oV rfl rfl rfl rfl ⟨_,rfl,rfl⟩ ?_;exact aN 10
    ·refine Zg rfl<|Zg rfl<|Zg rfl<|Zg rfl<|Zg rfl<|Zg rfl<|Zg rfl<|Zg rfl<|Wcb ?_;exact aN 10
    refine Zak rfl ?_;exact aN 8
   ·refine Wak ?_;refine Zg rfl<|Zg rfl<|Wf ?_;exact aN 18
   refine aF<|Zag rfl (fun hc3=>?_) fun hc3=>?_
   ·refine aA<|Wh ?_;exact aE rfl fun D hD=>by show Value.bool _=_;rw[bIO hx hy hc3]
   ·refine Wbs ?_;exact aL 16 (k+1) ⟨Yd,aSE hx hy h2 hc3⟩ Yd ⟨Ya,bRD⟩ rfl rfl Mm5 (aK)
  ·refine Wk ?_;exact aE rfl fun D hD=>by show Value.bool _=_;rw[aXT hlen Yd h2]
theorem aTP(rv tv:Γ)(r:dO)(t:List Int)(D:aC)(hr:oI D rv r)(ht:Sl D RI 1 tv t)(hok:mD r)(htr:oX r t):Fn prog 85 #[rv,tv] D (fun _ v=>v=qI (if eW r t then(sD r t:Int)else -1)):=by
 obtain⟨pv,cv,rfl,hp,hc⟩:=hr;have hl:=hc.len;have h6:=hok.cnt6;have h9:=hok.len9;have htl:=htr.1;refine Zw 31 func85 rfl fun h0=>aA<|Zy rfl fun q1 E1 Z I=>Zf rfl<|aJ<|Zf rfl<|bG<|Zf rfl<|aF<|Za0<|bK (γ:=Nat) (fun k=>r.counts.length-k) (fun k=>k≤r.counts.length∧(r.counts.take k).all (fun c=>decide (gS t c≤r.off))=true) (fun k=>[(6,qI (k:Int)),(5,qI (((r.counts.take k).filter fun c=>decide (0<gS t c)).length:Int))]) [(4,_),(2,_),(1,_)] (fun k=>[E1,D]) 0 Yf ⟨Ya,Ya,bRD⟩ bQ (aK) ?_;rintro k ⟨h1,h2⟩;refine bZ<|Za rfl<|Zj rfl jX rfl<|Zh 1 rfl xR rfl I rfl<|eN rfl U36 rfl Yl rfl rfl bRD<|Zam rfl<|aF<|Zaf rfl (fun hc1=>?_) fun hc1=>?_
 ·have hk:k<r.counts.length:=by omega
  obtain⟨x,hx⟩:=cR r.counts k;have hxm:=n5 hx;have hlf:=bNF (fun c=>decide (0<gS t c)) (r.counts.take k);have hlt:(r.counts.take k).length≤k:=bOT _ _;refine aQ<|Za2<|Za0<|aA<|Za rfl<|Zj rfl jX rfl<|Zh 1 rfl xR rfl I rfl<|Za rfl<|Zx rfl U36 sH rfl hc rfl hx fun b1 o1 O R Y U=>?_;obtain rfl:O=[.bool _,qI _,qI _]:=R;refine Zv rfl bCD rfl U sH<|Zd rfl (fun D1 V=>aUW _ t x _ (ht.up RI.up (V _ Yf)) (hok.cnt x hxm).1 (by have:=(hok.cnt x hxm).2.1;omega) (hok.cnt x hxm).2.2.1 (hok.cnt x hxm).2.2.2 htr.2 Yd)<|Zf rfl<|bG<|Za rfl<|Zj rfl TO rfl<|Zh 3 rfl aH rfl I rfl<|Zaq rfl<|aF<|Zaf rfl (fun hc2=>?_) fun hc2=>?_
  ·refine aA<|Wbp ?_;exact aE rfl fun D hD=>by show Value.int _ _=_;rw[VP hxm hc2];rfl
  ·refine aQ<|aA<|Za rfl<|Zaq rfl<|aF<|Zaf rfl (fun hc3=>?_) (fun hc3=>?_)
   ·refine Wbx ?_;exact aL 27 (k+1) ⟨Yd,H9 hx h2 hc2⟩ Yd ⟨Ya,(by rw[aAS hx hc3];rfl),bRD⟩ rfl rfl Mm5 (aK)
   ·refine Wbs ?_;exact aL 24 (k+1) ⟨Yd,H9 hx h2 hc2⟩ Yd ⟨Ya,(by rw[aIX hx hc3];rfl),bRD⟩ rfl rfl Mm5 (aK)
 ·obtain rfl:k=r.counts.length:=by omega
  rw[bMP]at h2;rw[bMP];refine Wl ?_;exact aE rfl fun D hD=>by show Value.int _ _=_;rw[JQ h2];rfl
theorem aNA{r:dO}{t:List Int}:(eO r t&&gU (if eW r t=true then(sD r t:Int)else -1) 0 r.wrong)=(eO r t&&fits r t):=by
 congr 1;unfold fits gU;cases eW r t<;>simp
theorem NL(rv tv:Γ)(r:dO)(t:List Int)(D:aC)(hr:oI D rv r)(ht:Sl D RI 1 tv t)(hok:mD r):Fn prog 33 #[rv,tv] D (fun _ v=>v=.bool (eO r t&&fits r t)):=by
 have O:=hr;obtain⟨pv,cv,rfl,hp,hc⟩:=hr;refine Zw 16 func33 rfl fun h0=>aA<|Zy rfl fun q1 E1 Y I=>Zf rfl<|bW<|iK [] 3 [0,1,2,3,4,5,7,8,6,9,10,11] [false,true,false,false,false,true,true,true,true,false,false,false] [(false,0),(true,1),(false,2),(false,3),(false,4),(true,5),(true,7),(true,8),(true,6),(false,9),(false,10),(false,11)] bB (fun _ _ _ h=>fM (P:=prog) (fn:=f33) _ _ _ h) Yg rfl<|Zv rfl w0 rfl I L0<|Za rfl<|Zd rfl (fun D1 R=>WQ _ _ r t _ (O.up (R _ Yf)) (ht.up RI.up (R _ Yf)))<|Za rfl ?_;refine' bU 7 (s:=8) (p:=15) rfl (fun U=>?_) (fun U=>?_) ?_;rotate_left
 ·refine cU rfl w0 rfl I Yc L0 n4 rfl ⟨_,rfl,rfl⟩<|Zb rfl<|Zk rfl TH rfl<|Zi 2 rfl aH rfl I rfl<|Ze rfl (fun D2 V=>aTP _ _ r t _ (O.up (V _ Yf)) (ht.up RI.up (V _ Yf)) hok (ZW U))<|Ze rfl (fun D3 Z=>aDO _ _ _ _)<|Zaj rfl ?_;exact aN 6
 ·refine Wo ?_;exact aN 6
 refine We ?_;exact aE rfl fun D hD=>by show Value.bool _=_;rw[aNA]
theorem aJW(lo hi n:Int)(D:aC):Fn prog 30 #[.agg #[qI lo,qI hi],qI n] D (fun _ v=>v=.agg #[qI (min lo n),qI (max hi n)]):=by
 refine Zw 14 func30 rfl fun h0=>aA<|Zy rfl fun R E1 O I=>Zad rfl B3 rfl fun U=>aJ<|Zj rfl UU rfl<|Zh 0 rfl aH rfl I rfl<|Za rfl<|y7 rfl rfl rfl rfl bRD<|Zj rfl QY rfl<|Zh 1 rfl aH rfl I rfl<|Za rfl ?_;refine nZ rfl rfl rfl rfl bRD<|Zu [qI (min lo n),qI (max hi n)] rfl aRI B3 rfl<|Zz rfl qK ζ<|aG ?_;exact Zq [_] rfl ⟨⟨_,_,_,rfl,Mm0,Or.inr ⟨HN,Xcr,rfl⟩⟩,bRD⟩ fun D hD=>rfl
theorem aQE(D:aC):Fn prog 29 #[] D (fun _ v=>v=.agg #[qI 1099511627776,qI (-1)]):=by
 refine Zw 2 func29 rfl fun h0=>aA<|Zad rfl B3 rfl fun I=>aJ<|Zu [qI 1099511627776,qI (-1)] rfl aRI B3 rfl<|Zz rfl qK ζ<|aG ?_;exact Zq [_] rfl ⟨⟨_,_,_,rfl,Mm0,Or.inr ⟨HN,Xcr,rfl⟩⟩,bRD⟩ fun D hD=>rfl
theorem HQ(l:List Int)(a:Int)(hl:l≠[])(h:∀x∈l,x≤a):l.foldl min a=rC l:=by
 cases l with
 |nil=>exact absurd rfl hl
 |cons x l=>rw[bMO,rC,Int.min_eq_right (h x bLP)]
theorem IK(l:List Int)(a:Int)(hl:l≠[])(h:∀x∈l,a≤x):l.foldl max a=pH l:=by
 cases l with
 |nil=>exact absurd rfl hl
 |cons x l=>rw[bMO,pH,Int.max_eq_right (h x bLP)]
theorem T2{t:List Int}(I:t.length≤9)(hb:∀x∈t,0≤x∧x≤1)(i j:Nat):0≤jQ t i j∧jQ t i j≤9:=by
 unfold jQ dG;have key:∀l:List Int,(∀x∈l,0≤x∧x≤1)→0≤l.sum∧l.sum≤l.length:=by
  intro l;induction l with
  |nil=>simp
  |cons x l ih=>
   intro h;have h1:=h x bLP;have h2:=ih fun y hy=>h y (LE _ hy)
   rw[List.sum_cons,bLU];omega
 have h1:=key ((t.drop i).take (j+1-i)) fun x hx=>hb x (List.mem_of_mem_drop (bQK hx));have h2:((t.drop i).take (j+1-i)).length≤t.length:=by rw[bNT,bOS];omega
 omega
theorem aOO{ts:List (List Int)}{i j:Nat}(hne:ts≠[])(hall:∀t∈ts,t.length≤9∧∀x∈t,0≤x∧x≤1)(_:True∨i=i):(ts.map fun t=>jQ t i j).foldl min 1099511627776=EB ts i j:=by
 refine HQ _ _ (by simpa using hne) fun x hx=>?_
 obtain⟨t,ht,rfl⟩:=GE.1 hx;have:=T2 (hall t ht).1 (hall t ht).2 i j;omega
theorem aQF{ts:List (List Int)}{i j:Nat}(hne:ts≠[])(hall:∀t∈ts,t.length≤9∧∀x∈t,0≤x∧x≤1)(_:True∨i=i):(ts.map fun t=>jQ t i j).foldl max (-1)=DR ts i j:=by
 refine IK _ _ (by simpa using hne) fun x hx=>?_
 obtain⟨t,ht,rfl⟩:=GE.1 hx;have:=T2 (hall t ht).1 (hall t ht).2 i j;omega
theorem V0(sv:Γ)(ts:List (List Int))(i j:Int)(D:aC)(hS:Sl D RL 1 sv ts)(hne:ts≠[])(hall:∀t∈ts,t.length≤9∧∀x∈t,0≤x∧x≤1)(Y:0≤i)(hij:i≤j)(hjl:∀t∈ts,j<t.length):
  Fn prog 13 #[sv,qI i,qI j] D (fun _ v=>v=.agg #[qI (EB ts i.toNat j.toNat),qI (DR ts i.toNat j.toNat)]):=by
 have hl:=hS.len;refine Zw 26 func13 rfl fun h0=>aA<|Zad rfl B3 rfl fun Z=>aJ<|Zd rfl (fun D1 hB=>aQE _)<|Zad rfl B3 rfl fun q2=>Zz rfl qK ζ<|bG<|Zf rfl<|aF<|Za0<|fZ (γ:=Nat) (fun k=>ts.length-k) (fun k=>k≤ts.length) (fun k=>[(8,qI (k:Int))]) [(7,_),(6,_),(0,_),(1,_),(2,_)] (fun k=>[(q2,qC [qI (((ts.take k).map fun t=>jQ t i.toNat j.toNat).foldl min 1099511627776),qI (((ts.take k).map fun t=>jQ t i.toNat j.toNat).foldl max (-1))] 55),(Z,qC [qI 0,qI 0] 55)]) (fun k=>[D]) 0 Yd ⟨Ya,bRD⟩ bQ Mm5 (aK) ?_;rintro k h1;refine bZ<|Za rfl<|Za rfl<|eN rfl U57 rfl Yl rfl rfl bRD<|Zam rfl<|aF<|Zaf rfl (fun hc1=>?_) fun hc1=>?_
 ·have hk:k<ts.length:=by omega
  obtain⟨t,ht⟩:=cR ts k;have htm:=n5 ht;obtain⟨htl,htb⟩:=hall t htm;refine aQ<|Za2<|Za0<|bS [] 4 10 254<|Zac rfl HN rfl Mm0 qK<|Za rfl<|Za rfl<|Zx rfl U57 fK rfl hS rfl ht fun b1 o1 hE I V O=>?_;obtain⟨w1,rfl,R⟩:=I;refine Zh 0 rfl cF rfl O rfl<|Za rfl<|Za rfl<|Zd rfl (fun D2 U=>XY _ t i j i.toNat (j.toNat+1-i.toNat) _ (R.up RI.up (U _ Yf)) Yd Yd (by have:=hjl t htm;omega) htb Yd)<|Zd rfl (fun D3 hF=>aJW _ _ _ _)<|Zz rfl qK ζ<|Wbd ?_;refine Wbl ?_;rw[show dG t i.toNat (j.toNat+1-i.toNat)=(fun t=>jQ t i.toNat j.toNat) t from rfl,←vC ht,←vW ht];exact Zn 17 (k+1) ⟨Ya,bRD⟩ rfl Mm5
 ·obtain rfl:k=ts.length:=by omega
  rw[bMP,aOO hne hall Yd,aQF hne hall Yd];refine Za5<|Za1<|Za1<|Za6<|Zay<|aA<|Zac rfl HN rfl Mm0 qK<|Zz rfl qK (.tail ζ)<|aG ?_;exact Zq [_] rfl ⟨⟨_,_,_,rfl,Mm1,Or.inr ⟨HN,Xcr,rfl⟩⟩,bRD⟩ fun D hD=>rfl
def LA(D:aC)(vs:List Γ)(ts:List (List Int)):Prop:=vs.length=ts.length∧∀(i:Nat) (v:Γ) (t:List Int),vs[i]?= some v→ts[i]?= some t→Sl D RI 1 v t
theorem LA.nil{D:aC}:LA D [] []:=⟨rfl,fun i v t h _=>Xad⟩
theorem LA.len{D:aC}{vs:List Γ}{ts:List (List Int)}(h:LA D vs ts):vs.length=ts.length:=h.1
theorem LA.up{D D':aC}{vs:List Γ}{ts:List (List Int)}(h:LA D vs ts)(hl:Le D D'):LA D' vs ts:=⟨h.1,fun i v t hv ht=>(h.2 i v t hv ht).up RI.up hl⟩
theorem LA.snoc{D:aC}{vs:List Γ}{ts:List (List Int)}{v:Γ}{t:List Int}(h:LA D vs ts)(hv:Sl D RI 1 v t):LA D (vs++[v]) (ts++[t]):=by
 refine⟨by simp[h.1],fun i u s hu hs=>?_⟩;by_cases hi:i<vs.length
 ·rw[bNX hi]at hu;rw[bNX (by rw[←h.1];exact hi)]at hs
  exact h.2 i u s hu hs
 ·have h1:=(bLS.1 hu).1;simp only[bLT,bOD]at h1;obtain rfl:i=vs.length:=by omega
  rw[bOV (bMH _)]at hu;rw[bOV (by rw[h.1];exact bMH _),h.1]at hs
  simp at hu hs;subst hu hs;exact hv
theorem _root_.Go.Fs.kH.lists{D D':aC}{v:Γ}{vs:List Γ}{ts:List (List Int)}(hF:kH D' v vs.length vs)(h:LA D vs ts)(hl:Le D D')(hb:ts.length≤9223372036854775807):Sl D' RL 1 v ts:=
 hF.sl h.1.symm (by rw[h.1];exact hb) fun i t hi=>by
  have hlt:=(bLS.1 hi).1;have hv:vs[i]?= some (vs[i]'(by rw[h.1];exact hlt)):=bLR _
  refine⟨_,⟨_,rfl,(h.2 i _ t hv hi).up RI.up hl⟩,rfl,?_⟩;rw[bNY,bNC (by rw[h.1];exact hlt)];rfl
end L1
end Go.Fs
