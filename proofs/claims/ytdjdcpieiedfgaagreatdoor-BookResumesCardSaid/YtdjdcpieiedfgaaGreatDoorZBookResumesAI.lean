/- Of BookResumes. -/
import Derived.Test.YtdjdcpieiedfgaaGreatDoorZBookResumesAF
import Derived.Lib.AppendStr
import Derived.Lib.UnsafeStr
import Derived.Lib.Builder
import Derived.Laws.Externs
import Derived.Laws.IdiomStrings
namespace Go.Fs
open Go.Proofs Tryz
namespace L12
open C12
def pQ(T:ZQ)(D:aC)(wb:Nat)(s:aM)(ν:aD):Prop:=∃pv cv hv lv mv bl bc yc yq ν1 ν2 ν3 ν4 ν5 ν6 ν7 ν8,ν=(wb,qC (dO s pv cv hv lv mv bl bc yc yq) T.w)::(ν8++(ν7++(ν6++(ν5++(ν4++(ν3++(ν2++ν1)))))))∧bKJ T D s pv cv hv lv mv bl bc yc yq ν1 ν2 ν3 ν4 ν5 ν6 ν7 ν8
def iH(P:Program)(f:FuncId)(k:Nat)(act:eH):Prop:=∀(wb:Nat) (s:aM) (nv:Γ) (n:List Int) (ν:aD) (D:aC),Sl D RI 1 nv n→n.length=k→(∀x∈n,0≤x∧x≤999)→pQ bLV D wb s ν→O7 s→
 kH P f [qP wb,nv] D ν (fun D' _ ν'=>∃s',act s n=.ok s'∧pQ bLV D' wb s' ν') fun v=>∃c,act s n=.error c∧v=fZ c
theorem _root_.Go.Fs.kH.frameE{P:Program}{f:FuncId}{args:List Γ}{D:aC}{ν A B:aD}{post:aC→Γ→aD→Prop}{pan:Γ→Prop}(h:kH P f args D ν post pan):kH P f args D (A++ν++B) (fun D' v ν'=>∃I,post D' v I∧ν'=A++I++B) pan:=h.frame fun _ _ ν' _ hp=>⟨ν',hp,rfl⟩
theorem _root_.Go.Fs.kH.frameB{P:Program}{f:FuncId}{args:List Γ}{D:aC}{ν:aD}{post:aC→Γ→aD→Prop}{pan:Γ→Prop}(h:kH P f args D ν post pan)(B:aD):kH P f args D ([]++ν++B) (fun D' v ν'=>∃I,post D' v I∧ν'=[]++I++B) pan:=h.frameE
theorem zC{l:List Int}(h:l.length=1):∃a,l=[a]:=by match l,h with| [a],_=>exact⟨a,rfl⟩
theorem Z7{l:List Int}(h:l.length=2):∃a b,l=[a,b]:=by match l,h with| [a,b],_=>exact⟨a,b,rfl⟩
theorem bDB{l:List Int}(h:l.length=3):∃a b c,l=[a,b,c]:=by match l,h with| [a,b,c],_=>exact⟨a,b,c,rfl⟩
theorem bCB{l:List Int}(h:l.length=4):∃a b c d,l=[a,b,c,d]:=by match l,h with| [a,b,c,d],_=>exact⟨a,b,c,d,rfl⟩
theorem z6{e sz n:Nat}{cells:List Γ}{v:Γ}{ν:aD}(h:bI e sz v n cells ν):∃x c,v=.slice x n c:=by
 rcases h with⟨a,rfl,rfl,_,_⟩|⟨b,cap,junk,rfl,_,_,_⟩
 ·exact⟨a,0,rfl⟩
 ·exact⟨_,cap,rfl⟩
theorem ZR:iH prog 266 0 (zT):=by
 rintro wb s nv n ν D hn hlen hr ⟨pv,cv,hv,lv,mv,bl,bc,yc,yq,ν1,ν2,ν3,ν4,ν5,ν6,ν7,ν8,rfl,hO⟩ hsm;obtain rfl:n=[]:=bQA hlen;refine kH.reorder ((aID wb s pv cv hv lv mv bl bc yc yq nv ν1 D hO.pl hsm.pl).frameB (ν8++(ν7++(ν6++(ν5++(ν4++(ν3++(ν2)))))))) Yj ?_ ?_
 ·rintro D' v ν' hle ⟨_,⟨hc,v1,νz,rfl,hacc⟩,rfl⟩;refine⟨_,Yy,mD s {s.row with places:=s.row.places++[2]},Xcb,v1,cv,hv,lv,mv,bl,bc,yc,yq,νz,ν2,ν3,ν4,ν5,ν6,ν7,ν8,rfl,?_⟩
  exact⟨(hacc),hO.ct,hO.ht,hO.lev,hO.mks,hO.ln,hO.cn.up vK.up hle,hO.ch,hO.cl⟩
 ·rintro v ⟨h1,rfl⟩;exact⟨_,Xcb,rfl⟩
theorem aLU:iH prog 267 2 (o7):=by
 rintro wb s nv n ν D hn hlen hr ⟨pv,cv,hv,lv,mv,bl,bc,yc,yq,ν1,ν2,ν3,ν4,ν5,ν6,ν7,ν8,rfl,hO⟩ hsm;obtain⟨a,b,rfl⟩:=Z7 hlen;have ha:0≤a:=(hr a Yf).1;refine kH.reorder ((aQG wb s pv cv hv lv mv bl bc yc yq nv a b ν1 D hn hO.pl hsm.pl ha).frameB (ν8++(ν7++(ν6++(ν5++(ν4++(ν3++(ν2)))))))) Yj ?_ ?_
 ·rintro D' v ν' hle ⟨_,⟨hc,νz,rfl,hacc⟩,rfl⟩;refine⟨_,Yy,mD s {s.row with places:=s.row.places.set a.toNat b},Ya6,pv,cv,hv,lv,mv,bl,bc,yc,yq,νz,ν2,ν3,ν4,ν5,ν6,ν7,ν8,rfl,?_⟩
  exact⟨(hacc),hO.ct,hO.ht,hO.lev,hO.mks,hO.ln,hO.cn.up vK.up hle,hO.ch,hO.cl⟩
 ·rintro v (⟨h1,rfl⟩|⟨h1,h2,rfl⟩)
  ·exact⟨_,Ya6,rfl⟩
  ·exact⟨_,Ya6,rfl⟩
theorem YN:iH prog 268 2 (pJ false):=by
 rintro wb s nv n ν D hn hlen hr ⟨pv,cv,hv,lv,mv,bl,bc,yc,yq,ν1,ν2,ν3,ν4,ν5,ν6,ν7,ν8,rfl,hO⟩ hsm;obtain⟨a,b,rfl⟩:=Z7 hlen;refine kH.reorder ((aKF wb s pv cv hv lv mv bl bc yc yq nv a b ν2 D hn hO.ct hsm.ct (z6 hO.pl)).frameB (ν8++(ν7++(ν6++(ν5++(ν4++(ν3++(ν1)))))))) Yj ?_ ?_
 ·rintro D' v ν' hle ⟨_,⟨hc,v1,νz,rfl,hacc⟩,rfl⟩;refine⟨_,Yy,mD s {s.row with counts:=s.row.counts++[(⟨false,a,b⟩:C1.xW)]},Yao,pv,v1,hv,lv,mv,bl,bc,yc,yq,ν1,νz,ν3,ν4,ν5,ν6,ν7,ν8,rfl,?_⟩
  exact⟨hO.pl,(hacc),hO.ht,hO.lev,hO.mks,hO.ln,hO.cn.up vK.up hle,hO.ch,hO.cl⟩
 ·rintro v (⟨h1,rfl⟩|⟨h1,h2,rfl⟩)
  ·exact⟨_,Yao,rfl⟩
  ·exact⟨_,Yao,rfl⟩
theorem aHE:iH prog 269 2 (pJ true):=by
 rintro wb s nv n ν D hn hlen hr ⟨pv,cv,hv,lv,mv,bl,bc,yc,yq,ν1,ν2,ν3,ν4,ν5,ν6,ν7,ν8,rfl,hO⟩ hsm;obtain⟨a,b,rfl⟩:=Z7 hlen;refine kH.reorder ((aQN wb s pv cv hv lv mv bl bc yc yq nv a b ν2 D hn hO.ct hsm.ct (z6 hO.pl)).frameB (ν8++(ν7++(ν6++(ν5++(ν4++(ν3++(ν1)))))))) Yj ?_ ?_
 ·rintro D' v ν' hle ⟨_,⟨hc,v1,νz,rfl,hacc⟩,rfl⟩;refine⟨_,Yy,mD s {s.row with counts:=s.row.counts++[(⟨true,a,b⟩:C1.xW)]},Yao,pv,v1,hv,lv,mv,bl,bc,yc,yq,ν1,νz,ν3,ν4,ν5,ν6,ν7,ν8,rfl,?_⟩
  exact⟨hO.pl,(hacc),hO.ht,hO.lev,hO.mks,hO.ln,hO.cn.up vK.up hle,hO.ch,hO.cl⟩
 ·rintro v (⟨h1,rfl⟩|⟨h1,h2,rfl⟩)
  ·exact⟨_,Yao,rfl⟩
  ·exact⟨_,Yao,rfl⟩
theorem NJ:iH prog 270 1 (qM):=by
 rintro wb s nv n ν D hn hlen hr ⟨pv,cv,hv,lv,mv,bl,bc,yc,yq,ν1,ν2,ν3,ν4,ν5,ν6,ν7,ν8,rfl,hO⟩ hsm;obtain⟨a,rfl⟩:=zC hlen;have ha:0≤a:=(hr a Yf).1;refine kH.reorder ((UA wb s pv cv hv lv mv bl bc yc yq nv a ν2 D hn hO.ct hsm.ct ha).frameB (ν8++(ν7++(ν6++(ν5++(ν4++(ν3++(ν1)))))))) Yj ?_ ?_
 ·rintro D' v ν' hle ⟨_,⟨hc,v1,νz,rfl,hacc⟩,rfl⟩;refine⟨_,Yy,mD s {s.row with counts:=s.row.counts.eraseIdx a.toNat},Xcv,pv,v1,hv,lv,mv,bl,bc,yc,yq,ν1,νz,ν3,ν4,ν5,ν6,ν7,ν8,rfl,?_⟩
  exact⟨hO.pl,(hacc),hO.ht,hO.lev,hO.mks,hO.ln,hO.cn.up vK.up hle,hO.ch,hO.cl⟩
 ·rintro v ⟨h1,rfl⟩;exact⟨_,Xcv,rfl⟩
theorem aAC:iH prog 271 1 (C0):=by
 rintro wb s nv n ν D hn hlen hr ⟨pv,cv,hv,lv,mv,bl,bc,yc,yq,ν1,ν2,ν3,ν4,ν5,ν6,ν7,ν8,rfl,hO⟩ hsm;obtain⟨a,rfl⟩:=zC hlen;refine kH.reorder ((aHQ wb s pv cv hv lv mv bl bc yc yq nv a D hn).frameB (ν8++(ν7++(ν6++(ν5++(ν4++(ν3++(ν2++(ν1))))))))) Yj ?_ ?_
 ·rintro D' v ν' hle ⟨_,⟨h1,rfl⟩,rfl⟩;refine⟨_,.refl _,mD s {s.row with wrong:=a},Xcc,pv,cv,hv,lv,mv,bl,bc,yc,yq,ν1,ν2,ν3,ν4,ν5,ν6,ν7,ν8,rfl,⟨hO.pl,hO.ct,hO.ht,hO.lev,hO.mks,hO.ln,hO.cn.up vK.up hle,hO.ch,hO.cl⟩⟩
 ·rintro v ⟨h1,rfl⟩;exact⟨_,Xcc,rfl⟩
theorem aTQ:iH prog 272 1 (NZ):=by
 rintro wb s nv n ν D hn hlen hr ⟨pv,cv,hv,lv,mv,bl,bc,yc,yq,ν1,ν2,ν3,ν4,ν5,ν6,ν7,ν8,rfl,hO⟩ hsm;obtain⟨a,rfl⟩:=zC hlen;refine kH.reorder ((bAU wb s pv cv hv lv mv bl bc yc yq nv a D hn).frameB (ν8++(ν7++(ν6++(ν5++(ν4++(ν3++(ν2++(ν1))))))))) Yj ?_ ?_
 ·rintro D' v ν' hle ⟨_,⟨h1,rfl⟩,rfl⟩;refine⟨_,.refl _,mD s {s.row with off:=a},Xcd,pv,cv,hv,lv,mv,bl,bc,yc,yq,ν1,ν2,ν3,ν4,ν5,ν6,ν7,ν8,rfl,⟨hO.pl,hO.ct,hO.ht,hO.lev,hO.mks,hO.ln,hO.cn.up vK.up hle,hO.ch,hO.cl⟩⟩
 ·rintro v ⟨h1,rfl⟩;exact⟨_,Xcd,rfl⟩
theorem aKH:iH prog 273 3 (p9):=by
 rintro wb s nv n ν D hn hlen hr ⟨pv,cv,hv,lv,mv,bl,bc,yc,yq,ν1,ν2,ν3,ν4,ν5,ν6,ν7,ν8,rfl,hO⟩ hsm;obtain⟨a,b,c,rfl⟩:=bDB hlen;have ha:0≤a:=(hr a Yf).1;have hb:0≤b∧b≤1000:=by have:=hr b Yf;omega
 refine kH.reorder ((aQV wb s pv cv hv lv mv bl bc yc yq nv a b c ν3 D hn hO.ht hsm.ht ha hb).frameB (ν8++(ν7++(ν6++(ν5++(ν4++(ν2++(ν1)))))))) Yj ?_ ?_
 ·rintro D' v ν' hle ⟨_,⟨hc,νz,rfl,hacc⟩,rfl⟩;refine⟨_,Yw,iK s {s.table with heights:=s.table.heights.set a.toNat (b,c)},Ya5,pv,cv,hv,lv,mv,bl,bc,yc,yq,ν1,ν2,νz,ν4,ν5,ν6,ν7,ν8,rfl,?_⟩
  exact⟨hO.pl,hO.ct,(hacc),hO.lev,hO.mks,hO.ln,hO.cn.up vK.up hle,hO.ch,hO.cl⟩
 ·rintro v (⟨h1,rfl⟩|⟨h1,h2,rfl⟩)
  ·exact⟨_,Ya5,rfl⟩
  ·exact⟨_,Ya5,rfl⟩
theorem aIE:iH prog 274 1 (l6):=by
 rintro wb s nv n ν D hn hlen hr ⟨pv,cv,hv,lv,mv,bl,bc,yc,yq,ν1,ν2,ν3,ν4,ν5,ν6,ν7,ν8,rfl,hO⟩ hsm;obtain⟨a,rfl⟩:=zC hlen;refine kH.reorder ((aST wb s pv cv hv lv mv bl bc yc yq nv a D hn).frameB (ν8++(ν7++(ν6++(ν5++(ν4++(ν3++(ν2++(ν1))))))))) Yj ?_ ?_
 ·rintro D' v ν' hle ⟨_,⟨h1,rfl⟩,rfl⟩;refine⟨_,.refl _,iK s {s.table with step:=a},Xce,pv,cv,hv,lv,mv,bl,bc,yc,yq,ν1,ν2,ν3,ν4,ν5,ν6,ν7,ν8,rfl,⟨hO.pl,hO.ct,hO.ht,hO.lev,hO.mks,hO.ln,hO.cn.up vK.up hle,hO.ch,hO.cl⟩⟩
 ·rintro v ⟨h1,rfl⟩;exact⟨_,Xce,rfl⟩
theorem aBS:iH prog 275 1 (zZ):=by
 rintro wb s nv n ν D hn hlen hr ⟨pv,cv,hv,lv,mv,bl,bc,yc,yq,ν1,ν2,ν3,ν4,ν5,ν6,ν7,ν8,rfl,hO⟩ hsm;obtain⟨a,rfl⟩:=zC hlen;refine kH.reorder ((aKY wb s pv cv hv lv mv bl bc yc yq nv a ν4 D hn hO.lev hsm.lev).frameB (ν8++(ν7++(ν6++(ν5++(ν3++(ν2++(ν1)))))))) Yj ?_ ?_
 ·rintro D' v ν' hle ⟨_,⟨hc,v1,νz,rfl,hacc⟩,rfl⟩;refine⟨_,Yw,iK s {s.table with levels:=s.table.levels++[a]},Ya3,pv,cv,hv,v1,mv,bl,bc,yc,yq,ν1,ν2,ν3,νz,ν5,ν6,ν7,ν8,rfl,?_⟩
  exact⟨hO.pl,hO.ct,hO.ht,(hacc),hO.mks,hO.ln,hO.cn.up vK.up hle,hO.ch,hO.cl⟩
 ·rintro v (⟨h1,rfl⟩|⟨h1,h2,rfl⟩)
  ·exact⟨_,Ya3,rfl⟩
  ·exact⟨_,Ya3,rfl⟩
theorem aAD:iH prog 276 2 (B4):=by
 rintro wb s nv n ν D hn hlen hr ⟨pv,cv,hv,lv,mv,bl,bc,yc,yq,ν1,ν2,ν3,ν4,ν5,ν6,ν7,ν8,rfl,hO⟩ hsm;obtain⟨a,b,rfl⟩:=Z7 hlen;have ha:0≤a:=(hr a Yf).1;refine kH.reorder ((aLF wb s pv cv hv lv mv bl bc yc yq nv a b ν4 D hn hO.lev hsm.lev ha).frameB (ν8++(ν7++(ν6++(ν5++(ν3++(ν2++(ν1)))))))) Yj ?_ ?_
 ·rintro D' v ν' hle ⟨_,⟨hc,νz,rfl,hacc⟩,rfl⟩;refine⟨_,Yw,iK s {s.table with levels:=s.table.levels.set a.toNat b},Ya2,pv,cv,hv,lv,mv,bl,bc,yc,yq,ν1,ν2,ν3,νz,ν5,ν6,ν7,ν8,rfl,?_⟩
  exact⟨hO.pl,hO.ct,hO.ht,(hacc),hO.mks,hO.ln,hO.cn.up vK.up hle,hO.ch,hO.cl⟩
 ·rintro v (⟨h1,rfl⟩|⟨h1,h2,rfl⟩)
  ·exact⟨_,Ya2,rfl⟩
  ·exact⟨_,Ya2,rfl⟩
theorem aLY:iH prog 277 4 (C8):=by
 rintro wb s nv n ν D hn hlen hr ⟨pv,cv,hv,lv,mv,bl,bc,yc,yq,ν1,ν2,ν3,ν4,ν5,ν6,ν7,ν8,rfl,hO⟩ hsm;obtain⟨a,b,c,d,rfl⟩:=bCB hlen;refine kH.reorder ((aSH wb s pv cv hv lv mv bl bc yc yq nv a b c d ν5 D hn hO.mks hsm.mks (z6 hO.ht)).frameB (ν8++(ν7++(ν6++(ν4++(ν3++(ν2++(ν1)))))))) Yj ?_ ?_
 ·rintro D' v ν' hle ⟨_,⟨hc,v1,νz,rfl,hacc⟩,rfl⟩;refine⟨_,Yw,iK s {s.table with marks:=s.table.marks++[(⟨a,b,c,d⟩:C2.Mk)]},Ya7,pv,cv,hv,lv,v1,bl,bc,yc,yq,ν1,ν2,ν3,ν4,νz,ν6,ν7,ν8,rfl,?_⟩
  exact⟨hO.pl,hO.ct,hO.ht,hO.lev,(hacc),hO.ln,hO.cn.up vK.up hle,hO.ch,hO.cl⟩
 ·rintro v (⟨h1,rfl⟩|⟨h1,h2,rfl⟩|⟨h1,h2,h3,rfl⟩|⟨h1,h2,h3,h4,rfl⟩)
  ·exact⟨_,Ya7,rfl⟩
  ·exact⟨_,Ya7,rfl⟩
  ·exact⟨_,Ya7,rfl⟩
  ·exact⟨_,Ya7,rfl⟩
theorem UH:iH prog 278 1 (uH):=by
 rintro wb s nv n ν D hn hlen hr ⟨pv,cv,hv,lv,mv,bl,bc,yc,yq,ν1,ν2,ν3,ν4,ν5,ν6,ν7,ν8,rfl,hO⟩ hsm;obtain⟨a,rfl⟩:=zC hlen;have ha:0≤a:=(hr a Yf).1;refine kH.reorder ((YA wb s pv cv hv lv mv bl bc yc yq nv a ν5 D hn hO.mks hsm.mks ha).frameB (ν8++(ν7++(ν6++(ν4++(ν3++(ν2++(ν1)))))))) Yj ?_ ?_
 ·rintro D' v ν' hle ⟨_,⟨hc,v1,νz,rfl,hacc⟩,rfl⟩;refine⟨_,Yw,iK s {s.table with marks:=s.table.marks.eraseIdx a.toNat},Xcw,pv,cv,hv,lv,v1,bl,bc,yc,yq,ν1,ν2,ν3,ν4,νz,ν6,ν7,ν8,rfl,?_⟩
  exact⟨hO.pl,hO.ct,hO.ht,hO.lev,(hacc),hO.ln,hO.cn.up vK.up hle,hO.ch,hO.cl⟩
 ·rintro v ⟨h1,rfl⟩;exact⟨_,Xcw,rfl⟩
theorem aMN:iH prog 279 2 (pE 1):=by
 rintro wb s nv n ν D hn hlen hr ⟨pv,cv,hv,lv,mv,bl,bc,yc,yq,ν1,ν2,ν3,ν4,ν5,ν6,ν7,ν8,rfl,hO⟩ hsm;obtain⟨a,b,rfl⟩:=Z7 hlen;refine kH.reorder ((aPK wb s pv cv hv lv mv bl bc yc yq nv a b ν6 D hn hO.ln hsm.ln).frameB (ν8++(ν7++(ν5++(ν4++(ν3++(ν2++(ν1)))))))) Yj ?_ ?_
 ·rintro D' v ν' hle ⟨_,⟨hc,v1,νz,rfl,hacc⟩,rfl⟩;refine⟨_,Yai,oZ s {s.book with lines:=s.book.lines++[(⟨1,a,b⟩:C3.eS)]},Yan,pv,cv,hv,lv,mv,v1,bc,yc,yq,ν1,ν2,ν3,ν4,ν5,νz,ν7,ν8,rfl,?_⟩
  exact⟨hO.pl,hO.ct,hO.ht,hO.lev,hO.mks,(hacc),hO.cn.up vK.up hle,hO.ch,hO.cl⟩
 ·rintro v (⟨h1,rfl⟩|⟨h1,h2,rfl⟩)
  ·exact⟨_,Yan,rfl⟩
  ·exact⟨_,Yan,rfl⟩
theorem aBB:iH prog 280 2 (pE 2):=by
 rintro wb s nv n ν D hn hlen hr ⟨pv,cv,hv,lv,mv,bl,bc,yc,yq,ν1,ν2,ν3,ν4,ν5,ν6,ν7,ν8,rfl,hO⟩ hsm;obtain⟨a,b,rfl⟩:=Z7 hlen;refine kH.reorder ((aMI wb s pv cv hv lv mv bl bc yc yq nv a b ν6 D hn hO.ln hsm.ln).frameB (ν8++(ν7++(ν5++(ν4++(ν3++(ν2++(ν1)))))))) Yj ?_ ?_
 ·rintro D' v ν' hle ⟨_,⟨hc,v1,νz,rfl,hacc⟩,rfl⟩;refine⟨_,Yai,oZ s {s.book with lines:=s.book.lines++[(⟨2,a,b⟩:C3.eS)]},Yan,pv,cv,hv,lv,mv,v1,bc,yc,yq,ν1,ν2,ν3,ν4,ν5,νz,ν7,ν8,rfl,?_⟩
  exact⟨hO.pl,hO.ct,hO.ht,hO.lev,hO.mks,(hacc),hO.cn.up vK.up hle,hO.ch,hO.cl⟩
 ·rintro v (⟨h1,rfl⟩|⟨h1,h2,rfl⟩)
  ·exact⟨_,Yan,rfl⟩
  ·exact⟨_,Yan,rfl⟩
theorem VE:iH prog 281 1 (qL):=by
 rintro wb s nv n ν D hn hlen hr ⟨pv,cv,hv,lv,mv,bl,bc,yc,yq,ν1,ν2,ν3,ν4,ν5,ν6,ν7,ν8,rfl,hO⟩ hsm;obtain⟨a,rfl⟩:=zC hlen;have ha:0≤a:=(hr a Yf).1;refine kH.reorder ((aBA wb s pv cv hv lv mv bl bc yc yq nv a ν6 D hn hO.ln hsm.ln ha).frameB (ν8++(ν7++(ν5++(ν4++(ν3++(ν2++(ν1)))))))) Yj ?_ ?_
 ·rintro D' v ν' hle ⟨_,⟨x,hx,hc,νz,rfl,hacc⟩,rfl⟩;refine⟨_,Yai,oZ s {s.book with lines:=s.book.lines.set a.toNat {x with token:= -1}},by unfold qL;simp only[];rw[hx];simp only[];rw[bNA hc],pv,cv,hv,lv,mv,bl,bc,yc,yq,ν1,ν2,ν3,ν4,ν5,νz,ν7,ν8,rfl,?_⟩
  exact⟨hO.pl,hO.ct,hO.ht,hO.lev,hO.mks,(hacc),hO.cn.up vK.up hle,hO.ch,hO.cl⟩
 ·rintro v (⟨h1,rfl⟩|⟨x,hx,h1,rfl⟩)
  ·exact⟨_,by unfold qL;simp only[];rw[bPU Yd],rfl⟩
  ·exact⟨_,by unfold qL;simp only[];rw[hx];exact bNK h1,rfl⟩
theorem SA:iH prog 282 1 (tX):=by
 rintro wb s nv n ν D hn hlen hr ⟨pv,cv,hv,lv,mv,bl,bc,yc,yq,ν1,ν2,ν3,ν4,ν5,ν6,ν7,ν8,rfl,hO⟩ hsm;obtain⟨a,rfl⟩:=zC hlen;have ha:0≤a:=(hr a Yf).1;refine kH.reorder ((aAX wb s pv cv hv lv mv bl bc yc yq nv a ν6 D hn hO.ln hsm.ln ha).frameB (ν8++(ν7++(ν5++(ν4++(ν3++(ν2++(ν1)))))))) Yj ?_ ?_
 ·rintro D' v ν' hle ⟨_,⟨hc,v1,νz,rfl,hacc⟩,rfl⟩;refine⟨_,Yai,oZ s {s.book with lines:=s.book.lines.eraseIdx a.toNat},Xcx,pv,cv,hv,lv,mv,v1,bc,yc,yq,ν1,ν2,ν3,ν4,ν5,νz,ν7,ν8,rfl,?_⟩
  exact⟨hO.pl,hO.ct,hO.ht,hO.lev,hO.mks,(hacc),hO.cn.up vK.up hle,hO.ch,hO.cl⟩
 ·rintro v ⟨h1,rfl⟩;exact⟨_,Xcx,rfl⟩
theorem WJ:iH prog 283 4 (uE):=by
 rintro wb s nv n ν D hn hlen hr ⟨pv,cv,hv,lv,mv,bl,bc,yc,yq,ν1,ν2,ν3,ν4,ν5,ν6,ν7,ν8,rfl,hO⟩ hsm;obtain⟨a,b,c,d,rfl⟩:=bCB hlen;refine kH.reorder ((ZB wb s pv cv hv lv mv bl bc yc yq nv a b c d ν7 D hn hO.ch hsm.ch).frameB (ν8++(ν6++(ν5++(ν4++(ν3++(ν2++(ν1)))))))) Yj ?_ ?_
 ·rintro D' v ν' hle ⟨_,⟨hc,v1,νz,rfl,hacc⟩,rfl⟩;refine⟨_,Yah,kK s {s.yard with chairs:=s.yard.chairs++[(⟨a,⟨b,c,d⟩⟩:C7.Ch)]},Ya1,pv,cv,hv,lv,mv,bl,bc,v1,yq,ν1,ν2,ν3,ν4,ν5,ν6,νz,ν8,rfl,?_⟩
  exact⟨hO.pl,hO.ct,hO.ht,hO.lev,hO.mks,hO.ln,hO.cn.up vK.up hle,(hacc),hO.cl⟩
 ·rintro v (⟨h1,rfl⟩|⟨h1,h2,rfl⟩)
  ·exact⟨_,Ya1,rfl⟩
  ·exact⟨_,Ya1,rfl⟩
theorem aLV:iH prog 284 3 (vW):=by
 rintro wb s nv n ν D hn hlen hr ⟨pv,cv,hv,lv,mv,bl,bc,yc,yq,ν1,ν2,ν3,ν4,ν5,ν6,ν7,ν8,rfl,hO⟩ hsm;obtain⟨a,b,c,rfl⟩:=bDB hlen;have ha:0≤a:=(hr a Yf).1;have hb:0≤b:=(hr b Yf).1;refine kH.reorder ((aTP wb s pv cv hv lv mv bl bc yc yq nv a b c ν7 D hn hO.ch hsm.ch ha hb).frameB (ν8++(ν6++(ν5++(ν4++(ν3++(ν2++(ν1)))))))) Yj ?_ ?_
 ·rintro D' v ν' hle ⟨_,⟨x,hx,hc,νz,rfl,hacc⟩,rfl⟩;refine⟨_,Yah,kK s {s.yard with chairs:=s.yard.chairs.set a.toNat {x with parts:=l5 x.parts b.toNat c}},by unfold vW;simp only[];rw[hx];simp only[];repeat (first|rw[bNK Yd]|rw[bNA Yd]),pv,cv,hv,lv,mv,bl,bc,yc,yq,ν1,ν2,ν3,ν4,ν5,ν6,νz,ν8,rfl,?_⟩
  exact⟨hO.pl,hO.ct,hO.ht,hO.lev,hO.mks,hO.ln,hO.cn.up vK.up hle,(hacc),hO.cl⟩
 ·rintro v (⟨h1,rfl⟩|⟨h1,h2,rfl⟩|⟨h1,h2,h3,rfl⟩)
  ·exact⟨_,by unfold vW;simp only[];rw[bPU Yd],rfl⟩
  ·exact⟨_,by unfold vW;simp only[];rw[bMU Yd];exact bNK h2,rfl⟩
  ·exact⟨_,by unfold vW;simp only[];rw[bMU Yd];exact(bNA Yd).trans (bNK h3),rfl⟩
theorem aSS:iH prog 285 1 (QP):=by
 rintro wb s nv n ν D hn hlen hr ⟨pv,cv,hv,lv,mv,bl,bc,yc,yq,ν1,ν2,ν3,ν4,ν5,ν6,ν7,ν8,rfl,hO⟩ hsm;obtain⟨a,rfl⟩:=zC hlen;refine kH.reorder ((aXY wb s pv cv hv lv mv bl bc yc yq nv a D hn).frameB (ν8++(ν7++(ν6++(ν5++(ν4++(ν3++(ν2++(ν1))))))))) Yj ?_ ?_
 ·rintro D' v ν' hle ⟨_,⟨h1,rfl⟩,rfl⟩;refine⟨_,.refl _,kK s {s.yard with fit:=a},Xcf,pv,cv,hv,lv,mv,bl,bc,yc,yq,ν1,ν2,ν3,ν4,ν5,ν6,ν7,ν8,rfl,⟨hO.pl,hO.ct,hO.ht,hO.lev,hO.mks,hO.ln,hO.cn.up vK.up hle,hO.ch,hO.cl⟩⟩
 ·rintro v ⟨h1,rfl⟩;exact⟨_,Xcf,rfl⟩
theorem YV:iH prog 286 2 (B8):=by
 rintro wb s nv n ν D hn hlen hr ⟨pv,cv,hv,lv,mv,bl,bc,yc,yq,ν1,ν2,ν3,ν4,ν5,ν6,ν7,ν8,rfl,hO⟩ hsm;obtain⟨a,b,rfl⟩:=Z7 hlen;refine kH.reorder ((aMS wb s pv cv hv lv mv bl bc yc yq nv a b ν8 D hn hO.cl hsm.cl).frameB (ν7++(ν6++(ν5++(ν4++(ν3++(ν2++(ν1)))))))) Yj ?_ ?_
 ·rintro D' v ν' hle ⟨_,⟨hc,v1,νz,rfl,hacc⟩,rfl⟩;refine⟨_,Yah,kK s {s.yard with claims:=s.yard.claims++[(a,b)]},Ya4,pv,cv,hv,lv,mv,bl,bc,yc,v1,ν1,ν2,ν3,ν4,ν5,ν6,ν7,νz,rfl,?_⟩
  exact⟨hO.pl,hO.ct,hO.ht,hO.lev,hO.mks,hO.ln,hO.cn.up vK.up hle,hO.ch,(hacc)⟩
 ·rintro v (⟨h1,rfl⟩|⟨h1,h2,rfl⟩)
  ·exact⟨_,Ya4,rfl⟩
  ·exact⟨_,Ya4,rfl⟩
theorem PK:iH prog 287 1 (pY):=by
 rintro wb s nv n ν D hn hlen hr ⟨pv,cv,hv,lv,mv,bl,bc,yc,yq,ν1,ν2,ν3,ν4,ν5,ν6,ν7,ν8,rfl,hO⟩ hsm;obtain⟨a,rfl⟩:=zC hlen;have ha:0≤a:=(hr a Yf).1;refine kH.reorder ((UI wb s pv cv hv lv mv bl bc yc yq nv a ν8 D hn hO.cl hsm.cl ha).frameB (ν7++(ν6++(ν5++(ν4++(ν3++(ν2++(ν1)))))))) Yj ?_ ?_
 ·rintro D' v ν' hle ⟨_,⟨hc,v1,νz,rfl,hacc⟩,rfl⟩;refine⟨_,Yah,kK s {s.yard with claims:=s.yard.claims.eraseIdx a.toNat},Xcy,pv,cv,hv,lv,mv,bl,bc,yc,v1,ν1,ν2,ν3,ν4,ν5,ν6,ν7,νz,rfl,?_⟩
  exact⟨hO.pl,hO.ct,hO.ht,hO.lev,hO.mks,hO.ln,hO.cn.up vK.up hle,hO.ch,(hacc)⟩
 ·rintro v ⟨h1,rfl⟩;exact⟨_,Xcy,rfl⟩
def pO(s:aM)(line:Λ):aM×Int:=match jO line with
 |none=>(s,4)
 |some (act,n)=>match act s n with
  |.error c=>(s,c)
  |.ok s'=>if fS s'=0 then(s',0)else(s,fS s')
theorem QX{s:aM}{line:Λ}(h:jO line=none):pO s line=(s,4):=by unfold pO;rw[h]
theorem aNN{s:aM}{line:Λ}{act:eH}{n:List Int}{c:Int}(h:jO line=some (act,n))(he:act s n=.error c):pO s line=(s,c):=by unfold pO;rw[h];simp only[];rw[he]
theorem aOT{s I:aM}{line:Λ}{act:eH}{n:List Int}(h:jO line=some (act,n))(he:act s n=.ok I)(hs:fS I≠0):pO s line=(s,fS I):=by unfold pO;rw[h];simp only[];rw[he];exact bNA hs
theorem aEX{s I:aM}{line:Λ}{act:eH}{n:List Int}(h:jO line=some (act,n))(he:act s n=.ok I)(hs:fS I=0):pO s line=(I,0):=by unfold pO;rw[h];simp only[];rw[he];exact bNK hs
theorem S2{s I:aM}{line:Λ}{c:Int}{D:aC}{v:Γ}(h:pO s line=(I,c))(hs:gG D v I):∃v1,Value.tuple #[v,qI c]=.tuple #[v1,qI (pO s line).2]∧gG D v1 (pO s line).1:=by rw[h];exact⟨v,rfl,hs⟩
theorem m1{s:aM}{line:Λ}{c:Int}{D:aC}{v:Γ}(h:pO s line=(s,c))(hs:gG D v s):∃v1,Value.tuple #[v,qI c]=.tuple #[v1,qI (pO s line).2]∧gG D v1 (pO s line).1:=S2 h hs
theorem _root_.Go.Fs.C12.lY.small{s:aM}(h:lY s):O7 s:=⟨by have:=h.pl;omega,by have:=h.ct;omega,by have:=h.ht;omega,by have:=h.lev;omega,by have:=h.mks;omega,by have:=h.ln;omega,by have:=h.ch;omega,by have:=h.cl;omega⟩
theorem pQ.up{T:ZQ}{D D':aC}{wb:Nat}{s:aM}{ν:aD}(h:pQ T D wb s ν)(hl:Le D D'):pQ T D' wb s ν:=by
 obtain⟨pv,cv,hv,lv,mv,bl,bc,yc,yq,ν1,ν2,ν3,ν4,ν5,ν6,ν7,ν8,h1,h2⟩:=h;exact⟨pv,cv,hv,lv,mv,bl,bc,yc,yq,ν1,ν2,ν3,ν4,ν5,ν6,ν7,ν8,h1,⟨h2.pl,h2.ct,h2.ht,h2.lev,h2.mks,h2.ln,h2.cn.up vK.up hl,h2.ch,h2.cl⟩⟩
theorem Z5{T:ZQ}{D:aC}{wb:Nat}{s:aM}{ν:aD}(h:pQ T D wb s ν):∀p∈ν,cU p.2:=by
 obtain⟨pv,cv,hv,lv,mv,bl,bc,yc,yq,ν1,ν2,ν3,ν4,ν5,ν6,ν7,ν8,rfl,h2⟩:=h;intro p hp;simp only[LT,bNH]at hp;rcases hp with rfl|hp|hp|hp|hp|hp|hp|hp|hp
 ·rfl
 ·exact pB h2.cl p hp
 ·exact pB h2.ch p hp
 ·exact pB h2.ln p hp
 ·exact pB h2.mks p hp
 ·exact pB h2.lev p hp
 ·exact pB h2.ht p hp
 ·exact pB h2.ct p hp
 ·exact pB h2.pl p hp
theorem oI{α:Type}{R:Rd α}{D:aC}{sz:Nat}{v:Γ}{xs:List α}(h:Sl D R sz v xs):cell1 v=true:=by
 obtain⟨a,c,rfl⟩:=h.shape;rfl
theorem eU{D:aC}{s:aM}{pv cv hv lv mv bl bc yc yq:Γ}(h:jR D s pv cv hv lv mv bl bc yc yq):∀u∈[pv,cv,qI s.row.wrong,qI s.row.off,qI s.table.last,hv,qI s.table.step,lv,mv,qI s.book.chairs,qI s.book.coin,qI s.book.box,bl,bc,yc,qI s.yard.fit,yq],cell1 u=true:=by
 intro u hu;simp only[LT,n4,bOZ]at hu;rcases hu with rfl|rfl|rfl|rfl|rfl|rfl|rfl|rfl|rfl|rfl|rfl|rfl|rfl|rfl|rfl|rfl|rfl<;>first|rfl|exact oI h.pl|exact oI h.ct|exact oI h.ht|exact oI h.lev|exact oI h.mks|exact oI h.ln|exact oI h.cn|exact oI h.ch|exact oI h.cl
section
variable{P:Program}{X:Cx}{Q:Exit→Act→Δ→Prop}{σ:bU}{Ds:List aC}
theorem BE{T:ZQ}{c:Code}{B ν:aD}{D0:aC}{wb:Nat}{s:aM}(h:pQ T D0 wb s ν)(hmods:X.mods=[])(O:D0∈Ds:=by simp)(hsm:O7 s:=by assumption)
  (kk:∀D pv cv hv lv mv bl bc yc yq,(∀D₁∈Ds,Le D₁ D)→jR D s pv cv hv lv mv bl bc yc yq→WC P X Q c σ ((wb,qC (dO s pv cv hv lv mv bl bc yc yq) T.w)::B) (D::Ds)):WC P X Q c σ (ν++B) Ds:=by
 obtain⟨pv,cv,hv,lv,mv,bl,bc,yc,yq,ν1,ν2,ν3,ν4,ν5,ν6,ν7,ν8,rfl,hO⟩:=h;intro a w hh;obtain⟨V,k8,Y,h8⟩:=(hh.boxesEq (μ':=[(wb,qC (dO s pv cv hv lv mv bl bc yc yq) T.w)]++ν8++(ν7++(ν6++(ν5++(ν4++(ν3++(ν2++(ν1++B)))))))) Yf).freeze hO.cl hmods;obtain⟨Z,k7,F7,h7⟩:=(h8.boxesEq (μ':=[(wb,qC (dO s pv cv hv lv mv bl bc yc yq) T.w)]++ν7++(ν6++(ν5++(ν4++(ν3++(ν2++(ν1++B))))))) Yf).freeze hO.ch hmods;obtain⟨E6,k6,F6,h6⟩:=(h7.boxesEq (μ':=[(wb,qC (dO s pv cv hv lv mv bl bc yc yq) T.w)]++ν6++(ν5++(ν4++(ν3++(ν2++(ν1++B)))))) Yf).freeze hO.ln hmods;obtain⟨E5,k5,F5,h5⟩:=(h6.boxesEq (μ':=[(wb,qC (dO s pv cv hv lv mv bl bc yc yq) T.w)]++ν5++(ν4++(ν3++(ν2++(ν1++B))))) Yf).freeze hO.mks hmods;obtain⟨E4,k4,F4,h4⟩:=(h5.boxesEq (μ':=[(wb,qC (dO s pv cv hv lv mv bl bc yc yq) T.w)]++ν4++(ν3++(ν2++(ν1++B)))) Yf).freeze hO.lev hmods;obtain⟨E3,k3,F3,h3⟩:=(h4.boxesEq (μ':=[(wb,qC (dO s pv cv hv lv mv bl bc yc yq) T.w)]++ν3++(ν2++(ν1++B))) Yf).freeze hO.ht hmods;obtain⟨E2,k2,F2,h2⟩:=(h3.boxesEq (μ':=[(wb,qC (dO s pv cv hv lv mv bl bc yc yq) T.w)]++ν2++(ν1++B)) Yf).freeze hO.ct hmods;obtain⟨E1,I,F1,h1⟩:=(h2.boxesEq (μ':=[(wb,qC (dO s pv cv hv lv mv bl bc yc yq) T.w)]++ν1++B) Yf).freeze hO.pl hmods;refine kk E1 pv cv hv lv mv bl bc yc yq (fun D₁ hD₁=>I D₁ (by simp[hD₁])) ⟨nK (R:=RI) (n:=1) (f:=cI) (fun _ _=>rfl) (fun _=>rfl) F1 (by have:=hsm.pl;omega),(nK (R:=RC) (n:=3) (f:=cC) (fun _ _=>rfl) (fun _=>rfl) F2 (by have:=hsm.ct;omega)).up RC.up (I E2 Yf),(nK (R:=AV) (n:=2) (f:=cP) (fun _ _=>rfl) (fun _=>rfl) F3 (by have:=hsm.ht;omega)).up AV.up (I E3 Yf),(nK (R:=RI) (n:=1) (f:=cI) (fun _ _=>rfl) (fun _=>rfl) F4 (by have:=hsm.lev;omega)).up RI.up (I E4 Yf),(nK (R:=UV) (n:=4) (f:=cM) (fun _ _=>rfl) (fun _=>rfl) F5 (by have:=hsm.mks;omega)).up UV.up (I E5 Yf),
  (nK (R:=tZ) (n:=3) (f:=cL) (fun _ _=>rfl) (fun _=>rfl) F6 (by have:=hsm.ln;omega)).up tZ.up (I E6 Yf),hO.cn.up vK.up (I D0 (by simp[O])),(nK (R:=A3) (n:=4) (f:=cH) (fun _ _=>rfl) (fun _=>rfl) F7 (by have:=hsm.ch;omega)).up A3.up (I Z Yf),(nK (R:=R2) (n:=2) (f:=cP) (fun _ _=>rfl) (fun _=>rfl) Y (by have:=hsm.cl;omega)).up R2.up (I V Yf)⟩ a w ?_
 obtain⟨g1,g2,g3,Dx,g4,U,g6⟩:=h1;exact⟨g1,g2,g3,Dx,g4,fun D hD=>by
  rcases LT.1 hD with rfl|hD
  ·exact U _ bMV
  ·exact U D (by simp[hD]),g6⟩
end

def vC(b:Λ):Option Int:=rR b.data.toList
theorem pD(line:Λ):∃p0 ps,eA line=p0::ps:=by
 unfold eA;cases h:pW line.data.toList with
 |nil=>exact absurd h (bBC _)
 |cons p ps=>exact⟨_,_,rfl⟩
theorem P6(line:Λ):(eA line).length≤line.size+1:=by unfold eA;rw[bOB];exact OG _
theorem aOS{line p0 x:Λ}{ps:List Λ}{k:Nat}(h:eA line=p0::ps)(hx:ps[k]?= some x):x.size≤line.size:=by
 have hm:x∈eA line:=by rw[h];exact bMT _ (n5 hx)
 unfold eA at hm;obtain⟨p,hp,rfl⟩:=bMR.1 hm;exact aHM hp
theorem UK:∀ps:List (List UInt8),(ps.map rF).mapM vC=ps.mapM rR
 | []=>rfl
 |p::ps=>by
  rw[bNT,bQM,bQM,UK ps];rfl
theorem uR{line p0:Λ}{ps:List Λ}(h:eA line=p0::ps):jO line=match kX.find? (fun x=>x.1==p0.data.toList)with
  |none=>none
  |some (_,k,act)=>if ps.length=k then(ps.mapM vC).map fun n=>(act,n)else none:=by
 unfold eA at h;unfold jO;cases hc:pW line.data.toList with
 |nil=>rw[hc]at h;cases h
 |cons p qs=>
  rw[hc]at h;simp only[bNT,bPN]at h;obtain⟨rfl,rfl⟩:=h;simp only[bOB];rw[UK];rfl
theorem d9{line p0:Λ}{ps:List Λ}{l:List UInt8}{k:Nat}{act:eH}{ns:List Int}(h:eA line=p0::ps)(hf:kX.find? (fun x=>x.1==p0.data.toList)=some (l,k,act))(hk:ps.length=k)(hn:ps.mapM vC=some ns):jO line=some (act,ns):=by
 rw[uR h,hf];simp only[];rw[bNK hk,hn];rfl
theorem AN:∀{ps:List Λ} {k:Nat} {x:Λ},ps[k]?= some x→vC x=none→ps.mapM vC=none
 | [],_,_,h,_=>by simp at h
 |p::ps,0,x,h,hx=>by
  obtain rfl:p=x:=Yaw
  rw[bQM,hx];rfl
 |p::ps,k+1,x,h,hx=>by
  rw[bQM,AN (k:=k) Yaw hx];cases vC p<;>rfl
theorem aKK{line p0 x:Λ}{ps:List Λ}{k:Nat}(h:eA line=p0::ps)(hx:ps[k]?= some x)(hn:rR x.data.toList=none):jO line=none:=by
 rw[uR h,AN hx hn];split
 ·rfl
 ·split<;>rfl
theorem aKO{ps:List Λ}{x:Λ}{ns:List Int}{m:Int}(h:ps.mapM vC=some ns)(hx:vC x=some m):(ps++[x]).mapM vC=some (ns++[m]):=by
 induction ps generalizing ns with
 |nil=>
  obtain rfl:([]:List Int)=ns:=Yaw
  rw[bOA,bQM,hx];rfl
 |cons p ps ih=>
  rw[bQM]at h;cases hp:vC p with
  |none=>rw[hp]at h;cases h
  |some q=>
   cases hq:ps.mapM vC with
   |none=>rw[hp,hq]at h;cases h
   |some qs=>
    rw[hp,hq]at h;obtain rfl:q::qs=ns:=bNS h;rw[bPF,bQM,hp,ih hq];rfl
theorem SE{ps:List Λ}{k:Nat}{x:Λ}{ns:List Int}{m:Int}(hx:ps[k]?= some x)(h:(ps.take k).mapM vC=some ns)(hm:rR x.data.toList=some m):(ps.take (k+1)).mapM vC=some (ns++[m]):=by
 rw[bMZ,hx];exact aKO h hm
theorem V5:∀{ps:List Λ} {ns:List Int},ps.mapM vC=some ns→∀x∈ns,0≤x∧x≤999
 | [],ns,h=>by
  obtain rfl:([]:List Int)=ns:=Yaw
  intro x hx;cases hx
 |p::ps,ns,h=>by
  rw[bQM]at h;cases hp:vC p with
  |none=>rw[hp]at h;cases h
  |some q=>
   cases hq:ps.mapM vC with
   |none=>rw[hp,hq]at h;cases h
   |some qs=>
    rw[hp,hq]at h;obtain rfl:q::qs=ns:=bNS h;intro x hx;rcases LT.1 hx with rfl|hx
    ·have:=aAF hp;omega
    ·exact V5 hq x hx

def aSB:List (Λ×Γ)→List (List UInt8×Nat×eH)→Prop
 | [],[]=>True
 |(b,v)::T,(l,k,act)::L=>b.data.toList=l∧(∃f,v=.agg #[qI (k:Int),.func (.func f) #[] #[]]∧iH Go.Proofs.Tryz.prog f k act)∧aSB T L
 |_,_=>False
theorem bHQ:aSB OQ kX:=⟨rfl,⟨_,rfl,ZR⟩,⟨rfl,⟨_,rfl,aLU⟩,⟨rfl,⟨_,rfl,YN⟩,⟨rfl,⟨_,rfl,aHE⟩,⟨rfl,⟨_,rfl,NJ⟩,⟨rfl,⟨_,rfl,aAC⟩,⟨rfl,⟨_,rfl,aTQ⟩,⟨rfl,⟨_,rfl,aKH⟩,⟨rfl,⟨_,rfl,aIE⟩,⟨rfl,⟨_,rfl,aBS⟩,⟨rfl,⟨_,rfl,aAD⟩,⟨rfl,⟨_,rfl,aLY⟩,⟨rfl,⟨_,rfl,UH⟩,⟨rfl,⟨_,rfl,aMN⟩,⟨rfl,⟨_,rfl,aBB⟩,⟨rfl,⟨_,rfl,VE⟩,⟨rfl,⟨_,rfl,SA⟩,⟨rfl,⟨_,rfl,WJ⟩,⟨rfl,⟨_,rfl,aLV⟩,⟨rfl,⟨_,rfl,aSS⟩,⟨rfl,⟨_,rfl,YV⟩,⟨rfl,⟨_,rfl,PK⟩,bSM⟩⟩⟩⟩⟩⟩⟩⟩⟩⟩⟩⟩⟩⟩⟩⟩⟩⟩⟩⟩⟩⟩
theorem aHT(a b:Λ):(a==b)=(b.data.toList==a.data.toList):=by
 rw[bPT];constructor
 ·intro h;rw[beq_toListBytes,ByteArray.toList_eq,ByteArray.toList_eq]at h;rw[eq_of_beq h];simp
 ·intro h;rw[beq_toListBytes,ByteArray.toList_eq,ByteArray.toList_eq,eq_of_beq h];simp
theorem RN(p:Λ):∀(T:List (Λ×Γ)) (L:List (List UInt8×Nat×eH)) (i:Nat),aSB T L→(y7 p T i=none∧L.find? (fun x=>x.1==p.data.toList)=none)∨(∃(j k:Nat) (act:eH) (f:FuncId),y7 p T i=some (j,.agg #[qI (k:Int),.func (.func f) #[] #[]])∧L.find? (fun x=>x.1==p.data.toList)=some (p.data.toList,k,act)∧iH Go.Proofs.Tryz.prog f k act)
 | [],[],_,_=>bNI ⟨rfl,rfl⟩
 | [],_::_,_,h=>h.elim
 |_::_,[],_,h=>h.elim
 |(b,v)::T,(l,k,act)::L,i,h=>by
  obtain⟨rfl,⟨f,rfl,hw⟩,hT⟩:=h;unfold y7;rw[List.find?_cons];rw[aHT p b];cases hb:b.data.toList==p.data.toList with
  |true=>
   refine bNC ⟨i,k,act,f,by rw[bNK rfl],?_,hw⟩;simp only[];rw[eq_of_beq hb]
  |false=>
   rw[bNA Yf];exact RN p T L (i+1) hT
theorem aGQ(p:Λ):∃(k:Nat) (c:Γ) (b:Bool),aQU p OQ (.agg #[qI 0,.nilFunc])=.agg #[qI (k:Int),c]∧(y7 p OQ 0).isSome=b∧(b=true→∃act f,kX.find? (fun x=>x.1==p.data.toList)=some (p.data.toList,k,act)∧c=.func (.func f) #[] #[]∧iH Go.Proofs.Tryz.prog f k act)∧(b=false→kX.find? (fun x=>x.1==p.data.toList)=none)∧cell1 c=true:=by
 unfold aQU;rcases RN p _ _ 0 bHQ with⟨h1,h2⟩|⟨j,k,act,f,h1,h2,h3⟩
 ·rw[h1];exact⟨0,.nilFunc,false,rfl,rfl,(fun h=>Xab),fun _=>h2,rfl⟩
 ·rw[h1];exact⟨k,_,true,rfl,rfl,fun _=>⟨act,f,h2,rfl,h3⟩,(fun h=>Xab),rfl⟩
theorem KZ{p l:List UInt8}{k:Nat}{act:eH}{s I:aM}{n:List Int}(h:kX.find? (fun x=>x.1==p)=some (l,k,act))(hk:lY s)(ha:act s n=.ok I):lY I:=ZZ _ (List.mem_of_find?_eq_some h) s n I hk ha
theorem aBP{line p0:Λ}{ps:List Λ}{k:Nat}{c:Γ}{b:Bool}(h:eA line=p0::ps)(hno:b=false→kX.find? (fun x=>x.1==p0.data.toList)=none)(hyes:b=true→∃act f,kX.find? (fun x=>x.1==p0.data.toList)=some (p0.data.toList,k,act)∧c=.func (.func f) #[] #[]∧iH Go.Proofs.Tryz.prog f k act)(hx:b=false∨¬((eA line).length:Int)-1=(k:Int)):jO line=none:=by
 rw[uR h];cases b with
 |false=>rw[hno rfl]
 |true=>
  obtain⟨act,f,hf,_,_⟩:=hyes rfl;rw[hf];simp only[];rw[bNA];intro e;rcases hx with hx|hx
  ·cases hx
  ·refine hx ?_;rw[h,bMX];omega
theorem bAZ{line p0:Λ}{ps:List Λ}{k:Nat}{b:Bool}(h:eA line=p0::ps)(hf:([(!b||decide (((eA line).length:Int)-1≠(k:Int)))].any fun x=>true==x)=false):b=true∧ps.length=k:=by
 have h2:b=true∧((eA line).length:Int)-1=(k:Int):=by simpa using hf
 refine⟨h2.1,?_⟩;have:=h2.2;rw[h,bMX]at this;omega
theorem bDE(q1 I O:Nat)(c2:List Γ)(v3:Γ)(D:aC):KR prog 187 [qP q1,qP I,qP O] D [(O,qC [v3] 44),(I,qC c2 42)] .returning .returning (fun _ ν'=>ν'=[(O,qC [v3] 44),(I,qC c2 42)]):=by
 refine aSA (t:=6) (rv:=.nilIface) 15 func187 rfl rfl rfl rfl rfl (fun c₀ cs hm=>bNC ⟨aVZ hm,rfl,rfl⟩) fun h0 hwl hwn=>Za1<|aA<|YK rfl U20 rfl (Or.inl rfl) rfl bSM<|aF<|Zaf rfl (fun hc1=>?_) fun hc1=>?_
 ·refine aO<|Zf rfl<|Zao<|Za4 ?_;exact eC rfl fun D' hD=>rfl
 ·cases hc1
theorem CT(q1 I O:Nat)(s:aM)(pv cv hv lv mv bl bc yc yq:Γ)(code:Int)(D:aC)(hB:At D q1 0 (dO s pv cv hv lv mv bl bc yc yq))(hL:jR D s pv cv hv lv mv bl bc yc yq):KR prog 187 [qP q1,qP I,qP O] D [(O,qC [qI 0] 44),(I,qC [qN,qN,qI 0,qI 0,qI 0,qN,qI 0,qN,qN,qI 0,qI 0,qI 0,qN,qN,qN,qI 0,qN] 42)] (.panicking (oW (fZ code))) (.panicking [{v:=fZ code,recovered:=true}]) (fun _ ν'=>ν'=[(O,qC [qI code] 44),(I,qC (dO s pv cv hv lv mv bl bc yc yq) 42)]):=by
 refine aSA (t:=6) (rv:=(fZ code)) 15 func187 rfl rfl rfl rfl rfl (fun c₀ cs hm=>bNI (aOZ hm)) fun h0 hwl hwn=>Za1<|aA<|YK rfl U20 rfl (Or.inr ⟨_,_,rfl⟩) rfl bSM<|aF<|Zaf rfl (fun hc1=>?_) fun hc1=>?_
 ·cases hc1
 ·refine aA<|aIP rfl U331 rfl rfl bSM<|Zap rfl<|Zap rfl<|aF<|Zaf rfl (fun hc2=>?_) (fun hc2=>?_)
  ·refine aA<|Zah rfl aCD rfl fun R=>Zab rfl bDH ζ<|aF<|fN hB Yf fun hap=>pF fun hnd=>?_;have U:q1∉[I]:=by simp[aD.ks]at hap ⊢;exact hap.2.2
   have V:R∉[I]:=by simp at hnd ⊢;exact hnd.1.2
   refine aEN [I] 1 [0,1,2,3,4] [false,true,true,true,false] [(false,0),(true,1),(true,2),(true,3),(false,4)] bB (fun _ _ _ _ he h=>aFN (P:=prog) (fn:=f187) _ _ _ _ he h) Yg rfl<|cK rfl kC rfl hB Yc eD Yl rfl bSM<|Zj rfl aIL rfl<|bD rfl tC rfl Mm0 rfl Yl rfl bSM<|mZ rfl rfl rfl rfl eD (.tail (.tail ζ)) Yf rfl (eU hL) (Or.inr Yf) bSM<|Zr rfl tE (.tail ζ) rfl<|Zao<|Za4 ?_;exact H8 (A:=[_]) (ν':=[_,_]) (B:=[]) (vs:=[]) rfl rfl rfl bSM fun D' hD=>rfl
  ·cases hc2
theorem bFC(sv:Γ)(s:aM)(line:Λ)(D:aC)(hs:gG D sv s)(hk0:lY s)(hl:line.size≤1000)(hV:oD D):Fn prog 96 #[sv,.string line] D (fun D' v=>∃v1,v=.tuple #[v1,qI (pO s line).2]∧gG D' v1 (pO s line).1):=by
 have U:=hs;obtain⟨pv,cv,hv,lv,mv,bl,bc,yc,yq,rfl,hL⟩:=hs;have hsm:=hk0.small;unfold dO;obtain⟨p0,ps,hcut⟩:=pD line;obtain⟨wk,wc,wis,hval,his,hyes,hno,hwc⟩:=aGQ p0;have hps:ps.length≤1001:=by have:=P6 line;rw[hcut]at this;simp only[bMX]at this;omega
 have hp0:(eA line)[0]?= some p0:=by rw[hcut];rfl
 have hcl:(eA line).length≤1001:=by have:=P6 line;omega
 refine bHX 75 func96 rfl rfl rfl rfl fun h0=>aA<|Zz rfl fun q1 E1 hE1 V=>Zah rfl rD rfl fun I=>Zah rfl RD rfl fun O=>aJ<|Zay rfl<|bEW (c1:=[]) (c2:=[qP q1,qP I,qP O]) rfl rfl rfl bSM<|aJ<|Za rfl<|Zy rfl (fun D1 hD1=>aRH line hl _ (hV.up (hD1 _ Yf))) fun v1 D1 hD1 hp1=>?_
 obtain⟨pa,pc,rfl⟩:=hp1.shape;have hPS:=hp1;refine Zf rfl<|bO<|aGL<|oS [] 5 [true,false,false,false,false,false,false,false,true,false,false] [.fork [1,2,3] 0 (.fin [4,5,6,7,8]) 8 (.fin [0,4,5,6,7]),.fin [9,10]] bB bJA Yg<|HU (γ:=Nat) (fun g=>True) (fun g=>[(24,.agg #[qI (wk:Int),wc]),(25,.bool wis),(7,qP g),(6,.slice pa (eA line).length pc),(4,qP I),(5,qP O),(2,qP q1)]) (fun g=>[(g,qC [qI 0,.nilFunc] 335),(O,qC [qI 0] 44),(I,qC [qN,qN,qI 0,qI 0,qI 0,qN,qI 0,qN,qN,qI 0,qI 0,qI 0,qN,qN,qN,qI 0,qN] 42)]) (fun g=>[D1,E1,D]) [.fork [1,2,3] 0 (.fin [4,5,6,7,8]) 8 (.fin [0,4,5,6,7])] [.fin [9,10]] rfl ?_ ?_
 ·refine tI<|bQ [(false,1),(false,2),(false,3)] rfl<|Za rfl<|Zx rfl U22 fU rfl hPS rfl hp0 fun b1 o1 cs1 hr1 hcl1 hA1=>?_;obtain rfl:cs1=[.string _]:=hr1;refine Zh 0 rfl sZ rfl hA1 rfl<|Zao (dZ true true rfl rfl ?_ ?_)
  ·refine fX rfl rfl rfl (fun D6 hD6=>TB _) rfl bSM fun wv D7 νm hD7 hm=>?_;obtain⟨bm,es,cl,rfl,rfl,hM⟩:=hm;refine Zao<|aW [(false,4),(false,5),(false,6),(false,7),(true,8)] rfl<|BX (b:=bm) rfl U337 U9 fM rfl rfl Mm0 n4 hM rfl bSM ?_;rw[hval,his];refine Za rfl<|Zap rfl<|Zap rfl<|Zah rfl fM rfl fun q4=>Zao ?_;exact fun a w hh=>⟨q4,bSM,hh.weak cF (.cons_cons _ (.cons _ (.cons_cons _ (.cons_cons _ (.refl _))))) fun D hD=>⟨D,Xdh,Le.refl D⟩⟩
  ·refine Zah rfl fM rfl fun q4=>Zao<|aW [(true,0),(false,4),(false,5),(false,6),(false,7)] rfl<|fX rfl rfl rfl (fun D6 hD6=>TB _) rfl bSM fun wv D7 νm hD7 hm=>?_;obtain⟨bm,es,cl,rfl,rfl,hM⟩:=hm;refine BX (b:=bm) rfl U337 U9 fM rfl rfl Mm0 n4 hM rfl bSM ?_;rw[hval,his];refine Za rfl<|Zap rfl<|Zap rfl<|Zao ?_;exact fun a w hh=>⟨q4,bSM,hh.weak cF (.cons _ (.cons_cons _ (.cons_cons _ (.cons_cons _ (.refl _))))) fun D hD=>⟨D,Xdh,Le.refl D⟩⟩
 rintro qx -;dsimp only;refine mS [(false,9),(false,10)] rfl<|Zac rfl bBE ζ (by intro u hu;simp only[LT,n4,bOZ]at hu;rcases hu with rfl|rfl;rfl;exact hwc)<|Zf rfl<|Zao<|oL<|bDY<|aA<|Za rfl<|Wbg ?_
 refine' dL 7 (s:=28) (p:=35) rfl (fun hg1=>?_) (fun hg1=>?_) ?_;rotate_left
 ·refine Zb rfl<|eE rfl U22 rfl hPS rfl rfl ⟨_,rfl,rfl⟩<|yP rfl rfl rfl Ye rfl ⟨_,rfl,rfl⟩<|Zk rfl aGO rfl<|Zq rfl aI rfl Mm0 rfl<|LB rfl rfl rfl rfl ⟨_,rfl,rfl⟩<|Zal rfl ?_;exact aN 6
 ·refine Zg rfl<|Zg rfl<|Wf ?_;exact aN 6
 refine Zt rfl U401 mG pV rfl (.cons rfl rfl .nil) fun b901 D901 hD901 hK=>p6 (A:=[]) (ν:=[]) (B:=[(_,_),(_,_),(_,_)]) rfl rfl rfl rfl (bNI rfl) Yi (fun D30 Y=>gD 4 [(!wis||decide (((eA line).length:Int)-1≠(wk:Int)))] _ _ ((iP (l:=[(!wis||decide (((eA line).length:Int)-1≠(wk:Int)))]) (fun _ _ _ h=>h) hK Yf).up RB.up (Y _ Yf))) rfl bSM (fun v30 D31 Y Z a w hh=>?_) fun v30 D31 ν30 Y Z=>?_
 ·obtain⟨hx30,rfl⟩:=Z;exact OA (X:=Cx.push ⟨none,75,[],h0,h0.size,D,[],none⟩ ⟨.fn (.func 187) [qP q1,qP I,qP O].toArray,[].toArray⟩) (P:=prog) (fn:=f96) (f:=187) (c1:=[]) (c2:=[qP q1,qP I,qP O]) (A:=[]) (ν:=[(O,_),(I,_)]) (B:=[]) (rs:=[.cell 4 42,.cell 5 44]) Ybb Ybb (fun p hp=>Xbn) (fun D hD=>CT q1 I O s pv cv hv lv mv bl bc yc yq _ D (V.up (hD _ Yf)) (hL.up (hD _ Yf))) rfl (fun D ν' hD hq=>by subst hq;exact⟨[_,_],⟨⟨_,_,_,rfl,.tail _ (.head _),bNC ⟨kC,eD,rfl⟩⟩,⟨_,_,_,rfl,.head _,bNI ⟨tC,rfl⟩⟩,bSM⟩,m1 (QX (aBP hcut hno hyes (by simpa using hx30))) (U.up (hD _ Yf))⟩) a w (hh.subB (.cons _ (.refl _)))
 obtain⟨hf30,rfl⟩:=Z;obtain⟨hwis,hlen⟩:=bAZ hcut hf30;obtain⟨act,wf,hfind,rfl,hword⟩:=hyes hwis;refine aJ<|Zf rfl<|bC<|Za rfl<|R4 (j:=1) rfl U22 fU rfl hPS rfl (by rw[hcut];simp) rfl bSM fun ta hT=>?_
 rw[hcut]at hT ⊢
 simp only[bRY,bQQ]at hT;rw[show(p0::ps).length-1=ps.length by simp]at hT ⊢
 refine Zai rfl U22 rfl hT rfl<|Za rfl<|aF<|Za1<|Zc (Nat×Γ×aD×List Int) (fun g=>ps.length-g.1) (fun g=>g.1≤ps.length∧(ps.take g.1).mapM vC=some g.2.2.2∧g.2.2.2.length=g.1∧bI 3 1 g.2.1 g.1 (ints g.2.2.2) g.2.2.1) (fun g=>[(41,qI (g.1:Int)),(9,g.2.1)]) [(40,_),(39,_),(7,_),(4,_),(5,_),(2,_)] (fun g=>g.2.2.1++[(qx,qC [qI (wk:Int),.func (.func wf) #[] #[]] 335),(O,qC [qI 0] 44),(I,qC [qN,qN,qI 0,qI 0,qI 0,qN,qI 0,qN,qN,qI 0,qI 0,qI 0,qN,qN,qN,qI 0,qN] 42)]) (fun g=>[D31,D901,D1,E1,D]) (0,qN,[],[]) ⟨Yf,rfl,rfl,Xap⟩ ⟨Ya,Ya,bSM⟩ Mm5 ?_;rintro⟨k,v,ν,ns⟩ ⟨h1,h2,h3,ha⟩;simp only at h1 h2 h3 ha;refine aA<|Zan rfl<|bO<|Zae rfl (fun hc1=>?_) fun hc1=>?_
 ·simp only at hc1;have hk:k<ps.length:=Yd
  obtain⟨x,hx⟩:=cT ps k;have hsz:x.size≤1000:=bPD (aOS hcut hx) hl;refine aQ<|Za3<|Za1<|aA<|Zx rfl U22 fU rfl hT rfl hx fun b2 o2 cs2 hr2 hcl2 hA2=>?_;obtain rfl:cs2=[.string _]:=hr2;refine Zh 0 rfl sZ rfl hA2 rfl<|Zf rfl<|aJ<|Za rfl<|Zy rfl (fun D2 hD2=>aIR x hsz _ (hV.up (hD2 _ Yf))) fun v2 D2 hD2 hp2=>?_;obtain⟨m,nb,rfl,hm1,hm2⟩:=hp2;refine Za rfl<|Zap rfl<|Zap rfl<|Zf rfl<|Zf rfl<|aJ<|Za rfl<|Zat rfl<|Zt rfl U401 mG pV rfl (.cons rfl rfl .nil) fun b902 D902 hD902 hN=>p6 (A:=[]) (ν:=[]) (B:=_) rfl rfl rfl rfl (bNI rfl) Yi (fun D40 hB=>gD 4 [!nb] _ _ ((iP (l:=[!nb]) (fun _ _ _ h=>h) hN Yf).up RB.up (hB _ Yf))) rfl bSM (fun v40 D41 hB hE a w hh=>?_) fun v40 D41 ν40 hB hE=>?_
  ·obtain⟨hx40,rfl⟩:=hE;exact OA (X:=Cx.push ⟨none,75,[],h0,h0.size,D,[],none⟩ ⟨.fn (.func 187) [qP q1,qP I,qP O].toArray,[].toArray⟩) (P:=prog) (fn:=f96) (f:=187) (c1:=[]) (c2:=[qP q1,qP I,qP O]) (A:=[]) (ν:=[(O,_),(I,_)]) (B:=[]) (rs:=[.cell 4 42,.cell 5 44]) Ybb Ybb (fun p hp=>Xbn) (fun D hD=>CT q1 I O s pv cv hv lv mv bl bc yc yq _ D (V.up (hD _ Yf)) (hL.up (hD _ Yf))) rfl (fun D ν' hD hq=>by subst hq;exact⟨[_,_],⟨⟨_,_,_,rfl,.tail _ (.head _),bNC ⟨kC,eD,rfl⟩⟩,⟨_,_,_,rfl,.head _,bNI ⟨tC,rfl⟩⟩,bSM⟩,m1 (QX (aKK hcut hx (hm2 (by simpa using hx40)))) (U.up (hD _ Yf))⟩) a w (hh.subB (.trans (.cons _ (.refl _)) (List.sublist_append_right _ _)))
  obtain⟨hf40,rfl⟩:=hE;have hnb:=hm1 (by simpa using hf40);refine aF<|aO<|Za rfl<|Za rfl<|Zt rfl U25 aH cE rfl (.cons rfl rfl .nil) fun b903 D903 hD903 hF=>?_;have hS903:=Sl.ofInts (l:=[_]) (n:=1) (cap:=1) hF rfl Yd Yd;refine aS (A:=[]) (B:=[(_,_),(_,_),(_,_)]) rfl U25 rfl rfl aH cE rfl kD rfl rfl rfl ha (jY.lit hF) Yf rfl (by simp[ints,h3]) Yk Yd (bNI rfl) rfl bSM fun v1 ν1 ha1=>?_;have ha2:bI 3 1 v1 (k+1) (ints (ns++[m])) ν1:=by rw[←eV];exact ha1
  refine Wan ?_;exact aL 24 (k+1,v1,ν1,ns++[m]) ⟨Yn,SE hx h2 hnb,by simp[h3],ha2⟩ Yn ⟨Ya,Ya,bSM⟩ rfl rfl Mm5 fun D h=>⟨D,bNM _ (bNM _ (bNM _ (bNM _ (h)))),Le.refl D⟩
 ·obtain rfl:k=ps.length:=by simp only at hc1;omega
  rw[bNR]at h2;refine Za6<|Za2<|Za2<|Za7<|Zaz<|Za3<|sN (A:=[]) (B:=[(_,_),(_,_),(_,_)]) ha rfl fun D8 hD8 hF8=>?_;have hnS:=hF8.ints (l:=ns) h3 (by have:=hps;omega)
  refine aO<|Zv rfl kC rfl V eD<|fX rfl rfl rfl (fun D20 hD20=>CK _ s _ (U.up (hD20 _ Yf)) hsm) rfl bSM fun wv D21 νW hD21 hw=>?_;obtain⟨wb,rfl,hO⟩:∃wb,wv=qP wb∧pQ bLV D21 wb s νW:=by
   obtain⟨wb,pv,cv,hv,lv,mv,bl,bc,yc,yq,ν1,ν2,ν3,ν4,ν5,ν6,ν7,ν8,h1,h2,h3⟩:=hw;exact⟨wb,h1,pv,cv,hv,lv,mv,bl,bc,yc,yq,ν1,ν2,ν3,ν4,ν5,ν6,ν7,ν8,h2,h3⟩
  refine Zf rfl<|aJ<|Zj rfl aIG rfl<|Zp rfl bDL rfl (GE _ Mm0) rfl<|Za rfl<|Za rfl<|Zm [] [(_,_),(_,_),(_,_)] νW rfl (Z5 hO) (fun D50 R=>hword wb s _ ns νW _ (hnS.up RI.up (R _ Yf)) Yd (V5 h2) (hO.up (R _ Yf)) hsm) (fun v50 D51 R hH a w hh=>?_) fun v50 D51 ν50 R hH=>?_
  ·obtain⟨c50,hx50,rfl⟩:=hH;exact OA (X:=Cx.push ⟨none,75,[],h0,h0.size,D,[],none⟩ ⟨.fn (.func 187) [qP q1,qP I,qP O].toArray,[].toArray⟩) (P:=prog) (fn:=f96) (f:=187) (c1:=[]) (c2:=[qP q1,qP I,qP O]) (A:=[]) (ν:=[(O,_),(I,_)]) (B:=[]) (rs:=[.cell 4 42,.cell 5 44]) Ybb Ybb (fun p hp=>Xbn) (fun D hD=>CT q1 I O s pv cv hv lv mv bl bc yc yq _ D (V.up (hD _ Yf)) (hL.up (hD _ Yf))) rfl (fun D ν' hD hq=>by subst hq;exact⟨[_,_],⟨⟨_,_,_,rfl,.tail _ (.head _),bNC ⟨kC,eD,rfl⟩⟩,⟨_,_,_,rfl,.head _,bNI ⟨tC,rfl⟩⟩,bSM⟩,m1 (aNN (d9 hcut hfind hlen h2) hx50) (U.up (hD _ Yf))⟩) a w (hh.subB (.cons _ (.refl _)))
  obtain⟨s2,hact,hO2⟩:=hH;refine bO ?_;have hsm2:O7 s2:=(KZ hfind hk0 hact).small;refine BE (B:=[(_,_),(_,_),(_,_)]) hO2 rfl Yf hsm2 fun D9 hP hR hS hX hY rA rB yc2 yq2 hD9 hL2=>?_;unfold dO;refine aO<|Za rfl<|Zam rfl<|Zj rfl aY rfl<|Zag rfl kC rfl Mm0 eD<|p6 (A:=[]) (ν:=[]) (B:=[(_,_),(_,_),(_,_),(_,_)]) rfl rfl rfl rfl (bNI rfl) Yi (fun D60 hI=>aOF _ s2 _ ⟨hP,hR,hS,hX,hY,rA,rB,yc2,yq2,rfl,hL2.up (hI _ Yf)⟩) rfl bSM (fun v60 D61 hI hJ a w hh=>?_) fun v60 D61 ν60 hI hJ=>?_
  ·obtain⟨hx60,rfl⟩:=hJ;exact OA (X:=Cx.push ⟨none,75,[],h0,h0.size,D,[],none⟩ ⟨.fn (.func 187) [qP q1,qP I,qP O].toArray,[].toArray⟩) (P:=prog) (fn:=f96) (f:=187) (c1:=[]) (c2:=[qP q1,qP I,qP O]) (A:=[]) (ν:=[(O,_),(I,_)]) (B:=[]) (rs:=[.cell 4 42,.cell 5 44]) Ybb Ybb (fun p hp=>Xbn) (fun D hD=>CT q1 I O s pv cv hv lv mv bl bc yc yq _ D (V.up (hD _ Yf)) (hL.up (hD _ Yf))) rfl (fun D ν' hD hq=>by subst hq;exact⟨[_,_],⟨⟨_,_,_,rfl,.tail _ (.head _),bNC ⟨kC,eD,rfl⟩⟩,⟨_,_,_,rfl,.head _,bNI ⟨tC,rfl⟩⟩,bSM⟩,m1 (aOT (d9 hcut hfind hlen h2) hact hx60) (U.up (hD _ Yf))⟩) a w (hh.subB (.cons _ (.cons _ (.refl _))))
  obtain⟨hf60,rfl⟩:=hJ;refine aJ<|Za rfl<|Zam rfl<|Zj rfl aY rfl<|Zag rfl kC rfl Mm0 eD<|Zac rfl eD (.tail (.tail (.tail ζ))) (eU hL2)<|Zr rfl tE (.tail (.tail ζ)) rfl<|aG<|bFZ (X:=Cx.push ⟨none,75,[],h0,h0.size,D,[],none⟩ ⟨.fn (.func 187) [qP q1,qP I,qP O].toArray,[].toArray⟩) (P:=prog) (fn:=f96) (f:=187) (e:=.ret) (c1:=[]) (c2:=[qP q1,qP I,qP O]) (A:=[(_,_),(_,_)]) (ν:=[(O,qC [qI 0] 44),(I,qC (dO s2 hP hR hS hX hY rA rB yc2 yq2) 42)]) (B:=[]) (rs:=[.cell 4 42,.cell 5 44]) Ybb Ybb Ybb (fun p hp=>Xbn) (fun D hD=>bDE q1 I O _ _ D) rfl ?_
  intro D ν' hD hq;subst hq;exact⟨[_,_],⟨⟨_,_,_,rfl,.tail _ (.tail _ (.tail _ (.head _))),bNC ⟨kC,eD,rfl⟩⟩,⟨_,_,_,rfl,.tail _ (.tail _ (.head _)),bNI ⟨tC,rfl⟩⟩,bSM⟩,S2 (aEX (d9 hcut hfind hlen h2) hact hf60) ⟨hP,hR,hS,hX,hY,rA,rB,yc2,yq2,rfl,hL2.up (hD D9 Yf)⟩⟩
def gK(ls:List Λ):aM×List Int:=ls.foldl (fun p l=>((pO p.1 l).1,p.2++[(pO p.1 l).2])) (vN,[])
theorem DV{ls:List Λ}{k:Nat}{x:Λ}(h:ls[k]?= some x):gK (ls.take (k+1))=((pO (gK (ls.take k)).1 x).1,(gK (ls.take k)).2++[(pO (gK (ls.take k)).1 x).2]):=by
 unfold gK;rw[bMZ,h,bOR];rfl
theorem FA{line:Λ}{act:eH}{n:List Int}{s I:aM}(h:jO line=some (act,n))(hk:lY s)(ha:act s n=.ok I):lY I:=by
 unfold jO at h;split at h
 ·cases h
 ·split at h
  ·cases h
  ·rename_i l k act' hf;split at h
   ·obtain⟨m,_,hm⟩:=bQD.1 h;cases hm;exact KZ hf hk ha
   ·cases h
theorem OY{s:aM}(hk:lY s)(line:Λ):lY (pO s line).1:=by
 unfold pO;split
 ·exact hk
 ·rename_i act n h;split
  ·exact hk
  ·rename_i s' ha;split
   ·exact FA h hk ha
   ·exact hk
theorem V3:lY vN:=⟨Yt,Yt,Yt,Yt,Yt,Yt,Yt,Yt,Yt⟩
theorem aYA{q:Nat}{o:Obj}{ν B:aD}(h:(aD.ks ((q,o)::(ν++B))).Nodup):∀p∈ν,p.1∉[q]:=by
 intro p hp hm;obtain rfl:p.1=q:=Xas
 exact(bOT.1 h).1 (bMR.2 ⟨p,bNE _ hp,rfl⟩)
structure bEZ where
 (k:Nat) (s:aM) (es:List Int) (pv cv hv lv mv bl bc yc yq v:Γ) (ν:aD) (Dn:aC)
theorem aFG(lv:Γ)(ls:List Λ)(D:aC)(hS:Sl D RS 1 lv ls)(hn:ls.length≤1000)(hsz:∀l∈ls,l.size≤1000)(hV:oD D):Fn prog 38 #[lv] D (fun D' v=>∃v1 v2,v=.tuple #[v1,v2]∧gG D' v1 (gK ls).1∧Sl D' RI 1 v2 (gK ls).2):=by
 refine Zw 31 func38 rfl fun h0=>aA<|Zah rfl rD rfl fun q1=>Zf rfl<|aJ<|Zy rfl (fun D1 Y=>yF _) fun v1 D1 Y Z=>?_;obtain⟨pv,cv,hv,O,mv,bl,bc,yc,yq,rfl,hL⟩:=Z;unfold dO;refine Zah rfl rD rfl (fun q2=>Zac rfl eD ζ (eU hL)<|aJ<|Zf rfl<|bC<|Za rfl<|eE rfl U22 rfl Ym rfl rfl bSM<|Za rfl<|aF<|Za1<|gT (γ:=bEZ) (fun g=>ls.length-g.k) (fun g=>g.k≤ls.length∧gK (ls.take g.k)=(g.s,g.es)∧g.es.length=g.k∧bI 44 1 g.v g.k (ints g.es) g.ν∧jR g.Dn g.s g.pv g.cv g.hv g.lv g.mv g.bl g.bc g.yc g.yq∧lY g.s) (fun g=>[(13,qI (g.k:Int)),(5,g.v)]) [(12,_),(11,_),(4,_),(3,_),(2,_)] (fun g=>g.ν++[(q2,qC (dO g.s g.pv g.cv g.hv g.lv g.mv g.bl g.bc g.yc g.yq) 42),(q1,qC [qN,qN,qI 0,qI 0,qI 0,qN,qI 0,qN,qN,qI 0,qI 0,qI 0,qN,qN,qN,qI 0,qN] 42)]) (fun g=>[g.Dn,D]) ⟨0,vN,[],pv,cv,hv,O,mv,bl,bc,yc,yq,qN,[],D1⟩ ⟨Yf,by simp[gK],rfl,Xap,hL,V3⟩ ⟨Ya,Ya,bSM⟩ cF Mm5 (Yo) ?_);rintro⟨k,s,es,pv,cv,hv,lv,mv,bl,bc,yc,yq,v,ν,Dn⟩ ⟨h1,hp,h3,ha,hL,hk⟩;simp only at h1 hp h3 ha hL hk;refine aA<|Zan rfl<|bO<|Zae rfl (fun hc1=>?_) fun hc1=>?_
 ·simp only at hc1;have hlt:k<ls.length:=Yd
  obtain⟨x,hx⟩:=cT ls k;refine aQ<|Za3<|Za1<|aA<|Zx rfl U22 fU rfl (hS.up RS.up (Le.refl _)) rfl hx fun b1 o1 hB hE hcl1 hF=>?_;obtain rfl:hB=[.string _]:=hE;refine Zh 0 rfl sZ rfl hF rfl<|Zf rfl<|aJ<|Zag rfl kC rfl (GE _ Mm0) eD<|Za rfl<|Zy rfl (fun D2 R=>bFC _ s x _ ⟨pv,cv,hv,lv,mv,bl,bc,yc,yq,rfl,hL.up (R _ Yf)⟩ hk (hsz x (n5 hx)) (hV.up (R _ Yf))) fun v2 D2 R hH=>?_;obtain⟨w1,rfl,hI,hJ,hK,O,hN,hO,hP,hR,hX,rfl,U⟩:=hH;have hY:=OY hk x;unfold dO;refine Za rfl<|Zap rfl<|Zap rfl<|Zah rfl rD rfl fun V=>Zac rfl eD ζ (eU U)<|Zf rfl<|aF<|pF fun hnd=>?_;have hnu:∀p∈ν,p.1∉[V]:=aYA hnd;have hq3:V∉cZ.mk [V]:=cZ.out Yf;refine bN (cZ.mk [V]) 3 7 30<|bL rfl kC rfl Mm0 eD Yl rfl bSM<|Za rfl<|Za rfl<|Zt rfl U43 tE RD rfl (.cons rfl rfl .nil) fun b901 D901 rA I=>?_;have rB:=Sl.ofInts (l:=[_]) (n:=1) (cap:=1) I rfl Yd Yd;refine aS (A:=[(_,_)]) (B:=[(_,_),(_,_)]) rfl U43 rfl rfl tE RD rfl bGQ rfl rfl rfl ha (jY.lit I) Yf rfl (by simp[ints,h3]) Yk Yd (bNC fun p hp=>cZ.in_ (hnu p hp)) rfl bSM fun v1 ν1 ha1=>?_;have ha2:bI 44 1 v1 (k+1) (ints (es++[(pO s x).2])) ν1:=by rw[←eV];exact ha1
  refine aV ((V,_)::(ν1++[(q2,_),(q1,_)])) rfl<|Zac rfl eD (.tail (.app ζ)) (eU U)<|Wan ?_;exact aL 22 ⟨k+1,(pO s x).1,es++[(pO s x).2],hI,hJ,hK,O,hN,hO,hP,hR,hX,v1,ν1,D2⟩ ⟨Yn,by simp only;rw[DV hx,hp],by simp[h3],ha2,U,hY⟩ Yn ⟨Ya,Ya,bSM⟩ rfl rfl (List.Sublist.cons _ Mm5) (Yo)
 ·obtain rfl:k=ls.length:=by simp only at hc1;omega
  rw[bNR]at hp;refine Za6<|Za2<|Za2<|Za7<|Zaz<|aA<|Zag rfl kC rfl (GE _ Mm0) eD<|Za rfl<|Zac rfl eD (.app (.tail ζ)) (eU hL)<|Zf rfl<|aG<|dS (A:=[]) (B:=[(_,_),(_,_)]) ha rfl fun D9 hD9 hF9=>?_;have hes:=hF9.ints (l:=es) h3 Yd;exact Zo [_,_] rfl ⟨⟨_,_,_,rfl,bNM _ Mm0,bNC ⟨kC,eD,rfl⟩⟩,rfl,bSM⟩ fun D hD=>⟨_,_,rfl,Xdi,by rw[hp];exact hes.up RI.up (hD _ Yf)⟩
def aPE:aM:=⟨{places:=[],counts:=[],wrong:=0,off:=0},{last:=0,heights:=[],step:=0,levels:=[],marks:=[]},{chairs:=0,coin:=0,box:=0,lines:=[],counts:=[]},{chairs:=[],fit:=0,claims:=[]}⟩
def aR(ls:List Λ):aM×List Int×Int:=if eG ls=0 then((gK ls).1,(gK ls).2,0)else(aPE,[],eG ls)
theorem uS{ls:List Λ}(h:eG ls=0):aR ls=((gK ls).1,(gK ls).2,0):=bNK h
theorem yY{ls:List Λ}(h:eG ls≠0):aR ls=(aPE,[],eG ls):=bNA h
theorem LS{ls:List Λ}(h:eG ls=0):ls.length≤40∧∀l∈ls,l.size≤50:=by
 unfold eG at h;split at h
 ·cases h
 ·rename_i h2;simp only[bNZ,GT,bPQ,bSF,Bool.not_eq_false,bNQ]at h2;refine⟨Yd,fun l hl=>?_⟩;have:=h2.2 l hl;omega
theorem y3{ls:List Λ}(h:eG ls=0):ls.length≤40:=(LS h).1
theorem n9{ls:List Λ}(h:eG ls=0):∀l∈ls,l.size≤50:=(LS h).2
theorem aZP(D:aC):gG D (.agg #[qN,qN,qI 0,qI 0,qI 0,qN,qI 0,qN,qN,qI 0,qI 0,qI 0,qN,qN,qN,qI 0,qN]) aPE:=⟨_,_,_,_,_,_,_,_,_,rfl,⟨Sl.nil,Sl.nil,Sl.nil,Sl.nil,Sl.nil,Sl.nil,Sl.nil,Sl.nil,Sl.nil⟩⟩
theorem l3(ls:List Λ):lY (gK ls).1:=by
 have:∀(ls:List Λ) (p:aM×List Int),lY p.1→lY (ls.foldl (fun p l=>((pO p.1 l).1,p.2++[(pO p.1 l).2])) p).1:=by
  intro ls;induction ls with
  |nil=>exact fun p h=>h
  |cons l ls ih=>exact fun p h=>ih _ (OY h l)
 exact this ls _ V3
theorem VM(ls:List Λ)(h:(aR ls).2.2=0):lY (aR ls).1:=by
 by_cases hf:eG ls=0
 ·rw[uS hf];exact l3 ls
 ·rw[yY hf]at h;exact absurd h hf
theorem FJ(ls:List Λ):(aR ls).1.row.places.length≤7:=by
 by_cases hf:eG ls=0
 ·rw[uS hf];exact(l3 ls).pl
 ·rw[yY hf];exact bRC _
theorem HX(ls:List Λ):(aR ls).1.book.lines.length≤8:=by
 by_cases hf:eG ls=0
 ·rw[uS hf];exact(l3 ls).ln
 ·rw[yY hf];exact bRC _
def DU(ls:List Λ):(Int×Int)×Int:=if(aR ls).2.2=0 then(if C3.N1 (aR ls).1.book (C1.hC ((aR ls).1.book.lines.length:Int) 0 ((aR ls).1.book.lines.length:Int))=0 then L3.UJ (fun s=>s.money) (aR ls).1.book (((aR ls).1.book.lines.length:Int)).toNat else(0,0),C3.N1 (aR ls).1.book (C1.hC ((aR ls).1.book.lines.length:Int) 0 ((aR ls).1.book.lines.length:Int)))else((0,0),(aR ls).2.2)
def p8(ls:List Λ):(Int×Int)×Int:=if(aR ls).2.2=0 then(if C1.eM (aR ls).1.row (C1.vG (aR ls).1.row 0 (((aR ls).1.row.places.length:Int)-1))=0 then(C1.aPX (C1.truths (aR ls).1.row) (0:Int).toNat (((aR ls).1.row.places.length:Int)-1).toNat,C1.aSR (C1.truths (aR ls).1.row) (0:Int).toNat (((aR ls).1.row.places.length:Int)-1).toNat)else(0,0),C1.eM (aR ls).1.row (C1.vG (aR ls).1.row 0 (((aR ls).1.row.places.length:Int)-1)))else((0,0),(aR ls).2.2)
theorem DK(lv:Γ)(ls:List Λ)(D:aC)(hS:Sl D RS 1 lv ls)(hV:oD D):Fn prog 11 #[lv] D (fun D' v=>∃v1 v2,v=.tuple #[v1,v2,qI (aR ls).2.2]∧gG D' v1 (aR ls).1∧Sl D' RI 1 v2 (aR ls).2.1):=by
 refine Zw 19 func11 rfl fun h0=>aA<|Zah rfl rD rfl fun q1=>Zf rfl<|Zf rfl<|bC<|Za rfl<|Zd rfl (fun V O=>vR _ ls _ (hS.up RS.up (O _ Yf)))<|Waz ?_;refine aF<|Zae rfl (fun hc1=>?_) fun hc1=>?_
 ·have hf:eG ls≠0:=Xaa
  refine aA<|jM (cs:=[qN,qN,qI 0,qI 0,qI 0,qN,qI 0,qN,qN,qI 0,qI 0,qI 0,qN,qN,qN,qI 0,qN]) rfl bGX rD rfl Yg rfl bSM<|Za rfl<|eF rfl rfl rfl rfl eD Yb Yb ζ Yk bSM<|Zf rfl<|Wg ?_;exact Zo [_,_,_] rfl ⟨⟨_,_,_,rfl,Mm0,Or.inr ⟨kC,eD,rfl⟩⟩,rfl,rfl,bSM⟩ fun D hD=>⟨_,_,by rw[yY hf];rfl,by rw[yY hf];exact aZP D,by rw[yY hf];exact Sl.nil⟩
 ·have hf:eG ls=0:=Xaa
  refine aQ<|aA<|Za rfl<|Zy rfl (fun U I=>aFG _ ls _ (hS.up RS.up (I _ Yf)) (by have:=y3 hf;omega) (fun l hl=>by have:=n9 hf l hl;omega) (hV.up (I _ Yf))) fun v2 U I R=>?_;obtain⟨Y,Z,rfl,⟨pv,cv,hv,lv,mv,bl,bc,yc,yq,rfl,hL⟩,hes⟩:=R;unfold dO;refine Za rfl<|Zap rfl<|Zap rfl<|Zac rfl eD ζ (eU hL)<|Zf rfl<|aJ<|Zag rfl kC rfl Mm0 eD<|Za rfl<|Zac rfl eD ζ (eU hL)<|Wcd ?_;exact Zo [_,_,_] rfl ⟨⟨_,_,_,rfl,Mm0,Or.inr ⟨kC,eD,rfl⟩⟩,rfl,rfl,bSM⟩ fun D hD=>⟨_,_,by rw[uS hf]<;>rfl,by rw[uS hf];exact⟨pv,cv,hv,lv,mv,bl,bc,yc,yq,rfl,hL.up (hD _ Yf)⟩,by rw[uS hf];exact hes.up RI.up (hD _ Yf)⟩
theorem FK(rv:Γ)(r:C1.dH)(i j:Int)(D:aC)(hr:oG D rv r):Fn prog 50 #[rv,qI i,qI j] D (fun _ v=>v=.tuple #[mH (if C1.eM r (C1.vG r i j)=0 then(C1.aPX (C1.truths r) i.toNat j.toNat,C1.aSR (C1.truths r) i.toNat j.toNat)else(0,0)),qI (C1.eM r (C1.vG r i j))]):=
 (L1.w0 rv r i j D hr).mono fun D' v _ h=>by rw[h];split<;>rfl
theorem o6(lv:Γ)(ls:List Λ)(D:aC)(hS:Sl D RS 1 lv ls)(hV:oD D):Fn prog 18 #[lv] D (fun _ v=>v=.tuple #[mH (DU ls).1,qI (DU ls).2]):=by
 refine Zw 26 func18 rfl fun h0=>aA<|Zah rfl pC rfl fun q1=>Zf rfl<|aJ<|Za rfl<|Zy rfl (fun Y I=>DK _ ls _ (hS.up RS.up (I _ Yf)) (hV.up (I _ Yf))) fun v1 Y I O=>?_;obtain⟨Z,w2,rfl,⟨pv,cv,hv,lv,mv,bl,bc,yc,yq,rfl,hL⟩,hes⟩:=O;unfold dO;have hst:(aR ls).2.2=0→lY (aR ls).1:=VM ls;have U:(aR ls).1.row.places.length≤7:=FJ ls;have V:(aR ls).1.book.lines.length≤8:=HX ls;refine Za rfl<|Zap rfl<|Zap rfl<|Zap rfl<|Zah rfl rD rfl fun q2=>Wbn ?_;refine Zae rfl (fun hc1=>?_) fun hc1=>?_
 ·have hf:(aR ls).2.2≠0:=Xaa
  refine aA<|Zu [qI 0,qI 0] rfl AK pC rfl<|Za rfl<|eF rfl rfl rfl rfl eQ Yb Yb (.tail ζ) Yk bSM<|Wg ?_;exact Zo [_,_] rfl ⟨⟨_,_,_,rfl,Mm1,Or.inr ⟨pH,eQ,rfl⟩⟩,rfl,bSM⟩ fun D hD=>by unfold DU;rw[bNA hf];rfl
 ·have hf:(aR ls).2.2=0:=Xaa
  refine aQ<|aA<|Zj rfl fV rfl<|eN rfl gU fI rfl Mm0 rfl rfl n4 rfl bSM<|Zj rfl fV rfl<|Zj rfl dM rfl<|Zp rfl iB rfl Mm0 rfl<|Zai rfl U33 rfl (hL.ln.up tZ.up (Le.refl _)) rfl<|Zd rfl (fun D2 R=>L3.o6 _ (aR ls).1.book ((aR ls).1.book.lines.length:Int) _ (hL.book.up (R _ Yf)))<|Zap rfl<|Zap rfl<|eF rfl rfl rfl rfl eQ Yb Yb (.tail ζ) Yk bSM ?_;refine We ?_;exact Zo [_,_] rfl ⟨⟨_,_,_,rfl,Mm1,Or.inr ⟨pH,eQ,rfl⟩⟩,rfl,bSM⟩ fun D hD=>by unfold DU;rw[bNK hf];rfl
theorem w0(lv:Γ)(ls:List Λ)(D:aC)(hS:Sl D RS 1 lv ls)(hV:oD D):Fn prog 19 #[lv] D (fun _ v=>v=.tuple #[mH (p8 ls).1,qI (p8 ls).2]):=by
 refine Zw 27 func19 rfl fun h0=>aA<|Zah rfl tH rfl fun q1=>Zf rfl<|aJ<|Za rfl<|Zy rfl (fun Y I=>DK _ ls _ (hS.up RS.up (I _ Yf)) (hV.up (I _ Yf))) fun v1 Y I O=>?_;obtain⟨Z,w2,rfl,⟨pv,cv,hv,lv,mv,bl,bc,yc,yq,rfl,hL⟩,hes⟩:=O;unfold dO;have hst:(aR ls).2.2=0→lY (aR ls).1:=VM ls;have U:(aR ls).1.row.places.length≤7:=FJ ls;have V:(aR ls).1.book.lines.length≤8:=HX ls;refine Za rfl<|Zap rfl<|Zap rfl<|Zap rfl<|Zah rfl rD rfl fun q2=>Wbn ?_;refine Zae rfl (fun hc1=>?_) fun hc1=>?_
 ·have hf:(aR ls).2.2≠0:=Xaa
  refine aA<|Zu [qI 0,qI 0] rfl HT tH rfl<|Za rfl<|eF rfl rfl rfl rfl jK Yb Yb (.tail ζ) Yk bSM<|Wg ?_;exact Zo [_,_] rfl ⟨⟨_,_,_,rfl,Mm1,Or.inr ⟨zY,jK,rfl⟩⟩,rfl,bSM⟩ fun D hD=>by unfold p8;rw[bNA hf];rfl
 ·have hf:(aR ls).2.2=0:=Xaa
  refine aQ<|aA<|Zj rfl dT rfl<|eN rfl nI mE rfl Mm0 rfl rfl n4 rfl bSM<|Zj rfl dT rfl<|Zj rfl fH rfl<|Zp rfl cD rfl Mm0 rfl<|Zai rfl U25 rfl (hL.pl.up RI.up (Le.refl _)) rfl<|Zav rfl<|Zd rfl (fun D2 R=>FK _ (aR ls).1.row 0 (((aR ls).1.row.places.length:Int)-1) _ (hL.row.up (R _ Yf)))<|Zap rfl<|Zap rfl ?_;refine eF rfl rfl rfl rfl jK Yb Yb (.tail ζ) Yk bSM<|We ?_;exact Zo [_,_] rfl ⟨⟨_,_,_,rfl,Mm1,Or.inr ⟨zY,jK,rfl⟩⟩,rfl,bSM⟩ fun D hD=>by unfold p8;rw[bNK hf];rfl
end L12
variable{P:Program}{X:Cx}{γb:Type}[Membership Nat γb]{bad:γb}{all:Array Oper}{K:Act→Δ→Prop}{Q:Exit→Act→Δ→Prop}
variable{σ:bU}{μ:aD}{Ds:List aC}{os:List (Bool×Nat)}{fl:Bool}{ix:Nat}
variable{d:Nat}{x y z:Operand}{u v:Γ}{ty:Θ}{pos:String}{aft:Array Edge}{g:Option (Nat×Bool)}
theorem aAR{A B ν:aD}{t t1 e tr:Θ}{sz n m:Nat}{cells xs:List Γ}{xv:Γ}{z0:Γ}{ats:Array Θ}
  (ho:all[ix]?= some ⟨some d,.call {callee:=.builtin .append,args:=#[x,y],argTypes:=ats},tr,pos,aft,g⟩) (ht:P.underlying t=some (.slice e)) (hat:ats[0]?= some t) (I:ats[1]?= some t1) (R:P.underlying t1=some .string)
  (hs:TS P e sz) (hz:TZ P e z0) (U:Nat.beq z0.cells.size sz=true) (hi:(P.info? e).map (fun i=>Nat.ble 1 i.bytes&&Nat.ble i.bytes 4096)=some true) (O:Nat.ble 1 sz=true)
  (hx:ev σ x=some v) (hy:ev σ y=some xv) (hacc:bI e sz v n cells ν) (hsrc:∀a w,Hl X σ (A++ν++B) Ds a w→(Builtin.lenOf xv).run P w=.ok m w∧∀w',w'.heap=w.heap→(Builtin.firstCells sz m xv).run P w'=.ok xs.toArray w') (hxl:xs.length=m*sz) (hcl:cells.length=n*sz) (hx1:∀u∈xs,cell1 u=true) (hlen:n+m≤10000000)
  (hfl:fl=false∨∀p∈ν,p.1∈bad) (hcapB:UZ v)
  (hN:Nat.blt d X.N=true) (hg:cQ all σ g)
  (kk:∀v' ν',bI e sz v' (n+m) (cells++xs) ν'→UZ v'→WL P X bad all K Q os ((d,v')::σ) (A++ν'++B) Ds):WL P X bad all K Q ((fl,ix)::os) σ (A++ν++B) Ds:=
 EI ho ht hat I (bNI R) hs hz U hi O hx hy hacc hsrc hxl hcl hx1 hlen hfl hN hg fun v' ν' h h2=>kk v' ν' h (h2 hcapB)
def bc(l:List UInt8):List Γ:=l.map fun b=>.int .u8 b.toNat
theorem mC(l:List UInt8):(bc l).length=l.length:=by simp[bc]
theorem uM(a b:List UInt8):bc (a++b)=bc a++bc b:=by simp[bc]
theorem lV(l:List UInt8):∀u∈bc l,cell1 u=true:=by
 intro u hu;obtain⟨b,_,rfl⟩:=bMR.1 hu;rfl
theorem VZ{A B ν:aD}{t t1 e tr:Θ}{n:Nat}{cells:List Γ}{s:Λ}{z0:Γ}{ats:Array Θ}
  (ho:all[ix]?= some ⟨some d,.call {callee:=.builtin .append,args:=#[x,y],argTypes:=ats},tr,pos,aft,g⟩) (ht:P.underlying t=some (.slice e)) (hat:ats[0]?= some t) (I:ats[1]?= some t1) (O:P.underlying t1=some .string)
  (hs:TS P e 1) (hz:TZ P e z0) (R:Nat.beq z0.cells.size 1=true) (hi:(P.info? e).map (fun i=>Nat.ble 1 i.bytes&&Nat.ble i.bytes 4096)=some true)
  (hx:ev σ x=some v) (hy:ev σ y=some (.string s)) (hacc:bI e 1 v n cells ν) (hcl:cells.length=n) (hlen:n+s.size≤10000000) (hfl:fl=false∨∀p∈ν,p.1∈bad) (hcapB:UZ v) (hN:Nat.blt d X.N=true) (hg:cQ all σ g)
  (kk:∀v' ν',bI e 1 v' (n+s.size) (cells++bc s.data.toList) ν'→UZ v'→WL P X bad all K Q os ((d,v')::σ) (A++ν'++B) Ds):WL P X bad all K Q ((fl,ix)::os) σ (A++ν++B) Ds:=by
 refine aAR (m:=s.size) (xs:=bc s.data.toList) ho ht hat I O hs hz R hi rfl hx hy hacc (fun a w _=>⟨rfl,fun w' _=>?_⟩) (by rw[mC,bPK];rfl) Yd (lV _) hlen hfl hcapB hN hg kk;exact Go.Lib.run_firstCells_string (P:=P) w' 1 s

theorem bAC{t t' e:Θ}{p:Option Addr}(ho:all[ix]?= some ⟨some d,.binOp .eql t x y t',ty,pos,aft,g⟩)(ht:P.underlying t=some (.pointer e))(hx:ev σ x=some (.pointer p))(hy:ev σ y=some (.pointer none))(hN:Nat.blt d X.N=true)(hg:cQ all σ g)
  (kk:WL P X bad all K Q os ((d,.bool p.isNone)::σ) μ Ds):WL P X bad all K Q ((fl,ix)::os) σ μ Ds:=
 M6 ho (fun w=>by
  have hgd:(eqGuard .eql t x y (.pointer p) (.pointer none)).run P w=.ok () w:=by
   simp only[eqGuard];simp[go_sem]
  have heq:(Op.equal t (.pointer p) (.pointer none)).run P w=.ok p.isNone w:=by
   show(Op.equalIn (9999+1) t (.pointer p) (.pointer none)).run P w=_;rw[Op.equalIn,Ω,TU.of ht w];cases p<;>rfl
  rw[Ω,hgd];show((do Pure.pure (Value.bool (←Op.equal t (.pointer p) (.pointer none)))):Sem Γ).run P w=_;rw[Ω,heq];rfl) hx hy hN hg kk
theorem bCX{t t' e sz b:Nat}(ho:all[ix]?= some ⟨some d,.binOp .neq t x y t',ty,pos,aft,g⟩)(ht:P.underlying t=some (.pointer e))(hs:TS P e sz)(hz:Nat.beq sz 0=false)(hx:ev σ x=some (qP b))(hy:ev σ y=some (qP b))(hN:Nat.blt d X.N=true)(hg:cQ all σ g)
  (kk:WL P X bad all K Q os ((d,.bool false)::σ) μ Ds):WL P X bad all K Q ((fl,ix)::os) σ μ Ds:=
 ZA ho (fun w=>by
  have hz':sz≠0:=fun h=>by subst h;cases hz
  have hgd:(eqGuard .neq t x y (qP b) (qP b)).run P w=.ok () w:=by
   simp only[eqGuard];simp[go_sem]
  have heq:(Op.equal t (qP b) (qP b)).run P w=.ok true w:=by
   show(Op.equalIn (9999+1) t _ _).run P w=_;rw[Op.equalIn,Ω,TU.of ht w];show(do if(←sizeOf e)≠0 then sameAddr ⟨b,0,none⟩ ⟨b,0,none⟩else if((⟨b,0,none⟩:Addr)==⟨b,0,none⟩)=true then Pure.pure true else Pure.pure ((←choose .zeroSizeEq)=1):Sem Bool).run P w=_;rw[Ω,hs w];show(if sz≠0 then _ else _:Sem Bool).run P w=_;rw[bNK hz'];simp[sameAddr,go_sem]
  rw[Ω,hgd];show((do Pure.pure (Value.bool (!(←Op.equal t (qP b) (qP b))))):Sem Γ).run P w=_;rw[Ω,heq];rfl) hx hy hN hg kk
theorem aAY{t1 t2 t e b:Θ}{vs:List Γ}(ho:all[ix]?= some ⟨some d,.convert t1 t2 x,ty,pos,aft,g⟩)(h1:P.underlying t1=some (.pointer t))(h2:P.underlying t2=some .unsafePointer)(ht:(P.info? t).map (fun j=>Nat.beq j.size 0)=some false)(hx:ev σ x=some (qP b))
  (hm:(b,.cells vs.toArray e (0,0))∈μ) (hv:Nat.beq vs.length 0=false) (hb:b∉bad) (hN:Nat.blt d X.N=true) (hg:cQ all σ g) (kk:WL P X bad all K Q os ((d,qP b)::σ) μ Ds):WL P X bad all K Q ((fl,ix)::os) σ μ Ds:=
 pA ho rfl rfl hN hg (fun a w hh w' hk=>by
  obtain⟨j,hj,I⟩:=bQD.1 ht;have hbx:=hh.boxAt hm hb hk;have hl:0<vs.length:=by
   cases h:vs.length with
   |zero=>rw[h]at hv;cases hv
   |succ n=>omega
  have:=Go.Lib.run_to_unsafe (P:=P) (w:=w') (e:=e) (cells:=vs.length) ⟨b,0,none⟩ h1 h2 hj (fun h=>by rw[h]at I;cases I) (by simp[World.shape?,hbx]) hl;simp only[execOp,hh.eval hx];rw[Ω,this];rfl) kk
theorem NR{t1 t2 t e b:Θ}{vs:List Γ}(ho:all[ix]?= some ⟨some d,.convert t1 t2 x,ty,pos,aft,g⟩)(h1:P.underlying t1=some .unsafePointer)(h2:P.underlying t2=some (.pointer t))(ht:(P.info? t).isSome=true)(hx:ev σ x=some (qP b))
  (hm:(b,.cells vs.toArray e (0,0))∈μ) (hl:liesAt P P.depth e (vs.length / P.cellsOf e) 0 t 1=true) (hb:b∉bad) (hN:Nat.blt d X.N=true) (hg:cQ all σ g) (kk:WL P X bad all K Q os ((d,qP b)::σ) μ Ds):WL P X bad all K Q ((fl,ix)::os) σ μ Ds:=
 pA ho rfl rfl hN hg (fun a w hh w' hk=>by
  obtain⟨j,hj⟩:=Option.isSome_iff_exists.1 ht;have hbx:=hh.boxAt hm hb hk;have:=Go.Lib.run_from_unsafe (P:=P) (w:=w') (e:=e) (cells:=vs.length) ⟨b,0,none⟩ h1 h2 hj (by simp[World.shape?,hbx]) hl;simp only[execOp,hh.eval hx];rw[Ω,this];rfl) kk
theorem YL{c:Operand}{xs:Array Operand}{ats:Array Θ}{f:FuncId}{fn:Func}(ho:all[ix]?= some ⟨some d,.call {callee:=.value c,args:=xs,argTypes:=ats},ty,pos,aft,g⟩)(hc:ev σ c=some (.func (.func f) #[] #[]))(hxs:q9 σ xs.toList=some [v])
  (hf:P.funcs[f]?= some fn) (hname:(fn.name== "runtime.NumGoroutine")=false) (hb:fn.body.isNone=true) (hn:Extern.findNext fn=none) (he:Extern.find fn=some Extern.AbiNoEscape.same) (hN:Nat.blt d X.N=true) (hg:cQ all σ g)
  (kk:WL P X bad all K Q os ((d,v)::σ) μ Ds):WL P X bad all K Q ((fl,ix)::os) σ μ Ds:=by
 refine fF ho rfl rfl hg fun a w hh=>?_
 have e:(execOp a.eval ⟨some d,.call {callee:=.value c,args:=xs,argTypes:=ats},ty,pos,aft,g⟩).run P w=.ok (.value v) w:=by
  have I:xs.map a.eval=#[v]:=by
   have:=kT (fun _ _ hx=>hh.eval hx) hxs;rw[show #[v]=[v].toArray from rfl,←this,←bRE]
  simp only[execOp,resolve,hh.eval hc,Deferred.ofValue,pure_bind,invoke,I];show(callFunc f #[v]).run P w=_;rw[Go.run_callFunc_extern hf hname hb hn he];rfl
 rw[e];exact⟨fun _=>pX.refl _ _,kk _ _ (hh.put hN v)⟩
theorem GJ{c:Operand}{xs:Array Operand}{ats:Array Θ}{f:FuncId}{c1 c2 vs:List Γ}{post:Γ→Prop}(ho:all[ix]?= some ⟨some d,.call {callee:=.value c,args:=xs,argTypes:=ats},ty,pos,aft,g⟩)(hc:ev σ c=some (.func (.func f) c1.toArray c2.toArray))(hxs:q9 σ xs.toList=some vs)
  (hex:X.ex=none) (hEF:EF P f) (hf:∀D w,iT X.h0 X.lo X.D0 X.mods μ D w→Calls P f (c1++vs++c2).toArray w fun e w'=>∃r,e=.returned r∧Go.RowKit.Below (max 1 X.h0.size) w w'∧post r) (hN:Nat.blt d X.N=true) (hg:cQ all σ g)
  (kk:∀r,post r→WL P X bad all K Q os ((d,r)::σ) [] []):WL P X bad all K Q ((false,ix)::os) σ μ Ds:=by
 refine fF ho rfl rfl hg fun a w hh=>?_
 obtain⟨h1,h2,h3,D,h4,h5,R⟩:=id hh;rw[uY hEF (hh.eval hc) (kT (fun _ _ hx=>hh.eval hx) hxs)];refine⟨fun h=>Xad,dR.2 ((hf D w h4).mono ?_)⟩;rintro e w' ⟨r,rfl,hb,hp⟩;refine⟨(fun h=>Xab),kk r hp _ _ (Hl.put ⟨h1,h2,h3,fun b=>if b<max 1 X.h0.size then D b else [],?_,(fun D₁ h=>Xab),Xbg⟩ hN r)⟩
 have I:(if 0<max 1 X.h0.size then D 0 else [])=D 0:=bNK Yd;refine⟨h4.hlo,bPD h4.size hb.size,fun b hl hm=>(hb.block b Yd).trans (h4.old b hl hm),fun b hl=>?_,h4.agr.of (fun b hne=>?_) I (hb.block 0 Yd),Yi,bPA,Yi,fun e he=>?_⟩
 ·rw[bNK Yd];exact h4.dold b hl
 ·by_cases hl:b<max 1 X.h0.size
  ·rw[bNK hl]at hne ⊢
   obtain⟨cs,e,fz,O,k2⟩:=h4.agr.1 b hne;exact⟨cs,e,fz,by rw[hb.block b hl];exact O,k2⟩
  ·rw[bNA hl]at hne;exact absurd rfl hne
 ·rw[←h4.env e he];exact Prod.ext hb.os hb.output
namespace L12
open C12 Go.Lib
def fL(b:Nat)(l:List UInt8)(ν:aD):Prop:=∃p v ν1,ν=(b,qC [.pointer p,v] 137)::ν1∧(p=none∨p=some ⟨b,0,none⟩)∧bI 5 1 v l.length (bc l) ν1∧UZ v
theorem fL.unf{b:Nat}{l:List UInt8}{ν:aD}(h:fL b l ν):∀p∈ν,cU p.2:=by
 obtain⟨p,v,ν1,rfl,_,ha,_⟩:=h;exact K0 ha
def zB(w:List UInt8)(lo hi:Int):List UInt8:=w++[32]++itoa lo++[46,46]++itoa hi++[10]
def HZ(w:List UInt8)(n:Int):List UInt8:=w++[32]++itoa n++[10]
theorem yT(l:List UInt8):(rF l).size=l.length:=rfl
theorem O2(a:Array UInt8):(⟨a⟩:Λ).size=a.size:=rfl
theorem MQ(a b:Λ):(a++b).data.toList=a.data.toList++b.data.toList:=Yf
theorem OB(u:Nat)(h:u≤100000):(decDigits u).length≤6:=by
 rw[decDigits];split
 ·simp
 ·rw[decDigits];split
  ·simp
  ·rw[decDigits];split
   ·simp
   ·rw[decDigits];split
    ·simp
    ·rw[decDigits];split
     ·simp
     ·rw[decDigits];split
      ·simp
      ·omega
theorem mP{n:Int}(h1: -1000≤n)(h2:n≤100000):(itoa n).length≤7:=by
 unfold itoa;split
 ·rw[bMX];have:=OB n.natAbs Yd;omega
 ·first|(have:=OB n.toNat Yd;omega)|(have:=OB n.natAbs Yd;omega)
theorem NO(b:Nat)(p:Option Addr)(v:Γ)(hp:p=none∨p=some ⟨b,0,none⟩)(D:aC):kH prog 130 [qP b] D [(b,qC [.pointer p,v] 137)] (fun _ _ ν'=>ν'=[(b,qC [qP b,v] 137)]) (fun _=>False):=by
 refine eI 20 func130 rfl rfl rfl rfl fun h0 hwl hwn=>aA<|Za rfl<|Zam rfl<|Zj rfl u7 rfl<|Zp rfl aFI rfl Mm0 rfl<|bAC rfl U135 rfl rfl rfl bSM<|aF<|Zaf rfl (fun hc1=>?_) fun hc1=>?_
 ·obtain rfl:p=none:=Xaa
  refine aO<|Za rfl<|Za rfl<|aAY rfl U135 U355 Yg rfl Mm0 rfl n4 rfl bSM<|YL (f:=207) rfl rfl rfl func207 Yg Yg Yg Yg rfl bSM<|NR rfl U355 U135 Yg rfl Mm0 Yg n4 rfl bSM<|Zam rfl<|Zj rfl u7 rfl<|Zr rfl aFX ζ rfl<|Zao ?_;exact H8 (A:=[]) (ν':=[_]) (B:=[]) (vs:=[]) rfl rfl rfl bSM fun D' hD=>rfl
 ·obtain rfl:p=some ⟨b,0,none⟩:=hp.resolve_left (by rintro rfl;cases hc1);refine aA<|Za rfl<|Zam rfl<|Zj rfl u7 rfl<|Zp rfl aFI rfl Mm0 rfl<|Za rfl<|bCX rfl U135 bBA rfl rfl rfl rfl bSM<|aF<|Zaf rfl (fun hc2=>?_) (fun hc2=>?_)
  ·cases hc2
  ·refine bG ?_;exact H8 (A:=[]) (ν':=[_]) (B:=[]) (vs:=[]) rfl rfl rfl bSM fun D' hD=>rfl
theorem mV(b:Nat)(s:Λ)(l:List UInt8)(ν:aD)(D:aC)(hb:fL b l ν)(hl:l.length+s.size≤10000000):kH prog 64 [qP b,.string s] D ν (fun _ _ ν'=>fL b (l++s.data.toList) ν') (fun _=>False):=by
 obtain⟨p,v,ν1,rfl,hp,ha,hcb⟩:=hb;refine eI 19 func64 rfl rfl rfl rfl fun h0 hwl hwn=>aA<|Zf rfl<|Zf rfl<|aJ<|Za rfl<|Zm [] ν1 [(b,_)] rfl (fun p hp=>by simp only[bNL]at hp;subst hp;rfl) (fun V R=>NO b p v hp _) (fun _ _ _ h=>h.elim) fun v5 Y ν5 R hp5=>?_
 subst hp5;refine aJ<|Za rfl<|Za rfl<|Zam rfl<|Zj rfl JJ rfl<|Zp rfl aRQ rfl Mm0 rfl<|Za rfl<|aV ([(b,qC [qP b,v] 137)]++ν1++[]) Yf<|VZ (A:=[(b,_)]) (B:=[]) rfl U99 rfl rfl U9 iU aFK rfl aUK rfl rfl ha (mC _) hl (bNI rfl) hcb rfl bSM fun U ν7 I O=>aV ((b,qC [qP b,v] 137)::ν7) Yf<|Zam rfl<|Zj rfl JJ rfl ?_;refine Zs [qP b,U] rfl I.cells1 aOU .head rfl I.cell1<|aJ<|Za rfl<|gR rfl U9 rfl rfl rfl bSM<|Wcd ?_;refine fun a w hh=>H8 (P:=prog) (fn:=f64) (A:=[]) (ν':=(b,_)::ν7) (B:=[]) (vs:=[_,_]) rfl rfl rfl cF (fun D' hD=>⟨_,U,ν7,rfl,bNC rfl,by rw[LE,uM];exact I,O⟩) a w (hh.boxesEq (bNN _).symm)
theorem Q2(w:Λ)(lo hi:Int)(b:Nat)(l:List UInt8)(ν:aD)(D:aC)(hV:oD D)(hw:w.size≤10)(hlo: -1000≤lo∧lo≤100000)(hhi: -1000≤hi∧hi≤100000)(hb:fL b l ν)(hl:l.length≤1000000):kH prog 63 [.string w,qI lo,qI hi,qP b] D ν (fun _ _ ν'=>fL b (l++zB w.data.toList lo hi) ν') (fun _=>False):=by
 have hilo:=mP hlo.1 hlo.2;have hihi:=mP hhi.1 hhi.2;refine eI 18 func63 rfl rfl rfl rfl (fun h0 hwl hwn=>aO<|Za rfl<|gS rfl rfl rfl (by first|omega|(simp only[O2,bOM,bMX,bOY];omega)) rfl bSM<|Za rfl<|Zd rfl (fun Y I=>m2 lo Ye _ (hV.up (I _ Yf)))<|gS rfl rfl rfl Ys rfl bSM<|gS rfl rfl rfl Ys rfl bSM<|Za rfl<|Zd rfl (fun Z O=>m2 hi Ye _ (hV.up (O _ Yf)))<|gS rfl rfl rfl Ys rfl bSM<|gS rfl rfl rfl Ys rfl bSM ?_);refine aV ([]++ν++[]) Yf<|Zm [] [] ν rfl hb.unf (fun D9 R=>mV b _ l ν _ hb Ybi) (fun _ _ _ h=>h.elim) fun v9 D10 V R U=>aV V Yf<|Zao ?_;refine fun a w hh=>H8 (P:=prog) (fn:=f63) (A:=[]) (ν':=V) (B:=[]) (vs:=[]) rfl rfl rfl bSM (fun D' hD=>by simpa [zB,HZ,rF,MQ]using U) a w (hh.boxesEq Yf)
theorem QT(w:Λ)(m:Int)(b:Nat)(l:List UInt8)(ν:aD)(D:aC)(hV:oD D)(hw:w.size≤10)(hm: -1000≤m∧m≤100000)(hb:fL b l ν)(hl:l.length≤1000000):kH prog 66 [.string w,qI m,qP b] D ν (fun _ _ ν'=>fL b (l++HZ w.data.toList m) ν') (fun _=>False):=by
 have him:=mP hm.1 hm.2;refine eI 12 func66 rfl rfl rfl rfl fun h0 hwl hwn=>aO<|Za rfl<|gS rfl rfl rfl (by first|omega|(simp only[O2,bOM,bMX,bOY];omega)) rfl bSM<|Za rfl<|Zd rfl (fun V I=>m2 m Ye _ (hV.up (I _ Yf)))<|gS rfl rfl rfl Ys rfl bSM<|gS rfl rfl rfl Ys rfl bSM<|aV ([]++ν++[]) Yf<|Zm [] [] ν rfl hb.unf (fun Y O=>mV b _ l ν _ hb Ybi) (fun _ _ _ h=>h.elim) fun v9 D10 U O R=>aV U Yf<|Zao ?_
 refine fun a w hh=>H8 (P:=prog) (fn:=f66) (A:=[]) (ν':=U) (B:=[]) (vs:=[]) rfl rfl rfl bSM (fun D' hD=>by simpa [zB,HZ,rF,MQ]using R) a w (hh.boxesEq Yf)
def NB(x:Int):Prop:= -1000≤x∧x≤100000
def bFQ(s:aM):Int×Int:=if C1.eM s.row (C1.vG s.row 0 ((s.row.places.length:Int)-1))=0 then(C1.aPX (C1.truths s.row) (0:Int).toNat ((s.row.places.length:Int)-1).toNat,C1.aSR (C1.truths s.row) (0:Int).toNat ((s.row.places.length:Int)-1).toNat)else(0,0)
def VS(s:aM)(k:Nat):Int×Int:=if C2.oB s.table (C1.hC (k:Int) 0 ((s.table.levels.length:Int)-1))=0 then C2.aQY s.table (s.table.levels.getD (k:Int).toNat 0)else(0,0)
def bEH(s:aM):Int:=if C2.oB s.table (C2.tA s.table.last 0 s.table.last)=0 then C2.bKN s.table 0 s.table.last else 0
def aIU(s:aM):Int×Int:=if C3.N1 s.book (C1.hC (s.book.lines.length:Int) 0 (s.book.lines.length:Int))=0 then L3.UJ (fun s=>s.money) s.book (s.book.lines.length:Int).toNat else(0,0)
def RR(s:aM):Int×Int:=if C3.N1 s.book true=0 then L3.UJ (fun s=>s.mixed) s.book s.book.lines.length else(0,0)
structure aRS(s:aM):Prop where
 ch:NB (bFQ s).1∧NB (bFQ s).2
 le:NB (C1.xO s.row)
 wet:∀k,k<s.table.levels.length→NB (VS s k).1∧NB (VS s k).2
 dry:NB (bEH s)
 lv:∀x∈(L3.fJ s.book).1,NB x
 lvn:(L3.fJ s.book).1.length≤100
 lev:s.table.levels.length≤6
 mon:NB (aIU s).1∧NB (aIU s).2
 mix:NB (RR s).1∧NB (RR s).2
 wh:NB (L7.gE s.yard).1.1∧NB (L7.gE s.yard).1.2
 su:NB (L7.qT s.yard).2.1
def r1(s:aM):List UInt8:=zB [99,104,97,105,114,115] (bFQ s).1 (bFQ s).2
def r2(s:aM):List UInt8:=r1 s++HZ [108,101,97,115,116] (C1.xO s.row)
def r3(s:aM)(k:Nat):List UInt8:=r2 s++(List.range k).flatMap fun i=>zB [119,101,116] (VS s i).1 (VS s i).2
def r4(s:aM):List UInt8:=r3 s s.table.levels.length++HZ [100,114,121] (bEH s)
def r5(s:aM):List UInt8:=r4 s++[108,101,97,118,101]
def r6(s:aM)(k:Nat):List UInt8:=r5 s++((L3.fJ s.book).1.take k).flatMap fun i=>32::itoa i
def r7(s:aM):List UInt8:=r6 s (L3.fJ s.book).1.length++[10]
def bGH(s:aM):List UInt8:=r7 s++zB [109,111,110,101,121] (aIU s).1 (aIU s).2
def r8(s:aM):List UInt8:=if(L3.fJ s.book).1=[]then bGH s++zB [109,105,120,101,100] (RR s).1 (RR s).2 else r7 s
def r9(s:aM):List UInt8:=r8 s++zB [119,104,111,108,101] (L7.gE s.yard).1.1 (L7.gE s.yard).1.2
def qE(s:aM):List UInt8:=r9 s++HZ [115,117,114,101] (L7.qT s.yard).2.1
def m6(ls:List Λ):List UInt8×Int:=if(aR ls).2.2=0 then(qE (aR ls).1,0)else([],(aR ls).2.2)
section
variable{s:aM}
theorem bKG:r1 s=[]++zB [99,104,97,105,114,115] (bFQ s).1 (bFQ s).2:=rfl
theorem bJZ:r2 s=r1 s++HZ [108,101,97,115,116] (C1.xO s.row):=rfl
theorem bLQ:r4 s=r3 s s.table.levels.length++HZ [100,114,121] (bEH s):=rfl
theorem bLC:r5 s=r4 s++[108,101,97,118,101]:=rfl
theorem bLM:r7 s=r6 s (L3.fJ s.book).1.length++[10]:=rfl
theorem aCE{k:Nat}:r3 s (k+1)=r3 s k++zB [119,101,116] (VS s k).1 (VS s k).2:=by unfold r3;rw[bOG,bOC,bPM,bND]
theorem bDF{k:Nat}{x:Int}(h:(L3.fJ s.book).1[k]?= some x):r6 s (k+1)=r6 s k++((⟨#[32]⟩:Λ)++rF (itoa x)).data.toList:=by
 unfold r6;rw[bMZ,h]
 simp[rF]
theorem bGP(h:(L3.fJ s.book).1=[]):r8 s=bGH s++zB [109,105,120,101,100] (RR s).1 (RR s).2:=bNK h
theorem bKL(h:(L3.fJ s.book).1≠[]):r8 s=r7 s:=bNA h
theorem zP(s:aM):qE s≠[]:=by unfold qE HZ;simp
theorem K7{w:List UInt8}{lo hi:Int}(h:NB lo∧NB hi):(zB w lo hi).length≤w.length+18:=by
 have h1:=mP h.1.1 h.1.2;have h2:=mP h.2.1 h.2.2
 simp only[zB,LE,bMX,bOY];omega
theorem aFQ{w:List UInt8}{n:Int}(h:NB n):(HZ w n).length≤w.length+9:=by
 have h1:=mP h.1 h.2;simp only[HZ,LE,bMX,bOY];omega
variable(h:aRS s)
include h
theorem aSV:(r1 s).length≤30:=by have:=K7 (w:=[99,104,97,105,114,115]) h.ch;unfold r1;simp only[bMX,bOY]at this;omega
theorem bHC:(r2 s).length≤60:=by have:=aFQ (w:=[108,101,97,115,116]) h.le;have h1:=aSV h;unfold r2;simp only[bMX,bOY]at this;rw[LE];omega
theorem QO:∀k,k≤s.table.levels.length→(r3 s k).length≤60+30*k
 |0,_=>by have:=bHC h;unfold r3;simpa using this
 |k+1,hk=>by
  have:=QO k Yd;have h2:=K7 (w:=[119,101,116]) (h.wet k Yd);rw[aCE,LE];simp only[bMX,bOY]at h2;omega
theorem aPP:(r4 s).length≤300:=by have h1:=QO h _ (bNJ _);have h0:=h.lev;have:=aFQ (w:=[100,114,121]) h.dry;unfold r4;simp only[bMX,bOY]at this;rw[LE];omega
theorem bFY:(r5 s).length≤310:=by have h1:=aPP h;unfold r5;rw[LE];simp only[bMX,bOY];omega
theorem aAI(k:Nat):(r6 s k).length≤1200:=by
 have h1:=bFY h;have key:∀l:List Int,(∀x∈l,NB x)→(l.flatMap fun i=>32::itoa i).length≤8*l.length:=by
  intro l;induction l with
  |nil=>intro _;simp
  |cons a l ih=>
   intro hl;have h1:=mP (hl a Yf).1 (hl a Yf).2;have h2:=ih fun x hx=>hl x (by simp[hx])
   rw[bNW,LE];simp only[bMX];omega
 have h2:=key ((L3.fJ s.book).1.take k) fun x hx=>h.lv x (bRT hx)
 have h3:=h.lvn;have h4:((L3.fJ s.book).1.take k).length≤100:=by rw[bON];omega
 unfold r6;rw[LE];omega
theorem YC:(r7 s).length≤1300:=by have h1:=aAI h (L3.fJ s.book).1.length;unfold r7;rw[LE];simp only[bMX,bOY];omega
theorem aFJ:(bGH s).length≤1400:=by have h1:=YC h;have:=K7 (w:=[109,111,110,101,121]) h.mon;unfold bGH;simp only[bMX,bOY]at this;rw[LE];omega
theorem aBN:(r8 s).length≤1500:=by
 unfold r8;split
 ·have h1:=aFJ h;have:=K7 (w:=[109,105,120,101,100]) h.mix;simp only[bMX,bOY]at this;rw[LE];omega
 ·have h1:=YC h;omega
theorem aQS:(r9 s).length≤1600:=by have h1:=aBN h;have:=K7 (w:=[119,104,111,108,101]) h.wh;unfold r9;simp only[bMX,bOY]at this;rw[LE];omega
end
theorem KU{x:Int}(h:NB x):((⟨#[32]⟩:Λ)++rF (itoa x)).size≤10:=by
 have:=mP h.1 h.2;rw[ByteArray.size_append,yT,O2];simp only[bOM,bMX,bOY];omega
theorem Q9{b:Nat}{l:List UInt8}{ν B:aD}{h0:H0}{lo:Nat}{D0 D:aC}{w:Δ}(h:fL b l ν)(hl:l≠[])(hs:iT h0 lo D0 [] (ν++B) D w):IsBuilder 137 5 (max 1 h0.size) b (byteCells l) w∧max 1 h0.size≤w.heap.size:=by
 obtain⟨p,v,ν1,rfl,hp,ha,hcb⟩:=h;have hlen:0<l.length:=bQE.2 hl;obtain⟨g,cap,junk,rfl,hcap,rfl,h1,h2⟩:=ha.some hlen;obtain⟨I,k2,O⟩:=hs.box _ (bNE _ bMV);obtain⟨g1,g2,g3⟩:=hs.box _ (bNE _ (bMT _ bMV));have hlo:=hs.hlo;have kb:=hs.agr.ne0 k2;have gb:=hs.agr.ne0 g2
 have hk:lo≤b:=O.resolve_right Yf;have hg:lo≤g:=g3.resolve_right Yf;have hne:g≠b:=fun e=>by
  have:=hs.nd;simp[e]at this
 have hat:BuilderAt 137 5 (max 1 h0.size) b (.pointer p) (byteCells l) w:=by
  refine⟨Yd,_,I,⟨by rw[byteCells_length];omega,bNC ⟨g,cap,(bc l++junk).toArray,by rw[byteCells_length],Yd,g1,by rw[byteCells_length];exact hcap,hcb _ _ _ rfl,Xai,?_⟩⟩,by simp[Value.ownBlock];exact hne⟩;rw[byteCells_length];show(bc l++junk).take (l.length*1)=bc l;rw[←h1,bRZ]
 refine⟨?_,?_⟩
 ·rcases hp with rfl|rfl
  ·exact bNI hat
  ·exact bNC hat
 ·have:=bJ I;omega
theorem aMM(lv:Γ)(ls:List Λ)(D:aC)(hS:Sl D RS 1 lv ls)(hV:oD D)(hR0:(aR ls).2.2=0→aRS (aR ls).1):Fn prog 24 #[lv] D (fun _ v=>v=.tuple #[.string (rF (m6 ls).1),qI (m6 ls).2]):=by
 refine Zw 175 func24 rfl fun h0=>aA<|Zf rfl<|Zf rfl<|aJ<|Za rfl<|Zy rfl (fun D1 hD1=>DK _ ls _ (hS.up RS.up (hD1 _ Yf)) (hV.up (hD1 _ Yf))) fun v1 D1 hD1 hp1=>?_;obtain⟨w1,w2,rfl,⟨pv,cv,hv,lv,mv,bl,bc,yc,yq,rfl,hL⟩,hes⟩:=hp1;have hpl7:(aR ls).1.row.places.length≤7:=FJ ls;have hln8:(aR ls).1.book.lines.length≤8:=HX ls;unfold dO;refine Za rfl<|Zap rfl<|Zap rfl<|Zap rfl<|Zah rfl rD rfl fun q1=>Wbn ?_;refine Zae rfl (fun hc1=>?_) fun hc1=>?_
 ·have hf:(aR ls).2.2≠0:=Xaa
  refine Wau ?_;exact Zo [_,_] rfl cF fun D hD=>by unfold m6;rw[bNA hf];rfl
 ·have hf:(aR ls).2.2=0:=Xaa
  have hR:=hR0 hf;have hlev6:=hR.lev;have hlvn:=hR.lvn;refine aQ<|aA<|Zah rfl aXR rfl fun I=>aJ<|Zay rfl<|Zf rfl<|aJ<|Zay rfl<|Zf rfl<|bO ?_;have hbb0:fL I [] [(I,qC [.pointer none,qN] 137)]:=⟨none,_,[],rfl,bNI rfl,bI.nil,DH Yt⟩
  refine aO<|Zj rfl dT rfl<|eN rfl nI mE rfl Mm1 rfl rfl n4 rfl bSM<|Zj rfl dT rfl<|Zj rfl fH rfl<|Zp rfl cD rfl Mm1 rfl<|Zai rfl U25 rfl (hL.pl.up RI.up (Le.refl _)) rfl<|Zav rfl<|Zd rfl (fun D2 hD2=>FK _ (aR ls).1.row 0 (((aR ls).1.row.places.length:Int)-1) _ (hL.row.up (hD2 _ Yf)))<|Za rfl<|Zap rfl<|Zap rfl ?_;refine Zah rfl tH rfl fun q3=>Zab rfl jK ζ<|Zf rfl<|aJ<|Za rfl<|Zj rfl WA rfl<|Zp rfl aI rfl Mm0 rfl<|Zj rfl SR rfl<|Zp rfl aI rfl Mm0 rfl<|FV (List.Sublist.cons _ Mm5)<|Zm [] [(q1,_)] [(I,_)] rfl hbb0.unf (fun D20 hD20=>Q2 ⟨#[99,104,97,105,114,115]⟩ (bFQ (aR ls).1).1 (bFQ (aR ls).1).2 I ([]) [(I,_)] _ (hV.up (hD20 _ Yf)) Yt hR.ch.1 hR.ch.2 hbb0 (by have:=(show([]:List UInt8).length≤0 from bNJ 0);omega)) (fun _ _ _ h=>h.elim) fun v20 D21 hO hD21 R=>aV ((hO++[(q1,qC (dO (aR ls).1 pv cv hv lv mv bl bc yc yq) 42)])) rfl ?_
  replace R:fL I (r1 (aR ls).1) hO:=by first|exact R|(rw[bKG];exact R)|(simpa [r1]using R)
  refine aJ<|Zj rfl dT rfl<|eN rfl nI mE rfl (GE _ Mm0) rfl rfl n4 rfl bSM<|Zd rfl (fun D3 hD3=>L1.aRP _ (aR ls).1.row _ (hL.row.up (hD3 _ Yf)))<|Za rfl<|Zap rfl<|Zap rfl<|Zf rfl<|Zf rfl<|aJ<|Wbc ?_;refine Zm [] [(q1,_)] hO rfl R.unf (fun D22 hD22=>QT ⟨#[108,101,97,115,116]⟩ (C1.xO (aR ls).1.row) I (r1 (aR ls).1) hO _ (hV.up (hD22 _ Yf)) Yt hR.le R (by have:=aSV hR;omega)) (fun _ _ _ h=>h.elim) fun v22 D23 ν22 hD23 hF=>aV ((ν22++[(q1,qC (dO (aR ls).1 pv cv hv lv mv bl bc yc yq) 42)])) rfl ?_
  replace hF:fL I (r2 (aR ls).1) ν22:=by first|exact hF|(rw[bJZ];exact hF)|(simpa [r2]using hF)
  refine bC<|Zj rfl cY rfl<|Zj rfl lT rfl<|Zp rfl cD rfl (GE _ Mm0) rfl<|Zai rfl U25 rfl (hL.lev.up RI.up (Le.refl _)) rfl<|Za rfl<|aF<|Za1<|Zc (Nat×aD) (fun g=>(aR ls).1.table.levels.length-g.1) (fun g=>g.1≤(aR ls).1.table.levels.length∧fL I (r3 (aR ls).1 g.1) g.2) (fun g=>[(73,qI (g.1:Int))]) [(72,_),(9,_),(8,_),(7,_),(4,_),(3,_),(2,_)] (fun g=>g.2++[(q1,qC (dO (aR ls).1 pv cv hv lv mv bl bc yc yq) 42)]) (fun g=>[D23,D21,D1,D]) (0,ν22) ⟨Yf,by simpa [r3]using hF⟩ ⟨Ya,bSM⟩ Mm5 ?_;rintro⟨k,ν⟩ ⟨h1,hbv⟩;simp only at h1 hbv;refine aA<|Zan rfl<|bO<|Zae rfl (fun hc2=>?_) fun hc2=>?_
  ·simp only at hc2;have hkl:k<(aR ls).1.table.levels.length:=Yd
   refine aQ<|Za3<|Za1<|aA<|Za rfl<|Zf rfl<|aJ<|Zj rfl cY rfl<|eN rfl lF jS rfl (GE _ Mm0) rfl rfl n4 rfl bSM<|Za rfl<|Zd rfl (fun D4 hD4=>L2.aVR _ (aR ls).1.table (k:Int) _ (hL.table.up (hD4 _ Yf)))<|Za rfl ?_;refine Zap rfl<|Zap rfl<|Zah rfl kA rfl fun q4=>Zab rfl dQ ζ<|Zf rfl<|aF<|aO<|Za rfl<|Zj rfl vJ rfl<|Zp rfl aI rfl Mm0 rfl<|Zj rfl yH rfl<|Zp rfl aI rfl Mm0 rfl ?_;refine FV (List.Sublist.cons _ Mm5)<|Zm [] [(q1,_)] ν rfl hbv.unf (fun D24 hD24=>Q2 ⟨#[119,101,116]⟩ (VS (aR ls).1 k).1 (VS (aR ls).1 k).2 I (r3 (aR ls).1 k) ν _ (hV.up (hD24 _ Yf)) Yt (hR.wet k hkl).1 (hR.wet k hkl).2 hbv (by have:=QO hR (k) Yd;omega)) (fun _ _ _ h=>h.elim) fun v24 D25 ν24 hD25 hJ=>aV ((ν24++[(q1,qC (dO (aR ls).1 pv cv hv lv mv bl bc yc yq) 42)])) rfl ?_
   replace hJ:fL I (r3 (aR ls).1 (k+1)) ν24:=by rw[aCE];exact hJ
   refine Zao<|Wb ?_;exact aL 21 (k+1,ν24) ⟨Yn,hJ⟩ Yn ⟨Ya,bSM⟩ rfl rfl Mm5 fun D h=>⟨D,bNM _ (h),Le.refl D⟩
  ·obtain rfl:k=(aR ls).1.table.levels.length:=by simp only at hc2;omega
   refine Za6<|Za2<|Za2<|Za7<|Zaz<|aA<|Zj rfl cY rfl<|eN rfl lF jS rfl (GE _ Mm0) rfl rfl n4 rfl bSM<|Zj rfl cY rfl<|Zj rfl mX rfl<|Zp rfl aI rfl (GE _ Mm0) rfl<|Zd rfl (fun D5 hD5=>L2.bGV _ (aR ls).1.table 0 (aR ls).1.table.last _ (hL.table.up (hD5 _ Yf))) ?_;refine Za rfl<|Zap rfl<|Zap rfl<|Zf rfl<|Zf rfl<|aJ<|Za rfl<|Za rfl<|Zm [] [(q1,_)] ν rfl hbv.unf (fun D26 hD26=>QT ⟨#[100,114,121]⟩ (bEH (aR ls).1) I (r3 (aR ls).1 (aR ls).1.table.levels.length) ν _ (hV.up (hD26 _ Yf)) Yt hR.dry hbv (by have:=QO hR ((aR ls).1.table.levels.length) Yd;omega)) (fun _ _ _ h=>h.elim) fun v26 D27 hP hD27 U=>aV ((hP++[(q1,qC (dO (aR ls).1 pv cv hv lv mv bl bc yc yq) 42)])) rfl ?_
   replace U:fL I (r4 (aR ls).1) hP:=by first|exact U|(rw[bLQ];exact U)|(simpa [r4]using U)
   refine aJ<|Zm [] [(q1,_)] hP rfl U.unf (fun D28 hD28=>mV I ⟨#[108,101,97,118,101]⟩ (r4 (aR ls).1) hP _ U (by have:=aPP hR;have hz:=(show(⟨#[108,101,97,118,101]⟩:Λ).size=5 from rfl);omega)) (fun _ _ _ h=>h.elim) fun v28 D29 ν28 hD29 hH=>aV ((ν28++[(q1,qC (dO (aR ls).1 pv cv hv lv mv bl bc yc yq) 42)])) rfl ?_;replace hH:fL I (r5 (aR ls).1) ν28:=by first|exact hH|(rw[bLC];exact hH)|(simpa [r5]using hH)
   refine aJ<|Zj rfl fV rfl<|eN rfl gU fI rfl (GE _ Mm0) rfl rfl n4 rfl bSM<|Zy rfl (fun D6 hD6=>L3.aSF _ (aR ls).1.book _ (hL.book.up (hD6 _ Yf))) fun v6 D6 hD6 hp6=>?_;obtain⟨lvv,rfl,hlv⟩:=hp6;obtain⟨lva,lvc,rfl⟩:=hlv.shape;refine Za rfl<|Zap rfl<|Zap rfl<|Zf rfl<|Zf rfl<|bC<|Za rfl<|Zai rfl U25 rfl hlv rfl<|Za rfl<|aF<|Za1<|Zc (Nat×aD) (fun g=>(L3.fJ (aR ls).1.book).1.length-g.1) (fun g=>g.1≤(L3.fJ (aR ls).1.book).1.length∧fL I (r6 (aR ls).1 g.1) g.2) (fun g=>[(111,qI (g.1:Int))]) [(110,_),(109,_),(19,_),(9,_),(8,_),(7,_),(4,_),(3,_),(2,_)] (fun g=>g.2++[(q1,qC (dO (aR ls).1 pv cv hv lv mv bl bc yc yq) 42)]) (fun g=>[D6,D29,D27,D23,D21,D1,D]) (0,ν28) ⟨Yf,by simpa [r6]using hH⟩ ⟨Ya,bSM⟩ Mm5 ?_;rintro⟨k,ν⟩ ⟨h1,hbv⟩;simp only at h1 hbv;refine aA<|Zan rfl<|bO<|Zae rfl (fun hc3=>?_) fun hc3=>?_
   ·simp only at hc3;have hkl:k<(L3.fJ (aR ls).1.book).1.length:=Yd
    obtain⟨x,hx⟩:∃x,(L3.fJ (aR ls).1.book).1[k]?= some x:=⟨_,bMU hkl⟩
    refine aQ<|Za3<|Za1<|aA<|iW rfl hlv rfl hx (fun b1 o1=>Zf rfl<|aF<|aO<|Za rfl<|Zd rfl (fun D7 hD7=>m2 x (by have:=hR.lv x (n5 hx);unfold NB at this;simp only[wD];omega) _ (hV.up (hD7 _ Yf)))<|gS rfl rfl rfl (by have:=KU (hR.lv x (n5 hx));rw[ByteArray.size_append]at this;omega) rfl bSM<|Zm [] [(q1,_)] ν rfl hbv.unf (fun D30 hD30=>mV I ((⟨#[32]⟩:Λ)++rF (itoa x)) (r6 (aR ls).1 k) ν _ hbv (by have:=aAI hR (k);have hz:=(KU (hR.lv x (n5 hx)));omega)) (fun _ _ _ h=>h.elim) fun v30 D31 ν30 hD31 hK=>?_);refine aV ((ν30++[(q1,qC (dO (aR ls).1 pv cv hv lv mv bl bc yc yq) 42)])) rfl ?_;replace hK:fL I (r6 (aR ls).1 (k+1)) ν30:=by rw[bDF hx];exact hK
    refine Zao<|Wb ?_;exact aL 11 (k+1,ν30) ⟨Yn,hK⟩ Yn ⟨Ya,bSM⟩ rfl rfl Mm5 fun D h=>⟨D,bNM _ (h),Le.refl D⟩
   ·obtain rfl:k=(L3.fJ (aR ls).1.book).1.length:=by simp only at hc3;omega
    refine Za6<|Za2<|Za2<|Za7<|Zaz<|aA<|Zm [] [(q1,_)] ν rfl hbv.unf (fun D32 hD32=>mV I ⟨#[10]⟩ (r6 (aR ls).1 (L3.fJ (aR ls).1.book).1.length) ν _ hbv (by have:=aAI hR ((L3.fJ (aR ls).1.book).1.length);have hz:=(show(⟨#[10]⟩:Λ).size=1 from rfl);omega)) (fun _ _ _ h=>h.elim) fun v32 D33 hN hD33 O=>aV ((hN++[(q1,qC (dO (aR ls).1 pv cv hv lv mv bl bc yc yq) 42)])) rfl ?_;replace O:fL I (r7 (aR ls).1) hN:=by first|exact O|(rw[bLM];exact O)|(simpa [r7]using O)
    refine bC<|Za rfl<|Zai rfl U25 rfl hlv rfl<|Zas rfl<|aF<|Zae rfl (fun hc4=>?_) fun hc4=>?_
    ·have hl0:(L3.fJ (aR ls).1.book).1=[]:=bQA Yd;refine aA<|Zj rfl fV rfl<|eN rfl gU fI rfl (GE _ Mm0) rfl rfl n4 rfl bSM<|Zj rfl fV rfl<|Zj rfl dM rfl<|Zp rfl iB rfl (GE _ Mm0) rfl<|Zai rfl U33 rfl (hL.ln.up tZ.up (Le.refl _)) rfl<|Zd rfl (fun D8 hD8=>L3.o6 _ (aR ls).1.book ((aR ls).1.book.lines.length:Int) _ (hL.book.up (hD8 _ Yf)))<|Za rfl<|Zap rfl<|Zap rfl<|Zah rfl pC rfl fun q5=>?_;refine Zab rfl eQ ζ<|Zf rfl<|aJ<|Zj rfl fV rfl<|eN rfl gU fI rfl (List.Mem.tail _ (GE _ Mm0)) rfl rfl n4 rfl bSM<|Zd rfl (fun D9 hD9=>L3.aQC _ (aR ls).1.book _ (hL.book.up (hD9 _ Yf)))<|Za rfl<|Zap rfl<|Zap rfl<|Zah rfl pC rfl fun q6=>Zab rfl eQ ζ<|Zf rfl ?_;refine aJ<|Za rfl<|Zj rfl yX rfl<|Zp rfl aI rfl Mm1 rfl<|Zj rfl xX rfl<|Zp rfl aI rfl Mm1 rfl<|Zm [(_,_),(_,_)] [(q1,_)] hN rfl O.unf (fun D34 hD34=>Q2 ⟨#[109,111,110,101,121]⟩ (aIU (aR ls).1).1 (aIU (aR ls).1).2 I (r7 (aR ls).1) hN _ (hV.up (hD34 _ Yf)) Yt hR.mon.1 hR.mon.2 O (by have:=YC hR;omega)) (fun _ _ _ h=>h.elim) (fun v34 D35 hX hD35 V=>aV ((q6,_)::(q5,_)::(hX++[(q1,qC (dO (aR ls).1 pv cv hv lv mv bl bc yc yq) 42)])) rfl ?_)
     replace V:fL I (bGH (aR ls).1) hX:=by first|exact V|(rw[r7m_eq];exact V)|(simpa [bGH]using V)
     refine aF<|aO<|Za rfl<|Zj rfl yX rfl<|Zp rfl aI rfl Mm0 rfl<|Zj rfl xX rfl<|Zp rfl aI rfl Mm0 rfl<|FV (List.Sublist.cons _ (List.Sublist.cons _ Mm5))<|Zm [] [(q1,_)] hX rfl V.unf (fun D36 hD36=>Q2 ⟨#[109,105,120,101,100]⟩ (RR (aR ls).1).1 (RR (aR ls).1).2 I (bGH (aR ls).1) hX _ (hV.up (hD36 _ Yf)) Yt hR.mix.1 hR.mix.2 V (by have:=aFJ hR;omega)) (fun _ _ _ h=>h.elim) fun v36 D37 hY hD37 hI=>aV ((hY++[(q1,qC (dO (aR ls).1 pv cv hv lv mv bl bc yc yq) 42)])) rfl ?_;replace hI:fL I (r8 (aR ls).1) hY:=by rw[bGP hl0];exact hI
     refine aJ<|Zj rfl eX rfl<|eN rfl nA lN rfl (GE _ Mm0) rfl rfl n4 rfl bSM<|Zd rfl (fun D10 hD10=>L7.zK _ (aR ls).1.yard _ (hL.yard.up (hD10 _ Yf)))<|Za rfl<|Zap rfl<|Zap rfl<|Zah rfl nH rfl fun q7=>Zab rfl dV ζ<|Zf rfl<|aJ<|Za rfl ?_;refine Zj rfl yS rfl<|Zp rfl aI rfl Mm0 rfl<|Zj rfl yR rfl<|Zp rfl aI rfl Mm0 rfl<|FV (List.Sublist.cons _ Mm5)<|Zm [] [(q1,_)] hY rfl hI.unf (fun D38 hD38=>Q2 ⟨#[119,104,111,108,101]⟩ ((L7.gE (aR ls).1.yard).1).1 ((L7.gE (aR ls).1.yard).1).2 I (r8 (aR ls).1) hY _ (hV.up (hD38 _ Yf)) Yt hR.wh.1 hR.wh.2 hI (by have:=aBN hR;omega)) (fun _ _ _ h=>h.elim) fun v38 D39 rA hD39 Y=>aV ((rA++[(q1,qC (dO (aR ls).1 pv cv hv lv mv bl bc yc yq) 42)])) rfl ?_
     replace Y:fL I (r9 (aR ls).1) rA:=by first|exact Y|(rw[r9_eq];exact Y)|(simpa [r9]using Y)
     refine aJ<|Zj rfl eX rfl<|eN rfl nA lN rfl (GE _ Mm0) rfl rfl n4 rfl bSM<|Zy rfl (fun D11 hD11=>L7.aCT _ (aR ls).1.yard _ (hL.yard.up (hD11 _ Yf))) fun v11 D11 hD11 hp11=>?_;obtain⟨suv,rfl,hsu⟩:=hp11;refine Za rfl<|Zap rfl<|Zap rfl<|Zap rfl<|Zf rfl<|Zf rfl<|Zf rfl<|aJ<|Za rfl<|Za rfl<|Zm [] [(q1,_)] rA rfl Y.unf (fun D40 hD40=>QT ⟨#[115,117,114,101]⟩ ((L7.qT (aR ls).1.yard).2.1) I (r9 (aR ls).1) rA _ (hV.up (hD40 _ Yf)) Yt hR.su Y (by have:=aQS hR;omega)) (fun _ _ _ h=>h.elim) fun v40 D41 ν40 hD41 Z=>aV ((ν40++[(q1,qC (dO (aR ls).1 pv cv hv lv mv bl bc yc yq) 42)])) rfl ?_
     replace Z:fL I (qE (aR ls).1) ν40:=by first|exact Z|(rw[reportL_eq];exact Z)|(simpa [qE]using Z)
     refine aJ<|GJ (post:=fun r=>r=.string (rF (qE (aR ls).1))) rfl rfl rfl rfl (EF.of func72 rfl rfl) (fun D w hw=>(Go.Proofs.Tryz.Builder_String_any (max 1 h0.size) I (qE (aR ls).1) w (Q9 Z (zP _) hw).1 (Q9 Z (zP _) hw).2).mono ?_) rfl bSM fun r hr=>?_
     ·rintro e w1 ⟨rfl,hbl⟩;exact⟨_,rfl,hbl,rfl⟩
     subst hr;refine Wcd ?_;exact Zo [_,_] rfl cF fun D hD=>by unfold m6;rw[bNK hf];rfl
    ·have hl0:(L3.fJ (aR ls).1.book).1≠[]:=fun h=>hc4 (by rw[h];rfl)
     have hb8:fL I (r8 (aR ls).1) hN:=by rw[bKL hl0];exact O
     refine aQ<|aA<|Zj rfl eX rfl<|eN rfl nA lN rfl (GE _ Mm0) rfl rfl n4 rfl bSM<|Zd rfl (fun D12 hD12=>L7.zK _ (aR ls).1.yard _ (hL.yard.up (hD12 _ Yf)))<|Za rfl<|Zap rfl<|Zap rfl<|Zah rfl nH rfl fun q8=>Zab rfl dV ζ<|Zf rfl<|aJ ?_;refine Za rfl<|Zj rfl yS rfl<|Zp rfl aI rfl Mm0 rfl<|Zj rfl yR rfl<|Zp rfl aI rfl Mm0 rfl<|FV (List.Sublist.cons _ Mm5)<|Zm [] [(q1,_)] hN rfl hb8.unf (fun D42 hD42=>Q2 ⟨#[119,104,111,108,101]⟩ ((L7.gE (aR ls).1.yard).1).1 ((L7.gE (aR ls).1.yard).1).2 I (r8 (aR ls).1) hN _ (hV.up (hD42 _ Yf)) Yt hR.wh.1 hR.wh.2 hb8 (by have:=aBN hR;omega)) (fun _ _ _ h=>h.elim) fun v42 D43 rB hD43 hB=>aV ((rB++[(q1,qC (dO (aR ls).1 pv cv hv lv mv bl bc yc yq) 42)])) rfl ?_
     replace hB:fL I (r9 (aR ls).1) rB:=by first|exact hB|(rw[r9_eq];exact hB)|(simpa [r9]using hB)
     refine aJ<|Zj rfl eX rfl<|eN rfl nA lN rfl (GE _ Mm0) rfl rfl n4 rfl bSM<|Zy rfl (fun D13 hD13=>L7.aCT _ (aR ls).1.yard _ (hL.yard.up (hD13 _ Yf))) fun v13 D13 hD13 hp13=>?_;obtain⟨suv,rfl,hsu⟩:=hp13;refine Za rfl<|Zap rfl<|Zap rfl<|Zap rfl<|Zf rfl<|Zf rfl<|Zf rfl<|aJ<|Za rfl<|Za rfl<|Zm [] [(q1,_)] rB rfl hB.unf (fun D44 hD44=>QT ⟨#[115,117,114,101]⟩ ((L7.qT (aR ls).1.yard).2.1) I (r9 (aR ls).1) rB _ (hV.up (hD44 _ Yf)) Yt hR.su hB (by have:=aQS hR;omega)) (fun _ _ _ h=>h.elim) fun v44 D45 ν44 hD45 hE=>aV ((ν44++[(q1,qC (dO (aR ls).1 pv cv hv lv mv bl bc yc yq) 42)])) rfl ?_
     replace hE:fL I (qE (aR ls).1) ν44:=by first|exact hE|(rw[reportL_eq];exact hE)|(simpa [qE]using hE)
     refine aJ<|GJ (post:=fun r=>r=.string (rF (qE (aR ls).1))) rfl rfl rfl rfl (EF.of func72 rfl rfl) (fun D w hw=>(Go.Proofs.Tryz.Builder_String_any (max 1 h0.size) I (qE (aR ls).1) w (Q9 hE (zP _) hw).1 (Q9 hE (zP _) hw).2).mono ?_) rfl bSM fun r hr=>?_
     ·rintro e w1 ⟨rfl,hbl⟩;exact⟨_,rfl,hbl,rfl⟩
     subst hr;refine Wcd ?_;exact Zo [_,_] rfl cF fun D hD=>by unfold m6;rw[bNK hf];rfl
end L12
namespace C12
def L0:Nat→List UInt8→Nat
 |_,[]=>0
 |k,b::t=>(2*k+1)*b.toNat+L0 (k+1) t
theorem BS:∀(a b:List UInt8) (k:Nat),L0 k (a++b)=L0 k a+L0 (k+a.length) b
 | [],b,k=>by simp[L0]
 |x::a,b,k=>by
  rw[bPF,L0,L0,BS a b (k+1),bMX,show k+1+a.length=k+(a.length+1) by omega,Nat.add_assoc]
theorem aKB{l:List UInt8}{k:Nat}{b:UInt8}(h:l[k]?= some b):L0 0 (l.take (k+1))=L0 0 (l.take k)+(2*k+1)*b.toNat:=by
 have hk:k<l.length:=(bMW.1 h).1;rw[bMZ,h,BS,bON,bQI Yd];simp[L0]
theorem aEP:∀(l:List UInt8) (k:Nat),L0 k l≤(2*(k+l.length)+1)*256*l.length
 | [],k=>by simp[L0]
 |b::l,k=>by
  have h1:=aEP l (k+1);have h2:b.toNat≤256:=by have:=b.toNat_lt;omega
  have h3:(2*k+1)*b.toNat≤(2*(k+(l.length+1))+1)*256:=bRR Yd h2;rw[L0,bMX,show k+(l.length+1)=k+1+l.length by omega,Nat.mul_succ];rw[show k+1+l.length=k+(l.length+1) by omega]at h1;rw[show k+1+l.length=k+(l.length+1) by omega];omega
def jU(i:Nat)(l:List UInt8):Nat:=(37*(i+1)+L0 0 l)%9967
theorem MO(i:Nat)(l:List UInt8):jU i l<9967:=Nat.mod_lt _ Yt
def nS(n j:Nat):UInt8:=UInt8.ofNat (48+n / 10^j%10)
theorem P9(n j:Nat):(nS n j).toNat=48+n / 10^j%10:=by
 unfold nS;rw[UInt8.toNat_ofNat'];have:=Nat.mod_lt (n / 10^j) (show 0<10 by decide);omega
def qK(n:Nat):List UInt8:=[nS n 3,nS n 2,nS n 1,nS n 0]
def zD(i:Nat)(l:List UInt8):List UInt8:=[59,59,10]++qK (jU i l)
def fE(i:Nat)(l:List UInt8):List UInt8:=[nS l.length 1,nS l.length 0,59]++l++[59]++qK (jU i l)++[10]
theorem mU(i:Nat)(l:List UInt8):(fE i l).length=9+l.length:=by simp[fE,qK];omega
def lC:Nat→List (List UInt8)→List UInt8
 |_,[]=>[]
 |i,l::ls=>fE i l++lC (i+1) ls
theorem C9:∀(a b:List (List UInt8)) (i:Nat),lC i (a++b)=lC i a++lC (i+a.length) b
 | [],b,i=>by simp[lC]
 |x::a,b,i=>by
  rw[bPF,lC,lC,C9 a b (i+1),bMX,bND,show i+1+a.length=i+(a.length+1) by omega]
def rG(ls:List (List UInt8)):List UInt8:=lC 0 ls
theorem EB{ls:List (List UInt8)}{k:Nat}{l:List UInt8}(h:ls[k]?= some l):rG (ls.take (k+1))=rG (ls.take k)++fE k l:=by
 have hk:k<ls.length:=(bMW.1 h).1;unfold rG;rw[bMZ,h,C9,bON,bQI Yd];simp[lC]
theorem B0:∀(ls:List (List UInt8)) (i m:Nat),(∀l∈ls,l.length≤m)→(lC i ls).length≤(9+m)*ls.length
 | [],i,m,_=>by simp[lC]
 |l::ls,i,m,h=>by
  have h1:=B0 ls (i+1) m fun x hx=>h x (by simp[hx])
  have h2:=h l Yf;rw[lC,LE,mU,bMX,Nat.mul_succ];omega

def qB(c:UInt8):Bool:=decide (48≤c.toNat)&&decide (c.toNat≤57)
def G3(b:List UInt8):Option Nat:=match b with
 |c::d::_=>if qB c=true∧qB d=true∧(c.toNat-48)*10+(d.toNat-48)≤50 then some ((c.toNat-48)*10+(d.toNat-48))else none
 |_=>none
def R0(n:Nat)(b:List UInt8):List UInt8:=[b.getD 2 0,b.getD (3+n) 0,b.getD (8+n) 0]++(b.drop (4+n)).take 4
def iJ(i:Nat)(b:List UInt8):Option (List UInt8):=if b.length<9 then none else match G3 b with
 |none=>none
 |some n=>if b.length<9+n then none else if R0 n b=zD i ((b.drop 3).take n)then some ((b.drop 3).take n)else none
theorem vB{i:Nat}{b l:List UInt8}(h:iJ i b=some l):l.length≤50∧9+l.length≤b.length:=by
 unfold iJ at h;split at h
 ·cases h
 ·split at h
  ·cases h
  ·rename_i n hn;split at h
   ·cases h
   ·split at h
    ·cases h;have I:n≤50:=by
      unfold G3 at hn;split at hn
      ·split at hn
       ·rename_i hh;cases hn;exact hh.2.2
       ·cases hn
      ·cases hn
     rw[bON,bOU];omega
    ·cases h
end C12
namespace L12
open C12 Go.Lib
theorem aDI{s:Λ}{k:Nat}{b:UInt8}(h:s.data.toList[k]?= some b):s[k]?= some b:=by
 have hk:k<s.size:=by simpa using(bMW.1 h).1
 rw[getElem?_pos s k hk];congr 1;obtain⟨h1,h2⟩:=bMW.1 h;rw[←h2];rfl
theorem CU{s:Λ}{k:Nat}{b:UInt8}(h:s.data.toList[k]?= some b)(hs:s.size≤1000):0≤(2*(k:Int)+1)*(b.toNat:Int)∧(2*(k:Int)+1)*(b.toNat:Int)≤1000000:=by
 have hk:k<s.size:=by simpa using(bMW.1 h).1
 have hb:=b.toNat_lt;have h1:(2*k+1)*b.toNat≤2001*256:=bRR Yd Yd;have h2:(2*(k:Int)+1)*(b.toNat:Int)=(((2*k+1)*b.toNat:Nat):Int):=by push_cast;rfl
 rw[h2];omega
theorem QC{s:Λ}{k:Nat}(hs:s.size≤1000):L0 0 (s.data.toList.take k)≤1000000000:=by
 have h:=aEP (s.data.toList.take k) 0;have hl:(s.data.toList.take k).length≤1000:=by
  rw[bON];have:s.data.toList.length=s.size:=rfl;omega
 have h1:(2*(0+(s.data.toList.take k).length)+1)*256*(s.data.toList.take k).length≤2001*256*1000:=bRR (bRR Yd (bNJ _)) hl;omega
def bJU(n k:Nat):List Γ:=[if 3<k then .int .u8 (nS n 3).toNat else .int .u8 0,if 2<k then .int .u8 (nS n 2).toNat else .int .u8 0,if 1<k then .int .u8 (nS n 1).toNat else .int .u8 0,if 0<k then .int .u8 (nS n 0).toNat else .int .u8 0]
theorem aRV{n k:Nat}(hk:k<4):(bJU n k).take (((3:Int)-(k:Int)).toNat)++[.int .u8 (48+((n / 10^k:Nat):Int)%10)]++(bJU n k).drop (((3:Int)-(k:Int)).toNat+ [Value.int .u8 (48+((n / 10^k:Nat):Int)%10)].length)=bJU n (k+1):=by
 have e:Value.int .u8 (48+((n / 10^k:Nat):Int)%10)=.int .u8 ((nS n k).toNat:Int):=by rw[P9];rfl
 rw[e];obtain rfl|rfl|rfl|rfl:k=0∨k=1∨k=2∨k=3:=Yd
 all_goals rfl
theorem aON(i:Nat)(s:Λ)(hi:i≤100000)(hs:s.size≤1000)(D:aC):Fn prog 356 #[qI (i:Int),.string s] D (fun _ v=>v=qI ((jU i s.data.toList:Nat):Int)):=by
 refine Zw 28 func356 rfl fun h0=>aA<|Zf rfl<|aJ<|Za rfl<|Zad rfl<|F9 rfl rfl rfl Ye rfl bSM<|Zf rfl<|bC<|Za rfl<|gR rfl U9 rfl rfl rfl bSM<|Za rfl ?_;refine aF<|Za1<|bM (γ:=Nat) (fun k=>s.size-k) (fun k=>k≤s.size) (fun k=>[(12,qI (k:Int)),(5,qI ((37*(i+1)+L0 0 (s.data.toList.take k):Nat):Int))]) [(11,_),(4,_),(1,_)] (fun k=>[D]) 0 Yd ⟨Ya,Xdj,bSM⟩ cF (aK) ?_
 rintro k hI;refine aA<|Zan rfl<|bO<|Zae rfl (fun hc1=>?_) fun hc1=>?_
 ·have hk:k<s.size:=Yd
  obtain⟨b,hb⟩:∃b,s.data.toList[k]?= some b:=⟨_,bMU Xay⟩
  have I:=b.toNat_lt;refine aQ<|Za3<|Za1<|aA<|Za rfl<|Zf rfl<|aF<|aO<|Za rfl<|Za rfl<|F9 rfl rfl rfl Ye rfl bSM<|Zad rfl ?_;refine Za rfl<|Za rfl<|pN rfl U9 rfl rfl Yd Yay rfl bSM<|oU rfl U5 U3 rfl Ye rfl bSM<|F9 rfl rfl rfl (by have:=CU hb hs;simp only[wD];omega) rfl bSM<|oC rfl rfl rfl Xdk rfl bSM<|Zf rfl<|Zao<|Za4<|Zaz<|aO<|Zad rfl ?_;refine Za rfl<|Zao ?_;exact Zn 18 (k+1) ⟨Ya,Ybj,bSM⟩ rfl Mm5
 ·obtain rfl:k=s.size:=Yd
  rw[bNV (show s.data.toList.length≤s.size by simp)];refine Za6<|Za2<|Za2<|Za7<|Zaz<|aA<|Za rfl<|sQ rfl rfl rfl Yd Yd Ye rfl bSM<|We ?_;exact aE rfl fun D hD=>Xcq
theorem aFH(n:Nat)(hn:n≤1000000)(D:aC):Fn prog 299 #[qI (n:Int)] D (fun _ v=>v=.agg (bc (qK n)).toArray):=by
 refine Zw 18 func299 rfl (fun h0=>aA<|Zah rfl aDY rfl fun q1=>bC<|Za rfl<|aF<|Za1<|gT (γ:=Nat) (fun k=>4-k) (fun k=>k≤4) (fun k=>[(4,qI (k:Int)),(0,qI ((n / 10^k:Nat):Int))]) [(2,_)] (fun k=>[(q1,qC (bJU n k) 414)]) (fun k=>[D]) 0 Yd ⟨Ya,(by show some (Value.int _ _)=some (Value.int _ _);congr 2;simp),bSM⟩ ⟨rfl,bSM⟩ Mm5 (aK) ?_);rintro k hI;refine aA<|Zan rfl<|bO<|Zae rfl (fun hc1=>?_) fun hc1=>?_
 ·have hk:k<4:=Yd
  have hq:n / 10^k≤n:=Nat.div_le_self _ _;have I:(0:Int)≤((n / 10^k:Nat):Int):=bRO _;refine aQ<|Za3<|Za1<|aA<|Za rfl<|Zf rfl<|aJ<|Za rfl<|Zav rfl<|Za rfl<|sQ rfl rfl rfl Yd Yd Ye rfl bSM<|Zad rfl ?_;refine oU rfl U3 U5 rfl Ye rfl bSM<|cA rfl U414 iU rfl rfl Yd Yd rfl bSM<|cR (ws:=bJU n (k+1)) rfl rfl rfl rfl iU .head (by simp[bJU]<;>omega) (aRV hk) Yk bSM<|aF<|aO<|Za rfl<|j4 rfl rfl rfl Yd Yd Ye rfl bSM<|Zf rfl<|Zao<|Za4<|Zaz<|aO ?_;refine Zad rfl<|Za rfl<|Zao ?_;exact Zn 17 (k+1) ⟨Ya,(by show some (Value.int _ _)=some (Value.int _ _);congr 2;rw[Nat.pow_succ,←Nat.div_div_eq_div_mul];rfl),bSM⟩ rfl Mm5
 ·obtain rfl:k=4:=Yd
  refine Za6<|Za2<|Za2<|Za7<|Zaz<|aA<|Zag rfl Z0 rfl Mm0 (by first|exact sH|(simp only[aP, *];exact sH))<|Zac rfl sH ζ (lV (qK n))<|aG ?_;exact Zo [_] rfl ⟨⟨_,_,_,rfl,Mm0,Or.inr ⟨Z0,(by first|exact sH|(simp only[bOM,aP, *];exact sH)),rfl⟩⟩,bSM⟩ fun D hD=>rfl
theorem y6(i:Nat)(s:Λ)(hi:i≤100000)(hs:s.size≤1000)(D:aC):Fn prog 298 #[qI (i:Int),.string s] D (fun _ v=>v=.agg (bc (zD i s.data.toList)).toArray):=by
 refine Zw 11 func298 rfl (fun h0=>aA<|Zah rfl B7 rfl fun q1=>aJ<|M8 (cs:=[.int .u8 59,.int .u8 59,.int .u8 10]) rfl U412 iU aCV rfl rfl rfl bSM<|Za rfl<|Za rfl<|Zd rfl (fun R I=>aON i s hi hs _)<|Zd rfl (fun U O=>aFH (jU i s.data.toList) (by have:=MO i s.data.toList;omega) _)<|jM (cs:=[.int .u8 59,.int .u8 59,.int .u8 10,.int .u8 ((nS (jU i s.data.toList) 3).toNat:Int),.int .u8 ((nS (jU i s.data.toList) 2).toNat:Int),.int .u8 ((nS (jU i s.data.toList) 1).toNat:Int),.int .u8 ((nS (jU i s.data.toList) 0).toNat:Int)]) rfl NA B7 rfl Yg rfl bSM<|Zac rfl wJ ζ (lV (zD i s.data.toList))<|aG ?_);exact Zo [_] rfl ⟨⟨_,_,_,rfl,Mm0,Or.inr ⟨OP,(by first|exact wJ|(simp only[bOM,aP, *];exact wJ)),rfl⟩⟩,bSM⟩ fun D hD=>rfl
end L12
def RU:Rd UInt8:=fun _ b cs=>cs=[.int .u8 b.toNat]
theorem RU.up:RU.Up:=fun _ _ _ h=>h
theorem bDX(l:List UInt8):l.flatMap (fun b:UInt8=>[Value.int .u8 b.toNat])=bc l:=by
 induction l with
 |nil=>rfl
 |cons b l ih=>rw[bNW,ih];rfl
theorem jY.bytes{D:aC}{l:List UInt8}(h:Sl D RU 1 v l):jY D v l.length (bc l):=by
 rw[←bDX];exact jY.of (R:=RU) (fun _ _ _ h=>h) (fun _=>rfl) h
theorem aOV{l:List UInt8}{i:Nat}{b:UInt8}(h:l[i]?= some b):(bc l)[i]?= some (.int .u8 b.toNat):=by simp[bc,h]
theorem kZ.bytes{D:aC}{n:Nat}{l:List UInt8}(h:kZ D v n (bc l))(hn:l.length=n)(hb:n≤9223372036854775807):Sl D RU 1 v l:=
 h.sl hn hb fun i x hx=>⟨_,rfl,rfl,by
  have h1:=aOV hx;rw[bPK,List.take_one,List.head?_drop,h1];rfl⟩
def rz(n:Nat):List Γ:=List.replicate n (.int .u8 0)
theorem EU(a b:Nat):rz (a+b)=rz a++rz b:=by unfold rz;rw[List.replicate_append_replicate]
theorem V8(n:Nat):(rz n).length=n:=by simp[rz]
theorem aOC(n:Nat):((Array.range (n*1)).map (#[Value.int .u8 0][· %(#[Value.int .u8 0]:Array Γ).size]!)).toList=rz n:=by
 apply List.ext_getElem?;intro i;simp only[bRE,Array.toList_range,bOD,rz,List.getElem?_replicate,bPK];by_cases hi:i<n
 ·rw[bRI hi,bNK hi];simp only[bOO];congr 1;have:i%(#[Value.int .u8 0]:Array Γ).size=0:=by simp[Nat.mod_one]
  rw[this];rfl
 ·rw[bPU Yau,bNA hi];rfl
theorem aKX{A B C us:List Γ}{off:Nat}(h:off=A.length)(h2:us.length=B.length):(A++B++C).take off++us++(A++B++C).drop (off+us.length)=A++us++C:=by
 subst h;have I:(A++B++C).take A.length=A:=by rw[bND,bRZ]
 have O:(A++B++C).drop (A.length+us.length)=C:=by rw[h2,←LE,List.drop_left]
 rw[I,O]
theorem aCA{t e e' tr:Θ}{bd od n cd m k:Nat}{xv:Γ}{vs us ws:List Γ}{μ':aD}{ats:Array Θ}
  (ho:all[ix]?= some ⟨some d,.call {callee:=.builtin .copy,args:=#[x,y],argTypes:=ats},tr,pos,aft,g⟩) (ht:P.underlying t=some (.slice e)) (hat:ats[0]?= some t) (hs:TS P e 1) (hx:ev σ x=some (.slice (some ⟨bd,od,none⟩) n cd)) (hy:ev σ y=some xv)
  (hsrc:∀a w,Hl X σ μ Ds a w→(Builtin.lenOf xv).run P w=.ok m w∧(Builtin.firstCells 1 k xv).run P w=.ok us.toArray w) (hk:k=Nat.min m n)
  (hm:bP μ bd (.cells vs.toArray e' (0,0)) (.cells ws.toArray e' (0,0)) μ') (hl:od+us.length≤vs.length) (hw:vs.take od++us++vs.drop (od+us.length)=ws) (hc1:∀u∈us,cell1 u=true) (hfl:fl=false∨bd∈bad) (hN:Nat.blt d X.N=true) (hg:cQ all σ g)
  (kk:WL P X bad all K Q os ((d,qI k)::σ) μ' Ds):WL P X bad all K Q ((fl,ix)::os) σ μ Ds:=by
 refine fF ho rfl rfl hg fun a w hh=>?_
 obtain⟨h1,h2,h3,D,h4,h5,O⟩:=id hh;obtain⟨hlen,hfc⟩:=hsrc a w hh;obtain⟨w',hr,hw'⟩:=kY (P:=P) us 0 w bd od vs e' (h4.box _ hm.mem).1 Yd hc1;rw[Nat.add_zero,hw]at hw';have hcp:(Builtin.copy_ ats tr #[.slice (some ⟨bd,od,none⟩) n cd,xv]).run P w=.ok (qI k) w':=by
  have I:(#[Value.slice (some ⟨bd,od,none⟩) n cd,xv]:Array Γ)[0]?= some (.slice (some ⟨bd,od,none⟩) n cd):=rfl;have R:(#[Value.slice (some ⟨bd,od,none⟩) n cd,xv]:Array Γ)[1]?= some xv:=rfl;unfold Builtin.copy_;simp only[hat,I,R,Ω,TU.of ht w,Ξ,hlen,hs w,←hk,hfc,hr,ε,goInt]
 have hex:(execOp a.eval ⟨some d,.call {callee:=.builtin .copy,args:=#[x,y],argTypes:=ats},tr,pos,aft,g⟩).run P w=.ok (.value (qI k)) w':=by
  simp only[execOp,resolve,pure_bind,invoke,builtin];have I:(#[x,y].map a.eval)=#[.slice (some ⟨bd,od,none⟩) n cd,xv]:=Xbe
  rw[I,Ω,hcp];rfl
 rw[hex];have hst:=h4.set hm hw' rfl;refine⟨fun hf=>⟨Xbf,fun c hc hcb=>?_⟩,kk _ _ (Hl.put ⟨h1,h2,h3,D,hst,h5,O.step (fun _ p hp=>bNI Ya0) (fun _=>lO hw' (bMR.2 ⟨_,hm.mem,rfl⟩)) hst.dom⟩ hN _)⟩
 have hb:bd∈bad:=by
  rcases hfl with h|h
  ·rw[hf]at h;cases h
  ·exact h
 rw[hw'.1,bPV (by rintro rfl;exact hcb hb)]
theorem aIF{t e e' tr:Θ}{bd od n cd:Nat}{s:Λ}{vs ws:List Γ}{μ':aD}{ats:Array Θ}
  (ho:all[ix]?= some ⟨some d,.call {callee:=.builtin .copy,args:=#[x,y],argTypes:=ats},tr,pos,aft,g⟩) (ht:P.underlying t=some (.slice e)) (hat:ats[0]?= some t) (hs:TS P e 1) (hx:ev σ x=some (.slice (some ⟨bd,od,none⟩) n cd)) (hy:ev σ y=some (.string s)) (hn:s.size≤n)
  (hm:bP μ bd (.cells vs.toArray e' (0,0)) (.cells ws.toArray e' (0,0)) μ') (hl:od+s.size≤vs.length) (hw:vs.take od++bc s.data.toList++vs.drop (od+(bc s.data.toList).length)=ws) (hfl:fl=false∨bd∈bad) (hN:Nat.blt d X.N=true) (hg:cQ all σ g)
  (kk:WL P X bad all K Q os ((d,qI s.size)::σ) μ' Ds):WL P X bad all K Q ((fl,ix)::os) σ μ Ds:=
 aCA (m:=s.size) (k:=s.size) (us:=bc s.data.toList) ho ht hat hs hx hy (fun a w _=>⟨rfl,Go.Lib.run_firstCells_string (P:=P) w 1 s⟩) (bQI hn).symm hm (by rw[mC];exact hl) hw (lV _) hfl hN hg kk
theorem JZ{t e e' I tr:Θ}{bd od n cd bs os' m cs:Nat}{vs us ws xs:List Γ}{μ':aD}{ats:Array Θ}
  (ho:all[ix]?= some ⟨some d,.call {callee:=.builtin .copy,args:=#[x,y],argTypes:=ats},tr,pos,aft,g⟩) (ht:P.underlying t=some (.slice e)) (hat:ats[0]?= some t) (hs:TS P e 1) (hx:ev σ x=some (.slice (some ⟨bd,od,none⟩) n cd)) (hy:ev σ y=some (.slice (some ⟨bs,os',none⟩) m cs)) (hn:m≤n)
  (hsm:(bs,.cells xs.toArray I (0,0))∈μ) (hus:(xs.drop os').take m=us) (hul:us.length=m)
  (hm:bP μ bd (.cells vs.toArray e' (0,0)) (.cells ws.toArray e' (0,0)) μ') (hl:od+m≤vs.length) (hw:vs.take od++us++vs.drop (od+us.length)=ws) (hc1:∀u∈us,cell1 u=true) (hfl:fl=false∨bd∈bad) (hN:Nat.blt d X.N=true) (hg:cQ all σ g)
  (kk:WL P X bad all K Q os ((d,qI m)::σ) μ' Ds):WL P X bad all K Q ((fl,ix)::os) σ μ Ds:=
 aCA (m:=m) (k:=m) (us:=us) ho ht hat hs hx hy (fun a w hh=>⟨rfl,by
  simp only[Builtin.firstCells];have hbx:w.heap[bs]?= some (.cells xs.toArray I (0,0)):=by
   obtain⟨_,_,_,D,h4,_⟩:=hh;exact(h4.box _ hsm).1
  refine oK (by rw[bPK];exact hul) fun j u hj=>sL (cs:=xs.toArray) hbx ?_
  have hjl:=(bMW.1 hj).1;rw[←hus,bPX Yd,bPC]at hj;simpa using hj⟩) (bQI hn).symm hm Yd hw hc1 hfl hN hg kk

theorem aJC{t e:Θ}{n b o l:Nat}{I:IntKind}{i:Int}(ho:all[ix]?= some ⟨some d,.slice t x (some y) none none,ty,pos,aft,g⟩)(ht:P.underlying t=some (.array n e))(hs:TS P e 1)(hx:ev σ x=some (.pointer (some ⟨b,o,none⟩)))
  (hy:ev σ y=some (.int I i)) (hi:i=(l:Int)) (h3:l<n)
  (hN:Nat.blt d X.N=true) (hg:cQ all σ g) (kk:WL P X bad all K Q os ((d,.slice (some ⟨b,o+l,none⟩) (n-l) (n-l))::σ) μ Ds):WL P X bad all K Q ((fl,ix)::os) σ μ Ds:=by
 subst hi;refine bW ho rfl rfl hN hg (fun ρ hρ w'=>?_) kk;simp only[execOp,hρ x _ hx,hρ y _ hy,bPI,bOO];unfold Instr.sliceAt Instr.sureAddr Instr.sliceBounds Instr.sliceBound asIntOf;have O:(0:Int)≤(l:Int)∧(l:Int)≤(n:Nat):=Yd
 simp only[Ω,TU.of ht w',Ξ,hs w',ε,pure_bind,O,bRS,bPG,bOI,bPK];rw[bNA Yd];simp[Addr.add]
theorem aKA{t e:Θ}{n b o:Nat}(ho:all[ix]?= some ⟨some d,.slice t x none none none,ty,pos,aft,g⟩)(ht:P.underlying t=some (.array n e))(hs:TS P e 1)(hx:ev σ x=some (.pointer (some ⟨b,o,none⟩)))(h3:Nat.beq n 0=false)
  (hN:Nat.blt d X.N=true) (hg:cQ all σ g) (kk:WL P X bad all K Q os ((d,.slice (some ⟨b,o,none⟩) n n)::σ) μ Ds):WL P X bad all K Q ((fl,ix)::os) σ μ Ds:=by
 have h3':¬n=0:=fun h=>by subst h;cases h3
 refine bW ho rfl rfl hN hg (fun ρ hρ w'=>?_) kk;simp only[execOp,hρ x _ hx,bPI];unfold Instr.sliceAt Instr.sureAddr Instr.sliceBounds;simp only[Ω,TU.of ht w',Ξ,hs w',ε,pure_bind,bPK];simp[h3',Addr.add]
theorem aRX{t e:Θ}{b o j n cap:Nat}{k:IntKind}(ho:all[ix]?= some ⟨some d,.slice t x (some y) none none,ty,pos,aft,g⟩)(ht:P.underlying t=some (.slice e))(hs:TS P e 1)(hx:ev σ x=some (.slice (some ⟨b,o,none⟩) n cap))(hy:ev σ y=some (.int k (j:Int)))(hj:j≤n)(hc:j<cap)
  (hN:Nat.blt d X.N=true) (hg:cQ all σ g) (kk:WL P X bad all K Q os ((d,.slice (some ⟨b,o+j,none⟩) (n-j) (cap-j))::σ) μ Ds):WL P X bad all K Q ((fl,ix)::os) σ μ Ds:=by
 have ha:(if cap=j then some (⟨b,o,none⟩:Addr)else(some (⟨b,o,none⟩:Addr)).map (·.add (j*1)))=some ⟨b,o+j,none⟩:=by
  rw[bNA Yd];simp[gY]
 refine bW ho rfl rfl hN hg (fun ρ hρ w'=>?_) kk;simp only[execOp,bPI,bOO,hρ x _ hx,hρ y _ hy];unfold Instr.sliceAt Instr.slice Instr.sliceBounds Instr.sliceBound asIntOf;have hle:(0:Int)≤(j:Int)∧(j:Int)≤(n:Nat):=Yd
 simp only[Ω,TU.of ht w',Ξ,ε,pure_bind,hs w',hle,bRS,bPG,bOI,ha]
theorem Sl.part{α:Type}{R:Rd α}{D:aC}{ad:Option Addr}{n cap i j:Nat}{xs:List α}(h:Sl D R 1 (.slice ad n cap) xs)(h1:i≤j)(h2:j≤n):Sl D R 1 (.slice (if cap=i then ad else ad.map (·.add (i*1))) (j-i) (cap-i)) ((xs.drop i).take (j-i)):=by
 obtain⟨a,c,hv,O,k2,I⟩:=h;cases hv;have hlen:((xs.drop i).take (j-i)).length=j-i:=by simp;omega
 refine⟨_,_,by rw[hlen],Yd,Yd,?_⟩;by_cases he:j=i
 ·exact bNI (bQC.1 Yd)
 ·rcases I with I|⟨b,o,rfl,I⟩
  ·subst I;simp at h2;omega
  ·refine bNC ⟨b,o+i,by rw[bNA Yd];simp[gY],fun q z hq=>?_⟩;rw[List.getElem?_take]at hq;split at hq
   ·rw[bPC]at hq;obtain⟨cs,hr,hc,hA⟩:=I _ _ hq;exact⟨cs,hr,hc,by rw[show o+i+q*1=o+(i+q)*1 by omega];exact hA⟩
   ·cases hq
theorem TE{α:Type}{R:Rd α}{t e:Θ}{D₁:aC}{ad:Option Addr}{n cap i j:Nat}{I k2:IntKind}{xs:List α}(ho:all[ix]?= some ⟨some d,.slice t x (some y) (some z) none,ty,pos,aft,g⟩)(ht:P.underlying t=some (.slice e))(hs:TS P e 1)(hx:ev σ x=some (.slice ad n cap))(hS:Sl D₁ R 1 (.slice ad n cap) xs)
  (hy:ev σ y=some (.int I (i:Int))) (hz:ev σ z=some (.int k2 (j:Int))) (h1:i≤j) (h2:j≤n)
  (hN:Nat.blt d X.N=true) (hg:cQ all σ g) (kk:∀a',Sl D₁ R 1 (.slice a' (j-i) (cap-i)) ((xs.drop i).take (j-i))→WL P X bad all K Q os ((d,.slice a' (j-i) (cap-i))::σ) μ Ds):WL P X bad all K Q ((fl,ix)::os) σ μ Ds:=by
 have hnc:n≤cap:=by obtain⟨a,c,hv,I,k2,U⟩:=hS;cases hv;exact I
 refine bW (v:=.slice (if cap=i then ad else ad.map (·.add (i*1))) (j-i) (cap-i)) ho rfl rfl hN hg (fun ρ hρ w'=>?_) (kk _ (hS.part h1 h2));simp only[execOp,bPI,bOO,hρ x _ hx,hρ y _ hy,hρ z _ hz];unfold Instr.sliceAt Instr.slice Instr.sliceBounds Instr.sliceBound asIntOf;have O:(0:Int)≤(i:Int)∧(i:Int)≤(j:Nat):=Yd
 have a2:(0:Int)≤(j:Int)∧(j:Int)≤(cap:Nat):=Yd
 simp only[Ω,TU.of ht w',Ξ,ε,pure_bind,hs w',O,a2,bRS,bPG,bOI]
theorem aVU{α:Type}{R:Rd α}{t e:Θ}{D₁:aC}{ad:Option Addr}{n cap j:Nat}{k2:IntKind}{xs:List α}(ho:all[ix]?= some ⟨some d,.slice t x none (some z) none,ty,pos,aft,g⟩)(ht:P.underlying t=some (.slice e))(hs:TS P e 1)(hx:ev σ x=some (.slice ad n cap))(hS:Sl D₁ R 1 (.slice ad n cap) xs)
  (hz:ev σ z=some (.int k2 (j:Int))) (h2:j≤n)
  (hN:Nat.blt d X.N=true) (hg:cQ all σ g) (kk:∀a',Sl D₁ R 1 (.slice a' j cap) (xs.take j)→WL P X bad all K Q os ((d,.slice a' j cap)::σ) μ Ds):WL P X bad all K Q ((fl,ix)::os) σ μ Ds:=by
 have hnc:n≤cap:=by obtain⟨a,c,hv,I,k2,O⟩:=hS;cases hv;exact I
 have hp:=hS.part (bRC j) h2;rw[bQQ,bQH,bQH]at hp;refine bW (v:=.slice (if cap=0 then ad else ad.map (·.add (0*1))) j cap) ho rfl rfl hN hg (fun ρ hρ w'=>?_) (kk _ hp);simp only[execOp,bPI,bOO,hρ x _ hx,hρ z _ hz];unfold Instr.sliceAt Instr.slice Instr.sliceBounds Instr.sliceBound asIntOf;have a2:(0:Int)≤(j:Int)∧(j:Int)≤(cap:Nat):=Yd
 simp only[Ω,TU.of ht w',Ξ,ε,pure_bind,hs w',a2,bRS,bPG,bOI,bQH]

theorem uD{t1 t2 e:Θ}{D₁:aC}{l:List UInt8}(ho:all[ix]?= some ⟨some d,.convert t1 t2 x,ty,pos,aft,g⟩)(h1:P.underlying t1=some (.slice e))(he:P.underlying e=some (.int .u8))(h2:P.underlying t2=some .string)(hx:ev σ x=some v)(hS:Sl D₁ RU 1 v l)(hD:D₁∈Ds)
  (hbad:∀b o c,v=.slice (some ⟨b,o,none⟩) l.length c→l≠[]→b∉bad) (hN:Nat.blt d X.N=true) (hg:cQ all σ g) (kk:WL P X bad all K Q os ((d,.string ⟨l.toArray⟩)::σ) μ Ds):WL P X bad all K Q ((fl,ix)::os) σ μ Ds:=
 pA ho rfl rfl hN hg (fun a w hh w' hk=>by
  have key:(Go.convert t1 t2 v).run P w'=.ok (.string ⟨l.toArray⟩) w':=by
   obtain⟨ad,cap,rfl,O,k2,I⟩:=hS;rcases I with I|⟨b,o,rfl,I⟩
   ·subst I;cases ad with
    |none=>exact Go.run_convert_bytes_nil w' t1 e h1 he _ cap t2 h2
    |some ad=>exact Go.run_convert_bytes_back w' t1 t2 e ad cap [] h1 he h2 fun j hj=>by cases hj
   ·refine Go.run_convert_bytes_back w' t1 t2 e ⟨b,o,none⟩ cap l h1 he h2 fun j hj=>?_;obtain⟨cs,hr,hc,hA⟩:=I j l[j] (bMU hj);obtain rfl:cs=[.int .u8 l[j].toNat]:=hr;have hb:b∉bad:=hbad b o cap rfl (fun h=>by subst h;cases hj)
    rw[gY];have:=hh.dataAt hD (hA 0 _ rfl) hb hk;simpa using this
  simp only[execOp,hh.eval hx];rw[Ω,key];rfl) kk
namespace L12
open C12 Go.Lib
theorem CD(s:Λ):s.data.toList.length=s.size:=rfl
def eL(ls:List Λ):List (List UInt8):=ls.map fun x=>x.data.toList
theorem DS{ls:List Λ}{k:Nat}{x:Λ}(h:ls[k]?= some x):(eL ls)[k]?= some x.data.toList:=by unfold eL;rw[bOD,h];rfl
theorem JA{ls:List Λ}(k:Nat)(hn:ls.length≤1000)(hsz:∀l∈ls,l.size≤1000):(rG ((eL ls).take k)).length≤1009000:=by
 have h:=B0 ((eL ls).take k) 0 1000 (fun l hl=>by
  obtain⟨x,hx,rfl⟩:=bMR.1 (bRT hl);exact hsz x hx)
 have h2:((eL ls).take k).length≤1000:=by rw[bON];unfold eL;rw[bOB];omega
 have h3:(9+1000)*((eL ls).take k).length≤1009*1000:=Nat.mul_le_mul_left _ h2;unfold rG;omega
section
variable{P:Program}{X:Cx}{γb:Type}[Membership Nat γb]{bad:γb}{all:Array Oper}{K:Act→Δ→Prop}{Q:Exit→Act→Δ→Prop}{σ:bU}{μ:aD}{Ds:List aC}{os:List (Bool×Nat)}
theorem V4{b:Nat}{e:Θ}{fz:Nat×Nat}{cs cs':List Γ}(h:cs=cs')(k:WL P X bad all K Q os σ ((b,.cells cs'.toArray e fz)::μ) Ds):WL P X bad all K Q os σ ((b,.cells cs.toArray e fz)::μ) Ds:=h▸k
end
theorem aJY(i:Nat)(s:Λ)(hi:i≤100000)(hs:s.size≤1000)(D:aC):Fn prog 194 #[qI (i:Int),.string s] D (fun D' v=>Sl D' RU 1 v (fE i s.data.toList)):=by
 refine Zw 53 func194 rfl fun h0=>aA<|Zf rfl<|aJ<|Za rfl<|Za rfl<|Zd rfl (fun V O=>y6 i s hi hs _)<|Za rfl<|gR rfl U9 rfl rfl rfl bSM<|Zd rfl (fun Y R=>aFH s.size Yd _)<|Zah rfl B7 rfl fun q1=>Zah rfl aDY rfl fun Z=>?_;refine Zac rfl wJ (.tail ζ) (lV (zD i s.data.toList))<|Zac rfl sH ζ (lV (qK s.size))<|aJ<|Za rfl<|gR rfl U9 rfl rfl rfl bSM<|Zad rfl<|Zad rfl<|tO (n:=s.size+9) rfl U99 iU aFK rfl aUK Ya Ya Yd (aOC _) rfl bSM (fun bo=>V4 (cs':=[]++rz 2++rz (s.size+7)) (by first|(rw[bOA,←EU];done)|(rw[bOA,←EU];congr 1;omega))<|Zf rfl<|aJ<|Za rfl ?_);refine aJC (l:=2) rfl U414 iU rfl rfl rfl Yd rfl bSM<|JZ (us:=bc [nS s.size 1,nS s.size 0]) rfl U99 rfl iU rfl rfl Yd Mm1 rfl rfl .head (by simp[V8]<;>omega) (aKX rfl rfl) (lV _) (bNI rfl) rfl bSM<|V4 (cs':=bc [nS s.size 1,nS s.size 0]++rz 1++rz (s.size+6)) (by first|(rw[bOA,bND,←EU];done)|(rw[bOA,bND,←EU];congr 2;omega))<|aJ<|Za rfl<|Zj rfl s4 rfl<|cA rfl U412 iU rfl rfl Yd Yd rfl bSM<|Zp rfl EK rfl Mm2 rfl<|eY rfl U99 iU rfl rfl Yd Yd rfl bSM<|cR (ws:=bc [nS s.size 1,nS s.size 0]++bc [59]++rz (s.size+6)) rfl rfl rfl rfl iU .head Xcg (aKX (by simp[mC]<;>omega) rfl) (lV [59]) bSM<|V4 (cs':=bc [nS s.size 1,nS s.size 0,59]++rz s.size++rz 6) (by rw[EU,←bND];rfl)<|aJ ?_;refine Za rfl<|aRX (j:=3) rfl U99 iU rfl rfl Yd Yd rfl bSM<|Za rfl<|aIF (ws:=bc [nS s.size 1,nS s.size 0,59]++bc s.data.toList++rz 6) rfl U99 rfl iU rfl rfl Yd .head Xcg (aKX rfl (by rw[mC,V8];rfl)) (bNI rfl) rfl bSM<|V4 (cs':=(bc [nS s.size 1,nS s.size 0,59]++bc s.data.toList)++rz 1++rz 5) (by rw[bND _ (rz 1)];rfl)<|aJ<|Za rfl<|Za rfl<|gR rfl U9 rfl rfl rfl bSM<|Zad rfl<|aRX (j:=3+s.size) rfl U99 iU rfl Ya Yd Yd rfl bSM<|Zf rfl ?_;refine aJ<|Za rfl<|Zj rfl s4 rfl<|cA rfl U412 iU rfl rfl Yd Yd rfl bSM<|Zp rfl EK rfl Mm2 rfl<|eY rfl U99 iU rfl rfl Yd Yd rfl bSM<|cR (ws:=(bc [nS s.size 1,nS s.size 0,59]++bc s.data.toList)++bc [59]++rz 5) rfl rfl rfl rfl iU .head Xcg (aKX (by simp[mC]<;>omega) rfl) (lV [59]) bSM<|V4 (cs':=(bc [nS s.size 1,nS s.size 0,59]++bc s.data.toList++bc [59])++rz 4++rz 1) (by rw[bND _ (rz 4)];rfl)<|bO<|bN [] 2 5 12<|Za rfl<|aRX (j:=1) rfl U99 iU rfl rfl Yd Yd rfl bSM ?_;refine Zj rfl aJP rfl<|aKA rfl U414 iU rfl rfl rfl bSM<|JZ (us:=bc (qK (jU i s.data.toList))) (ws:=(bc [nS s.size 1,nS s.size 0,59]++bc s.data.toList++bc [59])++bc (qK (jU i s.data.toList))++rz 1) rfl U99 rfl iU rfl rfl Yd Mm2 rfl rfl .head Xcg (aKX (by simp[mC]<;>omega) rfl) (lV _) (bNI rfl) rfl bSM<|V4 (cs':=(bc [nS s.size 1,nS s.size 0,59]++bc s.data.toList++bc [59]++bc (qK (jU i s.data.toList)))++rz 1++[]) (by rw[bNN])<|aJ<|Za rfl<|Zj rfl s4 rfl<|cA rfl U412 iU rfl rfl Yd Yd rfl bSM<|Zp rfl EK rfl Mm2 rfl<|eY rfl U99 iU rfl rfl Yd Yd rfl bSM<|cR (ws:=(bc [nS s.size 1,nS s.size 0,59]++bc s.data.toList++bc [59]++bc (qK (jU i s.data.toList)))++bc [10]++[]) rfl rfl rfl rfl iU .head (by simp[mC,V8,qK]<;>omega) (aKX (by simp[mC,qK]<;>omega) rfl) (lV [10]) bSM<|V4 (cs':=bc (fE i s.data.toList)) (by rw[bNN,←uM,←uM,←uM,←uM];rfl) ?_;refine aJ<|Za rfl<|We ?_;have ha:bI 5 1 (qS bo (s.size+9) (s.size+9)) (s.size+9) (bc (fE i s.data.toList)) [(bo,qC (bc (fE i s.data.toList)) 5)]:=bNC ⟨bo,s.size+9,[],rfl,bNJ _,by rw[bNN],by rw[mC,mU,CD];omega,by rw[bNN,mC,mU,CD];omega⟩
 refine dS (A:=[]) (B:=[(_,_),(_,_)]) ha rfl fun D9 U I=>?_;exact aE rfl fun D hD=>(I.bytes (by rw[mU,CD];omega) Yd).up RU.up (hD _ Yf)
theorem aDD(lv:Γ)(ls:List Λ)(D:aC)(hS:Sl D RS 1 lv ls)(hn:ls.length≤1000)(hsz:∀l∈ls,l.size≤1000):Fn prog 97 #[lv] D (fun D' v=>Sl D' RU 1 v (rG (eL ls))):=by
 have hfl:=fun k=>JA (ls:=ls) k hn hsz
 refine Zw 19 func97 rfl (fun h0=>aA<|Zf rfl<|bC<|Za rfl<|eE rfl U22 rfl Ym rfl rfl bSM<|Za rfl<|aF<|Za1<|Zc (Nat×Γ×aD) (fun g=>ls.length-g.1) (fun g=>g.1≤ls.length∧bI 5 1 g.2.1 (rG ((eL ls).take g.1)).length (bc (rG ((eL ls).take g.1))) g.2.2) (fun g=>[(7,qI (g.1:Int)),(2,g.2.1)]) [(6,_),(5,_)] (fun g=>g.2.2++[]) (fun g=>[D]) (0,qN,[]) ⟨Yf,by simpa [rG,lC,bc]using bI.nil⟩ ⟨Ya,Ya,bSM⟩ Mm5 ?_);rintro⟨k,v,ν⟩ ⟨h1,ha⟩;simp only at h1 ha;have hflk:=hfl k;refine aA<|Zan rfl<|bO<|Zae rfl (fun hc1=>?_) fun hc1=>?_
 ·simp only at hc1;have hlt:k<ls.length:=Yd
  obtain⟨x,hx⟩:=cT ls k;have hxs:=hsz x (n5 hx);refine aQ<|Za3<|Za1<|aA<|Za rfl<|Zx rfl U22 fU rfl hS rfl hx fun b1 o1 I O hE R=>?_;obtain rfl:I=[.string _]:=O;refine Zh 0 rfl sZ rfl R rfl<|Zf rfl<|Zf rfl<|aF<|aO<|Za rfl<|Za rfl<|Za rfl<|Zy rfl (fun D1 U=>aJY k x Yd (hsz x (n5 hx)) _) fun v1 D1 U V=>aS (A:=[]) (B:=[]) rfl U99 rfl rfl iU aFK rfl aUK rfl rfl rfl ha (jY.bytes V) Yf (by rw[mC,bPK]) (by rw[mC,bPK]) (lV _) (by rw[mU,CD];omega) (bNI rfl) rfl bSM fun v1 ν1 Y=>?_
  have Z:bI 5 1 v1 (rG ((eL ls).take (k+1))).length (bc (rG ((eL ls).take (k+1)))) ν1:=by rw[EB (DS hx),LE,uM];exact Y
  refine aV (ν1++[]) rfl<|Wan ?_;exact aL 16 (k+1,v1,ν1) ⟨Yn,Z⟩ Yn ⟨Ya,Ya,bSM⟩ rfl rfl Mm5 fun D h=>⟨D,bNM _ (h),Le.refl D⟩
 ·obtain rfl:k=ls.length:=by simp only at hc1;omega
  rw[show(eL ls).take ls.length=(eL ls)from bNV (by simp[eL])]at ha hflk;refine Za6<|Za2<|Za2<|Za7<|Zaz<|aA<|Za rfl<|Zf rfl<|aG<|dS (A:=[]) (B:=[]) ha rfl fun D9 hF hB=>?_;exact aE rfl fun D hD=>(hB.bytes rfl Yd).up RU.up (hD _ Yf)
theorem aVW(lv:Γ)(ls:List Λ)(D:aC)(hS:Sl D RS 1 lv ls):Fn prog 36 #[lv] D (fun D' v=>∃v1,v=.tuple #[v1,qI (eG ls)]∧Sl D' RU 1 v1 (if eG ls=0 then rG (eL ls)else [])):=by
 refine Zw 12 func36 rfl fun h0=>aA<|Zf rfl<|Zf rfl<|bC<|Za rfl<|Zd rfl (fun V O=>vR _ ls _ (hS.up RS.up (O _ Yf)))<|Zf rfl<|aJ<|Za rfl<|Zax rfl<|aF ?_;refine Zae rfl (fun hc1=>?_) fun hc1=>?_
 ·have hf:eG ls≠0:=Xaa
  refine Wau ?_;exact Zo [_,_] rfl cF fun D hD=>⟨_,rfl,by rw[bNA hf];exact Sl.nil⟩
 ·have hf:eG ls=0:=Xaa
  refine aQ<|aA<|Za rfl<|Zy rfl (fun U I=>aDD _ ls _ (hS.up RS.up (I _ Yf)) (by have:=y3 hf;omega) fun l hl=>by have:=n9 hf l hl;omega) fun v2 U I R=>Wcd ?_;exact Zo [_,_] rfl cF fun D hD=>⟨_,by rw[hf];rfl,by rw[bNK hf];exact R.up RU.up (hD _ Yf)⟩
end L12
def lD(l:List Int):List Γ:=l.map (.int .u8)
theorem LO{l:List Int}{k:Nat}{n:Int}(h:l[k]?= some n):(lD l)[k]?= some (.int .u8 n):=by simp[lD,h]
theorem xA(dp:Nat){e:Θ}(hu:P.underlying e=some (.int .u8))(l m:List Int)(w:Δ):∀(is:List Nat),(∀i∈is,i<l.length∧i<m.length)→
  (Op.eqItems (dp+1) e 1 (lD l).toArray (lD m).toArray is).run P w=.ok (is.all fun i=>l[i]? ==m[i]?) w
 | [],_=>by simp[Op.eqItems]
 |i::is,h=>by
  obtain⟨h1,h2⟩:=h i bMV;have g1:(lD l).toArray[i*1]?= some (.int .u8 l[i]):=by rw[bPK];simpa using LO (bMU h1)
  have g2:(lD m).toArray[i*1]?= some (.int .u8 m[i]):=by rw[bPK];simpa using LO (bMU h2)
  simp only[Op.eqItems,Ω,eO hu g1,eO hu g2,run_equalIn_int w dp e .u8 .u8 _ _ hu,Ξ,bQU,bMU h1,bMU h2];by_cases he:l[i]=m[i]
  ·simp[he,xA dp hu l m w is (fun j hj=>h j (bMT _ hj))]
  ·simp[he]
structure GS(P:Program)(f:Field)(o n:Nat):Prop where
 name:f.name≠ "_"
 eqp:∀(l m:List Int) w,o+n≤l.length→o+n≤m.length→∃u v,(part f.type (lD l).toArray f.offset).run P w=.ok u w∧(part f.type (lD m).toArray f.offset).run P w=.ok v w∧(Op.equalIn 9999 f.type u v).run P w=.ok ((l.drop o).take n==(m.drop o).take n) w
inductive W9(P:Program):Nat→Nat→List Field→Prop
 |nil {o}:W9 P o o []
 |cons {o n e f fs} (h:GS P f o n) (r:W9 P (o+n) e fs):W9 P o e (f::fs)
theorem W9.le{o e:Nat}{fs:List Field}(h:W9 P o e fs):o≤e:=by
 induction h with
 |nil=>exact bNJ _
 |cons _ _ ih=>omega
theorem HN(l m:List Int)(o n:Nat):(l.drop o==m.drop o)=(((l.drop o).take n==(m.drop o).take n)&&(l.drop (o+n)==m.drop (o+n))):=by
 rw[bPT];simp only[bRL,bMS];constructor
 ·intro h;exact⟨by rw[h],by rw[←bQX,←bQX,h]⟩
 ·rintro⟨h1,h2⟩;rw[←bPJ n (l.drop o),←bPJ n (m.drop o),h1,bQX,bQX,h2]
theorem IJ(l m:List Int)(w:Δ){o e:Nat}{fs:List Field}(h:W9 P o e fs)(hl:l.length=e)(hm:m.length=e):(Op.eqFields 9999 (lD l).toArray (lD m).toArray fs).run P w=.ok (l.drop o==m.drop o) w:=by
 induction h with
 |nil=>
  rw[bOL Yd,bOL Yd];rfl
 | @cons o n e f fs h r ih=>
  have hle:=r.le;obtain⟨u,v,h1,h2,h3⟩:=h.eqp l m w Yd Yd;rw[Op.eqFields,bNK h.name];simp only[Ω,h1,h2,Ξ];rw[h3,HN l m o n];simp only[Ξ];cases hx:(l.drop o).take n==(m.drop o).take n with
  |true=>
   simp only[bSD,bOS,bPL,bQZ];exact ih hl hm
  |false=>simp only[bSJ,bPG,ε,Bool.false_and]
theorem BK{t:Θ}{n o:Nat}(ha:TA P t true)(hs:TS P t n){l:List Int}(_hl:o+n≤l.length)(w:Δ):(part t (lD l).toArray o).run P w=.ok (.agg (lD ((l.drop o).take n)).toArray) w:=by
 unfold part;simp only[Ω,ha w,Ξ,bPG,hs w,ε];congr 2;apply Array.ext';simp only[Array.toList_extract,List.extract_eq_take_drop,lD,List.map_drop,List.map_take];congr 1;omega
theorem GS.arr{f:Field}{o n:Nat}{e:Θ}(hn:f.name≠ "_")(ho:f.offset=o)(ht:P.underlying f.type=some (.array n e))(he:P.underlying e=some (.int .u8))(hc:P.cellsOf e=1)(ha:TA P f.type true)(hs:TS P f.type n):GS P f o n:=by
 refine⟨hn,fun l m w hl hm=>⟨_,_,by rw[ho];exact BK ha hs hl w,by rw[ho];exact BK ha hs hm w,?_⟩⟩;obtain⟨i,hi⟩:=info_of_underlying he;have h:=run_equalIn_array (P:=P) w 9998 (lD ((l.drop o).take n)).toArray (lD ((m.drop o).take n)).toArray ht hi;have I:((l.drop o).take n).length=n:=by rw[bON,bOU];omega
 have O:((m.drop o).take n).length=n:=by rw[bON,bOU];omega
 rw[hc,xA 9997 he _ _ w (List.range n) fun j hj=>Xbr,tR I O]at h;exact h
def bMI(P:Program)(t:Θ)(n:Nat):Prop:=P.underlying t=some (.struct (P.fieldsOf t))∧P.stoodInHeld t=false∧P.eqGuardType P.depth t=false∧W9 P 0 n (P.fieldsOf t).toList
theorem NG{t:Θ}{n:Nat}(h:bMI P t n){l m:List Int}(hl:l.length=n)(hm:m.length=n)(w:Δ):(Op.equal t (.agg (lD l).toArray) (.agg (lD m).toArray)).run P w=.ok (l==m) w:=by
 have he:=run_equalIn_struct (P:=P) w 9999 t (lD l).toArray (lD m).toArray h.1 h.2.1;show(Op.equalIn (9999+1) t (.agg (lD l).toArray) (.agg (lD m).toArray)).run P w=_;rw[he,IJ l m w h.2.2.2 hl hm];simp
theorem aDE{t t':Θ}{n:Nat}{l m:List Int}(ho:all[ix]?= some ⟨some d,.binOp .eql t x y t',ty,pos,aft,g⟩)(ht:bMI P t n)(hl:l.length=n)(hm:m.length=n)(hx:ev σ x=some (.agg (lD l).toArray))(hy:ev σ y=some (.agg (lD m).toArray))(hN:Nat.blt d X.N=true)(hg:cQ all σ g)
  (kk:WL P X bad all K Q os ((d,.bool (l==m))::σ) μ Ds):WL P X bad all K Q ((fl,ix)::os) σ μ Ds:=
 M6 ho (fun w=>by
  have hgd:(eqGuard .eql t x y (.agg (lD l).toArray) (.agg (lD m).toArray)).run P w=.ok () w:=by
   simp only[eqGuard,program];simp[Sem.run,ht.2.2.1,go_sem]
  rw[Ω,hgd];show((do Pure.pure (Value.bool (←Op.equal t (.agg (lD l).toArray) (.agg (lD m).toArray)))):Sem Γ).run P w=_;rw[Ω,NG ht hl hm];rfl) hx hy hN hg kk
def m4(l:List UInt8):List Int:=l.map fun b=>(b.toNat:Int)
theorem O8{l m:List UInt8}:(m4 l==m4 m)=decide (l=m):=by
 rw[bPT];simp only[bRL,GT];constructor
 ·intro h;have:(m4 l).map (fun n:Int=>UInt8.ofNat n.toNat)=(m4 m).map (fun n:Int=>UInt8.ofNat n.toNat):=by rw[h]
  simpa [m4,bSC]using this
 ·rintro rfl;rfl
namespace L12
open C12 Go.Lib
def aQQ(c d:UInt8):Nat→Nat
 |0=>0
 |1=>c.toNat-48
 |_=>(c.toNat-48)*10+(d.toNat-48)
theorem R3{x:UInt8}:qB x=true ↔ 48≤x.toNat∧x.toNat≤57:=by unfold qB;simp
theorem bGY{c d:UInt8}{k:Nat}(hk:k<2)(h:∀j,j<k→∀x,[c,d][j]?= some x→qB x=true):aQQ c d k≤9:=by
 obtain rfl|rfl:k=0∨k=1:=Yd
 ·exact bRC _
 ·have:=R3.1 (h 0 Yd c rfl);show c.toNat-48≤9;omega
theorem aVC{c d x:UInt8}{k:Nat}(hk:k<2)(hx:[c,d][k]?= some x)(h1:48≤x.toNat∧x.toNat≤57):((aQQ c d k:Nat):Int)*10+((x.toNat:Int)-48)=((aQQ c d (k+1):Nat):Int):=by
 obtain rfl|rfl:k=0∨k=1:=Yd
 ·obtain rfl:c=x:=Xag
  show(0:Int)*10+_=((c.toNat-48:Nat):Int);omega
 ·obtain rfl:d=x:=Xag
  show((c.toNat-48:Nat):Int)*10+_=(((c.toNat-48)*10+(d.toNat-48):Nat):Int);omega
theorem bBN{c d:UInt8}(h:∀j,j<2→∀x,[c,d][j]?= some x→qB x=true):aQQ c d 2≤99∧True:=by
 have h1:=R3.1 (h 0 Yd c rfl);have h2:=R3.1 (h 1 Yd d rfl)
 refine⟨?_,bSM⟩;show(c.toNat-48)*10+(d.toNat-48)≤99;omega
theorem PV(c d:UInt8)(t:List UInt8):G3 (c::d::t)=(if qB c=true∧qB d=true∧(c.toNat-48)*10+(d.toNat-48)≤50 then some ((c.toNat-48)*10+(d.toNat-48))else none):=rfl
theorem bDS{c d x:UInt8}{t:List UInt8}{k:Nat}(hk:k<2)(hx:[c,d][k]?= some x)(h:qB x=false):G3 (c::d::t)=none:=by
 rw[PV,bNA];rintro⟨h1,h2, -⟩;obtain rfl|rfl:k=0∨k=1:=Yd
 ·obtain rfl:c=x:=Xag
  rw[h]at h1;cases h1
 ·obtain rfl:d=x:=Xag
  rw[h]at h2;cases h2
theorem aNS{c d:UInt8}{t:List UInt8}(h1:qB c=true)(h2:qB d=true)(h:((aQQ c d 2:Nat):Int)≤50):G3 (c::d::t)=some (aQQ c d 2):=by
 have h':(c.toNat-48)*10+(d.toNat-48)≤50:=by have:aQQ c d 2=(c.toNat-48)*10+(d.toNat-48):=rfl;omega
 rw[PV,bNK ⟨h1,h2,h'⟩];rfl
theorem aWI{c d:UInt8}{t:List UInt8}(h:(50:Int)<((aQQ c d 2:Nat):Int)):G3 (c::d::t)=none:=by
 have h':50<(c.toNat-48)*10+(d.toNat-48):=by have:aQQ c d 2=(c.toNat-48)*10+(d.toNat-48):=rfl;omega
 rw[PV,bNA];rintro⟨-, -,h3⟩;omega
theorem bDI{b:List UInt8}{n:Nat}(h:G3 b=some n):n≤50:=by
 unfold G3 at h;split at h
 ·split at h
  ·rename_i hh;cases h;exact hh.2.2
  ·cases h
 ·cases h
theorem bLJ{α:Type}{l:List α}(h:2≤l.length):∃a b t,l=a::b::t:=by
 match l,h with
 |a::b::t,_=>exact⟨a,b,t,rfl⟩
theorem bKB{α:Type}{l:List α}(h:l.length=4):∃a b c d,l=[a,b,c,d]:=by
 match l,h with
 | [a,b,c,d],_=>exact⟨a,b,c,d,rfl⟩
theorem getD_some{l:List UInt8}{k:Nat}(h:k<l.length):l[k]?= some (l.getD k 0):=by simp[List.getD,bMU h]
theorem aTZ{D:aC}{a:Option Addr}{n c:Nat}{x:UInt8}{l:List UInt8}(h:Sl D RU 1 (.slice a n c) (x::l)):∃b o,a=some ⟨b,o,none⟩:=by
 obtain⟨a',c',hv,h1,h2,h3⟩:=h;cases hv;rcases h3 with h3|⟨b,o,rfl,_⟩
 ·cases h3
 ·exact⟨b,o,rfl⟩
theorem aPG{D:aC}{b o n c:Nat}{l:List UInt8}(h:Sl D RU 1 (.slice (some ⟨b,o,none⟩) n c) l):At D b o (bc l):=by
 rcases jY.bytes h with⟨a,c',hv,h0,h1⟩|⟨b',o',c',hv,hA⟩
 ·rw[h1];intro j v hj;simp at hj
 ·cases hv;exact hA
theorem MT{n:Nat}{bs:List UInt8}{f0 f1 f2 f3:UInt8}(h:((bs.drop (3+n)).drop 1).take (5-1)=[f0,f1,f2,f3]):R0 n bs=[bs.getD 2 0,bs.getD (3+n) 0,bs.getD (8+n) 0,f0,f1,f2,f3]:=by
 unfold R0;rw[bQX,show 3+n+1=4+n by omega]at h;rw[h];rfl
section
variable{i n:Nat}{bs:List UInt8}{f0 f1 f2 f3:UInt8}
theorem QF(h:bs.length<9):iJ i bs=none:=bNK h
theorem aHP{lb:Bool}(h9:¬bs.length<9)(h1:lb=true→G3 bs=some n)(h2:lb=false→G3 bs=none)(h:(!lb||decide ((bs.length:Int)<3+(n:Int)+6))=true):iJ i bs=none:=by
 unfold iJ;rw[bNA h9];cases lb with
 |false=>rw[h2 rfl]
 |true=>
  rw[h1 rfl];simp only[bSD,Bool.false_or,GT]at h;exact bNK Yd
theorem HL(h9:¬bs.length<9)(hn:G3 bs=some n)(hl:9+n≤bs.length)(hF:((bs.drop (3+n)).drop 1).take (5-1)=[f0,f1,f2,f3])(h:[bs.getD 2 0,bs.getD (3+n) 0,bs.getD (8+n) 0,f0,f1,f2,f3]=zD i ((bs.drop 3).take (3+n-3))):iJ i bs=some ((bs.drop 3).take (3+n-3)):=by
 rw[show 3+n-3=n by omega]at h ⊢
 unfold iJ;rw[bNA h9,hn];simp only[];rw[bNA Yd,MT hF,bNK h]
theorem EJ(h9:¬bs.length<9)(hn:G3 bs=some n)(hl:9+n≤bs.length)(hF:((bs.drop (3+n)).drop 1).take (5-1)=[f0,f1,f2,f3])(h:¬ [bs.getD 2 0,bs.getD (3+n) 0,bs.getD (8+n) 0,f0,f1,f2,f3]=zD i ((bs.drop 3).take (3+n-3))):iJ i bs=none:=by
 rw[show 3+n-3=n by omega]at h;unfold iJ;rw[bNA h9,hn];simp only[];rw[bNA Yd,MT hF,bNA h]
end
theorem aHG(bv:Γ)(c d:UInt8)(t:List UInt8)(D:aC)(hS:Sl D RU 1 bv (c::d::t)):Fn prog 336 #[bv] D (fun _ v=>∃(n:Nat) (b:Bool),v=.tuple #[qI (n:Int),.bool b]∧n≤99∧(b=true→G3 (c::d::t)=some n)∧(b=false→G3 (c::d::t)=none)):=by
 obtain⟨ba,bcap,rfl⟩:=hS.shape;have Y:=c.toNat_lt;have hd0:=d.toNat_lt;refine Zw 30 func336 rfl fun h0=>aA<|Zf rfl<|Zf rfl<|aJ<|Zf rfl<|bC<|Za rfl<|aVU (j:=2) rfl U99 iU rfl hS rfl Yf rfl bSM fun ta hT=>lL rfl U99 rfl rfl rfl bSM<|Za rfl<|aF ?_;refine Za1<|bM (γ:=Nat) (fun k=>2-k) (fun k=>k≤2∧∀j,j<k→∀x,[c,d][j]?= some x→qB x=true) (fun k=>[(10,qI (k:Int)),(4,qI ((aQQ c d k:Nat):Int))]) [(9,_),(8,_),(3,_),(2,_)] (fun k=>[D]) 0 ⟨Yd,fun j hj=>Yd⟩ ⟨Ya,Ya,bSM⟩ cF (aK) ?_;rintro k ⟨h1,h2⟩;refine aA<|Zan rfl<|bO<|Zae rfl (fun hc1=>?_) fun hc1=>?_
 ·have hlt:k<2:=Yd
  obtain⟨x,hx⟩:∃x,[c,d][k]?= some x:=⟨_,bMU (by simpa using hlt)⟩
  have hx0:=x.toNat_lt;have hnk:=bGY hlt h2;refine aQ<|Za3<|Za1<|aA<|Zx rfl U99 iU rfl hT rfl hx fun Z o1 I O V R=>?_;obtain rfl:I=[.int .u8 _]:=O;refine Zh 0 rfl EK rfl R rfl<|Zf rfl<|bC<|Za rfl<|Wcb ?_;refine' dL 3 (s:=16) (p:=19) rfl (fun U=>?_) (fun U=>?_) ?_;rotate_left
  ·refine Zb rfl<|Ww ?_;exact aN 2
  ·refine Wbi ?_;exact aN 2
  refine aF<|Zaf rfl (fun hc2=>?_) fun hc2=>?_
  ·refine aA<|Zf rfl<|Wax ?_;exact Zo [_,_] rfl cF fun D hD=>⟨0,false,rfl,Yd,(fun h=>Xab),fun _=>bDS hlt hx (by unfold qB;simp at hc2 ⊢;omega)⟩
  ·have hx1:48≤x.toNat∧x.toNat≤57:=by simp at hc2;omega
   have hdg:qB x=true:=by unfold qB;simp[hx1]
   refine aQ<|aO<|Za rfl<|F9 rfl rfl rfl Ye rfl bSM<|Za rfl<|Zav rfl<|oU rfl U5 U3 rfl Ye rfl bSM<|Zad rfl<|Zf rfl<|Zao<|Za4<|Zaz ?_;refine aO<|Zad rfl<|Za rfl<|Zao ?_;exact aL 19 (k+1) ⟨Yd,fun j hj y hy=>by rcases Nat.lt_succ_iff_lt_or_eq.1 hj with h|rfl;exact h2 j h y hy;rw[hx]at hy;cases hy;exact hdg⟩ Yd ⟨Ya,(by show some (Value.int _ _)=some (Value.int _ _);congr 2;have:=aVC (c:=c) (d:=d) hlt hx hx1;omega),bSM⟩ rfl rfl Mm5 (aK)
 ·obtain rfl:k=2:=Yd
  refine Za6<|Za2<|Za2<|Za7<|Zaz<|aA<|Za rfl<|Za rfl<|gJ rfl rfl rfl rfl bSM<|Wcd ?_;exact Zo [_,_] rfl cF fun D hD=>⟨aQQ c d 2,_,rfl,(bBN h2).1,fun hb=>aNS (h2 0 Yd c rfl) (h2 1 Yd d rfl) Xax,fun hb=>aWI Xax⟩
theorem aCB:bMI prog 416 7:=by
 refine⟨Yg,Yg,Yg,?_⟩;have e:(prog.fieldsOf 416).toList=[(prog.fieldsOf 416)[0]!,(prog.fieldsOf 416)[1]!]:=Yg
 rw[e];refine .cons (n:=3) (GS.arr (e:=5) Ybf Yg Yg Yg Yg ?_ ?_) (.cons (n:=4) (GS.arr (e:=5) Ybf Yg Yg Yg Yg ?_ ?_) .nil)
 ·rw[show((prog.fieldsOf 416)[0]!).type=412 by kernel_rfl];exact aXH
 ·rw[show((prog.fieldsOf 416)[0]!).type=412 by kernel_rfl];exact aES
 ·rw[show((prog.fieldsOf 416)[1]!).type=414 by kernel_rfl];exact Z0
 ·rw[show((prog.fieldsOf 416)[1]!).type=414 by kernel_rfl];exact sH
theorem zI(i:Nat)(bv:Γ)(bs:List UInt8)(D:aC)(hi:i≤1000)(hS:Sl D RU 1 bv bs)(hbl:bs.length≤1000000000):Fn prog 264 #[qI (i:Int),bv] D (fun _ v=>∃(s:Λ) (b:Bool),v=.tuple #[.string s,.bool b]∧(b=true→iJ i bs=some s.data.toList)∧(b=false→iJ i bs=none)):=by
 obtain⟨ba,bcap,rfl⟩:=hS.shape;refine Zw 59 func264 rfl fun h0=>aA<|Zf rfl<|Zf rfl<|bC<|Za rfl<|Zai rfl U99 rfl hS rfl<|Zan rfl<|aF<|Zae rfl (fun hc1=>?_) fun hc1=>?_
 ·refine Wby ?_;exact Zo [_,_] rfl cF fun D hD=>⟨_,_,rfl,(fun h=>Xab),fun _=>QF Yd⟩
 ·obtain⟨c2,d2,t2,hcd⟩:=bLJ (l:=bs) Yd;have hb9:¬bs.length<9:=Yd
  refine aQ<|aA<|Za rfl<|Zy rfl (fun D1 I=>aHG _ c2 d2 t2 _ (hcd▸hS.up RU.up (I _ Yf))) fun v1 D1 I R=>?_;obtain⟨n,lb,rfl,hP,hl1,O⟩:=R;rw[←hcd]at hl1 O;refine Za rfl<|Zap rfl<|Zap rfl<|Zf rfl<|Zf rfl<|bC<|Za rfl<|Wbg ?_;refine' dL 7 (s:=21) (p:=28) rfl (fun U=>?_) (fun U=>?_) ?_;rotate_left
  ·refine Zb rfl<|eE rfl U99 rfl hS rfl rfl ⟨_,rfl,rfl⟩<|Zb rfl<|oC rfl rfl rfl Ye rfl ⟨_,rfl,rfl⟩<|oC rfl rfl rfl Ye rfl ⟨_,rfl,rfl⟩<|GV rfl rfl rfl rfl ⟨_,rfl,rfl⟩<|Zal rfl ?_;exact aN 6
  ·refine Zg rfl<|Zg rfl<|Wf ?_;exact aN 6
  refine aF<|Zaf rfl (fun hc2=>?_) fun hc2=>?_
  ·refine Wby ?_;exact Zo [_,_] rfl cF fun D hD=>⟨_,_,rfl,(fun h=>Xab),fun _=>aHP hb9 hl1 O hc2⟩
  ·obtain⟨hlb,hlen⟩:lb=true∧9+n≤bs.length:=by simp at hc2;refine⟨hc2.1,?_⟩;have:=hc2.2;omega
   have hln:=hl1 hlb;have hR:=bDI hln;refine aQ<|Za3<|bN [] 3 11 998<|Za rfl<|Za rfl<|Zad rfl<|TE (i:=3) (j:=3+n) rfl U99 iU rfl hS rfl Ya Yd Yd rfl bSM fun la hLn=>uD rfl U99 U5 U9 rfl hLn Yf (fun _ _ _ _ _=>n4) rfl bSM<|Za rfl<|Za rfl<|Zad rfl<|R4 (j:=3+n) rfl U99 iU rfl hS Ya Yd rfl bSM fun ea hE=>?_;refine Zf rfl<|Zf rfl<|bO<|oS [] 4 [false,false,false,true,true,true,true,true,true,false,true,true,true,true,false,true,false] [.fork [0,1,2,3,4,5,6,7,8,9,10,11] 12 (.fin [13,14,15]) 15 (.fin [12,13,14]),.fin [16]] bB (fun _ _ _ h=>fW (P:=prog) (fn:=f264) _ _ _ h) Yg<|tI<|bQ [(false,0),(false,1),(false,2),(true,3),(true,4),(true,5),(true,6),(true,7),(true,8),(false,9),(true,10),(true,11)] rfl<|Za rfl<|Zx rfl U99 iU rfl hS rfl (getD_some Yd) fun b1 o1 V Y hX Z=>?_;obtain rfl:V=[.int .u8 _]:=Y;refine Zh 0 rfl EK rfl Z rfl<|Za rfl<|Zx rfl U99 iU rfl hE rfl (by rw[bPC];exact getD_some (k:=3+n) Yd) fun b2 o2 hB hH hY hI=>?_
   obtain rfl:hB=[.int .u8 _]:=hH;refine Zh 0 rfl EK rfl hI rfl<|Za rfl<|Zx rfl U99 iU rfl hE rfl (by rw[bPC,show 3+n+Int.toNat 5=8+n from(by show 3+n+5=8+n;omega)];exact getD_some Yd) fun b3 o3 hJ hK rA hN=>?_
   obtain rfl:hJ=[.int .u8 _]:=hK;refine Zh 0 rfl EK rfl hN rfl<|M8 (cs:=[.int .u8 ((bs.getD 2 0).toNat:Int),.int .u8 ((bs.getD (3+n) 0).toNat:Int),.int .u8 ((bs.getD (8+n) 0).toNat:Int)]) rfl U412 iU aCV rfl rfl rfl bSM<|Za rfl<|TE (i:=1) (j:=5) rfl U99 iU rfl hE rfl rfl Yd Yd rfl bSM fun fa hF=>?_;obtain⟨f0,f1,f2,f3,hF4⟩:=bKB (l:=((bs.drop (3+n)).drop 1).take (5-1)) Yaq;rw[hF4]at hF;obtain⟨fb,fo,rfl⟩:=aTZ hF;refine Zao (dZ true true rfl rfl ?_ ?_)
   ·refine OU rfl U414 rfl Yd rfl bSM<|Zao<|aW [(true,13),(false,14),(true,15)] rfl<|cK (cs:=[.int .u8 (f0.toNat:Int),.int .u8 (f1.toNat:Int),.int .u8 (f2.toNat:Int),.int .u8 (f3.toNat:Int)]) rfl Z0 rfl (aPG hF) Yf sH n4 rfl bSM<|jM (cs:=[.int .u8 ((bs.getD 2 0).toNat:Int),.int .u8 ((bs.getD (3+n) 0).toNat:Int),.int .u8 ((bs.getD (8+n) 0).toNat:Int),.int .u8 (f0.toNat:Int),.int .u8 (f1.toNat:Int),.int .u8 (f2.toNat:Int),.int .u8 (f3.toNat:Int)]) rfl NA B7 rfl Yg rfl bSM<|Zah rfl B7 rfl fun q1=>Zao<|mS [(false,16)] rfl<|eF rfl rfl rfl rfl wJ Yb Yb ζ Yk bSM<|Zao<|oL<|Zaz ?_;refine Za3<|bN [] 1 8 126<|Wy ?_
    exact Zo [_,_] rfl cF fun D hD=>⟨_,_,rfl,fun hb=>Xdm,fun hb=>Xdn⟩
   ·refine Zah rfl B7 rfl fun q1=>Zao<|aW [(true,12),(true,13),(false,14)] rfl<|OU rfl U414 rfl Yd rfl bSM<|cK (cs:=[.int .u8 (f0.toNat:Int),.int .u8 (f1.toNat:Int),.int .u8 (f2.toNat:Int),.int .u8 (f3.toNat:Int)]) rfl Z0 rfl (aPG hF) Yf sH n4 rfl bSM<|jM (cs:=[.int .u8 ((bs.getD 2 0).toNat:Int),.int .u8 ((bs.getD (3+n) 0).toNat:Int),.int .u8 ((bs.getD (8+n) 0).toNat:Int),.int .u8 (f0.toNat:Int),.int .u8 (f1.toNat:Int),.int .u8 (f2.toNat:Int),.int .u8 (f3.toNat:Int)]) rfl NA B7 rfl Yg rfl bSM<|Zao<|mS [(false,16)] rfl<|eF rfl rfl rfl rfl wJ Yb Yb ζ Yk bSM<|Zao<|oL<|Zaz ?_;refine Za3<|bN [] 1 8 126<|Wy ?_
    exact Zo [_,_] rfl cF fun D hD=>⟨_,_,rfl,fun hb=>Xdm,fun hb=>Xdn⟩
theorem tf_z9:TZ prog 9 (.string ⟨#[]⟩):=TZ.of Yg
section
variable{P:Program}{X:Cx}{Q:Exit→Act→Δ→Prop}{σ:bU}{μ:aD}{Ds:List aC}
theorem jE{c:Operand}{x y:Code}{b:Bool}(hc:ev σ c=some (.bool b))(hb:b=true)(h:WC P X Q x σ μ Ds):WC P X Q (.cond c x y) σ μ Ds:=ZV hc (fun _=>h) fun e=>by rw[hb]at e;cases e
end
theorem bFM{b:UInt8}{n:Nat}(h:((b.toNat:Nat):Int)=(n:Int))(_hn:n<256:=by decide):b=UInt8.ofNat n:=by
 have h1:b.toNat=n:=Yd
 rw[←h1];simp
theorem _root_.Go.Fs.kZ.strs{D:aC}{v:Γ}{n:Nat}{l:List Λ}(h:kZ D v n (l.map Value.string))(hn:l.length=n)(hb:n≤9223372036854775807):Sl D RS 1 v l:=
 h.sl hn hb fun i x hx=>⟨_,rfl,rfl,by rw[bPK,List.take_one,List.head?_drop,bOD,hx];rfl⟩
theorem HM(s:Λ)(a b:Nat):(s.extract a b).data.toList=(s.data.toList.drop a).take (b-a):=by simp[List.extract_eq_take_drop]
def vL(line:Λ)(i f:Nat)(ws:List Λ):Prop:=f≤i∧ws.length≤i∧pW line.data.toList=eL ws++pW (line.data.toList.drop f)∧(32:UInt8)∉(line.data.toList.drop f).take (i-f)
theorem vL.zero{line:Λ}:vL line 0 0 []:=⟨bNJ _,bNJ _,by simp[eL],Yf⟩
theorem aLK{l:List UInt8}{f i:Nat}{b:UInt8}(hf:f≤i)(hb:l[i]?= some b):(l.drop f).take (i+1-f)=(l.drop f).take (i-f)++[b]:=by
 have h:(l.drop f)[i-f]?= some b:=by rw[bPC,show f+(i-f)=i by omega];exact hb
 rw[show i+1-f=i-f+1 by omega,bMZ,h];rfl
theorem vL.miss{line:Λ}{i f:Nat}{ws:List Λ}{b:UInt8}(h:vL line i f ws)(hb:line.data.toList[i]?= some b)(hn:b≠32):vL line (i+1) f ws:=by
 obtain⟨h1,h2,h3,h4⟩:=h;refine⟨Yd,Yd,h3,?_⟩;rw[aLK h1 hb,bNH,bNL];rintro(h|h)
 ·exact h4 h
 ·exact hn h.symm
theorem vL.hit{line:Λ}{i f:Nat}{ws:List Λ}{b:UInt8}(h:vL line i f ws)(hb:line.data.toList[i]?= some b)(hn:b=32):vL line (i+1) (i+1) (ws++[line.extract f i]):=by
 subst hn;obtain⟨h1,h2,h3,h4⟩:=h;refine⟨bNJ _,Yaq,?_,Yf⟩
 have hg:(line.data.toList.drop f)[i-f]?= some 32:=by rw[bPC,show f+(i-f)=i by omega];exact hb
 rw[h3,Y8 hg h4,bQX,show f+(i-f+1)=i+1 by omega];simp[eL]
theorem ZE{line:Λ}{f:Nat}{ws:List Λ}(h:vL line line.size f ws):eA line=ws++[line.extract f line.size]:=by
 obtain⟨h1,h2,h3,h4⟩:=h;have hl:line.data.toList.length=line.size:=rfl;have ht:(line.data.toList.drop f).take (line.size-f)=line.data.toList.drop f:=bNV (by rw[bOU,hl];exact bNJ _)
 rw[ht]at h4;unfold eA;rw[h3,P4 h4,bNG,bQP];have I:(eL ws).map rF=ws:=by
  unfold eL;rw[bRM]
  conv=>rhs;rw[←List.map_id ws]
  exact bSL fun x _=>yO x
 rw[I];congr 2;rw[←yO (line.extract f line.size),HM,ht]
def T4(w:List UInt8):Int:=match kX.find? (fun x=>x.1==w)with
 |some (_,k,_)=>(k:Int)
 |none=> -1
def iQ(l:List UInt8):Option (List Int):=match pW l with
 | []=>none
 |p::ps=>if T4 p=(ps.length:Int)then ps.mapM rR else none
theorem bMH{s:Λ}(h:0<s.size):s[(0:Int).toNat]?= some (s.data.toList.getD 0 0):=aDI (getD_some (k:=0) h)
theorem bGG{s:Λ}(h:((decide ((s.size:Int)<1)||decide (3<(s.size:Int)))||(decide (((s.data.toList.getD 0 0).toNat:Int)=48)&&decide (1<(s.size:Int))))=false):1≤s.size∧s.size≤3∧(s.data.toList.head?≠some 48∨s.size=1):=by
 simp only[bOH,bRQ,bMY]at h;obtain⟨⟨h1,h2⟩,h3⟩:=h;refine⟨Yd,Yd,?_⟩;rcases h3 with h3|h3
 ·left;intro e;apply h3;have:s.data.toList.getD 0 0=48:=by rw[List.getD,←List.head?_eq_getElem?,e];rfl
  rw[this];rfl
 ·right;omega
theorem bBG{s:Λ}(h:((decide ((s.size:Int)<1)||decide (3<(s.size:Int)))||(decide (((s.data.toList.getD 0 0).toNat:Int)=48)&&decide (1<(s.size:Int))))=true):rR s.data.toList=none:=by
 have hl:s.data.toList.length=s.size:=rfl;simp only[bNZ,bMS,GT]at h;unfold rR;rcases h with(h|h)|⟨h,h2⟩
 ·have h0:s.data.toList=[]:=bQA Yd;rw[h0];rfl
 ·exact bNA Yd
 ·apply bNA;rintro⟨_,h3|h3⟩
  ·apply h3;have h4:s.data.toList.getD 0 0=48:=bFM (n:=48) h;rw[List.head?_eq_getElem?,getD_some (k:=0) Yd,h4]
  ·omega
theorem aMU{n k:Nat}(h:n<10^k)(hk:k≤3):n<1000:=bPO h (bOW Yt hk)
theorem aNP{n k:Nat}{b:UInt8}(h:n<10^k)(hb:48≤b.toNat∧b.toNat≤57):n*10+(b.toNat-48)<10^(k+1):=by rw[Nat.pow_succ];omega
theorem aQK{l:List UInt8}{k n:Nat}{b:UInt8}(hb:l[k]?= some b)(hd:48≤b.toNat∧b.toNat≤57):decFrom n (l.drop k)=decFrom (n*10+(b.toNat-48)) (l.drop (k+1)):=by
 have hk:=(bMW.1 hb).1;rw[bOF hk,bNS ((bMU hk).symm.trans hb)];simp only[decFrom,digitVal,hd,bRS,bPG]
theorem aRD{s:Λ}(h:1≤s.size∧s.size≤3∧(s.data.toList.head?≠some 48∨s.size=1)):rR s.data.toList=(decFrom 0 s.data.toList).map fun n:Nat=>(n:Int):=by
 have hl:s.data.toList.length=s.size:=rfl;unfold rR;rw[bNK ⟨Yd,by rw[hl];exact h.2.2⟩]
 unfold decNat;rw[bNA];rw[List.isEmpty_iff];intro e;rw[e]at hl;simp at hl;omega
theorem aIC{s:Λ}{k n:Nat}{b:UInt8}(hok:1≤s.size∧s.size≤3∧(s.data.toList.head?≠some 48∨s.size=1))(hd:decFrom 0 s.data.toList=decFrom n (s.data.toList.drop k))(hb:s.data.toList[k]?= some b)(hn:¬(48≤b.toNat∧b.toNat≤57)):rR s.data.toList=none:=by
 have hk:=(bMW.1 hb).1;rw[aRD hok,hd,bOF hk,bNS ((bMU hk).symm.trans hb)];simp only[decFrom,digitVal,hn,bPL,bPI]
theorem aVF{s:Λ}{n:Nat}(hok:1≤s.size∧s.size≤3∧(s.data.toList.head?≠some 48∨s.size=1))(hd:decFrom 0 s.data.toList=decFrom n (s.data.toList.drop s.size)):rR s.data.toList=some (n:Int):=by
 have e:s.data.toList.drop s.size=[]:=bOL (bNJ _);rw[aRD hok,hd,e];rfl
theorem aPC{line p0:Λ}{ps:List Λ}(h:eA line=p0::ps):pW line.data.toList=p0.data.toList::eL ps:=by
 unfold eA at h;cases hc:pW line.data.toList with
 |nil=>rw[hc]at h;cases h
 |cons p qs=>
  rw[hc]at h;simp only[bNT,bPN]at h;obtain⟨rfl,rfl⟩:=h;unfold eL;rw[bRM];congr 1
  conv=>lhs;rw[←List.map_id qs]
  exact bSL fun x _=>rfl
theorem X6:∀ps:List Λ,(eL ps).mapM rR=ps.mapM vC
 | []=>rfl
 |p::ps=>by
  have h:eL (p::ps)=p.data.toList::eL ps:=rfl;rw[h,bQM,bQM,X6 ps];rfl
theorem i6{line p0:Λ}{ps:List Λ}(h:eA line=p0::ps):iQ line.data.toList=if T4 p0.data.toList=(ps.length:Int)then ps.mapM vC else none:=by
 unfold iQ;rw[aPC h];simp only[X6];unfold eL;rw[bOB]
theorem aGU{line p0:Λ}{ps:List Λ}(h:eA line=p0::ps)(h1:T4 p0.data.toList≠((eA line).length:Int)-1):iQ line.data.toList=none:=by
 rw[i6 h,bNA];intro e;apply h1;rw[e,h,bMX];omega
theorem aXT{p0 x:Λ}{ps:List Λ}{k:Nat}(h:ps[k]?= some x):(p0::ps)[(((k+1:Nat):Int)).toNat]?= some x:=by rw[bOI];simpa using h
theorem aOH{line p0 x:Λ}{ps:List Λ}{k:Nat}(h:eA line=p0::ps)(_:¬T4 p0.data.toList≠((eA line).length:Int)-1)(hx:ps[k]?= some x)(hn:rR x.data.toList=none):iQ line.data.toList=none:=by
 rw[i6 h,AN hx hn,ite_self]
theorem aMB{line p0:Λ}{ps:List Λ}{ns:List Int}(h:eA line=p0::ps)(h1:¬T4 p0.data.toList≠((eA line).length:Int)-1)(hn:ps.mapM vC=some ns):iQ line.data.toList=some ns:=by
 rw[i6 h,bNK,hn];have:=Classical.not_not.1 h1;rw[this,h,bMX];omega
theorem aMF{w:Λ}(h0:¬w=⟨#[112,108,97,99,101]⟩)(h1:¬w=⟨#[117,110,99,111,117,110,116]⟩)(h2:¬w=⟨#[119,114,111,110,103]⟩)(h3:¬w=⟨#[111,102,102]⟩)(h4:¬w=⟨#[115,116,101,112]⟩)(h5:¬w=⟨#[108,101,118,101,108]⟩)(h6:¬w=⟨#[117,110,109,97,114,107]⟩)(h7:¬w=⟨#[115,109,117,100,103,101]⟩)(h8:¬w=⟨#[115,116,114,105,107,101]⟩)(h9:¬w=⟨#[102,105,116]⟩)(I:¬w=⟨#[117,110,99,108,97,105,109]⟩)(O:¬w=⟨#[115,101,101,110]⟩)(R:¬w=⟨#[99,111,117,110,116]⟩)(U:¬w=⟨#[98,97,99,107]⟩)(V:¬w=⟨#[114,97,105,115,101]⟩)(Y:¬w=⟨#[104,105,114,101]⟩)(Z:¬w=⟨#[98,114,105,110,103]⟩)(hB:¬w=⟨#[99,108,97,105,109]⟩)(hE:¬w=⟨#[116,105,100,101]⟩)(hF:¬w=⟨#[112,97,114,116]⟩)(hH:¬w=⟨#[109,97,114,107]⟩)(hI:¬w=⟨#[98,114,111,107,101,110]⟩):T4 w.data.toList= -1:=by
 have key:∀l:List UInt8,w≠⟨l.toArray⟩→(l==w.data.toList)=false:=fun l h=>by
  rw[beq_eq_false_iff_ne];rintro rfl;exact h (yO w).symm
 unfold T4 kX;simp only[List.find?_cons,List.find?_nil,key [112,108,97,99,101] h0,key [117,110,99,111,117,110,116] h1,key [119,114,111,110,103] h2,key [111,102,102] h3,key [115,116,101,112] h4,key [108,101,118,101,108] h5,key [117,110,109,97,114,107] h6,key [115,109,117,100,103,101] h7,key [115,116,114,105,107,101] h8,key [102,105,116] h9,key [117,110,99,108,97,105,109] I,key [115,101,101,110] O,key [99,111,117,110,116] R,key [98,97,99,107] U,key [114,97,105,115,101] V,key [104,105,114,101] Y,key [98,114,105,110,103] Z,key [99,108,97,105,109] hB,key [116,105,100,101] hE,key [112,97,114,116] hF,key [109,97,114,107] hH,key [98,114,111,107,101,110] hI]
theorem u6(line:Λ)(hl:line.size≤1000)(D:aC):Fn prog 34 #[.string line] D (fun D' v=>Sl D' RS 1 v (eA line)):=by
 refine Zw 31 func34 rfl fun h0=>aA<|Zf rfl<|aJ<|Zf rfl<|aJ<|Zf rfl<|bC<|Zf rfl<|aF<|Za1<|Zc (Nat×Nat×List Λ×Γ×aD) (fun g=>line.size-g.1) (fun g=>g.1≤line.size∧vL line g.1 g.2.1 g.2.2.1∧bI 9 1 g.2.2.2.1 g.2.2.1.length (g.2.2.1.map Value.string) g.2.2.2.2) (fun g=>[(5,qI (g.1:Int)),(4,qI (g.2.1:Int)),(3,g.2.2.2.1)]) [(2,_),(0,_)] (fun g=>g.2.2.2.2++[]) (fun g=>[D]) (0,0,[],qN,[]) ⟨Yf,vL.zero,Xba⟩ ⟨Ya,Ya,Ya,bSM⟩ Mm5 ?_;rintro⟨i,f,ws,v,ν⟩ ⟨h1,hw,ha⟩;simp only at h1 hw ha;have hfi:=hw.1;have hwl:=hw.2.1;refine bZ<|Za rfl<|Za rfl<|gR rfl U9 rfl rfl rfl bSM<|Zan rfl<|aF<|Zae rfl (fun hc1=>?_) fun hc1=>?_
 ·simp only at hc1;have hi:i<line.size:=Yd
  obtain⟨b,hb⟩:∃b,line.data.toList[i]?= some b:=⟨_,bMU Yau⟩
  refine aQ<|Za3<|Za1<|aA<|Za rfl<|Za rfl<|pN rfl U9 rfl rfl Yd Yay rfl bSM<|Zas rfl<|aF<|Zae rfl (fun hc2=>?_) fun hc2=>?_
  ·have I:b=32:=bFM hc2;refine aA<|Za rfl<|Za rfl<|Za rfl<|Za rfl<|GB rfl U9 rfl rfl rfl Yaj Yaj Yaj rfl bSM<|Zt rfl U22 fU tf_z9 rfl (.cons rfl rfl .nil) fun hE hF V R=>aS (A:=[]) (B:=[]) rfl U22 rfl rfl fU tf_z9 rfl G6 rfl rfl rfl ha (jY.lit R) Yf rfl Yap Yk Yd (bNI rfl) rfl bSM fun v1 ν1 Y=>?_;have O:bI 9 1 v1 (ws++[line.extract f i]).length ((ws++[line.extract f i]).map Value.string) ν1:=by rw[LE,bNG];exact Y
   refine aV (ν1++[]) rfl<|Zf rfl<|aF<|aO<|Za rfl<|Zad rfl<|Zf rfl<|Zao<|Za4<|Zaz<|aO<|Za rfl ?_;refine Wbt ?_;exact aL 25 (i+1,i+1,ws++[line.extract f i],v1,ν1) ⟨Yn,hw.hit hb I,O⟩ Yn ⟨Ya,Ya,Ya,bSM⟩ rfl rfl Mm5 fun D h=>⟨D,bNM _ (h),Le.refl D⟩
  ·have I:b≠32:=fun e=>hc2 Xaq
   refine Wch ?_;exact aL 14 (i+1,f,ws,v,ν) ⟨Yn,hw.miss hb I,ha⟩ Yn ⟨Ya,Ya,Ya,bSM⟩ rfl rfl Mm5 (aK)
 ·obtain rfl:i=line.size:=by simp only at hc1;omega
  refine Za6<|Za2<|Za2<|Za7<|Zaz<|aA<|Za rfl<|Za rfl<|Za rfl<|UC rfl U9 rfl rfl Yaj Yaj rfl bSM<|Zt rfl U22 fU tf_z9 rfl (.cons rfl rfl .nil) fun hH hI Z U=>aS (A:=[]) (B:=[]) rfl U22 rfl rfl fU tf_z9 rfl G6 rfl rfl rfl ha (jY.lit U) Yf rfl Yap Yk Yd (bNI rfl) rfl bSM fun v2 ν2 O=>?_;have O:bI 9 1 v2 (ws++[line.extract f line.size]).length ((ws++[line.extract f line.size]).map Value.string) ν2:=by rw[LE,bNG];exact O
  refine aV (ν2++[]) rfl<|Zf rfl<|aG<|dS (A:=[]) (B:=[]) O rfl fun D9 hJ hB=>?_;exact aE rfl fun D hD=>(by rw[ZE hw];exact(hB.strs rfl (by rw[LE,bPB];omega)).up RS.up (hD _ Yf))
theorem YX(s:Λ)(D:aC):Fn prog 99 #[.string s] D (fun _ v=>∃m b,v=.tuple #[qI m,.bool b]∧(b=true→rR s.data.toList=some m)∧(b=false→rR s.data.toList=none)):=by
 refine Zw 49 func99 rfl fun h0=>aA<|Zf rfl<|Zf rfl<|bC<|Za rfl<|gR rfl U9 rfl rfl rfl bSM<|Wcb ?_;refine' dL 4 (s:=9) (p:=13) rfl (fun O=>?_) (fun O=>?_) ?_;rotate_left
 ·refine Zb rfl<|gR rfl U9 rfl rfl rfl ⟨_,rfl,rfl⟩<|Ww ?_;exact aN 3
 ·refine Zg rfl<|Wbi ?_;exact aN 3
 refine Za rfl ?_;refine' dL 9 (s:=14) (p:=23) rfl (fun I=>?_) (fun I=>?_) ?_;rotate_left
 ·have hz:0<s.size:=by have:=I;simp at this;omega
  refine Zb rfl<|pN rfl U9 rfl rfl Yd (bMH hz) rfl ⟨_,rfl,rfl⟩<|pZ rfl rfl rfl rfl ⟨_,rfl,rfl⟩<|Zb rfl ?_;refine' bX 4 (s:=18) (p:=22) rfl (fun R=>?_) (fun R=>?_) ?_;rotate_left
  ·refine Zb rfl<|gR rfl U9 rfl rfl rfl ⟨_,rfl,rfl⟩<|Zar rfl<|oY rfl rfl rfl rfl ⟨_,rfl,rfl⟩ ?_;exact aN 3
  ·refine Zg rfl<|Wce ?_;exact aN 3
  refine Zal rfl ?_;exact aN 5
 ·refine Zg rfl<|Waq ?_;exact aN 8
 refine aF<|Zaf rfl (fun hc1=>?_) fun hc1=>?_
 ·refine Wby ?_;exact Zo [_,_] rfl cF fun D hD=>⟨0,false,rfl,(fun h=>Xab),fun _=>bBG hc1⟩
 ·have hok:=bGG hc1;refine aQ<|aA<|Zf rfl<|bC<|Zf rfl<|aF<|Za1<|bM (γ:=Nat×Nat) (fun g=>s.size-g.1) (fun g=>g.1≤s.size∧g.2<10^g.1∧decFrom 0 s.data.toList=decFrom g.2 (s.data.toList.drop g.1)) (fun g=>[(5,qI (g.1:Int)),(4,qI (g.2:Int))]) [(3,_),(2,_),(0,_)] (fun g=>[D]) (0,0) ⟨Yf,Yf,Yf⟩ ⟨Ya,Ya,bSM⟩ cF (aK) ?_;rintro⟨k,n⟩ ⟨h1,hn,hd⟩;simp only at h1 hn hd;have V:=aMU hn (bPD h1 hok.2.1);refine bZ<|Za rfl<|Za rfl<|gR rfl U9 rfl rfl rfl bSM<|Zan rfl<|aF<|Zae rfl (fun hc2=>?_) (fun hc2=>?_)
  ·simp only at hc2;have hk:k<s.size:=Yd
   obtain⟨b,hb⟩:∃b,s.data.toList[k]?= some b:=⟨_,bMU Xay⟩
   have Y:=b.toNat_lt;refine aQ<|Za3<|Za1<|bZ<|Za rfl<|Za rfl<|pN rfl U9 rfl rfl Yd Yay rfl bSM<|Wcb ?_;refine' dL 5 (s:=34) (p:=39) rfl (fun U=>?_) (fun U=>?_) ?_;rotate_left
   ·refine Zb rfl<|Zb rfl<|pN rfl U9 rfl rfl Yd Yay rfl ⟨_,rfl,rfl⟩<|Ww ?_;exact aN 4
   ·refine Wf ?_;exact aN 4
   refine aF<|Zaf rfl (fun hc3=>?_) fun hc3=>?_
   ·refine aA<|Zf rfl<|Wax ?_;exact Zo [_,_] rfl cF fun D hD=>⟨0,false,rfl,(fun h=>Xab),fun _=>aIC hok hd hb (by simp at hc3;omega)⟩
   ·have hbd:48≤b.toNat∧b.toNat≤57:=by simp at hc3;omega
    refine aQ<|aO<|Za rfl<|F9 rfl rfl rfl Ye rfl bSM<|Za rfl<|Za rfl<|pN rfl U9 rfl rfl Yd Yay rfl bSM<|Zav rfl<|oU rfl U5 U3 rfl Ye rfl bSM<|Wbt ?_;refine Wa ?_;exact aL 24 (k+1,n*10+(b.toNat-48)) ⟨Yn,aNP hn hbd,by simp only;rw[hd,aQK hb hbd]⟩ Yn ⟨Ya,Ya8,bSM⟩ rfl rfl Mm5 (aK)
  ·obtain rfl:k=s.size:=by simp only at hc2;omega
   refine Za6<|Za2<|Za2<|Za7<|Zaz<|aA<|Za rfl<|Wcd ?_;exact Zo [_,_] rfl cF fun D hD=>⟨_,true,rfl,fun _=>aVF hok hd,fun h=>Xab⟩
theorem N5(w:Λ)(D:aC):Fn prog 98 #[.string w] D (fun _ v=>v=qI (T4 w.data.toList)):=by
 refine Zw 31 func98 rfl fun h0=>aA<|Zf rfl<|bC<|Za rfl<|aF<|Za1<|aA<|Zaw rfl<|Zf rfl<|aF<|Zaf rfl (fun hc1=>?_) fun hc1=>?_
 ·refine Wk ?_;exact aE rfl fun D hD=>by obtain rfl:=bNP hc1;rfl
 ·refine bZ<|Zaw rfl<|Zf rfl<|aF<|Zaf rfl (fun hc2=>?_) (fun hc2=>?_)
  ·refine aQ<|jE rfl hc2<|Wk ?_;exact aE rfl fun D hD=>by obtain rfl:=bNP hc2;rfl
  ·refine aA<|Zaw rfl<|Zf rfl<|aF<|Zaf rfl (fun hc3=>?_) (fun hc3=>?_)
   ·refine aQ<|jE rfl hc3<|Wk ?_;exact aE rfl fun D hD=>by obtain rfl:=bNP hc3;rfl
   ·refine aA<|Zaw rfl<|Zf rfl<|aF<|Zaf rfl (fun hc4=>?_) (fun hc4=>?_)
    ·refine aQ<|jE rfl hc4<|Wk ?_;exact aE rfl fun D hD=>by obtain rfl:=bNP hc4;rfl
    ·refine aA<|Zaw rfl<|Zf rfl<|aF<|Zaf rfl (fun hK=>?_) (fun hK=>?_)
     ·refine aQ<|jE rfl hK<|Wk ?_;exact aE rfl fun D hD=>by obtain rfl:=bNP hK;rfl
     ·refine aA<|Zaw rfl<|Zf rfl<|aF<|Zaf rfl (fun hN=>?_) (fun hN=>?_)
      ·refine aQ<|jE rfl hN<|Wk ?_;exact aE rfl fun D hD=>by obtain rfl:=bNP hN;rfl
      ·refine aA<|Zaw rfl<|Zf rfl<|aF<|Zaf rfl (fun hO=>?_) (fun hO=>?_)
       ·refine aQ<|jE rfl hO<|Wk ?_;exact aE rfl fun D hD=>by obtain rfl:=bNP hO;rfl
       ·refine aA<|Zaw rfl<|Zf rfl<|aF<|Zaf rfl (fun hP=>?_) (fun hP=>?_)
        ·refine aQ<|jE rfl hP<|Wk ?_;exact aE rfl fun D hD=>by obtain rfl:=bNP hP;rfl
        ·refine aA<|Zaw rfl<|Zf rfl<|aF<|Zaf rfl (fun hR=>?_) (fun hR=>?_)
         ·refine aQ<|jE rfl hR<|Wk ?_;exact aE rfl fun D hD=>by obtain rfl:=bNP hR;rfl
         ·refine aA<|Zaw rfl<|Zf rfl<|aF<|Zaf rfl (fun I=>?_) (fun I=>?_)
          ·refine aQ<|jE rfl I<|Wk ?_;exact aE rfl fun D hD=>by obtain rfl:=bNP I;rfl
          ·refine aO<|Zaw rfl<|Zf rfl<|aF<|Zaf rfl (fun hF=>?_) (fun hF=>?_)
           ·refine Wk ?_;exact aE rfl fun D hD=>by obtain rfl:=bNP hF;rfl
           ·refine bZ<|Zaw rfl<|Zf rfl<|aF<|Zaf rfl (fun O=>?_) (fun O=>?_)
            ·refine aQ<|jE rfl O<|Wk ?_;exact aE rfl fun D hD=>by obtain rfl:=bNP O;rfl
            ·refine aA<|Zaw rfl<|Zf rfl<|aF<|Zaf rfl (fun R=>?_) (fun R=>?_)
             ·refine aQ<|jE rfl R<|Wk ?_;exact aE rfl fun D hD=>by obtain rfl:=bNP R;rfl
             ·refine aA<|Zaw rfl<|Zf rfl<|aF<|Zaf rfl (fun U=>?_) (fun U=>?_)
              ·refine aQ<|jE rfl U<|Wk ?_;exact aE rfl fun D hD=>by obtain rfl:=bNP U;rfl
              ·refine aA<|Zaw rfl<|Zf rfl<|aF<|Zaf rfl (fun V=>?_) (fun V=>?_)
               ·refine aQ<|jE rfl V<|Wk ?_;exact aE rfl fun D hD=>by obtain rfl:=bNP V;rfl
               ·refine aA<|Zaw rfl<|Zf rfl<|aF<|Zaf rfl (fun Y=>?_) (fun Y=>?_)
                ·refine aQ<|jE rfl Y<|Wk ?_;exact aE rfl fun D hD=>by obtain rfl:=bNP Y;rfl
                ·refine aA<|Zaw rfl<|Zf rfl<|aF<|Zaf rfl (fun Z=>?_) (fun Z=>?_)
                 ·refine aQ<|jE rfl Z<|Wk ?_;exact aE rfl fun D hD=>by obtain rfl:=bNP Z;rfl
                 ·refine aO<|Zaw rfl<|Zf rfl<|aF<|Zaf rfl (fun hH=>?_) (fun hH=>?_)
                  ·refine Wk ?_;exact aE rfl fun D hD=>by obtain rfl:=bNP hH;rfl
                  ·refine bZ<|Zaw rfl<|Zf rfl<|aF<|Zaf rfl (fun hB=>?_) (fun hB=>?_)
                   ·refine aQ<|jE rfl hB<|Wk ?_;exact aE rfl fun D hD=>by obtain rfl:=bNP hB;rfl
                   ·refine aO<|Zaw rfl<|Zf rfl<|aF<|Zaf rfl (fun hI=>?_) (fun hI=>?_)
                    ·refine Wk ?_;exact aE rfl fun D hD=>by obtain rfl:=bNP hI;rfl
                    ·refine bZ<|Zaw rfl<|Zf rfl<|aF<|Zaf rfl (fun hE=>?_) (fun hE=>?_)
                     ·refine aQ<|jE rfl hE<|Wk ?_;exact aE rfl fun D hD=>by obtain rfl:=bNP hE;rfl
                     ·refine aO<|Zaw rfl<|Zf rfl<|aF<|Zaf rfl (fun hJ=>?_) (fun hJ=>?_)
                      ·refine Wk ?_;exact aE rfl fun D hD=>by obtain rfl:=bNP hJ;rfl
                      ·refine bG<|Wac ?_;exact aE rfl fun D hD=>by show Value.int _ _=_;rw[aMF (w:=w) (bNO hc1) (bNO hc2) (bNO hc3) (bNO hc4) (bNO hK) (bNO hN) (bNO hO) (bNO hP) (bNO hR) (bNO I) (bNO hF) (bNO O) (bNO R) (bNO U) (bNO V) (bNO Y) (bNO Z) (bNO hH) (bNO hB) (bNO hI) (bNO hE) (bNO hJ)]
theorem BD(line:Λ)(hl:line.size≤1000)(D:aC):Fn prog 33 #[.string line] D (fun D' v=>∃nv b,v=.tuple #[nv,.bool b]∧(match iQ line.data.toList with|some ns=>b=true∧Sl D' RI 1 nv ns|none=>b=false)):=by
 obtain⟨p0,ps,hcut⟩:=pD line;have hcl:=P6 line;have R:(eA line)[0]?= some p0:=by rw[hcut];rfl
 have hpl:(eA line).length=ps.length+1:=by rw[hcut];rfl
 refine Zw 40 func33 rfl fun h0=>aA<|Zf rfl<|Zf rfl<|aJ<|Za rfl<|Zy rfl (fun D1 U=>u6 line hl _) fun v1 D1 U O=>Zf rfl<|bC<|Za rfl<|Zx rfl U22 fU rfl O rfl R fun b1 o1 V Y hX Z=>?_;obtain rfl:V=[.string _]:=Y;refine Zh 0 rfl sZ rfl Z rfl<|Zd rfl (fun D2 hD2=>N5 p0 _)<|Za rfl<|Zai rfl U22 rfl O rfl<|Zav rfl<|Zax rfl<|aF<|Zae rfl (fun hc1=>?_) fun hc1=>?_
 ·refine Wby ?_;exact Zo [_,_] rfl cF fun D hD=>⟨_,false,rfl,by rw[aGU hcut hc1]⟩
 ·refine aQ<|aA<|Zf rfl<|bC<|Zf rfl<|aF<|Za1<|Zc (Nat×List Int×Γ×aD) (fun g=>ps.length-g.1) (fun g=>g.1≤ps.length∧(ps.take g.1).mapM vC=some g.2.1∧g.2.1.length=g.1∧bI 3 1 g.2.2.1 g.1 (ints g.2.1) g.2.2.2) (fun g=>[(6,qI ((g.1+1:Nat):Int)),(5,g.2.2.1)]) [(4,_),(3,_),(2,_)] (fun g=>g.2.2.2++[]) (fun g=>[D1,D]) (0,[],qN,[]) ⟨Yf,rfl,rfl,Xap⟩ ⟨Ya,Ya,bSM⟩ Mm5 ?_;rintro⟨k,ns,v,ν⟩ ⟨h1,h2,h3,ha⟩;simp only at h1 h2 h3 ha;refine bZ<|Za rfl<|Za rfl<|Zai rfl U22 rfl O rfl<|Zan rfl<|aF<|Zae rfl (fun hc2=>?_) (fun hc2=>?_)
  ·simp only at hc2;have hk:k<ps.length:=Yd
   obtain⟨x,hx⟩:=cT ps k;refine aQ<|Za3<|Za1<|aA<|Za rfl<|Za rfl<|Zx rfl U22 fU rfl O rfl (by rw[hcut];exact aXT hx) fun b2 o2 hB hE hY hF=>?_
   obtain rfl:hB=[.string _]:=hE;refine Zh 0 rfl sZ rfl hF rfl<|Zy rfl (fun D3 hH=>YX x _) fun v3 D3 hH hI=>?_;obtain⟨m,nb,rfl,hJ,hK⟩:=hI;refine Za rfl<|Zap rfl<|Zap rfl<|Zf rfl<|Zf rfl<|bC<|Za rfl<|Zat rfl<|aF<|Zaf rfl (fun hc3=>?_) fun hc3=>?_
   ·refine aA<|Zf rfl<|Wax ?_;exact Zo [_,_] rfl cF fun D hD=>⟨_,false,rfl,by rw[aOH hcut hc1 hx (hK Xac)]⟩
   ·have hnb:nb=true:=Xac
    refine aQ<|aO<|Za rfl<|Za rfl<|Zt rfl U25 aH cE rfl (.cons rfl rfl .nil) fun rA rB hN I=>?_;have hO:=Sl.ofInts (l:=[_]) (n:=1) (cap:=1) I rfl Yd Yd;refine aS (A:=[]) (B:=[]) rfl U25 rfl rfl aH cE rfl kD rfl rfl rfl ha (jY.lit I) Yf rfl (by simp[ints,h3]) Yk Yd (bNI rfl) rfl bSM fun v1 ν1 hP=>?_;have hR:bI 3 1 v1 (k+1) (ints (ns++[m])) ν1:=by rw[←eV];exact hP
    refine aV (ν1++[]) rfl<|Wu ?_;exact aL 26 (k+1,ns++[m],v1,ν1) ⟨Yn,SE hx h2 (hJ hnb),by simp[h3],hR⟩ Yn ⟨Ya,Ya,bSM⟩ rfl rfl Mm5 fun D h=>⟨D,bNM _ (bNM _ (h)),Le.refl D⟩
  ·obtain rfl:k=ps.length:=by simp only at hc2;omega
   rw[bNR]at h2;refine Za6<|Za2<|Za2<|Za7<|Zaz<|aA<|Za rfl<|Zf rfl<|Zf rfl<|aG<|dS (A:=[]) (B:=[]) ha rfl fun D9 hD9 hS=>?_;have hns:=hS.ints (l:=ns) h3 Yd;exact Zo [_,_] rfl cF fun D hD=>⟨_,true,rfl,by rw[aMB hcut hc1 h2];exact⟨rfl,hns.up RI.up (hD _ Yf)⟩⟩
end L12
theorem YD{t e tr:Θ}{sz n cap:Nat}{ad ad':Option Addr}{c':Nat}{ats:Array Θ}
  (ho:all[ix]?= some ⟨some d,.call {callee:=.builtin .append,args:=#[x,y],argTypes:=ats},tr,pos,aft,g⟩) (ht:P.underlying t=some (.slice e)) (hat:ats[0]?= some t) (I:ats[1]?= some t) (hs:TS P e sz)
  (hx:ev σ x=some (.slice ad n cap)) (hy:ev σ y=some (.slice ad' 0 c')) (hcap:n≤cap) (hN:Nat.blt d X.N=true) (hg:cQ all σ g)
  (kk:WL P X bad all K Q os ((d,.slice ad n cap)::σ) μ Ds):WL P X bad all K Q ((fl,ix)::os) σ μ Ds:=by
 refine fF ho rfl rfl hg fun a w hh=>?_
 have hex:(execOp a.eval ⟨some d,.call {callee:=.builtin .append,args:=#[x,y],argTypes:=ats},tr,pos,aft,g⟩).run P w=
   ((Builtin.append_ ats tr #[.slice ad n cap,.slice ad' 0 c']).run P w).andThen fun r w'=>.ok (.value r) w':=by
  simp only[execOp,resolve,pure_bind,invoke,builtin];have O:(#[x,y].map a.eval)=#[.slice ad n cap,.slice ad' 0 c']:=Xbe
  rw[O,Ω];simp only[ε]
 rw[hex];have hfc:(Builtin.firstCells sz 0 (.slice ad' 0 c')).run P w=.ok ([]:List Γ).toArray w:=by
  cases ad' with
  |none=>rfl
  |some a=>simp[Builtin.firstCells,loadCells,loadCellsFrom]
 rw[G0 (tr:=tr) (w':=w) ht hat I hs (m:=0) (xs:=[]) rfl hfc hcap (by cases ad<;>rfl)];exact⟨fun _=>pX.refl _ _,kk _ _ (hh.put hN _)⟩
theorem aIX{t e tr:Θ}{sz n m b:Nat}{D₁ D₂:aC}{cells xs:List Γ}{xv:Γ}{z0:Γ}{ats:Array Θ}
  (ho:all[ix]?= some ⟨some d,.call {callee:=.builtin .append,args:=#[x,y],argTypes:=ats},tr,pos,aft,g⟩) (ht:P.underlying t=some (.slice e)) (hat:ats[0]?= some t) (I:ats[1]?= some t)
  (hs:TS P e sz) (hz:TZ P e z0) (O:Nat.beq z0.cells.size sz=true) (hi:(P.info? e).map (fun i=>Nat.ble 1 i.bytes&&Nat.ble i.bytes 4096)=some true)
  (hx:ev σ x=some (qS b n n)) (hy:ev σ y=some xv) (hA:At D₁ b 0 cells) (hD:D₁∈Ds) (hcl:cells.length=n*sz) (hsrc:jY D₂ xv m xs) (R:D₂∈Ds) (hxl:xs.length=m*sz) (Y:0<m) (hlen:n+m≤10000000) (hN:Nat.blt d X.N=true) (hg:cQ all σ g)
  (kk:∀v' ν',bI e sz v' (n+m) (cells++xs) ν'→WL P X bad all K Q os ((d,v')::σ) (ν'++μ) Ds):WL P X bad all K Q ((fl,ix)::os) σ μ Ds:=by
 refine fF ho rfl rfl hg fun a w hh=>?_
 obtain⟨h1,h2,h3,D,h4,h5,Z⟩:=id hh;obtain⟨i0,hi,U,V⟩:∃i0,P.info? e=some i0∧1≤i0.bytes∧i0.bytes≤4096:=by
  cases h:P.info? e with
  |none=>simp[h]at hi
  |some i=>simp[h]at hi;exact⟨i,rfl,hi⟩
 have hz1':=bOV O;have hex:(execOp a.eval ⟨some d,.call {callee:=.builtin .append,args:=#[x,y],argTypes:=ats},tr,pos,aft,g⟩).run P w=
   ((Builtin.append_ ats tr #[qS b n n,xv]).run P w).andThen fun r w'=>.ok (.value r) w':=by
  simp only[execOp,resolve,pure_bind,invoke,builtin];have e1:(#[x,y].map a.eval)=#[qS b n n,xv]:=Xbe
  rw[e1,Ω];simp only[ε]
 rw[hex];have lies:∀{D₀:aC} (_:D₀∈Ds) (w':Δ),w'.heap=w.heap→∀b o ys,At D₀ b o ys→aSL w' b o ys:=fun hD₀ w' hw' b o ys hA j u hj=>by
  have:=h4.agr.cell ((h5 _ hD₀).get (hA j u hj));unfold World.cell? at this ⊢
  rw[hw'];exact this
 obtain⟨c,hc,hrun⟩:=AC (tr:=tr) (w:=w) (a:=some ⟨b,0,none⟩) (n:=n) (cap:=n) (old:=cells) ht hat I hs hz hi (KP hsrc) (fun w' hw'=>L6 hsrc hxl fun b o=>lies R w' hw' b o xs) (fun w' hw'=>by
  simp only[Builtin.firstCells];exact oK hcl (lies hD w' hw' b 0 cells hA)) Yd hlen ⟨U,V⟩
 rw[hrun];obtain⟨junk,hjunk⟩:∃junk:List Γ,cells.toArray++xs.toArray++Builtin.zeroCells z0.cells (c-(n+m))=(cells++xs++junk).toArray∧(cells++xs++junk).length=c*sz:=by
  refine⟨(Builtin.zeroCells z0.cells (c-(n+m))).toList,Yf,?_⟩;have:=L8 z0.cells (c-(n+m));simp only[LE,Array.length_toList,this,hz1',hcl,hxl];rw[←bPR,←bPR];congr 1;omega
 have hpush:=h4.push (.cells (cells++xs++junk).toArray e (0,0)) rfl;simp only[Ξ];rw[hjunk.1];refine⟨fun _=>⟨Yf,fun b hb _=>dJ hb⟩,?_⟩;have hst:iT X.h0 X.lo X.D0 X.mods ([(w.heap.size,.cells (cells++xs++junk).toArray e (0,0))]++μ) D {w with drawn:=w.drawn+1,heap:=w.heap.push (.cells (cells++xs++junk).toArray e (0,0))}:=
  ⟨hpush.hlo,hpush.size,hpush.old,hpush.dold,hpush.agr,hpush.box,hpush.nd,hpush.fz,hpush.env⟩
 exact kk _ _ (bNC ⟨_,c,junk,rfl,hc,rfl,by simp[hcl,hxl,bPR],hjunk.2⟩) _ _ (Hl.put ⟨h1,h2,h3,D,hst,h5,Z.step (fun _ p hp=>by
  rcases bNH.1 hp with hp|hp
  ·exact bNC (by rw[bNL.1 hp];exact bNJ _)
  ·exact bNI (bMR.2 ⟨p,hp,rfl⟩)) (fun _=>⟨Yf,fun b hb _=>⟨dJ hb,rfl⟩,rfl⟩) hst.dom⟩ hN _)
namespace L12
open C12 Go.Lib
theorem Q5(l:List Λ):∀u∈l.map Value.string,cell1 u=true:=by
 intro u hu;obtain⟨x,_,rfl⟩:=bMR.1 hu;rfl
theorem aRT{α:Type}(f:α→Γ)(l:List α):l.flatMap (fun x=>[f x])=l.map f:=by
 induction l with
 |nil=>rfl
 |cons a l ih=>rw[bNW,ih];rfl
theorem _root_.Go.Fs.jY.strs{D:aC}{v:Γ}{l:List Λ}(h:Sl D RS 1 v l):jY D v l.length (l.map Value.string):=by
 rw[←aRT];exact jY.of (R:=RS) (fun _ _ _ h=>h) (fun _=>rfl) h
section
variable{α:Type}[DecidableEq α]{xs ys:List α}{a b:α}{k:Nat}
omit [DecidableEq α]in
theorem aVG(ha:xs[k]?= some a)(hb:ys[k]?= some b)(h:xs.take k=ys.take k)(e:a=b):xs.take (k+1)=ys.take (k+1):=by
 rw[bMZ,bMZ,ha,hb,h,e]
theorem bCZ(h:xs.length≠ys.length):decide (xs=ys)=false:=decide_eq_false fun e=>h (by rw[e])
theorem bJF(ha:xs[k]?= some a)(hb:ys[k]?= some b)(h:a≠b):decide (xs=ys)=false:=decide_eq_false fun e=>h (by rw[e,hb]at ha;exact(bNS ha).symm)
theorem aZJ(hl:xs.length=ys.length)(hk:xs.length≤k)(h:xs.take k=ys.take k):decide (xs=ys)=true:=decide_eq_true (by rwa [bNV hk,bNV Yd]at h)
end
theorem aEL{xs:List Λ}{x:Λ}{k n:Nat}(hx:xs[k]?= some x)(h:∀y∈xs.take k,y.size≤n)(hs:x.size≤n):∀y∈xs.take (k+1),y.size≤n:=by
 intro y hy;rw[bMZ,hx,bNH]at hy;rcases hy with hy|hy
 ·exact h y hy
 ·simp at hy;subst hy;exact hs
theorem UG{xs:List Λ}(h:40<xs.length):eG xs=3:=by
 unfold eG;rw[bNK];simp;left;omega
theorem TR{xs:List Λ}{x:Λ}{k:Nat}(hx:xs[k]?= some x)(h:50<x.size):eG xs=3:=by
 unfold eG;rw[bNK];simp only[bNZ,GT,bPQ,bSA];exact bNC ⟨x,n5 hx,Yaq⟩
theorem aIV{xs:List Λ}(h:xs.length≤40)(h2:∀x∈xs,x.size≤50):eG xs=0:=by
 unfold eG;rw[bNA];simp only[bNZ,GT,bPQ,bSA,bSF,not_exists,not_and];refine⟨Yd,fun x hx=>?_⟩;have:=h2 x hx;simp;omega
def KH(xs:List Λ):Bool:=decide (xs.length≤45)&&xs.all fun x=>decide (x.size≤70)
theorem AS{xs:List Λ}:KH xs=true ↔ xs.length≤45∧∀x∈xs,x.size≤70:=by unfold KH;simp
theorem aBE{xs:List Λ}{x:Λ}{k:Nat}(hx:xs[k]?= some x)(h:70<x.size):KH xs=false:=by
 rw[←Bool.not_eq_true,AS];rintro⟨_,h2⟩;have:=h2 x (n5 hx);omega
theorem aKQ{xs:List Λ}{k:Nat}(hk:xs.length≤k∨46≤k)(h:∀x∈xs.take k,x.size≤70):KH xs=decide ((xs.length:Int)≤45):=by
 rw[bPT,AS,GT];constructor
 ·rintro⟨h1,_⟩;omega
 ·intro h1;have h2:xs.take k=xs:=bNV Yd;rw[h2]at h;exact⟨Yd,h⟩
theorem IE:∀{ps:List (List UInt8)} {ns:List Int},ps.mapM rR=some ns→ns.length=ps.length
 | [],ns,h=>by
  obtain rfl:([]:List Int)=ns:=Yaw
  rfl
 |p::ps,ns,h=>by
  rw[bQM]at h;cases hp:rR p with
  |none=>rw[hp]at h;cases h
  |some q=>
   cases hq:ps.mapM rR with
   |none=>rw[hp,hq]at h;cases h
   |some qs=>
    rw[hp,hq]at h;obtain rfl:q::qs=ns:=bNS h;rw[bMX,bMX,IE hq]
theorem aOW{x:Λ}{ns:List Int}(h:iQ x.data.toList=some ns)(hs:x.size≤1000):ns.length≤1001:=by
 have hc:=OG x.data.toList;have hl:x.data.toList.length=x.size:=rfl;unfold iQ at h;split at h
 ·cases h
 ·rename_i p ps hps;split at h
  ·have:=IE h;rw[hps,bMX]at hc;omega
  ·cases h
theorem JQ{D:aC}{nv:Γ}{nb:Bool}{o:Option (List Int)}(hb:nb=false)(h:match o with|some ns=>nb=true∧Sl D RI 1 nv ns|none=>nb=false):o=none:=by
 cases o with
 |none=>rfl
 |some ns=>rw[hb]at h;cases h.1
def S7(br:Bool)(ns:List Int)(j:Nat):Nat:=((List.range j).filter fun i=>(decide (1≤i)&&decide (ns[i]?= some 2))&&(br||decide (i=2))).length
theorem TC(br:Bool)(ns:List Int):S7 br ns 1=0:=rfl
theorem aGG(br:Bool)(ns:List Int)(j:Nat):S7 br ns j≤j:=by
 unfold S7;exact bPD (bOJ _ _) Yf
theorem KJ(br:Bool)(ns:List Int)(j:Nat):S7 br ns (j+1)=S7 br ns j+if((decide (1≤j)&&decide (ns[j]?= some 2))&&(br||decide (j=2)))=true then 1 else 0:=by
 unfold S7;rw[bOG,bOE,LE];congr 1;rw[bPP];split<;>rfl
theorem SS{br:Bool}{ns:List Int}{j:Nat}{m:Int}(hm:ns[j]?= some m)(hj:1≤j)(h:(decide (m=2)&&(br||decide ((j:Int)=2)))=true):S7 br ns (j+1)=S7 br ns j+1:=by
 rw[KJ,bNK];simp only[bMS,bNZ,GT]at h ⊢
 refine⟨⟨hj,by rw[hm,h.1]⟩,h.2.imp id fun e=>Yd⟩
theorem aDJ{br:Bool}{ns:List Int}{j:Nat}{m:Int}(hm:ns[j]?= some m)(h:(decide (m=2)&&(br||decide ((j:Int)=2)))=false):S7 br ns (j+1)=S7 br ns j:=by
 rw[KJ,bNA]
 ·rfl
 ·intro hh;simp only[bMS,bNZ,GT]at hh;have:(decide (m=2)&&(br||decide ((j:Int)=2)))=true:=by
   simp only[bMS,bNZ,GT];refine⟨?_,hh.2.imp id fun e=>Yd⟩;have h2:=hh.1.2;rw[hm]at h2;exact bNS h2
  rw[this]at h;cases h
theorem aKR(br:Bool)(ns:List Int){j:Nat}(h:j≤max 1 ns.length)(h2:ns.length≤j):S7 br ns j=S7 br ns ns.length:=by
 by_cases hl:ns.length=0
 ·rw[hl];obtain rfl|rfl:j=0∨j=1:=Yd
  ·rfl
  ·rfl
 ·obtain rfl:j=ns.length:=Yd
  rfl
def LY(x:Λ):Λ:=(eA x).headD ⟨#[]⟩
def bAV(x:Λ):Nat:=match iQ x.data.toList with
 |none=>0
 |some _=>if LY x=⟨#[115,109,117,100,103,101]⟩then 1 else 0
def bHE(x:Λ):Nat:=match iQ x.data.toList with
 |none=>0
 |some ns=>if(decide (LY x=⟨#[98,114,111,107,101,110]⟩)||decide (LY x=⟨#[112,97,114,116]⟩))=true then S7 (decide (LY x=⟨#[98,114,111,107,101,110]⟩)) ns ns.length else 0
def aVH(xs:List Λ):Bool:=decide (((xs.map bAV).sum:Int)≤3)&&decide (((xs.map bHE).sum:Int)≤4)
theorem aML{xs:List Λ}{sm un:Nat}(h2:sm=(xs.map bAV).sum)(h3:un=(xs.map bHE).sum):(decide ((sm:Int)≤3)&&decide ((un:Int)≤4))=aVH xs:=by rw[h2,h3];rfl
theorem zA{xs:List Λ}{x:Λ}{k:Nat}{f:Λ→Nat}(hx:xs[k]?= some x):((xs.take (k+1)).map f).sum=((xs.take k).map f).sum+f x:=by
 rw[bMZ,hx];simp
section
variable{x p0:Λ}{ps:List Λ}{ns:List Int}{j:Nat}
theorem aUE(h:iQ x.data.toList=none):bAV x=0:=by unfold bAV;rw[h]
theorem aUG(h:iQ x.data.toList=none):bHE x=0:=by unfold bHE;rw[h]
theorem GA(hc:eA x=p0::ps):LY x=p0:=by unfold LY;rw[hc];rfl
theorem bDW(hc:eA x=p0::ps)(h:iQ x.data.toList=some ns)(hp:decide (p0=⟨#[115,109,117,100,103,101]⟩)=true):bAV x=1:=by unfold bAV;rw[h,GA hc];exact bNK (bNP hp)
theorem bHP(hc:eA x=p0::ps)(h:iQ x.data.toList=some ns)(hp:decide (p0=⟨#[115,109,117,100,103,101]⟩)=false):bAV x=0:=by unfold bAV;rw[h,GA hc];exact bNA (bNO hp)
theorem aRW(hc:eA x=p0::ps)(h:iQ x.data.toList=some ns)(he:(decide ((j:Int)<(ns.length:Int))&&(decide (p0=⟨#[98,114,111,107,101,110]⟩)||decide (p0=⟨#[112,97,114,116]⟩)))=false)(I:j≤max 1 ns.length)(h8:j=1∨(decide (p0=⟨#[98,114,111,107,101,110]⟩)||decide (p0=⟨#[112,97,114,116]⟩))=true):bHE x=S7 (decide (p0=⟨#[98,114,111,107,101,110]⟩)) ns j:=by
 unfold bHE;rw[h,GA hc];simp only;rw[bRQ]at he;by_cases hb:(decide (p0=⟨#[98,114,111,107,101,110]⟩)||decide (p0=⟨#[112,97,114,116]⟩))=true
 ·rw[bNK hb];have hj:=he.resolve_right (by rw[hb];simp)
  exact(aKR _ ns I (by have:=bNO hj;omega)).symm
 ·rw[bNA hb];obtain rfl:=h8.resolve_right hb;rfl
end
theorem aKM{D:aC}{nv:Γ}{nb:Bool}{o:Option (List Int)}(hb:nb=true)(h:match o with|some ns=>nb=true∧Sl D RI 1 nv ns|none=>nb=false):∃ns,o=some ns∧Sl D RI 1 nv ns:=by
 cases o with
 |none=>simp only at h;rw[hb]at h;cases h
 |some ns=>exact⟨ns,rfl,h.2⟩
theorem aLB(sv:Γ)(xs:List Λ)(D:aC)(hS:Sl D RS 1 sv xs)(hl:xs.length≤10000000):Fn prog 12 #[sv] D (fun D' v=>Sl D' RS 1 v xs):=by
 refine Zw 6 func12 rfl fun h0=>aA<|Zf rfl<|aJ<|Zt rfl U22 fU tf_z9 rfl .nil fun V Y I O=>Za rfl<|aS (A:=[]) (ν:=[]) (B:=[]) rfl U22 rfl rfl fU tf_z9 rfl G6 rfl rfl rfl bI.nil (jY.strs hS) Yf Yap rfl (Q5 _) Yd (bNI rfl) rfl bSM fun v1 ν1 R=>We ?_;have U:bI 9 1 v1 xs.length (xs.map Value.string) ν1:=by simpa using R
 refine dS (A:=[]) (B:=[]) U rfl fun D2 Z hF=>?_;exact aE rfl fun D' hD=>(hF.strs rfl Yd).up RS.up (hD _ Yf)
theorem XD(av bv:Γ)(xs ys:List Int)(D:aC)(hx:Sl D RI 1 av xs)(hy:Sl D RI 1 bv ys):Fn prog 16 #[av,bv] D (fun _ v=>v=.bool (decide (xs=ys))):=by
 have hl:=hx.len;refine Zw 26 func16 rfl fun h0=>aA<|Zf rfl<|bC<|Za rfl<|Zai rfl U43 rfl hx rfl<|Za rfl<|Zai rfl U25 rfl hy rfl<|Zax rfl<|aF<|Zae rfl (fun hc1=>?_) fun hc1=>?_
 ·refine Wci ?_;exact aE rfl fun D hD=>bNB Value.bool (bCZ Yd).symm
 ·have hlen:xs.length=ys.length:=Yd
  refine aQ<|bZ<|Zf rfl<|aF<|Za1<|bM (γ:=Nat) (fun k=>xs.length-k) (fun k=>k≤xs.length∧xs.take k=ys.take k) (fun k=>[(5,qI (k:Int))]) [(4,_),(0,_),(1,_)] (fun k=>[D]) 0 Yf ⟨Ya,bSM⟩ cF (aK) ?_;rintro k ⟨h1,h2⟩;refine bZ<|Za rfl<|Za rfl<|Zai rfl U43 rfl hx rfl<|Zan rfl<|aF<|Zae rfl (fun hc2=>?_) fun hc2=>?_
  ·have hk:k<xs.length:=Yd
   obtain⟨a,ha⟩:=cT xs k;obtain⟨b,hb⟩:=cT ys k;refine aQ<|Za3<|Za1<|Za3<|bN [] 3 9 242<|Za rfl<|Za rfl<|Zx rfl U43 tE rfl hx rfl ha fun V Y I O U R=>?_;obtain rfl:I=[qI _]:=O;refine Zh 0 rfl tC rfl R rfl<|Za rfl<|Za rfl<|iW rfl hy rfl hb fun b2 Z=>Zax rfl<|aF<|Zae rfl (fun hc3=>?_) fun hc3=>?_
   ·refine aA<|Wi ?_;exact aE rfl fun D hD=>bNB Value.bool (bJF ha hb (hc3)).symm
   ·refine Wch ?_;exact aL 17 (k+1) ⟨Yd,aVG ha hb h2 Yd⟩ Yd ⟨Ya,bSM⟩ rfl rfl Mm5 (aK)
  ·refine Wl ?_;exact aE rfl fun D hD=>bNB Value.bool (aZJ hlen Yd h2).symm
theorem ZU(sv:Γ)(xs:List Λ)(D:aC)(hS:Sl D RS 1 sv xs):Fn prog 13 #[sv] D (fun _ v=>v=qI (eG xs)):=by
 have hl:=hS.len;refine Zw 19 func13 rfl fun h0=>aA<|Zf rfl<|bC<|Za rfl<|Zai rfl U22 rfl hS rfl<|Zaq rfl<|aF<|Zae rfl (fun hc1=>?_) fun hc1=>?_
 ·refine Wci ?_;exact aE rfl fun D hD=>by show Value.int _ _=_;rw[UG Yd]
 ·have I:xs.length≤40:=Yd
  refine aQ<|bZ<|Zf rfl<|aF<|Za1<|bM (γ:=Nat) (fun k=>xs.length+1-k) (fun k=>k≤xs.length∧∀x∈xs.take k,x.size≤50) (fun k=>[(3,qI (k:Int))]) [(2,_),(0,_)] (fun k=>[D]) 0 ⟨Yd,Yf⟩ ⟨Ya,bSM⟩ cF (aK) ?_;rintro k ⟨h1,h2⟩;refine bZ<|Za rfl<|Za rfl<|Zai rfl U22 rfl hS rfl<|Zan rfl<|aF<|Zae rfl (fun hc2=>?_) fun hc2=>?_
  ·have hk:k<xs.length:=Yd
   obtain⟨x,hx⟩:=cT xs k;refine aQ<|Za3<|Za1<|aA<|Za rfl<|Za rfl<|Zx rfl U22 fU rfl hS rfl hx fun Y Z O R V U=>?_;obtain rfl:O=[.string _]:=R;refine Zh 0 rfl sZ rfl U rfl<|gR rfl U9 rfl rfl rfl bSM<|Zaq rfl<|aF<|Zae rfl (fun hc3=>?_) fun hc3=>?_
   ·refine aA<|Wi ?_;exact aE rfl fun D hD=>by show Value.int _ _=_;rw[TR hx Yd]
   ·refine Wch ?_;exact aL 14 (k+1) ⟨Yd,aEL hx h2 Yd⟩ Yd ⟨Ya,bSM⟩ rfl rfl Mm5 (aK)
  ·obtain rfl:k=xs.length:=Yd
   rw[bNR]at h2;refine Wl ?_;exact aE rfl fun D hD=>by show Value.int _ _=_;rw[aIV I h2]
theorem aJA(sv:Γ)(xs:List Λ)(D:aC)(hS:Sl D RS 1 sv xs):Fn prog 8 #[sv] D (fun _ v=>v=.bool (KH xs)):=by
 have hl:=hS.len;refine Zw 23 func8 rfl fun h0=>aA<|Zf rfl<|bC<|Zf rfl<|aF<|Za1<|bM (γ:=Nat) (fun k=>xs.length+1-k) (fun k=>k≤xs.length∧∀x∈xs.take k,x.size≤70) (fun k=>[(3,qI (k:Int))]) [(2,_),(0,_)] (fun k=>[D]) 0 ⟨Yd,Yf⟩ ⟨Ya,bSM⟩ cF (aK) ?_;rintro k ⟨h1,h2⟩;refine bZ<|Za rfl<|Za rfl<|Zai rfl U22 rfl hS rfl<|Wcb ?_;refine' bX 3 (s:=8) (p:=11) rfl (fun O=>?_) (fun O=>?_) ?_;rotate_left
 ·refine Zb rfl<|GV rfl rfl rfl rfl ⟨_,rfl,rfl⟩<|Zak rfl ?_;exact aN 2
 ·refine War ?_;exact aN 2
 refine aF<|Zaf rfl (fun hc1=>?_) fun hc1=>?_
 ·have hk:k<xs.length:=by simp at hc1;omega
  obtain⟨x,hx⟩:=cT xs k;refine aQ<|Za3<|Za1<|aA<|Za rfl<|Za rfl<|Zx rfl U22 fU rfl hS rfl hx fun Z o1 R U Y V=>?_;obtain rfl:R=[.string _]:=U;refine Zh 0 rfl sZ rfl V rfl<|gR rfl U9 rfl rfl rfl bSM<|Zaq rfl<|aF<|Zae rfl (fun hc2=>?_) fun hc2=>?_
  ·refine aA<|Wi ?_;exact aE rfl fun D hD=>by show Value.bool _=_;rw[aBE hx Yd]
  ·refine Wch ?_;exact aL 16 (k+1) ⟨Yd,aEL hx h2 Yd⟩ Yd ⟨Ya,bSM⟩ rfl rfl Mm5 (aK)
 ·have I:xs.length≤k∨46≤k:=by simp at hc1;omega
  refine Za6<|Za2<|Za2<|Za7<|Zaz<|aA<|Za rfl<|Zai rfl U22 rfl hS rfl<|gJ rfl rfl rfl rfl bSM<|We ?_;exact aE rfl fun D hD=>by show Value.bool (decide _)=_;rw[aKQ I h2]
theorem aAE(sv:Γ)(xs:List Λ)(D:aC)(hS:Sl D RS 1 sv xs)(hn:xs.length≤1000)(hsz:∀x∈xs,x.size≤1000):Fn prog 9 #[sv] D (fun _ v=>v=.bool (aVH xs)):=by
 have hl:=hS.len;refine Zw 72 func9 rfl fun h0=>aA<|Zf rfl<|aJ<|Zf rfl<|Zf rfl<|bC<|Zf rfl<|aF<|Za1<|bM (γ:=Nat×Nat×Nat) (fun g=>xs.length-g.1) (fun g=>g.1≤xs.length∧g.2.1=((xs.take g.1).map bAV).sum∧g.2.2=((xs.take g.1).map bHE).sum∧g.2.1≤g.1∧g.2.2≤1002*g.1) (fun g=>[(5,qI (g.1:Int)),(3,qI (g.2.1:Int)),(4,qI (g.2.2:Int))]) [(2,_),(0,_)] (fun g=>[D]) (0,0,0) ⟨Yf,Yf,Yf,Yf,Yf⟩ ⟨Ya,Ya,Ya,bSM⟩ cF (aK) ?_;rintro⟨k,sm,un⟩ ⟨h1,h2,h3,Y,Z⟩;simp only at h1 h2 h3 Y Z;refine bZ<|Za rfl<|Za rfl<|Zai rfl U22 rfl hS rfl<|Zan rfl<|aF<|Zae rfl (fun hc1=>?_) fun hc1=>?_
 ·simp only at hc1;have hk:k<xs.length:=Yd
  obtain⟨x,hx⟩:=cT xs k;have hxs:=hsz x (n5 hx);refine aQ<|Za3<|Za1<|aA<|Za rfl<|Za rfl<|Zx rfl U22 fU rfl hS rfl hx fun b1 o1 hB hE hcl1 hF=>?_;obtain rfl:hB=[.string _]:=hE;refine Zh 0 rfl sZ rfl hF rfl<|Zy rfl (fun D1 hH=>BD x hxs _) fun v1 D1 hH hI=>?_;obtain⟨nv,nb,rfl,O⟩:=hI;refine Za rfl<|Zap rfl<|Zap rfl<|Zf rfl<|Zf rfl<|bC<|Za rfl<|Zat rfl<|aF<|Zaf rfl (fun hc2=>?_) fun hc2=>?_
  ·have hns:=JQ Yav O;refine Za6<|Za2<|Za7<|Zaz<|aO<|Za rfl<|Wbt ?_;exact aL 22 (k+1,sm,un) ⟨Yn,by simp only;rw[zA hx,aUE hns];omega,by simp only;rw[zA hx,aUG hns];omega,Yn,Yn⟩ Yn ⟨Ya,Ya,Ya,bSM⟩ rfl rfl Mm5 fun D h=>⟨D,bNM _ (h),Le.refl D⟩
  ·have hnbt:nb=true:=Yav
   obtain⟨ns,hns,hnv⟩:=aKM hnbt O;have hkl:ns.length≤1001:=aOW hns hxs;obtain⟨p0,ps,hcut⟩:=pD x;have hJ:(eA x)[0]?= some p0:=by rw[hcut];rfl
   refine aQ<|aA<|Za rfl<|Za rfl<|Zx rfl U22 fU rfl hS rfl hx fun b2 o2 hK hN hcl2 hO=>?_;obtain rfl:hK=[.string _]:=hN;refine Zh 0 rfl sZ rfl hO rfl<|Zy rfl (fun D2 hP=>u6 x hxs _) fun v2 D2 hP hR=>Zx rfl U22 fU rfl hR rfl hJ fun b3 o3 hX hY hcl3 rA=>?_;obtain rfl:hX=[.string _]:=hY;refine Zh 0 rfl sZ rfl rA rfl<|Zf rfl<|bC<|Za rfl<|Zaw rfl<|aF<|Zaf rfl (fun hc3=>?_) fun hc3=>?_
   ·refine aO<|Za rfl<|Zad rfl<|Zf rfl<|aJ<|Zf rfl<|aF<|Za1<|bM (γ:=Nat×Nat) (fun g=>1001+1-g.1) (fun g=>1≤g.1∧g.1≤1002∧g.1≤max 1 ns.length∧g.2=un+S7 (decide (p0=⟨#[98,114,111,107,101,110]⟩)) ns g.1∧(g.1=1∨(decide (p0=⟨#[98,114,111,107,101,110]⟩)||decide (p0=⟨#[112,97,114,116]⟩))=true)) (fun g=>[(9,qI (g.1:Int)),(4,qI (g.2:Int))]) [(3,_),(36,_),(35,_),(34,_),(33,_),(8,_),(32,_),(31,_),(30,_),(29,_),(28,_),(27,_),(26,_),(25,_),(24,_),(7,_),(6,_),(23,_),(22,_),(16,_),(21,_),(20,_),(19,_),(18,_),(17,_),(13,_),(12,_),(11,_),(10,_),(5,_),(2,_),(0,_)] (fun g=>[D2,D1,D]) (1,un) ⟨Yf,Yf,Yn,by simp only;rw[TC];rfl,bNI rfl⟩ ⟨Ya,Ya,bSM⟩ cF (aK) ?_;rintro⟨j,u2⟩ ⟨h4,h5,V,h7,h8⟩;simp only at h4 h5 V h7 h8;have hcj:=aGG (decide (p0=⟨#[98,114,111,107,101,110]⟩)) ns j;refine bZ<|Za rfl<|Za rfl<|Zai rfl U25 rfl hnv rfl<|Wcb ?_;refine' bX 7 (s:=41) (p:=48) rfl (fun rB=>?_) (fun rB=>?_) ?_;rotate_left
    ·refine Wba ?_;refine' dL 3 (s:=44) (p:=47) rfl (fun hg2=>?_) (fun hg2=>?_) ?_;rotate_left
     ·refine Zb rfl<|lW rfl rfl rfl rfl ⟨_,rfl,rfl⟩<|oT rfl rfl rfl rfl ⟨_,rfl,rfl⟩ ?_;exact aN 2
     ·refine Ws ?_;exact aN 2
     refine Zak rfl ?_;exact aN 4
    ·refine Wbd ?_;exact aN 6
    refine aF<|Zaf rfl (fun hc4=>?_) fun hc4=>?_
    ·have hjl:j<ns.length:=by have hz:=(bMS _ _).mp hc4;have:=bNP hz.1;omega
     have hbp:=((bMS _ _).mp hc4).2;obtain⟨m,hm⟩:=cT ns j;refine aQ<|Za3<|Za1<|aA<|Za rfl<|Za rfl<|iW rfl hnv rfl hm fun b4 o4=>Waw ?_;refine' bX 7 (s:=56) (p:=63) rfl (fun hg3=>?_) (fun hg3=>?_) ?_;rotate_left
     ·refine Wba ?_;refine' dL 3 (s:=59) (p:=62) rfl (fun hg4=>?_) (fun hg4=>?_) ?_;rotate_left
      ·refine Zb rfl<|Wam ?_;exact aN 2
      ·refine Ws ?_;exact aN 2
      refine Zak rfl ?_;exact aN 4
     ·refine Wbd ?_;exact aN 6
     refine aF<|Zaf rfl (fun R=>?_) fun R=>?_
     ·refine Wbz ?_;exact aL 21 (j+1,u2+1) ⟨Yn,Yn,Yn,by simp only;rw[SS hm h4 R];omega,Or.inr hbp⟩ Yn ⟨Ya,Ya,bSM⟩ rfl rfl Mm5 (aK)
     ·refine Wch ?_;exact aL 18 (j+1,u2) ⟨Yn,Yn,Yn,by simp only;rw[aDJ hm R];omega,Or.inr hbp⟩ Yn ⟨Ya,Ya,bSM⟩ rfl rfl Mm5 (aK)
    ·refine Wbp ?_;exact aL 41 (k+1,sm+1,u2) ⟨Yn,by simp only;rw[zA hx,bDW hcut hns hc3];omega,by simp only;rw[zA hx,aRW (j:=j) hcut hns hc4 V h8];omega,Yn,Yn⟩ Yn ⟨Ya,Ya,Ya,bSM⟩ rfl rfl Mm5 fun D h=>⟨D,bNM _ (bNM _ (h)),Le.refl D⟩
   ·refine aQ<|aA<|Zf rfl<|aF<|Za1<|bM (γ:=Nat×Nat) (fun g=>1001+1-g.1) (fun g=>1≤g.1∧g.1≤1002∧g.1≤max 1 ns.length∧g.2=un+S7 (decide (p0=⟨#[98,114,111,107,101,110]⟩)) ns g.1∧(g.1=1∨(decide (p0=⟨#[98,114,111,107,101,110]⟩)||decide (p0=⟨#[112,97,114,116]⟩))=true)) (fun g=>[(9,qI (g.1:Int)),(4,qI (g.2:Int))]) [(34,_),(33,_),(8,_),(32,_),(31,_),(30,_),(29,_),(28,_),(27,_),(26,_),(25,_),(24,_),(7,_),(6,_),(23,_),(22,_),(16,_),(21,_),(20,_),(19,_),(18,_),(17,_),(13,_),(12,_),(11,_),(10,_),(5,_),(3,_),(2,_),(0,_)] (fun g=>[D2,D1,D]) (1,un) ⟨Yf,Yf,Yn,by simp only;rw[TC];rfl,bNI rfl⟩ ⟨Ya,Ya,bSM⟩ cF (aK) ?_;rintro⟨j,u2⟩ ⟨h4,h5,V,h7,h8⟩;simp only at h4 h5 V h7 h8;have hcj:=aGG (decide (p0=⟨#[98,114,111,107,101,110]⟩)) ns j;refine bZ<|Za rfl<|Za rfl<|Zai rfl U25 rfl hnv rfl<|Wcb ?_;refine' bX 7 (s:=41) (p:=48) rfl (fun hg5=>?_) (fun hg5=>?_) ?_;rotate_left
    ·refine Wba ?_;refine' dL 3 (s:=44) (p:=47) rfl (fun hg6=>?_) (fun hg6=>?_) ?_;rotate_left
     ·refine Zb rfl<|lW rfl rfl rfl rfl ⟨_,rfl,rfl⟩<|oT rfl rfl rfl rfl ⟨_,rfl,rfl⟩ ?_;exact aN 2
     ·refine Ws ?_;exact aN 2
     refine Zak rfl ?_;exact aN 4
    ·refine Wbd ?_;exact aN 6
    refine aF<|Zaf rfl (fun I=>?_) fun I=>?_
    ·have hjl:j<ns.length:=by have hz:=(bMS _ _).mp I;have:=bNP hz.1;omega
     have hbp:=((bMS _ _).mp I).2;obtain⟨m,hm⟩:=cT ns j;refine aQ<|Za3<|Za1<|aA<|Za rfl<|Za rfl<|iW rfl hnv rfl hm fun b5 o5=>Waw ?_;refine' bX 7 (s:=56) (p:=63) rfl (fun hg7=>?_) (fun hg7=>?_) ?_;rotate_left
     ·refine Wba ?_;refine' dL 3 (s:=59) (p:=62) rfl (fun hg8=>?_) (fun hg8=>?_) ?_;rotate_left
      ·refine Zb rfl<|Wam ?_;exact aN 2
      ·refine Ws ?_;exact aN 2
      refine Zak rfl ?_;exact aN 4
     ·refine Wbd ?_;exact aN 6
     refine aF<|Zaf rfl (fun U=>?_) fun U=>?_
     ·refine Wbz ?_;exact aL 21 (j+1,u2+1) ⟨Yn,Yn,Yn,by simp only;rw[SS hm h4 U];omega,Or.inr hbp⟩ Yn ⟨Ya,Ya,bSM⟩ rfl rfl Mm5 (aK)
     ·refine Wch ?_;exact aL 18 (j+1,u2) ⟨Yn,Yn,Yn,by simp only;rw[aDJ hm U];omega,Or.inr hbp⟩ Yn ⟨Ya,Ya,bSM⟩ rfl rfl Mm5 (aK)
    ·refine Wbp ?_;exact aL 39 (k+1,sm,u2) ⟨Yn,by simp only;rw[zA hx,bHP hcut hns hc3];omega,by simp only;rw[zA hx,aRW (j:=j) hcut hns I V h8];omega,Yn,Yn⟩ Yn ⟨Ya,Ya,Ya,bSM⟩ rfl rfl Mm5 fun D h=>⟨D,bNM _ (bNM _ (h)),Le.refl D⟩
 ·obtain rfl:k=xs.length:=by simp only at hc1;omega
  rw[bNR]at h2 h3;refine Za6<|Za2<|Za2<|Za7<|Zaz<|aA<|Za rfl<|Wcj ?_;refine' bX 3 (s:=68) (p:=71) rfl (fun hg9=>?_) (fun hg9=>?_) ?_;rotate_left
  ·refine Zb rfl<|Wj ?_;exact aN 2
  ·refine War ?_;exact aN 2
  refine We ?_;exact aE rfl fun D hD=>by show Value.bool _=_;rw[aML h2 h3]
instance(x:Int):Decidable (NB x):=inferInstanceAs (Decidable (_∧_))
def s9:List Λ:=[(⟨#[112,108,97,99,101]⟩:Λ),⟨#[115,101,101,110,32,50,32,49]⟩,⟨#[99,111,117,110,116,32,51,32,50]⟩,⟨#[98,97,99,107,32,51,32,51]⟩,⟨#[116,105,100,101,32,50,32,56,32,57]⟩,⟨#[115,116,101,112,32,52]⟩,⟨#[108,101,118,101,108,32,54]⟩,⟨#[109,97,114,107,32,49,32,51,32,57,32,57]⟩,⟨#[104,105,114,101,32,48,32,49]⟩,⟨#[104,105,114,101,32,49,32,50]⟩,⟨#[98,114,105,110,103,32,48,32,49]⟩,⟨#[115,109,117,100,103,101,32,49]⟩,⟨#[98,114,111,107,101,110,32,52,32,49,32,48,32,48]⟩,⟨#[98,114,111,107,101,110,32,53,32,48,32,49,32,50]⟩,⟨#[99,108,97,105,109,32,48,32,50]⟩]
def UB:List Λ:=[(⟨#[115,116,101,112,32,48]⟩:Λ),⟨#[115,109,117,100,103,101,32,49]⟩,⟨#[108,101,118,101,108,32,48,53]⟩]
def aB:List Λ:=[(⟨#[97]⟩:Λ)]
theorem PR{D:aC}{b:Nat}{l:List Λ}(hA:At D b 0 (l.map Value.string))(hl:l.length≤1000):Sl D RS 1 (qS b l.length l.length) l:=by
 refine⟨_,_,rfl,bNJ _,Yd,bNC ⟨b,0,rfl,fun i x hi=>⟨_,rfl,rfl,fun j v hj=>?_⟩⟩⟩;cases j with
 |zero=>
  obtain rfl:Value.string x=v:=Xam
  have h:=hA i (.string x) (by rw[bOD,hi];rfl);simpa using h
 |succ j=>simp at hj
theorem bDO:aRS (aR s9).1:=⟨Ybf,Ybf,Ybf,Ybf,Ybf,Ybf,Ybf,Ybf,Ybf,Ybf,Ybf⟩
theorem bKR:K2 prog 72:=⟨Yg,Yg,Yg⟩
theorem bKP:K2 prog 75:=⟨Yg,Yg,Yg⟩
theorem OL(D:aC):Fn prog 35 #[qN] D (fun D' v=>Sl D' RS 1 v s9):=by
 refine Zw 6 func35 rfl fun h0=>aA<|Zf rfl<|aJ<|Zt rfl U22 fU tf_z9 rfl (.cons rfl rfl (.cons rfl rfl (.cons rfl rfl (.cons rfl rfl (.cons rfl rfl (.cons rfl rfl (.cons rfl rfl (.cons rfl rfl (.cons rfl rfl (.cons rfl rfl (.cons rfl rfl (.cons rfl rfl (.cons rfl rfl (.cons rfl rfl (.cons rfl rfl .nil))))))))))))))) fun R U O I=>Za rfl<|YD rfl U22 rfl rfl fU rfl rfl (bNJ _) rfl bSM<|We ?_;exact aE rfl fun D hD=>(PR (l:=s9) I Yt).up RS.up (hD _ Yf)
theorem bCV(mv:Γ)(ms:List Λ)(D:aC)(hS:Sl D RS 1 mv ms)(O:0<ms.length)(hm:ms.length≤1000):Fn prog 35 #[mv] D (fun D' v=>Sl D' RS 1 v (s9++ms)):=by
 refine Zw 6 func35 rfl fun h0=>aA<|Zf rfl<|aJ<|Zt rfl U22 fU tf_z9 rfl (.cons rfl rfl (.cons rfl rfl (.cons rfl rfl (.cons rfl rfl (.cons rfl rfl (.cons rfl rfl (.cons rfl rfl (.cons rfl rfl (.cons rfl rfl (.cons rfl rfl (.cons rfl rfl (.cons rfl rfl (.cons rfl rfl (.cons rfl rfl (.cons rfl rfl .nil))))))))))))))) fun Y Z R I=>Za rfl<|aIX (cells:=[.string ⟨#[112,108,97,99,101]⟩,.string ⟨#[115,101,101,110,32,50,32,49]⟩,.string ⟨#[99,111,117,110,116,32,51,32,50]⟩,.string ⟨#[98,97,99,107,32,51,32,51]⟩,.string ⟨#[116,105,100,101,32,50,32,56,32,57]⟩,.string ⟨#[115,116,101,112,32,52]⟩,.string ⟨#[108,101,118,101,108,32,54]⟩,.string ⟨#[109,97,114,107,32,49,32,51,32,57,32,57]⟩,.string ⟨#[104,105,114,101,32,48,32,49]⟩,.string ⟨#[104,105,114,101,32,49,32,50]⟩,.string ⟨#[98,114,105,110,103,32,48,32,49]⟩,.string ⟨#[115,109,117,100,103,101,32,49]⟩,.string ⟨#[98,114,111,107,101,110,32,52,32,49,32,48,32,48]⟩,.string ⟨#[98,114,111,107,101,110,32,53,32,48,32,49,32,50]⟩,.string ⟨#[99,108,97,105,109,32,48,32,50]⟩]) rfl U22 rfl rfl fU tf_z9 rfl G6 rfl rfl I Yf rfl (jY.strs hS) Yf Yap O Yd rfl bSM fun v1 ν1 U=>We ?_;have V:bI 9 1 v1 (15+ms.length) ((s9++ms).map Value.string) (ν1++[]):=by rw[bNG,bNN];exact U
 refine dS (A:=[]) (ν:=ν1) (B:=[]) (by simpa using V) rfl fun D2 hB hF=>?_;exact aE rfl fun D' hD=>(hF.strs (by rw[LE];rfl) Yd).up RS.up (hD _ Yf)
theorem G5(D:aC)(hV:oD D):Fn prog 10 #[] D (fun _ v=>v=.bool true):=by
 refine Zw 87 func10 rfl fun h0=>aA<|Zf rfl<|aJ<|Zy rfl (fun D1 hJ=>OL _) fun v1 D1 hJ hK=>?_;have hN:=hK;refine Zd rfl (fun D2 Z=>o6 _ s9 _ (hN.up RS.up (Z _ Yf)) (hV.up (Z _ Yf)))<|Za rfl<|Zap rfl<|Zap rfl<|Zah rfl pC rfl fun q1=>eF rfl rfl rfl rfl eQ Yb Yb ζ Yk bSM<|Zf rfl<|aJ<|Zy rfl (fun D3 hO=>OL _) fun v3 D3 hO hP=>?_;have hR:=hP;refine Zd rfl (fun D4 hB=>w0 _ s9 _ (hR.up RS.up (hB _ Yf)) (hV.up (hB _ Yf)))<|Za rfl<|Zap rfl<|Zap rfl<|Zah rfl tH rfl fun q2=>eF rfl rfl rfl rfl jK Yb Yb ζ Yk bSM<|Zf rfl<|aJ<|Zy rfl (fun D5 hS=>OL _) fun v5 D5 hS hp5=>?_;have hX:=hp5;refine Zd rfl (fun D6 hE=>aMM _ s9 _ (hX.up RS.up (hE _ Yf)) (hV.up (hE _ Yf)) fun _=>bDO)<|Za rfl<|Zap rfl<|Zap rfl<|Zf rfl<|Zf rfl<|aJ<|Zt rfl U22 fU tf_z9 rfl (.cons rfl rfl .nil) fun b901 D901 hY O=>Zy rfl (fun D7 hF=>aVW _ aB _ ((PR (l:=aB) O Yt).up RS.up (hF _ Yf))) fun v7 D7 hF rA=>?_;obtain⟨wv,rfl,hwr⟩:=rA;refine Za rfl<|Zap rfl<|Zap rfl<|Zf rfl<|Zf rfl<|aJ<|Zt rfl U22 fU tf_z9 rfl (.cons rfl rfl (.cons rfl rfl (.cons rfl rfl .nil))) fun b902 D902 rB R=>Zy rfl (fun D8 hH=>bCV _ UB _ ((PR (l:=UB) R Yt).up RS.up (hH _ Yf)) Yt Yt) fun v8 D8 hH hp8=>?_;have hd5:=hp8;refine Zy rfl (fun D9 U=>DK _ (s9++UB) _ (hd5.up RS.up (U _ Yf)) (hV.up (U _ Yf))) fun v9 D9 U hp9=>?_;obtain⟨w1,w2,rfl,⟨pv,cv,hv,lv,mv,bl,bc,yc,yq,rfl,hL⟩,hes⟩:=hp9;unfold dO;obtain⟨ea,ec,rfl⟩:=hes.shape;have p3len:(aR (s9++UB)).2.1.length=18:=Ybf
 refine Za rfl<|Zap rfl<|Zap rfl<|Zap rfl<|Zah rfl rD rfl fun q3=>Zac rfl eD ζ (eU hL)<|Zf rfl<|Zf rfl<|aJ<|Za rfl<|Waw ?_;refine' bX 4 (s:=41) (p:=45) rfl (fun hg1=>?_) (fun hg1=>?_) ?_;rotate_left
 ·refine bL rfl pH rfl Mm2 eQ n4 rfl ⟨_,rfl,rfl⟩<|jM (cs:=[qI 25,qI 25]) rfl AK pC rfl rfl rfl ⟨_,rfl,rfl⟩<|aVO (a:=(DU s9).1) (b:=(25,25)) rfl Yg bKR rfl rfl rfl ⟨_,rfl,rfl⟩<|Zak rfl ?_;exact aN 3
 ·refine Wc ?_;exact aN 3
 refine Za rfl ?_;refine' bX 3 (s:=46) (p:=49) rfl (fun hg2=>?_) (fun hg2=>?_) ?_;rotate_left
 ·refine Zb rfl<|Wx ?_;exact aN 2
 ·refine War ?_;exact aN 2
 refine Za rfl ?_;refine' bX 4 (s:=50) (p:=54) rfl (fun hg3=>?_) (fun hg3=>?_) ?_;rotate_left
 ·refine bL rfl zY rfl Mm1 jK n4 rfl ⟨_,rfl,rfl⟩<|jM (cs:=[qI 4,qI 4]) rfl HT tH rfl rfl rfl ⟨_,rfl,rfl⟩<|aVO (a:=(p8 s9).1) (b:=(4,4)) rfl Yg bKP rfl rfl rfl ⟨_,rfl,rfl⟩<|Zak rfl ?_;exact aN 3
 ·refine Wc ?_;exact aN 3
 refine Za rfl ?_;refine' bX 3 (s:=55) (p:=58) rfl (fun hg4=>?_) (fun hg4=>?_) ?_;rotate_left
 ·refine Zb rfl<|Wx ?_;exact aN 2
 ·refine War ?_;exact aN 2
 refine Za rfl ?_;refine' bX 3 (s:=59) (p:=62) rfl (fun hg5=>?_) (fun hg5=>?_) ?_;rotate_left
 ·refine Zb rfl<|Wat ?_;exact aN 2
 ·refine War ?_;exact aN 2
 refine Za rfl ?_;refine' bX 3 (s:=63) (p:=66) rfl (fun hg6=>?_) (fun hg6=>?_) ?_;rotate_left
 ·refine Zb rfl<|Wx ?_;exact aN 2
 ·refine War ?_;exact aN 2
 refine Za rfl ?_;refine' bX 4 (s:=67) (p:=71) rfl (fun hg7=>?_) (fun hg7=>?_) ?_;rotate_left
 ·refine Zb rfl<|uD rfl U99 U5 U9 rfl hwr Yf (fun _ _ _ _ _=>n4) rfl ⟨_,rfl,rfl⟩<|Wat ?_;exact aN 3
 ·refine Wc ?_;exact aN 3
 refine Za rfl ?_;refine' bX 3 (s:=72) (p:=75) rfl (fun hg8=>?_) (fun hg8=>?_) ?_;rotate_left
 ·refine Zb rfl<|Wx ?_;exact aN 2
 ·refine War ?_;exact aN 2
 refine Za rfl ?_;refine' bX 4 (s:=76) (p:=80) rfl (fun hg9=>?_) (fun hg9=>?_) ?_;rotate_left
 ·refine Zb rfl<|eE rfl U43 rfl hes rfl rfl ⟨_,rfl,rfl⟩<|Wx ?_;exact aN 3
 ·refine Wc ?_;exact aN 3
 refine Za rfl ?_;refine' bX 5 (s:=81) (p:=86) rfl (fun hI=>?_) (fun hI=>?_) ?_;rotate_left
 ·refine Zb rfl<|R4 (j:=15) rfl U43 tE rfl hes rfl (by rw[p3len];omega) rfl ⟨_,rfl,rfl⟩ fun ta hT=>j5 rfl U25 aH cE rfl rfl rfl rfl (.cons rfl rfl (.cons rfl rfl (.cons rfl rfl .nil))) rfl ⟨_,rfl,rfl⟩ fun b903 D903 hD903 V=>?_;have Y:=Sl.ofInts (l:=[_,_,_]) (n:=3) (cap:=3) V rfl Yd Yd;refine Ze rfl (fun D10 I=>XD _ _ ((aR (s9++UB)).2.1.drop 15) [9,6,4] _ (hT.up RI.up (I _ Yf)) (Y.up RI.up (I _ Yf)))<|Zak rfl ?_;exact BC fun a w hh=>(hh.cutK 4 rfl).ds fun _ h=>bNM _ (h)
 ·refine Zg rfl<|Wc ?_;exact aN 4
 refine We ?_;exact aE rfl fun D hD=>bNB Value.bool Ybf
end L12
open Go.Proofs
namespace L12
open C12 Go.Lib
end L12
namespace L12
open C12
section
variable{α:Type}{xs ys:List α}{k:Nat}{a b:α}
end
def bKK(c:C7.Ch):List Int:=[c.size,c.parts.a,c.parts.b,c.parts.c]
theorem aZL{a b:C7.Ch}(h:bKK a=bKK b):a=b:=by
 obtain⟨I,a2,a3,a4⟩:=a;obtain⟨O,b2,R,U⟩:=b
 simp only[bKK,bPN,and_true]at h;rw[h.1,h.2.1,h.2.2.1,h.2.2.2]
instance:DecidableEq C7.Ch:=fun a b=>decidable_of_iff (bKK a=bKK b) ⟨aZL,fun e=>by rw[e]⟩
theorem KV(ls:List Λ):(gK ls).2.length=ls.length:=by
 have key:∀(ls:List Λ) (p:aM×List Int),(ls.foldl (fun p l=>((pO p.1 l).1,p.2++[(pO p.1 l).2])) p).2.length=p.2.length+ls.length:=by
  intro ls;induction ls with
  |nil=>intro p;simp
  |cons l ls ih=>intro p;rw[bNX,ih];simp;omega
 have:=key ls (vN,[]);simpa [gK]using this
def kW(s:aM)(ls:List Λ):aM:=ls.foldl (fun s l=>(pO s l).1) s
def x4(s:aM):List Λ→List Int
 | []=>[]
 |l::ls=>(pO s l).2::x4 (pO s l).1 ls
def xT(s:aM):List Λ→List Λ
 | []=>[]
 |l::ls=>if(pO s l).2=0 then l::xT (pO s l).1 ls else xT (pO s l).1 ls
theorem JT(s:aM)(l:Λ)(ls:List Λ):kW s (l::ls)=kW (pO s l).1 ls:=rfl
theorem WM(s:aM)(ls ms:List Λ):kW s (ls++ms)=kW (kW s ls) ms:=by simp[kW,bOR]
theorem VA(ms:List Λ):∀(ls:List Λ) (s:aM),x4 s (ls++ms)=x4 s ls++x4 (kW s ls) ms
 | [],_=>rfl
 |l::ls,s=>by
  show(pO s l).2::x4 (pO s l).1 (ls++ms)=(pO s l).2::(x4 (pO s l).1 ls++x4 (kW (pO s l).1 ls) ms);rw[VA ms ls]
theorem LZ(ls:List Λ):gK ls=(kW vN ls,x4 vN ls):=by
 have key:∀(ls:List Λ) (s:aM) (es:List Int),ls.foldl (fun p l=>((pO p.1 l).1,p.2++[(pO p.1 l).2])) (s,es)=(kW s ls,es++x4 s ls):=by
  intro ls;induction ls with
  |nil=>intro s es;simp[kW,x4]
  |cons l ls ih=>intro s es;rw[bNX,ih];simp[JT,x4]
 have:=key ls vN [];simpa [gK]using this
theorem bGS{s:aM}{l:Λ}(h:(pO s l).2≠0):(pO s l).1=s:=by
 unfold pO at h ⊢
 split
 ·rfl
 ·rename_i act n hp;rw[hp]at h;simp only at h;split
  ·rfl
  ·rename_i I ha;rw[ha]at h;simp only at h;split at h
   ·exact absurd rfl h
   ·rename_i hs;rw[bNA hs]
theorem aIW(ls ms:List Λ):gK (ls++ms)=(kW (gK ls).1 ms,(gK ls).2++x4 (gK ls).1 ms):=by
 rw[LZ,LZ,WM,VA]
end L12
namespace L12
open C12 Go.Lib
theorem bKW{D:aC}{b:Nat}{x:UInt8}{v:Γ}(hA:At D b 0 ([v]++[]))(hv:v=.int .u8 (x.toNat:Int)):Sl D RU 1 (qS b 1 1) [x]:=by
 refine⟨_,_,rfl,bNJ _,Yf,bNC ⟨b,0,rfl,fun i y hi=>⟨_,rfl,rfl,fun j u hj=>?_⟩⟩⟩;obtain rfl:i=0:=by have:=(bMW.1 hi).1;simpa using this
 obtain rfl:x=y:=Yau
 cases j with
 |zero=>
  obtain rfl:Value.int .u8 x.toNat=u:=Xam
  have:=hA 0 v rfl;rw[hv]at this;simpa using this
 |succ j=>simp at hj
theorem bCN{n:Int}(h0:0≤n)(h1:n≤9):Value.int .u8 (48+n)=.int .u8 ((UInt8.ofNat (48+n.toNat)).toNat:Int):=by
 rw[UInt8.toNat_ofNat'];congr 1;omega
theorem ZK{n:Int}(h0:0≤n)(h1:n≤9):rF (itoa n)=⟨#[UInt8.ofNat (48+n.toNat)]⟩:=by
 obtain⟨m,rfl⟩:=Int.eq_ofNat_of_zero_le h0;have key:((List.range 10).all fun m=>itoa (m:Int)== [UInt8.ofNat (48+m)])=true:=Ybf
 have:=bNQ.1 key m (bOQ.2 Yd);rw[eq_of_beq this];rfl
theorem S3{n:Int}(h0:0≤n)(h1:n≤9):(rF (itoa n)).size=1:=by rw[ZK h0 h1];rfl
theorem a8(n:Int)(O:0≤n)(R:n≤9)(D:aC):Fn prog 74 #[qI n] D (fun _ v=>v=.string (rF (itoa n))):=by
 refine Zw 19 func74 rfl fun h0=>aA<|Zf rfl<|bC<|Za rfl<|Zan rfl<|aF<|Zae rfl (fun hc1=>?_) fun hc1=>?_
 ·omega
 ·refine aQ<|bZ<|Za rfl<|Zan rfl<|aF<|Zae rfl (fun hc2=>?_) (fun hc2=>?_)
  ·refine aA<|Za rfl<|Zad rfl<|oU rfl U3 U5 rfl Ye rfl bSM<|Zt rfl U99 iU aFK rfl (.cons rfl rfl .nil) (fun V Y U I=>?_)
   skip
   refine uD (l:=[UInt8.ofNat (48+n.toNat)]) rfl U99 U5 U9 rfl (bKW I (bCN O R)) Yf (fun _ _ _ _ _=>n4) rfl bSM<|Wg ?_;exact aE rfl fun D hD=>by show Value.string _=_;rw[ZK O R]
  ·omega
end L12
end Go.Fs
namespace Go.Fs.C1

theorem aYH{l:List Int}{x:Int}(h:x∈l):tG l≤x:=by
 have key:∀(l:List Int) (a:Int),l.foldl min a≤a∧∀x∈l,l.foldl min a≤x:=by
  intro l;induction l with
  |nil=>intro a;simp
  |cons y l ih=>
   intro a;rw[bNX];obtain⟨h1,h2⟩:=ih (min a y);refine⟨Yd,fun x hx=>?_⟩;rcases LT.1 hx with rfl|hx
   ·omega
   ·exact h2 x hx
 cases l with
 |nil=>cases h
 |cons y l=>
  rcases LT.1 h with rfl|h
  ·exact(key l x).1
  ·exact(key l y).2 x h
theorem aXX{l:List Int}{x:Int}(h:x∈l):x≤rK l:=by
 have key:∀(l:List Int) (a:Int),a≤l.foldl max a∧∀x∈l,x≤l.foldl max a:=by
  intro l;induction l with
  |nil=>intro a;simp
  |cons y l ih=>
   intro a;rw[bNX];obtain⟨h1,h2⟩:=ih (max a y);refine⟨Yd,fun x hx=>?_⟩;rcases LT.1 hx with rfl|hx
   ·omega
   ·exact h2 x hx
 cases l with
 |nil=>cases h
 |cons y l=>
  rcases LT.1 h with rfl|h
  ·exact(key l x).1
  ·exact(key l y).2 x h
theorem aTY{l:List Int}(h:l≠[]):tG l∈l:=by
 have key:∀(l:List Int) (a:Int),l.foldl min a=a∨l.foldl min a∈l:=by
  intro l;induction l with
  |nil=>intro a;exact bNI rfl
  |cons y l ih=>
   intro a;rw[bNX];rcases ih (min a y)with h|h
   ·rw[h];rcases Int.le_total a y with h'|h'
    ·exact bNI Yd
    ·exact bNC (by rw[Int.min_eq_right h'];exact bMV)
   ·exact bNC (bMT _ h)
 cases l with
 |nil=>exact absurd rfl h
 |cons y l=>
  rcases key l y with h|h
  ·show l.foldl min y∈_;rw[h];exact bMV
  ·exact bMT _ h
theorem aQX{l:List Int}(h:l≠[]):rK l∈l:=by
 have key:∀(l:List Int) (a:Int),l.foldl max a=a∨l.foldl max a∈l:=by
  intro l;induction l with
  |nil=>intro a;exact bNI rfl
  |cons y l ih=>
   intro a;rw[bNX];rcases ih (max a y)with h|h
   ·rw[h];rcases Int.le_total a y with h'|h'
    ·exact bNC (by rw[Int.max_eq_right h'];exact bMV)
    ·exact bNI Yd
   ·exact bNC (bMT _ h)
 cases l with
 |nil=>exact absurd rfl h
 |cons y l=>
  rcases key l y with h|h
  ·show l.foldl max y∈_;rw[h];exact bMV
  ·exact bMT _ h


theorem yJ:∀{l t:List Int},t∈cB l ↔ t.length=l.length∧∀(k:Nat) (x p:Int),t[k]?= some x→l[k]?= some p→(x=0∨x=1)∧(p=2∨p=x)
 | [],t=>by
  simp only[cB,bNL,bOY];constructor
  ·rintro rfl;simp
  ·rintro⟨h,_⟩;exact bQC.1 h
 |p::ps,t=>by
  have key:∀c:Int,(c=0∨c=1)→(t∈(if p=2∨p=c then(cB ps).map (c:: ·)else []) ↔∃u,t=c::u∧u∈cB ps∧(p=2∨p=c)):=by
   intro c _;split
   ·rename_i h;simp only[bMR];constructor
    ·rintro⟨u,hu,rfl⟩;exact⟨u,rfl,hu,h⟩
    ·rintro⟨u,rfl,hu,_⟩;exact⟨u,hu,rfl⟩
   ·rename_i h;constructor
    ·intro h';cases h'
    ·rintro⟨_,_,_,h'⟩;exact absurd h' h
  simp only[cB,bNH];rw[key 0 (bNI rfl),key 1 (bNC rfl)];constructor
  ·have mk:∀(c:Int) (u:List Int),(c=0∨c=1)→t=c::u→u∈cB ps→(p=2∨p=c)→t.length=(p::ps).length∧∀(k:Nat) (x p':Int),t[k]?= some x→(p::ps)[k]?= some p'→(x=0∨x=1)∧(p'=2∨p'=x):=by
    rintro c u hc rfl hu hp;obtain⟨h1,h2⟩:=yJ.1 hu;refine⟨by simp[h1],fun k x p' hx hp'=>?_⟩;cases k with
    |zero=>
     simp only[List.getElem?_cons_zero,bRG]at hx hp';subst hx hp';exact⟨hc,hp⟩
    |succ k=>simp only[List.getElem?_cons_succ]at hx hp';exact h2 k x p' hx hp'
   rintro(⟨u,h1,h2,h3⟩|⟨u,h1,h2,h3⟩)
   ·exact mk 0 u (bNI rfl) h1 h2 h3
   ·exact mk 1 u (bNC rfl) h1 h2 h3
  ·rintro⟨h1,h2⟩;cases t with
   |nil=>simp at h1
   |cons c u=>
    have h0:=h2 0 c p rfl rfl;have hu:u∈cB ps:=yJ.2 ⟨Xae,fun k x p' hx hp'=>h2 (k+1) x p' Xag (by simpa using hp')⟩;rcases h0.1 with rfl|rfl
    ·exact bNI ⟨u,rfl,hu,h0.2⟩
    ·exact bNC ⟨u,rfl,hu,h0.2⟩



end Go.Fs.C1
namespace Go.Fs
open Go.Proofs
namespace L12
open C1
end L12
namespace L12
open C1 (tG rK aYH aTY aQX aXX hC bS)
open C2
theorem aHR{t:aX}{acc:List (List Int)}{s u:List Int}(h:u∈acc):u∈xS t acc s:=by
 unfold xS;split
 ·exact h
 ·exact bNE _ h
theorem EG{t:aX}:∀(l acc:List (List Int)) {u:List Int},u∈acc→u∈l.foldl (xS t) acc
 | [],_,_,h=>h
 |_::l,_,_,h=>EG l _ (aHR h)
theorem YJ{t:aX}{acc:List (List Int)}{s:List Int}(h:iA t s=true):s∈xS t acc s:=by
 unfold xS;split
 ·rename_i hc;rcases hc with hc|hc
  ·rw[h]at hc;cases hc
  ·exact List.mem_of_getLast? hc
 ·exact GE _ Yf
theorem BB{t:aX}:∀(l acc:List (List Int)) {s:List Int},s∈l→iA t s=true→s∈l.foldl (xS t) acc
 |x::l,acc,s,hs,h=>by
  rcases LT.1 hs with rfl|hs
  ·exact EG l _ (YJ h)
  ·exact BB l _ hs h
theorem TX{t:aX}{s:List Int}(h:s∈fD t)(hr:iA t s=true):s∈bK t:=BB _ _ h hr
theorem IY{t:aX}{s:List Int}(h:s∈bK t):s∈fD t:=by
 rcases y4 _ _ s h with h|h
 ·cases h
 ·exact h
end L12
namespace L12
open C12 Go.Lib
section
variable{s:aM}{x p:Λ}{ps:List Λ}(h:eA x=p::ps)
include h
end
def bFH(s:aM):Prop:=∀r∈s.table.heights,r.2≤r.1+2
theorem FU{line:Λ}{act:eH}{n:List Int}(h:jO line=some (act,n)):∃x∈kX,x.2.2=act:=by
 obtain⟨p,ps,hc⟩:=pD line;rw[uR hc]at h;split at h
 ·cases h
 ·rename_i hf;split at h
  ·cases hm:ps.mapM vC with
   |none=>rw[hm]at h;cases h
   |some m=>rw[hm]at h;cases h;exact⟨_,List.mem_of_find?_eq_some hf,rfl⟩
  ·cases h
structure bMB(s:aM):Prop where
 row:C1.mM s.row
 tab:C2.KL s.table
 yard:L7.bFB s.yard
 hts:bFH s
section
variable{s:aM}(h:bMB s)
include h
end
end L12
namespace L7
open C7
theorem FC{y:bA}{out:List Int}:(0:Int)<((dC y out).length:Int) ↔∃t,eJ y t=true∧nY y.claims out (E9 y t:Nat)=true:=by
 rw[show((0:Int)<((dC y out).length:Int) ↔ 0<(dC y out).length) by omega,List.length_pos_iff_exists_mem];constructor
 ·rintro⟨p,hp⟩;obtain⟨t,h1,h2,_⟩:=vH.1 hp;exact⟨t,h1,h2⟩
 ·rintro⟨t,h1,h2⟩;exact⟨_,vH.2 ⟨t,h1,h2,rfl⟩⟩
end L7
namespace L12
open C12 Go.Lib


theorem aHU{t:C2.aX}{s:List Int}(h:s∈C2.bK t):C2.iA t s=true:=by
 have key:∀(l acc:List (List Int)),(∀u∈acc,C2.iA t u=true)→∀u∈l.foldl (C2.xS t) acc,C2.iA t u=true:=by
  intro l;induction l with
  |nil=>exact fun acc h=>h
  |cons x l ih=>
   intro acc h;refine ih _ fun u hu=>?_
   unfold C2.xS at hu;split at hu
   ·exact h u hu
   ·rename_i hx;rcases bNH.1 hu with hu|hu
    ·exact h u hu
    ·obtain rfl:=bNL.1 hu;simp only[bSF]at hx;simpa using hx.1
 exact key _ [] (fun u hu=>by cases hu) s h
theorem aCW:∀(l:List (Int×Int)) (m:Int),0≤m→(∀r∈l,0≤C2.fO r∧C2.fO r≤3)→l.foldl (fun(m:Int) r=>min (m*C2.fO r) 2001) m≤m*3^l.length
 | [],m,h,_=>by simp
 |r::l,m,h,hr=>by
  obtain⟨a,b⟩:=hr r bMV;have h0:0≤m*C2.fO r:=bSI h a;have h1:m*C2.fO r≤m*3:=Int.mul_le_mul_of_nonneg_left b h;rw[bNX];refine Int.le_trans (aCW l _ Yd fun q hq=>hr q (bMT _ hq)) ?_;rw[bMX,Int.pow_succ,Int.mul_comm (3^l.length) 3,←Int.mul_assoc];exact Int.mul_le_mul_of_nonneg_right Yd (Int.pow_nonneg Yd)


section
variable{s:aM}(hst:fS s=0)(hh:bFH s)(hk:lY s){which:Nat}{low high:Int}(hl:0≤low∧low≤1)(hg:0≤high∧high≤1)
include hst hh hk hl hg
end
end L12
end Go.Fs
