/- Of BookReports. -/
import Derived.Test.YtmmdpkkcedmgoaaGreatDoorZBookReportsAF
import Derived.Lib.AppendStr
import Derived.Lib.UnsafeStr
import Derived.Lib.Builder
import Derived.Laws.Externs
import Derived.Laws.IdiomStrings
namespace Go.Fs
open Go.Proofs Tryz
namespace L12
open C12
def qX(w9:nn)(D:aC)(wb:Nat)(s:aO)(ν:aF):Prop:=∃pv cv hv lv mv bl bc yc yq ν1 ν2 ν3 ν4 ν5 ν6 ν7 ν8,ν=(wb,qC (dY s pv cv hv lv mv bl bc yc yq) w9.w)::(ν8++(ν7++(ν6++(ν5++(ν4++(ν3++(ν2++ν1)))))))∧Ou w9 D s pv cv hv lv mv bl bc yc yq ν1 ν2 ν3 ν4 ν5 ν6 ν7 ν8
def iU(P:Program)(f:FuncId)(k:Nat)(act:eS):Prop:=∀(wb:Nat) (s:aO) (nv:Γ) (n:List Int) (ν:aF) (D:aC),Sl D RI 1 nv n→n.length=k→(∀x∈n,0≤x∧x≤999)→qX gh D wb s ν→Y0 s→
 lA P f [qP wb,nv] D ν (λD' _ ν'=>∃s',act s n=.ok s'∧qX gh D' wb s' ν') λv=>∃c,act s n=.error c∧v=gK c
theorem _root_.Go.Fs.lA.frameE{P:Program}{f:FuncId}{args:List Γ}{D:aC}{ν A B:aF}{post:aC→Γ→aF→Prop}{pan:Γ→Prop}(h:lA P f args D ν post pan):lA P f args D (A++ν++B) (λD' v ν'=>∃I,post D' v I∧ν'=A++I++B) pan:=h.frame λ_ _ ν' _ hp=>⟨ν',hp,C⟩
theorem _root_.Go.Fs.lA.frameB{P:Program}{f:FuncId}{args:List Γ}{D:aC}{ν:aF}{post:aC→Γ→aF→Prop}{pan:Γ→Prop}(h:lA P f args D ν post pan)(B:aF):lA P f args D ([]++ν++B) (λD' v ν'=>∃I,post D' v I∧ν'=[]++I++B) pan:=h.frameE
theorem A9{l:List Int}(h:l.length=1):∃a,l=[a]:=by match l,h with| [a],_=>exact⟨a,C⟩
theorem AE{l:List Int}(h:l.length=2):∃a b,l=[a,b]:=by match l,h with| [a,b],_=>exact⟨a,b,C⟩
theorem gk{l:List Int}(h:l.length=3):∃a b c,l=[a,b,c]:=by match l,h with| [a,b,c],_=>exact⟨a,b,c,C⟩
theorem gr{l:List Int}(h:l.length=4):∃a b c d,l=[a,b,c,d]:=by match l,h with| [a,b,c,d],_=>exact⟨a,b,c,d,C⟩
theorem DG{e sz n:Nat}{cells:List Γ}{v:Γ}{ν:aF}(h:bM e sz v n cells ν):∃x c,v=.slice x n c:=by
 rcases h with⟨a,rfl,rfl,_,_⟩|⟨b,cap,junk,rfl,_,_,_⟩
 ·exact⟨a,0,C⟩
 ·exact⟨_,cap,C⟩
theorem Lv:iU prog 262 0 (J4):=by
 rintro wb s nv n ν D hn hlen hr ⟨pv,cv,hv,lv,mv,bl,bc,yc,yq,ν1,ν2,ν3,ν4,ν5,ν6,ν7,ν8,rfl,hO⟩ hsm;obtain rfl:n=[]:=sc hlen;refine lA.reorder ((Fr wb s pv cv hv lv mv bl bc yc yq nv ν1 D hO.pl hsm.pl).frameB (ν8++(ν7++(ν6++(ν5++(ν4++(ν3++(ν2)))))))) Yj ?_ ?_
 ·rintro D' v ν' hle ⟨_,⟨hc,I,νz,rfl,hacc⟩,rfl⟩;refine⟨_,Yz,nC s {s.row with places:=s.row.places++[2]},iw,I,cv,hv,lv,mv,bl,bc,yc,yq,νz,ν2,ν3,ν4,ν5,ν6,ν7,ν8,C,?_⟩
  exact⟨(hacc),hO.ct,hO.ht,hO.lev,hO.mks,hO.ln,hO.cn.up wQ.up hle,hO.ch,hO.cl⟩
 ·rintro v ⟨h1,rfl⟩;exact⟨_,iw,C⟩
theorem Fm:iU prog 263 2 (n8):=by
 rintro wb s nv n ν D hn hlen hr ⟨pv,cv,hv,lv,mv,bl,bc,yc,yq,ν1,ν2,ν3,ν4,ν5,ν6,ν7,ν8,rfl,hO⟩ hsm;obtain⟨a,b,rfl⟩:=AE hlen;have ha:0≤a:=(hr a Yf).1;refine lA.reorder ((Ci wb s pv cv hv lv mv bl bc yc yq nv a b ν1 D hn hO.pl hsm.pl ha).frameB (ν8++(ν7++(ν6++(ν5++(ν4++(ν3++(ν2)))))))) Yj ?_ ?_
 ·rintro D' v ν' hle ⟨_,⟨hc,νz,rfl,hacc⟩,rfl⟩;refine⟨_,Yz,nC s {s.row with places:=s.row.places.set a.toNat b},md,pv,cv,hv,lv,mv,bl,bc,yc,yq,νz,ν2,ν3,ν4,ν5,ν6,ν7,ν8,C,?_⟩
  exact⟨(hacc),hO.ct,hO.ht,hO.lev,hO.mks,hO.ln,hO.cn.up wQ.up hle,hO.ch,hO.cl⟩
 ·rintro v (⟨h1,rfl⟩|⟨h1,h2,rfl⟩)
  ·exact⟨_,md,C⟩
  ·exact⟨_,md,C⟩
theorem Kr:iU prog 264 2 (qK false):=by
 rintro wb s nv n ν D hn hlen hr ⟨pv,cv,hv,lv,mv,bl,bc,yc,yq,ν1,ν2,ν3,ν4,ν5,ν6,ν7,ν8,rfl,hO⟩ hsm;obtain⟨a,b,rfl⟩:=AE hlen;refine lA.reorder ((Fa wb s pv cv hv lv mv bl bc yc yq nv a b ν2 D hn hO.ct hsm.ct (DG hO.pl)).frameB (ν8++(ν7++(ν6++(ν5++(ν4++(ν3++(ν1)))))))) Yj ?_ ?_
 ·rintro D' v ν' hle ⟨_,⟨hc,I,νz,rfl,hacc⟩,rfl⟩;refine⟨_,Yz,nC s {s.row with counts:=s.row.counts++[(⟨false,a,b⟩:C1.zM)]},td,pv,I,hv,lv,mv,bl,bc,yc,yq,ν1,νz,ν3,ν4,ν5,ν6,ν7,ν8,C,?_⟩
  exact⟨hO.pl,(hacc),hO.ht,hO.lev,hO.mks,hO.ln,hO.cn.up wQ.up hle,hO.ch,hO.cl⟩
 ·rintro v (⟨h1,rfl⟩|⟨h1,h2,rfl⟩)
  ·exact⟨_,td,C⟩
  ·exact⟨_,td,C⟩
theorem Iv:iU prog 265 2 (qK true):=by
 rintro wb s nv n ν D hn hlen hr ⟨pv,cv,hv,lv,mv,bl,bc,yc,yq,ν1,ν2,ν3,ν4,ν5,ν6,ν7,ν8,rfl,hO⟩ hsm;obtain⟨a,b,rfl⟩:=AE hlen;refine lA.reorder ((Bu wb s pv cv hv lv mv bl bc yc yq nv a b ν2 D hn hO.ct hsm.ct (DG hO.pl)).frameB (ν8++(ν7++(ν6++(ν5++(ν4++(ν3++(ν1)))))))) Yj ?_ ?_
 ·rintro D' v ν' hle ⟨_,⟨hc,I,νz,rfl,hacc⟩,rfl⟩;refine⟨_,Yz,nC s {s.row with counts:=s.row.counts++[(⟨true,a,b⟩:C1.zM)]},td,pv,I,hv,lv,mv,bl,bc,yc,yq,ν1,νz,ν3,ν4,ν5,ν6,ν7,ν8,C,?_⟩
  exact⟨hO.pl,(hacc),hO.ht,hO.lev,hO.mks,hO.ln,hO.cn.up wQ.up hle,hO.ch,hO.cl⟩
 ·rintro v (⟨h1,rfl⟩|⟨h1,h2,rfl⟩)
  ·exact⟨_,td,C⟩
  ·exact⟨_,td,C⟩
theorem TK:iU prog 266 1 (rS):=by
 rintro wb s nv n ν D hn hlen hr ⟨pv,cv,hv,lv,mv,bl,bc,yc,yq,ν1,ν2,ν3,ν4,ν5,ν6,ν7,ν8,rfl,hO⟩ hsm;obtain⟨a,rfl⟩:=A9 hlen;have ha:0≤a:=(hr a Yf).1;refine lA.reorder ((YA wb s pv cv hv lv mv bl bc yc yq nv a ν2 D hn hO.ct hsm.ct ha).frameB (ν8++(ν7++(ν6++(ν5++(ν4++(ν3++(ν1)))))))) Yj ?_ ?_
 ·rintro D' v ν' hle ⟨_,⟨hc,I,νz,rfl,hacc⟩,rfl⟩;refine⟨_,Yz,nC s {s.row with counts:=s.row.counts.eraseIdx a.toNat},fe,pv,I,hv,lv,mv,bl,bc,yc,yq,ν1,νz,ν3,ν4,ν5,ν6,ν7,ν8,C,?_⟩
  exact⟨hO.pl,(hacc),hO.ht,hO.lev,hO.mks,hO.ln,hO.cn.up wQ.up hle,hO.ch,hO.cl⟩
 ·rintro v ⟨h1,rfl⟩;exact⟨_,fe,C⟩
theorem Mb:iU prog 267 1 (K3):=by
 rintro wb s nv n ν D hn hlen hr ⟨pv,cv,hv,lv,mv,bl,bc,yc,yq,ν1,ν2,ν3,ν4,ν5,ν6,ν7,ν8,rfl,hO⟩ hsm;obtain⟨a,rfl⟩:=A9 hlen;refine lA.reorder ((Jm wb s pv cv hv lv mv bl bc yc yq nv a D hn).frameB (ν8++(ν7++(ν6++(ν5++(ν4++(ν3++(ν2++(ν1))))))))) Yj ?_ ?_
 ·rintro D' v ν' hle ⟨_,⟨h1,rfl⟩,rfl⟩;refine⟨_,.refl _,nC s {s.row with wrong:=a},iu,pv,cv,hv,lv,mv,bl,bc,yc,yq,ν1,ν2,ν3,ν4,ν5,ν6,ν7,ν8,C,⟨hO.pl,hO.ct,hO.ht,hO.lev,hO.mks,hO.ln,hO.cn.up wQ.up hle,hO.ch,hO.cl⟩⟩
 ·rintro v ⟨h1,rfl⟩;exact⟨_,iu,C⟩
theorem aGE:iU prog 268 1 (UP):=by
 rintro wb s nv n ν D hn hlen hr ⟨pv,cv,hv,lv,mv,bl,bc,yc,yq,ν1,ν2,ν3,ν4,ν5,ν6,ν7,ν8,rfl,hO⟩ hsm;obtain⟨a,rfl⟩:=A9 hlen;refine lA.reorder ((aAY wb s pv cv hv lv mv bl bc yc yq nv a D hn).frameB (ν8++(ν7++(ν6++(ν5++(ν4++(ν3++(ν2++(ν1))))))))) Yj ?_ ?_
 ·rintro D' v ν' hle ⟨_,⟨h1,rfl⟩,rfl⟩;refine⟨_,.refl _,nC s {s.row with off:=a},it,pv,cv,hv,lv,mv,bl,bc,yc,yq,ν1,ν2,ν3,ν4,ν5,ν6,ν7,ν8,C,⟨hO.pl,hO.ct,hO.ht,hO.lev,hO.mks,hO.ln,hO.cn.up wQ.up hle,hO.ch,hO.cl⟩⟩
 ·rintro v ⟨h1,rfl⟩;exact⟨_,it,C⟩
theorem Ik:iU prog 269 3 (BQ):=by
 rintro wb s nv n ν D hn hlen hr ⟨pv,cv,hv,lv,mv,bl,bc,yc,yq,ν1,ν2,ν3,ν4,ν5,ν6,ν7,ν8,rfl,hO⟩ hsm;obtain⟨a,b,c,rfl⟩:=gk hlen;have ha:0≤a:=(hr a Yf).1;have hb:0≤b∧b≤1000:=by have:=hr b Yf;omega
 refine lA.reorder ((Ad wb s pv cv hv lv mv bl bc yc yq nv a b c ν3 D hn hO.ht hsm.ht ha hb).frameB (ν8++(ν7++(ν6++(ν5++(ν4++(ν2++(ν1)))))))) Yj ?_ ?_
 ·rintro D' v ν' hle ⟨_,⟨hc,νz,rfl,hacc⟩,rfl⟩;refine⟨_,Yx,iR s {s.table with heights:=s.table.heights.set a.toNat (b,c)},me,pv,cv,hv,lv,mv,bl,bc,yc,yq,ν1,ν2,νz,ν4,ν5,ν6,ν7,ν8,C,?_⟩
  exact⟨hO.pl,hO.ct,(hacc),hO.lev,hO.mks,hO.ln,hO.cn.up wQ.up hle,hO.ch,hO.cl⟩
 ·rintro v (⟨h1,rfl⟩|⟨h1,h2,rfl⟩)
  ·exact⟨_,me,C⟩
  ·exact⟨_,me,C⟩
theorem Hi:iU prog 270 1 (BN):=by
 rintro wb s nv n ν D hn hlen hr ⟨pv,cv,hv,lv,mv,bl,bc,yc,yq,ν1,ν2,ν3,ν4,ν5,ν6,ν7,ν8,rfl,hO⟩ hsm;obtain⟨a,rfl⟩:=A9 hlen;refine lA.reorder ((Bt wb s pv cv hv lv mv bl bc yc yq nv a D hn).frameB (ν8++(ν7++(ν6++(ν5++(ν4++(ν3++(ν2++(ν1))))))))) Yj ?_ ?_
 ·rintro D' v ν' hle ⟨_,⟨h1,rfl⟩,rfl⟩;refine⟨_,.refl _,iR s {s.table with step:=a},ir,pv,cv,hv,lv,mv,bl,bc,yc,yq,ν1,ν2,ν3,ν4,ν5,ν6,ν7,ν8,C,⟨hO.pl,hO.ct,hO.ht,hO.lev,hO.mks,hO.ln,hO.cn.up wQ.up hle,hO.ch,hO.cl⟩⟩
 ·rintro v ⟨h1,rfl⟩;exact⟨_,ir,C⟩
theorem Kk:iU prog 271 1 (G0):=by
 rintro wb s nv n ν D hn hlen hr ⟨pv,cv,hv,lv,mv,bl,bc,yc,yq,ν1,ν2,ν3,ν4,ν5,ν6,ν7,ν8,rfl,hO⟩ hsm;obtain⟨a,rfl⟩:=A9 hlen;refine lA.reorder ((Hb wb s pv cv hv lv mv bl bc yc yq nv a ν4 D hn hO.lev hsm.lev).frameB (ν8++(ν7++(ν6++(ν5++(ν3++(ν2++(ν1)))))))) Yj ?_ ?_
 ·rintro D' v ν' hle ⟨_,⟨hc,I,νz,rfl,hacc⟩,rfl⟩;refine⟨_,Yx,iR s {s.table with levels:=s.table.levels++[a]},mg,pv,cv,hv,I,mv,bl,bc,yc,yq,ν1,ν2,ν3,νz,ν5,ν6,ν7,ν8,C,?_⟩
  exact⟨hO.pl,hO.ct,hO.ht,(hacc),hO.mks,hO.ln,hO.cn.up wQ.up hle,hO.ch,hO.cl⟩
 ·rintro v (⟨h1,rfl⟩|⟨h1,h2,rfl⟩)
  ·exact⟨_,mg,C⟩
  ·exact⟨_,mg,C⟩
theorem O_:iU prog 272 2 (K9):=by
 rintro wb s nv n ν D hn hlen hr ⟨pv,cv,hv,lv,mv,bl,bc,yc,yq,ν1,ν2,ν3,ν4,ν5,ν6,ν7,ν8,rfl,hO⟩ hsm;obtain⟨a,b,rfl⟩:=AE hlen;have ha:0≤a:=(hr a Yf).1;refine lA.reorder ((Fg wb s pv cv hv lv mv bl bc yc yq nv a b ν4 D hn hO.lev hsm.lev ha).frameB (ν8++(ν7++(ν6++(ν5++(ν3++(ν2++(ν1)))))))) Yj ?_ ?_
 ·rintro D' v ν' hle ⟨_,⟨hc,νz,rfl,hacc⟩,rfl⟩;refine⟨_,Yx,iR s {s.table with levels:=s.table.levels.set a.toNat b},mh,pv,cv,hv,lv,mv,bl,bc,yc,yq,ν1,ν2,ν3,νz,ν5,ν6,ν7,ν8,C,?_⟩
  exact⟨hO.pl,hO.ct,hO.ht,(hacc),hO.mks,hO.ln,hO.cn.up wQ.up hle,hO.ch,hO.cl⟩
 ·rintro v (⟨h1,rfl⟩|⟨h1,h2,rfl⟩)
  ·exact⟨_,mh,C⟩
  ·exact⟨_,mh,C⟩
theorem Fv:iU prog 273 4 (N1):=by
 rintro wb s nv n ν D hn hlen hr ⟨pv,cv,hv,lv,mv,bl,bc,yc,yq,ν1,ν2,ν3,ν4,ν5,ν6,ν7,ν8,rfl,hO⟩ hsm;obtain⟨a,b,c,d,rfl⟩:=gr hlen;refine lA.reorder ((Ag wb s pv cv hv lv mv bl bc yc yq nv a b c d ν5 D hn hO.mks hsm.mks (DG hO.ht)).frameB (ν8++(ν7++(ν6++(ν4++(ν3++(ν2++(ν1)))))))) Yj ?_ ?_
 ·rintro D' v ν' hle ⟨_,⟨hc,I,νz,rfl,hacc⟩,rfl⟩;refine⟨_,Yx,iR s {s.table with marks:=s.table.marks++[(⟨a,b,c,d⟩:C2.Mk)]},px,pv,cv,hv,lv,I,bl,bc,yc,yq,ν1,ν2,ν3,ν4,νz,ν6,ν7,ν8,C,?_⟩
  exact⟨hO.pl,hO.ct,hO.ht,hO.lev,(hacc),hO.ln,hO.cn.up wQ.up hle,hO.ch,hO.cl⟩
 ·rintro v (⟨h1,rfl⟩|⟨h1,h2,rfl⟩|⟨h1,h2,h3,rfl⟩|⟨h1,h2,h3,h4,rfl⟩)
  ·exact⟨_,px,C⟩
  ·exact⟨_,px,C⟩
  ·exact⟨_,px,C⟩
  ·exact⟨_,px,C⟩
theorem ZP:iU prog 274 1 (vT):=by
 rintro wb s nv n ν D hn hlen hr ⟨pv,cv,hv,lv,mv,bl,bc,yc,yq,ν1,ν2,ν3,ν4,ν5,ν6,ν7,ν8,rfl,hO⟩ hsm;obtain⟨a,rfl⟩:=A9 hlen;have ha:0≤a:=(hr a Yf).1;refine lA.reorder ((Lw wb s pv cv hv lv mv bl bc yc yq nv a ν5 D hn hO.mks hsm.mks ha).frameB (ν8++(ν7++(ν6++(ν4++(ν3++(ν2++(ν1)))))))) Yj ?_ ?_
 ·rintro D' v ν' hle ⟨_,⟨hc,I,νz,rfl,hacc⟩,rfl⟩;refine⟨_,Yx,iR s {s.table with marks:=s.table.marks.eraseIdx a.toNat},fd,pv,cv,hv,lv,I,bl,bc,yc,yq,ν1,ν2,ν3,ν4,νz,ν6,ν7,ν8,C,?_⟩
  exact⟨hO.pl,hO.ct,hO.ht,hO.lev,(hacc),hO.ln,hO.cn.up wQ.up hle,hO.ch,hO.cl⟩
 ·rintro v ⟨h1,rfl⟩;exact⟨_,fd,C⟩
theorem Jp:iU prog 275 2 (qF 1):=by
 rintro wb s nv n ν D hn hlen hr ⟨pv,cv,hv,lv,mv,bl,bc,yc,yq,ν1,ν2,ν3,ν4,ν5,ν6,ν7,ν8,rfl,hO⟩ hsm;obtain⟨a,b,rfl⟩:=AE hlen;refine lA.reorder ((Cs wb s pv cv hv lv mv bl bc yc yq nv a b ν6 D hn hO.ln hsm.ln).frameB (ν8++(ν7++(ν5++(ν4++(ν3++(ν2++(ν1)))))))) Yj ?_ ?_
 ·rintro D' v ν' hle ⟨_,⟨hc,I,νz,rfl,hacc⟩,rfl⟩;refine⟨_,kg,pW s {s.book with lines:=s.book.lines++[(⟨1,a,b⟩:C3.bQ)]},tf,pv,cv,hv,lv,mv,I,bc,yc,yq,ν1,ν2,ν3,ν4,ν5,νz,ν7,ν8,C,?_⟩
  exact⟨hO.pl,hO.ct,hO.ht,hO.lev,hO.mks,(hacc),hO.cn.up wQ.up hle,hO.ch,hO.cl⟩
 ·rintro v (⟨h1,rfl⟩|⟨h1,h2,rfl⟩)
  ·exact⟨_,tf,C⟩
  ·exact⟨_,tf,C⟩
theorem Lp:iU prog 276 2 (qF 2):=by
 rintro wb s nv n ν D hn hlen hr ⟨pv,cv,hv,lv,mv,bl,bc,yc,yq,ν1,ν2,ν3,ν4,ν5,ν6,ν7,ν8,rfl,hO⟩ hsm;obtain⟨a,b,rfl⟩:=AE hlen;refine lA.reorder ((Fp wb s pv cv hv lv mv bl bc yc yq nv a b ν6 D hn hO.ln hsm.ln).frameB (ν8++(ν7++(ν5++(ν4++(ν3++(ν2++(ν1)))))))) Yj ?_ ?_
 ·rintro D' v ν' hle ⟨_,⟨hc,I,νz,rfl,hacc⟩,rfl⟩;refine⟨_,kg,pW s {s.book with lines:=s.book.lines++[(⟨2,a,b⟩:C3.bQ)]},tf,pv,cv,hv,lv,mv,I,bc,yc,yq,ν1,ν2,ν3,ν4,ν5,νz,ν7,ν8,C,?_⟩
  exact⟨hO.pl,hO.ct,hO.ht,hO.lev,hO.mks,(hacc),hO.cn.up wQ.up hle,hO.ch,hO.cl⟩
 ·rintro v (⟨h1,rfl⟩|⟨h1,h2,rfl⟩)
  ·exact⟨_,tf,C⟩
  ·exact⟨_,tf,C⟩
theorem XM:iU prog 277 1 (rU):=by
 rintro wb s nv n ν D hn hlen hr ⟨pv,cv,hv,lv,mv,bl,bc,yc,yq,ν1,ν2,ν3,ν4,ν5,ν6,ν7,ν8,rfl,hO⟩ hsm;obtain⟨a,rfl⟩:=A9 hlen;have ha:0≤a:=(hr a Yf).1;refine lA.reorder ((Lt wb s pv cv hv lv mv bl bc yc yq nv a ν6 D hn hO.ln hsm.ln ha).frameB (ν8++(ν7++(ν5++(ν4++(ν3++(ν2++(ν1)))))))) Yj ?_ ?_
 ·rintro D' v ν' hle ⟨_,⟨x,hx,hc,νz,rfl,hacc⟩,rfl⟩;refine⟨_,kg,pW s {s.book with lines:=s.book.lines.set a.toNat {x with token:= -1}},by unfold rU;simp only[];rw[hx];simp only[];rw[zv hc],pv,cv,hv,lv,mv,bl,bc,yc,yq,ν1,ν2,ν3,ν4,ν5,νz,ν7,ν8,C,?_⟩
  exact⟨hO.pl,hO.ct,hO.ht,hO.lev,hO.mks,(hacc),hO.cn.up wQ.up hle,hO.ch,hO.cl⟩
 ·rintro v (⟨h1,rfl⟩|⟨x,hx,h1,rfl⟩)
  ·exact⟨_,by unfold rU;simp only[];rw[tq Yd],C⟩
  ·exact⟨_,by unfold rU;simp only[];rw[hx];exact zo h1,C⟩
theorem ZR:iU prog 278 1 (uY):=by
 rintro wb s nv n ν D hn hlen hr ⟨pv,cv,hv,lv,mv,bl,bc,yc,yq,ν1,ν2,ν3,ν4,ν5,ν6,ν7,ν8,rfl,hO⟩ hsm;obtain⟨a,rfl⟩:=A9 hlen;have ha:0≤a:=(hr a Yf).1;refine lA.reorder ((Lm wb s pv cv hv lv mv bl bc yc yq nv a ν6 D hn hO.ln hsm.ln ha).frameB (ν8++(ν7++(ν5++(ν4++(ν3++(ν2++(ν1)))))))) Yj ?_ ?_
 ·rintro D' v ν' hle ⟨_,⟨hc,I,νz,rfl,hacc⟩,rfl⟩;refine⟨_,kg,pW s {s.book with lines:=s.book.lines.eraseIdx a.toNat},fc,pv,cv,hv,lv,mv,I,bc,yc,yq,ν1,ν2,ν3,ν4,ν5,νz,ν7,ν8,C,?_⟩
  exact⟨hO.pl,hO.ct,hO.ht,hO.lev,hO.mks,(hacc),hO.cn.up wQ.up hle,hO.ch,hO.cl⟩
 ·rintro v ⟨h1,rfl⟩;exact⟨_,fc,C⟩
theorem XW:iU prog 279 4 (vC):=by
 rintro wb s nv n ν D hn hlen hr ⟨pv,cv,hv,lv,mv,bl,bc,yc,yq,ν1,ν2,ν3,ν4,ν5,ν6,ν7,ν8,rfl,hO⟩ hsm;obtain⟨a,b,c,d,rfl⟩:=gr hlen;refine lA.reorder ((Nk wb s pv cv hv lv mv bl bc yc yq nv a b c d ν7 D hn hO.ch hsm.ch).frameB (ν8++(ν6++(ν5++(ν4++(ν3++(ν2++(ν1)))))))) Yj ?_ ?_
 ·rintro D' v ν' hle ⟨_,⟨hc,I,νz,rfl,hacc⟩,rfl⟩;refine⟨_,ki,lK s {s.yard with chairs:=s.yard.chairs++[(⟨a,⟨b,c,d⟩⟩:C7.Ch)]},mj,pv,cv,hv,lv,mv,bl,bc,I,yq,ν1,ν2,ν3,ν4,ν5,ν6,νz,ν8,C,?_⟩
  exact⟨hO.pl,hO.ct,hO.ht,hO.lev,hO.mks,hO.ln,hO.cn.up wQ.up hle,(hacc),hO.cl⟩
 ·rintro v (⟨h1,rfl⟩|⟨h1,h2,rfl⟩)
  ·exact⟨_,mj,C⟩
  ·exact⟨_,mj,C⟩
theorem Ix:iU prog 280 3 (xH):=by
 rintro wb s nv n ν D hn hlen hr ⟨pv,cv,hv,lv,mv,bl,bc,yc,yq,ν1,ν2,ν3,ν4,ν5,ν6,ν7,ν8,rfl,hO⟩ hsm;obtain⟨a,b,c,rfl⟩:=gk hlen;have ha:0≤a:=(hr a Yf).1;have hb:0≤b:=(hr b Yf).1;refine lA.reorder ((Bw wb s pv cv hv lv mv bl bc yc yq nv a b c ν7 D hn hO.ch hsm.ch ha hb).frameB (ν8++(ν6++(ν5++(ν4++(ν3++(ν2++(ν1)))))))) Yj ?_ ?_
 ·rintro D' v ν' hle ⟨_,⟨x,hx,hc,νz,rfl,hacc⟩,rfl⟩;refine⟨_,ki,lK s {s.yard with chairs:=s.yard.chairs.set a.toNat {x with parts:=s4 x.parts b.toNat c}},by unfold xH;simp only[];rw[hx];simp only[];repeat (first|rw[zo Yd]|rw[zv Yd]),pv,cv,hv,lv,mv,bl,bc,yc,yq,ν1,ν2,ν3,ν4,ν5,ν6,νz,ν8,C,?_⟩
  exact⟨hO.pl,hO.ct,hO.ht,hO.lev,hO.mks,hO.ln,hO.cn.up wQ.up hle,(hacc),hO.cl⟩
 ·rintro v (⟨h1,rfl⟩|⟨h1,h2,rfl⟩|⟨h1,h2,h3,rfl⟩)
  ·exact⟨_,by unfold xH;simp only[];rw[tq Yd],C⟩
  ·exact⟨_,by unfold xH;simp only[];rw[yz Yd];exact zo h2,C⟩
  ·exact⟨_,by unfold xH;simp only[];rw[yz Yd];exact(zv Yd).trans (zo h3),C⟩
theorem aHV:iU prog 281 1 (TJ):=by
 rintro wb s nv n ν D hn hlen hr ⟨pv,cv,hv,lv,mv,bl,bc,yc,yq,ν1,ν2,ν3,ν4,ν5,ν6,ν7,ν8,rfl,hO⟩ hsm;obtain⟨a,rfl⟩:=A9 hlen;refine lA.reorder ((Xdg wb s pv cv hv lv mv bl bc yc yq nv a D hn).frameB (ν8++(ν7++(ν6++(ν5++(ν4++(ν3++(ν2++(ν1))))))))) Yj ?_ ?_
 ·rintro D' v ν' hle ⟨_,⟨h1,rfl⟩,rfl⟩;refine⟨_,.refl _,lK s {s.yard with fit:=a},iq,pv,cv,hv,lv,mv,bl,bc,yc,yq,ν1,ν2,ν3,ν4,ν5,ν6,ν7,ν8,C,⟨hO.pl,hO.ct,hO.ht,hO.lev,hO.mks,hO.ln,hO.cn.up wQ.up hle,hO.ch,hO.cl⟩⟩
 ·rintro v ⟨h1,rfl⟩;exact⟨_,iq,C⟩
theorem Ng:iU prog 282 2 (I3):=by
 rintro wb s nv n ν D hn hlen hr ⟨pv,cv,hv,lv,mv,bl,bc,yc,yq,ν1,ν2,ν3,ν4,ν5,ν6,ν7,ν8,rfl,hO⟩ hsm;obtain⟨a,b,rfl⟩:=AE hlen;refine lA.reorder ((Ia wb s pv cv hv lv mv bl bc yc yq nv a b ν8 D hn hO.cl hsm.cl).frameB (ν7++(ν6++(ν5++(ν4++(ν3++(ν2++(ν1)))))))) Yj ?_ ?_
 ·rintro D' v ν' hle ⟨_,⟨hc,I,νz,rfl,hacc⟩,rfl⟩;refine⟨_,ki,lK s {s.yard with claims:=s.yard.claims++[(a,b)]},mf,pv,cv,hv,lv,mv,bl,bc,yc,I,ν1,ν2,ν3,ν4,ν5,ν6,ν7,νz,C,?_⟩
  exact⟨hO.pl,hO.ct,hO.ht,hO.lev,hO.mks,hO.ln,hO.cn.up wQ.up hle,hO.ch,(hacc)⟩
 ·rintro v (⟨h1,rfl⟩|⟨h1,h2,rfl⟩)
  ·exact⟨_,mf,C⟩
  ·exact⟨_,mf,C⟩
theorem RY:iU prog 283 1 (sI):=by
 rintro wb s nv n ν D hn hlen hr ⟨pv,cv,hv,lv,mv,bl,bc,yc,yq,ν1,ν2,ν3,ν4,ν5,ν6,ν7,ν8,rfl,hO⟩ hsm;obtain⟨a,rfl⟩:=A9 hlen;have ha:0≤a:=(hr a Yf).1;refine lA.reorder ((Of wb s pv cv hv lv mv bl bc yc yq nv a ν8 D hn hO.cl hsm.cl ha).frameB (ν7++(ν6++(ν5++(ν4++(ν3++(ν2++(ν1)))))))) Yj ?_ ?_
 ·rintro D' v ν' hle ⟨_,⟨hc,I,νz,rfl,hacc⟩,rfl⟩;refine⟨_,ki,lK s {s.yard with claims:=s.yard.claims.eraseIdx a.toNat},fa,pv,cv,hv,lv,mv,bl,bc,yc,I,ν1,ν2,ν3,ν4,ν5,ν6,ν7,νz,C,?_⟩
  exact⟨hO.pl,hO.ct,hO.ht,hO.lev,hO.mks,hO.ln,hO.cn.up wQ.up hle,hO.ch,(hacc)⟩
 ·rintro v ⟨h1,rfl⟩;exact⟨_,fa,C⟩
def F9(s:aO)(line:Λ):aO×Int:=match kB line with
 |none=>(s,4)
 |some (act,n)=>match act s n with
  |.error c=>(s,c)
  |.ok s'=>if eI s'=0 then(s',0)else(s,eI s')
theorem TR{s:aO}{line:Λ}(h:kB line=none):F9 s line=(s,4):=by unfold F9;rw[h]
theorem Rm{s:aO}{line:Λ}{act:eS}{n:List Int}{c:Int}(h:kB line=some (act,n))(he:act s n=.error c):F9 s line=(s,c):=by unfold F9;rw[h];simp only[];rw[he]
theorem Rr{s I:aO}{line:Λ}{act:eS}{n:List Int}(h:kB line=some (act,n))(he:act s n=.ok I)(hs:eI I≠0):F9 s line=(s,eI I):=by unfold F9;rw[h];simp only[];rw[he];exact zv hs
theorem Rz{s I:aO}{line:Λ}{act:eS}{n:List Int}(h:kB line=some (act,n))(he:act s n=.ok I)(hs:eI I=0):F9 s line=(I,0):=by unfold F9;rw[h];simp only[];rw[he];exact zo hs
theorem X2{s I:aO}{line:Λ}{c:Int}{D:aC}{v:Γ}(h:F9 s line=(I,c))(hs:iE D v I):∃O,Value.tuple #[v,qI c]=.tuple #[O,qI (F9 s line).2]∧iE D O (F9 s line).1:=by rw[h];exact⟨v,C,hs⟩
theorem p8{s:aO}{line:Λ}{c:Int}{D:aC}{v:Γ}(h:F9 s line=(s,c))(hs:iE D v s):∃I,Value.tuple #[v,qI c]=.tuple #[I,qI (F9 s line).2]∧iE D I (F9 s line).1:=X2 h hs
theorem _root_.Go.Fs.C12.mI.small{s:aO}(h:mI s):Y0 s:=⟨by have:=h.pl;omega,by have:=h.ct;omega,by have:=h.ht;omega,by have:=h.lev;omega,by have:=h.mks;omega,by have:=h.ln;omega,by have:=h.ch;omega,by have:=h.cl;omega⟩
theorem qX.up{w9:nn}{D D':aC}{wb:Nat}{s:aO}{ν:aF}(h:qX w9 D wb s ν)(hl:Le D D'):qX w9 D' wb s ν:=by
 obtain⟨pv,cv,hv,lv,mv,bl,bc,yc,yq,ν1,ν2,ν3,ν4,ν5,ν6,ν7,ν8,h1,h2⟩:=h;exact⟨pv,cv,hv,lv,mv,bl,bc,yc,yq,ν1,ν2,ν3,ν4,ν5,ν6,ν7,ν8,h1,⟨h2.pl,h2.ct,h2.ht,h2.lev,h2.mks,h2.ln,h2.cn.up wQ.up hl,h2.ch,h2.cl⟩⟩
theorem AB{w9:nn}{D:aC}{wb:Nat}{s:aO}{ν:aF}(h:qX w9 D wb s ν):∀p∈ν,dH p.2:=by
 obtain⟨pv,cv,hv,lv,mv,bl,bc,yc,yq,ν1,ν2,ν3,ν4,ν5,ν6,ν7,ν8,rfl,h2⟩:=h;intro p hp;simp only[zm,zd]at hp;rcases hp with rfl|hp|hp|hp|hp|hp|hp|hp|hp
 ·rfl
 ·exact qB h2.cl p hp
 ·exact qB h2.ch p hp
 ·exact qB h2.ln p hp
 ·exact qB h2.mks p hp
 ·exact qB h2.lev p hp
 ·exact qB h2.ht p hp
 ·exact qB h2.ct p hp
 ·exact qB h2.pl p hp
theorem pS{α:Type}{R:Rd α}{D:aC}{sz:Nat}{v:Γ}{xs:List α}(h:Sl D R sz v xs):cell1 v=true:=by
 obtain⟨a,c,rfl⟩:=h.shape;rfl
theorem gO{D:aC}{s:aO}{pv cv hv lv mv bl bc yc yq:Γ}(h:kP D s pv cv hv lv mv bl bc yc yq):∀u∈[pv,cv,qI s.row.wrong,qI s.row.off,qI s.table.last,hv,qI s.table.step,lv,mv,qI s.book.chairs,qI s.book.coin,qI s.book.box,bl,bc,yc,qI s.yard.fit,yq],cell1 u=true:=by
 intro u hu;simp only[zm,n4,yk]at hu;rcases hu with rfl|rfl|rfl|rfl|rfl|rfl|rfl|rfl|rfl|rfl|rfl|rfl|rfl|rfl|rfl|rfl|rfl<;>first|rfl|exact pS h.pl|exact pS h.ct|exact pS h.ht|exact pS h.lev|exact pS h.mks|exact pS h.ln|exact pS h.cn|exact pS h.ch|exact pS h.cl
section
variable{P:Program}{X:Cx}{Q:Exit→Act→Δ→Prop}{T:bZ}{W:List aC}
theorem EG{w9:nn}{c:Code}{B ν:aF}{D0:aC}{wb:Nat}{s:aO}(h:qX w9 D0 wb s ν)(hmods:X.mods=[])(O:D0∈W:=by simp)(hsm:Y0 s:=by assumption)
  (kk:∀D pv cv hv lv mv bl bc yc yq,(∀D₁∈W,Le D₁ D)→kP D s pv cv hv lv mv bl bc yc yq→WC P X Q c T ((wb,qC (dY s pv cv hv lv mv bl bc yc yq) w9.w)::B) (D::W)):WC P X Q c T (ν++B) W:=by
 obtain⟨pv,cv,hv,lv,mv,bl,bc,yc,yq,ν1,ν2,ν3,ν4,ν5,ν6,ν7,ν8,rfl,hO⟩:=h;intro a w hh;obtain⟨V,k8,Y,h8⟩:=(hh.boxesEq (μ':=[(wb,qC (dY s pv cv hv lv mv bl bc yc yq) w9.w)]++ν8++(ν7++(ν6++(ν5++(ν4++(ν3++(ν2++(ν1++B)))))))) Yf).freeze hO.cl hmods;obtain⟨Z,k7,F7,h7⟩:=(h8.boxesEq (μ':=[(wb,qC (dY s pv cv hv lv mv bl bc yc yq) w9.w)]++ν7++(ν6++(ν5++(ν4++(ν3++(ν2++(ν1++B))))))) Yf).freeze hO.ch hmods;obtain⟨E6,k6,F6,h6⟩:=(h7.boxesEq (μ':=[(wb,qC (dY s pv cv hv lv mv bl bc yc yq) w9.w)]++ν6++(ν5++(ν4++(ν3++(ν2++(ν1++B)))))) Yf).freeze hO.ln hmods;obtain⟨E5,k5,F5,h5⟩:=(h6.boxesEq (μ':=[(wb,qC (dY s pv cv hv lv mv bl bc yc yq) w9.w)]++ν5++(ν4++(ν3++(ν2++(ν1++B))))) Yf).freeze hO.mks hmods;obtain⟨E4,k4,F4,h4⟩:=(h5.boxesEq (μ':=[(wb,qC (dY s pv cv hv lv mv bl bc yc yq) w9.w)]++ν4++(ν3++(ν2++(ν1++B)))) Yf).freeze hO.lev hmods;obtain⟨E3,k3,F3,h3⟩:=(h4.boxesEq (μ':=[(wb,qC (dY s pv cv hv lv mv bl bc yc yq) w9.w)]++ν3++(ν2++(ν1++B))) Yf).freeze hO.ht hmods;obtain⟨E2,k2,F2,h2⟩:=(h3.boxesEq (μ':=[(wb,qC (dY s pv cv hv lv mv bl bc yc yq) w9.w)]++ν2++(ν1++B)) Yf).freeze hO.ct hmods;obtain⟨E1,I,F1,h1⟩:=(h2.boxesEq (μ':=[(wb,qC (dY s pv cv hv lv mv bl bc yc yq) w9.w)]++ν1++B) Yf).freeze hO.pl hmods;refine kk E1 pv cv hv lv mv bl bc yc yq (λD₁ hD₁=>I D₁ (by simp[hD₁])) ⟨oW (R:=RI) (n:=1) (f:=cI) (λ_ _=>C) (λ_=>C) F1 (by have:=hsm.pl;omega),(oW (R:=RC) (n:=3) (f:=cC) (λ_ _=>C) (λ_=>C) F2 (by have:=hsm.ct;omega)).up RC.up (I E2 Yf),(oW (R:=EQ) (n:=2) (f:=cP) (λ_ _=>C) (λ_=>C) F3 (by have:=hsm.ht;omega)).up EQ.up (I E3 Yf),(oW (R:=RI) (n:=1) (f:=cI) (λ_ _=>C) (λ_=>C) F4 (by have:=hsm.lev;omega)).up RI.up (I E4 Yf),(oW (R:=YV) (n:=4) (f:=cM) (λ_ _=>C) (λ_=>C) F5 (by have:=hsm.mks;omega)).up YV.up (I E5 Yf),
  (oW (R:=jQ) (n:=3) (f:=cL) (λ_ _=>C) (λ_=>C) F6 (by have:=hsm.ln;omega)).up jQ.up (I E6 Yf),hO.cn.up wQ.up (I D0 (by simp[O])),(oW (R:=I0) (n:=4) (f:=cH) (λ_ _=>C) (λ_=>C) F7 (by have:=hsm.ch;omega)).up I0.up (I Z Yf),(oW (R:=R2) (n:=2) (f:=cP) (λ_ _=>C) (λ_=>C) Y (by have:=hsm.cl;omega)).up R2.up (I V Yf)⟩ a w ?_
 obtain⟨g1,g2,g3,Dx,g4,U,g6⟩:=h1;exact⟨g1,g2,g3,Dx,g4,λD hD=>by
  rcases zm.1 hD with rfl|hD
  ·exact U _ zj
  ·exact U D (by simp[hD]),g6⟩
end

def wV(b:Λ):Option Int:=tI b.data.toList
theorem qR(line:Λ):∃p0 ps,eH line=p0::ps:=by
 unfold eH;cases h:rO line.data.toList with
 |nil=>exact absurd h (aDV _)
 |cons p ps=>exact⟨_,_,C⟩
theorem V6(line:Λ):(eH line).length≤line.size+1:=by unfold eH;rw[yh];exact RO _
theorem aGI{line p0 x:Λ}{ps:List Λ}{k:Nat}(h:eH line=p0::ps)(hx:ps[k]?= some x):x.size≤line.size:=by
 have hm:x∈eH line:=by rw[h];exact GT _ (GE hx)
 unfold eH at hm;obtain⟨p,hp,rfl⟩:=n5.1 hm;exact Fb hp
theorem YE:∀ps:List (List UInt8),(ps.map rN).mapM wV=ps.mapM tI
 | []=>rfl
 |p::ps=>by
  rw[yl,uy,uy,YE ps];rfl
theorem wD{line p0:Λ}{ps:List Λ}(h:eH line=p0::ps):kB line=match lV.find? (λx=>x.1==p0.data.toList)with
  |none=>none
  |some (_,k,act)=>if ps.length=k then(ps.mapM wV).map λn=>(act,n)else none:=by
 unfold eH at h;unfold kB;cases hc:rO line.data.toList with
 |nil=>rw[hc]at h;cases h
 |cons p qs=>
  rw[hc]at h;simp only[yl,vx]at h;obtain⟨rfl,rfl⟩:=h;simp only[yh];rw[YE];rfl
theorem s8{line p0:Λ}{ps:List Λ}{l:List UInt8}{k:Nat}{act:eS}{ns:List Int}(h:eH line=p0::ps)(hf:lV.find? (λx=>x.1==p0.data.toList)=some (l,k,act))(hk:ps.length=k)(hn:ps.mapM wV=some ns):kB line=some (act,ns):=by
 rw[wD h,hf];simp only[];rw[zo hk,hn];rfl
theorem CC:∀{ps:List Λ} {k:Nat} {x:Λ},ps[k]?= some x→wV x=none→ps.mapM wV=none
 | [],_,_,h,_=>by simp at h
 |p::ps,0,x,h,hx=>by
  obtain rfl:p=x:=xd
  rw[uy,hx];rfl
 |p::ps,k+1,x,h,hx=>by
  rw[uy,CC (k:=k) xd hx];cases wV p<;>rfl
theorem Kd{line p0 x:Λ}{ps:List Λ}{k:Nat}(h:eH line=p0::ps)(hx:ps[k]?= some x)(hn:tI x.data.toList=none):kB line=none:=by
 rw[wD h,CC hx hn];split
 ·rfl
 ·split<;>rfl
theorem Fx{ps:List Λ}{x:Λ}{ns:List Int}{m:Int}(h:ps.mapM wV=some ns)(hx:wV x=some m):(ps++[x]).mapM wV=some (ns++[m]):=by
 induction ps generalizing ns with
 |nil=>
  obtain rfl:([]:List Int)=ns:=xd
  rw[ya,uy,hx];rfl
 |cons p ps ih=>
  rw[uy]at h;cases hp:wV p with
  |none=>rw[hp]at h;cases h
  |some q=>
   cases hq:ps.mapM wV with
   |none=>rw[hp,hq]at h;cases h
   |some qs=>
    rw[hp,hq]at h;obtain rfl:q::qs=ns:=yi h;rw[we,uy,hp,ih hq];rfl
theorem ZT{ps:List Λ}{k:Nat}{x:Λ}{ns:List Int}{m:Int}(hx:ps[k]?= some x)(h:(ps.take k).mapM wV=some ns)(hm:tI x.data.toList=some m):(ps.take (k+1)).mapM wV=some (ns++[m]):=by
 rw[zg,hx];exact Fx h hm
theorem d8:∀{ps:List Λ} {ns:List Int},ps.mapM wV=some ns→∀x∈ns,0≤x∧x≤999
 | [],ns,h=>by
  obtain rfl:([]:List Int)=ns:=xd
  intro x hx;cases hx
 |p::ps,ns,h=>by
  rw[uy]at h;cases hp:wV p with
  |none=>rw[hp]at h;cases h
  |some q=>
   cases hq:ps.mapM wV with
   |none=>rw[hp,hq]at h;cases h
   |some qs=>
    rw[hp,hq]at h;obtain rfl:q::qs=ns:=yi h;intro x hx;rcases zm.1 hx with rfl|hx
    ·have:=Na hp;omega
    ·exact d8 hq x hx

def cz:List (Λ×Γ)→List (List UInt8×Nat×eS)→Prop
 | [],[]=>True
 |(b,v)::w9,(l,k,act)::w_=>b.data.toList=l∧(∃f,v=.agg #[qI (k:Int),.func (.func f) #[] #[]]∧iU Go.Proofs.Tryz.prog f k act)∧cz w9 w_
 |_,_=>False
theorem Xbv:cz QS lV:=⟨C,⟨_,C,Lv⟩,⟨C,⟨_,C,Fm⟩,⟨C,⟨_,C,Kr⟩,⟨C,⟨_,C,Iv⟩,⟨C,⟨_,C,TK⟩,⟨C,⟨_,C,Mb⟩,⟨C,⟨_,C,aGE⟩,⟨C,⟨_,C,Ik⟩,⟨C,⟨_,C,Hi⟩,⟨C,⟨_,C,Kk⟩,⟨C,⟨_,C,O_⟩,⟨C,⟨_,C,Fv⟩,⟨C,⟨_,C,ZP⟩,⟨C,⟨_,C,Jp⟩,⟨C,⟨_,C,Lp⟩,⟨C,⟨_,C,XM⟩,⟨C,⟨_,C,ZR⟩,⟨C,⟨_,C,XW⟩,⟨C,⟨_,C,Ix⟩,⟨C,⟨_,C,aHV⟩,⟨C,⟨_,C,Ng⟩,⟨C,⟨_,C,RY⟩,zy⟩⟩⟩⟩⟩⟩⟩⟩⟩⟩⟩⟩⟩⟩⟩⟩⟩⟩⟩⟩⟩⟩
theorem Ht(a b:Λ):(a==b)=(b.data.toList==a.data.toList):=by
 rw[vv];constructor
 ·intro h;rw[beq_toListBytes,ByteArray.toList_eq,ByteArray.toList_eq]at h;rw[eq_of_beq h];simp
 ·intro h;rw[beq_toListBytes,ByteArray.toList_eq,ByteArray.toList_eq,eq_of_beq h];simp
theorem YF(p:Λ):∀(w9:List (Λ×Γ)) (w_:List (List UInt8×Nat×eS)) (i:Nat),cz w9 w_→(CJ p w9 i=none∧w_.find? (λx=>x.1==p.data.toList)=none)∨(∃(j k:Nat) (act:eS) (f:FuncId),CJ p w9 i=some (j,.agg #[qI (k:Int),.func (.func f) #[] #[]])∧w_.find? (λx=>x.1==p.data.toList)=some (p.data.toList,k,act)∧iU Go.Proofs.Tryz.prog f k act)
 | [],[],_,_=>zq ⟨C,C⟩
 | [],_::_,_,h=>h.elim
 |_::_,[],_,h=>h.elim
 |(b,v)::w9,(l,k,act)::w_,i,h=>by
  obtain⟨rfl,⟨f,rfl,hw⟩,hT⟩:=h;unfold CJ;rw[List.find?_cons];rw[Ht p b];cases hb:b.data.toList==p.data.toList with
  |true=>
   refine zt ⟨i,k,act,f,by rw[zo C],?_,hw⟩;simp only[];rw[eq_of_beq hb]
  |false=>
   rw[zv Yf];exact YF p w9 w_ (i+1) hT
theorem Hp(p:Λ):∃(k:Nat) (c:Γ) (b:Bool),jw p QS (.agg #[qI 0,.nilFunc])=.agg #[qI (k:Int),c]∧(CJ p QS 0).isSome=b∧(b=true→∃act f,lV.find? (λx=>x.1==p.data.toList)=some (p.data.toList,k,act)∧c=.func (.func f) #[] #[]∧iU Go.Proofs.Tryz.prog f k act)∧(b=false→lV.find? (λx=>x.1==p.data.toList)=none)∧cell1 c=true:=by
 unfold jw;rcases YF p _ _ 0 Xbv with⟨h1,h2⟩|⟨j,k,act,f,h1,h2,h3⟩
 ·rw[h1];exact⟨0,.nilFunc,false,C,C,(λh=>wg),λ_=>h2,C⟩
 ·rw[h1];exact⟨k,_,true,C,C,λ_=>⟨act,f,h2,C,h3⟩,(λh=>wg),C⟩
theorem PQ{p l:List UInt8}{k:Nat}{act:eS}{s I:aO}{n:List Int}(h:lV.find? (λx=>x.1==p)=some (l,k,act))(hk:mI s)(ha:act s n=.ok I):mI I:=Lr _ (jq h) s n I hk ha
theorem Kv{line p0:Λ}{ps:List Λ}{k:Nat}{c:Γ}{b:Bool}(h:eH line=p0::ps)(hno:b=false→lV.find? (λx=>x.1==p0.data.toList)=none)(hyes:b=true→∃act f,lV.find? (λx=>x.1==p0.data.toList)=some (p0.data.toList,k,act)∧c=.func (.func f) #[] #[]∧iU Go.Proofs.Tryz.prog f k act)(hx:b=false∨¬((eH line).length:Int)-1=(k:Int)):kB line=none:=by
 rw[wD h];cases b with
 |false=>rw[hno C]
 |true=>
  obtain⟨act,f,hf,_,_⟩:=hyes C;rw[hf];simp only[];rw[zv];intro e;rcases hx with hx|hx
  ·cases hx
  ·refine hx ?_;rw[h,zh];omega
theorem Xde{line p0:Λ}{ps:List Λ}{k:Nat}{b:Bool}(h:eH line=p0::ps)(hf:([(!b||decide (((eH line).length:Int)-1≠(k:Int)))].any λx=>true==x)=false):b=true∧ps.length=k:=by
 have h2:b=true∧((eH line).length:Int)-1=(k:Int):=by simpa using hf
 refine⟨h2.1,?_⟩;have:=h2.2;rw[h,zh]at this;omega
theorem aFK(R I O:Nat)(c2:List Γ)(v3:Γ)(D:aC):NA prog 203 [qP R,qP I,qP O] D [(O,qC [v3] 27),(I,qC c2 89)] .returning .returning (λ_ ν'=>ν'=[(O,qC [v3] 27),(I,qC c2 89)]):=by
 refine Qk (t:=6) (rv:=.nilIface) 15 func203 C C C C C (λc₀ cs hm=>zt ⟨Cd hm,C,C⟩) λh0 hwl hwn=>Za4<|aA<|ep C U20 C (Or.inl C) C zy<|aE<|Zai C (λhc1=>?_) λhc1=>?_
 ·refine aM<|Zf C<|Zap<|Za7 ?_;exact eO C λD' hD=>C
 ·cases hc1
theorem GX(O I R:Nat)(s:aO)(pv cv hv lv mv bl bc yc yq:Γ)(code:Int)(D:aC)(hB:At D O 0 (dY s pv cv hv lv mv bl bc yc yq))(hL:kP D s pv cv hv lv mv bl bc yc yq):NA prog 203 [qP O,qP I,qP R] D [(R,qC [qI 0] 27),(I,qC [qN,qN,qI 0,qI 0,qI 0,qN,qI 0,qN,qN,qI 0,qI 0,qI 0,qN,qN,qN,qI 0,qN] 89)] (.panicking (pV (gK code))) (.panicking [{v:=gK code,recovered:=true}]) (λ_ ν'=>ν'=[(R,qC [qI code] 27),(I,qC (dY s pv cv hv lv mv bl bc yc yq) 89)]):=by
 refine Qk (t:=6) (rv:=(gK code)) 15 func203 C C C C C (λc₀ cs hm=>zq (An hm)) λh0 hwl hwn=>Za4<|aA<|ep C U20 C (Or.inr ⟨_,_,C⟩) C zy<|aE<|Zai C (λhc1=>?_) λhc1=>?_
 ·cases hc1
 ·refine aA<|Iu C U347 C C zy<|Zar C<|Zar C<|aE<|Zai C (λhc2=>?_) (λhc2=>?_)
  ·refine aA<|Zag C Sr C λU=>Zaa C aER ζ<|aE<|fK hB Yf λhap=>rM λhnd=>?_;have V:O∉[I]:=by simp[aF.ks]at hap ⊢;exact hap.2.2
   have Y:U∉[I]:=by simp at hnd ⊢;exact hnd.1.2
   refine Vd [I] 1 [0,1,2,3,4] [false,true,true,true,false] [(false,0),(true,1),(true,2),(true,3),(false,4)] aV (λ_ _ _ _ he h=>Td (P:=prog) (fn:=f203) _ _ _ _ he h) Yg C<|cQ C mM C hB Yc fN Yo C zy<|Zj C Hj C<|bG C uN C zu C Yo C zy<|oE C C C C fN (.tail (.tail ζ)) Yf C (gO hL) (Or.inr Yf) zy<|Zs C uJ (.tail ζ) C<|Zap<|Za7 ?_;exact O8 (A:=[_]) (ν':=[_,_]) (B:=[]) (vs:=[]) C C C zy λD' hD=>C
  ·cases hc2
theorem Wbe(sv:Γ)(s:aO)(line:Λ)(D:aC)(hs:iE D sv s)(hk0:mI s)(hl:line.size≤1000)(hV:rK D):Fn prog 140 #[sv,.string line] D (λD' v=>∃v1,v=.tuple #[v1,qI (F9 s line).2]∧iE D' v1 (F9 s line).1):=by
 have V:=hs;obtain⟨pv,cv,hv,lv,mv,bl,bc,yc,yq,rfl,hL⟩:=hs;have hsm:=hk0.small;unfold dY;obtain⟨p0,ps,hcut⟩:=qR line;obtain⟨wk,wc,wis,hval,his,hyes,hno,hwc⟩:=Hp p0;have hps:ps.length≤1001:=by have:=V6 line;rw[hcut]at this;simp only[zh]at this;omega
 have hp0:(eH line)[0]?= some p0:=by rw[hcut];rfl
 have hcl:(eH line).length≤1001:=by have:=V6 line;omega
 refine Xbw 75 func140 C C C C λh0=>aA<|Zac C λR E1 hE1 Y=>Zag C uK C λI=>Zag C SX C λO=>aJ<|Za1 C<|aFJ (c1:=[]) (c2:=[qP R,qP I,qP O]) C C C zy<|aJ<|Za C<|Zz C (λD1 hD1=>Ak line hl _ (hV.up (hD1 _ Yf))) λv1 D1 hD1 hp1=>?_
 obtain⟨pa,pc,rfl⟩:=hp1.shape;have hPS:=hp1;refine Zf C<|bX<|Gl<|pY [] 5 [true,false,false,false,false,false,false,false,true,false,false] [.fork [1,2,3] 0 (.fin [4,5,6,7,8]) 8 (.fin [0,4,5,6,7]),.fin [9,10]] aV Xau Yg<|BX (γ:=Nat) (λg=>True) (λg=>[(24,.agg #[qI (wk:Int),wc]),(25,.bool wis),(7,qP g),(6,.slice pa (eH line).length pc),(4,qP I),(5,qP O),(2,qP R)]) (λg=>[(g,qC [qI 0,.nilFunc] 351),(O,qC [qI 0] 27),(I,qC [qN,qN,qI 0,qI 0,qI 0,qN,qI 0,qN,qN,qI 0,qI 0,qI 0,qN,qN,qN,qI 0,qN] 89)]) (λg=>[D1,E1,D]) [.fork [1,2,3] 0 (.fin [4,5,6,7,8]) 8 (.fin [0,4,5,6,7])] [.fin [9,10]] C ?_ ?_
 ·refine uG<|bS [(false,1),(false,2),(false,3)] C<|Za C<|Zy C U22 lT C hPS C hp0 λb1 o1 cs1 hr1 hcl1 hA1=>?_;obtain rfl:cs1=[.string _]:=hr1;refine Zh 0 C yL C hA1 C<|Zap (eB true true C C ?_ ?_)
  ·refine gQ C C C (λD6 hD6=>VV _) C zy λwv D7 νm hD7 hm=>?_;obtain⟨bm,es,cl,rfl,rfl,hM⟩:=hm;refine Zap<|aY [(false,4),(false,5),(false,6),(false,7),(true,8)] C<|FE (b:=bm) C U353 U9 gC C C zu n4 hM C zy ?_;rw[hval,his];refine Za C<|Zar C<|Zar C<|Zag C gC C λq4=>Zap ?_;exact λa w hh=>⟨q4,zy,hh.weak cE (.cons_cons _ (.cons _ (.cons_cons _ (.cons_cons _ (.refl _))))) λD hD=>⟨D,a_,Le.refl D⟩⟩
  ·refine Zag C gC C λq4=>Zap<|aY [(true,0),(false,4),(false,5),(false,6),(false,7)] C<|gQ C C C (λD6 hD6=>VV _) C zy λwv D7 νm hD7 hm=>?_;obtain⟨bm,es,cl,rfl,rfl,hM⟩:=hm;refine FE (b:=bm) C U353 U9 gC C C zu n4 hM C zy ?_;rw[hval,his];refine Za C<|Zar C<|Zar C<|Zap ?_;exact λa w hh=>⟨q4,zy,hh.weak cE (.cons _ (.cons_cons _ (.cons_cons _ (.cons_cons _ (.refl _))))) λD hD=>⟨D,a_,Le.refl D⟩⟩
 rintro qx -;dsimp only;refine pC [(false,9),(false,10)] C<|Zab C aFE ζ (by intro u hu;simp only[zm,n4,yk]at hu;rcases hu with rfl|rfl;rfl;exact hwc)<|Zf C<|Zap<|qW<|aAQ<|aA<|Za C<|si ?_
 refine' dU 7 (s:=28) (p:=35) C (λhg1=>?_) (λhg1=>?_) ?_;rotate_left
 ·refine Zb C<|eQ C U22 C hPS C C ⟨_,C,C⟩<|xO C C C Ye C ⟨_,C,C⟩<|Zk C El C<|Zr C aH C zu C<|KD C C C C ⟨_,C,C⟩<|Zan C ?_;exact aQ 6
 ·refine Zg C<|Zg C<|Wf ?_;exact aQ 6
 refine Zu C U397 nM rJ C (.cons C C .nil) λb901 D901 hD901 hN=>o6 (A:=[]) (ν:=[]) (B:=[(_,_),(_,_),(_,_)]) C C C C (zq C) Yi (λD30 Z=>gN 4 [(!wis||decide (((eH line).length:Int)-1≠(wk:Int)))] _ _ ((iT (l:=[(!wis||decide (((eH line).length:Int)-1≠(wk:Int)))]) (λ_ _ _ h=>h) hN Yf).up RB.up (Z _ Yf))) C zy (λv30 D31 Z hB a w hh=>?_) λv30 D31 ν30 Z hB=>?_
 ·obtain⟨hx30,rfl⟩:=hB;exact SW (X:=Cx.push ⟨none,75,[],h0,h0.size,D,[],none⟩ ⟨.fn (.func 203) [qP R,qP I,qP O].toArray,[].toArray⟩) (P:=prog) (fn:=f140) (f:=203) (c1:=[]) (c2:=[qP R,qP I,qP O]) (A:=[]) (ν:=[(O,_),(I,_)]) (B:=[]) (rs:=[.cell 4 89,.cell 5 27]) xa xa (λp hp=>kn) (λD hD=>GX R I O s pv cv hv lv mv bl bc yc yq _ D (Y.up (hD _ Yf)) (hL.up (hD _ Yf))) C (λD ν' hD hq=>by subst hq;exact⟨[_,_],⟨⟨_,_,_,C,.tail _ (.head _),zt ⟨mM,fN,C⟩⟩,⟨_,_,_,C,.head _,zq ⟨uN,C⟩⟩,zy⟩,p8 (TR (Kv hcut hno hyes (by simpa using hx30))) (V.up (hD _ Yf))⟩) a w (hh.subB (.cons _ (.refl _)))
 obtain⟨hf30,rfl⟩:=hB;obtain⟨hwis,hlen⟩:=Xde hcut hf30;obtain⟨act,wf,hfind,rfl,hword⟩:=hyes hwis;refine aJ<|Zf C<|bD<|Za C<|OM (j:=1) C U22 lT C hPS C (by rw[hcut];simp) C zy λta hT=>?_
 rw[hcut]at hT ⊢
 simp only[List.drop_succ_cons,sk]at hT;rw[show(p0::ps).length-1=ps.length by simp]at hT ⊢
 refine Zaj C U22 C hT C<|Za C<|aE<|Za4<|Zc (Nat×Γ×aF×List Int) (λg=>ps.length-g.1) (λg=>g.1≤ps.length∧(ps.take g.1).mapM wV=some g.2.2.2∧g.2.2.2.length=g.1∧bM 3 1 g.2.1 g.1 (ints g.2.2.2) g.2.2.1) (λg=>[(41,qI (g.1:Int)),(9,g.2.1)]) [(40,_),(39,_),(7,_),(4,_),(5,_),(2,_)] (λg=>g.2.2.1++[(qx,qC [qI (wk:Int),.func (.func wf) #[] #[]] 351),(O,qC [qI 0] 27),(I,qC [qN,qN,qI 0,qI 0,qI 0,qN,qI 0,qN,qN,qI 0,qI 0,qI 0,qN,qN,qN,qI 0,qN] 89)]) (λg=>[D31,D901,D1,E1,D]) (0,qN,[],[]) ⟨Yf,C,C,qz⟩ ⟨Ya,Ya,zy⟩ zp ?_;rintro⟨k,v,ν,ns⟩ ⟨h1,h2,h3,ha⟩;simp only at h1 h2 h3 ha;refine aA<|Zal C<|bX<|Zae C (λhc1=>?_) λhc1=>?_
 ·simp only at hc1;have hk:k<ps.length:=Yd
  obtain⟨x,hx⟩:=cF ps k;have hsz:x.size≤1000:=xj (aGI hcut hx) hl;refine aP<|Za6<|Za4<|aA<|Zy C U22 lT C hT C hx λb2 o2 cs2 hr2 hcl2 hA2=>?_;obtain rfl:cs2=[.string _]:=hr2;refine Zh 0 C yL C hA2 C<|Zf C<|aJ<|Za C<|Zz C (λD2 hD2=>Fd x hsz _ (hV.up (hD2 _ Yf))) λv2 D2 hD2 hp2=>?_;obtain⟨m,nb,rfl,hm1,hm2⟩:=hp2;refine Za C<|Zar C<|Zar C<|Zf C<|Zf C<|aJ<|Za C<|Zav C<|Zu C U397 nM rJ C (.cons C C .nil) λb902 D902 hD902 hP=>o6 (A:=[]) (ν:=[]) (B:=_) C C C C (zq C) Yi (λD40 hE=>gN 4 [!nb] _ _ ((iT (l:=[!nb]) (λ_ _ _ h=>h) hP Yf).up RB.up (hE _ Yf))) C zy (λv40 D41 hE hF a w hh=>?_) λv40 D41 ν40 hE hF=>?_
  ·obtain⟨hx40,rfl⟩:=hF;exact SW (X:=Cx.push ⟨none,75,[],h0,h0.size,D,[],none⟩ ⟨.fn (.func 203) [qP R,qP I,qP O].toArray,[].toArray⟩) (P:=prog) (fn:=f140) (f:=203) (c1:=[]) (c2:=[qP R,qP I,qP O]) (A:=[]) (ν:=[(O,_),(I,_)]) (B:=[]) (rs:=[.cell 4 89,.cell 5 27]) xa xa (λp hp=>kn) (λD hD=>GX R I O s pv cv hv lv mv bl bc yc yq _ D (Y.up (hD _ Yf)) (hL.up (hD _ Yf))) C (λD ν' hD hq=>by subst hq;exact⟨[_,_],⟨⟨_,_,_,C,.tail _ (.head _),zt ⟨mM,fN,C⟩⟩,⟨_,_,_,C,.head _,zq ⟨uN,C⟩⟩,zy⟩,p8 (TR (Kd hcut hx (hm2 (by simpa using hx40)))) (V.up (hD _ Yf))⟩) a w (hh.subB (.trans (.cons _ (.refl _)) (List.sublist_append_right _ _)))
  obtain⟨hf40,rfl⟩:=hF;have hnb:=hm1 (by simpa using hf40);refine aE<|aM<|Za C<|Za C<|Zu C U35 aI cN C (.cons C C .nil) λb903 D903 hD903 hH=>?_;have hS903:=Sl.ofInts (l:=[_]) (n:=1) (cap:=1) hH C Yd Yd;refine aT (A:=[]) (B:=[(_,_),(_,_),(_,_)]) C U35 C C aI cN C jV C C C ha (kX.lit hH) Yf C (by simp[ints,h3]) Ym Yd (zq C) C zy λv1 ν1 ha1=>?_;have ha2:bM 3 1 v1 (k+1) (ints (ns++[m])) ν1:=by rw[←eL];exact ha1
  refine uz ?_;exact aK 24 (k+1,v1,ν1,ns++[m]) ⟨Yl,ZT hx h2 hnb,by simp[h3],ha2⟩ Yl ⟨Ya,Ya,zy⟩ C C zp λD h=>⟨D,zb _ (zb _ (zb _ (zb _ (h)))),Le.refl D⟩
 ·obtain rfl:k=ps.length:=by simp only at hc1;omega
  rw[ym]at h2;refine Za9<|Za5<|Za5<|Zba<|Za2<|Za6<|zN (A:=[]) (B:=[(_,_),(_,_),(_,_)]) ha C λD8 hD8 hF8=>?_;have hnS:=hF8.ints (l:=ns) h3 (by have:=hps;omega)
  refine aM<|Zv C mM C Y fN<|gQ C C C (λD20 hD20=>FN _ s _ (V.up (hD20 _ Yf)) hsm) C zy λwv D21 νW hD21 hw=>?_;obtain⟨wb,rfl,hO⟩:∃wb,wv=qP wb∧qX gh D21 wb s νW:=by
   obtain⟨wb,pv,cv,hv,lv,mv,bl,bc,yc,yq,ν1,ν2,ν3,ν4,ν5,ν6,ν7,ν8,h1,h2,h3⟩:=hw;exact⟨wb,h1,pv,cv,hv,lv,mv,bl,bc,yc,yq,ν1,ν2,ν3,ν4,ν5,ν6,ν7,ν8,h2,h3⟩
  refine Zf C<|aJ<|Zj C Ge C<|Zq C aDP C (LT _ zu) C<|Za C<|Za C<|Zn [] [(_,_),(_,_),(_,_)] νW C (AB hO) (λD50 U=>hword wb s _ ns νW _ (hnS.up RI.up (U _ Yf)) Yd (d8 h2) (hO.up (U _ Yf)) hsm) (λv50 D51 U hI a w hh=>?_) λv50 D51 ν50 U hI=>?_
  ·obtain⟨c50,hx50,rfl⟩:=hI;exact SW (X:=Cx.push ⟨none,75,[],h0,h0.size,D,[],none⟩ ⟨.fn (.func 203) [qP R,qP I,qP O].toArray,[].toArray⟩) (P:=prog) (fn:=f140) (f:=203) (c1:=[]) (c2:=[qP R,qP I,qP O]) (A:=[]) (ν:=[(O,_),(I,_)]) (B:=[]) (rs:=[.cell 4 89,.cell 5 27]) xa xa (λp hp=>kn) (λD hD=>GX R I O s pv cv hv lv mv bl bc yc yq _ D (Y.up (hD _ Yf)) (hL.up (hD _ Yf))) C (λD ν' hD hq=>by subst hq;exact⟨[_,_],⟨⟨_,_,_,C,.tail _ (.head _),zt ⟨mM,fN,C⟩⟩,⟨_,_,_,C,.head _,zq ⟨uN,C⟩⟩,zy⟩,p8 (Rm (s8 hcut hfind hlen h2) hx50) (V.up (hD _ Yf))⟩) a w (hh.subB (.cons _ (.refl _)))
  obtain⟨s2,hact,hO2⟩:=hI;refine bX ?_;have hsm2:Y0 s2:=(PQ hfind hk0 hact).small;refine EG (B:=[(_,_),(_,_),(_,_)]) hO2 C Yf hsm2 λD9 hR hS hX hY rA rB bc2 yc2 yq2 hD9 hL2=>?_;unfold dY;refine aM<|Za C<|Zao C<|Zj C bC C<|Zah C mM C zu fN<|o6 (A:=[]) (ν:=[]) (B:=[(_,_),(_,_),(_,_),(_,_)]) C C C C (zq C) Yi (λD60 hJ=>Ed _ s2 _ ⟨hR,hS,hX,hY,rA,rB,bc2,yc2,yq2,C,hL2.up (hJ _ Yf)⟩) C zy (λv60 D61 hJ hK a w hh=>?_) λv60 D61 ν60 hJ hK=>?_
  ·obtain⟨hx60,rfl⟩:=hK;exact SW (X:=Cx.push ⟨none,75,[],h0,h0.size,D,[],none⟩ ⟨.fn (.func 203) [qP R,qP I,qP O].toArray,[].toArray⟩) (P:=prog) (fn:=f140) (f:=203) (c1:=[]) (c2:=[qP R,qP I,qP O]) (A:=[]) (ν:=[(O,_),(I,_)]) (B:=[]) (rs:=[.cell 4 89,.cell 5 27]) xa xa (λp hp=>kn) (λD hD=>GX R I O s pv cv hv lv mv bl bc yc yq _ D (Y.up (hD _ Yf)) (hL.up (hD _ Yf))) C (λD ν' hD hq=>by subst hq;exact⟨[_,_],⟨⟨_,_,_,C,.tail _ (.head _),zt ⟨mM,fN,C⟩⟩,⟨_,_,_,C,.head _,zq ⟨uN,C⟩⟩,zy⟩,p8 (Rr (s8 hcut hfind hlen h2) hact hx60) (V.up (hD _ Yf))⟩) a w (hh.subB (.cons _ (.cons _ (.refl _))))
  obtain⟨hf60,rfl⟩:=hK;refine aJ<|Za C<|Zao C<|Zj C bC C<|Zah C mM C zu fN<|Zab C fN (.tail (.tail (.tail ζ))) (gO hL2)<|Zs C uJ (.tail (.tail ζ)) C<|aG<|Xak (X:=Cx.push ⟨none,75,[],h0,h0.size,D,[],none⟩ ⟨.fn (.func 203) [qP R,qP I,qP O].toArray,[].toArray⟩) (P:=prog) (fn:=f140) (f:=203) (e:=.ret) (c1:=[]) (c2:=[qP R,qP I,qP O]) (A:=[(_,_),(_,_)]) (ν:=[(O,qC [qI 0] 27),(I,qC (dY s2 hR hS hX hY rA rB bc2 yc2 yq2) 89)]) (B:=[]) (rs:=[.cell 4 89,.cell 5 27]) xa xa xa (λp hp=>kn) (λD hD=>aFK R I O _ _ D) C ?_
  intro D ν' hD hq;subst hq;exact⟨[_,_],⟨⟨_,_,_,C,.tail _ (.tail _ (.tail _ (.head _))),zt ⟨mM,fN,C⟩⟩,⟨_,_,_,C,.tail _ (.tail _ (.head _)),zq ⟨uN,C⟩⟩,zy⟩,X2 (Rz (s8 hcut hfind hlen h2) hact hf60) ⟨hR,hS,hX,hY,rA,rB,bc2,yc2,yq2,C,hL2.up (hD D9 Yf)⟩⟩
def nJ(ls:List Λ):aO×List Int:=ls.foldl (λp l=>((F9 p.1 l).1,p.2++[(F9 p.1 l).2])) (G5,[])
theorem HV{ls:List Λ}{k:Nat}{x:Λ}(h:ls[k]?= some x):nJ (ls.take (k+1))=((F9 (nJ (ls.take k)).1 x).1,(nJ (ls.take k)).2++[(F9 (nJ (ls.take k)).1 x).2]):=by
 unfold nJ;rw[zg,h,xk];rfl
theorem KB{line:Λ}{act:eS}{n:List Int}{s I:aO}(h:kB line=some (act,n))(hk:mI s)(ha:act s n=.ok I):mI I:=by
 unfold kB at h;split at h
 ·cases h
 ·split at h
  ·cases h
  ·rename_i l k act' hf;split at h
   ·obtain⟨m,_,hm⟩:=s_.1 h;cases hm;exact PQ hf hk ha
   ·cases h
theorem QR{s:aO}(hk:mI s)(line:Λ):mI (F9 s line).1:=by
 unfold F9;split
 ·exact hk
 ·rename_i act n h;split
  ·exact hk
  ·rename_i s' ha;split
   ·exact KB h hk ha
   ·exact hk
theorem G2:mI G5:=⟨Yu,Yu,Yu,Yu,Yu,Yu,Yu,Yu,Yu⟩
theorem aDK{q:Nat}{o:Obj}{ν B:aF}(h:(aF.ks ((q,o)::(ν++B))).Nodup):∀p∈ν,p.1∉[q]:=by
 intro p hp hm;obtain rfl:p.1=q:=ob
 exact(xg.1 h).1 (n5.2 ⟨p,yw _ hp,C⟩)
structure Pc where
 (k:Nat) (s:aO) (es:List Int) (pv cv hv lv mv bl bc yc yq v:Γ) (ν:aF) (Dn:aC)
theorem aCF(lv:Γ)(ls:List Λ)(D:aC)(hS:Sl D RS 1 lv ls)(hn:ls.length≤1000)(hsz:∀l∈ls,l.size≤1000)(hV:rK D):Fn prog 69 #[lv] D (λD' v=>∃V v2,v=.tuple #[V,v2]∧iE D' V (nJ ls).1∧Sl D' RI 1 v2 (nJ ls).2):=by
 refine Zx 31 func69 C λh0=>aA<|Zag C uK C λq1=>Zf C<|aJ<|Zz C (λD1 Z=>zS _) λV D1 Z hB=>?_;obtain⟨pv,cv,hv,O,mv,bl,bc,yc,yq,rfl,hL⟩:=hB;unfold dY;refine Zag C uK C (λq2=>Zab C fN ζ (gO hL)<|aJ<|Zf C<|bD<|Za C<|eQ C U22 C Yn C C zy<|Za C<|aE<|Za4<|fE (γ:=Pc) (λg=>ls.length-g.k) (λg=>g.k≤ls.length∧nJ (ls.take g.k)=(g.s,g.es)∧g.es.length=g.k∧bM 27 1 g.v g.k (ints g.es) g.ν∧kP g.Dn g.s g.pv g.cv g.hv g.lv g.mv g.bl g.bc g.yc g.yq∧mI g.s) (λg=>[(13,qI (g.k:Int)),(5,g.v)]) [(12,_),(11,_),(4,_),(3,_),(2,_)] (λg=>g.ν++[(q2,qC (dY g.s g.pv g.cv g.hv g.lv g.mv g.bl g.bc g.yc g.yq) 89),(q1,qC [qN,qN,qI 0,qI 0,qI 0,qN,qI 0,qN,qN,qI 0,qI 0,qI 0,qN,qN,qN,qI 0,qN] 89)]) (λg=>[g.Dn,D]) ⟨0,G5,[],pv,cv,hv,O,mv,bl,bc,yc,yq,qN,[],D1⟩ ⟨Yf,by simp[nJ],C,qz,hL,G2⟩ ⟨Ya,Ya,zy⟩ cE zp (ij) ?_);rintro⟨k,s,es,pv,cv,hv,lv,mv,bl,bc,yc,yq,v,ν,Dn⟩ ⟨h1,hp,h3,ha,hL,hk⟩;simp only at h1 hp h3 ha hL hk;refine aA<|Zal C<|bX<|Zae C (λhc1=>?_) λhc1=>?_
 ·simp only at hc1;have hlt:k<ls.length:=Yd
  obtain⟨x,hx⟩:=cF ls k;refine aP<|Za6<|Za4<|aA<|Zy C U22 lT C (hS.up RS.up (Le.refl _)) C hx λb1 o1 hE hF hcl1 hH=>?_;obtain rfl:hE=[.string _]:=hF;refine Zh 0 C yL C hH C<|Zf C<|aJ<|Zah C mM C (LT _ zu) fN<|Za C<|Zz C (λD2 R=>Wbe _ s x _ ⟨pv,cv,hv,lv,mv,bl,bc,yc,yq,C,hL.up (R _ Yf)⟩ hk (hsz x (GE hx)) (hV.up (R _ Yf))) λv2 D2 R hI=>?_;obtain⟨w1,rfl,hJ,hK,hN,O,hO,hP,hR,hX,hY,rfl,U⟩:=hI;have rA:=QR hk x;unfold dY;refine Za C<|Zar C<|Zar C<|Zag C uK C λY=>Zab C fN ζ (gO U)<|Zf C<|aE<|rM λhnd=>?_;have hnu:∀p∈ν,p.1∉[Y]:=aDK hnd;have hq3:Y∉dI.mk [Y]:=dI.out Yf;refine bK (dI.mk [Y]) 3 7 30<|bN C mM C zu fN Yo C zy<|Za C<|Za C<|Zu C U90 uJ SX C (.cons C C .nil) λb901 D901 rB I=>?_;have hS901:=Sl.ofInts (l:=[_]) (n:=1) (cap:=1) I C Yd Yd;refine aT (A:=[(_,_)]) (B:=[(_,_),(_,_)]) C U90 C C uJ SX C Xah C C C ha (kX.lit I) Yf C (by simp[ints,h3]) Ym Yd (zt λp hp=>dI.in_ (hnu p hp)) C zy λV ν1 ha1=>?_;have ha2:bM 27 1 V (k+1) (ints (es++[(F9 s x).2])) ν1:=by rw[←eL];exact ha1
  refine bB ((Y,_)::(ν1++[(q2,_),(q1,_)])) C<|Zab C fN (.tail (.app ζ)) (gO U)<|uz ?_;exact aK 22 ⟨k+1,(F9 s x).1,es++[(F9 s x).2],hJ,hK,hN,O,hO,hP,hR,hX,hY,V,ν1,D2⟩ ⟨Yl,by simp only;rw[HV hx,hp],by simp[h3],ha2,U,rA⟩ Yl ⟨Ya,Ya,zy⟩ C C (List.Sublist.cons _ zp) (ij)
 ·obtain rfl:k=ls.length:=by simp only at hc1;omega
  rw[ym]at hp;refine Za9<|Za5<|Za5<|Zba<|Za2<|aA<|Zah C mM C (LT _ zu) fN<|Za C<|Zab C fN (.app (.tail ζ)) (gO hL)<|Zf C<|aG<|dE (A:=[]) (B:=[(_,_),(_,_)]) ha C λD9 hD9 hF9=>?_;have hes:=hF9.ints (l:=es) h3 Yd;exact Zp [_,_] C ⟨⟨_,_,_,C,zb _ zu,zt ⟨mM,fN,C⟩⟩,C,zy⟩ λD hD=>⟨_,_,C,a1,by rw[hp];exact hes.up RI.up (hD _ Yf)⟩
def d_:aO:=⟨{places:=[],counts:=[],wrong:=0,off:=0},{last:=0,heights:=[],step:=0,levels:=[],marks:=[]},{chairs:=0,coin:=0,box:=0,lines:=[],counts:=[]},{chairs:=[],fit:=0,claims:=[]}⟩
def aR(ls:List Λ):aO×List Int×Int:=if fV ls=0 then((nJ ls).1,(nJ ls).2,0)else(d_,[],fV ls)
theorem qV{ls:List Λ}(h:fV ls=0):aR ls=((nJ ls).1,(nJ ls).2,0):=zo h
theorem tQ{ls:List Λ}(h:fV ls≠0):aR ls=(d_,[],fV ls):=zv h
theorem NY{ls:List Λ}(h:fV ls=0):ls.length≤40∧∀l∈ls,l.size≤50:=by
 unfold fV at h;split at h
 ·cases h
 ·rename_i h2;simp only[yg,LE,vt,wn,Bool.not_eq_false,yu]at h2;refine⟨Yd,λl hl=>?_⟩;have:=h2.2 l hl;omega
theorem OU{ls:List Λ}(h:fV ls=0):ls.length≤40:=(NY h).1
theorem XZ{ls:List Λ}(h:fV ls=0):∀l∈ls,l.size≤50:=(NY h).2
theorem Ybf(D:aC):iE D (.agg #[qN,qN,qI 0,qI 0,qI 0,qN,qI 0,qN,qN,qI 0,qI 0,qI 0,qN,qN,qN,qI 0,qN]) d_:=⟨_,_,_,_,_,_,_,_,_,C,⟨Sl.nil,Sl.nil,Sl.nil,Sl.nil,Sl.nil,Sl.nil,Sl.nil,Sl.nil,Sl.nil⟩⟩
theorem T2(ls:List Λ):mI (nJ ls).1:=by
 have:∀(ls:List Λ) (p:aO×List Int),mI p.1→mI (ls.foldl (λp l=>((F9 p.1 l).1,p.2++[(F9 p.1 l).2])) p).1:=by
  intro ls;induction ls with
  |nil=>exact λp h=>h
  |cons l ls ih=>exact λp h=>ih _ (QR h l)
 exact this ls _ G2
theorem VP(ls:List Λ)(h:(aR ls).2.2=0):mI (aR ls).1:=by
 by_cases hf:fV ls=0
 ·rw[qV hf];exact T2 ls
 ·rw[tQ hf]at h;exact absurd h hf
theorem IC(ls:List Λ):(aR ls).1.row.places.length≤7:=by
 by_cases hf:fV ls=0
 ·rw[qV hf];exact(T2 ls).pl
 ·rw[tQ hf];exact ra _
theorem JP(ls:List Λ):(aR ls).1.book.lines.length≤8:=by
 by_cases hf:fV ls=0
 ·rw[qV hf];exact(T2 ls).ln
 ·rw[tQ hf];exact ra _
def KJ(ls:List Λ):(Int×Int)×Int:=if(aR ls).2.2=0 then(if C3.J7 (aR ls).1.book (C1.gF ((aR ls).1.book.lines.length:Int) 0 ((aR ls).1.book.lines.length:Int))=0 then L3.AX (λs=>s.money) (aR ls).1.book (((aR ls).1.book.lines.length:Int)).toNat else(0,0),C3.J7 (aR ls).1.book (C1.gF ((aR ls).1.book.lines.length:Int) 0 ((aR ls).1.book.lines.length:Int)))else((0,0),(aR ls).2.2)
def u5(ls:List Λ):(Int×Int)×Int:=if(aR ls).2.2=0 then(if C1.eJ (aR ls).1.row (C1.rX (aR ls).1.row 0 (((aR ls).1.row.places.length:Int)-1))=0 then(C1.SK (C1.truths (aR ls).1.row) (0:Int).toNat (((aR ls).1.row.places.length:Int)-1).toNat,C1.UX (C1.truths (aR ls).1.row) (0:Int).toNat (((aR ls).1.row.places.length:Int)-1).toNat)else(0,0),C1.eJ (aR ls).1.row (C1.rX (aR ls).1.row 0 (((aR ls).1.row.places.length:Int)-1)))else((0,0),(aR ls).2.2)
theorem GD(lv:Γ)(ls:List Λ)(D:aC)(hS:Sl D RS 1 lv ls)(hV:rK D):Fn prog 23 #[lv] D (λD' v=>∃U v2,v=.tuple #[U,v2,qI (aR ls).2.2]∧iE D' U (aR ls).1∧Sl D' RI 1 v2 (aR ls).2.1):=by
 refine Zx 19 func23 C λh0=>aA<|Zag C uK C λY=>Zf C<|Zf C<|bD<|Za C<|Zd C (λZ O=>zW _ ls _ (hS.up RS.up (O _ Yf)))<|mu ?_;refine aE<|Zae C (λhc1=>?_) λhc1=>?_
 ·have hf:fV ls≠0:=xe
  refine aA<|lJ (cs:=[qN,qN,qI 0,qI 0,qI 0,qN,qI 0,qN,qN,qI 0,qI 0,qI 0,qN,qN,qN,qI 0,qN]) C Wce uK C Yg C zy<|Za C<|fG C C C C fN Yb Yb ζ Ym zy<|Zf C<|Wi ?_;exact Zp [_,_,_] C ⟨⟨_,_,_,C,zu,Or.inr ⟨mM,fN,C⟩⟩,C,C,zy⟩ λD hD=>⟨_,_,by rw[tQ hf];rfl,by rw[tQ hf];exact Ybf D,by rw[tQ hf];exact Sl.nil⟩
 ·have hf:fV ls=0:=xe
  refine aP<|aA<|Za C<|Zz C (λV I=>aCF _ ls _ (hS.up RS.up (I _ Yf)) (by have:=OU hf;omega) (λl hl=>by have:=XZ hf l hl;omega) (hV.up (I _ Yf))) λv2 V I R=>?_;obtain⟨w1,w2,rfl,⟨pv,cv,hv,lv,mv,bl,bc,yc,yq,rfl,hL⟩,hes⟩:=R;unfold dY;refine Za C<|Zar C<|Zar C<|Zab C fN ζ (gO hL)<|Zf C<|aJ<|Zah C mM C zu fN<|Za C<|Zab C fN ζ (gO hL)<|tg ?_;exact Zp [_,_,_] C ⟨⟨_,_,_,C,zu,Or.inr ⟨mM,fN,C⟩⟩,C,C,zy⟩ λD hD=>⟨_,_,by rw[qV hf]<;>rfl,by rw[qV hf];exact⟨pv,cv,hv,lv,mv,bl,bc,yc,yq,C,hL.up (hD _ Yf)⟩,by rw[qV hf];exact hes.up RI.up (hD _ Yf)⟩
theorem LC(rv:Γ)(r:C1.dG)(i j:Int)(D:aC)(hr:nS D rv r):Fn prog 26 #[rv,qI i,qI j] D (λ_ v=>v=.tuple #[nA (if C1.eJ r (C1.rX r i j)=0 then(C1.SK (C1.truths r) i.toNat j.toNat,C1.UX (C1.truths r) i.toNat j.toNat)else(0,0)),qI (C1.eJ r (C1.rX r i j))]):=
 (L1.CS rv r i j D hr).mono λD' v _ h=>by rw[h];split<;>rfl
theorem x8(lv:Γ)(ls:List Λ)(D:aC)(hS:Sl D RS 1 lv ls)(hV:rK D):Fn prog 8 #[lv] D (λ_ v=>v=.tuple #[nA (KJ ls).1,qI (KJ ls).2]):=by
 refine Zx 26 func8 C λh0=>aA<|Zag C qJ C λZ=>Zf C<|aJ<|Za C<|Zz C (λY I=>GD _ ls _ (hS.up RS.up (I _ Yf)) (hV.up (I _ Yf))) λv1 Y I O=>?_;obtain⟨w1,w2,rfl,⟨pv,cv,hv,lv,mv,bl,bc,yc,yq,rfl,hL⟩,hes⟩:=O;unfold dY;have hst:(aR ls).2.2=0→mI (aR ls).1:=VP ls;have U:(aR ls).1.row.places.length≤7:=IC ls;have V:(aR ls).1.book.lines.length≤8:=JP ls;refine Za C<|Zar C<|Zar C<|Zar C<|Zag C uK C λq2=>g5 ?_;refine Zae C (λhc1=>?_) λhc1=>?_
 ·have hf:(aR ls).2.2≠0:=xe
  refine aA<|Zw [qI 0,qI 0] C DX qJ C<|Za C<|fG C C C C eY Yb Yb (.tail ζ) Ym zy<|Wi ?_;exact Zp [_,_] C ⟨⟨_,_,_,C,zi,Or.inr ⟨qO,eY,C⟩⟩,C,zy⟩ λD hD=>by unfold KJ;rw[zv hf];rfl
 ·have hf:(aR ls).2.2=0:=xe
  refine aP<|aA<|Zj C gJ C<|eW C gW fU C zu C C n4 C zy<|Zj C gJ C<|Zj C dX C<|Zq C iK C zu C<|Zaj C U80 C (hL.ln.up jQ.up (Le.refl _)) C<|Zd C (λD2 R=>L3.x8 _ (aR ls).1.book ((aR ls).1.book.lines.length:Int) _ (hL.book.up (R _ Yf)))<|Zar C<|Zar C<|fG C C C C eY Yb Yb (.tail ζ) Ym zy ?_;refine Wd ?_;exact Zp [_,_] C ⟨⟨_,_,_,C,zi,Or.inr ⟨qO,eY,C⟩⟩,C,zy⟩ λD hD=>by unfold KJ;rw[zo hf];rfl
theorem CS(lv:Γ)(ls:List Λ)(D:aC)(hS:Sl D RS 1 lv ls)(hV:rK D):Fn prog 10 #[lv] D (λ_ v=>v=.tuple #[nA (u5 ls).1,qI (u5 ls).2]):=by
 refine Zx 27 func10 C λh0=>aA<|Zag C uP C λZ=>Zf C<|aJ<|Za C<|Zz C (λY I=>GD _ ls _ (hS.up RS.up (I _ Yf)) (hV.up (I _ Yf))) λv1 Y I O=>?_;obtain⟨w1,w2,rfl,⟨pv,cv,hv,lv,mv,bl,bc,yc,yq,rfl,hL⟩,hes⟩:=O;unfold dY;have hst:(aR ls).2.2=0→mI (aR ls).1:=VP ls;have U:(aR ls).1.row.places.length≤7:=IC ls;have V:(aR ls).1.book.lines.length≤8:=JP ls;refine Za C<|Zar C<|Zar C<|Zar C<|Zag C uK C λq2=>g5 ?_;refine Zae C (λhc1=>?_) λhc1=>?_
 ·have hf:(aR ls).2.2≠0:=xe
  refine aA<|Zw [qI 0,qI 0] C JW uP C<|Za C<|fG C C C C jW Yb Yb (.tail ζ) Ym zy<|Wi ?_;exact Zp [_,_] C ⟨⟨_,_,_,C,zi,Or.inr ⟨L8,jW,C⟩⟩,C,zy⟩ λD hD=>by unfold u5;rw[zv hf];rfl
 ·have hf:(aR ls).2.2=0:=xe
  refine aP<|aA<|Zj C eD C<|eW C oL nH C zu C C n4 C zy<|Zj C eD C<|Zj C fQ C<|Zq C bW C zu C<|Zaj C U35 C (hL.pl.up RI.up (Le.refl _)) C<|Zax C<|Zd C (λD2 R=>LC _ (aR ls).1.row 0 (((aR ls).1.row.places.length:Int)-1) _ (hL.row.up (R _ Yf)))<|Zar C<|Zar C ?_;refine fG C C C C jW Yb Yb (.tail ζ) Ym zy<|Wd ?_;exact Zp [_,_] C ⟨⟨_,_,_,C,zi,Or.inr ⟨L8,jW,C⟩⟩,C,zy⟩ λD hD=>by unfold u5;rw[zo hf];rfl
end L12
variable{P:Program}{X:Cx}{γb:Type}[Membership Nat γb]{H:γb}{G:Array Oper}{K:Act→Δ→Prop}{Q:Exit→Act→Δ→Prop}
variable{T:bZ}{L:aF}{W:List aC}{os:List (Bool×Nat)}{fl:Bool}{ix:Nat}
variable{d:Nat}{x y z:Operand}{u v:Γ}{ty:Θ}{pos:String}{aft:Array Edge}{g:Option (Nat×Bool)}
theorem Kp{A B ν:aF}{t t1 e tr:Θ}{sz n m:Nat}{cells xs:List Γ}{xv:Γ}{z0:Γ}{ats:Array Θ}
  (ho:G[ix]?= some ⟨some d,.call {callee:=.builtin .append,args:=#[x,y],argTypes:=ats},tr,pos,aft,g⟩) (ht:P.underlying t=some (.slice e)) (hat:ats[0]?= some t) (I:ats[1]?= some t1) (R:P.underlying t1=some .string)
  (hs:TS P e sz) (hz:TZ P e z0) (U:Nat.beq z0.cells.size sz=true) (hi:(P.info? e).map (λi=>Nat.ble 1 i.bytes&&Nat.ble i.bytes 4096)=some true) (O:Nat.ble 1 sz=true)
  (hx:ev T x=some v) (hy:ev T y=some xv) (hacc:bM e sz v n cells ν) (hsrc:∀a w,Hl X T (A++ν++B) W a w→(Builtin.lenOf xv).run P w=.ok m w∧∀w',w'.heap=w.heap→(Builtin.firstCells sz m xv).run P w'=.ok xs.toArray w') (hxl:xs.length=m*sz) (hcl:cells.length=n*sz) (hx1:∀u∈xs,cell1 u=true) (hlen:n+m≤10000000)
  (hfl:fl=false∨∀p∈ν,p.1∈H) (hcapB:ZY v)
  (hN:Nat.blt d X.N=true) (hg:dF G T g)
  (kk:∀v' ν',bM e sz v' (n+m) (cells++xs) ν'→ZY v'→WL P X H G K Q os ((d,v')::T) (A++ν'++B) W):WL P X H G K Q ((fl,ix)::os) T (A++ν++B) W:=
 HR ho ht hat I (zq R) hs hz U hi O hx hy hacc hsrc hxl hcl hx1 hlen hfl hN hg λv' ν' h h2=>kk v' ν' h (h2 hcapB)
def bc(l:List UInt8):List Γ:=l.map λb=>.int .u8 b.toNat
theorem oO(l:List UInt8):(bc l).length=l.length:=by simp[bc]
theorem vZ(a b:List UInt8):bc (a++b)=bc a++bc b:=by simp[bc]
theorem mT(l:List UInt8):∀u∈bc l,cell1 u=true:=by
 intro u hu;obtain⟨b,_,rfl⟩:=n5.1 hu;rfl
theorem Oc{A B ν:aF}{t t1 e tr:Θ}{n:Nat}{cells:List Γ}{s:Λ}{z0:Γ}{ats:Array Θ}
  (ho:G[ix]?= some ⟨some d,.call {callee:=.builtin .append,args:=#[x,y],argTypes:=ats},tr,pos,aft,g⟩) (ht:P.underlying t=some (.slice e)) (hat:ats[0]?= some t) (I:ats[1]?= some t1) (O:P.underlying t1=some .string)
  (hs:TS P e 1) (hz:TZ P e z0) (R:Nat.beq z0.cells.size 1=true) (hi:(P.info? e).map (λi=>Nat.ble 1 i.bytes&&Nat.ble i.bytes 4096)=some true)
  (hx:ev T x=some v) (hy:ev T y=some (.string s)) (hacc:bM e 1 v n cells ν) (hcl:cells.length=n) (hlen:n+s.size≤10000000) (hfl:fl=false∨∀p∈ν,p.1∈H) (hcapB:ZY v) (hN:Nat.blt d X.N=true) (hg:dF G T g)
  (kk:∀v' ν',bM e 1 v' (n+s.size) (cells++bc s.data.toList) ν'→ZY v'→WL P X H G K Q os ((d,v')::T) (A++ν'++B) W):WL P X H G K Q ((fl,ix)::os) T (A++ν++B) W:=by
 refine Kp (m:=s.size) (xs:=bc s.data.toList) ho ht hat I O hs hz R hi C hx hy hacc (λa w _=>⟨C,λw' _=>?_⟩) (by rw[oO,xp];rfl) Yd (mT _) hlen hfl hcapB hN hg kk;exact Go.Lib.run_firstCells_string (P:=P) w' 1 s

theorem Ybe{t t' e:Θ}{p:Option Addr}(ho:G[ix]?= some ⟨some d,.binOp .eql t x y t',ty,pos,aft,g⟩)(ht:P.underlying t=some (.pointer e))(hx:ev T x=some (.pointer p))(hy:ev T y=some (.pointer none))(hN:Nat.blt d X.N=true)(hg:dF G T g)
  (kk:WL P X H G K Q os ((d,.bool p.isNone)::T) L W):WL P X H G K Q ((fl,ix)::os) T L W:=
 j3 ho (λw=>by
  have hgd:(eqGuard .eql t x y (.pointer p) (.pointer none)).run P w=.ok () w:=by
   simp only[eqGuard];simp[go_sem]
  have heq:(Op.equal t (.pointer p) (.pointer none)).run P w=.ok p.isNone w:=by
   show(Op.equalIn (9999+1) t (.pointer p) (.pointer none)).run P w=_;rw[Op.equalIn,Ω,TU.of ht w];cases p<;>rfl
  rw[Ω,hgd];show((do Pure.pure (Value.bool (←Op.equal t (.pointer p) (.pointer none)))):Sem Γ).run P w=_;rw[Ω,heq];rfl) hx hy hN hg kk
theorem Yba{t t' e sz b:Nat}(ho:G[ix]?= some ⟨some d,.binOp .neq t x y t',ty,pos,aft,g⟩)(ht:P.underlying t=some (.pointer e))(hs:TS P e sz)(hz:Nat.beq sz 0=false)(hx:ev T x=some (qP b))(hy:ev T y=some (qP b))(hN:Nat.blt d X.N=true)(hg:dF G T g)
  (kk:WL P X H G K Q os ((d,.bool false)::T) L W):WL P X H G K Q ((fl,ix)::os) T L W:=
 dr ho (λw=>by
  have hz':sz≠0:=λh=>by subst h;cases hz
  have hgd:(eqGuard .neq t x y (qP b) (qP b)).run P w=.ok () w:=by
   simp only[eqGuard];simp[go_sem]
  have heq:(Op.equal t (qP b) (qP b)).run P w=.ok true w:=by
   show(Op.equalIn (9999+1) t _ _).run P w=_;rw[Op.equalIn,Ω,TU.of ht w];show(do if(←sizeOf e)≠0 then sameAddr ⟨b,0,none⟩ ⟨b,0,none⟩else if((⟨b,0,none⟩:Addr)==⟨b,0,none⟩)=true then Pure.pure true else Pure.pure ((←choose .zeroSizeEq)=1):Sem Bool).run P w=_;rw[Ω,hs w];show(if sz≠0 then _ else _:Sem Bool).run P w=_;rw[zo hz'];simp[sameAddr,go_sem]
  rw[Ω,hgd];show((do Pure.pure (Value.bool (!(←Op.equal t (qP b) (qP b))))):Sem Γ).run P w=_;rw[Ω,heq];rfl) hx hy hN hg kk
theorem Mi{t1 t2 t e b:Θ}{vs:List Γ}(ho:G[ix]?= some ⟨some d,.convert t1 t2 x,ty,pos,aft,g⟩)(h1:P.underlying t1=some (.pointer t))(h2:P.underlying t2=some .unsafePointer)(ht:(P.info? t).map (λj=>Nat.beq j.size 0)=some false)(hx:ev T x=some (qP b))
  (hm:(b,.cells vs.toArray e (0,0))∈L) (hv:Nat.beq vs.length 0=false) (hb:b∉H) (hN:Nat.blt d X.N=true) (hg:dF G T g) (kk:WL P X H G K Q os ((d,qP b)::T) L W):WL P X H G K Q ((fl,ix)::os) T L W:=
 qA ho C C hN hg (λa w hh w' hk=>by
  obtain⟨j,hj,I⟩:=s_.1 ht;have hbx:=hh.boxAt hm hb hk;have hl:0<vs.length:=by
   cases h:vs.length with
   |zero=>rw[h]at hv;cases hv
   |succ n=>omega
  have:=Go.Lib.run_to_unsafe (P:=P) (w:=w') (e:=e) (cells:=vs.length) ⟨b,0,none⟩ h1 h2 hj (λh=>by rw[h]at I;cases I) (by simp[World.shape?,hbx]) hl;simp only[execOp,hh.eval hx];rw[Ω,this];rfl) kk
theorem VB{t1 t2 t e b:Θ}{vs:List Γ}(ho:G[ix]?= some ⟨some d,.convert t1 t2 x,ty,pos,aft,g⟩)(h1:P.underlying t1=some .unsafePointer)(h2:P.underlying t2=some (.pointer t))(ht:(P.info? t).isSome=true)(hx:ev T x=some (qP b))
  (hm:(b,.cells vs.toArray e (0,0))∈L) (hl:liesAt P P.depth e (vs.length / P.cellsOf e) 0 t 1=true) (hb:b∉H) (hN:Nat.blt d X.N=true) (hg:dF G T g) (kk:WL P X H G K Q os ((d,qP b)::T) L W):WL P X H G K Q ((fl,ix)::os) T L W:=
 qA ho C C hN hg (λa w hh w' hk=>by
  obtain⟨j,hj⟩:=Option.isSome_iff_exists.1 ht;have hbx:=hh.boxAt hm hb hk;have:=Go.Lib.run_from_unsafe (P:=P) (w:=w') (e:=e) (cells:=vs.length) ⟨b,0,none⟩ h1 h2 hj (by simp[World.shape?,hbx]) hl;simp only[execOp,hh.eval hx];rw[Ω,this];rfl) kk
theorem Ko{c:Operand}{xs:Array Operand}{ats:Array Θ}{f:FuncId}{fn:Func}(ho:G[ix]?= some ⟨some d,.call {callee:=.value c,args:=xs,argTypes:=ats},ty,pos,aft,g⟩)(hc:ev T c=some (.func (.func f) #[] #[]))(hxs:CM T xs.toList=some [v])
  (hf:P.funcs[f]?= some fn) (hname:(fn.name== "runtime.NumGoroutine")=false) (hb:fn.body.isNone=true) (hn:Extern.findNext fn=none) (he:Extern.find fn=some Extern.AbiNoEscape.same) (hN:Nat.blt d X.N=true) (hg:dF G T g)
  (kk:WL P X H G K Q os ((d,v)::T) L W):WL P X H G K Q ((fl,ix)::os) T L W:=by
 refine fW ho C C hg λa w hh=>?_
 have e:(execOp a.eval ⟨some d,.call {callee:=.value c,args:=xs,argTypes:=ats},ty,pos,aft,g⟩).run P w=.ok (.value v) w:=by
  have I:xs.map a.eval=#[v]:=by
   have:=mY (λ_ _ hx=>hh.eval hx) hxs;rw[show #[v]=[v].toArray from C,←this,←ou]
  simp only[execOp,resolve,hh.eval hc,Deferred.ofValue,pure_bind,invoke,I];show(callFunc f #[v]).run P w=_;rw[Go.run_callFunc_extern hf hname hb hn he];rfl
 rw[e];exact⟨λ_=>rL.refl _ _,kk _ _ (hh.put hN v)⟩
theorem HP{c:Operand}{xs:Array Operand}{ats:Array Θ}{f:FuncId}{c1 c2 vs:List Γ}{post:Γ→Prop}(ho:G[ix]?= some ⟨some d,.call {callee:=.value c,args:=xs,argTypes:=ats},ty,pos,aft,g⟩)(hc:ev T c=some (.func (.func f) c1.toArray c2.toArray))(hxs:CM T xs.toList=some vs)
  (hex:X.ex=none) (hEF:EF P f) (hf:∀D w,jH X.h0 X.lo X.D0 X.mods L D w→Calls P f (c1++vs++c2).toArray w λe w'=>∃r,e=.returned r∧Go.RowKit.Below (max 1 X.h0.size) w w'∧post r) (hN:Nat.blt d X.N=true) (hg:dF G T g)
  (kk:∀r,post r→WL P X H G K Q os ((d,r)::T) [] []):WL P X H G K Q ((false,ix)::os) T L W:=by
 refine fW ho C C hg λa w hh=>?_
 obtain⟨h1,h2,h3,D,h4,h5,R⟩:=id hh;rw[zR hEF (hh.eval hc) (mY (λ_ _ hx=>hh.eval hx) hxs)];refine⟨λh=>vk,eC.2 ((hf D w h4).mono ?_)⟩;rintro e w' ⟨r,rfl,hb,hp⟩;refine⟨(λh=>wg),kk r hp _ _ (Hl.put ⟨h1,h2,h3,λb=>if b<max 1 X.h0.size then D b else [],?_,(λD₁ h=>wg),kw⟩ hN r)⟩
 have I:(if 0<max 1 X.h0.size then D 0 else [])=D 0:=zo Yd;refine⟨h4.hlo,xj h4.size hb.size,λb hl hm=>(hb.block b Yd).trans (h4.old b hl hm),λb hl=>?_,h4.agr.of (λb hne=>?_) I (hb.block 0 Yd),Yi,wz,Yi,λe he=>?_⟩
 ·rw[zo Yd];exact h4.dold b hl
 ·by_cases hl:b<max 1 X.h0.size
  ·rw[zo hl]at hne ⊢
   obtain⟨cs,e,fz,O,k2⟩:=h4.agr.1 b hne;exact⟨cs,e,fz,by rw[hb.block b hl];exact O,k2⟩
  ·rw[zv hl]at hne;exact absurd C hne
 ·rw[←h4.env e he];exact Prod.ext hb.os hb.output
namespace L12
open C12 Go.Lib
def gE(b:Nat)(l:List UInt8)(ν:aF):Prop:=∃p v ν1,ν=(b,qC [.pointer p,v] 112)::ν1∧(p=none∨p=some ⟨b,0,none⟩)∧bM 5 1 v l.length (bc l) ν1∧ZY v
theorem gE.unf{b:Nat}{l:List UInt8}{ν:aF}(h:gE b l ν):∀p∈ν,dH p.2:=by
 obtain⟨p,v,ν1,rfl,_,ha,_⟩:=h;exact N9 ha
def tU(w:List UInt8)(lo hi:Int):List UInt8:=w++[32]++itoa lo++[46,46]++itoa hi++[10]
def BA(w:List UInt8)(n:Int):List UInt8:=w++[32]++itoa n++[10]
theorem uB(l:List UInt8):(rN l).size=l.length:=rfl
theorem R7(a:Array UInt8):(⟨a⟩:Λ).size=a.size:=rfl
theorem OZ(a b:Λ):(a++b).data.toList=a.data.toList++b.data.toList:=Yf
theorem TG(u:Nat)(h:u≤100000):(decDigits u).length≤6:=by
 rw[decDigits];split
 ·simp
 ·rw[decDigits];split
  ·simp
  ·rw[decDigits];split
   ·simp
   ·rw[decDigits];split
    ·simp
    ·rw[decDigits];split
     ·simp
     ·rw[decDigits];split
      ·simp
      ·omega
theorem mN{n:Int}(h1: -1000≤n)(h2:n≤100000):(itoa n).length≤7:=by
 unfold itoa;split
 ·rw[zh];have:=TG n.natAbs Yd;omega
 ·first|(have:=TG n.toNat Yd;omega)|(have:=TG n.natAbs Yd;omega)
theorem QW(b:Nat)(p:Option Addr)(v:Γ)(hp:p=none∨p=some ⟨b,0,none⟩)(D:aC):lA prog 90 [qP b] D [(b,qC [.pointer p,v] 112)] (λ_ _ ν'=>ν'=[(b,qC [qP b,v] 112)]) (λ_=>False):=by
 refine eR 20 func90 C C C C λh0 hwl hwn=>aA<|Za C<|Zao C<|Zj C DW C<|Zq C Vf C zu C<|Ybe C U110 C C C zy<|aE<|Zai C (λhc1=>?_) λhc1=>?_
 ·obtain rfl:p=none:=xe
  refine aM<|Za C<|Za C<|Mi C U110 U271 Yg C zu C n4 C zy<|Ko (f:=151) C C C func151 Yg Yg Yg Yg C zy<|VB C U271 U110 Yg C zu Yg n4 C zy<|Zao C<|Zj C DW C<|Zs C Uq ζ C<|Zap ?_;exact O8 (A:=[]) (ν':=[_]) (B:=[]) (vs:=[]) C C C zy λD' hD=>C
 ·obtain rfl:p=some ⟨b,0,none⟩:=hp.resolve_left (by rintro rfl;cases hc1);refine aA<|Za C<|Zao C<|Zj C DW C<|Zq C Vf C zu C<|Za C<|Yba C U110 Xdh C C C C zy<|aE<|Zai C (λhc2=>?_) (λhc2=>?_)
  ·cases hc2
  ·refine bE ?_;exact O8 (A:=[]) (ν':=[_]) (B:=[]) (vs:=[]) C C C zy λD' hD=>C
theorem oN(b:Nat)(s:Λ)(l:List UInt8)(ν:aF)(D:aC)(hb:gE b l ν)(hl:l.length+s.size≤10000000):lA prog 42 [qP b,.string s] D ν (λ_ _ ν'=>gE b (l++s.data.toList) ν') (λ_=>False):=by
 obtain⟨p,v,ν1,rfl,hp,ha,hcb⟩:=hb;refine eR 19 func42 C C C C λh0 hwl hwn=>aA<|Zf C<|Zf C<|aJ<|Za C<|Zn [] ν1 [(b,_)] C (λp hp=>by simp only[yf]at hp;subst hp;rfl) (λV R=>QW b p v hp _) (λ_ _ _ h=>h.elim) λv5 Y ν5 R hp5=>?_
 subst hp5;refine aJ<|Za C<|Za C<|Zao C<|Zj C NU C<|Zq C Xav C zu C<|Za C<|bB ([(b,qC [qP b,v] 112)]++ν1++[]) Yf<|Oc (A:=[(b,_)]) (B:=[]) C U70 C C U9 mU YZ C d7 C C ha (oO _) hl (zq C) hcb C zy λU ν7 I O=>bB ((b,qC [qP b,v] 112)::ν7) Yf<|Zao C<|Zj C NU C ?_;refine Zt [qP b,U] C I.cells1 Qp .head C I.cell1<|aJ<|Za C<|kS C U9 C C C zy<|tg ?_;refine λa w hh=>O8 (P:=prog) (fn:=f42) (A:=[]) (ν':=(b,_)::ν7) (B:=[]) (vs:=[_,_]) C C C cE (λD' hD=>⟨_,U,ν7,C,zt C,by rw[zf,vZ];exact I,O⟩) a w (hh.boxesEq (yr _).symm)
theorem T5(w:Λ)(lo hi:Int)(b:Nat)(l:List UInt8)(ν:aF)(D:aC)(hV:rK D)(hw:w.size≤10)(hlo: -1000≤lo∧lo≤100000)(hhi: -1000≤hi∧hi≤100000)(hb:gE b l ν)(hl:l.length≤1000000):lA prog 41 [.string w,qI lo,qI hi,qP b] D ν (λ_ _ ν'=>gE b (l++tU w.data.toList lo hi) ν') (λ_=>False):=by
 have hilo:=mN hlo.1 hlo.2;have hihi:=mN hhi.1 hhi.2;refine eR 18 func41 C C C C (λh0 hwl hwn=>aM<|Za C<|oP C C C (by first|omega|(simp only[R7,wd,zh,wp];omega)) rfl zy<|Za rfl<|Zd rfl (λY I=>AJ lo Ye _ (hV.up (I _ Yf)))<|oP C C C Yt C zy<|oP C C C Yt C zy<|Za C<|Zd C (λZ O=>AJ hi Ye _ (hV.up (O _ Yf)))<|oP C C C Yt C zy<|oP C C C Yt C zy ?_);refine bB ([]++ν++[]) Yf<|Zn [] [] ν C hb.unf (λD9 R=>oN b _ l ν _ hb Xv) (λ_ _ _ h=>h.elim) λv9 D10 V R U=>bB V Yf<|Zap ?_;refine λa w hh=>O8 (P:=prog) (fn:=f41) (A:=[]) (ν':=V) (B:=[]) (vs:=[]) C C C zy (λD' hD=>by simpa [tU,BA,rN,OZ]using U) a w (hh.boxesEq Yf)
theorem QN(w:Λ)(m:Int)(b:Nat)(l:List UInt8)(ν:aF)(D:aC)(hV:rK D)(hw:w.size≤10)(hm: -1000≤m∧m≤100000)(hb:gE b l ν)(hl:l.length≤1000000):lA prog 44 [.string w,qI m,qP b] D ν (λ_ _ ν'=>gE b (l++BA w.data.toList m) ν') (λ_=>False):=by
 have him:=mN hm.1 hm.2;refine eR 12 func44 C C C C λh0 hwl hwn=>aM<|Za C<|oP C C C (by first|omega|(simp only[R7,wd,zh,wp];omega)) rfl zy<|Za rfl<|Zd rfl (λV I=>AJ m Ye _ (hV.up (I _ Yf)))<|oP C C C Yt C zy<|oP C C C Yt C zy<|bB ([]++ν++[]) Yf<|Zn [] [] ν C hb.unf (λY O=>oN b _ l ν _ hb Xv) (λ_ _ _ h=>h.elim) λv9 D10 U O R=>bB U Yf<|Zap ?_
 refine λa w hh=>O8 (P:=prog) (fn:=f44) (A:=[]) (ν':=U) (B:=[]) (vs:=[]) C C C zy (λD' hD=>by simpa [tU,BA,rN,OZ]using R) a w (hh.boxesEq Yf)
def NB(x:Int):Prop:= -1000≤x∧x≤100000
def PB(s:aO):Int×Int:=if C1.eJ s.row (C1.rX s.row 0 ((s.row.places.length:Int)-1))=0 then(C1.SK (C1.truths s.row) (0:Int).toNat ((s.row.places.length:Int)-1).toNat,C1.UX (C1.truths s.row) (0:Int).toNat ((s.row.places.length:Int)-1).toNat)else(0,0)
def I6(s:aO)(k:Nat):Int×Int:=if C2.nG s.table (C1.gF (k:Int) 0 ((s.table.levels.length:Int)-1))=0 then C2.aZE s.table (s.table.levels.getD (k:Int).toNat 0)else(0,0)
def JB(s:aO):Int:=if C2.nG s.table (C2.sK s.table.last 0 s.table.last)=0 then C2.bSH s.table 0 s.table.last else 0
def jZ(s:aO):Int×Int:=if C3.J7 s.book (C1.gF (s.book.lines.length:Int) 0 (s.book.lines.length:Int))=0 then L3.AX (λs=>s.money) s.book (s.book.lines.length:Int).toNat else(0,0)
def kK(s:aO):Int×Int:=if C3.J7 s.book true=0 then L3.AX (λs=>s.mixed) s.book s.book.lines.length else(0,0)
structure WM(s:aO):Prop where
 ch:NB (PB s).1∧NB (PB s).2
 le:NB (C1.pF s.row)
 wet:∀k,k<s.table.levels.length→NB (I6 s k).1∧NB (I6 s k).2
 dry:NB (JB s)
 lv:∀x∈(L3.cS s.book).1,NB x
 lvn:(L3.cS s.book).1.length≤100
 lev:s.table.levels.length≤6
 mon:NB (jZ s).1∧NB (jZ s).2
 mix:NB (kK s).1∧NB (kK s).2
 wh:NB (L7.dS s.yard).1.1∧NB (L7.dS s.yard).1.2
 su:NB (L7.jO s.yard).2.1
def r1(s:aO):List UInt8:=tU [99,104,97,105,114,115] (PB s).1 (PB s).2
def r2(s:aO):List UInt8:=r1 s++BA [108,101,97,115,116] (C1.pF s.row)
def r3(s:aO)(k:Nat):List UInt8:=r2 s++(List.range k).flatMap λi=>tU [119,101,116] (I6 s i).1 (I6 s i).2
def r4(s:aO):List UInt8:=r3 s s.table.levels.length++BA [100,114,121] (JB s)
def r5(s:aO):List UInt8:=r4 s++[108,101,97,118,101]
def r6(s:aO)(k:Nat):List UInt8:=r5 s++((L3.cS s.book).1.take k).flatMap λi=>32::itoa i
def r7(s:aO):List UInt8:=r6 s (L3.cS s.book).1.length++[10]
def pm(s:aO):List UInt8:=r7 s++tU [109,111,110,101,121] (jZ s).1 (jZ s).2
def r8(s:aO):List UInt8:=if(L3.cS s.book).1=[]then pm s++tU [109,105,120,101,100] (kK s).1 (kK s).2 else r7 s
def r9(s:aO):List UInt8:=r8 s++tU [119,104,111,108,101] (L7.dS s.yard).1.1 (L7.dS s.yard).1.2
def mH(s:aO):List UInt8:=r9 s++BA [115,117,114,101] (L7.jO s.yard).2.1
def vG(ls:List Λ):List UInt8×Int:=if(aR ls).2.2=0 then(mH (aR ls).1,0)else([],(aR ls).2.2)
section
variable{s:aO}
theorem Wbl:r1 s=[]++tU [99,104,97,105,114,115] (PB s).1 (PB s).2:=rfl
theorem Wax:r2 s=r1 s++BA [108,101,97,115,116] (C1.pF s.row):=rfl
theorem Waq:r4 s=r3 s s.table.levels.length++BA [100,114,121] (JB s):=rfl
theorem Wbd:r5 s=r4 s++[108,101,97,118,101]:=rfl
theorem Was:r7 s=r6 s (L3.cS s.book).1.length++[10]:=rfl
theorem TB{k:Nat}:r3 s (k+1)=r3 s k++tU [119,101,116] (I6 s k).1 (I6 s k).2:=by unfold r3;rw[yb,xl,um,yy]
theorem Sq{k:Nat}{x:Int}(h:(L3.cS s.book).1[k]?= some x):r6 s (k+1)=r6 s k++((⟨#[32]⟩:Λ)++rN (itoa x)).data.toList:=by
 unfold r6;rw[zg,h]
 simp[rN]
theorem Qy(h:(L3.cS s.book).1=[]):r8 s=pm s++tU [109,105,120,101,100] (kK s).1 (kK s).2:=zo h
theorem Pf(h:(L3.cS s.book).1≠[]):r8 s=r7 s:=zv h
theorem G7(s:aO):mH s≠[]:=by unfold mH BA;simp
theorem N8{w:List UInt8}{lo hi:Int}(h:NB lo∧NB hi):(tU w lo hi).length≤w.length+18:=by
 have h1:=mN h.1.1 h.1.2;have h2:=mN h.2.1 h.2.2
 simp only[tU,zf,zh,wp];omega
theorem St{w:List UInt8}{n:Int}(h:NB n):(BA w n).length≤w.length+9:=by
 have h1:=mN h.1 h.2;simp only[BA,zf,zh,wp];omega
variable(h:WM s)
include h
theorem Rp:(r1 s).length≤30:=by have:=N8 (w:=[99,104,97,105,114,115]) h.ch;unfold r1;simp only[zh,wp]at this;omega
theorem Wbv:(r2 s).length≤60:=by have:=St (w:=[108,101,97,115,116]) h.le;have h1:=Rp h;unfold r2;simp only[zh,wp]at this;rw[zf];omega
theorem CX:∀k,k≤s.table.levels.length→(r3 s k).length≤60+30*k
 |0,_=>by have:=Wbv h;unfold r3;simpa using this
 |k+1,hk=>by
  have:=CX k Yd;have h2:=N8 (w:=[119,101,116]) (h.wet k Yd);rw[TB,zf];simp only[zh,wp]at h2;omega
theorem Ru:(r4 s).length≤300:=by have h1:=CX h _ (zk _);have h0:=h.lev;have:=St (w:=[100,114,121]) h.dry;unfold r4;simp only[zh,wp]at this;rw[zf];omega
theorem Xaz:(r5 s).length≤310:=by have h1:=Ru h;unfold r5;rw[zf];simp only[zh,wp];omega
theorem LO(k:Nat):(r6 s k).length≤1200:=by
 have h1:=Xaz h;have key:∀l:List Int,(∀x∈l,NB x)→(l.flatMap λi=>32::itoa i).length≤8*l.length:=by
  intro l;induction l with
  |nil=>intro _;simp
  |cons a l ih=>
   intro hl;have h1:=mN (hl a Yf).1 (hl a Yf).2;have h2:=ih λx hx=>hl x (by simp[hx])
   rw[xy,zf];simp only[zh];omega
 have h2:=key ((L3.cS s.book).1.take k) λx hx=>h.lv x (pd hx)
 have h3:=h.lvn;have h4:((L3.cS s.book).1.take k).length≤100:=by rw[wq];omega
 unfold r6;rw[zf];omega
theorem UN:(r7 s).length≤1300:=by have h1:=LO h (L3.cS s.book).1.length;unfold r7;rw[zf];simp only[zh,wp];omega
theorem U_:(pm s).length≤1400:=by have h1:=UN h;have:=N8 (w:=[109,111,110,101,121]) h.mon;unfold pm;simp only[zh,wp]at this;rw[zf];omega
theorem VF:(r8 s).length≤1500:=by
 unfold r8;split
 ·have h1:=U_ h;have:=N8 (w:=[109,105,120,101,100]) h.mix;simp only[zh,wp]at this;rw[zf];omega
 ·have h1:=UN h;omega
theorem Rs:(r9 s).length≤1600:=by have h1:=VF h;have:=N8 (w:=[119,104,111,108,101]) h.wh;unfold r9;simp only[zh,wp]at this;rw[zf];omega
end
theorem QC{x:Int}(h:NB x):((⟨#[32]⟩:Λ)++rN (itoa x)).size≤10:=by
 have:=mN h.1 h.2;rw[na,uB,R7];simp only[wd,zh,wp];omega
theorem W1{b:Nat}{l:List UInt8}{ν B:aF}{h0:H0}{lo:Nat}{D0 D:aC}{w:Δ}(h:gE b l ν)(hl:l≠[])(hs:jH h0 lo D0 [] (ν++B) D w):IsBuilder 112 5 (max 1 h0.size) b (byteCells l) w∧max 1 h0.size≤w.heap.size:=by
 obtain⟨p,v,ν1,rfl,hp,ha,hcb⟩:=h;have hlen:0<l.length:=sn.2 hl;obtain⟨g,cap,junk,rfl,hcap,rfl,h1,h2⟩:=ha.some hlen;obtain⟨I,k2,O⟩:=hs.box _ (yw _ zj);obtain⟨g1,g2,g3⟩:=hs.box _ (yw _ (GT _ zj));have hlo:=hs.hlo;have kb:=hs.agr.ne0 k2;have gb:=hs.agr.ne0 g2
 have hk:lo≤b:=O.resolve_right Yf;have hg:lo≤g:=g3.resolve_right Yf;have hne:g≠b:=λe=>by
  have:=hs.nd;simp[e]at this
 have hat:BuilderAt 112 5 (max 1 h0.size) b (.pointer p) (byteCells l) w:=by
  refine⟨Yd,_,I,⟨by rw[byteCells_length];omega,zt ⟨g,cap,(bc l++junk).toArray,by rw[byteCells_length],Yd,g1,by rw[byteCells_length];exact hcap,hcb _ _ _ C,rt,?_⟩⟩,by simp[Value.ownBlock];exact hne⟩;rw[byteCells_length];show(bc l++junk).take (l.length*1)=bc l;rw[←h1,qi]
 refine⟨?_,?_⟩
 ·rcases hp with rfl|rfl
  ·exact zq hat
  ·exact zt hat
 ·have:=bR I;omega
theorem OQ(lv:Γ)(ls:List Λ)(D:aC)(hS:Sl D RS 1 lv ls)(hV:rK D)(hR0:(aR ls).2.2=0→WM (aR ls).1):Fn prog 17 #[lv] D (λ_ v=>v=.tuple #[.string (rN (vG ls).1),qI (vG ls).2]):=by
 refine Zx 175 func17 C λh0=>aA<|Zf C<|Zf C<|aJ<|Za C<|Zz C (λD1 hD1=>GD _ ls _ (hS.up RS.up (hD1 _ Yf)) (hV.up (hD1 _ Yf))) λv1 D1 hD1 hp1=>?_;obtain⟨w1,w2,rfl,⟨pv,cv,hv,lv,mv,bl,bc,yc,yq,rfl,hL⟩,hes⟩:=hp1;have hpl7:(aR ls).1.row.places.length≤7:=IC ls;have hln8:(aR ls).1.book.lines.length≤8:=JP ls;unfold dY;refine Za C<|Zar C<|Zar C<|Zar C<|Zag C uK C λR=>g5 ?_;refine Zae C (λhc1=>?_) λhc1=>?_
 ·have hf:(aR ls).2.2≠0:=xe
  refine qg ?_;exact Zp [_,_] C cE λD hD=>by unfold vG;rw[zv hf];rfl
 ·have hf:(aR ls).2.2=0:=xe
  have hR:=hR0 hf;have hlev6:=hR.lev;have hlvn:=hR.lvn;refine aP<|aA<|Zag C Xdm C λI=>aJ<|Za1 C<|Zf C<|aJ<|Za1 C<|Zf C<|bX ?_;have hbb0:gE I [] [(I,qC [.pointer none,qN] 112)]:=⟨none,_,[],C,zq C,bM.nil,GI Yu⟩
  refine aM<|Zj C eD C<|eW C oL nH C zi C C n4 C zy<|Zj C eD C<|Zj C fQ C<|Zq C bW C zi C<|Zaj C U35 C (hL.pl.up RI.up (Le.refl _)) C<|Zax C<|Zd C (λD2 hD2=>LC _ (aR ls).1.row 0 (((aR ls).1.row.places.length:Int)-1) _ (hL.row.up (hD2 _ Yf)))<|Za C<|Zar C<|Zar C ?_;refine Zag C uP C λq3=>Zaa C jW ζ<|Zf C<|aJ<|Za C<|Zj C WH C<|Zq C aH C zu C<|Zj C Xq C<|Zq C aH C zu C<|HB (List.Sublist.cons _ zp)<|Zn [] [(R,_)] [(I,_)] C hbb0.unf (λD20 hD20=>T5 ⟨#[99,104,97,105,114,115]⟩ (PB (aR ls).1).1 (PB (aR ls).1).2 I ([]) [(I,_)] _ (hV.up (hD20 _ Yf)) Yu hR.ch.1 hR.ch.2 hbb0 (by have:=(show([]:List UInt8).length≤0 from zk 0);omega)) (λ_ _ _ h=>h.elim) λv20 D21 hP hD21 U=>bB ((hP++[(R,qC (dY (aR ls).1 pv cv hv lv mv bl bc yc yq) 89)])) C ?_
  replace U:gE I (r1 (aR ls).1) hP:=by first|exact U|(rw[Wbl];exact U)|(simpa [r1]using U)
  refine aJ<|Zj C eD C<|eW C oL nH C (LT _ zu) C C n4 C zy<|Zd C (λD3 hD3=>L1.aTE _ (aR ls).1.row _ (hL.row.up (hD3 _ Yf)))<|Za C<|Zar C<|Zar C<|Zf C<|Zf C<|aJ<|ub ?_;refine Zn [] [(R,_)] hP C U.unf (λD22 hD22=>QN ⟨#[108,101,97,115,116]⟩ (C1.pF (aR ls).1.row) I (r1 (aR ls).1) hP _ (hV.up (hD22 _ Yf)) Yu hR.le U (by have:=Rp hR;omega)) (λ_ _ _ h=>h.elim) λv22 D23 ν22 hD23 hH=>bB ((ν22++[(R,qC (dY (aR ls).1 pv cv hv lv mv bl bc yc yq) 89)])) C ?_
  replace hH:gE I (r2 (aR ls).1) ν22:=by first|exact hH|(rw[Wax];exact hH)|(simpa [r2]using hH)
  refine bD<|Zj C dK C<|Zj C mX C<|Zq C bW C (LT _ zu) C<|Zaj C U35 C (hL.lev.up RI.up (Le.refl _)) C<|Za C<|aE<|Za4<|Zc (Nat×aF) (λg=>(aR ls).1.table.levels.length-g.1) (λg=>g.1≤(aR ls).1.table.levels.length∧gE I (r3 (aR ls).1 g.1) g.2) (λg=>[(73,qI (g.1:Int))]) [(72,_),(9,_),(8,_),(7,_),(4,_),(3,_),(2,_)] (λg=>g.2++[(R,qC (dY (aR ls).1 pv cv hv lv mv bl bc yc yq) 89)]) (λg=>[D23,D21,D1,D]) (0,ν22) ⟨Yf,by simpa [r3]using hH⟩ ⟨Ya,zy⟩ zp ?_;rintro⟨k,ν⟩ ⟨h1,hbv⟩;simp only at h1 hbv;refine aA<|Zal C<|bX<|Zae C (λhc2=>?_) λhc2=>?_
  ·simp only at hc2;have hkl:k<(aR ls).1.table.levels.length:=Yd
   refine aP<|Za6<|Za4<|aA<|Za C<|Zf C<|aJ<|Zj C dK C<|eW C lR kF C (LT _ zu) C C n4 C zy<|Za C<|Zd C (λD4 hD4=>L2.aTO _ (aR ls).1.table (k:Int) _ (hL.table.up (hD4 _ Yf)))<|Za C ?_;refine Zar C<|Zar C<|Zag C iO C λq4=>Zaa C cR ζ<|Zf C<|aE<|aM<|Za C<|Zj C sY C<|Zq C aH C zu C<|Zj C vV C<|Zq C aH C zu C ?_;refine HB (List.Sublist.cons _ zp)<|Zn [] [(R,_)] ν C hbv.unf (λD24 hD24=>T5 ⟨#[119,101,116]⟩ (I6 (aR ls).1 k).1 (I6 (aR ls).1 k).2 I (r3 (aR ls).1 k) ν _ (hV.up (hD24 _ Yf)) Yu (hR.wet k hkl).1 (hR.wet k hkl).2 hbv (by have:=CX hR (k) Yd;omega)) (λ_ _ _ h=>h.elim) λv24 D25 ν24 hD25 hK=>bB ((ν24++[(R,qC (dY (aR ls).1 pv cv hv lv mv bl bc yc yq) 89)])) C ?_
   replace hK:gE I (r3 (aR ls).1 (k+1)) ν24:=by rw[TB];exact hK
   refine Zap<|Wc ?_;exact aK 21 (k+1,ν24) ⟨Yl,hK⟩ Yl ⟨Ya,zy⟩ C C zp λD h=>⟨D,zb _ (h),Le.refl D⟩
  ·obtain rfl:k=(aR ls).1.table.levels.length:=by simp only at hc2;omega
   refine Za9<|Za5<|Za5<|Zba<|Za2<|aA<|Zj C dK C<|eW C lR kF C (LT _ zu) C C n4 C zy<|Zj C dK C<|Zj C nT C<|Zq C aH C (LT _ zu) C<|Zd C (λD5 hD5=>L2.bPL _ (aR ls).1.table 0 (aR ls).1.table.last _ (hL.table.up (hD5 _ Yf))) ?_;refine Za C<|Zar C<|Zar C<|Zf C<|Zf C<|aJ<|Za C<|Za C<|Zn [] [(R,_)] ν C hbv.unf (λD26 hD26=>QN ⟨#[100,114,121]⟩ (JB (aR ls).1) I (r3 (aR ls).1 (aR ls).1.table.levels.length) ν _ (hV.up (hD26 _ Yf)) Yu hR.dry hbv (by have:=CX hR ((aR ls).1.table.levels.length) Yd;omega)) (λ_ _ _ h=>h.elim) λv26 D27 hX hD27 V=>bB ((hX++[(R,qC (dY (aR ls).1 pv cv hv lv mv bl bc yc yq) 89)])) C ?_
   replace V:gE I (r4 (aR ls).1) hX:=by first|exact V|(rw[Waq];exact V)|(simpa [r4]using V)
   refine aJ<|Zn [] [(R,_)] hX C V.unf (λD28 hD28=>oN I ⟨#[108,101,97,118,101]⟩ (r4 (aR ls).1) hX _ V (by have:=Ru hR;have hz:=(show(⟨#[108,101,97,118,101]⟩:Λ).size=5 from C);omega)) (λ_ _ _ h=>h.elim) λv28 D29 ν28 hD29 hI=>bB ((ν28++[(R,qC (dY (aR ls).1 pv cv hv lv mv bl bc yc yq) 89)])) C ?_;replace hI:gE I (r5 (aR ls).1) ν28:=by first|exact hI|(rw[Wbd];exact hI)|(simpa [r5]using hI)
   refine aJ<|Zj C gJ C<|eW C gW fU C (LT _ zu) C C n4 C zy<|Zz C (λD6 hD6=>L3.aTJ _ (aR ls).1.book _ (hL.book.up (hD6 _ Yf))) λv6 D6 hD6 hp6=>?_;obtain⟨lvv,rfl,hlv⟩:=hp6;obtain⟨lva,lvc,rfl⟩:=hlv.shape;refine Za C<|Zar C<|Zar C<|Zf C<|Zf C<|bD<|Za C<|Zaj C U35 C hlv C<|Za C<|aE<|Za4<|Zc (Nat×aF) (λg=>(L3.cS (aR ls).1.book).1.length-g.1) (λg=>g.1≤(L3.cS (aR ls).1.book).1.length∧gE I (r6 (aR ls).1 g.1) g.2) (λg=>[(111,qI (g.1:Int))]) [(110,_),(109,_),(19,_),(9,_),(8,_),(7,_),(4,_),(3,_),(2,_)] (λg=>g.2++[(R,qC (dY (aR ls).1 pv cv hv lv mv bl bc yc yq) 89)]) (λg=>[D6,D29,D27,D23,D21,D1,D]) (0,ν28) ⟨Yf,by simpa [r6]using hI⟩ ⟨Ya,zy⟩ zp ?_;rintro⟨k,ν⟩ ⟨h1,hbv⟩;simp only at h1 hbv;refine aA<|Zal C<|bX<|Zae C (λhc3=>?_) λhc3=>?_
   ·simp only at hc3;have hkl:k<(L3.cS (aR ls).1.book).1.length:=Yd
    obtain⟨x,hx⟩:∃x,(L3.cS (aR ls).1.book).1[k]?= some x:=⟨_,yz hkl⟩
    refine aP<|Za6<|Za4<|aA<|gH C hlv C hx (λb1 o1=>Zf C<|aE<|aM<|Za C<|Zd C (λD7 hD7=>AJ x (by have:=hR.lv x (GE hx);unfold NB at this;simp only[vE];omega) _ (hV.up (hD7 _ Yf)))<|oP C C C (by have:=QC (hR.lv x (GE hx));rw[na]at this;omega) C zy<|Zn [] [(R,_)] ν C hbv.unf (λD30 hD30=>oN I ((⟨#[32]⟩:Λ)++rN (itoa x)) (r6 (aR ls).1 k) ν _ hbv (by have:=LO hR (k);have hz:=(QC (hR.lv x (GE hx)));omega)) (λ_ _ _ h=>h.elim) λv30 D31 ν30 hD31 hN=>?_);refine bB ((ν30++[(R,qC (dY (aR ls).1 pv cv hv lv mv bl bc yc yq) 89)])) C ?_;replace hN:gE I (r6 (aR ls).1 (k+1)) ν30:=by rw[Sq hx];exact hN
    refine Zap<|Wc ?_;exact aK 11 (k+1,ν30) ⟨Yl,hN⟩ Yl ⟨Ya,zy⟩ C C zp λD h=>⟨D,zb _ (h),Le.refl D⟩
   ·obtain rfl:k=(L3.cS (aR ls).1.book).1.length:=by simp only at hc3;omega
    refine Za9<|Za5<|Za5<|Zba<|Za2<|aA<|Zn [] [(R,_)] ν C hbv.unf (λD32 hD32=>oN I ⟨#[10]⟩ (r6 (aR ls).1 (L3.cS (aR ls).1.book).1.length) ν _ hbv (by have:=LO hR ((L3.cS (aR ls).1.book).1.length);have hz:=(show(⟨#[10]⟩:Λ).size=1 from C);omega)) (λ_ _ _ h=>h.elim) λv32 D33 hO hD33 O=>bB ((hO++[(R,qC (dY (aR ls).1 pv cv hv lv mv bl bc yc yq) 89)])) C ?_;replace O:gE I (r7 (aR ls).1) hO:=by first|exact O|(rw[Was];exact O)|(simpa [r7]using O)
    refine bD<|Za C<|Zaj C U35 C hlv C<|Zas C<|aE<|Zae C (λhc4=>?_) λhc4=>?_
    ·have hl0:(L3.cS (aR ls).1.book).1=[]:=sc Yd;refine aA<|Zj C gJ C<|eW C gW fU C (LT _ zu) C C n4 C zy<|Zj C gJ C<|Zj C dX C<|Zq C iK C (LT _ zu) C<|Zaj C U80 C (hL.ln.up jQ.up (Le.refl _)) C<|Zd C (λD8 hD8=>L3.x8 _ (aR ls).1.book ((aR ls).1.book.lines.length:Int) _ (hL.book.up (hD8 _ Yf)))<|Za C<|Zar C<|Zar C<|Zag C qJ C λq5=>?_;refine Zaa C eY ζ<|Zf C<|aJ<|Zj C gJ C<|eW C gW fU C (List.Mem.tail _ (LT _ zu)) C C n4 C zy<|Zd C (λD9 hD9=>L3.aTT _ (aR ls).1.book _ (hL.book.up (hD9 _ Yf)))<|Za C<|Zar C<|Zar C<|Zag C qJ C λq6=>Zaa C eY ζ<|Zf C ?_;refine aJ<|Za C<|Zj C A5 C<|Zq C aH C zi C<|Zj C zQ C<|Zq C aH C zi C<|Zn [(_,_),(_,_)] [(R,_)] hO C O.unf (λD34 hD34=>T5 ⟨#[109,111,110,101,121]⟩ (jZ (aR ls).1).1 (jZ (aR ls).1).2 I (r7 (aR ls).1) hO _ (hV.up (hD34 _ Yf)) Yu hR.mon.1 hR.mon.2 O (by have:=UN hR;omega)) (λ_ _ _ h=>h.elim) (λv34 D35 hY hD35 Y=>bB ((q6,_)::(q5,_)::(hY++[(R,qC (dY (aR ls).1 pv cv hv lv mv bl bc yc yq) 89)])) C ?_)
     replace Y:gE I (pm (aR ls).1) hY:=by first|exact Y|(rw[r7m_eq];exact Y)|(simpa [pm]using Y)
     refine aE<|aM<|Za C<|Zj C A5 C<|Zq C aH C zu C<|Zj C zQ C<|Zq C aH C zu C<|HB (List.Sublist.cons _ (List.Sublist.cons _ zp))<|Zn [] [(R,_)] hY C Y.unf (λD36 hD36=>T5 ⟨#[109,105,120,101,100]⟩ (kK (aR ls).1).1 (kK (aR ls).1).2 I (pm (aR ls).1) hY _ (hV.up (hD36 _ Yf)) Yu hR.mix.1 hR.mix.2 Y (by have:=U_ hR;omega)) (λ_ _ _ h=>h.elim) λv36 D37 rA hD37 hJ=>bB ((rA++[(R,qC (dY (aR ls).1 pv cv hv lv mv bl bc yc yq) 89)])) C ?_;replace hJ:gE I (r8 (aR ls).1) rA:=by rw[Qy hl0];exact hJ
     refine aJ<|Zj C fF C<|eW C nY mD C (LT _ zu) C C n4 C zy<|Zd C (λD10 hD10=>L7.E0 _ (aR ls).1.yard _ (hL.yard.up (hD10 _ Yf)))<|Za C<|Zar C<|Zar C<|Zag C kT C λq7=>Zaa C cU ζ<|Zf C<|aJ<|Za C ?_;refine Zj C vX C<|Zq C aH C zu C<|Zj C vY C<|Zq C aH C zu C<|HB (List.Sublist.cons _ zp)<|Zn [] [(R,_)] rA C hJ.unf (λD38 hD38=>T5 ⟨#[119,104,111,108,101]⟩ ((L7.dS (aR ls).1.yard).1).1 ((L7.dS (aR ls).1.yard).1).2 I (r8 (aR ls).1) rA _ (hV.up (hD38 _ Yf)) Yu hR.wh.1 hR.wh.2 hJ (by have:=VF hR;omega)) (λ_ _ _ h=>h.elim) λv38 D39 rB hD39 Z=>bB ((rB++[(R,qC (dY (aR ls).1 pv cv hv lv mv bl bc yc yq) 89)])) C ?_
     replace Z:gE I (r9 (aR ls).1) rB:=by first|exact Z|(rw[r9_eq];exact Z)|(simpa [r9]using Z)
     refine aJ<|Zj C fF C<|eW C nY mD C (LT _ zu) C C n4 C zy<|Zz C (λD11 hD11=>L7.aKI _ (aR ls).1.yard _ (hL.yard.up (hD11 _ Yf))) λv11 D11 hD11 hp11=>?_;obtain⟨suv,rfl,hsu⟩:=hp11;refine Za C<|Zar C<|Zar C<|Zar C<|Zf C<|Zf C<|Zf C<|aJ<|Za C<|Za C<|Zn [] [(R,_)] rB C Z.unf (λD40 hD40=>QN ⟨#[115,117,114,101]⟩ ((L7.jO (aR ls).1.yard).2.1) I (r9 (aR ls).1) rB _ (hV.up (hD40 _ Yf)) Yu hR.su Z (by have:=Rs hR;omega)) (λ_ _ _ h=>h.elim) λv40 D41 ν40 hD41 hB=>bB ((ν40++[(R,qC (dY (aR ls).1 pv cv hv lv mv bl bc yc yq) 89)])) C ?_
     replace hB:gE I (mH (aR ls).1) ν40:=by first|exact hB|(rw[reportL_eq];exact hB)|(simpa [mH]using hB)
     refine aJ<|HP (post:=λr=>r=.string (rN (mH (aR ls).1))) C C C C (EF.of func52 C C) (λD w hw=>(Go.Proofs.Tryz.Builder_String_any (max 1 h0.size) I (mH (aR ls).1) w (W1 hB (G7 _) hw).1 (W1 hB (G7 _) hw).2).mono ?_) C zy λr hr=>?_
     ·rintro e w1 ⟨rfl,hbl⟩;exact⟨_,C,hbl,C⟩
     subst hr;refine tg ?_;exact Zp [_,_] C cE λD hD=>by unfold vG;rw[zo hf];rfl
    ·have hl0:(L3.cS (aR ls).1.book).1≠[]:=λh=>hc4 (by rw[h];rfl)
     have hb8:gE I (r8 (aR ls).1) hO:=by rw[Pf hl0];exact O
     refine aP<|aA<|Zj C fF C<|eW C nY mD C (LT _ zu) C C n4 C zy<|Zd C (λD12 hD12=>L7.E0 _ (aR ls).1.yard _ (hL.yard.up (hD12 _ Yf)))<|Za C<|Zar C<|Zar C<|Zag C kT C λq8=>Zaa C cU ζ<|Zf C<|aJ ?_;refine Za C<|Zj C vX C<|Zq C aH C zu C<|Zj C vY C<|Zq C aH C zu C<|HB (List.Sublist.cons _ zp)<|Zn [] [(R,_)] hO C hb8.unf (λD42 hD42=>T5 ⟨#[119,104,111,108,101]⟩ ((L7.dS (aR ls).1.yard).1).1 ((L7.dS (aR ls).1.yard).1).2 I (r8 (aR ls).1) hO _ (hV.up (hD42 _ Yf)) Yu hR.wh.1 hR.wh.2 hb8 (by have:=VF hR;omega)) (λ_ _ _ h=>h.elim) λv42 D43 ν42 hD43 hE=>bB ((ν42++[(R,qC (dY (aR ls).1 pv cv hv lv mv bl bc yc yq) 89)])) C ?_
     replace hE:gE I (r9 (aR ls).1) ν42:=by first|exact hE|(rw[r9_eq];exact hE)|(simpa [r9]using hE)
     refine aJ<|Zj C fF C<|eW C nY mD C (LT _ zu) C C n4 C zy<|Zz C (λD13 hD13=>L7.aKI _ (aR ls).1.yard _ (hL.yard.up (hD13 _ Yf))) λv13 D13 hD13 hp13=>?_;obtain⟨suv,rfl,hsu⟩:=hp13;refine Za C<|Zar C<|Zar C<|Zar C<|Zf C<|Zf C<|Zf C<|aJ<|Za C<|Za C<|Zn [] [(R,_)] ν42 C hE.unf (λD44 hD44=>QN ⟨#[115,117,114,101]⟩ ((L7.jO (aR ls).1.yard).2.1) I (r9 (aR ls).1) ν42 _ (hV.up (hD44 _ Yf)) Yu hR.su hE (by have:=Rs hR;omega)) (λ_ _ _ h=>h.elim) λv44 D45 ν44 hD45 hF=>bB ((ν44++[(R,qC (dY (aR ls).1 pv cv hv lv mv bl bc yc yq) 89)])) C ?_
     replace hF:gE I (mH (aR ls).1) ν44:=by first|exact hF|(rw[reportL_eq];exact hF)|(simpa [mH]using hF)
     refine aJ<|HP (post:=λr=>r=.string (rN (mH (aR ls).1))) C C C C (EF.of func52 C C) (λD w hw=>(Go.Proofs.Tryz.Builder_String_any (max 1 h0.size) I (mH (aR ls).1) w (W1 hF (G7 _) hw).1 (W1 hF (G7 _) hw).2).mono ?_) C zy λr hr=>?_
     ·rintro e w1 ⟨rfl,hbl⟩;exact⟨_,C,hbl,C⟩
     subst hr;refine tg ?_;exact Zp [_,_] C cE λD hD=>by unfold vG;rw[zo hf];rfl
end L12
namespace C12
def Y6:Nat→List UInt8→Nat
 |_,[]=>0
 |k,b::t=>(2*k+1)*b.toNat+Y6 (k+1) t
theorem FG:∀(a b:List UInt8) (k:Nat),Y6 k (a++b)=Y6 k a+Y6 (k+a.length) b
 | [],b,k=>by simp[Y6]
 |x::a,b,k=>by
  rw[we,Y6,Y6,FG a b (k+1),zh,show k+1+a.length=k+(a.length+1) by omega,Nat.add_assoc]
theorem It{l:List UInt8}{k:Nat}{b:UInt8}(h:l[k]?= some b):Y6 0 (l.take (k+1))=Y6 0 (l.take k)+(2*k+1)*b.toNat:=by
 have hk:k<l.length:=(yx.1 h).1;rw[zg,h,FG,wq,uj Yd];simp[Y6]
theorem Sp:∀(l:List UInt8) (k:Nat),Y6 k l≤(2*(k+l.length)+1)*256*l.length
 | [],k=>by simp[Y6]
 |b::l,k=>by
  have h1:=Sp l (k+1);have h2:b.toNat≤256:=by have:=b.toNat_lt;omega
  have h3:(2*k+1)*b.toNat≤(2*(k+(l.length+1))+1)*256:=rc Yd h2;rw[Y6,zh,show k+(l.length+1)=k+1+l.length by omega,Nat.mul_succ];rw[show k+1+l.length=k+(l.length+1) by omega]at h1;rw[show k+1+l.length=k+(l.length+1) by omega];omega
def tA(i:Nat)(l:List UInt8):Nat:=(37*(i+1)+Y6 0 l)%9967
theorem Hf(i:Nat)(l:List UInt8):tA i l<9967:=Nat.mod_lt _ Yu
def H6(n j:Nat):UInt8:=UInt8.ofNat (48+n / 10^j%10)
theorem Ya7(n j:Nat):(H6 n j).toNat=48+n / 10^j%10:=by
 unfold H6;rw[UInt8.toNat_ofNat'];have:=Nat.mod_lt (n / 10^j) (show 0<10 by decide);omega
def M7(n:Nat):List UInt8:=[H6 n 3,H6 n 2,H6 n 1,H6 n 0]
def cu(i:Nat)(l:List UInt8):List UInt8:=[59,59,10]++M7 (tA i l)
def yJ(i:Nat)(l:List UInt8):List UInt8:=[H6 l.length 1,H6 l.length 0,59]++l++[59]++M7 (tA i l)++[10]
theorem uD(i:Nat)(l:List UInt8):(yJ i l).length=9+l.length:=by simp[yJ,M7];omega
def mA:Nat→List (List UInt8)→List UInt8
 |_,[]=>[]
 |i,l::ls=>yJ i l++mA (i+1) ls
theorem N2:∀(a b:List (List UInt8)) (i:Nat),mA i (a++b)=mA i a++mA (i+a.length) b
 | [],b,i=>by simp[mA]
 |x::a,b,i=>by
  rw[we,mA,mA,N2 a b (i+1),zh,yy,show i+1+a.length=i+(a.length+1) by omega]
def M8(ls:List (List UInt8)):List UInt8:=mA 0 ls
theorem Nx{ls:List (List UInt8)}{k:Nat}{l:List UInt8}(h:ls[k]?= some l):M8 (ls.take (k+1))=M8 (ls.take k)++yJ k l:=by
 have hk:k<ls.length:=(yx.1 h).1;unfold M8;rw[zg,h,N2,wq,uj Yd];simp[mA]
theorem AL:∀(ls:List (List UInt8)) (i m:Nat),(∀l∈ls,l.length≤m)→(mA i ls).length≤(9+m)*ls.length
 | [],i,m,_=>by simp[mA]
 |l::ls,i,m,h=>by
  have h1:=AL ls (i+1) m λx hx=>h x (by simp[hx])
  have h2:=h l Yf;rw[mA,zf,uD,zh,Nat.mul_succ];omega

end C12
namespace L12
open C12 Go.Lib
theorem Sa{s:Λ}{k:Nat}{b:UInt8}(h:s.data.toList[k]?= some b):s[k]?= some b:=by
 have hk:k<s.size:=by simpa using(yx.1 h).1
 rw[getElem?_pos s k hk];congr 1;obtain⟨h1,h2⟩:=yx.1 h;rw[←h2];rfl
theorem Vv{s:Λ}{k:Nat}{b:UInt8}(h:s.data.toList[k]?= some b)(hs:s.size≤1000):0≤(2*(k:Int)+1)*(b.toNat:Int)∧(2*(k:Int)+1)*(b.toNat:Int)≤1000000:=by
 have hk:k<s.size:=by simpa using(yx.1 h).1
 have hb:=b.toNat_lt;have h1:(2*k+1)*b.toNat≤2001*256:=rc Yd Yd;have h2:(2*(k:Int)+1)*(b.toNat:Int)=(((2*k+1)*b.toNat:Nat):Int):=by push_cast;rfl
 rw[h2];omega
theorem aBY{s:Λ}{k:Nat}(hs:s.size≤1000):Y6 0 (s.data.toList.take k)≤1000000000:=by
 have h:=Sp (s.data.toList.take k) 0;have hl:(s.data.toList.take k).length≤1000:=by
  rw[wq];have:s.data.toList.length=s.size:=rfl;omega
 have h1:(2*(0+(s.data.toList.take k).length)+1)*256*(s.data.toList.take k).length≤2001*256*1000:=rc (rc Yd (zk _)) hl;omega
def ll(n k:Nat):List Γ:=[if 3<k then .int .u8 (H6 n 3).toNat else .int .u8 0,if 2<k then .int .u8 (H6 n 2).toNat else .int .u8 0,if 1<k then .int .u8 (H6 n 1).toNat else .int .u8 0,if 0<k then .int .u8 (H6 n 0).toNat else .int .u8 0]
theorem aGD{n k:Nat}(hk:k<4):(ll n k).take (((3:Int)-(k:Int)).toNat)++[.int .u8 (48+((n / 10^k:Nat):Int)%10)]++(ll n k).drop (((3:Int)-(k:Int)).toNat+ [Value.int .u8 (48+((n / 10^k:Nat):Int)%10)].length)=ll n (k+1):=by
 have e:Value.int .u8 (48+((n / 10^k:Nat):Int)%10)=.int .u8 ((H6 n k).toNat:Int):=by rw[Ya7];rfl
 rw[e];obtain rfl|rfl|rfl|rfl:k=0∨k=1∨k=2∨k=3:=Yd
 all_goals rfl
theorem Bm(i:Nat)(s:Λ)(hi:i≤100000)(hs:s.size≤1000)(D:aC):Fn prog 260 #[qI (i:Int),.string s] D (λ_ v=>v=qI ((tA i s.data.toList:Nat):Int)):=by
 refine Zx 28 func260 C λh0=>aA<|Zf C<|aJ<|Za C<|Zaf C<|EM C C C Ye C zy<|Zf C<|bD<|Za C<|kS C U9 C C C zy<|Za C ?_;refine aE<|Za4<|Zo Nat (λk=>s.size-k) (λk=>k≤s.size) (λk=>[(12,qI (k:Int)),(5,qI ((37*(i+1)+Y6 0 (s.data.toList.take k):Nat):Int))]) [(11,_),(4,_),(1,_)] (λk=>[D]) 0 ⟨Ya,(by show some (Value.int _ _)=some (Value.int _ _);congr 2),zy⟩ ?_
 rintro k hI;refine aA<|Zal C<|bX<|Zae C (λhc1=>?_) λhc1=>?_
 ·have hk:k<s.size:=Yd
  obtain⟨b,hb⟩:∃b,s.data.toList[k]?= some b:=⟨_,yz kx⟩
  have I:=b.toNat_lt;refine aP<|Za6<|Za4<|aA<|Za C<|Zf C<|aE<|aM<|Za C<|Za C<|EM C C C Ye C zy<|Zaf C ?_;refine Za C<|Za C<|sW C U9 C C Yd kl C zy<|mJ C U5 U3 C Ye C zy<|EM C C C (by have:=Vv hb hs;simp only[vE];omega) C zy<|xN C C C (by have:=Vv hb hs;have:=aBY (s:=s) (k:=k) hs;simp only[vE];omega) C zy<|Zf C<|Zap<|Za7<|Za2<|aM<|Zaf C ?_;refine Za C<|Zap ?_;exact Zl 18 (k+1) ⟨Ya,(by show some (Value.int _ _)=some (Value.int _ _);congr 2;rw[It hb];push_cast;rw[Int.add_assoc]),zy⟩ C zp
 ·obtain rfl:k=s.size:=Yd
  rw[ww (show s.data.toList.length≤s.size by simp)];refine Za9<|Za5<|Za5<|Zba<|Za2<|aA<|Za C<|uR C C C Yd Yd Ye C zy<|Wd ?_;exact aD C λD hD=>by show Value.int _ _=_;congr 1
theorem Sd(n:Nat)(hn:n≤1000000)(D:aC):Fn prog 202 #[qI (n:Int)] D (λ_ v=>v=.agg (bc (M7 n)).toArray):=by
 refine Zx 18 func202 C (λh0=>aA<|Zag C Uc C λI=>bD<|Za C<|aE<|Za4<|fE (γ:=Nat) (λk=>4-k) (λk=>k≤4) (λk=>[(4,qI (k:Int)),(0,qI ((n / 10^k:Nat):Int))]) [(2,_)] (λk=>[(I,qC (ll n k) 341)]) (λk=>[D]) 0 Yd ⟨Ya,(by show some (Value.int _ _)=some (Value.int _ _);congr 2;simp),zy⟩ ⟨C,zy⟩ zp (aN) ?_);rintro k hI;refine aA<|Zal C<|bX<|Zae C (λhc1=>?_) λhc1=>?_
 ·have hk:k<4:=Yd
  have hq:n / 10^k≤n:=Nat.div_le_self _ _;have O:(0:Int)≤((n / 10^k:Nat):Int):=re _;refine aP<|Za6<|Za4<|aA<|Za C<|Zf C<|aJ<|Za C<|Zax C<|Za C<|uR C C C Yd Yd Ye C zy<|Zaf C ?_;refine mJ C U3 U5 C Ye C zy<|cD C U341 mU C C Yd Yd C zy<|dD (ws:=ll n (k+1)) C C C C mU .head (by simp[ll]<;>omega) (aGD hk) Ym zy<|aE<|aM<|Za C<|HX C C C Yd Yd Ye C zy<|Zf C<|Zap<|Za7<|Za2<|aM ?_;refine Zaf C<|Za C<|Zap ?_;exact Zl 17 (k+1) ⟨Ya,(by show some (Value.int _ _)=some (Value.int _ _);congr 2;rw[Nat.pow_succ,←Nat.div_div_eq_div_mul];rfl),zy⟩ C zp
 ·obtain rfl:k=4:=Yd
  refine Za9<|Za5<|Za5<|Zba<|Za2<|aA<|Zah C Uy C zu (by first|exact I4|(simp only[aL, *];exact I4))<|Zab C I4 ζ (mT (M7 n))<|aG ?_;exact Zp [_] C ⟨⟨_,_,_,C,zu,Or.inr ⟨Uy,(by first|exact I4|(simp only[wd,aL, *];exact I4)),C⟩⟩,zy⟩ λD hD=>C
theorem Eh(i:Nat)(s:Λ)(hi:i≤100000)(hs:s.size≤1000)(D:aC):Fn prog 201 #[qI (i:Int),.string s] D (λ_ v=>v=.agg (bc (cu i s.data.toList)).toArray):=by
 refine Zx 11 func201 C (λh0=>aA<|Zag C QM C λR=>aJ<|BC (cs:=[.int .u8 59,.int .u8 59,.int .u8 10]) C U339 mU Yae C C C zy<|Za C<|Za C<|Zd C (λU I=>Bm i s hi hs _)<|Zd C (λV O=>Sd (tA i s.data.toList) (by have:=Hf i s.data.toList;omega) _)<|lJ (cs:=[.int .u8 59,.int .u8 59,.int .u8 10,.int .u8 ((H6 (tA i s.data.toList) 3).toNat:Int),.int .u8 ((H6 (tA i s.data.toList) 2).toNat:Int),.int .u8 ((H6 (tA i s.data.toList) 1).toNat:Int),.int .u8 ((H6 (tA i s.data.toList) 0).toNat:Int)]) C Ybc QM C Yg C zy<|Zab C GF ζ (mT (cu i s.data.toList))<|aG ?_);exact Zp [_] C ⟨⟨_,_,_,C,zu,Or.inr ⟨Yaw,(by first|exact GF|(simp only[wd,aL, *];exact GF)),C⟩⟩,zy⟩ λD hD=>C
end L12
def RU:Rd UInt8:=λ_ b cs=>cs=[.int .u8 b.toNat]
theorem RU.up:RU.Up:=λ_ _ _ h=>h
theorem Ybi(l:List UInt8):l.flatMap (λb:UInt8=>[Value.int .u8 b.toNat])=bc l:=by
 induction l with
 |nil=>rfl
 |cons b l ih=>rw[xy,ih];rfl
theorem kX.bytes{D:aC}{l:List UInt8}(h:Sl D RU 1 v l):kX D v l.length (bc l):=by
 rw[←Ybi];exact kX.of (R:=RU) (λ_ _ _ h=>h) (λ_=>C) h
theorem Wbt{l:List UInt8}{i:Nat}{b:UInt8}(h:l[i]?= some b):(bc l)[i]?= some (.int .u8 b.toNat):=by simp[bc,h]
theorem lB.bytes{D:aC}{n:Nat}{l:List UInt8}(h:lB D v n (bc l))(hn:l.length=n)(hb:n≤9223372036854775807):Sl D RU 1 v l:=
 h.sl hn hb λi x hx=>⟨_,C,C,by
  have h1:=Wbt hx;rw[xp,List.take_one,List.head?_drop,h1];rfl⟩
def rz(n:Nat):List Γ:=List.replicate n (.int .u8 0)
theorem HA(a b:Nat):rz (a+b)=rz a++rz b:=by unfold rz;rw[List.replicate_append_replicate]
theorem l4(n:Nat):(rz n).length=n:=by simp[rz]
theorem aGS(n:Nat):((Array.range (n*1)).map (#[Value.int .u8 0][· %(#[Value.int .u8 0]:Array Γ).size]!)).toList=rz n:=by
 apply List.ext_getElem?;intro i;simp only[ou,Array.toList_range,xt,rz,List.getElem?_replicate,xp];by_cases hi:i<n
 ·rw[rf hi,zo hi];simp only[xo];congr 1;have:i%(#[Value.int .u8 0]:Array Γ).size=0:=by simp[Nat.mod_one]
  rw[this];rfl
 ·rw[tq wy,zv hi];rfl
theorem m_{A B z_ us:List Γ}{off:Nat}(h:off=A.length)(h2:us.length=B.length):(A++B++z_).take off++us++(A++B++z_).drop (off+us.length)=A++us++z_:=by
 subst h;have I:(A++B++z_).take A.length=A:=by rw[yy,qi]
 have O:(A++B++z_).drop (A.length+us.length)=z_:=by rw[h2,←zf,List.drop_left]
 rw[I,O]
theorem Uw{t e e' tr:Θ}{bd od n cd m k:Nat}{xv:Γ}{vs us ws:List Γ}{μ':aF}{ats:Array Θ}
  (ho:G[ix]?= some ⟨some d,.call {callee:=.builtin .copy,args:=#[x,y],argTypes:=ats},tr,pos,aft,g⟩) (ht:P.underlying t=some (.slice e)) (hat:ats[0]?= some t) (hs:TS P e 1) (hx:ev T x=some (.slice (some ⟨bd,od,none⟩) n cd)) (hy:ev T y=some xv)
  (hsrc:∀a w,Hl X T L W a w→(Builtin.lenOf xv).run P w=.ok m w∧(Builtin.firstCells 1 k xv).run P w=.ok us.toArray w) (hk:k=Nat.min m n)
  (hm:bO L bd (.cells vs.toArray e' (0,0)) (.cells ws.toArray e' (0,0)) μ') (hl:od+us.length≤vs.length) (hw:vs.take od++us++vs.drop (od+us.length)=ws) (hc1:∀u∈us,cell1 u=true) (hfl:fl=false∨bd∈H) (hN:Nat.blt d X.N=true) (hg:dF G T g)
  (kk:WL P X H G K Q os ((d,qI k)::T) μ' W):WL P X H G K Q ((fl,ix)::os) T L W:=by
 refine fW ho C C hg λa w hh=>?_
 obtain⟨h1,h2,h3,D,h4,h5,O⟩:=id hh;obtain⟨hlen,hfc⟩:=hsrc a w hh;obtain⟨w',hr,hw'⟩:=lX (P:=P) us 0 w bd od vs e' (h4.box _ hm.mem).1 Yd hc1;rw[tl,hw]at hw';have hcp:(Builtin.copy_ ats tr #[.slice (some ⟨bd,od,none⟩) n cd,xv]).run P w=.ok (qI k) w':=by
  have I:(#[Value.slice (some ⟨bd,od,none⟩) n cd,xv]:Array Γ)[0]?= some (.slice (some ⟨bd,od,none⟩) n cd):=rfl;have R:(#[Value.slice (some ⟨bd,od,none⟩) n cd,xv]:Array Γ)[1]?= some xv:=rfl;unfold Builtin.copy_;simp only[hat,I,R,Ω,TU.of ht w,Ξ,hlen,hs w,←hk,hfc,hr,ε,goInt]
 have hex:(execOp a.eval ⟨some d,.call {callee:=.builtin .copy,args:=#[x,y],argTypes:=ats},tr,pos,aft,g⟩).run P w=.ok (.value (qI k)) w':=by
  simp only[execOp,resolve,pure_bind,invoke,builtin];have I:(#[x,y].map a.eval)=#[.slice (some ⟨bd,od,none⟩) n cd,xv]:=kz
  rw[I,Ω,hcp];rfl
 rw[hex];have hst:=h4.set hm hw' C;refine⟨λhf=>⟨ky,λc hc hcb=>?_⟩,kk _ _ (Hl.put ⟨h1,h2,h3,D,hst,h5,O.step (λ_ p hp=>zq il) (λ_=>mK hw' (n5.2 ⟨_,hm.mem,C⟩)) hst.dom⟩ hN _)⟩
 have hb:bd∈H:=by
  rcases hfl with h|h
  ·rw[hf]at h;cases h
  ·exact h
 rw[hw'.1,qp (by rintro rfl;exact hcb hb)]
theorem Hu{t e e' tr:Θ}{bd od n cd:Nat}{s:Λ}{vs ws:List Γ}{μ':aF}{ats:Array Θ}
  (ho:G[ix]?= some ⟨some d,.call {callee:=.builtin .copy,args:=#[x,y],argTypes:=ats},tr,pos,aft,g⟩) (ht:P.underlying t=some (.slice e)) (hat:ats[0]?= some t) (hs:TS P e 1) (hx:ev T x=some (.slice (some ⟨bd,od,none⟩) n cd)) (hy:ev T y=some (.string s)) (hn:s.size≤n)
  (hm:bO L bd (.cells vs.toArray e' (0,0)) (.cells ws.toArray e' (0,0)) μ') (hl:od+s.size≤vs.length) (hw:vs.take od++bc s.data.toList++vs.drop (od+(bc s.data.toList).length)=ws) (hfl:fl=false∨bd∈H) (hN:Nat.blt d X.N=true) (hg:dF G T g)
  (kk:WL P X H G K Q os ((d,qI s.size)::T) μ' W):WL P X H G K Q ((fl,ix)::os) T L W:=
 Uw (m:=s.size) (k:=s.size) (us:=bc s.data.toList) ho ht hat hs hx hy (λa w _=>⟨C,Go.Lib.run_firstCells_string (P:=P) w 1 s⟩) (uj hn).symm hm (by rw[oO];exact hl) hw (mT _) hfl hN hg kk
theorem OD{t e e' I tr:Θ}{bd od n cd bs os' m cs:Nat}{vs us ws xs:List Γ}{μ':aF}{ats:Array Θ}
  (ho:G[ix]?= some ⟨some d,.call {callee:=.builtin .copy,args:=#[x,y],argTypes:=ats},tr,pos,aft,g⟩) (ht:P.underlying t=some (.slice e)) (hat:ats[0]?= some t) (hs:TS P e 1) (hx:ev T x=some (.slice (some ⟨bd,od,none⟩) n cd)) (hy:ev T y=some (.slice (some ⟨bs,os',none⟩) m cs)) (hn:m≤n)
  (hsm:(bs,.cells xs.toArray I (0,0))∈L) (hus:(xs.drop os').take m=us) (hul:us.length=m)
  (hm:bO L bd (.cells vs.toArray e' (0,0)) (.cells ws.toArray e' (0,0)) μ') (hl:od+m≤vs.length) (hw:vs.take od++us++vs.drop (od+us.length)=ws) (hc1:∀u∈us,cell1 u=true) (hfl:fl=false∨bd∈H) (hN:Nat.blt d X.N=true) (hg:dF G T g)
  (kk:WL P X H G K Q os ((d,qI m)::T) μ' W):WL P X H G K Q ((fl,ix)::os) T L W:=
 Uw (m:=m) (k:=m) (us:=us) ho ht hat hs hx hy (λa w hh=>⟨C,by
  simp only[Builtin.firstCells];have hbx:w.heap[bs]?= some (.cells xs.toArray I (0,0)):=by
   obtain⟨_,_,_,D,h4,_⟩:=hh;exact(h4.box _ hsm).1
  refine pL (by rw[xp];exact hul) λj u hj=>tO (cs:=xs.toArray) hbx ?_
  have hjl:=(yx.1 hj).1;rw[←hus,sa Yd,vb]at hj;simpa using hj⟩) (uj hn).symm hm Yd hw hc1 hfl hN hg kk

theorem Fk{t e:Θ}{n b o l:Nat}{I:IntKind}{i:Int}(ho:G[ix]?= some ⟨some d,.slice t x (some y) none none,ty,pos,aft,g⟩)(ht:P.underlying t=some (.array n e))(hs:TS P e 1)(hx:ev T x=some (.pointer (some ⟨b,o,none⟩)))
  (hy:ev T y=some (.int I i)) (hi:i=(l:Int)) (h3:l<n)
  (hN:Nat.blt d X.N=true) (hg:dF G T g) (kk:WL P X H G K Q os ((d,.slice (some ⟨b,o+l,none⟩) (n-l) (n-l))::T) L W):WL P X H G K Q ((fl,ix)::os) T L W:=by
 subst hi;refine cB ho C C hN hg (λρ hρ w'=>?_) kk;simp only[execOp,hρ x _ hx,hρ y _ hy,vy,xo];unfold Instr.sliceAt Instr.sureAddr Instr.sliceBounds Instr.sliceBound asIntOf;have O:(0:Int)≤(l:Int)∧(l:Int)≤(n:Nat):=Yd
 simp only[Ω,TU.of ht w',Ξ,hs w',ε,pure_bind,O,vl,yo,xr,xp];rw[zv Yd];simp[Addr.add]
theorem Er{t e:Θ}{n b o:Nat}(ho:G[ix]?= some ⟨some d,.slice t x none none none,ty,pos,aft,g⟩)(ht:P.underlying t=some (.array n e))(hs:TS P e 1)(hx:ev T x=some (.pointer (some ⟨b,o,none⟩)))(h3:Nat.beq n 0=false)
  (hN:Nat.blt d X.N=true) (hg:dF G T g) (kk:WL P X H G K Q os ((d,.slice (some ⟨b,o,none⟩) n n)::T) L W):WL P X H G K Q ((fl,ix)::os) T L W:=by
 have h3':¬n=0:=λh=>by subst h;cases h3
 refine cB ho C C hN hg (λρ hρ w'=>?_) kk;simp only[execOp,hρ x _ hx,vy];unfold Instr.sliceAt Instr.sureAddr Instr.sliceBounds;simp only[Ω,TU.of ht w',Ξ,hs w',ε,pure_bind,xp];simp[h3',Addr.add]
theorem cx{t e:Θ}{b o j n cap:Nat}{k:IntKind}(ho:G[ix]?= some ⟨some d,.slice t x (some y) none none,ty,pos,aft,g⟩)(ht:P.underlying t=some (.slice e))(hs:TS P e 1)(hx:ev T x=some (.slice (some ⟨b,o,none⟩) n cap))(hy:ev T y=some (.int k (j:Int)))(hj:j≤n)(hc:j<cap)
  (hN:Nat.blt d X.N=true) (hg:dF G T g) (kk:WL P X H G K Q os ((d,.slice (some ⟨b,o+j,none⟩) (n-j) (cap-j))::T) L W):WL P X H G K Q ((fl,ix)::os) T L W:=by
 have ha:(if cap=j then some (⟨b,o,none⟩:Addr)else(some (⟨b,o,none⟩:Addr)).map (·.add (j*1)))=some ⟨b,o+j,none⟩:=by
  rw[zv Yd];simp[iL]
 refine cB ho C C hN hg (λρ hρ w'=>?_) kk;simp only[execOp,vy,xo,hρ x _ hx,hρ y _ hy];unfold Instr.sliceAt Instr.slice Instr.sliceBounds Instr.sliceBound asIntOf;have hle:(0:Int)≤(j:Int)∧(j:Int)≤(n:Nat):=Yd
 simp only[Ω,TU.of ht w',Ξ,ε,pure_bind,hs w',hle,vl,yo,xr,ha]

theorem L6{t1 t2 e:Θ}{D₁:aC}{l:List UInt8}(ho:G[ix]?= some ⟨some d,.convert t1 t2 x,ty,pos,aft,g⟩)(h1:P.underlying t1=some (.slice e))(he:P.underlying e=some (.int .u8))(h2:P.underlying t2=some .string)(hx:ev T x=some v)(hS:Sl D₁ RU 1 v l)(hD:D₁∈W)
  (hbad:∀b o c,v=.slice (some ⟨b,o,none⟩) l.length c→l≠[]→b∉H) (hN:Nat.blt d X.N=true) (hg:dF G T g) (kk:WL P X H G K Q os ((d,.string ⟨l.toArray⟩)::T) L W):WL P X H G K Q ((fl,ix)::os) T L W:=
 qA ho C C hN hg (λa w hh w' hk=>by
  have key:(Go.convert t1 t2 v).run P w'=.ok (.string ⟨l.toArray⟩) w':=by
   obtain⟨ad,cap,rfl,O,k2,I⟩:=hS;rcases I with I|⟨b,o,rfl,I⟩
   ·subst I;cases ad with
    |none=>exact Go.run_convert_bytes_nil w' t1 e h1 he _ cap t2 h2
    |some ad=>exact Go.run_convert_bytes_back w' t1 t2 e ad cap [] h1 he h2 λj hj=>by cases hj
   ·refine Go.run_convert_bytes_back w' t1 t2 e ⟨b,o,none⟩ cap l h1 he h2 λj hj=>?_;obtain⟨cs,hr,hc,hA⟩:=I j l[j] (yz hj);obtain rfl:cs=[.int .u8 l[j].toNat]:=hr;have hb:b∉H:=hbad b o cap C (λh=>by subst h;cases hj)
    rw[iL];have:=hh.dataAt hD (hA 0 _ C) hb hk;simpa using this
  simp only[execOp,hh.eval hx];rw[Ω,key];rfl) kk
namespace L12
open C12 Go.Lib
theorem GR(s:Λ):s.data.toList.length=s.size:=rfl
def gX(ls:List Λ):List (List UInt8):=ls.map λx=>x.data.toList
theorem Lf{ls:List Λ}{k:Nat}{x:Λ}(h:ls[k]?= some x):(gX ls)[k]?= some x.data.toList:=by unfold gX;rw[xt,h];rfl
theorem MS{ls:List Λ}(k:Nat)(hn:ls.length≤1000)(hsz:∀l∈ls,l.size≤1000):(M8 ((gX ls).take k)).length≤1009000:=by
 have h:=AL ((gX ls).take k) 0 1000 (λl hl=>by
  obtain⟨x,hx,rfl⟩:=n5.1 (pd hl);exact hsz x hx)
 have h2:((gX ls).take k).length≤1000:=by rw[wq];unfold gX;rw[yh];omega
 have h3:(9+1000)*((gX ls).take k).length≤1009*1000:=Nat.mul_le_mul_left _ h2;unfold M8;omega
section
variable{P:Program}{X:Cx}{γb:Type}[Membership Nat γb]{H:γb}{G:Array Oper}{K:Act→Δ→Prop}{Q:Exit→Act→Δ→Prop}{T:bZ}{L:aF}{W:List aC}{os:List (Bool×Nat)}
theorem l9{b:Nat}{e:Θ}{fz:Nat×Nat}{cs cs':List Γ}(h:cs=cs')(k:WL P X H G K Q os T ((b,.cells cs'.toArray e fz)::L) W):WL P X H G K Q os T ((b,.cells cs.toArray e fz)::L) W:=h▸k
end
theorem Ez(i:Nat)(s:Λ)(hi:i≤100000)(hs:s.size≤1000)(D:aC):Fn prog 138 #[qI (i:Int),.string s] D (λD' v=>Sl D' RU 1 v (yJ i s.data.toList)):=by
 refine Zx 53 func138 C λh0=>aA<|Zf C<|aJ<|Za C<|Za C<|Zd C (λV O=>Eh i s hi hs _)<|Za C<|kS C U9 C C C zy<|Zd C (λY R=>Sd s.size Yd _)<|Zag C QM C λZ=>Zag C Uc C λq2=>?_;refine Zab C GF (.tail ζ) (mT (cu i s.data.toList))<|Zab C I4 ζ (mT (M7 s.size))<|aJ<|Za C<|kS C U9 C C C zy<|Zaf C<|Zaf C<|vP (n:=s.size+9) C U70 mU YZ C d7 Ya Ya Yd (aGS _) C zy (λbo=>l9 (cs':=[]++rz 2++rz (s.size+7)) (by first|(rw[ya,←HA];done)|(rw[ya,←HA];congr 1;omega))<|Zf C<|aJ<|Za C ?_);refine Fk (l:=2) C U341 mU C C C Yd C zy<|OD (us:=bc [H6 s.size 1,H6 s.size 0]) C U70 C mU C C Yd zi C C .head (by simp[l4]<;>omega) (m_ C C) (mT _) (zq C) C zy<|l9 (cs':=bc [H6 s.size 1,H6 s.size 0]++rz 1++rz (s.size+6)) (by first|(rw[ya,yy,←HA];done)|(rw[ya,yy,←HA];congr 2;omega))<|aJ<|Za C<|Zj C CU C<|cD C U339 mU C C Yd Yd C zy<|Zq C cw C xq C<|eV C U70 mU C C Yd Yd C zy<|dD (ws:=bc [H6 s.size 1,H6 s.size 0]++bc [59]++rz (s.size+6)) C C C C mU .head ip (m_ (by simp[oO]<;>omega) C) (mT [59]) zy<|l9 (cs':=bc [H6 s.size 1,H6 s.size 0,59]++rz s.size++rz 6) (by rw[HA,←yy];rfl)<|aJ ?_;refine Za C<|cx (j:=3) C U70 mU C C Yd Yd C zy<|Za C<|Hu (ws:=bc [H6 s.size 1,H6 s.size 0,59]++bc s.data.toList++rz 6) C U70 C mU C C Yd .head ip (m_ C (by rw[oO,l4];rfl)) (zq C) C zy<|l9 (cs':=(bc [H6 s.size 1,H6 s.size 0,59]++bc s.data.toList)++rz 1++rz 5) (by rw[yy _ (rz 1)];rfl)<|aJ<|Za C<|Za C<|kS C U9 C C C zy<|Zaf C<|cx (j:=3+s.size) C U70 mU C Ya Yd Yd C zy<|Zf C ?_;refine aJ<|Za C<|Zj C CU C<|cD C U339 mU C C Yd Yd C zy<|Zq C cw C xq C<|eV C U70 mU C C Yd Yd C zy<|dD (ws:=(bc [H6 s.size 1,H6 s.size 0,59]++bc s.data.toList)++bc [59]++rz 5) C C C C mU .head ip (m_ (by simp[oO]<;>omega) C) (mT [59]) zy<|l9 (cs':=(bc [H6 s.size 1,H6 s.size 0,59]++bc s.data.toList++bc [59])++rz 4++rz 1) (by rw[yy _ (rz 4)];rfl)<|bX<|bK [] 2 5 12<|Za C<|cx (j:=1) C U70 mU C C Yd Yd C zy ?_;refine Zj C Gb C<|Er C U341 mU C C C zy<|OD (us:=bc (M7 (tA i s.data.toList))) (ws:=(bc [H6 s.size 1,H6 s.size 0,59]++bc s.data.toList++bc [59])++bc (M7 (tA i s.data.toList))++rz 1) C U70 C mU C C Yd xq C C .head ip (m_ (by simp[oO]<;>omega) C) (mT _) (zq C) C zy<|l9 (cs':=(bc [H6 s.size 1,H6 s.size 0,59]++bc s.data.toList++bc [59]++bc (M7 (tA i s.data.toList)))++rz 1++[]) (by rw[yr])<|aJ<|Za C<|Zj C CU C<|cD C U339 mU C C Yd Yd C zy<|Zq C cw C xq C<|eV C U70 mU C C Yd Yd C zy<|dD (ws:=(bc [H6 s.size 1,H6 s.size 0,59]++bc s.data.toList++bc [59]++bc (M7 (tA i s.data.toList)))++bc [10]++[]) C C C C mU .head (by simp[oO,l4,M7]<;>omega) (m_ (by simp[oO,M7]<;>omega) C) (mT [10]) zy<|l9 (cs':=bc (yJ i s.data.toList)) (by rw[yr,←vZ,←vZ,←vZ,←vZ];rfl) ?_;refine aJ<|Za C<|Wd ?_;have ha:bM 5 1 (qS bo (s.size+9) (s.size+9)) (s.size+9) (bc (yJ i s.data.toList)) [(bo,qC (bc (yJ i s.data.toList)) 5)]:=zt ⟨bo,s.size+9,[],C,zk _,by rw[yr],by rw[oO,uD,GR];omega,by rw[yr,oO,uD,GR];omega⟩
 refine dE (A:=[]) (B:=[(_,_),(_,_)]) ha C λD9 U I=>?_;exact aD C λD hD=>(I.bytes (by rw[uD,GR];omega) Yd).up RU.up (hD _ Yf)
theorem Yad(lv:Γ)(ls:List Λ)(D:aC)(hS:Sl D RS 1 lv ls)(hn:ls.length≤1000)(hsz:∀l∈ls,l.size≤1000):Fn prog 68 #[lv] D (λD' v=>Sl D' RU 1 v (M8 (gX ls))):=by
 have hfl:=λk=>MS (ls:=ls) k hn hsz
 refine Zx 19 func68 C (λh0=>aA<|Zf C<|bD<|Za C<|eQ C U22 C Yn C C zy<|Za C<|aE<|Za4<|Zc (Nat×Γ×aF) (λg=>ls.length-g.1) (λg=>g.1≤ls.length∧bM 5 1 g.2.1 (M8 ((gX ls).take g.1)).length (bc (M8 ((gX ls).take g.1))) g.2.2) (λg=>[(7,qI (g.1:Int)),(2,g.2.1)]) [(6,_),(5,_)] (λg=>g.2.2++[]) (λg=>[D]) (0,qN,[]) ⟨Yf,by simpa [M8,mA,bc]using bM.nil⟩ ⟨Ya,Ya,zy⟩ zp ?_);rintro⟨k,v,ν⟩ ⟨h1,ha⟩;simp only at h1 ha;have hflk:=hfl k;refine aA<|Zal C<|bX<|Zae C (λhc1=>?_) λhc1=>?_
 ·simp only at hc1;have hlt:k<ls.length:=Yd
  obtain⟨x,hx⟩:=cF ls k;have hxs:=hsz x (GE hx);refine aP<|Za6<|Za4<|aA<|Za C<|Zy C U22 lT C hS C hx λb1 o1 I O hE R=>?_;obtain rfl:I=[.string _]:=O;refine Zh 0 C yL C R C<|Zf C<|Zf C<|aE<|aM<|Za C<|Za C<|Za C<|Zz C (λD1 U=>Ez k x Yd (hsz x (GE hx)) _) λV D1 U Y=>aT (A:=[]) (B:=[]) C U70 C C mU YZ C d7 C C C ha (kX.bytes Y) Yf (by rw[oO,xp]) (by rw[oO,xp]) (mT _) (by rw[uD,GR];omega) (zq C) C zy λV ν1 ha1=>?_
  have Z:bM 5 1 V (M8 ((gX ls).take (k+1))).length (bc (M8 ((gX ls).take (k+1)))) ν1:=by rw[Nx (Lf hx),zf,vZ];exact ha1
  refine bB (ν1++[]) C<|uz ?_;exact aK 16 (k+1,V,ν1) ⟨Yl,Z⟩ Yl ⟨Ya,Ya,zy⟩ C C zp λD h=>⟨D,zb _ (h),Le.refl D⟩
 ·obtain rfl:k=ls.length:=by simp only at hc1;omega
  rw[show(gX ls).take ls.length=(gX ls)from ww (by simp[gX])]at ha hflk;refine Za9<|Za5<|Za5<|Zba<|Za2<|aA<|Za C<|Zf C<|aG<|dE (A:=[]) (B:=[]) ha C λD9 hF hB=>?_;exact aD C λD hD=>(hB.bytes C Yd).up RU.up (hD _ Yf)
theorem aGJ(lv:Γ)(ls:List Λ)(D:aC)(hS:Sl D RS 1 lv ls):Fn prog 22 #[lv] D (λD' v=>∃U,v=.tuple #[U,qI (fV ls)]∧Sl D' RU 1 U (if fV ls=0 then M8 (gX ls)else [])):=by
 refine Zx 12 func22 C λh0=>aA<|Zf C<|Zf C<|bD<|Za C<|Zd C (λY O=>zW _ ls _ (hS.up RS.up (O _ Yf)))<|Zf C<|aJ<|Za C<|Za0 C<|aE ?_;refine Zae C (λhc1=>?_) λhc1=>?_
 ·have hf:fV ls≠0:=xe
  refine qg ?_;exact Zp [_,_] C cE λD hD=>⟨_,C,by rw[zv hf];exact Sl.nil⟩
 ·have hf:fV ls=0:=xe
  refine aP<|aA<|Za C<|Zz C (λV I=>Yad _ ls _ (hS.up RS.up (I _ Yf)) (by have:=OU hf;omega) λl hl=>by have:=XZ hf l hl;omega) λv2 V I R=>tg ?_;exact Zp [_,_] C cE λD hD=>⟨_,by rw[hf];rfl,by rw[zo hf];exact R.up RU.up (hD _ Yf)⟩
end L12
open Go.Proofs
namespace L12
open C12 Go.Lib
theorem getD_some{l:List UInt8}{k:Nat}(h:k<l.length):l[k]?= some (l.getD k 0):=by simp[List.getD,yz h]
section
variable{i n:Nat}{bs:List UInt8}{f0 f1 f2 f3:UInt8}
end
theorem tf_z9:TZ prog 9 (.string ⟨#[]⟩):=TZ.of Yg
section
variable{P:Program}{X:Cx}{Q:Exit→Act→Δ→Prop}{T:bZ}{L:aF}{W:List aC}
theorem jK{c:Operand}{x y:Code}{b:Bool}(hc:ev T c=some (.bool b))(hb:b=true)(h:WC P X Q x T L W):WC P X Q (.cond c x y) T L W:=dw hc (λ_=>h) λe=>by rw[hb]at e;cases e
end
theorem Ph{b:UInt8}{n:Nat}(h:((b.toNat:Nat):Int)=(n:Int))(_hn:n<256:=by decide):b=UInt8.ofNat n:=by
 have h1:b.toNat=n:=Yd
 rw[←h1];simp
theorem _root_.Go.Fs.lB.strs{D:aC}{v:Γ}{n:Nat}{l:List Λ}(h:lB D v n (l.map Value.string))(hn:l.length=n)(hb:n≤9223372036854775807):Sl D RS 1 v l:=
 h.sl hn hb λi x hx=>⟨_,C,C,by rw[xp,List.take_one,List.head?_drop,xt,hx];rfl⟩
theorem aGN(s:Λ)(a b:Nat):(s.extract a b).data.toList=(s.data.toList.drop a).take (b-a):=by simp[List.extract_eq_take_drop]
def xG(line:Λ)(i f:Nat)(ws:List Λ):Prop:=f≤i∧ws.length≤i∧rO line.data.toList=gX ws++rO (line.data.toList.drop f)∧(32:UInt8)∉(line.data.toList.drop f).take (i-f)
theorem xG.zero{line:Λ}:xG line 0 0 []:=⟨zk _,zk _,by simp[gX],Yf⟩
theorem Jj{l:List UInt8}{f i:Nat}{b:UInt8}(hf:f≤i)(hb:l[i]?= some b):(l.drop f).take (i+1-f)=(l.drop f).take (i-f)++[b]:=by
 have h:(l.drop f)[i-f]?= some b:=by rw[vb,show f+(i-f)=i by omega];exact hb
 rw[show i+1-f=i-f+1 by omega,zg,h];rfl
theorem xG.miss{line:Λ}{i f:Nat}{ws:List Λ}{b:UInt8}(h:xG line i f ws)(hb:line.data.toList[i]?= some b)(hn:b≠32):xG line (i+1) f ws:=by
 obtain⟨h1,h2,h3,h4⟩:=h;refine⟨Yd,Yd,h3,?_⟩;rw[Jj h1 hb,zd,yf];rintro(h|h)
 ·exact h4 h
 ·exact hn h.symm
theorem xG.hit{line:Λ}{i f:Nat}{ws:List Λ}{b:UInt8}(h:xG line i f ws)(hb:line.data.toList[i]?= some b)(hn:b=32):xG line (i+1) (i+1) (ws++[line.extract f i]):=by
 subst hn;obtain⟨h1,h2,h3,h4⟩:=h;refine⟨zk _,xw,?_,Yf⟩
 have hg:(line.data.toList.drop f)[i-f]?= some 32:=by rw[vb,show f+(i-f)=i by omega];exact hb
 rw[h3,AY hg h4,List.drop_drop,show f+(i-f+1)=i+1 by omega];simp[gX]
theorem Ns{line:Λ}{f:Nat}{ws:List Λ}(h:xG line line.size f ws):eH line=ws++[line.extract f line.size]:=by
 obtain⟨h1,h2,h3,h4⟩:=h;have hl:line.data.toList.length=line.size:=rfl;have ht:(line.data.toList.drop f).take (line.size-f)=line.data.toList.drop f:=ww (by rw[vq,hl];exact zk _)
 rw[ht]at h4;unfold eH;rw[h3,W5 h4,ze,tn];have I:(gX ws).map rN=ws:=by
  unfold gX;rw[uf]
  conv=>rhs;rw[←List.map_id ws]
  exact qn λx _=>zV x
 rw[I];congr 2;rw[←zV (line.extract f line.size),aGN,ht]
def a8(w:List UInt8):Int:=match lV.find? (λx=>x.1==w)with
 |some (_,k,_)=>(k:Int)
 |none=> -1
def iY(l:List UInt8):Option (List Int):=match rO l with
 | []=>none
 |p::ps=>if a8 p=(ps.length:Int)then ps.mapM tI else none
theorem Waj{s:Λ}(h:0<s.size):s[(0:Int).toNat]?= some (s.data.toList.getD 0 0):=Sa (getD_some (k:=0) h)
theorem Xao{s:Λ}(h:((decide ((s.size:Int)<1)||decide (3<(s.size:Int)))||(decide (((s.data.toList.getD 0 0).toNat:Int)=48)&&decide (1<(s.size:Int))))=false):1≤s.size∧s.size≤3∧(s.data.toList.head?≠some 48∨s.size=1):=by
 simp only[xn,pf,yt]at h;obtain⟨⟨h1,h2⟩,h3⟩:=h;refine⟨Yd,Yd,?_⟩;rcases h3 with h3|h3
 ·left;intro e;apply h3;have:s.data.toList.getD 0 0=48:=by rw[List.getD,←List.head?_eq_getElem?,e];rfl
  rw[this];rfl
 ·right;omega
theorem aDB{s:Λ}(h:((decide ((s.size:Int)<1)||decide (3<(s.size:Int)))||(decide (((s.data.toList.getD 0 0).toNat:Int)=48)&&decide (1<(s.size:Int))))=true):tI s.data.toList=none:=by
 have hl:s.data.toList.length=s.size:=rfl;simp only[yg,zl,LE]at h;unfold tI;rcases h with(h|h)|⟨h,h2⟩
 ·have h0:s.data.toList=[]:=sc Yd;rw[h0];rfl
 ·exact zv Yd
 ·apply zv;rintro⟨_,h3|h3⟩
  ·apply h3;have h4:s.data.toList.getD 0 0=48:=Ph (n:=48) h;rw[List.head?_eq_getElem?,getD_some (k:=0) Yd,h4]
  ·omega
theorem Gt{n k:Nat}(h:n<10^k)(hk:k≤3):n<1000:=vc h (wu Yu hk)
theorem Bl{n k:Nat}{b:UInt8}(h:n<10^k)(hb:48≤b.toNat∧b.toNat≤57):n*10+(b.toNat-48)<10^(k+1):=by rw[Nat.pow_succ];omega
theorem Bj{l:List UInt8}{k n:Nat}{b:UInt8}(hb:l[k]?= some b)(hd:48≤b.toNat∧b.toNat≤57):decFrom n (l.drop k)=decFrom (n*10+(b.toNat-48)) (l.drop (k+1)):=by
 have hk:=(yx.1 hb).1;rw[xc hk,yi ((yz hk).symm.trans hb)];simp only[decFrom,digitVal,hd,vl,yo]
theorem Qu{s:Λ}(h:1≤s.size∧s.size≤3∧(s.data.toList.head?≠some 48∨s.size=1)):tI s.data.toList=(decFrom 0 s.data.toList).map λn:Nat=>(n:Int):=by
 have hl:s.data.toList.length=s.size:=rfl;unfold tI;rw[zo ⟨Yd,by rw[hl];exact h.2.2⟩]
 unfold decNat;rw[zv];rw[List.isEmpty_iff];intro e;rw[e]at hl;simp at hl;omega
theorem Ip{s:Λ}{k n:Nat}{b:UInt8}(hok:1≤s.size∧s.size≤3∧(s.data.toList.head?≠some 48∨s.size=1))(hd:decFrom 0 s.data.toList=decFrom n (s.data.toList.drop k))(hb:s.data.toList[k]?= some b)(hn:¬(48≤b.toNat∧b.toNat≤57)):tI s.data.toList=none:=by
 have hk:=(yx.1 hb).1;rw[Qu hok,hd,xc hk,yi ((yz hk).symm.trans hb)];simp only[decFrom,digitVal,hn,xx,vy]
theorem Db{s:Λ}{n:Nat}(hok:1≤s.size∧s.size≤3∧(s.data.toList.head?≠some 48∨s.size=1))(hd:decFrom 0 s.data.toList=decFrom n (s.data.toList.drop s.size)):tI s.data.toList=some (n:Int):=by
 have e:s.data.toList.drop s.size=[]:=wl (zk _);rw[Qu hok,hd,e];rfl
theorem aGU{line p0:Λ}{ps:List Λ}(h:eH line=p0::ps):rO line.data.toList=p0.data.toList::gX ps:=by
 unfold eH at h;cases hc:rO line.data.toList with
 |nil=>rw[hc]at h;cases h
 |cons p qs=>
  rw[hc]at h;simp only[yl,vx]at h;obtain⟨rfl,rfl⟩:=h;unfold gX;rw[uf];congr 1
  conv=>lhs;rw[←List.map_id qs]
  exact qn λx _=>C
theorem d9:∀ps:List Λ,(gX ps).mapM tI=ps.mapM wV
 | []=>rfl
 |p::ps=>by
  have h:gX (p::ps)=p.data.toList::gX ps:=rfl;rw[h,uy,uy,d9 ps];rfl
theorem AS{line p0:Λ}{ps:List Λ}(h:eH line=p0::ps):iY line.data.toList=if a8 p0.data.toList=(ps.length:Int)then ps.mapM wV else none:=by
 unfold iY;rw[aGU h];simp only[d9];unfold gX;rw[yh]
theorem Jg{line p0:Λ}{ps:List Λ}(h:eH line=p0::ps)(h1:a8 p0.data.toList≠((eH line).length:Int)-1):iY line.data.toList=none:=by
 rw[AS h,zv];intro e;apply h1;rw[e,h,zh];omega
theorem aFW{p0 x:Λ}{ps:List Λ}{k:Nat}(h:ps[k]?= some x):(p0::ps)[(((k+1:Nat):Int)).toNat]?= some x:=by rw[xr];simpa using h
theorem Bf{line p0 x:Λ}{ps:List Λ}{k:Nat}(h:eH line=p0::ps)(_:¬a8 p0.data.toList≠((eH line).length:Int)-1)(hx:ps[k]?= some x)(hn:tI x.data.toList=none):iY line.data.toList=none:=by
 rw[AS h,CC hx hn,ite_self]
theorem Jo{line p0:Λ}{ps:List Λ}{ns:List Int}(h:eH line=p0::ps)(h1:¬a8 p0.data.toList≠((eH line).length:Int)-1)(hn:ps.mapM wV=some ns):iY line.data.toList=some ns:=by
 rw[AS h,zo,hn];have:=qk.1 h1;rw[this,h,zh];omega
theorem Gj{w:Λ}(h0:¬w=⟨#[112,108,97,99,101]⟩)(h1:¬w=⟨#[117,110,99,111,117,110,116]⟩)(h2:¬w=⟨#[119,114,111,110,103]⟩)(h3:¬w=⟨#[111,102,102]⟩)(h4:¬w=⟨#[115,116,101,112]⟩)(h5:¬w=⟨#[108,101,118,101,108]⟩)(h6:¬w=⟨#[117,110,109,97,114,107]⟩)(h7:¬w=⟨#[115,109,117,100,103,101]⟩)(h8:¬w=⟨#[115,116,114,105,107,101]⟩)(h9:¬w=⟨#[102,105,116]⟩)(I:¬w=⟨#[117,110,99,108,97,105,109]⟩)(O:¬w=⟨#[115,101,101,110]⟩)(R:¬w=⟨#[99,111,117,110,116]⟩)(U:¬w=⟨#[98,97,99,107]⟩)(V:¬w=⟨#[114,97,105,115,101]⟩)(Y:¬w=⟨#[104,105,114,101]⟩)(Z:¬w=⟨#[98,114,105,110,103]⟩)(hB:¬w=⟨#[99,108,97,105,109]⟩)(hE:¬w=⟨#[116,105,100,101]⟩)(hF:¬w=⟨#[112,97,114,116]⟩)(hH:¬w=⟨#[109,97,114,107]⟩)(hI:¬w=⟨#[98,114,111,107,101,110]⟩):a8 w.data.toList= -1:=by
 have key:∀l:List UInt8,w≠⟨l.toArray⟩→(l==w.data.toList)=false:=λl h=>by
  rw[beq_eq_false_iff_ne];rintro rfl;exact h (zV w).symm
 unfold a8 lV;simp only[List.find?_cons,List.find?_nil,key [112,108,97,99,101] h0,key [117,110,99,111,117,110,116] h1,key [119,114,111,110,103] h2,key [111,102,102] h3,key [115,116,101,112] h4,key [108,101,118,101,108] h5,key [117,110,109,97,114,107] h6,key [115,109,117,100,103,101] h7,key [115,116,114,105,107,101] h8,key [102,105,116] h9,key [117,110,99,108,97,105,109] I,key [115,101,101,110] O,key [99,111,117,110,116] R,key [98,97,99,107] U,key [114,97,105,115,101] V,key [104,105,114,101] Y,key [98,114,105,110,103] Z,key [99,108,97,105,109] hB,key [116,105,100,101] hE,key [112,97,114,116] hF,key [109,97,114,107] hH,key [98,114,111,107,101,110] hI]
theorem DY(line:Λ)(hl:line.size≤1000)(D:aC):Fn prog 20 #[.string line] D (λD' v=>Sl D' RS 1 v (eH line)):=by
 refine Zx 31 func20 C λh0=>aA<|Zf C<|aJ<|Zf C<|aJ<|Zf C<|bD<|Zf C<|aE<|Za4<|Zc (Nat×Nat×List Λ×Γ×aF) (λg=>line.size-g.1) (λg=>g.1≤line.size∧xG line g.1 g.2.1 g.2.2.1∧bM 9 1 g.2.2.2.1 g.2.2.1.length (g.2.2.1.map Value.string) g.2.2.2.2) (λg=>[(5,qI (g.1:Int)),(4,qI (g.2.1:Int)),(3,g.2.2.2.1)]) [(2,_),(0,_)] (λg=>g.2.2.2.2++[]) (λg=>[D]) (0,0,[],qN,[]) ⟨Yf,xG.zero,mn⟩ ⟨Ya,Ya,Ya,zy⟩ zp ?_;rintro⟨i,f,ws,v,ν⟩ ⟨h1,hw,ha⟩;simp only at h1 hw ha;have hfi:=hw.1;have hwl:=hw.2.1;refine bL<|Za C<|Za C<|kS C U9 C C C zy<|Zal C<|aE<|Zae C (λhc1=>?_) λhc1=>?_
 ·simp only at hc1;have hi:i<line.size:=Yd
  obtain⟨b,hb⟩:∃b,line.data.toList[i]?= some b:=⟨_,yz wy⟩
  refine aP<|Za6<|Za4<|aA<|Za C<|Za C<|sW C U9 C C Yd kl C zy<|Zas C<|aE<|Zae C (λhc2=>?_) λhc2=>?_
  ·have I:b=32:=Ph hc2;refine aA<|Za C<|Za C<|Za C<|Za C<|Lz C U9 C C C tz tz tz C zy<|Zu C U22 lT tf_z9 C (.cons C C .nil) (λhB D901 V R=>aT (A:=[]) (B:=[]) C U22 C C lT tf_z9 C gx C C C ha (kX.lit R) Yf C (by rw[yh,xp]) Ym Yd (zq C) C zy λv1 ν1 ha1=>?_);have O:bM 9 1 v1 (ws++[line.extract f i]).length ((ws++[line.extract f i]).map Value.string) ν1:=by rw[zf,ze];exact ha1
   refine bB (ν1++[]) C<|Zf C<|aE<|aM<|Za C<|Zaf C<|Zf C<|Zap<|Za7<|Za2<|aM<|Za C ?_;refine Zaf C<|sg ?_;exact aK 25 (i+1,i+1,ws++[line.extract f i],v1,ν1) ⟨Yl,hw.hit hb I,O⟩ Yl ⟨Ya,Ya,Ya,zy⟩ C C zp λD h=>⟨D,zb _ (h),Le.refl D⟩
  ·have I:b≠32:=λe=>hc2 qy
   refine xz ?_;exact aK 14 (i+1,f,ws,v,ν) ⟨Yl,hw.miss hb I,ha⟩ Yl ⟨Ya,Ya,Ya,zy⟩ C C zp (aN)
 ·obtain rfl:i=line.size:=by simp only at hc1;omega
  refine Za9<|Za5<|Za5<|Zba<|Za2<|aA<|Za C<|Za C<|Za C<|VN C U9 C C tz tz C zy<|Zu C U22 lT tf_z9 C (.cons C C .nil) (λhE hF Y U=>aT (A:=[]) (B:=[]) C U22 C C lT tf_z9 C gx C C C ha (kX.lit U) Yf C (by rw[yh,xp]) Ym Yd (zq C) C zy λv2 ν2 O=>?_);have O:bM 9 1 v2 (ws++[line.extract f line.size]).length ((ws++[line.extract f line.size]).map Value.string) ν2:=by rw[zf,ze];exact O
  refine bB (ν2++[]) C<|Zf C<|aG<|dE (A:=[]) (B:=[]) O C λD9 hH Z=>?_;exact aD C λD hD=>(by rw[Ns hw];exact(Z.strs C (by rw[zf,ve];omega)).up RS.up (hD _ Yf))
theorem Lh(s:Λ)(D:aC):Fn prog 66 #[.string s] D (λ_ v=>∃m b,v=.tuple #[qI m,.bool b]∧(b=true→tI s.data.toList=some m)∧(b=false→tI s.data.toList=none)):=by
 refine Zx 49 func66 C λh0=>aA<|Zf C<|Zf C<|bD<|Za C<|kS C U9 C C C zy<|sh ?_;refine' dU 4 (s:=9) (p:=13) C (λO=>?_) (λO=>?_) ?_;rotate_left
 ·refine Zb C<|kS C U9 C C C ⟨_,C,C⟩<|Wy ?_;exact aQ 3
 ·refine mx ?_;exact aQ 3
 refine Za C ?_;refine' dU 9 (s:=14) (p:=23) C (λI=>?_) (λI=>?_) ?_;rotate_left
 ·have hz:0<s.size:=by have:=I;simp at this;omega
  refine Zb C<|sW C U9 C C Yd (Waj hz) C ⟨_,C,C⟩<|sQ C C C C ⟨_,C,C⟩<|Zb C ?_;refine' bU 4 (s:=18) (p:=22) C (λR=>?_) (λR=>?_) ?_;rotate_left
  ·refine Zb C<|kS C U9 C C C ⟨_,C,C⟩<|Zau C<|oR C C C C ⟨_,C,C⟩ ?_;exact aQ 3
  ·refine Zg C<|jn ?_;exact aQ 3
  refine Zan C ?_;exact aQ 5
 ·refine oh ?_;exact aQ 8
 refine aE<|Zai C (λhc1=>?_) λhc1=>?_
 ·refine aA<|Zf C<|Wi ?_;exact Zp [_,_] C cE λD hD=>⟨0,false,C,(λh=>wg),λ_=>aDB hc1⟩
 ·have hok:=Xao hc1;refine aP<|aA<|Zf C<|bD<|Zf C<|aE<|Za4<|cW (γ:=Nat×Nat) (λg=>s.size-g.1) (λg=>g.1≤s.size∧g.2<10^g.1∧decFrom 0 s.data.toList=decFrom g.2 (s.data.toList.drop g.1)) (λg=>[(5,qI (g.1:Int)),(4,qI (g.2:Int))]) [(3,_),(2,_),(0,_)] (λg=>[D]) (0,0) ⟨Yf,Yf,Yf⟩ ⟨Ya,Ya,zy⟩ cE (aN) ?_;rintro⟨k,n⟩ ⟨h1,hn,hd⟩;simp only at h1 hn hd;have V:=Gt hn (xj h1 hok.2.1);refine bL<|Za C<|Za C<|kS C U9 C C C zy<|Zal C<|aE<|Zae C (λhc2=>?_) (λhc2=>?_)
  ·simp only at hc2;have hk:k<s.size:=Yd
   obtain⟨b,hb⟩:∃b,s.data.toList[k]?= some b:=⟨_,yz kx⟩
   have Y:=b.toNat_lt;refine aP<|Za6<|Za4<|bL<|Za C<|Za C<|sW C U9 C C Yd kl C zy<|sh ?_;refine' dU 5 (s:=34) (p:=39) C (λU=>?_) (λU=>?_) ?_;rotate_left
   ·refine Zb C<|Zb C<|sW C U9 C C Yd kl C ⟨_,C,C⟩<|Wy ?_;exact aQ 4
   ·refine Wf ?_;exact aQ 4
   refine aE<|Zai C (λhc3=>?_) λhc3=>?_
   ·refine aA<|Zf C<|jj ?_;exact Zp [_,_] C cE λD hD=>⟨0,false,C,(λh=>wg),λ_=>Ip hok hd hb (by simp at hc3;omega)⟩
   ·have hbd:48≤b.toNat∧b.toNat≤57:=by simp at hc3;omega
    refine aP<|aM<|Za C<|EM C C C Ye C zy<|Za C<|Za C<|sW C U9 C C Yd kl C zy<|Zax C<|mJ C U5 U3 C Ye C zy<|Zaf C<|sg ?_;refine Wa ?_;exact aK 24 (k+1,n*10+(b.toNat-48)) ⟨Yl,Bl hn hbd,by simp only;rw[hd,Bj hb hbd]⟩ Yl ⟨Ya,Z_,zy⟩ C C zp (aN)
  ·obtain rfl:k=s.size:=by simp only at hc2;omega
   refine Za9<|Za5<|Za5<|Zba<|Za2<|aA<|Za C<|tg ?_;exact Zp [_,_] C cE λD hD=>⟨_,true,C,λ_=>Db hok hd,λh=>wg⟩
theorem wY(w:Λ)(D:aC):Fn prog 65 #[.string w] D (λ_ v=>v=qI (a8 w.data.toList)):=by
 refine Zx 31 func65 C λh0=>aA<|Zf C<|bD<|Za C<|aE<|Za4<|aA<|Zay C<|Zf C<|aE<|Zai C (λhc1=>?_) λhc1=>?_
 ·refine Wm ?_;exact aD C λD hD=>by obtain rfl:=yn hc1;rfl
 ·refine bL<|Zay C<|Zf C<|aE<|Zai C (λhc2=>?_) (λhc2=>?_)
  ·refine aP<|jK C hc2<|Wm ?_;exact aD C λD hD=>by obtain rfl:=yn hc2;rfl
  ·refine aA<|Zay C<|Zf C<|aE<|Zai C (λhc3=>?_) (λhc3=>?_)
   ·refine aP<|jK C hc3<|Wm ?_;exact aD C λD hD=>by obtain rfl:=yn hc3;rfl
   ·refine aA<|Zay C<|Zf C<|aE<|Zai C (λhc4=>?_) (λhc4=>?_)
    ·refine aP<|jK C hc4<|Wm ?_;exact aD C λD hD=>by obtain rfl:=yn hc4;rfl
    ·refine aA<|Zay C<|Zf C<|aE<|Zai C (λhK=>?_) (λhK=>?_)
     ·refine aP<|jK C hK<|Wm ?_;exact aD C λD hD=>by obtain rfl:=yn hK;rfl
     ·refine aA<|Zay C<|Zf C<|aE<|Zai C (λhN=>?_) (λhN=>?_)
      ·refine aP<|jK C hN<|Wm ?_;exact aD C λD hD=>by obtain rfl:=yn hN;rfl
      ·refine aA<|Zay C<|Zf C<|aE<|Zai C (λhO=>?_) (λhO=>?_)
       ·refine aP<|jK C hO<|Wm ?_;exact aD C λD hD=>by obtain rfl:=yn hO;rfl
       ·refine aA<|Zay C<|Zf C<|aE<|Zai C (λhP=>?_) (λhP=>?_)
        ·refine aP<|jK C hP<|Wm ?_;exact aD C λD hD=>by obtain rfl:=yn hP;rfl
        ·refine aA<|Zay C<|Zf C<|aE<|Zai C (λhR=>?_) (λhR=>?_)
         ·refine aP<|jK C hR<|Wm ?_;exact aD C λD hD=>by obtain rfl:=yn hR;rfl
         ·refine aA<|Zay C<|Zf C<|aE<|Zai C (λI=>?_) (λI=>?_)
          ·refine aP<|jK C I<|Wm ?_;exact aD C λD hD=>by obtain rfl:=yn I;rfl
          ·refine aM<|Zay C<|Zf C<|aE<|Zai C (λhF=>?_) (λhF=>?_)
           ·refine Wm ?_;exact aD C λD hD=>by obtain rfl:=yn hF;rfl
           ·refine bL<|Zay C<|Zf C<|aE<|Zai C (λO=>?_) (λO=>?_)
            ·refine aP<|jK C O<|Wm ?_;exact aD C λD hD=>by obtain rfl:=yn O;rfl
            ·refine aA<|Zay C<|Zf C<|aE<|Zai C (λR=>?_) (λR=>?_)
             ·refine aP<|jK C R<|Wm ?_;exact aD C λD hD=>by obtain rfl:=yn R;rfl
             ·refine aA<|Zay C<|Zf C<|aE<|Zai C (λU=>?_) (λU=>?_)
              ·refine aP<|jK C U<|Wm ?_;exact aD C λD hD=>by obtain rfl:=yn U;rfl
              ·refine aA<|Zay C<|Zf C<|aE<|Zai C (λV=>?_) (λV=>?_)
               ·refine aP<|jK C V<|Wm ?_;exact aD C λD hD=>by obtain rfl:=yn V;rfl
               ·refine aA<|Zay C<|Zf C<|aE<|Zai C (λY=>?_) (λY=>?_)
                ·refine aP<|jK C Y<|Wm ?_;exact aD C λD hD=>by obtain rfl:=yn Y;rfl
                ·refine aA<|Zay C<|Zf C<|aE<|Zai C (λZ=>?_) (λZ=>?_)
                 ·refine aP<|jK C Z<|Wm ?_;exact aD C λD hD=>by obtain rfl:=yn Z;rfl
                 ·refine aM<|Zay C<|Zf C<|aE<|Zai C (λhH=>?_) (λhH=>?_)
                  ·refine Wm ?_;exact aD C λD hD=>by obtain rfl:=yn hH;rfl
                  ·refine bL<|Zay C<|Zf C<|aE<|Zai C (λhB=>?_) (λhB=>?_)
                   ·refine aP<|jK C hB<|Wm ?_;exact aD C λD hD=>by obtain rfl:=yn hB;rfl
                   ·refine aM<|Zay C<|Zf C<|aE<|Zai C (λhI=>?_) (λhI=>?_)
                    ·refine Wm ?_;exact aD C λD hD=>by obtain rfl:=yn hI;rfl
                    ·refine bL<|Zay C<|Zf C<|aE<|Zai C (λhE=>?_) (λhE=>?_)
                     ·refine aP<|jK C hE<|Wm ?_;exact aD C λD hD=>by obtain rfl:=yn hE;rfl
                     ·refine aM<|Zay C<|Zf C<|aE<|Zai C (λhJ=>?_) (λhJ=>?_)
                      ·refine Wm ?_;exact aD C λD hD=>by obtain rfl:=yn hJ;rfl
                      ·refine bE<|Wz ?_;exact aD C λD hD=>by show Value.int _ _=_;rw[Gj (w:=w) (ye hc1) (ye hc2) (ye hc3) (ye hc4) (ye hK) (ye hN) (ye hO) (ye hP) (ye hR) (ye I) (ye hF) (ye O) (ye R) (ye U) (ye V) (ye Y) (ye Z) (ye hH) (ye hB) (ye hI) (ye hE) (ye hJ)]
theorem ER(line:Λ)(hl:line.size≤1000)(D:aC):Fn prog 19 #[.string line] D (λD' v=>∃nv b,v=.tuple #[nv,.bool b]∧(match iY line.data.toList with|some ns=>b=true∧Sl D' RI 1 nv ns|none=>b=false)):=by
 obtain⟨p0,ps,hcut⟩:=qR line;have hcl:=V6 line;have R:(eH line)[0]?= some p0:=by rw[hcut];rfl
 have hpl:(eH line).length=ps.length+1:=by rw[hcut];rfl
 refine Zx 40 func19 C λh0=>aA<|Zf C<|Zf C<|aJ<|Za C<|Zz C (λD1 U=>DY line hl _) λV D1 U O=>Zf C<|bD<|Za C<|Zy C U22 lT C O C R λb1 o1 Y Z hX hB=>?_;obtain rfl:Y=[.string _]:=Z;refine Zh 0 C yL C hB C<|Zd C (λD2 rB=>wY p0 _)<|Za C<|Zaj C U22 C O C<|Zax C<|Za0 C<|aE<|Zae C (λhc1=>?_) λhc1=>?_
 ·refine aA<|Zf C<|Wi ?_;exact Zp [_,_] C cE λD hD=>⟨_,false,C,by rw[Jg hcut hc1]⟩
 ·refine aP<|aA<|Zf C<|bD<|Zf C<|aE<|Za4<|Zc (Nat×List Int×Γ×aF) (λg=>ps.length-g.1) (λg=>g.1≤ps.length∧(ps.take g.1).mapM wV=some g.2.1∧g.2.1.length=g.1∧bM 3 1 g.2.2.1 g.1 (ints g.2.1) g.2.2.2) (λg=>[(6,qI ((g.1+1:Nat):Int)),(5,g.2.2.1)]) [(4,_),(3,_),(2,_)] (λg=>g.2.2.2++[]) (λg=>[D1,D]) (0,[],qN,[]) ⟨Yf,C,C,qz⟩ ⟨Ya,Ya,zy⟩ zp ?_;rintro⟨k,ns,v,ν⟩ ⟨h1,h2,h3,ha⟩;simp only at h1 h2 h3 ha;refine bL<|Za C<|Za C<|Zaj C U22 C O C<|Zal C<|aE<|Zae C (λhc2=>?_) (λhc2=>?_)
  ·simp only at hc2;have hk:k<ps.length:=Yd
   obtain⟨x,hx⟩:=cF ps k;refine aP<|Za6<|Za4<|aA<|Za C<|Za C<|Zy C U22 lT C O C (by rw[hcut];exact aFW hx) λb2 o2 hE hF hY hH=>?_
   obtain rfl:hE=[.string _]:=hF;refine Zh 0 C yL C hH C<|Zz C (λD3 hI=>Lh x _) λv3 D3 hI hJ=>?_;obtain⟨m,nb,rfl,hK,hN⟩:=hJ;refine Za C<|Zar C<|Zar C<|Zf C<|Zf C<|bD<|Za C<|Zav C<|aE<|Zai C (λhc3=>?_) λhc3=>?_
   ·refine aA<|Zf C<|jj ?_;exact Zp [_,_] C cE λD hD=>⟨_,false,C,by rw[Bf hcut hc1 hx (hN ua)]⟩
   ·have hnb:nb=true:=ua
    refine aP<|aM<|Za C<|Za C<|Zu C U35 aI cN C (.cons C C .nil) λrA D901 hO I=>?_;have hP:=Sl.ofInts (l:=[_]) (n:=1) (cap:=1) I C Yd Yd;refine aT (A:=[]) (B:=[]) C U35 C C aI cN C jV C C C ha (kX.lit I) Yf C (by simp[ints,h3]) Ym Yd (zq C) C zy λV ν1 ha1=>?_;have hR:bM 3 1 V (k+1) (ints (ns++[m])) ν1:=by rw[←eL];exact ha1
    refine bB (ν1++[]) C<|Wp ?_;exact aK 26 (k+1,ns++[m],V,ν1) ⟨Yl,ZT hx h2 (hK hnb),by simp[h3],hR⟩ Yl ⟨Ya,Ya,zy⟩ C C zp λD h=>⟨D,zb _ (zb _ (h)),Le.refl D⟩
  ·obtain rfl:k=ps.length:=by simp only at hc2;omega
   rw[ym]at h2;refine Za9<|Za5<|Za5<|Zba<|Za2<|aA<|Za C<|Zf C<|Zf C<|aG<|dE (A:=[]) (B:=[]) ha C λD9 hD9 hS=>?_;have hns:=hS.ints (l:=ns) h3 Yd;exact Zp [_,_] C cE λD hD=>⟨_,true,C,by rw[Jo hcut hc1 h2];exact⟨C,hns.up RI.up (hD _ Yf)⟩⟩
end L12
theorem Ll{t e tr:Θ}{sz n cap:Nat}{ad ad':Option Addr}{c':Nat}{ats:Array Θ}
  (ho:G[ix]?= some ⟨some d,.call {callee:=.builtin .append,args:=#[x,y],argTypes:=ats},tr,pos,aft,g⟩) (ht:P.underlying t=some (.slice e)) (hat:ats[0]?= some t) (I:ats[1]?= some t) (hs:TS P e sz)
  (hx:ev T x=some (.slice ad n cap)) (hy:ev T y=some (.slice ad' 0 c')) (hcap:n≤cap) (hN:Nat.blt d X.N=true) (hg:dF G T g)
  (kk:WL P X H G K Q os ((d,.slice ad n cap)::T) L W):WL P X H G K Q ((fl,ix)::os) T L W:=by
 refine fW ho C C hg λa w hh=>?_
 have hex:(execOp a.eval ⟨some d,.call {callee:=.builtin .append,args:=#[x,y],argTypes:=ats},tr,pos,aft,g⟩).run P w=
   ((Builtin.append_ ats tr #[.slice ad n cap,.slice ad' 0 c']).run P w).andThen λr w'=>.ok (.value r) w':=by
  simp only[execOp,resolve,pure_bind,invoke,builtin];have O:(#[x,y].map a.eval)=#[.slice ad n cap,.slice ad' 0 c']:=kz
  rw[O,Ω];simp only[ε]
 rw[hex];have hfc:(Builtin.firstCells sz 0 (.slice ad' 0 c')).run P w=.ok ([]:List Γ).toArray w:=by
  cases ad' with
  |none=>rfl
  |some a=>simp[Builtin.firstCells,loadCells,loadCellsFrom]
 rw[N0 (tr:=tr) (w':=w) ht hat I hs (m:=0) (xs:=[]) C hfc hcap (by cases ad<;>rfl)];exact⟨λ_=>rL.refl _ _,kk _ _ (hh.put hN _)⟩
theorem Gr{t e tr:Θ}{sz n m b:Nat}{D₁ D₂:aC}{cells xs:List Γ}{xv:Γ}{z0:Γ}{ats:Array Θ}
  (ho:G[ix]?= some ⟨some d,.call {callee:=.builtin .append,args:=#[x,y],argTypes:=ats},tr,pos,aft,g⟩) (ht:P.underlying t=some (.slice e)) (hat:ats[0]?= some t) (I:ats[1]?= some t)
  (hs:TS P e sz) (hz:TZ P e z0) (O:Nat.beq z0.cells.size sz=true) (hi:(P.info? e).map (λi=>Nat.ble 1 i.bytes&&Nat.ble i.bytes 4096)=some true)
  (hx:ev T x=some (qS b n n)) (hy:ev T y=some xv) (hA:At D₁ b 0 cells) (hD:D₁∈W) (hcl:cells.length=n*sz) (hsrc:kX D₂ xv m xs) (R:D₂∈W) (hxl:xs.length=m*sz) (Y:0<m) (hlen:n+m≤10000000) (hN:Nat.blt d X.N=true) (hg:dF G T g)
  (kk:∀v' ν',bM e sz v' (n+m) (cells++xs) ν'→WL P X H G K Q os ((d,v')::T) (ν'++L) W):WL P X H G K Q ((fl,ix)::os) T L W:=by
 refine fW ho C C hg λa w hh=>?_
 obtain⟨h1,h2,h3,D,h4,h5,Z⟩:=id hh;obtain⟨i0,hi,U,V⟩:∃i0,P.info? e=some i0∧1≤i0.bytes∧i0.bytes≤4096:=by
  cases h:P.info? e with
  |none=>simp[h]at hi
  |some i=>simp[h]at hi;exact⟨i,C,hi⟩
 have hz1':=wa O;have hex:(execOp a.eval ⟨some d,.call {callee:=.builtin .append,args:=#[x,y],argTypes:=ats},tr,pos,aft,g⟩).run P w=
   ((Builtin.append_ ats tr #[qS b n n,xv]).run P w).andThen λr w'=>.ok (.value r) w':=by
  simp only[execOp,resolve,pure_bind,invoke,builtin];have e1:(#[x,y].map a.eval)=#[qS b n n,xv]:=kz
  rw[e1,Ω];simp only[ε]
 rw[hex];have lies:∀{D₀:aC} (_:D₀∈W) (w':Δ),w'.heap=w.heap→∀b o ys,At D₀ b o ys→k_ w' b o ys:=λhD₀ w' hw' b o ys hA j u hj=>by
  have:=h4.agr.cell ((h5 _ hD₀).get (hA j u hj));unfold World.cell? at this ⊢
  rw[hw'];exact this
 obtain⟨c,hc,hrun⟩:=DB (tr:=tr) (w:=w) (a:=some ⟨b,0,none⟩) (n:=n) (cap:=n) (old:=cells) ht hat I hs hz hi (OT hsrc) (λw' hw'=>R4 hsrc hxl λb o=>lies R w' hw' b o xs) (λw' hw'=>by
  simp only[Builtin.firstCells];exact pL hcl (lies hD w' hw' b 0 cells hA)) Yd hlen ⟨U,V⟩
 rw[hrun];obtain⟨junk,hjunk⟩:∃junk:List Γ,cells.toArray++xs.toArray++Builtin.zeroCells z0.cells (c-(n+m))=(cells++xs++junk).toArray∧(cells++xs++junk).length=c*sz:=by
  refine⟨(Builtin.zeroCells z0.cells (c-(n+m))).toList,Yf,?_⟩;have:=P1 z0.cells (c-(n+m));simp only[zf,Array.length_toList,this,hz1',hcl,hxl];rw[←xb,←xb];congr 1;omega
 have hpush:=h4.push (.cells (cells++xs++junk).toArray e (0,0)) C;simp only[Ξ];rw[hjunk.1];refine⟨λ_=>⟨Yf,λb hb _=>dV hb⟩,?_⟩;have hst:jH X.h0 X.lo X.D0 X.mods ([(w.heap.size,.cells (cells++xs++junk).toArray e (0,0))]++L) D {w with drawn:=w.drawn+1,heap:=w.heap.push (.cells (cells++xs++junk).toArray e (0,0))}:=
  ⟨hpush.hlo,hpush.size,hpush.old,hpush.dold,hpush.agr,hpush.box,hpush.nd,hpush.fz,hpush.env⟩
 exact kk _ _ (zt ⟨_,c,junk,C,hc,C,by simp[hcl,hxl,xb],hjunk.2⟩) _ _ (Hl.put ⟨h1,h2,h3,D,hst,h5,Z.step (λ_ p hp=>by
  rcases zd.1 hp with hp|hp
  ·exact zt (by rw[yf.1 hp];exact zk _)
  ·exact zq (n5.2 ⟨p,hp,C⟩)) (λ_=>⟨Yf,λb hb _=>⟨dV hb,C⟩,C⟩) hst.dom⟩ hN _)
namespace L12
open C12 Go.Lib
theorem Ke(l:List Λ):∀u∈l.map Value.string,cell1 u=true:=by
 intro u hu;obtain⟨x,_,rfl⟩:=n5.1 hu;rfl
theorem Cu{α:Type}(f:α→Γ)(l:List α):l.flatMap (λx=>[f x])=l.map f:=by
 induction l with
 |nil=>rfl
 |cons a l ih=>rw[xy,ih];rfl
theorem _root_.Go.Fs.kX.strs{D:aC}{v:Γ}{l:List Λ}(h:Sl D RS 1 v l):kX D v l.length (l.map Value.string):=by
 rw[←Cu];exact kX.of (R:=RS) (λ_ _ _ h=>h) (λ_=>C) h
section
variable{α:Type}[DecidableEq α]{xs ys:List α}{a b:α}{k:Nat}
omit [DecidableEq α]in
theorem Cg(ha:xs[k]?= some a)(hb:ys[k]?= some b)(h:xs.take k=ys.take k)(e:a=b):xs.take (k+1)=ys.take (k+1):=by
 rw[zg,zg,ha,hb,h,e]
theorem aEF(h:xs.length≠ys.length):decide (xs=ys)=false:=decide_eq_false λe=>h (by rw[e])
theorem Xbb(ha:xs[k]?= some a)(hb:ys[k]?= some b)(h:a≠b):decide (xs=ys)=false:=decide_eq_false λe=>h (by rw[e,hb]at ha;exact(yi ha).symm)
theorem aFT(hl:xs.length=ys.length)(hk:xs.length≤k)(h:xs.take k=ys.take k):decide (xs=ys)=true:=oo (by rwa [ww hk,ww Yd]at h)
end
theorem S_{xs:List Λ}{x:Λ}{k n:Nat}(hx:xs[k]?= some x)(h:∀y∈xs.take k,y.size≤n)(hs:x.size≤n):∀y∈xs.take (k+1),y.size≤n:=by
 intro y hy;rw[zg,hx,zd]at hy;rcases hy with hy|hy
 ·exact h y hy
 ·simp at hy;subst hy;exact hs
theorem XG{xs:List Λ}(h:40<xs.length):fV xs=3:=by
 unfold fV;rw[zo];simp;left;omega
theorem YI{xs:List Λ}{x:Λ}{k:Nat}(hx:xs[k]?= some x)(h:50<x.size):fV xs=3:=by
 unfold fV;rw[zo];simp only[yg,LE,vt,ql];exact zt ⟨x,GE hx,xw⟩
theorem Io{xs:List Λ}(h:xs.length≤40)(h2:∀x∈xs,x.size≤50):fV xs=0:=by
 unfold fV;rw[zv];simp only[yg,LE,vt,ql,wn,not_exists,not_and];refine⟨Yd,λx hx=>?_⟩;have:=h2 x hx;simp;omega
def ID(xs:List Λ):Bool:=decide (xs.length≤45)&&xs.all λx=>decide (x.size≤70)
theorem U8{xs:List Λ}:ID xs=true ↔ xs.length≤45∧∀x∈xs,x.size≤70:=by unfold ID;simp
theorem N_{xs:List Λ}{x:Λ}{k:Nat}(hx:xs[k]?= some x)(h:70<x.size):ID xs=false:=by
 rw[←Bool.not_eq_true,U8];rintro⟨_,h2⟩;have:=h2 x (GE hx);omega
theorem Ii{xs:List Λ}{k:Nat}(hk:xs.length≤k∨46≤k)(h:∀x∈xs.take k,x.size≤70):ID xs=decide ((xs.length:Int)≤45):=by
 rw[vv,U8,LE];constructor
 ·rintro⟨h1,_⟩;omega
 ·intro h1;have h2:xs.take k=xs:=ww Yd;rw[h2]at h;exact⟨Yd,h⟩
theorem LD:∀{ps:List (List UInt8)} {ns:List Int},ps.mapM tI=some ns→ns.length=ps.length
 | [],ns,h=>by
  obtain rfl:([]:List Int)=ns:=xd
  rfl
 |p::ps,ns,h=>by
  rw[uy]at h;cases hp:tI p with
  |none=>rw[hp]at h;cases h
  |some q=>
   cases hq:ps.mapM tI with
   |none=>rw[hp,hq]at h;cases h
   |some qs=>
    rw[hp,hq]at h;obtain rfl:q::qs=ns:=yi h;rw[zh,zh,LD hq]
theorem aII{x:Λ}{ns:List Int}(h:iY x.data.toList=some ns)(hs:x.size≤1000):ns.length≤1001:=by
 have hc:=RO x.data.toList;have hl:x.data.toList.length=x.size:=rfl;unfold iY at h;split at h
 ·cases h
 ·rename_i p ps hps;split at h
  ·have:=LD h;rw[hps,zh]at hc;omega
  ·cases h
theorem OI{D:aC}{nv:Γ}{nb:Bool}{o:Option (List Int)}(hb:nb=false)(h:match o with|some ns=>nb=true∧Sl D RI 1 nv ns|none=>nb=false):o=none:=by
 cases o with
 |none=>rfl
 |some ns=>rw[hb]at h;cases h.1
def Y8(br:Bool)(ns:List Int)(j:Nat):Nat:=((List.range j).filter λi=>(decide (1≤i)&&decide (ns[i]?= some 2))&&(br||decide (i=2))).length
theorem WV(br:Bool)(ns:List Int):Y8 br ns 1=0:=rfl
theorem Rx(br:Bool)(ns:List Int)(j:Nat):Y8 br ns j≤j:=by
 unfold Y8;exact xj (xm _ _) Yf
theorem OV(br:Bool)(ns:List Int)(j:Nat):Y8 br ns (j+1)=Y8 br ns j+if((decide (1≤j)&&decide (ns[j]?= some 2))&&(br||decide (j=2)))=true then 1 else 0:=by
 unfold Y8;rw[yb,xu,zf];congr 1;rw[wj];split<;>rfl
theorem YO{br:Bool}{ns:List Int}{j:Nat}{m:Int}(hm:ns[j]?= some m)(hj:1≤j)(h:(decide (m=2)&&(br||decide ((j:Int)=2)))=true):Y8 br ns (j+1)=Y8 br ns j+1:=by
 rw[OV,zo];simp only[zl,yg,LE]at h ⊢
 refine⟨⟨hj,by rw[hm,h.1]⟩,h.2.imp id λe=>Yd⟩
theorem Sj{br:Bool}{ns:List Int}{j:Nat}{m:Int}(hm:ns[j]?= some m)(h:(decide (m=2)&&(br||decide ((j:Int)=2)))=false):Y8 br ns (j+1)=Y8 br ns j:=by
 rw[OV,zv]
 ·rfl
 ·intro hh;simp only[zl,yg,LE]at hh;have:(decide (m=2)&&(br||decide ((j:Int)=2)))=true:=by
   simp only[zl,yg,LE];refine⟨?_,hh.2.imp id λe=>Yd⟩;have h2:=hh.1.2;rw[hm]at h2;exact yi h2
  rw[this]at h;cases h
theorem Gq(br:Bool)(ns:List Int){j:Nat}(h:j≤max 1 ns.length)(h2:ns.length≤j):Y8 br ns j=Y8 br ns ns.length:=by
 by_cases hl:ns.length=0
 ·rw[hl];obtain rfl|rfl:j=0∨j=1:=Yd
  ·rfl
  ·rfl
 ·obtain rfl:j=ns.length:=Yd
  rfl
def PA(x:Λ):Λ:=(eH x).headD ⟨#[]⟩
def qw(x:Λ):Nat:=match iY x.data.toList with
 |none=>0
 |some _=>if PA x=⟨#[115,109,117,100,103,101]⟩then 1 else 0
def nj(x:Λ):Nat:=match iY x.data.toList with
 |none=>0
 |some ns=>if(decide (PA x=⟨#[98,114,111,107,101,110]⟩)||decide (PA x=⟨#[112,97,114,116]⟩))=true then Y8 (decide (PA x=⟨#[98,114,111,107,101,110]⟩)) ns ns.length else 0
def Qz(xs:List Λ):Bool:=decide (((xs.map qw).sum:Int)≤3)&&decide (((xs.map nj).sum:Int)≤4)
theorem Jv{xs:List Λ}{sm un:Nat}(h2:sm=(xs.map qw).sum)(h3:un=(xs.map nj).sum):(decide ((sm:Int)≤3)&&decide ((un:Int)≤4))=Qz xs:=by rw[h2,h3];rfl
theorem B3{xs:List Λ}{x:Λ}{k:Nat}{f:Λ→Nat}(hx:xs[k]?= some x):((xs.take (k+1)).map f).sum=((xs.take k).map f).sum+f x:=by
 rw[zg,hx];simp
section
variable{x p0:Λ}{ps:List Λ}{ns:List Int}{j:Nat}
theorem Ai(h:iY x.data.toList=none):qw x=0:=by unfold qw;rw[h]
theorem aGR(h:iY x.data.toList=none):nj x=0:=by unfold nj;rw[h]
theorem JT(hc:eH x=p0::ps):PA x=p0:=by unfold PA;rw[hc];rfl
theorem aAK(hc:eH x=p0::ps)(h:iY x.data.toList=some ns)(hp:decide (p0=⟨#[115,109,117,100,103,101]⟩)=true):qw x=1:=by unfold qw;rw[h,JT hc];exact zo (yn hp)
theorem Xbr(hc:eH x=p0::ps)(h:iY x.data.toList=some ns)(hp:decide (p0=⟨#[115,109,117,100,103,101]⟩)=false):qw x=0:=by unfold qw;rw[h,JT hc];exact zv (ye hp)
theorem Qw(hc:eH x=p0::ps)(h:iY x.data.toList=some ns)(he:(decide ((j:Int)<(ns.length:Int))&&(decide (p0=⟨#[98,114,111,107,101,110]⟩)||decide (p0=⟨#[112,97,114,116]⟩)))=false)(I:j≤max 1 ns.length)(h8:j=1∨(decide (p0=⟨#[98,114,111,107,101,110]⟩)||decide (p0=⟨#[112,97,114,116]⟩))=true):nj x=Y8 (decide (p0=⟨#[98,114,111,107,101,110]⟩)) ns j:=by
 unfold nj;rw[h,JT hc];simp only;rw[pf]at he;by_cases hb:(decide (p0=⟨#[98,114,111,107,101,110]⟩)||decide (p0=⟨#[112,97,114,116]⟩))=true
 ·rw[zo hb];have hj:=he.resolve_right (by rw[hb];simp)
  exact(Gq _ ns I (by have:=ye hj;omega)).symm
 ·rw[zv hb];obtain rfl:=h8.resolve_right hb;rfl
end
theorem Gh{D:aC}{nv:Γ}{nb:Bool}{o:Option (List Int)}(hb:nb=true)(h:match o with|some ns=>nb=true∧Sl D RI 1 nv ns|none=>nb=false):∃ns,o=some ns∧Sl D RI 1 nv ns:=by
 cases o with
 |none=>simp only at h;rw[hb]at h;cases h
 |some ns=>exact⟨ns,C,h.2⟩
theorem Em(sv:Γ)(xs:List Λ)(D:aC)(hS:Sl D RS 1 sv xs)(hl:xs.length≤10000000):Fn prog 9 #[sv] D (λD' v=>Sl D' RS 1 v xs):=by
 refine Zx 6 func9 C (λh0=>aA<|Zf C<|aJ<|Zu C U22 lT tf_z9 C .nil λU D901 I O=>Za C<|aT (A:=[]) (ν:=[]) (B:=[]) C U22 C C lT tf_z9 C gx C C C bM.nil (kX.strs hS) Yf (by rw[yh,xp]) C (Ke _) Yd (zq C) C zy λV ν1 ha1=>Wd ?_);have R:bM 9 1 V xs.length (xs.map Value.string) ν1:=km
 refine dE (A:=[]) (B:=[]) R C λZ Y hF=>?_;exact aD C λD' hD=>(hF.strs C Yd).up RS.up (hD _ Yf)
theorem Ny(av bv:Γ)(xs ys:List Int)(D:aC)(hx:Sl D RI 1 av xs)(hy:Sl D RI 1 bv ys):Fn prog 24 #[av,bv] D (λ_ v=>v=.bool (decide (xs=ys))):=by
 have hl:=hx.len;refine Zx 26 func24 C λh0=>aA<|Zf C<|bD<|Za C<|Zaj C U90 C hx C<|Za C<|Zaj C U35 C hy C<|Za0 C<|aE<|Zae C (λhc1=>?_) λhc1=>?_
 ·refine aA<|Wi ?_;exact aD C λD hD=>zn Value.bool (aEF Yd).symm
 ·have hlen:xs.length=ys.length:=Yd
  refine aP<|bL<|Zf C<|aE<|Za4<|cW (γ:=Nat) (λk=>xs.length-k) (λk=>k≤xs.length∧xs.take k=ys.take k) (λk=>[(5,qI (k:Int))]) [(4,_),(0,_),(1,_)] (λk=>[D]) 0 Yf ⟨Ya,zy⟩ cE (aN) ?_;rintro k ⟨h1,h2⟩;refine bL<|Za C<|Za C<|Zaj C U90 C hx C<|Zal C<|aE<|Zae C (λhc2=>?_) λhc2=>?_
  ·have hk:k<xs.length:=Yd
   obtain⟨a,ha⟩:=cF xs k;obtain⟨b,hb⟩:=cF ys k;refine aP<|Za6<|Za4<|Za6<|bK [] 3 9 242<|Za C<|Za C<|Zy C U90 uJ C hx C ha λV Y I O U R=>?_;obtain rfl:I=[qI _]:=O;refine Zh 0 C uN C R C<|Za C<|Za C<|gH C hy C hb λb2 Z=>Za0 C<|aE<|Zae C (λhc3=>?_) λhc3=>?_
   ·refine aA<|Wg ?_;exact aD C λD hD=>zn Value.bool (Xbb ha hb (hc3)).symm
   ·refine xz ?_;exact aK 17 (k+1) ⟨Yd,Cg ha hb h2 Yd⟩ Yd ⟨Ya,zy⟩ C C zp (aN)
  ·refine Wk ?_;exact aD C λD hD=>zn Value.bool (aFT hlen Yd h2).symm
theorem Nf(sv:Γ)(xs:List Λ)(D:aC)(hS:Sl D RS 1 sv xs):Fn prog 11 #[sv] D (λ_ v=>v=qI (fV xs)):=by
 have hl:=hS.len;refine Zx 19 func11 C λh0=>aA<|Zf C<|bD<|Za C<|Zaj C U22 C hS C<|Zat C<|aE<|Zae C (λhc1=>?_) λhc1=>?_
 ·refine aA<|Wi ?_;exact aD C λD hD=>by show Value.int _ _=_;rw[XG Yd]
 ·have I:xs.length≤40:=Yd
  refine aP<|bL<|Zf C<|aE<|Za4<|cW (γ:=Nat) (λk=>xs.length+1-k) (λk=>k≤xs.length∧∀x∈xs.take k,x.size≤50) (λk=>[(3,qI (k:Int))]) [(2,_),(0,_)] (λk=>[D]) 0 ⟨Yd,Yf⟩ ⟨Ya,zy⟩ cE (aN) ?_;rintro k ⟨h1,h2⟩;refine bL<|Za C<|Za C<|Zaj C U22 C hS C<|Zal C<|aE<|Zae C (λhc2=>?_) λhc2=>?_
  ·have hk:k<xs.length:=Yd
   obtain⟨x,hx⟩:=cF xs k;refine aP<|Za6<|Za4<|aA<|Za C<|Za C<|Zy C U22 lT C hS C hx λY Z O R V U=>?_;obtain rfl:O=[.string _]:=R;refine Zh 0 C yL C U C<|kS C U9 C C C zy<|Zat C<|aE<|Zae C (λhc3=>?_) λhc3=>?_
   ·refine aA<|Wg ?_;exact aD C λD hD=>by show Value.int _ _=_;rw[YI hx Yd]
   ·refine xz ?_;exact aK 14 (k+1) ⟨Yd,S_ hx h2 Yd⟩ Yd ⟨Ya,zy⟩ C C zp (aN)
  ·obtain rfl:k=xs.length:=Yd
   rw[ym]at h2;refine Wk ?_;exact aD C λD hD=>by show Value.int _ _=_;rw[Io I h2]
theorem Kf(sv:Γ)(xs:List Λ)(D:aC)(hS:Sl D RS 1 sv xs):Fn prog 5 #[sv] D (λ_ v=>v=.bool (ID xs)):=by
 have hl:=hS.len;refine Zx 23 func5 C λh0=>aA<|Zf C<|bD<|Zf C<|aE<|Za4<|cW (γ:=Nat) (λk=>xs.length+1-k) (λk=>k≤xs.length∧∀x∈xs.take k,x.size≤70) (λk=>[(3,qI (k:Int))]) [(2,_),(0,_)] (λk=>[D]) 0 ⟨Yd,Yf⟩ ⟨Ya,zy⟩ cE (aN) ?_;rintro k ⟨h1,h2⟩;refine bL<|Za C<|Za C<|Zaj C U22 C hS C<|sh ?_;refine' bU 3 (s:=8) (p:=11) C (λO=>?_) (λO=>?_) ?_;rotate_left
 ·refine Zb C<|IU C C C C ⟨_,C,C⟩<|Zam C ?_;exact aQ 2
 ·refine ru ?_;exact aQ 2
 refine aE<|Zai C (λhc1=>?_) λhc1=>?_
 ·have hk:k<xs.length:=by simp at hc1;omega
  obtain⟨x,hx⟩:=cF xs k;refine aP<|Za6<|Za4<|aA<|Za C<|Za C<|Zy C U22 lT C hS C hx λZ o1 R U Y V=>?_;obtain rfl:R=[.string _]:=U;refine Zh 0 C yL C V C<|kS C U9 C C C zy<|Zat C<|aE<|Zae C (λhc2=>?_) λhc2=>?_
  ·refine aA<|Wg ?_;exact aD C λD hD=>by show Value.bool _=_;rw[N_ hx Yd]
  ·refine xz ?_;exact aK 16 (k+1) ⟨Yd,S_ hx h2 Yd⟩ Yd ⟨Ya,zy⟩ C C zp (aN)
 ·have I:xs.length≤k∨46≤k:=by simp at hc1;omega
  refine Za9<|Za5<|Za5<|Zba<|Za2<|aA<|Za C<|Zaj C U22 C hS C<|iB C C C C zy<|Wd ?_;exact aD C λD hD=>by show Value.bool (decide _)=_;rw[Ii I h2]
theorem Np(sv:Γ)(xs:List Λ)(D:aC)(hS:Sl D RS 1 sv xs)(hn:xs.length≤1000)(hsz:∀x∈xs,x.size≤1000):Fn prog 6 #[sv] D (λ_ v=>v=.bool (Qz xs)):=by
 have hl:=hS.len;refine Zx 72 func6 C λh0=>aA<|Zf C<|aJ<|Zf C<|Zf C<|bD<|Zf C<|aE<|Za4<|cW (γ:=Nat×Nat×Nat) (λg=>xs.length-g.1) (λg=>g.1≤xs.length∧g.2.1=((xs.take g.1).map qw).sum∧g.2.2=((xs.take g.1).map nj).sum∧g.2.1≤g.1∧g.2.2≤1002*g.1) (λg=>[(5,qI (g.1:Int)),(3,qI (g.2.1:Int)),(4,qI (g.2.2:Int))]) [(2,_),(0,_)] (λg=>[D]) (0,0,0) ⟨Yf,Yf,Yf,Yf,Yf⟩ ⟨Ya,Ya,Ya,zy⟩ cE (aN) ?_;rintro⟨k,sm,un⟩ ⟨h1,h2,h3,Y,Z⟩;simp only at h1 h2 h3 Y Z;refine bL<|Za C<|Za C<|Zaj C U22 C hS C<|Zal C<|aE<|Zae C (λhc1=>?_) λhc1=>?_
 ·simp only at hc1;have hk:k<xs.length:=Yd
  obtain⟨x,hx⟩:=cF xs k;have hxs:=hsz x (GE hx);refine aP<|Za6<|Za4<|aA<|Za C<|Za C<|Zy C U22 lT C hS C hx λb1 o1 hB hE hcl1 hF=>?_;obtain rfl:hB=[.string _]:=hE;refine Zh 0 C yL C hF C<|Zz C (λD1 hH=>ER x hxs _) λv1 D1 hH hI=>?_;obtain⟨nv,nb,rfl,O⟩:=hI;refine Za C<|Zar C<|Zar C<|Zf C<|Zf C<|bD<|Za C<|Zav C<|aE<|Zai C (λhc2=>?_) λhc2=>?_
  ·have hns:=OI wm O;refine Za9<|Za5<|Zba<|l_ ?_;exact aK 22 (k+1,sm,un) ⟨Yl,by simp only;rw[B3 hx,Ai hns];omega,by simp only;rw[B3 hx,aGR hns];omega,Yl,Yl⟩ Yl ⟨Ya,Ya,Ya,zy⟩ C C zp λD h=>⟨D,zb _ (h),Le.refl D⟩
  ·have hnbt:nb=true:=wm
   obtain⟨ns,hns,hnv⟩:=Gh hnbt O;have hkl:ns.length≤1001:=aII hns hxs;obtain⟨p0,ps,hcut⟩:=qR x;have hJ:(eH x)[0]?= some p0:=by rw[hcut];rfl
   refine aP<|aA<|Za C<|Za C<|Zy C U22 lT C hS C hx λb2 o2 hK hN hcl2 hO=>?_;obtain rfl:hK=[.string _]:=hN;refine Zh 0 C yL C hO C<|Zz C (λD2 hP=>DY x hxs _) λv2 D2 hP hR=>Zy C U22 lT C hR C hJ λb3 o3 hX hY hcl3 rA=>?_;obtain rfl:hX=[.string _]:=hY;refine Zh 0 C yL C rA C<|Zf C<|bD<|Za C<|Zay C<|aE<|Zai C (λhc3=>?_) λhc3=>?_
   ·refine aM<|Za C<|Zaf C<|Zf C<|aJ<|Zf C<|aE<|Za4<|cW (γ:=Nat×Nat) (λg=>1001+1-g.1) (λg=>1≤g.1∧g.1≤1002∧g.1≤max 1 ns.length∧g.2=un+Y8 (decide (p0=⟨#[98,114,111,107,101,110]⟩)) ns g.1∧(g.1=1∨(decide (p0=⟨#[98,114,111,107,101,110]⟩)||decide (p0=⟨#[112,97,114,116]⟩))=true)) (λg=>[(9,qI (g.1:Int)),(4,qI (g.2:Int))]) [(3,_),(36,_),(35,_),(34,_),(33,_),(8,_),(32,_),(31,_),(30,_),(29,_),(28,_),(27,_),(26,_),(25,_),(24,_),(7,_),(6,_),(23,_),(22,_),(16,_),(21,_),(20,_),(19,_),(18,_),(17,_),(13,_),(12,_),(11,_),(10,_),(5,_),(2,_),(0,_)] (λg=>[D2,D1,D]) (1,un) ⟨Yf,Yf,Yl,by simp only;rw[WV];rfl,zq C⟩ ⟨Ya,Ya,zy⟩ cE (aN) ?_;rintro⟨j,u2⟩ ⟨h4,h5,V,h7,h8⟩;simp only at h4 h5 V h7 h8;have hcj:=Rx (decide (p0=⟨#[98,114,111,107,101,110]⟩)) ns j;refine bL<|Za C<|Za C<|Zaj C U35 C hnv C<|sh ?_;refine' bU 7 (s:=41) (p:=48) C (λrB=>?_) (λrB=>?_) ?_;rotate_left
    ·refine jm ?_;refine' dU 3 (s:=44) (p:=47) C (λhg2=>?_) (λhg2=>?_) ?_;rotate_left
     ·refine Zb C<|mR C C C C ⟨_,C,C⟩<|oU C C C C ⟨_,C,C⟩ ?_;exact aQ 2
     ·refine Wt ?_;exact aQ 2
     refine Zam C ?_;exact aQ 4
    ·refine Wo ?_;exact aQ 6
    refine aE<|Zai C (λhc4=>?_) λhc4=>?_
    ·have hjl:j<ns.length:=by have hz:=(zl _ _).mp hc4;have:=yn hz.1;omega
     have hbp:=((zl _ _).mp hc4).2;obtain⟨m,hm⟩:=cF ns j;refine aP<|Za6<|Za4<|aA<|Za C<|Za C<|gH C hnv C hm λb4 o4=>ud ?_;refine' bU 7 (s:=56) (p:=63) C (λhg3=>?_) (λhg3=>?_) ?_;rotate_left
     ·refine jm ?_;refine' dU 3 (s:=59) (p:=62) C (λhg4=>?_) (λhg4=>?_) ?_;rotate_left
      ·refine Zb C<|jo ?_;exact aQ 2
      ·refine Wt ?_;exact aQ 2
      refine Zam C ?_;exact aQ 4
     ·refine Wo ?_;exact aQ 6
     refine aE<|Zai C (λR=>?_) λR=>?_
     ·refine og ?_;exact aK 21 (j+1,u2+1) ⟨Yl,Yl,Yl,by simp only;rw[YO hm h4 R];omega,Or.inr hbp⟩ Yl ⟨Ya,Ya,zy⟩ C C zp (aN)
     ·refine xz ?_;exact aK 18 (j+1,u2) ⟨Yl,Yl,Yl,by simp only;rw[Sj hm R];omega,Or.inr hbp⟩ Yl ⟨Ya,Ya,zy⟩ C C zp (aN)
    ·refine oe ?_;exact aK 41 (k+1,sm+1,u2) ⟨Yl,by simp only;rw[B3 hx,aAK hcut hns hc3];omega,by simp only;rw[B3 hx,Qw (j:=j) hcut hns hc4 V h8];omega,Yl,Yl⟩ Yl ⟨Ya,Ya,Ya,zy⟩ C C zp λD h=>⟨D,zb _ (zb _ (h)),Le.refl D⟩
   ·refine aP<|aA<|Zf C<|aE<|Za4<|cW (γ:=Nat×Nat) (λg=>1001+1-g.1) (λg=>1≤g.1∧g.1≤1002∧g.1≤max 1 ns.length∧g.2=un+Y8 (decide (p0=⟨#[98,114,111,107,101,110]⟩)) ns g.1∧(g.1=1∨(decide (p0=⟨#[98,114,111,107,101,110]⟩)||decide (p0=⟨#[112,97,114,116]⟩))=true)) (λg=>[(9,qI (g.1:Int)),(4,qI (g.2:Int))]) [(34,_),(33,_),(8,_),(32,_),(31,_),(30,_),(29,_),(28,_),(27,_),(26,_),(25,_),(24,_),(7,_),(6,_),(23,_),(22,_),(16,_),(21,_),(20,_),(19,_),(18,_),(17,_),(13,_),(12,_),(11,_),(10,_),(5,_),(3,_),(2,_),(0,_)] (λg=>[D2,D1,D]) (1,un) ⟨Yf,Yf,Yl,by simp only;rw[WV];rfl,zq C⟩ ⟨Ya,Ya,zy⟩ cE (aN) ?_;rintro⟨j,u2⟩ ⟨h4,h5,V,h7,h8⟩;simp only at h4 h5 V h7 h8;have hcj:=Rx (decide (p0=⟨#[98,114,111,107,101,110]⟩)) ns j;refine bL<|Za C<|Za C<|Zaj C U35 C hnv C<|sh ?_;refine' bU 7 (s:=41) (p:=48) C (λhg5=>?_) (λhg5=>?_) ?_;rotate_left
    ·refine jm ?_;refine' dU 3 (s:=44) (p:=47) C (λhg6=>?_) (λhg6=>?_) ?_;rotate_left
     ·refine Zb C<|mR C C C C ⟨_,C,C⟩<|oU C C C C ⟨_,C,C⟩ ?_;exact aQ 2
     ·refine Wt ?_;exact aQ 2
     refine Zam C ?_;exact aQ 4
    ·refine Wo ?_;exact aQ 6
    refine aE<|Zai C (λI=>?_) λI=>?_
    ·have hjl:j<ns.length:=by have hz:=(zl _ _).mp I;have:=yn hz.1;omega
     have hbp:=((zl _ _).mp I).2;obtain⟨m,hm⟩:=cF ns j;refine aP<|Za6<|Za4<|aA<|Za C<|Za C<|gH C hnv C hm λb5 o5=>ud ?_;refine' bU 7 (s:=56) (p:=63) C (λhg7=>?_) (λhg7=>?_) ?_;rotate_left
     ·refine jm ?_;refine' dU 3 (s:=59) (p:=62) C (λhg8=>?_) (λhg8=>?_) ?_;rotate_left
      ·refine Zb C<|jo ?_;exact aQ 2
      ·refine Wt ?_;exact aQ 2
      refine Zam C ?_;exact aQ 4
     ·refine Wo ?_;exact aQ 6
     refine aE<|Zai C (λU=>?_) λU=>?_
     ·refine og ?_;exact aK 21 (j+1,u2+1) ⟨Yl,Yl,Yl,by simp only;rw[YO hm h4 U];omega,Or.inr hbp⟩ Yl ⟨Ya,Ya,zy⟩ C C zp (aN)
     ·refine xz ?_;exact aK 18 (j+1,u2) ⟨Yl,Yl,Yl,by simp only;rw[Sj hm U];omega,Or.inr hbp⟩ Yl ⟨Ya,Ya,zy⟩ C C zp (aN)
    ·refine oe ?_;exact aK 39 (k+1,sm,u2) ⟨Yl,by simp only;rw[B3 hx,Xbr hcut hns hc3];omega,by simp only;rw[B3 hx,Qw (j:=j) hcut hns I V h8];omega,Yl,Yl⟩ Yl ⟨Ya,Ya,Ya,zy⟩ C C zp λD h=>⟨D,zb _ (zb _ (h)),Le.refl D⟩
 ·obtain rfl:k=xs.length:=by simp only at hc1;omega
  rw[ym]at h2 h3;refine Za9<|Za5<|Za5<|Zba<|Za2<|aA<|Za C<|iB C C C C zy<|Za C ?_;refine' bU 3 (s:=68) (p:=71) C (λhg9=>?_) (λhg9=>?_) ?_;rotate_left
  ·refine Zb C<|Wl ?_;exact aQ 2
  ·refine ru ?_;exact aQ 2
  refine Wd ?_;exact aD C λD hD=>by show Value.bool _=_;rw[Jv h2 h3]
instance(x:Int):Decidable (NB x):=inferInstanceAs (Decidable (_∧_))
def DE:List Λ:=[(⟨#[112,108,97,99,101]⟩:Λ),⟨#[115,101,101,110,32,50,32,49]⟩,⟨#[99,111,117,110,116,32,51,32,50]⟩,⟨#[98,97,99,107,32,51,32,51]⟩,⟨#[116,105,100,101,32,50,32,56,32,57]⟩,⟨#[115,116,101,112,32,52]⟩,⟨#[108,101,118,101,108,32,54]⟩,⟨#[109,97,114,107,32,49,32,51,32,57,32,57]⟩,⟨#[104,105,114,101,32,48,32,49]⟩,⟨#[104,105,114,101,32,49,32,50]⟩,⟨#[98,114,105,110,103,32,48,32,49]⟩,⟨#[115,109,117,100,103,101,32,49]⟩,⟨#[98,114,111,107,101,110,32,52,32,49,32,48,32,48]⟩,⟨#[98,114,111,107,101,110,32,53,32,48,32,49,32,50]⟩,⟨#[99,108,97,105,109,32,48,32,50]⟩]
def XR:List Λ:=[(⟨#[115,116,101,112,32,48]⟩:Λ),⟨#[115,109,117,100,103,101,32,49]⟩,⟨#[108,101,118,101,108,32,48,53]⟩]
def aB:List Λ:=[(⟨#[97]⟩:Λ)]
theorem QK{D:aC}{b:Nat}{l:List Λ}(hA:At D b 0 (l.map Value.string))(hl:l.length≤1000):Sl D RS 1 (qS b l.length l.length) l:=by
 refine⟨_,_,C,zk _,Yd,zt ⟨b,0,C,λi x hi=>⟨_,C,C,λj v hj=>?_⟩⟩⟩;cases j with
 |zero=>
  obtain rfl:Value.string x=v:=qd
  have h:=hA i (.string x) (by rw[xt,hi];rfl);simpa using h
 |succ j=>simp at hj
theorem Yaa:WM (aR DE).1:=⟨xh,xh,xh,xh,xh,xh,xh,xh,xh,xh,xh⟩
theorem Wbi:K2 prog 26:=⟨Yg,Yg,Yg⟩
theorem War:K2 prog 31:=⟨Yg,Yg,Yg⟩
theorem SF(D:aC):Fn prog 21 #[qN] D (λD' v=>Sl D' RS 1 v DE):=by
 refine Zx 6 func21 C λh0=>aA<|Zf C<|aJ<|Zu C U22 lT tf_z9 C (.cons C C (.cons C C (.cons C C (.cons C C (.cons C C (.cons C C (.cons C C (.cons C C (.cons C C (.cons C C (.cons C C (.cons C C (.cons C C (.cons C C (.cons C C .nil))))))))))))))) λR D901 O I=>Za C<|Ll C U22 C C lT C C (zk _) C zy<|Wd ?_;exact aD C λD hD=>(QK (l:=DE) I Yu).up RS.up (hD _ Yf)
theorem aDC(mv:Γ)(ms:List Λ)(D:aC)(hS:Sl D RS 1 mv ms)(O:0<ms.length)(hm:ms.length≤1000):Fn prog 21 #[mv] D (λD' v=>Sl D' RS 1 v (DE++ms)):=by
 refine Zx 6 func21 C (λh0=>aA<|Zf C<|aJ<|Zu C U22 lT tf_z9 C (.cons C C (.cons C C (.cons C C (.cons C C (.cons C C (.cons C C (.cons C C (.cons C C (.cons C C (.cons C C (.cons C C (.cons C C (.cons C C (.cons C C (.cons C C .nil))))))))))))))) λV D901 R I=>Za C<|Gr (cells:=[.string ⟨#[112,108,97,99,101]⟩,.string ⟨#[115,101,101,110,32,50,32,49]⟩,.string ⟨#[99,111,117,110,116,32,51,32,50]⟩,.string ⟨#[98,97,99,107,32,51,32,51]⟩,.string ⟨#[116,105,100,101,32,50,32,56,32,57]⟩,.string ⟨#[115,116,101,112,32,52]⟩,.string ⟨#[108,101,118,101,108,32,54]⟩,.string ⟨#[109,97,114,107,32,49,32,51,32,57,32,57]⟩,.string ⟨#[104,105,114,101,32,48,32,49]⟩,.string ⟨#[104,105,114,101,32,49,32,50]⟩,.string ⟨#[98,114,105,110,103,32,48,32,49]⟩,.string ⟨#[115,109,117,100,103,101,32,49]⟩,.string ⟨#[98,114,111,107,101,110,32,52,32,49,32,48,32,48]⟩,.string ⟨#[98,114,111,107,101,110,32,53,32,48,32,49,32,50]⟩,.string ⟨#[99,108,97,105,109,32,48,32,50]⟩]) C U22 C C lT tf_z9 C gx C C I Yf C (kX.strs hS) Yf (by rw[yh,xp]) O Yd C zy λY ν1 ha1=>Wd ?_);have U:bM 9 1 Y (15+ms.length) ((DE++ms).map Value.string) (ν1++[]):=by rw[ze,yr];exact ha1
 refine dE (A:=[]) (ν:=ν1) (B:=[]) (by simpa using U) C λD2 Z hF=>?_;exact aD C λD' hD=>(hF.strs (by rw[zf];rfl) Yd).up RS.up (hD _ Yf)
theorem IT(D:aC)(hV:rK D):Fn prog 7 #[] D (λ_ v=>v=.bool true):=by
 refine Zx 87 func7 C λh0=>aA<|Zf C<|aJ<|Zz C (λD1 hJ=>SF _) λv1 D1 hJ hK=>?_;have hN:=hK;refine Zd C (λD2 Z=>x8 _ DE _ (hN.up RS.up (Z _ Yf)) (hV.up (Z _ Yf)))<|Za C<|Zar C<|Zar C<|Zag C qJ C λq1=>fG C C C C eY Yb Yb ζ Ym zy<|Zf C<|aJ<|Zz C (λD3 hO=>SF _) λv3 D3 hO hP=>?_;have hR:=hP;refine Zd C (λD4 hB=>CS _ DE _ (hR.up RS.up (hB _ Yf)) (hV.up (hB _ Yf)))<|Za C<|Zar C<|Zar C<|Zag C uP C λq2=>fG C C C C jW Yb Yb ζ Ym zy<|Zf C<|aJ<|Zz C (λD5 hS=>SF _) λv5 D5 hS hp5=>?_;have hX:=hp5;refine Zd C (λD6 hE=>OQ _ DE _ (hX.up RS.up (hE _ Yf)) (hV.up (hE _ Yf)) λ_=>Yaa)<|Za C<|Zar C<|Zar C<|Zf C<|Zf C<|aJ<|Zu C U22 lT tf_z9 C (.cons C C .nil) λb901 D901 hY O=>Zz C (λD7 hF=>aGJ _ aB _ ((QK (l:=aB) O Yu).up RS.up (hF _ Yf))) λv7 D7 hF rA=>?_;obtain⟨wv,rfl,hwr⟩:=rA;refine Za C<|Zar C<|Zar C<|Zf C<|Zf C<|aJ<|Zu C U22 lT tf_z9 C (.cons C C (.cons C C (.cons C C .nil))) λb902 D902 rB R=>Zz C (λD8 hH=>aDC _ XR _ ((QK (l:=XR) R Yu).up RS.up (hH _ Yf)) Yu Yu) λv8 D8 hH hp8=>?_;have hd5:=hp8;refine Zz C (λD9 U=>GD _ (DE++XR) _ (hd5.up RS.up (U _ Yf)) (hV.up (U _ Yf))) λv9 D9 U hp9=>?_;obtain⟨w1,w2,rfl,⟨pv,cv,hv,lv,mv,bl,bc,yc,yq,rfl,hL⟩,hes⟩:=hp9;unfold dY;obtain⟨ea,ec,rfl⟩:=hes.shape;have p3len:(aR (DE++XR)).2.1.length=18:=xh
 refine Za C<|Zar C<|Zar C<|Zar C<|Zag C uK C λq3=>Zab C fN ζ (gO hL)<|Zf C<|Zf C<|aJ<|Za C<|ud ?_;refine' bU 4 (s:=41) (p:=45) C (λhg1=>?_) (λhg1=>?_) ?_;rotate_left
 ·refine bN C qO C xq eY n4 C ⟨_,C,C⟩<|lJ (cs:=[qI 25,qI 25]) C DX qJ C C C ⟨_,C,C⟩<|Rq (a:=(KJ DE).1) (b:=(25,25)) C Yg Wbi C C C ⟨_,C,C⟩<|Zam C ?_;exact aQ 3
 ·refine Wb ?_;exact aQ 3
 refine Za C ?_;refine' bU 3 (s:=46) (p:=49) C (λhg2=>?_) (λhg2=>?_) ?_;rotate_left
 ·refine Zb C<|mz ?_;exact aQ 2
 ·refine ru ?_;exact aQ 2
 refine Za C ?_;refine' bU 4 (s:=50) (p:=54) C (λhg3=>?_) (λhg3=>?_) ?_;rotate_left
 ·refine bN C L8 C zi jW n4 C ⟨_,C,C⟩<|lJ (cs:=[qI 4,qI 4]) C JW uP C C C ⟨_,C,C⟩<|Rq (a:=(u5 DE).1) (b:=(4,4)) C Yg War C C C ⟨_,C,C⟩<|Zam C ?_;exact aQ 3
 ·refine Wb ?_;exact aQ 3
 refine Za C ?_;refine' bU 3 (s:=55) (p:=58) C (λhg4=>?_) (λhg4=>?_) ?_;rotate_left
 ·refine Zb C<|mz ?_;exact aQ 2
 ·refine ru ?_;exact aQ 2
 refine Za C ?_;refine' bU 3 (s:=59) (p:=62) C (λhg5=>?_) (λhg5=>?_) ?_;rotate_left
 ·refine Zb C<|ld ?_;exact aQ 2
 ·refine ru ?_;exact aQ 2
 refine Za C ?_;refine' bU 3 (s:=63) (p:=66) C (λhg6=>?_) (λhg6=>?_) ?_;rotate_left
 ·refine Zb C<|mz ?_;exact aQ 2
 ·refine ru ?_;exact aQ 2
 refine Za C ?_;refine' bU 4 (s:=67) (p:=71) C (λhg7=>?_) (λhg7=>?_) ?_;rotate_left
 ·refine Zb C<|L6 C U70 U5 U9 C hwr Yf (λ_ _ _ _ _=>n4) C ⟨_,C,C⟩<|ld ?_;exact aQ 3
 ·refine Wb ?_;exact aQ 3
 refine Za C ?_;refine' bU 3 (s:=72) (p:=75) C (λhg8=>?_) (λhg8=>?_) ?_;rotate_left
 ·refine Zb C<|mz ?_;exact aQ 2
 ·refine ru ?_;exact aQ 2
 refine Za C ?_;refine' bU 4 (s:=76) (p:=80) C (λhg9=>?_) (λhg9=>?_) ?_;rotate_left
 ·refine Zb C<|eQ C U90 C hes C C ⟨_,C,C⟩<|mz ?_;exact aQ 3
 ·refine Wb ?_;exact aQ 3
 refine Za C ?_;refine' bU 5 (s:=81) (p:=86) C (λhI=>?_) (λhI=>?_) ?_;rotate_left
 ·refine Zb C<|OM (j:=15) C U90 uJ C hes C (by rw[p3len];omega) C ⟨_,C,C⟩ λta hT=>u0 C U35 aI cN C C C C (.cons C C (.cons C C (.cons C C .nil))) C ⟨_,C,C⟩ λb903 D903 hD903 V=>?_;have Y:=Sl.ofInts (l:=[_,_,_]) (n:=3) (cap:=3) V C Yd Yd;refine Ze C (λD10 I=>Ny _ _ ((aR (DE++XR)).2.1.drop 15) [9,6,4] _ (hT.up RI.up (I _ Yf)) (Y.up RI.up (I _ Yf)))<|Zam C ?_;exact x7 λa w hh=>(hh.cutK 4 C).ds λ_ h=>zb _ (h)
 ·refine vw ?_;exact aQ 4
 refine Wd ?_;exact aD C λD hD=>zn Value.bool xh
theorem Jn{s:aO}(h:eI s=0)(line:Λ):eI (F9 s line).1=0:=by
 unfold F9;split
 ·exact h
 ·split
  ·exact h
  ·split
   ·rename_i h2;exact h2
   ·exact h
theorem VT:eI G5=0:=xh
theorem LV{I:aO→Prop}(hI:∀s l,I s→I (F9 s l).1):∀(ls:List Λ) (p:aO×List Int),I p.1→I (ls.foldl (λp l=>((F9 p.1 l).1,p.2++[(F9 p.1 l).2])) p).1
 | [],_,h=>h
 |l::ls,_p,h=>LV hI ls _ (hI _ l h)
theorem LM{I:aO→Prop}(hI:∀s l,I s→I (F9 s l).1)(h0:I G5)(ls:List Λ):I (nJ ls).1:=LV hI ls _ h0
theorem YN(ls:List Λ):eI (nJ ls).1=0:=LM (I:=λs=>eI s=0) (λ_ l h=>Jn h l) VT ls
theorem mC{s:aO}(h:eI s=0):C1.eJ s.row true=0∧C2.aW s.table=0∧C2.nG s.table true=0∧C3.aW s.book=0∧C7.aW s.yard=0∧(L7.dS s.yard).2=0:=by
 unfold eI at h;split at h
 ·cases h
 ·split at h
  ·cases h
  ·split at h
   ·cases h
   ·split at h
    ·cases h
    ·split at h
     ·cases h
     ·split at h
      ·cases h
      ·rename_i h1 h2 h3 h4 h5 I;exact⟨qk.1 h1,qk.1 h2,qk.1 h3,qk.1 h4,qk.1 h5,qk.1 I⟩
end L12
namespace L12
open C12
section
variable{α:Type}{xs ys:List α}{k:Nat}{a b:α}
end
def js(c:C7.Ch):List Int:=[c.size,c.parts.a,c.parts.b,c.parts.c]
theorem aFZ{a b:C7.Ch}(h:js a=js b):a=b:=by
 obtain⟨I,a2,a3,a4⟩:=a;obtain⟨O,b2,R,U⟩:=b
 simp only[js,vx,and_true]at h;rw[h.1,h.2.1,h.2.2.1,h.2.2.2]
instance:DecidableEq C7.Ch:=λa b=>decidable_of_iff (js a=js b) ⟨aFZ,λe=>by rw[e]⟩
end L12
namespace L12
open C12 Go.Lib
theorem Pn{D:aC}{b:Nat}{x:UInt8}{v:Γ}(hA:At D b 0 ([v]++[]))(hv:v=.int .u8 (x.toNat:Int)):Sl D RU 1 (qS b 1 1) [x]:=by
 refine⟨_,_,C,zk _,Yf,zt ⟨b,0,C,λi y hi=>⟨_,C,C,λj u hj=>?_⟩⟩⟩;obtain rfl:i=0:=by have:=(yx.1 hi).1;simpa using this
 obtain rfl:x=y:=wy
 cases j with
 |zero=>
  obtain rfl:Value.int .u8 x.toNat=u:=qd
  have:=hA 0 v C;rw[hv]at this;simpa using this
 |succ j=>simp at hj
theorem Uz{n:Int}(h0:0≤n)(h1:n≤9):Value.int .u8 (48+n)=.int .u8 ((UInt8.ofNat (48+n.toNat)).toNat:Int):=by
 rw[UInt8.toNat_ofNat'];congr 1;omega
theorem eo{n:Int}(h0:0≤n)(h1:n≤9):rN (itoa n)=⟨#[UInt8.ofNat (48+n.toNat)]⟩:=by
 obtain⟨m,rfl⟩:=lg h0;have key:((List.range 10).all λm=>itoa (m:Int)== [UInt8.ofNat (48+m)])=true:=xh
 have:=yu.1 key m (yj.2 Yd);rw[eq_of_beq this];rfl
theorem PH{n:Int}(h0:0≤n)(h1:n≤9):(rN (itoa n)).size=1:=by rw[eo h0 h1];rfl
theorem Xcr{n:Int}(h0:10≤n)(h1:n≤99):rN (itoa n)=rN (itoa (n / 10))++rN (itoa (n%10)):=by
 obtain⟨m,rfl⟩:=lg (show 0≤n by omega);have key:((List.range 100).all λm=>decide (m<10)||itoa (m:Int)==itoa ((m:Int) / 10)++itoa ((m:Int)%10))=true:=xh
 have:=yu.1 key m (yj.2 Yd);rw[yg]at this;rcases this with h|h
 ·have:=yn h;omega
 ·rw[eq_of_beq h];apply Go.WideShapes.bytes_inj;simp[rN]
theorem W_(n:Int)(O:0≤n)(R:n≤9)(D:aC):Fn prog 54 #[qI n] D (λ_ v=>v=.string (rN (itoa n))):=by
 refine Zx 19 func54 C λh0=>aA<|Zf C<|bD<|Za C<|Zal C<|aE<|Zae C (λhc1=>?_) λhc1=>?_
 ·omega
 ·refine aP<|bL<|Za C<|Zal C<|aE<|Zae C (λhc2=>?_) (λhc2=>?_)
  ·refine aA<|Za C<|Zaf C<|mJ C U3 U5 C Ye C zy<|Zu C U70 mU YZ C (.cons C C .nil) (λV D901 U I=>?_)
   skip
   refine L6 (l:=[UInt8.ofNat (48+n.toNat)]) C U70 U5 U9 C (Pn I (Uz O R)) Yf (λ_ _ _ _ _=>n4) C zy<|Wi ?_;exact aD C λD hD=>by show Value.string _=_;rw[eo O R]
  ·omega
theorem S8(n:Int)(R:0≤n)(I:n≤99)(D:aC):Fn prog 54 #[qI n] D (λ_ v=>v=.string (rN (itoa n))):=by
 refine Zx 19 func54 C λh0=>aA<|Zf C<|bD<|Za C<|Zal C<|aE<|Zae C (λhc1=>?_) λhc1=>?_
 ·omega
 ·refine aP<|bL<|Za C<|Zal C<|aE<|Zae C (λhc2=>?_) (λhc2=>?_)
  ·replace I:n≤9:=Yd
   refine aA<|Za C<|Zaf C<|mJ C U3 U5 C Ye C zy<|Zu C U70 mU YZ C (.cons C C .nil) λV D901 U O=>?_
   skip
   refine L6 (l:=[UInt8.ofNat (48+n.toNat)]) C U70 U5 U9 C (Pn O (Uz R I)) Yf (λ_ _ _ _ _=>n4) C zy<|Wi ?_;exact aD C λD hD=>by show Value.string _=_;rw[eo R I]
  ·have z1:=PH (n:=n / 10) Yd Yd;have z2:=PH (n:=n%10) Yd Yd;refine aP<|aA<|Za C<|HX C C C Yd Yd Ye C zy<|Zd C (λD1 Y=>W_ (n / 10) Yd Yd _)<|Za C<|uR C C C Yd Yd Ye C zy<|Zd C (λD2 Z=>W_ (n%10) Yd Yd _)<|oP C C C Yd C zy<|Wd ?_;exact aD C λD hD=>by show Value.string _=_;rw[Xcr Yd I]
end L12
end Go.Fs
namespace Go.Fs.C1

theorem SG{l:List Int}{x:Int}(h:x∈l):qH l≤x:=by
 have key:∀(l:List Int) (a:Int),l.foldl min a≤a∧∀x∈l,l.foldl min a≤x:=by
  intro l;induction l with
  |nil=>intro a;simp
  |cons y l ih=>
   intro a;rw[yp];obtain⟨h1,h2⟩:=ih (min a y);refine⟨Yd,λx hx=>?_⟩;rcases zm.1 hx with rfl|hx
   ·omega
   ·exact h2 x hx
 cases l with
 |nil=>cases h
 |cons y l=>
  rcases zm.1 h with rfl|h
  ·exact(key l x).1
  ·exact(key l y).2 x h
theorem x3{l:List Int}{x:Int}(h:x∈l):x≤kU l:=by
 have key:∀(l:List Int) (a:Int),a≤l.foldl max a∧∀x∈l,x≤l.foldl max a:=by
  intro l;induction l with
  |nil=>intro a;simp
  |cons y l ih=>
   intro a;rw[yp];obtain⟨h1,h2⟩:=ih (max a y);refine⟨Yd,λx hx=>?_⟩;rcases zm.1 hx with rfl|hx
   ·omega
   ·exact h2 x hx
 cases l with
 |nil=>cases h
 |cons y l=>
  rcases zm.1 h with rfl|h
  ·exact(key l x).1
  ·exact(key l y).2 x h
theorem Q4{l:List Int}(h:l≠[]):qH l∈l:=by
 have key:∀(l:List Int) (a:Int),l.foldl min a=a∨l.foldl min a∈l:=by
  intro l;induction l with
  |nil=>intro a;exact zq C
  |cons y l ih=>
   intro a;rw[yp];rcases ih (min a y)with h|h
   ·rw[h];rcases qh a y with h'|h'
    ·exact zq Yd
    ·exact zt (by rw[ow h'];exact zj)
   ·exact zt (GT _ h)
 cases l with
 |nil=>exact absurd C h
 |cons y l=>
  rcases key l y with h|h
  ·show l.foldl min y∈_;rw[h];exact zj
  ·exact GT _ h
theorem tZ{l:List Int}(h:l≠[]):kU l∈l:=by
 have key:∀(l:List Int) (a:Int),l.foldl max a=a∨l.foldl max a∈l:=by
  intro l;induction l with
  |nil=>intro a;exact zq C
  |cons y l ih=>
   intro a;rw[yp];rcases ih (max a y)with h|h
   ·rw[h];rcases qh a y with h'|h'
    ·exact zt (by rw[Int.max_eq_right h'];exact zj)
    ·exact zq Yd
   ·exact zt (GT _ h)
 cases l with
 |nil=>exact absurd C h
 |cons y l=>
  rcases key l y with h|h
  ·show l.foldl max y∈_;rw[h];exact zj
  ·exact GT _ h
theorem bNV{ts:List (List Int)}{i j:Nat}(h:ts≠[]):∃t∈ts,iH t i j=SK ts i j:=by
 obtain⟨t,ht,he⟩:=n5.1 (Q4 (l:=ts.map λt=>iH t i j) xd);exact⟨t,ht,he⟩
theorem bNC{ts:List (List Int)}{i j:Nat}(h:ts≠[]):∃t∈ts,iH t i j=UX ts i j:=by
 obtain⟨t,ht,he⟩:=n5.1 (tZ (l:=ts.map λt=>iH t i j) xd);exact⟨t,ht,he⟩


theorem F0:∀{l t:List Int},t∈bP l ↔ t.length=l.length∧∀(k:Nat) (x p:Int),t[k]?= some x→l[k]?= some p→(x=0∨x=1)∧(p=2∨p=x)
 | [],t=>by
  simp only[bP,yf,wp];constructor
  ·rintro rfl;simp
  ·rintro⟨h,_⟩;exact ri.1 h
 |p::ps,t=>by
  have key:∀c:Int,(c=0∨c=1)→(t∈(if p=2∨p=c then(bP ps).map (c:: ·)else []) ↔∃u,t=c::u∧u∈bP ps∧(p=2∨p=c)):=by
   intro c _;split
   ·rename_i h;simp only[n5];constructor
    ·rintro⟨u,hu,rfl⟩;exact⟨u,C,hu,h⟩
    ·rintro⟨u,rfl,hu,_⟩;exact⟨u,hu,C⟩
   ·rename_i h;constructor
    ·intro h';cases h'
    ·rintro⟨_,_,_,h'⟩;exact absurd h' h
  simp only[bP,zd];rw[key 0 (zq C),key 1 (zt C)];constructor
  ·have mk:∀(c:Int) (u:List Int),(c=0∨c=1)→t=c::u→u∈bP ps→(p=2∨p=c)→t.length=(p::ps).length∧∀(k:Nat) (x p':Int),t[k]?= some x→(p::ps)[k]?= some p'→(x=0∨x=1)∧(p'=2∨p'=x):=by
    rintro c u hc rfl hu hp;obtain⟨h1,h2⟩:=F0.1 hu;refine⟨by simp[h1],λk x p' hx hp'=>?_⟩;cases k with
    |zero=>
     simp only[List.getElem?_cons_zero,uk]at hx hp';subst hx hp';exact⟨hc,hp⟩
    |succ k=>simp only[List.getElem?_cons_succ]at hx hp';exact h2 k x p' hx hp'
   rintro(⟨u,h1,h2,h3⟩|⟨u,h1,h2,h3⟩)
   ·exact mk 0 u (zq C) h1 h2 h3
   ·exact mk 1 u (zt C) h1 h2 h3
  ·rintro⟨h1,h2⟩;cases t with
   |nil=>simp at h1
   |cons c u=>
    have h0:=h2 0 c p C C;have hu:u∈bP ps:=F0.2 ⟨vj,λk x p' hx hp'=>h2 (k+1) x p' mr (by simpa using hp')⟩;rcases h0.1 with rfl|rfl
    ·exact zq ⟨u,C,hu,h0.2⟩
    ·exact zt ⟨u,C,hu,h0.2⟩
theorem aEX{r:dG}{t:List Int}:t∈truths r ↔ t∈bP r.places∧fits r t=true:=xf

theorem xE(r:dG):∀(us:List (List Int)) (o:Option Int),
  (us.foldl (gG r) o=none ↔ o=none∧∀t∈us,cK r t=false)∧
  ∀m,us.foldl (gG r) o=some m→(o=some m∨∃t∈us,cK r t=true∧(jM r t:Int)=m)∧(∀n,o=some n→m≤n)∧∀t∈us,cK r t=true→m≤(jM r t:Int)
 | [],o=>⟨Yf,λm hm=>⟨zq hm,λn hn=>by rw[List.foldl_nil]at hm;rw[hm]at hn;cases hn;exact Int.le_refl _,λt ht=>by cases ht⟩⟩
 |u::us,o=>by
  rw[yp];obtain⟨h1,h2⟩:=xE r us (gG r o u);refine⟨?_,λm hm=>?_⟩
  ·rw[h1];unfold gG;by_cases he:cK r u=true
   ·rw[zo he];simp[he]
   ·rw[zv he];simp only[zm,forall_eq_or_imp];simp[Bool.eq_false_iff.2 he]
  ·obtain⟨a,b,c⟩:=h2 m hm;unfold gG at a b;by_cases he:cK r u=true
   ·rw[zo he]at a b;have bn:=b _ C;refine⟨?_,λn hn=>?_,λt ht ht'=>?_⟩
    ·rcases a with a|⟨t,ht,a⟩
     ·cases o with
      |none=>simp only[uk]at a;exact zt ⟨u,zj,he,a⟩
      |some n=>
       simp only[uk]at a;rcases qh n (jM r u)with h|h
       ·exact zq (by rw[←a,Int.min_eq_left h])
       ·exact zt ⟨u,zj,he,by rw[←a,ow h]⟩
     ·exact zt ⟨t,GT _ ht,a⟩
    ·subst hn;simp only at bn;omega
    ·rcases zm.1 ht with rfl|ht
     ·cases o with
      |none=>simpa using bn
      |some n=>simp only at bn;omega
     ·exact c t ht ht'
   ·rw[zv he]at a b;refine⟨?_,b,λt ht ht'=>?_⟩
    ·rcases a with a|⟨t,ht,a⟩
     ·exact zq a
     ·exact zt ⟨t,GT _ ht,a⟩
    ·rcases zm.1 ht with rfl|ht
     ·exact absurd ht' he
     ·exact c t ht ht'
theorem Nq{r:dG}{us:List (List Int)}:fL r us=none ↔∀t∈us,cK r t=false:=by
 unfold fL;rw[(xE r us none).1];simp
theorem IS{r:dG}{us:List (List Int)}{m:Int}(h:fL r us=some m):(∃t∈us,cK r t=true∧(jM r t:Int)=m)∧∀t∈us,cK r t=true→m≤(jM r t:Int):=by
 obtain⟨a,_,c⟩:=(xE r us none).2 m h;exact⟨a.resolve_left Yf,c⟩
theorem aTX{r:dG}{us:List (List Int)}{t:List Int}(ht:t∈us)(he:cK r t=true):∃m,fL r us=some m∧m≤(jM r t:Int):=by
 cases h:fL r us with
 |none=>rw[Nq.1 h t ht]at he;cases he
 |some m=>exact⟨m,C,(IS h).2 t ht he⟩


end Go.Fs.C1
namespace Go.Fs
open Go.Proofs
namespace L12
open C1
end L12
namespace L12
open C1 (qH kU SG Q4 tZ x3 gF bH)
open C2
theorem Ih{t:bA}{acc:List (List Int)}{s u:List Int}(h:u∈acc):u∈yR t acc s:=by
 unfold yR;split
 ·exact h
 ·exact yw _ h
theorem KT{t:bA}:∀(l acc:List (List Int)) {u:List Int},u∈acc→u∈l.foldl (yR t) acc
 | [],_,_,h=>h
 |_::l,_,_,h=>KT l _ (Ih h)
theorem Mg{t:bA}{acc:List (List Int)}{s:List Int}(h:iI t s=true):s∈yR t acc s:=by
 unfold yR;split
 ·rename_i hc;rcases hc with hc|hc
  ·rw[h]at hc;cases hc
  ·exact List.mem_of_getLast? hc
 ·exact LT _ Yf
theorem EH{t:bA}:∀(l acc:List (List Int)) {s:List Int},s∈l→iI t s=true→s∈l.foldl (yR t) acc
 |x::l,acc,s,hs,h=>by
  rcases zm.1 hs with rfl|hs
  ·exact KT l _ (Mg h)
  ·exact EH l _ hs h
theorem Oh{t:bA}{s:List Int}(h:s∈fM t)(hr:iI t s=true):s∈bI t:=EH _ _ h hr
theorem MM{t:bA}{s:List Int}(h:s∈bI t):s∈fM t:=by
 rcases DP _ _ s h with h|h
 ·cases h
 ·exact h
end L12
namespace L12
open C12 Go.Lib
section
variable{s:aO}{x p:Λ}{ps:List Λ}(h:eH x=p::ps)
include h
end
def Pe(s:aO):Prop:=∀r∈s.table.heights,r.2≤r.1+2
theorem HF{line:Λ}{act:eS}{n:List Int}(h:kB line=some (act,n)):∃x∈lV,x.2.2=act:=by
 obtain⟨p,ps,hc⟩:=qR line;rw[wD hc]at h;split at h
 ·cases h
 ·rename_i hf;split at h
  ·cases hm:ps.mapM wV with
   |none=>rw[hm]at h;cases h
   |some m=>rw[hm]at h;cases h;exact⟨_,jq hf,C⟩
  ·cases h
structure Wap(s:aO):Prop where
 row:C1.mV s.row
 tab:C2.MU s.table
 yard:L7.aSX s.yard
 hts:Pe s
section
variable{s:aO}(h:Wap s)
include h
end
end L12
namespace L7
open C7
theorem Ly{y:aS}{out:List Int}:(0:Int)<((bT y out).length:Int) ↔∃t,eM y t=true∧jJ y.claims out (B6 y t:Nat)=true:=by
 rw[show((0:Int)<((bT y out).length:Int) ↔ 0<(bT y out).length) by omega,List.length_pos_iff_exists_mem];constructor
 ·rintro⟨p,hp⟩;obtain⟨t,h1,h2,_⟩:=nW.1 hp;exact⟨t,h1,h2⟩
 ·rintro⟨t,h1,h2⟩;exact⟨_,nW.2 ⟨t,h1,h2,C⟩⟩
end L7
namespace L12
open C12 Go.Lib


theorem Ef{t:C2.bA}{s:List Int}(h:s∈C2.bI t):C2.iI t s=true:=by
 have key:∀(l acc:List (List Int)),(∀u∈acc,C2.iI t u=true)→∀u∈l.foldl (C2.yR t) acc,C2.iI t u=true:=by
  intro l;induction l with
  |nil=>exact λacc h=>h
  |cons x l ih=>
   intro acc h;refine ih _ λu hu=>?_
   unfold C2.yR at hu;split at hu
   ·exact h u hu
   ·rename_i hx;rcases zd.1 hu with hu|hu
    ·exact h u hu
    ·obtain rfl:=yf.1 hu;simp only[wn]at hx;simpa using hx.1
 exact key _ [] (λu hu=>by cases hu) s h
theorem Tk:∀(l:List (Int×Int)) (m:Int),0≤m→(∀r∈l,0≤C2.fZ r∧C2.fZ r≤3)→l.foldl (λ(m:Int) r=>min (m*C2.fZ r) 2001) m≤m*3^l.length
 | [],m,h,_=>by simp
 |r::l,m,h,hr=>by
  obtain⟨a,b⟩:=hr r zj;have h0:0≤m*C2.fZ r:=om h a;have h1:m*C2.fZ r≤m*3:=Int.mul_le_mul_of_nonneg_left b h;rw[yp];refine Int.le_trans (Tk l _ Yd λq hq=>hr q (GT _ hq)) ?_;rw[zh,Int.pow_succ,Int.mul_comm (3^l.length) 3,←Int.mul_assoc];exact Int.mul_le_mul_of_nonneg_right Yd (Int.pow_nonneg Yd)


section
variable{s:aO}(hst:eI s=0)(hh:Pe s)(hk:mI s){which:Nat}{low high:Int}(hl:0≤low∧low≤1)(hg:0≤high∧high≤1)
include hst hh hk hl hg
end
theorem Xcx{α:Type}{p:α→Prop}{l:List α}{a:α}(h:∀x∈l,p x)(ha:p a):∀x∈l++[a],p x:=λx hx=>(zd.1 hx).elim (h x) λe=>by rw[yf.1 e];exact ha
theorem TN{α:Type}{p:α→Prop}{l:List α}{a:α}{i:Nat}(h:∀x∈l,p x)(ha:p a):∀x∈l.set i a,p x:=λx hx=>(List.mem_or_eq_of_mem_set hx).elim (h x) λe=>by rw[e];exact ha
theorem aEA{α:Type}{p:α→Prop}{l:List α}{i:Nat}(h:∀x∈l,p x):∀x∈l.eraseIdx i,p x:=λx hx=>h x (List.mem_of_mem_eraseIdx hx)
structure jY(s:aO):Prop where
 len0:0<s.row.places.length
 wrong:0≤s.row.wrong∧s.row.wrong≤6
 off:0≤s.row.off∧s.row.off≤9
 place:∀p∈s.row.places,0≤p∧p≤2
 cnt:∀c∈s.row.counts,0≤c.many∧c.many≤s.row.places.length∧0≤c.num∧c.num≤9
 last:s.table.last=3
 step:0≤s.table.step∧s.table.step≤99
 hts:∀r∈s.table.heights,0≤r.1∧r.1≤r.2∧r.2≤99∧r.2≤r.1+2
 levs:∀n∈s.table.levels,0≤n∧n≤99
 mark:∀m∈s.table.marks,0≤m.frm∧m.frm≤m.to∧m.to≤3∧0≤m.lo∧m.lo≤m.hi∧m.hi≤99
 bk:s.book.coin=5∧s.book.box=20∧s.book.counts=[]
 ln:∀l∈s.book.lines,(1≤l.kind∧l.kind≤2)∧(0≤l.chair∧l.chair≤2)∧ -1≤l.token∧l.token≤2
 fit:0≤s.yard.fit∧s.yard.fit≤9
 size:∀c∈s.yard.chairs,(0≤c.size∧c.size≤9)∧(0≤c.parts.a∧c.parts.a≤2)∧(0≤c.parts.b∧c.parts.b≤2)∧0≤c.parts.c∧c.parts.c≤2
 claim:∀r∈s.yard.claims,0≤r.1∧r.1≤r.2∧r.2≤7
theorem Al{p:C7.Pt}{i:Nat}{v:Int}(h:(0≤p.a∧p.a≤2)∧(0≤p.b∧p.b≤2)∧0≤p.c∧p.c≤2)(hv:0≤v∧v≤2):(0≤(s4 p i v).a∧(s4 p i v).a≤2)∧(0≤(s4 p i v).b∧(s4 p i v).b≤2)∧0≤(s4 p i v).c∧(s4 p i v).c≤2:=by
 unfold s4;split
 ·exact⟨hv,h.2⟩
 ·split
  ·exact⟨h.1,hv,h.2.2⟩
  ·exact⟨h.1,h.2.1,hv⟩
theorem KO:∀x∈lV,∀(s:aO) (n:List Int) (s':aO),mI s→jY s→(∀m∈n,0≤m∧m≤999)→x.2.2 s n=.ok s'→jY s':=by
 intro x hx s n s' hk h hn e;simp only[lV,zm,n4,yk]at hx;have kb:=hk.bc;have kh:=hk.ht;obtain⟨g1,g2,g3,g4,U,g6,g7,g8,g9,V,Y,I,Z,O,g15⟩:=h;rcases hx with rfl|rfl|rfl|rfl|rfl|rfl|rfl|rfl|rfl|rfl|rfl|rfl|rfl|rfl|rfl|rfl|rfl|rfl|rfl|rfl|rfl|rfl;all_goals simp only[J4,n8,qK,rS,K3,UP,BQ,BN,G0,K9,N1,vT,qF,rU,uY,vC,xH,TJ,I3,sI]at e
 all_goals repeat' split at e
 all_goals cases e
 all_goals try simp only[List.forall_mem_cons]at hn
 all_goals refine⟨?_,?_,?_,?_,?_,?_,?_,?_,?_,?_,?_,?_,?_,?_,?_⟩
 all_goals simp only[nC,iR,pW,lK]
 all_goals first|assumption|omega|exact Xcx Yn f_|exact TN Yn f_|exact aEA Yn|(simp only[zf,ve,sj];omega)|(intro c hc;have:=U c hc;simp only[zf,ve];omega)|(have R:=I _ (GE Yn);exact TN I ⟨R.1,R.2.1,f_⟩)|(have R:=O _ (GE Yn);exact TN O ⟨R.1,Al R.2 Yd⟩)
theorem HS:jY G5:=by
 refine⟨Yu,Yu,Yu,Yu,Yu,C,Yu,Yu,Yu,λ_ h=>wg,⟨C,C,C⟩,λ_ h=>wg,Yu,λ_ h=>wg,λ_ h=>wg⟩
theorem O4{line:Λ}{act:eS}{n:List Int}(h:kB line=some (act,n)):∀m∈n,0≤m∧m≤999:=by
 obtain⟨p,ps,hc⟩:=qR line;rw[wD hc]at h;split at h
 ·cases h
 ·split at h
  ·cases hm:ps.mapM wV with
   |none=>rw[hm]at h;cases h
   |some m=>rw[hm]at h;cases h;exact d8 hm
  ·cases h
theorem Sz{s:aO}(hk:mI s)(h:jY s)(line:Λ):jY (F9 s line).1:=by
 unfold F9;cases hp:kB line with
 |none=>exact h
 |some a=>
  obtain⟨act,n⟩:=a;simp only[];cases ha:act s n with
  |error c=>exact h
  |ok s'=>
   simp only[];split
   ·obtain⟨x,hx,rfl⟩:=HF hp;exact KO x hx s n s' hk h (O4 hp) ha
   ·exact h
theorem Mr(ls:List Λ):jY (nJ ls).1:=(LM (I:=λs=>mI s∧jY s) (λ_s l h=>⟨QR h.1 l,Sz h.1 h.2 l⟩) ⟨G2,HS⟩ ls).2
section
variable{s:aO}(hk:mI s)(h:jY s)
include hk h
theorem jY.rowOk:C1.mV s.row:=⟨h.len0,by have:=hk.pl;omega,hk.ct,h.wrong,h.off,h.place,h.cnt⟩
theorem jY.tOk:C2.MU s.table:=⟨by rw[h.last];decide,by rw[hk.ht,h.last];decide,h.step,λr hr=>by
 have:=h.hts r hr;unfold C2.jN C2.gD;simp only[zl,LE,C1.bH];omega,hk.lev,h.levs,hk.mks,λm hm=>by
 have:=h.mark m hm;rw[h.last];unfold C2.xQ C2.sK C2.IE C2.jN C2.gD;simp only[zl,LE,C1.bH];omega⟩
theorem jY.many:C2.sO s.table.heights≤81:=by
 have:=Tk s.table.heights 1 Yd λq hq=>by have:=h.hts q hq;unfold C2.fZ;omega
 rw[hk.ht]at this;exact Int.le_trans this Yu
theorem jY.fT:C2.aW s.table=if C2.fM s.table=[]then 9 else 0:=by
 have ho:=h.tOk hk;have h1:C2.aOT s.table=false:=by
  unfold C2.aOT;have:=ho.last;have:=ho.lev;have:=ho.mks
  simp only[xn,yt];omega
 have h2:C2.bMM s.table=true:=by
  unfold C2.bMM C2.gD;simp only[zl,LE,yu,C1.bH];exact⟨⟨⟨⟨⟨ho.last.1,ho.len⟩,ho.hts⟩,ho.step⟩,ho.levs⟩,ho.mark⟩
 unfold C2.aW;rw[h1,h2,zv Yf,zv Yf,zv (by have:=h.many hk;omega)]
theorem jY.fB:C3.aW s.book=if 4096<C3.uQ 3 s.book.lines then 3 else 0:=by
 have h1:C3.uL s.book=true:=by
  unfold C3.uL;rw[hk.bc,h.bk.1,h.bk.2.1,h.bk.2.2];simp only[zl,yu,C1.bH];refine⟨⟨⟨⟨Yu,Yu⟩,Yu⟩,λl hl=>?_⟩,λ_ h=>wg⟩;have:=h.ln l hl;unfold C3.sH;simp only[zl,C1.bH];omega
 unfold C3.aW;rw[h1,zv (by rw[h.bk.2.2];have:=hk.ln;simp;omega),zv Yf,hk.bc]
theorem jY.fY:C7.aW s.yard=if 8<C7.cZ s.yard.chairs then 3 else 0:=by
 have h1:C7.K8 s.yard=true:=by
  unfold C7.K8;simp only[zl,yu,C7.bH];refine⟨⟨h.fit,λc hc=>?_⟩,λr hr=>?_⟩
  ·have:=h.size c hc;unfold C7.lD C7.VW C7.Pt.l;simp only[zl,yu,C7.bH,List.forall_mem_cons];exact⟨this.1,this.2.1,this.2.2.1,this.2.2.2,λ_ h=>wg⟩
  ·have:=h.claim r hr;unfold C7.nN;simp only[zl,LE];omega
 unfold C7.aW;rw[h1,zv (by have:=hk.ch;have:=hk.cl;omega),zv Yf]
end
def ZI(s:aO):Int:=if C1.truths s.row=[]then 11 else if C2.fM s.table=[]then 9 else if C2.bI s.table=[]then 11 else if 4096<C3.uQ 3 s.book.lines∨8<C7.cZ s.yard.chairs then 3 else if L7.bT s.yard []=[]then 11 else 0
theorem FH(y:C7.aS):(L7.dS y).2=if C7.aW y≠0 then C7.aW y else if L7.bT y []=[]then 11 else 0:=by
 unfold L7.dS;by_cases h:C7.aW y=0
 ·rw[zv Yd,zv Yd];cases L7.bT y []with
  |nil=>rfl
  |cons a l=>simp only[yl];rfl
 ·rw[zo h,zo h]
theorem wF{s:aO}(hk:mI s)(h:jY s):eI s=ZI s:=by
 unfold eI ZI C1.eJ C2.nG;rw[C1.V5.2 (h.rowOk hk),h.fT hk,h.fB hk,h.fY hk,FH,h.fY hk];by_cases I:C1.truths s.row=[]
 ·simp[I]
 ·by_cases a2:C2.fM s.table=[]
  ·simp[I,a2]
  ·by_cases a3:C2.bI s.table=[]
   ·simp[I,a2,a3]
   ·by_cases a4:4096<C3.uQ 3 s.book.lines
    ·simp[I,a2,a3,a4]
    ·by_cases a5:8<C7.cZ s.yard.chairs
     ·simp[I,a2,a3,a4,a5]
     ·by_cases O:L7.bT s.yard []=[]
      ·simp[I,a2,a3,a4,a5,O]
      ·simp[I,a2,a3,a4,a5,O]
end L12
open Go.Proofs Tryz
namespace L1
open C1
theorem aBX{r:dG}{t:List Int}(h:t.length≠r.places.length):eM r t=false:=by
 unfold eM;simp[h]
theorem Xax{r:dG}{t:List Int}{k:Nat}{x y:Int}(hx:r.places[k]?= some x)(hy:t[k]?= some y)(h:(!gF y 0 1||(decide (x≠2)&&decide (y≠x)))=true):eM r t=false:=by
 have hm:(y,x)∈t.zip r.places:=GE (i:=k) (by rw[jp];exact⟨hy,hx⟩);have:((t.zip r.places).all λx=>rV x.1 x.2)=false:=by
  rw[ql];refine⟨_,hm,?_⟩;unfold rV;simp only[yg,vt,zl,LE]at h;rcases h with h|h
  ·simp[h]
  ·simp only[zl,yg,th];rintro⟨_,h3|h3⟩
   ·exact h.1 h3
   ·exact h.2 h3
 unfold eM;rw[this];simp
theorem E_{r:dG}{t:List Int}{k:Nat}{x y:Int}(hx:r.places[k]?= some x)(hy:t[k]?= some y)(h2:((t.zip r.places).take k).all (λx=>rV x.1 x.2)=true)(h:(!gF y 0 1||(decide (x≠2)&&decide (y≠x)))=false):
  ((t.zip r.places).take (k+1)).all (λx=>rV x.1 x.2)=true:=by
 rw[zg,show(t.zip r.places)[k]?= some (y,x) by rw[jp];exact⟨hy,hx⟩,List.all_append,h2];simp only[xn,ry,pf,yt,ne_eq,Decidable.not_not]at h;rcases h with⟨h0,h|h⟩
 ·simp[rV,h,h0]
 ·subst h;simp[rV,h0]
theorem aDZ{r:dG}{t:List Int}{k:Nat}(hl:t.length=r.places.length)(hk:t.length≤k)(h2:((t.zip r.places).take k).all (λx=>rV x.1 x.2)=true):eM r t=true:=by
 rw[ww xw]at h2;unfold eM;rw[h2,hl];simp
theorem Ks{r:dG}{t:List Int}{k:Nat}{x:zM}(hx:r.counts[k]?= some x)(h:0<hC t x):((((r.counts.take (k+1)).filter λc=>decide (0<hC t c)).length:Nat):Int)=((r.counts.take k).filter λc=>decide (0<hC t c)).length+1:=by
 rw[zg,hx,yd,xu,zf];simp[h]
theorem Ei{r:dG}{t:List Int}{k:Nat}{x:zM}(hx:r.counts[k]?= some x)(h:¬0<hC t x):((((r.counts.take (k+1)).filter λc=>decide (0<hC t c)).length:Nat):Int)=((r.counts.take k).filter λc=>decide (0<hC t c)).length:=by
 rw[zg,hx,yd,xu,zf];simp[h]
theorem eh(tv:Γ)(t:List Int)(i j:Int)(a n:Nat)(D:aC)(hS:Sl D RI 1 tv t)(hi:i=a)(hj:j+1=a+n)(hn:a+n≤t.length)(hb:∀x∈t,0≤x∧x≤1)(hl:t.length≤100):Fn prog 31 #[tv,qI i,qI j] D (λ_ v=>v=qI (dN t a n)):=by
 subst hi;refine Zx 22 func31 C λh0=>aA<|Zf C<|aJ<|Zf C<|bD<|Za C<|Zf C<|aE<|Za4<|Zo Nat (λk=>n-k) (λk=>k≤n) (λk=>[(8,qI ((a:Int)+k)),(7,qI (dN t a k))]) [(6,_),(0,_),(2,_)] (λk=>[D]) 0 ⟨(by simp;rfl),(by simp[dN];rfl),zy⟩ ?_
 rintro k h1;refine bL<|Za C<|Za C<|iB C C C C zy<|aE<|Zae C (λhc1=>?_) λhc1=>?_
 ·have hk:k<n:=Yd
  obtain⟨x,hx0⟩:=cF t (a+k);have hx:t[((a:Int)+k).toNat]?= some x:=by rw[show((a:Int)+k).toNat=a+k by omega];exact hx0
  have hx1:=hb x (GE hx0);have hx2:=fI hb a k;refine aP<|Za6<|Za4<|aM<|Za C<|Za C<|Za C<|gH C hS C hx λI O=>Zaf C<|Zf C<|Zap<|Za7 ?_;refine l_ ?_;exact Zl 15 (k+1) ⟨Ya,(by rw[I9 hx0];rfl),zy⟩ C zp
 ·obtain rfl:k=n:=Yd
  refine Wj ?_;exact aD C λD hD=>C
theorem Dv(tv:Γ)(t:List Int)(c:zM)(D:aC)(hS:Sl D RI 1 tv t)(h0:0≤c.many)(h1:c.many≤t.length)(h2:0≤c.num)(h3:c.num≤9)(hb:∀x∈t,0≤x∧x≤1)(hl:t.length≤100):Fn prog 149 #[tv,cV c] D (λ_ v=>v=qI (hC t c)):=by
 have U:=h0;have V:=h1;have Y:=fI hb 0 c.many.toNat;have Z:=fI hb (t.length-c.many.toNat) c.many.toNat;refine Zx 32 func149 C λh0=>aA<|Zac C λq1 E1 hB I=>Zf C<|aJ<|Za C<|Zj C NT C<|Zh 1 C aH C I C<|Zax C<|Zd C (λD1 O=>eh _ t _ _ 0 c.many.toNat _ (hS.up RI.up (O _ Yf)) C Yd Yd hb hl)<|Zf C<|bD ?_;refine Zj C Jf C<|Zh 0 C JE C I C<|aE<|Zai C (λhc1=>?_) λhc1=>?_
 ·have hab:Q9 t c=dN t (t.length-c.many.toNat) c.many.toNat:=by unfold Q9;rw[zo hc1]
  refine aM<|Za C<|Za C<|eQ C U35 C Yn C C zy<|Zj C NT C<|Zh 1 C aH C I C<|Zax C<|Za C<|eQ C U35 C Yn C C zy<|Zax C<|Zd C (λD2 R=>eh _ t _ _ (t.length-c.many.toNat) c.many.toNat _ (hS.up RI.up (R _ Yf)) Yd Yd Yd hb hl)<|Zf C ?_;refine aJ<|Za C<|Zj C T8 C<|Zh 2 C aH C I C<|Zax C<|Zj C T8 C<|Zh 2 C aH C I C<|Za C<|Zax C<|mL C C C C zy<|Wd ?_;exact aD C λD hD=>by show Value.int _ _=_;rw[hC,hab]
 ·have hab:Q9 t c=dN t 0 c.many.toNat:=by unfold Q9;rw[zv (by simp[hc1])]
  refine aP<|aA<|Za C<|Zj C T8 C<|Zh 2 C aH C I C<|Zax C<|Zj C T8 C<|Zh 2 C aH C I C<|Za C<|Zax C<|mL C C C C zy<|Zf C ?_;refine aG ?_;exact aD C λD hD=>by show Value.int _ _=_;rw[hC,hab]
theorem Kx(rv tv:Γ)(r:dG)(t:List Int)(D:aC)(hr:nS D rv r)(ht:Sl D RI 1 tv t):Fn prog 83 #[rv,tv] D (λ_ v=>v=.bool (eM r t)):=by
 obtain⟨pv,cv,rfl,hp,hc⟩:=hr;have hl:=ht.len;refine Zx 44 func83 C λh0=>aA<|Zac C λq1 E1 hO I=>Zf C<|bD<|Za C<|Zaj C U35 C ht C<|Zj C jG C<|Zh 0 C bW C I C<|Zaj C U35 C hp C<|Za0 C<|aE ?_;refine Zae C (λhc1=>?_) λhc1=>?_
 ·refine aA<|Wi ?_;exact aD C λD hD=>by show Value.bool _=_;rw[aBX Yd]
 ·have hlen:t.length=r.places.length:=Yd
  refine aP<|bL<|Zf C<|aE<|Za4<|cW (γ:=Nat) (λk=>t.length-k) (λk=>k≤t.length∧((t.zip r.places).take k).all (λx=>rV x.1 x.2)=true) (λk=>[(5,qI (k:Int))]) [(4,_),(2,_),(1,_)] (λk=>[E1,D]) 0 Yf ⟨Ya,zy⟩ cE (aN) ?_;rintro k ⟨h1,h2⟩;refine bL<|Za C<|Za C<|Zaj C U35 C ht C<|Zal C<|aE<|Zae C (λhc2=>?_) λhc2=>?_
  ·have hk:k<t.length:=Yd
   obtain⟨x,hx⟩:=cF r.places k;obtain⟨y,hy⟩:=cF t k;refine aP<|Za6<|Za4<|Za6<|bK [] 7 26 8159746<|Za C<|Za C<|gH C ht C hy λb1 o1=>Zd C (λD1 hP=>aHL _ _ _ _)<|si ?_;refine' dU 19 (s:=24) (p:=43) C (λO=>?_) (λO=>?_) ?_;rotate_left
   ·refine Zk C jG C<|Zi 0 C bW C I C<|Zb C<|eF C U35 aI C hp C Yd hx C ⟨_,C,C⟩ λb2 o2 R U hJ V=>?_;obtain rfl:R=[qI _]:=U;refine Zi 0 C aH C V C<|KD C C C C ⟨_,C,C⟩<|Zb C ?_;refine' bU 11 (s:=31) (p:=42) C (λY=>?_) (λY=>?_) ?_;rotate_left
    ·refine Zb C<|Zb C<|eF C U35 aI C ht C Yd hy C ⟨_,C,C⟩ λb3 o3 Z hB hK hE=>?_;obtain rfl:Z=[qI _]:=hB;refine Zi 0 C aH C hE C<|Zk C jG C<|Zi 0 C bW C I C<|Zb C<|eF C U35 aI C hp C Yd hx C ⟨_,C,C⟩ λb4 o4 hF hH hN hI=>?_;obtain rfl:hF=[qI _]:=hH;refine Zi 0 C aH C hI C<|KD C C C C ⟨_,C,C⟩<|oR C C C C ⟨_,C,C⟩ ?_;exact aQ 10
    ·refine Zg C<|Zg C<|Zg C<|Zg C<|Zg C<|Zg C<|Zg C<|Zg C<|jn ?_;exact aQ 10
    refine Zan C ?_;exact aQ 8
   ·refine ol ?_;refine Zg C<|Zg C<|Wf ?_;exact aQ 18
   refine aE<|Zai C (λhc3=>?_) λhc3=>?_
   ·refine aA<|Wg ?_;exact aD C λD hD=>by show Value.bool _=_;rw[Xax hx hy hc3]
   ·refine xz ?_;exact aK 16 (k+1) ⟨Yd,E_ hx hy h2 hc3⟩ Yd ⟨Ya,zy⟩ C C zp (aN)
  ·refine Wk ?_;exact aD C λD hD=>by show Value.bool _=_;rw[aDZ hlen Yd h2]
theorem aAW(rv tv:Γ)(r:dG)(t:List Int)(D:aC)(hr:nS D rv r)(ht:Sl D RI 1 tv t)(hok:mV r)(htr:oS r t):Fn prog 85 #[rv,tv] D (λ_ v=>v=qI (if cK r t then(jM r t:Int)else -1)):=by
 obtain⟨pv,cv,rfl,hp,hc⟩:=hr;have hl:=hc.len;have h6:=hok.cnt6;have h9:=hok.len9;have htl:=htr.1;refine Zx 31 func85 C λh0=>aA<|Zac C λq1 E1 Z I=>Zf C<|aJ<|Zf C<|bD<|Zf C<|aE<|Za4<|cW (γ:=Nat) (λk=>r.counts.length-k) (λk=>k≤r.counts.length∧(r.counts.take k).all (λc=>decide (hC t c≤r.off))=true) (λk=>[(6,qI (k:Int)),(5,qI (((r.counts.take k).filter λc=>decide (0<hC t c)).length:Int))]) [(4,_),(2,_),(1,_)] (λk=>[E1,D]) 0 Yf ⟨Ya,Ya,zy⟩ cE (aN) ?_;rintro k ⟨h1,h2⟩;refine bL<|Za C<|Zj C kL C<|Zh 1 C zF C I C<|eQ C U36 C Yn C C zy<|Zal C<|aE<|Zae C (λhc1=>?_) λhc1=>?_
 ·have hk:k<r.counts.length:=Yd
  obtain⟨x,hx⟩:=cF r.counts k;have hxm:=GE hx;have hlf:=xm (λc=>decide (0<hC t c)) (r.counts.take k);have hlt:(r.counts.take k).length≤k:=ul _ _;refine aP<|Za6<|Za4<|aA<|Za C<|Zj C kL C<|Zh 1 C zF C I C<|Za C<|Zy C U36 tP C hc C hx λb1 o1 O R Y U=>?_;obtain rfl:O=[.bool _,qI _,qI _]:=R;refine Zv C aFU C U tP<|Zd C (λD1 V=>Dv _ t x _ (ht.up RI.up (V _ Yf)) (hok.cnt x hxm).1 (by have:=(hok.cnt x hxm).2.1;omega) (hok.cnt x hxm).2.2.1 (hok.cnt x hxm).2.2.2 htr.2 Yd)<|Zf C<|bD<|Za C<|Zj C WU C<|Zh 3 C aH C I C<|Zat C<|aE<|Zae C (λhc2=>?_) λhc2=>?_
  ·refine aA<|jj ?_;exact aD C λD hD=>by show Value.int _ _=_;rw[WN hxm hc2];rfl
  ·refine aP<|aA<|Za C<|Zat C<|aE<|Zae C (λhc3=>?_) (λhc3=>?_)
   ·refine og ?_;exact aK 27 (k+1) ⟨Yd,P7 hx h2 hc2⟩ Yd ⟨Ya,(by rw[Ks hx hc3];rfl),zy⟩ C C zp (aN)
   ·refine xz ?_;exact aK 24 (k+1) ⟨Yd,P7 hx h2 hc2⟩ Yd ⟨Ya,(by rw[Ei hx hc3];rfl),zy⟩ C C zp (aN)
 ·obtain rfl:k=r.counts.length:=Yd
  rw[ym]at h2;rw[ym];refine Wj ?_;exact aD C λD hD=>by show Value.int _ _=_;rw[MW h2];rfl
theorem aTF{α:Type}{p:α→Bool}{l:List α}{k:Nat}{x:α}(hx:l[k]?= some x)(h:(l.take k).all p=true)(hp:p x=true):(l.take (k+1)).all p=true:=by
 rw[zg,hx,yd,List.all_append,h];simp[hp]
theorem Dw{r:dG}{t:List Int}:(eM r t&&gF (if cK r t=true then(jM r t:Int)else -1) 0 r.wrong)=(eM r t&&fits r t):=by
 congr 1;unfold fits gF;cases cK r t<;>simp
theorem SZ(rv tv:Γ)(r:dG)(t:List Int)(D:aC)(hr:nS D rv r)(ht:Sl D RI 1 tv t)(hok:mV r):Fn prog 33 #[rv,tv] D (λ_ v=>v=.bool (eM r t&&fits r t)):=by
 have O:=hr;obtain⟨pv,cv,rfl,hp,hc⟩:=hr;refine Zx 16 func33 C λh0=>aA<|Zac C λq1 E1 Y I=>Zf C<|bX<|fS [] 3 [0,1,2,3,4,5,7,8,6,9,10,11] [false,true,false,false,false,true,true,true,true,false,false,false] [(false,0),(true,1),(false,2),(false,3),(false,4),(true,5),(true,7),(true,8),(true,6),(false,9),(false,10),(false,11)] aV (λ_ _ _ h=>eA (P:=prog) (fn:=f33) _ _ _ h) Yg C<|Zv C H7 C I wS<|Za C<|Zd C (λD1 R=>Kx _ _ r t _ (O.up (R _ Yf)) (ht.up RI.up (R _ Yf)))<|Za C ?_;refine' bU 7 (s:=8) (p:=15) C (λU=>?_) (λU=>?_) ?_;rotate_left
 ·refine cQ C H7 C I Yc wS n4 C ⟨_,C,C⟩<|Zb C<|Zk C Xt C<|Zi 2 C aH C I C<|Ze C (λD2 V=>aAW _ _ r t _ (O.up (V _ Yf)) (ht.up RI.up (V _ Yf)) hok (Mh U))<|Ze C (λD3 Z=>aHL _ _ _ _)<|Zam C ?_;exact aQ 6
 ·refine Wo ?_;exact aQ 6
 refine Wd ?_;exact aD C λD hD=>by show Value.bool _=_;rw[Dw]
theorem K_(lo hi n:Int)(D:aC):Fn prog 30 #[.agg #[qI lo,qI hi],qI n] D (λ_ v=>v=.agg #[qI (min lo n),qI (max hi n)]):=by
 refine Zx 14 func30 C λh0=>aA<|Zac C λR E1 O I=>Zag C G6 C λU=>aJ<|Zj C WJ C<|Zh 0 C aH C I C<|Za C<|zL C C C C zy<|Zj C WR C<|Zh 1 C aH C I C<|Za C ?_;refine mL C C C C zy<|Zw [qI (min lo n),qI (max hi n)] C Ro G6 C<|Zaa C rT ζ<|aG ?_;exact Zp [_] C ⟨⟨_,_,_,C,zu,Or.inr ⟨JM,ez,C⟩⟩,zy⟩ λD hD=>C
theorem Cj(D:aC):Fn prog 29 #[] D (λ_ v=>v=.agg #[qI 1099511627776,qI (-1)]):=by
 refine Zx 2 func29 C λh0=>aA<|Zag C G6 C λI=>aJ<|Zw [qI 1099511627776,qI (-1)] C Ro G6 C<|Zaa C rT ζ<|aG ?_;exact Zp [_] C ⟨⟨_,_,_,C,zu,Or.inr ⟨JM,ez,C⟩⟩,zy⟩ λD hD=>C
theorem MA(l:List Int)(a:Int)(hl:l≠[])(h:∀x∈l,x≤a):l.foldl min a=qH l:=by
 cases l with
 |nil=>exact absurd C hl
 |cons x l=>rw[yp,qH,ow (h x zj)]
theorem MJ(l:List Int)(a:Int)(hl:l≠[])(h:∀x∈l,a≤x):l.foldl max a=kU l:=by
 cases l with
 |nil=>exact absurd C hl
 |cons x l=>rw[yp,kU,Int.max_eq_right (h x zj)]
theorem c7{t:List Int}(I:t.length≤9)(hb:∀x∈t,0≤x∧x≤1)(i j:Nat):0≤iH t i j∧iH t i j≤9:=by
 unfold iH dN;have key:∀l:List Int,(∀x∈l,0≤x∧x≤1)→0≤l.sum∧l.sum≤l.length:=by
  intro l;induction l with
  |nil=>simp
  |cons x l ih=>
   intro h;have h1:=h x zj;have h2:=ih λy hy=>h y (GT _ hy)
   rw[List.sum_cons,zh];omega
 have h1:=key ((t.drop i).take (j+1-i)) λx hx=>hb x (List.mem_of_mem_drop (pd hx));have h2:((t.drop i).take (j+1-i)).length≤t.length:=by rw[wq,vq];omega
 omega
theorem Cb{ts:List (List Int)}{i j:Nat}(hne:ts≠[])(hall:∀t∈ts,t.length≤9∧∀x∈t,0≤x∧x≤1)(_:True∨i=i):(ts.map λt=>iH t i j).foldl min 1099511627776=SK ts i j:=by
 refine MA _ _ nz λx hx=>?_
 obtain⟨t,ht,rfl⟩:=n5.1 hx;have:=c7 (hall t ht).1 (hall t ht).2 i j;omega
theorem As{ts:List (List Int)}{i j:Nat}(hne:ts≠[])(hall:∀t∈ts,t.length≤9∧∀x∈t,0≤x∧x≤1)(_:True∨i=i):(ts.map λt=>iH t i j).foldl max (-1)=UX ts i j:=by
 refine MJ _ _ nz λx hx=>?_
 obtain⟨t,ht,rfl⟩:=n5.1 hx;have:=c7 (hall t ht).1 (hall t ht).2 i j;omega
theorem aDH(sv:Γ)(ts:List (List Int))(i j:Int)(D:aC)(hS:Sl D RL 1 sv ts)(hne:ts≠[])(hall:∀t∈ts,t.length≤9∧∀x∈t,0≤x∧x≤1)(Y:0≤i)(hij:i≤j)(hjl:∀t∈ts,j<t.length):
  Fn prog 13 #[sv,qI i,qI j] D (λ_ v=>v=.agg #[qI (SK ts i.toNat j.toNat),qI (UX ts i.toNat j.toNat)]):=by
 have hl:=hS.len;refine Zx 26 func13 C λh0=>aA<|Zag C G6 C λZ=>aJ<|Zd C (λD1 hB=>Cj _)<|Zag C G6 C λq2=>Zaa C rT ζ<|bD<|Zf C<|aE<|Za4<|fE (γ:=Nat) (λk=>ts.length-k) (λk=>k≤ts.length) (λk=>[(8,qI (k:Int))]) [(7,_),(6,_),(0,_),(1,_),(2,_)] (λk=>[(q2,qC [qI (((ts.take k).map λt=>iH t i.toNat j.toNat).foldl min 1099511627776),qI (((ts.take k).map λt=>iH t i.toNat j.toNat).foldl max (-1))] 55),(Z,qC [qI 0,qI 0] 55)]) (λk=>[D]) 0 Yd ⟨Ya,zy⟩ cE zp (aN) ?_;rintro k h1;refine bL<|Za C<|Za C<|eQ C U57 C Yn C C zy<|Zal C<|aE<|Zae C (λhc1=>?_) λhc1=>?_
 ·have hk:k<ts.length:=Yd
  obtain⟨t,ht⟩:=cF ts k;have htm:=GE ht;obtain⟨htl,htb⟩:=hall t htm;refine aP<|Za6<|Za4<|bK [] 4 10 254<|Zah C JM C zu rT<|Za C<|Za C<|Zy C U57 eZ C hS C ht λb1 o1 hE I V O=>?_;obtain⟨w1,rfl,R⟩:=I;refine Zh 0 C bW C O C<|Za C<|Za C<|Zd C (λD2 U=>eh _ t i j i.toNat (j.toNat+1-i.toNat) _ (R.up RI.up (U _ Yf)) Yd Yd (by have:=hjl t htm;omega) htb Yd)<|Zd C (λD3 hF=>K_ _ _ _ _)<|Zaa C rT ζ<|l3 ?_;refine sg ?_;rw[show dN t i.toNat (j.toNat+1-i.toNat)=(λt=>iH t i.toNat j.toNat) t from C,←nX ht,←oB ht];exact Zl 17 (k+1) ⟨Ya,zy⟩ C zp
 ·obtain rfl:k=ts.length:=Yd
  rw[ym,Cb hne hall Yd,As hne hall Yd];refine Za9<|Za5<|Za5<|Zba<|Za2<|aA<|Zah C JM C zu rT<|Zaa C rT (.tail ζ)<|aG ?_;exact Zp [_] C ⟨⟨_,_,_,C,zi,Or.inr ⟨JM,ez,C⟩⟩,zy⟩ λD hD=>C
def LA(D:aC)(vs:List Γ)(ts:List (List Int)):Prop:=vs.length=ts.length∧∀(i:Nat) (v:Γ) (t:List Int),vs[i]?= some v→ts[i]?= some t→Sl D RI 1 v t
theorem LA.nil{D:aC}:LA D [] []:=⟨C,λi v t h _=>vu⟩
theorem LA.len{D:aC}{vs:List Γ}{ts:List (List Int)}(h:LA D vs ts):vs.length=ts.length:=h.1
theorem LA.up{D D':aC}{vs:List Γ}{ts:List (List Int)}(h:LA D vs ts)(hl:Le D D'):LA D' vs ts:=⟨h.1,λi v t hv ht=>(h.2 i v t hv ht).up RI.up hl⟩
theorem LA.snoc{D:aC}{vs:List Γ}{ts:List (List Int)}{v:Γ}{t:List Int}(h:LA D vs ts)(hv:Sl D RI 1 v t):LA D (vs++[v]) (ts++[t]):=by
 refine⟨by simp[h.1],λi u s hu hs=>?_⟩;by_cases hi:i<vs.length
 ·rw[uo hi]at hu;rw[uo (by rw[←h.1];exact hi)]at hs
  exact h.2 i u s hu hs
 ·have h1:=(yx.1 hu).1;simp only[zf,ve]at h1;obtain rfl:i=vs.length:=Yd
  rw[rk (zk _)]at hu;rw[rk (by rw[h.1];exact zk _),h.1]at hs
  simp at hu hs;subst hu hs;exact hv
theorem _root_.Go.Fs.lB.lists{D D':aC}{v:Γ}{vs:List Γ}{ts:List (List Int)}(hF:lB D' v vs.length vs)(h:LA D vs ts)(hl:Le D D')(hb:ts.length≤9223372036854775807):Sl D' RL 1 v ts:=
 hF.sl h.1.symm (by rw[h.1];exact hb) λi t hi=>by
  have hlt:=(yx.1 hi).1;have hv:vs[i]?= some (vs[i]'(by rw[h.1];exact hlt)):=yz _
  refine⟨_,⟨_,C,(h.2 i _ t hv hi).up RI.up hl⟩,C,?_⟩;rw[xp,xc (by rw[h.1];exact hlt)];rfl
theorem Sl.empty{D:aC}{a:Option Addr}:Sl D RI 1 (.slice a 0 0) ([]:List Int):=⟨a,0,C,zk _,Yf,zq C⟩
theorem Sl.one{D:aC}{b:Nat}{v:Γ}{t:List Int}(hA:At D b 0 [v])(h:Sl D RI 1 v t):Sl D RL 1 (qS b 1 1) [t]:=
  Sl.of_at hA C (zk _) Yd λi x hx=>by
    cases i with
    | zero => obtain rfl : t = x := by simpa using hx
              exact⟨[v],⟨v,C,h⟩,C,C⟩
    |succ i=>simp at hx
theorem YM(p:Int)(t:List Int)(m:Nat):(S6 p t m).length≤m:=by
 induction m with
 |zero=>simp[S6]
 |succ m ih=>
  by_cases h:p=2∨p=(m:Int)
  ·rw[XU h];simp;omega
  ·rw[Vp h];omega
theorem PY(p:Int)(out:List (List Int)):(kZ p out).length≤2*out.length:=by
 induction out with
 |nil=>simp[kZ]
 |cons t out ih=>
  unfold kZ at ih ⊢
  rw[xy,zf,zh];have:=YM p t 2;omega
theorem Av(p:Int)(out:List (List Int))(k:Nat)(t:List Int)(m:Nat):(kZ p (out.take k)++S6 p t m).length≤2*out.length+m:=by
 have h1:=PY p (out.take k);have h2:=YM p t m;have h3:(out.take k).length≤out.length:=by rw[wq];omega
 rw[zf];omega
theorem Md{l:List Int}{i:Nat}{p:Int}(h:l[i]?= some p):(l.take (i+1)).foldl (λo p=>kZ p o) [[]]=kZ p ((l.take i).foldl (λo p=>kZ p o) [[]]):=by
 rw[zg,h,yd,xk];rfl
theorem Iw{r:dG}(hok:mV r)(i:Nat):((r.places.take i).foldl (λo p=>kZ p o) [[]]).length≤512:=by
 rw[m5];have h1:=tR (r.places.take i);have h2:(r.places.take i).length≤9:=by have:=hok.len9;rw[wq];omega
 have h3:2^(r.places.take i).length≤2^9:=wu Yd h2;omega
theorem Lg{r:dG}(hok:mV r){i:Nat}{t:List Int}(h:t∈(r.places.take i).foldl (λo p=>kZ p o) [[]]):t.length≤9:=by
 rw[m5]at h;have:=(pZ h).1;have:=hok.len9;rw[wq]at *;omega
theorem LF(rv:Γ)(r:dG)(D:aC)(hr:nS D rv r)(hok:mV r):Fn prog 32 #[rv] D (λD' v=>Sl D' RL 1 v (bP r.places)):=by
 obtain⟨pv,cv,rfl,hp,hc⟩:=hr;have hl:=hp.len;refine Zx 56 func32 C λh0=>aA<|Zac C λq1 E1 hE1 Y=>Zf C<|aJ<|Zu C U35 aI cN C .nil λb901 D901 hF hH=>Zu C U57 eZ wP C (.cons C C .nil) λb902 R hI Z=>Zf C<|bD<|Zf C<|aE<|Za4 ?_;refine cW (γ:=Nat×Γ×aC) (λg=>r.places.length-g.1) (λg=>g.1≤r.places.length∧Sl g.2.2 RL 1 g.2.1 ((r.places.take g.1).foldl (λo p=>kZ p o) [[]])) (λg=>[(4,qI (g.1:Int)),(3,g.2.1)]) [(2,_),(1,_)] (λg=>[g.2.2,E1,D]) (0,_,R) ⟨Yf,Sl.one (Z) (Sl.empty)⟩ ⟨Ya,Ya,zy⟩ cE ((λD0 h=>by simp only[zm,n4,yk]at h;rcases h with h|h|h;exact⟨R,Yf,h▸Le.refl _⟩;exact⟨E1,Yf,h▸Le.refl _⟩;exact⟨D,Yf,h▸Le.refl _⟩)) ?_
 rintro⟨i,outv,Do⟩ ⟨h1,ho⟩;simp only at h1 ho;have hol:=Iw hok i;have hol2:=ho.len;refine bL<|Za C<|Zj C jG C<|Zh 0 C bW C Y C<|Zaj C U35 C hp C<|Zal C<|aE<|Zae C (λhc1=>?_) λhc1=>?_
 ·have hi:i<r.places.length:=Yd
  obtain⟨p,hx⟩:=cF r.places i;refine aP<|Za6<|Za4<|aA<|Zf C<|bD<|Zf C<|aE<|Za4<|fE (γ:=Nat×Γ×List Γ×aF×aC) (λg=>((r.places.take i).foldl (λo p=>kZ p o) [[]]).length-g.1) (λg=>g.1≤((r.places.take i).foldl (λo p=>kZ p o) [[]]).length∧bM 35 1 g.2.1 g.2.2.1.length g.2.2.1 g.2.2.2.1∧LA g.2.2.2.2 g.2.2.1 (kZ p (((r.places.take i).foldl (λo p=>kZ p o) [[]]).take g.1))) (λg=>[(6,qI (g.1:Int)),(5,g.2.1)]) [(14,_),(13,_),(12,_),(11,_),(10,_),(4,_),(3,_),(2,_),(1,_)] (λg=>g.2.2.2.1++[]) (λg=>[g.2.2.2.2,Do,E1,D]) (0,qN,[],[],Do) ⟨Yf,mn,by simpa [kZ]using LA.nil⟩ ⟨Ya,Ya,zy⟩ cE zp ((λD0 h=>by simp only[zm,n4,yk]at h;rcases h with h|h|h|h;exact⟨Do,Yf,h▸Le.refl _⟩;exact⟨Do,Yf,h▸Le.refl _⟩;exact⟨E1,Yf,h▸Le.refl _⟩;exact⟨D,Yf,h▸Le.refl _⟩)) ?_
  rintro⟨k,v,vs,ν,Dn⟩ ⟨h2,ha,hla⟩;simp only at h2 ha hla;have hvl:=hla.len;refine bL<|Za C<|Za C<|Zaj C U57 C ho C<|Zal C<|aE<|Zae C (λhc2=>?_) λhc2=>?_
  ·have hk:k<((r.places.take i).foldl (λo p=>kZ p o) [[]]).length:=Yd
   obtain⟨t,ht⟩:=cF ((r.places.take i).foldl (λo p=>kZ p o) [[]]) k;have htl:=Lg hok (GE ht);refine aP<|Za6<|Za4<|aA<|Zf C<|aE<|Za4<|fE (γ:=Nat×Γ×List Γ×aF×aC) (λg=>2-g.1) (λg=>g.1≤2∧bM 35 1 g.2.1 g.2.2.1.length g.2.2.1 g.2.2.2.1∧LA g.2.2.2.2 g.2.2.1 (kZ p (((r.places.take i).foldl (λo p=>kZ p o) [[]]).take k)++S6 p t g.1)) (λg=>[(7,qI (g.1:Int)),(5,g.2.1)]) [(20,_),(19,_),(18,_),(17,_),(6,_),(14,_),(13,_),(12,_),(11,_),(10,_),(4,_),(3,_),(2,_),(1,_)] (λg=>g.2.2.2.1++[]) (λg=>[g.2.2.2.2,Do,E1,D]) (0,v,vs,ν,Dn) ⟨Yf,ha,by simpa [S6]using hla⟩ ⟨Ya,Ya,zy⟩ cE zp (Yy) ?_;rintro⟨m,v,vs,ν,Dn⟩ ⟨h3,ha,hla⟩;simp only at h3 ha hla;have hvl:=hla.len;have hsl:=Av p ((r.places.take i).foldl (λo p=>kZ p o) [[]]) k t m;refine bL<|Za C<|iB C C C C zy<|aE<|Zae C (λhc3=>?_) λhc3=>?_
   ·have hm:m<2:=Yd
    refine aP<|Za6<|Za4<|aA<|Zj C jG C<|Zh 0 C bW C Y C<|Za C<|gH C hp C hx λb1 o1=>ud ?_;refine' dU 8 (s:=33) (p:=41) C (λhJ=>?_) (λhJ=>?_) ?_;rotate_left
    ·refine Zk C jG C<|Zi 0 C bW C Y C<|Zb C<|eF C U35 aI C hp C Yd hx C ⟨_,C,C⟩ λb2 o2 hK hN hcl2 hO=>?_;obtain rfl:hK=[qI _]:=hN;refine Zi 0 C aH C hO C<|Zb C<|jl ?_;exact aQ 7
    ·refine Zg C<|Zg C<|Zg C<|Wf ?_;exact aQ 7
    refine aE<|Zai C (λhc4=>?_) λhc4=>?_
    ·have hpm:p=2∨p=(m:Int):=pz
     refine aM<|Za C<|Zu C U35 aI cN C .nil λb903 D903 hP hR=>Za C<|Za C<|Zy C U57 eZ C ho C ht λb3 o3 cs3 hS hcl3 hX=>?_;obtain⟨w3,rfl,hY⟩:=hS;refine Zh 0 C bW C hX C<|bB (([]:aF)++[]++(ν++[])) C<|aT (A:=[]) (ν:=[]) (B:=ν++[]) C U35 C C aI cN C jV C C C bM.nil (kX.ints hY) Yf Yf C (dZ _) Yd (zq C) C zy λv8 ν8 rA=>Za C<|Zu C U35 aI cN C (.cons C C .nil) λb904 D904 rB I=>?_;have hS904:=Sl.ofInts (l:=[_]) (n:=1) (cap:=1) I C Yd Yd;refine aT (A:=[]) (B:=ν++[]) C U35 C C aI cN C jV C C C rA (kX.lit I) Yf C Yf Ym Yd (zq C) C zy λv9 ν9 hB=>?_;have ha9':bM 3 1 v9 (t.length+1) (ints (t++[(m:Int)])) ν9:=by rw[←eL,show ints [(m:Int)]=[qI (m:Int)]from C];simpa using hB
     refine ZB (A:=[]) (B:=ν++[]) ha9' C λD9 hD9 hF9=>?_;have hw9:=hF9.ints Yf Yd;refine Zu C U57 eZ wP C (.cons hB.cells1 C .nil) (λb905 U O hE=>aT (A:=[]) (B:=[]) C U57 C C eZ wP C UQ C C C ha (kX.lit hE) Yf C Yf (by simpa using hB.cell1) Yd (zq C) C zy λv7 ν7 ha7=>?_);have V:=(hla.up (O Dn Yf)).snoc (hw9.up RI.up (O D9 Yf));rw[yy,←XU hpm]at V;refine Wp ?_;exact aK 28 (m+1,v7,vs++[v9],ν7,U) ⟨Yl,by simpa using ha7,V⟩ Yl ⟨Ya,Ya,zy⟩ C C zp ((λD0 h=>by simp only[zm,n4,yk]at h;rcases h with h|h|h|h;exact⟨U,Yf,h▸Le.refl _⟩;exact⟨Do,Yf,h▸Le.refl _⟩;exact⟨E1,Yf,h▸Le.refl _⟩;exact⟨D,Yf,h▸Le.refl _⟩))
    ·have hpm:¬(p=2∨p=(m:Int)):=pz
     refine xz ?_;exact aK 15 (m+1,v,vs,ν,Dn) ⟨Yl,ha,by simp only;rw[Vp hpm];exact hla⟩ Yl ⟨Ya,Ya,zy⟩ C C zp (Yy)
   ·obtain rfl:m=2:=Yd
    refine oe ?_;exact aK 12 (k+1,v,vs,ν,Dn) ⟨Yl,ha,by simp only;rw[Ln ht];exact hla⟩ Yl ⟨Ya,Ya,zy⟩ C C zp (Yy)
  ·obtain rfl:k=((r.places.take i).foldl (λo p=>kZ p o) [[]]).length:=Yd
   rw[ym]at hla;refine Za9<|Za5<|Za5<|Zba<|Za2<|zN (A:=[]) (B:=[]) ha C λD8 hD8 hF8=>?_;have hs8:=hF8.lists hla (hD8 Dn Yf) (by have:=PY p ((r.places.take i).foldl (λo p=>kZ p o) [[]]);omega)
   refine aM<|Za C<|Wp ?_;exact aK 18 (i+1,v,D8) ⟨Yl,by simp only;rw[Md hx];exact hs8⟩ Yl ⟨Ya,Ya,zy⟩ C C zp λD0 h=>by simp only[zm,n4,yk]at h;rcases h with h|h|h;exact⟨D8,Yf,h▸Le.refl _⟩;exact⟨E1,Yf,h▸Le.refl _⟩;exact⟨D,Yf,h▸Le.refl _⟩
 ·obtain rfl:i=r.places.length:=Yd
  rw[ym,m5]at ho;refine Wj ?_;exact aD C λD hD=>ho.up RL.up (hD _ Yf)
end L1
end Go.Fs
