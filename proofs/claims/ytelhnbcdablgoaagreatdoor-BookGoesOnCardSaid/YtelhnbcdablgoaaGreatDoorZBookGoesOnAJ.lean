/- Of the proof of BookGoesOn: BW9, BW10, BW11, BW12, Delete, BW13, BW14, BW15, StrMap, BW16, Acts, Line, Defer. -/
import Derived.Test.YtelhnbcdablgoaaGreatDoorZBookGoesOnAI
import Derived.Test.YtelhnbcdablgoaaGreatDoorZBookGoesOnAD
import Derived.Test.YtelhnbcdablgoaaGreatDoorZBookGoesOnAE
import Derived.Lib.Split
import Derived.Lib.AtoiTie
import Derived.Lib.AtoiAllCases
import Derived.Lib.ItoaNum
import Derived.WideShapes
import Derived.DefersIn
import Derived.RecoverIn
namespace Go.Fs
open Go.Proofs
namespace L12
open C12
theorem P0{α:Type}{f:α→List Value}{n i:Nat}(h:∀x,(f x).length=n){xs:List α}(hi:i<xs.length){x:α}{junk:List Value}:(xs.flatMap f++junk).take (0+i*n)++f x++(xs.flatMap f++junk).drop (0+i*n+(f x).length)=(xs.set i x).flatMap f++junk:=by
 rw[aMC];induction xs generalizing i with
 |nil=>simp at hi
 |cons d xs ih=>
  cases i with
  |zero=>
   have e:(d::xs).flatMap f++junk=f d++(xs.flatMap f++junk):=by simp
   have e2:((d::xs).set 0 x).flatMap f++junk=f x++(xs.flatMap f++junk):=by simp
   rw[aNF,List.take_zero,aKF,aMC,e,e2,h,←h d,List.drop_left]
  |succ i=>
   have hi':i<xs.length:=by simpa using hi
   have e:(d::xs).flatMap f++junk=f d++(xs.flatMap f++junk):=by simp
   have e2:((d::xs).set (i+1) x).flatMap f++junk=f d++((xs.set i x).flatMap f++junk):=by simp
   rw[e,e2,show(i+1)*n=(f d).length+i*n by rw[h,aLW];omega,List.take_length_add_append,show(f d).length+i*n+(f x).length=(f d).length+(i*n+(f x).length) by omega,aNI,aJL,aJL];congr 1;rw[←aJL];exact ih hi'
theorem TY(wb:Nat)(s:aI)(pv cv hv lv mv bl bc yc yq nv:Value)(a b:Int)(ν:aC)(D:aA)(hn:Sl D RI 1 nv [a,b])(ha:bL 3 1 pv s.row.places.length (s.row.places.flatMap cI) ν)(hsm:s.row.places.length≤100)(ha0:0≤a):jK Tryz.prog 169 [.pointer (some ⟨wb,0,none⟩),nv] D ((wb,.cells (bP s pv cv hv lv mv bl bc yc yq).toArray 253 (0,0))::ν) (fun _ _ ν'=>(a<(s.row.places.length:Int)∧b≤2)∧∃ν1,ν'=(wb,.cells (bP s pv cv hv lv mv bl bc yc yq).toArray 253 (0,0))::ν1∧bL 3 1 pv s.row.places.length ((s.row.places.set a.toNat b).flatMap cI) ν1) (fun v=>((s.row.places.length:Int)≤a∧v=dU 7)∨(a<(s.row.places.length:Int)∧2<b∧v=dU 2)):=by
 obtain⟨bt,ot,ct,rfl⟩:=iB hn Ye;have hbt:=kJ hn;refine dL 32 Tryz.func169 rfl rfl rfl rfl (fun h0 hwl hwn=>aM<|C.drawPA [] 7 11 1016 (fun _ _ _ _ he h=>cX (P:=Tryz.prog) (fn:=Tryz.f169) _ _ _ _ he h)<|Za rfl<|aO rfl U25 Tf.s3 rfl hn rfl Yd rfl rfl aOJ (fun cs1 hr1 hcl1 hA1=>?_));obtain rfl:cs1=[.int .i64 _]:=hr1;refine Zf 0 rfl Tf.a3 rfl hA1 rfl<|Za rfl<|Zaf rfl<|Zi rfl Tf.f253_0 rfl<|Zi rfl Tf.f42_0 rfl<|Zi rfl Tf.f28_0 rfl<|Zl rfl Tf.a25 rfl (List.Mem.head _) rfl<|dS rfl U25 rfl ha rfl rfl trivial<|Zc [(_,_)] ν [] rfl (Or.inr (fun p hp=>by cases hp)) (fun p hp=>by cases hp) (fun D5 hD5=>iH a (s.row.places.length:Int) _) (fun v5 D6 hD5 hp5=>bX (P:=Tryz.prog) (fn:=Tryz.f169) rfl (aJQ ⟨hp5.1,hp5.2⟩)) (fun v5 D6 ν5 hD5 hp5=>?_);obtain⟨hf5,rfl⟩:=hp5;refine L.n3<|Za rfl<|aO rfl U25 Tf.s3 rfl hn rfl Yd rfl rfl aOJ (fun cs2 hr2 hcl2 hA2=>?_);obtain rfl:cs2=[.int .i64 _]:=hr2;refine Zf 0 rfl Tf.a3 rfl hA2 rfl<|Zc [(_,_)] ν [] rfl (Or.inr (fun p hp=>by cases hp)) (fun p hp=>by cases hp) (fun D7 hD7=>oW b 2 _) (fun v7 D8 hD7 hp7=>bX (P:=Tryz.prog) (fn:=Tryz.f169) rfl (aJE ⟨hf5,hp7.1,hp7.2⟩)) (fun v7 D8 ν7 hD7 hp7=>?_);obtain⟨hf7,rfl⟩:=hp7;refine L.n1 ?_;obtain⟨bx,cap,junk,rfl,hcap,rfl,hl1,hl2⟩:=ha.some Yd;refine C.drawPA [] 5 14 4032 (fun _ _ _ _ he h=>cX (P:=Tryz.prog) (fn:=Tryz.f169) _ _ _ _ he h)<|Za rfl<|Zaf rfl<|Zi rfl Tf.f253_0 rfl<|Zi rfl Tf.f42_0 rfl<|Zi rfl Tf.f28_0 rfl<|Zl rfl Tf.a25 rfl (List.Mem.head _) rfl<|Za rfl<|aO rfl U25 Tf.s3 rfl hn rfl Yd rfl rfl aOJ (fun cs3 hr3 hcl3 hA3=>?_);obtain rfl:cs3=[.int .i64 _]:=hr3;refine Zf 0 rfl Tf.a3 rfl hA3 rfl<|Za rfl<|aO rfl U25 Tf.s3 rfl hn rfl Yd rfl rfl aOJ (fun cs4 hr4 hcl4 hA4=>?_);obtain rfl:cs4=[.int .i64 _]:=hr4;refine Zf 0 rfl Tf.a3 rfl hA4 rfl<|fD rfl U25 Tf.s3 rfl rfl Yd Yd rfl trivial<|aY (off:=0+(a.toNat)*1) (us:=[.int .i64 b]) (ws:=((s.row.places.set a.toNat b).flatMap cI)++junk) rfl rfl rfl rfl Tf.s3 (.tail .head) (by rw[aIX,bK (f:=cI) (n:=1) (fun _=>rfl)];simp;omega) (P0 (f:=cI) (n:=1) (xs:=s.row.places) (i:=a.toNat) (x:=b) (fun _=>rfl) Yd) Yi trivial<|Zab ?_
 exact dC (A:=[]) (ν':=[_,_]) (B:=[]) (vs:=[]) rfl rfl rfl aOJ (fun D' hD=>⟨⟨hf5,hf7⟩,_,rfl,aJE ⟨bx,cap,junk,rfl,hcap,rfl,by rw[bK (n:=1) (fun _=>rfl),aND],by rw[aIX,bK (n:=1) (fun _=>rfl),aND,←hl2,aIX,hl1]⟩⟩)
theorem PB(wb:Nat)(s:aI)(pv cv hv lv mv bl bc yc yq nv:Value)(a b:Int)(ν:aC)(D:aA)(hn:Sl D RI 1 nv [a,b])(ha:bL 3 1 lv s.table.levels.length (s.table.levels.flatMap cI) ν)(hsm:s.table.levels.length≤100)(ha0:0≤a):jK Tryz.prog 178 [.pointer (some ⟨wb,0,none⟩),nv] D ((wb,.cells (bP s pv cv hv lv mv bl bc yc yq).toArray 253 (0,0))::ν) (fun _ _ ν'=>(a<(s.table.levels.length:Int)∧b≤99)∧∃ν1,ν'=(wb,.cells (bP s pv cv hv lv mv bl bc yc yq).toArray 253 (0,0))::ν1∧bL 3 1 lv s.table.levels.length ((s.table.levels.set a.toNat b).flatMap cI) ν1) (fun v=>((s.table.levels.length:Int)≤a∧v=dU 7)∨(a<(s.table.levels.length:Int)∧99<b∧v=dU 2)):=by
 obtain⟨bt,ot,ct,rfl⟩:=iB hn Ye;have hbt:=kJ hn;refine dL 32 Tryz.func178 rfl rfl rfl rfl (fun h0 hwl hwn=>aM<|C.drawPA [] 7 11 1016 (fun _ _ _ _ he h=>cX (P:=Tryz.prog) (fn:=Tryz.f178) _ _ _ _ he h)<|Za rfl<|aO rfl U25 Tf.s3 rfl hn rfl Yd rfl rfl aOJ (fun cs1 hr1 hcl1 hA1=>?_));obtain rfl:cs1=[.int .i64 _]:=hr1;refine Zf 0 rfl Tf.a3 rfl hA1 rfl<|Za rfl<|Zaf rfl<|Zi rfl Tf.f253_0 rfl<|Zi rfl Tf.f42_1 rfl<|Zi rfl Tf.f32_3 rfl<|Zl rfl Tf.a25 rfl (List.Mem.head _) rfl<|dS rfl U25 rfl ha rfl rfl trivial<|Zc [(_,_)] ν [] rfl (Or.inr (fun p hp=>by cases hp)) (fun p hp=>by cases hp) (fun D5 hD5=>iH a (s.table.levels.length:Int) _) (fun v5 D6 hD5 hp5=>bX (P:=Tryz.prog) (fn:=Tryz.f178) rfl (aJQ ⟨hp5.1,hp5.2⟩)) (fun v5 D6 ν5 hD5 hp5=>?_);obtain⟨hf5,rfl⟩:=hp5;refine L.n3<|Za rfl<|aO rfl U25 Tf.s3 rfl hn rfl Yd rfl rfl aOJ (fun cs2 hr2 hcl2 hA2=>?_);obtain rfl:cs2=[.int .i64 _]:=hr2;refine Zf 0 rfl Tf.a3 rfl hA2 rfl<|Zc [(_,_)] ν [] rfl (Or.inr (fun p hp=>by cases hp)) (fun p hp=>by cases hp) (fun D7 hD7=>oW b 99 _) (fun v7 D8 hD7 hp7=>bX (P:=Tryz.prog) (fn:=Tryz.f178) rfl (aJE ⟨hf5,hp7.1,hp7.2⟩)) (fun v7 D8 ν7 hD7 hp7=>?_);obtain⟨hf7,rfl⟩:=hp7;refine L.n1 ?_;obtain⟨bx,cap,junk,rfl,hcap,rfl,hl1,hl2⟩:=ha.some Yd;refine C.drawPA [] 5 14 4032 (fun _ _ _ _ he h=>cX (P:=Tryz.prog) (fn:=Tryz.f178) _ _ _ _ he h)<|Za rfl<|Zaf rfl<|Zi rfl Tf.f253_0 rfl<|Zi rfl Tf.f42_1 rfl<|Zi rfl Tf.f32_3 rfl<|Zl rfl Tf.a25 rfl (List.Mem.head _) rfl<|Za rfl<|aO rfl U25 Tf.s3 rfl hn rfl Yd rfl rfl aOJ (fun cs3 hr3 hcl3 hA3=>?_);obtain rfl:cs3=[.int .i64 _]:=hr3;refine Zf 0 rfl Tf.a3 rfl hA3 rfl<|Za rfl<|aO rfl U25 Tf.s3 rfl hn rfl Yd rfl rfl aOJ (fun cs4 hr4 hcl4 hA4=>?_);obtain rfl:cs4=[.int .i64 _]:=hr4;refine Zf 0 rfl Tf.a3 rfl hA4 rfl<|fD rfl U25 Tf.s3 rfl rfl Yd Yd rfl trivial<|aY (off:=0+(a.toNat)*1) (us:=[.int .i64 b]) (ws:=((s.table.levels.set a.toNat b).flatMap cI)++junk) rfl rfl rfl rfl Tf.s3 (.tail .head) (by rw[aIX,bK (f:=cI) (n:=1) (fun _=>rfl)];simp;omega) (P0 (f:=cI) (n:=1) (xs:=s.table.levels) (i:=a.toNat) (x:=b) (fun _=>rfl) Yd) Yi trivial<|Zab ?_
 exact dC (A:=[]) (ν':=[_,_]) (B:=[]) (vs:=[]) rfl rfl rfl aOJ (fun D' hD=>⟨⟨hf5,hf7⟩,_,rfl,aJE ⟨bx,cap,junk,rfl,hcap,rfl,by rw[bK (n:=1) (fun _=>rfl),aND],by rw[aIX,bK (n:=1) (fun _=>rfl),aND,←hl2,aIX,hl1]⟩⟩)
theorem UI(wb:Nat)(s:aI)(pv cv hv lv mv bl bc yc yq nv:Value)(a b c:Int)(ν:aC)(D:aA)(hn:Sl D RI 1 nv [a,b,c])(ha:bL 99 2 hv s.table.heights.length (s.table.heights.flatMap cP) ν)(hsm:s.table.heights.length≤100)(ha0:0≤a)(hb9:0≤b∧b≤1000):jK Tryz.prog 175 [.pointer (some ⟨wb,0,none⟩),nv] D ((wb,.cells (bP s pv cv hv lv mv bl bc yc yq).toArray 253 (0,0))::ν) (fun _ _ ν'=>(a<(s.table.heights.length:Int)∧b≤c∧c≤99∧c≤b+2)∧∃ν1,ν'=(wb,.cells (bP s pv cv hv lv mv bl bc yc yq).toArray 253 (0,0))::ν1∧bL 99 2 hv s.table.heights.length ((s.table.heights.set a.toNat (b,c)).flatMap cP) ν1) (fun v=>((s.table.heights.length:Int)≤a∧v=dU 7)∨(a<(s.table.heights.length:Int)∧(c<b∨99<c∨b+2<c)∧v=dU 2)):=by
 obtain⟨bt,ot,ct,rfl⟩:=iB hn Ye;have hbt:=kJ hn;refine dL 53 Tryz.func175 rfl rfl rfl rfl (fun h0 hwl hwn=>aM<|C.drawPA [] 7 11 1016 (fun _ _ _ _ he h=>cX (P:=Tryz.prog) (fn:=Tryz.f175) _ _ _ _ he h)<|Za rfl<|aO rfl U25 Tf.s3 rfl hn rfl Yd rfl rfl aOJ (fun cs1 hr1 hcl1 hA1=>?_));obtain rfl:cs1=[.int .i64 _]:=hr1;refine Zf 0 rfl Tf.a3 rfl hA1 rfl<|Za rfl<|Zaf rfl<|Zi rfl Tf.f253_0 rfl<|Zi rfl Tf.f42_1 rfl<|Zi rfl Tf.f32_1 rfl<|Zl rfl Tf.a29 rfl (List.Mem.head _) rfl<|dS rfl U29 rfl ha rfl rfl trivial<|Zc [(_,_)] ν [] rfl (Or.inr (fun p hp=>by cases hp)) (fun p hp=>by cases hp) (fun D5 hD5=>iH a (s.table.heights.length:Int) _) (fun v5 D6 hD5 hp5=>bX (P:=Tryz.prog) (fn:=Tryz.f175) rfl (aJQ ⟨hp5.1,hp5.2⟩)) (fun v5 D6 ν5 hD5 hp5=>?_);obtain⟨hf5,rfl⟩:=hp5;refine L.n2<|C.drawPA [] 6 21 524216 (fun _ _ _ _ he h=>cX (P:=Tryz.prog) (fn:=Tryz.f175) _ _ _ _ he h)<|Za rfl<|aO rfl U25 Tf.s3 rfl hn rfl Yd rfl rfl aOJ (fun cs2 hr2 hcl2 hA2=>?_);obtain rfl:cs2=[.int .i64 _]:=hr2;refine Zf 0 rfl Tf.a3 rfl hA2 rfl<|Za rfl<|aO rfl U25 Tf.s3 rfl hn rfl Yd rfl rfl aOJ (fun cs3 hr3 hcl3 hA3=>?_);obtain rfl:cs3=[.int .i64 _]:=hr3;refine Zf 0 rfl Tf.a3 rfl hA3 rfl<|eB rfl rfl rfl rfl trivial<|Za rfl<|aO rfl U25 Tf.s3 rfl hn rfl Yd rfl rfl aOJ (fun cs4 hr4 hcl4 hA4=>?_);obtain rfl:cs4=[.int .i64 _]:=hr4;refine Zf 0 rfl Tf.a3 rfl hA4 rfl<|eB rfl rfl rfl rfl trivial<|Za rfl<|aO rfl U25 Tf.s3 rfl hn rfl Yd rfl rfl aOJ (fun cs5 hr5 hcl5 hA5=>?_);obtain rfl:cs5=[.int .i64 _]:=hr5;refine Zf 0 rfl Tf.a3 rfl hA5 rfl<|Za rfl<|aO rfl U25 Tf.s3 rfl hn rfl Yd rfl rfl aOJ (fun cs6 hr6 hcl6 hA6=>?_);obtain rfl:cs6=[.int .i64 _]:=hr6;refine Zf 0 rfl Tf.a3 rfl hA6 rfl<|Zy rfl<|eB rfl rfl rfl rfl trivial<|Zp rfl U327 Tf.s4 Tf.z4 rfl rfl rfl rfl (.cons rfl rfl (.cons rfl rfl (.cons rfl rfl .nil))) (fun b901 D901 hD901 hA901=>Zc [(_,_)] ν [] rfl (aJE (fun p hp=>by cases hp)) (fun p hp=>by cases hp) (fun D7 hD7=>dY 2 [decide (c<b),decide (99<c),decide (b+2<c)] _ _ ((fI (l:=[decide (c<b),decide (99<c),decide (b+2<c)]) (fun _ _ _ h=>h) hA901 Ye).up RB.up (hD7 _ Ye))) (fun v7 D8 hD7 hp7=>bX (P:=Tryz.prog) (fn:=Tryz.f175) rfl (aJE ⟨hf5,by simpa using hp7.1,hp7.2⟩)) (fun v7 D8 ν7 hD7 hp7=>?_));obtain⟨hf70,rfl⟩:=hp7;have hf7:b≤c∧c≤99∧c≤b+2:=by simpa using hf70
 refine L.n1 ?_;obtain⟨bx,cap,junk,rfl,hcap,rfl,hl1,hl2⟩:=ha.some Yd;refine C.drawPA [] 5 18 65472 (fun _ _ _ _ he h=>cX (P:=Tryz.prog) (fn:=Tryz.f175) _ _ _ _ he h)<|Za rfl<|Zaf rfl<|Zi rfl Tf.f253_0 rfl<|Zi rfl Tf.f42_1 rfl<|Zi rfl Tf.f32_1 rfl<|Zl rfl Tf.a29 rfl (List.Mem.head _) rfl<|Za rfl<|aO rfl U25 Tf.s3 rfl hn rfl Yd rfl rfl aOJ (fun cs7 hr7 hcl7 hA7=>?_);obtain rfl:cs7=[.int .i64 _]:=hr7;refine Zf 0 rfl Tf.a3 rfl hA7 rfl<|Za rfl<|aO rfl U25 Tf.s3 rfl hn rfl Yd rfl rfl aOJ (fun cs8 hr8 hcl8 hA8=>?_);obtain rfl:cs8=[.int .i64 _]:=hr8;refine Zf 0 rfl Tf.a3 rfl hA8 rfl<|Za rfl<|aO rfl U25 Tf.s3 rfl hn rfl Yd rfl rfl aOJ (fun cs9 hr9 hcl9 hA9=>?_);obtain rfl:cs9=[.int .i64 _]:=hr9;refine Zf 0 rfl Tf.a3 rfl hA9 rfl<|Zq [.int .i64 b,.int .i64 c] rfl Tf.p99 Tf.z99 rfl rfl<|fD rfl U29 Tf.s99 rfl rfl Yd Yd rfl trivial<|aY (off:=0+(a.toNat)*2) (us:=[.int .i64 b,.int .i64 c]) (ws:=((s.table.heights.set a.toNat (b,c)).flatMap cP)++junk) rfl rfl rfl rfl Tf.s99 (.tail .head) (by rw[aIX,bK (f:=cP) (n:=2) (fun _=>rfl)];simp;omega) (P0 (f:=cP) (n:=2) (xs:=s.table.heights) (i:=a.toNat) (x:=(b,c)) (fun _=>rfl) Yd) Yi trivial<|Zab ?_
 exact dC (A:=[]) (ν':=[_,_]) (B:=[]) (vs:=[]) rfl rfl rfl aOJ (fun D' hD=>⟨⟨hf5,hf7⟩,_,rfl,aJE ⟨bx,cap,junk,rfl,hcap,rfl,by rw[bK (n:=2) (fun _=>rfl),aND],by rw[aIX,bK (n:=2) (fun _=>rfl),aND,←hl2,aIX,hl1]⟩⟩)
end L12
end Go.Fs
namespace Go.Fs
open Go.Proofs
namespace L12
open C12
theorem sX{wb t e sz n:Nat}{cs cells:List Value}{v:Value}{ν:aC}(ha:bL e sz v n cells ν):∀p∈(wb,Obj.cells cs.toArray t (0,0))::ν,cN p.2:=by
 intro p hp;rcases aIW.1 hp with rfl|hp
 ·rfl
 ·rcases ha with⟨_,_,_,_,rfl⟩|⟨b,cap,junk,_,_,rfl,_⟩
  ·cases hp
  ·simp only[aJR]at hp;subst hp;rfl
theorem NK(wb:Nat)(s:aI)(pv cv hv lv mv bl bc yc yq nv:Value)(a b:Int)(ν:aC)(D:aA)(hn:Sl D RI 1 nv [a,b])(ha:bL 156 3 cv s.row.counts.length (s.row.counts.flatMap cC) ν)(hsm:s.row.counts.length≤100)(hpl:∃x c,pv=.slice x s.row.places.length c):jK Tryz.prog 170 [.pointer (some ⟨wb,0,none⟩),nv] D ((wb,.cells (bP s pv cv hv lv mv bl bc yc yq).toArray 253 (0,0))::ν) (fun _ _ ν'=>((a≤(s.row.places.length:Int)∧b≤9)∧(s.row.counts.length:Int)<6)∧∃v1 ν1,ν'=(wb,.cells (bP s pv v1 hv lv mv bl bc yc yq).toArray 253 (0,0))::ν1∧bL 156 3 v1 (s.row.counts.length+1) ((s.row.counts++[(⟨false,a,b⟩:C1.sC)]).flatMap cC) ν1) (fun v=>(((s.row.places.length:Int)<a∨9<b)∧v=dU 2)∨((a≤(s.row.places.length:Int)∧b≤9)∧6≤(s.row.counts.length:Int)∧v=dU 3)):=by
 refine dL 7 Tryz.func170 rfl rfl rfl rfl (fun h0 hwl hwn=>C.rg<|Za rfl<|Za rfl<|aF ((wb,.cells (bP s pv cv hv lv mv bl bc yc yq).toArray 253 (0,0))::ν++[]) (aJF _).symm<|Zc [] [] ((wb,.cells (bP s pv cv hv lv mv bl bc yc yq).toArray 253 (0,0))::ν) rfl (Or.inl rfl) (sX ha) (fun D5 hD5=>zT wb s pv cv hv lv mv bl bc yc yq nv a b ν _ (hn.up RI.up (hD5 _ Ye)) ha hsm false hpl) (fun v5 D6 hD5 hp5=>bX (P:=Tryz.prog) (fn:=Tryz.f170) rfl hp5) (fun v5 D6 ν5 hD5 hp5=>aF ν5 (aJF _)<|Zab ?_));refine fun a w hh=>dC (P:=Tryz.prog) (fn:=Tryz.f170) (A:=[]) (ν':=ν5) (B:=[]) (vs:=[]) rfl rfl rfl aOJ (fun D' hD=>hp5) a w (hh.boxesEq (aJF _).symm)
theorem UV(wb:Nat)(s:aI)(pv cv hv lv mv bl bc yc yq nv:Value)(a b:Int)(ν:aC)(D:aA)(hn:Sl D RI 1 nv [a,b])(ha:bL 156 3 cv s.row.counts.length (s.row.counts.flatMap cC) ν)(hsm:s.row.counts.length≤100)(hpl:∃x c,pv=.slice x s.row.places.length c):jK Tryz.prog 171 [.pointer (some ⟨wb,0,none⟩),nv] D ((wb,.cells (bP s pv cv hv lv mv bl bc yc yq).toArray 253 (0,0))::ν) (fun _ _ ν'=>((a≤(s.row.places.length:Int)∧b≤9)∧(s.row.counts.length:Int)<6)∧∃v1 ν1,ν'=(wb,.cells (bP s pv v1 hv lv mv bl bc yc yq).toArray 253 (0,0))::ν1∧bL 156 3 v1 (s.row.counts.length+1) ((s.row.counts++[(⟨true,a,b⟩:C1.sC)]).flatMap cC) ν1) (fun v=>(((s.row.places.length:Int)<a∨9<b)∧v=dU 2)∨((a≤(s.row.places.length:Int)∧b≤9)∧6≤(s.row.counts.length:Int)∧v=dU 3)):=by
 refine dL 7 Tryz.func171 rfl rfl rfl rfl (fun h0 hwl hwn=>C.rg<|Za rfl<|Za rfl<|aF ((wb,.cells (bP s pv cv hv lv mv bl bc yc yq).toArray 253 (0,0))::ν++[]) (aJF _).symm<|Zc [] [] ((wb,.cells (bP s pv cv hv lv mv bl bc yc yq).toArray 253 (0,0))::ν) rfl (Or.inl rfl) (sX ha) (fun D5 hD5=>zT wb s pv cv hv lv mv bl bc yc yq nv a b ν _ (hn.up RI.up (hD5 _ Ye)) ha hsm true hpl) (fun v5 D6 hD5 hp5=>bX (P:=Tryz.prog) (fn:=Tryz.f171) rfl hp5) (fun v5 D6 ν5 hD5 hp5=>aF ν5 (aJF _)<|Zab ?_));refine fun a w hh=>dC (P:=Tryz.prog) (fn:=Tryz.f171) (A:=[]) (ν':=ν5) (B:=[]) (vs:=[]) rfl rfl rfl aOJ (fun D' hD=>hp5) a w (hh.boxesEq (aJF _).symm)
theorem VS(wb:Nat)(s:aI)(pv cv hv lv mv bl bc yc yq nv:Value)(a b:Int)(ν:aC)(D:aA)(hn:Sl D RI 1 nv [a,b])(ha:bL 160 3 bl s.book.lines.length (s.book.lines.flatMap cL) ν)(hsm:s.book.lines.length≤100):jK Tryz.prog 181 [.pointer (some ⟨wb,0,none⟩),nv] D ((wb,.cells (bP s pv cv hv lv mv bl bc yc yq).toArray 253 (0,0))::ν) (fun _ _ ν'=>(max a b<s.book.chairs∧(s.book.lines.length:Int)<8)∧∃v1 ν1,ν'=(wb,.cells (bP s pv cv hv lv mv v1 bc yc yq).toArray 253 (0,0))::ν1∧bL 160 3 v1 (s.book.lines.length+1) ((s.book.lines++[(⟨1,a,b⟩:C3.fH)]).flatMap cL) ν1) (fun v=>(s.book.chairs≤max a b∧v=dU 7)∨(max a b<s.book.chairs∧8≤(s.book.lines.length:Int)∧v=dU 3)):=by
 refine dL 7 Tryz.func181 rfl rfl rfl rfl (fun h0 hwl hwn=>C.rg<|Za rfl<|Za rfl<|aF ((wb,.cells (bP s pv cv hv lv mv bl bc yc yq).toArray 253 (0,0))::ν++[]) (aJF _).symm<|Zc [] [] ((wb,.cells (bP s pv cv hv lv mv bl bc yc yq).toArray 253 (0,0))::ν) rfl (Or.inl rfl) (sX ha) (fun D5 hD5=>B0 wb s pv cv hv lv mv bl bc yc yq nv a b ν _ (hn.up RI.up (hD5 _ Ye)) ha hsm 1) (fun v5 D6 hD5 hp5=>bX (P:=Tryz.prog) (fn:=Tryz.f181) rfl hp5) (fun v5 D6 ν5 hD5 hp5=>aF ν5 (aJF _)<|Zab ?_));refine fun a w hh=>dC (P:=Tryz.prog) (fn:=Tryz.f181) (A:=[]) (ν':=ν5) (B:=[]) (vs:=[]) rfl rfl rfl aOJ (fun D' hD=>hp5) a w (hh.boxesEq (aJF _).symm)
theorem PX(wb:Nat)(s:aI)(pv cv hv lv mv bl bc yc yq nv:Value)(a b:Int)(ν:aC)(D:aA)(hn:Sl D RI 1 nv [a,b])(ha:bL 160 3 bl s.book.lines.length (s.book.lines.flatMap cL) ν)(hsm:s.book.lines.length≤100):jK Tryz.prog 182 [.pointer (some ⟨wb,0,none⟩),nv] D ((wb,.cells (bP s pv cv hv lv mv bl bc yc yq).toArray 253 (0,0))::ν) (fun _ _ ν'=>(max a b<s.book.chairs∧(s.book.lines.length:Int)<8)∧∃v1 ν1,ν'=(wb,.cells (bP s pv cv hv lv mv v1 bc yc yq).toArray 253 (0,0))::ν1∧bL 160 3 v1 (s.book.lines.length+1) ((s.book.lines++[(⟨2,a,b⟩:C3.fH)]).flatMap cL) ν1) (fun v=>(s.book.chairs≤max a b∧v=dU 7)∨(max a b<s.book.chairs∧8≤(s.book.lines.length:Int)∧v=dU 3)):=by
 refine dL 7 Tryz.func182 rfl rfl rfl rfl (fun h0 hwl hwn=>C.rg<|Za rfl<|Za rfl<|aF ((wb,.cells (bP s pv cv hv lv mv bl bc yc yq).toArray 253 (0,0))::ν++[]) (aJF _).symm<|Zc [] [] ((wb,.cells (bP s pv cv hv lv mv bl bc yc yq).toArray 253 (0,0))::ν) rfl (Or.inl rfl) (sX ha) (fun D5 hD5=>B0 wb s pv cv hv lv mv bl bc yc yq nv a b ν _ (hn.up RI.up (hD5 _ Ye)) ha hsm 2) (fun v5 D6 hD5 hp5=>bX (P:=Tryz.prog) (fn:=Tryz.f182) rfl hp5) (fun v5 D6 ν5 hD5 hp5=>aF ν5 (aJF _)<|Zab ?_));refine fun a w hh=>dC (P:=Tryz.prog) (fn:=Tryz.f182) (A:=[]) (ν':=ν5) (B:=[]) (vs:=[]) rfl rfl rfl aOJ (fun D' hD=>hp5) a w (hh.boxesEq (aJF _).symm)
end L12
end Go.Fs
namespace Go.Fs
open Go.Proofs
namespace L12
open C12
theorem MY{α:Type}{f:α→List Value}{n i k:Nat}(h:∀x,(f x).length=n){xs:List α}{x:α}{v:Value}{junk:List Value}(hx:xs[i]?= some x)(hk:k<n)(hv:(f x)[k]?= some v):(xs.flatMap f++junk)[0+i*n+k]?= some v:=by
 have h1:=W4 h hx junk;have h2:(((xs.flatMap f++junk).drop (i*n)).take n)[k]?= some v:=by rw[h1];exact hv
 rw[aMD hk,aLM]at h2;rw[aMC];exact h2
theorem AN{α:Type}{f:α→List Value}{n i k off:Nat}(h:∀x,(f x).length=n){xs:List α}{x x2:α}{v:Value}{junk:List Value}(hx:xs[i]?= some x)(hk:k<n)(h2:f x2=(f x).take k++[v]++(f x).drop (k+1))(ho:off=i*n+k):(xs.flatMap f++junk).take off++[v]++(xs.flatMap f++junk).drop (off+ [v].length)=(xs.set i x2).flatMap f++junk:=by
 subst ho;induction xs generalizing i with
 |nil=>simp at hx
 |cons d xs ih=>
  have e:(d::xs).flatMap f++junk=f d++(xs.flatMap f++junk):=by simp
  cases i with
  |zero=>
   obtain rfl:d=x:=by simpa using hx
   have e2:((d::xs).set 0 x2).flatMap f++junk=f x2++(xs.flatMap f++junk):=by simp
   rw[aNF,aMC,e,e2,h2,aKM (by rw[h];omega),aMM,List.drop_append_of_le_length (by rw[h];omega)];simp
  |succ i=>
   have e2:((d::xs).set (i+1) x2).flatMap f++junk=f d++((xs.set i x2).flatMap f++junk):=by simp
   rw[e,e2,show(i+1)*n+k=(f d).length+(i*n+k) by rw[h,aLW];omega,List.take_length_add_append,show(f d).length+(i*n+k)+ [v].length=(f d).length+(i*n+k+ [v].length) by omega,aNI,aJL,aJL];congr 1;rw[←aJL];exact ih (by simpa using hx)
def IF(p:C7.Pt)(i:Nat)(v:Int):C7.Pt:=if i=0 then {p with a:=v}else if i=1 then {p with b:=v}else {p with c:=v}
theorem aGA{x:C7.Ch}{i:Nat}{v:Int}(h:i<3):cH {x with parts:=IF x.parts i v}=(cH x).take (1+i)++[.int .i64 v]++(cH x).drop (1+i+1):=by
 have:i=0∨i=1∨i=2:=by omega
 rcases this with rfl|rfl|rfl<;>rfl
theorem EE(wb:Nat)(s:aI)(pv cv hv lv mv bl bc yc yq nv:Value)(a:Int)(ν:aC)(D:aA)(hn:Sl D RI 1 nv [a])(ha:bL 160 3 bl s.book.lines.length (s.book.lines.flatMap cL) ν)(hsm:s.book.lines.length≤100)(ha0:0≤a):jK Tryz.prog 183 [.pointer (some ⟨wb,0,none⟩),nv] D ((wb,.cells (bP s pv cv hv lv mv bl bc yc yq).toArray 253 (0,0))::ν) (fun _ _ ν'=>∃x,s.book.lines[a.toNat]?= some x∧(x.token≠ -1)∧∃ν1,ν'=(wb,.cells (bP s pv cv hv lv mv bl bc yc yq).toArray 253 (0,0))::ν1∧bL 160 3 bl s.book.lines.length ((s.book.lines.set a.toNat {x with token:= -1}).flatMap cL) ν1) (fun v=>((s.book.lines.length:Int)≤a∧v=dU 7)∨(∃x,s.book.lines[a.toNat]?= some x∧x.token= -1∧v=dU 6)):=by
 obtain⟨bt,ot,ct,rfl⟩:=iB hn Ye;have hbt:=kJ hn;refine dL 36 Tryz.func183 rfl rfl rfl rfl (fun h0 hwl hwn=>aM<|C.drawPA [] 7 11 1016 (fun _ _ _ _ he h=>cX (P:=Tryz.prog) (fn:=Tryz.f183) _ _ _ _ he h)<|Za rfl<|aO rfl U25 Tf.s3 rfl hn rfl Yd rfl rfl aOJ (fun cs1 hr1 hcl1 hA1=>?_));obtain rfl:cs1=[.int .i64 _]:=hr1;refine Zf 0 rfl Tf.a3 rfl hA1 rfl<|Za rfl<|Zaf rfl<|Zi rfl Tf.f253_0 rfl<|Zi rfl Tf.f42_2 rfl<|Zi rfl Tf.f36_3 rfl<|Zl rfl Tf.a33 rfl (List.Mem.head _) rfl<|dS rfl U33 rfl ha rfl rfl trivial<|Zc [(_,_)] ν [] rfl (Or.inr (fun p hp=>by cases hp)) (fun p hp=>by cases hp) (fun D5 hD5=>iH a (s.book.lines.length:Int) _) (fun v5 D6 hD5 hp5=>bX (P:=Tryz.prog) (fn:=Tryz.f183) rfl (aJQ ⟨hp5.1,hp5.2⟩)) (fun v5 D6 ν5 hD5 hp5=>?_);obtain⟨hf5,rfl⟩:=hp5;refine L.n2 ?_;obtain⟨bx,cap,junk,rfl,hcap,rfl,hl1,hl2⟩:=ha.some Yd;obtain⟨x,hx⟩:=C.ge s.book.lines (a.toNat);refine C.drawPA [] 6 11 448 (fun _ _ _ _ he h=>cX (P:=Tryz.prog) (fn:=Tryz.f183) _ _ _ _ he h)<|Za rfl<|Zaf rfl<|Zi rfl Tf.f253_0 rfl<|Zi rfl Tf.f42_2 rfl<|Zi rfl Tf.f36_3 rfl<|Zl rfl Tf.a33 rfl (List.Mem.head _) rfl<|Za rfl<|aO rfl U25 Tf.s3 rfl hn rfl Yd rfl rfl aOJ (fun cs2 hr2 hcl2 hA2=>?_);obtain rfl:cs2=[.int .i64 _]:=hr2;refine Zf 0 rfl Tf.a3 rfl hA2 rfl<|fD rfl U33 Tf.s160 rfl rfl Yd Yd rfl trivial<|Zh rfl<|L.n3<|Za rfl<|Zaf rfl<|Zi rfl Tf.f160_2 rfl<|aS (v:=.int .i64 x.token) rfl Tf.a3 rfl (LT _ (GE _)) (by simpa using MY (f:=cL) (n:=3) (k:=2) (fun _=>rfl) hx Yd rfl) GT rfl trivial<|dJ rfl rfl rfl rfl trivial<|Zp rfl U327 Tf.s4 Tf.z4 rfl rfl rfl rfl (.cons rfl rfl .nil) (fun b901 D901 hD901 hA901=>Zc [(_,_),(_,_)] [] [] rfl (aJE (fun p hp=>by cases hp)) (fun p hp=>by cases hp) (fun D7 hD7=>dY 6 [decide (x.token= -1)] _ _ ((fI (l:=[decide (x.token= -1)]) (fun _ _ _ h=>h) hA901 Ye).up RB.up (hD7 _ Ye))) (fun v7 D8 hD7 hp7=>bX (P:=Tryz.prog) (fn:=Tryz.f183) rfl (aJE ⟨x,hx,by simpa using hp7.1,hp7.2⟩)) (fun v7 D8 ν7 hD7 hp7=>?_));obtain⟨hf70,rfl⟩:=hp7;have hf7:x.token≠ -1:=by simpa using hf70
 refine L.n1<|C.rg<|Za rfl<|Zaf rfl<|Zi rfl Tf.f160_2 rfl<|aY (off:=0+a.toNat*3+2) (us:=[.int .i64 (-1)]) (ws:=((s.book.lines.set a.toNat {x with token:= -1}).flatMap cL)++junk) rfl rfl rfl rfl Tf.s3 (.tail .head) (by rw[aIX,bK (f:=cL) (n:=3) (fun _=>rfl)];simp;omega) (AN (f:=cL) (n:=3) (xs:=s.book.lines) (i:=a.toNat) (k:=2) (x:=x) (x2:={x with token:= -1}) (fun _=>rfl) hx Yd rfl Yd) Yi trivial<|Zab ?_;exact dC (A:=[]) (ν':=[_,_]) (B:=[]) (vs:=[]) rfl rfl rfl aOJ (fun D' hD=>⟨x,hx,hf7,_,rfl,aJE ⟨bx,cap,junk,rfl,hcap,rfl,by rw[bK (n:=3) (fun _=>rfl),aND],by rw[aIX,bK (n:=3) (fun _=>rfl),aND,←hl2,aIX,hl1]⟩⟩)
theorem YA(wb:Nat)(s:aI)(pv cv hv lv mv bl bc yc yq nv:Value)(a b c:Int)(ν:aC)(D:aA)(hn:Sl D RI 1 nv [a,b,c])(ha:bL 103 4 yc s.yard.chairs.length (s.yard.chairs.flatMap cH) ν)(hsm:s.yard.chairs.length≤100)(ha0:0≤a)(hb0:0≤b):jK Tryz.prog 186 [.pointer (some ⟨wb,0,none⟩),nv] D ((wb,.cells (bP s pv cv hv lv mv bl bc yc yq).toArray 253 (0,0))::ν) (fun _ _ ν'=>∃x,s.yard.chairs[a.toNat]?= some x∧(b<3∧c≤2)∧∃ν1,ν'=(wb,.cells (bP s pv cv hv lv mv bl bc yc yq).toArray 253 (0,0))::ν1∧bL 103 4 yc s.yard.chairs.length ((s.yard.chairs.set a.toNat {x with parts:=IF x.parts b.toNat c}).flatMap cH) ν1) (fun v=>((s.yard.chairs.length:Int)≤a∧v=dU 7)∨(a<(s.yard.chairs.length:Int)∧3≤b∧v=dU 7)∨(a<(s.yard.chairs.length:Int)∧b<3∧2<c∧v=dU 2)):=by
 obtain⟨bt,ot,ct,rfl⟩:=iB hn Ye;have hbt:=kJ hn;refine dL 41 Tryz.func186 rfl rfl rfl rfl (fun h0 hwl hwn=>aM<|C.drawPA [] 7 11 1016 (fun _ _ _ _ he h=>cX (P:=Tryz.prog) (fn:=Tryz.f186) _ _ _ _ he h)<|Za rfl<|aO rfl U25 Tf.s3 rfl hn rfl Yd rfl rfl aOJ (fun cs1 hr1 hcl1 hA1=>?_));obtain rfl:cs1=[.int .i64 _]:=hr1;refine Zf 0 rfl Tf.a3 rfl hA1 rfl<|Za rfl<|Zaf rfl<|Zi rfl Tf.f253_0 rfl<|Zi rfl Tf.f42_3 rfl<|Zi rfl Tf.f40_0 rfl<|Zl rfl Tf.a37 rfl (List.Mem.head _) rfl<|dS rfl U37 rfl ha rfl rfl trivial<|Zc [(_,_)] ν [] rfl (Or.inr (fun p hp=>by cases hp)) (fun p hp=>by cases hp) (fun D5 hD5=>iH a (s.yard.chairs.length:Int) _) (fun v5 D6 hD5 hp5=>bX (P:=Tryz.prog) (fn:=Tryz.f186) rfl (aJQ ⟨hp5.1,hp5.2⟩)) (fun v5 D6 ν5 hD5 hp5=>?_);obtain⟨hf5,rfl⟩:=hp5;refine L.n3<|Za rfl<|aO rfl U25 Tf.s3 rfl hn rfl Yd rfl rfl aOJ (fun cs2 hr2 hcl2 hA2=>?_);obtain rfl:cs2=[.int .i64 _]:=hr2;refine Zf 0 rfl Tf.a3 rfl hA2 rfl<|Zc [(_,_)] ν [] rfl (Or.inr (fun p hp=>by cases hp)) (fun p hp=>by cases hp) (fun D7 hD7=>iH b 3 _) (fun v7 D8 hD7 hp7=>bX (P:=Tryz.prog) (fn:=Tryz.f186) rfl (aJE (aJQ ⟨hf5,hp7.1,hp7.2⟩))) (fun v7 D8 ν7 hD7 hp7=>?_);obtain⟨hf7,rfl⟩:=hp7;refine L.n3<|Za rfl<|aO rfl U25 Tf.s3 rfl hn rfl Yd rfl rfl aOJ (fun cs3 hr3 hcl3 hA3=>?_);obtain rfl:cs3=[.int .i64 _]:=hr3;refine Zf 0 rfl Tf.a3 rfl hA3 rfl<|Zc [(_,_)] ν [] rfl (Or.inr (fun p hp=>by cases hp)) (fun p hp=>by cases hp) (fun D9 hD9=>oW c 2 _) (fun v9 D10 hD9 hp9=>bX (P:=Tryz.prog) (fn:=Tryz.f186) rfl (aJE (aJE ⟨hf5,hf7,hp9.1,hp9.2⟩))) (fun v9 D10 ν9 hD9 hp9=>?_);obtain⟨hf9,rfl⟩:=hp9;refine L.n1 ?_;obtain⟨bx,cap,junk,rfl,hcap,rfl,hl1,hl2⟩:=ha.some Yd;obtain⟨x,hx⟩:=C.ge s.yard.chairs (a.toNat);refine C.drawPA [] 5 19 131008 (fun _ _ _ _ he h=>cX (P:=Tryz.prog) (fn:=Tryz.f186) _ _ _ _ he h)<|Za rfl<|Zaf rfl<|Zi rfl Tf.f253_0 rfl<|Zi rfl Tf.f42_3 rfl<|Zi rfl Tf.f40_0 rfl<|Zl rfl Tf.a37 rfl (List.Mem.head _) rfl<|Za rfl<|aO rfl U25 Tf.s3 rfl hn rfl Yd rfl rfl aOJ (fun cs4 hr4 hcl4 hA4=>?_);obtain rfl:cs4=[.int .i64 _]:=hr4;refine Zf 0 rfl Tf.a3 rfl hA4 rfl<|Za rfl<|aO rfl U25 Tf.s3 rfl hn rfl Yd rfl rfl aOJ (fun cs5 hr5 hcl5 hA5=>?_);obtain rfl:cs5=[.int .i64 _]:=hr5;refine Zf 0 rfl Tf.a3 rfl hA5 rfl<|Za rfl<|aO rfl U25 Tf.s3 rfl hn rfl Yd rfl rfl aOJ (fun cs6 hr6 hcl6 hA6=>?_);obtain rfl:cs6=[.int .i64 _]:=hr6;refine Zf 0 rfl Tf.a3 rfl hA6 rfl<|fD rfl U37 Tf.s103 rfl rfl Yd Yd rfl trivial<|Zi rfl Tf.f103_1 rfl<|dT rfl U101 Tf.s3 rfl rfl Yd Yd rfl trivial<|aY (off:=0+a.toNat*4+1+b.toNat*1) (us:=[.int .i64 c]) (ws:=((s.yard.chairs.set a.toNat {x with parts:=IF x.parts b.toNat c}).flatMap cH)++junk) rfl rfl rfl rfl Tf.s3 (.tail .head) (by rw[aIX,bK (f:=cH) (n:=4) (fun _=>rfl)];simp;omega) (AN (f:=cH) (n:=4) (xs:=s.yard.chairs) (i:=a.toNat) (k:=(1+b.toNat)) (x:=x) (x2:={x with parts:=IF x.parts b.toNat c}) (fun _=>rfl) hx Yd (aGA Yd) Yd) Yi trivial<|Zab ?_
 exact dC (A:=[]) (ν':=[_,_]) (B:=[]) (vs:=[]) rfl rfl rfl aOJ (fun D' hD=>⟨x,hx,⟨hf7,hf9⟩,_,rfl,aJE ⟨bx,cap,junk,rfl,hcap,rfl,by rw[bK (n:=4) (fun _=>rfl),aND],by rw[aIX,bK (n:=4) (fun _=>rfl),aND,←hl2,aIX,hl1]⟩⟩)
end L12
end Go.Fs
namespace Go.Fs
open Go.Proofs
namespace L12
open C12
def cK(xs:List ByteArray):Int:=if(decide ((40:Int)<(xs.length:Int))|| !xs.all fun l=>decide ((l.size:Int)≤50))=true then 3 else 0
theorem aBH(m:Int)(l:ByteArray)(D:aA):Fn Tryz.prog 61 #[.int .i64 m,.string l] D (fun _ v=>v=.bool (decide ((l.size:Int)≤m))):=by
 refine enter 9 Tryz.func61 rfl rfl rfl rfl fun h0=>C.s1<|Zh rfl<|L.n3<|Za rfl<|gF rfl U9 rfl rfl rfl trivial<|Za rfl<|iJ rfl rfl rfl rfl trivial<|Zh rfl<|L.n5 ?_
 exact leave1 rfl rfl rfl rfl (fun D hD=>rfl)
theorem U7(sv fv:Value)(xs:List ByteArray)(p:ByteArray→Bool)(D:aA)(hS:Sl D RS 1 sv xs)(hp:cF Tryz.prog D Value.string fv p):
  Fn Tryz.prog 200 #[sv,fv] D (fun _ v=>v=.int .i64 (idxOf p xs)):=by
 have hl:=hS.len;obtain⟨f,c1,c2,rfl,hf⟩:=hp;refine enter 19 Tryz.func200 rfl rfl rfl rfl fun h0=>C.s1<|Zh rfl<|L.n4<|Za rfl<|aR rfl U22 rfl Yk rfl rfl trivial<|Za rfl<|L.n1<|Zaj<|cJ (γ:=Nat) (fun k=>xs.length-k) (fun k=>k≤xs.length∧(xs.take k).any p=false) (fun k=>[(8,.int .i64 k)]) [(7,_),(4,_),(0,_),(1,_)] (fun k=>[D]) 0 Ye ⟨Yb,aOJ⟩ C.rs (aD) ?_
 rintro k ⟨h1,h2⟩;refine C.s1<|Zae rfl<|L.n2<|aE rfl (fun hc1=>?_) (fun hc1=>?_)
 ·have hk:k<xs.length:=by omega
  obtain⟨x,hx⟩:=C.ge xs k;refine C.kn<|aM<|Zaj<|C.s1<|Za rfl<|Zh rfl<|L.n3<|Za rfl<|Za rfl<|Za rfl<|cU rfl U22 Tf.s9 rfl Yk rfl Yd Yk rfl aOJ (fun b1 o1 cs1 hr1 hcl1 hA1=>?_);obtain rfl:cs1=[.string _]:=hr1;refine Zf 0 rfl Tf.a9 rfl hA1 rfl<|Zd rfl (fun D1 hD1=>hf x _ (hD1 _ Ye))<|L.n1<|aJ rfl (fun hc2=>?_) (fun hc2=>?_)
  ·refine C.s1<|Za rfl<|Zh rfl<|L.n5<|Zam<|Zai<|Zai<|Zam<|Zai ?_;exact leave1 rfl rfl rfl rfl (fun D hD=>by show Value.int _ _=_;rw[L1.hU hx h2 hc2])
  ·refine bQ<|Zal<|Zah<|C.rg<|Zy rfl<|Za rfl<|Zab ?_;have hpx:p x=false:=hc2;have h3:(xs.take (k+1)).any p=false:=by rw[aJP,hx,aMT,h2];simp[hpx]
   exact aG 12 (k+1) ⟨by omega,h3⟩ Yd ⟨Yb,aOJ⟩ rfl rfl (LE _) (aD)
 ·refine aQ<|Zak<|Zak<|Zan<|Zah<|C.s1<|Zh rfl<|L.n5 ?_;exact leave1 rfl rfl rfl rfl (fun D hD=>by show Value.int _ _=_;rw[L1.eW Yab])
theorem zF(sv fv:Value)(xs:List ByteArray)(p:ByteArray→Bool)(D:aA)(hS:Sl D RS 1 sv xs)(hp:cF Tryz.prog D Value.string fv p):
  Fn Tryz.prog 119 #[sv,fv] D (fun _ v=>v=.bool (xs.any p)):=by
 refine enter 9 Tryz.func119 rfl rfl rfl rfl fun h0=>C.s1<|Zh rfl<|L.n3<|Za rfl<|Za rfl<|Zd rfl (fun D1 hD1=>U7 _ _ xs p _ (Sl.at RS.up hD1 Yk Ye) (hp.up (hD1 _ Ye)))<|nS rfl rfl rfl rfl trivial<|Zh rfl<|L.n5 ?_
 exact leave1 rfl rfl rfl rfl (fun D hD=>by show Value.bool (decide _)=_;rw[L1.hC])
theorem XN(b:Nat)(fv:Value)(p:ByteArray→Bool)(x:ByteArray)(D:aA)(hp:cF Tryz.prog D Value.string fv p)(hB:At D b 0 [fv]):
  Fn Tryz.prog 120 #[.string x,.pointer (some ⟨b,0,none⟩)] D (fun _ v=>v=.bool (!p x)):=by
 obtain⟨f,c1,c2,rfl,hf⟩:=hp;refine enter 8 Tryz.func120 rfl rfl rfl rfl fun h0=>C.s1<|Zh rfl<|L.n3<|Zf 0 rfl Tf.a150 rfl hB rfl<|Za rfl<|Zd rfl (fun D1 hD1=>hf x _ (hD1 _ Ye))<|Zag rfl<|Zh rfl<|L.n5 ?_
 exact leave1 rfl rfl rfl rfl (fun D hD=>rfl)
theorem aAG(sv fv:Value)(xs:List ByteArray)(p:ByteArray→Bool)(D:aA)(hS:Sl D RS 1 sv xs)(hp:cF Tryz.prog D Value.string fv p)(h1:fv.cells=#[fv]):
  Fn Tryz.prog 62 #[sv,fv] D (fun _ v=>v=.bool (xs.all p)):=by
 refine enter 9 Tryz.func62 rfl rfl rfl rfl fun h0=>C.s1<|mU (vs:=[fv]) rfl rfl h1 rfl aOJ (fun b D1 hD1 hB=>Zh rfl<|L.n3<|Za rfl<|bB rfl rfl rfl rfl trivial<|Zd rfl (fun D1 hD1=>zF _ _ xs (fun x=> !p x) _ (Sl.at RS.up hD1 Yk Ye) ⟨_,[],[.pointer (some ⟨b,0,none⟩)],rfl,fun x D2 hl=>XN b fv p x D2 (hp.up ((hD1 _ Ye).trans hl)) (hB.up ((hD1 _ Ye).trans hl))⟩)<|Zag rfl<|Zh rfl<|L.n5 ?_)
 exact leave1 rfl rfl rfl rfl (fun D hD=>by show Value.bool (!_)=_;rw[L1.kH])
theorem oB(sv:Value)(xs:List ByteArray)(D:aA)(hS:Sl D RS 1 sv xs):Fn Tryz.prog 30 #[sv] D (fun _ v=>v=.int .i64 (cK xs)):=by
 have hl:=hS.len;refine enter 14 Tryz.func30 rfl rfl rfl rfl fun h0=>C.s1<|Zh rfl<|L.n3<|bB rfl rfl rfl rfl trivial<|Zh rfl<|L.n4<|Za rfl<|aR rfl U22 rfl Yk rfl rfl trivial<|eB rfl rfl rfl rfl trivial<|Za rfl ?_
 refine' L.orK 5 (s:=8) (p:=13) rfl (fun hg1=>?_) (fun hg1=>?_) ?_;rotate_left
 ·refine Zb rfl<|Zb rfl<|Ze rfl (fun D1 hD1=>aAG _ _ xs (fun l=>decide ((l.size:Int)≤50)) _ (Sl.at RS.up hD1 Yk Ye) ⟨_,[_],[],rfl,fun l D2 _=>aBH 50 l D2⟩ rfl)<|jU rfl rfl rfl ⟨_,rfl,rfl⟩<|Zad rfl ?_;exact L.cu 4
 ·refine Zk rfl<|Zk rfl<|Zk rfl<|Zk rfl<|Zac rfl ?_;exact L.cu 4
 refine L.n1<|aJ rfl (fun hc1=>?_) (fun hc1=>?_)
 ·refine C.s1<|Zh rfl<|L.n5<|Zai ?_;exact leave1 rfl rfl rfl rfl (fun D hD=>by show Value.int _ _=_;rw[cK,aJT hc1])
 ·refine C.kn<|C.s1<|Zh rfl<|L.n5 ?_;exact leave1 rfl rfl rfl rfl (fun D hD=>by show Value.int _ _=_;rw[cK,aJM (by rw[hc1];simp)])
end L12
end Go.Fs
namespace Go.Fs
variable{P:Program}{X:Cx}{γb:Type}[Membership Nat γb]{bad:γb}{all:Array Oper}{K:Act→World→Prop}{Q:Exit→Act→World→Prop}
variable{σ:bS}{μ:aC}{Ds:List aA}{os:List (Bool×Nat)}{fl:Bool}{ix:Nat}
variable{d:Nat}{x y z:Operand}{u v:Value}{ty:TypeId}{pos:String}{aft:Array Edge}{g:Option (Nat×Bool)}
theorem qU{A B:aC}{t e tr:TypeId}{b o i m cap c2 sz:Nat}{vs xs:List Value}{ats:Array TypeId}
  (ho:all[ix]?= some ⟨some d,.call {callee:=.builtin .append,args:=#[x,y],argTypes:=ats},tr,pos,aft,g⟩) (ht:P.underlying t=some (.slice e)) (hat:ats[0]?= some t) (hat1:ats[1]?= some t) (hs:TS P e sz)
  (hx:ev σ x=some (.slice (some ⟨b,0,none⟩) i cap)) (hy:ev σ y=some (.slice (some ⟨b,o,none⟩) m c2)) (hxs:(vs.drop o).take (m*sz)=xs) (hxl:xs.length=m*sz) (hfit:i+m≤cap) (hin:i*sz+m*sz≤vs.length) (hx1:∀u∈xs,cell1 u=true)
  (hfl:fl=false∨b∈bad) (hN:Nat.blt d X.N=true) (hg:cT all σ g)
  (kk:WL P X bad all K Q os ((d,.slice (some ⟨b,0,none⟩) (i+m) cap)::σ) (A++(b,.cells (vs.take (i*sz)++xs++vs.drop (i*sz+m*sz)).toArray e (0,0))::B) Ds):
  WL P X bad all K Q ((fl,ix)::os) σ (A++(b,.cells vs.toArray e (0,0))::B) Ds:=by
 refine dI ho rfl rfl hg fun a w hh=>?_
 obtain⟨h1,h2,h3,D,h4,h5,h6⟩:=id hh;have hbx:=(h4.box (b,.cells vs.toArray e (0,0)) Ye).1;have hex:(execOp a.eval ⟨some d,.call {callee:=.builtin .append,args:=#[x,y],argTypes:=ats},tr,pos,aft,g⟩).run P w=
   ((Builtin.append_ ats tr #[.slice (some ⟨b,0,none⟩) i cap,.slice (some ⟨b,o,none⟩) m c2]).run P w).andThen fun r w'=>.ok (.value r) w':=by
  simp only[execOp,resolve,pure_bind,invoke,builtin];have e1:(#[x,y].map a.eval)=#[.slice (some ⟨b,0,none⟩) i cap,.slice (some ⟨b,o,none⟩) m c2]:=by simp[hh.eval hx,hh.eval hy]
  rw[e1,Sem.run_bind];simp only[Sem.run_pure]
 rw[hex];have hm:(Builtin.lenOf (.slice (some ⟨b,o,none⟩) m c2)).run P w=.ok m w:=rfl;have hfc:(Builtin.firstCells sz m (.slice (some ⟨b,o,none⟩) m c2)).run P w=.ok xs.toArray w:=by
  simp only[Builtin.firstCells];refine iM hxl fun j u hj=>lH (cs:=vs.toArray) hbx ?_
  have hjl:=(aJK.1 hj).1;rw[←hxs,aMD Yd,aLM]at hj;simpa using hj
 obtain⟨w',hr,hw'⟩:=gE (P:=P) xs 0 w b (i*sz) vs e hbx Yd hx1;rw[kD (tr:=tr) (w':=w') ht hat hat1 hs hm hfc hfit (by
  show(storeCells ((⟨b,0,none⟩:Addr).add (i*sz)) xs).run P w=_;rw[dW,aMC];exact hr)]
 rw[Nat.add_zero,hxl]at hw';have hHas:bM (A++(b,.cells vs.toArray e (0,0))::B) b (.cells vs.toArray e (0,0)) (.cells (vs.take (i*sz)++xs++vs.drop (i*sz+m*sz)).toArray e (0,0)) (A++(b,.cells (vs.take (i*sz)++xs++vs.drop (i*sz+m*sz)).toArray e (0,0))::B):=.app .head;have hst:=h4.set hHas hw' rfl;refine⟨fun hf=>⟨by rw[hw'.1];simp,fun c hc hcb=>?_⟩,kk _ _ (Hl.put ⟨h1,h2,h3,D,hst,h5,h6.step (fun _ p hp=>aJQ Yq) (fun _=>gM hw' (aIY.2 ⟨_,hHas.mem,rfl⟩)) hst.dom⟩ hN _)⟩
 have hb:b∈bad:=by
  rcases hfl with h|h
  ·rw[hf]at h;cases h
  ·exact h
 rw[hw'.1,aLQ (by rintro rfl;exact hcb hb)]
theorem wX{A B:aC}{t e tr:TypeId}{b o n c:Nat}{z0:Value}{vs zs:List Value}{dd:Option Nat}{ats:Array TypeId}
  (ho:all[ix]?= some ⟨dd,.call {callee:=.builtin .clear,args:=#[x],argTypes:=ats},tr,pos,aft,g⟩) (hdd:dd=none) (ht:P.underlying t=some (.slice e)) (hat:ats[0]?= some t) (hz:TZ P e z0) (hx:ev σ x=some (.slice (some ⟨b,o,none⟩) n c)) (hn:n≠0)
  (hzs:Builtin.zeroCells z0.cells n=zs.toArray) (hin:o+zs.length≤vs.length) (hz1:∀u∈zs,cell1 u=true) (hg:cT all σ g)
  (kk:WL P X bad all K Q os σ (A++(b,.cells (vs.take o++zs++vs.drop (o+zs.length)).toArray e (0,0))::B) Ds):
  WL P X bad all K Q ((false,ix)::os) σ (A++(b,.cells vs.toArray e (0,0))::B) Ds:=by
 subst hdd;refine dI ho rfl rfl hg fun a w hh=>?_
 obtain⟨h1,h2,h3,D,h4,h5,h6⟩:=id hh;have hbx:=(h4.box (b,.cells vs.toArray e (0,0)) Ye).1;obtain⟨w',hr,hw'⟩:=gE (P:=P) zs 0 w b o vs e hbx Yd hz1;rw[Nat.add_zero]at hw';have hcl:(Builtin.clear_ ats tr #[.slice (some ⟨b,o,none⟩) n c]).run P w=.ok (.tuple #[]) w':=by
  have e1:(#[Value.slice (some ⟨b,o,none⟩) n c]:Array Value)[0]?= some (.slice (some ⟨b,o,none⟩) n c):=rfl;unfold Builtin.clear_;obtain⟨k,rfl⟩:∃k,n=k+1:=⟨n-1,by omega⟩
  simp only[hat,e1,Sem.run_bind,TU.of ht w,Result.andThen_ok,hz w,hzs,Sem.run_pure];rw[hr];rfl
 have hex:∃r,(execOp a.eval ⟨none,.call {callee:=.builtin .clear,args:=#[x],argTypes:=ats},tr,pos,aft,g⟩).run P w=.ok (.value r) w':=by
  refine⟨.tuple #[],?_⟩;simp only[execOp,resolve,pure_bind,invoke,builtin];have e1:(#[x].map a.eval)=#[.slice (some ⟨b,o,none⟩) n c]:=by simp[hh.eval hx]
  rw[e1,Sem.run_bind,hcl];rfl
 obtain⟨r,hex⟩:=hex;rw[hex];have hHas:bM (A++(b,.cells vs.toArray e (0,0))::B) b (.cells vs.toArray e (0,0)) (.cells (vs.take o++zs++vs.drop (o+zs.length)).toArray e (0,0)) (A++(b,.cells (vs.take o++zs++vs.drop (o+zs.length)).toArray e (0,0))::B):=.app .head;have hst:=h4.set hHas hw' rfl;exact⟨fun h=>by simp at h,kk _ _ ⟨h1,h2,h3,D,hst,h5,h6.step (fun _ p hp=>aJQ Yq) (fun _=>gM hw' (aIY.2 ⟨_,hHas.mem,rfl⟩)) hst.dom⟩⟩
variable{z2:Operand}
theorem IQ{t e:TypeId}{b i n cap sz:Nat}{k:IntKind}(ho:all[ix]?= some ⟨some d,.slice t x none (some z) none,ty,pos,aft,g⟩)(ht:P.underlying t=some (.slice e))(hs:TS P e sz)(hx:ev σ x=some (.slice (some ⟨b,0,none⟩) n cap))(hz:ev σ z=some (.int k (i:Int)))(hi:i≤cap)
  (hN:Nat.blt d X.N=true) (hg:cT all σ g) (kk:WL P X bad all K Q os ((d,.slice (some ⟨b,0,none⟩) i cap)::σ) μ Ds):WL P X bad all K Q ((fl,ix)::os) σ μ Ds:=by
 have ha:(if cap=0 then some (⟨b,0,none⟩:Addr)else(some (⟨b,0,none⟩:Addr)).map (·.add (0*sz)))=some ⟨b,0,none⟩:=by
  split
  ·rfl
  ·simp[Addr.add]
 refine bG ho rfl rfl hN hg (fun ρ hρ w'=>?_) kk;simp only[execOp,aLF,aKJ,hρ x _ hx,hρ z _ hz];unfold Instr.sliceAt Instr.slice Instr.sliceBounds Instr.sliceBound asIntOf;have hle:(0:Int)≤(i:Int)∧(i:Int)≤(cap:Nat):=by omega
 simp only[Sem.run_bind,TU.of ht w',Result.andThen_ok,Sem.run_pure,pure_bind,hs w',hle,aNM,aLH,aKT,aML,ha]
theorem KH{t e:TypeId}{b j n cap sz:Nat}{k:IntKind}(ho:all[ix]?= some ⟨some d,.slice t x (some y) none none,ty,pos,aft,g⟩)(ht:P.underlying t=some (.slice e))(hs:TS P e sz)(hx:ev σ x=some (.slice (some ⟨b,0,none⟩) n cap))(hy:ev σ y=some (.int k (j:Int)))(hj:j≤n)
  (hN:Nat.blt d X.N=true) (hg:cT all σ g) (kk:∀o,(j<cap→o=j*sz)→WL P X bad all K Q os ((d,.slice (some ⟨b,o,none⟩) (n-j) (cap-j))::σ) μ Ds):WL P X bad all K Q ((fl,ix)::os) σ μ Ds:=by
 have ha:(if cap=j then some (⟨b,0,none⟩:Addr)else(some (⟨b,0,none⟩:Addr)).map (·.add (j*sz)))=some ⟨b,if cap=j then 0 else j*sz,none⟩:=by
  split
  ·rfl
  ·simp[dW]
 refine bG ho rfl rfl hN hg (fun ρ hρ w'=>?_) (kk (if cap=j then 0 else j*sz) fun h=>by rw[aJM Yd]);simp only[execOp,aLF,aKJ,hρ x _ hx,hρ y _ hy];unfold Instr.sliceAt Instr.slice Instr.sliceBounds Instr.sliceBound asIntOf;have hle:(0:Int)≤(j:Int)∧(j:Int)≤(n:Nat):=by omega
 simp only[Sem.run_bind,TU.of ht w',Result.andThen_ok,Sem.run_pure,pure_bind,hs w',hle,aNM,aLH,aKT,ha]
theorem IP{t e:TypeId}{b l h n cap sz:Nat}{k k':IntKind}(ho:all[ix]?= some ⟨some d,.slice t x (some y) (some z) none,ty,pos,aft,g⟩)(ht:P.underlying t=some (.slice e))(hs:TS P e sz)(hx:ev σ x=some (.slice (some ⟨b,0,none⟩) n cap))(hy:ev σ y=some (.int k (l:Int)))(hz:ev σ z=some (.int k' (h:Int)))(h1:l≤h)(h2:h≤cap)(h3:l<cap)
  (hN:Nat.blt d X.N=true) (hg:cT all σ g) (kk:WL P X bad all K Q os ((d,.slice (some ⟨b,l*sz,none⟩) (h-l) (cap-l))::σ) μ Ds):WL P X bad all K Q ((fl,ix)::os) σ μ Ds:=by
 have ha:(if cap=l then some (⟨b,0,none⟩:Addr)else(some (⟨b,0,none⟩:Addr)).map (·.add (l*sz)))=some ⟨b,l*sz,none⟩:=by
  rw[aJM Yd];simp[dW]
 refine bG ho rfl rfl hN hg (fun ρ hρ w'=>?_) kk;simp only[execOp,aLF,aKJ,hρ x _ hx,hρ y _ hy,hρ z _ hz];unfold Instr.sliceAt Instr.slice Instr.sliceBounds Instr.sliceBound asIntOf;have a1:(0:Int)≤(l:Int)∧(l:Int)≤(h:Nat):=by omega
 have a2:(0:Int)≤(h:Int)∧(h:Int)≤(cap:Nat):=by omega
 simp only[Sem.run_bind,TU.of ht w',Result.andThen_ok,Sem.run_pure,pure_bind,hs w',a1,a2,aNM,aLH,aKT,ha]
theorem JP{t e:TypeId}{b l h m n cap sz:Nat}{k k' k2:IntKind}(ho:all[ix]?= some ⟨some d,.slice t x (some y) (some z) (some z2),ty,pos,aft,g⟩)(ht:P.underlying t=some (.slice e))(hs:TS P e sz)(hx:ev σ x=some (.slice (some ⟨b,0,none⟩) n cap))(hy:ev σ y=some (.int k (l:Int)))(hz:ev σ z=some (.int k' (h:Int)))(hz2:ev σ z2=some (.int k2 (m:Int)))(h1:l≤h)(h2:h≤m)(h3:m≤cap)
  (hN:Nat.blt d X.N=true) (hg:cT all σ g) (kk:∀v,WL P X bad all K Q os ((d,v)::σ) μ Ds):WL P X bad all K Q ((fl,ix)::os) σ μ Ds:=by
 refine bG (v:=.slice (if m=l then some ⟨b,0,none⟩else(some (⟨b,0,none⟩:Addr)).map (·.add (l*sz))) (h-l) (m-l)) ho rfl rfl hN hg (fun ρ hρ w'=>?_) (kk _);simp only[execOp,aKJ,hρ x _ hx,hρ y _ hy,hρ z _ hz,hρ z2 _ hz2];unfold Instr.sliceAt Instr.slice Instr.sliceBounds Instr.sliceBound asIntOf;have a1:(0:Int)≤(l:Int)∧(l:Int)≤(h:Nat):=by omega
 have a2:(0:Int)≤(h:Int)∧(h:Int)≤(m:Nat):=by omega
 have a3:(0:Int)≤(m:Int)∧(m:Int)≤(cap:Nat):=by omega
 simp only[Sem.run_bind,TU.of ht w',Result.andThen_ok,Sem.run_pure,pure_bind,hs w',a1,a2,a3,aNM,aLH,aKT];rfl
theorem BE{t e:TypeId}{D₁:aA}{b o n cap j:Nat}{k:IntKind}{xs:List Int}(ho:all[ix]?= some ⟨some d,.slice t x (some y) none none,ty,pos,aft,g⟩)(ht:P.underlying t=some (.slice e))(hs:TS P e 1)(hx:ev σ x=some (.slice (some ⟨b,o,none⟩) n cap))(hS:Sl D₁ RI 1 (.slice (some ⟨b,o,none⟩) n cap) xs)(hy:ev σ y=some (.int k (j:Int)))(hj:j<n)
  (hN:Nat.blt d X.N=true) (hg:cT all σ g) (kk:Sl D₁ RI 1 (.slice (some ⟨b,o+j,none⟩) (n-j) (cap-j)) (xs.drop j)→WL P X bad all K Q os ((d,.slice (some ⟨b,o+j,none⟩) (n-j) (cap-j))::σ) μ Ds):WL P X bad all K Q ((fl,ix)::os) σ μ Ds:=by
 obtain⟨a,c,hv,h1,h2,h3⟩:=hS;cases hv;rcases h3 with h3|⟨b',o',ha,h3⟩
 ·subst h3;simp at hj
 cases ha;have ha:(if cap=j then some (⟨b,o,none⟩:Addr)else(some (⟨b,o,none⟩:Addr)).map (·.add (j*1)))=some ⟨b,o+j,none⟩:=by
  rw[aJM Yd];simp[dW]
 refine bG ho rfl rfl hN hg (fun ρ hρ w'=>?_) (kk ⟨_,_,by rw[aLB],by rw[aLB];omega,by rw[aLB];omega,aJE ⟨b,o+j,rfl,fun i z hi=>?_⟩⟩)
 ·simp only[execOp,aLF,aKJ,hρ x _ hx,hρ y _ hy];unfold Instr.sliceAt Instr.slice Instr.sliceBounds Instr.sliceBound asIntOf;have hle:(0:Int)≤(j:Int)∧(j:Int)≤(xs.length:Nat):=by omega
  simp only[Sem.run_bind,TU.of ht w',Result.andThen_ok,Sem.run_pure,pure_bind,hs w',hle,aNM,aLH,aKT,ha]
 ·rw[aLM]at hi;obtain⟨cs,hr,hc,hA⟩:=h3 _ _ hi;exact⟨cs,hr,hc,by rw[show o+j+i*1=o+(j+i)*1 by omega];exact hA⟩
theorem p9{t e:TypeId}{n len cap:Nat}{ad:Option Addr}(ho:all[ix]?= some ⟨some d,.sliceToArrayPointer t x,ty,pos,aft,g⟩)(ht:P.underlying t=some (.array n e))(hx:ev σ x=some (.slice ad len cap))(hl:n≤len)
  (hN:Nat.blt d X.N=true) (hg:cT all σ g) (kk:WL P X bad all K Q os ((d,.pointer ad)::σ) μ Ds):WL P X bad all K Q ((fl,ix)::os) σ μ Ds:=by
 refine dI ho rfl rfl hg fun a w hh=>?_
 have:(execOp a.eval ⟨some d,.sliceToArrayPointer t x,ty,pos,aft,g⟩).run P w=.ok (.value (.pointer ad)) w:=by
  simp only[execOp,hh.eval hx];unfold Instr.arrayAt;rw[Sem.run_bind,Sem.run_bind,TU.of ht w];simp only[Result.andThen_ok];rw[aJM Yd];rfl
 rw[this];exact⟨fun _=>jW.refl _ _,kk _ _ (hh.put hN _)⟩
end Go.Fs
namespace Go.Fs
open Go.Proofs
namespace L12
open C12
section
variable{α:Type}{f:α→List Value}{n:Nat}(hf:∀x,(f x).length=n){xs:List α}{i:Nat}
include hf
theorem tP:((xs.drop (i+1)).flatMap f).length=(xs.length-(i+1))*n:=by rw[bK hf,aLB]
theorem LJ(k:Nat):(xs.flatMap f).take (k*n)=(xs.take k).flatMap f:=by
 induction xs generalizing k with
 |nil=>simp
 |cons x xs ih=>
  cases k with
  |zero=>simp
  |succ k=>
   rw[aKR,aNU,aKR,←ih k,show(k+1)*n=(f x).length+k*n by rw[hf,aLW];omega,List.take_length_add_append]
theorem NF(k:Nat):(xs.flatMap f).drop (k*n)=(xs.drop k).flatMap f:=by
 induction xs generalizing k with
 |nil=>simp
 |cons x xs ih=>
  cases k with
  |zero=>simp
  |succ k=>
   rw[aKR,aOI,←ih k,show(k+1)*n=(f x).length+k*n by rw[hf,aLW];omega,aNI]
theorem F0{cap o:Nat}{junk:List Value}(hi:i<xs.length)(hcap:xs.length≤cap)(ho:i+1<cap→o=(i+1)*n)(_:(xs.flatMap f++junk).length=cap*n):((xs.flatMap f++junk).drop o).take ((xs.length-(i+1))*n)=(xs.drop (i+1)).flatMap f:=by
 by_cases h:i+1<xs.length
 ·rw[ho Yd,List.drop_append_of_le_length (by rw[bK hf];exact aNN _ Yd),NF hf,aKM (by rw[tP hf];exact aJU _),aKC (by rw[tP hf];exact aJU _)]
 ·rw[show xs.length-(i+1)=0 by omega,aNF,List.take_zero,aKK Yd];rfl
theorem tY{junk:List Value}(hi:i<xs.length):(xs.flatMap f++junk).take (i*n)++(xs.drop (i+1)).flatMap f++(xs.flatMap f++junk).drop (i*n+(xs.length-(i+1))*n)=(xs.eraseIdx i).flatMap f++(xs.flatMap f++junk).drop ((xs.length-1)*n):=by
 rw[aKM (by rw[bK hf];exact aNN _ Yd),LJ hf,←aKE,←List.eraseIdx_eq_take_drop_succ,←aLW,show i+(xs.length-(i+1))=xs.length-1 by omega]
theorem wW{cap:Nat}{junk:List Value}(hi:i<xs.length)(_:(xs.flatMap f).length=xs.length*n)(hl2:(xs.flatMap f++junk).length=cap*n)(hcap:xs.length≤cap):((xs.eraseIdx i).flatMap f++(xs.flatMap f++junk).drop ((xs.length-1)*n)).length=cap*n:=by
 have h1:(xs.length-1)*n≤cap*n:=aNN _ Yd;rw[aIX,bK hf,aNJ hi,aLB,hl2];omega
theorem G2{cap b e:Nat}{junk zs:List Value}{cells:List Value}(hi:i<xs.length)(hl1:(xs.flatMap f).length=xs.length*n)(hl2:(xs.flatMap f++junk).length=cap*n)(hcap:xs.length≤cap)(hz:cells=((xs.eraseIdx i).flatMap f++(xs.flatMap f++junk).drop ((xs.length-1)*n)).take ((xs.length-1)*n)++zs++((xs.eraseIdx i).flatMap f++(xs.flatMap f++junk).drop ((xs.length-1)*n)).drop ((xs.length-1)*n+zs.length))(hzl:(xs.length-1)*n+zs.length≤cap*n:=by simp;omega):
  bL e n (.slice (some ⟨b,0,none⟩) (xs.length-1) cap) (xs.length-1) ((xs.eraseIdx i).flatMap f) [(b,.cells cells.toArray e (0,0))]:=by
 have hE:((xs.eraseIdx i).flatMap f).length=(xs.length-1)*n:=by rw[bK hf,aNJ hi]
 have hT:=wW hf hi hl1 hl2 hcap;subst hz;generalize hR:(xs.flatMap f++junk).drop ((xs.length-1)*n)=R at hT ⊢
 have e1:((xs.eraseIdx i).flatMap f++R).take ((xs.length-1)*n)=(xs.eraseIdx i).flatMap f:=by rw[←hE,aNL]
 rw[e1,aJL];refine aJE ⟨b,cap,_,rfl,by omega,rfl,hE,?_⟩;rw[aIX,aIX,aLB,hT,hE];omega
end
theorem GX(sv:Value)(xs:List C1.sC)(i:Nat)(ν:aC)(D:aA)(ha:bL 156 3 sv xs.length (xs.flatMap cC) ν)(hi:i<xs.length):S3 Tryz.prog 254 [sv,.int .i64 (i:Int),.int .i64 ((i+1:Nat):Int)] D ν (fun _ v ν'=>bL 156 3 v (xs.length-1) ((xs.eraseIdx i).flatMap cC) ν'):=by
 obtain⟨b,cap,junk,rfl,hcap,rfl,hl1,hl2⟩:=ha.some Yd;refine gC 33 Tryz.func254 rfl rfl rfl rfl (fun h0 hwl hwn=>C.s1<|Zh rfl<|L.n3<|Za rfl<|Za rfl<|Za rfl<|Za rfl<|iC rfl U26 rfl rfl rfl trivial<|JP (l:=i) (h:=i+1) (m:=xs.length) rfl U26 Tf.s156 rfl rfl rfl rfl Yd Yd hcap rfl aOJ (fun v3=>L.n4<|Za rfl ?_));refine Za rfl<|dJ rfl rfl rfl rfl trivial<|L.n1<|aE rfl (fun hc1=>?_) (fun hc1=>?_)
 ·exact absurd hc1 Yd
 ·refine C.kn<|C.s1<|Za rfl<|iC rfl U26 rfl rfl rfl trivial<|Zh rfl<|L.n2<|C.drawA [] 2 8 58 (fun _ _ _ h=>bT (P:=Tryz.prog) (fn:=Tryz.f254) _ _ _ h)<|Za rfl<|Za rfl<|IQ (i:=i) rfl U26 Tf.s156 rfl rfl Yd rfl trivial<|Za rfl<|Za rfl ?_;refine KH (j:=i+1) rfl U26 Tf.s156 rfl rfl Yd rfl aOJ (fun o ho=>qU (A:=[]) (B:=[]) (sz:=3) (xs:=(xs.drop (i+1)).flatMap cC) rfl U26 rfl rfl Tf.s156 rfl rfl (F0 (f:=cC) (fun _=>rfl) hi hcap ho hl2) (tP (f:=cC) (fun _=>rfl)) Yd Yac (fE CX _) (aJQ rfl) rfl aOJ ?_);rw[show i+(xs.length-(i+1))=xs.length-1 by omega];refine aF [(b,.cells ((xs.eraseIdx i).flatMap cC++(xs.flatMap cC++junk).drop ((xs.length-1)*3)).toArray 156 (0,0))] (by rw[aKF,tY (f:=cC) (fun _=>rfl) hi])<|Zh rfl<|L.n3<|Za rfl<|Za rfl<|iC rfl U26 rfl rfl rfl trivial<|Za rfl<|IP (l:=xs.length-1) (h:=xs.length) rfl U26 Tf.s156 rfl rfl rfl Yd hcap Yd rfl aOJ ?_;rw[show xs.length-(xs.length-1)=1 by omega];refine wX (A:=[]) (B:=[]) (zs:=[.bool false,.int .i64 0,.int .i64 0]) rfl rfl U26 rfl Tf.z156 rfl Yd Yg (by rw[wW (f:=cC) (fun _=>rfl) hi hl1 hl2 hcap];simp;omega) Yi trivial<|L.n3<|Za rfl<|Zh rfl<|L.n5 ?_
  exact Zz [] [] [_] [_] rfl ⟨rfl,aOJ⟩ rfl (fun D hD=>G2 (f:=cC) (fun _=>rfl) hi hl1 hl2 hcap rfl)
theorem ES(sv:Value)(xs:List C2.Mk)(i:Nat)(ν:aC)(D:aA)(ha:bL 158 4 sv xs.length (xs.flatMap cM) ν)(hi:i<xs.length):S3 Tryz.prog 256 [sv,.int .i64 (i:Int),.int .i64 ((i+1:Nat):Int)] D ν (fun _ v ν'=>bL 158 4 v (xs.length-1) ((xs.eraseIdx i).flatMap cM) ν'):=by
 obtain⟨b,cap,junk,rfl,hcap,rfl,hl1,hl2⟩:=ha.some Yd;refine gC 33 Tryz.func256 rfl rfl rfl rfl (fun h0 hwl hwn=>C.s1<|Zh rfl<|L.n3<|Za rfl<|Za rfl<|Za rfl<|Za rfl<|iC rfl U30 rfl rfl rfl trivial<|JP (l:=i) (h:=i+1) (m:=xs.length) rfl U30 Tf.s158 rfl rfl rfl rfl Yd Yd hcap rfl aOJ (fun v3=>L.n4<|Za rfl ?_));refine Za rfl<|dJ rfl rfl rfl rfl trivial<|L.n1<|aE rfl (fun hc1=>?_) (fun hc1=>?_)
 ·exact absurd hc1 Yd
 ·refine C.kn<|C.s1<|Za rfl<|iC rfl U30 rfl rfl rfl trivial<|Zh rfl<|L.n2<|C.drawA [] 2 8 58 (fun _ _ _ h=>bT (P:=Tryz.prog) (fn:=Tryz.f256) _ _ _ h)<|Za rfl<|Za rfl<|IQ (i:=i) rfl U30 Tf.s158 rfl rfl Yd rfl trivial<|Za rfl<|Za rfl ?_;refine KH (j:=i+1) rfl U30 Tf.s158 rfl rfl Yd rfl aOJ (fun o ho=>qU (A:=[]) (B:=[]) (sz:=4) (xs:=(xs.drop (i+1)).flatMap cM) rfl U30 rfl rfl Tf.s158 rfl rfl (F0 (f:=cM) (fun _=>rfl) hi hcap ho hl2) (tP (f:=cM) (fun _=>rfl)) Yd Yac (fE AZ _) (aJQ rfl) rfl aOJ ?_);rw[show i+(xs.length-(i+1))=xs.length-1 by omega];refine aF [(b,.cells ((xs.eraseIdx i).flatMap cM++(xs.flatMap cM++junk).drop ((xs.length-1)*4)).toArray 158 (0,0))] (by rw[aKF,tY (f:=cM) (fun _=>rfl) hi])<|Zh rfl<|L.n3<|Za rfl<|Za rfl<|iC rfl U30 rfl rfl rfl trivial<|Za rfl<|IP (l:=xs.length-1) (h:=xs.length) rfl U30 Tf.s158 rfl rfl rfl Yd hcap Yd rfl aOJ ?_;rw[show xs.length-(xs.length-1)=1 by omega];refine wX (A:=[]) (B:=[]) (zs:=[.int .i64 0,.int .i64 0,.int .i64 0,.int .i64 0]) rfl rfl U30 rfl Tf.z158 rfl Yd Yg (by rw[wW (f:=cM) (fun _=>rfl) hi hl1 hl2 hcap];simp;omega) Yi trivial<|L.n3<|Za rfl<|Zh rfl<|L.n5 ?_
  exact Zz [] [] [_] [_] rfl ⟨rfl,aOJ⟩ rfl (fun D hD=>G2 (f:=cM) (fun _=>rfl) hi hl1 hl2 hcap rfl)
theorem ER(sv:Value)(xs:List C3.fH)(i:Nat)(ν:aC)(D:aA)(ha:bL 160 3 sv xs.length (xs.flatMap cL) ν)(hi:i<xs.length):S3 Tryz.prog 258 [sv,.int .i64 (i:Int),.int .i64 ((i+1:Nat):Int)] D ν (fun _ v ν'=>bL 160 3 v (xs.length-1) ((xs.eraseIdx i).flatMap cL) ν'):=by
 obtain⟨b,cap,junk,rfl,hcap,rfl,hl1,hl2⟩:=ha.some Yd;refine gC 33 Tryz.func258 rfl rfl rfl rfl (fun h0 hwl hwn=>C.s1<|Zh rfl<|L.n3<|Za rfl<|Za rfl<|Za rfl<|Za rfl<|iC rfl U33 rfl rfl rfl trivial<|JP (l:=i) (h:=i+1) (m:=xs.length) rfl U33 Tf.s160 rfl rfl rfl rfl Yd Yd hcap rfl aOJ (fun v3=>L.n4<|Za rfl ?_));refine Za rfl<|dJ rfl rfl rfl rfl trivial<|L.n1<|aE rfl (fun hc1=>?_) (fun hc1=>?_)
 ·exact absurd hc1 Yd
 ·refine C.kn<|C.s1<|Za rfl<|iC rfl U33 rfl rfl rfl trivial<|Zh rfl<|L.n2<|C.drawA [] 2 8 58 (fun _ _ _ h=>bT (P:=Tryz.prog) (fn:=Tryz.f258) _ _ _ h)<|Za rfl<|Za rfl<|IQ (i:=i) rfl U33 Tf.s160 rfl rfl Yd rfl trivial<|Za rfl<|Za rfl ?_;refine KH (j:=i+1) rfl U33 Tf.s160 rfl rfl Yd rfl aOJ (fun o ho=>qU (A:=[]) (B:=[]) (sz:=3) (xs:=(xs.drop (i+1)).flatMap cL) rfl U33 rfl rfl Tf.s160 rfl rfl (F0 (f:=cL) (fun _=>rfl) hi hcap ho hl2) (tP (f:=cL) (fun _=>rfl)) Yd Yac (fE DP _) (aJQ rfl) rfl aOJ ?_);rw[show i+(xs.length-(i+1))=xs.length-1 by omega];refine aF [(b,.cells ((xs.eraseIdx i).flatMap cL++(xs.flatMap cL++junk).drop ((xs.length-1)*3)).toArray 160 (0,0))] (by rw[aKF,tY (f:=cL) (fun _=>rfl) hi])<|Zh rfl<|L.n3<|Za rfl<|Za rfl<|iC rfl U33 rfl rfl rfl trivial<|Za rfl<|IP (l:=xs.length-1) (h:=xs.length) rfl U33 Tf.s160 rfl rfl rfl Yd hcap Yd rfl aOJ ?_;rw[show xs.length-(xs.length-1)=1 by omega];refine wX (A:=[]) (B:=[]) (zs:=[.int .i64 0,.int .i64 0,.int .i64 0]) rfl rfl U33 rfl Tf.z160 rfl Yd Yg (by rw[wW (f:=cL) (fun _=>rfl) hi hl1 hl2 hcap];simp;omega) Yi trivial<|L.n3<|Za rfl<|Zh rfl<|L.n5 ?_
  exact Zz [] [] [_] [_] rfl ⟨rfl,aOJ⟩ rfl (fun D hD=>G2 (f:=cL) (fun _=>rfl) hi hl1 hl2 hcap rfl)
theorem GY(sv:Value)(xs:List (Int×Int))(i:Nat)(ν:aC)(D:aA)(ha:bL 133 2 sv xs.length (xs.flatMap cP) ν)(hi:i<xs.length):S3 Tryz.prog 259 [sv,.int .i64 (i:Int),.int .i64 ((i+1:Nat):Int)] D ν (fun _ v ν'=>bL 133 2 v (xs.length-1) ((xs.eraseIdx i).flatMap cP) ν'):=by
 obtain⟨b,cap,junk,rfl,hcap,rfl,hl1,hl2⟩:=ha.some Yd;refine gC 33 Tryz.func259 rfl rfl rfl rfl (fun h0 hwl hwn=>C.s1<|Zh rfl<|L.n3<|Za rfl<|Za rfl<|Za rfl<|Za rfl<|iC rfl U38 rfl rfl rfl trivial<|JP (l:=i) (h:=i+1) (m:=xs.length) rfl U38 Tf.s133 rfl rfl rfl rfl Yd Yd hcap rfl aOJ (fun v3=>L.n4<|Za rfl ?_));refine Za rfl<|dJ rfl rfl rfl rfl trivial<|L.n1<|aE rfl (fun hc1=>?_) (fun hc1=>?_)
 ·exact absurd hc1 Yd
 ·refine C.kn<|C.s1<|Za rfl<|iC rfl U38 rfl rfl rfl trivial<|Zh rfl<|L.n2<|C.drawA [] 2 8 58 (fun _ _ _ h=>bT (P:=Tryz.prog) (fn:=Tryz.f259) _ _ _ h)<|Za rfl<|Za rfl<|IQ (i:=i) rfl U38 Tf.s133 rfl rfl Yd rfl trivial<|Za rfl<|Za rfl ?_;refine KH (j:=i+1) rfl U38 Tf.s133 rfl rfl Yd rfl aOJ (fun o ho=>qU (A:=[]) (B:=[]) (sz:=2) (xs:=(xs.drop (i+1)).flatMap cP) rfl U38 rfl rfl Tf.s133 rfl rfl (F0 (f:=cP) (fun _=>rfl) hi hcap ho hl2) (tP (f:=cP) (fun _=>rfl)) Yd Yac (fE M6 _) (aJQ rfl) rfl aOJ ?_);rw[show i+(xs.length-(i+1))=xs.length-1 by omega];refine aF [(b,.cells ((xs.eraseIdx i).flatMap cP++(xs.flatMap cP++junk).drop ((xs.length-1)*2)).toArray 133 (0,0))] (by rw[aKF,tY (f:=cP) (fun _=>rfl) hi])<|Zh rfl<|L.n3<|Za rfl<|Za rfl<|iC rfl U38 rfl rfl rfl trivial<|Za rfl<|IP (l:=xs.length-1) (h:=xs.length) rfl U38 Tf.s133 rfl rfl rfl Yd hcap Yd rfl aOJ ?_;rw[show xs.length-(xs.length-1)=1 by omega];refine wX (A:=[]) (B:=[]) (zs:=[.int .i64 0,.int .i64 0]) rfl rfl U38 rfl Tf.z133 rfl Yd Yg (by rw[wW (f:=cP) (fun _=>rfl) hi hl1 hl2 hcap];simp;omega) Yi trivial<|L.n3<|Za rfl<|Zh rfl<|L.n5 ?_
  exact Zz [] [] [_] [_] rfl ⟨rfl,aOJ⟩ rfl (fun D hD=>G2 (f:=cP) (fun _=>rfl) hi hl1 hl2 hcap rfl)
end L12
end Go.Fs
namespace Go.Fs
open Go.Proofs
namespace L12
open C12
theorem kB{e sz n:Nat}{cells:List Value}{v:Value}{ν:aC}(ha:bL e sz v n cells ν):∀p∈ν,cN p.2:=by
 intro p hp;rcases ha with⟨_,_,_,_,rfl⟩|⟨b,cap,junk,_,_,rfl,_⟩
 ·cases hp
 ·simp only[aJR]at hp;subst hp;rfl
theorem BU(wb:Nat)(s:aI)(pv cv hv lv mv bl bc yc yq nv:Value)(a:Int)(ν:aC)(D:aA)(hn:Sl D RI 1 nv [a])(ha:bL 156 3 cv s.row.counts.length (s.row.counts.flatMap cC) ν)(hsm:s.row.counts.length≤100)(ha0:0≤a):jK Tryz.prog 172 [.pointer (some ⟨wb,0,none⟩),nv] D ((wb,.cells (bP s pv cv hv lv mv bl bc yc yq).toArray 253 (0,0))::ν) (fun _ _ ν'=>a<(s.row.counts.length:Int)∧∃v1 ν1,ν'=(wb,.cells (bP s pv v1 hv lv mv bl bc yc yq).toArray 253 (0,0))::ν1∧bL 156 3 v1 (s.row.counts.length-1) ((s.row.counts.eraseIdx a.toNat).flatMap cC) ν1) (fun v=>(s.row.counts.length:Int)≤a∧v=dU 7):=by
 obtain⟨bt,ot,ct,rfl⟩:=iB hn Ye;obtain⟨i,rfl⟩:∃i:Nat,a=(i:Int):=⟨a.toNat,by omega⟩
 have hbt:=kJ hn;refine dL 34 Tryz.func172 rfl rfl rfl rfl (fun h0 hwl hwn=>aM<|C.drawPA [] 7 11 1016 (fun _ _ _ _ he h=>cX (P:=Tryz.prog) (fn:=Tryz.f172) _ _ _ _ he h)<|Za rfl<|aO rfl U25 Tf.s3 rfl hn rfl Yd rfl rfl aOJ (fun cs1 hr1 hcl1 hA1=>?_));obtain rfl:cs1=[.int .i64 _]:=hr1;refine Zf 0 rfl Tf.a3 rfl hA1 rfl<|Za rfl<|Zaf rfl<|Zi rfl Tf.f253_0 rfl<|Zi rfl Tf.f42_0 rfl<|Zi rfl Tf.f28_1 rfl<|Zl rfl Tf.a26 rfl (List.Mem.head _) rfl<|dS rfl U26 rfl ha rfl rfl trivial<|Zc [(_,_)] ν [] rfl (Or.inr (fun p hp=>by cases hp)) (fun p hp=>by cases hp) (fun D5 hD5=>iH (i:Int) (s.row.counts.length:Int) _) (fun v5 D6 hD5 hp5=>bX (P:=Tryz.prog) (fn:=Tryz.f172) rfl ⟨hp5.1,hp5.2⟩) (fun v5 D6 ν5 hD5 hp5=>?_);obtain⟨hf5,rfl⟩:=hp5;refine L.n1<|iS hbt Ye (fun hap=>rZ (fun hnd=>?_));have hnu:=jY hap hnd;have hwbo:wb∉dO.mk [bt,wb]:=dO.out Ye;have hbto:bt∉dO.mk [bt,wb]:=dO.out Ye;refine C.drawPA (dO.mk [bt,wb]) 4 20 32766 (fun _ _ _ _ he h=>cX (P:=Tryz.prog) (fn:=Tryz.f172) _ _ _ _ he h)<|Za rfl<|Za rfl<|Zaf rfl<|Zi rfl Tf.f253_0 rfl<|Zi rfl Tf.f42_0 rfl<|Zi rfl Tf.f28_1 rfl<|aS rfl Tf.a26 rfl (List.Mem.head _) rfl Yj rfl trivial<|Za rfl<|aO rfl U25 Tf.s3 rfl hn rfl Yd rfl rfl aOJ (fun cs2 hr2 hcl2 hA2=>?_);obtain rfl:cs2=[.int .i64 _]:=hr2;refine bC rfl (k:=0) Tf.a3 rfl hA2 Yc rfl Yj rfl trivial<|Za rfl<|aO rfl U25 Tf.s3 rfl hn rfl Yd rfl rfl aOJ (fun cs3 hr3 hcl3 hA3=>?_);obtain rfl:cs3=[.int .i64 _]:=hr3;refine bC rfl (k:=0) Tf.a3 rfl hA3 Yc rfl Yj rfl trivial<|Zy rfl<|aF ((wb,.cells (bP s pv cv hv lv mv bl bc yc yq).toArray 253 (0,0))::ν) rfl<|aF ((wb,.cells (bP s pv cv hv lv mv bl bc yc yq).toArray 253 (0,0))::ν++[]) (aJF _).symm<|eA (A:=[(wb,.cells (bP s pv cv hv lv mv bl bc yc yq).toArray 253 (0,0))]) (ν:=ν) (B:=[]) rfl rfl rfl rfl Yp (kB ha) (fun D7 hD7=>GX _ s.row.counts i ν _ ha Yd) rfl aOJ (fun v7 D8 ν7 hD8 hp7=>aF ((wb,.cells (bP s pv cv hv lv mv bl bc yc yq).toArray 253 (0,0))::ν7) (aJF _)<|Zaf rfl<|Zi rfl Tf.f253_0 rfl<|Zi rfl Tf.f42_0 rfl<|Zi rfl Tf.f28_1 rfl<|aY (ws:=(bP s pv v7 hv lv mv bl bc yc yq)) rfl rfl rfl hp7.cells1 Tf.s26 .head Ye rfl hp7.cell1 trivial<|Zab ?_);refine fun a w hh=>dC (P:=Tryz.prog) (fn:=Tryz.f172) (A:=[]) (ν':=((wb,_)::ν7)) (B:=[]) (vs:=[]) rfl rfl rfl aOJ (fun D' hD=>⟨hf5,v7,ν7,rfl,hp7⟩) a w (hh.boxesEq (aJF _).symm)
theorem GW(wb:Nat)(s:aI)(pv cv hv lv mv bl bc yc yq nv:Value)(a:Int)(ν:aC)(D:aA)(hn:Sl D RI 1 nv [a])(ha:bL 158 4 mv s.table.marks.length (s.table.marks.flatMap cM) ν)(hsm:s.table.marks.length≤100)(ha0:0≤a):jK Tryz.prog 180 [.pointer (some ⟨wb,0,none⟩),nv] D ((wb,.cells (bP s pv cv hv lv mv bl bc yc yq).toArray 253 (0,0))::ν) (fun _ _ ν'=>a<(s.table.marks.length:Int)∧∃v1 ν1,ν'=(wb,.cells (bP s pv cv hv lv v1 bl bc yc yq).toArray 253 (0,0))::ν1∧bL 158 4 v1 (s.table.marks.length-1) ((s.table.marks.eraseIdx a.toNat).flatMap cM) ν1) (fun v=>(s.table.marks.length:Int)≤a∧v=dU 7):=by
 obtain⟨bt,ot,ct,rfl⟩:=iB hn Ye;obtain⟨i,rfl⟩:∃i:Nat,a=(i:Int):=⟨a.toNat,by omega⟩
 have hbt:=kJ hn;refine dL 34 Tryz.func180 rfl rfl rfl rfl (fun h0 hwl hwn=>aM<|C.drawPA [] 7 11 1016 (fun _ _ _ _ he h=>cX (P:=Tryz.prog) (fn:=Tryz.f180) _ _ _ _ he h)<|Za rfl<|aO rfl U25 Tf.s3 rfl hn rfl Yd rfl rfl aOJ (fun cs1 hr1 hcl1 hA1=>?_));obtain rfl:cs1=[.int .i64 _]:=hr1;refine Zf 0 rfl Tf.a3 rfl hA1 rfl<|Za rfl<|Zaf rfl<|Zi rfl Tf.f253_0 rfl<|Zi rfl Tf.f42_1 rfl<|Zi rfl Tf.f32_4 rfl<|Zl rfl Tf.a30 rfl (List.Mem.head _) rfl<|dS rfl U30 rfl ha rfl rfl trivial<|Zc [(_,_)] ν [] rfl (Or.inr (fun p hp=>by cases hp)) (fun p hp=>by cases hp) (fun D5 hD5=>iH (i:Int) (s.table.marks.length:Int) _) (fun v5 D6 hD5 hp5=>bX (P:=Tryz.prog) (fn:=Tryz.f180) rfl ⟨hp5.1,hp5.2⟩) (fun v5 D6 ν5 hD5 hp5=>?_);obtain⟨hf5,rfl⟩:=hp5;refine L.n1<|iS hbt Ye (fun hap=>rZ (fun hnd=>?_));have hnu:=jY hap hnd;have hwbo:wb∉dO.mk [bt,wb]:=dO.out Ye;have hbto:bt∉dO.mk [bt,wb]:=dO.out Ye;refine C.drawPA (dO.mk [bt,wb]) 4 20 32766 (fun _ _ _ _ he h=>cX (P:=Tryz.prog) (fn:=Tryz.f180) _ _ _ _ he h)<|Za rfl<|Za rfl<|Zaf rfl<|Zi rfl Tf.f253_0 rfl<|Zi rfl Tf.f42_1 rfl<|Zi rfl Tf.f32_4 rfl<|aS rfl Tf.a30 rfl (List.Mem.head _) rfl Yj rfl trivial<|Za rfl<|aO rfl U25 Tf.s3 rfl hn rfl Yd rfl rfl aOJ (fun cs2 hr2 hcl2 hA2=>?_);obtain rfl:cs2=[.int .i64 _]:=hr2;refine bC rfl (k:=0) Tf.a3 rfl hA2 Yc rfl Yj rfl trivial<|Za rfl<|aO rfl U25 Tf.s3 rfl hn rfl Yd rfl rfl aOJ (fun cs3 hr3 hcl3 hA3=>?_);obtain rfl:cs3=[.int .i64 _]:=hr3;refine bC rfl (k:=0) Tf.a3 rfl hA3 Yc rfl Yj rfl trivial<|Zy rfl<|aF ((wb,.cells (bP s pv cv hv lv mv bl bc yc yq).toArray 253 (0,0))::ν) rfl<|aF ((wb,.cells (bP s pv cv hv lv mv bl bc yc yq).toArray 253 (0,0))::ν++[]) (aJF _).symm<|eA (A:=[(wb,.cells (bP s pv cv hv lv mv bl bc yc yq).toArray 253 (0,0))]) (ν:=ν) (B:=[]) rfl rfl rfl rfl Yp (kB ha) (fun D7 hD7=>ES _ s.table.marks i ν _ ha Yd) rfl aOJ (fun v7 D8 ν7 hD8 hp7=>aF ((wb,.cells (bP s pv cv hv lv mv bl bc yc yq).toArray 253 (0,0))::ν7) (aJF _)<|Zaf rfl<|Zi rfl Tf.f253_0 rfl<|Zi rfl Tf.f42_1 rfl<|Zi rfl Tf.f32_4 rfl<|aY (ws:=(bP s pv cv hv lv v7 bl bc yc yq)) rfl rfl rfl hp7.cells1 Tf.s30 .head Ye rfl hp7.cell1 trivial<|Zab ?_);refine fun a w hh=>dC (P:=Tryz.prog) (fn:=Tryz.f180) (A:=[]) (ν':=((wb,_)::ν7)) (B:=[]) (vs:=[]) rfl rfl rfl aOJ (fun D' hD=>⟨hf5,v7,ν7,rfl,hp7⟩) a w (hh.boxesEq (aJF _).symm)
theorem FM(wb:Nat)(s:aI)(pv cv hv lv mv bl bc yc yq nv:Value)(a:Int)(ν:aC)(D:aA)(hn:Sl D RI 1 nv [a])(ha:bL 160 3 bl s.book.lines.length (s.book.lines.flatMap cL) ν)(hsm:s.book.lines.length≤100)(ha0:0≤a):jK Tryz.prog 184 [.pointer (some ⟨wb,0,none⟩),nv] D ((wb,.cells (bP s pv cv hv lv mv bl bc yc yq).toArray 253 (0,0))::ν) (fun _ _ ν'=>a<(s.book.lines.length:Int)∧∃v1 ν1,ν'=(wb,.cells (bP s pv cv hv lv mv v1 bc yc yq).toArray 253 (0,0))::ν1∧bL 160 3 v1 (s.book.lines.length-1) ((s.book.lines.eraseIdx a.toNat).flatMap cL) ν1) (fun v=>(s.book.lines.length:Int)≤a∧v=dU 7):=by
 obtain⟨bt,ot,ct,rfl⟩:=iB hn Ye;obtain⟨i,rfl⟩:∃i:Nat,a=(i:Int):=⟨a.toNat,by omega⟩
 have hbt:=kJ hn;refine dL 34 Tryz.func184 rfl rfl rfl rfl (fun h0 hwl hwn=>aM<|C.drawPA [] 7 11 1016 (fun _ _ _ _ he h=>cX (P:=Tryz.prog) (fn:=Tryz.f184) _ _ _ _ he h)<|Za rfl<|aO rfl U25 Tf.s3 rfl hn rfl Yd rfl rfl aOJ (fun cs1 hr1 hcl1 hA1=>?_));obtain rfl:cs1=[.int .i64 _]:=hr1;refine Zf 0 rfl Tf.a3 rfl hA1 rfl<|Za rfl<|Zaf rfl<|Zi rfl Tf.f253_0 rfl<|Zi rfl Tf.f42_2 rfl<|Zi rfl Tf.f36_3 rfl<|Zl rfl Tf.a33 rfl (List.Mem.head _) rfl<|dS rfl U33 rfl ha rfl rfl trivial<|Zc [(_,_)] ν [] rfl (Or.inr (fun p hp=>by cases hp)) (fun p hp=>by cases hp) (fun D5 hD5=>iH (i:Int) (s.book.lines.length:Int) _) (fun v5 D6 hD5 hp5=>bX (P:=Tryz.prog) (fn:=Tryz.f184) rfl ⟨hp5.1,hp5.2⟩) (fun v5 D6 ν5 hD5 hp5=>?_);obtain⟨hf5,rfl⟩:=hp5;refine L.n1<|iS hbt Ye (fun hap=>rZ (fun hnd=>?_));have hnu:=jY hap hnd;have hwbo:wb∉dO.mk [bt,wb]:=dO.out Ye;have hbto:bt∉dO.mk [bt,wb]:=dO.out Ye;refine C.drawPA (dO.mk [bt,wb]) 4 20 32766 (fun _ _ _ _ he h=>cX (P:=Tryz.prog) (fn:=Tryz.f184) _ _ _ _ he h)<|Za rfl<|Za rfl<|Zaf rfl<|Zi rfl Tf.f253_0 rfl<|Zi rfl Tf.f42_2 rfl<|Zi rfl Tf.f36_3 rfl<|aS rfl Tf.a33 rfl (List.Mem.head _) rfl Yj rfl trivial<|Za rfl<|aO rfl U25 Tf.s3 rfl hn rfl Yd rfl rfl aOJ (fun cs2 hr2 hcl2 hA2=>?_);obtain rfl:cs2=[.int .i64 _]:=hr2;refine bC rfl (k:=0) Tf.a3 rfl hA2 Yc rfl Yj rfl trivial<|Za rfl<|aO rfl U25 Tf.s3 rfl hn rfl Yd rfl rfl aOJ (fun cs3 hr3 hcl3 hA3=>?_);obtain rfl:cs3=[.int .i64 _]:=hr3;refine bC rfl (k:=0) Tf.a3 rfl hA3 Yc rfl Yj rfl trivial<|Zy rfl<|aF ((wb,.cells (bP s pv cv hv lv mv bl bc yc yq).toArray 253 (0,0))::ν) rfl<|aF ((wb,.cells (bP s pv cv hv lv mv bl bc yc yq).toArray 253 (0,0))::ν++[]) (aJF _).symm<|eA (A:=[(wb,.cells (bP s pv cv hv lv mv bl bc yc yq).toArray 253 (0,0))]) (ν:=ν) (B:=[]) rfl rfl rfl rfl Yp (kB ha) (fun D7 hD7=>ER _ s.book.lines i ν _ ha Yd) rfl aOJ (fun v7 D8 ν7 hD8 hp7=>aF ((wb,.cells (bP s pv cv hv lv mv bl bc yc yq).toArray 253 (0,0))::ν7) (aJF _)<|Zaf rfl<|Zi rfl Tf.f253_0 rfl<|Zi rfl Tf.f42_2 rfl<|Zi rfl Tf.f36_3 rfl<|aY (ws:=(bP s pv cv hv lv mv v7 bc yc yq)) rfl rfl rfl hp7.cells1 Tf.s33 .head Ye rfl hp7.cell1 trivial<|Zab ?_);refine fun a w hh=>dC (P:=Tryz.prog) (fn:=Tryz.f184) (A:=[]) (ν':=((wb,_)::ν7)) (B:=[]) (vs:=[]) rfl rfl rfl aOJ (fun D' hD=>⟨hf5,v7,ν7,rfl,hp7⟩) a w (hh.boxesEq (aJF _).symm)
theorem AA(wb:Nat)(s:aI)(pv cv hv lv mv bl bc yc yq nv:Value)(a:Int)(ν:aC)(D:aA)(hn:Sl D RI 1 nv [a])(ha:bL 133 2 yq s.yard.claims.length (s.yard.claims.flatMap cP) ν)(hsm:s.yard.claims.length≤100)(ha0:0≤a):jK Tryz.prog 189 [.pointer (some ⟨wb,0,none⟩),nv] D ((wb,.cells (bP s pv cv hv lv mv bl bc yc yq).toArray 253 (0,0))::ν) (fun _ _ ν'=>a<(s.yard.claims.length:Int)∧∃v1 ν1,ν'=(wb,.cells (bP s pv cv hv lv mv bl bc yc v1).toArray 253 (0,0))::ν1∧bL 133 2 v1 (s.yard.claims.length-1) ((s.yard.claims.eraseIdx a.toNat).flatMap cP) ν1) (fun v=>(s.yard.claims.length:Int)≤a∧v=dU 7):=by
 obtain⟨bt,ot,ct,rfl⟩:=iB hn Ye;obtain⟨i,rfl⟩:∃i:Nat,a=(i:Int):=⟨a.toNat,by omega⟩
 have hbt:=kJ hn;refine dL 34 Tryz.func189 rfl rfl rfl rfl (fun h0 hwl hwn=>aM<|C.drawPA [] 7 11 1016 (fun _ _ _ _ he h=>cX (P:=Tryz.prog) (fn:=Tryz.f189) _ _ _ _ he h)<|Za rfl<|aO rfl U25 Tf.s3 rfl hn rfl Yd rfl rfl aOJ (fun cs1 hr1 hcl1 hA1=>?_));obtain rfl:cs1=[.int .i64 _]:=hr1;refine Zf 0 rfl Tf.a3 rfl hA1 rfl<|Za rfl<|Zaf rfl<|Zi rfl Tf.f253_0 rfl<|Zi rfl Tf.f42_3 rfl<|Zi rfl Tf.f40_2 rfl<|Zl rfl Tf.a38 rfl (List.Mem.head _) rfl<|dS rfl U38 rfl ha rfl rfl trivial<|Zc [(_,_)] ν [] rfl (Or.inr (fun p hp=>by cases hp)) (fun p hp=>by cases hp) (fun D5 hD5=>iH (i:Int) (s.yard.claims.length:Int) _) (fun v5 D6 hD5 hp5=>bX (P:=Tryz.prog) (fn:=Tryz.f189) rfl ⟨hp5.1,hp5.2⟩) (fun v5 D6 ν5 hD5 hp5=>?_);obtain⟨hf5,rfl⟩:=hp5;refine L.n1<|iS hbt Ye (fun hap=>rZ (fun hnd=>?_));have hnu:=jY hap hnd;have hwbo:wb∉dO.mk [bt,wb]:=dO.out Ye;have hbto:bt∉dO.mk [bt,wb]:=dO.out Ye;refine C.drawPA (dO.mk [bt,wb]) 4 20 32766 (fun _ _ _ _ he h=>cX (P:=Tryz.prog) (fn:=Tryz.f189) _ _ _ _ he h)<|Za rfl<|Za rfl<|Zaf rfl<|Zi rfl Tf.f253_0 rfl<|Zi rfl Tf.f42_3 rfl<|Zi rfl Tf.f40_2 rfl<|aS rfl Tf.a38 rfl (List.Mem.head _) rfl Yj rfl trivial<|Za rfl<|aO rfl U25 Tf.s3 rfl hn rfl Yd rfl rfl aOJ (fun cs2 hr2 hcl2 hA2=>?_);obtain rfl:cs2=[.int .i64 _]:=hr2;refine bC rfl (k:=0) Tf.a3 rfl hA2 Yc rfl Yj rfl trivial<|Za rfl<|aO rfl U25 Tf.s3 rfl hn rfl Yd rfl rfl aOJ (fun cs3 hr3 hcl3 hA3=>?_);obtain rfl:cs3=[.int .i64 _]:=hr3;refine bC rfl (k:=0) Tf.a3 rfl hA3 Yc rfl Yj rfl trivial<|Zy rfl<|aF ((wb,.cells (bP s pv cv hv lv mv bl bc yc yq).toArray 253 (0,0))::ν) rfl<|aF ((wb,.cells (bP s pv cv hv lv mv bl bc yc yq).toArray 253 (0,0))::ν++[]) (aJF _).symm<|eA (A:=[(wb,.cells (bP s pv cv hv lv mv bl bc yc yq).toArray 253 (0,0))]) (ν:=ν) (B:=[]) rfl rfl rfl rfl Yp (kB ha) (fun D7 hD7=>GY _ s.yard.claims i ν _ ha Yd) rfl aOJ (fun v7 D8 ν7 hD8 hp7=>aF ((wb,.cells (bP s pv cv hv lv mv bl bc yc yq).toArray 253 (0,0))::ν7) (aJF _)<|Zaf rfl<|Zi rfl Tf.f253_0 rfl<|Zi rfl Tf.f42_3 rfl<|Zi rfl Tf.f40_2 rfl<|aY (ws:=(bP s pv cv hv lv mv bl bc yc v7)) rfl rfl rfl hp7.cells1 Tf.s38 .head Ye rfl hp7.cell1 trivial<|Zab ?_);refine fun a w hh=>dC (P:=Tryz.prog) (fn:=Tryz.f189) (A:=[]) (ν':=((wb,_)::ν7)) (B:=[]) (vs:=[]) rfl rfl rfl aOJ (fun D' hD=>⟨hf5,v7,ν7,rfl,hp7⟩) a w (hh.boxesEq (aJF _).symm)
end L12
end Go.Fs
namespace Go.Fs
open Go.Proofs
namespace L12
open C12
theorem aEO{D:aA}{bt ot n ct:Nat}{a b c d:Int}(h:Sl D RI 1 (.slice (some ⟨bt,ot,none⟩) n ct) [a,b,c,d]):At D bt (ot+1) [.int .i64 b,.int .i64 c,.int .i64 d]:=by
  obtain⟨x,cap,hv,h1,h2,h3⟩:=h;cases hv;rcases h3 with h3|⟨b',o,ha,h3⟩
  · cases h3
  · cases ha;intro j v hj;have key:∀(i:Nat) (z:Int),[a,b,c,d][i]?= some z→(D bt)[ot+i]?= some (.int .i64 z):=fun i z hi=>by
      obtain⟨cs,hr,hc,hA⟩:=h3 i z hi;obtain rfl:cs=[.int .i64 z]:=hr;have:=hA 0 _ rfl;simpa using this
    match j with
    | 0 => obtain rfl : Value.int .i64 b = v := by simpa using hj
           exact key 1 b rfl
    | 1 => obtain rfl : Value.int .i64 c = v := by simpa using hj
           exact key 2 c rfl
    | 2 => obtain rfl : Value.int .i64 d = v := by simpa using hj
           exact key 3 d rfl
    |j+3=>simp at hj
theorem FU(wb:Nat)(s:aI)(pv cv hv lv mv bl bc yc yq nv:Value)(a b c d:Int)(ν:aC)(D:aA)(hn:Sl D RI 1 nv [a,b,c,d])(ha:bL 103 4 yc s.yard.chairs.length (s.yard.chairs.flatMap cH) ν)(hsm:s.yard.chairs.length≤100):jK Tryz.prog 185 [.pointer (some ⟨wb,0,none⟩),nv] D ((wb,.cells (bP s pv cv hv lv mv bl bc yc yq).toArray 253 (0,0))::ν) (fun _ _ ν'=>((a≤9∧max (max b c) d≤2)∧(s.yard.chairs.length:Int)<5)∧∃v1 ν1,ν'=(wb,.cells (bP s pv cv hv lv mv bl bc v1 yq).toArray 253 (0,0))::ν1∧bL 103 4 v1 (s.yard.chairs.length+1) ((s.yard.chairs++[(⟨a,⟨b,c,d⟩⟩:C7.Ch)]).flatMap cH) ν1) (fun v=>((9<a∨2<max (max b c) d)∧v=dU 2)∨((a≤9∧max (max b c) d≤2)∧5≤(s.yard.chairs.length:Int)∧v=dU 3)):=by
 obtain⟨bt,ot,ct,rfl⟩:=iB hn Ye;have hbt:=kJ hn;refine dL 43 Tryz.func185 rfl rfl rfl rfl (fun h0 hwl hwn=>aM<|C.drawPA [] 5 10 240 (fun _ _ _ _ he h=>cX (P:=Tryz.prog) (fn:=Tryz.f185) _ _ _ _ he h)<|Za rfl<|aO rfl U25 Tf.s3 rfl hn rfl Yd rfl rfl aOJ (fun cs1 hr1 hcl1 hA1=>?_));obtain rfl:cs1=[.int .i64 _]:=hr1;refine Zf 0 rfl Tf.a3 rfl hA1 rfl<|eB rfl rfl rfl rfl trivial<|Za rfl<|BE (j:=1) rfl U25 Tf.s3 rfl hn rfl Ye rfl aOJ (fun hsT=>Zd rfl (fun D3 hD3=>L2.SV _ b [c,d] _ (hsT.up RI.up (hD3 _ Ye)))<|eB rfl rfl rfl rfl trivial<|Zp rfl U327 Tf.s4 Tf.z4 rfl rfl rfl rfl (.cons rfl rfl (.cons rfl rfl .nil)) (fun b901 D901 hD901 hA901=>Zc [(_,_)] ν [] rfl (aJE (fun p hp=>by cases hp)) (fun p hp=>by cases hp) (fun D5 hD5=>dY 2 [decide (9<a),decide (2<max (max b c) d)] _ _ ((fI (l:=[decide (9<a),decide (2<max (max b c) d)]) (fun _ _ _ h=>h) hA901 Ye).up RB.up (hD5 _ Ye))) (fun v5 D6 hD5 hp5=>bX (P:=Tryz.prog) (fn:=Tryz.f185) rfl (aJQ ⟨by simpa only[List.any_cons,List.any_nil,Bool.or_false,Bool.true_beq,aKS,aJV]using hp5.1,hp5.2⟩)) (fun v5 D6 ν5 hD5 hp5=>?_)));obtain⟨hf50,rfl⟩:=hp5;have hf5:a≤9∧max (max b c) d≤2:=by simp only[List.any_cons,List.any_nil,Bool.or_false,Bool.true_beq,aMK,aLY,Int.not_lt]at hf50;exact hf50
 refine L.n3<|Za rfl<|Zaf rfl<|Zi rfl Tf.f253_0 rfl<|Zi rfl Tf.f42_3 rfl<|Zi rfl Tf.f40_0 rfl<|Zl rfl Tf.a37 rfl (List.Mem.head _) rfl<|dS rfl U37 rfl ha rfl rfl trivial<|Zc [(_,_)] ν [] rfl (Or.inr (fun p hp=>by cases hp)) (fun p hp=>by cases hp) (fun D7 hD7=>rR (s.yard.chairs.length:Int) 5 _) (fun v7 D8 hD7 hp7=>bX (P:=Tryz.prog) (fn:=Tryz.f185) rfl (aJE ⟨hf5,hp7.1,hp7.2⟩)) (fun v7 D8 ν7 hD7 hp7=>?_);obtain⟨hf7,rfl⟩:=hp7;refine L.n1<|iS hbt Ye (fun hap=>rZ (fun hnd=>?_));have hnu:=jY hap hnd;have hwbo:wb∉dO.mk [bt,wb]:=dO.out Ye;have hbto:bt∉dO.mk [bt,wb]:=dO.out Ye;refine C.drawPA (dO.mk [bt,wb]) 4 22 131070 (fun _ _ _ _ he h=>cX (P:=Tryz.prog) (fn:=Tryz.f185) _ _ _ _ he h)<|Za rfl<|Za rfl<|Zaf rfl<|Zi rfl Tf.f253_0 rfl<|Zi rfl Tf.f42_3 rfl<|Zi rfl Tf.f40_0 rfl<|aS rfl Tf.a37 rfl (List.Mem.head _) rfl Yj rfl trivial<|Za rfl<|aO rfl U25 Tf.s3 rfl hn rfl Yd rfl rfl aOJ (fun cs2 hr2 hcl2 hA2=>?_);obtain rfl:cs2=[.int .i64 _]:=hr2;refine bC rfl (k:=0) Tf.a3 rfl hA2 Yc rfl Yj rfl trivial<|Za rfl<|BE (j:=1) rfl U25 Tf.s3 rfl hn rfl Ye rfl aOJ (fun hsU=>p9 rfl U101 rfl Ye rfl trivial<|cQ rfl Tf.a101 rfl (aEO hn) Ye Tf.s101 hbto rfl trivial<|Zq [.int .i64 a,.int .i64 b,.int .i64 c,.int .i64 d] rfl Tf.p103 Tf.z103 rfl rfl<|Zp rfl U37 Tf.s103 Tf.z103 rfl rfl rfl rfl (.cons rfl rfl .nil) (fun b902 D902 hD902 hA902=>aF ((wb,.cells (bP s pv cv hv lv mv bl bc yc yq).toArray 253 (0,0))::ν) rfl<|aF ((wb,.cells (bP s pv cv hv lv mv bl bc yc yq).toArray 253 (0,0))::ν++[]) (aJF _).symm<|aU (A:=[(wb,.cells (bP s pv cv hv lv mv bl bc yc yq).toArray 253 (0,0))]) (B:=[]) rfl U37 rfl rfl Tf.s103 Tf.z103 rfl Tf.i103 rfl rfl rfl ha (jE.lit hA902) Ye rfl (bK (n:=4) (fun _=>rfl) _) Yi Yd Yp rfl aOJ (fun v1 ν1 ha1=>aF ((wb,.cells (bP s pv cv hv lv mv bl bc yc yq).toArray 253 (0,0))::ν1) (aJF _) ?_)));have ha2:bL 103 4 v1 (s.yard.chairs.length+1) ((s.yard.chairs++[(⟨a,⟨b,c,d⟩⟩:C7.Ch)]).flatMap cH) ν1:=by rw[aKE,aKV];exact ha1
 refine Zaf rfl<|Zi rfl Tf.f253_0 rfl<|Zi rfl Tf.f42_3 rfl<|Zi rfl Tf.f40_0 rfl<|aY (ws:=(bP s pv cv hv lv mv bl bc v1 yq)) rfl rfl rfl ha1.cells1 Tf.s37 .head Ye rfl ha1.cell1 trivial<|Zab ?_;refine fun a w hh=>dC (P:=Tryz.prog) (fn:=Tryz.f185) (A:=[]) (ν':=((wb,_)::ν1)) (B:=[]) (vs:=[]) rfl rfl rfl aOJ (fun D' hD=>⟨⟨hf5,hf7⟩,v1,ν1,rfl,ha2⟩) a w (hh.boxesEq (aJF _).symm)
end L12
end Go.Fs
namespace Go.Fs
variable{P:Program}{X:Cx}{γb:Type}[Membership Nat γb]{bad:γb}{all:Array Oper}{K:Act→World→Prop}{Q:Exit→Act→World→Prop}
variable{σ:bS}{μ:aC}{Ds:List aA}{os:List (Bool×Nat)}{fl:Bool}{ix:Nat}
variable{d:Nat}{x y z:Operand}{u v:Value}{ty:TypeId}{pos:String}{aft:Array Edge}{g:Option (Nat×Bool)}
def PS(es:Array MapEntry)(M:List (ByteArray×Value)):Prop:=es.toList.map (fun e=>(e.key,e.val))=M.map fun p=>(Value.string p.1,p.2)
def yM(s:ByteArray):List (ByteArray×Value)→Nat→Option (Nat×Value)
 | [],_=>none
 |(b,v)::M,i=>if(s==b)=true then some (i,v)else yM s M (i+1)
theorem A6(s:ByteArray):∀(es:List MapEntry) (M:List (ByteArray×Value)) (i:Nat),es.map (fun e=>(e.key,e.val))=M.map (fun p=>(Value.string p.1,p.2))→Instr.findNow .string (.string s) es i=some (yM s M i)
 | [],[],i,_=>rfl
 | [],_::_,i,h=>by simp at h
 |_::_,[],i,h=>by simp at h
 |e::es,(b,v)::M,i,h=>by
  simp only[aJY,aLN,aMW]at h;obtain⟨⟨hk,hv⟩,h⟩:=h;simp only[Instr.findNow,hk,Instr.sameNow,yM];cases hb:s==b with
  |true=>simp[hv]
  |false=>simpa using A6 s es M (i+1) h
theorem rV{k:TypeId}(ht:P.underlying k=some .string)(s:ByteArray)(w:World){es:List MapEntry}{M:List (ByteArray×Value)}(h:es.map (fun e=>(e.key,e.val))=M.map (fun p=>(Value.string p.1,p.2))):(Instr.findKey k (.string s) es).run P w=.ok (yM s M 0) w:=by
 unfold Instr.findKey;rw[Sem.run_bind,TU.of ht w];simp only[Result.andThen_ok,A6 s es M 0 h,Sem.run_pure]
theorem qK{k:TypeId}(ht:P.underlying k=some .string)(em:Bool)(s:ByteArray)(w:World):(Instr.checkKey em 10000 k (.string s)).run P w=.ok () w:=by
 show(Instr.checkKey em (9999+1) k (.string s)).run P w=_;rw[Instr.checkKey,Sem.run_bind,TU.of ht w];rfl
def UL(s:ByteArray)(M:List (ByteArray×Value))(z0:Value):Value:=match yM s M 0 with
 |some (_,v)=>v
 |none=>z0
theorem A9{t k e:TypeId}{b clock:Nat}{es:Array MapEntry}{M:List (ByteArray×Value)}{s:ByteArray}(ho:all[ix]?= some ⟨some d,.lookup t x y true,ty,pos,aft,g⟩)(ht:P.underlying t=some (.map k e))(hk:P.underlying k=some .string){z0:Value}(hz:TZ P e z0)
  (hx:ev σ x=some (.map (some b))) (hy:ev σ y=some (.string s)) (hm:(b,Obj.map es clock)∈μ) (hb:b∉bad) (hM:PS es M) (hN:Nat.blt d X.N=true) (hg:cT all σ g)
  (kk:WL P X bad all K Q os ((d,.tuple #[UL s M z0,.bool (yM s M 0).isSome])::σ) μ Ds):WL P X bad all K Q ((fl,ix)::os) σ μ Ds:=by
 have run:∀w,w.heap[b]?= some (Obj.map es clock)→(Instr.lookup t (.map (some b)) (.string s) true).run P w=.ok (.tuple #[UL s M z0,.bool (yM s M 0).isSome]) w:=by
  intro w hw;unfold UL;have hf:=rV hk s w hM;unfold Instr.lookup;simp only[Sem.run_bind,TU.of ht w,Result.andThen_ok,gR hw,Sem.run_pure,qK hk];rw[hf];cases yM s M 0 with
  |none=>simp only[Result.andThen_ok,Sem.run_bind,hz w,Sem.run_pure];rfl
  |some r=>obtain⟨j,v⟩:=r;simp only[Result.andThen_ok];rfl
 refine jL ho rfl rfl hN hg (fun a' w hh w' hk'=>?_) kk;simp only[execOp,hh.eval hx,hh.eval hy,Sem.run_bind,run w' (hh.boxAt hm hb hk'),Result.andThen_ok,Sem.run_pure]
theorem bU{t k e:TypeId}{b clock:Nat}{es:Array MapEntry}{M:List (ByteArray×Value)}{s:ByteArray}{A B:aC}(ho:all[ix]?= some ⟨none,.insert t x y z,ty,pos,aft,g⟩)(ht:P.underlying t=some (.map k e))(hk:P.underlying k=some .string)
  (hx:ev σ x=some (.map (some b))) (hy:ev σ y=some (.string s)) (hz:ev σ z=some v) (hM:PS es M) (hnew:yM s M 0=none) (hg:cT all σ g)
  (kk:∀es' clock',PS es' (M++[(s,v)])→WL P X bad all K Q os σ (A++(b,.map es' clock')::B) Ds):WL P X bad all K Q ((false,ix)::os) σ (A++(b,.map es clock)::B) Ds:=by
 refine dI ho rfl rfl hg fun a' w hh=>?_
 obtain⟨h1,h2,h3,D,h4,h5,h6⟩:=id hh;have hw:=(h4.box (b,.map es clock) Ye).1;have hf:=rV hk s w hM;have hset:∀o,(setObj b o).run P w=.ok () {w with heap:=w.heap.setIfInBounds b o}:=fun o=>by simp[setObj,Sem.run,hw]
 have hr:(Instr.mapUpdate t (.map (some b)) (.string s) v).run P w=.ok () {w with heap:=w.heap.setIfInBounds b (.map (es.push {key:=.string s,val:=v,born:=clock}) (clock+1))}:=by
  unfold Instr.mapUpdate;simp only[Sem.run_bind,TU.of ht w,Result.andThen_ok,gR hw,qK hk];rw[hf,hnew];simp only[Result.andThen_ok,hset]
 have hHas:bM (A++(b,Obj.map es clock)::B) b (.map es clock) (.map (es.push {key:=.string s,val:=v,born:=clock}) (clock+1)) (A++(b,.map (es.push {key:=.string s,val:=v,born:=clock}) (clock+1))::B):=.app .head;have hs:=h4.set (w':={w with heap:=w.heap.setIfInBounds b (.map (es.push {key:=.string s,val:=v,born:=clock}) (clock+1))}) hHas ⟨rfl,rfl⟩ trivial;have:(execOp a'.eval ⟨none,.insert t x y z,ty,pos,aft,g⟩).run P w=.ok .skip {w with heap:=w.heap.setIfInBounds b (.map (es.push {key:=.string s,val:=v,born:=clock}) (clock+1))}:=by
  simp only[execOp,hh.eval hx,hh.eval hy,hh.eval hz,Sem.run_bind,hr,Result.andThen_ok,Sem.run_pure]
 rw[this];refine⟨fun h=>by simp at h,kk _ _ ?_ _ _ ⟨h1,h2,h3,D,hs,h5,h6.step (fun _ p hp=>aJQ Yq) (fun _=>gM ⟨rfl,rfl⟩ (aIY.2 ⟨_,hHas.mem,rfl⟩)) hs.dom⟩⟩;unfold PS at hM ⊢
 rw[Array.toList_push,aJN,aJN,hM];rfl
theorem Fn.of_alloc{f:FuncId}{args:Array Value}{D:aA}{cs:List Value}{e:TypeId}{r:Nat→Value}{post:aA→Value→Prop}(hEF:EF P f)
  (h:∀w,dM D w→Calls P f args w fun en w'=>en=.returned (r w.heap.size)∧w'=w.alloc (.cells cs.toArray e (0,0))) (hp:∀D' b,Le D D'→At D' b 0 cs→post D' (r b)):Fn P f args D post:=by
 refine⟨hEF,fun w hw=>(h w hw).mono ?_⟩;rintro en w' ⟨he,rfl⟩;have hst:fP (hd w) w.heap.size D [] [] D w:=⟨aJU _,aJU _,(fun _ _ _=>rfl),(fun _ _=>rfl),hw,(fun p hp=>by cases hp),aLI,(fun p hp=>by cases hp),fun e he=>aJZ he⟩
 obtain⟨D',hle,hb, -,hs⟩:=hst.pushD cs e;have hA:At D' w.heap.size 0 cs:=fun j v hv=>by rw[hb];simpa using hv
 exact⟨_,D',he,hs,hp D' _ hle hA⟩
end Go.Fs
namespace Go.Fs
open Go.Proofs
namespace L12
open C12
def o6:List (ByteArray×Value):=[(⟨#[112,108,97,99,101]⟩,.agg #[.int .i64 0,.func (.func 168) #[] #[]]),(⟨#[115,101,101,110]⟩,.agg #[.int .i64 2,.func (.func 169) #[] #[]]),(⟨#[99,111,117,110,116]⟩,.agg #[.int .i64 2,.func (.func 170) #[] #[]]),(⟨#[98,97,99,107]⟩,.agg #[.int .i64 2,.func (.func 171) #[] #[]]),(⟨#[117,110,99,111,117,110,116]⟩,.agg #[.int .i64 1,.func (.func 172) #[] #[]]),(⟨#[119,114,111,110,103]⟩,.agg #[.int .i64 1,.func (.func 173) #[] #[]]),(⟨#[111,102,102]⟩,.agg #[.int .i64 1,.func (.func 174) #[] #[]]),(⟨#[116,105,100,101]⟩,.agg #[.int .i64 3,.func (.func 175) #[] #[]]),(⟨#[115,116,101,112]⟩,.agg #[.int .i64 1,.func (.func 176) #[] #[]]),(⟨#[108,101,118,101,108]⟩,.agg #[.int .i64 1,.func (.func 177) #[] #[]]),(⟨#[114,97,105,115,101]⟩,.agg #[.int .i64 2,.func (.func 178) #[] #[]]),(⟨#[109,97,114,107]⟩,.agg #[.int .i64 4,.func (.func 179) #[] #[]]),(⟨#[117,110,109,97,114,107]⟩,.agg #[.int .i64 1,.func (.func 180) #[] #[]]),(⟨#[104,105,114,101]⟩,.agg #[.int .i64 2,.func (.func 181) #[] #[]]),(⟨#[98,114,105,110,103]⟩,.agg #[.int .i64 2,.func (.func 182) #[] #[]]),(⟨#[115,109,117,100,103,101]⟩,.agg #[.int .i64 1,.func (.func 183) #[] #[]]),(⟨#[115,116,114,105,107,101]⟩,.agg #[.int .i64 1,.func (.func 184) #[] #[]]),(⟨#[98,114,111,107,101,110]⟩,.agg #[.int .i64 4,.func (.func 185) #[] #[]]),(⟨#[112,97,114,116]⟩,.agg #[.int .i64 3,.func (.func 186) #[] #[]]),(⟨#[102,105,116]⟩,.agg #[.int .i64 1,.func (.func 187) #[] #[]]),(⟨#[99,108,97,105,109]⟩,.agg #[.int .i64 2,.func (.func 188) #[] #[]]),(⟨#[117,110,99,108,97,105,109]⟩,.agg #[.int .i64 1,.func (.func 189) #[] #[]])]
theorem y4(D:aA):CN Tryz.prog 112 #[] D (fun _ v ν=>∃b es cl,v=.map (some b)∧ν=[(b,.map es cl)]∧PS es o6):=by
 refine mT 25 Tryz.func112 rfl rfl rfl rfl fun h0=>C.s1<|Zh rfl<|L.n3<|pN rfl rfl aOJ (fun qm=>?_)
 have hM0:PS #[] []:=rfl;refine Zq [.int .i64 0,.func (.func 168) #[] #[]] rfl Tf.p244 Tf.z244 rfl rfl<|bU (A:=[]) (B:=[]) rfl U246 U9 rfl rfl rfl hM0 Yg aOJ (fun es1 cl1 hM1=>Zq [.int .i64 2,.func (.func 169) #[] #[]] rfl Tf.p244 Tf.z244 rfl rfl<|bU (A:=[]) (B:=[]) rfl U246 U9 rfl rfl rfl hM1 Yg aOJ (fun es2 cl2 hM2=>Zq [.int .i64 2,.func (.func 170) #[] #[]] rfl Tf.p244 Tf.z244 rfl rfl<|bU (A:=[]) (B:=[]) rfl U246 U9 rfl rfl rfl hM2 Yg aOJ (fun es3 cl3 hM3=>Zq [.int .i64 2,.func (.func 171) #[] #[]] rfl Tf.p244 Tf.z244 rfl rfl<|bU (A:=[]) (B:=[]) rfl U246 U9 rfl rfl rfl hM3 Yg aOJ (fun es4 cl4 hM4=>Zq [.int .i64 1,.func (.func 172) #[] #[]] rfl Tf.p244 Tf.z244 rfl rfl<|bU (A:=[]) (B:=[]) rfl U246 U9 rfl rfl rfl hM4 Yg aOJ (fun es5 cl5 hM5=>Zq [.int .i64 1,.func (.func 173) #[] #[]] rfl Tf.p244 Tf.z244 rfl rfl<|bU (A:=[]) (B:=[]) rfl U246 U9 rfl rfl rfl hM5 Yg aOJ (fun es6 cl6 hM6=>?_))))));refine Zq [.int .i64 1,.func (.func 174) #[] #[]] rfl Tf.p244 Tf.z244 rfl rfl<|bU (A:=[]) (B:=[]) rfl U246 U9 rfl rfl rfl hM6 Yg aOJ (fun es7 cl7 hM7=>Zq [.int .i64 3,.func (.func 175) #[] #[]] rfl Tf.p244 Tf.z244 rfl rfl<|bU (A:=[]) (B:=[]) rfl U246 U9 rfl rfl rfl hM7 Yg aOJ (fun es8 cl8 hM8=>Zq [.int .i64 1,.func (.func 176) #[] #[]] rfl Tf.p244 Tf.z244 rfl rfl<|bU (A:=[]) (B:=[]) rfl U246 U9 rfl rfl rfl hM8 Yg aOJ (fun es9 cl9 hM9=>Zq [.int .i64 1,.func (.func 177) #[] #[]] rfl Tf.p244 Tf.z244 rfl rfl<|bU (A:=[]) (B:=[]) rfl U246 U9 rfl rfl rfl hM9 Yg aOJ (fun es10 cl10 hM10=>Zq [.int .i64 2,.func (.func 178) #[] #[]] rfl Tf.p244 Tf.z244 rfl rfl<|bU (A:=[]) (B:=[]) rfl U246 U9 rfl rfl rfl hM10 Yg aOJ (fun es11 cl11 hM11=>Zq [.int .i64 4,.func (.func 179) #[] #[]] rfl Tf.p244 Tf.z244 rfl rfl<|bU (A:=[]) (B:=[]) rfl U246 U9 rfl rfl rfl hM11 Yg aOJ (fun es12 cl12 hM12=>?_))))));refine Zq [.int .i64 1,.func (.func 180) #[] #[]] rfl Tf.p244 Tf.z244 rfl rfl<|bU (A:=[]) (B:=[]) rfl U246 U9 rfl rfl rfl hM12 Yg aOJ (fun es13 cl13 hM13=>Zq [.int .i64 2,.func (.func 181) #[] #[]] rfl Tf.p244 Tf.z244 rfl rfl<|bU (A:=[]) (B:=[]) rfl U246 U9 rfl rfl rfl hM13 Yg aOJ (fun es14 cl14 hM14=>Zq [.int .i64 2,.func (.func 182) #[] #[]] rfl Tf.p244 Tf.z244 rfl rfl<|bU (A:=[]) (B:=[]) rfl U246 U9 rfl rfl rfl hM14 Yg aOJ (fun es15 cl15 hM15=>Zq [.int .i64 1,.func (.func 183) #[] #[]] rfl Tf.p244 Tf.z244 rfl rfl<|bU (A:=[]) (B:=[]) rfl U246 U9 rfl rfl rfl hM15 Yg aOJ (fun es16 cl16 hM16=>Zq [.int .i64 1,.func (.func 184) #[] #[]] rfl Tf.p244 Tf.z244 rfl rfl<|bU (A:=[]) (B:=[]) rfl U246 U9 rfl rfl rfl hM16 Yg aOJ (fun es17 cl17 hM17=>Zq [.int .i64 4,.func (.func 185) #[] #[]] rfl Tf.p244 Tf.z244 rfl rfl<|bU (A:=[]) (B:=[]) rfl U246 U9 rfl rfl rfl hM17 Yg aOJ (fun es18 cl18 hM18=>?_))))));refine Zq [.int .i64 3,.func (.func 186) #[] #[]] rfl Tf.p244 Tf.z244 rfl rfl<|bU (A:=[]) (B:=[]) rfl U246 U9 rfl rfl rfl hM18 Yg aOJ (fun es19 cl19 hM19=>Zq [.int .i64 1,.func (.func 187) #[] #[]] rfl Tf.p244 Tf.z244 rfl rfl<|bU (A:=[]) (B:=[]) rfl U246 U9 rfl rfl rfl hM19 Yg aOJ (fun es20 cl20 hM20=>Zq [.int .i64 2,.func (.func 188) #[] #[]] rfl Tf.p244 Tf.z244 rfl rfl<|bU (A:=[]) (B:=[]) rfl U246 U9 rfl rfl rfl hM20 Yg aOJ (fun es21 cl21 hM21=>Zq [.int .i64 1,.func (.func 189) #[] #[]] rfl Tf.p244 Tf.z244 rfl rfl<|bU (A:=[]) (B:=[]) rfl U246 U9 rfl rfl rfl hM21 Yg aOJ (fun es22 cl22 hM22=>Za rfl<|Zh rfl<|L.n5 ?_))));exact leave1 rfl rfl rfl rfl (fun D hD=>⟨qm,es22,cl22,rfl,rfl,hM22⟩)
end L12
end Go.Fs
namespace Go.Fs
namespace C12
abbrev fQ:=aI→List Int→Except Int aI
def setRow(s:aI)(r:C1.dK):aI:={s with row:=r}
def setTable(s:aI)(t:C2.aZ):aI:={s with table:=t}
def setBook(s:aI)(b:C3.aX):aI:={s with book:=b}
def setYard(s:aI)(y:C7.bI):aI:={s with yard:=y}
def JJ(p:C7.Pt)(i:Nat)(v:Int):C7.Pt:=if i=0 then {p with a:=v}else if i=1 then {p with b:=v}else {p with c:=v}
def yY:fQ:=fun s _=>if 7≤(s.row.places.length:Int)then .error 3 else .ok (setRow s {s.row with places:=s.row.places++[2]})
def I0:fQ:=fun s n=>match n with
 | [a,b]=>if(s.row.places.length:Int)≤a then .error 7 else if 2<b then .error 2 else .ok (setRow s {s.row with places:=s.row.places.set a.toNat b})
 |_=>.error 4
def mQ(back:Bool):fQ:=fun s n=>match n with
 | [a,b]=>if(s.row.places.length:Int)<a∨9<b then .error 2 else if 6≤(s.row.counts.length:Int)then .error 3 else .ok (setRow s {s.row with counts:=s.row.counts++[⟨back,a,b⟩]})
 |_=>.error 4
def pL:fQ:=fun s n=>match n with
 | [a]=>if(s.row.counts.length:Int)≤a then .error 7 else .ok (setRow s {s.row with counts:=s.row.counts.eraseIdx a.toNat})
 |_=>.error 4
def zI:fQ:=fun s n=>match n with
 | [a]=>if 6<a then .error 2 else .ok (setRow s {s.row with wrong:=a})
 |_=>.error 4
def NY:fQ:=fun s n=>match n with
 | [a]=>if 9<a then .error 2 else .ok (setRow s {s.row with off:=a})
 |_=>.error 4
def K9:fQ:=fun s n=>match n with
 | [a,b,c]=>if(s.table.heights.length:Int)≤a then .error 7 else if c<b∨99<c∨b+2<c then .error 2 else .ok (setTable s {s.table with heights:=s.table.heights.set a.toNat (b,c)})
 |_=>.error 4
def b7:fQ:=fun s n=>match n with
 | [a]=>if 99<a then .error 2 else .ok (setTable s {s.table with step:=a})
 |_=>.error 4
def vO:fQ:=fun s n=>match n with
 | [a]=>if 99<a then .error 2 else if 6≤(s.table.levels.length:Int)then .error 3 else .ok (setTable s {s.table with levels:=s.table.levels++[a]})
 |_=>.error 4
def vS:fQ:=fun s n=>match n with
 | [a,b]=>if(s.table.levels.length:Int)≤a then .error 7 else if 99<b then .error 2 else .ok (setTable s {s.table with levels:=s.table.levels.set a.toNat b})
 |_=>.error 4
def wK:fQ:=fun s n=>match n with
 | [a,b,c,d]=>if(s.table.heights.length:Int)≤max a b then .error 7 else if b<a then .error 2 else if d<c∨99<d then .error 2 else if 5≤(s.table.marks.length:Int)then .error 3 else .ok (setTable s {s.table with marks:=s.table.marks++[⟨a,b,c,d⟩]})
 |_=>.error 4
def uA:fQ:=fun s n=>match n with
 | [a]=>if(s.table.marks.length:Int)≤a then .error 7 else .ok (setTable s {s.table with marks:=s.table.marks.eraseIdx a.toNat})
 |_=>.error 4
def mV(kind:Int):fQ:=fun s n=>match n with
 | [a,b]=>if s.book.chairs≤max a b then .error 7 else if 8≤(s.book.lines.length:Int)then .error 3 else .ok (setBook s {s.book with lines:=s.book.lines++[⟨kind,a,b⟩]})
 |_=>.error 4
def rN:fQ:=fun s n=>match n with
 | [a]=>match s.book.lines[a.toNat]? with
  |none=>.error 7
  |some l=>if l.token= -1 then .error 6 else .ok (setBook s {s.book with lines:=s.book.lines.set a.toNat {l with token:= -1}})
 |_=>.error 4
def uB:fQ:=fun s n=>match n with
 | [a]=>if(s.book.lines.length:Int)≤a then .error 7 else .ok (setBook s {s.book with lines:=s.book.lines.eraseIdx a.toNat})
 |_=>.error 4
def rD:fQ:=fun s n=>match n with
 | [a,b,c,d]=>if 9<a∨2<max (max b c) d then .error 2 else if 5≤(s.yard.chairs.length:Int)then .error 3 else .ok (setYard s {s.yard with chairs:=s.yard.chairs++[⟨a,⟨b,c,d⟩⟩]})
 |_=>.error 4
def zQ:fQ:=fun s n=>match n with
 | [a,b,c]=>match s.yard.chairs[a.toNat]? with
  |none=>.error 7
  |some x=>if 3≤b then .error 7 else if 2<c then .error 2 else .ok (setYard s {s.yard with chairs:=s.yard.chairs.set a.toNat {x with parts:=JJ x.parts b.toNat c}})
 |_=>.error 4
def NS:fQ:=fun s n=>match n with
 | [a]=>if 9<a then .error 2 else .ok (setYard s {s.yard with fit:=a})
 |_=>.error 4
def vZ:fQ:=fun s n=>match n with
 | [a,b]=>if b<a∨7<b then .error 2 else if 5≤(s.yard.claims.length:Int)then .error 3 else .ok (setYard s {s.yard with claims:=s.yard.claims++[(a,b)]})
 |_=>.error 4
def pU:fQ:=fun s n=>match n with
 | [a]=>if(s.yard.claims.length:Int)≤a then .error 7 else .ok (setYard s {s.yard with claims:=s.yard.claims.eraseIdx a.toNat})
 |_=>.error 4
end C12
end Go.Fs
namespace Go.Fs
namespace C12
open Go.Lib
def kO:List UInt8→List (List UInt8)
 | []=>[[]]
 |b::l=>if b=32 then []::kO l else match kO l with
  | []=>[[b]]
  |p::ps=>(b::p)::ps
theorem ZT(l:List UInt8):kO l≠[]:=by
 cases l with
 |nil=>simp[kO]
 |cons b l=>unfold kO;split;simp;split<;>simp
theorem tT:∀{l:List UInt8},(32:UInt8)∉l→kO l=[l]
 | [],_=>rfl
 |b::l,h=>by
  simp only[aIW,not_or]at h;unfold kO;rw[aJM (fun e=>h.1 e.symm),tT h.2]
theorem wS:∀{l:List UInt8} {i:Nat},l[i]?= some 32→(32:UInt8)∉l.take i→kO l=l.take i::kO (l.drop (i+1))
 | [],i,h,_=>by simp at h
 |b::l,0,h,_=>by
  obtain rfl:b=32:=by simpa using h
  simp[kO]
 |b::l,i+1,h,hn=>by
  simp only[aNU,aIW,not_or]at hn;rw[kO,aJM (fun e=>hn.1 e.symm),wS Yai hn.2];simp
theorem uF{l:List UInt8}{i:Nat}{c:UInt8}:occAt l [c] i=true ↔ l[i]?= some c:=by
 unfold occAt;by_cases h:i<l.length
 ·rw[aLL h,aJC h];simp only[List.isPrefixOf,Bool.and_true,aNR,aOD];exact eq_comm
 ·rw[aKK Yd,aMG Yd];simp[List.isPrefixOf]
theorem BI:∀(n:Nat) (l:List UInt8),l.length≤n→splitK [32] 0 (count l [32]) l=kO l:=by
 intro n;induction n with
 |zero=>
  intro l hl;obtain rfl:l=[]:=aNY Yd;rfl
 |succ n ih=>
  intro l hl;rcases index_spec l [32]with⟨h1,h2⟩|⟨i,h1,h2,h3,h4⟩
  ·rw[count_miss h1];refine(tT fun hm=>?_).symm;obtain⟨i,hi⟩:=aMV.1 hm;have:=h2 i (by have:=(aJK.1 hi).1;omega)
   rw[uF.2 hi]at this;cases this
  ·have hi:=uF.1 h3;rw[count_hit Ye h1,Nat.add_comm 1,splitK,aJM (by rw[h1];simp),h1]
   have hdl:(l.drop (i+1)).length≤n:=by
    have:=(aJK.1 hi).1;rw[aLB];omega
   simp only[aKT,Nat.add_zero,aMM];rw[ih _ hdl];refine(wS hi fun hm=>?_).symm;obtain⟨j,hj⟩:=aMV.1 hm;have hjl:=(aJK.1 hj).1;rw[aKL]at hjl;rw[aMD Yd]at hj;have:=h4 j Yd;rw[uF.2 hj]at this;cases this
def t8(l:List UInt8):ByteArray:=⟨l.toArray⟩
theorem tD(s:ByteArray):t8 s.data.toList=s:=Go.WideShapes.bytes_inj rfl
def dA(s:ByteArray):List ByteArray:=(kO s.data.toList).map t8
theorem FV(s:ByteArray):splitB ⟨#[32]⟩ 0 (countB s ⟨#[32]⟩) s=dA s:=by
 have h:=splitB_data ⟨#[32]⟩ 0 (countB s ⟨#[32]⟩) s;have h2:splitK [32] 0 (count s.data.toList [32]) s.data.toList=kO s.data.toList:=BI _ _ (aJU _);have h3:(splitB ⟨#[32]⟩ 0 (countB s ⟨#[32]⟩) s).map (·.data.toList)=kO s.data.toList:=h.trans h2;unfold dA;rw[←h3,aNT];refine(List.map_id _).symm.trans (List.map_congr_left fun x _=>?_);exact(tD x).symm
theorem AG(s:ByteArray):countB s ⟨#[32]⟩+1=(dA s).length:=by
 have key:∀(n:Nat) (l:List UInt8),l.length≤n→count l [32]+1=(kO l).length:=by
  intro n;induction n with
  |zero=>intro l hl;obtain rfl:l=[]:=aNY Yd;rfl
  |succ n ih=>
   intro l hl;rcases index_spec l [32]with⟨h1,h2⟩|⟨i,h1,h2,h3,h4⟩
   ·rw[count_miss h1,tT fun hm=>?_]
    ·rfl
    ·obtain⟨i,hi⟩:=aMV.1 hm;have:=h2 i (by have:=(aJK.1 hi).1;omega)
     rw[uF.2 hi]at this;cases this
   ·have hi:=uF.1 h3;have hdl:(l.drop (i+1)).length≤n:=by
     have:=(aJK.1 hi).1;rw[aLB];omega
    rw[wS hi fun hm=>?_,aJD,←ih _ hdl,count_hit Ye h1]
    ·simp only[aMM];omega
    ·obtain⟨j,hj⟩:=aMV.1 hm;have hjl:=(aJK.1 hj).1;rw[aKL]at hjl;rw[aMD Yd]at hj;have:=h4 j Yd;rw[uF.2 hj]at this;cases this
 unfold dA;rw[aLA];exact key _ _ (aJU _)
theorem x3(l:List UInt8):(kO l).length≤l.length+1:=by
 induction l with
 |nil=>simp[kO]
 |cons b l ih=>
  unfold kO;split
  ·simp;omega
  ·split
   ·simp
   ·rename_i p ps e;rw[e]at ih;simpa using Nat.le_succ_of_le ih
theorem LV{l p:List UInt8}(h:p∈kO l):p.length≤l.length:=by
 induction l generalizing p with
 |nil=>simp[kO]at h;subst h;simp
 |cons b l ih=>
  unfold kO at h;split at h
  ·rcases aIW.1 h with rfl|h
   ·simp
   ·exact Nat.le_succ_of_le (ih h)
  ·split at h
   ·simp only[aJR]at h;subst h;simp
   ·rename_i q qs e;rcases aIW.1 h with rfl|h
    ·have:=ih (p:=q) (by rw[e];simp);simpa using this
    ·exact Nat.le_succ_of_le (ih (by rw[e];exact aJB _ h))

def lR(l:List UInt8):Option Int:=if l.length≤3∧(l.head?≠some 48∨l.length=1)then(decNat l).map fun(n:Nat)=>(n:Int)else none
def aAF(l:List UInt8):Option Int:=match atoiAll l with
 |.ok v=>if 0≤v∧l.length≤3∧itoa v=l then some v else none
 |_=>none
theorem pQ{b:UInt8}{d:Nat}(h:digitVal b=some d):d<10∧b=UInt8.ofNat (48+d):=by
 unfold digitVal at h;split at h
 ·cases h;refine⟨by omega,?_⟩;rw[show 48+(b.toNat-48)=b.toNat by omega];simp
 ·cases h
theorem d5{a b:Nat}(ha:a<256)(hb:b<256)(h:UInt8.ofNat a=UInt8.ofNat b):a=b:=by
 have:=aJS UInt8.toNat h;simp only[UInt8.toNat_ofNat']at this;omega
theorem NJ{u:Nat}(h:u<10):decDigits u=[UInt8.ofNat (48+u)]:=by rw[decDigits,dif_pos h]
theorem aEV{u:Nat}(h:10≤u)(h2:u<100):decDigits u=[UInt8.ofNat (48+u / 10),UInt8.ofNat (48+u%10)]:=by rw[decDigits,dif_neg Yd,NJ Yd];rfl
theorem aIQ{u:Nat}(h:100≤u)(h2:u<1000):decDigits u=[UInt8.ofNat (48+u / 10 / 10),UInt8.ofNat (48+u / 10%10),UInt8.ofNat (48+u%10)]:=by rw[decDigits,dif_neg Yd,aEV Yd Yd];rfl
theorem wQ(u:Nat):itoa (u:Int)=decDigits u:=by unfold itoa;rw[aJM Yd,aKT]
theorem MW{u:Nat}{b:UInt8}(h:b∈decDigits u):48≤b.toNat∧b.toNat≤57:=by
 induction u using Nat.strongRecOn with
 |_ u ih=>
  by_cases hu:u<10
  ·rw[NJ hu]at h;simp only[aJR]at h;subst h
   simp only[UInt8.toNat_ofNat'];omega
  ·rw[decDigits,dif_neg hu,aJO,aJR]at h;rcases h with h|h
   ·exact ih _ Yd h
   ·subst h;simp only[UInt8.toNat_ofNat'];omega
theorem HX(l:List UInt8):aAF l=lR l:=by
 unfold aAF lR;by_cases hl:l.length≤3
 ·rw[atoiAll_short l Yd];match l,hl with
  | [],_=>rfl
  |b::r,hl=>
   have hat:atoi (b::r)=if(b==45)=true then(decNat r).map fun(m:Nat)=> -(m:Int)else if(b==43)=true then(decNat r).map fun(m:Nat)=>(m:Int)else(decNat (b::r)).map fun(m:Nat)=>(m:Int):=rfl
   rw[hat];by_cases h45:b=45
   ·subst h45;have hd:decNat (45::r)=none:=by unfold decNat decFrom digitVal;simp
    rw[hd];simp only[beq_self_eq_true,aLH,aLF,ite_self];cases decNat r with
    |none=>rfl
    |some m=>
     simp only[aKJ,NumEnd.ofOption];rw[aJM];rintro⟨h1,h2,h3⟩;obtain rfl:m=0:=by omega
     have h4:itoa (-((0:Nat):Int))=[48]:=by rw[show(-((0:Nat):Int))=((0:Nat):Int) by omega,wQ,NJ Yd];rfl
     rw[h4]at h3;simp at h3
   ·rw[aJM (by simpa using h45)];by_cases h43:b=43
    ·subst h43;have hd:decNat (43::r)=none:=by unfold decNat decFrom digitVal;simp
     rw[hd];simp only[beq_self_eq_true,aLH,aLF,ite_self];cases decNat r with
     |none=>rfl
     |some m=>
      simp only[aKJ,NumEnd.ofOption];rw[aJM];rintro⟨h1,h2,h3⟩;rw[wQ]at h3;have:=MW (u:=m) (b:=43) (by rw[h3];simp)
      simp at this
    ·rw[aJM (by simpa using h43)];have hnone:decNat (b::r)=none→_:=fun h=>h
     cases hd:decNat (b::r)with
     |none=>simp only[aLF,ite_self];rfl
     |some m=>
      simp only[aKJ,NumEnd.ofOption];have key:(0≤(m:Int)∧(b::r).length≤3∧itoa (m:Int)=b::r) ↔ ((b::r).length≤3∧((b::r).head?≠some 48∨(b::r).length=1)):=by
       rw[wQ];unfold decNat at hd;match r,hl with
       | [],_=>
        simp only[List.isEmpty_cons,aKI,aLR,decFrom]at hd;cases h1:digitVal b with
        |none=>rw[h1]at hd;cases hd
        |some d1=>
         rw[h1]at hd;simp only[aOD]at hd;obtain⟨k1,rfl⟩:=pQ h1;obtain rfl:d1=m:=by omega
         rw[NJ k1];simp
       | [b2],_=>
        simp only[List.isEmpty_cons,aKI,aLR,decFrom]at hd;cases h1:digitVal b with
        |none=>rw[h1]at hd;cases hd
        |some d1=>
         cases h2:digitVal b2 with
         |none=>rw[h1,h2]at hd;cases hd
         |some d2=>
          rw[h1,h2]at hd;simp only[aOD]at hd;obtain⟨k1,rfl⟩:=pQ h1;obtain⟨k2,rfl⟩:=pQ h2;by_cases z:d1=0
          ·subst z;rw[NJ Yd];simp
          ·rw[aEV Yd Yd,show m / 10=d1 by omega,show m%10=d2 by omega];have:UInt8.ofNat d1≠0:=fun e=>z (d5 (a:=d1) (b:=0) Yd Yd e)
           simp[this]
       | [b2,b3],_=>
        simp only[List.isEmpty_cons,aKI,aLR,decFrom]at hd;cases h1:digitVal b with
        |none=>rw[h1]at hd;cases hd
        |some d1=>
         cases h2:digitVal b2 with
         |none=>rw[h1,h2]at hd;cases hd
         |some d2=>
          cases h3:digitVal b3 with
          |none=>rw[h1,h2,h3]at hd;cases hd
          |some d3=>
           rw[h1,h2,h3]at hd;simp only[aOD]at hd;obtain⟨k1,rfl⟩:=pQ h1;obtain⟨k2,rfl⟩:=pQ h2;obtain⟨k3,rfl⟩:=pQ h3;by_cases z:d1=0
           ·subst z;by_cases z2:m<10
            ·rw[NJ z2];simp
            ·rw[aEV Yd Yd];simp
           ·rw[aIQ Yd Yd,show m / 10 / 10=d1 by omega,show m / 10%10=d2 by omega,show m%10=d3 by omega];have:UInt8.ofNat d1≠0:=fun e=>z (d5 (a:=d1) (b:=0) Yd Yd e)
            simp[this]
      by_cases hk:(b::r).length≤3∧((b::r).head?≠some 48∨(b::r).length=1)
      ·rw[aJT hk,aJT (key.2 hk)]
      ·rw[aJM hk,aJM (fun h=>hk (key.1 h))]
 ·rw[aJM (fun h=>hl h.1)];split
  ·rw[aJM (fun h=>hl h.2.1)]
  ·rfl
theorem HL{l:List UInt8}{n:Int}(h:lR l=some n):0≤n∧n≤999∧itoa n=l:=by
 have h2:=h;rw[←HX]at h2;unfold aAF at h2;split at h2
 ·split at h2
  ·rename_i v _ hc;cases h2;refine⟨hc.1,?_,hc.2.2⟩;by_cases hb:n≤999
   ·exact hb
   ·exfalso
    obtain⟨u,rfl⟩:∃u:Nat,n=(u:Int):=⟨n.toNat,by omega⟩
    have h3:=hc.2.2;rw[wQ]at h3;have h4:4≤(decDigits u).length:=by
     rw[decDigits,dif_neg Yd,decDigits,dif_neg Yd,decDigits,dif_neg Yd,decDigits];split<;>simp
    rw[h3]at h4;omega
  ·cases h2
 ·cases h2

def lU:List (List UInt8×Nat×fQ):=[
 ([112,108,97,99,101],0,yY),
 ([115,101,101,110],2,I0),
 ([99,111,117,110,116],2,mQ false),
 ([98,97,99,107],2,mQ true),
 ([117,110,99,111,117,110,116],1,pL),
 ([119,114,111,110,103],1,zI),
 ([111,102,102],1,NY),
 ([116,105,100,101],3,K9),
 ([115,116,101,112],1,b7),
 ([108,101,118,101,108],1,vO),
 ([114,97,105,115,101],2,vS),
 ([109,97,114,107],4,wK),
 ([117,110,109,97,114,107],1,uA),
 ([104,105,114,101],2,mV 1),
 ([98,114,105,110,103],2,mV 2),
 ([115,109,117,100,103,101],1,rN),
 ([115,116,114,105,107,101],1,uB),
 ([98,114,111,107,101,110],4,rD),
 ([112,97,114,116],3,zQ),
 ([102,105,116],1,NS),
 ([99,108,97,105,109],2,vZ),
 ([117,110,99,108,97,105,109],1,pU)]
def kF(line:ByteArray):Option (fQ×List Int):=
 match kO line.data.toList with
 | []=>none
 |p::ps=>match lU.find? (fun x=>x.1==p)with
  |none=>none
  |some (_,k,act)=>if ps.length=k then(ps.mapM lR).map fun n=>(act,n)else none

structure jR(s:aI):Prop where
 pl:s.row.places.length≤7
 ct:s.row.counts.length≤6
 ht:s.table.heights.length=4
 lev:s.table.levels.length≤6
 mks:s.table.marks.length≤5
 ln:s.book.lines.length≤8
 ch:s.yard.chairs.length≤5
 cl:s.yard.claims.length≤5
 bc:s.book.chairs=3
theorem jR.setRow{s:aI}(h:jR s){r:C1.dK}(h1:r.places.length≤7)(h2:r.counts.length≤6):jR (setRow s r):=⟨h1,h2,h.ht,h.lev,h.mks,h.ln,h.ch,h.cl,h.bc⟩
theorem jR.setTable{s:aI}(h:jR s){r:C2.aZ}(h1:r.heights.length=4)(h2:r.levels.length≤6)(h3:r.marks.length≤5):jR (setTable s r):=⟨h.pl,h.ct,h1,h2,h3,h.ln,h.ch,h.cl,h.bc⟩
theorem jR.setBook{s:aI}(h:jR s){r:C3.aX}(h1:r.lines.length≤8)(h2:r.chairs=3):jR (setBook s r):=⟨h.pl,h.ct,h.ht,h.lev,h.mks,h1,h.ch,h.cl,h2⟩
theorem jR.setYard{s:aI}(h:jR s){r:C7.bI}(h1:r.chairs.length≤5)(h2:r.claims.length≤5):jR (setYard s r):=⟨h.pl,h.ct,h.ht,h.lev,h.mks,h.ln,h1,h2,h.bc⟩
def jT(f:fQ):Prop:=∀s n s',jR s→f s n=.ok s'→jR s'
theorem m2:jT yY:=by
 intro s n s' h e;unfold yY at e;have h1:=h.pl;have h2:=h.ct
 repeat' split at e
 all_goals cases e
 all_goals (refine h.setRow ?_ ?_<;>first|assumption|(simp<;>omega)|(simp only[aKU];split<;>omega))
theorem y2:jT I0:=by
 intro s n s' h e;unfold I0 at e;have h1:=h.pl;have h2:=h.ct
 repeat' split at e
 all_goals cases e
 all_goals (refine h.setRow ?_ ?_<;>first|assumption|(simp<;>omega)|(simp only[aKU];split<;>omega))
theorem wT(b:Bool):jT (mQ b):=by
 intro s n s' h e;unfold mQ at e;have h1:=h.pl;have h2:=h.ct
 repeat' split at e
 all_goals cases e
 all_goals (refine h.setRow ?_ ?_<;>first|assumption|(simp<;>omega)|(simp only[aKU];split<;>omega))
theorem L6:jT pL:=by
 intro s n s' h e;unfold pL at e;have h1:=h.pl;have h2:=h.ct
 repeat' split at e
 all_goals cases e
 all_goals (refine h.setRow ?_ ?_<;>first|assumption|(simp<;>omega)|(simp only[aKU];split<;>omega))
theorem i1:jT zI:=by
 intro s n s' h e;unfold zI at e;have h1:=h.pl;have h2:=h.ct
 repeat' split at e
 all_goals cases e
 all_goals (refine h.setRow ?_ ?_<;>first|assumption|(simp<;>omega)|(simp only[aKU];split<;>omega))
theorem GF:jT NY:=by
 intro s n s' h e;unfold NY at e;have h1:=h.pl;have h2:=h.ct
 repeat' split at e
 all_goals cases e
 all_goals (refine h.setRow ?_ ?_<;>first|assumption|(simp<;>omega)|(simp only[aKU];split<;>omega))
theorem y5:jT K9:=by
 intro s n s' h e;unfold K9 at e;have h1:=h.ht;have h2:=h.lev;have h3:=h.mks
 repeat' split at e
 all_goals cases e
 all_goals (refine h.setTable ?_ ?_ ?_<;>first|assumption|(simp<;>omega)|(simp only[aKU];split<;>omega))
theorem CA:jT b7:=by
 intro s n s' h e;unfold b7 at e;have h1:=h.ht;have h2:=h.lev;have h3:=h.mks
 repeat' split at e
 all_goals cases e
 all_goals (refine h.setTable ?_ ?_ ?_<;>first|assumption|(simp<;>omega)|(simp only[aKU];split<;>omega))
theorem m7:jT vO:=by
 intro s n s' h e;unfold vO at e;have h1:=h.ht;have h2:=h.lev;have h3:=h.mks
 repeat' split at e
 all_goals cases e
 all_goals (refine h.setTable ?_ ?_ ?_<;>first|assumption|(simp<;>omega)|(simp only[aKU];split<;>omega))
theorem g8:jT vS:=by
 intro s n s' h e;unfold vS at e;have h1:=h.ht;have h2:=h.lev;have h3:=h.mks
 repeat' split at e
 all_goals cases e
 all_goals (refine h.setTable ?_ ?_ ?_<;>first|assumption|(simp<;>omega)|(simp only[aKU];split<;>omega))
theorem BK:jT wK:=by
 intro s n s' h e;unfold wK at e;have h1:=h.ht;have h2:=h.lev;have h3:=h.mks
 repeat' split at e
 all_goals cases e
 all_goals (refine h.setTable ?_ ?_ ?_<;>first|assumption|(simp<;>omega)|(simp only[aKU];split<;>omega))
theorem U8:jT uA:=by
 intro s n s' h e;unfold uA at e;have h1:=h.ht;have h2:=h.lev;have h3:=h.mks
 repeat' split at e
 all_goals cases e
 all_goals (refine h.setTable ?_ ?_ ?_<;>first|assumption|(simp<;>omega)|(simp only[aKU];split<;>omega))
theorem wV(k:Int):jT (mV k):=by
 intro s n s' h e;unfold mV at e;have h1:=h.ln;have h2:=h.bc
 repeat' split at e
 all_goals cases e
 all_goals (refine h.setBook ?_ ?_<;>first|assumption|(simp<;>omega)|(simp only[aKU];split<;>omega))
theorem T2:jT rN:=by
 intro s n s' h e;unfold rN at e;have h1:=h.ln;have h2:=h.bc
 repeat' split at e
 all_goals cases e
 all_goals (refine h.setBook ?_ ?_<;>first|assumption|(simp<;>omega)|(simp only[aKU];split<;>omega))
theorem T3:jT uB:=by
 intro s n s' h e;unfold uB at e;have h1:=h.ln;have h2:=h.bc
 repeat' split at e
 all_goals cases e
 all_goals (refine h.setBook ?_ ?_<;>first|assumption|(simp<;>omega)|(simp only[aKU];split<;>omega))
theorem S9:jT rD:=by
 intro s n s' h e;unfold rD at e;have h1:=h.ch;have h2:=h.cl
 repeat' split at e
 all_goals cases e
 all_goals (refine h.setYard ?_ ?_<;>first|assumption|(simp<;>omega)|(simp only[aKU];split<;>omega))
theorem BJ:jT zQ:=by
 intro s n s' h e;unfold zQ at e;have h1:=h.ch;have h2:=h.cl
 repeat' split at e
 all_goals cases e
 all_goals (refine h.setYard ?_ ?_<;>first|assumption|(simp<;>omega)|(simp only[aKU];split<;>omega))
theorem HC:jT NS:=by
 intro s n s' h e;unfold NS at e;have h1:=h.ch;have h2:=h.cl
 repeat' split at e
 all_goals cases e
 all_goals (refine h.setYard ?_ ?_<;>first|assumption|(simp<;>omega)|(simp only[aKU];split<;>omega))
theorem u6:jT vZ:=by
 intro s n s' h e;unfold vZ at e;have h1:=h.ch;have h2:=h.cl
 repeat' split at e
 all_goals cases e
 all_goals (refine h.setYard ?_ ?_<;>first|assumption|(simp<;>omega)|(simp only[aKU];split<;>omega))
theorem Q6:jT pU:=by
 intro s n s' h e;unfold pU at e;have h1:=h.ch;have h2:=h.cl
 repeat' split at e
 all_goals cases e
 all_goals (refine h.setYard ?_ ?_<;>first|assumption|(simp<;>omega)|(simp only[aKU];split<;>omega))
theorem EZ:∀x∈lU,jT x.2.2:=by
 intro x hx;simp only[lU,aIW,GT,aLT]at hx;rcases hx with rfl|rfl|rfl|rfl|rfl|rfl|rfl|rfl|rfl|rfl|rfl|rfl|rfl|rfl|rfl|rfl|rfl|rfl|rfl|rfl|rfl|rfl
 ·exact m2
 ·exact y2
 ·exact wT false
 ·exact wT true
 ·exact L6
 ·exact i1
 ·exact GF
 ·exact y5
 ·exact CA
 ·exact m7
 ·exact g8
 ·exact BK
 ·exact U8
 ·exact wV 1
 ·exact wV 2
 ·exact T2
 ·exact T3
 ·exact S9
 ·exact BJ
 ·exact HC
 ·exact u6
 ·exact Q6
end C12
end Go.Fs
namespace Go.Fs
variable{P:Program}{X:Cx}{γb:Type}[Membership Nat γb]{bad:γb}{all:Array Oper}{K:Act→World→Prop}{Q:Exit→Act→World→Prop}
variable{σ:bS}{μ:aC}{Ds:List aA}{os:List (Bool×Nat)}{fl:Bool}{ix:Nat}
variable{d:Nat}{x y z:Operand}{u v:Value}{ty:TypeId}{pos:String}{aft:Array Edge}{g:Option (Nat×Bool)}
abbrev Cx.push(X:Cx)(dd:Deferred):Cx:={X with ds:=dd::X.ds}
theorem aCW{c:Operand}{f:FuncId}{c1 c2:List Value}{ats:Array TypeId}(ho:all[ix]?= some ⟨none,.defer {callee:=.value c,args:=#[],argTypes:=ats},ty,pos,aft,g⟩)(hX:X.r=none)(hc:ev σ c=some (.func (.func f) c1.toArray c2.toArray))(hg:cT all σ g)
  (k:WL P (X.push ⟨.fn (.func f) c2.toArray,c1.toArray⟩) bad all K Q os σ μ Ds):WL P X bad all K Q ((false,ix)::os) σ μ Ds:=by
 intro a w hh;rw[qW ho];have hq:hG (Op.defer {callee:=.value c,args:=#[],argTypes:=ats})=false:=rfl;simp only[nL,hq,aKI,aLR];unfold wB;rw[aJT (hh.wanted hg)];refine⟨fun _ _=>trivial,?_⟩;have e:(Oper.semAt (FW X.r).round a.eval ⟨none,.defer {callee:=.value c,args:=#[],argTypes:=ats},ty,pos,aft,g⟩).run P w=.ok (.defer ⟨.fn (.func f) c2.toArray,c1.toArray⟩) w:=by
  rw[hX];show(Oper.semAt none a.eval _).run P w=_;rw[Oper.semAt_none];simp only[execOp,resolve,hh.eval hc,Deferred.ofValue,Array.map_empty,Array.append_empty];rfl
 rw[e];obtain⟨h1,h2,h3,D,h4,h5,h6⟩:=hh;exact⟨fun h=>(by simp at h),k _ _ ⟨h1,h2,by simp[Act.put,h3],D,h4,h5,h6⟩⟩
theorem aEY{f:FuncId}{fn:Func}{c:Code}{args:List Value}{D:aA}{post:aA→Value→Prop}(N:Nat)(hf:P.funcs[f]?= some fn)(hn:(fn.name== "runtime.NumGoroutine")=false)(hb:fn.body=some c)(hN:fn.ntmps=N)(hsz:Nat.ble args.length N=true)
  (h:∀h0:H0,WC P ⟨none,N,[],h0,h0.size,D,[],none⟩ (bodyPostDIn (FW none) 0 P fn (lW ⟨none,N,[],h0,h0.size,D,[],none⟩ fun D' v _=>post D' v)) c (gJ 0 args) [] [D]):Fn P f args.toArray D post:=by
 refine⟨EF.of hf hn hb,fun w hw=>?_⟩;subst hN;have hsz:=aLJ hsz;refine(cS (r:=none) (n:=0)).1 ((callsIn_of_wp_defers (R:=lW ⟨none,fn.ntmps,[],hd w,w.heap.size,D,[],none⟩ fun D' v _=>post D' v) hf hb aOJ (h (hd w) _ w ⟨?_,fun s v hs=>?_,rfl,D,⟨aJU _,aJU _,fun _ _ _=>rfl,fun _ _=>rfl,hw,(fun p hp=>by cases hp),aLI,(fun p hp=>by cases hp),fun e he=>aJZ he⟩,fun D₁ h1=>?_,aOJ⟩) rfl).mono ?_)
 ·simp;omega
 ·obtain⟨_,h2⟩:=eL args 0 s v hs;have hl:=(aJK.1 h2).1;simp only[aML]at h2 hl;show(args.toArray++_)[s]?= some v;rw[aLX Yam];simpa using h2
 ·simp only[aJR]at h1;subst h1;exact Le.refl _
 ·rintro e w' ⟨v,D',μ',rfl,hs,hp⟩;exact⟨v,D',rfl,hs.sub (by intro p hp;cases hp) aLI,hp⟩
def V3(P:Program)(f:FuncId)(args:List Value)(D:aA)(ν:aC)(u u2:FrameMode)(post:aA→aC→Prop):Prop:=
 EF P f∧∀w,dM D w→(∀p∈ν,w.heap[p.1]?= some p.2∧D p.1=[]∧cN p.2)→ν.ks.Nodup→CallsDIn (FW none) 0 P f args.toArray u w fun e u' w'=>∃v D' ν',e=.returned v∧u'=u2∧fP (hd w) w.heap.size D ν.ks ν' D' w'∧post D' ν'
theorem JV{fn:Func}{post:aA→Value→aC→Prop}{dpost:aA→aC→Prop}{A B ν:aC}{f:FuncId}{c1 c2:List Value}{u u2:FrameMode}{rs:List ResultVar}(hu:u≠.run)(hds:X.ds=[⟨.fn (.func f) c2.toArray,c1.toArray⟩])(hex:X.ex=none)(hun:∀p∈ν,cN p.2)
  (hf:∀D,(∀D₁∈Ds,Le D₁ D)→V3 P f (c1++c2) D ν u u2 dpost) (hst:settle u2=.returning) (hr:fn.results=rs.toArray)
  (h:∀D ν',(∀D₁∈Ds,Le D₁ D)→dpost D ν'→∃vs,rW P X σ (A++ν'++B) rs vs∧post D (mX vs) (A++ν'++B)):∀a w,Hl X σ (A++ν++B) Ds a w→LeavesIn (FW none) 0 P fn a.tmps (lW X post) a.defers u w:=by
 intro a w hh;obtain⟨h1,h2,h3,D,h4,h5,h6⟩:=id hh;rw[h3,hds];have hF:=hf D h5;have hbx:∀p∈ν,_:=fun p hp=>h4.box p (aJG _ (aIZ _ hp))
 have hnd:=h4.nd;simp only[aJN]at hnd;refine leavesIn_cons hu (fun hh=>by simp[FW]at hh) (f:=f) (args:=(c1++c2).toArray) ?_ (fun _ _=>trivial) ?_
 ·show(callFunc f (c1.toArray++c2.toArray)).run P w=_;rw[hF.1];simp
 ·refine(hF.2 w h4.agr (fun p hp=>⟨(hbx p hp).1,(hbx p hp).2.1,hun p hp⟩) (aJJ.1 (aJJ.1 hnd).1).2.1).mono ?_;rintro e u' w' ⟨v,D',ν',rfl,rfl,hs,hp⟩;have hle:=eG h4.agr hs;have h5':∀D₁∈Ds,Le D₁ D':=fun D₁ hD₁=>(h5 D₁ hD₁).trans hle
  obtain⟨vs,hv,hpost⟩:=h D' ν' h5' hp;have hh':Hl X σ (A++ν'++B) Ds a w':=⟨h1,h2,h3,D',h4.afterG hs,h5',by unfold uO;rw[hex];trivial⟩
  show LeavesIn (FW none) 0 P fn a.tmps (lW X post) [] (settle u') w';rw[hst];exact⟨_,fZ hh' hr hv,_,D',_,rfl,h4.afterG hs,hpost⟩
theorem aFR{fn:Func}{post:aA→Value→aC→Prop}{dpost:aA→aC→Prop}{A B ν:aC}{f:FuncId}{c1 c2:List Value}{rs:List ResultVar}{e:Exit}(he:(match e with|.normal=>true|.ret=>true|_=>false)=true)(hds:X.ds=[⟨.fn (.func f) c2.toArray,c1.toArray⟩])(hex:X.ex=none)(hun:∀p∈ν,cN p.2)
  (hf:∀D,(∀D₁∈Ds,Le D₁ D)→V3 P f (c1++c2) D ν .returning .returning dpost) (hr:fn.results=rs.toArray)
  (h:∀D ν',(∀D₁∈Ds,Le D₁ D)→dpost D ν'→∃vs,rW P X σ (A++ν'++B) rs vs∧post D (mX vs) (A++ν'++B)):∀a w,Hl X σ (A++ν++B) Ds a w→bodyPostDIn (FW none) 0 P fn (lW X post) e a w:=by
 intro a w hh;have:=JV (u:=.returning) (u2:=.returning) Ye hds hex hun hf rfl hr h a w hh;cases e<;>first|exact this|cases he
theorem u1{fn:Func}{post:aA→Value→aC→Prop}{dpost:aA→aC→Prop}{A B ν:aC}{f:FuncId}{c1 c2:List Value}{rs:List ResultVar}{v:Value}(hds:X.ds=[⟨.fn (.func f) c2.toArray,c1.toArray⟩])(hex:X.ex=none)(hun:∀p∈ν,cN p.2)
  (hf:∀D,(∀D₁∈Ds,Le D₁ D)→V3 P f (c1++c2) D ν (.panicking (lG v)) (.panicking [{v,recovered:=true}]) dpost) (hr:fn.results=rs.toArray)
  (h:∀D ν',(∀D₁∈Ds,Le D₁ D)→dpost D ν'→∃vs,rW P X σ (A++ν'++B) rs vs∧post D (mX vs) (A++ν'++B)):∀a w,Hl X σ (A++ν++B) Ds a w→bodyPostDIn (FW none) 0 P fn (lW X post) (.panic (lG v)) a w:=
 fun a w hh=>JV Ye hds hex hun hf rfl hr h a w hh
theorem XC{f:FuncId}{fn:Func}{id t:Nat}{y:Code}{args:List Value}{D:aA}{ν:aC}{u u2:FrameMode}{rv:Value}{dpost:aA→aC→Prop}{ats:Array TypeId}(N:Nat)(hf:P.funcs[f]?= some fn)(hn:(fn.name== "runtime.NumGoroutine")=false)
  (hb:fn.body=some (.seq (.region id #[⟨some t,.call {callee:=.builtin .recover,args:=#[],argTypes:=ats},ty,pos,aft,none⟩] false) y)) (hN:fn.ntmps=N) (hsz:Nat.ble args.length N=true) (ht:Nat.blt t N=true)
  (hrec:∀(c₀:Frame) (cs:List Frame),c₀.mode=u→(recoverD (c₀::cs)=some (rv,{c₀ with mode:=u2}::cs))∨(recoverD (c₀::cs)=none∧rv=.nilIface∧u2=u))
  (h:∀h0:H0,(∀p∈ν,p.1<h0.size)→ν.ks.Nodup→WC P (mE N h0 D ν.ks) (bodyPost P fn (W8 (mE N h0 D ν.ks) (fun D' _ ν'=>dpost D' ν') (fun _=>False))) y ((t,rv)::gJ 0 args) ν [D]):V3 P f args D ν u u2 dpost:=by
 refine⟨EF.of hf hn hb,fun w hw hν hnd=>?_⟩;subst hN;have hsz:=aLJ hsz;refine callsDIn_of_wpSIn hf hb aOJ fun c₀ cs hm=>?_
 have hcs:({c₀ with mode:=u}:Frame)=c₀:=by subst hm;rfl
 have hH:Hl (mE fn.ntmps (hd w) D ν.ks) (gJ 0 args) ν [D] {tmps:=args.toArray++Array.replicate (fn.ntmps-args.toArray.size) undef,defers:=[]} w:=by
  refine⟨?_,fun s v hs=>?_,rfl,D,⟨aJU _,aJU _,fun _ _ _=>rfl,fun _ _=>rfl,hw,(fun p hp=>?_),hnd,(fun p hp=>(hν p hp).2.2),fun e he=>aJZ he⟩,fun D₁ h1=>?_,aOJ⟩
  ·simp[mE];omega
  ·obtain⟨_,h2⟩:=eL args 0 s v hs;have hl:=(aJK.1 h2).1;simp only[aML]at h2 hl;show(args.toArray++_)[s]?= some v;rw[aLX Yam];simpa using h2
  ·exact⟨(hν p hp).1,(hν p hp).2.1,aJE (aIY.2 ⟨p,hp,rfl⟩)⟩
  ·simp only[aJR]at h1;subst h1;exact Le.refl _
 have key:=h (hd w) (fun p hp=>bA (hν p hp).1) hnd _ w (hH.put ht rv);refine wpSIn_seq (wpSIn_region ?_);have hex:∀ρ:Operand→Value,(execOp ρ ⟨some t,.call {callee:=.builtin .recover,args:=#[],argTypes:=ats},ty,pos,aft,none⟩).run P w=.ok .recover w:=fun ρ=>by
  simp only[execOp,resolve,Array.map_empty];rfl
 have fin:∀cs',cs'=({c₀ with mode:=u2}:Frame)::cs→(y.wpSIn (FW none) 0 P (bodyPostS P fn c₀ cs fun e u' w'=>∃v D' ν',e=.returned v∧u'=u2∧fP (hd w) w.heap.size D ν.ks ν' D' w'∧dpost D' ν')
   (Act.put {tmps:=args.toArray++Array.replicate (fn.ntmps-args.toArray.size) undef,defers:=[]} (some t) rv) cs' w):=by
  rintro cs' rfl;refine wpSIn_of_wpIn rfl (wpIn_mono key fun e a w' hq=>?_);cases e with
  |normal|ret=>
   obtain⟨hd',v,hr,hR⟩:=hq;rcases hR with⟨v',D',ν',he,hs,hp⟩|⟨_,_,_,_,hp⟩
   ·exact⟨hd',u2,rfl,v,hr,v',D',ν',he,rfl,hs,hp⟩
   ·exact hp.elim
  |panic ch=>
   obtain⟨hd',hR⟩:=hq;rcases hR with⟨v',D',ν',he,hs,hp⟩|⟨_,_,_,_,hp⟩
   ·cases he
   ·exact hp.elim
  |outgrown=>
   rcases hq with⟨v',D',ν',he,hs,hp⟩|⟨_,_,_,_,hp⟩
   ·cases he
   ·exact hp.elim
  |exit=>exact hq.elim
  |goto=>exact hq.elim
 show wpOpsSIn (FW none) 0 P _ _ [0] _ _ _;simp only[wpOpsSIn,List.getElem?_toArray,List.getElem?_cons_zero];refine⟨fun _ _=>trivial,?_⟩;rw[aJT (by rfl),hex];rcases hrec c₀ cs hm with hr|⟨hr,rfl,rfl⟩
 ·simp only[hr];exact fin _ rfl
 ·simp only[hr];exact fin _ (by rw[hcs])
theorem WZ{c₀:Frame}{cs:List Frame}(hm:c₀.mode=.returning):recoverD (c₀::cs)=none:=by simp[recoverD,hm]
theorem US{c₀:Frame}{cs:List Frame}{v:Value}(hm:c₀.mode=.panicking (lG v)):recoverD (c₀::cs)=some (v,{c₀ with mode:=.panicking [{v,recovered:=true}]}::cs):=by simp[recoverD,hm,lG]
theorem jK.reorder{f:FuncId}{args:List Value}{D:aA}{ν ν2:aC}{post post':aA→Value→aC→Prop}{pan pan':Value→Prop}(h:jK P f args D ν post pan)(hp:ν.Perm ν2)(h1:∀D' v ν',Le D D'→post D' v ν'→∃ν'',ν''.Perm ν'∧post' D' v ν'')(h2:∀v,pan v→pan' v):jK P f args D ν2 post' pan':=by
 refine⟨h.1,fun w hw hν hn=>(h.2 w hw (fun p hp'=>hν p (hp.mem_iff.1 hp')) ((hp.map (·.1)).nodup_iff.2 hn)).mono ?_⟩;have hk:∀b,b∉ν2.ks→b∉ν.ks:=fun b hb hm=>hb ((hp.map (·.1)).mem_iff.1 hm)
 rintro e w' (⟨v,D',ν',he,hs,hpost⟩|⟨v,D',he,hs,hpan⟩)
 ·obtain⟨ν'',hq,hpost'⟩:=h1 D' v ν' (eG hw hs) hpost;refine aJQ ⟨v,D',ν'',he,⟨hs.hlo,hs.size,fun b hb hm=>hs.old b hb (hk b hm),hs.dold,hs.agr,fun p hp'=>?_,(hq.map (·.1)).nodup_iff.2 hs.nd,fun p hp'=>hs.fz p (hq.mem_iff.1 hp'),hs.env⟩,hpost'⟩;obtain⟨k1,k2,k3⟩:=hs.box p (hq.mem_iff.1 hp');exact⟨k1,k2,k3.imp id fun hm=>(hp.map (·.1)).mem_iff.1 hm⟩
 ·exact aJE ⟨v,D',he,⟨hs.hlo,hs.size,fun b hb hm=>hs.old b hb (hk b hm),hs.dold,hs.agr,(fun p hp'=>by cases hp'),aLI,(fun p hp'=>by cases hp'),hs.env⟩,h2 v hpan⟩
theorem aL{l1 l2:aC}(h:∀ [BEq (Nat×Obj)] [LawfulBEq (Nat×Obj)] (a:Nat×Obj),l1.count a=l2.count a):l1.Perm l2:=by
 classical
 exact List.perm_iff_count.2 fun a=>h a
def aIF(Q:Exit→Act→World→Prop):Exit→Act→World→Prop:=fun e a w=>match e with
 |.panic _=>False
 |e=>Q e a w
theorem aGM:NP (aIF Q):=fun _ _ _ h=>h
theorem MK{c:Code}(h:WC P X (aIF Q) c σ μ Ds):WC P X Q c σ μ Ds:=fun a w hh=>wpIn_mono (h a w hh) (fun e a w hq=>by cases e<;>first|exact hq|exact hq.elim)
theorem ZQ{y:Code}(h:WC P X Q y σ μ Ds):∀a w,Hl X σ μ Ds a w→aIF (Exit.then (y.wpIn (FW X.r) 0 P Q) Q) .normal a w:=h
end Go.Fs
