/- Of the proof of BookWrites: BW9, BW10, BW11, BW12, Delete, BW13, BW14, BW15, StrMap, BW16, Acts, Line, Defer. -/
import Derived.Test.YtelhnbcdablgoaaGreatDoorZBookWritesAI
import Derived.Test.YtelhnbcdablgoaaGreatDoorZBookWritesAD
import Derived.Test.YtelhnbcdablgoaaGreatDoorZBookWritesAE
import Derived.Lib.Split
import Derived.Lib.AtoiTie
import Derived.Lib.AtoiAllCases
import Derived.Lib.ItoaNum
import Derived.WideShapes
import Derived.DefersIn
import Derived.RecoverIn
namespace Go.Fs
open Go.Proofs
namespace L12
open C12
theorem K5{α:Type}{f:α→List Value}{n i:Nat}(h:∀x,(f x).length=n){xs:List α}(hi:i<xs.length){x:α}{junk:List Value}:(xs.flatMap f++junk).take (0+i*n)++f x++(xs.flatMap f++junk).drop (0+i*n+(f x).length)=(xs.set i x).flatMap f++junk:=by
 rw[aJA];induction xs generalizing i with
 |nil=>simp at hi
 |cons d xs ih=>
  cases i with
  |zero=>
   have e:(d::xs).flatMap f++junk=f d++(xs.flatMap f++junk):=by simp
   have e2:((d::xs).set 0 x).flatMap f++junk=f x++(xs.flatMap f++junk):=by simp
   rw[aKG,List.take_zero,aHI,aJA,e,e2,h,←h d,List.drop_left]
  |succ i=>
   have hi':i<xs.length:=by simpa using hi
   have e:(d::xs).flatMap f++junk=f d++(xs.flatMap f++junk):=by simp
   have e2:((d::xs).set (i+1) x).flatMap f++junk=f d++((xs.set i x).flatMap f++junk):=by simp
   rw[e,e2,show(i+1)*n=(f d).length+i*n by rw[h,aIW];omega,List.take_length_add_append,show(f d).length+i*n+(f x).length=(f d).length+(i*n+(f x).length) by omega,aKK,aGN,aGN];congr 1;rw[←aGN];exact ih hi'
theorem VE(wb:Nat)(s:aN)(pv cv hv lv mv bl bc yc yq nv:Value)(a b:Int)(ν:aC)(D:aA)(hn:Sl D RI 1 nv [a,b])(ha:bN 3 1 pv s.row.places.length (s.row.places.flatMap cI) ν)(hsm:s.row.places.length≤100)(ha0:0≤a):iZ Tryz.prog 169 [.pointer (some ⟨wb,0,none⟩),nv] D ((wb,.cells (bO s pv cv hv lv mv bl bc yc yq).toArray 253 (0,0))::ν) (fun _ _ ν'=>(a<(s.row.places.length:Int)∧b≤2)∧∃ν1,ν'=(wb,.cells (bO s pv cv hv lv mv bl bc yc yq).toArray 253 (0,0))::ν1∧bN 3 1 pv s.row.places.length ((s.row.places.set a.toNat b).flatMap cI) ν1) (fun v=>((s.row.places.length:Int)≤a∧v=dS 7)∨(a<(s.row.places.length:Int)∧2<b∧v=dS 2)):=by
 obtain⟨bt,ot,ct,rfl⟩:=gX hn Ye;have hbt:=jX hn;refine dH 32 Tryz.func169 rfl rfl rfl rfl (fun h0 hwl hwn=>aL<|C.drawPA [] 7 11 1016 (fun _ _ _ _ he h=>cT (P:=Tryz.prog) (fn:=Tryz.f169) _ _ _ _ he h)<|Za rfl<|aO rfl U25 Tf.s3 rfl hn rfl Yd rfl rfl aLJ (fun cs1 hr1 hcl1 hA1=>?_));obtain rfl:cs1=[.int .i64 _]:=hr1;refine Zf 0 rfl Tf.a3 rfl hA1 rfl<|Za rfl<|Zae rfl<|Zi rfl Tf.f253_0 rfl<|Zi rfl Tf.f42_0 rfl<|Zi rfl Tf.f28_0 rfl<|Zl rfl Tf.a25 rfl (List.Mem.head _) rfl<|dL rfl U25 rfl ha rfl rfl trivial<|Ze [(_,_)] ν [] rfl (Or.inr (fun p hp=>by cases hp)) (fun p hp=>by cases hp) (fun D5 hD5=>hG a (s.row.places.length:Int) _) (fun v5 D6 hD5 hp5=>bX (P:=Tryz.prog) (fn:=Tryz.f169) rfl (aGR ⟨hp5.1,hp5.2⟩)) (fun v5 D6 ν5 hD5 hp5=>?_);obtain⟨hf5,rfl⟩:=hp5;refine L.n3<|Za rfl<|aO rfl U25 Tf.s3 rfl hn rfl Yd rfl rfl aLJ (fun cs2 hr2 hcl2 hA2=>?_);obtain rfl:cs2=[.int .i64 _]:=hr2;refine Zf 0 rfl Tf.a3 rfl hA2 rfl<|Ze [(_,_)] ν [] rfl (Or.inr (fun p hp=>by cases hp)) (fun p hp=>by cases hp) (fun D7 hD7=>oA b 2 _) (fun v7 D8 hD7 hp7=>bX (P:=Tryz.prog) (fn:=Tryz.f169) rfl (aGH ⟨hf5,hp7.1,hp7.2⟩)) (fun v7 D8 ν7 hD7 hp7=>?_);obtain⟨hf7,rfl⟩:=hp7;refine L.n1 ?_;obtain⟨bx,cap,junk,rfl,hcap,rfl,hl1,hl2⟩:=ha.some Yd;refine C.drawPA [] 5 14 4032 (fun _ _ _ _ he h=>cT (P:=Tryz.prog) (fn:=Tryz.f169) _ _ _ _ he h)<|Za rfl<|Zae rfl<|Zi rfl Tf.f253_0 rfl<|Zi rfl Tf.f42_0 rfl<|Zi rfl Tf.f28_0 rfl<|Zl rfl Tf.a25 rfl (List.Mem.head _) rfl<|Za rfl<|aO rfl U25 Tf.s3 rfl hn rfl Yd rfl rfl aLJ (fun cs3 hr3 hcl3 hA3=>?_);obtain rfl:cs3=[.int .i64 _]:=hr3;refine Zf 0 rfl Tf.a3 rfl hA3 rfl<|Za rfl<|aO rfl U25 Tf.s3 rfl hn rfl Yd rfl rfl aLJ (fun cs4 hr4 hcl4 hA4=>?_);obtain rfl:cs4=[.int .i64 _]:=hr4;refine Zf 0 rfl Tf.a3 rfl hA4 rfl<|eY rfl U25 Tf.s3 rfl rfl Yd Yd rfl trivial<|aX (off:=0+(a.toNat)*1) (us:=[.int .i64 b]) (ws:=((s.row.places.set a.toNat b).flatMap cI)++junk) rfl rfl rfl rfl Tf.s3 (.tail .head) (by rw[aGC,bJ (f:=cI) (n:=1) (fun _=>rfl)];simp;omega) (K5 (f:=cI) (n:=1) (xs:=s.row.places) (i:=a.toNat) (x:=b) (fun _=>rfl) Yd) Yi trivial<|Zz ?_
 exact cZ (A:=[]) (ν':=[_,_]) (B:=[]) (vs:=[]) rfl rfl rfl aLJ (fun D' hD=>⟨⟨hf5,hf7⟩,_,rfl,aGH ⟨bx,cap,junk,rfl,hcap,rfl,by rw[bJ (n:=1) (fun _=>rfl),aKE],by rw[aGC,bJ (n:=1) (fun _=>rfl),aKE,←hl2,aGC,hl1]⟩⟩)
theorem KU(wb:Nat)(s:aN)(pv cv hv lv mv bl bc yc yq nv:Value)(a b:Int)(ν:aC)(D:aA)(hn:Sl D RI 1 nv [a,b])(ha:bN 3 1 lv s.table.levels.length (s.table.levels.flatMap cI) ν)(hsm:s.table.levels.length≤100)(ha0:0≤a):iZ Tryz.prog 178 [.pointer (some ⟨wb,0,none⟩),nv] D ((wb,.cells (bO s pv cv hv lv mv bl bc yc yq).toArray 253 (0,0))::ν) (fun _ _ ν'=>(a<(s.table.levels.length:Int)∧b≤99)∧∃ν1,ν'=(wb,.cells (bO s pv cv hv lv mv bl bc yc yq).toArray 253 (0,0))::ν1∧bN 3 1 lv s.table.levels.length ((s.table.levels.set a.toNat b).flatMap cI) ν1) (fun v=>((s.table.levels.length:Int)≤a∧v=dS 7)∨(a<(s.table.levels.length:Int)∧99<b∧v=dS 2)):=by
 obtain⟨bt,ot,ct,rfl⟩:=gX hn Ye;have hbt:=jX hn;refine dH 32 Tryz.func178 rfl rfl rfl rfl (fun h0 hwl hwn=>aL<|C.drawPA [] 7 11 1016 (fun _ _ _ _ he h=>cT (P:=Tryz.prog) (fn:=Tryz.f178) _ _ _ _ he h)<|Za rfl<|aO rfl U25 Tf.s3 rfl hn rfl Yd rfl rfl aLJ (fun cs1 hr1 hcl1 hA1=>?_));obtain rfl:cs1=[.int .i64 _]:=hr1;refine Zf 0 rfl Tf.a3 rfl hA1 rfl<|Za rfl<|Zae rfl<|Zi rfl Tf.f253_0 rfl<|Zi rfl Tf.f42_1 rfl<|Zi rfl Tf.f32_3 rfl<|Zl rfl Tf.a25 rfl (List.Mem.head _) rfl<|dL rfl U25 rfl ha rfl rfl trivial<|Ze [(_,_)] ν [] rfl (Or.inr (fun p hp=>by cases hp)) (fun p hp=>by cases hp) (fun D5 hD5=>hG a (s.table.levels.length:Int) _) (fun v5 D6 hD5 hp5=>bX (P:=Tryz.prog) (fn:=Tryz.f178) rfl (aGR ⟨hp5.1,hp5.2⟩)) (fun v5 D6 ν5 hD5 hp5=>?_);obtain⟨hf5,rfl⟩:=hp5;refine L.n3<|Za rfl<|aO rfl U25 Tf.s3 rfl hn rfl Yd rfl rfl aLJ (fun cs2 hr2 hcl2 hA2=>?_);obtain rfl:cs2=[.int .i64 _]:=hr2;refine Zf 0 rfl Tf.a3 rfl hA2 rfl<|Ze [(_,_)] ν [] rfl (Or.inr (fun p hp=>by cases hp)) (fun p hp=>by cases hp) (fun D7 hD7=>oA b 99 _) (fun v7 D8 hD7 hp7=>bX (P:=Tryz.prog) (fn:=Tryz.f178) rfl (aGH ⟨hf5,hp7.1,hp7.2⟩)) (fun v7 D8 ν7 hD7 hp7=>?_);obtain⟨hf7,rfl⟩:=hp7;refine L.n1 ?_;obtain⟨bx,cap,junk,rfl,hcap,rfl,hl1,hl2⟩:=ha.some Yd;refine C.drawPA [] 5 14 4032 (fun _ _ _ _ he h=>cT (P:=Tryz.prog) (fn:=Tryz.f178) _ _ _ _ he h)<|Za rfl<|Zae rfl<|Zi rfl Tf.f253_0 rfl<|Zi rfl Tf.f42_1 rfl<|Zi rfl Tf.f32_3 rfl<|Zl rfl Tf.a25 rfl (List.Mem.head _) rfl<|Za rfl<|aO rfl U25 Tf.s3 rfl hn rfl Yd rfl rfl aLJ (fun cs3 hr3 hcl3 hA3=>?_);obtain rfl:cs3=[.int .i64 _]:=hr3;refine Zf 0 rfl Tf.a3 rfl hA3 rfl<|Za rfl<|aO rfl U25 Tf.s3 rfl hn rfl Yd rfl rfl aLJ (fun cs4 hr4 hcl4 hA4=>?_);obtain rfl:cs4=[.int .i64 _]:=hr4;refine Zf 0 rfl Tf.a3 rfl hA4 rfl<|eY rfl U25 Tf.s3 rfl rfl Yd Yd rfl trivial<|aX (off:=0+(a.toNat)*1) (us:=[.int .i64 b]) (ws:=((s.table.levels.set a.toNat b).flatMap cI)++junk) rfl rfl rfl rfl Tf.s3 (.tail .head) (by rw[aGC,bJ (f:=cI) (n:=1) (fun _=>rfl)];simp;omega) (K5 (f:=cI) (n:=1) (xs:=s.table.levels) (i:=a.toNat) (x:=b) (fun _=>rfl) Yd) Yi trivial<|Zz ?_
 exact cZ (A:=[]) (ν':=[_,_]) (B:=[]) (vs:=[]) rfl rfl rfl aLJ (fun D' hD=>⟨⟨hf5,hf7⟩,_,rfl,aGH ⟨bx,cap,junk,rfl,hcap,rfl,by rw[bJ (n:=1) (fun _=>rfl),aKE],by rw[aGC,bJ (n:=1) (fun _=>rfl),aKE,←hl2,aGC,hl1]⟩⟩)
theorem PN(wb:Nat)(s:aN)(pv cv hv lv mv bl bc yc yq nv:Value)(a b c:Int)(ν:aC)(D:aA)(hn:Sl D RI 1 nv [a,b,c])(ha:bN 99 2 hv s.table.heights.length (s.table.heights.flatMap cP) ν)(hsm:s.table.heights.length≤100)(ha0:0≤a)(hb9:0≤b∧b≤1000):iZ Tryz.prog 175 [.pointer (some ⟨wb,0,none⟩),nv] D ((wb,.cells (bO s pv cv hv lv mv bl bc yc yq).toArray 253 (0,0))::ν) (fun _ _ ν'=>(a<(s.table.heights.length:Int)∧b≤c∧c≤99∧c≤b+2)∧∃ν1,ν'=(wb,.cells (bO s pv cv hv lv mv bl bc yc yq).toArray 253 (0,0))::ν1∧bN 99 2 hv s.table.heights.length ((s.table.heights.set a.toNat (b,c)).flatMap cP) ν1) (fun v=>((s.table.heights.length:Int)≤a∧v=dS 7)∨(a<(s.table.heights.length:Int)∧(c<b∨99<c∨b+2<c)∧v=dS 2)):=by
 obtain⟨bt,ot,ct,rfl⟩:=gX hn Ye;have hbt:=jX hn;refine dH 53 Tryz.func175 rfl rfl rfl rfl (fun h0 hwl hwn=>aL<|C.drawPA [] 7 11 1016 (fun _ _ _ _ he h=>cT (P:=Tryz.prog) (fn:=Tryz.f175) _ _ _ _ he h)<|Za rfl<|aO rfl U25 Tf.s3 rfl hn rfl Yd rfl rfl aLJ (fun cs1 hr1 hcl1 hA1=>?_));obtain rfl:cs1=[.int .i64 _]:=hr1;refine Zf 0 rfl Tf.a3 rfl hA1 rfl<|Za rfl<|Zae rfl<|Zi rfl Tf.f253_0 rfl<|Zi rfl Tf.f42_1 rfl<|Zi rfl Tf.f32_1 rfl<|Zl rfl Tf.a29 rfl (List.Mem.head _) rfl<|dL rfl U29 rfl ha rfl rfl trivial<|Ze [(_,_)] ν [] rfl (Or.inr (fun p hp=>by cases hp)) (fun p hp=>by cases hp) (fun D5 hD5=>hG a (s.table.heights.length:Int) _) (fun v5 D6 hD5 hp5=>bX (P:=Tryz.prog) (fn:=Tryz.f175) rfl (aGR ⟨hp5.1,hp5.2⟩)) (fun v5 D6 ν5 hD5 hp5=>?_);obtain⟨hf5,rfl⟩:=hp5;refine L.n2<|C.drawPA [] 6 21 524216 (fun _ _ _ _ he h=>cT (P:=Tryz.prog) (fn:=Tryz.f175) _ _ _ _ he h)<|Za rfl<|aO rfl U25 Tf.s3 rfl hn rfl Yd rfl rfl aLJ (fun cs2 hr2 hcl2 hA2=>?_);obtain rfl:cs2=[.int .i64 _]:=hr2;refine Zf 0 rfl Tf.a3 rfl hA2 rfl<|Za rfl<|aO rfl U25 Tf.s3 rfl hn rfl Yd rfl rfl aLJ (fun cs3 hr3 hcl3 hA3=>?_);obtain rfl:cs3=[.int .i64 _]:=hr3;refine Zf 0 rfl Tf.a3 rfl hA3 rfl<|eT rfl rfl rfl rfl trivial<|Za rfl<|aO rfl U25 Tf.s3 rfl hn rfl Yd rfl rfl aLJ (fun cs4 hr4 hcl4 hA4=>?_);obtain rfl:cs4=[.int .i64 _]:=hr4;refine Zf 0 rfl Tf.a3 rfl hA4 rfl<|eT rfl rfl rfl rfl trivial<|Za rfl<|aO rfl U25 Tf.s3 rfl hn rfl Yd rfl rfl aLJ (fun cs5 hr5 hcl5 hA5=>?_);obtain rfl:cs5=[.int .i64 _]:=hr5;refine Zf 0 rfl Tf.a3 rfl hA5 rfl<|Za rfl<|aO rfl U25 Tf.s3 rfl hn rfl Yd rfl rfl aLJ (fun cs6 hr6 hcl6 hA6=>?_);obtain rfl:cs6=[.int .i64 _]:=hr6;refine Zf 0 rfl Tf.a3 rfl hA6 rfl<|Zx rfl<|eT rfl rfl rfl rfl trivial<|Zp rfl U327 Tf.s4 Tf.z4 rfl rfl rfl rfl (.cons rfl rfl (.cons rfl rfl (.cons rfl rfl .nil))) (fun b901 D901 hD901 hA901=>Ze [(_,_)] ν [] rfl (aGH (fun p hp=>by cases hp)) (fun p hp=>by cases hp) (fun D7 hD7=>dU 2 [decide (c<b),decide (99<c),decide (b+2<c)] _ _ ((fA (l:=[decide (c<b),decide (99<c),decide (b+2<c)]) (fun _ _ _ h=>h) hA901 Ye).up RB.up (hD7 _ Ye))) (fun v7 D8 hD7 hp7=>bX (P:=Tryz.prog) (fn:=Tryz.f175) rfl (aGH ⟨hf5,by simpa using hp7.1,hp7.2⟩)) (fun v7 D8 ν7 hD7 hp7=>?_));obtain⟨hf70,rfl⟩:=hp7;have hf7:b≤c∧c≤99∧c≤b+2:=by simpa using hf70
 refine L.n1 ?_;obtain⟨bx,cap,junk,rfl,hcap,rfl,hl1,hl2⟩:=ha.some Yd;refine C.drawPA [] 5 18 65472 (fun _ _ _ _ he h=>cT (P:=Tryz.prog) (fn:=Tryz.f175) _ _ _ _ he h)<|Za rfl<|Zae rfl<|Zi rfl Tf.f253_0 rfl<|Zi rfl Tf.f42_1 rfl<|Zi rfl Tf.f32_1 rfl<|Zl rfl Tf.a29 rfl (List.Mem.head _) rfl<|Za rfl<|aO rfl U25 Tf.s3 rfl hn rfl Yd rfl rfl aLJ (fun cs7 hr7 hcl7 hA7=>?_);obtain rfl:cs7=[.int .i64 _]:=hr7;refine Zf 0 rfl Tf.a3 rfl hA7 rfl<|Za rfl<|aO rfl U25 Tf.s3 rfl hn rfl Yd rfl rfl aLJ (fun cs8 hr8 hcl8 hA8=>?_);obtain rfl:cs8=[.int .i64 _]:=hr8;refine Zf 0 rfl Tf.a3 rfl hA8 rfl<|Za rfl<|aO rfl U25 Tf.s3 rfl hn rfl Yd rfl rfl aLJ (fun cs9 hr9 hcl9 hA9=>?_);obtain rfl:cs9=[.int .i64 _]:=hr9;refine Zf 0 rfl Tf.a3 rfl hA9 rfl<|Zq [.int .i64 b,.int .i64 c] rfl Tf.p99 Tf.z99 rfl rfl<|eY rfl U29 Tf.s99 rfl rfl Yd Yd rfl trivial<|aX (off:=0+(a.toNat)*2) (us:=[.int .i64 b,.int .i64 c]) (ws:=((s.table.heights.set a.toNat (b,c)).flatMap cP)++junk) rfl rfl rfl rfl Tf.s99 (.tail .head) (by rw[aGC,bJ (f:=cP) (n:=2) (fun _=>rfl)];simp;omega) (K5 (f:=cP) (n:=2) (xs:=s.table.heights) (i:=a.toNat) (x:=(b,c)) (fun _=>rfl) Yd) Yi trivial<|Zz ?_
 exact cZ (A:=[]) (ν':=[_,_]) (B:=[]) (vs:=[]) rfl rfl rfl aLJ (fun D' hD=>⟨⟨hf5,hf7⟩,_,rfl,aGH ⟨bx,cap,junk,rfl,hcap,rfl,by rw[bJ (n:=2) (fun _=>rfl),aKE],by rw[aGC,bJ (n:=2) (fun _=>rfl),aKE,←hl2,aGC,hl1]⟩⟩)
end L12
end Go.Fs
namespace Go.Fs
open Go.Proofs
namespace L12
open C12
theorem rP{wb t e sz n:Nat}{cs cells:List Value}{v:Value}{ν:aC}(ha:bN e sz v n cells ν):∀p∈(wb,Obj.cells cs.toArray t (0,0))::ν,cF p.2:=by
 intro p hp;rcases aGB.1 hp with rfl|hp
 ·rfl
 ·rcases ha with⟨_,_,_,_,rfl⟩|⟨b,cap,junk,_,_,rfl,_⟩
  ·cases hp
  ·simp only[aGU]at hp;subst hp;rfl
theorem LJ(wb:Nat)(s:aN)(pv cv hv lv mv bl bc yc yq nv:Value)(a b:Int)(ν:aC)(D:aA)(hn:Sl D RI 1 nv [a,b])(ha:bN 156 3 cv s.row.counts.length (s.row.counts.flatMap cC) ν)(hsm:s.row.counts.length≤100)(hpl:∃x c,pv=.slice x s.row.places.length c):iZ Tryz.prog 170 [.pointer (some ⟨wb,0,none⟩),nv] D ((wb,.cells (bO s pv cv hv lv mv bl bc yc yq).toArray 253 (0,0))::ν) (fun _ _ ν'=>((a≤(s.row.places.length:Int)∧b≤9)∧(s.row.counts.length:Int)<6)∧∃v1 ν1,ν'=(wb,.cells (bO s pv v1 hv lv mv bl bc yc yq).toArray 253 (0,0))::ν1∧bN 156 3 v1 (s.row.counts.length+1) ((s.row.counts++[(⟨false,a,b⟩:C1.rO)]).flatMap cC) ν1) (fun v=>(((s.row.places.length:Int)<a∨9<b)∧v=dS 2)∨((a≤(s.row.places.length:Int)∧b≤9)∧6≤(s.row.counts.length:Int)∧v=dS 3)):=by
 refine dH 7 Tryz.func170 rfl rfl rfl rfl (fun h0 hwl hwn=>C.rg<|Za rfl<|Za rfl<|aF ((wb,.cells (bO s pv cv hv lv mv bl bc yc yq).toArray 253 (0,0))::ν++[]) (aGG _).symm<|Ze [] [] ((wb,.cells (bO s pv cv hv lv mv bl bc yc yq).toArray 253 (0,0))::ν) rfl (Or.inl rfl) (rP ha) (fun D5 hD5=>yZ wb s pv cv hv lv mv bl bc yc yq nv a b ν _ (hn.up RI.up (hD5 _ Ye)) ha hsm false hpl) (fun v5 D6 hD5 hp5=>bX (P:=Tryz.prog) (fn:=Tryz.f170) rfl hp5) (fun v5 D6 ν5 hD5 hp5=>aF ν5 (aGG _)<|Zz ?_));refine fun a w hh=>cZ (P:=Tryz.prog) (fn:=Tryz.f170) (A:=[]) (ν':=ν5) (B:=[]) (vs:=[]) rfl rfl rfl aLJ (fun D' hD=>hp5) a w (hh.boxesEq (aGG _).symm)
theorem PK(wb:Nat)(s:aN)(pv cv hv lv mv bl bc yc yq nv:Value)(a b:Int)(ν:aC)(D:aA)(hn:Sl D RI 1 nv [a,b])(ha:bN 156 3 cv s.row.counts.length (s.row.counts.flatMap cC) ν)(hsm:s.row.counts.length≤100)(hpl:∃x c,pv=.slice x s.row.places.length c):iZ Tryz.prog 171 [.pointer (some ⟨wb,0,none⟩),nv] D ((wb,.cells (bO s pv cv hv lv mv bl bc yc yq).toArray 253 (0,0))::ν) (fun _ _ ν'=>((a≤(s.row.places.length:Int)∧b≤9)∧(s.row.counts.length:Int)<6)∧∃v1 ν1,ν'=(wb,.cells (bO s pv v1 hv lv mv bl bc yc yq).toArray 253 (0,0))::ν1∧bN 156 3 v1 (s.row.counts.length+1) ((s.row.counts++[(⟨true,a,b⟩:C1.rO)]).flatMap cC) ν1) (fun v=>(((s.row.places.length:Int)<a∨9<b)∧v=dS 2)∨((a≤(s.row.places.length:Int)∧b≤9)∧6≤(s.row.counts.length:Int)∧v=dS 3)):=by
 refine dH 7 Tryz.func171 rfl rfl rfl rfl (fun h0 hwl hwn=>C.rg<|Za rfl<|Za rfl<|aF ((wb,.cells (bO s pv cv hv lv mv bl bc yc yq).toArray 253 (0,0))::ν++[]) (aGG _).symm<|Ze [] [] ((wb,.cells (bO s pv cv hv lv mv bl bc yc yq).toArray 253 (0,0))::ν) rfl (Or.inl rfl) (rP ha) (fun D5 hD5=>yZ wb s pv cv hv lv mv bl bc yc yq nv a b ν _ (hn.up RI.up (hD5 _ Ye)) ha hsm true hpl) (fun v5 D6 hD5 hp5=>bX (P:=Tryz.prog) (fn:=Tryz.f171) rfl hp5) (fun v5 D6 ν5 hD5 hp5=>aF ν5 (aGG _)<|Zz ?_));refine fun a w hh=>cZ (P:=Tryz.prog) (fn:=Tryz.f171) (A:=[]) (ν':=ν5) (B:=[]) (vs:=[]) rfl rfl rfl aLJ (fun D' hD=>hp5) a w (hh.boxesEq (aGG _).symm)
theorem OT(wb:Nat)(s:aN)(pv cv hv lv mv bl bc yc yq nv:Value)(a b:Int)(ν:aC)(D:aA)(hn:Sl D RI 1 nv [a,b])(ha:bN 160 3 bl s.book.lines.length (s.book.lines.flatMap cL) ν)(hsm:s.book.lines.length≤100):iZ Tryz.prog 181 [.pointer (some ⟨wb,0,none⟩),nv] D ((wb,.cells (bO s pv cv hv lv mv bl bc yc yq).toArray 253 (0,0))::ν) (fun _ _ ν'=>(max a b<s.book.chairs∧(s.book.lines.length:Int)<8)∧∃v1 ν1,ν'=(wb,.cells (bO s pv cv hv lv mv v1 bc yc yq).toArray 253 (0,0))::ν1∧bN 160 3 v1 (s.book.lines.length+1) ((s.book.lines++[(⟨1,a,b⟩:C3.eZ)]).flatMap cL) ν1) (fun v=>(s.book.chairs≤max a b∧v=dS 7)∨(max a b<s.book.chairs∧8≤(s.book.lines.length:Int)∧v=dS 3)):=by
 refine dH 7 Tryz.func181 rfl rfl rfl rfl (fun h0 hwl hwn=>C.rg<|Za rfl<|Za rfl<|aF ((wb,.cells (bO s pv cv hv lv mv bl bc yc yq).toArray 253 (0,0))::ν++[]) (aGG _).symm<|Ze [] [] ((wb,.cells (bO s pv cv hv lv mv bl bc yc yq).toArray 253 (0,0))::ν) rfl (Or.inl rfl) (rP ha) (fun D5 hD5=>zF wb s pv cv hv lv mv bl bc yc yq nv a b ν _ (hn.up RI.up (hD5 _ Ye)) ha hsm 1) (fun v5 D6 hD5 hp5=>bX (P:=Tryz.prog) (fn:=Tryz.f181) rfl hp5) (fun v5 D6 ν5 hD5 hp5=>aF ν5 (aGG _)<|Zz ?_));refine fun a w hh=>cZ (P:=Tryz.prog) (fn:=Tryz.f181) (A:=[]) (ν':=ν5) (B:=[]) (vs:=[]) rfl rfl rfl aLJ (fun D' hD=>hp5) a w (hh.boxesEq (aGG _).symm)
theorem NL(wb:Nat)(s:aN)(pv cv hv lv mv bl bc yc yq nv:Value)(a b:Int)(ν:aC)(D:aA)(hn:Sl D RI 1 nv [a,b])(ha:bN 160 3 bl s.book.lines.length (s.book.lines.flatMap cL) ν)(hsm:s.book.lines.length≤100):iZ Tryz.prog 182 [.pointer (some ⟨wb,0,none⟩),nv] D ((wb,.cells (bO s pv cv hv lv mv bl bc yc yq).toArray 253 (0,0))::ν) (fun _ _ ν'=>(max a b<s.book.chairs∧(s.book.lines.length:Int)<8)∧∃v1 ν1,ν'=(wb,.cells (bO s pv cv hv lv mv v1 bc yc yq).toArray 253 (0,0))::ν1∧bN 160 3 v1 (s.book.lines.length+1) ((s.book.lines++[(⟨2,a,b⟩:C3.eZ)]).flatMap cL) ν1) (fun v=>(s.book.chairs≤max a b∧v=dS 7)∨(max a b<s.book.chairs∧8≤(s.book.lines.length:Int)∧v=dS 3)):=by
 refine dH 7 Tryz.func182 rfl rfl rfl rfl (fun h0 hwl hwn=>C.rg<|Za rfl<|Za rfl<|aF ((wb,.cells (bO s pv cv hv lv mv bl bc yc yq).toArray 253 (0,0))::ν++[]) (aGG _).symm<|Ze [] [] ((wb,.cells (bO s pv cv hv lv mv bl bc yc yq).toArray 253 (0,0))::ν) rfl (Or.inl rfl) (rP ha) (fun D5 hD5=>zF wb s pv cv hv lv mv bl bc yc yq nv a b ν _ (hn.up RI.up (hD5 _ Ye)) ha hsm 2) (fun v5 D6 hD5 hp5=>bX (P:=Tryz.prog) (fn:=Tryz.f182) rfl hp5) (fun v5 D6 ν5 hD5 hp5=>aF ν5 (aGG _)<|Zz ?_));refine fun a w hh=>cZ (P:=Tryz.prog) (fn:=Tryz.f182) (A:=[]) (ν':=ν5) (B:=[]) (vs:=[]) rfl rfl rfl aLJ (fun D' hD=>hp5) a w (hh.boxesEq (aGG _).symm)
end L12
end Go.Fs
namespace Go.Fs
open Go.Proofs
namespace L12
open C12
theorem JL{α:Type}{f:α→List Value}{n i k:Nat}(h:∀x,(f x).length=n){xs:List α}{x:α}{v:Value}{junk:List Value}(hx:xs[i]?= some x)(hk:k<n)(hv:(f x)[k]?= some v):(xs.flatMap f++junk)[0+i*n+k]?= some v:=by
 have h1:=T3 h hx junk;have h2:(((xs.flatMap f++junk).drop (i*n)).take n)[k]?= some v:=by rw[h1];exact hv
 rw[aJC hk,aIQ]at h2;rw[aJA];exact h2
theorem AO{α:Type}{f:α→List Value}{n i k off:Nat}(h:∀x,(f x).length=n){xs:List α}{x x2:α}{v:Value}{junk:List Value}(hx:xs[i]?= some x)(hk:k<n)(h2:f x2=(f x).take k++[v]++(f x).drop (k+1))(ho:off=i*n+k):(xs.flatMap f++junk).take off++[v]++(xs.flatMap f++junk).drop (off+ [v].length)=(xs.set i x2).flatMap f++junk:=by
 subst ho;induction xs generalizing i with
 |nil=>simp at hx
 |cons d xs ih=>
  have e:(d::xs).flatMap f++junk=f d++(xs.flatMap f++junk):=by simp
  cases i with
  |zero=>
   obtain rfl:d=x:=by simpa using hx
   have e2:((d::xs).set 0 x2).flatMap f++junk=f x2++(xs.flatMap f++junk):=by simp
   rw[aKG,aJA,e,e2,h2,aHN (by rw[h];omega),aJE,List.drop_append_of_le_length (by rw[h];omega)];simp
  |succ i=>
   have e2:((d::xs).set (i+1) x2).flatMap f++junk=f d++((xs.set i x2).flatMap f++junk):=by simp
   rw[e,e2,show(i+1)*n+k=(f d).length+(i*n+k) by rw[h,aIW];omega,List.take_length_add_append,show(f d).length+(i*n+k)+ [v].length=(f d).length+(i*n+k+ [v].length) by omega,aKK,aGN,aGN];congr 1;rw[←aGN];exact ih (by simpa using hx)
def HK(p:C7.Pt)(i:Nat)(v:Int):C7.Pt:=if i=0 then {p with a:=v}else if i=1 then {p with b:=v}else {p with c:=v}
theorem aCF{x:C7.Ch}{i:Nat}{v:Int}(h:i<3):cH {x with parts:=HK x.parts i v}=(cH x).take (1+i)++[.int .i64 v]++(cH x).drop (1+i+1):=by
 have:i=0∨i=1∨i=2:=by omega
 rcases this with rfl|rfl|rfl<;>rfl
theorem DF(wb:Nat)(s:aN)(pv cv hv lv mv bl bc yc yq nv:Value)(a:Int)(ν:aC)(D:aA)(hn:Sl D RI 1 nv [a])(ha:bN 160 3 bl s.book.lines.length (s.book.lines.flatMap cL) ν)(hsm:s.book.lines.length≤100)(ha0:0≤a):iZ Tryz.prog 183 [.pointer (some ⟨wb,0,none⟩),nv] D ((wb,.cells (bO s pv cv hv lv mv bl bc yc yq).toArray 253 (0,0))::ν) (fun _ _ ν'=>∃x,s.book.lines[a.toNat]?= some x∧(x.token≠ -1)∧∃ν1,ν'=(wb,.cells (bO s pv cv hv lv mv bl bc yc yq).toArray 253 (0,0))::ν1∧bN 160 3 bl s.book.lines.length ((s.book.lines.set a.toNat {x with token:= -1}).flatMap cL) ν1) (fun v=>((s.book.lines.length:Int)≤a∧v=dS 7)∨(∃x,s.book.lines[a.toNat]?= some x∧x.token= -1∧v=dS 6)):=by
 obtain⟨bt,ot,ct,rfl⟩:=gX hn Ye;have hbt:=jX hn;refine dH 36 Tryz.func183 rfl rfl rfl rfl (fun h0 hwl hwn=>aL<|C.drawPA [] 7 11 1016 (fun _ _ _ _ he h=>cT (P:=Tryz.prog) (fn:=Tryz.f183) _ _ _ _ he h)<|Za rfl<|aO rfl U25 Tf.s3 rfl hn rfl Yd rfl rfl aLJ (fun cs1 hr1 hcl1 hA1=>?_));obtain rfl:cs1=[.int .i64 _]:=hr1;refine Zf 0 rfl Tf.a3 rfl hA1 rfl<|Za rfl<|Zae rfl<|Zi rfl Tf.f253_0 rfl<|Zi rfl Tf.f42_2 rfl<|Zi rfl Tf.f36_3 rfl<|Zl rfl Tf.a33 rfl (List.Mem.head _) rfl<|dL rfl U33 rfl ha rfl rfl trivial<|Ze [(_,_)] ν [] rfl (Or.inr (fun p hp=>by cases hp)) (fun p hp=>by cases hp) (fun D5 hD5=>hG a (s.book.lines.length:Int) _) (fun v5 D6 hD5 hp5=>bX (P:=Tryz.prog) (fn:=Tryz.f183) rfl (aGR ⟨hp5.1,hp5.2⟩)) (fun v5 D6 ν5 hD5 hp5=>?_);obtain⟨hf5,rfl⟩:=hp5;refine L.n2 ?_;obtain⟨bx,cap,junk,rfl,hcap,rfl,hl1,hl2⟩:=ha.some Yd;obtain⟨x,hx⟩:=C.ge s.book.lines (a.toNat);refine C.drawPA [] 6 11 448 (fun _ _ _ _ he h=>cT (P:=Tryz.prog) (fn:=Tryz.f183) _ _ _ _ he h)<|Za rfl<|Zae rfl<|Zi rfl Tf.f253_0 rfl<|Zi rfl Tf.f42_2 rfl<|Zi rfl Tf.f36_3 rfl<|Zl rfl Tf.a33 rfl (List.Mem.head _) rfl<|Za rfl<|aO rfl U25 Tf.s3 rfl hn rfl Yd rfl rfl aLJ (fun cs2 hr2 hcl2 hA2=>?_);obtain rfl:cs2=[.int .i64 _]:=hr2;refine Zf 0 rfl Tf.a3 rfl hA2 rfl<|eY rfl U33 Tf.s160 rfl rfl Yd Yd rfl trivial<|Zh rfl<|L.n3<|Za rfl<|Zae rfl<|Zi rfl Tf.f160_2 rfl<|aS (v:=.int .i64 x.token) rfl Tf.a3 rfl (LE _ (GE _)) (by simpa using JL (f:=cL) (n:=3) (k:=2) (fun _=>rfl) hx Yd rfl) GT rfl trivial<|dK rfl rfl rfl rfl trivial<|Zp rfl U327 Tf.s4 Tf.z4 rfl rfl rfl rfl (.cons rfl rfl .nil) (fun b901 D901 hD901 hA901=>Ze [(_,_),(_,_)] [] [] rfl (aGH (fun p hp=>by cases hp)) (fun p hp=>by cases hp) (fun D7 hD7=>dU 6 [decide (x.token= -1)] _ _ ((fA (l:=[decide (x.token= -1)]) (fun _ _ _ h=>h) hA901 Ye).up RB.up (hD7 _ Ye))) (fun v7 D8 hD7 hp7=>bX (P:=Tryz.prog) (fn:=Tryz.f183) rfl (aGH ⟨x,hx,by simpa using hp7.1,hp7.2⟩)) (fun v7 D8 ν7 hD7 hp7=>?_));obtain⟨hf70,rfl⟩:=hp7;have hf7:x.token≠ -1:=by simpa using hf70
 refine L.n1<|C.rg<|Za rfl<|Zae rfl<|Zi rfl Tf.f160_2 rfl<|aX (off:=0+a.toNat*3+2) (us:=[.int .i64 (-1)]) (ws:=((s.book.lines.set a.toNat {x with token:= -1}).flatMap cL)++junk) rfl rfl rfl rfl Tf.s3 (.tail .head) (by rw[aGC,bJ (f:=cL) (n:=3) (fun _=>rfl)];simp;omega) (AO (f:=cL) (n:=3) (xs:=s.book.lines) (i:=a.toNat) (k:=2) (x:=x) (x2:={x with token:= -1}) (fun _=>rfl) hx Yd rfl Yd) Yi trivial<|Zz ?_;exact cZ (A:=[]) (ν':=[_,_]) (B:=[]) (vs:=[]) rfl rfl rfl aLJ (fun D' hD=>⟨x,hx,hf7,_,rfl,aGH ⟨bx,cap,junk,rfl,hcap,rfl,by rw[bJ (n:=3) (fun _=>rfl),aKE],by rw[aGC,bJ (n:=3) (fun _=>rfl),aKE,←hl2,aGC,hl1]⟩⟩)
theorem QG(wb:Nat)(s:aN)(pv cv hv lv mv bl bc yc yq nv:Value)(a b c:Int)(ν:aC)(D:aA)(hn:Sl D RI 1 nv [a,b,c])(ha:bN 103 4 yc s.yard.chairs.length (s.yard.chairs.flatMap cH) ν)(hsm:s.yard.chairs.length≤100)(ha0:0≤a)(hb0:0≤b):iZ Tryz.prog 186 [.pointer (some ⟨wb,0,none⟩),nv] D ((wb,.cells (bO s pv cv hv lv mv bl bc yc yq).toArray 253 (0,0))::ν) (fun _ _ ν'=>∃x,s.yard.chairs[a.toNat]?= some x∧(b<3∧c≤2)∧∃ν1,ν'=(wb,.cells (bO s pv cv hv lv mv bl bc yc yq).toArray 253 (0,0))::ν1∧bN 103 4 yc s.yard.chairs.length ((s.yard.chairs.set a.toNat {x with parts:=HK x.parts b.toNat c}).flatMap cH) ν1) (fun v=>((s.yard.chairs.length:Int)≤a∧v=dS 7)∨(a<(s.yard.chairs.length:Int)∧3≤b∧v=dS 7)∨(a<(s.yard.chairs.length:Int)∧b<3∧2<c∧v=dS 2)):=by
 obtain⟨bt,ot,ct,rfl⟩:=gX hn Ye;have hbt:=jX hn;refine dH 41 Tryz.func186 rfl rfl rfl rfl (fun h0 hwl hwn=>aL<|C.drawPA [] 7 11 1016 (fun _ _ _ _ he h=>cT (P:=Tryz.prog) (fn:=Tryz.f186) _ _ _ _ he h)<|Za rfl<|aO rfl U25 Tf.s3 rfl hn rfl Yd rfl rfl aLJ (fun cs1 hr1 hcl1 hA1=>?_));obtain rfl:cs1=[.int .i64 _]:=hr1;refine Zf 0 rfl Tf.a3 rfl hA1 rfl<|Za rfl<|Zae rfl<|Zi rfl Tf.f253_0 rfl<|Zi rfl Tf.f42_3 rfl<|Zi rfl Tf.f40_0 rfl<|Zl rfl Tf.a37 rfl (List.Mem.head _) rfl<|dL rfl U37 rfl ha rfl rfl trivial<|Ze [(_,_)] ν [] rfl (Or.inr (fun p hp=>by cases hp)) (fun p hp=>by cases hp) (fun D5 hD5=>hG a (s.yard.chairs.length:Int) _) (fun v5 D6 hD5 hp5=>bX (P:=Tryz.prog) (fn:=Tryz.f186) rfl (aGR ⟨hp5.1,hp5.2⟩)) (fun v5 D6 ν5 hD5 hp5=>?_);obtain⟨hf5,rfl⟩:=hp5;refine L.n3<|Za rfl<|aO rfl U25 Tf.s3 rfl hn rfl Yd rfl rfl aLJ (fun cs2 hr2 hcl2 hA2=>?_);obtain rfl:cs2=[.int .i64 _]:=hr2;refine Zf 0 rfl Tf.a3 rfl hA2 rfl<|Ze [(_,_)] ν [] rfl (Or.inr (fun p hp=>by cases hp)) (fun p hp=>by cases hp) (fun D7 hD7=>hG b 3 _) (fun v7 D8 hD7 hp7=>bX (P:=Tryz.prog) (fn:=Tryz.f186) rfl (aGH (aGR ⟨hf5,hp7.1,hp7.2⟩))) (fun v7 D8 ν7 hD7 hp7=>?_);obtain⟨hf7,rfl⟩:=hp7;refine L.n3<|Za rfl<|aO rfl U25 Tf.s3 rfl hn rfl Yd rfl rfl aLJ (fun cs3 hr3 hcl3 hA3=>?_);obtain rfl:cs3=[.int .i64 _]:=hr3;refine Zf 0 rfl Tf.a3 rfl hA3 rfl<|Ze [(_,_)] ν [] rfl (Or.inr (fun p hp=>by cases hp)) (fun p hp=>by cases hp) (fun D9 hD9=>oA c 2 _) (fun v9 D10 hD9 hp9=>bX (P:=Tryz.prog) (fn:=Tryz.f186) rfl (aGH (aGH ⟨hf5,hf7,hp9.1,hp9.2⟩))) (fun v9 D10 ν9 hD9 hp9=>?_);obtain⟨hf9,rfl⟩:=hp9;refine L.n1 ?_;obtain⟨bx,cap,junk,rfl,hcap,rfl,hl1,hl2⟩:=ha.some Yd;obtain⟨x,hx⟩:=C.ge s.yard.chairs (a.toNat);refine C.drawPA [] 5 19 131008 (fun _ _ _ _ he h=>cT (P:=Tryz.prog) (fn:=Tryz.f186) _ _ _ _ he h)<|Za rfl<|Zae rfl<|Zi rfl Tf.f253_0 rfl<|Zi rfl Tf.f42_3 rfl<|Zi rfl Tf.f40_0 rfl<|Zl rfl Tf.a37 rfl (List.Mem.head _) rfl<|Za rfl<|aO rfl U25 Tf.s3 rfl hn rfl Yd rfl rfl aLJ (fun cs4 hr4 hcl4 hA4=>?_);obtain rfl:cs4=[.int .i64 _]:=hr4;refine Zf 0 rfl Tf.a3 rfl hA4 rfl<|Za rfl<|aO rfl U25 Tf.s3 rfl hn rfl Yd rfl rfl aLJ (fun cs5 hr5 hcl5 hA5=>?_);obtain rfl:cs5=[.int .i64 _]:=hr5;refine Zf 0 rfl Tf.a3 rfl hA5 rfl<|Za rfl<|aO rfl U25 Tf.s3 rfl hn rfl Yd rfl rfl aLJ (fun cs6 hr6 hcl6 hA6=>?_);obtain rfl:cs6=[.int .i64 _]:=hr6;refine Zf 0 rfl Tf.a3 rfl hA6 rfl<|eY rfl U37 Tf.s103 rfl rfl Yd Yd rfl trivial<|Zi rfl Tf.f103_1 rfl<|dR rfl U101 Tf.s3 rfl rfl Yd Yd rfl trivial<|aX (off:=0+a.toNat*4+1+b.toNat*1) (us:=[.int .i64 c]) (ws:=((s.yard.chairs.set a.toNat {x with parts:=HK x.parts b.toNat c}).flatMap cH)++junk) rfl rfl rfl rfl Tf.s3 (.tail .head) (by rw[aGC,bJ (f:=cH) (n:=4) (fun _=>rfl)];simp;omega) (AO (f:=cH) (n:=4) (xs:=s.yard.chairs) (i:=a.toNat) (k:=(1+b.toNat)) (x:=x) (x2:={x with parts:=HK x.parts b.toNat c}) (fun _=>rfl) hx Yd (aCF Yd) Yd) Yi trivial<|Zz ?_
 exact cZ (A:=[]) (ν':=[_,_]) (B:=[]) (vs:=[]) rfl rfl rfl aLJ (fun D' hD=>⟨x,hx,⟨hf7,hf9⟩,_,rfl,aGH ⟨bx,cap,junk,rfl,hcap,rfl,by rw[bJ (n:=4) (fun _=>rfl),aKE],by rw[aGC,bJ (n:=4) (fun _=>rfl),aKE,←hl2,aGC,hl1]⟩⟩)
end L12
end Go.Fs
namespace Go.Fs
open Go.Proofs
namespace L12
open C12
def eD(xs:List ByteArray):Int:=if(decide ((40:Int)<(xs.length:Int))|| !xs.all fun l=>decide ((l.size:Int)≤50))=true then 3 else 0
theorem XG(m:Int)(l:ByteArray)(D:aA):Fn Tryz.prog 61 #[.int .i64 m,.string l] D (fun _ v=>v=.bool (decide ((l.size:Int)≤m))):=by
 refine enter 9 Tryz.func61 rfl rfl rfl rfl fun h0=>C.s1<|Zh rfl<|L.n3<|Za rfl<|gE rfl U9 rfl rfl rfl trivial<|Za rfl<|hP rfl rfl rfl rfl trivial<|Zh rfl<|L.n5 ?_
 exact leave1 rfl rfl rfl rfl (fun D hD=>rfl)
theorem S5(sv fv:Value)(xs:List ByteArray)(p:ByteArray→Bool)(D:aA)(hS:Sl D RS 1 sv xs)(hp:cD Tryz.prog D Value.string fv p):
  Fn Tryz.prog 200 #[sv,fv] D (fun _ v=>v=.int .i64 (idxOf p xs)):=by
 have hl:=hS.len;obtain⟨f,c1,c2,rfl,hf⟩:=hp;refine enter 19 Tryz.func200 rfl rfl rfl rfl fun h0=>C.s1<|Zh rfl<|L.n4<|Za rfl<|aV rfl U22 rfl Yk rfl rfl trivial<|Za rfl<|L.n1<|Zah<|cG (γ:=Nat) (fun k=>xs.length-k) (fun k=>k≤xs.length∧(xs.take k).any p=false) (fun k=>[(8,.int .i64 k)]) [(7,_),(4,_),(0,_),(1,_)] (fun k=>[D]) 0 Ye ⟨Yb,aLJ⟩ C.rs (aD) ?_
 rintro k ⟨h1,h2⟩;refine C.s1<|Zad rfl<|L.n2<|aE rfl (fun hc1=>?_) (fun hc1=>?_)
 ·have hk:k<xs.length:=by omega
  obtain⟨x,hx⟩:=C.ge xs k;refine C.kn<|aL<|Zah<|C.s1<|Za rfl<|Zh rfl<|L.n3<|Za rfl<|Za rfl<|Za rfl<|cR rfl U22 Tf.s9 rfl Yk rfl Yd Yk rfl aLJ (fun b1 o1 cs1 hr1 hcl1 hA1=>?_);obtain rfl:cs1=[.string _]:=hr1;refine Zf 0 rfl Tf.a9 rfl hA1 rfl<|Zc rfl (fun D1 hD1=>hf x _ (hD1 _ Ye))<|L.n1<|aQ rfl (fun hc2=>?_) (fun hc2=>?_)
  ·refine C.s1<|Za rfl<|Zh rfl<|L.n5<|aG<|Zaj<|Zaj<|aG<|Zaj ?_;exact leave1 rfl rfl rfl rfl (fun D hD=>by show Value.int _ _=_;rw[L1.gT hx h2 hc2])
  ·refine bR<|Zak<|Zag<|C.rg<|Zx rfl<|Za rfl<|Zz ?_;have hpx:p x=false:=hc2;have h3:(xs.take (k+1)).any p=false:=by rw[aGT,hx,aJQ,h2];simp[hpx]
   exact aH 12 (k+1) ⟨by omega,h3⟩ Yd ⟨Yb,aLJ⟩ rfl rfl (LT _) (aD)
 ·refine aR<|Zai<|Zai<|Zal<|Zag<|C.s1<|Zh rfl<|L.n5 ?_;exact leave1 rfl rfl rfl rfl (fun D hD=>by show Value.int _ _=_;rw[L1.eQ Yab])
theorem yM(sv fv:Value)(xs:List ByteArray)(p:ByteArray→Bool)(D:aA)(hS:Sl D RS 1 sv xs)(hp:cD Tryz.prog D Value.string fv p):
  Fn Tryz.prog 119 #[sv,fv] D (fun _ v=>v=.bool (xs.any p)):=by
 refine enter 9 Tryz.func119 rfl rfl rfl rfl fun h0=>C.s1<|Zh rfl<|L.n3<|Za rfl<|Za rfl<|Zc rfl (fun D1 hD1=>S5 _ _ xs p _ (Sl.at RS.up hD1 Yk Ye) (hp.up (hD1 _ Ye)))<|nJ rfl rfl rfl rfl trivial<|Zh rfl<|L.n5 ?_
 exact leave1 rfl rfl rfl rfl (fun D hD=>by show Value.bool (decide _)=_;rw[L1.gS])
theorem TX(b:Nat)(fv:Value)(p:ByteArray→Bool)(x:ByteArray)(D:aA)(hp:cD Tryz.prog D Value.string fv p)(hB:At D b 0 [fv]):
  Fn Tryz.prog 120 #[.string x,.pointer (some ⟨b,0,none⟩)] D (fun _ v=>v=.bool (!p x)):=by
 obtain⟨f,c1,c2,rfl,hf⟩:=hp;refine enter 8 Tryz.func120 rfl rfl rfl rfl fun h0=>C.s1<|Zh rfl<|L.n3<|Zf 0 rfl Tf.a150 rfl hB rfl<|Za rfl<|Zc rfl (fun D1 hD1=>hf x _ (hD1 _ Ye))<|Zaf rfl<|Zh rfl<|L.n5 ?_
 exact leave1 rfl rfl rfl rfl (fun D hD=>rfl)
theorem aAA(sv fv:Value)(xs:List ByteArray)(p:ByteArray→Bool)(D:aA)(hS:Sl D RS 1 sv xs)(hp:cD Tryz.prog D Value.string fv p)(h1:fv.cells=#[fv]):
  Fn Tryz.prog 62 #[sv,fv] D (fun _ v=>v=.bool (xs.all p)):=by
 refine enter 9 Tryz.func62 rfl rfl rfl rfl fun h0=>C.s1<|mA (vs:=[fv]) rfl rfl h1 rfl aLJ (fun b D1 hD1 hB=>Zh rfl<|L.n3<|Za rfl<|bB rfl rfl rfl rfl trivial<|Zc rfl (fun D1 hD1=>yM _ _ xs (fun x=> !p x) _ (Sl.at RS.up hD1 Yk Ye) ⟨_,[],[.pointer (some ⟨b,0,none⟩)],rfl,fun x D2 hl=>TX b fv p x D2 (hp.up ((hD1 _ Ye).trans hl)) (hB.up ((hD1 _ Ye).trans hl))⟩)<|Zaf rfl<|Zh rfl<|L.n5 ?_)
 exact leave1 rfl rfl rfl rfl (fun D hD=>by show Value.bool (!_)=_;rw[L1.jW])
theorem qH(sv:Value)(xs:List ByteArray)(D:aA)(hS:Sl D RS 1 sv xs):Fn Tryz.prog 30 #[sv] D (fun _ v=>v=.int .i64 (eD xs)):=by
 have hl:=hS.len;refine enter 14 Tryz.func30 rfl rfl rfl rfl fun h0=>C.s1<|Zh rfl<|L.n3<|bB rfl rfl rfl rfl trivial<|Zh rfl<|L.n4<|Za rfl<|aV rfl U22 rfl Yk rfl rfl trivial<|eT rfl rfl rfl rfl trivial<|Za rfl ?_
 refine' L.orK 5 (s:=8) (p:=13) rfl (fun hg1=>?_) (fun hg1=>?_) ?_;rotate_left
 ·refine Zb rfl<|Zb rfl<|Zd rfl (fun D1 hD1=>aAA _ _ xs (fun l=>decide ((l.size:Int)≤50)) _ (Sl.at RS.up hD1 Yk Ye) ⟨_,[_],[],rfl,fun l D2 _=>XG 50 l D2⟩ rfl)<|iW rfl rfl rfl ⟨_,rfl,rfl⟩<|Zac rfl ?_;exact L.cu 4
 ·refine Zk rfl<|Zk rfl<|Zk rfl<|Zk rfl<|Zab rfl ?_;exact L.cu 4
 refine L.n1<|aQ rfl (fun hc1=>?_) (fun hc1=>?_)
 ·refine C.s1<|Zh rfl<|L.n5<|Zaj ?_;exact leave1 rfl rfl rfl rfl (fun D hD=>by show Value.int _ _=_;rw[eD,aGX hc1])
 ·refine C.kn<|C.s1<|Zh rfl<|L.n5 ?_;exact leave1 rfl rfl rfl rfl (fun D hD=>by show Value.int _ _=_;rw[eD,aGQ (by rw[hc1];simp)])
end L12
end Go.Fs
namespace Go.Fs
variable{P:Program}{X:Cx}{γb:Type}[Membership Nat γb]{bad:γb}{all:Array Oper}{K:Act→World→Prop}{Q:Exit→Act→World→Prop}
variable{σ:bQ}{μ:aC}{Ds:List aA}{os:List (Bool×Nat)}{fl:Bool}{ix:Nat}
variable{d:Nat}{x y z:Operand}{u v:Value}{ty:TypeId}{pos:String}{aft:Array Edge}{g:Option (Nat×Bool)}
theorem qP{A B:aC}{t e tr:TypeId}{b o i m cap c2 sz:Nat}{vs xs:List Value}{ats:Array TypeId}
  (ho:all[ix]?= some ⟨some d,.call {callee:=.builtin .append,args:=#[x,y],argTypes:=ats},tr,pos,aft,g⟩) (ht:P.underlying t=some (.slice e)) (hat:ats[0]?= some t) (hat1:ats[1]?= some t) (hs:TS P e sz)
  (hx:ev σ x=some (.slice (some ⟨b,0,none⟩) i cap)) (hy:ev σ y=some (.slice (some ⟨b,o,none⟩) m c2)) (hxs:(vs.drop o).take (m*sz)=xs) (hxl:xs.length=m*sz) (hfit:i+m≤cap) (hin:i*sz+m*sz≤vs.length) (hx1:∀u∈xs,cell1 u=true)
  (hfl:fl=false∨b∈bad) (hN:Nat.blt d X.N=true) (hg:cS all σ g)
  (kk:WL P X bad all K Q os ((d,.slice (some ⟨b,0,none⟩) (i+m) cap)::σ) (A++(b,.cells (vs.take (i*sz)++xs++vs.drop (i*sz+m*sz)).toArray e (0,0))::B) Ds):
  WL P X bad all K Q ((fl,ix)::os) σ (A++(b,.cells vs.toArray e (0,0))::B) Ds:=by
 refine dI ho rfl rfl hg fun a w hh=>?_
 obtain⟨h1,h2,h3,D,h4,h5,h6⟩:=id hh;have hbx:=(h4.box (b,.cells vs.toArray e (0,0)) Ye).1;have hex:(execOp a.eval ⟨some d,.call {callee:=.builtin .append,args:=#[x,y],argTypes:=ats},tr,pos,aft,g⟩).run P w=
   ((Builtin.append_ ats tr #[.slice (some ⟨b,0,none⟩) i cap,.slice (some ⟨b,o,none⟩) m c2]).run P w).andThen fun r w'=>.ok (.value r) w':=by
  simp only[execOp,resolve,pure_bind,invoke,builtin];have e1:(#[x,y].map a.eval)=#[.slice (some ⟨b,0,none⟩) i cap,.slice (some ⟨b,o,none⟩) m c2]:=by simp[hh.eval hx,hh.eval hy]
  rw[e1,Sem.run_bind];simp only[Sem.run_pure]
 rw[hex];have hm:(Builtin.lenOf (.slice (some ⟨b,o,none⟩) m c2)).run P w=.ok m w:=rfl;have hfc:(Builtin.firstCells sz m (.slice (some ⟨b,o,none⟩) m c2)).run P w=.ok xs.toArray w:=by
  simp only[Builtin.firstCells];refine iD hxl fun j u hj=>kS (cs:=vs.toArray) hbx ?_
  have hjl:=(aGJ.1 hj).1;rw[←hxs,aJC Yd,aIQ]at hj;simpa using hj
 obtain⟨w',hr,hw'⟩:=fU (P:=P) xs 0 w b (i*sz) vs e hbx Yd hx1;rw[jU (tr:=tr) (w':=w') ht hat hat1 hs hm hfc hfit (by
  show(storeCells ((⟨b,0,none⟩:Addr).add (i*sz)) xs).run P w=_;rw[dW,aJA];exact hr)]
 rw[Nat.add_zero,hxl]at hw';have hHas:bL (A++(b,.cells vs.toArray e (0,0))::B) b (.cells vs.toArray e (0,0)) (.cells (vs.take (i*sz)++xs++vs.drop (i*sz+m*sz)).toArray e (0,0)) (A++(b,.cells (vs.take (i*sz)++xs++vs.drop (i*sz+m*sz)).toArray e (0,0))::B):=.app .head;have hst:=h4.set hHas hw' rfl;refine⟨fun hf=>⟨by rw[hw'.1];simp,fun c hc hcb=>?_⟩,kk _ _ (Hl.put ⟨h1,h2,h3,D,hst,h5,h6.step (fun _ p hp=>aGR Yq) (fun _=>gF hw' (aGA.2 ⟨_,hHas.mem,rfl⟩)) hst.dom⟩ hN _)⟩
 have hb:b∈bad:=by
  rcases hfl with h|h
  ·rw[hf]at h;cases h
  ·exact h
 rw[hw'.1,aIS (by rintro rfl;exact hcb hb)]
theorem wI{A B:aC}{t e tr:TypeId}{b o n c:Nat}{z0:Value}{vs zs:List Value}{dd:Option Nat}{ats:Array TypeId}
  (ho:all[ix]?= some ⟨dd,.call {callee:=.builtin .clear,args:=#[x],argTypes:=ats},tr,pos,aft,g⟩) (hdd:dd=none) (ht:P.underlying t=some (.slice e)) (hat:ats[0]?= some t) (hz:TZ P e z0) (hx:ev σ x=some (.slice (some ⟨b,o,none⟩) n c)) (hn:n≠0)
  (hzs:Builtin.zeroCells z0.cells n=zs.toArray) (hin:o+zs.length≤vs.length) (hz1:∀u∈zs,cell1 u=true) (hg:cS all σ g)
  (kk:WL P X bad all K Q os σ (A++(b,.cells (vs.take o++zs++vs.drop (o+zs.length)).toArray e (0,0))::B) Ds):
  WL P X bad all K Q ((false,ix)::os) σ (A++(b,.cells vs.toArray e (0,0))::B) Ds:=by
 subst hdd;refine dI ho rfl rfl hg fun a w hh=>?_
 obtain⟨h1,h2,h3,D,h4,h5,h6⟩:=id hh;have hbx:=(h4.box (b,.cells vs.toArray e (0,0)) Ye).1;obtain⟨w',hr,hw'⟩:=fU (P:=P) zs 0 w b o vs e hbx Yd hz1;rw[Nat.add_zero]at hw';have hcl:(Builtin.clear_ ats tr #[.slice (some ⟨b,o,none⟩) n c]).run P w=.ok (.tuple #[]) w':=by
  have e1:(#[Value.slice (some ⟨b,o,none⟩) n c]:Array Value)[0]?= some (.slice (some ⟨b,o,none⟩) n c):=rfl;unfold Builtin.clear_;obtain⟨k,rfl⟩:∃k,n=k+1:=⟨n-1,by omega⟩
  simp only[hat,e1,Sem.run_bind,TU.of ht w,Result.andThen_ok,hz w,hzs,Sem.run_pure];rw[hr];rfl
 have hex:∃r,(execOp a.eval ⟨none,.call {callee:=.builtin .clear,args:=#[x],argTypes:=ats},tr,pos,aft,g⟩).run P w=.ok (.value r) w':=by
  refine⟨.tuple #[],?_⟩;simp only[execOp,resolve,pure_bind,invoke,builtin];have e1:(#[x].map a.eval)=#[.slice (some ⟨b,o,none⟩) n c]:=by simp[hh.eval hx]
  rw[e1,Sem.run_bind,hcl];rfl
 obtain⟨r,hex⟩:=hex;rw[hex];have hHas:bL (A++(b,.cells vs.toArray e (0,0))::B) b (.cells vs.toArray e (0,0)) (.cells (vs.take o++zs++vs.drop (o+zs.length)).toArray e (0,0)) (A++(b,.cells (vs.take o++zs++vs.drop (o+zs.length)).toArray e (0,0))::B):=.app .head;have hst:=h4.set hHas hw' rfl;exact⟨fun h=>by simp at h,kk _ _ ⟨h1,h2,h3,D,hst,h5,h6.step (fun _ p hp=>aGR Yq) (fun _=>gF hw' (aGA.2 ⟨_,hHas.mem,rfl⟩)) hst.dom⟩⟩
variable{z2:Operand}
theorem HI{t e:TypeId}{b i n cap sz:Nat}{k:IntKind}(ho:all[ix]?= some ⟨some d,.slice t x none (some z) none,ty,pos,aft,g⟩)(ht:P.underlying t=some (.slice e))(hs:TS P e sz)(hx:ev σ x=some (.slice (some ⟨b,0,none⟩) n cap))(hz:ev σ z=some (.int k (i:Int)))(hi:i≤cap)
  (hN:Nat.blt d X.N=true) (hg:cS all σ g) (kk:WL P X bad all K Q os ((d,.slice (some ⟨b,0,none⟩) i cap)::σ) μ Ds):WL P X bad all K Q ((fl,ix)::os) σ μ Ds:=by
 have ha:(if cap=0 then some (⟨b,0,none⟩:Addr)else(some (⟨b,0,none⟩:Addr)).map (·.add (0*sz)))=some ⟨b,0,none⟩:=by
  split
  ·rfl
  ·simp[Addr.add]
 refine bH ho rfl rfl hN hg (fun ρ hρ w'=>?_) kk;simp only[execOp,aIK,aHM,hρ x _ hx,hρ z _ hz];unfold Instr.sliceAt Instr.slice Instr.sliceBounds Instr.sliceBound asIntOf;have hle:(0:Int)≤(i:Int)∧(i:Int)≤(cap:Nat):=by omega
 simp only[Sem.run_bind,TU.of ht w',Result.andThen_ok,Sem.run_pure,pure_bind,hs w',hle,aLA,aII,aIH,aJN,ha]
theorem HW{t e:TypeId}{b j n cap sz:Nat}{k:IntKind}(ho:all[ix]?= some ⟨some d,.slice t x (some y) none none,ty,pos,aft,g⟩)(ht:P.underlying t=some (.slice e))(hs:TS P e sz)(hx:ev σ x=some (.slice (some ⟨b,0,none⟩) n cap))(hy:ev σ y=some (.int k (j:Int)))(hj:j≤n)
  (hN:Nat.blt d X.N=true) (hg:cS all σ g) (kk:∀o,(j<cap→o=j*sz)→WL P X bad all K Q os ((d,.slice (some ⟨b,o,none⟩) (n-j) (cap-j))::σ) μ Ds):WL P X bad all K Q ((fl,ix)::os) σ μ Ds:=by
 have ha:(if cap=j then some (⟨b,0,none⟩:Addr)else(some (⟨b,0,none⟩:Addr)).map (·.add (j*sz)))=some ⟨b,if cap=j then 0 else j*sz,none⟩:=by
  split
  ·rfl
  ·simp[dW]
 refine bH ho rfl rfl hN hg (fun ρ hρ w'=>?_) (kk (if cap=j then 0 else j*sz) fun h=>by rw[aGQ Yd]);simp only[execOp,aIK,aHM,hρ x _ hx,hρ y _ hy];unfold Instr.sliceAt Instr.slice Instr.sliceBounds Instr.sliceBound asIntOf;have hle:(0:Int)≤(j:Int)∧(j:Int)≤(n:Nat):=by omega
 simp only[Sem.run_bind,TU.of ht w',Result.andThen_ok,Sem.run_pure,pure_bind,hs w',hle,aLA,aII,aIH,ha]
theorem HT{t e:TypeId}{b l h n cap sz:Nat}{k k':IntKind}(ho:all[ix]?= some ⟨some d,.slice t x (some y) (some z) none,ty,pos,aft,g⟩)(ht:P.underlying t=some (.slice e))(hs:TS P e sz)(hx:ev σ x=some (.slice (some ⟨b,0,none⟩) n cap))(hy:ev σ y=some (.int k (l:Int)))(hz:ev σ z=some (.int k' (h:Int)))(h1:l≤h)(h2:h≤cap)(h3:l<cap)
  (hN:Nat.blt d X.N=true) (hg:cS all σ g) (kk:WL P X bad all K Q os ((d,.slice (some ⟨b,l*sz,none⟩) (h-l) (cap-l))::σ) μ Ds):WL P X bad all K Q ((fl,ix)::os) σ μ Ds:=by
 have ha:(if cap=l then some (⟨b,0,none⟩:Addr)else(some (⟨b,0,none⟩:Addr)).map (·.add (l*sz)))=some ⟨b,l*sz,none⟩:=by
  rw[aGQ Yd];simp[dW]
 refine bH ho rfl rfl hN hg (fun ρ hρ w'=>?_) kk;simp only[execOp,aIK,aHM,hρ x _ hx,hρ y _ hy,hρ z _ hz];unfold Instr.sliceAt Instr.slice Instr.sliceBounds Instr.sliceBound asIntOf;have a1:(0:Int)≤(l:Int)∧(l:Int)≤(h:Nat):=by omega
 have a2:(0:Int)≤(h:Int)∧(h:Int)≤(cap:Nat):=by omega
 simp only[Sem.run_bind,TU.of ht w',Result.andThen_ok,Sem.run_pure,pure_bind,hs w',a1,a2,aLA,aII,aIH,ha]
theorem HM{t e:TypeId}{b l h m n cap sz:Nat}{k k' k2:IntKind}(ho:all[ix]?= some ⟨some d,.slice t x (some y) (some z) (some z2),ty,pos,aft,g⟩)(ht:P.underlying t=some (.slice e))(hs:TS P e sz)(hx:ev σ x=some (.slice (some ⟨b,0,none⟩) n cap))(hy:ev σ y=some (.int k (l:Int)))(hz:ev σ z=some (.int k' (h:Int)))(hz2:ev σ z2=some (.int k2 (m:Int)))(h1:l≤h)(h2:h≤m)(h3:m≤cap)
  (hN:Nat.blt d X.N=true) (hg:cS all σ g) (kk:∀v,WL P X bad all K Q os ((d,v)::σ) μ Ds):WL P X bad all K Q ((fl,ix)::os) σ μ Ds:=by
 refine bH (v:=.slice (if m=l then some ⟨b,0,none⟩else(some (⟨b,0,none⟩:Addr)).map (·.add (l*sz))) (h-l) (m-l)) ho rfl rfl hN hg (fun ρ hρ w'=>?_) (kk _);simp only[execOp,aHM,hρ x _ hx,hρ y _ hy,hρ z _ hz,hρ z2 _ hz2];unfold Instr.sliceAt Instr.slice Instr.sliceBounds Instr.sliceBound asIntOf;have a1:(0:Int)≤(l:Int)∧(l:Int)≤(h:Nat):=by omega
 have a2:(0:Int)≤(h:Int)∧(h:Int)≤(m:Nat):=by omega
 have a3:(0:Int)≤(m:Int)∧(m:Int)≤(cap:Nat):=by omega
 simp only[Sem.run_bind,TU.of ht w',Result.andThen_ok,Sem.run_pure,pure_bind,hs w',a1,a2,a3,aLA,aII,aIH];rfl
theorem CD{t e:TypeId}{D₁:aA}{b o n cap j:Nat}{k:IntKind}{xs:List Int}(ho:all[ix]?= some ⟨some d,.slice t x (some y) none none,ty,pos,aft,g⟩)(ht:P.underlying t=some (.slice e))(hs:TS P e 1)(hx:ev σ x=some (.slice (some ⟨b,o,none⟩) n cap))(hS:Sl D₁ RI 1 (.slice (some ⟨b,o,none⟩) n cap) xs)(hy:ev σ y=some (.int k (j:Int)))(hj:j<n)
  (hN:Nat.blt d X.N=true) (hg:cS all σ g) (kk:Sl D₁ RI 1 (.slice (some ⟨b,o+j,none⟩) (n-j) (cap-j)) (xs.drop j)→WL P X bad all K Q os ((d,.slice (some ⟨b,o+j,none⟩) (n-j) (cap-j))::σ) μ Ds):WL P X bad all K Q ((fl,ix)::os) σ μ Ds:=by
 obtain⟨a,c,hv,h1,h2,h3⟩:=hS;cases hv;rcases h3 with h3|⟨b',o',ha,h3⟩
 ·subst h3;simp at hj
 cases ha;have ha:(if cap=j then some (⟨b,o,none⟩:Addr)else(some (⟨b,o,none⟩:Addr)).map (·.add (j*1)))=some ⟨b,o+j,none⟩:=by
  rw[aGQ Yd];simp[dW]
 refine bH ho rfl rfl hN hg (fun ρ hρ w'=>?_) (kk ⟨_,_,by rw[aHU],by rw[aHU];omega,by rw[aHU];omega,aGH ⟨b,o+j,rfl,fun i z hi=>?_⟩⟩)
 ·simp only[execOp,aIK,aHM,hρ x _ hx,hρ y _ hy];unfold Instr.sliceAt Instr.slice Instr.sliceBounds Instr.sliceBound asIntOf;have hle:(0:Int)≤(j:Int)∧(j:Int)≤(xs.length:Nat):=by omega
  simp only[Sem.run_bind,TU.of ht w',Result.andThen_ok,Sem.run_pure,pure_bind,hs w',hle,aLA,aII,aIH,ha]
 ·rw[aIQ]at hi;obtain⟨cs,hr,hc,hA⟩:=h3 _ _ hi;exact⟨cs,hr,hc,by rw[show o+j+i*1=o+(j+i)*1 by omega];exact hA⟩
theorem j3{t e:TypeId}{n len cap:Nat}{ad:Option Addr}(ho:all[ix]?= some ⟨some d,.sliceToArrayPointer t x,ty,pos,aft,g⟩)(ht:P.underlying t=some (.array n e))(hx:ev σ x=some (.slice ad len cap))(hl:n≤len)
  (hN:Nat.blt d X.N=true) (hg:cS all σ g) (kk:WL P X bad all K Q os ((d,.pointer ad)::σ) μ Ds):WL P X bad all K Q ((fl,ix)::os) σ μ Ds:=by
 refine dI ho rfl rfl hg fun a w hh=>?_
 have:(execOp a.eval ⟨some d,.sliceToArrayPointer t x,ty,pos,aft,g⟩).run P w=.ok (.value (.pointer ad)) w:=by
  simp only[execOp,hh.eval hx];unfold Instr.arrayAt;rw[Sem.run_bind,Sem.run_bind,TU.of ht w];simp only[Result.andThen_ok];rw[aGQ Yd];rfl
 rw[this];exact⟨fun _=>jI.refl _ _,kk _ _ (hh.put hN _)⟩
end Go.Fs
namespace Go.Fs
open Go.Proofs
namespace L12
open C12
section
variable{α:Type}{f:α→List Value}{n:Nat}(hf:∀x,(f x).length=n){xs:List α}{i:Nat}
include hf
theorem tR:((xs.drop (i+1)).flatMap f).length=(xs.length-(i+1))*n:=by rw[bJ hf,aHU]
theorem KD(k:Nat):(xs.flatMap f).take (k*n)=(xs.take k).flatMap f:=by
 induction xs generalizing k with
 |nil=>simp
 |cons x xs ih=>
  cases k with
  |zero=>simp
  |succ k=>
   rw[aHS,aLI,aHS,←ih k,show(k+1)*n=(f x).length+k*n by rw[hf,aIW];omega,List.take_length_add_append]
theorem JH(k:Nat):(xs.flatMap f).drop (k*n)=(xs.drop k).flatMap f:=by
 induction xs generalizing k with
 |nil=>simp
 |cons x xs ih=>
  cases k with
  |zero=>simp
  |succ k=>
   rw[aHS,aKZ,←ih k,show(k+1)*n=(f x).length+k*n by rw[hf,aIW];omega,aKK]
theorem B3{cap o:Nat}{junk:List Value}(hi:i<xs.length)(hcap:xs.length≤cap)(ho:i+1<cap→o=(i+1)*n)(_:(xs.flatMap f++junk).length=cap*n):((xs.flatMap f++junk).drop o).take ((xs.length-(i+1))*n)=(xs.drop (i+1)).flatMap f:=by
 by_cases h:i+1<xs.length
 ·rw[ho Yd,List.drop_append_of_le_length (by rw[bJ hf];exact aKR _ Yd),JH hf,aHN (by rw[tR hf];exact aGW _),aHE (by rw[tR hf];exact aGW _)]
 ·rw[show xs.length-(i+1)=0 by omega,aKG,List.take_zero,aHO Yd];rfl
theorem tX{junk:List Value}(hi:i<xs.length):(xs.flatMap f++junk).take (i*n)++(xs.drop (i+1)).flatMap f++(xs.flatMap f++junk).drop (i*n+(xs.length-(i+1))*n)=(xs.eraseIdx i).flatMap f++(xs.flatMap f++junk).drop ((xs.length-1)*n):=by
 rw[aHN (by rw[bJ hf];exact aKR _ Yd),KD hf,←aHG,←List.eraseIdx_eq_take_drop_succ,←aIW,show i+(xs.length-(i+1))=xs.length-1 by omega]
theorem xK{cap:Nat}{junk:List Value}(hi:i<xs.length)(_:(xs.flatMap f).length=xs.length*n)(hl2:(xs.flatMap f++junk).length=cap*n)(hcap:xs.length≤cap):((xs.eraseIdx i).flatMap f++(xs.flatMap f++junk).drop ((xs.length-1)*n)).length=cap*n:=by
 have h1:(xs.length-1)*n≤cap*n:=aKR _ Yd;rw[aGC,bJ hf,aKL hi,aHU,hl2];omega
theorem B4{cap b e:Nat}{junk zs:List Value}{cells:List Value}(hi:i<xs.length)(hl1:(xs.flatMap f).length=xs.length*n)(hl2:(xs.flatMap f++junk).length=cap*n)(hcap:xs.length≤cap)(hz:cells=((xs.eraseIdx i).flatMap f++(xs.flatMap f++junk).drop ((xs.length-1)*n)).take ((xs.length-1)*n)++zs++((xs.eraseIdx i).flatMap f++(xs.flatMap f++junk).drop ((xs.length-1)*n)).drop ((xs.length-1)*n+zs.length))(hzl:(xs.length-1)*n+zs.length≤cap*n:=by simp;omega):
  bN e n (.slice (some ⟨b,0,none⟩) (xs.length-1) cap) (xs.length-1) ((xs.eraseIdx i).flatMap f) [(b,.cells cells.toArray e (0,0))]:=by
 have hE:((xs.eraseIdx i).flatMap f).length=(xs.length-1)*n:=by rw[bJ hf,aKL hi]
 have hT:=xK hf hi hl1 hl2 hcap;subst hz;generalize hR:(xs.flatMap f++junk).drop ((xs.length-1)*n)=R at hT ⊢
 have e1:((xs.eraseIdx i).flatMap f++R).take ((xs.length-1)*n)=(xs.eraseIdx i).flatMap f:=by rw[←hE,aKP]
 rw[e1,aGN];refine aGH ⟨b,cap,_,rfl,by omega,rfl,hE,?_⟩;rw[aGC,aGC,aHU,hT,hE];omega
end
theorem EX(sv:Value)(xs:List C1.rO)(i:Nat)(ν:aC)(D:aA)(ha:bN 156 3 sv xs.length (xs.flatMap cC) ν)(hi:i<xs.length):Q1 Tryz.prog 254 [sv,.int .i64 (i:Int),.int .i64 ((i+1:Nat):Int)] D ν (fun _ v ν'=>bN 156 3 v (xs.length-1) ((xs.eraseIdx i).flatMap cC) ν'):=by
 obtain⟨b,cap,junk,rfl,hcap,rfl,hl1,hl2⟩:=ha.some Yd;refine fT 33 Tryz.func254 rfl rfl rfl rfl (fun h0 hwl hwn=>C.s1<|Zh rfl<|L.n3<|Za rfl<|Za rfl<|Za rfl<|Za rfl<|gW rfl U26 rfl rfl rfl trivial<|HM (l:=i) (h:=i+1) (m:=xs.length) rfl U26 Tf.s156 rfl rfl rfl rfl Yd Yd hcap rfl aLJ (fun v3=>L.n4<|Za rfl ?_));refine Za rfl<|dK rfl rfl rfl rfl trivial<|L.n1<|aE rfl (fun hc1=>?_) (fun hc1=>?_)
 ·exact absurd hc1 Yd
 ·refine C.kn<|C.s1<|Za rfl<|gW rfl U26 rfl rfl rfl trivial<|Zh rfl<|L.n2<|C.drawA [] 2 8 58 (fun _ _ _ h=>bT (P:=Tryz.prog) (fn:=Tryz.f254) _ _ _ h)<|Za rfl<|Za rfl<|HI (i:=i) rfl U26 Tf.s156 rfl rfl Yd rfl trivial<|Za rfl<|Za rfl ?_;refine HW (j:=i+1) rfl U26 Tf.s156 rfl rfl Yd rfl aLJ (fun o ho=>qP (A:=[]) (B:=[]) (sz:=3) (xs:=(xs.drop (i+1)).flatMap cC) rfl U26 rfl rfl Tf.s156 rfl rfl (B3 (f:=cC) (fun _=>rfl) hi hcap ho hl2) (tR (f:=cC) (fun _=>rfl)) Yd Yac (fE BE _) (aGR rfl) rfl aLJ ?_);rw[show i+(xs.length-(i+1))=xs.length-1 by omega];refine aF [(b,.cells ((xs.eraseIdx i).flatMap cC++(xs.flatMap cC++junk).drop ((xs.length-1)*3)).toArray 156 (0,0))] (by rw[aHI,tX (f:=cC) (fun _=>rfl) hi])<|Zh rfl<|L.n3<|Za rfl<|Za rfl<|gW rfl U26 rfl rfl rfl trivial<|Za rfl<|HT (l:=xs.length-1) (h:=xs.length) rfl U26 Tf.s156 rfl rfl rfl Yd hcap Yd rfl aLJ ?_;rw[show xs.length-(xs.length-1)=1 by omega];refine wI (A:=[]) (B:=[]) (zs:=[.bool false,.int .i64 0,.int .i64 0]) rfl rfl U26 rfl Tf.z156 rfl Yd Yg (by rw[xK (f:=cC) (fun _=>rfl) hi hl1 hl2 hcap];simp;omega) Yi trivial<|L.n3<|Za rfl<|Zh rfl<|L.n5 ?_
  exact Zy [] [] [_] [_] rfl ⟨rfl,aLJ⟩ rfl (fun D hD=>B4 (f:=cC) (fun _=>rfl) hi hl1 hl2 hcap rfl)
theorem DU(sv:Value)(xs:List C2.Mk)(i:Nat)(ν:aC)(D:aA)(ha:bN 158 4 sv xs.length (xs.flatMap cM) ν)(hi:i<xs.length):Q1 Tryz.prog 256 [sv,.int .i64 (i:Int),.int .i64 ((i+1:Nat):Int)] D ν (fun _ v ν'=>bN 158 4 v (xs.length-1) ((xs.eraseIdx i).flatMap cM) ν'):=by
 obtain⟨b,cap,junk,rfl,hcap,rfl,hl1,hl2⟩:=ha.some Yd;refine fT 33 Tryz.func256 rfl rfl rfl rfl (fun h0 hwl hwn=>C.s1<|Zh rfl<|L.n3<|Za rfl<|Za rfl<|Za rfl<|Za rfl<|gW rfl U30 rfl rfl rfl trivial<|HM (l:=i) (h:=i+1) (m:=xs.length) rfl U30 Tf.s158 rfl rfl rfl rfl Yd Yd hcap rfl aLJ (fun v3=>L.n4<|Za rfl ?_));refine Za rfl<|dK rfl rfl rfl rfl trivial<|L.n1<|aE rfl (fun hc1=>?_) (fun hc1=>?_)
 ·exact absurd hc1 Yd
 ·refine C.kn<|C.s1<|Za rfl<|gW rfl U30 rfl rfl rfl trivial<|Zh rfl<|L.n2<|C.drawA [] 2 8 58 (fun _ _ _ h=>bT (P:=Tryz.prog) (fn:=Tryz.f256) _ _ _ h)<|Za rfl<|Za rfl<|HI (i:=i) rfl U30 Tf.s158 rfl rfl Yd rfl trivial<|Za rfl<|Za rfl ?_;refine HW (j:=i+1) rfl U30 Tf.s158 rfl rfl Yd rfl aLJ (fun o ho=>qP (A:=[]) (B:=[]) (sz:=4) (xs:=(xs.drop (i+1)).flatMap cM) rfl U30 rfl rfl Tf.s158 rfl rfl (B3 (f:=cM) (fun _=>rfl) hi hcap ho hl2) (tR (f:=cM) (fun _=>rfl)) Yd Yac (fE z6 _) (aGR rfl) rfl aLJ ?_);rw[show i+(xs.length-(i+1))=xs.length-1 by omega];refine aF [(b,.cells ((xs.eraseIdx i).flatMap cM++(xs.flatMap cM++junk).drop ((xs.length-1)*4)).toArray 158 (0,0))] (by rw[aHI,tX (f:=cM) (fun _=>rfl) hi])<|Zh rfl<|L.n3<|Za rfl<|Za rfl<|gW rfl U30 rfl rfl rfl trivial<|Za rfl<|HT (l:=xs.length-1) (h:=xs.length) rfl U30 Tf.s158 rfl rfl rfl Yd hcap Yd rfl aLJ ?_;rw[show xs.length-(xs.length-1)=1 by omega];refine wI (A:=[]) (B:=[]) (zs:=[.int .i64 0,.int .i64 0,.int .i64 0,.int .i64 0]) rfl rfl U30 rfl Tf.z158 rfl Yd Yg (by rw[xK (f:=cM) (fun _=>rfl) hi hl1 hl2 hcap];simp;omega) Yi trivial<|L.n3<|Za rfl<|Zh rfl<|L.n5 ?_
  exact Zy [] [] [_] [_] rfl ⟨rfl,aLJ⟩ rfl (fun D hD=>B4 (f:=cM) (fun _=>rfl) hi hl1 hl2 hcap rfl)
theorem EP(sv:Value)(xs:List C3.eZ)(i:Nat)(ν:aC)(D:aA)(ha:bN 160 3 sv xs.length (xs.flatMap cL) ν)(hi:i<xs.length):Q1 Tryz.prog 258 [sv,.int .i64 (i:Int),.int .i64 ((i+1:Nat):Int)] D ν (fun _ v ν'=>bN 160 3 v (xs.length-1) ((xs.eraseIdx i).flatMap cL) ν'):=by
 obtain⟨b,cap,junk,rfl,hcap,rfl,hl1,hl2⟩:=ha.some Yd;refine fT 33 Tryz.func258 rfl rfl rfl rfl (fun h0 hwl hwn=>C.s1<|Zh rfl<|L.n3<|Za rfl<|Za rfl<|Za rfl<|Za rfl<|gW rfl U33 rfl rfl rfl trivial<|HM (l:=i) (h:=i+1) (m:=xs.length) rfl U33 Tf.s160 rfl rfl rfl rfl Yd Yd hcap rfl aLJ (fun v3=>L.n4<|Za rfl ?_));refine Za rfl<|dK rfl rfl rfl rfl trivial<|L.n1<|aE rfl (fun hc1=>?_) (fun hc1=>?_)
 ·exact absurd hc1 Yd
 ·refine C.kn<|C.s1<|Za rfl<|gW rfl U33 rfl rfl rfl trivial<|Zh rfl<|L.n2<|C.drawA [] 2 8 58 (fun _ _ _ h=>bT (P:=Tryz.prog) (fn:=Tryz.f258) _ _ _ h)<|Za rfl<|Za rfl<|HI (i:=i) rfl U33 Tf.s160 rfl rfl Yd rfl trivial<|Za rfl<|Za rfl ?_;refine HW (j:=i+1) rfl U33 Tf.s160 rfl rfl Yd rfl aLJ (fun o ho=>qP (A:=[]) (B:=[]) (sz:=3) (xs:=(xs.drop (i+1)).flatMap cL) rfl U33 rfl rfl Tf.s160 rfl rfl (B3 (f:=cL) (fun _=>rfl) hi hcap ho hl2) (tR (f:=cL) (fun _=>rfl)) Yd Yac (fE x3 _) (aGR rfl) rfl aLJ ?_);rw[show i+(xs.length-(i+1))=xs.length-1 by omega];refine aF [(b,.cells ((xs.eraseIdx i).flatMap cL++(xs.flatMap cL++junk).drop ((xs.length-1)*3)).toArray 160 (0,0))] (by rw[aHI,tX (f:=cL) (fun _=>rfl) hi])<|Zh rfl<|L.n3<|Za rfl<|Za rfl<|gW rfl U33 rfl rfl rfl trivial<|Za rfl<|HT (l:=xs.length-1) (h:=xs.length) rfl U33 Tf.s160 rfl rfl rfl Yd hcap Yd rfl aLJ ?_;rw[show xs.length-(xs.length-1)=1 by omega];refine wI (A:=[]) (B:=[]) (zs:=[.int .i64 0,.int .i64 0,.int .i64 0]) rfl rfl U33 rfl Tf.z160 rfl Yd Yg (by rw[xK (f:=cL) (fun _=>rfl) hi hl1 hl2 hcap];simp;omega) Yi trivial<|L.n3<|Za rfl<|Zh rfl<|L.n5 ?_
  exact Zy [] [] [_] [_] rfl ⟨rfl,aLJ⟩ rfl (fun D hD=>B4 (f:=cL) (fun _=>rfl) hi hl1 hl2 hcap rfl)
theorem FA(sv:Value)(xs:List (Int×Int))(i:Nat)(ν:aC)(D:aA)(ha:bN 133 2 sv xs.length (xs.flatMap cP) ν)(hi:i<xs.length):Q1 Tryz.prog 259 [sv,.int .i64 (i:Int),.int .i64 ((i+1:Nat):Int)] D ν (fun _ v ν'=>bN 133 2 v (xs.length-1) ((xs.eraseIdx i).flatMap cP) ν'):=by
 obtain⟨b,cap,junk,rfl,hcap,rfl,hl1,hl2⟩:=ha.some Yd;refine fT 33 Tryz.func259 rfl rfl rfl rfl (fun h0 hwl hwn=>C.s1<|Zh rfl<|L.n3<|Za rfl<|Za rfl<|Za rfl<|Za rfl<|gW rfl U38 rfl rfl rfl trivial<|HM (l:=i) (h:=i+1) (m:=xs.length) rfl U38 Tf.s133 rfl rfl rfl rfl Yd Yd hcap rfl aLJ (fun v3=>L.n4<|Za rfl ?_));refine Za rfl<|dK rfl rfl rfl rfl trivial<|L.n1<|aE rfl (fun hc1=>?_) (fun hc1=>?_)
 ·exact absurd hc1 Yd
 ·refine C.kn<|C.s1<|Za rfl<|gW rfl U38 rfl rfl rfl trivial<|Zh rfl<|L.n2<|C.drawA [] 2 8 58 (fun _ _ _ h=>bT (P:=Tryz.prog) (fn:=Tryz.f259) _ _ _ h)<|Za rfl<|Za rfl<|HI (i:=i) rfl U38 Tf.s133 rfl rfl Yd rfl trivial<|Za rfl<|Za rfl ?_;refine HW (j:=i+1) rfl U38 Tf.s133 rfl rfl Yd rfl aLJ (fun o ho=>qP (A:=[]) (B:=[]) (sz:=2) (xs:=(xs.drop (i+1)).flatMap cP) rfl U38 rfl rfl Tf.s133 rfl rfl (B3 (f:=cP) (fun _=>rfl) hi hcap ho hl2) (tR (f:=cP) (fun _=>rfl)) Yd Yac (fE O1 _) (aGR rfl) rfl aLJ ?_);rw[show i+(xs.length-(i+1))=xs.length-1 by omega];refine aF [(b,.cells ((xs.eraseIdx i).flatMap cP++(xs.flatMap cP++junk).drop ((xs.length-1)*2)).toArray 133 (0,0))] (by rw[aHI,tX (f:=cP) (fun _=>rfl) hi])<|Zh rfl<|L.n3<|Za rfl<|Za rfl<|gW rfl U38 rfl rfl rfl trivial<|Za rfl<|HT (l:=xs.length-1) (h:=xs.length) rfl U38 Tf.s133 rfl rfl rfl Yd hcap Yd rfl aLJ ?_;rw[show xs.length-(xs.length-1)=1 by omega];refine wI (A:=[]) (B:=[]) (zs:=[.int .i64 0,.int .i64 0]) rfl rfl U38 rfl Tf.z133 rfl Yd Yg (by rw[xK (f:=cP) (fun _=>rfl) hi hl1 hl2 hcap];simp;omega) Yi trivial<|L.n3<|Za rfl<|Zh rfl<|L.n5 ?_
  exact Zy [] [] [_] [_] rfl ⟨rfl,aLJ⟩ rfl (fun D hD=>B4 (f:=cP) (fun _=>rfl) hi hl1 hl2 hcap rfl)
end L12
end Go.Fs
namespace Go.Fs
open Go.Proofs
namespace L12
open C12
theorem jT{e sz n:Nat}{cells:List Value}{v:Value}{ν:aC}(ha:bN e sz v n cells ν):∀p∈ν,cF p.2:=by
 intro p hp;rcases ha with⟨_,_,_,_,rfl⟩|⟨b,cap,junk,_,_,rfl,_⟩
 ·cases hp
 ·simp only[aGU]at hp;subst hp;rfl
theorem y6(wb:Nat)(s:aN)(pv cv hv lv mv bl bc yc yq nv:Value)(a:Int)(ν:aC)(D:aA)(hn:Sl D RI 1 nv [a])(ha:bN 156 3 cv s.row.counts.length (s.row.counts.flatMap cC) ν)(hsm:s.row.counts.length≤100)(ha0:0≤a):iZ Tryz.prog 172 [.pointer (some ⟨wb,0,none⟩),nv] D ((wb,.cells (bO s pv cv hv lv mv bl bc yc yq).toArray 253 (0,0))::ν) (fun _ _ ν'=>a<(s.row.counts.length:Int)∧∃v1 ν1,ν'=(wb,.cells (bO s pv v1 hv lv mv bl bc yc yq).toArray 253 (0,0))::ν1∧bN 156 3 v1 (s.row.counts.length-1) ((s.row.counts.eraseIdx a.toNat).flatMap cC) ν1) (fun v=>(s.row.counts.length:Int)≤a∧v=dS 7):=by
 obtain⟨bt,ot,ct,rfl⟩:=gX hn Ye;obtain⟨i,rfl⟩:∃i:Nat,a=(i:Int):=⟨a.toNat,by omega⟩
 have hbt:=jX hn;refine dH 34 Tryz.func172 rfl rfl rfl rfl (fun h0 hwl hwn=>aL<|C.drawPA [] 7 11 1016 (fun _ _ _ _ he h=>cT (P:=Tryz.prog) (fn:=Tryz.f172) _ _ _ _ he h)<|Za rfl<|aO rfl U25 Tf.s3 rfl hn rfl Yd rfl rfl aLJ (fun cs1 hr1 hcl1 hA1=>?_));obtain rfl:cs1=[.int .i64 _]:=hr1;refine Zf 0 rfl Tf.a3 rfl hA1 rfl<|Za rfl<|Zae rfl<|Zi rfl Tf.f253_0 rfl<|Zi rfl Tf.f42_0 rfl<|Zi rfl Tf.f28_1 rfl<|Zl rfl Tf.a26 rfl (List.Mem.head _) rfl<|dL rfl U26 rfl ha rfl rfl trivial<|Ze [(_,_)] ν [] rfl (Or.inr (fun p hp=>by cases hp)) (fun p hp=>by cases hp) (fun D5 hD5=>hG (i:Int) (s.row.counts.length:Int) _) (fun v5 D6 hD5 hp5=>bX (P:=Tryz.prog) (fn:=Tryz.f172) rfl ⟨hp5.1,hp5.2⟩) (fun v5 D6 ν5 hD5 hp5=>?_);obtain⟨hf5,rfl⟩:=hp5;refine L.n1<|iK hbt Ye (fun hap=>rX (fun hnd=>?_));have hnu:=jN hap hnd;have hwbo:wb∉dN.mk [bt,wb]:=dN.out Ye;have hbto:bt∉dN.mk [bt,wb]:=dN.out Ye;refine C.drawPA (dN.mk [bt,wb]) 4 20 32766 (fun _ _ _ _ he h=>cT (P:=Tryz.prog) (fn:=Tryz.f172) _ _ _ _ he h)<|Za rfl<|Za rfl<|Zae rfl<|Zi rfl Tf.f253_0 rfl<|Zi rfl Tf.f42_0 rfl<|Zi rfl Tf.f28_1 rfl<|aS rfl Tf.a26 rfl (List.Mem.head _) rfl Yj rfl trivial<|Za rfl<|aO rfl U25 Tf.s3 rfl hn rfl Yd rfl rfl aLJ (fun cs2 hr2 hcl2 hA2=>?_);obtain rfl:cs2=[.int .i64 _]:=hr2;refine bC rfl (k:=0) Tf.a3 rfl hA2 Yc rfl Yj rfl trivial<|Za rfl<|aO rfl U25 Tf.s3 rfl hn rfl Yd rfl rfl aLJ (fun cs3 hr3 hcl3 hA3=>?_);obtain rfl:cs3=[.int .i64 _]:=hr3;refine bC rfl (k:=0) Tf.a3 rfl hA3 Yc rfl Yj rfl trivial<|Zx rfl<|aF ((wb,.cells (bO s pv cv hv lv mv bl bc yc yq).toArray 253 (0,0))::ν) rfl<|aF ((wb,.cells (bO s pv cv hv lv mv bl bc yc yq).toArray 253 (0,0))::ν++[]) (aGG _).symm<|dX (A:=[(wb,.cells (bO s pv cv hv lv mv bl bc yc yq).toArray 253 (0,0))]) (ν:=ν) (B:=[]) rfl rfl rfl rfl Yp (jT ha) (fun D7 hD7=>EX _ s.row.counts i ν _ ha Yd) rfl aLJ (fun v7 D8 ν7 hD8 hp7=>aF ((wb,.cells (bO s pv cv hv lv mv bl bc yc yq).toArray 253 (0,0))::ν7) (aGG _)<|Zae rfl<|Zi rfl Tf.f253_0 rfl<|Zi rfl Tf.f42_0 rfl<|Zi rfl Tf.f28_1 rfl<|aX (ws:=(bO s pv v7 hv lv mv bl bc yc yq)) rfl rfl rfl hp7.cells1 Tf.s26 .head Ye rfl hp7.cell1 trivial<|Zz ?_);refine fun a w hh=>cZ (P:=Tryz.prog) (fn:=Tryz.f172) (A:=[]) (ν':=((wb,_)::ν7)) (B:=[]) (vs:=[]) rfl rfl rfl aLJ (fun D' hD=>⟨hf5,v7,ν7,rfl,hp7⟩) a w (hh.boxesEq (aGG _).symm)
theorem DY(wb:Nat)(s:aN)(pv cv hv lv mv bl bc yc yq nv:Value)(a:Int)(ν:aC)(D:aA)(hn:Sl D RI 1 nv [a])(ha:bN 158 4 mv s.table.marks.length (s.table.marks.flatMap cM) ν)(hsm:s.table.marks.length≤100)(ha0:0≤a):iZ Tryz.prog 180 [.pointer (some ⟨wb,0,none⟩),nv] D ((wb,.cells (bO s pv cv hv lv mv bl bc yc yq).toArray 253 (0,0))::ν) (fun _ _ ν'=>a<(s.table.marks.length:Int)∧∃v1 ν1,ν'=(wb,.cells (bO s pv cv hv lv v1 bl bc yc yq).toArray 253 (0,0))::ν1∧bN 158 4 v1 (s.table.marks.length-1) ((s.table.marks.eraseIdx a.toNat).flatMap cM) ν1) (fun v=>(s.table.marks.length:Int)≤a∧v=dS 7):=by
 obtain⟨bt,ot,ct,rfl⟩:=gX hn Ye;obtain⟨i,rfl⟩:∃i:Nat,a=(i:Int):=⟨a.toNat,by omega⟩
 have hbt:=jX hn;refine dH 34 Tryz.func180 rfl rfl rfl rfl (fun h0 hwl hwn=>aL<|C.drawPA [] 7 11 1016 (fun _ _ _ _ he h=>cT (P:=Tryz.prog) (fn:=Tryz.f180) _ _ _ _ he h)<|Za rfl<|aO rfl U25 Tf.s3 rfl hn rfl Yd rfl rfl aLJ (fun cs1 hr1 hcl1 hA1=>?_));obtain rfl:cs1=[.int .i64 _]:=hr1;refine Zf 0 rfl Tf.a3 rfl hA1 rfl<|Za rfl<|Zae rfl<|Zi rfl Tf.f253_0 rfl<|Zi rfl Tf.f42_1 rfl<|Zi rfl Tf.f32_4 rfl<|Zl rfl Tf.a30 rfl (List.Mem.head _) rfl<|dL rfl U30 rfl ha rfl rfl trivial<|Ze [(_,_)] ν [] rfl (Or.inr (fun p hp=>by cases hp)) (fun p hp=>by cases hp) (fun D5 hD5=>hG (i:Int) (s.table.marks.length:Int) _) (fun v5 D6 hD5 hp5=>bX (P:=Tryz.prog) (fn:=Tryz.f180) rfl ⟨hp5.1,hp5.2⟩) (fun v5 D6 ν5 hD5 hp5=>?_);obtain⟨hf5,rfl⟩:=hp5;refine L.n1<|iK hbt Ye (fun hap=>rX (fun hnd=>?_));have hnu:=jN hap hnd;have hwbo:wb∉dN.mk [bt,wb]:=dN.out Ye;have hbto:bt∉dN.mk [bt,wb]:=dN.out Ye;refine C.drawPA (dN.mk [bt,wb]) 4 20 32766 (fun _ _ _ _ he h=>cT (P:=Tryz.prog) (fn:=Tryz.f180) _ _ _ _ he h)<|Za rfl<|Za rfl<|Zae rfl<|Zi rfl Tf.f253_0 rfl<|Zi rfl Tf.f42_1 rfl<|Zi rfl Tf.f32_4 rfl<|aS rfl Tf.a30 rfl (List.Mem.head _) rfl Yj rfl trivial<|Za rfl<|aO rfl U25 Tf.s3 rfl hn rfl Yd rfl rfl aLJ (fun cs2 hr2 hcl2 hA2=>?_);obtain rfl:cs2=[.int .i64 _]:=hr2;refine bC rfl (k:=0) Tf.a3 rfl hA2 Yc rfl Yj rfl trivial<|Za rfl<|aO rfl U25 Tf.s3 rfl hn rfl Yd rfl rfl aLJ (fun cs3 hr3 hcl3 hA3=>?_);obtain rfl:cs3=[.int .i64 _]:=hr3;refine bC rfl (k:=0) Tf.a3 rfl hA3 Yc rfl Yj rfl trivial<|Zx rfl<|aF ((wb,.cells (bO s pv cv hv lv mv bl bc yc yq).toArray 253 (0,0))::ν) rfl<|aF ((wb,.cells (bO s pv cv hv lv mv bl bc yc yq).toArray 253 (0,0))::ν++[]) (aGG _).symm<|dX (A:=[(wb,.cells (bO s pv cv hv lv mv bl bc yc yq).toArray 253 (0,0))]) (ν:=ν) (B:=[]) rfl rfl rfl rfl Yp (jT ha) (fun D7 hD7=>DU _ s.table.marks i ν _ ha Yd) rfl aLJ (fun v7 D8 ν7 hD8 hp7=>aF ((wb,.cells (bO s pv cv hv lv mv bl bc yc yq).toArray 253 (0,0))::ν7) (aGG _)<|Zae rfl<|Zi rfl Tf.f253_0 rfl<|Zi rfl Tf.f42_1 rfl<|Zi rfl Tf.f32_4 rfl<|aX (ws:=(bO s pv cv hv lv v7 bl bc yc yq)) rfl rfl rfl hp7.cells1 Tf.s30 .head Ye rfl hp7.cell1 trivial<|Zz ?_);refine fun a w hh=>cZ (P:=Tryz.prog) (fn:=Tryz.f180) (A:=[]) (ν':=((wb,_)::ν7)) (B:=[]) (vs:=[]) rfl rfl rfl aLJ (fun D' hD=>⟨hf5,v7,ν7,rfl,hp7⟩) a w (hh.boxesEq (aGG _).symm)
theorem CW(wb:Nat)(s:aN)(pv cv hv lv mv bl bc yc yq nv:Value)(a:Int)(ν:aC)(D:aA)(hn:Sl D RI 1 nv [a])(ha:bN 160 3 bl s.book.lines.length (s.book.lines.flatMap cL) ν)(hsm:s.book.lines.length≤100)(ha0:0≤a):iZ Tryz.prog 184 [.pointer (some ⟨wb,0,none⟩),nv] D ((wb,.cells (bO s pv cv hv lv mv bl bc yc yq).toArray 253 (0,0))::ν) (fun _ _ ν'=>a<(s.book.lines.length:Int)∧∃v1 ν1,ν'=(wb,.cells (bO s pv cv hv lv mv v1 bc yc yq).toArray 253 (0,0))::ν1∧bN 160 3 v1 (s.book.lines.length-1) ((s.book.lines.eraseIdx a.toNat).flatMap cL) ν1) (fun v=>(s.book.lines.length:Int)≤a∧v=dS 7):=by
 obtain⟨bt,ot,ct,rfl⟩:=gX hn Ye;obtain⟨i,rfl⟩:∃i:Nat,a=(i:Int):=⟨a.toNat,by omega⟩
 have hbt:=jX hn;refine dH 34 Tryz.func184 rfl rfl rfl rfl (fun h0 hwl hwn=>aL<|C.drawPA [] 7 11 1016 (fun _ _ _ _ he h=>cT (P:=Tryz.prog) (fn:=Tryz.f184) _ _ _ _ he h)<|Za rfl<|aO rfl U25 Tf.s3 rfl hn rfl Yd rfl rfl aLJ (fun cs1 hr1 hcl1 hA1=>?_));obtain rfl:cs1=[.int .i64 _]:=hr1;refine Zf 0 rfl Tf.a3 rfl hA1 rfl<|Za rfl<|Zae rfl<|Zi rfl Tf.f253_0 rfl<|Zi rfl Tf.f42_2 rfl<|Zi rfl Tf.f36_3 rfl<|Zl rfl Tf.a33 rfl (List.Mem.head _) rfl<|dL rfl U33 rfl ha rfl rfl trivial<|Ze [(_,_)] ν [] rfl (Or.inr (fun p hp=>by cases hp)) (fun p hp=>by cases hp) (fun D5 hD5=>hG (i:Int) (s.book.lines.length:Int) _) (fun v5 D6 hD5 hp5=>bX (P:=Tryz.prog) (fn:=Tryz.f184) rfl ⟨hp5.1,hp5.2⟩) (fun v5 D6 ν5 hD5 hp5=>?_);obtain⟨hf5,rfl⟩:=hp5;refine L.n1<|iK hbt Ye (fun hap=>rX (fun hnd=>?_));have hnu:=jN hap hnd;have hwbo:wb∉dN.mk [bt,wb]:=dN.out Ye;have hbto:bt∉dN.mk [bt,wb]:=dN.out Ye;refine C.drawPA (dN.mk [bt,wb]) 4 20 32766 (fun _ _ _ _ he h=>cT (P:=Tryz.prog) (fn:=Tryz.f184) _ _ _ _ he h)<|Za rfl<|Za rfl<|Zae rfl<|Zi rfl Tf.f253_0 rfl<|Zi rfl Tf.f42_2 rfl<|Zi rfl Tf.f36_3 rfl<|aS rfl Tf.a33 rfl (List.Mem.head _) rfl Yj rfl trivial<|Za rfl<|aO rfl U25 Tf.s3 rfl hn rfl Yd rfl rfl aLJ (fun cs2 hr2 hcl2 hA2=>?_);obtain rfl:cs2=[.int .i64 _]:=hr2;refine bC rfl (k:=0) Tf.a3 rfl hA2 Yc rfl Yj rfl trivial<|Za rfl<|aO rfl U25 Tf.s3 rfl hn rfl Yd rfl rfl aLJ (fun cs3 hr3 hcl3 hA3=>?_);obtain rfl:cs3=[.int .i64 _]:=hr3;refine bC rfl (k:=0) Tf.a3 rfl hA3 Yc rfl Yj rfl trivial<|Zx rfl<|aF ((wb,.cells (bO s pv cv hv lv mv bl bc yc yq).toArray 253 (0,0))::ν) rfl<|aF ((wb,.cells (bO s pv cv hv lv mv bl bc yc yq).toArray 253 (0,0))::ν++[]) (aGG _).symm<|dX (A:=[(wb,.cells (bO s pv cv hv lv mv bl bc yc yq).toArray 253 (0,0))]) (ν:=ν) (B:=[]) rfl rfl rfl rfl Yp (jT ha) (fun D7 hD7=>EP _ s.book.lines i ν _ ha Yd) rfl aLJ (fun v7 D8 ν7 hD8 hp7=>aF ((wb,.cells (bO s pv cv hv lv mv bl bc yc yq).toArray 253 (0,0))::ν7) (aGG _)<|Zae rfl<|Zi rfl Tf.f253_0 rfl<|Zi rfl Tf.f42_2 rfl<|Zi rfl Tf.f36_3 rfl<|aX (ws:=(bO s pv cv hv lv mv v7 bc yc yq)) rfl rfl rfl hp7.cells1 Tf.s33 .head Ye rfl hp7.cell1 trivial<|Zz ?_);refine fun a w hh=>cZ (P:=Tryz.prog) (fn:=Tryz.f184) (A:=[]) (ν':=((wb,_)::ν7)) (B:=[]) (vs:=[]) rfl rfl rfl aLJ (fun D' hD=>⟨hf5,v7,ν7,rfl,hp7⟩) a w (hh.boxesEq (aGG _).symm)
theorem BW(wb:Nat)(s:aN)(pv cv hv lv mv bl bc yc yq nv:Value)(a:Int)(ν:aC)(D:aA)(hn:Sl D RI 1 nv [a])(ha:bN 133 2 yq s.yard.claims.length (s.yard.claims.flatMap cP) ν)(hsm:s.yard.claims.length≤100)(ha0:0≤a):iZ Tryz.prog 189 [.pointer (some ⟨wb,0,none⟩),nv] D ((wb,.cells (bO s pv cv hv lv mv bl bc yc yq).toArray 253 (0,0))::ν) (fun _ _ ν'=>a<(s.yard.claims.length:Int)∧∃v1 ν1,ν'=(wb,.cells (bO s pv cv hv lv mv bl bc yc v1).toArray 253 (0,0))::ν1∧bN 133 2 v1 (s.yard.claims.length-1) ((s.yard.claims.eraseIdx a.toNat).flatMap cP) ν1) (fun v=>(s.yard.claims.length:Int)≤a∧v=dS 7):=by
 obtain⟨bt,ot,ct,rfl⟩:=gX hn Ye;obtain⟨i,rfl⟩:∃i:Nat,a=(i:Int):=⟨a.toNat,by omega⟩
 have hbt:=jX hn;refine dH 34 Tryz.func189 rfl rfl rfl rfl (fun h0 hwl hwn=>aL<|C.drawPA [] 7 11 1016 (fun _ _ _ _ he h=>cT (P:=Tryz.prog) (fn:=Tryz.f189) _ _ _ _ he h)<|Za rfl<|aO rfl U25 Tf.s3 rfl hn rfl Yd rfl rfl aLJ (fun cs1 hr1 hcl1 hA1=>?_));obtain rfl:cs1=[.int .i64 _]:=hr1;refine Zf 0 rfl Tf.a3 rfl hA1 rfl<|Za rfl<|Zae rfl<|Zi rfl Tf.f253_0 rfl<|Zi rfl Tf.f42_3 rfl<|Zi rfl Tf.f40_2 rfl<|Zl rfl Tf.a38 rfl (List.Mem.head _) rfl<|dL rfl U38 rfl ha rfl rfl trivial<|Ze [(_,_)] ν [] rfl (Or.inr (fun p hp=>by cases hp)) (fun p hp=>by cases hp) (fun D5 hD5=>hG (i:Int) (s.yard.claims.length:Int) _) (fun v5 D6 hD5 hp5=>bX (P:=Tryz.prog) (fn:=Tryz.f189) rfl ⟨hp5.1,hp5.2⟩) (fun v5 D6 ν5 hD5 hp5=>?_);obtain⟨hf5,rfl⟩:=hp5;refine L.n1<|iK hbt Ye (fun hap=>rX (fun hnd=>?_));have hnu:=jN hap hnd;have hwbo:wb∉dN.mk [bt,wb]:=dN.out Ye;have hbto:bt∉dN.mk [bt,wb]:=dN.out Ye;refine C.drawPA (dN.mk [bt,wb]) 4 20 32766 (fun _ _ _ _ he h=>cT (P:=Tryz.prog) (fn:=Tryz.f189) _ _ _ _ he h)<|Za rfl<|Za rfl<|Zae rfl<|Zi rfl Tf.f253_0 rfl<|Zi rfl Tf.f42_3 rfl<|Zi rfl Tf.f40_2 rfl<|aS rfl Tf.a38 rfl (List.Mem.head _) rfl Yj rfl trivial<|Za rfl<|aO rfl U25 Tf.s3 rfl hn rfl Yd rfl rfl aLJ (fun cs2 hr2 hcl2 hA2=>?_);obtain rfl:cs2=[.int .i64 _]:=hr2;refine bC rfl (k:=0) Tf.a3 rfl hA2 Yc rfl Yj rfl trivial<|Za rfl<|aO rfl U25 Tf.s3 rfl hn rfl Yd rfl rfl aLJ (fun cs3 hr3 hcl3 hA3=>?_);obtain rfl:cs3=[.int .i64 _]:=hr3;refine bC rfl (k:=0) Tf.a3 rfl hA3 Yc rfl Yj rfl trivial<|Zx rfl<|aF ((wb,.cells (bO s pv cv hv lv mv bl bc yc yq).toArray 253 (0,0))::ν) rfl<|aF ((wb,.cells (bO s pv cv hv lv mv bl bc yc yq).toArray 253 (0,0))::ν++[]) (aGG _).symm<|dX (A:=[(wb,.cells (bO s pv cv hv lv mv bl bc yc yq).toArray 253 (0,0))]) (ν:=ν) (B:=[]) rfl rfl rfl rfl Yp (jT ha) (fun D7 hD7=>FA _ s.yard.claims i ν _ ha Yd) rfl aLJ (fun v7 D8 ν7 hD8 hp7=>aF ((wb,.cells (bO s pv cv hv lv mv bl bc yc yq).toArray 253 (0,0))::ν7) (aGG _)<|Zae rfl<|Zi rfl Tf.f253_0 rfl<|Zi rfl Tf.f42_3 rfl<|Zi rfl Tf.f40_2 rfl<|aX (ws:=(bO s pv cv hv lv mv bl bc yc v7)) rfl rfl rfl hp7.cells1 Tf.s38 .head Ye rfl hp7.cell1 trivial<|Zz ?_);refine fun a w hh=>cZ (P:=Tryz.prog) (fn:=Tryz.f189) (A:=[]) (ν':=((wb,_)::ν7)) (B:=[]) (vs:=[]) rfl rfl rfl aLJ (fun D' hD=>⟨hf5,v7,ν7,rfl,hp7⟩) a w (hh.boxesEq (aGG _).symm)
end L12
end Go.Fs
namespace Go.Fs
open Go.Proofs
namespace L12
open C12
theorem aBC{D:aA}{bt ot n ct:Nat}{a b c d:Int}(h:Sl D RI 1 (.slice (some ⟨bt,ot,none⟩) n ct) [a,b,c,d]):At D bt (ot+1) [.int .i64 b,.int .i64 c,.int .i64 d]:=by
  obtain⟨x,cap,hv,h1,h2,h3⟩:=h;cases hv;rcases h3 with h3|⟨b',o,ha,h3⟩
  · cases h3
  · cases ha;intro j v hj;have key:∀(i:Nat) (z:Int),[a,b,c,d][i]?= some z→(D bt)[ot+i]?= some (.int .i64 z):=fun i z hi=>by
      obtain⟨cs,hr,hc,hA⟩:=h3 i z hi;obtain rfl:cs=[.int .i64 z]:=hr;have:=hA 0 _ rfl;simpa using this
    match j with
    | 0 => obtain rfl : Value.int .i64 b = v := by simpa using hj
           exact key 1 b rfl
    | 1 => obtain rfl : Value.int .i64 c = v := by simpa using hj
           exact key 2 c rfl
    | 2 => obtain rfl : Value.int .i64 d = v := by simpa using hj
           exact key 3 d rfl
    |j+3=>simp at hj
theorem DC(wb:Nat)(s:aN)(pv cv hv lv mv bl bc yc yq nv:Value)(a b c d:Int)(ν:aC)(D:aA)(hn:Sl D RI 1 nv [a,b,c,d])(ha:bN 103 4 yc s.yard.chairs.length (s.yard.chairs.flatMap cH) ν)(hsm:s.yard.chairs.length≤100):iZ Tryz.prog 185 [.pointer (some ⟨wb,0,none⟩),nv] D ((wb,.cells (bO s pv cv hv lv mv bl bc yc yq).toArray 253 (0,0))::ν) (fun _ _ ν'=>((a≤9∧max (max b c) d≤2)∧(s.yard.chairs.length:Int)<5)∧∃v1 ν1,ν'=(wb,.cells (bO s pv cv hv lv mv bl bc v1 yq).toArray 253 (0,0))::ν1∧bN 103 4 v1 (s.yard.chairs.length+1) ((s.yard.chairs++[(⟨a,⟨b,c,d⟩⟩:C7.Ch)]).flatMap cH) ν1) (fun v=>((9<a∨2<max (max b c) d)∧v=dS 2)∨((a≤9∧max (max b c) d≤2)∧5≤(s.yard.chairs.length:Int)∧v=dS 3)):=by
 obtain⟨bt,ot,ct,rfl⟩:=gX hn Ye;have hbt:=jX hn;refine dH 43 Tryz.func185 rfl rfl rfl rfl (fun h0 hwl hwn=>aL<|C.drawPA [] 5 10 240 (fun _ _ _ _ he h=>cT (P:=Tryz.prog) (fn:=Tryz.f185) _ _ _ _ he h)<|Za rfl<|aO rfl U25 Tf.s3 rfl hn rfl Yd rfl rfl aLJ (fun cs1 hr1 hcl1 hA1=>?_));obtain rfl:cs1=[.int .i64 _]:=hr1;refine Zf 0 rfl Tf.a3 rfl hA1 rfl<|eT rfl rfl rfl rfl trivial<|Za rfl<|CD (j:=1) rfl U25 Tf.s3 rfl hn rfl Ye rfl aLJ (fun hsT=>Zc rfl (fun D3 hD3=>L2.PW _ b [c,d] _ (hsT.up RI.up (hD3 _ Ye)))<|eT rfl rfl rfl rfl trivial<|Zp rfl U327 Tf.s4 Tf.z4 rfl rfl rfl rfl (.cons rfl rfl (.cons rfl rfl .nil)) (fun b901 D901 hD901 hA901=>Ze [(_,_)] ν [] rfl (aGH (fun p hp=>by cases hp)) (fun p hp=>by cases hp) (fun D5 hD5=>dU 2 [decide (9<a),decide (2<max (max b c) d)] _ _ ((fA (l:=[decide (9<a),decide (2<max (max b c) d)]) (fun _ _ _ h=>h) hA901 Ye).up RB.up (hD5 _ Ye))) (fun v5 D6 hD5 hp5=>bX (P:=Tryz.prog) (fn:=Tryz.f185) rfl (aGR ⟨by simpa only[List.any_cons,List.any_nil,Bool.or_false,Bool.true_beq,aIC,aGZ]using hp5.1,hp5.2⟩)) (fun v5 D6 ν5 hD5 hp5=>?_)));obtain⟨hf50,rfl⟩:=hp5;have hf5:a≤9∧max (max b c) d≤2:=by simp only[List.any_cons,List.any_nil,Bool.or_false,Bool.true_beq,aJM,aIT,Int.not_lt]at hf50;exact hf50
 refine L.n3<|Za rfl<|Zae rfl<|Zi rfl Tf.f253_0 rfl<|Zi rfl Tf.f42_3 rfl<|Zi rfl Tf.f40_0 rfl<|Zl rfl Tf.a37 rfl (List.Mem.head _) rfl<|dL rfl U37 rfl ha rfl rfl trivial<|Ze [(_,_)] ν [] rfl (Or.inr (fun p hp=>by cases hp)) (fun p hp=>by cases hp) (fun D7 hD7=>qV (s.yard.chairs.length:Int) 5 _) (fun v7 D8 hD7 hp7=>bX (P:=Tryz.prog) (fn:=Tryz.f185) rfl (aGH ⟨hf5,hp7.1,hp7.2⟩)) (fun v7 D8 ν7 hD7 hp7=>?_);obtain⟨hf7,rfl⟩:=hp7;refine L.n1<|iK hbt Ye (fun hap=>rX (fun hnd=>?_));have hnu:=jN hap hnd;have hwbo:wb∉dN.mk [bt,wb]:=dN.out Ye;have hbto:bt∉dN.mk [bt,wb]:=dN.out Ye;refine C.drawPA (dN.mk [bt,wb]) 4 22 131070 (fun _ _ _ _ he h=>cT (P:=Tryz.prog) (fn:=Tryz.f185) _ _ _ _ he h)<|Za rfl<|Za rfl<|Zae rfl<|Zi rfl Tf.f253_0 rfl<|Zi rfl Tf.f42_3 rfl<|Zi rfl Tf.f40_0 rfl<|aS rfl Tf.a37 rfl (List.Mem.head _) rfl Yj rfl trivial<|Za rfl<|aO rfl U25 Tf.s3 rfl hn rfl Yd rfl rfl aLJ (fun cs2 hr2 hcl2 hA2=>?_);obtain rfl:cs2=[.int .i64 _]:=hr2;refine bC rfl (k:=0) Tf.a3 rfl hA2 Yc rfl Yj rfl trivial<|Za rfl<|CD (j:=1) rfl U25 Tf.s3 rfl hn rfl Ye rfl aLJ (fun hsU=>j3 rfl U101 rfl Ye rfl trivial<|cO rfl Tf.a101 rfl (aBC hn) Ye Tf.s101 hbto rfl trivial<|Zq [.int .i64 a,.int .i64 b,.int .i64 c,.int .i64 d] rfl Tf.p103 Tf.z103 rfl rfl<|Zp rfl U37 Tf.s103 Tf.z103 rfl rfl rfl rfl (.cons rfl rfl .nil) (fun b902 D902 hD902 hA902=>aF ((wb,.cells (bO s pv cv hv lv mv bl bc yc yq).toArray 253 (0,0))::ν) rfl<|aF ((wb,.cells (bO s pv cv hv lv mv bl bc yc yq).toArray 253 (0,0))::ν++[]) (aGG _).symm<|bA (A:=[(wb,.cells (bO s pv cv hv lv mv bl bc yc yq).toArray 253 (0,0))]) (B:=[]) rfl U37 rfl rfl Tf.s103 Tf.z103 rfl Tf.i103 rfl rfl rfl ha (jL.lit hA902) Ye rfl (bJ (n:=4) (fun _=>rfl) _) Yi Yd Yp rfl aLJ (fun v1 ν1 ha1=>aF ((wb,.cells (bO s pv cv hv lv mv bl bc yc yq).toArray 253 (0,0))::ν1) (aGG _) ?_)));have ha2:bN 103 4 v1 (s.yard.chairs.length+1) ((s.yard.chairs++[(⟨a,⟨b,c,d⟩⟩:C7.Ch)]).flatMap cH) ν1:=by rw[aHG,aHW];exact ha1
 refine Zae rfl<|Zi rfl Tf.f253_0 rfl<|Zi rfl Tf.f42_3 rfl<|Zi rfl Tf.f40_0 rfl<|aX (ws:=(bO s pv cv hv lv mv bl bc v1 yq)) rfl rfl rfl ha1.cells1 Tf.s37 .head Ye rfl ha1.cell1 trivial<|Zz ?_;refine fun a w hh=>cZ (P:=Tryz.prog) (fn:=Tryz.f185) (A:=[]) (ν':=((wb,_)::ν1)) (B:=[]) (vs:=[]) rfl rfl rfl aLJ (fun D' hD=>⟨⟨hf5,hf7⟩,v1,ν1,rfl,ha2⟩) a w (hh.boxesEq (aGG _).symm)
end L12
end Go.Fs
namespace Go.Fs
variable{P:Program}{X:Cx}{γb:Type}[Membership Nat γb]{bad:γb}{all:Array Oper}{K:Act→World→Prop}{Q:Exit→Act→World→Prop}
variable{σ:bQ}{μ:aC}{Ds:List aA}{os:List (Bool×Nat)}{fl:Bool}{ix:Nat}
variable{d:Nat}{x y z:Operand}{u v:Value}{ty:TypeId}{pos:String}{aft:Array Edge}{g:Option (Nat×Bool)}
def LI(es:Array MapEntry)(M:List (ByteArray×Value)):Prop:=es.toList.map (fun e=>(e.key,e.val))=M.map fun p=>(Value.string p.1,p.2)
def xT(s:ByteArray):List (ByteArray×Value)→Nat→Option (Nat×Value)
 | [],_=>none
 |(b,v)::M,i=>if(s==b)=true then some (i,v)else xT s M (i+1)
theorem zP(s:ByteArray):∀(es:List MapEntry) (M:List (ByteArray×Value)) (i:Nat),es.map (fun e=>(e.key,e.val))=M.map (fun p=>(Value.string p.1,p.2))→Instr.findNow .string (.string s) es i=some (xT s M i)
 | [],[],i,_=>rfl
 | [],_::_,i,h=>by simp at h
 |_::_,[],i,h=>by simp at h
 |e::es,(b,v)::M,i,h=>by
  simp only[aHB,aIP,aJV]at h;obtain⟨⟨hk,hv⟩,h⟩:=h;simp only[Instr.findNow,hk,Instr.sameNow,xT];cases hb:s==b with
  |true=>simp[hv]
  |false=>simpa using zP s es M (i+1) h
theorem rI{k:TypeId}(ht:P.underlying k=some .string)(s:ByteArray)(w:World){es:List MapEntry}{M:List (ByteArray×Value)}(h:es.map (fun e=>(e.key,e.val))=M.map (fun p=>(Value.string p.1,p.2))):(Instr.findKey k (.string s) es).run P w=.ok (xT s M 0) w:=by
 unfold Instr.findKey;rw[Sem.run_bind,TU.of ht w];simp only[Result.andThen_ok,zP s es M 0 h,Sem.run_pure]
theorem pB{k:TypeId}(ht:P.underlying k=some .string)(em:Bool)(s:ByteArray)(w:World):(Instr.checkKey em 10000 k (.string s)).run P w=.ok () w:=by
 show(Instr.checkKey em (9999+1) k (.string s)).run P w=_;rw[Instr.checkKey,Sem.run_bind,TU.of ht w];rfl
def QT(s:ByteArray)(M:List (ByteArray×Value))(z0:Value):Value:=match xT s M 0 with
 |some (_,v)=>v
 |none=>z0
theorem zL{t k e:TypeId}{b clock:Nat}{es:Array MapEntry}{M:List (ByteArray×Value)}{s:ByteArray}(ho:all[ix]?= some ⟨some d,.lookup t x y true,ty,pos,aft,g⟩)(ht:P.underlying t=some (.map k e))(hk:P.underlying k=some .string){z0:Value}(hz:TZ P e z0)
  (hx:ev σ x=some (.map (some b))) (hy:ev σ y=some (.string s)) (hm:(b,Obj.map es clock)∈μ) (hb:b∉bad) (hM:LI es M) (hN:Nat.blt d X.N=true) (hg:cS all σ g)
  (kk:WL P X bad all K Q os ((d,.tuple #[QT s M z0,.bool (xT s M 0).isSome])::σ) μ Ds):WL P X bad all K Q ((fl,ix)::os) σ μ Ds:=by
 have run:∀w,w.heap[b]?= some (Obj.map es clock)→(Instr.lookup t (.map (some b)) (.string s) true).run P w=.ok (.tuple #[QT s M z0,.bool (xT s M 0).isSome]) w:=by
  intro w hw;unfold QT;have hf:=rI hk s w hM;unfold Instr.lookup;simp only[Sem.run_bind,TU.of ht w,Result.andThen_ok,gH hw,Sem.run_pure,pB hk];rw[hf];cases xT s M 0 with
  |none=>simp only[Result.andThen_ok,Sem.run_bind,hz w,Sem.run_pure];rfl
  |some r=>obtain⟨j,v⟩:=r;simp only[Result.andThen_ok];rfl
 refine jA ho rfl rfl hN hg (fun a' w hh w' hk'=>?_) kk;simp only[execOp,hh.eval hx,hh.eval hy,Sem.run_bind,run w' (hh.boxAt hm hb hk'),Result.andThen_ok,Sem.run_pure]
theorem bS{t k e:TypeId}{b clock:Nat}{es:Array MapEntry}{M:List (ByteArray×Value)}{s:ByteArray}{A B:aC}(ho:all[ix]?= some ⟨none,.insert t x y z,ty,pos,aft,g⟩)(ht:P.underlying t=some (.map k e))(hk:P.underlying k=some .string)
  (hx:ev σ x=some (.map (some b))) (hy:ev σ y=some (.string s)) (hz:ev σ z=some v) (hM:LI es M) (hnew:xT s M 0=none) (hg:cS all σ g)
  (kk:∀es' clock',LI es' (M++[(s,v)])→WL P X bad all K Q os σ (A++(b,.map es' clock')::B) Ds):WL P X bad all K Q ((false,ix)::os) σ (A++(b,.map es clock)::B) Ds:=by
 refine dI ho rfl rfl hg fun a' w hh=>?_
 obtain⟨h1,h2,h3,D,h4,h5,h6⟩:=id hh;have hw:=(h4.box (b,.map es clock) Ye).1;have hf:=rI hk s w hM;have hset:∀o,(setObj b o).run P w=.ok () {w with heap:=w.heap.setIfInBounds b o}:=fun o=>by simp[setObj,Sem.run,hw]
 have hr:(Instr.mapUpdate t (.map (some b)) (.string s) v).run P w=.ok () {w with heap:=w.heap.setIfInBounds b (.map (es.push {key:=.string s,val:=v,born:=clock}) (clock+1))}:=by
  unfold Instr.mapUpdate;simp only[Sem.run_bind,TU.of ht w,Result.andThen_ok,gH hw,pB hk];rw[hf,hnew];simp only[Result.andThen_ok,hset]
 have hHas:bL (A++(b,Obj.map es clock)::B) b (.map es clock) (.map (es.push {key:=.string s,val:=v,born:=clock}) (clock+1)) (A++(b,.map (es.push {key:=.string s,val:=v,born:=clock}) (clock+1))::B):=.app .head;have hs:=h4.set (w':={w with heap:=w.heap.setIfInBounds b (.map (es.push {key:=.string s,val:=v,born:=clock}) (clock+1))}) hHas ⟨rfl,rfl⟩ trivial;have:(execOp a'.eval ⟨none,.insert t x y z,ty,pos,aft,g⟩).run P w=.ok .skip {w with heap:=w.heap.setIfInBounds b (.map (es.push {key:=.string s,val:=v,born:=clock}) (clock+1))}:=by
  simp only[execOp,hh.eval hx,hh.eval hy,hh.eval hz,Sem.run_bind,hr,Result.andThen_ok,Sem.run_pure]
 rw[this];refine⟨fun h=>by simp at h,kk _ _ ?_ _ _ ⟨h1,h2,h3,D,hs,h5,h6.step (fun _ p hp=>aGR Yq) (fun _=>gF ⟨rfl,rfl⟩ (aGA.2 ⟨_,hHas.mem,rfl⟩)) hs.dom⟩⟩;unfold LI at hM ⊢
 rw[Array.toList_push,aGS,aGS,hM];rfl
theorem Fn.of_alloc{f:FuncId}{args:Array Value}{D:aA}{cs:List Value}{e:TypeId}{r:Nat→Value}{post:aA→Value→Prop}(hEF:EF P f)
  (h:∀w,dQ D w→Calls P f args w fun en w'=>en=.returned (r w.heap.size)∧w'=w.alloc (.cells cs.toArray e (0,0))) (hp:∀D' b,Le D D'→At D' b 0 cs→post D' (r b)):Fn P f args D post:=by
 refine⟨hEF,fun w hw=>(h w hw).mono ?_⟩;rintro en w' ⟨he,rfl⟩;have hst:fI (hd w) w.heap.size D [] [] D w:=⟨aGW _,aGW _,(fun _ _ _=>rfl),(fun _ _=>rfl),hw,(fun p hp=>by cases hp),aID,(fun p hp=>by cases hp),fun e he=>aHC he⟩
 obtain⟨D',hle,hb, -,hs⟩:=hst.pushD cs e;have hA:At D' w.heap.size 0 cs:=fun j v hv=>by rw[hb];simpa using hv
 exact⟨_,D',he,hs,hp D' _ hle hA⟩
end Go.Fs
namespace Go.Fs
open Go.Proofs
namespace L12
open C12
def l5:List (ByteArray×Value):=[(⟨#[112,108,97,99,101]⟩,.agg #[.int .i64 0,.func (.func 168) #[] #[]]),(⟨#[115,101,101,110]⟩,.agg #[.int .i64 2,.func (.func 169) #[] #[]]),(⟨#[99,111,117,110,116]⟩,.agg #[.int .i64 2,.func (.func 170) #[] #[]]),(⟨#[98,97,99,107]⟩,.agg #[.int .i64 2,.func (.func 171) #[] #[]]),(⟨#[117,110,99,111,117,110,116]⟩,.agg #[.int .i64 1,.func (.func 172) #[] #[]]),(⟨#[119,114,111,110,103]⟩,.agg #[.int .i64 1,.func (.func 173) #[] #[]]),(⟨#[111,102,102]⟩,.agg #[.int .i64 1,.func (.func 174) #[] #[]]),(⟨#[116,105,100,101]⟩,.agg #[.int .i64 3,.func (.func 175) #[] #[]]),(⟨#[115,116,101,112]⟩,.agg #[.int .i64 1,.func (.func 176) #[] #[]]),(⟨#[108,101,118,101,108]⟩,.agg #[.int .i64 1,.func (.func 177) #[] #[]]),(⟨#[114,97,105,115,101]⟩,.agg #[.int .i64 2,.func (.func 178) #[] #[]]),(⟨#[109,97,114,107]⟩,.agg #[.int .i64 4,.func (.func 179) #[] #[]]),(⟨#[117,110,109,97,114,107]⟩,.agg #[.int .i64 1,.func (.func 180) #[] #[]]),(⟨#[104,105,114,101]⟩,.agg #[.int .i64 2,.func (.func 181) #[] #[]]),(⟨#[98,114,105,110,103]⟩,.agg #[.int .i64 2,.func (.func 182) #[] #[]]),(⟨#[115,109,117,100,103,101]⟩,.agg #[.int .i64 1,.func (.func 183) #[] #[]]),(⟨#[115,116,114,105,107,101]⟩,.agg #[.int .i64 1,.func (.func 184) #[] #[]]),(⟨#[98,114,111,107,101,110]⟩,.agg #[.int .i64 4,.func (.func 185) #[] #[]]),(⟨#[112,97,114,116]⟩,.agg #[.int .i64 3,.func (.func 186) #[] #[]]),(⟨#[102,105,116]⟩,.agg #[.int .i64 1,.func (.func 187) #[] #[]]),(⟨#[99,108,97,105,109]⟩,.agg #[.int .i64 2,.func (.func 188) #[] #[]]),(⟨#[117,110,99,108,97,105,109]⟩,.agg #[.int .i64 1,.func (.func 189) #[] #[]])]
theorem AX(D:aA):CI Tryz.prog 112 #[] D (fun _ v ν=>∃b es cl,v=.map (some b)∧ν=[(b,.map es cl)]∧LI es l5):=by
 refine mD 25 Tryz.func112 rfl rfl rfl rfl fun h0=>C.s1<|Zh rfl<|L.n3<|pM rfl rfl aLJ (fun qm=>?_)
 have hM0:LI #[] []:=rfl;refine Zq [.int .i64 0,.func (.func 168) #[] #[]] rfl Tf.p244 Tf.z244 rfl rfl<|bS (A:=[]) (B:=[]) rfl U246 U9 rfl rfl rfl hM0 Yg aLJ (fun es1 cl1 hM1=>Zq [.int .i64 2,.func (.func 169) #[] #[]] rfl Tf.p244 Tf.z244 rfl rfl<|bS (A:=[]) (B:=[]) rfl U246 U9 rfl rfl rfl hM1 Yg aLJ (fun es2 cl2 hM2=>Zq [.int .i64 2,.func (.func 170) #[] #[]] rfl Tf.p244 Tf.z244 rfl rfl<|bS (A:=[]) (B:=[]) rfl U246 U9 rfl rfl rfl hM2 Yg aLJ (fun es3 cl3 hM3=>Zq [.int .i64 2,.func (.func 171) #[] #[]] rfl Tf.p244 Tf.z244 rfl rfl<|bS (A:=[]) (B:=[]) rfl U246 U9 rfl rfl rfl hM3 Yg aLJ (fun es4 cl4 hM4=>Zq [.int .i64 1,.func (.func 172) #[] #[]] rfl Tf.p244 Tf.z244 rfl rfl<|bS (A:=[]) (B:=[]) rfl U246 U9 rfl rfl rfl hM4 Yg aLJ (fun es5 cl5 hM5=>Zq [.int .i64 1,.func (.func 173) #[] #[]] rfl Tf.p244 Tf.z244 rfl rfl<|bS (A:=[]) (B:=[]) rfl U246 U9 rfl rfl rfl hM5 Yg aLJ (fun es6 cl6 hM6=>?_))))));refine Zq [.int .i64 1,.func (.func 174) #[] #[]] rfl Tf.p244 Tf.z244 rfl rfl<|bS (A:=[]) (B:=[]) rfl U246 U9 rfl rfl rfl hM6 Yg aLJ (fun es7 cl7 hM7=>Zq [.int .i64 3,.func (.func 175) #[] #[]] rfl Tf.p244 Tf.z244 rfl rfl<|bS (A:=[]) (B:=[]) rfl U246 U9 rfl rfl rfl hM7 Yg aLJ (fun es8 cl8 hM8=>Zq [.int .i64 1,.func (.func 176) #[] #[]] rfl Tf.p244 Tf.z244 rfl rfl<|bS (A:=[]) (B:=[]) rfl U246 U9 rfl rfl rfl hM8 Yg aLJ (fun es9 cl9 hM9=>Zq [.int .i64 1,.func (.func 177) #[] #[]] rfl Tf.p244 Tf.z244 rfl rfl<|bS (A:=[]) (B:=[]) rfl U246 U9 rfl rfl rfl hM9 Yg aLJ (fun es10 cl10 hM10=>Zq [.int .i64 2,.func (.func 178) #[] #[]] rfl Tf.p244 Tf.z244 rfl rfl<|bS (A:=[]) (B:=[]) rfl U246 U9 rfl rfl rfl hM10 Yg aLJ (fun es11 cl11 hM11=>Zq [.int .i64 4,.func (.func 179) #[] #[]] rfl Tf.p244 Tf.z244 rfl rfl<|bS (A:=[]) (B:=[]) rfl U246 U9 rfl rfl rfl hM11 Yg aLJ (fun es12 cl12 hM12=>?_))))));refine Zq [.int .i64 1,.func (.func 180) #[] #[]] rfl Tf.p244 Tf.z244 rfl rfl<|bS (A:=[]) (B:=[]) rfl U246 U9 rfl rfl rfl hM12 Yg aLJ (fun es13 cl13 hM13=>Zq [.int .i64 2,.func (.func 181) #[] #[]] rfl Tf.p244 Tf.z244 rfl rfl<|bS (A:=[]) (B:=[]) rfl U246 U9 rfl rfl rfl hM13 Yg aLJ (fun es14 cl14 hM14=>Zq [.int .i64 2,.func (.func 182) #[] #[]] rfl Tf.p244 Tf.z244 rfl rfl<|bS (A:=[]) (B:=[]) rfl U246 U9 rfl rfl rfl hM14 Yg aLJ (fun es15 cl15 hM15=>Zq [.int .i64 1,.func (.func 183) #[] #[]] rfl Tf.p244 Tf.z244 rfl rfl<|bS (A:=[]) (B:=[]) rfl U246 U9 rfl rfl rfl hM15 Yg aLJ (fun es16 cl16 hM16=>Zq [.int .i64 1,.func (.func 184) #[] #[]] rfl Tf.p244 Tf.z244 rfl rfl<|bS (A:=[]) (B:=[]) rfl U246 U9 rfl rfl rfl hM16 Yg aLJ (fun es17 cl17 hM17=>Zq [.int .i64 4,.func (.func 185) #[] #[]] rfl Tf.p244 Tf.z244 rfl rfl<|bS (A:=[]) (B:=[]) rfl U246 U9 rfl rfl rfl hM17 Yg aLJ (fun es18 cl18 hM18=>?_))))));refine Zq [.int .i64 3,.func (.func 186) #[] #[]] rfl Tf.p244 Tf.z244 rfl rfl<|bS (A:=[]) (B:=[]) rfl U246 U9 rfl rfl rfl hM18 Yg aLJ (fun es19 cl19 hM19=>Zq [.int .i64 1,.func (.func 187) #[] #[]] rfl Tf.p244 Tf.z244 rfl rfl<|bS (A:=[]) (B:=[]) rfl U246 U9 rfl rfl rfl hM19 Yg aLJ (fun es20 cl20 hM20=>Zq [.int .i64 2,.func (.func 188) #[] #[]] rfl Tf.p244 Tf.z244 rfl rfl<|bS (A:=[]) (B:=[]) rfl U246 U9 rfl rfl rfl hM20 Yg aLJ (fun es21 cl21 hM21=>Zq [.int .i64 1,.func (.func 189) #[] #[]] rfl Tf.p244 Tf.z244 rfl rfl<|bS (A:=[]) (B:=[]) rfl U246 U9 rfl rfl rfl hM21 Yg aLJ (fun es22 cl22 hM22=>Za rfl<|Zh rfl<|L.n5 ?_))));exact leave1 rfl rfl rfl rfl (fun D hD=>⟨qm,es22,cl22,rfl,rfl,hM22⟩)
end L12
end Go.Fs
namespace Go.Fs
namespace C12
abbrev fN:=aN→List Int→Except Int aN
def setRow(s:aN)(r:C1.dF):aN:={s with row:=r}
def setTable(s:aN)(t:C2.aZ):aN:={s with table:=t}
def setBook(s:aN)(b:C3.aW):aN:={s with book:=b}
def setYard(s:aN)(y:C7.bI):aN:={s with yard:=y}
def ID(p:C7.Pt)(i:Nat)(v:Int):C7.Pt:=if i=0 then {p with a:=v}else if i=1 then {p with b:=v}else {p with c:=v}
def yJ:fN:=fun s _=>if 7≤(s.row.places.length:Int)then .error 3 else .ok (setRow s {s.row with places:=s.row.places++[2]})
def M8:fN:=fun s n=>match n with
 | [a,b]=>if(s.row.places.length:Int)≤a then .error 7 else if 2<b then .error 2 else .ok (setRow s {s.row with places:=s.row.places.set a.toNat b})
 |_=>.error 4
def mB(back:Bool):fN:=fun s n=>match n with
 | [a,b]=>if(s.row.places.length:Int)<a∨9<b then .error 2 else if 6≤(s.row.counts.length:Int)then .error 3 else .ok (setRow s {s.row with counts:=s.row.counts++[⟨back,a,b⟩]})
 |_=>.error 4
def pQ:fN:=fun s n=>match n with
 | [a]=>if(s.row.counts.length:Int)≤a then .error 7 else .ok (setRow s {s.row with counts:=s.row.counts.eraseIdx a.toNat})
 |_=>.error 4
def yN:fN:=fun s n=>match n with
 | [a]=>if 6<a then .error 2 else .ok (setRow s {s.row with wrong:=a})
 |_=>.error 4
def JI:fN:=fun s n=>match n with
 | [a]=>if 9<a then .error 2 else .ok (setRow s {s.row with off:=a})
 |_=>.error 4
def J4:fN:=fun s n=>match n with
 | [a,b,c]=>if(s.table.heights.length:Int)≤a then .error 7 else if c<b∨99<c∨b+2<c then .error 2 else .ok (setTable s {s.table with heights:=s.table.heights.set a.toNat (b,c)})
 |_=>.error 4
def U7:fN:=fun s n=>match n with
 | [a]=>if 99<a then .error 2 else .ok (setTable s {s.table with step:=a})
 |_=>.error 4
def vL:fN:=fun s n=>match n with
 | [a]=>if 99<a then .error 2 else if 6≤(s.table.levels.length:Int)then .error 3 else .ok (setTable s {s.table with levels:=s.table.levels++[a]})
 |_=>.error 4
def vQ:fN:=fun s n=>match n with
 | [a,b]=>if(s.table.levels.length:Int)≤a then .error 7 else if 99<b then .error 2 else .ok (setTable s {s.table with levels:=s.table.levels.set a.toNat b})
 |_=>.error 4
def vT:fN:=fun s n=>match n with
 | [a,b,c,d]=>if(s.table.heights.length:Int)≤max a b then .error 7 else if b<a then .error 2 else if d<c∨99<d then .error 2 else if 5≤(s.table.marks.length:Int)then .error 3 else .ok (setTable s {s.table with marks:=s.table.marks++[⟨a,b,c,d⟩]})
 |_=>.error 4
def tU:fN:=fun s n=>match n with
 | [a]=>if(s.table.marks.length:Int)≤a then .error 7 else .ok (setTable s {s.table with marks:=s.table.marks.eraseIdx a.toNat})
 |_=>.error 4
def mE(kind:Int):fN:=fun s n=>match n with
 | [a,b]=>if s.book.chairs≤max a b then .error 7 else if 8≤(s.book.lines.length:Int)then .error 3 else .ok (setBook s {s.book with lines:=s.book.lines++[⟨kind,a,b⟩]})
 |_=>.error 4
def qS:fN:=fun s n=>match n with
 | [a]=>match s.book.lines[a.toNat]? with
  |none=>.error 7
  |some l=>if l.token= -1 then .error 6 else .ok (setBook s {s.book with lines:=s.book.lines.set a.toNat {l with token:= -1}})
 |_=>.error 4
def tQ:fN:=fun s n=>match n with
 | [a]=>if(s.book.lines.length:Int)≤a then .error 7 else .ok (setBook s {s.book with lines:=s.book.lines.eraseIdx a.toNat})
 |_=>.error 4
def qZ:fN:=fun s n=>match n with
 | [a,b,c,d]=>if 9<a∨2<max (max b c) d then .error 2 else if 5≤(s.yard.chairs.length:Int)then .error 3 else .ok (setYard s {s.yard with chairs:=s.yard.chairs++[⟨a,⟨b,c,d⟩⟩]})
 |_=>.error 4
def zI:fN:=fun s n=>match n with
 | [a,b,c]=>match s.yard.chairs[a.toNat]? with
  |none=>.error 7
  |some x=>if 3≤b then .error 7 else if 2<c then .error 2 else .ok (setYard s {s.yard with chairs:=s.yard.chairs.set a.toNat {x with parts:=ID x.parts b.toNat c}})
 |_=>.error 4
def JS:fN:=fun s n=>match n with
 | [a]=>if 9<a then .error 2 else .ok (setYard s {s.yard with fit:=a})
 |_=>.error 4
def uZ:fN:=fun s n=>match n with
 | [a,b]=>if b<a∨7<b then .error 2 else if 5≤(s.yard.claims.length:Int)then .error 3 else .ok (setYard s {s.yard with claims:=s.yard.claims++[(a,b)]})
 |_=>.error 4
def pP:fN:=fun s n=>match n with
 | [a]=>if(s.yard.claims.length:Int)≤a then .error 7 else .ok (setYard s {s.yard with claims:=s.yard.claims.eraseIdx a.toNat})
 |_=>.error 4
end C12
end Go.Fs
namespace Go.Fs
namespace C12
open Go.Lib
def mC:List UInt8→List (List UInt8)
 | []=>[[]]
 |b::l=>if b=32 then []::mC l else match mC l with
  | []=>[[b]]
  |p::ps=>(b::p)::ps
theorem YK(l:List UInt8):mC l≠[]:=by
 cases l with
 |nil=>simp[mC]
 |cons b l=>unfold mC;split;simp;split<;>simp
theorem yP:∀{l:List UInt8},(32:UInt8)∉l→mC l=[l]
 | [],_=>rfl
 |b::l,h=>by
  simp only[aGB,not_or]at h;unfold mC;rw[aGQ (fun e=>h.1 e.symm),yP h.2]
theorem P8:∀{l:List UInt8} {i:Nat},l[i]?= some 32→(32:UInt8)∉l.take i→mC l=l.take i::mC (l.drop (i+1))
 | [],i,h,_=>by simp at h
 |b::l,0,h,_=>by
  obtain rfl:b=32:=by simpa using h
  simp[mC]
 |b::l,i+1,h,hn=>by
  simp only[aLI,aGB,not_or]at hn;rw[mC,aGQ (fun e=>hn.1 e.symm),P8 Yal hn.2];simp
theorem tL{l:List UInt8}{i:Nat}{c:UInt8}:occAt l [c] i=true ↔ l[i]?= some c:=by
 unfold occAt;by_cases h:i<l.length
 ·rw[aIJ h,aGF h];simp only[List.isPrefixOf,Bool.and_true,aKV,aLD];exact eq_comm
 ·rw[aHO Yd,aJJ Yd];simp[List.isPrefixOf]
theorem BK:∀(n:Nat) (l:List UInt8),l.length≤n→splitK [32] 0 (count l [32]) l=mC l:=by
 intro n;induction n with
 |zero=>
  intro l hl;obtain rfl:l=[]:=List.eq_nil_of_length_eq_zero Yd;rfl
 |succ n ih=>
  intro l hl;rcases index_spec l [32]with⟨h1,h2⟩|⟨i,h1,h2,h3,h4⟩
  ·rw[count_miss h1];refine(yP fun hm=>?_).symm;obtain⟨i,hi⟩:=aJT.1 hm;have:=h2 i (by have:=(aGJ.1 hi).1;omega)
   rw[tL.2 hi]at this;cases this
  ·have hi:=tL.1 h3;rw[count_hit Ye h1,Nat.add_comm 1,splitK,aGQ (by rw[h1];simp),h1]
   have hdl:(l.drop (i+1)).length≤n:=by
    have:=(aGJ.1 hi).1;rw[aHU];omega
   simp only[aIH,Nat.add_zero,aJE];rw[ih _ hdl];refine(P8 hi fun hm=>?_).symm;obtain⟨j,hj⟩:=aJT.1 hm;have hjl:=(aGJ.1 hj).1;rw[aHZ]at hjl;rw[aJC Yd]at hj;have:=h4 j Yd;rw[tL.2 hj]at this;cases this
def kY(l:List UInt8):ByteArray:=⟨l.toArray⟩
theorem CC(s:ByteArray):kY s.data.toList=s:=Go.WideShapes.bytes_inj rfl
def fV(s:ByteArray):List ByteArray:=(mC s.data.toList).map kY
theorem CU(s:ByteArray):splitB ⟨#[32]⟩ 0 (countB s ⟨#[32]⟩) s=fV s:=by
 have h:=splitB_data ⟨#[32]⟩ 0 (countB s ⟨#[32]⟩) s;have h2:splitK [32] 0 (count s.data.toList [32]) s.data.toList=mC s.data.toList:=BK _ _ (aGW _);have h3:(splitB ⟨#[32]⟩ 0 (countB s ⟨#[32]⟩) s).map (·.data.toList)=mC s.data.toList:=h.trans h2;unfold fV;rw[←h3,List.map_map];refine(List.map_id _).symm.trans (List.map_congr_left fun x _=>?_);exact(CC x).symm
theorem BL(s:ByteArray):countB s ⟨#[32]⟩+1=(fV s).length:=by
 have key:∀(n:Nat) (l:List UInt8),l.length≤n→count l [32]+1=(mC l).length:=by
  intro n;induction n with
  |zero=>intro l hl;obtain rfl:l=[]:=List.eq_nil_of_length_eq_zero Yd;rfl
  |succ n ih=>
   intro l hl;rcases index_spec l [32]with⟨h1,h2⟩|⟨i,h1,h2,h3,h4⟩
   ·rw[count_miss h1,yP fun hm=>?_]
    ·rfl
    ·obtain⟨i,hi⟩:=aJT.1 hm;have:=h2 i (by have:=(aGJ.1 hi).1;omega)
     rw[tL.2 hi]at this;cases this
   ·have hi:=tL.1 h3;have hdl:(l.drop (i+1)).length≤n:=by
     have:=(aGJ.1 hi).1;rw[aHU];omega
    rw[P8 hi fun hm=>?_,aGM,←ih _ hdl,count_hit Ye h1]
    ·simp only[aJE];omega
    ·obtain⟨j,hj⟩:=aJT.1 hm;have hjl:=(aGJ.1 hj).1;rw[aHZ]at hjl;rw[aJC Yd]at hj;have:=h4 j Yd;rw[tL.2 hj]at this;cases this
 unfold fV;rw[aHR];exact key _ _ (aGW _)
theorem GI(l:List UInt8):(mC l).length≤l.length+1:=by
 induction l with
 |nil=>simp[mC]
 |cons b l ih=>
  unfold mC;split
  ·simp;omega
  ·split
   ·simp
   ·rename_i p ps e;rw[e]at ih;simpa using Nat.le_succ_of_le ih
theorem ND{l p:List UInt8}(h:p∈mC l):p.length≤l.length:=by
 induction l generalizing p with
 |nil=>simp[mC]at h;subst h;simp
 |cons b l ih=>
  unfold mC at h;split at h
  ·rcases aGB.1 h with rfl|h
   ·simp
   ·exact Nat.le_succ_of_le (ih h)
  ·split at h
   ·simp only[aGU]at h;subst h;simp
   ·rename_i q qs e;rcases aGB.1 h with rfl|h
    ·have:=ih (p:=q) (by rw[e];simp);simpa using this
    ·exact Nat.le_succ_of_le (ih (by rw[e];exact aGE _ h))

def yA(l:List UInt8):Option Int:=if l.length≤3∧(l.head?≠some 48∨l.length=1)then(decNat l).map fun(n:Nat)=>(n:Int)else none
def XH(l:List UInt8):Option Int:=match atoiAll l with
 |.ok v=>if 0≤v∧l.length≤3∧itoa v=l then some v else none
 |_=>none
theorem qG{b:UInt8}{d:Nat}(h:digitVal b=some d):d<10∧b=UInt8.ofNat (48+d):=by
 unfold digitVal at h;split at h
 ·cases h;refine⟨by omega,?_⟩;rw[show 48+(b.toNat-48)=b.toNat by omega];simp
 ·cases h
theorem W4{a b:Nat}(ha:a<256)(hb:b<256)(h:UInt8.ofNat a=UInt8.ofNat b):a=b:=by
 have:=aGV UInt8.toNat h;simp only[UInt8.toNat_ofNat']at this;omega
theorem MQ{u:Nat}(h:u<10):decDigits u=[UInt8.ofNat (48+u)]:=by rw[decDigits,dif_pos h]
theorem aDB{u:Nat}(h:10≤u)(h2:u<100):decDigits u=[UInt8.ofNat (48+u / 10),UInt8.ofNat (48+u%10)]:=by rw[decDigits,dif_neg Yd,MQ Yd];rfl
theorem aFU{u:Nat}(h:100≤u)(h2:u<1000):decDigits u=[UInt8.ofNat (48+u / 10 / 10),UInt8.ofNat (48+u / 10%10),UInt8.ofNat (48+u%10)]:=by rw[decDigits,dif_neg Yd,aDB Yd Yd];rfl
theorem wC(u:Nat):itoa (u:Int)=decDigits u:=by unfold itoa;rw[aGQ Yd,aIH]
theorem MI{u:Nat}{b:UInt8}(h:b∈decDigits u):48≤b.toNat∧b.toNat≤57:=by
 induction u using Nat.strongRecOn with
 |_ u ih=>
  by_cases hu:u<10
  ·rw[MQ hu]at h;simp only[aGU]at h;subst h
   simp only[UInt8.toNat_ofNat'];omega
  ·rw[decDigits,dif_neg hu,aGP,aGU]at h;rcases h with h|h
   ·exact ih _ Yd h
   ·subst h;simp only[UInt8.toNat_ofNat'];omega
theorem HU(l:List UInt8):XH l=yA l:=by
 unfold XH yA;by_cases hl:l.length≤3
 ·rw[atoiAll_short l Yd];match l,hl with
  | [],_=>rfl
  |b::r,hl=>
   have hat:atoi (b::r)=if(b==45)=true then(decNat r).map fun(m:Nat)=> -(m:Int)else if(b==43)=true then(decNat r).map fun(m:Nat)=>(m:Int)else(decNat (b::r)).map fun(m:Nat)=>(m:Int):=rfl
   rw[hat];by_cases h45:b=45
   ·subst h45;have hd:decNat (45::r)=none:=by unfold decNat decFrom digitVal;simp
    rw[hd];simp only[beq_self_eq_true,aII,aIK,ite_self];cases decNat r with
    |none=>rfl
    |some m=>
     simp only[aHM,NumEnd.ofOption];rw[aGQ];rintro⟨h1,h2,h3⟩;obtain rfl:m=0:=by omega
     have h4:itoa (-((0:Nat):Int))=[48]:=by rw[show(-((0:Nat):Int))=((0:Nat):Int) by omega,wC,MQ Yd];rfl
     rw[h4]at h3;simp at h3
   ·rw[aGQ (by simpa using h45)];by_cases h43:b=43
    ·subst h43;have hd:decNat (43::r)=none:=by unfold decNat decFrom digitVal;simp
     rw[hd];simp only[beq_self_eq_true,aII,aIK,ite_self];cases decNat r with
     |none=>rfl
     |some m=>
      simp only[aHM,NumEnd.ofOption];rw[aGQ];rintro⟨h1,h2,h3⟩;rw[wC]at h3;have:=MI (u:=m) (b:=43) (by rw[h3];simp)
      simp at this
    ·rw[aGQ (by simpa using h43)];have hnone:decNat (b::r)=none→_:=fun h=>h
     cases hd:decNat (b::r)with
     |none=>simp only[aIK,ite_self];rfl
     |some m=>
      simp only[aHM,NumEnd.ofOption];have key:(0≤(m:Int)∧(b::r).length≤3∧itoa (m:Int)=b::r) ↔ ((b::r).length≤3∧((b::r).head?≠some 48∨(b::r).length=1)):=by
       rw[wC];unfold decNat at hd;match r,hl with
       | [],_=>
        simp only[List.isEmpty_cons,aHL,aIL,decFrom]at hd;cases h1:digitVal b with
        |none=>rw[h1]at hd;cases hd
        |some d1=>
         rw[h1]at hd;simp only[aLD]at hd;obtain⟨k1,rfl⟩:=qG h1;obtain rfl:d1=m:=by omega
         rw[MQ k1];simp
       | [b2],_=>
        simp only[List.isEmpty_cons,aHL,aIL,decFrom]at hd;cases h1:digitVal b with
        |none=>rw[h1]at hd;cases hd
        |some d1=>
         cases h2:digitVal b2 with
         |none=>rw[h1,h2]at hd;cases hd
         |some d2=>
          rw[h1,h2]at hd;simp only[aLD]at hd;obtain⟨k1,rfl⟩:=qG h1;obtain⟨k2,rfl⟩:=qG h2;by_cases z:d1=0
          ·subst z;rw[MQ Yd];simp
          ·rw[aDB Yd Yd,show m / 10=d1 by omega,show m%10=d2 by omega];have:UInt8.ofNat d1≠0:=fun e=>z (W4 (a:=d1) (b:=0) Yd Yd e)
           simp[this]
       | [b2,b3],_=>
        simp only[List.isEmpty_cons,aHL,aIL,decFrom]at hd;cases h1:digitVal b with
        |none=>rw[h1]at hd;cases hd
        |some d1=>
         cases h2:digitVal b2 with
         |none=>rw[h1,h2]at hd;cases hd
         |some d2=>
          cases h3:digitVal b3 with
          |none=>rw[h1,h2,h3]at hd;cases hd
          |some d3=>
           rw[h1,h2,h3]at hd;simp only[aLD]at hd;obtain⟨k1,rfl⟩:=qG h1;obtain⟨k2,rfl⟩:=qG h2;obtain⟨k3,rfl⟩:=qG h3;by_cases z:d1=0
           ·subst z;by_cases z2:m<10
            ·rw[MQ z2];simp
            ·rw[aDB Yd Yd];simp
           ·rw[aFU Yd Yd,show m / 10 / 10=d1 by omega,show m / 10%10=d2 by omega,show m%10=d3 by omega];have:UInt8.ofNat d1≠0:=fun e=>z (W4 (a:=d1) (b:=0) Yd Yd e)
            simp[this]
      by_cases hk:(b::r).length≤3∧((b::r).head?≠some 48∨(b::r).length=1)
      ·rw[aGX hk,aGX (key.2 hk)]
      ·rw[aGQ hk,aGQ (fun h=>hk (key.1 h))]
 ·rw[aGQ (fun h=>hl h.1)];split
  ·rw[aGQ (fun h=>hl h.2.1)]
  ·rfl
theorem DM{l:List UInt8}{n:Int}(h:yA l=some n):0≤n∧n≤999∧itoa n=l:=by
 have h2:=h;rw[←HU]at h2;unfold XH at h2;split at h2
 ·split at h2
  ·rename_i v _ hc;cases h2;refine⟨hc.1,?_,hc.2.2⟩;by_cases hb:n≤999
   ·exact hb
   ·exfalso
    obtain⟨u,rfl⟩:∃u:Nat,n=(u:Int):=⟨n.toNat,by omega⟩
    have h3:=hc.2.2;rw[wC]at h3;have h4:4≤(decDigits u).length:=by
     rw[decDigits,dif_neg Yd,decDigits,dif_neg Yd,decDigits,dif_neg Yd,decDigits];split<;>simp
    rw[h3]at h4;omega
  ·cases h2
 ·cases h2

def nT:List (List UInt8×Nat×fN):=[
 ([112,108,97,99,101],0,yJ),
 ([115,101,101,110],2,M8),
 ([99,111,117,110,116],2,mB false),
 ([98,97,99,107],2,mB true),
 ([117,110,99,111,117,110,116],1,pQ),
 ([119,114,111,110,103],1,yN),
 ([111,102,102],1,JI),
 ([116,105,100,101],3,J4),
 ([115,116,101,112],1,U7),
 ([108,101,118,101,108],1,vL),
 ([114,97,105,115,101],2,vQ),
 ([109,97,114,107],4,vT),
 ([117,110,109,97,114,107],1,tU),
 ([104,105,114,101],2,mE 1),
 ([98,114,105,110,103],2,mE 2),
 ([115,109,117,100,103,101],1,qS),
 ([115,116,114,105,107,101],1,tQ),
 ([98,114,111,107,101,110],4,qZ),
 ([112,97,114,116],3,zI),
 ([102,105,116],1,JS),
 ([99,108,97,105,109],2,uZ),
 ([117,110,99,108,97,105,109],1,pP)]
def jV(line:ByteArray):Option (fN×List Int):=
 match mC line.data.toList with
 | []=>none
 |p::ps=>match nT.find? (fun x=>x.1==p)with
  |none=>none
  |some (_,k,act)=>if ps.length=k then(ps.mapM yA).map fun n=>(act,n)else none

structure jZ(s:aN):Prop where
 pl:s.row.places.length≤7
 ct:s.row.counts.length≤6
 ht:s.table.heights.length=4
 lev:s.table.levels.length≤6
 mks:s.table.marks.length≤5
 ln:s.book.lines.length≤8
 ch:s.yard.chairs.length≤5
 cl:s.yard.claims.length≤5
 bc:s.book.chairs=3
theorem jZ.setRow{s:aN}(h:jZ s){r:C1.dF}(h1:r.places.length≤7)(h2:r.counts.length≤6):jZ (setRow s r):=⟨h1,h2,h.ht,h.lev,h.mks,h.ln,h.ch,h.cl,h.bc⟩
theorem jZ.setTable{s:aN}(h:jZ s){r:C2.aZ}(h1:r.heights.length=4)(h2:r.levels.length≤6)(h3:r.marks.length≤5):jZ (setTable s r):=⟨h.pl,h.ct,h1,h2,h3,h.ln,h.ch,h.cl,h.bc⟩
theorem jZ.setBook{s:aN}(h:jZ s){r:C3.aW}(h1:r.lines.length≤8)(h2:r.chairs=3):jZ (setBook s r):=⟨h.pl,h.ct,h.ht,h.lev,h.mks,h1,h.ch,h.cl,h2⟩
theorem jZ.setYard{s:aN}(h:jZ s){r:C7.bI}(h1:r.chairs.length≤5)(h2:r.claims.length≤5):jZ (setYard s r):=⟨h.pl,h.ct,h.ht,h.lev,h.mks,h.ln,h1,h2,h.bc⟩
def jO(f:fN):Prop:=∀s n s',jZ s→f s n=.ok s'→jZ s'
theorem d5:jO yJ:=by
 intro s n s' h e;unfold yJ at e;have h1:=h.pl;have h2:=h.ct
 repeat' split at e
 all_goals cases e
 all_goals (refine h.setRow ?_ ?_<;>first|assumption|(simp<;>omega)|(simp only[aHV];split<;>omega))
theorem AY:jO M8:=by
 intro s n s' h e;unfold M8 at e;have h1:=h.pl;have h2:=h.ct
 repeat' split at e
 all_goals cases e
 all_goals (refine h.setRow ?_ ?_<;>first|assumption|(simp<;>omega)|(simp only[aHV];split<;>omega))
theorem wH(b:Bool):jO (mB b):=by
 intro s n s' h e;unfold mB at e;have h1:=h.pl;have h2:=h.ct
 repeat' split at e
 all_goals cases e
 all_goals (refine h.setRow ?_ ?_<;>first|assumption|(simp<;>omega)|(simp only[aHV];split<;>omega))
theorem J8:jO pQ:=by
 intro s n s' h e;unfold pQ at e;have h1:=h.pl;have h2:=h.ct
 repeat' split at e
 all_goals cases e
 all_goals (refine h.setRow ?_ ?_<;>first|assumption|(simp<;>omega)|(simp only[aHV];split<;>omega))
theorem j9:jO yN:=by
 intro s n s' h e;unfold yN at e;have h1:=h.pl;have h2:=h.ct
 repeat' split at e
 all_goals cases e
 all_goals (refine h.setRow ?_ ?_<;>first|assumption|(simp<;>omega)|(simp only[aHV];split<;>omega))
theorem EA:jO JI:=by
 intro s n s' h e;unfold JI at e;have h1:=h.pl;have h2:=h.ct
 repeat' split at e
 all_goals cases e
 all_goals (refine h.setRow ?_ ?_<;>first|assumption|(simp<;>omega)|(simp only[aHV];split<;>omega))
theorem AD:jO J4:=by
 intro s n s' h e;unfold J4 at e;have h1:=h.ht;have h2:=h.lev;have h3:=h.mks
 repeat' split at e
 all_goals cases e
 all_goals (refine h.setTable ?_ ?_ ?_<;>first|assumption|(simp<;>omega)|(simp only[aHV];split<;>omega))
theorem BV:jO U7:=by
 intro s n s' h e;unfold U7 at e;have h1:=h.ht;have h2:=h.lev;have h3:=h.mks
 repeat' split at e
 all_goals cases e
 all_goals (refine h.setTable ?_ ?_ ?_<;>first|assumption|(simp<;>omega)|(simp only[aHV];split<;>omega))
theorem b7:jO vL:=by
 intro s n s' h e;unfold vL at e;have h1:=h.ht;have h2:=h.lev;have h3:=h.mks
 repeat' split at e
 all_goals cases e
 all_goals (refine h.setTable ?_ ?_ ?_<;>first|assumption|(simp<;>omega)|(simp only[aHV];split<;>omega))
theorem j5:jO vQ:=by
 intro s n s' h e;unfold vQ at e;have h1:=h.ht;have h2:=h.lev;have h3:=h.mks
 repeat' split at e
 all_goals cases e
 all_goals (refine h.setTable ?_ ?_ ?_<;>first|assumption|(simp<;>omega)|(simp only[aHV];split<;>omega))
theorem o7:jO vT:=by
 intro s n s' h e;unfold vT at e;have h1:=h.ht;have h2:=h.lev;have h3:=h.mks
 repeat' split at e
 all_goals cases e
 all_goals (refine h.setTable ?_ ?_ ?_<;>first|assumption|(simp<;>omega)|(simp only[aHV];split<;>omega))
theorem R8:jO tU:=by
 intro s n s' h e;unfold tU at e;have h1:=h.ht;have h2:=h.lev;have h3:=h.mks
 repeat' split at e
 all_goals cases e
 all_goals (refine h.setTable ?_ ?_ ?_<;>first|assumption|(simp<;>omega)|(simp only[aHV];split<;>omega))
theorem wX(k:Int):jO (mE k):=by
 intro s n s' h e;unfold mE at e;have h1:=h.ln;have h2:=h.bc
 repeat' split at e
 all_goals cases e
 all_goals (refine h.setBook ?_ ?_<;>first|assumption|(simp<;>omega)|(simp only[aHV];split<;>omega))
theorem Q6:jO qS:=by
 intro s n s' h e;unfold qS at e;have h1:=h.ln;have h2:=h.bc
 repeat' split at e
 all_goals cases e
 all_goals (refine h.setBook ?_ ?_<;>first|assumption|(simp<;>omega)|(simp only[aHV];split<;>omega))
theorem Q8:jO tQ:=by
 intro s n s' h e;unfold tQ at e;have h1:=h.ln;have h2:=h.bc
 repeat' split at e
 all_goals cases e
 all_goals (refine h.setBook ?_ ?_<;>first|assumption|(simp<;>omega)|(simp only[aHV];split<;>omega))
theorem R4:jO qZ:=by
 intro s n s' h e;unfold qZ at e;have h1:=h.ch;have h2:=h.cl
 repeat' split at e
 all_goals cases e
 all_goals (refine h.setYard ?_ ?_<;>first|assumption|(simp<;>omega)|(simp only[aHV];split<;>omega))
theorem o9:jO zI:=by
 intro s n s' h e;unfold zI at e;have h1:=h.ch;have h2:=h.cl
 repeat' split at e
 all_goals cases e
 all_goals (refine h.setYard ?_ ?_<;>first|assumption|(simp<;>omega)|(simp only[aHV];split<;>omega))
theorem DI:jO JS:=by
 intro s n s' h e;unfold JS at e;have h1:=h.ch;have h2:=h.cl
 repeat' split at e
 all_goals cases e
 all_goals (refine h.setYard ?_ ?_<;>first|assumption|(simp<;>omega)|(simp only[aHV];split<;>omega))
theorem f7:jO uZ:=by
 intro s n s' h e;unfold uZ at e;have h1:=h.ch;have h2:=h.cl
 repeat' split at e
 all_goals cases e
 all_goals (refine h.setYard ?_ ?_<;>first|assumption|(simp<;>omega)|(simp only[aHV];split<;>omega))
theorem L5:jO pP:=by
 intro s n s' h e;unfold pP at e;have h1:=h.ch;have h2:=h.cl
 repeat' split at e
 all_goals cases e
 all_goals (refine h.setYard ?_ ?_<;>first|assumption|(simp<;>omega)|(simp only[aHV];split<;>omega))
theorem DH:∀x∈nT,jO x.2.2:=by
 intro x hx;simp only[nT,aGB,GT,aIY]at hx;rcases hx with rfl|rfl|rfl|rfl|rfl|rfl|rfl|rfl|rfl|rfl|rfl|rfl|rfl|rfl|rfl|rfl|rfl|rfl|rfl|rfl|rfl|rfl
 ·exact d5
 ·exact AY
 ·exact wH false
 ·exact wH true
 ·exact J8
 ·exact j9
 ·exact EA
 ·exact AD
 ·exact BV
 ·exact b7
 ·exact j5
 ·exact o7
 ·exact R8
 ·exact wX 1
 ·exact wX 2
 ·exact Q6
 ·exact Q8
 ·exact R4
 ·exact o9
 ·exact DI
 ·exact f7
 ·exact L5
end C12
end Go.Fs
namespace Go.Fs
variable{P:Program}{X:Cx}{γb:Type}[Membership Nat γb]{bad:γb}{all:Array Oper}{K:Act→World→Prop}{Q:Exit→Act→World→Prop}
variable{σ:bQ}{μ:aC}{Ds:List aA}{os:List (Bool×Nat)}{fl:Bool}{ix:Nat}
variable{d:Nat}{x y z:Operand}{u v:Value}{ty:TypeId}{pos:String}{aft:Array Edge}{g:Option (Nat×Bool)}
abbrev Cx.push(X:Cx)(dd:Deferred):Cx:={X with ds:=dd::X.ds}
theorem XQ{c:Operand}{f:FuncId}{c1 c2:List Value}{ats:Array TypeId}(ho:all[ix]?= some ⟨none,.defer {callee:=.value c,args:=#[],argTypes:=ats},ty,pos,aft,g⟩)(hX:X.r=none)(hc:ev σ c=some (.func (.func f) c1.toArray c2.toArray))(hg:cS all σ g)
  (k:WL P (X.push ⟨.fn (.func f) c2.toArray,c1.toArray⟩) bad all K Q os σ μ Ds):WL P X bad all K Q ((false,ix)::os) σ μ Ds:=by
 intro a w hh;rw[nP ho];have hq:gO (Op.defer {callee:=.value c,args:=#[],argTypes:=ats})=false:=rfl;simp only[mH,hq,aHL,aIL];unfold uE;rw[aGX (hh.wanted hg)];refine⟨fun _ _=>trivial,?_⟩;have e:(Oper.semAt (FW X.r).round a.eval ⟨none,.defer {callee:=.value c,args:=#[],argTypes:=ats},ty,pos,aft,g⟩).run P w=.ok (.defer ⟨.fn (.func f) c2.toArray,c1.toArray⟩) w:=by
  rw[hX];show(Oper.semAt none a.eval _).run P w=_;rw[Oper.semAt_none];simp only[execOp,resolve,hh.eval hc,Deferred.ofValue,Array.map_empty,Array.append_empty];rfl
 rw[e];obtain⟨h1,h2,h3,D,h4,h5,h6⟩:=hh;exact⟨fun h=>(by simp at h),k _ _ ⟨h1,h2,by simp[Act.put,h3],D,h4,h5,h6⟩⟩
theorem aBR{f:FuncId}{fn:Func}{c:Code}{args:List Value}{D:aA}{post:aA→Value→Prop}(N:Nat)(hf:P.funcs[f]?= some fn)(hn:(fn.name== "runtime.NumGoroutine")=false)(hb:fn.body=some c)(hN:fn.ntmps=N)(hsz:Nat.ble args.length N=true)
  (h:∀h0:H0,WC P ⟨none,N,[],h0,h0.size,D,[],none⟩ (bodyPostDIn (FW none) 0 P fn (lG ⟨none,N,[],h0,h0.size,D,[],none⟩ fun D' v _=>post D' v)) c (gG 0 args) [] [D]):Fn P f args.toArray D post:=by
 refine⟨EF.of hf hn hb,fun w hw=>?_⟩;subst hN;have hsz:=aIE hsz;refine(cU (r:=none) (n:=0)).1 ((callsIn_of_wp_defers (R:=lG ⟨none,fn.ntmps,[],hd w,w.heap.size,D,[],none⟩ fun D' v _=>post D' v) hf hb aLJ (h (hd w) _ w ⟨?_,fun s v hs=>?_,rfl,D,⟨aGW _,aGW _,fun _ _ _=>rfl,fun _ _=>rfl,hw,(fun p hp=>by cases hp),aID,(fun p hp=>by cases hp),fun e he=>aHC he⟩,fun D₁ h1=>?_,aLJ⟩) rfl).mono ?_)
 ·simp;omega
 ·obtain⟨_,h2⟩:=eA args 0 s v hs;have hl:=(aGJ.1 h2).1;simp only[aJN]at h2 hl;show(args.toArray++_)[s]?= some v;rw[aIX Yam];simpa using h2
 ·simp only[aGU]at h1;subst h1;exact Le.refl _
 ·rintro e w' ⟨v,D',μ',rfl,hs,hp⟩;exact⟨v,D',rfl,hs.sub (by intro p hp;cases hp) aID,hp⟩
def W6(P:Program)(f:FuncId)(args:List Value)(D:aA)(ν:aC)(u u2:FrameMode)(post:aA→aC→Prop):Prop:=
 EF P f∧∀w,dQ D w→(∀p∈ν,w.heap[p.1]?= some p.2∧D p.1=[]∧cF p.2)→ν.ks.Nodup→CallsDIn (FW none) 0 P f args.toArray u w fun e u' w'=>∃v D' ν',e=.returned v∧u'=u2∧fI (hd w) w.heap.size D ν.ks ν' D' w'∧post D' ν'
theorem GN{fn:Func}{post:aA→Value→aC→Prop}{dpost:aA→aC→Prop}{A B ν:aC}{f:FuncId}{c1 c2:List Value}{u u2:FrameMode}{rs:List ResultVar}(hu:u≠.run)(hds:X.ds=[⟨.fn (.func f) c2.toArray,c1.toArray⟩])(hex:X.ex=none)(hun:∀p∈ν,cF p.2)
  (hf:∀D,(∀D₁∈Ds,Le D₁ D)→W6 P f (c1++c2) D ν u u2 dpost) (hst:settle u2=.returning) (hr:fn.results=rs.toArray)
  (h:∀D ν',(∀D₁∈Ds,Le D₁ D)→dpost D ν'→∃vs,rM P X σ (A++ν'++B) rs vs∧post D (mI vs) (A++ν'++B)):∀a w,Hl X σ (A++ν++B) Ds a w→LeavesIn (FW none) 0 P fn a.tmps (lG X post) a.defers u w:=by
 intro a w hh;obtain⟨h1,h2,h3,D,h4,h5,h6⟩:=id hh;rw[h3,hds];have hF:=hf D h5;have hbx:∀p∈ν,_:=fun p hp=>h4.box p (aGI _ (aFZ _ hp))
 have hnd:=h4.nd;simp only[aGS]at hnd;refine leavesIn_cons hu (fun hh=>by simp[FW]at hh) (f:=f) (args:=(c1++c2).toArray) ?_ (fun _ _=>trivial) ?_
 ·show(callFunc f (c1.toArray++c2.toArray)).run P w=_;rw[hF.1];simp
 ·refine(hF.2 w h4.agr (fun p hp=>⟨(hbx p hp).1,(hbx p hp).2.1,hun p hp⟩) (aGK.1 (aGK.1 hnd).1).2.1).mono ?_;rintro e u' w' ⟨v,D',ν',rfl,rfl,hs,hp⟩;have hle:=eR h4.agr hs;have h5':∀D₁∈Ds,Le D₁ D':=fun D₁ hD₁=>(h5 D₁ hD₁).trans hle
  obtain⟨vs,hv,hpost⟩:=h D' ν' h5' hp;have hh':Hl X σ (A++ν'++B) Ds a w':=⟨h1,h2,h3,D',h4.afterG hs,h5',by unfold uF;rw[hex];trivial⟩
  show LeavesIn (FW none) 0 P fn a.tmps (lG X post) [] (settle u') w';rw[hst];exact⟨_,fR hh' hr hv,_,D',_,rfl,h4.afterG hs,hpost⟩
theorem aCT{fn:Func}{post:aA→Value→aC→Prop}{dpost:aA→aC→Prop}{A B ν:aC}{f:FuncId}{c1 c2:List Value}{rs:List ResultVar}{e:Exit}(he:(match e with|.normal=>true|.ret=>true|_=>false)=true)(hds:X.ds=[⟨.fn (.func f) c2.toArray,c1.toArray⟩])(hex:X.ex=none)(hun:∀p∈ν,cF p.2)
  (hf:∀D,(∀D₁∈Ds,Le D₁ D)→W6 P f (c1++c2) D ν .returning .returning dpost) (hr:fn.results=rs.toArray)
  (h:∀D ν',(∀D₁∈Ds,Le D₁ D)→dpost D ν'→∃vs,rM P X σ (A++ν'++B) rs vs∧post D (mI vs) (A++ν'++B)):∀a w,Hl X σ (A++ν++B) Ds a w→bodyPostDIn (FW none) 0 P fn (lG X post) e a w:=by
 intro a w hh;have:=GN (u:=.returning) (u2:=.returning) Ye hds hex hun hf rfl hr h a w hh;cases e<;>first|exact this|cases he
theorem b6{fn:Func}{post:aA→Value→aC→Prop}{dpost:aA→aC→Prop}{A B ν:aC}{f:FuncId}{c1 c2:List Value}{rs:List ResultVar}{v:Value}(hds:X.ds=[⟨.fn (.func f) c2.toArray,c1.toArray⟩])(hex:X.ex=none)(hun:∀p∈ν,cF p.2)
  (hf:∀D,(∀D₁∈Ds,Le D₁ D)→W6 P f (c1++c2) D ν (.panicking (kT v)) (.panicking [{v,recovered:=true}]) dpost) (hr:fn.results=rs.toArray)
  (h:∀D ν',(∀D₁∈Ds,Le D₁ D)→dpost D ν'→∃vs,rM P X σ (A++ν'++B) rs vs∧post D (mI vs) (A++ν'++B)):∀a w,Hl X σ (A++ν++B) Ds a w→bodyPostDIn (FW none) 0 P fn (lG X post) (.panic (kT v)) a w:=
 fun a w hh=>GN Ye hds hex hun hf rfl hr h a w hh
theorem SE{f:FuncId}{fn:Func}{id t:Nat}{y:Code}{args:List Value}{D:aA}{ν:aC}{u u2:FrameMode}{rv:Value}{dpost:aA→aC→Prop}{ats:Array TypeId}(N:Nat)(hf:P.funcs[f]?= some fn)(hn:(fn.name== "runtime.NumGoroutine")=false)
  (hb:fn.body=some (.seq (.region id #[⟨some t,.call {callee:=.builtin .recover,args:=#[],argTypes:=ats},ty,pos,aft,none⟩] false) y)) (hN:fn.ntmps=N) (hsz:Nat.ble args.length N=true) (ht:Nat.blt t N=true)
  (hrec:∀(c₀:Frame) (cs:List Frame),c₀.mode=u→(recoverD (c₀::cs)=some (rv,{c₀ with mode:=u2}::cs))∨(recoverD (c₀::cs)=none∧rv=.nilIface∧u2=u))
  (h:∀h0:H0,(∀p∈ν,p.1<h0.size)→ν.ks.Nodup→WC P (lT N h0 D ν.ks) (bodyPost P fn (V3 (lT N h0 D ν.ks) (fun D' _ ν'=>dpost D' ν') (fun _=>False))) y ((t,rv)::gG 0 args) ν [D]):W6 P f args D ν u u2 dpost:=by
 refine⟨EF.of hf hn hb,fun w hw hν hnd=>?_⟩;subst hN;have hsz:=aIE hsz;refine callsDIn_of_wpSIn hf hb aLJ fun c₀ cs hm=>?_
 have hcs:({c₀ with mode:=u}:Frame)=c₀:=by subst hm;rfl
 have hH:Hl (lT fn.ntmps (hd w) D ν.ks) (gG 0 args) ν [D] {tmps:=args.toArray++Array.replicate (fn.ntmps-args.toArray.size) undef,defers:=[]} w:=by
  refine⟨?_,fun s v hs=>?_,rfl,D,⟨aGW _,aGW _,fun _ _ _=>rfl,fun _ _=>rfl,hw,(fun p hp=>?_),hnd,(fun p hp=>(hν p hp).2.2),fun e he=>aHC he⟩,fun D₁ h1=>?_,aLJ⟩
  ·simp[lT];omega
  ·obtain⟨_,h2⟩:=eA args 0 s v hs;have hl:=(aGJ.1 h2).1;simp only[aJN]at h2 hl;show(args.toArray++_)[s]?= some v;rw[aIX Yam];simpa using h2
  ·exact⟨(hν p hp).1,(hν p hp).2.1,aGH (aGA.2 ⟨p,hp,rfl⟩)⟩
  ·simp only[aGU]at h1;subst h1;exact Le.refl _
 have key:=h (hd w) (fun p hp=>aY (hν p hp).1) hnd _ w (hH.put ht rv);refine wpSIn_seq (wpSIn_region ?_);have hex:∀ρ:Operand→Value,(execOp ρ ⟨some t,.call {callee:=.builtin .recover,args:=#[],argTypes:=ats},ty,pos,aft,none⟩).run P w=.ok .recover w:=fun ρ=>by
  simp only[execOp,resolve,Array.map_empty];rfl
 have fin:∀cs',cs'=({c₀ with mode:=u2}:Frame)::cs→(y.wpSIn (FW none) 0 P (bodyPostS P fn c₀ cs fun e u' w'=>∃v D' ν',e=.returned v∧u'=u2∧fI (hd w) w.heap.size D ν.ks ν' D' w'∧dpost D' ν')
   (Act.put {tmps:=args.toArray++Array.replicate (fn.ntmps-args.toArray.size) undef,defers:=[]} (some t) rv) cs' w):=by
  rintro cs' rfl;refine wpSIn_of_wpIn rfl (wpIn_mono key fun e a w' hq=>?_);cases e with
  |normal|ret=>
   obtain⟨hd',v,hr,hR⟩:=hq;rcases hR with⟨v',D',ν',he,hs,hp⟩|⟨_,_,_,_,hp⟩
   ·exact⟨hd',u2,rfl,v,hr,v',D',ν',he,rfl,hs,hp⟩
   ·exact hp.elim
  |panic ch=>
   obtain⟨hd',hR⟩:=hq;rcases hR with⟨v',D',ν',he,hs,hp⟩|⟨_,_,_,_,hp⟩
   ·cases he
   ·exact hp.elim
  |outgrown=>
   rcases hq with⟨v',D',ν',he,hs,hp⟩|⟨_,_,_,_,hp⟩
   ·cases he
   ·exact hp.elim
  |exit=>exact hq.elim
  |goto=>exact hq.elim
 show wpOpsSIn (FW none) 0 P _ _ [0] _ _ _;simp only[wpOpsSIn,List.getElem?_toArray,List.getElem?_cons_zero];refine⟨fun _ _=>trivial,?_⟩;rw[aGX (by rfl),hex];rcases hrec c₀ cs hm with hr|⟨hr,rfl,rfl⟩
 ·simp only[hr];exact fin _ rfl
 ·simp only[hr];exact fin _ (by rw[hcs])
theorem PB{c₀:Frame}{cs:List Frame}(hm:c₀.mode=.returning):recoverD (c₀::cs)=none:=by simp[recoverD,hm]
theorem VF{c₀:Frame}{cs:List Frame}{v:Value}(hm:c₀.mode=.panicking (kT v)):recoverD (c₀::cs)=some (v,{c₀ with mode:=.panicking [{v,recovered:=true}]}::cs):=by simp[recoverD,hm,kT]
theorem iZ.reorder{f:FuncId}{args:List Value}{D:aA}{ν ν2:aC}{post post':aA→Value→aC→Prop}{pan pan':Value→Prop}(h:iZ P f args D ν post pan)(hp:ν.Perm ν2)(h1:∀D' v ν',Le D D'→post D' v ν'→∃ν'',ν''.Perm ν'∧post' D' v ν'')(h2:∀v,pan v→pan' v):iZ P f args D ν2 post' pan':=by
 refine⟨h.1,fun w hw hν hn=>(h.2 w hw (fun p hp'=>hν p (hp.mem_iff.1 hp')) ((hp.map (·.1)).nodup_iff.2 hn)).mono ?_⟩;have hk:∀b,b∉ν2.ks→b∉ν.ks:=fun b hb hm=>hb ((hp.map (·.1)).mem_iff.1 hm)
 rintro e w' (⟨v,D',ν',he,hs,hpost⟩|⟨v,D',he,hs,hpan⟩)
 ·obtain⟨ν'',hq,hpost'⟩:=h1 D' v ν' (eR hw hs) hpost;refine aGR ⟨v,D',ν'',he,⟨hs.hlo,hs.size,fun b hb hm=>hs.old b hb (hk b hm),hs.dold,hs.agr,fun p hp'=>?_,(hq.map (·.1)).nodup_iff.2 hs.nd,fun p hp'=>hs.fz p (hq.mem_iff.1 hp'),hs.env⟩,hpost'⟩;obtain⟨k1,k2,k3⟩:=hs.box p (hq.mem_iff.1 hp');exact⟨k1,k2,k3.imp id fun hm=>(hp.map (·.1)).mem_iff.1 hm⟩
 ·exact aGH ⟨v,D',he,⟨hs.hlo,hs.size,fun b hb hm=>hs.old b hb (hk b hm),hs.dold,hs.agr,(fun p hp'=>by cases hp'),aID,(fun p hp'=>by cases hp'),hs.env⟩,h2 v hpan⟩
theorem aK{l1 l2:aC}(h:∀ [BEq (Nat×Obj)] [LawfulBEq (Nat×Obj)] (a:Nat×Obj),l1.count a=l2.count a):l1.Perm l2:=by
 classical
 exact List.perm_iff_count.2 fun a=>h a
def aFQ(Q:Exit→Act→World→Prop):Exit→Act→World→Prop:=fun e a w=>match e with
 |.panic _=>False
 |e=>Q e a w
theorem aBZ:NP (aFQ Q):=fun _ _ _ h=>h
theorem NO{c:Code}(h:WC P X (aFQ Q) c σ μ Ds):WC P X Q c σ μ Ds:=fun a w hh=>wpIn_mono (h a w hh) (fun e a w hq=>by cases e<;>first|exact hq|exact hq.elim)
theorem WX{y:Code}(h:WC P X Q y σ μ Ds):∀a w,Hl X σ μ Ds a w→aFQ (Exit.then (y.wpIn (FW X.r) 0 P Q) Q) .normal a w:=h
end Go.Fs
