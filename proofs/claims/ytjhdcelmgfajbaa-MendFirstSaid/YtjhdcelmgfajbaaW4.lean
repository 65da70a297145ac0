/- Walks: what fits. -/
import Derived.Test.YtjhdcelmgfajbaaW3
namespace Go.Fs
open Go.Proofs
open C7
def Bits1 (p : Pt) : Prop := (0 ≤ p.a ∧ p.a ≤ 1) ∧ (0 ≤ p.b ∧ p.b ≤ 1) ∧ (0 ≤ p.c ∧ p.c ≤ 1)
def joins (p q : Pt) : Bool := (!isWhole p && !isWhole q) && isWhole ⟨max p.a q.a, max p.b q.b, max p.c q.c⟩
def nearC (f : Int) (x z : Ch) : Bool := inB (x.size - z.size) (-f) f
theorem joins_comm (p q : Pt) : joins p q = joins q p := by
  unfold joins; rw [Int.max_comm p.a, Int.max_comm p.b, Int.max_comm p.c, Bool.and_comm (!isWhole p)]
theorem near_comm (f : Int) (x z : Ch) : nearC f x z = nearC f z x := by
  unfold nearC inB; rw [Bool.eq_iff_iff]; simp only [Bool.and_eq_true, decide_eq_true_eq]; omega
theorem joins_ok (p q : Pt) (D : Data) (hp : Bits1 p) (hq : Bits1 q) : Fn Try.prog 109 #[ptV p, ptV q] D (fun _ v => v = .bool (joins p q)) := by
  refine enter 32 Try.func109 rfl rfl rfl rfl fun h0 => ?_
  refine C.seq ?_
  refine C.region [(false,0),(false,1),(false,2)] rfl ?_
  refine L.boxD rfl rfl rfl rfl trivial (fun q1 E1 hE1 hB1 => ?_)
  refine L.boxD rfl rfl rfl rfl trivial (fun q2 E2 hE2 hB2 => ?_)
  refine L.assign rfl rfl rfl trivial ?_
  refine L.nil ?_
  refine C.next ?_
  refine C.seq ?_
  refine C.region [(false,0),(false,1),(false,2),(false,3),(false,4),(false,5),(false,6),(false,7),(false,8),(false,9),(false,10),(false,11),(false,12),(false,13),(false,14),(false,15),(false,16),(false,17),(false,18),(false,19),(false,20),(false,21),(false,22),(false,23),(false,24),(false,25),(false,26),(false,27)] rfl ?_
  refine L.loadDW rfl Tf.a113 rfl hB1 (by first | simp | assumption) (by first | exact Tf.s113 | (simp only [ints_length, *]; exact Tf.s113)) List.not_mem_nil rfl trivial ?_
  refine L.callV rfl rfl rfl (fun D1 hD1 => whole_ok p _) rfl trivial ?_
  refine L.not rfl rfl rfl trivial ?_
  refine L.move rfl rfl rfl trivial ?_
  refine' L.and [(false,4),(false,5),(false,6),(false,7)] [(false,8),(false,9),(false,10),(false,11),(false,12),(false,13),(false,14),(false,15),(false,16),(false,17),(false,18),(false,19),(false,20),(false,21),(false,22),(false,23),(false,24),(false,25),(false,26),(false,27)] (s := 8) (p := 12) rfl rfl (fun hg1 => ?_) (fun hg1 => ?_) ?_
  rotate_left
  · refine L.loadDW rfl Tf.a113 rfl hB2 (by first | simp | assumption) (by first | exact Tf.s113 | (simp only [ints_length, *]; exact Tf.s113)) List.not_mem_nil rfl ⟨_, rfl, rfl⟩ ?_
    refine L.callV rfl rfl rfl (fun D2 hD2 => whole_ok q _) rfl ⟨_, rfl, rfl⟩ ?_
    refine L.not rfl rfl rfl ⟨_, rfl, rfl⟩ ?_
    refine L.pickT rfl rfl rfl rfl trivial ?_
    exact L.nil fun a w hh => hh.cutK 3 rfl
  · refine L.pass rfl rfl rfl ⟨_, _, rfl, rfl, rfl⟩ ?_
    refine L.pass rfl rfl rfl ⟨_, _, rfl, rfl, rfl⟩ ?_
    refine L.pass rfl rfl rfl ⟨_, _, rfl, rfl, rfl⟩ ?_
    refine L.pickF rfl rfl rfl rfl trivial ?_
    exact L.nil fun a w hh => hh.cutK 3 rfl
  refine L.move rfl rfl rfl trivial ?_
  refine' L.and [(false,9),(false,10),(false,11),(false,12),(false,13),(false,14),(false,15),(false,16),(false,17),(false,18),(false,19),(false,20),(false,21),(false,22),(false,23),(false,24),(false,25),(false,26)] [(false,27)] (s := 13) (p := 31) rfl rfl (fun hg2 => ?_) (fun hg2 => ?_) ?_
  rotate_left
  · refine L.indexB rfl Try.underlying113 Tf.s3 rfl rfl (by decide) (by decide) rfl ⟨_, rfl, rfl⟩ ?_
    refine L.loadDI rfl Tf.a3 rfl hB1 (by simp) rfl List.not_mem_nil rfl ⟨_, rfl, rfl⟩ ?_
    refine L.indexB rfl Try.underlying113 Tf.s3 rfl rfl (by decide) (by decide) rfl ⟨_, rfl, rfl⟩ ?_
    refine L.loadDI rfl Tf.a3 rfl hB2 (by simp) rfl List.not_mem_nil rfl ⟨_, rfl, rfl⟩ ?_
    refine L.or01 rfl rfl rfl hp.1 hq.1 rfl ⟨_, rfl, rfl⟩ ?_
    refine L.indexB rfl Try.underlying113 Tf.s3 rfl rfl (by decide) (by decide) rfl ⟨_, rfl, rfl⟩ ?_
    refine L.loadDI rfl Tf.a3 rfl hB1 (by simp) rfl List.not_mem_nil rfl ⟨_, rfl, rfl⟩ ?_
    refine L.indexB rfl Try.underlying113 Tf.s3 rfl rfl (by decide) (by decide) rfl ⟨_, rfl, rfl⟩ ?_
    refine L.loadDI rfl Tf.a3 rfl hB2 (by simp) rfl List.not_mem_nil rfl ⟨_, rfl, rfl⟩ ?_
    refine L.or01 rfl rfl rfl hp.2.1 hq.2.1 rfl ⟨_, rfl, rfl⟩ ?_
    refine L.indexB rfl Try.underlying113 Tf.s3 rfl rfl (by decide) (by decide) rfl ⟨_, rfl, rfl⟩ ?_
    refine L.loadDI rfl Tf.a3 rfl hB1 (by simp) rfl List.not_mem_nil rfl ⟨_, rfl, rfl⟩ ?_
    refine L.indexB rfl Try.underlying113 Tf.s3 rfl rfl (by decide) (by decide) rfl ⟨_, rfl, rfl⟩ ?_
    refine L.loadDI rfl Tf.a3 rfl hB2 (by simp) rfl List.not_mem_nil rfl ⟨_, rfl, rfl⟩ ?_
    refine L.or01 rfl rfl rfl hp.2.2 hq.2.2 rfl ⟨_, rfl, rfl⟩ ?_
    refine L.buildA (cs := [.int .i64 (max p.a q.a), .int .i64 (max p.b q.b), .int .i64 (max p.c q.c)]) rfl Try.underlying113 Tf.s3 Tf.z113 rfl rfl rfl ⟨_, rfl, rfl⟩ ?_
    refine L.callV rfl rfl rfl (fun D3 hD3 => whole_ok ⟨max p.a q.a, max p.b q.b, max p.c q.c⟩ _) rfl ⟨_, rfl, rfl⟩ ?_
    refine L.pickT rfl rfl rfl rfl trivial ?_
    exact L.nil fun a w hh => hh.cutK 17 rfl
  · refine L.pass rfl rfl rfl ⟨_, _, rfl, rfl, rfl⟩ ?_
    refine L.pass rfl rfl rfl ⟨_, _, rfl, rfl, rfl⟩ ?_
    refine L.pass rfl rfl rfl ⟨_, _, rfl, rfl, rfl⟩ ?_
    refine L.pass rfl rfl rfl ⟨_, _, rfl, rfl, rfl⟩ ?_
    refine L.pass rfl rfl rfl ⟨_, _, rfl, rfl, rfl⟩ ?_
    refine L.pass rfl rfl rfl ⟨_, _, rfl, rfl, rfl⟩ ?_
    refine L.pass rfl rfl rfl ⟨_, _, rfl, rfl, rfl⟩ ?_
    refine L.pass rfl rfl rfl ⟨_, _, rfl, rfl, rfl⟩ ?_
    refine L.pass rfl rfl rfl ⟨_, _, rfl, rfl, rfl⟩ ?_
    refine L.pass rfl rfl rfl ⟨_, _, rfl, rfl, rfl⟩ ?_
    refine L.pass rfl rfl rfl ⟨_, _, rfl, rfl, rfl⟩ ?_
    refine L.pass rfl rfl rfl ⟨_, _, rfl, rfl, rfl⟩ ?_
    refine L.pass rfl rfl rfl ⟨_, _, rfl, rfl, rfl⟩ ?_
    refine L.pass rfl rfl rfl ⟨_, _, rfl, rfl, rfl⟩ ?_
    refine L.pass rfl rfl rfl ⟨_, _, rfl, rfl, rfl⟩ ?_
    refine L.pass rfl rfl rfl ⟨_, _, rfl, rfl, rfl⟩ ?_
    refine L.pass rfl rfl rfl ⟨_, _, rfl, rfl, rfl⟩ ?_
    refine L.pickF rfl rfl rfl rfl trivial ?_
    exact L.nil fun a w hh => hh.cutK 17 rfl
  refine L.assign rfl rfl rfl trivial ?_
  refine L.nil ?_
  refine C.next ?_
  refine C.ret ?_
  exact leave (vs := [_]) rfl rfl rfl ⟨rfl, trivial⟩ (fun D hD => rfl)
theorem near_ok (yv : Value) (y : YardD) (a b : Nat) (x z : Ch) (D : Data) (hy : YardIs D yv y) (hf : 0 ≤ y.fit ∧ y.fit ≤ 9) (hx : y.chairs[a]? = some x) (hz : y.chairs[b]? = some z) (hxs : 0 ≤ x.size ∧ x.size ≤ 9) (hzs : 0 ≤ z.size ∧ z.size ≤ 9) : Fn Try.prog 92 #[yv, .int .i64 (a : Int), .int .i64 (b : Int)] D (fun _ v => v = .bool (nearC y.fit x z)) := by
  obtain ⟨cv, qv, rfl, hc, hq⟩ := hy
  refine enter 26 Try.func92 rfl rfl rfl rfl fun h0 => ?_
  refine C.seq ?_
  refine C.region [(false,0),(false,1)] rfl ?_
  refine L.boxD rfl rfl rfl rfl trivial (fun q1 E1 hE1 hB1 => ?_)
  refine L.assign rfl rfl rfl trivial ?_
  refine L.nil ?_
  refine C.next ?_
  refine C.seq ?_
  refine C.draw [] 6 [0,1,2,3,4,5,6,7,8,9,10,11,12,13,14,15,16,17,18,19] [false,false,true,false,false,false,true,true,true,true,true,true,false,true,true,true,true,true,false,false] [(false,0),(false,1),(true,2),(false,3),(false,4),(false,5),(true,6),(true,7),(true,8),(true,9),(true,10),(true,11),(false,12),(true,13),(true,14),(true,15),(true,16),(true,17),(false,18),(false,19)] Tf.follows (fun _ _ _ h => np_body (P := Try.prog) (fn := Try.f92) _ _ _ h) (by kernel_rfl) rfl ?_
  refine L.fieldAddr rfl Tf.f37_0 rfl rfl trivial ?_
  refine L.loadD1 rfl (k := 0) Tf.a34 rfl hB1 (by first | simp | assumption) rfl List.not_mem_nil rfl trivial ?_
  refine L.move rfl rfl rfl trivial ?_
  refine L.indexS rfl Try.underlying34 Tf.s115 rfl hc rfl (by omega) hx rfl trivial (fun b1 o1 cs1 hr1 hcl1 hA1 => ?_)
  obtain rfl : cs1 = [.int .i64 _, .int .i64 _, .int .i64 _, .int .i64 _] := hr1
  refine L.fieldAddr rfl Tf.f115_0 rfl rfl trivial ?_
  refine L.loadD1 rfl (k := 0) Tf.a3 rfl hA1 (by first | simp | assumption) rfl List.not_mem_nil rfl trivial ?_
  refine L.fieldAddr rfl Tf.f37_0 rfl rfl trivial ?_
  refine L.loadD1 rfl (k := 0) Tf.a34 rfl hB1 (by first | simp | assumption) rfl List.not_mem_nil rfl trivial ?_
  refine L.move rfl rfl rfl trivial ?_
  refine L.indexS rfl Try.underlying34 Tf.s115 rfl hc rfl (by omega) hz rfl trivial (fun b2 o2 cs2 hr2 hcl2 hA2 => ?_)
  obtain rfl : cs2 = [.int .i64 _, .int .i64 _, .int .i64 _, .int .i64 _] := hr2
  refine L.fieldAddr rfl Tf.f115_0 rfl rfl trivial ?_
  refine L.loadD1 rfl (k := 0) Tf.a3 rfl hA2 (by first | simp | assumption) rfl List.not_mem_nil rfl trivial ?_
  refine L.sub rfl rfl rfl (by simp only [inK]; omega) rfl trivial ?_
  refine L.fieldAddr rfl Tf.f37_1 rfl rfl trivial ?_
  refine L.loadD1 rfl (k := 1) Tf.a3 rfl hB1 (by first | simp | assumption) rfl List.not_mem_nil rfl trivial ?_
  refine L.neg rfl rfl (by simp only [inK]; omega) rfl trivial ?_
  refine L.fieldAddr rfl Tf.f37_1 rfl rfl trivial ?_
  refine L.loadD1 rfl (k := 1) Tf.a3 rfl hB1 (by first | simp | assumption) rfl List.not_mem_nil rfl trivial ?_
  refine L.callV rfl rfl rfl (fun D1 hD1 => within_ok _ _ _ _) rfl trivial ?_
  refine L.assign rfl rfl rfl trivial ?_
  refine L.nil ?_
  refine C.next ?_
  refine C.ret ?_
  exact leave (vs := [_]) rfl rfl rfl ⟨rfl, trivial⟩ (fun D hD => rfl)
end Go.Fs
