/- Of the proof of MendChair: W4, W5, Own, Many, Show. -/
import Derived.Test.YtjhdcelmgfajbaaZMendChairD
import Derived.Test.YtjhdcelmgfajbaaZMendChairC
namespace Go.Fs
open Go.Proofs
open C7
def Bits1 (p : Pt) : Prop := (0 ≤ p.a ∧ p.a ≤ 1) ∧ (0 ≤ p.b ∧ p.b ≤ 1) ∧ (0 ≤ p.c ∧ p.c ≤ 1)
def joins (p q : Pt) : Bool := (!isWhole p && !isWhole q) && isWhole ⟨max p.a q.a, max p.b q.b, max p.c q.c⟩
def nearC (f : Int) (x z : Ch) : Bool := inB (x.size - z.size) (-f) f
theorem joins_comm (p q : Pt) : joins p q = joins q p := by
  unfold joins; rw [Int.max_comm p.a, Int.max_comm p.b, Int.max_comm p.c, Bool.and_comm (!isWhole p)]
theorem near_comm (f : Int) (x z : Ch) : nearC f x z = nearC f z x := by
  unfold nearC inB; rw [Bool.eq_iff_iff]; simp only [Bool.and_eq_true, decide_eq_true_eq]; omega
theorem joins_ok (p q : Pt) (D : Data) (hp : Bits1 p) (hq : Bits1 q) : Fn Try.prog 109 #[ptV p, ptV q] D (fun _ v => v = .bool (joins p q)) := by
  refine enter 32 Try.func109 rfl rfl rfl rfl fun h0 => ?_
  refine C.seq ?_
  refine C.region [(false,0),(false,1),(false,2)] rfl ?_
  refine L.boxD rfl rfl rfl rfl trivial (fun q1 E1 hE1 hB1 => ?_)
  refine L.boxD rfl rfl rfl rfl trivial (fun q2 E2 hE2 hB2 => ?_)
  refine L.assign rfl rfl rfl trivial ?_
  refine L.nil ?_
  refine C.next ?_
  refine C.seq ?_
  refine C.region [(false,0),(false,1),(false,2),(false,3),(false,4),(false,5),(false,6),(false,7),(false,8),(false,9),(false,10),(false,11),(false,12),(false,13),(false,14),(false,15),(false,16),(false,17),(false,18),(false,19),(false,20),(false,21),(false,22),(false,23),(false,24),(false,25),(false,26),(false,27)] rfl ?_
  refine L.loadDW rfl Tf.a113 rfl hB1 (by first | simp | assumption) (by first | exact Tf.s113 | (simp only [ints_length, *]; exact Tf.s113)) List.not_mem_nil rfl trivial ?_
  refine L.callV rfl rfl rfl (fun D1 hD1 => whole_ok p _) rfl trivial ?_
  refine L.not rfl rfl rfl trivial ?_
  refine L.move rfl rfl rfl trivial ?_
  refine' L.and [(false,4),(false,5),(false,6),(false,7)] [(false,8),(false,9),(false,10),(false,11),(false,12),(false,13),(false,14),(false,15),(false,16),(false,17),(false,18),(false,19),(false,20),(false,21),(false,22),(false,23),(false,24),(false,25),(false,26),(false,27)] (s := 8) (p := 12) rfl rfl (fun hg1 => ?_) (fun hg1 => ?_) ?_
  rotate_left
  · refine L.loadDW rfl Tf.a113 rfl hB2 (by first | simp | assumption) (by first | exact Tf.s113 | (simp only [ints_length, *]; exact Tf.s113)) List.not_mem_nil rfl ⟨_, rfl, rfl⟩ ?_
    refine L.callV rfl rfl rfl (fun D2 hD2 => whole_ok q _) rfl ⟨_, rfl, rfl⟩ ?_
    refine L.not rfl rfl rfl ⟨_, rfl, rfl⟩ ?_
    refine L.pickT rfl rfl rfl rfl trivial ?_
    exact L.nil fun a w hh => hh.cutK 3 rfl
  · refine L.pass rfl rfl rfl ⟨_, _, rfl, rfl, rfl⟩ ?_
    refine L.pass rfl rfl rfl ⟨_, _, rfl, rfl, rfl⟩ ?_
    refine L.pass rfl rfl rfl ⟨_, _, rfl, rfl, rfl⟩ ?_
    refine L.pickF rfl rfl rfl rfl trivial ?_
    exact L.nil fun a w hh => hh.cutK 3 rfl
  refine L.move rfl rfl rfl trivial ?_
  refine' L.and [(false,9),(false,10),(false,11),(false,12),(false,13),(false,14),(false,15),(false,16),(false,17),(false,18),(false,19),(false,20),(false,21),(false,22),(false,23),(false,24),(false,25),(false,26)] [(false,27)] (s := 13) (p := 31) rfl rfl (fun hg2 => ?_) (fun hg2 => ?_) ?_
  rotate_left
  · refine L.indexB rfl Try.underlying113 Tf.s3 rfl rfl (by decide) (by decide) rfl ⟨_, rfl, rfl⟩ ?_
    refine L.loadDI rfl Tf.a3 rfl hB1 (by simp) rfl List.not_mem_nil rfl ⟨_, rfl, rfl⟩ ?_
    refine L.indexB rfl Try.underlying113 Tf.s3 rfl rfl (by decide) (by decide) rfl ⟨_, rfl, rfl⟩ ?_
    refine L.loadDI rfl Tf.a3 rfl hB2 (by simp) rfl List.not_mem_nil rfl ⟨_, rfl, rfl⟩ ?_
    refine L.or01 rfl rfl rfl hp.1 hq.1 rfl ⟨_, rfl, rfl⟩ ?_
    refine L.indexB rfl Try.underlying113 Tf.s3 rfl rfl (by decide) (by decide) rfl ⟨_, rfl, rfl⟩ ?_
    refine L.loadDI rfl Tf.a3 rfl hB1 (by simp) rfl List.not_mem_nil rfl ⟨_, rfl, rfl⟩ ?_
    refine L.indexB rfl Try.underlying113 Tf.s3 rfl rfl (by decide) (by decide) rfl ⟨_, rfl, rfl⟩ ?_
    refine L.loadDI rfl Tf.a3 rfl hB2 (by simp) rfl List.not_mem_nil rfl ⟨_, rfl, rfl⟩ ?_
    refine L.or01 rfl rfl rfl hp.2.1 hq.2.1 rfl ⟨_, rfl, rfl⟩ ?_
    refine L.indexB rfl Try.underlying113 Tf.s3 rfl rfl (by decide) (by decide) rfl ⟨_, rfl, rfl⟩ ?_
    refine L.loadDI rfl Tf.a3 rfl hB1 (by simp) rfl List.not_mem_nil rfl ⟨_, rfl, rfl⟩ ?_
    refine L.indexB rfl Try.underlying113 Tf.s3 rfl rfl (by decide) (by decide) rfl ⟨_, rfl, rfl⟩ ?_
    refine L.loadDI rfl Tf.a3 rfl hB2 (by simp) rfl List.not_mem_nil rfl ⟨_, rfl, rfl⟩ ?_
    refine L.or01 rfl rfl rfl hp.2.2 hq.2.2 rfl ⟨_, rfl, rfl⟩ ?_
    refine L.buildA (cs := [.int .i64 (max p.a q.a), .int .i64 (max p.b q.b), .int .i64 (max p.c q.c)]) rfl Try.underlying113 Tf.s3 Tf.z113 rfl rfl rfl ⟨_, rfl, rfl⟩ ?_
    refine L.callV rfl rfl rfl (fun D3 hD3 => whole_ok ⟨max p.a q.a, max p.b q.b, max p.c q.c⟩ _) rfl ⟨_, rfl, rfl⟩ ?_
    refine L.pickT rfl rfl rfl rfl trivial ?_
    exact L.nil fun a w hh => hh.cutK 17 rfl
  · refine L.pass rfl rfl rfl ⟨_, _, rfl, rfl, rfl⟩ ?_
    refine L.pass rfl rfl rfl ⟨_, _, rfl, rfl, rfl⟩ ?_
    refine L.pass rfl rfl rfl ⟨_, _, rfl, rfl, rfl⟩ ?_
    refine L.pass rfl rfl rfl ⟨_, _, rfl, rfl, rfl⟩ ?_
    refine L.pass rfl rfl rfl ⟨_, _, rfl, rfl, rfl⟩ ?_
    refine L.pass rfl rfl rfl ⟨_, _, rfl, rfl, rfl⟩ ?_
    refine L.pass rfl rfl rfl ⟨_, _, rfl, rfl, rfl⟩ ?_
    refine L.pass rfl rfl rfl ⟨_, _, rfl, rfl, rfl⟩ ?_
    refine L.pass rfl rfl rfl ⟨_, _, rfl, rfl, rfl⟩ ?_
    refine L.pass rfl rfl rfl ⟨_, _, rfl, rfl, rfl⟩ ?_
    refine L.pass rfl rfl rfl ⟨_, _, rfl, rfl, rfl⟩ ?_
    refine L.pass rfl rfl rfl ⟨_, _, rfl, rfl, rfl⟩ ?_
    refine L.pass rfl rfl rfl ⟨_, _, rfl, rfl, rfl⟩ ?_
    refine L.pass rfl rfl rfl ⟨_, _, rfl, rfl, rfl⟩ ?_
    refine L.pass rfl rfl rfl ⟨_, _, rfl, rfl, rfl⟩ ?_
    refine L.pass rfl rfl rfl ⟨_, _, rfl, rfl, rfl⟩ ?_
    refine L.pass rfl rfl rfl ⟨_, _, rfl, rfl, rfl⟩ ?_
    refine L.pickF rfl rfl rfl rfl trivial ?_
    exact L.nil fun a w hh => hh.cutK 17 rfl
  refine L.assign rfl rfl rfl trivial ?_
  refine L.nil ?_
  refine C.next ?_
  refine C.ret ?_
  exact leave (vs := [_]) rfl rfl rfl ⟨rfl, trivial⟩ (fun D hD => rfl)
theorem near_ok (yv : Value) (y : YardD) (a b : Nat) (x z : Ch) (D : Data) (hy : YardIs D yv y) (hf : 0 ≤ y.fit ∧ y.fit ≤ 9) (hx : y.chairs[a]? = some x) (hz : y.chairs[b]? = some z) (hxs : 0 ≤ x.size ∧ x.size ≤ 9) (hzs : 0 ≤ z.size ∧ z.size ≤ 9) : Fn Try.prog 92 #[yv, .int .i64 (a : Int), .int .i64 (b : Int)] D (fun _ v => v = .bool (nearC y.fit x z)) := by
  obtain ⟨cv, qv, rfl, hc, hq⟩ := hy
  refine enter 26 Try.func92 rfl rfl rfl rfl fun h0 => ?_
  refine C.seq ?_
  refine C.region [(false,0),(false,1)] rfl ?_
  refine L.boxD rfl rfl rfl rfl trivial (fun q1 E1 hE1 hB1 => ?_)
  refine L.assign rfl rfl rfl trivial ?_
  refine L.nil ?_
  refine C.next ?_
  refine C.seq ?_
  refine C.draw [] 6 [0,1,2,3,4,5,6,7,8,9,10,11,12,13,14,15,16,17,18,19] [false,false,true,false,false,false,true,true,true,true,true,true,false,true,true,true,true,true,false,false] [(false,0),(false,1),(true,2),(false,3),(false,4),(false,5),(true,6),(true,7),(true,8),(true,9),(true,10),(true,11),(false,12),(true,13),(true,14),(true,15),(true,16),(true,17),(false,18),(false,19)] Tf.follows (fun _ _ _ h => np_body (P := Try.prog) (fn := Try.f92) _ _ _ h) (by kernel_rfl) rfl ?_
  refine L.fieldAddr rfl Tf.f37_0 rfl rfl trivial ?_
  refine L.loadD1 rfl (k := 0) Tf.a34 rfl hB1 (by first | simp | assumption) rfl List.not_mem_nil rfl trivial ?_
  refine L.move rfl rfl rfl trivial ?_
  refine L.indexS rfl Try.underlying34 Tf.s115 rfl hc rfl (by omega) hx rfl trivial (fun b1 o1 cs1 hr1 hcl1 hA1 => ?_)
  obtain rfl : cs1 = [.int .i64 _, .int .i64 _, .int .i64 _, .int .i64 _] := hr1
  refine L.fieldAddr rfl Tf.f115_0 rfl rfl trivial ?_
  refine L.loadD1 rfl (k := 0) Tf.a3 rfl hA1 (by first | simp | assumption) rfl List.not_mem_nil rfl trivial ?_
  refine L.fieldAddr rfl Tf.f37_0 rfl rfl trivial ?_
  refine L.loadD1 rfl (k := 0) Tf.a34 rfl hB1 (by first | simp | assumption) rfl List.not_mem_nil rfl trivial ?_
  refine L.move rfl rfl rfl trivial ?_
  refine L.indexS rfl Try.underlying34 Tf.s115 rfl hc rfl (by omega) hz rfl trivial (fun b2 o2 cs2 hr2 hcl2 hA2 => ?_)
  obtain rfl : cs2 = [.int .i64 _, .int .i64 _, .int .i64 _, .int .i64 _] := hr2
  refine L.fieldAddr rfl Tf.f115_0 rfl rfl trivial ?_
  refine L.loadD1 rfl (k := 0) Tf.a3 rfl hA2 (by first | simp | assumption) rfl List.not_mem_nil rfl trivial ?_
  refine L.sub rfl rfl rfl (by simp only [inK]; omega) rfl trivial ?_
  refine L.fieldAddr rfl Tf.f37_1 rfl rfl trivial ?_
  refine L.loadD1 rfl (k := 1) Tf.a3 rfl hB1 (by first | simp | assumption) rfl List.not_mem_nil rfl trivial ?_
  refine L.neg rfl rfl (by simp only [inK]; omega) rfl trivial ?_
  refine L.fieldAddr rfl Tf.f37_1 rfl rfl trivial ?_
  refine L.loadD1 rfl (k := 1) Tf.a3 rfl hB1 (by first | simp | assumption) rfl List.not_mem_nil rfl trivial ?_
  refine L.callV rfl rfl rfl (fun D1 hD1 => within_ok _ _ _ _) rfl trivial ?_
  refine L.assign rfl rfl rfl trivial ?_
  refine L.nil ?_
  refine C.next ?_
  refine C.ret ?_
  exact leave (vs := [_]) rfl rfl rfl ⟨rfl, trivial⟩ (fun D hD => rfl)
end Go.Fs
namespace Go.Fs
open Go.Proofs
open C7
/-- The bits of what is so. -/
def bset (p : Nat → Bool) : Nat → Nat
  | 0 => 0
  | n + 1 => if p n = true then bset p n ||| 2 ^ n else bset p n
theorem bset_bit (p : Nat → Bool) : ∀ n i, (bset p n).testBit i = (decide (i < n) && p i)
  | 0, i => by simp [bset]
  | n + 1, i => by
    unfold bset
    split
    · rename_i h
      rw [Nat.testBit_or, bset_bit p n i, Nat.testBit_two_pow]
      by_cases hi : n = i
      · subst hi; simp [h]
      · have : (i < n + 1) = (i < n) := by rw [eq_iff_iff]; omega
        simp [hi, this]
    · rename_i h
      rw [bset_bit p n i]
      by_cases hi : n = i
      · subst hi; simp [h]
      · have : (i < n + 1) = (i < n) := by rw [eq_iff_iff]; omega
        simp [this]
theorem bset_lt (p : Nat → Bool) (n : Nat) : bset p n < 2 ^ n := by
  apply Nat.lt_pow_two_of_testBit
  intro i hi
  rw [bset_bit]
  have : ¬ i < n := by omega
  simp [this]
def brokB (t : List Pt) (i : Nat) : Bool := match t[i]? with | some p => !isWhole p | none => false
/-- Two chairs are broken, and fit. -/
def fitB (y : YardD) (t : List Pt) (i k : Nat) : Bool := match t[i]?, t[k]?, y.chairs[i]?, y.chairs[k]? with
  | some p, some q, some x, some z => (decide ((k : Int) ≠ i) && nearC y.fit x z) && joins p q
  | _, _, _, _ => false
theorem fit_at {y : YardD} {t : List Pt} {i k : Nat} {z q : Pt} {x1 x2 : Ch} (hz : t[i]? = some z) (hq : t[k]? = some q) (hx1 : y.chairs[i]? = some x1) (hx2 : y.chairs[k]? = some x2) : fitB y t i k = ((decide ((k : Int) ≠ i) && nearC y.fit x1 x2) && joins z q) := by
  unfold fitB; rw [hz, hq, hx1, hx2]
def rowsAt (y : YardD) (t : List Pt) (i k : Nat) : List Nat := (List.range 7).map fun j => if j < i then bset (fitB y t j) t.length else if j = i then bset (fitB y t i) k else 0
structure Sc where
  whole : Nat
  broken : Nat
  fits : List Nat
deriving DecidableEq
def sceneD (y : YardD) (t : List Pt) : Sc := ⟨whole t, bset (brokB t) t.length, (List.range 7).map fun j => bset (fitB y t j) t.length⟩
def scC (w b : Nat) (rows : List Nat) : List Value := .int .i64 (w : Int) :: .int .i64 (b : Int) :: rows.map fun (n : Nat) => Value.int .i64 (n : Int)
def scV (s : Sc) : Value := .agg (scC s.whole s.broken s.fits).toArray
theorem sc_cell1 (w b : Nat) (rows : List Nat) : ∀ u ∈ scC w b rows, cell1 u = true := by
  intro u hu
  unfold scC at hu
  simp only [List.mem_cons, List.mem_map] at hu
  rcases hu with rfl | rfl | ⟨n, _, rfl⟩ <;> rfl
theorem fit_out {y : YardD} {t : List Pt} {j : Nat} (h : t.length ≤ j) : bset (fitB y t j) t.length = 0 := by
  apply Nat.eq_of_testBit_eq
  intro i
  rw [bset_bit, Nat.zero_testBit]
  have : fitB y t j i = false := by unfold fitB; rw [List.getElem?_eq_none h]
  simp [this]
theorem scene_end {y : YardD} {t : List Pt} : rowsAt y t t.length 0 = (sceneD y t).fits := by
  show rowsAt y t t.length 0 = (List.range 7).map fun j => bset (fitB y t j) t.length
  unfold rowsAt
  apply List.map_congr_left
  intro j _
  by_cases h : j < t.length
  · rw [if_pos h]
  · rw [if_neg h, fit_out (by omega)]
    split <;> rfl
theorem row_end {y : YardD} {t : List Pt} {i : Nat} : rowsAt y t i t.length = rowsAt y t (i + 1) 0 := by
  unfold rowsAt
  apply List.map_congr_left
  intro j _
  by_cases h : j < i
  · rw [if_pos h, if_pos (by omega)]
  · rw [if_neg h]
    by_cases h2 : j = i
    · subst h2; rw [if_pos rfl, if_pos (by omega)]
    · rw [if_neg h2, if_neg (by omega)]
      split <;> rfl
theorem row_no {y : YardD} {t : List Pt} {i k : Nat} (h : fitB y t i k = false) : rowsAt y t i k = rowsAt y t i (k + 1) := by
  unfold rowsAt
  have : bset (fitB y t i) (k + 1) = bset (fitB y t i) k := by rw [bset, if_neg (by simp [h])]
  rw [this]
theorem row_get {y : YardD} {t : List Pt} {i k : Nat} (h : i < 7) : (rowsAt y t i k)[i]? = some (bset (fitB y t i) k) := by
  unfold rowsAt
  rw [List.getElem?_map, List.getElem?_range h]
  simp
theorem sc_row {rows : List Nat} {i n : Nat} (w b : Nat) (h : rows[i]? = some n) : (scC w b rows)[2 + i * 1]? = some (.int .i64 (n : Int)) := by
  rw [Nat.mul_one, Nat.add_comm]
  unfold scC
  rw [List.getElem?_cons_succ, List.getElem?_cons_succ, List.getElem?_map, h]; rfl
theorem take_whole {t : List Pt} {i : Nat} {z : Pt} (hz : t[i]? = some z) : whole (t.take (i + 1)) = whole (t.take i) + if isWhole z = true then 1 else 0 := by
  unfold whole
  rw [List.take_add_one, hz, Option.toList_some, List.filter_append, List.length_append]
  cases h : isWhole z <;> simp [h]
theorem brok_at {t : List Pt} {i : Nat} {z : Pt} (hz : t[i]? = some z) : brokB t i = !isWhole z := by unfold brokB; rw [hz]
theorem whole_row {y : YardD} {t : List Pt} {i k : Nat} {z : Pt} (hz : t[i]? = some z) (hw : isWhole z = true) : bset (fitB y t i) k = 0 := by
  apply Nat.eq_of_testBit_eq
  intro j
  rw [bset_bit, Nat.zero_testBit]
  have : fitB y t i j = false := by
    unfold fitB; rw [hz]
    split
    · rename_i e1 _ _ _
      obtain rfl := Option.some.inj e1
      simp [joins, hw]
    · rfl
  simp [this]
theorem sc_whole {y : YardD} {t : List Pt} {i : Nat} {z : Pt} (hz : t[i]? = some z) (hw : isWhole z = true) :
    (scC (whole (t.take i)) (bset (brokB t) i) (rowsAt y t i 0)).take 0 ++ [.int .i64 ((whole (t.take i) : Int) + 1)] ++ (scC (whole (t.take i)) (bset (brokB t) i) (rowsAt y t i 0)).drop (0 + [Value.int .i64 ((whole (t.take i) : Int) + 1)].length) = scC (whole (t.take (i + 1))) (bset (brokB t) (i + 1)) (rowsAt y t (i + 1) 0) := by
  have h1 : ((whole (t.take (i + 1)) : Nat) : Int) = (whole (t.take i) : Int) + 1 := by rw [take_whole hz, if_pos hw]; simp
  have h2 : bset (brokB t) (i + 1) = bset (brokB t) i := by rw [bset, if_neg (by rw [brok_at hz, hw]; simp)]
  have h3 : rowsAt y t (i + 1) 0 = rowsAt y t i 0 := by
    rw [← row_end]
    unfold rowsAt
    rw [whole_row hz hw, whole_row hz hw]
  rw [h2, h3]
  unfold scC
  rw [h1]; rfl
theorem sc_brok {y : YardD} {t : List Pt} {i : Nat} {z : Pt} (hz : t[i]? = some z) (hw : isWhole z = false) :
    (scC (whole (t.take i)) (bset (brokB t) i) (rowsAt y t i 0)).take 1 ++ [.int .i64 ((bset (brokB t) i ||| 2 ^ i : Nat) : Int)] ++ (scC (whole (t.take i)) (bset (brokB t) i) (rowsAt y t i 0)).drop (1 + [Value.int .i64 ((bset (brokB t) i ||| 2 ^ i : Nat) : Int)].length) = scC (whole (t.take (i + 1))) (bset (brokB t) (i + 1)) (rowsAt y t i 0) := by
  have h1 : whole (t.take (i + 1)) = whole (t.take i) := by rw [take_whole hz, if_neg (by simp [hw])]; rfl
  have h2 : bset (brokB t) (i + 1) = bset (brokB t) i ||| 2 ^ i := by rw [bset, if_pos (by rw [brok_at hz, hw]; rfl)]
  rw [h1, h2]; rfl
theorem sc_fit {y : YardD} {t : List Pt} {i k w b : Nat} (hi : i < 7) (h : fitB y t i k = true) :
    (scC w b (rowsAt y t i k)).take (2 + i * 1) ++ [.int .i64 ((bset (fitB y t i) k ||| 2 ^ k : Nat) : Int)] ++ (scC w b (rowsAt y t i k)).drop (2 + i * 1 + [Value.int .i64 ((bset (fitB y t i) k ||| 2 ^ k : Nat) : Int)].length) = scC w b (rowsAt y t i (k + 1)) := by
  have h2 : bset (fitB y t i) (k + 1) = bset (fitB y t i) k ||| 2 ^ k := by rw [bset, if_pos h]
  have e : i = 0 ∨ i = 1 ∨ i = 2 ∨ i = 3 ∨ i = 4 ∨ i = 5 ∨ i = 6 := by omega
  rw [← h2]
  rcases e with rfl | rfl | rfl | rfl | rfl | rfl | rfl <;> rfl
theorem scene_ok (yv tv : Value) (y : YardD) (t : List Pt) (D : Data) (hy : YardIs D yv y) (ht : Sl D RP 3 tv t) (hlen : t.length = y.chairs.length) (h7 : t.length ≤ 7) (hb : ∀ p ∈ t, Bits1 p) (hf : 0 ≤ y.fit ∧ y.fit ≤ 9) (hs : ∀ c ∈ y.chairs, 0 ≤ c.size ∧ c.size ≤ 9) : Fn Try.prog 77 #[yv, tv] D (fun _ v => v = scV (sceneD y t)) := by
  have hy0 := hy
  obtain ⟨cv, qv, rfl, hc, hq⟩ := hy
  have hl := ht.len
  refine enter 61 Try.func77 rfl rfl rfl rfl fun h0 => ?_
  refine C.seq ?_
  refine C.region [(false,0),(false,1)] rfl ?_
  refine L.boxD rfl rfl rfl rfl trivial (fun q1 E1 hE1 hB1 => ?_)
  refine L.alloc rfl Tf.z126 rfl rfl trivial (fun q2 => ?_)
  refine L.nil ?_
  refine C.next ?_
  refine C.seq ?_
  refine C.seq ?_
  refine C.region [(false,0),(false,1),(false,2)] rfl ?_
  refine L.move rfl rfl rfl trivial ?_
  refine L.len rfl Try.underlying39 rfl ht rfl rfl trivial ?_
  refine L.move rfl rfl rfl trivial ?_
  refine L.nil ?_
  refine C.next ?_
  refine C.block ?_
  refine C.loopR (γ := Nat) (fun i => t.length - i) (fun i => i ≤ t.length) (fun i => [(11, .int .i64 (i : Int))]) [(10, _), (9, _), (4, _), (2, _), (1, _)] (fun i => [(q2, .cells (scC (whole (t.take i)) (bset (brokB t) i) (rowsAt y t i 0)).toArray 126 (0, 0))]) (fun i => [E1, D]) 0 (by omega) ⟨(by first | rfl | (show some (Value.int _ _) = some (Value.int _ _); congr 2; omega)), trivial⟩ ⟨rfl, rfl, rfl, rfl, rfl, trivial⟩ (List.Sublist.refl _) (ds_same) ?_
  rintro i h1
  refine C.seq ?_
  refine C.region [(false,0)] rfl ?_
  refine L.lss rfl rfl rfl rfl trivial ?_
  refine L.nil ?_
  refine C.next ?_
  refine C.seq ?_
  refine C.condD rfl (fun hc1 => ?_) (fun hc1 => ?_)
  · have hi : i < t.length := by omega
    obtain ⟨z, hz⟩ : ∃ z, t[i]? = some z := ⟨_, List.getElem?_eq_getElem hi⟩
    obtain ⟨x1, hx1⟩ : ∃ x1, y.chairs[i]? = some x1 := ⟨_, List.getElem?_eq_getElem (by omega)⟩
    have hwl : whole (t.take i) ≤ (t.take i).length := List.length_filter_le _ _
    have hwt : (t.take i).length ≤ i := List.length_take_le _ _
    have hbl := bset_lt (brokB t) i
    have hp2 : 2 ^ i ≤ 2 ^ 7 := Nat.pow_le_pow_right (by omega) (by omega)
    refine C.skip ?_
    refine C.next ?_
    refine C.seq ?_
    refine C.block ?_
    refine C.seq ?_
    refine C.region [(false,0),(false,1),(false,2),(false,3),(false,4),(false,5)] rfl ?_
    refine L.move rfl rfl rfl trivial ?_
    refine L.indexS rfl Try.underlying39 Tf.s113 rfl ht rfl (by omega) hz rfl trivial (fun b1 o1 cs1 hr1 hcl1 hA1 => ?_)
    obtain rfl : cs1 = [.int .i64 _, .int .i64 _, .int .i64 _] := hr1
    refine L.loadDW rfl Tf.a113 rfl hA1 (by first | simp | assumption) (by first | exact Tf.s113 | (simp only [ints_length, *]; exact Tf.s113)) List.not_mem_nil rfl trivial ?_
    refine L.alloc rfl Tf.z113 rfl rfl trivial (fun q3 => ?_)
    refine L.assign rfl rfl rfl trivial ?_
    refine L.storeW rfl rfl rfl rfl Tf.s113 (by first | rfl | (simp only [ints_length, *]; done) | (simp only [ints_length, *]; rfl) | (simp only [ints_length, *]; omega)) (by first | rfl | (simp only [ints_length, *]; done) | (simp only [ints_length, *]; rfl) | (simp only [ints_length, *]; omega)) (Has.head) (by first | exact ints_cell1 _ | simp [cell1]) trivial ?_
    refine L.nil ?_
    refine C.next ?_
    refine C.seq ?_
    refine C.seq ?_
    refine C.region [(false,0),(false,1)] rfl ?_
    refine L.loadBW rfl Tf.a113 rfl (List.Mem.head _) (by first | exact Tf.s113 | (simp only [ints_length, *]; exact Tf.s113)) List.not_mem_nil rfl trivial ?_
    refine L.callV rfl rfl rfl (fun D1 hD1 => whole_ok z _) rfl trivial ?_
    refine L.nil ?_
    refine C.next ?_
    refine C.cond rfl (fun hc2 => ?_) (fun hc2 => ?_)
    · refine C.seq ?_
      refine C.region [(false,0),(false,1),(false,2),(false,3),(false,4)] rfl ?_
      refine L.fieldAddr rfl Tf.f126_0 rfl rfl trivial ?_
      refine L.loadB1 rfl Tf.a3 rfl (List.Mem.tail _ (List.Mem.head _)) rfl List.not_mem_nil rfl trivial ?_
      refine L.add rfl rfl rfl (by simp only [inK]; omega) rfl trivial ?_
      refine L.fieldAddr rfl Tf.f126_0 rfl rfl trivial ?_
      refine L.store (ws := scC (whole (t.take (i + 1))) (bset (brokB t) (i + 1)) (rowsAt y t (i + 1) 0)) rfl rfl rfl rfl Tf.s3 (.tail Has.head) (by simp [scC]) (sc_whole hz hc2) (by simp [cell1]) trivial ?_
      refine L.nil ?_
      refine C.next ?_
      refine C.exit ?_
      refine C.thenExit ?_
      refine C.blockExit ?_
      refine C.next ?_
      refine C.region [(false,0),(false,1)] rfl ?_
      refine L.add rfl rfl rfl (by simp only [inK]; omega) rfl trivial ?_
      refine L.move rfl rfl rfl trivial ?_
      refine L.nil ?_
      exact C.againR 15 (i + 1) (by omega) (by omega) ⟨(by first | rfl | (show some (Value.int _ _) = some (Value.int _ _); congr 2; omega)), trivial⟩ rfl rfl (List.Sublist.cons _ (List.Sublist.refl _)) (ds_same)
    · refine C.skip ?_
      refine C.next ?_
      refine C.seq ?_
      refine C.draw [] 2 [0,1,2,3,4,5,6] [false,false,true,true,false,false,false] [(false,0),(false,1),(true,2),(true,3),(false,4),(false,5),(false,6)] Tf.follows (fun _ _ _ h => np_body (P := Try.prog) (fn := Try.f77) _ _ _ h) (by kernel_rfl) rfl ?_
      refine L.fieldAddr rfl Tf.f126_1 rfl rfl trivial ?_
      refine L.loadB1 rfl Tf.a3 rfl (List.Mem.tail _ (List.Mem.head _)) rfl List.not_mem_nil rfl trivial ?_
      refine L.move rfl rfl rfl trivial ?_
      refine L.shl1 rfl rfl rfl (by omega) rfl trivial ?_
      refine L.orB rfl rfl rfl (by omega) (by omega) rfl trivial ?_
      refine L.fieldAddr rfl Tf.f126_1 rfl rfl trivial ?_
      refine L.store (ws := scC (whole (t.take (i + 1))) (bset (brokB t) (i + 1)) (rowsAt y t i 0)) rfl rfl rfl rfl Tf.s3 (.tail Has.head) (by simp [scC]) (sc_brok hz hc2) (by simp [cell1]) trivial ?_
      refine L.nil ?_
      refine C.next ?_
      refine C.seq ?_
      refine C.region [(false,0),(false,1),(false,2)] rfl ?_
      refine L.move rfl rfl rfl trivial ?_
      refine L.len rfl Try.underlying39 rfl ht rfl rfl trivial ?_
      refine L.move rfl rfl rfl trivial ?_
      refine L.nil ?_
      refine C.next ?_
      refine C.block ?_
      refine C.loopR (γ := Nat) (fun k => t.length - k) (fun k => k ≤ t.length) (fun k => [(30, .int .i64 (k : Int))]) [(29, _), (28, _), (27, _), (26, _), (25, _), (24, _), (23, _), (22, _), (17, _), (16, _), (5, _), (6, _), (15, _), (14, _), (13, _), (12, _), (11, _), (10, _), (9, _), (4, _), (2, _), (1, _)] (fun k => [(q3, .cells [.int .i64 z.a, .int .i64 z.b, .int .i64 z.c].toArray 113 (0, 0)), (q2, .cells (scC (whole (t.take (i + 1))) (bset (brokB t) (i + 1)) (rowsAt y t i k)).toArray 126 (0, 0))]) (fun k => [E1, D]) 0 (by omega) ⟨(by first | rfl | (show some (Value.int _ _) = some (Value.int _ _); congr 2; omega)), trivial⟩ ⟨rfl, rfl, rfl, rfl, rfl, rfl, rfl, rfl, rfl, rfl, rfl, rfl, rfl, rfl, rfl, rfl, rfl, rfl, rfl, rfl, rfl, rfl, trivial⟩ (List.Sublist.refl _) (ds_same) ?_
      rintro k h2
      refine C.seq ?_
      refine C.region [(false,0)] rfl ?_
      refine L.lss rfl rfl rfl rfl trivial ?_
      refine L.nil ?_
      refine C.next ?_
      refine C.seq ?_
      refine C.condD rfl (fun hc3 => ?_) (fun hc3 => ?_)
      · have hk : k < t.length := by omega
        obtain ⟨q, hq⟩ : ∃ q, t[k]? = some q := ⟨_, List.getElem?_eq_getElem hk⟩
        obtain ⟨x2, hx2⟩ : ∃ x2, y.chairs[k]? = some x2 := ⟨_, List.getElem?_eq_getElem (by omega)⟩
        have hbk := bset_lt (fitB y t i) k
        have hp3 : 2 ^ k ≤ 2 ^ 7 := Nat.pow_le_pow_right (by omega) (by omega)
        refine C.skip ?_
        refine C.next ?_
        refine C.seq ?_
        refine C.block ?_
        refine C.seq ?_
        refine C.region [(false,0),(false,1),(false,2),(false,3),(false,4),(false,5)] rfl ?_
        refine L.move rfl rfl rfl trivial ?_
        refine L.indexS rfl Try.underlying39 Tf.s113 rfl ht rfl (by omega) hq rfl trivial (fun b2 o2 cs2 hr2 hcl2 hA2 => ?_)
        obtain rfl : cs2 = [.int .i64 _, .int .i64 _, .int .i64 _] := hr2
        refine L.loadDW rfl Tf.a113 rfl hA2 (by first | simp | assumption) (by first | exact Tf.s113 | (simp only [ints_length, *]; exact Tf.s113)) List.not_mem_nil rfl trivial ?_
        refine L.alloc rfl Tf.z113 rfl rfl trivial (fun q4 => ?_)
        refine L.assign rfl rfl rfl trivial ?_
        refine L.storeW rfl rfl rfl rfl Tf.s113 (by first | rfl | (simp only [ints_length, *]; done) | (simp only [ints_length, *]; rfl) | (simp only [ints_length, *]; omega)) (by first | rfl | (simp only [ints_length, *]; done) | (simp only [ints_length, *]; rfl) | (simp only [ints_length, *]; omega)) (Has.head) (by first | exact ints_cell1 _ | simp [cell1]) trivial ?_
        refine L.nil ?_
        refine C.next ?_
        refine C.seq ?_
        refine C.region [(false,0),(false,1),(false,2),(false,3),(false,4),(false,5),(false,6),(false,7),(false,8),(false,9),(false,10),(false,11),(false,12),(false,13)] rfl ?_
        refine L.move rfl rfl rfl trivial ?_
        refine L.move rfl rfl rfl trivial ?_
        refine L.neq rfl rfl rfl rfl trivial ?_
        refine L.move rfl rfl rfl trivial ?_
        refine' L.and [(false,4),(false,5),(false,6),(false,7),(false,8)] [(false,9),(false,10),(false,11),(false,12),(false,13)] (s := 38) (p := 43) rfl rfl (fun hg1 => ?_) (fun hg1 => ?_) ?_
        rotate_left
        · refine L.loadDW rfl Tf.a37 rfl hB1 (by first | simp | assumption) Tf.s37 List.not_mem_nil rfl ⟨_, rfl, rfl⟩ ?_
          refine L.move rfl rfl rfl ⟨_, rfl, rfl⟩ ?_
          refine L.move rfl rfl rfl ⟨_, rfl, rfl⟩ ?_
          refine L.callV rfl rfl rfl (fun D2 hD2 => near_ok _ y i k x1 x2 _ (hy0.up (hD2 _ (by simp))) hf hx1 hx2 (hs _ (List.mem_of_getElem? hx1)) (hs _ (List.mem_of_getElem? hx2))) rfl ⟨_, rfl, rfl⟩ ?_
          refine L.pickT rfl rfl rfl rfl trivial ?_
          exact L.nil fun a w hh => hh.cutK 4 rfl
        · refine L.pass rfl rfl rfl ⟨_, _, rfl, rfl, rfl⟩ ?_
          refine L.pass rfl rfl rfl ⟨_, _, rfl, rfl, rfl⟩ ?_
          refine L.pass rfl rfl rfl ⟨_, _, rfl, rfl, rfl⟩ ?_
          refine L.pass rfl rfl rfl ⟨_, _, rfl, rfl, rfl⟩ ?_
          refine L.pickF rfl rfl rfl rfl trivial ?_
          exact L.nil fun a w hh => hh.cutK 4 rfl
        refine L.move rfl rfl rfl trivial ?_
        refine' L.and [(false,10),(false,11),(false,12),(false,13)] [] (s := 44) (p := 48) rfl rfl (fun hg2 => ?_) (fun hg2 => ?_) ?_
        rotate_left
        · refine L.loadBW rfl Tf.a113 rfl (List.Mem.tail _ (List.Mem.head _)) (by first | exact Tf.s113 | (simp only [ints_length, *]; exact Tf.s113)) List.not_mem_nil rfl ⟨_, rfl, rfl⟩ ?_
          refine L.loadBW rfl Tf.a113 rfl (List.Mem.head _) (by first | exact Tf.s113 | (simp only [ints_length, *]; exact Tf.s113)) List.not_mem_nil rfl ⟨_, rfl, rfl⟩ ?_
          refine L.callV rfl rfl rfl (fun D3 hD3 => joins_ok z q _ (hb _ (List.mem_of_getElem? hz)) (hb _ (List.mem_of_getElem? hq))) rfl ⟨_, rfl, rfl⟩ ?_
          refine L.pickT rfl rfl rfl rfl trivial ?_
          exact L.nil fun a w hh => hh.cutK 3 rfl
        · refine L.pass rfl rfl rfl ⟨_, _, rfl, rfl, rfl⟩ ?_
          refine L.pass rfl rfl rfl ⟨_, _, rfl, rfl, rfl⟩ ?_
          refine L.pass rfl rfl rfl ⟨_, _, rfl, rfl, rfl⟩ ?_
          refine L.pickF rfl rfl rfl rfl trivial ?_
          exact L.nil fun a w hh => hh.cutK 3 rfl
        refine L.nil ?_
        refine C.next ?_
        refine C.cond rfl (fun hc4 => ?_) (fun hc4 => ?_)
        · have hfit : fitB y t i k = true := by rw [fit_at hz hq hx1 hx2]; exact hc4
          refine C.draw [] 3 [0,1,2,3,4,5,6,7,8,9] [false,true,false,false,true,true,false,true,false,false] [(false,0),(true,1),(false,2),(false,3),(true,4),(true,5),(false,6),(true,7),(false,8),(false,9)] Tf.follows (fun _ _ _ h => np_body (P := Try.prog) (fn := Try.f77) _ _ _ h) (by kernel_rfl) rfl ?_
          refine L.move rfl rfl rfl trivial ?_
          refine L.fieldAddr rfl Tf.f126_2 rfl rfl trivial ?_
          refine L.indexA rfl Try.underlying124 Tf.s3 rfl rfl (by omega) (by omega) rfl trivial ?_
          refine L.loadB1 rfl Tf.a3 rfl (List.Mem.tail _ (List.Mem.tail _ (List.Mem.head _))) (sc_row _ _ (row_get (by omega))) List.not_mem_nil rfl trivial ?_
          refine L.move rfl rfl rfl trivial ?_
          refine L.shl1 rfl rfl rfl (by omega) rfl trivial ?_
          refine L.orB rfl rfl rfl (by omega) (by omega) rfl trivial ?_
          refine L.fieldAddr rfl Tf.f126_2 rfl rfl trivial ?_
          refine L.indexA rfl Try.underlying124 Tf.s3 rfl rfl (by omega) (by omega) rfl trivial ?_
          refine L.store (ws := scC (whole (t.take (i + 1))) (bset (brokB t) (i + 1)) (rowsAt y t i (k + 1))) rfl rfl rfl rfl Tf.s3 (.tail (.tail Has.head)) (by simp [scC, rowsAt]; omega) (sc_fit (by omega) hfit) (by simp [cell1]) trivial ?_
          refine L.nil ?_
          refine C.blockEnd ?_
          refine C.next ?_
          refine C.region [(false,0),(false,1)] rfl ?_
          refine L.add rfl rfl rfl (by simp only [inK]; omega) rfl trivial ?_
          refine L.move rfl rfl rfl trivial ?_
          refine L.nil ?_
          exact C.againR 25 (k + 1) (by omega) (by omega) ⟨(by first | rfl | (show some (Value.int _ _) = some (Value.int _ _); congr 2; omega)), trivial⟩ rfl rfl (List.Sublist.cons _ (List.Sublist.refl _)) (ds_same)
        · have hfit : fitB y t i k = false := by rw [fit_at hz hq hx1 hx2]; exact hc4
          refine C.skip ?_
          refine C.blockEnd ?_
          refine C.next ?_
          refine C.region [(false,0),(false,1)] rfl ?_
          refine L.add rfl rfl rfl (by simp only [inK]; omega) rfl trivial ?_
          refine L.move rfl rfl rfl trivial ?_
          refine L.nil ?_
          rw [row_no hfit]
          exact C.againR 16 (k + 1) (by omega) (by omega) ⟨(by first | rfl | (show some (Value.int _ _) = some (Value.int _ _); congr 2; omega)), trivial⟩ rfl rfl (List.Sublist.cons _ (List.Sublist.refl _)) (ds_same)
      · obtain rfl : k = t.length := by omega
        rw [row_end]
        refine C.exit ?_
        refine C.thenExit ?_
        refine C.thenExit ?_
        refine C.blockExit ?_
        refine C.blockEnd ?_
        refine C.next ?_
        refine C.region [(false,0),(false,1)] rfl ?_
        refine L.add rfl rfl rfl (by simp only [inK]; omega) rfl trivial ?_
        refine L.move rfl rfl rfl trivial ?_
        refine L.nil ?_
        exact C.againR 21 (i + 1) (by omega) (by omega) ⟨(by first | rfl | (show some (Value.int _ _) = some (Value.int _ _); congr 2; omega)), trivial⟩ rfl rfl (List.Sublist.cons _ (List.Sublist.refl _)) (ds_same)
  · obtain rfl : i = t.length := by omega
    refine C.exit ?_
    refine C.thenExit ?_
    refine C.thenExit ?_
    refine C.blockExit ?_
    refine C.next ?_
    refine C.seq ?_
    refine C.region [(false,0),(false,1)] rfl ?_
    refine L.loadBW rfl Tf.a126 rfl (List.Mem.head _) Tf.s126 List.not_mem_nil rfl trivial ?_
    refine L.storeW rfl rfl rfl rfl Tf.s126 (by first | rfl | (simp only [ints_length, *]; done) | (simp only [ints_length, *]; rfl) | (simp only [ints_length, *]; omega)) (by first | rfl | (simp only [ints_length, *]; done) | (simp only [ints_length, *]; rfl) | (simp only [ints_length, *]; omega)) (Has.head) (sc_cell1 _ _ _) trivial ?_
    refine L.nil ?_
    refine C.next ?_
    refine C.ret ?_
    exact leave (vs := [_]) rfl rfl rfl ⟨⟨_, _, _, rfl, (List.Mem.head _), Or.inr ⟨Tf.a126, (by first | exact Tf.s126 | (simp only [List.size_toArray, ints_length, *]; exact Tf.s126)), rfl⟩⟩, trivial⟩ (fun D hD => by rw [scene_end, List.take_length]; rfl)
end Go.Fs
namespace Go.Fs
variable {P : Program} {X : Cx} {γb : Type} [Membership Nat γb] {bad : γb} {all : Array Oper} {K : Act → World → Prop} {Q : Exit → Act → World → Prop}
variable {σ : Slots} {μ : Boxes} {Ds : List Data} {os : List (Bool × Nat)} {fl : Bool} {ix : Nat}
variable {d : Nat} {x y z : Operand} {u v : Value} {ty : TypeId} {pos : String} {aft : Array Edge} {g : Option (Nat × Bool)}
/-- What a call of f comes to that hands over new blocks. -/
def FnO (P : Program) (f : FuncId) (args : Array Value) (D : Data) (post : Data → Value → Boxes → Prop) : Prop :=
  EF P f ∧ ∀ w, Agrees D w → Calls P f args w fun e w' => ∃ v D' ν, e = .returned v ∧ Sta (hd w) w.heap.size D [] ν D' w' ∧ post D' v ν
theorem enterO {f : FuncId} {fn : Func} {c : Code} {args : List Value} {D : Data} {post : Data → Value → Boxes → Prop} (N : Nat) (hf : P.funcs[f]? = some fn) (hn : (fn.name == "runtime.NumGoroutine") = false) (hb : fn.body = some c) (hN : fn.ntmps = N) (hsz : Nat.ble args.length N = true)
    (h : ∀ h0 : H0, WC P ⟨none, N, [], h0, h0.size, D, [], none⟩ (bodyPost P fn (Post ⟨none, N, [], h0, h0.size, D, [], none⟩ post)) c (slotsOf 0 args) [] [D]) : FnO P f args.toArray D post := by
  refine ⟨EF.of hf hn hb, fun w hw => ?_⟩
  subst hN
  have hsz := Nat.le_of_ble_eq_true hsz
  refine (callsIn_FW (r := none) (n := 0)).1 ((callsIn_of_wp (R := Post ⟨none, fn.ntmps, [], hd w, w.heap.size, D, [], none⟩ post) hf hb trivial (h (hd w) _ w ⟨?_, fun s v hs => ?_, rfl, D, ⟨Nat.le_refl _, Nat.le_refl _, fun _ _ _ => rfl, fun _ _ => rfl, hw, (fun p hp => by cases hp), List.nodup_nil, fun b o hb ho => absurd (lt_of_some ho) (Nat.not_lt_of_le (hb.resolve_right (by simp))), fun e he => Option.some.inj he⟩, fun D₁ h1 => ?_, trivial⟩) rfl).mono ?_)
  · simp; omega
  · obtain ⟨_, h2⟩ := look_slotsOf args 0 s v hs
    have hl := (List.getElem?_eq_some_iff.1 h2).1
    simp only [Nat.sub_zero] at h2 hl
    show (args.toArray ++ _)[s]? = some v
    rw [Array.getElem?_append_left (by simpa using hl)]
    simpa using h2
  · simp only [List.mem_singleton] at h1; subst h1; exact Le.refl _
  · rintro e w' ⟨v, D', μ', rfl, hs, hp⟩
    exact ⟨v, D', μ', rfl, hs, hp⟩
theorem Sta.afterO {h0 : H0} {lo : Nat} {D0 D D' : Data} {mods : List Nat} {μ ν : Boxes} {w w' : World} (h : Sta h0 lo D0 mods μ D w) (hs : Sta (hd w) w.heap.size D [] ν D' w') : Sta h0 lo D0 mods (ν ++ μ) D' w' := by
  have h1 := h.after (hs.sub (μ' := []) (fun p hp => by cases hp) List.nodup_nil)
  have hge : ∀ p ∈ ν, w.heap.size ≤ p.1 := fun p hp => (hs.box p hp).2.2.resolve_right (by simp)
  refine ⟨h1.hlo, h1.size, h1.old, h1.dold, h1.agr, fun p hp => ?_, ?_, h1.fz, h1.env⟩
  · rcases List.mem_append.1 hp with hp | hp
    · obtain ⟨a, b, _⟩ := hs.box p hp
      exact ⟨a, b, Or.inl (Nat.le_trans h.size (hge p hp))⟩
    · exact h1.box p hp
  · rw [List.map_append, List.nodup_append]
    refine ⟨hs.nd, h.nd, fun a ha b hb => ?_⟩
    obtain ⟨p, hp, rfl⟩ := List.mem_map.1 ha
    obtain ⟨q, hq, rfl⟩ := List.mem_map.1 hb
    have := hge p hp
    have := lt_of_some (h.box q hq).1
    omega
/-- **A CALL** of a function that hands over new blocks. -/
theorem L.callO {c : Operand} {xs : Array Operand} {ats : Array TypeId} {f : FuncId} {c1 c2 : List Value} {vs : List Value} {post : Data → Value → Boxes → Prop} (ho : all[ix]? = some ⟨some d, .call { callee := .value c, args := xs, argTypes := ats }, ty, pos, aft, g⟩) (hc : ev σ c = some (.func (.func f) c1.toArray c2.toArray)) (hxs : evs σ xs.toList = some vs)
    (hf : ∀ D, (∀ D₁ ∈ Ds, Le D₁ D) → FnO P f (c1 ++ vs ++ c2).toArray D post) (hN : Nat.blt d X.N = true) (hg : Gok all σ g)
    (kk : ∀ v D ν, (∀ D₁ ∈ Ds, Le D₁ D) → post D v ν → WL P X bad all K Q os ((d, v) :: σ) (ν ++ μ) (D :: Ds)) :
    WL P X bad all K Q ((fl, ix) :: os) σ μ Ds := by
  refine L.loud ho rfl rfl hg fun a w hh => ?_
  obtain ⟨h1, h2, h3, D, h4, h5, h6⟩ := id hh
  have hF := hf D h5
  rw [run_call hF.1 (hh.eval hc) (evs_eval (fun _ _ hx => hh.eval hx) hxs)]
  refine ⟨fun h => by simp [FW] at h, callsIn_FW.2 ((hF.2 w h4.agr).mono ?_)⟩
  rintro e w' ⟨v, D', ν, rfl, hs, hpost⟩
  have hle := le_of_call h4.agr hs
  refine ⟨fun _ => hs.keep bad, kk v D' ν (fun D₁ hD₁ => (h5 D₁ hD₁).trans hle) hpost _ _ ?_⟩
  refine Hl.put ⟨h1, h2, h3, D', h4.afterO hs, fun D₁ hD₁ => ?_, h6.step (fun _ p hp => ?_) (fun _ => hs.low _) (h4.afterO hs).dom⟩ hN v
  · rcases List.mem_cons.1 hD₁ with rfl | hD₁
    · exact Le.refl _
    · exact (h5 D₁ hD₁).trans hle
  · rcases List.mem_append.1 hp with hp | hp
    · exact Or.inr ((hs.box p hp).2.2.resolve_right (by simp))
    · exact Or.inl (List.mem_map.2 ⟨p, hp, rfl⟩)
/-- A pointer into a slice that lies at a plain address. -/
theorem L.indexP {t e : TypeId} {sz b o n cap : Nat} {k : IntKind} {i : Int} (ho : all[ix]? = some ⟨some d, .indexAddr t x y, ty, pos, aft, g⟩) (ht : P.underlying t = some (.slice e)) (hs : TS P e sz) (hx : ev σ x = some (.slice (some ⟨b, o, none⟩) n cap))
    (hy : ev σ y = some (.int k i)) (h0 : 0 ≤ i) (hi : i < n) (hN : Nat.blt d X.N = true) (hg : Gok all σ g)
    (kk : WL P X bad all K Q os ((d, .pointer (some ⟨b, o + i.toNat * sz, none⟩)) :: σ) μ Ds) : WL P X bad all K Q ((fl, ix) :: os) σ μ Ds :=
  L.pure ho rfl rfl hN hg (fun ρ hρ w' => by
    simp only [execOp, hρ x _ hx, hρ y _ hy]
    unfold Instr.indexAt asIntOf
    simp only [Sem.run_bind, TU.of ht w', Result.andThen_ok, hs w', Sem.run_pure, pure_bind, h0, hi, and_self, if_true, add_plain]) kk
theorem Acc.some {e : TypeId} {sz n : Nat} {cells : List Value} {ν : Boxes} (h : Acc e sz v n cells ν) (hn : 0 < n) : ∃ b cap junk, v = .slice (some ⟨b, 0, none⟩) n cap ∧ n ≤ cap ∧ ν = [(b, .cells (cells ++ junk).toArray e (0, 0))] ∧ cells.length = n * sz ∧ (cells ++ junk).length = cap * sz := by
  rcases h with ⟨_, _, h0, _⟩ | h
  · omega
  · exact h
end Go.Fs
namespace Go.Fs
variable {P : Program} {X : Cx} {γb : Type} [Membership Nat γb] {bad : γb} {all : Array Oper} {K : Act → World → Prop} {Q : Exit → Act → World → Prop}
variable {σ : Slots} {μ : Boxes} {Ds : List Data} {os : List (Bool × Nat)} {fl : Bool} {ix : Nat}
variable {d : Nat} {x y z : Operand} {u v : Value} {ty : TypeId} {pos : String} {aft : Array Edge} {g : Option (Nat × Bool)}
abbrev Boxes.ks (μ : Boxes) : List Nat := μ.map fun p => p.1
/-- What a call comes to that may change some blocks besides the new ones. -/
def FnM (P : Program) (f : FuncId) (args : List Value) (D : Data) (ν : Boxes) (post : Data → Value → Boxes → Prop) : Prop :=
  EF P f ∧ ∀ w, Agrees D w → (∀ p ∈ ν, w.heap[p.1]? = some p.2 ∧ D p.1 = [] ∧ unfrozen p.2) → ν.ks.Nodup → Calls P f args.toArray w fun e w' => ∃ v D' ν', e = .returned v ∧ ν'.ks = ν.ks ∧ Sta (hd w) w.heap.size D ν.ks ν' D' w' ∧ post D' v ν'
theorem Sta.afterM {h0 : H0} {lo : Nat} {D0 D D' : Data} {mods : List Nat} {A B ν ν' : Boxes} {w w' : World} (h : Sta h0 lo D0 mods (A ++ ν ++ B) D w) (hk : ν'.ks = ν.ks) (hs : Sta (hd w) w.heap.size D ν.ks ν' D' w') : Sta h0 lo D0 mods (A ++ ν' ++ B) D' w' := by
  have hle := Nat.le_trans h.hlo h.size
  have hin : ∀ c ∈ ν.ks, ∃ o, (c, o) ∈ ν := fun c hc => by
    obtain ⟨p, hp, rfl⟩ := List.mem_map.1 hc
    exact ⟨p.2, hp⟩
  have hbx : ∀ p ∈ ν, _ := fun p hp => h.box p (List.mem_append_left _ (List.mem_append_right _ hp))
  have hnd := h.nd
  simp only [List.map_append] at hnd
  have keys : (A ++ ν' ++ B).map (fun p => p.1) = (A ++ ν ++ B).map (fun p => p.1) := by
    simp only [List.map_append]
    rw [show ν'.map (fun p => p.1) = ν.map (fun p => p.1) from hk]
  refine ⟨h.hlo, Nat.le_trans h.size hs.size, fun c hc hm => ?_, fun c hc => ?_, hs.agr, fun p hp => ?_, by rw [keys]; exact h.nd, fun c q hc hq => ?_, fun e he => (hs.env _ rfl).trans (h.env e he)⟩
  · have hne : c ∉ ν.ks := by
      intro hcm
      obtain ⟨o, ho⟩ := hin c hcm
      rcases (hbx _ ho).2.2 with h' | h'
      · have := h.hlo; simp at h'; omega
      · exact hm h'
    rw [hs.old c (Nat.lt_of_lt_of_le hc hle) hne]; exact h.old c hc hm
  · rw [hs.dold c (Nat.lt_of_lt_of_le hc hle)]; exact h.dold c hc
  · rcases List.mem_append.1 hp with hp | hp
    · rcases List.mem_append.1 hp with hp | hp
      · obtain ⟨h1, h2, h3⟩ := h.box p (List.mem_append_left _ (List.mem_append_left _ hp))
        have hl := lt_of_some h1
        have hne : p.1 ∉ ν.ks := fun hm => (List.nodup_append.1 (List.nodup_append.1 hnd).1).2.2 p.1 (List.mem_map.2 ⟨p, hp, rfl⟩) p.1 hm rfl
        exact ⟨by rw [hs.old _ hl hne]; exact h1, by rw [hs.dold _ hl]; exact h2, h3⟩
      · obtain ⟨q1, q2, _⟩ := hs.box p hp
        have hm : p.1 ∈ ν.ks := by rw [← hk]; exact List.mem_map.2 ⟨p, hp, rfl⟩
        obtain ⟨o, ho⟩ := hin p.1 hm
        exact ⟨q1, q2, (hbx _ ho).2.2⟩
    · obtain ⟨h1, h2, h3⟩ := h.box p (List.mem_append_right _ hp)
      have hl := lt_of_some h1
      have hne : p.1 ∉ ν.ks := fun hm => (List.nodup_append.1 hnd).2.2 p.1 (List.mem_append_right _ hm) p.1 (List.mem_map.2 ⟨p, hp, rfl⟩) rfl
      exact ⟨by rw [hs.old _ hl hne]; exact h1, by rw [hs.dold _ hl]; exact h2, h3⟩
  · rcases Nat.lt_or_ge c w.heap.size with hl | hl
    · by_cases he : c ∈ ν.ks
      · exact hs.fz c q (Or.inr he) hq
      · rw [hs.old c hl he] at hq; exact h.fz c q hc hq
    · exact hs.fz c q (Or.inl hl) hq
theorem L.callM {c : Operand} {xs : Array Operand} {ats : Array TypeId} {f : FuncId} {c1 c2 : List Value} {vs : List Value} {A B ν : Boxes} {post : Data → Value → Boxes → Prop} (ho : all[ix]? = some ⟨some d, .call { callee := .value c, args := xs, argTypes := ats }, ty, pos, aft, g⟩) (hc : ev σ c = some (.func (.func f) c1.toArray c2.toArray)) (hxs : evs σ xs.toList = some vs)
    (hex : X.ex = none) (hfl : fl = false ∨ ∀ p ∈ ν, p.1 ∈ bad) (hu : ∀ p ∈ ν, unfrozen p.2) (hf : ∀ D, (∀ D₁ ∈ Ds, Le D₁ D) → FnM P f (c1 ++ vs ++ c2) D ν post) (hN : Nat.blt d X.N = true) (hg : Gok all σ g)
    (kk : ∀ v D ν', (∀ D₁ ∈ Ds, Le D₁ D) → post D v ν' → WL P X bad all K Q os ((d, v) :: σ) (A ++ ν' ++ B) (D :: Ds)) :
    WL P X bad all K Q ((fl, ix) :: os) σ (A ++ ν ++ B) Ds := by
  refine L.loud ho rfl rfl hg fun a w hh => ?_
  obtain ⟨h1, h2, h3, D, h4, h5, h6⟩ := id hh
  have hF := hf D h5
  have hbx : ∀ p ∈ ν, _ := fun p hp => h4.box p (List.mem_append_left _ (List.mem_append_right _ hp))
  have hnd := h4.nd
  simp only [List.map_append] at hnd
  rw [run_call hF.1 (hh.eval hc) (evs_eval (fun _ _ hx => hh.eval hx) hxs)]
  refine ⟨fun h => by simp [FW] at h, callsIn_FW.2 ((hF.2 w h4.agr (fun p hp => ⟨(hbx p hp).1, (hbx p hp).2.1, hu p hp⟩) (List.nodup_append.1 (List.nodup_append.1 hnd).1).2.1).mono ?_)⟩
  rintro e w' ⟨v, D', ν', rfl, hk, hs, hpost⟩
  have hle := le_of_call h4.agr hs
  refine ⟨fun hflt => ⟨hs.size, fun c hc hcb => hs.old c hc (fun hm => ?_)⟩, kk v D' ν' (fun D₁ hD₁ => (h5 D₁ hD₁).trans hle) hpost _ _ ?_⟩
  · obtain ⟨p, hp, rfl⟩ := List.mem_map.1 hm
    rcases hfl with h | h
    · rw [hflt] at h; cases h
    · exact hcb (h p hp)
  · refine Hl.put ⟨h1, h2, h3, D', h4.afterM hk hs, fun D₁ hD₁ => ?_, by unfold exOk; rw [hex]; trivial⟩ hN v
    rcases List.mem_cons.1 hD₁ with rfl | hD₁
    · exact Le.refl _
    · exact (h5 D₁ hD₁).trans hle
theorem L.callMA {c : Operand} {xs : Array Operand} {ats : Array TypeId} {f : FuncId} {c1 c2 : List Value} {vs : List Value} {A ν : Boxes} {post : Data → Value → Boxes → Prop} (ho : all[ix]? = some ⟨some d, .call { callee := .value c, args := xs, argTypes := ats }, ty, pos, aft, g⟩) (hc : ev σ c = some (.func (.func f) c1.toArray c2.toArray)) (hxs : evs σ xs.toList = some vs)
    (hex : X.ex = none) (hfl : fl = false ∨ ∀ p ∈ ν, p.1 ∈ bad) (hu : ∀ p ∈ ν, unfrozen p.2) (hf : ∀ D, (∀ D₁ ∈ Ds, Le D₁ D) → FnM P f (c1 ++ vs ++ c2) D ν post) (hN : Nat.blt d X.N = true) (hg : Gok all σ g)
    (kk : ∀ v D ν', (∀ D₁ ∈ Ds, Le D₁ D) → post D v ν' → WL P X bad all K Q os ((d, v) :: σ) (A ++ ν') (D :: Ds)) :
    WL P X bad all K Q ((fl, ix) :: os) σ (A ++ ν) Ds := by
  have := L.callM (A := A) (B := []) ho hc hxs hex hfl hu hf hN hg (fun v D ν' h1 h2 => by rw [List.append_nil]; exact kk v D ν' h1 h2)
  rwa [List.append_nil] at this
/-- Entering such a function. -/
def PostMany (X : Cx) (ks : List Nat) (post : Data → Value → Boxes → Prop) : Ending → World → Prop := fun e w' => ∃ v D' ν', e = .returned v ∧ ν'.ks = ks ∧ Sta X.h0 X.lo X.D0 X.mods ν' D' w' ∧ post D' v ν'
theorem np_bodyMany {fn : Func} {ks : List Nat} {post : Data → Value → Boxes → Prop} : NP (bodyPost P fn (PostMany X ks post)) := by
  rintro c a w ⟨_, v, D', μ', h, _⟩
  cases h
def XMany (N : Nat) (h0 : H0) (D : Data) (ks : List Nat) : Cx := ⟨none, N, [], h0, h0.size, D, ks, none⟩
theorem enterMany {f : FuncId} {fn : Func} {c : Code} {args : List Value} {D : Data} {ν : Boxes} {post : Data → Value → Boxes → Prop} (N : Nat) (hf : P.funcs[f]? = some fn) (hn : (fn.name == "runtime.NumGoroutine") = false) (hb : fn.body = some c) (hN : fn.ntmps = N) (hsz : Nat.ble args.length N = true)
    (h : ∀ h0 : H0, (∀ p ∈ ν, p.1 < h0.size) → ν.ks.Nodup → WC P (XMany N h0 D ν.ks) (bodyPost P fn (PostMany (XMany N h0 D ν.ks) ν.ks post)) c (slotsOf 0 args) ν [D]) : FnM P f args D ν post := by
  refine ⟨EF.of hf hn hb, fun w hw hν hnd => ?_⟩
  subst hN
  have hsz := Nat.le_of_ble_eq_true hsz
  refine (callsIn_FW (r := none) (n := 0)).1 ((callsIn_of_wp (R := PostMany (XMany fn.ntmps (hd w) D ν.ks) ν.ks post) hf hb trivial (h (hd w) (fun p hp => lt_of_some (hν p hp).1) hnd _ w ⟨?_, fun s v hs => ?_, rfl, D, ⟨Nat.le_refl _, Nat.le_refl _, fun _ _ _ => rfl, fun _ _ => rfl, hw, (fun p hp => ?_), hnd, fun c q hc hq => ?_, fun e he => Option.some.inj he⟩, fun D₁ h1 => ?_, trivial⟩) rfl).mono ?_)
  · simp [XMany]; omega
  · obtain ⟨_, h2⟩ := look_slotsOf args 0 s v hs
    have hl := (List.getElem?_eq_some_iff.1 h2).1
    simp only [Nat.sub_zero] at h2 hl
    show (args.toArray ++ _)[s]? = some v
    rw [Array.getElem?_append_left (by simpa using hl)]
    simpa using h2
  · exact ⟨(hν p hp).1, (hν p hp).2.1, Or.inr (List.mem_map.2 ⟨p, hp, rfl⟩)⟩
  · rcases hc with hc | hc
    · exact absurd (lt_of_some hq) (Nat.not_lt_of_le hc)
    · obtain ⟨p, hp, rfl⟩ := List.mem_map.1 hc
      rw [(hν p hp).1] at hq; cases hq; exact (hν p hp).2.2
  · simp only [List.mem_singleton] at h1; subst h1; exact Le.refl _
  · rintro e w' ⟨v, D', ν', rfl, hk, hs, hp⟩
    exact ⟨v, D', ν', rfl, hk, hs, hp⟩
theorem leaveMany {fn : Func} {ks : List Nat} {A B ν' : Boxes} {post : Data → Value → Boxes → Prop} {e : Exit} (he : (match e with | .normal => true | .ret => true | _ => false) = true) {rs : List ResultVar} {vs : List Value} (hds : X.ds = []) (hr : fn.results = rs.toArray) (h : ResV P X σ (A ++ ν' ++ B) rs vs)
    (hk : ν'.ks = ks) (hp : ∀ D, (∀ D₁ ∈ Ds, Le D₁ D) → post D (resOf vs) ν') : ∀ a w, Hl X σ (A ++ ν' ++ B) Ds a w → bodyPost P fn (PostMany X ks post) e a w := by
  intro a w hh
  have hrun := run_results hh hr h
  obtain ⟨h1, h2, h3, D, h4, h5, h6⟩ := hh
  have hnd := h4.nd
  simp only [List.map_append] at hnd
  have : a.defers = [] ∧ ∃ v, (results fn a.tmps).run P w = .ok v w ∧ PostMany X ks post (.returned v) w := ⟨h3.trans hds, _, hrun, _, D, ν', rfl, hk, h4.sub (fun p hp => List.mem_append_left _ (List.mem_append_right _ hp)) (List.nodup_append.1 (List.nodup_append.1 hnd).1).2.1, hp D h5⟩
  cases e <;> first | exact this | cases he
end Go.Fs
namespace Go.Fs
variable {P : Program} {X : Cx} {γb : Type} [Membership Nat γb] {bad : γb} {all : Array Oper} {K : Act → World → Prop} {Q : Exit → Act → World → Prop}
variable {σ : Slots} {μ : Boxes} {Ds : List Data} {os : List (Bool × Nat)} {fl : Bool} {ix : Nat}
variable {d : Nat} {x y z : Operand} {u v : Value} {ty : TypeId} {pos : String} {aft : Array Edge} {g : Option (Nat × Bool)}
/-- A block of the iterator's own that is shown. -/
def Shown (β : List Nat) (D : Data) (w : World) (bo : Nat) (cs : List Value) : Prop := bo ∈ β ∧ D bo = [] ∧ ∃ e fz, w.heap[bo]? = some (.cells cs.toArray e fz)
def shown (D : Data) (bo : Nat) (cs : List Value) : Data := fun c => if c = bo then cs else D c
theorem shown_le {D : Data} {bo : Nat} {cs : List Value} (h : D bo = []) : Le D (shown D bo cs) := fun c => by
  unfold shown; split
  · rename_i e; subst e; rw [h]; exact List.nil_prefix
  · exact List.prefix_refl _
theorem shown_at (D : Data) (bo : Nat) (cs : List Value) : At (shown D bo cs) bo 0 cs := fun j v hj => by unfold shown; simpa using hj
theorem shown_agr {D : Data} {w : World} {bo : Nat} {cs : List Value} {e : TypeId} {fz : Nat × Nat} (h : Agrees D w) (hb : w.heap[bo]? = some (.cells cs.toArray e fz)) : Agrees (shown D bo cs) w := fun c hc => by
  unfold shown at hc ⊢
  split
  · rename_i ec; subst ec; exact ⟨_, _, _, hb, List.prefix_refl _⟩
  · rename_i ec; rw [if_neg ec] at hc; exact h c hc
/-- Behind a round: what was shown is the iterator's own again. -/
theorem Sta.hide {w w' : World} {D D' : Data} {mods : List Nat} {μ : Boxes} {bo : Nat} {cs : List Value} (h : Sta (hd w) w.heap.size (shown D bo cs) mods μ D' w') (hD : D bo = []) : Sta (hd w) w.heap.size D mods μ (shown D' bo []) w' := by
  refine ⟨h.hlo, h.size, h.old, fun b hb => ?_, fun b hb => ?_, fun p hp => ?_, h.nd, h.fz, h.env⟩
  · unfold shown
    split
    · rename_i e; subst e; exact hD.symm
    · rename_i e; rw [h.dold b hb]; unfold shown; rw [if_neg e]
  · unfold shown at hb ⊢
    split
    · rename_i e; rw [if_pos e] at hb; exact absurd rfl hb
    · rename_i e; rw [if_neg e] at hb; exact h.agr b hb
  · obtain ⟨h1, h2, h3⟩ := h.box p hp
    refine ⟨h1, ?_, h3⟩
    unfold shown; split
    · rfl
    · exact h2
/-- What a function is worth that is ranged over, and hands over the same list again and again. -/
def IterS {α : Type} (P : Program) (f : FuncId) (cap : List Value) (Dr : Data) (xs : List α) (enc : Nat → List Value) (cells : α → List Value) : Prop :=
  EF P f ∧ ∀ (lo l : Nat) (J Jx : List α → Inv), (∀ pre, Stb lo (J pre)) → (∀ pre, Stb lo (Jx pre)) →
    (∀ pre x β D w bo, (∃ r, xs = pre ++ x :: r) → Dom lo D w → J pre β D w → (∀ b ∈ β, b < w.heap.size) → Le Dr D → Shown β D w bo (cells x) →
      YieldRuns P l (enc bo) w fun b D' w' => Dom lo D' w' ∧ High β D w D' w' ∧ (if b then J (pre ++ [x]) β D' w' else Jx (pre ++ [x]) β D' w')) →
    ∀ D w, Dom lo D w → Le Dr D → J [] [] D w → Calls P f (.func (.yield l) #[] #[] :: cap).toArray w fun e w' => ∃ v D', e = .returned v ∧ Dom lo D' w' ∧ (J xs [] D' w' ∨ ∃ pre, Jx pre [] D' w')
/-- **A call of yield** in an iterator that shows one of its own blocks. -/
theorem L.yieldS {J J1 J0 : Inv} {l : Nat} {c : Operand} {xs : Array Operand} {ats : Array TypeId} {vs : List Value} (ho : all[ix]? = some ⟨some d, .call { callee := .value c, args := xs, argTypes := ats }, ty, pos, aft, g⟩)
    (hc : ev σ c = some (.func (.yield l) #[] #[])) (hxs : evs σ xs.toList = some vs) (hex : X.ex = some J) (hfl : fl = false) (h0 : X.h0 = ⟨#[], none⟩) (hm : X.mods = []) (hs1 : Stb X.lo J1) (hs0 : Stb X.lo J0)
    (hY : ∀ D w, Dom X.lo D w → J (μ.map (·.1)) D w → (∀ p ∈ μ, w.heap[p.1]? = some p.2 ∧ D p.1 = []) → (∀ D₁ ∈ Ds, Le D₁ D) → YieldRuns P l vs w fun b D' w' => Dom X.lo D' w' ∧ High (μ.map (·.1)) D w D' w' ∧ (if b then J1 (μ.map (·.1)) D' w' else J0 (μ.map (·.1)) D' w'))
    (hN : Nat.blt d X.N = true) (hg : Gok all σ g)
    (k1 : WL P (X.withEx J1) bad all K Q os ((d, .bool true) :: σ) μ Ds) (k0 : WL P (X.withEx J0) bad all K Q os ((d, .bool false) :: σ) μ Ds) : WL P X bad all K Q ((fl, ix) :: os) σ μ Ds := by
  refine L.loud ho rfl rfl hg fun a w hh => ?_
  obtain ⟨h1, h2, h3, D, h4, h5, h6⟩ := id hh
  have hJ : J (μ.map (·.1)) D w := by unfold exOk at h6; rw [hex] at h6; exact h6.2
  obtain ⟨fn, tmps, assign, body, hy, hr⟩ := hY D w h4.dom hJ (fun p hp => ⟨(h4.box p hp).1, (h4.box p hp).2.1⟩) h5
  have e : xs.map a.eval = vs.toArray := by rw [← evs_eval (fun _ _ hx => hh.eval hx) hxs, ← Array.toList_map]
  have hrun : (execOp a.eval ⟨some d, .call { callee := .value c, args := xs, argTypes := ats }, ty, pos, aft, g⟩).run P w = .ok (.round l fn tmps assign body) w := by
    simp only [execOp, resolve, hh.eval hc, Deferred.ofValue, pure_bind, invoke, e]
    rw [← hy]; simp
  rw [hrun]
  refine ⟨fun h => by simp [FW] at h, (roundIn_FW hr).mono ?_⟩
  rintro e' w' ⟨b, D', rfl, hd', hh', hb⟩
  have hst : Sta X.h0 X.lo X.D0 X.mods μ D' w' := by
    refine ⟨h4.hlo, hd'.2.1, (fun b hb => by rw [h0] at hb; exact absurd hb (Nat.not_lt_zero _)), (fun b hb => by rw [h0] at hb; exact absurd hb (Nat.not_lt_zero _)), hd'.1, fun p hp => ?_, h4.nd, fun b o hb => hd'.2.2 b o (hb.resolve_right (by rw [hm]; simp)), fun e he => by rw [h0] at he; cases he⟩
    obtain ⟨p1, p2, p3⟩ := h4.box p hp
    obtain ⟨q1, q2⟩ := hh'.2.2 p.1 (List.mem_map.2 ⟨p, hp, rfl⟩)
    exact ⟨q1.trans p1, q2.trans p2, p3⟩
  have hds : ∀ D₁ ∈ Ds, Le D₁ D' := fun D₁ hD₁ => (h5 D₁ hD₁).trans hh'.2.1
  refine ⟨(fun h => by rw [hfl] at h; cases h), ?_⟩
  cases b with
  | true =>
    refine k1 _ _ (Hl.put (X := X.withEx J1) ⟨h1, h2, h3, D', hst, hds, ⟨hs1, hb⟩⟩ hN _)
  | false =>
    refine k0 _ _ (Hl.put (X := X.withEx J0) ⟨h1, h2, h3, D', hst, hds, ⟨hs0, hb⟩⟩ hN _)
theorem L.yieldSB {J J1 J0 : Inv} {l N lo : Nat} {c : Operand} {xs : Array Operand} {ats : Array TypeId} {vs : List Value} (ho : all[ix]? = some ⟨some d, .call { callee := .value c, args := xs, argTypes := ats }, ty, pos, aft, g⟩)
    (hc : ev σ c = some (.func (.yield l) #[] #[])) (hxs : evs σ xs.toList = some vs) (hfl : fl = false) (hs1 : Stb lo J1) (hs0 : Stb lo J0)
    (hY : ∀ D w, Dom lo D w → J (μ.map (·.1)) D w → (∀ p ∈ μ, w.heap[p.1]? = some p.2 ∧ D p.1 = []) → (∀ D₁ ∈ Ds, Le D₁ D) → YieldRuns P l vs w fun b D' w' => Dom lo D' w' ∧ High (μ.map (·.1)) D w D' w' ∧ (if b then J1 (μ.map (·.1)) D' w' else J0 (μ.map (·.1)) D' w'))
    (hN : Nat.blt d N = true) (hg : Gok all σ g)
    (kk : ∀ b J', J' = (if b = true then J1 else J0) → WL P (Xj N lo J') bad all K Q os ((d, .bool b) :: σ) μ Ds) : WL P (Xj N lo J) bad all K Q ((fl, ix) :: os) σ μ Ds :=
  L.yieldS (X := Xj N lo J) ho hc hxs rfl hfl rfl rfl hs1 hs0 hY hN hg (kk true J1 rfl) (kk false J0 rfl)
/-- What the loop's owner knows between two rounds, if some of its blocks are its caller's. -/
def OwnM {γ : Type} (h0 : H0) (lo : Nat) (D0 : Data) (mods : List Nat) (Ds : List Data) (Φ : γ → Prop) (Mx : γ → Boxes) : Inv := fun β D w =>
  ∃ g, Φ g ∧ Sta h0 lo D0 mods (Mx g) D w ∧ (∀ D₁ ∈ Ds, Le D₁ D) ∧ (∀ b ∈ β, h0.size ≤ b ∧ ∀ D₁ ∈ Ds, D₁ b = []) ∧ (∀ p ∈ Mx g, p.1 ∉ β) ∧ ∀ k ∈ mods, k ∈ (Mx g).ks
theorem own_stbM {γ : Type} {h0 : H0} {lo : Nat} {D0 : Data} {mods : List Nat} {Ds : List Data} {Φ : γ → Prop} {Mx : γ → Boxes} : Stb lo (OwnM h0 lo D0 mods Ds Φ Mx) := by
  constructor
  · rintro β D w D' w' ⟨g, hg, hs, hD, hβ, hM, hmk⟩ ⟨hl1, hl2, hl3⟩ hd
    have box' : ∀ p ∈ Mx g, w'.heap[p.1]? = w.heap[p.1]? ∧ D' p.1 = D p.1 := fun p hp => hl2 p.1 (lt_of_some (hs.box p hp).1) (hM p hp)
    refine ⟨g, hg, ⟨hs.hlo, hd.2.1, fun b hb hm => ?_, fun b hb => ?_, hd.1, fun p hp => ?_, hs.nd, fun b o hb ho => ?_, fun e he => hl3.trans (hs.env e he)⟩, fun D₁ hD₁ b => ?_, hβ, hM, hmk⟩
    · have hlt : b < w.heap.size := by have := hs.hlo; have := hs.size; omega
      have hn : b ∉ β := fun h => by have := (hβ b h).1; omega
      rw [(hl2 b hlt hn).1]; exact hs.old b hb hm
    · have hlt : b < w.heap.size := by have := hs.hlo; have := hs.size; omega
      have hn : b ∉ β := fun h => by have := (hβ b h).1; omega
      rw [(hl2 b hlt hn).2]; exact hs.dold b hb
    · obtain ⟨p1, p2, p3⟩ := hs.box p hp
      obtain ⟨q1, q2⟩ := box' p hp
      exact ⟨q1.trans p1, q2.trans p2, p3⟩
    · rcases hb with hb | hb
      · exact hd.2.2 b o hb ho
      · obtain ⟨p, hp, rfl⟩ := List.mem_map.1 (hmk b hb)
        rw [(box' p hp).1] at ho
        exact hs.fz _ o (Or.inr hb) ho
    · by_cases hb : b ∈ β
      · rw [(hβ b hb).2 D₁ hD₁]; exact List.nil_prefix
      · by_cases hlt : b < w.heap.size
        · rw [(hl2 b hlt hb).2]; exact hD D₁ hD₁ b
        · have := hD D₁ hD₁ b
          rw [hs.agr.fresh (Nat.le_of_not_lt hlt)] at this
          rw [List.prefix_nil.1 this]; exact List.nil_prefix
  · rintro β β' D w ⟨g, hg, hs, hD, hβ, hM, hmk⟩ hb'
    refine ⟨g, hg, hs, hD, fun b hb => ?_, fun p hp hb => ?_, hmk⟩
    · rcases hb' b hb with h | h
      · exact hβ b h
      · refine ⟨by have := hs.hlo; have := hs.size; omega, fun D₁ hD₁ => ?_⟩
        have := hD D₁ hD₁ b
        rw [hs.agr.fresh h] at this
        exact List.prefix_nil.1 this
    · rcases hb' _ hb with h | h
      · exact hM p hp h
      · have := lt_of_some (hs.box p hp).1; omega
theorem Sta.roundM {h0 : H0} {lo : Nat} {D0 D D' : Data} {mods : List Nat} {μ μ' : Boxes} {w w' : World} (h : Sta h0 lo D0 mods μ D w) (hmk : ∀ k ∈ mods, k ∈ μ.ks) (hs : Sta (hd w) w.heap.size D (μ.map (·.1)) μ' D' w') : Sta h0 lo D0 mods μ' D' w' := by
  have hle := Nat.le_trans h.hlo h.size
  have hkey : ∀ b ∈ μ.map (·.1), lo ≤ b ∨ b ∈ mods := by
    intro b hb
    obtain ⟨p, hp, rfl⟩ := List.mem_map.1 hb
    exact (h.box p hp).2.2
  refine ⟨h.hlo, Nat.le_trans h.size hs.size, fun b hb hm => ?_, fun b hb => ?_, hs.agr, fun p hp => ?_, hs.nd, fun b o hb ho => ?_, fun e he => (hs.env _ rfl).trans (h.env e he)⟩
  · rw [hs.old b (Nat.lt_of_lt_of_le hb hle) (fun hk => by
      rcases hkey b hk with h1 | h1
      · have := h.hlo; omega
      · exact hm h1)]
    exact h.old b hb hm
  · rw [hs.dold b (Nat.lt_of_lt_of_le hb hle)]; exact h.dold b hb
  · obtain ⟨p1, p2, p3⟩ := hs.box p hp
    refine ⟨p1, p2, ?_⟩
    rcases p3 with p3 | p3
    · exact Or.inl (by have := h.size; omega)
    · exact hkey _ p3
  · by_cases hk : b ∈ μ.map (·.1)
    · exact hs.fz b o (Or.inr hk) ho
    · have hb := hb.resolve_right fun h' => hk (hmk b h')
      rcases Nat.lt_or_ge b w.heap.size with hl | hl
      · rw [hs.old b hl hk] at ho; exact h.fz b o (Or.inl hb) ho
      · exact hs.fz b o (Or.inl hl) ho
/-- **THE STATEMENT 'for .. := range g { .. }'**, outermost in its function, of such an iterator. -/
theorem C.rangeFuncS {α γ : Type} {xs : List α} {enc : Nat → List Value} {cells : α → List Value} {Dr : Data} {f : FuncId} {cap : List Value} {gop : Operand} {ps : Array Tmp} {assign body : Code}
    (Φ : List α → γ → Prop) (Ψ : List α → Code → γ → Prop) (M : γ → Boxes) (g₀ : γ) (hr : X.r = none) (hex : X.ex = none) (hmods : ∀ g, ∀ k ∈ X.mods, k ∈ (M g).ks)
    (hg : ev σ gop = some (.func (.func f) #[] cap.toArray)) (hit : IterS P f cap Dr xs enc cells) (hDr : Dr ∈ Ds) (hps : ∀ b, (enc b).length = ps.size) (hpN : (ps.toList.all fun p => Nat.blt p X.N) = true) (h₀ : Φ [] g₀) (hμ : M g₀ = μ)
    (hround : ∀ pre x g, (∃ r, xs = pre ++ x :: r) → Φ pre g → ∀ (l bd bo : Nat) (rec : Loop) (h0 : H0) (D : Data), (∀ D₁ ∈ Ds, Le D₁ D) → At D bo 0 (cells x) → rec.state = .ready → rec.pending = none →
      WC P (Xr l X.N h0 D ((M g ++ (l, Obj.loop rec) :: [(bd, Obj.deferred (some []))]).map (·.1)))
        (Exit.then (fun a₁ w₁ => ∃ w₂, (Instr.beginRound l).run P w₁ = .ok () w₂ ∧ body.wpIn ((FW none).inRound l) 0 P (roundPost P l (RoundR h0 D ((M g ++ (l, Obj.loop rec) :: [(bd, Obj.deferred (some []))]).map (·.1)) (Φ (pre ++ [x])) (Ψ (pre ++ [x]))
          (fun g => M g ++ (l, Obj.loop { rec with state := .ready, pending := none }) :: [(bd, Obj.deferred (some []))]) (fun c g => M g ++ (l, Obj.loop { rec with state := .done, pending := some c }) :: [(bd, Obj.deferred (some []))]))) a₁ w₂) (fun _ _ _ => False))
        assign (parSlots ps.toList (enc bo) σ) (M g ++ (l, Obj.loop rec) :: [(bd, Obj.deferred (some []))]) (D :: Ds))
    (hdone : ∀ g bd, Φ xs g → ∀ a w, Hl (X.withDs bd) σ (M g ++ [(bd, Obj.deferred (some []))]) Ds a w → Q .normal a w)
    (hstop : ∀ pre c g bd, Ψ pre c g → WC P (X.withDs bd) Q c σ (M g ++ [(bd, Obj.deferred (some []))]) Ds) : WC P X Q (.rangeFunc gop ps assign body) σ μ Ds := by
  intro a w hh
  subst hμ
  have hev := hh.eval hg
  obtain ⟨h1, h2, h3, D, h4, h5, h6⟩ := hh
  refine wpIn_rangeFunc fun fn _ => ?_
  have hround' : (FW X.r).round = none := hr
  rw [hround']
  have hmk : ∀ g (B : Boxes), ∀ k ∈ X.mods, k ∈ (M g ++ B).ks := fun g B k hk => by
    show k ∈ (M g ++ B).map _
    rw [List.map_append]; exact List.mem_append_left _ (hmods g k hk)
  let bd := w.heap.size
  let l := w.heap.size + 1
  let rec0 : Loop := { state := .ready, pending := none, fn, tmps := a.tmps, params := ps, assign, body, defers := bd }
  let w1 : World := { w with heap := w.heap.push (.deferred (some [])) }
  let w2 : World := { w1 with heap := w1.heap.push (.loop rec0) }
  have hs1 : Sta X.h0 X.lo X.D0 X.mods ((bd, Obj.deferred (some [])) :: M g₀) D w1 := h4.push (.deferred (some [])) trivial
  have hs2 : Sta X.h0 X.lo X.D0 X.mods ((l, Obj.loop rec0) :: (bd, Obj.deferred (some [])) :: M g₀) D w2 := by
    have := hs1.push (.loop rec0) trivial
    have e : w1.heap.size = l := by simp [w1, l]
    rw [e] at this; exact this
  have hperm : Sta X.h0 X.lo X.D0 X.mods (M g₀ ++ (l, Obj.loop rec0) :: [(bd, Obj.deferred (some []))]) D w2 := by
    refine hs2.sub (fun p hp => ?_) ?_
    · simp only [List.mem_append, List.mem_cons, List.not_mem_nil, or_false] at hp ⊢
      rcases hp with hp | hp | hp
      · exact Or.inr (Or.inr hp)
      · exact Or.inl hp
      · exact Or.inr (Or.inl hp)
    · have hn := hs2.nd
      simp only [List.map_cons, List.nodup_cons, List.mem_cons, not_or] at hn
      simp only [List.map_append, List.map_cons, List.map_nil, List.nodup_append, List.nodup_cons, List.mem_cons, List.not_mem_nil, or_false, not_false_eq_true, List.nodup_nil, and_true]
      refine ⟨hn.2.2, hn.1.1, fun q hq r hr' => ?_⟩
      rcases hr' with rfl | rfl
      · rintro rfl; exact hn.1.2 hq
      · rintro rfl; exact hn.2.1 hq
  -- the call
  refine ⟨l, [markOf bd], w2, { target := .fn (.func f) cap.toArray, args := #[.func (.yield l) #[] #[]] }, w2, f, (.func (.yield l) #[] #[] :: cap).toArray, w2, run_enterLoop_outer fn a.tmps ps assign body, ?_, fun _ _ => trivial, ?_, fun h => by simp [FW] at h, ?_⟩
  · simp only [resolve, Deferred.ofValue]
    have e : Array.map a.eval #[Operand.const (Value.func (Fn.yield l) #[] #[])] = #[.func (.yield l) #[] #[]] := by simp [Act.eval]
    rw [e, hev]; rfl
  · simp only [invoke]
    rw [hit.1]; simp
  · refine callsIn_FW.2 ((hit.2 X.lo l
      (fun pre => OwnM X.h0 X.lo X.D0 X.mods Ds (Φ pre) fun g => M g ++ (l, Obj.loop rec0) :: [(bd, Obj.deferred (some []))])
      (fun pre => OwnM X.h0 X.lo X.D0 X.mods Ds (fun cg : Code × γ => Ψ pre cg.1 cg.2) fun cg => M cg.2 ++ (l, Obj.loop { rec0 with state := .done, pending := some cg.1 }) :: [(bd, Obj.deferred (some []))])
      (fun _ => own_stbM) (fun _ => own_stbM) ?_ D w2 hs2.dom (h5 Dr hDr) ⟨g₀, h₀, hperm, h5, (fun _ h => by cases h), (fun _ _ h => by cases h), hmk g₀ _⟩).mono ?_)
    · rintro pre x β Dx wx bo hx hdx ⟨g, hΦ, hst, hDs, hβ, hM, hmg⟩ hβs hle ⟨hbo, hbD, be, bfz, hbw⟩
      have hbox := (hst.box (l, Obj.loop rec0) (by simp)).1
      refine ⟨fn, _, assign, body, run_yield hbox (by simpa using hps bo), ?_⟩
      refine (roundIn_of_wpIn (F := FW none) trivial (R := RoundR (hd wx) (shown Dx bo (cells x)) ((M g ++ (l, Obj.loop rec0) :: [(bd, Obj.deferred (some []))]).map (·.1)) (Φ (pre ++ [x])) (Ψ (pre ++ [x]))
          (fun g => M g ++ (l, Obj.loop { rec0 with state := .ready, pending := none }) :: [(bd, Obj.deferred (some []))]) (fun c g => M g ++ (l, Obj.loop { rec0 with state := .done, pending := some c }) :: [(bd, Obj.deferred (some []))])) ?_).mono ?_
      · have hw := hround pre x g hx hΦ l bd bo rec0 (hd wx) (shown Dx bo (cells x)) (fun D₁ h => (hDs D₁ h).trans (shown_le hbD)) (shown_at _ _ _) rfl rfl
        have ht : (ps.zip (enc bo).toArray).foldl (fun tmps (t, a) => tmps.setIfInBounds t a) a.tmps = (ps.toList.zip (enc bo)).foldl (fun tmps (p : Tmp × Value) => tmps.setIfInBounds p.1 p.2) a.tmps := by
          rw [← Array.foldl_toList]; simp
        have hpN' : ∀ p ∈ ps.toList, p < a.tmps.size := fun p hp => by rw [h1]; simpa [Nat.blt_eq] using List.all_eq_true.1 hpN p hp
        refine hw { tmps := _, defers := [] } wx ⟨?_, fun s v hs => ?_, rfl, shown Dx bo (cells x), ⟨Nat.le_refl _, Nat.le_refl _, fun _ _ _ => rfl, fun _ _ => rfl, shown_agr hst.agr hbw, fun p hp => ?_, hst.nd, fun b o hb ho => ?_, fun e he => Option.some.inj he⟩, fun D₁ hD₁ => ?_, trivial⟩
        · show ((ps.zip (enc bo).toArray).foldl _ a.tmps).size = X.N
          rw [ht, size_par]; exact h1
        · show ((ps.zip (enc bo).toArray).foldl _ a.tmps)[s]? = some v
          rw [ht]; exact look_par _ _ _ _ h2 hpN' s v hs
        · obtain ⟨p1, p2, p3⟩ := hst.box p hp
          exact ⟨p1, by unfold shown; rw [if_neg (fun e => hM p hp (by rw [e]; exact hbo))]; exact p2, Or.inr (List.mem_map.2 ⟨p, hp, rfl⟩)⟩
        · rcases hb with hb | hb
          · exact absurd (lt_of_some ho) (Nat.not_lt_of_le hb)
          · obtain ⟨p, hp, rfl⟩ := List.mem_map.1 hb
            exact hst.fz _ o (hst.box p hp).2.2 ho
        · rcases List.mem_cons.1 hD₁ with rfl | hD₁
          · exact Le.refl _
          · exact (hDs D₁ hD₁).trans (shown_le hbD)
      · rintro e w' ⟨b, D', rfl, hb⟩
        have fin : ∀ μ', Sta (hd wx) wx.heap.size (shown Dx bo (cells x)) ((M g ++ (l, Obj.loop rec0) :: [(bd, Obj.deferred (some []))]).map (·.1)) μ' D' w' → Sta X.h0 X.lo X.D0 X.mods μ' (shown D' bo []) w' ∧ High β Dx wx (shown D' bo []) w' ∧ (∀ D₁ ∈ Ds, Le D₁ (shown D' bo [])) ∧ (∀ p ∈ μ', p.1 ∉ β) := by
          intro μ' hs0
          have hs' := hs0.hide hbD
          refine ⟨hst.roundM hmg hs', Sta.roundHigh hst.agr hs' hβs hM, fun D₁ hD₁ => (hDs D₁ hD₁).trans (le_of_call hst.agr hs'), fun p hp hpb => ?_⟩
          rcases (hs'.box p hp).2.2 with h | h
          · have := hβs _ hpb; omega
          · obtain ⟨q, hq, he⟩ := List.mem_map.1 h
            exact hM q hq (by rw [he]; exact hpb)
        refine ⟨b, shown D' bo [], rfl, ?_⟩
        cases b with
        | true =>
          obtain ⟨g', hg', hs'⟩ := hb
          obtain ⟨f1, f2, f3, f4⟩ := fin _ hs'
          exact ⟨f1.dom, f2, g', hg', f1, f3, hβ, f4, hmk g' _⟩
        | false =>
          obtain ⟨c', g', hg', hs'⟩ := hb
          obtain ⟨f1, f2, f3, f4⟩ := fin _ hs'
          exact ⟨f1.dom, f2, (c', g'), hg', f1, f3, hβ, f4, hmk g' _⟩
    · rintro e w' ⟨v, D', rfl, hd, hend⟩
      have post : ∀ (g : γ) (r : Loop), Sta X.h0 X.lo X.D0 X.mods (M g ++ (l, Obj.loop r) :: [(bd, Obj.deferred (some []))]) D' w' → (∀ D₁ ∈ Ds, Le D₁ D') →
          Hl (X.withDs bd) σ (M g ++ [(bd, Obj.deferred (some []))]) Ds { a with defers := [markOf bd] ++ a.defers } (w'.putObj l (.loop { r with state := .exhausted })) := by
        intro g r hs hD'
        have hHas : Has (M g ++ (l, Obj.loop r) :: [(bd, Obj.deferred (some []))]) l (.loop r) (.loop { r with state := .exhausted }) (M g ++ (l, Obj.loop { r with state := .exhausted }) :: [(bd, Obj.deferred (some []))]) := .app .head
        have hs' := hs.set (w' := w'.putObj l (.loop { r with state := .exhausted })) hHas ⟨rfl, rfl⟩ trivial
        have hs'' := hs'.sub (μ' := M g ++ [(bd, Obj.deferred (some []))]) (fun p hp => by
          rcases List.mem_append.1 hp with hp | hp
          · exact List.mem_append_left _ hp
          · exact List.mem_append_right _ (List.mem_cons_of_mem _ hp)) (by
          have hn := hs'.nd
          rw [List.map_append, List.nodup_append] at hn ⊢
          simp only [List.map_cons] at hn
          exact ⟨hn.1, (List.nodup_cons.1 hn.2.1).2, fun q hq r hr => hn.2.2 q hq r (List.mem_cons_of_mem _ hr)⟩)
        exact ⟨h1, h2, congrArg (markOf bd :: ·) h3, D', hs'', hD', by unfold exOk; show (match X.ex with | none => True | some J => _); rw [hex]; trivial⟩
      rcases hend with ⟨g, hΦ, hs, hDs, _, _, _⟩ | ⟨pre, ⟨c, g⟩, hΨ, hs, hDs, _, _, _⟩
      · have hb := (hs.box (l, Obj.loop rec0) (by simp)).1
        exact ⟨none, _, run_endLoop hb (by simp [rec0]), hdone g bd hΦ _ _ (post g rec0 hs hDs)⟩
      · have hb := (hs.box (l, Obj.loop { rec0 with state := .done, pending := some c }) (by simp)).1
        refine ⟨some c, _, run_endLoop hb (by simp), ?_⟩
        have := hstop pre c g bd hΨ _ _ (post g _ hs hDs)
        exact this
/-! ### Entering such an iterator -/
theorem enterIterS {α : Type} {f : FuncId} {fn : Func} {c : Code} {cap : List Value} {Dr : Data} {xs : List α} {enc : Nat → List Value} {cells : α → List Value} (N : Nat) (hf : P.funcs[f]? = some fn) (hn : (fn.name == "runtime.NumGoroutine") = false) (hb : fn.body = some c) (hN : fn.ntmps = N) (hsz : Nat.ble (cap.length + 1) N = true)
    (h : ∀ (lo l : Nat) (J Jx : List α → Inv), (∀ pre, Stb lo (J pre)) → (∀ pre, Stb lo (Jx pre)) →
      (∀ pre x β D w bo, (∃ r, xs = pre ++ x :: r) → Dom lo D w → J pre β D w → (∀ b ∈ β, b < w.heap.size) → Le Dr D → Shown β D w bo (cells x) →
        YieldRuns P l (enc bo) w fun b D' w' => Dom lo D' w' ∧ High β D w D' w' ∧ (if b then J (pre ++ [x]) β D' w' else Jx (pre ++ [x]) β D' w')) →
      WC P (Xj N lo (J [])) (bodyPost P fn (PostJ lo [Dr] fun _ J' _ => J' = J xs ∨ ∃ pre, J' = Jx pre)) c (slotsOf 0 (.func (.yield l) #[] #[] :: cap)) [] [Dr]) : IterS P f cap Dr xs enc cells := by
  refine ⟨EF.of hf hn hb, fun lo l J Jx hs hsx hY D w hd hle hJ => ?_⟩
  have hF := enterJ (μ := []) N hf hn hb hN (by simpa using hsz) (h lo l J Jx hs hsx hY)
  refine (hF.2 w ⟨D, ⟨Nat.zero_le _, hd.2.1, fun b hb => absurd hb (Nat.not_lt_zero _), fun b hb => absurd hb (Nat.not_lt_zero _), hd.1, (fun p hp => by cases hp), List.nodup_nil, fun b o hb ho => hd.2.2 b o (hb.resolve_right (by simp)) ho, fun e he => by cases he⟩, fun D₁ h1 => ?_, hs [], hJ⟩).mono ?_
  · simp only [List.mem_singleton] at h1; subst h1; exact hle
  · rintro e w' ⟨v, J', μ', rfl, ⟨D', hst, hds, hex⟩, hpost⟩
    refine ⟨v, D', rfl, hst.dom, ?_⟩
    have hJ' : J' [] D' w' := hex.1.own _ [] D' w' hex.2 (fun b hb => by cases hb)
    rcases hpost with rfl | ⟨pre, rfl⟩
    · exact Or.inl hJ'
    · exact Or.inr ⟨pre, hJ'⟩
/-- 'make' of a slice of so many zeros, the frame's own. -/
theorem L.makeSliceO {t e : TypeId} {sz n : Nat} {z0 : Value} {zs cs : List Value} {k k' : IntKind} (ho : all[ix]? = some ⟨some d, .makeSlice t x y, ty, pos, aft, g⟩) (ht : P.underlying t = some (.slice e)) (hs : TS P e sz) (hz : TZ P e z0) (hzc : z0.cells = zs.toArray) (hi : (P.info? e).map (fun i => Nat.ble 1 i.bytes && Nat.ble i.bytes 4096) = some true)
    (hx : ev σ x = some (.int k n)) (hy : ev σ y = some (.int k' n)) (hn : n ≤ 10000) (hcs : ((Array.range (n * sz)).map (zs.toArray[· % zs.toArray.size]!)).toList = cs) (hN : Nat.blt d X.N = true) (hg : Gok all σ g)
    (kk : ∀ b, WL P X bad all K Q os ((d, .slice (some ⟨b, 0, none⟩) n n) :: σ) ((b, .cells cs.toArray e (0, 0)) :: μ) Ds) : WL P X bad all K Q ((fl, ix) :: os) σ μ Ds := by
  refine L.loud ho rfl rfl hg fun a w hh => ?_
  obtain ⟨h1, h2, h3, D, h4, h5, h6⟩ := id hh
  have hn' := hn
  obtain ⟨i0, hi0, hb⟩ := Option.map_eq_some_iff.1 hi
  simp only [Bool.and_eq_true] at hb
  have hb1 := Nat.le_of_ble_eq_true hb.1
  have hb2 := Nat.le_of_ble_eq_true hb.2
  have hti : ∀ w, (typeInfo e).run P w = .ok i0 w := fun w => by simp [typeInfo, program, Sem.run, hi0, go_sem]
  have hw : IntKind.i64.wrap (n : Int) = n := wrap_in (by simp only [inK]; omega)
  have hbn : i0.bytes * n ≤ 4096 * 10000 := Nat.mul_le_mul hb2 hn'
  have hlarge : (((n : Int) < 0) || decide ((i0.bytes : Int) * n > 2 ^ 48)) = false := by
    have : ((i0.bytes * n : Nat) : Int) ≤ 40960000 := by omega
    rw [Int.natCast_mul] at this
    simp only [Bool.or_eq_false_iff, decide_eq_false_iff_not]
    constructor
    · omega
    · omega
  have hzz : ∀ w, (zeroValue e).run P w = .ok z0 w := hz
  have hrun : (execOp a.eval ⟨some d, .makeSlice t x y, ty, pos, aft, g⟩).run P w = .ok (.value (.slice (some ⟨w.heap.size, 0, none⟩) n n)) { w with heap := w.heap.push (.cells cs.toArray e (0, 0)) } := by
    have hcs' : (Array.range (n * sz)).map (zs.toArray[· % zs.toArray.size]!) = cs.toArray := by rw [← hcs]
    have hai : ∀ (k : IntKind) (m : Int) (w : World), (asInt (.int k m)).run P w = .ok m w := fun _ _ _ => rfl
    simp only [execOp, Instr.makeSlice, hh.eval hx, hh.eval hy, hai, Sem.run_bind, TU.of ht w, Result.andThen_ok, Sem.run_pure, hti, hw, pure_bind]
    rw [if_neg (by simp only [Bool.or_eq_true, decide_eq_true_eq, not_or]; exact ⟨⟨by simpa using hlarge, by omega⟩, by omega⟩)]
    simp only [Sem.run_bind, run_askRoom, Result.andThen_ok, hs w, Int.toNat_natCast]
    by_cases hnz : n * sz = 0
    · rw [if_pos hnz]
      have h00 : ∀ f : Nat → Value, (Array.range 0).map f = #[] := fun f => by simp
      have hc0 : cs.toArray = #[] := by rw [← hcs', hnz]; exact h00 _
      simp only [Sem.run_pure, Sem.run_bind, hc0]
      rw [hnz]
      simp only [h00, run_newRow, Result.andThen_ok]
    · rw [if_neg hnz]
      simp only [Sem.run_bind, hzz, Result.andThen_ok, Sem.run_pure, hzc, hcs', run_newRow]
  rw [hrun]
  have hs' := h4.push (.cells cs.toArray e (0, 0)) rfl
  refine ⟨fun _ => keep_push _ _ _, kk w.heap.size _ _ (Hl.put ⟨h1, h2, h3, D, hs', h5, h6.step (fun _ p hp => ?_) (fun _ => ⟨by simp, fun b hb _ => ⟨heap_push_lt hb, rfl⟩, rfl⟩) hs'.dom⟩ hN _)⟩
  rcases List.mem_cons.1 hp with rfl | hp
  · exact Or.inr (Nat.le_refl _)
  · exact Or.inl (List.mem_map.2 ⟨p, hp, rfl⟩)
theorem zero_cells {n sz : Nat} {zs : List Value} (h : ∀ u ∈ zs, u = .int .i64 0) (hl : zs.length = sz) : ((Array.range (n * sz)).map (zs.toArray[· % zs.toArray.size]!)).toList = ints (List.replicate (n * sz) 0) := by
  apply List.ext_getElem?
  intro i
  simp only [Array.toList_map, Array.toList_range, List.getElem?_map, ints, List.map_replicate, List.getElem?_replicate]
  by_cases hi : i < n * sz
  · rw [List.getElem?_range hi, if_pos hi]
    have hpos : 0 < sz := by
      rcases Nat.eq_zero_or_pos sz with h0 | h0
      · subst h0; simp at hi
      · exact h0
    have hm : i % zs.toArray.size < zs.length := by simp only [List.size_toArray, hl]; exact Nat.mod_lt _ hpos
    simp only [Option.map_some]
    congr 1
    rw [getElem!_pos _ _ (by simpa using hm)]
    exact h _ (by simp)
  · rw [List.getElem?_eq_none (by simpa using hi), if_neg hi]; rfl
/-! ### A slice becomes data, where some blocks are the caller's -/
theorem Hl.freezeM {A B ν : Boxes} {e sz n : Nat} {cells : List Value} {a : Act} {w : World} (hacc : Acc e sz v n cells ν) (hmods : ∀ k ∈ X.mods, k ∈ (A ++ B).ks) (hh : Hl X σ (A ++ ν ++ B) Ds a w) :
    ∃ D', (∀ D₁ ∈ Ds, Le D₁ D') ∧ Froz D' v n cells ∧ Hl X σ (A ++ B) (D' :: Ds) a w := by
  obtain ⟨h1, h2, h3, D, h4, h5, h6⟩ := hh
  rcases hacc with ⟨old, hv, hn, hc, hν⟩ | ⟨b, cap, junk, hv, hncap, hν, hl1, hl2⟩
  · subst hν
    refine ⟨D, h5, Or.inl ⟨old, hv, hn, hc⟩, h1, h2, h3, D, by simpa using h4, fun D₁ hD₁ => ?_, by simpa using h6⟩
    rcases List.mem_cons.1 hD₁ with rfl | hD₁
    · exact Le.refl _
    · exact h5 D₁ hD₁
  · subst hν
    have hb := (h4.box (b, .cells (cells ++ junk).toArray e (0, 0)) (by simp)).2.2
    have hnb : b ∉ (A ++ B).ks := fun hm => by
      have hnd := h4.nd
      simp only [List.map_append, List.map_cons, List.map_nil, List.append_assoc, List.singleton_append] at hnd
      have := List.nodup_append.1 hnd
      have h2' := List.nodup_cons.1 this.2.1
      simp only [Boxes.ks, List.map_append, List.mem_append] at hm
      rcases hm with hm | hm
      · exact this.2.2 b hm b List.mem_cons_self rfl
      · exact h2'.1 hm
    have hb' := hb.resolve_right (fun h => hnb (hmods b h))
    obtain ⟨D', hle, hD', hDo, hs⟩ := h4.freeze hb'
    refine ⟨D', fun D₁ hD₁ => (h5 D₁ hD₁).trans hle, Or.inr ⟨b, cap, hv, hncap, fun j u hj => by rw [hD', Nat.zero_add]; exact hj⟩, h1, h2, h3, D', hs, fun D₁ hD₁ => ?_, h6.step (fun _ p hp => Or.inl (List.mem_map.2 ⟨p, by rcases List.mem_append.1 hp with hp | hp; exact List.mem_append_left _ (List.mem_append_left _ hp); exact List.mem_append_right _ hp, rfl⟩)) (fun _ => ⟨Nat.le_refl _, fun c _ hn => ⟨rfl, hDo c (by rintro rfl; exact hn (by simp))⟩, rfl⟩) hs.dom⟩
    rcases List.mem_cons.1 hD₁ with rfl | hD₁
    · exact Le.refl _
    · exact (h5 D₁ hD₁).trans hle
theorem L.freezeM {A B ν : Boxes} {e sz n : Nat} {cells : List Value} (hacc : Acc e sz v n cells ν) (hmods : ∀ k ∈ X.mods, k ∈ (A ++ B).ks) (kk : ∀ D, (∀ D₁ ∈ Ds, Le D₁ D) → Froz D v n cells → WL P X bad all K Q os σ (A ++ B) (D :: Ds)) : WL P X bad all K Q os σ (A ++ ν ++ B) Ds := by
  intro a w hh
  obtain ⟨D', h1, h2, h3⟩ := hh.freezeM hacc hmods
  exact kk D' h1 h2 a w h3
theorem Q.freezeM {T : Act → World → Prop} {A B ν : Boxes} {e sz n : Nat} {cells : List Value} (hacc : Acc e sz v n cells ν) (hmods : ∀ k ∈ X.mods, k ∈ (A ++ B).ks) (kk : ∀ D, (∀ D₁ ∈ Ds, Le D₁ D) → Froz D v n cells → ∀ a w, Hl X σ (A ++ B) (D :: Ds) a w → T a w) : ∀ a w, Hl X σ (A ++ ν ++ B) Ds a w → T a w := by
  intro a w hh
  obtain ⟨D', h1, h2, h3⟩ := hh.freezeM hacc hmods
  exact kk D' h1 h2 a w h3
/-- A block of data is none of the frame's own. -/
theorem Hl.apart {a : Act} {w : World} {D₁ : Data} {b o : Nat} {c : Value} {cs : List Value} (hh : Hl X σ μ Ds a w) (hA : At D₁ b o (c :: cs)) (hD : D₁ ∈ Ds) : b ∉ μ.ks := by
  obtain ⟨h1, h2, h3, D, h4, h5, h6⟩ := hh
  intro hm
  obtain ⟨p, hp, rfl⟩ := List.mem_map.1 hm
  have h0 := (h5 D₁ hD).get (hA 0 c rfl)
  rw [(h4.box p hp).2.1] at h0
  simp at h0
theorem C.apart {c' : Code} {D₁ : Data} {b o : Nat} {c : Value} {cs : List Value} (hA : At D₁ b o (c :: cs)) (hD : D₁ ∈ Ds) (k : b ∉ μ.ks → WC P X Q c' σ μ Ds) : WC P X Q c' σ μ Ds := fun a w hh => k (hh.apart hA hD) a w hh
theorem At.tail {D : Data} {b o : Nat} {c : Value} {cs : List Value} (h : At D b o (c :: cs)) : At D b (o + 1) cs := fun j v hj => by
  have := h (j + 1) v (by simpa using hj)
  rw [show o + 1 + j = o + (j + 1) by omega]; exact this
/-! ### Functions that range over a function, and change blocks of their caller's -/
theorem enterManyM {f : FuncId} {fn : Func} {c : Code} {args : List Value} {D : Data} {ν : Boxes} {post : Data → Value → Boxes → Prop} (N : Nat) (hf : P.funcs[f]? = some fn) (hn : (fn.name == "runtime.NumGoroutine") = false) (hb : fn.body = some c) (hN : fn.ntmps = N) (hsz : Nat.ble args.length N = true)
    (h : ∀ h0 : H0, (∀ p ∈ ν, p.1 < h0.size) → ν.ks.Nodup → WC P (XMany N h0 D ν.ks) (BodyM P fn (PostMany (XMany N h0 D ν.ks) ν.ks post)) c (slotsOf 0 args) ν [D]) : FnM P f args D ν post := by
  refine ⟨EF.of hf hn hb, fun w hw hν hnd => ?_⟩
  subst hN
  have hsz := Nat.le_of_ble_eq_true hsz
  have hq : ∀ e a w', BodyM P fn (PostMany (XMany fn.ntmps (hd w) D ν.ks) ν.ks post) e a w' → bodyPostM (FW none) 0 P fn (PostMany (XMany fn.ntmps (hd w) D ν.ks) ν.ks post) e a w' := by
    intro e a w' he
    cases e <;> first | exact he | exact he.elim
  have hwp := h (hd w) (fun p hp => lt_of_some (hν p hp).1) hnd { tmps := args.toArray ++ Array.replicate (fn.ntmps - args.toArray.size) undef, defers := [] } w ⟨by simp [XMany]; omega, fun s v hs => by
    obtain ⟨_, h2⟩ := look_slotsOf args 0 s v hs
    have hl := (List.getElem?_eq_some_iff.1 h2).1
    simp only [Nat.sub_zero] at h2 hl
    show (args.toArray ++ _)[s]? = some v
    rw [Array.getElem?_append_left (by simpa using hl)]
    simpa using h2, rfl, D, ⟨Nat.le_refl _, Nat.le_refl _, (fun _ _ _ => rfl), (fun _ _ => rfl), hw, (fun p hp => ⟨(hν p hp).1, (hν p hp).2.1, Or.inr (List.mem_map.2 ⟨p, hp, rfl⟩)⟩), hnd, fun c q hc hq => by
      rcases hc with hc | hc
      · exact absurd (lt_of_some hq) (Nat.not_lt_of_le hc)
      · obtain ⟨p, hp, rfl⟩ := List.mem_map.1 hc
        rw [(hν p hp).1] at hq; cases hq; exact (hν p hp).2.2, fun e he => Option.some.inj he⟩, (fun D₁ h1 => by simp only [List.mem_singleton] at h1; subst h1; exact Le.refl _), trivial⟩
  refine (callsIn_FW (r := none) (n := 0)).1 ((callsIn_of_wp_marks hf hb trivial (wpIn_mono hwp hq) rfl).mono ?_)
  rintro e w' ⟨v, D', ν', rfl, hk, hs, hp⟩
  exact ⟨v, D', ν', rfl, hk, hs, hp⟩
/-- Behind one loop. -/
theorem leaveManyM1 {fn : Func} {bd : Nat} {ks : List Nat} {post : Data → Value → Boxes → Prop} {e : Exit} (he : (match e with | .normal => true | .ret => true | _ => false) = true) {rs : List ResultVar} {vs : List Value} {A B ν' : Boxes} (hds : X.ds = []) (hr : fn.results = rs.toArray) (h : ResV P X σ (A ++ ν' ++ B ++ [(bd, Obj.deferred none)]) rs vs)
    (hk : ν'.ks = ks) (hp : ∀ D, (∀ D₁ ∈ Ds, Le D₁ D) → post D (resOf vs) ν') : ∀ a w, Hl (X.withDs bd) σ (A ++ ν' ++ B ++ [(bd, Obj.deferred (some []))]) Ds a w → BodyM P fn (PostMany X ks post) e a w := by
  intro a w hh
  obtain ⟨h1, h2, h3, D, h4, h5, h6⟩ := hh
  have hHas : Has (A ++ ν' ++ B ++ [(bd, Obj.deferred (some []))]) bd (.deferred (some [])) (.deferred none) (A ++ ν' ++ B ++ [(bd, Obj.deferred none)]) := .app .head
  have hs := h4.set (w' := w.putObj bd (.deferred none)) hHas ⟨rfl, rfl⟩ trivial
  have hh' : Hl X σ (A ++ ν' ++ B ++ [(bd, Obj.deferred none)]) Ds { a with defers := [] } (w.putObj bd (.deferred none)) :=
    ⟨h1, h2, hds.symm, D, hs, h5, h6.step (X := X.withDs bd) (fun _ p hp => Or.inl (by rw [← hHas.keys]; exact List.mem_map.2 ⟨p, hp, rfl⟩)) (fun _ => low_set ⟨rfl, rfl⟩ (List.mem_map.2 ⟨_, hHas.mem, rfl⟩)) hs.dom⟩
  have hrun := run_results hh' hr h
  have hb := (h4.box (bd, Obj.deferred (some [])) (by simp)).1
  have hnd := h4.nd
  simp only [List.map_append] at hnd
  have hsub := hs.sub (μ' := ν') (fun p hp => List.mem_append_left _ (List.mem_append_left _ (List.mem_append_right _ hp))) (List.nodup_append.1 (List.nodup_append.1 (List.nodup_append.1 hnd).1).1).2.1
  have : LeavesInM (FW none) 0 P fn a.tmps (PostMany X ks post) a.defers .returning w := by
    have h3' : a.defers = [markOf bd] := h3.trans (by show markOf bd :: X.ds = _; rw [hds])
    rw [h3']
    exact ⟨by simp, Or.inl ⟨bd, _, rfl, run_takeDeferred hb, _, hrun, _, D, ν', rfl, hk, hsub, hp D h5⟩⟩
  cases e <;> first | exact this | cases he
/-- 'x && y', where y changes the boxes: behind both ways what is known goes by a letter g. -/
theorem L.andM {γ : Type} (I : γ → Prop) (S : γ → Bool) (M : γ → Boxes) (xs ys : List (Bool × Nat)) {s p : Nat} {b : Bool} (ho : os = xs ++ ys) (hs : look σ s = some (.bool b))
    (hyes : b = true → WL P X bad all (fun a w => ∃ g, I g ∧ Hl X ((p, .bool (S g)) :: (s, .bool true) :: σ) (M g) Ds a w) Q xs ((s, .bool true) :: σ) μ Ds)
    (hno : b = false → WL P X bad all (fun a w => ∃ g, I g ∧ Hl X ((p, .bool (S g)) :: (s, .bool false) :: σ) (M g) Ds a w) Q xs ((s, .bool false) :: σ) μ Ds)
    (k : ∀ g, I g → WL P X bad all K Q ys ((p, .bool (S g)) :: σ) (M g) Ds) : WL P X bad all K Q os σ μ Ds := by
  have hsub : ∀ u, Value.bool b = u → ∀ a w, Hl X σ μ Ds a w → Hl X ((s, u) :: σ) μ Ds a w := by
    rintro _ rfl a w ⟨h1, h2, h3⟩
    refine ⟨h1, fun t v ht => ?_, h3⟩
    simp only [look] at ht
    cases hb : Nat.beq s t with
    | true => rw [hb] at ht; cases ht; obtain rfl := Nat.eq_of_beq_eq_true hb; exact h2 _ _ hs
    | false => rw [hb] at ht; exact h2 _ _ ht
  have hback : ∀ u v μ', Value.bool b = u → ∀ a w, Hl X ((p, v) :: (s, u) :: σ) μ' Ds a w → Hl X ((p, v) :: σ) μ' Ds a w := by
    rintro _ v μ' rfl a w ⟨h1, h2, h3⟩
    refine ⟨h1, fun t v' ht => ?_, h3⟩
    refine h2 t v' ?_
    simp only [look] at ht ⊢
    cases hp : Nat.beq p t with
    | true => rw [hp] at ht; exact ht
    | false =>
      rw [hp] at ht
      cases hb : Nat.beq s t with
      | true => obtain rfl := Nat.eq_of_beq_eq_true hb; rw [← ht, hs]
      | false => exact ht
  subst ho
  intro a w hh
  cases b
  · refine WL.append (hno rfl a w (hsub _ rfl a w hh)) ?_
    rintro a w ⟨g, hI, h⟩
    exact k g hI a w (hback _ _ _ rfl a w h)
  · refine WL.append (hyes rfl a w (hsub _ rfl a w hh)) ?_
    rintro a w ⟨g, hI, h⟩
    exact k g hI a w (hback _ _ _ rfl a w h)
/-- A number laid into a block of numbers. -/
theorem L.storeF {t : TypeId} {b k : Nat} {l : List Int} {n : Int} {e : TypeId} {μ' : Boxes} (ho : all[ix]? = some ⟨none, .store t x y, ty, pos, aft, g⟩) (hs : TS P t 1) (hx : ev σ x = some (.pointer (some ⟨b, k, none⟩))) (hy : ev σ y = some (.int .i64 n))
    (hm : Has μ b (.cells (ints l).toArray e (0, 0)) (.cells (ints (l.set k n)).toArray e (0, 0)) μ') (hl : k < l.length) (hg : Gok all σ g)
    (kk : WL P X bad all K Q os σ μ' Ds) : WL P X bad all K Q ((false, ix) :: os) σ μ Ds := by
  have hil : (ints l).length = l.length := ints_length l
  refine L.store (off := k) (us := [.int .i64 n]) (vs := ints l) (ws := ints (l.set k n)) ho hx hy rfl hs hm (by simp [hil]; omega) ?_ (fun u hu => by simp at hu; subst hu; rfl) hg kk
  rw [show ints (l.set k n) = (ints l).set k (.int .i64 n) by simp [ints, List.map_set], List.set_eq_take_append_cons_drop, if_pos (by rw [hil]; exact hl)]
  simp
/-- The length of a slice, whatever it holds. -/
theorem L.lenV {t e tr : TypeId} {a : Option Addr} {n c : Nat} {ats : Array TypeId} (ho : all[ix]? = some ⟨some d, .call { callee := .builtin .len, args := #[x], argTypes := ats }, tr, pos, aft, g⟩) (ht : P.underlying t = some (.slice e)) (hx : ev σ x = some (.slice a n c)) (hat : ats[0]? = some t)
    (hN : Nat.blt d X.N = true) (hg : Gok all σ g) (kk : WL P X bad all K Q os ((d, .int .i64 (n : Int)) :: σ) μ Ds) : WL P X bad all K Q ((fl, ix) :: os) σ μ Ds :=
  L.pure ho rfl rfl hN hg (fun ρ hρ w' => by
    have hx' := hρ x _ hx
    simp [Builtin.len_, hat, hx', Sem.run_bind, TU.of ht w', goInt, Sem.run_pure, go_sem]) kk
theorem Hl.boxesEq {a : Act} {w : World} {μ' : Boxes} (hh : Hl X σ μ Ds a w) (h : μ = μ') : Hl X σ μ' Ds a w := h ▸ hh
theorem Q.boxesEq {T : Act → World → Prop} (μ' : Boxes) (h : μ = μ') (k : ∀ a w, Hl X σ μ' Ds a w → T a w) : ∀ a w, Hl X σ μ Ds a w → T a w := h ▸ k
/-- A slice is nil, or not. -/
theorem L.eqlNil {t t' e : TypeId} {a : Option Addr} {n c : Nat} (ho : all[ix]? = some ⟨some d, .binOp .eql t x y t', ty, pos, aft, g⟩) (ht : P.underlying t = some (.slice e)) (hx : ev σ x = some (.slice a n c)) (hy : ev σ y = some (.slice none 0 0)) (hN : Nat.blt d X.N = true) (hg : Gok all σ g)
    (kk : WL P X bad all K Q os ((d, .bool (a.isNone)) :: σ) μ Ds) : WL P X bad all K Q ((fl, ix) :: os) σ μ Ds :=
  L.eqlX ho (fun w => by
    have hgd : (eqGuard .eql t x y (.slice a n c) (.slice none 0 0)).run P w = .ok () w := by
      simp only [eqGuard]
      simp [go_sem]
    have heq : (Op.equal t (.slice a n c) (.slice none 0 0)).run P w = .ok a.isNone w := by
      show (Op.equalIn (9999 + 1) t (.slice a n c) (.slice none 0 0)).run P w = _
      rw [Op.equalIn, Sem.run_bind, TU.of ht w]
      cases a <;> rfl
    rw [Sem.run_bind, hgd]
    show ((do Pure.pure (Value.bool (← Op.equal t (.slice a n c) (.slice none 0 0)))) : Sem Value).run P w = _
    rw [Sem.run_bind, heq]; rfl) hx hy hN hg kk
/-- A store of what lies there already. -/
theorem L.storeS {t : TypeId} {b off : Nat} {vs us : List Value} {e : TypeId} {μ' : Boxes} (ho : all[ix]? = some ⟨none, .store t x y, ty, pos, aft, g⟩) (hx : ev σ x = some (.pointer (some ⟨b, off, none⟩))) (hy : ev σ y = some v) (hv : v.cells = us.toArray) (hs : TS P t us.length)
    (hm : Has μ b (.cells vs.toArray e (0, 0)) (.cells vs.toArray e (0, 0)) μ') (hl : off + us.length ≤ vs.length) (hw : vs.take off ++ us ++ vs.drop (off + us.length) = vs) (hc1 : ∀ u ∈ us, cell1 u = true) (hg : Gok all σ g)
    (kk : WL P X bad all K Q os σ μ' Ds) : WL P X bad all K Q ((fl, ix) :: os) σ μ Ds := by
  refine L.loud ho rfl rfl hg fun a w hh => ?_
  obtain ⟨h1, h2, h3, D, h4, h5, h6⟩ := id hh
  obtain ⟨w', hr, hw'⟩ := run_storeAt (P := P) hs hv (h4.box _ hm.mem).1 hl hc1
  have : (execOp a.eval ⟨none, .store t x y, ty, pos, aft, g⟩).run P w = .ok .skip w' := by
    simp only [execOp, hh.eval hx, hh.eval hy, Sem.run_bind, hr, Result.andThen_ok, Sem.run_pure]
  rw [this]
  rw [hw] at hw'
  refine ⟨fun _ => ⟨by rw [hw'.1]; simp, fun c _ _ => ?_⟩, kk _ _ ⟨h1, h2, h3, D, h4.set hm hw' rfl, h5, h6.step (fun _ p hp => Or.inl (by rw [← hm.keys]; exact List.mem_map.2 ⟨p, hp, rfl⟩)) (fun _ => low_set hw' (List.mem_map.2 ⟨_, hm.mem, rfl⟩)) (h4.set hm hw' rfl).dom⟩⟩
  have hb := (h4.box _ hm.mem).1
  rw [hw'.1]
  by_cases hc : b = c
  · subst hc; rw [Array.getElem?_setIfInBounds_self_of_lt (lt_of_some hb)]; exact hb.symm
  · rw [Array.getElem?_setIfInBounds_ne hc]
/-! ### More -/
theorem L.apart {D₁ : Data} {b o : Nat} {c : Value} {cs : List Value} (hA : At D₁ b o (c :: cs)) (hD : D₁ ∈ Ds) (k : b ∉ μ.ks → WL P X bad all K Q os σ μ Ds) : WL P X bad all K Q os σ μ Ds := fun a w hh => k (hh.apart hA hD) a w hh
theorem acc_box {e sz b : Nat} {cells : List Value} (h : cells.length = sz) : Acc e sz (.slice (some ⟨b, 0, none⟩) 1 1) 1 cells [(b, .cells cells.toArray e (0, 0))] :=
  Or.inr ⟨b, 1, [], rfl, Nat.le_refl _, by simp, by omega, by simp; omega⟩
theorem froz_box {D : Data} {b : Nat} {cells : List Value} (h : Froz D (.slice (some ⟨b, 0, none⟩) 1 1) 1 cells) : At D b 0 cells := by
  rcases h with ⟨a, _, h0, _⟩ | ⟨b', cap, hv, _, hA⟩
  · omega
  · cases hv; exact hA
/-- One of the frame's own blocks becomes data. -/
theorem C.freezeBox {c : Code} {A B : Boxes} {b : Nat} {cells : List Value} {e : TypeId} (hmods : X.mods = []) (kk : ∀ D, (∀ D₁ ∈ Ds, Le D₁ D) → At D b 0 cells → WC P X Q c σ (A ++ B) (D :: Ds)) : WC P X Q c σ (A ++ (b, .cells cells.toArray e (0, 0)) :: B) Ds := by
  have := C.freeze (A := A) (B := B) (ν := [(b, .cells cells.toArray e (0, 0))]) (c := c) (P := P) (X := X) (Q := Q) (σ := σ) (Ds := Ds) (acc_box (e := e) (b := b) (cells := cells) rfl) hmods fun D hD hF => kk D hD (froz_box hF)
  simpa using this
theorem at_flat {α : Type} {D : Data} {b sz : Nat} {cells : α → List Value} (hsz : ∀ x, (cells x).length = sz) : ∀ {xs : List α} {o : Nat}, (∀ i x, xs[i]? = some x → At D b (o + i * sz) (cells x)) → At D b o (xs.flatMap cells)
  | [], o, _ => fun j v hj => by simp at hj
  | x :: xs, o, h => fun j v hj => by
    rw [List.flatMap_cons] at hj
    have h0 := h 0 x rfl
    rw [Nat.zero_mul, Nat.add_zero] at h0
    have hr := at_flat hsz (xs := xs) (o := o + sz) fun i y hy => by
      have := h (i + 1) y (by simpa using hy)
      rw [show o + sz + i * sz = o + (i + 1) * sz by rw [Nat.add_mul]; omega]; exact this
    rcases Nat.lt_or_ge j (cells x).length with hl | hl
    · rw [List.getElem?_append_left hl] at hj; exact h0 j v hj
    · rw [List.getElem?_append_right hl] at hj
      have := hr _ v hj
      rw [hsz] at this
      rw [show o + j = o + sz + (j - sz) by rw [hsz] at hl; omega]; exact this
theorem Src.of {α : Type} {R : Rd α} {D : Data} {sz : Nat} {xs : List α} {cells : α → List Value} (hR : ∀ D x cs, R D x cs → cs = cells x) (hsz : ∀ x, (cells x).length = sz) (h : Sl D R sz v xs) : Src D v xs.length (xs.flatMap cells) := by
  obtain ⟨a, cap, rfl, h1, h2, h3⟩ := h
  rcases h3 with rfl | ⟨b, o, rfl, h3⟩
  · exact Or.inl ⟨a, cap, rfl, rfl, rfl⟩
  · refine Or.inr ⟨b, o, cap, rfl, at_flat hsz fun i x hx => ?_⟩
    obtain ⟨cs, hr, hc, hA⟩ := h3 i x hx
    rw [hR _ _ _ hr] at hA; exact hA
theorem sl_none {α : Type} {R : Rd α} {D : Data} {sz n c : Nat} {xs : List α} (h : Sl D R sz (.slice none n c) xs) : xs = [] := by
  obtain ⟨a, cap, hv, h1, h2, h3⟩ := h
  rcases h3 with h3 | ⟨b, o, ha, _⟩
  · exact h3
  · rw [ha] at hv; cases hv
/-- The first elements of a slice. -/
theorem L.sliceTo {α : Type} {R : Rd α} {D₁ : Data} {t e : TypeId} {sz k : Nat} {kd : IntKind} {xs : List α} (ho : all[ix]? = some ⟨some d, .slice t x none (some y) none, ty, pos, aft, g⟩) (ht : P.underlying t = some (.slice e)) (hs : TS P e sz) (hx : ev σ x = some v) (hy : ev σ y = some (.int kd (k : Int))) (hS : Sl D₁ R sz v xs) (hk : k ≤ xs.length)
    (hN : Nat.blt d X.N = true) (hg : Gok all σ g) (kk : ∀ u, Sl D₁ R sz u (xs.take k) → WL P X bad all K Q os ((d, u) :: σ) μ Ds) : WL P X bad all K Q ((fl, ix) :: os) σ μ Ds := by
  obtain ⟨a, cap, rfl, h1, h2, h3⟩ := hS
  have ha : (if cap = 0 then a else a.map (·.add (0 * sz))) = a := by
    split
    · rfl
    · cases a with
      | none => rfl
      | some a => simp [Addr.add]
  refine L.pure (v := .slice a k cap) ho rfl rfl hN hg (fun ρ hρ w' => ?_) (kk _ ⟨a, cap, by rw [List.length_take]; congr 1; omega, by rw [List.length_take]; omega, by rw [List.length_take]; omega, ?_⟩)
  · simp only [execOp, Option.map_none, Option.map_some, hρ x _ hx, hρ y _ hy]
    unfold Instr.sliceAt Instr.slice Instr.sliceBounds Instr.sliceBound asIntOf
    have hle : (0 : Int) ≤ (k : Int) ∧ (k : Int) ≤ (cap : Nat) := by omega
    simp only [Sem.run_bind, TU.of ht w', Result.andThen_ok, Sem.run_pure, pure_bind, hs w', hle, and_self, if_true, Int.toNat_natCast, Nat.sub_zero, ha]
  · rcases h3 with h3 | ⟨b, o, ha', h3⟩
    · exact Or.inl (by rw [h3]; simp)
    · refine Or.inr ⟨b, o, ha', fun i x hi => h3 i x ?_⟩
      rw [List.getElem?_take] at hi
      split at hi
      · exact hi
      · cases hi
theorem L.shl1U {t t' : TypeId} {n : Nat} {k' : IntKind} (ho : all[ix]? = some ⟨some d, .binOp .shl t x y t', ty, pos, aft, g⟩) (hx : ev σ x = some (.int .i64 1)) (hy : ev σ y = some (.int k' (n : Int))) (hn : n < 62) (hN : Nat.blt d X.N = true) (hg : Gok all σ g)
    (kk : WL P X bad all K Q os ((d, .int .i64 ((2 ^ n : Nat) : Int)) :: σ) μ Ds) : WL P X bad all K Q ((fl, ix) :: os) σ μ Ds := by
  have h2 : 2 ^ n ≤ 2 ^ 62 := Nat.pow_le_pow_right (by omega) (by omega)
  refine L.shlN (m := 1) ho hx hy (by omega) (by omega) hN hg ?_
  rw [Nat.one_shiftLeft]; exact kk
/-- A store into one of the frame's own blocks, before or behind operations that do not look at it. -/
theorem L.storeB {t : TypeId} {b off : Nat} {vs us ws : List Value} {e : TypeId} {μ' : Boxes} (ho : all[ix]? = some ⟨none, .store t x y, ty, pos, aft, g⟩) (hx : ev σ x = some (.pointer (some ⟨b, off, none⟩))) (hy : ev σ y = some v) (hv : v.cells = us.toArray) (hs : TS P t us.length)
    (hm : Has μ b (.cells vs.toArray e (0, 0)) (.cells ws.toArray e (0, 0)) μ') (hl : off + us.length ≤ vs.length) (hw : vs.take off ++ us ++ vs.drop (off + us.length) = ws) (hc1 : ∀ u ∈ us, cell1 u = true) (hfl : fl = false ∨ b ∈ bad) (hg : Gok all σ g)
    (kk : WL P X bad all K Q os σ μ' Ds) : WL P X bad all K Q ((fl, ix) :: os) σ μ Ds := by
  refine L.loud ho rfl rfl hg fun a w hh => ?_
  obtain ⟨h1, h2, h3, D, h4, h5, h6⟩ := id hh
  obtain ⟨w', hr, hw'⟩ := run_storeAt (P := P) hs hv (h4.box _ hm.mem).1 hl hc1
  have : (execOp a.eval ⟨none, .store t x y, ty, pos, aft, g⟩).run P w = .ok .skip w' := by
    simp only [execOp, hh.eval hx, hh.eval hy, Sem.run_bind, hr, Result.andThen_ok, Sem.run_pure]
  rw [this]
  rw [hw] at hw'
  refine ⟨fun h => ⟨by rw [hw'.1]; simp, fun c _ hn => ?_⟩, kk _ _ ⟨h1, h2, h3, D, h4.set hm hw' rfl, h5, h6.step (fun _ p hp => Or.inl (by rw [← hm.keys]; exact List.mem_map.2 ⟨p, hp, rfl⟩)) (fun _ => low_set hw' (List.mem_map.2 ⟨_, hm.mem, rfl⟩)) (h4.set hm hw' rfl).dom⟩⟩
  rcases hfl with hf | hf
  · rw [hf] at h; cases h
  · rw [hw'.1, Array.getElem?_setIfInBounds_ne (by rintro rfl; exact hn hf)]
end Go.Fs
