/- Walks: what is so in a truth. -/
import Derived.Test.YtjhdcelmgfajbaaW4
namespace Go.Fs
open Go.Proofs
open C7
/-- The bits of what is so. -/
def bset (p : Nat → Bool) : Nat → Nat
  | 0 => 0
  | n + 1 => if p n = true then bset p n ||| 2 ^ n else bset p n
theorem bset_bit (p : Nat → Bool) : ∀ n i, (bset p n).testBit i = (decide (i < n) && p i)
  | 0, i => by simp [bset]
  | n + 1, i => by
    unfold bset
    split
    · rename_i h
      rw [Nat.testBit_or, bset_bit p n i, Nat.testBit_two_pow]
      by_cases hi : n = i
      · subst hi; simp [h]
      · have : (i < n + 1) = (i < n) := by rw [eq_iff_iff]; omega
        simp [hi, this]
    · rename_i h
      rw [bset_bit p n i]
      by_cases hi : n = i
      · subst hi; simp [h]
      · have : (i < n + 1) = (i < n) := by rw [eq_iff_iff]; omega
        simp [this]
theorem bset_lt (p : Nat → Bool) (n : Nat) : bset p n < 2 ^ n := by
  apply Nat.lt_pow_two_of_testBit
  intro i hi
  rw [bset_bit]
  have : ¬ i < n := by omega
  simp [this]
def brokB (t : List Pt) (i : Nat) : Bool := match t[i]? with | some p => !isWhole p | none => false
/-- Two chairs are broken, and fit. -/
def fitB (y : YardD) (t : List Pt) (i k : Nat) : Bool := match t[i]?, t[k]?, y.chairs[i]?, y.chairs[k]? with
  | some p, some q, some x, some z => (decide ((k : Int) ≠ i) && nearC y.fit x z) && joins p q
  | _, _, _, _ => false
theorem fit_at {y : YardD} {t : List Pt} {i k : Nat} {z q : Pt} {x1 x2 : Ch} (hz : t[i]? = some z) (hq : t[k]? = some q) (hx1 : y.chairs[i]? = some x1) (hx2 : y.chairs[k]? = some x2) : fitB y t i k = ((decide ((k : Int) ≠ i) && nearC y.fit x1 x2) && joins z q) := by
  unfold fitB; rw [hz, hq, hx1, hx2]
def rowsAt (y : YardD) (t : List Pt) (i k : Nat) : List Nat := (List.range 7).map fun j => if j < i then bset (fitB y t j) t.length else if j = i then bset (fitB y t i) k else 0
structure Sc where
  whole : Nat
  broken : Nat
  fits : List Nat
deriving DecidableEq
def sceneD (y : YardD) (t : List Pt) : Sc := ⟨whole t, bset (brokB t) t.length, (List.range 7).map fun j => bset (fitB y t j) t.length⟩
def scC (w b : Nat) (rows : List Nat) : List Value := .int .i64 (w : Int) :: .int .i64 (b : Int) :: rows.map fun (n : Nat) => Value.int .i64 (n : Int)
def scV (s : Sc) : Value := .agg (scC s.whole s.broken s.fits).toArray
theorem sc_cell1 (w b : Nat) (rows : List Nat) : ∀ u ∈ scC w b rows, cell1 u = true := by
  intro u hu
  unfold scC at hu
  simp only [List.mem_cons, List.mem_map] at hu
  rcases hu with rfl | rfl | ⟨n, _, rfl⟩ <;> rfl
theorem fit_out {y : YardD} {t : List Pt} {j : Nat} (h : t.length ≤ j) : bset (fitB y t j) t.length = 0 := by
  apply Nat.eq_of_testBit_eq
  intro i
  rw [bset_bit, Nat.zero_testBit]
  have : fitB y t j i = false := by unfold fitB; rw [List.getElem?_eq_none h]
  simp [this]
theorem scene_end {y : YardD} {t : List Pt} : rowsAt y t t.length 0 = (sceneD y t).fits := by
  show rowsAt y t t.length 0 = (List.range 7).map fun j => bset (fitB y t j) t.length
  unfold rowsAt
  apply List.map_congr_left
  intro j _
  by_cases h : j < t.length
  · rw [if_pos h]
  · rw [if_neg h, fit_out (by omega)]
    split <;> rfl
theorem row_end {y : YardD} {t : List Pt} {i : Nat} : rowsAt y t i t.length = rowsAt y t (i + 1) 0 := by
  unfold rowsAt
  apply List.map_congr_left
  intro j _
  by_cases h : j < i
  · rw [if_pos h, if_pos (by omega)]
  · rw [if_neg h]
    by_cases h2 : j = i
    · subst h2; rw [if_pos rfl, if_pos (by omega)]
    · rw [if_neg h2, if_neg (by omega)]
      split <;> rfl
theorem row_no {y : YardD} {t : List Pt} {i k : Nat} (h : fitB y t i k = false) : rowsAt y t i k = rowsAt y t i (k + 1) := by
  unfold rowsAt
  have : bset (fitB y t i) (k + 1) = bset (fitB y t i) k := by rw [bset, if_neg (by simp [h])]
  rw [this]
theorem row_get {y : YardD} {t : List Pt} {i k : Nat} (h : i < 7) : (rowsAt y t i k)[i]? = some (bset (fitB y t i) k) := by
  unfold rowsAt
  rw [List.getElem?_map, List.getElem?_range h]
  simp
theorem sc_row {rows : List Nat} {i n : Nat} (w b : Nat) (h : rows[i]? = some n) : (scC w b rows)[2 + i * 1]? = some (.int .i64 (n : Int)) := by
  rw [Nat.mul_one, Nat.add_comm]
  unfold scC
  rw [List.getElem?_cons_succ, List.getElem?_cons_succ, List.getElem?_map, h]; rfl
theorem take_whole {t : List Pt} {i : Nat} {z : Pt} (hz : t[i]? = some z) : whole (t.take (i + 1)) = whole (t.take i) + if isWhole z = true then 1 else 0 := by
  unfold whole
  rw [List.take_add_one, hz, Option.toList_some, List.filter_append, List.length_append]
  cases h : isWhole z <;> simp [h]
theorem brok_at {t : List Pt} {i : Nat} {z : Pt} (hz : t[i]? = some z) : brokB t i = !isWhole z := by unfold brokB; rw [hz]
theorem whole_row {y : YardD} {t : List Pt} {i k : Nat} {z : Pt} (hz : t[i]? = some z) (hw : isWhole z = true) : bset (fitB y t i) k = 0 := by
  apply Nat.eq_of_testBit_eq
  intro j
  rw [bset_bit, Nat.zero_testBit]
  have : fitB y t i j = false := by
    unfold fitB; rw [hz]
    split
    · rename_i e1 _ _ _
      obtain rfl := Option.some.inj e1
      simp [joins, hw]
    · rfl
  simp [this]
theorem sc_whole {y : YardD} {t : List Pt} {i : Nat} {z : Pt} (hz : t[i]? = some z) (hw : isWhole z = true) :
    (scC (whole (t.take i)) (bset (brokB t) i) (rowsAt y t i 0)).take 0 ++ [.int .i64 ((whole (t.take i) : Int) + 1)] ++ (scC (whole (t.take i)) (bset (brokB t) i) (rowsAt y t i 0)).drop (0 + [Value.int .i64 ((whole (t.take i) : Int) + 1)].length) = scC (whole (t.take (i + 1))) (bset (brokB t) (i + 1)) (rowsAt y t (i + 1) 0) := by
  have h1 : ((whole (t.take (i + 1)) : Nat) : Int) = (whole (t.take i) : Int) + 1 := by rw [take_whole hz, if_pos hw]; simp
  have h2 : bset (brokB t) (i + 1) = bset (brokB t) i := by rw [bset, if_neg (by rw [brok_at hz, hw]; simp)]
  have h3 : rowsAt y t (i + 1) 0 = rowsAt y t i 0 := by
    rw [← row_end]
    unfold rowsAt
    rw [whole_row hz hw, whole_row hz hw]
  rw [h2, h3]
  unfold scC
  rw [h1]; rfl
theorem sc_brok {y : YardD} {t : List Pt} {i : Nat} {z : Pt} (hz : t[i]? = some z) (hw : isWhole z = false) :
    (scC (whole (t.take i)) (bset (brokB t) i) (rowsAt y t i 0)).take 1 ++ [.int .i64 ((bset (brokB t) i ||| 2 ^ i : Nat) : Int)] ++ (scC (whole (t.take i)) (bset (brokB t) i) (rowsAt y t i 0)).drop (1 + [Value.int .i64 ((bset (brokB t) i ||| 2 ^ i : Nat) : Int)].length) = scC (whole (t.take (i + 1))) (bset (brokB t) (i + 1)) (rowsAt y t i 0) := by
  have h1 : whole (t.take (i + 1)) = whole (t.take i) := by rw [take_whole hz, if_neg (by simp [hw])]; rfl
  have h2 : bset (brokB t) (i + 1) = bset (brokB t) i ||| 2 ^ i := by rw [bset, if_pos (by rw [brok_at hz, hw]; rfl)]
  rw [h1, h2]; rfl
theorem sc_fit {y : YardD} {t : List Pt} {i k w b : Nat} (hi : i < 7) (h : fitB y t i k = true) :
    (scC w b (rowsAt y t i k)).take (2 + i * 1) ++ [.int .i64 ((bset (fitB y t i) k ||| 2 ^ k : Nat) : Int)] ++ (scC w b (rowsAt y t i k)).drop (2 + i * 1 + [Value.int .i64 ((bset (fitB y t i) k ||| 2 ^ k : Nat) : Int)].length) = scC w b (rowsAt y t i (k + 1)) := by
  have h2 : bset (fitB y t i) (k + 1) = bset (fitB y t i) k ||| 2 ^ k := by rw [bset, if_pos h]
  have e : i = 0 ∨ i = 1 ∨ i = 2 ∨ i = 3 ∨ i = 4 ∨ i = 5 ∨ i = 6 := by omega
  rw [← h2]
  rcases e with rfl | rfl | rfl | rfl | rfl | rfl | rfl <;> rfl
theorem scene_ok (yv tv : Value) (y : YardD) (t : List Pt) (D : Data) (hy : YardIs D yv y) (ht : Sl D RP 3 tv t) (hlen : t.length = y.chairs.length) (h7 : t.length ≤ 7) (hb : ∀ p ∈ t, Bits1 p) (hf : 0 ≤ y.fit ∧ y.fit ≤ 9) (hs : ∀ c ∈ y.chairs, 0 ≤ c.size ∧ c.size ≤ 9) : Fn Try.prog 77 #[yv, tv] D (fun _ v => v = scV (sceneD y t)) := by
  have hy0 := hy
  obtain ⟨cv, qv, rfl, hc, hq⟩ := hy
  have hl := ht.len
  refine enter 61 Try.func77 rfl rfl rfl rfl fun h0 => ?_
  refine C.seq ?_
  refine C.region [(false,0),(false,1)] rfl ?_
  refine L.boxD rfl rfl rfl rfl trivial (fun q1 E1 hE1 hB1 => ?_)
  refine L.alloc rfl Tf.z126 rfl rfl trivial (fun q2 => ?_)
  refine L.nil ?_
  refine C.next ?_
  refine C.seq ?_
  refine C.seq ?_
  refine C.region [(false,0),(false,1),(false,2)] rfl ?_
  refine L.move rfl rfl rfl trivial ?_
  refine L.len rfl Try.underlying39 rfl ht rfl rfl trivial ?_
  refine L.move rfl rfl rfl trivial ?_
  refine L.nil ?_
  refine C.next ?_
  refine C.block ?_
  refine C.loopR (γ := Nat) (fun i => t.length - i) (fun i => i ≤ t.length) (fun i => [(11, .int .i64 (i : Int))]) [(10, _), (9, _), (4, _), (2, _), (1, _)] (fun i => [(q2, .cells (scC (whole (t.take i)) (bset (brokB t) i) (rowsAt y t i 0)).toArray 126 (0, 0))]) (fun i => [E1, D]) 0 (by omega) ⟨(by first | rfl | (show some (Value.int _ _) = some (Value.int _ _); congr 2; omega)), trivial⟩ ⟨rfl, rfl, rfl, rfl, rfl, trivial⟩ (List.Sublist.refl _) (ds_same) ?_
  rintro i h1
  refine C.seq ?_
  refine C.region [(false,0)] rfl ?_
  refine L.lss rfl rfl rfl rfl trivial ?_
  refine L.nil ?_
  refine C.next ?_
  refine C.seq ?_
  refine C.condD rfl (fun hc1 => ?_) (fun hc1 => ?_)
  · have hi : i < t.length := by omega
    obtain ⟨z, hz⟩ : ∃ z, t[i]? = some z := ⟨_, List.getElem?_eq_getElem hi⟩
    obtain ⟨x1, hx1⟩ : ∃ x1, y.chairs[i]? = some x1 := ⟨_, List.getElem?_eq_getElem (by omega)⟩
    have hwl : whole (t.take i) ≤ (t.take i).length := List.length_filter_le _ _
    have hwt : (t.take i).length ≤ i := List.length_take_le _ _
    have hbl := bset_lt (brokB t) i
    have hp2 : 2 ^ i ≤ 2 ^ 7 := Nat.pow_le_pow_right (by omega) (by omega)
    refine C.skip ?_
    refine C.next ?_
    refine C.seq ?_
    refine C.block ?_
    refine C.seq ?_
    refine C.region [(false,0),(false,1),(false,2),(false,3),(false,4),(false,5)] rfl ?_
    refine L.move rfl rfl rfl trivial ?_
    refine L.indexS rfl Try.underlying39 Tf.s113 rfl ht rfl (by omega) hz rfl trivial (fun b1 o1 cs1 hr1 hcl1 hA1 => ?_)
    obtain rfl : cs1 = [.int .i64 _, .int .i64 _, .int .i64 _] := hr1
    refine L.loadDW rfl Tf.a113 rfl hA1 (by first | simp | assumption) (by first | exact Tf.s113 | (simp only [ints_length, *]; exact Tf.s113)) List.not_mem_nil rfl trivial ?_
    refine L.alloc rfl Tf.z113 rfl rfl trivial (fun q3 => ?_)
    refine L.assign rfl rfl rfl trivial ?_
    refine L.storeW rfl rfl rfl rfl Tf.s113 (by first | rfl | (simp only [ints_length, *]; done) | (simp only [ints_length, *]; rfl) | (simp only [ints_length, *]; omega)) (by first | rfl | (simp only [ints_length, *]; done) | (simp only [ints_length, *]; rfl) | (simp only [ints_length, *]; omega)) (Has.head) (by first | exact ints_cell1 _ | simp [cell1]) trivial ?_
    refine L.nil ?_
    refine C.next ?_
    refine C.seq ?_
    refine C.seq ?_
    refine C.region [(false,0),(false,1)] rfl ?_
    refine L.loadBW rfl Tf.a113 rfl (List.Mem.head _) (by first | exact Tf.s113 | (simp only [ints_length, *]; exact Tf.s113)) List.not_mem_nil rfl trivial ?_
    refine L.callV rfl rfl rfl (fun D1 hD1 => whole_ok z _) rfl trivial ?_
    refine L.nil ?_
    refine C.next ?_
    refine C.cond rfl (fun hc2 => ?_) (fun hc2 => ?_)
    · refine C.seq ?_
      refine C.region [(false,0),(false,1),(false,2),(false,3),(false,4)] rfl ?_
      refine L.fieldAddr rfl Tf.f126_0 rfl rfl trivial ?_
      refine L.loadB1 rfl Tf.a3 rfl (List.Mem.tail _ (List.Mem.head _)) rfl List.not_mem_nil rfl trivial ?_
      refine L.add rfl rfl rfl (by simp only [inK]; omega) rfl trivial ?_
      refine L.fieldAddr rfl Tf.f126_0 rfl rfl trivial ?_
      refine L.store (ws := scC (whole (t.take (i + 1))) (bset (brokB t) (i + 1)) (rowsAt y t (i + 1) 0)) rfl rfl rfl rfl Tf.s3 (.tail Has.head) (by simp [scC]) (sc_whole hz hc2) (by simp [cell1]) trivial ?_
      refine L.nil ?_
      refine C.next ?_
      refine C.exit ?_
      refine C.thenExit ?_
      refine C.blockExit ?_
      refine C.next ?_
      refine C.region [(false,0),(false,1)] rfl ?_
      refine L.add rfl rfl rfl (by simp only [inK]; omega) rfl trivial ?_
      refine L.move rfl rfl rfl trivial ?_
      refine L.nil ?_
      exact C.againR 15 (i + 1) (by omega) (by omega) ⟨(by first | rfl | (show some (Value.int _ _) = some (Value.int _ _); congr 2; omega)), trivial⟩ rfl rfl (List.Sublist.cons _ (List.Sublist.refl _)) (ds_same)
    · refine C.skip ?_
      refine C.next ?_
      refine C.seq ?_
      refine C.draw [] 2 [0,1,2,3,4,5,6] [false,false,true,true,false,false,false] [(false,0),(false,1),(true,2),(true,3),(false,4),(false,5),(false,6)] Tf.follows (fun _ _ _ h => np_body (P := Try.prog) (fn := Try.f77) _ _ _ h) (by kernel_rfl) rfl ?_
      refine L.fieldAddr rfl Tf.f126_1 rfl rfl trivial ?_
      refine L.loadB1 rfl Tf.a3 rfl (List.Mem.tail _ (List.Mem.head _)) rfl List.not_mem_nil rfl trivial ?_
      refine L.move rfl rfl rfl trivial ?_
      refine L.shl1 rfl rfl rfl (by omega) rfl trivial ?_
      refine L.orB rfl rfl rfl (by omega) (by omega) rfl trivial ?_
      refine L.fieldAddr rfl Tf.f126_1 rfl rfl trivial ?_
      refine L.store (ws := scC (whole (t.take (i + 1))) (bset (brokB t) (i + 1)) (rowsAt y t i 0)) rfl rfl rfl rfl Tf.s3 (.tail Has.head) (by simp [scC]) (sc_brok hz hc2) (by simp [cell1]) trivial ?_
      refine L.nil ?_
      refine C.next ?_
      refine C.seq ?_
      refine C.region [(false,0),(false,1),(false,2)] rfl ?_
      refine L.move rfl rfl rfl trivial ?_
      refine L.len rfl Try.underlying39 rfl ht rfl rfl trivial ?_
      refine L.move rfl rfl rfl trivial ?_
      refine L.nil ?_
      refine C.next ?_
      refine C.block ?_
      refine C.loopR (γ := Nat) (fun k => t.length - k) (fun k => k ≤ t.length) (fun k => [(30, .int .i64 (k : Int))]) [(29, _), (28, _), (27, _), (26, _), (25, _), (24, _), (23, _), (22, _), (17, _), (16, _), (5, _), (6, _), (15, _), (14, _), (13, _), (12, _), (11, _), (10, _), (9, _), (4, _), (2, _), (1, _)] (fun k => [(q3, .cells [.int .i64 z.a, .int .i64 z.b, .int .i64 z.c].toArray 113 (0, 0)), (q2, .cells (scC (whole (t.take (i + 1))) (bset (brokB t) (i + 1)) (rowsAt y t i k)).toArray 126 (0, 0))]) (fun k => [E1, D]) 0 (by omega) ⟨(by first | rfl | (show some (Value.int _ _) = some (Value.int _ _); congr 2; omega)), trivial⟩ ⟨rfl, rfl, rfl, rfl, rfl, rfl, rfl, rfl, rfl, rfl, rfl, rfl, rfl, rfl, rfl, rfl, rfl, rfl, rfl, rfl, rfl, rfl, trivial⟩ (List.Sublist.refl _) (ds_same) ?_
      rintro k h2
      refine C.seq ?_
      refine C.region [(false,0)] rfl ?_
      refine L.lss rfl rfl rfl rfl trivial ?_
      refine L.nil ?_
      refine C.next ?_
      refine C.seq ?_
      refine C.condD rfl (fun hc3 => ?_) (fun hc3 => ?_)
      · have hk : k < t.length := by omega
        obtain ⟨q, hq⟩ : ∃ q, t[k]? = some q := ⟨_, List.getElem?_eq_getElem hk⟩
        obtain ⟨x2, hx2⟩ : ∃ x2, y.chairs[k]? = some x2 := ⟨_, List.getElem?_eq_getElem (by omega)⟩
        have hbk := bset_lt (fitB y t i) k
        have hp3 : 2 ^ k ≤ 2 ^ 7 := Nat.pow_le_pow_right (by omega) (by omega)
        refine C.skip ?_
        refine C.next ?_
        refine C.seq ?_
        refine C.block ?_
        refine C.seq ?_
        refine C.region [(false,0),(false,1),(false,2),(false,3),(false,4),(false,5)] rfl ?_
        refine L.move rfl rfl rfl trivial ?_
        refine L.indexS rfl Try.underlying39 Tf.s113 rfl ht rfl (by omega) hq rfl trivial (fun b2 o2 cs2 hr2 hcl2 hA2 => ?_)
        obtain rfl : cs2 = [.int .i64 _, .int .i64 _, .int .i64 _] := hr2
        refine L.loadDW rfl Tf.a113 rfl hA2 (by first | simp | assumption) (by first | exact Tf.s113 | (simp only [ints_length, *]; exact Tf.s113)) List.not_mem_nil rfl trivial ?_
        refine L.alloc rfl Tf.z113 rfl rfl trivial (fun q4 => ?_)
        refine L.assign rfl rfl rfl trivial ?_
        refine L.storeW rfl rfl rfl rfl Tf.s113 (by first | rfl | (simp only [ints_length, *]; done) | (simp only [ints_length, *]; rfl) | (simp only [ints_length, *]; omega)) (by first | rfl | (simp only [ints_length, *]; done) | (simp only [ints_length, *]; rfl) | (simp only [ints_length, *]; omega)) (Has.head) (by first | exact ints_cell1 _ | simp [cell1]) trivial ?_
        refine L.nil ?_
        refine C.next ?_
        refine C.seq ?_
        refine C.region [(false,0),(false,1),(false,2),(false,3),(false,4),(false,5),(false,6),(false,7),(false,8),(false,9),(false,10),(false,11),(false,12),(false,13)] rfl ?_
        refine L.move rfl rfl rfl trivial ?_
        refine L.move rfl rfl rfl trivial ?_
        refine L.neq rfl rfl rfl rfl trivial ?_
        refine L.move rfl rfl rfl trivial ?_
        refine' L.and [(false,4),(false,5),(false,6),(false,7),(false,8)] [(false,9),(false,10),(false,11),(false,12),(false,13)] (s := 38) (p := 43) rfl rfl (fun hg1 => ?_) (fun hg1 => ?_) ?_
        rotate_left
        · refine L.loadDW rfl Tf.a37 rfl hB1 (by first | simp | assumption) Tf.s37 List.not_mem_nil rfl ⟨_, rfl, rfl⟩ ?_
          refine L.move rfl rfl rfl ⟨_, rfl, rfl⟩ ?_
          refine L.move rfl rfl rfl ⟨_, rfl, rfl⟩ ?_
          refine L.callV rfl rfl rfl (fun D2 hD2 => near_ok _ y i k x1 x2 _ (hy0.up (hD2 _ (by simp))) hf hx1 hx2 (hs _ (List.mem_of_getElem? hx1)) (hs _ (List.mem_of_getElem? hx2))) rfl ⟨_, rfl, rfl⟩ ?_
          refine L.pickT rfl rfl rfl rfl trivial ?_
          exact L.nil fun a w hh => hh.cutK 4 rfl
        · refine L.pass rfl rfl rfl ⟨_, _, rfl, rfl, rfl⟩ ?_
          refine L.pass rfl rfl rfl ⟨_, _, rfl, rfl, rfl⟩ ?_
          refine L.pass rfl rfl rfl ⟨_, _, rfl, rfl, rfl⟩ ?_
          refine L.pass rfl rfl rfl ⟨_, _, rfl, rfl, rfl⟩ ?_
          refine L.pickF rfl rfl rfl rfl trivial ?_
          exact L.nil fun a w hh => hh.cutK 4 rfl
        refine L.move rfl rfl rfl trivial ?_
        refine' L.and [(false,10),(false,11),(false,12),(false,13)] [] (s := 44) (p := 48) rfl rfl (fun hg2 => ?_) (fun hg2 => ?_) ?_
        rotate_left
        · refine L.loadBW rfl Tf.a113 rfl (List.Mem.tail _ (List.Mem.head _)) (by first | exact Tf.s113 | (simp only [ints_length, *]; exact Tf.s113)) List.not_mem_nil rfl ⟨_, rfl, rfl⟩ ?_
          refine L.loadBW rfl Tf.a113 rfl (List.Mem.head _) (by first | exact Tf.s113 | (simp only [ints_length, *]; exact Tf.s113)) List.not_mem_nil rfl ⟨_, rfl, rfl⟩ ?_
          refine L.callV rfl rfl rfl (fun D3 hD3 => joins_ok z q _ (hb _ (List.mem_of_getElem? hz)) (hb _ (List.mem_of_getElem? hq))) rfl ⟨_, rfl, rfl⟩ ?_
          refine L.pickT rfl rfl rfl rfl trivial ?_
          exact L.nil fun a w hh => hh.cutK 3 rfl
        · refine L.pass rfl rfl rfl ⟨_, _, rfl, rfl, rfl⟩ ?_
          refine L.pass rfl rfl rfl ⟨_, _, rfl, rfl, rfl⟩ ?_
          refine L.pass rfl rfl rfl ⟨_, _, rfl, rfl, rfl⟩ ?_
          refine L.pickF rfl rfl rfl rfl trivial ?_
          exact L.nil fun a w hh => hh.cutK 3 rfl
        refine L.nil ?_
        refine C.next ?_
        refine C.cond rfl (fun hc4 => ?_) (fun hc4 => ?_)
        · have hfit : fitB y t i k = true := by rw [fit_at hz hq hx1 hx2]; exact hc4
          refine C.draw [] 3 [0,1,2,3,4,5,6,7,8,9] [false,true,false,false,true,true,false,true,false,false] [(false,0),(true,1),(false,2),(false,3),(true,4),(true,5),(false,6),(true,7),(false,8),(false,9)] Tf.follows (fun _ _ _ h => np_body (P := Try.prog) (fn := Try.f77) _ _ _ h) (by kernel_rfl) rfl ?_
          refine L.move rfl rfl rfl trivial ?_
          refine L.fieldAddr rfl Tf.f126_2 rfl rfl trivial ?_
          refine L.indexA rfl Try.underlying124 Tf.s3 rfl rfl (by omega) (by omega) rfl trivial ?_
          refine L.loadB1 rfl Tf.a3 rfl (List.Mem.tail _ (List.Mem.tail _ (List.Mem.head _))) (sc_row _ _ (row_get (by omega))) List.not_mem_nil rfl trivial ?_
          refine L.move rfl rfl rfl trivial ?_
          refine L.shl1 rfl rfl rfl (by omega) rfl trivial ?_
          refine L.orB rfl rfl rfl (by omega) (by omega) rfl trivial ?_
          refine L.fieldAddr rfl Tf.f126_2 rfl rfl trivial ?_
          refine L.indexA rfl Try.underlying124 Tf.s3 rfl rfl (by omega) (by omega) rfl trivial ?_
          refine L.store (ws := scC (whole (t.take (i + 1))) (bset (brokB t) (i + 1)) (rowsAt y t i (k + 1))) rfl rfl rfl rfl Tf.s3 (.tail (.tail Has.head)) (by simp [scC, rowsAt]; omega) (sc_fit (by omega) hfit) (by simp [cell1]) trivial ?_
          refine L.nil ?_
          refine C.blockEnd ?_
          refine C.next ?_
          refine C.region [(false,0),(false,1)] rfl ?_
          refine L.add rfl rfl rfl (by simp only [inK]; omega) rfl trivial ?_
          refine L.move rfl rfl rfl trivial ?_
          refine L.nil ?_
          exact C.againR 25 (k + 1) (by omega) (by omega) ⟨(by first | rfl | (show some (Value.int _ _) = some (Value.int _ _); congr 2; omega)), trivial⟩ rfl rfl (List.Sublist.cons _ (List.Sublist.refl _)) (ds_same)
        · have hfit : fitB y t i k = false := by rw [fit_at hz hq hx1 hx2]; exact hc4
          refine C.skip ?_
          refine C.blockEnd ?_
          refine C.next ?_
          refine C.region [(false,0),(false,1)] rfl ?_
          refine L.add rfl rfl rfl (by simp only [inK]; omega) rfl trivial ?_
          refine L.move rfl rfl rfl trivial ?_
          refine L.nil ?_
          rw [row_no hfit]
          exact C.againR 16 (k + 1) (by omega) (by omega) ⟨(by first | rfl | (show some (Value.int _ _) = some (Value.int _ _); congr 2; omega)), trivial⟩ rfl rfl (List.Sublist.cons _ (List.Sublist.refl _)) (ds_same)
      · obtain rfl : k = t.length := by omega
        rw [row_end]
        refine C.exit ?_
        refine C.thenExit ?_
        refine C.thenExit ?_
        refine C.blockExit ?_
        refine C.blockEnd ?_
        refine C.next ?_
        refine C.region [(false,0),(false,1)] rfl ?_
        refine L.add rfl rfl rfl (by simp only [inK]; omega) rfl trivial ?_
        refine L.move rfl rfl rfl trivial ?_
        refine L.nil ?_
        exact C.againR 21 (i + 1) (by omega) (by omega) ⟨(by first | rfl | (show some (Value.int _ _) = some (Value.int _ _); congr 2; omega)), trivial⟩ rfl rfl (List.Sublist.cons _ (List.Sublist.refl _)) (ds_same)
  · obtain rfl : i = t.length := by omega
    refine C.exit ?_
    refine C.thenExit ?_
    refine C.thenExit ?_
    refine C.blockExit ?_
    refine C.next ?_
    refine C.seq ?_
    refine C.region [(false,0),(false,1)] rfl ?_
    refine L.loadBW rfl Tf.a126 rfl (List.Mem.head _) Tf.s126 List.not_mem_nil rfl trivial ?_
    refine L.storeW rfl rfl rfl rfl Tf.s126 (by first | rfl | (simp only [ints_length, *]; done) | (simp only [ints_length, *]; rfl) | (simp only [ints_length, *]; omega)) (by first | rfl | (simp only [ints_length, *]; done) | (simp only [ints_length, *]; rfl) | (simp only [ints_length, *]; omega)) (Has.head) (sc_cell1 _ _ _) trivial ?_
    refine L.nil ?_
    refine C.next ?_
    refine C.ret ?_
    exact leave (vs := [_]) rfl rfl rfl ⟨⟨_, _, _, rfl, (List.Mem.head _), Or.inr ⟨Tf.a126, (by first | exact Tf.s126 | (simp only [List.size_toArray, ints_length, *]; exact Tf.s126)), rfl⟩⟩, trivial⟩ (fun D hD => by rw [scene_end, List.take_length]; rfl)
end Go.Fs
