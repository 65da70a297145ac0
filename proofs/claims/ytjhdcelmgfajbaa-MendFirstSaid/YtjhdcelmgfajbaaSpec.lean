/- Layer 1 in plain Lean: what the program's and the reference's functions compute. No program here. -/
namespace Go.Fs.C1

structure Cnt where
  back : Bool
  many : Int
  num : Int
  deriving DecidableEq

structure RowD where
  places : List Int
  counts : List Cnt
  wrong : Int
  off : Int
  deriving DecidableEq

def inB (n lo hi : Int) : Bool := decide (lo ≤ n) && decide (n ≤ hi)

def placeOk (n : Int) : Bool := inB n 0 2
def cntOk (len : Nat) (c : Cnt) : Bool := inB c.many 0 len && inB c.num 0 9

/-- The error of a row. -/
def fault (r : RowD) : Int :=
  if 9 < r.places.length ∨ 6 < r.counts.length then 3
  else if r.places.length = 0 ∨ inB r.wrong 0 6 = false ∨ inB r.off 0 9 = false ∨ r.places.all placeOk = false ∨ r.counts.all (cntOk r.places.length) = false then 1
  else 0

def unknown (l : List Int) : Nat := (l.filter (· == 2)).length

/-- One place of a truth. -/
def placeIs (t p : Int) : Bool := inB t 0 1 && (p == 2 || t == p)
def isTruth (r : RowD) (t : List Int) : Bool := (t.length == r.places.length) && (t.zip r.places).all fun x => placeIs x.1 x.2

def sumFrom (l : List Int) (i k : Nat) : Int := ((l.drop i).take k).sum

/-- The number of chairs in the places that a count is about. -/
def about (t : List Int) (c : Cnt) : Int := if c.back then sumFrom t (t.length - c.many.toNat) c.many.toNat else sumFrom t 0 c.many.toNat
def errOf (t : List Int) (c : Cnt) : Int := max (about t c - c.num) (c.num - about t c)

def explains (r : RowD) (t : List Int) : Bool := r.counts.all fun c => decide (errOf t c ≤ r.off)
def wrongs (r : RowD) (t : List Int) : Nat := (r.counts.filter fun c => decide (0 < errOf t c)).length

/-- All truths of places, the last place changes first. -/
def allT : List Int → List (List Int)
  | [] => [[]]
  | p :: ps => (if p = 2 ∨ p = 0 then (allT ps).map (0 :: ·) else []) ++ (if p = 2 ∨ p = 1 then (allT ps).map (1 :: ·) else [])

def fits (r : RowD) (t : List Int) : Bool := explains r t && decide ((wrongs r t : Int) ≤ r.wrong)
def truths (r : RowD) : List (List Int) := (allT r.places).filter (fits r)

def partOf (t : List Int) (i j : Nat) : Int := sumFrom t i (j + 1 - i)

def minL : List Int → Int
  | [] => 0
  | x :: xs => xs.foldl min x
def maxL : List Int → Int
  | [] => 0
  | x :: xs => xs.foldl max x


/-! ### Sums -/
theorem sumFrom_succ {l : List Int} {i k : Nat} {x : Int} (h : l[i + k]? = some x) : sumFrom l i (k + 1) = sumFrom l i k + x := by
  unfold sumFrom
  rw [List.take_add_one, List.getElem?_drop, h]
  simp

theorem sumFrom_bound {l : List Int} (hb : ∀ x ∈ l, 0 ≤ x ∧ x ≤ 1) (i k : Nat) : 0 ≤ sumFrom l i k ∧ sumFrom l i k ≤ k := by
  induction k with
  | zero => simp [sumFrom]
  | succ k ih =>
    cases h : l[i + k]? with
    | none =>
      have : sumFrom l i (k + 1) = sumFrom l i k := by
        unfold sumFrom; rw [List.take_add_one, List.getElem?_drop, h]; simp
      rw [this]; omega
    | some x => rw [sumFrom_succ h]; have := hb x (List.mem_of_getElem? h); omega

theorem sumFrom_split (l : List Int) (i k m : Nat) : sumFrom l i (k + m) = sumFrom l i k + sumFrom l (i + k) m := by
  unfold sumFrom
  rw [List.take_add, List.drop_drop]
  simp

def pad9 (t : List Int) : List Int := t ++ List.replicate (9 - t.length) 0
theorem pad9_length {t : List Int} (h : t.length ≤ 9) : (pad9 t).length = 9 := by simp [pad9]; omega
theorem pad9_bound {t : List Int} (h : ∀ x ∈ t, 0 ≤ x ∧ x ≤ 1) : ∀ x ∈ pad9 t, 0 ≤ x ∧ x ≤ 1 := by
  intro x hx
  rcases List.mem_append.1 hx with hx | hx
  · exact h x hx
  · rw [(List.mem_replicate.1 hx).2]; omega

theorem sum_replicate_zero (n : Nat) : (List.replicate n (0 : Int)).sum = 0 := by
  induction n with
  | zero => rfl
  | succ n ih => rw [List.replicate_succ, List.sum_cons, ih]; rfl

theorem sumFrom_pad (t : List Int) (k : Nat) : sumFrom (pad9 t) 0 k = sumFrom t 0 k := by
  unfold sumFrom pad9
  simp only [List.drop_zero, List.take_append, List.sum_append, List.take_replicate, sum_replicate_zero]
  omega

def sumsOf (c : List Int) : List Int := (List.range 10).map fun k => sumFrom c 0 k
def preSums (c : List Int) (k : Nat) : List Int := (List.range 10).map fun j => if j ≤ k then sumFrom c 0 j else 0
theorem sumsOf_length (c : List Int) : (sumsOf c).length = 10 := by simp [sumsOf]
theorem preSums_length (c : List Int) (k : Nat) : (preSums c k).length = 10 := by simp [preSums]
theorem preSums_zero (c : List Int) : preSums c 0 = [0, 0, 0, 0, 0, 0, 0, 0, 0, 0] := by simp [preSums, sumFrom, List.range, List.range.loop]
theorem preSums_nine (c : List Int) : preSums c 9 = sumsOf c := by simp [preSums, sumsOf, List.range, List.range.loop]
theorem preSums_get (c : List Int) (k : Nat) (h : k < 10) : (preSums c k)[k]? = some (sumFrom c 0 k) := by simp [preSums, h]
theorem preSums_set (c : List Int) (k : Nat) : (preSums c k).set (k + 1) (sumFrom c 0 (k + 1)) = preSums c (k + 1) := by
  apply List.ext_getElem?
  intro j
  rw [List.getElem?_set]
  simp only [preSums, List.getElem?_map]
  by_cases hj : k + 1 = j
  · subst hj
    by_cases hk : k + 1 < 10
    · simp [hk]
    · simp [hk]
  · rw [if_neg hj]
    by_cases hk : j < 10
    · simp only [List.getElem?_range hk, Option.map_some]
      by_cases h1 : j ≤ k
      · rw [if_pos h1, if_pos (by omega)]
      · rw [if_neg h1, if_neg (by omega)]
    · simp [hk]
theorem sumsOf_get (c : List Int) (k : Nat) (h : k < 10) : (sumsOf c)[k]? = some (sumFrom c 0 k) := by simp [sumsOf, h]
theorem sumsOf_pad (t : List Int) : sumsOf (pad9 t) = sumsOf t := by simp [sumsOf, sumFrom_pad]

/-! ### What a valid row has -/
structure RowOk (r : RowD) : Prop where
  len0 : 0 < r.places.length
  len9 : r.places.length ≤ 9
  cnt6 : r.counts.length ≤ 6
  wrong : 0 ≤ r.wrong ∧ r.wrong ≤ 6
  off : 0 ≤ r.off ∧ r.off ≤ 9
  place : ∀ p ∈ r.places, 0 ≤ p ∧ p ≤ 2
  cnt : ∀ c ∈ r.counts, 0 ≤ c.many ∧ c.many ≤ r.places.length ∧ 0 ≤ c.num ∧ c.num ≤ 9

theorem inB_iff {n lo hi : Int} : inB n lo hi = true ↔ lo ≤ n ∧ n ≤ hi := by simp [inB]

theorem rowOk_iff {r : RowD} : fault r = 0 ↔ RowOk r := by
  unfold fault
  constructor
  · intro h
    split at h
    · cases h
    · split at h
      · cases h
      · rename_i h1 h2
        simp only [not_or] at h1 h2
        obtain ⟨a, b, c, d, e⟩ := h2
        simp only [Bool.not_eq_false, List.all_eq_true, placeOk, cntOk, Bool.and_eq_true, inB_iff] at b c d e
        exact ⟨by omega, by omega, by omega, b, c, d, fun x hx => ⟨(e x hx).1.1, (e x hx).1.2, (e x hx).2.1, (e x hx).2.2⟩⟩
  · intro h
    rw [if_neg (by have := h.len9; have := h.cnt6; omega), if_neg]
    simp only [not_or, Bool.not_eq_false, List.all_eq_true, placeOk, cntOk, Bool.and_eq_true, inB_iff]
    exact ⟨by have := h.len0; omega, h.wrong, h.off, h.place, fun x hx => ⟨⟨(h.cnt x hx).1, (h.cnt x hx).2.1⟩, (h.cnt x hx).2.2⟩⟩

/-- A truth of the right length, of zeros and ones. -/
def TruthOk (r : RowD) (t : List Int) : Prop := t.length = r.places.length ∧ ∀ x ∈ t, 0 ≤ x ∧ x ≤ 1

/-- The program's own test of a truth. -/
def isP (r : RowD) (t : List Int) : Bool := (t.length == r.places.length) && t.all (fun x => inB x 0 1) && (t.zip r.places).all fun x => x.2 == 2 || x.1 == x.2

theorem zip_all_left {α β : Type} {p : α → Bool} : ∀ {l : List α} {m : List β}, l.length = m.length → ((l.zip m).all fun x => p x.1) = l.all p
  | [], [], _ => rfl
  | a :: l, b :: m, h => by simp only [List.zip_cons_cons, List.all_cons]; rw [zip_all_left (by simpa using h)]

theorem isP_eq (r : RowD) (t : List Int) : isP r t = isTruth r t := by
  unfold isP isTruth placeIs
  by_cases h : t.length = r.places.length
  · rw [← zip_all_left h]
    simp only [h, beq_self_eq_true, Bool.true_and]
    rw [Bool.eq_iff_iff]
    simp only [Bool.and_eq_true, List.all_eq_true]
    constructor
    · rintro ⟨h1, h2⟩ x hx; exact ⟨h1 x hx, h2 x hx⟩
    · intro h; exact ⟨fun x hx => (h x hx).1, fun x hx => (h x hx).2⟩
  · have : (t.length == r.places.length) = false := by simpa using h
    simp [this]

theorem isTruth_ok {r : RowD} {t : List Int} (h : isTruth r t = true) : TruthOk r t := by
  rw [← isP_eq] at h
  simp only [isP, Bool.and_eq_true, beq_iff_eq, List.all_eq_true, inB_iff] at h
  exact ⟨h.1.1, h.1.2⟩

theorem about_sums {r : RowD} {t : List Int} {c : Cnt} (ht : TruthOk r t) (h0 : 0 ≤ c.many) (h1 : c.many ≤ r.places.length) :
    about t c = if c.back then sumFrom t 0 t.length - sumFrom t 0 (t.length - c.many.toNat) else sumFrom t 0 c.many.toNat := by
  unfold about
  split
  · have h := sumFrom_split t 0 (t.length - c.many.toNat) c.many.toNat
    rw [show t.length - c.many.toNat + c.many.toNat = t.length by rw [ht.1]; omega, Nat.zero_add] at h
    omega
  · rfl

theorem about_bound {r : RowD} {t : List Int} {c : Cnt} (ht : TruthOk r t) (_h0 : 0 ≤ c.many) (h1 : c.many ≤ r.places.length) (h9 : r.places.length ≤ 9) : 0 ≤ about t c ∧ about t c ≤ 9 := by
  unfold about
  split
  · have := sumFrom_bound ht.2 (t.length - c.many.toNat) c.many.toNat; omega
  · have := sumFrom_bound ht.2 0 c.many.toNat; omega

theorem errOf_bound {r : RowD} {t : List Int} {c : Cnt} (hr : RowOk r) (ht : TruthOk r t) (hc : c ∈ r.counts) : 0 ≤ errOf t c ∧ errOf t c ≤ 9 := by
  obtain ⟨a, b, d, e⟩ := hr.cnt c hc
  have := about_bound ht a b hr.len9
  unfold errOf; omega

/-! ### All truths, one after the other -/
/-- What the first k choices at a place p come to. -/
def brs (p : Int) (ps pre : List Int) (k : Nat) : List (List Int) := (List.range k).flatMap fun (m : Nat) => if p = 2 ∨ p = (m : Int) then (allT ps).map (fun t => pad9 (pre ++ (m : Int) :: t)) else []
theorem brs_zero {p : Int} {ps pre : List Int} : brs p ps pre 0 = [] := rfl
theorem brs_no {p : Int} {ps pre : List Int} {k : Nat} (h : ¬ (p = 2 ∨ p = (k : Int))) : brs p ps pre (k + 1) = brs p ps pre k := by
  unfold brs; rw [List.range_succ, List.flatMap_append]; simp [h]
theorem brs_yes {p : Int} {ps pre : List Int} {k : Nat} (h : p = 2 ∨ p = (k : Int)) : brs p ps pre (k + 1) = brs p ps pre k ++ (allT ps).map (fun t => pad9 (pre ++ [(k : Int)] ++ t)) := by
  unfold brs; rw [List.range_succ, List.flatMap_append]; simp [h]
theorem brs_two {p : Int} {ps pre : List Int} : brs p ps pre 2 = (allT (p :: ps)).map (fun t => pad9 (pre ++ t)) := by
  by_cases h2 : p = 2
  · simp [brs, allT, List.range, List.range.loop, Function.comp_def, h2]
  · by_cases h0 : p = 0
    · simp [brs, allT, List.range, List.range.loop, Function.comp_def, h0]
    · by_cases h1 : p = 1
      · simp [brs, allT, List.range, List.range.loop, Function.comp_def, h1]
      · have : ¬ (1 : Int) = p := fun e => h1 e.symm
        simp [brs, allT, List.range, List.range.loop, h2, h0, h1]
theorem brs_rest {p : Int} {ps pre : List Int} {k : Nat} (hk : k < 2) : ∃ r, brs p ps pre 2 = brs p ps pre (k + 1) ++ r := by
  rcases (by omega : k = 0 ∨ k = 1) with rfl | rfl
  · refine ⟨if p = 2 ∨ p = 1 then (allT ps).map (fun t => pad9 (pre ++ 1 :: t)) else [], ?_⟩
    simp [brs, List.range, List.range.loop]
  · exact ⟨[], by simp⟩
theorem choose_leaf {pre c : List Int} {n : Nat} (_h9 : c.length = 9) (hp : c.take n = pre) (hn : pre.length = n) (hz : c.drop n = List.replicate (9 - n) 0) : c = pad9 pre := by
  rw [← List.take_append_drop n c, hp, hz]; unfold pad9; rw [hn]
theorem choose_set {pre c : List Int} {i n : Nat} {k : Int} (h9 : c.length = 9) (hi : i < n) (hn : n ≤ 9) (hp : c.take i = pre) (hz : c.drop n = List.replicate (9 - n) 0) :
    (c.set i k).length = 9 ∧ (c.set i k).take (i + 1) = pre ++ [k] ∧ (c.set i k).drop n = List.replicate (9 - n) 0 := by
  refine ⟨by simpa using h9, ?_, ?_⟩
  · rw [List.take_succ_eq_append_getElem (by simp; omega), List.take_set_of_le (Nat.le_refl _), hp]; simp
  · rw [List.drop_set_of_lt hi, hz]

theorem allT_length (l : List Int) : (allT l).length ≤ 2 ^ l.length := by
  induction l with
  | nil => simp [allT]
  | cons p ps ih =>
    simp only [allT, List.length_append, List.length_cons, Nat.pow_succ]
    have : ∀ (c : Prop) [Decidable c] (f : List Int → List Int), (if c then (allT ps).map f else []).length ≤ (allT ps).length := by intro c _ f; split <;> simp
    have h1 := this (p = 2 ∨ p = 0) (0 :: ·)
    have h2 := this (p = 2 ∨ p = 1) (1 :: ·)
    omega
theorem allT_ok {l t : List Int} (h : t ∈ allT l) : t.length = l.length ∧ ∀ x ∈ t, 0 ≤ x ∧ x ≤ 1 := by
  induction l generalizing t with
  | nil => simp [allT] at h; subst h; simp
  | cons p ps ih =>
    simp only [allT, List.mem_append] at h
    rcases h with h | h
    · split at h
      · obtain ⟨t', ht', rfl⟩ := List.mem_map.1 h
        refine ⟨by simp [(ih ht').1], fun x hx => ?_⟩
        rcases List.mem_cons.1 hx with rfl | hx
        · omega
        · exact (ih ht').2 x hx
      · simp at h
    · split at h
      · obtain ⟨t', ht', rfl⟩ := List.mem_map.1 h
        refine ⟨by simp [(ih ht').1], fun x hx => ?_⟩
        rcases List.mem_cons.1 hx with rfl | hx
        · omega
        · exact (ih ht').2 x hx
      · simp at h
theorem allT_step {places x : List Int} {pre r : List (List Int)} (h : (allT places).map pad9 = pre ++ x :: r) : ∃ t, (allT places)[pre.length]? = some t ∧ x = pad9 t ∧ t ∈ allT places ∧ (allT places).take (pre ++ [x]).length = (allT places).take pre.length ++ [t] := by
  have h1 : ((allT places).map pad9)[pre.length]? = some x := by rw [h]; simp
  rw [List.getElem?_map, Option.map_eq_some_iff] at h1
  obtain ⟨t, ht, hx⟩ := h1
  refine ⟨t, ht, hx.symm, List.mem_of_getElem? ht, ?_⟩
  rw [List.length_append, List.length_singleton, List.take_add_one, ht]; rfl

/-- The error of what is asked. -/
def askErr (r : RowD) (fine : Bool) : Int := if fault r ≠ 0 then fault r else if fine = false then 2 else if truths r = [] then 11 else 0
def partOk (r : RowD) (i j : Int) : Bool := inB i 0 (r.places.length - 1) && inB j i (r.places.length - 1)

/-! ### Bounds, verdicts -/
def loOf (ts : List (List Int)) (i j : Nat) : Int := minL (ts.map fun t => partOf t i j)
def hiOf (ts : List (List Int)) (i j : Nat) : Int := maxL (ts.map fun t => partOf t i j)
theorem foldl_min_self (l : List Int) (a : Int) (h : l[0]? = some a) : l.foldl min a = minL l := by
  cases l with
  | nil => simp at h
  | cons x l => simp at h; subst h; simp [minL]
theorem foldl_max_self (l : List Int) (a : Int) (h : l[0]? = some a) : l.foldl max a = maxL l := by
  cases l with
  | nil => simp at h
  | cons x l => simp at h; subst h; simp [maxL]
theorem partOf_bound {t : List Int} (hb : ∀ x ∈ t, 0 ≤ x ∧ x ≤ 1) (i j : Nat) (hj : j < 9) : 0 ≤ partOf t i j ∧ partOf t i j ≤ 9 := by
  unfold partOf; have := sumFrom_bound hb i (j + 1 - i); omega

/-- The verdict on a question. -/
def vd (ts : List (List Int)) (q : List Int → Bool) : Int :=
  match ts with
  | [] => 1
  | t0 :: _ => if (ts.all fun t => q t == q t0) = true then (if q t0 = true then 1 else 2) else 3
theorem vd_all {ts : List (List Int)} {q : List Int → Bool} {t0 : List Int} (h0 : ts[0]? = some t0) {j : Nat} (hj : ts.length ≤ j) (h : (ts.take j).all (fun t => q t == q t0) = true) : vd ts q = if q t0 = true then 1 else 2 := by
  rw [List.take_of_length_le hj] at h
  cases ts with
  | nil => simp at h0
  | cons x l => simp at h0; subst h0; simp only [vd]; rw [if_pos h]
theorem vd_no {ts : List (List Int)} {q : List Int → Bool} {t0 t : List Int} (h0 : ts[0]? = some t0) {j : Nat} (hj : ts[j]? = some t) (h : (!(q t == q t0)) = true) : vd ts q = 3 := by
  cases ts with
  | nil => simp at h0
  | cons x l =>
    simp only [List.getElem?_cons_zero, Option.some.injEq] at h0; subst h0; simp only [vd]
    rw [if_neg]
    intro ha
    have := List.all_eq_true.1 ha t (List.mem_of_getElem? hj)
    simp [this] at h
def hasAt (i : Nat) (t : List Int) : Bool := decide (0 < t.getD i 0)
def rightAt (r : RowD) (i : Nat) (t : List Int) : Bool := match r.counts[i]? with | some c => decide (errOf t c = 0) | none => false
theorem pad9_get {t : List Int} {i : Nat} (h : i < 9) (h9 : t.length ≤ 9) : (pad9 t)[i]? = some (t.getD i 0) := by
  unfold pad9
  by_cases hi : i < t.length
  · rw [List.getElem?_append_left hi, List.getD_eq_getElem?_getD, List.getElem?_eq_getElem hi]; rfl
  · rw [List.getElem?_append_right (by omega), List.getElem?_replicate, if_pos (by omega), List.getD_eq_getElem?_getD, List.getElem?_eq_none (by omega)]; rfl
theorem truths_ok {r : RowD} {t : List Int} (h : t ∈ truths r) : TruthOk r t := allT_ok (List.mem_filter.1 h).1

/-! ### Looks -/
def seenT (ts : List (List Int)) (p : Nat) (b : Int) : List (List Int) := ts.filter fun t => t.getD p 0 == b
theorem seenT_length (ts : List (List Int)) (p : Nat) (b : Int) : (seenT ts p b).length ≤ ts.length := List.length_filter_le _ _
theorem seenT_mem {ts : List (List Int)} {p : Nat} {b : Int} {t : List Int} (h : t ∈ seenT ts p b) : t ∈ ts := (List.mem_filter.1 h).1
theorem seenT_yes {ts : List (List Int)} {p k : Nat} {b : Int} {t : List Int} (h : ts[k]? = some t) (hb : t.getD p 0 = b) : seenT (ts.take (k + 1)) p b = seenT (ts.take k) p b ++ [t] := by
  unfold seenT; rw [List.take_add_one, h, Option.toList_some, List.filter_append, List.filter_cons, if_pos (by rw [hb]; exact beq_self_eq_true b)]; rfl
theorem seenT_no {ts : List (List Int)} {p k : Nat} {b : Int} {t : List Int} (h : ts[k]? = some t) (hb : t.getD p 0 ≠ b) : seenT (ts.take (k + 1)) p b = seenT (ts.take k) p b := by
  unfold seenT; rw [List.take_add_one, h, Option.toList_some, List.filter_append, List.filter_cons, if_neg (by rw [beq_iff_eq]; exact hb)]; simp
theorem getD_bit {t : List Int} (h : ∀ x ∈ t, 0 ≤ x ∧ x ≤ 1) (p : Nat) : t.getD p 0 = 0 ∨ t.getD p 0 = 1 := by
  rw [List.getD_eq_getElem?_getD]
  cases hx : t[p]? with
  | none => exact Or.inl rfl
  | some x => have := h x (List.mem_of_getElem? hx); show x = 0 ∨ x = 1; omega

/-- The place to look at first, of the first k ones. -/
def lookK (ts : List (List Int)) (big : Int) : Nat → Int × Int
  | 0 => (0, big)
  | k + 1 => let n : Int := max (seenT ts k 0).length (seenT ts k 1).length; if n < (lookK ts big k).2 then ((k : Int), n) else lookK ts big k

/-- The looks that are needed, of the first k places to look at. -/
def bestK (nd : List (List Int) → Int) (ts : List (List Int)) (n : Nat) : Nat → Int
  | 0 => n + 1
  | k + 1 => if seenT ts k 0 = [] ∨ seenT ts k 1 = [] then bestK nd ts n k else
      if nd (seenT ts k 0) + 1 < bestK nd ts n k then min (bestK nd ts n k) (1 + max (nd (seenT ts k 0)) (nd (seenT ts k 1))) else bestK nd ts n k
def needF (n i j : Nat) : Nat → List (List Int) → Int
  | 0, _ => 0
  | f + 1, ts => if loOf ts i j = hiOf ts i j then 0 else bestK (needF n i j f) ts n n

theorem bestK_bound {nd : List (List Int) → Int} (h : ∀ l, 0 ≤ nd l) (ts : List (List Int)) (n k : Nat) : 1 ≤ bestK nd ts n k ∧ bestK nd ts n k ≤ n + 1 := by
  induction k with
  | zero => simp only [bestK]; omega
  | succ k ih =>
    simp only [bestK]
    have h1 := h (seenT ts k 0)
    split
    · exact ih
    · split <;> omega
theorem needF_bound (n i j f : Nat) : ∀ ts, 0 ≤ needF n i j f ts ∧ needF n i j f ts ≤ n + 1 := by
  induction f with
  | zero => intro ts; simp only [needF]; omega
  | succ f ih =>
    intro ts
    simp only [needF]
    split
    · omega
    · have := bestK_bound (fun l => (ih l).1) ts n n; omega
theorem seenT_add (ts : List (List Int)) (p : Nat) : (seenT ts p 0).length + (seenT ts p 1).length ≤ ts.length := by
  unfold seenT
  induction ts with
  | nil => simp
  | cons t ts ih =>
    rw [List.filter_cons, List.filter_cons]
    by_cases h0 : t.getD p 0 = 0
    · rw [h0]; simp only [beq_self_eq_true, if_true, List.length_cons]
      rw [if_neg (by decide)]; omega
    · by_cases h1 : t.getD p 0 = 1
      · rw [h1]; simp only [beq_self_eq_true, if_true, List.length_cons]
        rw [if_neg (by decide)]; omega
      · rw [if_neg (by rw [beq_iff_eq]; exact h0), if_neg (by rw [beq_iff_eq]; exact h1), List.length_cons]; omega
theorem bestK_congr {nd nd' : List (List Int) → Int} {ts : List (List Int)} {n k : Nat} (h : ∀ p, seenT ts p 0 ≠ [] → seenT ts p 1 ≠ [] → nd (seenT ts p 0) = nd' (seenT ts p 0) ∧ nd (seenT ts p 1) = nd' (seenT ts p 1)) : bestK nd ts n k = bestK nd' ts n k := by
  induction k with
  | zero => rfl
  | succ k ih =>
    simp only [bestK, ih]
    by_cases hc : seenT ts k 0 = [] ∨ seenT ts k 1 = []
    · rw [if_pos hc, if_pos hc]
    · rw [if_neg hc, if_neg hc]
      obtain ⟨h1, h2⟩ := h k (fun e => hc (Or.inl e)) (fun e => hc (Or.inr e))
      rw [h1, h2]
theorem seenT_lt {ts : List (List Int)} {p : Nat} (h0 : seenT ts p 0 ≠ []) (h1 : seenT ts p 1 ≠ []) : (seenT ts p 0).length < ts.length ∧ (seenT ts p 1).length < ts.length := by
  have := seenT_add ts p
  have := List.length_pos_iff.2 h0
  have := List.length_pos_iff.2 h1
  omega
theorem needF_fuel (n i j : Nat) : ∀ (L f f' : Nat) (ts : List (List Int)), ts.length ≤ L → ts.length ≤ f → ts.length ≤ f' → needF n i j f ts = needF n i j f' ts := by
  intro L
  induction L with
  | zero =>
    intro f f' ts hL hf hf'
    have : ts = [] := List.length_eq_zero_iff.1 (by omega)
    subst this
    have h : ∀ f, needF n i j f [] = 0 := fun f => by cases f <;> simp [needF, loOf, hiOf, minL, maxL]
    rw [h, h]
  | succ L ih =>
    intro f f' ts hL hf hf'
    cases f with
    | zero =>
      have : ts = [] := List.length_eq_zero_iff.1 (by omega)
      subst this
      have h : ∀ f, needF n i j f [] = 0 := fun f => by cases f <;> simp [needF, loOf, hiOf, minL, maxL]
      rw [h, h]
    | succ f =>
      cases f' with
      | zero =>
        have : ts = [] := List.length_eq_zero_iff.1 (by omega)
        subst this
        have h : ∀ f, needF n i j f [] = 0 := fun f => by cases f <;> simp [needF, loOf, hiOf, minL, maxL]
        rw [h, h]
      | succ f' =>
        simp only [needF]
        split
        · rfl
        · refine bestK_congr fun p h0 h1 => ?_
          obtain ⟨a, b⟩ := seenT_lt h0 h1
          exact ⟨ih f f' _ (by omega) (by omega) (by omega), ih f f' _ (by omega) (by omega) (by omega)⟩
def needN (n i j : Nat) (ts : List (List Int)) : Int := needF n i j 600 ts
theorem needN_eq {n i j : Nat} {ts : List (List Int)} (h : ts.length ≤ 512) : needN n i j ts = if loOf ts i j = hiOf ts i j then 0 else bestK (needN n i j) ts n n := by
  unfold needN
  rw [needF_fuel n i j 600 600 601 ts (by omega) (by omega) (by omega)]
  rfl

/-- What was seen agrees with a truth. -/
def agree (a b : Nat) (t : List Int) : Bool := (List.range 9).all fun i => !a.testBit i || (t.getD i 0 == if b.testBit i then 1 else 0)
theorem agree_get {a b : Nat} {t : List Int} (h : agree a b t = true) {i : Nat} (hi : i < 9) (ha : a.testBit i = true) : t.getD i 0 = if b.testBit i then 1 else 0 := by
  have := List.all_eq_true.1 h i (List.mem_range.2 hi)
  rw [ha] at this; simpa using this
theorem agree_more {a b b' : Nat} {t : List Int} {p : Nat} {c : Int} (hp : p < 9) (ha : a.testBit p = false) (hb : ∀ i, i ≠ p → b'.testBit i = b.testBit i) (hc : (if b'.testBit p = true then (1 : Int) else 0) = c) : agree (a ||| 2 ^ p) b' t = (agree a b t && t.getD p 0 == c) := by
  rw [Bool.eq_iff_iff, Bool.and_eq_true]
  unfold agree
  simp only [List.all_eq_true, List.mem_range, Nat.testBit_or, Nat.testBit_two_pow, beq_iff_eq]
  constructor
  · intro h
    refine ⟨fun i hi => ?_, ?_⟩
    · by_cases hip : i = p
      · subst hip; rw [ha]; rfl
      · have := h i hi
        rw [hb i hip] at this
        have h2 : decide (p = i) = false := by simpa using Ne.symm hip
        simpa [h2] using this
    · have := h p hp
      simp only [decide_true, Bool.or_true, Bool.not_true, Bool.false_or, beq_iff_eq] at this
      rw [this]; exact hc
  · rintro ⟨h1, h2⟩ i hi
    by_cases hip : i = p
    · subst hip
      simp only [decide_true, Bool.or_true, Bool.not_true, Bool.false_or, beq_iff_eq]
      rw [h2]; exact hc.symm
    · have := h1 i hi
      rw [hb i hip]
      have h2 : decide (p = i) = false := by simpa using Ne.symm hip
      simpa [h2] using this
theorem agree_split {T : List (List Int)} {a b p : Nat} (hp : p < 9) (hab : ∀ i, b.testBit i = true → a.testBit i = true) (h0 : seenT (T.filter (agree a b)) p 0 ≠ []) (h1 : seenT (T.filter (agree a b)) p 1 ≠ []) :
    a.testBit p = false ∧ seenT (T.filter (agree a b)) p 0 = T.filter (agree (a ||| 2 ^ p) b) ∧ seenT (T.filter (agree a b)) p 1 = T.filter (agree (a ||| 2 ^ p) (b ||| 2 ^ p)) := by
  have ha : a.testBit p = false := by
    cases h : a.testBit p with
    | false => rfl
    | true =>
      obtain ⟨t0, l0, e0⟩ := List.exists_cons_of_ne_nil h0
      obtain ⟨t1, l1, e1⟩ := List.exists_cons_of_ne_nil h1
      have m0 : t0 ∈ seenT (T.filter (agree a b)) p 0 := by rw [e0]; exact List.mem_cons_self
      have m1 : t1 ∈ seenT (T.filter (agree a b)) p 1 := by rw [e1]; exact List.mem_cons_self
      unfold seenT at m0 m1
      rw [List.mem_filter, List.mem_filter] at m0 m1
      have g0 := agree_get m0.1.2 hp h
      have g1 := agree_get m1.1.2 hp h
      have v0 := beq_iff_eq.1 m0.2
      have v1 := beq_iff_eq.1 m1.2
      omega
  have hb : b.testBit p = false := by
    cases h : b.testBit p with
    | false => rfl
    | true => have := hab p h; rw [ha] at this; cases this
  refine ⟨ha, ?_, ?_⟩
  · unfold seenT
    rw [List.filter_filter]
    apply List.filter_congr
    intro t _
    rw [agree_more (b := b) (c := 0) hp ha (fun _ _ => rfl) (by rw [hb]; rfl), Bool.and_comm]
  · unfold seenT
    rw [List.filter_filter]
    apply List.filter_congr
    intro t _
    have hbit : ∀ i, i ≠ p → (b ||| 2 ^ p).testBit i = b.testBit i := by
      intro i hi
      have : decide (p = i) = false := by simpa using Ne.symm hi
      rw [Nat.testBit_or, Nat.testBit_two_pow, this, Bool.or_false]
    have hbp : (if (b ||| 2 ^ p).testBit p = true then (1 : Int) else 0) = 1 := by
      rw [Nat.testBit_or, Nat.testBit_two_pow]; simp
    rw [agree_more (b := b) (c := 1) hp ha hbit hbp, Bool.and_comm]
theorem agree_zero (T : List (List Int)) : T.filter (agree 0 0) = T := by
  rw [List.filter_eq_self]; intro t _; simp [agree]
/-- A map of the looks that are needed, by what was seen. -/
def MapOk (T : List (List Int)) (n i j : Nat) (M : List ((Int × Int) × Int)) : Prop := ∀ p ∈ M, ∃ a b : Nat, p.1 = ((a : Int), (b : Int)) ∧ p.2 = needN n i j (T.filter (agree a b))

/-! ### The least number of wrong counts -/
def leastStep (r : RowD) (o : Option Int) (t : List Int) : Option Int := if explains r t = true then some (match o with | none => (wrongs r t : Int) | some m => min m (wrongs r t)) else o
def leastOf (r : RowD) (us : List (List Int)) : Option Int := us.foldl (leastStep r) none
theorem leastOf_snoc (r : RowD) (us : List (List Int)) (t : List Int) : leastOf r (us ++ [t]) = leastStep r (leastOf r us) t := by simp [leastOf, List.foldl_append]
theorem leastStep_le {r : RowD} {o : Option Int} {t : List Int} {w : Int} (h : ∃ m, o = some m ∧ m ≤ w) : ∃ m, leastStep r o t = some m ∧ m ≤ w := by
  obtain ⟨m, rfl, hm⟩ := h
  unfold leastStep
  split
  · exact ⟨_, rfl, by simp only; omega⟩
  · exact ⟨m, rfl, hm⟩
theorem leastFold_le {r : RowD} {w : Int} : ∀ (us : List (List Int)) (o : Option Int), (∃ m, o = some m ∧ m ≤ w) → ∃ m, us.foldl (leastStep r) o = some m ∧ m ≤ w
  | [], o, h => h
  | t :: us, o, h => by rw [List.foldl_cons]; exact leastFold_le us _ (leastStep_le h)
theorem leastFold_mem {r : RowD} {t : List Int} (he : explains r t = true) : ∀ (us : List (List Int)) (o : Option Int), t ∈ us → ∃ m, us.foldl (leastStep r) o = some m ∧ m ≤ (wrongs r t : Int)
  | u :: us, o, h => by
    rw [List.foldl_cons]
    rcases List.mem_cons.1 h with rfl | h
    · refine leastFold_le us _ ?_
      unfold leastStep
      rw [if_pos he]
      refine ⟨_, rfl, ?_⟩
      split <;> omega
    · exact leastFold_mem he us _ h
theorem leastOf_again {r : RowD} {us : List (List Int)} {t : List Int} (h : t ∈ us) : leastOf r (us ++ [t]) = leastOf r us := by
  rw [leastOf_snoc]
  unfold leastStep
  split
  · rename_i he
    obtain ⟨m, hm, hle⟩ := leastFold_mem he us none h
    have : leastOf r us = some m := hm
    rw [this]; simp only; rw [Int.min_eq_left hle]
  · rfl
theorem pad9_inj {t u : List Int} (hl : t.length = u.length) (h : pad9 t = pad9 u) : t = u := by
  have := congrArg (List.take t.length) h
  unfold pad9 at this
  rw [List.take_left, hl, List.take_left] at this
  exact this
/-- What the loop of Least knows. -/
def LeastI (r : RowD) (pre : List (List Int)) (g : Option Int × List Int) : Prop := g.1 = leastOf r ((allT r.places).take pre.length) ∧ g.2.length = 9 ∧ ∀ u, ((allT r.places).take pre.length).getLast? = some u → g.2 = pad9 u
theorem least_skip {r : RowD} {pre : List (List Int)} {o : Option Int} {last t : List Int} (h : LeastI r pre (o, last)) (ht : t ∈ allT r.places) (htake : (allT r.places).take (pre ++ [pad9 t]).length = (allT r.places).take pre.length ++ [t]) (hc : (o.isSome && (pad9 t == last)) = true) : LeastI r (pre ++ [pad9 t]) (o, last) := by
  obtain ⟨h1, h2, h3⟩ := h
  simp only [Bool.and_eq_true, beq_iff_eq] at hc
  obtain ⟨ho, hl⟩ := hc
  cases hg : ((allT r.places).take pre.length).getLast? with
  | none =>
    rw [List.getLast?_eq_none_iff] at hg
    rw [hg] at h1; simp only at h1; rw [h1] at ho; cases ho
  | some u =>
    have hu := List.mem_of_getLast? hg
    have h4 := h3 u hg
    simp only at h4
    have hut : t = u := pad9_inj (by rw [(allT_ok ht).1, (allT_ok (List.mem_of_mem_take hu)).1]) (by rw [hl, h4])
    subst hut
    refine ⟨?_, h2, fun v hv => ?_⟩
    · rw [htake, leastOf_again hu]; exact h1
    · rw [htake, List.getLast?_concat] at hv; cases hv; exact h4
theorem least_yes {r : RowD} {pre : List (List Int)} {o : Option Int} {last t : List Int} (h : LeastI r pre (o, last)) (h9 : (pad9 t).length = 9) (htake : (allT r.places).take (pre ++ [pad9 t]).length = (allT r.places).take pre.length ++ [t])
    (hc : (explains r t && (!o.isSome || decide ((if explains r t = true then (wrongs r t : Int) else 0) < o.getD 0))) = true) : LeastI r (pre ++ [pad9 t]) (some (if explains r t = true then (wrongs r t : Int) else 0), pad9 t) := by
  obtain ⟨h1, h2, h3⟩ := h
  simp only [Bool.and_eq_true] at hc
  obtain ⟨he, hc⟩ := hc
  refine ⟨?_, h9, fun v hv => ?_⟩
  · simp only at h1
    rw [htake, leastOf_snoc, ← h1]
    simp only [leastStep, he, if_true] at hc ⊢
    cases o with
    | none => rfl
    | some m =>
      simp only [Option.isSome_some, Bool.not_true, Bool.false_or, decide_eq_true_eq, Option.getD_some] at hc
      simp only; rw [Int.min_eq_right (by omega)]
  · rw [htake, List.getLast?_concat] at hv; cases hv; rfl
theorem least_no {r : RowD} {pre : List (List Int)} {o : Option Int} {last t : List Int} (h : LeastI r pre (o, last)) (h9 : (pad9 t).length = 9) (htake : (allT r.places).take (pre ++ [pad9 t]).length = (allT r.places).take pre.length ++ [t])
    (hc : (explains r t && (!o.isSome || decide ((if explains r t = true then (wrongs r t : Int) else 0) < o.getD 0))) = false) : LeastI r (pre ++ [pad9 t]) (o, pad9 t) := by
  obtain ⟨h1, h2, h3⟩ := h
  refine ⟨?_, h9, fun v hv => ?_⟩
  · simp only at h1
    rw [htake, leastOf_snoc, ← h1]
    unfold leastStep
    split
    · rename_i he
      simp only [he, Bool.true_and, if_true] at hc
      cases o with
      | none => simp at hc
      | some m =>
        simp only [Option.isSome_some, Bool.not_true, Bool.false_or, decide_eq_false_iff_not, Option.getD_some] at hc
        simp only; rw [Int.min_eq_left (by omega)]
    · rfl
  · rw [htake, List.getLast?_concat] at hv; cases hv; rfl
def leastV (r : RowD) : Int := if fault r ≠ 0 then 0 else (leastOf r (allT r.places)).getD 0
def leastE (r : RowD) : Int := if fault r ≠ 0 then fault r else if (leastOf r (allT r.places)).isSome = true then 0 else 10

theorem least_r2 {r : RowD} {o : Option Int} (ho : o = leastOf r (allT r.places)) (hf : fault r = 0) (h : (!o.isSome) = true) : leastV r = 0 ∧ leastE r = 10 := by
  have hn : o = none := by simpa using h
  rw [leastV, leastE, ← ho, hn, hf]; exact ⟨rfl, rfl⟩
theorem least_r3 {r : RowD} {o : Option Int} (ho : o = leastOf r (allT r.places)) (hf : fault r = 0) (h : (!o.isSome) = false) : leastV r = o.getD 0 ∧ leastE r = 0 := by
  have hn : o.isSome = true := by simpa using h
  rw [leastV, leastE, ← ho, hf, hn]; exact ⟨rfl, rfl⟩

/-- The reference's looks: the first bound is b0. -/
def bestI (nd : List (List Int) → Int) (ts : List (List Int)) (b0 : Int) : Nat → Int
  | 0 => b0
  | k + 1 => if seenT ts k 0 = [] ∨ seenT ts k 1 = [] then bestI nd ts b0 k else
      if nd (seenT ts k 0) + 1 < bestI nd ts b0 k then min (bestI nd ts b0 k) (1 + max (nd (seenT ts k 0)) (nd (seenT ts k 1))) else bestI nd ts b0 k
def needG (n i j : Nat) : Nat → List (List Int) → Int
  | 0, _ => 0
  | f + 1, ts => if loOf ts i j = hiOf ts i j then 0 else bestI (needG n i j f) ts 100 n
theorem bestI_bound {nd : List (List Int) → Int} (h : ∀ l, 0 ≤ nd l) (ts : List (List Int)) (k : Nat) : 0 ≤ bestI nd ts 100 k ∧ bestI nd ts 100 k ≤ 100 := by
  induction k with
  | zero => simp only [bestI]; omega
  | succ k ih =>
    simp only [bestI]
    have h1 := h (seenT ts k 0)
    split
    · exact ih
    · split <;> omega
theorem needG_bound (n i j f : Nat) : ∀ ts, 0 ≤ needG n i j f ts ∧ needG n i j f ts ≤ 100 := by
  induction f with
  | zero => intro ts; simp only [needG]; omega
  | succ f ih =>
    intro ts
    simp only [needG]
    split
    · omega
    · exact bestI_bound (fun l => (ih l).1) ts n
theorem bestI_skip {nd : List (List Int) → Int} {ts : List (List Int)} {b : Int} {k : Nat} (h : seenT ts k 0 = [] ∨ seenT ts k 1 = []) : bestI nd ts b (k + 1) = bestI nd ts b k := by simp only [bestI]; rw [if_pos h]
theorem bestI_yes {nd : List (List Int) → Int} {ts : List (List Int)} {b : Int} {k : Nat} (h0 : seenT ts k 0 ≠ []) (h1 : seenT ts k 1 ≠ []) (h : nd (seenT ts k 0) + 1 < bestI nd ts b k) : bestI nd ts b (k + 1) = min (bestI nd ts b k) (1 + max (nd (seenT ts k 0)) (nd (seenT ts k 1))) := by
  simp only [bestI]; rw [if_neg (by simp [h0, h1]), if_pos h]
theorem bestI_no {nd : List (List Int) → Int} {ts : List (List Int)} {b : Int} {k : Nat} (h0 : seenT ts k 0 ≠ []) (h1 : seenT ts k 1 ≠ []) (h : ¬ nd (seenT ts k 0) + 1 < bestI nd ts b k) : bestI nd ts b (k + 1) = bestI nd ts b k := by
  simp only [bestI]; rw [if_neg (by simp [h0, h1]), if_neg h]

/-! ### All truths, place by place -/
/-- What comes of one list at a place, of the first m numbers. -/
def outN (p : Int) (t : List Int) (m : Nat) : List (List Int) := (List.range m).flatMap fun (c : Nat) => if p = 2 ∨ p = (c : Int) then [t ++ [(c : Int)]] else []
def growT (p : Int) (out : List (List Int)) : List (List Int) := out.flatMap fun t => outN p t 2
theorem outN_yes {p : Int} {t : List Int} {m : Nat} (h : p = 2 ∨ p = (m : Int)) : outN p t (m + 1) = outN p t m ++ [t ++ [(m : Int)]] := by
  unfold outN; rw [List.range_succ, List.flatMap_append]; simp [h]
theorem outN_no {p : Int} {t : List Int} {m : Nat} (h : ¬ (p = 2 ∨ p = (m : Int))) : outN p t (m + 1) = outN p t m := by
  unfold outN; rw [List.range_succ, List.flatMap_append]; simp [h]
theorem growT_snoc {p : Int} {out : List (List Int)} {k : Nat} {t : List Int} (h : out[k]? = some t) : growT p (out.take (k + 1)) = growT p (out.take k) ++ outN p t 2 := by
  unfold growT; rw [List.take_add_one, h, Option.toList_some, List.flatMap_append]; simp
theorem foldl_growT : ∀ (l : List Int) (out : List (List Int)), l.foldl (fun o p => growT p o) out = out.flatMap fun t => (allT l).map (t ++ ·)
  | [], out => by simp [allT]
  | p :: ps, out => by
    rw [List.foldl_cons, foldl_growT ps]
    unfold growT
    rw [List.flatMap_assoc]
    congr 1
    funext t
    have e1 : ∀ c : Int, (allT ps).map ((t ++ [c]) ++ ·) = ((allT ps).map (c :: ·)).map (t ++ ·) := fun c => by rw [List.map_map]; congr 1; funext u; simp
    by_cases h2 : p = 2
    · simp [outN, allT, h2, List.range, List.range.loop, Function.comp_def]
    · by_cases h0 : p = 0
      · simp [outN, allT, h0, List.range, List.range.loop, Function.comp_def]
      · by_cases h1 : p = 1
        · simp [outN, allT, h1, List.range, List.range.loop, Function.comp_def]
        · simp [outN, allT, h2, h0, h1, List.range, List.range.loop]
theorem allT_foldl (l : List Int) : l.foldl (fun o p => growT p o) [[]] = allT l := by rw [foldl_growT]; simp

end Go.Fs.C1
