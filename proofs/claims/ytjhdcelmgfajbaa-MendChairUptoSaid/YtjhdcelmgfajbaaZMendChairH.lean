/- Of the proof of MendChair: W11, W35. -/
import Derived.Test.YtjhdcelmgfajbaaZMendChairG
namespace Go.Fs
open Go.Proofs
open C7
/-- How many bits are set (of 7). -/
def onesB (m : Nat) : Nat := ((List.range 7).filter fun i => m.testBit i).length
theorem onesB_le (m : Nat) : onesB m ≤ 7 := by
  have := List.length_filter_le (fun i => m.testBit i) (List.range 7)
  simpa [onesB] using this
theorem ones_step : ∀ c, c < 128 → c ≠ 0 → (c &&& (c - 1)) < c ∧ onesB (c &&& (c - 1)) + 1 = onesB c := by decide +kernel
theorem filter_le {α : Type} {p q : α → Bool} (h : ∀ x, q x = true → p x = true) : ∀ l : List α, (l.filter q).length ≤ (l.filter p).length
  | [] => Nat.le_refl _
  | x :: l => by
    have ih := filter_le h l
    rw [List.filter_cons, List.filter_cons]
    by_cases hq : q x = true
    · rw [if_pos hq, if_pos (h x hq)]; simpa using ih
    · rw [if_neg hq]; split
      · rw [List.length_cons]; omega
      · exact ih
theorem filter_lt {α : Type} {p q : α → Bool} (h : ∀ x, q x = true → p x = true) {a : α} (hp : p a = true) (hq : q a = false) : ∀ {l : List α}, a ∈ l → (l.filter q).length + 1 ≤ (l.filter p).length
  | x :: l, hm => by
    rw [List.filter_cons, List.filter_cons]
    by_cases hx : x = a
    · subst hx
      rw [if_neg (by rw [hq]; simp), if_pos hp]
      have := filter_le h l
      rw [List.length_cons]; omega
    · have ih := filter_lt h hp hq ((List.mem_cons.1 hm).resolve_left fun e => hx e.symm)
      by_cases hqx : q x = true
      · rw [if_pos hqx, if_pos (h x hqx)]; simpa using ih
      · rw [if_neg hqx]; split
        · rw [List.length_cons]; omega
        · exact ih
theorem onesB_mono (b pr : Nat) : onesB (dif b pr) ≤ onesB b := filter_le (fun x hx => by rw [dif_bit] at hx; simp at hx; exact hx.1) _
theorem low7 {m : Nat} (h : m < 128) (h0 : m ≠ 0) : low m < 7 := by
  have := (low_spec h0).1
  rcases Nat.lt_or_ge (low m) 7 with hl | hl
  · exact hl
  · have h2 : 2 ^ 7 ≤ 2 ^ low m := Nat.pow_le_pow_right (by omega) hl
    rw [Nat.testBit_lt_two_pow (by omega)] at this; cases this
/-- The chairs that are reached, and their neighbours. -/
def growK (F : List Nat) (left g k : Nat) : Nat := (List.range k).foldl (fun nx i => if g.testBit i = true then nx ||| (F.getD i 0 &&& left) else nx) g
def growB (F : List Nat) (left g : Nat) : Nat := growK F left g 7
theorem growK_yes {F : List Nat} {left g i : Nat} (h : g.testBit i = true) : growK F left g (i + 1) = growK F left g i ||| (F.getD i 0 &&& left) := by
  unfold growK; rw [List.range_succ, List.foldl_append, List.foldl_cons, List.foldl_nil, if_pos h]
theorem growK_no {F : List Nat} {left g i : Nat} (h : g.testBit i = false) : growK F left g (i + 1) = growK F left g i := by
  unfold growK; rw [List.range_succ, List.foldl_append, List.foldl_cons, List.foldl_nil, if_neg (by rw [h]; simp)]
theorem growK_lt {F : List Nat} {left g : Nat} (hF : ∀ f ∈ F, f < 128) (hg : g < 128) : ∀ k, growK F left g k < 128
  | 0 => hg
  | k + 1 => by
    have ih := growK_lt hF hg (left := left) k
    cases h : g.testBit k with
    | true =>
      rw [growK_yes h]
      have := row_lt hF k
      have h2 := Nat.and_le_left (n := F.getD k 0) (m := left)
      exact Nat.or_lt_two_pow (n := 7) ih (by omega)
    | false => rw [growK_no h]; exact ih
theorem grow_lt {F : List Nat} {left g : Nat} (hF : ∀ f ∈ F, f < 128) (hg : g < 128) : growB F left g < 128 ∧ True := ⟨growK_lt hF hg 7, trivial⟩
theorem growK_bit {F : List Nat} {left g : Nat} : ∀ k x, (growK F left g k).testBit x = true ↔ g.testBit x = true ∨ ∃ i, i < k ∧ g.testBit i = true ∧ (F.getD i 0).testBit x = true ∧ left.testBit x = true
  | 0, x => by simp [growK]
  | k + 1, x => by
    have ih := growK_bit (F := F) (left := left) (g := g) k x
    cases h : g.testBit k with
    | true =>
      rw [growK_yes h, Nat.testBit_or, Nat.testBit_and, Bool.or_eq_true, ih, Bool.and_eq_true]
      constructor
      · rintro ((h1 | ⟨i, h1, h2⟩) | h1)
        · exact Or.inl h1
        · exact Or.inr ⟨i, by omega, h2⟩
        · exact Or.inr ⟨k, by omega, h, h1⟩
      · rintro (h1 | ⟨i, h1, h2, h3⟩)
        · exact Or.inl (Or.inl h1)
        · by_cases e : i = k
          · subst e; exact Or.inr h3
          · exact Or.inl (Or.inr ⟨i, by omega, h2, h3⟩)
    | false =>
      rw [growK_no h, ih]
      constructor
      · rintro (h1 | ⟨i, h1, h2⟩)
        · exact Or.inl h1
        · exact Or.inr ⟨i, by omega, h2⟩
      · rintro (h1 | ⟨i, h1, h2, h3⟩)
        · exact Or.inl h1
        · by_cases e : i = k
          · subst e; rw [h] at h2; cases h2
          · exact Or.inr ⟨i, by omega, h2, h3⟩
theorem growK_ge (F : List Nat) (left g : Nat) : ∀ k, g ≤ growK F left g k
  | 0 => Nat.le_refl _
  | k + 1 => by
    have ih := growK_ge F left g k
    cases h : g.testBit k with
    | true => rw [growK_yes h]; exact Nat.le_trans ih Nat.left_le_or
    | false => rw [growK_no h]; exact ih
theorem grow_ge (F : List Nat) (left g : Nat) : g ≤ growB F left g := growK_ge F left g 7
def groupG (F : List Nat) (left : Nat) : Nat → Nat → Nat
  | 0, g => g
  | k + 1, g => if growB F left g = g then g else groupG F left k (growB F left g)
/-- The chairs that can be reached from one by chairs that are left. -/
def groupB (F : List Nat) (left a : Nat) : Nat := groupG F left 128 (2 ^ a)
theorem groupG_lt {F : List Nat} {left : Nat} (hF : ∀ f ∈ F, f < 128) : ∀ k g, g < 128 → groupG F left k g < 128
  | 0, g, h => h
  | k + 1, g, h => by
    unfold groupG; split
    · exact h
    · exact groupG_lt hF k _ (grow_lt hF h).1
theorem group_lt {F : List Nat} {left a : Nat} (hF : ∀ f ∈ F, f < 128) (_hl : left < 128) (ha : a < 7) : groupB F left a < 128 := groupG_lt hF _ _ (pow_lt7 ha)
theorem groupG_has {F : List Nat} {left x : Nat} : ∀ k g, g.testBit x = true → (groupG F left k g).testBit x = true
  | 0, g, h => h
  | k + 1, g, h => by
    unfold groupG; split
    · exact h
    · exact groupG_has k _ ((growK_bit 7 x).2 (Or.inl h))
theorem group_has (F : List Nat) (left a : Nat) : (groupB F left a).testBit a = true := groupG_has _ _ (Nat.testBit_two_pow_self)
theorem group_dif (F : List Nat) {m : Nat} (h : m ≠ 0) : dif m (groupB F m (low m)) < m := by
  have h1 := dif_le m (groupB F m (low m))
  have h2 : dif m (groupB F m (low m)) ≠ m := fun e => by
    have := dif_bit m (groupB F m (low m)) (low m)
    rw [e, (low_spec h).1, group_has] at this
    cases this
  omega
def oddG (F : List Nat) : Nat → Nat → Nat
  | 0, _ => 0
  | k + 1, m => if m = 0 then 0 else onesB (groupB F m (low m)) % 2 + oddG F k (dif m (groupB F m (low m)))
/-- How many groups have an odd number of chairs. -/
def oddB (F : List Nat) (m : Nat) : Nat := oddG F m m
theorem oddG_fuel {F : List Nat} : ∀ (k m l : Nat), m ≤ k → m ≤ l → oddG F k m = oddG F l m
  | 0, m, l, h, _ => by
    obtain rfl : m = 0 := by omega
    cases l <;> simp [oddG]
  | k + 1, m, 0, _, h => by
    obtain rfl : m = 0 := by omega
    simp [oddG]
  | k + 1, m, l + 1, h, h' => by
    simp only [oddG]
    by_cases hm : m = 0
    · rw [if_pos hm, if_pos hm]
    · rw [if_neg hm, if_neg hm]
      have := group_dif F hm
      rw [oddG_fuel k _ l (by omega) (by omega)]
theorem oddB_eq {F : List Nat} {m : Nat} (h : m ≠ 0) : oddB F m = onesB (groupB F m (low m)) % 2 + oddB F (dif m (groupB F m (low m))) := by
  obtain ⟨k, rfl⟩ : ∃ k, m = k + 1 := ⟨m - 1, by omega⟩
  have := group_dif F h
  show oddG F (k + 1) (k + 1) = _
  rw [oddG, if_neg h, oddG_fuel k _ _ (by omega) (Nat.le_refl _)]; rfl
theorem oddB_le (F : List Nat) : ∀ m, m < 128 → oddB F m ≤ onesB m := by
  intro m
  induction m using Nat.strongRecOn with
  | _ m ih =>
    intro hm
    by_cases h0 : m = 0
    · subst h0; exact Nat.zero_le _
    · have hlt := group_dif F h0
      have h1 := ih _ hlt (by omega)
      have h2 : onesB (dif m (groupB F m (low m))) + 1 ≤ onesB m := filter_lt (fun x hx => by rw [dif_bit] at hx; simp at hx; exact hx.1) (a := low m) (low_spec h0).1 (by rw [dif_bit, group_has]; simp) (List.mem_range.2 (low7 hm h0))
      rw [oddB_eq h0]; omega
/-- The bound of a proof. -/
def boundB (s : Sc) (pr : Nat) : Nat := s.whole + (onesB s.broken + onesB pr - oddB s.fits (dif s.broken pr)) / 2
def bitsK (m k : Nat) : List Int := ((List.range k).filter fun i => m.testBit i).map fun i : Nat => (i : Int)
def bitsL (m : Nat) : List Int := bitsK m 7
theorem bitsK_len (m k : Nat) : (bitsK m k).length ≤ k := by
  have := List.length_filter_le (fun i => m.testBit i) (List.range k)
  simpa [bitsK] using this
theorem bitsK_yes {m i : Nat} (h : m.testBit i = true) : bitsK m (i + 1) = bitsK m i ++ [(i : Int)] := by
  unfold bitsK; rw [List.range_succ, List.filter_append, List.map_append]; simp [h]
theorem bitsK_no {m i : Nat} (h : m.testBit i = false) : bitsK m (i + 1) = bitsK m i := by
  unfold bitsK; rw [List.range_succ, List.filter_append, List.map_append]; simp [h]
theorem bitsK_end {m i : Nat} (hi : i ≤ 7) (h : m >>> i = 0) : bitsK m i = bitsL m := by
  have key : ∀ j, bitsK m (i + j) = bitsK m i := by
    intro j
    induction j with
    | zero => rfl
    | succ j ih =>
      rw [← Nat.add_assoc, bitsK_no, ih]
      rw [← Nat.testBit_shiftRight, h, Nat.zero_testBit]
  have := key (7 - i)
  rw [show i + (7 - i) = 7 by omega] at this
  exact this.symm
theorem shr_pos {m i : Nat} (hm : m < 128) (h : (0 : Int) < ((m >>> i : Nat) : Int)) : i < 7 := by
  rcases Nat.lt_or_ge i 7 with hl | hl
  · exact hl
  · have h2 : 2 ^ 7 ≤ 2 ^ i := Nat.pow_le_pow_right (by omega) hl
    rw [Nat.shiftRight_eq_div_pow, Nat.div_eq_of_lt (by omega)] at h; simp at h
/-- What a list of pairs makes in a scene. -/
def makesN (s : Sc) (l : List (Int × Int)) : Nat := s.whole + (l.filter fun p => fB s.fits p.1.toNat p.2.toNat).length
def PrOk (l : List (Int × Int)) : Prop := ∀ p ∈ l, ∃ x z : Nat, p = ((x : Int), (z : Int)) ∧ x < 7 ∧ z < 7
theorem makes_le (s : Sc) (l : List (Int × Int)) : makesN s l ≤ s.whole + l.length := by
  have := List.length_filter_le (fun p : Int × Int => fB s.fits p.1.toNat p.2.toNat) l
  unfold makesN; omega
theorem makes_step {s : Sc} {l : List (Int × Int)} {k x z : Nat} (h : l[k]? = some ((x : Int), (z : Int))) : ((makesN s (l.take (k + 1)) : Nat) : Int) = (makesN s (l.take k) : Int) + ((((s.fits.getD x 0) >>> z : Nat) : Int) % 2) := by
  rw [bit_mod]
  unfold makesN
  rw [List.take_add_one, h, Option.toList_some, List.filter_append, List.length_append]
  have : ([((x : Int), (z : Int))].filter fun p : Int × Int => fB s.fits p.1.toNat p.2.toNat).length = if (s.fits.getD x 0).testBit z = true then 1 else 0 := by
    show (List.filter (fun p : Int × Int => (s.fits.getD p.1.toNat 0).testBit p.2.toNat) [((x : Int), (z : Int))]).length = _
    rw [List.filter_cons]
    simp only [Int.toNat_natCast]
    split <;> rfl
  rw [this]
  split <;> omega
/-- A list of pairs is read: which chairs it has. -/
def prS (n : Nat) : Option Nat → Int × Int → Option Nat
  | some s, p => if ((!inB p.1 0 ((n : Int) - 1) || !inB p.2 (p.1 + 1) ((n : Int) - 1)) || decide ((((s >>> p.1.toNat) ||| (s >>> p.2.toNat) : Nat) : Int) % 2 = 1)) = true then none else some (s ||| (2 ^ p.1.toNat ||| 2 ^ p.2.toNat))
  | none, _ => none
def prB (n : Nat) (l : List (Int × Int)) : Option Nat := l.foldl (prS n) (some 0)
theorem prB_snoc {n k : Nat} {l : List (Int × Int)} {p : Int × Int} (h : l[k]? = some p) : prB n (l.take (k + 1)) = prS n (prB n (l.take k)) p := by
  unfold prB; rw [List.take_add_one, h, Option.toList_some, List.foldl_append]; rfl
theorem prB_in1 {n : Int} {a : Int} (h : (!inB a 0 n) = false) : 0 ≤ a ∧ a ≤ n := by
  simp only [Bool.not_eq_false'] at h; exact inB_iff.1 h
theorem prB_in {n : Int} {a b : Int} (h : (!inB a 0 n || !inB b (a + 1) n) = false) : 0 ≤ a ∧ a ≤ n ∧ a + 1 ≤ b ∧ b ≤ n := by
  simp only [Bool.or_eq_false_iff, Bool.not_eq_false'] at h
  have h1 := inB_iff.1 h.1
  have h2 := inB_iff.1 h.2
  exact ⟨h1.1, h1.2, h2.1, h2.2⟩
theorem or_lt7 {a b : Nat} (ha : a < 128) (hb : b < 128) : a ||| b < 128 := Nat.or_lt_two_pow (n := 7) ha hb
theorem prS_yes {n s : Nat} {a b : Int} (hn : n ≤ 7) (hs : s < 128) (h : ((!inB a 0 ((n : Int) - 1) || !inB b (a + 1) ((n : Int) - 1)) || decide ((((s >>> a.toNat) ||| (s >>> b.toNat) : Nat) : Int) % 2 = 1)) = false) :
    ∃ x z : Nat, a = x ∧ b = z ∧ x < 7 ∧ z < 7 ∧ prS n (some s) ((x : Int), (z : Int)) = some (s ||| (2 ^ x ||| 2 ^ z)) ∧ s ||| (2 ^ x ||| 2 ^ z) < 128 := by
  have h' := Bool.or_eq_false_iff.1 h
  obtain ⟨h1, h2, h3, h4⟩ := prB_in h'.1
  obtain ⟨x, rfl⟩ := Int.eq_ofNat_of_zero_le h1
  obtain ⟨z, rfl⟩ := Int.eq_ofNat_of_zero_le (show 0 ≤ b by omega)
  refine ⟨x, z, rfl, rfl, by omega, by omega, ?_, or_lt7 hs (or_lt7 (pow_lt7 (by omega)) (pow_lt7 (by omega)))⟩
  show (if _ then none else _) = _
  rw [if_neg (by rw [h]; simp)]; rfl
theorem prB_none {n : Nat} : ∀ l : List (Int × Int), l.foldl (prS n) none = none
  | [] => rfl
  | _ :: l => prB_none l
theorem prB_no {n s k : Nat} {l : List (Int × Int)} {a b : Int} (hp : l[k]? = some (a, b)) (h3 : prB n (l.take k) = some s) (_hn : n ≤ 7) (_hs : s < 128) (h : ((!inB a 0 ((n : Int) - 1) || !inB b (a + 1) ((n : Int) - 1)) || decide ((((s >>> a.toNat) ||| (s >>> b.toNat) : Nat) : Int) % 2 = 1)) = true) : prB n l = none := by
  have e : prB n (l.take (k + 1)) = none := by
    rw [prB_snoc hp, h3]; show (if _ then none else _) = _; rw [if_pos h]
  rw [← List.take_append_drop (k + 1) l]
  unfold prB at e ⊢
  rw [List.foldl_append, e]; exact prB_none _
theorem ones_ok (m : Nat) (D : Data) (hm : m < 128) : Fn Try.prog 111 #[.int .i64 (m : Int)] D (fun _ v => v = .int .i64 (onesB m : Int)) := by
  refine enter 12 Try.func111 rfl rfl rfl rfl fun h0 => ?_
  refine C.seq ?_
  refine C.region [(false,0)] rfl ?_
  refine L.assign rfl rfl rfl trivial ?_
  refine L.nil ?_
  refine C.next ?_
  refine C.seq ?_
  refine C.block ?_
  refine C.loopC (γ := Nat × Nat) (fun g => g.1) (fun g => g.1 < 128 ∧ g.2 + onesB g.1 = onesB m ∧ g.2 ≤ 7) (fun g => [(0, .int .i64 (g.1 : Int)), (2, .int .i64 (g.2 : Int))]) [] (fun g => [D]) (m, 0) ⟨hm, by simp, by omega⟩ ⟨(by first | rfl | (show some (Value.int _ _) = some (Value.int _ _); congr 2; omega)), (by first | rfl | (show some (Value.int _ _) = some (Value.int _ _); congr 2; omega)), trivial⟩ trivial (ds_same) ?_
  rintro ⟨c, n⟩ ⟨h1, h2, h3⟩
  simp only at h1 h2 h3
  refine C.seq ?_
  refine C.seq ?_
  refine C.region [(false,0),(false,1)] rfl ?_
  refine L.move rfl rfl rfl trivial ?_
  refine L.neq rfl rfl rfl rfl trivial ?_
  refine L.nil ?_
  refine C.next ?_
  refine C.condD rfl (fun hc1 => ?_) (fun hc1 => ?_)
  · have hc0 : c ≠ 0 := by omega
    obtain ⟨hs1, hs2⟩ := ones_step c h1 hc0
    have hol := onesB_le m
    refine C.skip ?_
    refine C.next ?_
    refine C.seq ?_
    refine C.block ?_
    refine C.region [(false,0),(false,1),(false,2)] rfl ?_
    refine L.move rfl rfl rfl trivial ?_
    refine L.add rfl rfl rfl (by simp only [inK]; omega) rfl trivial ?_
    refine L.assign rfl rfl rfl trivial ?_
    refine L.nil ?_
    refine C.blockEnd ?_
    refine C.next ?_
    refine C.region [(false,0),(false,1),(false,2),(false,3),(false,4)] rfl ?_
    refine L.move rfl rfl rfl trivial ?_
    refine L.move rfl rfl rfl trivial ?_
    refine L.sub rfl rfl rfl (by simp only [inK]; omega) rfl trivial ?_
    refine L.andN (m := c) (n := c - 1) rfl rfl (by show some (Value.int _ _) = some (Value.int _ _); congr 2; simp only; omega) (by omega) (by omega) rfl trivial ?_
    refine L.assign rfl rfl rfl trivial ?_
    refine L.nil ?_
    exact C.againR 12 (c &&& (c - 1), n + 1) ⟨by simp only; omega, by simp only; omega, by simp only; omega⟩ (by simp only; omega) ⟨(by show some (Value.int _ _) = some (Value.int _ _); congr 2), (by first | rfl | (show some (Value.int _ _) = some (Value.int _ _); congr 2; omega)), trivial⟩ rfl rfl (List.Sublist.refl _) (ds_same)
  · obtain rfl : c = 0 := by omega
    have h20 : onesB 0 = 0 := by decide
    refine C.exit ?_
    refine C.thenExit ?_
    refine C.thenExit ?_
    refine C.blockExit ?_
    refine C.next ?_
    refine C.seq ?_
    refine C.region [(false,0),(false,1)] rfl ?_
    refine L.move rfl rfl rfl trivial ?_
    refine L.assign rfl rfl rfl trivial ?_
    refine L.nil ?_
    refine C.next ?_
    refine C.ret ?_
    exact leave (vs := [_]) rfl rfl rfl ⟨rfl, trivial⟩ (fun D hD => by show Value.int _ _ = _; congr 1; simp only; omega)
theorem group0_ok (w b : Nat) (a0 a1 a2 a3 a4 a5 a6 : Nat) (left from_ : Nat) (D : Data) (hF : ∀ f ∈ [a0, a1, a2, a3, a4, a5, a6], f < 128) (hl : left < 128) (hf : from_ < 7) : Fn Try.prog 110 #[.agg #[.int .i64 (w : Int), .int .i64 (b : Int), .int .i64 (a0 : Int), .int .i64 (a1 : Int), .int .i64 (a2 : Int), .int .i64 (a3 : Int), .int .i64 (a4 : Int), .int .i64 (a5 : Int), .int .i64 (a6 : Int)], .int .i64 (left : Int), .int .i64 (from_ : Int)] D (fun _ v => v = .int .i64 (groupB [a0, a1, a2, a3, a4, a5, a6] left from_ : Int)) := by
  have hp2 := pow_lt7 hf
  refine enter 35 Try.func110 rfl rfl rfl rfl fun h0 => ?_
  refine C.seq ?_
  refine C.region [(false,0),(false,1)] rfl ?_
  refine L.boxD rfl rfl rfl rfl trivial (fun q1 E1 hE1 hB1 => ?_)
  refine L.assign rfl rfl rfl trivial ?_
  refine L.nil ?_
  refine C.next ?_
  refine C.seq ?_
  refine C.region [(false,0),(false,1),(false,2)] rfl ?_
  refine L.move rfl rfl rfl trivial ?_
  refine L.shl1 rfl rfl rfl (by omega) rfl trivial ?_
  refine L.assign rfl rfl rfl trivial ?_
  refine L.nil ?_
  refine C.next ?_
  refine C.block ?_
  refine C.loopC (γ := Nat × Nat) (fun g => g.2) (fun g => g.1 < 128 ∧ 128 ≤ g.1 + g.2 ∧ groupG [a0, a1, a2, a3, a4, a5, a6] left g.2 g.1 = groupB [a0, a1, a2, a3, a4, a5, a6] left from_) (fun g => [(7, .int .i64 (g.1 : Int))]) [(6, _), (3, _), (1, _)] (fun g => [E1, D]) (2 ^ from_, 128) ⟨by omega, by simp only; exact Nat.le_add_left _ _, rfl⟩ ⟨(by first | rfl | (show some (Value.int _ _) = some (Value.int _ _); congr 2; omega)), trivial⟩ ⟨rfl, rfl, rfl, trivial⟩ (ds_same) ?_
  rintro ⟨g, k⟩ ⟨h1, h2, h3⟩
  simp only at h1 h2 h3
  have hk0 : k ≠ 0 := by omega
  obtain ⟨k, rfl⟩ : ∃ j, k = j + 1 := ⟨k - 1, by omega⟩
  refine C.block ?_
  refine C.seq ?_
  refine C.region [(false,0),(false,1)] rfl ?_
  refine L.move rfl rfl rfl trivial ?_
  refine L.assign rfl rfl rfl trivial ?_
  refine L.nil ?_
  refine C.next ?_
  refine C.seq ?_
  refine C.seq ?_
  refine C.region [(false,0)] rfl ?_
  refine L.move rfl rfl rfl trivial ?_
  refine L.nil ?_
  refine C.next ?_
  refine C.block ?_
  refine C.loopC (γ := Nat) (fun i => 7 - i) (fun i => i ≤ 7) (fun i => [(13, .int .i64 (i : Int)), (8, .int .i64 (growK [a0, a1, a2, a3, a4, a5, a6] left g i : Int))]) [(12, _), (7, _), (6, _), (3, _), (1, _)] (fun i => [E1, D]) 0 (by omega) ⟨(by first | rfl | (show some (Value.int _ _) = some (Value.int _ _); congr 2; omega)), (by first | rfl | (show some (Value.int _ _) = some (Value.int _ _); congr 2; omega)), trivial⟩ ⟨rfl, rfl, rfl, rfl, rfl, trivial⟩ (ds_same) ?_
  rintro i h4
  refine C.seq ?_
  refine C.region [(false,0)] rfl ?_
  refine L.lss rfl rfl rfl rfl trivial ?_
  refine L.nil ?_
  refine C.next ?_
  refine C.seq ?_
  refine C.condD rfl (fun hc1 => ?_) (fun hc1 => ?_)
  · have hi : i < 7 := by omega
    have hrow := row_lt hF i
    have hgk := growK_lt hF h1 i (left := left)
    have hand := Nat.and_le_right (n := [a0, a1, a2, a3, a4, a5, a6].getD i 0) (m := left)
    refine C.skip ?_
    refine C.next ?_
    refine C.seq ?_
    refine C.block ?_
    refine C.seq ?_
    refine C.region [(false,0),(false,1)] rfl ?_
    refine L.move rfl rfl rfl trivial ?_
    refine L.assign rfl rfl rfl trivial ?_
    refine L.nil ?_
    refine C.next ?_
    refine C.seq ?_
    refine C.region [(false,0),(false,1),(false,2),(false,3),(false,4)] rfl ?_
    refine L.move rfl rfl rfl trivial ?_
    refine L.move rfl rfl rfl trivial ?_
    refine L.shrN rfl rfl rfl (by omega) rfl trivial ?_
    refine L.rem rfl rfl rfl (Int.natCast_nonneg _) (by omega) (by rw [bit_mod]; split <;> simp only [inK] <;> omega) rfl trivial ?_
    refine L.eql rfl rfl rfl rfl trivial ?_
    refine L.nil ?_
    refine C.next ?_
    refine C.condD rfl (fun hc2 => ?_) (fun hc2 => ?_)
    · have hbit : g.testBit i = true := by rw [bit_mod] at hc2; simpa using hc2
      refine C.region [(false,0),(false,1),(false,2),(false,3),(false,4),(false,5),(false,6),(false,7),(false,8)] rfl ?_
      refine L.move rfl rfl rfl trivial ?_
      refine L.move rfl rfl rfl trivial ?_
      refine L.fieldAddr rfl Tf.f126_2 rfl rfl trivial ?_
      refine L.indexA rfl Try.underlying124 Tf.s3 rfl rfl (by omega) (by omega) rfl trivial ?_
      refine L.loadD1 (o := 0 + 1 + 1) (k := i * 1) rfl Tf.a3 rfl hB1.tail.tail (by simp) (sp_row a0 a1 a2 a3 a4 a5 a6 (by omega)) List.not_mem_nil rfl trivial ?_
      refine L.move rfl rfl rfl trivial ?_
      refine L.andN rfl rfl rfl (by first | omega | (simp only; omega)) (by first | omega | (simp only; omega)) rfl trivial ?_
      refine L.orB rfl rfl rfl (by first | omega | (simp only; omega)) (by first | omega | (simp only; omega)) rfl trivial ?_
      refine L.assign rfl rfl rfl trivial ?_
      refine L.nil ?_
      refine C.blockEnd ?_
      refine C.next ?_
      refine C.region [(false,0),(false,1)] rfl ?_
      refine L.add rfl rfl rfl (by simp only [inK]; omega) rfl trivial ?_
      refine L.move rfl rfl rfl trivial ?_
      refine L.nil ?_
      exact C.againR 21 (i + 1) (by omega) (by omega) ⟨(by first | rfl | (show some (Value.int _ _) = some (Value.int _ _); congr 2; omega)), (by rw [growK_yes hbit]; rfl), trivial⟩ rfl rfl (List.Sublist.refl _) (ds_same)
    · have hbit : g.testBit i = false := by rw [bit_mod] at hc2; simpa using hc2
      refine C.skip ?_
      refine C.blockEnd ?_
      refine C.next ?_
      refine C.region [(false,0),(false,1)] rfl ?_
      refine L.add rfl rfl rfl (by simp only [inK]; omega) rfl trivial ?_
      refine L.move rfl rfl rfl trivial ?_
      refine L.nil ?_
      exact C.againR 12 (i + 1) (by omega) (by omega) ⟨(by first | rfl | (show some (Value.int _ _) = some (Value.int _ _); congr 2; omega)), (by rw [growK_no hbit]; rfl), trivial⟩ rfl rfl (List.Sublist.refl _) (ds_same)
  · obtain rfl : i = 7 := by omega
    have hgr := grow_lt hF h1 (left := left)
    have hge := grow_ge [a0, a1, a2, a3, a4, a5, a6] left g
    have hgK : growK [a0, a1, a2, a3, a4, a5, a6] left g 7 = growB [a0, a1, a2, a3, a4, a5, a6] left g := rfl
    rw [hgK]
    refine C.exit ?_
    refine C.thenExit ?_
    refine C.thenExit ?_
    refine C.blockExit ?_
    refine C.next ?_
    refine C.seq ?_
    refine C.seq ?_
    refine C.region [(false,0),(false,1),(false,2)] rfl ?_
    refine L.move rfl rfl rfl trivial ?_
    refine L.move rfl rfl rfl trivial ?_
    refine L.eql rfl rfl rfl rfl trivial ?_
    refine L.nil ?_
    refine C.next ?_
    refine C.condD rfl (fun hc3 => ?_) (fun hc3 => ?_)
    · refine C.seq ?_
      refine C.region [(false,0),(false,1)] rfl ?_
      refine L.move rfl rfl rfl trivial ?_
      refine L.assign rfl rfl rfl trivial ?_
      refine L.nil ?_
      refine C.next ?_
      refine C.ret ?_
      refine C.thenRet ?_
      refine C.blockRet ?_
      refine C.thenRet ?_
      refine C.blockRet ?_
      exact leave (vs := [_]) rfl rfl rfl ⟨rfl, trivial⟩ (fun D hD => by show Value.int _ _ = _; rw [← h3, groupG, if_pos (by omega)])
    · have hne : growB [a0, a1, a2, a3, a4, a5, a6] left g ≠ g := by omega
      refine C.skip ?_
      refine C.next ?_
      refine C.region [(false,0),(false,1)] rfl ?_
      refine L.move rfl rfl rfl trivial ?_
      refine L.assign rfl rfl rfl trivial ?_
      refine L.nil ?_
      refine C.blockEnd ?_
      exact C.againR 10 (growB [a0, a1, a2, a3, a4, a5, a6] left g, k) ⟨hgr.1, by simp only; omega, by simp only; rw [← h3, groupG, if_neg (by omega)]⟩ (by simp only; omega) ⟨(by first | rfl | (show some (Value.int _ _) = some (Value.int _ _); congr 2; omega)), trivial⟩ rfl rfl (List.Sublist.refl _) (ds_same)
theorem bound0_ok (w b : Nat) (a0 a1 a2 a3 a4 a5 a6 : Nat) (pr : Nat) (D : Data) (hF : ∀ f ∈ [a0, a1, a2, a3, a4, a5, a6], f < 128) (hw : w ≤ 7) (hb : b < 128) (hp : pr < 128) : Fn Try.prog 82 #[.agg #[.int .i64 (w : Int), .int .i64 (b : Int), .int .i64 (a0 : Int), .int .i64 (a1 : Int), .int .i64 (a2 : Int), .int .i64 (a3 : Int), .int .i64 (a4 : Int), .int .i64 (a5 : Int), .int .i64 (a6 : Int)], .int .i64 (pr : Int)] D (fun _ v => v = .int .i64 (boundB ⟨w, b, [a0, a1, a2, a3, a4, a5, a6]⟩ pr : Int)) := by
  have hdl := dif_le b pr
  have ho1 := onesB_le b
  have ho2 := onesB_le pr
  have hodd := oddB_le [a0, a1, a2, a3, a4, a5, a6] (dif b pr) (by omega)
  have hod2 := onesB_mono b pr
  refine enter 39 Try.func82 rfl rfl rfl rfl fun h0 => ?_
  refine C.seq ?_
  refine C.region [(false,0),(false,1)] rfl ?_
  refine L.boxD rfl rfl rfl rfl trivial (fun q1 E1 hE1 hB1 => ?_)
  refine L.assign rfl rfl rfl trivial ?_
  refine L.nil ?_
  refine C.next ?_
  refine C.seq ?_
  refine C.region [(false,0),(false,1),(false,2),(false,3),(false,4),(false,5)] rfl ?_
  refine L.fieldAddr rfl Tf.f126_1 rfl rfl trivial ?_
  refine L.loadD1 rfl (k := 1) Tf.a3 rfl hB1 (by first | simp | assumption) rfl List.not_mem_nil rfl trivial ?_
  refine L.move rfl rfl rfl trivial ?_
  refine L.difN rfl rfl rfl (by omega) (by omega) rfl trivial ?_
  refine L.assign rfl rfl rfl trivial ?_
  refine L.assign rfl rfl rfl trivial ?_
  refine L.nil ?_
  refine C.next ?_
  refine C.seq ?_
  refine C.block ?_
  refine C.loopC (γ := Nat × Nat) (fun g => g.1) (fun g => g.1 < 128 ∧ g.2 + oddB [a0, a1, a2, a3, a4, a5, a6] g.1 = oddB [a0, a1, a2, a3, a4, a5, a6] (dif b pr)) (fun g => [(5, .int .i64 (g.1 : Int)), (6, .int .i64 (g.2 : Int))]) [(4, _), (2, _), (1, _)] (fun g => [E1, D]) (dif b pr, 0) ⟨by simp only; omega, by simp⟩ ⟨(by first | rfl | (show some (Value.int _ _) = some (Value.int _ _); congr 2; omega)), (by first | rfl | (show some (Value.int _ _) = some (Value.int _ _); congr 2; omega)), trivial⟩ ⟨rfl, rfl, rfl, trivial⟩ (ds_same) ?_
  rintro ⟨m, od⟩ ⟨h1, h2⟩
  simp only at h1 h2
  refine C.seq ?_
  refine C.seq ?_
  refine C.region [(false,0),(false,1)] rfl ?_
  refine L.move rfl rfl rfl trivial ?_
  refine L.neq rfl rfl rfl rfl trivial ?_
  refine L.nil ?_
  refine C.next ?_
  refine C.condD rfl (fun hc1 => ?_) (fun hc1 => ?_)
  · have hm0 : m ≠ 0 := by omega
    have hlow := low_spec hm0
    have hl7 := low7 h1 hm0
    have hgl := group_lt hF h1 hl7
    have hlt := group_dif [a0, a1, a2, a3, a4, a5, a6] hm0
    have ho3 := onesB_le (groupB [a0, a1, a2, a3, a4, a5, a6] m (low m))
    have hoe := oddB_eq (F := [a0, a1, a2, a3, a4, a5, a6]) hm0
    have hodl := oddB_le [a0, a1, a2, a3, a4, a5, a6] (dif b pr) (by omega)
    refine C.skip ?_
    refine C.next ?_
    refine C.block ?_
    refine C.seq ?_
    refine C.draw [] 2 [0,1,2,3,4,5] [false,true,true,true,false,false] [(false,0),(true,1),(true,2),(true,3),(false,4),(false,5)] Tf.follows (fun _ _ _ h => np_body (P := Try.prog) (fn := Try.f82) _ _ _ h) (by kernel_rfl) rfl ?_
    refine L.loadDW rfl Tf.a126 rfl hB1 (by first | simp | assumption) Tf.s126 List.not_mem_nil rfl trivial ?_
    refine L.move rfl rfl rfl trivial ?_
    refine L.move rfl rfl rfl trivial ?_
    refine L.callV rfl rfl rfl (fun D1 hD1 => lowest_ok m (low m) _ hlow.1 (by omega) hlow.2) rfl trivial ?_
    refine L.callV rfl rfl rfl (fun D2 hD2 => group0_ok w b a0 a1 a2 a3 a4 a5 a6 m (low m) _ hF h1 hl7) rfl trivial ?_
    refine L.assign rfl rfl rfl trivial ?_
    refine L.nil ?_
    refine C.next ?_
    refine C.seq ?_
    refine C.region [(false,0),(false,1),(false,2),(false,3),(false,4),(false,5)] rfl ?_
    refine L.move rfl rfl rfl trivial ?_
    refine L.move rfl rfl rfl trivial ?_
    refine L.callV rfl rfl rfl (fun D3 hD3 => ones_ok (groupB [a0, a1, a2, a3, a4, a5, a6] m (low m)) _ hgl) rfl trivial ?_
    refine L.rem rfl rfl rfl (Int.natCast_nonneg _) (by omega) (by simp only [inK]; omega) rfl trivial ?_
    refine L.add rfl rfl rfl (by simp only [inK]; omega) rfl trivial ?_
    refine L.assign rfl rfl rfl trivial ?_
    refine L.nil ?_
    refine C.next ?_
    refine C.region [(false,0),(false,1),(false,2),(false,3)] rfl ?_
    refine L.move rfl rfl rfl trivial ?_
    refine L.move rfl rfl rfl trivial ?_
    refine L.difN rfl rfl rfl (by first | omega | (simp only; omega)) (by first | omega | (simp only; omega)) rfl trivial ?_
    refine L.assign rfl rfl rfl trivial ?_
    refine L.nil ?_
    refine C.blockEnd ?_
    exact C.againR 20 (dif m (groupB [a0, a1, a2, a3, a4, a5, a6] m (low m)), od + onesB (groupB [a0, a1, a2, a3, a4, a5, a6] m (low m)) % 2) ⟨by simp only; omega, by simp only; rw [← h2, oddB_eq hm0]; omega⟩ (by simp only; omega) ⟨(by first | rfl | (show some (Value.int _ _) = some (Value.int _ _); congr 2; omega)), (by first | rfl | (show some (Value.int _ _) = some (Value.int _ _); congr 2; omega)), trivial⟩ rfl rfl (List.Sublist.refl _) (ds_same)
  · obtain rfl : m = 0 := by omega
    have h20 : oddB [a0, a1, a2, a3, a4, a5, a6] 0 = 0 := rfl
    refine C.exit ?_
    refine C.thenExit ?_
    refine C.thenExit ?_
    refine C.blockExit ?_
    refine C.next ?_
    refine C.seq ?_
    refine C.draw [] 6 [0,1,2,3,5,8,4,6,7,9,10,11,12] [false,false,true,true,true,true,true,true,true,true,true,false,false] [(false,0),(false,1),(true,2),(true,3),(true,5),(true,8),(true,4),(true,6),(true,7),(true,9),(true,10),(false,11),(false,12)] Tf.follows (fun _ _ _ h => np_body (P := Try.prog) (fn := Try.f82) _ _ _ h) (by kernel_rfl) rfl ?_
    refine L.fieldAddr rfl Tf.f126_0 rfl rfl trivial ?_
    refine L.loadD1 rfl (k := 0) Tf.a3 rfl hB1 (by first | simp | assumption) rfl List.not_mem_nil rfl trivial ?_
    refine L.fieldAddr rfl Tf.f126_1 rfl rfl trivial ?_
    refine L.loadD1 rfl (k := 1) Tf.a3 rfl hB1 (by first | simp | assumption) rfl List.not_mem_nil rfl trivial ?_
    refine L.move rfl rfl rfl trivial ?_
    refine L.move rfl rfl rfl trivial ?_
    refine L.callV rfl rfl rfl (fun D4 hD4 => ones_ok b _ hb) rfl trivial ?_
    refine L.callV rfl rfl rfl (fun D5 hD5 => ones_ok pr _ hp) rfl trivial ?_
    refine L.add rfl rfl rfl (by simp only [inK]; omega) rfl trivial ?_
    refine L.sub rfl rfl rfl (by simp only [inK]; omega) rfl trivial ?_
    refine L.quo rfl rfl rfl (by omega) (by omega) (by simp only [inK]; omega) rfl trivial ?_
    refine L.add rfl rfl rfl (by simp only [inK]; omega) rfl trivial ?_
    refine L.assign rfl rfl rfl trivial ?_
    refine L.nil ?_
    refine C.next ?_
    refine C.ret ?_
    exact leave (vs := [_]) rfl rfl rfl ⟨rfl, trivial⟩ (fun D hD => by show Value.int _ _ = _; congr 1; unfold boundB; simp only; omega)
theorem bound_ok (s : Sc) (pr : Nat) (hs : ∀ f ∈ s.fits, f < 128) (hw : s.whole ≤ 7) (hb : s.broken < 128) (hp : pr < 128) (D : Data) (hs7 : s.fits.length = 7) : Fn Try.prog 82 #[.agg (ints (scI s)).toArray, .int .i64 (pr : Int)] D (fun _ v => v = .int .i64 (boundB s pr : Int)) := by
  obtain ⟨w, b, F⟩ := s
  obtain ⟨a0, a1, a2, a3, a4, a5, a6, rfl⟩ := list7 hs7
  exact bound0_ok w b a0 a1 a2 a3 a4 a5 a6 pr D hs hw hb hp
theorem chairs_ok (m : Nat) (D : Data) (hm : m < 128) : Fn Try.prog 83 #[.int .i64 (m : Int)] D (fun D' v => Sl D' RI 1 v (bitsL m)) := by
  refine enter 20 Try.func83 rfl rfl rfl rfl fun h0 => ?_
  refine C.seq ?_
  refine C.region [(false,0)] rfl ?_
  refine L.assign rfl rfl rfl trivial ?_
  refine L.nil ?_
  refine C.next ?_
  refine C.seq ?_
  refine C.seq ?_
  refine C.region [(false,0)] rfl ?_
  refine L.assign rfl rfl rfl trivial ?_
  refine L.nil ?_
  refine C.next ?_
  refine C.block ?_
  refine C.loopR (γ := Nat × Value × Boxes) (fun g => 7 - g.1) (fun g => g.1 ≤ 7 ∧ Acc 3 1 g.2.1 (bitsK m g.1).length (ints (bitsK m g.1)) g.2.2) (fun g => [(3, .int .i64 (g.1 : Int)), (2, g.2.1)]) [(0, _)] (fun g => g.2.2 ++ []) (fun g => [D]) (0, .slice none 0 0, []) ⟨by simp, by simpa [bitsK, ints] using Acc.nil⟩ ⟨(by first | rfl | (show some (Value.int _ _) = some (Value.int _ _); congr 2; omega)), (by first | rfl | (show some (Value.int _ _) = some (Value.int _ _); congr 2; omega)), trivial⟩ ⟨rfl, trivial⟩ (List.Sublist.refl _) (ds_same) ?_
  rintro ⟨i, v, ν⟩ ⟨h1, ha⟩
  simp only at h1 ha
  have hbl := bitsK_len m i
  refine C.seq ?_
  refine C.seq ?_
  refine C.region [(false,0),(false,1),(false,2),(false,3)] rfl ?_
  refine L.move rfl rfl rfl trivial ?_
  refine L.move rfl rfl rfl trivial ?_
  refine L.shrN rfl rfl rfl (by first | omega | (simp only; omega)) rfl trivial ?_
  refine L.gtr rfl rfl rfl rfl trivial ?_
  refine L.nil ?_
  refine C.next ?_
  refine C.condD rfl (fun hc1 => ?_) (fun hc1 => ?_)
  · have hi7 : i < 7 := shr_pos hm hc1
    refine C.skip ?_
    refine C.next ?_
    refine C.seq ?_
    refine C.block ?_
    refine C.seq ?_
    refine C.region [(false,0),(false,1),(false,2),(false,3),(false,4)] rfl ?_
    refine L.move rfl rfl rfl trivial ?_
    refine L.move rfl rfl rfl trivial ?_
    refine L.shrN rfl rfl rfl (by first | omega | (simp only; omega)) rfl trivial ?_
    refine L.rem rfl rfl rfl (Int.natCast_nonneg _) (by omega) (by rw [bit_mod]; split <;> simp only [inK] <;> omega) rfl trivial ?_
    refine L.eql rfl rfl rfl rfl trivial ?_
    refine L.nil ?_
    refine C.next ?_
    refine C.condD rfl (fun hc2 => ?_) (fun hc2 => ?_)
    · have hbit : m.testBit i = true := by rw [bit_mod] at hc2; simpa using hc2
      refine C.region [(false,0),(false,1),(false,2),(false,3),(false,4)] rfl ?_
      refine L.move rfl rfl rfl trivial ?_
      refine L.move rfl rfl rfl trivial ?_
      refine L.buildSlice rfl Try.underlying52 Tf.s3 Tf.z3 rfl rfl rfl rfl (.cons rfl rfl .nil) rfl trivial (fun b901 D901 hD901 hA901 => ?_)
      have hS901 := Sl.ofInts (l := [_]) (n := 1) (cap := 1) hA901 rfl (by omega) (by omega)
      refine L.append (A := []) (B := _) rfl Try.underlying52 rfl rfl Tf.s3 Tf.z3 rfl Tf.i3 rfl rfl rfl ha (Src.lit hA901) (by simp) rfl (by simp) (by simp [cell1]) (by omega) (Or.inl rfl) rfl trivial (fun v1 ν1 ha1 => ?_)
      refine L.assign rfl rfl rfl trivial ?_
      refine L.nil ?_
      refine C.blockEnd ?_
      refine C.next ?_
      refine C.region [(false,0),(false,1),(false,2)] rfl ?_
      refine L.move rfl rfl rfl trivial ?_
      refine L.add rfl rfl rfl (by simp only [inK]; omega) rfl trivial ?_
      refine L.assign rfl rfl rfl trivial ?_
      refine L.nil ?_
      exact C.againR 19 (i + 1, v1, ν1) ⟨by simp only; omega, by simp only; rw [bitsK_yes hbit]; simpa [ints] using ha1⟩ (by simp only; omega) ⟨(by first | rfl | (show some (Value.int _ _) = some (Value.int _ _); congr 2; omega)), (by first | rfl | (show some (Value.int _ _) = some (Value.int _ _); congr 2; omega)), trivial⟩ rfl rfl (List.Sublist.refl _) (fun D h => ⟨D, List.Mem.tail _ (h), Le.refl D⟩)
    · have hbit : m.testBit i = false := by rw [bit_mod] at hc2; simpa using hc2
      refine C.skip ?_
      refine C.blockEnd ?_
      refine C.next ?_
      refine C.region [(false,0),(false,1),(false,2)] rfl ?_
      refine L.move rfl rfl rfl trivial ?_
      refine L.add rfl rfl rfl (by simp only [inK]; omega) rfl trivial ?_
      refine L.assign rfl rfl rfl trivial ?_
      refine L.nil ?_
      exact C.againR 14 (i + 1, v, ν) ⟨by simp only; omega, by simp only; rw [bitsK_no hbit]; exact ha⟩ (by simp only; omega) ⟨(by first | rfl | (show some (Value.int _ _) = some (Value.int _ _); congr 2; omega)), (by first | rfl | (show some (Value.int _ _) = some (Value.int _ _); congr 2; omega)), trivial⟩ rfl rfl (List.Sublist.refl _) (ds_same)
  · have hz : m >>> i = 0 := by simp only at hc1; generalize m >>> i = s at hc1; omega
    have hbk := bitsK_end h1 hz
    have hb7 : (bitsL m).length ≤ 7 := bitsK_len m 7
    refine C.exit ?_
    refine C.thenExit ?_
    refine C.thenExit ?_
    refine C.blockExit ?_
    refine C.next ?_
    refine C.seq ?_
    refine C.region [(false,0),(false,1)] rfl ?_
    refine L.move rfl rfl rfl trivial ?_
    refine L.assign rfl rfl rfl trivial ?_
    refine L.nil ?_
    refine C.next ?_
    refine C.ret ?_
    rw [hbk] at ha
    refine Q.freeze (A := []) (B := []) ha rfl (fun D2 hD2 hF2 => ?_)
    exact leave (vs := [_]) rfl rfl rfl ⟨rfl, trivial⟩ (fun D' hD => (hF2.ints rfl (by omega)).up RI.up (hD _ (by simp)))
theorem makes0_ok (w b : Nat) (a0 a1 a2 a3 a4 a5 a6 : Nat) (lv : Value) (l : List (Int × Int)) (D : Data) (_hF : ∀ f ∈ [a0, a1, a2, a3, a4, a5, a6], f < 128) (hw : w ≤ 7) (hl : Sl D R2 2 lv l) (hp : PrOk l) (hlen : l.length ≤ 1000) : Fn Try.prog 79 #[.agg #[.int .i64 (w : Int), .int .i64 (b : Int), .int .i64 (a0 : Int), .int .i64 (a1 : Int), .int .i64 (a2 : Int), .int .i64 (a3 : Int), .int .i64 (a4 : Int), .int .i64 (a5 : Int), .int .i64 (a6 : Int)], lv] D (fun _ v => v = .int .i64 (makesN ⟨w, b, [a0, a1, a2, a3, a4, a5, a6]⟩ l : Int)) := by
  have hll := hl.len
  refine enter 29 Try.func79 rfl rfl rfl rfl fun h0 => ?_
  refine C.seq ?_
  refine C.region [(false,0),(false,1)] rfl ?_
  refine L.boxD rfl rfl rfl rfl trivial (fun q1 E1 hE1 hB1 => ?_)
  refine L.assign rfl rfl rfl trivial ?_
  refine L.nil ?_
  refine C.next ?_
  refine C.seq ?_
  refine C.region [(false,0),(false,1),(false,2)] rfl ?_
  refine L.fieldAddr rfl Tf.f126_0 rfl rfl trivial ?_
  refine L.loadD1 rfl (k := 0) Tf.a3 rfl hB1 (by first | simp | assumption) rfl List.not_mem_nil rfl trivial ?_
  refine L.assign rfl rfl rfl trivial ?_
  refine L.nil ?_
  refine C.next ?_
  refine C.seq ?_
  refine C.seq ?_
  refine C.region [(false,0),(false,1),(false,2)] rfl ?_
  refine L.move rfl rfl rfl trivial ?_
  refine L.len rfl Try.underlying30 rfl hl rfl rfl trivial ?_
  refine L.move rfl rfl rfl trivial ?_
  refine L.nil ?_
  refine C.next ?_
  refine C.block ?_
  refine C.loopC (γ := Nat) (fun k => l.length - k) (fun k => k ≤ l.length) (fun k => [(12, .int .i64 (k : Int)), (5, .int .i64 (makesN ⟨w, b, [a0, a1, a2, a3, a4, a5, a6]⟩ (l.take k) : Int))]) [(11, _), (10, _), (4, _), (2, _)] (fun k => [E1, D]) 0 (by omega) ⟨(by first | rfl | (show some (Value.int _ _) = some (Value.int _ _); congr 2; omega)), (by simp [makesN]; rfl), trivial⟩ ⟨rfl, rfl, rfl, rfl, trivial⟩ (ds_same) ?_
  rintro k h1
  refine C.seq ?_
  refine C.region [(false,0)] rfl ?_
  refine L.lss rfl rfl rfl rfl trivial ?_
  refine L.nil ?_
  refine C.next ?_
  refine C.seq ?_
  refine C.condD rfl (fun hc1 => ?_) (fun hc1 => ?_)
  · have hk : k < l.length := by omega
    obtain ⟨p, hp0⟩ : ∃ p, l[k]? = some p := ⟨_, List.getElem?_eq_getElem hk⟩
    obtain ⟨x, z, rfl, hx7, hz7⟩ := hp p (List.mem_of_getElem? hp0)
    have hml := makes_le ⟨w, b, [a0, a1, a2, a3, a4, a5, a6]⟩ (l.take k)
    have htl : (l.take k).length ≤ k := List.length_take_le _ _
    simp only at hml
    refine C.skip ?_
    refine C.next ?_
    refine C.seq ?_
    refine C.block ?_
    refine C.seq ?_
    refine C.region [(false,0),(false,1),(false,2),(false,3)] rfl ?_
    refine L.indexS rfl Try.underlying30 Tf.s111 rfl hl rfl (by omega) hp0 rfl trivial (fun b1 o1 cs1 hr1 hcl1 hA1 => ?_)
    obtain rfl : cs1 = [.int .i64 _, .int .i64 _] := hr1
    refine L.loadDW rfl Tf.a111 rfl hA1 (by first | simp | assumption) Tf.s111 List.not_mem_nil rfl trivial ?_
    refine L.alloc rfl Tf.z111 rfl rfl trivial (fun q2 => ?_)
    refine L.storeW rfl rfl rfl rfl Tf.s111 (by first | rfl | (simp only [ints_length, *]; done) | (simp only [ints_length, *]; rfl) | (simp only [ints_length, *]; omega)) (by first | rfl | (simp only [ints_length, *]; done) | (simp only [ints_length, *]; rfl) | (simp only [ints_length, *]; omega)) (Has.head) (by first | exact ints_cell1 _ | simp [cell1]) trivial ?_
    refine L.nil ?_
    refine C.next ?_
    refine C.draw [] 6 [0,1,2,3,4,5,6,7,8,9,10,11] [false,true,true,true,true,true,true,true,true,true,false,false] [(false,0),(true,1),(true,2),(true,3),(true,4),(true,5),(true,6),(true,7),(true,8),(true,9),(false,10),(false,11)] Tf.follows (fun _ _ _ h => np_body (P := Try.prog) (fn := Try.f79) _ _ _ h) (by kernel_rfl) rfl ?_
    refine L.move rfl rfl rfl trivial ?_
    refine L.fieldAddr rfl Tf.f111_0 rfl rfl trivial ?_
    refine L.loadB1 rfl Tf.a3 rfl (List.Mem.head _) rfl List.not_mem_nil rfl trivial ?_
    refine L.fieldAddr rfl Tf.f126_2 rfl rfl trivial ?_
    refine L.indexA rfl Try.underlying124 Tf.s3 rfl rfl (by omega) (by omega) rfl trivial ?_
    refine L.loadD1 (o := 0 + 1 + 1) (k := x * 1) rfl Tf.a3 rfl hB1.tail.tail (by simp) (sp_row a0 a1 a2 a3 a4 a5 a6 hx7) List.not_mem_nil rfl trivial ?_
    refine L.fieldAddr rfl Tf.f111_1 rfl rfl trivial ?_
    refine L.loadB1 rfl Tf.a3 rfl (List.Mem.head _) rfl List.not_mem_nil rfl trivial ?_
    refine L.shrN rfl rfl rfl (by omega) rfl trivial ?_
    refine L.rem rfl rfl rfl (Int.natCast_nonneg _) (by omega) (by rw [bit_mod]; split <;> simp only [inK] <;> omega) rfl trivial ?_
    refine L.add rfl rfl rfl (by rw [bit_mod]; simp only [inK]; split <;> omega) rfl trivial ?_
    refine L.assign rfl rfl rfl trivial ?_
    refine L.nil ?_
    refine C.blockEnd ?_
    refine C.next ?_
    refine C.region [(false,0),(false,1)] rfl ?_
    refine L.add rfl rfl rfl (by simp only [inK]; omega) rfl trivial ?_
    refine L.move rfl rfl rfl trivial ?_
    refine L.nil ?_
    exact C.againR 20 (k + 1) (by omega) (by omega) ⟨(by first | rfl | (show some (Value.int _ _) = some (Value.int _ _); congr 2; omega)), (by rw [makes_step hp0]; rfl), trivial⟩ rfl rfl (List.Sublist.cons _ (List.Sublist.refl _)) (ds_same)
  · obtain rfl : k = l.length := by omega
    rw [List.take_length]
    refine C.exit ?_
    refine C.thenExit ?_
    refine C.thenExit ?_
    refine C.blockExit ?_
    refine C.next ?_
    refine C.seq ?_
    refine C.region [(false,0),(false,1)] rfl ?_
    refine L.move rfl rfl rfl trivial ?_
    refine L.assign rfl rfl rfl trivial ?_
    refine L.nil ?_
    refine C.next ?_
    refine C.ret ?_
    exact leave (vs := [_]) rfl rfl rfl ⟨rfl, trivial⟩ (fun D hD => rfl)
theorem makes_ok (s : Sc) (lv : Value) (l : List (Int × Int)) (hs : ∀ f ∈ s.fits, f < 128) (hw : s.whole ≤ 7) (hp : PrOk l) (hlen : l.length ≤ 1000) (D : Data) (hl : Sl D R2 2 lv l) (hs7 : s.fits.length = 7) : Fn Try.prog 79 #[.agg (ints (scI s)).toArray, lv] D (fun _ v => v = .int .i64 (makesN s l : Int)) := by
  obtain ⟨w, b, F⟩ := s
  obtain ⟨a0, a1, a2, a3, a4, a5, a6, rfl⟩ := list7 hs7
  exact makes0_ok w b a0 a1 a2 a3 a4 a5 a6 lv l D hs hw hl hp hlen
theorem paired_ok (yv lv : Value) (y : YardD) (l : List (Int × Int)) (D : Data) (hy : YardIs D yv y) (hl : Sl D R2 2 lv l) (hn7 : y.chairs.length ≤ 7) : Fn Try.prog 78 #[yv, lv] D (fun _ v => v = .bool (prB y.chairs.length l).isSome) := by
  obtain ⟨cv, qv, rfl, hc, hq⟩ := hy
  have hll := hl.len
  refine enter 58 Try.func78 rfl rfl rfl rfl fun h0 => ?_
  refine C.seq ?_
  refine C.region [(false,0),(false,1)] rfl ?_
  refine L.boxD rfl rfl rfl rfl trivial (fun q1 E1 hE1 hB1 => ?_)
  refine L.assign rfl rfl rfl trivial ?_
  refine L.nil ?_
  refine C.next ?_
  refine C.seq ?_
  refine C.region [(false,0)] rfl ?_
  refine L.assign rfl rfl rfl trivial ?_
  refine L.nil ?_
  refine C.next ?_
  refine C.seq ?_
  refine C.seq ?_
  refine C.region [(false,0),(false,1),(false,2)] rfl ?_
  refine L.move rfl rfl rfl trivial ?_
  refine L.len rfl Try.underlying30 rfl hl rfl rfl trivial ?_
  refine L.move rfl rfl rfl trivial ?_
  refine L.nil ?_
  refine C.next ?_
  refine C.block ?_
  refine C.loopC (γ := Nat × Nat) (fun g => l.length - g.1) (fun g => g.1 ≤ l.length ∧ g.2 < 128 ∧ prB y.chairs.length (l.take g.1) = some g.2) (fun g => [(10, .int .i64 (g.1 : Int)), (5, .int .i64 (g.2 : Int))]) [(9, _), (8, _), (4, _), (2, _)] (fun g => [E1, D]) (0, 0) ⟨by simp, by simp, rfl⟩ ⟨(by first | rfl | (show some (Value.int _ _) = some (Value.int _ _); congr 2; omega)), (by first | rfl | (show some (Value.int _ _) = some (Value.int _ _); congr 2; omega)), trivial⟩ ⟨rfl, rfl, rfl, rfl, trivial⟩ (ds_same) ?_
  rintro ⟨k, sn⟩ ⟨h1, h2, h3⟩
  simp only at h1 h2 h3
  refine C.seq ?_
  refine C.region [(false,0)] rfl ?_
  refine L.lss rfl rfl rfl rfl trivial ?_
  refine L.nil ?_
  refine C.next ?_
  refine C.seq ?_
  refine C.condD rfl (fun hc1 => ?_) (fun hc1 => ?_)
  · have hk : k < l.length := by omega
    obtain ⟨⟨pa, pb⟩, hp0⟩ : ∃ p, l[k]? = some p := ⟨_, List.getElem?_eq_getElem hk⟩
    refine C.skip ?_
    refine C.next ?_
    refine C.seq ?_
    refine C.block ?_
    refine C.seq ?_
    refine C.region [(false,0),(false,1),(false,2),(false,3)] rfl ?_
    refine L.indexS rfl Try.underlying30 Tf.s111 rfl hl rfl (by omega) hp0 rfl trivial (fun b1 o1 cs1 hr1 hcl1 hA1 => ?_)
    obtain rfl : cs1 = [.int .i64 _, .int .i64 _] := hr1
    refine L.loadDW rfl Tf.a111 rfl hA1 (by first | simp | assumption) Tf.s111 List.not_mem_nil rfl trivial ?_
    refine L.alloc rfl Tf.z111 rfl rfl trivial (fun q2 => ?_)
    refine L.storeW rfl rfl rfl rfl Tf.s111 (by first | rfl | (simp only [ints_length, *]; done) | (simp only [ints_length, *]; rfl) | (simp only [ints_length, *]; omega)) (by first | rfl | (simp only [ints_length, *]; done) | (simp only [ints_length, *]; rfl) | (simp only [ints_length, *]; omega)) (Has.head) (by first | exact ints_cell1 _ | simp [cell1]) trivial ?_
    refine L.nil ?_
    refine C.next ?_
    refine C.seq ?_
    refine C.seq ?_
    refine C.draw [] 8 [0,1,2,3,4,5,6,7,8,9,10,11,12,13,14,15,16,17,18,19,20,21,22,23,24,25,26,27,28,29,30,31,32,33] [false,false,true,true,true,true,false,false,false,false,false,true,true,true,true,true,true,true,false,false,false,false,false,true,true,false,true,true,true,true,false,false,false,false] [(false,0),(false,1),(true,2),(true,3),(true,4),(true,5),(false,6),(false,7),(false,8),(false,9),(false,10),(true,11),(true,12),(true,13),(true,14),(true,15),(true,16),(true,17),(false,18),(false,19),(false,20),(false,21),(false,22),(true,23),(true,24),(false,25),(true,26),(true,27),(true,28),(true,29),(false,30),(false,31),(false,32),(false,33)] Tf.follows (fun _ _ _ h => np_body (P := Try.prog) (fn := Try.f78) _ _ _ h) (by kernel_rfl) rfl ?_
    refine L.fieldAddr rfl Tf.f111_0 rfl rfl trivial ?_
    refine L.loadB1 rfl Tf.a3 rfl (List.Mem.head _) rfl List.not_mem_nil rfl trivial ?_
    refine L.fieldAddr rfl Tf.f37_0 rfl rfl trivial ?_
    refine L.loadD1 rfl (k := 0) Tf.a34 rfl hB1 (by first | simp | assumption) rfl List.not_mem_nil rfl trivial ?_
    refine L.len rfl Try.underlying34 rfl hc rfl rfl trivial ?_
    refine L.sub rfl rfl rfl (by simp only [inK]; omega) rfl trivial ?_
    refine L.callV rfl rfl rfl (fun D1 hD1 => within_ok _ _ _ _) rfl trivial ?_
    refine L.not rfl rfl rfl trivial ?_
    refine L.move rfl rfl rfl trivial ?_
    refine' L.or [(false,9),(false,10),(true,11),(true,12),(true,13),(true,14),(true,15),(true,16),(true,17),(false,18),(false,19),(false,20)] [(false,21),(false,22),(true,23),(true,24),(false,25),(true,26),(true,27),(true,28),(true,29),(false,30),(false,31),(false,32),(false,33)] (s := 22) (p := 34) rfl rfl (fun hg1 => ?_) (fun hg1 => ?_) ?_
    rotate_left
    · obtain ⟨ha4, hb4⟩ := prB_in1 hg1
      refine L.fieldAddr rfl Tf.f111_1 rfl rfl ⟨_, rfl, rfl⟩ ?_
      refine L.loadB1 rfl Tf.a3 rfl (List.Mem.head _) rfl List.not_mem_nil rfl ⟨_, rfl, rfl⟩ ?_
      refine L.fieldAddr rfl Tf.f111_0 rfl rfl ⟨_, rfl, rfl⟩ ?_
      refine L.loadB1 rfl Tf.a3 rfl (List.Mem.head _) rfl List.not_mem_nil rfl ⟨_, rfl, rfl⟩ ?_
      refine L.add rfl rfl rfl (by simp only [inK]; omega) rfl ⟨_, rfl, rfl⟩ ?_
      refine L.fieldAddr rfl Tf.f37_0 rfl rfl ⟨_, rfl, rfl⟩ ?_
      refine L.loadD1 rfl (k := 0) Tf.a34 rfl hB1 (by first | simp | assumption) rfl List.not_mem_nil rfl ⟨_, rfl, rfl⟩ ?_
      refine L.len rfl Try.underlying34 rfl hc rfl rfl ⟨_, rfl, rfl⟩ ?_
      refine L.sub rfl rfl rfl (by simp only [inK]; omega) rfl ⟨_, rfl, rfl⟩ ?_
      refine L.callV rfl rfl rfl (fun D2 hD2 => within_ok _ _ _ _) rfl ⟨_, rfl, rfl⟩ ?_
      refine L.not rfl rfl rfl ⟨_, rfl, rfl⟩ ?_
      refine L.pickF rfl rfl rfl rfl trivial ?_
      exact L.nil fun a w hh => hh.cutK 11 rfl
    · refine L.pass rfl rfl rfl ⟨_, _, rfl, rfl, rfl⟩ ?_
      refine L.pass rfl rfl rfl ⟨_, _, rfl, rfl, rfl⟩ ?_
      refine L.pass rfl rfl rfl ⟨_, _, rfl, rfl, rfl⟩ ?_
      refine L.pass rfl rfl rfl ⟨_, _, rfl, rfl, rfl⟩ ?_
      refine L.pass rfl rfl rfl ⟨_, _, rfl, rfl, rfl⟩ ?_
      refine L.pass rfl rfl rfl ⟨_, _, rfl, rfl, rfl⟩ ?_
      refine L.pass rfl rfl rfl ⟨_, _, rfl, rfl, rfl⟩ ?_
      refine L.pass rfl rfl rfl ⟨_, _, rfl, rfl, rfl⟩ ?_
      refine L.pass rfl rfl rfl ⟨_, _, rfl, rfl, rfl⟩ ?_
      refine L.pass rfl rfl rfl ⟨_, _, rfl, rfl, rfl⟩ ?_
      refine L.pass rfl rfl rfl ⟨_, _, rfl, rfl, rfl⟩ ?_
      refine L.pickT rfl rfl rfl rfl trivial ?_
      exact L.nil fun a w hh => hh.cutK 11 rfl
    refine L.move rfl rfl rfl trivial ?_
    refine' L.or [(false,22),(true,23),(true,24),(false,25),(true,26),(true,27),(true,28),(true,29),(false,30),(false,31),(false,32),(false,33)] [] (s := 35) (p := 47) rfl rfl (fun hg2 => ?_) (fun hg2 => ?_) ?_
    rotate_left
    · obtain ⟨ha5, hb5, hc5, hd5⟩ := prB_in hg2
      have hsr1 : sn >>> pa.toNat ≤ sn := Nat.shiftRight_le _ _
      have hsr2 : sn >>> pb.toNat ≤ sn := Nat.shiftRight_le _ _
      refine L.move rfl rfl rfl ⟨_, rfl, rfl⟩ ?_
      refine L.fieldAddr rfl Tf.f111_0 rfl rfl ⟨_, rfl, rfl⟩ ?_
      refine L.loadB1 rfl Tf.a3 rfl (List.Mem.head _) rfl List.not_mem_nil rfl ⟨_, rfl, rfl⟩ ?_
      refine L.shrN (m := sn) (n := pa.toNat) rfl rfl (by show some (Value.int _ _) = some (Value.int _ _); congr 2; omega) (by omega) rfl ⟨_, rfl, rfl⟩ ?_
      refine L.move rfl rfl rfl ⟨_, rfl, rfl⟩ ?_
      refine L.fieldAddr rfl Tf.f111_1 rfl rfl ⟨_, rfl, rfl⟩ ?_
      refine L.loadB1 rfl Tf.a3 rfl (List.Mem.head _) rfl List.not_mem_nil rfl ⟨_, rfl, rfl⟩ ?_
      refine L.shrN (m := sn) (n := pb.toNat) rfl rfl (by show some (Value.int _ _) = some (Value.int _ _); congr 2; omega) (by omega) rfl ⟨_, rfl, rfl⟩ ?_
      refine L.orB rfl rfl rfl (by omega) (by omega) rfl ⟨_, rfl, rfl⟩ ?_
      refine L.rem rfl rfl rfl (Int.natCast_nonneg _) (by omega) (by simp only [inK]; omega) rfl ⟨_, rfl, rfl⟩ ?_
      refine L.eql rfl rfl rfl rfl ⟨_, rfl, rfl⟩ ?_
      refine L.pickF rfl rfl rfl rfl trivial ?_
      exact L.nil fun a w hh => hh.cutK 11 rfl
    · refine L.pass rfl rfl rfl ⟨_, _, rfl, rfl, rfl⟩ ?_
      refine L.pass rfl rfl rfl ⟨_, _, rfl, rfl, rfl⟩ ?_
      refine L.pass rfl rfl rfl ⟨_, _, rfl, rfl, rfl⟩ ?_
      refine L.pass rfl rfl rfl ⟨_, _, rfl, rfl, rfl⟩ ?_
      refine L.pass rfl rfl rfl ⟨_, _, rfl, rfl, rfl⟩ ?_
      refine L.pass rfl rfl rfl ⟨_, _, rfl, rfl, rfl⟩ ?_
      refine L.pass rfl rfl rfl ⟨_, _, rfl, rfl, rfl⟩ ?_
      refine L.pass rfl rfl rfl ⟨_, _, rfl, rfl, rfl⟩ ?_
      refine L.pass rfl rfl rfl ⟨_, _, rfl, rfl, rfl⟩ ?_
      refine L.pass rfl rfl rfl ⟨_, _, rfl, rfl, rfl⟩ ?_
      refine L.pass rfl rfl rfl ⟨_, _, rfl, rfl, rfl⟩ ?_
      refine L.pickT rfl rfl rfl rfl trivial ?_
      exact L.nil fun a w hh => hh.cutK 11 rfl
    refine L.nil ?_
    refine C.next ?_
    refine C.cond rfl (fun hc2 => ?_) (fun hc2 => ?_)
    · refine C.seq ?_
      refine C.region [(false,0)] rfl ?_
      refine L.assign rfl rfl rfl trivial ?_
      refine L.nil ?_
      refine C.next ?_
      refine C.ret ?_
      refine C.thenRet ?_
      refine C.blockRet ?_
      refine C.thenRet ?_
      refine C.thenRet ?_
      refine C.blockRet ?_
      refine C.thenRet ?_
      exact leave (vs := [_]) rfl rfl rfl ⟨rfl, trivial⟩ (fun D hD => by show Value.bool _ = _; rw [prB_no hp0 h3 hn7 h2 hc2]; rfl)
    · obtain ⟨x, z, rfl, rfl, hx7, hz7, hst, hor⟩ := prS_yes hn7 h2 hc2
      have hxp := pow_lt7 hx7
      have hzp := pow_lt7 hz7
      have hxz := or_lt7 hxp hzp
      refine C.skip ?_
      refine C.next ?_
      refine C.draw [] 4 [0,1,2,3,4,5,6,7,8,9] [false,true,true,true,true,true,true,true,false,false] [(false,0),(true,1),(true,2),(true,3),(true,4),(true,5),(true,6),(true,7),(false,8),(false,9)] Tf.follows (fun _ _ _ h => np_body (P := Try.prog) (fn := Try.f78) _ _ _ h) (by kernel_rfl) rfl ?_
      refine L.move rfl rfl rfl trivial ?_
      refine L.fieldAddr rfl Tf.f111_0 rfl rfl trivial ?_
      refine L.loadB1 rfl Tf.a3 rfl (List.Mem.head _) rfl List.not_mem_nil rfl trivial ?_
      refine L.shl1 rfl rfl rfl (by omega) rfl trivial ?_
      refine L.fieldAddr rfl Tf.f111_1 rfl rfl trivial ?_
      refine L.loadB1 rfl Tf.a3 rfl (List.Mem.head _) rfl List.not_mem_nil rfl trivial ?_
      refine L.shl1 rfl rfl rfl (by omega) rfl trivial ?_
      refine L.orB rfl rfl rfl (by omega) (by omega) rfl trivial ?_
      refine L.orB rfl rfl rfl (by first | omega | (simp only; omega)) (by first | omega | (simp only; omega)) rfl trivial ?_
      refine L.assign rfl rfl rfl trivial ?_
      refine L.nil ?_
      refine C.blockEnd ?_
      refine C.next ?_
      refine C.region [(false,0),(false,1)] rfl ?_
      refine L.add rfl rfl rfl (by simp only [inK]; omega) rfl trivial ?_
      refine L.move rfl rfl rfl trivial ?_
      refine L.nil ?_
      exact C.againR 30 (k + 1, sn ||| (2 ^ x ||| 2 ^ z)) ⟨by simp only; omega, hor, by simp only; rw [prB_snoc hp0, h3]; exact hst⟩ (by simp only; omega) ⟨(by first | rfl | (show some (Value.int _ _) = some (Value.int _ _); congr 2; omega)), (by first | rfl | (show some (Value.int _ _) = some (Value.int _ _); congr 2; omega)), trivial⟩ rfl rfl (List.Sublist.cons _ (List.Sublist.refl _)) (ds_same)
  · obtain rfl : k = l.length := by omega
    rw [List.take_length] at h3
    refine C.exit ?_
    refine C.thenExit ?_
    refine C.thenExit ?_
    refine C.blockExit ?_
    refine C.next ?_
    refine C.seq ?_
    refine C.region [(false,0)] rfl ?_
    refine L.assign rfl rfl rfl trivial ?_
    refine L.nil ?_
    refine C.next ?_
    refine C.ret ?_
    exact leave (vs := [_]) rfl rfl rfl ⟨rfl, trivial⟩ (fun D hD => by show Value.bool _ = _; rw [h3]; rfl)
end Go.Fs
namespace Go.Fs
open Go.Proofs
open C7
/-- Two chairs are a pair. -/
def Wed (M : List (Nat × Nat)) (x z : Nat) : Prop := (x, z) ∈ M ∨ (z, x) ∈ M
theorem has_of {M : List (Nat × Nat)} {x : Nat} (h : x ∈ ends M) : ∃ z, Wed M x z := by
  obtain ⟨p, hp, e⟩ := mem_ends.1 h
  rcases e with rfl | rfl
  · exact ⟨p.2, Or.inl hp⟩
  · exact ⟨p.1, Or.inr hp⟩
/-- Without the pair of two chairs. -/
theorem C7.Mat.rem {f : Nat → Nat → Bool} {S : Nat → Bool} {M : List (Nat × Nat)} (hM : Mat f S M) {x z : Nat} (h : Wed M x z) : ∃ p, p ∈ M ∧ (p = (x, z) ∨ p = (z, x)) ∧ Mat f (without (without S x) z) (M.erase p) ∧ (M.erase p).length + 1 = M.length := by
  rcases h with h | h
  · have := hM.split h
    exact ⟨_, h, Or.inl rfl, this.2.1, this.2.2⟩
  · have := hM.split h
    refine ⟨_, h, Or.inr rfl, this.2.1.mono fun y hy => ?_, this.2.2⟩
    simp only [without_iff] at hy ⊢
    exact ⟨⟨hy.1.1, hy.2⟩, hy.1.2⟩
end Go.Fs
