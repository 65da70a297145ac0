/- Of the proof of MendMore: W32, W40, W41, W42. -/
import Derived.Test.YtjhdcelmgfajbaaZMendMoreK
namespace Go.Fs
open Go.Proofs
open C7
/-- Some claims are right together in a truth. -/
theorem and_same {b c : Nat} : b &&& c = c ↔ ∀ j, c.testBit j = true → b.testBit j = true := by
  constructor
  · intro h j hj
    rw [← h, Nat.testBit_and, Bool.and_eq_true] at hj
    exact hj.1
  · intro h
    apply Nat.eq_of_testBit_eq
    intro j
    rw [Nat.testBit_and]
    cases e : c.testBit j with
    | false => simp
    | true => rw [h j e]; rfl
theorem can_iff {y : YardD} (h : fault y = 0) {c : Nat} : canB y (allN y) c = true ↔ ∃ t, isTruth y t = true ∧ ∀ j, c.testBit j = true → j < y.claims.length ∧ rightB y.claims (mostT y t : Nat) j = true := by
  have hyo := yOk h
  unfold canB
  rw [List.any_eq_true]
  constructor
  · rintro ⟨m, hm, he⟩
    unfold allN at hm
    obtain ⟨n, _, rfl⟩ := List.mem_map.1 hm
    refine ⟨_, nth_truth hyo n, fun j hj => ?_⟩
    have := and_same.1 (of_decide_eq_true he) j hj
    rw [bset_bit, Bool.and_eq_true, decide_eq_true_eq] at this
    exact this
  · rintro ⟨t, ht, hr⟩
    obtain ⟨n, hn, rfl⟩ := nth_onto ht
    refine ⟨mostN y n, List.mem_map.2 ⟨n, List.mem_range.2 hn, rfl⟩, decide_eq_true (and_same.2 fun j hj => ?_)⟩
    rw [bset_bit, Bool.and_eq_true, decide_eq_true_eq]
    exact hr j hj
theorem scenes_iff {y : YardD} {out : List Int} : (0 : Int) < ((scenesD y out).length : Int) ↔ ∃ t, isTruth y t = true ∧ rightO y.claims out (mostT y t : Nat) = true := by
  rw [show ((0 : Int) < ((scenesD y out).length : Int) ↔ 0 < (scenesD y out).length) by omega, List.length_pos_iff_exists_mem]
  constructor
  · rintro ⟨p, hp⟩
    obtain ⟨t, h1, h2, _⟩ := mem_scenes.1 hp
    exact ⟨t, h1, h2⟩
  · rintro ⟨t, h1, h2⟩
    exact ⟨_, mem_scenes.2 ⟨t, h1, h2, rfl⟩⟩
theorem right_iff {cl : List (Int × Int)} {out : List Int} {n : Int} : rightO cl out n = true ↔ ∀ j, j < cl.length → (∃ x ∈ out, (j : Int) = x) ∨ rightB cl n j = true := by
  unfold rightO
  rw [List.all_eq_true]
  have key : ∀ j, j < cl.length → (rightAt cl out n j = true ↔ (∃ x ∈ out, (j : Int) = x) ∨ rightB cl n j = true) := fun j hj => by
    unfold rightAt rightB
    rw [List.getElem?_eq_getElem hj, Bool.or_eq_true, List.any_eq_true]
    simp
  exact ⟨fun h j hj => (key j hj).1 (h j (List.mem_range.2 hj)), fun h j hj => (key j (List.mem_range.1 hj)).2 (h j (List.mem_range.1 hj))⟩
theorem first_can {y : YardD} (h : fault y = 0) {i : Nat} (hi : i < y.claims.length) : firstP y i = !canB y (allN y) (2 * 2 ^ i - 1) := by
  unfold firstP
  congr 1
  rw [Bool.eq_iff_iff, decide_eq_true_eq, scenes_iff, can_iff h]
  have hl : (takeC y (i + 1)).claims.length = i + 1 := by show (y.claims.take (i + 1)).length = _; rw [List.length_take]; omega
  have hb : ∀ j n, j < i + 1 → rightB (takeC y (i + 1)).claims n j = rightB y.claims n j := fun j n hj => by
    unfold rightB
    show (match (y.claims.take (i + 1))[j]? with | some r => _ | none => _) = _
    rw [List.getElem?_take, if_pos hj]
    cases y.claims[j]? <;> rfl
  have bit : ∀ j, (2 * 2 ^ i - 1).testBit j = decide (j < i + 1) := fun j => by
    rw [show 2 * 2 ^ i = 2 ^ (i + 1) by rw [Nat.pow_succ]; omega, Nat.testBit_two_pow_sub_one]
  constructor
  · rintro ⟨t, h1, h2⟩
    refine ⟨t, h1, fun j hj => ?_⟩
    rw [bit, decide_eq_true_eq] at hj
    rcases right_iff.1 h2 j (by omega) with h3 | h3
    · simp at h3
    · exact ⟨by omega, by rw [hb j _ hj] at h3; exact h3⟩
  · rintro ⟨t, h1, h2⟩
    refine ⟨t, h1, right_iff.2 fun j hj => Or.inr ?_⟩
    rw [hb j _ (by omega)]
    exact (h2 j (by rw [bit, decide_eq_true_eq]; omega)).2
theorem find_congr {p q : Nat → Bool} : ∀ {l : List Nat}, (∀ i ∈ l, p i = q i) → l.find? p = l.find? q
  | [], _ => rfl
  | x :: l, h => by
    rw [List.find?_cons, List.find?_cons, h x List.mem_cons_self, find_congr fun i hi => h i (List.mem_cons_of_mem _ hi)]
theorem first_is {y : YardD} (h : fault y = 0) : firstV y = if 0 ≤ firstR y (allN y) then (firstR y (allN y), 0) else (0, 7) := by
  unfold firstV firstR
  rw [if_neg (by omega), find_congr (q := fun i => !canB y (allN y) (2 * 2 ^ i - 1)) fun i hi => first_can h (List.mem_range.1 hi)]
  cases (List.range y.claims.length).find? (fun i => !canB y (allN y) (2 * 2 ^ i - 1)) with
  | none => rfl
  | some i => simp only; rw [if_pos (by omega)]
/-- Lists of numbers, of one length, in lexicographic order. -/
def sets (n : Nat) : Nat → Nat → List (List Int)
  | 0, _ => [[]]
  | m + 1, f => (List.range' f (n - m - f)).flatMap fun i => (sets n m (i + 1)).map fun l => (i : Int) :: l
def allS (n : Nat) : List (List Int) := (List.range' 0 (n + 1)).flatMap fun m => sets n m 0
def pos (y : YardD) (l : List Int) : Bool := decide (0 < ((scenesD y l).length : Int))
theorem try_spec {g : Nat → List Int → Bool × List Int} {S : Nat → List (List Int)} {Q : List Int → Bool} {out : List Int} : ∀ (is : List Nat), (∀ i ∈ is, ∀ fnd, (∀ l, (S i).find? Q = some l → g i fnd = (true, out ++ l)) ∧ ((S i).find? Q = none → (g i fnd).1 = false)) →
    ∀ fnd, (∀ l, (is.flatMap S).find? Q = some l → tryL g is fnd = (true, out ++ l)) ∧ ((is.flatMap S).find? Q = none → (tryL g is fnd).1 = false)
  | [], _, fnd => ⟨fun l h => by simp at h, fun _ => rfl⟩
  | i :: is, h, fnd => by
    have h0 := h i List.mem_cons_self fnd
    rw [List.flatMap_cons, List.find?_append, tryL]
    cases e : (S i).find? Q with
    | some l =>
      have := h0.1 l e
      rw [this]
      exact ⟨fun l' hl => by rw [Option.some_or] at hl; cases hl; rfl, fun hl => by rw [Option.some_or] at hl; cases hl⟩
    | none =>
      have := h0.2 e
      rw [if_neg (by rw [this]; simp), Option.none_or]
      exact try_spec is (fun i hi => h i (List.mem_cons_of_mem _ hi)) _
theorem lvG_spec {y : YardD} : ∀ (m f : Nat) (out fnd : List Int), (∀ l, (sets y.claims.length m f).find? (fun l => pos y (out ++ l)) = some l → lvG y m f out fnd = (true, out ++ l)) ∧ ((sets y.claims.length m f).find? (fun l => pos y (out ++ l)) = none → (lvG y m f out fnd).1 = false)
  | 0, f, out, fnd => by
    have e : lvG y 0 f out fnd = (pos y out, out) := rfl
    rw [e, sets, List.find?_cons, List.append_nil]
    cases hp : pos y out with
    | true => exact ⟨fun l h => by simp only [Option.some.injEq] at h; rw [← h, List.append_nil], fun h => by simp at h⟩
    | false => exact ⟨fun l h => by simp at h, fun _ => rfl⟩
  | m + 1, f, out, fnd => by
    rw [lvG, sets]
    refine try_spec _ (fun i _ fnd => ?_) fnd
    have ih := lvG_spec (y := y) m (i + 1) (out ++ [(i : Int)]) fnd
    have e : (fun l => pos y (out ++ l)) ∘ (fun l : List Int => (i : Int) :: l) = fun l => pos y ((out ++ [(i : Int)]) ++ l) := by funext l; simp
    rw [List.find?_map, e]
    cases hf : (sets y.claims.length m (i + 1)).find? (fun l => pos y ((out ++ [(i : Int)]) ++ l)) with
    | none => exact ⟨fun l h => by simp at h, fun _ => ih.2 hf⟩
    | some l => exact ⟨fun l' h => by rw [Option.map_some, Option.some.injEq] at h; rw [ih.1 l hf, ← h]; simp, fun h => by simp at h⟩
theorem leaveV_find {y : YardD} (h : fault y = 0) {l : List Int} (hl : (allS y.claims.length).find? (pos y) = some l) : leaveV y = (l, 0) := by
  have := (try_spec (g := fun m fnd => lvG y m 0 [] fnd) (S := fun m => sets y.claims.length m 0) (Q := pos y) (out := []) (List.range' 0 (y.claims.length + 1)) (fun i _ fnd => lvG_spec i 0 [] fnd) []).1 l hl
  unfold leaveV
  rw [if_neg (by omega)]
  show ((tryL (fun m fnd => lvG y m 0 [] fnd) (List.range' 0 (y.claims.length + 1)) []).2, (0 : Int)) = _
  rw [this]; rfl
theorem lex_trans : ∀ {a b c : List Int}, lexB a b = true → lexB b c = true → lexB a c = true
  | [], b, c, h1, h2 => by
    cases b with
    | nil => simp [lexB] at h1
    | cons z b =>
      cases c with
      | nil => simp [lexB] at h2
      | cons w c => simp [lexB]
  | x :: a, b, c, h1, h2 => by
    cases b with
    | nil => simp [lexB] at h1
    | cons z b =>
      cases c with
      | nil => simp [lexB] at h2
      | cons w c =>
        rw [lexB] at h1 h2 ⊢
        split at h1 <;> split at h2
        · rename_i e1 e2; rw [if_pos (e1.trans e2)]; exact lex_trans h1 h2
        · rename_i e1 e2; have := of_decide_eq_true h2; rw [if_neg (by omega), decide_eq_true_eq]; omega
        · rename_i e1 e2; have := of_decide_eq_true h1; rw [if_neg (by omega), decide_eq_true_eq]; omega
        · rename_i e1 e2; have := of_decide_eq_true h1; have := of_decide_eq_true h2; rw [if_neg (by omega), decide_eq_true_eq]; omega
theorem short_trans {a b c : List Int} (h1 : shortB a b = true) (h2 : shortB b c = true) : shortB a c = true := by
  simp only [shortB, Bool.or_eq_true, Bool.and_eq_true, decide_eq_true_eq] at *
  rcases h1 with h1 | h1 <;> rcases h2 with h2 | h2
  · left; omega
  · left; omega
  · left; omega
  · right; exact ⟨by omega, lex_trans h1.2 h2.2⟩
theorem sets_facts : ∀ n, n ≤ 5 → (allS n).Pairwise (fun a b => shortB a b = true) ∧ (∀ b, b < 2 ^ n → bitsL b ∈ allS n) ∧ ∀ l ∈ allS n, ∃ b, b < 2 ^ n ∧ l = bitsL b := by decide +kernel
theorem mem_bits {m j : Nat} : (∃ x ∈ bitsL m, (j : Int) = x) ↔ j < 7 ∧ m.testBit j = true := by
  unfold bitsL bitsK
  constructor
  · rintro ⟨x, hx, e⟩
    obtain ⟨i, hi, rfl⟩ := List.mem_map.1 hx
    obtain rfl : j = i := by omega
    rw [List.mem_filter, List.mem_range] at hi; exact hi
  · rintro ⟨h1, h2⟩
    exact ⟨(j : Int), List.mem_map.2 ⟨j, List.mem_filter.2 ⟨List.mem_range.2 h1, h2⟩, rfl⟩, rfl⟩
theorem pos_can {y : YardD} (h : fault y = 0) {b : Nat} : pos y (bitsL b) = canB y (allN y) (dif (2 ^ y.claims.length - 1) b) := by
  have h5 := (yOk h).cls
  unfold pos
  have bit : ∀ j, (dif (2 ^ y.claims.length - 1) b).testBit j = (decide (j < y.claims.length) && !b.testBit j) := fun j => by rw [dif_bit, Nat.testBit_two_pow_sub_one]
  rw [Bool.eq_iff_iff, decide_eq_true_eq, scenes_iff, can_iff h]
  constructor
  · rintro ⟨t, h1, h2⟩
    refine ⟨t, h1, fun j hj => ?_⟩
    rw [bit, Bool.and_eq_true, decide_eq_true_eq, Bool.not_eq_true'] at hj
    refine ⟨hj.1, ?_⟩
    rcases right_iff.1 h2 j hj.1 with h3 | h3
    · rw [(mem_bits.1 h3).2] at hj; simp at hj
    · exact h3
  · rintro ⟨t, h1, h2⟩
    refine ⟨t, h1, right_iff.2 fun j hj => ?_⟩
    cases e : b.testBit j with
    | true => exact Or.inl (mem_bits.2 ⟨by omega, e⟩)
    | false => exact Or.inr (h2 j (by rw [bit, e]; simp [hj])).2
theorem lex_irr : ∀ a : List Int, lexB a a = false
  | [] => rfl
  | x :: a => by rw [lexB, if_pos rfl]; exact lex_irr a
theorem best_inv {y : YardD} (h : fault y = 0) : ∀ k, k ≤ 2 ^ y.claims.length → (∃ b, b < 2 ^ y.claims.length ∧ bestK y (allN y) k = bitsL b ∧ pos y (bitsL b) = true) ∧ ∀ b, b < k → pos y (bitsL b) = true → shortB (bitsL b) (bestK y (allN y) k) = false
  | 0, _ => by
    have hp1 : 1 ≤ 2 ^ y.claims.length := Nat.one_le_two_pow
    refine ⟨⟨2 ^ y.claims.length - 1, by omega, rfl, ?_⟩, by omega⟩
    rw [pos_can h, can_iff h]
    refine ⟨_, nth_truth (yOk h) 0, fun j hj => ?_⟩
    rw [dif_bit] at hj; simp at hj
  | k + 1, hk => by
    obtain ⟨⟨b0, h0, e0, p0⟩, h1⟩ := best_inv h k (by omega)
    rw [bestK_succ]
    unfold bestS
    split
    · rename_i hc
      rw [Bool.and_eq_true, ← pos_can h] at hc
      refine ⟨⟨k, by omega, rfl, hc.2⟩, fun b hb hp => ?_⟩
      cases e : shortB (bitsL b) (bitsL k) with
      | false => rfl
      | true =>
        have h2 := short_trans e hc.1
        rcases Nat.lt_succ_iff_lt_or_eq.1 hb with hb | rfl
        · rw [h1 b hb hp] at h2; cases h2
        · exfalso
          simp only [shortB, Bool.or_eq_true, Bool.and_eq_true, decide_eq_true_eq] at e
          rcases e with e | e
          · omega
          · exact absurd e.2 (by rw [lex_irr]; simp)
    · rename_i hc
      refine ⟨⟨b0, h0, e0, p0⟩, fun b hb hp => ?_⟩
      rcases Nat.lt_succ_iff_lt_or_eq.1 hb with hb | rfl
      · exact h1 b hb hp
      · rw [← pos_can h, hp, Bool.and_true] at hc
        simpa using hc
theorem leave_is {y : YardD} (h : fault y = 0) : leaveV y = (leaveR y (allN y), 0) := by
  obtain ⟨f1, f2, f3⟩ := sets_facts _ (yOk h).cls
  obtain ⟨⟨b0, h0, e0, p0⟩, h1⟩ := best_inv h (2 ^ y.claims.length) (Nat.le_refl _)
  have hm := f2 b0 h0
  cases e : (allS y.claims.length).find? (pos y) with
  | none => rw [List.find?_eq_none] at e; exact absurd p0 (e _ hm)
  | some l =>
    rw [leaveV_find h e]
    obtain ⟨hp, L1, L2, el, hn⟩ := List.find?_eq_some_iff_append.1 e
    rw [el] at hm f1
    obtain ⟨b1, g1, rfl⟩ := f3 l (List.mem_of_find?_eq_some e)
    have hL := h1 b1 g1 hp
    unfold leaveR
    rw [e0] at hL ⊢
    rcases List.mem_append.1 hm with hm | hm
    · have := hn _ hm; rw [p0] at this; simp at this
    · rcases List.mem_cons.1 hm with hm | hm
      · rw [hm]
      · have := (List.pairwise_cons.1 (List.pairwise_append.1 f1).2.1).1 _ hm
        rw [hL] at this; cases this
end Go.Fs
namespace Go.Fs
open Go.Proofs
open C7
/-- A truth of the yard. -/
def Tr (y : YardD) (t : List Pt) : Prop := isTruth y t = true ∧ rightO y.claims [] ((mostT y t : Nat) : Int) = true
theorem sc_tr {y : YardD} : scenesD y [] ≠ [] ↔ ∃ t, Tr y t := by
  rw [show scenesD y [] ≠ [] ↔ (0 : Int) < ((scenesD y []).length : Int) by rw [Ne, ← List.length_eq_zero_iff]; omega, scenes_iff]; rfl
theorem ask_iff {y : YardD} (h : fault y = 0) : askS y = 0 ↔ ∃ t, Tr y t := by
  rw [← sc_tr]
  unfold askS
  rw [if_neg (by omega), Ne, ← ns_nil (yOk h)]
  constructor
  · intro e hn; rw [if_pos hn] at e; cases e
  · intro e; rw [if_neg e]
theorem mm_fold : ∀ (l : List Int) (r : Int × Int), ((l.foldl (fun r n => (min r.1 n, max r.2 n)) r).1 ≤ r.1 ∧ r.2 ≤ (l.foldl (fun r n => (min r.1 n, max r.2 n)) r).2 ∧ ∀ x ∈ l, (l.foldl (fun r n => (min r.1 n, max r.2 n)) r).1 ≤ x ∧ x ≤ (l.foldl (fun r n => (min r.1 n, max r.2 n)) r).2) ∧
    ((l.foldl (fun r n => (min r.1 n, max r.2 n)) r).1 = r.1 ∨ (l.foldl (fun r n => (min r.1 n, max r.2 n)) r).1 ∈ l) ∧ ((l.foldl (fun r n => (min r.1 n, max r.2 n)) r).2 = r.2 ∨ (l.foldl (fun r n => (min r.1 n, max r.2 n)) r).2 ∈ l)
  | [], r => ⟨⟨Int.le_refl _, Int.le_refl _, by simp⟩, Or.inl rfl, Or.inl rfl⟩
  | x :: l, r => by
    rw [List.foldl_cons]
    obtain ⟨⟨h1, h2, h3⟩, h4, h5⟩ := mm_fold l (min r.1 x, max r.2 x)
    generalize l.foldl (fun r n => (min r.1 n, max r.2 n)) (min r.1 x, max r.2 x) = q at h1 h2 h3 h4 h5 ⊢
    simp only at h1 h2 h4 h5
    refine ⟨⟨by omega, by omega, fun z hz => ?_⟩, ?_, ?_⟩
    · rcases List.mem_cons.1 hz with rfl | hz
      · omega
      · exact h3 z hz
    · rcases h4 with h4 | h4
      · rcases Int.le_total r.1 x with h | h
        · exact Or.inl (by omega)
        · exact Or.inr (by rw [h4, show min r.1 x = x by omega]; exact List.mem_cons_self)
      · exact Or.inr (List.mem_cons_of_mem _ h4)
    · rcases h5 with h5 | h5
      · rcases Int.le_total r.2 x with h | h
        · exact Or.inr (by rw [h5, show max r.2 x = x by omega]; exact List.mem_cons_self)
        · exact Or.inl (by omega)
      · exact Or.inr (List.mem_cons_of_mem _ h5)
/-- The bounds, by the truths. -/
theorem bounds_char {y : YardD} (h : fault y = 0) (ht : ∃ t, Tr y t) : (boundsV y).2 = 0 ∧ (∀ t, Tr y t → (boundsV y).1.1 ≤ ((mostT y t : Nat) : Int) ∧ ((mostT y t : Nat) : Int) ≤ (boundsV y).1.2) ∧ (∃ t, Tr y t ∧ ((mostT y t : Nat) : Int) = (boundsV y).1.1) ∧ ∃ t, Tr y t ∧ ((mostT y t : Nat) : Int) = (boundsV y).1.2 := by
  have hne := sc_tr.2 ht
  have mem : ∀ z, z ∈ (scenesD y []).map (fun p => (p.2 : Int)) ↔ ∃ t, Tr y t ∧ ((mostT y t : Nat) : Int) = z := fun z => by
    rw [List.mem_map]
    constructor
    · rintro ⟨p, hp, rfl⟩
      obtain ⟨t, h1, h2, rfl⟩ := mem_scenes.1 hp
      exact ⟨t, ⟨h1, h2⟩, rfl⟩
    · rintro ⟨t, h1, rfl⟩
      exact ⟨_, mem_scenes.2 ⟨t, h1.1, h1.2, rfl⟩, rfl⟩
  have e : ∃ m l, (scenesD y []).map (fun p => (p.2 : Int)) = m :: l := by
    cases e : scenesD y [] with
    | nil => exact absurd e hne
    | cons p l => exact ⟨_, _, rfl⟩
  obtain ⟨m, l, e⟩ := e
  have eb : boundsV y = ((m :: l).foldl (fun r n => (min r.1 n, max r.2 n)) (m, m), 0) := by unfold boundsV; rw [if_neg (by omega), e]
  rw [e] at mem
  obtain ⟨⟨_, _, h3⟩, h4, h5⟩ := mm_fold (m :: l) (m, m)
  rw [eb]
  generalize (m :: l).foldl (fun r n => (min r.1 n, max r.2 n)) (m, m) = q at h3 h4 h5 ⊢
  simp only at h4 h5 ⊢
  refine ⟨trivial, fun t hT => h3 _ ((mem _).2 ⟨t, hT, rfl⟩), (mem _).1 ?_, (mem _).1 ?_⟩
  · rcases h4 with h4 | h4
    · rw [h4]; exact List.mem_cons_self
    · exact h4
  · rcases h5 with h5 | h5
    · rw [h5]; exact List.mem_cons_self
    · exact h5
theorem fold_min_char : ∀ (l : List Int) (a : Int), l.foldl min a ≤ a ∧ (∀ x ∈ l, l.foldl min a ≤ x) ∧ (l.foldl min a = a ∨ l.foldl min a ∈ l)
  | [], a => ⟨Int.le_refl _, by simp, Or.inl rfl⟩
  | x :: l, a => by
    rw [List.foldl_cons]
    obtain ⟨h1, h2, h3⟩ := fold_min_char l (min a x)
    refine ⟨by omega, fun z hz => ?_, ?_⟩
    · rcases List.mem_cons.1 hz with rfl | hz
      · omega
      · exact h2 z hz
    · rcases h3 with h3 | h3
      · rcases Int.le_total a x with h | h
        · exact Or.inl (by omega)
        · exact Or.inr (by rw [h3, show min a x = x by omega]; exact List.mem_cons_self)
      · exact Or.inr (List.mem_cons_of_mem _ h3)
/-- The sure number, by the truths. -/
theorem sure_char {y : YardD} (h : fault y = 0) (ht : ∃ t, Tr y t) : (sureV y).2.2 = 0 ∧ (∃ l, (prB y.chairs.length l).isSome = true ∧ l = (sureV y).1 ∧ ∀ t, Tr y t → (sureV y).2.1 ≤ ((makesR y t l : Nat) : Int)) ∧ ∀ l, (prB y.chairs.length l).isSome = true → ∃ t, Tr y t ∧ ((makesR y t l : Nat) : Int) ≤ (sureV y).2.1 := by
  have ha := (ask_iff h).2 ht
  have hn := (yOk h).len
  obtain ⟨h1, h2, h3, h4, h5⟩ := sure_facts ha
  have hne := sc_tr.2 ht
  have key : ∀ l : List (Int × Int), l.length ≤ 50 → (∀ t, Tr y t → sureR y (nsD y) l ≤ ((makesR y t l : Nat) : Int)) ∧ ∃ t, Tr y t ∧ ((makesR y t l : Nat) : Int) = sureR y (nsD y) l := fun l hl => by
    rw [← sure_eq ha hl]
    have mem : ∀ z, z ∈ ((scenesD y []).map fun p => p.1).map (fun s => (makesN s l : Int)) ↔ ∃ t, Tr y t ∧ ((makesR y t l : Nat) : Int) = z := fun z => by
      rw [List.map_map, List.mem_map]
      constructor
      · rintro ⟨p, hp, rfl⟩
        obtain ⟨t, g1, g2, rfl⟩ := mem_scenes.1 hp
        obtain ⟨hlen, _⟩ := truthOk g1
        exact ⟨t, ⟨g1, g2⟩, by rw [← makesN_R (show t.length ≤ 7 by omega)]; rfl⟩
      · rintro ⟨t, g1, rfl⟩
        obtain ⟨hlen, _⟩ := truthOk g1.1
        exact ⟨_, mem_scenes.2 ⟨t, g1.1, g1.2, rfl⟩, by rw [← makesN_R (show t.length ≤ 7 by omega)]; rfl⟩
    have e : ∃ s r, (scenesD y []).map (fun p => p.1) = s :: r := by
      cases e : scenesD y [] with
      | nil => exact absurd e hne
      | cons p l => exact ⟨_, _, rfl⟩
    obtain ⟨s, r, e⟩ := e
    have es : sureZ ((scenesD y []).map fun p => p.1) l = (((scenesD y []).map fun p => p.1).map fun s => (makesN s l : Int)).foldl min (makesN s l : Int) := by rw [e]; rfl
    obtain ⟨c1, c2, c3⟩ := fold_min_char (((scenesD y []).map fun p => p.1).map fun s => (makesN s l : Int)) (makesN s l : Int)
    rw [es]
    refine ⟨fun t hT => c2 _ ((mem _).2 ⟨t, hT, rfl⟩), (mem _).1 ?_⟩
    rcases c3 with c3 | c3
    · rw [c3, e]; exact List.mem_cons_self
    · exact c3
  refine ⟨h1, ⟨_, h3, rfl, fun t hT => ?_⟩, fun l hl => ?_⟩
  · have := (key (sureV y).1 (by omega)).1 t hT
    omega
  · have hl3 := (prB_ok hn hl).2
    obtain ⟨t, hT, e⟩ := (key l (by omega)).2
    have := sure_most (ns := nsD y) hl
    exact ⟨t, hT, by omega⟩
/-- Some claims (by bits) can be left out. -/
def Pos (y : YardD) (b : Nat) : Prop := ∃ t, isTruth y t = true ∧ ∀ j, j < y.claims.length → b.testBit j = true ∨ rightB y.claims ((mostT y t : Nat) : Int) j = true
theorem pos_iff {y : YardD} (h : fault y = 0) {b : Nat} (hb : b < 2 ^ y.claims.length) : pos y (bitsL b) = true ↔ Pos y b := by
  have h5 := (yOk h).cls
  have hb5 : 2 ^ y.claims.length ≤ 2 ^ 5 := Nat.pow_le_pow_right (by omega) h5
  unfold pos
  rw [decide_eq_true_eq, scenes_iff]
  have mem : ∀ j : Nat, (∃ x ∈ bitsL b, (j : Int) = x) ↔ b.testBit j = true := fun j => by
    constructor
    · rintro ⟨x, hx, rfl⟩
      exact (mem_bitsL hx).2.2
    · intro hj
      refine ⟨(j : Int), ?_, rfl⟩
      unfold bitsL bitsK
      refine List.mem_map.2 ⟨j, List.mem_filter.2 ⟨List.mem_range.2 (bit128 (by omega) hj), hj⟩, rfl⟩
  constructor
  · rintro ⟨t, h1, h2⟩
    refine ⟨t, h1, fun j hj => ?_⟩
    exact (right_iff.1 h2 j hj).imp (mem j).1 id
  · rintro ⟨t, h1, h2⟩
    exact ⟨t, h1, right_iff.2 fun j hj => (h2 j hj).imp (mem j).2 id⟩
/-- The number of claims that have to be left out. -/
theorem leave_char {y : YardD} (h : fault y = 0) : (leaveV y).2 = 0 ∧ ∃ b, b < 2 ^ y.claims.length ∧ Pos y b ∧ (leaveV y).1 = bitsL b ∧ (leaveV y).1.length = onesB b ∧ ∀ c, c < 2 ^ y.claims.length → Pos y c → onesB b ≤ onesB c := by
  obtain ⟨⟨b, h0, e, p⟩, h1⟩ := best_inv h _ (Nat.le_refl _)
  rw [e] at h1
  have el : (leaveV y).1 = bitsL b := by rw [leave_is h]; exact e
  refine ⟨by rw [leave_is h], b, h0, (pos_iff h h0).1 p, el, by rw [el, bl_len], fun c hc hp => ?_⟩
  have := h1 c hc ((pos_iff h hc).2 hp)
  unfold shortB at this
  rw [Bool.or_eq_false_iff, decide_eq_false_iff_not, bl_len, bl_len] at this
  omega
theorem pos_zero {y : YardD} : Pos y 0 ↔ ∃ t, Tr y t := by
  unfold Pos Tr
  constructor
  · rintro ⟨t, h1, h2⟩
    exact ⟨t, h1, right_iff.2 fun j hj => Or.inr ((h2 j hj).resolve_left (by rw [Nat.zero_testBit]; simp))⟩
  · rintro ⟨t, h1, h2⟩
    refine ⟨t, h1, fun j hj => Or.inr ((right_iff.1 h2 j hj).resolve_left ?_)⟩
    rintro ⟨x, hx, _⟩; simp at hx
theorem ones_zero {b : Nat} (hb : b < 128) (h : onesB b = 0) : b = 0 := Nat.eq_of_testBit_eq fun i => by
  rw [Nat.zero_testBit]
  cases e : b.testBit i with
  | false => rfl
  | true =>
    unfold onesB at h
    rw [List.length_eq_zero_iff, List.filter_eq_nil_iff] at h
    exact absurd e (h i (List.mem_range.2 (bit128 hb e)))
/-- Fewer truths: the bounds are not wider, the sure number is not less. -/
theorem fewer {x y : YardD} (hx : fault x = 0) (hy : fault y = 0) (hn : x.chairs.length = y.chairs.length) (ht : ∃ t, Tr x t) (hs : ∀ t, Tr x t → Tr y t) (hm : ∀ t, Tr x t → mostT x t = mostT y t) (hk : ∀ t l, makesR x t l = makesR y t l) :
    (boundsV x).2 = 0 ∧ (boundsV y).2 = 0 ∧ (boundsV y).1.1 ≤ (boundsV x).1.1 ∧ (boundsV x).1.2 ≤ (boundsV y).1.2 ∧ (sureV x).2.2 = 0 ∧ (sureV y).2.2 = 0 ∧ (sureV y).2.1 ≤ (sureV x).2.1 := by
  have hty : ∃ t, Tr y t := ht.imp fun t h => hs t h
  obtain ⟨a1, _, ⟨t3, a3, a3'⟩, ⟨t4, a4, a4'⟩⟩ := bounds_char hx ht
  obtain ⟨b1, b2, _⟩ := bounds_char hy hty
  obtain ⟨c1, _, c3⟩ := sure_char hx ht
  obtain ⟨d1, ⟨l, d2, _, d3⟩, _⟩ := sure_char hy hty
  have e3 := b2 t3 (hs _ a3)
  have e4 := b2 t4 (hs _ a4)
  have m3 := hm _ a3
  have m4 := hm _ a4
  obtain ⟨t5, g1, g2⟩ := c3 l (by rw [hn]; exact d2)
  have := d3 t5 (hs _ g1)
  rw [hk] at g2
  exact ⟨a1, b1, by omega, by omega, c1, d1, by omega⟩
end Go.Fs
namespace Go.Fs
open Go.Proofs
open C7
section
variable {P : Program} {X : Cx} {γb : Type} [Membership Nat γb] {bad : γb} {all : Array Oper} {K : Act → World → Prop} {Q : Exit → Act → World → Prop}
variable {σ : Slots} {μ : Boxes} {Ds : List Data} {os : List (Bool × Nat)} {fl : Bool} {ix : Nat}
variable {d : Nat} {x y z : Operand} {u v : Value} {ty : TypeId} {pos : String} {aft : Array Edge} {g : Option (Nat × Bool)}
variable {k' : IntKind} {m n : Nat} {t t' : TypeId}
end
theorem inside_ok (a b : Int × Int) (D : Data) : Fn Try.prog 60 #[k2V a, k2V b] D (fun _ v => v = .bool (decide (b.1 ≤ a.1) && decide (a.2 ≤ b.2))) := by
  refine enter 17 Try.func60 rfl rfl rfl rfl fun h0 => ?_
  refine C.seq ?_
  refine C.region [(false,0),(false,1),(false,2)] rfl ?_
  refine L.boxD rfl rfl rfl rfl trivial (fun q1 E1 hE1 hB1 => ?_)
  refine L.boxD rfl rfl rfl rfl trivial (fun q2 E2 hE2 hB2 => ?_)
  refine L.assign rfl rfl rfl trivial ?_
  refine L.nil ?_
  refine C.next ?_
  refine C.seq ?_
  refine C.region [(false,0),(false,1),(false,2),(false,3),(false,4),(false,5),(false,6),(false,7),(false,8),(false,9),(false,10),(false,11),(false,12)] rfl ?_
  refine L.fieldAddr rfl Tf.f61_0 rfl rfl trivial ?_
  refine L.loadD1 rfl (k := 0) Tf.a3 rfl hB1 (by first | simp | assumption) rfl List.not_mem_nil rfl trivial ?_
  refine L.fieldAddr rfl Tf.f61_0 rfl rfl trivial ?_
  refine L.loadD1 rfl (k := 0) Tf.a3 rfl hB2 (by first | simp | assumption) rfl List.not_mem_nil rfl trivial ?_
  refine L.geq rfl rfl rfl rfl trivial ?_
  refine L.move rfl rfl rfl trivial ?_
  refine' L.and [(false,6),(false,7),(false,8),(false,9),(false,10),(false,11)] [(false,12)] (s := 10) (p := 16) rfl rfl (fun hg1 => ?_) (fun hg1 => ?_) ?_
  rotate_left
  · refine L.fieldAddr rfl Tf.f61_1 rfl rfl ⟨_, rfl, rfl⟩ ?_
    refine L.loadD1 rfl (k := 1) Tf.a3 rfl hB1 (by first | simp | assumption) rfl List.not_mem_nil rfl ⟨_, rfl, rfl⟩ ?_
    refine L.fieldAddr rfl Tf.f61_1 rfl rfl ⟨_, rfl, rfl⟩ ?_
    refine L.loadD1 rfl (k := 1) Tf.a3 rfl hB2 (by first | simp | assumption) rfl List.not_mem_nil rfl ⟨_, rfl, rfl⟩ ?_
    refine L.leq rfl rfl rfl rfl ⟨_, rfl, rfl⟩ ?_
    refine L.pickT rfl rfl rfl rfl trivial ?_
    exact L.nil fun a w hh => hh.cutK 5 rfl
  · refine L.pass rfl rfl rfl ⟨_, _, rfl, rfl, rfl⟩ ?_
    refine L.pass rfl rfl rfl ⟨_, _, rfl, rfl, rfl⟩ ?_
    refine L.pass rfl rfl rfl ⟨_, _, rfl, rfl, rfl⟩ ?_
    refine L.pass rfl rfl rfl ⟨_, _, rfl, rfl, rfl⟩ ?_
    refine L.pass rfl rfl rfl ⟨_, _, rfl, rfl, rfl⟩ ?_
    refine L.pickF rfl rfl rfl rfl trivial ?_
    exact L.nil fun a w hh => hh.cutK 5 rfl
  refine L.assign rfl rfl rfl trivial ?_
  refine L.nil ?_
  refine C.next ?_
  refine C.ret ?_
  exact leave (vs := [_]) rfl rfl rfl ⟨rfl, trivial⟩ (fun D hD => rfl)
end Go.Fs
namespace Go.Fs
open Go.Proofs
open C7
theorem Src.prs {D : Data} {v : Value} {l : List (Int × Int)} (h : Sl D R2 2 v l) : Src D v l.length (prC l) := Src.of (R := R2) (fun _ _ _ h => h) (fun _ => rfl) h
/-- A yard with one more claim. -/
def moreY (y : YardD) (r : Int × Int) : YardD := { y with claims := y.claims ++ [r] }
theorem two_no {a b : Bool} (h : (a || b) = false) : a = false ∧ b = false := by simpa using h
theorem rightB_app {cl : List (Int × Int)} {r : Int × Int} {n : Int} {j : Nat} (h : j < cl.length) : rightB (cl ++ [r]) n j = rightB cl n j := by
  unfold rightB; rw [List.getElem?_append_left h]
theorem pos_less {y : YardD} {r : Int × Int} {b : Nat} (h : Pos (moreY y r) b) : Pos y (dif b (2 ^ y.claims.length)) := by
  obtain ⟨t, h1, h2⟩ := h
  refine ⟨t, h1, fun j hj => ?_⟩
  have := h2 j (by simp only [moreY, List.length_append, List.length_singleton]; omega)
  rw [show (moreY y r).claims = y.claims ++ [r] from rfl, rightB_app hj] at this
  rw [dif_at, decide_eq_false (show ¬ y.claims.length = j by omega), Bool.not_false, Bool.and_true]
  exact this
theorem pos_more {y : YardD} {r : Int × Int} {b : Nat} (h : Pos y b) : Pos (moreY y r) (b ||| 2 ^ y.claims.length) := by
  obtain ⟨t, h1, h2⟩ := h
  refine ⟨t, h1, fun j hj => ?_⟩
  simp only [moreY, List.length_append, List.length_singleton] at hj
  rw [Nat.testBit_or, Nat.testBit_two_pow]
  by_cases e : y.claims.length = j
  · left; simp [e]
  · have hj' : j < y.claims.length := by omega
    rw [show (moreY y r).claims = y.claims ++ [r] from rfl, rightB_app hj']
    rcases h2 j hj' with h3 | h3
    · left; simp [h3]
    · right; exact h3
theorem ones_or (b k : Nat) (_hk : k < 7) : onesB (b ||| 2 ^ k) ≤ onesB b + 1 := by
  have hl := length_le_of_sub (nodup_bits7 fun i => (b ||| 2 ^ k).testBit i) (m := k :: (List.range 7).filter fun i => b.testBit i) fun x hx => by
    obtain ⟨h1, h2⟩ := List.mem_filter.1 hx
    rw [Nat.testBit_or, Nat.testBit_two_pow, Bool.or_eq_true, decide_eq_true_eq] at h2
    rcases h2 with h2 | h2
    · exact List.mem_cons_of_mem _ (List.mem_filter.2 ⟨h1, h2⟩)
    · rw [h2]; exact List.mem_cons_self
  simpa [onesB] using hl
theorem more_leave {y : YardD} {r : Int × Int} (hf : fault y = 0) (hx : fault (moreY y r) = 0) : (leaveV y).2 = 0 ∧ (leaveV (moreY y r)).2 = 0 ∧ (leaveV y).1.length ≤ (leaveV (moreY y r)).1.length ∧ (leaveV (moreY y r)).1.length ≤ (leaveV y).1.length + 1 ∧ (leaveV (moreY y r)).1.length ≤ 7 := by
  obtain ⟨a1, b, b1, b2, _, b3, b4⟩ := leave_char hf
  obtain ⟨c1, c, d1, d2, _, d3, d4⟩ := leave_char hx
  have h5 := (yOk hx).cls
  have hn : (moreY y r).claims.length = y.claims.length + 1 := by simp [moreY]
  rw [hn] at d1 d4 h5
  have e1 : dif c (2 ^ y.claims.length) < 2 ^ y.claims.length := by
    refine Nat.lt_pow_two_of_testBit _ fun i hi => ?_
    rw [dif_at]
    by_cases e : y.claims.length = i
    · simp [e]
    · rw [Nat.testBit_lt_two_pow (Nat.lt_of_lt_of_le d1 (Nat.pow_le_pow_right (by omega) (show y.claims.length + 1 ≤ i by omega)))]; rfl
  have e2 := b4 _ e1 (pos_less d2)
  have e3 := onesB_mono c (2 ^ y.claims.length)
  have e4 : b ||| 2 ^ y.claims.length < 2 ^ (y.claims.length + 1) := Nat.or_lt_two_pow (Nat.lt_of_lt_of_le b1 (Nat.pow_le_pow_right (by omega) (by omega))) (Nat.pow_lt_pow_right (by omega) (by omega))
  have e5 := d4 _ e4 (pos_more b2)
  have e6 := ones_or b y.claims.length (by omega)
  have e7 := onesB_le c
  exact ⟨a1, c1, by omega, by omega, by omega⟩
theorem more_few {y : YardD} {r : Int × Int} (hf : fault y = 0) (hx : fault (moreY y r) = 0) (h0 : (leaveV (moreY y r)).1.length = 0) : (boundsV (moreY y r)).2 = 0 ∧ (boundsV y).2 = 0 ∧ (boundsV y).1.1 ≤ (boundsV (moreY y r)).1.1 ∧ (boundsV (moreY y r)).1.2 ≤ (boundsV y).1.2 ∧ (sureV (moreY y r)).2.2 = 0 ∧ (sureV y).2.2 = 0 ∧ (sureV y).2.1 ≤ (sureV (moreY y r)).2.1 := by
  obtain ⟨c1, c, d1, d2, _, d3, d4⟩ := leave_char hx
  have h5 := (yOk hx).cls
  have hp : 2 ^ (moreY y r).claims.length ≤ 2 ^ 5 := Nat.pow_le_pow_right (by omega) h5
  have hc0 : c = 0 := ones_zero (by omega) (by omega)
  subst hc0
  refine fewer hx hf rfl (pos_zero.1 d2) (fun t hT => ?_) (fun t _ => rfl) (fun t l => rfl)
  refine ⟨hT.1, right_iff.2 fun j hj => Or.inr ?_⟩
  have h1 := right_iff.1 hT.2 j (by simp only [moreY, List.length_append, List.length_singleton]; omega)
  rcases h1 with ⟨x, hx, _⟩ | h1
  · simp at hx
  · rw [show (moreY y r).claims = y.claims ++ [r] from rfl, rightB_app hj] at h1; exact h1
theorem me_ok {x y : YardD} (h : (boundsV x).2 = 0 ∧ (boundsV y).2 = 0 ∧ (boundsV y).1.1 ≤ (boundsV x).1.1 ∧ (boundsV x).1.2 ≤ (boundsV y).1.2 ∧ (sureV x).2.2 = 0 ∧ (sureV y).2.2 = 0 ∧ (sureV y).2.1 ≤ (sureV x).2.1) : ((((((decide ((boundsV y).2 = 0) && decide ((boundsV x).2 = 0)) && (decide ((boundsV y).1.1 ≤ (boundsV x).1.1) && decide ((boundsV x).1.2 ≤ (boundsV y).1.2))) && decide ((sureV y).2.2 = 0)) && decide ((sureV x).2.2 = 0)) && decide ((sureV x).2.1 ≥ (sureV y).2.1)) && true) = true := by
  obtain ⟨h1, h2, h3, h4, h5, h6, h7⟩ := h
  simp [h1, h2, h3, h4, h5, h6, h7]
set_option maxHeartbeats 1000000 in
theorem MendMore_ok (yv : Value) (y : YardD) (r : Int × Int) (D : Data) (hy : YardIs D yv y) (hbig : y.claims.length ≤ 1048576) : Fn Try.prog 13 #[yv, k2V r] D (fun _ v => v = .bool true) := by
  have hy0 := hy
  obtain ⟨cv, qv, rfl, hc, hq⟩ := hy
  have hql := hbig
  refine enter 128 Try.func13 rfl rfl rfl rfl fun h0 => ?_
  refine C.seq ?_
  refine C.region [(false,0),(false,1),(false,2)] rfl ?_
  refine L.boxD rfl rfl rfl rfl trivial (fun q1 E1 hE1 hB1 => ?_)
  refine L.boxD rfl rfl rfl rfl trivial (fun q2 E2 hE2 hB2 => ?_)
  refine L.assign rfl rfl rfl trivial ?_
  refine L.nil ?_
  refine C.next ?_
  refine C.seq ?_
  refine C.region [(false,0),(false,1),(false,2)] rfl ?_
  refine L.loadDW rfl Tf.a25 rfl hB1 (by first | simp | assumption) Tf.s25 List.not_mem_nil rfl trivial ?_
  refine L.alloc rfl Tf.z25 rfl rfl trivial (fun q3 => ?_)
  refine L.storeW rfl rfl rfl rfl Tf.s25 (by first | rfl | (simp only [ints_length, *]; done) | (simp only [ints_length, *]; rfl) | (simp only [ints_length, *]; omega)) (by first | rfl | (simp only [ints_length, *]; done) | (simp only [ints_length, *]; rfl) | (simp only [ints_length, *]; omega)) (Has.head) (cell1_yard hc.cell1 hq.cell1) trivial ?_
  refine L.nil ?_
  refine C.next ?_
  refine C.seq ?_
  refine C.drawS [] 3 [true,false,false,true,true,true,false,false,false] [.fork [1,2,4] 0 (.fork [] 3 (.fin [5]) 5 (.fin [3])) 5 (.fin [0,3]), .fin [6,7,8]] Tf.follows (fun _ _ _ h => np_body (P := Try.prog) (fn := Try.f13) _ _ _ h) (by kernel_rfl) ?_
  refine S.cons ?_
  refine L.planFork [(false,1),(false,2),(true,4)] rfl ?_
  refine L.fieldAddr rfl Tf.f25_2 rfl rfl trivial ?_
  refine L.loadD1 rfl (k := 2) Tf.a23 rfl hB1 (by first | simp | assumption) rfl List.not_mem_nil rfl trivial ?_
  refine L.loadDW rfl Tf.a67 rfl hB2 (by first | simp | assumption) Tf.s67 List.not_mem_nil rfl trivial ?_
  refine L.nil (L.forkP true true rfl rfl ?_ ?_)
  · refine L.buildSlice rfl Try.underlying23 Tf.s67 Tf.z67 rfl rfl rfl rfl .nil rfl trivial (fun b901 D901 hD901 hA901 => ?_)
    skip
    refine L.nil ?_
    refine L.planFork [] rfl ?_
    refine L.nil (L.forkP true true rfl rfl ?_ ?_)
    · refine L.append (A := []) (ν := []) (B := [(_, _)]) rfl Try.underlying23 rfl rfl Tf.s67 Tf.z67 rfl Tf.i67 rfl rfl rfl Acc.nil (Src.prs hq) (by simp) (prC_lenn _ _ rfl) (by simp) (prC_cell1 _) (by omega) (Or.inr (by simp)) rfl trivial (fun v7 ν7 ha7 => ?_)
      refine L.nil ?_
      refine L.planFin [(true,5)] rfl ?_
      refine L.buildSlice rfl Try.underlying23 Tf.s67 Tf.z67 rfl rfl rfl rfl (.cons rfl rfl .nil) rfl trivial (fun b902 D902 hD902 hA902 => ?_)
      skip
      refine L.nil ?_
      refine S.fin [(false,6),(false,7),(false,8)] rfl ?_
      refine L.append (A := []) (ν := ν7) (B := [(_, _)]) rfl Try.underlying23 rfl rfl Tf.s67 Tf.z67 rfl Tf.i67 rfl rfl rfl ha7 (Src.lit (by assumption)) (by simp) rfl (by simpa using prC_lenn y.claims _ rfl) (by simp [cell1]) (by omega) (Or.inl rfl) rfl trivial (fun v8 ν8 ha8 => ?_)
      have hn8 : Acc 67 2 v8 (y.claims.length + 1) (prC (y.claims ++ [r])) ν8 := by rw [prC_snoc]; simpa using ha8
      refine L.fieldAddr rfl Tf.f25_2 rfl rfl trivial ?_
      refine L.store rfl rfl rfl hn8.cells1 Tf.s23 (.app (Has.head)) (by simp) rfl hn8.cell1 trivial ?_
      refine L.nil ?_
      refine S.nil ?_
      refine C.next ?_
      refine C.seq ?_
      refine C.seq ?_
      refine C.freeze (A := []) (B := [(_, _)]) hn8 rfl (fun D8 hD8 hF => ?_)
      have hxr : YardIs D8 (.agg #[cv, .int .i64 y.fit, v8]) (moreY y r) := ⟨_, _, rfl, hc.up RCh.up (hD8 _ (by simp)), hF.prs (by simp) (by omega)⟩
      refine C.region [(false,0),(false,1),(false,2),(false,3),(false,4),(false,5),(false,6),(false,7)] rfl ?_
      refine L.loadDW rfl Tf.a25 rfl hB1 (by first | simp | assumption) Tf.s25 List.not_mem_nil rfl trivial ?_
      refine L.callV rfl rfl rfl (fun D1 hD1 => ready_ok _ y _ (hy0.up (hD1 _ (by simp)))) rfl trivial ?_
      refine L.not rfl rfl rfl trivial ?_
      refine L.move rfl rfl rfl trivial ?_
      refine' L.or [(false,4),(false,5),(false,6),(false,7)] [] (s := 32) (p := 36) rfl rfl (fun hg1 => ?_) (fun hg1 => ?_) ?_
      rotate_left
      · refine L.loadBW rfl Tf.a25 rfl (List.Mem.head _) Tf.s25 List.not_mem_nil rfl ⟨_, rfl, rfl⟩ ?_
        refine L.callV rfl rfl rfl (fun D2 hD2 => ready_ok _ (moreY y r) _ (hxr.up (hD2 _ (by simp)))) rfl ⟨_, rfl, rfl⟩ ?_
        refine L.not rfl rfl rfl ⟨_, rfl, rfl⟩ ?_
        refine L.pickF rfl rfl rfl rfl trivial ?_
        exact L.nil fun a w hh => hh.cutK 3 rfl
      · refine L.pass rfl rfl rfl ⟨_, _, rfl, rfl, rfl⟩ ?_
        refine L.pass rfl rfl rfl ⟨_, _, rfl, rfl, rfl⟩ ?_
        refine L.pass rfl rfl rfl ⟨_, _, rfl, rfl, rfl⟩ ?_
        refine L.pickT rfl rfl rfl rfl trivial ?_
        exact L.nil fun a w hh => hh.cutK 3 rfl
      refine L.nil ?_
      refine C.next ?_
      refine C.cond rfl (fun hc1 => ?_) (fun hc1 => ?_)
      · refine C.seq ?_
        refine C.region [(false,0),(false,1)] rfl ?_
        refine L.callV rfl rfl rfl (fun D3 hD3 => awake_ok _) rfl trivial ?_
        refine L.assign rfl rfl rfl trivial ?_
        refine L.nil ?_
        refine C.next ?_
        refine C.ret ?_
        refine C.thenRet ?_
        exact leave (vs := [_]) rfl rfl rfl ⟨rfl, trivial⟩ (fun D hD => rfl)
      · obtain ⟨hca, hcb⟩ := two_no hc1
        obtain ⟨hthin, hf0⟩ := ready_inB hca
        obtain ⟨hthx, hfx⟩ := ready_inB hcb
        obtain ⟨hlc, hlq⟩ := thin_len hthin
        have hyo := yOk hf0
        have hn7 := hyo.len
        have hq5 := hyo.cls
        obtain ⟨hl1, hl2, hl3, hl4, hl5⟩ := more_leave hf0 hfx
        refine C.skip ?_
        refine C.next ?_
        refine C.seq ?_
        refine C.region [(false,0),(false,1),(false,2),(false,3),(false,4),(false,5),(false,6),(false,7)] rfl ?_
        refine L.loadDW rfl Tf.a25 rfl hB1 (by first | simp | assumption) Tf.s25 List.not_mem_nil rfl trivial ?_
        refine L.call rfl rfl rfl (fun D4 hD4 => YardL_ok _ y _ (hy0.up (hD4 _ (by simp))) (by omega) (by omega)) rfl trivial (fun v4 D4 hD4 hp4 => ?_)
        have hw := hp4
        refine L.call rfl rfl rfl (fun D5 hD5 => Leave_ok _ y _ (hw.up (hD5 _ (by simp)))) rfl trivial (fun v5 D5 hD5 hp5 => ?_)
        obtain ⟨lv, rfl, hlv⟩ := hp5
        refine L.move rfl rfl rfl trivial ?_
        refine L.extract rfl rfl rfl rfl trivial ?_
        refine L.extract rfl rfl rfl rfl trivial ?_
        refine L.assign rfl rfl rfl trivial ?_
        refine L.assign rfl rfl rfl trivial ?_
        refine L.nil ?_
        refine C.next ?_
        refine C.seq ?_
        refine C.region [(false,0),(false,1),(false,2),(false,3),(false,4),(false,5),(false,6),(false,7)] rfl ?_
        refine L.loadBW rfl Tf.a25 rfl (List.Mem.head _) Tf.s25 List.not_mem_nil rfl trivial ?_
        refine L.call rfl rfl rfl (fun D6 hD6 => YardL_ok _ (moreY y r) _ (hxr.up (hD6 _ (by simp))) (by simp only [moreY]; omega) (by simp only [moreY, List.length_append, List.length_singleton]; omega)) rfl trivial (fun v6 D6 hD6 hp6 => ?_)
        have hwx := hp6
        refine L.call rfl rfl rfl (fun D7 hD7 => Leave_ok _ (moreY y r) _ (hwx.up (hD7 _ (by simp)))) rfl trivial (fun v7 D7 hD7 hp7 => ?_)
        obtain ⟨mv, rfl, hmv⟩ := hp7
        refine L.move rfl rfl rfl trivial ?_
        refine L.extract rfl rfl rfl rfl trivial ?_
        refine L.extract rfl rfl rfl rfl trivial ?_
        refine L.assign rfl rfl rfl trivial ?_
        refine L.assign rfl rfl rfl trivial ?_
        refine L.nil ?_
        refine C.next ?_
        refine C.seq ?_
        refine C.seq ?_
        refine C.region [(false,0),(false,1),(false,2),(false,3),(false,4),(false,5),(false,6),(false,7),(false,8),(false,9),(false,10),(false,11),(false,12),(false,13),(false,14),(false,15),(false,16),(false,17),(false,18),(false,19),(false,20)] rfl ?_
        refine L.move rfl rfl rfl trivial ?_
        refine L.neq rfl rfl rfl rfl trivial ?_
        refine L.move rfl rfl rfl trivial ?_
        refine' L.or [(false,3),(false,4),(false,5)] [(false,6),(false,7),(false,8),(false,9),(false,10),(false,11),(false,12),(false,13),(false,14),(false,15),(false,16),(false,17),(false,18),(false,19),(false,20)] (s := 52) (p := 55) rfl rfl (fun hg2 => ?_) (fun hg2 => ?_) ?_
        rotate_left
        · refine L.move rfl rfl rfl ⟨_, rfl, rfl⟩ ?_
          refine L.neq rfl rfl rfl rfl ⟨_, rfl, rfl⟩ ?_
          refine L.pickF rfl rfl rfl rfl trivial ?_
          exact L.nil fun a w hh => hh.cutK 2 rfl
        · refine L.pass rfl rfl rfl ⟨_, _, rfl, rfl, rfl⟩ ?_
          refine L.pass rfl rfl rfl ⟨_, _, rfl, rfl, rfl⟩ ?_
          refine L.pickT rfl rfl rfl rfl trivial ?_
          exact L.nil fun a w hh => hh.cutK 2 rfl
        refine L.move rfl rfl rfl trivial ?_
        refine' L.or [(false,7),(false,8),(false,9),(false,10),(false,11),(false,12)] [(false,13),(false,14),(false,15),(false,16),(false,17),(false,18),(false,19),(false,20)] (s := 56) (p := 62) rfl rfl (fun hg3 => ?_) (fun hg3 => ?_) ?_
        rotate_left
        · refine L.move rfl rfl rfl ⟨_, rfl, rfl⟩ ?_
          refine L.len rfl Try.underlying52 rfl hmv rfl rfl ⟨_, rfl, rfl⟩ ?_
          refine L.move rfl rfl rfl ⟨_, rfl, rfl⟩ ?_
          refine L.len rfl Try.underlying52 rfl hlv rfl rfl ⟨_, rfl, rfl⟩ ?_
          refine L.lss rfl rfl rfl rfl ⟨_, rfl, rfl⟩ ?_
          refine L.pickF rfl rfl rfl rfl trivial ?_
          exact L.nil fun a w hh => hh.cutK 5 rfl
        · refine L.pass rfl rfl rfl ⟨_, _, rfl, rfl, rfl⟩ ?_
          refine L.pass rfl rfl rfl ⟨_, _, rfl, rfl, rfl⟩ ?_
          refine L.pass rfl rfl rfl ⟨_, _, rfl, rfl, rfl⟩ ?_
          refine L.pass rfl rfl rfl ⟨_, _, rfl, rfl, rfl⟩ ?_
          refine L.pass rfl rfl rfl ⟨_, _, rfl, rfl, rfl⟩ ?_
          refine L.pickT rfl rfl rfl rfl trivial ?_
          exact L.nil fun a w hh => hh.cutK 5 rfl
        refine L.move rfl rfl rfl trivial ?_
        refine' L.or [(false,14),(false,15),(false,16),(false,17),(false,18),(false,19),(false,20)] [] (s := 63) (p := 70) rfl rfl (fun hg4 => ?_) (fun hg4 => ?_) ?_
        rotate_left
        · refine L.move rfl rfl rfl ⟨_, rfl, rfl⟩ ?_
          refine L.len rfl Try.underlying52 rfl hmv rfl rfl ⟨_, rfl, rfl⟩ ?_
          refine L.move rfl rfl rfl ⟨_, rfl, rfl⟩ ?_
          refine L.len rfl Try.underlying52 rfl hlv rfl rfl ⟨_, rfl, rfl⟩ ?_
          refine L.add rfl rfl rfl (by simp only [inK]; omega) rfl ⟨_, rfl, rfl⟩ ?_
          refine L.gtr rfl rfl rfl rfl ⟨_, rfl, rfl⟩ ?_
          refine L.pickF rfl rfl rfl rfl trivial ?_
          exact L.nil fun a w hh => hh.cutK 6 rfl
        · refine L.pass rfl rfl rfl ⟨_, _, rfl, rfl, rfl⟩ ?_
          refine L.pass rfl rfl rfl ⟨_, _, rfl, rfl, rfl⟩ ?_
          refine L.pass rfl rfl rfl ⟨_, _, rfl, rfl, rfl⟩ ?_
          refine L.pass rfl rfl rfl ⟨_, _, rfl, rfl, rfl⟩ ?_
          refine L.pass rfl rfl rfl ⟨_, _, rfl, rfl, rfl⟩ ?_
          refine L.pass rfl rfl rfl ⟨_, _, rfl, rfl, rfl⟩ ?_
          refine L.pickT rfl rfl rfl rfl trivial ?_
          exact L.nil fun a w hh => hh.cutK 6 rfl
        refine L.nil ?_
        refine C.next ?_
        refine C.cond rfl (fun hc2 => ?_) (fun hc2 => ?_)
        · rw [hl1, hl2, decide_eq_false (show ¬ ((leaveV (moreY y r)).1.length : Int) < ((leaveV y).1.length : Int) by omega), decide_eq_false (show ¬ ((leaveV y).1.length : Int) + 1 < ((leaveV (moreY y r)).1.length : Int) by omega)] at hc2; cases hc2
        · refine C.skip ?_
          refine C.next ?_
          refine C.seq ?_
          refine C.seq ?_
          refine C.region [(false,0),(false,1),(false,2)] rfl ?_
          refine L.move rfl rfl rfl trivial ?_
          refine L.len rfl Try.underlying52 rfl hmv rfl rfl trivial ?_
          refine L.gtr rfl rfl rfl rfl trivial ?_
          refine L.nil ?_
          refine C.next ?_
          refine C.condD rfl (fun hc3 => ?_) (fun hc3 => ?_)
          · refine C.seq ?_
            refine C.region [(false,0),(false,1)] rfl ?_
            refine L.callV rfl rfl rfl (fun D8 hD8 => awake_ok _) rfl trivial ?_
            refine L.assign rfl rfl rfl trivial ?_
            refine L.nil ?_
            refine C.next ?_
            refine C.ret ?_
            refine C.thenRet ?_
            exact leave (vs := [_]) rfl rfl rfl ⟨rfl, trivial⟩ (fun D hD => rfl)
          · have hkt := more_few hf0 hfx (by omega)
            refine C.skip ?_
            refine C.next ?_
            refine C.seq ?_
            refine C.region [(false,0),(false,1),(false,2),(false,3),(false,4),(false,5),(false,6),(false,7),(false,8)] rfl ?_
            refine L.loadDW rfl Tf.a25 rfl hB1 (by first | simp | assumption) Tf.s25 List.not_mem_nil rfl trivial ?_
            refine L.call rfl rfl rfl (fun D9 hD9 => YardL_ok _ y _ (hy0.up (hD9 _ (by simp))) (by omega) (by omega)) rfl trivial (fun v9 D9 hD9 hp9 => ?_)
            have hw := hp9
            refine L.callV rfl rfl rfl (fun D10 hD10 => Bounds_ok _ y _ (hw.up (hD10 _ (by simp)))) rfl trivial ?_
            refine L.move rfl rfl rfl trivial ?_
            refine L.extract rfl rfl rfl rfl trivial ?_
            refine L.extract rfl rfl rfl rfl trivial ?_
            refine L.alloc rfl Tf.z61 rfl rfl trivial (fun q4 => ?_)
            refine L.storeW rfl rfl rfl rfl Tf.s61 (by first | rfl | (simp only [ints_length, *]; done) | (simp only [ints_length, *]; rfl) | (simp only [ints_length, *]; omega)) (by first | rfl | (simp only [ints_length, *]; done) | (simp only [ints_length, *]; rfl) | (simp only [ints_length, *]; omega)) (Has.head) (by first | exact ints_cell1 _ | simp [cell1]) trivial ?_
            refine L.assign rfl rfl rfl trivial ?_
            refine L.nil ?_
            refine C.next ?_
            refine C.seq ?_
            refine C.region [(false,0),(false,1),(false,2),(false,3),(false,4),(false,5),(false,6),(false,7),(false,8)] rfl ?_
            refine L.loadBW rfl Tf.a25 rfl (List.Mem.tail _ (List.Mem.head _)) Tf.s25 List.not_mem_nil rfl trivial ?_
            refine L.call rfl rfl rfl (fun D11 hD11 => YardL_ok _ (moreY y r) _ (hxr.up (hD11 _ (by simp))) (by simp only [moreY]; omega) (by simp only [moreY, List.length_append, List.length_singleton]; omega)) rfl trivial (fun v11 D11 hD11 hp11 => ?_)
            have hwx := hp11
            refine L.callV rfl rfl rfl (fun D12 hD12 => Bounds_ok _ (moreY y r) _ (hwx.up (hD12 _ (by simp)))) rfl trivial ?_
            refine L.move rfl rfl rfl trivial ?_
            refine L.extract rfl rfl rfl rfl trivial ?_
            refine L.extract rfl rfl rfl rfl trivial ?_
            refine L.alloc rfl Tf.z61 rfl rfl trivial (fun q5 => ?_)
            refine L.storeW rfl rfl rfl rfl Tf.s61 (by first | rfl | (simp only [ints_length, *]; done) | (simp only [ints_length, *]; rfl) | (simp only [ints_length, *]; omega)) (by first | rfl | (simp only [ints_length, *]; done) | (simp only [ints_length, *]; rfl) | (simp only [ints_length, *]; omega)) (Has.head) (by first | exact ints_cell1 _ | simp [cell1]) trivial ?_
            refine L.assign rfl rfl rfl trivial ?_
            refine L.nil ?_
            refine C.next ?_
            refine C.seq ?_
            refine C.region [(false,0),(false,1),(false,2),(false,3),(false,4),(false,5),(false,6),(false,7),(false,8),(false,9)] rfl ?_
            refine L.loadDW rfl Tf.a25 rfl hB1 (by first | simp | assumption) Tf.s25 List.not_mem_nil rfl trivial ?_
            refine L.call rfl rfl rfl (fun D13 hD13 => YardL_ok _ y _ (hy0.up (hD13 _ (by simp))) (by omega) (by omega)) rfl trivial (fun v13 D13 hD13 hp13 => ?_)
            have hw := hp13
            refine L.call rfl rfl rfl (fun D14 hD14 => Sure_ok _ y _ (hw.up (hD14 _ (by simp)))) rfl trivial (fun v14 D14 hD14 hp14 => ?_)
            obtain ⟨pv, rfl, hpv⟩ := hp14
            refine L.move rfl rfl rfl trivial ?_
            refine L.extract rfl rfl rfl rfl trivial ?_
            refine L.extract rfl rfl rfl rfl trivial ?_
            refine L.extract rfl rfl rfl rfl trivial ?_
            refine L.assign rfl rfl rfl trivial ?_
            refine L.assign rfl rfl rfl trivial ?_
            refine L.assign rfl rfl rfl trivial ?_
            refine L.nil ?_
            refine C.next ?_
            refine C.seq ?_
            refine C.region [(false,0),(false,1),(false,2),(false,3),(false,4),(false,5),(false,6),(false,7),(false,8),(false,9)] rfl ?_
            refine L.loadBW rfl Tf.a25 rfl (List.Mem.tail _ (List.Mem.tail _ (List.Mem.head _))) Tf.s25 List.not_mem_nil rfl trivial ?_
            refine L.call rfl rfl rfl (fun D15 hD15 => YardL_ok _ (moreY y r) _ (hxr.up (hD15 _ (by simp))) (by simp only [moreY]; omega) (by simp only [moreY, List.length_append, List.length_singleton]; omega)) rfl trivial (fun v15 D15 hD15 hp15 => ?_)
            have hwx := hp15
            refine L.call rfl rfl rfl (fun D16 hD16 => Sure_ok _ (moreY y r) _ (hwx.up (hD16 _ (by simp)))) rfl trivial (fun v16 D16 hD16 hp16 => ?_)
            obtain ⟨pv2, rfl, hpv2⟩ := hp16
            refine L.move rfl rfl rfl trivial ?_
            refine L.extract rfl rfl rfl rfl trivial ?_
            refine L.extract rfl rfl rfl rfl trivial ?_
            refine L.extract rfl rfl rfl rfl trivial ?_
            refine L.assign rfl rfl rfl trivial ?_
            refine L.assign rfl rfl rfl trivial ?_
            refine L.assign rfl rfl rfl trivial ?_
            refine L.nil ?_
            refine C.next ?_
            refine C.seq ?_
            refine C.region [(false,0),(false,1),(false,2),(false,3),(false,4),(false,5),(false,6),(false,7),(false,8),(false,9),(false,10),(false,11),(false,12),(false,13),(false,14),(false,15),(false,16),(false,17),(false,18),(false,19),(false,20),(false,21),(false,22),(false,23),(false,24),(false,25),(false,26),(false,27)] rfl ?_
            refine L.move rfl rfl rfl trivial ?_
            refine L.eql rfl rfl rfl rfl trivial ?_
            refine L.move rfl rfl rfl trivial ?_
            refine' L.and [(false,3),(false,4),(false,5)] [(false,6),(false,7),(false,8),(false,9),(false,10),(false,11),(false,12),(false,13),(false,14),(false,15),(false,16),(false,17),(false,18),(false,19),(false,20),(false,21),(false,22),(false,23),(false,24),(false,25),(false,26),(false,27)] (s := 103) (p := 106) rfl rfl (fun hg5 => ?_) (fun hg5 => ?_) ?_
            rotate_left
            · refine L.move rfl rfl rfl ⟨_, rfl, rfl⟩ ?_
              refine L.eql rfl rfl rfl rfl ⟨_, rfl, rfl⟩ ?_
              refine L.pickT rfl rfl rfl rfl trivial ?_
              exact L.nil fun a w hh => hh.cutK 2 rfl
            · refine L.pass rfl rfl rfl ⟨_, _, rfl, rfl, rfl⟩ ?_
              refine L.pass rfl rfl rfl ⟨_, _, rfl, rfl, rfl⟩ ?_
              refine L.pickF rfl rfl rfl rfl trivial ?_
              exact L.nil fun a w hh => hh.cutK 2 rfl
            refine L.move rfl rfl rfl trivial ?_
            refine' L.and [(false,7),(false,8),(false,9),(false,10)] [(false,11),(false,12),(false,13),(false,14),(false,15),(false,16),(false,17),(false,18),(false,19),(false,20),(false,21),(false,22),(false,23),(false,24),(false,25),(false,26),(false,27)] (s := 107) (p := 111) rfl rfl (fun hg6 => ?_) (fun hg6 => ?_) ?_
            rotate_left
            · refine L.loadBW rfl Tf.a61 rfl (List.Mem.head _) Tf.s61 List.not_mem_nil rfl ⟨_, rfl, rfl⟩ ?_
              refine L.loadBW rfl Tf.a61 rfl (List.Mem.tail _ (List.Mem.head _)) Tf.s61 List.not_mem_nil rfl ⟨_, rfl, rfl⟩ ?_
              refine L.callV rfl rfl rfl (fun D17 hD17 => inside_ok (boundsV (moreY y r)).1 (boundsV y).1 _) rfl ⟨_, rfl, rfl⟩ ?_
              refine L.pickT rfl rfl rfl rfl trivial ?_
              exact L.nil fun a w hh => hh.cutK 3 rfl
            · refine L.pass rfl rfl rfl ⟨_, _, rfl, rfl, rfl⟩ ?_
              refine L.pass rfl rfl rfl ⟨_, _, rfl, rfl, rfl⟩ ?_
              refine L.pass rfl rfl rfl ⟨_, _, rfl, rfl, rfl⟩ ?_
              refine L.pickF rfl rfl rfl rfl trivial ?_
              exact L.nil fun a w hh => hh.cutK 3 rfl
            refine L.move rfl rfl rfl trivial ?_
            refine' L.and [(false,12),(false,13),(false,14)] [(false,15),(false,16),(false,17),(false,18),(false,19),(false,20),(false,21),(false,22),(false,23),(false,24),(false,25),(false,26),(false,27)] (s := 112) (p := 115) rfl rfl (fun hg7 => ?_) (fun hg7 => ?_) ?_
            rotate_left
            · refine L.move rfl rfl rfl ⟨_, rfl, rfl⟩ ?_
              refine L.eql rfl rfl rfl rfl ⟨_, rfl, rfl⟩ ?_
              refine L.pickT rfl rfl rfl rfl trivial ?_
              exact L.nil fun a w hh => hh.cutK 2 rfl
            · refine L.pass rfl rfl rfl ⟨_, _, rfl, rfl, rfl⟩ ?_
              refine L.pass rfl rfl rfl ⟨_, _, rfl, rfl, rfl⟩ ?_
              refine L.pickF rfl rfl rfl rfl trivial ?_
              exact L.nil fun a w hh => hh.cutK 2 rfl
            refine L.move rfl rfl rfl trivial ?_
            refine' L.and [(false,16),(false,17),(false,18)] [(false,19),(false,20),(false,21),(false,22),(false,23),(false,24),(false,25),(false,26),(false,27)] (s := 116) (p := 119) rfl rfl (fun hg8 => ?_) (fun hg8 => ?_) ?_
            rotate_left
            · refine L.move rfl rfl rfl ⟨_, rfl, rfl⟩ ?_
              refine L.eql rfl rfl rfl rfl ⟨_, rfl, rfl⟩ ?_
              refine L.pickT rfl rfl rfl rfl trivial ?_
              exact L.nil fun a w hh => hh.cutK 2 rfl
            · refine L.pass rfl rfl rfl ⟨_, _, rfl, rfl, rfl⟩ ?_
              refine L.pass rfl rfl rfl ⟨_, _, rfl, rfl, rfl⟩ ?_
              refine L.pickF rfl rfl rfl rfl trivial ?_
              exact L.nil fun a w hh => hh.cutK 2 rfl
            refine L.move rfl rfl rfl trivial ?_
            refine' L.and [(false,20),(false,21),(false,22),(false,23)] [(false,24),(false,25),(false,26),(false,27)] (s := 120) (p := 124) rfl rfl (fun hg9 => ?_) (fun hg9 => ?_) ?_
            rotate_left
            · refine L.move rfl rfl rfl ⟨_, rfl, rfl⟩ ?_
              refine L.move rfl rfl rfl ⟨_, rfl, rfl⟩ ?_
              refine L.geq rfl rfl rfl rfl ⟨_, rfl, rfl⟩ ?_
              refine L.pickT rfl rfl rfl rfl trivial ?_
              exact L.nil fun a w hh => hh.cutK 3 rfl
            · refine L.pass rfl rfl rfl ⟨_, _, rfl, rfl, rfl⟩ ?_
              refine L.pass rfl rfl rfl ⟨_, _, rfl, rfl, rfl⟩ ?_
              refine L.pass rfl rfl rfl ⟨_, _, rfl, rfl, rfl⟩ ?_
              refine L.pickF rfl rfl rfl rfl trivial ?_
              exact L.nil fun a w hh => hh.cutK 3 rfl
            refine L.move rfl rfl rfl trivial ?_
            refine' L.and [(false,25),(false,26)] [(false,27)] (s := 125) (p := 127) rfl rfl (fun hg10 => ?_) (fun hg10 => ?_) ?_
            rotate_left
            · refine L.callV rfl rfl rfl (fun D18 hD18 => awake_ok _) rfl ⟨_, rfl, rfl⟩ ?_
              refine L.pickT rfl rfl rfl rfl trivial ?_
              exact L.nil fun a w hh => hh.cutK 1 rfl
            · refine L.pass rfl rfl rfl ⟨_, _, rfl, rfl, rfl⟩ ?_
              refine L.pickF rfl rfl rfl rfl trivial ?_
              exact L.nil fun a w hh => hh.cutK 1 rfl
            refine L.assign rfl rfl rfl trivial ?_
            refine L.nil ?_
            refine C.next ?_
            refine C.ret ?_
            exact leave (vs := [_]) rfl rfl rfl ⟨rfl, trivial⟩ (fun D hD => congrArg Value.bool (me_ok hkt))
    · refine L.buildSlice rfl Try.underlying23 Tf.s67 Tf.z67 rfl rfl rfl rfl (.cons rfl rfl .nil) rfl trivial (fun b902 D902 hD902 hA902 => ?_)
      skip
      refine L.nil ?_
      refine L.planFin [(true,3)] rfl ?_
      refine L.append (A := []) (ν := []) (B := [(_, _)]) rfl Try.underlying23 rfl rfl Tf.s67 Tf.z67 rfl Tf.i67 rfl rfl rfl Acc.nil (Src.prs hq) (by simp) (prC_lenn _ _ rfl) (by simp) (prC_cell1 _) (by omega) (Or.inr (by simp)) rfl trivial (fun v7 ν7 ha7 => ?_)
      refine L.nil ?_
      refine S.fin [(false,6),(false,7),(false,8)] rfl ?_
      refine L.append (A := []) (ν := ν7) (B := [(_, _)]) rfl Try.underlying23 rfl rfl Tf.s67 Tf.z67 rfl Tf.i67 rfl rfl rfl ha7 (Src.lit (by assumption)) (by simp) rfl (by simpa using prC_lenn y.claims _ rfl) (by simp [cell1]) (by omega) (Or.inl rfl) rfl trivial (fun v8 ν8 ha8 => ?_)
      have hn8 : Acc 67 2 v8 (y.claims.length + 1) (prC (y.claims ++ [r])) ν8 := by rw [prC_snoc]; simpa using ha8
      refine L.fieldAddr rfl Tf.f25_2 rfl rfl trivial ?_
      refine L.store rfl rfl rfl hn8.cells1 Tf.s23 (.app (Has.head)) (by simp) rfl hn8.cell1 trivial ?_
      refine L.nil ?_
      refine S.nil ?_
      refine C.next ?_
      refine C.seq ?_
      refine C.seq ?_
      refine C.freeze (A := []) (B := [(_, _)]) hn8 rfl (fun D8 hD8 hF => ?_)
      have hxr : YardIs D8 (.agg #[cv, .int .i64 y.fit, v8]) (moreY y r) := ⟨_, _, rfl, hc.up RCh.up (hD8 _ (by simp)), hF.prs (by simp) (by omega)⟩
      refine C.region [(false,0),(false,1),(false,2),(false,3),(false,4),(false,5),(false,6),(false,7)] rfl ?_
      refine L.loadDW rfl Tf.a25 rfl hB1 (by first | simp | assumption) Tf.s25 List.not_mem_nil rfl trivial ?_
      refine L.callV rfl rfl rfl (fun D1 hD1 => ready_ok _ y _ (hy0.up (hD1 _ (by simp)))) rfl trivial ?_
      refine L.not rfl rfl rfl trivial ?_
      refine L.move rfl rfl rfl trivial ?_
      refine' L.or [(false,4),(false,5),(false,6),(false,7)] [] (s := 32) (p := 36) rfl rfl (fun hg1 => ?_) (fun hg1 => ?_) ?_
      rotate_left
      · refine L.loadBW rfl Tf.a25 rfl (List.Mem.head _) Tf.s25 List.not_mem_nil rfl ⟨_, rfl, rfl⟩ ?_
        refine L.callV rfl rfl rfl (fun D2 hD2 => ready_ok _ (moreY y r) _ (hxr.up (hD2 _ (by simp)))) rfl ⟨_, rfl, rfl⟩ ?_
        refine L.not rfl rfl rfl ⟨_, rfl, rfl⟩ ?_
        refine L.pickF rfl rfl rfl rfl trivial ?_
        exact L.nil fun a w hh => hh.cutK 3 rfl
      · refine L.pass rfl rfl rfl ⟨_, _, rfl, rfl, rfl⟩ ?_
        refine L.pass rfl rfl rfl ⟨_, _, rfl, rfl, rfl⟩ ?_
        refine L.pass rfl rfl rfl ⟨_, _, rfl, rfl, rfl⟩ ?_
        refine L.pickT rfl rfl rfl rfl trivial ?_
        exact L.nil fun a w hh => hh.cutK 3 rfl
      refine L.nil ?_
      refine C.next ?_
      refine C.cond rfl (fun hc1 => ?_) (fun hc1 => ?_)
      · refine C.seq ?_
        refine C.region [(false,0),(false,1)] rfl ?_
        refine L.callV rfl rfl rfl (fun D3 hD3 => awake_ok _) rfl trivial ?_
        refine L.assign rfl rfl rfl trivial ?_
        refine L.nil ?_
        refine C.next ?_
        refine C.ret ?_
        refine C.thenRet ?_
        exact leave (vs := [_]) rfl rfl rfl ⟨rfl, trivial⟩ (fun D hD => rfl)
      · obtain ⟨hca, hcb⟩ := two_no hc1
        obtain ⟨hthin, hf0⟩ := ready_inB hca
        obtain ⟨hthx, hfx⟩ := ready_inB hcb
        obtain ⟨hlc, hlq⟩ := thin_len hthin
        have hyo := yOk hf0
        have hn7 := hyo.len
        have hq5 := hyo.cls
        obtain ⟨hl1, hl2, hl3, hl4, hl5⟩ := more_leave hf0 hfx
        refine C.skip ?_
        refine C.next ?_
        refine C.seq ?_
        refine C.region [(false,0),(false,1),(false,2),(false,3),(false,4),(false,5),(false,6),(false,7)] rfl ?_
        refine L.loadDW rfl Tf.a25 rfl hB1 (by first | simp | assumption) Tf.s25 List.not_mem_nil rfl trivial ?_
        refine L.call rfl rfl rfl (fun D4 hD4 => YardL_ok _ y _ (hy0.up (hD4 _ (by simp))) (by omega) (by omega)) rfl trivial (fun v4 D4 hD4 hp4 => ?_)
        have hw := hp4
        refine L.call rfl rfl rfl (fun D5 hD5 => Leave_ok _ y _ (hw.up (hD5 _ (by simp)))) rfl trivial (fun v5 D5 hD5 hp5 => ?_)
        obtain ⟨lv, rfl, hlv⟩ := hp5
        refine L.move rfl rfl rfl trivial ?_
        refine L.extract rfl rfl rfl rfl trivial ?_
        refine L.extract rfl rfl rfl rfl trivial ?_
        refine L.assign rfl rfl rfl trivial ?_
        refine L.assign rfl rfl rfl trivial ?_
        refine L.nil ?_
        refine C.next ?_
        refine C.seq ?_
        refine C.region [(false,0),(false,1),(false,2),(false,3),(false,4),(false,5),(false,6),(false,7)] rfl ?_
        refine L.loadBW rfl Tf.a25 rfl (List.Mem.head _) Tf.s25 List.not_mem_nil rfl trivial ?_
        refine L.call rfl rfl rfl (fun D6 hD6 => YardL_ok _ (moreY y r) _ (hxr.up (hD6 _ (by simp))) (by simp only [moreY]; omega) (by simp only [moreY, List.length_append, List.length_singleton]; omega)) rfl trivial (fun v6 D6 hD6 hp6 => ?_)
        have hwx := hp6
        refine L.call rfl rfl rfl (fun D7 hD7 => Leave_ok _ (moreY y r) _ (hwx.up (hD7 _ (by simp)))) rfl trivial (fun v7 D7 hD7 hp7 => ?_)
        obtain ⟨mv, rfl, hmv⟩ := hp7
        refine L.move rfl rfl rfl trivial ?_
        refine L.extract rfl rfl rfl rfl trivial ?_
        refine L.extract rfl rfl rfl rfl trivial ?_
        refine L.assign rfl rfl rfl trivial ?_
        refine L.assign rfl rfl rfl trivial ?_
        refine L.nil ?_
        refine C.next ?_
        refine C.seq ?_
        refine C.seq ?_
        refine C.region [(false,0),(false,1),(false,2),(false,3),(false,4),(false,5),(false,6),(false,7),(false,8),(false,9),(false,10),(false,11),(false,12),(false,13),(false,14),(false,15),(false,16),(false,17),(false,18),(false,19),(false,20)] rfl ?_
        refine L.move rfl rfl rfl trivial ?_
        refine L.neq rfl rfl rfl rfl trivial ?_
        refine L.move rfl rfl rfl trivial ?_
        refine' L.or [(false,3),(false,4),(false,5)] [(false,6),(false,7),(false,8),(false,9),(false,10),(false,11),(false,12),(false,13),(false,14),(false,15),(false,16),(false,17),(false,18),(false,19),(false,20)] (s := 52) (p := 55) rfl rfl (fun hg2 => ?_) (fun hg2 => ?_) ?_
        rotate_left
        · refine L.move rfl rfl rfl ⟨_, rfl, rfl⟩ ?_
          refine L.neq rfl rfl rfl rfl ⟨_, rfl, rfl⟩ ?_
          refine L.pickF rfl rfl rfl rfl trivial ?_
          exact L.nil fun a w hh => hh.cutK 2 rfl
        · refine L.pass rfl rfl rfl ⟨_, _, rfl, rfl, rfl⟩ ?_
          refine L.pass rfl rfl rfl ⟨_, _, rfl, rfl, rfl⟩ ?_
          refine L.pickT rfl rfl rfl rfl trivial ?_
          exact L.nil fun a w hh => hh.cutK 2 rfl
        refine L.move rfl rfl rfl trivial ?_
        refine' L.or [(false,7),(false,8),(false,9),(false,10),(false,11),(false,12)] [(false,13),(false,14),(false,15),(false,16),(false,17),(false,18),(false,19),(false,20)] (s := 56) (p := 62) rfl rfl (fun hg3 => ?_) (fun hg3 => ?_) ?_
        rotate_left
        · refine L.move rfl rfl rfl ⟨_, rfl, rfl⟩ ?_
          refine L.len rfl Try.underlying52 rfl hmv rfl rfl ⟨_, rfl, rfl⟩ ?_
          refine L.move rfl rfl rfl ⟨_, rfl, rfl⟩ ?_
          refine L.len rfl Try.underlying52 rfl hlv rfl rfl ⟨_, rfl, rfl⟩ ?_
          refine L.lss rfl rfl rfl rfl ⟨_, rfl, rfl⟩ ?_
          refine L.pickF rfl rfl rfl rfl trivial ?_
          exact L.nil fun a w hh => hh.cutK 5 rfl
        · refine L.pass rfl rfl rfl ⟨_, _, rfl, rfl, rfl⟩ ?_
          refine L.pass rfl rfl rfl ⟨_, _, rfl, rfl, rfl⟩ ?_
          refine L.pass rfl rfl rfl ⟨_, _, rfl, rfl, rfl⟩ ?_
          refine L.pass rfl rfl rfl ⟨_, _, rfl, rfl, rfl⟩ ?_
          refine L.pass rfl rfl rfl ⟨_, _, rfl, rfl, rfl⟩ ?_
          refine L.pickT rfl rfl rfl rfl trivial ?_
          exact L.nil fun a w hh => hh.cutK 5 rfl
        refine L.move rfl rfl rfl trivial ?_
        refine' L.or [(false,14),(false,15),(false,16),(false,17),(false,18),(false,19),(false,20)] [] (s := 63) (p := 70) rfl rfl (fun hg4 => ?_) (fun hg4 => ?_) ?_
        rotate_left
        · refine L.move rfl rfl rfl ⟨_, rfl, rfl⟩ ?_
          refine L.len rfl Try.underlying52 rfl hmv rfl rfl ⟨_, rfl, rfl⟩ ?_
          refine L.move rfl rfl rfl ⟨_, rfl, rfl⟩ ?_
          refine L.len rfl Try.underlying52 rfl hlv rfl rfl ⟨_, rfl, rfl⟩ ?_
          refine L.add rfl rfl rfl (by simp only [inK]; omega) rfl ⟨_, rfl, rfl⟩ ?_
          refine L.gtr rfl rfl rfl rfl ⟨_, rfl, rfl⟩ ?_
          refine L.pickF rfl rfl rfl rfl trivial ?_
          exact L.nil fun a w hh => hh.cutK 6 rfl
        · refine L.pass rfl rfl rfl ⟨_, _, rfl, rfl, rfl⟩ ?_
          refine L.pass rfl rfl rfl ⟨_, _, rfl, rfl, rfl⟩ ?_
          refine L.pass rfl rfl rfl ⟨_, _, rfl, rfl, rfl⟩ ?_
          refine L.pass rfl rfl rfl ⟨_, _, rfl, rfl, rfl⟩ ?_
          refine L.pass rfl rfl rfl ⟨_, _, rfl, rfl, rfl⟩ ?_
          refine L.pass rfl rfl rfl ⟨_, _, rfl, rfl, rfl⟩ ?_
          refine L.pickT rfl rfl rfl rfl trivial ?_
          exact L.nil fun a w hh => hh.cutK 6 rfl
        refine L.nil ?_
        refine C.next ?_
        refine C.cond rfl (fun hc2 => ?_) (fun hc2 => ?_)
        · rw [hl1, hl2, decide_eq_false (show ¬ ((leaveV (moreY y r)).1.length : Int) < ((leaveV y).1.length : Int) by omega), decide_eq_false (show ¬ ((leaveV y).1.length : Int) + 1 < ((leaveV (moreY y r)).1.length : Int) by omega)] at hc2; cases hc2
        · refine C.skip ?_
          refine C.next ?_
          refine C.seq ?_
          refine C.seq ?_
          refine C.region [(false,0),(false,1),(false,2)] rfl ?_
          refine L.move rfl rfl rfl trivial ?_
          refine L.len rfl Try.underlying52 rfl hmv rfl rfl trivial ?_
          refine L.gtr rfl rfl rfl rfl trivial ?_
          refine L.nil ?_
          refine C.next ?_
          refine C.condD rfl (fun hc3 => ?_) (fun hc3 => ?_)
          · refine C.seq ?_
            refine C.region [(false,0),(false,1)] rfl ?_
            refine L.callV rfl rfl rfl (fun D8 hD8 => awake_ok _) rfl trivial ?_
            refine L.assign rfl rfl rfl trivial ?_
            refine L.nil ?_
            refine C.next ?_
            refine C.ret ?_
            refine C.thenRet ?_
            exact leave (vs := [_]) rfl rfl rfl ⟨rfl, trivial⟩ (fun D hD => rfl)
          · have hkt := more_few hf0 hfx (by omega)
            refine C.skip ?_
            refine C.next ?_
            refine C.seq ?_
            refine C.region [(false,0),(false,1),(false,2),(false,3),(false,4),(false,5),(false,6),(false,7),(false,8)] rfl ?_
            refine L.loadDW rfl Tf.a25 rfl hB1 (by first | simp | assumption) Tf.s25 List.not_mem_nil rfl trivial ?_
            refine L.call rfl rfl rfl (fun D9 hD9 => YardL_ok _ y _ (hy0.up (hD9 _ (by simp))) (by omega) (by omega)) rfl trivial (fun v9 D9 hD9 hp9 => ?_)
            have hw := hp9
            refine L.callV rfl rfl rfl (fun D10 hD10 => Bounds_ok _ y _ (hw.up (hD10 _ (by simp)))) rfl trivial ?_
            refine L.move rfl rfl rfl trivial ?_
            refine L.extract rfl rfl rfl rfl trivial ?_
            refine L.extract rfl rfl rfl rfl trivial ?_
            refine L.alloc rfl Tf.z61 rfl rfl trivial (fun q4 => ?_)
            refine L.storeW rfl rfl rfl rfl Tf.s61 (by first | rfl | (simp only [ints_length, *]; done) | (simp only [ints_length, *]; rfl) | (simp only [ints_length, *]; omega)) (by first | rfl | (simp only [ints_length, *]; done) | (simp only [ints_length, *]; rfl) | (simp only [ints_length, *]; omega)) (Has.head) (by first | exact ints_cell1 _ | simp [cell1]) trivial ?_
            refine L.assign rfl rfl rfl trivial ?_
            refine L.nil ?_
            refine C.next ?_
            refine C.seq ?_
            refine C.region [(false,0),(false,1),(false,2),(false,3),(false,4),(false,5),(false,6),(false,7),(false,8)] rfl ?_
            refine L.loadBW rfl Tf.a25 rfl (List.Mem.tail _ (List.Mem.head _)) Tf.s25 List.not_mem_nil rfl trivial ?_
            refine L.call rfl rfl rfl (fun D11 hD11 => YardL_ok _ (moreY y r) _ (hxr.up (hD11 _ (by simp))) (by simp only [moreY]; omega) (by simp only [moreY, List.length_append, List.length_singleton]; omega)) rfl trivial (fun v11 D11 hD11 hp11 => ?_)
            have hwx := hp11
            refine L.callV rfl rfl rfl (fun D12 hD12 => Bounds_ok _ (moreY y r) _ (hwx.up (hD12 _ (by simp)))) rfl trivial ?_
            refine L.move rfl rfl rfl trivial ?_
            refine L.extract rfl rfl rfl rfl trivial ?_
            refine L.extract rfl rfl rfl rfl trivial ?_
            refine L.alloc rfl Tf.z61 rfl rfl trivial (fun q5 => ?_)
            refine L.storeW rfl rfl rfl rfl Tf.s61 (by first | rfl | (simp only [ints_length, *]; done) | (simp only [ints_length, *]; rfl) | (simp only [ints_length, *]; omega)) (by first | rfl | (simp only [ints_length, *]; done) | (simp only [ints_length, *]; rfl) | (simp only [ints_length, *]; omega)) (Has.head) (by first | exact ints_cell1 _ | simp [cell1]) trivial ?_
            refine L.assign rfl rfl rfl trivial ?_
            refine L.nil ?_
            refine C.next ?_
            refine C.seq ?_
            refine C.region [(false,0),(false,1),(false,2),(false,3),(false,4),(false,5),(false,6),(false,7),(false,8),(false,9)] rfl ?_
            refine L.loadDW rfl Tf.a25 rfl hB1 (by first | simp | assumption) Tf.s25 List.not_mem_nil rfl trivial ?_
            refine L.call rfl rfl rfl (fun D13 hD13 => YardL_ok _ y _ (hy0.up (hD13 _ (by simp))) (by omega) (by omega)) rfl trivial (fun v13 D13 hD13 hp13 => ?_)
            have hw := hp13
            refine L.call rfl rfl rfl (fun D14 hD14 => Sure_ok _ y _ (hw.up (hD14 _ (by simp)))) rfl trivial (fun v14 D14 hD14 hp14 => ?_)
            obtain ⟨pv, rfl, hpv⟩ := hp14
            refine L.move rfl rfl rfl trivial ?_
            refine L.extract rfl rfl rfl rfl trivial ?_
            refine L.extract rfl rfl rfl rfl trivial ?_
            refine L.extract rfl rfl rfl rfl trivial ?_
            refine L.assign rfl rfl rfl trivial ?_
            refine L.assign rfl rfl rfl trivial ?_
            refine L.assign rfl rfl rfl trivial ?_
            refine L.nil ?_
            refine C.next ?_
            refine C.seq ?_
            refine C.region [(false,0),(false,1),(false,2),(false,3),(false,4),(false,5),(false,6),(false,7),(false,8),(false,9)] rfl ?_
            refine L.loadBW rfl Tf.a25 rfl (List.Mem.tail _ (List.Mem.tail _ (List.Mem.head _))) Tf.s25 List.not_mem_nil rfl trivial ?_
            refine L.call rfl rfl rfl (fun D15 hD15 => YardL_ok _ (moreY y r) _ (hxr.up (hD15 _ (by simp))) (by simp only [moreY]; omega) (by simp only [moreY, List.length_append, List.length_singleton]; omega)) rfl trivial (fun v15 D15 hD15 hp15 => ?_)
            have hwx := hp15
            refine L.call rfl rfl rfl (fun D16 hD16 => Sure_ok _ (moreY y r) _ (hwx.up (hD16 _ (by simp)))) rfl trivial (fun v16 D16 hD16 hp16 => ?_)
            obtain ⟨pv2, rfl, hpv2⟩ := hp16
            refine L.move rfl rfl rfl trivial ?_
            refine L.extract rfl rfl rfl rfl trivial ?_
            refine L.extract rfl rfl rfl rfl trivial ?_
            refine L.extract rfl rfl rfl rfl trivial ?_
            refine L.assign rfl rfl rfl trivial ?_
            refine L.assign rfl rfl rfl trivial ?_
            refine L.assign rfl rfl rfl trivial ?_
            refine L.nil ?_
            refine C.next ?_
            refine C.seq ?_
            refine C.region [(false,0),(false,1),(false,2),(false,3),(false,4),(false,5),(false,6),(false,7),(false,8),(false,9),(false,10),(false,11),(false,12),(false,13),(false,14),(false,15),(false,16),(false,17),(false,18),(false,19),(false,20),(false,21),(false,22),(false,23),(false,24),(false,25),(false,26),(false,27)] rfl ?_
            refine L.move rfl rfl rfl trivial ?_
            refine L.eql rfl rfl rfl rfl trivial ?_
            refine L.move rfl rfl rfl trivial ?_
            refine' L.and [(false,3),(false,4),(false,5)] [(false,6),(false,7),(false,8),(false,9),(false,10),(false,11),(false,12),(false,13),(false,14),(false,15),(false,16),(false,17),(false,18),(false,19),(false,20),(false,21),(false,22),(false,23),(false,24),(false,25),(false,26),(false,27)] (s := 103) (p := 106) rfl rfl (fun hg5 => ?_) (fun hg5 => ?_) ?_
            rotate_left
            · refine L.move rfl rfl rfl ⟨_, rfl, rfl⟩ ?_
              refine L.eql rfl rfl rfl rfl ⟨_, rfl, rfl⟩ ?_
              refine L.pickT rfl rfl rfl rfl trivial ?_
              exact L.nil fun a w hh => hh.cutK 2 rfl
            · refine L.pass rfl rfl rfl ⟨_, _, rfl, rfl, rfl⟩ ?_
              refine L.pass rfl rfl rfl ⟨_, _, rfl, rfl, rfl⟩ ?_
              refine L.pickF rfl rfl rfl rfl trivial ?_
              exact L.nil fun a w hh => hh.cutK 2 rfl
            refine L.move rfl rfl rfl trivial ?_
            refine' L.and [(false,7),(false,8),(false,9),(false,10)] [(false,11),(false,12),(false,13),(false,14),(false,15),(false,16),(false,17),(false,18),(false,19),(false,20),(false,21),(false,22),(false,23),(false,24),(false,25),(false,26),(false,27)] (s := 107) (p := 111) rfl rfl (fun hg6 => ?_) (fun hg6 => ?_) ?_
            rotate_left
            · refine L.loadBW rfl Tf.a61 rfl (List.Mem.head _) Tf.s61 List.not_mem_nil rfl ⟨_, rfl, rfl⟩ ?_
              refine L.loadBW rfl Tf.a61 rfl (List.Mem.tail _ (List.Mem.head _)) Tf.s61 List.not_mem_nil rfl ⟨_, rfl, rfl⟩ ?_
              refine L.callV rfl rfl rfl (fun D17 hD17 => inside_ok (boundsV (moreY y r)).1 (boundsV y).1 _) rfl ⟨_, rfl, rfl⟩ ?_
              refine L.pickT rfl rfl rfl rfl trivial ?_
              exact L.nil fun a w hh => hh.cutK 3 rfl
            · refine L.pass rfl rfl rfl ⟨_, _, rfl, rfl, rfl⟩ ?_
              refine L.pass rfl rfl rfl ⟨_, _, rfl, rfl, rfl⟩ ?_
              refine L.pass rfl rfl rfl ⟨_, _, rfl, rfl, rfl⟩ ?_
              refine L.pickF rfl rfl rfl rfl trivial ?_
              exact L.nil fun a w hh => hh.cutK 3 rfl
            refine L.move rfl rfl rfl trivial ?_
            refine' L.and [(false,12),(false,13),(false,14)] [(false,15),(false,16),(false,17),(false,18),(false,19),(false,20),(false,21),(false,22),(false,23),(false,24),(false,25),(false,26),(false,27)] (s := 112) (p := 115) rfl rfl (fun hg7 => ?_) (fun hg7 => ?_) ?_
            rotate_left
            · refine L.move rfl rfl rfl ⟨_, rfl, rfl⟩ ?_
              refine L.eql rfl rfl rfl rfl ⟨_, rfl, rfl⟩ ?_
              refine L.pickT rfl rfl rfl rfl trivial ?_
              exact L.nil fun a w hh => hh.cutK 2 rfl
            · refine L.pass rfl rfl rfl ⟨_, _, rfl, rfl, rfl⟩ ?_
              refine L.pass rfl rfl rfl ⟨_, _, rfl, rfl, rfl⟩ ?_
              refine L.pickF rfl rfl rfl rfl trivial ?_
              exact L.nil fun a w hh => hh.cutK 2 rfl
            refine L.move rfl rfl rfl trivial ?_
            refine' L.and [(false,16),(false,17),(false,18)] [(false,19),(false,20),(false,21),(false,22),(false,23),(false,24),(false,25),(false,26),(false,27)] (s := 116) (p := 119) rfl rfl (fun hg8 => ?_) (fun hg8 => ?_) ?_
            rotate_left
            · refine L.move rfl rfl rfl ⟨_, rfl, rfl⟩ ?_
              refine L.eql rfl rfl rfl rfl ⟨_, rfl, rfl⟩ ?_
              refine L.pickT rfl rfl rfl rfl trivial ?_
              exact L.nil fun a w hh => hh.cutK 2 rfl
            · refine L.pass rfl rfl rfl ⟨_, _, rfl, rfl, rfl⟩ ?_
              refine L.pass rfl rfl rfl ⟨_, _, rfl, rfl, rfl⟩ ?_
              refine L.pickF rfl rfl rfl rfl trivial ?_
              exact L.nil fun a w hh => hh.cutK 2 rfl
            refine L.move rfl rfl rfl trivial ?_
            refine' L.and [(false,20),(false,21),(false,22),(false,23)] [(false,24),(false,25),(false,26),(false,27)] (s := 120) (p := 124) rfl rfl (fun hg9 => ?_) (fun hg9 => ?_) ?_
            rotate_left
            · refine L.move rfl rfl rfl ⟨_, rfl, rfl⟩ ?_
              refine L.move rfl rfl rfl ⟨_, rfl, rfl⟩ ?_
              refine L.geq rfl rfl rfl rfl ⟨_, rfl, rfl⟩ ?_
              refine L.pickT rfl rfl rfl rfl trivial ?_
              exact L.nil fun a w hh => hh.cutK 3 rfl
            · refine L.pass rfl rfl rfl ⟨_, _, rfl, rfl, rfl⟩ ?_
              refine L.pass rfl rfl rfl ⟨_, _, rfl, rfl, rfl⟩ ?_
              refine L.pass rfl rfl rfl ⟨_, _, rfl, rfl, rfl⟩ ?_
              refine L.pickF rfl rfl rfl rfl trivial ?_
              exact L.nil fun a w hh => hh.cutK 3 rfl
            refine L.move rfl rfl rfl trivial ?_
            refine' L.and [(false,25),(false,26)] [(false,27)] (s := 125) (p := 127) rfl rfl (fun hg10 => ?_) (fun hg10 => ?_) ?_
            rotate_left
            · refine L.callV rfl rfl rfl (fun D18 hD18 => awake_ok _) rfl ⟨_, rfl, rfl⟩ ?_
              refine L.pickT rfl rfl rfl rfl trivial ?_
              exact L.nil fun a w hh => hh.cutK 1 rfl
            · refine L.pass rfl rfl rfl ⟨_, _, rfl, rfl, rfl⟩ ?_
              refine L.pickF rfl rfl rfl rfl trivial ?_
              exact L.nil fun a w hh => hh.cutK 1 rfl
            refine L.assign rfl rfl rfl trivial ?_
            refine L.nil ?_
            refine C.next ?_
            refine C.ret ?_
            exact leave (vs := [_]) rfl rfl rfl ⟨rfl, trivial⟩ (fun D hD => congrArg Value.bool (me_ok hkt))
  · refine L.buildSlice rfl Try.underlying23 Tf.s67 Tf.z67 rfl rfl rfl rfl (.cons rfl rfl .nil) rfl trivial (fun b901 D901 hD901 hA901 => ?_)
    skip
    refine L.nil ?_
    refine L.planFin [(true,0),(true,3)] rfl ?_
    refine L.buildSlice rfl Try.underlying23 Tf.s67 Tf.z67 rfl rfl rfl rfl .nil rfl trivial (fun b902 D902 hD902 hA902 => ?_)
    skip
    refine L.append (A := []) (ν := []) (B := [(_, _)]) rfl Try.underlying23 rfl rfl Tf.s67 Tf.z67 rfl Tf.i67 rfl rfl rfl Acc.nil (Src.prs hq) (by simp) (prC_lenn _ _ rfl) (by simp) (prC_cell1 _) (by omega) (Or.inr (by simp)) rfl trivial (fun v7 ν7 ha7 => ?_)
    refine L.nil ?_
    refine S.fin [(false,6),(false,7),(false,8)] rfl ?_
    refine L.append (A := []) (ν := ν7) (B := [(_, _)]) rfl Try.underlying23 rfl rfl Tf.s67 Tf.z67 rfl Tf.i67 rfl rfl rfl ha7 (Src.lit (by assumption)) (by simp) rfl (by simpa using prC_lenn y.claims _ rfl) (by simp [cell1]) (by omega) (Or.inl rfl) rfl trivial (fun v8 ν8 ha8 => ?_)
    have hn8 : Acc 67 2 v8 (y.claims.length + 1) (prC (y.claims ++ [r])) ν8 := by rw [prC_snoc]; simpa using ha8
    refine L.fieldAddr rfl Tf.f25_2 rfl rfl trivial ?_
    refine L.store rfl rfl rfl hn8.cells1 Tf.s23 (.app (Has.head)) (by simp) rfl hn8.cell1 trivial ?_
    refine L.nil ?_
    refine S.nil ?_
    refine C.next ?_
    refine C.seq ?_
    refine C.seq ?_
    refine C.freeze (A := []) (B := [(_, _)]) hn8 rfl (fun D8 hD8 hF => ?_)
    have hxr : YardIs D8 (.agg #[cv, .int .i64 y.fit, v8]) (moreY y r) := ⟨_, _, rfl, hc.up RCh.up (hD8 _ (by simp)), hF.prs (by simp) (by omega)⟩
    refine C.region [(false,0),(false,1),(false,2),(false,3),(false,4),(false,5),(false,6),(false,7)] rfl ?_
    refine L.loadDW rfl Tf.a25 rfl hB1 (by first | simp | assumption) Tf.s25 List.not_mem_nil rfl trivial ?_
    refine L.callV rfl rfl rfl (fun D1 hD1 => ready_ok _ y _ (hy0.up (hD1 _ (by simp)))) rfl trivial ?_
    refine L.not rfl rfl rfl trivial ?_
    refine L.move rfl rfl rfl trivial ?_
    refine' L.or [(false,4),(false,5),(false,6),(false,7)] [] (s := 32) (p := 36) rfl rfl (fun hg1 => ?_) (fun hg1 => ?_) ?_
    rotate_left
    · refine L.loadBW rfl Tf.a25 rfl (List.Mem.head _) Tf.s25 List.not_mem_nil rfl ⟨_, rfl, rfl⟩ ?_
      refine L.callV rfl rfl rfl (fun D2 hD2 => ready_ok _ (moreY y r) _ (hxr.up (hD2 _ (by simp)))) rfl ⟨_, rfl, rfl⟩ ?_
      refine L.not rfl rfl rfl ⟨_, rfl, rfl⟩ ?_
      refine L.pickF rfl rfl rfl rfl trivial ?_
      exact L.nil fun a w hh => hh.cutK 3 rfl
    · refine L.pass rfl rfl rfl ⟨_, _, rfl, rfl, rfl⟩ ?_
      refine L.pass rfl rfl rfl ⟨_, _, rfl, rfl, rfl⟩ ?_
      refine L.pass rfl rfl rfl ⟨_, _, rfl, rfl, rfl⟩ ?_
      refine L.pickT rfl rfl rfl rfl trivial ?_
      exact L.nil fun a w hh => hh.cutK 3 rfl
    refine L.nil ?_
    refine C.next ?_
    refine C.cond rfl (fun hc1 => ?_) (fun hc1 => ?_)
    · refine C.seq ?_
      refine C.region [(false,0),(false,1)] rfl ?_
      refine L.callV rfl rfl rfl (fun D3 hD3 => awake_ok _) rfl trivial ?_
      refine L.assign rfl rfl rfl trivial ?_
      refine L.nil ?_
      refine C.next ?_
      refine C.ret ?_
      refine C.thenRet ?_
      exact leave (vs := [_]) rfl rfl rfl ⟨rfl, trivial⟩ (fun D hD => rfl)
    · obtain ⟨hca, hcb⟩ := two_no hc1
      obtain ⟨hthin, hf0⟩ := ready_inB hca
      obtain ⟨hthx, hfx⟩ := ready_inB hcb
      obtain ⟨hlc, hlq⟩ := thin_len hthin
      have hyo := yOk hf0
      have hn7 := hyo.len
      have hq5 := hyo.cls
      obtain ⟨hl1, hl2, hl3, hl4, hl5⟩ := more_leave hf0 hfx
      refine C.skip ?_
      refine C.next ?_
      refine C.seq ?_
      refine C.region [(false,0),(false,1),(false,2),(false,3),(false,4),(false,5),(false,6),(false,7)] rfl ?_
      refine L.loadDW rfl Tf.a25 rfl hB1 (by first | simp | assumption) Tf.s25 List.not_mem_nil rfl trivial ?_
      refine L.call rfl rfl rfl (fun D4 hD4 => YardL_ok _ y _ (hy0.up (hD4 _ (by simp))) (by omega) (by omega)) rfl trivial (fun v4 D4 hD4 hp4 => ?_)
      have hw := hp4
      refine L.call rfl rfl rfl (fun D5 hD5 => Leave_ok _ y _ (hw.up (hD5 _ (by simp)))) rfl trivial (fun v5 D5 hD5 hp5 => ?_)
      obtain ⟨lv, rfl, hlv⟩ := hp5
      refine L.move rfl rfl rfl trivial ?_
      refine L.extract rfl rfl rfl rfl trivial ?_
      refine L.extract rfl rfl rfl rfl trivial ?_
      refine L.assign rfl rfl rfl trivial ?_
      refine L.assign rfl rfl rfl trivial ?_
      refine L.nil ?_
      refine C.next ?_
      refine C.seq ?_
      refine C.region [(false,0),(false,1),(false,2),(false,3),(false,4),(false,5),(false,6),(false,7)] rfl ?_
      refine L.loadBW rfl Tf.a25 rfl (List.Mem.head _) Tf.s25 List.not_mem_nil rfl trivial ?_
      refine L.call rfl rfl rfl (fun D6 hD6 => YardL_ok _ (moreY y r) _ (hxr.up (hD6 _ (by simp))) (by simp only [moreY]; omega) (by simp only [moreY, List.length_append, List.length_singleton]; omega)) rfl trivial (fun v6 D6 hD6 hp6 => ?_)
      have hwx := hp6
      refine L.call rfl rfl rfl (fun D7 hD7 => Leave_ok _ (moreY y r) _ (hwx.up (hD7 _ (by simp)))) rfl trivial (fun v7 D7 hD7 hp7 => ?_)
      obtain ⟨mv, rfl, hmv⟩ := hp7
      refine L.move rfl rfl rfl trivial ?_
      refine L.extract rfl rfl rfl rfl trivial ?_
      refine L.extract rfl rfl rfl rfl trivial ?_
      refine L.assign rfl rfl rfl trivial ?_
      refine L.assign rfl rfl rfl trivial ?_
      refine L.nil ?_
      refine C.next ?_
      refine C.seq ?_
      refine C.seq ?_
      refine C.region [(false,0),(false,1),(false,2),(false,3),(false,4),(false,5),(false,6),(false,7),(false,8),(false,9),(false,10),(false,11),(false,12),(false,13),(false,14),(false,15),(false,16),(false,17),(false,18),(false,19),(false,20)] rfl ?_
      refine L.move rfl rfl rfl trivial ?_
      refine L.neq rfl rfl rfl rfl trivial ?_
      refine L.move rfl rfl rfl trivial ?_
      refine' L.or [(false,3),(false,4),(false,5)] [(false,6),(false,7),(false,8),(false,9),(false,10),(false,11),(false,12),(false,13),(false,14),(false,15),(false,16),(false,17),(false,18),(false,19),(false,20)] (s := 52) (p := 55) rfl rfl (fun hg2 => ?_) (fun hg2 => ?_) ?_
      rotate_left
      · refine L.move rfl rfl rfl ⟨_, rfl, rfl⟩ ?_
        refine L.neq rfl rfl rfl rfl ⟨_, rfl, rfl⟩ ?_
        refine L.pickF rfl rfl rfl rfl trivial ?_
        exact L.nil fun a w hh => hh.cutK 2 rfl
      · refine L.pass rfl rfl rfl ⟨_, _, rfl, rfl, rfl⟩ ?_
        refine L.pass rfl rfl rfl ⟨_, _, rfl, rfl, rfl⟩ ?_
        refine L.pickT rfl rfl rfl rfl trivial ?_
        exact L.nil fun a w hh => hh.cutK 2 rfl
      refine L.move rfl rfl rfl trivial ?_
      refine' L.or [(false,7),(false,8),(false,9),(false,10),(false,11),(false,12)] [(false,13),(false,14),(false,15),(false,16),(false,17),(false,18),(false,19),(false,20)] (s := 56) (p := 62) rfl rfl (fun hg3 => ?_) (fun hg3 => ?_) ?_
      rotate_left
      · refine L.move rfl rfl rfl ⟨_, rfl, rfl⟩ ?_
        refine L.len rfl Try.underlying52 rfl hmv rfl rfl ⟨_, rfl, rfl⟩ ?_
        refine L.move rfl rfl rfl ⟨_, rfl, rfl⟩ ?_
        refine L.len rfl Try.underlying52 rfl hlv rfl rfl ⟨_, rfl, rfl⟩ ?_
        refine L.lss rfl rfl rfl rfl ⟨_, rfl, rfl⟩ ?_
        refine L.pickF rfl rfl rfl rfl trivial ?_
        exact L.nil fun a w hh => hh.cutK 5 rfl
      · refine L.pass rfl rfl rfl ⟨_, _, rfl, rfl, rfl⟩ ?_
        refine L.pass rfl rfl rfl ⟨_, _, rfl, rfl, rfl⟩ ?_
        refine L.pass rfl rfl rfl ⟨_, _, rfl, rfl, rfl⟩ ?_
        refine L.pass rfl rfl rfl ⟨_, _, rfl, rfl, rfl⟩ ?_
        refine L.pass rfl rfl rfl ⟨_, _, rfl, rfl, rfl⟩ ?_
        refine L.pickT rfl rfl rfl rfl trivial ?_
        exact L.nil fun a w hh => hh.cutK 5 rfl
      refine L.move rfl rfl rfl trivial ?_
      refine' L.or [(false,14),(false,15),(false,16),(false,17),(false,18),(false,19),(false,20)] [] (s := 63) (p := 70) rfl rfl (fun hg4 => ?_) (fun hg4 => ?_) ?_
      rotate_left
      · refine L.move rfl rfl rfl ⟨_, rfl, rfl⟩ ?_
        refine L.len rfl Try.underlying52 rfl hmv rfl rfl ⟨_, rfl, rfl⟩ ?_
        refine L.move rfl rfl rfl ⟨_, rfl, rfl⟩ ?_
        refine L.len rfl Try.underlying52 rfl hlv rfl rfl ⟨_, rfl, rfl⟩ ?_
        refine L.add rfl rfl rfl (by simp only [inK]; omega) rfl ⟨_, rfl, rfl⟩ ?_
        refine L.gtr rfl rfl rfl rfl ⟨_, rfl, rfl⟩ ?_
        refine L.pickF rfl rfl rfl rfl trivial ?_
        exact L.nil fun a w hh => hh.cutK 6 rfl
      · refine L.pass rfl rfl rfl ⟨_, _, rfl, rfl, rfl⟩ ?_
        refine L.pass rfl rfl rfl ⟨_, _, rfl, rfl, rfl⟩ ?_
        refine L.pass rfl rfl rfl ⟨_, _, rfl, rfl, rfl⟩ ?_
        refine L.pass rfl rfl rfl ⟨_, _, rfl, rfl, rfl⟩ ?_
        refine L.pass rfl rfl rfl ⟨_, _, rfl, rfl, rfl⟩ ?_
        refine L.pass rfl rfl rfl ⟨_, _, rfl, rfl, rfl⟩ ?_
        refine L.pickT rfl rfl rfl rfl trivial ?_
        exact L.nil fun a w hh => hh.cutK 6 rfl
      refine L.nil ?_
      refine C.next ?_
      refine C.cond rfl (fun hc2 => ?_) (fun hc2 => ?_)
      · rw [hl1, hl2, decide_eq_false (show ¬ ((leaveV (moreY y r)).1.length : Int) < ((leaveV y).1.length : Int) by omega), decide_eq_false (show ¬ ((leaveV y).1.length : Int) + 1 < ((leaveV (moreY y r)).1.length : Int) by omega)] at hc2; cases hc2
      · refine C.skip ?_
        refine C.next ?_
        refine C.seq ?_
        refine C.seq ?_
        refine C.region [(false,0),(false,1),(false,2)] rfl ?_
        refine L.move rfl rfl rfl trivial ?_
        refine L.len rfl Try.underlying52 rfl hmv rfl rfl trivial ?_
        refine L.gtr rfl rfl rfl rfl trivial ?_
        refine L.nil ?_
        refine C.next ?_
        refine C.condD rfl (fun hc3 => ?_) (fun hc3 => ?_)
        · refine C.seq ?_
          refine C.region [(false,0),(false,1)] rfl ?_
          refine L.callV rfl rfl rfl (fun D8 hD8 => awake_ok _) rfl trivial ?_
          refine L.assign rfl rfl rfl trivial ?_
          refine L.nil ?_
          refine C.next ?_
          refine C.ret ?_
          refine C.thenRet ?_
          exact leave (vs := [_]) rfl rfl rfl ⟨rfl, trivial⟩ (fun D hD => rfl)
        · have hkt := more_few hf0 hfx (by omega)
          refine C.skip ?_
          refine C.next ?_
          refine C.seq ?_
          refine C.region [(false,0),(false,1),(false,2),(false,3),(false,4),(false,5),(false,6),(false,7),(false,8)] rfl ?_
          refine L.loadDW rfl Tf.a25 rfl hB1 (by first | simp | assumption) Tf.s25 List.not_mem_nil rfl trivial ?_
          refine L.call rfl rfl rfl (fun D9 hD9 => YardL_ok _ y _ (hy0.up (hD9 _ (by simp))) (by omega) (by omega)) rfl trivial (fun v9 D9 hD9 hp9 => ?_)
          have hw := hp9
          refine L.callV rfl rfl rfl (fun D10 hD10 => Bounds_ok _ y _ (hw.up (hD10 _ (by simp)))) rfl trivial ?_
          refine L.move rfl rfl rfl trivial ?_
          refine L.extract rfl rfl rfl rfl trivial ?_
          refine L.extract rfl rfl rfl rfl trivial ?_
          refine L.alloc rfl Tf.z61 rfl rfl trivial (fun q4 => ?_)
          refine L.storeW rfl rfl rfl rfl Tf.s61 (by first | rfl | (simp only [ints_length, *]; done) | (simp only [ints_length, *]; rfl) | (simp only [ints_length, *]; omega)) (by first | rfl | (simp only [ints_length, *]; done) | (simp only [ints_length, *]; rfl) | (simp only [ints_length, *]; omega)) (Has.head) (by first | exact ints_cell1 _ | simp [cell1]) trivial ?_
          refine L.assign rfl rfl rfl trivial ?_
          refine L.nil ?_
          refine C.next ?_
          refine C.seq ?_
          refine C.region [(false,0),(false,1),(false,2),(false,3),(false,4),(false,5),(false,6),(false,7),(false,8)] rfl ?_
          refine L.loadBW rfl Tf.a25 rfl (List.Mem.tail _ (List.Mem.head _)) Tf.s25 List.not_mem_nil rfl trivial ?_
          refine L.call rfl rfl rfl (fun D11 hD11 => YardL_ok _ (moreY y r) _ (hxr.up (hD11 _ (by simp))) (by simp only [moreY]; omega) (by simp only [moreY, List.length_append, List.length_singleton]; omega)) rfl trivial (fun v11 D11 hD11 hp11 => ?_)
          have hwx := hp11
          refine L.callV rfl rfl rfl (fun D12 hD12 => Bounds_ok _ (moreY y r) _ (hwx.up (hD12 _ (by simp)))) rfl trivial ?_
          refine L.move rfl rfl rfl trivial ?_
          refine L.extract rfl rfl rfl rfl trivial ?_
          refine L.extract rfl rfl rfl rfl trivial ?_
          refine L.alloc rfl Tf.z61 rfl rfl trivial (fun q5 => ?_)
          refine L.storeW rfl rfl rfl rfl Tf.s61 (by first | rfl | (simp only [ints_length, *]; done) | (simp only [ints_length, *]; rfl) | (simp only [ints_length, *]; omega)) (by first | rfl | (simp only [ints_length, *]; done) | (simp only [ints_length, *]; rfl) | (simp only [ints_length, *]; omega)) (Has.head) (by first | exact ints_cell1 _ | simp [cell1]) trivial ?_
          refine L.assign rfl rfl rfl trivial ?_
          refine L.nil ?_
          refine C.next ?_
          refine C.seq ?_
          refine C.region [(false,0),(false,1),(false,2),(false,3),(false,4),(false,5),(false,6),(false,7),(false,8),(false,9)] rfl ?_
          refine L.loadDW rfl Tf.a25 rfl hB1 (by first | simp | assumption) Tf.s25 List.not_mem_nil rfl trivial ?_
          refine L.call rfl rfl rfl (fun D13 hD13 => YardL_ok _ y _ (hy0.up (hD13 _ (by simp))) (by omega) (by omega)) rfl trivial (fun v13 D13 hD13 hp13 => ?_)
          have hw := hp13
          refine L.call rfl rfl rfl (fun D14 hD14 => Sure_ok _ y _ (hw.up (hD14 _ (by simp)))) rfl trivial (fun v14 D14 hD14 hp14 => ?_)
          obtain ⟨pv, rfl, hpv⟩ := hp14
          refine L.move rfl rfl rfl trivial ?_
          refine L.extract rfl rfl rfl rfl trivial ?_
          refine L.extract rfl rfl rfl rfl trivial ?_
          refine L.extract rfl rfl rfl rfl trivial ?_
          refine L.assign rfl rfl rfl trivial ?_
          refine L.assign rfl rfl rfl trivial ?_
          refine L.assign rfl rfl rfl trivial ?_
          refine L.nil ?_
          refine C.next ?_
          refine C.seq ?_
          refine C.region [(false,0),(false,1),(false,2),(false,3),(false,4),(false,5),(false,6),(false,7),(false,8),(false,9)] rfl ?_
          refine L.loadBW rfl Tf.a25 rfl (List.Mem.tail _ (List.Mem.tail _ (List.Mem.head _))) Tf.s25 List.not_mem_nil rfl trivial ?_
          refine L.call rfl rfl rfl (fun D15 hD15 => YardL_ok _ (moreY y r) _ (hxr.up (hD15 _ (by simp))) (by simp only [moreY]; omega) (by simp only [moreY, List.length_append, List.length_singleton]; omega)) rfl trivial (fun v15 D15 hD15 hp15 => ?_)
          have hwx := hp15
          refine L.call rfl rfl rfl (fun D16 hD16 => Sure_ok _ (moreY y r) _ (hwx.up (hD16 _ (by simp)))) rfl trivial (fun v16 D16 hD16 hp16 => ?_)
          obtain ⟨pv2, rfl, hpv2⟩ := hp16
          refine L.move rfl rfl rfl trivial ?_
          refine L.extract rfl rfl rfl rfl trivial ?_
          refine L.extract rfl rfl rfl rfl trivial ?_
          refine L.extract rfl rfl rfl rfl trivial ?_
          refine L.assign rfl rfl rfl trivial ?_
          refine L.assign rfl rfl rfl trivial ?_
          refine L.assign rfl rfl rfl trivial ?_
          refine L.nil ?_
          refine C.next ?_
          refine C.seq ?_
          refine C.region [(false,0),(false,1),(false,2),(false,3),(false,4),(false,5),(false,6),(false,7),(false,8),(false,9),(false,10),(false,11),(false,12),(false,13),(false,14),(false,15),(false,16),(false,17),(false,18),(false,19),(false,20),(false,21),(false,22),(false,23),(false,24),(false,25),(false,26),(false,27)] rfl ?_
          refine L.move rfl rfl rfl trivial ?_
          refine L.eql rfl rfl rfl rfl trivial ?_
          refine L.move rfl rfl rfl trivial ?_
          refine' L.and [(false,3),(false,4),(false,5)] [(false,6),(false,7),(false,8),(false,9),(false,10),(false,11),(false,12),(false,13),(false,14),(false,15),(false,16),(false,17),(false,18),(false,19),(false,20),(false,21),(false,22),(false,23),(false,24),(false,25),(false,26),(false,27)] (s := 103) (p := 106) rfl rfl (fun hg5 => ?_) (fun hg5 => ?_) ?_
          rotate_left
          · refine L.move rfl rfl rfl ⟨_, rfl, rfl⟩ ?_
            refine L.eql rfl rfl rfl rfl ⟨_, rfl, rfl⟩ ?_
            refine L.pickT rfl rfl rfl rfl trivial ?_
            exact L.nil fun a w hh => hh.cutK 2 rfl
          · refine L.pass rfl rfl rfl ⟨_, _, rfl, rfl, rfl⟩ ?_
            refine L.pass rfl rfl rfl ⟨_, _, rfl, rfl, rfl⟩ ?_
            refine L.pickF rfl rfl rfl rfl trivial ?_
            exact L.nil fun a w hh => hh.cutK 2 rfl
          refine L.move rfl rfl rfl trivial ?_
          refine' L.and [(false,7),(false,8),(false,9),(false,10)] [(false,11),(false,12),(false,13),(false,14),(false,15),(false,16),(false,17),(false,18),(false,19),(false,20),(false,21),(false,22),(false,23),(false,24),(false,25),(false,26),(false,27)] (s := 107) (p := 111) rfl rfl (fun hg6 => ?_) (fun hg6 => ?_) ?_
          rotate_left
          · refine L.loadBW rfl Tf.a61 rfl (List.Mem.head _) Tf.s61 List.not_mem_nil rfl ⟨_, rfl, rfl⟩ ?_
            refine L.loadBW rfl Tf.a61 rfl (List.Mem.tail _ (List.Mem.head _)) Tf.s61 List.not_mem_nil rfl ⟨_, rfl, rfl⟩ ?_
            refine L.callV rfl rfl rfl (fun D17 hD17 => inside_ok (boundsV (moreY y r)).1 (boundsV y).1 _) rfl ⟨_, rfl, rfl⟩ ?_
            refine L.pickT rfl rfl rfl rfl trivial ?_
            exact L.nil fun a w hh => hh.cutK 3 rfl
          · refine L.pass rfl rfl rfl ⟨_, _, rfl, rfl, rfl⟩ ?_
            refine L.pass rfl rfl rfl ⟨_, _, rfl, rfl, rfl⟩ ?_
            refine L.pass rfl rfl rfl ⟨_, _, rfl, rfl, rfl⟩ ?_
            refine L.pickF rfl rfl rfl rfl trivial ?_
            exact L.nil fun a w hh => hh.cutK 3 rfl
          refine L.move rfl rfl rfl trivial ?_
          refine' L.and [(false,12),(false,13),(false,14)] [(false,15),(false,16),(false,17),(false,18),(false,19),(false,20),(false,21),(false,22),(false,23),(false,24),(false,25),(false,26),(false,27)] (s := 112) (p := 115) rfl rfl (fun hg7 => ?_) (fun hg7 => ?_) ?_
          rotate_left
          · refine L.move rfl rfl rfl ⟨_, rfl, rfl⟩ ?_
            refine L.eql rfl rfl rfl rfl ⟨_, rfl, rfl⟩ ?_
            refine L.pickT rfl rfl rfl rfl trivial ?_
            exact L.nil fun a w hh => hh.cutK 2 rfl
          · refine L.pass rfl rfl rfl ⟨_, _, rfl, rfl, rfl⟩ ?_
            refine L.pass rfl rfl rfl ⟨_, _, rfl, rfl, rfl⟩ ?_
            refine L.pickF rfl rfl rfl rfl trivial ?_
            exact L.nil fun a w hh => hh.cutK 2 rfl
          refine L.move rfl rfl rfl trivial ?_
          refine' L.and [(false,16),(false,17),(false,18)] [(false,19),(false,20),(false,21),(false,22),(false,23),(false,24),(false,25),(false,26),(false,27)] (s := 116) (p := 119) rfl rfl (fun hg8 => ?_) (fun hg8 => ?_) ?_
          rotate_left
          · refine L.move rfl rfl rfl ⟨_, rfl, rfl⟩ ?_
            refine L.eql rfl rfl rfl rfl ⟨_, rfl, rfl⟩ ?_
            refine L.pickT rfl rfl rfl rfl trivial ?_
            exact L.nil fun a w hh => hh.cutK 2 rfl
          · refine L.pass rfl rfl rfl ⟨_, _, rfl, rfl, rfl⟩ ?_
            refine L.pass rfl rfl rfl ⟨_, _, rfl, rfl, rfl⟩ ?_
            refine L.pickF rfl rfl rfl rfl trivial ?_
            exact L.nil fun a w hh => hh.cutK 2 rfl
          refine L.move rfl rfl rfl trivial ?_
          refine' L.and [(false,20),(false,21),(false,22),(false,23)] [(false,24),(false,25),(false,26),(false,27)] (s := 120) (p := 124) rfl rfl (fun hg9 => ?_) (fun hg9 => ?_) ?_
          rotate_left
          · refine L.move rfl rfl rfl ⟨_, rfl, rfl⟩ ?_
            refine L.move rfl rfl rfl ⟨_, rfl, rfl⟩ ?_
            refine L.geq rfl rfl rfl rfl ⟨_, rfl, rfl⟩ ?_
            refine L.pickT rfl rfl rfl rfl trivial ?_
            exact L.nil fun a w hh => hh.cutK 3 rfl
          · refine L.pass rfl rfl rfl ⟨_, _, rfl, rfl, rfl⟩ ?_
            refine L.pass rfl rfl rfl ⟨_, _, rfl, rfl, rfl⟩ ?_
            refine L.pass rfl rfl rfl ⟨_, _, rfl, rfl, rfl⟩ ?_
            refine L.pickF rfl rfl rfl rfl trivial ?_
            exact L.nil fun a w hh => hh.cutK 3 rfl
          refine L.move rfl rfl rfl trivial ?_
          refine' L.and [(false,25),(false,26)] [(false,27)] (s := 125) (p := 127) rfl rfl (fun hg10 => ?_) (fun hg10 => ?_) ?_
          rotate_left
          · refine L.callV rfl rfl rfl (fun D18 hD18 => awake_ok _) rfl ⟨_, rfl, rfl⟩ ?_
            refine L.pickT rfl rfl rfl rfl trivial ?_
            exact L.nil fun a w hh => hh.cutK 1 rfl
          · refine L.pass rfl rfl rfl ⟨_, _, rfl, rfl, rfl⟩ ?_
            refine L.pickF rfl rfl rfl rfl trivial ?_
            exact L.nil fun a w hh => hh.cutK 1 rfl
          refine L.assign rfl rfl rfl trivial ?_
          refine L.nil ?_
          refine C.next ?_
          refine C.ret ?_
          exact leave (vs := [_]) rfl rfl rfl ⟨rfl, trivial⟩ (fun D hD => congrArg Value.bool (me_ok hkt))
end Go.Fs
