/- Of the proof of MendOrder: W32, W40, W41, W42, W43. -/
import Derived.Test.YtjhdcelmgfajbaaZMendOrderK
namespace Go.Fs
open Go.Proofs
open C7
/-- Some claims are right together in a truth. -/
theorem and_same {b c : Nat} : b &&& c = c ↔ ∀ j, c.testBit j = true → b.testBit j = true := by
  constructor
  · intro h j hj
    rw [← h, Nat.testBit_and, Bool.and_eq_true] at hj
    exact hj.1
  · intro h
    apply Nat.eq_of_testBit_eq
    intro j
    rw [Nat.testBit_and]
    cases e : c.testBit j with
    | false => simp
    | true => rw [h j e]; rfl
theorem can_iff {y : YardD} (h : fault y = 0) {c : Nat} : canB y (allN y) c = true ↔ ∃ t, isTruth y t = true ∧ ∀ j, c.testBit j = true → j < y.claims.length ∧ rightB y.claims (mostT y t : Nat) j = true := by
  have hyo := yOk h
  unfold canB
  rw [List.any_eq_true]
  constructor
  · rintro ⟨m, hm, he⟩
    unfold allN at hm
    obtain ⟨n, _, rfl⟩ := List.mem_map.1 hm
    refine ⟨_, nth_truth hyo n, fun j hj => ?_⟩
    have := and_same.1 (of_decide_eq_true he) j hj
    rw [bset_bit, Bool.and_eq_true, decide_eq_true_eq] at this
    exact this
  · rintro ⟨t, ht, hr⟩
    obtain ⟨n, hn, rfl⟩ := nth_onto ht
    refine ⟨mostN y n, List.mem_map.2 ⟨n, List.mem_range.2 hn, rfl⟩, decide_eq_true (and_same.2 fun j hj => ?_)⟩
    rw [bset_bit, Bool.and_eq_true, decide_eq_true_eq]
    exact hr j hj
theorem scenes_iff {y : YardD} {out : List Int} : (0 : Int) < ((scenesD y out).length : Int) ↔ ∃ t, isTruth y t = true ∧ rightO y.claims out (mostT y t : Nat) = true := by
  rw [show ((0 : Int) < ((scenesD y out).length : Int) ↔ 0 < (scenesD y out).length) by omega, List.length_pos_iff_exists_mem]
  constructor
  · rintro ⟨p, hp⟩
    obtain ⟨t, h1, h2, _⟩ := mem_scenes.1 hp
    exact ⟨t, h1, h2⟩
  · rintro ⟨t, h1, h2⟩
    exact ⟨_, mem_scenes.2 ⟨t, h1, h2, rfl⟩⟩
theorem right_iff {cl : List (Int × Int)} {out : List Int} {n : Int} : rightO cl out n = true ↔ ∀ j, j < cl.length → (∃ x ∈ out, (j : Int) = x) ∨ rightB cl n j = true := by
  unfold rightO
  rw [List.all_eq_true]
  have key : ∀ j, j < cl.length → (rightAt cl out n j = true ↔ (∃ x ∈ out, (j : Int) = x) ∨ rightB cl n j = true) := fun j hj => by
    unfold rightAt rightB
    rw [List.getElem?_eq_getElem hj, Bool.or_eq_true, List.any_eq_true]
    simp
  exact ⟨fun h j hj => (key j hj).1 (h j (List.mem_range.2 hj)), fun h j hj => (key j (List.mem_range.1 hj)).2 (h j (List.mem_range.1 hj))⟩
theorem first_can {y : YardD} (h : fault y = 0) {i : Nat} (hi : i < y.claims.length) : firstP y i = !canB y (allN y) (2 * 2 ^ i - 1) := by
  unfold firstP
  congr 1
  rw [Bool.eq_iff_iff, decide_eq_true_eq, scenes_iff, can_iff h]
  have hl : (takeC y (i + 1)).claims.length = i + 1 := by show (y.claims.take (i + 1)).length = _; rw [List.length_take]; omega
  have hb : ∀ j n, j < i + 1 → rightB (takeC y (i + 1)).claims n j = rightB y.claims n j := fun j n hj => by
    unfold rightB
    show (match (y.claims.take (i + 1))[j]? with | some r => _ | none => _) = _
    rw [List.getElem?_take, if_pos hj]
    cases y.claims[j]? <;> rfl
  have bit : ∀ j, (2 * 2 ^ i - 1).testBit j = decide (j < i + 1) := fun j => by
    rw [show 2 * 2 ^ i = 2 ^ (i + 1) by rw [Nat.pow_succ]; omega, Nat.testBit_two_pow_sub_one]
  constructor
  · rintro ⟨t, h1, h2⟩
    refine ⟨t, h1, fun j hj => ?_⟩
    rw [bit, decide_eq_true_eq] at hj
    rcases right_iff.1 h2 j (by omega) with h3 | h3
    · simp at h3
    · exact ⟨by omega, by rw [hb j _ hj] at h3; exact h3⟩
  · rintro ⟨t, h1, h2⟩
    refine ⟨t, h1, right_iff.2 fun j hj => Or.inr ?_⟩
    rw [hb j _ (by omega)]
    exact (h2 j (by rw [bit, decide_eq_true_eq]; omega)).2
theorem find_congr {p q : Nat → Bool} : ∀ {l : List Nat}, (∀ i ∈ l, p i = q i) → l.find? p = l.find? q
  | [], _ => rfl
  | x :: l, h => by
    rw [List.find?_cons, List.find?_cons, h x List.mem_cons_self, find_congr fun i hi => h i (List.mem_cons_of_mem _ hi)]
theorem first_is {y : YardD} (h : fault y = 0) : firstV y = if 0 ≤ firstR y (allN y) then (firstR y (allN y), 0) else (0, 7) := by
  unfold firstV firstR
  rw [if_neg (by omega), find_congr (q := fun i => !canB y (allN y) (2 * 2 ^ i - 1)) fun i hi => first_can h (List.mem_range.1 hi)]
  cases (List.range y.claims.length).find? (fun i => !canB y (allN y) (2 * 2 ^ i - 1)) with
  | none => rfl
  | some i => simp only; rw [if_pos (by omega)]
/-- Lists of numbers, of one length, in lexicographic order. -/
def sets (n : Nat) : Nat → Nat → List (List Int)
  | 0, _ => [[]]
  | m + 1, f => (List.range' f (n - m - f)).flatMap fun i => (sets n m (i + 1)).map fun l => (i : Int) :: l
def allS (n : Nat) : List (List Int) := (List.range' 0 (n + 1)).flatMap fun m => sets n m 0
def pos (y : YardD) (l : List Int) : Bool := decide (0 < ((scenesD y l).length : Int))
theorem try_spec {g : Nat → List Int → Bool × List Int} {S : Nat → List (List Int)} {Q : List Int → Bool} {out : List Int} : ∀ (is : List Nat), (∀ i ∈ is, ∀ fnd, (∀ l, (S i).find? Q = some l → g i fnd = (true, out ++ l)) ∧ ((S i).find? Q = none → (g i fnd).1 = false)) →
    ∀ fnd, (∀ l, (is.flatMap S).find? Q = some l → tryL g is fnd = (true, out ++ l)) ∧ ((is.flatMap S).find? Q = none → (tryL g is fnd).1 = false)
  | [], _, fnd => ⟨fun l h => by simp at h, fun _ => rfl⟩
  | i :: is, h, fnd => by
    have h0 := h i List.mem_cons_self fnd
    rw [List.flatMap_cons, List.find?_append, tryL]
    cases e : (S i).find? Q with
    | some l =>
      have := h0.1 l e
      rw [this]
      exact ⟨fun l' hl => by rw [Option.some_or] at hl; cases hl; rfl, fun hl => by rw [Option.some_or] at hl; cases hl⟩
    | none =>
      have := h0.2 e
      rw [if_neg (by rw [this]; simp), Option.none_or]
      exact try_spec is (fun i hi => h i (List.mem_cons_of_mem _ hi)) _
theorem lvG_spec {y : YardD} : ∀ (m f : Nat) (out fnd : List Int), (∀ l, (sets y.claims.length m f).find? (fun l => pos y (out ++ l)) = some l → lvG y m f out fnd = (true, out ++ l)) ∧ ((sets y.claims.length m f).find? (fun l => pos y (out ++ l)) = none → (lvG y m f out fnd).1 = false)
  | 0, f, out, fnd => by
    have e : lvG y 0 f out fnd = (pos y out, out) := rfl
    rw [e, sets, List.find?_cons, List.append_nil]
    cases hp : pos y out with
    | true => exact ⟨fun l h => by simp only [Option.some.injEq] at h; rw [← h, List.append_nil], fun h => by simp at h⟩
    | false => exact ⟨fun l h => by simp at h, fun _ => rfl⟩
  | m + 1, f, out, fnd => by
    rw [lvG, sets]
    refine try_spec _ (fun i _ fnd => ?_) fnd
    have ih := lvG_spec (y := y) m (i + 1) (out ++ [(i : Int)]) fnd
    have e : (fun l => pos y (out ++ l)) ∘ (fun l : List Int => (i : Int) :: l) = fun l => pos y ((out ++ [(i : Int)]) ++ l) := by funext l; simp
    rw [List.find?_map, e]
    cases hf : (sets y.claims.length m (i + 1)).find? (fun l => pos y ((out ++ [(i : Int)]) ++ l)) with
    | none => exact ⟨fun l h => by simp at h, fun _ => ih.2 hf⟩
    | some l => exact ⟨fun l' h => by rw [Option.map_some, Option.some.injEq] at h; rw [ih.1 l hf, ← h]; simp, fun h => by simp at h⟩
theorem leaveV_find {y : YardD} (h : fault y = 0) {l : List Int} (hl : (allS y.claims.length).find? (pos y) = some l) : leaveV y = (l, 0) := by
  have := (try_spec (g := fun m fnd => lvG y m 0 [] fnd) (S := fun m => sets y.claims.length m 0) (Q := pos y) (out := []) (List.range' 0 (y.claims.length + 1)) (fun i _ fnd => lvG_spec i 0 [] fnd) []).1 l hl
  unfold leaveV
  rw [if_neg (by omega)]
  show ((tryL (fun m fnd => lvG y m 0 [] fnd) (List.range' 0 (y.claims.length + 1)) []).2, (0 : Int)) = _
  rw [this]; rfl
theorem lex_trans : ∀ {a b c : List Int}, lexB a b = true → lexB b c = true → lexB a c = true
  | [], b, c, h1, h2 => by
    cases b with
    | nil => simp [lexB] at h1
    | cons z b =>
      cases c with
      | nil => simp [lexB] at h2
      | cons w c => simp [lexB]
  | x :: a, b, c, h1, h2 => by
    cases b with
    | nil => simp [lexB] at h1
    | cons z b =>
      cases c with
      | nil => simp [lexB] at h2
      | cons w c =>
        rw [lexB] at h1 h2 ⊢
        split at h1 <;> split at h2
        · rename_i e1 e2; rw [if_pos (e1.trans e2)]; exact lex_trans h1 h2
        · rename_i e1 e2; have := of_decide_eq_true h2; rw [if_neg (by omega), decide_eq_true_eq]; omega
        · rename_i e1 e2; have := of_decide_eq_true h1; rw [if_neg (by omega), decide_eq_true_eq]; omega
        · rename_i e1 e2; have := of_decide_eq_true h1; have := of_decide_eq_true h2; rw [if_neg (by omega), decide_eq_true_eq]; omega
theorem short_trans {a b c : List Int} (h1 : shortB a b = true) (h2 : shortB b c = true) : shortB a c = true := by
  simp only [shortB, Bool.or_eq_true, Bool.and_eq_true, decide_eq_true_eq] at *
  rcases h1 with h1 | h1 <;> rcases h2 with h2 | h2
  · left; omega
  · left; omega
  · left; omega
  · right; exact ⟨by omega, lex_trans h1.2 h2.2⟩
theorem sets_facts : ∀ n, n ≤ 5 → (allS n).Pairwise (fun a b => shortB a b = true) ∧ (∀ b, b < 2 ^ n → bitsL b ∈ allS n) ∧ ∀ l ∈ allS n, ∃ b, b < 2 ^ n ∧ l = bitsL b := by decide +kernel
theorem mem_bits {m j : Nat} : (∃ x ∈ bitsL m, (j : Int) = x) ↔ j < 7 ∧ m.testBit j = true := by
  unfold bitsL bitsK
  constructor
  · rintro ⟨x, hx, e⟩
    obtain ⟨i, hi, rfl⟩ := List.mem_map.1 hx
    obtain rfl : j = i := by omega
    rw [List.mem_filter, List.mem_range] at hi; exact hi
  · rintro ⟨h1, h2⟩
    exact ⟨(j : Int), List.mem_map.2 ⟨j, List.mem_filter.2 ⟨List.mem_range.2 h1, h2⟩, rfl⟩, rfl⟩
theorem pos_can {y : YardD} (h : fault y = 0) {b : Nat} : pos y (bitsL b) = canB y (allN y) (dif (2 ^ y.claims.length - 1) b) := by
  have h5 := (yOk h).cls
  unfold pos
  have bit : ∀ j, (dif (2 ^ y.claims.length - 1) b).testBit j = (decide (j < y.claims.length) && !b.testBit j) := fun j => by rw [dif_bit, Nat.testBit_two_pow_sub_one]
  rw [Bool.eq_iff_iff, decide_eq_true_eq, scenes_iff, can_iff h]
  constructor
  · rintro ⟨t, h1, h2⟩
    refine ⟨t, h1, fun j hj => ?_⟩
    rw [bit, Bool.and_eq_true, decide_eq_true_eq, Bool.not_eq_true'] at hj
    refine ⟨hj.1, ?_⟩
    rcases right_iff.1 h2 j hj.1 with h3 | h3
    · rw [(mem_bits.1 h3).2] at hj; simp at hj
    · exact h3
  · rintro ⟨t, h1, h2⟩
    refine ⟨t, h1, right_iff.2 fun j hj => ?_⟩
    cases e : b.testBit j with
    | true => exact Or.inl (mem_bits.2 ⟨by omega, e⟩)
    | false => exact Or.inr (h2 j (by rw [bit, e]; simp [hj])).2
theorem lex_irr : ∀ a : List Int, lexB a a = false
  | [] => rfl
  | x :: a => by rw [lexB, if_pos rfl]; exact lex_irr a
theorem best_inv {y : YardD} (h : fault y = 0) : ∀ k, k ≤ 2 ^ y.claims.length → (∃ b, b < 2 ^ y.claims.length ∧ bestK y (allN y) k = bitsL b ∧ pos y (bitsL b) = true) ∧ ∀ b, b < k → pos y (bitsL b) = true → shortB (bitsL b) (bestK y (allN y) k) = false
  | 0, _ => by
    have hp1 : 1 ≤ 2 ^ y.claims.length := Nat.one_le_two_pow
    refine ⟨⟨2 ^ y.claims.length - 1, by omega, rfl, ?_⟩, by omega⟩
    rw [pos_can h, can_iff h]
    refine ⟨_, nth_truth (yOk h) 0, fun j hj => ?_⟩
    rw [dif_bit] at hj; simp at hj
  | k + 1, hk => by
    obtain ⟨⟨b0, h0, e0, p0⟩, h1⟩ := best_inv h k (by omega)
    rw [bestK_succ]
    unfold bestS
    split
    · rename_i hc
      rw [Bool.and_eq_true, ← pos_can h] at hc
      refine ⟨⟨k, by omega, rfl, hc.2⟩, fun b hb hp => ?_⟩
      cases e : shortB (bitsL b) (bitsL k) with
      | false => rfl
      | true =>
        have h2 := short_trans e hc.1
        rcases Nat.lt_succ_iff_lt_or_eq.1 hb with hb | rfl
        · rw [h1 b hb hp] at h2; cases h2
        · exfalso
          simp only [shortB, Bool.or_eq_true, Bool.and_eq_true, decide_eq_true_eq] at e
          rcases e with e | e
          · omega
          · exact absurd e.2 (by rw [lex_irr]; simp)
    · rename_i hc
      refine ⟨⟨b0, h0, e0, p0⟩, fun b hb hp => ?_⟩
      rcases Nat.lt_succ_iff_lt_or_eq.1 hb with hb | rfl
      · exact h1 b hb hp
      · rw [← pos_can h, hp, Bool.and_true] at hc
        simpa using hc
theorem leave_is {y : YardD} (h : fault y = 0) : leaveV y = (leaveR y (allN y), 0) := by
  obtain ⟨f1, f2, f3⟩ := sets_facts _ (yOk h).cls
  obtain ⟨⟨b0, h0, e0, p0⟩, h1⟩ := best_inv h (2 ^ y.claims.length) (Nat.le_refl _)
  have hm := f2 b0 h0
  cases e : (allS y.claims.length).find? (pos y) with
  | none => rw [List.find?_eq_none] at e; exact absurd p0 (e _ hm)
  | some l =>
    rw [leaveV_find h e]
    obtain ⟨hp, L1, L2, el, hn⟩ := List.find?_eq_some_iff_append.1 e
    rw [el] at hm f1
    obtain ⟨b1, g1, rfl⟩ := f3 l (List.mem_of_find?_eq_some e)
    have hL := h1 b1 g1 hp
    unfold leaveR
    rw [e0] at hL ⊢
    rcases List.mem_append.1 hm with hm | hm
    · have := hn _ hm; rw [p0] at this; simp at this
    · rcases List.mem_cons.1 hm with hm | hm
      · rw [hm]
      · have := (List.pairwise_cons.1 (List.pairwise_append.1 f1).2.1).1 _ hm
        rw [hL] at this; cases this
end Go.Fs
namespace Go.Fs
open Go.Proofs
open C7
/-- A truth of the yard. -/
def Tr (y : YardD) (t : List Pt) : Prop := isTruth y t = true ∧ rightO y.claims [] ((mostT y t : Nat) : Int) = true
theorem sc_tr {y : YardD} : scenesD y [] ≠ [] ↔ ∃ t, Tr y t := by
  rw [show scenesD y [] ≠ [] ↔ (0 : Int) < ((scenesD y []).length : Int) by rw [Ne, ← List.length_eq_zero_iff]; omega, scenes_iff]; rfl
theorem ask_iff {y : YardD} (h : fault y = 0) : askS y = 0 ↔ ∃ t, Tr y t := by
  rw [← sc_tr]
  unfold askS
  rw [if_neg (by omega), Ne, ← ns_nil (yOk h)]
  constructor
  · intro e hn; rw [if_pos hn] at e; cases e
  · intro e; rw [if_neg e]
theorem mm_fold : ∀ (l : List Int) (r : Int × Int), ((l.foldl (fun r n => (min r.1 n, max r.2 n)) r).1 ≤ r.1 ∧ r.2 ≤ (l.foldl (fun r n => (min r.1 n, max r.2 n)) r).2 ∧ ∀ x ∈ l, (l.foldl (fun r n => (min r.1 n, max r.2 n)) r).1 ≤ x ∧ x ≤ (l.foldl (fun r n => (min r.1 n, max r.2 n)) r).2) ∧
    ((l.foldl (fun r n => (min r.1 n, max r.2 n)) r).1 = r.1 ∨ (l.foldl (fun r n => (min r.1 n, max r.2 n)) r).1 ∈ l) ∧ ((l.foldl (fun r n => (min r.1 n, max r.2 n)) r).2 = r.2 ∨ (l.foldl (fun r n => (min r.1 n, max r.2 n)) r).2 ∈ l)
  | [], r => ⟨⟨Int.le_refl _, Int.le_refl _, by simp⟩, Or.inl rfl, Or.inl rfl⟩
  | x :: l, r => by
    rw [List.foldl_cons]
    obtain ⟨⟨h1, h2, h3⟩, h4, h5⟩ := mm_fold l (min r.1 x, max r.2 x)
    generalize l.foldl (fun r n => (min r.1 n, max r.2 n)) (min r.1 x, max r.2 x) = q at h1 h2 h3 h4 h5 ⊢
    simp only at h1 h2 h4 h5
    refine ⟨⟨by omega, by omega, fun z hz => ?_⟩, ?_, ?_⟩
    · rcases List.mem_cons.1 hz with rfl | hz
      · omega
      · exact h3 z hz
    · rcases h4 with h4 | h4
      · rcases Int.le_total r.1 x with h | h
        · exact Or.inl (by omega)
        · exact Or.inr (by rw [h4, show min r.1 x = x by omega]; exact List.mem_cons_self)
      · exact Or.inr (List.mem_cons_of_mem _ h4)
    · rcases h5 with h5 | h5
      · rcases Int.le_total r.2 x with h | h
        · exact Or.inr (by rw [h5, show max r.2 x = x by omega]; exact List.mem_cons_self)
        · exact Or.inl (by omega)
      · exact Or.inr (List.mem_cons_of_mem _ h5)
/-- The bounds, by the truths. -/
theorem bounds_char {y : YardD} (h : fault y = 0) (ht : ∃ t, Tr y t) : (boundsV y).2 = 0 ∧ (∀ t, Tr y t → (boundsV y).1.1 ≤ ((mostT y t : Nat) : Int) ∧ ((mostT y t : Nat) : Int) ≤ (boundsV y).1.2) ∧ (∃ t, Tr y t ∧ ((mostT y t : Nat) : Int) = (boundsV y).1.1) ∧ ∃ t, Tr y t ∧ ((mostT y t : Nat) : Int) = (boundsV y).1.2 := by
  have hne := sc_tr.2 ht
  have mem : ∀ z, z ∈ (scenesD y []).map (fun p => (p.2 : Int)) ↔ ∃ t, Tr y t ∧ ((mostT y t : Nat) : Int) = z := fun z => by
    rw [List.mem_map]
    constructor
    · rintro ⟨p, hp, rfl⟩
      obtain ⟨t, h1, h2, rfl⟩ := mem_scenes.1 hp
      exact ⟨t, ⟨h1, h2⟩, rfl⟩
    · rintro ⟨t, h1, rfl⟩
      exact ⟨_, mem_scenes.2 ⟨t, h1.1, h1.2, rfl⟩, rfl⟩
  have e : ∃ m l, (scenesD y []).map (fun p => (p.2 : Int)) = m :: l := by
    cases e : scenesD y [] with
    | nil => exact absurd e hne
    | cons p l => exact ⟨_, _, rfl⟩
  obtain ⟨m, l, e⟩ := e
  have eb : boundsV y = ((m :: l).foldl (fun r n => (min r.1 n, max r.2 n)) (m, m), 0) := by unfold boundsV; rw [if_neg (by omega), e]
  rw [e] at mem
  obtain ⟨⟨_, _, h3⟩, h4, h5⟩ := mm_fold (m :: l) (m, m)
  rw [eb]
  generalize (m :: l).foldl (fun r n => (min r.1 n, max r.2 n)) (m, m) = q at h3 h4 h5 ⊢
  simp only at h4 h5 ⊢
  refine ⟨trivial, fun t hT => h3 _ ((mem _).2 ⟨t, hT, rfl⟩), (mem _).1 ?_, (mem _).1 ?_⟩
  · rcases h4 with h4 | h4
    · rw [h4]; exact List.mem_cons_self
    · exact h4
  · rcases h5 with h5 | h5
    · rw [h5]; exact List.mem_cons_self
    · exact h5
theorem bounds_none {y : YardD} (h : fault y = 0) (ht : ¬ ∃ t, Tr y t) : boundsV y = ((0, 0), 11) := by
  have : scenesD y [] = [] := Classical.byContradiction fun hn => ht (sc_tr.1 hn)
  unfold boundsV; rw [if_neg (by omega), this]; rfl
theorem fold_min_char : ∀ (l : List Int) (a : Int), l.foldl min a ≤ a ∧ (∀ x ∈ l, l.foldl min a ≤ x) ∧ (l.foldl min a = a ∨ l.foldl min a ∈ l)
  | [], a => ⟨Int.le_refl _, by simp, Or.inl rfl⟩
  | x :: l, a => by
    rw [List.foldl_cons]
    obtain ⟨h1, h2, h3⟩ := fold_min_char l (min a x)
    refine ⟨by omega, fun z hz => ?_, ?_⟩
    · rcases List.mem_cons.1 hz with rfl | hz
      · omega
      · exact h2 z hz
    · rcases h3 with h3 | h3
      · rcases Int.le_total a x with h | h
        · exact Or.inl (by omega)
        · exact Or.inr (by rw [h3, show min a x = x by omega]; exact List.mem_cons_self)
      · exact Or.inr (List.mem_cons_of_mem _ h3)
/-- The sure number, by the truths. -/
theorem sure_char {y : YardD} (h : fault y = 0) (ht : ∃ t, Tr y t) : (sureV y).2.2 = 0 ∧ (∃ l, (prB y.chairs.length l).isSome = true ∧ l = (sureV y).1 ∧ ∀ t, Tr y t → (sureV y).2.1 ≤ ((makesR y t l : Nat) : Int)) ∧ ∀ l, (prB y.chairs.length l).isSome = true → ∃ t, Tr y t ∧ ((makesR y t l : Nat) : Int) ≤ (sureV y).2.1 := by
  have ha := (ask_iff h).2 ht
  have hn := (yOk h).len
  obtain ⟨h1, h2, h3, h4, h5⟩ := sure_facts ha
  have hne := sc_tr.2 ht
  have key : ∀ l : List (Int × Int), l.length ≤ 50 → (∀ t, Tr y t → sureR y (nsD y) l ≤ ((makesR y t l : Nat) : Int)) ∧ ∃ t, Tr y t ∧ ((makesR y t l : Nat) : Int) = sureR y (nsD y) l := fun l hl => by
    rw [← sure_eq ha hl]
    have mem : ∀ z, z ∈ ((scenesD y []).map fun p => p.1).map (fun s => (makesN s l : Int)) ↔ ∃ t, Tr y t ∧ ((makesR y t l : Nat) : Int) = z := fun z => by
      rw [List.map_map, List.mem_map]
      constructor
      · rintro ⟨p, hp, rfl⟩
        obtain ⟨t, g1, g2, rfl⟩ := mem_scenes.1 hp
        obtain ⟨hlen, _⟩ := truthOk g1
        exact ⟨t, ⟨g1, g2⟩, by rw [← makesN_R (show t.length ≤ 7 by omega)]; rfl⟩
      · rintro ⟨t, g1, rfl⟩
        obtain ⟨hlen, _⟩ := truthOk g1.1
        exact ⟨_, mem_scenes.2 ⟨t, g1.1, g1.2, rfl⟩, by rw [← makesN_R (show t.length ≤ 7 by omega)]; rfl⟩
    have e : ∃ s r, (scenesD y []).map (fun p => p.1) = s :: r := by
      cases e : scenesD y [] with
      | nil => exact absurd e hne
      | cons p l => exact ⟨_, _, rfl⟩
    obtain ⟨s, r, e⟩ := e
    have es : sureZ ((scenesD y []).map fun p => p.1) l = (((scenesD y []).map fun p => p.1).map fun s => (makesN s l : Int)).foldl min (makesN s l : Int) := by rw [e]; rfl
    obtain ⟨c1, c2, c3⟩ := fold_min_char (((scenesD y []).map fun p => p.1).map fun s => (makesN s l : Int)) (makesN s l : Int)
    rw [es]
    refine ⟨fun t hT => c2 _ ((mem _).2 ⟨t, hT, rfl⟩), (mem _).1 ?_⟩
    rcases c3 with c3 | c3
    · rw [c3, e]; exact List.mem_cons_self
    · exact c3
  refine ⟨h1, ⟨_, h3, rfl, fun t hT => ?_⟩, fun l hl => ?_⟩
  · have := (key (sureV y).1 (by omega)).1 t hT
    omega
  · have hl3 := (prB_ok hn hl).2
    obtain ⟨t, hT, e⟩ := (key l (by omega)).2
    have := sure_most (ns := nsD y) hl
    exact ⟨t, hT, by omega⟩
theorem sure_none {y : YardD} (h : fault y = 0) (ht : ¬ ∃ t, Tr y t) : sureV y = ([], 0, 11) := by
  have : scenesD y [] = [] := Classical.byContradiction fun hn => ht (sc_tr.1 hn)
  unfold sureV; rw [if_neg (by omega), if_pos this]
/-- Some claims (by bits) can be left out. -/
def Pos (y : YardD) (b : Nat) : Prop := ∃ t, isTruth y t = true ∧ ∀ j, j < y.claims.length → b.testBit j = true ∨ rightB y.claims ((mostT y t : Nat) : Int) j = true
theorem pos_iff {y : YardD} (h : fault y = 0) {b : Nat} (hb : b < 2 ^ y.claims.length) : pos y (bitsL b) = true ↔ Pos y b := by
  have h5 := (yOk h).cls
  have hb5 : 2 ^ y.claims.length ≤ 2 ^ 5 := Nat.pow_le_pow_right (by omega) h5
  unfold pos
  rw [decide_eq_true_eq, scenes_iff]
  have mem : ∀ j : Nat, (∃ x ∈ bitsL b, (j : Int) = x) ↔ b.testBit j = true := fun j => by
    constructor
    · rintro ⟨x, hx, rfl⟩
      exact (mem_bitsL hx).2.2
    · intro hj
      refine ⟨(j : Int), ?_, rfl⟩
      unfold bitsL bitsK
      refine List.mem_map.2 ⟨j, List.mem_filter.2 ⟨List.mem_range.2 (bit128 (by omega) hj), hj⟩, rfl⟩
  constructor
  · rintro ⟨t, h1, h2⟩
    refine ⟨t, h1, fun j hj => ?_⟩
    exact (right_iff.1 h2 j hj).imp (mem j).1 id
  · rintro ⟨t, h1, h2⟩
    exact ⟨t, h1, right_iff.2 fun j hj => (h2 j hj).imp (mem j).2 id⟩
/-- The number of claims that have to be left out. -/
theorem leave_char {y : YardD} (h : fault y = 0) : (leaveV y).2 = 0 ∧ ∃ b, b < 2 ^ y.claims.length ∧ Pos y b ∧ (leaveV y).1 = bitsL b ∧ (leaveV y).1.length = onesB b ∧ ∀ c, c < 2 ^ y.claims.length → Pos y c → onesB b ≤ onesB c := by
  obtain ⟨⟨b, h0, e, p⟩, h1⟩ := best_inv h _ (Nat.le_refl _)
  rw [e] at h1
  have el : (leaveV y).1 = bitsL b := by rw [leave_is h]; exact e
  refine ⟨by rw [leave_is h], b, h0, (pos_iff h h0).1 p, el, by rw [el, bl_len], fun c hc hp => ?_⟩
  have := h1 c hc ((pos_iff h hc).2 hp)
  unfold shortB at this
  rw [Bool.or_eq_false_iff, decide_eq_false_iff_not, bl_len, bl_len] at this
  omega
end Go.Fs
namespace Go.Fs
open Go.Proofs
open C7
section
variable {P : Program} {X : Cx} {γb : Type} [Membership Nat γb] {bad : γb} {all : Array Oper} {K : Act → World → Prop} {Q : Exit → Act → World → Prop}
variable {σ : Slots} {μ : Boxes} {Ds : List Data} {os : List (Bool × Nat)} {fl : Bool} {ix : Nat}
variable {d : Nat} {x y z : Operand} {u v : Value} {ty : TypeId} {pos : String} {aft : Array Edge} {g : Option (Nat × Bool)}
variable {k' : IntKind} {m n : Nat} {t t' : TypeId}
end
theorem chC_cell1 (l : List Ch) : ∀ u ∈ chC l, cell1 u = true := by
  intro u hu
  obtain ⟨c, _, h⟩ := List.mem_flatMap.1 hu
  simp only [List.mem_cons, List.not_mem_nil, or_false] at h
  rcases h with rfl | rfl | rfl | rfl <;> rfl
theorem Src.chs {D : Data} {v : Value} {l : List Ch} (h : Sl D RCh 4 v l) : Src D v l.length (chC l) := Src.of (R := RCh) (fun _ _ _ h => h) (fun _ => rfl) h
theorem mod_in2 {a b : Nat} (h : a ≤ 255) : -9223372036854775808 ≤ (a : Int) % (b : Int) ∧ (a : Int) % (b : Int) ≤ 9223372036854775807 := mod_in (by omega)
theorem known_in {y : YardD} (h : (!(thin y && decide (fault y = 0)) || decide ((y.chairs.length : Int) = 0)) = false) : (!(thin y && decide (fault y = 0))) = false ∧ 0 < y.chairs.length := by
  rw [Bool.or_eq_false_iff, decide_eq_false_iff_not] at h
  exact ⟨h.1, by omega⟩
theorem fault_of {y : YardD} (h1 : y.chairs.length ≤ 7) (h2 : y.claims.length ≤ 5) (h3 : yardOk y = true) (h4 : unknown y.chairs ≤ 8) : fault y = 0 := by
  unfold fault; rw [if_neg (by omega), if_neg (by rw [h3]; simp), if_neg (by omega)]
theorem ok_of {y : YardD} (h : fault y = 0) : yardOk y = true := by
  unfold fault at h
  split at h
  · omega
  · split at h
    · omega
    · rename_i h2; simpa using h2
end Go.Fs
namespace Go.Fs
open Go.Proofs
open C7
end Go.Fs
namespace Go.Fs
open Go.Proofs
open C7
section
variable {P : Program} {X : Cx} {γb : Type} [Membership Nat γb] {bad : γb} {all : Array Oper} {K : Act → World → Prop} {Q : Exit → Act → World → Prop}
variable {σ : Slots} {μ : Boxes} {Ds : List Data} {os : List (Bool × Nat)} {fl : Bool} {ix : Nat}
variable {d : Nat} {x y z : Operand} {u v : Value} {ty : TypeId} {pos : String} {aft : Array Edge} {g : Option (Nat × Bool)}
variable {k' : IntKind} {m n : Nat} {t t' : TypeId}
/-- Some cells laid into a block that the frame owns. -/
theorem L.storeCells {t : TypeId} {b off k : Nat} {A A' J us : List Value} {e : TypeId} {μ' : Boxes} (ho : all[ix]? = some ⟨none, .store t x y, ty, pos, aft, g⟩) (hs : TS P t us.length) (hx : ev σ x = some (.pointer (some ⟨b, off, none⟩))) (hy : ev σ y = some v) (hv : v.cells = us.toArray)
    (hm : Has μ b (.cells (A ++ J).toArray e (0, 0)) (.cells (A' ++ J).toArray e (0, 0)) μ') (hA : A.take k ++ us ++ A.drop (k + us.length) = A') (hk : off = k) (hl : k + us.length ≤ A.length) (hc1 : ∀ u ∈ us, cell1 u = true) (hfl : fl = false ∨ b ∈ bad) (hg : Gok all σ g)
    (kk : WL P X bad all K Q os σ μ' Ds) : WL P X bad all K Q ((fl, ix) :: os) σ μ Ds := by
  subst hk
  refine L.storeB (us := us) (vs := A ++ J) (ws := A' ++ J) ho hx hy hv hs hm (by rw [List.length_append]; omega) ?_ hc1 hfl hg kk
  rw [List.take_append_of_le_length (by omega), List.drop_append_of_le_length (by omega), ← hA]
  simp
/-- The blocks of the frame have different numbers. -/
theorem C.nodup {c' : Code} (k : μ.ks.Nodup → WC P X Q c' σ μ Ds) : WC P X Q c' σ μ Ds := fun a w hh => by
  obtain ⟨h1, h2, h3, D, h4, h5, h6⟩ := id hh
  exact k h4.nd a w hh
end
theorem apart3 {a b q r : Nat} {x y : Obj} (h1 : q ∉ Boxes.ks [(a, x), (b, y)]) (h2 : r ∉ Boxes.ks [(a, x), (b, y)]) (h3 : (Boxes.ks [(a, x), (b, y)]).Nodup) : a ∉ [q, b, r] := by
  simp only [Boxes.ks, List.map_cons, List.map_nil, List.mem_cons, List.not_mem_nil, or_false, not_or, List.nodup_cons] at h1 h2 h3 ⊢
  exact ⟨fun e => h1.1 e.symm, h3.1, fun e => h2.1 e.symm⟩
theorem sl_at {α : Type} {R : Rd α} {D : Data} {sz bt ot n ct i : Nat} {xs : List α} {x : α} (h : Sl D R sz (.slice (some ⟨bt, ot, none⟩) n ct) xs) (hx : xs[i]? = some x) : ∃ cs, R D x cs ∧ cs.length = sz ∧ At D bt (ot + i * sz) cs := by
  obtain ⟨a, cap, hv, h1, h2, h3⟩ := h
  rcases h3 with rfl | ⟨b, o, ha, h3⟩
  · simp at hx
  · injection hv with e1 _ _
    rw [ha] at e1
    injection e1 with e1
    injection e1 with e1 e2 _
    subst e1 e2
    exact h3 i x hx
def chc (c : Ch) : List Value := [.int .i64 c.size, .int .i64 c.parts.a, .int .i64 c.parts.b, .int .i64 c.parts.c]
theorem chc_cell1 (c : Ch) : ∀ u ∈ chc c, cell1 u = true := by
  intro u hu
  simp only [chc, List.mem_cons, List.not_mem_nil, or_false] at hu
  rcases hu with rfl | rfl | rfl | rfl <;> rfl
theorem setCh_cells {c : Ch} : ∀ {l : List Ch} {k : Nat}, k < l.length → (chC l).take (k * 4) ++ chc c ++ (chC l).drop (k * 4 + (chc c).length) = chC (l.set k c)
  | d :: l, 0, _ => by
    have e : chC (d :: l) = .int .i64 d.size :: .int .i64 d.parts.a :: .int .i64 d.parts.b :: .int .i64 d.parts.c :: chC l := rfl
    rw [e]; rfl
  | d :: l, k + 1, h => by
    have ih := setCh_cells (c := c) (l := l) (k := k) (by simpa using h)
    have e : chC (d :: l) = .int .i64 d.size :: .int .i64 d.parts.a :: .int .i64 d.parts.b :: .int .i64 d.parts.c :: chC l := rfl
    rw [e, show (k + 1) * 4 = k * 4 + 1 + 1 + 1 + 1 by omega, show k * 4 + 1 + 1 + 1 + 1 + (chc c).length = (k * 4 + (chc c).length) + 1 + 1 + 1 + 1 by omega]
    simp only [List.take_succ_cons, List.drop_succ_cons, List.cons_append]
    rw [ih]; rfl
/-- A yard in which two chairs are exchanged. -/
def swapY (y : YardD) (i j : Nat) (c d : Ch) : YardD := { y with chairs := (y.chairs.set i d).set j c }
/-- The other number. -/
def swN (i j k : Nat) : Nat := if k = i then j else if k = j then i else k
theorem swN_swN (i j k : Nat) : swN i j (swN i j k) = k := by
  unfold swN
  by_cases h1 : k = i
  · subst h1
    by_cases h2 : j = k
    · simp [h2]
    · simp [h2]
  · by_cases h2 : k = j
    · subst h2; simp [h1]
    · simp [h1, h2]
theorem swN_lt {i j k n : Nat} (hi : i < n) (hj : j < n) : swN i j k < n ↔ k < n := by
  unfold swN; split
  · omega
  · split <;> omega
theorem swN_inj {i j k l : Nat} (h : swN i j k = swN i j l) : k = l := by rw [← swN_swN i j k, h, swN_swN]
/-- A list in which two elements are exchanged. -/
def swL {α : Type} (i j : Nat) (l : List α) : List α := (List.range l.length).filterMap fun k => l[swN i j k]?
theorem filterMap_some {α β : Type} {f : α → Option β} {g : α → β} : ∀ {l : List α}, (∀ x ∈ l, f x = some (g x)) → l.filterMap f = l.map g
  | [], _ => rfl
  | x :: l, h => by rw [List.filterMap_cons, h x List.mem_cons_self, List.map_cons, filterMap_some fun y hy => h y (List.mem_cons_of_mem _ hy)]
theorem swL_len {α : Type} {i j : Nat} {l : List α} (hi : i < l.length) (hj : j < l.length) : (swL i j l).length = l.length := by
  obtain ⟨x, hx⟩ : ∃ x, l[i]? = some x := ⟨_, List.getElem?_eq_getElem hi⟩
  unfold swL
  rw [filterMap_some (g := fun k => (l[swN i j k]?).getD x) fun k hk => by
    rw [List.getElem?_eq_getElem ((swN_lt hi hj).2 (List.mem_range.1 hk))]; rfl, List.length_map, List.length_range]
theorem swL_get {α : Type} {i j : Nat} {l : List α} (hi : i < l.length) (hj : j < l.length) (k : Nat) : (swL i j l)[k]? = l[swN i j k]? := by
  obtain ⟨x, hx⟩ : ∃ x, l[i]? = some x := ⟨_, List.getElem?_eq_getElem hi⟩
  have e : swL i j l = (List.range l.length).map fun k => (l[swN i j k]?).getD x := by
    unfold swL
    exact filterMap_some fun k hk => by rw [List.getElem?_eq_getElem ((swN_lt hi hj).2 (List.mem_range.1 hk))]; rfl
  rw [e, List.getElem?_map]
  by_cases hk : k < l.length
  · rw [List.getElem?_range hk, Option.map_some, List.getElem?_eq_getElem ((swN_lt hi hj).2 hk)]; rfl
  · rw [List.getElem?_eq_none (by rw [List.length_range]; omega), List.getElem?_eq_none (by have := (swN_lt (k := k) hi hj); omega)]; rfl
theorem swap_eq {y : YardD} {i j : Nat} {c d : Ch} (hi : y.chairs[i]? = some c) (hj : y.chairs[j]? = some d) (k : Nat) : (swapY y i j c d).chairs[k]? = y.chairs[swN i j k]? := by
  have hil := (List.getElem?_eq_some_iff.1 hi).1
  have hjl := (List.getElem?_eq_some_iff.1 hj).1
  show ((y.chairs.set i d).set j c)[k]? = _
  unfold swN
  by_cases h1 : k = i
  · subst h1
    rw [if_pos rfl]
    by_cases h2 : j = k
    · subst h2
      rw [hi] at hj
      rw [List.getElem?_set_self (by simpa using hil), hi]
    · rw [List.getElem?_set_ne (by omega), List.getElem?_set_self hil, hj]
  · rw [if_neg h1]
    by_cases h2 : k = j
    · subst h2; rw [if_pos rfl, List.getElem?_set_self (by simpa using hjl), hi]
    · rw [if_neg h2, List.getElem?_set_ne (by omega), List.getElem?_set_ne (by omega)]
theorem swap_perm {α : Type} {i j : Nat} (l : List α) (hil : i < l.length) (hjl : j < l.length) : (swL i j l).Perm l := by
  obtain ⟨x, hx⟩ : ∃ x, l[i]? = some x := ⟨_, List.getElem?_eq_getElem hil⟩
  have e : swL i j l = ((List.range l.length).map (swN i j)).map fun k => (l[k]?).getD x := by
    unfold swL
    rw [List.map_map]
    exact filterMap_some fun k hk => by rw [List.getElem?_eq_getElem ((swN_lt hil hjl).2 (List.mem_range.1 hk))]; simp [List.getElem?_eq_getElem ((swN_lt hil hjl).2 (List.mem_range.1 hk))]
  have e2 : l = (List.range l.length).map fun k => (l[k]?).getD x := by
    apply List.ext_getElem (by simp)
    intro k h1 h2
    rw [List.getElem_map, List.getElem_range, List.getElem?_eq_getElem h1]; rfl
  have p : ((List.range l.length).map (swN i j)).Perm (List.range l.length) := by
    refine (List.perm_ext_iff_of_nodup ?_ List.nodup_range).2 fun a => ?_
    · exact List.nodup_iff_pairwise_ne.2 (List.pairwise_map.2 (List.nodup_iff_pairwise_ne.1 List.nodup_range |>.imp fun h e => h (swN_inj e)))
    · rw [List.mem_map]
      constructor
      · rintro ⟨b, hb, rfl⟩; exact List.mem_range.2 ((swN_lt hil hjl).2 (List.mem_range.1 hb))
      · intro ha; exact ⟨swN i j a, List.mem_range.2 ((swN_lt hil hjl).2 (List.mem_range.1 ha)), swN_swN i j a⟩
  rw [e]
  conv => rhs; rw [e2]
  exact p.map _
section swap
variable {y : YardD} {i j : Nat} {c d : Ch} (hi : y.chairs[i]? = some c) (hj : y.chairs[j]? = some d)
include hi hj
theorem swap_truth {t : List Pt} (ht : isTruth y t = true) : isTruth (swapY y i j c d) (swL i j t) = true := by
  have hil := (List.getElem?_eq_some_iff.1 hi).1
  have hjl := (List.getElem?_eq_some_iff.1 hj).1
  unfold isTruth at ht ⊢
  rw [Bool.and_eq_true, decide_eq_true_eq, List.all_eq_true] at ht ⊢
  obtain ⟨h1, h2⟩ := ht
  refine ⟨by rw [swL_len (by omega) (by omega), h1]; simp [swapY], fun x hx => ?_⟩
  obtain ⟨k, hk⟩ := List.mem_iff_getElem?.1 hx
  obtain ⟨e, q⟩ := x
  rw [List.getElem?_zip_eq_some] at hk
  simp only [swap_eq hi hj, swL_get (show i < t.length by omega) (show j < t.length by omega)] at hk
  exact h2 (e, q) (List.mem_iff_getElem?.2 ⟨swN i j k, by rw [List.getElem?_zip_eq_some]; exact hk⟩)
theorem swap_fit {t : List Pt} (ht : t.length = y.chairs.length) (a b : Nat) : fitB (swapY y i j c d) (swL i j t) a b = fitB y t (swN i j a) (swN i j b) := by
  have hil := (List.getElem?_eq_some_iff.1 hi).1
  have hjl := (List.getElem?_eq_some_iff.1 hj).1
  unfold fitB
  rw [swap_eq hi hj, swap_eq hi hj, swL_get (by omega) (by omega), swL_get (by omega) (by omega)]
  have e : decide (((b : Nat) : Int) ≠ (a : Int)) = decide (((swN i j b : Nat) : Int) ≠ ((swN i j a : Nat) : Int)) := by
    rw [decide_eq_decide]
    constructor
    · intro h h'; exact h (by have := swN_inj (i := i) (j := j) (k := b) (l := a) (by omega); omega)
    · intro h h'; exact h (by have : b = a := by omega
                              rw [this])
  rw [e]; rfl
theorem swap_whole {t : List Pt} (ht : t.length = y.chairs.length) : whole (swL i j t) = whole t := by
  have hil := (List.getElem?_eq_some_iff.1 hi).1
  have hjl := (List.getElem?_eq_some_iff.1 hj).1
  unfold whole
  exact ((swap_perm t (by omega) (by omega)).filter _).length_eq
end swap
theorem ends_map (f : Nat → Nat) (M : List (Nat × Nat)) : ends (M.map fun p => (f p.1, f p.2)) = (ends M).map f := by
  induction M with
  | nil => rfl
  | cons p M ih => unfold ends at ih ⊢; rw [List.map_cons, List.flatMap_cons, List.flatMap_cons, ih, List.map_append]; rfl
theorem ends_nodup_map {f : Nat → Nat} (hf : ∀ a b, f a = f b → a = b) {M : List (Nat × Nat)} (h : (ends M).Nodup) : (ends (M.map fun p => (f p.1, f p.2))).Nodup := by
  rw [ends_map]
  exact List.nodup_iff_pairwise_ne.2 (List.pairwise_map.2 ((List.nodup_iff_pairwise_ne.1 h).imp fun h e => h (hf _ _ e)))
theorem nu_map {f g : Nat → Nat → Bool} {S T : Nat → Bool} {s : Nat → Nat} (hs : ∀ a b, s a = s b → a = b) (hf : ∀ a b, f a b = true → g (s a) (s b) = true) (hS : ∀ a, S a = true → T (s a) = true) {k l : Nat} (hk : IsNu f S k) (hl : IsNu g T l) : k ≤ l := by
  obtain ⟨M, hM, rfl⟩ := hk.ex
  have := hl.le (M.map fun p => (s p.1, s p.2)) ⟨fun p hp => by
    obtain ⟨q, hq, rfl⟩ := List.mem_map.1 hp
    obtain ⟨h1, h2, h3⟩ := hM.fit q hq
    exact ⟨hS _ h1, hS _ h2, hf _ _ h3⟩, ends_nodup_map hs hM.nd⟩
  rwa [List.length_map] at this
theorem swap_le {y : YardD} {i j : Nat} {c d : Ch} (hi : y.chairs[i]? = some c) (hj : y.chairs[j]? = some d) (hn : y.chairs.length ≤ 7) {t : List Pt} (ht : t.length = y.chairs.length) : mostT y t = mostT (swapY y i j c d) (swL i j t) := by
  have hil := (List.getElem?_eq_some_iff.1 hi).1
  have hjl := (List.getElem?_eq_some_iff.1 hj).1
  have hl2 : (swL i j t).length = (swapY y i j c d).chairs.length := by rw [swL_len (by omega) (by omega), ht]; simp [swapY]
  have h1 := nu_is ht (by omega)
  have h2 := nu_is hl2 (by rw [swL_len (by omega) (by omega)]; omega)
  have fit := swap_fit hi hj ht
  have brk : ∀ a, (sceneD (swapY y i j c d) (swL i j t)).broken.testBit a = (sceneD y t).broken.testBit (swN i j a) := fun a => by
    show (bset (brokB (swL i j t)) (swL i j t).length).testBit a = (bset (brokB t) t.length).testBit (swN i j a)
    rw [bset_bit, bset_bit, swL_len (by omega) (by omega)]
    unfold brokB
    rw [swL_get (by omega) (by omega), decide_eq_decide.2 (swN_lt (k := a) (show i < t.length by omega) (show j < t.length by omega)).symm]
  have a1 := nu_map (s := swN i j) (fun _ _ => swN_inj) (fun a b h => by rw [fit, swN_swN, swN_swN]; exact h) (fun a h => by rw [brk, swN_swN]; exact h) h1 h2
  have a2 := nu_map (s := swN i j) (fun _ _ => swN_inj) (fun a b h => by rw [← fit]; exact h) (fun a h => by rw [← brk]; exact h) h2 h1
  have hw := swap_whole hi hj ht
  unfold mostT mostS
  have e1 : (sceneD y t).whole = whole t := rfl
  have e2 : (sceneD (swapY y i j c d) (swL i j t)).whole = whole (swL i j t) := rfl
  omega
/-- A pairing with other numbers. -/
theorem swap_pairing {n i j : Nat} (hn : n ≤ 7) (hi : i < n) (hj : j < n) {l : List (Int × Int)} (hl : (prB n l).isSome = true) : ∃ M N, l = pI M ∧ (prB n (pI N)).isSome = true ∧ N = M.map fun p => (min (swN i j p.1) (swN i j p.2), max (swN i j p.1) (swN i j p.2)) := by
  obtain ⟨M, rfl, hM⟩ := prB_pr hl
  refine ⟨M, _, rfl, ?_, rfl⟩
  have hM1 := fun p hp => hM.at_ p hp
  refine prB_of hn _ 0 (by omega) (fun p hp => ?_) ?_
  · obtain ⟨q, hq, rfl⟩ := List.mem_map.1 hp
    obtain ⟨_, g1, g2, _⟩ := hM1 q hq
    have e1 := (swN_lt (k := q.1) hi hj).2 (by omega)
    have e2 := (swN_lt (k := q.2) hi hj).2 (by omega)
    have e3 : swN i j q.1 ≠ swN i j q.2 := fun e => by have := swN_inj e; omega
    exact ⟨by simp only; omega, by simp only; omega, Nat.zero_testBit _, Nat.zero_testBit _⟩
  · have e : (M.map fun p => (min (swN i j p.1) (swN i j p.2), max (swN i j p.1) (swN i j p.2))) = (M.map fun p => (swN i j p.1, swN i j p.2)).map fun p => (min p.1 p.2, max p.1 p.2) := by rw [List.map_map]; rfl
    rw [e]
    exact (ends_norm _).nodup_iff.2 (ends_nodup_map (fun _ _ => swN_inj) hM.nd)
theorem swap_makes {y : YardD} {i j : Nat} {c d : Ch} (hi : y.chairs[i]? = some c) (hj : y.chairs[j]? = some d) {t : List Pt} (ht : t.length = y.chairs.length) (M : List (Nat × Nat)) : makesR (swapY y i j c d) (swL i j t) (pI (M.map fun p => (min (swN i j p.1) (swN i j p.2), max (swN i j p.1) (swN i j p.2)))) = makesR y t (pI M) := by
  rw [makesR_pI, makesR_pI, swap_whole hi hj ht]
  congr 1
  unfold fitN
  rw [List.filter_map, List.length_map]
  congr 1
  refine List.filter_congr fun p _ => ?_
  show fitB _ _ _ _ = fitB _ _ _ _
  simp only
  rcases Nat.le_total (swN i j p.1) (swN i j p.2) with h | h
  · rw [Nat.min_eq_left h, Nat.max_eq_right h, swap_fit hi hj ht, swN_swN, swN_swN]
  · rw [Nat.min_eq_right h, Nat.max_eq_left h, swap_fit hi hj ht, swN_swN, swN_swN, fitB_comm]
/-- What a yard has, the one with two chairs exchanged has too. -/
theorem swap_half {y : YardD} {i j : Nat} {c d : Ch} (hf : fault y = 0) (_hx : fault (swapY y i j c d) = 0) (hi : y.chairs[i]? = some c) (hj : y.chairs[j]? = some d) : (∀ t, Tr y t → Tr (swapY y i j c d) (swL i j t) ∧ mostT (swapY y i j c d) (swL i j t) = mostT y t) ∧ (∀ b, Pos y b → Pos (swapY y i j c d) b) := by
  have hn := (yOk hf).len
  have hmost : ∀ t, isTruth y t = true → mostT (swapY y i j c d) (swL i j t) = mostT y t := fun t ht => (swap_le hi hj hn (truthOk ht).1).symm
  refine ⟨fun t hT => ⟨⟨swap_truth hi hj hT.1, ?_⟩, hmost t hT.1⟩, fun b hb => ?_⟩
  · rw [hmost t hT.1]; exact hT.2
  · obtain ⟨t, h1, h2⟩ := hb
    exact ⟨_, swap_truth hi hj h1, fun k hk => by rw [hmost t h1]; exact h2 k hk⟩
theorem swap_back {y : YardD} {i j : Nat} {c d : Ch} (hi : y.chairs[i]? = some c) (hj : y.chairs[j]? = some d) : swapY (swapY y i j c d) i j d c = y := by
  have hil := (List.getElem?_eq_some_iff.1 hi).1
  have hjl := (List.getElem?_eq_some_iff.1 hj).1
  have h1 : (swapY y i j c d).chairs[i]? = some d := by rw [swap_eq hi hj]; unfold swN; rw [if_pos rfl, hj]
  have h2 : (swapY y i j c d).chairs[j]? = some c := by
    rw [swap_eq hi hj]; unfold swN
    by_cases e : j = i
    · subst e; rw [if_pos rfl, hi]
    · rw [if_neg e, if_pos rfl, hi]
  have e : (swapY (swapY y i j c d) i j d c).chairs = y.chairs := by
    apply List.ext_getElem?
    intro k
    rw [swap_eq h1 h2, swap_eq hi hj, swN_swN]
  obtain ⟨ch, f, cl⟩ := y
  show (⟨_, _, _⟩ : YardD) = _
  simp only [YardD.mk.injEq]
  exact ⟨e, rfl, rfl⟩
theorem swap_sure {y : YardD} {i j : Nat} {c d : Ch} (hf : fault y = 0) (hx : fault (swapY y i j c d) = 0) (hi : y.chairs[i]? = some c) (hj : y.chairs[j]? = some d) (ht : ∃ t, Tr y t) (ht' : ∃ t, Tr (swapY y i j c d) t) (hback : ∀ t, Tr (swapY y i j c d) t → ∃ t', Tr y t' ∧ t = swL i j t') : (sureV y).2.1 ≤ (sureV (swapY y i j c d)).2.1 := by
  have hn := (yOk hf).len
  have hil := (List.getElem?_eq_some_iff.1 hi).1
  have hjl := (List.getElem?_eq_some_iff.1 hj).1
  obtain ⟨_, ⟨l, h1, _, h2⟩, _⟩ := sure_char hf ht
  obtain ⟨_, _, h3⟩ := sure_char hx ht'
  obtain ⟨M, N, rfl, hN, e⟩ := swap_pairing (i := i) (j := j) hn hil hjl h1
  obtain ⟨t, hT, g⟩ := h3 (pI N) (by rw [show (swapY y i j c d).chairs.length = y.chairs.length by simp [swapY]]; exact hN)
  obtain ⟨t', hT', rfl⟩ := hback t hT
  have := h2 t' hT'
  rw [e, swap_makes hi hj (truthOk hT'.1).1] at g
  omega
theorem unkP_sum {l m : List Ch} (h : l.Perm m) : unknown l = unknown m := by unfold unknown; exact (h.map fun c : Ch => unkP c.parts).sum_nat
theorem swap_fault {y : YardD} {i j : Nat} {c d : Ch} (hf : fault y = 0) (hi : y.chairs[i]? = some c) (hj : y.chairs[j]? = some d) : fault (swapY y i j c d) = 0 := by
  have hil := (List.getElem?_eq_some_iff.1 hi).1
  have hjl := (List.getElem?_eq_some_iff.1 hj).1
  have hyo := yOk hf
  have hp : ((swapY y i j c d).chairs).Perm y.chairs := by
    have e : (swapY y i j c d).chairs = swL i j y.chairs := by
      apply List.ext_getElem?
      intro k
      rw [swap_eq hi hj, swL_get hil hjl]
    rw [e]
    exact swap_perm _ hil hjl
  refine fault_of (by rw [hp.length_eq]; exact hyo.len) hyo.cls ?_ (by rw [unkP_sum hp]; exact unk_8 hf)
  have := ok_of hf
  unfold yardOk at this ⊢
  rw [Bool.and_eq_true, Bool.and_eq_true, List.all_eq_true] at this ⊢
  exact ⟨⟨this.1.1, fun c hc => this.1.2 c (hp.mem_iff.1 hc)⟩, this.2⟩
theorem mo_ok {y : YardD} {i j : Nat} {c d : Ch} (hf : fault y = 0) (hi : y.chairs[i]? = some c) (hj : y.chairs[j]? = some d) : ((((((((((decide ((boundsV y).2 = 0) || decide ((boundsV y).2 = 11)) && decide ((boundsV (swapY y i j c d)).2 = (boundsV y).2)) && ((boundsV y).1 == (boundsV (swapY y i j c d)).1)) && decide ((sureV y).2.2 = (boundsV y).2)) && decide ((sureV (swapY y i j c d)).2.2 = (boundsV y).2)) && decide ((sureV y).2.1 = (sureV (swapY y i j c d)).2.1)) && decide ((leaveV y).2 = 0)) && decide ((leaveV (swapY y i j c d)).2 = 0)) && decide (((leaveV y).1.length : Int) = ((leaveV (swapY y i j c d)).1.length : Int))) && true) = true := by
  have hx := swap_fault hf hi hj
  obtain ⟨a1, a2⟩ := swap_half hf hx hi hj
  have hil := (List.getElem?_eq_some_iff.1 hi).1
  have hjl := (List.getElem?_eq_some_iff.1 hj).1
  have h1 : (swapY y i j c d).chairs[i]? = some d := by rw [swap_eq hi hj]; unfold swN; rw [if_pos rfl, hj]
  have h2 : (swapY y i j c d).chairs[j]? = some c := by
    rw [swap_eq hi hj]; unfold swN
    by_cases e : j = i
    · subst e; rw [if_pos rfl, hi]
    · rw [if_neg e, if_pos rfl, hi]
  have hb := swap_back hi hj
  obtain ⟨b1, b2⟩ := swap_half hx (by rw [hb]; exact hf) h1 h2
  rw [hb] at b1 b2
  have sw2 : ∀ t : List Pt, t.length = y.chairs.length → swL i j (swL i j t) = t := fun t hl => by
    apply List.ext_getElem?
    intro k
    rw [swL_get (by rw [swL_len (by omega) (by omega)]; omega) (by rw [swL_len (by omega) (by omega)]; omega), swL_get (by omega) (by omega), swN_swN]
  have hlen : (swapY y i j c d).chairs.length = y.chairs.length := by simp [swapY]
  obtain ⟨l1, b, l2, l3, _, l4, l5⟩ := leave_char hf
  obtain ⟨m1, b', m2, m3, _, m4, m5⟩ := leave_char hx
  have el : (leaveV y).1.length = (leaveV (swapY y i j c d)).1.length := by
    have := l5 b' m2 (b2 b' m3)
    have := m5 b l2 (a2 b l3)
    omega
  rw [l1, m1, el]
  by_cases ht : ∃ t, Tr y t
  · obtain ⟨t0, hT0⟩ := ht
    have ht' : ∃ t, Tr (swapY y i j c d) t := ⟨_, (a1 t0 hT0).1⟩
    obtain ⟨p1, p2, ⟨u, p3, p3'⟩, ⟨w, p4, p4'⟩⟩ := bounds_char hf ⟨t0, hT0⟩
    obtain ⟨q1, q2, ⟨u2, q3, q3'⟩, ⟨w2, q4, q4'⟩⟩ := bounds_char hx ht'
    have s1 := (sure_char hf ⟨t0, hT0⟩).1
    have s2 := (sure_char hx ht').1
    have r1 := q2 _ (a1 u p3).1
    have r2 := q2 _ (a1 w p4).1
    have r3 := p2 _ (b1 u2 q3).1
    have r4 := p2 _ (b1 w2 q4).1
    rw [(a1 u p3).2] at r1
    rw [(a1 w p4).2] at r2
    rw [(b1 u2 q3).2] at r3
    rw [(b1 w2 q4).2] at r4
    have e1 : (boundsV y).1 = (boundsV (swapY y i j c d)).1 := Prod.ext (by omega) (by omega)
    have e2 := swap_sure hf hx hi hj ⟨t0, hT0⟩ ht' fun t hT => ⟨swL i j t, (b1 t hT).1, (sw2 t (by rw [(truthOk hT.1).1, hlen])).symm⟩
    have e3 := swap_sure hx (by rw [hb]; exact hf) h1 h2 ht' (by rw [hb]; exact ⟨t0, hT0⟩) fun t hT => by
      rw [hb] at hT
      exact ⟨swL i j t, (a1 t hT).1, (sw2 t (truthOk hT.1).1).symm⟩
    rw [hb] at e3
    have e4 : (sureV y).2.1 = (sureV (swapY y i j c d)).2.1 := by omega
    rw [p1, q1, s1, s2, e1, e4]; simp
  · have ht' : ¬ ∃ t, Tr (swapY y i j c d) t := fun ⟨t, hT⟩ => ht ⟨_, (b1 t hT).1⟩
    rw [bounds_none hf ht, bounds_none hx ht', sure_none hf ht, sure_none hx ht']; simp
set_option maxHeartbeats 1000000 in
theorem MendOrder_ok (yv : Value) (y : YardD) (a b : Int) (D : Data) (hy : YardIs D yv y) (ha : 0 ≤ a ∧ a ≤ 255) (hb : 0 ≤ b ∧ b ≤ 255) : Fn Try.prog 14 #[yv, .int .u8 a, .int .u8 b] D (fun _ v => v = .bool true) := by
  have hy0 := hy
  obtain ⟨cv, qv, rfl, hc, hq⟩ := hy
  obtain ⟨an, rfl⟩ := Int.eq_ofNat_of_zero_le ha.1
  obtain ⟨bn, rfl⟩ := Int.eq_ofNat_of_zero_le hb.1
  have hcl := hc.len
  refine enter 157 Try.func14 rfl rfl rfl rfl fun h0 => ?_
  refine C.seq ?_
  refine C.region [(false,0),(false,1)] rfl ?_
  refine L.boxD rfl rfl rfl rfl trivial (fun q1 E1 hE1 hB1 => ?_)
  refine L.assign rfl rfl rfl trivial ?_
  refine L.nil ?_
  refine C.next ?_
  refine C.seq ?_
  refine C.seq ?_
  refine C.region [(false,0),(false,1),(false,2),(false,3),(false,4),(false,5),(false,6),(false,7),(false,8)] rfl ?_
  refine L.loadDW rfl Tf.a25 rfl hB1 (by first | simp | assumption) Tf.s25 List.not_mem_nil rfl trivial ?_
  refine L.callV rfl rfl rfl (fun D1 hD1 => ready_ok _ y _ (hy0.up (hD1 _ (by simp)))) rfl trivial ?_
  refine L.not rfl rfl rfl trivial ?_
  refine L.move rfl rfl rfl trivial ?_
  refine' L.or [(false,4),(false,5),(false,6),(false,7),(false,8)] [] (s := 27) (p := 32) rfl rfl (fun hg1 => ?_) (fun hg1 => ?_) ?_
  rotate_left
  · refine L.fieldAddr rfl Tf.f25_0 rfl rfl ⟨_, rfl, rfl⟩ ?_
    refine L.loadD1 rfl (k := 0) Tf.a22 rfl hB1 (by first | simp | assumption) rfl List.not_mem_nil rfl ⟨_, rfl, rfl⟩ ?_
    refine L.len rfl Try.underlying22 rfl hc rfl rfl ⟨_, rfl, rfl⟩ ?_
    refine L.eql rfl rfl rfl rfl ⟨_, rfl, rfl⟩ ?_
    refine L.pickF rfl rfl rfl rfl trivial ?_
    exact L.nil fun a w hh => hh.cutK 4 rfl
  · refine L.pass rfl rfl rfl ⟨_, _, rfl, rfl, rfl⟩ ?_
    refine L.pass rfl rfl rfl ⟨_, _, rfl, rfl, rfl⟩ ?_
    refine L.pass rfl rfl rfl ⟨_, _, rfl, rfl, rfl⟩ ?_
    refine L.pass rfl rfl rfl ⟨_, _, rfl, rfl, rfl⟩ ?_
    refine L.pickT rfl rfl rfl rfl trivial ?_
    exact L.nil fun a w hh => hh.cutK 4 rfl
  refine L.nil ?_
  refine C.next ?_
  refine C.cond rfl (fun hc1 => ?_) (fun hc1 => ?_)
  · refine C.seq ?_
    refine C.region [(false,0),(false,1)] rfl ?_
    refine L.callV rfl rfl rfl (fun D2 hD2 => awake_ok _) rfl trivial ?_
    refine L.assign rfl rfl rfl trivial ?_
    refine L.nil ?_
    refine C.next ?_
    refine C.ret ?_
    refine C.thenRet ?_
    exact leave (vs := [_]) rfl rfl rfl ⟨rfl, trivial⟩ (fun D hD => rfl)
  · obtain ⟨hcr, hne⟩ := known_in hc1
    obtain ⟨hthin, hf0⟩ := ready_inB hcr
    obtain ⟨hlc, hlq⟩ := thin_len hthin
    have hyo := yOk hf0
    have hn7 := hyo.len
    refine C.skip ?_
    refine C.next ?_
    refine C.seq ?_
    refine C.draw [] 3 [0,1,2,3,4,5,6,7,8,9,10,11,12,13] [false,false,true,true,true,false,true,true,true,true,true,true,true,false] [(false,0),(false,1),(true,2),(true,3),(true,4),(false,5),(true,6),(true,7),(true,8),(true,9),(true,10),(true,11),(true,12),(false,13)] Tf.follows (fun _ _ _ h => np_body (P := Try.prog) (fn := Try.f14) _ _ _ h) (by kernel_rfl) rfl ?_
    refine L.move rfl rfl rfl trivial ?_
    refine L.convI rfl Try.underlying5 Try.underlying3 rfl (by simp only [inK]; omega) rfl trivial ?_
    refine L.fieldAddr rfl Tf.f25_0 rfl rfl trivial ?_
    refine L.loadD1 rfl (k := 0) Tf.a22 rfl hB1 (by first | simp | assumption) rfl List.not_mem_nil rfl trivial ?_
    refine L.len rfl Try.underlying22 rfl hc rfl rfl trivial ?_
    refine L.rem rfl rfl rfl (by omega) (by omega) (by simp only [inK]; exact mod_in2 (by omega)) rfl trivial ?_
    refine L.move rfl rfl rfl trivial ?_
    refine L.convI rfl Try.underlying5 Try.underlying3 rfl (by simp only [inK]; omega) rfl trivial ?_
    refine L.fieldAddr rfl Tf.f25_0 rfl rfl trivial ?_
    refine L.loadD1 rfl (k := 0) Tf.a22 rfl hB1 (by first | simp | assumption) rfl List.not_mem_nil rfl trivial ?_
    refine L.len rfl Try.underlying22 rfl hc rfl rfl trivial ?_
    refine L.rem rfl rfl rfl (by omega) (by omega) (by simp only [inK]; exact mod_in2 (by omega)) rfl trivial ?_
    refine L.assign rfl rfl rfl trivial ?_
    refine L.assign rfl rfl rfl trivial ?_
    refine L.nil ?_
    refine C.next ?_
    refine C.seq ?_
    obtain ⟨i, hi⟩ : ∃ k : Nat, (an : Int) % (y.chairs.length : Int) = k := ⟨an % y.chairs.length, rfl⟩
    have hil : i < y.chairs.length := by have := Int.emod_lt_of_pos (an : Int) (show (0 : Int) < (y.chairs.length : Int) by omega); omega
    obtain ⟨j, hj⟩ : ∃ k : Nat, (bn : Int) % (y.chairs.length : Int) = k := ⟨bn % y.chairs.length, rfl⟩
    have hjl : j < y.chairs.length := by have := Int.emod_lt_of_pos (bn : Int) (show (0 : Int) < (y.chairs.length : Int) by omega); omega
    rw [hi, hj]
    obtain ⟨bt, ot, ct, rfl⟩ := sl_some hc (fun e => by rw [e] at hil; simp at hil)
    obtain ⟨c, hx⟩ : ∃ c, y.chairs[i]? = some c := ⟨_, List.getElem?_eq_getElem hil⟩
    obtain ⟨d, hx2⟩ : ∃ c, y.chairs[j]? = some c := ⟨_, List.getElem?_eq_getElem hjl⟩
    refine C.region [(false,0),(false,1),(false,2)] rfl ?_
    refine L.loadDW rfl Tf.a25 rfl hB1 (by first | simp | assumption) Tf.s25 List.not_mem_nil rfl trivial ?_
    refine L.alloc rfl Tf.z25 rfl rfl trivial (fun q2 => ?_)
    refine L.storeW rfl rfl rfl rfl Tf.s25 (by first | rfl | (simp only [ints_length, *]; done) | (simp only [ints_length, *]; rfl) | (simp only [ints_length, *]; omega)) (by first | rfl | (simp only [ints_length, *]; done) | (simp only [ints_length, *]; rfl) | (simp only [ints_length, *]; omega)) (Has.head) (cell1_yard hc.cell1 hq.cell1) trivial ?_
    refine L.nil ?_
    refine C.next ?_
    refine C.seq ?_
    refine C.region [(false,0),(false,1),(false,2),(false,3),(false,4),(false,5)] rfl ?_
    refine L.buildSlice rfl Try.underlying22 Tf.s94 Tf.z94 rfl rfl rfl rfl .nil rfl trivial (fun b901 D901 hD901 hA901 => ?_)
    refine L.fieldAddr rfl Tf.f25_0 rfl rfl trivial ?_
    refine L.loadD1 rfl (k := 0) Tf.a22 rfl hB1 (by first | simp | assumption) rfl List.not_mem_nil rfl trivial ?_
    refine L.append (A := []) (ν := []) (B := [(_, _)]) rfl Try.underlying22 rfl rfl Tf.s94 Tf.z94 rfl Tf.i94 rfl rfl rfl Acc.nil (Src.chs hc) (by simp) (chC_lenn _ _ rfl) (by simp) (chC_cell1 _) (by omega) (Or.inl rfl) rfl trivial (fun v7 ν7 ha7 => ?_)
    obtain ⟨ob, ocap, junk, rfl, hcap, rfl, hcl1, hcl2⟩ := (show Acc 94 4 v7 y.chairs.length (chC y.chairs) ν7 by simpa using ha7).some (by omega)
    refine L.fieldAddr rfl Tf.f25_0 rfl rfl trivial ?_
    refine L.store rfl rfl rfl rfl Tf.s22 (.tail Has.head) (by simp) rfl (by simp [cell1]) trivial ?_
    refine L.nil ?_
    refine C.next ?_
    refine C.seq ?_
    obtain ⟨cs0, hr0, _, hA0⟩ := sl_at hc hx
    obtain rfl : cs0 = _ := hr0
    refine C.apart hA0 (by simp) (fun hbt => ?_)
    refine C.apart hB1 (by simp) (fun hbq => ?_)
    refine C.nodup (fun hnd => ?_)
    have hn1 : q1 ∉ (But.mk [q1, q2, bt]) := But.out (by simp)
    have hn2 : q2 ∉ (But.mk [q1, q2, bt]) := But.out (by simp)
    have hn3 : bt ∉ (But.mk [q1, q2, bt]) := But.out (by simp)
    have hin : ob ∈ (But.mk [q1, q2, bt]) := But.in_ (apart3 hbq hbt hnd)
    refine C.draw (But.mk [q1, q2, bt]) 1 [0,1,2,3,4,5,6,7,8,9,10,11,12,13,14,15,16,17,18,19] [false,false,true,true,true,true,true,true,true,true,true,true,true,true,true,true,true,true,false,false] [(false,0),(false,1),(true,2),(true,3),(true,4),(true,5),(true,6),(true,7),(true,8),(true,9),(true,10),(true,11),(true,12),(true,13),(true,14),(true,15),(true,16),(true,17),(false,18),(false,19)] Tf.follows (fun _ _ _ h => np_body (P := Try.prog) (fn := Try.f14) _ _ _ h) (by kernel_rfl) rfl ?_
    refine L.fieldAddr rfl Tf.f25_0 rfl rfl trivial ?_
    refine L.loadB1 rfl Tf.a22 rfl (List.Mem.tail _ (List.Mem.head _)) rfl (by first | assumption | simp) rfl trivial ?_
    refine L.move rfl rfl rfl trivial ?_
    refine L.fieldAddr rfl Tf.f25_0 rfl rfl trivial ?_
    refine L.loadB1 rfl Tf.a22 rfl (List.Mem.tail _ (List.Mem.head _)) rfl (by first | assumption | simp) rfl trivial ?_
    refine L.move rfl rfl rfl trivial ?_
    refine L.fieldAddr rfl Tf.f25_0 rfl rfl trivial ?_
    refine L.loadD1 rfl (k := 0) Tf.a22 rfl hB1 (by first | simp | assumption) rfl (by first | assumption | simp) rfl trivial ?_
    refine L.move rfl rfl rfl trivial ?_
    refine L.indexN rfl Try.underlying22 Tf.s94 rfl hc rfl (by omega) hx2 rfl trivial (fun cs41 hr41 hcl41 hA41 => ?_)
    obtain rfl : cs41 = _ := hr41
    refine L.loadDW rfl Tf.a94 rfl hA41 (by first | simp | assumption) Tf.s94 (by first | assumption | simp) rfl trivial ?_
    refine L.fieldAddr rfl Tf.f25_0 rfl rfl trivial ?_
    refine L.loadD1 rfl (k := 0) Tf.a22 rfl hB1 (by first | simp | assumption) rfl (by first | assumption | simp) rfl trivial ?_
    refine L.move rfl rfl rfl trivial ?_
    refine L.indexN rfl Try.underlying22 Tf.s94 rfl hc rfl (by omega) hx rfl trivial (fun cs42 hr42 hcl42 hA42 => ?_)
    obtain rfl : cs42 = _ := hr42
    refine L.loadDW rfl Tf.a94 rfl hA42 (by first | simp | assumption) Tf.s94 (by first | assumption | simp) rfl trivial ?_
    refine L.indexP rfl Try.underlying22 Tf.s94 rfl rfl (by omega) (by omega) rfl trivial ?_
    refine L.storeCells (k := i * 4) (A' := chC (y.chairs.set i d)) (us := chc d) rfl Tf.s94 rfl rfl rfl Has.head (setCh_cells (l := y.chairs) (k := i) (c := d) (by first | omega | (simp only [List.length_set]; omega))) (by first | omega | (simp only [Int.toNat_natCast]; omega)) (by rw [chC_lenn _ y.chairs.length (by simp)]; simp only [chc, List.length_cons, List.length_nil]; omega) (chc_cell1 _) (by first | exact Or.inl rfl | exact Or.inr hin) trivial ?_
    refine L.indexP rfl Try.underlying22 Tf.s94 rfl rfl (by omega) (by omega) rfl trivial ?_
    refine L.storeCells (k := j * 4) (A' := chC ((y.chairs.set i d).set j c)) (us := chc c) rfl Tf.s94 rfl rfl rfl Has.head (setCh_cells (l := (y.chairs.set i d)) (k := j) (c := c) (by first | omega | (simp only [List.length_set]; omega))) (by first | omega | (simp only [Int.toNat_natCast]; omega)) (by rw [chC_lenn _ y.chairs.length (by simp)]; simp only [chc, List.length_cons, List.length_nil]; omega) (chc_cell1 _) (by first | exact Or.inl rfl | exact Or.inr hin) trivial ?_
    refine L.nil ?_
    refine C.next ?_
    refine C.seq ?_
    have hn8 : Acc 94 4 (.slice (some ⟨ob, 0, none⟩) y.chairs.length ocap) y.chairs.length (chC ((y.chairs.set i d).set j c)) [(ob, .cells (chC ((y.chairs.set i d).set j c) ++ junk).toArray 94 (0, 0))] := Or.inr ⟨ob, ocap, junk, rfl, hcap, rfl, chC_lenn _ _ (by simp), by rw [List.length_append, chC_lenn _ y.chairs.length (by simp), ← hcl1, ← List.length_append]; exact hcl2⟩
    refine C.freeze (A := []) (B := [(_, _)]) hn8 rfl (fun D8 hD8 hF => ?_)
    have hxr : YardIs D8 (.agg #[.slice (some ⟨ob, 0, none⟩) y.chairs.length ocap, .int .i64 y.fit, qv]) (swapY y i j c d) := ⟨_, _, rfl, hF.chs (by simp) (by omega), hq.up R2.up (hD8 _ (by simp))⟩
    refine C.region [(false,0),(false,1),(false,2),(false,3),(false,4),(false,5),(false,6),(false,7),(false,8)] rfl ?_
    refine L.loadDW rfl Tf.a25 rfl hB1 (by first | simp | assumption) Tf.s25 List.not_mem_nil rfl trivial ?_
    refine L.call rfl rfl rfl (fun D3 hD3 => YardL_ok _ y _ (hy0.up (hD3 _ (by simp))) (by omega) (by omega)) rfl trivial (fun v3 D3 hD3 hp3 => ?_)
    have hw := hp3
    refine L.callV rfl rfl rfl (fun D4 hD4 => Bounds_ok _ y _ (hw.up (hD4 _ (by simp)))) rfl trivial ?_
    refine L.move rfl rfl rfl trivial ?_
    refine L.extract rfl rfl rfl rfl trivial ?_
    refine L.extract rfl rfl rfl rfl trivial ?_
    refine L.alloc rfl Tf.z61 rfl rfl trivial (fun q3 => ?_)
    refine L.storeW rfl rfl rfl rfl Tf.s61 (by first | rfl | (simp only [ints_length, *]; done) | (simp only [ints_length, *]; rfl) | (simp only [ints_length, *]; omega)) (by first | rfl | (simp only [ints_length, *]; done) | (simp only [ints_length, *]; rfl) | (simp only [ints_length, *]; omega)) (Has.head) (by first | exact ints_cell1 _ | simp [cell1]) trivial ?_
    refine L.assign rfl rfl rfl trivial ?_
    refine L.nil ?_
    refine C.next ?_
    refine C.seq ?_
    refine C.region [(false,0),(false,1),(false,2),(false,3),(false,4),(false,5),(false,6),(false,7),(false,8)] rfl ?_
    refine L.loadBW rfl Tf.a25 rfl (List.Mem.tail _ (List.Mem.head _)) Tf.s25 List.not_mem_nil rfl trivial ?_
    refine L.call rfl rfl rfl (fun D5 hD5 => YardL_ok _ (swapY y i j c d) _ (hxr.up (hD5 _ (by simp))) (by simp only [swapY, List.length_set]; omega) (by simp only [swapY]; omega)) rfl trivial (fun v5 D5 hD5 hp5 => ?_)
    have hwx := hp5
    refine L.callV rfl rfl rfl (fun D6 hD6 => Bounds_ok _ (swapY y i j c d) _ (hwx.up (hD6 _ (by simp)))) rfl trivial ?_
    refine L.move rfl rfl rfl trivial ?_
    refine L.extract rfl rfl rfl rfl trivial ?_
    refine L.extract rfl rfl rfl rfl trivial ?_
    refine L.alloc rfl Tf.z61 rfl rfl trivial (fun q4 => ?_)
    refine L.storeW rfl rfl rfl rfl Tf.s61 (by first | rfl | (simp only [ints_length, *]; done) | (simp only [ints_length, *]; rfl) | (simp only [ints_length, *]; omega)) (by first | rfl | (simp only [ints_length, *]; done) | (simp only [ints_length, *]; rfl) | (simp only [ints_length, *]; omega)) (Has.head) (by first | exact ints_cell1 _ | simp [cell1]) trivial ?_
    refine L.assign rfl rfl rfl trivial ?_
    refine L.nil ?_
    refine C.next ?_
    refine C.seq ?_
    refine C.region [(false,0),(false,1),(false,2),(false,3),(false,4),(false,5),(false,6),(false,7),(false,8),(false,9)] rfl ?_
    refine L.loadDW rfl Tf.a25 rfl hB1 (by first | simp | assumption) Tf.s25 List.not_mem_nil rfl trivial ?_
    refine L.call rfl rfl rfl (fun D7 hD7 => YardL_ok _ y _ (hy0.up (hD7 _ (by simp))) (by omega) (by omega)) rfl trivial (fun v7 D7 hD7 hp7 => ?_)
    have hw := hp7
    refine L.call rfl rfl rfl (fun D8 hD8 => Sure_ok _ y _ (hw.up (hD8 _ (by simp)))) rfl trivial (fun v8 D8 hD8 hp8 => ?_)
    obtain ⟨pv, rfl, hpv⟩ := hp8
    refine L.move rfl rfl rfl trivial ?_
    refine L.extract rfl rfl rfl rfl trivial ?_
    refine L.extract rfl rfl rfl rfl trivial ?_
    refine L.extract rfl rfl rfl rfl trivial ?_
    refine L.assign rfl rfl rfl trivial ?_
    refine L.assign rfl rfl rfl trivial ?_
    refine L.assign rfl rfl rfl trivial ?_
    refine L.nil ?_
    refine C.next ?_
    refine C.seq ?_
    refine C.region [(false,0),(false,1),(false,2),(false,3),(false,4),(false,5),(false,6),(false,7),(false,8),(false,9)] rfl ?_
    refine L.loadBW rfl Tf.a25 rfl (List.Mem.tail _ (List.Mem.tail _ (List.Mem.head _))) Tf.s25 List.not_mem_nil rfl trivial ?_
    refine L.call rfl rfl rfl (fun D9 hD9 => YardL_ok _ (swapY y i j c d) _ (hxr.up (hD9 _ (by simp))) (by simp only [swapY, List.length_set]; omega) (by simp only [swapY]; omega)) rfl trivial (fun v9 D9 hD9 hp9 => ?_)
    have hwx := hp9
    refine L.call rfl rfl rfl (fun D10 hD10 => Sure_ok _ (swapY y i j c d) _ (hwx.up (hD10 _ (by simp)))) rfl trivial (fun v10 D10 hD10 hp10 => ?_)
    obtain ⟨pv2, rfl, hpv2⟩ := hp10
    refine L.move rfl rfl rfl trivial ?_
    refine L.extract rfl rfl rfl rfl trivial ?_
    refine L.extract rfl rfl rfl rfl trivial ?_
    refine L.extract rfl rfl rfl rfl trivial ?_
    refine L.assign rfl rfl rfl trivial ?_
    refine L.assign rfl rfl rfl trivial ?_
    refine L.assign rfl rfl rfl trivial ?_
    refine L.nil ?_
    refine C.next ?_
    refine C.seq ?_
    refine C.region [(false,0),(false,1),(false,2),(false,3),(false,4),(false,5),(false,6),(false,7)] rfl ?_
    refine L.loadDW rfl Tf.a25 rfl hB1 (by first | simp | assumption) Tf.s25 List.not_mem_nil rfl trivial ?_
    refine L.call rfl rfl rfl (fun D11 hD11 => YardL_ok _ y _ (hy0.up (hD11 _ (by simp))) (by omega) (by omega)) rfl trivial (fun v11 D11 hD11 hp11 => ?_)
    have hw := hp11
    refine L.call rfl rfl rfl (fun D12 hD12 => Leave_ok _ y _ (hw.up (hD12 _ (by simp)))) rfl trivial (fun v12 D12 hD12 hp12 => ?_)
    obtain ⟨lv, rfl, hlv⟩ := hp12
    refine L.move rfl rfl rfl trivial ?_
    refine L.extract rfl rfl rfl rfl trivial ?_
    refine L.extract rfl rfl rfl rfl trivial ?_
    refine L.assign rfl rfl rfl trivial ?_
    refine L.assign rfl rfl rfl trivial ?_
    refine L.nil ?_
    refine C.next ?_
    refine C.seq ?_
    refine C.region [(false,0),(false,1),(false,2),(false,3),(false,4),(false,5),(false,6),(false,7)] rfl ?_
    refine L.loadBW rfl Tf.a25 rfl (List.Mem.tail _ (List.Mem.tail _ (List.Mem.head _))) Tf.s25 List.not_mem_nil rfl trivial ?_
    refine L.call rfl rfl rfl (fun D13 hD13 => YardL_ok _ (swapY y i j c d) _ (hxr.up (hD13 _ (by simp))) (by simp only [swapY, List.length_set]; omega) (by simp only [swapY]; omega)) rfl trivial (fun v13 D13 hD13 hp13 => ?_)
    have hwx := hp13
    refine L.call rfl rfl rfl (fun D14 hD14 => Leave_ok _ (swapY y i j c d) _ (hwx.up (hD14 _ (by simp)))) rfl trivial (fun v14 D14 hD14 hp14 => ?_)
    obtain ⟨mv, rfl, hmv⟩ := hp14
    refine L.move rfl rfl rfl trivial ?_
    refine L.extract rfl rfl rfl rfl trivial ?_
    refine L.extract rfl rfl rfl rfl trivial ?_
    refine L.assign rfl rfl rfl trivial ?_
    refine L.assign rfl rfl rfl trivial ?_
    refine L.nil ?_
    refine C.next ?_
    refine C.seq ?_
    refine C.region [(false,0),(false,1),(false,2),(false,3),(false,4),(false,5),(false,6),(false,7),(false,8),(false,9),(false,10),(false,11),(false,12),(false,13),(false,14),(false,15),(false,16),(false,17),(false,18),(false,19),(false,20),(false,21),(false,22),(false,23),(false,24),(false,25),(false,26),(false,27),(false,28),(false,29),(false,30),(false,31),(false,32),(false,33),(false,34),(false,35),(false,36),(false,37),(false,38),(false,39),(false,40),(false,41),(false,42),(false,43),(false,44),(false,45),(false,46),(false,47),(false,48),(false,49)] rfl ?_
    refine L.move rfl rfl rfl trivial ?_
    refine L.eql rfl rfl rfl rfl trivial ?_
    refine L.move rfl rfl rfl trivial ?_
    refine' L.or [(false,3),(false,4),(false,5)] [(false,6),(false,7),(false,8),(false,9),(false,10),(false,11),(false,12),(false,13),(false,14),(false,15),(false,16),(false,17),(false,18),(false,19),(false,20),(false,21),(false,22),(false,23),(false,24),(false,25),(false,26),(false,27),(false,28),(false,29),(false,30),(false,31),(false,32),(false,33),(false,34),(false,35),(false,36),(false,37),(false,38),(false,39),(false,40),(false,41),(false,42),(false,43),(false,44),(false,45),(false,46),(false,47),(false,48),(false,49)] (s := 110) (p := 113) rfl rfl (fun hg2 => ?_) (fun hg2 => ?_) ?_
    rotate_left
    · refine L.move rfl rfl rfl ⟨_, rfl, rfl⟩ ?_
      refine L.eql rfl rfl rfl rfl ⟨_, rfl, rfl⟩ ?_
      refine L.pickF rfl rfl rfl rfl trivial ?_
      exact L.nil fun a w hh => hh.cutK 2 rfl
    · refine L.pass rfl rfl rfl ⟨_, _, rfl, rfl, rfl⟩ ?_
      refine L.pass rfl rfl rfl ⟨_, _, rfl, rfl, rfl⟩ ?_
      refine L.pickT rfl rfl rfl rfl trivial ?_
      exact L.nil fun a w hh => hh.cutK 2 rfl
    refine L.move rfl rfl rfl trivial ?_
    refine' L.and [(false,7),(false,8),(false,9),(false,10)] [(false,11),(false,12),(false,13),(false,14),(false,15),(false,16),(false,17),(false,18),(false,19),(false,20),(false,21),(false,22),(false,23),(false,24),(false,25),(false,26),(false,27),(false,28),(false,29),(false,30),(false,31),(false,32),(false,33),(false,34),(false,35),(false,36),(false,37),(false,38),(false,39),(false,40),(false,41),(false,42),(false,43),(false,44),(false,45),(false,46),(false,47),(false,48),(false,49)] (s := 114) (p := 118) rfl rfl (fun hg3 => ?_) (fun hg3 => ?_) ?_
    rotate_left
    · refine L.move rfl rfl rfl ⟨_, rfl, rfl⟩ ?_
      refine L.move rfl rfl rfl ⟨_, rfl, rfl⟩ ?_
      refine L.eql rfl rfl rfl rfl ⟨_, rfl, rfl⟩ ?_
      refine L.pickT rfl rfl rfl rfl trivial ?_
      exact L.nil fun a w hh => hh.cutK 3 rfl
    · refine L.pass rfl rfl rfl ⟨_, _, rfl, rfl, rfl⟩ ?_
      refine L.pass rfl rfl rfl ⟨_, _, rfl, rfl, rfl⟩ ?_
      refine L.pass rfl rfl rfl ⟨_, _, rfl, rfl, rfl⟩ ?_
      refine L.pickF rfl rfl rfl rfl trivial ?_
      exact L.nil fun a w hh => hh.cutK 3 rfl
    refine L.move rfl rfl rfl trivial ?_
    refine' L.and [(false,12),(false,13),(false,14),(false,15)] [(false,16),(false,17),(false,18),(false,19),(false,20),(false,21),(false,22),(false,23),(false,24),(false,25),(false,26),(false,27),(false,28),(false,29),(false,30),(false,31),(false,32),(false,33),(false,34),(false,35),(false,36),(false,37),(false,38),(false,39),(false,40),(false,41),(false,42),(false,43),(false,44),(false,45),(false,46),(false,47),(false,48),(false,49)] (s := 119) (p := 123) rfl rfl (fun hg4 => ?_) (fun hg4 => ?_) ?_
    rotate_left
    · refine L.loadBW rfl Tf.a61 rfl (List.Mem.tail _ (List.Mem.head _)) Tf.s61 List.not_mem_nil rfl ⟨_, rfl, rfl⟩ ?_
      refine L.loadBW rfl Tf.a61 rfl (List.Mem.head _) Tf.s61 List.not_mem_nil rfl ⟨_, rfl, rfl⟩ ?_
      refine L.eqlK  rfl (by kernel_rfl) k2_61 rfl rfl rfl ⟨_, rfl, rfl⟩ ?_
      refine L.pickT rfl rfl rfl rfl trivial ?_
      exact L.nil fun a w hh => hh.cutK 3 rfl
    · refine L.pass rfl rfl rfl ⟨_, _, rfl, rfl, rfl⟩ ?_
      refine L.pass rfl rfl rfl ⟨_, _, rfl, rfl, rfl⟩ ?_
      refine L.pass rfl rfl rfl ⟨_, _, rfl, rfl, rfl⟩ ?_
      refine L.pickF rfl rfl rfl rfl trivial ?_
      exact L.nil fun a w hh => hh.cutK 3 rfl
    refine L.move rfl rfl rfl trivial ?_
    refine' L.and [(false,17),(false,18),(false,19),(false,20)] [(false,21),(false,22),(false,23),(false,24),(false,25),(false,26),(false,27),(false,28),(false,29),(false,30),(false,31),(false,32),(false,33),(false,34),(false,35),(false,36),(false,37),(false,38),(false,39),(false,40),(false,41),(false,42),(false,43),(false,44),(false,45),(false,46),(false,47),(false,48),(false,49)] (s := 124) (p := 128) rfl rfl (fun hg5 => ?_) (fun hg5 => ?_) ?_
    rotate_left
    · refine L.move rfl rfl rfl ⟨_, rfl, rfl⟩ ?_
      refine L.move rfl rfl rfl ⟨_, rfl, rfl⟩ ?_
      refine L.eql rfl rfl rfl rfl ⟨_, rfl, rfl⟩ ?_
      refine L.pickT rfl rfl rfl rfl trivial ?_
      exact L.nil fun a w hh => hh.cutK 3 rfl
    · refine L.pass rfl rfl rfl ⟨_, _, rfl, rfl, rfl⟩ ?_
      refine L.pass rfl rfl rfl ⟨_, _, rfl, rfl, rfl⟩ ?_
      refine L.pass rfl rfl rfl ⟨_, _, rfl, rfl, rfl⟩ ?_
      refine L.pickF rfl rfl rfl rfl trivial ?_
      exact L.nil fun a w hh => hh.cutK 3 rfl
    refine L.move rfl rfl rfl trivial ?_
    refine' L.and [(false,22),(false,23),(false,24),(false,25)] [(false,26),(false,27),(false,28),(false,29),(false,30),(false,31),(false,32),(false,33),(false,34),(false,35),(false,36),(false,37),(false,38),(false,39),(false,40),(false,41),(false,42),(false,43),(false,44),(false,45),(false,46),(false,47),(false,48),(false,49)] (s := 129) (p := 133) rfl rfl (fun hg6 => ?_) (fun hg6 => ?_) ?_
    rotate_left
    · refine L.move rfl rfl rfl ⟨_, rfl, rfl⟩ ?_
      refine L.move rfl rfl rfl ⟨_, rfl, rfl⟩ ?_
      refine L.eql rfl rfl rfl rfl ⟨_, rfl, rfl⟩ ?_
      refine L.pickT rfl rfl rfl rfl trivial ?_
      exact L.nil fun a w hh => hh.cutK 3 rfl
    · refine L.pass rfl rfl rfl ⟨_, _, rfl, rfl, rfl⟩ ?_
      refine L.pass rfl rfl rfl ⟨_, _, rfl, rfl, rfl⟩ ?_
      refine L.pass rfl rfl rfl ⟨_, _, rfl, rfl, rfl⟩ ?_
      refine L.pickF rfl rfl rfl rfl trivial ?_
      exact L.nil fun a w hh => hh.cutK 3 rfl
    refine L.move rfl rfl rfl trivial ?_
    refine' L.and [(false,27),(false,28),(false,29),(false,30)] [(false,31),(false,32),(false,33),(false,34),(false,35),(false,36),(false,37),(false,38),(false,39),(false,40),(false,41),(false,42),(false,43),(false,44),(false,45),(false,46),(false,47),(false,48),(false,49)] (s := 134) (p := 138) rfl rfl (fun hg7 => ?_) (fun hg7 => ?_) ?_
    rotate_left
    · refine L.move rfl rfl rfl ⟨_, rfl, rfl⟩ ?_
      refine L.move rfl rfl rfl ⟨_, rfl, rfl⟩ ?_
      refine L.eql rfl rfl rfl rfl ⟨_, rfl, rfl⟩ ?_
      refine L.pickT rfl rfl rfl rfl trivial ?_
      exact L.nil fun a w hh => hh.cutK 3 rfl
    · refine L.pass rfl rfl rfl ⟨_, _, rfl, rfl, rfl⟩ ?_
      refine L.pass rfl rfl rfl ⟨_, _, rfl, rfl, rfl⟩ ?_
      refine L.pass rfl rfl rfl ⟨_, _, rfl, rfl, rfl⟩ ?_
      refine L.pickF rfl rfl rfl rfl trivial ?_
      exact L.nil fun a w hh => hh.cutK 3 rfl
    refine L.move rfl rfl rfl trivial ?_
    refine' L.and [(false,32),(false,33),(false,34)] [(false,35),(false,36),(false,37),(false,38),(false,39),(false,40),(false,41),(false,42),(false,43),(false,44),(false,45),(false,46),(false,47),(false,48),(false,49)] (s := 139) (p := 142) rfl rfl (fun hg8 => ?_) (fun hg8 => ?_) ?_
    rotate_left
    · refine L.move rfl rfl rfl ⟨_, rfl, rfl⟩ ?_
      refine L.eql rfl rfl rfl rfl ⟨_, rfl, rfl⟩ ?_
      refine L.pickT rfl rfl rfl rfl trivial ?_
      exact L.nil fun a w hh => hh.cutK 2 rfl
    · refine L.pass rfl rfl rfl ⟨_, _, rfl, rfl, rfl⟩ ?_
      refine L.pass rfl rfl rfl ⟨_, _, rfl, rfl, rfl⟩ ?_
      refine L.pickF rfl rfl rfl rfl trivial ?_
      exact L.nil fun a w hh => hh.cutK 2 rfl
    refine L.move rfl rfl rfl trivial ?_
    refine' L.and [(false,36),(false,37),(false,38)] [(false,39),(false,40),(false,41),(false,42),(false,43),(false,44),(false,45),(false,46),(false,47),(false,48),(false,49)] (s := 143) (p := 146) rfl rfl (fun hg9 => ?_) (fun hg9 => ?_) ?_
    rotate_left
    · refine L.move rfl rfl rfl ⟨_, rfl, rfl⟩ ?_
      refine L.eql rfl rfl rfl rfl ⟨_, rfl, rfl⟩ ?_
      refine L.pickT rfl rfl rfl rfl trivial ?_
      exact L.nil fun a w hh => hh.cutK 2 rfl
    · refine L.pass rfl rfl rfl ⟨_, _, rfl, rfl, rfl⟩ ?_
      refine L.pass rfl rfl rfl ⟨_, _, rfl, rfl, rfl⟩ ?_
      refine L.pickF rfl rfl rfl rfl trivial ?_
      exact L.nil fun a w hh => hh.cutK 2 rfl
    refine L.move rfl rfl rfl trivial ?_
    refine' L.and [(false,40),(false,41),(false,42),(false,43),(false,44),(false,45)] [(false,46),(false,47),(false,48),(false,49)] (s := 147) (p := 153) rfl rfl (fun hg10 => ?_) (fun hg10 => ?_) ?_
    rotate_left
    · refine L.move rfl rfl rfl ⟨_, rfl, rfl⟩ ?_
      refine L.len rfl Try.underlying52 rfl hlv rfl rfl ⟨_, rfl, rfl⟩ ?_
      refine L.move rfl rfl rfl ⟨_, rfl, rfl⟩ ?_
      refine L.len rfl Try.underlying52 rfl hmv rfl rfl ⟨_, rfl, rfl⟩ ?_
      refine L.eql rfl rfl rfl rfl ⟨_, rfl, rfl⟩ ?_
      refine L.pickT rfl rfl rfl rfl trivial ?_
      exact L.nil fun a w hh => hh.cutK 5 rfl
    · refine L.pass rfl rfl rfl ⟨_, _, rfl, rfl, rfl⟩ ?_
      refine L.pass rfl rfl rfl ⟨_, _, rfl, rfl, rfl⟩ ?_
      refine L.pass rfl rfl rfl ⟨_, _, rfl, rfl, rfl⟩ ?_
      refine L.pass rfl rfl rfl ⟨_, _, rfl, rfl, rfl⟩ ?_
      refine L.pass rfl rfl rfl ⟨_, _, rfl, rfl, rfl⟩ ?_
      refine L.pickF rfl rfl rfl rfl trivial ?_
      exact L.nil fun a w hh => hh.cutK 5 rfl
    refine L.move rfl rfl rfl trivial ?_
    refine' L.and [(false,47),(false,48)] [(false,49)] (s := 154) (p := 156) rfl rfl (fun hg11 => ?_) (fun hg11 => ?_) ?_
    rotate_left
    · refine L.callV rfl rfl rfl (fun D15 hD15 => awake_ok _) rfl ⟨_, rfl, rfl⟩ ?_
      refine L.pickT rfl rfl rfl rfl trivial ?_
      exact L.nil fun a w hh => hh.cutK 1 rfl
    · refine L.pass rfl rfl rfl ⟨_, _, rfl, rfl, rfl⟩ ?_
      refine L.pickF rfl rfl rfl rfl trivial ?_
      exact L.nil fun a w hh => hh.cutK 1 rfl
    refine L.assign rfl rfl rfl trivial ?_
    refine L.nil ?_
    refine C.next ?_
    refine C.ret ?_
    exact leave (vs := [_]) rfl rfl rfl ⟨rfl, trivial⟩ (fun D hD => congrArg Value.bool (mo_ok hf0 hx hx2))
end Go.Fs
