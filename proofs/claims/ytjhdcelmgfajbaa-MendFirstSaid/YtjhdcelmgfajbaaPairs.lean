/- All pairings, in plain Lean: the most that one of them makes is the greatest number of pairs (layer 7). -/
import Derived.Test.YtjhdcelmgfajbaaPair
namespace Go.Fs.C7

/-- All pairings of the chairs from n - k on, without some chairs (by bits). -/
def prs (n : Nat) : Nat → Nat → List (List (Nat × Nat))
  | 0, _ => [[]]
  | k + 1, w => if w.testBit (n - (k + 1)) then prs n k w else
      prs n k w ++ ((List.range n).filter fun b => decide (n - (k + 1) < b) && !w.testBit b).flatMap fun b => (prs n k (w ||| 2 ^ b)).map fun l => (n - (k + 1), b) :: l

structure Pairing (n a w : Nat) (l : List (Nat × Nat)) : Prop where
  at_ : ∀ p ∈ l, a ≤ p.1 ∧ p.1 < p.2 ∧ p.2 < n ∧ w.testBit p.1 = false ∧ w.testBit p.2 = false
  nd : (ends l).Nodup

theorem or_bit (w b x : Nat) : (w ||| 2 ^ b).testBit x = (w.testBit x || decide (b = x)) := by
  rw [Nat.testBit_or, Nat.testBit_two_pow]
theorem Pairing.weak {n a a' w w' : Nat} {l : List (Nat × Nat)} (h : Pairing n a w l) (ha : a' ≤ a) (hw : ∀ x, w'.testBit x = true → w.testBit x = true) : Pairing n a' w' l := by
  have key : ∀ x, w.testBit x = false → w'.testBit x = false := fun x hx => by
    cases e : w'.testBit x with
    | false => rfl
    | true => rw [hw _ e] at hx; cases hx
  refine ⟨fun p hp => ?_, h.nd⟩
  obtain ⟨h1, h2, h3, h4, h5⟩ := h.at_ p hp
  exact ⟨by omega, h2, h3, key _ h4, key _ h5⟩

theorem prs_ok {n : Nat} : ∀ (k w : Nat), k ≤ n → ∀ l ∈ prs n k w, Pairing n (n - k) w l
  | 0, w, _, l, hl => by
    obtain rfl : l = [] := by simpa [prs] using hl
    exact ⟨by simp, by simp [ends]⟩
  | k + 1, w, hk, l, hl => by
    unfold prs at hl
    split at hl
    · exact (prs_ok k w (by omega) l hl).weak (by omega) fun x h => h
    · rename_i hw
      rcases List.mem_append.1 hl with hl | hl
      · exact (prs_ok k w (by omega) l hl).weak (by omega) fun x h => h
      · obtain ⟨b, hb, hl⟩ := List.mem_flatMap.1 hl
        obtain ⟨l', hl', rfl⟩ := List.mem_map.1 hl
        rw [List.mem_filter, List.mem_range] at hb
        simp only [Bool.and_eq_true, decide_eq_true_eq, Bool.not_eq_true'] at hb
        obtain ⟨hbn, hab, hbw⟩ := hb
        have ih := prs_ok k (w ||| 2 ^ b) (by omega) l' hl'
        have hw' : w.testBit (n - (k + 1)) = false := by simpa using hw
        have out : ∀ x ∈ ends l', n - (k + 1) < x ∧ x ≠ b := fun x hx => by
          obtain ⟨p, hp, hxp⟩ := mem_ends.1 hx
          obtain ⟨h1, h2, h3, h4, h5⟩ := ih.at_ p hp
          rw [or_bit] at h4 h5
          simp only [Bool.or_eq_false_iff, decide_eq_false_iff_not] at h4 h5
          rcases hxp with rfl | rfl
          · exact ⟨by omega, fun e => h4.2 e.symm⟩
          · exact ⟨by omega, fun e => h5.2 e.symm⟩
        refine ⟨fun p hp => ?_, ?_⟩
        · rcases List.mem_cons.1 hp with rfl | hp
          · exact ⟨Nat.le_refl _, hab, hbn, hw', hbw⟩
          · obtain ⟨h1, h2, h3, h4, h5⟩ := ih.at_ p hp
            rw [or_bit] at h4 h5
            simp only [Bool.or_eq_false_iff] at h4 h5
            exact ⟨by omega, h2, h3, h4.1, h5.1⟩
        · unfold ends
          rw [List.flatMap_cons]
          refine List.nodup_append.2 ⟨by simp; omega, ih.nd, fun x hx y hy e => ?_⟩
          subst e
          have := out x hy
          simp only [List.mem_cons, List.not_mem_nil, or_false] at hx
          omega

/-- Each pairing is part of one of them. -/
theorem prs_has {n : Nat} : ∀ (k w : Nat), k ≤ n → ∀ M, Pairing n (n - k) w M → ∃ l ∈ prs n k w, ∀ p ∈ M, p ∈ l
  | 0, w, _, M, hM => by
    refine ⟨[], by simp [prs], fun p hp => ?_⟩
    have := hM.at_ p hp
    omega
  | k + 1, w, hk, M, hM => by
    have free : n - (k + 1) ∉ ends M → ∃ l ∈ prs n k w, ∀ p ∈ M, p ∈ l := fun hout =>
      prs_has k w (by omega) M ⟨fun p hp => by
        obtain ⟨h1, h2⟩ := hM.at_ p hp
        have : p.1 ≠ n - (k + 1) := fun e => hout (mem_ends.2 ⟨p, hp, Or.inl e.symm⟩)
        exact ⟨by omega, h2⟩, hM.nd⟩
    unfold prs
    split
    · rename_i hw
      refine free fun hin => ?_
      obtain ⟨p, hp, hx⟩ := mem_ends.1 hin
      obtain ⟨h1, h2, h3, h4, h5⟩ := hM.at_ p hp
      rcases hx with hx | hx
      · rw [← hx, hw] at h4; cases h4
      · rw [← hx, hw] at h5; cases h5
    · by_cases hin : n - (k + 1) ∈ ends M
      · obtain ⟨p, hp, hx⟩ := mem_ends.1 hin
        obtain ⟨h1, h2, h3, h4, h5⟩ := hM.at_ p hp
        have hx1 : p.1 = n - (k + 1) := by omega
        have hperm := List.perm_cons_erase hp
        have hnd : (ends (p :: M.erase p)).Nodup := ((List.Perm.flatMap_right (fun p : Nat × Nat => [p.1, p.2]) hperm).nodup_iff).1 hM.nd
        unfold ends at hnd
        rw [List.flatMap_cons, List.nodup_append] at hnd
        obtain ⟨_, n2, n3⟩ := hnd
        have apart : ∀ q ∈ M.erase p, ∀ z, z = q.1 ∨ z = q.2 → z ≠ p.1 ∧ z ≠ p.2 := fun q hq z hz =>
          ⟨fun e => n3 p.1 (by simp) z (mem_ends.2 ⟨q, hq, hz⟩) e.symm, fun e => n3 p.2 (by simp) z (mem_ends.2 ⟨q, hq, hz⟩) e.symm⟩
        obtain ⟨l, hl, hsub⟩ := prs_has (n := n) k (w ||| 2 ^ p.2) (by omega) (M.erase p) ⟨fun q hq => by
          obtain ⟨g1, g2, g3, g4, g5⟩ := hM.at_ q (List.mem_of_mem_erase hq)
          have a1 := apart q hq q.1 (Or.inl rfl)
          have a2 := apart q hq q.2 (Or.inr rfl)
          refine ⟨by omega, g2, g3, ?_, ?_⟩
          · rw [or_bit, g4]; simpa using fun e => a1.2 e.symm
          · rw [or_bit, g5]; simpa using fun e => a2.2 e.symm, n2⟩
        refine ⟨p :: l, List.mem_append_right _ (List.mem_flatMap.2 ⟨p.2, List.mem_filter.2 ⟨List.mem_range.2 h3, ?_⟩, List.mem_map.2 ⟨l, hl, ?_⟩⟩), fun q hq => ?_⟩
        · rw [← hx1, h5]; simpa using h2
        · rw [← hx1]
        · by_cases e : q = p
          · subst e; exact List.mem_cons_self
          · exact List.mem_cons_of_mem _ (hsub q ((List.mem_erase_of_ne e).2 hq))
      · obtain ⟨l, hl, hs⟩ := free hin
        exact ⟨l, List.mem_append_left _ hl, hs⟩

theorem length_le_of_sub {α : Type} [DecidableEq α] : ∀ {l m : List α}, l.Nodup → (∀ x ∈ l, x ∈ m) → l.length ≤ m.length
  | [], m, _, _ => Nat.zero_le _
  | x :: l, m, hn, hs => by
    have hx := hs x List.mem_cons_self
    have h1 := List.nodup_cons.1 hn
    have := length_le_of_sub (l := l) (m := m.erase x) h1.2 fun y hy => (List.mem_erase_of_ne (fun e : y = x => h1.1 (e ▸ hy))).2 (hs y (List.mem_cons_of_mem _ hy))
    have h2 := List.length_erase_of_mem hx
    have h3 := List.length_pos_of_mem hx
    simp only [List.length_cons]; omega
theorem pairs_nodup {M : List (Nat × Nat)} (h : (ends M).Nodup) : M.Nodup := by
  induction M with
  | nil => exact List.nodup_nil
  | cons p M ih =>
    unfold ends at h
    rw [List.flatMap_cons, List.nodup_append] at h
    refine List.nodup_cons.2 ⟨fun hp => ?_, ih h.2.1⟩
    exact h.2.2 p.1 (by simp) p.1 (mem_ends.2 ⟨p, hp, Or.inl rfl⟩) rfl

theorem ends_norm (M : List (Nat × Nat)) : (ends (M.map fun p => (min p.1 p.2, max p.1 p.2))).Perm (ends M) := by
  induction M with
  | nil => exact List.Perm.refl _
  | cons p M ih =>
    unfold ends at ih ⊢
    rw [List.map_cons, List.flatMap_cons, List.flatMap_cons]
    refine List.Perm.append ?_ ih
    rcases Nat.le_total p.1 p.2 with h | h
    · rw [Nat.min_eq_left h, Nat.max_eq_right h]
    · rw [Nat.min_eq_right h, Nat.max_eq_left h]; exact List.Perm.swap ..
/-- How many pairs of a list fit. -/
def fitN (f : Nat → Nat → Bool) (l : List (Nat × Nat)) : Nat := (l.filter fun p => f p.1 p.2).length

/-- The most pairs that fit, of all pairings, is the greatest number of pairs. -/
theorem prs_most {f : Nat → Nat → Bool} (hsym : ∀ a b, f a b = f b a) {S : Nat → Bool} {n k : Nat} (hS : ∀ a b, f a b = true → S a = true ∧ S b = true) (hn : ∀ x, S x = true → x < n) (hk : IsNu f S k) :
    ((prs n n 0).map (fitN f)).foldl max 0 = k := by
  have hle : ∀ (l : List Nat) (m c : Nat), m ≤ c → (∀ x ∈ l, x ≤ c) → l.foldl max m ≤ c := by
    intro l
    induction l with
    | nil => intro m c h _; exact h
    | cons x l ih => intro m c h hx; rw [List.foldl_cons]; exact ih _ _ (by have := hx x List.mem_cons_self; omega) fun y hy => hx y (List.mem_cons_of_mem _ hy)
  have hge : ∀ (l : List Nat) (m : Nat), m ≤ l.foldl max m ∧ ∀ x ∈ l, x ≤ l.foldl max m := by
    intro l
    induction l with
    | nil => intro m; exact ⟨Nat.le_refl _, by simp⟩
    | cons x l ih =>
      intro m
      rw [List.foldl_cons]
      obtain ⟨i1, i2⟩ := ih (max m x)
      refine ⟨by omega, fun y hy => ?_⟩
      rcases List.mem_cons.1 hy with rfl | hy
      · omega
      · exact i2 y hy
  apply Nat.le_antisymm
  · refine hle _ _ _ (Nat.zero_le _) fun x hx => ?_
    obtain ⟨l, hl, rfl⟩ := List.mem_map.1 hx
    have ok := prs_ok n 0 (Nat.le_refl _) l hl
    refine hk.le (l.filter fun p => f p.1 p.2) ⟨fun p hp => ?_, ok.nd.sublist (ends_sub List.filter_sublist)⟩
    have := (List.mem_filter.1 hp).2
    exact ⟨(hS _ _ this).1, (hS _ _ this).2, this⟩
  · obtain ⟨M, hM, rfl⟩ := hk.ex
    have hne : ∀ p ∈ M, p.1 ≠ p.2 := fun p hp => (hM.split hp).1
    obtain ⟨l, hl, hs⟩ := prs_has n 0 (Nat.le_refl _) (M.map fun p => (min p.1 p.2, max p.1 p.2)) ⟨fun p hp => by
      obtain ⟨q, hq, rfl⟩ := List.mem_map.1 hp
      have h1 := hn _ (hM.fit q hq).1
      have h2 := hn _ (hM.fit q hq).2.1
      have h3 := hne q hq
      exact ⟨by omega, by simp only; omega, by simp only; omega, by simp, by simp⟩, by
        exact (ends_norm M).nodup_iff.2 hM.nd⟩
    refine Nat.le_trans ?_ ((hge _ 0).2 (fitN f l) (List.mem_map.2 ⟨l, hl, rfl⟩))
    have hnd : (M.map fun p => (min p.1 p.2, max p.1 p.2)).Nodup := pairs_nodup (by
        exact (ends_norm M).nodup_iff.2 hM.nd)
    have := length_le_of_sub hnd (m := l.filter fun p => f p.1 p.2) fun p hp => by
      refine List.mem_filter.2 ⟨hs p hp, ?_⟩
      obtain ⟨q, hq, rfl⟩ := List.mem_map.1 hp
      have hf := (hM.fit q hq).2.2
      rcases Nat.le_total q.1 q.2 with h | h
      · simp only [Nat.min_eq_left h, Nat.max_eq_right h]; exact hf
      · simp only [Nat.min_eq_right h, Nat.max_eq_left h]; rw [hsym]; exact hf
    simpa [fitN] using this

end Go.Fs.C7
