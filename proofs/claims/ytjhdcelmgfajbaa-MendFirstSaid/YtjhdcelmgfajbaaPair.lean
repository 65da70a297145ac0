/- Pairings in plain Lean: the greatest number of pairs of a graph (layer 7). -/
import Derived.Test.YtjhdcelmgfajbaaYard
namespace Go.Fs.C7

/-- Both chairs of each pair. -/
def ends (M : List (Nat × Nat)) : List Nat := M.flatMap fun p => [p.1, p.2]
theorem mem_ends {M : List (Nat × Nat)} {x : Nat} : x ∈ ends M ↔ ∃ p ∈ M, x = p.1 ∨ x = p.2 := by
  unfold ends; simp [List.mem_flatMap]
/-- A list of pairs that fit, of some chairs, each at most once. -/
structure Mat (f : Nat → Nat → Bool) (S : Nat → Bool) (M : List (Nat × Nat)) : Prop where
  fit : ∀ p ∈ M, S p.1 = true ∧ S p.2 = true ∧ f p.1 p.2 = true
  nd : (ends M).Nodup
/-- The greatest number of pairs. -/
structure IsNu (f : Nat → Nat → Bool) (S : Nat → Bool) (k : Nat) : Prop where
  ex : ∃ M, Mat f S M ∧ M.length = k
  le : ∀ M, Mat f S M → M.length ≤ k

theorem IsNu.unique {f : Nat → Nat → Bool} {S : Nat → Bool} {k l : Nat} (h : IsNu f S k) (h' : IsNu f S l) : k = l := by
  obtain ⟨M, hM, rfl⟩ := h.ex
  obtain ⟨M', hM', rfl⟩ := h'.ex
  exact Nat.le_antisymm (h'.le _ hM) (h.le _ hM')
theorem Mat.nil {f : Nat → Nat → Bool} {S : Nat → Bool} : Mat f S [] := ⟨by simp, by simp [ends]⟩
theorem Mat.mono {f : Nat → Nat → Bool} {S T : Nat → Bool} {M : List (Nat × Nat)} (h : Mat f S M) (hs : ∀ x, S x = true → T x = true) : Mat f T M :=
  ⟨fun p hp => ⟨hs _ (h.fit p hp).1, hs _ (h.fit p hp).2.1, (h.fit p hp).2.2⟩, h.nd⟩
theorem IsNu.mono {f : Nat → Nat → Bool} {S T : Nat → Bool} {k l : Nat} (h : IsNu f S k) (h' : IsNu f T l) (hs : ∀ x, S x = true → T x = true) : k ≤ l := by
  obtain ⟨M, hM, rfl⟩ := h.ex
  exact h'.le _ (hM.mono hs)
theorem IsNu.empty {f : Nat → Nat → Bool} {S : Nat → Bool} (h : ∀ x, S x = false) : IsNu f S 0 :=
  ⟨⟨[], Mat.nil, rfl⟩, fun M hM => by
    cases M with
    | nil => exact Nat.le_refl _
    | cons p l => have := (hM.fit p List.mem_cons_self).1; rw [h] at this; cases this⟩

theorem ends_sub {M M' : List (Nat × Nat)} (h : M'.Sublist M) : (ends M').Sublist (ends M) := by
  unfold ends
  induction h with
  | slnil => exact List.Sublist.refl _
  | cons a _ ih => rw [List.flatMap_cons]; exact ih.trans (List.sublist_append_right _ _)
  | cons_cons a _ ih => rw [List.flatMap_cons, List.flatMap_cons]; exact (List.Sublist.refl _).append ih

def without (S : Nat → Bool) (a : Nat) : Nat → Bool := fun x => S x && decide (x ≠ a)
theorem without_iff {S : Nat → Bool} {a x : Nat} : without S a x = true ↔ S x = true ∧ x ≠ a := by simp [without]

/-- A chair that no pair has can go. -/
theorem Mat.drop {f : Nat → Nat → Bool} {S : Nat → Bool} {M : List (Nat × Nat)} {a : Nat} (h : Mat f S M) (ha : a ∉ ends M) : Mat f (without S a) M :=
  ⟨fun p hp => ⟨without_iff.2 ⟨(h.fit p hp).1, fun e => ha (mem_ends.2 ⟨p, hp, Or.inl e.symm⟩)⟩, without_iff.2 ⟨(h.fit p hp).2.1, fun e => ha (mem_ends.2 ⟨p, hp, Or.inr e.symm⟩)⟩, (h.fit p hp).2.2⟩, h.nd⟩

/-- The pair of a chair, and the others. -/
theorem Mat.split {f : Nat → Nat → Bool} {S : Nat → Bool} {M : List (Nat × Nat)} {p : Nat × Nat} (h : Mat f S M) (hp : p ∈ M) :
    p.1 ≠ p.2 ∧ Mat f (without (without S p.1) p.2) (M.erase p) ∧ (M.erase p).length + 1 = M.length := by
  have hperm := List.perm_cons_erase hp
  have hnd : (ends (p :: M.erase p)).Nodup := ((List.Perm.flatMap_right (fun p : Nat × Nat => [p.1, p.2]) hperm).nodup_iff).1 h.nd
  unfold ends at hnd
  rw [List.flatMap_cons, List.nodup_append] at hnd
  obtain ⟨h1, h2, h3⟩ := hnd
  have hne : p.1 ≠ p.2 := by simpa using h1
  have hl := List.length_erase_of_mem hp
  have hpos := List.length_pos_of_mem hp
  refine ⟨hne, ⟨fun q hq => ?_, h2⟩, by omega⟩
  have hq' := h.fit q (List.mem_of_mem_erase hq)
  have e1 : ∀ z, z = p.1 ∨ z = p.2 → ∀ x, x = q.1 ∨ x = q.2 → x ≠ z := by
    intro z hz x hx e
    have := h3 z (by simpa using hz) x (mem_ends.2 ⟨q, hq, hx⟩)
    exact this e.symm
  refine ⟨without_iff.2 ⟨without_iff.2 ⟨hq'.1, e1 _ (Or.inl rfl) _ (Or.inl rfl)⟩, e1 _ (Or.inr rfl) _ (Or.inl rfl)⟩, without_iff.2 ⟨without_iff.2 ⟨hq'.2.1, e1 _ (Or.inl rfl) _ (Or.inr rfl)⟩, e1 _ (Or.inr rfl) _ (Or.inr rfl)⟩, hq'.2.2⟩

theorem Mat.cons {f : Nat → Nat → Bool} {S : Nat → Bool} {M : List (Nat × Nat)} {a b : Nat} (h : Mat f (without (without S a) b) M) (ha : S a = true) (hb : S b = true) (hne : a ≠ b) (hf : f a b = true) : Mat f S ((a, b) :: M) := by
  refine ⟨fun p hp => ?_, ?_⟩
  · rcases List.mem_cons.1 hp with rfl | hp
    · exact ⟨ha, hb, hf⟩
    · obtain ⟨h1, h2, h3⟩ := h.fit p hp
      exact ⟨(without_iff.1 (without_iff.1 h1).1).1, (without_iff.1 (without_iff.1 h2).1).1, h3⟩
  · have hout : ∀ z, z = a ∨ z = b → z ∉ ends M := by
      intro z hz hm
      obtain ⟨p, hp, hx⟩ := mem_ends.1 hm
      obtain ⟨h1, h2, _⟩ := h.fit p hp
      have h1' := without_iff.1 h1
      have h2' := without_iff.1 h2
      have h1'' := without_iff.1 h1'.1
      have h2'' := without_iff.1 h2'.1
      rcases hz with rfl | rfl <;> rcases hx with hx | hx
      · exact h1''.2 hx.symm
      · exact h2''.2 hx.symm
      · exact h1'.2 hx.symm
      · exact h2'.2 hx.symm
    unfold ends
    rw [List.flatMap_cons]
    refine List.nodup_append.2 ⟨by simpa using hne, h.nd, fun x hx y hy e => ?_⟩
    subst e
    exact hout x (by simpa using hx) hy

/-- One chair is left alone, or paired with one that fits it. -/
theorem nu_step {f : Nat → Nat → Bool} (hsym : ∀ a b, f a b = f b a) {S : Nat → Bool} {a : Nat} (ha : S a = true) {n : Nat} (hn : ∀ x, S x = true → x < n) {k0 : Nat} (h0 : IsNu f (without S a) k0) {g : Nat → Nat} (hg : ∀ b, S b = true → b ≠ a → f a b = true → IsNu f (without (without S a) b) (g b)) :
    IsNu f S (((List.range n).filter fun b => (S b && decide (b ≠ a)) && f a b).foldl (fun m b => max m (1 + g b)) k0) := by
  have hle : ∀ (l : List Nat) (m : Nat), m ≤ l.foldl (fun m b => max m (1 + g b)) m ∧ ∀ b ∈ l, 1 + g b ≤ l.foldl (fun m b => max m (1 + g b)) m := by
    intro l
    induction l with
    | nil => intro m; exact ⟨Nat.le_refl _, by simp⟩
    | cons x l ih =>
      intro m
      rw [List.foldl_cons]
      obtain ⟨i1, i2⟩ := ih (max m (1 + g x))
      refine ⟨by omega, fun b hb => ?_⟩
      rcases List.mem_cons.1 hb with rfl | hb
      · omega
      · exact i2 b hb
  have hex : ∀ (l : List Nat) (m : Nat), l.foldl (fun m b => max m (1 + g b)) m = m ∨ ∃ b ∈ l, l.foldl (fun m b => max m (1 + g b)) m = 1 + g b := by
    intro l
    induction l with
    | nil => intro m; exact Or.inl rfl
    | cons x l ih =>
      intro m
      rw [List.foldl_cons]
      rcases ih (max m (1 + g x)) with h | ⟨b, hb, h⟩
      · rw [h]
        by_cases hm : m ≤ 1 + g x
        · exact Or.inr ⟨x, List.mem_cons_self, by omega⟩
        · exact Or.inl (by omega)
      · exact Or.inr ⟨b, List.mem_cons_of_mem _ hb, h⟩
  refine ⟨?_, fun M hM => ?_⟩
  · rcases hex ((List.range n).filter fun b => (S b && decide (b ≠ a)) && f a b) k0 with h | ⟨b, hb, h⟩
    · obtain ⟨M, hM, he⟩ := h0.ex
      exact ⟨M, hM.mono fun x hx => (without_iff.1 hx).1, by rw [h, he]⟩
    · rw [List.mem_filter] at hb
      simp only [Bool.and_eq_true, decide_eq_true_eq] at hb
      obtain ⟨_, ⟨hb1, hb2⟩, hb3⟩ := hb
      obtain ⟨M, hM, he⟩ := (hg b hb1 hb2 hb3).ex
      exact ⟨(a, b) :: M, hM.cons ha hb1 (fun e => hb2 e.symm) hb3, by rw [h, List.length_cons, he]; omega⟩
  · obtain ⟨i1, i2⟩ := hle ((List.range n).filter fun b => (S b && decide (b ≠ a)) && f a b) k0
    by_cases hin : a ∈ ends M
    · obtain ⟨p, hp, hx⟩ := mem_ends.1 hin
      obtain ⟨hne, hMe, hlen⟩ := hM.split hp
      obtain ⟨p1, p2⟩ := p
      obtain ⟨s1, s2, s3⟩ := hM.fit _ hp
      simp only at hx hne hMe s1 s2 s3
      rcases hx with rfl | rfl
      · have := (hg p2 s2 (fun e => hne e.symm) s3).le _ hMe
        have := i2 p2 (List.mem_filter.2 ⟨List.mem_range.2 (hn _ s2), by simp [s2, s3]; exact fun e => hne e.symm⟩)
        omega
      · have hMe' : Mat f (without (without S a) p1) (M.erase (p1, a)) := hMe.mono fun x hx => by
          have h1 := without_iff.1 hx
          have h2 := without_iff.1 h1.1
          exact without_iff.2 ⟨without_iff.2 ⟨h2.1, h1.2⟩, h2.2⟩
        have hf' : f a p1 = true := by rw [hsym]; exact s3
        have := (hg p1 s1 hne hf').le _ hMe'
        have := i2 p1 (List.mem_filter.2 ⟨List.mem_range.2 (hn _ s1), by simp [s1, hf']; exact hne⟩)
        omega
    · have := h0.le _ (hM.drop hin)
      omega

end Go.Fs.C7
