/- Of the proof of MendTruth: W35, W12. -/
import Derived.Test.YtjhdcelmgfajbaaZMendTruthH
namespace Go.Fs
open Go.Proofs
open C7
/-- How many of the chairs (by bits) have no partner. -/
def missL (m : Nat) (M : List (Nat × Nat)) : List Nat := (List.range 7).filter fun i => m.testBit i && decide (i ∉ ends M)
theorem mem_miss {m x : Nat} {M : List (Nat × Nat)} (hm : m < 128) : x ∈ missL m M ↔ m.testBit x = true ∧ x ∉ ends M := by
  unfold missL
  rw [List.mem_filter, List.mem_range, Bool.and_eq_true, decide_eq_true_eq]
  constructor
  · exact fun h => h.2
  · intro h; refine ⟨?_, h⟩
    rcases Nat.lt_or_ge x 7 with hl | hl
    · exact hl
    · have h2 : 2 ^ 7 ≤ 2 ^ x := Nat.pow_le_pow_right (by omega) hl
      rw [Nat.testBit_lt_two_pow (by omega)] at h; cases h.1
theorem mem_bits7 {m x : Nat} (hm : m < 128) : x ∈ (List.range 7).filter (fun i => m.testBit i) ↔ m.testBit x = true := by
  rw [List.mem_filter, List.mem_range]
  refine ⟨fun h => h.2, fun h => ⟨?_, h⟩⟩
  rcases Nat.lt_or_ge x 7 with hl | hl
  · exact hl
  · have h2 : 2 ^ 7 ≤ 2 ^ x := Nat.pow_le_pow_right (by omega) hl
    rw [Nat.testBit_lt_two_pow (by omega)] at h; cases h
theorem nodup_bits7 (p : Nat → Bool) : ((List.range 7).filter p).Nodup := List.nodup_range.filter _
theorem ends_len (M : List (Nat × Nat)) : (ends M).length = 2 * M.length := by
  induction M with
  | nil => rfl
  | cons p M ih => unfold ends at ih ⊢; rw [List.flatMap_cons, List.length_append, ih, List.length_cons, List.length_cons, List.length_cons, List.length_nil]; omega
theorem len_eq_of_iff {l m : List Nat} (hl : l.Nodup) (hm : m.Nodup) (h : ∀ x, x ∈ l ↔ x ∈ m) : l.length = m.length :=
  Nat.le_antisymm (length_le_of_sub hl fun x hx => (h x).1 hx) (length_le_of_sub hm fun x hx => (h x).2 hx)
theorem count_all {f : Nat → Nat → Bool} {m : Nat} {M : List (Nat × Nat)} (hM : Mat f m.testBit M) (hm : m < 128) : onesB m = 2 * M.length + (missL m M).length := by
  rw [← ends_len, ← List.length_append]
  unfold onesB
  refine len_eq_of_iff (nodup_bits7 _) (List.nodup_append.2 ⟨hM.nd, nodup_bits7 _, fun a ha b hb e => ?_⟩) fun x => ?_
  · subst e; exact ((mem_miss hm).1 hb).2 ha
  · rw [mem_bits7 hm, List.mem_append, mem_miss hm]
    constructor
    · intro h
      by_cases hx : x ∈ ends M
      · exact Or.inl hx
      · exact Or.inr ⟨h, hx⟩
    · rintro (h | h)
      · obtain ⟨p, hp, hx⟩ := mem_ends.1 h
        have := hM.fit p hp
        rcases hx with rfl | rfl
        · exact this.1
        · exact this.2.1
      · exact h.1
/-- A group: what can be reached, and closed. -/
theorem groupG_fix {F : List Nat} {left : Nat} (hF : ∀ f ∈ F, f < 128) : ∀ k g, g < 128 → 128 ≤ g + k → growB F left (groupG F left k g) = groupG F left k g
  | 0, g, h, h2 => by omega
  | k + 1, g, h, h2 => by
    unfold groupG; split
    · rename_i e; exact e
    · rename_i e
      have := grow_ge F left g
      exact groupG_fix hF k _ (grow_lt hF h).1 (by omega)
theorem group_closed {F : List Nat} {left a x z : Nat} (hF : ∀ f ∈ F, f < 128) (ha : a < 7) (hx : (groupB F left a).testBit x = true) (hz : left.testBit z = true) (hf : fB F x z = true) : (groupB F left a).testBit z = true := by
  have hfix := groupG_fix (left := left) hF 128 (2 ^ a) (pow_lt7 ha) (Nat.le_add_left _ _)
  have hlt : groupB F left a < 128 := groupG_lt hF 128 (2 ^ a) (pow_lt7 ha)
  have hx7 : x < 7 := by
    rcases Nat.lt_or_ge x 7 with hl | hl
    · exact hl
    · have h2 : 2 ^ 7 ≤ 2 ^ x := Nat.pow_le_pow_right (by omega) hl
      rw [Nat.testBit_lt_two_pow (by omega)] at hx; cases hx
  have e : growB F left (groupB F left a) = groupB F left a := hfix
  rw [← e]
  exact (growK_bit 7 z).2 (Or.inr ⟨x, hx7, hx, hf, hz⟩)
theorem groupG_ind {F : List Nat} {left : Nat} {p : Nat → Prop} (hs : ∀ x z, p x → left.testBit z = true → fB F x z = true → p z) : ∀ k g, (∀ x, g.testBit x = true → p x) → ∀ x, (groupG F left k g).testBit x = true → p x
  | 0, g, h, x, hx => h x hx
  | k + 1, g, h, x, hx => by
    unfold groupG at hx; split at hx
    · exact h x hx
    · refine groupG_ind hs k _ (fun z hz => ?_) x hx
      rcases (growK_bit 7 z).1 hz with h1 | ⟨i, _, h2, h3, h4⟩
      · exact h z h1
      · exact hs i z (h i h2) h4 h3
theorem group_ind {F : List Nat} {left a : Nat} {p : Nat → Prop} (hs : ∀ x z, p x → left.testBit z = true → fB F x z = true → p z) (h0 : p a) : ∀ x, (groupB F left a).testBit x = true → p x := by
  refine groupG_ind hs 128 _ fun x hx => ?_
  rw [Nat.testBit_two_pow] at hx
  obtain rfl : a = x := by simpa using hx
  exact h0
theorem group_sub {F : List Nat} {m a : Nat} (h : m.testBit a = true) : ∀ x, (groupB F m a).testBit x = true → m.testBit x = true :=
  group_ind (p := fun x => m.testBit x = true) (fun _ _ _ h _ => h) h
theorem ones_dif {m g : Nat} (h : ∀ x, g.testBit x = true → m.testBit x = true) : onesB m = onesB g + onesB (dif m g) := by
  unfold onesB
  have : ∀ l : List Nat, (l.filter fun i => m.testBit i).length = (l.filter fun i => g.testBit i).length + (l.filter fun i => (dif m g).testBit i).length := by
    intro l
    induction l with
    | nil => rfl
    | cons x l ih =>
      rw [List.filter_cons, List.filter_cons, List.filter_cons, dif_bit]
      cases hg : g.testBit x with
      | true => rw [h x hg]; simp; omega
      | false => cases hm : m.testBit x <;> simp <;> omega
  exact this _
theorem dif_lt {m g : Nat} (h : m < 128) : dif m g < 128 := Nat.lt_of_le_of_lt (dif_le m g) h
theorem filter_two {α : Type} (q : α → Bool) (l : List α) : l.length = (l.filter q).length + (l.filter fun x => !q x).length := by
  induction l with
  | nil => rfl
  | cons x l ih =>
    rw [List.filter_cons, List.filter_cons]
    cases q x <;> simp <;> omega
/-- A list of pairs falls into those of a group, and the others. -/
theorem mat_group {F : List Nat} (hsym : ∀ a b, fB F a b = fB F b a) (hF : ∀ f ∈ F, f < 128) {m a : Nat} (ha : a < 7) {M : List (Nat × Nat)} (hM : Mat (fB F) m.testBit M) :
    Mat (fB F) (groupB F m a).testBit (M.filter fun p => (groupB F m a).testBit p.1) ∧ Mat (fB F) (dif m (groupB F m a)).testBit (M.filter fun p => !(groupB F m a).testBit p.1) := by
  refine ⟨⟨fun p hp => ?_, hM.nd.sublist (ends_sub List.filter_sublist)⟩, ⟨fun p hp => ?_, hM.nd.sublist (ends_sub List.filter_sublist)⟩⟩
  · obtain ⟨h1, h2⟩ := List.mem_filter.1 hp
    obtain ⟨f1, f2, f3⟩ := hM.fit p h1
    exact ⟨h2, group_closed hF ha h2 f2 f3, f3⟩
  · obtain ⟨h1, h2⟩ := List.mem_filter.1 hp
    obtain ⟨f1, f2, f3⟩ := hM.fit p h1
    rw [dif_bit, dif_bit, f1, f2]
    refine ⟨by simpa using h2, ?_, f3⟩
    cases h : (groupB F m a).testBit p.2 with
    | false => rfl
    | true =>
      have := group_closed hF ha h f1 (by rw [hsym]; exact f3)
      rw [this] at h2; cases h2
/-- Each group with an odd number of chairs leaves one without a partner. -/
theorem odd_le {F : List Nat} (hsym : ∀ a b, fB F a b = fB F b a) (hF : ∀ f ∈ F, f < 128) : ∀ (m : Nat) (M : List (Nat × Nat)), m < 128 → Mat (fB F) m.testBit M → 2 * M.length + oddB F m ≤ onesB m := by
  intro m
  induction m using Nat.strongRecOn with
  | _ m ih =>
    intro M hm hM
    by_cases h0 : m = 0
    · subst h0
      cases M with
      | nil => exact Nat.zero_le _
      | cons p M => have := (hM.fit p List.mem_cons_self).1; rw [Nat.zero_testBit] at this; cases this
    · have hl7 := low7 hm h0
      obtain ⟨h1, h2⟩ := mat_group hsym hF hl7 hM
      have c1 := count_all h1 (group_lt hF hm hl7)
      have c2 := ih _ (group_dif F h0) _ (dif_lt hm) h2
      have c3 := filter_two (fun p : Nat × Nat => (groupB F m (low m)).testBit p.1) M
      rw [oddB_eq h0, ones_dif (group_sub (F := F) (low_spec h0).1)]
      omega
/-- If two chairs of a group never both miss a partner, no more than that are without one. -/
theorem odd_ge {F : List Nat} (hsym : ∀ a b, fB F a b = fB F b a) (hF : ∀ f ∈ F, f < 128) {R : Nat → Nat → Prop} (hrefl : ∀ x, R x x) (hR : ∀ x z, R x z → R z x) (htr : ∀ x y z, R x y → R y z → R x z) : ∀ (m : Nat) (M : List (Nat × Nat)), m < 128 → Mat (fB F) m.testBit M →
    (∀ x z, m.testBit x = true → m.testBit z = true → fB F x z = true → R x z) → (∀ x z, m.testBit x = true → m.testBit z = true → x ≠ z → R x z → x ∈ ends M ∨ z ∈ ends M) → onesB m ≤ 2 * M.length + oddB F m := by
  intro m
  induction m using Nat.strongRecOn with
  | _ m ih =>
    intro M hm hM hadj hone
    by_cases h0 : m = 0
    · subst h0; exact Nat.zero_le _
    · have hl7 := low7 hm h0
      have hlow := (low_spec h0).1
      have hsub := group_sub (F := F) hlow
      obtain ⟨h1, h2⟩ := mat_group hsym hF hl7 hM
      have c1 := count_all h1 (group_lt hF hm hl7)
      have c3 := filter_two (fun p : Nat × Nat => (groupB F m (low m)).testBit p.1) M
      have hg : ∀ x, (groupB F m (low m)).testBit x = true → R (low m) x := by
        have := group_ind (F := F) (left := m) (a := low m) (p := fun x => m.testBit x = true ∧ R (low m) x) (fun x z hx hz hf => ⟨hz, htr _ _ _ hx.2 (hadj x z hx.1 hz hf)⟩) ⟨hlow, hrefl _⟩
        exact fun x hx => (this x hx).2
      have hmiss : (missL (groupB F m (low m)) (M.filter fun p => (groupB F m (low m)).testBit p.1)).length ≤ 1 := by
        have hin : ∀ x, (groupB F m (low m)).testBit x = true → x ∈ ends M → x ∈ ends (M.filter fun p => (groupB F m (low m)).testBit p.1) := fun x hx hxe => by
          obtain ⟨p, hp, e⟩ := mem_ends.1 hxe
          obtain ⟨f1, f2, f3⟩ := hM.fit p hp
          refine mem_ends.2 ⟨p, List.mem_filter.2 ⟨hp, ?_⟩, e⟩
          rcases e with rfl | rfl
          · exact hx
          · exact group_closed hF hl7 hx f1 (by rw [hsym]; exact f3)
        have hall : ∀ x ∈ missL (groupB F m (low m)) (M.filter fun p => (groupB F m (low m)).testBit p.1), ∀ z ∈ missL (groupB F m (low m)) (M.filter fun p => (groupB F m (low m)).testBit p.1), x = z := fun x hx z hz => by
          obtain ⟨x1, x2⟩ := (mem_miss (group_lt hF hm hl7)).1 hx
          obtain ⟨z1, z2⟩ := (mem_miss (group_lt hF hm hl7)).1 hz
          by_cases e : x = z
          · exact e
          · rcases hone x z (hsub x x1) (hsub z z1) e (htr _ _ _ (hR _ _ (hg x x1)) (hg z z1)) with h | h
            · exact absurd (hin x x1 h) x2
            · exact absurd (hin z z1 h) z2
        have hnd : (missL (groupB F m (low m)) (M.filter fun p => (groupB F m (low m)).testBit p.1)).Nodup := nodup_bits7 _
        generalize missL (groupB F m (low m)) (M.filter fun p => (groupB F m (low m)).testBit p.1) = l at hall hnd
        match l, hall, hnd with
        | [], _, _ => exact Nat.zero_le _
        | [_], _, _ => exact Nat.le_refl _
        | x :: z :: l, hall, hnd =>
          have := hall x List.mem_cons_self z (List.mem_cons_of_mem _ List.mem_cons_self)
          subst this
          simp at hnd
      have c2 := ih _ (group_dif F h0) _ (dif_lt hm) h2 (fun x z hx hz => hadj x z (by rw [dif_bit] at hx; simp at hx; exact hx.1) (by rw [dif_bit] at hz; simp at hz; exact hz.1)) (fun x z hx hz hne hr => by
        rw [dif_bit] at hx hz
        simp only [Bool.and_eq_true, Bool.not_eq_true'] at hx hz
        have hin : ∀ x, (groupB F m (low m)).testBit x = false → x ∈ ends M → x ∈ ends (M.filter fun p => !(groupB F m (low m)).testBit p.1) := fun x hx hxe => by
          obtain ⟨p, hp, e⟩ := mem_ends.1 hxe
          obtain ⟨f1, f2, f3⟩ := hM.fit p hp
          refine mem_ends.2 ⟨p, List.mem_filter.2 ⟨hp, ?_⟩, e⟩
          rcases e with rfl | rfl
          · simpa using hx
          · cases h : (groupB F m (low m)).testBit p.1 with
            | false => rfl
            | true => rw [group_closed hF hl7 h f2 f3] at hx; cases hx
        rcases hone x z hx.1 hz.1 hne hr with h | h
        · exact Or.inl (hin x hx.2 h)
        · exact Or.inr (hin z hz.2 h))
      rw [oddB_eq h0, ones_dif hsub]
      omega
/-- Two chairs are a pair. -/
def Wed (M : List (Nat × Nat)) (x z : Nat) : Prop := (x, z) ∈ M ∨ (z, x) ∈ M
theorem Wed.swap {M : List (Nat × Nat)} {x z : Nat} (h : Wed M x z) : Wed M z x := Or.symm h
theorem has_of {M : List (Nat × Nat)} {x : Nat} (h : x ∈ ends M) : ∃ z, Wed M x z := by
  obtain ⟨p, hp, e⟩ := mem_ends.1 h
  rcases e with rfl | rfl
  · exact ⟨p.2, Or.inl hp⟩
  · exact ⟨p.1, Or.inr hp⟩
theorem Wed.ends {M : List (Nat × Nat)} {x z : Nat} (h : Wed M x z) : x ∈ ends M ∧ z ∈ ends M := by
  rcases h with h | h
  · exact ⟨mem_ends.2 ⟨_, h, Or.inl rfl⟩, mem_ends.2 ⟨_, h, Or.inr rfl⟩⟩
  · exact ⟨mem_ends.2 ⟨_, h, Or.inr rfl⟩, mem_ends.2 ⟨_, h, Or.inl rfl⟩⟩
theorem C7.Mat.has {f : Nat → Nat → Bool} (hsym : ∀ a b, f a b = f b a) {S : Nat → Bool} {M : List (Nat × Nat)} (hM : Mat f S M) {x z : Nat} (h : Wed M x z) : S x = true ∧ S z = true ∧ f x z = true ∧ x ≠ z := by
  rcases h with h | h
  · obtain ⟨h1, h2, h3⟩ := hM.fit _ h
    exact ⟨h1, h2, h3, (hM.split h).1⟩
  · obtain ⟨h1, h2, h3⟩ := hM.fit _ h
    exact ⟨h2, h1, by rw [hsym]; exact h3, fun e => (hM.split h).1 e.symm⟩
/-- Without the pair of two chairs. -/
theorem C7.Mat.rem {f : Nat → Nat → Bool} {S : Nat → Bool} {M : List (Nat × Nat)} (hM : Mat f S M) {x z : Nat} (h : Wed M x z) : ∃ p, p ∈ M ∧ (p = (x, z) ∨ p = (z, x)) ∧ Mat f (without (without S x) z) (M.erase p) ∧ (M.erase p).length + 1 = M.length := by
  rcases h with h | h
  · have := hM.split h
    exact ⟨_, h, Or.inl rfl, this.2.1, this.2.2⟩
  · have := hM.split h
    refine ⟨_, h, Or.inr rfl, this.2.1.mono fun y hy => ?_, this.2.2⟩
    simp only [without_iff] at hy ⊢
    exact ⟨⟨hy.1.1, hy.2⟩, hy.1.2⟩
theorem C7.Mat.one {f : Nat → Nat → Bool} {S : Nat → Bool} {M : List (Nat × Nat)} (hM : Mat f S M) {x z w : Nat} (h : Wed M x z) (h' : Wed M x w) : z = w := by
  obtain ⟨p, hp, e, hr, _⟩ := hM.rem h
  by_cases hz : z = w
  · exact hz
  · exfalso
    have key : ∀ q, q ∈ M → (q = (x, w) ∨ q = (w, x)) → False := fun q hq eq => by
      have hne : q ≠ p := by rintro rfl; rcases e with rfl | rfl <;> rcases eq with eq | eq <;> simp only [Prod.mk.injEq] at eq <;> omega
      have := hr.fit q ((List.mem_erase_of_ne hne).2 hq)
      simp only [without_iff] at this
      rcases eq with rfl | rfl
      · exact this.1.1.2 rfl
      · exact this.2.1.1.2 rfl
    rcases h' with h' | h'
    · exact key _ h' (Or.inl rfl)
    · exact key _ h' (Or.inr rfl)
theorem filter_ltm {α : Type} {p q : α → Bool} : ∀ {l : List α}, (∀ x ∈ l, q x = true → p x = true) → ∀ {a : α}, p a = true → q a = false → a ∈ l → (l.filter q).length + 1 ≤ (l.filter p).length
  | x :: l, h, a, hp, hq, hm => by
    have hle : ∀ l : List α, (∀ x ∈ l, q x = true → p x = true) → (l.filter q).length ≤ (l.filter p).length := by
      intro l
      induction l with
      | nil => intro _; exact Nat.le_refl _
      | cons x l ih =>
        intro h
        have := ih fun y hy => h y (List.mem_cons_of_mem _ hy)
        rw [List.filter_cons, List.filter_cons]
        by_cases hq : q x = true
        · rw [if_pos hq, if_pos (h x List.mem_cons_self hq)]; simpa using this
        · rw [if_neg hq]; split
          · rw [List.length_cons]; omega
          · exact this
    rw [List.filter_cons, List.filter_cons]
    by_cases hx : x = a
    · subst hx
      rw [if_neg (by rw [hq]; simp), if_pos hp]
      have := hle l fun y hy => h y (List.mem_cons_of_mem _ hy)
      rw [List.length_cons]; omega
    · have ih := filter_ltm (fun y hy => h y (List.mem_cons_of_mem _ hy)) hp hq ((List.mem_cons.1 hm).resolve_left fun e => hx e.symm)
      by_cases hqx : q x = true
      · rw [if_pos hqx, if_pos (h x List.mem_cons_self hqx)]; simpa using ih
      · rw [if_neg hqx]; split
        · rw [List.length_cons]; omega
        · exact ih
/-- How many pairs of a list are in another one too. -/
def common (M N : List (Nat × Nat)) : Nat := (M.filter fun p => N.contains p || N.contains (p.2, p.1)).length
theorem has_iff {N : List (Nat × Nat)} {p : Nat × Nat} : (N.contains p || N.contains (p.2, p.1)) = true ↔ Wed N p.1 p.2 := by
  rw [Bool.or_eq_true, List.contains_iff_mem, List.contains_iff_mem]; rfl
/-- Two chairs that one greatest list misses: a third one that a greatest list misses, is missed together with one of them. -/
theorem gallai {f : Nat → Nat → Bool} (hsym : ∀ a b, f a b = f b a) {m k : Nat} (hm : m < 128) (hk : IsNu f m.testBit k) {u v t : Nat} (huv : u ≠ v) (hu : m.testBit u = true) (hv : m.testBit v = true) {M : List (Nat × Nat)} (hM : Mat f m.testBit M) (hMk : M.length = k) (hMu : u ∉ ends M) (hMv : v ∉ ends M)
    (h1 : ∀ N, Mat f m.testBit N → N.length = k → t ∉ ends N → u ∈ ends N) (h2 : ∀ N, Mat f m.testBit N → N.length = k → t ∉ ends N → v ∈ ends N) :
    ∀ (j : Nat) (N : List (Nat × Nat)), Mat f m.testBit N → N.length = k → t ∉ ends N → M.length < common M N + j → False := by
  intro j
  induction j with
  | zero =>
    intro N _ _ _ h
    have : common M N ≤ M.length := List.length_filter_le _ _
    omega
  | succ j ih =>
    intro N hN hNk hNt hj
    have hNu := h1 N hN hNk hNt
    have hNv := h2 N hN hNk hNt
    have c1 := count_all hM hm
    have c2 := count_all hN hm
    have hex : ∃ x, x ∈ missL m N ∧ x ≠ t ∧ x ∈ ends M := by
      refine Classical.byContradiction fun hno => ?_
      have hsub : ∀ x ∈ u :: v :: (missL m N).erase t, x ∈ missL m M := fun x hx => by
        rcases List.mem_cons.1 hx with rfl | hx
        · exact (mem_miss hm).2 ⟨hu, hMu⟩
        · rcases List.mem_cons.1 hx with rfl | hx
          · exact (mem_miss hm).2 ⟨hv, hMv⟩
          · have hx1 := List.mem_of_mem_erase hx
            have hxt : x ≠ t := fun e => by subst e; exact ((nodup_bits7 _ : (missL m N).Nodup).mem_erase_iff.1 hx).1 rfl
            refine (mem_miss hm).2 ⟨((mem_miss hm).1 hx1).1, fun hxM => hno ⟨x, hx1, hxt, hxM⟩⟩
      have out : ∀ x, x ∈ ends N → x ∉ (missL m N).erase t := fun x hx h => ((mem_miss hm).1 (List.mem_of_mem_erase h)).2 hx
      have hnd : (u :: v :: (missL m N).erase t).Nodup := by
        refine List.nodup_cons.2 ⟨fun h => ?_, List.nodup_cons.2 ⟨out v hNv, (nodup_bits7 _ : (missL m N).Nodup).erase _⟩⟩
        rcases List.mem_cons.1 h with h | h
        · exact huv h
        · exact out u hNu h
      have := length_le_of_sub hnd hsub
      have h3 : (missL m N).length ≤ ((missL m N).erase t).length + 1 := by rw [List.length_erase]; split <;> omega
      simp only [List.length_cons] at this
      omega
    obtain ⟨x, hxN, hxt, hxM⟩ := hex
    obtain ⟨hxm, hxN⟩ := (mem_miss hm).1 hxN
    obtain ⟨y, hxy⟩ := has_of hxM
    obtain ⟨_, hym, hfxy, hnexy⟩ := hM.has hsym hxy
    have hyN : y ∈ ends N := by
      refine Classical.byContradiction fun hyN => ?_
      have := hk.le ((x, y) :: N) (((hN.drop hxN).drop hyN).cons hxm hym hnexy hfxy)
      simp only [List.length_cons] at this
      omega
    obtain ⟨z, hyz⟩ := has_of hyN
    have hzx : z ≠ x := fun e => hxN (e ▸ hyz.ends.2)
    obtain ⟨p, hp, ep, hr, hl⟩ := hN.rem hyz
    have hxr : x ∉ ends (N.erase p) := fun h => by
      obtain ⟨q, hq, e⟩ := mem_ends.1 h
      exact hxN (mem_ends.2 ⟨q, List.mem_of_mem_erase hq, e⟩)
    have hN' : Mat f m.testBit ((x, y) :: N.erase p) := ((hr.drop hxr).mono fun w hw => by
      simp only [without_iff] at hw ⊢
      exact ⟨⟨hw.1.1.1, hw.2⟩, hw.1.1.2⟩).cons hxm hym hnexy hfxy
    refine ih ((x, y) :: N.erase p) hN' (by rw [List.length_cons]; omega) (fun h => ?_) ?_
    · obtain ⟨q, hq, e⟩ := mem_ends.1 h
      rcases List.mem_cons.1 hq with rfl | hq
      · rcases e with e | e
        · exact hxt e.symm
        · simp only at e; exact hNt (e ▸ hyN)
      · exact hNt (mem_ends.2 ⟨q, List.mem_of_mem_erase hq, e⟩)
    · have key : common M N + 1 ≤ common M ((x, y) :: N.erase p) := by
        have hq : ∃ q, q ∈ M ∧ (q = (x, y) ∨ q = (y, x)) := by
          rcases hxy with h | h
          · exact ⟨_, h, Or.inl rfl⟩
          · exact ⟨_, h, Or.inr rfl⟩
        obtain ⟨q, hqM, eq⟩ := hq
        unfold common
        refine filter_ltm (fun r hrM hrN => ?_) (a := q) ?_ ?_ hqM
        · rw [has_iff] at hrN ⊢
          have hne : Wed (N.erase p) r.1 r.2 := by
            have hno : r ≠ p ∧ (r.2, r.1) ≠ p := by
              have hb : ∀ s1 s2, Wed M s1 s2 → (s1, s2) ≠ (y, z) ∧ (s1, s2) ≠ (z, y) := fun s1 s2 hs => by
                refine ⟨fun e => ?_, fun e => ?_⟩
                · obtain ⟨rfl, rfl⟩ := Prod.mk.inj e
                  exact hzx (hM.one hs hxy.swap)
                · obtain ⟨rfl, rfl⟩ := Prod.mk.inj e
                  exact hzx (hM.one hs.swap hxy.swap)
              have b1 := hb r.1 r.2 (Or.inl hrM)
              have b2 := hb r.2 r.1 (Or.inr hrM)
              rcases ep with rfl | rfl
              · exact ⟨b1.1, b2.1⟩
              · exact ⟨b1.2, b2.2⟩
            rcases hrN with h | h
            · exact Or.inl ((List.mem_erase_of_ne hno.1).2 h)
            · exact Or.inr ((List.mem_erase_of_ne hno.2).2 h)
          rcases hne with h | h
          · exact Or.inl (List.mem_cons_of_mem _ h)
          · exact Or.inr (List.mem_cons_of_mem _ h)
        · rw [has_iff]
          rcases eq with rfl | rfl
          · exact Or.inl List.mem_cons_self
          · exact Or.inr List.mem_cons_self
        · cases h : (N.contains q || N.contains (q.2, q.1)) with
          | false => rfl
          | true =>
            rw [has_iff] at h
            rcases eq with rfl | rfl
            · exact absurd h.ends.1 hxN
            · exact absurd h.ends.2 hxN
      omega
theorem bit128 {m x : Nat} (hm : m < 128) (h : m.testBit x = true) : x < 7 := by
  rcases Nat.lt_or_ge x 7 with hl | hl
  · exact hl
  · have h2 : 2 ^ 7 ≤ 2 ^ x := Nat.pow_le_pow_right (by omega) hl
    rw [Nat.testBit_lt_two_pow (by omega)] at h; cases h
theorem ones_two {v : Nat} (h : v < 7) : onesB (2 ^ v) = 1 := by
  have : ∀ v, v < 7 → onesB (2 ^ v) = 1 := by decide +kernel
  exact this v h
/-- There is a proof that is enough. -/
theorem tutte {F : List Nat} (hsym : ∀ a b, fB F a b = fB F b a) (hF : ∀ f ∈ F, f < 128) : ∀ (m k : Nat), m < 128 → IsNu (fB F) m.testBit k →
    ∃ s, (∀ x, s.testBit x = true → m.testBit x = true) ∧ onesB m + onesB s ≤ 2 * k + oddB F (dif m s) := by
  intro m
  induction m using Nat.strongRecOn with
  | _ m ih =>
    intro k hm hk
    by_cases hess : ∃ v k', m.testBit v = true ∧ IsNu (fB F) (without m.testBit v) k' ∧ k' < k
    · obtain ⟨v, k', hv, hk', hlt⟩ := hess
      have e1 : (dif m (2 ^ v)).testBit = without m.testBit v := by
        funext x
        rw [dif_at]; unfold without
        by_cases h : v = x
        · subst h; simp
        · have h' : x ≠ v := fun e => h e.symm
          simp [h, h']
      obtain ⟨s, hs, hb⟩ := ih _ (bit_lt hv) k' (dif_lt hm) (by rw [e1]; exact hk')
      have hvs : s.testBit v = false := by
        cases h : s.testBit v with
        | false => rfl
        | true => have := hs v h; rw [dif_at] at this; simp at this
      have hv7 := bit128 hm hv
      have hbit : ∀ x, (s ||| 2 ^ v).testBit x = (s.testBit x || decide (v = x)) := fun x => by rw [Nat.testBit_or, Nat.testBit_two_pow]
      refine ⟨s ||| 2 ^ v, fun x hx => ?_, ?_⟩
      · rw [hbit] at hx
        by_cases e : v = x
        · subst e; exact hv
        · have := hs x (by simpa [e] using hx)
          rw [dif_at] at this; simp at this; exact this.1
      · have e2 : dif m (s ||| 2 ^ v) = dif (dif m (2 ^ v)) s := by
          apply Nat.eq_of_testBit_eq; intro x
          rw [dif_bit, dif_bit, dif_at, hbit]
          cases m.testBit x <;> cases s.testBit x <;> cases decide (v = x) <;> rfl
        have o1 := ones_dif (m := m) (g := 2 ^ v) fun x hx => by
          rw [Nat.testBit_two_pow] at hx
          obtain rfl : v = x := by simpa using hx
          exact hv
        have o2 := ones_dif (m := s ||| 2 ^ v) (g := 2 ^ v) fun x hx => by
          rw [Nat.testBit_two_pow] at hx
          rw [hbit, hx]; simp
        have e3 : dif (s ||| 2 ^ v) (2 ^ v) = s := by
          apply Nat.eq_of_testBit_eq; intro x
          rw [dif_at, hbit]
          by_cases e : v = x
          · subst e; rw [hvs]; simp
          · simp [e]
        rw [e3, ones_two hv7] at o2
        rw [ones_two hv7] at o1
        rw [e2]
        omega
    · have hall : ∀ v, m.testBit v = true → ∃ M, Mat (fB F) m.testBit M ∧ M.length = k ∧ v ∉ ends M := fun v hv => by
        have e1 : (dif m (2 ^ v)).testBit = without m.testBit v := by
          funext x
          rw [dif_at]; unfold without
          by_cases h : v = x
          · subst h; simp
          · have h' : x ≠ v := fun e => h e.symm
            simp [h, h']
        have hn := nuB_is (F := F) (n := 7) hsym _ (dif m (2 ^ v)) (Nat.le_refl _) fun x hx => bit128 (dif_lt hm) hx
        rw [e1] at hn
        have hge : ¬ nuB F 7 (dif m (2 ^ v)) < k := fun h => hess ⟨v, _, hv, hn, h⟩
        have hle := hn.mono hk fun x hx => (without_iff.1 hx).1
        obtain ⟨M, hM, hl⟩ := hn.ex
        refine ⟨M, hM.mono fun x hx => (without_iff.1 hx).1, by omega, fun h => ?_⟩
        obtain ⟨p, hp, e⟩ := mem_ends.1 h
        have := hM.fit p hp
        rcases e with rfl | rfl
        · exact (without_iff.1 this.1).2 rfl
        · exact (without_iff.1 this.2.1).2 rfl
      obtain ⟨M, hM, hMk⟩ := hk.ex
      refine ⟨0, (fun x hx => by rw [Nat.zero_testBit] at hx; cases hx), ?_⟩
      have e0 : dif m 0 = m := by unfold dif; simp
      rw [e0]
      let R : Nat → Nat → Prop := fun x z => x = z ∨ (m.testBit x = true ∧ m.testBit z = true ∧ ∀ N, Mat (fB F) m.testBit N → N.length = k → x ∈ ends N ∨ z ∈ ends N)
      have key := odd_ge hsym hF (R := R) (fun x => Or.inl rfl) (fun x z h => by
        rcases h with h | ⟨h1, h2, h3⟩
        · exact Or.inl h.symm
        · exact Or.inr ⟨h2, h1, fun N hN hl => (h3 N hN hl).symm⟩) (fun x y z h h' => by
        rcases h with rfl | ⟨x1, x2, x3⟩
        · exact h'
        · rcases h' with rfl | ⟨y1, y2, y3⟩
          · exact Or.inr ⟨x1, x2, x3⟩
          · by_cases hxz : x = z
            · exact Or.inl hxz
            · refine Or.inr ⟨x1, y2, fun N hN hl => Classical.byContradiction fun hno => ?_⟩
              have hno := not_or.1 hno
              obtain ⟨T, hT, hTl, hTy⟩ := hall y x2
              exact gallai hsym hm hk hxz x1 y2 hN hl hno.1 hno.2 (fun N' hN' hl' hy => (x3 N' hN' hl').resolve_right hy) (fun N' hN' hl' hy => (y3 N' hN' hl').resolve_left hy) (N.length + 1) T hT hTl hTy (by omega)) m M hm hM (fun x z hx hz hf => by
        by_cases e : x = z
        · exact Or.inl e
        · refine Or.inr ⟨hx, hz, fun N hN hl => Classical.byContradiction fun hno => ?_⟩
          have hno := not_or.1 hno
          have := hk.le ((x, z) :: N) (((hN.drop hno.1).drop hno.2).cons hx hz e hf)
          simp only [List.length_cons] at this
          omega) (fun x z _ _ hne hr => by
        rcases hr with h | ⟨_, _, h⟩
        · exact absurd h hne
        · exact h M hM hMk)
      have h00 : onesB 0 = 0 := by decide
      omega
/-- No pairing makes more than the bound of a proof. -/
theorem berge_le {F : List Nat} (hsym : ∀ a b, fB F a b = fB F b a) (hF : ∀ f ∈ F, f < 128) {m s : Nat} (hm : m < 128) (hs : ∀ x, s.testBit x = true → m.testBit x = true) {M : List (Nat × Nat)} (hM : Mat (fB F) m.testBit M) : 2 * M.length + oddB F (dif m s) ≤ onesB m + onesB s := by
  have hsl : s < 128 := by
    refine Nat.lt_of_not_le fun h => ?_
    obtain ⟨i, hi, hb⟩ := Nat.exists_ge_and_testBit_of_ge_two_pow (n := 7) h
    have := bit128 hm (hs i hb)
    omega
  have hout : Mat (fB F) (dif m s).testBit (M.filter fun p => !(s.testBit p.1 || s.testBit p.2)) := by
    refine ⟨fun p hp => ?_, hM.nd.sublist (ends_sub List.filter_sublist)⟩
    obtain ⟨h1, h2⟩ := List.mem_filter.1 hp
    obtain ⟨f1, f2, f3⟩ := hM.fit p h1
    simp only [Bool.not_eq_true', Bool.or_eq_false_iff] at h2
    rw [dif_bit, dif_bit, f1, f2, h2.1, h2.2]
    exact ⟨rfl, rfl, f3⟩
  have c1 := odd_le hsym hF (dif m s) _ (dif_lt hm) hout
  have c2 := filter_two (fun p : Nat × Nat => s.testBit p.1 || s.testBit p.2) M
  have c3 := ones_dif hs
  have c4 : (M.filter fun p => s.testBit p.1 || s.testBit p.2).length ≤ onesB s := by
    have hnd : ((M.filter fun p => s.testBit p.1 || s.testBit p.2).map fun p => if s.testBit p.1 = true then p.1 else p.2).Nodup := by
      have hn := hM.nd.sublist (ends_sub (List.filter_sublist (p := fun p : Nat × Nat => s.testBit p.1 || s.testBit p.2)))
      generalize M.filter (fun p => s.testBit p.1 || s.testBit p.2) = L at hn
      induction L with
      | nil => exact List.nodup_nil
      | cons p L ih =>
        unfold ends at hn
        rw [List.flatMap_cons, List.nodup_append] at hn
        rw [List.map_cons]
        refine List.nodup_cons.2 ⟨fun h => ?_, ih hn.2.1⟩
        obtain ⟨q, hq, e⟩ := List.mem_map.1 h
        have a1 : (if s.testBit p.1 = true then p.1 else p.2) ∈ [p.1, p.2] := by split <;> simp
        have a2 : (if s.testBit q.1 = true then q.1 else q.2) ∈ ends L := mem_ends.2 ⟨q, hq, by split <;> simp⟩
        exact hn.2.2 _ a1 _ a2 e.symm
    have := length_le_of_sub hnd (m := (List.range 7).filter fun i => s.testBit i) fun x hx => by
      obtain ⟨p, hp, rfl⟩ := List.mem_map.1 hx
      have h2 := (List.mem_filter.1 hp).2
      rw [mem_bits7 hsl]
      split
      · assumption
      · rename_i h
        simpa [h] using h2
    rwa [List.length_map] at this
  omega
end Go.Fs
namespace Go.Fs
open Go.Proofs
open C7
theorem ones_all : ((List.range 128).all fun s => (List.range 7).all fun x => (List.range 7).all fun z => (x == z) || s.testBit x || s.testBit z || (onesB (s ||| (2 ^ x ||| 2 ^ z)) == onesB s + 2)) = true := by decide +kernel
theorem ones_add (s : Nat) (hs : s < 128) (x : Nat) (hx : x < 7) (z : Nat) (hz : z < 7) (hne : x ≠ z) (h1 : s.testBit x = false) (h2 : s.testBit z = false) : onesB (s ||| (2 ^ x ||| 2 ^ z)) = onesB s + 2 := by
  have := List.all_eq_true.1 (List.all_eq_true.1 (List.all_eq_true.1 ones_all s (List.mem_range.2 hs)) x (List.mem_range.2 hx)) z (List.mem_range.2 hz)
  simpa [hne, h1, h2] using this
theorem prS_bits {s x z : Nat} (h : decide ((((s >>> x) ||| (s >>> z) : Nat) : Int) % 2 = 1) = false) : s.testBit x = false ∧ s.testBit z = false := by
  rw [decide_eq_false_iff_not] at h
  have key : ((s >>> x) ||| (s >>> z)).testBit 0 = false := by
    rw [Nat.testBit_zero, decide_eq_false_iff_not]; omega
  rw [Nat.testBit_or, Nat.testBit_shiftRight, Nat.testBit_shiftRight, Bool.or_eq_false_iff] at key
  simpa using key
theorem prB_ok {n : Nat} {l : List (Int × Int)} (hn : n ≤ 7) (h : (prB n l).isSome = true) : PrOk l ∧ l.length ≤ 3 := by
  have key : ∀ k, k ≤ l.length → ∃ s, prB n (l.take k) = some s ∧ s < 128 ∧ onesB s = 2 * k ∧ PrOk (l.take k) := by
    intro k
    induction k with
    | zero => intro _; exact ⟨0, rfl, by omega, by decide, by simp [PrOk]⟩
    | succ k ih =>
      intro hk
      obtain ⟨s, h1, h2, h3, h4⟩ := ih (by omega)
      obtain ⟨⟨a, b⟩, hp⟩ : ∃ p, l[k]? = some p := ⟨_, List.getElem?_eq_getElem hk⟩
      cases hc : ((!inB a 0 ((n : Int) - 1) || !inB b (a + 1) ((n : Int) - 1)) || decide ((((s >>> a.toNat) ||| (s >>> b.toNat) : Nat) : Int) % 2 = 1)) with
      | true => rw [prB_no hp h1 hn h2 hc] at h; cases h
      | false =>
        have hc' := Bool.or_eq_false_iff.1 hc
        obtain ⟨i1, i2, i3, i4⟩ := prB_in hc'.1
        obtain ⟨x, z, rfl, rfl, hx, hz, hst, hlt⟩ := prS_yes hn h2 hc
        simp only [Int.toNat_natCast] at hc'
        obtain ⟨b1, b2⟩ := prS_bits hc'.2
        refine ⟨_, by rw [prB_snoc hp, h1]; exact hst, hlt, by rw [ones_add s h2 x hx z hz (by omega) b1 b2]; omega, fun p hpm => ?_⟩
        rw [List.take_add_one, hp, Option.toList_some] at hpm
        rcases List.mem_append.1 hpm with hpm | hpm
        · exact h4 p hpm
        · simp only [List.mem_singleton] at hpm; exact ⟨x, z, hpm, hx, hz⟩
  obtain ⟨s, _, _, h3, h4⟩ := key l.length (Nat.le_refl _)
  rw [List.take_length] at h4
  exact ⟨h4, by have := onesB_le s; omega⟩
def provePairsV (y : YardD) (t : List Pt) (l : List (Int × Int)) (many : Int) : Bool := if (playV y t).2 = 0 then (prB y.chairs.length l).isSome && decide ((makesN (sceneD y t) l : Int) ≥ many) else false
def bergeP (s : Sc) (most : Int) (b : Nat) : Bool := decide (((dif b s.broken : Nat) : Int) = 0) && decide ((boundB s b : Int) = most)
def bergeB (y : YardD) (t : List Pt) : Nat := ((List.range (2 ^ y.chairs.length)).find? (bergeP (sceneD y t) (playV y t).1)).getD 0
/-- What Berge returns. -/
def bergeV (y : YardD) (t : List Pt) : List Int × Int × Int := if (playV y t).2 = 0 then (bitsL (bergeB y t), (playV y t).1, 0) else ([], 0, (playV y t).2)
theorem find_none {p : Nat → Bool} {n : Nat} (h : ∀ j, j < n → p j = false) : (List.range n).find? p = none := by
  rw [List.find?_eq_none]
  intro x hx e
  rw [h x (List.mem_range.1 hx)] at e; cases e
theorem berge_no {y : YardD} {t : List Pt} {D : Data} (h : (playV y t).2 ≠ 0) : ∃ lv, Value.tuple #[.slice none 0 0, .int .i64 0, .int .i64 (playV y t).2] = .tuple #[lv, .int .i64 (bergeV y t).2.1, .int .i64 (bergeV y t).2.2] ∧ Sl D RI 1 lv (bergeV y t).1 := by
  rw [bergeV, if_neg h]; exact ⟨_, rfl, Sl.nil⟩
theorem berge_ret {y : YardD} {t : List Pt} {D : Data} {lv : Value} (h : (playV y t).2 = 0) (hS : Sl D RI 1 lv (bitsL (bergeB y t))) : ∃ lv', Value.tuple #[lv, .int .i64 (playV y t).1, .int .i64 0] = .tuple #[lv', .int .i64 (bergeV y t).2.1, .int .i64 (bergeV y t).2.2] ∧ Sl D RI 1 lv' (bergeV y t).1 := by
  rw [bergeV, if_pos h]; exact ⟨_, rfl, hS⟩
def prfS (n broken : Nat) : Option (Nat × Int) → Int → Option (Nat × Int)
  | some (b, la), i => if (!inB i (la + 1) ((n : Int) - 1) || decide (((broken >>> i.toNat : Nat) : Int) % 2 = 0)) = true then none else some (b ||| 2 ^ i.toNat, i)
  | none, _ => none
def prf (n broken : Nat) (l : List Int) : Option (Nat × Int) := l.foldl (prfS n broken) (some (0, -1))
def proveBergeV (y : YardD) (t : List Pt) (l : List Int) (many : Int) : Bool := if (playV y t).2 = 0 then (match prf y.chairs.length (sceneD y t).broken l with | some (b, _) => decide ((boundB (sceneD y t) b : Int) ≤ many) | none => false) else false
theorem prf_snoc {n br k : Nat} {l : List Int} {i : Int} (h : l[k]? = some i) : prf n br (l.take (k + 1)) = prfS n br (prf n br (l.take k)) i := by
  unfold prf; rw [List.take_add_one, h, Option.toList_some, List.foldl_append]; rfl
theorem prf_none {n br : Nat} : ∀ l : List Int, l.foldl (prfS n br) none = none
  | [] => rfl
  | _ :: l => prf_none l
theorem prB_in2 {n i la : Int} (h : (!inB i la n) = false) : la ≤ i ∧ i ≤ n := by
  simp only [Bool.not_eq_false'] at h; exact inB_iff.1 h
theorem prf_yes {n br b : Nat} {la i : Int} (hn : n ≤ 7) (hb : b < 128) (hl : -1 ≤ la) (h : (!inB i (la + 1) ((n : Int) - 1) || decide (((br >>> i.toNat : Nat) : Int) % 2 = 0)) = false) : ∃ x : Nat, i = x ∧ x < 7 ∧ prfS n br (some (b, la)) (x : Int) = some (b ||| 2 ^ x, (x : Int)) ∧ b ||| 2 ^ x < 128 := by
  have h' := Bool.or_eq_false_iff.1 h
  obtain ⟨h1, h2⟩ := prB_in2 h'.1
  obtain ⟨x, rfl⟩ := Int.eq_ofNat_of_zero_le (show 0 ≤ i by omega)
  refine ⟨x, rfl, by omega, ?_, or_lt7 hb (pow_lt7 (by omega))⟩
  show (if _ then none else _) = _
  rw [if_neg (by rw [h]; simp)]; rfl
theorem prf_no {n br b k : Nat} {l : List Int} {la i : Int} (hp : l[k]? = some i) (h5 : prf n br (l.take k) = some (b, la)) (h : (!inB i (la + 1) ((n : Int) - 1) || decide (((br >>> i.toNat : Nat) : Int) % 2 = 0)) = true) : prf n br l = none := by
  have e : prf n br (l.take (k + 1)) = none := by
    rw [prf_snoc hp, h5]; show (if _ then none else _) = _; rw [if_pos h]
  rw [← List.take_append_drop (k + 1) l]
  unfold prf at e ⊢
  rw [List.foldl_append, e]; exact prf_none _
/-- What Bounds returns. -/
def boundsV (y : YardD) : (Int × Int) × Int := if fault y ≠ 0 then ((0, 0), fault y) else match (scenesD y []).map fun p => (p.2 : Int) with
  | [] => ((0, 0), 11)
  | m :: l => ((m :: l).foldl (fun r n => (min r.1 n, max r.2 n)) (m, m), 0)
theorem bounds_nil {y : YardD} (h : fault y = 0) (hn : scenesD y [] = []) : Value.tuple #[.agg #[.int .i64 0, .int .i64 0], .int .i64 11] = .tuple #[k2V (boundsV y).1, .int .i64 (boundsV y).2] := by
  rw [boundsV, if_neg (by omega), hn]; rfl
theorem bounds_some {y : YardD} {L : List Int} {m0 : Int} (h : fault y = 0) (hL : ((scenesD y []).map fun p => (p.2 : Int)) = L) (hm : L[0]? = some m0) : Value.tuple #[.agg #[.int .i64 (L.foldl (fun r n => (min r.1 n, max r.2 n)) (m0, m0)).1, .int .i64 (L.foldl (fun r n => (min r.1 n, max r.2 n)) (m0, m0)).2], .int .i64 0] = .tuple #[k2V (boundsV y).1, .int .i64 (boundsV y).2] := by
  rw [boundsV, if_neg (by omega), hL]
  cases L with
  | nil => simp at hm
  | cons m l => obtain rfl : m = m0 := by simpa using hm
                rfl
theorem bnd_step {L : List Int} {k : Nat} {n m0 : Int} (h : L[k]? = some n) : (L.take (k + 1)).foldl (fun r n => (min r.1 n, max r.2 n)) (m0, m0) = (min ((L.take k).foldl (fun r n => (min r.1 n, max r.2 n)) (m0, m0)).1 n, max ((L.take k).foldl (fun r n => (min r.1 n, max r.2 n)) (m0, m0)).2 n) := by
  rw [List.take_add_one, h, Option.toList_some, List.foldl_append]; rfl
theorem ProvePairs_ok (yv tv lv : Value) (y : YardD) (t : List Pt) (l : List (Int × Int)) (many : Int) (D : Data) (hy : YardIs D yv y) (ht : Sl D RP 3 tv t) (hl : Sl D R2 2 lv l) : Fn Try.prog 25 #[yv, tv, lv, .int .i64 many] D (fun _ v => v = .bool (provePairsV y t l many)) := by
  have hy0 := hy
  obtain ⟨cv, qv, rfl, hc, hq⟩ := hy
  refine enter 31 Try.func25 rfl rfl rfl rfl fun h0 => ?_
  refine C.seq ?_
  refine C.region [(false,0),(false,1)] rfl ?_
  refine L.boxD rfl rfl rfl rfl trivial (fun q1 E1 hE1 hB1 => ?_)
  refine L.assign rfl rfl rfl trivial ?_
  refine L.nil ?_
  refine C.next ?_
  refine C.seq ?_
  refine C.seq ?_
  refine C.region [(false,0),(false,1),(false,2),(false,3),(false,4),(false,5),(false,6),(false,7)] rfl ?_
  refine L.loadDW rfl Tf.a37 rfl hB1 (by first | simp | assumption) Tf.s37 List.not_mem_nil rfl trivial ?_
  refine L.move rfl rfl rfl trivial ?_
  refine L.callV rfl rfl rfl (fun D1 hD1 => Play_ok _ _ y t _ (hy0.up (hD1 _ (by simp))) (ht.up RP.up (hD1 _ (by simp)))) rfl trivial ?_
  refine L.move rfl rfl rfl trivial ?_
  refine L.extract rfl rfl rfl rfl trivial ?_
  refine L.extract rfl rfl rfl rfl trivial ?_
  refine L.assign rfl rfl rfl trivial ?_
  refine L.assign rfl rfl rfl trivial ?_
  refine L.nil ?_
  refine C.next ?_
  refine C.seq ?_
  refine C.region [(false,0),(false,1)] rfl ?_
  refine L.move rfl rfl rfl trivial ?_
  refine L.neq rfl rfl rfl rfl trivial ?_
  refine L.nil ?_
  refine C.next ?_
  refine C.condD rfl (fun hc1 => ?_) (fun hc1 => ?_)
  · refine C.seq ?_
    refine C.region [(false,0)] rfl ?_
    refine L.assign rfl rfl rfl trivial ?_
    refine L.nil ?_
    refine C.next ?_
    refine C.ret ?_
    refine C.thenRet ?_
    exact leave (vs := [_]) rfl rfl rfl ⟨rfl, trivial⟩ (fun D hD => by show Value.bool _ = _; rw [provePairsV, if_neg hc1])
  · obtain ⟨hf0, hit⟩ := play_ok (show (playV y t).2 = 0 by omega)
    have hyo := yOk hf0
    have hn7 := hyo.len
    obtain ⟨htl, htb⟩ := truthOk hit
    have hsc := scene_ok' htl (by omega)
    have hs9 := scI_len (sceneD y t) hsc.len
    have hbl := bits_lt hsc.bits hn7
    refine C.skip ?_
    refine C.next ?_
    refine C.seq ?_
    refine C.region [(false,0),(false,1),(false,2),(false,3),(false,4),(false,5),(false,6),(false,7),(false,8),(false,9),(false,10),(false,11),(false,12)] rfl ?_
    refine L.loadDW rfl Tf.a37 rfl hB1 (by first | simp | assumption) Tf.s37 List.not_mem_nil rfl trivial ?_
    refine L.move rfl rfl rfl trivial ?_
    refine L.callV rfl rfl rfl (fun D2 hD2 => paired_ok _ _ y l _ (hy0.up (hD2 _ (by simp))) (hl.up R2.up (hD2 _ (by simp))) hn7) rfl trivial ?_
    refine L.move rfl rfl rfl trivial ?_
    refine' L.and [(false,4),(false,5),(false,6),(false,7),(false,8),(false,9),(false,10),(false,11)] [(false,12)] (s := 22) (p := 30) rfl rfl (fun hg1 => ?_) (fun hg1 => ?_) ?_
    rotate_left
    · obtain ⟨hpo, hpl⟩ := prB_ok hn7 hg1
      refine L.loadDW rfl Tf.a37 rfl hB1 (by first | simp | assumption) Tf.s37 List.not_mem_nil rfl ⟨_, rfl, rfl⟩ ?_
      refine L.move rfl rfl rfl ⟨_, rfl, rfl⟩ ?_
      refine L.callV rfl rfl rfl (fun D3 hD3 => scene2_ok _ _ y t _ (hy0.up (hD3 _ (by simp))) (ht.up RP.up (hD3 _ (by simp))) htl (by omega) htb hyo.fit hyo.size) rfl ⟨_, rfl, rfl⟩ ?_
      refine L.move rfl rfl rfl ⟨_, rfl, rfl⟩ ?_
      refine L.callV rfl rfl rfl (fun D4 hD4 => makes_ok (sceneD y t) _ l hsc.row hsc.whole hpo (by omega) _ (hl.up R2.up (hD4 _ (by simp))) hsc.len) rfl ⟨_, rfl, rfl⟩ ?_
      refine L.move rfl rfl rfl ⟨_, rfl, rfl⟩ ?_
      refine L.geq rfl rfl rfl rfl ⟨_, rfl, rfl⟩ ?_
      refine L.pickT rfl rfl rfl rfl trivial ?_
      exact L.nil fun a w hh => hh.cutK 7 rfl
    · refine L.pass rfl rfl rfl ⟨_, _, rfl, rfl, rfl⟩ ?_
      refine L.pass rfl rfl rfl ⟨_, _, rfl, rfl, rfl⟩ ?_
      refine L.pass rfl rfl rfl ⟨_, _, rfl, rfl, rfl⟩ ?_
      refine L.pass rfl rfl rfl ⟨_, _, rfl, rfl, rfl⟩ ?_
      refine L.pass rfl rfl rfl ⟨_, _, rfl, rfl, rfl⟩ ?_
      refine L.pass rfl rfl rfl ⟨_, _, rfl, rfl, rfl⟩ ?_
      refine L.pass rfl rfl rfl ⟨_, _, rfl, rfl, rfl⟩ ?_
      refine L.pickF rfl rfl rfl rfl trivial ?_
      exact L.nil fun a w hh => hh.cutK 7 rfl
    refine L.assign rfl rfl rfl trivial ?_
    refine L.nil ?_
    refine C.next ?_
    refine C.ret ?_
    exact leave (vs := [_]) rfl rfl rfl ⟨rfl, trivial⟩ (fun D hD => by show Value.bool _ = _; rw [provePairsV, if_pos (by omega)])
theorem Berge_ok (yv tv : Value) (y : YardD) (t : List Pt) (D : Data) (hy : YardIs D yv y) (ht : Sl D RP 3 tv t) : Fn Try.prog 34 #[yv, tv] D (fun D' v => ∃ lv, v = .tuple #[lv, .int .i64 (bergeV y t).2.1, .int .i64 (bergeV y t).2.2] ∧ Sl D' RI 1 lv (bergeV y t).1) := by
  have hy0 := hy
  obtain ⟨cv, qv, rfl, hc, hq⟩ := hy
  have hcl := hc.len
  refine enter 47 Try.func34 rfl rfl rfl rfl fun h0 => ?_
  refine C.seq ?_
  refine C.region [(false,0),(false,1),(false,2),(false,3)] rfl ?_
  refine L.boxD rfl rfl rfl rfl trivial (fun q1 E1 hE1 hB1 => ?_)
  refine L.assign rfl rfl rfl trivial ?_
  refine L.assign rfl rfl rfl trivial ?_
  refine L.assign rfl rfl rfl trivial ?_
  refine L.nil ?_
  refine C.next ?_
  refine C.scope ?_
  refine C.seq ?_
  refine C.region [(false,0),(false,1),(false,2),(false,3),(false,4),(false,5),(false,6),(false,7)] rfl ?_
  refine L.loadDW rfl Tf.a37 rfl hB1 (by first | simp | assumption) Tf.s37 List.not_mem_nil rfl trivial ?_
  refine L.move rfl rfl rfl trivial ?_
  refine L.callV rfl rfl rfl (fun D1 hD1 => Play_ok _ _ y t _ (hy0.up (hD1 _ (by simp))) (ht.up RP.up (hD1 _ (by simp)))) rfl trivial ?_
  refine L.move rfl rfl rfl trivial ?_
  refine L.extract rfl rfl rfl rfl trivial ?_
  refine L.extract rfl rfl rfl rfl trivial ?_
  refine L.assign rfl rfl rfl trivial ?_
  refine L.assign rfl rfl rfl trivial ?_
  refine L.nil ?_
  refine C.next ?_
  refine C.seq ?_
  refine C.seq ?_
  refine C.region [(false,0),(false,1)] rfl ?_
  refine L.move rfl rfl rfl trivial ?_
  refine L.neq rfl rfl rfl rfl trivial ?_
  refine L.nil ?_
  refine C.next ?_
  refine C.condD rfl (fun hc1 => ?_) (fun hc1 => ?_)
  · refine C.seq ?_
    refine C.region [(false,0),(false,1),(false,2),(false,3)] rfl ?_
    refine L.move rfl rfl rfl trivial ?_
    refine L.assign rfl rfl rfl trivial ?_
    refine L.assign rfl rfl rfl trivial ?_
    refine L.assign rfl rfl rfl trivial ?_
    refine L.nil ?_
    refine C.next ?_
    refine C.ret ?_
    refine C.thenRet ?_
    refine C.scopeRet ?_
    exact leave (vs := [_, _, _]) rfl rfl rfl ⟨rfl, rfl, rfl, trivial⟩ (fun D hD => berge_no hc1)
  · obtain ⟨hf0, hit⟩ := play_ok (show (playV y t).2 = 0 by omega)
    have hyo := yOk hf0
    have hn7 := hyo.len
    obtain ⟨htl, htb⟩ := truthOk hit
    have hsc := scene_ok' htl (by omega)
    have hs9 := scI_len (sceneD y t) hsc.len
    have hbl := bits_lt hsc.bits hn7
    have hpn : 2 ^ y.chairs.length ≤ 2 ^ 7 := Nat.pow_le_pow_right (by omega) hn7
    refine C.skip ?_
    refine C.next ?_
    refine C.seq ?_
    refine C.region [(false,0),(false,1),(false,2),(false,3),(false,4)] rfl ?_
    refine L.loadDW rfl Tf.a37 rfl hB1 (by first | simp | assumption) Tf.s37 List.not_mem_nil rfl trivial ?_
    refine L.move rfl rfl rfl trivial ?_
    refine L.callV rfl rfl rfl (fun D2 hD2 => scene2_ok _ _ y t _ (hy0.up (hD2 _ (by simp))) (ht.up RP.up (hD2 _ (by simp))) htl (by omega) htb hyo.fit hyo.size) rfl trivial ?_
    refine L.alloc rfl Tf.z126 rfl rfl trivial (fun q2 => ?_)
    refine L.storeW rfl rfl rfl rfl Tf.s126 (by simpa using hs9) (by rfl) .head (ints_cell1 _) trivial ?_
    refine L.nil ?_
    refine C.next ?_
    refine C.seq ?_
    refine C.region [(false,0)] rfl ?_
    refine L.assign rfl rfl rfl trivial ?_
    refine L.nil ?_
    refine C.next ?_
    refine C.seq ?_
    refine C.label ?_
    refine C.next ?_
    refine C.seq ?_
    refine C.seq ?_
    refine C.region [(false,0),(false,1),(false,2),(false,3),(false,4)] rfl ?_
    refine L.fieldAddr rfl Tf.f37_0 rfl rfl trivial ?_
    refine L.loadD1 rfl (k := 0) Tf.a34 rfl hB1 (by first | simp | assumption) rfl List.not_mem_nil rfl trivial ?_
    refine L.len rfl Try.underlying34 rfl hc rfl rfl trivial ?_
    refine L.shl1 rfl rfl rfl (by omega) rfl trivial ?_
    refine L.move rfl rfl rfl trivial ?_
    refine L.nil ?_
    refine C.next ?_
    refine C.block ?_
    refine C.loopC (γ := Nat) (fun k => 2 ^ y.chairs.length - k) (fun k => k ≤ 2 ^ y.chairs.length ∧ ∀ j, j < k → bergeP (sceneD y t) (playV y t).1 j = false) (fun k => [(27, .int .i64 (k : Int))]) [(26, _), (9, _), (8, _), (6, _), (7, _), (5, _), (4, _)] (fun k => [E1, D]) 0 (by simp) ⟨(by first | rfl | (show some (Value.int _ _) = some (Value.int _ _); congr 2; omega)), trivial⟩ ⟨rfl, rfl, rfl, rfl, rfl, rfl, rfl, trivial⟩ (ds_same) ?_
    rintro k ⟨h1, h2⟩
    refine C.seq ?_
    refine C.region [(false,0)] rfl ?_
    refine L.lss rfl rfl rfl rfl trivial ?_
    refine L.nil ?_
    refine C.next ?_
    refine C.seq ?_
    refine C.condD rfl (fun hc2 => ?_) (fun hc2 => ?_)
    · have hk : k < 2 ^ y.chairs.length := by omega
      have hpr7 : k < 128 := by omega
      refine C.skip ?_
      refine C.next ?_
      refine C.seq ?_
      refine C.block ?_
      refine C.seq ?_
      refine C.region [(false,0),(false,1)] rfl ?_
      refine L.move rfl rfl rfl trivial ?_
      refine L.assign rfl rfl rfl trivial ?_
      refine L.nil ?_
      refine C.next ?_
      refine C.seq ?_
      refine C.region [(false,0),(false,1),(false,2),(false,3),(false,4),(false,5),(false,6),(false,7),(false,8),(false,9),(false,10),(false,11)] rfl ?_
      refine L.move rfl rfl rfl trivial ?_
      refine L.fieldAddr rfl Tf.f126_1 rfl rfl trivial ?_
      refine L.loadB1 rfl Tf.a3 rfl (List.Mem.head _) rfl List.not_mem_nil rfl trivial ?_
      refine L.difN rfl rfl rfl (by omega) (by omega) rfl trivial ?_
      refine L.eql rfl rfl rfl rfl trivial ?_
      refine L.move rfl rfl rfl trivial ?_
      refine' L.and [(false,6),(false,7),(false,8),(false,9),(false,10),(false,11)] [] (s := 35) (p := 41) rfl rfl (fun hg1 => ?_) (fun hg1 => ?_) ?_
      rotate_left
      · refine L.loadBW (vs := ints (scI (sceneD y t))) rfl Tf.a126 rfl (List.Mem.head _) (by rw [show (ints (scI (sceneD y t))).length = 9 by simpa using hs9]; exact Tf.s126) List.not_mem_nil rfl ⟨_, rfl, rfl⟩ ?_
        refine L.move rfl rfl rfl ⟨_, rfl, rfl⟩ ?_
        refine L.callV rfl rfl rfl (fun D3 hD3 => bound_ok (sceneD y t) k hsc.row hsc.whole hbl hpr7 _ hsc.len) rfl ⟨_, rfl, rfl⟩ ?_
        refine L.move rfl rfl rfl ⟨_, rfl, rfl⟩ ?_
        refine L.eql rfl rfl rfl rfl ⟨_, rfl, rfl⟩ ?_
        refine L.pickT rfl rfl rfl rfl trivial ?_
        exact L.nil fun a w hh => hh.cutK 5 rfl
      · refine L.pass rfl rfl rfl ⟨_, _, rfl, rfl, rfl⟩ ?_
        refine L.pass rfl rfl rfl ⟨_, _, rfl, rfl, rfl⟩ ?_
        refine L.pass rfl rfl rfl ⟨_, _, rfl, rfl, rfl⟩ ?_
        refine L.pass rfl rfl rfl ⟨_, _, rfl, rfl, rfl⟩ ?_
        refine L.pass rfl rfl rfl ⟨_, _, rfl, rfl, rfl⟩ ?_
        refine L.pickF rfl rfl rfl rfl trivial ?_
        exact L.nil fun a w hh => hh.cutK 5 rfl
      refine L.nil ?_
      refine C.next ?_
      refine C.cond rfl (fun hc3 => ?_) (fun hc3 => ?_)
      · have hfd := find_range hk hc3 h2
        have hfl := hpr7
        refine C.seq ?_
        refine C.region [(false,0),(false,1)] rfl ?_
        refine L.move rfl rfl rfl trivial ?_
        refine L.assign rfl rfl rfl trivial ?_
        refine L.nil ?_
        refine C.next ?_
        refine C.exit ?_
        refine C.blockPass rfl ?_
        refine C.thenExit ?_
        refine C.thenExit ?_
        refine C.blockExit ?_
        refine C.next ?_
        refine C.seq ?_
        refine C.region [(false,0),(false,1),(false,2),(false,3),(false,4),(false,5)] rfl ?_
        refine L.move rfl rfl rfl trivial ?_
        refine L.call rfl rfl rfl (fun D4 hD4 => chairs_ok _ D4 hfl) rfl trivial (fun v4 D4 hD4 hp4 => ?_)
        have hpS := hp4
        refine L.move rfl rfl rfl trivial ?_
        refine L.assign rfl rfl rfl trivial ?_
        refine L.assign rfl rfl rfl trivial ?_
        refine L.assign rfl rfl rfl trivial ?_
        refine L.nil ?_
        refine C.next ?_
        refine C.ret ?_
        refine C.scopeRet ?_
        exact leave (vs := [_, _, _]) rfl rfl rfl ⟨rfl, rfl, rfl, trivial⟩ (fun D hD => berge_ret (by omega) (by rw [bergeB, hfd]; exact hpS.up RI.up (hD _ (by simp))))
      · refine C.skip ?_
        refine C.blockEnd ?_
        refine C.next ?_
        refine C.region [(false,0),(false,1)] rfl ?_
        refine L.add rfl rfl rfl (by simp only [inK]; omega) rfl trivial ?_
        refine L.move rfl rfl rfl trivial ?_
        refine L.nil ?_
        exact C.againR 13 (k + 1) ⟨by omega, fun j hj => by rcases Nat.lt_succ_iff_lt_or_eq.1 hj with h | rfl; exact h2 j h; exact hc3⟩ (by omega) ⟨(by first | rfl | (show some (Value.int _ _) = some (Value.int _ _); congr 2; omega)), trivial⟩ rfl rfl (List.Sublist.refl _) (ds_same)
    · obtain rfl : k = 2 ^ y.chairs.length := by omega
      have hfd := find_none h2
      have hfl : 0 < 128 := by omega
      refine C.exit ?_
      refine C.thenExit ?_
      refine C.thenExit ?_
      refine C.blockExit ?_
      refine C.next ?_
      refine C.seq ?_
      refine C.region [(false,0),(false,1),(false,2),(false,3),(false,4),(false,5)] rfl ?_
      refine L.move rfl rfl rfl trivial ?_
      refine L.call rfl rfl rfl (fun D5 hD5 => chairs_ok _ D5 hfl) rfl trivial (fun v5 D5 hD5 hp5 => ?_)
      have hpS := hp5
      refine L.move rfl rfl rfl trivial ?_
      refine L.assign rfl rfl rfl trivial ?_
      refine L.assign rfl rfl rfl trivial ?_
      refine L.assign rfl rfl rfl trivial ?_
      refine L.nil ?_
      refine C.next ?_
      refine C.ret ?_
      refine C.scopeRet ?_
      exact leave (vs := [_, _, _]) rfl rfl rfl ⟨rfl, rfl, rfl, trivial⟩ (fun D hD => berge_ret (by omega) (by rw [bergeB, hfd]; exact hpS.up RI.up (hD _ (by simp))))
theorem ProveBerge_ok (yv tv lv : Value) (y : YardD) (t : List Pt) (l : List Int) (many : Int) (D : Data) (hy : YardIs D yv y) (ht : Sl D RP 3 tv t) (hl : Sl D RI 1 lv l) : Fn Try.prog 35 #[yv, tv, lv, .int .i64 many] D (fun _ v => v = .bool (proveBergeV y t l many)) := by
  have hy0 := hy
  obtain ⟨cv, qv, rfl, hc, hq⟩ := hy
  have hcl := hc.len
  have hll := hl.len
  refine enter 61 Try.func35 rfl rfl rfl rfl fun h0 => ?_
  refine C.seq ?_
  refine C.region [(false,0),(false,1)] rfl ?_
  refine L.boxD rfl rfl rfl rfl trivial (fun q1 E1 hE1 hB1 => ?_)
  refine L.assign rfl rfl rfl trivial ?_
  refine L.nil ?_
  refine C.next ?_
  refine C.seq ?_
  refine C.seq ?_
  refine C.region [(false,0),(false,1),(false,2),(false,3),(false,4),(false,5),(false,6),(false,7)] rfl ?_
  refine L.loadDW rfl Tf.a37 rfl hB1 (by first | simp | assumption) Tf.s37 List.not_mem_nil rfl trivial ?_
  refine L.move rfl rfl rfl trivial ?_
  refine L.callV rfl rfl rfl (fun D1 hD1 => Play_ok _ _ y t _ (hy0.up (hD1 _ (by simp))) (ht.up RP.up (hD1 _ (by simp)))) rfl trivial ?_
  refine L.move rfl rfl rfl trivial ?_
  refine L.extract rfl rfl rfl rfl trivial ?_
  refine L.extract rfl rfl rfl rfl trivial ?_
  refine L.assign rfl rfl rfl trivial ?_
  refine L.assign rfl rfl rfl trivial ?_
  refine L.nil ?_
  refine C.next ?_
  refine C.seq ?_
  refine C.region [(false,0),(false,1)] rfl ?_
  refine L.move rfl rfl rfl trivial ?_
  refine L.neq rfl rfl rfl rfl trivial ?_
  refine L.nil ?_
  refine C.next ?_
  refine C.condD rfl (fun hc1 => ?_) (fun hc1 => ?_)
  · refine C.seq ?_
    refine C.region [(false,0)] rfl ?_
    refine L.assign rfl rfl rfl trivial ?_
    refine L.nil ?_
    refine C.next ?_
    refine C.ret ?_
    refine C.thenRet ?_
    exact leave (vs := [_]) rfl rfl rfl ⟨rfl, trivial⟩ (fun D hD => by show Value.bool _ = _; rw [proveBergeV, if_neg hc1])
  · obtain ⟨hf0, hit⟩ := play_ok (show (playV y t).2 = 0 by omega)
    have hyo := yOk hf0
    have hn7 := hyo.len
    obtain ⟨htl, htb⟩ := truthOk hit
    have hsc := scene_ok' htl (by omega)
    have hs9 := scI_len (sceneD y t) hsc.len
    have hbl := bits_lt hsc.bits hn7
    refine C.skip ?_
    refine C.next ?_
    refine C.seq ?_
    refine C.region [(false,0),(false,1),(false,2),(false,3),(false,4)] rfl ?_
    refine L.loadDW rfl Tf.a37 rfl hB1 (by first | simp | assumption) Tf.s37 List.not_mem_nil rfl trivial ?_
    refine L.move rfl rfl rfl trivial ?_
    refine L.callV rfl rfl rfl (fun D2 hD2 => scene2_ok _ _ y t _ (hy0.up (hD2 _ (by simp))) (ht.up RP.up (hD2 _ (by simp))) htl (by omega) htb hyo.fit hyo.size) rfl trivial ?_
    refine L.alloc rfl Tf.z126 rfl rfl trivial (fun q2 => ?_)
    refine L.storeW rfl rfl rfl rfl Tf.s126 (by simpa using hs9) (by rfl) .head (ints_cell1 _) trivial ?_
    refine L.nil ?_
    refine C.next ?_
    refine C.seq ?_
    refine C.region [(false,0),(false,1)] rfl ?_
    refine L.assign rfl rfl rfl trivial ?_
    refine L.assign rfl rfl rfl trivial ?_
    refine L.nil ?_
    refine C.next ?_
    refine C.seq ?_
    refine C.seq ?_
    refine C.region [(false,0),(false,1),(false,2)] rfl ?_
    refine L.move rfl rfl rfl trivial ?_
    refine L.len rfl Try.underlying52 rfl hl rfl rfl trivial ?_
    refine L.move rfl rfl rfl trivial ?_
    refine L.nil ?_
    refine C.next ?_
    refine C.block ?_
    refine C.loopC (γ := Nat × Nat × Int) (fun g => l.length - g.1) (fun g => g.1 ≤ l.length ∧ g.2.1 < 128 ∧ -1 ≤ g.2.2 ∧ g.2.2 ≤ 7 ∧ prf y.chairs.length (sceneD y t).broken (l.take g.1) = some g.2) (fun g => [(29, .int .i64 (g.1 : Int)), (12, .int .i64 (g.2.1 : Int)), (13, .int .i64 g.2.2)]) [(28, _), (27, _), (11, _), (8, _), (4, _), (3, _)] (fun g => [E1, D]) (0, 0, -1) ⟨by simp, by simp, by simp, by simp, rfl⟩ ⟨(by first | rfl | (show some (Value.int _ _) = some (Value.int _ _); congr 2; omega)), (by first | rfl | (show some (Value.int _ _) = some (Value.int _ _); congr 2; omega)), (by first | rfl | (show some (Value.int _ _) = some (Value.int _ _); congr 2; omega)), trivial⟩ ⟨rfl, rfl, rfl, rfl, rfl, rfl, trivial⟩ (ds_same) ?_
    rintro ⟨k, bt, la⟩ ⟨h1, hpr7, h3, h4, h5⟩
    simp only at h1 hpr7 h3 h4 h5
    refine C.seq ?_
    refine C.region [(false,0)] rfl ?_
    refine L.lss rfl rfl rfl rfl trivial ?_
    refine L.nil ?_
    refine C.next ?_
    refine C.seq ?_
    refine C.condD rfl (fun hc2 => ?_) (fun hc2 => ?_)
    · have hk : k < l.length := by omega
      obtain ⟨i, hi0⟩ : ∃ i, l[k]? = some i := ⟨_, List.getElem?_eq_getElem hk⟩
      refine C.skip ?_
      refine C.next ?_
      refine C.seq ?_
      refine C.block ?_
      refine C.seq ?_
      refine C.region [(false,0),(false,1),(false,2)] rfl ?_
      refine L.indexS rfl Try.underlying52 Tf.s3 rfl hl rfl (by omega) hi0 rfl trivial (fun b1 o1 cs1 hr1 hcl1 hA1 => ?_)
      obtain rfl : cs1 = [.int .i64 _] := hr1
      refine L.loadD1 rfl (k := 0) Tf.a3 rfl hA1 (by first | simp | assumption) rfl List.not_mem_nil rfl trivial ?_
      refine L.assign rfl rfl rfl trivial ?_
      refine L.nil ?_
      refine C.next ?_
      refine C.seq ?_
      refine C.seq ?_
      refine C.region [(false,0),(false,1),(false,2),(false,3),(false,4),(false,5),(false,6),(false,7),(false,8),(false,9),(false,10),(false,11),(false,12),(false,13),(false,14),(false,15),(false,16)] rfl ?_
      refine L.move rfl rfl rfl trivial ?_
      refine L.move rfl rfl rfl trivial ?_
      refine L.add rfl rfl rfl (by simp only [inK]; omega) rfl trivial ?_
      refine L.fieldAddr rfl Tf.f37_0 rfl rfl trivial ?_
      refine L.loadD1 rfl (k := 0) Tf.a34 rfl hB1 (by first | simp | assumption) rfl List.not_mem_nil rfl trivial ?_
      refine L.len rfl Try.underlying34 rfl hc rfl rfl trivial ?_
      refine L.sub rfl rfl rfl (by simp only [inK]; omega) rfl trivial ?_
      refine L.callV rfl rfl rfl (fun D3 hD3 => within_ok _ _ _ _) rfl trivial ?_
      refine L.not rfl rfl rfl trivial ?_
      refine L.move rfl rfl rfl trivial ?_
      refine' L.or [(false,10),(false,11),(false,12),(false,13),(false,14),(false,15),(false,16)] [] (s := 42) (p := 49) rfl rfl (fun hg1 => ?_) (fun hg1 => ?_) ?_
      rotate_left
      · have hin := prB_in2 hg1
        simp only at hin
        refine L.fieldAddr rfl Tf.f126_1 rfl rfl ⟨_, rfl, rfl⟩ ?_
        refine L.loadB1 rfl Tf.a3 rfl (List.Mem.head _) rfl List.not_mem_nil rfl ⟨_, rfl, rfl⟩ ?_
        refine L.move rfl rfl rfl ⟨_, rfl, rfl⟩ ?_
        refine L.shrN (m := (sceneD y t).broken) (n := i.toNat) rfl rfl (by show some (Value.int _ _) = some (Value.int _ _); congr 2; omega) (by omega) rfl ⟨_, rfl, rfl⟩ ?_
        refine L.rem rfl rfl rfl (Int.natCast_nonneg _) (by omega) (by simp only [inK]; omega) rfl ⟨_, rfl, rfl⟩ ?_
        refine L.eql rfl rfl rfl rfl ⟨_, rfl, rfl⟩ ?_
        refine L.pickF rfl rfl rfl rfl trivial ?_
        exact L.nil fun a w hh => hh.cutK 6 rfl
      · refine L.pass rfl rfl rfl ⟨_, _, rfl, rfl, rfl⟩ ?_
        refine L.pass rfl rfl rfl ⟨_, _, rfl, rfl, rfl⟩ ?_
        refine L.pass rfl rfl rfl ⟨_, _, rfl, rfl, rfl⟩ ?_
        refine L.pass rfl rfl rfl ⟨_, _, rfl, rfl, rfl⟩ ?_
        refine L.pass rfl rfl rfl ⟨_, _, rfl, rfl, rfl⟩ ?_
        refine L.pass rfl rfl rfl ⟨_, _, rfl, rfl, rfl⟩ ?_
        refine L.pickT rfl rfl rfl rfl trivial ?_
        exact L.nil fun a w hh => hh.cutK 6 rfl
      refine L.nil ?_
      refine C.next ?_
      refine C.cond rfl (fun hc3 => ?_) (fun hc3 => ?_)
      · refine C.seq ?_
        refine C.region [(false,0)] rfl ?_
        refine L.assign rfl rfl rfl trivial ?_
        refine L.nil ?_
        refine C.next ?_
        refine C.ret ?_
        refine C.thenRet ?_
        refine C.blockRet ?_
        refine C.thenRet ?_
        refine C.thenRet ?_
        refine C.blockRet ?_
        refine C.thenRet ?_
        exact leave (vs := [_]) rfl rfl rfl ⟨rfl, trivial⟩ (fun D hD => by show Value.bool _ = _; rw [proveBergeV, if_pos (by omega), prf_no hi0 h5 hc3])
      · obtain ⟨x, rfl, hx7, hst, hor⟩ := prf_yes hn7 hpr7 h3 hc3
        have hxp := pow_lt7 hx7
        refine C.skip ?_
        refine C.next ?_
        refine C.seq ?_
        refine C.region [(false,0),(false,1),(false,2),(false,3),(false,4)] rfl ?_
        refine L.move rfl rfl rfl trivial ?_
        refine L.move rfl rfl rfl trivial ?_
        refine L.shl1 rfl rfl rfl (by omega) rfl trivial ?_
        refine L.orB rfl rfl rfl (by first | omega | (simp only; omega)) (by first | omega | (simp only; omega)) rfl trivial ?_
        refine L.assign rfl rfl rfl trivial ?_
        refine L.nil ?_
        refine C.next ?_
        refine C.region [(false,0),(false,1)] rfl ?_
        refine L.move rfl rfl rfl trivial ?_
        refine L.assign rfl rfl rfl trivial ?_
        refine L.nil ?_
        refine C.blockEnd ?_
        refine C.next ?_
        refine C.region [(false,0),(false,1)] rfl ?_
        refine L.add rfl rfl rfl (by simp only [inK]; omega) rfl trivial ?_
        refine L.move rfl rfl rfl trivial ?_
        refine L.nil ?_
        exact C.againR 27 (k + 1, bt ||| 2 ^ x, (x : Int)) ⟨by simp only; omega, hor, by simp only; omega, by simp only; omega, by simp only; rw [prf_snoc hi0, h5]; exact hst⟩ (by simp only; omega) ⟨(by first | rfl | (show some (Value.int _ _) = some (Value.int _ _); congr 2; omega)), (by first | rfl | (show some (Value.int _ _) = some (Value.int _ _); congr 2; omega)), (by first | rfl | (show some (Value.int _ _) = some (Value.int _ _); congr 2; omega)), trivial⟩ rfl rfl (List.Sublist.refl _) (ds_same)
    · obtain rfl : k = l.length := by omega
      rw [List.take_length] at h5
      refine C.exit ?_
      refine C.thenExit ?_
      refine C.thenExit ?_
      refine C.blockExit ?_
      refine C.next ?_
      refine C.seq ?_
      refine C.region [(false,0),(false,1),(false,2),(false,3),(false,4),(false,5)] rfl ?_
      refine L.loadBW (vs := ints (scI (sceneD y t))) rfl Tf.a126 rfl (List.Mem.head _) (by rw [show (ints (scI (sceneD y t))).length = 9 by simpa using hs9]; exact Tf.s126) List.not_mem_nil rfl trivial ?_
      refine L.move rfl rfl rfl trivial ?_
      refine L.callV rfl rfl rfl (fun D4 hD4 => bound_ok (sceneD y t) bt hsc.row hsc.whole hbl hpr7 _ hsc.len) rfl trivial ?_
      refine L.move rfl rfl rfl trivial ?_
      refine L.leq rfl rfl rfl rfl trivial ?_
      refine L.assign rfl rfl rfl trivial ?_
      refine L.nil ?_
      refine C.next ?_
      refine C.ret ?_
      exact leave (vs := [_]) rfl rfl rfl ⟨rfl, trivial⟩ (fun D hD => by show Value.bool _ = _; rw [proveBergeV, if_pos (by omega), h5])
theorem Bounds_ok (yv : Value) (y : YardD) (D : Data) (hy : YardIs D yv y) : Fn Try.prog 39 #[yv] D (fun _ v => v = .tuple #[k2V (boundsV y).1, .int .i64 (boundsV y).2]) := by
  have hy0 := hy
  obtain ⟨cv, qv, rfl, hc, hq⟩ := hy
  refine enter 48 Try.func39 rfl rfl rfl rfl fun h0 => ?_
  refine C.seq ?_
  refine C.region [(false,0),(false,1),(false,2)] rfl ?_
  refine L.boxD rfl rfl rfl rfl trivial (fun q1 E1 hE1 hB1 => ?_)
  refine L.alloc rfl Tf.z61 rfl rfl trivial (fun q2 => ?_)
  refine L.assign rfl rfl rfl trivial ?_
  refine L.nil ?_
  refine C.next ?_
  refine C.seq ?_
  refine C.seq ?_
  refine C.region [(false,0),(false,1),(false,2)] rfl ?_
  refine L.loadDW rfl Tf.a37 rfl hB1 (by first | simp | assumption) Tf.s37 List.not_mem_nil rfl trivial ?_
  refine L.callV rfl rfl rfl (fun D1 hD1 => CheckYard_ok _ y _ (hy0.up (hD1 _ (by simp)))) rfl trivial ?_
  refine L.assign rfl rfl rfl trivial ?_
  refine L.nil ?_
  refine C.next ?_
  refine C.seq ?_
  refine C.region [(false,0),(false,1)] rfl ?_
  refine L.move rfl rfl rfl trivial ?_
  refine L.neq rfl rfl rfl rfl trivial ?_
  refine L.nil ?_
  refine C.next ?_
  refine C.condD rfl (fun hc1 => ?_) (fun hc1 => ?_)
  · refine C.seq ?_
    refine C.region [(false,0),(false,1),(false,2),(false,3)] rfl ?_
    refine L.build (cs := [.int .i64 0, .int .i64 0]) rfl Tf.p61 Tf.z61 rfl rfl rfl trivial ?_
    refine L.move rfl rfl rfl trivial ?_
    refine L.storeW rfl rfl rfl rfl Tf.s61 (by first | rfl | (simp only [ints_length, *]; done) | (simp only [ints_length, *]; rfl) | (simp only [ints_length, *]; omega)) (by first | rfl | (simp only [ints_length, *]; done) | (simp only [ints_length, *]; rfl) | (simp only [ints_length, *]; omega)) (Has.head) (by first | exact ints_cell1 _ | simp [cell1]) trivial ?_
    refine L.assign rfl rfl rfl trivial ?_
    refine L.nil ?_
    refine C.next ?_
    refine C.ret ?_
    refine C.thenRet ?_
    exact leave (vs := [_, _]) rfl rfl rfl ⟨⟨_, _, _, rfl, (List.Mem.head _), Or.inr ⟨Tf.a61, (by first | exact Tf.s61 | (simp only [List.size_toArray, ints_length, *]; exact Tf.s61)), rfl⟩⟩, rfl, trivial⟩ (fun D hD => by show Value.tuple _ = _; rw [boundsV, if_pos hc1]; rfl)
  · have hf0 : fault y = 0 := by omega
    have hyo := yOk hf0
    have hn7 := hyo.len
    refine C.skip ?_
    refine C.next ?_
    refine C.seq ?_
    refine C.region [(false,0),(false,1),(false,2),(false,3),(false,4),(false,5),(false,6),(false,7)] rfl ?_
    refine L.loadDW rfl Tf.a37 rfl hB1 (by first | simp | assumption) Tf.s37 List.not_mem_nil rfl trivial ?_
    refine L.callO (μ := _) rfl rfl rfl (fun D5 hD5 => work_ok _ y _ _ D5 rfl) rfl trivial (fun v5 D6 _ hD6 hp5 => ?_)
    obtain ⟨wb, mb, rfl, rfl⟩ := hp5
    refine L.boxesEq ([] ++ [(_, _), (_, _)] ++ ([(_, _)])) rfl ?_
    refine L.callM (A := []) (ν := [(_, _), (_, _)]) (B := [(_, _)]) rfl rfl rfl rfl (Or.inl rfl) (unf_w (cs := [_, _, _, _])) (fun D7 hD7 => scenes_ok wb mb _ _ y [] _ (by omega) hyo.fit hyo.size #[] 0 [] _ (hc.up RCh.up (hD7 _ (by simp))) (hq.up R2.up (hD7 _ (by simp))) Sl.nil rfl MOk.nil) rfl trivial (fun v7 D8 _ hD8 hp7 => ?_)
    obtain ⟨sv, mv, rfl, hsv, hmv, es1, cl1, M1, rfl, hM1, hok1⟩ := hp7
    refine L.move rfl rfl rfl trivial ?_
    refine L.extract rfl rfl rfl rfl trivial ?_
    refine L.extract rfl rfl rfl rfl trivial ?_
    refine L.assign rfl rfl rfl trivial ?_
    refine L.assign rfl rfl rfl trivial ?_
    refine L.nil ?_
    refine C.next ?_
    refine C.seq ?_
    refine C.seq ?_
    refine C.region [(false,0),(false,1),(false,2)] rfl ?_
    refine L.move rfl rfl rfl trivial ?_
    refine L.len rfl Try.underlying52 rfl hmv rfl rfl trivial ?_
    refine L.eql rfl rfl rfl rfl trivial ?_
    refine L.nil ?_
    refine C.next ?_
    refine C.condD rfl (fun hc2 => ?_) (fun hc2 => ?_)
    · have hnil : scenesD y [] = [] := by simpa using hc2
      refine C.seq ?_
      refine C.region [(false,0),(false,1),(false,2)] rfl ?_
      refine L.build (cs := [.int .i64 0, .int .i64 0]) rfl Tf.p61 Tf.z61 rfl rfl rfl trivial ?_
      refine L.storeW rfl rfl rfl rfl Tf.s61 (by first | rfl | (simp only [ints_length, *]; done) | (simp only [ints_length, *]; rfl) | (simp only [ints_length, *]; omega)) (by first | rfl | (simp only [ints_length, *]; done) | (simp only [ints_length, *]; rfl) | (simp only [ints_length, *]; omega)) (.tail (.tail (Has.head))) (by first | exact ints_cell1 _ | simp [cell1]) trivial ?_
      refine L.assign rfl rfl rfl trivial ?_
      refine L.nil ?_
      refine C.next ?_
      refine C.ret ?_
      refine C.thenRet ?_
      exact leave (vs := [_, _]) rfl rfl rfl ⟨⟨_, _, _, rfl, (List.Mem.tail _ (List.Mem.tail _ (List.Mem.head _))), Or.inr ⟨Tf.a61, (by first | exact Tf.s61 | (simp only [List.size_toArray, ints_length, *]; exact Tf.s61)), rfl⟩⟩, rfl, trivial⟩ (fun D hD => bounds_nil hf0 hnil)
    · generalize hL : ((scenesD y []).map fun p => (p.2 : Int)) = ms at hmv hc2 ⊢
      have hml := hmv.len
      have hne : ms ≠ [] := fun e => hc2 (by rw [e]; rfl)
      obtain ⟨m0, hm0⟩ : ∃ m, ms[0]? = some m := ⟨ms[0]'(List.length_pos_iff.2 hne), List.getElem?_eq_getElem _⟩
      refine C.skip ?_
      refine C.next ?_
      refine C.seq ?_
      refine C.drawS [] 3 [false,false,false,true,true,true,false,true,true,true,false,false] [.fork [0,1,2,3,4,5,6,7] 8 (.fin [9]) 9 (.fin [8]), .fin [10,11]] Tf.follows (fun _ _ _ h => np_body (P := Try.prog) (fn := Try.f39) _ _ _ h) (by kernel_rfl) ?_
      refine S.cons ?_
      refine L.planFork [(false,0),(false,1),(false,2),(true,3),(true,4),(true,5),(false,6),(true,7)] rfl ?_
      refine L.move rfl rfl rfl trivial ?_
      refine L.indexS rfl Try.underlying52 Tf.s3 rfl hmv rfl (by omega) hm0 rfl trivial (fun b1 o1 cs1 hr1 hcl1 hA1 => ?_)
      obtain rfl : cs1 = [.int .i64 _] := hr1
      refine L.loadD1 rfl (k := 0) Tf.a3 rfl hA1 (by first | simp | assumption) rfl List.not_mem_nil rfl trivial ?_
      refine L.move rfl rfl rfl trivial ?_
      refine L.indexS rfl Try.underlying52 Tf.s3 rfl hmv rfl (by omega) hm0 rfl trivial (fun b2 o2 cs2 hr2 hcl2 hA2 => ?_)
      obtain rfl : cs2 = [.int .i64 _] := hr2
      refine L.loadD1 rfl (k := 0) Tf.a3 rfl hA2 (by first | simp | assumption) rfl List.not_mem_nil rfl trivial ?_
      refine L.build (cs := [.int .i64 m0, .int .i64 m0]) rfl Tf.p61 Tf.z61 rfl rfl rfl trivial ?_
      refine L.build (cs := [.func (.func 87) #[] #[]]) rfl Tf.p141 Tf.z141 rfl rfl rfl trivial ?_
      refine L.nil (L.forkP true true rfl rfl ?_ ?_)
      · refine L.alloc rfl Tf.z61 rfl rfl trivial (fun q3 => ?_)
        refine L.nil ?_
        refine L.planFin [(true,9)] rfl ?_
        refine L.alloc rfl Tf.z141 rfl rfl trivial (fun q4 => ?_)
        refine L.nil ?_
        refine S.fin [(false,10),(false,11)] rfl ?_
        refine L.storeW rfl rfl rfl rfl Tf.s61 (by first | rfl | (simp only [ints_length, *]; done) | (simp only [ints_length, *]; rfl) | (simp only [ints_length, *]; omega)) (by first | rfl | (simp only [ints_length, *]; done) | (simp only [ints_length, *]; rfl) | (simp only [ints_length, *]; omega)) (.tail (Has.head)) (by first | exact ints_cell1 _ | simp [cell1]) trivial ?_
        refine L.storeW rfl rfl rfl rfl Tf.s141 (by first | rfl | (simp only [ints_length, *]; done) | (simp only [ints_length, *]; rfl) | (simp only [ints_length, *]; omega)) (by first | rfl | (simp only [ints_length, *]; done) | (simp only [ints_length, *]; rfl) | (simp only [ints_length, *]; omega)) (Has.head) (by first | exact ints_cell1 _ | simp [cell1]) trivial ?_
        refine L.nil ?_
        refine S.nil ?_
        refine C.next ?_
        refine C.seq ?_
        refine C.seq ?_
        refine C.region [(false,0),(false,1),(false,2)] rfl ?_
        refine L.move rfl rfl rfl trivial ?_
        refine L.len rfl Try.underlying52 rfl hmv rfl rfl trivial ?_
        refine L.move rfl rfl rfl trivial ?_
        refine L.nil ?_
        refine C.next ?_
        refine C.block ?_
        refine C.loopR (γ := Nat) (fun k => ms.length - k) (fun k => k ≤ ms.length) (fun k => [(37, .int .i64 (k : Int))]) [(36, _), (35, _), (8, _), (7, _), (3, _), (2, _)] (fun k => (q4, .cells [.func (.func 87) #[] #[]].toArray 141 (0, 0)) :: (q3, .cells [.int .i64 (List.foldl (fun r n => (min r.1 n, max r.2 n)) (m0, m0) (ms.take k)).1, .int .i64 (List.foldl (fun r n => (min r.1 n, max r.2 n)) (m0, m0) (ms.take k)).2].toArray 61 (0, 0)) :: (wb, .cells [cv, .int .i64 y.fit, qv, .map (some mb)].toArray 148 (0, 0)) :: (mb, .map es1 cl1) :: [(q2, .cells [.int .i64 0, .int .i64 0].toArray 61 (0, 0))]) (fun k => [D8, D6, E1, D]) 0 (by omega) ⟨(by first | rfl | (show some (Value.int _ _) = some (Value.int _ _); congr 2; omega)), trivial⟩ ⟨rfl, rfl, rfl, rfl, rfl, rfl, trivial⟩ (List.Sublist.refl _) (ds_same) ?_
        rintro k h1
        refine C.seq ?_
        refine C.region [(false,0)] rfl ?_
        refine L.lss rfl rfl rfl rfl trivial ?_
        refine L.nil ?_
        refine C.next ?_
        refine C.seq ?_
        refine C.condD rfl (fun hc3 => ?_) (fun hc3 => ?_)
        · have hk : k < ms.length := by omega
          obtain ⟨n, hn0⟩ : ∃ n, ms[k]? = some n := ⟨_, List.getElem?_eq_getElem hk⟩
          have hst := bnd_step (m0 := m0) hn0
          refine C.skip ?_
          refine C.next ?_
          refine C.seq ?_
          refine C.block ?_
          refine C.seq ?_
          refine C.region [(false,0),(false,1),(false,2)] rfl ?_
          refine L.indexS rfl Try.underlying52 Tf.s3 rfl hmv rfl (by omega) hn0 rfl trivial (fun b3 o3 cs3 hr3 hcl3 hA3 => ?_)
          obtain rfl : cs3 = [.int .i64 _] := hr3
          refine L.loadD1 rfl (k := 0) Tf.a3 rfl hA3 (by first | simp | assumption) rfl List.not_mem_nil rfl trivial ?_
          refine L.assign rfl rfl rfl trivial ?_
          refine L.nil ?_
          refine C.next ?_
          refine C.region [(false,0),(false,1),(false,2),(false,3),(false,4),(false,5)] rfl ?_
          refine L.fieldAddr rfl Tf.f141_0 rfl rfl trivial ?_
          refine L.loadB1 rfl Tf.a138 rfl (List.Mem.head _) rfl List.not_mem_nil rfl trivial ?_
          refine L.loadBW rfl Tf.a61 rfl (List.Mem.tail _ (List.Mem.head _)) Tf.s61 List.not_mem_nil rfl trivial ?_
          refine L.move rfl rfl rfl trivial ?_
          refine L.callV rfl rfl rfl (fun D2 hD2 => wider_ok (List.foldl (fun r n => (min r.1 n, max r.2 n)) (m0, m0) (ms.take k)) n _) rfl trivial ?_
          refine L.storeW rfl rfl rfl rfl Tf.s61 (by first | rfl | (simp only [ints_length, *]; done) | (simp only [ints_length, *]; rfl) | (simp only [ints_length, *]; omega)) (by first | rfl | (simp only [ints_length, *]; done) | (simp only [ints_length, *]; rfl) | (simp only [ints_length, *]; omega)) (.tail (Has.head)) (by first | exact ints_cell1 _ | simp [cell1]) trivial ?_
          refine L.nil ?_
          refine C.blockEnd ?_
          refine C.next ?_
          refine C.region [(false,0),(false,1)] rfl ?_
          refine L.add rfl rfl rfl (by simp only [inK]; omega) rfl trivial ?_
          refine L.move rfl rfl rfl trivial ?_
          refine L.nil ?_
          rw [← hst]
          exact C.againR 12 (k + 1) (by omega) (by omega) ⟨(by first | rfl | (show some (Value.int _ _) = some (Value.int _ _); congr 2; omega)), trivial⟩ rfl rfl (List.Sublist.refl _) (ds_same)
        · obtain rfl : k = ms.length := by omega
          rw [List.take_length]
          refine C.exit ?_
          refine C.thenExit ?_
          refine C.thenExit ?_
          refine C.blockExit ?_
          refine C.next ?_
          refine C.seq ?_
          refine C.region [(false,0),(false,1),(false,2)] rfl ?_
          refine L.loadBW rfl Tf.a61 rfl (List.Mem.tail _ (List.Mem.head _)) Tf.s61 List.not_mem_nil rfl trivial ?_
          refine L.storeW rfl rfl rfl rfl Tf.s61 (by first | rfl | (simp only [ints_length, *]; done) | (simp only [ints_length, *]; rfl) | (simp only [ints_length, *]; omega)) (by first | rfl | (simp only [ints_length, *]; done) | (simp only [ints_length, *]; rfl) | (simp only [ints_length, *]; omega)) (.tail (.tail (.tail (.tail (Has.head))))) (by first | exact ints_cell1 _ | simp [cell1]) trivial ?_
          refine L.assign rfl rfl rfl trivial ?_
          refine L.nil ?_
          refine C.next ?_
          refine C.ret ?_
          exact leave (vs := [_, _]) rfl rfl rfl ⟨⟨_, _, _, rfl, (List.Mem.tail _ (List.Mem.tail _ (List.Mem.tail _ (List.Mem.tail _ (List.Mem.head _))))), Or.inr ⟨Tf.a61, (by first | exact Tf.s61 | (simp only [List.size_toArray, ints_length, *]; exact Tf.s61)), rfl⟩⟩, rfl, trivial⟩ (fun D hD => bounds_some hf0 hL hm0)
      · refine L.alloc rfl Tf.z141 rfl rfl trivial (fun q3 => ?_)
        refine L.nil ?_
        refine L.planFin [(true,8)] rfl ?_
        refine L.alloc rfl Tf.z61 rfl rfl trivial (fun q4 => ?_)
        refine L.nil ?_
        refine S.fin [(false,10),(false,11)] rfl ?_
        refine L.storeW rfl rfl rfl rfl Tf.s61 (by first | rfl | (simp only [ints_length, *]; done) | (simp only [ints_length, *]; rfl) | (simp only [ints_length, *]; omega)) (by first | rfl | (simp only [ints_length, *]; done) | (simp only [ints_length, *]; rfl) | (simp only [ints_length, *]; omega)) (Has.head) (by first | exact ints_cell1 _ | simp [cell1]) trivial ?_
        refine L.storeW rfl rfl rfl rfl Tf.s141 (by first | rfl | (simp only [ints_length, *]; done) | (simp only [ints_length, *]; rfl) | (simp only [ints_length, *]; omega)) (by first | rfl | (simp only [ints_length, *]; done) | (simp only [ints_length, *]; rfl) | (simp only [ints_length, *]; omega)) (.tail (Has.head)) (by first | exact ints_cell1 _ | simp [cell1]) trivial ?_
        refine L.nil ?_
        refine S.nil ?_
        refine C.next ?_
        refine C.seq ?_
        refine C.seq ?_
        refine C.region [(false,0),(false,1),(false,2)] rfl ?_
        refine L.move rfl rfl rfl trivial ?_
        refine L.len rfl Try.underlying52 rfl hmv rfl rfl trivial ?_
        refine L.move rfl rfl rfl trivial ?_
        refine L.nil ?_
        refine C.next ?_
        refine C.block ?_
        refine C.loopR (γ := Nat) (fun k => ms.length - k) (fun k => k ≤ ms.length) (fun k => [(37, .int .i64 (k : Int))]) [(36, _), (35, _), (7, _), (8, _), (3, _), (2, _)] (fun k => (q4, .cells [.int .i64 (List.foldl (fun r n => (min r.1 n, max r.2 n)) (m0, m0) (ms.take k)).1, .int .i64 (List.foldl (fun r n => (min r.1 n, max r.2 n)) (m0, m0) (ms.take k)).2].toArray 61 (0, 0)) :: (q3, .cells [.func (.func 87) #[] #[]].toArray 141 (0, 0)) :: (wb, .cells [cv, .int .i64 y.fit, qv, .map (some mb)].toArray 148 (0, 0)) :: (mb, .map es1 cl1) :: [(q2, .cells [.int .i64 0, .int .i64 0].toArray 61 (0, 0))]) (fun k => [D8, D6, E1, D]) 0 (by omega) ⟨(by first | rfl | (show some (Value.int _ _) = some (Value.int _ _); congr 2; omega)), trivial⟩ ⟨rfl, rfl, rfl, rfl, rfl, rfl, trivial⟩ (List.Sublist.refl _) (ds_same) ?_
        rintro k h1
        refine C.seq ?_
        refine C.region [(false,0)] rfl ?_
        refine L.lss rfl rfl rfl rfl trivial ?_
        refine L.nil ?_
        refine C.next ?_
        refine C.seq ?_
        refine C.condD rfl (fun hc3 => ?_) (fun hc3 => ?_)
        · have hk : k < ms.length := by omega
          obtain ⟨n, hn0⟩ : ∃ n, ms[k]? = some n := ⟨_, List.getElem?_eq_getElem hk⟩
          have hst := bnd_step (m0 := m0) hn0
          refine C.skip ?_
          refine C.next ?_
          refine C.seq ?_
          refine C.block ?_
          refine C.seq ?_
          refine C.region [(false,0),(false,1),(false,2)] rfl ?_
          refine L.indexS rfl Try.underlying52 Tf.s3 rfl hmv rfl (by omega) hn0 rfl trivial (fun b3 o3 cs3 hr3 hcl3 hA3 => ?_)
          obtain rfl : cs3 = [.int .i64 _] := hr3
          refine L.loadD1 rfl (k := 0) Tf.a3 rfl hA3 (by first | simp | assumption) rfl List.not_mem_nil rfl trivial ?_
          refine L.assign rfl rfl rfl trivial ?_
          refine L.nil ?_
          refine C.next ?_
          refine C.region [(false,0),(false,1),(false,2),(false,3),(false,4),(false,5)] rfl ?_
          refine L.fieldAddr rfl Tf.f141_0 rfl rfl trivial ?_
          refine L.loadB1 rfl Tf.a138 rfl (List.Mem.tail _ (List.Mem.head _)) rfl List.not_mem_nil rfl trivial ?_
          refine L.loadBW rfl Tf.a61 rfl (List.Mem.head _) Tf.s61 List.not_mem_nil rfl trivial ?_
          refine L.move rfl rfl rfl trivial ?_
          refine L.callV rfl rfl rfl (fun D2 hD2 => wider_ok (List.foldl (fun r n => (min r.1 n, max r.2 n)) (m0, m0) (ms.take k)) n _) rfl trivial ?_
          refine L.storeW rfl rfl rfl rfl Tf.s61 (by first | rfl | (simp only [ints_length, *]; done) | (simp only [ints_length, *]; rfl) | (simp only [ints_length, *]; omega)) (by first | rfl | (simp only [ints_length, *]; done) | (simp only [ints_length, *]; rfl) | (simp only [ints_length, *]; omega)) (Has.head) (by first | exact ints_cell1 _ | simp [cell1]) trivial ?_
          refine L.nil ?_
          refine C.blockEnd ?_
          refine C.next ?_
          refine C.region [(false,0),(false,1)] rfl ?_
          refine L.add rfl rfl rfl (by simp only [inK]; omega) rfl trivial ?_
          refine L.move rfl rfl rfl trivial ?_
          refine L.nil ?_
          rw [← hst]
          exact C.againR 12 (k + 1) (by omega) (by omega) ⟨(by first | rfl | (show some (Value.int _ _) = some (Value.int _ _); congr 2; omega)), trivial⟩ rfl rfl (List.Sublist.refl _) (ds_same)
        · obtain rfl : k = ms.length := by omega
          rw [List.take_length]
          refine C.exit ?_
          refine C.thenExit ?_
          refine C.thenExit ?_
          refine C.blockExit ?_
          refine C.next ?_
          refine C.seq ?_
          refine C.region [(false,0),(false,1),(false,2)] rfl ?_
          refine L.loadBW rfl Tf.a61 rfl (List.Mem.head _) Tf.s61 List.not_mem_nil rfl trivial ?_
          refine L.storeW rfl rfl rfl rfl Tf.s61 (by first | rfl | (simp only [ints_length, *]; done) | (simp only [ints_length, *]; rfl) | (simp only [ints_length, *]; omega)) (by first | rfl | (simp only [ints_length, *]; done) | (simp only [ints_length, *]; rfl) | (simp only [ints_length, *]; omega)) (.tail (.tail (.tail (.tail (Has.head))))) (by first | exact ints_cell1 _ | simp [cell1]) trivial ?_
          refine L.assign rfl rfl rfl trivial ?_
          refine L.nil ?_
          refine C.next ?_
          refine C.ret ?_
          exact leave (vs := [_, _]) rfl rfl rfl ⟨⟨_, _, _, rfl, (List.Mem.tail _ (List.Mem.tail _ (List.Mem.tail _ (List.Mem.tail _ (List.Mem.head _))))), Or.inr ⟨Tf.a61, (by first | exact Tf.s61 | (simp only [List.size_toArray, ints_length, *]; exact Tf.s61)), rfl⟩⟩, rfl, trivial⟩ (fun D hD => bounds_some hf0 hL hm0)
end Go.Fs
