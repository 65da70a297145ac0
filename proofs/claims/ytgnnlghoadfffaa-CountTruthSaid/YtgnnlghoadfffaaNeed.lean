/- The looks that are needed, as the depth of a tree of looks: plain Lean. -/
import Derived.Test.YtgnnlghoadfffaaSpec
namespace Go.Fs.C1

/-! ### The least and the greatest number -/
theorem minL_le {l : List Int} {x : Int} (h : x ∈ l) : minL l ≤ x := by
  have key : ∀ (l : List Int) (a : Int), l.foldl min a ≤ a ∧ ∀ x ∈ l, l.foldl min a ≤ x := by
    intro l
    induction l with
    | nil => intro a; simp
    | cons y l ih =>
      intro a
      rw [List.foldl_cons]
      obtain ⟨h1, h2⟩ := ih (min a y)
      refine ⟨by omega, fun x hx => ?_⟩
      rcases List.mem_cons.1 hx with rfl | hx
      · omega
      · exact h2 x hx
  cases l with
  | nil => cases h
  | cons y l =>
    rcases List.mem_cons.1 h with rfl | h
    · exact (key l x).1
    · exact (key l y).2 x h
theorem le_maxL {l : List Int} {x : Int} (h : x ∈ l) : x ≤ maxL l := by
  have key : ∀ (l : List Int) (a : Int), a ≤ l.foldl max a ∧ ∀ x ∈ l, x ≤ l.foldl max a := by
    intro l
    induction l with
    | nil => intro a; simp
    | cons y l ih =>
      intro a
      rw [List.foldl_cons]
      obtain ⟨h1, h2⟩ := ih (max a y)
      refine ⟨by omega, fun x hx => ?_⟩
      rcases List.mem_cons.1 hx with rfl | hx
      · omega
      · exact h2 x hx
  cases l with
  | nil => cases h
  | cons y l =>
    rcases List.mem_cons.1 h with rfl | h
    · exact (key l x).1
    · exact (key l y).2 x h
theorem minL_mem {l : List Int} (h : l ≠ []) : minL l ∈ l := by
  have key : ∀ (l : List Int) (a : Int), l.foldl min a = a ∨ l.foldl min a ∈ l := by
    intro l
    induction l with
    | nil => intro a; exact Or.inl rfl
    | cons y l ih =>
      intro a
      rw [List.foldl_cons]
      rcases ih (min a y) with h | h
      · rw [h]
        rcases Int.le_total a y with h' | h'
        · exact Or.inl (by omega)
        · exact Or.inr (by rw [Int.min_eq_right h']; exact List.mem_cons_self)
      · exact Or.inr (List.mem_cons_of_mem _ h)
  cases l with
  | nil => exact absurd rfl h
  | cons y l =>
    rcases key l y with h | h
    · show l.foldl min y ∈ _; rw [h]; exact List.mem_cons_self
    · exact List.mem_cons_of_mem _ h
theorem maxL_mem {l : List Int} (h : l ≠ []) : maxL l ∈ l := by
  have key : ∀ (l : List Int) (a : Int), l.foldl max a = a ∨ l.foldl max a ∈ l := by
    intro l
    induction l with
    | nil => intro a; exact Or.inl rfl
    | cons y l ih =>
      intro a
      rw [List.foldl_cons]
      rcases ih (max a y) with h | h
      · rw [h]
        rcases Int.le_total a y with h' | h'
        · exact Or.inr (by rw [Int.max_eq_right h']; exact List.mem_cons_self)
        · exact Or.inl (by omega)
      · exact Or.inr (List.mem_cons_of_mem _ h)
  cases l with
  | nil => exact absurd rfl h
  | cons y l =>
    rcases key l y with h | h
    · show l.foldl max y ∈ _; rw [h]; exact List.mem_cons_self
    · exact List.mem_cons_of_mem _ h

theorem lo_le {ts : List (List Int)} {i j : Nat} {t : List Int} (h : t ∈ ts) : loOf ts i j ≤ partOf t i j := minL_le (List.mem_map.2 ⟨t, h, rfl⟩)
theorem le_hi {ts : List (List Int)} {i j : Nat} {t : List Int} (h : t ∈ ts) : partOf t i j ≤ hiOf ts i j := le_maxL (List.mem_map.2 ⟨t, h, rfl⟩)
theorem lo_mem {ts : List (List Int)} {i j : Nat} (h : ts ≠ []) : ∃ t ∈ ts, partOf t i j = loOf ts i j := by
  obtain ⟨t, ht, he⟩ := List.mem_map.1 (minL_mem (l := ts.map fun t => partOf t i j) (by simpa using h))
  exact ⟨t, ht, he⟩
theorem hi_mem {ts : List (List Int)} {i j : Nat} (h : ts ≠ []) : ∃ t ∈ ts, partOf t i j = hiOf ts i j := by
  obtain ⟨t, ht, he⟩ := List.mem_map.1 (maxL_mem (l := ts.map fun t => partOf t i j) (by simpa using h))
  exact ⟨t, ht, he⟩
/-- Fewer truths: no wider bounds. -/
theorem lo_sub {ts us : List (List Int)} {i j : Nat} (hne : us ≠ []) (h : ∀ t ∈ us, t ∈ ts) : loOf ts i j ≤ loOf us i j := by
  obtain ⟨t, ht, he⟩ := lo_mem (i := i) (j := j) hne
  rw [← he]; exact lo_le (h t ht)
theorem hi_sub {ts us : List (List Int)} {i j : Nat} (hne : us ≠ []) (h : ∀ t ∈ us, t ∈ ts) : hiOf us i j ≤ hiOf ts i j := by
  obtain ⟨t, ht, he⟩ := hi_mem (i := i) (j := j) hne
  rw [← he]; exact le_hi (h t ht)
theorem lo_eq_of_mem {ts us : List (List Int)} {i j : Nat} (h : ∀ t, t ∈ us ↔ t ∈ ts) : loOf us i j = loOf ts i j ∧ hiOf us i j = hiOf ts i j := by
  by_cases hu : us = []
  · have : ts = [] := List.eq_nil_iff_forall_not_mem.2 fun t ht => by have := (h t).2 ht; rw [hu] at this; cases this
    rw [hu, this]; exact ⟨rfl, rfl⟩
  · have ht : ts ≠ [] := fun e => hu (List.eq_nil_iff_forall_not_mem.2 fun t h' => by have := (h t).1 h'; rw [e] at this; cases this)
    have a := lo_sub (i := i) (j := j) hu (fun t h' => (h t).1 h')
    have b := lo_sub (i := i) (j := j) ht (fun t h' => (h t).2 h')
    have c := hi_sub (i := i) (j := j) hu (fun t h' => (h t).1 h')
    have d := hi_sub (i := i) (j := j) ht (fun t h' => (h t).2 h')
    omega

/-! ### Trees of looks -/
/-- All truths have as many chairs in the part. -/
def Const (i j : Nat) (ts : List (List Int)) : Prop := ∀ t ∈ ts, ∀ t' ∈ ts, partOf t i j = partOf t' i j
theorem const_iff {i j : Nat} {ts : List (List Int)} : loOf ts i j = hiOf ts i j ↔ Const i j ts := by
  constructor
  · intro h t ht t' ht'
    have := lo_le (i := i) (j := j) ht
    have := lo_le (i := i) (j := j) ht'
    have := le_hi (i := i) (j := j) ht
    have := le_hi (i := i) (j := j) ht'
    omega
  · intro h
    by_cases hne : ts = []
    · rw [hne]; rfl
    · obtain ⟨t, ht, he⟩ := lo_mem (i := i) (j := j) hne
      obtain ⟨t', ht', he'⟩ := hi_mem (i := i) (j := j) hne
      rw [← he, ← he']; exact h t ht t' ht'
def Tree (n i j : Nat) : Nat → List (List Int) → Prop
  | 0, ts => Const i j ts
  | d + 1, ts => Const i j ts ∨ ∃ k, k < n ∧ seenT ts k 0 ≠ [] ∧ seenT ts k 1 ≠ [] ∧ Tree n i j d (seenT ts k 0) ∧ Tree n i j d (seenT ts k 1)
theorem Tree.const {n i j d : Nat} {ts : List (List Int)} (h : Const i j ts) : Tree n i j d ts := by
  cases d with
  | zero => exact h
  | succ d => exact Or.inl h
theorem Tree.more {n i j : Nat} : ∀ {d : Nat} {ts : List (List Int)}, Tree n i j d ts → Tree n i j (d + 1) ts
  | 0, _, h => Or.inl h
  | _ + 1, _, h => h.imp id fun ⟨k, hk, h0, h1, t0, t1⟩ => ⟨k, hk, h0, h1, t0.more, t1.more⟩
theorem Tree.mono {n i j d e : Nat} {ts : List (List Int)} (h : Tree n i j d ts) (hde : d ≤ e) : Tree n i j e ts := by
  obtain ⟨k, rfl⟩ := Nat.exists_eq_add_of_le hde
  clear hde
  induction k with
  | zero => exact h
  | succ k ih => exact ih.more

theorem bestK_iff {nd : List (List Int) → Int} (ts : List (List Int)) (n : Nat) (e : Int) : ∀ k, bestK nd ts n k ≤ e ↔ (n : Int) + 1 ≤ e ∨ ∃ m, m < k ∧ seenT ts m 0 ≠ [] ∧ seenT ts m 1 ≠ [] ∧ 1 + max (nd (seenT ts m 0)) (nd (seenT ts m 1)) ≤ e := by
  intro k
  induction k with
  | zero => simp [bestK]
  | succ k ih =>
    have step : bestK nd ts n (k + 1) ≤ e ↔ bestK nd ts n k ≤ e ∨ (seenT ts k 0 ≠ [] ∧ seenT ts k 1 ≠ [] ∧ 1 + max (nd (seenT ts k 0)) (nd (seenT ts k 1)) ≤ e) := by
      simp only [bestK]
      split
      · rename_i hc
        constructor
        · exact Or.inl
        · rintro (h | ⟨h0, h1, _⟩)
          · exact h
          · exact absurd hc (by simp [h0, h1])
      · rename_i hc
        rw [not_or] at hc
        split
        · constructor
          · intro h
            by_cases hb : bestK nd ts n k ≤ e
            · exact Or.inl hb
            · exact Or.inr ⟨hc.1, hc.2, by omega⟩
          · rintro (h | ⟨_, _, h⟩) <;> omega
        · constructor
          · exact Or.inl
          · rintro (h | ⟨_, _, h⟩)
            · exact h
            · omega
    rw [step, ih]
    constructor
    · rintro ((h | ⟨m, hm, h⟩) | h)
      · exact Or.inl h
      · exact Or.inr ⟨m, by omega, h⟩
      · exact Or.inr ⟨k, by omega, h⟩
    · rintro (h | ⟨m, hm, h⟩)
      · exact Or.inl (Or.inl h)
      · by_cases hmk : m = k
        · subst hmk; exact Or.inr h
        · exact Or.inl (Or.inr ⟨m, by omega, h⟩)
theorem bestI_iff {nd : List (List Int) → Int} (ts : List (List Int)) (b0 e : Int) : ∀ k, bestI nd ts b0 k ≤ e ↔ b0 ≤ e ∨ ∃ m, m < k ∧ seenT ts m 0 ≠ [] ∧ seenT ts m 1 ≠ [] ∧ 1 + max (nd (seenT ts m 0)) (nd (seenT ts m 1)) ≤ e := by
  intro k
  induction k with
  | zero => simp [bestI]
  | succ k ih =>
    have step : bestI nd ts b0 (k + 1) ≤ e ↔ bestI nd ts b0 k ≤ e ∨ (seenT ts k 0 ≠ [] ∧ seenT ts k 1 ≠ [] ∧ 1 + max (nd (seenT ts k 0)) (nd (seenT ts k 1)) ≤ e) := by
      simp only [bestI]
      split
      · rename_i hc
        constructor
        · exact Or.inl
        · rintro (h | ⟨h0, h1, _⟩)
          · exact h
          · exact absurd hc (by simp [h0, h1])
      · rename_i hc
        rw [not_or] at hc
        split
        · constructor
          · intro h
            by_cases hb : bestI nd ts b0 k ≤ e
            · exact Or.inl hb
            · exact Or.inr ⟨hc.1, hc.2, by omega⟩
          · rintro (h | ⟨_, _, h⟩) <;> omega
        · constructor
          · exact Or.inl
          · rintro (h | ⟨_, _, h⟩)
            · exact h
            · omega
    rw [step, ih]
    constructor
    · rintro ((h | ⟨m, hm, h⟩) | h)
      · exact Or.inl h
      · exact Or.inr ⟨m, by omega, h⟩
      · exact Or.inr ⟨k, by omega, h⟩
    · rintro (h | ⟨m, hm, h⟩)
      · exact Or.inl (Or.inl h)
      · by_cases hmk : m = k
        · subst hmk; exact Or.inr h
        · exact Or.inl (Or.inr ⟨m, by omega, h⟩)

theorem needF_tree (n i j : Nat) : ∀ (f d : Nat) (ts : List (List Int)), ts.length ≤ f → d ≤ n → (needF n i j f ts ≤ d ↔ Tree n i j d ts) := by
  intro f
  induction f with
  | zero =>
    intro d ts hf _
    have : ts = [] := List.length_eq_zero_iff.1 (by omega)
    subst this
    exact ⟨fun _ => Tree.const (fun t ht => by cases ht), fun _ => by simp only [needF]; omega⟩
  | succ f ih =>
    intro d ts hf hd
    simp only [needF]
    by_cases hc : Const i j ts
    · rw [if_pos (const_iff.2 hc)]
      exact ⟨fun _ => Tree.const hc, fun _ => by omega⟩
    · rw [if_neg (fun e => hc (const_iff.1 e)), bestK_iff]
      constructor
      · rintro (h | ⟨k, hk, h0, h1, h⟩)
        · omega
        · obtain ⟨l0, l1⟩ := seenT_lt h0 h1
          have b0 := (needF_bound n i j f (seenT ts k 0)).1
          obtain ⟨e, rfl⟩ : ∃ e, d = e + 1 := ⟨d - 1, by omega⟩
          exact Or.inr ⟨k, hk, h0, h1, (ih e _ (by omega) (by omega)).1 (by omega), (ih e _ (by omega) (by omega)).1 (by omega)⟩
      · intro h
        cases d with
        | zero => exact absurd h hc
        | succ e =>
          rcases h with h | ⟨k, hk, h0, h1, t0, t1⟩
          · exact absurd h hc
          · obtain ⟨l0, l1⟩ := seenT_lt h0 h1
            have a0 := (ih e _ (by omega) (by omega)).2 t0
            have a1 := (ih e _ (by omega) (by omega)).2 t1
            exact Or.inr ⟨k, hk, h0, h1, by omega⟩
theorem needG_tree (n i j : Nat) : ∀ (f d : Nat) (ts : List (List Int)), ts.length ≤ f → d < 100 → (needG n i j f ts ≤ d ↔ Tree n i j d ts) := by
  intro f
  induction f with
  | zero =>
    intro d ts hf _
    have : ts = [] := List.length_eq_zero_iff.1 (by omega)
    subst this
    exact ⟨fun _ => Tree.const (fun t ht => by cases ht), fun _ => by simp only [needG]; omega⟩
  | succ f ih =>
    intro d ts hf hd
    simp only [needG]
    by_cases hc : Const i j ts
    · rw [if_pos (const_iff.2 hc)]
      exact ⟨fun _ => Tree.const hc, fun _ => by omega⟩
    · rw [if_neg (fun e => hc (const_iff.1 e)), bestI_iff]
      constructor
      · rintro (h | ⟨k, hk, h0, h1, h⟩)
        · omega
        · obtain ⟨l0, l1⟩ := seenT_lt h0 h1
          have b0 := (needG_bound n i j f (seenT ts k 0)).1
          obtain ⟨e, rfl⟩ : ∃ e, d = e + 1 := ⟨d - 1, by omega⟩
          exact Or.inr ⟨k, hk, h0, h1, (ih e _ (by omega) (by omega)).1 (by omega), (ih e _ (by omega) (by omega)).1 (by omega)⟩
      · intro h
        cases d with
        | zero => exact absurd h hc
        | succ e =>
          rcases h with h | ⟨k, hk, h0, h1, t0, t1⟩
          · exact absurd h hc
          · obtain ⟨l0, l1⟩ := seenT_lt h0 h1
            have a0 := (ih e _ (by omega) (by omega)).2 t0
            have a1 := (ih e _ (by omega) (by omega)).2 t1
            exact Or.inr ⟨k, hk, h0, h1, by omega⟩

theorem mem_seenT {ts : List (List Int)} {k : Nat} {b : Int} {t : List Int} : t ∈ seenT ts k b ↔ t ∈ ts ∧ t.getD k 0 = b := by
  unfold seenT; rw [List.mem_filter, beq_iff_eq]

/-- All places are looked at, one after the other. -/
theorem tree_all {n i j : Nat} : ∀ (m k : Nat) (ts : List (List Int)), k + m = n → (∀ t ∈ ts, t.length = n ∧ ∀ x ∈ t, 0 ≤ x ∧ x ≤ 1) → (∀ t ∈ ts, ∀ t' ∈ ts, t.take k = t'.take k) → Tree n i j m ts := by
  intro m
  induction m with
  | zero =>
    intro k ts hk hall hag
    refine Tree.const fun t ht t' ht' => ?_
    have := hag t ht t' ht'
    rw [List.take_of_length_le (by have := (hall t ht).1; omega), List.take_of_length_le (by have := (hall t' ht').1; omega)] at this
    rw [this]
  | succ m ih =>
    intro k ts hk hall hag
    have hstep : ∀ b : Int, ∀ us : List (List Int), (∀ t ∈ us, t ∈ ts ∧ t.getD k 0 = b) → Tree n i j m us := fun b us hus => by
      refine ih (k + 1) us (by omega) (fun t ht => hall t (hus t ht).1) fun t ht t' ht' => ?_
      obtain ⟨h1, h2⟩ := hus t ht
      obtain ⟨h3, h4⟩ := hus t' ht'
      have e1 : t[k]? = some b := by
        have hl := (hall t h1).1
        rw [List.getD_eq_getElem?_getD, List.getElem?_eq_getElem (by omega)] at h2
        rw [List.getElem?_eq_getElem (by omega), ← h2]; rfl
      have e2 : t'[k]? = some b := by
        have hl := (hall t' h3).1
        rw [List.getD_eq_getElem?_getD, List.getElem?_eq_getElem (by omega)] at h4
        rw [List.getElem?_eq_getElem (by omega), ← h4]; rfl
      rw [List.take_add_one, List.take_add_one, e1, e2, hag t h1 t' h3]
    have hall0 : ∀ (b c : Int), (b = 0 ∧ c = 1 ∨ b = 1 ∧ c = 0) → seenT ts k b = [] → ∀ t ∈ ts, t ∈ ts ∧ t.getD k 0 = c := by
      intro b c hbc he t ht
      refine ⟨ht, ?_⟩
      have hb := getD_bit (hall t ht).2 k
      have hn : ¬ t.getD k 0 = b := fun e => by
        have : t ∈ seenT ts k b := mem_seenT.2 ⟨ht, e⟩
        rw [he] at this; cases this
      rcases hbc with ⟨rfl, rfl⟩ | ⟨rfl, rfl⟩ <;> rcases hb with hb | hb <;> first | exact hb | exact absurd hb hn
    by_cases h0 : seenT ts k 0 = []
    · exact (hstep 1 ts (hall0 0 1 (Or.inl ⟨rfl, rfl⟩) h0)).more
    · by_cases h1 : seenT ts k 1 = []
      · exact (hstep 0 ts (hall0 1 0 (Or.inr ⟨rfl, rfl⟩) h1)).more
      · exact Or.inr ⟨k, by omega, h0, h1, hstep 0 _ (fun t ht => mem_seenT.1 ht), hstep 1 _ (fun t ht => mem_seenT.1 ht)⟩

/-- Bits of one length. -/
def Bits (n : Nat) (ts : List (List Int)) : Prop := ∀ t ∈ ts, t.length = n ∧ ∀ x ∈ t, 0 ≤ x ∧ x ≤ 1
theorem tree_top {n i j : Nat} {ts : List (List Int)} (h : Bits n ts) : Tree n i j n ts := tree_all n 0 ts (by omega) h (fun _ _ _ _ => by simp)

theorem needN_tree {n i j d : Nat} {ts : List (List Int)} (hl : ts.length ≤ 600) (hd : d ≤ n) : needN n i j ts ≤ d ↔ Tree n i j d ts := needF_tree n i j 600 d ts hl hd
theorem needN_nonneg (n i j : Nat) (ts : List (List Int)) : 0 ≤ needN n i j ts := (needF_bound n i j 600 ts).1
theorem needN_le {n i j : Nat} {ts : List (List Int)} (hl : ts.length ≤ 600) (h : Bits n ts) : needN n i j ts ≤ n := (needN_tree hl (Nat.le_refl n)).2 (tree_top h)

/-- The program's looks are the reference's. -/
theorem needN_needG {n i j : Nat} {ts : List (List Int)} (hl : ts.length ≤ 600) (hn : n < 100) (h : Bits n ts) : needN n i j ts = needG n i j 600 ts := by
  have a0 := needN_nonneg n i j ts
  have a1 := needN_le (i := i) (j := j) hl h
  have b0 := (needG_bound n i j 600 ts).1
  have b1 := (needG_tree n i j 600 n ts hl hn).2 (tree_top h)
  have c1 := (needN_tree (i := i) (j := j) (d := (needG n i j 600 ts).toNat) hl (by omega)).2 ((needG_tree n i j 600 _ ts hl (by omega)).1 (by omega))
  have c2 := (needG_tree n i j 600 (needN n i j ts).toNat ts hl (by omega)).2 ((needN_tree hl (by omega)).1 (by omega))
  omega

/-- Fewer truths: no more looks. -/
theorem Tree.sub {n i j : Nat} : ∀ {d : Nat} {ts us : List (List Int)}, (∀ t ∈ ts, ∀ x ∈ t, 0 ≤ x ∧ x ≤ 1) → (∀ t ∈ us, t ∈ ts) → Tree n i j d ts → Tree n i j d us
  | 0, _, _, _, hs, h => fun t ht t' ht' => h t (hs t ht) t' (hs t' ht')
  | d + 1, ts, us, hb, hs, h => by
    rcases h with h | ⟨k, hk, h0, h1, t0, t1⟩
    · exact Or.inl fun t ht t' ht' => h t (hs t ht) t' (hs t' ht')
    · have s0 : ∀ b, ∀ t ∈ seenT us k b, t ∈ seenT ts k b := fun b t ht => mem_seenT.2 ⟨hs t (mem_seenT.1 ht).1, (mem_seenT.1 ht).2⟩
      have sb : ∀ b, ∀ t ∈ seenT ts k b, ∀ x ∈ t, 0 ≤ x ∧ x ≤ 1 := fun b t ht => hb t (mem_seenT.1 ht).1
      by_cases e0 : seenT us k 0 = []
      · refine (Tree.sub (sb 1) (fun t ht => ?_) t1).more
        refine mem_seenT.2 ⟨hs t ht, (getD_bit (hb t (hs t ht)) k).resolve_left fun e => ?_⟩
        have : t ∈ seenT us k 0 := mem_seenT.2 ⟨ht, e⟩
        rw [e0] at this; cases this
      · by_cases e1 : seenT us k 1 = []
        · refine (Tree.sub (sb 0) (fun t ht => ?_) t0).more
          refine mem_seenT.2 ⟨hs t ht, (getD_bit (hb t (hs t ht)) k).resolve_right fun e => ?_⟩
          have : t ∈ seenT us k 1 := mem_seenT.2 ⟨ht, e⟩
          rw [e1] at this; cases this
        · exact Or.inr ⟨k, hk, e0, e1, Tree.sub (sb 0) (s0 0) t0, Tree.sub (sb 1) (s0 1) t1⟩
theorem needN_sub {n i j : Nat} {ts us : List (List Int)} (hl : ts.length ≤ 600) (hl' : us.length ≤ 600) (h : Bits n ts) (hs : ∀ t ∈ us, t ∈ ts) : needN n i j us ≤ needN n i j ts := by
  have a0 := needN_nonneg n i j ts
  have a1 := needN_le (i := i) (j := j) hl h
  have b := (needN_tree (n := n) (i := i) (j := j) (d := (needN n i j ts).toNat) hl (by omega)).1 (by omega)
  have := (needN_tree (n := n) (i := i) (j := j) (d := (needN n i j ts).toNat) hl' (show (needN n i j ts).toNat ≤ n by omega)).2 (Tree.sub (fun t ht => (h t ht).2) hs b)
  omega
theorem needN_zero {n i j : Nat} {ts : List (List Int)} (hl : ts.length ≤ 600) : needN n i j ts = 0 ↔ loOf ts i j = hiOf ts i j := by
  have a := needN_nonneg n i j ts
  have b := needN_tree (n := n) (i := i) (j := j) (d := 0) hl (Nat.zero_le n)
  rw [const_iff]
  constructor
  · intro h; exact b.1 (by omega)
  · intro h; have := b.2 h; omega

/-- The place to look at first. -/
theorem lookK_one {ts : List (List Int)} {a : Int} (ha : ts.length < a) : lookK ts a 1 = (0, ((max (seenT ts 0 0).length (seenT ts 0 1).length : Nat) : Int)) := by
  have h0 := seenT_length ts 0 0
  have h1 := seenT_length ts 0 1
  show (if (max ((seenT ts 0 0).length : Int) (seenT ts 0 1).length) < a then ((0 : Int), (max ((seenT ts 0 0).length : Int) (seenT ts 0 1).length)) else (0, a)) = _
  rw [if_pos (by omega)]
  congr 1
  omega
theorem lookK_succ (ts : List (List Int)) (a : Int) (k : Nat) : lookK ts a (k + 1) = if ((max (seenT ts k 0).length (seenT ts k 1).length : Nat) : Int) < (lookK ts a k).2 then ((k : Int), ((max (seenT ts k 0).length (seenT ts k 1).length : Nat) : Int)) else lookK ts a k := by
  have e : (max ((seenT ts k 0).length : Int) (seenT ts k 1).length) = ((max (seenT ts k 0).length (seenT ts k 1).length : Nat) : Int) := by omega
  rw [← e]; rfl
theorem look_eq {ts : List (List Int)} {a b : Int} (ha : ts.length < a) (hb : ts.length < b) : ∀ n, 0 < n → lookK ts a n = lookK ts b n := by
  intro n hn
  induction n with
  | zero => omega
  | succ n ih =>
    cases n with
    | zero => rw [Nat.zero_add, lookK_one ha, lookK_one hb]
    | succ n =>
      have := ih (by omega)
      rw [lookK_succ, lookK_succ ts b, this]
theorem look_place {ts : List (List Int)} {a : Int} (ha : ts.length < a) : ∀ n : Nat, 0 < n → 0 ≤ (lookK ts a n).1 ∧ (lookK ts a n).1 < n ∧ (lookK ts a n).2 = ((max (seenT ts (lookK ts a n).1.toNat 0).length (seenT ts (lookK ts a n).1.toNat 1).length : Nat) : Int) := by
  intro n hn
  induction n with
  | zero => omega
  | succ n ih =>
    cases n with
    | zero => rw [Nat.zero_add, lookK_one ha]; simp
    | succ n =>
      obtain ⟨h1, h2, h3⟩ := ih (by omega)
      rw [lookK_succ]
      split
      · refine ⟨by simp only; omega, by simp only; omega, ?_⟩
        simp only [Int.toNat_natCast]
      · exact ⟨h1, by omega, h3⟩
theorem look_least {ts : List (List Int)} {a : Int} : ∀ n k : Nat, k < n → (lookK ts a n).2 ≤ ((max (seenT ts k 0).length (seenT ts k 1).length : Nat) : Int) := by
  intro n
  induction n with
  | zero => intro k hk; omega
  | succ n ih =>
    intro k hk
    rw [lookK_succ]
    by_cases hkn : k = n
    · subst hkn
      split
      · exact Int.le_refl _
      · omega
    · have := ih k (by omega)
      split
      · simp only; omega
      · exact this

end Go.Fs.C1
