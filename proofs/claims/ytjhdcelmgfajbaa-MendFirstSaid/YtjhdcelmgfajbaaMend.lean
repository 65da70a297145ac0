/- A pairing as the program finds it; all truths in the program's order; in plain Lean (layer 7). -/
import Derived.Test.YtjhdcelmgfajbaaNu
import Derived.Test.YtjhdcelmgfajbaaSpec
namespace Go.Fs.C7

theorem step_ge {F : List Nat} {rest a : Nat} {nu : Nat → Nat} : ∀ (l : List Nat) (m : Nat), l.foldl (stepB F rest a nu) m = m ∨ ∃ b ∈ l, (rest &&& F.getD a 0).testBit b = true ∧ l.foldl (stepB F rest a nu) m = 1 + nu (dif rest (2 ^ b))
  | [], m => Or.inl rfl
  | x :: l, m => by
    rw [List.foldl_cons]
    rcases step_ge l (stepB F rest a nu m x) with h | ⟨b, hb, hbit, h⟩
    · rw [h]
      unfold stepB
      split
      · rename_i hx
        by_cases hm : m ≤ 1 + nu (dif rest (2 ^ x))
        · exact Or.inr ⟨x, List.mem_cons_self, hx, by omega⟩
        · exact Or.inl (by omega)
      · exact Or.inl rfl
    · exact Or.inr ⟨b, List.mem_cons_of_mem _ hb, hbit, h⟩

/-- The chair that the lowest one is paired with. -/
def mateB (F : List Nat) (n m : Nat) : Option Nat :=
  (List.range n).find? fun b => (dif m (2 ^ low m) &&& F.getD (low m) 0).testBit b && decide (nuB F n m = 1 + nuB F n (dif (dif m (2 ^ low m)) (2 ^ b)))
def pairG (F : List Nat) (n : Nat) : Nat → Nat → List (Nat × Nat)
  | 0, _ => []
  | k + 1, m => if m = 0 then [] else match mateB F n m with
    | some b => (low m, b) :: pairG F n k (dif (dif m (2 ^ low m)) (2 ^ b))
    | none => pairG F n k (dif m (2 ^ low m))
def pairB (F : List Nat) (n m : Nat) : List (Nat × Nat) := pairG F n m m

theorem dif2_lt {m b : Nat} (h : m ≠ 0) : dif (dif m (2 ^ low m)) (2 ^ b) < m := Nat.lt_of_le_of_lt (dif_le _ _) (bit_lt (low_spec h).1)
theorem pairG_fuel {F : List Nat} {n : Nat} : ∀ (k m l : Nat), m ≤ k → m ≤ l → pairG F n k m = pairG F n l m
  | 0, m, l, h, _ => by
    obtain rfl : m = 0 := by omega
    cases l <;> simp [pairG]
  | k + 1, m, 0, _, h => by
    obtain rfl : m = 0 := by omega
    simp [pairG]
  | k + 1, m, l + 1, h, h' => by
    simp only [pairG]
    by_cases hm : m = 0
    · rw [if_pos hm, if_pos hm]
    · rw [if_neg hm, if_neg hm]
      have hlt := bit_lt (low_spec hm).1
      split
      · rename_i b _
        have := dif2_lt (b := b) hm
        rw [pairG_fuel k _ l (by omega) (by omega)]
      · rw [pairG_fuel k _ l (by omega) (by omega)]
theorem pairB_zero {F : List Nat} {n : Nat} : pairB F n 0 = [] := rfl
theorem pairB_some {F : List Nat} {n m b : Nat} (h : m ≠ 0) (hb : mateB F n m = some b) : pairB F n m = (low m, b) :: pairB F n (dif (dif m (2 ^ low m)) (2 ^ b)) := by
  obtain ⟨k, rfl⟩ : ∃ k, m = k + 1 := ⟨m - 1, by omega⟩
  show pairG F n (k + 1) (k + 1) = _
  have := dif2_lt (b := b) h
  rw [pairG, if_neg h, hb]
  simp only
  rw [pairG_fuel k _ _ (by omega) (Nat.le_refl _)]; rfl
theorem pairB_none {F : List Nat} {n m : Nat} (h : m ≠ 0) (hb : mateB F n m = none) : pairB F n m = pairB F n (dif m (2 ^ low m)) := by
  obtain ⟨k, rfl⟩ : ∃ k, m = k + 1 := ⟨m - 1, by omega⟩
  show pairG F n (k + 1) (k + 1) = _
  have := bit_lt (low_spec h).1
  rw [pairG, if_neg h, hb]
  simp only
  rw [pairG_fuel k _ _ (by omega) (Nat.le_refl _)]; rfl

/-- The pairing that is found: it fits, makes the most, and the lower chair of each pair is the first. -/
theorem pairB_ok {F : List Nat} {n : Nat} : ∀ (k m : Nat), m ≤ k → (∀ x, m.testBit x = true → x < n) →
    Mat (fB F) m.testBit (pairB F n m) ∧ (pairB F n m).length = nuB F n m ∧ ∀ p ∈ pairB F n m, p.1 < p.2
  | k, m, hk, hn => by
    by_cases hm : m = 0
    · subst hm
      exact ⟨Mat.nil, rfl, by simp [pairB_zero]⟩
    · have hlow := low_spec hm
      have hlt := bit_lt hlow.1
      obtain ⟨k', rfl⟩ : ∃ k', k = k' + 1 := ⟨k - 1, by omega⟩
      have e1 : ∀ m a : Nat, (dif m (2 ^ a)).testBit = without m.testBit a := fun m a => by
        funext x
        rw [dif_at]; unfold without
        by_cases h : a = x
        · subst h; simp
        · have h' : x ≠ a := fun e => h e.symm
          simp [h, h']
      cases hb : mateB F n m with
      | none =>
        rw [pairB_none hm hb]
        obtain ⟨i1, i2, i3⟩ := pairB_ok k' (dif m (2 ^ low m)) (by omega) fun x hx => hn x (by rw [dif_at] at hx; simp at hx; exact hx.1)
        refine ⟨i1.mono fun x hx => by rw [e1] at hx; exact (without_iff.1 hx).1, ?_, i3⟩
        rw [i2]
        have hnone := List.find?_eq_none.1 hb
        rcases step_ge (F := F) (rest := dif m (2 ^ low m)) (a := low m) (nu := nuB F n) (List.range n) (nuB F n (dif m (2 ^ low m))) with h | ⟨b, hbm, hbit, h⟩
        · rw [nuB_eq hm, h]
        · rw [← nuB_eq hm] at h
          exact absurd (by rw [hbit, h]; simp) (hnone b hbm)
      | some b =>
        rw [pairB_some hm hb]
        have hfind := List.find?_some hb
        simp only [Bool.and_eq_true, decide_eq_true_eq] at hfind
        obtain ⟨hbit, hnu⟩ := hfind
        rw [Nat.testBit_and, Bool.and_eq_true, e1, without_iff] at hbit
        obtain ⟨⟨hbm, hne⟩, hfit⟩ := hbit
        have h2 := dif2_lt (b := b) hm
        obtain ⟨i1, i2, i3⟩ := pairB_ok k' (dif (dif m (2 ^ low m)) (2 ^ b)) (by omega) fun x hx => hn x (by rw [dif_at, dif_at] at hx; simp at hx; exact hx.1.1)
        rw [e1, e1] at i1
        refine ⟨i1.cons hlow.1 hbm (fun e => hne e.symm) hfit, ?_, fun p hp => ?_⟩
        · rw [List.length_cons, i2, hnu]; omega
        · rcases List.mem_cons.1 hp with rfl | hp
          · show low m < b
            rcases Nat.lt_trichotomy b (low m) with h | h | h
            · rw [hlow.2 b h] at hbm; cases hbm
            · exact absurd h hne
            · exact h
          · exact i3 p hp

/-! ### Truths -/
/-- Three by three. -/
def grp : List Int → List Pt
  | a :: b :: c :: l => ⟨a, b, c⟩ :: grp l
  | _ => []
def flatC (l : List Ch) : List Int := l.flatMap fun c => c.parts.l
def flatP (l : List Pt) : List Int := l.flatMap Pt.l
theorem flatP_cons (p : Pt) (l : List Pt) : flatP (p :: l) = p.a :: p.b :: p.c :: flatP l := rfl
theorem grp_flat (l : List Pt) : grp (flatP l) = l := by
  induction l with
  | nil => rfl
  | cons p l ih => rw [flatP_cons, grp, ih]
theorem flatC_length (l : List Ch) : (flatC l).length = 3 * l.length := by
  induction l with
  | nil => rfl
  | cons c l ih => unfold flatC at ih ⊢; rw [List.flatMap_cons, List.length_append, ih, List.length_cons]; simp [Pt.l]; omega
theorem flatP_length (l : List Pt) : (flatP l).length = 3 * l.length := by
  induction l with
  | nil => rfl
  | cons c l ih => rw [flatP_cons]; simp only [List.length_cons, ih]; omega
theorem grp_of : ∀ (n : Nat) (l : List Int), l.length = 3 * n → flatP (grp l) = l ∧ (grp l).length = n
  | 0, l, h => by
    obtain rfl : l = [] := List.length_eq_zero_iff.1 (by omega)
    exact ⟨rfl, rfl⟩
  | n + 1, l, h => by
    match l, h with
    | a :: b :: c :: l, h =>
      obtain ⟨h1, h2⟩ := grp_of n l (by simp only [List.length_cons] at h; omega)
      rw [grp, flatP_cons]
      exact ⟨by rw [h1], by rw [List.length_cons, h2]⟩
/-- All truths, the last part changes first. -/
def truthsD (y : YardD) : List (List Pt) := (C1.allT (flatC y.chairs)).map grp

theorem mem_allT : ∀ {l t : List Int}, t ∈ C1.allT l ↔ t.length = l.length ∧ ∀ x ∈ l.zip t, partIs x.1 x.2 = true ∧ True
  | [], t => by simp [C1.allT]
  | p :: l, t => by
    have ih := fun t => @mem_allT l t
    cases t with
    | nil => simp [C1.allT]
    | cons x t =>
      have : x :: t ∈ C1.allT (p :: l) ↔ ((p = 2 ∨ p = x) ∧ (x = 0 ∨ x = 1)) ∧ t ∈ C1.allT l := by
        rw [show C1.allT (p :: l) = (if p = 2 ∨ p = 0 then (C1.allT l).map (0 :: ·) else []) ++ (if p = 2 ∨ p = 1 then (C1.allT l).map (1 :: ·) else []) from rfl, List.mem_append]
        constructor
        · rintro (h | h)
          · split at h
            · rename_i hp
              obtain ⟨s, hs, he⟩ := List.mem_map.1 h
              obtain ⟨rfl, rfl⟩ := List.cons.inj he
              exact ⟨⟨hp, Or.inl rfl⟩, hs⟩
            · cases h
          · split at h
            · rename_i hp
              obtain ⟨s, hs, he⟩ := List.mem_map.1 h
              obtain ⟨rfl, rfl⟩ := List.cons.inj he
              exact ⟨⟨hp, Or.inr rfl⟩, hs⟩
            · cases h
        · rintro ⟨⟨hp, rfl | rfl⟩, ht⟩
          · exact Or.inl (by rw [if_pos hp]; exact List.mem_map.2 ⟨t, ht, rfl⟩)
          · exact Or.inr (by rw [if_pos hp]; exact List.mem_map.2 ⟨t, ht, rfl⟩)
      rw [this, ih]
      simp only [List.length_cons, List.zip_cons_cons, List.mem_cons, and_true, forall_eq_or_imp, Nat.add_right_cancel_iff]
      have : partIs p x = true ↔ (p = 2 ∨ p = x) ∧ (x = 0 ∨ x = 1) := by
        unfold partIs
        simp only [Bool.and_eq_true, inB_iff, Bool.or_eq_true, decide_eq_true_eq]
        constructor
        · rintro ⟨h1, h2⟩; exact ⟨h2.imp id Eq.symm, by omega⟩
        · rintro ⟨h1, h2⟩; exact ⟨by omega, h1.imp id Eq.symm⟩
      rw [this]
      constructor
      · rintro ⟨h1, h2, h3⟩; exact ⟨h2, h1, h3⟩
      · rintro ⟨h2, h1, h3⟩; exact ⟨h1, h2, h3⟩
theorem zip_flat : ∀ {l : List Ch} {t : List Pt}, t.length = l.length → (∀ x ∈ (flatC l).zip (flatP t), partIs x.1 x.2 = true) = ((l.zip t).all fun x => ptsIs x.1.parts x.2) 
  | [], [], _ => by simp [flatC, flatP]
  | c :: l, p :: t, h => by
    have ih := zip_flat (l := l) (t := t) (by simpa using h)
    rw [List.zip_cons_cons, List.all_cons, Bool.and_eq_true, ← ih]
    rw [flatP_cons, show flatC (c :: l) = c.parts.a :: c.parts.b :: c.parts.c :: flatC l from rfl]
    simp only [List.zip_cons_cons, List.mem_cons, forall_eq_or_imp, ptsIs, Pt.l, List.zip_nil_left, List.all_cons, List.all_nil, Bool.and_true, Bool.and_eq_true, and_assoc, eq_iff_iff]
theorem mem_truthsD {y : YardD} {t : List Pt} : t ∈ truthsD y ↔ isTruth y t = true := by
  unfold truthsD isTruth
  rw [List.mem_map, Bool.and_eq_true, decide_eq_true_eq]
  constructor
  · rintro ⟨s, hs, rfl⟩
    obtain ⟨h1, h2⟩ := mem_allT.1 hs
    rw [flatC_length] at h1
    obtain ⟨g1, g2⟩ := grp_of _ _ h1
    refine ⟨g2, ?_⟩
    rw [← zip_flat g2, g1]
    exact fun x hx => (h2 x hx).1
  · rintro ⟨h1, h2⟩
    refine ⟨flatP t, mem_allT.2 ⟨by rw [flatC_length, flatP_length, h1], fun x hx => ⟨?_, trivial⟩⟩, grp_flat t⟩
    rw [← zip_flat h1] at h2
    exact h2 x hx

end Go.Fs.C7
