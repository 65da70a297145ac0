/- The greatest number of pairs, as the program finds it: by bits, the lowest chair first (layer 7). -/
import Derived.Test.YtjhdcelmgfajbaaPairs
namespace Go.Fs.C7

theorem bit_lt {m a : Nat} (h : m.testBit a = true) : dif m (2 ^ a) < m := by
  have h1 := dif_le m (2 ^ a)
  have h2 : dif m (2 ^ a) ≠ m := fun e => by
    have := dif_bit m (2 ^ a) a
    rw [e, h, Nat.testBit_two_pow_self] at this
    cases this
  omega
theorem dif_at (m a i : Nat) : (dif m (2 ^ a)).testBit i = (m.testBit i && !decide (a = i)) := by
  rw [dif_bit, Nat.testBit_two_pow]

/-- The lowest bit. -/
def low (m : Nat) : Nat := ((List.range m).find? fun i => m.testBit i).getD 0
theorem low_spec {m : Nat} (h : m ≠ 0) : m.testBit (low m) = true ∧ ∀ i, i < low m → m.testBit i = false := by
  obtain ⟨i, hi⟩ := Nat.exists_testBit_of_ne_zero h
  have him : i < m := Nat.lt_of_lt_of_le Nat.lt_two_pow_self (Nat.ge_two_pow_of_testBit hi)
  unfold low
  cases hf : (List.range m).find? fun i => m.testBit i with
  | none =>
    have := List.find?_eq_none.1 hf i (List.mem_range.2 him)
    exact absurd hi this
  | some j =>
    have h1 := List.find?_some hf
    refine ⟨h1, fun k hk => ?_⟩
    simp only [Option.getD_some] at hk
    obtain ⟨_, l1, l2, hab, hno⟩ := List.find?_eq_some_iff_append.1 hf
    have hjm : j < m := List.mem_range.1 (List.mem_of_find?_eq_some hf)
    have hlen : l1.length = j := by
      have h2 : (List.range m)[l1.length]? = some j := by rw [hab, List.getElem?_append_right (Nat.le_refl _)]; simp
      have hl : l1.length < m := by
        have := congrArg List.length hab
        simp at this; omega
      rw [List.getElem?_range hl] at h2
      exact Option.some.inj h2
    have hkm : (List.range m)[k]? = some k := List.getElem?_range (by omega)
    rw [hab, List.getElem?_append_left (by omega)] at hkm
    have := hno k (List.mem_of_getElem? hkm)
    simpa using this

/-- Do two chairs fit, by the rows of bits? -/
def fB (F : List Nat) (a b : Nat) : Bool := (F.getD a 0).testBit b
def stepB (F : List Nat) (rest a : Nat) (nu : Nat → Nat) (m b : Nat) : Nat := if (rest &&& F.getD a 0).testBit b = true then max m (1 + nu (dif rest (2 ^ b))) else m
def nuG (F : List Nat) (n : Nat) : Nat → Nat → Nat
  | 0, _ => 0
  | k + 1, m => if m = 0 then 0 else (List.range n).foldl (stepB F (dif m (2 ^ low m)) (low m) (nuG F n k)) (nuG F n k (dif m (2 ^ low m)))
def nuB (F : List Nat) (n m : Nat) : Nat := nuG F n m m

theorem foldl_congr {α β : Type} {f g : β → α → β} : ∀ {l : List α} {b : β}, (∀ b, ∀ a ∈ l, f b a = g b a) → l.foldl f b = l.foldl g b
  | [], _, _ => rfl
  | x :: l, b, h => by
    rw [List.foldl_cons, List.foldl_cons, h b x List.mem_cons_self]
    exact foldl_congr fun b a ha => h b a (List.mem_cons_of_mem _ ha)
theorem nuG_fuel {F : List Nat} {n : Nat} : ∀ (k m l : Nat), m ≤ k → m ≤ l → nuG F n k m = nuG F n l m
  | 0, m, l, h, _ => by
    obtain rfl : m = 0 := by omega
    cases l <;> simp [nuG]
  | k + 1, m, 0, _, h => by
    obtain rfl : m = 0 := by omega
    simp [nuG]
  | k + 1, m, l + 1, h, h' => by
    simp only [nuG]
    by_cases hm : m = 0
    · rw [if_pos hm, if_pos hm]
    · rw [if_neg hm, if_neg hm]
      have hlt := bit_lt (low_spec hm).1
      have e0 := nuG_fuel (F := F) (n := n) k (dif m (2 ^ low m)) l (by omega) (by omega)
      rw [e0]
      refine foldl_congr fun b a _ => ?_
      unfold stepB
      split
      · have := dif_le (dif m (2 ^ low m)) (2 ^ a)
        rw [nuG_fuel k (dif (dif m (2 ^ low m)) (2 ^ a)) l (by omega) (by omega)]
      · rfl
theorem nuB_zero {F : List Nat} {n : Nat} : nuB F n 0 = 0 := rfl
theorem nuB_eq {F : List Nat} {n m : Nat} (h : m ≠ 0) : nuB F n m = (List.range n).foldl (stepB F (dif m (2 ^ low m)) (low m) (nuB F n)) (nuB F n (dif m (2 ^ low m))) := by
  have hlt := bit_lt (low_spec h).1
  obtain ⟨k, rfl⟩ : ∃ k, m = k + 1 := ⟨m - 1, by omega⟩
  show nuG F n (k + 1) (k + 1) = _
  rw [nuG, if_neg h]
  rw [nuG_fuel k (dif (k + 1) (2 ^ low (k + 1))) (dif (k + 1) (2 ^ low (k + 1))) (by omega) (Nat.le_refl _)]
  refine foldl_congr fun b a _ => ?_
  unfold stepB
  split
  · have := dif_le (dif (k + 1) (2 ^ low (k + 1))) (2 ^ a)
    rw [nuG_fuel k (dif (dif (k + 1) (2 ^ low (k + 1))) (2 ^ a)) _ (by omega) (Nat.le_refl _)]
    rfl
  · rfl

theorem foldl_filter' {α β : Type} {f : β → α → β} {p : α → Bool} : ∀ {l : List α} {b : β}, (l.filter p).foldl f b = l.foldl (fun b a => if p a = true then f b a else b) b
  | [], _ => rfl
  | x :: l, b => by
    rw [List.filter_cons, List.foldl_cons]
    split
    · rw [List.foldl_cons]; exact foldl_filter'
    · exact foldl_filter'

/-- It is the greatest number of pairs. -/
theorem nuB_is {F : List Nat} {n : Nat} (hsym : ∀ a b, fB F a b = fB F b a) : ∀ (k m : Nat), m ≤ k → (∀ x, m.testBit x = true → x < n) → IsNu (fB F) m.testBit (nuB F n m)
  | k, m, hk, hn => by
    by_cases hm : m = 0
    · subst hm
      exact IsNu.empty fun x => Nat.zero_testBit x
    · have hlow := low_spec hm
      have hlt := bit_lt hlow.1
      obtain ⟨k', rfl⟩ : ∃ k', k = k' + 1 := ⟨k - 1, by omega⟩
      have e1 : ∀ m a : Nat, (dif m (2 ^ a)).testBit = without m.testBit a := fun m a => by
        funext x
        rw [dif_at]; unfold without
        by_cases h : a = x
        · subst h; simp
        · have h' : x ≠ a := fun e => h e.symm
          simp [h, h']
      have i0 := nuB_is hsym k' (dif m (2 ^ low m)) (by omega) fun x hx => hn x (by rw [dif_at] at hx; simp at hx; exact hx.1)
      rw [e1] at i0
      have ig : ∀ b, m.testBit b = true → b ≠ low m → fB F (low m) b = true → IsNu (fB F) (without (without m.testBit (low m)) b) (nuB F n (dif (dif m (2 ^ low m)) (2 ^ b))) := fun b _ _ _ => by
        have := dif_le (dif m (2 ^ low m)) (2 ^ b)
        have i1 := nuB_is hsym k' (dif (dif m (2 ^ low m)) (2 ^ b)) (by omega) fun x hx => hn x (by rw [dif_at, dif_at] at hx; simp at hx; exact hx.1.1)
        rw [e1, e1] at i1
        exact i1
      have key := nu_step hsym hlow.1 hn i0 ig
      rw [foldl_filter'] at key
      rw [nuB_eq hm]
      have : (List.range n).foldl (stepB F (dif m (2 ^ low m)) (low m) (nuB F n)) (nuB F n (dif m (2 ^ low m))) = (List.range n).foldl (fun k b => if ((m.testBit b && decide (b ≠ low m)) && fB F (low m) b) = true then max k (1 + nuB F n (dif (dif m (2 ^ low m)) (2 ^ b))) else k) (nuB F n (dif m (2 ^ low m))) := by
        refine foldl_congr fun k b _ => ?_
        unfold stepB
        rw [Nat.testBit_and, e1]
        rfl
      rw [this]
      exact key

end Go.Fs.C7
