/- The laws of layer 1 in plain Lean: truths by what is in them, the least number of wrong counts, rows that are turned. -/
import Derived.Test.YtgnnlghoadfffaaNeed
namespace Go.Fs.C1

/-! ### Truths, by their members -/
theorem mem_allT : ∀ {l t : List Int}, t ∈ allT l ↔ t.length = l.length ∧ ∀ (k : Nat) (x p : Int), t[k]? = some x → l[k]? = some p → (x = 0 ∨ x = 1) ∧ (p = 2 ∨ p = x)
  | [], t => by
    simp only [allT, List.mem_singleton, List.length_nil]
    constructor
    · rintro rfl; simp
    · rintro ⟨h, _⟩; exact List.length_eq_zero_iff.1 h
  | p :: ps, t => by
    have key : ∀ c : Int, (c = 0 ∨ c = 1) → (t ∈ (if p = 2 ∨ p = c then (allT ps).map (c :: ·) else []) ↔ ∃ u, t = c :: u ∧ u ∈ allT ps ∧ (p = 2 ∨ p = c)) := by
      intro c _
      split
      · rename_i h
        simp only [List.mem_map]
        constructor
        · rintro ⟨u, hu, rfl⟩; exact ⟨u, rfl, hu, h⟩
        · rintro ⟨u, rfl, hu, _⟩; exact ⟨u, hu, rfl⟩
      · rename_i h
        constructor
        · intro h'; cases h'
        · rintro ⟨_, _, _, h'⟩; exact absurd h' h
    simp only [allT, List.mem_append]
    rw [key 0 (Or.inl rfl), key 1 (Or.inr rfl)]
    constructor
    · have mk : ∀ (c : Int) (u : List Int), (c = 0 ∨ c = 1) → t = c :: u → u ∈ allT ps → (p = 2 ∨ p = c) → t.length = (p :: ps).length ∧ ∀ (k : Nat) (x p' : Int), t[k]? = some x → (p :: ps)[k]? = some p' → (x = 0 ∨ x = 1) ∧ (p' = 2 ∨ p' = x) := by
        rintro c u hc rfl hu hp
        obtain ⟨h1, h2⟩ := mem_allT.1 hu
        refine ⟨by simp [h1], fun k x p' hx hp' => ?_⟩
        cases k with
        | zero =>
          simp only [List.getElem?_cons_zero, Option.some.injEq] at hx hp'
          subst hx hp'; exact ⟨hc, hp⟩
        | succ k => simp only [List.getElem?_cons_succ] at hx hp'; exact h2 k x p' hx hp'
      rintro (⟨u, h1, h2, h3⟩ | ⟨u, h1, h2, h3⟩)
      · exact mk 0 u (Or.inl rfl) h1 h2 h3
      · exact mk 1 u (Or.inr rfl) h1 h2 h3
    · rintro ⟨h1, h2⟩
      cases t with
      | nil => simp at h1
      | cons c u =>
        have h0 := h2 0 c p rfl rfl
        have hu : u ∈ allT ps := mem_allT.2 ⟨by simpa using h1, fun k x p' hx hp' => h2 (k + 1) x p' (by simpa using hx) (by simpa using hp')⟩
        rcases h0.1 with rfl | rfl
        · exact Or.inl ⟨u, rfl, hu, h0.2⟩
        · exact Or.inr ⟨u, rfl, hu, h0.2⟩
theorem mem_truths {r : RowD} {t : List Int} : t ∈ truths r ↔ t ∈ allT r.places ∧ fits r t = true := List.mem_filter
theorem fits_iff {r : RowD} {t : List Int} : fits r t = true ↔ explains r t = true ∧ (wrongs r t : Int) ≤ r.wrong := by simp [fits]
theorem explains_iff {r : RowD} {t : List Int} : explains r t = true ↔ ∀ c ∈ r.counts, errOf t c ≤ r.off := by simp [explains]
theorem truths_bits (r : RowD) : Bits r.places.length (truths r) := fun _ ht => allT_ok (mem_truths.1 ht).1

/-! ### The least number of wrong counts -/
theorem leastFold_spec (r : RowD) : ∀ (us : List (List Int)) (o : Option Int),
    (us.foldl (leastStep r) o = none ↔ o = none ∧ ∀ t ∈ us, explains r t = false) ∧
    ∀ m, us.foldl (leastStep r) o = some m → (o = some m ∨ ∃ t ∈ us, explains r t = true ∧ (wrongs r t : Int) = m) ∧ (∀ n, o = some n → m ≤ n) ∧ ∀ t ∈ us, explains r t = true → m ≤ (wrongs r t : Int)
  | [], o => ⟨by simp, fun m hm => ⟨Or.inl hm, fun n hn => by rw [List.foldl_nil] at hm; rw [hm] at hn; cases hn; exact Int.le_refl _, fun t ht => by cases ht⟩⟩
  | u :: us, o => by
    rw [List.foldl_cons]
    obtain ⟨h1, h2⟩ := leastFold_spec r us (leastStep r o u)
    refine ⟨?_, fun m hm => ?_⟩
    · rw [h1]
      unfold leastStep
      by_cases he : explains r u = true
      · rw [if_pos he]; simp [he]
      · rw [if_neg he]
        simp only [List.mem_cons, forall_eq_or_imp]
        simp [Bool.eq_false_iff.2 he]
    · obtain ⟨a, b, c⟩ := h2 m hm
      unfold leastStep at a b
      by_cases he : explains r u = true
      · rw [if_pos he] at a b
        have bn := b _ rfl
        refine ⟨?_, fun n hn => ?_, fun t ht ht' => ?_⟩
        · rcases a with a | ⟨t, ht, a⟩
          · cases o with
            | none => simp only [Option.some.injEq] at a; exact Or.inr ⟨u, List.mem_cons_self, he, a⟩
            | some n =>
              simp only [Option.some.injEq] at a
              rcases Int.le_total n (wrongs r u) with h | h
              · exact Or.inl (by rw [← a, Int.min_eq_left h])
              · exact Or.inr ⟨u, List.mem_cons_self, he, by rw [← a, Int.min_eq_right h]⟩
          · exact Or.inr ⟨t, List.mem_cons_of_mem _ ht, a⟩
        · subst hn; simp only at bn; omega
        · rcases List.mem_cons.1 ht with rfl | ht
          · cases o with
            | none => simpa using bn
            | some n => simp only at bn; omega
          · exact c t ht ht'
      · rw [if_neg he] at a b
        refine ⟨?_, b, fun t ht ht' => ?_⟩
        · rcases a with a | ⟨t, ht, a⟩
          · exact Or.inl a
          · exact Or.inr ⟨t, List.mem_cons_of_mem _ ht, a⟩
        · rcases List.mem_cons.1 ht with rfl | ht
          · exact absurd ht' he
          · exact c t ht ht'
theorem least_none {r : RowD} {us : List (List Int)} : leastOf r us = none ↔ ∀ t ∈ us, explains r t = false := by
  unfold leastOf; rw [(leastFold_spec r us none).1]; simp
theorem least_some {r : RowD} {us : List (List Int)} {m : Int} (h : leastOf r us = some m) : (∃ t ∈ us, explains r t = true ∧ (wrongs r t : Int) = m) ∧ ∀ t ∈ us, explains r t = true → m ≤ (wrongs r t : Int) := by
  obtain ⟨a, _, c⟩ := (leastFold_spec r us none).2 m h
  exact ⟨a.resolve_left (by simp), c⟩
theorem least_of {r : RowD} {us : List (List Int)} {t : List Int} (ht : t ∈ us) (he : explains r t = true) : ∃ m, leastOf r us = some m ∧ m ≤ (wrongs r t : Int) := by
  cases h : leastOf r us with
  | none => rw [least_none.1 h t ht] at he; cases he
  | some m => exact ⟨m, rfl, (least_some h).2 t ht he⟩
/-- The same wrong counts in the same truths: the same least number. -/
theorem least_map {r x : RowD} {us vs : List (List Int)} (f g : List Int → List Int) (h1 : ∀ t ∈ us, f t ∈ vs ∧ explains x (f t) = explains r t ∧ wrongs x (f t) = wrongs r t) (h2 : ∀ t ∈ vs, g t ∈ us ∧ explains r (g t) = explains x t ∧ wrongs r (g t) = wrongs x t) : leastOf r us = leastOf x vs := by
  cases hr : leastOf r us with
  | none =>
    symm; rw [least_none]
    intro t ht
    rw [← (h2 t ht).2.1]; exact least_none.1 hr _ (h2 t ht).1
  | some m =>
    obtain ⟨⟨t, ht, he, hw⟩, hm⟩ := least_some hr
    obtain ⟨m', hx, hle⟩ := least_of (r := x) (h1 t ht).1 (by rw [(h1 t ht).2.1]; exact he)
    obtain ⟨⟨t', ht', he', hw'⟩, _⟩ := least_some hx
    have := hm _ (h2 t' ht').1 (by rw [(h2 t' ht').2.1]; exact he')
    rw [(h2 t' ht').2.2] at this
    rw [(h1 t ht).2.2] at hle
    rw [hx]; congr 1; omega

/-! ### A row from the other end -/
def flipC (c : Cnt) : Cnt := { c with back := !c.back }
def turnD (r : RowD) : RowD := { r with places := r.places.reverse, counts := r.counts.map flipC }
theorem turn_ok {r : RowD} (h : RowOk r) : RowOk (turnD r) :=
  ⟨by simpa [turnD] using h.len0, by simpa [turnD] using h.len9, by simpa [turnD] using h.cnt6, h.wrong, h.off, fun p hp => h.place p (by simpa [turnD] using hp), fun c hc => by
    simp only [turnD, List.mem_map] at hc
    obtain ⟨d, hd, rfl⟩ := hc
    simpa [turnD, flipC] using h.cnt d hd⟩
theorem flip_flip (c : Cnt) : flipC (flipC c) = c := by simp [flipC]
theorem turn_turn (r : RowD) : turnD (turnD r) = r := by
  unfold turnD
  simp [Function.comp_def, flip_flip]
theorem sum_reverse (l : List Int) : l.reverse.sum = l.sum := by
  induction l with
  | nil => rfl
  | cons x l ih => rw [List.reverse_cons, List.sum_append, ih, List.sum_cons]; simp; omega
theorem sumFrom_reverse (t : List Int) {i k : Nat} (h : i + k ≤ t.length) : sumFrom t.reverse i k = sumFrom t (t.length - i - k) k := by
  unfold sumFrom
  rw [List.drop_reverse, List.take_reverse, sum_reverse]
  congr 1
  rw [List.length_take, Nat.min_eq_left (by omega), List.drop_take]
  congr 1; omega
theorem about_reverse {t : List Int} {c : Cnt} (h0 : 0 ≤ c.many) (h1 : c.many ≤ t.length) : about t.reverse (flipC c) = about t c := by
  have hm : c.many.toNat ≤ t.length := by omega
  unfold about flipC
  cases c.back
  · simp only [Bool.not_false, if_true, Bool.false_eq_true, if_false, List.length_reverse]
    rw [sumFrom_reverse t (by omega)]
    congr 1; omega
  · simp only [Bool.not_true, Bool.false_eq_true, if_false, if_true]
    rw [sumFrom_reverse t (by omega)]
    congr 1
theorem errOf_reverse {t : List Int} {c : Cnt} (h0 : 0 ≤ c.many) (h1 : c.many ≤ t.length) : errOf t.reverse (flipC c) = errOf t c := by
  unfold errOf; rw [about_reverse h0 h1]; rfl
theorem explains_turn {r : RowD} {t : List Int} (hok : RowOk r) (hl : t.length = r.places.length) : explains (turnD r) t.reverse = explains r t := by
  rw [Bool.eq_iff_iff, explains_iff, explains_iff]
  simp only [turnD, List.mem_map]
  constructor
  · intro h c hc
    have := h _ ⟨c, hc, rfl⟩
    rwa [errOf_reverse (hok.cnt c hc).1 (by rw [hl]; exact (hok.cnt c hc).2.1)] at this
  · rintro h _ ⟨c, hc, rfl⟩
    rw [errOf_reverse (hok.cnt c hc).1 (by rw [hl]; exact (hok.cnt c hc).2.1)]; exact h c hc
theorem wrongs_turn {r : RowD} {t : List Int} (hok : RowOk r) (hl : t.length = r.places.length) : wrongs (turnD r) t.reverse = wrongs r t := by
  unfold wrongs turnD
  simp only
  rw [List.filter_map, List.length_map]
  congr 1
  apply List.filter_congr
  intro c hc
  simp only [Function.comp]
  rw [errOf_reverse (hok.cnt c hc).1 (by rw [hl]; exact (hok.cnt c hc).2.1)]
theorem all_turn {r : RowD} {t : List Int} (h : t ∈ allT r.places) : t.reverse ∈ allT (turnD r).places := by
  rw [mem_allT] at h ⊢
  obtain ⟨hl, h⟩ := h
  refine ⟨by simpa [turnD] using hl, fun k x p hx hp => ?_⟩
  simp only [turnD] at hp
  have hk : k < t.length := by have := (List.getElem?_eq_some_iff.1 hx).1; simpa using this
  rw [List.getElem?_reverse hk] at hx
  rw [List.getElem?_reverse (by rw [← hl]; exact hk), ← hl] at hp
  exact h _ x p hx hp
theorem truths_turn {r : RowD} (hok : RowOk r) {t : List Int} (h : t ∈ truths r) : t.reverse ∈ truths (turnD r) := by
  rw [mem_truths] at h ⊢
  have hl := (allT_ok h.1).1
  refine ⟨all_turn h.1, ?_⟩
  rw [fits_iff] at h ⊢
  rw [explains_turn hok hl, wrongs_turn hok hl]
  exact h.2
theorem mem_turn {r : RowD} (hok : RowOk r) {t : List Int} : t ∈ truths (turnD r) ↔ t.reverse ∈ truths r := by
  constructor
  · intro h
    have := truths_turn (turn_ok hok) h
    rwa [turn_turn] at this
  · intro h
    have := truths_turn hok h
    rwa [List.reverse_reverse] at this
theorem turn_nil {r : RowD} (hok : RowOk r) : truths (turnD r) = [] ↔ truths r = [] := by
  rw [List.eq_nil_iff_forall_not_mem, List.eq_nil_iff_forall_not_mem]
  constructor
  · intro h t ht; exact h t.reverse (truths_turn hok ht)
  · intro h t ht; exact h t.reverse ((mem_turn hok).1 ht)
theorem ask_turn {r : RowD} (hok : RowOk r) : askErr (turnD r) true = askErr r true := by
  unfold askErr
  rw [rowOk_iff.2 hok, rowOk_iff.2 (turn_ok hok)]
  simp [turn_nil hok]
theorem least_turn {r : RowD} (hok : RowOk r) : leastOf (turnD r) (allT (turnD r).places) = leastOf r (allT r.places) := by
  symm
  have key : ∀ {x : RowD}, RowOk x → ∀ t ∈ allT x.places, t.reverse ∈ allT (turnD x).places ∧ explains (turnD x) t.reverse = explains x t ∧ wrongs (turnD x) t.reverse = wrongs x t := fun hx t ht => ⟨all_turn ht, explains_turn hx (allT_ok ht).1, wrongs_turn hx (allT_ok ht).1⟩
  refine least_map List.reverse List.reverse (key hok) fun t ht => ?_
  have := key (turn_ok hok) t ht
  rwa [turn_turn] at this
theorem partOf_reverse {t : List Int} {i j : Nat} (hij : i ≤ j) (hj : j < t.length) : partOf t.reverse (t.length - 1 - j) (t.length - 1 - i) = partOf t i j := by
  unfold partOf
  rw [sumFrom_reverse t (by omega), show t.length - 1 - i + 1 - (t.length - 1 - j) = j + 1 - i by omega, show t.length - (t.length - 1 - j) - (j + 1 - i) = i by omega]
theorem bounds_turn {r : RowD} (hok : RowOk r) {i j : Nat} (hij : i ≤ j) (hj : j < r.places.length) : loOf (truths (turnD r)) (r.places.length - 1 - j) (r.places.length - 1 - i) = loOf (truths r) i j ∧ hiOf (truths (turnD r)) (r.places.length - 1 - j) (r.places.length - 1 - i) = hiOf (truths r) i j := by
  have e : ∀ t ∈ truths r, partOf t.reverse (r.places.length - 1 - j) (r.places.length - 1 - i) = partOf t i j := fun t ht => by
    have hl := (truths_bits r t ht).1
    rw [← hl]; exact partOf_reverse hij (by omega)
  by_cases hne : truths r = []
  · rw [hne, (turn_nil hok).2 hne]; exact ⟨rfl, rfl⟩
  have hne' : truths (turnD r) ≠ [] := fun h => hne ((turn_nil hok).1 h)
  obtain ⟨t1, m1, q1⟩ := lo_mem (i := i) (j := j) hne
  obtain ⟨t2, m2, q2⟩ := hi_mem (i := i) (j := j) hne
  obtain ⟨t3, m3, q3⟩ := lo_mem (i := r.places.length - 1 - j) (j := r.places.length - 1 - i) hne'
  obtain ⟨t4, m4, q4⟩ := hi_mem (i := r.places.length - 1 - j) (j := r.places.length - 1 - i) hne'
  have a1 := lo_le (i := r.places.length - 1 - j) (j := r.places.length - 1 - i) (truths_turn hok m1)
  have a2 := le_hi (i := r.places.length - 1 - j) (j := r.places.length - 1 - i) (truths_turn hok m2)
  have n3 := (mem_turn hok).1 m3
  have n4 := (mem_turn hok).1 m4
  have a3 := lo_le (i := i) (j := j) n3
  have a4 := le_hi (i := i) (j := j) n4
  have e3 := e _ n3
  have e4 := e _ n4
  rw [List.reverse_reverse] at e3 e4
  have e1 := e _ m1
  have e2 := e _ m2
  omega
theorem Tree.rev {n i j : Nat} (hij : i ≤ j) (hj : j < n) : ∀ {d : Nat} {ts us : List (List Int)}, (∀ t ∈ ts, t.length = n) → (∀ t, t ∈ us ↔ t.reverse ∈ ts) → Tree n i j d ts → Tree n (n - 1 - j) (n - 1 - i) d us := by
  have cst : ∀ {ts us : List (List Int)}, (∀ t ∈ ts, t.length = n) → (∀ t, t ∈ us ↔ t.reverse ∈ ts) → Const i j ts → Const (n - 1 - j) (n - 1 - i) us := by
    intro ts us hl hm h t ht t' ht'
    have e : ∀ u, u.reverse ∈ ts → partOf u (n - 1 - j) (n - 1 - i) = partOf u.reverse i j := fun u hu => by
      have := partOf_reverse (t := u.reverse) hij (by rw [hl _ hu]; exact hj)
      rw [List.reverse_reverse, hl _ hu] at this
      exact this
    rw [e t ((hm t).1 ht), e t' ((hm t').1 ht')]
    exact h _ ((hm t).1 ht) _ ((hm t').1 ht')
  intro d
  induction d with
  | zero => intro ts us hl hm h; exact cst hl hm h
  | succ d ih =>
    intro ts us hl hm h
    rcases h with h | ⟨k, hk, h0, h1, t0, t1⟩
    · exact Or.inl (cst hl hm h)
    · have g : ∀ t : List Int, t.reverse ∈ ts → t.getD (n - 1 - k) 0 = t.reverse.getD k 0 := fun t ht => by
        have hl' := hl _ ht
        rw [List.length_reverse] at hl'
        rw [List.getD_eq_getElem?_getD, List.getD_eq_getElem?_getD, List.getElem?_reverse (by omega), hl']
      have sm : ∀ b : Int, ∀ t, t ∈ seenT us (n - 1 - k) b ↔ t.reverse ∈ seenT ts k b := fun b t => by
        rw [mem_seenT, mem_seenT, hm t]
        constructor
        · rintro ⟨a, c⟩; exact ⟨a, by rw [← g t a]; exact c⟩
        · rintro ⟨a, c⟩; exact ⟨a, by rw [g t a]; exact c⟩
      have ne : ∀ b : Int, seenT ts k b ≠ [] → seenT us (n - 1 - k) b ≠ [] := fun b h he => by
        obtain ⟨t, l, e⟩ := List.exists_cons_of_ne_nil h
        have : t.reverse ∈ seenT us (n - 1 - k) b := (sm b _).2 (by rw [List.reverse_reverse, e]; exact List.mem_cons_self)
        rw [he] at this; cases this
      exact Or.inr ⟨n - 1 - k, by omega, ne 0 h0, ne 1 h1, ih (fun t ht => hl t (mem_seenT.1 ht).1) (sm 0) t0, ih (fun t ht => hl t (mem_seenT.1 ht).1) (sm 1) t1⟩
theorem need_turn {r : RowD} (hok : RowOk r) {i j : Nat} (hij : i ≤ j) (hj : j < r.places.length) (h1 : (truths r).length ≤ 600) (h2 : (truths (turnD r)).length ≤ 600) :
    needN r.places.length (r.places.length - 1 - j) (r.places.length - 1 - i) (truths (turnD r)) = needN r.places.length i j (truths r) := by
  have hb := truths_bits r
  have hb' : Bits r.places.length (truths (turnD r)) := by have := truths_bits (turnD r); simpa [turnD] using this
  have a0 := needN_nonneg r.places.length i j (truths r)
  have a1 := needN_le (i := i) (j := j) h1 hb
  have b0 := needN_nonneg r.places.length (r.places.length - 1 - j) (r.places.length - 1 - i) (truths (turnD r))
  have b1 := needN_le (i := r.places.length - 1 - j) (j := r.places.length - 1 - i) h2 hb'
  have c1 := (needN_tree (n := r.places.length) (i := i) (j := j) (d := (needN r.places.length i j (truths r)).toNat) h1 (by omega)).1 (by omega)
  have d1 := c1.rev hij hj (fun t ht => (hb t ht).1) (fun t => mem_turn hok)
  have e1 := (needN_tree (d := (needN r.places.length i j (truths r)).toNat) h2 (by omega)).2 d1
  have c2 := (needN_tree (n := r.places.length) (i := r.places.length - 1 - j) (j := r.places.length - 1 - i) (d := (needN r.places.length (r.places.length - 1 - j) (r.places.length - 1 - i) (truths (turnD r))).toNat) h2 (by omega)).1 (by omega)
  have d2 := c2.rev (by omega) (by omega) (us := truths r) (fun t ht => (hb' t ht).1) (fun t => by rw [mem_turn hok, List.reverse_reverse])
  rw [show r.places.length - 1 - (r.places.length - 1 - i) = i by omega, show r.places.length - 1 - (r.places.length - 1 - j) = j by omega] at d2
  have e2 := (needN_tree (d := (needN r.places.length (r.places.length - 1 - j) (r.places.length - 1 - i) (truths (turnD r))).toNat) h1 (by omega)).2 d2
  omega

/-! ### Wider rows -/
structure WiderD (r x : RowD) : Prop where
  len : x.places.length = r.places.length
  counts : x.counts = r.counts
  wrong : r.wrong ≤ x.wrong
  off : r.off ≤ x.off
  place : ∀ (k : Nat) (p : Int), r.places[k]? = some p → x.places[k]? = some p ∨ x.places[k]? = some 2
theorem all_wider {r x : RowD} (h : WiderD r x) {t : List Int} (ht : t ∈ allT r.places) : t ∈ allT x.places := by
  rw [mem_allT] at ht ⊢
  obtain ⟨h1, h2⟩ := ht
  refine ⟨by rw [h1, h.len], fun k y p hy hp => ?_⟩
  have hk : k < r.places.length := by rw [← h1]; exact (List.getElem?_eq_some_iff.1 hy).1
  have hr := List.getElem?_eq_getElem hk
  obtain ⟨a, b⟩ := h2 k y _ hy hr
  refine ⟨a, ?_⟩
  rcases h.place k _ hr with h' | h' <;> rw [hp] at h' <;> cases h'
  · exact b
  · exact Or.inl rfl
theorem truths_wider {r x : RowD} (h : WiderD r x) {t : List Int} (ht : t ∈ truths r) : t ∈ truths x := by
  rw [mem_truths, fits_iff] at ht ⊢
  obtain ⟨h1, h2, h3⟩ := ht
  refine ⟨all_wider h h1, ?_, ?_⟩
  · rw [explains_iff] at h2 ⊢
    rw [h.counts]
    intro c hc
    have := h2 c hc
    have := h.off
    omega
  · have : wrongs x t = wrongs r t := by unfold wrongs; rw [h.counts]
    rw [this]
    have := h.wrong
    omega
/-- A row has a truth if and only if the least number of wrong counts is at most Wrong. -/
theorem cw_cases {r : RowD} (hok : RowOk r) : (askErr r true = 0 ∧ leastE r = 0 ∧ leastV r ≤ r.wrong) ∨ (askErr r true = 11 ∧ (leastE r = 10 ∨ (leastE r = 0 ∧ r.wrong < leastV r))) := by
  have hf := rowOk_iff.2 hok
  unfold askErr leastE leastV
  rw [hf]
  simp only [ne_eq, not_true_eq_false, if_false, Bool.true_eq_false]
  cases hl : leastOf r (allT r.places) with
  | none =>
    right
    have : truths r = [] := List.eq_nil_iff_forall_not_mem.2 fun t ht => by
      rw [mem_truths, fits_iff] at ht
      have := least_none.1 hl t ht.1
      rw [this] at ht; exact absurd ht.2.1 (by simp)
    rw [if_pos this]
    exact ⟨rfl, Or.inl rfl⟩
  | some m =>
    obtain ⟨⟨t, ht, he, hw⟩, hm⟩ := least_some hl
    simp only [Option.isSome_some, if_true, Option.getD_some, true_and]
    by_cases hmw : m ≤ r.wrong
    · left
      rw [if_neg]
      · exact ⟨rfl, hmw⟩
      · intro hn
        have : t ∈ truths r := mem_truths.2 ⟨ht, fits_iff.2 ⟨he, by omega⟩⟩
        rw [hn] at this; cases this
    · right
      rw [if_pos]
      · exact ⟨rfl, Or.inr (by omega)⟩
      · refine List.eq_nil_iff_forall_not_mem.2 fun t' ht' => ?_
        rw [mem_truths, fits_iff] at ht'
        have := hm t' ht'.1 ht'.2.1
        omega

end Go.Fs.C1
