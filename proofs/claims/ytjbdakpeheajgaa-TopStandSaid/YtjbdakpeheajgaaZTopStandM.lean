/- Of the proof of TopStand: V23, V24. -/
import Derived.Test.YtjbdakpeheajgaaZTopStandL
namespace Go.Fs
open Go.Proofs
open C3
theorem acc_all {e sz b n : Nat} {cells : List Value} (h : cells.length = n * sz) : Acc e sz (.slice (some ⟨b, 0, none⟩) n n) n cells [(b, .cells cells.toArray e (0, 0))] :=
  Or.inr ⟨b, n, [], rfl, Nat.le_refl _, by simp, by omega, by simp; omega⟩
theorem runs_ok (b : BookD) : ∀ (ls : List Lin) (i : Nat) (s : Sc), s.ch.length = 4 → s.tk.length = 4 → ∀ x ∈ runs b ls i s, x.2.length = ls.length + 1 ∧ ∀ u ∈ x.2, u.ch.length = 4 ∧ u.tk.length = 4
  | [], i, s, h4, h5, x, hx => by
    unfold runs at hx
    split at hx
    · obtain rfl : x = ([], [s]) := by simpa using hx
      exact ⟨rfl, fun u hu => by obtain rfl : u = s := by simpa using hu
                                 exact ⟨h4, h5⟩⟩
    · cases hx
  | l :: ls, i, s, h4, h5, x, hx => by
    unfold runs at hx
    split at hx
    · obtain ⟨r, _, hr⟩ := List.mem_flatMap.1 hx
      split at hr
      · obtain ⟨y, hy, rfl⟩ := List.mem_map.1 hr
        obtain ⟨g1, g2⟩ := runs_ok b ls (i + 1) (nextN b s i r) (by unfold nextN; split <;> simp [h4]) (by unfold nextN; split <;> simp [h5]) y hy
        refine ⟨by simp [g1], fun u hu => ?_⟩
        rcases List.mem_cons.1 hu with rfl | hu
        · exact ⟨h4, h5⟩
        · exact g2 u hu
      · cases hr
    · cases hx
theorem runs_len {b : BookD} (hn : b.chairs ≤ 4) : ∀ (ls : List Lin) (i : Nat) (s : Sc), (runs b ls i s).length ≤ 32 ^ ls.length
  | [], i, s => by unfold runs; split <;> simp
  | l :: ls, i, s => by
    unfold runs
    split
    · rw [List.length_flatMap]
      have h1 : ∀ (rs : List Lin), (rs.map fun r => (if canN s r = true then (runs b ls (i + 1) (nextN b s i r)).map fun x => (r :: x.1, s :: x.2) else []).length).sum ≤ rs.length * 32 ^ ls.length := by
        intro rs
        induction rs with
        | nil => simp
        | cons r rs ih =>
          rw [List.map_cons, List.sum_cons, List.length_cons, Nat.add_mul, Nat.one_mul, Nat.add_comm]
          refine Nat.add_le_add ih ?_
          split
          · rw [List.length_map]; exact runs_len hn ls _ _
          · simp
      have h2 := h1 (readings b.chairs l)
      have h3 := rd_len (l := l) hn
      have h4 : (readings b.chairs l).length * 32 ^ ls.length ≤ 32 * 32 ^ ls.length := Nat.mul_le_mul_right _ h3
      rw [List.length_cons, Nat.pow_succ, Nat.mul_comm]
      omega
    · simp
theorem runS_cap {b : BookD} (hbo : BOk b) : (runS b 0 (begin0 b)).length ≤ 1099511627776 := by
  unfold runS
  rw [List.length_map]
  have h1 := runs_len hbo.ch.2 (b.lines.drop 0) 0 (begin0 b)
  have h2 : 32 ^ (b.lines.drop 0).length ≤ 32 ^ 8 := Nat.pow_le_pow_right (by omega) (by rw [List.drop_zero]; exact hbo.l8)
  omega
theorem runS_fact {b : BookD} (hbo : BOk b) {x : List Sc} {pre r : List (List Sc)} (h : runS b 0 (begin0 b) = pre ++ x :: r) : x.length = b.lines.length + 1 ∧ (∀ u ∈ x, u.ch.length = 4 ∧ u.tk.length = 4) ∧ pre.length < 1099511627776 := by
  have hm : x ∈ runS b 0 (begin0 b) := by rw [h]; simp
  obtain ⟨y, hy, rfl⟩ := List.mem_map.1 hm
  obtain ⟨g1, g2⟩ := runs_ok b _ _ _ rfl rfl y hy
  refine ⟨by simpa using g1, g2, ?_⟩
  have := runS_cap hbo
  rw [h] at this
  simp at this; omega
theorem atS_is {x : List Sc} {k : Nat} {u : Sc} (h : x[k]? = some u) : atS x k = u := by unfold atS; rw [List.getD_eq_getElem?_getD, h]; rfl
theorem sl_scs {D : Data} {bo n : Nat} {x : List Sc} (h : At D bo 0 (flatSc x)) (hx : x.length = n) (h4 : ∀ u ∈ x, u.ch.length = 4 ∧ u.tk.length = 4) (hn : n ≤ 1000) : Sl D RSc 10 (.slice (some ⟨bo, 0, none⟩) n n) x := by
  have h10 : Len10 x := fun u hu => scL_len (h4 u hu).1 (h4 u hu).2
  refine ⟨_, n, by rw [hx], by omega, by omega, Or.inr ⟨bo, 0, rfl, fun i u hi => ⟨_, rfl, by rw [ints_length, h10 u (List.mem_of_getElem? hi)], fun j v hj => ?_⟩⟩⟩
  have := flatSc_get h10 hi
  rw [← this, List.getElem?_take] at hj
  split at hj
  · rw [List.getElem?_drop] at hj
    have := h _ v hj
    rw [show 0 + i * 10 + j = 0 + (i * 10 + j) by omega]; exact this
  · cases hj
theorem sc_drop0 {s : Sc} (h4 : s.ch.length = 4) : ((ints (scL s)).drop 0).take 4 = ints s.ch := by
  unfold scL ints
  rw [List.drop_zero, List.append_assoc, List.map_append, List.take_append_of_le_length (by simp [h4]), List.take_of_length_le (by simp [h4])]
theorem sc_drop4 {s : Sc} (h4 : s.ch.length = 4) (h5 : s.tk.length = 4) : ((ints (scL s)).drop 4).take 4 = ints s.tk := by
  unfold scL ints
  rw [List.append_assoc, List.map_append, List.drop_append, List.drop_eq_nil_of_le (by simp [h4]), List.nil_append, List.length_map, h4, Nat.sub_self, List.drop_zero, List.map_append, List.take_append_of_le_length (by simp [h5]), List.take_of_length_le (by simp [h5])]
/-! ### Verdicts, one truth after the other -/
def stY (q : Sc → Nat → Bool) (s : Sc) (yes : List Int) (j : Nat) : List Int := yes.mapIdx fun i y => if i < j ∧ q s i = true then y + 1 else y
theorem stY_len {q : Sc → Nat → Bool} {s : Sc} {yes : List Int} {j : Nat} : (stY q s yes j).length = yes.length := by unfold stY; simp
theorem stY_zero {q : Sc → Nat → Bool} {s : Sc} {yes : List Int} : stY q s yes 0 = yes := by
  refine List.ext_getElem? fun i => ?_
  unfold stY
  rw [List.getElem?_mapIdx]
  cases yes[i]? <;> simp
theorem stY_at {q : Sc → Nat → Bool} {s : Sc} {yes : List Int} {j : Nat} {y : Int} (h : yes[j]? = some y) : (stY q s yes j)[j]? = some y := by
  unfold stY; rw [List.getElem?_mapIdx, h]; simp
theorem stY_no {q : Sc → Nat → Bool} {s : Sc} {yes : List Int} {j : Nat} (h : q s (j : Int).toNat = false) : stY q s yes (j + 1) = stY q s yes j := by
  rw [Int.toNat_natCast] at h
  refine List.ext_getElem? fun i => ?_
  unfold stY
  rw [List.getElem?_mapIdx, List.getElem?_mapIdx]
  cases yes[i]? with
  | none => rfl
  | some y =>
    simp only [Option.map_some, Option.some.injEq]
    by_cases e : i = j
    · subst e; rw [if_neg (by rw [h]; simp), if_neg (by omega)]
    · by_cases h' : i < j ∧ q s i = true
      · rw [if_pos h', if_pos ⟨by omega, h'.2⟩]
      · rw [if_neg h', if_neg (fun hh => h' ⟨by omega, hh.2⟩)]
theorem stY_yes {q : Sc → Nat → Bool} {s : Sc} {yes : List Int} {j : Nat} {y : Int} (h : q s (j : Int).toNat = true) (hy : yes[j]? = some y) : stY q s yes (j + 1) = (stY q s yes j).set j (y + 1) := by
  rw [Int.toNat_natCast] at h
  have hl := (List.getElem?_eq_some_iff.1 hy).1
  refine List.ext_getElem? fun i => ?_
  rw [List.getElem?_set]
  by_cases e : j = i
  · subst e
    rw [if_pos rfl, if_pos (by rw [stY_len]; exact hl)]
    unfold stY; rw [List.getElem?_mapIdx, hy]; simp [h]
  · rw [if_neg e]
    unfold stY
    rw [List.getElem?_mapIdx, List.getElem?_mapIdx]
    cases yes[i]? with
    | none => rfl
    | some y =>
      simp only [Option.map_some, Option.some.injEq]
      by_cases h' : i < j ∧ q s i = true
      · rw [if_pos h', if_pos ⟨by omega, h'.2⟩]
      · rw [if_neg h', if_neg (fun hh => h' ⟨by omega, hh.2⟩)]
theorem stY_all {q : Sc → Nat → Bool} {s : Sc} {yes : List Int} {n : Nat} (h : yes.length = n) : stY q s yes n = (List.range n).map fun i => yes.getD i 0 + if q s i = true then 1 else 0 := by
  refine List.ext_getElem? fun i => ?_
  unfold stY
  rw [List.getElem?_mapIdx, List.getElem?_map]
  by_cases hi : i < n
  · rw [List.getElem?_range hi, List.getElem?_eq_getElem (by omega)]
    simp only [Option.map_some, Option.some.injEq]
    rw [List.getD_eq_getElem?_getD, List.getElem?_eq_getElem (by omega)]
    by_cases hq : q s i = true
    · rw [if_pos ⟨hi, hq⟩, if_pos hq]; rfl
    · rw [if_neg (fun hh => hq hh.2), if_neg hq]; simp
  · rw [List.getElem?_eq_none (by omega), List.getElem?_eq_none (by simpa using hi)]; rfl
structure VI (n : Nat) (q : Sc → Nat → Bool) (ss : List Sc) (g : Sc × Nat × List Int) : Prop where
  l4 : g.1.ch.length = 4
  t4 : g.1.tk.length = 4
  many : (vrun n q ss).many = g.2.1
  yes : (vrun n q ss).yes = g.2.2
  last : g.2.1 ≠ 0 → (vrun n q ss).last = g.1.ch ++ g.1.tk
  len : g.2.2.length = n
  mb : g.2.1 ≤ ss.length
  yb : ∀ y ∈ g.2.2, 0 ≤ y ∧ y ≤ (g.2.1 : Int)
theorem VI.nil {n : Nat} {q : Sc → Nat → Bool} : VI n q [] (sc0, 0, List.replicate n 0) := ⟨rfl, rfl, rfl, rfl, fun h => absurd rfl h, by simp, Nat.le_refl _, fun y hy => by rw [List.eq_of_mem_replicate hy]; simp⟩
theorem VI.skip {n : Nat} {q : Sc → Nat → Bool} {ss : List Sc} {la : Sc} {many : Nat} {yes : List Int} {s u : Sc} (h : VI n q ss (la, many, yes)) (e : s = u) (hc : many ≠ 0 ∧ u.ch = la.ch ∧ u.tk = la.tk) : VI n q (ss ++ [s]) (la, many, yes) := by
  subst e
  have e : vrun n q (ss ++ [s]) = vrun n q ss := by
    rw [vrun_snoc]; unfold vstep
    rw [if_pos ⟨by rw [h.many]; exact hc.1, by rw [h.last hc.1, hc.2.1, hc.2.2]⟩]
  exact ⟨h.l4, h.t4, by rw [e]; exact h.many, by rw [e]; exact h.yes, by rw [e]; exact h.last, h.len, by have := h.mb; simp at this ⊢; omega, h.yb⟩
theorem VI.take {n : Nat} {q : Sc → Nat → Bool} {ss : List Sc} {la : Sc} {many : Nat} {yes : List Int} {s u : Sc} (h : VI n q ss (la, many, yes)) (e : s = u) (h4 : u.ch.length = 4) (h5 : u.tk.length = 4) (hc : ¬ (many ≠ 0 ∧ u.ch = la.ch ∧ u.tk = la.tk)) : VI n q (ss ++ [s]) (u, many + 1, stY q u yes n) := by
  subst e
  have hl4 := h.l4
  simp only at hl4
  have e : vrun n q (ss ++ [s]) = ⟨s.ch ++ s.tk, many + 1, stY q s yes n⟩ := by
    rw [vrun_snoc]; unfold vstep
    rw [if_neg, h.many, h.yes, stY_all h.len]
    rintro ⟨g1, g2⟩
    rw [h.many] at g1
    rw [h.last g1] at g2
    have := List.append_inj g2 (by simp only; omega)
    exact hc ⟨g1, this⟩
  refine ⟨h4, h5, by rw [e], by rw [e], fun _ => by rw [e], by rw [stY_len]; exact h.len, by have := h.mb; simp at this ⊢; omega, fun y hy => ?_⟩
  obtain ⟨i, hi⟩ := List.getElem?_of_mem hy
  unfold stY at hi
  rw [List.getElem?_mapIdx] at hi
  cases e2 : yes[i]? with
  | none => rw [e2] at hi; cases hi
  | some z =>
    rw [e2] at hi
    have hz := h.yb z (List.mem_of_getElem? e2)
    simp only at hz
    obtain rfl := Option.some.inj hi
    simp only
    split <;> push_cast <;> omega
theorem same_yes {m : Nat} {a b c d : List Int} (h : ((decide ((m : Int) > 0) && (a == b)) && (c == d)) = true) : m ≠ 0 ∧ a = b ∧ c = d := by
  simp only [Bool.and_eq_true, decide_eq_true_eq, beq_iff_eq] at h
  exact ⟨by omega, h.1.2, h.2⟩
theorem same_no {m : Nat} {a b c d : List Int} (h : ((decide ((m : Int) > 0) && (a == b)) && (c == d)) = false) : ¬ (m ≠ 0 ∧ a = b ∧ c = d) := by
  rintro ⟨h1, h2, h3⟩
  rw [Bool.eq_false_iff] at h
  exact h (by simp only [Bool.and_eq_true, decide_eq_true_eq, beq_iff_eq]; exact ⟨⟨by omega, h2⟩, h3⟩)
def vdK (many : Nat) (yes : List Int) (j : Nat) : List Int := (yes.take j).map (vdOf many) ++ yes.drop j
theorem vdK_len {many : Nat} {yes : List Int} {j : Nat} : (vdK many yes j).length = yes.length := by unfold vdK; simp; omega
theorem vdK_zero {many : Nat} {yes : List Int} : vdK many yes 0 = yes := rfl
theorem vdK_at {many : Nat} {yes : List Int} {j : Nat} {y : Int} (h : yes[j]? = some y) : (vdK many yes j)[j]? = some y := by
  have hl := (List.getElem?_eq_some_iff.1 h).1
  have e : min j yes.length = j := by omega
  unfold vdK
  rw [List.getElem?_append_right (by simp; omega), List.length_map, List.length_take, e, Nat.sub_self, List.getElem?_drop, Nat.add_zero, h]
theorem vdK_step {many : Nat} {yes : List Int} {j : Nat} {y : Int} (h : yes[j]? = some y) : vdK many yes (j + 1) = (vdK many yes j).set j (vdOf many y) := by
  have hl := (List.getElem?_eq_some_iff.1 h).1
  have e : min j yes.length = j := by omega
  unfold vdK
  rw [List.take_add_one, h, Option.toList_some, List.map_append, List.map_singleton, List.set_append_right _ _ (by simp; omega), List.length_map, List.length_take, e, Nat.sub_self]
  rw [List.drop_eq_getElem_cons hl, List.set_cons_zero, List.append_assoc]; rfl
theorem verd_is {n : Nat} {q : Sc → Nat → Bool} {ss : List Sc} {la : Sc} {many : Nat} {yes : List Int} (h : VI n q ss (la, many, yes)) : verdicts n q ss = vdK many yes n := by
  unfold verdicts vdK
  have h1 := h.len
  simp only at h1
  rw [h.many, h.yes, List.take_of_length_le (by omega), List.drop_eq_nil_of_le (by omega), List.append_nil]
/-! ### Bounds -/
def BI (ss : List Sc) (g : (Int × Int) × Bool) : Prop := (g.2 = true ∧ ss = []) ∨ (g.2 = false ∧ (∀ s ∈ ss, g.1.1 ≤ s.money ∧ s.money ≤ g.1.2) ∧ (∃ s ∈ ss, g.1.1 = s.money) ∧ ∃ s ∈ ss, g.1.2 = s.money)
theorem BI.nil : BI [] ((0, 0), true) := Or.inl ⟨rfl, rfl⟩
theorem BI.add {ss : List Sc} {r r' : Int × Int} {fb : Bool} {s u : Sc} (h : BI ss (r, fb)) (e : s = u) (hc : (fb = true ∧ r' = (u.money, u.money)) ∨ (fb = false ∧ r' = r)) : BI (ss ++ [s]) ((min r'.1 u.money, max r'.2 u.money), false) := by
  subst e
  refine Or.inr ⟨rfl, ?_⟩
  simp only
  rcases hc with ⟨h1, rfl⟩ | ⟨h1, rfl⟩
  · rcases h with ⟨_, rfl⟩ | ⟨h2, _⟩
    · refine ⟨fun v hv => ?_, ⟨s, by simp, by simp⟩, ⟨s, by simp, by simp⟩⟩
      obtain rfl : v = s := by simpa using hv
      simp only; omega
    · simp only at h2; rw [h1] at h2; cases h2
  · rcases h with ⟨h2, _⟩ | ⟨_, h2, h3, h4⟩
    · simp only at h2; rw [h1] at h2; cases h2
    · refine ⟨fun v hv => ?_, ?_, ?_⟩
      · rcases List.mem_append.1 hv with hv | hv
        · have := h2 v hv
          simp only at this
          omega
        · obtain rfl : v = s := by simpa using hv
          omega
      · by_cases hm : r'.1 ≤ s.money
        · obtain ⟨v, hv, e⟩ := h3
          simp only at e
          exact ⟨v, List.mem_append_left _ hv, by omega⟩
        · exact ⟨s, by simp, by omega⟩
      · by_cases hm : s.money ≤ r'.2
        · obtain ⟨v, hv, e⟩ := h4
          simp only at e
          exact ⟨v, List.mem_append_left _ hv, by omega⟩
        · exact ⟨s, by simp, by omega⟩
/-- The bounds of the money after k lines. -/
def BndR (xs : List (List Sc)) (k : Nat) (r : Int × Int) : Prop := (∀ x ∈ xs, r.1 ≤ (atS x k).money ∧ (atS x k).money ≤ r.2) ∧ (xs ≠ [] → (∃ x ∈ xs, r.1 = (atS x k).money) ∧ ∃ x ∈ xs, r.2 = (atS x k).money)
theorem BI.all {xs : List (List Sc)} {k : Nat} {r : Int × Int} {fb : Bool} (h : BI (xs.map fun x => atS x k) (r, fb)) : BndR xs k r := by
  rcases h with ⟨_, h2⟩ | ⟨_, h2, ⟨s, h3, h4⟩, ⟨u, h5, h6⟩⟩
  · rw [List.map_eq_nil_iff] at h2
    exact ⟨fun x hx => (by rw [h2] at hx; cases hx), fun hn => absurd h2 hn⟩
  · obtain ⟨x, hx, rfl⟩ := List.mem_map.1 h3
    obtain ⟨y, hy, rfl⟩ := List.mem_map.1 h5
    exact ⟨fun z hz => h2 _ (List.mem_map.2 ⟨z, hz, rfl⟩), fun _ => ⟨⟨x, hx, h4⟩, ⟨y, hy, h6⟩⟩⟩
end Go.Fs
namespace Go.Fs
open Go.Proofs
open C3
set_option maxHeartbeats 1000000 in
theorem verdicts_ok (bv : Value) (b : BookD) (k : Nat) (fq : FuncId) (q : Sc → Nat → Bool) (D : Data) (hb : BookIs D bv b) (hbo : BOk b) (hk : k ≤ b.lines.length)
    (hq : ∀ s i D, s.ch.length = 4 → s.tk.length = 4 → 0 ≤ i ∧ i < 4 → Fn Try.prog fq #[scV s, .int .i64 i] D (fun _ v => v = .bool (q s i.toNat))) :
    Fn Try.prog 26 #[.agg #[.func (.func fq) #[] #[]], bv, .int .i64 (k : Int)] D (fun D' v => Sl D' RI 1 v (verdicts b.chairs.toNat q ((runS b 0 (begin0 b)).map fun x => atS x k))) := by
  have hb0 := hb
  obtain ⟨lv, cv, rfl, hl, hc⟩ := hb
  have hch := hbo.ch
  have hl8 := hbo.l8
  refine enterM 87 Try.func26 rfl rfl rfl rfl (fun h0 => ?_)
  refine C.seq ?_
  refine C.region [(false,0),(false,1),(false,2),(false,3)] rfl ?_
  refine L.boxD rfl rfl rfl rfl trivial (fun q1 E1 hE1 hB1 => ?_)
  refine L.boxD rfl rfl rfl rfl trivial (fun q2 E2 hE2 hB2 => ?_)
  refine L.boxD rfl rfl rfl rfl trivial (fun q3 E3 hE3 hB3 => ?_)
  refine L.assign rfl rfl rfl trivial ?_
  refine L.nil ?_
  refine C.next ?_
  refine C.seq ?_
  refine C.region [(false,0),(false,1),(false,2),(false,3),(false,4),(false,5),(false,6)] rfl ?_
  refine L.fieldAddr rfl Tf.f40_0 rfl rfl trivial ?_
  refine L.loadD1 rfl (k := 0) Tf.a3 rfl hB2 (by first | simp | assumption) rfl List.not_mem_nil rfl trivial ?_
  refine L.makeSliceO (n := b.chairs.toNat) rfl Try.underlying33 Tf.s3 Tf.z3 rfl Tf.i3 (by first | rfl | (show some (Value.int _ _) = some (Value.int _ _); congr 2; omega)) (by first | rfl | (show some (Value.int _ _) = some (Value.int _ _); congr 2; omega)) (by omega) (zero_cells (by simp) rfl) rfl trivial (fun by_ => ?_)
  refine L.alloc rfl Tf.z33 rfl rfl trivial (fun q4 => ?_)
  refine L.alloc rfl Tf.z3 rfl rfl trivial (fun q5 => ?_)
  refine L.store rfl rfl rfl rfl Tf.s33 (.tail (Has.head)) (by simp) rfl (by simp [cell1]) trivial ?_
  refine L.store rfl rfl rfl rfl Tf.s3 (Has.head) (by simp) rfl (by simp [cell1]) trivial ?_
  refine L.nil ?_
  refine C.next ?_
  refine C.seq ?_
  refine C.region [(false,0)] rfl ?_
  refine L.alloc rfl Tf.z80 rfl rfl trivial (fun q6 => ?_)
  refine L.nil ?_
  refine C.next ?_
  refine C.seq ?_
  refine C.seq ?_
  refine C.region [(false,0),(false,1)] rfl ?_
  refine L.loadDW rfl Tf.a40 rfl hB2 (by first | simp | assumption) Tf.s40 List.not_mem_nil rfl trivial ?_
  refine L.call rfl rfl rfl (fun D1 hD1 => truths_ok3 _ b _ (hb0.up (hD1 _ (by simp))) hbo) rfl trivial (fun v1 D1 hD1 hp1 => ?_)
  refine L.nil ?_
  refine C.next ?_
  refine C.block ?_
  obtain ⟨br, rfl, hit⟩ := hp1
  refine C.rangeFuncT (γ := Sc × Nat × List Int) (xs := runS b 0 (begin0 b)) (enc := encT3 b.lines.length) (cells := flatSc) (Dr := D1) (fun pre g => VI b.chairs.toNat q (pre.map fun x => atS x k) g) (fun _ _ _ => False) (fun g => [(q6, .cells (ints (scL g.1)).toArray 80 (0, 0)), (q5, .cells [.int .i64 (g.2.1 : Int)].toArray 3 (0, 0)), (q4, .cells [.slice (some ⟨by_, 0, none⟩) b.chairs.toNat b.chairs.toNat].toArray 33 (0, 0)), (by_, .cells (ints g.2.2).toArray 3 (0, 0))]) (sc0, 0, List.replicate (b.chairs.toNat * 1) 0) rfl rfl (fun _ k hk => by cases hk) rfl hit (by simp) (fun _ vs h => by obtain ⟨_, rfl⟩ := h; rfl) rfl (by rw [Nat.mul_one]; exact VI.nil) rfl ?_ ?_ (fun _ _ _ _ h => h.elim)
  · rintro pre x ⟨la, many, yes⟩ ⟨us, hx⟩ hV l bd bo vs rec hh D7 hD7 ⟨blo, rfl⟩ hbo_ hst hpend
    obtain ⟨hxl, hx4, hpl⟩ := runS_fact hbo hx
    have hsl := sl_scs hbo_ hxl hx4 (by omega)
    obtain ⟨u, hu⟩ : ∃ u, x[k]? = some u := ⟨_, List.getElem?_eq_getElem (by omega)⟩
    have hau : atS x k = u := atS_is hu
    obtain ⟨hu4, hu5⟩ := hx4 u (List.mem_of_getElem? hu)
    have hx10 := scL_len hu4 hu5
    have hla := scL_len hV.l4 hV.t4
    have hV4 := hV.l4
    have hV5 := hV.t4
    simp only at hla hV4 hV5
    have hyl := hV.len
    have hmb := hV.mb
    have hyb := hV.yb
    simp only [List.length_map] at hyl hmb hyb
    refine C.region [(false,0)] rfl ?_
    refine L.assign rfl rfl rfl trivial ?_
    refine L.nil ?_
    refine fun a w hhh => C.begin (A := [(_, _), (_, _), (_, _), (_, _)]) (B := [(bd, .deferred (some []))]) (r := rec) (l := l) (by rfl) hst ?_ a w hhh
    simp only [List.cons_append, List.nil_append]
    refine C.block ?_
    refine C.seq ?_
    refine C.region [(false,0),(false,1),(false,2),(false,3),(false,4),(false,5)] rfl ?_
    refine L.move rfl rfl rfl trivial ?_
    refine L.loadD1 rfl (k := 0) Tf.a3 rfl hB3 (by first | simp | assumption) rfl List.not_mem_nil rfl trivial ?_
    refine L.indexS rfl Try.underlying90 Tf.s80 rfl hsl rfl (by omega) hu rfl trivial (fun b1 o1 cs1 hr1 hcl1 hA1 => ?_)
    obtain rfl : cs1 = ints (scL _) := hr1
    refine L.loadDW rfl Tf.a80 rfl hA1 (by first | assumption | simp) (by rw [show (ints _).length = 10 by simp [hx10]]; exact Tf.s80) List.not_mem_nil rfl trivial ?_
    refine L.alloc rfl Tf.z80 rfl rfl trivial (fun q7 => ?_)
    refine L.storeW rfl rfl rfl rfl Tf.s80 (by simp [hx10]) (by rfl) .head (ints_cell1 _) trivial ?_
    refine L.nil ?_
    refine C.next ?_
    refine C.seq ?_
    refine C.seq ?_
    refine C.region [(false,0),(false,1),(false,2),(false,3),(false,4),(false,5),(false,6),(false,7),(false,8),(false,9),(false,10),(false,11),(false,12),(false,13),(false,14),(false,15)] rfl ?_
    refine L.loadB1 rfl Tf.a3 rfl (List.Mem.tail _ (List.Mem.tail _ (List.Mem.head _))) rfl List.not_mem_nil rfl trivial ?_
    refine L.gtr rfl rfl rfl rfl trivial ?_
    refine L.move rfl rfl rfl trivial ?_
    refine' L.and [(false,3),(false,4),(false,5),(false,6),(false,7),(false,8)] [(false,9),(false,10),(false,11),(false,12),(false,13),(false,14),(false,15)] (s := 29) (p := 35) rfl rfl (fun hg1 => ?_) (fun hg1 => ?_) ?_
    rotate_left
    · refine L.fieldAddr rfl Tf.f80_0 rfl rfl ⟨_, rfl, rfl⟩ ?_
      refine L.loadBP (n := 4) (us := ints u.ch) rfl Tf.a78 Tf.s78 rfl (List.Mem.head _) (sc_drop0 hu4) (by simp [hu4]) List.not_mem_nil rfl ⟨_, rfl, rfl⟩ ?_
      refine L.fieldAddr rfl Tf.f80_0 rfl rfl ⟨_, rfl, rfl⟩ ?_
      refine L.loadBP (n := 4) (us := ints la.ch) rfl Tf.a78 Tf.s78 rfl (List.Mem.tail _ (List.Mem.head _)) (sc_drop0 hV4) (by simp [hV4]) List.not_mem_nil rfl ⟨_, rfl, rfl⟩ ?_
      refine L.eqlA (l := u.ch) (m := la.ch) rfl (by kernel_rfl) Try.underlying78 Try.underlying3 (by kernel_rfl) hu4 hV4 rfl rfl rfl ⟨_, rfl, rfl⟩ ?_
      refine L.pickT rfl rfl rfl rfl trivial ?_
      exact L.nil fun a w hh => hh.cutK 5 rfl
    · refine L.pass rfl rfl rfl ⟨_, _, rfl, rfl, rfl⟩ ?_
      refine L.pass rfl rfl rfl ⟨_, _, rfl, rfl, rfl⟩ ?_
      refine L.pass rfl rfl rfl ⟨_, _, rfl, rfl, rfl⟩ ?_
      refine L.pass rfl rfl rfl ⟨_, _, rfl, rfl, rfl⟩ ?_
      refine L.pass rfl rfl rfl ⟨_, _, rfl, rfl, rfl⟩ ?_
      refine L.pickF rfl rfl rfl rfl trivial ?_
      exact L.nil fun a w hh => hh.cutK 5 rfl
    refine L.move rfl rfl rfl trivial ?_
    refine' L.and [(false,10),(false,11),(false,12),(false,13),(false,14),(false,15)] [] (s := 36) (p := 42) rfl rfl (fun hg2 => ?_) (fun hg2 => ?_) ?_
    rotate_left
    · refine L.fieldAddr rfl Tf.f80_1 rfl rfl ⟨_, rfl, rfl⟩ ?_
      refine L.loadBP (n := 4) (us := ints u.tk) rfl Tf.a78 Tf.s78 rfl (List.Mem.head _) (sc_drop4 hu4 hu5) (by simp [hu5]) List.not_mem_nil rfl ⟨_, rfl, rfl⟩ ?_
      refine L.fieldAddr rfl Tf.f80_1 rfl rfl ⟨_, rfl, rfl⟩ ?_
      refine L.loadBP (n := 4) (us := ints la.tk) rfl Tf.a78 Tf.s78 rfl (List.Mem.tail _ (List.Mem.head _)) (sc_drop4 hV4 hV5) (by simp [hV5]) List.not_mem_nil rfl ⟨_, rfl, rfl⟩ ?_
      refine L.eqlA (l := u.tk) (m := la.tk) rfl (by kernel_rfl) Try.underlying78 Try.underlying3 (by kernel_rfl) hu5 hV5 rfl rfl rfl ⟨_, rfl, rfl⟩ ?_
      refine L.pickT rfl rfl rfl rfl trivial ?_
      exact L.nil fun a w hh => hh.cutK 5 rfl
    · refine L.pass rfl rfl rfl ⟨_, _, rfl, rfl, rfl⟩ ?_
      refine L.pass rfl rfl rfl ⟨_, _, rfl, rfl, rfl⟩ ?_
      refine L.pass rfl rfl rfl ⟨_, _, rfl, rfl, rfl⟩ ?_
      refine L.pass rfl rfl rfl ⟨_, _, rfl, rfl, rfl⟩ ?_
      refine L.pass rfl rfl rfl ⟨_, _, rfl, rfl, rfl⟩ ?_
      refine L.pickF rfl rfl rfl rfl trivial ?_
      exact L.nil fun a w hh => hh.cutK 5 rfl
    refine L.nil ?_
    refine C.next ?_
    refine C.cond rfl (fun hc1 => ?_) (fun hc1 => ?_)
    · have hI0 := hV.skip hau (same_yes hc1)
      refine C.exit ?_
      refine C.thenExit ?_
      refine C.blockExit ?_
      exact fun a w hh => C.roundOn (A := [(_, _), (_, _), (_, _), (_, _)]) (B := [(bd, .deferred (some []))]) (la, many, yes) (by simpa using hI0) rfl rfl a w (hh.dropBoxes 1)
    · have hns := same_no hc1
      refine C.skip ?_
      refine C.next ?_
      refine C.seq ?_
      refine C.region [(false,0),(false,1)] rfl ?_
      refine L.loadBW (e := 80) (fz := (0, 0)) rfl Tf.a80 rfl (List.Mem.head _) (by rw [show (ints _).length = 10 by simp [hx10]]; exact Tf.s80) List.not_mem_nil rfl trivial ?_
      refine L.storeW rfl rfl rfl rfl Tf.s80 (by simp [hx10]) (by simp [hla]) (.tail (Has.head)) (ints_cell1 _) trivial ?_
      refine L.nil ?_
      refine C.next ?_
      refine C.seq ?_
      refine C.region [(false,0),(false,1),(false,2)] rfl ?_
      refine L.loadB1 rfl Tf.a3 rfl (List.Mem.tail _ (List.Mem.tail _ (List.Mem.head _))) rfl List.not_mem_nil rfl trivial ?_
      refine L.add rfl rfl rfl (by simp only [inK]; omega) rfl trivial ?_
      refine L.store rfl rfl rfl rfl Tf.s3 (.tail (.tail (Has.head))) (by simp) rfl (by simp [cell1]) trivial ?_
      refine L.nil ?_
      refine C.next ?_
      refine C.seq ?_
      refine C.region [(false,0),(false,1),(false,2)] rfl ?_
      refine L.loadB1 rfl Tf.a33 rfl (List.Mem.tail _ (List.Mem.tail _ (List.Mem.tail _ (List.Mem.head _)))) rfl List.not_mem_nil rfl trivial ?_
      refine L.lenV rfl Try.underlying33 rfl rfl rfl trivial ?_
      refine L.move rfl rfl rfl trivial ?_
      refine L.nil ?_
      refine C.next ?_
      refine C.block ?_
      refine C.loopR (γ := Nat) (fun j => b.chairs.toNat - j) (fun j => j ≤ b.chairs.toNat) (fun j => [(48, .int .i64 (j : Int))]) [(47, _), (12, _), (7, _), (6, _), (3, _)] (fun j => [(q7, .cells (ints (scL u)).toArray 80 (0, 0)), (q6, .cells (ints (scL u)).toArray 80 (0, 0)), (q5, .cells [.int .i64 ((many : Int) + 1)].toArray 3 (0, 0)), (q4, .cells [.slice (some ⟨by_, 0, none⟩) b.chairs.toNat b.chairs.toNat].toArray 33 (0, 0)), (by_, .cells (ints (stY q u yes j)).toArray 3 (0, 0)), (l, .loop { rec with state := .busy }), (bd, .deferred (some []))]) (fun j => [D7, D1, E3, E2, E1, D]) 0 (by omega) ⟨(by first | rfl | (show some (Value.int _ _) = some (Value.int _ _); congr 2; omega)), trivial⟩ ⟨rfl, rfl, rfl, rfl, rfl, trivial⟩ ((by rw [stY_zero]; exact List.Sublist.refl _)) (ds_same) ?_
      rintro j h11
      refine C.seq ?_
      refine C.region [(false,0)] rfl ?_
      refine L.lss rfl rfl rfl rfl trivial ?_
      refine L.nil ?_
      refine C.next ?_
      refine C.seq ?_
      refine C.condD rfl (fun hc2 => ?_) (fun hc2 => ?_)
      · have hj : j < b.chairs.toNat := by omega
        obtain ⟨y, hy⟩ : ∃ y, yes[j]? = some y := ⟨_, List.getElem?_eq_getElem (by omega)⟩
        have hyy := hyb y (List.mem_of_getElem? hy)
        refine C.skip ?_
        refine C.next ?_
        refine C.seq ?_
        refine C.block ?_
        refine C.seq ?_
        refine C.region [(false,0),(false,1)] rfl ?_
        refine L.move rfl rfl rfl trivial ?_
        refine L.assign rfl rfl rfl trivial ?_
        refine L.nil ?_
        refine C.next ?_
        refine C.seq ?_
        refine C.region [(false,0),(false,1),(false,2),(false,3),(false,4)] rfl ?_
        refine L.fieldAddr rfl Tf.f82_0 rfl rfl trivial ?_
        refine L.loadD1 rfl (k := 0) Tf.a75 rfl hB1 (by first | simp | assumption) rfl List.not_mem_nil rfl trivial ?_
        refine L.loadBW (e := 80) (fz := (0, 0)) rfl Tf.a80 rfl (List.Mem.head _) (by rw [show (ints _).length = 10 by simp [hx10]]; exact Tf.s80) List.not_mem_nil rfl trivial ?_
        refine L.move rfl rfl rfl trivial ?_
        refine L.callV rfl rfl rfl (fun D2 hD2 => hq u j _ hu4 hu5 (by omega)) rfl trivial ?_
        refine L.nil ?_
        refine C.next ?_
        refine C.cond rfl (fun hc3 => ?_) (fun hc3 => ?_)
        · refine C.region [(false,0),(false,1),(false,2),(false,3),(false,4),(false,5),(false,6)] rfl ?_
          refine L.loadB1 rfl Tf.a33 rfl (List.Mem.tail _ (List.Mem.tail _ (List.Mem.tail _ (List.Mem.head _)))) rfl List.not_mem_nil rfl trivial ?_
          refine L.move rfl rfl rfl trivial ?_
          refine L.indexP rfl Try.underlying33 Tf.s3 rfl rfl (by omega) (by omega) rfl trivial ?_
          refine L.loadB1 (v := .int .i64 y) rfl Tf.a3 rfl (List.Mem.tail _ (List.Mem.tail _ (List.Mem.tail _ (List.Mem.tail _ (List.Mem.head _))))) (ints_get (by rw [show 0 + (j : Int).toNat * 1 = j by omega]; exact stY_at hy)) List.not_mem_nil rfl trivial ?_
          refine L.add rfl rfl rfl (by simp only [inK]; omega) rfl trivial ?_
          refine L.indexP rfl Try.underlying33 Tf.s3 rfl rfl (by omega) (by omega) rfl trivial ?_
          refine L.storeF (k := j) rfl Tf.s3 (ptr_eq (by omega)) rfl (.tail (.tail (.tail (.tail (Has.head))))) (by first | (rw [stY_len]; omega) | (rw [vdK_len]; omega)) trivial ?_
          refine L.nil ?_
          refine C.blockEnd ?_
          refine C.next ?_
          refine C.region [(false,0),(false,1)] rfl ?_
          refine L.add rfl rfl rfl (by simp only [inK]; omega) rfl trivial ?_
          refine L.move rfl rfl rfl trivial ?_
          refine L.nil ?_
          exact C.againR 17 (j + 1) (by omega) (by omega) ⟨(by first | rfl | (show some (Value.int _ _) = some (Value.int _ _); congr 2; omega)), trivial⟩ rfl rfl ((by rw [stY_yes hc3 hy]; exact List.Sublist.refl _)) (ds_same)
        · refine C.skip ?_
          refine C.blockEnd ?_
          refine C.next ?_
          refine C.region [(false,0),(false,1)] rfl ?_
          refine L.add rfl rfl rfl (by simp only [inK]; omega) rfl trivial ?_
          refine L.move rfl rfl rfl trivial ?_
          refine L.nil ?_
          exact C.againR 11 (j + 1) (by omega) (by omega) ⟨(by first | rfl | (show some (Value.int _ _) = some (Value.int _ _); congr 2; omega)), trivial⟩ rfl rfl ((by rw [stY_no hc3]; exact List.Sublist.refl _)) (ds_same)
      · obtain rfl : j = b.chairs.toNat := by omega
        have hI1 := hV.take hau hu4 hu5 hns
        refine C.exit ?_
        refine C.thenExit ?_
        refine C.thenExit ?_
        refine C.blockExit ?_
        refine C.blockEnd ?_
        exact fun a w hh => C.roundOn (A := [(_, _), (_, _), (_, _), (_, _)]) (B := [(bd, .deferred (some []))]) (u, many + 1, stY q u yes b.chairs.toNat) (by simpa using hI1) rfl rfl a w (hh.dropBoxes 1)
  · rintro ⟨la, many, yes⟩ bd hV
    have hyl := hV.len
    have hmb := hV.mb
    have hyb := hV.yb
    simp only [List.length_map] at hyl hmb hyb
    have hrl := runS_cap hbo
    refine C.blockEnd ?_
    refine C.next ?_
    refine C.seq ?_
    refine C.seq ?_
    refine C.region [(false,0),(false,1),(false,2)] rfl ?_
    refine L.loadB1 rfl Tf.a33 rfl (List.Mem.tail _ (List.Mem.tail _ (List.Mem.head _))) rfl List.not_mem_nil rfl trivial ?_
    refine L.lenV rfl Try.underlying33 rfl rfl rfl trivial ?_
    refine L.move rfl rfl rfl trivial ?_
    refine L.nil ?_
    refine C.next ?_
    refine C.block ?_
    refine C.loopR (γ := Nat) (fun j => b.chairs.toNat - j) (fun j => j ≤ b.chairs.toNat) (fun j => [(65, .int .i64 (j : Int))]) [(64, _), (63, _), (8, _), (7, _), (6, _)] (fun j => [(q6, .cells (ints (scL la)).toArray 80 (0, 0)), (q5, .cells [.int .i64 (many : Int)].toArray 3 (0, 0)), (q4, .cells [.slice (some ⟨by_, 0, none⟩) b.chairs.toNat b.chairs.toNat].toArray 33 (0, 0)), (by_, .cells (ints (vdK many yes j)).toArray 3 (0, 0)), (bd, .deferred (some []))]) (fun j => [D1, E3, E2, E1, D]) 0 (by omega) ⟨(by first | rfl | (show some (Value.int _ _) = some (Value.int _ _); congr 2; omega)), trivial⟩ ⟨rfl, rfl, rfl, rfl, rfl, trivial⟩ ((by rw [vdK_zero]; exact List.Sublist.refl _)) (ds_same) ?_
    rintro j h11
    refine C.seq ?_
    refine C.region [(false,0)] rfl ?_
    refine L.lss rfl rfl rfl rfl trivial ?_
    refine L.nil ?_
    refine C.next ?_
    refine C.seq ?_
    refine C.condD rfl (fun hc4 => ?_) (fun hc4 => ?_)
    · have hj : j < b.chairs.toNat := by omega
      obtain ⟨y, hy⟩ : ∃ y, yes[j]? = some y := ⟨_, List.getElem?_eq_getElem (by omega)⟩
      refine C.skip ?_
      refine C.next ?_
      refine C.seq ?_
      refine C.block ?_
      refine C.seq ?_
      refine C.region [(false,0),(false,1),(false,2),(false,3),(false,4)] rfl ?_
      refine L.move rfl rfl rfl trivial ?_
      refine L.indexP rfl Try.underlying33 Tf.s3 rfl rfl (by omega) (by omega) rfl trivial ?_
      refine L.loadB1 (v := .int .i64 y) rfl Tf.a3 rfl (List.Mem.tail _ (List.Mem.tail _ (List.Mem.tail _ (List.Mem.head _)))) (ints_get (by rw [show 0 + (j : Int).toNat * 1 = j by omega]; exact vdK_at hy)) List.not_mem_nil rfl trivial ?_
      refine L.assign rfl rfl rfl trivial ?_
      refine L.assign rfl rfl rfl trivial ?_
      refine L.nil ?_
      refine C.next ?_
      refine C.seq ?_
      refine C.region [(false,0)] rfl ?_
      refine L.move rfl rfl rfl trivial ?_
      refine L.nil ?_
      refine C.next ?_
      refine C.block ?_
      refine C.seq ?_
      refine C.region [(false,0),(false,1),(false,2)] rfl ?_
      refine L.loadB1 rfl Tf.a3 rfl (List.Mem.tail _ (List.Mem.head _)) rfl List.not_mem_nil rfl trivial ?_
      refine L.eql rfl rfl rfl rfl trivial ?_
      refine L.assign rfl rfl rfl trivial ?_
      refine L.nil ?_
      refine C.next ?_
      refine C.condD rfl (fun hc5 => ?_) (fun hc5 => ?_)
      · have hvd : vdOf many y = 1 := by unfold vdOf; rw [if_pos hc5]
        refine C.region [(false,0),(false,1),(false,2),(false,3)] rfl ?_
        refine L.loadB1 rfl Tf.a33 rfl (List.Mem.tail _ (List.Mem.tail _ (List.Mem.head _))) rfl List.not_mem_nil rfl trivial ?_
        refine L.move rfl rfl rfl trivial ?_
        refine L.indexP rfl Try.underlying33 Tf.s3 rfl rfl (by omega) (by omega) rfl trivial ?_
        refine L.storeF (k := j) rfl Tf.s3 (ptr_eq (by omega)) rfl (.tail (.tail (.tail (Has.head)))) (by first | (rw [stY_len]; omega) | (rw [vdK_len]; omega)) trivial ?_
        refine L.nil ?_
        refine C.blockEnd ?_
        refine C.blockEnd ?_
        refine C.next ?_
        refine C.region [(false,0),(false,1)] rfl ?_
        refine L.add rfl rfl rfl (by simp only [inK]; omega) rfl trivial ?_
        refine L.move rfl rfl rfl trivial ?_
        refine L.nil ?_
        exact C.againR 16 (j + 1) (by omega) (by omega) ⟨(by first | rfl | (show some (Value.int _ _) = some (Value.int _ _); congr 2; omega)), trivial⟩ rfl rfl ((by rw [vdK_step hy, hvd]; exact List.Sublist.refl _)) (ds_same)
      · refine C.seq ?_
        refine C.region [(false,0),(false,1)] rfl ?_
        refine L.eql rfl rfl rfl rfl trivial ?_
        refine L.assign rfl rfl rfl trivial ?_
        refine L.nil ?_
        refine C.next ?_
        refine C.condD rfl (fun hc6 => ?_) (fun hc6 => ?_)
        · have hvd : vdOf many y = 2 := by unfold vdOf; rw [if_neg hc5, if_pos hc6]
          refine C.region [(false,0),(false,1),(false,2),(false,3)] rfl ?_
          refine L.loadB1 rfl Tf.a33 rfl (List.Mem.tail _ (List.Mem.tail _ (List.Mem.head _))) rfl List.not_mem_nil rfl trivial ?_
          refine L.move rfl rfl rfl trivial ?_
          refine L.indexP rfl Try.underlying33 Tf.s3 rfl rfl (by omega) (by omega) rfl trivial ?_
          refine L.storeF (k := j) rfl Tf.s3 (ptr_eq (by omega)) rfl (.tail (.tail (.tail (Has.head)))) (by first | (rw [stY_len]; omega) | (rw [vdK_len]; omega)) trivial ?_
          refine L.nil ?_
          refine C.blockEnd ?_
          refine C.blockEnd ?_
          refine C.next ?_
          refine C.region [(false,0),(false,1)] rfl ?_
          refine L.add rfl rfl rfl (by simp only [inK]; omega) rfl trivial ?_
          refine L.move rfl rfl rfl trivial ?_
          refine L.nil ?_
          exact C.againR 18 (j + 1) (by omega) (by omega) ⟨(by first | rfl | (show some (Value.int _ _) = some (Value.int _ _); congr 2; omega)), trivial⟩ rfl rfl ((by rw [vdK_step hy, hvd]; exact List.Sublist.refl _)) (ds_same)
        · have hvd : vdOf many y = 3 := by unfold vdOf; rw [if_neg hc5, if_neg hc6]
          refine C.region [(false,0),(false,1),(false,2),(false,3)] rfl ?_
          refine L.loadB1 rfl Tf.a33 rfl (List.Mem.tail _ (List.Mem.tail _ (List.Mem.head _))) rfl List.not_mem_nil rfl trivial ?_
          refine L.move rfl rfl rfl trivial ?_
          refine L.indexP rfl Try.underlying33 Tf.s3 rfl rfl (by omega) (by omega) rfl trivial ?_
          refine L.storeF (k := j) rfl Tf.s3 (ptr_eq (by omega)) rfl (.tail (.tail (.tail (Has.head)))) (by first | (rw [stY_len]; omega) | (rw [vdK_len]; omega)) trivial ?_
          refine L.nil ?_
          refine C.blockEnd ?_
          refine C.blockEnd ?_
          refine C.next ?_
          refine C.region [(false,0),(false,1)] rfl ?_
          refine L.add rfl rfl rfl (by simp only [inK]; omega) rfl trivial ?_
          refine L.move rfl rfl rfl trivial ?_
          refine L.nil ?_
          exact C.againR 18 (j + 1) (by omega) (by omega) ⟨(by first | rfl | (show some (Value.int _ _) = some (Value.int _ _); congr 2; omega)), trivial⟩ rfl rfl ((by rw [vdK_step hy, hvd]; exact List.Sublist.refl _)) (ds_same)
    · obtain rfl : j = b.chairs.toNat := by omega
      refine C.exit ?_
      refine C.thenExit ?_
      refine C.thenExit ?_
      refine C.blockExit ?_
      refine C.next ?_
      refine C.seq ?_
      refine C.region [(false,0),(false,1)] rfl ?_
      refine L.loadB1 rfl Tf.a33 rfl (List.Mem.tail _ (List.Mem.tail _ (List.Mem.head _))) rfl List.not_mem_nil rfl trivial ?_
      refine L.assign rfl rfl rfl trivial ?_
      refine L.nil ?_
      refine C.next ?_
      refine C.ret ?_
      refine Q.freeze (A := [(_, _), (_, _), (_, _)]) (ν := [(by_, _)]) (B := [(bd, .deferred (some []))]) (acc_all (sz := 1) (n := b.chairs.toNat) (by rw [ints_length, vdK_len, hyl, Nat.mul_one])) rfl (fun D8 hD8 hF8 => ?_)
      exact leaveM1 (vs := [_]) (A := [(_, _), (_, _), (_, _)]) rfl rfl rfl ⟨rfl, trivial⟩ (fun D hD => by rw [verd_is hV]; exact (hF8.ints (by rw [vdK_len, hyl]) (by omega)).up RI.up (hD _ (by simp)))
theorem boundsT_ok (bv : Value) (b : BookD) (k : Nat) (fo : FuncId) (D : Data) (hb : BookIs D bv b) (hbo : BOk b) (hk : k ≤ b.lines.length)
    (hq : ∀ s D, s.ch.length = 4 → s.tk.length = 4 → Fn Try.prog fo #[scV s] D (fun _ v => v = .int .i64 s.money)) :
    Fn Try.prog 29 #[bv, .int .i64 (k : Int), .func (.func fo) #[] #[]] D (fun _ v => ∃ r, v = k2V r ∧ BndR (runS b 0 (begin0 b)) k r) := by
  have hb0 := hb
  obtain ⟨lv, cv, rfl, hl, hc⟩ := hb
  have hch := hbo.ch
  have hl8 := hbo.l8
  refine enterM 29 Try.func29 rfl rfl rfl rfl (fun h0 => ?_)
  refine C.seq ?_
  refine C.region [(false,0),(false,1),(false,2),(false,3)] rfl ?_
  refine L.boxD rfl rfl rfl rfl trivial (fun q1 E1 hE1 hB1 => ?_)
  refine L.boxD rfl rfl rfl rfl trivial (fun q2 E2 hE2 hB2 => ?_)
  refine L.boxD rfl rfl rfl rfl trivial (fun q3 E3 hE3 hB3 => ?_)
  refine L.alloc rfl Tf.z43 rfl rfl trivial (fun q4 => ?_)
  refine L.nil ?_
  refine C.next ?_
  refine C.seq ?_
  refine C.region [(false,0),(false,1)] rfl ?_
  refine L.alloc rfl Tf.z4 rfl rfl trivial (fun q5 => ?_)
  refine L.store rfl rfl rfl rfl Tf.s4 (Has.head) (by simp) rfl (by simp [cell1]) trivial ?_
  refine L.nil ?_
  refine C.next ?_
  refine C.seq ?_
  refine C.seq ?_
  refine C.region [(false,0),(false,1)] rfl ?_
  refine L.loadDW rfl Tf.a40 rfl hB1 (by first | simp | assumption) Tf.s40 List.not_mem_nil rfl trivial ?_
  refine L.call rfl rfl rfl (fun D1 hD1 => truths_ok3 _ b _ (hb0.up (hD1 _ (by simp))) hbo) rfl trivial (fun v1 D1 hD1 hp1 => ?_)
  refine L.nil ?_
  refine C.next ?_
  refine C.block ?_
  obtain ⟨br, rfl, hit⟩ := hp1
  refine C.rangeFuncT (γ := (Int × Int) × Bool) (xs := runS b 0 (begin0 b)) (enc := encT3 b.lines.length) (cells := flatSc) (Dr := D1) (fun pre g => BI (pre.map fun x => atS x k) g) (fun _ _ _ => False) (fun g => [(q5, .cells [.bool g.2].toArray 4 (0, 0)), (q4, .cells [.int .i64 g.1.1, .int .i64 g.1.2].toArray 43 (0, 0))]) ((0, 0), true) rfl rfl (fun _ k hk => by cases hk) rfl hit (by simp) (fun _ vs h => by obtain ⟨_, rfl⟩ := h; rfl) rfl BI.nil rfl ?_ ?_ (fun _ _ _ _ h => h.elim)
  · rintro pre x ⟨r, fb⟩ ⟨us, hx⟩ hV l bd bo vs rec hh D7 hD7 ⟨blo, rfl⟩ hbo_ hst hpend
    obtain ⟨hxl, hx4, hpl⟩ := runS_fact hbo hx
    have hsl := sl_scs hbo_ hxl hx4 (by omega)
    obtain ⟨u, hu⟩ : ∃ u, x[k]? = some u := ⟨_, List.getElem?_eq_getElem (by omega)⟩
    have hau : atS x k = u := atS_is hu
    obtain ⟨hu4, hu5⟩ := hx4 u (List.mem_of_getElem? hu)
    have hx10 := scL_len hu4 hu5
    refine C.region [(false,0)] rfl ?_
    refine L.assign rfl rfl rfl trivial ?_
    refine L.nil ?_
    refine fun a w hhh => C.begin (A := [(_, _), (_, _)]) (B := [(bd, .deferred (some []))]) (r := rec) (l := l) (by rfl) hst ?_ a w hhh
    simp only [List.cons_append, List.nil_append]
    refine C.block ?_
    refine C.seq ?_
    refine C.draw [] 3 [0,1,2,3,4,5,6] [false,true,true,true,true,false,false] [(false,0),(true,1),(true,2),(true,3),(true,4),(false,5),(false,6)] Tf.follows (fun _ _ _ h => h) (by kernel_rfl) rfl ?_
    refine L.loadD1 rfl (k := 0) Tf.a88 rfl hB3 (by first | simp | assumption) rfl List.not_mem_nil rfl trivial ?_
    refine L.move rfl rfl rfl trivial ?_
    refine L.loadD1 rfl (k := 0) Tf.a3 rfl hB2 (by first | simp | assumption) rfl List.not_mem_nil rfl trivial ?_
    refine L.indexS rfl Try.underlying90 Tf.s80 rfl hsl rfl (by omega) hu rfl trivial (fun b1 o1 cs1 hr1 hcl1 hA1 => ?_)
    obtain rfl : cs1 = ints (scL _) := hr1
    refine L.loadDW rfl Tf.a80 rfl hA1 (by first | assumption | simp) (by rw [show (ints _).length = 10 by simp [hx10]]; exact Tf.s80) List.not_mem_nil rfl trivial ?_
    refine L.callV rfl rfl rfl (fun D2 hD2 => hq u _ hu4 hu5) rfl trivial ?_
    refine L.assign rfl rfl rfl trivial ?_
    refine L.nil ?_
    refine C.next ?_
    refine C.seq ?_
    refine C.seq ?_
    refine C.region [(false,0)] rfl ?_
    refine L.loadB1 rfl Tf.a4 rfl (List.Mem.head _) rfl List.not_mem_nil rfl trivial ?_
    refine L.nil ?_
    refine C.next ?_
    refine C.cond rfl (fun hc1 => ?_) (fun hc1 => ?_)
    · refine C.region [(false,0),(false,1),(false,2),(false,3),(false,4)] rfl ?_
      refine L.move rfl rfl rfl trivial ?_
      refine L.move rfl rfl rfl trivial ?_
      refine L.build (cs := [.int .i64 u.money, .int .i64 u.money]) rfl Tf.p43 Tf.z43 rfl rfl rfl trivial ?_
      refine L.storeW rfl rfl rfl rfl Tf.s43 (by first | rfl | (simp only [ints_length, *]; done) | (simp only [ints_length, *]; rfl) | (simp only [ints_length, *]; omega)) (by first | rfl | (simp only [ints_length, *]; done) | (simp only [ints_length, *]; rfl) | (simp only [ints_length, *]; omega)) (.tail (Has.head)) (by first | exact ints_cell1 _ | simp [cell1]) trivial ?_
      refine L.store rfl rfl rfl rfl Tf.s4 (Has.head) (by simp) rfl (by simp [cell1]) trivial ?_
      refine L.nil ?_
      refine C.next ?_
      refine C.region [(false,0),(false,1),(false,2),(false,3)] rfl ?_
      refine L.loadBW rfl Tf.a43 rfl (List.Mem.tail _ (List.Mem.head _)) Tf.s43 List.not_mem_nil rfl trivial ?_
      refine L.move rfl rfl rfl trivial ?_
      refine L.callV rfl rfl rfl (fun D3 hD3 => twider_ok (_, _) _ _) rfl trivial ?_
      refine L.storeW rfl rfl rfl rfl Tf.s43 (by first | rfl | (simp only [ints_length, *]; done) | (simp only [ints_length, *]; rfl) | (simp only [ints_length, *]; omega)) (by first | rfl | (simp only [ints_length, *]; done) | (simp only [ints_length, *]; rfl) | (simp only [ints_length, *]; omega)) (.tail (Has.head)) (by first | exact ints_cell1 _ | simp [cell1]) trivial ?_
      refine L.nil ?_
      refine C.blockEnd ?_
      exact fun a w hh => C.roundOn (A := [(_, _), (_, _)]) (B := [(bd, .deferred (some []))]) ((min (u.money, u.money).1 u.money, max (u.money, u.money).2 u.money), false) (by simpa using hV.add hau (Or.inl ⟨hc1, rfl⟩)) rfl rfl a w hh
    · obtain rfl : fb = false := hc1
      refine C.skip ?_
      refine C.next ?_
      refine C.region [(false,0),(false,1),(false,2),(false,3)] rfl ?_
      refine L.loadBW rfl Tf.a43 rfl (List.Mem.tail _ (List.Mem.head _)) Tf.s43 List.not_mem_nil rfl trivial ?_
      refine L.move rfl rfl rfl trivial ?_
      refine L.callV rfl rfl rfl (fun D4 hD4 => twider_ok (_, _) _ _) rfl trivial ?_
      refine L.storeW rfl rfl rfl rfl Tf.s43 (by first | rfl | (simp only [ints_length, *]; done) | (simp only [ints_length, *]; rfl) | (simp only [ints_length, *]; omega)) (by first | rfl | (simp only [ints_length, *]; done) | (simp only [ints_length, *]; rfl) | (simp only [ints_length, *]; omega)) (.tail (Has.head)) (by first | exact ints_cell1 _ | simp [cell1]) trivial ?_
      refine L.nil ?_
      refine C.blockEnd ?_
      exact fun a w hh => C.roundOn (A := [(_, _), (_, _)]) (B := [(bd, .deferred (some []))]) ((min r.1 u.money, max r.2 u.money), false) (by simpa using hV.add hau (Or.inr ⟨rfl, rfl⟩)) rfl rfl a w hh
  · rintro ⟨r, fb⟩ bd hV
    refine C.blockEnd ?_
    refine C.next ?_
    refine C.seq ?_
    refine C.region [(false,0),(false,1)] rfl ?_
    refine L.loadBW rfl Tf.a43 rfl (List.Mem.tail _ (List.Mem.head _)) Tf.s43 List.not_mem_nil rfl trivial ?_
    refine L.storeW rfl rfl rfl rfl Tf.s43 (by first | rfl | (simp only [ints_length, *]; done) | (simp only [ints_length, *]; rfl) | (simp only [ints_length, *]; omega)) (by first | rfl | (simp only [ints_length, *]; done) | (simp only [ints_length, *]; rfl) | (simp only [ints_length, *]; omega)) (.tail (Has.head)) (by first | exact ints_cell1 _ | simp [cell1]) trivial ?_
    refine L.nil ?_
    refine C.next ?_
    refine C.ret ?_
    exact leaveM1 (vs := [_]) (A := [(_, _), (_, _)]) rfl rfl rfl ⟨⟨_, _, _, rfl, (List.Mem.tail _ (List.Mem.head _)), Or.inr ⟨Tf.a43, Tf.s43, rfl⟩⟩, trivial⟩ (fun D hD => ⟨r, rfl, hV.all⟩)
theorem money1_ok3 (s : Sc) (D : Data) (h4 : s.ch.length = 4) (h5 : s.tk.length = 4) : Fn Try.prog 30 #[scV s] D (fun _ v => v = .int .i64 s.money) := by
  refine enter 5 Try.func30 rfl rfl rfl rfl fun h0 => ?_
  refine C.seq ?_
  refine C.region [(false,0),(false,1)] rfl ?_
  refine L.boxD rfl rfl rfl rfl trivial (fun q1 E1 hE1 hB1 => ?_)
  refine L.assign rfl rfl rfl trivial ?_
  refine L.nil ?_
  refine C.next ?_
  refine C.seq ?_
  refine C.region [(false,0),(false,1),(false,2)] rfl ?_
  refine L.fieldAddr rfl Tf.f80_2 rfl rfl trivial ?_
  refine L.loadD1 (v := .int .i64 s.money) rfl (k := 8) Tf.a3 rfl hB1 (by first | simp | assumption) (ints_get (sc_money h4 h5)) List.not_mem_nil rfl trivial ?_
  refine L.assign rfl rfl rfl trivial ?_
  refine L.nil ?_
  refine C.next ?_
  refine C.ret ?_
  exact leave (vs := [_]) rfl rfl rfl ⟨rfl, trivial⟩ (fun D hD => rfl)
end Go.Fs
