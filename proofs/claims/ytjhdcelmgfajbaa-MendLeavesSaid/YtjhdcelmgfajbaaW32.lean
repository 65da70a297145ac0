/- Walks: the law MendLeaves. -/
import Derived.Test.YtjhdcelmgfajbaaW31
namespace Go.Fs
open Go.Proofs
open C7
/-- Some claims are right together in a truth. -/
theorem and_same {b c : Nat} : b &&& c = c ↔ ∀ j, c.testBit j = true → b.testBit j = true := by
  constructor
  · intro h j hj
    rw [← h, Nat.testBit_and, Bool.and_eq_true] at hj
    exact hj.1
  · intro h
    apply Nat.eq_of_testBit_eq
    intro j
    rw [Nat.testBit_and]
    cases e : c.testBit j with
    | false => simp
    | true => rw [h j e]; rfl
theorem can_iff {y : YardD} (h : fault y = 0) {c : Nat} : canB y (allN y) c = true ↔ ∃ t, isTruth y t = true ∧ ∀ j, c.testBit j = true → j < y.claims.length ∧ rightB y.claims (mostT y t : Nat) j = true := by
  have hyo := yOk h
  unfold canB
  rw [List.any_eq_true]
  constructor
  · rintro ⟨m, hm, he⟩
    unfold allN at hm
    obtain ⟨n, _, rfl⟩ := List.mem_map.1 hm
    refine ⟨_, nth_truth hyo n, fun j hj => ?_⟩
    have := and_same.1 (of_decide_eq_true he) j hj
    rw [bset_bit, Bool.and_eq_true, decide_eq_true_eq] at this
    exact this
  · rintro ⟨t, ht, hr⟩
    obtain ⟨n, hn, rfl⟩ := nth_onto ht
    refine ⟨mostN y n, List.mem_map.2 ⟨n, List.mem_range.2 hn, rfl⟩, decide_eq_true (and_same.2 fun j hj => ?_)⟩
    rw [bset_bit, Bool.and_eq_true, decide_eq_true_eq]
    exact hr j hj
theorem scenes_iff {y : YardD} {out : List Int} : (0 : Int) < ((scenesD y out).length : Int) ↔ ∃ t, isTruth y t = true ∧ rightO y.claims out (mostT y t : Nat) = true := by
  rw [show ((0 : Int) < ((scenesD y out).length : Int) ↔ 0 < (scenesD y out).length) by omega, List.length_pos_iff_exists_mem]
  constructor
  · rintro ⟨p, hp⟩
    obtain ⟨t, h1, h2, _⟩ := mem_scenes.1 hp
    exact ⟨t, h1, h2⟩
  · rintro ⟨t, h1, h2⟩
    exact ⟨_, mem_scenes.2 ⟨t, h1, h2, rfl⟩⟩
theorem right_iff {cl : List (Int × Int)} {out : List Int} {n : Int} : rightO cl out n = true ↔ ∀ j, j < cl.length → (∃ x ∈ out, (j : Int) = x) ∨ rightB cl n j = true := by
  unfold rightO
  rw [List.all_eq_true]
  have key : ∀ j, j < cl.length → (rightAt cl out n j = true ↔ (∃ x ∈ out, (j : Int) = x) ∨ rightB cl n j = true) := fun j hj => by
    unfold rightAt rightB
    rw [List.getElem?_eq_getElem hj, Bool.or_eq_true, List.any_eq_true]
    simp
  exact ⟨fun h j hj => (key j hj).1 (h j (List.mem_range.2 hj)), fun h j hj => (key j (List.mem_range.1 hj)).2 (h j (List.mem_range.1 hj))⟩
theorem first_can {y : YardD} (h : fault y = 0) {i : Nat} (hi : i < y.claims.length) : firstP y i = !canB y (allN y) (2 * 2 ^ i - 1) := by
  unfold firstP
  congr 1
  rw [Bool.eq_iff_iff, decide_eq_true_eq, scenes_iff, can_iff h]
  have hl : (takeC y (i + 1)).claims.length = i + 1 := by show (y.claims.take (i + 1)).length = _; rw [List.length_take]; omega
  have hb : ∀ j n, j < i + 1 → rightB (takeC y (i + 1)).claims n j = rightB y.claims n j := fun j n hj => by
    unfold rightB
    show (match (y.claims.take (i + 1))[j]? with | some r => _ | none => _) = _
    rw [List.getElem?_take, if_pos hj]
    cases y.claims[j]? <;> rfl
  have bit : ∀ j, (2 * 2 ^ i - 1).testBit j = decide (j < i + 1) := fun j => by
    rw [show 2 * 2 ^ i = 2 ^ (i + 1) by rw [Nat.pow_succ]; omega, Nat.testBit_two_pow_sub_one]
  constructor
  · rintro ⟨t, h1, h2⟩
    refine ⟨t, h1, fun j hj => ?_⟩
    rw [bit, decide_eq_true_eq] at hj
    rcases right_iff.1 h2 j (by omega) with h3 | h3
    · simp at h3
    · exact ⟨by omega, by rw [hb j _ hj] at h3; exact h3⟩
  · rintro ⟨t, h1, h2⟩
    refine ⟨t, h1, right_iff.2 fun j hj => Or.inr ?_⟩
    rw [hb j _ (by omega)]
    exact (h2 j (by rw [bit, decide_eq_true_eq]; omega)).2
theorem find_congr {p q : Nat → Bool} : ∀ {l : List Nat}, (∀ i ∈ l, p i = q i) → l.find? p = l.find? q
  | [], _ => rfl
  | x :: l, h => by
    rw [List.find?_cons, List.find?_cons, h x List.mem_cons_self, find_congr fun i hi => h i (List.mem_cons_of_mem _ hi)]
theorem first_is {y : YardD} (h : fault y = 0) : firstV y = if 0 ≤ firstR y (allN y) then (firstR y (allN y), 0) else (0, 7) := by
  unfold firstV firstR
  rw [if_neg (by omega), find_congr (q := fun i => !canB y (allN y) (2 * 2 ^ i - 1)) fun i hi => first_can h (List.mem_range.1 hi)]
  cases (List.range y.claims.length).find? (fun i => !canB y (allN y) (2 * 2 ^ i - 1)) with
  | none => rfl
  | some i => simp only; rw [if_pos (by omega)]
/-- Lists of numbers, of one length, in lexicographic order. -/
def sets (n : Nat) : Nat → Nat → List (List Int)
  | 0, _ => [[]]
  | m + 1, f => (List.range' f (n - m - f)).flatMap fun i => (sets n m (i + 1)).map fun l => (i : Int) :: l
def allS (n : Nat) : List (List Int) := (List.range' 0 (n + 1)).flatMap fun m => sets n m 0
def pos (y : YardD) (l : List Int) : Bool := decide (0 < ((scenesD y l).length : Int))
theorem try_spec {g : Nat → List Int → Bool × List Int} {S : Nat → List (List Int)} {Q : List Int → Bool} {out : List Int} : ∀ (is : List Nat), (∀ i ∈ is, ∀ fnd, (∀ l, (S i).find? Q = some l → g i fnd = (true, out ++ l)) ∧ ((S i).find? Q = none → (g i fnd).1 = false)) →
    ∀ fnd, (∀ l, (is.flatMap S).find? Q = some l → tryL g is fnd = (true, out ++ l)) ∧ ((is.flatMap S).find? Q = none → (tryL g is fnd).1 = false)
  | [], _, fnd => ⟨fun l h => by simp at h, fun _ => rfl⟩
  | i :: is, h, fnd => by
    have h0 := h i List.mem_cons_self fnd
    rw [List.flatMap_cons, List.find?_append, tryL]
    cases e : (S i).find? Q with
    | some l =>
      have := h0.1 l e
      rw [this]
      exact ⟨fun l' hl => by rw [Option.some_or] at hl; cases hl; rfl, fun hl => by rw [Option.some_or] at hl; cases hl⟩
    | none =>
      have := h0.2 e
      rw [if_neg (by rw [this]; simp), Option.none_or]
      exact try_spec is (fun i hi => h i (List.mem_cons_of_mem _ hi)) _
theorem lvG_spec {y : YardD} : ∀ (m f : Nat) (out fnd : List Int), (∀ l, (sets y.claims.length m f).find? (fun l => pos y (out ++ l)) = some l → lvG y m f out fnd = (true, out ++ l)) ∧ ((sets y.claims.length m f).find? (fun l => pos y (out ++ l)) = none → (lvG y m f out fnd).1 = false)
  | 0, f, out, fnd => by
    have e : lvG y 0 f out fnd = (pos y out, out) := rfl
    rw [e, sets, List.find?_cons, List.append_nil]
    cases hp : pos y out with
    | true => exact ⟨fun l h => by simp only [Option.some.injEq] at h; rw [← h, List.append_nil], fun h => by simp at h⟩
    | false => exact ⟨fun l h => by simp at h, fun _ => rfl⟩
  | m + 1, f, out, fnd => by
    rw [lvG, sets]
    refine try_spec _ (fun i _ fnd => ?_) fnd
    have ih := lvG_spec (y := y) m (i + 1) (out ++ [(i : Int)]) fnd
    have e : (fun l => pos y (out ++ l)) ∘ (fun l : List Int => (i : Int) :: l) = fun l => pos y ((out ++ [(i : Int)]) ++ l) := by funext l; simp
    rw [List.find?_map, e]
    cases hf : (sets y.claims.length m (i + 1)).find? (fun l => pos y ((out ++ [(i : Int)]) ++ l)) with
    | none => exact ⟨fun l h => by simp at h, fun _ => ih.2 hf⟩
    | some l => exact ⟨fun l' h => by rw [Option.map_some, Option.some.injEq] at h; rw [ih.1 l hf, ← h]; simp, fun h => by simp at h⟩
theorem leaveV_find {y : YardD} (h : fault y = 0) {l : List Int} (hl : (allS y.claims.length).find? (pos y) = some l) : leaveV y = (l, 0) := by
  have := (try_spec (g := fun m fnd => lvG y m 0 [] fnd) (S := fun m => sets y.claims.length m 0) (Q := pos y) (out := []) (List.range' 0 (y.claims.length + 1)) (fun i _ fnd => lvG_spec i 0 [] fnd) []).1 l hl
  unfold leaveV
  rw [if_neg (by omega)]
  show ((tryL (fun m fnd => lvG y m 0 [] fnd) (List.range' 0 (y.claims.length + 1)) []).2, (0 : Int)) = _
  rw [this]; rfl
theorem lex_trans : ∀ {a b c : List Int}, lexB a b = true → lexB b c = true → lexB a c = true
  | [], b, c, h1, h2 => by
    cases b with
    | nil => simp [lexB] at h1
    | cons z b =>
      cases c with
      | nil => simp [lexB] at h2
      | cons w c => simp [lexB]
  | x :: a, b, c, h1, h2 => by
    cases b with
    | nil => simp [lexB] at h1
    | cons z b =>
      cases c with
      | nil => simp [lexB] at h2
      | cons w c =>
        rw [lexB] at h1 h2 ⊢
        split at h1 <;> split at h2
        · rename_i e1 e2; rw [if_pos (e1.trans e2)]; exact lex_trans h1 h2
        · rename_i e1 e2; have := of_decide_eq_true h2; rw [if_neg (by omega), decide_eq_true_eq]; omega
        · rename_i e1 e2; have := of_decide_eq_true h1; rw [if_neg (by omega), decide_eq_true_eq]; omega
        · rename_i e1 e2; have := of_decide_eq_true h1; have := of_decide_eq_true h2; rw [if_neg (by omega), decide_eq_true_eq]; omega
theorem short_trans {a b c : List Int} (h1 : shortB a b = true) (h2 : shortB b c = true) : shortB a c = true := by
  simp only [shortB, Bool.or_eq_true, Bool.and_eq_true, decide_eq_true_eq] at *
  rcases h1 with h1 | h1 <;> rcases h2 with h2 | h2
  · left; omega
  · left; omega
  · left; omega
  · right; exact ⟨by omega, lex_trans h1.2 h2.2⟩
theorem sets_facts : ∀ n, n ≤ 5 → (allS n).Pairwise (fun a b => shortB a b = true) ∧ (∀ b, b < 2 ^ n → bitsL b ∈ allS n) ∧ ∀ l ∈ allS n, ∃ b, b < 2 ^ n ∧ l = bitsL b := by decide +kernel
theorem mem_bits {m j : Nat} : (∃ x ∈ bitsL m, (j : Int) = x) ↔ j < 7 ∧ m.testBit j = true := by
  unfold bitsL bitsK
  constructor
  · rintro ⟨x, hx, e⟩
    obtain ⟨i, hi, rfl⟩ := List.mem_map.1 hx
    obtain rfl : j = i := by omega
    rw [List.mem_filter, List.mem_range] at hi; exact hi
  · rintro ⟨h1, h2⟩
    exact ⟨(j : Int), List.mem_map.2 ⟨j, List.mem_filter.2 ⟨List.mem_range.2 h1, h2⟩, rfl⟩, rfl⟩
theorem pos_can {y : YardD} (h : fault y = 0) {b : Nat} : pos y (bitsL b) = canB y (allN y) (dif (2 ^ y.claims.length - 1) b) := by
  have h5 := (yOk h).cls
  unfold pos
  have bit : ∀ j, (dif (2 ^ y.claims.length - 1) b).testBit j = (decide (j < y.claims.length) && !b.testBit j) := fun j => by rw [dif_bit, Nat.testBit_two_pow_sub_one]
  rw [Bool.eq_iff_iff, decide_eq_true_eq, scenes_iff, can_iff h]
  constructor
  · rintro ⟨t, h1, h2⟩
    refine ⟨t, h1, fun j hj => ?_⟩
    rw [bit, Bool.and_eq_true, decide_eq_true_eq, Bool.not_eq_true'] at hj
    refine ⟨hj.1, ?_⟩
    rcases right_iff.1 h2 j hj.1 with h3 | h3
    · rw [(mem_bits.1 h3).2] at hj; simp at hj
    · exact h3
  · rintro ⟨t, h1, h2⟩
    refine ⟨t, h1, right_iff.2 fun j hj => ?_⟩
    cases e : b.testBit j with
    | true => exact Or.inl (mem_bits.2 ⟨by omega, e⟩)
    | false => exact Or.inr (h2 j (by rw [bit, e]; simp [hj])).2
theorem lex_irr : ∀ a : List Int, lexB a a = false
  | [] => rfl
  | x :: a => by rw [lexB, if_pos rfl]; exact lex_irr a
theorem best_inv {y : YardD} (h : fault y = 0) : ∀ k, k ≤ 2 ^ y.claims.length → (∃ b, b < 2 ^ y.claims.length ∧ bestK y (allN y) k = bitsL b ∧ pos y (bitsL b) = true) ∧ ∀ b, b < k → pos y (bitsL b) = true → shortB (bitsL b) (bestK y (allN y) k) = false
  | 0, _ => by
    have hp1 : 1 ≤ 2 ^ y.claims.length := Nat.one_le_two_pow
    refine ⟨⟨2 ^ y.claims.length - 1, by omega, rfl, ?_⟩, by omega⟩
    rw [pos_can h, can_iff h]
    refine ⟨_, nth_truth (yOk h) 0, fun j hj => ?_⟩
    rw [dif_bit] at hj; simp at hj
  | k + 1, hk => by
    obtain ⟨⟨b0, h0, e0, p0⟩, h1⟩ := best_inv h k (by omega)
    rw [bestK_succ]
    unfold bestS
    split
    · rename_i hc
      rw [Bool.and_eq_true, ← pos_can h] at hc
      refine ⟨⟨k, by omega, rfl, hc.2⟩, fun b hb hp => ?_⟩
      cases e : shortB (bitsL b) (bitsL k) with
      | false => rfl
      | true =>
        have h2 := short_trans e hc.1
        rcases Nat.lt_succ_iff_lt_or_eq.1 hb with hb | rfl
        · rw [h1 b hb hp] at h2; cases h2
        · exfalso
          simp only [shortB, Bool.or_eq_true, Bool.and_eq_true, decide_eq_true_eq] at e
          rcases e with e | e
          · omega
          · exact absurd e.2 (by rw [lex_irr]; simp)
    · rename_i hc
      refine ⟨⟨b0, h0, e0, p0⟩, fun b hb hp => ?_⟩
      rcases Nat.lt_succ_iff_lt_or_eq.1 hb with hb | rfl
      · exact h1 b hb hp
      · rw [← pos_can h, hp, Bool.and_true] at hc
        simpa using hc
theorem leave_is {y : YardD} (h : fault y = 0) : leaveV y = (leaveR y (allN y), 0) := by
  obtain ⟨f1, f2, f3⟩ := sets_facts _ (yOk h).cls
  obtain ⟨⟨b0, h0, e0, p0⟩, h1⟩ := best_inv h (2 ^ y.claims.length) (Nat.le_refl _)
  have hm := f2 b0 h0
  cases e : (allS y.claims.length).find? (pos y) with
  | none => rw [List.find?_eq_none] at e; exact absurd p0 (e _ hm)
  | some l =>
    rw [leaveV_find h e]
    obtain ⟨hp, L1, L2, el, hn⟩ := List.find?_eq_some_iff_append.1 e
    rw [el] at hm f1
    obtain ⟨b1, g1, rfl⟩ := f3 l (List.mem_of_find?_eq_some e)
    have hL := h1 b1 g1 hp
    unfold leaveR
    rw [e0] at hL ⊢
    rcases List.mem_append.1 hm with hm | hm
    · have := hn _ hm; rw [p0] at this; simp at this
    · rcases List.mem_cons.1 hm with hm | hm
      · rw [hm]
      · have := (List.pairwise_cons.1 (List.pairwise_append.1 f1).2.1).1 _ hm
        rw [hL] at this; cases this
theorem ml_err {y : YardD} (h : fault y ≠ 0) : ((((decide ((firstV y).2 = fault y) && decide ((leaveV y).2 = fault y)) && decide ((firstV y).1 = 0)) && decide (((leaveV y).1.length : Int) = 0)) && true) = true := by
  unfold firstV leaveV; rw [if_pos h, if_pos h]; simp
theorem ml_yes {y : YardD} (h : fault y = 0) (hd : firstR y (allN y) ≥ 0) : ((decide ((firstV y).2 = 0) && decide ((firstV y).1 = firstR y (allN y))) && true) = true := by
  rw [first_is h, if_pos hd]; simp
theorem ml_no {y : YardD} (h : fault y = 0) (hd : ¬ firstR y (allN y) ≥ 0) : ((decide ((firstV y).2 = 7) && decide ((firstV y).1 = 0)) && true) = true := by
  rw [first_is h, if_neg hd]; rfl
theorem MendLeaves_ok (yv : Value) (y : YardD) (D : Data) (hy : YardIs D yv y) : Fn Try.prog 7 #[yv] D (fun _ v => v = .bool true) := by
  have hy0 := hy
  obtain ⟨cv, qv, rfl, hc, hq⟩ := hy
  refine enter 86 Try.func7 rfl rfl rfl rfl fun h0 => ?_
  refine C.seq ?_
  refine C.region [(false,0),(false,1)] rfl ?_
  refine L.boxD rfl rfl rfl rfl trivial (fun q1 E1 hE1 hB1 => ?_)
  refine L.assign rfl rfl rfl trivial ?_
  refine L.nil ?_
  refine C.next ?_
  refine C.seq ?_
  refine C.seq ?_
  refine C.region [(false,0),(false,1),(false,2)] rfl ?_
  refine L.loadDW rfl Tf.a25 rfl hB1 (by first | simp | assumption) Tf.s25 List.not_mem_nil rfl trivial ?_
  refine L.callV rfl rfl rfl (fun D1 hD1 => Thin_ok _ y _ (hy0.up (hD1 _ (by simp)))) rfl trivial ?_
  refine L.not rfl rfl rfl trivial ?_
  refine L.nil ?_
  refine C.next ?_
  refine C.cond rfl (fun hc1 => ?_) (fun hc1 => ?_)
  · refine C.seq ?_
    refine C.region [(false,0),(false,1)] rfl ?_
    refine L.callV rfl rfl rfl (fun D2 hD2 => awake_ok _) rfl trivial ?_
    refine L.assign rfl rfl rfl trivial ?_
    refine L.nil ?_
    refine C.next ?_
    refine C.ret ?_
    refine C.thenRet ?_
    exact leave (vs := [_]) rfl rfl rfl ⟨rfl, trivial⟩ (fun D hD => rfl)
  · have hthin : thin y = true := by simpa using hc1
    obtain ⟨hlc, hlq⟩ := thin_len hthin
    refine C.skip ?_
    refine C.next ?_
    refine C.seq ?_
    refine C.region [(false,0),(false,1),(false,2),(false,3),(false,4),(false,5),(false,6),(false,7)] rfl ?_
    refine L.loadDW rfl Tf.a25 rfl hB1 (by first | simp | assumption) Tf.s25 List.not_mem_nil rfl trivial ?_
    refine L.call rfl rfl rfl (fun D3 hD3 => YardL_ok _ y _ (hy0.up (hD3 _ (by simp))) (by omega) (by omega)) rfl trivial (fun v3 D3 hD3 hp3 => ?_)
    have hw := hp3
    refine L.callV rfl rfl rfl (fun D4 hD4 => First_ok _ y _ (hw.up (hD4 _ (by simp)))) rfl trivial ?_
    refine L.move rfl rfl rfl trivial ?_
    refine L.extract rfl rfl rfl rfl trivial ?_
    refine L.extract rfl rfl rfl rfl trivial ?_
    refine L.assign rfl rfl rfl trivial ?_
    refine L.assign rfl rfl rfl trivial ?_
    refine L.nil ?_
    refine C.next ?_
    refine C.seq ?_
    refine C.region [(false,0),(false,1),(false,2),(false,3),(false,4),(false,5),(false,6),(false,7)] rfl ?_
    refine L.loadDW rfl Tf.a25 rfl hB1 (by first | simp | assumption) Tf.s25 List.not_mem_nil rfl trivial ?_
    refine L.call rfl rfl rfl (fun D5 hD5 => YardL_ok _ y _ (hy0.up (hD5 _ (by simp))) (by omega) (by omega)) rfl trivial (fun v5 D5 hD5 hp5 => ?_)
    have hw := hp5
    refine L.call rfl rfl rfl (fun D6 hD6 => Leave_ok _ y _ (hw.up (hD6 _ (by simp)))) rfl trivial (fun v6 D6 hD6 hp6 => ?_)
    obtain ⟨lv, rfl, hlv⟩ := hp6
    refine L.move rfl rfl rfl trivial ?_
    refine L.extract rfl rfl rfl rfl trivial ?_
    refine L.extract rfl rfl rfl rfl trivial ?_
    refine L.assign rfl rfl rfl trivial ?_
    refine L.assign rfl rfl rfl trivial ?_
    refine L.nil ?_
    refine C.next ?_
    refine C.seq ?_
    refine C.seq ?_
    refine C.region [(false,0),(false,1),(false,2)] rfl ?_
    refine L.loadDW rfl Tf.a25 rfl hB1 (by first | simp | assumption) Tf.s25 List.not_mem_nil rfl trivial ?_
    refine L.callV rfl rfl rfl (fun D7 hD7 => faultL_ok _ y _ (hy0.up (hD7 _ (by simp)))) rfl trivial ?_
    refine L.assign rfl rfl rfl trivial ?_
    refine L.nil ?_
    refine C.next ?_
    refine C.seq ?_
    refine C.region [(false,0),(false,1)] rfl ?_
    refine L.move rfl rfl rfl trivial ?_
    refine L.neq rfl rfl rfl rfl trivial ?_
    refine L.nil ?_
    refine C.next ?_
    refine C.condD rfl (fun hc2 => ?_) (fun hc2 => ?_)
    · refine C.seq ?_
      refine C.region [(false,0),(false,1),(false,2),(false,3),(false,4),(false,5),(false,6),(false,7),(false,8),(false,9),(false,10),(false,11),(false,12),(false,13),(false,14),(false,15),(false,16),(false,17),(false,18),(false,19),(false,20)] rfl ?_
      refine L.move rfl rfl rfl trivial ?_
      refine L.move rfl rfl rfl trivial ?_
      refine L.eql rfl rfl rfl rfl trivial ?_
      refine L.move rfl rfl rfl trivial ?_
      refine' L.and [(false,4),(false,5),(false,6),(false,7)] [(false,8),(false,9),(false,10),(false,11),(false,12),(false,13),(false,14),(false,15),(false,16),(false,17),(false,18),(false,19),(false,20)] (s := 33) (p := 37) rfl rfl (fun hg1 => ?_) (fun hg1 => ?_) ?_
      rotate_left
      · refine L.move rfl rfl rfl ⟨_, rfl, rfl⟩ ?_
        refine L.move rfl rfl rfl ⟨_, rfl, rfl⟩ ?_
        refine L.eql rfl rfl rfl rfl ⟨_, rfl, rfl⟩ ?_
        refine L.pickT rfl rfl rfl rfl trivial ?_
        exact L.nil fun a w hh => hh.cutK 3 rfl
      · refine L.pass rfl rfl rfl ⟨_, _, rfl, rfl, rfl⟩ ?_
        refine L.pass rfl rfl rfl ⟨_, _, rfl, rfl, rfl⟩ ?_
        refine L.pass rfl rfl rfl ⟨_, _, rfl, rfl, rfl⟩ ?_
        refine L.pickF rfl rfl rfl rfl trivial ?_
        exact L.nil fun a w hh => hh.cutK 3 rfl
      refine L.move rfl rfl rfl trivial ?_
      refine' L.and [(false,9),(false,10),(false,11)] [(false,12),(false,13),(false,14),(false,15),(false,16),(false,17),(false,18),(false,19),(false,20)] (s := 38) (p := 41) rfl rfl (fun hg2 => ?_) (fun hg2 => ?_) ?_
      rotate_left
      · refine L.move rfl rfl rfl ⟨_, rfl, rfl⟩ ?_
        refine L.eql rfl rfl rfl rfl ⟨_, rfl, rfl⟩ ?_
        refine L.pickT rfl rfl rfl rfl trivial ?_
        exact L.nil fun a w hh => hh.cutK 2 rfl
      · refine L.pass rfl rfl rfl ⟨_, _, rfl, rfl, rfl⟩ ?_
        refine L.pass rfl rfl rfl ⟨_, _, rfl, rfl, rfl⟩ ?_
        refine L.pickF rfl rfl rfl rfl trivial ?_
        exact L.nil fun a w hh => hh.cutK 2 rfl
      refine L.move rfl rfl rfl trivial ?_
      refine' L.and [(false,13),(false,14),(false,15),(false,16)] [(false,17),(false,18),(false,19),(false,20)] (s := 42) (p := 46) rfl rfl (fun hg3 => ?_) (fun hg3 => ?_) ?_
      rotate_left
      · refine L.move rfl rfl rfl ⟨_, rfl, rfl⟩ ?_
        refine L.len rfl Try.underlying52 rfl hlv rfl rfl ⟨_, rfl, rfl⟩ ?_
        refine L.eql rfl rfl rfl rfl ⟨_, rfl, rfl⟩ ?_
        refine L.pickT rfl rfl rfl rfl trivial ?_
        exact L.nil fun a w hh => hh.cutK 3 rfl
      · refine L.pass rfl rfl rfl ⟨_, _, rfl, rfl, rfl⟩ ?_
        refine L.pass rfl rfl rfl ⟨_, _, rfl, rfl, rfl⟩ ?_
        refine L.pass rfl rfl rfl ⟨_, _, rfl, rfl, rfl⟩ ?_
        refine L.pickF rfl rfl rfl rfl trivial ?_
        exact L.nil fun a w hh => hh.cutK 3 rfl
      refine L.move rfl rfl rfl trivial ?_
      refine' L.and [(false,18),(false,19)] [(false,20)] (s := 47) (p := 49) rfl rfl (fun hg4 => ?_) (fun hg4 => ?_) ?_
      rotate_left
      · refine L.callV rfl rfl rfl (fun D8 hD8 => awake_ok _) rfl ⟨_, rfl, rfl⟩ ?_
        refine L.pickT rfl rfl rfl rfl trivial ?_
        exact L.nil fun a w hh => hh.cutK 1 rfl
      · refine L.pass rfl rfl rfl ⟨_, _, rfl, rfl, rfl⟩ ?_
        refine L.pickF rfl rfl rfl rfl trivial ?_
        exact L.nil fun a w hh => hh.cutK 1 rfl
      refine L.assign rfl rfl rfl trivial ?_
      refine L.nil ?_
      refine C.next ?_
      refine C.ret ?_
      refine C.thenRet ?_
      exact leave (vs := [_]) rfl rfl rfl ⟨rfl, trivial⟩ (fun D hD => congrArg Value.bool (ml_err hc2))
    · have hf0 : fault y = 0 := by omega
      have hq5 := (yOk hf0).cls
      refine C.skip ?_
      refine C.next ?_
      refine C.seq ?_
      refine C.region [(false,0),(false,1),(false,2)] rfl ?_
      refine L.loadDW rfl Tf.a25 rfl hB1 (by first | simp | assumption) Tf.s25 List.not_mem_nil rfl trivial ?_
      refine L.call rfl rfl rfl (fun D9 hD9 => All_ok _ y _ (hy0.up (hD9 _ (by simp))) hf0) rfl trivial (fun v9 D9 hD9 hp9 => ?_)
      have hal := hp9
      refine L.assign rfl rfl rfl trivial ?_
      refine L.nil ?_
      refine C.next ?_
      refine C.seq ?_
      refine C.seq ?_
      refine C.region [(false,0),(false,1),(false,2),(false,3),(false,4),(false,5),(false,6),(false,7),(false,8),(false,9)] rfl ?_
      refine L.move rfl rfl rfl trivial ?_
      refine L.neq rfl rfl rfl rfl trivial ?_
      refine L.move rfl rfl rfl trivial ?_
      refine' L.or [(false,3),(false,4),(false,5),(false,6),(false,7),(false,8),(false,9)] [] (s := 54) (p := 61) rfl rfl (fun hg5 => ?_) (fun hg5 => ?_) ?_
      rotate_left
      · refine L.move rfl rfl rfl ⟨_, rfl, rfl⟩ ?_
        refine L.loadDW rfl Tf.a25 rfl hB1 (by first | simp | assumption) Tf.s25 List.not_mem_nil rfl ⟨_, rfl, rfl⟩ ?_
        refine L.move rfl rfl rfl ⟨_, rfl, rfl⟩ ?_
        refine L.call rfl rfl rfl (fun D10 hD10 => LeaveR_ok _ _ y (allN y) _ (hy0.up (hD10 _ (by simp))) (hal.up RI.up (hD10 _ (by simp))) hq5) rfl ⟨_, rfl, rfl⟩ (fun v10 D10 hD10 hp10 => ?_)
        have hlr := hp10
        refine L.callV rfl rfl rfl (fun D11 hD11 => ints_ok _ _ _ _ _ (hlv.up RI.up (hD11 _ (by simp))) (hlr.up RI.up (hD11 _ (by simp)))) rfl ⟨_, rfl, rfl⟩ ?_
        refine L.not rfl rfl rfl ⟨_, rfl, rfl⟩ ?_
        refine L.pickF rfl rfl rfl rfl trivial ?_
        exact L.nil fun a w hh => (hh.cutK 6 rfl).ds (fun _ h => List.Mem.tail _ (h))
      · refine L.pass rfl rfl rfl ⟨_, _, rfl, rfl, rfl⟩ ?_
        refine L.pass rfl rfl rfl ⟨_, _, rfl, rfl, rfl⟩ ?_
        refine L.pass rfl rfl rfl ⟨_, _, rfl, rfl, rfl⟩ ?_
        refine L.pass rfl rfl rfl ⟨_, _, rfl, rfl, rfl⟩ ?_
        refine L.pass rfl rfl rfl ⟨_, _, rfl, rfl, rfl⟩ ?_
        refine L.pass rfl rfl rfl ⟨_, _, rfl, rfl, rfl⟩ ?_
        refine L.pickT rfl rfl rfl rfl trivial ?_
        exact L.nil fun a w hh => hh.cutK 6 rfl
      refine L.nil ?_
      refine C.next ?_
      refine C.cond rfl (fun hc3 => ?_) (fun hc3 => ?_)
      · rw [leave_is hf0] at hc3; simp at hc3
      · refine C.skip ?_
        refine C.next ?_
        refine C.seq ?_
        refine C.seq ?_
        refine C.region [(false,0),(false,1),(false,2),(false,3)] rfl ?_
        refine L.loadDW rfl Tf.a25 rfl hB1 (by first | simp | assumption) Tf.s25 List.not_mem_nil rfl trivial ?_
        refine L.move rfl rfl rfl trivial ?_
        refine L.callV rfl rfl rfl (fun D12 hD12 => FirstR_ok _ _ y (allN y) _ (hy0.up (hD12 _ (by simp))) (hal.up RI.up (hD12 _ (by simp))) hq5) rfl trivial ?_
        refine L.assign rfl rfl rfl trivial ?_
        refine L.nil ?_
        refine C.next ?_
        refine C.seq ?_
        refine C.region [(false,0),(false,1)] rfl ?_
        refine L.move rfl rfl rfl trivial ?_
        refine L.geq rfl rfl rfl rfl trivial ?_
        refine L.nil ?_
        refine C.next ?_
        refine C.condD rfl (fun hc4 => ?_) (fun hc4 => ?_)
        · refine C.seq ?_
          refine C.region [(false,0),(false,1),(false,2),(false,3),(false,4),(false,5),(false,6),(false,7),(false,8),(false,9),(false,10)] rfl ?_
          refine L.move rfl rfl rfl trivial ?_
          refine L.eql rfl rfl rfl rfl trivial ?_
          refine L.move rfl rfl rfl trivial ?_
          refine' L.and [(false,3),(false,4),(false,5),(false,6)] [(false,7),(false,8),(false,9),(false,10)] (s := 69) (p := 73) rfl rfl (fun hg6 => ?_) (fun hg6 => ?_) ?_
          rotate_left
          · refine L.move rfl rfl rfl ⟨_, rfl, rfl⟩ ?_
            refine L.move rfl rfl rfl ⟨_, rfl, rfl⟩ ?_
            refine L.eql rfl rfl rfl rfl ⟨_, rfl, rfl⟩ ?_
            refine L.pickT rfl rfl rfl rfl trivial ?_
            exact L.nil fun a w hh => hh.cutK 3 rfl
          · refine L.pass rfl rfl rfl ⟨_, _, rfl, rfl, rfl⟩ ?_
            refine L.pass rfl rfl rfl ⟨_, _, rfl, rfl, rfl⟩ ?_
            refine L.pass rfl rfl rfl ⟨_, _, rfl, rfl, rfl⟩ ?_
            refine L.pickF rfl rfl rfl rfl trivial ?_
            exact L.nil fun a w hh => hh.cutK 3 rfl
          refine L.move rfl rfl rfl trivial ?_
          refine' L.and [(false,8),(false,9)] [(false,10)] (s := 74) (p := 76) rfl rfl (fun hg7 => ?_) (fun hg7 => ?_) ?_
          rotate_left
          · refine L.callV rfl rfl rfl (fun D13 hD13 => awake_ok _) rfl ⟨_, rfl, rfl⟩ ?_
            refine L.pickT rfl rfl rfl rfl trivial ?_
            exact L.nil fun a w hh => hh.cutK 1 rfl
          · refine L.pass rfl rfl rfl ⟨_, _, rfl, rfl, rfl⟩ ?_
            refine L.pickF rfl rfl rfl rfl trivial ?_
            exact L.nil fun a w hh => hh.cutK 1 rfl
          refine L.assign rfl rfl rfl trivial ?_
          refine L.nil ?_
          refine C.next ?_
          refine C.ret ?_
          refine C.thenRet ?_
          exact leave (vs := [_]) rfl rfl rfl ⟨rfl, trivial⟩ (fun D hD => congrArg Value.bool (ml_yes hf0 hc4))
        · refine C.skip ?_
          refine C.next ?_
          refine C.seq ?_
          refine C.region [(false,0),(false,1),(false,2),(false,3),(false,4),(false,5),(false,6),(false,7),(false,8),(false,9)] rfl ?_
          refine L.move rfl rfl rfl trivial ?_
          refine L.eql rfl rfl rfl rfl trivial ?_
          refine L.move rfl rfl rfl trivial ?_
          refine' L.and [(false,3),(false,4),(false,5)] [(false,6),(false,7),(false,8),(false,9)] (s := 79) (p := 82) rfl rfl (fun hg8 => ?_) (fun hg8 => ?_) ?_
          rotate_left
          · refine L.move rfl rfl rfl ⟨_, rfl, rfl⟩ ?_
            refine L.eql rfl rfl rfl rfl ⟨_, rfl, rfl⟩ ?_
            refine L.pickT rfl rfl rfl rfl trivial ?_
            exact L.nil fun a w hh => hh.cutK 2 rfl
          · refine L.pass rfl rfl rfl ⟨_, _, rfl, rfl, rfl⟩ ?_
            refine L.pass rfl rfl rfl ⟨_, _, rfl, rfl, rfl⟩ ?_
            refine L.pickF rfl rfl rfl rfl trivial ?_
            exact L.nil fun a w hh => hh.cutK 2 rfl
          refine L.move rfl rfl rfl trivial ?_
          refine' L.and [(false,7),(false,8)] [(false,9)] (s := 83) (p := 85) rfl rfl (fun hg9 => ?_) (fun hg9 => ?_) ?_
          rotate_left
          · refine L.callV rfl rfl rfl (fun D14 hD14 => awake_ok _) rfl ⟨_, rfl, rfl⟩ ?_
            refine L.pickT rfl rfl rfl rfl trivial ?_
            exact L.nil fun a w hh => hh.cutK 1 rfl
          · refine L.pass rfl rfl rfl ⟨_, _, rfl, rfl, rfl⟩ ?_
            refine L.pickF rfl rfl rfl rfl trivial ?_
            exact L.nil fun a w hh => hh.cutK 1 rfl
          refine L.assign rfl rfl rfl trivial ?_
          refine L.nil ?_
          refine C.next ?_
          refine C.ret ?_
          exact leave (vs := [_]) rfl rfl rfl ⟨rfl, trivial⟩ (fun D hD => congrArg Value.bool (ml_no hf0 hc4))
end Go.Fs
