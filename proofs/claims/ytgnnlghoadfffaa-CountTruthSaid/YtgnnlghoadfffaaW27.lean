/- Walks: the law CountExact. -/
import Derived.Test.YtgnnlghoadfffaaW22
import Derived.Test.YtgnnlghoadfffaaLaws
namespace Go.Fs
open Go.Proofs
open C1
theorem allT_pos {r : RowD} (hok : RowOk r) : 0 < (allT r.places).length := by
  have key : ∀ l : List Int, (∀ p ∈ l, 0 ≤ p ∧ p ≤ 2) → 0 < (allT l).length := by
    intro l
    induction l with
    | nil => intro _; simp [allT]
    | cons p ps ih =>
      intro h
      have h1 := ih fun q hq => h q (List.mem_cons_of_mem _ hq)
      have h2 := h p List.mem_cons_self
      simp only [allT, List.length_append]
      by_cases h0 : p = 2 ∨ p = 0
      · rw [if_pos h0, List.length_map]; omega
      · rw [if_pos (show p = 2 ∨ p = 1 by omega), List.length_map]; omega
  exact key _ hok.place
theorem allT_cap {r : RowD} (hok : RowOk r) : (allT r.places).length ≤ 512 := by
  have h2 := allT_length r.places
  have h3 : 2 ^ r.places.length ≤ 2 ^ 9 := Nat.pow_le_pow_right (by omega) hok.len9
  omega
def exX (r : RowD) (t : List Int) (k : Nat) (b : Bool) : RowD := { r with wrong := 0, counts := [⟨b, t.length, sumFrom t 0 k + sumFrom t k (t.length - k)⟩] }
def exY (r : RowD) (t : List Int) (k : Nat) : RowD := { r with wrong := 0, counts := [⟨false, k, sumFrom t 0 k⟩, ⟨true, (t.length : Int) - k, sumFrom t k (t.length - k)⟩] }
theorem ce_truth {x : RowD} (h0 : x.wrong = 0) (ho : 0 ≤ x.off) {t : List Int} (ht : t ∈ allT x.places) (hc : ∀ c ∈ x.counts, about t c = c.num) : t ∈ truths x := by
  have he : ∀ c ∈ x.counts, errOf t c = 0 := fun c h => by unfold errOf; rw [hc c h]; omega
  rw [mem_truths, fits_iff, explains_iff]
  refine ⟨ht, fun c h => by rw [he c h]; exact ho, ?_⟩
  have : wrongs x t = 0 := by
    unfold wrongs
    rw [List.filter_eq_nil_iff.2 (fun c h => by rw [he c h]; simp)]; rfl
  rw [this, h0]; exact Int.le_refl _
theorem ce_zero {x : RowD} (h0 : x.wrong = 0) {t : List Int} (ht : t ∈ truths x) : ∀ c ∈ x.counts, about t c = c.num := by
  intro c hc
  rw [mem_truths, fits_iff] at ht
  have hw := ht.2.2
  rw [h0] at hw
  have hn : (x.counts.filter fun c => decide (0 < errOf t c)) = [] := List.length_eq_zero_iff.1 (by unfold wrongs at hw; omega)
  have := List.filter_eq_nil_iff.1 hn c hc
  simp only [decide_eq_true_eq] at this
  unfold errOf at this
  omega
theorem ce_lohi {ts : List (List Int)} {i j : Nat} {s : Int} (hne : ts ≠ []) (h : ∀ t ∈ ts, partOf t i j = s) : loOf ts i j = s ∧ hiOf ts i j = s := by
  obtain ⟨t, ht, he⟩ := lo_mem (i := i) (j := j) hne
  obtain ⟨t', ht', he'⟩ := hi_mem (i := i) (j := j) hne
  rw [← he, ← he', h t ht, h t' ht']; exact ⟨rfl, rfl⟩
theorem ce_vd {ts : List (List Int)} {q : List Int → Bool} (hne : ts ≠ []) (h : ∀ t ∈ ts, q t = true) : vd ts q = 1 := by
  cases ts with
  | nil => exact absurd rfl hne
  | cons t l =>
    simp only [vd]
    rw [if_pos, if_pos (h t List.mem_cons_self)]
    rw [List.all_eq_true]; intro u hu; rw [h u hu, h t List.mem_cons_self]; rfl
theorem ce_row {x : RowD} (hok : RowOk x) {t : List Int} {s : Int} (ht : t ∈ truths x) (h : ∀ u ∈ truths x, partOf u 0 (x.places.length - 1) = s) :
    askErr x (partOk x 0 ((x.places.length : Int) - 1)) = 0 ∧ chV x 0 ((x.places.length : Int) - 1) = (s, s) := by
  have hne : truths x ≠ [] := fun e => by rw [e] at ht; cases ht
  have h0 := hok.len0
  have hz : askErr x true = 0 := by
    by_cases hz : askErr x true = 0
    · exact hz
    · exact absurd (ask_none hok hz).1 hne
  have ha := ask_inI hok (i := 0) (j := (x.places.length : Int) - 1) (by omega) (by omega) (by omega)
  refine ⟨ha.trans hz, ?_⟩
  rw [chI ha hz]
  have := ce_lohi (i := 0) (j := x.places.length - 1) hne h
  rw [show ((0 : Int)).toNat = 0 from rfl, show ((x.places.length : Int) - 1).toNat = x.places.length - 1 by omega, this.1, this.2]
theorem ce_ok {r : RowD} (hok : RowOk r) {t : List Int} (ht : t ∈ allT r.places) {k : Nat} (hk : k ≤ t.length) (b : Bool) :
    (((((((decide (askErr (exX r t k b) (partOk (exX r t k b) 0 ((t.length : Int) - 1)) = 0) && (chV (exX r t k b) 0 ((t.length : Int) - 1) == (sumFrom t 0 k + sumFrom t k (t.length - k), sumFrom t 0 k + sumFrom t k (t.length - k)))) && decide (askErr (exY r t k) (partOk (exY r t k) 0 ((t.length : Int) - 1)) = 0)) && (chV (exY r t k) 0 ((t.length : Int) - 1) == (sumFrom t 0 k + sumFrom t k (t.length - k), sumFrom t 0 k + sumFrom t k (t.length - k)))) && decide (askErr (exY r t k) true = 0)) && ((if askErr (exY r t k) true = 0 then (List.range (exY r t k).counts.length).map (fun i => vd (truths (exY r t k)) (rightAt (exY r t k) i)) else []) == [1, 1])) && true)) = true := by
  obtain ⟨hl, hb⟩ := allT_ok ht
  have h0 := hok.len0
  have h9 := hok.len9
  have sb1 := sumFrom_bound hb 0 k
  have sb2 := sumFrom_bound hb k (t.length - k)
  have hsum : ∀ u : List Int, u.length = t.length → sumFrom u 0 u.length = sumFrom u 0 k + sumFrom u k (t.length - k) := fun u hu => by
    have := sumFrom_split u 0 k (t.length - k)
    rw [Nat.zero_add, show k + (t.length - k) = t.length by omega] at this
    rw [hu]; exact this
  have hpart : ∀ u : List Int, u.length = t.length → partOf u 0 (r.places.length - 1) = sumFrom u 0 u.length := fun u hu => by
    unfold partOf; rw [hu, hl, show r.places.length - 1 + 1 - 0 = r.places.length by omega]
  have okX : RowOk (exX r t k b) := ⟨h0, h9, by simp [exX], by simp [exX], hok.off, hok.place, fun c hc => by
    simp only [exX, List.mem_singleton] at hc
    subst hc
    simp only [exX]
    omega⟩
  have okY : RowOk (exY r t k) := ⟨h0, h9, by simp [exY], by simp [exY], hok.off, hok.place, fun c hc => by
    simp only [exY, List.mem_cons, List.not_mem_nil, or_false] at hc
    rcases hc with rfl | rfl <;> simp only [exY] <;> omega⟩
  have abX : ∀ u : List Int, u.length = t.length → about u ⟨b, t.length, sumFrom t 0 k + sumFrom t k (t.length - k)⟩ = sumFrom u 0 u.length := fun u hu => by
    unfold about
    simp only [Int.toNat_natCast, hu, Nat.sub_self]
    split <;> rfl
  have abY1 : ∀ u : List Int, about u ⟨false, k, sumFrom t 0 k⟩ = sumFrom u 0 k := fun u => by simp [about]
  have abY2 : ∀ u : List Int, u.length = t.length → about u ⟨true, (t.length : Int) - k, sumFrom t k (t.length - k)⟩ = sumFrom u k (t.length - k) := fun u hu => by
    unfold about
    simp only [if_true]
    rw [show ((t.length : Int) - k).toNat = t.length - k by omega, hu, show t.length - (t.length - k) = k by omega]
  have mX : t ∈ truths (exX r t k b) := ce_truth (x := exX r t k b) rfl hok.off.1 ht fun c hc => by
    simp only [exX, List.mem_singleton] at hc
    subst hc
    rw [abX t rfl, hsum t rfl]
  have mY : t ∈ truths (exY r t k) := ce_truth (x := exY r t k) rfl hok.off.1 ht fun c hc => by
    simp only [exY, List.mem_cons, List.not_mem_nil, or_false] at hc
    rcases hc with rfl | rfl
    · exact abY1 t
    · exact abY2 t rfl
  have lX : ∀ u ∈ truths (exX r t k b), u.length = t.length := fun u hu => by have := (truths_bits _ u hu).1; simp only [exX] at this; omega
  have lY : ∀ u ∈ truths (exY r t k), u.length = t.length := fun u hu => by have := (truths_bits _ u hu).1; simp only [exY] at this; omega
  obtain ⟨x1, x2⟩ := ce_row okX mX (s := sumFrom t 0 k + sumFrom t k (t.length - k)) fun u hu => by
    have h1 := ce_zero (x := exX r t k b) rfl hu _ List.mem_cons_self
    rw [abX u (lX u hu)] at h1
    exact (hpart u (lX u hu)).trans h1
  obtain ⟨y1, y2⟩ := ce_row okY mY (s := sumFrom t 0 k + sumFrom t k (t.length - k)) fun u hu => by
    have h1 := ce_zero (x := exY r t k) rfl hu _ List.mem_cons_self
    have h2 := ce_zero (x := exY r t k) rfl hu _ (List.mem_cons_of_mem _ List.mem_cons_self)
    rw [abY1 u] at h1
    rw [abY2 u (lY u hu)] at h2
    refine (hpart u (lY u hu)).trans ((hsum u (lY u hu)).trans ?_)
    rw [h1, h2]
  have zY : askErr (exY r t k) true = 0 := by rw [← y1]; symm; exact ask_inI okY (by omega) (by have := okY.len0; omega) (by omega)
  have hnY : truths (exY r t k) ≠ [] := fun e => by rw [e] at mY; cases mY
  have v0 : vd (truths (exY r t k)) (rightAt (exY r t k) 0) = 1 := ce_vd hnY fun u hu => by
    rw [rightAt_fn (r := exY r t k) (k := 0) rfl]
    have h1 := ce_zero (x := exY r t k) rfl hu _ List.mem_cons_self
    simp only [decide_eq_true_eq]
    unfold errOf; rw [h1]; omega
  have v1 : vd (truths (exY r t k)) (rightAt (exY r t k) 1) = 1 := ce_vd hnY fun u hu => by
    rw [rightAt_fn (r := exY r t k) (k := 1) rfl]
    have h1 := ce_zero (x := exY r t k) rfl hu _ (List.mem_cons_of_mem _ List.mem_cons_self)
    simp only [decide_eq_true_eq]
    unfold errOf; rw [h1]; omega
  have e : (t.length : Int) - 1 = (r.places.length : Int) - 1 := by omega
  rw [e]
  have x1' : askErr (exX r t k b) (partOk (exX r t k b) 0 ((r.places.length : Int) - 1)) = 0 := x1
  have x2' : chV (exX r t k b) 0 ((r.places.length : Int) - 1) = _ := x2
  have y1' : askErr (exY r t k) (partOk (exY r t k) 0 ((r.places.length : Int) - 1)) = 0 := y1
  have y2' : chV (exY r t k) 0 ((r.places.length : Int) - 1) = _ := y2
  have hr : (List.range (exY r t k).counts.length).map (fun i => vd (truths (exY r t k)) (rightAt (exY r t k) i)) = [1, 1] := by
    show [vd (truths (exY r t k)) (rightAt (exY r t k) 0), vd (truths (exY r t k)) (rightAt (exY r t k) 1)] = _
    rw [v0, v1]
  rw [x1', x2', y1', y2', zY, if_pos rfl, hr]
  simp
open C1
theorem CountExact_ok (rv : Value) (r : RowD) (w c : Int) (D : Data) (hr : RowIs D rv r) (hw8 : 0 ≤ w ∧ w ≤ 65535) (hc8 : 0 ≤ c ∧ c ≤ 255) : Fn Try.prog 11 #[rv, .int .u16 w, .int .u8 c] D (fun _ v => v = .bool true) := by
  have hr0 := hr
  obtain ⟨pv, cv, rfl, hp, hc⟩ := hr
  refine enter 134 Try.func11 rfl rfl rfl rfl fun h0 => ?_
  refine C.seq ?_
  refine C.region [(false,0),(false,1)] rfl ?_
  refine L.boxD rfl rfl rfl rfl trivial (fun q1 E1 hE1 hB1 => ?_)
  refine L.assign rfl rfl rfl trivial ?_
  refine L.nil ?_
  refine C.next ?_
  refine C.seq ?_
  refine C.region [(false,0),(false,1),(false,2)] rfl ?_
  refine L.loadDW rfl Tf.a25 rfl hB1 (by first | simp | assumption) Tf.s25 List.not_mem_nil rfl trivial ?_
  refine L.alloc rfl Tf.z25 rfl rfl trivial (fun q2 => ?_)
  refine L.storeW rfl rfl rfl rfl Tf.s25 (by first | rfl | (simp only [ints_length, *]; done) | (simp only [ints_length, *]; rfl) | (simp only [ints_length, *]; omega)) (by first | rfl | (simp only [ints_length, *]; done) | (simp only [ints_length, *]; rfl) | (simp only [ints_length, *]; omega)) (Has.head) (cell1_row hp.cell1 hc.cell1) trivial ?_
  refine L.nil ?_
  refine C.next ?_
  refine C.seq ?_
  refine C.region [(false,0),(false,1),(false,2),(false,3)] rfl ?_
  refine L.fieldAddr rfl Tf.f25_2 rfl rfl trivial ?_
  refine L.store rfl rfl rfl rfl Tf.s3 (Has.head) (by simp) rfl (by simp [cell1]) trivial ?_
  refine L.fieldAddr rfl Tf.f25_1 rfl rfl trivial ?_
  refine L.store rfl rfl rfl rfl Tf.s23 (Has.head) (by simp) rfl (by simp [cell1]) trivial ?_
  refine L.nil ?_
  refine C.next ?_
  refine C.seq ?_
  refine C.seq ?_
  refine C.region [(false,0),(false,1),(false,2)] rfl ?_
  refine L.loadDW rfl Tf.a25 rfl hB1 (by first | simp | assumption) Tf.s25 List.not_mem_nil rfl trivial ?_
  refine L.callV rfl rfl rfl (fun D1 hD1 => ready_ok _ r _ (hr0.up (hD1 _ (by simp)))) rfl trivial ?_
  refine L.not rfl rfl rfl trivial ?_
  refine L.nil ?_
  refine C.next ?_
  refine C.cond rfl (fun hc1 => ?_) (fun hc1 => ?_)
  · refine C.seq ?_
    refine C.region [(false,0),(false,1)] rfl ?_
    refine L.callV rfl rfl rfl (fun D2 hD2 => awake_ok _) rfl trivial ?_
    refine L.assign rfl rfl rfl trivial ?_
    refine L.nil ?_
    refine C.next ?_
    refine C.ret ?_
    refine C.thenRet ?_
    exact leave (vs := [_]) rfl rfl rfl ⟨rfl, trivial⟩ (fun D hD => rfl)
  · obtain ⟨hlp, hlc, hok⟩ := ready_len hc1
    have hn0 := hok.len0
    have hn9 := hok.len9
    refine C.skip ?_
    refine C.next ?_
    refine C.seq ?_
    refine C.region [(false,0),(false,1),(false,2)] rfl ?_
    refine L.loadDW rfl Tf.a25 rfl hB1 (by first | simp | assumption) Tf.s25 List.not_mem_nil rfl trivial ?_
    refine L.call rfl rfl rfl (fun D3 hD3 => All_ok _ r _ (hr0.up (hD3 _ (by simp))) hok) rfl trivial (fun v3 D3 hD3 hp3 => ?_)
    have hal := hp3
    refine L.assign rfl rfl rfl trivial ?_
    refine L.nil ?_
    refine C.next ?_
    refine C.seq ?_
    have hN0 := allT_pos hok
    have hN1 := allT_cap hok
    have hm1 := Int.emod_nonneg w (show ((allT r.places).length : Int) ≠ 0 by omega)
    have hm2 := Int.emod_lt_of_pos w (show (0 : Int) < (allT r.places).length by omega)
    obtain ⟨t, ht⟩ : ∃ t, (allT r.places)[(w % (allT r.places).length).toNat]? = some t := ⟨_, List.getElem?_eq_getElem (by omega)⟩
    have htm := List.mem_of_getElem? ht
    obtain ⟨htl, htb⟩ := allT_ok htm
    refine C.region [(false,0),(false,1),(false,2),(false,3),(false,4),(false,5),(false,6),(false,7),(false,8)] rfl ?_
    refine L.move rfl rfl rfl trivial ?_
    refine L.move rfl rfl rfl trivial ?_
    refine L.convI rfl Try.underlying69 Try.underlying3 rfl (by simp only [inK]; omega) rfl trivial ?_
    refine L.move rfl rfl rfl trivial ?_
    refine L.len rfl Try.underlying37 rfl hal rfl rfl trivial ?_
    refine L.rem rfl rfl rfl (by omega) (by omega) (by simp only [inK]; omega) rfl trivial ?_
    refine L.indexS rfl Try.underlying37 Tf.s22 rfl hal rfl (by omega) ht rfl trivial (fun b1 o1 cs1 hr1 hcl1 hA1 => ?_)
    obtain ⟨w1, rfl, hw1⟩ := hr1
    refine L.loadD1 rfl (k := 0) Tf.a22 rfl hA1 (by first | simp | assumption) rfl List.not_mem_nil rfl trivial ?_
    refine L.assign rfl rfl rfl trivial ?_
    refine L.nil ?_
    refine C.next ?_
    refine C.seq ?_
    refine C.region [(false,0),(false,1),(false,2),(false,3)] rfl ?_
    refine L.move rfl rfl rfl trivial ?_
    refine L.len rfl Try.underlying22 rfl hw1 rfl rfl trivial ?_
    refine L.sub rfl rfl rfl (by simp only [inK]; omega) rfl trivial ?_
    refine L.assign rfl rfl rfl trivial ?_
    refine L.nil ?_
    refine C.next ?_
    refine C.seq ?_
    have hm3 := Int.emod_nonneg c (show (t.length : Int) + 1 ≠ 0 by omega)
    have hm4 := Int.emod_lt_of_pos c (show (0 : Int) < (t.length : Int) + 1 by omega)
    refine C.region [(false,0),(false,1),(false,2),(false,3),(false,4),(false,5),(false,6)] rfl ?_
    refine L.move rfl rfl rfl trivial ?_
    refine L.convI rfl Try.underlying5 Try.underlying3 rfl (by simp only [inK]; omega) rfl trivial ?_
    refine L.move rfl rfl rfl trivial ?_
    refine L.len rfl Try.underlying22 rfl hw1 rfl rfl trivial ?_
    refine L.add rfl rfl rfl (by simp only [inK]; omega) rfl trivial ?_
    refine L.rem rfl rfl rfl (by omega) (by omega) (by simp only [inK]; omega) rfl trivial ?_
    refine L.assign rfl rfl rfl trivial ?_
    refine L.nil ?_
    refine C.next ?_
    refine C.seq ?_
    obtain ⟨k, hkk⟩ : ∃ k : Nat, c % ((t.length : Int) + 1) = k := ⟨_, (Int.toNat_of_nonneg hm3).symm⟩
    rw [hkk] at hm3 hm4 ⊢
    have sb1 := sumFrom_bound htb 0 k
    have sb2 := sumFrom_bound htb k (t.length - k)
    refine C.region [(false,0),(false,1),(false,2),(false,3),(false,4),(false,5),(false,6),(false,7),(false,8),(false,9)] rfl ?_
    refine L.move rfl rfl rfl trivial ?_
    refine L.move rfl rfl rfl trivial ?_
    refine L.sub rfl rfl rfl (by simp only [inK]; omega) rfl trivial ?_
    refine L.callV rfl rfl rfl (fun D4 hD4 => Sum_ok _ t 0 ((k : Int) - 1) 0 k _ (hw1.up RI.up (hD4 _ (by simp))) rfl (by omega) (by omega) htb (by omega)) rfl trivial ?_
    refine L.move rfl rfl rfl trivial ?_
    refine L.move rfl rfl rfl trivial ?_
    refine L.move rfl rfl rfl trivial ?_
    refine L.callV rfl rfl rfl (fun D5 hD5 => Sum_ok _ t k ((t.length : Int) - 1) k (t.length - k) _ (hw1.up RI.up (hD5 _ (by simp))) rfl (by omega) (by omega) htb (by omega)) rfl trivial ?_
    refine L.assign rfl rfl rfl trivial ?_
    refine L.assign rfl rfl rfl trivial ?_
    refine L.nil ?_
    refine C.next ?_
    refine C.seq ?_
    refine C.region [(false,0),(false,1),(false,2)] rfl ?_
    refine L.loadBW rfl Tf.a25 rfl (List.Mem.head _) Tf.s25 List.not_mem_nil rfl trivial ?_
    refine L.alloc rfl Tf.z25 rfl rfl trivial (fun q3 => ?_)
    refine L.storeW rfl rfl rfl rfl Tf.s25 (by first | rfl | (simp only [ints_length, *]; done) | (simp only [ints_length, *]; rfl) | (simp only [ints_length, *]; omega)) (by first | rfl | (simp only [ints_length, *]; done) | (simp only [ints_length, *]; rfl) | (simp only [ints_length, *]; omega)) (Has.head) (cell1_row hp.cell1 (by simp [cell1])) trivial ?_
    refine L.nil ?_
    refine C.next ?_
    refine C.seq ?_
    refine C.region [(false,0),(false,1),(false,2),(false,3),(false,4),(false,5),(false,6),(false,7),(false,8),(false,9),(false,10),(false,11)] rfl ?_
    refine L.move rfl rfl rfl trivial ?_
    refine L.rem rfl rfl rfl (by omega) (by omega) (by simp only [inK]; omega) rfl trivial ?_
    refine L.eql rfl rfl rfl rfl trivial ?_
    refine L.move rfl rfl rfl trivial ?_
    refine L.len rfl Try.underlying22 rfl hw1 rfl rfl trivial ?_
    refine L.move rfl rfl rfl trivial ?_
    refine L.move rfl rfl rfl trivial ?_
    refine L.add rfl rfl rfl (by simp only [inK]; omega) rfl trivial ?_
    refine L.build (cs := [.bool (decide (c % 2 = 1)), .int .i64 (t.length : Int), .int .i64 (sumFrom t 0 k + sumFrom t k (t.length - k))]) rfl Tf.p50 Tf.z50 rfl rfl rfl trivial ?_
    refine L.buildSlice rfl Try.underlying23 Tf.s50 Tf.z50 rfl rfl rfl rfl (.cons rfl rfl .nil) rfl trivial (fun b901 D901 hD901 hA901 => ?_)
    have hM901 : Sl D901 RC 3 _ [⟨decide (c % 2 = 1), t.length, sumFrom t 0 k + sumFrom t k (t.length - k)⟩] := Froz.cnts (l := [⟨decide (c % 2 = 1), t.length, sumFrom t 0 k + sumFrom t k (t.length - k)⟩]) (n := 1) (Or.inr ⟨_, 1, rfl, by omega, hA901⟩) rfl (by omega)
    refine L.fieldAddr rfl Tf.f25_1 rfl rfl trivial ?_
    refine L.store rfl rfl rfl rfl Tf.s23 (.tail (Has.head)) (by simp) rfl (by simp [cell1]) trivial ?_
    refine L.nil ?_
    refine C.next ?_
    refine C.seq ?_
    refine C.region [(false,0),(false,1),(false,2),(false,3),(false,4),(false,5),(false,6),(false,7),(false,8),(false,9),(false,10),(false,11)] rfl ?_
    refine L.move rfl rfl rfl trivial ?_
    refine L.move rfl rfl rfl trivial ?_
    refine L.build (cs := [.bool false, .int .i64 (k : Int), .int .i64 (sumFrom t 0 k)]) rfl Tf.p50 Tf.z50 rfl rfl rfl trivial ?_
    refine L.move rfl rfl rfl trivial ?_
    refine L.len rfl Try.underlying22 rfl hw1 rfl rfl trivial ?_
    refine L.move rfl rfl rfl trivial ?_
    refine L.sub rfl rfl rfl (by simp only [inK]; omega) rfl trivial ?_
    refine L.move rfl rfl rfl trivial ?_
    refine L.build (cs := [.bool true, .int .i64 ((t.length : Int) - k), .int .i64 (sumFrom t k (t.length - k))]) rfl Tf.p50 Tf.z50 rfl rfl rfl trivial ?_
    refine L.buildSlice rfl Try.underlying23 Tf.s50 Tf.z50 rfl rfl rfl rfl (.cons rfl rfl (.cons rfl rfl .nil)) rfl trivial (fun b902 D902 hD902 hA902 => ?_)
    have hM902 : Sl D902 RC 3 _ [⟨false, k, sumFrom t 0 k⟩, ⟨true, (t.length : Int) - k, sumFrom t k (t.length - k)⟩] := Froz.cnts (l := [⟨false, k, sumFrom t 0 k⟩, ⟨true, (t.length : Int) - k, sumFrom t k (t.length - k)⟩]) (n := 2) (Or.inr ⟨_, 2, rfl, by omega, hA902⟩) rfl (by omega)
    refine L.fieldAddr rfl Tf.f25_1 rfl rfl trivial ?_
    refine L.store rfl rfl rfl rfl Tf.s23 (Has.head) (by simp) rfl (by simp [cell1]) trivial ?_
    refine L.nil ?_
    refine C.next ?_
    refine C.seq ?_
    have hxr : RowIs D902 (.agg #[pv, .slice (some ⟨b901, 0, none⟩) 1 1, .int .i64 0, .int .i64 r.off]) (exX r t k (decide (c % 2 = 1))) := ⟨_, _, rfl, hp.up RI.up (hD902 _ (by simp)), hM901.up RC.up (hD902 _ (by simp))⟩
    have hyr : RowIs D902 (.agg #[pv, .slice (some ⟨b902, 0, none⟩) 2 2, .int .i64 0, .int .i64 r.off]) (exY r t k) := ⟨_, _, rfl, hp.up RI.up (hD902 _ (by simp)), hM902⟩
    refine C.region [(false,0),(false,1),(false,2),(false,3),(false,4),(false,5),(false,6),(false,7),(false,8),(false,9)] rfl ?_
    refine L.loadBW rfl Tf.a25 rfl (List.Mem.tail _ (List.Mem.head _)) Tf.s25 List.not_mem_nil rfl trivial ?_
    refine L.call rfl rfl rfl (fun D6 hD6 => Row_ok _ (exX r t k (decide (c % 2 = 1))) _ (hxr.up (hD6 _ (by simp))) (by simp only [exX]; omega) (by simp [exX])) rfl trivial (fun v6 D6 hD6 hp6 => ?_)
    have hw := hp6
    refine L.move rfl rfl rfl trivial ?_
    refine L.callV rfl rfl rfl (fun D7 hD7 => Chairs2_ok _ (exX r t k (decide (c % 2 = 1))) _ _ _ (hw.up (hD7 _ (by simp)))) rfl trivial ?_
    refine L.move rfl rfl rfl trivial ?_
    refine L.extract rfl rfl rfl rfl trivial ?_
    refine L.extract rfl rfl rfl rfl trivial ?_
    refine L.alloc rfl Tf.z29 rfl rfl trivial (fun q4 => ?_)
    refine L.storeW rfl rfl rfl rfl Tf.s29 (by first | rfl | (simp only [ints_length, *]; done) | (simp only [ints_length, *]; rfl) | (simp only [ints_length, *]; omega)) (by first | rfl | (simp only [ints_length, *]; done) | (simp only [ints_length, *]; rfl) | (simp only [ints_length, *]; omega)) (Has.head) (by first | exact ints_cell1 _ | simp [cell1]) trivial ?_
    refine L.assign rfl rfl rfl trivial ?_
    refine L.nil ?_
    refine C.next ?_
    refine C.seq ?_
    refine C.region [(false,0),(false,1),(false,2),(false,3),(false,4),(false,5),(false,6),(false,7),(false,8),(false,9)] rfl ?_
    refine L.loadBW rfl Tf.a25 rfl (List.Mem.tail _ (List.Mem.head _)) Tf.s25 List.not_mem_nil rfl trivial ?_
    refine L.call rfl rfl rfl (fun D8 hD8 => Row_ok _ (exY r t k) _ (hyr.up (hD8 _ (by simp))) (by simp only [exY]; omega) (by simp [exY])) rfl trivial (fun v8 D8 hD8 hp8 => ?_)
    have hw := hp8
    refine L.move rfl rfl rfl trivial ?_
    refine L.callV rfl rfl rfl (fun D9 hD9 => Chairs2_ok _ (exY r t k) _ _ _ (hw.up (hD9 _ (by simp)))) rfl trivial ?_
    refine L.move rfl rfl rfl trivial ?_
    refine L.extract rfl rfl rfl rfl trivial ?_
    refine L.extract rfl rfl rfl rfl trivial ?_
    refine L.alloc rfl Tf.z29 rfl rfl trivial (fun q5 => ?_)
    refine L.storeW rfl rfl rfl rfl Tf.s29 (by first | rfl | (simp only [ints_length, *]; done) | (simp only [ints_length, *]; rfl) | (simp only [ints_length, *]; omega)) (by first | rfl | (simp only [ints_length, *]; done) | (simp only [ints_length, *]; rfl) | (simp only [ints_length, *]; omega)) (Has.head) (by first | exact ints_cell1 _ | simp [cell1]) trivial ?_
    refine L.assign rfl rfl rfl trivial ?_
    refine L.nil ?_
    refine C.next ?_
    refine C.seq ?_
    refine C.region [(false,0),(false,1),(false,2),(false,3),(false,4),(false,5),(false,6),(false,7)] rfl ?_
    refine L.loadBW rfl Tf.a25 rfl (List.Mem.tail _ (List.Mem.tail _ (List.Mem.head _))) Tf.s25 List.not_mem_nil rfl trivial ?_
    refine L.call rfl rfl rfl (fun D10 hD10 => Row_ok _ (exY r t k) _ (hyr.up (hD10 _ (by simp))) (by simp only [exY]; omega) (by simp [exY])) rfl trivial (fun v10 D10 hD10 hp10 => ?_)
    have hw := hp10
    refine L.call rfl rfl rfl (fun D11 hD11 => Right_ok _ (exY r t k) _ (hw.up (hD11 _ (by simp)))) rfl trivial (fun v11 D11 hD11 hp11 => ?_)
    obtain ⟨qv, rfl, hqs⟩ := hp11
    refine L.move rfl rfl rfl trivial ?_
    refine L.extract rfl rfl rfl rfl trivial ?_
    refine L.extract rfl rfl rfl rfl trivial ?_
    refine L.assign rfl rfl rfl trivial ?_
    refine L.assign rfl rfl rfl trivial ?_
    refine L.nil ?_
    refine C.next ?_
    refine C.seq ?_
    refine C.region [(false,0),(false,1),(false,2),(false,3),(false,4),(false,5),(false,6),(false,7),(false,8)] rfl ?_
    refine L.move rfl rfl rfl trivial ?_
    refine L.move rfl rfl rfl trivial ?_
    refine L.add rfl rfl rfl (by simp only [inK]; omega) rfl trivial ?_
    refine L.move rfl rfl rfl trivial ?_
    refine L.move rfl rfl rfl trivial ?_
    refine L.add rfl rfl rfl (by simp only [inK]; omega) rfl trivial ?_
    refine L.callV rfl rfl rfl (fun D12 hD12 => between2_ok _ _ _) rfl trivial ?_
    refine L.alloc rfl Tf.z29 rfl rfl trivial (fun q6 => ?_)
    refine L.storeW rfl rfl rfl rfl Tf.s29 (by first | rfl | (simp only [ints_length, *]; done) | (simp only [ints_length, *]; rfl) | (simp only [ints_length, *]; omega)) (by first | rfl | (simp only [ints_length, *]; done) | (simp only [ints_length, *]; rfl) | (simp only [ints_length, *]; omega)) (Has.head) (by first | exact ints_cell1 _ | simp [cell1]) trivial ?_
    refine L.nil ?_
    refine C.next ?_
    refine C.seq ?_
    refine C.region [(false,0),(false,1),(false,2),(false,3),(false,4),(false,5),(false,6),(false,7),(false,8),(false,9),(false,10),(false,11),(false,12),(false,13),(false,14),(false,15),(false,16),(false,17),(false,18),(false,19),(false,20),(false,21),(false,22),(false,23),(false,24),(false,25),(false,26),(false,27),(false,28)] rfl ?_
    refine L.move rfl rfl rfl trivial ?_
    refine L.eql rfl rfl rfl rfl trivial ?_
    refine L.move rfl rfl rfl trivial ?_
    refine' L.and [(false,3),(false,4),(false,5),(false,6)] [(false,7),(false,8),(false,9),(false,10),(false,11),(false,12),(false,13),(false,14),(false,15),(false,16),(false,17),(false,18),(false,19),(false,20),(false,21),(false,22),(false,23),(false,24),(false,25),(false,26),(false,27),(false,28)] (s := 108) (p := 112) rfl rfl (fun hg1 => ?_) (fun hg1 => ?_) ?_
    rotate_left
    · refine L.loadBW rfl Tf.a29 rfl (List.Mem.tail _ (List.Mem.tail _ (List.Mem.head _))) Tf.s29 List.not_mem_nil rfl ⟨_, rfl, rfl⟩ ?_
      refine L.loadBW rfl Tf.a29 rfl (List.Mem.head _) Tf.s29 List.not_mem_nil rfl ⟨_, rfl, rfl⟩ ?_
      refine L.eqlK  rfl (by kernel_rfl) k2_29 rfl rfl rfl ⟨_, rfl, rfl⟩ ?_
      refine L.pickT rfl rfl rfl rfl trivial ?_
      exact L.nil fun a w hh => hh.cutK 3 rfl
    · refine L.pass rfl rfl rfl ⟨_, _, rfl, rfl, rfl⟩ ?_
      refine L.pass rfl rfl rfl ⟨_, _, rfl, rfl, rfl⟩ ?_
      refine L.pass rfl rfl rfl ⟨_, _, rfl, rfl, rfl⟩ ?_
      refine L.pickF rfl rfl rfl rfl trivial ?_
      exact L.nil fun a w hh => hh.cutK 3 rfl
    refine L.move rfl rfl rfl trivial ?_
    refine' L.and [(false,8),(false,9),(false,10)] [(false,11),(false,12),(false,13),(false,14),(false,15),(false,16),(false,17),(false,18),(false,19),(false,20),(false,21),(false,22),(false,23),(false,24),(false,25),(false,26),(false,27),(false,28)] (s := 113) (p := 116) rfl rfl (fun hg2 => ?_) (fun hg2 => ?_) ?_
    rotate_left
    · refine L.move rfl rfl rfl ⟨_, rfl, rfl⟩ ?_
      refine L.eql rfl rfl rfl rfl ⟨_, rfl, rfl⟩ ?_
      refine L.pickT rfl rfl rfl rfl trivial ?_
      exact L.nil fun a w hh => hh.cutK 2 rfl
    · refine L.pass rfl rfl rfl ⟨_, _, rfl, rfl, rfl⟩ ?_
      refine L.pass rfl rfl rfl ⟨_, _, rfl, rfl, rfl⟩ ?_
      refine L.pickF rfl rfl rfl rfl trivial ?_
      exact L.nil fun a w hh => hh.cutK 2 rfl
    refine L.move rfl rfl rfl trivial ?_
    refine' L.and [(false,12),(false,13),(false,14),(false,15)] [(false,16),(false,17),(false,18),(false,19),(false,20),(false,21),(false,22),(false,23),(false,24),(false,25),(false,26),(false,27),(false,28)] (s := 117) (p := 121) rfl rfl (fun hg3 => ?_) (fun hg3 => ?_) ?_
    rotate_left
    · refine L.loadBW rfl Tf.a29 rfl (List.Mem.tail _ (List.Mem.head _)) Tf.s29 List.not_mem_nil rfl ⟨_, rfl, rfl⟩ ?_
      refine L.loadBW rfl Tf.a29 rfl (List.Mem.head _) Tf.s29 List.not_mem_nil rfl ⟨_, rfl, rfl⟩ ?_
      refine L.eqlK  rfl (by kernel_rfl) k2_29 rfl rfl rfl ⟨_, rfl, rfl⟩ ?_
      refine L.pickT rfl rfl rfl rfl trivial ?_
      exact L.nil fun a w hh => hh.cutK 3 rfl
    · refine L.pass rfl rfl rfl ⟨_, _, rfl, rfl, rfl⟩ ?_
      refine L.pass rfl rfl rfl ⟨_, _, rfl, rfl, rfl⟩ ?_
      refine L.pass rfl rfl rfl ⟨_, _, rfl, rfl, rfl⟩ ?_
      refine L.pickF rfl rfl rfl rfl trivial ?_
      exact L.nil fun a w hh => hh.cutK 3 rfl
    refine L.move rfl rfl rfl trivial ?_
    refine' L.and [(false,17),(false,18),(false,19)] [(false,20),(false,21),(false,22),(false,23),(false,24),(false,25),(false,26),(false,27),(false,28)] (s := 122) (p := 125) rfl rfl (fun hg4 => ?_) (fun hg4 => ?_) ?_
    rotate_left
    · refine L.move rfl rfl rfl ⟨_, rfl, rfl⟩ ?_
      refine L.eql rfl rfl rfl rfl ⟨_, rfl, rfl⟩ ?_
      refine L.pickT rfl rfl rfl rfl trivial ?_
      exact L.nil fun a w hh => hh.cutK 2 rfl
    · refine L.pass rfl rfl rfl ⟨_, _, rfl, rfl, rfl⟩ ?_
      refine L.pass rfl rfl rfl ⟨_, _, rfl, rfl, rfl⟩ ?_
      refine L.pickF rfl rfl rfl rfl trivial ?_
      exact L.nil fun a w hh => hh.cutK 2 rfl
    refine L.move rfl rfl rfl trivial ?_
    refine' L.and [(false,21),(false,22),(false,23),(false,24)] [(false,25),(false,26),(false,27),(false,28)] (s := 126) (p := 130) rfl rfl (fun hg5 => ?_) (fun hg5 => ?_) ?_
    rotate_left
    · refine L.move rfl rfl rfl ⟨_, rfl, rfl⟩ ?_
      refine L.buildSlice rfl Try.underlying22 Tf.s3 Tf.z3 rfl rfl rfl rfl (.cons rfl rfl (.cons rfl rfl .nil)) rfl ⟨_, rfl, rfl⟩ (fun b903 D903 hD903 hA903 => ?_)
      have hS903 := Sl.ofInts (l := [_, _]) (n := 2) (cap := 2) hA903 rfl (by omega) (by omega)
      refine L.callV rfl rfl rfl (fun D13 hD13 => ints_ok _ _ _ [1, 1] _ (hqs.up RI.up (hD13 _ (by simp))) (hS903.up RI.up (hD13 _ (by simp)))) rfl ⟨_, rfl, rfl⟩ ?_
      refine L.pickT rfl rfl rfl rfl trivial ?_
      exact L.nil fun a w hh => (hh.cutK 3 rfl).ds (fun _ h => List.Mem.tail _ (h))
    · refine L.pass rfl rfl rfl ⟨_, _, rfl, rfl, rfl⟩ ?_
      refine L.pass rfl rfl rfl ⟨_, _, rfl, rfl, rfl⟩ ?_
      refine L.pass rfl rfl rfl ⟨_, _, rfl, rfl, rfl⟩ ?_
      refine L.pickF rfl rfl rfl rfl trivial ?_
      exact L.nil fun a w hh => hh.cutK 3 rfl
    refine L.move rfl rfl rfl trivial ?_
    refine' L.and [(false,26),(false,27)] [(false,28)] (s := 131) (p := 133) rfl rfl (fun hg6 => ?_) (fun hg6 => ?_) ?_
    rotate_left
    · refine L.callV rfl rfl rfl (fun D14 hD14 => awake_ok _) rfl ⟨_, rfl, rfl⟩ ?_
      refine L.pickT rfl rfl rfl rfl trivial ?_
      exact L.nil fun a w hh => hh.cutK 1 rfl
    · refine L.pass rfl rfl rfl ⟨_, _, rfl, rfl, rfl⟩ ?_
      refine L.pickF rfl rfl rfl rfl trivial ?_
      exact L.nil fun a w hh => hh.cutK 1 rfl
    refine L.assign rfl rfl rfl trivial ?_
    refine L.nil ?_
    refine C.next ?_
    refine C.ret ?_
    exact leave (vs := [_]) rfl rfl rfl ⟨rfl, trivial⟩ (fun D hD => congrArg Value.bool (ce_ok hok htm (by omega) _))
end Go.Fs
