/- Walks: the reference: a row, a truth, a sum, an error. -/
import Derived.Test.YtgnnlghoadfffaaW8
namespace Go.Fs
open Go.Proofs
open C1
theorem unknown_yes {l : List Int} {k : Nat} {x : Int} (hx : l[k]? = some x) (h : x = 2) : (unknown (l.take (k + 1)) : Int) = unknown (l.take k) + 1 := by
  unfold unknown; rw [List.take_add_one, hx, Option.toList_some, List.filter_append, List.length_append, h]; simp
theorem unknown_no {l : List Int} {k : Nat} {x : Int} (hx : l[k]? = some x) (h : ¬ x = 2) : (unknown (l.take (k + 1)) : Int) = unknown (l.take k) := by
  unfold unknown; rw [List.take_add_one, hx, Option.toList_some, List.filter_append, List.length_append]; simp [h]
theorem unknown_le (l : List Int) : unknown l ≤ l.length := List.length_filter_le _ _
theorem ist_len {r : RowD} {t : List Int} (h : t.length ≠ r.places.length) : isTruth r t = false := by
  unfold isTruth; simp [h]
theorem ist_no {r : RowD} {t : List Int} {k : Nat} {x y : Int} (hx : r.places[k]? = some x) (hy : t[k]? = some y) (h : (!inB y 0 1 || (decide (x ≠ 2) && decide (y ≠ x))) = true) : isTruth r t = false := by
  have hm : (y, x) ∈ t.zip r.places := List.mem_of_getElem? (i := k) (by rw [List.getElem?_zip_eq_some]; exact ⟨hy, hx⟩)
  have : ((t.zip r.places).all fun x => placeIs x.1 x.2) = false := by
    rw [List.all_eq_false]
    refine ⟨_, hm, ?_⟩
    unfold placeIs
    simp only [Bool.or_eq_true, Bool.not_eq_true', Bool.and_eq_true, decide_eq_true_eq] at h
    rcases h with h | h
    · simp [h]
    · simp only [Bool.and_eq_true, Bool.or_eq_true, beq_iff_eq]
      rintro ⟨_, h3 | h3⟩
      · exact h.1 h3
      · exact h.2 h3
  unfold isTruth; rw [this]; simp
theorem ist_step {r : RowD} {t : List Int} {k : Nat} {x y : Int} (hx : r.places[k]? = some x) (hy : t[k]? = some y) (h2 : ((t.zip r.places).take k).all (fun x => placeIs x.1 x.2) = true) (h : (!inB y 0 1 || (decide (x ≠ 2) && decide (y ≠ x))) = false) :
    ((t.zip r.places).take (k + 1)).all (fun x => placeIs x.1 x.2) = true := by
  rw [List.take_add_one, show (t.zip r.places)[k]? = some (y, x) by rw [List.getElem?_zip_eq_some]; exact ⟨hy, hx⟩, List.all_append, h2]
  simp only [Bool.or_eq_false_iff, Bool.not_eq_false', Bool.and_eq_false_iff, decide_eq_false_iff_not, ne_eq, Decidable.not_not] at h
  rcases h with ⟨h0, h | h⟩
  · simp [placeIs, h, h0]
  · subst h; simp [placeIs, h0]
theorem ist_yes {r : RowD} {t : List Int} {k : Nat} (hl : t.length = r.places.length) (hk : t.length ≤ k) (h2 : ((t.zip r.places).take k).all (fun x => placeIs x.1 x.2) = true) : isTruth r t = true := by
  rw [List.take_of_length_le (by simp; omega)] at h2
  unfold isTruth; rw [h2, hl]; simp
theorem wrongr_yes {r : RowD} {t : List Int} {k : Nat} {x : Cnt} (hx : r.counts[k]? = some x) (h : 0 < errOf t x) : ((((r.counts.take (k + 1)).filter fun c => decide (0 < errOf t c)).length : Nat) : Int) = ((r.counts.take k).filter fun c => decide (0 < errOf t c)).length + 1 := by
  rw [List.take_add_one, hx, Option.toList_some, List.filter_append, List.length_append]; simp [h]
theorem wrongr_no {r : RowD} {t : List Int} {k : Nat} {x : Cnt} (hx : r.counts[k]? = some x) (h : ¬ 0 < errOf t x) : ((((r.counts.take (k + 1)).filter fun c => decide (0 < errOf t c)).length : Nat) : Int) = ((r.counts.take k).filter fun c => decide (0 < errOf t c)).length := by
  rw [List.take_add_one, hx, Option.toList_some, List.filter_append, List.length_append]; simp [h]
open C1
theorem Sum_ok (tv : Value) (t : List Int) (i j : Int) (a n : Nat) (D : Data) (hS : Sl D RI 1 tv t) (hi : i = a) (hj : j + 1 = a + n) (hn : a + n ≤ t.length) (hb : ∀ x ∈ t, 0 ≤ x ∧ x ≤ 1) (hl : t.length ≤ 100) : Fn Try.prog 38 #[tv, .int .i64 i, .int .i64 j] D (fun _ v => v = .int .i64 (sumFrom t a n)) := by
  subst hi
  refine enter 22 Try.func38 rfl rfl rfl rfl fun h0 => ?_
  refine C.seq ?_
  refine C.region [(false,0)] rfl ?_
  refine L.assign rfl rfl rfl trivial ?_
  refine L.nil ?_
  refine C.next ?_
  refine C.seq ?_
  refine C.region [(false,0)] rfl ?_
  refine L.assign rfl rfl rfl trivial ?_
  refine L.nil ?_
  refine C.next ?_
  refine C.seq ?_
  refine C.seq ?_
  refine C.region [(false,0),(false,1)] rfl ?_
  refine L.move rfl rfl rfl trivial ?_
  refine L.assign rfl rfl rfl trivial ?_
  refine L.nil ?_
  refine C.next ?_
  refine C.block ?_
  refine C.loopC (γ := Nat) (fun k => n - k) (fun k => k ≤ n) (fun k => [(8, .int .i64 ((a : Int) + k)), (7, .int .i64 (sumFrom t a k))]) [(6, _), (0, _), (2, _)] (fun k => [D]) 0 (by omega) ⟨(by simp; rfl), (by simp [sumFrom]; rfl), trivial⟩ ⟨rfl, rfl, rfl, trivial⟩ (ds_same) ?_
  rintro k h1
  refine C.seq ?_
  refine C.seq ?_
  refine C.region [(false,0),(false,1),(false,2)] rfl ?_
  refine L.move rfl rfl rfl trivial ?_
  refine L.move rfl rfl rfl trivial ?_
  refine L.leq rfl rfl rfl rfl trivial ?_
  refine L.nil ?_
  refine C.next ?_
  refine C.condD rfl (fun hc1 => ?_) (fun hc1 => ?_)
  · have hk : k < n := by omega
    obtain ⟨x, hx0⟩ : ∃ x, t[a + k]? = some x := ⟨_, List.getElem?_eq_getElem (by omega)⟩
    have hx : t[((a : Int) + k).toNat]? = some x := by rw [show ((a : Int) + k).toNat = a + k by omega]; exact hx0
    have hx1 := hb x (List.mem_of_getElem? hx0)
    have hx2 := sumFrom_bound hb a k
    refine C.skip ?_
    refine C.next ?_
    refine C.seq ?_
    refine C.block ?_
    refine C.region [(false,0),(false,1),(false,2),(false,3),(false,4),(false,5),(false,6)] rfl ?_
    refine L.move rfl rfl rfl trivial ?_
    refine L.move rfl rfl rfl trivial ?_
    refine L.move rfl rfl rfl trivial ?_
    refine L.indexS rfl Try.underlying22 Tf.s3 rfl hS rfl (by omega) hx rfl trivial (fun b1 o1 cs1 hr1 hcl1 hA1 => ?_)
    obtain rfl : cs1 = [.int .i64 _] := hr1
    refine L.loadD1 rfl (k := 0) Tf.a3 rfl hA1 (by first | simp | assumption) rfl List.not_mem_nil rfl trivial ?_
    refine L.add rfl rfl rfl (by simp only [inK]; omega) rfl trivial ?_
    refine L.assign rfl rfl rfl trivial ?_
    refine L.nil ?_
    refine C.blockEnd ?_
    refine C.next ?_
    refine C.region [(false,0),(false,1),(false,2)] rfl ?_
    refine L.move rfl rfl rfl trivial ?_
    refine L.add rfl rfl rfl (by simp only [inK]; omega) rfl trivial ?_
    refine L.assign rfl rfl rfl trivial ?_
    refine L.nil ?_
    exact C.againR 15 (k + 1) (by omega) (by omega) ⟨(by first | rfl | (show some (Value.int _ _) = some (Value.int _ _); congr 2; omega)), (by rw [sumFrom_succ hx0]; rfl), trivial⟩ rfl rfl (List.Sublist.refl _) (ds_same)
  · obtain rfl : k = n := by omega
    refine C.exit ?_
    refine C.thenExit ?_
    refine C.thenExit ?_
    refine C.blockExit ?_
    refine C.next ?_
    refine C.seq ?_
    refine C.region [(false,0),(false,1)] rfl ?_
    refine L.move rfl rfl rfl trivial ?_
    refine L.assign rfl rfl rfl trivial ?_
    refine L.nil ?_
    refine C.next ?_
    refine C.ret ?_
    exact leave (vs := [_]) rfl rfl rfl ⟨rfl, trivial⟩ (fun D hD => rfl)
theorem Error_ok (tv : Value) (t : List Int) (c : Cnt) (D : Data) (hS : Sl D RI 1 tv t) (h0 : 0 ≤ c.many) (h1 : c.many ≤ t.length) (h2 : 0 ≤ c.num) (h3 : c.num ≤ 9) (hb : ∀ x ∈ t, 0 ≤ x ∧ x ≤ 1) (hl : t.length ≤ 100) : Fn Try.prog 57 #[tv, cV c] D (fun _ v => v = .int .i64 (errOf t c)) := by
  have hm0 := h0
  have hm1 := h1
  have hb1 := sumFrom_bound hb 0 c.many.toNat
  have hb2 := sumFrom_bound hb (t.length - c.many.toNat) c.many.toNat
  refine enter 32 Try.func57 rfl rfl rfl rfl fun h0 => ?_
  refine C.seq ?_
  refine C.region [(false,0),(false,1)] rfl ?_
  refine L.boxD rfl rfl rfl rfl trivial (fun q1 E1 hE1 hB1 => ?_)
  refine L.assign rfl rfl rfl trivial ?_
  refine L.nil ?_
  refine C.next ?_
  refine C.seq ?_
  refine C.region [(false,0),(false,1),(false,2),(false,3),(false,4),(false,5)] rfl ?_
  refine L.move rfl rfl rfl trivial ?_
  refine L.fieldAddr rfl Tf.f50_1 rfl rfl trivial ?_
  refine L.loadD1 rfl (k := 1) Tf.a3 rfl hB1 (by first | simp | assumption) rfl List.not_mem_nil rfl trivial ?_
  refine L.sub rfl rfl rfl (by simp only [inK]; omega) rfl trivial ?_
  refine L.callV rfl rfl rfl (fun D1 hD1 => Sum_ok _ t _ _ 0 c.many.toNat _ (hS.up RI.up (hD1 _ (by simp))) rfl (by omega) (by omega) hb hl) rfl trivial ?_
  refine L.assign rfl rfl rfl trivial ?_
  refine L.nil ?_
  refine C.next ?_
  refine C.seq ?_
  refine C.seq ?_
  refine C.region [(false,0),(false,1)] rfl ?_
  refine L.fieldAddr rfl Tf.f50_0 rfl rfl trivial ?_
  refine L.loadD1 rfl (k := 0) Tf.a4 rfl hB1 (by first | simp | assumption) rfl List.not_mem_nil rfl trivial ?_
  refine L.nil ?_
  refine C.next ?_
  refine C.cond rfl (fun hc1 => ?_) (fun hc1 => ?_)
  · have hab : about t c = sumFrom t (t.length - c.many.toNat) c.many.toNat := by unfold about; rw [if_pos hc1]
    refine C.region [(false,0),(false,1),(false,2),(false,3),(false,4),(false,5),(false,6),(false,7),(false,8),(false,9),(false,10)] rfl ?_
    refine L.move rfl rfl rfl trivial ?_
    refine L.move rfl rfl rfl trivial ?_
    refine L.len rfl Try.underlying22 rfl (by assumption) rfl rfl trivial ?_
    refine L.fieldAddr rfl Tf.f50_1 rfl rfl trivial ?_
    refine L.loadD1 rfl (k := 1) Tf.a3 rfl hB1 (by first | simp | assumption) rfl List.not_mem_nil rfl trivial ?_
    refine L.sub rfl rfl rfl (by simp only [inK]; omega) rfl trivial ?_
    refine L.move rfl rfl rfl trivial ?_
    refine L.len rfl Try.underlying22 rfl (by assumption) rfl rfl trivial ?_
    refine L.sub rfl rfl rfl (by simp only [inK]; omega) rfl trivial ?_
    refine L.callV rfl rfl rfl (fun D2 hD2 => Sum_ok _ t _ _ (t.length - c.many.toNat) c.many.toNat _ (hS.up RI.up (hD2 _ (by simp))) (by omega) (by omega) (by omega) hb hl) rfl trivial ?_
    refine L.assign rfl rfl rfl trivial ?_
    refine L.nil ?_
    refine C.next ?_
    refine C.seq ?_
    refine C.region [(false,0),(false,1),(false,2),(false,3),(false,4),(false,5),(false,6),(false,7),(false,8),(false,9)] rfl ?_
    refine L.move rfl rfl rfl trivial ?_
    refine L.fieldAddr rfl Tf.f50_2 rfl rfl trivial ?_
    refine L.loadD1 rfl (k := 2) Tf.a3 rfl hB1 (by first | simp | assumption) rfl List.not_mem_nil rfl trivial ?_
    refine L.sub rfl rfl rfl (by simp only [inK]; omega) rfl trivial ?_
    refine L.fieldAddr rfl Tf.f50_2 rfl rfl trivial ?_
    refine L.loadD1 rfl (k := 2) Tf.a3 rfl hB1 (by first | simp | assumption) rfl List.not_mem_nil rfl trivial ?_
    refine L.move rfl rfl rfl trivial ?_
    refine L.sub rfl rfl rfl (by simp only [inK]; omega) rfl trivial ?_
    refine L.max2 rfl rfl rfl rfl trivial ?_
    refine L.assign rfl rfl rfl trivial ?_
    refine L.nil ?_
    refine C.next ?_
    refine C.ret ?_
    exact leave (vs := [_]) rfl rfl rfl ⟨rfl, trivial⟩ (fun D hD => by show Value.int _ _ = _; rw [errOf, hab])
  · have hab : about t c = sumFrom t 0 c.many.toNat := by unfold about; rw [if_neg (by simp [hc1])]
    refine C.skip ?_
    refine C.next ?_
    refine C.seq ?_
    refine C.region [(false,0),(false,1),(false,2),(false,3),(false,4),(false,5),(false,6),(false,7),(false,8),(false,9)] rfl ?_
    refine L.move rfl rfl rfl trivial ?_
    refine L.fieldAddr rfl Tf.f50_2 rfl rfl trivial ?_
    refine L.loadD1 rfl (k := 2) Tf.a3 rfl hB1 (by first | simp | assumption) rfl List.not_mem_nil rfl trivial ?_
    refine L.sub rfl rfl rfl (by simp only [inK]; omega) rfl trivial ?_
    refine L.fieldAddr rfl Tf.f50_2 rfl rfl trivial ?_
    refine L.loadD1 rfl (k := 2) Tf.a3 rfl hB1 (by first | simp | assumption) rfl List.not_mem_nil rfl trivial ?_
    refine L.move rfl rfl rfl trivial ?_
    refine L.sub rfl rfl rfl (by simp only [inK]; omega) rfl trivial ?_
    refine L.max2 rfl rfl rfl rfl trivial ?_
    refine L.assign rfl rfl rfl trivial ?_
    refine L.nil ?_
    refine C.next ?_
    refine C.ret ?_
    exact leave (vs := [_]) rfl rfl rfl ⟨rfl, trivial⟩ (fun D hD => by show Value.int _ _ = _; rw [errOf, hab])
theorem Unknown_ok (rv : Value) (r : RowD) (D : Data) (hr : RowIs D rv r) : Fn Try.prog 64 #[rv] D (fun _ v => v = .int .i64 (unknown r.places)) := by
  obtain ⟨pv, cv, rfl, hp, hc⟩ := hr
  have hl := hp.len
  refine enter 21 Try.func64 rfl rfl rfl rfl fun h0 => ?_
  refine C.seq ?_
  refine C.region [(false,0),(false,1)] rfl ?_
  refine L.boxD rfl rfl rfl rfl trivial (fun q1 E1 hE1 hB1 => ?_)
  refine L.assign rfl rfl rfl trivial ?_
  refine L.nil ?_
  refine C.next ?_
  refine C.seq ?_
  refine C.region [(false,0)] rfl ?_
  refine L.assign rfl rfl rfl trivial ?_
  refine L.nil ?_
  refine C.next ?_
  refine C.seq ?_
  refine C.seq ?_
  refine C.region [(false,0)] rfl ?_
  refine L.assign rfl rfl rfl trivial ?_
  refine L.nil ?_
  refine C.next ?_
  refine C.block ?_
  refine C.loopC (γ := Nat) (fun k => r.places.length - k) (fun k => k ≤ r.places.length) (fun k => [(4, .int .i64 (k : Int)), (3, .int .i64 (unknown (r.places.take k) : Int))]) [(2, _), (1, _)] (fun k => [E1, D]) 0 (by omega) ⟨(by first | rfl | (show some (Value.int _ _) = some (Value.int _ _); congr 2; omega)), (by first | rfl | (show some (Value.int _ _) = some (Value.int _ _); congr 2; omega)), trivial⟩ ⟨rfl, rfl, trivial⟩ (ds_same) ?_
  rintro k h1
  refine C.seq ?_
  refine C.seq ?_
  refine C.region [(false,0),(false,1),(false,2),(false,3),(false,4)] rfl ?_
  refine L.move rfl rfl rfl trivial ?_
  refine L.fieldAddr rfl Tf.f25_0 rfl rfl trivial ?_
  refine L.loadD1 rfl (k := 0) Tf.a22 rfl hB1 (by first | simp | assumption) rfl List.not_mem_nil rfl trivial ?_
  refine L.len rfl Try.underlying22 rfl (by assumption) rfl rfl trivial ?_
  refine L.lss rfl rfl rfl rfl trivial ?_
  refine L.nil ?_
  refine C.next ?_
  refine C.condD rfl (fun hc1 => ?_) (fun hc1 => ?_)
  · have hk : k < r.places.length := by omega
    obtain ⟨x, hx⟩ : ∃ x, r.places[k]? = some x := ⟨_, List.getElem?_eq_getElem hk⟩
    have hu := unknown_le (r.places.take k)
    have hu2 : (r.places.take k).length ≤ k := List.length_take_le _ _
    refine C.skip ?_
    refine C.next ?_
    refine C.seq ?_
    refine C.block ?_
    refine C.seq ?_
    refine C.region [(false,0),(false,1),(false,2),(false,3),(false,4),(false,5)] rfl ?_
    refine L.fieldAddr rfl Tf.f25_0 rfl rfl trivial ?_
    refine L.loadD1 rfl (k := 0) Tf.a22 rfl hB1 (by first | simp | assumption) rfl List.not_mem_nil rfl trivial ?_
    refine L.move rfl rfl rfl trivial ?_
    refine L.indexS rfl Try.underlying22 Tf.s3 rfl hp rfl (by omega) hx rfl trivial (fun b1 o1 cs1 hr1 hcl1 hA1 => ?_)
    obtain rfl : cs1 = [.int .i64 _] := hr1
    refine L.loadD1 rfl (k := 0) Tf.a3 rfl hA1 (by first | simp | assumption) rfl List.not_mem_nil rfl trivial ?_
    refine L.eql rfl rfl rfl rfl trivial ?_
    refine L.nil ?_
    refine C.next ?_
    refine C.condD rfl (fun hc2 => ?_) (fun hc2 => ?_)
    · refine C.region [(false,0),(false,1),(false,2)] rfl ?_
      refine L.move rfl rfl rfl trivial ?_
      refine L.add rfl rfl rfl (by simp only [inK]; omega) rfl trivial ?_
      refine L.assign rfl rfl rfl trivial ?_
      refine L.nil ?_
      refine C.blockEnd ?_
      refine C.next ?_
      refine C.region [(false,0),(false,1),(false,2)] rfl ?_
      refine L.move rfl rfl rfl trivial ?_
      refine L.add rfl rfl rfl (by simp only [inK]; omega) rfl trivial ?_
      refine L.assign rfl rfl rfl trivial ?_
      refine L.nil ?_
      exact C.againR 19 (k + 1) (by omega) (by omega) ⟨(by first | rfl | (show some (Value.int _ _) = some (Value.int _ _); congr 2; omega)), (by rw [unknown_yes hx hc2]; rfl), trivial⟩ rfl rfl (List.Sublist.refl _) (ds_same)
    · refine C.skip ?_
      refine C.blockEnd ?_
      refine C.next ?_
      refine C.region [(false,0),(false,1),(false,2)] rfl ?_
      refine L.move rfl rfl rfl trivial ?_
      refine L.add rfl rfl rfl (by simp only [inK]; omega) rfl trivial ?_
      refine L.assign rfl rfl rfl trivial ?_
      refine L.nil ?_
      exact C.againR 16 (k + 1) (by omega) (by omega) ⟨(by first | rfl | (show some (Value.int _ _) = some (Value.int _ _); congr 2; omega)), (by rw [unknown_no hx hc2]; rfl), trivial⟩ rfl rfl (List.Sublist.refl _) (ds_same)
  · obtain rfl : k = r.places.length := by omega
    rw [List.take_length]
    refine C.exit ?_
    refine C.thenExit ?_
    refine C.thenExit ?_
    refine C.blockExit ?_
    refine C.next ?_
    refine C.seq ?_
    refine C.region [(false,0),(false,1)] rfl ?_
    refine L.move rfl rfl rfl trivial ?_
    refine L.assign rfl rfl rfl trivial ?_
    refine L.nil ?_
    refine C.next ?_
    refine C.ret ?_
    exact leave (vs := [_]) rfl rfl rfl ⟨rfl, trivial⟩ (fun D hD => rfl)
theorem IsTruth_ok (rv tv : Value) (r : RowD) (t : List Int) (D : Data) (hr : RowIs D rv r) (ht : Sl D RI 1 tv t) : Fn Try.prog 50 #[rv, tv] D (fun _ v => v = .bool (isTruth r t)) := by
  obtain ⟨pv, cv, rfl, hp, hc⟩ := hr
  have hl := ht.len
  refine enter 44 Try.func50 rfl rfl rfl rfl fun h0 => ?_
  refine C.seq ?_
  refine C.region [(false,0),(false,1)] rfl ?_
  refine L.boxD rfl rfl rfl rfl trivial (fun q1 E1 hE1 hB1 => ?_)
  refine L.assign rfl rfl rfl trivial ?_
  refine L.nil ?_
  refine C.next ?_
  refine C.seq ?_
  refine C.seq ?_
  refine C.region [(false,0),(false,1),(false,2),(false,3),(false,4),(false,5)] rfl ?_
  refine L.move rfl rfl rfl trivial ?_
  refine L.len rfl Try.underlying22 rfl ht rfl rfl trivial ?_
  refine L.fieldAddr rfl Tf.f25_0 rfl rfl trivial ?_
  refine L.loadD1 rfl (k := 0) Tf.a22 rfl hB1 (by first | simp | assumption) rfl List.not_mem_nil rfl trivial ?_
  refine L.len rfl Try.underlying22 rfl hp rfl rfl trivial ?_
  refine L.neq rfl rfl rfl rfl trivial ?_
  refine L.nil ?_
  refine C.next ?_
  refine C.condD rfl (fun hc1 => ?_) (fun hc1 => ?_)
  · refine C.seq ?_
    refine C.region [(false,0)] rfl ?_
    refine L.assign rfl rfl rfl trivial ?_
    refine L.nil ?_
    refine C.next ?_
    refine C.ret ?_
    refine C.thenRet ?_
    exact leave (vs := [_]) rfl rfl rfl ⟨rfl, trivial⟩ (fun D hD => by show Value.bool _ = _; rw [ist_len (by omega)])
  · have hlen : t.length = r.places.length := by omega
    refine C.skip ?_
    refine C.next ?_
    refine C.seq ?_
    refine C.seq ?_
    refine C.region [(false,0)] rfl ?_
    refine L.assign rfl rfl rfl trivial ?_
    refine L.nil ?_
    refine C.next ?_
    refine C.block ?_
    refine C.loopC (γ := Nat) (fun k => t.length - k) (fun k => k ≤ t.length ∧ ((t.zip r.places).take k).all (fun x => placeIs x.1 x.2) = true) (fun k => [(5, .int .i64 (k : Int))]) [(4, _), (2, _), (1, _)] (fun k => [E1, D]) 0 (by simp) ⟨(by first | rfl | (show some (Value.int _ _) = some (Value.int _ _); congr 2; omega)), trivial⟩ ⟨rfl, rfl, rfl, trivial⟩ (ds_same) ?_
    rintro k ⟨h1, h2⟩
    refine C.seq ?_
    refine C.seq ?_
    refine C.region [(false,0),(false,1),(false,2),(false,3)] rfl ?_
    refine L.move rfl rfl rfl trivial ?_
    refine L.move rfl rfl rfl trivial ?_
    refine L.len rfl Try.underlying22 rfl ht rfl rfl trivial ?_
    refine L.lss rfl rfl rfl rfl trivial ?_
    refine L.nil ?_
    refine C.next ?_
    refine C.condD rfl (fun hc2 => ?_) (fun hc2 => ?_)
    · have hk : k < t.length := by omega
      obtain ⟨x, hx⟩ : ∃ x, r.places[k]? = some x := ⟨_, List.getElem?_eq_getElem (by omega)⟩
      obtain ⟨y, hy⟩ : ∃ y, t[k]? = some y := ⟨_, List.getElem?_eq_getElem hk⟩
      refine C.skip ?_
      refine C.next ?_
      refine C.seq ?_
      refine C.block ?_
      refine C.seq ?_
      refine C.draw [] 7 [0,1,2,3,4,5,6,7,8,9,10,11,12,13,14,15,16,17,18,19,20,21,22,23,24,25] [false,true,false,false,false,false,false,false,false,true,false,false,false,false,false,true,false,false,true,true,true,true,true,false,false,false] [(false,0),(true,1),(false,2),(false,3),(false,4),(false,5),(false,6),(false,7),(false,8),(true,9),(false,10),(false,11),(false,12),(false,13),(false,14),(true,15),(false,16),(false,17),(true,18),(true,19),(true,20),(true,21),(true,22),(false,23),(false,24),(false,25)] Tf.follows (fun _ _ _ h => np_body (P := Try.prog) (fn := Try.f50) _ _ _ h) (by kernel_rfl) rfl ?_
      refine L.move rfl rfl rfl trivial ?_
      refine L.move rfl rfl rfl trivial ?_
      refine L.indexS rfl Try.underlying22 Tf.s3 rfl ht rfl (by omega) hy rfl trivial (fun b1 o1 cs1 hr1 hcl1 hA1 => ?_)
      obtain rfl : cs1 = [.int .i64 _] := hr1
      refine L.loadD1 rfl (k := 0) Tf.a3 rfl hA1 (by first | simp | assumption) rfl List.not_mem_nil rfl trivial ?_
      refine L.callV rfl rfl rfl (fun D1 hD1 => In_ok _ _ _ _) rfl trivial ?_
      refine L.not rfl rfl rfl trivial ?_
      refine L.move rfl rfl rfl trivial ?_
      refine' L.or [(false,7),(false,8),(true,9),(false,10),(false,11),(false,12),(false,13),(false,14),(true,15),(false,16),(false,17),(true,18),(true,19),(true,20),(true,21),(true,22),(false,23),(false,24),(false,25)] [] (s := 24) (p := 43) rfl rfl (fun hg1 => ?_) (fun hg1 => ?_) ?_
      rotate_left
      · refine L.fieldAddr rfl Tf.f25_0 rfl rfl ⟨_, rfl, rfl⟩ ?_
        refine L.loadD1 rfl (k := 0) Tf.a22 rfl hB1 (by first | simp | assumption) rfl List.not_mem_nil rfl ⟨_, rfl, rfl⟩ ?_
        refine L.move rfl rfl rfl ⟨_, rfl, rfl⟩ ?_
        refine L.indexS rfl Try.underlying22 Tf.s3 rfl hp rfl (by omega) hx rfl ⟨_, rfl, rfl⟩ (fun b2 o2 cs2 hr2 hcl2 hA2 => ?_)
        obtain rfl : cs2 = [.int .i64 _] := hr2
        refine L.loadD1 rfl (k := 0) Tf.a3 rfl hA2 (by first | simp | assumption) rfl List.not_mem_nil rfl ⟨_, rfl, rfl⟩ ?_
        refine L.neq rfl rfl rfl rfl ⟨_, rfl, rfl⟩ ?_
        refine L.move rfl rfl rfl ⟨_, rfl, rfl⟩ ?_
        refine' L.and [(false,14),(true,15),(false,16),(false,17),(true,18),(true,19),(true,20),(true,21),(true,22),(false,23),(false,24)] [(false,25)] (s := 31) (p := 42) rfl rfl (fun hg2 => ?_) (fun hg2 => ?_) ?_
        rotate_left
        · refine L.move rfl rfl rfl ⟨_, rfl, rfl⟩ ?_
          refine L.move rfl rfl rfl ⟨_, rfl, rfl⟩ ?_
          refine L.indexS rfl Try.underlying22 Tf.s3 rfl ht rfl (by omega) hy rfl ⟨_, rfl, rfl⟩ (fun b3 o3 cs3 hr3 hcl3 hA3 => ?_)
          obtain rfl : cs3 = [.int .i64 _] := hr3
          refine L.loadD1 rfl (k := 0) Tf.a3 rfl hA3 (by first | simp | assumption) rfl List.not_mem_nil rfl ⟨_, rfl, rfl⟩ ?_
          refine L.fieldAddr rfl Tf.f25_0 rfl rfl ⟨_, rfl, rfl⟩ ?_
          refine L.loadD1 rfl (k := 0) Tf.a22 rfl hB1 (by first | simp | assumption) rfl List.not_mem_nil rfl ⟨_, rfl, rfl⟩ ?_
          refine L.move rfl rfl rfl ⟨_, rfl, rfl⟩ ?_
          refine L.indexS rfl Try.underlying22 Tf.s3 rfl hp rfl (by omega) hx rfl ⟨_, rfl, rfl⟩ (fun b4 o4 cs4 hr4 hcl4 hA4 => ?_)
          obtain rfl : cs4 = [.int .i64 _] := hr4
          refine L.loadD1 rfl (k := 0) Tf.a3 rfl hA4 (by first | simp | assumption) rfl List.not_mem_nil rfl ⟨_, rfl, rfl⟩ ?_
          refine L.neq rfl rfl rfl rfl ⟨_, rfl, rfl⟩ ?_
          refine L.pickT rfl rfl rfl rfl ⟨_, rfl, rfl⟩ ?_
          exact L.nil fun a w hh => hh.cutK 10 rfl
        · refine L.pass rfl rfl rfl ⟨_, _, rfl, rfl, rfl⟩ ?_
          refine L.pass rfl rfl rfl ⟨_, _, rfl, rfl, rfl⟩ ?_
          refine L.pass rfl rfl rfl ⟨_, _, rfl, rfl, rfl⟩ ?_
          refine L.pass rfl rfl rfl ⟨_, _, rfl, rfl, rfl⟩ ?_
          refine L.pass rfl rfl rfl ⟨_, _, rfl, rfl, rfl⟩ ?_
          refine L.pass rfl rfl rfl ⟨_, _, rfl, rfl, rfl⟩ ?_
          refine L.pass rfl rfl rfl ⟨_, _, rfl, rfl, rfl⟩ ?_
          refine L.pass rfl rfl rfl ⟨_, _, rfl, rfl, rfl⟩ ?_
          refine L.pass rfl rfl rfl ⟨_, _, rfl, rfl, rfl⟩ ?_
          refine L.pass rfl rfl rfl ⟨_, _, rfl, rfl, rfl⟩ ?_
          refine L.pickF rfl rfl rfl rfl ⟨_, rfl, rfl⟩ ?_
          exact L.nil fun a w hh => hh.cutK 10 rfl
        refine L.pickF rfl rfl rfl rfl trivial ?_
        exact L.nil fun a w hh => hh.cutK 8 rfl
      · refine L.pass rfl rfl rfl ⟨_, _, rfl, rfl, rfl⟩ ?_
        refine L.pass rfl rfl rfl ⟨_, _, rfl, rfl, rfl⟩ ?_
        refine L.pass rfl rfl rfl ⟨_, _, rfl, rfl, rfl⟩ ?_
        refine L.pass rfl rfl rfl ⟨_, _, rfl, rfl, rfl⟩ ?_
        refine L.pass rfl rfl rfl ⟨_, _, rfl, rfl, rfl⟩ ?_
        refine L.pass rfl rfl rfl ⟨_, _, rfl, rfl, rfl⟩ ?_
        refine L.pass rfl rfl rfl ⟨_, _, rfl, rfl, rfl⟩ ?_
        refine L.pass rfl rfl rfl ⟨_, _, rfl, rfl, rfl⟩ ?_
        refine L.pass rfl rfl rfl ⟨_, _, rfl, rfl, rfl⟩ ?_
        refine L.pass rfl rfl rfl ⟨_, _, rfl, rfl, rfl⟩ ?_
        refine L.pass rfl rfl rfl ⟨_, _, rfl, rfl, rfl⟩ ?_
        refine L.pass rfl rfl rfl ⟨_, _, rfl, rfl, rfl⟩ ?_
        refine L.pass rfl rfl rfl ⟨_, _, rfl, rfl, rfl⟩ ?_
        refine L.pass rfl rfl rfl ⟨_, _, rfl, rfl, rfl⟩ ?_
        refine L.pass rfl rfl rfl ⟨_, _, rfl, rfl, rfl⟩ ?_
        refine L.pass rfl rfl rfl ⟨_, _, rfl, rfl, rfl⟩ ?_
        refine L.pass rfl rfl rfl ⟨_, _, rfl, rfl, rfl⟩ ?_
        refine L.pass rfl rfl rfl ⟨_, _, rfl, rfl, rfl⟩ ?_
        refine L.pickT rfl rfl rfl rfl trivial ?_
        exact L.nil fun a w hh => hh.cutK 18 rfl
      refine L.nil ?_
      refine C.next ?_
      refine C.cond rfl (fun hc3 => ?_) (fun hc3 => ?_)
      · refine C.seq ?_
        refine C.region [(false,0)] rfl ?_
        refine L.assign rfl rfl rfl trivial ?_
        refine L.nil ?_
        refine C.next ?_
        refine C.ret ?_
        refine C.blockRet ?_
        refine C.thenRet ?_
        refine C.thenRet ?_
        refine C.blockRet ?_
        refine C.thenRet ?_
        exact leave (vs := [_]) rfl rfl rfl ⟨rfl, trivial⟩ (fun D hD => by show Value.bool _ = _; rw [ist_no hx hy hc3])
      · refine C.skip ?_
        refine C.blockEnd ?_
        refine C.next ?_
        refine C.region [(false,0),(false,1),(false,2)] rfl ?_
        refine L.move rfl rfl rfl trivial ?_
        refine L.add rfl rfl rfl (by simp only [inK]; omega) rfl trivial ?_
        refine L.assign rfl rfl rfl trivial ?_
        refine L.nil ?_
        exact C.againR 16 (k + 1) ⟨by omega, ist_step hx hy h2 hc3⟩ (by omega) ⟨(by first | rfl | (show some (Value.int _ _) = some (Value.int _ _); congr 2; omega)), trivial⟩ rfl rfl (List.Sublist.refl _) (ds_same)
    · refine C.exit ?_
      refine C.thenExit ?_
      refine C.thenExit ?_
      refine C.blockExit ?_
      refine C.next ?_
      refine C.seq ?_
      refine C.region [(false,0)] rfl ?_
      refine L.assign rfl rfl rfl trivial ?_
      refine L.nil ?_
      refine C.next ?_
      refine C.ret ?_
      exact leave (vs := [_]) rfl rfl rfl ⟨rfl, trivial⟩ (fun D hD => by show Value.bool _ = _; rw [ist_yes hlen (by omega) h2])
theorem Wrong_ok (rv tv : Value) (r : RowD) (t : List Int) (D : Data) (hr : RowIs D rv r) (ht : Sl D RI 1 tv t) (hok : RowOk r) (htr : TruthOk r t) : Fn Try.prog 51 #[rv, tv] D (fun _ v => v = .int .i64 (if explains r t then (wrongs r t : Int) else -1)) := by
  obtain ⟨pv, cv, rfl, hp, hc⟩ := hr
  have hl := hc.len
  have h6 := hok.cnt6
  have h9 := hok.len9
  have htl := htr.1
  refine enter 31 Try.func51 rfl rfl rfl rfl fun h0 => ?_
  refine C.seq ?_
  refine C.region [(false,0),(false,1)] rfl ?_
  refine L.boxD rfl rfl rfl rfl trivial (fun q1 E1 hE1 hB1 => ?_)
  refine L.assign rfl rfl rfl trivial ?_
  refine L.nil ?_
  refine C.next ?_
  refine C.seq ?_
  refine C.region [(false,0)] rfl ?_
  refine L.assign rfl rfl rfl trivial ?_
  refine L.nil ?_
  refine C.next ?_
  refine C.seq ?_
  refine C.seq ?_
  refine C.region [(false,0)] rfl ?_
  refine L.assign rfl rfl rfl trivial ?_
  refine L.nil ?_
  refine C.next ?_
  refine C.block ?_
  refine C.loopC (γ := Nat) (fun k => r.counts.length - k) (fun k => k ≤ r.counts.length ∧ (r.counts.take k).all (fun c => decide (errOf t c ≤ r.off)) = true) (fun k => [(6, .int .i64 (k : Int)), (5, .int .i64 (((r.counts.take k).filter fun c => decide (0 < errOf t c)).length : Int))]) [(4, _), (2, _), (1, _)] (fun k => [E1, D]) 0 (by simp) ⟨(by first | rfl | (show some (Value.int _ _) = some (Value.int _ _); congr 2; omega)), (by first | rfl | (show some (Value.int _ _) = some (Value.int _ _); congr 2; omega)), trivial⟩ ⟨rfl, rfl, rfl, trivial⟩ (ds_same) ?_
  rintro k ⟨h1, h2⟩
  refine C.seq ?_
  refine C.seq ?_
  refine C.region [(false,0),(false,1),(false,2),(false,3),(false,4)] rfl ?_
  refine L.move rfl rfl rfl trivial ?_
  refine L.fieldAddr rfl Tf.f25_1 rfl rfl trivial ?_
  refine L.loadD1 rfl (k := 1) Tf.a23 rfl hB1 (by first | simp | assumption) rfl List.not_mem_nil rfl trivial ?_
  refine L.len rfl Try.underlying23 rfl (by assumption) rfl rfl trivial ?_
  refine L.lss rfl rfl rfl rfl trivial ?_
  refine L.nil ?_
  refine C.next ?_
  refine C.condD rfl (fun hc1 => ?_) (fun hc1 => ?_)
  · have hk : k < r.counts.length := by omega
    obtain ⟨x, hx⟩ : ∃ x, r.counts[k]? = some x := ⟨_, List.getElem?_eq_getElem hk⟩
    have hxm := List.mem_of_getElem? hx
    have hlf := List.length_filter_le (fun c => decide (0 < errOf t c)) (r.counts.take k)
    have hlt : (r.counts.take k).length ≤ k := List.length_take_le _ _
    refine C.skip ?_
    refine C.next ?_
    refine C.seq ?_
    refine C.block ?_
    refine C.seq ?_
    refine C.region [(false,0),(false,1),(false,2),(false,3),(false,4),(false,5),(false,6),(false,7)] rfl ?_
    refine L.move rfl rfl rfl trivial ?_
    refine L.fieldAddr rfl Tf.f25_1 rfl rfl trivial ?_
    refine L.loadD1 rfl (k := 1) Tf.a23 rfl hB1 (by first | simp | assumption) rfl List.not_mem_nil rfl trivial ?_
    refine L.move rfl rfl rfl trivial ?_
    refine L.indexS rfl Try.underlying23 Tf.s50 rfl hc rfl (by omega) hx rfl trivial (fun b1 o1 cs1 hr1 hcl1 hA1 => ?_)
    obtain rfl : cs1 = [.bool _, .int .i64 _, .int .i64 _] := hr1
    refine L.loadDW rfl Tf.a50 rfl hA1 (by first | simp | assumption) Tf.s50 List.not_mem_nil rfl trivial ?_
    refine L.callV rfl rfl rfl (fun D1 hD1 => Error_ok _ t x _ (ht.up RI.up (hD1 _ (by simp))) (hok.cnt x hxm).1 (by have := (hok.cnt x hxm).2.1; omega) (hok.cnt x hxm).2.2.1 (hok.cnt x hxm).2.2.2 htr.2 (by omega)) rfl trivial ?_
    refine L.assign rfl rfl rfl trivial ?_
    refine L.nil ?_
    refine C.next ?_
    refine C.seq ?_
    refine C.seq ?_
    refine C.region [(false,0),(false,1),(false,2),(false,3)] rfl ?_
    refine L.move rfl rfl rfl trivial ?_
    refine L.fieldAddr rfl Tf.f25_3 rfl rfl trivial ?_
    refine L.loadD1 rfl (k := 3) Tf.a3 rfl hB1 (by first | simp | assumption) rfl List.not_mem_nil rfl trivial ?_
    refine L.gtr rfl rfl rfl rfl trivial ?_
    refine L.nil ?_
    refine C.next ?_
    refine C.condD rfl (fun hc2 => ?_) (fun hc2 => ?_)
    · refine C.seq ?_
      refine C.region [(false,0)] rfl ?_
      refine L.assign rfl rfl rfl trivial ?_
      refine L.nil ?_
      refine C.next ?_
      refine C.ret ?_
      refine C.thenRet ?_
      refine C.blockRet ?_
      refine C.thenRet ?_
      refine C.thenRet ?_
      refine C.blockRet ?_
      refine C.thenRet ?_
      exact leave (vs := [_]) rfl rfl rfl ⟨rfl, trivial⟩ (fun D hD => by show Value.int _ _ = _; rw [wrong_no hxm hc2]; rfl)
    · refine C.skip ?_
      refine C.next ?_
      refine C.seq ?_
      refine C.region [(false,0),(false,1)] rfl ?_
      refine L.move rfl rfl rfl trivial ?_
      refine L.gtr rfl rfl rfl rfl trivial ?_
      refine L.nil ?_
      refine C.next ?_
      refine C.condD rfl (fun hc3 => ?_) (fun hc3 => ?_)
      · refine C.region [(false,0),(false,1),(false,2)] rfl ?_
        refine L.move rfl rfl rfl trivial ?_
        refine L.add rfl rfl rfl (by simp only [inK]; omega) rfl trivial ?_
        refine L.assign rfl rfl rfl trivial ?_
        refine L.nil ?_
        refine C.blockEnd ?_
        refine C.next ?_
        refine C.region [(false,0),(false,1),(false,2)] rfl ?_
        refine L.move rfl rfl rfl trivial ?_
        refine L.add rfl rfl rfl (by simp only [inK]; omega) rfl trivial ?_
        refine L.assign rfl rfl rfl trivial ?_
        refine L.nil ?_
        exact C.againR 27 (k + 1) ⟨by omega, wrong_step1 hx h2 hc2⟩ (by omega) ⟨(by first | rfl | (show some (Value.int _ _) = some (Value.int _ _); congr 2; omega)), (by rw [wrongr_yes hx hc3]; rfl), trivial⟩ rfl rfl (List.Sublist.refl _) (ds_same)
      · refine C.skip ?_
        refine C.blockEnd ?_
        refine C.next ?_
        refine C.region [(false,0),(false,1),(false,2)] rfl ?_
        refine L.move rfl rfl rfl trivial ?_
        refine L.add rfl rfl rfl (by simp only [inK]; omega) rfl trivial ?_
        refine L.assign rfl rfl rfl trivial ?_
        refine L.nil ?_
        exact C.againR 24 (k + 1) ⟨by omega, wrong_step1 hx h2 hc2⟩ (by omega) ⟨(by first | rfl | (show some (Value.int _ _) = some (Value.int _ _); congr 2; omega)), (by rw [wrongr_no hx hc3]; rfl), trivial⟩ rfl rfl (List.Sublist.refl _) (ds_same)
  · obtain rfl : k = r.counts.length := by omega
    rw [List.take_length] at h2
    rw [List.take_length]
    refine C.exit ?_
    refine C.thenExit ?_
    refine C.thenExit ?_
    refine C.blockExit ?_
    refine C.next ?_
    refine C.seq ?_
    refine C.region [(false,0),(false,1)] rfl ?_
    refine L.move rfl rfl rfl trivial ?_
    refine L.assign rfl rfl rfl trivial ?_
    refine L.nil ?_
    refine C.next ?_
    refine C.ret ?_
    exact leave (vs := [_]) rfl rfl rfl ⟨rfl, trivial⟩ (fun D hD => by show Value.int _ _ = _; rw [wrong_yes h2]; rfl)
end Go.Fs
