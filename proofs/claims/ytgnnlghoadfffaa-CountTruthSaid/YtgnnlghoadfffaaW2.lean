/- Walks: a row is checked, a truth is tried, the errors of counts. -/
import Derived.Test.YtgnnlghoadfffaaW1
namespace Go.Fs
open Go.Proofs
open C1
theorem fault_limit {r : RowD} (h : (decide ((9 : Int) < r.places.length) || decide ((6 : Int) < r.counts.length)) = true) : fault r = 3 := by
  simp only [Bool.or_eq_true, decide_eq_true_eq] at h
  unfold fault; rw [if_pos (by omega)]
theorem fault_mid {r : RowD} {b : Bool} (h : (decide ((9 : Int) < r.places.length) || decide ((6 : Int) < r.counts.length)) = false)
    (h2 : ((((decide ((r.places.length : Int) = 0) || !inB r.wrong 0 6) || !inB r.off 0 9) || !r.places.all placeOk) || !r.counts.all (cntOk r.places.length)) = b) : fault r = if b then 1 else 0 := by
  simp only [Bool.or_eq_false_iff, decide_eq_false_iff_not] at h
  unfold fault; rw [if_neg (by omega)]
  subst h2
  by_cases h1 : r.places.length = 0 <;> cases inB r.wrong 0 6 <;> cases inB r.off 0 9 <;> cases r.places.all placeOk <;> cases r.counts.all (cntOk r.places.length) <;> simp [h1]
theorem fault_arg {r : RowD} (h : (decide ((9 : Int) < r.places.length) || decide ((6 : Int) < r.counts.length)) = false)
    (h2 : ((((decide ((r.places.length : Int) = 0) || !inB r.wrong 0 6) || !inB r.off 0 9) || !r.places.all placeOk) || !r.counts.all (cntOk r.places.length)) = true) : fault r = 1 := fault_mid h h2
theorem fault_ok {r : RowD} (h : (decide ((9 : Int) < r.places.length) || decide ((6 : Int) < r.counts.length)) = false)
    (h2 : ((((decide ((r.places.length : Int) = 0) || !inB r.wrong 0 6) || !inB r.off 0 9) || !r.places.all placeOk) || !r.counts.all (cntOk r.places.length)) = false) : fault r = 0 := fault_mid h h2

theorem is_len {t p : List Int} (h : (decide ((t.length : Int) ≠ p.length) || !t.all fun x => inB x 0 1) = false) : t.length = p.length := by
  simp only [Bool.or_eq_false_iff, decide_eq_false_iff_not] at h; omega
theorem is_no1 {r : RowD} {t : List Int} (h : (decide ((t.length : Int) ≠ r.places.length) || !t.all fun x => inB x 0 1) = true) : isTruth r t = false := by
  rw [← isP_eq]; unfold isP
  simp only [Bool.or_eq_true, decide_eq_true_eq, Bool.not_eq_true'] at h
  rcases h with h | h
  · have : (t.length == r.places.length) = false := by simp; omega
    simp [this]
  · rw [h]; simp
theorem is_no2 {r : RowD} {t : List Int} {k : Nat} {x y : Int} (_hl : t.length = r.places.length) (hx : r.places[k]? = some x) (hy : t[k]? = some y) (h : (decide (x ≠ 2) && decide (y ≠ x)) = true) : isTruth r t = false := by
  rw [← isP_eq]; unfold isP
  simp only [Bool.and_eq_true, decide_eq_true_eq] at h
  have hm : (y, x) ∈ t.zip r.places := List.mem_of_getElem? (i := k) (by rw [List.getElem?_zip_eq_some]; exact ⟨hy, hx⟩)
  have : ((t.zip r.places).all fun x => x.2 == 2 || x.1 == x.2) = false := by
    rw [List.all_eq_false]
    exact ⟨_, hm, by simp [h.1, h.2]⟩
  rw [this]; simp
theorem is_step {r : RowD} {t : List Int} {k : Nat} {x y : Int} (hx : r.places[k]? = some x) (hy : t[k]? = some y) (h2 : ((t.zip r.places).take k).all (fun x => x.2 == 2 || x.1 == x.2) = true) (h : (decide (x ≠ 2) && decide (y ≠ x)) = false) :
    ((t.zip r.places).take (k + 1)).all (fun x => x.2 == 2 || x.1 == x.2) = true := by
  rw [List.take_add_one, show (t.zip r.places)[k]? = some (y, x) by rw [List.getElem?_zip_eq_some]; exact ⟨hy, hx⟩, List.all_append, h2]
  simp only [Bool.and_eq_false_iff, decide_eq_false_iff_not, ne_eq, Decidable.not_not] at h
  rcases h with h | h <;> simp [h]
theorem is_yes {r : RowD} {t : List Int} {k : Nat} (hl : t.length = r.places.length) (h : (decide ((t.length : Int) ≠ r.places.length) || !t.all fun x => inB x 0 1) = false) (hk : r.places.length ≤ k) (h2 : ((t.zip r.places).take k).all (fun x => x.2 == 2 || x.1 == x.2) = true) : isTruth r t = true := by
  rw [← isP_eq]; unfold isP
  simp only [Bool.or_eq_false_iff, Bool.not_eq_false'] at h
  rw [List.take_of_length_le (by simp; omega)] at h2
  rw [h.2, h2, hl]; simp

theorem wrong_step1 {r : RowD} {t : List Int} {k : Nat} {x : Cnt} (hx : r.counts[k]? = some x) (h2 : (r.counts.take k).all (fun c => decide (errOf t c ≤ r.off)) = true) (h : ¬ r.off < errOf t x) : (r.counts.take (k + 1)).all (fun c => decide (errOf t c ≤ r.off)) = true := by
  rw [List.take_add_one, hx, List.all_append, h2]; simp; omega
theorem wrong_step2 {r : RowD} {t : List Int} {k : Nat} {x : Cnt} (hx : r.counts[k]? = some x) (hb : 0 ≤ errOf t x ∧ errOf t x ≤ 9) :
    ((((r.counts.take (k + 1)).filter fun c => decide (0 < errOf t c)).length : Nat) : Int) = ((r.counts.take k).filter fun c => decide (0 < errOf t c)).length + [1].foldl min (errOf t x) := by
  rw [List.take_add_one, hx, List.filter_append, List.length_append]
  by_cases h : 0 < errOf t x
  · simp [h]; omega
  · simp [h]; omega
theorem wrong_no {r : RowD} {t : List Int} {x : Cnt} (hx : x ∈ r.counts) (h : r.off < errOf t x) : explains r t = false := by
  unfold explains; rw [List.all_eq_false]; exact ⟨x, hx, by simp; omega⟩
theorem wrong_yes {r : RowD} {t : List Int} (h : r.counts.all (fun c => decide (errOf t c ≤ r.off)) = true) : explains r t = true := h

theorem pl_no {f : Int} {b : Bool} (h : (decide (f ≠ 0) || !b) = false) : f = 0 ∧ b = true := by
  simp only [Bool.or_eq_false_iff, decide_eq_false_iff_not, Bool.not_eq_false'] at h; exact ⟨by omega, h.2⟩
theorem pl_yes {f : Int} {a b c : Bool} (h : (decide (f ≠ 0) || !a) = true) : (decide (f = 0) && a && b && c) = false := by
  by_cases hf : f = 0 <;> simp [hf] at h ⊢; simp [h]
theorem pl_end {r : RowD} {t : List Int} {many : Int} (hf : fault r = 0) (h : isTruth r t = true) :
    (explains r t && decide ((if explains r t = true then (wrongs r t : Int) else 0) ≤ many)) = (decide (fault r = 0) && isTruth r t && explains r t && decide ((wrongs r t : Int) ≤ many)) := by
  rw [hf, h]; cases explains r t <;> simp
open C1
theorem CheckRow_ok (rv : Value) (r : RowD) (D : Data) (hr : RowIs D rv r) : Fn Try.prog 55 #[rv] D (fun _ v => v = .int .i64 (fault r)) := by
  obtain ⟨pv, cv, rfl, hp, hc⟩ := hr
  refine enter 47 Try.func55 rfl rfl rfl rfl fun h0 => ?_
  refine C.seq ?_
  refine C.region [(false,0),(false,1)] rfl ?_
  refine L.boxD rfl rfl rfl rfl trivial (fun q1 E1 hE1 hB1 => ?_)
  refine L.assign rfl rfl rfl trivial ?_
  refine L.nil ?_
  refine C.next ?_
  refine C.seq ?_
  refine C.region [(false,0),(false,1),(false,2)] rfl ?_
  refine L.loadDW rfl Tf.a35 rfl hB1 (by first | simp | assumption) Tf.s35 List.not_mem_nil rfl trivial ?_
  refine L.makeFunc rfl rfl rfl rfl trivial ?_
  refine L.assign rfl rfl rfl trivial ?_
  refine L.nil ?_
  refine C.next ?_
  refine C.seq ?_
  refine C.block ?_
  refine C.seq ?_
  refine C.region [(false,0),(false,1),(false,2),(false,3),(false,4),(false,5),(false,6),(false,7),(false,8),(false,9),(false,10)] rfl ?_
  refine L.fieldAddr rfl Tf.f35_0 rfl rfl trivial ?_
  refine L.loadD1 rfl (k := 0) Tf.a22 rfl hB1 (by first | simp | assumption) rfl List.not_mem_nil rfl trivial ?_
  refine L.len rfl Try.underlying22 rfl (by assumption) rfl rfl trivial ?_
  refine L.gtr rfl rfl rfl rfl trivial ?_
  refine L.move rfl rfl rfl trivial ?_
  refine' L.or [(false,5),(false,6),(false,7),(false,8),(false,9)] [(false,10)] (s := 11) (p := 16) rfl rfl (fun hg1 => ?_) (fun hg1 => ?_) ?_
  rotate_left
  · refine L.fieldAddr rfl Tf.f35_1 rfl rfl ⟨_, rfl, rfl⟩ ?_
    refine L.loadD1 rfl (k := 1) Tf.a33 rfl hB1 (by first | simp | assumption) rfl List.not_mem_nil rfl ⟨_, rfl, rfl⟩ ?_
    refine L.len rfl Try.underlying33 rfl (by assumption) rfl rfl ⟨_, rfl, rfl⟩ ?_
    refine L.gtr rfl rfl rfl rfl ⟨_, rfl, rfl⟩ ?_
    refine L.pickF rfl rfl rfl rfl trivial ?_
    exact L.nil fun a w hh => hh.cutK 4 rfl
  · refine L.pass rfl rfl rfl ⟨_, _, rfl, rfl, rfl⟩ ?_
    refine L.pass rfl rfl rfl ⟨_, _, rfl, rfl, rfl⟩ ?_
    refine L.pass rfl rfl rfl ⟨_, _, rfl, rfl, rfl⟩ ?_
    refine L.pass rfl rfl rfl ⟨_, _, rfl, rfl, rfl⟩ ?_
    refine L.pickT rfl rfl rfl rfl trivial ?_
    exact L.nil fun a w hh => hh.cutK 4 rfl
  refine L.assign rfl rfl rfl trivial ?_
  refine L.nil ?_
  refine C.next ?_
  refine C.cond rfl (fun hc1 => ?_) (fun hc1 => ?_)
  · refine C.seq ?_
    refine C.region [(false,0)] rfl ?_
    refine L.assign rfl rfl rfl trivial ?_
    refine L.nil ?_
    refine C.next ?_
    refine C.ret ?_
    refine C.blockRet ?_
    refine C.thenRet ?_
    exact leave (vs := [_]) rfl rfl rfl ⟨rfl, trivial⟩ (fun D hD => by show Value.int _ _ = _; rw [fault_limit hc1])
  · refine C.seq ?_
    refine C.region [(false,0),(false,1),(false,2),(false,3),(false,4),(false,5),(false,6),(false,7),(false,8),(false,9),(false,10),(false,11),(false,12),(false,13),(false,14),(false,15),(false,16),(false,17),(false,18),(false,19),(false,20),(false,21),(false,22),(false,23),(false,24),(false,25),(false,26),(false,27),(false,28),(false,29)] rfl ?_
    refine L.fieldAddr rfl Tf.f35_0 rfl rfl trivial ?_
    refine L.loadD1 rfl (k := 0) Tf.a22 rfl hB1 (by first | simp | assumption) rfl List.not_mem_nil rfl trivial ?_
    refine L.len rfl Try.underlying22 rfl (by assumption) rfl rfl trivial ?_
    refine L.eql rfl rfl rfl rfl trivial ?_
    refine L.move rfl rfl rfl trivial ?_
    refine' L.or [(false,5),(false,6),(false,7),(false,8),(false,9)] [(false,10),(false,11),(false,12),(false,13),(false,14),(false,15),(false,16),(false,17),(false,18),(false,19),(false,20),(false,21),(false,22),(false,23),(false,24),(false,25),(false,26),(false,27),(false,28),(false,29)] (s := 22) (p := 27) rfl rfl (fun hg2 => ?_) (fun hg2 => ?_) ?_
    rotate_left
    · refine L.fieldAddr rfl Tf.f35_2 rfl rfl ⟨_, rfl, rfl⟩ ?_
      refine L.loadD1 rfl (k := 2) Tf.a3 rfl hB1 (by first | simp | assumption) rfl List.not_mem_nil rfl ⟨_, rfl, rfl⟩ ?_
      refine L.callV rfl rfl rfl (fun D1 hD1 => within_ok _ _ _ _) rfl ⟨_, rfl, rfl⟩ ?_
      refine L.not rfl rfl rfl ⟨_, rfl, rfl⟩ ?_
      refine L.pickF rfl rfl rfl rfl trivial ?_
      exact L.nil fun a w hh => hh.cutK 4 rfl
    · refine L.pass rfl rfl rfl ⟨_, _, rfl, rfl, rfl⟩ ?_
      refine L.pass rfl rfl rfl ⟨_, _, rfl, rfl, rfl⟩ ?_
      refine L.pass rfl rfl rfl ⟨_, _, rfl, rfl, rfl⟩ ?_
      refine L.pass rfl rfl rfl ⟨_, _, rfl, rfl, rfl⟩ ?_
      refine L.pickT rfl rfl rfl rfl trivial ?_
      exact L.nil fun a w hh => hh.cutK 4 rfl
    refine L.move rfl rfl rfl trivial ?_
    refine' L.or [(false,11),(false,12),(false,13),(false,14),(false,15)] [(false,16),(false,17),(false,18),(false,19),(false,20),(false,21),(false,22),(false,23),(false,24),(false,25),(false,26),(false,27),(false,28),(false,29)] (s := 28) (p := 33) rfl rfl (fun hg3 => ?_) (fun hg3 => ?_) ?_
    rotate_left
    · refine L.fieldAddr rfl Tf.f35_3 rfl rfl ⟨_, rfl, rfl⟩ ?_
      refine L.loadD1 rfl (k := 3) Tf.a3 rfl hB1 (by first | simp | assumption) rfl List.not_mem_nil rfl ⟨_, rfl, rfl⟩ ?_
      refine L.callV rfl rfl rfl (fun D2 hD2 => within_ok _ _ _ _) rfl ⟨_, rfl, rfl⟩ ?_
      refine L.not rfl rfl rfl ⟨_, rfl, rfl⟩ ?_
      refine L.pickF rfl rfl rfl rfl trivial ?_
      exact L.nil fun a w hh => hh.cutK 4 rfl
    · refine L.pass rfl rfl rfl ⟨_, _, rfl, rfl, rfl⟩ ?_
      refine L.pass rfl rfl rfl ⟨_, _, rfl, rfl, rfl⟩ ?_
      refine L.pass rfl rfl rfl ⟨_, _, rfl, rfl, rfl⟩ ?_
      refine L.pass rfl rfl rfl ⟨_, _, rfl, rfl, rfl⟩ ?_
      refine L.pickT rfl rfl rfl rfl trivial ?_
      exact L.nil fun a w hh => hh.cutK 4 rfl
    refine L.move rfl rfl rfl trivial ?_
    refine' L.or [(false,17),(false,18),(false,19),(false,20),(false,21)] [(false,22),(false,23),(false,24),(false,25),(false,26),(false,27),(false,28),(false,29)] (s := 34) (p := 39) rfl rfl (fun hg4 => ?_) (fun hg4 => ?_) ?_
    rotate_left
    · refine L.fieldAddr rfl Tf.f35_0 rfl rfl ⟨_, rfl, rfl⟩ ?_
      refine L.loadD1 rfl (k := 0) Tf.a22 rfl hB1 (by first | simp | assumption) rfl List.not_mem_nil rfl ⟨_, rfl, rfl⟩ ?_
      refine L.callV rfl rfl rfl (fun D3 hD3 => allI_ok _ _ _ placeOk _ (Sl.at RI.up hD3 (by assumption) (by simp)) (.of fun x D2 => place_ok x D2) rfl) rfl ⟨_, rfl, rfl⟩ ?_
      refine L.not rfl rfl rfl ⟨_, rfl, rfl⟩ ?_
      refine L.pickF rfl rfl rfl rfl trivial ?_
      exact L.nil fun a w hh => hh.cutK 4 rfl
    · refine L.pass rfl rfl rfl ⟨_, _, rfl, rfl, rfl⟩ ?_
      refine L.pass rfl rfl rfl ⟨_, _, rfl, rfl, rfl⟩ ?_
      refine L.pass rfl rfl rfl ⟨_, _, rfl, rfl, rfl⟩ ?_
      refine L.pass rfl rfl rfl ⟨_, _, rfl, rfl, rfl⟩ ?_
      refine L.pickT rfl rfl rfl rfl trivial ?_
      exact L.nil fun a w hh => hh.cutK 4 rfl
    refine L.move rfl rfl rfl trivial ?_
    refine' L.or [(false,23),(false,24),(false,25),(false,26),(false,27),(false,28)] [(false,29)] (s := 40) (p := 46) rfl rfl (fun hg5 => ?_) (fun hg5 => ?_) ?_
    rotate_left
    · refine L.fieldAddr rfl Tf.f35_1 rfl rfl ⟨_, rfl, rfl⟩ ?_
      refine L.loadD1 rfl (k := 1) Tf.a33 rfl hB1 (by first | simp | assumption) rfl List.not_mem_nil rfl ⟨_, rfl, rfl⟩ ?_
      refine L.move rfl rfl rfl ⟨_, rfl, rfl⟩ ?_
      refine L.callV rfl rfl rfl (fun D4 hD4 => allC_ok _ _ _ (cntOk r.places.length) _ (Sl.at RC.up hD4 (by assumption) (by simp)) ⟨_, [_], [], rfl, fun c D2 hl => count_ok _ r c D2 ⟨_, _, rfl, hp.up RI.up ((hD4 _ (by simp)).trans hl), hc.up RC.up ((hD4 _ (by simp)).trans hl)⟩⟩ rfl) rfl ⟨_, rfl, rfl⟩ ?_
      refine L.not rfl rfl rfl ⟨_, rfl, rfl⟩ ?_
      refine L.pickF rfl rfl rfl rfl trivial ?_
      exact L.nil fun a w hh => hh.cutK 5 rfl
    · refine L.pass rfl rfl rfl ⟨_, _, rfl, rfl, rfl⟩ ?_
      refine L.pass rfl rfl rfl ⟨_, _, rfl, rfl, rfl⟩ ?_
      refine L.pass rfl rfl rfl ⟨_, _, rfl, rfl, rfl⟩ ?_
      refine L.pass rfl rfl rfl ⟨_, _, rfl, rfl, rfl⟩ ?_
      refine L.pass rfl rfl rfl ⟨_, _, rfl, rfl, rfl⟩ ?_
      refine L.pickT rfl rfl rfl rfl trivial ?_
      exact L.nil fun a w hh => hh.cutK 5 rfl
    refine L.assign rfl rfl rfl trivial ?_
    refine L.nil ?_
    refine C.next ?_
    refine C.cond rfl (fun hc2 => ?_) (fun hc2 => ?_)
    · refine C.seq ?_
      refine C.region [(false,0)] rfl ?_
      refine L.assign rfl rfl rfl trivial ?_
      refine L.nil ?_
      refine C.next ?_
      refine C.ret ?_
      refine C.blockRet ?_
      refine C.thenRet ?_
      exact leave (vs := [_]) rfl rfl rfl ⟨rfl, trivial⟩ (fun D hD => by show Value.int _ _ = _; rw [fault_arg hc1 hc2])
    · refine C.skip ?_
      refine C.blockEnd ?_
      refine C.next ?_
      refine C.seq ?_
      refine C.region [(false,0)] rfl ?_
      refine L.assign rfl rfl rfl trivial ?_
      refine L.nil ?_
      refine C.next ?_
      refine C.ret ?_
      exact leave (vs := [_]) rfl rfl rfl ⟨rfl, trivial⟩ (fun D hD => by show Value.int _ _ = _; rw [fault_ok hc1 hc2])
theorem sums_ok (c : List Int) (h9 : c.length = 9) (hb : ∀ x ∈ c, 0 ≤ x ∧ x ≤ 1) (D : Data) : Fn Try.prog 78 #[.agg (ints c).toArray] D (fun _ v => v = .agg (ints (sumsOf c)).toArray) := by
  refine enter 20 Try.func78 rfl rfl rfl rfl fun h0 => ?_
  refine C.seq ?_
  refine C.region [(false,0),(false,1)] rfl ?_
  refine L.boxD rfl rfl rfl rfl trivial (fun q1 E1 hE1 hB1 => ?_)
  refine L.alloc rfl Tf.z128 rfl rfl trivial (fun q2 => ?_)
  refine L.nil ?_
  refine C.next ?_
  refine C.seq ?_
  refine C.seq ?_
  refine C.region [(false,0),(false,1)] rfl ?_
  refine L.loadDW rfl Tf.a121 rfl hB1 (by first | simp | assumption) (by first | exact Tf.s121 | (simp only [ints_length, *]; exact Tf.s121)) List.not_mem_nil rfl trivial ?_
  refine L.move rfl rfl rfl trivial ?_
  refine L.nil ?_
  refine C.next ?_
  refine C.block ?_
  refine C.loopR (γ := Nat) (fun k => 9 - k) (fun k => k ≤ 9) (fun k => [(6, .int .i64 (k : Int))]) [(5, _), (2, _)] (fun k => [(q2, .cells (ints (preSums c k)).toArray 128 (0, 0))]) (fun k => [E1, D]) 0 (by omega) ⟨(by first | rfl | (show some (Value.int _ _) = some (Value.int _ _); congr 2; omega)), trivial⟩ ⟨rfl, rfl, trivial⟩ (List.Sublist.refl _) (ds_same) ?_
  rintro k h1
  refine C.seq ?_
  refine C.region [(false,0)] rfl ?_
  refine L.lss rfl rfl rfl rfl trivial ?_
  refine L.nil ?_
  refine C.next ?_
  refine C.seq ?_
  refine C.condD rfl (fun hc1 => ?_) (fun hc1 => ?_)
  · have hk : k < 9 := by omega
    obtain ⟨x, hx⟩ : ∃ x, c[k]? = some x := ⟨_, List.getElem?_eq_getElem (by omega)⟩
    have hx1 := hb x (List.mem_of_getElem? hx)
    have hx2 := sumFrom_bound hb 0 k
    have hg1 := preSums_get c k (by omega)
    have hlen := preSums_length c k
    refine C.skip ?_
    refine C.next ?_
    refine C.seq ?_
    refine C.block ?_
    refine C.seq ?_
    refine C.region [(false,0),(false,1),(false,2),(false,3)] rfl ?_
    refine L.move rfl rfl rfl trivial ?_
    refine L.indexV rfl Try.underlying121 Tf.a3 Tf.s3 rfl rfl (by omega) (by omega) (by assumption) rfl trivial ?_
    refine L.assign rfl rfl rfl trivial ?_
    refine L.assign rfl rfl rfl trivial ?_
    refine L.nil ?_
    refine C.next ?_
    refine C.region [(false,0),(false,1),(false,2),(false,3),(false,4),(false,5),(false,6),(false,7),(false,8)] rfl ?_
    refine L.move rfl rfl rfl trivial ?_
    refine L.add rfl rfl rfl (by simp only [inK]; omega) rfl trivial ?_
    refine L.move rfl rfl rfl trivial ?_
    refine L.indexB rfl Try.underlying128 Tf.s3 rfl rfl (by omega) (by omega) rfl trivial ?_
    refine L.loadB1 rfl Tf.a3 rfl (List.Mem.head _) (ints_get (by assumption)) List.not_mem_nil rfl trivial ?_
    refine L.move rfl rfl rfl trivial ?_
    refine L.add rfl rfl rfl (by simp only [inK]; omega) rfl trivial ?_
    refine L.indexB rfl Try.underlying128 Tf.s3 rfl rfl (by omega) (by omega) rfl trivial ?_
    refine L.storeI rfl Tf.s3 rfl rfl (Has.head) (by simp only [*]; omega) trivial ?_
    refine L.nil ?_
    refine C.blockEnd ?_
    refine C.next ?_
    refine C.region [(false,0),(false,1)] rfl ?_
    refine L.add rfl rfl rfl (by simp only [inK]; omega) rfl trivial ?_
    refine L.move rfl rfl rfl trivial ?_
    refine L.nil ?_
    rw [← sumFrom_succ (by simpa using hx), show ((k : Int) + 1).toNat = k + 1 by omega, preSums_set]
    exact C.againR 16 (k + 1) (by omega) (by omega) ⟨(by first | rfl | (show some (Value.int _ _) = some (Value.int _ _); congr 2; omega)), trivial⟩ rfl rfl (List.Sublist.refl _) (ds_same)
  · obtain rfl : k = 9 := by omega
    rw [preSums_nine]
    have hlen := sumsOf_length c
    refine C.exit ?_
    refine C.thenExit ?_
    refine C.thenExit ?_
    refine C.blockExit ?_
    refine C.next ?_
    refine C.seq ?_
    refine C.region [(false,0),(false,1)] rfl ?_
    refine L.loadBW rfl Tf.a128 rfl (List.Mem.head _) (by first | exact Tf.s128 | (simp only [ints_length, *]; exact Tf.s128)) List.not_mem_nil rfl trivial ?_
    refine L.storeW rfl rfl rfl rfl Tf.s128 (by first | rfl | (simp only [ints_length, *]; done) | (simp only [ints_length, *]; rfl) | (simp only [ints_length, *]; omega)) (by first | rfl | (simp only [ints_length, *]; done) | (simp only [ints_length, *]; rfl) | (simp only [ints_length, *]; omega)) (Has.head) (ints_cell1 _) trivial ?_
    refine L.nil ?_
    refine C.next ?_
    refine C.ret ?_
    exact leave (vs := [_]) rfl rfl rfl ⟨⟨_, _, _, rfl, (List.Mem.head _), Or.inr ⟨Tf.a128, (by first | exact Tf.s128 | (simp only [List.size_toArray, ints_length, *]; exact Tf.s128)), rfl⟩⟩, trivial⟩ (fun D hD => rfl)
theorem is_ok (rv tv : Value) (r : RowD) (t : List Int) (D : Data) (hr : RowIs D rv r) (ht : Sl D RI 1 tv t) : Fn Try.prog 79 #[rv, tv] D (fun _ v => v = .bool (isTruth r t)) := by
  obtain ⟨pv, cv, rfl, hp, hc⟩ := hr
  have hl := hp.len
  refine enter 37 Try.func79 rfl rfl rfl rfl fun h0 => ?_
  refine C.seq ?_
  refine C.region [(false,0),(false,1)] rfl ?_
  refine L.boxD rfl rfl rfl rfl trivial (fun q1 E1 hE1 hB1 => ?_)
  refine L.assign rfl rfl rfl trivial ?_
  refine L.nil ?_
  refine C.next ?_
  refine C.seq ?_
  refine C.seq ?_
  refine C.region [(false,0),(false,1),(false,2),(false,3),(false,4),(false,5),(false,6),(false,7),(false,8),(false,9),(false,10)] rfl ?_
  refine L.move rfl rfl rfl trivial ?_
  refine L.len rfl Try.underlying22 rfl ht rfl rfl trivial ?_
  refine L.fieldAddr rfl Tf.f35_0 rfl rfl trivial ?_
  refine L.loadD1 rfl (k := 0) Tf.a22 rfl hB1 (by first | simp | assumption) rfl List.not_mem_nil rfl trivial ?_
  refine L.len rfl Try.underlying22 rfl hp rfl rfl trivial ?_
  refine L.neq rfl rfl rfl rfl trivial ?_
  refine L.move rfl rfl rfl trivial ?_
  refine' L.or [(false,7),(false,8),(false,9),(false,10)] [] (s := 13) (p := 17) rfl rfl (fun hg1 => ?_) (fun hg1 => ?_) ?_
  rotate_left
  · refine L.move rfl rfl rfl ⟨_, rfl, rfl⟩ ?_
    refine L.callV rfl rfl rfl (fun D1 hD1 => allI_ok _ _ _ (fun x => inB x 0 1) _ (Sl.at RI.up hD1 ht (by simp)) (.of fun x D2 => chair_ok x D2) rfl) rfl ⟨_, rfl, rfl⟩ ?_
    refine L.not rfl rfl rfl ⟨_, rfl, rfl⟩ ?_
    refine L.pickF rfl rfl rfl rfl trivial ?_
    exact L.nil fun a w hh => hh.cutK 3 rfl
  · refine L.pass rfl rfl rfl ⟨_, _, rfl, rfl, rfl⟩ ?_
    refine L.pass rfl rfl rfl ⟨_, _, rfl, rfl, rfl⟩ ?_
    refine L.pass rfl rfl rfl ⟨_, _, rfl, rfl, rfl⟩ ?_
    refine L.pickT rfl rfl rfl rfl trivial ?_
    exact L.nil fun a w hh => hh.cutK 3 rfl
  refine L.nil ?_
  refine C.next ?_
  refine C.cond rfl (fun hc1 => ?_) (fun hc1 => ?_)
  · refine C.seq ?_
    refine C.region [(false,0)] rfl ?_
    refine L.assign rfl rfl rfl trivial ?_
    refine L.nil ?_
    refine C.next ?_
    refine C.ret ?_
    refine C.thenRet ?_
    exact leave (vs := [_]) rfl rfl rfl ⟨rfl, trivial⟩ (fun D hD => by show Value.bool _ = _; rw [is_no1 hc1])
  · have hlen : t.length = r.places.length := is_len hc1
    refine C.skip ?_
    refine C.next ?_
    refine C.seq ?_
    refine C.seq ?_
    refine C.region [(false,0),(false,1),(false,2),(false,3)] rfl ?_
    refine L.fieldAddr rfl Tf.f35_0 rfl rfl trivial ?_
    refine L.loadD1 rfl (k := 0) Tf.a22 rfl hB1 (by first | simp | assumption) rfl List.not_mem_nil rfl trivial ?_
    refine L.len rfl Try.underlying22 rfl hp rfl rfl trivial ?_
    refine L.move rfl rfl rfl trivial ?_
    refine L.nil ?_
    refine C.next ?_
    refine C.block ?_
    refine C.loopC (γ := Nat) (fun k => r.places.length - k) (fun k => k ≤ r.places.length ∧ ((t.zip r.places).take k).all (fun x => x.2 == 2 || x.1 == x.2) = true) (fun k => [(21, .int .i64 (k : Int))]) [(20, _), (19, _), (4, _), (1, _)] (fun k => [E1, D]) 0 (by simp) ⟨(by first | rfl | (show some (Value.int _ _) = some (Value.int _ _); congr 2; omega)), trivial⟩ ⟨rfl, rfl, rfl, rfl, trivial⟩ (ds_same) ?_
    rintro k ⟨h1, h2⟩
    refine C.seq ?_
    refine C.region [(false,0)] rfl ?_
    refine L.lss rfl rfl rfl rfl trivial ?_
    refine L.nil ?_
    refine C.next ?_
    refine C.seq ?_
    refine C.condD rfl (fun hc2 => ?_) (fun hc2 => ?_)
    · have hk : k < r.places.length := by omega
      obtain ⟨x, hx⟩ : ∃ x, r.places[k]? = some x := ⟨_, List.getElem?_eq_getElem hk⟩
      obtain ⟨y, hy⟩ : ∃ y, t[k]? = some y := ⟨_, List.getElem?_eq_getElem (by omega)⟩
      refine C.skip ?_
      refine C.next ?_
      refine C.seq ?_
      refine C.block ?_
      refine C.seq ?_
      refine C.region [(false,0),(false,1),(false,2),(false,3),(false,4)] rfl ?_
      refine L.move rfl rfl rfl trivial ?_
      refine L.indexS rfl Try.underlying22 Tf.s3 rfl hp rfl (by omega) hx rfl trivial (fun b1 o1 cs1 hr1 hcl1 hA1 => ?_)
      obtain rfl : cs1 = [.int .i64 _] := hr1
      refine L.loadD1 rfl (k := 0) Tf.a3 rfl hA1 (by first | simp | assumption) rfl List.not_mem_nil rfl trivial ?_
      refine L.assign rfl rfl rfl trivial ?_
      refine L.assign rfl rfl rfl trivial ?_
      refine L.nil ?_
      refine C.next ?_
      refine C.seq ?_
      refine C.region [(false,0),(false,1),(false,2),(false,3),(false,4),(false,5),(false,6),(false,7),(false,8),(false,9)] rfl ?_
      refine L.move rfl rfl rfl trivial ?_
      refine L.neq rfl rfl rfl rfl trivial ?_
      refine L.move rfl rfl rfl trivial ?_
      refine' L.and [(false,3),(false,4),(false,5),(false,6),(false,7),(false,8),(false,9)] [] (s := 28) (p := 35) rfl rfl (fun hg2 => ?_) (fun hg2 => ?_) ?_
      rotate_left
      · refine L.move rfl rfl rfl ⟨_, rfl, rfl⟩ ?_
        refine L.move rfl rfl rfl ⟨_, rfl, rfl⟩ ?_
        refine L.indexS rfl Try.underlying22 Tf.s3 rfl ht rfl (by omega) hy rfl ⟨_, rfl, rfl⟩ (fun b2 o2 cs2 hr2 hcl2 hA2 => ?_)
        obtain rfl : cs2 = [.int .i64 _] := hr2
        refine L.loadD1 rfl (k := 0) Tf.a3 rfl hA2 (by first | simp | assumption) rfl List.not_mem_nil rfl ⟨_, rfl, rfl⟩ ?_
        refine L.move rfl rfl rfl ⟨_, rfl, rfl⟩ ?_
        refine L.neq rfl rfl rfl rfl ⟨_, rfl, rfl⟩ ?_
        refine L.pickT rfl rfl rfl rfl trivial ?_
        exact L.nil fun a w hh => hh.cutK 6 rfl
      · refine L.pass rfl rfl rfl ⟨_, _, rfl, rfl, rfl⟩ ?_
        refine L.pass rfl rfl rfl ⟨_, _, rfl, rfl, rfl⟩ ?_
        refine L.pass rfl rfl rfl ⟨_, _, rfl, rfl, rfl⟩ ?_
        refine L.pass rfl rfl rfl ⟨_, _, rfl, rfl, rfl⟩ ?_
        refine L.pass rfl rfl rfl ⟨_, _, rfl, rfl, rfl⟩ ?_
        refine L.pass rfl rfl rfl ⟨_, _, rfl, rfl, rfl⟩ ?_
        refine L.pickF rfl rfl rfl rfl trivial ?_
        exact L.nil fun a w hh => hh.cutK 6 rfl
      refine L.nil ?_
      refine C.next ?_
      refine C.cond rfl (fun hc3 => ?_) (fun hc3 => ?_)
      · refine C.seq ?_
        refine C.region [(false,0)] rfl ?_
        refine L.assign rfl rfl rfl trivial ?_
        refine L.nil ?_
        refine C.next ?_
        refine C.ret ?_
        refine C.blockRet ?_
        refine C.thenRet ?_
        refine C.thenRet ?_
        refine C.blockRet ?_
        refine C.thenRet ?_
        exact leave (vs := [_]) rfl rfl rfl ⟨rfl, trivial⟩ (fun D hD => by show Value.bool _ = _; rw [is_no2 hlen hx hy hc3])
      · refine C.skip ?_
        refine C.blockEnd ?_
        refine C.next ?_
        refine C.region [(false,0),(false,1)] rfl ?_
        refine L.add rfl rfl rfl (by simp only [inK]; omega) rfl trivial ?_
        refine L.move rfl rfl rfl trivial ?_
        refine L.nil ?_
        exact C.againR 13 (k + 1) ⟨by omega, is_step hx hy h2 hc3⟩ (by omega) ⟨(by first | rfl | (show some (Value.int _ _) = some (Value.int _ _); congr 2; omega)), trivial⟩ rfl rfl (List.Sublist.refl _) (ds_same)
    · refine C.exit ?_
      refine C.thenExit ?_
      refine C.thenExit ?_
      refine C.blockExit ?_
      refine C.next ?_
      refine C.seq ?_
      refine C.region [(false,0)] rfl ?_
      refine L.assign rfl rfl rfl trivial ?_
      refine L.nil ?_
      refine C.next ?_
      refine C.ret ?_
      exact leave (vs := [_]) rfl rfl rfl ⟨rfl, trivial⟩ (fun D hD => by show Value.bool _ = _; rw [is_yes hlen hc1 (by omega) h2])
theorem off_ok (rv : Value) (r : RowD) (c : Cnt) (t : List Int) (D : Data) (hr : RowIs D rv r) (hok : RowOk r) (ht : TruthOk r t) (hcm : c ∈ r.counts) :
    Fn Try.prog 90 #[rv, cV c, .agg (ints (sumsOf t)).toArray] D (fun _ v => v = .int .i64 (errOf t c)) := by
  obtain ⟨pv, cv, rfl, hp, hc⟩ := hr
  obtain ⟨h1, h2, h3, h4⟩ := hok.cnt c hcm
  have h9 := hok.len9
  have hab := about_bound ht h1 h2 h9
  have hs1 := about_sums ht h1 h2
  have hg1 := sumsOf_get t c.many.toNat (by omega)
  have hg2 := sumsOf_get t r.places.length (by omega)
  have hg3 := sumsOf_get t (r.places.length - c.many.toNat) (by omega)
  have hg4 : (sumsOf t)[(↑r.places.length - c.many).toNat]? = some (sumFrom t 0 (r.places.length - c.many.toNat)) := by rw [show (↑r.places.length - c.many).toNat = r.places.length - c.many.toNat by omega]; exact hg3
  rw [ht.1] at hs1
  have hb1 := sumFrom_bound ht.2 0 r.places.length
  have hb2 := sumFrom_bound ht.2 0 (r.places.length - c.many.toNat)
  have hb3 := sumFrom_bound ht.2 0 c.many.toNat
  refine enter 37 Try.func90 rfl rfl rfl rfl fun h0 => ?_
  refine C.seq ?_
  refine C.region [(false,0),(false,1),(false,2),(false,3)] rfl ?_
  refine L.boxD rfl rfl rfl rfl trivial (fun q1 E1 hE1 hB1 => ?_)
  refine L.boxD rfl rfl rfl rfl trivial (fun q2 E2 hE2 hB2 => ?_)
  refine L.boxD rfl rfl rfl rfl trivial (fun q3 E3 hE3 hB3 => ?_)
  refine L.assign rfl rfl rfl trivial ?_
  refine L.nil ?_
  refine C.next ?_
  refine C.seq ?_
  refine C.region [(false,0),(false,1),(false,2),(false,3),(false,4)] rfl ?_
  refine L.fieldAddr rfl Tf.f87_1 rfl rfl trivial ?_
  refine L.loadD1 rfl (k := 1) Tf.a3 rfl hB2 (by first | simp | assumption) rfl List.not_mem_nil rfl trivial ?_
  refine L.indexB rfl Try.underlying128 Tf.s3 rfl rfl (by omega) (by omega) rfl trivial ?_
  refine L.loadDI rfl Tf.a3 rfl hB3 (by simp) (ints_get hg1) List.not_mem_nil rfl trivial ?_
  refine L.assign rfl rfl rfl trivial ?_
  refine L.nil ?_
  refine C.next ?_
  refine C.seq ?_
  refine C.seq ?_
  refine C.region [(false,0),(false,1),(false,2),(false,3)] rfl ?_
  refine L.fieldAddr rfl Tf.f35_0 rfl rfl trivial ?_
  refine L.loadD1 rfl (k := 0) Tf.a22 rfl hB1 (by first | simp | assumption) rfl List.not_mem_nil rfl trivial ?_
  refine L.len rfl Try.underlying22 rfl (by assumption) rfl rfl trivial ?_
  refine L.assign rfl rfl rfl trivial ?_
  refine L.nil ?_
  refine C.next ?_
  refine C.seq ?_
  refine C.region [(false,0),(false,1)] rfl ?_
  refine L.fieldAddr rfl Tf.f87_0 rfl rfl trivial ?_
  refine L.loadD1 rfl (k := 0) Tf.a4 rfl hB2 (by first | simp | assumption) rfl List.not_mem_nil rfl trivial ?_
  refine L.nil ?_
  refine C.next ?_
  refine C.cond rfl (fun hc1 => ?_) (fun hc1 => ?_)
  · rw [if_pos hc1] at hs1
    refine C.draw [] 5 [0,1,2,3,4,5,6,7,8,9,10] [false,false,false,true,true,true,true,true,true,false,false] [(false,0),(false,1),(false,2),(true,3),(true,4),(true,5),(true,6),(true,7),(true,8),(false,9),(false,10)] Tf.follows (fun _ _ _ h => np_body (P := Try.prog) (fn := Try.f90) _ _ _ h) (by kernel_rfl) rfl ?_
    refine L.move rfl rfl rfl trivial ?_
    refine L.indexB rfl Try.underlying128 Tf.s3 rfl rfl (by omega) (by omega) rfl trivial ?_
    refine L.loadDI rfl Tf.a3 rfl hB3 (by simp) (ints_get hg2) List.not_mem_nil rfl trivial ?_
    refine L.move rfl rfl rfl trivial ?_
    refine L.fieldAddr rfl Tf.f87_1 rfl rfl trivial ?_
    refine L.loadD1 rfl (k := 1) Tf.a3 rfl hB2 (by first | simp | assumption) rfl List.not_mem_nil rfl trivial ?_
    refine L.sub rfl rfl rfl (by simp only [inK]; omega) rfl trivial ?_
    refine L.indexB rfl Try.underlying128 Tf.s3 rfl rfl (by omega) (by omega) rfl trivial ?_
    refine L.loadDI rfl Tf.a3 rfl hB3 (by simp) (ints_get hg4) List.not_mem_nil rfl trivial ?_
    refine L.sub rfl rfl rfl (by simp only [inK]; omega) rfl trivial ?_
    refine L.assign rfl rfl rfl trivial ?_
    refine L.nil ?_
    refine C.next ?_
    refine C.seq ?_
    refine C.region [(false,0),(false,1),(false,2),(false,3),(false,4),(false,5),(false,6),(false,7),(false,8),(false,9)] rfl ?_
    refine L.move rfl rfl rfl trivial ?_
    refine L.fieldAddr rfl Tf.f87_2 rfl rfl trivial ?_
    refine L.loadD1 rfl (k := 2) Tf.a3 rfl hB2 (by first | simp | assumption) rfl List.not_mem_nil rfl trivial ?_
    refine L.sub rfl rfl rfl (by simp only [inK]; omega) rfl trivial ?_
    refine L.fieldAddr rfl Tf.f87_2 rfl rfl trivial ?_
    refine L.loadD1 rfl (k := 2) Tf.a3 rfl hB2 (by first | simp | assumption) rfl List.not_mem_nil rfl trivial ?_
    refine L.move rfl rfl rfl trivial ?_
    refine L.sub rfl rfl rfl (by simp only [inK]; omega) rfl trivial ?_
    refine L.max2 rfl rfl rfl rfl trivial ?_
    refine L.assign rfl rfl rfl trivial ?_
    refine L.nil ?_
    refine C.next ?_
    refine C.ret ?_
    exact leave (vs := [_]) rfl rfl rfl ⟨rfl, trivial⟩ (fun D hD => by show Value.int _ _ = _; rw [← hs1]; rfl)
  · rw [if_neg (by simp [hc1])] at hs1
    refine C.skip ?_
    refine C.next ?_
    refine C.seq ?_
    refine C.region [(false,0),(false,1),(false,2),(false,3),(false,4),(false,5),(false,6),(false,7),(false,8),(false,9)] rfl ?_
    refine L.move rfl rfl rfl trivial ?_
    refine L.fieldAddr rfl Tf.f87_2 rfl rfl trivial ?_
    refine L.loadD1 rfl (k := 2) Tf.a3 rfl hB2 (by first | simp | assumption) rfl List.not_mem_nil rfl trivial ?_
    refine L.sub rfl rfl rfl (by simp only [inK]; omega) rfl trivial ?_
    refine L.fieldAddr rfl Tf.f87_2 rfl rfl trivial ?_
    refine L.loadD1 rfl (k := 2) Tf.a3 rfl hB2 (by first | simp | assumption) rfl List.not_mem_nil rfl trivial ?_
    refine L.move rfl rfl rfl trivial ?_
    refine L.sub rfl rfl rfl (by simp only [inK]; omega) rfl trivial ?_
    refine L.max2 rfl rfl rfl rfl trivial ?_
    refine L.assign rfl rfl rfl trivial ?_
    refine L.nil ?_
    refine C.next ?_
    refine C.ret ?_
    exact leave (vs := [_]) rfl rfl rfl ⟨rfl, trivial⟩ (fun D hD => by show Value.int _ _ = _; rw [← hs1]; rfl)
theorem errors_ok (rv : Value) (r : RowD) (t : List Int) (D : Data) (hr : RowIs D rv r) (hok : RowOk r) (ht : TruthOk r t) :
    Fn Try.prog 81 #[rv, .agg (ints (sumsOf t)).toArray] D (fun D' v => Sl D' RI 1 v (r.counts.map (errOf t))) := by
  obtain ⟨pv, cv, rfl, hp, hc⟩ := hr
  have h6 := hok.cnt6
  have hsl := sumsOf_length t
  refine enter 23 Try.func81 rfl rfl rfl rfl fun h0 => ?_
  refine C.seq ?_
  refine C.region [(false,0),(false,1),(false,2)] rfl ?_
  refine L.boxD rfl rfl rfl rfl trivial (fun q1 E1 hE1 hB1 => ?_)
  refine L.boxD rfl rfl rfl rfl trivial (fun q2 E2 hE2 hB2 => ?_)
  refine L.assign rfl rfl rfl trivial ?_
  refine L.nil ?_
  refine C.next ?_
  refine C.seq ?_
  refine C.seq ?_
  refine C.region [(false,0),(false,1),(false,2),(false,3)] rfl ?_
  refine L.fieldAddr rfl Tf.f35_1 rfl rfl trivial ?_
  refine L.loadD1 rfl (k := 1) Tf.a33 rfl hB1 (by first | simp | assumption) rfl List.not_mem_nil rfl trivial ?_
  refine L.len rfl Try.underlying33 rfl (by assumption) rfl rfl trivial ?_
  refine L.move rfl rfl rfl trivial ?_
  refine L.nil ?_
  refine C.next ?_
  refine C.block ?_
  refine C.loopR (γ := Nat × Value × Boxes) (fun g => r.counts.length - g.1) (fun g => g.1 ≤ r.counts.length ∧ Acc 3 1 g.2.1 g.1 (ints ((r.counts.take g.1).map (errOf t))) g.2.2) (fun g => [(10, .int .i64 (g.1 : Int)), (4, g.2.1)]) [(9, _), (8, _), (3, _), (2, _)] (fun g => g.2.2 ++ []) (fun g => [E2, E1, D]) (0, .slice none 0 0, []) ⟨by simp, by simpa [ints] using Acc.nil⟩ ⟨(by first | rfl | (show some (Value.int _ _) = some (Value.int _ _); congr 2; omega)), (by first | rfl | (show some (Value.int _ _) = some (Value.int _ _); congr 2; omega)), trivial⟩ ⟨rfl, rfl, rfl, rfl, trivial⟩ (List.Sublist.refl _) (ds_same) ?_
  rintro ⟨k, v, ν⟩ ⟨h1, ha⟩
  refine C.seq ?_
  refine C.region [(false,0)] rfl ?_
  refine L.lss rfl rfl rfl rfl trivial ?_
  refine L.nil ?_
  refine C.next ?_
  refine C.seq ?_
  refine C.condD rfl (fun hc1 => ?_) (fun hc1 => ?_)
  · have hk : k < r.counts.length := by omega
    obtain ⟨x, hx⟩ : ∃ x, r.counts[k]? = some x := ⟨_, List.getElem?_eq_getElem hk⟩
    have hxm := List.mem_of_getElem? hx
    refine C.skip ?_
    refine C.next ?_
    refine C.seq ?_
    refine C.block ?_
    refine C.seq ?_
    refine C.region [(false,0),(false,1),(false,2),(false,3)] rfl ?_
    refine L.indexS rfl Try.underlying33 Tf.s87 rfl (by assumption) rfl (by omega) (by assumption) rfl trivial (fun b1 o1 cs1 hr1 hcl1 hA1 => ?_)
    obtain rfl : cs1 = [.bool _, .int .i64 _, .int .i64 _] := hr1
    refine L.loadDW rfl Tf.a87 rfl hA1 (by first | simp | assumption) Tf.s87 List.not_mem_nil rfl trivial ?_
    refine L.alloc rfl Tf.z87 rfl rfl trivial (fun q3 => ?_)
    refine L.storeW rfl rfl rfl rfl Tf.s87 (by first | rfl | (simp only [ints_length, *]; done) | (simp only [ints_length, *]; rfl) | (simp only [ints_length, *]; omega)) (by first | rfl | (simp only [ints_length, *]; done) | (simp only [ints_length, *]; rfl) | (simp only [ints_length, *]; omega)) (Has.head) (by first | exact ints_cell1 _ | simp [cell1]) trivial ?_
    refine L.nil ?_
    refine C.next ?_
    refine C.region [(false,0),(false,1),(false,2),(false,3),(false,4),(false,5),(false,6),(false,7)] rfl ?_
    refine L.move rfl rfl rfl trivial ?_
    refine L.loadDW rfl Tf.a35 rfl hB1 (by first | simp | assumption) Tf.s35 List.not_mem_nil rfl trivial ?_
    refine L.loadBW rfl Tf.a87 rfl (List.Mem.head _) Tf.s87 List.not_mem_nil rfl trivial ?_
    refine L.loadDW rfl Tf.a128 rfl hB2 (by first | simp | assumption) (by first | exact Tf.s128 | (simp only [ints_length, *]; exact Tf.s128)) List.not_mem_nil rfl trivial ?_
    refine L.callV rfl rfl rfl (fun D1 hD1 => off_ok _ r x t _ ⟨_, _, rfl, hp.up RI.up (hD1 _ (by simp)), hc.up RC.up (hD1 _ (by simp))⟩ hok ht hxm) rfl trivial ?_
    refine L.buildSlice rfl Try.underlying22 Tf.s3 Tf.z3 rfl rfl rfl rfl (.cons rfl rfl .nil) rfl trivial (fun b901 D901 hD901 hA901 => ?_)
    have hS901 := Sl.ofInts (l := [_]) (n := 1) (cap := 1) hA901 rfl (by omega) (by omega)
    refine L.append (A := [(_, _)]) (B := _) rfl Try.underlying22 rfl rfl Tf.s3 Tf.z3 rfl Tf.i3 rfl rfl rfl ha (Src.lit hA901) (by simp) rfl (by simp; omega) (by simp [cell1]) (by omega) (Or.inl rfl) rfl trivial (fun v1 ν1 ha1 => ?_)
    have ha2 : Acc 3 1 v1 (k + 1) (ints ((r.counts.take (k + 1)).map (errOf t))) ν1 := by rw [List.take_add_one, hx, Option.toList_some, List.map_append, ← ints_append]; exact ha1
    refine L.assign rfl rfl rfl trivial ?_
    refine L.nil ?_
    refine C.blockEnd ?_
    refine C.next ?_
    refine C.region [(false,0),(false,1)] rfl ?_
    refine L.add rfl rfl rfl (by simp only [inK]; omega) rfl trivial ?_
    refine L.move rfl rfl rfl trivial ?_
    refine L.nil ?_
    exact C.againR 16 (k + 1, v1, ν1) ⟨by simp only; omega, ha2⟩ (by simp only; omega) ⟨(by first | rfl | (show some (Value.int _ _) = some (Value.int _ _); congr 2; omega)), (by first | rfl | (show some (Value.int _ _) = some (Value.int _ _); congr 2; omega)), trivial⟩ rfl rfl (List.Sublist.cons _ (List.Sublist.refl _)) (fun D h => ⟨D, List.Mem.tail _ (h), Le.refl D⟩)
  · obtain rfl : k = r.counts.length := by omega
    rw [List.take_length] at ha
    refine C.exit ?_
    refine C.thenExit ?_
    refine C.thenExit ?_
    refine C.blockExit ?_
    refine C.next ?_
    refine C.seq ?_
    refine C.region [(false,0),(false,1)] rfl ?_
    refine L.move rfl rfl rfl trivial ?_
    refine L.assign rfl rfl rfl trivial ?_
    refine L.nil ?_
    refine C.next ?_
    refine C.ret ?_
    refine Q.freeze (A := []) (B := []) ha rfl (fun D2 hD2 hF => ?_)
    exact leave (vs := [_]) rfl rfl rfl ⟨rfl, trivial⟩ (fun D hD => (hF.ints (by simp) (by omega)).up RI.up (hD _ (by simp)))
theorem wrong_ok (rv : Value) (r : RowD) (t : List Int) (D : Data) (hr : RowIs D rv r) (hok : RowOk r) (ht : TruthOk r t) :
    Fn Try.prog 77 #[rv, .agg (ints (sumsOf t)).toArray] D (fun _ v => v = .tuple #[.int .i64 (if explains r t then (wrongs r t : Int) else 0), .bool (explains r t)]) := by
  obtain ⟨pv, cv, rfl, hp, hc⟩ := hr
  have h6 := hok.cnt6
  have hsl := sumsOf_length t
  refine enter 27 Try.func77 rfl rfl rfl rfl fun h0 => ?_
  refine C.seq ?_
  refine C.region [(false,0),(false,1),(false,2),(false,3)] rfl ?_
  refine L.boxD rfl rfl rfl rfl trivial (fun q1 E1 hE1 hB1 => ?_)
  refine L.boxD rfl rfl rfl rfl trivial (fun q2 E2 hE2 hB2 => ?_)
  refine L.assign rfl rfl rfl trivial ?_
  refine L.assign rfl rfl rfl trivial ?_
  refine L.nil ?_
  refine C.next ?_
  refine C.seq ?_
  refine C.seq ?_
  refine C.region [(false,0),(false,1),(false,2),(false,3),(false,4)] rfl ?_
  refine L.loadDW rfl Tf.a35 rfl hB1 (by first | simp | assumption) Tf.s35 List.not_mem_nil rfl trivial ?_
  refine L.loadDW rfl Tf.a128 rfl hB2 (by first | simp | assumption) (by first | exact Tf.s128 | (simp only [ints_length, *]; exact Tf.s128)) List.not_mem_nil rfl trivial ?_
  refine L.call rfl rfl rfl (fun D1 hD1 => errors_ok _ r t _ ⟨_, _, rfl, hp.up RI.up (hD1 _ (by simp)), hc.up RC.up (hD1 _ (by simp))⟩ hok ht) rfl trivial (fun v1 D1 hD1 hp1 => ?_)
  refine L.len rfl Try.underlying22 rfl hp1 rfl rfl trivial ?_
  refine L.move rfl rfl rfl trivial ?_
  refine L.nil ?_
  refine C.next ?_
  refine C.block ?_
  refine C.loopC (γ := Nat) (fun k => r.counts.length - k) (fun k => k ≤ r.counts.length ∧ (r.counts.take k).all (fun c => decide (errOf t c ≤ r.off)) = true) (fun k => [(12, .int .i64 (k : Int)), (4, .int .i64 (((r.counts.take k).filter fun c => decide (0 < errOf t c)).length : Int))]) [(11, _), (10, _), (5, _), (2, _)] (fun k => [D1, E2, E1, D]) 0 (by simp) ⟨(by first | rfl | (show some (Value.int _ _) = some (Value.int _ _); congr 2; omega)), (by first | rfl | (show some (Value.int _ _) = some (Value.int _ _); congr 2; omega)), trivial⟩ ⟨rfl, rfl, rfl, rfl, trivial⟩ (ds_same) ?_
  rintro k ⟨h1, h2⟩
  refine C.seq ?_
  refine C.region [(false,0)] rfl ?_
  refine L.lss rfl rfl rfl rfl trivial ?_
  refine L.nil ?_
  refine C.next ?_
  refine C.seq ?_
  refine C.condD rfl (fun hc1 => ?_) (fun hc1 => ?_)
  · simp only [List.length_map] at hc1
    have hk : k < r.counts.length := by omega
    obtain ⟨x, hx⟩ : ∃ x, r.counts[k]? = some x := ⟨_, List.getElem?_eq_getElem hk⟩
    have hxm := List.mem_of_getElem? hx
    have hx2 : (r.counts.map (errOf t))[k]? = some (errOf t x) := by rw [List.getElem?_map, hx]; rfl
    have hxb := errOf_bound hok ht hxm
    have hlf := List.length_filter_le (fun c => decide (0 < errOf t c)) (r.counts.take k)
    have hlt : (r.counts.take k).length ≤ k := List.length_take_le _ _
    refine C.skip ?_
    refine C.next ?_
    refine C.seq ?_
    refine C.block ?_
    refine C.seq ?_
    refine C.region [(false,0),(false,1),(false,2)] rfl ?_
    refine L.indexS rfl Try.underlying22 Tf.s3 rfl hp1 rfl (by omega) hx2 rfl trivial (fun b1 o1 cs1 hr1 hcl1 hA1 => ?_)
    obtain rfl : cs1 = [.int .i64 _] := hr1
    refine L.loadD1 rfl (k := 0) Tf.a3 rfl hA1 (by first | simp | assumption) rfl List.not_mem_nil rfl trivial ?_
    refine L.assign rfl rfl rfl trivial ?_
    refine L.nil ?_
    refine C.next ?_
    refine C.seq ?_
    refine C.seq ?_
    refine C.region [(false,0),(false,1),(false,2),(false,3)] rfl ?_
    refine L.move rfl rfl rfl trivial ?_
    refine L.fieldAddr rfl Tf.f35_3 rfl rfl trivial ?_
    refine L.loadD1 rfl (k := 3) Tf.a3 rfl hB1 (by first | simp | assumption) rfl List.not_mem_nil rfl trivial ?_
    refine L.gtr rfl rfl rfl rfl trivial ?_
    refine L.nil ?_
    refine C.next ?_
    refine C.condD rfl (fun hc2 => ?_) (fun hc2 => ?_)
    · refine C.seq ?_
      refine C.region [(false,0),(false,1)] rfl ?_
      refine L.assign rfl rfl rfl trivial ?_
      refine L.assign rfl rfl rfl trivial ?_
      refine L.nil ?_
      refine C.next ?_
      refine C.ret ?_
      refine C.thenRet ?_
      refine C.blockRet ?_
      refine C.thenRet ?_
      refine C.thenRet ?_
      refine C.blockRet ?_
      refine C.thenRet ?_
      exact leave (vs := [_, _]) rfl rfl rfl ⟨rfl, rfl, trivial⟩ (fun D hD => by show Value.tuple _ = _; rw [wrong_no hxm hc2]; rfl)
    · refine C.skip ?_
      refine C.next ?_
      refine C.region [(false,0),(false,1),(false,2),(false,3),(false,4),(false,5)] rfl ?_
      refine L.move rfl rfl rfl trivial ?_
      refine L.move rfl rfl rfl trivial ?_
      refine L.buildSlice rfl Try.underlying22 Tf.s3 Tf.z3 rfl rfl rfl rfl (.cons rfl rfl (.cons rfl rfl .nil)) rfl trivial (fun b901 D901 hD901 hA901 => ?_)
      have hS901 := Sl.ofInts (l := [_, _]) (n := 2) (cap := 2) hA901 rfl (by omega) (by omega)
      refine L.callV rfl rfl rfl (fun D2 hD2 => minimum_ok _ (errOf t x) [1] _ (hS901.up RI.up (hD2 _ (by simp)))) rfl trivial ?_
      refine L.add rfl rfl rfl (by simp only [inK, List.foldl_cons, List.foldl_nil]; omega) rfl trivial ?_
      refine L.assign rfl rfl rfl trivial ?_
      refine L.nil ?_
      refine C.blockEnd ?_
      refine C.next ?_
      refine C.region [(false,0),(false,1)] rfl ?_
      refine L.add rfl rfl rfl (by simp only [inK]; omega) rfl trivial ?_
      refine L.move rfl rfl rfl trivial ?_
      refine L.nil ?_
      exact C.againR 18 (k + 1) ⟨by omega, wrong_step1 hx h2 hc2⟩ (by omega) ⟨(by first | rfl | (show some (Value.int _ _) = some (Value.int _ _); congr 2; omega)), (by rw [wrong_step2 hx hxb]; rfl), trivial⟩ rfl rfl (List.Sublist.refl _) (fun D h => ⟨D, List.Mem.tail _ (h), Le.refl D⟩)
  · simp only [List.length_map] at hc1
    obtain rfl : k = r.counts.length := by omega
    rw [List.take_length] at h2
    refine C.exit ?_
    refine C.thenExit ?_
    refine C.thenExit ?_
    refine C.blockExit ?_
    refine C.next ?_
    refine C.seq ?_
    refine C.region [(false,0),(false,1),(false,2)] rfl ?_
    refine L.move rfl rfl rfl trivial ?_
    refine L.assign rfl rfl rfl trivial ?_
    refine L.assign rfl rfl rfl trivial ?_
    refine L.nil ?_
    refine C.next ?_
    refine C.ret ?_
    exact leave (vs := [_, _]) rfl rfl rfl ⟨rfl, rfl, trivial⟩ (fun D hD => by show Value.tuple _ = _; rw [wrong_yes h2, List.take_length]; rfl)
theorem chaired_ok (tv : Value) (t : List Int) (D : Data) (h9 : t.length ≤ 9) (ht : Sl D RI 1 tv t) : Fn Try.prog 80 #[tv] D (fun _ v => v = .agg (ints (pad9 t)).toArray) := by
  refine enter 7 Try.func80 rfl rfl rfl rfl fun h0 => ?_
  refine C.seq ?_
  refine C.region [(false,0)] rfl ?_
  refine L.alloc rfl Tf.z121 rfl rfl trivial (fun q1 => ?_)
  refine L.nil ?_
  refine C.next ?_
  refine C.seq ?_
  refine C.region [(false,0),(false,1),(false,2)] rfl ?_
  refine L.weakM [(q1, .cells (ints (List.replicate 9 0)).toArray 121 (0, 0))] (List.Sublist.refl _) ?_
  refine L.sliceA rfl Try.underlying121 Tf.s3 rfl rfl trivial ?_
  refine L.move rfl rfl rfl trivial ?_
  refine L.copyA (l0 := List.replicate 9 0) rfl rfl Try.underlying22 Tf.s3 rfl rfl ht (by simp) h9 (by simp) Has.head rfl trivial ?_
  rw [show t ++ (List.replicate 9 (0 : Int)).drop t.length = pad9 t by unfold pad9; rw [List.drop_replicate]]
  have hlen := pad9_length h9
  refine L.nil ?_
  refine C.next ?_
  refine C.seq ?_
  refine C.region [(false,0),(false,1)] rfl ?_
  refine L.loadBW rfl Tf.a121 rfl (List.Mem.head _) (by first | exact Tf.s121 | (simp only [ints_length, *]; exact Tf.s121)) List.not_mem_nil rfl trivial ?_
  refine L.storeW rfl rfl rfl rfl Tf.s121 (by first | rfl | (simp only [ints_length, *]; done) | (simp only [ints_length, *]; rfl) | (simp only [ints_length, *]; omega)) (by first | rfl | (simp only [ints_length, *]; done) | (simp only [ints_length, *]; rfl) | (simp only [ints_length, *]; omega)) (Has.head) (ints_cell1 _) trivial ?_
  refine L.nil ?_
  refine C.next ?_
  refine C.ret ?_
  exact leave (vs := [_]) rfl rfl rfl ⟨⟨_, _, _, rfl, (List.Mem.head _), Or.inr ⟨Tf.a121, (by first | exact Tf.s121 | (simp only [List.size_toArray, ints_length, *]; exact Tf.s121)), rfl⟩⟩, trivial⟩ (fun D hD => rfl)

theorem sumsP_ok (t : List Int) (D : Data) (h : t.length ≤ 9) (hb : ∀ x ∈ t, 0 ≤ x ∧ x ≤ 1) : Fn Try.prog 78 #[.agg (ints (pad9 t)).toArray] D (fun _ v => v = .agg (ints (sumsOf t)).toArray) :=
  (sums_ok (pad9 t) (pad9_length h) (pad9_bound hb) D).mono fun _ v _ hv => by rw [hv, sumsOf_pad]
theorem Play_ok (rv tv : Value) (r : RowD) (t : List Int) (D : Data) (hr : RowIs D rv r) (ht : Sl D RI 1 tv t) :
    Fn Try.prog 53 #[rv, tv] D (fun D' v => ∃ lv, v = .tuple #[lv, .int .i64 (if fault r ≠ 0 then fault r else if isTruth r t then 0 else 2)] ∧ Sl D' RI 1 lv (if fault r = 0 ∧ isTruth r t = true then r.counts.map (errOf t) else [])) := by
  have hr0 := hr
  obtain ⟨pv, cv, rfl, hp, hc⟩ := hr
  refine enter 21 Try.func53 rfl rfl rfl rfl fun h0 => ?_
  refine C.seq ?_
  refine C.region [(false,0),(false,1),(false,2)] rfl ?_
  refine L.boxD rfl rfl rfl rfl trivial (fun q1 E1 hE1 hB1 => ?_)
  refine L.assign rfl rfl rfl trivial ?_
  refine L.assign rfl rfl rfl trivial ?_
  refine L.nil ?_
  refine C.next ?_
  refine C.seq ?_
  refine C.seq ?_
  refine C.region [(false,0),(false,1),(false,2)] rfl ?_
  refine L.loadDW rfl Tf.a35 rfl hB1 (by first | simp | assumption) Tf.s35 List.not_mem_nil rfl trivial ?_
  refine L.callV rfl rfl rfl (fun D1 hD1 => CheckRow_ok _ r _ (hr0.up (hD1 _ (by simp)))) rfl trivial ?_
  refine L.assign rfl rfl rfl trivial ?_
  refine L.nil ?_
  refine C.next ?_
  refine C.seq ?_
  refine C.region [(false,0),(false,1)] rfl ?_
  refine L.move rfl rfl rfl trivial ?_
  refine L.neq rfl rfl rfl rfl trivial ?_
  refine L.nil ?_
  refine C.next ?_
  refine C.condD rfl (fun hc1 => ?_) (fun hc1 => ?_)
  · refine C.seq ?_
    refine C.region [(false,0),(false,1),(false,2)] rfl ?_
    refine L.move rfl rfl rfl trivial ?_
    refine L.assign rfl rfl rfl trivial ?_
    refine L.assign rfl rfl rfl trivial ?_
    refine L.nil ?_
    refine C.next ?_
    refine C.ret ?_
    refine C.thenRet ?_
    exact leave (vs := [_, _]) rfl rfl rfl ⟨rfl, rfl, trivial⟩ (fun D hD => ⟨_, by rw [if_pos hc1]; rfl, by rw [if_neg (by omega)]; exact Sl.nil⟩)
  · have hok : RowOk r := rowOk_iff.1 (by omega)
    refine C.skip ?_
    refine C.next ?_
    refine C.seq ?_
    refine C.seq ?_
    refine C.region [(false,0),(false,1),(false,2),(false,3)] rfl ?_
    refine L.loadDW rfl Tf.a35 rfl hB1 (by first | simp | assumption) Tf.s35 List.not_mem_nil rfl trivial ?_
    refine L.move rfl rfl rfl trivial ?_
    refine L.callV rfl rfl rfl (fun D2 hD2 => is_ok _ _ r t _ (hr0.up (hD2 _ (by simp))) (ht.up RI.up (hD2 _ (by simp)))) rfl trivial ?_
    refine L.not rfl rfl rfl trivial ?_
    refine L.nil ?_
    refine C.next ?_
    refine C.cond rfl (fun hc2 => ?_) (fun hc2 => ?_)
    · refine C.seq ?_
      refine C.region [(false,0),(false,1)] rfl ?_
      refine L.assign rfl rfl rfl trivial ?_
      refine L.assign rfl rfl rfl trivial ?_
      refine L.nil ?_
      refine C.next ?_
      refine C.ret ?_
      refine C.thenRet ?_
      exact leave (vs := [_, _]) rfl rfl rfl ⟨rfl, rfl, trivial⟩ (fun D hD => ⟨_, by rw [if_neg hc1, if_neg (by simpa using hc2)]; rfl, by rw [if_neg (by simp at hc2; simp [hc2])]; exact Sl.nil⟩)
    · have hit : isTruth r t = true := by simpa using hc2
      have htr := isTruth_ok hit
      refine C.skip ?_
      refine C.next ?_
      refine C.seq ?_
      refine C.draw [] 3 [0,1,2,3,4,5,6] [false,true,true,true,false,false,false] [(false,0),(true,1),(true,2),(true,3),(false,4),(false,5),(false,6)] Tf.follows (fun _ _ _ h => np_body (P := Try.prog) (fn := Try.f53) _ _ _ h) (by kernel_rfl) rfl ?_
      refine L.loadDW rfl Tf.a35 rfl hB1 (by first | simp | assumption) Tf.s35 List.not_mem_nil rfl trivial ?_
      refine L.move rfl rfl rfl trivial ?_
      refine L.callV rfl rfl rfl (fun D3 hD3 => chaired_ok _ t _ (by have := hok.len9; have := htr.1; omega) (ht.up RI.up (hD3 _ (by simp)))) rfl trivial ?_
      refine L.callV rfl rfl rfl (fun D4 hD4 => sumsP_ok t _ (by have := hok.len9; have := htr.1; omega) htr.2) rfl trivial ?_
      refine L.call rfl rfl rfl (fun D5 hD5 => errors_ok _ r t _ (hr0.up (hD5 _ (by simp))) hok htr) rfl trivial (fun v5 D5 hD5 hp5 => ?_)
      refine L.assign rfl rfl rfl trivial ?_
      refine L.assign rfl rfl rfl trivial ?_
      refine L.nil ?_
      refine C.next ?_
      refine C.ret ?_
      exact leave (vs := [_, _]) rfl rfl rfl ⟨rfl, rfl, trivial⟩ (fun D hD => ⟨_, by rw [if_neg hc1, if_pos hit]; rfl, by rw [if_pos ⟨by omega, hit⟩]; exact hp5.up RI.up (hD _ (by simp))⟩)
theorem ProveLeast_ok (rv tv : Value) (r : RowD) (t : List Int) (many : Int) (D : Data) (hr : RowIs D rv r) (ht : Sl D RI 1 tv t) :
    Fn Try.prog 49 #[rv, tv, .int .i64 many] D (fun _ v => v = .bool (decide (fault r = 0) && isTruth r t && explains r t && decide ((wrongs r t : Int) ≤ many))) := by
  have hr0 := hr
  obtain ⟨pv, cv, rfl, hp, hc⟩ := hr
  refine enter 32 Try.func49 rfl rfl rfl rfl fun h0 => ?_
  refine C.seq ?_
  refine C.region [(false,0),(false,1)] rfl ?_
  refine L.boxD rfl rfl rfl rfl trivial (fun q1 E1 hE1 hB1 => ?_)
  refine L.assign rfl rfl rfl trivial ?_
  refine L.nil ?_
  refine C.next ?_
  refine C.seq ?_
  refine C.seq ?_
  refine C.region [(false,0),(false,1),(false,2),(false,3),(false,4),(false,5),(false,6),(false,7),(false,8)] rfl ?_
  refine L.loadDW rfl Tf.a35 rfl hB1 (by first | simp | assumption) Tf.s35 List.not_mem_nil rfl trivial ?_
  refine L.callV rfl rfl rfl (fun D1 hD1 => CheckRow_ok _ r _ (hr0.up (hD1 _ (by simp)))) rfl trivial ?_
  refine L.neq rfl rfl rfl rfl trivial ?_
  refine L.move rfl rfl rfl trivial ?_
  refine' L.or [(false,4),(false,5),(false,6),(false,7),(false,8)] [] (s := 12) (p := 17) rfl rfl (fun hg1 => ?_) (fun hg1 => ?_) ?_
  rotate_left
  · refine L.loadDW rfl Tf.a35 rfl hB1 (by first | simp | assumption) Tf.s35 List.not_mem_nil rfl ⟨_, rfl, rfl⟩ ?_
    refine L.move rfl rfl rfl ⟨_, rfl, rfl⟩ ?_
    refine L.callV rfl rfl rfl (fun D2 hD2 => is_ok _ _ r t _ (hr0.up (hD2 _ (by simp))) (ht.up RI.up (hD2 _ (by simp)))) rfl ⟨_, rfl, rfl⟩ ?_
    refine L.not rfl rfl rfl ⟨_, rfl, rfl⟩ ?_
    refine L.pickF rfl rfl rfl rfl trivial ?_
    exact L.nil fun a w hh => hh.cutK 4 rfl
  · refine L.pass rfl rfl rfl ⟨_, _, rfl, rfl, rfl⟩ ?_
    refine L.pass rfl rfl rfl ⟨_, _, rfl, rfl, rfl⟩ ?_
    refine L.pass rfl rfl rfl ⟨_, _, rfl, rfl, rfl⟩ ?_
    refine L.pass rfl rfl rfl ⟨_, _, rfl, rfl, rfl⟩ ?_
    refine L.pickT rfl rfl rfl rfl trivial ?_
    exact L.nil fun a w hh => hh.cutK 4 rfl
  refine L.nil ?_
  refine C.next ?_
  refine C.cond rfl (fun hc1 => ?_) (fun hc1 => ?_)
  · refine C.seq ?_
    refine C.region [(false,0)] rfl ?_
    refine L.assign rfl rfl rfl trivial ?_
    refine L.nil ?_
    refine C.next ?_
    refine C.ret ?_
    refine C.thenRet ?_
    exact leave (vs := [_]) rfl rfl rfl ⟨rfl, trivial⟩ (fun D hD => by show Value.bool _ = _; rw [pl_yes hc1])
  · obtain ⟨hf0, hit⟩ := pl_no hc1
    have hok : RowOk r := rowOk_iff.1 hf0
    have htr := isTruth_ok hit
    refine C.skip ?_
    refine C.next ?_
    refine C.seq ?_
    refine C.draw [] 5 [0,1,2,3,4,5,6,7,8,9] [false,true,true,true,false,false,false,true,true,false] [(false,0),(true,1),(true,2),(true,3),(false,4),(false,5),(false,6),(true,7),(true,8),(false,9)] Tf.follows (fun _ _ _ h => np_body (P := Try.prog) (fn := Try.f49) _ _ _ h) (by kernel_rfl) rfl ?_
    refine L.loadDW rfl Tf.a35 rfl hB1 (by first | simp | assumption) Tf.s35 List.not_mem_nil rfl trivial ?_
    refine L.move rfl rfl rfl trivial ?_
    refine L.callV rfl rfl rfl (fun D3 hD3 => chaired_ok _ t _ (by have := hok.len9; have := htr.1; omega) (ht.up RI.up (hD3 _ (by simp)))) rfl trivial ?_
    refine L.callV rfl rfl rfl (fun D4 hD4 => sumsP_ok t _ (by have := hok.len9; have := htr.1; omega) htr.2) rfl trivial ?_
    refine L.callV rfl rfl rfl (fun D5 hD5 => wrong_ok _ r t _ (hr0.up (hD5 _ (by simp))) hok htr) rfl trivial ?_
    refine L.move rfl rfl rfl trivial ?_
    refine L.extract rfl rfl rfl rfl trivial ?_
    refine L.extract rfl rfl rfl rfl trivial ?_
    refine L.assign rfl rfl rfl trivial ?_
    refine L.assign rfl rfl rfl trivial ?_
    refine L.nil ?_
    refine C.next ?_
    refine C.seq ?_
    refine C.region [(false,0),(false,1),(false,2),(false,3),(false,4),(false,5),(false,6)] rfl ?_
    refine L.move rfl rfl rfl trivial ?_
    refine L.move rfl rfl rfl trivial ?_
    refine' L.and [(false,2),(false,3),(false,4),(false,5)] [(false,6)] (s := 27) (p := 31) rfl rfl (fun hg2 => ?_) (fun hg2 => ?_) ?_
    rotate_left
    · refine L.move rfl rfl rfl ⟨_, rfl, rfl⟩ ?_
      refine L.move rfl rfl rfl ⟨_, rfl, rfl⟩ ?_
      refine L.leq rfl rfl rfl rfl ⟨_, rfl, rfl⟩ ?_
      refine L.pickT rfl rfl rfl rfl trivial ?_
      exact L.nil fun a w hh => hh.cutK 3 rfl
    · refine L.pass rfl rfl rfl ⟨_, _, rfl, rfl, rfl⟩ ?_
      refine L.pass rfl rfl rfl ⟨_, _, rfl, rfl, rfl⟩ ?_
      refine L.pass rfl rfl rfl ⟨_, _, rfl, rfl, rfl⟩ ?_
      refine L.pickF rfl rfl rfl rfl trivial ?_
      exact L.nil fun a w hh => hh.cutK 3 rfl
    refine L.assign rfl rfl rfl trivial ?_
    refine L.nil ?_
    refine C.next ?_
    refine C.ret ?_
    exact leave (vs := [_]) rfl rfl rfl ⟨rfl, trivial⟩ (fun D hD => by show Value.bool _ = _; rw [pl_end hf0 hit])
theorem ProveTruth_ok (rv tv : Value) (r : RowD) (t : List Int) (D : Data) (hr : RowIs D rv r) (ht : Sl D RI 1 tv t) :
    Fn Try.prog 54 #[rv, tv] D (fun _ v => v = .bool (decide (fault r = 0) && isTruth r t && explains r t && decide ((wrongs r t : Int) ≤ r.wrong))) := by
  have hr0 := hr
  obtain ⟨pv, cv, rfl, hp, hc⟩ := hr
  refine enter 10 Try.func54 rfl rfl rfl rfl fun h0 => ?_
  refine C.seq ?_
  refine C.region [(false,0),(false,1)] rfl ?_
  refine L.boxD rfl rfl rfl rfl trivial (fun q1 E1 hE1 hB1 => ?_)
  refine L.assign rfl rfl rfl trivial ?_
  refine L.nil ?_
  refine C.next ?_
  refine C.seq ?_
  refine C.region [(false,0),(false,1),(false,2),(false,3),(false,4),(false,5)] rfl ?_
  refine L.loadDW rfl Tf.a35 rfl hB1 (by first | simp | assumption) Tf.s35 List.not_mem_nil rfl trivial ?_
  refine L.move rfl rfl rfl trivial ?_
  refine L.fieldAddr rfl Tf.f35_2 rfl rfl trivial ?_
  refine L.loadD1 rfl (k := 2) Tf.a3 rfl hB1 (by first | simp | assumption) rfl List.not_mem_nil rfl trivial ?_
  refine L.callV rfl rfl rfl (fun D1 hD1 => ProveLeast_ok _ _ r t _ _ (hr0.up (hD1 _ (by simp))) (ht.up RI.up (hD1 _ (by simp)))) rfl trivial ?_
  refine L.assign rfl rfl rfl trivial ?_
  refine L.nil ?_
  refine C.next ?_
  refine C.ret ?_
  exact leave (vs := [_]) rfl rfl rfl ⟨rfl, trivial⟩ (fun D hD => rfl)
end Go.Fs
