/- Of the proof of TopStand: W2, W3, W4. -/
import Derived.Test.YtjbdakpeheajgaaZTopStandD
namespace Go.Fs
open Go.Proofs
open C1
theorem fault_limit {r : RowD} (h : (decide ((9 : Int) < r.places.length) || decide ((6 : Int) < r.counts.length)) = true) : fault r = 3 := by
  simp only [Bool.or_eq_true, decide_eq_true_eq] at h
  unfold fault; rw [if_pos (by omega)]
theorem fault_mid {r : RowD} {b : Bool} (h : (decide ((9 : Int) < r.places.length) || decide ((6 : Int) < r.counts.length)) = false)
    (h2 : ((((decide ((r.places.length : Int) = 0) || !inB r.wrong 0 6) || !inB r.off 0 9) || !r.places.all placeOk) || !r.counts.all (cntOk r.places.length)) = b) : fault r = if b then 1 else 0 := by
  simp only [Bool.or_eq_false_iff, decide_eq_false_iff_not] at h
  unfold fault; rw [if_neg (by omega)]
  subst h2
  by_cases h1 : r.places.length = 0 <;> cases inB r.wrong 0 6 <;> cases inB r.off 0 9 <;> cases r.places.all placeOk <;> cases r.counts.all (cntOk r.places.length) <;> simp [h1]
theorem fault_arg {r : RowD} (h : (decide ((9 : Int) < r.places.length) || decide ((6 : Int) < r.counts.length)) = false)
    (h2 : ((((decide ((r.places.length : Int) = 0) || !inB r.wrong 0 6) || !inB r.off 0 9) || !r.places.all placeOk) || !r.counts.all (cntOk r.places.length)) = true) : fault r = 1 := fault_mid h h2
theorem fault_ok {r : RowD} (h : (decide ((9 : Int) < r.places.length) || decide ((6 : Int) < r.counts.length)) = false)
    (h2 : ((((decide ((r.places.length : Int) = 0) || !inB r.wrong 0 6) || !inB r.off 0 9) || !r.places.all placeOk) || !r.counts.all (cntOk r.places.length)) = false) : fault r = 0 := fault_mid h h2
theorem is_len {t p : List Int} (h : (decide ((t.length : Int) ≠ p.length) || !t.all fun x => inB x 0 1) = false) : t.length = p.length := by
  simp only [Bool.or_eq_false_iff, decide_eq_false_iff_not] at h; omega
theorem is_no1 {r : RowD} {t : List Int} (h : (decide ((t.length : Int) ≠ r.places.length) || !t.all fun x => inB x 0 1) = true) : isTruth r t = false := by
  rw [← isP_eq]; unfold isP
  simp only [Bool.or_eq_true, decide_eq_true_eq, Bool.not_eq_true'] at h
  rcases h with h | h
  · have : (t.length == r.places.length) = false := by simp; omega
    simp [this]
  · rw [h]; simp
theorem is_no2 {r : RowD} {t : List Int} {k : Nat} {x y : Int} (_hl : t.length = r.places.length) (hx : r.places[k]? = some x) (hy : t[k]? = some y) (h : (decide (x ≠ 2) && decide (y ≠ x)) = true) : isTruth r t = false := by
  rw [← isP_eq]; unfold isP
  simp only [Bool.and_eq_true, decide_eq_true_eq] at h
  have hm : (y, x) ∈ t.zip r.places := List.mem_of_getElem? (i := k) (by rw [List.getElem?_zip_eq_some]; exact ⟨hy, hx⟩)
  have : ((t.zip r.places).all fun x => x.2 == 2 || x.1 == x.2) = false := by
    rw [List.all_eq_false]
    exact ⟨_, hm, by simp [h.1, h.2]⟩
  rw [this]; simp
theorem is_step {r : RowD} {t : List Int} {k : Nat} {x y : Int} (hx : r.places[k]? = some x) (hy : t[k]? = some y) (h2 : ((t.zip r.places).take k).all (fun x => x.2 == 2 || x.1 == x.2) = true) (h : (decide (x ≠ 2) && decide (y ≠ x)) = false) :
    ((t.zip r.places).take (k + 1)).all (fun x => x.2 == 2 || x.1 == x.2) = true := by
  rw [List.take_add_one, show (t.zip r.places)[k]? = some (y, x) by rw [List.getElem?_zip_eq_some]; exact ⟨hy, hx⟩, List.all_append, h2]
  simp only [Bool.and_eq_false_iff, decide_eq_false_iff_not, ne_eq, Decidable.not_not] at h
  rcases h with h | h <;> simp [h]
theorem is_yes {r : RowD} {t : List Int} {k : Nat} (hl : t.length = r.places.length) (h : (decide ((t.length : Int) ≠ r.places.length) || !t.all fun x => inB x 0 1) = false) (hk : r.places.length ≤ k) (h2 : ((t.zip r.places).take k).all (fun x => x.2 == 2 || x.1 == x.2) = true) : isTruth r t = true := by
  rw [← isP_eq]; unfold isP
  simp only [Bool.or_eq_false_iff, Bool.not_eq_false'] at h
  rw [List.take_of_length_le (by simp; omega)] at h2
  rw [h.2, h2, hl]; simp
theorem wrong_step1 {r : RowD} {t : List Int} {k : Nat} {x : Cnt} (hx : r.counts[k]? = some x) (h2 : (r.counts.take k).all (fun c => decide (errOf t c ≤ r.off)) = true) (h : ¬ r.off < errOf t x) : (r.counts.take (k + 1)).all (fun c => decide (errOf t c ≤ r.off)) = true := by
  rw [List.take_add_one, hx, List.all_append, h2]; simp; omega
theorem wrong_step2 {r : RowD} {t : List Int} {k : Nat} {x : Cnt} (hx : r.counts[k]? = some x) (hb : 0 ≤ errOf t x ∧ errOf t x ≤ 9) :
    ((((r.counts.take (k + 1)).filter fun c => decide (0 < errOf t c)).length : Nat) : Int) = ((r.counts.take k).filter fun c => decide (0 < errOf t c)).length + [1].foldl min (errOf t x) := by
  rw [List.take_add_one, hx, List.filter_append, List.length_append]
  by_cases h : 0 < errOf t x
  · simp [h]; omega
  · simp [h]; omega
theorem wrong_no {r : RowD} {t : List Int} {x : Cnt} (hx : x ∈ r.counts) (h : r.off < errOf t x) : explains r t = false := by
  unfold explains; rw [List.all_eq_false]; exact ⟨x, hx, by simp; omega⟩
theorem wrong_yes {r : RowD} {t : List Int} (h : r.counts.all (fun c => decide (errOf t c ≤ r.off)) = true) : explains r t = true := h
theorem pl_no {f : Int} {b : Bool} (h : (decide (f ≠ 0) || !b) = false) : f = 0 ∧ b = true := by
  simp only [Bool.or_eq_false_iff, decide_eq_false_iff_not, Bool.not_eq_false'] at h; exact ⟨by omega, h.2⟩
theorem pl_yes {f : Int} {a b c : Bool} (h : (decide (f ≠ 0) || !a) = true) : (decide (f = 0) && a && b && c) = false := by
  by_cases hf : f = 0 <;> simp [hf] at h ⊢; simp [h]
theorem pl_end {r : RowD} {t : List Int} {many : Int} (hf : fault r = 0) (h : isTruth r t = true) :
    (explains r t && decide ((if explains r t = true then (wrongs r t : Int) else 0) ≤ many)) = (decide (fault r = 0) && isTruth r t && explains r t && decide ((wrongs r t : Int) ≤ many)) := by
  rw [hf, h]; cases explains r t <;> simp
open C1
theorem CheckRow_ok (rv : Value) (r : RowD) (D : Data) (hr : RowIs D rv r) : Fn Try.prog 52 #[rv] D (fun _ v => v = .int .i64 (fault r)) := by
  obtain ⟨pv, cv, rfl, hp, hc⟩ := hr
  refine enter 47 Try.func52 rfl rfl rfl rfl fun h0 => ?_
  refine C.seq ?_
  refine C.region [(false,0),(false,1)] rfl ?_
  refine L.boxD rfl rfl rfl rfl trivial (fun q1 E1 hE1 hB1 => ?_)
  refine L.assign rfl rfl rfl trivial ?_
  refine L.nil ?_
  refine C.next ?_
  refine C.seq ?_
  refine C.region [(false,0),(false,1),(false,2)] rfl ?_
  refine L.loadDW rfl Tf.a59 rfl hB1 (by first | simp | assumption) Tf.s59 List.not_mem_nil rfl trivial ?_
  refine L.makeFunc rfl rfl rfl rfl trivial ?_
  refine L.assign rfl rfl rfl trivial ?_
  refine L.nil ?_
  refine C.next ?_
  refine C.seq ?_
  refine C.block ?_
  refine C.seq ?_
  refine C.region [(false,0),(false,1),(false,2),(false,3),(false,4),(false,5),(false,6),(false,7),(false,8),(false,9),(false,10)] rfl ?_
  refine L.fieldAddr rfl Tf.f59_0 rfl rfl trivial ?_
  refine L.loadD1 rfl (k := 0) Tf.a33 rfl hB1 (by first | simp | assumption) rfl List.not_mem_nil rfl trivial ?_
  refine L.len rfl Try.underlying33 rfl (by assumption) rfl rfl trivial ?_
  refine L.gtr rfl rfl rfl rfl trivial ?_
  refine L.move rfl rfl rfl trivial ?_
  refine' L.or [(false,5),(false,6),(false,7),(false,8),(false,9)] [(false,10)] (s := 11) (p := 16) rfl rfl (fun hg1 => ?_) (fun hg1 => ?_) ?_
  rotate_left
  · refine L.fieldAddr rfl Tf.f59_1 rfl rfl ⟨_, rfl, rfl⟩ ?_
    refine L.loadD1 rfl (k := 1) Tf.a57 rfl hB1 (by first | simp | assumption) rfl List.not_mem_nil rfl ⟨_, rfl, rfl⟩ ?_
    refine L.len rfl Try.underlying57 rfl (by assumption) rfl rfl ⟨_, rfl, rfl⟩ ?_
    refine L.gtr rfl rfl rfl rfl ⟨_, rfl, rfl⟩ ?_
    refine L.pickF rfl rfl rfl rfl trivial ?_
    exact L.nil fun a w hh => hh.cutK 4 rfl
  · refine L.pass rfl rfl rfl ⟨_, _, rfl, rfl, rfl⟩ ?_
    refine L.pass rfl rfl rfl ⟨_, _, rfl, rfl, rfl⟩ ?_
    refine L.pass rfl rfl rfl ⟨_, _, rfl, rfl, rfl⟩ ?_
    refine L.pass rfl rfl rfl ⟨_, _, rfl, rfl, rfl⟩ ?_
    refine L.pickT rfl rfl rfl rfl trivial ?_
    exact L.nil fun a w hh => hh.cutK 4 rfl
  refine L.assign rfl rfl rfl trivial ?_
  refine L.nil ?_
  refine C.next ?_
  refine C.cond rfl (fun hc1 => ?_) (fun hc1 => ?_)
  · refine C.seq ?_
    refine C.region [(false,0)] rfl ?_
    refine L.assign rfl rfl rfl trivial ?_
    refine L.nil ?_
    refine C.next ?_
    refine C.ret ?_
    refine C.blockRet ?_
    refine C.thenRet ?_
    exact leave (vs := [_]) rfl rfl rfl ⟨rfl, trivial⟩ (fun D hD => by show Value.int _ _ = _; rw [fault_limit hc1])
  · refine C.seq ?_
    refine C.region [(false,0),(false,1),(false,2),(false,3),(false,4),(false,5),(false,6),(false,7),(false,8),(false,9),(false,10),(false,11),(false,12),(false,13),(false,14),(false,15),(false,16),(false,17),(false,18),(false,19),(false,20),(false,21),(false,22),(false,23),(false,24),(false,25),(false,26),(false,27),(false,28),(false,29)] rfl ?_
    refine L.fieldAddr rfl Tf.f59_0 rfl rfl trivial ?_
    refine L.loadD1 rfl (k := 0) Tf.a33 rfl hB1 (by first | simp | assumption) rfl List.not_mem_nil rfl trivial ?_
    refine L.len rfl Try.underlying33 rfl (by assumption) rfl rfl trivial ?_
    refine L.eql rfl rfl rfl rfl trivial ?_
    refine L.move rfl rfl rfl trivial ?_
    refine' L.or [(false,5),(false,6),(false,7),(false,8),(false,9)] [(false,10),(false,11),(false,12),(false,13),(false,14),(false,15),(false,16),(false,17),(false,18),(false,19),(false,20),(false,21),(false,22),(false,23),(false,24),(false,25),(false,26),(false,27),(false,28),(false,29)] (s := 22) (p := 27) rfl rfl (fun hg2 => ?_) (fun hg2 => ?_) ?_
    rotate_left
    · refine L.fieldAddr rfl Tf.f59_2 rfl rfl ⟨_, rfl, rfl⟩ ?_
      refine L.loadD1 rfl (k := 2) Tf.a3 rfl hB1 (by first | simp | assumption) rfl List.not_mem_nil rfl ⟨_, rfl, rfl⟩ ?_
      refine L.callV rfl rfl rfl (fun D1 hD1 => within_ok _ _ _ _) rfl ⟨_, rfl, rfl⟩ ?_
      refine L.not rfl rfl rfl ⟨_, rfl, rfl⟩ ?_
      refine L.pickF rfl rfl rfl rfl trivial ?_
      exact L.nil fun a w hh => hh.cutK 4 rfl
    · refine L.pass rfl rfl rfl ⟨_, _, rfl, rfl, rfl⟩ ?_
      refine L.pass rfl rfl rfl ⟨_, _, rfl, rfl, rfl⟩ ?_
      refine L.pass rfl rfl rfl ⟨_, _, rfl, rfl, rfl⟩ ?_
      refine L.pass rfl rfl rfl ⟨_, _, rfl, rfl, rfl⟩ ?_
      refine L.pickT rfl rfl rfl rfl trivial ?_
      exact L.nil fun a w hh => hh.cutK 4 rfl
    refine L.move rfl rfl rfl trivial ?_
    refine' L.or [(false,11),(false,12),(false,13),(false,14),(false,15)] [(false,16),(false,17),(false,18),(false,19),(false,20),(false,21),(false,22),(false,23),(false,24),(false,25),(false,26),(false,27),(false,28),(false,29)] (s := 28) (p := 33) rfl rfl (fun hg3 => ?_) (fun hg3 => ?_) ?_
    rotate_left
    · refine L.fieldAddr rfl Tf.f59_3 rfl rfl ⟨_, rfl, rfl⟩ ?_
      refine L.loadD1 rfl (k := 3) Tf.a3 rfl hB1 (by first | simp | assumption) rfl List.not_mem_nil rfl ⟨_, rfl, rfl⟩ ?_
      refine L.callV rfl rfl rfl (fun D2 hD2 => within_ok _ _ _ _) rfl ⟨_, rfl, rfl⟩ ?_
      refine L.not rfl rfl rfl ⟨_, rfl, rfl⟩ ?_
      refine L.pickF rfl rfl rfl rfl trivial ?_
      exact L.nil fun a w hh => hh.cutK 4 rfl
    · refine L.pass rfl rfl rfl ⟨_, _, rfl, rfl, rfl⟩ ?_
      refine L.pass rfl rfl rfl ⟨_, _, rfl, rfl, rfl⟩ ?_
      refine L.pass rfl rfl rfl ⟨_, _, rfl, rfl, rfl⟩ ?_
      refine L.pass rfl rfl rfl ⟨_, _, rfl, rfl, rfl⟩ ?_
      refine L.pickT rfl rfl rfl rfl trivial ?_
      exact L.nil fun a w hh => hh.cutK 4 rfl
    refine L.move rfl rfl rfl trivial ?_
    refine' L.or [(false,17),(false,18),(false,19),(false,20),(false,21)] [(false,22),(false,23),(false,24),(false,25),(false,26),(false,27),(false,28),(false,29)] (s := 34) (p := 39) rfl rfl (fun hg4 => ?_) (fun hg4 => ?_) ?_
    rotate_left
    · refine L.fieldAddr rfl Tf.f59_0 rfl rfl ⟨_, rfl, rfl⟩ ?_
      refine L.loadD1 rfl (k := 0) Tf.a33 rfl hB1 (by first | simp | assumption) rfl List.not_mem_nil rfl ⟨_, rfl, rfl⟩ ?_
      refine L.callV rfl rfl rfl (fun D3 hD3 => allI_ok _ _ _ placeOk _ (Sl.at RI.up hD3 (by assumption) (by simp)) (.of fun x D2 => place_ok x D2) rfl) rfl ⟨_, rfl, rfl⟩ ?_
      refine L.not rfl rfl rfl ⟨_, rfl, rfl⟩ ?_
      refine L.pickF rfl rfl rfl rfl trivial ?_
      exact L.nil fun a w hh => hh.cutK 4 rfl
    · refine L.pass rfl rfl rfl ⟨_, _, rfl, rfl, rfl⟩ ?_
      refine L.pass rfl rfl rfl ⟨_, _, rfl, rfl, rfl⟩ ?_
      refine L.pass rfl rfl rfl ⟨_, _, rfl, rfl, rfl⟩ ?_
      refine L.pass rfl rfl rfl ⟨_, _, rfl, rfl, rfl⟩ ?_
      refine L.pickT rfl rfl rfl rfl trivial ?_
      exact L.nil fun a w hh => hh.cutK 4 rfl
    refine L.move rfl rfl rfl trivial ?_
    refine' L.or [(false,23),(false,24),(false,25),(false,26),(false,27),(false,28)] [(false,29)] (s := 40) (p := 46) rfl rfl (fun hg5 => ?_) (fun hg5 => ?_) ?_
    rotate_left
    · refine L.fieldAddr rfl Tf.f59_1 rfl rfl ⟨_, rfl, rfl⟩ ?_
      refine L.loadD1 rfl (k := 1) Tf.a57 rfl hB1 (by first | simp | assumption) rfl List.not_mem_nil rfl ⟨_, rfl, rfl⟩ ?_
      refine L.move rfl rfl rfl ⟨_, rfl, rfl⟩ ?_
      refine L.callV rfl rfl rfl (fun D4 hD4 => allC_ok _ _ _ (cntOk r.places.length) _ (Sl.at RC.up hD4 (by assumption) (by simp)) ⟨_, [_], [], rfl, fun c D2 hl => count_ok _ r c D2 ⟨_, _, rfl, hp.up RI.up ((hD4 _ (by simp)).trans hl), hc.up RC.up ((hD4 _ (by simp)).trans hl)⟩⟩ rfl) rfl ⟨_, rfl, rfl⟩ ?_
      refine L.not rfl rfl rfl ⟨_, rfl, rfl⟩ ?_
      refine L.pickF rfl rfl rfl rfl trivial ?_
      exact L.nil fun a w hh => hh.cutK 5 rfl
    · refine L.pass rfl rfl rfl ⟨_, _, rfl, rfl, rfl⟩ ?_
      refine L.pass rfl rfl rfl ⟨_, _, rfl, rfl, rfl⟩ ?_
      refine L.pass rfl rfl rfl ⟨_, _, rfl, rfl, rfl⟩ ?_
      refine L.pass rfl rfl rfl ⟨_, _, rfl, rfl, rfl⟩ ?_
      refine L.pass rfl rfl rfl ⟨_, _, rfl, rfl, rfl⟩ ?_
      refine L.pickT rfl rfl rfl rfl trivial ?_
      exact L.nil fun a w hh => hh.cutK 5 rfl
    refine L.assign rfl rfl rfl trivial ?_
    refine L.nil ?_
    refine C.next ?_
    refine C.cond rfl (fun hc2 => ?_) (fun hc2 => ?_)
    · refine C.seq ?_
      refine C.region [(false,0)] rfl ?_
      refine L.assign rfl rfl rfl trivial ?_
      refine L.nil ?_
      refine C.next ?_
      refine C.ret ?_
      refine C.blockRet ?_
      refine C.thenRet ?_
      exact leave (vs := [_]) rfl rfl rfl ⟨rfl, trivial⟩ (fun D hD => by show Value.int _ _ = _; rw [fault_arg hc1 hc2])
    · refine C.skip ?_
      refine C.blockEnd ?_
      refine C.next ?_
      refine C.seq ?_
      refine C.region [(false,0)] rfl ?_
      refine L.assign rfl rfl rfl trivial ?_
      refine L.nil ?_
      refine C.next ?_
      refine C.ret ?_
      exact leave (vs := [_]) rfl rfl rfl ⟨rfl, trivial⟩ (fun D hD => by show Value.int _ _ = _; rw [fault_ok hc1 hc2])
theorem sums_ok (c : List Int) (h9 : c.length = 9) (hb : ∀ x ∈ c, 0 ≤ x ∧ x ≤ 1) (D : Data) : Fn Try.prog 55 #[.agg (ints c).toArray] D (fun _ v => v = .agg (ints (sumsOf c)).toArray) := by
  refine enter 20 Try.func55 rfl rfl rfl rfl fun h0 => ?_
  refine C.seq ?_
  refine C.region [(false,0),(false,1)] rfl ?_
  refine L.boxD rfl rfl rfl rfl trivial (fun q1 E1 hE1 hB1 => ?_)
  refine L.alloc rfl Tf.z129 rfl rfl trivial (fun q2 => ?_)
  refine L.nil ?_
  refine C.next ?_
  refine C.seq ?_
  refine C.seq ?_
  refine C.region [(false,0),(false,1)] rfl ?_
  refine L.loadDW rfl Tf.a125 rfl hB1 (by first | simp | assumption) (by first | exact Tf.s125 | (simp only [ints_length, *]; exact Tf.s125)) List.not_mem_nil rfl trivial ?_
  refine L.move rfl rfl rfl trivial ?_
  refine L.nil ?_
  refine C.next ?_
  refine C.block ?_
  refine C.loopR (γ := Nat) (fun k => 9 - k) (fun k => k ≤ 9) (fun k => [(6, .int .i64 (k : Int))]) [(5, _), (2, _)] (fun k => [(q2, .cells (ints (preSums c k)).toArray 129 (0, 0))]) (fun k => [E1, D]) 0 (by omega) ⟨(by first | rfl | (show some (Value.int _ _) = some (Value.int _ _); congr 2; omega)), trivial⟩ ⟨rfl, rfl, trivial⟩ (List.Sublist.refl _) (ds_same) ?_
  rintro k h1
  refine C.seq ?_
  refine C.region [(false,0)] rfl ?_
  refine L.lss rfl rfl rfl rfl trivial ?_
  refine L.nil ?_
  refine C.next ?_
  refine C.seq ?_
  refine C.condD rfl (fun hc1 => ?_) (fun hc1 => ?_)
  · have hk : k < 9 := by omega
    obtain ⟨x, hx⟩ : ∃ x, c[k]? = some x := ⟨_, List.getElem?_eq_getElem (by omega)⟩
    have hx1 := hb x (List.mem_of_getElem? hx)
    have hx2 := sumFrom_bound hb 0 k
    have hg1 := preSums_get c k (by omega)
    have hlen := preSums_length c k
    refine C.skip ?_
    refine C.next ?_
    refine C.seq ?_
    refine C.block ?_
    refine C.seq ?_
    refine C.region [(false,0),(false,1),(false,2),(false,3)] rfl ?_
    refine L.move rfl rfl rfl trivial ?_
    refine L.indexV rfl Try.underlying125 Tf.a3 Tf.s3 rfl rfl (by omega) (by omega) (by assumption) rfl trivial ?_
    refine L.assign rfl rfl rfl trivial ?_
    refine L.assign rfl rfl rfl trivial ?_
    refine L.nil ?_
    refine C.next ?_
    refine C.region [(false,0),(false,1),(false,2),(false,3),(false,4),(false,5),(false,6),(false,7),(false,8)] rfl ?_
    refine L.move rfl rfl rfl trivial ?_
    refine L.add rfl rfl rfl (by simp only [inK]; omega) rfl trivial ?_
    refine L.move rfl rfl rfl trivial ?_
    refine L.indexB rfl Try.underlying129 Tf.s3 rfl rfl (by omega) (by omega) rfl trivial ?_
    refine L.loadB1 rfl Tf.a3 rfl (List.Mem.head _) (ints_get (by assumption)) List.not_mem_nil rfl trivial ?_
    refine L.move rfl rfl rfl trivial ?_
    refine L.add rfl rfl rfl (by simp only [inK]; omega) rfl trivial ?_
    refine L.indexB rfl Try.underlying129 Tf.s3 rfl rfl (by omega) (by omega) rfl trivial ?_
    refine L.storeI rfl Tf.s3 rfl rfl (Has.head) (by simp only [*]; omega) trivial ?_
    refine L.nil ?_
    refine C.blockEnd ?_
    refine C.next ?_
    refine C.region [(false,0),(false,1)] rfl ?_
    refine L.add rfl rfl rfl (by simp only [inK]; omega) rfl trivial ?_
    refine L.move rfl rfl rfl trivial ?_
    refine L.nil ?_
    rw [← sumFrom_succ (by simpa using hx), show ((k : Int) + 1).toNat = k + 1 by omega, preSums_set]
    exact C.againR 16 (k + 1) (by omega) (by omega) ⟨(by first | rfl | (show some (Value.int _ _) = some (Value.int _ _); congr 2; omega)), trivial⟩ rfl rfl (List.Sublist.refl _) (ds_same)
  · obtain rfl : k = 9 := by omega
    rw [preSums_nine]
    have hlen := sumsOf_length c
    refine C.exit ?_
    refine C.thenExit ?_
    refine C.thenExit ?_
    refine C.blockExit ?_
    refine C.next ?_
    refine C.seq ?_
    refine C.region [(false,0),(false,1)] rfl ?_
    refine L.loadBW rfl Tf.a129 rfl (List.Mem.head _) (by first | exact Tf.s129 | (simp only [ints_length, *]; exact Tf.s129)) List.not_mem_nil rfl trivial ?_
    refine L.storeW rfl rfl rfl rfl Tf.s129 (by first | rfl | (simp only [ints_length, *]; done) | (simp only [ints_length, *]; rfl) | (simp only [ints_length, *]; omega)) (by first | rfl | (simp only [ints_length, *]; done) | (simp only [ints_length, *]; rfl) | (simp only [ints_length, *]; omega)) (Has.head) (ints_cell1 _) trivial ?_
    refine L.nil ?_
    refine C.next ?_
    refine C.ret ?_
    exact leave (vs := [_]) rfl rfl rfl ⟨⟨_, _, _, rfl, (List.Mem.head _), Or.inr ⟨Tf.a129, (by first | exact Tf.s129 | (simp only [List.size_toArray, ints_length, *]; exact Tf.s129)), rfl⟩⟩, trivial⟩ (fun D hD => rfl)
theorem is_ok (rv tv : Value) (r : RowD) (t : List Int) (D : Data) (hr : RowIs D rv r) (ht : Sl D RI 1 tv t) : Fn Try.prog 59 #[rv, tv] D (fun _ v => v = .bool (isTruth r t)) := by
  obtain ⟨pv, cv, rfl, hp, hc⟩ := hr
  have hl := hp.len
  refine enter 37 Try.func59 rfl rfl rfl rfl fun h0 => ?_
  refine C.seq ?_
  refine C.region [(false,0),(false,1)] rfl ?_
  refine L.boxD rfl rfl rfl rfl trivial (fun q1 E1 hE1 hB1 => ?_)
  refine L.assign rfl rfl rfl trivial ?_
  refine L.nil ?_
  refine C.next ?_
  refine C.seq ?_
  refine C.seq ?_
  refine C.region [(false,0),(false,1),(false,2),(false,3),(false,4),(false,5),(false,6),(false,7),(false,8),(false,9),(false,10)] rfl ?_
  refine L.move rfl rfl rfl trivial ?_
  refine L.len rfl Try.underlying33 rfl ht rfl rfl trivial ?_
  refine L.fieldAddr rfl Tf.f59_0 rfl rfl trivial ?_
  refine L.loadD1 rfl (k := 0) Tf.a33 rfl hB1 (by first | simp | assumption) rfl List.not_mem_nil rfl trivial ?_
  refine L.len rfl Try.underlying33 rfl hp rfl rfl trivial ?_
  refine L.neq rfl rfl rfl rfl trivial ?_
  refine L.move rfl rfl rfl trivial ?_
  refine' L.or [(false,7),(false,8),(false,9),(false,10)] [] (s := 13) (p := 17) rfl rfl (fun hg1 => ?_) (fun hg1 => ?_) ?_
  rotate_left
  · refine L.move rfl rfl rfl ⟨_, rfl, rfl⟩ ?_
    refine L.callV rfl rfl rfl (fun D1 hD1 => allI_ok _ _ _ (fun x => inB x 0 1) _ (Sl.at RI.up hD1 ht (by simp)) (.of fun x D2 => chair_ok x D2) rfl) rfl ⟨_, rfl, rfl⟩ ?_
    refine L.not rfl rfl rfl ⟨_, rfl, rfl⟩ ?_
    refine L.pickF rfl rfl rfl rfl trivial ?_
    exact L.nil fun a w hh => hh.cutK 3 rfl
  · refine L.pass rfl rfl rfl ⟨_, _, rfl, rfl, rfl⟩ ?_
    refine L.pass rfl rfl rfl ⟨_, _, rfl, rfl, rfl⟩ ?_
    refine L.pass rfl rfl rfl ⟨_, _, rfl, rfl, rfl⟩ ?_
    refine L.pickT rfl rfl rfl rfl trivial ?_
    exact L.nil fun a w hh => hh.cutK 3 rfl
  refine L.nil ?_
  refine C.next ?_
  refine C.cond rfl (fun hc1 => ?_) (fun hc1 => ?_)
  · refine C.seq ?_
    refine C.region [(false,0)] rfl ?_
    refine L.assign rfl rfl rfl trivial ?_
    refine L.nil ?_
    refine C.next ?_
    refine C.ret ?_
    refine C.thenRet ?_
    exact leave (vs := [_]) rfl rfl rfl ⟨rfl, trivial⟩ (fun D hD => by show Value.bool _ = _; rw [is_no1 hc1])
  · have hlen : t.length = r.places.length := is_len hc1
    refine C.skip ?_
    refine C.next ?_
    refine C.seq ?_
    refine C.seq ?_
    refine C.region [(false,0),(false,1),(false,2),(false,3)] rfl ?_
    refine L.fieldAddr rfl Tf.f59_0 rfl rfl trivial ?_
    refine L.loadD1 rfl (k := 0) Tf.a33 rfl hB1 (by first | simp | assumption) rfl List.not_mem_nil rfl trivial ?_
    refine L.len rfl Try.underlying33 rfl hp rfl rfl trivial ?_
    refine L.move rfl rfl rfl trivial ?_
    refine L.nil ?_
    refine C.next ?_
    refine C.block ?_
    refine C.loopC (γ := Nat) (fun k => r.places.length - k) (fun k => k ≤ r.places.length ∧ ((t.zip r.places).take k).all (fun x => x.2 == 2 || x.1 == x.2) = true) (fun k => [(21, .int .i64 (k : Int))]) [(20, _), (19, _), (4, _), (1, _)] (fun k => [E1, D]) 0 (by simp) ⟨(by first | rfl | (show some (Value.int _ _) = some (Value.int _ _); congr 2; omega)), trivial⟩ ⟨rfl, rfl, rfl, rfl, trivial⟩ (ds_same) ?_
    rintro k ⟨h1, h2⟩
    refine C.seq ?_
    refine C.region [(false,0)] rfl ?_
    refine L.lss rfl rfl rfl rfl trivial ?_
    refine L.nil ?_
    refine C.next ?_
    refine C.seq ?_
    refine C.condD rfl (fun hc2 => ?_) (fun hc2 => ?_)
    · have hk : k < r.places.length := by omega
      obtain ⟨x, hx⟩ : ∃ x, r.places[k]? = some x := ⟨_, List.getElem?_eq_getElem hk⟩
      obtain ⟨y, hy⟩ : ∃ y, t[k]? = some y := ⟨_, List.getElem?_eq_getElem (by omega)⟩
      refine C.skip ?_
      refine C.next ?_
      refine C.seq ?_
      refine C.block ?_
      refine C.seq ?_
      refine C.region [(false,0),(false,1),(false,2),(false,3),(false,4)] rfl ?_
      refine L.move rfl rfl rfl trivial ?_
      refine L.indexS rfl Try.underlying33 Tf.s3 rfl hp rfl (by omega) hx rfl trivial (fun b1 o1 cs1 hr1 hcl1 hA1 => ?_)
      obtain rfl : cs1 = [.int .i64 _] := hr1
      refine L.loadD1 rfl (k := 0) Tf.a3 rfl hA1 (by first | simp | assumption) rfl List.not_mem_nil rfl trivial ?_
      refine L.assign rfl rfl rfl trivial ?_
      refine L.assign rfl rfl rfl trivial ?_
      refine L.nil ?_
      refine C.next ?_
      refine C.seq ?_
      refine C.region [(false,0),(false,1),(false,2),(false,3),(false,4),(false,5),(false,6),(false,7),(false,8),(false,9)] rfl ?_
      refine L.move rfl rfl rfl trivial ?_
      refine L.neq rfl rfl rfl rfl trivial ?_
      refine L.move rfl rfl rfl trivial ?_
      refine' L.and [(false,3),(false,4),(false,5),(false,6),(false,7),(false,8),(false,9)] [] (s := 28) (p := 35) rfl rfl (fun hg2 => ?_) (fun hg2 => ?_) ?_
      rotate_left
      · refine L.move rfl rfl rfl ⟨_, rfl, rfl⟩ ?_
        refine L.move rfl rfl rfl ⟨_, rfl, rfl⟩ ?_
        refine L.indexS rfl Try.underlying33 Tf.s3 rfl ht rfl (by omega) hy rfl ⟨_, rfl, rfl⟩ (fun b2 o2 cs2 hr2 hcl2 hA2 => ?_)
        obtain rfl : cs2 = [.int .i64 _] := hr2
        refine L.loadD1 rfl (k := 0) Tf.a3 rfl hA2 (by first | simp | assumption) rfl List.not_mem_nil rfl ⟨_, rfl, rfl⟩ ?_
        refine L.move rfl rfl rfl ⟨_, rfl, rfl⟩ ?_
        refine L.neq rfl rfl rfl rfl ⟨_, rfl, rfl⟩ ?_
        refine L.pickT rfl rfl rfl rfl trivial ?_
        exact L.nil fun a w hh => hh.cutK 6 rfl
      · refine L.pass rfl rfl rfl ⟨_, _, rfl, rfl, rfl⟩ ?_
        refine L.pass rfl rfl rfl ⟨_, _, rfl, rfl, rfl⟩ ?_
        refine L.pass rfl rfl rfl ⟨_, _, rfl, rfl, rfl⟩ ?_
        refine L.pass rfl rfl rfl ⟨_, _, rfl, rfl, rfl⟩ ?_
        refine L.pass rfl rfl rfl ⟨_, _, rfl, rfl, rfl⟩ ?_
        refine L.pass rfl rfl rfl ⟨_, _, rfl, rfl, rfl⟩ ?_
        refine L.pickF rfl rfl rfl rfl trivial ?_
        exact L.nil fun a w hh => hh.cutK 6 rfl
      refine L.nil ?_
      refine C.next ?_
      refine C.cond rfl (fun hc3 => ?_) (fun hc3 => ?_)
      · refine C.seq ?_
        refine C.region [(false,0)] rfl ?_
        refine L.assign rfl rfl rfl trivial ?_
        refine L.nil ?_
        refine C.next ?_
        refine C.ret ?_
        refine C.blockRet ?_
        refine C.thenRet ?_
        refine C.thenRet ?_
        refine C.blockRet ?_
        refine C.thenRet ?_
        exact leave (vs := [_]) rfl rfl rfl ⟨rfl, trivial⟩ (fun D hD => by show Value.bool _ = _; rw [is_no2 hlen hx hy hc3])
      · refine C.skip ?_
        refine C.blockEnd ?_
        refine C.next ?_
        refine C.region [(false,0),(false,1)] rfl ?_
        refine L.add rfl rfl rfl (by simp only [inK]; omega) rfl trivial ?_
        refine L.move rfl rfl rfl trivial ?_
        refine L.nil ?_
        exact C.againR 13 (k + 1) ⟨by omega, is_step hx hy h2 hc3⟩ (by omega) ⟨(by first | rfl | (show some (Value.int _ _) = some (Value.int _ _); congr 2; omega)), trivial⟩ rfl rfl (List.Sublist.refl _) (ds_same)
    · refine C.exit ?_
      refine C.thenExit ?_
      refine C.thenExit ?_
      refine C.blockExit ?_
      refine C.next ?_
      refine C.seq ?_
      refine C.region [(false,0)] rfl ?_
      refine L.assign rfl rfl rfl trivial ?_
      refine L.nil ?_
      refine C.next ?_
      refine C.ret ?_
      exact leave (vs := [_]) rfl rfl rfl ⟨rfl, trivial⟩ (fun D hD => by show Value.bool _ = _; rw [is_yes hlen hc1 (by omega) h2])
theorem off_ok (rv : Value) (r : RowD) (c : Cnt) (t : List Int) (D : Data) (hr : RowIs D rv r) (hok : RowOk r) (ht : TruthOk r t) (hcm : c ∈ r.counts) :
    Fn Try.prog 92 #[rv, cV c, .agg (ints (sumsOf t)).toArray] D (fun _ v => v = .int .i64 (errOf t c)) := by
  obtain ⟨pv, cv, rfl, hp, hc⟩ := hr
  obtain ⟨h1, h2, h3, h4⟩ := hok.cnt c hcm
  have h9 := hok.len9
  have hab := about_bound ht h1 h2 h9
  have hs1 := about_sums ht h1 h2
  have hg1 := sumsOf_get t c.many.toNat (by omega)
  have hg2 := sumsOf_get t r.places.length (by omega)
  have hg3 := sumsOf_get t (r.places.length - c.many.toNat) (by omega)
  have hg4 : (sumsOf t)[(↑r.places.length - c.many).toNat]? = some (sumFrom t 0 (r.places.length - c.many.toNat)) := by rw [show (↑r.places.length - c.many).toNat = r.places.length - c.many.toNat by omega]; exact hg3
  rw [ht.1] at hs1
  have hb1 := sumFrom_bound ht.2 0 r.places.length
  have hb2 := sumFrom_bound ht.2 0 (r.places.length - c.many.toNat)
  have hb3 := sumFrom_bound ht.2 0 c.many.toNat
  refine enter 37 Try.func92 rfl rfl rfl rfl fun h0 => ?_
  refine C.seq ?_
  refine C.region [(false,0),(false,1),(false,2),(false,3)] rfl ?_
  refine L.boxD rfl rfl rfl rfl trivial (fun q1 E1 hE1 hB1 => ?_)
  refine L.boxD rfl rfl rfl rfl trivial (fun q2 E2 hE2 hB2 => ?_)
  refine L.boxD rfl rfl rfl rfl trivial (fun q3 E3 hE3 hB3 => ?_)
  refine L.assign rfl rfl rfl trivial ?_
  refine L.nil ?_
  refine C.next ?_
  refine C.seq ?_
  refine C.region [(false,0),(false,1),(false,2),(false,3),(false,4)] rfl ?_
  refine L.fieldAddr rfl Tf.f66_1 rfl rfl trivial ?_
  refine L.loadD1 rfl (k := 1) Tf.a3 rfl hB2 (by first | simp | assumption) rfl List.not_mem_nil rfl trivial ?_
  refine L.indexB rfl Try.underlying129 Tf.s3 rfl rfl (by omega) (by omega) rfl trivial ?_
  refine L.loadDI rfl Tf.a3 rfl hB3 (by simp) (ints_get hg1) List.not_mem_nil rfl trivial ?_
  refine L.assign rfl rfl rfl trivial ?_
  refine L.nil ?_
  refine C.next ?_
  refine C.seq ?_
  refine C.seq ?_
  refine C.region [(false,0),(false,1),(false,2),(false,3)] rfl ?_
  refine L.fieldAddr rfl Tf.f59_0 rfl rfl trivial ?_
  refine L.loadD1 rfl (k := 0) Tf.a33 rfl hB1 (by first | simp | assumption) rfl List.not_mem_nil rfl trivial ?_
  refine L.len rfl Try.underlying33 rfl (by assumption) rfl rfl trivial ?_
  refine L.assign rfl rfl rfl trivial ?_
  refine L.nil ?_
  refine C.next ?_
  refine C.seq ?_
  refine C.region [(false,0),(false,1)] rfl ?_
  refine L.fieldAddr rfl Tf.f66_0 rfl rfl trivial ?_
  refine L.loadD1 rfl (k := 0) Tf.a4 rfl hB2 (by first | simp | assumption) rfl List.not_mem_nil rfl trivial ?_
  refine L.nil ?_
  refine C.next ?_
  refine C.cond rfl (fun hc1 => ?_) (fun hc1 => ?_)
  · rw [if_pos hc1] at hs1
    refine C.draw [] 5 [0,1,2,3,4,5,6,7,8,9,10] [false,false,false,true,true,true,true,true,true,false,false] [(false,0),(false,1),(false,2),(true,3),(true,4),(true,5),(true,6),(true,7),(true,8),(false,9),(false,10)] Tf.follows (fun _ _ _ h => np_body (P := Try.prog) (fn := Try.f92) _ _ _ h) (by kernel_rfl) rfl ?_
    refine L.move rfl rfl rfl trivial ?_
    refine L.indexB rfl Try.underlying129 Tf.s3 rfl rfl (by omega) (by omega) rfl trivial ?_
    refine L.loadDI rfl Tf.a3 rfl hB3 (by simp) (ints_get hg2) List.not_mem_nil rfl trivial ?_
    refine L.move rfl rfl rfl trivial ?_
    refine L.fieldAddr rfl Tf.f66_1 rfl rfl trivial ?_
    refine L.loadD1 rfl (k := 1) Tf.a3 rfl hB2 (by first | simp | assumption) rfl List.not_mem_nil rfl trivial ?_
    refine L.sub rfl rfl rfl (by simp only [inK]; omega) rfl trivial ?_
    refine L.indexB rfl Try.underlying129 Tf.s3 rfl rfl (by omega) (by omega) rfl trivial ?_
    refine L.loadDI rfl Tf.a3 rfl hB3 (by simp) (ints_get hg4) List.not_mem_nil rfl trivial ?_
    refine L.sub rfl rfl rfl (by simp only [inK]; omega) rfl trivial ?_
    refine L.assign rfl rfl rfl trivial ?_
    refine L.nil ?_
    refine C.next ?_
    refine C.seq ?_
    refine C.region [(false,0),(false,1),(false,2),(false,3),(false,4),(false,5),(false,6),(false,7),(false,8),(false,9)] rfl ?_
    refine L.move rfl rfl rfl trivial ?_
    refine L.fieldAddr rfl Tf.f66_2 rfl rfl trivial ?_
    refine L.loadD1 rfl (k := 2) Tf.a3 rfl hB2 (by first | simp | assumption) rfl List.not_mem_nil rfl trivial ?_
    refine L.sub rfl rfl rfl (by simp only [inK]; omega) rfl trivial ?_
    refine L.fieldAddr rfl Tf.f66_2 rfl rfl trivial ?_
    refine L.loadD1 rfl (k := 2) Tf.a3 rfl hB2 (by first | simp | assumption) rfl List.not_mem_nil rfl trivial ?_
    refine L.move rfl rfl rfl trivial ?_
    refine L.sub rfl rfl rfl (by simp only [inK]; omega) rfl trivial ?_
    refine L.max2 rfl rfl rfl rfl trivial ?_
    refine L.assign rfl rfl rfl trivial ?_
    refine L.nil ?_
    refine C.next ?_
    refine C.ret ?_
    exact leave (vs := [_]) rfl rfl rfl ⟨rfl, trivial⟩ (fun D hD => by show Value.int _ _ = _; rw [← hs1]; rfl)
  · rw [if_neg (by simp [hc1])] at hs1
    refine C.skip ?_
    refine C.next ?_
    refine C.seq ?_
    refine C.region [(false,0),(false,1),(false,2),(false,3),(false,4),(false,5),(false,6),(false,7),(false,8),(false,9)] rfl ?_
    refine L.move rfl rfl rfl trivial ?_
    refine L.fieldAddr rfl Tf.f66_2 rfl rfl trivial ?_
    refine L.loadD1 rfl (k := 2) Tf.a3 rfl hB2 (by first | simp | assumption) rfl List.not_mem_nil rfl trivial ?_
    refine L.sub rfl rfl rfl (by simp only [inK]; omega) rfl trivial ?_
    refine L.fieldAddr rfl Tf.f66_2 rfl rfl trivial ?_
    refine L.loadD1 rfl (k := 2) Tf.a3 rfl hB2 (by first | simp | assumption) rfl List.not_mem_nil rfl trivial ?_
    refine L.move rfl rfl rfl trivial ?_
    refine L.sub rfl rfl rfl (by simp only [inK]; omega) rfl trivial ?_
    refine L.max2 rfl rfl rfl rfl trivial ?_
    refine L.assign rfl rfl rfl trivial ?_
    refine L.nil ?_
    refine C.next ?_
    refine C.ret ?_
    exact leave (vs := [_]) rfl rfl rfl ⟨rfl, trivial⟩ (fun D hD => by show Value.int _ _ = _; rw [← hs1]; rfl)
theorem errors_ok (rv : Value) (r : RowD) (t : List Int) (D : Data) (hr : RowIs D rv r) (hok : RowOk r) (ht : TruthOk r t) :
    Fn Try.prog 79 #[rv, .agg (ints (sumsOf t)).toArray] D (fun D' v => Sl D' RI 1 v (r.counts.map (errOf t))) := by
  obtain ⟨pv, cv, rfl, hp, hc⟩ := hr
  have h6 := hok.cnt6
  have hsl := sumsOf_length t
  refine enter 23 Try.func79 rfl rfl rfl rfl fun h0 => ?_
  refine C.seq ?_
  refine C.region [(false,0),(false,1),(false,2)] rfl ?_
  refine L.boxD rfl rfl rfl rfl trivial (fun q1 E1 hE1 hB1 => ?_)
  refine L.boxD rfl rfl rfl rfl trivial (fun q2 E2 hE2 hB2 => ?_)
  refine L.assign rfl rfl rfl trivial ?_
  refine L.nil ?_
  refine C.next ?_
  refine C.seq ?_
  refine C.seq ?_
  refine C.region [(false,0),(false,1),(false,2),(false,3)] rfl ?_
  refine L.fieldAddr rfl Tf.f59_1 rfl rfl trivial ?_
  refine L.loadD1 rfl (k := 1) Tf.a57 rfl hB1 (by first | simp | assumption) rfl List.not_mem_nil rfl trivial ?_
  refine L.len rfl Try.underlying57 rfl (by assumption) rfl rfl trivial ?_
  refine L.move rfl rfl rfl trivial ?_
  refine L.nil ?_
  refine C.next ?_
  refine C.block ?_
  refine C.loopR (γ := Nat × Value × Boxes) (fun g => r.counts.length - g.1) (fun g => g.1 ≤ r.counts.length ∧ Acc 3 1 g.2.1 g.1 (ints ((r.counts.take g.1).map (errOf t))) g.2.2) (fun g => [(10, .int .i64 (g.1 : Int)), (4, g.2.1)]) [(9, _), (8, _), (3, _), (2, _)] (fun g => g.2.2 ++ []) (fun g => [E2, E1, D]) (0, .slice none 0 0, []) ⟨by simp, by simpa [ints] using Acc.nil⟩ ⟨(by first | rfl | (show some (Value.int _ _) = some (Value.int _ _); congr 2; omega)), (by first | rfl | (show some (Value.int _ _) = some (Value.int _ _); congr 2; omega)), trivial⟩ ⟨rfl, rfl, rfl, rfl, trivial⟩ (List.Sublist.refl _) (ds_same) ?_
  rintro ⟨k, v, ν⟩ ⟨h1, ha⟩
  refine C.seq ?_
  refine C.region [(false,0)] rfl ?_
  refine L.lss rfl rfl rfl rfl trivial ?_
  refine L.nil ?_
  refine C.next ?_
  refine C.seq ?_
  refine C.condD rfl (fun hc1 => ?_) (fun hc1 => ?_)
  · have hk : k < r.counts.length := by omega
    obtain ⟨x, hx⟩ : ∃ x, r.counts[k]? = some x := ⟨_, List.getElem?_eq_getElem hk⟩
    have hxm := List.mem_of_getElem? hx
    refine C.skip ?_
    refine C.next ?_
    refine C.seq ?_
    refine C.block ?_
    refine C.seq ?_
    refine C.region [(false,0),(false,1),(false,2),(false,3)] rfl ?_
    refine L.indexS rfl Try.underlying57 Tf.s66 rfl (by assumption) rfl (by omega) (by assumption) rfl trivial (fun b1 o1 cs1 hr1 hcl1 hA1 => ?_)
    obtain rfl : cs1 = [.bool _, .int .i64 _, .int .i64 _] := hr1
    refine L.loadDW rfl Tf.a66 rfl hA1 (by first | simp | assumption) Tf.s66 List.not_mem_nil rfl trivial ?_
    refine L.alloc rfl Tf.z66 rfl rfl trivial (fun q3 => ?_)
    refine L.storeW rfl rfl rfl rfl Tf.s66 (by first | rfl | (simp only [ints_length, *]; done) | (simp only [ints_length, *]; rfl) | (simp only [ints_length, *]; omega)) (by first | rfl | (simp only [ints_length, *]; done) | (simp only [ints_length, *]; rfl) | (simp only [ints_length, *]; omega)) (Has.head) (by first | exact ints_cell1 _ | simp [cell1]) trivial ?_
    refine L.nil ?_
    refine C.next ?_
    refine C.region [(false,0),(false,1),(false,2),(false,3),(false,4),(false,5),(false,6),(false,7)] rfl ?_
    refine L.move rfl rfl rfl trivial ?_
    refine L.loadDW rfl Tf.a59 rfl hB1 (by first | simp | assumption) Tf.s59 List.not_mem_nil rfl trivial ?_
    refine L.loadBW rfl Tf.a66 rfl (List.Mem.head _) Tf.s66 List.not_mem_nil rfl trivial ?_
    refine L.loadDW rfl Tf.a129 rfl hB2 (by first | simp | assumption) (by first | exact Tf.s129 | (simp only [ints_length, *]; exact Tf.s129)) List.not_mem_nil rfl trivial ?_
    refine L.callV rfl rfl rfl (fun D1 hD1 => off_ok _ r x t _ ⟨_, _, rfl, hp.up RI.up (hD1 _ (by simp)), hc.up RC.up (hD1 _ (by simp))⟩ hok ht hxm) rfl trivial ?_
    refine L.buildSlice rfl Try.underlying33 Tf.s3 Tf.z3 rfl rfl rfl rfl (.cons rfl rfl .nil) rfl trivial (fun b901 D901 hD901 hA901 => ?_)
    have hS901 := Sl.ofInts (l := [_]) (n := 1) (cap := 1) hA901 rfl (by omega) (by omega)
    refine L.append (A := [(_, _)]) (B := _) rfl Try.underlying33 rfl rfl Tf.s3 Tf.z3 rfl Tf.i3 rfl rfl rfl ha (Src.lit hA901) (by simp) rfl (by simp; omega) (by simp [cell1]) (by omega) (Or.inl rfl) rfl trivial (fun v1 ν1 ha1 => ?_)
    have ha2 : Acc 3 1 v1 (k + 1) (ints ((r.counts.take (k + 1)).map (errOf t))) ν1 := by rw [List.take_add_one, hx, Option.toList_some, List.map_append, ← ints_append]; exact ha1
    refine L.assign rfl rfl rfl trivial ?_
    refine L.nil ?_
    refine C.blockEnd ?_
    refine C.next ?_
    refine C.region [(false,0),(false,1)] rfl ?_
    refine L.add rfl rfl rfl (by simp only [inK]; omega) rfl trivial ?_
    refine L.move rfl rfl rfl trivial ?_
    refine L.nil ?_
    exact C.againR 16 (k + 1, v1, ν1) ⟨by simp only; omega, ha2⟩ (by simp only; omega) ⟨(by first | rfl | (show some (Value.int _ _) = some (Value.int _ _); congr 2; omega)), (by first | rfl | (show some (Value.int _ _) = some (Value.int _ _); congr 2; omega)), trivial⟩ rfl rfl (List.Sublist.cons _ (List.Sublist.refl _)) (fun D h => ⟨D, List.Mem.tail _ (h), Le.refl D⟩)
  · obtain rfl : k = r.counts.length := by omega
    rw [List.take_length] at ha
    refine C.exit ?_
    refine C.thenExit ?_
    refine C.thenExit ?_
    refine C.blockExit ?_
    refine C.next ?_
    refine C.seq ?_
    refine C.region [(false,0),(false,1)] rfl ?_
    refine L.move rfl rfl rfl trivial ?_
    refine L.assign rfl rfl rfl trivial ?_
    refine L.nil ?_
    refine C.next ?_
    refine C.ret ?_
    refine Q.freeze (A := []) (B := []) ha rfl (fun D2 hD2 hF => ?_)
    exact leave (vs := [_]) rfl rfl rfl ⟨rfl, trivial⟩ (fun D hD => (hF.ints (by simp) (by omega)).up RI.up (hD _ (by simp)))
theorem wrong_ok (rv : Value) (r : RowD) (t : List Int) (D : Data) (hr : RowIs D rv r) (hok : RowOk r) (ht : TruthOk r t) :
    Fn Try.prog 54 #[rv, .agg (ints (sumsOf t)).toArray] D (fun _ v => v = .tuple #[.int .i64 (if explains r t then (wrongs r t : Int) else 0), .bool (explains r t)]) := by
  obtain ⟨pv, cv, rfl, hp, hc⟩ := hr
  have h6 := hok.cnt6
  have hsl := sumsOf_length t
  refine enter 27 Try.func54 rfl rfl rfl rfl fun h0 => ?_
  refine C.seq ?_
  refine C.region [(false,0),(false,1),(false,2),(false,3)] rfl ?_
  refine L.boxD rfl rfl rfl rfl trivial (fun q1 E1 hE1 hB1 => ?_)
  refine L.boxD rfl rfl rfl rfl trivial (fun q2 E2 hE2 hB2 => ?_)
  refine L.assign rfl rfl rfl trivial ?_
  refine L.assign rfl rfl rfl trivial ?_
  refine L.nil ?_
  refine C.next ?_
  refine C.seq ?_
  refine C.seq ?_
  refine C.region [(false,0),(false,1),(false,2),(false,3),(false,4)] rfl ?_
  refine L.loadDW rfl Tf.a59 rfl hB1 (by first | simp | assumption) Tf.s59 List.not_mem_nil rfl trivial ?_
  refine L.loadDW rfl Tf.a129 rfl hB2 (by first | simp | assumption) (by first | exact Tf.s129 | (simp only [ints_length, *]; exact Tf.s129)) List.not_mem_nil rfl trivial ?_
  refine L.call rfl rfl rfl (fun D1 hD1 => errors_ok _ r t _ ⟨_, _, rfl, hp.up RI.up (hD1 _ (by simp)), hc.up RC.up (hD1 _ (by simp))⟩ hok ht) rfl trivial (fun v1 D1 hD1 hp1 => ?_)
  refine L.len rfl Try.underlying33 rfl hp1 rfl rfl trivial ?_
  refine L.move rfl rfl rfl trivial ?_
  refine L.nil ?_
  refine C.next ?_
  refine C.block ?_
  refine C.loopC (γ := Nat) (fun k => r.counts.length - k) (fun k => k ≤ r.counts.length ∧ (r.counts.take k).all (fun c => decide (errOf t c ≤ r.off)) = true) (fun k => [(12, .int .i64 (k : Int)), (4, .int .i64 (((r.counts.take k).filter fun c => decide (0 < errOf t c)).length : Int))]) [(11, _), (10, _), (5, _), (2, _)] (fun k => [D1, E2, E1, D]) 0 (by simp) ⟨(by first | rfl | (show some (Value.int _ _) = some (Value.int _ _); congr 2; omega)), (by first | rfl | (show some (Value.int _ _) = some (Value.int _ _); congr 2; omega)), trivial⟩ ⟨rfl, rfl, rfl, rfl, trivial⟩ (ds_same) ?_
  rintro k ⟨h1, h2⟩
  refine C.seq ?_
  refine C.region [(false,0)] rfl ?_
  refine L.lss rfl rfl rfl rfl trivial ?_
  refine L.nil ?_
  refine C.next ?_
  refine C.seq ?_
  refine C.condD rfl (fun hc1 => ?_) (fun hc1 => ?_)
  · simp only [List.length_map] at hc1
    have hk : k < r.counts.length := by omega
    obtain ⟨x, hx⟩ : ∃ x, r.counts[k]? = some x := ⟨_, List.getElem?_eq_getElem hk⟩
    have hxm := List.mem_of_getElem? hx
    have hx2 : (r.counts.map (errOf t))[k]? = some (errOf t x) := by rw [List.getElem?_map, hx]; rfl
    have hxb := errOf_bound hok ht hxm
    have hlf := List.length_filter_le (fun c => decide (0 < errOf t c)) (r.counts.take k)
    have hlt : (r.counts.take k).length ≤ k := List.length_take_le _ _
    refine C.skip ?_
    refine C.next ?_
    refine C.seq ?_
    refine C.block ?_
    refine C.seq ?_
    refine C.region [(false,0),(false,1),(false,2)] rfl ?_
    refine L.indexS rfl Try.underlying33 Tf.s3 rfl hp1 rfl (by omega) hx2 rfl trivial (fun b1 o1 cs1 hr1 hcl1 hA1 => ?_)
    obtain rfl : cs1 = [.int .i64 _] := hr1
    refine L.loadD1 rfl (k := 0) Tf.a3 rfl hA1 (by first | simp | assumption) rfl List.not_mem_nil rfl trivial ?_
    refine L.assign rfl rfl rfl trivial ?_
    refine L.nil ?_
    refine C.next ?_
    refine C.seq ?_
    refine C.seq ?_
    refine C.region [(false,0),(false,1),(false,2),(false,3)] rfl ?_
    refine L.move rfl rfl rfl trivial ?_
    refine L.fieldAddr rfl Tf.f59_3 rfl rfl trivial ?_
    refine L.loadD1 rfl (k := 3) Tf.a3 rfl hB1 (by first | simp | assumption) rfl List.not_mem_nil rfl trivial ?_
    refine L.gtr rfl rfl rfl rfl trivial ?_
    refine L.nil ?_
    refine C.next ?_
    refine C.condD rfl (fun hc2 => ?_) (fun hc2 => ?_)
    · refine C.seq ?_
      refine C.region [(false,0),(false,1)] rfl ?_
      refine L.assign rfl rfl rfl trivial ?_
      refine L.assign rfl rfl rfl trivial ?_
      refine L.nil ?_
      refine C.next ?_
      refine C.ret ?_
      refine C.thenRet ?_
      refine C.blockRet ?_
      refine C.thenRet ?_
      refine C.thenRet ?_
      refine C.blockRet ?_
      refine C.thenRet ?_
      exact leave (vs := [_, _]) rfl rfl rfl ⟨rfl, rfl, trivial⟩ (fun D hD => by show Value.tuple _ = _; rw [wrong_no hxm hc2]; rfl)
    · refine C.skip ?_
      refine C.next ?_
      refine C.region [(false,0),(false,1),(false,2),(false,3),(false,4),(false,5)] rfl ?_
      refine L.move rfl rfl rfl trivial ?_
      refine L.move rfl rfl rfl trivial ?_
      refine L.buildSlice rfl Try.underlying33 Tf.s3 Tf.z3 rfl rfl rfl rfl (.cons rfl rfl (.cons rfl rfl .nil)) rfl trivial (fun b901 D901 hD901 hA901 => ?_)
      have hS901 := Sl.ofInts (l := [_, _]) (n := 2) (cap := 2) hA901 rfl (by omega) (by omega)
      refine L.callV rfl rfl rfl (fun D2 hD2 => minimum_ok _ (errOf t x) [1] _ (hS901.up RI.up (hD2 _ (by simp)))) rfl trivial ?_
      refine L.add rfl rfl rfl (by simp only [inK, List.foldl_cons, List.foldl_nil]; omega) rfl trivial ?_
      refine L.assign rfl rfl rfl trivial ?_
      refine L.nil ?_
      refine C.blockEnd ?_
      refine C.next ?_
      refine C.region [(false,0),(false,1)] rfl ?_
      refine L.add rfl rfl rfl (by simp only [inK]; omega) rfl trivial ?_
      refine L.move rfl rfl rfl trivial ?_
      refine L.nil ?_
      exact C.againR 18 (k + 1) ⟨by omega, wrong_step1 hx h2 hc2⟩ (by omega) ⟨(by first | rfl | (show some (Value.int _ _) = some (Value.int _ _); congr 2; omega)), (by rw [wrong_step2 hx hxb]; rfl), trivial⟩ rfl rfl (List.Sublist.refl _) (fun D h => ⟨D, List.Mem.tail _ (h), Le.refl D⟩)
  · simp only [List.length_map] at hc1
    obtain rfl : k = r.counts.length := by omega
    rw [List.take_length] at h2
    refine C.exit ?_
    refine C.thenExit ?_
    refine C.thenExit ?_
    refine C.blockExit ?_
    refine C.next ?_
    refine C.seq ?_
    refine C.region [(false,0),(false,1),(false,2)] rfl ?_
    refine L.move rfl rfl rfl trivial ?_
    refine L.assign rfl rfl rfl trivial ?_
    refine L.assign rfl rfl rfl trivial ?_
    refine L.nil ?_
    refine C.next ?_
    refine C.ret ?_
    exact leave (vs := [_, _]) rfl rfl rfl ⟨rfl, rfl, trivial⟩ (fun D hD => by show Value.tuple _ = _; rw [wrong_yes h2, List.take_length]; rfl)
theorem chaired_ok (tv : Value) (t : List Int) (D : Data) (h9 : t.length ≤ 9) (ht : Sl D RI 1 tv t) : Fn Try.prog 60 #[tv] D (fun _ v => v = .agg (ints (pad9 t)).toArray) := by
  refine enter 7 Try.func60 rfl rfl rfl rfl fun h0 => ?_
  refine C.seq ?_
  refine C.region [(false,0)] rfl ?_
  refine L.alloc rfl Tf.z125 rfl rfl trivial (fun q1 => ?_)
  refine L.nil ?_
  refine C.next ?_
  refine C.seq ?_
  refine C.region [(false,0),(false,1),(false,2)] rfl ?_
  refine L.weakM [(q1, .cells (ints (List.replicate 9 0)).toArray 125 (0, 0))] (List.Sublist.refl _) ?_
  refine L.sliceA rfl Try.underlying125 Tf.s3 rfl rfl trivial ?_
  refine L.move rfl rfl rfl trivial ?_
  refine L.copyA (l0 := List.replicate 9 0) rfl rfl Try.underlying33 Tf.s3 rfl rfl ht (by simp) h9 (by simp) Has.head rfl trivial ?_
  rw [show t ++ (List.replicate 9 (0 : Int)).drop t.length = pad9 t by unfold pad9; rw [List.drop_replicate]]
  have hlen := pad9_length h9
  refine L.nil ?_
  refine C.next ?_
  refine C.seq ?_
  refine C.region [(false,0),(false,1)] rfl ?_
  refine L.loadBW rfl Tf.a125 rfl (List.Mem.head _) (by first | exact Tf.s125 | (simp only [ints_length, *]; exact Tf.s125)) List.not_mem_nil rfl trivial ?_
  refine L.storeW rfl rfl rfl rfl Tf.s125 (by first | rfl | (simp only [ints_length, *]; done) | (simp only [ints_length, *]; rfl) | (simp only [ints_length, *]; omega)) (by first | rfl | (simp only [ints_length, *]; done) | (simp only [ints_length, *]; rfl) | (simp only [ints_length, *]; omega)) (Has.head) (ints_cell1 _) trivial ?_
  refine L.nil ?_
  refine C.next ?_
  refine C.ret ?_
  exact leave (vs := [_]) rfl rfl rfl ⟨⟨_, _, _, rfl, (List.Mem.head _), Or.inr ⟨Tf.a125, (by first | exact Tf.s125 | (simp only [List.size_toArray, ints_length, *]; exact Tf.s125)), rfl⟩⟩, trivial⟩ (fun D hD => rfl)
theorem sumsP_ok (t : List Int) (D : Data) (h : t.length ≤ 9) (hb : ∀ x ∈ t, 0 ≤ x ∧ x ≤ 1) : Fn Try.prog 55 #[.agg (ints (pad9 t)).toArray] D (fun _ v => v = .agg (ints (sumsOf t)).toArray) :=
  (sums_ok (pad9 t) (pad9_length h) (pad9_bound hb) D).mono fun _ v _ hv => by rw [hv, sumsOf_pad]
theorem ProveLeast_ok (rv tv : Value) (r : RowD) (t : List Int) (many : Int) (D : Data) (hr : RowIs D rv r) (ht : Sl D RI 1 tv t) :
    Fn Try.prog 37 #[rv, tv, .int .i64 many] D (fun _ v => v = .bool (decide (fault r = 0) && isTruth r t && explains r t && decide ((wrongs r t : Int) ≤ many))) := by
  have hr0 := hr
  obtain ⟨pv, cv, rfl, hp, hc⟩ := hr
  refine enter 32 Try.func37 rfl rfl rfl rfl fun h0 => ?_
  refine C.seq ?_
  refine C.region [(false,0),(false,1)] rfl ?_
  refine L.boxD rfl rfl rfl rfl trivial (fun q1 E1 hE1 hB1 => ?_)
  refine L.assign rfl rfl rfl trivial ?_
  refine L.nil ?_
  refine C.next ?_
  refine C.seq ?_
  refine C.seq ?_
  refine C.region [(false,0),(false,1),(false,2),(false,3),(false,4),(false,5),(false,6),(false,7),(false,8)] rfl ?_
  refine L.loadDW rfl Tf.a59 rfl hB1 (by first | simp | assumption) Tf.s59 List.not_mem_nil rfl trivial ?_
  refine L.callV rfl rfl rfl (fun D1 hD1 => CheckRow_ok _ r _ (hr0.up (hD1 _ (by simp)))) rfl trivial ?_
  refine L.neq rfl rfl rfl rfl trivial ?_
  refine L.move rfl rfl rfl trivial ?_
  refine' L.or [(false,4),(false,5),(false,6),(false,7),(false,8)] [] (s := 12) (p := 17) rfl rfl (fun hg1 => ?_) (fun hg1 => ?_) ?_
  rotate_left
  · refine L.loadDW rfl Tf.a59 rfl hB1 (by first | simp | assumption) Tf.s59 List.not_mem_nil rfl ⟨_, rfl, rfl⟩ ?_
    refine L.move rfl rfl rfl ⟨_, rfl, rfl⟩ ?_
    refine L.callV rfl rfl rfl (fun D2 hD2 => is_ok _ _ r t _ (hr0.up (hD2 _ (by simp))) (ht.up RI.up (hD2 _ (by simp)))) rfl ⟨_, rfl, rfl⟩ ?_
    refine L.not rfl rfl rfl ⟨_, rfl, rfl⟩ ?_
    refine L.pickF rfl rfl rfl rfl trivial ?_
    exact L.nil fun a w hh => hh.cutK 4 rfl
  · refine L.pass rfl rfl rfl ⟨_, _, rfl, rfl, rfl⟩ ?_
    refine L.pass rfl rfl rfl ⟨_, _, rfl, rfl, rfl⟩ ?_
    refine L.pass rfl rfl rfl ⟨_, _, rfl, rfl, rfl⟩ ?_
    refine L.pass rfl rfl rfl ⟨_, _, rfl, rfl, rfl⟩ ?_
    refine L.pickT rfl rfl rfl rfl trivial ?_
    exact L.nil fun a w hh => hh.cutK 4 rfl
  refine L.nil ?_
  refine C.next ?_
  refine C.cond rfl (fun hc1 => ?_) (fun hc1 => ?_)
  · refine C.seq ?_
    refine C.region [(false,0)] rfl ?_
    refine L.assign rfl rfl rfl trivial ?_
    refine L.nil ?_
    refine C.next ?_
    refine C.ret ?_
    refine C.thenRet ?_
    exact leave (vs := [_]) rfl rfl rfl ⟨rfl, trivial⟩ (fun D hD => by show Value.bool _ = _; rw [pl_yes hc1])
  · obtain ⟨hf0, hit⟩ := pl_no hc1
    have hok : RowOk r := rowOk_iff.1 hf0
    have htr := isTruth_ok hit
    refine C.skip ?_
    refine C.next ?_
    refine C.seq ?_
    refine C.draw [] 5 [0,1,2,3,4,5,6,7,8,9] [false,true,true,true,false,false,false,true,true,false] [(false,0),(true,1),(true,2),(true,3),(false,4),(false,5),(false,6),(true,7),(true,8),(false,9)] Tf.follows (fun _ _ _ h => np_body (P := Try.prog) (fn := Try.f37) _ _ _ h) (by kernel_rfl) rfl ?_
    refine L.loadDW rfl Tf.a59 rfl hB1 (by first | simp | assumption) Tf.s59 List.not_mem_nil rfl trivial ?_
    refine L.move rfl rfl rfl trivial ?_
    refine L.callV rfl rfl rfl (fun D3 hD3 => chaired_ok _ t _ (by have := hok.len9; have := htr.1; omega) (ht.up RI.up (hD3 _ (by simp)))) rfl trivial ?_
    refine L.callV rfl rfl rfl (fun D4 hD4 => sumsP_ok t _ (by have := hok.len9; have := htr.1; omega) htr.2) rfl trivial ?_
    refine L.callV rfl rfl rfl (fun D5 hD5 => wrong_ok _ r t _ (hr0.up (hD5 _ (by simp))) hok htr) rfl trivial ?_
    refine L.move rfl rfl rfl trivial ?_
    refine L.extract rfl rfl rfl rfl trivial ?_
    refine L.extract rfl rfl rfl rfl trivial ?_
    refine L.assign rfl rfl rfl trivial ?_
    refine L.assign rfl rfl rfl trivial ?_
    refine L.nil ?_
    refine C.next ?_
    refine C.seq ?_
    refine C.region [(false,0),(false,1),(false,2),(false,3),(false,4),(false,5),(false,6)] rfl ?_
    refine L.move rfl rfl rfl trivial ?_
    refine L.move rfl rfl rfl trivial ?_
    refine' L.and [(false,2),(false,3),(false,4),(false,5)] [(false,6)] (s := 27) (p := 31) rfl rfl (fun hg2 => ?_) (fun hg2 => ?_) ?_
    rotate_left
    · refine L.move rfl rfl rfl ⟨_, rfl, rfl⟩ ?_
      refine L.move rfl rfl rfl ⟨_, rfl, rfl⟩ ?_
      refine L.leq rfl rfl rfl rfl ⟨_, rfl, rfl⟩ ?_
      refine L.pickT rfl rfl rfl rfl trivial ?_
      exact L.nil fun a w hh => hh.cutK 3 rfl
    · refine L.pass rfl rfl rfl ⟨_, _, rfl, rfl, rfl⟩ ?_
      refine L.pass rfl rfl rfl ⟨_, _, rfl, rfl, rfl⟩ ?_
      refine L.pass rfl rfl rfl ⟨_, _, rfl, rfl, rfl⟩ ?_
      refine L.pickF rfl rfl rfl rfl trivial ?_
      exact L.nil fun a w hh => hh.cutK 3 rfl
    refine L.assign rfl rfl rfl trivial ?_
    refine L.nil ?_
    refine C.next ?_
    refine C.ret ?_
    exact leave (vs := [_]) rfl rfl rfl ⟨rfl, trivial⟩ (fun D hD => by show Value.bool _ = _; rw [pl_end hf0 hit])
theorem ProveTruth_ok (rv tv : Value) (r : RowD) (t : List Int) (D : Data) (hr : RowIs D rv r) (ht : Sl D RI 1 tv t) :
    Fn Try.prog 18 #[rv, tv] D (fun _ v => v = .bool (decide (fault r = 0) && isTruth r t && explains r t && decide ((wrongs r t : Int) ≤ r.wrong))) := by
  have hr0 := hr
  obtain ⟨pv, cv, rfl, hp, hc⟩ := hr
  refine enter 10 Try.func18 rfl rfl rfl rfl fun h0 => ?_
  refine C.seq ?_
  refine C.region [(false,0),(false,1)] rfl ?_
  refine L.boxD rfl rfl rfl rfl trivial (fun q1 E1 hE1 hB1 => ?_)
  refine L.assign rfl rfl rfl trivial ?_
  refine L.nil ?_
  refine C.next ?_
  refine C.seq ?_
  refine C.region [(false,0),(false,1),(false,2),(false,3),(false,4),(false,5)] rfl ?_
  refine L.loadDW rfl Tf.a59 rfl hB1 (by first | simp | assumption) Tf.s59 List.not_mem_nil rfl trivial ?_
  refine L.move rfl rfl rfl trivial ?_
  refine L.fieldAddr rfl Tf.f59_2 rfl rfl trivial ?_
  refine L.loadD1 rfl (k := 2) Tf.a3 rfl hB1 (by first | simp | assumption) rfl List.not_mem_nil rfl trivial ?_
  refine L.callV rfl rfl rfl (fun D1 hD1 => ProveLeast_ok _ _ r t _ _ (hr0.up (hD1 _ (by simp))) (ht.up RI.up (hD1 _ (by simp)))) rfl trivial ?_
  refine L.assign rfl rfl rfl trivial ?_
  refine L.nil ?_
  refine C.next ?_
  refine C.ret ?_
  exact leave (vs := [_]) rfl rfl rfl ⟨rfl, trivial⟩ (fun D hD => rfl)
end Go.Fs
namespace Go.Fs
open Go.Proofs
open C1
/-- The blocks of 'c' and of 'choose'. -/
def chooseMu (br bY bc bh : Nat) (c : List Int) : Boxes := [(bh, .cells [.func (.func 78) #[] #[.pointer (some ⟨br, 0, none⟩), .pointer (some ⟨bY, 0, none⟩), .pointer (some ⟨bc, 0, none⟩), .pointer (some ⟨bh, 0, none⟩)]].toArray 76 (0, 0)), (bc, .cells (ints c).toArray 125 (0, 0))]
theorem take_pre {c pre : List Int} {i : Nat} {k : Int} (h : c.take (i + 1) = pre ++ [k]) (hl : pre.length = i) : c.take i = pre := by
  have := congrArg (List.take i) h
  rw [List.take_take, Nat.min_eq_left (Nat.le_succ i)] at this
  rw [this, List.take_append_of_le_length (by omega), List.take_of_length_le (by omega)]
def encT (x : List Int) : List Value := [.agg (ints x).toArray]
def YieldsT (P : Program) (Dr : Data) (lo l : Nat) (J Jx : List (List Int) → Inv) (xs : List (List Int)) : Prop := ∀ pre x β D w, (∃ r, xs = pre ++ x :: r) → Dom lo D w → J pre β D w → (∀ b ∈ β, b < w.heap.size) → Le Dr D →
        YieldRuns P l (encT x) w fun b D' w' => Dom lo D' w' ∧ High β D w D' w' ∧ (if b then J (pre ++ [x]) β D' w' else Jx (pre ++ [x]) β D' w')
def chooseR (J Jx : List (List Int) → Inv) (br bY bc bh : Nat) (places : List Int) (pre : List Int) (i : Nat) (done : List (List Int)) (v : Value) (J' : Inv) (μ' : Boxes) : Prop :=
  ∃ b c', v = .bool b ∧ c'.length = 9 ∧ c'.take i = pre ∧ c'.drop places.length = List.replicate (9 - places.length) 0 ∧ μ' = chooseMu br bY bc bh c' ∧ (if b = true then J' = J (done ++ (allT (places.drop i)).map fun t => pad9 (pre ++ t)) else ∃ p, J' = Jx p)
theorem choose_ok {lo l : Nat} {J Jx : List (List Int) → Inv} {places : List Int} {xs : List (List Int)} {Dr Dy : Data} {Ds : List Data} {br bY bc bh : Nat} {pv cv : Value} {w1 w2 : Int} (hn9 : places.length ≤ 9)
    (hs : ∀ pre, Stb lo (J pre)) (hsx : ∀ pre, Stb lo (Jx pre)) (hY : YieldsT Try.prog Dr lo l J Jx xs) (hDr : Dr ∈ Ds) (hDy : Dy ∈ Ds) (hA : At Dr br 0 [pv, cv, .int .i64 w1, .int .i64 w2]) (hpl : Sl Dr RI 1 pv places) (hB : At Dy bY 0 [.func (.yield l) #[] #[]]) :
    ∀ (j i : Nat) (pre c : List Int) (done rest : List (List Int)) (iv : Int), iv = i → i + j = places.length → pre.length = i → c.length = 9 → c.take i = pre → c.drop places.length = List.replicate (9 - places.length) 0 →
      xs = done ++ (allT (places.drop i)).map (fun t => pad9 (pre ++ t)) ++ rest →
      FnJ Try.prog 78 [.int .i64 iv, .pointer (some ⟨br, 0, none⟩), .pointer (some ⟨bY, 0, none⟩), .pointer (some ⟨bc, 0, none⟩), .pointer (some ⟨bh, 0, none⟩)] lo (J done) (chooseMu br bY bc bh c) Ds (chooseR J Jx br bY bc bh places pre i done) := by
  intro j
  induction j using Nat.strongRecOn with
  | _ j ih =>
  intro i pre c done rest iv hiv hij hl h9 hp hz hxs
  subst hiv
  have hmx := hpl.len
  refine enterJ (μ := chooseMu br bY bc bh c) 41 Try.func78 rfl rfl rfl rfl ?_
  refine C.seq ?_
  refine C.region [(false,0)] rfl ?_
  refine L.assign rfl rfl rfl trivial ?_
  refine L.nil ?_
  refine C.next ?_
  refine C.seq ?_
  refine C.seq ?_
  refine C.region [(false,0),(false,1),(false,2),(false,3),(false,4)] rfl ?_
  refine L.move rfl rfl rfl trivial ?_
  refine L.fieldAddr rfl Tf.f59_0 rfl rfl trivial ?_
  refine L.loadD1 rfl (k := 0) Tf.a33 rfl hA (by first | simp | assumption) rfl List.not_mem_nil rfl trivial ?_
  refine L.len rfl Try.underlying33 rfl (by assumption) rfl rfl trivial ?_
  refine L.eql rfl rfl rfl rfl trivial ?_
  refine L.nil ?_
  refine C.next ?_
  refine C.condD rfl (fun hc1 => ?_) (fun hc1 => ?_)
  · have hin : i = places.length := by omega
    subst hin
    have hleaf := (choose_leaf h9 hp hl hz).symm
    rw [List.drop_length] at hxs
    simp only [allT, List.map_cons, List.map_nil, List.append_nil] at hxs
    rw [hleaf, List.append_assoc, List.singleton_append] at hxs
    refine C.seq ?_
    refine C.region [(false,0),(false,1),(false,2),(false,3)] rfl ?_
    refine L.loadD1 rfl (k := 0) Tf.a147 rfl hB (by first | simp | assumption) rfl List.not_mem_nil rfl trivial ?_
    refine L.loadBW rfl Tf.a125 rfl (List.Mem.tail _ (List.Mem.head _)) (by first | exact Tf.s125 | (simp only [ints_length, *]; exact Tf.s125)) List.not_mem_nil rfl trivial ?_
    refine L.yieldB (l := l) (J1 := J (done ++ [c])) (J0 := Jx (done ++ [c])) rfl rfl rfl rfl (hs _) (hsx _) (fun D w hd hJ hb hl => hY done c _ D w ⟨rest, hxs⟩ hd hJ (fun b hbm => by obtain ⟨p, hp, rfl⟩ := List.mem_map.1 hbm; exact hb p hp) (hl _ hDr)) rfl trivial (fun b1 J1 hJ1 => ?_)
    refine L.assign rfl rfl rfl trivial ?_
    refine L.nil ?_
    refine C.next ?_
    refine C.ret ?_
    refine C.thenRet ?_
    exact leaveJ (P := Try.prog) (fn := Try.f78) (N := 41) (vs := [_]) rfl rfl ⟨rfl, trivial⟩ (fun D h => ⟨D, h, Le.refl D⟩) ⟨b1, c, rfl, h9, hp, hz, rfl, by cases b1 <;> simp only [hJ1, if_true, Bool.false_eq_true, if_false]; exact ⟨_, rfl⟩; simp [allT, hleaf]⟩
  · have hin : i < places.length := by omega
    obtain ⟨p, hpi⟩ : ∃ p, places[i]? = some p := ⟨_, List.getElem?_eq_getElem hin⟩
    have hd : places.drop i = p :: places.drop (i + 1) := by rw [List.drop_eq_getElem_cons hin]; congr 1; exact Option.some.inj ((List.getElem?_eq_getElem hin).symm.trans hpi)
    rw [hd, ← brs_two] at hxs
    refine C.skip ?_
    refine C.next ?_
    refine C.seq ?_
    refine C.seq ?_
    refine C.region [(false,0)] rfl ?_
    refine L.move rfl rfl rfl trivial ?_
    refine L.nil ?_
    refine C.next ?_
    refine C.block ?_
    refine C.loopJ (γ := Nat × List Int) (fun g => 2 - g.1) (fun g => g.1 ≤ 2 ∧ g.2.length = 9 ∧ g.2.take i = pre ∧ g.2.drop places.length = List.replicate (9 - places.length) 0) (fun g => J (done ++ brs p (places.drop (i + 1)) pre g.1)) (fun g => [(17, .int .i64 (g.1 : Int))]) [(6, _), (0, _), (1, _), (3, _), (4, _)] (fun g => chooseMu br bY bc bh g.2) (fun g => Ds) (0, c) ⟨by simp, h9, hp, hz⟩ (by simp [brs_zero]) ⟨(by first | rfl | (show some (Value.int _ _) = some (Value.int _ _); congr 2; omega)), trivial⟩ ⟨rfl, rfl, rfl, rfl, rfl, trivial⟩ (List.Sublist.refl _) (ds_same) ?_
    rintro ⟨k, c1⟩ ⟨h11, h91, hp1, hz1⟩
    refine C.seq ?_
    refine C.region [(false,0)] rfl ?_
    refine L.lss rfl rfl rfl rfl trivial ?_
    refine L.nil ?_
    refine C.next ?_
    refine C.seq ?_
    refine C.condD rfl (fun hc2 => ?_) (fun hc2 => ?_)
    · refine C.skip ?_
      refine C.next ?_
      refine C.seq ?_
      refine C.block ?_
      refine C.seq ?_
      refine C.region [(false,0),(false,1)] rfl ?_
      refine L.move rfl rfl rfl trivial ?_
      refine L.assign rfl rfl rfl trivial ?_
      refine L.nil ?_
      refine C.next ?_
      refine C.seq ?_
      refine C.region [(false,0),(false,1),(false,2),(false,3),(false,4),(false,5)] rfl ?_
      refine L.fieldAddr rfl Tf.f59_0 rfl rfl trivial ?_
      refine L.loadD1 rfl (k := 0) Tf.a33 rfl hA (by first | simp | assumption) rfl List.not_mem_nil rfl trivial ?_
      refine L.move rfl rfl rfl trivial ?_
      refine L.indexS rfl Try.underlying33 Tf.s3 rfl hpl rfl (by omega) hpi rfl trivial (fun b1 o1 cs1 hr1 hcl1 hA1 => ?_)
      obtain rfl : cs1 = [.int .i64 _] := hr1
      refine L.loadD1 rfl (k := 0) Tf.a3 rfl hA1 (by first | simp | assumption) rfl List.not_mem_nil rfl trivial ?_
      refine L.assign rfl rfl rfl trivial ?_
      refine L.nil ?_
      refine C.next ?_
      refine C.seq ?_
      refine C.region [(false,0),(false,1),(false,2),(false,3),(false,4),(false,5),(false,6)] rfl ?_
      refine L.move rfl rfl rfl trivial ?_
      refine L.eql rfl rfl rfl rfl trivial ?_
      refine L.move rfl rfl rfl trivial ?_
      refine' L.or [(false,3),(false,4),(false,5),(false,6)] [] (s := 27) (p := 31) rfl rfl (fun hg1 => ?_) (fun hg1 => ?_) ?_
      rotate_left
      · refine L.move rfl rfl rfl ⟨_, rfl, rfl⟩ ?_
        refine L.move rfl rfl rfl ⟨_, rfl, rfl⟩ ?_
        refine L.eql rfl rfl rfl rfl ⟨_, rfl, rfl⟩ ?_
        refine L.pickF rfl rfl rfl rfl trivial ?_
        exact L.nil fun a w hh => hh.cutK 3 rfl
      · refine L.pass rfl rfl rfl ⟨_, _, rfl, rfl, rfl⟩ ?_
        refine L.pass rfl rfl rfl ⟨_, _, rfl, rfl, rfl⟩ ?_
        refine L.pass rfl rfl rfl ⟨_, _, rfl, rfl, rfl⟩ ?_
        refine L.pickT rfl rfl rfl rfl trivial ?_
        exact L.nil fun a w hh => hh.cutK 3 rfl
      refine L.nil ?_
      refine C.next ?_
      refine C.cond rfl (fun hc3 => ?_) (fun hc3 => ?_)
      · have hpk : p = 2 ∨ p = (k : Int) := by simpa using hc3
        obtain ⟨rr, hr⟩ := brs_rest (p := p) (ps := places.drop (i + 1)) (pre := pre) (k := k) (by omega)
        have hset := choose_set (k := (k : Int)) h91 hin hn9 hp1 hz1
        refine C.seq ?_
        refine C.region [(false,0),(false,1),(false,2),(false,3)] rfl ?_
        refine L.move rfl rfl rfl trivial ?_
        refine L.move rfl rfl rfl trivial ?_
        refine L.indexB rfl Try.underlying125 Tf.s3 rfl rfl (by omega) (by omega) rfl trivial ?_
        refine L.storeI rfl Tf.s3 rfl rfl (.tail (Has.head)) (by simp only [*]; omega) trivial ?_
        refine L.nil ?_
        refine C.next ?_
        refine C.seq ?_
        refine C.region [(false,0),(false,1),(false,2),(false,3),(false,4)] rfl ?_
        refine L.loadB1 rfl Tf.a76 rfl (List.Mem.head _) rfl List.not_mem_nil rfl trivial ?_
        refine L.move rfl rfl rfl trivial ?_
        refine L.add rfl rfl rfl (by simp only [inK]; omega) rfl trivial ?_
        refine L.callJ rfl rfl rfl rfl (ih (j - 1) (by omega) (i + 1) (pre ++ [(k : Int)]) (c1.set i k) (done ++ brs p (places.drop (i + 1)) pre k) (rr ++ rest) (i + 1 : Int) (by omega) (by omega) (by simp; omega) hset.1 hset.2.1 hset.2.2 (by rw [hxs, hr, brs_yes hpk]; simp)) rfl trivial ?_
        rintro _ J2 _ ⟨b2, c2, rfl, h9', hp', hz', rfl, hJ2⟩
        refine L.not rfl rfl rfl trivial ?_
        refine L.nil ?_
        refine C.next ?_
        refine C.cond rfl (fun hc4 => ?_) (fun hc4 => ?_)
        · obtain rfl : b2 = false := by simpa using hc4
          refine C.seq ?_
          refine C.region [(false,0)] rfl ?_
          refine L.assign rfl rfl rfl trivial ?_
          refine L.nil ?_
          refine C.next ?_
          refine C.ret ?_
          refine C.blockRet ?_
          refine C.thenRet ?_
          refine C.thenRet ?_
          refine C.blockRet ?_
          refine C.thenRet ?_
          exact leaveJ (P := Try.prog) (fn := Try.f78) (N := 41) (vs := [_]) rfl rfl ⟨rfl, trivial⟩ (fun D h => ⟨D, h, Le.refl D⟩) ⟨false, c2, rfl, h9', take_pre hp' hl, hz', rfl, by simpa using hJ2⟩
        · obtain rfl : b2 = true := by simpa using hc4
          refine C.skip ?_
          refine C.blockEnd ?_
          refine C.next ?_
          refine C.region [(false,0),(false,1)] rfl ?_
          refine L.add rfl rfl rfl (by simp only [inK]; omega) rfl trivial ?_
          refine L.move rfl rfl rfl trivial ?_
          refine L.nil ?_
          exact C.againJ 24 (k + 1, c2) ⟨by simp only; omega, h9', take_pre hp' hl, hz'⟩ (by simp only; omega) (by simpa only [if_true, brs_yes hpk, List.append_assoc] using hJ2) ⟨(by first | rfl | (show some (Value.int _ _) = some (Value.int _ _); congr 2; omega)), trivial⟩ rfl rfl (List.Sublist.refl _) (ds_same)
      · have hpk : ¬ (p = 2 ∨ p = (k : Int)) := by simpa using hc3
        refine C.skip ?_
        refine C.blockEnd ?_
        refine C.next ?_
        refine C.region [(false,0),(false,1)] rfl ?_
        refine L.add rfl rfl rfl (by simp only [inK]; omega) rfl trivial ?_
        refine L.move rfl rfl rfl trivial ?_
        refine L.nil ?_
        exact C.againJ 16 (k + 1, c1) ⟨by simp only; omega, h91, hp1, hz1⟩ (by simp only; omega) (by rw [brs_no hpk]) ⟨(by first | rfl | (show some (Value.int _ _) = some (Value.int _ _); congr 2; omega)), trivial⟩ rfl rfl (List.Sublist.refl _) (ds_same)
    · refine C.exit ?_
      refine C.thenExit ?_
      refine C.thenExit ?_
      refine C.blockExit ?_
      refine C.next ?_
      refine C.seq ?_
      refine C.region [(false,0)] rfl ?_
      refine L.assign rfl rfl rfl trivial ?_
      refine L.nil ?_
      refine C.next ?_
      refine C.ret ?_
      exact leaveJ (P := Try.prog) (fn := Try.f78) (N := 41) (vs := [_]) rfl rfl ⟨rfl, trivial⟩ (fun D h => ⟨D, h, Le.refl D⟩) ⟨true, c1, rfl, h91, hp1, hz1, rfl, by simp only [if_true]; rw [hd, ← brs_two, show k = 2 by omega]⟩
theorem rows1_ok (places : List Int) (Dr : Data) (br : Nat) (pv cv : Value) (w1 w2 : Int) (hn9 : places.length ≤ 9) (hA : At Dr br 0 [pv, cv, .int .i64 w1, .int .i64 w2]) (hpl : Sl Dr RI 1 pv places) :
    IterOK Try.prog 77 [.pointer (some ⟨br, 0, none⟩)] Dr ((allT places).map pad9) encT := by
  refine enterIter 8 Try.func77 rfl rfl rfl rfl (fun lo l J Jx hs hsx hY => ?_)
  refine C.seq ?_
  refine C.region [(false,0)] rfl ?_
  refine L.boxD rfl rfl rfl rfl trivial (fun q1 E1 hE1 hB1 => ?_)
  refine L.nil ?_
  refine C.next ?_
  refine C.seq ?_
  refine C.region [(false,0)] rfl ?_
  refine L.alloc rfl Tf.z125 rfl rfl trivial (fun q2 => ?_)
  refine L.nil ?_
  refine C.next ?_
  refine C.seq ?_
  refine C.region [(false,0)] rfl ?_
  refine L.alloc rfl Tf.z76 rfl rfl trivial (fun q3 => ?_)
  refine L.nil ?_
  refine C.next ?_
  refine C.seq ?_
  refine C.region [(false,0),(false,1)] rfl ?_
  refine L.makeFunc rfl rfl rfl rfl trivial ?_
  refine L.store rfl rfl rfl rfl Tf.s76 (Has.head) (by simp) rfl (by simp [cell1]) trivial ?_
  refine L.nil ?_
  refine C.next ?_
  refine C.region [(false,0),(false,1)] rfl ?_
  refine L.loadB1 rfl Tf.a76 rfl (List.Mem.head _) rfl List.not_mem_nil rfl trivial ?_
  refine L.callJ rfl rfl rfl rfl (choose_ok (l := l) (by omega) hs hsx hY (by simp) (by simp) hA hpl hB1 places.length 0 [] (List.replicate 9 0) [] [] 0 rfl (by omega) rfl rfl rfl (List.drop_replicate ..) (by simp)) rfl trivial ?_
  rintro _ J2 _ ⟨b2, c2, rfl, h9', hp', hz', rfl, hJ2⟩
  refine L.nil ?_
  exact leaveJ (P := Try.prog) (fn := Try.f77) (N := 8) (vs := []) rfl rfl trivial (fun D h => ⟨D, by simp only [List.mem_singleton] at h; subst h; simp, Le.refl D⟩) (by cases b2 <;> simp at hJ2; exact Or.inr hJ2; exact Or.inl hJ2)
theorem rows_ok (rv : Value) (r : RowD) (D : Data) (hr : RowIs D rv r) (hn9 : r.places.length ≤ 9) :
    Fn Try.prog 53 #[rv] D (fun D' v => ∃ br, v = .func (.func 77) #[] #[.pointer (some ⟨br, 0, none⟩)] ∧ IterOK Try.prog 77 [.pointer (some ⟨br, 0, none⟩)] D' ((allT r.places).map pad9) encT) := by
  obtain ⟨pv, cv, rfl, hp, hc⟩ := hr
  refine enter 4 Try.func53 rfl rfl rfl rfl fun h0 => ?_
  refine C.seq ?_
  refine C.region [(false,0),(false,1)] rfl ?_
  refine L.boxD rfl rfl rfl rfl trivial (fun q1 E1 hE1 hB1 => ?_)
  refine L.assign rfl rfl rfl trivial ?_
  refine L.nil ?_
  refine C.next ?_
  refine C.seq ?_
  refine C.region [(false,0),(false,1)] rfl ?_
  refine L.makeFunc rfl rfl rfl rfl trivial ?_
  refine L.assign rfl rfl rfl trivial ?_
  refine L.nil ?_
  refine C.next ?_
  refine C.ret ?_
  exact leave (vs := [_]) rfl rfl rfl ⟨rfl, trivial⟩ (fun D hD => ⟨_, rfl, rows1_ok r.places _ q1 pv cv r.wrong r.off hn9 (hB1.up (hD _ (by simp))) (hp.up RI.up (hD _ (by simp)))⟩)
end Go.Fs
namespace Go.Fs
open Go.Proofs
open C1
theorem partOf_sums {c : List Int} {i j : Int} (h0 : 0 ≤ i) (h1 : i ≤ j) : sumFrom c 0 (j + 1).toNat - sumFrom c 0 i.toNat = partOf c i.toNat j.toNat := by
  unfold partOf
  have h := sumFrom_split c 0 i.toNat (j.toNat + 1 - i.toNat)
  rw [show i.toNat + (j.toNat + 1 - i.toNat) = (j + 1).toNat by omega, Nat.zero_add] at h
  omega
theorem fits_yes {r : RowD} {t : List Int} (h : (explains r t && decide ((if explains r t = true then (wrongs r t : Int) else 0) ≤ r.wrong)) = true) : fits r t = true := by
  unfold fits; cases he : explains r t <;> simp [he] at h ⊢; exact h
theorem fits_no {r : RowD} {t : List Int} (h : (explains r t && decide ((if explains r t = true then (wrongs r t : Int) else 0) ≤ r.wrong)) = false) : fits r t = false := by
  unfold fits; cases he : explains r t <;> simp [he] at h ⊢; exact h
theorem ask_len {r : RowD} (h : RowOk r) (k : Nat) : (((allT r.places).take k).filter (fits r)).length ≤ 512 := by
  have h1 := List.length_filter_le (fits r) ((allT r.places).take k)
  have h2 := allT_length r.places
  have h3 : 2 ^ r.places.length ≤ 2 ^ 9 := Nat.pow_le_pow_right (by omega) h.len9
  have h4 : ((allT r.places).take k).length ≤ (allT r.places).length := by rw [List.length_take]; omega
  omega
theorem ask_all {r : RowD} (h : RowOk r) (k : Nat) : ∀ t ∈ ((allT r.places).take k).filter (fits r), t.length ≤ 9 := fun t ht => by
  have := (allT_ok (List.mem_of_mem_take (List.mem_filter.1 ht).1)).1; have := h.len9; omega
theorem truths_length {r : RowD} (h : RowOk r) : (truths r).length ≤ 512 := by
  have h1 := List.length_filter_le (fits r) (allT r.places)
  have h2 := allT_length r.places
  have h3 : 2 ^ r.places.length ≤ 2 ^ 9 := Nat.pow_le_pow_right (by omega) h.len9
  show ((allT r.places).filter (fits r)).length ≤ 512
  omega
open C1
theorem part_ok (rv : Value) (r : RowD) (i j : Int) (D : Data) (hr : RowIs D rv r) : Fn Try.prog 34 #[rv, .int .i64 i, .int .i64 j] D (fun _ v => v = .bool (partOk r i j)) := by
  obtain ⟨pv, cv, rfl, hp, hc⟩ := hr
  have hl := hp.len
  refine enter 22 Try.func34 rfl rfl rfl rfl fun h0 => ?_
  refine C.seq ?_
  refine C.region [(false,0),(false,1)] rfl ?_
  refine L.boxD rfl rfl rfl rfl trivial (fun q1 E1 hE1 hB1 => ?_)
  refine L.assign rfl rfl rfl trivial ?_
  refine L.nil ?_
  refine C.next ?_
  refine C.seq ?_
  refine C.region [(false,0),(false,1),(false,2),(false,3),(false,4),(false,5),(false,6),(false,7),(false,8),(false,9),(false,10),(false,11),(false,12),(false,13),(false,14),(false,15)] rfl ?_
  refine L.move rfl rfl rfl trivial ?_
  refine L.fieldAddr rfl Tf.f59_0 rfl rfl trivial ?_
  refine L.loadD1 rfl (k := 0) Tf.a33 rfl hB1 (by first | simp | assumption) rfl List.not_mem_nil rfl trivial ?_
  refine L.len rfl Try.underlying33 rfl (by assumption) rfl rfl trivial ?_
  refine L.sub rfl rfl rfl (by simp only [inK]; omega) rfl trivial ?_
  refine L.callV rfl rfl rfl (fun D1 hD1 => within_ok _ _ _ _) rfl trivial ?_
  refine L.move rfl rfl rfl trivial ?_
  refine' L.and [(false,7),(false,8),(false,9),(false,10),(false,11),(false,12),(false,13),(false,14)] [(false,15)] (s := 13) (p := 21) rfl rfl (fun hg1 => ?_) (fun hg1 => ?_) ?_
  rotate_left
  · refine L.move rfl rfl rfl ⟨_, rfl, rfl⟩ ?_
    refine L.move rfl rfl rfl ⟨_, rfl, rfl⟩ ?_
    refine L.fieldAddr rfl Tf.f59_0 rfl rfl ⟨_, rfl, rfl⟩ ?_
    refine L.loadD1 rfl (k := 0) Tf.a33 rfl hB1 (by first | simp | assumption) rfl List.not_mem_nil rfl ⟨_, rfl, rfl⟩ ?_
    refine L.len rfl Try.underlying33 rfl (by assumption) rfl rfl ⟨_, rfl, rfl⟩ ?_
    refine L.sub rfl rfl rfl (by simp only [inK]; omega) rfl ⟨_, rfl, rfl⟩ ?_
    refine L.callV rfl rfl rfl (fun D2 hD2 => within_ok _ _ _ _) rfl ⟨_, rfl, rfl⟩ ?_
    refine L.pickT rfl rfl rfl rfl trivial ?_
    exact L.nil fun a w hh => hh.cutK 7 rfl
  · refine L.pass rfl rfl rfl ⟨_, _, rfl, rfl, rfl⟩ ?_
    refine L.pass rfl rfl rfl ⟨_, _, rfl, rfl, rfl⟩ ?_
    refine L.pass rfl rfl rfl ⟨_, _, rfl, rfl, rfl⟩ ?_
    refine L.pass rfl rfl rfl ⟨_, _, rfl, rfl, rfl⟩ ?_
    refine L.pass rfl rfl rfl ⟨_, _, rfl, rfl, rfl⟩ ?_
    refine L.pass rfl rfl rfl ⟨_, _, rfl, rfl, rfl⟩ ?_
    refine L.pass rfl rfl rfl ⟨_, _, rfl, rfl, rfl⟩ ?_
    refine L.pickF rfl rfl rfl rfl trivial ?_
    exact L.nil fun a w hh => hh.cutK 7 rfl
  refine L.assign rfl rfl rfl trivial ?_
  refine L.nil ?_
  refine C.next ?_
  refine C.ret ?_
  exact leave (vs := [_]) rfl rfl rfl ⟨rfl, trivial⟩ (fun D hD => rfl)
theorem in_ok (c : List Int) (i j : Int) (D : Data) (hi0 : 0 ≤ i) (hij : i ≤ j) (hj9 : j < 9) (hb : ∀ x ∈ c, 0 ≤ x ∧ x ≤ 1) : Fn Try.prog 57 #[.agg (ints (sumsOf c)).toArray, .int .i64 i, .int .i64 j] D (fun _ v => v = .int .i64 (partOf c i.toNat j.toNat)) := by
  have hsl := sumsOf_length c
  have hg1 := sumsOf_get c (j + 1).toNat (by omega)
  have hg2 := sumsOf_get c i.toNat (by omega)
  have hb1 := sumFrom_bound hb 0 (j + 1).toNat
  have hb2 := sumFrom_bound hb 0 i.toNat
  refine enter 15 Try.func57 rfl rfl rfl rfl fun h0 => ?_
  refine C.seq ?_
  refine C.region [(false,0),(false,1)] rfl ?_
  refine L.boxD rfl rfl rfl rfl trivial (fun q1 E1 hE1 hB1 => ?_)
  refine L.assign rfl rfl rfl trivial ?_
  refine L.nil ?_
  refine C.next ?_
  refine C.seq ?_
  refine C.draw [] 4 [0,1,2,3,4,5,6,7,8] [false,false,false,false,true,true,true,false,false] [(false,0),(false,1),(false,2),(false,3),(true,4),(true,5),(true,6),(false,7),(false,8)] Tf.follows (fun _ _ _ h => np_body (P := Try.prog) (fn := Try.f57) _ _ _ h) (by kernel_rfl) rfl ?_
  refine L.move rfl rfl rfl trivial ?_
  refine L.add rfl rfl rfl (by simp only [inK]; omega) rfl trivial ?_
  refine L.indexB rfl Try.underlying129 Tf.s3 rfl rfl (by omega) (by omega) rfl trivial ?_
  refine L.loadDI rfl Tf.a3 rfl hB1 (by simp) (ints_get hg1) List.not_mem_nil rfl trivial ?_
  refine L.move rfl rfl rfl trivial ?_
  refine L.indexB rfl Try.underlying129 Tf.s3 rfl rfl (by omega) (by omega) rfl trivial ?_
  refine L.loadDI rfl Tf.a3 rfl hB1 (by simp) (ints_get hg2) List.not_mem_nil rfl trivial ?_
  refine L.sub rfl rfl rfl (by simp only [inK]; omega) rfl trivial ?_
  refine L.assign rfl rfl rfl trivial ?_
  refine L.nil ?_
  refine C.next ?_
  refine C.ret ?_
  exact leave (vs := [_]) rfl rfl rfl ⟨rfl, trivial⟩ (fun D hD => by show Value.int _ _ = _; rw [partOf_sums hi0 hij])
theorem wider_ok (lo hi n : Int) (D : Data) : Fn Try.prog 58 #[.agg #[.int .i64 lo, .int .i64 hi], .int .i64 n] D (fun _ v => v = .agg #[.int .i64 (min lo n), .int .i64 (max hi n)]) := by
  refine enter 15 Try.func58 rfl rfl rfl rfl fun h0 => ?_
  refine C.seq ?_
  refine C.region [(false,0),(false,1)] rfl ?_
  refine L.boxD rfl rfl rfl rfl trivial (fun q1 E1 hE1 hB1 => ?_)
  refine L.alloc rfl Tf.z54 rfl rfl trivial (fun q2 => ?_)
  refine L.nil ?_
  refine C.next ?_
  refine C.seq ?_
  refine C.draw [] 4 [0,1,2,5,6,7,8,3,4,9,10] [false,false,true,true,true,true,true,true,true,false,false] [(false,0),(false,1),(true,2),(true,5),(true,6),(true,7),(true,8),(true,3),(true,4),(false,9),(false,10)] Tf.follows (fun _ _ _ h => np_body (P := Try.prog) (fn := Try.f58) _ _ _ h) (by kernel_rfl) rfl ?_
  refine L.fieldAddr rfl Tf.f54_0 rfl rfl trivial ?_
  refine L.loadD1 rfl (k := 0) Tf.a3 rfl hB1 (by first | simp | assumption) rfl List.not_mem_nil rfl trivial ?_
  refine L.move rfl rfl rfl trivial ?_
  refine L.fieldAddr rfl Tf.f54_1 rfl rfl trivial ?_
  refine L.loadD1 rfl (k := 1) Tf.a3 rfl hB1 (by first | simp | assumption) rfl List.not_mem_nil rfl trivial ?_
  refine L.move rfl rfl rfl trivial ?_
  refine L.max2 rfl rfl rfl rfl trivial ?_
  refine L.buildSlice rfl Try.underlying33 Tf.s3 Tf.z3 rfl rfl rfl rfl (.cons rfl rfl (.cons rfl rfl .nil)) rfl trivial (fun b901 D901 hD901 hA901 => ?_)
  have hS901 := Sl.ofInts (l := [_, _]) (n := 2) (cap := 2) hA901 rfl (by omega) (by omega)
  refine L.callV rfl rfl rfl (fun D1 hD1 => minimum_ok _ lo [n] _ (hS901.up RI.up (hD1 _ (by simp)))) rfl trivial ?_
  refine L.build (cs := [.int .i64 (min lo n), .int .i64 (max hi n)]) rfl Tf.p54 Tf.z54 rfl rfl rfl trivial ?_
  refine L.storeW rfl rfl rfl rfl Tf.s54 (by first | rfl | (simp only [ints_length, *]; done) | (simp only [ints_length, *]; rfl) | (simp only [ints_length, *]; omega)) (by first | rfl | (simp only [ints_length, *]; done) | (simp only [ints_length, *]; rfl) | (simp only [ints_length, *]; omega)) (Has.head) (by first | exact ints_cell1 _ | simp [cell1]) trivial ?_
  refine L.nil ?_
  refine C.next ?_
  refine C.ret ?_
  exact leave (vs := [_]) rfl rfl rfl ⟨⟨_, _, _, rfl, (List.Mem.head _), Or.inr ⟨Tf.a54, (by first | exact Tf.s54 | (simp only [List.size_toArray, ints_length, *]; exact Tf.s54)), rfl⟩⟩, trivial⟩ (fun D hD => rfl)
theorem asked_ok (rv : Value) (r : RowD) (fine : Bool) (D : Data) (hr : RowIs D rv r) : Fn Try.prog 33 #[rv, .bool fine] D (fun D' v => ∃ wv, v = .tuple #[wv, .int .i64 (askErr r fine)] ∧ (askErr r fine = 0 → RowOk r ∧ WorkIs D' wv r)) := by
  have hr0 := hr
  obtain ⟨pv, cv, rfl, hp, hc⟩ := hr
  refine enterM 55 Try.func33 rfl rfl rfl rfl fun h0 => ?_
  refine C.seq ?_
  refine C.region [(false,0),(false,1),(false,2)] rfl ?_
  refine L.boxD rfl rfl rfl rfl trivial (fun q1 E1 hE1 hB1 => ?_)
  refine L.assign rfl rfl rfl trivial ?_
  refine L.assign rfl rfl rfl trivial ?_
  refine L.nil ?_
  refine C.next ?_
  refine C.seq ?_
  refine C.seq ?_
  refine C.region [(false,0),(false,1),(false,2)] rfl ?_
  refine L.loadDW rfl Tf.a59 rfl hB1 (by first | simp | assumption) Tf.s59 List.not_mem_nil rfl trivial ?_
  refine L.callV rfl rfl rfl (fun D1 hD1 => CheckRow_ok _ r _ (hr0.up (hD1 _ (by simp)))) rfl trivial ?_
  refine L.assign rfl rfl rfl trivial ?_
  refine L.nil ?_
  refine C.next ?_
  refine C.seq ?_
  refine C.region [(false,0),(false,1)] rfl ?_
  refine L.move rfl rfl rfl trivial ?_
  refine L.neq rfl rfl rfl rfl trivial ?_
  refine L.nil ?_
  refine C.next ?_
  refine C.condD rfl (fun hc1 => ?_) (fun hc1 => ?_)
  · refine C.seq ?_
    refine C.region [(false,0),(false,1),(false,2)] rfl ?_
    refine L.move rfl rfl rfl trivial ?_
    refine L.assign rfl rfl rfl trivial ?_
    refine L.assign rfl rfl rfl trivial ?_
    refine L.nil ?_
    refine C.next ?_
    refine C.ret ?_
    refine C.thenRet ?_
    exact leaveM0 (vs := [_, _]) rfl rfl rfl ⟨rfl, rfl, trivial⟩ (fun D hD => ⟨_, by rw [askErr, if_pos hc1]; rfl, fun h => by rw [askErr, if_pos hc1] at h; exact absurd h hc1⟩)
  · have hok : RowOk r := rowOk_iff.1 (by omega)
    refine C.skip ?_
    refine C.next ?_
    refine C.seq ?_
    refine C.seq ?_
    refine C.region [(false,0),(false,1)] rfl ?_
    refine L.move rfl rfl rfl trivial ?_
    refine L.not rfl rfl rfl trivial ?_
    refine L.nil ?_
    refine C.next ?_
    refine C.cond rfl (fun hc2 => ?_) (fun hc2 => ?_)
    · refine C.seq ?_
      refine C.region [(false,0),(false,1)] rfl ?_
      refine L.assign rfl rfl rfl trivial ?_
      refine L.assign rfl rfl rfl trivial ?_
      refine L.nil ?_
      refine C.next ?_
      refine C.ret ?_
      refine C.thenRet ?_
      exact leaveM0 (vs := [_, _]) rfl rfl rfl ⟨rfl, rfl, trivial⟩ (fun D hD => ⟨_, by rw [askErr, if_neg hc1, if_pos (by simpa using hc2)]; rfl, fun h => by rw [askErr, if_neg hc1, if_pos (by simpa using hc2)] at h; omega⟩)
    · refine C.skip ?_
      refine C.next ?_
      refine C.seq ?_
      refine C.region [(false,0),(false,1),(false,2),(false,3),(false,4)] rfl ?_
      refine L.loadDW rfl Tf.a59 rfl hB1 (by first | simp | assumption) Tf.s59 List.not_mem_nil rfl trivial ?_
      refine L.build (cs := [pv, cv, .int .i64 r.wrong, .int .i64 r.off, .slice none 0 0]) rfl Tf.p101 Tf.z101 rfl rfl rfl trivial ?_
      refine L.box rfl (e := 101) rfl rfl rfl trivial (fun q2 => ?_)
      refine L.alloc rfl Tf.z94 rfl rfl trivial (fun q3 => ?_)
      refine L.store rfl rfl rfl rfl Tf.s94 (Has.head) (by simp) rfl (by simp [cell1]) trivial ?_
      refine L.nil ?_
      refine C.next ?_
      refine C.seq ?_
      refine C.seq ?_
      refine C.region [(false,0),(false,1)] rfl ?_
      refine L.loadDW rfl Tf.a59 rfl hB1 (by first | simp | assumption) Tf.s59 List.not_mem_nil rfl trivial ?_
      refine L.call rfl rfl rfl (fun D2 hD2 => rows_ok _ r _ (hr0.up (hD2 _ (by simp))) hok.len9) rfl trivial (fun v2 D2 hD2 hp2 => ?_)
      refine L.nil ?_
      refine C.next ?_
      refine C.block ?_
      obtain ⟨br, rfl, hit⟩ := hp2
      refine C.rangeFunc (γ := Value × Boxes) (xs := (allT r.places).map pad9) (enc := encT) (Dr := D2) (AskI 125 r) (fun _ _ _ => False) (fun g => [(q3, .cells [.pointer (some ⟨q2, 0, none⟩)].toArray 94 (0, 0)), (q2, .cells [pv, cv, .int .i64 r.wrong, .int .i64 r.off, g.1].toArray 101 (0, 0))] ++ g.2) (.slice none 0 0, []) rfl rfl rfl rfl hit (by simp) (fun _ => rfl) rfl (by simpa [AskI] using Acc.nil) rfl ?_ ?_ (fun _ _ _ _ h => h.elim)
      · rintro pre x ⟨v, ν⟩ ⟨us, hx⟩ hΦ l bd rec hh D7 hD7 hst hpend
        obtain ⟨t, hk, rfl, htm, htake⟩ := allT_step hx
        obtain ⟨hlen, htb⟩ := allT_ok htm
        have htr : TruthOk r t := ⟨hlen, htb⟩
        have hp9 := pad9_length (t := t) (by have := hok.len9; omega)
        refine C.region [(false,0),(false,1)] rfl ?_
        refine L.alloc rfl Tf.z125 rfl rfl trivial (fun q4 => ?_)
        refine L.storeW rfl rfl rfl rfl Tf.s125 (by first | rfl | (simp only [ints_length, *]; done) | (simp only [ints_length, *]; rfl) | (simp only [ints_length, *]; omega)) (by first | rfl | (simp only [ints_length, *]; done) | (simp only [ints_length, *]; rfl) | (simp only [ints_length, *]; omega)) (Has.head) (by first | exact ints_cell1 _ | simp [cell1]) trivial ?_
        refine L.nil ?_
        refine fun a w hhh => C.begin (A := [(_, _), (_, _), (_, _)] ++ ν) (B := [(bd, .deferred (some []))]) (r := rec) (l := l) (by rfl) hst ?_ a w hhh
        refine C.nd (fun hnd => ?_)
        simp only [List.map_cons, List.map_append, List.nodup_cons, List.nodup_append, List.cons_append, List.nil_append, List.mem_cons, List.mem_append, not_or] at hnd
        have hq4 := hnd.1.2.2.1
        have hq3 := hnd.2.1.2.1
        have hq2 := hnd.2.2.1.1
        refine C.block ?_
        refine C.seq ?_
        refine C.draw [] 4 [0,1,2,3,4,5,6,7,8] [false,true,true,false,false,false,true,true,false] [(false,0),(true,1),(true,2),(false,3),(false,4),(false,5),(true,6),(true,7),(false,8)] Tf.follows (fun _ _ _ h => h) (by kernel_rfl) rfl ?_
        refine L.loadDW rfl Tf.a59 rfl hB1 (by first | simp | assumption) Tf.s59 List.not_mem_nil rfl trivial ?_
        refine L.loadBW rfl Tf.a125 rfl (List.Mem.head _) (by first | exact Tf.s125 | (simp only [ints_length, *]; exact Tf.s125)) List.not_mem_nil rfl trivial ?_
        refine L.callV rfl rfl rfl (fun D3 hD3 => sumsP_ok t _ (by have := hok.len9; omega) htb) rfl trivial ?_
        refine L.callV rfl rfl rfl (fun D4 hD4 => wrong_ok _ r t _ (hr0.up (hD4 _ (by simp))) hok htr) rfl trivial ?_
        refine L.move rfl rfl rfl trivial ?_
        refine L.extract rfl rfl rfl rfl trivial ?_
        refine L.extract rfl rfl rfl rfl trivial ?_
        refine L.assign rfl rfl rfl trivial ?_
        refine L.assign rfl rfl rfl trivial ?_
        refine L.nil ?_
        refine C.next ?_
        refine C.seq ?_
        refine C.region [(false,0),(false,1),(false,2),(false,3),(false,4),(false,5),(false,6)] rfl ?_
        refine L.move rfl rfl rfl trivial ?_
        refine L.move rfl rfl rfl trivial ?_
        refine' L.and [(false,2),(false,3),(false,4),(false,5),(false,6)] [] (s := 32) (p := 37) rfl rfl (fun hg1 => ?_) (fun hg1 => ?_) ?_
        rotate_left
        · refine L.move rfl rfl rfl ⟨_, rfl, rfl⟩ ?_
          refine L.fieldAddr rfl Tf.f59_2 rfl rfl ⟨_, rfl, rfl⟩ ?_
          refine L.loadD1 rfl (k := 2) Tf.a3 rfl hB1 (by first | simp | assumption) rfl List.not_mem_nil rfl ⟨_, rfl, rfl⟩ ?_
          refine L.leq rfl rfl rfl rfl ⟨_, rfl, rfl⟩ ?_
          refine L.pickT rfl rfl rfl rfl trivial ?_
          exact L.nil fun a w hh => hh.cutK 4 rfl
        · refine L.pass rfl rfl rfl ⟨_, _, rfl, rfl, rfl⟩ ?_
          refine L.pass rfl rfl rfl ⟨_, _, rfl, rfl, rfl⟩ ?_
          refine L.pass rfl rfl rfl ⟨_, _, rfl, rfl, rfl⟩ ?_
          refine L.pass rfl rfl rfl ⟨_, _, rfl, rfl, rfl⟩ ?_
          refine L.pickF rfl rfl rfl rfl trivial ?_
          exact L.nil fun a w hh => hh.cutK 4 rfl
        refine L.nil ?_
        refine C.next ?_
        refine C.cond rfl (fun hc3 => ?_) (fun hc3 => ?_)
        · have hfit := fits_yes hc3
          refine C.draw (ν.map (·.1)) 2 [0,1,2,3,4,5,6,7,8,9,10] [false,true,true,true,true,true,true,true,false,false,false] [(false,0),(true,1),(true,2),(true,3),(true,4),(true,5),(true,6),(true,7),(false,8),(false,9),(false,10)] Tf.follows (fun _ _ _ h => h) (by kernel_rfl) rfl ?_
          refine L.loadB1 rfl Tf.a94 rfl (List.Mem.tail _ (List.Mem.head _)) rfl (by first | assumption | simp) rfl trivial ?_
          refine L.loadB1 rfl Tf.a94 rfl (List.Mem.tail _ (List.Mem.head _)) rfl (by first | assumption | simp) rfl trivial ?_
          refine L.nilCheck rfl rfl rfl trivial ?_
          refine L.fieldAddr rfl Tf.f101_1 rfl rfl trivial ?_
          refine L.loadB1 rfl Tf.a99 rfl (List.Mem.tail _ (List.Mem.tail _ (List.Mem.head _))) rfl (by first | assumption | simp) rfl trivial ?_
          refine L.loadBW rfl Tf.a125 rfl (List.Mem.head _) (by first | exact Tf.s125 | (simp only [ints_length, *]; exact Tf.s125)) (by first | assumption | simp) rfl trivial ?_
          refine L.buildSlice rfl Try.underlying99 Tf.s125 Tf.z125 rfl rfl rfl rfl (.cons rfl (by simpa using hp9) .nil) rfl trivial (fun b901 D901 hD901 hA901 => ?_)
          refine L.append (A := [(_, _), (_, _), (_, _)]) (B := [(l, _), (bd, _)]) rfl Try.underlying99 rfl rfl Tf.s125 Tf.z125 rfl Tf.i125 rfl rfl rfl hΦ (Src.lit hA901) (by simp) (by simp [hp9]) (flat_length (ask_all hok pre.length)) (by simpa using ints_cell1 _) (by have := ask_len hok pre.length; omega) (Or.inr (fun p hp => List.mem_map.2 ⟨p, hp, rfl⟩)) rfl trivial (fun v1 ν1 ha1 => ?_)
          have hI1 : AskI 125 r (pre ++ [pad9 t]) (v1, ν1) := by unfold AskI; rw [htake, List.filter_append, List.filter_cons, if_pos hfit, List.filter_nil, List.flatMap_append, List.flatMap_singleton]; simpa using ha1
          simp only [List.cons_append, List.nil_append]
          refine L.nilCheck rfl rfl rfl trivial ?_
          refine L.fieldAddr rfl Tf.f101_1 rfl rfl trivial ?_
          refine L.store rfl rfl rfl ha1.cells1 Tf.s99 (.tail (.tail (Has.head))) (by simp) rfl ha1.cell1 trivial ?_
          refine L.nil ?_
          refine C.blockEnd ?_
          exact fun a w hh => C.roundOn (A := [(_, _), (_, _)] ++ ν1) (B := [(bd, .deferred (some []))]) (v1, ν1) hI1 rfl rfl a w (hh.dropBoxes 1)
        · have hfit := fits_no hc3
          have hI0 : AskI 125 r (pre ++ [pad9 t]) (v, ν) := by unfold AskI; rw [htake, List.filter_append, List.filter_cons, if_neg (by simp [hfit]), List.filter_nil, List.append_nil]; exact hΦ
          refine C.skip ?_
          refine C.blockEnd ?_
          exact fun a w hh => C.roundOn (A := [(_, _), (_, _)] ++ ν) (B := [(bd, .deferred (some []))]) (v, ν) hI0 rfl rfl a w (hh.dropBoxes 1)
      · rintro ⟨v, ν⟩ bd hΦ
        have hΦ' : Acc 125 9 v (truths r).length ((truths r).flatMap fun t => ints (pad9 t)) ν := by simpa [AskI, truths] using hΦ
        have hall : ∀ t ∈ truths r, t.length ≤ 9 := fun t ht => by have := (allT_ok (List.mem_filter.1 ht).1).1; have := hok.len9; omega
        have hll := truths_length hok
        refine C.blockEnd ?_
        refine C.next ?_
        refine C.seq ?_
        refine C.seq ?_
        refine C.region [(false,0),(false,1),(false,2),(false,3),(false,4),(false,5)] rfl ?_
        refine L.loadB1 rfl Tf.a94 rfl (List.Mem.head _) rfl List.not_mem_nil rfl trivial ?_
        refine L.nilCheck rfl rfl rfl trivial ?_
        refine L.fieldAddr rfl Tf.f101_1 rfl rfl trivial ?_
        refine L.loadB1 rfl Tf.a99 rfl (List.Mem.tail _ (List.Mem.head _)) rfl List.not_mem_nil rfl trivial ?_
        refine L.lenAcc rfl Try.underlying99 rfl hΦ' rfl rfl trivial ?_
        refine L.eql rfl rfl rfl rfl trivial ?_
        refine L.nil ?_
        refine C.next ?_
        refine C.condD rfl (fun hc4 => ?_) (fun hc4 => ?_)
        · have htn : truths r = [] := List.length_eq_zero_iff.1 (by omega)
          have hask : askErr r fine = 11 := by rw [askErr, if_neg hc1, if_neg (by simpa using hc2), if_pos htn]
          refine C.seq ?_
          refine C.region [(false,0),(false,1)] rfl ?_
          refine L.assign rfl rfl rfl trivial ?_
          refine L.assign rfl rfl rfl trivial ?_
          refine L.nil ?_
          refine C.next ?_
          refine C.ret ?_
          refine C.thenRet ?_
          exact leaveM1 (vs := [_, _]) (A := [(_, _), (_, _)] ++ ν) rfl rfl rfl ⟨rfl, rfl, trivial⟩ (fun D hD => ⟨_, by rw [hask]; rfl, fun h => by rw [hask] at h; omega⟩)
        · have htn : truths r ≠ [] := fun e => hc4 (by rw [e]; rfl)
          have hask : askErr r fine = 0 := by rw [askErr, if_neg hc1, if_neg (by simpa using hc2), if_neg htn]
          refine C.skip ?_
          refine C.next ?_
          refine C.seq ?_
          refine C.region [(false,0),(false,1),(false,2)] rfl ?_
          refine L.loadB1 rfl Tf.a94 rfl (List.Mem.head _) rfl List.not_mem_nil rfl trivial ?_
          refine L.assign rfl rfl rfl trivial ?_
          refine L.assign rfl rfl rfl trivial ?_
          refine L.nil ?_
          refine C.next ?_
          refine C.ret ?_
          refine Q.freeze (A := [(_, _), (_, _)]) (B := [(bd, .deferred (some []))]) hΦ' rfl (fun D8 hD8 hF8 => ?_)
          refine Q.freeze (A := [(_, _)]) (ν := [(q2, _)]) (B := [(bd, .deferred (some []))]) (acc_one (sz := 5) rfl) rfl (fun D9 hD9 hF9 => ?_)
          exact leaveM1 (vs := [_, _]) (A := [(_, _)]) rfl rfl rfl ⟨rfl, rfl, trivial⟩ (fun D hD => ⟨_, by rw [hask]; rfl, fun _ => ⟨hok, q2, pv, cv, v, rfl, (hF9.at (by omega)).up (hD _ (by simp)), hp.up RI.up (hD _ (by simp)), hc.up RC.up (hD _ (by simp)), (hF8.truths rfl (by omega) hall).up RT.up (hD _ (by simp))⟩⟩)
end Go.Fs
