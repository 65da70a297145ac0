/- Walks: the reference: the truths of a row, the least number of wrong counts. -/
import Derived.Test.YtgnnlghoadfffaaW14
namespace Go.Fs
open Go.Proofs
open C1
theorem allT_len {r : RowD} (hok : RowOk r) : (allT r.places).length ≤ 512 := by
  have h1 := allT_length r.places
  have h3 : 2 ^ r.places.length ≤ 2 ^ 9 := Nat.pow_le_pow_right (by omega) hok.len9
  omega
theorem filt_yes {α : Type} {l : List α} {p : α → Bool} {k : Nat} {x : α} (hx : l[k]? = some x) (h : p x = true) : (l.take (k + 1)).filter p = (l.take k).filter p ++ [x] := by
  rw [List.take_add_one, hx, Option.toList_some, List.filter_append, List.filter_cons, if_pos h]; rfl
theorem filt_no {α : Type} {l : List α} {p : α → Bool} {k : Nat} {x : α} (hx : l[k]? = some x) (h : p x = false) : (l.take (k + 1)).filter p = (l.take k).filter p := by
  rw [List.take_add_one, hx, Option.toList_some, List.filter_append, List.filter_cons, if_neg (by simp [h])]; simp
theorem allT_isTruth {r : RowD} {t : List Int} (h : t ∈ allT r.places) : isTruth r t = true := by
  have key : ∀ (l t : List Int), t ∈ allT l → (t.length == l.length) = true ∧ ((t.zip l).all fun x => placeIs x.1 x.2) = true := by
    intro l
    induction l with
    | nil => intro t h; simp [allT] at h; subst h; simp
    | cons p ps ih =>
      intro t h
      simp only [allT, List.mem_append] at h
      rcases h with h | h
      · split at h
        · rename_i hp
          obtain ⟨u, hu, rfl⟩ := List.mem_map.1 h
          obtain ⟨h1, h2⟩ := ih u hu
          refine ⟨by simpa using h1, ?_⟩
          rw [List.zip_cons_cons, List.all_cons, h2]
          rcases hp with rfl | rfl <;> rfl
        · simp at h
      · split at h
        · rename_i hp
          obtain ⟨u, hu, rfl⟩ := List.mem_map.1 h
          obtain ⟨h1, h2⟩ := ih u hu
          refine ⟨by simpa using h1, ?_⟩
          rw [List.zip_cons_cons, List.all_cons, h2]
          rcases hp with rfl | rfl <;> rfl
        · simp at h
  obtain ⟨h1, h2⟩ := key r.places t h
  unfold isTruth; rw [h1, h2]; rfl
theorem fits_both {r : RowD} {t : List Int} (_hm : t ∈ allT r.places) (h : (isTruth r t && fits r t) = true) : fits r t = true := (Bool.and_eq_true_iff.1 h).2
theorem fits_none {r : RowD} {t : List Int} (hm : t ∈ allT r.places) (_hok : RowOk r) (h : (isTruth r t && fits r t) = false) : fits r t = false := by
  rw [allT_isTruth hm] at h; simpa using h
theorem leastOf_nonneg (r : RowD) (us : List (List Int)) : ∀ m, leastOf r us = some m → 0 ≤ m := by
  have key : ∀ (us : List (List Int)) (o : Option Int), (∀ m, o = some m → 0 ≤ m) → ∀ m, us.foldl (leastStep r) o = some m → 0 ≤ m := by
    intro us
    induction us with
    | nil => intro o h m hm; exact h m hm
    | cons t us ih =>
      intro o h m hm
      rw [List.foldl_cons] at hm
      refine ih _ ?_ m hm
      intro m' hm'
      unfold leastStep at hm'
      split at hm'
      · cases o with
        | none => simp at hm'; omega
        | some q => simp at hm'; have := h q rfl; omega
      · exact h m' hm'
  exact key us none (by simp)
theorem leastr_yes {r : RowD} {l : List (List Int)} {k : Nat} {t : List Int} (ht : l[k]? = some t) (h : (decide (0 ≤ (if explains r t = true then (wrongs r t : Int) else -1)) && (decide ((leastOf r (l.take k)).getD (-1) < 0) || decide ((if explains r t = true then (wrongs r t : Int) else -1) < (leastOf r (l.take k)).getD (-1)))) = true) :
    (leastOf r (l.take (k + 1))).getD (-1) = (if explains r t = true then (wrongs r t : Int) else -1) := by
  rw [List.take_add_one, ht, Option.toList_some, leastOf_snoc]
  simp only [Bool.and_eq_true, Bool.or_eq_true, decide_eq_true_eq] at h
  unfold leastStep
  by_cases he : explains r t = true
  · simp only [he, if_true] at h ⊢
    cases ho : leastOf r (l.take k) with
    | none => rfl
    | some m =>
      rw [ho] at h
      have := leastOf_nonneg r _ m ho
      simp only [Option.getD_some] at h ⊢
      omega
  · rw [if_neg he] at h; omega
theorem leastr_no {r : RowD} {l : List (List Int)} {k : Nat} {t : List Int} (ht : l[k]? = some t) (h : (decide (0 ≤ (if explains r t = true then (wrongs r t : Int) else -1)) && (decide ((leastOf r (l.take k)).getD (-1) < 0) || decide ((if explains r t = true then (wrongs r t : Int) else -1) < (leastOf r (l.take k)).getD (-1)))) = false) :
    (leastOf r (l.take (k + 1))).getD (-1) = (leastOf r (l.take k)).getD (-1) := by
  rw [List.take_add_one, ht, Option.toList_some, leastOf_snoc]
  unfold leastStep
  by_cases he : explains r t = true
  · simp only [he, if_true, Bool.and_eq_false_iff, Bool.or_eq_false_iff, decide_eq_false_iff_not] at h ⊢
    cases ho : leastOf r (l.take k) with
    | none => rw [ho] at h; simp at h
    | some m =>
      rw [ho] at h
      simp only [Option.getD_some] at h ⊢
      omega
  · rw [if_neg he]
open C1
theorem Truths_ok (rv : Value) (r : RowD) (D : Data) (hr : RowIs D rv r) (hok : RowOk r) : Fn Try.prog 37 #[rv] D (fun D' v => Sl D' RL 1 v (truths r)) := by
  have hr0 := hr
  obtain ⟨pv, cv, rfl, hp, hc⟩ := hr
  have hal := allT_len hok
  refine enter 28 Try.func37 rfl rfl rfl rfl fun h0 => ?_
  refine C.seq ?_
  refine C.region [(false,0),(false,1)] rfl ?_
  refine L.boxD rfl rfl rfl rfl trivial (fun q1 E1 hE1 hB1 => ?_)
  refine L.assign rfl rfl rfl trivial ?_
  refine L.nil ?_
  refine C.next ?_
  refine C.seq ?_
  refine C.region [(false,0)] rfl ?_
  refine L.assign rfl rfl rfl trivial ?_
  refine L.nil ?_
  refine C.next ?_
  refine C.seq ?_
  refine C.region [(false,0),(false,1),(false,2)] rfl ?_
  refine L.loadDW rfl Tf.a25 rfl hB1 (by first | simp | assumption) Tf.s25 List.not_mem_nil rfl trivial ?_
  refine L.call rfl rfl rfl (fun D1 hD1 => All_ok _ r _ (hr0.up (hD1 _ (by simp))) hok) rfl trivial (fun v1 D1 hD1 hp1 => ?_)
  have hS := hp1
  refine L.assign rfl rfl rfl trivial ?_
  refine L.nil ?_
  refine C.next ?_
  refine C.seq ?_
  refine C.seq ?_
  refine C.region [(false,0)] rfl ?_
  refine L.assign rfl rfl rfl trivial ?_
  refine L.nil ?_
  refine C.next ?_
  refine C.block ?_
  refine C.loopR (γ := Nat × Value × List Value × Boxes) (fun g => (allT r.places).length - g.1) (fun g => g.1 ≤ (allT r.places).length ∧ Acc 22 1 g.2.1 g.2.2.1.length g.2.2.1 g.2.2.2 ∧ LA D1 g.2.2.1 (((allT r.places).take g.1).filter (fits r))) (fun g => [(5, .int .i64 (g.1 : Int)), (3, g.2.1)]) [(4, _), (2, _), (1, _)] (fun g => g.2.2.2 ++ []) (fun g => [D1, E1, D]) (0, .slice none 0 0, [], []) ⟨by simp, by simpa using Acc.nil, by simpa using LA.nil⟩ ⟨(by first | rfl | (show some (Value.int _ _) = some (Value.int _ _); congr 2; omega)), (by first | rfl | (show some (Value.int _ _) = some (Value.int _ _); congr 2; omega)), trivial⟩ ⟨rfl, rfl, rfl, trivial⟩ (List.Sublist.refl _) (ds_same) ?_
  rintro ⟨k, v, vs, ν⟩ ⟨h1, ha, hla⟩
  simp only at h1 ha hla
  have hvl := hla.len
  have hfl := List.length_filter_le (fits r) ((allT r.places).take k)
  have htk : ((allT r.places).take k).length ≤ k := List.length_take_le _ _
  refine C.seq ?_
  refine C.seq ?_
  refine C.region [(false,0),(false,1),(false,2),(false,3)] rfl ?_
  refine L.move rfl rfl rfl trivial ?_
  refine L.move rfl rfl rfl trivial ?_
  refine L.len rfl Try.underlying37 rfl hS rfl rfl trivial ?_
  refine L.lss rfl rfl rfl rfl trivial ?_
  refine L.nil ?_
  refine C.next ?_
  refine C.condD rfl (fun hc1 => ?_) (fun hc1 => ?_)
  · have hk : k < (allT r.places).length := by omega
    obtain ⟨t, ht⟩ : ∃ t, (allT r.places)[k]? = some t := ⟨_, List.getElem?_eq_getElem hk⟩
    have htm := List.mem_of_getElem? ht
    have htr : TruthOk r t := allT_ok htm
    refine C.skip ?_
    refine C.next ?_
    refine C.seq ?_
    refine C.block ?_
    refine C.seq ?_
    refine C.draw [] 3 [0,1,2,3,4,5] [false,true,true,true,true,false] [(false,0),(true,1),(true,2),(true,3),(true,4),(false,5)] Tf.follows (fun _ _ _ h => np_body (P := Try.prog) (fn := Try.f37) _ _ _ h) (by kernel_rfl) rfl ?_
    refine L.loadDW rfl Tf.a25 rfl hB1 (by first | simp | assumption) Tf.s25 List.not_mem_nil rfl trivial ?_
    refine L.move rfl rfl rfl trivial ?_
    refine L.move rfl rfl rfl trivial ?_
    refine L.indexS rfl Try.underlying37 Tf.s22 rfl hS rfl (by omega) ht rfl trivial (fun b1 o1 cs1 hr1 hcl1 hA1 => ?_)
    obtain ⟨w1, rfl, hw1⟩ := hr1
    refine L.loadD1 rfl (k := 0) Tf.a22 rfl hA1 (by first | simp | assumption) rfl List.not_mem_nil rfl trivial ?_
    refine L.callV rfl rfl rfl (fun D2 hD2 => Fits_ok _ _ r t _ (hr0.up (hD2 _ (by simp))) (hw1.up RI.up (hD2 _ (by simp))) hok) rfl trivial ?_
    refine L.nil ?_
    refine C.next ?_
    refine C.cond rfl (fun hc2 => ?_) (fun hc2 => ?_)
    · have hfy := (fits_both htm hc2)
      refine C.region [(false,0),(false,1),(false,2),(false,3),(false,4),(false,5),(false,6),(false,7)] rfl ?_
      refine L.move rfl rfl rfl trivial ?_
      refine L.move rfl rfl rfl trivial ?_
      refine L.move rfl rfl rfl trivial ?_
      refine L.indexS rfl Try.underlying37 Tf.s22 rfl hS rfl (by omega) ht rfl trivial (fun b2 o2 cs2 hr2 hcl2 hA2 => ?_)
      obtain ⟨w2, rfl, hw2⟩ := hr2
      refine L.loadD1 rfl (k := 0) Tf.a22 rfl hA2 (by first | simp | assumption) rfl List.not_mem_nil rfl trivial ?_
      refine L.buildSlice rfl Try.underlying37 Tf.s22 Tf.z22 rfl rfl rfl rfl (.cons hw2.cells1 rfl .nil) rfl trivial (fun b901 D901 hD901 hA901 => ?_)
      refine L.append (A := []) (B := _) rfl Try.underlying37 rfl rfl Tf.s22 Tf.z22 rfl Tf.i22 rfl rfl rfl ha (Src.lit hA901) (by simp) rfl (by simp) (by simpa using hw2.cell1) (by omega) (Or.inl rfl) rfl trivial (fun v1 ν1 ha1 => ?_)
      refine L.assign rfl rfl rfl trivial ?_
      refine L.nil ?_
      refine C.blockEnd ?_
      refine C.next ?_
      refine C.region [(false,0),(false,1),(false,2)] rfl ?_
      refine L.move rfl rfl rfl trivial ?_
      refine L.add rfl rfl rfl (by simp only [inK]; omega) rfl trivial ?_
      refine L.assign rfl rfl rfl trivial ?_
      refine L.nil ?_
      exact C.againR 23 (k + 1, v1, vs ++ [w2], ν1) ⟨by simp only; omega, by simpa using ha1, by simp only; rw [filt_yes ht hfy]; exact hla.snoc hw2⟩ (by simp only; omega) ⟨(by first | rfl | (show some (Value.int _ _) = some (Value.int _ _); congr 2; omega)), (by first | rfl | (show some (Value.int _ _) = some (Value.int _ _); congr 2; omega)), trivial⟩ rfl rfl (List.Sublist.refl _) (fun D h => ⟨D, List.Mem.tail _ (h), Le.refl D⟩)
    · have hfn := fits_none htm hok hc2
      refine C.skip ?_
      refine C.blockEnd ?_
      refine C.next ?_
      refine C.region [(false,0),(false,1),(false,2)] rfl ?_
      refine L.move rfl rfl rfl trivial ?_
      refine L.add rfl rfl rfl (by simp only [inK]; omega) rfl trivial ?_
      refine L.assign rfl rfl rfl trivial ?_
      refine L.nil ?_
      exact C.againR 15 (k + 1, v, vs, ν) ⟨by simp only; omega, ha, by simp only; rw [filt_no ht hfn]; exact hla⟩ (by simp only; omega) ⟨(by first | rfl | (show some (Value.int _ _) = some (Value.int _ _); congr 2; omega)), (by first | rfl | (show some (Value.int _ _) = some (Value.int _ _); congr 2; omega)), trivial⟩ rfl rfl (List.Sublist.refl _) (ds_same)
  · obtain rfl : k = (allT r.places).length := by omega
    rw [List.take_length] at hla
    refine C.exit ?_
    refine C.thenExit ?_
    refine C.thenExit ?_
    refine C.blockExit ?_
    refine C.next ?_
    refine C.seq ?_
    refine C.region [(false,0),(false,1)] rfl ?_
    refine L.move rfl rfl rfl trivial ?_
    refine L.assign rfl rfl rfl trivial ?_
    refine L.nil ?_
    refine C.next ?_
    refine C.ret ?_
    refine Q.freeze (A := []) (B := []) ha rfl (fun D2 hD2 hF => ?_)
    exact leave (vs := [_]) rfl rfl rfl ⟨rfl, trivial⟩ (fun D' hD => (hF.lists hla (hD2 _ (by simp)) (by have := List.length_filter_le (fits r) (allT r.places); omega)).up RL.up (hD _ (by simp)))
theorem LeastR_ok (rv : Value) (r : RowD) (D : Data) (hr : RowIs D rv r) (hok : RowOk r) : Fn Try.prog 52 #[rv] D (fun _ v => v = .int .i64 ((leastOf r (allT r.places)).getD (-1))) := by
  have hr0 := hr
  obtain ⟨pv, cv, rfl, hp, hc⟩ := hr
  have hal := allT_len hok
  refine enter 34 Try.func52 rfl rfl rfl rfl fun h0 => ?_
  refine C.seq ?_
  refine C.region [(false,0),(false,1)] rfl ?_
  refine L.boxD rfl rfl rfl rfl trivial (fun q1 E1 hE1 hB1 => ?_)
  refine L.assign rfl rfl rfl trivial ?_
  refine L.nil ?_
  refine C.next ?_
  refine C.seq ?_
  refine C.region [(false,0)] rfl ?_
  refine L.assign rfl rfl rfl trivial ?_
  refine L.nil ?_
  refine C.next ?_
  refine C.seq ?_
  refine C.region [(false,0),(false,1),(false,2)] rfl ?_
  refine L.loadDW rfl Tf.a25 rfl hB1 (by first | simp | assumption) Tf.s25 List.not_mem_nil rfl trivial ?_
  refine L.call rfl rfl rfl (fun D1 hD1 => All_ok _ r _ (hr0.up (hD1 _ (by simp))) hok) rfl trivial (fun v1 D1 hD1 hp1 => ?_)
  have hS := hp1
  refine L.assign rfl rfl rfl trivial ?_
  refine L.nil ?_
  refine C.next ?_
  refine C.seq ?_
  refine C.seq ?_
  refine C.region [(false,0)] rfl ?_
  refine L.assign rfl rfl rfl trivial ?_
  refine L.nil ?_
  refine C.next ?_
  refine C.block ?_
  refine C.loopC (γ := Nat) (fun k => (allT r.places).length - k) (fun k => k ≤ (allT r.places).length) (fun k => [(5, .int .i64 (k : Int)), (3, .int .i64 ((leastOf r ((allT r.places).take k)).getD (-1)))]) [(4, _), (2, _), (1, _)] (fun k => [D1, E1, D]) 0 (by omega) ⟨(by first | rfl | (show some (Value.int _ _) = some (Value.int _ _); congr 2; omega)), (by first | rfl | (show some (Value.int _ _) = some (Value.int _ _); congr 2; omega)), trivial⟩ ⟨rfl, rfl, rfl, trivial⟩ (ds_same) ?_
  rintro k h1
  refine C.seq ?_
  refine C.seq ?_
  refine C.region [(false,0),(false,1),(false,2),(false,3)] rfl ?_
  refine L.move rfl rfl rfl trivial ?_
  refine L.move rfl rfl rfl trivial ?_
  refine L.len rfl Try.underlying37 rfl hS rfl rfl trivial ?_
  refine L.lss rfl rfl rfl rfl trivial ?_
  refine L.nil ?_
  refine C.next ?_
  refine C.condD rfl (fun hc1 => ?_) (fun hc1 => ?_)
  · have hk : k < (allT r.places).length := by omega
    obtain ⟨t, ht⟩ : ∃ t, (allT r.places)[k]? = some t := ⟨_, List.getElem?_eq_getElem hk⟩
    have htm := List.mem_of_getElem? ht
    have htr : TruthOk r t := allT_ok htm
    refine C.skip ?_
    refine C.next ?_
    refine C.seq ?_
    refine C.block ?_
    refine C.seq ?_
    refine C.draw [] 3 [0,1,2,3,4,5,6] [false,true,true,true,true,false,false] [(false,0),(true,1),(true,2),(true,3),(true,4),(false,5),(false,6)] Tf.follows (fun _ _ _ h => np_body (P := Try.prog) (fn := Try.f52) _ _ _ h) (by kernel_rfl) rfl ?_
    refine L.loadDW rfl Tf.a25 rfl hB1 (by first | simp | assumption) Tf.s25 List.not_mem_nil rfl trivial ?_
    refine L.move rfl rfl rfl trivial ?_
    refine L.move rfl rfl rfl trivial ?_
    refine L.indexS rfl Try.underlying37 Tf.s22 rfl hS rfl (by omega) ht rfl trivial (fun b1 o1 cs1 hr1 hcl1 hA1 => ?_)
    obtain ⟨w1, rfl, hw1⟩ := hr1
    refine L.loadD1 rfl (k := 0) Tf.a22 rfl hA1 (by first | simp | assumption) rfl List.not_mem_nil rfl trivial ?_
    refine L.callV rfl rfl rfl (fun D2 hD2 => Wrong_ok _ _ r t _ (hr0.up (hD2 _ (by simp))) (hw1.up RI.up (hD2 _ (by simp))) hok htr) rfl trivial ?_
    refine L.assign rfl rfl rfl trivial ?_
    refine L.nil ?_
    refine C.next ?_
    refine C.seq ?_
    refine C.region [(false,0),(false,1),(false,2),(false,3),(false,4),(false,5),(false,6),(false,7),(false,8),(false,9),(false,10)] rfl ?_
    refine L.move rfl rfl rfl trivial ?_
    refine L.geq rfl rfl rfl rfl trivial ?_
    refine L.move rfl rfl rfl trivial ?_
    refine' L.and [(false,3),(false,4),(false,5),(false,6),(false,7),(false,8),(false,9),(false,10)] [] (s := 23) (p := 31) rfl rfl (fun hg1 => ?_) (fun hg1 => ?_) ?_
    rotate_left
    · refine L.move rfl rfl rfl ⟨_, rfl, rfl⟩ ?_
      refine L.lss rfl rfl rfl rfl ⟨_, rfl, rfl⟩ ?_
      refine L.move rfl rfl rfl ⟨_, rfl, rfl⟩ ?_
      refine' L.or [(false,6),(false,7),(false,8),(false,9)] [(false,10)] (s := 26) (p := 30) rfl rfl (fun hg2 => ?_) (fun hg2 => ?_) ?_
      rotate_left
      · refine L.move rfl rfl rfl ⟨_, rfl, rfl⟩ ?_
        refine L.move rfl rfl rfl ⟨_, rfl, rfl⟩ ?_
        refine L.lss rfl rfl rfl rfl ⟨_, rfl, rfl⟩ ?_
        refine L.pickF rfl rfl rfl rfl ⟨_, rfl, rfl⟩ ?_
        exact L.nil fun a w hh => hh.cutK 3 rfl
      · refine L.pass rfl rfl rfl ⟨_, _, rfl, rfl, rfl⟩ ?_
        refine L.pass rfl rfl rfl ⟨_, _, rfl, rfl, rfl⟩ ?_
        refine L.pass rfl rfl rfl ⟨_, _, rfl, rfl, rfl⟩ ?_
        refine L.pickT rfl rfl rfl rfl ⟨_, rfl, rfl⟩ ?_
        exact L.nil fun a w hh => hh.cutK 3 rfl
      refine L.pickT rfl rfl rfl rfl trivial ?_
      exact L.nil fun a w hh => hh.cutK 4 rfl
    · refine L.pass rfl rfl rfl ⟨_, _, rfl, rfl, rfl⟩ ?_
      refine L.pass rfl rfl rfl ⟨_, _, rfl, rfl, rfl⟩ ?_
      refine L.pass rfl rfl rfl ⟨_, _, rfl, rfl, rfl⟩ ?_
      refine L.pass rfl rfl rfl ⟨_, _, rfl, rfl, rfl⟩ ?_
      refine L.pass rfl rfl rfl ⟨_, _, rfl, rfl, rfl⟩ ?_
      refine L.pass rfl rfl rfl ⟨_, _, rfl, rfl, rfl⟩ ?_
      refine L.pass rfl rfl rfl ⟨_, _, rfl, rfl, rfl⟩ ?_
      refine L.pickF rfl rfl rfl rfl trivial ?_
      exact L.nil fun a w hh => hh.cutK 7 rfl
    refine L.nil ?_
    refine C.next ?_
    refine C.cond rfl (fun hc2 => ?_) (fun hc2 => ?_)
    · refine C.region [(false,0),(false,1)] rfl ?_
      refine L.move rfl rfl rfl trivial ?_
      refine L.assign rfl rfl rfl trivial ?_
      refine L.nil ?_
      refine C.blockEnd ?_
      refine C.next ?_
      refine C.region [(false,0),(false,1),(false,2)] rfl ?_
      refine L.move rfl rfl rfl trivial ?_
      refine L.add rfl rfl rfl (by simp only [inK]; omega) rfl trivial ?_
      refine L.assign rfl rfl rfl trivial ?_
      refine L.nil ?_
      exact C.againR 22 (k + 1) (by omega) (by omega) ⟨(by first | rfl | (show some (Value.int _ _) = some (Value.int _ _); congr 2; omega)), (by rw [leastr_yes ht hc2]; rfl), trivial⟩ rfl rfl (List.Sublist.refl _) (ds_same)
    · refine C.skip ?_
      refine C.blockEnd ?_
      refine C.next ?_
      refine C.region [(false,0),(false,1),(false,2)] rfl ?_
      refine L.move rfl rfl rfl trivial ?_
      refine L.add rfl rfl rfl (by simp only [inK]; omega) rfl trivial ?_
      refine L.assign rfl rfl rfl trivial ?_
      refine L.nil ?_
      exact C.againR 20 (k + 1) (by omega) (by omega) ⟨(by first | rfl | (show some (Value.int _ _) = some (Value.int _ _); congr 2; omega)), (by rw [leastr_no ht hc2]; rfl), trivial⟩ rfl rfl (List.Sublist.refl _) (ds_same)
  · obtain rfl : k = (allT r.places).length := by omega
    rw [List.take_length]
    refine C.exit ?_
    refine C.thenExit ?_
    refine C.thenExit ?_
    refine C.blockExit ?_
    refine C.next ?_
    refine C.seq ?_
    refine C.region [(false,0),(false,1)] rfl ?_
    refine L.move rfl rfl rfl trivial ?_
    refine L.assign rfl rfl rfl trivial ?_
    refine L.nil ?_
    refine C.next ?_
    refine C.ret ?_
    exact leave (vs := [_]) rfl rfl rfl ⟨rfl, trivial⟩ (fun D hD => rfl)
end Go.Fs
