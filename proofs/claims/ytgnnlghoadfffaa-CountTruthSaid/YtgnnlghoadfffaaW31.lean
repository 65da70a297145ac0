/- Walks: the law CountTruth. -/
import Derived.Test.YtgnnlghoadfffaaW26
import Derived.Test.YtgnnlghoadfffaaW27
import Derived.Test.YtgnnlghoadfffaaShell
namespace Go.Fs
open Go.Proofs
open C1
def wordV (ws : List Int) (a : Int) : Int := if (ws.length : Int) = 0 then 0 else ws.getD (a % ws.length).toNat 0
theorem wordV_none {ws : List Int} {a : Int} (h : (ws.length : Int) = 0) : wordV ws a = 0 := if_pos h
theorem wordV_get {ws : List Int} {a x : Int} (h : ¬ (ws.length : Int) = 0) (hx : ws[(a % ws.length).toNat]? = some x) : wordV ws a = x := by
  unfold wordV; rw [if_neg h, List.getD_eq_getElem?_getD, hx]; rfl
/-- So far: the counts are valid, off by what is allowed, and not too many are wrong. -/
structure CInv (r : RowD) (t : List Int) (k : Nat) (l : List Cnt) (left : Int) : Prop where
  len : l.length = k
  six : k ≤ 6
  cnt : ∀ c ∈ l, 0 ≤ c.many ∧ c.many ≤ r.places.length ∧ 0 ≤ c.num ∧ c.num ≤ 9
  err : ∀ c ∈ l, errOf t c ≤ r.off
  wr : ((l.filter fun c => decide (0 < errOf t c)).length : Int) + left ≤ r.wrong
  left : 0 ≤ left
theorem ci_nil {r : RowD} (hok : RowOk r) (t : List Int) : CInv r t 0 [] r.wrong := ⟨rfl, by omega, by simp, by simp, by simp, hok.wrong.1⟩
theorem err_at {t : List Int} {b : Bool} {m z n : Int} (h : about t ⟨b, m, z⟩ = n) : errOf t ⟨b, m, z⟩ = max (n - z) (z - n) := by
  unfold errOf; rw [h]
theorem ci_step {r : RowD} {t : List Int} {k : Nat} {l : List Cnt} {left left' : Int} {c : Cnt} (h : CInv r t k l left) (hk : k + 1 ≤ 6) (hm : 0 ≤ c.many ∧ c.many ≤ r.places.length) (hn : 0 ≤ c.num ∧ c.num ≤ 9) (he : errOf t c ≤ r.off)
    (hl : (left' = left ∧ errOf t c = 0) ∨ (left' = left - 1 ∧ 0 < left)) : CInv r t (k + 1) (l ++ [c]) left' := by
  have hw := h.wr
  have h0 := h.left
  refine ⟨by simp [h.len], hk, fun d hd => ?_, fun d hd => ?_, ?_, by omega⟩
  · rcases List.mem_append.1 hd with hd | hd
    · exact h.cnt d hd
    · obtain rfl := List.mem_singleton.1 hd; exact ⟨hm.1, hm.2, hn.1, hn.2⟩
  · rcases List.mem_append.1 hd with hd | hd
    · exact h.err d hd
    · obtain rfl := List.mem_singleton.1 hd; exact he
  · rw [List.filter_append, List.length_append]
    rcases hl with ⟨rfl, h1⟩ | ⟨rfl, h1⟩
    · simp only [List.filter_cons, h1, List.filter_nil]
      simp only [Int.lt_irrefl, decide_false, Bool.false_eq_true, if_false, List.length_nil]
      omega
    · have := List.length_filter_le (fun c => decide (0 < errOf t c)) [c]
      simp only [List.length_singleton] at this
      omega
theorem ci_ok {r : RowD} {t : List Int} {k : Nat} {l : List Cnt} {left : Int} (hok : RowOk r) (h : CInv r t k l left) : RowOk ⟨r.places, l, r.wrong, r.off⟩ :=
  ⟨hok.len0, hok.len9, by have := h.len; have := h.six; show l.length ≤ 6; omega, hok.wrong, hok.off, hok.place, h.cnt⟩
theorem ci_truth {r : RowD} {t : List Int} {k : Nat} {l : List Cnt} {left : Int} (h : CInv r t k l left) (ht : t ∈ allT r.places) : t ∈ truths ⟨r.places, l, r.wrong, r.off⟩ := by
  rw [mem_truths, fits_iff, explains_iff]
  have hw := h.wr
  have h0 := h.left
  exact ⟨ht, h.err, by show ((l.filter fun c => decide (0 < errOf t c)).length : Int) ≤ r.wrong; omega⟩
theorem st_vd {ts : List (List Int)} {q : List Int → Bool} {t : List Int} (ht : t ∈ ts) {b : Bool} (hb : q t = b) : ((inB (vd ts q) 1 3 && (decide (vd ts q ≠ 1) || b)) && (decide (vd ts q ≠ 2) || !b)) = true := by
  subst hb
  have key : (vd ts q = 1 ∧ q t = true) ∨ (vd ts q = 2 ∧ q t = false) ∨ vd ts q = 3 := by
    cases ts with
    | nil => cases ht
    | cons t0 l =>
      by_cases ha : ((t0 :: l).all fun t => q t == q t0) = true
      · have hq : q t = q t0 := by simpa using List.all_eq_true.1 ha t ht
        have hv : vd (t0 :: l) q = if q t0 = true then 1 else 2 := if_pos ha
        rw [hv, hq]
        cases q t0 <;> simp
      · exact Or.inr (Or.inr (if_neg ha))
  rcases key with ⟨h1, h2⟩ | ⟨h1, h2⟩ | h1
  · simp [inB, h1, h2]
  · simp [inB, h1, h2]
  · simp [inB, h1]
theorem st_has {t : List Int} {k : Nat} {y : Int} (htb : ∀ x ∈ t, 0 ≤ x ∧ x ≤ 1) (hy : t[k]? = some y) : hasAt k t = decide (y = 1) := by
  have := htb y (List.mem_of_getElem? hy)
  unfold hasAt
  rw [List.getD_eq_getElem?_getD, hy, Option.getD_some]
  exact decide_eq_decide.2 (by omega)
theorem st_right {x : RowD} {t : List Int} {k : Nat} {c : Cnt} (hx : x.counts[k]? = some c) : rightAt x k t = decide (errOf t c = 0) := by
  rw [rightAt_fn hx]
theorem tr_facts {x : RowD} {t : List Int} {i j : Nat} (hok : RowOk x) (ht : t ∈ truths x) (hij : i ≤ j) (hj : j < x.places.length) :
    fault x = 0 ∧ isTruth x t = true ∧ askErr x true = 0 ∧ askErr x (partOk x i j) = 0 ∧ leastE x = 0 ∧ chV x i j = (loOf (truths x) i j, hiOf (truths x) i j) ∧ (loOf (truths x) i j ≤ sumFrom t i (j + 1 - i) ∧ sumFrom t i (j + 1 - i) ≤ hiOf (truths x) i j ∧ explains x t = true ∧ (wrongs x t : Int) ≤ x.wrong) ∧ leastV x ≤ (wrongs x t : Int) ∧ (wrongs x t : Int) ≤ x.wrong := by
  have hf := rowOk_iff.2 hok
  have hne := List.ne_nil_of_mem ht
  obtain ⟨hta, hfit⟩ := mem_truths.1 ht
  obtain ⟨hex, hw⟩ := fits_iff.1 hfit
  have hz : askErr x true = 0 := by unfold askErr; rw [if_neg (by omega), if_neg (by simp), if_neg hne]
  have ha := (ask_in hok hij hj).trans hz
  have hex2 : explains x t = true := hex
  refine ⟨hf, allT_isTruth hta, hz, ha, ?_, ch_in (ask_in hok hij hj) hz, ⟨lo_le ht, le_hi ht, hex2, hw⟩, ?_, hw⟩
  · unfold leastE
    rw [hf]
    cases hl : leastOf x (allT x.places) with
    | none => exact absurd hex2 (by rw [least_none.1 hl t hta]; simp)
    | some m => rfl
  · unfold leastV
    rw [hf]
    cases hl : leastOf x (allT x.places) with
    | none => exact absurd hex2 (by rw [least_none.1 hl t hta]; simp)
    | some m => exact (least_some hl).2 t hta hex2
theorem tr_end {x : RowD} {t : List Int} (h1 : leastV x ≤ (wrongs x t : Int)) (h2 : (wrongs x t : Int) ≤ x.wrong) : ((decide (leastV x ≤ ((x.counts.filter fun c => decide (0 < errOf t c)).length : Int)) && decide (((x.counts.filter fun c => decide (0 < errOf t c)).length : Int) ≤ x.wrong)) && true) = true := by
  have e : ((x.counts.filter fun c => decide (0 < errOf t c)).length : Int) = wrongs x t := rfl
  rw [e]; simp [h1, h2]
open C1
theorem word_ok (sv : Value) (ws : List Int) (a : Int) (D : Data) (hS : Sl D (RK .u16) 1 sv ws) (ha : 0 ≤ a) (_ha2 : a ≤ 100) : Fn Try.prog 87 #[sv, .int .i64 a] D (fun _ v => v = .int .i64 (wordV ws a) ∧ 0 ≤ wordV ws a ∧ wordV ws a ≤ 65535) := by
  have hwl := hS.len
  refine enter 16 Try.func87 rfl rfl rfl rfl fun h0 => ?_
  refine C.seq ?_
  refine C.region [(false,0)] rfl ?_
  refine L.assign rfl rfl rfl trivial ?_
  refine L.nil ?_
  refine C.next ?_
  refine C.seq ?_
  refine C.seq ?_
  refine C.region [(false,0),(false,1),(false,2)] rfl ?_
  refine L.move rfl rfl rfl trivial ?_
  refine L.len rfl Try.underlying89 rfl hS rfl rfl trivial ?_
  refine L.eql rfl rfl rfl rfl trivial ?_
  refine L.nil ?_
  refine C.next ?_
  refine C.condD rfl (fun hc1 => ?_) (fun hc1 => ?_)
  · refine C.seq ?_
    refine C.region [(false,0)] rfl ?_
    refine L.assign rfl rfl rfl trivial ?_
    refine L.nil ?_
    refine C.next ?_
    refine C.ret ?_
    refine C.thenRet ?_
    exact leave (vs := [_]) rfl rfl rfl ⟨rfl, trivial⟩ (fun D hD => by rw [wordV_none hc1]; exact ⟨rfl, by omega, by omega⟩)
  · have hm1 := Int.emod_nonneg a (show (ws.length : Int) ≠ 0 by omega)
    have hm2 := Int.emod_lt_of_pos a (show (0 : Int) < ws.length by omega)
    obtain ⟨x, hx⟩ : ∃ x, ws[(a % ws.length).toNat]? = some x := ⟨_, List.getElem?_eq_getElem (by omega)⟩
    refine C.skip ?_
    refine C.next ?_
    refine C.seq ?_
    refine C.region [(false,0),(false,1),(false,2),(false,3),(false,4),(false,5),(false,6),(false,7),(false,8)] rfl ?_
    refine L.move rfl rfl rfl trivial ?_
    refine L.move rfl rfl rfl trivial ?_
    refine L.move rfl rfl rfl trivial ?_
    refine L.len rfl Try.underlying89 rfl hS rfl rfl trivial ?_
    refine L.rem rfl rfl rfl (by omega) (by omega) (by simp only [inK]; omega) rfl trivial ?_
    refine L.indexS rfl Try.underlying89 Tf.s69 rfl hS rfl (by omega) hx rfl trivial (fun b1 o1 cs1 hr1 hcl1 hA1 => ?_)
    obtain ⟨rfl, hk1⟩ := hr1
    simp only [inK] at hk1
    refine L.loadD1 rfl (k := 0) Tf.a69 rfl hA1 (by first | simp | assumption) rfl List.not_mem_nil rfl trivial ?_
    refine L.convI rfl Try.underlying69 Try.underlying3 rfl (by simp only [inK]; omega) rfl trivial ?_
    refine L.assign rfl rfl rfl trivial ?_
    refine L.nil ?_
    refine C.next ?_
    refine C.ret ?_
    exact leave (vs := [_]) rfl rfl rfl ⟨rfl, trivial⟩ (fun D hD => by rw [wordV_get hc1 hx]; exact ⟨rfl, by omega, by omega⟩)
set_option maxHeartbeats 1000000 in
theorem Counted_ok (rv sv : Value) (r : RowD) (w : Int) (ws : List Int) (D : Data) (hr : RowIs D rv r) (hok : RowOk r) (hw8 : 0 ≤ w ∧ w ≤ 65535) (hS : Sl D (RK .u16) 1 sv ws) : Fn Try.prog 60 #[rv, .int .u16 w, sv] D (fun D' v => ∃ xv tv x t, v = .tuple #[xv, tv] ∧ RowIs D' xv x ∧ Sl D' RI 1 tv t ∧ RowOk x ∧ t ∈ truths x) := by
  have hr0 := hr
  obtain ⟨pv, cv, rfl, hp, hc⟩ := hr
  have hn9 := hok.len9
  have hof := hok.off
  have hwr := hok.wrong
  refine enter 116 Try.func60 rfl rfl rfl rfl fun h0 => ?_
  refine C.seq ?_
  refine C.region [(false,0),(false,1),(false,2)] rfl ?_
  refine L.boxD rfl rfl rfl rfl trivial (fun q1 E1 hE1 hB1 => ?_)
  refine L.alloc rfl Tf.z25 rfl rfl trivial (fun q2 => ?_)
  refine L.assign rfl rfl rfl trivial ?_
  refine L.nil ?_
  refine C.next ?_
  refine C.seq ?_
  refine C.region [(false,0),(false,1),(false,2)] rfl ?_
  refine L.loadDW rfl Tf.a25 rfl hB1 (by first | simp | assumption) Tf.s25 List.not_mem_nil rfl trivial ?_
  refine L.call rfl rfl rfl (fun D1 hD1 => All_ok _ r _ (hr0.up (hD1 _ (by simp))) hok) rfl trivial (fun v1 D1 hD1 hp1 => ?_)
  have hal := hp1
  refine L.assign rfl rfl rfl trivial ?_
  refine L.nil ?_
  refine C.next ?_
  refine C.seq ?_
  have hN0 := allT_pos hok
  have hN1 := allT_cap hok
  have hm1 := Int.emod_nonneg w (show ((allT r.places).length : Int) ≠ 0 by omega)
  have hm2 := Int.emod_lt_of_pos w (show (0 : Int) < (allT r.places).length by omega)
  obtain ⟨t, ht⟩ : ∃ t, (allT r.places)[(w % (allT r.places).length).toNat]? = some t := ⟨_, List.getElem?_eq_getElem (by omega)⟩
  have htm := List.mem_of_getElem? ht
  obtain ⟨htl, htb⟩ := allT_ok htm
  refine C.region [(false,0),(false,1),(false,2),(false,3),(false,4),(false,5),(false,6),(false,7),(false,8)] rfl ?_
  refine L.move rfl rfl rfl trivial ?_
  refine L.move rfl rfl rfl trivial ?_
  refine L.convI rfl Try.underlying69 Try.underlying3 rfl (by simp only [inK]; omega) rfl trivial ?_
  refine L.move rfl rfl rfl trivial ?_
  refine L.len rfl Try.underlying37 rfl hal rfl rfl trivial ?_
  refine L.rem rfl rfl rfl (by omega) (by omega) (by simp only [inK]; omega) rfl trivial ?_
  refine L.indexS rfl Try.underlying37 Tf.s22 rfl hal rfl (by omega) ht rfl trivial (fun b1 o1 cs1 hr1 hcl1 hA1 => ?_)
  obtain ⟨w1, rfl, hw1⟩ := hr1
  refine L.loadD1 rfl (k := 0) Tf.a22 rfl hA1 (by first | simp | assumption) rfl List.not_mem_nil rfl trivial ?_
  refine L.assign rfl rfl rfl trivial ?_
  refine L.nil ?_
  refine C.next ?_
  refine C.seq ?_
  refine C.region [(false,0),(false,1),(false,2)] rfl ?_
  refine L.loadDW rfl Tf.a25 rfl hB1 (by first | simp | assumption) Tf.s25 List.not_mem_nil rfl trivial ?_
  refine L.alloc rfl Tf.z25 rfl rfl trivial (fun q3 => ?_)
  refine L.storeW rfl rfl rfl rfl Tf.s25 (by first | rfl | (simp only [ints_length, *]; done) | (simp only [ints_length, *]; rfl) | (simp only [ints_length, *]; omega)) (by first | rfl | (simp only [ints_length, *]; done) | (simp only [ints_length, *]; rfl) | (simp only [ints_length, *]; omega)) (Has.head) (cell1_row hp.cell1 hc.cell1) trivial ?_
  refine L.nil ?_
  refine C.next ?_
  refine C.seq ?_
  refine C.region [(false,0),(false,1)] rfl ?_
  refine L.fieldAddr rfl Tf.f25_1 rfl rfl trivial ?_
  refine L.store rfl rfl rfl rfl Tf.s23 (Has.head) (by simp) rfl (by simp [cell1]) trivial ?_
  refine L.nil ?_
  refine C.next ?_
  refine C.seq ?_
  refine C.region [(false,0),(false,1),(false,2)] rfl ?_
  refine L.fieldAddr rfl Tf.f25_2 rfl rfl trivial ?_
  refine L.loadD1 rfl (k := 2) Tf.a3 rfl hB1 (by first | simp | assumption) rfl List.not_mem_nil rfl trivial ?_
  refine L.assign rfl rfl rfl trivial ?_
  refine L.nil ?_
  refine C.next ?_
  refine C.seq ?_
  refine C.seq ?_
  refine C.region [(false,0)] rfl ?_
  refine L.assign rfl rfl rfl trivial ?_
  refine L.nil ?_
  refine C.next ?_
  refine C.block ?_
  refine C.loopR (γ := Nat × List Cnt × Int × Value × Boxes) (fun g => 6 - g.1) (fun g => CInv r t g.1 g.2.1 g.2.2.1 ∧ Acc 50 3 g.2.2.2.1 g.1 (cntC g.2.1) g.2.2.2.2) (fun g => [(11, .int .i64 g.2.2.1), (12, .int .i64 (g.1 : Int))]) [(10, _), (9, _), (7, _), (6, _), (3, _), (2, _)] (fun g => (q3, .cells [pv, g.2.2.2.1, .int .i64 r.wrong, .int .i64 r.off].toArray 25 (0, 0)) :: (q2, .cells [.slice none 0 0, .slice none 0 0, .int .i64 0, .int .i64 0].toArray 25 (0, 0)) :: (g.2.2.2.2 ++ [])) (fun g => [D1, E1, D]) (0, [], r.wrong, .slice none 0 0, []) ⟨ci_nil hok t, by simpa [cntC] using Acc.nil⟩ ⟨(by first | rfl | (show some (Value.int _ _) = some (Value.int _ _); congr 2; omega)), (by first | rfl | (show some (Value.int _ _) = some (Value.int _ _); congr 2; omega)), trivial⟩ ⟨rfl, rfl, rfl, rfl, rfl, rfl, trivial⟩ (List.Sublist.refl _) (ds_same) ?_
  rintro ⟨k, l, left, v, ν⟩ ⟨hI, ha⟩
  simp only at hI ha
  have hI6 := hI.six
  have hIl := hI.left
  have hIw := hI.wr
  refine C.seq ?_
  refine C.seq ?_
  refine C.region [(false,0),(false,1),(false,2),(false,3),(false,4)] rfl ?_
  refine L.move rfl rfl rfl trivial ?_
  refine L.move rfl rfl rfl trivial ?_
  refine L.call rfl rfl rfl (fun D2 hD2 => word_ok _ ws 0 _ (hS.up RK.up (hD2 _ (by simp))) (by omega) (by omega)) rfl trivial (fun v2 D2 hD2 hp2 => ?_)
  obtain ⟨rfl, hwa, hwb⟩ := hp2
  refine L.rem rfl rfl rfl (by omega) (by omega) (by simp only [inK]; omega) rfl trivial ?_
  refine L.lss rfl rfl rfl rfl trivial ?_
  refine L.nil ?_
  refine C.next ?_
  refine C.condD rfl (fun hc1 => ?_) (fun hc1 => ?_)
  · have hk7 := Int.emod_lt_of_pos (wordV ws 0) (show (0 : Int) < 7 by omega)
    have hk6 : k < 6 := by omega
    refine C.skip ?_
    refine C.next ?_
    refine C.seq ?_
    refine C.block ?_
    refine C.seq ?_
    refine C.region [(false,0),(false,1),(false,2),(false,3),(false,4)] rfl ?_
    refine L.move rfl rfl rfl trivial ?_
    refine L.move rfl rfl rfl trivial ?_
    refine L.add rfl rfl rfl (by simp only [inK]; omega) rfl trivial ?_
    refine L.call rfl rfl rfl (fun D3 hD3 => word_ok _ ws ((k : Int) + 1) _ (hS.up RK.up (hD3 _ (by simp))) (by omega) (by omega)) rfl trivial (fun v3 D3 hD3 hp3 => ?_)
    obtain ⟨rfl, hwc, hwd⟩ := hp3
    refine L.assign rfl rfl rfl trivial ?_
    refine L.nil ?_
    refine C.next ?_
    refine C.seq ?_
    generalize hU : wordV ws ((k : Int) + 1) = u at hwc hwd ⊢
    have hq0 := Int.emod_nonneg (u / 2) (show (t.length : Int) + 1 ≠ 0 by omega)
    have hq1 := Int.emod_lt_of_pos (u / 2) (show (0 : Int) < (t.length : Int) + 1 by omega)
    refine C.region [(false,0),(false,1),(false,2),(false,3),(false,4),(false,5),(false,6),(false,7),(false,8),(false,9),(false,10),(false,11)] rfl ?_
    refine L.move rfl rfl rfl trivial ?_
    refine L.rem rfl rfl rfl (by omega) (by omega) (by simp only [inK]; omega) rfl trivial ?_
    refine L.eql rfl rfl rfl rfl trivial ?_
    refine L.move rfl rfl rfl trivial ?_
    refine L.quo rfl rfl rfl (by omega) (by omega) (by simp only [inK]; omega) rfl trivial ?_
    refine L.move rfl rfl rfl trivial ?_
    refine L.len rfl Try.underlying22 rfl hw1 rfl rfl trivial ?_
    refine L.add rfl rfl rfl (by simp only [inK]; omega) rfl trivial ?_
    refine L.rem rfl rfl rfl (by omega) (by omega) (by simp only [inK]; omega) rfl trivial ?_
    refine L.build (cs := [.bool (decide (u % 2 = 1)), .int .i64 (u / 2 % ((t.length : Int) + 1)), .int .i64 0]) rfl Tf.p50 Tf.z50 rfl rfl rfl trivial ?_
    refine L.alloc rfl Tf.z50 rfl rfl trivial (fun q4 => ?_)
    refine L.storeW rfl rfl rfl rfl Tf.s50 (by first | rfl | (simp only [ints_length, *]; done) | (simp only [ints_length, *]; rfl) | (simp only [ints_length, *]; omega)) (by first | rfl | (simp only [ints_length, *]; done) | (simp only [ints_length, *]; rfl) | (simp only [ints_length, *]; omega)) (Has.head) (by first | exact ints_cell1 _ | simp [cell1]) trivial ?_
    refine L.nil ?_
    refine C.next ?_
    refine C.seq ?_
    obtain ⟨m, hmm⟩ : ∃ m : Nat, u / 2 % ((t.length : Int) + 1) = m := ⟨_, (Int.toNat_of_nonneg hq0).symm⟩
    rw [hmm] at hq0 hq1 ⊢
    have sb1 := sumFrom_bound htb 0 m
    have sb2 := sumFrom_bound htb (t.length - m) m
    refine C.region [(false,0),(false,1),(false,2),(false,3),(false,4),(false,5)] rfl ?_
    refine L.move rfl rfl rfl trivial ?_
    refine L.fieldAddr rfl Tf.f50_1 rfl rfl trivial ?_
    refine L.loadB1 rfl Tf.a3 rfl (List.Mem.head _) rfl List.not_mem_nil rfl trivial ?_
    refine L.sub rfl rfl rfl (by simp only [inK]; omega) rfl trivial ?_
    refine L.callV rfl rfl rfl (fun D4 hD4 => Sum_ok _ t 0 ((m : Int) - 1) 0 m _ (hw1.up RI.up (hD4 _ (by simp))) rfl (by omega) (by omega) htb (by omega)) rfl trivial ?_
    refine L.assign rfl rfl rfl trivial ?_
    refine L.nil ?_
    refine C.next ?_
    refine C.seq ?_
    refine C.seq ?_
    refine C.region [(false,0),(false,1)] rfl ?_
    refine L.fieldAddr rfl Tf.f50_0 rfl rfl trivial ?_
    refine L.loadB1 rfl Tf.a4 rfl (List.Mem.head _) rfl List.not_mem_nil rfl trivial ?_
    refine L.nil ?_
    refine C.next ?_
    refine C.cond rfl (fun hc2 => ?_) (fun hc2 => ?_)
    · have hab : ∀ z, about t ⟨decide (u % 2 = 1), m, z⟩ = sumFrom t (t.length - m) m := fun z => by unfold about; rw [if_pos hc2]; simp
      refine C.region [(false,0),(false,1),(false,2),(false,3),(false,4),(false,5),(false,6),(false,7),(false,8),(false,9),(false,10)] rfl ?_
      refine L.move rfl rfl rfl trivial ?_
      refine L.move rfl rfl rfl trivial ?_
      refine L.len rfl Try.underlying22 rfl hw1 rfl rfl trivial ?_
      refine L.fieldAddr rfl Tf.f50_1 rfl rfl trivial ?_
      refine L.loadB1 rfl Tf.a3 rfl (List.Mem.head _) rfl List.not_mem_nil rfl trivial ?_
      refine L.sub rfl rfl rfl (by simp only [inK]; omega) rfl trivial ?_
      refine L.move rfl rfl rfl trivial ?_
      refine L.len rfl Try.underlying22 rfl hw1 rfl rfl trivial ?_
      refine L.sub rfl rfl rfl (by simp only [inK]; omega) rfl trivial ?_
      refine L.callV rfl rfl rfl (fun D5 hD5 => Sum_ok _ t ((t.length : Int) - m) ((t.length : Int) - 1) (t.length - m) m _ (hw1.up RI.up (hD5 _ (by simp))) (by omega) (by omega) (by omega) htb (by omega)) rfl trivial ?_
      refine L.assign rfl rfl rfl trivial ?_
      refine L.nil ?_
      refine C.next ?_
      refine C.seq ?_
      generalize hSn : sumFrom t (t.length - m) m = n at hab sb2 ⊢
      refine C.region [(false,0),(false,1),(false,2)] rfl ?_
      refine L.move rfl rfl rfl trivial ?_
      refine L.fieldAddr rfl Tf.f50_2 rfl rfl trivial ?_
      refine L.store rfl rfl rfl rfl Tf.s3 (Has.head) (by simp) rfl (by simp [cell1]) trivial ?_
      refine L.nil ?_
      refine C.next ?_
      refine C.seq ?_
      refine C.seq ?_
      have ho0 := Int.emod_nonneg (u / 32) (show 2 * r.off + 1 ≠ 0 by omega)
      have ho1 := Int.emod_lt_of_pos (u / 32) (show (0 : Int) < 2 * r.off + 1 by omega)
      refine C.region [(false,0),(false,1),(false,2),(false,3),(false,4),(false,5),(false,6),(false,7)] rfl ?_
      refine L.move rfl rfl rfl trivial ?_
      refine L.quo rfl rfl rfl (by omega) (by omega) (by simp only [inK]; omega) rfl trivial ?_
      refine L.fieldAddr rfl Tf.f25_3 rfl rfl trivial ?_
      refine L.loadD1 rfl (k := 3) Tf.a3 rfl hB1 (by first | simp | assumption) rfl List.not_mem_nil rfl trivial ?_
      refine L.mul rfl rfl rfl (by simp only [inK]; omega) rfl trivial ?_
      refine L.add rfl rfl rfl (by simp only [inK]; omega) rfl trivial ?_
      refine L.rem rfl rfl rfl (by omega) (by omega) (by simp only [inK]; omega) rfl trivial ?_
      refine L.assign rfl rfl rfl trivial ?_
      refine L.nil ?_
      refine C.next ?_
      refine C.seq ?_
      generalize hF2 : u / 32 % (2 * r.off + 1) = f at ho0 ho1 ⊢
      refine C.region [(false,0),(false,1),(false,2),(false,3),(false,4),(false,5),(false,6),(false,7),(false,8),(false,9),(false,10),(false,11),(false,12),(false,13),(false,14),(false,15),(false,16)] rfl ?_
      refine L.move rfl rfl rfl trivial ?_
      refine L.gtr rfl rfl rfl rfl trivial ?_
      refine L.move rfl rfl rfl trivial ?_
      refine' L.and [(false,3),(false,4),(false,5),(false,6),(false,7)] [(false,8),(false,9),(false,10),(false,11),(false,12),(false,13),(false,14),(false,15),(false,16)] (s := 80) (p := 85) rfl rfl (fun hg1 => ?_) (fun hg1 => ?_) ?_
      rotate_left
      · refine L.move rfl rfl rfl ⟨_, rfl, rfl⟩ ?_
        refine L.quo rfl rfl rfl (by omega) (by omega) (by simp only [inK]; omega) rfl ⟨_, rfl, rfl⟩ ?_
        refine L.rem rfl rfl rfl (by omega) (by omega) (by simp only [inK]; omega) rfl ⟨_, rfl, rfl⟩ ?_
        refine L.eql rfl rfl rfl rfl ⟨_, rfl, rfl⟩ ?_
        refine L.pickT rfl rfl rfl rfl trivial ?_
        exact L.nil fun a w hh => hh.cutK 4 rfl
      · refine L.pass rfl rfl rfl ⟨_, _, rfl, rfl, rfl⟩ ?_
        refine L.pass rfl rfl rfl ⟨_, _, rfl, rfl, rfl⟩ ?_
        refine L.pass rfl rfl rfl ⟨_, _, rfl, rfl, rfl⟩ ?_
        refine L.pass rfl rfl rfl ⟨_, _, rfl, rfl, rfl⟩ ?_
        refine L.pickF rfl rfl rfl rfl trivial ?_
        exact L.nil fun a w hh => hh.cutK 4 rfl
      refine L.move rfl rfl rfl trivial ?_
      refine' L.and [(false,9),(false,10),(false,11),(false,12),(false,13),(false,14),(false,15),(false,16)] [] (s := 86) (p := 94) rfl rfl (fun hg2 => ?_) (fun hg2 => ?_) ?_
      rotate_left
      · refine L.move rfl rfl rfl ⟨_, rfl, rfl⟩ ?_
        refine L.move rfl rfl rfl ⟨_, rfl, rfl⟩ ?_
        refine L.add rfl rfl rfl (by simp only [inK]; omega) rfl ⟨_, rfl, rfl⟩ ?_
        refine L.fieldAddr rfl Tf.f25_3 rfl rfl ⟨_, rfl, rfl⟩ ?_
        refine L.loadD1 rfl (k := 3) Tf.a3 rfl hB1 (by first | simp | assumption) rfl List.not_mem_nil rfl ⟨_, rfl, rfl⟩ ?_
        refine L.sub rfl rfl rfl (by simp only [inK]; omega) rfl ⟨_, rfl, rfl⟩ ?_
        refine L.callV rfl rfl rfl (fun D6 hD6 => In_ok _ _ _ _) rfl ⟨_, rfl, rfl⟩ ?_
        refine L.pickT rfl rfl rfl rfl trivial ?_
        exact L.nil fun a w hh => hh.cutK 7 rfl
      · refine L.pass rfl rfl rfl ⟨_, _, rfl, rfl, rfl⟩ ?_
        refine L.pass rfl rfl rfl ⟨_, _, rfl, rfl, rfl⟩ ?_
        refine L.pass rfl rfl rfl ⟨_, _, rfl, rfl, rfl⟩ ?_
        refine L.pass rfl rfl rfl ⟨_, _, rfl, rfl, rfl⟩ ?_
        refine L.pass rfl rfl rfl ⟨_, _, rfl, rfl, rfl⟩ ?_
        refine L.pass rfl rfl rfl ⟨_, _, rfl, rfl, rfl⟩ ?_
        refine L.pass rfl rfl rfl ⟨_, _, rfl, rfl, rfl⟩ ?_
        refine L.pickF rfl rfl rfl rfl trivial ?_
        exact L.nil fun a w hh => hh.cutK 7 rfl
      refine L.nil ?_
      refine C.next ?_
      refine C.cond rfl (fun hc3 => ?_) (fun hc3 => ?_)
      · simp only [Bool.and_eq_true, decide_eq_true_eq, inB_iff] at hc3
        refine C.seq ?_
        refine C.region [(false,0),(false,1),(false,2),(false,3),(false,4),(false,5),(false,6),(false,7)] rfl ?_
        refine L.move rfl rfl rfl trivial ?_
        refine L.move rfl rfl rfl trivial ?_
        refine L.add rfl rfl rfl (by simp only [inK]; omega) rfl trivial ?_
        refine L.fieldAddr rfl Tf.f25_3 rfl rfl trivial ?_
        refine L.loadD1 rfl (k := 3) Tf.a3 rfl hB1 (by first | simp | assumption) rfl List.not_mem_nil rfl trivial ?_
        refine L.sub rfl rfl rfl (by simp only [inK]; omega) rfl trivial ?_
        refine L.fieldAddr rfl Tf.f50_2 rfl rfl trivial ?_
        refine L.store rfl rfl rfl rfl Tf.s3 (Has.head) (by simp) rfl (by simp [cell1]) trivial ?_
        refine L.nil ?_
        refine C.next ?_
        refine C.seq ?_
        refine C.region [(false,0),(false,1),(false,2),(false,3)] rfl ?_
        refine L.move rfl rfl rfl trivial ?_
        refine L.fieldAddr rfl Tf.f25_3 rfl rfl trivial ?_
        refine L.loadD1 rfl (k := 3) Tf.a3 rfl hB1 (by first | simp | assumption) rfl List.not_mem_nil rfl trivial ?_
        refine L.neq rfl rfl rfl rfl trivial ?_
        refine L.nil ?_
        refine C.next ?_
        refine C.condD rfl (fun hc4 => ?_) (fun hc4 => ?_)
        · refine C.region [(false,0),(false,1),(false,2)] rfl ?_
          refine L.move rfl rfl rfl trivial ?_
          refine L.sub rfl rfl rfl (by simp only [inK]; omega) rfl trivial ?_
          refine L.assign rfl rfl rfl trivial ?_
          refine L.nil ?_
          refine C.next ?_
          refine C.region [(false,0),(false,1),(false,2),(false,3),(false,4),(false,5),(false,6)] rfl ?_
          refine L.fieldAddr rfl Tf.f25_1 rfl rfl trivial ?_
          refine L.loadB1 rfl Tf.a23 rfl (List.Mem.tail _ (List.Mem.head _)) rfl List.not_mem_nil rfl trivial ?_
          refine L.loadBW rfl Tf.a50 rfl (List.Mem.head _) Tf.s50 List.not_mem_nil rfl trivial ?_
          refine L.buildSlice rfl Try.underlying23 Tf.s50 Tf.z50 rfl rfl rfl rfl (.cons rfl rfl .nil) rfl trivial (fun b901 D901 hD901 hA901 => ?_)
          refine L.append (A := [(_, _), (_, _), (_, _)]) (B := []) rfl Try.underlying23 rfl rfl Tf.s50 Tf.z50 rfl Tf.i50 rfl rfl rfl ha (Src.lit hA901) (by simp) rfl (cnt_len _ _ hI.len) (by simp [cell1]) (by omega) (Or.inl rfl) rfl trivial (fun v7 ν7 ha7 => ?_)
          have hn7 : Acc 50 3 v7 (k + 1) (cntC (l ++ [⟨decide (u % 2 = 1), m, (n + f - r.off)⟩])) ν7 := by rw [cntC_snoc]; simpa using ha7
          refine L.fieldAddr rfl Tf.f25_1 rfl rfl trivial ?_
          refine L.store rfl rfl rfl ha7.cells1 Tf.s23 (.tail (Has.head)) (by simp) rfl ha7.cell1 trivial ?_
          refine L.nil ?_
          refine C.blockEnd ?_
          refine C.next ?_
          refine C.region [(false,0),(false,1),(false,2)] rfl ?_
          refine L.move rfl rfl rfl trivial ?_
          refine L.add rfl rfl rfl (by simp only [inK]; omega) rfl trivial ?_
          refine L.assign rfl rfl rfl trivial ?_
          refine L.nil ?_
          exact C.againR 81 (k + 1, l ++ [⟨decide (u % 2 = 1), m, (n + f - r.off)⟩], (left - 1), v7, ν7) ⟨ci_step hI (by omega) ⟨by simp, by simp; omega⟩ ⟨by simp only; omega, by simp only; omega⟩ (by rw [err_at (hab _)]; omega) (Or.inr ⟨rfl, by omega⟩), hn7⟩ (by simp only; omega) ⟨(by first | rfl | (show some (Value.int _ _) = some (Value.int _ _); congr 2; omega)), (by first | rfl | (show some (Value.int _ _) = some (Value.int _ _); congr 2; omega)), trivial⟩ rfl rfl (List.Sublist.cons _ (List.Sublist.refl _)) (fun D h => ⟨D, List.Mem.tail _ (List.Mem.tail _ (List.Mem.tail _ (h))), Le.refl D⟩)
        · refine C.skip ?_
          refine C.next ?_
          refine C.region [(false,0),(false,1),(false,2),(false,3),(false,4),(false,5),(false,6)] rfl ?_
          refine L.fieldAddr rfl Tf.f25_1 rfl rfl trivial ?_
          refine L.loadB1 rfl Tf.a23 rfl (List.Mem.tail _ (List.Mem.head _)) rfl List.not_mem_nil rfl trivial ?_
          refine L.loadBW rfl Tf.a50 rfl (List.Mem.head _) Tf.s50 List.not_mem_nil rfl trivial ?_
          refine L.buildSlice rfl Try.underlying23 Tf.s50 Tf.z50 rfl rfl rfl rfl (.cons rfl rfl .nil) rfl trivial (fun b902 D902 hD902 hA902 => ?_)
          refine L.append (A := [(_, _), (_, _), (_, _)]) (B := []) rfl Try.underlying23 rfl rfl Tf.s50 Tf.z50 rfl Tf.i50 rfl rfl rfl ha (Src.lit hA902) (by simp) rfl (cnt_len _ _ hI.len) (by simp [cell1]) (by omega) (Or.inl rfl) rfl trivial (fun v7 ν7 ha7 => ?_)
          have hn7 : Acc 50 3 v7 (k + 1) (cntC (l ++ [⟨decide (u % 2 = 1), m, (n + f - r.off)⟩])) ν7 := by rw [cntC_snoc]; simpa using ha7
          refine L.fieldAddr rfl Tf.f25_1 rfl rfl trivial ?_
          refine L.store rfl rfl rfl ha7.cells1 Tf.s23 (.tail (Has.head)) (by simp) rfl ha7.cell1 trivial ?_
          refine L.nil ?_
          refine C.blockEnd ?_
          refine C.next ?_
          refine C.region [(false,0),(false,1),(false,2)] rfl ?_
          refine L.move rfl rfl rfl trivial ?_
          refine L.add rfl rfl rfl (by simp only [inK]; omega) rfl trivial ?_
          refine L.assign rfl rfl rfl trivial ?_
          refine L.nil ?_
          exact C.againR 78 (k + 1, l ++ [⟨decide (u % 2 = 1), m, (n + f - r.off)⟩], left, v7, ν7) ⟨ci_step hI (by omega) ⟨by simp, by simp; omega⟩ ⟨by simp only; omega, by simp only; omega⟩ (by rw [err_at (hab _)]; omega) (Or.inl ⟨rfl, by rw [err_at (hab _)]; omega⟩), hn7⟩ (by simp only; omega) ⟨(by first | rfl | (show some (Value.int _ _) = some (Value.int _ _); congr 2; omega)), (by first | rfl | (show some (Value.int _ _) = some (Value.int _ _); congr 2; omega)), trivial⟩ rfl rfl (List.Sublist.cons _ (List.Sublist.refl _)) (fun D h => ⟨D, List.Mem.tail _ (List.Mem.tail _ (List.Mem.tail _ (h))), Le.refl D⟩)
      · refine C.skip ?_
        refine C.next ?_
        refine C.region [(false,0),(false,1),(false,2),(false,3),(false,4),(false,5),(false,6)] rfl ?_
        refine L.fieldAddr rfl Tf.f25_1 rfl rfl trivial ?_
        refine L.loadB1 rfl Tf.a23 rfl (List.Mem.tail _ (List.Mem.head _)) rfl List.not_mem_nil rfl trivial ?_
        refine L.loadBW rfl Tf.a50 rfl (List.Mem.head _) Tf.s50 List.not_mem_nil rfl trivial ?_
        refine L.buildSlice rfl Try.underlying23 Tf.s50 Tf.z50 rfl rfl rfl rfl (.cons rfl rfl .nil) rfl trivial (fun b903 D903 hD903 hA903 => ?_)
        refine L.append (A := [(_, _), (_, _), (_, _)]) (B := []) rfl Try.underlying23 rfl rfl Tf.s50 Tf.z50 rfl Tf.i50 rfl rfl rfl ha (Src.lit hA903) (by simp) rfl (cnt_len _ _ hI.len) (by simp [cell1]) (by omega) (Or.inl rfl) rfl trivial (fun v7 ν7 ha7 => ?_)
        have hn7 : Acc 50 3 v7 (k + 1) (cntC (l ++ [⟨decide (u % 2 = 1), m, n⟩])) ν7 := by rw [cntC_snoc]; simpa using ha7
        refine L.fieldAddr rfl Tf.f25_1 rfl rfl trivial ?_
        refine L.store rfl rfl rfl ha7.cells1 Tf.s23 (.tail (Has.head)) (by simp) rfl ha7.cell1 trivial ?_
        refine L.nil ?_
        refine C.blockEnd ?_
        refine C.next ?_
        refine C.region [(false,0),(false,1),(false,2)] rfl ?_
        refine L.move rfl rfl rfl trivial ?_
        refine L.add rfl rfl rfl (by simp only [inK]; omega) rfl trivial ?_
        refine L.assign rfl rfl rfl trivial ?_
        refine L.nil ?_
        exact C.againR 67 (k + 1, l ++ [⟨decide (u % 2 = 1), m, n⟩], left, v7, ν7) ⟨ci_step hI (by omega) ⟨by simp, by simp; omega⟩ ⟨by simp only; omega, by simp only; omega⟩ (by rw [err_at (hab _)]; omega) (Or.inl ⟨rfl, by rw [err_at (hab _)]; omega⟩), hn7⟩ (by simp only; omega) ⟨(by first | rfl | (show some (Value.int _ _) = some (Value.int _ _); congr 2; omega)), (by first | rfl | (show some (Value.int _ _) = some (Value.int _ _); congr 2; omega)), trivial⟩ rfl rfl (List.Sublist.cons _ (List.Sublist.refl _)) (fun D h => ⟨D, List.Mem.tail _ (List.Mem.tail _ (List.Mem.tail _ (h))), Le.refl D⟩)
    · have hab : ∀ z, about t ⟨decide (u % 2 = 1), m, z⟩ = sumFrom t 0 m := fun z => by unfold about; rw [if_neg (by simp [hc2])]; simp
      refine C.skip ?_
      refine C.next ?_
      refine C.seq ?_
      generalize hSn : sumFrom t 0 m = n at hab sb1 ⊢
      refine C.region [(false,0),(false,1),(false,2)] rfl ?_
      refine L.move rfl rfl rfl trivial ?_
      refine L.fieldAddr rfl Tf.f50_2 rfl rfl trivial ?_
      refine L.store rfl rfl rfl rfl Tf.s3 (Has.head) (by simp) rfl (by simp [cell1]) trivial ?_
      refine L.nil ?_
      refine C.next ?_
      refine C.seq ?_
      refine C.seq ?_
      have ho0 := Int.emod_nonneg (u / 32) (show 2 * r.off + 1 ≠ 0 by omega)
      have ho1 := Int.emod_lt_of_pos (u / 32) (show (0 : Int) < 2 * r.off + 1 by omega)
      refine C.region [(false,0),(false,1),(false,2),(false,3),(false,4),(false,5),(false,6),(false,7)] rfl ?_
      refine L.move rfl rfl rfl trivial ?_
      refine L.quo rfl rfl rfl (by omega) (by omega) (by simp only [inK]; omega) rfl trivial ?_
      refine L.fieldAddr rfl Tf.f25_3 rfl rfl trivial ?_
      refine L.loadD1 rfl (k := 3) Tf.a3 rfl hB1 (by first | simp | assumption) rfl List.not_mem_nil rfl trivial ?_
      refine L.mul rfl rfl rfl (by simp only [inK]; omega) rfl trivial ?_
      refine L.add rfl rfl rfl (by simp only [inK]; omega) rfl trivial ?_
      refine L.rem rfl rfl rfl (by omega) (by omega) (by simp only [inK]; omega) rfl trivial ?_
      refine L.assign rfl rfl rfl trivial ?_
      refine L.nil ?_
      refine C.next ?_
      refine C.seq ?_
      generalize hF2 : u / 32 % (2 * r.off + 1) = f at ho0 ho1 ⊢
      refine C.region [(false,0),(false,1),(false,2),(false,3),(false,4),(false,5),(false,6),(false,7),(false,8),(false,9),(false,10),(false,11),(false,12),(false,13),(false,14),(false,15),(false,16)] rfl ?_
      refine L.move rfl rfl rfl trivial ?_
      refine L.gtr rfl rfl rfl rfl trivial ?_
      refine L.move rfl rfl rfl trivial ?_
      refine' L.and [(false,3),(false,4),(false,5),(false,6),(false,7)] [(false,8),(false,9),(false,10),(false,11),(false,12),(false,13),(false,14),(false,15),(false,16)] (s := 80) (p := 85) rfl rfl (fun hg3 => ?_) (fun hg3 => ?_) ?_
      rotate_left
      · refine L.move rfl rfl rfl ⟨_, rfl, rfl⟩ ?_
        refine L.quo rfl rfl rfl (by omega) (by omega) (by simp only [inK]; omega) rfl ⟨_, rfl, rfl⟩ ?_
        refine L.rem rfl rfl rfl (by omega) (by omega) (by simp only [inK]; omega) rfl ⟨_, rfl, rfl⟩ ?_
        refine L.eql rfl rfl rfl rfl ⟨_, rfl, rfl⟩ ?_
        refine L.pickT rfl rfl rfl rfl trivial ?_
        exact L.nil fun a w hh => hh.cutK 4 rfl
      · refine L.pass rfl rfl rfl ⟨_, _, rfl, rfl, rfl⟩ ?_
        refine L.pass rfl rfl rfl ⟨_, _, rfl, rfl, rfl⟩ ?_
        refine L.pass rfl rfl rfl ⟨_, _, rfl, rfl, rfl⟩ ?_
        refine L.pass rfl rfl rfl ⟨_, _, rfl, rfl, rfl⟩ ?_
        refine L.pickF rfl rfl rfl rfl trivial ?_
        exact L.nil fun a w hh => hh.cutK 4 rfl
      refine L.move rfl rfl rfl trivial ?_
      refine' L.and [(false,9),(false,10),(false,11),(false,12),(false,13),(false,14),(false,15),(false,16)] [] (s := 86) (p := 94) rfl rfl (fun hg4 => ?_) (fun hg4 => ?_) ?_
      rotate_left
      · refine L.move rfl rfl rfl ⟨_, rfl, rfl⟩ ?_
        refine L.move rfl rfl rfl ⟨_, rfl, rfl⟩ ?_
        refine L.add rfl rfl rfl (by simp only [inK]; omega) rfl ⟨_, rfl, rfl⟩ ?_
        refine L.fieldAddr rfl Tf.f25_3 rfl rfl ⟨_, rfl, rfl⟩ ?_
        refine L.loadD1 rfl (k := 3) Tf.a3 rfl hB1 (by first | simp | assumption) rfl List.not_mem_nil rfl ⟨_, rfl, rfl⟩ ?_
        refine L.sub rfl rfl rfl (by simp only [inK]; omega) rfl ⟨_, rfl, rfl⟩ ?_
        refine L.callV rfl rfl rfl (fun D7 hD7 => In_ok _ _ _ _) rfl ⟨_, rfl, rfl⟩ ?_
        refine L.pickT rfl rfl rfl rfl trivial ?_
        exact L.nil fun a w hh => hh.cutK 7 rfl
      · refine L.pass rfl rfl rfl ⟨_, _, rfl, rfl, rfl⟩ ?_
        refine L.pass rfl rfl rfl ⟨_, _, rfl, rfl, rfl⟩ ?_
        refine L.pass rfl rfl rfl ⟨_, _, rfl, rfl, rfl⟩ ?_
        refine L.pass rfl rfl rfl ⟨_, _, rfl, rfl, rfl⟩ ?_
        refine L.pass rfl rfl rfl ⟨_, _, rfl, rfl, rfl⟩ ?_
        refine L.pass rfl rfl rfl ⟨_, _, rfl, rfl, rfl⟩ ?_
        refine L.pass rfl rfl rfl ⟨_, _, rfl, rfl, rfl⟩ ?_
        refine L.pickF rfl rfl rfl rfl trivial ?_
        exact L.nil fun a w hh => hh.cutK 7 rfl
      refine L.nil ?_
      refine C.next ?_
      refine C.cond rfl (fun hc5 => ?_) (fun hc5 => ?_)
      · simp only [Bool.and_eq_true, decide_eq_true_eq, inB_iff] at hc5
        refine C.seq ?_
        refine C.region [(false,0),(false,1),(false,2),(false,3),(false,4),(false,5),(false,6),(false,7)] rfl ?_
        refine L.move rfl rfl rfl trivial ?_
        refine L.move rfl rfl rfl trivial ?_
        refine L.add rfl rfl rfl (by simp only [inK]; omega) rfl trivial ?_
        refine L.fieldAddr rfl Tf.f25_3 rfl rfl trivial ?_
        refine L.loadD1 rfl (k := 3) Tf.a3 rfl hB1 (by first | simp | assumption) rfl List.not_mem_nil rfl trivial ?_
        refine L.sub rfl rfl rfl (by simp only [inK]; omega) rfl trivial ?_
        refine L.fieldAddr rfl Tf.f50_2 rfl rfl trivial ?_
        refine L.store rfl rfl rfl rfl Tf.s3 (Has.head) (by simp) rfl (by simp [cell1]) trivial ?_
        refine L.nil ?_
        refine C.next ?_
        refine C.seq ?_
        refine C.region [(false,0),(false,1),(false,2),(false,3)] rfl ?_
        refine L.move rfl rfl rfl trivial ?_
        refine L.fieldAddr rfl Tf.f25_3 rfl rfl trivial ?_
        refine L.loadD1 rfl (k := 3) Tf.a3 rfl hB1 (by first | simp | assumption) rfl List.not_mem_nil rfl trivial ?_
        refine L.neq rfl rfl rfl rfl trivial ?_
        refine L.nil ?_
        refine C.next ?_
        refine C.condD rfl (fun hc6 => ?_) (fun hc6 => ?_)
        · refine C.region [(false,0),(false,1),(false,2)] rfl ?_
          refine L.move rfl rfl rfl trivial ?_
          refine L.sub rfl rfl rfl (by simp only [inK]; omega) rfl trivial ?_
          refine L.assign rfl rfl rfl trivial ?_
          refine L.nil ?_
          refine C.next ?_
          refine C.region [(false,0),(false,1),(false,2),(false,3),(false,4),(false,5),(false,6)] rfl ?_
          refine L.fieldAddr rfl Tf.f25_1 rfl rfl trivial ?_
          refine L.loadB1 rfl Tf.a23 rfl (List.Mem.tail _ (List.Mem.head _)) rfl List.not_mem_nil rfl trivial ?_
          refine L.loadBW rfl Tf.a50 rfl (List.Mem.head _) Tf.s50 List.not_mem_nil rfl trivial ?_
          refine L.buildSlice rfl Try.underlying23 Tf.s50 Tf.z50 rfl rfl rfl rfl (.cons rfl rfl .nil) rfl trivial (fun b904 D904 hD904 hA904 => ?_)
          refine L.append (A := [(_, _), (_, _), (_, _)]) (B := []) rfl Try.underlying23 rfl rfl Tf.s50 Tf.z50 rfl Tf.i50 rfl rfl rfl ha (Src.lit hA904) (by simp) rfl (cnt_len _ _ hI.len) (by simp [cell1]) (by omega) (Or.inl rfl) rfl trivial (fun v7 ν7 ha7 => ?_)
          have hn7 : Acc 50 3 v7 (k + 1) (cntC (l ++ [⟨decide (u % 2 = 1), m, (n + f - r.off)⟩])) ν7 := by rw [cntC_snoc]; simpa using ha7
          refine L.fieldAddr rfl Tf.f25_1 rfl rfl trivial ?_
          refine L.store rfl rfl rfl ha7.cells1 Tf.s23 (.tail (Has.head)) (by simp) rfl ha7.cell1 trivial ?_
          refine L.nil ?_
          refine C.blockEnd ?_
          refine C.next ?_
          refine C.region [(false,0),(false,1),(false,2)] rfl ?_
          refine L.move rfl rfl rfl trivial ?_
          refine L.add rfl rfl rfl (by simp only [inK]; omega) rfl trivial ?_
          refine L.assign rfl rfl rfl trivial ?_
          refine L.nil ?_
          exact C.againR 70 (k + 1, l ++ [⟨decide (u % 2 = 1), m, (n + f - r.off)⟩], (left - 1), v7, ν7) ⟨ci_step hI (by omega) ⟨by simp, by simp; omega⟩ ⟨by simp only; omega, by simp only; omega⟩ (by rw [err_at (hab _)]; omega) (Or.inr ⟨rfl, by omega⟩), hn7⟩ (by simp only; omega) ⟨(by first | rfl | (show some (Value.int _ _) = some (Value.int _ _); congr 2; omega)), (by first | rfl | (show some (Value.int _ _) = some (Value.int _ _); congr 2; omega)), trivial⟩ rfl rfl (List.Sublist.cons _ (List.Sublist.refl _)) (fun D h => ⟨D, List.Mem.tail _ (List.Mem.tail _ (List.Mem.tail _ (h))), Le.refl D⟩)
        · refine C.skip ?_
          refine C.next ?_
          refine C.region [(false,0),(false,1),(false,2),(false,3),(false,4),(false,5),(false,6)] rfl ?_
          refine L.fieldAddr rfl Tf.f25_1 rfl rfl trivial ?_
          refine L.loadB1 rfl Tf.a23 rfl (List.Mem.tail _ (List.Mem.head _)) rfl List.not_mem_nil rfl trivial ?_
          refine L.loadBW rfl Tf.a50 rfl (List.Mem.head _) Tf.s50 List.not_mem_nil rfl trivial ?_
          refine L.buildSlice rfl Try.underlying23 Tf.s50 Tf.z50 rfl rfl rfl rfl (.cons rfl rfl .nil) rfl trivial (fun b905 D905 hD905 hA905 => ?_)
          refine L.append (A := [(_, _), (_, _), (_, _)]) (B := []) rfl Try.underlying23 rfl rfl Tf.s50 Tf.z50 rfl Tf.i50 rfl rfl rfl ha (Src.lit hA905) (by simp) rfl (cnt_len _ _ hI.len) (by simp [cell1]) (by omega) (Or.inl rfl) rfl trivial (fun v7 ν7 ha7 => ?_)
          have hn7 : Acc 50 3 v7 (k + 1) (cntC (l ++ [⟨decide (u % 2 = 1), m, (n + f - r.off)⟩])) ν7 := by rw [cntC_snoc]; simpa using ha7
          refine L.fieldAddr rfl Tf.f25_1 rfl rfl trivial ?_
          refine L.store rfl rfl rfl ha7.cells1 Tf.s23 (.tail (Has.head)) (by simp) rfl ha7.cell1 trivial ?_
          refine L.nil ?_
          refine C.blockEnd ?_
          refine C.next ?_
          refine C.region [(false,0),(false,1),(false,2)] rfl ?_
          refine L.move rfl rfl rfl trivial ?_
          refine L.add rfl rfl rfl (by simp only [inK]; omega) rfl trivial ?_
          refine L.assign rfl rfl rfl trivial ?_
          refine L.nil ?_
          exact C.againR 67 (k + 1, l ++ [⟨decide (u % 2 = 1), m, (n + f - r.off)⟩], left, v7, ν7) ⟨ci_step hI (by omega) ⟨by simp, by simp; omega⟩ ⟨by simp only; omega, by simp only; omega⟩ (by rw [err_at (hab _)]; omega) (Or.inl ⟨rfl, by rw [err_at (hab _)]; omega⟩), hn7⟩ (by simp only; omega) ⟨(by first | rfl | (show some (Value.int _ _) = some (Value.int _ _); congr 2; omega)), (by first | rfl | (show some (Value.int _ _) = some (Value.int _ _); congr 2; omega)), trivial⟩ rfl rfl (List.Sublist.cons _ (List.Sublist.refl _)) (fun D h => ⟨D, List.Mem.tail _ (List.Mem.tail _ (List.Mem.tail _ (h))), Le.refl D⟩)
      · refine C.skip ?_
        refine C.next ?_
        refine C.region [(false,0),(false,1),(false,2),(false,3),(false,4),(false,5),(false,6)] rfl ?_
        refine L.fieldAddr rfl Tf.f25_1 rfl rfl trivial ?_
        refine L.loadB1 rfl Tf.a23 rfl (List.Mem.tail _ (List.Mem.head _)) rfl List.not_mem_nil rfl trivial ?_
        refine L.loadBW rfl Tf.a50 rfl (List.Mem.head _) Tf.s50 List.not_mem_nil rfl trivial ?_
        refine L.buildSlice rfl Try.underlying23 Tf.s50 Tf.z50 rfl rfl rfl rfl (.cons rfl rfl .nil) rfl trivial (fun b906 D906 hD906 hA906 => ?_)
        refine L.append (A := [(_, _), (_, _), (_, _)]) (B := []) rfl Try.underlying23 rfl rfl Tf.s50 Tf.z50 rfl Tf.i50 rfl rfl rfl ha (Src.lit hA906) (by simp) rfl (cnt_len _ _ hI.len) (by simp [cell1]) (by omega) (Or.inl rfl) rfl trivial (fun v7 ν7 ha7 => ?_)
        have hn7 : Acc 50 3 v7 (k + 1) (cntC (l ++ [⟨decide (u % 2 = 1), m, n⟩])) ν7 := by rw [cntC_snoc]; simpa using ha7
        refine L.fieldAddr rfl Tf.f25_1 rfl rfl trivial ?_
        refine L.store rfl rfl rfl ha7.cells1 Tf.s23 (.tail (Has.head)) (by simp) rfl ha7.cell1 trivial ?_
        refine L.nil ?_
        refine C.blockEnd ?_
        refine C.next ?_
        refine C.region [(false,0),(false,1),(false,2)] rfl ?_
        refine L.move rfl rfl rfl trivial ?_
        refine L.add rfl rfl rfl (by simp only [inK]; omega) rfl trivial ?_
        refine L.assign rfl rfl rfl trivial ?_
        refine L.nil ?_
        exact C.againR 56 (k + 1, l ++ [⟨decide (u % 2 = 1), m, n⟩], left, v7, ν7) ⟨ci_step hI (by omega) ⟨by simp, by simp; omega⟩ ⟨by simp only; omega, by simp only; omega⟩ (by rw [err_at (hab _)]; omega) (Or.inl ⟨rfl, by rw [err_at (hab _)]; omega⟩), hn7⟩ (by simp only; omega) ⟨(by first | rfl | (show some (Value.int _ _) = some (Value.int _ _); congr 2; omega)), (by first | rfl | (show some (Value.int _ _) = some (Value.int _ _); congr 2; omega)), trivial⟩ rfl rfl (List.Sublist.cons _ (List.Sublist.refl _)) (fun D h => ⟨D, List.Mem.tail _ (List.Mem.tail _ (List.Mem.tail _ (h))), Le.refl D⟩)
  · refine C.exit ?_
    refine C.thenExit ?_
    refine C.thenExit ?_
    refine C.blockExit ?_
    refine C.next ?_
    refine C.seq ?_
    refine C.region [(false,0),(false,1),(false,2),(false,3)] rfl ?_
    refine L.loadBW rfl Tf.a25 rfl (List.Mem.head _) Tf.s25 List.not_mem_nil rfl trivial ?_
    refine L.move rfl rfl rfl trivial ?_
    refine L.storeW rfl rfl rfl rfl Tf.s25 (by first | rfl | (simp only [ints_length, *]; done) | (simp only [ints_length, *]; rfl) | (simp only [ints_length, *]; omega)) (by first | rfl | (simp only [ints_length, *]; done) | (simp only [ints_length, *]; rfl) | (simp only [ints_length, *]; omega)) (.tail (Has.head)) (cell1_row hp.cell1 ha.cell1) trivial ?_
    refine L.assign rfl rfl rfl trivial ?_
    refine L.nil ?_
    refine C.next ?_
    refine C.ret ?_
    refine Q.freeze (A := [(_, _), (_, _)]) (B := []) ha rfl (fun D2 hD2 hF => ?_)
    exact leave (vs := [_, _]) rfl rfl rfl ⟨⟨_, _, _, rfl, (List.Mem.tail _ (List.Mem.head _)), Or.inr ⟨Tf.a25, Tf.s25, rfl⟩⟩, rfl, trivial⟩ (fun D' hD => ⟨_, _, ⟨r.places, l, r.wrong, r.off⟩, t, rfl, ⟨pv, v, rfl, hp.up RI.up (hD _ (by simp)), (hF.cnts hI.len (by omega)).up RC.up (hD _ (by simp))⟩, hw1.up RI.up (hD _ (by simp)), ci_ok hok hI, ci_truth hI htm⟩)
set_option maxHeartbeats 1000000 in
theorem CountTruth_ok (rv sv : Value) (r : RowD) (w : Int) (ws : List Int) (a b : Int) (D : Data) (hr : RowIs D rv r) (hw8 : 0 ≤ w ∧ w ≤ 65535) (hS : Sl D (RK .u16) 1 sv ws) (ha : 0 ≤ a ∧ a ≤ 255) (hb : 0 ≤ b ∧ b ≤ 255) : Fn Try.prog 17 #[rv, .int .u16 w, sv, .int .u8 a, .int .u8 b] D (fun _ v => v = .bool true) := by
  have hr0 := hr
  obtain ⟨pv, cv, rfl, hp, hc⟩ := hr
  refine enter 191 Try.func17 rfl rfl rfl rfl fun h0 => ?_
  refine C.seq ?_
  refine C.region [(false,0),(false,1)] rfl ?_
  refine L.boxD rfl rfl rfl rfl trivial (fun q1 E1 hE1 hB1 => ?_)
  refine L.assign rfl rfl rfl trivial ?_
  refine L.nil ?_
  refine C.next ?_
  refine C.seq ?_
  refine C.seq ?_
  refine C.region [(false,0),(false,1),(false,2)] rfl ?_
  refine L.loadDW rfl Tf.a25 rfl hB1 (by first | simp | assumption) Tf.s25 List.not_mem_nil rfl trivial ?_
  refine L.callV rfl rfl rfl (fun D1 hD1 => ready_ok _ r _ (hr0.up (hD1 _ (by simp)))) rfl trivial ?_
  refine L.not rfl rfl rfl trivial ?_
  refine L.nil ?_
  refine C.next ?_
  refine C.cond rfl (fun hc1 => ?_) (fun hc1 => ?_)
  · refine C.seq ?_
    refine C.region [(false,0),(false,1)] rfl ?_
    refine L.callV rfl rfl rfl (fun D2 hD2 => awake_ok _) rfl trivial ?_
    refine L.assign rfl rfl rfl trivial ?_
    refine L.nil ?_
    refine C.next ?_
    refine C.ret ?_
    refine C.thenRet ?_
    exact leave (vs := [_]) rfl rfl rfl ⟨rfl, trivial⟩ (fun D hD => rfl)
  · obtain ⟨hlp, hlc, hok⟩ := ready_len hc1
    refine C.skip ?_
    refine C.next ?_
    refine C.seq ?_
    refine C.region [(false,0),(false,1),(false,2),(false,3),(false,4),(false,5),(false,6),(false,7),(false,8),(false,9)] rfl ?_
    refine L.loadDW rfl Tf.a25 rfl hB1 (by first | simp | assumption) Tf.s25 List.not_mem_nil rfl trivial ?_
    refine L.move rfl rfl rfl trivial ?_
    refine L.move rfl rfl rfl trivial ?_
    refine L.call rfl rfl rfl (fun D3 hD3 => Counted_ok _ _ r w ws _ (hr0.up (hD3 _ (by simp))) hok hw8 (hS.up RK.up (hD3 _ (by simp)))) rfl trivial (fun v3 D3 hD3 hp3 => ?_)
    obtain ⟨xv, tv, x, t, rfl, hxr, htr, hokx, htx⟩ := hp3
    obtain ⟨xp, xc, rfl, hxp, hxc⟩ := id hxr
    obtain ⟨i, j, hij, hjn, hpt⟩ := parted_ex x a b hokx.len0 ha hb
    have hx9 := hokx.len9
    have hx6 := hokx.cnt6
    obtain ⟨htl, htb⟩ := allT_ok (mem_truths.1 htx).1
    refine L.move rfl rfl rfl trivial ?_
    refine L.extract rfl rfl rfl rfl trivial ?_
    refine L.extract rfl rfl rfl rfl trivial ?_
    refine L.alloc rfl Tf.z25 rfl rfl trivial (fun q2 => ?_)
    refine L.storeW rfl rfl rfl rfl Tf.s25 (by first | rfl | (simp only [ints_length, *]; done) | (simp only [ints_length, *]; rfl) | (simp only [ints_length, *]; omega)) (by first | rfl | (simp only [ints_length, *]; done) | (simp only [ints_length, *]; rfl) | (simp only [ints_length, *]; omega)) (Has.head) (cell1_row hxp.cell1 hxc.cell1) trivial ?_
    refine L.assign rfl rfl rfl trivial ?_
    refine L.nil ?_
    refine C.next ?_
    refine C.seq ?_
    refine C.region [(false,0),(false,1),(false,2),(false,3),(false,4),(false,5),(false,6),(false,7),(false,8)] rfl ?_
    refine L.loadBW rfl Tf.a25 rfl (List.Mem.head _) Tf.s25 List.not_mem_nil rfl trivial ?_
    refine L.move rfl rfl rfl trivial ?_
    refine L.move rfl rfl rfl trivial ?_
    refine L.callV rfl rfl rfl (fun D4 hD4 => hpt _ _ (hxr.up (hD4 _ (by simp)))) rfl trivial ?_
    refine L.move rfl rfl rfl trivial ?_
    refine L.extract rfl rfl rfl rfl trivial ?_
    refine L.extract rfl rfl rfl rfl trivial ?_
    refine L.assign rfl rfl rfl trivial ?_
    refine L.assign rfl rfl rfl trivial ?_
    refine L.nil ?_
    refine C.next ?_
    refine C.seq ?_
    refine C.region [(false,0),(false,1),(false,2),(false,3),(false,4),(false,5),(false,6),(false,7),(false,8),(false,9)] rfl ?_
    refine L.loadBW rfl Tf.a25 rfl (List.Mem.head _) Tf.s25 List.not_mem_nil rfl trivial ?_
    refine L.call rfl rfl rfl (fun D5 hD5 => Row_ok _ x _ (hxr.up (hD5 _ (by simp))) (by omega) (by omega)) rfl trivial (fun v5 D5 hD5 hp5 => ?_)
    have hw := hp5
    refine L.move rfl rfl rfl trivial ?_
    refine L.call rfl rfl rfl (fun D6 hD6 => list_ok _ t _ (htr.up RI.up (hD6 _ (by simp))) (by omega)) rfl trivial (fun v6 D6 hD6 hp6 => ?_)
    have htc := hp6
    refine L.call rfl rfl rfl (fun D7 hD7 => Play_ok _ _ x t _ (hw.up (hD7 _ (by simp))) (htc.up RI.up (hD7 _ (by simp)))) rfl trivial (fun v7 D7 hD7 hp7 => ?_)
    obtain ⟨lv, rfl, hls⟩ := hp7
    refine L.move rfl rfl rfl trivial ?_
    refine L.extract rfl rfl rfl rfl trivial ?_
    refine L.extract rfl rfl rfl rfl trivial ?_
    refine L.assign rfl rfl rfl trivial ?_
    refine L.assign rfl rfl rfl trivial ?_
    refine L.nil ?_
    refine C.next ?_
    refine C.seq ?_
    refine C.region [(false,0),(false,1),(false,2),(false,3),(false,4),(false,5),(false,6),(false,7),(false,8),(false,9),(false,10)] rfl ?_
    refine L.loadBW rfl Tf.a25 rfl (List.Mem.head _) Tf.s25 List.not_mem_nil rfl trivial ?_
    refine L.call rfl rfl rfl (fun D8 hD8 => Row_ok _ x _ (hxr.up (hD8 _ (by simp))) (by omega) (by omega)) rfl trivial (fun v8 D8 hD8 hp8 => ?_)
    have hw := hp8
    refine L.move rfl rfl rfl trivial ?_
    refine L.move rfl rfl rfl trivial ?_
    refine L.callV rfl rfl rfl (fun D9 hD9 => Chairs2_ok _ x _ _ _ (hw.up (hD9 _ (by simp)))) rfl trivial ?_
    refine L.move rfl rfl rfl trivial ?_
    refine L.extract rfl rfl rfl rfl trivial ?_
    refine L.extract rfl rfl rfl rfl trivial ?_
    refine L.alloc rfl Tf.z29 rfl rfl trivial (fun q3 => ?_)
    refine L.storeW rfl rfl rfl rfl Tf.s29 (by first | rfl | (simp only [ints_length, *]; done) | (simp only [ints_length, *]; rfl) | (simp only [ints_length, *]; omega)) (by first | rfl | (simp only [ints_length, *]; done) | (simp only [ints_length, *]; rfl) | (simp only [ints_length, *]; omega)) (Has.head) (by first | exact ints_cell1 _ | simp [cell1]) trivial ?_
    refine L.assign rfl rfl rfl trivial ?_
    refine L.nil ?_
    refine C.next ?_
    refine C.seq ?_
    refine C.region [(false,0),(false,1),(false,2),(false,3),(false,4),(false,5),(false,6),(false,7)] rfl ?_
    refine L.loadBW rfl Tf.a25 rfl (List.Mem.tail _ (List.Mem.head _)) Tf.s25 List.not_mem_nil rfl trivial ?_
    refine L.call rfl rfl rfl (fun D10 hD10 => Row_ok _ x _ (hxr.up (hD10 _ (by simp))) (by omega) (by omega)) rfl trivial (fun v10 D10 hD10 hp10 => ?_)
    have hw := hp10
    refine L.call rfl rfl rfl (fun D11 hD11 => Places_ok _ x _ (hw.up (hD11 _ (by simp)))) rfl trivial (fun v11 D11 hD11 hp11 => ?_)
    obtain ⟨plv, rfl, hps⟩ := hp11
    refine L.move rfl rfl rfl trivial ?_
    refine L.extract rfl rfl rfl rfl trivial ?_
    refine L.extract rfl rfl rfl rfl trivial ?_
    refine L.assign rfl rfl rfl trivial ?_
    refine L.assign rfl rfl rfl trivial ?_
    refine L.nil ?_
    refine C.next ?_
    refine C.seq ?_
    refine C.region [(false,0),(false,1),(false,2),(false,3),(false,4),(false,5),(false,6),(false,7)] rfl ?_
    refine L.loadBW rfl Tf.a25 rfl (List.Mem.tail _ (List.Mem.head _)) Tf.s25 List.not_mem_nil rfl trivial ?_
    refine L.call rfl rfl rfl (fun D12 hD12 => Row_ok _ x _ (hxr.up (hD12 _ (by simp))) (by omega) (by omega)) rfl trivial (fun v12 D12 hD12 hp12 => ?_)
    have hw := hp12
    refine L.call rfl rfl rfl (fun D13 hD13 => Right_ok _ x _ (hw.up (hD13 _ (by simp)))) rfl trivial (fun v13 D13 hD13 hp13 => ?_)
    obtain ⟨qlv, rfl, hqs⟩ := hp13
    refine L.move rfl rfl rfl trivial ?_
    refine L.extract rfl rfl rfl rfl trivial ?_
    refine L.extract rfl rfl rfl rfl trivial ?_
    refine L.assign rfl rfl rfl trivial ?_
    refine L.assign rfl rfl rfl trivial ?_
    refine L.nil ?_
    refine C.next ?_
    refine C.seq ?_
    refine C.region [(false,0),(false,1),(false,2),(false,3),(false,4),(false,5),(false,6),(false,7)] rfl ?_
    refine L.loadBW rfl Tf.a25 rfl (List.Mem.tail _ (List.Mem.head _)) Tf.s25 List.not_mem_nil rfl trivial ?_
    refine L.call rfl rfl rfl (fun D14 hD14 => Row_ok _ x _ (hxr.up (hD14 _ (by simp))) (by omega) (by omega)) rfl trivial (fun v14 D14 hD14 hp14 => ?_)
    have hw := hp14
    refine L.callV rfl rfl rfl (fun D15 hD15 => Least_ok _ x _ (hw.up (hD15 _ (by simp)))) rfl trivial ?_
    refine L.move rfl rfl rfl trivial ?_
    refine L.extract rfl rfl rfl rfl trivial ?_
    refine L.extract rfl rfl rfl rfl trivial ?_
    refine L.assign rfl rfl rfl trivial ?_
    refine L.assign rfl rfl rfl trivial ?_
    refine L.nil ?_
    refine C.next ?_
    refine C.seq ?_
    refine C.seq ?_
    obtain ⟨hfx, hit, hzx, hax, hlE, hCh, hB, hlV, hwx⟩ := tr_facts hokx htx hij hjn
    rw [if_pos ⟨hfx, hit⟩] at hls
    rw [if_pos hzx] at hps hqs
    refine C.draw [] 12 [0,1,2,3,4,5,6,7,8,9,10,11,12,13,14,15,16,17,18,19,20,21,22,23,24,25,26,27,28,29,30,31,32,33,34,35,36,37,38,39,40,41,42,44,43,45,46,47,48,49,50,51,52,54,53,55,56,57] [false,false,false,false,false,false,false,false,false,false,false,false,false,false,false,false,false,false,false,false,false,true,true,true,false,false,false,false,false,true,true,true,false,false,false,false,false,true,true,false,false,false,false,true,true,false,false,false,false,false,false,true,true,true,true,false,false,false] [(false,0),(false,1),(false,2),(false,3),(false,4),(false,5),(false,6),(false,7),(false,8),(false,9),(false,10),(false,11),(false,12),(false,13),(false,14),(false,15),(false,16),(false,17),(false,18),(false,19),(false,20),(true,21),(true,22),(true,23),(false,24),(false,25),(false,26),(false,27),(false,28),(true,29),(true,30),(true,31),(false,32),(false,33),(false,34),(false,35),(false,36),(true,37),(true,38),(false,39),(false,40),(false,41),(false,42),(true,44),(true,43),(false,45),(false,46),(false,47),(false,48),(false,49),(false,50),(true,51),(true,52),(true,54),(true,53),(false,55),(false,56),(false,57)] Tf.follows (fun _ _ _ h => np_body (P := Try.prog) (fn := Try.f17) _ _ _ h) (by kernel_rfl) rfl ?_
    refine L.move rfl rfl rfl trivial ?_
    refine L.neq rfl rfl rfl rfl trivial ?_
    refine L.move rfl rfl rfl trivial ?_
    refine' L.or [(false,3),(false,4),(false,5)] [(false,6),(false,7),(false,8),(false,9),(false,10),(false,11),(false,12),(false,13),(false,14),(false,15),(false,16),(false,17),(false,18),(false,19),(false,20),(true,21),(true,22),(true,23),(false,24),(false,25),(false,26),(false,27),(false,28),(true,29),(true,30),(true,31),(false,32),(false,33),(false,34),(false,35),(false,36),(true,37),(true,38),(false,39),(false,40),(false,41),(false,42),(true,44),(true,43),(false,45),(false,46),(false,47),(false,48),(false,49),(false,50),(true,51),(true,52),(true,54),(true,53),(false,55),(false,56),(false,57)] (s := 82) (p := 85) rfl rfl (fun hg1 => ?_) (fun hg1 => ?_) ?_
    rotate_left
    · refine L.move rfl rfl rfl ⟨_, rfl, rfl⟩ ?_
      refine L.neq rfl rfl rfl rfl ⟨_, rfl, rfl⟩ ?_
      refine L.pickF rfl rfl rfl rfl trivial ?_
      exact L.nil fun a w hh => hh.cutK 2 rfl
    · refine L.pass rfl rfl rfl ⟨_, _, rfl, rfl, rfl⟩ ?_
      refine L.pass rfl rfl rfl ⟨_, _, rfl, rfl, rfl⟩ ?_
      refine L.pickT rfl rfl rfl rfl trivial ?_
      exact L.nil fun a w hh => hh.cutK 2 rfl
    refine L.move rfl rfl rfl trivial ?_
    refine' L.or [(false,7),(false,8),(false,9)] [(false,10),(false,11),(false,12),(false,13),(false,14),(false,15),(false,16),(false,17),(false,18),(false,19),(false,20),(true,21),(true,22),(true,23),(false,24),(false,25),(false,26),(false,27),(false,28),(true,29),(true,30),(true,31),(false,32),(false,33),(false,34),(false,35),(false,36),(true,37),(true,38),(false,39),(false,40),(false,41),(false,42),(true,44),(true,43),(false,45),(false,46),(false,47),(false,48),(false,49),(false,50),(true,51),(true,52),(true,54),(true,53),(false,55),(false,56),(false,57)] (s := 86) (p := 89) rfl rfl (fun hg2 => ?_) (fun hg2 => ?_) ?_
    rotate_left
    · refine L.move rfl rfl rfl ⟨_, rfl, rfl⟩ ?_
      refine L.neq rfl rfl rfl rfl ⟨_, rfl, rfl⟩ ?_
      refine L.pickF rfl rfl rfl rfl trivial ?_
      exact L.nil fun a w hh => hh.cutK 2 rfl
    · refine L.pass rfl rfl rfl ⟨_, _, rfl, rfl, rfl⟩ ?_
      refine L.pass rfl rfl rfl ⟨_, _, rfl, rfl, rfl⟩ ?_
      refine L.pickT rfl rfl rfl rfl trivial ?_
      exact L.nil fun a w hh => hh.cutK 2 rfl
    refine L.move rfl rfl rfl trivial ?_
    refine' L.or [(false,11),(false,12),(false,13)] [(false,14),(false,15),(false,16),(false,17),(false,18),(false,19),(false,20),(true,21),(true,22),(true,23),(false,24),(false,25),(false,26),(false,27),(false,28),(true,29),(true,30),(true,31),(false,32),(false,33),(false,34),(false,35),(false,36),(true,37),(true,38),(false,39),(false,40),(false,41),(false,42),(true,44),(true,43),(false,45),(false,46),(false,47),(false,48),(false,49),(false,50),(true,51),(true,52),(true,54),(true,53),(false,55),(false,56),(false,57)] (s := 90) (p := 93) rfl rfl (fun hg3 => ?_) (fun hg3 => ?_) ?_
    rotate_left
    · refine L.move rfl rfl rfl ⟨_, rfl, rfl⟩ ?_
      refine L.neq rfl rfl rfl rfl ⟨_, rfl, rfl⟩ ?_
      refine L.pickF rfl rfl rfl rfl trivial ?_
      exact L.nil fun a w hh => hh.cutK 2 rfl
    · refine L.pass rfl rfl rfl ⟨_, _, rfl, rfl, rfl⟩ ?_
      refine L.pass rfl rfl rfl ⟨_, _, rfl, rfl, rfl⟩ ?_
      refine L.pickT rfl rfl rfl rfl trivial ?_
      exact L.nil fun a w hh => hh.cutK 2 rfl
    refine L.move rfl rfl rfl trivial ?_
    refine' L.or [(false,15),(false,16),(false,17)] [(false,18),(false,19),(false,20),(true,21),(true,22),(true,23),(false,24),(false,25),(false,26),(false,27),(false,28),(true,29),(true,30),(true,31),(false,32),(false,33),(false,34),(false,35),(false,36),(true,37),(true,38),(false,39),(false,40),(false,41),(false,42),(true,44),(true,43),(false,45),(false,46),(false,47),(false,48),(false,49),(false,50),(true,51),(true,52),(true,54),(true,53),(false,55),(false,56),(false,57)] (s := 94) (p := 97) rfl rfl (fun hg4 => ?_) (fun hg4 => ?_) ?_
    rotate_left
    · refine L.move rfl rfl rfl ⟨_, rfl, rfl⟩ ?_
      refine L.neq rfl rfl rfl rfl ⟨_, rfl, rfl⟩ ?_
      refine L.pickF rfl rfl rfl rfl trivial ?_
      exact L.nil fun a w hh => hh.cutK 2 rfl
    · refine L.pass rfl rfl rfl ⟨_, _, rfl, rfl, rfl⟩ ?_
      refine L.pass rfl rfl rfl ⟨_, _, rfl, rfl, rfl⟩ ?_
      refine L.pickT rfl rfl rfl rfl trivial ?_
      exact L.nil fun a w hh => hh.cutK 2 rfl
    refine L.move rfl rfl rfl trivial ?_
    refine' L.or [(false,19),(false,20),(true,21),(true,22),(true,23),(false,24),(false,25)] [(false,26),(false,27),(false,28),(true,29),(true,30),(true,31),(false,32),(false,33),(false,34),(false,35),(false,36),(true,37),(true,38),(false,39),(false,40),(false,41),(false,42),(true,44),(true,43),(false,45),(false,46),(false,47),(false,48),(false,49),(false,50),(true,51),(true,52),(true,54),(true,53),(false,55),(false,56),(false,57)] (s := 98) (p := 105) rfl rfl (fun hg5 => ?_) (fun hg5 => ?_) ?_
    rotate_left
    · refine L.move rfl rfl rfl ⟨_, rfl, rfl⟩ ?_
      refine L.len rfl Try.underlying22 rfl hls rfl rfl ⟨_, rfl, rfl⟩ ?_
      refine L.fieldAddr rfl Tf.f25_1 rfl rfl ⟨_, rfl, rfl⟩ ?_
      refine L.loadB1 rfl Tf.a23 rfl (List.Mem.tail _ (List.Mem.head _)) rfl List.not_mem_nil rfl ⟨_, rfl, rfl⟩ ?_
      refine L.len rfl Try.underlying23 rfl hxc rfl rfl ⟨_, rfl, rfl⟩ ?_
      refine L.neq rfl rfl rfl rfl ⟨_, rfl, rfl⟩ ?_
      refine L.pickF rfl rfl rfl rfl trivial ?_
      exact L.nil fun a w hh => hh.cutK 6 rfl
    · refine L.pass rfl rfl rfl ⟨_, _, rfl, rfl, rfl⟩ ?_
      refine L.pass rfl rfl rfl ⟨_, _, rfl, rfl, rfl⟩ ?_
      refine L.pass rfl rfl rfl ⟨_, _, rfl, rfl, rfl⟩ ?_
      refine L.pass rfl rfl rfl ⟨_, _, rfl, rfl, rfl⟩ ?_
      refine L.pass rfl rfl rfl ⟨_, _, rfl, rfl, rfl⟩ ?_
      refine L.pass rfl rfl rfl ⟨_, _, rfl, rfl, rfl⟩ ?_
      refine L.pickT rfl rfl rfl rfl trivial ?_
      exact L.nil fun a w hh => hh.cutK 6 rfl
    refine L.move rfl rfl rfl trivial ?_
    refine' L.or [(false,27),(false,28),(true,29),(true,30),(true,31),(false,32),(false,33)] [(false,34),(false,35),(false,36),(true,37),(true,38),(false,39),(false,40),(false,41),(false,42),(true,44),(true,43),(false,45),(false,46),(false,47),(false,48),(false,49),(false,50),(true,51),(true,52),(true,54),(true,53),(false,55),(false,56),(false,57)] (s := 106) (p := 113) rfl rfl (fun hg6 => ?_) (fun hg6 => ?_) ?_
    rotate_left
    · refine L.move rfl rfl rfl ⟨_, rfl, rfl⟩ ?_
      refine L.len rfl Try.underlying22 rfl hps rfl rfl ⟨_, rfl, rfl⟩ ?_
      refine L.fieldAddr rfl Tf.f25_0 rfl rfl ⟨_, rfl, rfl⟩ ?_
      refine L.loadB1 rfl Tf.a22 rfl (List.Mem.tail _ (List.Mem.head _)) rfl List.not_mem_nil rfl ⟨_, rfl, rfl⟩ ?_
      refine L.len rfl Try.underlying22 rfl hxp rfl rfl ⟨_, rfl, rfl⟩ ?_
      refine L.neq rfl rfl rfl rfl ⟨_, rfl, rfl⟩ ?_
      refine L.pickF rfl rfl rfl rfl trivial ?_
      exact L.nil fun a w hh => hh.cutK 6 rfl
    · refine L.pass rfl rfl rfl ⟨_, _, rfl, rfl, rfl⟩ ?_
      refine L.pass rfl rfl rfl ⟨_, _, rfl, rfl, rfl⟩ ?_
      refine L.pass rfl rfl rfl ⟨_, _, rfl, rfl, rfl⟩ ?_
      refine L.pass rfl rfl rfl ⟨_, _, rfl, rfl, rfl⟩ ?_
      refine L.pass rfl rfl rfl ⟨_, _, rfl, rfl, rfl⟩ ?_
      refine L.pass rfl rfl rfl ⟨_, _, rfl, rfl, rfl⟩ ?_
      refine L.pickT rfl rfl rfl rfl trivial ?_
      exact L.nil fun a w hh => hh.cutK 6 rfl
    refine L.move rfl rfl rfl trivial ?_
    refine' L.or [(false,35),(false,36),(true,37),(true,38),(false,39),(false,40)] [(false,41),(false,42),(true,44),(true,43),(false,45),(false,46),(false,47),(false,48),(false,49),(false,50),(true,51),(true,52),(true,54),(true,53),(false,55),(false,56),(false,57)] (s := 114) (p := 120) rfl rfl (fun hg7 => ?_) (fun hg7 => ?_) ?_
    rotate_left
    · refine L.move rfl rfl rfl ⟨_, rfl, rfl⟩ ?_
      refine L.len rfl Try.underlying22 rfl hqs rfl rfl ⟨_, rfl, rfl⟩ ?_
      refine L.move rfl rfl rfl ⟨_, rfl, rfl⟩ ?_
      refine L.len rfl Try.underlying22 rfl hls rfl rfl ⟨_, rfl, rfl⟩ ?_
      refine L.neq rfl rfl rfl rfl ⟨_, rfl, rfl⟩ ?_
      refine L.pickF rfl rfl rfl rfl trivial ?_
      exact L.nil fun a w hh => hh.cutK 5 rfl
    · refine L.pass rfl rfl rfl ⟨_, _, rfl, rfl, rfl⟩ ?_
      refine L.pass rfl rfl rfl ⟨_, _, rfl, rfl, rfl⟩ ?_
      refine L.pass rfl rfl rfl ⟨_, _, rfl, rfl, rfl⟩ ?_
      refine L.pass rfl rfl rfl ⟨_, _, rfl, rfl, rfl⟩ ?_
      refine L.pass rfl rfl rfl ⟨_, _, rfl, rfl, rfl⟩ ?_
      refine L.pickT rfl rfl rfl rfl trivial ?_
      exact L.nil fun a w hh => hh.cutK 5 rfl
    refine L.move rfl rfl rfl trivial ?_
    refine' L.or [(false,42),(true,44),(true,43),(false,45),(false,46),(false,47),(false,48)] [(false,49),(false,50),(true,51),(true,52),(true,54),(true,53),(false,55),(false,56),(false,57)] (s := 121) (p := 128) rfl rfl (fun hg8 => ?_) (fun hg8 => ?_) ?_
    rotate_left
    · refine L.loadBW rfl Tf.a25 rfl (List.Mem.tail _ (List.Mem.head _)) Tf.s25 List.not_mem_nil rfl ⟨_, rfl, rfl⟩ ?_
      refine L.move rfl rfl rfl ⟨_, rfl, rfl⟩ ?_
      refine L.call rfl rfl rfl (fun D16 hD16 => Row_ok _ x _ (hxr.up (hD16 _ (by simp))) (by omega) (by omega)) rfl ⟨_, rfl, rfl⟩ (fun v16 D16 hD16 hp16 => ?_)
      have hw := hp16
      refine L.call rfl rfl rfl (fun D17 hD17 => list_ok _ t _ (htr.up RI.up (hD17 _ (by simp))) (by omega)) rfl ⟨_, rfl, rfl⟩ (fun v17 D17 hD17 hp17 => ?_)
      have htc := hp17
      refine L.callV rfl rfl rfl (fun D18 hD18 => ProveTruth_ok _ _ x t _ (hw.up (hD18 _ (by simp))) (htc.up RI.up (hD18 _ (by simp)))) rfl ⟨_, rfl, rfl⟩ ?_
      refine L.not rfl rfl rfl ⟨_, rfl, rfl⟩ ?_
      refine L.pickF rfl rfl rfl rfl trivial ?_
      exact L.nil fun a w hh => (hh.cutK 6 rfl).ds (fun _ h => List.Mem.tail _ (List.Mem.tail _ (h)))
    · refine L.pass rfl rfl rfl ⟨_, _, rfl, rfl, rfl⟩ ?_
      refine L.pass rfl rfl rfl ⟨_, _, rfl, rfl, rfl⟩ ?_
      refine L.pass rfl rfl rfl ⟨_, _, rfl, rfl, rfl⟩ ?_
      refine L.pass rfl rfl rfl ⟨_, _, rfl, rfl, rfl⟩ ?_
      refine L.pass rfl rfl rfl ⟨_, _, rfl, rfl, rfl⟩ ?_
      refine L.pass rfl rfl rfl ⟨_, _, rfl, rfl, rfl⟩ ?_
      refine L.pickT rfl rfl rfl rfl trivial ?_
      exact L.nil fun a w hh => hh.cutK 6 rfl
    refine L.move rfl rfl rfl trivial ?_
    refine' L.or [(false,50),(true,51),(true,52),(true,54),(true,53),(false,55),(false,56),(false,57)] [] (s := 129) (p := 137) rfl rfl (fun hg9 => ?_) (fun hg9 => ?_) ?_
    rotate_left
    · refine L.move rfl rfl rfl ⟨_, rfl, rfl⟩ ?_
      refine L.move rfl rfl rfl ⟨_, rfl, rfl⟩ ?_
      refine L.move rfl rfl rfl ⟨_, rfl, rfl⟩ ?_
      refine L.loadBW rfl Tf.a29 rfl (List.Mem.head _) Tf.s29 List.not_mem_nil rfl ⟨_, rfl, rfl⟩ ?_
      refine L.callV rfl rfl rfl (fun D19 hD19 => Sum_ok _ t i j i (j + 1 - i) _ (htr.up RI.up (hD19 _ (by simp))) rfl (by omega) (by omega) htb (by omega)) rfl ⟨_, rfl, rfl⟩ ?_
      refine L.callV rfl rfl rfl (fun D20 hD20 => inL2_ok _ _ _) rfl ⟨_, rfl, rfl⟩ ?_
      refine L.not rfl rfl rfl ⟨_, rfl, rfl⟩ ?_
      refine L.pickF rfl rfl rfl rfl trivial ?_
      exact L.nil fun a w hh => hh.cutK 7 rfl
    · refine L.pass rfl rfl rfl ⟨_, _, rfl, rfl, rfl⟩ ?_
      refine L.pass rfl rfl rfl ⟨_, _, rfl, rfl, rfl⟩ ?_
      refine L.pass rfl rfl rfl ⟨_, _, rfl, rfl, rfl⟩ ?_
      refine L.pass rfl rfl rfl ⟨_, _, rfl, rfl, rfl⟩ ?_
      refine L.pass rfl rfl rfl ⟨_, _, rfl, rfl, rfl⟩ ?_
      refine L.pass rfl rfl rfl ⟨_, _, rfl, rfl, rfl⟩ ?_
      refine L.pass rfl rfl rfl ⟨_, _, rfl, rfl, rfl⟩ ?_
      refine L.pickT rfl rfl rfl rfl trivial ?_
      exact L.nil fun a w hh => hh.cutK 7 rfl
    refine L.nil ?_
    refine C.next ?_
    refine C.cond rfl (fun hc2 => ?_) (fun hc2 => ?_)
    · exact absurd hc2 (by rw [hfx, hit, hzx, hax, hlE, hCh]; simp [hB])
    · refine C.skip ?_
      refine C.next ?_
      refine C.seq ?_
      refine C.region [(false,0)] rfl ?_
      refine L.assign rfl rfl rfl trivial ?_
      refine L.nil ?_
      refine C.next ?_
      refine C.seq ?_
      refine C.seq ?_
      refine C.region [(false,0)] rfl ?_
      refine L.assign rfl rfl rfl trivial ?_
      refine L.nil ?_
      refine C.next ?_
      refine C.block ?_
      refine C.loopC (γ := Nat) (fun k => x.places.length - k) (fun k => k ≤ x.places.length) (fun k => [(26, .int .i64 (k : Int))]) [(25, _), (23, _), (21, _), (19, _), (15, _), (12, _), (11, _), (10, _)] (fun k => [D14, D13, D12, D11, D10, D8, D7, D6, D5, D3, E1, D]) 0 (by omega) ⟨(by first | rfl | (show some (Value.int _ _) = some (Value.int _ _); congr 2; omega)), trivial⟩ ⟨rfl, rfl, rfl, rfl, rfl, rfl, rfl, rfl, trivial⟩ (ds_same) ?_
      rintro k h1
      refine C.seq ?_
      refine C.seq ?_
      refine C.region [(false,0),(false,1),(false,2),(false,3)] rfl ?_
      refine L.move rfl rfl rfl trivial ?_
      refine L.move rfl rfl rfl trivial ?_
      refine L.len rfl Try.underlying22 rfl hps rfl rfl trivial ?_
      refine L.lss rfl rfl rfl rfl trivial ?_
      refine L.nil ?_
      refine C.next ?_
      refine C.condD rfl (fun hc3 => ?_) (fun hc3 => ?_)
      · simp only [List.length_map, List.length_range] at hc3
        have hk : k < x.places.length := by omega
        have hpx : ((List.range x.places.length).map fun i => vd (truths x) (hasAt i))[k]? = some (vd (truths x) (hasAt k)) := by rw [List.getElem?_map, List.getElem?_range hk]; rfl
        obtain ⟨y, hy⟩ : ∃ y, t[k]? = some y := ⟨_, List.getElem?_eq_getElem (by omega)⟩
        refine C.skip ?_
        refine C.next ?_
        refine C.seq ?_
        refine C.block ?_
        refine C.seq ?_
        refine C.draw [] 5 [0,1,2,3,4,5,6,7,8,9,10] [false,true,false,false,true,true,true,true,true,false,false] [(false,0),(true,1),(false,2),(false,3),(true,4),(true,5),(true,6),(true,7),(true,8),(false,9),(false,10)] Tf.follows (fun _ _ _ h => np_body (P := Try.prog) (fn := Try.f17) _ _ _ h) (by kernel_rfl) rfl ?_
        refine L.move rfl rfl rfl trivial ?_
        refine L.move rfl rfl rfl trivial ?_
        refine L.indexS rfl Try.underlying22 Tf.s3 rfl hps rfl (by omega) hpx rfl trivial (fun b1 o1 cs1 hr1 hcl1 hA1 => ?_)
        obtain rfl : cs1 = [.int .i64 _] := hr1
        refine L.loadD1 rfl (k := 0) Tf.a3 rfl hA1 (by first | simp | assumption) rfl List.not_mem_nil rfl trivial ?_
        refine L.move rfl rfl rfl trivial ?_
        refine L.move rfl rfl rfl trivial ?_
        refine L.indexS rfl Try.underlying22 Tf.s3 rfl htr rfl (by omega) hy rfl trivial (fun b2 o2 cs2 hr2 hcl2 hA2 => ?_)
        obtain rfl : cs2 = [.int .i64 _] := hr2
        refine L.loadD1 rfl (k := 0) Tf.a3 rfl hA2 (by first | simp | assumption) rfl List.not_mem_nil rfl trivial ?_
        refine L.eql rfl rfl rfl rfl trivial ?_
        refine L.callV rfl rfl rfl (fun D21 hD21 => steady_ok _ _ _) rfl trivial ?_
        refine L.not rfl rfl rfl trivial ?_
        refine L.nil ?_
        refine C.next ?_
        refine C.cond rfl (fun hc4 => ?_) (fun hc4 => ?_)
        · exact absurd hc4 (by rw [st_vd htx (st_has htb hy)]; simp)
        · refine C.skip ?_
          refine C.blockEnd ?_
          refine C.next ?_
          refine C.region [(false,0),(false,1),(false,2)] rfl ?_
          refine L.move rfl rfl rfl trivial ?_
          refine L.add rfl rfl rfl (by simp only [inK]; omega) rfl trivial ?_
          refine L.assign rfl rfl rfl trivial ?_
          refine L.nil ?_
          exact C.againR 19 (k + 1) (by omega) (by omega) ⟨(by first | rfl | (show some (Value.int _ _) = some (Value.int _ _); congr 2; omega)), trivial⟩ rfl rfl (List.Sublist.refl _) (ds_same)
      · refine C.exit ?_
        refine C.thenExit ?_
        refine C.thenExit ?_
        refine C.blockExit ?_
        refine C.next ?_
        refine C.seq ?_
        refine C.seq ?_
        refine C.region [(false,0)] rfl ?_
        refine L.assign rfl rfl rfl trivial ?_
        refine L.nil ?_
        refine C.next ?_
        refine C.block ?_
        refine C.loopC (γ := Nat) (fun k => x.counts.length - k) (fun k => k ≤ x.counts.length) (fun k => [(27, .int .i64 (k : Int)), (25, .int .i64 (((x.counts.take k).filter fun c => decide (0 < errOf t c)).length : Int))]) [(23, _), (21, _), (15, _), (11, _), (10, _)] (fun k => [D14, D13, D12, D11, D10, D8, D7, D6, D5, D3, E1, D]) 0 (by omega) ⟨(by first | rfl | (show some (Value.int _ _) = some (Value.int _ _); congr 2; omega)), (by simp; rfl), trivial⟩ ⟨rfl, rfl, rfl, rfl, rfl, trivial⟩ (ds_same) ?_
        rintro k h1
        refine C.seq ?_
        refine C.seq ?_
        refine C.region [(false,0),(false,1),(false,2),(false,3)] rfl ?_
        refine L.move rfl rfl rfl trivial ?_
        refine L.move rfl rfl rfl trivial ?_
        refine L.len rfl Try.underlying22 rfl hqs rfl rfl trivial ?_
        refine L.lss rfl rfl rfl rfl trivial ?_
        refine L.nil ?_
        refine C.next ?_
        refine C.condD rfl (fun hc5 => ?_) (fun hc5 => ?_)
        · simp only [List.length_map, List.length_range] at hc5
          have hk : k < x.counts.length := by omega
          obtain ⟨c, hx⟩ : ∃ c, x.counts[k]? = some c := ⟨_, List.getElem?_eq_getElem hk⟩
          have hqx : ((List.range x.counts.length).map fun i => vd (truths x) (rightAt x i))[k]? = some (vd (truths x) (rightAt x k)) := by rw [List.getElem?_map, List.getElem?_range hk]; rfl
          have hex : (x.counts.map (errOf t))[k]? = some (errOf t c) := by rw [List.getElem?_map, hx]; rfl
          have hlf := List.length_filter_le (fun c => decide (0 < errOf t c)) (x.counts.take k)
          have hlt : (x.counts.take k).length ≤ k := List.length_take_le _ _
          refine C.skip ?_
          refine C.next ?_
          refine C.seq ?_
          refine C.block ?_
          refine C.seq ?_
          refine C.seq ?_
          refine C.draw [] 5 [0,1,2,3,4,5,6,7,8,9,10] [false,true,false,false,true,true,true,true,true,false,false] [(false,0),(true,1),(false,2),(false,3),(true,4),(true,5),(true,6),(true,7),(true,8),(false,9),(false,10)] Tf.follows (fun _ _ _ h => np_body (P := Try.prog) (fn := Try.f17) _ _ _ h) (by kernel_rfl) rfl ?_
          refine L.move rfl rfl rfl trivial ?_
          refine L.move rfl rfl rfl trivial ?_
          refine L.indexS rfl Try.underlying22 Tf.s3 rfl hqs rfl (by omega) hqx rfl trivial (fun b3 o3 cs3 hr3 hcl3 hA3 => ?_)
          obtain rfl : cs3 = [.int .i64 _] := hr3
          refine L.loadD1 rfl (k := 0) Tf.a3 rfl hA3 (by first | simp | assumption) rfl List.not_mem_nil rfl trivial ?_
          refine L.move rfl rfl rfl trivial ?_
          refine L.move rfl rfl rfl trivial ?_
          refine L.indexS rfl Try.underlying22 Tf.s3 rfl hls rfl (by omega) hex rfl trivial (fun b4 o4 cs4 hr4 hcl4 hA4 => ?_)
          obtain rfl : cs4 = [.int .i64 _] := hr4
          refine L.loadD1 rfl (k := 0) Tf.a3 rfl hA4 (by first | simp | assumption) rfl List.not_mem_nil rfl trivial ?_
          refine L.eql rfl rfl rfl rfl trivial ?_
          refine L.callV rfl rfl rfl (fun D22 hD22 => steady_ok _ _ _) rfl trivial ?_
          refine L.not rfl rfl rfl trivial ?_
          refine L.nil ?_
          refine C.next ?_
          refine C.cond rfl (fun hc6 => ?_) (fun hc6 => ?_)
          · exact absurd hc6 (by rw [st_vd htx (st_right hx)]; simp)
          · refine C.skip ?_
            refine C.next ?_
            refine C.seq ?_
            refine C.region [(false,0),(false,1),(false,2),(false,3),(false,4)] rfl ?_
            refine L.move rfl rfl rfl trivial ?_
            refine L.move rfl rfl rfl trivial ?_
            refine L.indexS rfl Try.underlying22 Tf.s3 rfl hls rfl (by omega) hex rfl trivial (fun b5 o5 cs5 hr5 hcl5 hA5 => ?_)
            obtain rfl : cs5 = [.int .i64 _] := hr5
            refine L.loadD1 rfl (k := 0) Tf.a3 rfl hA5 (by first | simp | assumption) rfl List.not_mem_nil rfl trivial ?_
            refine L.gtr rfl rfl rfl rfl trivial ?_
            refine L.nil ?_
            refine C.next ?_
            refine C.condD rfl (fun hc7 => ?_) (fun hc7 => ?_)
            · refine C.region [(false,0),(false,1),(false,2)] rfl ?_
              refine L.move rfl rfl rfl trivial ?_
              refine L.add rfl rfl rfl (by simp only [inK]; omega) rfl trivial ?_
              refine L.assign rfl rfl rfl trivial ?_
              refine L.nil ?_
              refine C.blockEnd ?_
              refine C.next ?_
              refine C.region [(false,0),(false,1),(false,2)] rfl ?_
              refine L.move rfl rfl rfl trivial ?_
              refine L.add rfl rfl rfl (by simp only [inK]; omega) rfl trivial ?_
              refine L.assign rfl rfl rfl trivial ?_
              refine L.nil ?_
              exact C.againR 28 (k + 1) (by omega) (by omega) ⟨(by first | rfl | (show some (Value.int _ _) = some (Value.int _ _); congr 2; omega)), (by rw [wrongr_yes hx hc7]; rfl), trivial⟩ rfl rfl (List.Sublist.refl _) (ds_same)
            · refine C.skip ?_
              refine C.blockEnd ?_
              refine C.next ?_
              refine C.region [(false,0),(false,1),(false,2)] rfl ?_
              refine L.move rfl rfl rfl trivial ?_
              refine L.add rfl rfl rfl (by simp only [inK]; omega) rfl trivial ?_
              refine L.assign rfl rfl rfl trivial ?_
              refine L.nil ?_
              exact C.againR 25 (k + 1) (by omega) (by omega) ⟨(by first | rfl | (show some (Value.int _ _) = some (Value.int _ _); congr 2; omega)), (by rw [wrongr_no hx hc7]; rfl), trivial⟩ rfl rfl (List.Sublist.refl _) (ds_same)
        · simp only [List.length_map, List.length_range] at hc5
          obtain rfl : k = x.counts.length := by omega
          rw [List.take_length]
          refine C.exit ?_
          refine C.thenExit ?_
          refine C.thenExit ?_
          refine C.blockExit ?_
          refine C.next ?_
          refine C.seq ?_
          refine C.region [(false,0),(false,1),(false,2),(false,3),(false,4),(false,5),(false,6),(false,7),(false,8),(false,9),(false,10),(false,11),(false,12)] rfl ?_
          refine L.move rfl rfl rfl trivial ?_
          refine L.move rfl rfl rfl trivial ?_
          refine L.leq rfl rfl rfl rfl trivial ?_
          refine L.move rfl rfl rfl trivial ?_
          refine' L.and [(false,4),(false,5),(false,6),(false,7),(false,8)] [(false,9),(false,10),(false,11),(false,12)] (s := 182) (p := 187) rfl rfl (fun hg10 => ?_) (fun hg10 => ?_) ?_
          rotate_left
          · refine L.move rfl rfl rfl ⟨_, rfl, rfl⟩ ?_
            refine L.fieldAddr rfl Tf.f25_2 rfl rfl ⟨_, rfl, rfl⟩ ?_
            refine L.loadB1 rfl Tf.a3 rfl (List.Mem.tail _ (List.Mem.head _)) rfl List.not_mem_nil rfl ⟨_, rfl, rfl⟩ ?_
            refine L.leq rfl rfl rfl rfl ⟨_, rfl, rfl⟩ ?_
            refine L.pickT rfl rfl rfl rfl trivial ?_
            exact L.nil fun a w hh => hh.cutK 4 rfl
          · refine L.pass rfl rfl rfl ⟨_, _, rfl, rfl, rfl⟩ ?_
            refine L.pass rfl rfl rfl ⟨_, _, rfl, rfl, rfl⟩ ?_
            refine L.pass rfl rfl rfl ⟨_, _, rfl, rfl, rfl⟩ ?_
            refine L.pass rfl rfl rfl ⟨_, _, rfl, rfl, rfl⟩ ?_
            refine L.pickF rfl rfl rfl rfl trivial ?_
            exact L.nil fun a w hh => hh.cutK 4 rfl
          refine L.move rfl rfl rfl trivial ?_
          refine' L.and [(false,10),(false,11)] [(false,12)] (s := 188) (p := 190) rfl rfl (fun hg11 => ?_) (fun hg11 => ?_) ?_
          rotate_left
          · refine L.callV rfl rfl rfl (fun D23 hD23 => awake_ok _) rfl ⟨_, rfl, rfl⟩ ?_
            refine L.pickT rfl rfl rfl rfl trivial ?_
            exact L.nil fun a w hh => hh.cutK 1 rfl
          · refine L.pass rfl rfl rfl ⟨_, _, rfl, rfl, rfl⟩ ?_
            refine L.pickF rfl rfl rfl rfl trivial ?_
            exact L.nil fun a w hh => hh.cutK 1 rfl
          refine L.assign rfl rfl rfl trivial ?_
          refine L.nil ?_
          refine C.next ?_
          refine C.ret ?_
          exact leave (vs := [_]) rfl rfl rfl ⟨rfl, trivial⟩ (fun D hD => congrArg Value.bool (tr_end hlV hwx))
end Go.Fs
