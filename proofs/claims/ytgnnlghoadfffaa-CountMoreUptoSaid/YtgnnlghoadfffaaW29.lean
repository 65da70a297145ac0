/- Walks: the laws CountNothing, CountMore. -/
import Derived.Test.YtgnnlghoadfffaaW25
import Derived.Test.YtgnnlghoadfffaaW27
namespace Go.Fs
open Go.Proofs
open C1
def moreD (r : RowD) (c : Cnt) : RowD := { r with counts := r.counts ++ [c] }
theorem or_no {a b : Bool} (h : (a || b) = false) : a = false ∧ b = false := by simpa using h
theorem err_none (t : List Int) (b : Bool) : errOf t ⟨b, 0, 0⟩ = 0 := by
  unfold errOf about sumFrom; cases b <;> simp
theorem nothing_truths (r : RowD) (b : Bool) (h0 : 0 ≤ r.off) : truths (moreD r ⟨b, 0, 0⟩) = truths r ∧ (∀ t, explains (moreD r ⟨b, 0, 0⟩) t = explains r t) ∧ ∀ t, wrongs (moreD r ⟨b, 0, 0⟩) t = wrongs r t := by
  have he : ∀ t, explains (moreD r ⟨b, 0, 0⟩) t = explains r t := fun t => by
    unfold explains moreD
    simp [err_none, h0]
  have hw : ∀ t, wrongs (moreD r ⟨b, 0, 0⟩) t = wrongs r t := fun t => by
    unfold wrongs moreD
    simp [err_none]
  refine ⟨?_, he, hw⟩
  unfold truths
  apply List.filter_congr
  intro t _
  unfold fits
  rw [he, hw]; rfl
theorem nothing_same {r : RowD} (b : Bool) (hok : RowOk r) (hokx : RowOk (moreD r ⟨b, 0, 0⟩)) {i j : Nat} (hij : i ≤ j) (hj : j < r.places.length) :
    askErr (moreD r ⟨b, 0, 0⟩) true = askErr r true ∧ askErr (moreD r ⟨b, 0, 0⟩) (partOk (moreD r ⟨b, 0, 0⟩) i j) = askErr r (partOk r i j) ∧ chV (moreD r ⟨b, 0, 0⟩) i j = chV r i j ∧ leastE (moreD r ⟨b, 0, 0⟩) = leastE r ∧ leastV (moreD r ⟨b, 0, 0⟩) = leastV r := by
  obtain ⟨h1, h2, h3⟩ := nothing_truths r b hok.off.1
  have f1 := rowOk_iff.2 hok
  have f2 := rowOk_iff.2 hokx
  have a0 : askErr (moreD r ⟨b, 0, 0⟩) true = askErr r true := by unfold askErr; rw [f1, f2, h1]
  have a1 : askErr (moreD r ⟨b, 0, 0⟩) (partOk (moreD r ⟨b, 0, 0⟩) i j) = askErr r (partOk r i j) := by rw [ask_in hokx hij hj, ask_in hok hij hj, a0]
  have hl : leastOf (moreD r ⟨b, 0, 0⟩) (allT r.places) = leastOf r (allT r.places) := by
    unfold leastOf
    have : leastStep (moreD r ⟨b, 0, 0⟩) = leastStep r := by
      funext o t
      unfold leastStep
      rw [h2, h3]
    rw [this]
  refine ⟨a0, a1, ?_, ?_, ?_⟩
  · unfold chV; rw [a1, h1]
  · unfold leastE; rw [f1, f2, show (moreD r ⟨b, 0, 0⟩).places = r.places from rfl, hl]
  · unfold leastV; rw [f1, f2, show (moreD r ⟨b, 0, 0⟩).places = r.places from rfl, hl]
theorem nothing_last {r : RowD} (b : Bool) (hz : askErr r true = 0) :
    ((List.range (moreD r ⟨b, 0, 0⟩).counts.length).map fun i => vd (truths (moreD r ⟨b, 0, 0⟩)) (rightAt (moreD r ⟨b, 0, 0⟩) i))[((((List.range (moreD r ⟨b, 0, 0⟩).counts.length).map fun i => vd (truths (moreD r ⟨b, 0, 0⟩)) (rightAt (moreD r ⟨b, 0, 0⟩) i)).length : Int) - 1).toNat]? = some 1 := by
  obtain ⟨hok, hne, _, _⟩ := ask_truths hz
  obtain ⟨h1, _, _⟩ := nothing_truths r b hok.off.1
  have hlen : (moreD r ⟨b, 0, 0⟩).counts.length = r.counts.length + 1 := by simp [moreD]
  rw [List.length_map, List.length_range, hlen, show ((r.counts.length + 1 : Nat) : Int) - 1 = r.counts.length by omega, Int.toNat_natCast, List.getElem?_map, List.getElem?_range (by omega)]
  simp only [Option.map_some, Option.some.injEq]
  rw [h1]
  refine ce_vd hne fun t _ => ?_
  rw [rightAt_fn (c := ⟨b, 0, 0⟩) (by simp [moreD])]
  simp [err_none]
theorem more_explains {r : RowD} {c : Cnt} {t : List Int} (h : explains (moreD r c) t = true) : explains r t = true := by
  rw [explains_iff] at h ⊢
  exact fun d hd => h d (by simp [moreD, hd])
theorem more_wrongs (r : RowD) (c : Cnt) (t : List Int) : wrongs r t ≤ wrongs (moreD r c) t := by
  unfold wrongs moreD
  rw [List.filter_append, List.length_append]; omega
theorem more_fits {r : RowD} {c : Cnt} {t : List Int} (h : fits (moreD r c) t = true) : fits r t = true := by
  rw [fits_iff] at h ⊢
  have := more_wrongs r c t
  have h2 : (wrongs (moreD r c) t : Int) ≤ r.wrong := h.2
  exact ⟨more_explains h.1, by omega⟩
theorem more_sub {r : RowD} {c : Cnt} {t : List Int} (h : t ∈ truths (moreD r c)) : t ∈ truths r := by
  rw [mem_truths] at h ⊢
  exact ⟨h.1, more_fits h.2⟩
theorem more_filter (r : RowD) (c : Cnt) : truths (moreD r c) = (truths r).filter (fits (moreD r c)) := by
  unfold truths
  rw [List.filter_filter]
  apply List.filter_congr
  intro t _
  cases h : fits (moreD r c) t with
  | true => simp [more_fits h]
  | false => simp
theorem more_least {r : RowD} {c : Cnt} (hok : RowOk r) (hokx : RowOk (moreD r c)) : (leastE r ≠ 0 → leastE (moreD r c) = leastE r ∧ leastE r = 10) ∧ (leastE r = 0 → (leastE (moreD r c) = 10 ∧ True) ∨ (leastE (moreD r c) = 0 ∧ leastV r ≤ leastV (moreD r c))) := by
  unfold leastE leastV
  rw [rowOk_iff.2 hok, rowOk_iff.2 hokx]
  simp only [ne_eq, not_true_eq_false, if_false]
  show (_ → (if (leastOf (moreD r c) (allT r.places)).isSome = true then (0 : Int) else 10) = _ ∧ _) ∧ (_ → ((if (leastOf (moreD r c) (allT r.places)).isSome = true then (0 : Int) else 10) = 10 ∧ True) ∨ ((if (leastOf (moreD r c) (allT r.places)).isSome = true then (0 : Int) else 10) = 0 ∧ (leastOf r (allT r.places)).getD 0 ≤ (leastOf (moreD r c) (allT r.places)).getD 0))
  cases hr : leastOf r (allT r.places) with
  | none =>
    have hx : leastOf (moreD r c) (allT r.places) = none := least_none.2 fun t ht => by
      have := least_none.1 hr t ht
      cases h : explains (moreD r c) t with
      | false => rfl
      | true => rw [more_explains h] at this; cases this
    rw [hx]; simp
  | some m =>
    cases hx : leastOf (moreD r c) (allT r.places) with
    | none => simp
    | some n =>
      obtain ⟨⟨t, ht, he, hw⟩, _⟩ := least_some hx
      have := (least_some hr).2 t ht (more_explains he)
      have := more_wrongs r c t
      simp only [Option.isSome_some, if_true, not_true_eq_false, false_imp_iff, true_and, Option.getD_some, forall_const]
      right; omega
theorem vd_sub {ts us : List (List Int)} {q : List Int → Bool} (hne : us ≠ []) (hs : ∀ t ∈ us, t ∈ ts) (h : vd ts q ≠ 3) : vd us q = vd ts q := by
  cases ts with
  | nil =>
    obtain ⟨t, ht⟩ := List.exists_mem_of_ne_nil _ hne
    cases hs t ht
  | cons t0 l =>
    simp only [vd] at h ⊢
    by_cases ha : ((t0 :: l).all fun t => q t == q t0) = true
    · rw [if_pos ha] at h ⊢
      have hq : ∀ t ∈ us, q t = q t0 := fun t ht => by simpa using List.all_eq_true.1 ha t (hs t ht)
      cases us with
      | nil => exact absurd rfl hne
      | cons u m =>
        have hu := hq u List.mem_cons_self
        simp only
        rw [if_pos, hu]
        rw [List.all_eq_true]; intro t ht; rw [hq t ht, hu]; simp
    · rw [if_neg ha] at h; exact absurd rfl h
theorem seen_filter_le (ts : List (List Int)) (f : List Int → Bool) (p : Nat) (b : Int) : (seenT (ts.filter f) p b).length ≤ (seenT ts p b).length := by
  unfold seenT
  rw [List.filter_filter]
  have : (fun a : List Int => ((a.getD p 0 == b) && f a)) = fun a => (f a && (a.getD p 0 == b)) := by funext a; exact Bool.and_comm _ _
  rw [this, ← List.filter_filter]
  exact List.length_filter_le _ _
theorem more_all {r : RowD} {c : Cnt} {i j : Nat} (hok : RowOk r) (hokx : RowOk (moreD r c)) (hij : i ≤ j) (hj : j < r.places.length) (hzx : askErr (moreD r c) true = 0) :
    askErr r true = 0 ∧ truths (moreD r c) ≠ [] ∧ (chV r i j).1 ≤ (chV (moreD r c) i j).1 ∧ (chV (moreD r c) i j).2 ≤ (chV r i j).2 ∧
    (if askErr (moreD r c) true = 0 then (lookK (truths (moreD r c)) ((truths (moreD r c)).length + 1) (moreD r c).places.length).2 else 0) ≤ (if askErr r true = 0 then (lookK (truths r) ((truths r).length + 1) r.places.length).2 else 0) ∧
    (if askErr (moreD r c) (partOk (moreD r c) (i : Int) (j : Int)) = 0 then needN (moreD r c).places.length (i : Int).toNat (j : Int).toNat (truths (moreD r c)) else 0) ≤ (if askErr r (partOk r (i : Int) (j : Int)) = 0 then needN r.places.length (i : Int).toNat (j : Int).toNat (truths r) else 0) := by
  obtain ⟨_, hnx, _, _⟩ := ask_truths hzx
  have hs : ∀ t ∈ truths (moreD r c), t ∈ truths r := fun t ht => more_sub ht
  have hn : truths r ≠ [] := by
    obtain ⟨t, ht⟩ := List.exists_mem_of_ne_nil _ hnx
    exact List.ne_nil_of_mem (hs t ht)
  have hz : askErr r true = 0 := by
    by_cases hz : askErr r true = 0
    · exact hz
    · exact absurd (ask_none hok hz).1 hn
  have ha := ask_in hok hij hj
  have hx := ask_in (r := moreD r c) hokx hij hj
  have c1 := truths_len r hok
  have c2 := truths_len _ hokx
  refine ⟨hz, hnx, ?_, ?_, ?_, ?_⟩
  · rw [ch_in ha hz, ch_in hx hzx]; exact lo_sub hnx hs
  · rw [ch_in ha hz, ch_in hx hzx]; exact hi_sub hnx hs
  · rw [if_pos hz, if_pos hzx]
    obtain ⟨h1, h2, h3⟩ := look_place (ts := truths r) (a := ((truths r).length : Int) + 1) (by omega) r.places.length hok.len0
    have h4 := look_least (ts := truths (moreD r c)) (a := ((truths (moreD r c)).length : Int) + 1) (moreD r c).places.length (lookK (truths r) ((truths r).length + 1) r.places.length).1.toNat (by show _ < r.places.length; omega)
    have h5 := seen_filter_le (truths r) (fits (moreD r c)) (lookK (truths r) ((truths r).length + 1) r.places.length).1.toNat 0
    have h6 := seen_filter_le (truths r) (fits (moreD r c)) (lookK (truths r) ((truths r).length + 1) r.places.length).1.toNat 1
    rw [← more_filter] at h5 h6
    omega
  · rw [if_pos (ha.trans hz), if_pos (hx.trans hzx)]
    simp only [Int.toNat_natCast]
    exact needN_sub (by omega) (by omega) (truths_bits r) hs
theorem more_none {r : RowD} {c : Cnt} {i j : Nat} (hask : askErr r (partOk r (i : Int) (j : Int)) = askErr r true) (haskx : askErr (moreD r c) (partOk (moreD r c) (i : Int) (j : Int)) = askErr (moreD r c) true) (hok : RowOk r) (hokx : RowOk (moreD r c)) (h : askErr (moreD r c) (partOk (moreD r c) (i : Int) (j : Int)) ≠ 0) :
    ((decide (askErr (moreD r c) (partOk (moreD r c) (i : Int) (j : Int)) = 11) && (decide (askErr r (partOk r (i : Int) (j : Int)) = 0) || decide (askErr r (partOk r (i : Int) (j : Int)) = askErr (moreD r c) (partOk (moreD r c) (i : Int) (j : Int))))) && true) = true := by
  rw [haskx] at h ⊢
  rw [hask, (ask_none hokx h).2]
  by_cases hz : askErr r true = 0
  · simp [hz]
  · simp [(ask_none hok hz).2]
open C1
theorem CountNothing_ok (rv : Value) (r : RowD) (b0 : Bool) (a b : Int) (D : Data) (hr : RowIs D rv r) (ha : 0 ≤ a ∧ a ≤ 255) (hb : 0 ≤ b ∧ b ≤ 255) (hbig : r.counts.length ≤ 1048576) : Fn Try.prog 13 #[rv, .bool b0, .int .u8 a, .int .u8 b] D (fun _ v => v = .bool true) := by
  have hr0 := hr
  obtain ⟨pv, cv, rfl, hp, hc⟩ := hr
  have hcl := hbig
  refine enter 134 Try.func13 rfl rfl rfl rfl fun h0 => ?_
  refine C.seq ?_
  refine C.region [(false,0),(false,1)] rfl ?_
  refine L.boxD rfl rfl rfl rfl trivial (fun q1 E1 hE1 hB1 => ?_)
  refine L.assign rfl rfl rfl trivial ?_
  refine L.nil ?_
  refine C.next ?_
  refine C.seq ?_
  refine C.region [(false,0),(false,1),(false,2)] rfl ?_
  refine L.loadDW rfl Tf.a25 rfl hB1 (by first | simp | assumption) Tf.s25 List.not_mem_nil rfl trivial ?_
  refine L.alloc rfl Tf.z25 rfl rfl trivial (fun q2 => ?_)
  refine L.storeW rfl rfl rfl rfl Tf.s25 (by first | rfl | (simp only [ints_length, *]; done) | (simp only [ints_length, *]; rfl) | (simp only [ints_length, *]; omega)) (by first | rfl | (simp only [ints_length, *]; done) | (simp only [ints_length, *]; rfl) | (simp only [ints_length, *]; omega)) (Has.head) (cell1_row hp.cell1 hc.cell1) trivial ?_
  refine L.nil ?_
  refine C.next ?_
  refine C.seq ?_
  refine C.region [(false,0),(false,1),(false,2),(false,3),(false,4),(false,5),(false,6),(false,7),(false,8),(false,9)] rfl ?_
  refine L.buildSlice rfl Try.underlying23 Tf.s50 Tf.z50 rfl rfl rfl rfl .nil rfl trivial (fun b901 D901 hD901 hA901 => ?_)
  skip
  refine L.fieldAddr rfl Tf.f25_1 rfl rfl trivial ?_
  refine L.loadD1 rfl (k := 1) Tf.a23 rfl hB1 (by first | simp | assumption) rfl List.not_mem_nil rfl trivial ?_
  refine L.append (A := []) (ν := []) (B := [(_, _)]) rfl Try.underlying23 rfl rfl Tf.s50 Tf.z50 rfl Tf.i50 rfl rfl rfl Acc.nil (Src.cnts hc) (by simp) (cnt_len _ _ rfl) (by simp) (cntC_cell1 _) (by omega) (Or.inr (by simp)) rfl trivial (fun v7 ν7 ha7 => ?_)
  refine L.move rfl rfl rfl trivial ?_
  refine L.build (cs := [.bool b0, .int .i64 0, .int .i64 0]) rfl Tf.p50 Tf.z50 rfl rfl rfl trivial ?_
  refine L.buildSlice rfl Try.underlying23 Tf.s50 Tf.z50 rfl rfl rfl rfl (.cons rfl rfl .nil) rfl trivial (fun b902 D902 hD902 hA902 => ?_)
  skip
  refine L.append (A := []) (ν := ν7) (B := [(_, _)]) rfl Try.underlying23 rfl rfl Tf.s50 Tf.z50 rfl Tf.i50 rfl rfl rfl ha7 (Src.lit (by assumption)) (by simp) rfl (by simpa using cnt_len r.counts _ rfl) (by simp [cell1]) (by omega) (Or.inl rfl) rfl trivial (fun v8 ν8 ha8 => ?_)
  have hn8 : Acc 50 3 v8 (r.counts.length + 1) (cntC (r.counts ++ [⟨b0, 0, 0⟩])) ν8 := by rw [cntC_snoc]; simpa using ha8
  refine L.fieldAddr rfl Tf.f25_1 rfl rfl trivial ?_
  refine L.store rfl rfl rfl hn8.cells1 Tf.s23 (.app (Has.head)) (by simp) rfl hn8.cell1 trivial ?_
  refine L.nil ?_
  refine C.next ?_
  refine C.seq ?_
  refine C.seq ?_
  refine C.freeze (A := []) (B := [(_, _)]) hn8 rfl (fun D8 hD8 hF => ?_)
  have hS8 := hF.cnts (by simp) (by omega)
  have hxr : RowIs D8 (.agg #[pv, v8, .int .i64 r.wrong, .int .i64 r.off]) (moreD r ⟨b0, 0, 0⟩) := ⟨_, _, rfl, hp.up RI.up (hD8 _ (by simp)), hS8⟩
  refine C.region [(false,0),(false,1),(false,2),(false,3),(false,4),(false,5),(false,6),(false,7)] rfl ?_
  refine L.loadDW rfl Tf.a25 rfl hB1 (by first | simp | assumption) Tf.s25 List.not_mem_nil rfl trivial ?_
  refine L.callV rfl rfl rfl (fun D1 hD1 => ready_ok _ r _ (hr0.up (hD1 _ (by simp)))) rfl trivial ?_
  refine L.not rfl rfl rfl trivial ?_
  refine L.move rfl rfl rfl trivial ?_
  refine' L.or [(false,4),(false,5),(false,6),(false,7)] [] (s := 35) (p := 39) rfl rfl (fun hg1 => ?_) (fun hg1 => ?_) ?_
  rotate_left
  · refine L.loadBW rfl Tf.a25 rfl (List.Mem.head _) Tf.s25 List.not_mem_nil rfl ⟨_, rfl, rfl⟩ ?_
    refine L.callV rfl rfl rfl (fun D2 hD2 => ready_ok _ (moreD r ⟨b0, 0, 0⟩) _ (hxr.up (hD2 _ (by simp)))) rfl ⟨_, rfl, rfl⟩ ?_
    refine L.not rfl rfl rfl ⟨_, rfl, rfl⟩ ?_
    refine L.pickF rfl rfl rfl rfl trivial ?_
    exact L.nil fun a w hh => hh.cutK 3 rfl
  · refine L.pass rfl rfl rfl ⟨_, _, rfl, rfl, rfl⟩ ?_
    refine L.pass rfl rfl rfl ⟨_, _, rfl, rfl, rfl⟩ ?_
    refine L.pass rfl rfl rfl ⟨_, _, rfl, rfl, rfl⟩ ?_
    refine L.pickT rfl rfl rfl rfl trivial ?_
    exact L.nil fun a w hh => hh.cutK 3 rfl
  refine L.nil ?_
  refine C.next ?_
  refine C.cond rfl (fun hc1 => ?_) (fun hc1 => ?_)
  · refine C.seq ?_
    refine C.region [(false,0),(false,1)] rfl ?_
    refine L.callV rfl rfl rfl (fun D3 hD3 => awake_ok _) rfl trivial ?_
    refine L.assign rfl rfl rfl trivial ?_
    refine L.nil ?_
    refine C.next ?_
    refine C.ret ?_
    refine C.thenRet ?_
    exact leave (vs := [_]) rfl rfl rfl ⟨rfl, trivial⟩ (fun D hD => rfl)
  · obtain ⟨hca, hcb⟩ := or_no hc1
    obtain ⟨hlp, hlc, hok⟩ := ready_len hca
    have hn0 := hok.len0
    have hn9 := hok.len9
    obtain ⟨i, j, hij, hjn, hpt⟩ := parted_ex r a b hok.len0 ha hb
    have hcap := truths_len r hok
    have hask := ask_in hok hij hjn
    obtain ⟨hxp, hxc, hokx⟩ := ready_len hcb
    obtain ⟨hA0, hA, hC, hE, hV⟩ := nothing_same b0 hok hokx hij hjn
    refine C.skip ?_
    refine C.next ?_
    refine C.seq ?_
    refine C.region [(false,0),(false,1),(false,2),(false,3),(false,4),(false,5),(false,6),(false,7),(false,8)] rfl ?_
    refine L.loadDW rfl Tf.a25 rfl hB1 (by first | simp | assumption) Tf.s25 List.not_mem_nil rfl trivial ?_
    refine L.move rfl rfl rfl trivial ?_
    refine L.move rfl rfl rfl trivial ?_
    refine L.callV rfl rfl rfl (fun D4 hD4 => hpt _ _ (hr0.up (hD4 _ (by simp)))) rfl trivial ?_
    refine L.move rfl rfl rfl trivial ?_
    refine L.extract rfl rfl rfl rfl trivial ?_
    refine L.extract rfl rfl rfl rfl trivial ?_
    refine L.assign rfl rfl rfl trivial ?_
    refine L.assign rfl rfl rfl trivial ?_
    refine L.nil ?_
    refine C.next ?_
    refine C.seq ?_
    refine C.region [(false,0),(false,1),(false,2),(false,3),(false,4),(false,5),(false,6),(false,7),(false,8),(false,9),(false,10)] rfl ?_
    refine L.loadDW rfl Tf.a25 rfl hB1 (by first | simp | assumption) Tf.s25 List.not_mem_nil rfl trivial ?_
    refine L.call rfl rfl rfl (fun D5 hD5 => Row_ok _ r _ (hr0.up (hD5 _ (by simp))) (by omega) (by omega)) rfl trivial (fun v5 D5 hD5 hp5 => ?_)
    have hw := hp5
    refine L.move rfl rfl rfl trivial ?_
    refine L.move rfl rfl rfl trivial ?_
    refine L.callV rfl rfl rfl (fun D6 hD6 => Chairs2_ok _ r _ _ _ (hw.up (hD6 _ (by simp)))) rfl trivial ?_
    refine L.move rfl rfl rfl trivial ?_
    refine L.extract rfl rfl rfl rfl trivial ?_
    refine L.extract rfl rfl rfl rfl trivial ?_
    refine L.alloc rfl Tf.z29 rfl rfl trivial (fun q3 => ?_)
    refine L.storeW rfl rfl rfl rfl Tf.s29 (by first | rfl | (simp only [ints_length, *]; done) | (simp only [ints_length, *]; rfl) | (simp only [ints_length, *]; omega)) (by first | rfl | (simp only [ints_length, *]; done) | (simp only [ints_length, *]; rfl) | (simp only [ints_length, *]; omega)) (Has.head) (by first | exact ints_cell1 _ | simp [cell1]) trivial ?_
    refine L.assign rfl rfl rfl trivial ?_
    refine L.nil ?_
    refine C.next ?_
    refine C.seq ?_
    refine C.region [(false,0),(false,1),(false,2),(false,3),(false,4),(false,5),(false,6),(false,7),(false,8),(false,9),(false,10)] rfl ?_
    refine L.loadBW rfl Tf.a25 rfl (List.Mem.tail _ (List.Mem.head _)) Tf.s25 List.not_mem_nil rfl trivial ?_
    refine L.call rfl rfl rfl (fun D7 hD7 => Row_ok _ (moreD r ⟨b0, 0, 0⟩) _ (hxr.up (hD7 _ (by simp))) (by omega) (by omega)) rfl trivial (fun v7 D7 hD7 hp7 => ?_)
    have hw := hp7
    refine L.move rfl rfl rfl trivial ?_
    refine L.move rfl rfl rfl trivial ?_
    refine L.callV rfl rfl rfl (fun D8 hD8 => Chairs2_ok _ (moreD r ⟨b0, 0, 0⟩) _ _ _ (hw.up (hD8 _ (by simp)))) rfl trivial ?_
    refine L.move rfl rfl rfl trivial ?_
    refine L.extract rfl rfl rfl rfl trivial ?_
    refine L.extract rfl rfl rfl rfl trivial ?_
    refine L.alloc rfl Tf.z29 rfl rfl trivial (fun q4 => ?_)
    refine L.storeW rfl rfl rfl rfl Tf.s29 (by first | rfl | (simp only [ints_length, *]; done) | (simp only [ints_length, *]; rfl) | (simp only [ints_length, *]; omega)) (by first | rfl | (simp only [ints_length, *]; done) | (simp only [ints_length, *]; rfl) | (simp only [ints_length, *]; omega)) (Has.head) (by first | exact ints_cell1 _ | simp [cell1]) trivial ?_
    refine L.assign rfl rfl rfl trivial ?_
    refine L.nil ?_
    refine C.next ?_
    refine C.seq ?_
    refine C.region [(false,0),(false,1),(false,2),(false,3),(false,4),(false,5),(false,6),(false,7)] rfl ?_
    refine L.loadBW rfl Tf.a25 rfl (List.Mem.tail _ (List.Mem.tail _ (List.Mem.head _))) Tf.s25 List.not_mem_nil rfl trivial ?_
    refine L.call rfl rfl rfl (fun D9 hD9 => Row_ok _ (moreD r ⟨b0, 0, 0⟩) _ (hxr.up (hD9 _ (by simp))) (by omega) (by omega)) rfl trivial (fun v9 D9 hD9 hp9 => ?_)
    have hw := hp9
    refine L.call rfl rfl rfl (fun D10 hD10 => Right_ok _ (moreD r ⟨b0, 0, 0⟩) _ (hw.up (hD10 _ (by simp)))) rfl trivial (fun v10 D10 hD10 hp10 => ?_)
    obtain ⟨qv, rfl, hqs⟩ := hp10
    refine L.move rfl rfl rfl trivial ?_
    refine L.extract rfl rfl rfl rfl trivial ?_
    refine L.extract rfl rfl rfl rfl trivial ?_
    refine L.assign rfl rfl rfl trivial ?_
    refine L.assign rfl rfl rfl trivial ?_
    refine L.nil ?_
    refine C.next ?_
    refine C.seq ?_
    refine C.region [(false,0),(false,1),(false,2),(false,3),(false,4),(false,5),(false,6),(false,7)] rfl ?_
    refine L.loadDW rfl Tf.a25 rfl hB1 (by first | simp | assumption) Tf.s25 List.not_mem_nil rfl trivial ?_
    refine L.call rfl rfl rfl (fun D11 hD11 => Row_ok _ r _ (hr0.up (hD11 _ (by simp))) (by omega) (by omega)) rfl trivial (fun v11 D11 hD11 hp11 => ?_)
    have hw := hp11
    refine L.callV rfl rfl rfl (fun D12 hD12 => Least_ok _ r _ (hw.up (hD12 _ (by simp)))) rfl trivial ?_
    refine L.move rfl rfl rfl trivial ?_
    refine L.extract rfl rfl rfl rfl trivial ?_
    refine L.extract rfl rfl rfl rfl trivial ?_
    refine L.assign rfl rfl rfl trivial ?_
    refine L.assign rfl rfl rfl trivial ?_
    refine L.nil ?_
    refine C.next ?_
    refine C.seq ?_
    refine C.region [(false,0),(false,1),(false,2),(false,3),(false,4),(false,5),(false,6),(false,7)] rfl ?_
    refine L.loadBW rfl Tf.a25 rfl (List.Mem.tail _ (List.Mem.tail _ (List.Mem.head _))) Tf.s25 List.not_mem_nil rfl trivial ?_
    refine L.call rfl rfl rfl (fun D13 hD13 => Row_ok _ (moreD r ⟨b0, 0, 0⟩) _ (hxr.up (hD13 _ (by simp))) (by omega) (by omega)) rfl trivial (fun v13 D13 hD13 hp13 => ?_)
    have hw := hp13
    refine L.callV rfl rfl rfl (fun D14 hD14 => Least_ok _ (moreD r ⟨b0, 0, 0⟩) _ (hw.up (hD14 _ (by simp)))) rfl trivial ?_
    refine L.move rfl rfl rfl trivial ?_
    refine L.extract rfl rfl rfl rfl trivial ?_
    refine L.extract rfl rfl rfl rfl trivial ?_
    refine L.assign rfl rfl rfl trivial ?_
    refine L.assign rfl rfl rfl trivial ?_
    refine L.nil ?_
    refine C.next ?_
    refine C.seq ?_
    refine C.seq ?_
    refine C.region [(false,0),(false,1),(false,2),(false,3),(false,4),(false,5),(false,6),(false,7),(false,8),(false,9),(false,10),(false,11),(false,12),(false,13),(false,14),(false,15),(false,16),(false,17)] rfl ?_
    refine L.move rfl rfl rfl trivial ?_
    refine L.move rfl rfl rfl trivial ?_
    refine L.neq rfl rfl rfl rfl trivial ?_
    refine L.move rfl rfl rfl trivial ?_
    refine' L.or [(false,4),(false,5),(false,6),(false,7)] [(false,8),(false,9),(false,10),(false,11),(false,12),(false,13),(false,14),(false,15),(false,16),(false,17)] (s := 85) (p := 89) rfl rfl (fun hg2 => ?_) (fun hg2 => ?_) ?_
    rotate_left
    · refine L.loadBW rfl Tf.a29 rfl (List.Mem.tail _ (List.Mem.head _)) Tf.s29 List.not_mem_nil rfl ⟨_, rfl, rfl⟩ ?_
      refine L.loadBW rfl Tf.a29 rfl (List.Mem.head _) Tf.s29 List.not_mem_nil rfl ⟨_, rfl, rfl⟩ ?_
      refine L.neqK  rfl (by kernel_rfl) k2_29 rfl rfl rfl ⟨_, rfl, rfl⟩ ?_
      refine L.pickF rfl rfl rfl rfl trivial ?_
      exact L.nil fun a w hh => hh.cutK 3 rfl
    · refine L.pass rfl rfl rfl ⟨_, _, rfl, rfl, rfl⟩ ?_
      refine L.pass rfl rfl rfl ⟨_, _, rfl, rfl, rfl⟩ ?_
      refine L.pass rfl rfl rfl ⟨_, _, rfl, rfl, rfl⟩ ?_
      refine L.pickT rfl rfl rfl rfl trivial ?_
      exact L.nil fun a w hh => hh.cutK 3 rfl
    refine L.move rfl rfl rfl trivial ?_
    refine' L.or [(false,9),(false,10),(false,11),(false,12)] [(false,13),(false,14),(false,15),(false,16),(false,17)] (s := 90) (p := 94) rfl rfl (fun hg3 => ?_) (fun hg3 => ?_) ?_
    rotate_left
    · refine L.move rfl rfl rfl ⟨_, rfl, rfl⟩ ?_
      refine L.move rfl rfl rfl ⟨_, rfl, rfl⟩ ?_
      refine L.neq rfl rfl rfl rfl ⟨_, rfl, rfl⟩ ?_
      refine L.pickF rfl rfl rfl rfl trivial ?_
      exact L.nil fun a w hh => hh.cutK 3 rfl
    · refine L.pass rfl rfl rfl ⟨_, _, rfl, rfl, rfl⟩ ?_
      refine L.pass rfl rfl rfl ⟨_, _, rfl, rfl, rfl⟩ ?_
      refine L.pass rfl rfl rfl ⟨_, _, rfl, rfl, rfl⟩ ?_
      refine L.pickT rfl rfl rfl rfl trivial ?_
      exact L.nil fun a w hh => hh.cutK 3 rfl
    refine L.move rfl rfl rfl trivial ?_
    refine' L.or [(false,14),(false,15),(false,16),(false,17)] [] (s := 95) (p := 99) rfl rfl (fun hg4 => ?_) (fun hg4 => ?_) ?_
    rotate_left
    · refine L.move rfl rfl rfl ⟨_, rfl, rfl⟩ ?_
      refine L.move rfl rfl rfl ⟨_, rfl, rfl⟩ ?_
      refine L.neq rfl rfl rfl rfl ⟨_, rfl, rfl⟩ ?_
      refine L.pickF rfl rfl rfl rfl trivial ?_
      exact L.nil fun a w hh => hh.cutK 3 rfl
    · refine L.pass rfl rfl rfl ⟨_, _, rfl, rfl, rfl⟩ ?_
      refine L.pass rfl rfl rfl ⟨_, _, rfl, rfl, rfl⟩ ?_
      refine L.pass rfl rfl rfl ⟨_, _, rfl, rfl, rfl⟩ ?_
      refine L.pickT rfl rfl rfl rfl trivial ?_
      exact L.nil fun a w hh => hh.cutK 3 rfl
    refine L.nil ?_
    refine C.next ?_
    refine C.cond rfl (fun hc2 => ?_) (fun hc2 => ?_)
    · exact absurd hc2 (by rw [hA, hC, hE, hV]; simp)
    · refine C.skip ?_
      refine C.next ?_
      refine C.seq ?_
      refine C.seq ?_
      refine C.region [(false,0),(false,1)] rfl ?_
      refine L.move rfl rfl rfl trivial ?_
      refine L.neq rfl rfl rfl rfl trivial ?_
      refine L.nil ?_
      refine C.next ?_
      refine C.condD rfl (fun hc3 => ?_) (fun hc3 => ?_)
      · obtain ⟨ht0, ha11⟩ := ask_none hok (by rw [hask] at hc3; exact hc3)
        refine C.seq ?_
        refine C.region [(false,0),(false,1),(false,2),(false,3),(false,4),(false,5),(false,6),(false,7),(false,8),(false,9),(false,10)] rfl ?_
        refine L.move rfl rfl rfl trivial ?_
        refine L.eql rfl rfl rfl rfl trivial ?_
        refine L.move rfl rfl rfl trivial ?_
        refine' L.and [(false,3),(false,4),(false,5),(false,6)] [(false,7),(false,8),(false,9),(false,10)] (s := 104) (p := 108) rfl rfl (fun hg5 => ?_) (fun hg5 => ?_) ?_
        rotate_left
        · refine L.move rfl rfl rfl ⟨_, rfl, rfl⟩ ?_
          refine L.move rfl rfl rfl ⟨_, rfl, rfl⟩ ?_
          refine L.eql rfl rfl rfl rfl ⟨_, rfl, rfl⟩ ?_
          refine L.pickT rfl rfl rfl rfl trivial ?_
          exact L.nil fun a w hh => hh.cutK 3 rfl
        · refine L.pass rfl rfl rfl ⟨_, _, rfl, rfl, rfl⟩ ?_
          refine L.pass rfl rfl rfl ⟨_, _, rfl, rfl, rfl⟩ ?_
          refine L.pass rfl rfl rfl ⟨_, _, rfl, rfl, rfl⟩ ?_
          refine L.pickF rfl rfl rfl rfl trivial ?_
          exact L.nil fun a w hh => hh.cutK 3 rfl
        refine L.move rfl rfl rfl trivial ?_
        refine' L.and [(false,8),(false,9)] [(false,10)] (s := 109) (p := 111) rfl rfl (fun hg6 => ?_) (fun hg6 => ?_) ?_
        rotate_left
        · refine L.callV rfl rfl rfl (fun D15 hD15 => awake_ok _) rfl ⟨_, rfl, rfl⟩ ?_
          refine L.pickT rfl rfl rfl rfl trivial ?_
          exact L.nil fun a w hh => hh.cutK 1 rfl
        · refine L.pass rfl rfl rfl ⟨_, _, rfl, rfl, rfl⟩ ?_
          refine L.pickF rfl rfl rfl rfl trivial ?_
          exact L.nil fun a w hh => hh.cutK 1 rfl
        refine L.assign rfl rfl rfl trivial ?_
        refine L.nil ?_
        refine C.next ?_
        refine C.ret ?_
        refine C.thenRet ?_
        exact leave (vs := [_]) rfl rfl rfl ⟨rfl, trivial⟩ (fun D hD => congrArg Value.bool (by rw [hask, hA0, ha11]; rfl))
      · have hz : askErr r true = 0 := by rw [hask] at hc3; omega
        have hzx := hA0.trans hz
        rw [if_pos hzx] at hqs
        have hqx := nothing_last b0 hz
        refine C.skip ?_
        refine C.next ?_
        refine C.seq ?_
        refine C.region [(false,0),(false,1),(false,2),(false,3),(false,4),(false,5),(false,6),(false,7),(false,8),(false,9),(false,10),(false,11),(false,12),(false,13),(false,14),(false,15),(false,16),(false,17),(false,18),(false,19),(false,20),(false,21),(false,22)] rfl ?_
        refine L.move rfl rfl rfl trivial ?_
        refine L.eql rfl rfl rfl rfl trivial ?_
        refine L.move rfl rfl rfl trivial ?_
        refine' L.and [(false,3),(false,4),(false,5),(false,6),(false,7),(false,8),(false,9)] [(false,10),(false,11),(false,12),(false,13),(false,14),(false,15),(false,16),(false,17),(false,18),(false,19),(false,20),(false,21),(false,22)] (s := 114) (p := 121) rfl rfl (fun hg7 => ?_) (fun hg7 => ?_) ?_
        rotate_left
        · refine L.move rfl rfl rfl ⟨_, rfl, rfl⟩ ?_
          refine L.len rfl Try.underlying22 rfl hqs rfl rfl ⟨_, rfl, rfl⟩ ?_
          refine L.fieldAddr rfl Tf.f25_1 rfl rfl ⟨_, rfl, rfl⟩ ?_
          refine L.loadB1 rfl Tf.a23 rfl (List.Mem.tail _ (List.Mem.tail _ (List.Mem.head _))) rfl List.not_mem_nil rfl ⟨_, rfl, rfl⟩ ?_
          refine L.len rfl Try.underlying23 rfl hS8 rfl rfl ⟨_, rfl, rfl⟩ ?_
          refine L.eql rfl rfl rfl rfl ⟨_, rfl, rfl⟩ ?_
          refine L.pickT rfl rfl rfl rfl trivial ?_
          exact L.nil fun a w hh => hh.cutK 6 rfl
        · refine L.pass rfl rfl rfl ⟨_, _, rfl, rfl, rfl⟩ ?_
          refine L.pass rfl rfl rfl ⟨_, _, rfl, rfl, rfl⟩ ?_
          refine L.pass rfl rfl rfl ⟨_, _, rfl, rfl, rfl⟩ ?_
          refine L.pass rfl rfl rfl ⟨_, _, rfl, rfl, rfl⟩ ?_
          refine L.pass rfl rfl rfl ⟨_, _, rfl, rfl, rfl⟩ ?_
          refine L.pass rfl rfl rfl ⟨_, _, rfl, rfl, rfl⟩ ?_
          refine L.pickF rfl rfl rfl rfl trivial ?_
          exact L.nil fun a w hh => hh.cutK 6 rfl
        refine L.move rfl rfl rfl trivial ?_
        refine' L.and [(false,11),(false,12),(false,13),(false,14),(false,15),(false,16),(false,17),(false,18)] [(false,19),(false,20),(false,21),(false,22)] (s := 122) (p := 130) rfl rfl (fun hg8 => ?_) (fun hg8 => ?_) ?_
        rotate_left
        · refine L.move rfl rfl rfl ⟨_, rfl, rfl⟩ ?_
          refine L.move rfl rfl rfl ⟨_, rfl, rfl⟩ ?_
          refine L.len rfl Try.underlying22 rfl hqs rfl rfl ⟨_, rfl, rfl⟩ ?_
          refine L.sub rfl rfl rfl (by simp [moreD, inK]; omega) rfl ⟨_, rfl, rfl⟩ ?_
          refine L.indexS rfl Try.underlying22 Tf.s3 rfl hqs rfl (by simp [moreD]) hqx rfl ⟨_, rfl, rfl⟩ (fun b1 o1 cs1 hr1 hcl1 hA1 => ?_)
          obtain rfl : cs1 = [.int .i64 _] := hr1
          refine L.loadD1 rfl (k := 0) Tf.a3 rfl hA1 (by first | simp | assumption) rfl List.not_mem_nil rfl ⟨_, rfl, rfl⟩ ?_
          refine L.eql rfl rfl rfl rfl ⟨_, rfl, rfl⟩ ?_
          refine L.pickT rfl rfl rfl rfl trivial ?_
          exact L.nil fun a w hh => hh.cutK 7 rfl
        · refine L.pass rfl rfl rfl ⟨_, _, rfl, rfl, rfl⟩ ?_
          refine L.pass rfl rfl rfl ⟨_, _, rfl, rfl, rfl⟩ ?_
          refine L.pass rfl rfl rfl ⟨_, _, rfl, rfl, rfl⟩ ?_
          refine L.pass rfl rfl rfl ⟨_, _, rfl, rfl, rfl⟩ ?_
          refine L.pass rfl rfl rfl ⟨_, _, rfl, rfl, rfl⟩ ?_
          refine L.pass rfl rfl rfl ⟨_, _, rfl, rfl, rfl⟩ ?_
          refine L.pass rfl rfl rfl ⟨_, _, rfl, rfl, rfl⟩ ?_
          refine L.pickF rfl rfl rfl rfl trivial ?_
          exact L.nil fun a w hh => hh.cutK 7 rfl
        refine L.move rfl rfl rfl trivial ?_
        refine' L.and [(false,20),(false,21)] [(false,22)] (s := 131) (p := 133) rfl rfl (fun hg9 => ?_) (fun hg9 => ?_) ?_
        rotate_left
        · refine L.callV rfl rfl rfl (fun D16 hD16 => awake_ok _) rfl ⟨_, rfl, rfl⟩ ?_
          refine L.pickT rfl rfl rfl rfl trivial ?_
          exact L.nil fun a w hh => hh.cutK 1 rfl
        · refine L.pass rfl rfl rfl ⟨_, _, rfl, rfl, rfl⟩ ?_
          refine L.pickF rfl rfl rfl rfl trivial ?_
          exact L.nil fun a w hh => hh.cutK 1 rfl
        refine L.assign rfl rfl rfl trivial ?_
        refine L.nil ?_
        refine C.next ?_
        refine C.ret ?_
        exact leave (vs := [_]) rfl rfl rfl ⟨rfl, trivial⟩ (fun D hD => congrArg Value.bool (by rw [hzx]; simp [moreD]))
set_option maxHeartbeats 1000000 in
theorem CountMore_ok (rv : Value) (r : RowD) (c : Cnt) (a b : Int) (D : Data) (hr : RowIs D rv r) (ha : 0 ≤ a ∧ a ≤ 255) (hb : 0 ≤ b ∧ b ≤ 255) (hbig : r.counts.length ≤ 1048576) : Fn Try.prog 7 #[rv, cV c, .int .u8 a, .int .u8 b] D (fun _ v => v = .bool true) := by
  have hr0 := hr
  obtain ⟨pv, cv, rfl, hp, hc⟩ := hr
  have hcl := hbig
  refine enter 253 Try.func7 rfl rfl rfl rfl fun h0 => ?_
  refine C.seq ?_
  refine C.region [(false,0),(false,1),(false,2)] rfl ?_
  refine L.boxD rfl rfl rfl rfl trivial (fun q1 E1 hE1 hB1 => ?_)
  refine L.boxD rfl rfl rfl rfl trivial (fun q2 E2 hE2 hB2 => ?_)
  refine L.assign rfl rfl rfl trivial ?_
  refine L.nil ?_
  refine C.next ?_
  refine C.seq ?_
  refine C.region [(false,0),(false,1),(false,2)] rfl ?_
  refine L.loadDW rfl Tf.a25 rfl hB1 (by first | simp | assumption) Tf.s25 List.not_mem_nil rfl trivial ?_
  refine L.alloc rfl Tf.z25 rfl rfl trivial (fun q3 => ?_)
  refine L.storeW rfl rfl rfl rfl Tf.s25 (by first | rfl | (simp only [ints_length, *]; done) | (simp only [ints_length, *]; rfl) | (simp only [ints_length, *]; omega)) (by first | rfl | (simp only [ints_length, *]; done) | (simp only [ints_length, *]; rfl) | (simp only [ints_length, *]; omega)) (Has.head) (cell1_row hp.cell1 hc.cell1) trivial ?_
  refine L.nil ?_
  refine C.next ?_
  refine C.seq ?_
  refine C.drawP [] 3 [true,false,false,true,true,true,false,false,false] (.fork [1,2,4] 0 (.fork [] 3 (.fin [5,6,7,8]) 5 (.fin [3,6,7,8])) 5 (.fin [0,3,6,7,8])) Tf.follows (fun _ _ _ h => np_body (P := Try.prog) (fn := Try.f7) _ _ _ h) (by kernel_rfl) ?_
  refine L.planFork [(false,1),(false,2),(true,4)] rfl ?_
  refine L.fieldAddr rfl Tf.f25_1 rfl rfl trivial ?_
  refine L.loadD1 rfl (k := 1) Tf.a23 rfl hB1 (by first | simp | assumption) rfl List.not_mem_nil rfl trivial ?_
  refine L.loadDW rfl Tf.a50 rfl hB2 (by first | simp | assumption) Tf.s50 List.not_mem_nil rfl trivial ?_
  refine L.nil (L.forkP true true rfl rfl ?_ ?_)
  · refine L.buildSlice rfl Try.underlying23 Tf.s50 Tf.z50 rfl rfl rfl rfl .nil rfl trivial (fun b901 D901 hD901 hA901 => ?_)
    skip
    refine L.nil ?_
    refine L.planFork [] rfl ?_
    refine L.nil (L.forkP true true rfl rfl ?_ ?_)
    · refine L.append (A := []) (ν := []) (B := [(_, _)]) rfl Try.underlying23 rfl rfl Tf.s50 Tf.z50 rfl Tf.i50 rfl rfl rfl Acc.nil (Src.cnts hc) (by simp) (cnt_len _ _ rfl) (by simp) (cntC_cell1 _) (by omega) (Or.inr (by simp)) rfl trivial (fun v7 ν7 ha7 => ?_)
      refine L.nil ?_
      refine L.planFin [(true,5),(false,6),(false,7),(false,8)] rfl ?_
      refine L.buildSlice rfl Try.underlying23 Tf.s50 Tf.z50 rfl rfl rfl rfl (.cons rfl rfl .nil) rfl trivial (fun b902 D902 hD902 hA902 => ?_)
      skip
      refine L.append (A := []) (ν := ν7) (B := [(_, _)]) rfl Try.underlying23 rfl rfl Tf.s50 Tf.z50 rfl Tf.i50 rfl rfl rfl ha7 (Src.lit (by assumption)) (by simp) rfl (by simpa using cnt_len r.counts _ rfl) (by simp [cell1]) (by omega) (Or.inl rfl) rfl trivial (fun v8 ν8 ha8 => ?_)
      have hn8 : Acc 50 3 v8 (r.counts.length + 1) (cntC (r.counts ++ [c])) ν8 := by rw [cntC_snoc]; simpa using ha8
      refine L.fieldAddr rfl Tf.f25_1 rfl rfl trivial ?_
      refine L.store rfl rfl rfl hn8.cells1 Tf.s23 (.app (Has.head)) (by simp) rfl hn8.cell1 trivial ?_
      refine L.nil ?_
      refine C.next ?_
      refine C.seq ?_
      refine C.seq ?_
      refine C.freeze (A := []) (B := [(_, _)]) hn8 rfl (fun D8 hD8 hF => ?_)
      have hS8 := hF.cnts (by simp) (by omega)
      have hxr : RowIs D8 (.agg #[pv, v8, .int .i64 r.wrong, .int .i64 r.off]) (moreD r c) := ⟨_, _, rfl, hp.up RI.up (hD8 _ (by simp)), hS8⟩
      refine C.region [(false,0),(false,1),(false,2),(false,3),(false,4),(false,5),(false,6),(false,7)] rfl ?_
      refine L.loadDW rfl Tf.a25 rfl hB1 (by first | simp | assumption) Tf.s25 List.not_mem_nil rfl trivial ?_
      refine L.callV rfl rfl rfl (fun D1 hD1 => ready_ok _ r _ (hr0.up (hD1 _ (by simp)))) rfl trivial ?_
      refine L.not rfl rfl rfl trivial ?_
      refine L.move rfl rfl rfl trivial ?_
      refine' L.or [(false,4),(false,5),(false,6),(false,7)] [] (s := 47) (p := 51) rfl rfl (fun hg1 => ?_) (fun hg1 => ?_) ?_
      rotate_left
      · refine L.loadBW rfl Tf.a25 rfl (List.Mem.head _) Tf.s25 List.not_mem_nil rfl ⟨_, rfl, rfl⟩ ?_
        refine L.callV rfl rfl rfl (fun D2 hD2 => ready_ok _ (moreD r c) _ (hxr.up (hD2 _ (by simp)))) rfl ⟨_, rfl, rfl⟩ ?_
        refine L.not rfl rfl rfl ⟨_, rfl, rfl⟩ ?_
        refine L.pickF rfl rfl rfl rfl trivial ?_
        exact L.nil fun a w hh => hh.cutK 3 rfl
      · refine L.pass rfl rfl rfl ⟨_, _, rfl, rfl, rfl⟩ ?_
        refine L.pass rfl rfl rfl ⟨_, _, rfl, rfl, rfl⟩ ?_
        refine L.pass rfl rfl rfl ⟨_, _, rfl, rfl, rfl⟩ ?_
        refine L.pickT rfl rfl rfl rfl trivial ?_
        exact L.nil fun a w hh => hh.cutK 3 rfl
      refine L.nil ?_
      refine C.next ?_
      refine C.cond rfl (fun hc1 => ?_) (fun hc1 => ?_)
      · refine C.seq ?_
        refine C.region [(false,0),(false,1)] rfl ?_
        refine L.callV rfl rfl rfl (fun D3 hD3 => awake_ok _) rfl trivial ?_
        refine L.assign rfl rfl rfl trivial ?_
        refine L.nil ?_
        refine C.next ?_
        refine C.ret ?_
        refine C.thenRet ?_
        exact leave (vs := [_]) rfl rfl rfl ⟨rfl, trivial⟩ (fun D hD => rfl)
      · obtain ⟨hca, hcb⟩ := or_no hc1
        obtain ⟨hlp, hlc, hok⟩ := ready_len hca
        have hn0 := hok.len0
        have hn9 := hok.len9
        obtain ⟨i, j, hij, hjn, hpt⟩ := parted_ex r a b hok.len0 ha hb
        have hcap := truths_len r hok
        have hask := ask_in hok hij hjn
        obtain ⟨hxp, hxc, hokx⟩ := ready_len hcb
        have haskx := ask_in (r := moreD r c) hokx hij hjn
        have hml := more_least (c := c) hok hokx
        refine C.skip ?_
        refine C.next ?_
        refine C.seq ?_
        refine C.region [(false,0),(false,1),(false,2),(false,3),(false,4),(false,5),(false,6),(false,7)] rfl ?_
        refine L.loadDW rfl Tf.a25 rfl hB1 (by first | simp | assumption) Tf.s25 List.not_mem_nil rfl trivial ?_
        refine L.call rfl rfl rfl (fun D4 hD4 => Row_ok _ r _ (hr0.up (hD4 _ (by simp))) (by omega) (by omega)) rfl trivial (fun v4 D4 hD4 hp4 => ?_)
        have hw := hp4
        refine L.callV rfl rfl rfl (fun D5 hD5 => Least_ok _ r _ (hw.up (hD5 _ (by simp)))) rfl trivial ?_
        refine L.move rfl rfl rfl trivial ?_
        refine L.extract rfl rfl rfl rfl trivial ?_
        refine L.extract rfl rfl rfl rfl trivial ?_
        refine L.assign rfl rfl rfl trivial ?_
        refine L.assign rfl rfl rfl trivial ?_
        refine L.nil ?_
        refine C.next ?_
        refine C.seq ?_
        refine C.region [(false,0),(false,1),(false,2),(false,3),(false,4),(false,5),(false,6),(false,7)] rfl ?_
        refine L.loadBW rfl Tf.a25 rfl (List.Mem.head _) Tf.s25 List.not_mem_nil rfl trivial ?_
        refine L.call rfl rfl rfl (fun D6 hD6 => Row_ok _ (moreD r c) _ (hxr.up (hD6 _ (by simp))) (by omega) (by omega)) rfl trivial (fun v6 D6 hD6 hp6 => ?_)
        have hw := hp6
        refine L.callV rfl rfl rfl (fun D7 hD7 => Least_ok _ (moreD r c) _ (hw.up (hD7 _ (by simp)))) rfl trivial ?_
        refine L.move rfl rfl rfl trivial ?_
        refine L.extract rfl rfl rfl rfl trivial ?_
        refine L.extract rfl rfl rfl rfl trivial ?_
        refine L.assign rfl rfl rfl trivial ?_
        refine L.assign rfl rfl rfl trivial ?_
        refine L.nil ?_
        refine C.next ?_
        refine C.seq ?_
        refine C.seq ?_
        refine C.region [(false,0),(false,1)] rfl ?_
        refine L.move rfl rfl rfl trivial ?_
        refine L.neq rfl rfl rfl rfl trivial ?_
        refine L.nil ?_
        refine C.next ?_
        refine C.condD rfl (fun hc2 => ?_) (fun hc2 => ?_)
        · refine C.seq ?_
          refine C.region [(false,0),(false,1),(false,2),(false,3),(false,4),(false,5),(false,6),(false,7),(false,8),(false,9),(false,10)] rfl ?_
          refine L.move rfl rfl rfl trivial ?_
          refine L.eql rfl rfl rfl rfl trivial ?_
          refine L.move rfl rfl rfl trivial ?_
          refine' L.and [(false,3),(false,4),(false,5),(false,6)] [(false,7),(false,8),(false,9),(false,10)] (s := 69) (p := 73) rfl rfl (fun hg2 => ?_) (fun hg2 => ?_) ?_
          rotate_left
          · refine L.move rfl rfl rfl ⟨_, rfl, rfl⟩ ?_
            refine L.move rfl rfl rfl ⟨_, rfl, rfl⟩ ?_
            refine L.eql rfl rfl rfl rfl ⟨_, rfl, rfl⟩ ?_
            refine L.pickT rfl rfl rfl rfl trivial ?_
            exact L.nil fun a w hh => hh.cutK 3 rfl
          · refine L.pass rfl rfl rfl ⟨_, _, rfl, rfl, rfl⟩ ?_
            refine L.pass rfl rfl rfl ⟨_, _, rfl, rfl, rfl⟩ ?_
            refine L.pass rfl rfl rfl ⟨_, _, rfl, rfl, rfl⟩ ?_
            refine L.pickF rfl rfl rfl rfl trivial ?_
            exact L.nil fun a w hh => hh.cutK 3 rfl
          refine L.move rfl rfl rfl trivial ?_
          refine' L.and [(false,8),(false,9)] [(false,10)] (s := 74) (p := 76) rfl rfl (fun hg3 => ?_) (fun hg3 => ?_) ?_
          rotate_left
          · refine L.callV rfl rfl rfl (fun D8 hD8 => awake_ok _) rfl ⟨_, rfl, rfl⟩ ?_
            refine L.pickT rfl rfl rfl rfl trivial ?_
            exact L.nil fun a w hh => hh.cutK 1 rfl
          · refine L.pass rfl rfl rfl ⟨_, _, rfl, rfl, rfl⟩ ?_
            refine L.pickF rfl rfl rfl rfl trivial ?_
            exact L.nil fun a w hh => hh.cutK 1 rfl
          refine L.assign rfl rfl rfl trivial ?_
          refine L.nil ?_
          refine C.next ?_
          refine C.ret ?_
          refine C.thenRet ?_
          exact leave (vs := [_]) rfl rfl rfl ⟨rfl, trivial⟩ (fun D hD => congrArg Value.bool (by rw [(hml.1 hc2).1, (hml.1 hc2).2]; rfl))
        · refine C.skip ?_
          refine C.next ?_
          refine C.seq ?_
          refine C.seq ?_
          refine C.region [(false,0),(false,1),(false,2),(false,3),(false,4),(false,5),(false,6),(false,7),(false,8),(false,9),(false,10),(false,11),(false,12),(false,13),(false,14)] rfl ?_
          refine L.move rfl rfl rfl trivial ?_
          refine L.neq rfl rfl rfl rfl trivial ?_
          refine L.move rfl rfl rfl trivial ?_
          refine' L.and [(false,3),(false,4),(false,5)] [(false,6),(false,7),(false,8),(false,9),(false,10),(false,11),(false,12),(false,13),(false,14)] (s := 79) (p := 82) rfl rfl (fun hg4 => ?_) (fun hg4 => ?_) ?_
          rotate_left
          · refine L.move rfl rfl rfl ⟨_, rfl, rfl⟩ ?_
            refine L.neq rfl rfl rfl rfl ⟨_, rfl, rfl⟩ ?_
            refine L.pickT rfl rfl rfl rfl trivial ?_
            exact L.nil fun a w hh => hh.cutK 2 rfl
          · refine L.pass rfl rfl rfl ⟨_, _, rfl, rfl, rfl⟩ ?_
            refine L.pass rfl rfl rfl ⟨_, _, rfl, rfl, rfl⟩ ?_
            refine L.pickF rfl rfl rfl rfl trivial ?_
            exact L.nil fun a w hh => hh.cutK 2 rfl
          refine L.move rfl rfl rfl trivial ?_
          refine' L.or [(false,7),(false,8),(false,9),(false,10),(false,11),(false,12),(false,13),(false,14)] [] (s := 83) (p := 91) rfl rfl (fun hg5 => ?_) (fun hg5 => ?_) ?_
          rotate_left
          · refine L.move rfl rfl rfl ⟨_, rfl, rfl⟩ ?_
            refine L.eql rfl rfl rfl rfl ⟨_, rfl, rfl⟩ ?_
            refine L.move rfl rfl rfl ⟨_, rfl, rfl⟩ ?_
            refine' L.and [(false,10),(false,11),(false,12),(false,13)] [(false,14)] (s := 86) (p := 90) rfl rfl (fun hg6 => ?_) (fun hg6 => ?_) ?_
            rotate_left
            · refine L.move rfl rfl rfl ⟨_, rfl, rfl⟩ ?_
              refine L.move rfl rfl rfl ⟨_, rfl, rfl⟩ ?_
              refine L.lss rfl rfl rfl rfl ⟨_, rfl, rfl⟩ ?_
              refine L.pickT rfl rfl rfl rfl ⟨_, rfl, rfl⟩ ?_
              exact L.nil fun a w hh => hh.cutK 3 rfl
            · refine L.pass rfl rfl rfl ⟨_, _, rfl, rfl, rfl⟩ ?_
              refine L.pass rfl rfl rfl ⟨_, _, rfl, rfl, rfl⟩ ?_
              refine L.pass rfl rfl rfl ⟨_, _, rfl, rfl, rfl⟩ ?_
              refine L.pickF rfl rfl rfl rfl ⟨_, rfl, rfl⟩ ?_
              exact L.nil fun a w hh => hh.cutK 3 rfl
            refine L.pickF rfl rfl rfl rfl trivial ?_
            exact L.nil fun a w hh => hh.cutK 4 rfl
          · refine L.pass rfl rfl rfl ⟨_, _, rfl, rfl, rfl⟩ ?_
            refine L.pass rfl rfl rfl ⟨_, _, rfl, rfl, rfl⟩ ?_
            refine L.pass rfl rfl rfl ⟨_, _, rfl, rfl, rfl⟩ ?_
            refine L.pass rfl rfl rfl ⟨_, _, rfl, rfl, rfl⟩ ?_
            refine L.pass rfl rfl rfl ⟨_, _, rfl, rfl, rfl⟩ ?_
            refine L.pass rfl rfl rfl ⟨_, _, rfl, rfl, rfl⟩ ?_
            refine L.pass rfl rfl rfl ⟨_, _, rfl, rfl, rfl⟩ ?_
            refine L.pickT rfl rfl rfl rfl trivial ?_
            exact L.nil fun a w hh => hh.cutK 7 rfl
          refine L.nil ?_
          refine C.next ?_
          refine C.cond rfl (fun hc3 => ?_) (fun hc3 => ?_)
          · exact absurd hc3 (by have h := hml.2 (by omega); rcases h with h | h <;> simp [h.1]; omega)
          · refine C.skip ?_
            refine C.next ?_
            refine C.seq ?_
            refine C.region [(false,0),(false,1),(false,2),(false,3),(false,4),(false,5),(false,6),(false,7),(false,8)] rfl ?_
            refine L.loadDW rfl Tf.a25 rfl hB1 (by first | simp | assumption) Tf.s25 List.not_mem_nil rfl trivial ?_
            refine L.move rfl rfl rfl trivial ?_
            refine L.move rfl rfl rfl trivial ?_
            refine L.callV rfl rfl rfl (fun D9 hD9 => hpt _ _ (hr0.up (hD9 _ (by simp)))) rfl trivial ?_
            refine L.move rfl rfl rfl trivial ?_
            refine L.extract rfl rfl rfl rfl trivial ?_
            refine L.extract rfl rfl rfl rfl trivial ?_
            refine L.assign rfl rfl rfl trivial ?_
            refine L.assign rfl rfl rfl trivial ?_
            refine L.nil ?_
            refine C.next ?_
            refine C.seq ?_
            refine C.region [(false,0),(false,1),(false,2),(false,3),(false,4),(false,5),(false,6),(false,7),(false,8),(false,9),(false,10)] rfl ?_
            refine L.loadDW rfl Tf.a25 rfl hB1 (by first | simp | assumption) Tf.s25 List.not_mem_nil rfl trivial ?_
            refine L.call rfl rfl rfl (fun D10 hD10 => Row_ok _ r _ (hr0.up (hD10 _ (by simp))) (by omega) (by omega)) rfl trivial (fun v10 D10 hD10 hp10 => ?_)
            have hw := hp10
            refine L.move rfl rfl rfl trivial ?_
            refine L.move rfl rfl rfl trivial ?_
            refine L.callV rfl rfl rfl (fun D11 hD11 => Chairs2_ok _ r _ _ _ (hw.up (hD11 _ (by simp)))) rfl trivial ?_
            refine L.move rfl rfl rfl trivial ?_
            refine L.extract rfl rfl rfl rfl trivial ?_
            refine L.extract rfl rfl rfl rfl trivial ?_
            refine L.alloc rfl Tf.z29 rfl rfl trivial (fun q4 => ?_)
            refine L.storeW rfl rfl rfl rfl Tf.s29 (by first | rfl | (simp only [ints_length, *]; done) | (simp only [ints_length, *]; rfl) | (simp only [ints_length, *]; omega)) (by first | rfl | (simp only [ints_length, *]; done) | (simp only [ints_length, *]; rfl) | (simp only [ints_length, *]; omega)) (Has.head) (by first | exact ints_cell1 _ | simp [cell1]) trivial ?_
            refine L.assign rfl rfl rfl trivial ?_
            refine L.nil ?_
            refine C.next ?_
            refine C.seq ?_
            refine C.region [(false,0),(false,1),(false,2),(false,3),(false,4),(false,5),(false,6),(false,7),(false,8),(false,9),(false,10)] rfl ?_
            refine L.loadBW rfl Tf.a25 rfl (List.Mem.tail _ (List.Mem.head _)) Tf.s25 List.not_mem_nil rfl trivial ?_
            refine L.call rfl rfl rfl (fun D12 hD12 => Row_ok _ (moreD r c) _ (hxr.up (hD12 _ (by simp))) (by omega) (by omega)) rfl trivial (fun v12 D12 hD12 hp12 => ?_)
            have hw := hp12
            refine L.move rfl rfl rfl trivial ?_
            refine L.move rfl rfl rfl trivial ?_
            refine L.callV rfl rfl rfl (fun D13 hD13 => Chairs2_ok _ (moreD r c) _ _ _ (hw.up (hD13 _ (by simp)))) rfl trivial ?_
            refine L.move rfl rfl rfl trivial ?_
            refine L.extract rfl rfl rfl rfl trivial ?_
            refine L.extract rfl rfl rfl rfl trivial ?_
            refine L.alloc rfl Tf.z29 rfl rfl trivial (fun q5 => ?_)
            refine L.storeW rfl rfl rfl rfl Tf.s29 (by first | rfl | (simp only [ints_length, *]; done) | (simp only [ints_length, *]; rfl) | (simp only [ints_length, *]; omega)) (by first | rfl | (simp only [ints_length, *]; done) | (simp only [ints_length, *]; rfl) | (simp only [ints_length, *]; omega)) (Has.head) (by first | exact ints_cell1 _ | simp [cell1]) trivial ?_
            refine L.assign rfl rfl rfl trivial ?_
            refine L.nil ?_
            refine C.next ?_
            refine C.seq ?_
            refine C.seq ?_
            refine C.region [(false,0),(false,1)] rfl ?_
            refine L.move rfl rfl rfl trivial ?_
            refine L.neq rfl rfl rfl rfl trivial ?_
            refine L.nil ?_
            refine C.next ?_
            refine C.condD rfl (fun hc4 => ?_) (fun hc4 => ?_)
            · refine C.seq ?_
              refine C.region [(false,0),(false,1),(false,2),(false,3),(false,4),(false,5),(false,6),(false,7),(false,8),(false,9),(false,10),(false,11),(false,12),(false,13),(false,14)] rfl ?_
              refine L.move rfl rfl rfl trivial ?_
              refine L.eql rfl rfl rfl rfl trivial ?_
              refine L.move rfl rfl rfl trivial ?_
              refine' L.and [(false,3),(false,4),(false,5),(false,6),(false,7),(false,8),(false,9),(false,10)] [(false,11),(false,12),(false,13),(false,14)] (s := 119) (p := 127) rfl rfl (fun hg7 => ?_) (fun hg7 => ?_) ?_
              rotate_left
              · refine L.move rfl rfl rfl ⟨_, rfl, rfl⟩ ?_
                refine L.eql rfl rfl rfl rfl ⟨_, rfl, rfl⟩ ?_
                refine L.move rfl rfl rfl ⟨_, rfl, rfl⟩ ?_
                refine' L.or [(false,6),(false,7),(false,8),(false,9)] [(false,10)] (s := 122) (p := 126) rfl rfl (fun hg8 => ?_) (fun hg8 => ?_) ?_
                rotate_left
                · refine L.move rfl rfl rfl ⟨_, rfl, rfl⟩ ?_
                  refine L.move rfl rfl rfl ⟨_, rfl, rfl⟩ ?_
                  refine L.eql rfl rfl rfl rfl ⟨_, rfl, rfl⟩ ?_
                  refine L.pickF rfl rfl rfl rfl ⟨_, rfl, rfl⟩ ?_
                  exact L.nil fun a w hh => hh.cutK 3 rfl
                · refine L.pass rfl rfl rfl ⟨_, _, rfl, rfl, rfl⟩ ?_
                  refine L.pass rfl rfl rfl ⟨_, _, rfl, rfl, rfl⟩ ?_
                  refine L.pass rfl rfl rfl ⟨_, _, rfl, rfl, rfl⟩ ?_
                  refine L.pickT rfl rfl rfl rfl ⟨_, rfl, rfl⟩ ?_
                  exact L.nil fun a w hh => hh.cutK 3 rfl
                refine L.pickT rfl rfl rfl rfl trivial ?_
                exact L.nil fun a w hh => hh.cutK 4 rfl
              · refine L.pass rfl rfl rfl ⟨_, _, rfl, rfl, rfl⟩ ?_
                refine L.pass rfl rfl rfl ⟨_, _, rfl, rfl, rfl⟩ ?_
                refine L.pass rfl rfl rfl ⟨_, _, rfl, rfl, rfl⟩ ?_
                refine L.pass rfl rfl rfl ⟨_, _, rfl, rfl, rfl⟩ ?_
                refine L.pass rfl rfl rfl ⟨_, _, rfl, rfl, rfl⟩ ?_
                refine L.pass rfl rfl rfl ⟨_, _, rfl, rfl, rfl⟩ ?_
                refine L.pass rfl rfl rfl ⟨_, _, rfl, rfl, rfl⟩ ?_
                refine L.pickF rfl rfl rfl rfl trivial ?_
                exact L.nil fun a w hh => hh.cutK 7 rfl
              refine L.move rfl rfl rfl trivial ?_
              refine' L.and [(false,12),(false,13)] [(false,14)] (s := 128) (p := 130) rfl rfl (fun hg9 => ?_) (fun hg9 => ?_) ?_
              rotate_left
              · refine L.callV rfl rfl rfl (fun D14 hD14 => awake_ok _) rfl ⟨_, rfl, rfl⟩ ?_
                refine L.pickT rfl rfl rfl rfl trivial ?_
                exact L.nil fun a w hh => hh.cutK 1 rfl
              · refine L.pass rfl rfl rfl ⟨_, _, rfl, rfl, rfl⟩ ?_
                refine L.pickF rfl rfl rfl rfl trivial ?_
                exact L.nil fun a w hh => hh.cutK 1 rfl
              refine L.assign rfl rfl rfl trivial ?_
              refine L.nil ?_
              refine C.next ?_
              refine C.ret ?_
              refine C.thenRet ?_
              exact leave (vs := [_]) rfl rfl rfl ⟨rfl, trivial⟩ (fun D hD => congrArg Value.bool (more_none hask haskx hok hokx hc4))
            · have hzx : askErr (moreD r c) true = 0 := by rw [haskx] at hc4; omega
              obtain ⟨hz, hnx, hi1, hi2, hlk, hnd⟩ := more_all (i := i) (j := j) hok hokx hij hjn hzx
              refine C.skip ?_
              refine C.next ?_
              refine C.seq ?_
              refine C.region [(false,0),(false,1),(false,2),(false,3),(false,4),(false,5),(false,6),(false,7)] rfl ?_
              refine L.loadDW rfl Tf.a25 rfl hB1 (by first | simp | assumption) Tf.s25 List.not_mem_nil rfl trivial ?_
              refine L.call rfl rfl rfl (fun D15 hD15 => Row_ok _ r _ (hr0.up (hD15 _ (by simp))) (by omega) (by omega)) rfl trivial (fun v15 D15 hD15 hp15 => ?_)
              have hw := hp15
              refine L.call rfl rfl rfl (fun D16 hD16 => Places_ok _ r _ (hw.up (hD16 _ (by simp)))) rfl trivial (fun v16 D16 hD16 hp16 => ?_)
              obtain ⟨plv, rfl, hps⟩ := hp16
              refine L.move rfl rfl rfl trivial ?_
              refine L.extract rfl rfl rfl rfl trivial ?_
              refine L.extract rfl rfl rfl rfl trivial ?_
              refine L.assign rfl rfl rfl trivial ?_
              refine L.assign rfl rfl rfl trivial ?_
              refine L.nil ?_
              refine C.next ?_
              refine C.seq ?_
              refine C.region [(false,0),(false,1),(false,2),(false,3),(false,4),(false,5),(false,6),(false,7)] rfl ?_
              refine L.loadBW rfl Tf.a25 rfl (List.Mem.tail _ (List.Mem.tail _ (List.Mem.head _))) Tf.s25 List.not_mem_nil rfl trivial ?_
              refine L.call rfl rfl rfl (fun D17 hD17 => Row_ok _ (moreD r c) _ (hxr.up (hD17 _ (by simp))) (by omega) (by omega)) rfl trivial (fun v17 D17 hD17 hp17 => ?_)
              have hw := hp17
              refine L.call rfl rfl rfl (fun D18 hD18 => Places_ok _ (moreD r c) _ (hw.up (hD18 _ (by simp)))) rfl trivial (fun v18 D18 hD18 hp18 => ?_)
              obtain ⟨qlv, rfl, hqs⟩ := hp18
              refine L.move rfl rfl rfl trivial ?_
              refine L.extract rfl rfl rfl rfl trivial ?_
              refine L.extract rfl rfl rfl rfl trivial ?_
              refine L.assign rfl rfl rfl trivial ?_
              refine L.assign rfl rfl rfl trivial ?_
              refine L.nil ?_
              refine C.next ?_
              refine C.seq ?_
              refine C.region [(false,0),(false,1),(false,2),(false,3),(false,4),(false,5),(false,6),(false,7),(false,8),(false,9)] rfl ?_
              refine L.loadDW rfl Tf.a25 rfl hB1 (by first | simp | assumption) Tf.s25 List.not_mem_nil rfl trivial ?_
              refine L.call rfl rfl rfl (fun D19 hD19 => Row_ok _ r _ (hr0.up (hD19 _ (by simp))) (by omega) (by omega)) rfl trivial (fun v19 D19 hD19 hp19 => ?_)
              have hw := hp19
              refine L.callV rfl rfl rfl (fun D20 hD20 => Look_ok _ r _ (hw.up (hD20 _ (by simp)))) rfl trivial ?_
              refine L.move rfl rfl rfl trivial ?_
              refine L.extract rfl rfl rfl rfl trivial ?_
              refine L.extract rfl rfl rfl rfl trivial ?_
              refine L.extract rfl rfl rfl rfl trivial ?_
              refine L.assign rfl rfl rfl trivial ?_
              refine L.assign rfl rfl rfl trivial ?_
              refine L.assign rfl rfl rfl trivial ?_
              refine L.nil ?_
              refine C.next ?_
              refine C.seq ?_
              refine C.region [(false,0),(false,1),(false,2),(false,3),(false,4),(false,5),(false,6),(false,7),(false,8),(false,9)] rfl ?_
              refine L.loadBW rfl Tf.a25 rfl (List.Mem.tail _ (List.Mem.tail _ (List.Mem.head _))) Tf.s25 List.not_mem_nil rfl trivial ?_
              refine L.call rfl rfl rfl (fun D21 hD21 => Row_ok _ (moreD r c) _ (hxr.up (hD21 _ (by simp))) (by omega) (by omega)) rfl trivial (fun v21 D21 hD21 hp21 => ?_)
              have hw := hp21
              refine L.callV rfl rfl rfl (fun D22 hD22 => Look_ok _ (moreD r c) _ (hw.up (hD22 _ (by simp)))) rfl trivial ?_
              refine L.move rfl rfl rfl trivial ?_
              refine L.extract rfl rfl rfl rfl trivial ?_
              refine L.extract rfl rfl rfl rfl trivial ?_
              refine L.extract rfl rfl rfl rfl trivial ?_
              refine L.assign rfl rfl rfl trivial ?_
              refine L.assign rfl rfl rfl trivial ?_
              refine L.assign rfl rfl rfl trivial ?_
              refine L.nil ?_
              refine C.next ?_
              refine C.seq ?_
              refine C.region [(false,0),(false,1),(false,2),(false,3),(false,4),(false,5),(false,6),(false,7),(false,8),(false,9)] rfl ?_
              refine L.loadDW rfl Tf.a25 rfl hB1 (by first | simp | assumption) Tf.s25 List.not_mem_nil rfl trivial ?_
              refine L.call rfl rfl rfl (fun D23 hD23 => Row_ok _ r _ (hr0.up (hD23 _ (by simp))) (by omega) (by omega)) rfl trivial (fun v23 D23 hD23 hp23 => ?_)
              have hw := hp23
              refine L.move rfl rfl rfl trivial ?_
              refine L.move rfl rfl rfl trivial ?_
              refine L.callV rfl rfl rfl (fun D24 hD24 => Looks_ok _ r _ _ _ (hw.up (hD24 _ (by simp)))) rfl trivial ?_
              refine L.move rfl rfl rfl trivial ?_
              refine L.extract rfl rfl rfl rfl trivial ?_
              refine L.extract rfl rfl rfl rfl trivial ?_
              refine L.assign rfl rfl rfl trivial ?_
              refine L.assign rfl rfl rfl trivial ?_
              refine L.nil ?_
              refine C.next ?_
              refine C.seq ?_
              refine C.region [(false,0),(false,1),(false,2),(false,3),(false,4),(false,5),(false,6),(false,7),(false,8),(false,9)] rfl ?_
              refine L.loadBW rfl Tf.a25 rfl (List.Mem.tail _ (List.Mem.tail _ (List.Mem.head _))) Tf.s25 List.not_mem_nil rfl trivial ?_
              refine L.call rfl rfl rfl (fun D25 hD25 => Row_ok _ (moreD r c) _ (hxr.up (hD25 _ (by simp))) (by omega) (by omega)) rfl trivial (fun v25 D25 hD25 hp25 => ?_)
              have hw := hp25
              refine L.move rfl rfl rfl trivial ?_
              refine L.move rfl rfl rfl trivial ?_
              refine L.callV rfl rfl rfl (fun D26 hD26 => Looks_ok _ (moreD r c) _ _ _ (hw.up (hD26 _ (by simp)))) rfl trivial ?_
              refine L.move rfl rfl rfl trivial ?_
              refine L.extract rfl rfl rfl rfl trivial ?_
              refine L.extract rfl rfl rfl rfl trivial ?_
              refine L.assign rfl rfl rfl trivial ?_
              refine L.assign rfl rfl rfl trivial ?_
              refine L.nil ?_
              refine C.next ?_
              refine C.seq ?_
              refine C.seq ?_
              rw [if_pos hz] at hps
              rw [if_pos hzx] at hqs
              generalize hLR : (if askErr r true = 0 then (lookK (truths r) ((truths r).length + 1) r.places.length).2 else 0) = LR at hlk ⊢
              generalize hLX : (if askErr (moreD r c) true = 0 then (lookK (truths (moreD r c)) ((truths (moreD r c)).length + 1) (moreD r c).places.length).2 else 0) = LX at hlk ⊢
              generalize hNR : (if askErr r (partOk r (i : Int) (j : Int)) = 0 then needN r.places.length (i : Int).toNat (j : Int).toNat (truths r) else 0) = NR at hnd ⊢
              generalize hNX : (if askErr (moreD r c) (partOk (moreD r c) (i : Int) (j : Int)) = 0 then needN (moreD r c).places.length (i : Int).toNat (j : Int).toNat (truths (moreD r c)) else 0) = NX at hnd ⊢
              refine C.region [(false,0),(false,1),(false,2),(false,3),(false,4),(false,5),(false,6),(false,7),(false,8),(false,9),(false,10),(false,11),(false,12),(false,13),(false,14),(false,15),(false,16),(false,17),(false,18),(false,19),(false,20),(false,21),(false,22),(false,23),(false,24),(false,25),(false,26),(false,27),(false,28),(false,29),(false,30),(false,31),(false,32),(false,33),(false,34),(false,35),(false,36),(false,37),(false,38),(false,39),(false,40),(false,41),(false,42),(false,43),(false,44),(false,45),(false,46),(false,47),(false,48),(false,49),(false,50),(false,51),(false,52),(false,53),(false,54),(false,55),(false,56)] rfl ?_
              refine L.move rfl rfl rfl trivial ?_
              refine L.neq rfl rfl rfl rfl trivial ?_
              refine L.move rfl rfl rfl trivial ?_
              refine' L.or [(false,3),(false,4),(false,5),(false,6),(false,7)] [(false,8),(false,9),(false,10),(false,11),(false,12),(false,13),(false,14),(false,15),(false,16),(false,17),(false,18),(false,19),(false,20),(false,21),(false,22),(false,23),(false,24),(false,25),(false,26),(false,27),(false,28),(false,29),(false,30),(false,31),(false,32),(false,33),(false,34),(false,35),(false,36),(false,37),(false,38),(false,39),(false,40),(false,41),(false,42),(false,43),(false,44),(false,45),(false,46),(false,47),(false,48),(false,49),(false,50),(false,51),(false,52),(false,53),(false,54),(false,55),(false,56)] (s := 175) (p := 180) rfl rfl (fun hg10 => ?_) (fun hg10 => ?_) ?_
              rotate_left
              · refine L.loadBW rfl Tf.a29 rfl (List.Mem.head _) Tf.s29 List.not_mem_nil rfl ⟨_, rfl, rfl⟩ ?_
                refine L.loadBW rfl Tf.a29 rfl (List.Mem.tail _ (List.Mem.head _)) Tf.s29 List.not_mem_nil rfl ⟨_, rfl, rfl⟩ ?_
                refine L.callV rfl rfl rfl (fun D27 hD27 => inside2_ok (chV (moreD r c) i j) (chV r i j) _) rfl ⟨_, rfl, rfl⟩ ?_
                refine L.not rfl rfl rfl ⟨_, rfl, rfl⟩ ?_
                refine L.pickF rfl rfl rfl rfl trivial ?_
                exact L.nil fun a w hh => hh.cutK 4 rfl
              · refine L.pass rfl rfl rfl ⟨_, _, rfl, rfl, rfl⟩ ?_
                refine L.pass rfl rfl rfl ⟨_, _, rfl, rfl, rfl⟩ ?_
                refine L.pass rfl rfl rfl ⟨_, _, rfl, rfl, rfl⟩ ?_
                refine L.pass rfl rfl rfl ⟨_, _, rfl, rfl, rfl⟩ ?_
                refine L.pickT rfl rfl rfl rfl trivial ?_
                exact L.nil fun a w hh => hh.cutK 4 rfl
              refine L.move rfl rfl rfl trivial ?_
              refine' L.or [(false,9),(false,10),(false,11)] [(false,12),(false,13),(false,14),(false,15),(false,16),(false,17),(false,18),(false,19),(false,20),(false,21),(false,22),(false,23),(false,24),(false,25),(false,26),(false,27),(false,28),(false,29),(false,30),(false,31),(false,32),(false,33),(false,34),(false,35),(false,36),(false,37),(false,38),(false,39),(false,40),(false,41),(false,42),(false,43),(false,44),(false,45),(false,46),(false,47),(false,48),(false,49),(false,50),(false,51),(false,52),(false,53),(false,54),(false,55),(false,56)] (s := 181) (p := 184) rfl rfl (fun hg11 => ?_) (fun hg11 => ?_) ?_
              rotate_left
              · refine L.move rfl rfl rfl ⟨_, rfl, rfl⟩ ?_
                refine L.neq rfl rfl rfl rfl ⟨_, rfl, rfl⟩ ?_
                refine L.pickF rfl rfl rfl rfl trivial ?_
                exact L.nil fun a w hh => hh.cutK 2 rfl
              · refine L.pass rfl rfl rfl ⟨_, _, rfl, rfl, rfl⟩ ?_
                refine L.pass rfl rfl rfl ⟨_, _, rfl, rfl, rfl⟩ ?_
                refine L.pickT rfl rfl rfl rfl trivial ?_
                exact L.nil fun a w hh => hh.cutK 2 rfl
              refine L.move rfl rfl rfl trivial ?_
              refine' L.or [(false,13),(false,14),(false,15)] [(false,16),(false,17),(false,18),(false,19),(false,20),(false,21),(false,22),(false,23),(false,24),(false,25),(false,26),(false,27),(false,28),(false,29),(false,30),(false,31),(false,32),(false,33),(false,34),(false,35),(false,36),(false,37),(false,38),(false,39),(false,40),(false,41),(false,42),(false,43),(false,44),(false,45),(false,46),(false,47),(false,48),(false,49),(false,50),(false,51),(false,52),(false,53),(false,54),(false,55),(false,56)] (s := 185) (p := 188) rfl rfl (fun hg12 => ?_) (fun hg12 => ?_) ?_
              rotate_left
              · refine L.move rfl rfl rfl ⟨_, rfl, rfl⟩ ?_
                refine L.neq rfl rfl rfl rfl ⟨_, rfl, rfl⟩ ?_
                refine L.pickF rfl rfl rfl rfl trivial ?_
                exact L.nil fun a w hh => hh.cutK 2 rfl
              · refine L.pass rfl rfl rfl ⟨_, _, rfl, rfl, rfl⟩ ?_
                refine L.pass rfl rfl rfl ⟨_, _, rfl, rfl, rfl⟩ ?_
                refine L.pickT rfl rfl rfl rfl trivial ?_
                exact L.nil fun a w hh => hh.cutK 2 rfl
              refine L.move rfl rfl rfl trivial ?_
              refine' L.or [(false,17),(false,18),(false,19),(false,20),(false,21),(false,22),(false,23)] [(false,24),(false,25),(false,26),(false,27),(false,28),(false,29),(false,30),(false,31),(false,32),(false,33),(false,34),(false,35),(false,36),(false,37),(false,38),(false,39),(false,40),(false,41),(false,42),(false,43),(false,44),(false,45),(false,46),(false,47),(false,48),(false,49),(false,50),(false,51),(false,52),(false,53),(false,54),(false,55),(false,56)] (s := 189) (p := 196) rfl rfl (fun hg13 => ?_) (fun hg13 => ?_) ?_
              rotate_left
              · refine L.move rfl rfl rfl ⟨_, rfl, rfl⟩ ?_
                refine L.len rfl Try.underlying22 rfl hps rfl rfl ⟨_, rfl, rfl⟩ ?_
                refine L.fieldAddr rfl Tf.f25_0 rfl rfl ⟨_, rfl, rfl⟩ ?_
                refine L.loadD1 rfl (k := 0) Tf.a22 rfl hB1 (by first | simp | assumption) rfl List.not_mem_nil rfl ⟨_, rfl, rfl⟩ ?_
                refine L.len rfl Try.underlying22 rfl hp rfl rfl ⟨_, rfl, rfl⟩ ?_
                refine L.neq rfl rfl rfl rfl ⟨_, rfl, rfl⟩ ?_
                refine L.pickF rfl rfl rfl rfl trivial ?_
                exact L.nil fun a w hh => hh.cutK 6 rfl
              · refine L.pass rfl rfl rfl ⟨_, _, rfl, rfl, rfl⟩ ?_
                refine L.pass rfl rfl rfl ⟨_, _, rfl, rfl, rfl⟩ ?_
                refine L.pass rfl rfl rfl ⟨_, _, rfl, rfl, rfl⟩ ?_
                refine L.pass rfl rfl rfl ⟨_, _, rfl, rfl, rfl⟩ ?_
                refine L.pass rfl rfl rfl ⟨_, _, rfl, rfl, rfl⟩ ?_
                refine L.pass rfl rfl rfl ⟨_, _, rfl, rfl, rfl⟩ ?_
                refine L.pickT rfl rfl rfl rfl trivial ?_
                exact L.nil fun a w hh => hh.cutK 6 rfl
              refine L.move rfl rfl rfl trivial ?_
              refine' L.or [(false,25),(false,26),(false,27),(false,28),(false,29),(false,30)] [(false,31),(false,32),(false,33),(false,34),(false,35),(false,36),(false,37),(false,38),(false,39),(false,40),(false,41),(false,42),(false,43),(false,44),(false,45),(false,46),(false,47),(false,48),(false,49),(false,50),(false,51),(false,52),(false,53),(false,54),(false,55),(false,56)] (s := 197) (p := 203) rfl rfl (fun hg14 => ?_) (fun hg14 => ?_) ?_
              rotate_left
              · refine L.move rfl rfl rfl ⟨_, rfl, rfl⟩ ?_
                refine L.len rfl Try.underlying22 rfl hqs rfl rfl ⟨_, rfl, rfl⟩ ?_
                refine L.move rfl rfl rfl ⟨_, rfl, rfl⟩ ?_
                refine L.len rfl Try.underlying22 rfl hps rfl rfl ⟨_, rfl, rfl⟩ ?_
                refine L.neq rfl rfl rfl rfl ⟨_, rfl, rfl⟩ ?_
                refine L.pickF rfl rfl rfl rfl trivial ?_
                exact L.nil fun a w hh => hh.cutK 5 rfl
              · refine L.pass rfl rfl rfl ⟨_, _, rfl, rfl, rfl⟩ ?_
                refine L.pass rfl rfl rfl ⟨_, _, rfl, rfl, rfl⟩ ?_
                refine L.pass rfl rfl rfl ⟨_, _, rfl, rfl, rfl⟩ ?_
                refine L.pass rfl rfl rfl ⟨_, _, rfl, rfl, rfl⟩ ?_
                refine L.pass rfl rfl rfl ⟨_, _, rfl, rfl, rfl⟩ ?_
                refine L.pickT rfl rfl rfl rfl trivial ?_
                exact L.nil fun a w hh => hh.cutK 5 rfl
              refine L.move rfl rfl rfl trivial ?_
              refine' L.or [(false,32),(false,33),(false,34)] [(false,35),(false,36),(false,37),(false,38),(false,39),(false,40),(false,41),(false,42),(false,43),(false,44),(false,45),(false,46),(false,47),(false,48),(false,49),(false,50),(false,51),(false,52),(false,53),(false,54),(false,55),(false,56)] (s := 204) (p := 207) rfl rfl (fun hg15 => ?_) (fun hg15 => ?_) ?_
              rotate_left
              · refine L.move rfl rfl rfl ⟨_, rfl, rfl⟩ ?_
                refine L.neq rfl rfl rfl rfl ⟨_, rfl, rfl⟩ ?_
                refine L.pickF rfl rfl rfl rfl trivial ?_
                exact L.nil fun a w hh => hh.cutK 2 rfl
              · refine L.pass rfl rfl rfl ⟨_, _, rfl, rfl, rfl⟩ ?_
                refine L.pass rfl rfl rfl ⟨_, _, rfl, rfl, rfl⟩ ?_
                refine L.pickT rfl rfl rfl rfl trivial ?_
                exact L.nil fun a w hh => hh.cutK 2 rfl
              refine L.move rfl rfl rfl trivial ?_
              refine' L.or [(false,36),(false,37),(false,38)] [(false,39),(false,40),(false,41),(false,42),(false,43),(false,44),(false,45),(false,46),(false,47),(false,48),(false,49),(false,50),(false,51),(false,52),(false,53),(false,54),(false,55),(false,56)] (s := 208) (p := 211) rfl rfl (fun hg16 => ?_) (fun hg16 => ?_) ?_
              rotate_left
              · refine L.move rfl rfl rfl ⟨_, rfl, rfl⟩ ?_
                refine L.neq rfl rfl rfl rfl ⟨_, rfl, rfl⟩ ?_
                refine L.pickF rfl rfl rfl rfl trivial ?_
                exact L.nil fun a w hh => hh.cutK 2 rfl
              · refine L.pass rfl rfl rfl ⟨_, _, rfl, rfl, rfl⟩ ?_
                refine L.pass rfl rfl rfl ⟨_, _, rfl, rfl, rfl⟩ ?_
                refine L.pickT rfl rfl rfl rfl trivial ?_
                exact L.nil fun a w hh => hh.cutK 2 rfl
              refine L.move rfl rfl rfl trivial ?_
              refine' L.or [(false,40),(false,41),(false,42),(false,43)] [(false,44),(false,45),(false,46),(false,47),(false,48),(false,49),(false,50),(false,51),(false,52),(false,53),(false,54),(false,55),(false,56)] (s := 212) (p := 216) rfl rfl (fun hg17 => ?_) (fun hg17 => ?_) ?_
              rotate_left
              · refine L.move rfl rfl rfl ⟨_, rfl, rfl⟩ ?_
                refine L.move rfl rfl rfl ⟨_, rfl, rfl⟩ ?_
                refine L.gtr rfl rfl rfl rfl ⟨_, rfl, rfl⟩ ?_
                refine L.pickF rfl rfl rfl rfl trivial ?_
                exact L.nil fun a w hh => hh.cutK 3 rfl
              · refine L.pass rfl rfl rfl ⟨_, _, rfl, rfl, rfl⟩ ?_
                refine L.pass rfl rfl rfl ⟨_, _, rfl, rfl, rfl⟩ ?_
                refine L.pass rfl rfl rfl ⟨_, _, rfl, rfl, rfl⟩ ?_
                refine L.pickT rfl rfl rfl rfl trivial ?_
                exact L.nil fun a w hh => hh.cutK 3 rfl
              refine L.move rfl rfl rfl trivial ?_
              refine' L.or [(false,45),(false,46),(false,47)] [(false,48),(false,49),(false,50),(false,51),(false,52),(false,53),(false,54),(false,55),(false,56)] (s := 217) (p := 220) rfl rfl (fun hg18 => ?_) (fun hg18 => ?_) ?_
              rotate_left
              · refine L.move rfl rfl rfl ⟨_, rfl, rfl⟩ ?_
                refine L.neq rfl rfl rfl rfl ⟨_, rfl, rfl⟩ ?_
                refine L.pickF rfl rfl rfl rfl trivial ?_
                exact L.nil fun a w hh => hh.cutK 2 rfl
              · refine L.pass rfl rfl rfl ⟨_, _, rfl, rfl, rfl⟩ ?_
                refine L.pass rfl rfl rfl ⟨_, _, rfl, rfl, rfl⟩ ?_
                refine L.pickT rfl rfl rfl rfl trivial ?_
                exact L.nil fun a w hh => hh.cutK 2 rfl
              refine L.move rfl rfl rfl trivial ?_
              refine' L.or [(false,49),(false,50),(false,51)] [(false,52),(false,53),(false,54),(false,55),(false,56)] (s := 221) (p := 224) rfl rfl (fun hg19 => ?_) (fun hg19 => ?_) ?_
              rotate_left
              · refine L.move rfl rfl rfl ⟨_, rfl, rfl⟩ ?_
                refine L.neq rfl rfl rfl rfl ⟨_, rfl, rfl⟩ ?_
                refine L.pickF rfl rfl rfl rfl trivial ?_
                exact L.nil fun a w hh => hh.cutK 2 rfl
              · refine L.pass rfl rfl rfl ⟨_, _, rfl, rfl, rfl⟩ ?_
                refine L.pass rfl rfl rfl ⟨_, _, rfl, rfl, rfl⟩ ?_
                refine L.pickT rfl rfl rfl rfl trivial ?_
                exact L.nil fun a w hh => hh.cutK 2 rfl
              refine L.move rfl rfl rfl trivial ?_
              refine' L.or [(false,53),(false,54),(false,55),(false,56)] [] (s := 225) (p := 229) rfl rfl (fun hg20 => ?_) (fun hg20 => ?_) ?_
              rotate_left
              · refine L.move rfl rfl rfl ⟨_, rfl, rfl⟩ ?_
                refine L.move rfl rfl rfl ⟨_, rfl, rfl⟩ ?_
                refine L.gtr rfl rfl rfl rfl ⟨_, rfl, rfl⟩ ?_
                refine L.pickF rfl rfl rfl rfl trivial ?_
                exact L.nil fun a w hh => hh.cutK 3 rfl
              · refine L.pass rfl rfl rfl ⟨_, _, rfl, rfl, rfl⟩ ?_
                refine L.pass rfl rfl rfl ⟨_, _, rfl, rfl, rfl⟩ ?_
                refine L.pass rfl rfl rfl ⟨_, _, rfl, rfl, rfl⟩ ?_
                refine L.pickT rfl rfl rfl rfl trivial ?_
                exact L.nil fun a w hh => hh.cutK 3 rfl
              refine L.nil ?_
              refine C.next ?_
              refine C.cond rfl (fun hc5 => ?_) (fun hc5 => ?_)
              · exact absurd hc5 (by rw [hask, haskx, hz, hzx]; simp [hi1, hi2, show (moreD r c).places.length = r.places.length from rfl]; omega)
              · refine C.skip ?_
                refine C.next ?_
                refine C.seq ?_
                refine C.seq ?_
                refine C.region [(false,0)] rfl ?_
                refine L.assign rfl rfl rfl trivial ?_
                refine L.nil ?_
                refine C.next ?_
                refine C.block ?_
                refine C.loopC (γ := Nat) (fun k => r.places.length - k) (fun k => k ≤ r.places.length) (fun k => [(34, .int .i64 (k : Int))]) [(22, _), (20, _), (8, _)] (fun k => [D25, D23, D21, D19, D18, D17, D16, D15, D12, D10, D6, D4, D8, D902, D901, E2, E1, D]) 0 (by omega) ⟨(by first | rfl | (show some (Value.int _ _) = some (Value.int _ _); congr 2; omega)), trivial⟩ ⟨rfl, rfl, rfl, trivial⟩ (ds_same) ?_
                rintro k h1
                refine C.seq ?_
                refine C.seq ?_
                refine C.region [(false,0),(false,1),(false,2),(false,3)] rfl ?_
                refine L.move rfl rfl rfl trivial ?_
                refine L.move rfl rfl rfl trivial ?_
                refine L.len rfl Try.underlying22 rfl hps rfl rfl trivial ?_
                refine L.lss rfl rfl rfl rfl trivial ?_
                refine L.nil ?_
                refine C.next ?_
                refine C.condD rfl (fun hc6 => ?_) (fun hc6 => ?_)
                · simp only [List.length_map, List.length_range] at hc6
                  have hk : k < r.places.length := by omega
                  have hpx : ((List.range r.places.length).map fun i => vd (truths r) (hasAt i))[k]? = some (vd (truths r) (hasAt k)) := by rw [List.getElem?_map, List.getElem?_range hk]; rfl
                  have hqx : ((List.range (moreD r c).places.length).map fun i => vd (truths (moreD r c)) (hasAt i))[k]? = some (vd (truths (moreD r c)) (hasAt k)) := by rw [List.getElem?_map, List.getElem?_range (show k < (moreD r c).places.length from hk)]; rfl
                  refine C.skip ?_
                  refine C.next ?_
                  refine C.seq ?_
                  refine C.block ?_
                  refine C.seq ?_
                  refine C.draw [] 5 [0,1,2,3,4,5,6,7,8,9,10,11,12,13,14,15] [false,true,false,false,false,false,false,true,false,false,true,true,true,true,false,false] [(false,0),(true,1),(false,2),(false,3),(false,4),(false,5),(false,6),(true,7),(false,8),(false,9),(true,10),(true,11),(true,12),(true,13),(false,14),(false,15)] Tf.follows (fun _ _ _ h => np_body (P := Try.prog) (fn := Try.f7) _ _ _ h) (by kernel_rfl) rfl ?_
                  refine L.move rfl rfl rfl trivial ?_
                  refine L.move rfl rfl rfl trivial ?_
                  refine L.indexS rfl Try.underlying22 Tf.s3 rfl hps rfl (by omega) hpx rfl trivial (fun b1 o1 cs1 hr1 hcl1 hA1 => ?_)
                  obtain rfl : cs1 = [.int .i64 _] := hr1
                  refine L.loadD1 rfl (k := 0) Tf.a3 rfl hA1 (by first | simp | assumption) rfl List.not_mem_nil rfl trivial ?_
                  refine L.neq rfl rfl rfl rfl trivial ?_
                  refine L.move rfl rfl rfl trivial ?_
                  refine' L.and [(false,6),(true,7),(false,8),(false,9),(true,10),(true,11),(true,12),(true,13),(false,14),(false,15)] [] (s := 241) (p := 251) rfl rfl (fun hg21 => ?_) (fun hg21 => ?_) ?_
                  rotate_left
                  · refine L.move rfl rfl rfl ⟨_, rfl, rfl⟩ ?_
                    refine L.move rfl rfl rfl ⟨_, rfl, rfl⟩ ?_
                    refine L.indexS rfl Try.underlying22 Tf.s3 rfl hps rfl (by omega) hpx rfl ⟨_, rfl, rfl⟩ (fun b2 o2 cs2 hr2 hcl2 hA2 => ?_)
                    obtain rfl : cs2 = [.int .i64 _] := hr2
                    refine L.loadD1 rfl (k := 0) Tf.a3 rfl hA2 (by first | simp | assumption) rfl List.not_mem_nil rfl ⟨_, rfl, rfl⟩ ?_
                    refine L.move rfl rfl rfl ⟨_, rfl, rfl⟩ ?_
                    refine L.move rfl rfl rfl ⟨_, rfl, rfl⟩ ?_
                    refine L.indexS rfl Try.underlying22 Tf.s3 rfl hqs rfl (by omega) hqx rfl ⟨_, rfl, rfl⟩ (fun b3 o3 cs3 hr3 hcl3 hA3 => ?_)
                    obtain rfl : cs3 = [.int .i64 _] := hr3
                    refine L.loadD1 rfl (k := 0) Tf.a3 rfl hA3 (by first | simp | assumption) rfl List.not_mem_nil rfl ⟨_, rfl, rfl⟩ ?_
                    refine L.neq rfl rfl rfl rfl ⟨_, rfl, rfl⟩ ?_
                    refine L.pickT rfl rfl rfl rfl trivial ?_
                    exact L.nil fun a w hh => hh.cutK 9 rfl
                  · refine L.pass rfl rfl rfl ⟨_, _, rfl, rfl, rfl⟩ ?_
                    refine L.pass rfl rfl rfl ⟨_, _, rfl, rfl, rfl⟩ ?_
                    refine L.pass rfl rfl rfl ⟨_, _, rfl, rfl, rfl⟩ ?_
                    refine L.pass rfl rfl rfl ⟨_, _, rfl, rfl, rfl⟩ ?_
                    refine L.pass rfl rfl rfl ⟨_, _, rfl, rfl, rfl⟩ ?_
                    refine L.pass rfl rfl rfl ⟨_, _, rfl, rfl, rfl⟩ ?_
                    refine L.pass rfl rfl rfl ⟨_, _, rfl, rfl, rfl⟩ ?_
                    refine L.pass rfl rfl rfl ⟨_, _, rfl, rfl, rfl⟩ ?_
                    refine L.pass rfl rfl rfl ⟨_, _, rfl, rfl, rfl⟩ ?_
                    refine L.pickF rfl rfl rfl rfl trivial ?_
                    exact L.nil fun a w hh => hh.cutK 9 rfl
                  refine L.nil ?_
                  refine C.next ?_
                  refine C.cond rfl (fun hc7 => ?_) (fun hc7 => ?_)
                  · exact absurd hc7 (by simp; intro h; exact (vd_sub hnx (fun t ht => more_sub ht) h).symm)
                  · refine C.skip ?_
                    refine C.blockEnd ?_
                    refine C.next ?_
                    refine C.region [(false,0),(false,1),(false,2)] rfl ?_
                    refine L.move rfl rfl rfl trivial ?_
                    refine L.add rfl rfl rfl (by simp only [inK]; omega) rfl trivial ?_
                    refine L.assign rfl rfl rfl trivial ?_
                    refine L.nil ?_
                    exact C.againR 15 (k + 1) (by omega) (by omega) ⟨(by first | rfl | (show some (Value.int _ _) = some (Value.int _ _); congr 2; omega)), trivial⟩ rfl rfl (List.Sublist.refl _) (ds_same)
                · refine C.exit ?_
                  refine C.thenExit ?_
                  refine C.thenExit ?_
                  refine C.blockExit ?_
                  refine C.next ?_
                  refine C.seq ?_
                  refine C.region [(false,0),(false,1)] rfl ?_
                  refine L.callV rfl rfl rfl (fun D28 hD28 => awake_ok _) rfl trivial ?_
                  refine L.assign rfl rfl rfl trivial ?_
                  refine L.nil ?_
                  refine C.next ?_
                  refine C.ret ?_
                  exact leave (vs := [_]) rfl rfl rfl ⟨rfl, trivial⟩ (fun D hD => rfl)
    · refine L.buildSlice rfl Try.underlying23 Tf.s50 Tf.z50 rfl rfl rfl rfl (.cons rfl rfl .nil) rfl trivial (fun b902 D902 hD902 hA902 => ?_)
      skip
      refine L.nil ?_
      refine L.planFin [(true,3),(false,6),(false,7),(false,8)] rfl ?_
      refine L.append (A := []) (ν := []) (B := [(_, _)]) rfl Try.underlying23 rfl rfl Tf.s50 Tf.z50 rfl Tf.i50 rfl rfl rfl Acc.nil (Src.cnts hc) (by simp) (cnt_len _ _ rfl) (by simp) (cntC_cell1 _) (by omega) (Or.inr (by simp)) rfl trivial (fun v7 ν7 ha7 => ?_)
      refine L.append (A := []) (ν := ν7) (B := [(_, _)]) rfl Try.underlying23 rfl rfl Tf.s50 Tf.z50 rfl Tf.i50 rfl rfl rfl ha7 (Src.lit (by assumption)) (by simp) rfl (by simpa using cnt_len r.counts _ rfl) (by simp [cell1]) (by omega) (Or.inl rfl) rfl trivial (fun v8 ν8 ha8 => ?_)
      have hn8 : Acc 50 3 v8 (r.counts.length + 1) (cntC (r.counts ++ [c])) ν8 := by rw [cntC_snoc]; simpa using ha8
      refine L.fieldAddr rfl Tf.f25_1 rfl rfl trivial ?_
      refine L.store rfl rfl rfl hn8.cells1 Tf.s23 (.app (Has.head)) (by simp) rfl hn8.cell1 trivial ?_
      refine L.nil ?_
      refine C.next ?_
      refine C.seq ?_
      refine C.seq ?_
      refine C.freeze (A := []) (B := [(_, _)]) hn8 rfl (fun D8 hD8 hF => ?_)
      have hS8 := hF.cnts (by simp) (by omega)
      have hxr : RowIs D8 (.agg #[pv, v8, .int .i64 r.wrong, .int .i64 r.off]) (moreD r c) := ⟨_, _, rfl, hp.up RI.up (hD8 _ (by simp)), hS8⟩
      refine C.region [(false,0),(false,1),(false,2),(false,3),(false,4),(false,5),(false,6),(false,7)] rfl ?_
      refine L.loadDW rfl Tf.a25 rfl hB1 (by first | simp | assumption) Tf.s25 List.not_mem_nil rfl trivial ?_
      refine L.callV rfl rfl rfl (fun D1 hD1 => ready_ok _ r _ (hr0.up (hD1 _ (by simp)))) rfl trivial ?_
      refine L.not rfl rfl rfl trivial ?_
      refine L.move rfl rfl rfl trivial ?_
      refine' L.or [(false,4),(false,5),(false,6),(false,7)] [] (s := 47) (p := 51) rfl rfl (fun hg1 => ?_) (fun hg1 => ?_) ?_
      rotate_left
      · refine L.loadBW rfl Tf.a25 rfl (List.Mem.head _) Tf.s25 List.not_mem_nil rfl ⟨_, rfl, rfl⟩ ?_
        refine L.callV rfl rfl rfl (fun D2 hD2 => ready_ok _ (moreD r c) _ (hxr.up (hD2 _ (by simp)))) rfl ⟨_, rfl, rfl⟩ ?_
        refine L.not rfl rfl rfl ⟨_, rfl, rfl⟩ ?_
        refine L.pickF rfl rfl rfl rfl trivial ?_
        exact L.nil fun a w hh => hh.cutK 3 rfl
      · refine L.pass rfl rfl rfl ⟨_, _, rfl, rfl, rfl⟩ ?_
        refine L.pass rfl rfl rfl ⟨_, _, rfl, rfl, rfl⟩ ?_
        refine L.pass rfl rfl rfl ⟨_, _, rfl, rfl, rfl⟩ ?_
        refine L.pickT rfl rfl rfl rfl trivial ?_
        exact L.nil fun a w hh => hh.cutK 3 rfl
      refine L.nil ?_
      refine C.next ?_
      refine C.cond rfl (fun hc1 => ?_) (fun hc1 => ?_)
      · refine C.seq ?_
        refine C.region [(false,0),(false,1)] rfl ?_
        refine L.callV rfl rfl rfl (fun D3 hD3 => awake_ok _) rfl trivial ?_
        refine L.assign rfl rfl rfl trivial ?_
        refine L.nil ?_
        refine C.next ?_
        refine C.ret ?_
        refine C.thenRet ?_
        exact leave (vs := [_]) rfl rfl rfl ⟨rfl, trivial⟩ (fun D hD => rfl)
      · obtain ⟨hca, hcb⟩ := or_no hc1
        obtain ⟨hlp, hlc, hok⟩ := ready_len hca
        have hn0 := hok.len0
        have hn9 := hok.len9
        obtain ⟨i, j, hij, hjn, hpt⟩ := parted_ex r a b hok.len0 ha hb
        have hcap := truths_len r hok
        have hask := ask_in hok hij hjn
        obtain ⟨hxp, hxc, hokx⟩ := ready_len hcb
        have haskx := ask_in (r := moreD r c) hokx hij hjn
        have hml := more_least (c := c) hok hokx
        refine C.skip ?_
        refine C.next ?_
        refine C.seq ?_
        refine C.region [(false,0),(false,1),(false,2),(false,3),(false,4),(false,5),(false,6),(false,7)] rfl ?_
        refine L.loadDW rfl Tf.a25 rfl hB1 (by first | simp | assumption) Tf.s25 List.not_mem_nil rfl trivial ?_
        refine L.call rfl rfl rfl (fun D4 hD4 => Row_ok _ r _ (hr0.up (hD4 _ (by simp))) (by omega) (by omega)) rfl trivial (fun v4 D4 hD4 hp4 => ?_)
        have hw := hp4
        refine L.callV rfl rfl rfl (fun D5 hD5 => Least_ok _ r _ (hw.up (hD5 _ (by simp)))) rfl trivial ?_
        refine L.move rfl rfl rfl trivial ?_
        refine L.extract rfl rfl rfl rfl trivial ?_
        refine L.extract rfl rfl rfl rfl trivial ?_
        refine L.assign rfl rfl rfl trivial ?_
        refine L.assign rfl rfl rfl trivial ?_
        refine L.nil ?_
        refine C.next ?_
        refine C.seq ?_
        refine C.region [(false,0),(false,1),(false,2),(false,3),(false,4),(false,5),(false,6),(false,7)] rfl ?_
        refine L.loadBW rfl Tf.a25 rfl (List.Mem.head _) Tf.s25 List.not_mem_nil rfl trivial ?_
        refine L.call rfl rfl rfl (fun D6 hD6 => Row_ok _ (moreD r c) _ (hxr.up (hD6 _ (by simp))) (by omega) (by omega)) rfl trivial (fun v6 D6 hD6 hp6 => ?_)
        have hw := hp6
        refine L.callV rfl rfl rfl (fun D7 hD7 => Least_ok _ (moreD r c) _ (hw.up (hD7 _ (by simp)))) rfl trivial ?_
        refine L.move rfl rfl rfl trivial ?_
        refine L.extract rfl rfl rfl rfl trivial ?_
        refine L.extract rfl rfl rfl rfl trivial ?_
        refine L.assign rfl rfl rfl trivial ?_
        refine L.assign rfl rfl rfl trivial ?_
        refine L.nil ?_
        refine C.next ?_
        refine C.seq ?_
        refine C.seq ?_
        refine C.region [(false,0),(false,1)] rfl ?_
        refine L.move rfl rfl rfl trivial ?_
        refine L.neq rfl rfl rfl rfl trivial ?_
        refine L.nil ?_
        refine C.next ?_
        refine C.condD rfl (fun hc2 => ?_) (fun hc2 => ?_)
        · refine C.seq ?_
          refine C.region [(false,0),(false,1),(false,2),(false,3),(false,4),(false,5),(false,6),(false,7),(false,8),(false,9),(false,10)] rfl ?_
          refine L.move rfl rfl rfl trivial ?_
          refine L.eql rfl rfl rfl rfl trivial ?_
          refine L.move rfl rfl rfl trivial ?_
          refine' L.and [(false,3),(false,4),(false,5),(false,6)] [(false,7),(false,8),(false,9),(false,10)] (s := 69) (p := 73) rfl rfl (fun hg2 => ?_) (fun hg2 => ?_) ?_
          rotate_left
          · refine L.move rfl rfl rfl ⟨_, rfl, rfl⟩ ?_
            refine L.move rfl rfl rfl ⟨_, rfl, rfl⟩ ?_
            refine L.eql rfl rfl rfl rfl ⟨_, rfl, rfl⟩ ?_
            refine L.pickT rfl rfl rfl rfl trivial ?_
            exact L.nil fun a w hh => hh.cutK 3 rfl
          · refine L.pass rfl rfl rfl ⟨_, _, rfl, rfl, rfl⟩ ?_
            refine L.pass rfl rfl rfl ⟨_, _, rfl, rfl, rfl⟩ ?_
            refine L.pass rfl rfl rfl ⟨_, _, rfl, rfl, rfl⟩ ?_
            refine L.pickF rfl rfl rfl rfl trivial ?_
            exact L.nil fun a w hh => hh.cutK 3 rfl
          refine L.move rfl rfl rfl trivial ?_
          refine' L.and [(false,8),(false,9)] [(false,10)] (s := 74) (p := 76) rfl rfl (fun hg3 => ?_) (fun hg3 => ?_) ?_
          rotate_left
          · refine L.callV rfl rfl rfl (fun D8 hD8 => awake_ok _) rfl ⟨_, rfl, rfl⟩ ?_
            refine L.pickT rfl rfl rfl rfl trivial ?_
            exact L.nil fun a w hh => hh.cutK 1 rfl
          · refine L.pass rfl rfl rfl ⟨_, _, rfl, rfl, rfl⟩ ?_
            refine L.pickF rfl rfl rfl rfl trivial ?_
            exact L.nil fun a w hh => hh.cutK 1 rfl
          refine L.assign rfl rfl rfl trivial ?_
          refine L.nil ?_
          refine C.next ?_
          refine C.ret ?_
          refine C.thenRet ?_
          exact leave (vs := [_]) rfl rfl rfl ⟨rfl, trivial⟩ (fun D hD => congrArg Value.bool (by rw [(hml.1 hc2).1, (hml.1 hc2).2]; rfl))
        · refine C.skip ?_
          refine C.next ?_
          refine C.seq ?_
          refine C.seq ?_
          refine C.region [(false,0),(false,1),(false,2),(false,3),(false,4),(false,5),(false,6),(false,7),(false,8),(false,9),(false,10),(false,11),(false,12),(false,13),(false,14)] rfl ?_
          refine L.move rfl rfl rfl trivial ?_
          refine L.neq rfl rfl rfl rfl trivial ?_
          refine L.move rfl rfl rfl trivial ?_
          refine' L.and [(false,3),(false,4),(false,5)] [(false,6),(false,7),(false,8),(false,9),(false,10),(false,11),(false,12),(false,13),(false,14)] (s := 79) (p := 82) rfl rfl (fun hg4 => ?_) (fun hg4 => ?_) ?_
          rotate_left
          · refine L.move rfl rfl rfl ⟨_, rfl, rfl⟩ ?_
            refine L.neq rfl rfl rfl rfl ⟨_, rfl, rfl⟩ ?_
            refine L.pickT rfl rfl rfl rfl trivial ?_
            exact L.nil fun a w hh => hh.cutK 2 rfl
          · refine L.pass rfl rfl rfl ⟨_, _, rfl, rfl, rfl⟩ ?_
            refine L.pass rfl rfl rfl ⟨_, _, rfl, rfl, rfl⟩ ?_
            refine L.pickF rfl rfl rfl rfl trivial ?_
            exact L.nil fun a w hh => hh.cutK 2 rfl
          refine L.move rfl rfl rfl trivial ?_
          refine' L.or [(false,7),(false,8),(false,9),(false,10),(false,11),(false,12),(false,13),(false,14)] [] (s := 83) (p := 91) rfl rfl (fun hg5 => ?_) (fun hg5 => ?_) ?_
          rotate_left
          · refine L.move rfl rfl rfl ⟨_, rfl, rfl⟩ ?_
            refine L.eql rfl rfl rfl rfl ⟨_, rfl, rfl⟩ ?_
            refine L.move rfl rfl rfl ⟨_, rfl, rfl⟩ ?_
            refine' L.and [(false,10),(false,11),(false,12),(false,13)] [(false,14)] (s := 86) (p := 90) rfl rfl (fun hg6 => ?_) (fun hg6 => ?_) ?_
            rotate_left
            · refine L.move rfl rfl rfl ⟨_, rfl, rfl⟩ ?_
              refine L.move rfl rfl rfl ⟨_, rfl, rfl⟩ ?_
              refine L.lss rfl rfl rfl rfl ⟨_, rfl, rfl⟩ ?_
              refine L.pickT rfl rfl rfl rfl ⟨_, rfl, rfl⟩ ?_
              exact L.nil fun a w hh => hh.cutK 3 rfl
            · refine L.pass rfl rfl rfl ⟨_, _, rfl, rfl, rfl⟩ ?_
              refine L.pass rfl rfl rfl ⟨_, _, rfl, rfl, rfl⟩ ?_
              refine L.pass rfl rfl rfl ⟨_, _, rfl, rfl, rfl⟩ ?_
              refine L.pickF rfl rfl rfl rfl ⟨_, rfl, rfl⟩ ?_
              exact L.nil fun a w hh => hh.cutK 3 rfl
            refine L.pickF rfl rfl rfl rfl trivial ?_
            exact L.nil fun a w hh => hh.cutK 4 rfl
          · refine L.pass rfl rfl rfl ⟨_, _, rfl, rfl, rfl⟩ ?_
            refine L.pass rfl rfl rfl ⟨_, _, rfl, rfl, rfl⟩ ?_
            refine L.pass rfl rfl rfl ⟨_, _, rfl, rfl, rfl⟩ ?_
            refine L.pass rfl rfl rfl ⟨_, _, rfl, rfl, rfl⟩ ?_
            refine L.pass rfl rfl rfl ⟨_, _, rfl, rfl, rfl⟩ ?_
            refine L.pass rfl rfl rfl ⟨_, _, rfl, rfl, rfl⟩ ?_
            refine L.pass rfl rfl rfl ⟨_, _, rfl, rfl, rfl⟩ ?_
            refine L.pickT rfl rfl rfl rfl trivial ?_
            exact L.nil fun a w hh => hh.cutK 7 rfl
          refine L.nil ?_
          refine C.next ?_
          refine C.cond rfl (fun hc3 => ?_) (fun hc3 => ?_)
          · exact absurd hc3 (by have h := hml.2 (by omega); rcases h with h | h <;> simp [h.1]; omega)
          · refine C.skip ?_
            refine C.next ?_
            refine C.seq ?_
            refine C.region [(false,0),(false,1),(false,2),(false,3),(false,4),(false,5),(false,6),(false,7),(false,8)] rfl ?_
            refine L.loadDW rfl Tf.a25 rfl hB1 (by first | simp | assumption) Tf.s25 List.not_mem_nil rfl trivial ?_
            refine L.move rfl rfl rfl trivial ?_
            refine L.move rfl rfl rfl trivial ?_
            refine L.callV rfl rfl rfl (fun D9 hD9 => hpt _ _ (hr0.up (hD9 _ (by simp)))) rfl trivial ?_
            refine L.move rfl rfl rfl trivial ?_
            refine L.extract rfl rfl rfl rfl trivial ?_
            refine L.extract rfl rfl rfl rfl trivial ?_
            refine L.assign rfl rfl rfl trivial ?_
            refine L.assign rfl rfl rfl trivial ?_
            refine L.nil ?_
            refine C.next ?_
            refine C.seq ?_
            refine C.region [(false,0),(false,1),(false,2),(false,3),(false,4),(false,5),(false,6),(false,7),(false,8),(false,9),(false,10)] rfl ?_
            refine L.loadDW rfl Tf.a25 rfl hB1 (by first | simp | assumption) Tf.s25 List.not_mem_nil rfl trivial ?_
            refine L.call rfl rfl rfl (fun D10 hD10 => Row_ok _ r _ (hr0.up (hD10 _ (by simp))) (by omega) (by omega)) rfl trivial (fun v10 D10 hD10 hp10 => ?_)
            have hw := hp10
            refine L.move rfl rfl rfl trivial ?_
            refine L.move rfl rfl rfl trivial ?_
            refine L.callV rfl rfl rfl (fun D11 hD11 => Chairs2_ok _ r _ _ _ (hw.up (hD11 _ (by simp)))) rfl trivial ?_
            refine L.move rfl rfl rfl trivial ?_
            refine L.extract rfl rfl rfl rfl trivial ?_
            refine L.extract rfl rfl rfl rfl trivial ?_
            refine L.alloc rfl Tf.z29 rfl rfl trivial (fun q4 => ?_)
            refine L.storeW rfl rfl rfl rfl Tf.s29 (by first | rfl | (simp only [ints_length, *]; done) | (simp only [ints_length, *]; rfl) | (simp only [ints_length, *]; omega)) (by first | rfl | (simp only [ints_length, *]; done) | (simp only [ints_length, *]; rfl) | (simp only [ints_length, *]; omega)) (Has.head) (by first | exact ints_cell1 _ | simp [cell1]) trivial ?_
            refine L.assign rfl rfl rfl trivial ?_
            refine L.nil ?_
            refine C.next ?_
            refine C.seq ?_
            refine C.region [(false,0),(false,1),(false,2),(false,3),(false,4),(false,5),(false,6),(false,7),(false,8),(false,9),(false,10)] rfl ?_
            refine L.loadBW rfl Tf.a25 rfl (List.Mem.tail _ (List.Mem.head _)) Tf.s25 List.not_mem_nil rfl trivial ?_
            refine L.call rfl rfl rfl (fun D12 hD12 => Row_ok _ (moreD r c) _ (hxr.up (hD12 _ (by simp))) (by omega) (by omega)) rfl trivial (fun v12 D12 hD12 hp12 => ?_)
            have hw := hp12
            refine L.move rfl rfl rfl trivial ?_
            refine L.move rfl rfl rfl trivial ?_
            refine L.callV rfl rfl rfl (fun D13 hD13 => Chairs2_ok _ (moreD r c) _ _ _ (hw.up (hD13 _ (by simp)))) rfl trivial ?_
            refine L.move rfl rfl rfl trivial ?_
            refine L.extract rfl rfl rfl rfl trivial ?_
            refine L.extract rfl rfl rfl rfl trivial ?_
            refine L.alloc rfl Tf.z29 rfl rfl trivial (fun q5 => ?_)
            refine L.storeW rfl rfl rfl rfl Tf.s29 (by first | rfl | (simp only [ints_length, *]; done) | (simp only [ints_length, *]; rfl) | (simp only [ints_length, *]; omega)) (by first | rfl | (simp only [ints_length, *]; done) | (simp only [ints_length, *]; rfl) | (simp only [ints_length, *]; omega)) (Has.head) (by first | exact ints_cell1 _ | simp [cell1]) trivial ?_
            refine L.assign rfl rfl rfl trivial ?_
            refine L.nil ?_
            refine C.next ?_
            refine C.seq ?_
            refine C.seq ?_
            refine C.region [(false,0),(false,1)] rfl ?_
            refine L.move rfl rfl rfl trivial ?_
            refine L.neq rfl rfl rfl rfl trivial ?_
            refine L.nil ?_
            refine C.next ?_
            refine C.condD rfl (fun hc4 => ?_) (fun hc4 => ?_)
            · refine C.seq ?_
              refine C.region [(false,0),(false,1),(false,2),(false,3),(false,4),(false,5),(false,6),(false,7),(false,8),(false,9),(false,10),(false,11),(false,12),(false,13),(false,14)] rfl ?_
              refine L.move rfl rfl rfl trivial ?_
              refine L.eql rfl rfl rfl rfl trivial ?_
              refine L.move rfl rfl rfl trivial ?_
              refine' L.and [(false,3),(false,4),(false,5),(false,6),(false,7),(false,8),(false,9),(false,10)] [(false,11),(false,12),(false,13),(false,14)] (s := 119) (p := 127) rfl rfl (fun hg7 => ?_) (fun hg7 => ?_) ?_
              rotate_left
              · refine L.move rfl rfl rfl ⟨_, rfl, rfl⟩ ?_
                refine L.eql rfl rfl rfl rfl ⟨_, rfl, rfl⟩ ?_
                refine L.move rfl rfl rfl ⟨_, rfl, rfl⟩ ?_
                refine' L.or [(false,6),(false,7),(false,8),(false,9)] [(false,10)] (s := 122) (p := 126) rfl rfl (fun hg8 => ?_) (fun hg8 => ?_) ?_
                rotate_left
                · refine L.move rfl rfl rfl ⟨_, rfl, rfl⟩ ?_
                  refine L.move rfl rfl rfl ⟨_, rfl, rfl⟩ ?_
                  refine L.eql rfl rfl rfl rfl ⟨_, rfl, rfl⟩ ?_
                  refine L.pickF rfl rfl rfl rfl ⟨_, rfl, rfl⟩ ?_
                  exact L.nil fun a w hh => hh.cutK 3 rfl
                · refine L.pass rfl rfl rfl ⟨_, _, rfl, rfl, rfl⟩ ?_
                  refine L.pass rfl rfl rfl ⟨_, _, rfl, rfl, rfl⟩ ?_
                  refine L.pass rfl rfl rfl ⟨_, _, rfl, rfl, rfl⟩ ?_
                  refine L.pickT rfl rfl rfl rfl ⟨_, rfl, rfl⟩ ?_
                  exact L.nil fun a w hh => hh.cutK 3 rfl
                refine L.pickT rfl rfl rfl rfl trivial ?_
                exact L.nil fun a w hh => hh.cutK 4 rfl
              · refine L.pass rfl rfl rfl ⟨_, _, rfl, rfl, rfl⟩ ?_
                refine L.pass rfl rfl rfl ⟨_, _, rfl, rfl, rfl⟩ ?_
                refine L.pass rfl rfl rfl ⟨_, _, rfl, rfl, rfl⟩ ?_
                refine L.pass rfl rfl rfl ⟨_, _, rfl, rfl, rfl⟩ ?_
                refine L.pass rfl rfl rfl ⟨_, _, rfl, rfl, rfl⟩ ?_
                refine L.pass rfl rfl rfl ⟨_, _, rfl, rfl, rfl⟩ ?_
                refine L.pass rfl rfl rfl ⟨_, _, rfl, rfl, rfl⟩ ?_
                refine L.pickF rfl rfl rfl rfl trivial ?_
                exact L.nil fun a w hh => hh.cutK 7 rfl
              refine L.move rfl rfl rfl trivial ?_
              refine' L.and [(false,12),(false,13)] [(false,14)] (s := 128) (p := 130) rfl rfl (fun hg9 => ?_) (fun hg9 => ?_) ?_
              rotate_left
              · refine L.callV rfl rfl rfl (fun D14 hD14 => awake_ok _) rfl ⟨_, rfl, rfl⟩ ?_
                refine L.pickT rfl rfl rfl rfl trivial ?_
                exact L.nil fun a w hh => hh.cutK 1 rfl
              · refine L.pass rfl rfl rfl ⟨_, _, rfl, rfl, rfl⟩ ?_
                refine L.pickF rfl rfl rfl rfl trivial ?_
                exact L.nil fun a w hh => hh.cutK 1 rfl
              refine L.assign rfl rfl rfl trivial ?_
              refine L.nil ?_
              refine C.next ?_
              refine C.ret ?_
              refine C.thenRet ?_
              exact leave (vs := [_]) rfl rfl rfl ⟨rfl, trivial⟩ (fun D hD => congrArg Value.bool (more_none hask haskx hok hokx hc4))
            · have hzx : askErr (moreD r c) true = 0 := by rw [haskx] at hc4; omega
              obtain ⟨hz, hnx, hi1, hi2, hlk, hnd⟩ := more_all (i := i) (j := j) hok hokx hij hjn hzx
              refine C.skip ?_
              refine C.next ?_
              refine C.seq ?_
              refine C.region [(false,0),(false,1),(false,2),(false,3),(false,4),(false,5),(false,6),(false,7)] rfl ?_
              refine L.loadDW rfl Tf.a25 rfl hB1 (by first | simp | assumption) Tf.s25 List.not_mem_nil rfl trivial ?_
              refine L.call rfl rfl rfl (fun D15 hD15 => Row_ok _ r _ (hr0.up (hD15 _ (by simp))) (by omega) (by omega)) rfl trivial (fun v15 D15 hD15 hp15 => ?_)
              have hw := hp15
              refine L.call rfl rfl rfl (fun D16 hD16 => Places_ok _ r _ (hw.up (hD16 _ (by simp)))) rfl trivial (fun v16 D16 hD16 hp16 => ?_)
              obtain ⟨plv, rfl, hps⟩ := hp16
              refine L.move rfl rfl rfl trivial ?_
              refine L.extract rfl rfl rfl rfl trivial ?_
              refine L.extract rfl rfl rfl rfl trivial ?_
              refine L.assign rfl rfl rfl trivial ?_
              refine L.assign rfl rfl rfl trivial ?_
              refine L.nil ?_
              refine C.next ?_
              refine C.seq ?_
              refine C.region [(false,0),(false,1),(false,2),(false,3),(false,4),(false,5),(false,6),(false,7)] rfl ?_
              refine L.loadBW rfl Tf.a25 rfl (List.Mem.tail _ (List.Mem.tail _ (List.Mem.head _))) Tf.s25 List.not_mem_nil rfl trivial ?_
              refine L.call rfl rfl rfl (fun D17 hD17 => Row_ok _ (moreD r c) _ (hxr.up (hD17 _ (by simp))) (by omega) (by omega)) rfl trivial (fun v17 D17 hD17 hp17 => ?_)
              have hw := hp17
              refine L.call rfl rfl rfl (fun D18 hD18 => Places_ok _ (moreD r c) _ (hw.up (hD18 _ (by simp)))) rfl trivial (fun v18 D18 hD18 hp18 => ?_)
              obtain ⟨qlv, rfl, hqs⟩ := hp18
              refine L.move rfl rfl rfl trivial ?_
              refine L.extract rfl rfl rfl rfl trivial ?_
              refine L.extract rfl rfl rfl rfl trivial ?_
              refine L.assign rfl rfl rfl trivial ?_
              refine L.assign rfl rfl rfl trivial ?_
              refine L.nil ?_
              refine C.next ?_
              refine C.seq ?_
              refine C.region [(false,0),(false,1),(false,2),(false,3),(false,4),(false,5),(false,6),(false,7),(false,8),(false,9)] rfl ?_
              refine L.loadDW rfl Tf.a25 rfl hB1 (by first | simp | assumption) Tf.s25 List.not_mem_nil rfl trivial ?_
              refine L.call rfl rfl rfl (fun D19 hD19 => Row_ok _ r _ (hr0.up (hD19 _ (by simp))) (by omega) (by omega)) rfl trivial (fun v19 D19 hD19 hp19 => ?_)
              have hw := hp19
              refine L.callV rfl rfl rfl (fun D20 hD20 => Look_ok _ r _ (hw.up (hD20 _ (by simp)))) rfl trivial ?_
              refine L.move rfl rfl rfl trivial ?_
              refine L.extract rfl rfl rfl rfl trivial ?_
              refine L.extract rfl rfl rfl rfl trivial ?_
              refine L.extract rfl rfl rfl rfl trivial ?_
              refine L.assign rfl rfl rfl trivial ?_
              refine L.assign rfl rfl rfl trivial ?_
              refine L.assign rfl rfl rfl trivial ?_
              refine L.nil ?_
              refine C.next ?_
              refine C.seq ?_
              refine C.region [(false,0),(false,1),(false,2),(false,3),(false,4),(false,5),(false,6),(false,7),(false,8),(false,9)] rfl ?_
              refine L.loadBW rfl Tf.a25 rfl (List.Mem.tail _ (List.Mem.tail _ (List.Mem.head _))) Tf.s25 List.not_mem_nil rfl trivial ?_
              refine L.call rfl rfl rfl (fun D21 hD21 => Row_ok _ (moreD r c) _ (hxr.up (hD21 _ (by simp))) (by omega) (by omega)) rfl trivial (fun v21 D21 hD21 hp21 => ?_)
              have hw := hp21
              refine L.callV rfl rfl rfl (fun D22 hD22 => Look_ok _ (moreD r c) _ (hw.up (hD22 _ (by simp)))) rfl trivial ?_
              refine L.move rfl rfl rfl trivial ?_
              refine L.extract rfl rfl rfl rfl trivial ?_
              refine L.extract rfl rfl rfl rfl trivial ?_
              refine L.extract rfl rfl rfl rfl trivial ?_
              refine L.assign rfl rfl rfl trivial ?_
              refine L.assign rfl rfl rfl trivial ?_
              refine L.assign rfl rfl rfl trivial ?_
              refine L.nil ?_
              refine C.next ?_
              refine C.seq ?_
              refine C.region [(false,0),(false,1),(false,2),(false,3),(false,4),(false,5),(false,6),(false,7),(false,8),(false,9)] rfl ?_
              refine L.loadDW rfl Tf.a25 rfl hB1 (by first | simp | assumption) Tf.s25 List.not_mem_nil rfl trivial ?_
              refine L.call rfl rfl rfl (fun D23 hD23 => Row_ok _ r _ (hr0.up (hD23 _ (by simp))) (by omega) (by omega)) rfl trivial (fun v23 D23 hD23 hp23 => ?_)
              have hw := hp23
              refine L.move rfl rfl rfl trivial ?_
              refine L.move rfl rfl rfl trivial ?_
              refine L.callV rfl rfl rfl (fun D24 hD24 => Looks_ok _ r _ _ _ (hw.up (hD24 _ (by simp)))) rfl trivial ?_
              refine L.move rfl rfl rfl trivial ?_
              refine L.extract rfl rfl rfl rfl trivial ?_
              refine L.extract rfl rfl rfl rfl trivial ?_
              refine L.assign rfl rfl rfl trivial ?_
              refine L.assign rfl rfl rfl trivial ?_
              refine L.nil ?_
              refine C.next ?_
              refine C.seq ?_
              refine C.region [(false,0),(false,1),(false,2),(false,3),(false,4),(false,5),(false,6),(false,7),(false,8),(false,9)] rfl ?_
              refine L.loadBW rfl Tf.a25 rfl (List.Mem.tail _ (List.Mem.tail _ (List.Mem.head _))) Tf.s25 List.not_mem_nil rfl trivial ?_
              refine L.call rfl rfl rfl (fun D25 hD25 => Row_ok _ (moreD r c) _ (hxr.up (hD25 _ (by simp))) (by omega) (by omega)) rfl trivial (fun v25 D25 hD25 hp25 => ?_)
              have hw := hp25
              refine L.move rfl rfl rfl trivial ?_
              refine L.move rfl rfl rfl trivial ?_
              refine L.callV rfl rfl rfl (fun D26 hD26 => Looks_ok _ (moreD r c) _ _ _ (hw.up (hD26 _ (by simp)))) rfl trivial ?_
              refine L.move rfl rfl rfl trivial ?_
              refine L.extract rfl rfl rfl rfl trivial ?_
              refine L.extract rfl rfl rfl rfl trivial ?_
              refine L.assign rfl rfl rfl trivial ?_
              refine L.assign rfl rfl rfl trivial ?_
              refine L.nil ?_
              refine C.next ?_
              refine C.seq ?_
              refine C.seq ?_
              rw [if_pos hz] at hps
              rw [if_pos hzx] at hqs
              generalize hLR : (if askErr r true = 0 then (lookK (truths r) ((truths r).length + 1) r.places.length).2 else 0) = LR at hlk ⊢
              generalize hLX : (if askErr (moreD r c) true = 0 then (lookK (truths (moreD r c)) ((truths (moreD r c)).length + 1) (moreD r c).places.length).2 else 0) = LX at hlk ⊢
              generalize hNR : (if askErr r (partOk r (i : Int) (j : Int)) = 0 then needN r.places.length (i : Int).toNat (j : Int).toNat (truths r) else 0) = NR at hnd ⊢
              generalize hNX : (if askErr (moreD r c) (partOk (moreD r c) (i : Int) (j : Int)) = 0 then needN (moreD r c).places.length (i : Int).toNat (j : Int).toNat (truths (moreD r c)) else 0) = NX at hnd ⊢
              refine C.region [(false,0),(false,1),(false,2),(false,3),(false,4),(false,5),(false,6),(false,7),(false,8),(false,9),(false,10),(false,11),(false,12),(false,13),(false,14),(false,15),(false,16),(false,17),(false,18),(false,19),(false,20),(false,21),(false,22),(false,23),(false,24),(false,25),(false,26),(false,27),(false,28),(false,29),(false,30),(false,31),(false,32),(false,33),(false,34),(false,35),(false,36),(false,37),(false,38),(false,39),(false,40),(false,41),(false,42),(false,43),(false,44),(false,45),(false,46),(false,47),(false,48),(false,49),(false,50),(false,51),(false,52),(false,53),(false,54),(false,55),(false,56)] rfl ?_
              refine L.move rfl rfl rfl trivial ?_
              refine L.neq rfl rfl rfl rfl trivial ?_
              refine L.move rfl rfl rfl trivial ?_
              refine' L.or [(false,3),(false,4),(false,5),(false,6),(false,7)] [(false,8),(false,9),(false,10),(false,11),(false,12),(false,13),(false,14),(false,15),(false,16),(false,17),(false,18),(false,19),(false,20),(false,21),(false,22),(false,23),(false,24),(false,25),(false,26),(false,27),(false,28),(false,29),(false,30),(false,31),(false,32),(false,33),(false,34),(false,35),(false,36),(false,37),(false,38),(false,39),(false,40),(false,41),(false,42),(false,43),(false,44),(false,45),(false,46),(false,47),(false,48),(false,49),(false,50),(false,51),(false,52),(false,53),(false,54),(false,55),(false,56)] (s := 175) (p := 180) rfl rfl (fun hg10 => ?_) (fun hg10 => ?_) ?_
              rotate_left
              · refine L.loadBW rfl Tf.a29 rfl (List.Mem.head _) Tf.s29 List.not_mem_nil rfl ⟨_, rfl, rfl⟩ ?_
                refine L.loadBW rfl Tf.a29 rfl (List.Mem.tail _ (List.Mem.head _)) Tf.s29 List.not_mem_nil rfl ⟨_, rfl, rfl⟩ ?_
                refine L.callV rfl rfl rfl (fun D27 hD27 => inside2_ok (chV (moreD r c) i j) (chV r i j) _) rfl ⟨_, rfl, rfl⟩ ?_
                refine L.not rfl rfl rfl ⟨_, rfl, rfl⟩ ?_
                refine L.pickF rfl rfl rfl rfl trivial ?_
                exact L.nil fun a w hh => hh.cutK 4 rfl
              · refine L.pass rfl rfl rfl ⟨_, _, rfl, rfl, rfl⟩ ?_
                refine L.pass rfl rfl rfl ⟨_, _, rfl, rfl, rfl⟩ ?_
                refine L.pass rfl rfl rfl ⟨_, _, rfl, rfl, rfl⟩ ?_
                refine L.pass rfl rfl rfl ⟨_, _, rfl, rfl, rfl⟩ ?_
                refine L.pickT rfl rfl rfl rfl trivial ?_
                exact L.nil fun a w hh => hh.cutK 4 rfl
              refine L.move rfl rfl rfl trivial ?_
              refine' L.or [(false,9),(false,10),(false,11)] [(false,12),(false,13),(false,14),(false,15),(false,16),(false,17),(false,18),(false,19),(false,20),(false,21),(false,22),(false,23),(false,24),(false,25),(false,26),(false,27),(false,28),(false,29),(false,30),(false,31),(false,32),(false,33),(false,34),(false,35),(false,36),(false,37),(false,38),(false,39),(false,40),(false,41),(false,42),(false,43),(false,44),(false,45),(false,46),(false,47),(false,48),(false,49),(false,50),(false,51),(false,52),(false,53),(false,54),(false,55),(false,56)] (s := 181) (p := 184) rfl rfl (fun hg11 => ?_) (fun hg11 => ?_) ?_
              rotate_left
              · refine L.move rfl rfl rfl ⟨_, rfl, rfl⟩ ?_
                refine L.neq rfl rfl rfl rfl ⟨_, rfl, rfl⟩ ?_
                refine L.pickF rfl rfl rfl rfl trivial ?_
                exact L.nil fun a w hh => hh.cutK 2 rfl
              · refine L.pass rfl rfl rfl ⟨_, _, rfl, rfl, rfl⟩ ?_
                refine L.pass rfl rfl rfl ⟨_, _, rfl, rfl, rfl⟩ ?_
                refine L.pickT rfl rfl rfl rfl trivial ?_
                exact L.nil fun a w hh => hh.cutK 2 rfl
              refine L.move rfl rfl rfl trivial ?_
              refine' L.or [(false,13),(false,14),(false,15)] [(false,16),(false,17),(false,18),(false,19),(false,20),(false,21),(false,22),(false,23),(false,24),(false,25),(false,26),(false,27),(false,28),(false,29),(false,30),(false,31),(false,32),(false,33),(false,34),(false,35),(false,36),(false,37),(false,38),(false,39),(false,40),(false,41),(false,42),(false,43),(false,44),(false,45),(false,46),(false,47),(false,48),(false,49),(false,50),(false,51),(false,52),(false,53),(false,54),(false,55),(false,56)] (s := 185) (p := 188) rfl rfl (fun hg12 => ?_) (fun hg12 => ?_) ?_
              rotate_left
              · refine L.move rfl rfl rfl ⟨_, rfl, rfl⟩ ?_
                refine L.neq rfl rfl rfl rfl ⟨_, rfl, rfl⟩ ?_
                refine L.pickF rfl rfl rfl rfl trivial ?_
                exact L.nil fun a w hh => hh.cutK 2 rfl
              · refine L.pass rfl rfl rfl ⟨_, _, rfl, rfl, rfl⟩ ?_
                refine L.pass rfl rfl rfl ⟨_, _, rfl, rfl, rfl⟩ ?_
                refine L.pickT rfl rfl rfl rfl trivial ?_
                exact L.nil fun a w hh => hh.cutK 2 rfl
              refine L.move rfl rfl rfl trivial ?_
              refine' L.or [(false,17),(false,18),(false,19),(false,20),(false,21),(false,22),(false,23)] [(false,24),(false,25),(false,26),(false,27),(false,28),(false,29),(false,30),(false,31),(false,32),(false,33),(false,34),(false,35),(false,36),(false,37),(false,38),(false,39),(false,40),(false,41),(false,42),(false,43),(false,44),(false,45),(false,46),(false,47),(false,48),(false,49),(false,50),(false,51),(false,52),(false,53),(false,54),(false,55),(false,56)] (s := 189) (p := 196) rfl rfl (fun hg13 => ?_) (fun hg13 => ?_) ?_
              rotate_left
              · refine L.move rfl rfl rfl ⟨_, rfl, rfl⟩ ?_
                refine L.len rfl Try.underlying22 rfl hps rfl rfl ⟨_, rfl, rfl⟩ ?_
                refine L.fieldAddr rfl Tf.f25_0 rfl rfl ⟨_, rfl, rfl⟩ ?_
                refine L.loadD1 rfl (k := 0) Tf.a22 rfl hB1 (by first | simp | assumption) rfl List.not_mem_nil rfl ⟨_, rfl, rfl⟩ ?_
                refine L.len rfl Try.underlying22 rfl hp rfl rfl ⟨_, rfl, rfl⟩ ?_
                refine L.neq rfl rfl rfl rfl ⟨_, rfl, rfl⟩ ?_
                refine L.pickF rfl rfl rfl rfl trivial ?_
                exact L.nil fun a w hh => hh.cutK 6 rfl
              · refine L.pass rfl rfl rfl ⟨_, _, rfl, rfl, rfl⟩ ?_
                refine L.pass rfl rfl rfl ⟨_, _, rfl, rfl, rfl⟩ ?_
                refine L.pass rfl rfl rfl ⟨_, _, rfl, rfl, rfl⟩ ?_
                refine L.pass rfl rfl rfl ⟨_, _, rfl, rfl, rfl⟩ ?_
                refine L.pass rfl rfl rfl ⟨_, _, rfl, rfl, rfl⟩ ?_
                refine L.pass rfl rfl rfl ⟨_, _, rfl, rfl, rfl⟩ ?_
                refine L.pickT rfl rfl rfl rfl trivial ?_
                exact L.nil fun a w hh => hh.cutK 6 rfl
              refine L.move rfl rfl rfl trivial ?_
              refine' L.or [(false,25),(false,26),(false,27),(false,28),(false,29),(false,30)] [(false,31),(false,32),(false,33),(false,34),(false,35),(false,36),(false,37),(false,38),(false,39),(false,40),(false,41),(false,42),(false,43),(false,44),(false,45),(false,46),(false,47),(false,48),(false,49),(false,50),(false,51),(false,52),(false,53),(false,54),(false,55),(false,56)] (s := 197) (p := 203) rfl rfl (fun hg14 => ?_) (fun hg14 => ?_) ?_
              rotate_left
              · refine L.move rfl rfl rfl ⟨_, rfl, rfl⟩ ?_
                refine L.len rfl Try.underlying22 rfl hqs rfl rfl ⟨_, rfl, rfl⟩ ?_
                refine L.move rfl rfl rfl ⟨_, rfl, rfl⟩ ?_
                refine L.len rfl Try.underlying22 rfl hps rfl rfl ⟨_, rfl, rfl⟩ ?_
                refine L.neq rfl rfl rfl rfl ⟨_, rfl, rfl⟩ ?_
                refine L.pickF rfl rfl rfl rfl trivial ?_
                exact L.nil fun a w hh => hh.cutK 5 rfl
              · refine L.pass rfl rfl rfl ⟨_, _, rfl, rfl, rfl⟩ ?_
                refine L.pass rfl rfl rfl ⟨_, _, rfl, rfl, rfl⟩ ?_
                refine L.pass rfl rfl rfl ⟨_, _, rfl, rfl, rfl⟩ ?_
                refine L.pass rfl rfl rfl ⟨_, _, rfl, rfl, rfl⟩ ?_
                refine L.pass rfl rfl rfl ⟨_, _, rfl, rfl, rfl⟩ ?_
                refine L.pickT rfl rfl rfl rfl trivial ?_
                exact L.nil fun a w hh => hh.cutK 5 rfl
              refine L.move rfl rfl rfl trivial ?_
              refine' L.or [(false,32),(false,33),(false,34)] [(false,35),(false,36),(false,37),(false,38),(false,39),(false,40),(false,41),(false,42),(false,43),(false,44),(false,45),(false,46),(false,47),(false,48),(false,49),(false,50),(false,51),(false,52),(false,53),(false,54),(false,55),(false,56)] (s := 204) (p := 207) rfl rfl (fun hg15 => ?_) (fun hg15 => ?_) ?_
              rotate_left
              · refine L.move rfl rfl rfl ⟨_, rfl, rfl⟩ ?_
                refine L.neq rfl rfl rfl rfl ⟨_, rfl, rfl⟩ ?_
                refine L.pickF rfl rfl rfl rfl trivial ?_
                exact L.nil fun a w hh => hh.cutK 2 rfl
              · refine L.pass rfl rfl rfl ⟨_, _, rfl, rfl, rfl⟩ ?_
                refine L.pass rfl rfl rfl ⟨_, _, rfl, rfl, rfl⟩ ?_
                refine L.pickT rfl rfl rfl rfl trivial ?_
                exact L.nil fun a w hh => hh.cutK 2 rfl
              refine L.move rfl rfl rfl trivial ?_
              refine' L.or [(false,36),(false,37),(false,38)] [(false,39),(false,40),(false,41),(false,42),(false,43),(false,44),(false,45),(false,46),(false,47),(false,48),(false,49),(false,50),(false,51),(false,52),(false,53),(false,54),(false,55),(false,56)] (s := 208) (p := 211) rfl rfl (fun hg16 => ?_) (fun hg16 => ?_) ?_
              rotate_left
              · refine L.move rfl rfl rfl ⟨_, rfl, rfl⟩ ?_
                refine L.neq rfl rfl rfl rfl ⟨_, rfl, rfl⟩ ?_
                refine L.pickF rfl rfl rfl rfl trivial ?_
                exact L.nil fun a w hh => hh.cutK 2 rfl
              · refine L.pass rfl rfl rfl ⟨_, _, rfl, rfl, rfl⟩ ?_
                refine L.pass rfl rfl rfl ⟨_, _, rfl, rfl, rfl⟩ ?_
                refine L.pickT rfl rfl rfl rfl trivial ?_
                exact L.nil fun a w hh => hh.cutK 2 rfl
              refine L.move rfl rfl rfl trivial ?_
              refine' L.or [(false,40),(false,41),(false,42),(false,43)] [(false,44),(false,45),(false,46),(false,47),(false,48),(false,49),(false,50),(false,51),(false,52),(false,53),(false,54),(false,55),(false,56)] (s := 212) (p := 216) rfl rfl (fun hg17 => ?_) (fun hg17 => ?_) ?_
              rotate_left
              · refine L.move rfl rfl rfl ⟨_, rfl, rfl⟩ ?_
                refine L.move rfl rfl rfl ⟨_, rfl, rfl⟩ ?_
                refine L.gtr rfl rfl rfl rfl ⟨_, rfl, rfl⟩ ?_
                refine L.pickF rfl rfl rfl rfl trivial ?_
                exact L.nil fun a w hh => hh.cutK 3 rfl
              · refine L.pass rfl rfl rfl ⟨_, _, rfl, rfl, rfl⟩ ?_
                refine L.pass rfl rfl rfl ⟨_, _, rfl, rfl, rfl⟩ ?_
                refine L.pass rfl rfl rfl ⟨_, _, rfl, rfl, rfl⟩ ?_
                refine L.pickT rfl rfl rfl rfl trivial ?_
                exact L.nil fun a w hh => hh.cutK 3 rfl
              refine L.move rfl rfl rfl trivial ?_
              refine' L.or [(false,45),(false,46),(false,47)] [(false,48),(false,49),(false,50),(false,51),(false,52),(false,53),(false,54),(false,55),(false,56)] (s := 217) (p := 220) rfl rfl (fun hg18 => ?_) (fun hg18 => ?_) ?_
              rotate_left
              · refine L.move rfl rfl rfl ⟨_, rfl, rfl⟩ ?_
                refine L.neq rfl rfl rfl rfl ⟨_, rfl, rfl⟩ ?_
                refine L.pickF rfl rfl rfl rfl trivial ?_
                exact L.nil fun a w hh => hh.cutK 2 rfl
              · refine L.pass rfl rfl rfl ⟨_, _, rfl, rfl, rfl⟩ ?_
                refine L.pass rfl rfl rfl ⟨_, _, rfl, rfl, rfl⟩ ?_
                refine L.pickT rfl rfl rfl rfl trivial ?_
                exact L.nil fun a w hh => hh.cutK 2 rfl
              refine L.move rfl rfl rfl trivial ?_
              refine' L.or [(false,49),(false,50),(false,51)] [(false,52),(false,53),(false,54),(false,55),(false,56)] (s := 221) (p := 224) rfl rfl (fun hg19 => ?_) (fun hg19 => ?_) ?_
              rotate_left
              · refine L.move rfl rfl rfl ⟨_, rfl, rfl⟩ ?_
                refine L.neq rfl rfl rfl rfl ⟨_, rfl, rfl⟩ ?_
                refine L.pickF rfl rfl rfl rfl trivial ?_
                exact L.nil fun a w hh => hh.cutK 2 rfl
              · refine L.pass rfl rfl rfl ⟨_, _, rfl, rfl, rfl⟩ ?_
                refine L.pass rfl rfl rfl ⟨_, _, rfl, rfl, rfl⟩ ?_
                refine L.pickT rfl rfl rfl rfl trivial ?_
                exact L.nil fun a w hh => hh.cutK 2 rfl
              refine L.move rfl rfl rfl trivial ?_
              refine' L.or [(false,53),(false,54),(false,55),(false,56)] [] (s := 225) (p := 229) rfl rfl (fun hg20 => ?_) (fun hg20 => ?_) ?_
              rotate_left
              · refine L.move rfl rfl rfl ⟨_, rfl, rfl⟩ ?_
                refine L.move rfl rfl rfl ⟨_, rfl, rfl⟩ ?_
                refine L.gtr rfl rfl rfl rfl ⟨_, rfl, rfl⟩ ?_
                refine L.pickF rfl rfl rfl rfl trivial ?_
                exact L.nil fun a w hh => hh.cutK 3 rfl
              · refine L.pass rfl rfl rfl ⟨_, _, rfl, rfl, rfl⟩ ?_
                refine L.pass rfl rfl rfl ⟨_, _, rfl, rfl, rfl⟩ ?_
                refine L.pass rfl rfl rfl ⟨_, _, rfl, rfl, rfl⟩ ?_
                refine L.pickT rfl rfl rfl rfl trivial ?_
                exact L.nil fun a w hh => hh.cutK 3 rfl
              refine L.nil ?_
              refine C.next ?_
              refine C.cond rfl (fun hc5 => ?_) (fun hc5 => ?_)
              · exact absurd hc5 (by rw [hask, haskx, hz, hzx]; simp [hi1, hi2, show (moreD r c).places.length = r.places.length from rfl]; omega)
              · refine C.skip ?_
                refine C.next ?_
                refine C.seq ?_
                refine C.seq ?_
                refine C.region [(false,0)] rfl ?_
                refine L.assign rfl rfl rfl trivial ?_
                refine L.nil ?_
                refine C.next ?_
                refine C.block ?_
                refine C.loopC (γ := Nat) (fun k => r.places.length - k) (fun k => k ≤ r.places.length) (fun k => [(34, .int .i64 (k : Int))]) [(22, _), (20, _), (8, _)] (fun k => [D25, D23, D21, D19, D18, D17, D16, D15, D12, D10, D6, D4, D8, D902, D901, E2, E1, D]) 0 (by omega) ⟨(by first | rfl | (show some (Value.int _ _) = some (Value.int _ _); congr 2; omega)), trivial⟩ ⟨rfl, rfl, rfl, trivial⟩ (ds_same) ?_
                rintro k h1
                refine C.seq ?_
                refine C.seq ?_
                refine C.region [(false,0),(false,1),(false,2),(false,3)] rfl ?_
                refine L.move rfl rfl rfl trivial ?_
                refine L.move rfl rfl rfl trivial ?_
                refine L.len rfl Try.underlying22 rfl hps rfl rfl trivial ?_
                refine L.lss rfl rfl rfl rfl trivial ?_
                refine L.nil ?_
                refine C.next ?_
                refine C.condD rfl (fun hc6 => ?_) (fun hc6 => ?_)
                · simp only [List.length_map, List.length_range] at hc6
                  have hk : k < r.places.length := by omega
                  have hpx : ((List.range r.places.length).map fun i => vd (truths r) (hasAt i))[k]? = some (vd (truths r) (hasAt k)) := by rw [List.getElem?_map, List.getElem?_range hk]; rfl
                  have hqx : ((List.range (moreD r c).places.length).map fun i => vd (truths (moreD r c)) (hasAt i))[k]? = some (vd (truths (moreD r c)) (hasAt k)) := by rw [List.getElem?_map, List.getElem?_range (show k < (moreD r c).places.length from hk)]; rfl
                  refine C.skip ?_
                  refine C.next ?_
                  refine C.seq ?_
                  refine C.block ?_
                  refine C.seq ?_
                  refine C.draw [] 5 [0,1,2,3,4,5,6,7,8,9,10,11,12,13,14,15] [false,true,false,false,false,false,false,true,false,false,true,true,true,true,false,false] [(false,0),(true,1),(false,2),(false,3),(false,4),(false,5),(false,6),(true,7),(false,8),(false,9),(true,10),(true,11),(true,12),(true,13),(false,14),(false,15)] Tf.follows (fun _ _ _ h => np_body (P := Try.prog) (fn := Try.f7) _ _ _ h) (by kernel_rfl) rfl ?_
                  refine L.move rfl rfl rfl trivial ?_
                  refine L.move rfl rfl rfl trivial ?_
                  refine L.indexS rfl Try.underlying22 Tf.s3 rfl hps rfl (by omega) hpx rfl trivial (fun b1 o1 cs1 hr1 hcl1 hA1 => ?_)
                  obtain rfl : cs1 = [.int .i64 _] := hr1
                  refine L.loadD1 rfl (k := 0) Tf.a3 rfl hA1 (by first | simp | assumption) rfl List.not_mem_nil rfl trivial ?_
                  refine L.neq rfl rfl rfl rfl trivial ?_
                  refine L.move rfl rfl rfl trivial ?_
                  refine' L.and [(false,6),(true,7),(false,8),(false,9),(true,10),(true,11),(true,12),(true,13),(false,14),(false,15)] [] (s := 241) (p := 251) rfl rfl (fun hg21 => ?_) (fun hg21 => ?_) ?_
                  rotate_left
                  · refine L.move rfl rfl rfl ⟨_, rfl, rfl⟩ ?_
                    refine L.move rfl rfl rfl ⟨_, rfl, rfl⟩ ?_
                    refine L.indexS rfl Try.underlying22 Tf.s3 rfl hps rfl (by omega) hpx rfl ⟨_, rfl, rfl⟩ (fun b2 o2 cs2 hr2 hcl2 hA2 => ?_)
                    obtain rfl : cs2 = [.int .i64 _] := hr2
                    refine L.loadD1 rfl (k := 0) Tf.a3 rfl hA2 (by first | simp | assumption) rfl List.not_mem_nil rfl ⟨_, rfl, rfl⟩ ?_
                    refine L.move rfl rfl rfl ⟨_, rfl, rfl⟩ ?_
                    refine L.move rfl rfl rfl ⟨_, rfl, rfl⟩ ?_
                    refine L.indexS rfl Try.underlying22 Tf.s3 rfl hqs rfl (by omega) hqx rfl ⟨_, rfl, rfl⟩ (fun b3 o3 cs3 hr3 hcl3 hA3 => ?_)
                    obtain rfl : cs3 = [.int .i64 _] := hr3
                    refine L.loadD1 rfl (k := 0) Tf.a3 rfl hA3 (by first | simp | assumption) rfl List.not_mem_nil rfl ⟨_, rfl, rfl⟩ ?_
                    refine L.neq rfl rfl rfl rfl ⟨_, rfl, rfl⟩ ?_
                    refine L.pickT rfl rfl rfl rfl trivial ?_
                    exact L.nil fun a w hh => hh.cutK 9 rfl
                  · refine L.pass rfl rfl rfl ⟨_, _, rfl, rfl, rfl⟩ ?_
                    refine L.pass rfl rfl rfl ⟨_, _, rfl, rfl, rfl⟩ ?_
                    refine L.pass rfl rfl rfl ⟨_, _, rfl, rfl, rfl⟩ ?_
                    refine L.pass rfl rfl rfl ⟨_, _, rfl, rfl, rfl⟩ ?_
                    refine L.pass rfl rfl rfl ⟨_, _, rfl, rfl, rfl⟩ ?_
                    refine L.pass rfl rfl rfl ⟨_, _, rfl, rfl, rfl⟩ ?_
                    refine L.pass rfl rfl rfl ⟨_, _, rfl, rfl, rfl⟩ ?_
                    refine L.pass rfl rfl rfl ⟨_, _, rfl, rfl, rfl⟩ ?_
                    refine L.pass rfl rfl rfl ⟨_, _, rfl, rfl, rfl⟩ ?_
                    refine L.pickF rfl rfl rfl rfl trivial ?_
                    exact L.nil fun a w hh => hh.cutK 9 rfl
                  refine L.nil ?_
                  refine C.next ?_
                  refine C.cond rfl (fun hc7 => ?_) (fun hc7 => ?_)
                  · exact absurd hc7 (by simp; intro h; exact (vd_sub hnx (fun t ht => more_sub ht) h).symm)
                  · refine C.skip ?_
                    refine C.blockEnd ?_
                    refine C.next ?_
                    refine C.region [(false,0),(false,1),(false,2)] rfl ?_
                    refine L.move rfl rfl rfl trivial ?_
                    refine L.add rfl rfl rfl (by simp only [inK]; omega) rfl trivial ?_
                    refine L.assign rfl rfl rfl trivial ?_
                    refine L.nil ?_
                    exact C.againR 15 (k + 1) (by omega) (by omega) ⟨(by first | rfl | (show some (Value.int _ _) = some (Value.int _ _); congr 2; omega)), trivial⟩ rfl rfl (List.Sublist.refl _) (ds_same)
                · refine C.exit ?_
                  refine C.thenExit ?_
                  refine C.thenExit ?_
                  refine C.blockExit ?_
                  refine C.next ?_
                  refine C.seq ?_
                  refine C.region [(false,0),(false,1)] rfl ?_
                  refine L.callV rfl rfl rfl (fun D28 hD28 => awake_ok _) rfl trivial ?_
                  refine L.assign rfl rfl rfl trivial ?_
                  refine L.nil ?_
                  refine C.next ?_
                  refine C.ret ?_
                  exact leave (vs := [_]) rfl rfl rfl ⟨rfl, trivial⟩ (fun D hD => rfl)
  · refine L.buildSlice rfl Try.underlying23 Tf.s50 Tf.z50 rfl rfl rfl rfl (.cons rfl rfl .nil) rfl trivial (fun b901 D901 hD901 hA901 => ?_)
    skip
    refine L.nil ?_
    refine L.planFin [(true,0),(true,3),(false,6),(false,7),(false,8)] rfl ?_
    refine L.buildSlice rfl Try.underlying23 Tf.s50 Tf.z50 rfl rfl rfl rfl .nil rfl trivial (fun b902 D902 hD902 hA902 => ?_)
    skip
    refine L.append (A := []) (ν := []) (B := [(_, _)]) rfl Try.underlying23 rfl rfl Tf.s50 Tf.z50 rfl Tf.i50 rfl rfl rfl Acc.nil (Src.cnts hc) (by simp) (cnt_len _ _ rfl) (by simp) (cntC_cell1 _) (by omega) (Or.inr (by simp)) rfl trivial (fun v7 ν7 ha7 => ?_)
    refine L.append (A := []) (ν := ν7) (B := [(_, _)]) rfl Try.underlying23 rfl rfl Tf.s50 Tf.z50 rfl Tf.i50 rfl rfl rfl ha7 (Src.lit (by assumption)) (by simp) rfl (by simpa using cnt_len r.counts _ rfl) (by simp [cell1]) (by omega) (Or.inl rfl) rfl trivial (fun v8 ν8 ha8 => ?_)
    have hn8 : Acc 50 3 v8 (r.counts.length + 1) (cntC (r.counts ++ [c])) ν8 := by rw [cntC_snoc]; simpa using ha8
    refine L.fieldAddr rfl Tf.f25_1 rfl rfl trivial ?_
    refine L.store rfl rfl rfl hn8.cells1 Tf.s23 (.app (Has.head)) (by simp) rfl hn8.cell1 trivial ?_
    refine L.nil ?_
    refine C.next ?_
    refine C.seq ?_
    refine C.seq ?_
    refine C.freeze (A := []) (B := [(_, _)]) hn8 rfl (fun D8 hD8 hF => ?_)
    have hS8 := hF.cnts (by simp) (by omega)
    have hxr : RowIs D8 (.agg #[pv, v8, .int .i64 r.wrong, .int .i64 r.off]) (moreD r c) := ⟨_, _, rfl, hp.up RI.up (hD8 _ (by simp)), hS8⟩
    refine C.region [(false,0),(false,1),(false,2),(false,3),(false,4),(false,5),(false,6),(false,7)] rfl ?_
    refine L.loadDW rfl Tf.a25 rfl hB1 (by first | simp | assumption) Tf.s25 List.not_mem_nil rfl trivial ?_
    refine L.callV rfl rfl rfl (fun D1 hD1 => ready_ok _ r _ (hr0.up (hD1 _ (by simp)))) rfl trivial ?_
    refine L.not rfl rfl rfl trivial ?_
    refine L.move rfl rfl rfl trivial ?_
    refine' L.or [(false,4),(false,5),(false,6),(false,7)] [] (s := 47) (p := 51) rfl rfl (fun hg1 => ?_) (fun hg1 => ?_) ?_
    rotate_left
    · refine L.loadBW rfl Tf.a25 rfl (List.Mem.head _) Tf.s25 List.not_mem_nil rfl ⟨_, rfl, rfl⟩ ?_
      refine L.callV rfl rfl rfl (fun D2 hD2 => ready_ok _ (moreD r c) _ (hxr.up (hD2 _ (by simp)))) rfl ⟨_, rfl, rfl⟩ ?_
      refine L.not rfl rfl rfl ⟨_, rfl, rfl⟩ ?_
      refine L.pickF rfl rfl rfl rfl trivial ?_
      exact L.nil fun a w hh => hh.cutK 3 rfl
    · refine L.pass rfl rfl rfl ⟨_, _, rfl, rfl, rfl⟩ ?_
      refine L.pass rfl rfl rfl ⟨_, _, rfl, rfl, rfl⟩ ?_
      refine L.pass rfl rfl rfl ⟨_, _, rfl, rfl, rfl⟩ ?_
      refine L.pickT rfl rfl rfl rfl trivial ?_
      exact L.nil fun a w hh => hh.cutK 3 rfl
    refine L.nil ?_
    refine C.next ?_
    refine C.cond rfl (fun hc1 => ?_) (fun hc1 => ?_)
    · refine C.seq ?_
      refine C.region [(false,0),(false,1)] rfl ?_
      refine L.callV rfl rfl rfl (fun D3 hD3 => awake_ok _) rfl trivial ?_
      refine L.assign rfl rfl rfl trivial ?_
      refine L.nil ?_
      refine C.next ?_
      refine C.ret ?_
      refine C.thenRet ?_
      exact leave (vs := [_]) rfl rfl rfl ⟨rfl, trivial⟩ (fun D hD => rfl)
    · obtain ⟨hca, hcb⟩ := or_no hc1
      obtain ⟨hlp, hlc, hok⟩ := ready_len hca
      have hn0 := hok.len0
      have hn9 := hok.len9
      obtain ⟨i, j, hij, hjn, hpt⟩ := parted_ex r a b hok.len0 ha hb
      have hcap := truths_len r hok
      have hask := ask_in hok hij hjn
      obtain ⟨hxp, hxc, hokx⟩ := ready_len hcb
      have haskx := ask_in (r := moreD r c) hokx hij hjn
      have hml := more_least (c := c) hok hokx
      refine C.skip ?_
      refine C.next ?_
      refine C.seq ?_
      refine C.region [(false,0),(false,1),(false,2),(false,3),(false,4),(false,5),(false,6),(false,7)] rfl ?_
      refine L.loadDW rfl Tf.a25 rfl hB1 (by first | simp | assumption) Tf.s25 List.not_mem_nil rfl trivial ?_
      refine L.call rfl rfl rfl (fun D4 hD4 => Row_ok _ r _ (hr0.up (hD4 _ (by simp))) (by omega) (by omega)) rfl trivial (fun v4 D4 hD4 hp4 => ?_)
      have hw := hp4
      refine L.callV rfl rfl rfl (fun D5 hD5 => Least_ok _ r _ (hw.up (hD5 _ (by simp)))) rfl trivial ?_
      refine L.move rfl rfl rfl trivial ?_
      refine L.extract rfl rfl rfl rfl trivial ?_
      refine L.extract rfl rfl rfl rfl trivial ?_
      refine L.assign rfl rfl rfl trivial ?_
      refine L.assign rfl rfl rfl trivial ?_
      refine L.nil ?_
      refine C.next ?_
      refine C.seq ?_
      refine C.region [(false,0),(false,1),(false,2),(false,3),(false,4),(false,5),(false,6),(false,7)] rfl ?_
      refine L.loadBW rfl Tf.a25 rfl (List.Mem.head _) Tf.s25 List.not_mem_nil rfl trivial ?_
      refine L.call rfl rfl rfl (fun D6 hD6 => Row_ok _ (moreD r c) _ (hxr.up (hD6 _ (by simp))) (by omega) (by omega)) rfl trivial (fun v6 D6 hD6 hp6 => ?_)
      have hw := hp6
      refine L.callV rfl rfl rfl (fun D7 hD7 => Least_ok _ (moreD r c) _ (hw.up (hD7 _ (by simp)))) rfl trivial ?_
      refine L.move rfl rfl rfl trivial ?_
      refine L.extract rfl rfl rfl rfl trivial ?_
      refine L.extract rfl rfl rfl rfl trivial ?_
      refine L.assign rfl rfl rfl trivial ?_
      refine L.assign rfl rfl rfl trivial ?_
      refine L.nil ?_
      refine C.next ?_
      refine C.seq ?_
      refine C.seq ?_
      refine C.region [(false,0),(false,1)] rfl ?_
      refine L.move rfl rfl rfl trivial ?_
      refine L.neq rfl rfl rfl rfl trivial ?_
      refine L.nil ?_
      refine C.next ?_
      refine C.condD rfl (fun hc2 => ?_) (fun hc2 => ?_)
      · refine C.seq ?_
        refine C.region [(false,0),(false,1),(false,2),(false,3),(false,4),(false,5),(false,6),(false,7),(false,8),(false,9),(false,10)] rfl ?_
        refine L.move rfl rfl rfl trivial ?_
        refine L.eql rfl rfl rfl rfl trivial ?_
        refine L.move rfl rfl rfl trivial ?_
        refine' L.and [(false,3),(false,4),(false,5),(false,6)] [(false,7),(false,8),(false,9),(false,10)] (s := 69) (p := 73) rfl rfl (fun hg2 => ?_) (fun hg2 => ?_) ?_
        rotate_left
        · refine L.move rfl rfl rfl ⟨_, rfl, rfl⟩ ?_
          refine L.move rfl rfl rfl ⟨_, rfl, rfl⟩ ?_
          refine L.eql rfl rfl rfl rfl ⟨_, rfl, rfl⟩ ?_
          refine L.pickT rfl rfl rfl rfl trivial ?_
          exact L.nil fun a w hh => hh.cutK 3 rfl
        · refine L.pass rfl rfl rfl ⟨_, _, rfl, rfl, rfl⟩ ?_
          refine L.pass rfl rfl rfl ⟨_, _, rfl, rfl, rfl⟩ ?_
          refine L.pass rfl rfl rfl ⟨_, _, rfl, rfl, rfl⟩ ?_
          refine L.pickF rfl rfl rfl rfl trivial ?_
          exact L.nil fun a w hh => hh.cutK 3 rfl
        refine L.move rfl rfl rfl trivial ?_
        refine' L.and [(false,8),(false,9)] [(false,10)] (s := 74) (p := 76) rfl rfl (fun hg3 => ?_) (fun hg3 => ?_) ?_
        rotate_left
        · refine L.callV rfl rfl rfl (fun D8 hD8 => awake_ok _) rfl ⟨_, rfl, rfl⟩ ?_
          refine L.pickT rfl rfl rfl rfl trivial ?_
          exact L.nil fun a w hh => hh.cutK 1 rfl
        · refine L.pass rfl rfl rfl ⟨_, _, rfl, rfl, rfl⟩ ?_
          refine L.pickF rfl rfl rfl rfl trivial ?_
          exact L.nil fun a w hh => hh.cutK 1 rfl
        refine L.assign rfl rfl rfl trivial ?_
        refine L.nil ?_
        refine C.next ?_
        refine C.ret ?_
        refine C.thenRet ?_
        exact leave (vs := [_]) rfl rfl rfl ⟨rfl, trivial⟩ (fun D hD => congrArg Value.bool (by rw [(hml.1 hc2).1, (hml.1 hc2).2]; rfl))
      · refine C.skip ?_
        refine C.next ?_
        refine C.seq ?_
        refine C.seq ?_
        refine C.region [(false,0),(false,1),(false,2),(false,3),(false,4),(false,5),(false,6),(false,7),(false,8),(false,9),(false,10),(false,11),(false,12),(false,13),(false,14)] rfl ?_
        refine L.move rfl rfl rfl trivial ?_
        refine L.neq rfl rfl rfl rfl trivial ?_
        refine L.move rfl rfl rfl trivial ?_
        refine' L.and [(false,3),(false,4),(false,5)] [(false,6),(false,7),(false,8),(false,9),(false,10),(false,11),(false,12),(false,13),(false,14)] (s := 79) (p := 82) rfl rfl (fun hg4 => ?_) (fun hg4 => ?_) ?_
        rotate_left
        · refine L.move rfl rfl rfl ⟨_, rfl, rfl⟩ ?_
          refine L.neq rfl rfl rfl rfl ⟨_, rfl, rfl⟩ ?_
          refine L.pickT rfl rfl rfl rfl trivial ?_
          exact L.nil fun a w hh => hh.cutK 2 rfl
        · refine L.pass rfl rfl rfl ⟨_, _, rfl, rfl, rfl⟩ ?_
          refine L.pass rfl rfl rfl ⟨_, _, rfl, rfl, rfl⟩ ?_
          refine L.pickF rfl rfl rfl rfl trivial ?_
          exact L.nil fun a w hh => hh.cutK 2 rfl
        refine L.move rfl rfl rfl trivial ?_
        refine' L.or [(false,7),(false,8),(false,9),(false,10),(false,11),(false,12),(false,13),(false,14)] [] (s := 83) (p := 91) rfl rfl (fun hg5 => ?_) (fun hg5 => ?_) ?_
        rotate_left
        · refine L.move rfl rfl rfl ⟨_, rfl, rfl⟩ ?_
          refine L.eql rfl rfl rfl rfl ⟨_, rfl, rfl⟩ ?_
          refine L.move rfl rfl rfl ⟨_, rfl, rfl⟩ ?_
          refine' L.and [(false,10),(false,11),(false,12),(false,13)] [(false,14)] (s := 86) (p := 90) rfl rfl (fun hg6 => ?_) (fun hg6 => ?_) ?_
          rotate_left
          · refine L.move rfl rfl rfl ⟨_, rfl, rfl⟩ ?_
            refine L.move rfl rfl rfl ⟨_, rfl, rfl⟩ ?_
            refine L.lss rfl rfl rfl rfl ⟨_, rfl, rfl⟩ ?_
            refine L.pickT rfl rfl rfl rfl ⟨_, rfl, rfl⟩ ?_
            exact L.nil fun a w hh => hh.cutK 3 rfl
          · refine L.pass rfl rfl rfl ⟨_, _, rfl, rfl, rfl⟩ ?_
            refine L.pass rfl rfl rfl ⟨_, _, rfl, rfl, rfl⟩ ?_
            refine L.pass rfl rfl rfl ⟨_, _, rfl, rfl, rfl⟩ ?_
            refine L.pickF rfl rfl rfl rfl ⟨_, rfl, rfl⟩ ?_
            exact L.nil fun a w hh => hh.cutK 3 rfl
          refine L.pickF rfl rfl rfl rfl trivial ?_
          exact L.nil fun a w hh => hh.cutK 4 rfl
        · refine L.pass rfl rfl rfl ⟨_, _, rfl, rfl, rfl⟩ ?_
          refine L.pass rfl rfl rfl ⟨_, _, rfl, rfl, rfl⟩ ?_
          refine L.pass rfl rfl rfl ⟨_, _, rfl, rfl, rfl⟩ ?_
          refine L.pass rfl rfl rfl ⟨_, _, rfl, rfl, rfl⟩ ?_
          refine L.pass rfl rfl rfl ⟨_, _, rfl, rfl, rfl⟩ ?_
          refine L.pass rfl rfl rfl ⟨_, _, rfl, rfl, rfl⟩ ?_
          refine L.pass rfl rfl rfl ⟨_, _, rfl, rfl, rfl⟩ ?_
          refine L.pickT rfl rfl rfl rfl trivial ?_
          exact L.nil fun a w hh => hh.cutK 7 rfl
        refine L.nil ?_
        refine C.next ?_
        refine C.cond rfl (fun hc3 => ?_) (fun hc3 => ?_)
        · exact absurd hc3 (by have h := hml.2 (by omega); rcases h with h | h <;> simp [h.1]; omega)
        · refine C.skip ?_
          refine C.next ?_
          refine C.seq ?_
          refine C.region [(false,0),(false,1),(false,2),(false,3),(false,4),(false,5),(false,6),(false,7),(false,8)] rfl ?_
          refine L.loadDW rfl Tf.a25 rfl hB1 (by first | simp | assumption) Tf.s25 List.not_mem_nil rfl trivial ?_
          refine L.move rfl rfl rfl trivial ?_
          refine L.move rfl rfl rfl trivial ?_
          refine L.callV rfl rfl rfl (fun D9 hD9 => hpt _ _ (hr0.up (hD9 _ (by simp)))) rfl trivial ?_
          refine L.move rfl rfl rfl trivial ?_
          refine L.extract rfl rfl rfl rfl trivial ?_
          refine L.extract rfl rfl rfl rfl trivial ?_
          refine L.assign rfl rfl rfl trivial ?_
          refine L.assign rfl rfl rfl trivial ?_
          refine L.nil ?_
          refine C.next ?_
          refine C.seq ?_
          refine C.region [(false,0),(false,1),(false,2),(false,3),(false,4),(false,5),(false,6),(false,7),(false,8),(false,9),(false,10)] rfl ?_
          refine L.loadDW rfl Tf.a25 rfl hB1 (by first | simp | assumption) Tf.s25 List.not_mem_nil rfl trivial ?_
          refine L.call rfl rfl rfl (fun D10 hD10 => Row_ok _ r _ (hr0.up (hD10 _ (by simp))) (by omega) (by omega)) rfl trivial (fun v10 D10 hD10 hp10 => ?_)
          have hw := hp10
          refine L.move rfl rfl rfl trivial ?_
          refine L.move rfl rfl rfl trivial ?_
          refine L.callV rfl rfl rfl (fun D11 hD11 => Chairs2_ok _ r _ _ _ (hw.up (hD11 _ (by simp)))) rfl trivial ?_
          refine L.move rfl rfl rfl trivial ?_
          refine L.extract rfl rfl rfl rfl trivial ?_
          refine L.extract rfl rfl rfl rfl trivial ?_
          refine L.alloc rfl Tf.z29 rfl rfl trivial (fun q4 => ?_)
          refine L.storeW rfl rfl rfl rfl Tf.s29 (by first | rfl | (simp only [ints_length, *]; done) | (simp only [ints_length, *]; rfl) | (simp only [ints_length, *]; omega)) (by first | rfl | (simp only [ints_length, *]; done) | (simp only [ints_length, *]; rfl) | (simp only [ints_length, *]; omega)) (Has.head) (by first | exact ints_cell1 _ | simp [cell1]) trivial ?_
          refine L.assign rfl rfl rfl trivial ?_
          refine L.nil ?_
          refine C.next ?_
          refine C.seq ?_
          refine C.region [(false,0),(false,1),(false,2),(false,3),(false,4),(false,5),(false,6),(false,7),(false,8),(false,9),(false,10)] rfl ?_
          refine L.loadBW rfl Tf.a25 rfl (List.Mem.tail _ (List.Mem.head _)) Tf.s25 List.not_mem_nil rfl trivial ?_
          refine L.call rfl rfl rfl (fun D12 hD12 => Row_ok _ (moreD r c) _ (hxr.up (hD12 _ (by simp))) (by omega) (by omega)) rfl trivial (fun v12 D12 hD12 hp12 => ?_)
          have hw := hp12
          refine L.move rfl rfl rfl trivial ?_
          refine L.move rfl rfl rfl trivial ?_
          refine L.callV rfl rfl rfl (fun D13 hD13 => Chairs2_ok _ (moreD r c) _ _ _ (hw.up (hD13 _ (by simp)))) rfl trivial ?_
          refine L.move rfl rfl rfl trivial ?_
          refine L.extract rfl rfl rfl rfl trivial ?_
          refine L.extract rfl rfl rfl rfl trivial ?_
          refine L.alloc rfl Tf.z29 rfl rfl trivial (fun q5 => ?_)
          refine L.storeW rfl rfl rfl rfl Tf.s29 (by first | rfl | (simp only [ints_length, *]; done) | (simp only [ints_length, *]; rfl) | (simp only [ints_length, *]; omega)) (by first | rfl | (simp only [ints_length, *]; done) | (simp only [ints_length, *]; rfl) | (simp only [ints_length, *]; omega)) (Has.head) (by first | exact ints_cell1 _ | simp [cell1]) trivial ?_
          refine L.assign rfl rfl rfl trivial ?_
          refine L.nil ?_
          refine C.next ?_
          refine C.seq ?_
          refine C.seq ?_
          refine C.region [(false,0),(false,1)] rfl ?_
          refine L.move rfl rfl rfl trivial ?_
          refine L.neq rfl rfl rfl rfl trivial ?_
          refine L.nil ?_
          refine C.next ?_
          refine C.condD rfl (fun hc4 => ?_) (fun hc4 => ?_)
          · refine C.seq ?_
            refine C.region [(false,0),(false,1),(false,2),(false,3),(false,4),(false,5),(false,6),(false,7),(false,8),(false,9),(false,10),(false,11),(false,12),(false,13),(false,14)] rfl ?_
            refine L.move rfl rfl rfl trivial ?_
            refine L.eql rfl rfl rfl rfl trivial ?_
            refine L.move rfl rfl rfl trivial ?_
            refine' L.and [(false,3),(false,4),(false,5),(false,6),(false,7),(false,8),(false,9),(false,10)] [(false,11),(false,12),(false,13),(false,14)] (s := 119) (p := 127) rfl rfl (fun hg7 => ?_) (fun hg7 => ?_) ?_
            rotate_left
            · refine L.move rfl rfl rfl ⟨_, rfl, rfl⟩ ?_
              refine L.eql rfl rfl rfl rfl ⟨_, rfl, rfl⟩ ?_
              refine L.move rfl rfl rfl ⟨_, rfl, rfl⟩ ?_
              refine' L.or [(false,6),(false,7),(false,8),(false,9)] [(false,10)] (s := 122) (p := 126) rfl rfl (fun hg8 => ?_) (fun hg8 => ?_) ?_
              rotate_left
              · refine L.move rfl rfl rfl ⟨_, rfl, rfl⟩ ?_
                refine L.move rfl rfl rfl ⟨_, rfl, rfl⟩ ?_
                refine L.eql rfl rfl rfl rfl ⟨_, rfl, rfl⟩ ?_
                refine L.pickF rfl rfl rfl rfl ⟨_, rfl, rfl⟩ ?_
                exact L.nil fun a w hh => hh.cutK 3 rfl
              · refine L.pass rfl rfl rfl ⟨_, _, rfl, rfl, rfl⟩ ?_
                refine L.pass rfl rfl rfl ⟨_, _, rfl, rfl, rfl⟩ ?_
                refine L.pass rfl rfl rfl ⟨_, _, rfl, rfl, rfl⟩ ?_
                refine L.pickT rfl rfl rfl rfl ⟨_, rfl, rfl⟩ ?_
                exact L.nil fun a w hh => hh.cutK 3 rfl
              refine L.pickT rfl rfl rfl rfl trivial ?_
              exact L.nil fun a w hh => hh.cutK 4 rfl
            · refine L.pass rfl rfl rfl ⟨_, _, rfl, rfl, rfl⟩ ?_
              refine L.pass rfl rfl rfl ⟨_, _, rfl, rfl, rfl⟩ ?_
              refine L.pass rfl rfl rfl ⟨_, _, rfl, rfl, rfl⟩ ?_
              refine L.pass rfl rfl rfl ⟨_, _, rfl, rfl, rfl⟩ ?_
              refine L.pass rfl rfl rfl ⟨_, _, rfl, rfl, rfl⟩ ?_
              refine L.pass rfl rfl rfl ⟨_, _, rfl, rfl, rfl⟩ ?_
              refine L.pass rfl rfl rfl ⟨_, _, rfl, rfl, rfl⟩ ?_
              refine L.pickF rfl rfl rfl rfl trivial ?_
              exact L.nil fun a w hh => hh.cutK 7 rfl
            refine L.move rfl rfl rfl trivial ?_
            refine' L.and [(false,12),(false,13)] [(false,14)] (s := 128) (p := 130) rfl rfl (fun hg9 => ?_) (fun hg9 => ?_) ?_
            rotate_left
            · refine L.callV rfl rfl rfl (fun D14 hD14 => awake_ok _) rfl ⟨_, rfl, rfl⟩ ?_
              refine L.pickT rfl rfl rfl rfl trivial ?_
              exact L.nil fun a w hh => hh.cutK 1 rfl
            · refine L.pass rfl rfl rfl ⟨_, _, rfl, rfl, rfl⟩ ?_
              refine L.pickF rfl rfl rfl rfl trivial ?_
              exact L.nil fun a w hh => hh.cutK 1 rfl
            refine L.assign rfl rfl rfl trivial ?_
            refine L.nil ?_
            refine C.next ?_
            refine C.ret ?_
            refine C.thenRet ?_
            exact leave (vs := [_]) rfl rfl rfl ⟨rfl, trivial⟩ (fun D hD => congrArg Value.bool (more_none hask haskx hok hokx hc4))
          · have hzx : askErr (moreD r c) true = 0 := by rw [haskx] at hc4; omega
            obtain ⟨hz, hnx, hi1, hi2, hlk, hnd⟩ := more_all (i := i) (j := j) hok hokx hij hjn hzx
            refine C.skip ?_
            refine C.next ?_
            refine C.seq ?_
            refine C.region [(false,0),(false,1),(false,2),(false,3),(false,4),(false,5),(false,6),(false,7)] rfl ?_
            refine L.loadDW rfl Tf.a25 rfl hB1 (by first | simp | assumption) Tf.s25 List.not_mem_nil rfl trivial ?_
            refine L.call rfl rfl rfl (fun D15 hD15 => Row_ok _ r _ (hr0.up (hD15 _ (by simp))) (by omega) (by omega)) rfl trivial (fun v15 D15 hD15 hp15 => ?_)
            have hw := hp15
            refine L.call rfl rfl rfl (fun D16 hD16 => Places_ok _ r _ (hw.up (hD16 _ (by simp)))) rfl trivial (fun v16 D16 hD16 hp16 => ?_)
            obtain ⟨plv, rfl, hps⟩ := hp16
            refine L.move rfl rfl rfl trivial ?_
            refine L.extract rfl rfl rfl rfl trivial ?_
            refine L.extract rfl rfl rfl rfl trivial ?_
            refine L.assign rfl rfl rfl trivial ?_
            refine L.assign rfl rfl rfl trivial ?_
            refine L.nil ?_
            refine C.next ?_
            refine C.seq ?_
            refine C.region [(false,0),(false,1),(false,2),(false,3),(false,4),(false,5),(false,6),(false,7)] rfl ?_
            refine L.loadBW rfl Tf.a25 rfl (List.Mem.tail _ (List.Mem.tail _ (List.Mem.head _))) Tf.s25 List.not_mem_nil rfl trivial ?_
            refine L.call rfl rfl rfl (fun D17 hD17 => Row_ok _ (moreD r c) _ (hxr.up (hD17 _ (by simp))) (by omega) (by omega)) rfl trivial (fun v17 D17 hD17 hp17 => ?_)
            have hw := hp17
            refine L.call rfl rfl rfl (fun D18 hD18 => Places_ok _ (moreD r c) _ (hw.up (hD18 _ (by simp)))) rfl trivial (fun v18 D18 hD18 hp18 => ?_)
            obtain ⟨qlv, rfl, hqs⟩ := hp18
            refine L.move rfl rfl rfl trivial ?_
            refine L.extract rfl rfl rfl rfl trivial ?_
            refine L.extract rfl rfl rfl rfl trivial ?_
            refine L.assign rfl rfl rfl trivial ?_
            refine L.assign rfl rfl rfl trivial ?_
            refine L.nil ?_
            refine C.next ?_
            refine C.seq ?_
            refine C.region [(false,0),(false,1),(false,2),(false,3),(false,4),(false,5),(false,6),(false,7),(false,8),(false,9)] rfl ?_
            refine L.loadDW rfl Tf.a25 rfl hB1 (by first | simp | assumption) Tf.s25 List.not_mem_nil rfl trivial ?_
            refine L.call rfl rfl rfl (fun D19 hD19 => Row_ok _ r _ (hr0.up (hD19 _ (by simp))) (by omega) (by omega)) rfl trivial (fun v19 D19 hD19 hp19 => ?_)
            have hw := hp19
            refine L.callV rfl rfl rfl (fun D20 hD20 => Look_ok _ r _ (hw.up (hD20 _ (by simp)))) rfl trivial ?_
            refine L.move rfl rfl rfl trivial ?_
            refine L.extract rfl rfl rfl rfl trivial ?_
            refine L.extract rfl rfl rfl rfl trivial ?_
            refine L.extract rfl rfl rfl rfl trivial ?_
            refine L.assign rfl rfl rfl trivial ?_
            refine L.assign rfl rfl rfl trivial ?_
            refine L.assign rfl rfl rfl trivial ?_
            refine L.nil ?_
            refine C.next ?_
            refine C.seq ?_
            refine C.region [(false,0),(false,1),(false,2),(false,3),(false,4),(false,5),(false,6),(false,7),(false,8),(false,9)] rfl ?_
            refine L.loadBW rfl Tf.a25 rfl (List.Mem.tail _ (List.Mem.tail _ (List.Mem.head _))) Tf.s25 List.not_mem_nil rfl trivial ?_
            refine L.call rfl rfl rfl (fun D21 hD21 => Row_ok _ (moreD r c) _ (hxr.up (hD21 _ (by simp))) (by omega) (by omega)) rfl trivial (fun v21 D21 hD21 hp21 => ?_)
            have hw := hp21
            refine L.callV rfl rfl rfl (fun D22 hD22 => Look_ok _ (moreD r c) _ (hw.up (hD22 _ (by simp)))) rfl trivial ?_
            refine L.move rfl rfl rfl trivial ?_
            refine L.extract rfl rfl rfl rfl trivial ?_
            refine L.extract rfl rfl rfl rfl trivial ?_
            refine L.extract rfl rfl rfl rfl trivial ?_
            refine L.assign rfl rfl rfl trivial ?_
            refine L.assign rfl rfl rfl trivial ?_
            refine L.assign rfl rfl rfl trivial ?_
            refine L.nil ?_
            refine C.next ?_
            refine C.seq ?_
            refine C.region [(false,0),(false,1),(false,2),(false,3),(false,4),(false,5),(false,6),(false,7),(false,8),(false,9)] rfl ?_
            refine L.loadDW rfl Tf.a25 rfl hB1 (by first | simp | assumption) Tf.s25 List.not_mem_nil rfl trivial ?_
            refine L.call rfl rfl rfl (fun D23 hD23 => Row_ok _ r _ (hr0.up (hD23 _ (by simp))) (by omega) (by omega)) rfl trivial (fun v23 D23 hD23 hp23 => ?_)
            have hw := hp23
            refine L.move rfl rfl rfl trivial ?_
            refine L.move rfl rfl rfl trivial ?_
            refine L.callV rfl rfl rfl (fun D24 hD24 => Looks_ok _ r _ _ _ (hw.up (hD24 _ (by simp)))) rfl trivial ?_
            refine L.move rfl rfl rfl trivial ?_
            refine L.extract rfl rfl rfl rfl trivial ?_
            refine L.extract rfl rfl rfl rfl trivial ?_
            refine L.assign rfl rfl rfl trivial ?_
            refine L.assign rfl rfl rfl trivial ?_
            refine L.nil ?_
            refine C.next ?_
            refine C.seq ?_
            refine C.region [(false,0),(false,1),(false,2),(false,3),(false,4),(false,5),(false,6),(false,7),(false,8),(false,9)] rfl ?_
            refine L.loadBW rfl Tf.a25 rfl (List.Mem.tail _ (List.Mem.tail _ (List.Mem.head _))) Tf.s25 List.not_mem_nil rfl trivial ?_
            refine L.call rfl rfl rfl (fun D25 hD25 => Row_ok _ (moreD r c) _ (hxr.up (hD25 _ (by simp))) (by omega) (by omega)) rfl trivial (fun v25 D25 hD25 hp25 => ?_)
            have hw := hp25
            refine L.move rfl rfl rfl trivial ?_
            refine L.move rfl rfl rfl trivial ?_
            refine L.callV rfl rfl rfl (fun D26 hD26 => Looks_ok _ (moreD r c) _ _ _ (hw.up (hD26 _ (by simp)))) rfl trivial ?_
            refine L.move rfl rfl rfl trivial ?_
            refine L.extract rfl rfl rfl rfl trivial ?_
            refine L.extract rfl rfl rfl rfl trivial ?_
            refine L.assign rfl rfl rfl trivial ?_
            refine L.assign rfl rfl rfl trivial ?_
            refine L.nil ?_
            refine C.next ?_
            refine C.seq ?_
            refine C.seq ?_
            rw [if_pos hz] at hps
            rw [if_pos hzx] at hqs
            generalize hLR : (if askErr r true = 0 then (lookK (truths r) ((truths r).length + 1) r.places.length).2 else 0) = LR at hlk ⊢
            generalize hLX : (if askErr (moreD r c) true = 0 then (lookK (truths (moreD r c)) ((truths (moreD r c)).length + 1) (moreD r c).places.length).2 else 0) = LX at hlk ⊢
            generalize hNR : (if askErr r (partOk r (i : Int) (j : Int)) = 0 then needN r.places.length (i : Int).toNat (j : Int).toNat (truths r) else 0) = NR at hnd ⊢
            generalize hNX : (if askErr (moreD r c) (partOk (moreD r c) (i : Int) (j : Int)) = 0 then needN (moreD r c).places.length (i : Int).toNat (j : Int).toNat (truths (moreD r c)) else 0) = NX at hnd ⊢
            refine C.region [(false,0),(false,1),(false,2),(false,3),(false,4),(false,5),(false,6),(false,7),(false,8),(false,9),(false,10),(false,11),(false,12),(false,13),(false,14),(false,15),(false,16),(false,17),(false,18),(false,19),(false,20),(false,21),(false,22),(false,23),(false,24),(false,25),(false,26),(false,27),(false,28),(false,29),(false,30),(false,31),(false,32),(false,33),(false,34),(false,35),(false,36),(false,37),(false,38),(false,39),(false,40),(false,41),(false,42),(false,43),(false,44),(false,45),(false,46),(false,47),(false,48),(false,49),(false,50),(false,51),(false,52),(false,53),(false,54),(false,55),(false,56)] rfl ?_
            refine L.move rfl rfl rfl trivial ?_
            refine L.neq rfl rfl rfl rfl trivial ?_
            refine L.move rfl rfl rfl trivial ?_
            refine' L.or [(false,3),(false,4),(false,5),(false,6),(false,7)] [(false,8),(false,9),(false,10),(false,11),(false,12),(false,13),(false,14),(false,15),(false,16),(false,17),(false,18),(false,19),(false,20),(false,21),(false,22),(false,23),(false,24),(false,25),(false,26),(false,27),(false,28),(false,29),(false,30),(false,31),(false,32),(false,33),(false,34),(false,35),(false,36),(false,37),(false,38),(false,39),(false,40),(false,41),(false,42),(false,43),(false,44),(false,45),(false,46),(false,47),(false,48),(false,49),(false,50),(false,51),(false,52),(false,53),(false,54),(false,55),(false,56)] (s := 175) (p := 180) rfl rfl (fun hg10 => ?_) (fun hg10 => ?_) ?_
            rotate_left
            · refine L.loadBW rfl Tf.a29 rfl (List.Mem.head _) Tf.s29 List.not_mem_nil rfl ⟨_, rfl, rfl⟩ ?_
              refine L.loadBW rfl Tf.a29 rfl (List.Mem.tail _ (List.Mem.head _)) Tf.s29 List.not_mem_nil rfl ⟨_, rfl, rfl⟩ ?_
              refine L.callV rfl rfl rfl (fun D27 hD27 => inside2_ok (chV (moreD r c) i j) (chV r i j) _) rfl ⟨_, rfl, rfl⟩ ?_
              refine L.not rfl rfl rfl ⟨_, rfl, rfl⟩ ?_
              refine L.pickF rfl rfl rfl rfl trivial ?_
              exact L.nil fun a w hh => hh.cutK 4 rfl
            · refine L.pass rfl rfl rfl ⟨_, _, rfl, rfl, rfl⟩ ?_
              refine L.pass rfl rfl rfl ⟨_, _, rfl, rfl, rfl⟩ ?_
              refine L.pass rfl rfl rfl ⟨_, _, rfl, rfl, rfl⟩ ?_
              refine L.pass rfl rfl rfl ⟨_, _, rfl, rfl, rfl⟩ ?_
              refine L.pickT rfl rfl rfl rfl trivial ?_
              exact L.nil fun a w hh => hh.cutK 4 rfl
            refine L.move rfl rfl rfl trivial ?_
            refine' L.or [(false,9),(false,10),(false,11)] [(false,12),(false,13),(false,14),(false,15),(false,16),(false,17),(false,18),(false,19),(false,20),(false,21),(false,22),(false,23),(false,24),(false,25),(false,26),(false,27),(false,28),(false,29),(false,30),(false,31),(false,32),(false,33),(false,34),(false,35),(false,36),(false,37),(false,38),(false,39),(false,40),(false,41),(false,42),(false,43),(false,44),(false,45),(false,46),(false,47),(false,48),(false,49),(false,50),(false,51),(false,52),(false,53),(false,54),(false,55),(false,56)] (s := 181) (p := 184) rfl rfl (fun hg11 => ?_) (fun hg11 => ?_) ?_
            rotate_left
            · refine L.move rfl rfl rfl ⟨_, rfl, rfl⟩ ?_
              refine L.neq rfl rfl rfl rfl ⟨_, rfl, rfl⟩ ?_
              refine L.pickF rfl rfl rfl rfl trivial ?_
              exact L.nil fun a w hh => hh.cutK 2 rfl
            · refine L.pass rfl rfl rfl ⟨_, _, rfl, rfl, rfl⟩ ?_
              refine L.pass rfl rfl rfl ⟨_, _, rfl, rfl, rfl⟩ ?_
              refine L.pickT rfl rfl rfl rfl trivial ?_
              exact L.nil fun a w hh => hh.cutK 2 rfl
            refine L.move rfl rfl rfl trivial ?_
            refine' L.or [(false,13),(false,14),(false,15)] [(false,16),(false,17),(false,18),(false,19),(false,20),(false,21),(false,22),(false,23),(false,24),(false,25),(false,26),(false,27),(false,28),(false,29),(false,30),(false,31),(false,32),(false,33),(false,34),(false,35),(false,36),(false,37),(false,38),(false,39),(false,40),(false,41),(false,42),(false,43),(false,44),(false,45),(false,46),(false,47),(false,48),(false,49),(false,50),(false,51),(false,52),(false,53),(false,54),(false,55),(false,56)] (s := 185) (p := 188) rfl rfl (fun hg12 => ?_) (fun hg12 => ?_) ?_
            rotate_left
            · refine L.move rfl rfl rfl ⟨_, rfl, rfl⟩ ?_
              refine L.neq rfl rfl rfl rfl ⟨_, rfl, rfl⟩ ?_
              refine L.pickF rfl rfl rfl rfl trivial ?_
              exact L.nil fun a w hh => hh.cutK 2 rfl
            · refine L.pass rfl rfl rfl ⟨_, _, rfl, rfl, rfl⟩ ?_
              refine L.pass rfl rfl rfl ⟨_, _, rfl, rfl, rfl⟩ ?_
              refine L.pickT rfl rfl rfl rfl trivial ?_
              exact L.nil fun a w hh => hh.cutK 2 rfl
            refine L.move rfl rfl rfl trivial ?_
            refine' L.or [(false,17),(false,18),(false,19),(false,20),(false,21),(false,22),(false,23)] [(false,24),(false,25),(false,26),(false,27),(false,28),(false,29),(false,30),(false,31),(false,32),(false,33),(false,34),(false,35),(false,36),(false,37),(false,38),(false,39),(false,40),(false,41),(false,42),(false,43),(false,44),(false,45),(false,46),(false,47),(false,48),(false,49),(false,50),(false,51),(false,52),(false,53),(false,54),(false,55),(false,56)] (s := 189) (p := 196) rfl rfl (fun hg13 => ?_) (fun hg13 => ?_) ?_
            rotate_left
            · refine L.move rfl rfl rfl ⟨_, rfl, rfl⟩ ?_
              refine L.len rfl Try.underlying22 rfl hps rfl rfl ⟨_, rfl, rfl⟩ ?_
              refine L.fieldAddr rfl Tf.f25_0 rfl rfl ⟨_, rfl, rfl⟩ ?_
              refine L.loadD1 rfl (k := 0) Tf.a22 rfl hB1 (by first | simp | assumption) rfl List.not_mem_nil rfl ⟨_, rfl, rfl⟩ ?_
              refine L.len rfl Try.underlying22 rfl hp rfl rfl ⟨_, rfl, rfl⟩ ?_
              refine L.neq rfl rfl rfl rfl ⟨_, rfl, rfl⟩ ?_
              refine L.pickF rfl rfl rfl rfl trivial ?_
              exact L.nil fun a w hh => hh.cutK 6 rfl
            · refine L.pass rfl rfl rfl ⟨_, _, rfl, rfl, rfl⟩ ?_
              refine L.pass rfl rfl rfl ⟨_, _, rfl, rfl, rfl⟩ ?_
              refine L.pass rfl rfl rfl ⟨_, _, rfl, rfl, rfl⟩ ?_
              refine L.pass rfl rfl rfl ⟨_, _, rfl, rfl, rfl⟩ ?_
              refine L.pass rfl rfl rfl ⟨_, _, rfl, rfl, rfl⟩ ?_
              refine L.pass rfl rfl rfl ⟨_, _, rfl, rfl, rfl⟩ ?_
              refine L.pickT rfl rfl rfl rfl trivial ?_
              exact L.nil fun a w hh => hh.cutK 6 rfl
            refine L.move rfl rfl rfl trivial ?_
            refine' L.or [(false,25),(false,26),(false,27),(false,28),(false,29),(false,30)] [(false,31),(false,32),(false,33),(false,34),(false,35),(false,36),(false,37),(false,38),(false,39),(false,40),(false,41),(false,42),(false,43),(false,44),(false,45),(false,46),(false,47),(false,48),(false,49),(false,50),(false,51),(false,52),(false,53),(false,54),(false,55),(false,56)] (s := 197) (p := 203) rfl rfl (fun hg14 => ?_) (fun hg14 => ?_) ?_
            rotate_left
            · refine L.move rfl rfl rfl ⟨_, rfl, rfl⟩ ?_
              refine L.len rfl Try.underlying22 rfl hqs rfl rfl ⟨_, rfl, rfl⟩ ?_
              refine L.move rfl rfl rfl ⟨_, rfl, rfl⟩ ?_
              refine L.len rfl Try.underlying22 rfl hps rfl rfl ⟨_, rfl, rfl⟩ ?_
              refine L.neq rfl rfl rfl rfl ⟨_, rfl, rfl⟩ ?_
              refine L.pickF rfl rfl rfl rfl trivial ?_
              exact L.nil fun a w hh => hh.cutK 5 rfl
            · refine L.pass rfl rfl rfl ⟨_, _, rfl, rfl, rfl⟩ ?_
              refine L.pass rfl rfl rfl ⟨_, _, rfl, rfl, rfl⟩ ?_
              refine L.pass rfl rfl rfl ⟨_, _, rfl, rfl, rfl⟩ ?_
              refine L.pass rfl rfl rfl ⟨_, _, rfl, rfl, rfl⟩ ?_
              refine L.pass rfl rfl rfl ⟨_, _, rfl, rfl, rfl⟩ ?_
              refine L.pickT rfl rfl rfl rfl trivial ?_
              exact L.nil fun a w hh => hh.cutK 5 rfl
            refine L.move rfl rfl rfl trivial ?_
            refine' L.or [(false,32),(false,33),(false,34)] [(false,35),(false,36),(false,37),(false,38),(false,39),(false,40),(false,41),(false,42),(false,43),(false,44),(false,45),(false,46),(false,47),(false,48),(false,49),(false,50),(false,51),(false,52),(false,53),(false,54),(false,55),(false,56)] (s := 204) (p := 207) rfl rfl (fun hg15 => ?_) (fun hg15 => ?_) ?_
            rotate_left
            · refine L.move rfl rfl rfl ⟨_, rfl, rfl⟩ ?_
              refine L.neq rfl rfl rfl rfl ⟨_, rfl, rfl⟩ ?_
              refine L.pickF rfl rfl rfl rfl trivial ?_
              exact L.nil fun a w hh => hh.cutK 2 rfl
            · refine L.pass rfl rfl rfl ⟨_, _, rfl, rfl, rfl⟩ ?_
              refine L.pass rfl rfl rfl ⟨_, _, rfl, rfl, rfl⟩ ?_
              refine L.pickT rfl rfl rfl rfl trivial ?_
              exact L.nil fun a w hh => hh.cutK 2 rfl
            refine L.move rfl rfl rfl trivial ?_
            refine' L.or [(false,36),(false,37),(false,38)] [(false,39),(false,40),(false,41),(false,42),(false,43),(false,44),(false,45),(false,46),(false,47),(false,48),(false,49),(false,50),(false,51),(false,52),(false,53),(false,54),(false,55),(false,56)] (s := 208) (p := 211) rfl rfl (fun hg16 => ?_) (fun hg16 => ?_) ?_
            rotate_left
            · refine L.move rfl rfl rfl ⟨_, rfl, rfl⟩ ?_
              refine L.neq rfl rfl rfl rfl ⟨_, rfl, rfl⟩ ?_
              refine L.pickF rfl rfl rfl rfl trivial ?_
              exact L.nil fun a w hh => hh.cutK 2 rfl
            · refine L.pass rfl rfl rfl ⟨_, _, rfl, rfl, rfl⟩ ?_
              refine L.pass rfl rfl rfl ⟨_, _, rfl, rfl, rfl⟩ ?_
              refine L.pickT rfl rfl rfl rfl trivial ?_
              exact L.nil fun a w hh => hh.cutK 2 rfl
            refine L.move rfl rfl rfl trivial ?_
            refine' L.or [(false,40),(false,41),(false,42),(false,43)] [(false,44),(false,45),(false,46),(false,47),(false,48),(false,49),(false,50),(false,51),(false,52),(false,53),(false,54),(false,55),(false,56)] (s := 212) (p := 216) rfl rfl (fun hg17 => ?_) (fun hg17 => ?_) ?_
            rotate_left
            · refine L.move rfl rfl rfl ⟨_, rfl, rfl⟩ ?_
              refine L.move rfl rfl rfl ⟨_, rfl, rfl⟩ ?_
              refine L.gtr rfl rfl rfl rfl ⟨_, rfl, rfl⟩ ?_
              refine L.pickF rfl rfl rfl rfl trivial ?_
              exact L.nil fun a w hh => hh.cutK 3 rfl
            · refine L.pass rfl rfl rfl ⟨_, _, rfl, rfl, rfl⟩ ?_
              refine L.pass rfl rfl rfl ⟨_, _, rfl, rfl, rfl⟩ ?_
              refine L.pass rfl rfl rfl ⟨_, _, rfl, rfl, rfl⟩ ?_
              refine L.pickT rfl rfl rfl rfl trivial ?_
              exact L.nil fun a w hh => hh.cutK 3 rfl
            refine L.move rfl rfl rfl trivial ?_
            refine' L.or [(false,45),(false,46),(false,47)] [(false,48),(false,49),(false,50),(false,51),(false,52),(false,53),(false,54),(false,55),(false,56)] (s := 217) (p := 220) rfl rfl (fun hg18 => ?_) (fun hg18 => ?_) ?_
            rotate_left
            · refine L.move rfl rfl rfl ⟨_, rfl, rfl⟩ ?_
              refine L.neq rfl rfl rfl rfl ⟨_, rfl, rfl⟩ ?_
              refine L.pickF rfl rfl rfl rfl trivial ?_
              exact L.nil fun a w hh => hh.cutK 2 rfl
            · refine L.pass rfl rfl rfl ⟨_, _, rfl, rfl, rfl⟩ ?_
              refine L.pass rfl rfl rfl ⟨_, _, rfl, rfl, rfl⟩ ?_
              refine L.pickT rfl rfl rfl rfl trivial ?_
              exact L.nil fun a w hh => hh.cutK 2 rfl
            refine L.move rfl rfl rfl trivial ?_
            refine' L.or [(false,49),(false,50),(false,51)] [(false,52),(false,53),(false,54),(false,55),(false,56)] (s := 221) (p := 224) rfl rfl (fun hg19 => ?_) (fun hg19 => ?_) ?_
            rotate_left
            · refine L.move rfl rfl rfl ⟨_, rfl, rfl⟩ ?_
              refine L.neq rfl rfl rfl rfl ⟨_, rfl, rfl⟩ ?_
              refine L.pickF rfl rfl rfl rfl trivial ?_
              exact L.nil fun a w hh => hh.cutK 2 rfl
            · refine L.pass rfl rfl rfl ⟨_, _, rfl, rfl, rfl⟩ ?_
              refine L.pass rfl rfl rfl ⟨_, _, rfl, rfl, rfl⟩ ?_
              refine L.pickT rfl rfl rfl rfl trivial ?_
              exact L.nil fun a w hh => hh.cutK 2 rfl
            refine L.move rfl rfl rfl trivial ?_
            refine' L.or [(false,53),(false,54),(false,55),(false,56)] [] (s := 225) (p := 229) rfl rfl (fun hg20 => ?_) (fun hg20 => ?_) ?_
            rotate_left
            · refine L.move rfl rfl rfl ⟨_, rfl, rfl⟩ ?_
              refine L.move rfl rfl rfl ⟨_, rfl, rfl⟩ ?_
              refine L.gtr rfl rfl rfl rfl ⟨_, rfl, rfl⟩ ?_
              refine L.pickF rfl rfl rfl rfl trivial ?_
              exact L.nil fun a w hh => hh.cutK 3 rfl
            · refine L.pass rfl rfl rfl ⟨_, _, rfl, rfl, rfl⟩ ?_
              refine L.pass rfl rfl rfl ⟨_, _, rfl, rfl, rfl⟩ ?_
              refine L.pass rfl rfl rfl ⟨_, _, rfl, rfl, rfl⟩ ?_
              refine L.pickT rfl rfl rfl rfl trivial ?_
              exact L.nil fun a w hh => hh.cutK 3 rfl
            refine L.nil ?_
            refine C.next ?_
            refine C.cond rfl (fun hc5 => ?_) (fun hc5 => ?_)
            · exact absurd hc5 (by rw [hask, haskx, hz, hzx]; simp [hi1, hi2, show (moreD r c).places.length = r.places.length from rfl]; omega)
            · refine C.skip ?_
              refine C.next ?_
              refine C.seq ?_
              refine C.seq ?_
              refine C.region [(false,0)] rfl ?_
              refine L.assign rfl rfl rfl trivial ?_
              refine L.nil ?_
              refine C.next ?_
              refine C.block ?_
              refine C.loopC (γ := Nat) (fun k => r.places.length - k) (fun k => k ≤ r.places.length) (fun k => [(34, .int .i64 (k : Int))]) [(22, _), (20, _), (8, _)] (fun k => [D25, D23, D21, D19, D18, D17, D16, D15, D12, D10, D6, D4, D8, D902, D901, E2, E1, D]) 0 (by omega) ⟨(by first | rfl | (show some (Value.int _ _) = some (Value.int _ _); congr 2; omega)), trivial⟩ ⟨rfl, rfl, rfl, trivial⟩ (ds_same) ?_
              rintro k h1
              refine C.seq ?_
              refine C.seq ?_
              refine C.region [(false,0),(false,1),(false,2),(false,3)] rfl ?_
              refine L.move rfl rfl rfl trivial ?_
              refine L.move rfl rfl rfl trivial ?_
              refine L.len rfl Try.underlying22 rfl hps rfl rfl trivial ?_
              refine L.lss rfl rfl rfl rfl trivial ?_
              refine L.nil ?_
              refine C.next ?_
              refine C.condD rfl (fun hc6 => ?_) (fun hc6 => ?_)
              · simp only [List.length_map, List.length_range] at hc6
                have hk : k < r.places.length := by omega
                have hpx : ((List.range r.places.length).map fun i => vd (truths r) (hasAt i))[k]? = some (vd (truths r) (hasAt k)) := by rw [List.getElem?_map, List.getElem?_range hk]; rfl
                have hqx : ((List.range (moreD r c).places.length).map fun i => vd (truths (moreD r c)) (hasAt i))[k]? = some (vd (truths (moreD r c)) (hasAt k)) := by rw [List.getElem?_map, List.getElem?_range (show k < (moreD r c).places.length from hk)]; rfl
                refine C.skip ?_
                refine C.next ?_
                refine C.seq ?_
                refine C.block ?_
                refine C.seq ?_
                refine C.draw [] 5 [0,1,2,3,4,5,6,7,8,9,10,11,12,13,14,15] [false,true,false,false,false,false,false,true,false,false,true,true,true,true,false,false] [(false,0),(true,1),(false,2),(false,3),(false,4),(false,5),(false,6),(true,7),(false,8),(false,9),(true,10),(true,11),(true,12),(true,13),(false,14),(false,15)] Tf.follows (fun _ _ _ h => np_body (P := Try.prog) (fn := Try.f7) _ _ _ h) (by kernel_rfl) rfl ?_
                refine L.move rfl rfl rfl trivial ?_
                refine L.move rfl rfl rfl trivial ?_
                refine L.indexS rfl Try.underlying22 Tf.s3 rfl hps rfl (by omega) hpx rfl trivial (fun b1 o1 cs1 hr1 hcl1 hA1 => ?_)
                obtain rfl : cs1 = [.int .i64 _] := hr1
                refine L.loadD1 rfl (k := 0) Tf.a3 rfl hA1 (by first | simp | assumption) rfl List.not_mem_nil rfl trivial ?_
                refine L.neq rfl rfl rfl rfl trivial ?_
                refine L.move rfl rfl rfl trivial ?_
                refine' L.and [(false,6),(true,7),(false,8),(false,9),(true,10),(true,11),(true,12),(true,13),(false,14),(false,15)] [] (s := 241) (p := 251) rfl rfl (fun hg21 => ?_) (fun hg21 => ?_) ?_
                rotate_left
                · refine L.move rfl rfl rfl ⟨_, rfl, rfl⟩ ?_
                  refine L.move rfl rfl rfl ⟨_, rfl, rfl⟩ ?_
                  refine L.indexS rfl Try.underlying22 Tf.s3 rfl hps rfl (by omega) hpx rfl ⟨_, rfl, rfl⟩ (fun b2 o2 cs2 hr2 hcl2 hA2 => ?_)
                  obtain rfl : cs2 = [.int .i64 _] := hr2
                  refine L.loadD1 rfl (k := 0) Tf.a3 rfl hA2 (by first | simp | assumption) rfl List.not_mem_nil rfl ⟨_, rfl, rfl⟩ ?_
                  refine L.move rfl rfl rfl ⟨_, rfl, rfl⟩ ?_
                  refine L.move rfl rfl rfl ⟨_, rfl, rfl⟩ ?_
                  refine L.indexS rfl Try.underlying22 Tf.s3 rfl hqs rfl (by omega) hqx rfl ⟨_, rfl, rfl⟩ (fun b3 o3 cs3 hr3 hcl3 hA3 => ?_)
                  obtain rfl : cs3 = [.int .i64 _] := hr3
                  refine L.loadD1 rfl (k := 0) Tf.a3 rfl hA3 (by first | simp | assumption) rfl List.not_mem_nil rfl ⟨_, rfl, rfl⟩ ?_
                  refine L.neq rfl rfl rfl rfl ⟨_, rfl, rfl⟩ ?_
                  refine L.pickT rfl rfl rfl rfl trivial ?_
                  exact L.nil fun a w hh => hh.cutK 9 rfl
                · refine L.pass rfl rfl rfl ⟨_, _, rfl, rfl, rfl⟩ ?_
                  refine L.pass rfl rfl rfl ⟨_, _, rfl, rfl, rfl⟩ ?_
                  refine L.pass rfl rfl rfl ⟨_, _, rfl, rfl, rfl⟩ ?_
                  refine L.pass rfl rfl rfl ⟨_, _, rfl, rfl, rfl⟩ ?_
                  refine L.pass rfl rfl rfl ⟨_, _, rfl, rfl, rfl⟩ ?_
                  refine L.pass rfl rfl rfl ⟨_, _, rfl, rfl, rfl⟩ ?_
                  refine L.pass rfl rfl rfl ⟨_, _, rfl, rfl, rfl⟩ ?_
                  refine L.pass rfl rfl rfl ⟨_, _, rfl, rfl, rfl⟩ ?_
                  refine L.pass rfl rfl rfl ⟨_, _, rfl, rfl, rfl⟩ ?_
                  refine L.pickF rfl rfl rfl rfl trivial ?_
                  exact L.nil fun a w hh => hh.cutK 9 rfl
                refine L.nil ?_
                refine C.next ?_
                refine C.cond rfl (fun hc7 => ?_) (fun hc7 => ?_)
                · exact absurd hc7 (by simp; intro h; exact (vd_sub hnx (fun t ht => more_sub ht) h).symm)
                · refine C.skip ?_
                  refine C.blockEnd ?_
                  refine C.next ?_
                  refine C.region [(false,0),(false,1),(false,2)] rfl ?_
                  refine L.move rfl rfl rfl trivial ?_
                  refine L.add rfl rfl rfl (by simp only [inK]; omega) rfl trivial ?_
                  refine L.assign rfl rfl rfl trivial ?_
                  refine L.nil ?_
                  exact C.againR 15 (k + 1) (by omega) (by omega) ⟨(by first | rfl | (show some (Value.int _ _) = some (Value.int _ _); congr 2; omega)), trivial⟩ rfl rfl (List.Sublist.refl _) (ds_same)
              · refine C.exit ?_
                refine C.thenExit ?_
                refine C.thenExit ?_
                refine C.blockExit ?_
                refine C.next ?_
                refine C.seq ?_
                refine C.region [(false,0),(false,1)] rfl ?_
                refine L.callV rfl rfl rfl (fun D28 hD28 => awake_ok _) rfl trivial ?_
                refine L.assign rfl rfl rfl trivial ?_
                refine L.nil ?_
                refine C.next ?_
                refine C.ret ?_
                exact leave (vs := [_]) rfl rfl rfl ⟨rfl, trivial⟩ (fun D hD => rfl)
end Go.Fs
