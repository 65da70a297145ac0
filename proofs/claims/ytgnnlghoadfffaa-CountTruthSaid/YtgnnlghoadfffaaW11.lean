/- Walks: the reference: bounds, verdicts, those that have a chair. -/
import Derived.Test.YtgnnlghoadfffaaW10
namespace Go.Fs
open Go.Proofs
open C1
theorem foldl_min_low (l : List Int) (a : Int) (hl : l ≠ []) (h : ∀ x ∈ l, x ≤ a) : l.foldl min a = minL l := by
  cases l with
  | nil => exact absurd rfl hl
  | cons x l => rw [List.foldl_cons, minL, Int.min_eq_right (h x List.mem_cons_self)]
theorem foldl_max_low (l : List Int) (a : Int) (hl : l ≠ []) (h : ∀ x ∈ l, a ≤ x) : l.foldl max a = maxL l := by
  cases l with
  | nil => exact absurd rfl hl
  | cons x l => rw [List.foldl_cons, maxL, Int.max_eq_right (h x List.mem_cons_self)]
theorem partOf_bound' {t : List Int} (h9 : t.length ≤ 9) (hb : ∀ x ∈ t, 0 ≤ x ∧ x ≤ 1) (i j : Nat) : 0 ≤ partOf t i j ∧ partOf t i j ≤ 9 := by
  unfold partOf sumFrom
  have key : ∀ l : List Int, (∀ x ∈ l, 0 ≤ x ∧ x ≤ 1) → 0 ≤ l.sum ∧ l.sum ≤ l.length := by
    intro l
    induction l with
    | nil => simp
    | cons x l ih =>
      intro h
      have h1 := h x List.mem_cons_self
      have h2 := ih fun y hy => h y (List.mem_cons_of_mem _ hy)
      rw [List.sum_cons, List.length_cons]; omega
  have h1 := key ((t.drop i).take (j + 1 - i)) (fun x hx => hb x (List.mem_of_mem_drop (List.mem_of_mem_take hx)))
  have h2 : ((t.drop i).take (j + 1 - i)).length ≤ t.length := by rw [List.length_take, List.length_drop]; omega
  omega
theorem foldr_lo {ts : List (List Int)} {i j : Nat} (hne : ts ≠ []) (hall : ∀ t ∈ ts, t.length ≤ 9 ∧ ∀ x ∈ t, 0 ≤ x ∧ x ≤ 1) (_ : True ∨ i = i) : (ts.map fun t => partOf t i j).foldl min 1099511627776 = loOf ts i j := by
  refine foldl_min_low _ _ (by simpa using hne) fun x hx => ?_
  obtain ⟨t, ht, rfl⟩ := List.mem_map.1 hx
  have := partOf_bound' (hall t ht).1 (hall t ht).2 i j; omega
theorem foldr_hi {ts : List (List Int)} {i j : Nat} (hne : ts ≠ []) (hall : ∀ t ∈ ts, t.length ≤ 9 ∧ ∀ x ∈ t, 0 ≤ x ∧ x ≤ 1) (_ : True ∨ i = i) : (ts.map fun t => partOf t i j).foldl max (-1) = hiOf ts i j := by
  refine foldl_max_low _ _ (by simpa using hne) fun x hx => ?_
  obtain ⟨t, ht, rfl⟩ := List.mem_map.1 hx
  have := partOf_bound' (hall t ht).1 (hall t ht).2 i j; omega
theorem cnt_yes {ts : List (List Int)} {q : List Int → Bool} {k : Nat} {t : List Int} (h : ts[k]? = some t) (hq : q t = true) : ((((ts.take (k + 1)).filter q).length : Nat) : Int) = ((ts.take k).filter q).length + 1 := by
  rw [List.take_add_one, h, Option.toList_some, List.filter_append, List.length_append]; simp [hq]
theorem cnt_no {ts : List (List Int)} {q : List Int → Bool} {k : Nat} {t : List Int} (h : ts[k]? = some t) (hq : q t = false) : ((((ts.take (k + 1)).filter q).length : Nat) : Int) = ((ts.take k).filter q).length := by
  rw [List.take_add_one, h, Option.toList_some, List.filter_append, List.length_append]; simp [hq]
theorem cnt_has {ts : List (List Int)} {p k : Nat} {t : List Int} (h : ts[k]? = some t) (hb : t.getD p 0 = 0 ∨ t.getD p 0 = 1) : ((((ts.take (k + 1)).filter (hasAt p)).length : Nat) : Int) = ((ts.take k).filter (hasAt p)).length + t.getD p 0 := by
  rcases hb with hb | hb
  · rw [cnt_no h (by unfold hasAt; rw [hb]; rfl), hb]; omega
  · rw [cnt_yes h (by unfold hasAt; rw [hb]; rfl), hb]
theorem vd_count {ts : List (List Int)} {q : List Int → Bool} (hne : ts ≠ []) : (if ((ts.filter q).length : Int) = ts.length then (1 : Int) else if ((ts.filter q).length : Int) = 0 then 2 else 3) = vd ts q := by
  cases ts with
  | nil => exact absurd rfl hne
  | cons t0 l =>
    simp only [vd]
    by_cases h1 : ∀ t ∈ t0 :: l, q t = true
    · have e : (t0 :: l).filter q = t0 :: l := List.filter_eq_self.2 h1
      rw [e, if_pos rfl, if_pos, if_pos (h1 t0 List.mem_cons_self)]
      rw [List.all_eq_true]; intro t ht; rw [h1 t ht, h1 t0 List.mem_cons_self]; rfl
    · have hn : ((t0 :: l).filter q).length ≠ (t0 :: l).length := fun e => h1 (List.length_filter_eq_length_iff.1 e)
      rw [if_neg (by omega)]
      by_cases h0 : ∀ t ∈ t0 :: l, q t = false
      · have e : (t0 :: l).filter q = [] := by rw [List.filter_eq_nil_iff]; intro t ht; rw [h0 t ht]; simp
        rw [e, if_pos (show ((([] : List (List Int)).length : Nat) : Int) = 0 from rfl), if_pos, if_neg (by rw [h0 t0 List.mem_cons_self]; simp)]
        rw [List.all_eq_true]; intro t ht; rw [h0 t ht, h0 t0 List.mem_cons_self]; rfl
      · have hz : ((t0 :: l).filter q) ≠ [] := fun e => h0 (fun t ht => by have := List.filter_eq_nil_iff.1 e t ht; simpa using this)
        rw [if_neg (by have := List.length_pos_iff.2 hz; omega), if_neg]
        intro ha
        have hall := List.all_eq_true.1 ha
        cases hq : q t0 with
        | true => exact h1 fun t ht => by have := hall t ht; rw [hq] at this; simpa using this
        | false => exact h0 fun t ht => by have := hall t ht; rw [hq] at this; simpa using this
open C1
theorem ChairsR_ok (sv : Value) (ts : List (List Int)) (i j : Int) (D : Data) (hS : Sl D RL 1 sv ts) (hne : ts ≠ []) (hall : ∀ t ∈ ts, t.length ≤ 9 ∧ ∀ x ∈ t, 0 ≤ x ∧ x ≤ 1) (hi0 : 0 ≤ i) (hij : i ≤ j) (hjl : ∀ t ∈ ts, j < t.length) :
    Fn Try.prog 26 #[sv, .int .i64 i, .int .i64 j] D (fun _ v => v = .agg #[.int .i64 (loOf ts i.toNat j.toNat), .int .i64 (hiOf ts i.toNat j.toNat)]) := by
  have hl := hS.len
  refine enter 26 Try.func26 rfl rfl rfl rfl fun h0 => ?_
  refine C.seq ?_
  refine C.region [(false,0)] rfl ?_
  refine L.alloc rfl Tf.z43 rfl rfl trivial (fun q1 => ?_)
  refine L.nil ?_
  refine C.next ?_
  refine C.seq ?_
  refine C.region [(false,0),(false,1),(false,2)] rfl ?_
  refine L.callV rfl rfl rfl (fun D1 hD1 => Empty_ok _) rfl trivial ?_
  refine L.alloc rfl Tf.z43 rfl rfl trivial (fun q2 => ?_)
  refine L.storeW rfl rfl rfl rfl Tf.s43 (by first | rfl | (simp only [ints_length, *]; done) | (simp only [ints_length, *]; rfl) | (simp only [ints_length, *]; omega)) (by first | rfl | (simp only [ints_length, *]; done) | (simp only [ints_length, *]; rfl) | (simp only [ints_length, *]; omega)) (Has.head) (by first | exact ints_cell1 _ | simp [cell1]) trivial ?_
  refine L.nil ?_
  refine C.next ?_
  refine C.seq ?_
  refine C.seq ?_
  refine C.region [(false,0)] rfl ?_
  refine L.assign rfl rfl rfl trivial ?_
  refine L.nil ?_
  refine C.next ?_
  refine C.block ?_
  refine C.loopR (γ := Nat) (fun k => ts.length - k) (fun k => k ≤ ts.length) (fun k => [(8, .int .i64 (k : Int))]) [(7, _), (6, _), (0, _), (1, _), (2, _)] (fun k => [(q2, .cells [.int .i64 (((ts.take k).map fun t => partOf t i.toNat j.toNat).foldl min 1099511627776), .int .i64 (((ts.take k).map fun t => partOf t i.toNat j.toNat).foldl max (-1))].toArray 43 (0, 0)), (q1, .cells [.int .i64 0, .int .i64 0].toArray 43 (0, 0))]) (fun k => [D]) 0 (by omega) ⟨(by first | rfl | (show some (Value.int _ _) = some (Value.int _ _); congr 2; omega)), trivial⟩ ⟨rfl, rfl, rfl, rfl, rfl, trivial⟩ (List.Sublist.refl _) (ds_same) ?_
  rintro k h1
  refine C.seq ?_
  refine C.seq ?_
  refine C.region [(false,0),(false,1),(false,2),(false,3)] rfl ?_
  refine L.move rfl rfl rfl trivial ?_
  refine L.move rfl rfl rfl trivial ?_
  refine L.len rfl Try.underlying37 rfl (by assumption) rfl rfl trivial ?_
  refine L.lss rfl rfl rfl rfl trivial ?_
  refine L.nil ?_
  refine C.next ?_
  refine C.condD rfl (fun hc1 => ?_) (fun hc1 => ?_)
  · have hk : k < ts.length := by omega
    obtain ⟨t, ht⟩ : ∃ t, ts[k]? = some t := ⟨_, List.getElem?_eq_getElem hk⟩
    have htm := List.mem_of_getElem? ht
    obtain ⟨htl, htb⟩ := hall t htm
    refine C.skip ?_
    refine C.next ?_
    refine C.seq ?_
    refine C.block ?_
    refine C.draw [] 4 [0,1,2,3,4,5,6,7,8,9] [false,true,true,true,true,true,true,true,false,false] [(false,0),(true,1),(true,2),(true,3),(true,4),(true,5),(true,6),(true,7),(false,8),(false,9)] Tf.follows (fun _ _ _ h => np_body (P := Try.prog) (fn := Try.f26) _ _ _ h) (by kernel_rfl) rfl ?_
    refine L.loadBW rfl Tf.a43 rfl (List.Mem.head _) Tf.s43 List.not_mem_nil rfl trivial ?_
    refine L.move rfl rfl rfl trivial ?_
    refine L.move rfl rfl rfl trivial ?_
    refine L.indexS rfl Try.underlying37 Tf.s22 rfl hS rfl (by omega) ht rfl trivial (fun b1 o1 cs1 hr1 hcl1 hA1 => ?_)
    obtain ⟨w1, rfl, hw1⟩ := hr1
    refine L.loadD1 rfl (k := 0) Tf.a22 rfl hA1 (by first | simp | assumption) rfl List.not_mem_nil rfl trivial ?_
    refine L.move rfl rfl rfl trivial ?_
    refine L.move rfl rfl rfl trivial ?_
    refine L.callV rfl rfl rfl (fun D2 hD2 => Sum_ok _ t i j i.toNat (j.toNat + 1 - i.toNat) _ (hw1.up RI.up (hD2 _ (by simp))) (by omega) (by omega) (by have := hjl t htm; omega) htb (by omega)) rfl trivial ?_
    refine L.callV rfl rfl rfl (fun D3 hD3 => WiderR_ok _ _ _ _) rfl trivial ?_
    refine L.storeW rfl rfl rfl rfl Tf.s43 (by first | rfl | (simp only [ints_length, *]; done) | (simp only [ints_length, *]; rfl) | (simp only [ints_length, *]; omega)) (by first | rfl | (simp only [ints_length, *]; done) | (simp only [ints_length, *]; rfl) | (simp only [ints_length, *]; omega)) (Has.head) (by first | exact ints_cell1 _ | simp [cell1]) trivial ?_
    refine L.nil ?_
    refine C.blockEnd ?_
    refine C.next ?_
    refine C.region [(false,0),(false,1),(false,2)] rfl ?_
    refine L.move rfl rfl rfl trivial ?_
    refine L.add rfl rfl rfl (by simp only [inK]; omega) rfl trivial ?_
    refine L.assign rfl rfl rfl trivial ?_
    refine L.nil ?_
    rw [show sumFrom t i.toNat (j.toNat + 1 - i.toNat) = (fun t => partOf t i.toNat j.toNat) t from rfl, ← foldl_min_snoc ht, ← foldl_max_snoc ht]
    exact C.againR 17 (k + 1) (by omega) (by omega) ⟨(by first | rfl | (show some (Value.int _ _) = some (Value.int _ _); congr 2; omega)), trivial⟩ rfl rfl (List.Sublist.refl _) (ds_same)
  · obtain rfl : k = ts.length := by omega
    rw [List.take_length, foldr_lo hne hall (by omega), foldr_hi hne hall (by omega)]
    refine C.exit ?_
    refine C.thenExit ?_
    refine C.thenExit ?_
    refine C.blockExit ?_
    refine C.next ?_
    refine C.seq ?_
    refine C.region [(false,0),(false,1)] rfl ?_
    refine L.loadBW rfl Tf.a43 rfl (List.Mem.head _) Tf.s43 List.not_mem_nil rfl trivial ?_
    refine L.storeW rfl rfl rfl rfl Tf.s43 (by first | rfl | (simp only [ints_length, *]; done) | (simp only [ints_length, *]; rfl) | (simp only [ints_length, *]; omega)) (by first | rfl | (simp only [ints_length, *]; done) | (simp only [ints_length, *]; rfl) | (simp only [ints_length, *]; omega)) (.tail (Has.head)) (by first | exact ints_cell1 _ | simp [cell1]) trivial ?_
    refine L.nil ?_
    refine C.next ?_
    refine C.ret ?_
    exact leave (vs := [_]) rfl rfl rfl ⟨⟨_, _, _, rfl, (List.Mem.tail _ (List.Mem.head _)), Or.inr ⟨Tf.a43, (by first | exact Tf.s43 | (simp only [List.size_toArray, ints_length, *]; exact Tf.s43)), rfl⟩⟩, trivial⟩ (fun D hD => rfl)
theorem PlaceR_ok (sv : Value) (ts : List (List Int)) (p : Nat) (D : Data) (hS : Sl D RL 1 sv ts) (hne : ts ≠ []) (hlen : ts.length ≤ 10000) (hall : ∀ t ∈ ts, t.length ≤ 9 ∧ ∀ x ∈ t, 0 ≤ x ∧ x ≤ 1) (hp : ∀ t ∈ ts, p < t.length) :
    Fn Try.prog 29 #[sv, .int .i64 (p : Int)] D (fun _ v => v = .int .i64 (vd ts (hasAt p))) := by
  refine enter 26 Try.func29 rfl rfl rfl rfl fun h0 => ?_
  refine C.seq ?_
  refine C.region [(false,0)] rfl ?_
  refine L.assign rfl rfl rfl trivial ?_
  refine L.nil ?_
  refine C.next ?_
  refine C.seq ?_
  refine C.region [(false,0)] rfl ?_
  refine L.assign rfl rfl rfl trivial ?_
  refine L.nil ?_
  refine C.next ?_
  refine C.seq ?_
  refine C.seq ?_
  refine C.region [(false,0)] rfl ?_
  refine L.assign rfl rfl rfl trivial ?_
  refine L.nil ?_
  refine C.next ?_
  refine C.block ?_
  refine C.loopC (γ := Nat) (fun k => ts.length - k) (fun k => k ≤ ts.length) (fun k => [(6, .int .i64 (k : Int)), (5, .int .i64 (((ts.take k).filter (hasAt p)).length : Int))]) [(4, _), (0, _), (1, _)] (fun k => [D]) 0 (by omega) ⟨(by first | rfl | (show some (Value.int _ _) = some (Value.int _ _); congr 2; omega)), (by first | rfl | (show some (Value.int _ _) = some (Value.int _ _); congr 2; omega)), trivial⟩ ⟨rfl, rfl, rfl, trivial⟩ (ds_same) ?_
  rintro k h1
  refine C.seq ?_
  refine C.seq ?_
  refine C.region [(false,0),(false,1),(false,2),(false,3)] rfl ?_
  refine L.move rfl rfl rfl trivial ?_
  refine L.move rfl rfl rfl trivial ?_
  refine L.len rfl Try.underlying37 rfl (by assumption) rfl rfl trivial ?_
  refine L.lss rfl rfl rfl rfl trivial ?_
  refine L.nil ?_
  refine C.next ?_
  refine C.condD rfl (fun hc1 => ?_) (fun hc1 => ?_)
  · have hk : k < ts.length := by omega
    obtain ⟨t, ht⟩ : ∃ t, ts[k]? = some t := ⟨_, List.getElem?_eq_getElem hk⟩
    have htm := List.mem_of_getElem? ht
    obtain ⟨htl, htb⟩ := hall t htm
    have hpl := hp t htm
    have hx : t[p]? = some (t.getD p 0) := by rw [List.getD_eq_getElem?_getD, List.getElem?_eq_getElem hpl]; rfl
    have hlf := List.length_filter_le (hasAt p) (ts.take k)
    have hlt : (ts.take k).length ≤ k := List.length_take_le _ _
    have hbit := getD_bit htb p
    refine C.skip ?_
    refine C.next ?_
    refine C.seq ?_
    refine C.block ?_
    refine C.region [(false,0),(false,1),(false,2),(false,3),(false,4),(false,5),(false,6),(false,7),(false,8),(false,9)] rfl ?_
    refine L.move rfl rfl rfl trivial ?_
    refine L.move rfl rfl rfl trivial ?_
    refine L.move rfl rfl rfl trivial ?_
    refine L.indexS rfl Try.underlying37 Tf.s22 rfl hS rfl (by omega) ht rfl trivial (fun b1 o1 cs1 hr1 hcl1 hA1 => ?_)
    obtain ⟨w1, rfl, hw1⟩ := hr1
    refine L.loadD1 rfl (k := 0) Tf.a22 rfl hA1 (by first | simp | assumption) rfl List.not_mem_nil rfl trivial ?_
    refine L.move rfl rfl rfl trivial ?_
    refine L.indexS rfl Try.underlying22 Tf.s3 rfl hw1 rfl (by omega) hx rfl trivial (fun b2 o2 cs2 hr2 hcl2 hA2 => ?_)
    obtain rfl : cs2 = [.int .i64 _] := hr2
    refine L.loadD1 rfl (k := 0) Tf.a3 rfl hA2 (by first | simp | assumption) rfl List.not_mem_nil rfl trivial ?_
    refine L.add rfl rfl rfl (by simp only [inK]; omega) rfl trivial ?_
    refine L.assign rfl rfl rfl trivial ?_
    refine L.nil ?_
    refine C.blockEnd ?_
    refine C.next ?_
    refine C.region [(false,0),(false,1),(false,2)] rfl ?_
    refine L.move rfl rfl rfl trivial ?_
    refine L.add rfl rfl rfl (by simp only [inK]; omega) rfl trivial ?_
    refine L.assign rfl rfl rfl trivial ?_
    refine L.nil ?_
    exact C.againR 19 (k + 1) (by omega) (by omega) ⟨(by first | rfl | (show some (Value.int _ _) = some (Value.int _ _); congr 2; omega)), (by rw [cnt_has ht (getD_bit htb p)]; rfl), trivial⟩ rfl rfl (List.Sublist.refl _) (ds_same)
  · obtain rfl : k = ts.length := by omega
    rw [List.take_length]
    refine C.exit ?_
    refine C.thenExit ?_
    refine C.thenExit ?_
    refine C.blockExit ?_
    refine C.next ?_
    refine C.seq ?_
    refine C.region [(false,0),(false,1),(false,2),(false,3),(false,4)] rfl ?_
    refine L.move rfl rfl rfl trivial ?_
    refine L.move rfl rfl rfl trivial ?_
    refine L.len rfl Try.underlying37 rfl (by assumption) rfl rfl trivial ?_
    refine L.callV rfl rfl rfl (fun D1 hD1 => Verdict_ok _ _ _) rfl trivial ?_
    refine L.assign rfl rfl rfl trivial ?_
    refine L.nil ?_
    refine C.next ?_
    refine C.ret ?_
    exact leave (vs := [_]) rfl rfl rfl ⟨rfl, trivial⟩ (fun D hD => by show Value.int _ _ = _; rw [vd_count hne])
theorem RightR_ok (sv : Value) (ts : List (List Int)) (c : Cnt) (D : Data) (hS : Sl D RL 1 sv ts) (hne : ts ≠ []) (hlen : ts.length ≤ 10000) (hall : ∀ t ∈ ts, t.length ≤ 9 ∧ ∀ x ∈ t, 0 ≤ x ∧ x ≤ 1) (h0 : 0 ≤ c.many) (h1 : ∀ t ∈ ts, c.many ≤ t.length) (h2 : 0 ≤ c.num) (h3 : c.num ≤ 9) :
    Fn Try.prog 30 #[sv, cV c] D (fun _ v => v = .int .i64 (vd ts (fun t => decide (errOf t c = 0)))) := by
  have hm0 := h0
  have hm1 := h1
  refine enter 26 Try.func30 rfl rfl rfl rfl fun h0 => ?_
  refine C.seq ?_
  refine C.region [(false,0),(false,1)] rfl ?_
  refine L.boxD rfl rfl rfl rfl trivial (fun q1 E1 hE1 hB1 => ?_)
  refine L.assign rfl rfl rfl trivial ?_
  refine L.nil ?_
  refine C.next ?_
  refine C.seq ?_
  refine C.region [(false,0)] rfl ?_
  refine L.assign rfl rfl rfl trivial ?_
  refine L.nil ?_
  refine C.next ?_
  refine C.seq ?_
  refine C.seq ?_
  refine C.region [(false,0)] rfl ?_
  refine L.assign rfl rfl rfl trivial ?_
  refine L.nil ?_
  refine C.next ?_
  refine C.block ?_
  refine C.loopC (γ := Nat) (fun k => ts.length - k) (fun k => k ≤ ts.length) (fun k => [(6, .int .i64 (k : Int)), (5, .int .i64 (((ts.take k).filter (fun t => decide (errOf t c = 0))).length : Int))]) [(4, _), (3, _), (0, _)] (fun k => [E1, D]) 0 (by omega) ⟨(by first | rfl | (show some (Value.int _ _) = some (Value.int _ _); congr 2; omega)), (by first | rfl | (show some (Value.int _ _) = some (Value.int _ _); congr 2; omega)), trivial⟩ ⟨rfl, rfl, rfl, trivial⟩ (ds_same) ?_
  rintro k hk1
  refine C.seq ?_
  refine C.seq ?_
  refine C.region [(false,0),(false,1),(false,2),(false,3)] rfl ?_
  refine L.move rfl rfl rfl trivial ?_
  refine L.move rfl rfl rfl trivial ?_
  refine L.len rfl Try.underlying37 rfl (by assumption) rfl rfl trivial ?_
  refine L.lss rfl rfl rfl rfl trivial ?_
  refine L.nil ?_
  refine C.next ?_
  refine C.condD rfl (fun hc1 => ?_) (fun hc1 => ?_)
  · have hk : k < ts.length := by omega
    obtain ⟨t, ht⟩ : ∃ t, ts[k]? = some t := ⟨_, List.getElem?_eq_getElem hk⟩
    have htm := List.mem_of_getElem? ht
    obtain ⟨htl, htb⟩ := hall t htm
    have hlf := List.length_filter_le (fun t => decide (errOf t c = 0)) (ts.take k)
    have hlt : (ts.take k).length ≤ k := List.length_take_le _ _
    refine C.skip ?_
    refine C.next ?_
    refine C.seq ?_
    refine C.block ?_
    refine C.seq ?_
    refine C.draw [] 4 [0,1,2,3,4,5,6] [false,true,false,false,true,false,false] [(false,0),(true,1),(false,2),(false,3),(true,4),(false,5),(false,6)] Tf.follows (fun _ _ _ h => np_body (P := Try.prog) (fn := Try.f30) _ _ _ h) (by kernel_rfl) rfl ?_
    refine L.move rfl rfl rfl trivial ?_
    refine L.move rfl rfl rfl trivial ?_
    refine L.indexS rfl Try.underlying37 Tf.s22 rfl hS rfl (by omega) ht rfl trivial (fun b1 o1 cs1 hr1 hcl1 hA1 => ?_)
    obtain ⟨w1, rfl, hw1⟩ := hr1
    refine L.loadD1 rfl (k := 0) Tf.a22 rfl hA1 (by first | simp | assumption) rfl List.not_mem_nil rfl trivial ?_
    refine L.loadDW rfl Tf.a50 rfl hB1 (by first | simp | assumption) Tf.s50 List.not_mem_nil rfl trivial ?_
    refine L.callV rfl rfl rfl (fun D1 hD1 => Error_ok _ t c _ (hw1.up RI.up (hD1 _ (by simp))) hm0 (hm1 t htm) h2 h3 htb (by omega)) rfl trivial ?_
    refine L.eql rfl rfl rfl rfl trivial ?_
    refine L.nil ?_
    refine C.next ?_
    refine C.condD rfl (fun hc2 => ?_) (fun hc2 => ?_)
    · refine C.region [(false,0),(false,1),(false,2)] rfl ?_
      refine L.move rfl rfl rfl trivial ?_
      refine L.add rfl rfl rfl (by simp only [inK]; omega) rfl trivial ?_
      refine L.assign rfl rfl rfl trivial ?_
      refine L.nil ?_
      refine C.blockEnd ?_
      refine C.next ?_
      refine C.region [(false,0),(false,1),(false,2)] rfl ?_
      refine L.move rfl rfl rfl trivial ?_
      refine L.add rfl rfl rfl (by simp only [inK]; omega) rfl trivial ?_
      refine L.assign rfl rfl rfl trivial ?_
      refine L.nil ?_
      exact C.againR 19 (k + 1) (by omega) (by omega) ⟨(by first | rfl | (show some (Value.int _ _) = some (Value.int _ _); congr 2; omega)), (by rw [cnt_yes ht (by simpa using hc2)]; rfl), trivial⟩ rfl rfl (List.Sublist.refl _) (ds_same)
    · refine C.skip ?_
      refine C.blockEnd ?_
      refine C.next ?_
      refine C.region [(false,0),(false,1),(false,2)] rfl ?_
      refine L.move rfl rfl rfl trivial ?_
      refine L.add rfl rfl rfl (by simp only [inK]; omega) rfl trivial ?_
      refine L.assign rfl rfl rfl trivial ?_
      refine L.nil ?_
      exact C.againR 16 (k + 1) (by omega) (by omega) ⟨(by first | rfl | (show some (Value.int _ _) = some (Value.int _ _); congr 2; omega)), (by rw [cnt_no ht (by simpa using hc2)]; rfl), trivial⟩ rfl rfl (List.Sublist.refl _) (ds_same)
  · obtain rfl : k = ts.length := by omega
    rw [List.take_length]
    refine C.exit ?_
    refine C.thenExit ?_
    refine C.thenExit ?_
    refine C.blockExit ?_
    refine C.next ?_
    refine C.seq ?_
    refine C.region [(false,0),(false,1),(false,2),(false,3),(false,4)] rfl ?_
    refine L.move rfl rfl rfl trivial ?_
    refine L.move rfl rfl rfl trivial ?_
    refine L.len rfl Try.underlying37 rfl (by assumption) rfl rfl trivial ?_
    refine L.callV rfl rfl rfl (fun D2 hD2 => Verdict_ok _ _ _) rfl trivial ?_
    refine L.assign rfl rfl rfl trivial ?_
    refine L.nil ?_
    refine C.next ?_
    refine C.ret ?_
    exact leave (vs := [_]) rfl rfl rfl ⟨rfl, trivial⟩ (fun D hD => by show Value.int _ _ = _; rw [vd_count hne])
end Go.Fs
