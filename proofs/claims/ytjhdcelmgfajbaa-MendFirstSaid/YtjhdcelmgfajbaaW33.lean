/- Walks: a yard with some of its claims; the law MendFirst. -/
import Derived.Test.YtjhdcelmgfajbaaW29
namespace Go.Fs
open Go.Proofs
open C7
def someK (cl : List (Int × Int)) (b : Nat) : Nat → List (Int × Int)
  | 0 => []
  | k + 1 => if b.testBit k = true then someK cl b k ++ cl[k]?.toList else someK cl b k
theorem someK_yes {cl : List (Int × Int)} {b k : Nat} {x : Int × Int} (hx : cl[k]? = some x) (h : b.testBit k = true) : someK cl b (k + 1) = someK cl b k ++ [x] := by rw [someK, if_pos h, hx]; rfl
theorem someK_no {cl : List (Int × Int)} {b k : Nat} (h : b.testBit k = false) : someK cl b (k + 1) = someK cl b k := by rw [someK, if_neg (by rw [h]; simp)]
theorem someK_len (cl : List (Int × Int)) (b : Nat) : ∀ k, (someK cl b k).length ≤ k
  | 0 => Nat.le_refl _
  | k + 1 => by
    have := someK_len cl b k
    rw [someK]
    split
    · rw [List.length_append]
      have : cl[k]?.toList.length ≤ 1 := by cases cl[k]? <;> simp
      omega
    · omega
/-- The yard with some of its claims. -/
def someY (y : YardD) (b : Nat) : YardD := { y with claims := someK y.claims b y.claims.length }
theorem someK_low {cl : List (Int × Int)} {n : Nat} : ∀ k, someK cl (2 ^ n - 1) k = cl.take (min k n)
  | 0 => by simp [someK]
  | k + 1 => by
    rw [someK, Nat.testBit_two_pow_sub_one, someK_low k]
    by_cases h : k < n
    · rw [if_pos (by simpa using h), Nat.min_eq_left (by omega), Nat.min_eq_left (by omega), List.take_add_one]
    · rw [if_neg (by simpa using h), Nat.min_eq_right (by omega), Nat.min_eq_right (by omega)]
theorem someY_low {y : YardD} {n : Nat} (h : n ≤ y.claims.length) : someY y (2 ^ n - 1) = takeC y n := by
  unfold someY takeC; rw [someK_low, Nat.min_eq_right h]
theorem fault_take {y : YardD} (h : fault y = 0) (n : Nat) : fault (takeC y n) = 0 := by
  have hyo := yOk h
  unfold fault at h ⊢
  have hl : (takeC y n).claims.length ≤ y.claims.length := by show (y.claims.take n).length ≤ _; rw [List.length_take]; omega
  split at h
  · omega
  · rename_i h1
    rw [if_neg (by show ¬ (7 < y.chairs.length ∨ 5 < (takeC y n).claims.length); omega)]
    split at h
    · omega
    · rename_i h2
      have h3 : yardOk (takeC y n) = true := by
        have : yardOk y = true := by simpa using h2
        simp only [yardOk, Bool.and_eq_true, List.all_eq_true] at this ⊢
        exact ⟨this.1, fun r hr => this.2 r (List.mem_of_mem_take hr)⟩
      rw [if_neg (by rw [h3]; simp)]
      exact h
theorem bnd_err {y : YardD} (h : fault y = 0) : (boundsV y).2 = if scenesD y [] = [] then 11 else 0 := by
  by_cases hs : scenesD y [] = []
  · rw [if_pos hs]; unfold boundsV; rw [if_neg (by omega), hs]; rfl
  · rw [if_neg hs]
    have : askS y = 0 := by unfold askS; rw [if_neg (by omega), if_neg fun e => hs ((ns_nil (yOk h)).1 e)]
    rw [bounds_is this]
theorem take_free {y : YardD} (h : fault y = 0) : scenesD (takeC y 0) [] ≠ [] := by
  have ht := nth_truth (yOk h) 0
  exact List.ne_nil_of_mem (mem_scenes.2 ⟨_, (ht : isTruth (takeC y 0) _ = true), rfl, rfl⟩)
theorem firstP_iff {y : YardD} {i : Nat} : firstP y i = true ↔ scenesD (takeC y (i + 1)) [] = [] := by
  unfold firstP
  rw [Bool.not_eq_true', decide_eq_false_iff_not, ← List.length_eq_zero_iff]; omega
theorem mf_take {y : YardD} (h : fault y = 0) {k : Nat} (hk : ∀ i, i < k → firstP y i = false) : scenesD (takeC y k) [] ≠ [] := by
  cases k with
  | zero => exact take_free h
  | succ k => intro e; have := hk k (by omega); rw [firstP_iff.2 e] at this; cases this
theorem mf_none {y : YardD} (h : fault y = 0) (he : (firstV y).2 ≠ 0) : ((decide ((firstV y).2 = 7) && decide ((boundsV y).2 = 0)) && true) = true := by
  unfold firstV at he ⊢
  rw [if_neg (by omega)] at he ⊢
  cases e : (List.range y.claims.length).find? (firstP y) with
  | some i => rw [e] at he; exact absurd rfl he
  | none =>
    rw [List.find?_eq_none] at e
    have := mf_take h (k := y.claims.length) fun i hi => by simpa using e i (List.mem_range.2 hi)
    have e2 : takeC y y.claims.length = y := by unfold takeC; rw [List.take_length]
    rw [e2] at this
    rw [bnd_err h, if_neg this]; rfl
theorem mf_some {y : YardD} (h : fault y = 0) (he : (firstV y).2 = 0) : ∃ i : Nat, firstV y = ((i : Int), 0) ∧ i < y.claims.length ∧ (boundsV (someY y (2 ^ i - 1))).2 = 0 ∧ (boundsV (someY y (2 * 2 ^ i - 1))).2 = 11 := by
  unfold firstV at he ⊢
  rw [if_neg (by omega)] at he ⊢
  cases e : (List.range y.claims.length).find? (firstP y) with
  | none => rw [e] at he; simp at he
  | some i =>
    rw [List.find?_range_eq_some] at e
    have hi := List.mem_range.1 e.2.1
    refine ⟨i, rfl, hi, ?_, ?_⟩
    · rw [someY_low (by omega), bnd_err (fault_take h i), if_neg (mf_take h fun j hj => by simpa using e.2.2 j hj)]
    · rw [show 2 * 2 ^ i = 2 ^ (i + 1) by rw [Nat.pow_succ]; omega, someY_low (by omega), bnd_err (fault_take h _), if_pos (firstP_iff.1 e.1)]
theorem some_ok (yv : Value) (y : YardD) (b : Nat) (z : Int) (D : Data) (hz : z = (b : Int)) (hy : YardIs D yv y) (_hb : b < 256) (hl5 : y.claims.length ≤ 50) : Fn Try.prog 62 #[yv, .int .i64 z] D (fun D' v => YardIs D' v (someY y b)) := by
  obtain ⟨cv, qv, rfl, hc, hq⟩ := hy
  subst hz
  refine enter 33 Try.func62 rfl rfl rfl rfl fun h0 => ?_
  refine C.seq ?_
  refine C.region [(false,0),(false,1)] rfl ?_
  refine L.boxD rfl rfl rfl rfl trivial (fun q1 E1 hE1 hB1 => ?_)
  refine L.alloc rfl Tf.z25 rfl rfl trivial (fun q2 => ?_)
  refine L.nil ?_
  refine C.next ?_
  refine C.seq ?_
  refine C.region [(false,0),(false,1),(false,2)] rfl ?_
  refine L.loadDW rfl Tf.a25 rfl hB1 (by first | simp | assumption) Tf.s25 List.not_mem_nil rfl trivial ?_
  refine L.alloc rfl Tf.z25 rfl rfl trivial (fun q3 => ?_)
  refine L.storeW rfl rfl rfl rfl Tf.s25 (by first | rfl | (simp only [ints_length, *]; done) | (simp only [ints_length, *]; rfl) | (simp only [ints_length, *]; omega)) (by first | rfl | (simp only [ints_length, *]; done) | (simp only [ints_length, *]; rfl) | (simp only [ints_length, *]; omega)) (Has.head) (cell1_yard hc.cell1 hq.cell1) trivial ?_
  refine L.nil ?_
  refine C.next ?_
  refine C.seq ?_
  refine C.region [(false,0),(false,1)] rfl ?_
  refine L.fieldAddr rfl Tf.f25_2 rfl rfl trivial ?_
  refine L.store rfl rfl rfl rfl Tf.s23 (Has.head) (by simp) rfl (by simp [cell1]) trivial ?_
  refine L.nil ?_
  refine C.next ?_
  refine C.seq ?_
  refine C.seq ?_
  refine C.region [(false,0)] rfl ?_
  refine L.assign rfl rfl rfl trivial ?_
  refine L.nil ?_
  refine C.next ?_
  refine C.block ?_
  refine C.loopR (γ := Nat × Value × Boxes) (fun g => y.claims.length - g.1) (fun g => g.1 ≤ y.claims.length ∧ Acc 67 2 g.2.1 (someK y.claims b g.1).length (prC (someK y.claims b g.1)) g.2.2) (fun g => [(6, .int .i64 (g.1 : Int))]) [(5, _), (4, _), (2, _), (1, _)] (fun g => (q3, .cells [cv, .int .i64 y.fit, g.2.1].toArray 25 (0, 0)) :: (q2, .cells [.slice none 0 0, .int .i64 0, .slice none 0 0].toArray 25 (0, 0)) :: (g.2.2 ++ [])) (fun g => [E1, D]) (0, .slice none 0 0, []) ⟨by simp, Acc.nil⟩ ⟨(by first | rfl | (show some (Value.int _ _) = some (Value.int _ _); congr 2; omega)), trivial⟩ ⟨rfl, rfl, rfl, rfl, trivial⟩ (List.Sublist.refl _) (ds_same) ?_
  rintro ⟨k, v, ν⟩ ⟨h1, ha⟩
  simp only at h1 ha
  have hsr : b >>> k ≤ b := Nat.shiftRight_le _ _
  refine C.seq ?_
  refine C.seq ?_
  refine C.region [(false,0),(false,1),(false,2),(false,3),(false,4)] rfl ?_
  refine L.move rfl rfl rfl trivial ?_
  refine L.fieldAddr rfl Tf.f25_2 rfl rfl trivial ?_
  refine L.loadD1 rfl (k := 2) Tf.a23 rfl hB1 (by first | simp | assumption) rfl List.not_mem_nil rfl trivial ?_
  refine L.len rfl Try.underlying23 rfl hq rfl rfl trivial ?_
  refine L.lss rfl rfl rfl rfl trivial ?_
  refine L.nil ?_
  refine C.next ?_
  refine C.condD rfl (fun hc1 => ?_) (fun hc1 => ?_)
  · have hk : k < y.claims.length := by simp only at hc1; omega
    obtain ⟨x, hx⟩ : ∃ x, y.claims[k]? = some x := ⟨_, List.getElem?_eq_getElem hk⟩
    refine C.skip ?_
    refine C.next ?_
    refine C.seq ?_
    refine C.block ?_
    refine C.seq ?_
    refine C.region [(false,0),(false,1),(false,2),(false,3),(false,4),(false,5)] rfl ?_
    refine L.move rfl rfl rfl trivial ?_
    refine L.move rfl rfl rfl trivial ?_
    refine L.convI rfl Try.underlying3 Try.underlying88 rfl (by simp only [inK]; omega) rfl trivial ?_
    refine L.shrN rfl rfl rfl (by omega) rfl trivial ?_
    refine L.rem rfl rfl rfl (Int.natCast_nonneg _) (by omega) (by simp only [inK]; omega) rfl trivial ?_
    refine L.eql rfl rfl rfl rfl trivial ?_
    refine L.nil ?_
    refine C.next ?_
    refine C.condD rfl (fun hc2 => ?_) (fun hc2 => ?_)
    · have hbit : b.testBit k = true := bit_one hc2
      refine C.draw [] 5 [0,1,2,3,4,5,6,7,8,9,10] [false,false,true,true,true,true,true,true,false,false,false] [(false,0),(false,1),(true,2),(true,3),(true,4),(true,5),(true,6),(true,7),(false,8),(false,9),(false,10)] Tf.follows (fun _ _ _ h => np_body (P := Try.prog) (fn := Try.f62) _ _ _ h) (by kernel_rfl) rfl ?_
      refine L.fieldAddr rfl Tf.f25_2 rfl rfl trivial ?_
      refine L.loadB1 rfl Tf.a23 rfl (List.Mem.head _) rfl List.not_mem_nil rfl trivial ?_
      refine L.fieldAddr rfl Tf.f25_2 rfl rfl trivial ?_
      refine L.loadD1 rfl (k := 2) Tf.a23 rfl hB1 (by first | simp | assumption) rfl List.not_mem_nil rfl trivial ?_
      refine L.move rfl rfl rfl trivial ?_
      refine L.indexS rfl Try.underlying23 Tf.s67 rfl hq rfl (by omega) hx rfl trivial (fun b1 o1 cs1 hr1 hcl1 hA1 => ?_)
      obtain rfl : cs1 = [.int .i64 _, .int .i64 _] := hr1
      refine L.loadDW rfl Tf.a67 rfl hA1 (by first | simp | assumption) Tf.s67 List.not_mem_nil rfl trivial ?_
      refine L.buildSlice rfl Try.underlying23 Tf.s67 Tf.z67 rfl rfl rfl rfl (.cons rfl rfl .nil) rfl trivial (fun b901 D901 hD901 hA901 => ?_)
      refine L.append (A := [(_, _), (_, _)]) (B := []) rfl Try.underlying23 rfl rfl Tf.s67 Tf.z67 rfl Tf.i67 rfl rfl rfl ha (Src.lit hA901) (by simp) rfl (prC_lenn _ _ rfl) (by simp [cell1]) (by have := someK_len y.claims b k; omega) (Or.inl rfl) rfl trivial (fun v7 ν7 ha7 => ?_)
      have hn7 : Acc 67 2 v7 (someK y.claims b (k + 1)).length (prC (someK y.claims b (k + 1))) ν7 := by rw [someK_yes hx hbit, prC_snoc]; simpa using ha7
      refine L.fieldAddr rfl Tf.f25_2 rfl rfl trivial ?_
      refine L.store rfl rfl rfl ha7.cells1 Tf.s23 (Has.head) (by simp) rfl ha7.cell1 trivial ?_
      refine L.nil ?_
      refine C.blockEnd ?_
      refine C.next ?_
      refine C.region [(false,0),(false,1),(false,2)] rfl ?_
      refine L.move rfl rfl rfl trivial ?_
      refine L.add rfl rfl rfl (by simp only [inK]; omega) rfl trivial ?_
      refine L.assign rfl rfl rfl trivial ?_
      refine L.nil ?_
      exact C.againR 25 (k + 1, v7, ν7) ⟨by simp only; omega, hn7⟩ (by simp only; omega) ⟨(by first | rfl | (show some (Value.int _ _) = some (Value.int _ _); congr 2; omega)), trivial⟩ rfl rfl (List.Sublist.refl _) (fun D h => ⟨D, List.Mem.tail _ (h), Le.refl D⟩)
    · have hbit : b.testBit k = false := bit_zero hc2
      refine C.skip ?_
      refine C.blockEnd ?_
      refine C.next ?_
      refine C.region [(false,0),(false,1),(false,2)] rfl ?_
      refine L.move rfl rfl rfl trivial ?_
      refine L.add rfl rfl rfl (by simp only [inK]; omega) rfl trivial ?_
      refine L.assign rfl rfl rfl trivial ?_
      refine L.nil ?_
      exact C.againR 15 (k + 1, v, ν) ⟨by simp only; omega, by simp only; rw [someK_no hbit]; exact ha⟩ (by simp only; omega) ⟨(by first | rfl | (show some (Value.int _ _) = some (Value.int _ _); congr 2; omega)), trivial⟩ rfl rfl (List.Sublist.refl _) (ds_same)
  · obtain rfl : k = y.claims.length := by simp only at hc1; omega
    refine C.exit ?_
    refine C.thenExit ?_
    refine C.thenExit ?_
    refine C.blockExit ?_
    refine C.next ?_
    refine C.seq ?_
    refine C.region [(false,0),(false,1)] rfl ?_
    refine L.loadBW rfl Tf.a25 rfl (List.Mem.head _) Tf.s25 List.not_mem_nil rfl trivial ?_
    refine L.storeW rfl rfl rfl rfl Tf.s25 (by first | rfl | (simp only [ints_length, *]; done) | (simp only [ints_length, *]; rfl) | (simp only [ints_length, *]; omega)) (by first | rfl | (simp only [ints_length, *]; done) | (simp only [ints_length, *]; rfl) | (simp only [ints_length, *]; omega)) (.tail (Has.head)) (cell1_yard hc.cell1 ha.cell1) trivial ?_
    refine L.nil ?_
    refine C.next ?_
    refine C.ret ?_
    refine Q.freeze (A := [(_, _), (_, _)]) (B := []) ha rfl (fun D2 hD2 hF => ?_)
    exact leave (vs := [_]) rfl rfl rfl ⟨⟨_, _, _, rfl, (List.Mem.tail _ (List.Mem.head _)), Or.inr ⟨Tf.a25, Tf.s25, rfl⟩⟩, trivial⟩ (fun D' hD => ⟨_, _, rfl, hc.up RCh.up (hD _ (by simp)), (hF.prs rfl (by have := someK_len y.claims b y.claims.length; omega)).up R2.up (hD _ (by simp))⟩)
theorem MendFirst_ok (yv : Value) (y : YardD) (D : Data) (hy : YardIs D yv y) : Fn Try.prog 15 #[yv] D (fun _ v => v = .bool true) := by
  have hy0 := hy
  obtain ⟨cv, qv, rfl, hc, hq⟩ := hy
  refine enter 76 Try.func15 rfl rfl rfl rfl fun h0 => ?_
  refine C.seq ?_
  refine C.region [(false,0),(false,1)] rfl ?_
  refine L.boxD rfl rfl rfl rfl trivial (fun q1 E1 hE1 hB1 => ?_)
  refine L.assign rfl rfl rfl trivial ?_
  refine L.nil ?_
  refine C.next ?_
  refine C.seq ?_
  refine C.seq ?_
  refine C.region [(false,0),(false,1),(false,2)] rfl ?_
  refine L.loadDW rfl Tf.a25 rfl hB1 (by first | simp | assumption) Tf.s25 List.not_mem_nil rfl trivial ?_
  refine L.callV rfl rfl rfl (fun D1 hD1 => ready_ok _ y _ (hy0.up (hD1 _ (by simp)))) rfl trivial ?_
  refine L.not rfl rfl rfl trivial ?_
  refine L.nil ?_
  refine C.next ?_
  refine C.cond rfl (fun hc1 => ?_) (fun hc1 => ?_)
  · refine C.seq ?_
    refine C.region [(false,0),(false,1)] rfl ?_
    refine L.callV rfl rfl rfl (fun D2 hD2 => awake_ok _) rfl trivial ?_
    refine L.assign rfl rfl rfl trivial ?_
    refine L.nil ?_
    refine C.next ?_
    refine C.ret ?_
    refine C.thenRet ?_
    exact leave (vs := [_]) rfl rfl rfl ⟨rfl, trivial⟩ (fun D hD => rfl)
  · obtain ⟨hthin, hf0⟩ := ready_in hc1
    obtain ⟨hlc, hlq⟩ := thin_len hthin
    refine C.skip ?_
    refine C.next ?_
    refine C.seq ?_
    refine C.region [(false,0),(false,1),(false,2),(false,3),(false,4),(false,5),(false,6),(false,7)] rfl ?_
    refine L.loadDW rfl Tf.a25 rfl hB1 (by first | simp | assumption) Tf.s25 List.not_mem_nil rfl trivial ?_
    refine L.call rfl rfl rfl (fun D3 hD3 => YardL_ok _ y _ (hy0.up (hD3 _ (by simp))) (by omega) (by omega)) rfl trivial (fun v3 D3 hD3 hp3 => ?_)
    have hw := hp3
    refine L.callV rfl rfl rfl (fun D4 hD4 => First_ok _ y _ (hw.up (hD4 _ (by simp)))) rfl trivial ?_
    refine L.move rfl rfl rfl trivial ?_
    refine L.extract rfl rfl rfl rfl trivial ?_
    refine L.extract rfl rfl rfl rfl trivial ?_
    refine L.assign rfl rfl rfl trivial ?_
    refine L.assign rfl rfl rfl trivial ?_
    refine L.nil ?_
    refine C.next ?_
    refine C.seq ?_
    refine C.seq ?_
    refine C.region [(false,0),(false,1)] rfl ?_
    refine L.move rfl rfl rfl trivial ?_
    refine L.neq rfl rfl rfl rfl trivial ?_
    refine L.nil ?_
    refine C.next ?_
    refine C.condD rfl (fun hc2 => ?_) (fun hc2 => ?_)
    · refine C.seq ?_
      refine C.region [(false,0),(false,1),(false,2),(false,3),(false,4),(false,5),(false,6),(false,7),(false,8)] rfl ?_
      refine L.loadDW rfl Tf.a25 rfl hB1 (by first | simp | assumption) Tf.s25 List.not_mem_nil rfl trivial ?_
      refine L.call rfl rfl rfl (fun D5 hD5 => YardL_ok _ y _ (hy0.up (hD5 _ (by simp))) (by omega) (by omega)) rfl trivial (fun v5 D5 hD5 hp5 => ?_)
      have hw := hp5
      refine L.callV rfl rfl rfl (fun D6 hD6 => Bounds_ok _ y _ (hw.up (hD6 _ (by simp)))) rfl trivial ?_
      refine L.move rfl rfl rfl trivial ?_
      refine L.extract rfl rfl rfl rfl trivial ?_
      refine L.extract rfl rfl rfl rfl trivial ?_
      refine L.alloc rfl Tf.z61 rfl rfl trivial (fun q2 => ?_)
      refine L.storeW rfl rfl rfl rfl Tf.s61 (by first | rfl | (simp only [ints_length, *]; done) | (simp only [ints_length, *]; rfl) | (simp only [ints_length, *]; omega)) (by first | rfl | (simp only [ints_length, *]; done) | (simp only [ints_length, *]; rfl) | (simp only [ints_length, *]; omega)) (Has.head) (by first | exact ints_cell1 _ | simp [cell1]) trivial ?_
      refine L.assign rfl rfl rfl trivial ?_
      refine L.nil ?_
      refine C.next ?_
      refine C.seq ?_
      refine C.region [(false,0),(false,1),(false,2),(false,3),(false,4),(false,5),(false,6),(false,7),(false,8),(false,9)] rfl ?_
      refine L.move rfl rfl rfl trivial ?_
      refine L.eql rfl rfl rfl rfl trivial ?_
      refine L.move rfl rfl rfl trivial ?_
      refine' L.and [(false,3),(false,4),(false,5)] [(false,6),(false,7),(false,8),(false,9)] (s := 31) (p := 34) rfl rfl (fun hg1 => ?_) (fun hg1 => ?_) ?_
      rotate_left
      · refine L.move rfl rfl rfl ⟨_, rfl, rfl⟩ ?_
        refine L.eql rfl rfl rfl rfl ⟨_, rfl, rfl⟩ ?_
        refine L.pickT rfl rfl rfl rfl trivial ?_
        exact L.nil fun a w hh => hh.cutK 2 rfl
      · refine L.pass rfl rfl rfl ⟨_, _, rfl, rfl, rfl⟩ ?_
        refine L.pass rfl rfl rfl ⟨_, _, rfl, rfl, rfl⟩ ?_
        refine L.pickF rfl rfl rfl rfl trivial ?_
        exact L.nil fun a w hh => hh.cutK 2 rfl
      refine L.move rfl rfl rfl trivial ?_
      refine' L.and [(false,7),(false,8)] [(false,9)] (s := 35) (p := 37) rfl rfl (fun hg2 => ?_) (fun hg2 => ?_) ?_
      rotate_left
      · refine L.callV rfl rfl rfl (fun D7 hD7 => awake_ok _) rfl ⟨_, rfl, rfl⟩ ?_
        refine L.pickT rfl rfl rfl rfl trivial ?_
        exact L.nil fun a w hh => hh.cutK 1 rfl
      · refine L.pass rfl rfl rfl ⟨_, _, rfl, rfl, rfl⟩ ?_
        refine L.pickF rfl rfl rfl rfl trivial ?_
        exact L.nil fun a w hh => hh.cutK 1 rfl
      refine L.assign rfl rfl rfl trivial ?_
      refine L.nil ?_
      refine C.next ?_
      refine C.ret ?_
      refine C.thenRet ?_
      exact leave (vs := [_]) rfl rfl rfl ⟨rfl, trivial⟩ (fun D hD => congrArg Value.bool (mf_none hf0 hc2))
    · obtain ⟨i, hfi, hil, hm1, hm2⟩ := mf_some hf0 (by omega)
      have hq5 := (yOk hf0).cls
      have hp5 : 2 ^ i ≤ 2 ^ 4 := Nat.pow_le_pow_right (by omega) (by omega)
      have hp1 : 1 ≤ 2 ^ i := Nat.one_le_two_pow
      rw [hfi]
      refine C.skip ?_
      refine C.next ?_
      refine C.seq ?_
      refine C.seq ?_
      refine C.region [(false,0),(false,1),(false,2),(false,3),(false,4),(false,5),(false,6)] rfl ?_
      refine L.move rfl rfl rfl trivial ?_
      refine L.fieldAddr rfl Tf.f25_2 rfl rfl trivial ?_
      refine L.loadD1 rfl (k := 2) Tf.a23 rfl hB1 (by first | simp | assumption) rfl List.not_mem_nil rfl trivial ?_
      refine L.len rfl Try.underlying23 rfl hq rfl rfl trivial ?_
      refine L.sub rfl rfl rfl (by simp only [inK]; omega) rfl trivial ?_
      refine L.callV rfl rfl rfl (fun D8 hD8 => In_ok _ _ _ _) rfl trivial ?_
      refine L.not rfl rfl rfl trivial ?_
      refine L.nil ?_
      refine C.next ?_
      refine C.cond rfl (fun hc3 => ?_) (fun hc3 => ?_)
      · rw [show inB ((i : Int)) 0 ((y.claims.length : Int) - 1) = true from inB_iff.2 ⟨by omega, by omega⟩] at hc3; cases hc3
      · refine C.skip ?_
        refine C.next ?_
        refine C.seq ?_
        refine C.region [(false,0),(false,1),(false,2),(false,3),(false,4),(false,5),(false,6),(false,7),(false,8),(false,9),(false,10),(false,11),(false,12),(false,13)] rfl ?_
        refine L.loadDW rfl Tf.a25 rfl hB1 (by first | simp | assumption) Tf.s25 List.not_mem_nil rfl trivial ?_
        refine L.move rfl rfl rfl trivial ?_
        refine L.convI rfl Try.underlying3 Try.underlying88 rfl (by simp only [inK]; omega) rfl trivial ?_
        refine L.shl1U (n := i) rfl rfl rfl (by omega) rfl trivial ?_
        refine L.sub rfl rfl rfl (by simp only [inK]; omega) rfl trivial ?_
        refine L.call rfl rfl rfl (fun D9 hD9 => some_ok _ y (2 ^ i - 1) _ _ (by omega) (hy0.up (hD9 _ (by simp))) (by omega) (by omega)) rfl trivial (fun v9 D9 hD9 hp9 => ?_)
        have hs1 := hp9
        refine L.call rfl rfl rfl (fun D10 hD10 => YardL_ok _ (someY y (2 ^ i - 1)) _ (hs1.up (hD10 _ (by simp))) (by simp only [someY]; omega) (by have := someK_len y.claims (2 ^ i - 1) y.claims.length; simp only [someY]; omega)) rfl trivial (fun v10 D10 hD10 hp10 => ?_)
        have hw := hp10
        refine L.callV rfl rfl rfl (fun D11 hD11 => Bounds_ok _ (someY y (2 ^ i - 1)) _ (hw.up (hD11 _ (by simp)))) rfl trivial ?_
        refine L.move rfl rfl rfl trivial ?_
        refine L.extract rfl rfl rfl rfl trivial ?_
        refine L.extract rfl rfl rfl rfl trivial ?_
        refine L.alloc rfl Tf.z61 rfl rfl trivial (fun q3 => ?_)
        refine L.storeW rfl rfl rfl rfl Tf.s61 (by first | rfl | (simp only [ints_length, *]; done) | (simp only [ints_length, *]; rfl) | (simp only [ints_length, *]; omega)) (by first | rfl | (simp only [ints_length, *]; done) | (simp only [ints_length, *]; rfl) | (simp only [ints_length, *]; omega)) (Has.head) (by first | exact ints_cell1 _ | simp [cell1]) trivial ?_
        refine L.assign rfl rfl rfl trivial ?_
        refine L.nil ?_
        refine C.next ?_
        refine C.seq ?_
        refine C.region [(false,0),(false,1),(false,2),(false,3),(false,4),(false,5),(false,6),(false,7),(false,8),(false,9),(false,10),(false,11),(false,12),(false,13)] rfl ?_
        refine L.loadDW rfl Tf.a25 rfl hB1 (by first | simp | assumption) Tf.s25 List.not_mem_nil rfl trivial ?_
        refine L.move rfl rfl rfl trivial ?_
        refine L.convI rfl Try.underlying3 Try.underlying88 rfl (by simp only [inK]; omega) rfl trivial ?_
        refine L.shlN (m := 2) rfl rfl rfl (by omega) (by omega) rfl trivial ?_
        refine L.sub rfl rfl rfl (by simp only [inK]; omega) rfl trivial ?_
        refine L.call rfl rfl rfl (fun D12 hD12 => some_ok _ y (2 * 2 ^ i - 1) _ _ (by omega) (hy0.up (hD12 _ (by simp))) (by omega) (by omega)) rfl trivial (fun v12 D12 hD12 hp12 => ?_)
        have hs2 := hp12
        refine L.call rfl rfl rfl (fun D13 hD13 => YardL_ok _ (someY y (2 * 2 ^ i - 1)) _ (hs2.up (hD13 _ (by simp))) (by simp only [someY]; omega) (by have := someK_len y.claims (2 * 2 ^ i - 1) y.claims.length; simp only [someY]; omega)) rfl trivial (fun v13 D13 hD13 hp13 => ?_)
        have hw := hp13
        refine L.callV rfl rfl rfl (fun D14 hD14 => Bounds_ok _ (someY y (2 * 2 ^ i - 1)) _ (hw.up (hD14 _ (by simp)))) rfl trivial ?_
        refine L.move rfl rfl rfl trivial ?_
        refine L.extract rfl rfl rfl rfl trivial ?_
        refine L.extract rfl rfl rfl rfl trivial ?_
        refine L.alloc rfl Tf.z61 rfl rfl trivial (fun q4 => ?_)
        refine L.storeW rfl rfl rfl rfl Tf.s61 (by first | rfl | (simp only [ints_length, *]; done) | (simp only [ints_length, *]; rfl) | (simp only [ints_length, *]; omega)) (by first | rfl | (simp only [ints_length, *]; done) | (simp only [ints_length, *]; rfl) | (simp only [ints_length, *]; omega)) (Has.head) (by first | exact ints_cell1 _ | simp [cell1]) trivial ?_
        refine L.assign rfl rfl rfl trivial ?_
        refine L.nil ?_
        refine C.next ?_
        refine C.seq ?_
        refine C.region [(false,0),(false,1),(false,2),(false,3),(false,4),(false,5),(false,6),(false,7),(false,8),(false,9)] rfl ?_
        refine L.move rfl rfl rfl trivial ?_
        refine L.eql rfl rfl rfl rfl trivial ?_
        refine L.move rfl rfl rfl trivial ?_
        refine' L.and [(false,3),(false,4),(false,5)] [(false,6),(false,7),(false,8),(false,9)] (s := 69) (p := 72) rfl rfl (fun hg3 => ?_) (fun hg3 => ?_) ?_
        rotate_left
        · refine L.move rfl rfl rfl ⟨_, rfl, rfl⟩ ?_
          refine L.eql rfl rfl rfl rfl ⟨_, rfl, rfl⟩ ?_
          refine L.pickT rfl rfl rfl rfl trivial ?_
          exact L.nil fun a w hh => hh.cutK 2 rfl
        · refine L.pass rfl rfl rfl ⟨_, _, rfl, rfl, rfl⟩ ?_
          refine L.pass rfl rfl rfl ⟨_, _, rfl, rfl, rfl⟩ ?_
          refine L.pickF rfl rfl rfl rfl trivial ?_
          exact L.nil fun a w hh => hh.cutK 2 rfl
        refine L.move rfl rfl rfl trivial ?_
        refine' L.and [(false,7),(false,8)] [(false,9)] (s := 73) (p := 75) rfl rfl (fun hg4 => ?_) (fun hg4 => ?_) ?_
        rotate_left
        · refine L.callV rfl rfl rfl (fun D15 hD15 => awake_ok _) rfl ⟨_, rfl, rfl⟩ ?_
          refine L.pickT rfl rfl rfl rfl trivial ?_
          exact L.nil fun a w hh => hh.cutK 1 rfl
        · refine L.pass rfl rfl rfl ⟨_, _, rfl, rfl, rfl⟩ ?_
          refine L.pickF rfl rfl rfl rfl trivial ?_
          exact L.nil fun a w hh => hh.cutK 1 rfl
        refine L.assign rfl rfl rfl trivial ?_
        refine L.nil ?_
        refine C.next ?_
        refine C.ret ?_
        exact leave (vs := [_]) rfl rfl rfl ⟨rfl, trivial⟩ (fun D hD => congrArg Value.bool (by rw [hm1, hm2]; rfl))
end Go.Fs
