/- Walks: the law CountTurned. -/
import Derived.Test.YtgnnlghoadfffaaW22
import Derived.Test.YtgnnlghoadfffaaLaws
namespace Go.Fs
open Go.Proofs
open C1
theorem ask_turnI {r : RowD} (hok : RowOk r) {i j : Nat} (hij : i ≤ j) (hj : j < r.places.length) : askErr (turnD r) (partOk (turnD r) ((r.places.length : Int) - 1 - j) ((r.places.length : Int) - 1 - i)) = askErr r true := by
  have hl : (turnD r).places.length = r.places.length := by simp [turnD]
  rw [ask_inI (turn_ok hok) (by omega) (by omega) (by rw [hl]; omega), ask_turn hok]
theorem ch_turn {r : RowD} (hok : RowOk r) {i j : Nat} (hij : i ≤ j) (hj : j < r.places.length) : chV (turnD r) ((r.places.length : Int) - 1 - j) ((r.places.length : Int) - 1 - i) = chV r i j := by
  unfold chV
  rw [ask_turnI hok hij hj, ask_in hok hij hj]
  split
  · have := bounds_turn hok hij hj
    rw [show ((r.places.length : Int) - 1 - j).toNat = r.places.length - 1 - j by omega, show ((r.places.length : Int) - 1 - i).toNat = r.places.length - 1 - i by omega, this.1, this.2]
    simp
  · rfl
theorem leastE_turn {r : RowD} (hok : RowOk r) : leastE (turnD r) = leastE r := by
  unfold leastE; rw [rowOk_iff.2 hok, rowOk_iff.2 (turn_ok hok), least_turn hok]
theorem leastV_turn {r : RowD} (hok : RowOk r) : leastV (turnD r) = leastV r := by
  unfold leastV; rw [rowOk_iff.2 hok, rowOk_iff.2 (turn_ok hok), least_turn hok]
theorem ct_need {r : RowD} (hok : RowOk r) {i j : Nat} (hij : i ≤ j) (hj : j < r.places.length) (hcap : (truths r).length ≤ 512) :
    (if askErr (turnD r) (partOk (turnD r) ((r.places.length : Int) - 1 - j) ((r.places.length : Int) - 1 - i)) = 0 then needN (turnD r).places.length ((r.places.length : Int) - 1 - j).toNat ((r.places.length : Int) - 1 - i).toNat (truths (turnD r)) else 0) =
    (if askErr r (partOk r (i : Int) (j : Int)) = 0 then needN r.places.length (i : Int).toNat (j : Int).toNat (truths r) else 0) := by
  have hcap2 := truths_len (turnD r) (turn_ok hok)
  rw [ask_turnI hok hij hj, ask_in hok hij hj]
  split
  · rw [show ((r.places.length : Int) - 1 - j).toNat = r.places.length - 1 - j by omega, show ((r.places.length : Int) - 1 - i).toNat = r.places.length - 1 - i by omega, show (turnD r).places.length = r.places.length by simp [turnD]]
    exact need_turn hok hij hj (by omega) (by omega)
  · rfl
theorem ct_ok {r : RowD} (hok : RowOk r) {p : Int × Int} {m : Int} :
    (((((decide (askErr r true = 0) && decide (askErr r true = 0)) || (decide (askErr r true = 11) && decide (askErr r true = askErr r true))) && (p == p)) && decide (m = m)) && true) = true := by
  by_cases hz : askErr r true = 0
  · simp [hz]
  · simp [(ask_none hok hz).2]
open C1
theorem turned_ok (rv : Value) (r : RowD) (D : Data) (hr : RowIs D rv r) (h1 : r.places.length ≤ 100) (h2 : r.counts.length ≤ 100) : Fn Try.prog 41 #[rv] D (fun D' v => RowIs D' v (turnD r)) := by
  obtain ⟨pv, cv, rfl, hp, hc⟩ := hr
  have hlp := h1
  have hlc := h2
  refine enter 51 Try.func41 rfl rfl rfl rfl fun h0 => ?_
  refine C.seq ?_
  refine C.region [(false,0),(false,1)] rfl ?_
  refine L.boxD rfl rfl rfl rfl trivial (fun q1 E1 hE1 hB1 => ?_)
  refine L.alloc rfl Tf.z25 rfl rfl trivial (fun q2 => ?_)
  refine L.nil ?_
  refine C.next ?_
  refine C.seq ?_
  refine C.region [(false,0),(false,1),(false,2)] rfl ?_
  refine L.loadDW rfl Tf.a25 rfl hB1 (by first | simp | assumption) Tf.s25 List.not_mem_nil rfl trivial ?_
  refine L.alloc rfl Tf.z25 rfl rfl trivial (fun q3 => ?_)
  refine L.storeW rfl rfl rfl rfl Tf.s25 (by first | rfl | (simp only [ints_length, *]; done) | (simp only [ints_length, *]; rfl) | (simp only [ints_length, *]; omega)) (by first | rfl | (simp only [ints_length, *]; done) | (simp only [ints_length, *]; rfl) | (simp only [ints_length, *]; omega)) (Has.head) (cell1_row hp.cell1 hc.cell1) trivial ?_
  refine L.nil ?_
  refine C.next ?_
  refine C.seq ?_
  refine C.region [(false,0),(false,1),(false,2),(false,3)] rfl ?_
  refine L.fieldAddr rfl Tf.f25_0 rfl rfl trivial ?_
  refine L.store rfl rfl rfl rfl Tf.s22 (Has.head) (by simp) rfl (by simp [cell1]) trivial ?_
  refine L.fieldAddr rfl Tf.f25_1 rfl rfl trivial ?_
  refine L.store rfl rfl rfl rfl Tf.s23 (Has.head) (by simp) rfl (by simp [cell1]) trivial ?_
  refine L.nil ?_
  refine C.next ?_
  refine C.seq ?_
  refine C.seq ?_
  refine C.region [(false,0),(false,1),(false,2),(false,3),(false,4)] rfl ?_
  refine L.fieldAddr rfl Tf.f25_0 rfl rfl trivial ?_
  refine L.loadD1 rfl (k := 0) Tf.a22 rfl hB1 (by first | simp | assumption) rfl List.not_mem_nil rfl trivial ?_
  refine L.len rfl Try.underlying22 rfl hp rfl rfl trivial ?_
  refine L.sub rfl rfl rfl (by simp only [inK]; omega) rfl trivial ?_
  refine L.assign rfl rfl rfl trivial ?_
  refine L.nil ?_
  refine C.next ?_
  refine C.block ?_
  refine C.loopR (γ := Nat × Value × Boxes) (fun g => r.places.length - g.1) (fun g => g.1 ≤ r.places.length ∧ Acc 3 1 g.2.1 g.1 (ints (r.places.reverse.take g.1)) g.2.2) (fun g => [(4, .int .i64 ((r.places.length : Int) - 1 - g.1))]) [(3, _), (2, _), (1, _)] (fun g => (q3, .cells [g.2.1, .slice none 0 0, .int .i64 r.wrong, .int .i64 r.off].toArray 25 (0, 0)) :: (q2, .cells [.slice none 0 0, .slice none 0 0, .int .i64 0, .int .i64 0].toArray 25 (0, 0)) :: (g.2.2 ++ [])) (fun g => [E1, D]) (0, .slice none 0 0, []) ⟨by simp, by simpa [ints] using Acc.nil⟩ ⟨(by simp; rfl), trivial⟩ ⟨rfl, rfl, rfl, trivial⟩ (List.Sublist.refl _) (ds_same) ?_
  rintro ⟨k, v, ν⟩ ⟨hk1, ha⟩
  simp only at hk1 ha
  refine C.seq ?_
  refine C.seq ?_
  refine C.region [(false,0),(false,1)] rfl ?_
  refine L.move rfl rfl rfl trivial ?_
  refine L.geq rfl rfl rfl rfl trivial ?_
  refine L.nil ?_
  refine C.next ?_
  refine C.condD rfl (fun hc1 => ?_) (fun hc1 => ?_)
  · have hk : k < r.places.length := by omega
    obtain ⟨x, hx⟩ : ∃ x, r.places[((r.places.length : Int) - 1 - k).toNat]? = some x := ⟨_, List.getElem?_eq_getElem (by omega)⟩
    have hrx : r.places.reverse[k]? = some x := by rw [List.getElem?_reverse hk, show r.places.length - 1 - k = ((r.places.length : Int) - 1 - k).toNat by omega]; exact hx
    refine C.skip ?_
    refine C.next ?_
    refine C.seq ?_
    refine C.block ?_
    refine C.draw [] 5 [0,1,2,3,4,5,6,7,8,9,10] [false,false,true,true,true,true,true,true,false,false,false] [(false,0),(false,1),(true,2),(true,3),(true,4),(true,5),(true,6),(true,7),(false,8),(false,9),(false,10)] Tf.follows (fun _ _ _ h => np_body (P := Try.prog) (fn := Try.f41) _ _ _ h) (by kernel_rfl) rfl ?_
    refine L.fieldAddr rfl Tf.f25_0 rfl rfl trivial ?_
    refine L.loadB1 rfl Tf.a22 rfl (List.Mem.head _) rfl List.not_mem_nil rfl trivial ?_
    refine L.fieldAddr rfl Tf.f25_0 rfl rfl trivial ?_
    refine L.loadD1 rfl (k := 0) Tf.a22 rfl hB1 (by first | simp | assumption) rfl List.not_mem_nil rfl trivial ?_
    refine L.move rfl rfl rfl trivial ?_
    refine L.indexS rfl Try.underlying22 Tf.s3 rfl hp rfl (by omega) hx rfl trivial (fun b1 o1 cs1 hr1 hcl1 hA1 => ?_)
    obtain rfl : cs1 = [.int .i64 _] := hr1
    refine L.loadD1 rfl (k := 0) Tf.a3 rfl hA1 (by first | simp | assumption) rfl List.not_mem_nil rfl trivial ?_
    refine L.buildSlice rfl Try.underlying22 Tf.s3 Tf.z3 rfl rfl rfl rfl (.cons rfl rfl .nil) rfl trivial (fun b901 D901 hD901 hA901 => ?_)
    have hS901 := Sl.ofInts (l := [_]) (n := 1) (cap := 1) hA901 rfl (by omega) (by omega)
    refine L.append (A := [(_, _), (_, _)]) (B := []) rfl Try.underlying22 rfl rfl Tf.s3 Tf.z3 rfl Tf.i3 rfl rfl rfl ha (Src.lit hA901) (by simp) rfl (by simp [ints]; omega) (by simp [cell1]) (by omega) (Or.inl rfl) rfl trivial (fun v7 ν7 ha7 => ?_)
    have hn7 : Acc 3 1 v7 (k + 1) (ints (r.places.reverse.take (k + 1))) ν7 := by rw [List.take_add_one, hrx, Option.toList_some, ← ints_append]; simpa [ints] using ha7
    refine L.fieldAddr rfl Tf.f25_0 rfl rfl trivial ?_
    refine L.store rfl rfl rfl ha7.cells1 Tf.s22 (Has.head) (by simp) rfl ha7.cell1 trivial ?_
    refine L.nil ?_
    refine C.blockEnd ?_
    refine C.next ?_
    refine C.region [(false,0),(false,1),(false,2)] rfl ?_
    refine L.move rfl rfl rfl trivial ?_
    refine L.sub rfl rfl rfl (by simp only [inK]; omega) rfl trivial ?_
    refine L.assign rfl rfl rfl trivial ?_
    refine L.nil ?_
    exact C.againR 16 (k + 1, v7, ν7) ⟨by simp only; omega, hn7⟩ (by simp only; omega) ⟨(by first | rfl | (show some (Value.int _ _) = some (Value.int _ _); congr 2; omega)), trivial⟩ rfl rfl (List.Sublist.refl _) (fun D h => ⟨D, List.Mem.tail _ (h), Le.refl D⟩)
  · obtain rfl : k = r.places.length := by omega
    rw [List.take_of_length_le (by simp)] at ha
    have hav := ha
    refine C.freeze (A := [(_, _), (_, _)]) (B := []) ha rfl (fun D2 hD2 hF => ?_)
    refine C.exit ?_
    refine C.thenExit ?_
    refine C.thenExit ?_
    refine C.blockExit ?_
    refine C.next ?_
    refine C.seq ?_
    refine C.seq ?_
    refine C.region [(false,0)] rfl ?_
    refine L.assign rfl rfl rfl trivial ?_
    refine L.nil ?_
    refine C.next ?_
    refine C.block ?_
    refine C.loopR (γ := Nat × Value × Boxes) (fun g => r.counts.length - g.1) (fun g => g.1 ≤ r.counts.length ∧ Acc 50 3 g.2.1 g.1 (cntC ((r.counts.map flipC).take g.1)) g.2.2) (fun g => [(5, .int .i64 (g.1 : Int))]) [(3, _), (2, _), (1, _)] (fun g => (q3, .cells [v, g.2.1, .int .i64 r.wrong, .int .i64 r.off].toArray 25 (0, 0)) :: (q2, .cells [.slice none 0 0, .slice none 0 0, .int .i64 0, .int .i64 0].toArray 25 (0, 0)) :: (g.2.2 ++ [])) (fun g => [D2, E1, D]) (0, .slice none 0 0, []) ⟨by simp, by simpa [cntC] using Acc.nil⟩ ⟨(by first | rfl | (show some (Value.int _ _) = some (Value.int _ _); congr 2; omega)), trivial⟩ ⟨rfl, rfl, rfl, trivial⟩ (List.Sublist.refl _) (ds_same) ?_
    rintro ⟨k, v2, ν2⟩ ⟨hk2, hb⟩
    simp only at hk2 hb
    refine C.seq ?_
    refine C.seq ?_
    refine C.region [(false,0),(false,1),(false,2),(false,3),(false,4)] rfl ?_
    refine L.move rfl rfl rfl trivial ?_
    refine L.fieldAddr rfl Tf.f25_1 rfl rfl trivial ?_
    refine L.loadD1 rfl (k := 1) Tf.a23 rfl hB1 (by first | simp | assumption) rfl List.not_mem_nil rfl trivial ?_
    refine L.len rfl Try.underlying23 rfl hc rfl rfl trivial ?_
    refine L.lss rfl rfl rfl rfl trivial ?_
    refine L.nil ?_
    refine C.next ?_
    refine C.condD rfl (fun hc2 => ?_) (fun hc2 => ?_)
    · have hk : k < r.counts.length := by omega
      obtain ⟨x, hx⟩ : ∃ x, r.counts[k]? = some x := ⟨_, List.getElem?_eq_getElem hk⟩
      have hcx : (r.counts.map flipC)[k]? = some (flipC x) := by rw [List.getElem?_map, hx]; rfl
      refine C.skip ?_
      refine C.next ?_
      refine C.seq ?_
      refine C.block ?_
      refine C.seq ?_
      refine C.region [(false,0),(false,1),(false,2),(false,3),(false,4),(false,5),(false,6)] rfl ?_
      refine L.fieldAddr rfl Tf.f25_1 rfl rfl trivial ?_
      refine L.loadD1 rfl (k := 1) Tf.a23 rfl hB1 (by first | simp | assumption) rfl List.not_mem_nil rfl trivial ?_
      refine L.move rfl rfl rfl trivial ?_
      refine L.indexS rfl Try.underlying23 Tf.s50 rfl hc rfl (by omega) hx rfl trivial (fun b2 o2 cs2 hr2 hcl2 hA2 => ?_)
      obtain rfl : cs2 = [.bool _, .int .i64 _, .int .i64 _] := hr2
      refine L.loadDW rfl Tf.a50 rfl hA2 (by first | simp | assumption) Tf.s50 List.not_mem_nil rfl trivial ?_
      refine L.alloc rfl Tf.z50 rfl rfl trivial (fun q4 => ?_)
      refine L.storeW rfl rfl rfl rfl Tf.s50 (by first | rfl | (simp only [ints_length, *]; done) | (simp only [ints_length, *]; rfl) | (simp only [ints_length, *]; omega)) (by first | rfl | (simp only [ints_length, *]; done) | (simp only [ints_length, *]; rfl) | (simp only [ints_length, *]; omega)) (Has.head) (by first | exact ints_cell1 _ | simp [cell1]) trivial ?_
      refine L.nil ?_
      refine C.next ?_
      refine C.seq ?_
      refine C.region [(false,0),(false,1),(false,2),(false,3),(false,4)] rfl ?_
      refine L.fieldAddr rfl Tf.f50_0 rfl rfl trivial ?_
      refine L.loadB1 rfl Tf.a4 rfl (List.Mem.head _) rfl List.not_mem_nil rfl trivial ?_
      refine L.not rfl rfl rfl trivial ?_
      refine L.fieldAddr rfl Tf.f50_0 rfl rfl trivial ?_
      refine L.store rfl rfl rfl rfl Tf.s4 (Has.head) (by simp) rfl (by simp [cell1]) trivial ?_
      refine L.nil ?_
      refine C.next ?_
      refine C.region [(false,0),(false,1),(false,2),(false,3),(false,4),(false,5),(false,6)] rfl ?_
      refine L.fieldAddr rfl Tf.f25_1 rfl rfl trivial ?_
      refine L.loadB1 rfl Tf.a23 rfl (List.Mem.tail _ (List.Mem.head _)) rfl List.not_mem_nil rfl trivial ?_
      refine L.loadBW rfl Tf.a50 rfl (List.Mem.head _) Tf.s50 List.not_mem_nil rfl trivial ?_
      refine L.buildSlice rfl Try.underlying23 Tf.s50 Tf.z50 rfl rfl rfl rfl (.cons rfl rfl .nil) rfl trivial (fun b902 D902 hD902 hA902 => ?_)
      refine L.append (A := [(_, _), (_, _), (_, _)]) (B := []) rfl Try.underlying23 rfl rfl Tf.s50 Tf.z50 rfl Tf.i50 rfl rfl rfl hb (Src.lit hA902) (by simp) rfl (cnt_len _ _ (by simp; omega)) (by simp [cell1]) (by omega) (Or.inl rfl) rfl trivial (fun v8 ν8 hb8 => ?_)
      have hn8 : Acc 50 3 v8 (k + 1) (cntC ((r.counts.map flipC).take (k + 1))) ν8 := by rw [List.take_add_one, hcx, Option.toList_some, cntC_snoc]; simpa [flipC] using hb8
      refine L.fieldAddr rfl Tf.f25_1 rfl rfl trivial ?_
      refine L.store rfl rfl rfl hb8.cells1 Tf.s23 (.tail (Has.head)) (by simp) rfl hb8.cell1 trivial ?_
      refine L.nil ?_
      refine C.blockEnd ?_
      refine C.next ?_
      refine C.region [(false,0),(false,1),(false,2)] rfl ?_
      refine L.move rfl rfl rfl trivial ?_
      refine L.add rfl rfl rfl (by simp only [inK]; omega) rfl trivial ?_
      refine L.assign rfl rfl rfl trivial ?_
      refine L.nil ?_
      exact C.againR 25 (k + 1, v8, ν8) ⟨by simp only; omega, hn8⟩ (by simp only; omega) ⟨(by first | rfl | (show some (Value.int _ _) = some (Value.int _ _); congr 2; omega)), trivial⟩ rfl rfl (List.Sublist.cons _ (List.Sublist.refl _)) (fun D h => ⟨D, List.Mem.tail _ (h), Le.refl D⟩)
    · obtain rfl : k = r.counts.length := by omega
      rw [List.take_of_length_le (by simp)] at hb
      refine C.exit ?_
      refine C.thenExit ?_
      refine C.thenExit ?_
      refine C.blockExit ?_
      refine C.next ?_
      refine C.seq ?_
      refine C.region [(false,0),(false,1)] rfl ?_
      refine L.loadBW rfl Tf.a25 rfl (List.Mem.head _) Tf.s25 List.not_mem_nil rfl trivial ?_
      refine L.storeW rfl rfl rfl rfl Tf.s25 (by first | rfl | (simp only [ints_length, *]; done) | (simp only [ints_length, *]; rfl) | (simp only [ints_length, *]; omega)) (by first | rfl | (simp only [ints_length, *]; done) | (simp only [ints_length, *]; rfl) | (simp only [ints_length, *]; omega)) (.tail (Has.head)) (cell1_row hav.cell1 hb.cell1) trivial ?_
      refine L.nil ?_
      refine C.next ?_
      refine C.ret ?_
      refine Q.freeze (A := [(_, _), (_, _)]) (B := []) hb rfl (fun D3 hD3 hF3 => ?_)
      exact leave (vs := [_]) rfl rfl rfl ⟨⟨_, _, _, rfl, (List.Mem.tail _ (List.Mem.head _)), Or.inr ⟨Tf.a25, Tf.s25, rfl⟩⟩, trivial⟩ (fun D' hD => ⟨v, v2, rfl, (hF.ints (by simp) (by omega)).up RI.up ((hD3 _ (by simp)).trans (hD _ (by simp))), (hF3.cnts (by simp) (by omega)).up RC.up (hD _ (by simp))⟩)
theorem CountTurned_ok (rv : Value) (r : RowD) (a b : Int) (D : Data) (hr : RowIs D rv r) (ha : 0 ≤ a ∧ a ≤ 255) (hb : 0 ≤ b ∧ b ≤ 255) : Fn Try.prog 8 #[rv, .int .u8 a, .int .u8 b] D (fun _ v => v = .bool true) := by
  have hr0 := hr
  obtain ⟨pv, cv, rfl, hp, hc⟩ := hr
  refine enter 138 Try.func8 rfl rfl rfl rfl fun h0 => ?_
  refine C.seq ?_
  refine C.region [(false,0),(false,1)] rfl ?_
  refine L.boxD rfl rfl rfl rfl trivial (fun q1 E1 hE1 hB1 => ?_)
  refine L.assign rfl rfl rfl trivial ?_
  refine L.nil ?_
  refine C.next ?_
  refine C.seq ?_
  refine C.seq ?_
  refine C.region [(false,0),(false,1),(false,2)] rfl ?_
  refine L.loadDW rfl Tf.a25 rfl hB1 (by first | simp | assumption) Tf.s25 List.not_mem_nil rfl trivial ?_
  refine L.callV rfl rfl rfl (fun D1 hD1 => ready_ok _ r _ (hr0.up (hD1 _ (by simp)))) rfl trivial ?_
  refine L.not rfl rfl rfl trivial ?_
  refine L.nil ?_
  refine C.next ?_
  refine C.cond rfl (fun hc1 => ?_) (fun hc1 => ?_)
  · refine C.seq ?_
    refine C.region [(false,0),(false,1)] rfl ?_
    refine L.callV rfl rfl rfl (fun D2 hD2 => awake_ok _) rfl trivial ?_
    refine L.assign rfl rfl rfl trivial ?_
    refine L.nil ?_
    refine C.next ?_
    refine C.ret ?_
    refine C.thenRet ?_
    exact leave (vs := [_]) rfl rfl rfl ⟨rfl, trivial⟩ (fun D hD => rfl)
  · obtain ⟨hlp, hlc, hok⟩ := ready_len hc1
    have hn0 := hok.len0
    have hn9 := hok.len9
    obtain ⟨i, j, hij, hjn, hpt⟩ := parted_ex r a b hok.len0 ha hb
    have hcap := truths_len r hok
    have hask := ask_in hok hij hjn
    have htl : (turnD r).places.length ≤ 11 ∧ (turnD r).counts.length ≤ 8 := by simpa [turnD] using ⟨hlp, hlc⟩
    have htp := htl.1
    have htc := htl.2
    have hlE := leastE_turn hok
    have hlV := leastV_turn hok
    have hA := ask_turnI hok hij hjn
    have hC := ch_turn hok hij hjn
    have hN := ct_need hok hij hjn hcap
    refine C.skip ?_
    refine C.next ?_
    refine C.seq ?_
    refine C.region [(false,0),(false,1),(false,2),(false,3)] rfl ?_
    refine L.loadDW rfl Tf.a25 rfl hB1 (by first | simp | assumption) Tf.s25 List.not_mem_nil rfl trivial ?_
    refine L.call rfl rfl rfl (fun D3 hD3 => turned_ok _ r _ (hr0.up (hD3 _ (by simp))) (by omega) (by omega)) rfl trivial (fun v3 D3 hD3 hp3 => ?_)
    obtain ⟨tp, tc, rfl, htp1, htc1⟩ := id hp3
    have htr := hp3
    refine L.alloc rfl Tf.z25 rfl rfl trivial (fun q2 => ?_)
    refine L.storeW rfl rfl rfl rfl Tf.s25 (by first | rfl | (simp only [ints_length, *]; done) | (simp only [ints_length, *]; rfl) | (simp only [ints_length, *]; omega)) (by first | rfl | (simp only [ints_length, *]; done) | (simp only [ints_length, *]; rfl) | (simp only [ints_length, *]; omega)) (Has.head) (cell1_row htp1.cell1 htc1.cell1) trivial ?_
    refine L.nil ?_
    refine C.next ?_
    refine C.seq ?_
    refine C.region [(false,0),(false,1),(false,2),(false,3),(false,4),(false,5),(false,6),(false,7),(false,8)] rfl ?_
    refine L.loadDW rfl Tf.a25 rfl hB1 (by first | simp | assumption) Tf.s25 List.not_mem_nil rfl trivial ?_
    refine L.move rfl rfl rfl trivial ?_
    refine L.move rfl rfl rfl trivial ?_
    refine L.callV rfl rfl rfl (fun D4 hD4 => hpt _ _ (hr0.up (hD4 _ (by simp)))) rfl trivial ?_
    refine L.move rfl rfl rfl trivial ?_
    refine L.extract rfl rfl rfl rfl trivial ?_
    refine L.extract rfl rfl rfl rfl trivial ?_
    refine L.assign rfl rfl rfl trivial ?_
    refine L.assign rfl rfl rfl trivial ?_
    refine L.nil ?_
    refine C.next ?_
    refine C.seq ?_
    refine C.region [(false,0),(false,1),(false,2),(false,3),(false,4)] rfl ?_
    refine L.fieldAddr rfl Tf.f25_0 rfl rfl trivial ?_
    refine L.loadD1 rfl (k := 0) Tf.a22 rfl hB1 (by first | simp | assumption) rfl List.not_mem_nil rfl trivial ?_
    refine L.len rfl Try.underlying22 rfl hp rfl rfl trivial ?_
    refine L.sub rfl rfl rfl (by simp only [inK]; omega) rfl trivial ?_
    refine L.assign rfl rfl rfl trivial ?_
    refine L.nil ?_
    refine C.next ?_
    refine C.seq ?_
    refine C.region [(false,0),(false,1),(false,2),(false,3),(false,4),(false,5),(false,6),(false,7),(false,8),(false,9),(false,10)] rfl ?_
    refine L.loadDW rfl Tf.a25 rfl hB1 (by first | simp | assumption) Tf.s25 List.not_mem_nil rfl trivial ?_
    refine L.call rfl rfl rfl (fun D5 hD5 => Row_ok _ r _ (hr0.up (hD5 _ (by simp))) (by omega) (by omega)) rfl trivial (fun v5 D5 hD5 hp5 => ?_)
    have hw := hp5
    refine L.move rfl rfl rfl trivial ?_
    refine L.move rfl rfl rfl trivial ?_
    refine L.callV rfl rfl rfl (fun D6 hD6 => Chairs2_ok _ r _ _ _ (hw.up (hD6 _ (by simp)))) rfl trivial ?_
    refine L.move rfl rfl rfl trivial ?_
    refine L.extract rfl rfl rfl rfl trivial ?_
    refine L.extract rfl rfl rfl rfl trivial ?_
    refine L.alloc rfl Tf.z29 rfl rfl trivial (fun q3 => ?_)
    refine L.storeW rfl rfl rfl rfl Tf.s29 (by first | rfl | (simp only [ints_length, *]; done) | (simp only [ints_length, *]; rfl) | (simp only [ints_length, *]; omega)) (by first | rfl | (simp only [ints_length, *]; done) | (simp only [ints_length, *]; rfl) | (simp only [ints_length, *]; omega)) (Has.head) (by first | exact ints_cell1 _ | simp [cell1]) trivial ?_
    refine L.assign rfl rfl rfl trivial ?_
    refine L.nil ?_
    refine C.next ?_
    refine C.seq ?_
    refine C.region [(false,0),(false,1),(false,2),(false,3),(false,4),(false,5),(false,6),(false,7),(false,8),(false,9),(false,10),(false,11),(false,12),(false,13),(false,14)] rfl ?_
    refine L.loadBW rfl Tf.a25 rfl (List.Mem.tail _ (List.Mem.head _)) Tf.s25 List.not_mem_nil rfl trivial ?_
    refine L.call rfl rfl rfl (fun D7 hD7 => Row_ok _ (turnD r) _ (htr.up (hD7 _ (by simp))) (by omega) (by omega)) rfl trivial (fun v7 D7 hD7 hp7 => ?_)
    have hw := hp7
    refine L.move rfl rfl rfl trivial ?_
    refine L.move rfl rfl rfl trivial ?_
    refine L.sub rfl rfl rfl (by simp only [inK]; omega) rfl trivial ?_
    refine L.move rfl rfl rfl trivial ?_
    refine L.move rfl rfl rfl trivial ?_
    refine L.sub rfl rfl rfl (by simp only [inK]; omega) rfl trivial ?_
    refine L.callV rfl rfl rfl (fun D8 hD8 => Chairs2_ok _ (turnD r) _ _ _ (hw.up (hD8 _ (by simp)))) rfl trivial ?_
    refine L.move rfl rfl rfl trivial ?_
    refine L.extract rfl rfl rfl rfl trivial ?_
    refine L.extract rfl rfl rfl rfl trivial ?_
    refine L.alloc rfl Tf.z29 rfl rfl trivial (fun q4 => ?_)
    refine L.storeW rfl rfl rfl rfl Tf.s29 (by first | rfl | (simp only [ints_length, *]; done) | (simp only [ints_length, *]; rfl) | (simp only [ints_length, *]; omega)) (by first | rfl | (simp only [ints_length, *]; done) | (simp only [ints_length, *]; rfl) | (simp only [ints_length, *]; omega)) (Has.head) (by first | exact ints_cell1 _ | simp [cell1]) trivial ?_
    refine L.assign rfl rfl rfl trivial ?_
    refine L.nil ?_
    refine C.next ?_
    refine C.seq ?_
    refine C.region [(false,0),(false,1),(false,2),(false,3),(false,4),(false,5),(false,6),(false,7),(false,8),(false,9)] rfl ?_
    refine L.loadDW rfl Tf.a25 rfl hB1 (by first | simp | assumption) Tf.s25 List.not_mem_nil rfl trivial ?_
    refine L.call rfl rfl rfl (fun D9 hD9 => Row_ok _ r _ (hr0.up (hD9 _ (by simp))) (by omega) (by omega)) rfl trivial (fun v9 D9 hD9 hp9 => ?_)
    have hw := hp9
    refine L.move rfl rfl rfl trivial ?_
    refine L.move rfl rfl rfl trivial ?_
    refine L.callV rfl rfl rfl (fun D10 hD10 => Looks_ok _ r _ _ _ (hw.up (hD10 _ (by simp)))) rfl trivial ?_
    refine L.move rfl rfl rfl trivial ?_
    refine L.extract rfl rfl rfl rfl trivial ?_
    refine L.extract rfl rfl rfl rfl trivial ?_
    refine L.assign rfl rfl rfl trivial ?_
    refine L.assign rfl rfl rfl trivial ?_
    refine L.nil ?_
    refine C.next ?_
    refine C.seq ?_
    refine C.region [(false,0),(false,1),(false,2),(false,3),(false,4),(false,5),(false,6),(false,7),(false,8),(false,9),(false,10),(false,11),(false,12),(false,13)] rfl ?_
    refine L.loadBW rfl Tf.a25 rfl (List.Mem.tail _ (List.Mem.tail _ (List.Mem.head _))) Tf.s25 List.not_mem_nil rfl trivial ?_
    refine L.call rfl rfl rfl (fun D11 hD11 => Row_ok _ (turnD r) _ (htr.up (hD11 _ (by simp))) (by omega) (by omega)) rfl trivial (fun v11 D11 hD11 hp11 => ?_)
    have hw := hp11
    refine L.move rfl rfl rfl trivial ?_
    refine L.move rfl rfl rfl trivial ?_
    refine L.sub rfl rfl rfl (by simp only [inK]; omega) rfl trivial ?_
    refine L.move rfl rfl rfl trivial ?_
    refine L.move rfl rfl rfl trivial ?_
    refine L.sub rfl rfl rfl (by simp only [inK]; omega) rfl trivial ?_
    refine L.callV rfl rfl rfl (fun D12 hD12 => Looks_ok _ (turnD r) _ _ _ (hw.up (hD12 _ (by simp)))) rfl trivial ?_
    refine L.move rfl rfl rfl trivial ?_
    refine L.extract rfl rfl rfl rfl trivial ?_
    refine L.extract rfl rfl rfl rfl trivial ?_
    refine L.assign rfl rfl rfl trivial ?_
    refine L.assign rfl rfl rfl trivial ?_
    refine L.nil ?_
    refine C.next ?_
    refine C.seq ?_
    refine C.region [(false,0),(false,1),(false,2),(false,3),(false,4),(false,5),(false,6),(false,7)] rfl ?_
    refine L.loadDW rfl Tf.a25 rfl hB1 (by first | simp | assumption) Tf.s25 List.not_mem_nil rfl trivial ?_
    refine L.call rfl rfl rfl (fun D13 hD13 => Row_ok _ r _ (hr0.up (hD13 _ (by simp))) (by omega) (by omega)) rfl trivial (fun v13 D13 hD13 hp13 => ?_)
    have hw := hp13
    refine L.callV rfl rfl rfl (fun D14 hD14 => Least_ok _ r _ (hw.up (hD14 _ (by simp)))) rfl trivial ?_
    refine L.move rfl rfl rfl trivial ?_
    refine L.extract rfl rfl rfl rfl trivial ?_
    refine L.extract rfl rfl rfl rfl trivial ?_
    refine L.assign rfl rfl rfl trivial ?_
    refine L.assign rfl rfl rfl trivial ?_
    refine L.nil ?_
    refine C.next ?_
    refine C.seq ?_
    refine C.region [(false,0),(false,1),(false,2),(false,3),(false,4),(false,5),(false,6),(false,7)] rfl ?_
    refine L.loadBW rfl Tf.a25 rfl (List.Mem.tail _ (List.Mem.tail _ (List.Mem.head _))) Tf.s25 List.not_mem_nil rfl trivial ?_
    refine L.call rfl rfl rfl (fun D15 hD15 => Row_ok _ (turnD r) _ (htr.up (hD15 _ (by simp))) (by omega) (by omega)) rfl trivial (fun v15 D15 hD15 hp15 => ?_)
    have hw := hp15
    refine L.callV rfl rfl rfl (fun D16 hD16 => Least_ok _ (turnD r) _ (hw.up (hD16 _ (by simp)))) rfl trivial ?_
    refine L.move rfl rfl rfl trivial ?_
    refine L.extract rfl rfl rfl rfl trivial ?_
    refine L.extract rfl rfl rfl rfl trivial ?_
    refine L.assign rfl rfl rfl trivial ?_
    refine L.assign rfl rfl rfl trivial ?_
    refine L.nil ?_
    refine C.next ?_
    refine C.seq ?_
    refine C.seq ?_
    refine C.region [(false,0),(false,1),(false,2),(false,3),(false,4),(false,5),(false,6),(false,7),(false,8),(false,9),(false,10),(false,11),(false,12),(false,13),(false,14),(false,15),(false,16),(false,17)] rfl ?_
    refine L.move rfl rfl rfl trivial ?_
    refine L.move rfl rfl rfl trivial ?_
    refine L.neq rfl rfl rfl rfl trivial ?_
    refine L.move rfl rfl rfl trivial ?_
    refine' L.or [(false,4),(false,5),(false,6),(false,7)] [(false,8),(false,9),(false,10),(false,11),(false,12),(false,13),(false,14),(false,15),(false,16),(false,17)] (s := 95) (p := 99) rfl rfl (fun hg1 => ?_) (fun hg1 => ?_) ?_
    rotate_left
    · refine L.move rfl rfl rfl ⟨_, rfl, rfl⟩ ?_
      refine L.move rfl rfl rfl ⟨_, rfl, rfl⟩ ?_
      refine L.neq rfl rfl rfl rfl ⟨_, rfl, rfl⟩ ?_
      refine L.pickF rfl rfl rfl rfl trivial ?_
      exact L.nil fun a w hh => hh.cutK 3 rfl
    · refine L.pass rfl rfl rfl ⟨_, _, rfl, rfl, rfl⟩ ?_
      refine L.pass rfl rfl rfl ⟨_, _, rfl, rfl, rfl⟩ ?_
      refine L.pass rfl rfl rfl ⟨_, _, rfl, rfl, rfl⟩ ?_
      refine L.pickT rfl rfl rfl rfl trivial ?_
      exact L.nil fun a w hh => hh.cutK 3 rfl
    refine L.move rfl rfl rfl trivial ?_
    refine' L.or [(false,9),(false,10),(false,11),(false,12)] [(false,13),(false,14),(false,15),(false,16),(false,17)] (s := 100) (p := 104) rfl rfl (fun hg2 => ?_) (fun hg2 => ?_) ?_
    rotate_left
    · refine L.move rfl rfl rfl ⟨_, rfl, rfl⟩ ?_
      refine L.move rfl rfl rfl ⟨_, rfl, rfl⟩ ?_
      refine L.neq rfl rfl rfl rfl ⟨_, rfl, rfl⟩ ?_
      refine L.pickF rfl rfl rfl rfl trivial ?_
      exact L.nil fun a w hh => hh.cutK 3 rfl
    · refine L.pass rfl rfl rfl ⟨_, _, rfl, rfl, rfl⟩ ?_
      refine L.pass rfl rfl rfl ⟨_, _, rfl, rfl, rfl⟩ ?_
      refine L.pass rfl rfl rfl ⟨_, _, rfl, rfl, rfl⟩ ?_
      refine L.pickT rfl rfl rfl rfl trivial ?_
      exact L.nil fun a w hh => hh.cutK 3 rfl
    refine L.move rfl rfl rfl trivial ?_
    refine' L.or [(false,14),(false,15),(false,16),(false,17)] [] (s := 105) (p := 109) rfl rfl (fun hg3 => ?_) (fun hg3 => ?_) ?_
    rotate_left
    · refine L.move rfl rfl rfl ⟨_, rfl, rfl⟩ ?_
      refine L.move rfl rfl rfl ⟨_, rfl, rfl⟩ ?_
      refine L.neq rfl rfl rfl rfl ⟨_, rfl, rfl⟩ ?_
      refine L.pickF rfl rfl rfl rfl trivial ?_
      exact L.nil fun a w hh => hh.cutK 3 rfl
    · refine L.pass rfl rfl rfl ⟨_, _, rfl, rfl, rfl⟩ ?_
      refine L.pass rfl rfl rfl ⟨_, _, rfl, rfl, rfl⟩ ?_
      refine L.pass rfl rfl rfl ⟨_, _, rfl, rfl, rfl⟩ ?_
      refine L.pickT rfl rfl rfl rfl trivial ?_
      exact L.nil fun a w hh => hh.cutK 3 rfl
    refine L.nil ?_
    refine C.next ?_
    refine C.cond rfl (fun hc2 => ?_) (fun hc2 => ?_)
    · exact absurd hc2 (by rw [hlE, hlV, hA, hask]; simp)
    · refine C.skip ?_
      refine C.next ?_
      refine C.seq ?_
      refine C.region [(false,0),(false,1),(false,2),(false,3),(false,4),(false,5),(false,6),(false,7),(false,8),(false,9),(false,10),(false,11),(false,12),(false,13),(false,14),(false,15),(false,16),(false,17),(false,18),(false,19),(false,20),(false,21),(false,22),(false,23),(false,24),(false,25),(false,26),(false,27),(false,28)] rfl ?_
      refine L.move rfl rfl rfl trivial ?_
      refine L.eql rfl rfl rfl rfl trivial ?_
      refine L.move rfl rfl rfl trivial ?_
      refine' L.and [(false,3),(false,4),(false,5)] [(false,6),(false,7),(false,8),(false,9),(false,10),(false,11),(false,12),(false,13),(false,14),(false,15),(false,16),(false,17),(false,18),(false,19),(false,20),(false,21),(false,22),(false,23),(false,24),(false,25),(false,26),(false,27),(false,28)] (s := 112) (p := 115) rfl rfl (fun hg4 => ?_) (fun hg4 => ?_) ?_
      rotate_left
      · refine L.move rfl rfl rfl ⟨_, rfl, rfl⟩ ?_
        refine L.eql rfl rfl rfl rfl ⟨_, rfl, rfl⟩ ?_
        refine L.pickT rfl rfl rfl rfl trivial ?_
        exact L.nil fun a w hh => hh.cutK 2 rfl
      · refine L.pass rfl rfl rfl ⟨_, _, rfl, rfl, rfl⟩ ?_
        refine L.pass rfl rfl rfl ⟨_, _, rfl, rfl, rfl⟩ ?_
        refine L.pickF rfl rfl rfl rfl trivial ?_
        exact L.nil fun a w hh => hh.cutK 2 rfl
      refine L.move rfl rfl rfl trivial ?_
      refine' L.or [(false,7),(false,8),(false,9),(false,10),(false,11),(false,12),(false,13),(false,14)] [(false,15),(false,16),(false,17),(false,18),(false,19),(false,20),(false,21),(false,22),(false,23),(false,24),(false,25),(false,26),(false,27),(false,28)] (s := 116) (p := 124) rfl rfl (fun hg5 => ?_) (fun hg5 => ?_) ?_
      rotate_left
      · refine L.move rfl rfl rfl ⟨_, rfl, rfl⟩ ?_
        refine L.eql rfl rfl rfl rfl ⟨_, rfl, rfl⟩ ?_
        refine L.move rfl rfl rfl ⟨_, rfl, rfl⟩ ?_
        refine' L.and [(false,10),(false,11),(false,12),(false,13)] [(false,14)] (s := 119) (p := 123) rfl rfl (fun hg6 => ?_) (fun hg6 => ?_) ?_
        rotate_left
        · refine L.move rfl rfl rfl ⟨_, rfl, rfl⟩ ?_
          refine L.move rfl rfl rfl ⟨_, rfl, rfl⟩ ?_
          refine L.eql rfl rfl rfl rfl ⟨_, rfl, rfl⟩ ?_
          refine L.pickT rfl rfl rfl rfl ⟨_, rfl, rfl⟩ ?_
          exact L.nil fun a w hh => hh.cutK 3 rfl
        · refine L.pass rfl rfl rfl ⟨_, _, rfl, rfl, rfl⟩ ?_
          refine L.pass rfl rfl rfl ⟨_, _, rfl, rfl, rfl⟩ ?_
          refine L.pass rfl rfl rfl ⟨_, _, rfl, rfl, rfl⟩ ?_
          refine L.pickF rfl rfl rfl rfl ⟨_, rfl, rfl⟩ ?_
          exact L.nil fun a w hh => hh.cutK 3 rfl
        refine L.pickF rfl rfl rfl rfl trivial ?_
        exact L.nil fun a w hh => hh.cutK 4 rfl
      · refine L.pass rfl rfl rfl ⟨_, _, rfl, rfl, rfl⟩ ?_
        refine L.pass rfl rfl rfl ⟨_, _, rfl, rfl, rfl⟩ ?_
        refine L.pass rfl rfl rfl ⟨_, _, rfl, rfl, rfl⟩ ?_
        refine L.pass rfl rfl rfl ⟨_, _, rfl, rfl, rfl⟩ ?_
        refine L.pass rfl rfl rfl ⟨_, _, rfl, rfl, rfl⟩ ?_
        refine L.pass rfl rfl rfl ⟨_, _, rfl, rfl, rfl⟩ ?_
        refine L.pass rfl rfl rfl ⟨_, _, rfl, rfl, rfl⟩ ?_
        refine L.pickT rfl rfl rfl rfl trivial ?_
        exact L.nil fun a w hh => hh.cutK 7 rfl
      refine L.move rfl rfl rfl trivial ?_
      refine' L.and [(false,16),(false,17),(false,18),(false,19)] [(false,20),(false,21),(false,22),(false,23),(false,24),(false,25),(false,26),(false,27),(false,28)] (s := 125) (p := 129) rfl rfl (fun hg7 => ?_) (fun hg7 => ?_) ?_
      rotate_left
      · refine L.loadBW rfl Tf.a29 rfl (List.Mem.tail _ (List.Mem.head _)) Tf.s29 List.not_mem_nil rfl ⟨_, rfl, rfl⟩ ?_
        refine L.loadBW rfl Tf.a29 rfl (List.Mem.head _) Tf.s29 List.not_mem_nil rfl ⟨_, rfl, rfl⟩ ?_
        refine L.eqlK  rfl (by kernel_rfl) k2_29 rfl rfl rfl ⟨_, rfl, rfl⟩ ?_
        refine L.pickT rfl rfl rfl rfl trivial ?_
        exact L.nil fun a w hh => hh.cutK 3 rfl
      · refine L.pass rfl rfl rfl ⟨_, _, rfl, rfl, rfl⟩ ?_
        refine L.pass rfl rfl rfl ⟨_, _, rfl, rfl, rfl⟩ ?_
        refine L.pass rfl rfl rfl ⟨_, _, rfl, rfl, rfl⟩ ?_
        refine L.pickF rfl rfl rfl rfl trivial ?_
        exact L.nil fun a w hh => hh.cutK 3 rfl
      refine L.move rfl rfl rfl trivial ?_
      refine' L.and [(false,21),(false,22),(false,23),(false,24)] [(false,25),(false,26),(false,27),(false,28)] (s := 130) (p := 134) rfl rfl (fun hg8 => ?_) (fun hg8 => ?_) ?_
      rotate_left
      · refine L.move rfl rfl rfl ⟨_, rfl, rfl⟩ ?_
        refine L.move rfl rfl rfl ⟨_, rfl, rfl⟩ ?_
        refine L.eql rfl rfl rfl rfl ⟨_, rfl, rfl⟩ ?_
        refine L.pickT rfl rfl rfl rfl trivial ?_
        exact L.nil fun a w hh => hh.cutK 3 rfl
      · refine L.pass rfl rfl rfl ⟨_, _, rfl, rfl, rfl⟩ ?_
        refine L.pass rfl rfl rfl ⟨_, _, rfl, rfl, rfl⟩ ?_
        refine L.pass rfl rfl rfl ⟨_, _, rfl, rfl, rfl⟩ ?_
        refine L.pickF rfl rfl rfl rfl trivial ?_
        exact L.nil fun a w hh => hh.cutK 3 rfl
      refine L.move rfl rfl rfl trivial ?_
      refine' L.and [(false,26),(false,27)] [(false,28)] (s := 135) (p := 137) rfl rfl (fun hg9 => ?_) (fun hg9 => ?_) ?_
      rotate_left
      · refine L.callV rfl rfl rfl (fun D17 hD17 => awake_ok _) rfl ⟨_, rfl, rfl⟩ ?_
        refine L.pickT rfl rfl rfl rfl trivial ?_
        exact L.nil fun a w hh => hh.cutK 1 rfl
      · refine L.pass rfl rfl rfl ⟨_, _, rfl, rfl, rfl⟩ ?_
        refine L.pickF rfl rfl rfl rfl trivial ?_
        exact L.nil fun a w hh => hh.cutK 1 rfl
      refine L.assign rfl rfl rfl trivial ?_
      refine L.nil ?_
      refine C.next ?_
      refine C.ret ?_
      exact leave (vs := [_]) rfl rfl rfl ⟨rfl, trivial⟩ (fun D hD => congrArg Value.bool (by rw [hC, hN, hask]; exact ct_ok hok))
end Go.Fs
