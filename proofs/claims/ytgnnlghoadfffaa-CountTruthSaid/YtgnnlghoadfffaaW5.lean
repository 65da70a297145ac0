/- Walks: bounds and verdicts. -/
import Derived.Test.YtgnnlghoadfffaaW4
namespace Go.Fs
open Go.Proofs
open C1
theorem vd_step {ts : List (List Int)} {q : List Int → Bool} {t0 t : List Int} {j : Nat} (hj : ts[j]? = some t) (h : (ts.take j).all (fun t => q t == q t0) = true) (hc : (!(q t == q t0)) = false) : (ts.take (j + 1)).all (fun t => q t == q t0) = true := by
  rw [List.take_add_one, hj, List.all_append, h]; simpa using hc
theorem ask_some {r : RowD} {f : Bool} (h : askErr r f = 0) : truths r ≠ [] := by
  unfold askErr at h; split at h; omega; split at h; omega; split at h; omega; assumption
theorem ask_fine {r : RowD} {f : Bool} (h : askErr r f = 0) : f = true := by
  unfold askErr at h; split at h; omega; split at h; omega; rename_i hf; simpa using hf
theorem ask_part {r : RowD} {i j : Int} (hok : RowOk r) (h : askErr r (partOk r i j) = 0) : 0 ≤ i ∧ i ≤ j ∧ j < 9 := by
  have := ask_fine h
  simp only [partOk, Bool.and_eq_true, inB_iff] at this
  have := hok.len9; omega
theorem truths_all {r : RowD} (hok : RowOk r) : ∀ t ∈ truths r, t.length ≤ 9 ∧ ∀ x ∈ t, 0 ≤ x ∧ x ≤ 1 := fun t ht => ⟨by have := (truths_ok ht).1; have := hok.len9; omega, (truths_ok ht).2⟩
theorem foldl_min_snoc {ts : List (List Int)} {k : Nat} {t : List Int} {f : List Int → Int} {a : Int} (h : ts[k]? = some t) : ((ts.take (k + 1)).map f).foldl min a = min (((ts.take k).map f).foldl min a) (f t) := by
  rw [List.take_add_one, h, Option.toList_some, List.map_append, List.foldl_append]; rfl
theorem foldl_max_snoc {ts : List (List Int)} {k : Nat} {t : List Int} {f : List Int → Int} {a : Int} (h : ts[k]? = some t) : ((ts.take (k + 1)).map f).foldl max a = max (((ts.take k).map f).foldl max a) (f t) := by
  rw [List.take_add_one, h, Option.toList_some, List.map_append, List.foldl_append]; rfl
open C1
theorem bounds_ok (sv : Value) (ts : List (List Int)) (i j : Int) (D : Data) (hS : Sl D RT 9 sv ts) (hne : ts ≠ []) (hall : ∀ t ∈ ts, t.length ≤ 9 ∧ ∀ x ∈ t, 0 ≤ x ∧ x ≤ 1) (hi0 : 0 ≤ i) (hij : i ≤ j) (hj9 : j < 9) :
    Fn Try.prog 67 #[sv, .int .i64 i, .int .i64 j] D (fun _ v => v = .agg #[.int .i64 (loOf ts i.toNat j.toNat), .int .i64 (hiOf ts i.toNat j.toNat)]) := by
  have hl := hS.len
  obtain ⟨t0, ht0⟩ : ∃ t, ts[0]? = some t := ⟨ts[0]'(List.length_pos_iff.2 hne), List.getElem?_eq_getElem _⟩
  have ht0m := List.mem_of_getElem? ht0
  have hb0 := partOf_bound (hall t0 ht0m).2 i.toNat j.toNat (by omega)
  have hp90 := pad9_length (hall t0 ht0m).1
  refine enter 36 Try.func67 rfl rfl rfl rfl fun h0 => ?_
  refine C.seq ?_
  refine C.region [(false,0)] rfl ?_
  refine L.alloc rfl Tf.z29 rfl rfl trivial (fun q1 => ?_)
  refine L.nil ?_
  refine C.next ?_
  refine C.seq ?_
  refine C.region [(false,0),(false,1),(false,2),(false,3),(false,4),(false,5),(false,6),(false,7)] rfl ?_
  refine L.move rfl rfl rfl trivial ?_
  refine L.indexS rfl Try.underlying100 Tf.s121 rfl hS rfl (by omega) ht0 rfl trivial (fun b1 o1 cs1 hr1 hcl1 hA1 => ?_)
  obtain rfl : cs1 = ints (pad9 _) := hr1
  refine L.loadDW rfl Tf.a121 rfl hA1 (by first | simp | assumption) (by first | exact Tf.s121 | (simp only [*]; exact Tf.s121)) List.not_mem_nil rfl trivial ?_
  refine L.callV rfl rfl rfl (fun D1 hD1 => sumsP_ok t0 _ (hall _ ht0m).1 (hall _ ht0m).2) rfl trivial ?_
  refine L.move rfl rfl rfl trivial ?_
  refine L.move rfl rfl rfl trivial ?_
  refine L.callV rfl rfl rfl (fun D2 hD2 => in_ok t0 i j _ hi0 hij hj9 (hall _ ht0m).2) rfl trivial ?_
  refine L.assign rfl rfl rfl trivial ?_
  refine L.nil ?_
  refine C.next ?_
  refine C.seq ?_
  refine C.region [(false,0),(false,1),(false,2),(false,3),(false,4)] rfl ?_
  refine L.move rfl rfl rfl trivial ?_
  refine L.move rfl rfl rfl trivial ?_
  refine L.build (cs := [.int .i64 (partOf t0 i.toNat j.toNat), .int .i64 (partOf t0 i.toNat j.toNat)]) rfl Tf.p29 Tf.z29 rfl rfl rfl trivial ?_
  refine L.alloc rfl Tf.z29 rfl rfl trivial (fun q2 => ?_)
  refine L.storeW rfl rfl rfl rfl Tf.s29 (by first | rfl | (simp only [ints_length, *]; done) | (simp only [ints_length, *]; rfl) | (simp only [ints_length, *]; omega)) (by first | rfl | (simp only [ints_length, *]; done) | (simp only [ints_length, *]; rfl) | (simp only [ints_length, *]; omega)) (Has.head) (by first | exact ints_cell1 _ | simp [cell1]) trivial ?_
  refine L.nil ?_
  refine C.next ?_
  refine C.seq ?_
  refine C.seq ?_
  refine C.region [(false,0),(false,1),(false,2)] rfl ?_
  refine L.move rfl rfl rfl trivial ?_
  refine L.len rfl Try.underlying100 rfl (by assumption) rfl rfl trivial ?_
  refine L.move rfl rfl rfl trivial ?_
  refine L.nil ?_
  refine C.next ?_
  refine C.block ?_
  refine C.loopR (γ := Nat) (fun k => ts.length - k) (fun k => k ≤ ts.length) (fun k => [(23, .int .i64 (k : Int))]) [(22, _), (21, _), (8, _), (6, _), (1, _), (2, _)] (fun k => [(q2, .cells [.int .i64 (((ts.take k).map fun t => partOf t i.toNat j.toNat).foldl min (partOf t0 i.toNat j.toNat)), .int .i64 (((ts.take k).map fun t => partOf t i.toNat j.toNat).foldl max (partOf t0 i.toNat j.toNat))].toArray 29 (0, 0)), (q1, .cells [.int .i64 0, .int .i64 0].toArray 29 (0, 0))]) (fun k => [D]) 0 (by omega) ⟨(by first | rfl | (show some (Value.int _ _) = some (Value.int _ _); congr 2; omega)), trivial⟩ ⟨rfl, rfl, rfl, rfl, rfl, rfl, trivial⟩ (List.Sublist.refl _) (ds_same) ?_
  rintro k h1
  refine C.seq ?_
  refine C.region [(false,0)] rfl ?_
  refine L.lss rfl rfl rfl rfl trivial ?_
  refine L.nil ?_
  refine C.next ?_
  refine C.seq ?_
  refine C.condD rfl (fun hc1 => ?_) (fun hc1 => ?_)
  · have hkk : k < ts.length := by omega
    obtain ⟨t, ht⟩ : ∃ t, ts[k]? = some t := ⟨_, List.getElem?_eq_getElem hkk⟩
    have htm := List.mem_of_getElem? ht
    obtain ⟨htl, htb⟩ := hall t htm
    have hp9 := pad9_length htl
    refine C.skip ?_
    refine C.next ?_
    refine C.seq ?_
    refine C.block ?_
    refine C.seq ?_
    refine C.region [(false,0),(false,1),(false,2),(false,3)] rfl ?_
    refine L.indexS rfl Try.underlying100 Tf.s121 rfl hS rfl (by omega) ht rfl trivial (fun b2 o2 cs2 hr2 hcl2 hA2 => ?_)
    obtain rfl : cs2 = ints (pad9 _) := hr2
    refine L.loadDW rfl Tf.a121 rfl hA2 (by first | simp | assumption) (by first | exact Tf.s121 | (simp only [*]; exact Tf.s121)) List.not_mem_nil rfl trivial ?_
    refine L.alloc rfl Tf.z121 rfl rfl trivial (fun q3 => ?_)
    refine L.storeW rfl rfl rfl rfl Tf.s121 (by first | rfl | (simp only [*]; done) | (simp only [ints_length, *]; rfl) | (simp only [ints_length, *]; omega)) (by first | rfl | (simp only [ints_length, *]; done) | (simp only [ints_length, *]; rfl) | (simp only [ints_length, *]; omega)) (Has.head) (by first | exact ints_cell1 _ | simp [cell1]) trivial ?_
    refine L.nil ?_
    refine C.next ?_
    refine C.draw [] 3 [0,1,3,4,2,5,6,7] [false,true,true,true,true,true,false,false] [(false,0),(true,1),(true,3),(true,4),(true,2),(true,5),(false,6),(false,7)] Tf.follows (fun _ _ _ h => np_body (P := Try.prog) (fn := Try.f67) _ _ _ h) (by kernel_rfl) rfl ?_
    refine L.loadBW rfl Tf.a29 rfl (List.Mem.tail _ (List.Mem.head _)) Tf.s29 List.not_mem_nil rfl trivial ?_
    refine L.loadBW rfl Tf.a121 rfl (List.Mem.head _) (by first | exact Tf.s121 | (simp only [*]; exact Tf.s121)) List.not_mem_nil rfl trivial ?_
    refine L.move rfl rfl rfl trivial ?_
    refine L.move rfl rfl rfl trivial ?_
    refine L.callV rfl rfl rfl (fun D3 hD3 => sumsP_ok t _ (hall _ htm).1 (hall _ htm).2) rfl trivial ?_
    refine L.callV rfl rfl rfl (fun D4 hD4 => in_ok t i j _ hi0 hij hj9 (hall _ htm).2) rfl trivial ?_
    refine L.callV rfl rfl rfl (fun D5 hD5 => wider_ok _ _ _ _) rfl trivial ?_
    refine L.storeW rfl rfl rfl rfl Tf.s29 (by first | rfl | (simp only [ints_length, *]; done) | (simp only [ints_length, *]; rfl) | (simp only [ints_length, *]; omega)) (by first | rfl | (simp only [ints_length, *]; done) | (simp only [ints_length, *]; rfl) | (simp only [ints_length, *]; omega)) (.tail (Has.head)) (by first | exact ints_cell1 _ | simp [cell1]) trivial ?_
    refine L.nil ?_
    refine C.blockEnd ?_
    refine C.next ?_
    refine C.region [(false,0),(false,1)] rfl ?_
    refine L.add rfl rfl rfl (by simp only [inK]; omega) rfl trivial ?_
    refine L.move rfl rfl rfl trivial ?_
    refine L.nil ?_
    rw [← foldl_min_snoc ht, ← foldl_max_snoc ht]
    exact C.againR 14 (k + 1) (by omega) (by omega) ⟨(by first | rfl | (show some (Value.int _ _) = some (Value.int _ _); congr 2; omega)), trivial⟩ rfl rfl (List.Sublist.cons _ (List.Sublist.refl _)) (ds_same)
  · obtain rfl : k = ts.length := by omega
    rw [List.take_length, foldl_min_self _ _ (by rw [List.getElem?_map, ht0]; rfl), foldl_max_self _ _ (by rw [List.getElem?_map, ht0]; rfl)]
    refine C.exit ?_
    refine C.thenExit ?_
    refine C.thenExit ?_
    refine C.blockExit ?_
    refine C.next ?_
    refine C.seq ?_
    refine C.region [(false,0),(false,1)] rfl ?_
    refine L.loadBW rfl Tf.a29 rfl (List.Mem.head _) Tf.s29 List.not_mem_nil rfl trivial ?_
    refine L.storeW rfl rfl rfl rfl Tf.s29 (by first | rfl | (simp only [ints_length, *]; done) | (simp only [ints_length, *]; rfl) | (simp only [ints_length, *]; omega)) (by first | rfl | (simp only [ints_length, *]; done) | (simp only [ints_length, *]; rfl) | (simp only [ints_length, *]; omega)) (.tail (Has.head)) (by first | exact ints_cell1 _ | simp [cell1]) trivial ?_
    refine L.nil ?_
    refine C.next ?_
    refine C.ret ?_
    exact leave (vs := [_]) rfl rfl rfl ⟨⟨_, _, _, rfl, (List.Mem.tail _ (List.Mem.head _)), Or.inr ⟨Tf.a29, (by first | exact Tf.s29 | (simp only [List.size_toArray, ints_length, *]; exact Tf.s29)), rfl⟩⟩, trivial⟩ (fun D hD => rfl)
theorem Chairs_ok (rv : Value) (r : RowD) (i j : Int) (D : Data) (hr : RowIs D rv r) : Fn Try.prog 20 #[rv, .int .i64 i, .int .i64 j] D (fun _ v => v = .tuple #[.agg (if askErr r (partOk r i j) = 0 then #[.int .i64 (loOf (truths r) i.toNat j.toNat), .int .i64 (hiOf (truths r) i.toNat j.toNat)] else #[.int .i64 0, .int .i64 0]), .int .i64 (askErr r (partOk r i j))]) := by
  have hr0 := hr
  obtain ⟨pv, cv, rfl, hp, hc⟩ := hr
  refine enter 30 Try.func20 rfl rfl rfl rfl fun h0 => ?_
  refine C.seq ?_
  refine C.region [(false,0),(false,1),(false,2)] rfl ?_
  refine L.boxD rfl rfl rfl rfl trivial (fun q1 E1 hE1 hB1 => ?_)
  refine L.alloc rfl Tf.z29 rfl rfl trivial (fun q2 => ?_)
  refine L.assign rfl rfl rfl trivial ?_
  refine L.nil ?_
  refine C.next ?_
  refine C.seq ?_
  refine C.draw [] 4 [0,1,2,3,4,5,6,7,8,9,10] [false,true,true,true,true,false,false,false,true,true,false] [(false,0),(true,1),(true,2),(true,3),(true,4),(false,5),(false,6),(false,7),(true,8),(true,9),(false,10)] Tf.follows (fun _ _ _ h => np_body (P := Try.prog) (fn := Try.f20) _ _ _ h) (by kernel_rfl) rfl ?_
  refine L.loadDW rfl Tf.a35 rfl hB1 (by first | simp | assumption) Tf.s35 List.not_mem_nil rfl trivial ?_
  refine L.loadDW rfl Tf.a35 rfl hB1 (by first | simp | assumption) Tf.s35 List.not_mem_nil rfl trivial ?_
  refine L.move rfl rfl rfl trivial ?_
  refine L.move rfl rfl rfl trivial ?_
  refine L.callV rfl rfl rfl (fun D1 hD1 => part_ok _ r i j _ (hr0.up (hD1 _ (by simp)))) rfl trivial ?_
  refine L.call rfl rfl rfl (fun D2 hD2 => asked_ok _ r _ _ (hr0.up (hD2 _ (by simp)))) rfl trivial (fun v2 D2 hD2 hp2 => ?_)
  obtain ⟨wv, rfl, hwk⟩ := hp2
  refine L.move rfl rfl rfl trivial ?_
  refine L.extract rfl rfl rfl rfl trivial ?_
  refine L.extract rfl rfl rfl rfl trivial ?_
  refine L.assign rfl rfl rfl trivial ?_
  refine L.assign rfl rfl rfl trivial ?_
  refine L.nil ?_
  refine C.next ?_
  refine C.seq ?_
  refine C.seq ?_
  refine C.region [(false,0),(false,1)] rfl ?_
  refine L.move rfl rfl rfl trivial ?_
  refine L.neq rfl rfl rfl rfl trivial ?_
  refine L.nil ?_
  refine C.next ?_
  refine C.condD rfl (fun hc1 => ?_) (fun hc1 => ?_)
  · refine C.seq ?_
    refine C.region [(false,0),(false,1),(false,2),(false,3)] rfl ?_
    refine L.build (cs := [.int .i64 0, .int .i64 0]) rfl Tf.p29 Tf.z29 rfl rfl rfl trivial ?_
    refine L.move rfl rfl rfl trivial ?_
    refine L.storeW rfl rfl rfl rfl Tf.s29 (by first | rfl | (simp only [ints_length, *]; done) | (simp only [ints_length, *]; rfl) | (simp only [ints_length, *]; omega)) (by first | rfl | (simp only [ints_length, *]; done) | (simp only [ints_length, *]; rfl) | (simp only [ints_length, *]; omega)) (Has.head) (by first | exact ints_cell1 _ | simp [cell1]) trivial ?_
    refine L.assign rfl rfl rfl trivial ?_
    refine L.nil ?_
    refine C.next ?_
    refine C.ret ?_
    refine C.thenRet ?_
    exact leave (vs := [_, _]) rfl rfl rfl ⟨⟨_, _, _, rfl, (List.Mem.head _), Or.inr ⟨Tf.a29, (by first | exact Tf.s29 | (simp only [List.size_toArray, ints_length, *]; exact Tf.s29)), rfl⟩⟩, rfl, trivial⟩ (fun D hD => by show Value.tuple _ = _; rw [if_neg hc1])
  · have he0 : askErr r (partOk r i j) = 0 := by omega
    obtain ⟨hok, wb, pv2, cv2, tv, rfl, hA, hp2, hc2', ht⟩ := hwk he0
    have htn := ask_some he0
    have hall := truths_all hok
    have hpt := ask_part hok he0
    refine C.skip ?_
    refine C.next ?_
    refine C.seq ?_
    refine C.region [(false,0),(false,1),(false,2),(false,3),(false,4),(false,5),(false,6),(false,7),(false,8)] rfl ?_
    refine L.move rfl rfl rfl trivial ?_
    refine L.nilCheck rfl rfl rfl trivial ?_
    refine L.fieldAddr rfl Tf.f102_1 rfl rfl trivial ?_
    refine L.loadD1 rfl (k := 4) Tf.a100 rfl hA (by first | simp | assumption) rfl List.not_mem_nil rfl trivial ?_
    refine L.move rfl rfl rfl trivial ?_
    refine L.move rfl rfl rfl trivial ?_
    refine L.callV rfl rfl rfl (fun D3 hD3 => bounds_ok _ _ i j _ (ht.up RT.up (hD3 _ (by simp))) htn hall hpt.1 hpt.2.1 hpt.2.2) rfl trivial ?_
    refine L.storeW rfl rfl rfl rfl Tf.s29 (by first | rfl | (simp only [ints_length, *]; done) | (simp only [ints_length, *]; rfl) | (simp only [ints_length, *]; omega)) (by first | rfl | (simp only [ints_length, *]; done) | (simp only [ints_length, *]; rfl) | (simp only [ints_length, *]; omega)) (Has.head) (by first | exact ints_cell1 _ | simp [cell1]) trivial ?_
    refine L.assign rfl rfl rfl trivial ?_
    refine L.nil ?_
    refine C.next ?_
    refine C.ret ?_
    exact leave (vs := [_, _]) rfl rfl rfl ⟨⟨_, _, _, rfl, (List.Mem.head _), Or.inr ⟨Tf.a29, (by first | exact Tf.s29 | (simp only [List.size_toArray, ints_length, *]; exact Tf.s29)), rfl⟩⟩, rfl, trivial⟩ (fun D hD => by show Value.tuple _ = _; rw [if_pos he0, he0])
theorem has_ok (wv : Value) (t : List Int) (i : Nat) (D : Data) (h9 : t.length ≤ 9) (hi : i < 9) : Fn Try.prog 70 #[wv, .agg (ints (pad9 t)).toArray, .int .i64 (i : Int)] D (fun _ v => v = .bool (hasAt i t)) := by
  have hg := pad9_get hi h9
  refine enter 11 Try.func70 rfl rfl rfl rfl fun h0 => ?_
  refine C.seq ?_
  refine C.region [(false,0),(false,1)] rfl ?_
  refine L.boxD rfl rfl rfl rfl trivial (fun q1 E1 hE1 hB1 => ?_)
  refine L.assign rfl rfl rfl trivial ?_
  refine L.nil ?_
  refine C.next ?_
  refine C.seq ?_
  refine C.region [(false,0),(false,1),(false,2),(false,3),(false,4)] rfl ?_
  refine L.move rfl rfl rfl trivial ?_
  refine L.indexB rfl Try.underlying121 Tf.s3 rfl rfl (by omega) (by omega) rfl trivial ?_
  refine L.loadDI rfl Tf.a3 rfl hB1 (by simp) (ints_get hg) List.not_mem_nil rfl trivial ?_
  refine L.gtr rfl rfl rfl rfl trivial ?_
  refine L.assign rfl rfl rfl trivial ?_
  refine L.nil ?_
  refine C.next ?_
  refine C.ret ?_
  exact leave (vs := [_]) rfl rfl rfl ⟨rfl, trivial⟩ (fun D hD => rfl)
theorem right_ok (wv : Value) (r : RowD) (t : List Int) (i : Nat) (c : Cnt) (D : Data) (hw : WorkIs D wv r) (hok : RowOk r) (htr : TruthOk r t) (hci : r.counts[i]? = some c) : Fn Try.prog 72 #[wv, .agg (ints (pad9 t)).toArray, .int .i64 (i : Int)] D (fun _ v => v = .bool (rightAt r i t)) := by
  obtain ⟨wb, pv, cv, tv, rfl, hA, hp, hc, ht⟩ := hw
  have hl := hc.len
  have hcm := List.mem_of_getElem? hci
  have h9 : t.length ≤ 9 := by have := hok.len9; have := htr.1; omega
  have hp9 := pad9_length h9
  refine enter 23 Try.func72 rfl rfl rfl rfl fun h0 => ?_
  refine C.seq ?_
  refine C.region [(false,0),(false,1)] rfl ?_
  refine L.boxD rfl rfl rfl rfl trivial (fun q1 E1 hE1 hB1 => ?_)
  refine L.assign rfl rfl rfl trivial ?_
  refine L.nil ?_
  refine C.next ?_
  refine C.seq ?_
  refine C.draw [] 8 [0,1,2,3,4,5,6,7,8,9,10,11,12,13,14,15,16] [false,false,false,false,true,true,true,true,true,true,true,true,true,true,false,false,false] [(false,0),(false,1),(false,2),(false,3),(true,4),(true,5),(true,6),(true,7),(true,8),(true,9),(true,10),(true,11),(true,12),(true,13),(false,14),(false,15),(false,16)] Tf.follows (fun _ _ _ h => np_body (P := Try.prog) (fn := Try.f72) _ _ _ h) (by kernel_rfl) rfl ?_
  refine L.move rfl rfl rfl trivial ?_
  refine L.nilCheck rfl rfl rfl trivial ?_
  refine L.fieldAddr rfl Tf.f102_0 rfl rfl trivial ?_
  refine L.loadDP rfl (k := 0) Tf.a35 Tf.s35 rfl hA (by first | simp | assumption) rfl rfl List.not_mem_nil rfl trivial ?_
  refine L.move rfl rfl rfl trivial ?_
  refine L.nilCheck rfl rfl rfl trivial ?_
  refine L.fieldAddr rfl Tf.f102_0 rfl rfl trivial ?_
  refine L.fieldAddr rfl Tf.f35_1 rfl rfl trivial ?_
  refine L.loadD1 rfl (k := 1) Tf.a33 rfl hA (by first | simp | assumption) rfl List.not_mem_nil rfl trivial ?_
  refine L.move rfl rfl rfl trivial ?_
  refine L.indexS rfl Try.underlying33 Tf.s87 rfl hc rfl (by omega) hci rfl trivial (fun b1 o1 cs1 hr1 hcl1 hA1 => ?_)
  obtain rfl : cs1 = [.bool _, .int .i64 _, .int .i64 _] := hr1
  refine L.loadDW rfl Tf.a87 rfl hA1 (by first | simp | assumption) Tf.s87 List.not_mem_nil rfl trivial ?_
  refine L.loadDW rfl Tf.a121 rfl hB1 (by first | simp | assumption) (by first | exact Tf.s121 | (simp only [ints_length, *]; exact Tf.s121)) List.not_mem_nil rfl trivial ?_
  refine L.callV rfl rfl rfl (fun D1 hD1 => sumsP_ok t _ h9 htr.2) rfl trivial ?_
  refine L.callV rfl rfl rfl (fun D2 hD2 => off_ok _ r c t _ ⟨_, _, rfl, hp.up RI.up (hD2 _ (by simp)), hc.up RC.up (hD2 _ (by simp))⟩ hok htr hcm) rfl trivial ?_
  refine L.eql rfl rfl rfl rfl trivial ?_
  refine L.assign rfl rfl rfl trivial ?_
  refine L.nil ?_
  refine C.next ?_
  refine C.ret ?_
  exact leave (vs := [_]) rfl rfl rfl ⟨rfl, trivial⟩ (fun D hD => by show Value.bool _ = _; simp only [rightAt, hci])
theorem verdicts_ok (fv wv : Value) (f : FuncId) (r : RowD) (p : Nat → List Int → Bool) (many : Nat) (D : Data) (hfv : fv = .func (.func f) #[] #[]) (hw : WorkIs D wv r) (hok : RowOk r) (hne : truths r ≠ []) (hm : many ≤ 9)
    (hf : ∀ t ∈ truths r, ∀ i, i < many → ∀ D', Le D D' → Fn Try.prog f #[wv, .agg (ints (pad9 t)).toArray, .int .i64 (i : Int)] D' (fun _ v => v = .bool (p i t))) :
    Fn Try.prog 71 #[.agg #[fv], wv, .int .i64 (many : Int)] D (fun D' v => Sl D' RI 1 v ((List.range many).map fun i => vd (truths r) (p i))) := by
  obtain ⟨wb, pv, cv, tv, rfl, hA, hp, hc, ht⟩ := hw
  subst hfv
  have hl := ht.len
  have hall := truths_all hok
  obtain ⟨t0, ht0⟩ : ∃ t, (truths r)[0]? = some t := ⟨(truths r)[0]'(List.length_pos_iff.2 hne), List.getElem?_eq_getElem _⟩
  have ht0m := List.mem_of_getElem? ht0
  have hp90 := pad9_length (hall t0 ht0m).1
  refine enter 52 Try.func71 rfl rfl rfl rfl fun h0 => ?_
  refine C.seq ?_
  refine C.region [(false,0),(false,1)] rfl ?_
  refine L.boxD rfl rfl rfl rfl trivial (fun q1 E1 hE1 hB1 => ?_)
  refine L.assign rfl rfl rfl trivial ?_
  refine L.nil ?_
  refine C.next ?_
  refine C.seq ?_
  refine C.seq ?_
  refine C.region [(false,0),(false,1)] rfl ?_
  refine L.move rfl rfl rfl trivial ?_
  refine L.move rfl rfl rfl trivial ?_
  refine L.nil ?_
  refine C.next ?_
  refine C.block ?_
  refine C.loopR (γ := Nat × Value × Boxes) (fun g => many - g.1) (fun g => g.1 ≤ many ∧ Acc 3 1 g.2.1 g.1 (ints ((List.range g.1).map fun i => vd (truths r) (p i))) g.2.2) (fun g => [(13, .int .i64 (g.1 : Int)), (6, g.2.1)]) [(12, _), (3, _), (1, _)] (fun g => g.2.2 ++ []) (fun g => [E1, D]) (0, .slice none 0 0, []) ⟨by simp, by simpa [ints] using Acc.nil⟩ ⟨(by first | rfl | (show some (Value.int _ _) = some (Value.int _ _); congr 2; omega)), (by first | rfl | (show some (Value.int _ _) = some (Value.int _ _); congr 2; omega)), trivial⟩ ⟨rfl, rfl, rfl, trivial⟩ (List.Sublist.refl _) (ds_same) ?_
  rintro ⟨k, v, ν⟩ ⟨h1, ha⟩
  refine C.seq ?_
  refine C.region [(false,0)] rfl ?_
  refine L.lss rfl rfl rfl rfl trivial ?_
  refine L.nil ?_
  refine C.next ?_
  refine C.seq ?_
  refine C.condD rfl (fun hc1 => ?_) (fun hc1 => ?_)
  · refine C.skip ?_
    refine C.next ?_
    refine C.seq ?_
    refine C.block ?_
    refine C.seq ?_
    refine C.region [(false,0),(false,1)] rfl ?_
    refine L.move rfl rfl rfl trivial ?_
    refine L.assign rfl rfl rfl trivial ?_
    refine L.nil ?_
    refine C.next ?_
    refine C.scope ?_
    refine C.seq ?_
    refine C.draw [] 6 [0,1,2,3,4,5,6,7,8,9,10,11] [false,false,true,true,true,true,true,true,true,true,false,false] [(false,0),(false,1),(true,2),(true,3),(true,4),(true,5),(true,6),(true,7),(true,8),(true,9),(false,10),(false,11)] Tf.follows (fun _ _ _ h => np_body (P := Try.prog) (fn := Try.f71) _ _ _ h) (by kernel_rfl) rfl ?_
    refine L.fieldAddr rfl Tf.f108_0 rfl rfl trivial ?_
    refine L.loadD1 rfl (k := 0) Tf.a105 rfl hB1 (by first | simp | assumption) rfl List.not_mem_nil rfl trivial ?_
    refine L.move rfl rfl rfl trivial ?_
    refine L.move rfl rfl rfl trivial ?_
    refine L.nilCheck rfl rfl rfl trivial ?_
    refine L.fieldAddr rfl Tf.f102_1 rfl rfl trivial ?_
    refine L.loadD1 rfl (k := 4) Tf.a100 rfl hA (by first | simp | assumption) rfl List.not_mem_nil rfl trivial ?_
    refine L.indexS rfl Try.underlying100 Tf.s121 rfl ht rfl (by omega) ht0 rfl trivial (fun b1 o1 cs1 hr1 hcl1 hA1 => ?_)
    obtain rfl : cs1 = ints (pad9 _) := hr1
    refine L.loadDW rfl Tf.a121 rfl hA1 (by first | simp | assumption) (by first | exact Tf.s121 | (simp only [*]; exact Tf.s121)) List.not_mem_nil rfl trivial ?_
    refine L.move rfl rfl rfl trivial ?_
    refine L.callV rfl rfl rfl (fun D1 hD1 => hf t0 ht0m k (by omega) _ (hD1 _ (by simp))) rfl trivial ?_
    refine L.assign rfl rfl rfl trivial ?_
    refine L.nil ?_
    refine C.next ?_
    refine C.seq ?_
    refine C.region [(false,0)] rfl ?_
    refine L.assign rfl rfl rfl trivial ?_
    refine L.nil ?_
    refine C.next ?_
    refine C.seq ?_
    refine C.seq ?_
    refine C.region [(false,0)] rfl ?_
    refine L.move rfl rfl rfl trivial ?_
    refine L.nil ?_
    refine C.next ?_
    refine C.cond rfl (fun hc2 => ?_) (fun hc2 => ?_)
    · refine C.region [(false,0)] rfl ?_
      refine L.assign rfl rfl rfl trivial ?_
      refine L.nil ?_
      refine C.next ?_
      refine C.seq ?_
      refine C.label ?_
      refine C.next ?_
      refine C.seq ?_
      refine C.seq ?_
      refine C.region [(false,0),(false,1),(false,2),(false,3),(false,4),(false,5)] rfl ?_
      refine L.move rfl rfl rfl trivial ?_
      refine L.nilCheck rfl rfl rfl trivial ?_
      refine L.fieldAddr rfl Tf.f102_1 rfl rfl trivial ?_
      refine L.loadD1 rfl (k := 4) Tf.a100 rfl hA (by first | simp | assumption) rfl List.not_mem_nil rfl trivial ?_
      refine L.len rfl Try.underlying100 rfl (by assumption) rfl rfl trivial ?_
      refine L.move rfl rfl rfl trivial ?_
      refine L.nil ?_
      refine C.next ?_
      refine C.block ?_
      refine C.loopC (γ := Nat) (fun j => (truths r).length - j) (fun j => j ≤ (truths r).length ∧ ((truths r).take j).all (fun t => p k t == p k t0) = true) (fun j => [(33, .int .i64 (j : Int))]) [(32, _), (31, _), (30, _), (29, _), (28, _), (9, _), (27, _), (8, _), (26, _), (25, _), (24, _), (23, _), (22, _), (21, _), (20, _), (19, _), (18, _), (17, _), (16, _), (7, _), (15, _), (14, _), (13, _), (6, _), (12, _), (3, _), (1, _)] (fun j => [E1, D]) 0 (by simp) ⟨(by first | rfl | (show some (Value.int _ _) = some (Value.int _ _); congr 2; omega)), trivial⟩ ⟨rfl, rfl, rfl, rfl, rfl, rfl, rfl, rfl, rfl, rfl, rfl, rfl, rfl, rfl, rfl, rfl, rfl, rfl, rfl, rfl, rfl, rfl, rfl, rfl, rfl, rfl, rfl, trivial⟩ (ds_same) ?_
      rintro j ⟨h3, h4⟩
      refine C.seq ?_
      refine C.region [(false,0)] rfl ?_
      refine L.lss rfl rfl rfl rfl trivial ?_
      refine L.nil ?_
      refine C.next ?_
      refine C.seq ?_
      refine C.condD rfl (fun hc3 => ?_) (fun hc3 => ?_)
      · have hj : j < (truths r).length := by omega
        obtain ⟨t, ht1⟩ : ∃ t, (truths r)[j]? = some t := ⟨_, List.getElem?_eq_getElem hj⟩
        have htm := List.mem_of_getElem? ht1
        obtain ⟨htl, htb⟩ := hall t htm
        have hp9 := pad9_length htl
        refine C.skip ?_
        refine C.next ?_
        refine C.seq ?_
        refine C.block ?_
        refine C.seq ?_
        refine C.region [(false,0),(false,1),(false,2),(false,3)] rfl ?_
        refine L.indexS rfl Try.underlying100 Tf.s121 rfl ht rfl (by omega) ht1 rfl trivial (fun b2 o2 cs2 hr2 hcl2 hA2 => ?_)
        obtain rfl : cs2 = ints (pad9 _) := hr2
        refine L.loadDW rfl Tf.a121 rfl hA2 (by first | simp | assumption) (by first | exact Tf.s121 | (simp only [*]; exact Tf.s121)) List.not_mem_nil rfl trivial ?_
        refine L.alloc rfl Tf.z121 rfl rfl trivial (fun q2 => ?_)
        refine L.storeW rfl rfl rfl rfl Tf.s121 (by first | rfl | (simp only [*]; done) | (simp only [ints_length, *]; rfl) | (simp only [ints_length, *]; omega)) (by first | rfl | (simp only [ints_length, *]; done) | (simp only [ints_length, *]; rfl) | (simp only [ints_length, *]; omega)) (Has.head) (by first | exact ints_cell1 _ | simp [cell1]) trivial ?_
        refine L.nil ?_
        refine C.next ?_
        refine C.seq ?_
        refine C.region [(false,0),(false,1),(false,2),(false,3),(false,4),(false,5),(false,6),(false,7)] rfl ?_
        refine L.fieldAddr rfl Tf.f108_0 rfl rfl trivial ?_
        refine L.loadD1 rfl (k := 0) Tf.a105 rfl hB1 (by first | simp | assumption) rfl List.not_mem_nil rfl trivial ?_
        refine L.move rfl rfl rfl trivial ?_
        refine L.loadBW rfl Tf.a121 rfl (List.Mem.head _) (by first | exact Tf.s121 | (simp only [*]; exact Tf.s121)) List.not_mem_nil rfl trivial ?_
        refine L.move rfl rfl rfl trivial ?_
        refine L.callV rfl rfl rfl (fun D2 hD2 => hf t htm k (by omega) _ (hD2 _ (by simp))) rfl trivial ?_
        refine L.move rfl rfl rfl trivial ?_
        refine L.neqB rfl Try.underlying4 rfl rfl rfl trivial ?_
        refine L.nil ?_
        refine C.next ?_
        refine C.cond rfl (fun hc4 => ?_) (fun hc4 => ?_)
        · have hv : vd (truths r) (p k) = 3 := vd_no ht0 ht1 hc4
          refine C.seq ?_
          refine C.region [(false,0)] rfl ?_
          refine L.assign rfl rfl rfl trivial ?_
          refine L.nil ?_
          refine C.next ?_
          refine C.exit ?_
          refine C.blockPass rfl ?_
          refine C.thenExit ?_
          refine C.thenExit ?_
          refine C.blockExit ?_
          refine C.next ?_
          refine C.region [(false,0),(false,1),(false,2),(false,3),(false,4)] rfl ?_
          refine L.move rfl rfl rfl trivial ?_
          refine L.move rfl rfl rfl trivial ?_
          refine L.buildSlice rfl Try.underlying22 Tf.s3 Tf.z3 rfl rfl rfl rfl (.cons rfl rfl .nil) rfl trivial (fun b901 D901 hD901 hA901 => ?_)
          have hS901 := Sl.ofInts (l := [_]) (n := 1) (cap := 1) hA901 rfl (by omega) (by omega)
          refine L.append (A := [(_, _)]) (B := _) rfl Try.underlying22 rfl rfl Tf.s3 Tf.z3 rfl Tf.i3 rfl rfl rfl ha (Src.lit hA901) (by simp) rfl (by simp) (by simp [cell1]) (by omega) (Or.inl rfl) rfl trivial (fun v1 ν1 ha1 => ?_)
          have ha2 : Acc 3 1 v1 (k + 1) (ints ((List.range (k + 1)).map fun i => vd (truths r) (p i))) ν1 := by rw [List.range_succ, List.map_append, List.map_singleton, hv, ← ints_append]; exact ha1
          refine L.assign rfl rfl rfl trivial ?_
          refine L.nil ?_
          refine C.scopeEnd ?_
          refine C.blockEnd ?_
          refine C.next ?_
          refine C.region [(false,0),(false,1)] rfl ?_
          refine L.add rfl rfl rfl (by simp only [inK]; omega) rfl trivial ?_
          refine L.move rfl rfl rfl trivial ?_
          refine L.nil ?_
          exact C.againR 45 (k + 1, v1, ν1) ⟨by simp only; omega, ha2⟩ (by simp only; omega) ⟨(by first | rfl | (show some (Value.int _ _) = some (Value.int _ _); congr 2; omega)), (by first | rfl | (show some (Value.int _ _) = some (Value.int _ _); congr 2; omega)), trivial⟩ rfl rfl (List.Sublist.cons _ (List.Sublist.refl _)) (fun D h => ⟨D, List.Mem.tail _ (h), Le.refl D⟩)
        · have hcc := hc4
          refine C.skip ?_
          refine C.blockEnd ?_
          refine C.next ?_
          refine C.region [(false,0),(false,1)] rfl ?_
          refine L.add rfl rfl rfl (by simp only [inK]; omega) rfl trivial ?_
          refine L.move rfl rfl rfl trivial ?_
          refine L.nil ?_
          exact C.againR 15 (j + 1) ⟨by omega, vd_step ht1 h4 hcc⟩ (by omega) ⟨(by first | rfl | (show some (Value.int _ _) = some (Value.int _ _); congr 2; omega)), trivial⟩ rfl rfl (List.Sublist.cons _ (List.Sublist.refl _)) (ds_same)
      · have hv : vd (truths r) (p k) = 1 := by rw [vd_all ht0 (by omega) h4, if_pos (by simp [hc2])]
        refine C.exit ?_
        refine C.thenExit ?_
        refine C.thenExit ?_
        refine C.blockExit ?_
        refine C.next ?_
        refine C.region [(false,0),(false,1),(false,2),(false,3),(false,4)] rfl ?_
        refine L.move rfl rfl rfl trivial ?_
        refine L.move rfl rfl rfl trivial ?_
        refine L.buildSlice rfl Try.underlying22 Tf.s3 Tf.z3 rfl rfl rfl rfl (.cons rfl rfl .nil) rfl trivial (fun b902 D902 hD902 hA902 => ?_)
        have hS902 := Sl.ofInts (l := [_]) (n := 1) (cap := 1) hA902 rfl (by omega) (by omega)
        refine L.append (A := []) (B := _) rfl Try.underlying22 rfl rfl Tf.s3 Tf.z3 rfl Tf.i3 rfl rfl rfl ha (Src.lit hA902) (by simp) rfl (by simp) (by simp [cell1]) (by omega) (Or.inl rfl) rfl trivial (fun v2 ν2 ha2 => ?_)
        have ha2 : Acc 3 1 v2 (k + 1) (ints ((List.range (k + 1)).map fun i => vd (truths r) (p i))) ν2 := by rw [List.range_succ, List.map_append, List.map_singleton, hv, ← ints_append]; exact ha2
        refine L.assign rfl rfl rfl trivial ?_
        refine L.nil ?_
        refine C.scopeEnd ?_
        refine C.blockEnd ?_
        refine C.next ?_
        refine C.region [(false,0),(false,1)] rfl ?_
        refine L.add rfl rfl rfl (by simp only [inK]; omega) rfl trivial ?_
        refine L.move rfl rfl rfl trivial ?_
        refine L.nil ?_
        exact C.againR 33 (k + 1, v2, ν2) ⟨by simp only; omega, ha2⟩ (by simp only; omega) ⟨(by first | rfl | (show some (Value.int _ _) = some (Value.int _ _); congr 2; omega)), (by first | rfl | (show some (Value.int _ _) = some (Value.int _ _); congr 2; omega)), trivial⟩ rfl rfl (List.Sublist.refl _) (fun D h => ⟨D, List.Mem.tail _ (h), Le.refl D⟩)
    · refine C.skip ?_
      refine C.next ?_
      refine C.seq ?_
      refine C.label ?_
      refine C.next ?_
      refine C.seq ?_
      refine C.seq ?_
      refine C.region [(false,0),(false,1),(false,2),(false,3),(false,4),(false,5)] rfl ?_
      refine L.move rfl rfl rfl trivial ?_
      refine L.nilCheck rfl rfl rfl trivial ?_
      refine L.fieldAddr rfl Tf.f102_1 rfl rfl trivial ?_
      refine L.loadD1 rfl (k := 4) Tf.a100 rfl hA (by first | simp | assumption) rfl List.not_mem_nil rfl trivial ?_
      refine L.len rfl Try.underlying100 rfl (by assumption) rfl rfl trivial ?_
      refine L.move rfl rfl rfl trivial ?_
      refine L.nil ?_
      refine C.next ?_
      refine C.block ?_
      refine C.loopC (γ := Nat) (fun j => (truths r).length - j) (fun j => j ≤ (truths r).length ∧ ((truths r).take j).all (fun t => p k t == p k t0) = true) (fun j => [(33, .int .i64 (j : Int))]) [(32, _), (31, _), (30, _), (29, _), (28, _), (27, _), (9, _), (8, _), (26, _), (25, _), (24, _), (23, _), (22, _), (21, _), (20, _), (19, _), (18, _), (17, _), (16, _), (7, _), (15, _), (14, _), (13, _), (6, _), (12, _), (3, _), (1, _)] (fun j => [E1, D]) 0 (by simp) ⟨(by first | rfl | (show some (Value.int _ _) = some (Value.int _ _); congr 2; omega)), trivial⟩ ⟨rfl, rfl, rfl, rfl, rfl, rfl, rfl, rfl, rfl, rfl, rfl, rfl, rfl, rfl, rfl, rfl, rfl, rfl, rfl, rfl, rfl, rfl, rfl, rfl, rfl, rfl, rfl, trivial⟩ (ds_same) ?_
      rintro j ⟨h3, h4⟩
      refine C.seq ?_
      refine C.region [(false,0)] rfl ?_
      refine L.lss rfl rfl rfl rfl trivial ?_
      refine L.nil ?_
      refine C.next ?_
      refine C.seq ?_
      refine C.condD rfl (fun hc5 => ?_) (fun hc5 => ?_)
      · have hj : j < (truths r).length := by omega
        obtain ⟨t, ht1⟩ : ∃ t, (truths r)[j]? = some t := ⟨_, List.getElem?_eq_getElem hj⟩
        have htm := List.mem_of_getElem? ht1
        obtain ⟨htl, htb⟩ := hall t htm
        have hp9 := pad9_length htl
        refine C.skip ?_
        refine C.next ?_
        refine C.seq ?_
        refine C.block ?_
        refine C.seq ?_
        refine C.region [(false,0),(false,1),(false,2),(false,3)] rfl ?_
        refine L.indexS rfl Try.underlying100 Tf.s121 rfl ht rfl (by omega) ht1 rfl trivial (fun b3 o3 cs3 hr3 hcl3 hA3 => ?_)
        obtain rfl : cs3 = ints (pad9 _) := hr3
        refine L.loadDW rfl Tf.a121 rfl hA3 (by first | simp | assumption) (by first | exact Tf.s121 | (simp only [*]; exact Tf.s121)) List.not_mem_nil rfl trivial ?_
        refine L.alloc rfl Tf.z121 rfl rfl trivial (fun q3 => ?_)
        refine L.storeW rfl rfl rfl rfl Tf.s121 (by first | rfl | (simp only [*]; done) | (simp only [ints_length, *]; rfl) | (simp only [ints_length, *]; omega)) (by first | rfl | (simp only [ints_length, *]; done) | (simp only [ints_length, *]; rfl) | (simp only [ints_length, *]; omega)) (Has.head) (by first | exact ints_cell1 _ | simp [cell1]) trivial ?_
        refine L.nil ?_
        refine C.next ?_
        refine C.seq ?_
        refine C.region [(false,0),(false,1),(false,2),(false,3),(false,4),(false,5),(false,6),(false,7)] rfl ?_
        refine L.fieldAddr rfl Tf.f108_0 rfl rfl trivial ?_
        refine L.loadD1 rfl (k := 0) Tf.a105 rfl hB1 (by first | simp | assumption) rfl List.not_mem_nil rfl trivial ?_
        refine L.move rfl rfl rfl trivial ?_
        refine L.loadBW rfl Tf.a121 rfl (List.Mem.head _) (by first | exact Tf.s121 | (simp only [*]; exact Tf.s121)) List.not_mem_nil rfl trivial ?_
        refine L.move rfl rfl rfl trivial ?_
        refine L.callV rfl rfl rfl (fun D3 hD3 => hf t htm k (by omega) _ (hD3 _ (by simp))) rfl trivial ?_
        refine L.move rfl rfl rfl trivial ?_
        refine L.neqB rfl Try.underlying4 rfl rfl rfl trivial ?_
        refine L.nil ?_
        refine C.next ?_
        refine C.cond rfl (fun hc6 => ?_) (fun hc6 => ?_)
        · have hv : vd (truths r) (p k) = 3 := vd_no ht0 ht1 hc6
          refine C.seq ?_
          refine C.region [(false,0)] rfl ?_
          refine L.assign rfl rfl rfl trivial ?_
          refine L.nil ?_
          refine C.next ?_
          refine C.exit ?_
          refine C.blockPass rfl ?_
          refine C.thenExit ?_
          refine C.thenExit ?_
          refine C.blockExit ?_
          refine C.next ?_
          refine C.region [(false,0),(false,1),(false,2),(false,3),(false,4)] rfl ?_
          refine L.move rfl rfl rfl trivial ?_
          refine L.move rfl rfl rfl trivial ?_
          refine L.buildSlice rfl Try.underlying22 Tf.s3 Tf.z3 rfl rfl rfl rfl (.cons rfl rfl .nil) rfl trivial (fun b903 D903 hD903 hA903 => ?_)
          have hS903 := Sl.ofInts (l := [_]) (n := 1) (cap := 1) hA903 rfl (by omega) (by omega)
          refine L.append (A := [(_, _)]) (B := _) rfl Try.underlying22 rfl rfl Tf.s3 Tf.z3 rfl Tf.i3 rfl rfl rfl ha (Src.lit hA903) (by simp) rfl (by simp) (by simp [cell1]) (by omega) (Or.inl rfl) rfl trivial (fun v3 ν3 ha3 => ?_)
          have ha2 : Acc 3 1 v3 (k + 1) (ints ((List.range (k + 1)).map fun i => vd (truths r) (p i))) ν3 := by rw [List.range_succ, List.map_append, List.map_singleton, hv, ← ints_append]; exact ha3
          refine L.assign rfl rfl rfl trivial ?_
          refine L.nil ?_
          refine C.scopeEnd ?_
          refine C.blockEnd ?_
          refine C.next ?_
          refine C.region [(false,0),(false,1)] rfl ?_
          refine L.add rfl rfl rfl (by simp only [inK]; omega) rfl trivial ?_
          refine L.move rfl rfl rfl trivial ?_
          refine L.nil ?_
          exact C.againR 45 (k + 1, v3, ν3) ⟨by simp only; omega, ha2⟩ (by simp only; omega) ⟨(by first | rfl | (show some (Value.int _ _) = some (Value.int _ _); congr 2; omega)), (by first | rfl | (show some (Value.int _ _) = some (Value.int _ _); congr 2; omega)), trivial⟩ rfl rfl (List.Sublist.cons _ (List.Sublist.refl _)) (fun D h => ⟨D, List.Mem.tail _ (h), Le.refl D⟩)
        · have hcc := hc6
          refine C.skip ?_
          refine C.blockEnd ?_
          refine C.next ?_
          refine C.region [(false,0),(false,1)] rfl ?_
          refine L.add rfl rfl rfl (by simp only [inK]; omega) rfl trivial ?_
          refine L.move rfl rfl rfl trivial ?_
          refine L.nil ?_
          exact C.againR 15 (j + 1) ⟨by omega, vd_step ht1 h4 hcc⟩ (by omega) ⟨(by first | rfl | (show some (Value.int _ _) = some (Value.int _ _); congr 2; omega)), trivial⟩ rfl rfl (List.Sublist.cons _ (List.Sublist.refl _)) (ds_same)
      · have hv : vd (truths r) (p k) = 2 := by rw [vd_all ht0 (by omega) h4, if_neg (by simp [hc2])]
        refine C.exit ?_
        refine C.thenExit ?_
        refine C.thenExit ?_
        refine C.blockExit ?_
        refine C.next ?_
        refine C.region [(false,0),(false,1),(false,2),(false,3),(false,4)] rfl ?_
        refine L.move rfl rfl rfl trivial ?_
        refine L.move rfl rfl rfl trivial ?_
        refine L.buildSlice rfl Try.underlying22 Tf.s3 Tf.z3 rfl rfl rfl rfl (.cons rfl rfl .nil) rfl trivial (fun b904 D904 hD904 hA904 => ?_)
        have hS904 := Sl.ofInts (l := [_]) (n := 1) (cap := 1) hA904 rfl (by omega) (by omega)
        refine L.append (A := []) (B := _) rfl Try.underlying22 rfl rfl Tf.s3 Tf.z3 rfl Tf.i3 rfl rfl rfl ha (Src.lit hA904) (by simp) rfl (by simp) (by simp [cell1]) (by omega) (Or.inl rfl) rfl trivial (fun v4 ν4 ha4 => ?_)
        have ha2 : Acc 3 1 v4 (k + 1) (ints ((List.range (k + 1)).map fun i => vd (truths r) (p i))) ν4 := by rw [List.range_succ, List.map_append, List.map_singleton, hv, ← ints_append]; exact ha4
        refine L.assign rfl rfl rfl trivial ?_
        refine L.nil ?_
        refine C.scopeEnd ?_
        refine C.blockEnd ?_
        refine C.next ?_
        refine C.region [(false,0),(false,1)] rfl ?_
        refine L.add rfl rfl rfl (by simp only [inK]; omega) rfl trivial ?_
        refine L.move rfl rfl rfl trivial ?_
        refine L.nil ?_
        exact C.againR 33 (k + 1, v4, ν4) ⟨by simp only; omega, ha2⟩ (by simp only; omega) ⟨(by first | rfl | (show some (Value.int _ _) = some (Value.int _ _); congr 2; omega)), (by first | rfl | (show some (Value.int _ _) = some (Value.int _ _); congr 2; omega)), trivial⟩ rfl rfl (List.Sublist.refl _) (fun D h => ⟨D, List.Mem.tail _ (h), Le.refl D⟩)
  · obtain rfl : k = many := by omega
    refine C.exit ?_
    refine C.thenExit ?_
    refine C.thenExit ?_
    refine C.blockExit ?_
    refine C.next ?_
    refine C.seq ?_
    refine C.region [(false,0),(false,1)] rfl ?_
    refine L.move rfl rfl rfl trivial ?_
    refine L.assign rfl rfl rfl trivial ?_
    refine L.nil ?_
    refine C.next ?_
    refine C.ret ?_
    refine Q.freeze (A := []) (B := []) ha rfl (fun D2 hD2 hF => ?_)
    exact leave (vs := [_]) rfl rfl rfl ⟨rfl, trivial⟩ (fun D hD => (hF.ints (by simp) (by omega)).up RI.up (hD _ (by simp)))
theorem Places_ok (rv : Value) (r : RowD) (D : Data) (hr : RowIs D rv r) : Fn Try.prog 27 #[rv] D (fun D' v => ∃ lv, v = .tuple #[lv, .int .i64 (askErr r true)] ∧ Sl D' RI 1 lv (if askErr r true = 0 then (List.range r.places.length).map (fun i => vd (truths r) (hasAt i)) else [])) := by
  have hr0 := hr
  obtain ⟨pv, cv, rfl, hp, hc⟩ := hr
  have hl1 := hp.len
  have hl2 := hc.len
  refine enter 20 Try.func27 rfl rfl rfl rfl fun h0 => ?_
  refine C.seq ?_
  refine C.region [(false,0),(false,1),(false,2)] rfl ?_
  refine L.boxD rfl rfl rfl rfl trivial (fun q1 E1 hE1 hB1 => ?_)
  refine L.assign rfl rfl rfl trivial ?_
  refine L.assign rfl rfl rfl trivial ?_
  refine L.nil ?_
  refine C.next ?_
  refine C.seq ?_
  refine C.region [(false,0),(false,1),(false,2),(false,3),(false,4),(false,5),(false,6)] rfl ?_
  refine L.loadDW rfl Tf.a35 rfl hB1 (by first | simp | assumption) Tf.s35 List.not_mem_nil rfl trivial ?_
  refine L.call rfl rfl rfl (fun D1 hD1 => asked_ok _ r _ _ (hr0.up (hD1 _ (by simp)))) rfl trivial (fun v1 D1 hD1 hp1 => ?_)
  obtain ⟨wv, rfl, hwk⟩ := hp1
  refine L.move rfl rfl rfl trivial ?_
  refine L.extract rfl rfl rfl rfl trivial ?_
  refine L.extract rfl rfl rfl rfl trivial ?_
  refine L.assign rfl rfl rfl trivial ?_
  refine L.assign rfl rfl rfl trivial ?_
  refine L.nil ?_
  refine C.next ?_
  refine C.seq ?_
  refine C.seq ?_
  refine C.region [(false,0),(false,1)] rfl ?_
  refine L.move rfl rfl rfl trivial ?_
  refine L.neq rfl rfl rfl rfl trivial ?_
  refine L.nil ?_
  refine C.next ?_
  refine C.condD rfl (fun hc1 => ?_) (fun hc1 => ?_)
  · refine C.seq ?_
    refine C.region [(false,0),(false,1),(false,2)] rfl ?_
    refine L.move rfl rfl rfl trivial ?_
    refine L.assign rfl rfl rfl trivial ?_
    refine L.assign rfl rfl rfl trivial ?_
    refine L.nil ?_
    refine C.next ?_
    refine C.ret ?_
    refine C.thenRet ?_
    exact leave (vs := [_, _]) rfl rfl rfl ⟨rfl, rfl, trivial⟩ (fun D hD => ⟨_, rfl, by rw [if_neg hc1]; exact Sl.nil⟩)
  · have he0 : askErr r true = 0 := by omega
    obtain ⟨hok, wb, pv2, cv2, tv, rfl, hA, hp2, hc2', ht⟩ := hwk he0
    have htn := ask_some he0
    have hall := truths_all hok
    refine C.skip ?_
    refine C.next ?_
    refine C.seq ?_
    refine C.region [(false,0),(false,1),(false,2),(false,3),(false,4),(false,5),(false,6),(false,7)] rfl ?_
    refine L.build (cs := [.func (.func 70) #[] #[]]) rfl Tf.p108 Tf.z108 rfl rfl rfl trivial ?_
    refine L.move rfl rfl rfl trivial ?_
    refine L.fieldAddr rfl Tf.f35_0 rfl rfl trivial ?_
    refine L.loadD1 rfl (k := 0) Tf.a22 rfl hB1 (by first | simp | assumption) rfl List.not_mem_nil rfl trivial ?_
    refine L.len rfl Try.underlying22 rfl hp rfl rfl trivial ?_
    refine L.call rfl rfl rfl (fun D2 hD2 => verdicts_ok _ _ 70 r (hasAt) r.places.length _ rfl ⟨wb, pv2, cv2, tv, rfl, hA.up (hD2 _ (by simp)), hp2.up RI.up (hD2 _ (by simp)), hc2'.up RC.up (hD2 _ (by simp)), ht.up RT.up (hD2 _ (by simp))⟩ hok htn (by have := hok.len9; have := hok.cnt6; omega) (fun t htm i hi D2 hl => has_ok _ t i D2 (hall t htm).1 (by have := hok.len9; omega))) rfl trivial (fun v2 D2 hD2 hp2 => ?_)
    refine L.assign rfl rfl rfl trivial ?_
    refine L.assign rfl rfl rfl trivial ?_
    refine L.nil ?_
    refine C.next ?_
    refine C.ret ?_
    exact leave (vs := [_, _]) rfl rfl rfl ⟨rfl, rfl, trivial⟩ (fun D hD => ⟨_, by rw [he0]; rfl, by rw [if_pos he0]; exact hp2.up RI.up (hD _ (by simp))⟩)
theorem Right_ok (rv : Value) (r : RowD) (D : Data) (hr : RowIs D rv r) : Fn Try.prog 28 #[rv] D (fun D' v => ∃ lv, v = .tuple #[lv, .int .i64 (askErr r true)] ∧ Sl D' RI 1 lv (if askErr r true = 0 then (List.range r.counts.length).map (fun i => vd (truths r) (rightAt r i)) else [])) := by
  have hr0 := hr
  obtain ⟨pv, cv, rfl, hp, hc⟩ := hr
  have hl1 := hp.len
  have hl2 := hc.len
  refine enter 20 Try.func28 rfl rfl rfl rfl fun h0 => ?_
  refine C.seq ?_
  refine C.region [(false,0),(false,1),(false,2)] rfl ?_
  refine L.boxD rfl rfl rfl rfl trivial (fun q1 E1 hE1 hB1 => ?_)
  refine L.assign rfl rfl rfl trivial ?_
  refine L.assign rfl rfl rfl trivial ?_
  refine L.nil ?_
  refine C.next ?_
  refine C.seq ?_
  refine C.region [(false,0),(false,1),(false,2),(false,3),(false,4),(false,5),(false,6)] rfl ?_
  refine L.loadDW rfl Tf.a35 rfl hB1 (by first | simp | assumption) Tf.s35 List.not_mem_nil rfl trivial ?_
  refine L.call rfl rfl rfl (fun D1 hD1 => asked_ok _ r _ _ (hr0.up (hD1 _ (by simp)))) rfl trivial (fun v1 D1 hD1 hp1 => ?_)
  obtain ⟨wv, rfl, hwk⟩ := hp1
  refine L.move rfl rfl rfl trivial ?_
  refine L.extract rfl rfl rfl rfl trivial ?_
  refine L.extract rfl rfl rfl rfl trivial ?_
  refine L.assign rfl rfl rfl trivial ?_
  refine L.assign rfl rfl rfl trivial ?_
  refine L.nil ?_
  refine C.next ?_
  refine C.seq ?_
  refine C.seq ?_
  refine C.region [(false,0),(false,1)] rfl ?_
  refine L.move rfl rfl rfl trivial ?_
  refine L.neq rfl rfl rfl rfl trivial ?_
  refine L.nil ?_
  refine C.next ?_
  refine C.condD rfl (fun hc1 => ?_) (fun hc1 => ?_)
  · refine C.seq ?_
    refine C.region [(false,0),(false,1),(false,2)] rfl ?_
    refine L.move rfl rfl rfl trivial ?_
    refine L.assign rfl rfl rfl trivial ?_
    refine L.assign rfl rfl rfl trivial ?_
    refine L.nil ?_
    refine C.next ?_
    refine C.ret ?_
    refine C.thenRet ?_
    exact leave (vs := [_, _]) rfl rfl rfl ⟨rfl, rfl, trivial⟩ (fun D hD => ⟨_, rfl, by rw [if_neg hc1]; exact Sl.nil⟩)
  · have he0 : askErr r true = 0 := by omega
    obtain ⟨hok, wb, pv2, cv2, tv, rfl, hA, hp2, hc2', ht⟩ := hwk he0
    have htn := ask_some he0
    have hall := truths_all hok
    refine C.skip ?_
    refine C.next ?_
    refine C.seq ?_
    refine C.region [(false,0),(false,1),(false,2),(false,3),(false,4),(false,5),(false,6),(false,7)] rfl ?_
    refine L.build (cs := [.func (.func 72) #[] #[]]) rfl Tf.p108 Tf.z108 rfl rfl rfl trivial ?_
    refine L.move rfl rfl rfl trivial ?_
    refine L.fieldAddr rfl Tf.f35_1 rfl rfl trivial ?_
    refine L.loadD1 rfl (k := 1) Tf.a33 rfl hB1 (by first | simp | assumption) rfl List.not_mem_nil rfl trivial ?_
    refine L.len rfl Try.underlying33 rfl hc rfl rfl trivial ?_
    refine L.call rfl rfl rfl (fun D2 hD2 => verdicts_ok _ _ 72 r (rightAt r) r.counts.length _ rfl ⟨wb, pv2, cv2, tv, rfl, hA.up (hD2 _ (by simp)), hp2.up RI.up (hD2 _ (by simp)), hc2'.up RC.up (hD2 _ (by simp)), ht.up RT.up (hD2 _ (by simp))⟩ hok htn (by have := hok.len9; have := hok.cnt6; omega) (fun t htm i hi D2 hl => right_ok _ r t i _ D2 ⟨wb, pv2, cv2, tv, rfl, hA.up ((hD2 _ (by simp)).trans hl), hp2.up RI.up ((hD2 _ (by simp)).trans hl), hc2'.up RC.up ((hD2 _ (by simp)).trans hl), ht.up RT.up ((hD2 _ (by simp)).trans hl)⟩ hok (truths_ok htm) (List.getElem?_eq_getElem hi))) rfl trivial (fun v2 D2 hD2 hp2 => ?_)
    refine L.assign rfl rfl rfl trivial ?_
    refine L.assign rfl rfl rfl trivial ?_
    refine L.nil ?_
    refine C.next ?_
    refine C.ret ?_
    exact leave (vs := [_, _]) rfl rfl rfl ⟨rfl, rfl, trivial⟩ (fun D hD => ⟨_, by rw [he0]; rfl, by rw [if_pos he0]; exact hp2.up RI.up (hD _ (by simp))⟩)
end Go.Fs
