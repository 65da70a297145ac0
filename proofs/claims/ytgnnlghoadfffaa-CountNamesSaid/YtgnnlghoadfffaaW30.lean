/- Walks: the law CountNames. -/
import Derived.Test.YtgnnlghoadfffaaW24
import Derived.Test.YtgnnlghoadfffaaW19
namespace Go.Fs
open Go.Proofs
open C1
theorem endsP_ok (w : Int) (mv : Value) (more : List Cnt) (D : Data) (hm : Sl D RC 3 mv more) (hl : more.length ≤ 100) : FnO Try.prog 58 #[.int .i64 w, mv] D (fun D' v ν => ∃ pv cv νp q, v = .agg #[pv, cv, .int .i64 w, .int .i64 1] ∧ Acc 3 1 pv 5 (ints [2, 2, 1, 2, 2]) νp ∧ Sl D' RC 3 cv (⟨false, 3, 2⟩ :: ⟨true, 3, 3⟩ :: more) ∧ ν = νp ++ [q]) := by
  refine enterO 13 Try.func58 rfl rfl rfl rfl fun h0 => ?_
  refine C.seq ?_
  refine C.region [(false,0)] rfl ?_
  refine L.alloc rfl Tf.z35 rfl rfl trivial (fun q1 => ?_)
  refine L.nil ?_
  refine C.next ?_
  refine C.seq ?_
  refine C.region [(false,0),(false,1),(false,2),(false,3),(false,4),(false,5),(false,6),(false,7),(false,8)] rfl ?_
  refine L.buildSliceO rfl Try.underlying22 Tf.s3 Tf.z3 rfl rfl rfl rfl (.cons rfl rfl (.cons rfl rfl (.cons rfl rfl (.cons rfl rfl (.cons rfl rfl .nil))))) rfl trivial (fun b5 hac5 => ?_)
  refine L.build (cs := [.bool false, .int .i64 3, .int .i64 2]) rfl Tf.p87 Tf.z87 rfl rfl rfl trivial ?_
  refine L.build (cs := [.bool true, .int .i64 3, .int .i64 3]) rfl Tf.p87 Tf.z87 rfl rfl rfl trivial ?_
  refine L.buildSliceO rfl Try.underlying33 Tf.s87 Tf.z87 rfl rfl rfl rfl (.cons rfl rfl (.cons rfl rfl .nil)) rfl trivial (fun b3 hacc => ?_)
  refine L.move rfl rfl rfl trivial ?_
  refine L.append (A := []) (ν := [(_, _)]) (B := [(_, _), (_, _)]) rfl Try.underlying33 rfl rfl Tf.s87 Tf.z87 rfl Tf.i87 rfl rfl rfl hacc (Src.cnts hm) (by simp) (cnt_len _ _ rfl) rfl (cntC_cell1 _) (by omega) (Or.inl rfl) rfl trivial (fun v7 ν7 ha7 => ?_)
  obtain ⟨a7, c7, rfl⟩ := ha7.shape
  refine L.move rfl rfl rfl trivial ?_
  refine L.build (cs := [.slice (some ⟨b5, 0, none⟩) 5 5, .slice a7 (2 + more.length) c7, .int .i64 w, .int .i64 1]) rfl Tf.p35 Tf.z35 rfl rfl rfl trivial ?_
  refine L.storeW rfl rfl rfl rfl Tf.s35 (by first | rfl | (simp only [ints_length, *]; done) | (simp only [ints_length, *]; rfl) | (simp only [ints_length, *]; omega)) (by first | rfl | (simp only [ints_length, *]; done) | (simp only [ints_length, *]; rfl) | (simp only [ints_length, *]; omega)) (.app (.tail (Has.head))) (by first | exact ints_cell1 _ | simp [cell1]) trivial ?_
  refine L.nil ?_
  refine C.next ?_
  refine C.ret ?_
  refine Q.freeze (A := []) (B := [(_, _), (_, _)]) ha7 rfl (fun D2 hD2 hF => ?_)
  exact leave (vs := [_]) rfl rfl rfl ⟨⟨_, _, _, rfl, (List.Mem.tail _ (List.Mem.head _)), Or.inr ⟨Tf.a35, Tf.s35, rfl⟩⟩, trivial⟩ (fun D' hD => ⟨_, _, _, _, rfl, hac5, (Froz.cnts (l := ⟨false, 3, 2⟩ :: ⟨true, 3, 3⟩ :: more) hF (by simp; omega) (by omega)).up RC.up (hD _ (by simp)), rfl⟩)
theorem endsC_ok (w : Int) (mv : Value) (more : List Cnt) (D : Data) (hm : Sl D RC 3 mv more) (hl : more.length ≤ 100) : FnO Try.prog 58 #[.int .i64 w, mv] D (fun D' v ν => ∃ pv cv νc q, v = .agg #[pv, cv, .int .i64 w, .int .i64 1] ∧ Sl D' RI 1 pv [2, 2, 1, 2, 2] ∧ Acc 87 3 cv (2 + more.length) (cntC (⟨false, 3, 2⟩ :: ⟨true, 3, 3⟩ :: more)) νc ∧ ν = νc ++ [q]) := by
  refine enterO 13 Try.func58 rfl rfl rfl rfl fun h0 => ?_
  refine C.seq ?_
  refine C.region [(false,0)] rfl ?_
  refine L.alloc rfl Tf.z35 rfl rfl trivial (fun q1 => ?_)
  refine L.nil ?_
  refine C.next ?_
  refine C.seq ?_
  refine C.region [(false,0),(false,1),(false,2),(false,3),(false,4),(false,5),(false,6),(false,7),(false,8)] rfl ?_
  refine L.buildSlice rfl Try.underlying22 Tf.s3 Tf.z3 rfl rfl rfl rfl (.cons rfl rfl (.cons rfl rfl (.cons rfl rfl (.cons rfl rfl (.cons rfl rfl .nil))))) rfl trivial (fun b901 D901 hD901 hA901 => ?_)
  have hS901 := Sl.ofInts (l := [_, _, _, _, _]) (n := 5) (cap := 5) hA901 rfl (by omega) (by omega)
  refine L.build (cs := [.bool false, .int .i64 3, .int .i64 2]) rfl Tf.p87 Tf.z87 rfl rfl rfl trivial ?_
  refine L.build (cs := [.bool true, .int .i64 3, .int .i64 3]) rfl Tf.p87 Tf.z87 rfl rfl rfl trivial ?_
  refine L.buildSliceO rfl Try.underlying33 Tf.s87 Tf.z87 rfl rfl rfl rfl (.cons rfl rfl (.cons rfl rfl .nil)) rfl trivial (fun b3 hacc => ?_)
  refine L.move rfl rfl rfl trivial ?_
  refine L.append (A := []) (ν := [(_, _)]) (B := [(_, _)]) rfl Try.underlying33 rfl rfl Tf.s87 Tf.z87 rfl Tf.i87 rfl rfl rfl hacc (Src.cnts hm) (by simp) (cnt_len _ _ rfl) rfl (cntC_cell1 _) (by omega) (Or.inl rfl) rfl trivial (fun v7 ν7 ha7 => ?_)
  obtain ⟨a7, c7, rfl⟩ := ha7.shape
  refine L.move rfl rfl rfl trivial ?_
  refine L.build (cs := [.slice (some ⟨b901, 0, none⟩) 5 5, .slice a7 (2 + more.length) c7, .int .i64 w, .int .i64 1]) rfl Tf.p35 Tf.z35 rfl rfl rfl trivial ?_
  refine L.storeW rfl rfl rfl rfl Tf.s35 (by first | rfl | (simp only [ints_length, *]; done) | (simp only [ints_length, *]; rfl) | (simp only [ints_length, *]; omega)) (by first | rfl | (simp only [ints_length, *]; done) | (simp only [ints_length, *]; rfl) | (simp only [ints_length, *]; omega)) (.app (Has.head)) (by first | exact ints_cell1 _ | simp [cell1]) trivial ?_
  refine L.nil ?_
  refine C.next ?_
  refine C.ret ?_
  exact leave (vs := [_]) rfl rfl rfl ⟨⟨_, _, _, rfl, (List.mem_append_right _ (List.Mem.head _)), Or.inr ⟨Tf.a35, Tf.s35, rfl⟩⟩, trivial⟩ (fun D' hD => ⟨_, _, _, _, rfl, hS901.up RI.up (hD _ (by simp)), ha7, rfl⟩)
set_option maxHeartbeats 1000000 in
theorem CountNames_ok (D : Data) : Fn Try.prog 16 #[] D (fun _ v => v = .bool true) := by
  refine enter 287 Try.func16 rfl rfl rfl rfl fun h0 => ?_
  refine C.seq ?_
  refine C.region [(false,0)] rfl ?_
  refine L.assign rfl rfl rfl trivial ?_
  refine L.nil ?_
  refine C.next ?_
  refine C.seq ?_
  refine C.region [(false,0),(false,1),(false,2),(false,3),(false,4),(false,5),(false,6),(false,7)] rfl ?_
  refine L.call rfl rfl rfl (fun D1 hD1 => ends_ok 0 _ [] _ Sl.nil (by simp)) rfl trivial (fun v1 D1 hD1 hp1 => ?_)
  have hE := hp1
  refine L.callV rfl rfl rfl (fun D2 hD2 => Chairs2_ok _ (endsD 0 []) 0 1 _ (hE.up (hD2 _ (by simp)))) rfl trivial ?_
  refine L.move rfl rfl rfl trivial ?_
  refine L.extract rfl rfl rfl rfl trivial ?_
  refine L.extract rfl rfl rfl rfl trivial ?_
  refine L.alloc rfl Tf.z29 rfl rfl trivial (fun q1 => ?_)
  refine L.storeW rfl rfl rfl rfl Tf.s29 (by first | rfl | (simp only [ints_length, *]; done) | (simp only [ints_length, *]; rfl) | (simp only [ints_length, *]; omega)) (by first | rfl | (simp only [ints_length, *]; done) | (simp only [ints_length, *]; rfl) | (simp only [ints_length, *]; omega)) (Has.head) (by first | exact ints_cell1 _ | simp [cell1]) trivial ?_
  refine L.assign rfl rfl rfl trivial ?_
  refine L.nil ?_
  refine C.next ?_
  refine C.seq ?_
  refine C.region [(false,0),(false,1),(false,2),(false,3),(false,4),(false,5),(false,6),(false,7)] rfl ?_
  refine L.call rfl rfl rfl (fun D3 hD3 => ends_ok 0 _ [] _ Sl.nil (by simp)) rfl trivial (fun v3 D3 hD3 hp3 => ?_)
  have hE := hp3
  refine L.callV rfl rfl rfl (fun D4 hD4 => Chairs2_ok _ (endsD 0 []) 0 4 _ (hE.up (hD4 _ (by simp)))) rfl trivial ?_
  refine L.move rfl rfl rfl trivial ?_
  refine L.extract rfl rfl rfl rfl trivial ?_
  refine L.extract rfl rfl rfl rfl trivial ?_
  refine L.alloc rfl Tf.z29 rfl rfl trivial (fun q2 => ?_)
  refine L.storeW rfl rfl rfl rfl Tf.s29 (by first | rfl | (simp only [ints_length, *]; done) | (simp only [ints_length, *]; rfl) | (simp only [ints_length, *]; omega)) (by first | rfl | (simp only [ints_length, *]; done) | (simp only [ints_length, *]; rfl) | (simp only [ints_length, *]; omega)) (Has.head) (by first | exact ints_cell1 _ | simp [cell1]) trivial ?_
  refine L.assign rfl rfl rfl trivial ?_
  refine L.nil ?_
  refine C.next ?_
  refine C.seq ?_
  refine C.region [(false,0),(false,1),(false,2),(false,3),(false,4),(false,5),(false,6),(false,7)] rfl ?_
  refine L.call rfl rfl rfl (fun D5 hD5 => ends_ok 0 _ [] _ Sl.nil (by simp)) rfl trivial (fun v5 D5 hD5 hp5 => ?_)
  have hE := hp5
  refine L.callV rfl rfl rfl (fun D6 hD6 => Chairs2_ok _ (endsD 0 []) 1 1 _ (hE.up (hD6 _ (by simp)))) rfl trivial ?_
  refine L.move rfl rfl rfl trivial ?_
  refine L.extract rfl rfl rfl rfl trivial ?_
  refine L.extract rfl rfl rfl rfl trivial ?_
  refine L.alloc rfl Tf.z29 rfl rfl trivial (fun q3 => ?_)
  refine L.storeW rfl rfl rfl rfl Tf.s29 (by first | rfl | (simp only [ints_length, *]; done) | (simp only [ints_length, *]; rfl) | (simp only [ints_length, *]; omega)) (by first | rfl | (simp only [ints_length, *]; done) | (simp only [ints_length, *]; rfl) | (simp only [ints_length, *]; omega)) (Has.head) (by first | exact ints_cell1 _ | simp [cell1]) trivial ?_
  refine L.assign rfl rfl rfl trivial ?_
  refine L.nil ?_
  refine C.next ?_
  refine C.seq ?_
  refine C.region [(false,0),(false,1),(false,2),(false,3),(false,4),(false,5),(false,6)] rfl ?_
  refine L.call rfl rfl rfl (fun D7 hD7 => ends_ok 0 _ [] _ Sl.nil (by simp)) rfl trivial (fun v7 D7 hD7 hp7 => ?_)
  have hE := hp7
  refine L.call rfl rfl rfl (fun D8 hD8 => Right_ok _ (endsD 0 []) _ (hE.up (hD8 _ (by simp)))) rfl trivial (fun v8 D8 hD8 hp8 => ?_)
  obtain ⟨qv, rfl, hqs⟩ := hp8
  refine L.move rfl rfl rfl trivial ?_
  refine L.extract rfl rfl rfl rfl trivial ?_
  refine L.extract rfl rfl rfl rfl trivial ?_
  refine L.assign rfl rfl rfl trivial ?_
  refine L.assign rfl rfl rfl trivial ?_
  refine L.nil ?_
  refine C.next ?_
  refine C.seq ?_
  refine C.region [(false,0),(false,1),(false,2),(false,3),(false,4),(false,5),(false,6)] rfl ?_
  refine L.call rfl rfl rfl (fun D9 hD9 => ends_ok 0 _ [] _ Sl.nil (by simp)) rfl trivial (fun v9 D9 hD9 hp9 => ?_)
  have hE := hp9
  refine L.callV rfl rfl rfl (fun D10 hD10 => Looks_ok _ (endsD 0 []) 0 1 _ (hE.up (hD10 _ (by simp)))) rfl trivial ?_
  refine L.move rfl rfl rfl trivial ?_
  refine L.extract rfl rfl rfl rfl trivial ?_
  refine L.extract rfl rfl rfl rfl trivial ?_
  refine L.assign rfl rfl rfl trivial ?_
  refine L.assign rfl rfl rfl trivial ?_
  refine L.nil ?_
  refine C.next ?_
  refine C.seq ?_
  refine C.region [(false,0),(false,1),(false,2),(false,3),(false,4),(false,5),(false,6)] rfl ?_
  refine L.call rfl rfl rfl (fun D11 hD11 => ends_ok 0 _ [] _ Sl.nil (by simp)) rfl trivial (fun v11 D11 hD11 hp11 => ?_)
  have hE := hp11
  refine L.callV rfl rfl rfl (fun D12 hD12 => Least_ok _ (endsD 0 []) _ (hE.up (hD12 _ (by simp)))) rfl trivial ?_
  refine L.move rfl rfl rfl trivial ?_
  refine L.extract rfl rfl rfl rfl trivial ?_
  refine L.extract rfl rfl rfl rfl trivial ?_
  refine L.assign rfl rfl rfl trivial ?_
  refine L.assign rfl rfl rfl trivial ?_
  refine L.nil ?_
  refine C.next ?_
  refine C.seq ?_
  refine C.region [(false,0),(false,1),(false,2)] rfl ?_
  refine L.build (cs := [.bool false, .int .i64 5, .int .i64 0]) rfl Tf.p87 Tf.z87 rfl rfl rfl trivial ?_
  refine L.alloc rfl Tf.z87 rfl rfl trivial (fun q4 => ?_)
  refine L.storeW rfl rfl rfl rfl Tf.s87 (by first | rfl | (simp only [ints_length, *]; done) | (simp only [ints_length, *]; rfl) | (simp only [ints_length, *]; omega)) (by first | rfl | (simp only [ints_length, *]; done) | (simp only [ints_length, *]; rfl) | (simp only [ints_length, *]; omega)) (Has.head) (by first | exact ints_cell1 _ | simp [cell1]) trivial ?_
  refine L.nil ?_
  refine C.next ?_
  refine C.seq ?_
  refine C.region [(false,0),(false,1),(false,2),(false,3),(false,4),(false,5),(false,6),(false,7),(false,8)] rfl ?_
  refine L.loadBW rfl Tf.a87 rfl (List.Mem.head _) Tf.s87 List.not_mem_nil rfl trivial ?_
  refine L.buildSlice rfl Try.underlying33 Tf.s87 Tf.z87 rfl rfl rfl rfl (.cons rfl rfl .nil) rfl trivial (fun b901 D901 hD901 hA901 => ?_)
  have hM901 : Sl D901 RC 3 _ [⟨false, 5, 0⟩] := Froz.cnts (l := [⟨false, 5, 0⟩]) (n := 1) (Or.inr ⟨_, 1, rfl, by omega, hA901⟩) rfl (by omega)
  refine L.call rfl rfl rfl (fun D13 hD13 => ends_ok 0 _ [⟨false, 5, 0⟩] _ (hM901.up RC.up (hD13 _ (by simp))) (by simp)) rfl trivial (fun v13 D13 hD13 hp13 => ?_)
  have hE := hp13
  refine L.callV rfl rfl rfl (fun D14 hD14 => Least_ok _ (endsD 0 [⟨false, 5, 0⟩]) _ (hE.up (hD14 _ (by simp)))) rfl trivial ?_
  refine L.move rfl rfl rfl trivial ?_
  refine L.extract rfl rfl rfl rfl trivial ?_
  refine L.extract rfl rfl rfl rfl trivial ?_
  refine L.assign rfl rfl rfl trivial ?_
  refine L.assign rfl rfl rfl trivial ?_
  refine L.nil ?_
  refine C.next ?_
  refine C.seq ?_
  refine C.seq ?_
  refine C.drawS [] 29 [false,false,false,false,true,false,false,false,false,false,false,false,false,true,false,false,false,false,false,false,false,false,true,false,false,false,false,false,false,false,false,true,false,false,false,false,false,false,false,false,false,false,false,false,false,false,false,false,false,false,false,false,false,false,false,false,true,true,false,false,false,false,true,true,false,false,false,true,true,false,false,false,false,true,true,false,false,false,false,true,true,false,false,false,true,true,false,false] [.fin [0,1,2], .fin [3,4,5], .fin [6], .fin [7], .fin [8,9], .fin [10], .fin [11], .fin [12,13,14], .fin [15], .fin [16], .fin [17,18], .fin [19], .fin [20], .fin [21,22,23], .fin [24], .fin [25], .fin [26,27], .fin [28], .fin [29], .fin [30,31,32,33], .fin [34], .fin [35], .fin [36,37], .fin [38], .fin [39], .fin [40,41], .fin [42], .fin [43], .fin [44,45], .fin [46], .fin [47], .fin [48,49], .fin [50], .fin [51], .fin [52,53], .fin [54], .fin [55], .fork [] 56 (.fin [57]) 57 (.fin [56]), .fin [58,59], .fin [60], .fin [61], .fork [] 62 (.fin [63]) 63 (.fin [62]), .fin [64], .fin [65], .fin [66], .fork [] 67 (.fin [68]) 68 (.fin [67]), .fin [69,70], .fin [71], .fin [72], .fork [] 73 (.fin [74]) 74 (.fin [73]), .fin [75,76], .fin [77], .fin [78], .fork [] 79 (.fin [80]) 80 (.fin [79]), .fin [81], .fin [82], .fin [83], .fork [] 84 (.fin [85]) 85 (.fin [84]), .fin [86], .fin [87]] Tf.follows (fun _ _ _ h => np_body (P := Try.prog) (fn := Try.f16) _ _ _ h) (by kernel_rfl) ?_
  refine S.fin [(false,0),(false,1),(false,2)] rfl ?_
  refine L.move rfl rfl rfl trivial ?_
  refine L.neq rfl rfl rfl rfl trivial ?_
  refine L.move rfl rfl rfl trivial ?_
  refine L.nil ?_
  refine' S.or [.fin [3,4,5], .fin [6]] [.fin [7], .fin [8,9], .fin [10], .fin [11], .fin [12,13,14], .fin [15], .fin [16], .fin [17,18], .fin [19], .fin [20], .fin [21,22,23], .fin [24], .fin [25], .fin [26,27], .fin [28], .fin [29], .fin [30,31,32,33], .fin [34], .fin [35], .fin [36,37], .fin [38], .fin [39], .fin [40,41], .fin [42], .fin [43], .fin [44,45], .fin [46], .fin [47], .fin [48,49], .fin [50], .fin [51], .fin [52,53], .fin [54], .fin [55], .fork [] 56 (.fin [57]) 57 (.fin [56]), .fin [58,59], .fin [60], .fin [61], .fork [] 62 (.fin [63]) 63 (.fin [62]), .fin [64], .fin [65], .fin [66], .fork [] 67 (.fin [68]) 68 (.fin [67]), .fin [69,70], .fin [71], .fin [72], .fork [] 73 (.fin [74]) 74 (.fin [73]), .fin [75,76], .fin [77], .fin [78], .fork [] 79 (.fin [80]) 80 (.fin [79]), .fin [81], .fin [82], .fin [83], .fork [] 84 (.fin [85]) 85 (.fin [84]), .fin [86], .fin [87]] (s := 63) (p := 67) rfl rfl (fun hg1 => ?_) (fun hg1 => ?_) ?_
  rotate_left
  · refine S.fin [(false,3),(true,4),(false,5)] rfl ?_
    refine L.loadBW rfl Tf.a29 rfl (List.Mem.tail _ (List.Mem.tail _ (List.Mem.tail _ (List.Mem.head _)))) Tf.s29 List.not_mem_nil rfl ⟨_, rfl, rfl⟩ ?_
    refine L.callV rfl rfl rfl (fun D15 hD15 => between2_ok _ _ _) rfl ⟨_, rfl, rfl⟩ ?_
    refine L.neqK  rfl (by kernel_rfl) k2_29 rfl rfl rfl ⟨_, rfl, rfl⟩ ?_
    refine L.nil ?_
    refine S.fin [(false,6)] rfl ?_
    refine L.pickF rfl rfl rfl rfl trivial ?_
    exact L.nil fun a w hh => hh.cutK 3 rfl
  · refine S.fin [(false,3),(true,4),(false,5)] rfl ?_
    refine L.pass rfl rfl rfl ⟨_, _, rfl, rfl, rfl⟩ ?_
    refine L.pass rfl rfl rfl ⟨_, _, rfl, rfl, rfl⟩ ?_
    refine L.pass rfl rfl rfl ⟨_, _, rfl, rfl, rfl⟩ ?_
    refine L.nil ?_
    refine S.fin [(false,6)] rfl ?_
    refine L.pickT rfl rfl rfl rfl trivial ?_
    exact L.nil fun a w hh => hh.cutK 3 rfl
  refine S.fin [(false,7)] rfl ?_
  refine L.move rfl rfl rfl trivial ?_
  refine L.nil ?_
  refine' S.or [.fin [8,9], .fin [10]] [.fin [11], .fin [12,13,14], .fin [15], .fin [16], .fin [17,18], .fin [19], .fin [20], .fin [21,22,23], .fin [24], .fin [25], .fin [26,27], .fin [28], .fin [29], .fin [30,31,32,33], .fin [34], .fin [35], .fin [36,37], .fin [38], .fin [39], .fin [40,41], .fin [42], .fin [43], .fin [44,45], .fin [46], .fin [47], .fin [48,49], .fin [50], .fin [51], .fin [52,53], .fin [54], .fin [55], .fork [] 56 (.fin [57]) 57 (.fin [56]), .fin [58,59], .fin [60], .fin [61], .fork [] 62 (.fin [63]) 63 (.fin [62]), .fin [64], .fin [65], .fin [66], .fork [] 67 (.fin [68]) 68 (.fin [67]), .fin [69,70], .fin [71], .fin [72], .fork [] 73 (.fin [74]) 74 (.fin [73]), .fin [75,76], .fin [77], .fin [78], .fork [] 79 (.fin [80]) 80 (.fin [79]), .fin [81], .fin [82], .fin [83], .fork [] 84 (.fin [85]) 85 (.fin [84]), .fin [86], .fin [87]] (s := 68) (p := 71) rfl rfl (fun hg2 => ?_) (fun hg2 => ?_) ?_
  rotate_left
  · refine S.fin [(false,8),(false,9)] rfl ?_
    refine L.move rfl rfl rfl ⟨_, rfl, rfl⟩ ?_
    refine L.neq rfl rfl rfl rfl ⟨_, rfl, rfl⟩ ?_
    refine L.nil ?_
    refine S.fin [(false,10)] rfl ?_
    refine L.pickF rfl rfl rfl rfl trivial ?_
    exact L.nil fun a w hh => hh.cutK 2 rfl
  · refine S.fin [(false,8),(false,9)] rfl ?_
    refine L.pass rfl rfl rfl ⟨_, _, rfl, rfl, rfl⟩ ?_
    refine L.pass rfl rfl rfl ⟨_, _, rfl, rfl, rfl⟩ ?_
    refine L.nil ?_
    refine S.fin [(false,10)] rfl ?_
    refine L.pickT rfl rfl rfl rfl trivial ?_
    exact L.nil fun a w hh => hh.cutK 2 rfl
  refine S.fin [(false,11)] rfl ?_
  refine L.move rfl rfl rfl trivial ?_
  refine L.nil ?_
  refine' S.or [.fin [12,13,14], .fin [15]] [.fin [16], .fin [17,18], .fin [19], .fin [20], .fin [21,22,23], .fin [24], .fin [25], .fin [26,27], .fin [28], .fin [29], .fin [30,31,32,33], .fin [34], .fin [35], .fin [36,37], .fin [38], .fin [39], .fin [40,41], .fin [42], .fin [43], .fin [44,45], .fin [46], .fin [47], .fin [48,49], .fin [50], .fin [51], .fin [52,53], .fin [54], .fin [55], .fork [] 56 (.fin [57]) 57 (.fin [56]), .fin [58,59], .fin [60], .fin [61], .fork [] 62 (.fin [63]) 63 (.fin [62]), .fin [64], .fin [65], .fin [66], .fork [] 67 (.fin [68]) 68 (.fin [67]), .fin [69,70], .fin [71], .fin [72], .fork [] 73 (.fin [74]) 74 (.fin [73]), .fin [75,76], .fin [77], .fin [78], .fork [] 79 (.fin [80]) 80 (.fin [79]), .fin [81], .fin [82], .fin [83], .fork [] 84 (.fin [85]) 85 (.fin [84]), .fin [86], .fin [87]] (s := 72) (p := 76) rfl rfl (fun hg3 => ?_) (fun hg3 => ?_) ?_
  rotate_left
  · refine S.fin [(false,12),(true,13),(false,14)] rfl ?_
    refine L.loadBW rfl Tf.a29 rfl (List.Mem.tail _ (List.Mem.tail _ (List.Mem.head _))) Tf.s29 List.not_mem_nil rfl ⟨_, rfl, rfl⟩ ?_
    refine L.callV rfl rfl rfl (fun D16 hD16 => between2_ok _ _ _) rfl ⟨_, rfl, rfl⟩ ?_
    refine L.neqK  rfl (by kernel_rfl) k2_29 rfl rfl rfl ⟨_, rfl, rfl⟩ ?_
    refine L.nil ?_
    refine S.fin [(false,15)] rfl ?_
    refine L.pickF rfl rfl rfl rfl trivial ?_
    exact L.nil fun a w hh => hh.cutK 3 rfl
  · refine S.fin [(false,12),(true,13),(false,14)] rfl ?_
    refine L.pass rfl rfl rfl ⟨_, _, rfl, rfl, rfl⟩ ?_
    refine L.pass rfl rfl rfl ⟨_, _, rfl, rfl, rfl⟩ ?_
    refine L.pass rfl rfl rfl ⟨_, _, rfl, rfl, rfl⟩ ?_
    refine L.nil ?_
    refine S.fin [(false,15)] rfl ?_
    refine L.pickT rfl rfl rfl rfl trivial ?_
    exact L.nil fun a w hh => hh.cutK 3 rfl
  refine S.fin [(false,16)] rfl ?_
  refine L.move rfl rfl rfl trivial ?_
  refine L.nil ?_
  refine' S.or [.fin [17,18], .fin [19]] [.fin [20], .fin [21,22,23], .fin [24], .fin [25], .fin [26,27], .fin [28], .fin [29], .fin [30,31,32,33], .fin [34], .fin [35], .fin [36,37], .fin [38], .fin [39], .fin [40,41], .fin [42], .fin [43], .fin [44,45], .fin [46], .fin [47], .fin [48,49], .fin [50], .fin [51], .fin [52,53], .fin [54], .fin [55], .fork [] 56 (.fin [57]) 57 (.fin [56]), .fin [58,59], .fin [60], .fin [61], .fork [] 62 (.fin [63]) 63 (.fin [62]), .fin [64], .fin [65], .fin [66], .fork [] 67 (.fin [68]) 68 (.fin [67]), .fin [69,70], .fin [71], .fin [72], .fork [] 73 (.fin [74]) 74 (.fin [73]), .fin [75,76], .fin [77], .fin [78], .fork [] 79 (.fin [80]) 80 (.fin [79]), .fin [81], .fin [82], .fin [83], .fork [] 84 (.fin [85]) 85 (.fin [84]), .fin [86], .fin [87]] (s := 77) (p := 80) rfl rfl (fun hg4 => ?_) (fun hg4 => ?_) ?_
  rotate_left
  · refine S.fin [(false,17),(false,18)] rfl ?_
    refine L.move rfl rfl rfl ⟨_, rfl, rfl⟩ ?_
    refine L.neq rfl rfl rfl rfl ⟨_, rfl, rfl⟩ ?_
    refine L.nil ?_
    refine S.fin [(false,19)] rfl ?_
    refine L.pickF rfl rfl rfl rfl trivial ?_
    exact L.nil fun a w hh => hh.cutK 2 rfl
  · refine S.fin [(false,17),(false,18)] rfl ?_
    refine L.pass rfl rfl rfl ⟨_, _, rfl, rfl, rfl⟩ ?_
    refine L.pass rfl rfl rfl ⟨_, _, rfl, rfl, rfl⟩ ?_
    refine L.nil ?_
    refine S.fin [(false,19)] rfl ?_
    refine L.pickT rfl rfl rfl rfl trivial ?_
    exact L.nil fun a w hh => hh.cutK 2 rfl
  refine S.fin [(false,20)] rfl ?_
  refine L.move rfl rfl rfl trivial ?_
  refine L.nil ?_
  refine' S.or [.fin [21,22,23], .fin [24]] [.fin [25], .fin [26,27], .fin [28], .fin [29], .fin [30,31,32,33], .fin [34], .fin [35], .fin [36,37], .fin [38], .fin [39], .fin [40,41], .fin [42], .fin [43], .fin [44,45], .fin [46], .fin [47], .fin [48,49], .fin [50], .fin [51], .fin [52,53], .fin [54], .fin [55], .fork [] 56 (.fin [57]) 57 (.fin [56]), .fin [58,59], .fin [60], .fin [61], .fork [] 62 (.fin [63]) 63 (.fin [62]), .fin [64], .fin [65], .fin [66], .fork [] 67 (.fin [68]) 68 (.fin [67]), .fin [69,70], .fin [71], .fin [72], .fork [] 73 (.fin [74]) 74 (.fin [73]), .fin [75,76], .fin [77], .fin [78], .fork [] 79 (.fin [80]) 80 (.fin [79]), .fin [81], .fin [82], .fin [83], .fork [] 84 (.fin [85]) 85 (.fin [84]), .fin [86], .fin [87]] (s := 81) (p := 85) rfl rfl (fun hg5 => ?_) (fun hg5 => ?_) ?_
  rotate_left
  · refine S.fin [(false,21),(true,22),(false,23)] rfl ?_
    refine L.loadBW rfl Tf.a29 rfl (List.Mem.tail _ (List.Mem.head _)) Tf.s29 List.not_mem_nil rfl ⟨_, rfl, rfl⟩ ?_
    refine L.callV rfl rfl rfl (fun D17 hD17 => between2_ok _ _ _) rfl ⟨_, rfl, rfl⟩ ?_
    refine L.neqK  rfl (by kernel_rfl) k2_29 rfl rfl rfl ⟨_, rfl, rfl⟩ ?_
    refine L.nil ?_
    refine S.fin [(false,24)] rfl ?_
    refine L.pickF rfl rfl rfl rfl trivial ?_
    exact L.nil fun a w hh => hh.cutK 3 rfl
  · refine S.fin [(false,21),(true,22),(false,23)] rfl ?_
    refine L.pass rfl rfl rfl ⟨_, _, rfl, rfl, rfl⟩ ?_
    refine L.pass rfl rfl rfl ⟨_, _, rfl, rfl, rfl⟩ ?_
    refine L.pass rfl rfl rfl ⟨_, _, rfl, rfl, rfl⟩ ?_
    refine L.nil ?_
    refine S.fin [(false,24)] rfl ?_
    refine L.pickT rfl rfl rfl rfl trivial ?_
    exact L.nil fun a w hh => hh.cutK 3 rfl
  refine S.fin [(false,25)] rfl ?_
  refine L.move rfl rfl rfl trivial ?_
  refine L.nil ?_
  refine' S.or [.fin [26,27], .fin [28]] [.fin [29], .fin [30,31,32,33], .fin [34], .fin [35], .fin [36,37], .fin [38], .fin [39], .fin [40,41], .fin [42], .fin [43], .fin [44,45], .fin [46], .fin [47], .fin [48,49], .fin [50], .fin [51], .fin [52,53], .fin [54], .fin [55], .fork [] 56 (.fin [57]) 57 (.fin [56]), .fin [58,59], .fin [60], .fin [61], .fork [] 62 (.fin [63]) 63 (.fin [62]), .fin [64], .fin [65], .fin [66], .fork [] 67 (.fin [68]) 68 (.fin [67]), .fin [69,70], .fin [71], .fin [72], .fork [] 73 (.fin [74]) 74 (.fin [73]), .fin [75,76], .fin [77], .fin [78], .fork [] 79 (.fin [80]) 80 (.fin [79]), .fin [81], .fin [82], .fin [83], .fork [] 84 (.fin [85]) 85 (.fin [84]), .fin [86], .fin [87]] (s := 86) (p := 89) rfl rfl (fun hg6 => ?_) (fun hg6 => ?_) ?_
  rotate_left
  · refine S.fin [(false,26),(false,27)] rfl ?_
    refine L.move rfl rfl rfl ⟨_, rfl, rfl⟩ ?_
    refine L.neq rfl rfl rfl rfl ⟨_, rfl, rfl⟩ ?_
    refine L.nil ?_
    refine S.fin [(false,28)] rfl ?_
    refine L.pickF rfl rfl rfl rfl trivial ?_
    exact L.nil fun a w hh => hh.cutK 2 rfl
  · refine S.fin [(false,26),(false,27)] rfl ?_
    refine L.pass rfl rfl rfl ⟨_, _, rfl, rfl, rfl⟩ ?_
    refine L.pass rfl rfl rfl ⟨_, _, rfl, rfl, rfl⟩ ?_
    refine L.nil ?_
    refine S.fin [(false,28)] rfl ?_
    refine L.pickT rfl rfl rfl rfl trivial ?_
    exact L.nil fun a w hh => hh.cutK 2 rfl
  refine S.fin [(false,29)] rfl ?_
  refine L.move rfl rfl rfl trivial ?_
  refine L.nil ?_
  refine' S.or [.fin [30,31,32,33], .fin [34]] [.fin [35], .fin [36,37], .fin [38], .fin [39], .fin [40,41], .fin [42], .fin [43], .fin [44,45], .fin [46], .fin [47], .fin [48,49], .fin [50], .fin [51], .fin [52,53], .fin [54], .fin [55], .fork [] 56 (.fin [57]) 57 (.fin [56]), .fin [58,59], .fin [60], .fin [61], .fork [] 62 (.fin [63]) 63 (.fin [62]), .fin [64], .fin [65], .fin [66], .fork [] 67 (.fin [68]) 68 (.fin [67]), .fin [69,70], .fin [71], .fin [72], .fork [] 73 (.fin [74]) 74 (.fin [73]), .fin [75,76], .fin [77], .fin [78], .fork [] 79 (.fin [80]) 80 (.fin [79]), .fin [81], .fin [82], .fin [83], .fork [] 84 (.fin [85]) 85 (.fin [84]), .fin [86], .fin [87]] (s := 90) (p := 95) rfl rfl (fun hg7 => ?_) (fun hg7 => ?_) ?_
  rotate_left
  · refine S.fin [(false,30),(true,31),(false,32),(false,33)] rfl ?_
    refine L.move rfl rfl rfl ⟨_, rfl, rfl⟩ ?_
    refine L.buildSlice rfl Try.underlying22 Tf.s3 Tf.z3 rfl rfl rfl rfl (.cons rfl rfl (.cons rfl rfl .nil)) rfl ⟨_, rfl, rfl⟩ (fun b902 D902 hD902 hA902 => ?_)
    have hS902 := Sl.ofInts (l := [_, _]) (n := 2) (cap := 2) hA902 rfl (by omega) (by omega)
    refine L.callV rfl rfl rfl (fun D18 hD18 => ints_ok _ _ _ [1, 1] _ (hqs.up RI.up (hD18 _ (by simp))) (hS902.up RI.up (hD18 _ (by simp)))) rfl ⟨_, rfl, rfl⟩ ?_
    refine L.not rfl rfl rfl ⟨_, rfl, rfl⟩ ?_
    refine L.nil ?_
    refine S.fin [(false,34)] rfl ?_
    refine L.pickF rfl rfl rfl rfl trivial ?_
    exact L.nil fun a w hh => (hh.cutK 4 rfl).ds (fun _ h => List.Mem.tail _ (h))
  · refine S.fin [(false,30),(true,31),(false,32),(false,33)] rfl ?_
    refine L.pass rfl rfl rfl ⟨_, _, rfl, rfl, rfl⟩ ?_
    refine L.pass rfl rfl rfl ⟨_, _, rfl, rfl, rfl⟩ ?_
    refine L.pass rfl rfl rfl ⟨_, _, rfl, rfl, rfl⟩ ?_
    refine L.pass rfl rfl rfl ⟨_, _, rfl, rfl, rfl⟩ ?_
    refine L.nil ?_
    refine S.fin [(false,34)] rfl ?_
    refine L.pickT rfl rfl rfl rfl trivial ?_
    exact L.nil fun a w hh => hh.cutK 4 rfl
  refine S.fin [(false,35)] rfl ?_
  refine L.move rfl rfl rfl trivial ?_
  refine L.nil ?_
  refine' S.or [.fin [36,37], .fin [38]] [.fin [39], .fin [40,41], .fin [42], .fin [43], .fin [44,45], .fin [46], .fin [47], .fin [48,49], .fin [50], .fin [51], .fin [52,53], .fin [54], .fin [55], .fork [] 56 (.fin [57]) 57 (.fin [56]), .fin [58,59], .fin [60], .fin [61], .fork [] 62 (.fin [63]) 63 (.fin [62]), .fin [64], .fin [65], .fin [66], .fork [] 67 (.fin [68]) 68 (.fin [67]), .fin [69,70], .fin [71], .fin [72], .fork [] 73 (.fin [74]) 74 (.fin [73]), .fin [75,76], .fin [77], .fin [78], .fork [] 79 (.fin [80]) 80 (.fin [79]), .fin [81], .fin [82], .fin [83], .fork [] 84 (.fin [85]) 85 (.fin [84]), .fin [86], .fin [87]] (s := 96) (p := 99) rfl rfl (fun hg8 => ?_) (fun hg8 => ?_) ?_
  rotate_left
  · refine S.fin [(false,36),(false,37)] rfl ?_
    refine L.move rfl rfl rfl ⟨_, rfl, rfl⟩ ?_
    refine L.neq rfl rfl rfl rfl ⟨_, rfl, rfl⟩ ?_
    refine L.nil ?_
    refine S.fin [(false,38)] rfl ?_
    refine L.pickF rfl rfl rfl rfl trivial ?_
    exact L.nil fun a w hh => hh.cutK 2 rfl
  · refine S.fin [(false,36),(false,37)] rfl ?_
    refine L.pass rfl rfl rfl ⟨_, _, rfl, rfl, rfl⟩ ?_
    refine L.pass rfl rfl rfl ⟨_, _, rfl, rfl, rfl⟩ ?_
    refine L.nil ?_
    refine S.fin [(false,38)] rfl ?_
    refine L.pickT rfl rfl rfl rfl trivial ?_
    exact L.nil fun a w hh => hh.cutK 2 rfl
  refine S.fin [(false,39)] rfl ?_
  refine L.move rfl rfl rfl trivial ?_
  refine L.nil ?_
  refine' S.or [.fin [40,41], .fin [42]] [.fin [43], .fin [44,45], .fin [46], .fin [47], .fin [48,49], .fin [50], .fin [51], .fin [52,53], .fin [54], .fin [55], .fork [] 56 (.fin [57]) 57 (.fin [56]), .fin [58,59], .fin [60], .fin [61], .fork [] 62 (.fin [63]) 63 (.fin [62]), .fin [64], .fin [65], .fin [66], .fork [] 67 (.fin [68]) 68 (.fin [67]), .fin [69,70], .fin [71], .fin [72], .fork [] 73 (.fin [74]) 74 (.fin [73]), .fin [75,76], .fin [77], .fin [78], .fork [] 79 (.fin [80]) 80 (.fin [79]), .fin [81], .fin [82], .fin [83], .fork [] 84 (.fin [85]) 85 (.fin [84]), .fin [86], .fin [87]] (s := 100) (p := 103) rfl rfl (fun hg9 => ?_) (fun hg9 => ?_) ?_
  rotate_left
  · refine S.fin [(false,40),(false,41)] rfl ?_
    refine L.move rfl rfl rfl ⟨_, rfl, rfl⟩ ?_
    refine L.neq rfl rfl rfl rfl ⟨_, rfl, rfl⟩ ?_
    refine L.nil ?_
    refine S.fin [(false,42)] rfl ?_
    refine L.pickF rfl rfl rfl rfl trivial ?_
    exact L.nil fun a w hh => hh.cutK 2 rfl
  · refine S.fin [(false,40),(false,41)] rfl ?_
    refine L.pass rfl rfl rfl ⟨_, _, rfl, rfl, rfl⟩ ?_
    refine L.pass rfl rfl rfl ⟨_, _, rfl, rfl, rfl⟩ ?_
    refine L.nil ?_
    refine S.fin [(false,42)] rfl ?_
    refine L.pickT rfl rfl rfl rfl trivial ?_
    exact L.nil fun a w hh => hh.cutK 2 rfl
  refine S.fin [(false,43)] rfl ?_
  refine L.move rfl rfl rfl trivial ?_
  refine L.nil ?_
  refine' S.or [.fin [44,45], .fin [46]] [.fin [47], .fin [48,49], .fin [50], .fin [51], .fin [52,53], .fin [54], .fin [55], .fork [] 56 (.fin [57]) 57 (.fin [56]), .fin [58,59], .fin [60], .fin [61], .fork [] 62 (.fin [63]) 63 (.fin [62]), .fin [64], .fin [65], .fin [66], .fork [] 67 (.fin [68]) 68 (.fin [67]), .fin [69,70], .fin [71], .fin [72], .fork [] 73 (.fin [74]) 74 (.fin [73]), .fin [75,76], .fin [77], .fin [78], .fork [] 79 (.fin [80]) 80 (.fin [79]), .fin [81], .fin [82], .fin [83], .fork [] 84 (.fin [85]) 85 (.fin [84]), .fin [86], .fin [87]] (s := 104) (p := 107) rfl rfl (fun hg10 => ?_) (fun hg10 => ?_) ?_
  rotate_left
  · refine S.fin [(false,44),(false,45)] rfl ?_
    refine L.move rfl rfl rfl ⟨_, rfl, rfl⟩ ?_
    refine L.neq rfl rfl rfl rfl ⟨_, rfl, rfl⟩ ?_
    refine L.nil ?_
    refine S.fin [(false,46)] rfl ?_
    refine L.pickF rfl rfl rfl rfl trivial ?_
    exact L.nil fun a w hh => hh.cutK 2 rfl
  · refine S.fin [(false,44),(false,45)] rfl ?_
    refine L.pass rfl rfl rfl ⟨_, _, rfl, rfl, rfl⟩ ?_
    refine L.pass rfl rfl rfl ⟨_, _, rfl, rfl, rfl⟩ ?_
    refine L.nil ?_
    refine S.fin [(false,46)] rfl ?_
    refine L.pickT rfl rfl rfl rfl trivial ?_
    exact L.nil fun a w hh => hh.cutK 2 rfl
  refine S.fin [(false,47)] rfl ?_
  refine L.move rfl rfl rfl trivial ?_
  refine L.nil ?_
  refine' S.or [.fin [48,49], .fin [50]] [.fin [51], .fin [52,53], .fin [54], .fin [55], .fork [] 56 (.fin [57]) 57 (.fin [56]), .fin [58,59], .fin [60], .fin [61], .fork [] 62 (.fin [63]) 63 (.fin [62]), .fin [64], .fin [65], .fin [66], .fork [] 67 (.fin [68]) 68 (.fin [67]), .fin [69,70], .fin [71], .fin [72], .fork [] 73 (.fin [74]) 74 (.fin [73]), .fin [75,76], .fin [77], .fin [78], .fork [] 79 (.fin [80]) 80 (.fin [79]), .fin [81], .fin [82], .fin [83], .fork [] 84 (.fin [85]) 85 (.fin [84]), .fin [86], .fin [87]] (s := 108) (p := 111) rfl rfl (fun hg11 => ?_) (fun hg11 => ?_) ?_
  rotate_left
  · refine S.fin [(false,48),(false,49)] rfl ?_
    refine L.move rfl rfl rfl ⟨_, rfl, rfl⟩ ?_
    refine L.neq rfl rfl rfl rfl ⟨_, rfl, rfl⟩ ?_
    refine L.nil ?_
    refine S.fin [(false,50)] rfl ?_
    refine L.pickF rfl rfl rfl rfl trivial ?_
    exact L.nil fun a w hh => hh.cutK 2 rfl
  · refine S.fin [(false,48),(false,49)] rfl ?_
    refine L.pass rfl rfl rfl ⟨_, _, rfl, rfl, rfl⟩ ?_
    refine L.pass rfl rfl rfl ⟨_, _, rfl, rfl, rfl⟩ ?_
    refine L.nil ?_
    refine S.fin [(false,50)] rfl ?_
    refine L.pickT rfl rfl rfl rfl trivial ?_
    exact L.nil fun a w hh => hh.cutK 2 rfl
  refine S.fin [(false,51)] rfl ?_
  refine L.move rfl rfl rfl trivial ?_
  refine L.nil ?_
  refine' S.or [.fin [52,53], .fin [54]] [.fin [55], .fork [] 56 (.fin [57]) 57 (.fin [56]), .fin [58,59], .fin [60], .fin [61], .fork [] 62 (.fin [63]) 63 (.fin [62]), .fin [64], .fin [65], .fin [66], .fork [] 67 (.fin [68]) 68 (.fin [67]), .fin [69,70], .fin [71], .fin [72], .fork [] 73 (.fin [74]) 74 (.fin [73]), .fin [75,76], .fin [77], .fin [78], .fork [] 79 (.fin [80]) 80 (.fin [79]), .fin [81], .fin [82], .fin [83], .fork [] 84 (.fin [85]) 85 (.fin [84]), .fin [86], .fin [87]] (s := 112) (p := 115) rfl rfl (fun hg12 => ?_) (fun hg12 => ?_) ?_
  rotate_left
  · refine S.fin [(false,52),(false,53)] rfl ?_
    refine L.move rfl rfl rfl ⟨_, rfl, rfl⟩ ?_
    refine L.neq rfl rfl rfl rfl ⟨_, rfl, rfl⟩ ?_
    refine L.nil ?_
    refine S.fin [(false,54)] rfl ?_
    refine L.pickF rfl rfl rfl rfl trivial ?_
    exact L.nil fun a w hh => hh.cutK 2 rfl
  · refine S.fin [(false,52),(false,53)] rfl ?_
    refine L.pass rfl rfl rfl ⟨_, _, rfl, rfl, rfl⟩ ?_
    refine L.pass rfl rfl rfl ⟨_, _, rfl, rfl, rfl⟩ ?_
    refine L.nil ?_
    refine S.fin [(false,54)] rfl ?_
    refine L.pickT rfl rfl rfl rfl trivial ?_
    exact L.nil fun a w hh => hh.cutK 2 rfl
  refine S.fin [(false,55)] rfl ?_
  refine L.move rfl rfl rfl trivial ?_
  refine L.nil ?_
  refine' S.or [.fork [] 56 (.fin [57]) 57 (.fin [56]), .fin [58,59], .fin [60]] [.fin [61], .fork [] 62 (.fin [63]) 63 (.fin [62]), .fin [64], .fin [65], .fin [66], .fork [] 67 (.fin [68]) 68 (.fin [67]), .fin [69,70], .fin [71], .fin [72], .fork [] 73 (.fin [74]) 74 (.fin [73]), .fin [75,76], .fin [77], .fin [78], .fork [] 79 (.fin [80]) 80 (.fin [79]), .fin [81], .fin [82], .fin [83], .fork [] 84 (.fin [85]) 85 (.fin [84]), .fin [86], .fin [87]] (s := 116) (p := 121) rfl rfl (fun hg13 => ?_) (fun hg13 => ?_) ?_
  rotate_left
  · refine S.cons ?_
    refine L.planFork [] rfl ?_
    refine L.nil (L.forkP true true rfl rfl ?_ ?_)
    · refine L.call rfl rfl rfl (fun D19 hD19 => ends_ok 0 _ [] _ Sl.nil (by simp)) rfl ⟨_, rfl, rfl⟩ (fun v19 D19 hD19 hp19 => ?_)
      have hE := hp19
      refine L.nil ?_
      refine L.planFin [(true,57)] rfl ?_
      refine L.buildSlice rfl Try.underlying22 Tf.s3 Tf.z3 rfl rfl rfl rfl (.cons rfl rfl (.cons rfl rfl (.cons rfl rfl (.cons rfl rfl (.cons rfl rfl .nil))))) rfl ⟨_, rfl, rfl⟩ (fun b903 D903 hD903 hA903 => ?_)
      have hS903 := Sl.ofInts (l := [_, _, _, _, _]) (n := 5) (cap := 5) hA903 rfl (by omega) (by omega)
      refine L.nil ?_
      refine S.fin [(false,58),(false,59)] rfl ?_
      refine L.callV rfl rfl rfl (fun D20 hD20 => ProveTruth_ok _ _ (endsD 0 []) [0, 1, 1, 1, 1] _ (hE.up (hD20 _ (by simp))) (hS903.up RI.up (hD20 _ (by simp)))) rfl ⟨_, rfl, rfl⟩ ?_
      refine L.not rfl rfl rfl ⟨_, rfl, rfl⟩ ?_
      refine L.nil ?_
      refine S.fin [(false,60)] rfl ?_
      refine L.pickF rfl rfl rfl rfl trivial ?_
      exact L.nil fun a w hh => (hh.cutK 4 rfl).ds (fun _ h => List.Mem.tail _ (List.Mem.tail _ (h)))
    · refine L.buildSlice rfl Try.underlying22 Tf.s3 Tf.z3 rfl rfl rfl rfl (.cons rfl rfl (.cons rfl rfl (.cons rfl rfl (.cons rfl rfl (.cons rfl rfl .nil))))) rfl ⟨_, rfl, rfl⟩ (fun b903 D903 hD903 hA903 => ?_)
      have hS903 := Sl.ofInts (l := [_, _, _, _, _]) (n := 5) (cap := 5) hA903 rfl (by omega) (by omega)
      refine L.nil ?_
      refine L.planFin [(true,56)] rfl ?_
      refine L.call rfl rfl rfl (fun D19 hD19 => ends_ok 0 _ [] _ Sl.nil (by simp)) rfl ⟨_, rfl, rfl⟩ (fun v19 D19 hD19 hp19 => ?_)
      have hE := hp19
      refine L.nil ?_
      refine S.fin [(false,58),(false,59)] rfl ?_
      refine L.callV rfl rfl rfl (fun D20 hD20 => ProveTruth_ok _ _ (endsD 0 []) [0, 1, 1, 1, 1] _ (hE.up (hD20 _ (by simp))) (hS903.up RI.up (hD20 _ (by simp)))) rfl ⟨_, rfl, rfl⟩ ?_
      refine L.not rfl rfl rfl ⟨_, rfl, rfl⟩ ?_
      refine L.nil ?_
      refine S.fin [(false,60)] rfl ?_
      refine L.pickF rfl rfl rfl rfl trivial ?_
      exact L.nil fun a w hh => (hh.cutK 4 rfl).ds (fun _ h => List.Mem.tail _ (List.Mem.tail _ (h)))
  · refine S.cons ?_
    refine L.planFork [] rfl ?_
    refine L.nil (L.forkP true true rfl rfl ?_ ?_)
    · refine L.pass rfl rfl rfl ⟨_, _, rfl, rfl, rfl⟩ ?_
      refine L.nil ?_
      refine L.planFin [(true,57)] rfl ?_
      refine L.pass rfl rfl rfl ⟨_, _, rfl, rfl, rfl⟩ ?_
      refine L.nil ?_
      refine S.fin [(false,58),(false,59)] rfl ?_
      refine L.pass rfl rfl rfl ⟨_, _, rfl, rfl, rfl⟩ ?_
      refine L.pass rfl rfl rfl ⟨_, _, rfl, rfl, rfl⟩ ?_
      refine L.nil ?_
      refine S.fin [(false,60)] rfl ?_
      refine L.pickT rfl rfl rfl rfl trivial ?_
      exact L.nil fun a w hh => hh.cutK 4 rfl
    · refine L.pass rfl rfl rfl ⟨_, _, rfl, rfl, rfl⟩ ?_
      refine L.nil ?_
      refine L.planFin [(true,56)] rfl ?_
      refine L.pass rfl rfl rfl ⟨_, _, rfl, rfl, rfl⟩ ?_
      refine L.nil ?_
      refine S.fin [(false,58),(false,59)] rfl ?_
      refine L.pass rfl rfl rfl ⟨_, _, rfl, rfl, rfl⟩ ?_
      refine L.pass rfl rfl rfl ⟨_, _, rfl, rfl, rfl⟩ ?_
      refine L.nil ?_
      refine S.fin [(false,60)] rfl ?_
      refine L.pickT rfl rfl rfl rfl trivial ?_
      exact L.nil fun a w hh => hh.cutK 4 rfl
  refine S.fin [(false,61)] rfl ?_
  refine L.move rfl rfl rfl trivial ?_
  refine L.nil ?_
  refine' S.or [.fork [] 62 (.fin [63]) 63 (.fin [62]), .fin [64], .fin [65]] [.fin [66], .fork [] 67 (.fin [68]) 68 (.fin [67]), .fin [69,70], .fin [71], .fin [72], .fork [] 73 (.fin [74]) 74 (.fin [73]), .fin [75,76], .fin [77], .fin [78], .fork [] 79 (.fin [80]) 80 (.fin [79]), .fin [81], .fin [82], .fin [83], .fork [] 84 (.fin [85]) 85 (.fin [84]), .fin [86], .fin [87]] (s := 122) (p := 126) rfl rfl (fun hg14 => ?_) (fun hg14 => ?_) ?_
  rotate_left
  · refine S.cons ?_
    refine L.planFork [] rfl ?_
    refine L.nil (L.forkP true true rfl rfl ?_ ?_)
    · refine L.call rfl rfl rfl (fun D21 hD21 => ends_ok 0 _ [] _ Sl.nil (by simp)) rfl ⟨_, rfl, rfl⟩ (fun v21 D21 hD21 hp21 => ?_)
      have hE := hp21
      refine L.nil ?_
      refine L.planFin [(true,63)] rfl ?_
      refine L.buildSlice rfl Try.underlying22 Tf.s3 Tf.z3 rfl rfl rfl rfl (.cons rfl rfl (.cons rfl rfl (.cons rfl rfl (.cons rfl rfl (.cons rfl rfl .nil))))) rfl ⟨_, rfl, rfl⟩ (fun b904 D904 hD904 hA904 => ?_)
      have hS904 := Sl.ofInts (l := [_, _, _, _, _]) (n := 5) (cap := 5) hA904 rfl (by omega) (by omega)
      refine L.nil ?_
      refine S.fin [(false,64)] rfl ?_
      refine L.callV rfl rfl rfl (fun D22 hD22 => ProveTruth_ok _ _ (endsD 0 []) [1, 1, 1, 1, 1] _ (hE.up (hD22 _ (by simp))) (hS904.up RI.up (hD22 _ (by simp)))) rfl ⟨_, rfl, rfl⟩ ?_
      refine L.nil ?_
      refine S.fin [(false,65)] rfl ?_
      refine L.pickF rfl rfl rfl rfl trivial ?_
      exact L.nil fun a w hh => (hh.cutK 3 rfl).ds (fun _ h => List.Mem.tail _ (List.Mem.tail _ (h)))
    · refine L.buildSlice rfl Try.underlying22 Tf.s3 Tf.z3 rfl rfl rfl rfl (.cons rfl rfl (.cons rfl rfl (.cons rfl rfl (.cons rfl rfl (.cons rfl rfl .nil))))) rfl ⟨_, rfl, rfl⟩ (fun b904 D904 hD904 hA904 => ?_)
      have hS904 := Sl.ofInts (l := [_, _, _, _, _]) (n := 5) (cap := 5) hA904 rfl (by omega) (by omega)
      refine L.nil ?_
      refine L.planFin [(true,62)] rfl ?_
      refine L.call rfl rfl rfl (fun D21 hD21 => ends_ok 0 _ [] _ Sl.nil (by simp)) rfl ⟨_, rfl, rfl⟩ (fun v21 D21 hD21 hp21 => ?_)
      have hE := hp21
      refine L.nil ?_
      refine S.fin [(false,64)] rfl ?_
      refine L.callV rfl rfl rfl (fun D22 hD22 => ProveTruth_ok _ _ (endsD 0 []) [1, 1, 1, 1, 1] _ (hE.up (hD22 _ (by simp))) (hS904.up RI.up (hD22 _ (by simp)))) rfl ⟨_, rfl, rfl⟩ ?_
      refine L.nil ?_
      refine S.fin [(false,65)] rfl ?_
      refine L.pickF rfl rfl rfl rfl trivial ?_
      exact L.nil fun a w hh => (hh.cutK 3 rfl).ds (fun _ h => List.Mem.tail _ (List.Mem.tail _ (h)))
  · refine S.cons ?_
    refine L.planFork [] rfl ?_
    refine L.nil (L.forkP true true rfl rfl ?_ ?_)
    · refine L.pass rfl rfl rfl ⟨_, _, rfl, rfl, rfl⟩ ?_
      refine L.nil ?_
      refine L.planFin [(true,63)] rfl ?_
      refine L.pass rfl rfl rfl ⟨_, _, rfl, rfl, rfl⟩ ?_
      refine L.nil ?_
      refine S.fin [(false,64)] rfl ?_
      refine L.pass rfl rfl rfl ⟨_, _, rfl, rfl, rfl⟩ ?_
      refine L.nil ?_
      refine S.fin [(false,65)] rfl ?_
      refine L.pickT rfl rfl rfl rfl trivial ?_
      exact L.nil fun a w hh => hh.cutK 3 rfl
    · refine L.pass rfl rfl rfl ⟨_, _, rfl, rfl, rfl⟩ ?_
      refine L.nil ?_
      refine L.planFin [(true,62)] rfl ?_
      refine L.pass rfl rfl rfl ⟨_, _, rfl, rfl, rfl⟩ ?_
      refine L.nil ?_
      refine S.fin [(false,64)] rfl ?_
      refine L.pass rfl rfl rfl ⟨_, _, rfl, rfl, rfl⟩ ?_
      refine L.nil ?_
      refine S.fin [(false,65)] rfl ?_
      refine L.pickT rfl rfl rfl rfl trivial ?_
      exact L.nil fun a w hh => hh.cutK 3 rfl
  refine S.fin [(false,66)] rfl ?_
  refine L.move rfl rfl rfl trivial ?_
  refine L.nil ?_
  refine' S.or [.fork [] 67 (.fin [68]) 68 (.fin [67]), .fin [69,70], .fin [71]] [.fin [72], .fork [] 73 (.fin [74]) 74 (.fin [73]), .fin [75,76], .fin [77], .fin [78], .fork [] 79 (.fin [80]) 80 (.fin [79]), .fin [81], .fin [82], .fin [83], .fork [] 84 (.fin [85]) 85 (.fin [84]), .fin [86], .fin [87]] (s := 127) (p := 132) rfl rfl (fun hg15 => ?_) (fun hg15 => ?_) ?_
  rotate_left
  · refine S.cons ?_
    refine L.planFork [] rfl ?_
    refine L.nil (L.forkP true true rfl rfl ?_ ?_)
    · refine L.call rfl rfl rfl (fun D23 hD23 => ends_ok 1 _ [] _ Sl.nil (by simp)) rfl ⟨_, rfl, rfl⟩ (fun v23 D23 hD23 hp23 => ?_)
      have hE := hp23
      refine L.nil ?_
      refine L.planFin [(true,68)] rfl ?_
      refine L.buildSlice rfl Try.underlying22 Tf.s3 Tf.z3 rfl rfl rfl rfl (.cons rfl rfl (.cons rfl rfl (.cons rfl rfl (.cons rfl rfl (.cons rfl rfl .nil))))) rfl ⟨_, rfl, rfl⟩ (fun b905 D905 hD905 hA905 => ?_)
      have hS905 := Sl.ofInts (l := [_, _, _, _, _]) (n := 5) (cap := 5) hA905 rfl (by omega) (by omega)
      refine L.nil ?_
      refine S.fin [(false,69),(false,70)] rfl ?_
      refine L.callV rfl rfl rfl (fun D24 hD24 => ProveTruth_ok _ _ (endsD 1 []) [1, 1, 1, 1, 1] _ (hE.up (hD24 _ (by simp))) (hS905.up RI.up (hD24 _ (by simp)))) rfl ⟨_, rfl, rfl⟩ ?_
      refine L.not rfl rfl rfl ⟨_, rfl, rfl⟩ ?_
      refine L.nil ?_
      refine S.fin [(false,71)] rfl ?_
      refine L.pickF rfl rfl rfl rfl trivial ?_
      exact L.nil fun a w hh => (hh.cutK 4 rfl).ds (fun _ h => List.Mem.tail _ (List.Mem.tail _ (h)))
    · refine L.buildSlice rfl Try.underlying22 Tf.s3 Tf.z3 rfl rfl rfl rfl (.cons rfl rfl (.cons rfl rfl (.cons rfl rfl (.cons rfl rfl (.cons rfl rfl .nil))))) rfl ⟨_, rfl, rfl⟩ (fun b905 D905 hD905 hA905 => ?_)
      have hS905 := Sl.ofInts (l := [_, _, _, _, _]) (n := 5) (cap := 5) hA905 rfl (by omega) (by omega)
      refine L.nil ?_
      refine L.planFin [(true,67)] rfl ?_
      refine L.call rfl rfl rfl (fun D23 hD23 => ends_ok 1 _ [] _ Sl.nil (by simp)) rfl ⟨_, rfl, rfl⟩ (fun v23 D23 hD23 hp23 => ?_)
      have hE := hp23
      refine L.nil ?_
      refine S.fin [(false,69),(false,70)] rfl ?_
      refine L.callV rfl rfl rfl (fun D24 hD24 => ProveTruth_ok _ _ (endsD 1 []) [1, 1, 1, 1, 1] _ (hE.up (hD24 _ (by simp))) (hS905.up RI.up (hD24 _ (by simp)))) rfl ⟨_, rfl, rfl⟩ ?_
      refine L.not rfl rfl rfl ⟨_, rfl, rfl⟩ ?_
      refine L.nil ?_
      refine S.fin [(false,71)] rfl ?_
      refine L.pickF rfl rfl rfl rfl trivial ?_
      exact L.nil fun a w hh => (hh.cutK 4 rfl).ds (fun _ h => List.Mem.tail _ (List.Mem.tail _ (h)))
  · refine S.cons ?_
    refine L.planFork [] rfl ?_
    refine L.nil (L.forkP true true rfl rfl ?_ ?_)
    · refine L.pass rfl rfl rfl ⟨_, _, rfl, rfl, rfl⟩ ?_
      refine L.nil ?_
      refine L.planFin [(true,68)] rfl ?_
      refine L.pass rfl rfl rfl ⟨_, _, rfl, rfl, rfl⟩ ?_
      refine L.nil ?_
      refine S.fin [(false,69),(false,70)] rfl ?_
      refine L.pass rfl rfl rfl ⟨_, _, rfl, rfl, rfl⟩ ?_
      refine L.pass rfl rfl rfl ⟨_, _, rfl, rfl, rfl⟩ ?_
      refine L.nil ?_
      refine S.fin [(false,71)] rfl ?_
      refine L.pickT rfl rfl rfl rfl trivial ?_
      exact L.nil fun a w hh => hh.cutK 4 rfl
    · refine L.pass rfl rfl rfl ⟨_, _, rfl, rfl, rfl⟩ ?_
      refine L.nil ?_
      refine L.planFin [(true,67)] rfl ?_
      refine L.pass rfl rfl rfl ⟨_, _, rfl, rfl, rfl⟩ ?_
      refine L.nil ?_
      refine S.fin [(false,69),(false,70)] rfl ?_
      refine L.pass rfl rfl rfl ⟨_, _, rfl, rfl, rfl⟩ ?_
      refine L.pass rfl rfl rfl ⟨_, _, rfl, rfl, rfl⟩ ?_
      refine L.nil ?_
      refine S.fin [(false,71)] rfl ?_
      refine L.pickT rfl rfl rfl rfl trivial ?_
      exact L.nil fun a w hh => hh.cutK 4 rfl
  refine S.fin [(false,72)] rfl ?_
  refine L.move rfl rfl rfl trivial ?_
  refine L.nil ?_
  refine' S.or [.fork [] 73 (.fin [74]) 74 (.fin [73]), .fin [75,76], .fin [77]] [.fin [78], .fork [] 79 (.fin [80]) 80 (.fin [79]), .fin [81], .fin [82], .fin [83], .fork [] 84 (.fin [85]) 85 (.fin [84]), .fin [86], .fin [87]] (s := 133) (p := 138) rfl rfl (fun hg16 => ?_) (fun hg16 => ?_) ?_
  rotate_left
  · refine S.cons ?_
    refine L.planFork [] rfl ?_
    refine L.nil (L.forkP true true rfl rfl ?_ ?_)
    · refine L.call rfl rfl rfl (fun D25 hD25 => ends_ok 0 _ [] _ Sl.nil (by simp)) rfl ⟨_, rfl, rfl⟩ (fun v25 D25 hD25 hp25 => ?_)
      have hE := hp25
      refine L.nil ?_
      refine L.planFin [(true,74)] rfl ?_
      refine L.buildSlice rfl Try.underlying22 Tf.s3 Tf.z3 rfl rfl rfl rfl (.cons rfl rfl (.cons rfl rfl (.cons rfl rfl (.cons rfl rfl (.cons rfl rfl .nil))))) rfl ⟨_, rfl, rfl⟩ (fun b906 D906 hD906 hA906 => ?_)
      have hS906 := Sl.ofInts (l := [_, _, _, _, _]) (n := 5) (cap := 5) hA906 rfl (by omega) (by omega)
      refine L.nil ?_
      refine S.fin [(false,75),(false,76)] rfl ?_
      refine L.callV rfl rfl rfl (fun D26 hD26 => ProveLeast_ok _ _ (endsD 0 []) [1, 1, 1, 1, 1] 1 _ (hE.up (hD26 _ (by simp))) (hS906.up RI.up (hD26 _ (by simp)))) rfl ⟨_, rfl, rfl⟩ ?_
      refine L.not rfl rfl rfl ⟨_, rfl, rfl⟩ ?_
      refine L.nil ?_
      refine S.fin [(false,77)] rfl ?_
      refine L.pickF rfl rfl rfl rfl trivial ?_
      exact L.nil fun a w hh => (hh.cutK 4 rfl).ds (fun _ h => List.Mem.tail _ (List.Mem.tail _ (h)))
    · refine L.buildSlice rfl Try.underlying22 Tf.s3 Tf.z3 rfl rfl rfl rfl (.cons rfl rfl (.cons rfl rfl (.cons rfl rfl (.cons rfl rfl (.cons rfl rfl .nil))))) rfl ⟨_, rfl, rfl⟩ (fun b906 D906 hD906 hA906 => ?_)
      have hS906 := Sl.ofInts (l := [_, _, _, _, _]) (n := 5) (cap := 5) hA906 rfl (by omega) (by omega)
      refine L.nil ?_
      refine L.planFin [(true,73)] rfl ?_
      refine L.call rfl rfl rfl (fun D25 hD25 => ends_ok 0 _ [] _ Sl.nil (by simp)) rfl ⟨_, rfl, rfl⟩ (fun v25 D25 hD25 hp25 => ?_)
      have hE := hp25
      refine L.nil ?_
      refine S.fin [(false,75),(false,76)] rfl ?_
      refine L.callV rfl rfl rfl (fun D26 hD26 => ProveLeast_ok _ _ (endsD 0 []) [1, 1, 1, 1, 1] 1 _ (hE.up (hD26 _ (by simp))) (hS906.up RI.up (hD26 _ (by simp)))) rfl ⟨_, rfl, rfl⟩ ?_
      refine L.not rfl rfl rfl ⟨_, rfl, rfl⟩ ?_
      refine L.nil ?_
      refine S.fin [(false,77)] rfl ?_
      refine L.pickF rfl rfl rfl rfl trivial ?_
      exact L.nil fun a w hh => (hh.cutK 4 rfl).ds (fun _ h => List.Mem.tail _ (List.Mem.tail _ (h)))
  · refine S.cons ?_
    refine L.planFork [] rfl ?_
    refine L.nil (L.forkP true true rfl rfl ?_ ?_)
    · refine L.pass rfl rfl rfl ⟨_, _, rfl, rfl, rfl⟩ ?_
      refine L.nil ?_
      refine L.planFin [(true,74)] rfl ?_
      refine L.pass rfl rfl rfl ⟨_, _, rfl, rfl, rfl⟩ ?_
      refine L.nil ?_
      refine S.fin [(false,75),(false,76)] rfl ?_
      refine L.pass rfl rfl rfl ⟨_, _, rfl, rfl, rfl⟩ ?_
      refine L.pass rfl rfl rfl ⟨_, _, rfl, rfl, rfl⟩ ?_
      refine L.nil ?_
      refine S.fin [(false,77)] rfl ?_
      refine L.pickT rfl rfl rfl rfl trivial ?_
      exact L.nil fun a w hh => hh.cutK 4 rfl
    · refine L.pass rfl rfl rfl ⟨_, _, rfl, rfl, rfl⟩ ?_
      refine L.nil ?_
      refine L.planFin [(true,73)] rfl ?_
      refine L.pass rfl rfl rfl ⟨_, _, rfl, rfl, rfl⟩ ?_
      refine L.nil ?_
      refine S.fin [(false,75),(false,76)] rfl ?_
      refine L.pass rfl rfl rfl ⟨_, _, rfl, rfl, rfl⟩ ?_
      refine L.pass rfl rfl rfl ⟨_, _, rfl, rfl, rfl⟩ ?_
      refine L.nil ?_
      refine S.fin [(false,77)] rfl ?_
      refine L.pickT rfl rfl rfl rfl trivial ?_
      exact L.nil fun a w hh => hh.cutK 4 rfl
  refine S.fin [(false,78)] rfl ?_
  refine L.move rfl rfl rfl trivial ?_
  refine L.nil ?_
  refine' S.or [.fork [] 79 (.fin [80]) 80 (.fin [79]), .fin [81], .fin [82]] [.fin [83], .fork [] 84 (.fin [85]) 85 (.fin [84]), .fin [86], .fin [87]] (s := 139) (p := 143) rfl rfl (fun hg17 => ?_) (fun hg17 => ?_) ?_
  rotate_left
  · refine S.cons ?_
    refine L.planFork [] rfl ?_
    refine L.nil (L.forkP true true rfl rfl ?_ ?_)
    · refine L.call rfl rfl rfl (fun D27 hD27 => ends_ok 0 _ [] _ Sl.nil (by simp)) rfl ⟨_, rfl, rfl⟩ (fun v27 D27 hD27 hp27 => ?_)
      have hE := hp27
      refine L.nil ?_
      refine L.planFin [(true,80)] rfl ?_
      refine L.buildSlice rfl Try.underlying22 Tf.s3 Tf.z3 rfl rfl rfl rfl (.cons rfl rfl (.cons rfl rfl (.cons rfl rfl (.cons rfl rfl (.cons rfl rfl .nil))))) rfl ⟨_, rfl, rfl⟩ (fun b907 D907 hD907 hA907 => ?_)
      have hS907 := Sl.ofInts (l := [_, _, _, _, _]) (n := 5) (cap := 5) hA907 rfl (by omega) (by omega)
      refine L.nil ?_
      refine S.fin [(false,81)] rfl ?_
      refine L.callV rfl rfl rfl (fun D28 hD28 => ProveLeast_ok _ _ (endsD 0 []) [1, 1, 1, 1, 1] 0 _ (hE.up (hD28 _ (by simp))) (hS907.up RI.up (hD28 _ (by simp)))) rfl ⟨_, rfl, rfl⟩ ?_
      refine L.nil ?_
      refine S.fin [(false,82)] rfl ?_
      refine L.pickF rfl rfl rfl rfl trivial ?_
      exact L.nil fun a w hh => (hh.cutK 3 rfl).ds (fun _ h => List.Mem.tail _ (List.Mem.tail _ (h)))
    · refine L.buildSlice rfl Try.underlying22 Tf.s3 Tf.z3 rfl rfl rfl rfl (.cons rfl rfl (.cons rfl rfl (.cons rfl rfl (.cons rfl rfl (.cons rfl rfl .nil))))) rfl ⟨_, rfl, rfl⟩ (fun b907 D907 hD907 hA907 => ?_)
      have hS907 := Sl.ofInts (l := [_, _, _, _, _]) (n := 5) (cap := 5) hA907 rfl (by omega) (by omega)
      refine L.nil ?_
      refine L.planFin [(true,79)] rfl ?_
      refine L.call rfl rfl rfl (fun D27 hD27 => ends_ok 0 _ [] _ Sl.nil (by simp)) rfl ⟨_, rfl, rfl⟩ (fun v27 D27 hD27 hp27 => ?_)
      have hE := hp27
      refine L.nil ?_
      refine S.fin [(false,81)] rfl ?_
      refine L.callV rfl rfl rfl (fun D28 hD28 => ProveLeast_ok _ _ (endsD 0 []) [1, 1, 1, 1, 1] 0 _ (hE.up (hD28 _ (by simp))) (hS907.up RI.up (hD28 _ (by simp)))) rfl ⟨_, rfl, rfl⟩ ?_
      refine L.nil ?_
      refine S.fin [(false,82)] rfl ?_
      refine L.pickF rfl rfl rfl rfl trivial ?_
      exact L.nil fun a w hh => (hh.cutK 3 rfl).ds (fun _ h => List.Mem.tail _ (List.Mem.tail _ (h)))
  · refine S.cons ?_
    refine L.planFork [] rfl ?_
    refine L.nil (L.forkP true true rfl rfl ?_ ?_)
    · refine L.pass rfl rfl rfl ⟨_, _, rfl, rfl, rfl⟩ ?_
      refine L.nil ?_
      refine L.planFin [(true,80)] rfl ?_
      refine L.pass rfl rfl rfl ⟨_, _, rfl, rfl, rfl⟩ ?_
      refine L.nil ?_
      refine S.fin [(false,81)] rfl ?_
      refine L.pass rfl rfl rfl ⟨_, _, rfl, rfl, rfl⟩ ?_
      refine L.nil ?_
      refine S.fin [(false,82)] rfl ?_
      refine L.pickT rfl rfl rfl rfl trivial ?_
      exact L.nil fun a w hh => hh.cutK 3 rfl
    · refine L.pass rfl rfl rfl ⟨_, _, rfl, rfl, rfl⟩ ?_
      refine L.nil ?_
      refine L.planFin [(true,79)] rfl ?_
      refine L.pass rfl rfl rfl ⟨_, _, rfl, rfl, rfl⟩ ?_
      refine L.nil ?_
      refine S.fin [(false,81)] rfl ?_
      refine L.pass rfl rfl rfl ⟨_, _, rfl, rfl, rfl⟩ ?_
      refine L.nil ?_
      refine S.fin [(false,82)] rfl ?_
      refine L.pickT rfl rfl rfl rfl trivial ?_
      exact L.nil fun a w hh => hh.cutK 3 rfl
  refine S.fin [(false,83)] rfl ?_
  refine L.move rfl rfl rfl trivial ?_
  refine L.nil ?_
  refine' S.or [.fork [] 84 (.fin [85]) 85 (.fin [84]), .fin [86], .fin [87]] [] (s := 144) (p := 148) rfl rfl (fun hg18 => ?_) (fun hg18 => ?_) ?_
  rotate_left
  · refine S.cons ?_
    refine L.planFork [] rfl ?_
    refine L.nil (L.forkP true true rfl rfl ?_ ?_)
    · refine L.call rfl rfl rfl (fun D29 hD29 => ends_ok 0 _ [] _ Sl.nil (by simp)) rfl ⟨_, rfl, rfl⟩ (fun v29 D29 hD29 hp29 => ?_)
      have hE := hp29
      refine L.nil ?_
      refine L.planFin [(true,85)] rfl ?_
      refine L.buildSlice rfl Try.underlying22 Tf.s3 Tf.z3 rfl rfl rfl rfl (.cons rfl rfl (.cons rfl rfl (.cons rfl rfl (.cons rfl rfl (.cons rfl rfl .nil))))) rfl ⟨_, rfl, rfl⟩ (fun b908 D908 hD908 hA908 => ?_)
      have hS908 := Sl.ofInts (l := [_, _, _, _, _]) (n := 5) (cap := 5) hA908 rfl (by omega) (by omega)
      refine L.nil ?_
      refine S.fin [(false,86)] rfl ?_
      refine L.callV rfl rfl rfl (fun D30 hD30 => ProveLeast_ok _ _ (endsD 0 []) [1, 1, 0, 1, 1] 6 _ (hE.up (hD30 _ (by simp))) (hS908.up RI.up (hD30 _ (by simp)))) rfl ⟨_, rfl, rfl⟩ ?_
      refine L.nil ?_
      refine S.fin [(false,87)] rfl ?_
      refine L.pickF rfl rfl rfl rfl trivial ?_
      exact L.nil fun a w hh => (hh.cutK 3 rfl).ds (fun _ h => List.Mem.tail _ (List.Mem.tail _ (h)))
    · refine L.buildSlice rfl Try.underlying22 Tf.s3 Tf.z3 rfl rfl rfl rfl (.cons rfl rfl (.cons rfl rfl (.cons rfl rfl (.cons rfl rfl (.cons rfl rfl .nil))))) rfl ⟨_, rfl, rfl⟩ (fun b908 D908 hD908 hA908 => ?_)
      have hS908 := Sl.ofInts (l := [_, _, _, _, _]) (n := 5) (cap := 5) hA908 rfl (by omega) (by omega)
      refine L.nil ?_
      refine L.planFin [(true,84)] rfl ?_
      refine L.call rfl rfl rfl (fun D29 hD29 => ends_ok 0 _ [] _ Sl.nil (by simp)) rfl ⟨_, rfl, rfl⟩ (fun v29 D29 hD29 hp29 => ?_)
      have hE := hp29
      refine L.nil ?_
      refine S.fin [(false,86)] rfl ?_
      refine L.callV rfl rfl rfl (fun D30 hD30 => ProveLeast_ok _ _ (endsD 0 []) [1, 1, 0, 1, 1] 6 _ (hE.up (hD30 _ (by simp))) (hS908.up RI.up (hD30 _ (by simp)))) rfl ⟨_, rfl, rfl⟩ ?_
      refine L.nil ?_
      refine S.fin [(false,87)] rfl ?_
      refine L.pickF rfl rfl rfl rfl trivial ?_
      exact L.nil fun a w hh => (hh.cutK 3 rfl).ds (fun _ h => List.Mem.tail _ (List.Mem.tail _ (h)))
  · refine S.cons ?_
    refine L.planFork [] rfl ?_
    refine L.nil (L.forkP true true rfl rfl ?_ ?_)
    · refine L.pass rfl rfl rfl ⟨_, _, rfl, rfl, rfl⟩ ?_
      refine L.nil ?_
      refine L.planFin [(true,85)] rfl ?_
      refine L.pass rfl rfl rfl ⟨_, _, rfl, rfl, rfl⟩ ?_
      refine L.nil ?_
      refine S.fin [(false,86)] rfl ?_
      refine L.pass rfl rfl rfl ⟨_, _, rfl, rfl, rfl⟩ ?_
      refine L.nil ?_
      refine S.fin [(false,87)] rfl ?_
      refine L.pickT rfl rfl rfl rfl trivial ?_
      exact L.nil fun a w hh => hh.cutK 3 rfl
    · refine L.pass rfl rfl rfl ⟨_, _, rfl, rfl, rfl⟩ ?_
      refine L.nil ?_
      refine L.planFin [(true,84)] rfl ?_
      refine L.pass rfl rfl rfl ⟨_, _, rfl, rfl, rfl⟩ ?_
      refine L.nil ?_
      refine S.fin [(false,86)] rfl ?_
      refine L.pass rfl rfl rfl ⟨_, _, rfl, rfl, rfl⟩ ?_
      refine L.nil ?_
      refine S.fin [(false,87)] rfl ?_
      refine L.pickT rfl rfl rfl rfl trivial ?_
      exact L.nil fun a w hh => hh.cutK 3 rfl
  refine S.nil ?_
  refine C.next ?_
  refine C.cond rfl (fun hc1 => ?_) (fun hc1 => ?_)
  · exact absurd hc1 (by decide +kernel)
  · refine C.skip ?_
    refine C.next ?_
    refine C.seq ?_
    refine C.region [(false,0),(false,1),(false,2),(false,3),(false,4),(false,5),(false,6)] rfl ?_
    refine L.call rfl rfl rfl (fun D31 hD31 => ends_ok 0 _ [] _ Sl.nil (by simp)) rfl trivial (fun v31 D31 hD31 hp31 => ?_)
    have hE := hp31
    refine L.buildSlice rfl Try.underlying22 Tf.s3 Tf.z3 rfl rfl rfl rfl (.cons rfl rfl (.cons rfl rfl (.cons rfl rfl (.cons rfl rfl (.cons rfl rfl .nil))))) rfl trivial (fun b909 D909 hD909 hA909 => ?_)
    have hS909 := Sl.ofInts (l := [_, _, _, _, _]) (n := 5) (cap := 5) hA909 rfl (by omega) (by omega)
    refine L.call rfl rfl rfl (fun D32 hD32 => Play_ok _ _ (endsD 0 []) [1, 1, 0, 1, 1] _ (hE.up (hD32 _ (by simp))) (hS909.up RI.up (hD32 _ (by simp)))) rfl trivial (fun v32 D32 hD32 hp32 => ?_)
    obtain ⟨lv1, rfl, hl1⟩ := hp32
    refine L.move rfl rfl rfl trivial ?_
    refine L.extract rfl rfl rfl rfl trivial ?_
    refine L.extract rfl rfl rfl rfl trivial ?_
    refine L.assign rfl rfl rfl trivial ?_
    refine L.nil ?_
    refine C.next ?_
    refine C.seq ?_
    refine C.region [(false,0),(false,1),(false,2),(false,3),(false,4),(false,5),(false,6)] rfl ?_
    refine L.call rfl rfl rfl (fun D33 hD33 => ends_ok 0 _ [] _ Sl.nil (by simp)) rfl trivial (fun v33 D33 hD33 hp33 => ?_)
    have hE := hp33
    refine L.buildSlice rfl Try.underlying22 Tf.s3 Tf.z3 rfl rfl rfl rfl (.cons rfl rfl (.cons rfl rfl (.cons rfl rfl (.cons rfl rfl .nil)))) rfl trivial (fun b910 D910 hD910 hA910 => ?_)
    have hS910 := Sl.ofInts (l := [_, _, _, _]) (n := 4) (cap := 4) hA910 rfl (by omega) (by omega)
    refine L.call rfl rfl rfl (fun D34 hD34 => Play_ok _ _ (endsD 0 []) [1, 1, 1, 1] _ (hE.up (hD34 _ (by simp))) (hS910.up RI.up (hD34 _ (by simp)))) rfl trivial (fun v34 D34 hD34 hp34 => ?_)
    obtain ⟨lv2, rfl, hl2⟩ := hp34
    refine L.move rfl rfl rfl trivial ?_
    refine L.extract rfl rfl rfl rfl trivial ?_
    refine L.extract rfl rfl rfl rfl trivial ?_
    refine L.assign rfl rfl rfl trivial ?_
    refine L.nil ?_
    refine C.next ?_
    refine C.seq ?_
    refine C.region [(false,0),(false,1),(false,2),(false,3),(false,4),(false,5)] rfl ?_
    refine L.call rfl rfl rfl (fun D35 hD35 => ends_ok 0 _ [] _ Sl.nil (by simp)) rfl trivial (fun v35 D35 hD35 hp35 => ?_)
    have hE := hp35
    refine L.callV rfl rfl rfl (fun D36 hD36 => Chairs2_ok _ (endsD 0 []) 1 5 _ (hE.up (hD36 _ (by simp)))) rfl trivial ?_
    refine L.move rfl rfl rfl trivial ?_
    refine L.extract rfl rfl rfl rfl trivial ?_
    refine L.extract rfl rfl rfl rfl trivial ?_
    refine L.assign rfl rfl rfl trivial ?_
    refine L.nil ?_
    refine C.next ?_
    refine C.seq ?_
    refine C.region [(false,0),(false,1),(false,2),(false,3),(false,4),(false,5),(false,6),(false,7)] rfl ?_
    refine L.callV rfl rfl rfl (fun D37 hD37 => third_ok _) rfl trivial ?_
    refine L.buildSlice rfl Try.underlying33 Tf.s87 Tf.z87 rfl rfl rfl rfl (.cons rfl rfl .nil) rfl trivial (fun b911 D911 hD911 hA911 => ?_)
    have hM911 : Sl D911 RC 3 _ [⟨false, 5, 3⟩] := Froz.cnts (l := [⟨false, 5, 3⟩]) (n := 1) (Or.inr ⟨_, 1, rfl, by omega, hA911⟩) rfl (by omega)
    refine L.call rfl rfl rfl (fun D38 hD38 => ends_ok 0 _ [⟨false, 5, 3⟩] _ (hM911.up RC.up (hD38 _ (by simp))) (by simp)) rfl trivial (fun v38 D38 hD38 hp38 => ?_)
    have hE := hp38
    refine L.callV rfl rfl rfl (fun D39 hD39 => Chairs2_ok _ (endsD 0 [⟨false, 5, 3⟩]) 1 0 _ (hE.up (hD39 _ (by simp)))) rfl trivial ?_
    refine L.move rfl rfl rfl trivial ?_
    refine L.extract rfl rfl rfl rfl trivial ?_
    refine L.extract rfl rfl rfl rfl trivial ?_
    refine L.assign rfl rfl rfl trivial ?_
    refine L.nil ?_
    refine C.next ?_
    refine C.seq ?_
    refine C.region [(false,0),(false,1),(false,2),(false,3),(false,4),(false,5),(false,6),(false,7)] rfl ?_
    refine L.callV rfl rfl rfl (fun D40 hD40 => third_ok _) rfl trivial ?_
    refine L.buildSlice rfl Try.underlying33 Tf.s87 Tf.z87 rfl rfl rfl rfl (.cons rfl rfl .nil) rfl trivial (fun b912 D912 hD912 hA912 => ?_)
    have hM912 : Sl D912 RC 3 _ [⟨false, 5, 3⟩] := Froz.cnts (l := [⟨false, 5, 3⟩]) (n := 1) (Or.inr ⟨_, 1, rfl, by omega, hA912⟩) rfl (by omega)
    refine L.call rfl rfl rfl (fun D41 hD41 => ends_ok 0 _ [⟨false, 5, 3⟩] _ (hM912.up RC.up (hD41 _ (by simp))) (by simp)) rfl trivial (fun v41 D41 hD41 hp41 => ?_)
    have hE := hp41
    refine L.callV rfl rfl rfl (fun D42 hD42 => Chairs2_ok _ (endsD 0 [⟨false, 5, 3⟩]) 0 0 _ (hE.up (hD42 _ (by simp)))) rfl trivial ?_
    refine L.move rfl rfl rfl trivial ?_
    refine L.extract rfl rfl rfl rfl trivial ?_
    refine L.extract rfl rfl rfl rfl trivial ?_
    refine L.assign rfl rfl rfl trivial ?_
    refine L.nil ?_
    refine C.next ?_
    refine C.seq ?_
    refine C.region [(false,0),(false,1),(false,2),(false,3),(false,4),(false,5),(false,6),(false,7),(false,8)] rfl ?_
    refine L.callV rfl rfl rfl (fun D43 hD43 => third_ok _) rfl trivial ?_
    refine L.buildSlice rfl Try.underlying33 Tf.s87 Tf.z87 rfl rfl rfl rfl (.cons rfl rfl .nil) rfl trivial (fun b913 D913 hD913 hA913 => ?_)
    have hM913 : Sl D913 RC 3 _ [⟨false, 5, 3⟩] := Froz.cnts (l := [⟨false, 5, 3⟩]) (n := 1) (Or.inr ⟨_, 1, rfl, by omega, hA913⟩) rfl (by omega)
    refine L.call rfl rfl rfl (fun D44 hD44 => ends_ok 0 _ [⟨false, 5, 3⟩] _ (hM913.up RC.up (hD44 _ (by simp))) (by simp)) rfl trivial (fun v44 D44 hD44 hp44 => ?_)
    have hE := hp44
    refine L.callV rfl rfl rfl (fun D45 hD45 => Look_ok _ (endsD 0 [⟨false, 5, 3⟩]) _ (hE.up (hD45 _ (by simp)))) rfl trivial ?_
    refine L.move rfl rfl rfl trivial ?_
    refine L.extract rfl rfl rfl rfl trivial ?_
    refine L.extract rfl rfl rfl rfl trivial ?_
    refine L.extract rfl rfl rfl rfl trivial ?_
    refine L.assign rfl rfl rfl trivial ?_
    refine L.nil ?_
    refine C.next ?_
    refine C.seq ?_
    refine C.region [(false,0),(false,1),(false,2),(false,3),(false,4),(false,5),(false,6),(false,7)] rfl ?_
    refine L.callV rfl rfl rfl (fun D46 hD46 => third_ok _) rfl trivial ?_
    refine L.buildSlice rfl Try.underlying33 Tf.s87 Tf.z87 rfl rfl rfl rfl (.cons rfl rfl .nil) rfl trivial (fun b914 D914 hD914 hA914 => ?_)
    have hM914 : Sl D914 RC 3 _ [⟨false, 5, 3⟩] := Froz.cnts (l := [⟨false, 5, 3⟩]) (n := 1) (Or.inr ⟨_, 1, rfl, by omega, hA914⟩) rfl (by omega)
    refine L.call rfl rfl rfl (fun D47 hD47 => ends_ok 0 _ [⟨false, 5, 3⟩] _ (hM914.up RC.up (hD47 _ (by simp))) (by simp)) rfl trivial (fun v47 D47 hD47 hp47 => ?_)
    have hE := hp47
    refine L.callV rfl rfl rfl (fun D48 hD48 => Looks_ok _ (endsD 0 [⟨false, 5, 3⟩]) (-1) 0 _ (hE.up (hD48 _ (by simp)))) rfl trivial ?_
    refine L.move rfl rfl rfl trivial ?_
    refine L.extract rfl rfl rfl rfl trivial ?_
    refine L.extract rfl rfl rfl rfl trivial ?_
    refine L.assign rfl rfl rfl trivial ?_
    refine L.nil ?_
    refine C.next ?_
    refine C.seq ?_
    refine C.region [(false,0),(false,1),(false,2),(false,3),(false,4),(false,5),(false,6),(false,7),(false,8),(false,9),(false,10),(false,11),(false,12),(false,13),(false,14),(false,15),(false,16),(false,17),(false,18),(false,19),(false,20)] rfl ?_
    refine L.callO rfl rfl rfl (fun D49 hD49 => endsP_ok 0 _ [] _ Sl.nil (by simp)) rfl trivial (fun v49 D49 ν49 hD49 hp49 => ?_)
    obtain ⟨pP, cP, ν0, qP, rfl, hPa, hPc, rfl⟩ := hp49
    obtain ⟨bP, kP, jP, rfl, hPk, rfl, hP1, hP2⟩ := hPa.some (by decide)
    refine L.call rfl rfl rfl (fun D50 hD50 => ends_ok 7 _ [] _ Sl.nil (by simp)) rfl trivial (fun v50 D50 hD50 hp50 => ?_)
    obtain ⟨pW, cW, rfl, hWp, hWc⟩ := hp50
    refine L.call rfl rfl rfl (fun D51 hD51 => ends_ok 0 _ [] _ Sl.nil (by simp)) rfl trivial (fun v51 D51 hD51 hp51 => ?_)
    obtain ⟨pO, cO, rfl, hOp, hOc⟩ := hp51
    refine L.callO rfl rfl rfl (fun D52 hD52 => endsC_ok 0 _ [] _ Sl.nil (by simp)) rfl trivial (fun v52 D52 ν52 hD52 hp52 => ?_)
    obtain ⟨pM, cM, ν0, qM, rfl, hMp, hMa, rfl⟩ := hp52
    obtain ⟨bM, kM, jM, rfl, hMk, rfl, hM1, hM2⟩ := hMa.some (by decide)
    refine L.callO rfl rfl rfl (fun D53 hD53 => endsC_ok 0 _ [] _ Sl.nil (by simp)) rfl trivial (fun v53 D53 ν53 hD53 hp53 => ?_)
    obtain ⟨pN, cN, ν0, qN, rfl, hNp, hNa, rfl⟩ := hp53
    obtain ⟨bN, kN, jN, rfl, hNk, rfl, hN1, hN2⟩ := hNa.some (by decide)
    refine L.call rfl rfl rfl (fun D54 hD54 => ends_ok 0 _ [] _ Sl.nil (by simp)) rfl trivial (fun v54 D54 hD54 hp54 => ?_)
    obtain ⟨pC, cC, rfl, hCp, hCc⟩ := hp54
    refine L.call rfl rfl rfl (fun D55 hD55 => ends_ok 0 _ [] _ Sl.nil (by simp)) rfl trivial (fun v55 D55 hD55 hp55 => ?_)
    obtain ⟨pL, cL, rfl, hLp, hLc⟩ := hp55
    refine L.alloc rfl Tf.z35 rfl rfl trivial (fun q5 => ?_)
    refine L.alloc rfl Tf.z35 rfl rfl trivial (fun q6 => ?_)
    refine L.alloc rfl Tf.z35 rfl rfl trivial (fun q7 => ?_)
    refine L.alloc rfl Tf.z35 rfl rfl trivial (fun q8 => ?_)
    refine L.alloc rfl Tf.z35 rfl rfl trivial (fun q9 => ?_)
    refine L.alloc rfl Tf.z35 rfl rfl trivial (fun q10 => ?_)
    refine L.alloc rfl Tf.z35 rfl rfl trivial (fun q11 => ?_)
    refine L.storeW rfl rfl rfl rfl Tf.s35 (by first | rfl | (simp only [ints_length, *]; done) | (simp only [ints_length, *]; rfl) | (simp only [ints_length, *]; omega)) (by first | rfl | (simp only [ints_length, *]; done) | (simp only [ints_length, *]; rfl) | (simp only [ints_length, *]; omega)) (.tail (.tail (.tail (.tail (.tail (.tail (Has.head))))))) (cell1_row (by simp [cell1]) hPc.cell1) trivial ?_
    refine L.storeW rfl rfl rfl rfl Tf.s35 (by first | rfl | (simp only [ints_length, *]; done) | (simp only [ints_length, *]; rfl) | (simp only [ints_length, *]; omega)) (by first | rfl | (simp only [ints_length, *]; done) | (simp only [ints_length, *]; rfl) | (simp only [ints_length, *]; omega)) (.tail (.tail (.tail (.tail (.tail (Has.head)))))) (cell1_row hWp.cell1 hWc.cell1) trivial ?_
    refine L.storeW rfl rfl rfl rfl Tf.s35 (by first | rfl | (simp only [ints_length, *]; done) | (simp only [ints_length, *]; rfl) | (simp only [ints_length, *]; omega)) (by first | rfl | (simp only [ints_length, *]; done) | (simp only [ints_length, *]; rfl) | (simp only [ints_length, *]; omega)) (.tail (.tail (.tail (.tail (Has.head))))) (cell1_row hOp.cell1 hOc.cell1) trivial ?_
    refine L.storeW rfl rfl rfl rfl Tf.s35 (by first | rfl | (simp only [ints_length, *]; done) | (simp only [ints_length, *]; rfl) | (simp only [ints_length, *]; omega)) (by first | rfl | (simp only [ints_length, *]; done) | (simp only [ints_length, *]; rfl) | (simp only [ints_length, *]; omega)) (.tail (.tail (.tail (Has.head)))) (cell1_row hMp.cell1 (by simp [cell1])) trivial ?_
    refine L.storeW rfl rfl rfl rfl Tf.s35 (by first | rfl | (simp only [ints_length, *]; done) | (simp only [ints_length, *]; rfl) | (simp only [ints_length, *]; omega)) (by first | rfl | (simp only [ints_length, *]; done) | (simp only [ints_length, *]; rfl) | (simp only [ints_length, *]; omega)) (.tail (.tail (Has.head))) (cell1_row hNp.cell1 (by simp [cell1])) trivial ?_
    refine L.storeW rfl rfl rfl rfl Tf.s35 (by first | rfl | (simp only [ints_length, *]; done) | (simp only [ints_length, *]; rfl) | (simp only [ints_length, *]; omega)) (by first | rfl | (simp only [ints_length, *]; done) | (simp only [ints_length, *]; rfl) | (simp only [ints_length, *]; omega)) (.tail (Has.head)) (cell1_row hCp.cell1 hCc.cell1) trivial ?_
    refine L.storeW rfl rfl rfl rfl Tf.s35 (by first | rfl | (simp only [ints_length, *]; done) | (simp only [ints_length, *]; rfl) | (simp only [ints_length, *]; omega)) (by first | rfl | (simp only [ints_length, *]; done) | (simp only [ints_length, *]; rfl) | (simp only [ints_length, *]; omega)) (Has.head) (cell1_row hLp.cell1 hLc.cell1) trivial ?_
    refine L.nil ?_
    refine C.next ?_
    refine C.seq ?_
    refine C.region [(false,0),(false,1),(false,2),(false,3)] rfl ?_
    refine L.fieldAddr rfl Tf.f35_0 rfl rfl trivial ?_
    refine L.loadB1 rfl Tf.a22 rfl (List.Mem.tail _ (List.Mem.tail _ (List.Mem.tail _ (List.Mem.tail _ (List.Mem.tail _ (List.Mem.tail _ (List.Mem.head _))))))) rfl List.not_mem_nil rfl trivial ?_
    refine L.indexP rfl Try.underlying22 Tf.s3 rfl rfl (by decide) (by decide) rfl trivial ?_
    refine L.storeO rfl Tf.s3 rfl rfl (.tail (.tail (.tail (.tail (.tail (.tail (.tail (.tail (.tail (.tail (.tail (Has.head)))))))))))) (by decide) trivial ?_
    refine L.nil ?_
    refine C.next ?_
    refine C.seq ?_
    refine C.region [(false,0),(false,1)] rfl ?_
    refine L.fieldAddr rfl Tf.f35_3 rfl rfl trivial ?_
    refine L.store rfl rfl rfl rfl Tf.s3 (.tail (.tail (.tail (.tail (Has.head))))) (by simp) rfl (by simp [cell1]) trivial ?_
    refine L.nil ?_
    refine C.next ?_
    refine C.seq ?_
    refine C.region [(false,0),(false,1),(false,2),(false,3),(false,4)] rfl ?_
    refine L.fieldAddr rfl Tf.f35_1 rfl rfl trivial ?_
    refine L.loadB1 rfl Tf.a33 rfl (List.Mem.tail _ (List.Mem.tail _ (List.Mem.tail _ (List.Mem.head _)))) rfl List.not_mem_nil rfl trivial ?_
    refine L.indexP rfl Try.underlying33 Tf.s87 rfl rfl (by decide) (by decide) rfl trivial ?_
    refine L.fieldAddr rfl Tf.f87_1 rfl rfl trivial ?_
    refine L.store (off := 1) (vs := cntC [⟨false, 3, 2⟩, ⟨true, 3, 3⟩] ++ jM) (us := [.int .i64 (6)]) (ws := cntC [⟨false, 6, 2⟩, ⟨true, 3, 3⟩] ++ jM) rfl rfl rfl rfl Tf.s3 (.tail (.tail (.tail (.tail (.tail (.tail (.tail (.tail (.tail (Has.head)))))))))) (Nat.le_trans (show 1 + 1 ≤ 6 by decide) (by rw [List.length_append]; exact Nat.le_add_right 6 _)) rfl (by simp [cell1]) trivial ?_
    refine L.nil ?_
    refine C.next ?_
    refine C.seq ?_
    refine C.region [(false,0),(false,1),(false,2),(false,3),(false,4)] rfl ?_
    refine L.fieldAddr rfl Tf.f35_1 rfl rfl trivial ?_
    refine L.loadB1 rfl Tf.a33 rfl (List.Mem.tail _ (List.Mem.tail _ (List.Mem.head _))) rfl List.not_mem_nil rfl trivial ?_
    refine L.indexP rfl Try.underlying33 Tf.s87 rfl rfl (by decide) (by decide) rfl trivial ?_
    refine L.fieldAddr rfl Tf.f87_2 rfl rfl trivial ?_
    refine L.store (off := 5) (vs := cntC [⟨false, 3, 2⟩, ⟨true, 3, 3⟩] ++ jN) (us := [.int .i64 (-1)]) (ws := cntC [⟨false, 3, 2⟩, ⟨true, 3, -1⟩] ++ jN) rfl rfl rfl rfl Tf.s3 (.tail (.tail (.tail (.tail (.tail (.tail (.tail (Has.head)))))))) (Nat.le_trans (show 5 + 1 ≤ 6 by decide) (by rw [List.length_append]; exact Nat.le_add_right 6 _)) rfl (by simp [cell1]) trivial ?_
    refine L.nil ?_
    refine C.next ?_
    refine C.seq ?_
    refine C.region [(false,0),(false,1),(false,2)] rfl ?_
    refine L.makeSliceD (n := 7) (zs := [.bool false, .int .i64 0, .int .i64 0]) (cs := cntC (List.replicate 7 ⟨false, 0, 0⟩)) rfl Try.underlying33 Tf.s87 Tf.z87 rfl Tf.i87 rfl rfl rfl rfl (by kernel_rfl) rfl trivial (fun bz Dz hDz hAz => ?_)
    have hMz := Froz.cnts (l := List.replicate 7 ⟨false, 0, 0⟩) (n := 7) (Or.inr ⟨bz, 7, rfl, by omega, hAz⟩) rfl (by omega)
    refine L.fieldAddr rfl Tf.f35_1 rfl rfl trivial ?_
    refine L.store rfl rfl rfl rfl Tf.s33 (.tail (Has.head)) (by simp) rfl (by simp [cell1]) trivial ?_
    refine L.nil ?_
    refine C.next ?_
    refine C.seq ?_
    refine C.region [(false,0),(false,1),(false,2)] rfl ?_
    refine L.makeSliceD (n := 10) (zs := [.int .i64 0]) (cs := ints (List.replicate 10 0)) rfl Try.underlying22 Tf.s3 Tf.z3 rfl Tf.i3 rfl rfl rfl rfl (by kernel_rfl) rfl trivial (fun by2 Dy hDy hAy => ?_)
    have hSy := Froz.ints (l := List.replicate 10 0) (n := 10) (Or.inr ⟨by2, 10, rfl, by omega, hAy⟩) rfl (by omega)
    refine L.fieldAddr rfl Tf.f35_0 rfl rfl trivial ?_
    refine L.store rfl rfl rfl rfl Tf.s22 (Has.head) (by simp) rfl (by simp [cell1]) trivial ?_
    refine L.nil ?_
    refine C.next ?_
    refine C.seq ?_
    have hN9 : Acc 87 3 (.slice (some ⟨bN, 0, none⟩) 2 kN) 2 (cntC [⟨false, 3, 2⟩, ⟨true, 3, -1⟩]) [(bN, .cells (cntC [⟨false, 3, 2⟩, ⟨true, 3, -1⟩] ++ jN).toArray 87 (0, 0))] := Or.inr ⟨bN, kN, jN, rfl, hNk, rfl, rfl, hN2⟩
    refine C.freeze (A := [(_, _), (_, _), (_, _), (_, _), (_, _), (_, _), (_, _)]) (ν := [(_, _)]) (B := _) hN9 rfl (fun D31 hD31 hFD31 => ?_)
    have hM9 : Acc 87 3 (.slice (some ⟨bM, 0, none⟩) 2 kM) 2 (cntC [⟨false, 6, 2⟩, ⟨true, 3, 3⟩]) [(bM, .cells (cntC [⟨false, 6, 2⟩, ⟨true, 3, 3⟩] ++ jM).toArray 87 (0, 0))] := Or.inr ⟨bM, kM, jM, rfl, hMk, rfl, rfl, hM2⟩
    refine C.freeze (A := [(_, _), (_, _), (_, _), (_, _), (_, _), (_, _), (_, _), _]) (ν := [(_, _)]) (B := _) hM9 rfl (fun D32 hD32 hFD32 => ?_)
    have hP9 : Acc 3 1 (.slice (some ⟨bP, 0, none⟩) 5 kP) 5 (ints [3, 2, 1, 2, 2]) [(bP, .cells (ints [3, 2, 1, 2, 2] ++ jP).toArray 3 (0, 0))] := Or.inr ⟨bP, kP, jP, rfl, hPk, rfl, rfl, hP2⟩
    refine C.freeze (A := [(_, _), (_, _), (_, _), (_, _), (_, _), (_, _), (_, _), _, _]) (ν := [(_, _)]) (B := _) hP9 rfl (fun D33 hD33 hFD33 => ?_)
    have hNz := hFD31.cnts (l := [⟨false, 3, 2⟩, ⟨true, 3, -1⟩]) rfl (by omega)
    have hMz9 := hFD32.cnts (l := [⟨false, 6, 2⟩, ⟨true, 3, 3⟩]) rfl (by omega)
    have hPz := hFD33.ints (l := [3, 2, 1, 2, 2]) rfl (by omega)
    refine C.region [(false,0),(false,1),(false,2),(false,3),(false,4),(false,5),(false,6),(false,7),(false,8),(false,9),(false,10),(false,11),(false,12),(false,13),(false,14),(false,15),(false,16),(false,17),(false,18),(false,19),(false,20),(false,21),(false,22),(false,23),(false,24),(false,25),(false,26),(false,27),(false,28),(false,29),(false,30),(false,31),(false,32),(false,33),(false,34),(false,35),(false,36),(false,37),(false,38),(false,39),(false,40),(false,41),(false,42),(false,43),(false,44),(false,45),(false,46),(false,47),(false,48),(false,49),(false,50),(false,51),(false,52),(false,53),(false,54),(false,55),(false,56),(false,57),(false,58),(false,59),(false,60),(false,61),(false,62),(false,63),(false,64),(false,65),(false,66),(false,67),(false,68),(false,69)] rfl ?_
    refine L.move rfl rfl rfl trivial ?_
    refine L.eql rfl rfl rfl rfl trivial ?_
    refine L.move rfl rfl rfl trivial ?_
    refine' L.and [(false,3),(false,4),(false,5)] [(false,6),(false,7),(false,8),(false,9),(false,10),(false,11),(false,12),(false,13),(false,14),(false,15),(false,16),(false,17),(false,18),(false,19),(false,20),(false,21),(false,22),(false,23),(false,24),(false,25),(false,26),(false,27),(false,28),(false,29),(false,30),(false,31),(false,32),(false,33),(false,34),(false,35),(false,36),(false,37),(false,38),(false,39),(false,40),(false,41),(false,42),(false,43),(false,44),(false,45),(false,46),(false,47),(false,48),(false,49),(false,50),(false,51),(false,52),(false,53),(false,54),(false,55),(false,56),(false,57),(false,58),(false,59),(false,60),(false,61),(false,62),(false,63),(false,64),(false,65),(false,66),(false,67),(false,68),(false,69)] (s := 220) (p := 223) rfl rfl (fun hg19 => ?_) (fun hg19 => ?_) ?_
    rotate_left
    · refine L.move rfl rfl rfl ⟨_, rfl, rfl⟩ ?_
      refine L.eql rfl rfl rfl rfl ⟨_, rfl, rfl⟩ ?_
      refine L.pickT rfl rfl rfl rfl trivial ?_
      exact L.nil fun a w hh => hh.cutK 2 rfl
    · refine L.pass rfl rfl rfl ⟨_, _, rfl, rfl, rfl⟩ ?_
      refine L.pass rfl rfl rfl ⟨_, _, rfl, rfl, rfl⟩ ?_
      refine L.pickF rfl rfl rfl rfl trivial ?_
      exact L.nil fun a w hh => hh.cutK 2 rfl
    refine L.move rfl rfl rfl trivial ?_
    refine' L.and [(false,7),(false,8),(false,9)] [(false,10),(false,11),(false,12),(false,13),(false,14),(false,15),(false,16),(false,17),(false,18),(false,19),(false,20),(false,21),(false,22),(false,23),(false,24),(false,25),(false,26),(false,27),(false,28),(false,29),(false,30),(false,31),(false,32),(false,33),(false,34),(false,35),(false,36),(false,37),(false,38),(false,39),(false,40),(false,41),(false,42),(false,43),(false,44),(false,45),(false,46),(false,47),(false,48),(false,49),(false,50),(false,51),(false,52),(false,53),(false,54),(false,55),(false,56),(false,57),(false,58),(false,59),(false,60),(false,61),(false,62),(false,63),(false,64),(false,65),(false,66),(false,67),(false,68),(false,69)] (s := 224) (p := 227) rfl rfl (fun hg20 => ?_) (fun hg20 => ?_) ?_
    rotate_left
    · refine L.move rfl rfl rfl ⟨_, rfl, rfl⟩ ?_
      refine L.eql rfl rfl rfl rfl ⟨_, rfl, rfl⟩ ?_
      refine L.pickT rfl rfl rfl rfl trivial ?_
      exact L.nil fun a w hh => hh.cutK 2 rfl
    · refine L.pass rfl rfl rfl ⟨_, _, rfl, rfl, rfl⟩ ?_
      refine L.pass rfl rfl rfl ⟨_, _, rfl, rfl, rfl⟩ ?_
      refine L.pickF rfl rfl rfl rfl trivial ?_
      exact L.nil fun a w hh => hh.cutK 2 rfl
    refine L.move rfl rfl rfl trivial ?_
    refine' L.and [(false,11),(false,12),(false,13)] [(false,14),(false,15),(false,16),(false,17),(false,18),(false,19),(false,20),(false,21),(false,22),(false,23),(false,24),(false,25),(false,26),(false,27),(false,28),(false,29),(false,30),(false,31),(false,32),(false,33),(false,34),(false,35),(false,36),(false,37),(false,38),(false,39),(false,40),(false,41),(false,42),(false,43),(false,44),(false,45),(false,46),(false,47),(false,48),(false,49),(false,50),(false,51),(false,52),(false,53),(false,54),(false,55),(false,56),(false,57),(false,58),(false,59),(false,60),(false,61),(false,62),(false,63),(false,64),(false,65),(false,66),(false,67),(false,68),(false,69)] (s := 228) (p := 231) rfl rfl (fun hg21 => ?_) (fun hg21 => ?_) ?_
    rotate_left
    · refine L.move rfl rfl rfl ⟨_, rfl, rfl⟩ ?_
      refine L.eql rfl rfl rfl rfl ⟨_, rfl, rfl⟩ ?_
      refine L.pickT rfl rfl rfl rfl trivial ?_
      exact L.nil fun a w hh => hh.cutK 2 rfl
    · refine L.pass rfl rfl rfl ⟨_, _, rfl, rfl, rfl⟩ ?_
      refine L.pass rfl rfl rfl ⟨_, _, rfl, rfl, rfl⟩ ?_
      refine L.pickF rfl rfl rfl rfl trivial ?_
      exact L.nil fun a w hh => hh.cutK 2 rfl
    refine L.move rfl rfl rfl trivial ?_
    refine' L.and [(false,15),(false,16),(false,17)] [(false,18),(false,19),(false,20),(false,21),(false,22),(false,23),(false,24),(false,25),(false,26),(false,27),(false,28),(false,29),(false,30),(false,31),(false,32),(false,33),(false,34),(false,35),(false,36),(false,37),(false,38),(false,39),(false,40),(false,41),(false,42),(false,43),(false,44),(false,45),(false,46),(false,47),(false,48),(false,49),(false,50),(false,51),(false,52),(false,53),(false,54),(false,55),(false,56),(false,57),(false,58),(false,59),(false,60),(false,61),(false,62),(false,63),(false,64),(false,65),(false,66),(false,67),(false,68),(false,69)] (s := 232) (p := 235) rfl rfl (fun hg22 => ?_) (fun hg22 => ?_) ?_
    rotate_left
    · refine L.move rfl rfl rfl ⟨_, rfl, rfl⟩ ?_
      refine L.eql rfl rfl rfl rfl ⟨_, rfl, rfl⟩ ?_
      refine L.pickT rfl rfl rfl rfl trivial ?_
      exact L.nil fun a w hh => hh.cutK 2 rfl
    · refine L.pass rfl rfl rfl ⟨_, _, rfl, rfl, rfl⟩ ?_
      refine L.pass rfl rfl rfl ⟨_, _, rfl, rfl, rfl⟩ ?_
      refine L.pickF rfl rfl rfl rfl trivial ?_
      exact L.nil fun a w hh => hh.cutK 2 rfl
    refine L.move rfl rfl rfl trivial ?_
    refine' L.and [(false,19),(false,20),(false,21)] [(false,22),(false,23),(false,24),(false,25),(false,26),(false,27),(false,28),(false,29),(false,30),(false,31),(false,32),(false,33),(false,34),(false,35),(false,36),(false,37),(false,38),(false,39),(false,40),(false,41),(false,42),(false,43),(false,44),(false,45),(false,46),(false,47),(false,48),(false,49),(false,50),(false,51),(false,52),(false,53),(false,54),(false,55),(false,56),(false,57),(false,58),(false,59),(false,60),(false,61),(false,62),(false,63),(false,64),(false,65),(false,66),(false,67),(false,68),(false,69)] (s := 236) (p := 239) rfl rfl (fun hg23 => ?_) (fun hg23 => ?_) ?_
    rotate_left
    · refine L.move rfl rfl rfl ⟨_, rfl, rfl⟩ ?_
      refine L.eql rfl rfl rfl rfl ⟨_, rfl, rfl⟩ ?_
      refine L.pickT rfl rfl rfl rfl trivial ?_
      exact L.nil fun a w hh => hh.cutK 2 rfl
    · refine L.pass rfl rfl rfl ⟨_, _, rfl, rfl, rfl⟩ ?_
      refine L.pass rfl rfl rfl ⟨_, _, rfl, rfl, rfl⟩ ?_
      refine L.pickF rfl rfl rfl rfl trivial ?_
      exact L.nil fun a w hh => hh.cutK 2 rfl
    refine L.move rfl rfl rfl trivial ?_
    refine' L.and [(false,23),(false,24),(false,25)] [(false,26),(false,27),(false,28),(false,29),(false,30),(false,31),(false,32),(false,33),(false,34),(false,35),(false,36),(false,37),(false,38),(false,39),(false,40),(false,41),(false,42),(false,43),(false,44),(false,45),(false,46),(false,47),(false,48),(false,49),(false,50),(false,51),(false,52),(false,53),(false,54),(false,55),(false,56),(false,57),(false,58),(false,59),(false,60),(false,61),(false,62),(false,63),(false,64),(false,65),(false,66),(false,67),(false,68),(false,69)] (s := 240) (p := 243) rfl rfl (fun hg24 => ?_) (fun hg24 => ?_) ?_
    rotate_left
    · refine L.move rfl rfl rfl ⟨_, rfl, rfl⟩ ?_
      refine L.eql rfl rfl rfl rfl ⟨_, rfl, rfl⟩ ?_
      refine L.pickT rfl rfl rfl rfl trivial ?_
      exact L.nil fun a w hh => hh.cutK 2 rfl
    · refine L.pass rfl rfl rfl ⟨_, _, rfl, rfl, rfl⟩ ?_
      refine L.pass rfl rfl rfl ⟨_, _, rfl, rfl, rfl⟩ ?_
      refine L.pickF rfl rfl rfl rfl trivial ?_
      exact L.nil fun a w hh => hh.cutK 2 rfl
    refine L.move rfl rfl rfl trivial ?_
    refine' L.and [(false,27),(false,28),(false,29),(false,30)] [(false,31),(false,32),(false,33),(false,34),(false,35),(false,36),(false,37),(false,38),(false,39),(false,40),(false,41),(false,42),(false,43),(false,44),(false,45),(false,46),(false,47),(false,48),(false,49),(false,50),(false,51),(false,52),(false,53),(false,54),(false,55),(false,56),(false,57),(false,58),(false,59),(false,60),(false,61),(false,62),(false,63),(false,64),(false,65),(false,66),(false,67),(false,68),(false,69)] (s := 244) (p := 248) rfl rfl (fun hg25 => ?_) (fun hg25 => ?_) ?_
    rotate_left
    · refine L.loadBW rfl Tf.a35 rfl (List.Mem.tail _ (List.Mem.tail _ (List.Mem.tail _ (List.Mem.tail _ (List.Mem.tail _ (List.Mem.tail _ (List.Mem.head _))))))) Tf.s35 List.not_mem_nil rfl ⟨_, rfl, rfl⟩ ?_
      refine L.callV rfl rfl rfl (fun D56 hD56 => CheckRow_ok _ ⟨[3, 2, 1, 2, 2], [⟨false, 3, 2⟩, ⟨true, 3, 3⟩], 0, 1⟩ _ ⟨_, _, rfl, hPz.up RI.up (hD56 _ (by simp)), hPc.up RC.up (hD56 _ (by simp))⟩) rfl ⟨_, rfl, rfl⟩ ?_
      refine L.eql rfl rfl rfl rfl ⟨_, rfl, rfl⟩ ?_
      refine L.pickT rfl rfl rfl rfl trivial ?_
      exact L.nil fun a w hh => hh.cutK 3 rfl
    · refine L.pass rfl rfl rfl ⟨_, _, rfl, rfl, rfl⟩ ?_
      refine L.pass rfl rfl rfl ⟨_, _, rfl, rfl, rfl⟩ ?_
      refine L.pass rfl rfl rfl ⟨_, _, rfl, rfl, rfl⟩ ?_
      refine L.pickF rfl rfl rfl rfl trivial ?_
      exact L.nil fun a w hh => hh.cutK 3 rfl
    refine L.move rfl rfl rfl trivial ?_
    refine' L.and [(false,32),(false,33),(false,34),(false,35)] [(false,36),(false,37),(false,38),(false,39),(false,40),(false,41),(false,42),(false,43),(false,44),(false,45),(false,46),(false,47),(false,48),(false,49),(false,50),(false,51),(false,52),(false,53),(false,54),(false,55),(false,56),(false,57),(false,58),(false,59),(false,60),(false,61),(false,62),(false,63),(false,64),(false,65),(false,66),(false,67),(false,68),(false,69)] (s := 249) (p := 253) rfl rfl (fun hg26 => ?_) (fun hg26 => ?_) ?_
    rotate_left
    · refine L.loadBW rfl Tf.a35 rfl (List.Mem.tail _ (List.Mem.tail _ (List.Mem.tail _ (List.Mem.tail _ (List.Mem.tail _ (List.Mem.head _)))))) Tf.s35 List.not_mem_nil rfl ⟨_, rfl, rfl⟩ ?_
      refine L.callV rfl rfl rfl (fun D57 hD57 => CheckRow_ok _ (endsD 7 []) _ ⟨_, _, rfl, hWp.up RI.up (hD57 _ (by simp)), hWc.up RC.up (hD57 _ (by simp))⟩) rfl ⟨_, rfl, rfl⟩ ?_
      refine L.eql rfl rfl rfl rfl ⟨_, rfl, rfl⟩ ?_
      refine L.pickT rfl rfl rfl rfl trivial ?_
      exact L.nil fun a w hh => hh.cutK 3 rfl
    · refine L.pass rfl rfl rfl ⟨_, _, rfl, rfl, rfl⟩ ?_
      refine L.pass rfl rfl rfl ⟨_, _, rfl, rfl, rfl⟩ ?_
      refine L.pass rfl rfl rfl ⟨_, _, rfl, rfl, rfl⟩ ?_
      refine L.pickF rfl rfl rfl rfl trivial ?_
      exact L.nil fun a w hh => hh.cutK 3 rfl
    refine L.move rfl rfl rfl trivial ?_
    refine' L.and [(false,37),(false,38),(false,39),(false,40)] [(false,41),(false,42),(false,43),(false,44),(false,45),(false,46),(false,47),(false,48),(false,49),(false,50),(false,51),(false,52),(false,53),(false,54),(false,55),(false,56),(false,57),(false,58),(false,59),(false,60),(false,61),(false,62),(false,63),(false,64),(false,65),(false,66),(false,67),(false,68),(false,69)] (s := 254) (p := 258) rfl rfl (fun hg27 => ?_) (fun hg27 => ?_) ?_
    rotate_left
    · refine L.loadBW rfl Tf.a35 rfl (List.Mem.tail _ (List.Mem.tail _ (List.Mem.tail _ (List.Mem.tail _ (List.Mem.head _))))) Tf.s35 List.not_mem_nil rfl ⟨_, rfl, rfl⟩ ?_
      refine L.callV rfl rfl rfl (fun D58 hD58 => CheckRow_ok _ ⟨[2, 2, 1, 2, 2], [⟨false, 3, 2⟩, ⟨true, 3, 3⟩], 0, 10⟩ _ ⟨_, _, rfl, hOp.up RI.up (hD58 _ (by simp)), hOc.up RC.up (hD58 _ (by simp))⟩) rfl ⟨_, rfl, rfl⟩ ?_
      refine L.eql rfl rfl rfl rfl ⟨_, rfl, rfl⟩ ?_
      refine L.pickT rfl rfl rfl rfl trivial ?_
      exact L.nil fun a w hh => hh.cutK 3 rfl
    · refine L.pass rfl rfl rfl ⟨_, _, rfl, rfl, rfl⟩ ?_
      refine L.pass rfl rfl rfl ⟨_, _, rfl, rfl, rfl⟩ ?_
      refine L.pass rfl rfl rfl ⟨_, _, rfl, rfl, rfl⟩ ?_
      refine L.pickF rfl rfl rfl rfl trivial ?_
      exact L.nil fun a w hh => hh.cutK 3 rfl
    refine L.move rfl rfl rfl trivial ?_
    refine' L.and [(false,42),(false,43),(false,44),(false,45)] [(false,46),(false,47),(false,48),(false,49),(false,50),(false,51),(false,52),(false,53),(false,54),(false,55),(false,56),(false,57),(false,58),(false,59),(false,60),(false,61),(false,62),(false,63),(false,64),(false,65),(false,66),(false,67),(false,68),(false,69)] (s := 259) (p := 263) rfl rfl (fun hg28 => ?_) (fun hg28 => ?_) ?_
    rotate_left
    · refine L.loadBW rfl Tf.a35 rfl (List.Mem.tail _ (List.Mem.tail _ (List.Mem.tail _ (List.Mem.head _)))) Tf.s35 List.not_mem_nil rfl ⟨_, rfl, rfl⟩ ?_
      refine L.callV rfl rfl rfl (fun D59 hD59 => CheckRow_ok _ ⟨[2, 2, 1, 2, 2], [⟨false, 6, 2⟩, ⟨true, 3, 3⟩], 0, 1⟩ _ ⟨_, _, rfl, hMp.up RI.up (hD59 _ (by simp)), hMz9.up RC.up (hD59 _ (by simp))⟩) rfl ⟨_, rfl, rfl⟩ ?_
      refine L.eql rfl rfl rfl rfl ⟨_, rfl, rfl⟩ ?_
      refine L.pickT rfl rfl rfl rfl trivial ?_
      exact L.nil fun a w hh => hh.cutK 3 rfl
    · refine L.pass rfl rfl rfl ⟨_, _, rfl, rfl, rfl⟩ ?_
      refine L.pass rfl rfl rfl ⟨_, _, rfl, rfl, rfl⟩ ?_
      refine L.pass rfl rfl rfl ⟨_, _, rfl, rfl, rfl⟩ ?_
      refine L.pickF rfl rfl rfl rfl trivial ?_
      exact L.nil fun a w hh => hh.cutK 3 rfl
    refine L.move rfl rfl rfl trivial ?_
    refine' L.and [(false,47),(false,48),(false,49),(false,50)] [(false,51),(false,52),(false,53),(false,54),(false,55),(false,56),(false,57),(false,58),(false,59),(false,60),(false,61),(false,62),(false,63),(false,64),(false,65),(false,66),(false,67),(false,68),(false,69)] (s := 264) (p := 268) rfl rfl (fun hg29 => ?_) (fun hg29 => ?_) ?_
    rotate_left
    · refine L.loadBW rfl Tf.a35 rfl (List.Mem.tail _ (List.Mem.tail _ (List.Mem.head _))) Tf.s35 List.not_mem_nil rfl ⟨_, rfl, rfl⟩ ?_
      refine L.callV rfl rfl rfl (fun D60 hD60 => CheckRow_ok _ ⟨[2, 2, 1, 2, 2], [⟨false, 3, 2⟩, ⟨true, 3, -1⟩], 0, 1⟩ _ ⟨_, _, rfl, hNp.up RI.up (hD60 _ (by simp)), hNz.up RC.up (hD60 _ (by simp))⟩) rfl ⟨_, rfl, rfl⟩ ?_
      refine L.eql rfl rfl rfl rfl ⟨_, rfl, rfl⟩ ?_
      refine L.pickT rfl rfl rfl rfl trivial ?_
      exact L.nil fun a w hh => hh.cutK 3 rfl
    · refine L.pass rfl rfl rfl ⟨_, _, rfl, rfl, rfl⟩ ?_
      refine L.pass rfl rfl rfl ⟨_, _, rfl, rfl, rfl⟩ ?_
      refine L.pass rfl rfl rfl ⟨_, _, rfl, rfl, rfl⟩ ?_
      refine L.pickF rfl rfl rfl rfl trivial ?_
      exact L.nil fun a w hh => hh.cutK 3 rfl
    refine L.move rfl rfl rfl trivial ?_
    refine' L.and [(false,52),(false,53),(false,54),(false,55)] [(false,56),(false,57),(false,58),(false,59),(false,60),(false,61),(false,62),(false,63),(false,64),(false,65),(false,66),(false,67),(false,68),(false,69)] (s := 269) (p := 273) rfl rfl (fun hg30 => ?_) (fun hg30 => ?_) ?_
    rotate_left
    · refine L.loadBW rfl Tf.a35 rfl (List.Mem.tail _ (List.Mem.head _)) Tf.s35 List.not_mem_nil rfl ⟨_, rfl, rfl⟩ ?_
      refine L.callV rfl rfl rfl (fun D61 hD61 => CheckRow_ok _ ⟨[2, 2, 1, 2, 2], List.replicate 7 ⟨false, 0, 0⟩, 0, 1⟩ _ ⟨_, _, rfl, hCp.up RI.up (hD61 _ (by simp)), hMz.up RC.up (hD61 _ (by simp))⟩) rfl ⟨_, rfl, rfl⟩ ?_
      refine L.eql rfl rfl rfl rfl ⟨_, rfl, rfl⟩ ?_
      refine L.pickT rfl rfl rfl rfl trivial ?_
      exact L.nil fun a w hh => hh.cutK 3 rfl
    · refine L.pass rfl rfl rfl ⟨_, _, rfl, rfl, rfl⟩ ?_
      refine L.pass rfl rfl rfl ⟨_, _, rfl, rfl, rfl⟩ ?_
      refine L.pass rfl rfl rfl ⟨_, _, rfl, rfl, rfl⟩ ?_
      refine L.pickF rfl rfl rfl rfl trivial ?_
      exact L.nil fun a w hh => hh.cutK 3 rfl
    refine L.move rfl rfl rfl trivial ?_
    refine' L.and [(false,57),(false,58),(false,59),(false,60)] [(false,61),(false,62),(false,63),(false,64),(false,65),(false,66),(false,67),(false,68),(false,69)] (s := 274) (p := 278) rfl rfl (fun hg31 => ?_) (fun hg31 => ?_) ?_
    rotate_left
    · refine L.loadBW rfl Tf.a35 rfl (List.Mem.head _) Tf.s35 List.not_mem_nil rfl ⟨_, rfl, rfl⟩ ?_
      refine L.callV rfl rfl rfl (fun D62 hD62 => CheckRow_ok _ ⟨List.replicate 10 0, [⟨false, 3, 2⟩, ⟨true, 3, 3⟩], 0, 1⟩ _ ⟨_, _, rfl, hSy.up RI.up (hD62 _ (by simp)), hLc.up RC.up (hD62 _ (by simp))⟩) rfl ⟨_, rfl, rfl⟩ ?_
      refine L.eql rfl rfl rfl rfl ⟨_, rfl, rfl⟩ ?_
      refine L.pickT rfl rfl rfl rfl trivial ?_
      exact L.nil fun a w hh => hh.cutK 3 rfl
    · refine L.pass rfl rfl rfl ⟨_, _, rfl, rfl, rfl⟩ ?_
      refine L.pass rfl rfl rfl ⟨_, _, rfl, rfl, rfl⟩ ?_
      refine L.pass rfl rfl rfl ⟨_, _, rfl, rfl, rfl⟩ ?_
      refine L.pickF rfl rfl rfl rfl trivial ?_
      exact L.nil fun a w hh => hh.cutK 3 rfl
    refine L.move rfl rfl rfl trivial ?_
    refine' L.and [(false,62),(false,63),(false,64),(false,65)] [(false,66),(false,67),(false,68),(false,69)] (s := 279) (p := 283) rfl rfl (fun hg32 => ?_) (fun hg32 => ?_) ?_
    rotate_left
    · refine L.build (cs := [.slice none 0 0, .slice none 0 0, .int .i64 0, .int .i64 0]) rfl Tf.p35 Tf.z35 rfl rfl rfl ⟨_, rfl, rfl⟩ ?_
      refine L.callV rfl rfl rfl (fun D63 hD63 => CheckRow_ok _ ⟨[], [], 0, 0⟩ _ ⟨_, _, rfl, Sl.nil, Sl.nil⟩) rfl ⟨_, rfl, rfl⟩ ?_
      refine L.eql rfl rfl rfl rfl ⟨_, rfl, rfl⟩ ?_
      refine L.pickT rfl rfl rfl rfl trivial ?_
      exact L.nil fun a w hh => hh.cutK 3 rfl
    · refine L.pass rfl rfl rfl ⟨_, _, rfl, rfl, rfl⟩ ?_
      refine L.pass rfl rfl rfl ⟨_, _, rfl, rfl, rfl⟩ ?_
      refine L.pass rfl rfl rfl ⟨_, _, rfl, rfl, rfl⟩ ?_
      refine L.pickF rfl rfl rfl rfl trivial ?_
      exact L.nil fun a w hh => hh.cutK 3 rfl
    refine L.move rfl rfl rfl trivial ?_
    refine' L.and [(false,67),(false,68)] [(false,69)] (s := 284) (p := 286) rfl rfl (fun hg33 => ?_) (fun hg33 => ?_) ?_
    rotate_left
    · refine L.callV rfl rfl rfl (fun D64 hD64 => awake_ok _) rfl ⟨_, rfl, rfl⟩ ?_
      refine L.pickT rfl rfl rfl rfl trivial ?_
      exact L.nil fun a w hh => hh.cutK 1 rfl
    · refine L.pass rfl rfl rfl ⟨_, _, rfl, rfl, rfl⟩ ?_
      refine L.pickF rfl rfl rfl rfl trivial ?_
      exact L.nil fun a w hh => hh.cutK 1 rfl
    refine L.assign rfl rfl rfl trivial ?_
    refine L.nil ?_
    refine C.next ?_
    refine C.ret ?_
    exact leave (vs := [_]) rfl rfl rfl ⟨rfl, trivial⟩ (fun D hD => congrArg Value.bool (by decide +kernel))
end Go.Fs
