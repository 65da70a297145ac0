/- Walks: the truths at a place, the first look, the least number of wrong counts. -/
import Derived.Test.YtgnnlghoadfffaaW5
namespace Go.Fs
open Go.Proofs
open C1
theorem split_ok (sv : Value) (ts : List (List Int)) (p : Nat) (D : Data) (hS : Sl D RT 9 sv ts) (hlen : ts.length ≤ 10000) (hall : ∀ t ∈ ts, t.length ≤ 9 ∧ ∀ x ∈ t, 0 ≤ x ∧ x ≤ 1) (hp9l : p < 9) :
    Fn Try.prog 74 #[sv, .int .i64 (p : Int)] D (fun D' v => ∃ v0 v1, v = .agg #[v0, v1] ∧ Sl D' RT 9 v0 (seenT ts p 0) ∧ Sl D' RT 9 v1 (seenT ts p 1)) := by
  have hl := hS.len
  refine enter 27 Try.func74 rfl rfl rfl rfl fun h0 => ?_
  refine C.seq ?_
  refine C.region [(false,0)] rfl ?_
  refine L.alloc rfl Tf.z111 rfl rfl trivial (fun q1 => ?_)
  refine L.nil ?_
  refine C.next ?_
  refine C.seq ?_
  refine C.seq ?_
  refine C.region [(false,0),(false,1),(false,2)] rfl ?_
  refine L.move rfl rfl rfl trivial ?_
  refine L.len rfl Try.underlying100 rfl (by assumption) rfl rfl trivial ?_
  refine L.move rfl rfl rfl trivial ?_
  refine L.nil ?_
  refine C.next ?_
  refine C.block ?_
  refine C.loopR (γ := Nat × Value × Boxes × Value × Boxes) (fun g => ts.length - g.1) (fun g => g.1 ≤ ts.length ∧ Acc 121 9 g.2.1 (seenT (ts.take g.1) p 0).length ((seenT (ts.take g.1) p 0).flatMap fun t => ints (pad9 t)) g.2.2.1 ∧ Acc 121 9 g.2.2.2.1 (seenT (ts.take g.1) p 1).length ((seenT (ts.take g.1) p 1).flatMap fun t => ints (pad9 t)) g.2.2.2.2) (fun g => [(9, .int .i64 (g.1 : Int))]) [(8, _), (7, _), (4, _), (1, _)] (fun g => (q1, .cells [g.2.1, g.2.2.2.1].toArray 111 (0, 0)) :: (g.2.2.1 ++ (g.2.2.2.2 ++ []))) (fun g => [D]) (0, .slice none 0 0, [], .slice none 0 0, []) ⟨by simp, by simpa [seenT] using Acc.nil, by simpa [seenT] using Acc.nil⟩ ⟨(by first | rfl | (show some (Value.int _ _) = some (Value.int _ _); congr 2; omega)), trivial⟩ ⟨rfl, rfl, rfl, rfl, trivial⟩ (List.Sublist.refl _) (ds_same) ?_
  rintro ⟨k, v0, ν0, v1, ν1⟩ ⟨h1, ha0, ha1⟩
  simp only at h1 ha0 ha1
  refine C.seq ?_
  refine C.region [(false,0)] rfl ?_
  refine L.lss rfl rfl rfl rfl trivial ?_
  refine L.nil ?_
  refine C.next ?_
  refine C.seq ?_
  refine C.condD rfl (fun hc1 => ?_) (fun hc1 => ?_)
  · have hkk : k < ts.length := by omega
    obtain ⟨t, ht⟩ : ∃ t, ts[k]? = some t := ⟨_, List.getElem?_eq_getElem hkk⟩
    have htm := List.mem_of_getElem? ht
    obtain ⟨htl, htb⟩ := hall t htm
    have hp9 := pad9_length htl
    refine C.skip ?_
    refine C.next ?_
    refine C.seq ?_
    refine C.block ?_
    refine C.seq ?_
    refine C.region [(false,0),(false,1),(false,2),(false,3)] rfl ?_
    refine L.indexS rfl Try.underlying100 Tf.s121 rfl hS rfl (by omega) ht rfl trivial (fun b1 o1 cs1 hr1 hcl1 hA1 => ?_)
    obtain rfl : cs1 = ints (pad9 _) := hr1
    refine L.loadDW rfl Tf.a121 rfl hA1 (by first | simp | assumption) (by first | exact Tf.s121 | (simp only [*]; exact Tf.s121)) List.not_mem_nil rfl trivial ?_
    refine L.alloc rfl Tf.z121 rfl rfl trivial (fun q2 => ?_)
    refine L.storeW rfl rfl rfl rfl Tf.s121 (by first | rfl | (simp only [*]; done) | (simp only [ints_length, *]; rfl) | (simp only [ints_length, *]; omega)) (by first | rfl | (simp only [ints_length, *]; done) | (simp only [ints_length, *]; rfl) | (simp only [ints_length, *]; omega)) (Has.head) (by first | exact ints_cell1 _ | simp [cell1]) trivial ?_
    refine L.nil ?_
    refine C.next ?_
    rcases getD_bit htb p with hbit | hbit
    · have hg := pad9_get (i := p) hp9l htl
      rw [hbit] at hg
      refine C.nd (fun hnd => ?_)
      simp only [List.map_cons, List.map_append, List.nodup_cons, List.nodup_append, List.mem_cons, List.mem_append, not_or] at hnd
      have hq2 := hnd.1.2.1
      have hq1 := hnd.2.1.1
      refine C.draw (ν0.map (·.1)) 2 [0,1,2,3,4,5,6,7,8,9,10,11,12] [false,false,false,true,true,true,true,true,true,true,true,false,false] [(false,0),(false,1),(false,2),(true,3),(true,4),(true,5),(true,6),(true,7),(true,8),(true,9),(true,10),(false,11),(false,12)] Tf.follows (fun _ _ _ h => np_body (P := Try.prog) (fn := Try.f74) _ _ _ h) (by kernel_rfl) rfl ?_
      refine L.move rfl rfl rfl trivial ?_
      refine L.indexB rfl Try.underlying121 Tf.s3 rfl rfl (by omega) (by omega) rfl trivial ?_
      refine L.loadB1 rfl Tf.a3 rfl (List.Mem.head _) (ints_get hg) (by first | assumption | simp) rfl trivial ?_
      refine L.move rfl rfl rfl trivial ?_
      refine L.indexB rfl Try.underlying121 Tf.s3 rfl rfl (by omega) (by omega) rfl trivial ?_
      refine L.loadB1 rfl Tf.a3 rfl (List.Mem.head _) (ints_get hg) (by first | assumption | simp) rfl trivial ?_
      refine L.indexB rfl Try.underlying111 Tf.s100 rfl rfl (by omega) (by omega) rfl trivial ?_
      refine L.loadB1 rfl Tf.a100 rfl (List.Mem.tail _ (List.Mem.head _)) rfl (by first | assumption | simp) rfl trivial ?_
      refine L.loadBW rfl Tf.a121 rfl (List.Mem.head _) (by first | exact Tf.s121 | (simp only [*]; exact Tf.s121)) (by first | assumption | simp) rfl trivial ?_
      refine L.buildSlice rfl Try.underlying100 Tf.s121 Tf.z121 rfl rfl rfl rfl (.cons rfl (by simpa using hp9) .nil) rfl trivial (fun b901 D901 hD901 hA901 => ?_)
      refine L.append (A := [(_, _), (_, _)]) (B := (ν1 ++ [])) rfl Try.underlying100 rfl rfl Tf.s121 Tf.z121 rfl Tf.i121 rfl rfl rfl ha0 (Src.lit hA901) (by simp) (by simp [hp9]) (flat_length (fun u hu => (hall u (List.mem_of_mem_take (seenT_mem hu))).1)) (by simpa using ints_cell1 _) (by have := seenT_length (ts.take k) p 0; have := List.length_take_le k ts; omega) (Or.inr (fun p hp => List.mem_map.2 ⟨p, hp, rfl⟩)) rfl trivial (fun v5 ν5 ha5 => ?_)
      refine L.boxesEq ((q2, _) :: (q1, _) :: (ν5 ++ (ν1 ++ []))) rfl ?_
      have hn1 : Acc 121 9 v5 (seenT (ts.take (k + 1)) p 0).length ((seenT (ts.take (k + 1)) p 0).flatMap fun t => ints (pad9 t)) ν5 := by rw [seenT_yes ht hbit, List.flatMap_append, List.flatMap_singleton]; simpa using ha5
      have hn2 : Acc 121 9 v1 (seenT (ts.take (k + 1)) p 1).length ((seenT (ts.take (k + 1)) p 1).flatMap fun t => ints (pad9 t)) ν1 := by rw [seenT_no ht (by omega)]; exact ha1
      refine L.indexB rfl Try.underlying111 Tf.s100 rfl rfl (by omega) (by omega) rfl trivial ?_
      refine L.store rfl rfl rfl ha5.cells1 Tf.s100 (.tail (Has.head)) (by simp) rfl ha5.cell1 trivial ?_
      refine L.nil ?_
      refine C.blockEnd ?_
      refine C.next ?_
      refine C.region [(false,0),(false,1)] rfl ?_
      refine L.add rfl rfl rfl (by simp only [inK]; omega) rfl trivial ?_
      refine L.move rfl rfl rfl trivial ?_
      refine L.nil ?_
      exact C.againR 19 (k + 1, v5, ν5, v1, ν1) ⟨by simp only; omega, hn1, hn2⟩ (by simp only; omega) ⟨(by first | rfl | (show some (Value.int _ _) = some (Value.int _ _); congr 2; omega)), trivial⟩ rfl rfl (List.Sublist.cons _ (List.Sublist.refl _)) (fun D h => ⟨D, List.Mem.tail _ (h), Le.refl D⟩)
    · have hg := pad9_get (i := p) hp9l htl
      rw [hbit] at hg
      refine C.nd (fun hnd => ?_)
      simp only [List.map_cons, List.map_append, List.nodup_cons, List.nodup_append, List.mem_cons, List.mem_append, not_or] at hnd
      have hq2 := hnd.1.2.2.1
      have hq1 := hnd.2.1.2.1
      refine C.draw (ν1.map (·.1)) 2 [0,1,2,3,4,5,6,7,8,9,10,11,12] [false,false,false,true,true,true,true,true,true,true,true,false,false] [(false,0),(false,1),(false,2),(true,3),(true,4),(true,5),(true,6),(true,7),(true,8),(true,9),(true,10),(false,11),(false,12)] Tf.follows (fun _ _ _ h => np_body (P := Try.prog) (fn := Try.f74) _ _ _ h) (by kernel_rfl) rfl ?_
      refine L.move rfl rfl rfl trivial ?_
      refine L.indexB rfl Try.underlying121 Tf.s3 rfl rfl (by omega) (by omega) rfl trivial ?_
      refine L.loadB1 rfl Tf.a3 rfl (List.Mem.head _) (ints_get hg) (by first | assumption | simp) rfl trivial ?_
      refine L.move rfl rfl rfl trivial ?_
      refine L.indexB rfl Try.underlying121 Tf.s3 rfl rfl (by omega) (by omega) rfl trivial ?_
      refine L.loadB1 rfl Tf.a3 rfl (List.Mem.head _) (ints_get hg) (by first | assumption | simp) rfl trivial ?_
      refine L.indexB rfl Try.underlying111 Tf.s100 rfl rfl (by omega) (by omega) rfl trivial ?_
      refine L.loadB1 rfl Tf.a100 rfl (List.Mem.tail _ (List.Mem.head _)) rfl (by first | assumption | simp) rfl trivial ?_
      refine L.loadBW rfl Tf.a121 rfl (List.Mem.head _) (by first | exact Tf.s121 | (simp only [*]; exact Tf.s121)) (by first | assumption | simp) rfl trivial ?_
      refine L.buildSlice rfl Try.underlying100 Tf.s121 Tf.z121 rfl rfl rfl rfl (.cons rfl (by simpa using hp9) .nil) rfl trivial (fun b902 D902 hD902 hA902 => ?_)
      refine L.boxesEq (((q2, _) :: (q1, _) :: ν0) ++ ν1 ++ []) boxes_assoc2 ?_
      refine L.append (A := ((_, _) :: (_, _) :: ν0)) (B := []) rfl Try.underlying100 rfl rfl Tf.s121 Tf.z121 rfl Tf.i121 rfl rfl rfl ha1 (Src.lit hA902) (by simp) (by simp [hp9]) (flat_length (fun u hu => (hall u (List.mem_of_mem_take (seenT_mem hu))).1)) (by simpa using ints_cell1 _) (by have := seenT_length (ts.take k) p 1; have := List.length_take_le k ts; omega) (Or.inr (fun p hp => List.mem_map.2 ⟨p, hp, rfl⟩)) rfl trivial (fun v5 ν5 ha5 => ?_)
      refine L.boxesEq ((q2, _) :: (q1, _) :: (ν0 ++ (ν5 ++ []))) boxes_assoc2.symm ?_
      have hn1 : Acc 121 9 v5 (seenT (ts.take (k + 1)) p 1).length ((seenT (ts.take (k + 1)) p 1).flatMap fun t => ints (pad9 t)) ν5 := by rw [seenT_yes ht hbit, List.flatMap_append, List.flatMap_singleton]; simpa using ha5
      have hn2 : Acc 121 9 v0 (seenT (ts.take (k + 1)) p 0).length ((seenT (ts.take (k + 1)) p 0).flatMap fun t => ints (pad9 t)) ν0 := by rw [seenT_no ht (by omega)]; exact ha0
      refine L.indexB rfl Try.underlying111 Tf.s100 rfl rfl (by omega) (by omega) rfl trivial ?_
      refine L.store rfl rfl rfl ha5.cells1 Tf.s100 (.tail (Has.head)) (by simp) rfl ha5.cell1 trivial ?_
      refine L.nil ?_
      refine C.blockEnd ?_
      refine C.next ?_
      refine C.region [(false,0),(false,1)] rfl ?_
      refine L.add rfl rfl rfl (by simp only [inK]; omega) rfl trivial ?_
      refine L.move rfl rfl rfl trivial ?_
      refine L.nil ?_
      exact C.againR 19 (k + 1, v0, ν0, v5, ν5) ⟨by simp only; omega, hn2, hn1⟩ (by simp only; omega) ⟨(by first | rfl | (show some (Value.int _ _) = some (Value.int _ _); congr 2; omega)), trivial⟩ rfl rfl (List.Sublist.cons _ (List.Sublist.refl _)) (fun D h => ⟨D, List.Mem.tail _ (h), Le.refl D⟩)
  · obtain rfl : k = ts.length := by omega
    rw [List.take_length] at ha0 ha1
    refine C.exit ?_
    refine C.thenExit ?_
    refine C.thenExit ?_
    refine C.blockExit ?_
    refine C.next ?_
    refine C.seq ?_
    refine C.region [(false,0),(false,1)] rfl ?_
    refine L.loadBW rfl Tf.a111 rfl (List.Mem.head _) (by first | exact Tf.s111 | (simp only [ints_length, *]; exact Tf.s111)) List.not_mem_nil rfl trivial ?_
    refine L.storeW rfl rfl rfl rfl Tf.s111 (by first | rfl | (simp only [ints_length, *]; done) | (simp only [ints_length, *]; rfl) | (simp only [ints_length, *]; omega)) (by first | rfl | (simp only [ints_length, *]; done) | (simp only [ints_length, *]; rfl) | (simp only [ints_length, *]; omega)) (Has.head) (cell1_two ha0.cell1 ha1.cell1) trivial ?_
    refine L.nil ?_
    refine C.next ?_
    refine C.ret ?_
    have hs0 := seenT_length ts p 0
    have hs1 := seenT_length ts p 1
    refine Q.freeze (A := [(q1, _)]) (B := ν1 ++ []) ha0 rfl (fun D2 hD2 hF0 => ?_)
    refine Q.freeze (A := [(q1, _)]) (ν := ν1) (B := []) ha1 rfl (fun D3 hD3 hF1 => ?_)
    exact leave (vs := [_]) rfl rfl rfl ⟨⟨_, _, _, rfl, (List.Mem.head _), Or.inr ⟨Tf.a111, Tf.s111, rfl⟩⟩, trivial⟩ (fun D hD => ⟨_, _, rfl, (hF0.truths rfl (by omega) (fun u hu => (hall u (seenT_mem hu)).1)).up RT.up (hD _ (by simp)), (hF1.truths rfl (by omega) (fun u hu => (hall u (seenT_mem hu)).1)).up RT.up (hD _ (by simp))⟩)
end Go.Fs
