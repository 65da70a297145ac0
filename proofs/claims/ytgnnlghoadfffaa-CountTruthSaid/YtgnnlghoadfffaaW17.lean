/- Walks: the law's Row, and parts. -/
import Derived.Test.YtgnnlghoadfffaaW16
namespace Go.Fs
open Go.Proofs
open C1
def cntC (l : List Cnt) : List Value := l.flatMap fun c => [.bool c.back, .int .i64 c.many, .int .i64 c.num]
theorem cntC_snoc (l : List Cnt) (c : Cnt) : cntC (l ++ [c]) = cntC l ++ [.bool c.back, .int .i64 c.many, .int .i64 c.num] := by simp [cntC]
theorem cntC_len (l : List Cnt) : (cntC l).length = l.length * 3 := by
  induction l with
  | nil => rfl
  | cons c l ih => unfold cntC at ih ⊢; rw [List.flatMap_cons, List.length_append, ih]; simp only [List.length_cons, List.length_nil]; omega
theorem cnt_len (l : List Cnt) (n : Nat) (h : l.length = n) : (cntC l).length = n * 3 := by rw [cntC_len, h]
theorem cntC_get {l : List Cnt} {i : Nat} {c : Cnt} (hi : l[i]? = some c) : ((cntC l).drop (i * 3)).take 3 = [.bool c.back, .int .i64 c.many, .int .i64 c.num] := by
  induction l generalizing i with
  | nil => simp at hi
  | cons d l ih =>
    unfold cntC at ih ⊢
    rw [List.flatMap_cons]
    cases i with
    | zero => obtain rfl : d = c := by simpa using hi
              rfl
    | succ i =>
      rw [List.drop_append, List.drop_eq_nil_of_le (by simp; omega), List.nil_append]
      have : (i + 1) * 3 - [Value.bool d.back, Value.int .i64 d.many, Value.int .i64 d.num].length = i * 3 := by simp; omega
      rw [this]; exact ih (by simpa using hi)
theorem Froz.cnts {D : Data} {v : Value} {n : Nat} {l : List Cnt} (hF : Froz D v n (cntC l)) (hn : l.length = n) (hb : n ≤ 9223372036854775807) : Sl D RC 3 v l :=
  hF.sl hn hb fun _i _t hi => ⟨_, rfl, rfl, cntC_get hi⟩
theorem cell1_row {a b : Value} {m n : Int} (ha : ∀ u ∈ [a], cell1 u = true) (hb : ∀ u ∈ [b], cell1 u = true) : ∀ u ∈ [a, b, .int .i64 m, .int .i64 n], cell1 u = true := by
  intro u hu
  simp only [List.mem_cons, List.not_mem_nil, or_false] at hu
  rcases hu with rfl | rfl | rfl | rfl
  · exact ha _ List.mem_cons_self
  · exact hb _ List.mem_cons_self
  · rfl
  · rfl
open C1
theorem Row_ok (rv : Value) (r : RowD) (D : Data) (hr : RowIs D rv r) (h1 : r.places.length ≤ 100) (h2 : r.counts.length ≤ 100) : Fn Try.prog 21 #[rv] D (fun D' v => RowIs D' v r) := by
  obtain ⟨pv, cv, rfl, hp, hc⟩ := hr
  have hlp := h1
  have hlc := h2
  refine enter 39 Try.func21 rfl rfl rfl rfl fun h0 => ?_
  refine C.seq ?_
  refine C.region [(false,0),(false,1)] rfl ?_
  refine L.boxD rfl rfl rfl rfl trivial (fun q1 E1 hE1 hB1 => ?_)
  refine L.alloc rfl Tf.z35 rfl rfl trivial (fun q2 => ?_)
  refine L.nil ?_
  refine C.next ?_
  refine C.seq ?_
  refine C.drawS [] 3 [false,false,true,true,true,true,true,false,true,false] [.fork [0,1,3,4,5,6] 2 (.fin [7,8]) 8 (.fin [2,7]), .fin [9]] Tf.follows (fun _ _ _ h => np_body (P := Try.prog) (fn := Try.f21) _ _ _ h) (by kernel_rfl) ?_
  refine S.cons ?_
  refine L.planFork [(false,0),(false,1),(true,3),(true,4),(true,5),(true,6)] rfl ?_
  refine L.fieldAddr rfl Tf.f25_0 rfl rfl trivial ?_
  refine L.loadD1 rfl (k := 0) Tf.a22 rfl hB1 (by first | simp | assumption) rfl List.not_mem_nil rfl trivial ?_
  refine L.fieldAddr rfl Tf.f25_2 rfl rfl trivial ?_
  refine L.loadD1 rfl (k := 2) Tf.a3 rfl hB1 (by first | simp | assumption) rfl List.not_mem_nil rfl trivial ?_
  refine L.fieldAddr rfl Tf.f25_3 rfl rfl trivial ?_
  refine L.loadD1 rfl (k := 3) Tf.a3 rfl hB1 (by first | simp | assumption) rfl List.not_mem_nil rfl trivial ?_
  refine L.nil (L.forkP true true rfl rfl ?_ ?_)
  · refine L.call rfl rfl rfl (fun D1 hD1 => list_ok _ r.places _ (hp.up RI.up (hD1 _ (by simp))) (by omega)) rfl trivial (fun v1 D1 hD1 hp1 => ?_)
    obtain ⟨va, vc, rfl, hvr⟩ := id hp1
    refine L.nil ?_
    refine L.planFin [(false,7),(true,8)] rfl ?_
    refine L.build (cs := [.slice va r.places.length vc, .slice none 0 0, .int .i64 r.wrong, .int .i64 r.off]) rfl Tf.p35 Tf.z35 rfl rfl rfl trivial ?_
    refine L.alloc rfl Tf.z35 rfl rfl trivial (fun q3 => ?_)
    refine L.nil ?_
    refine S.fin [(false,9)] rfl ?_
    refine L.storeW rfl rfl rfl rfl Tf.s35 (by first | rfl | (simp only [ints_length, *]; done) | (simp only [ints_length, *]; rfl) | (simp only [ints_length, *]; omega)) (by first | rfl | (simp only [ints_length, *]; done) | (simp only [ints_length, *]; rfl) | (simp only [ints_length, *]; omega)) (Has.head) (cell1_row hp1.cell1 (by simp [cell1])) trivial ?_
    refine L.nil ?_
    refine S.nil ?_
    refine C.next ?_
    refine C.seq ?_
    refine C.seq ?_
    refine C.region [(false,0)] rfl ?_
    refine L.assign rfl rfl rfl trivial ?_
    refine L.nil ?_
    refine C.next ?_
    refine C.block ?_
    refine C.loopR (γ := Nat × Value × Boxes) (fun g => r.counts.length - g.1) (fun g => g.1 ≤ r.counts.length ∧ Acc 87 3 g.2.1 g.1 (cntC (r.counts.take g.1)) g.2.2) (fun g => [(4, .int .i64 (g.1 : Int))]) [(3, _), (2, _), (1, _)] (fun g => (q3, .cells [.slice va r.places.length vc, g.2.1, .int .i64 r.wrong, .int .i64 r.off].toArray 35 (0, 0)) :: (q2, .cells [.slice none 0 0, .slice none 0 0, .int .i64 0, .int .i64 0].toArray 35 (0, 0)) :: (g.2.2 ++ [])) (fun g => [D1, E1, D]) (0, .slice none 0 0, []) ⟨by simp, by simpa [cntC] using Acc.nil⟩ ⟨(by first | rfl | (show some (Value.int _ _) = some (Value.int _ _); congr 2; omega)), trivial⟩ ⟨rfl, rfl, rfl, trivial⟩ (List.Sublist.refl _) (ds_same) ?_
    rintro ⟨k, v, ν⟩ ⟨hk1, ha⟩
    simp only at hk1 ha
    refine C.seq ?_
    refine C.seq ?_
    refine C.region [(false,0),(false,1),(false,2),(false,3),(false,4)] rfl ?_
    refine L.move rfl rfl rfl trivial ?_
    refine L.fieldAddr rfl Tf.f25_1 rfl rfl trivial ?_
    refine L.loadD1 rfl (k := 1) Tf.a23 rfl hB1 (by first | simp | assumption) rfl List.not_mem_nil rfl trivial ?_
    refine L.len rfl Try.underlying23 rfl (by assumption) rfl rfl trivial ?_
    refine L.lss rfl rfl rfl rfl trivial ?_
    refine L.nil ?_
    refine C.next ?_
    refine C.condD rfl (fun hc1 => ?_) (fun hc1 => ?_)
    · have hk : k < r.counts.length := by omega
      obtain ⟨x, hx⟩ : ∃ x, r.counts[k]? = some x := ⟨_, List.getElem?_eq_getElem hk⟩
      refine C.skip ?_
      refine C.next ?_
      refine C.seq ?_
      refine C.block ?_
      refine C.seq ?_
      refine C.region [(false,0),(false,1),(false,2),(false,3),(false,4),(false,5),(false,6)] rfl ?_
      refine L.fieldAddr rfl Tf.f25_1 rfl rfl trivial ?_
      refine L.loadD1 rfl (k := 1) Tf.a23 rfl hB1 (by first | simp | assumption) rfl List.not_mem_nil rfl trivial ?_
      refine L.move rfl rfl rfl trivial ?_
      refine L.indexS rfl Try.underlying23 Tf.s50 rfl hc rfl (by omega) hx rfl trivial (fun b1 o1 cs1 hr1 hcl1 hA1 => ?_)
      obtain rfl : cs1 = [.bool _, .int .i64 _, .int .i64 _] := hr1
      refine L.loadDW rfl Tf.a50 rfl hA1 (by first | simp | assumption) Tf.s50 List.not_mem_nil rfl trivial ?_
      refine L.alloc rfl Tf.z50 rfl rfl trivial (fun q4 => ?_)
      refine L.storeW rfl rfl rfl rfl Tf.s50 (by first | rfl | (simp only [ints_length, *]; done) | (simp only [ints_length, *]; rfl) | (simp only [ints_length, *]; omega)) (by first | rfl | (simp only [ints_length, *]; done) | (simp only [ints_length, *]; rfl) | (simp only [ints_length, *]; omega)) (Has.head) (by first | exact ints_cell1 _ | simp [cell1]) trivial ?_
      refine L.nil ?_
      refine C.next ?_
      refine C.region [(false,0),(false,1),(false,2),(false,3),(false,4),(false,5),(false,6),(false,7),(false,8),(false,9),(false,10),(false,11),(false,12)] rfl ?_
      refine L.fieldAddr rfl Tf.f35_1 rfl rfl trivial ?_
      refine L.loadB1 rfl Tf.a33 rfl (List.Mem.tail _ (List.Mem.head _)) rfl List.not_mem_nil rfl trivial ?_
      refine L.fieldAddr rfl Tf.f50_0 rfl rfl trivial ?_
      refine L.loadB1 rfl Tf.a4 rfl (List.Mem.head _) rfl List.not_mem_nil rfl trivial ?_
      refine L.fieldAddr rfl Tf.f50_1 rfl rfl trivial ?_
      refine L.loadB1 rfl Tf.a3 rfl (List.Mem.head _) rfl List.not_mem_nil rfl trivial ?_
      refine L.fieldAddr rfl Tf.f50_2 rfl rfl trivial ?_
      refine L.loadB1 rfl Tf.a3 rfl (List.Mem.head _) rfl List.not_mem_nil rfl trivial ?_
      refine L.build (cs := [.bool x.back, .int .i64 x.many, .int .i64 x.num]) rfl Tf.p87 Tf.z87 rfl rfl rfl trivial ?_
      refine L.buildSlice rfl Try.underlying33 Tf.s87 Tf.z87 rfl rfl rfl rfl (.cons rfl rfl .nil) rfl trivial (fun b901 D901 hD901 hA901 => ?_)
      refine L.append (A := [(_, _), (_, _), (_, _)]) (B := []) rfl Try.underlying33 rfl rfl Tf.s87 Tf.z87 rfl Tf.i87 rfl rfl rfl ha (Src.lit hA901) (by simp) rfl (cnt_len _ _ (by simp; omega)) (by simp [cell1]) (by omega) (Or.inl rfl) rfl trivial (fun v7 ν7 ha7 => ?_)
      have hn7 : Acc 87 3 v7 (k + 1) (cntC (r.counts.take (k + 1))) ν7 := by rw [List.take_add_one, hx, Option.toList_some, cntC_snoc]; simpa using ha7
      refine L.fieldAddr rfl Tf.f35_1 rfl rfl trivial ?_
      refine L.store rfl rfl rfl ha7.cells1 Tf.s33 (.tail (Has.head)) (by simp) rfl ha7.cell1 trivial ?_
      refine L.nil ?_
      refine C.blockEnd ?_
      refine C.next ?_
      refine C.region [(false,0),(false,1),(false,2)] rfl ?_
      refine L.move rfl rfl rfl trivial ?_
      refine L.add rfl rfl rfl (by simp only [inK]; omega) rfl trivial ?_
      refine L.assign rfl rfl rfl trivial ?_
      refine L.nil ?_
      exact C.againR 27 (k + 1, v7, ν7) ⟨by simp only; omega, hn7⟩ (by simp only; omega) ⟨(by first | rfl | (show some (Value.int _ _) = some (Value.int _ _); congr 2; omega)), trivial⟩ rfl rfl (List.Sublist.cons _ (List.Sublist.refl _)) (fun D h => ⟨D, List.Mem.tail _ (h), Le.refl D⟩)
    · obtain rfl : k = r.counts.length := by omega
      rw [List.take_length] at ha
      refine C.exit ?_
      refine C.thenExit ?_
      refine C.thenExit ?_
      refine C.blockExit ?_
      refine C.next ?_
      refine C.seq ?_
      refine C.region [(false,0),(false,1)] rfl ?_
      refine L.loadBW rfl Tf.a35 rfl (List.Mem.head _) Tf.s35 List.not_mem_nil rfl trivial ?_
      refine L.storeW rfl rfl rfl rfl Tf.s35 (by first | rfl | (simp only [ints_length, *]; done) | (simp only [ints_length, *]; rfl) | (simp only [ints_length, *]; omega)) (by first | rfl | (simp only [ints_length, *]; done) | (simp only [ints_length, *]; rfl) | (simp only [ints_length, *]; omega)) (.tail (Has.head)) (cell1_row hp1.cell1 ha.cell1) trivial ?_
      refine L.nil ?_
      refine C.next ?_
      refine C.ret ?_
      refine Q.freeze (A := [(_, _), (_, _)]) (B := []) ha rfl (fun D2 hD2 hF => ?_)
      exact leave (vs := [_]) rfl rfl rfl ⟨⟨_, _, _, rfl, (List.Mem.tail _ (List.Mem.head _)), Or.inr ⟨Tf.a35, Tf.s35, rfl⟩⟩, trivial⟩ (fun D' hD => ⟨_, v, rfl, hp1.up RI.up (hD _ (by simp)), (hF.cnts rfl (by omega)).up RC.up (hD _ (by simp))⟩)
  · refine L.alloc rfl Tf.z35 rfl rfl trivial (fun q3 => ?_)
    refine L.nil ?_
    refine L.planFin [(true,2),(false,7)] rfl ?_
    refine L.call rfl rfl rfl (fun D1 hD1 => list_ok _ r.places _ (hp.up RI.up (hD1 _ (by simp))) (by omega)) rfl trivial (fun v1 D1 hD1 hp1 => ?_)
    obtain ⟨va, vc, rfl, hvr⟩ := id hp1
    refine L.build (cs := [.slice va r.places.length vc, .slice none 0 0, .int .i64 r.wrong, .int .i64 r.off]) rfl Tf.p35 Tf.z35 rfl rfl rfl trivial ?_
    refine L.nil ?_
    refine S.fin [(false,9)] rfl ?_
    refine L.storeW rfl rfl rfl rfl Tf.s35 (by first | rfl | (simp only [ints_length, *]; done) | (simp only [ints_length, *]; rfl) | (simp only [ints_length, *]; omega)) (by first | rfl | (simp only [ints_length, *]; done) | (simp only [ints_length, *]; rfl) | (simp only [ints_length, *]; omega)) (Has.head) (cell1_row hp1.cell1 (by simp [cell1])) trivial ?_
    refine L.nil ?_
    refine S.nil ?_
    refine C.next ?_
    refine C.seq ?_
    refine C.seq ?_
    refine C.region [(false,0)] rfl ?_
    refine L.assign rfl rfl rfl trivial ?_
    refine L.nil ?_
    refine C.next ?_
    refine C.block ?_
    refine C.loopR (γ := Nat × Value × Boxes) (fun g => r.counts.length - g.1) (fun g => g.1 ≤ r.counts.length ∧ Acc 87 3 g.2.1 g.1 (cntC (r.counts.take g.1)) g.2.2) (fun g => [(4, .int .i64 (g.1 : Int))]) [(3, _), (2, _), (1, _)] (fun g => (q3, .cells [.slice va r.places.length vc, g.2.1, .int .i64 r.wrong, .int .i64 r.off].toArray 35 (0, 0)) :: (q2, .cells [.slice none 0 0, .slice none 0 0, .int .i64 0, .int .i64 0].toArray 35 (0, 0)) :: (g.2.2 ++ [])) (fun g => [D1, E1, D]) (0, .slice none 0 0, []) ⟨by simp, by simpa [cntC] using Acc.nil⟩ ⟨(by first | rfl | (show some (Value.int _ _) = some (Value.int _ _); congr 2; omega)), trivial⟩ ⟨rfl, rfl, rfl, trivial⟩ (List.Sublist.refl _) (ds_same) ?_
    rintro ⟨k, v, ν⟩ ⟨hk1, ha⟩
    simp only at hk1 ha
    refine C.seq ?_
    refine C.seq ?_
    refine C.region [(false,0),(false,1),(false,2),(false,3),(false,4)] rfl ?_
    refine L.move rfl rfl rfl trivial ?_
    refine L.fieldAddr rfl Tf.f25_1 rfl rfl trivial ?_
    refine L.loadD1 rfl (k := 1) Tf.a23 rfl hB1 (by first | simp | assumption) rfl List.not_mem_nil rfl trivial ?_
    refine L.len rfl Try.underlying23 rfl (by assumption) rfl rfl trivial ?_
    refine L.lss rfl rfl rfl rfl trivial ?_
    refine L.nil ?_
    refine C.next ?_
    refine C.condD rfl (fun hc1 => ?_) (fun hc1 => ?_)
    · have hk : k < r.counts.length := by omega
      obtain ⟨x, hx⟩ : ∃ x, r.counts[k]? = some x := ⟨_, List.getElem?_eq_getElem hk⟩
      refine C.skip ?_
      refine C.next ?_
      refine C.seq ?_
      refine C.block ?_
      refine C.seq ?_
      refine C.region [(false,0),(false,1),(false,2),(false,3),(false,4),(false,5),(false,6)] rfl ?_
      refine L.fieldAddr rfl Tf.f25_1 rfl rfl trivial ?_
      refine L.loadD1 rfl (k := 1) Tf.a23 rfl hB1 (by first | simp | assumption) rfl List.not_mem_nil rfl trivial ?_
      refine L.move rfl rfl rfl trivial ?_
      refine L.indexS rfl Try.underlying23 Tf.s50 rfl hc rfl (by omega) hx rfl trivial (fun b1 o1 cs1 hr1 hcl1 hA1 => ?_)
      obtain rfl : cs1 = [.bool _, .int .i64 _, .int .i64 _] := hr1
      refine L.loadDW rfl Tf.a50 rfl hA1 (by first | simp | assumption) Tf.s50 List.not_mem_nil rfl trivial ?_
      refine L.alloc rfl Tf.z50 rfl rfl trivial (fun q4 => ?_)
      refine L.storeW rfl rfl rfl rfl Tf.s50 (by first | rfl | (simp only [ints_length, *]; done) | (simp only [ints_length, *]; rfl) | (simp only [ints_length, *]; omega)) (by first | rfl | (simp only [ints_length, *]; done) | (simp only [ints_length, *]; rfl) | (simp only [ints_length, *]; omega)) (Has.head) (by first | exact ints_cell1 _ | simp [cell1]) trivial ?_
      refine L.nil ?_
      refine C.next ?_
      refine C.region [(false,0),(false,1),(false,2),(false,3),(false,4),(false,5),(false,6),(false,7),(false,8),(false,9),(false,10),(false,11),(false,12)] rfl ?_
      refine L.fieldAddr rfl Tf.f35_1 rfl rfl trivial ?_
      refine L.loadB1 rfl Tf.a33 rfl (List.Mem.tail _ (List.Mem.head _)) rfl List.not_mem_nil rfl trivial ?_
      refine L.fieldAddr rfl Tf.f50_0 rfl rfl trivial ?_
      refine L.loadB1 rfl Tf.a4 rfl (List.Mem.head _) rfl List.not_mem_nil rfl trivial ?_
      refine L.fieldAddr rfl Tf.f50_1 rfl rfl trivial ?_
      refine L.loadB1 rfl Tf.a3 rfl (List.Mem.head _) rfl List.not_mem_nil rfl trivial ?_
      refine L.fieldAddr rfl Tf.f50_2 rfl rfl trivial ?_
      refine L.loadB1 rfl Tf.a3 rfl (List.Mem.head _) rfl List.not_mem_nil rfl trivial ?_
      refine L.build (cs := [.bool x.back, .int .i64 x.many, .int .i64 x.num]) rfl Tf.p87 Tf.z87 rfl rfl rfl trivial ?_
      refine L.buildSlice rfl Try.underlying33 Tf.s87 Tf.z87 rfl rfl rfl rfl (.cons rfl rfl .nil) rfl trivial (fun b901 D901 hD901 hA901 => ?_)
      refine L.append (A := [(_, _), (_, _), (_, _)]) (B := []) rfl Try.underlying33 rfl rfl Tf.s87 Tf.z87 rfl Tf.i87 rfl rfl rfl ha (Src.lit hA901) (by simp) rfl (cnt_len _ _ (by simp; omega)) (by simp [cell1]) (by omega) (Or.inl rfl) rfl trivial (fun v7 ν7 ha7 => ?_)
      have hn7 : Acc 87 3 v7 (k + 1) (cntC (r.counts.take (k + 1))) ν7 := by rw [List.take_add_one, hx, Option.toList_some, cntC_snoc]; simpa using ha7
      refine L.fieldAddr rfl Tf.f35_1 rfl rfl trivial ?_
      refine L.store rfl rfl rfl ha7.cells1 Tf.s33 (.tail (Has.head)) (by simp) rfl ha7.cell1 trivial ?_
      refine L.nil ?_
      refine C.blockEnd ?_
      refine C.next ?_
      refine C.region [(false,0),(false,1),(false,2)] rfl ?_
      refine L.move rfl rfl rfl trivial ?_
      refine L.add rfl rfl rfl (by simp only [inK]; omega) rfl trivial ?_
      refine L.assign rfl rfl rfl trivial ?_
      refine L.nil ?_
      exact C.againR 27 (k + 1, v7, ν7) ⟨by simp only; omega, hn7⟩ (by simp only; omega) ⟨(by first | rfl | (show some (Value.int _ _) = some (Value.int _ _); congr 2; omega)), trivial⟩ rfl rfl (List.Sublist.cons _ (List.Sublist.refl _)) (fun D h => ⟨D, List.Mem.tail _ (h), Le.refl D⟩)
    · obtain rfl : k = r.counts.length := by omega
      rw [List.take_length] at ha
      refine C.exit ?_
      refine C.thenExit ?_
      refine C.thenExit ?_
      refine C.blockExit ?_
      refine C.next ?_
      refine C.seq ?_
      refine C.region [(false,0),(false,1)] rfl ?_
      refine L.loadBW rfl Tf.a35 rfl (List.Mem.head _) Tf.s35 List.not_mem_nil rfl trivial ?_
      refine L.storeW rfl rfl rfl rfl Tf.s35 (by first | rfl | (simp only [ints_length, *]; done) | (simp only [ints_length, *]; rfl) | (simp only [ints_length, *]; omega)) (by first | rfl | (simp only [ints_length, *]; done) | (simp only [ints_length, *]; rfl) | (simp only [ints_length, *]; omega)) (.tail (Has.head)) (cell1_row hp1.cell1 ha.cell1) trivial ?_
      refine L.nil ?_
      refine C.next ?_
      refine C.ret ?_
      refine Q.freeze (A := [(_, _), (_, _)]) (B := []) ha rfl (fun D2 hD2 hF => ?_)
      exact leave (vs := [_]) rfl rfl rfl ⟨⟨_, _, _, rfl, (List.Mem.tail _ (List.Mem.head _)), Or.inr ⟨Tf.a35, Tf.s35, rfl⟩⟩, trivial⟩ (fun D' hD => ⟨_, v, rfl, hp1.up RI.up (hD _ (by simp)), (hF.cnts rfl (by omega)).up RC.up (hD _ (by simp))⟩)
end Go.Fs
