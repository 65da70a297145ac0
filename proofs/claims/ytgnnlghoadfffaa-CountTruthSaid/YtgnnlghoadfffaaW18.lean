/- Walks: parts of a row, the chapter's rows. -/
import Derived.Test.YtgnnlghoadfffaaW17
namespace Go.Fs
open Go.Proofs
open C1
def endsD (w : Int) (more : List Cnt) : RowD := ⟨[2, 2, 1, 2, 2], ⟨false, 3, 2⟩ :: ⟨true, 3, 3⟩ :: more, w, 1⟩
theorem cntC_cell1 (l : List Cnt) : ∀ u ∈ cntC l, cell1 u = true := by
  intro u hu
  unfold cntC at hu
  obtain ⟨c, _, hu⟩ := List.mem_flatMap.1 hu
  simp only [List.mem_cons, List.not_mem_nil, or_false] at hu
  rcases hu with rfl | rfl | rfl <;> rfl
theorem cntC_get1 {l : List Cnt} {j : Nat} {v : Value} (h : (cntC l)[j]? = some v) : ∃ c, l[j / 3]? = some c ∧ [Value.bool c.back, .int .i64 c.many, .int .i64 c.num][j % 3]? = some v := by
  have hj := (List.getElem?_eq_some_iff.1 h).1
  rw [cntC_len] at hj
  have hi : j / 3 < l.length := by omega
  refine ⟨l[j / 3], List.getElem?_eq_getElem hi, ?_⟩
  rw [← cntC_get (List.getElem?_eq_getElem hi), List.getElem?_take_of_lt (Nat.mod_lt _ (by omega)), List.getElem?_drop, show j / 3 * 3 + j % 3 = j by omega]
  exact h
theorem Src.cnts {D : Data} {v : Value} {l : List Cnt} (h : Sl D RC 3 v l) : Src D v l.length (cntC l) := by
  obtain ⟨a, cap, rfl, h1, h2, h3⟩ := h
  rcases h3 with rfl | ⟨b, o, rfl, h3⟩
  · exact Or.inl ⟨a, cap, rfl, rfl, rfl⟩
  · refine Or.inr ⟨b, o, cap, rfl, fun j v hj => ?_⟩
    obtain ⟨c, hc, hv⟩ := cntC_get1 hj
    obtain ⟨cs, hr, hl, hA⟩ := h3 _ _ hc
    obtain rfl : cs = [.bool c.back, .int .i64 c.many, .int .i64 c.num] := hr
    have := hA _ _ hv
    rw [show o + j / 3 * 3 + j % 3 = o + j by omega] at this
    exact this
open C1
theorem parted_ok (rv : Value) (r : RowD) (a b : Int) (D : Data) (hr : RowIs D rv r) (hn : 0 < r.places.length) (ha : 0 ≤ a ∧ a ≤ 255) (hb : 0 ≤ b ∧ b ≤ 255) : Fn Try.prog 36 #[rv, .int .u8 a, .int .u8 b] D (fun _ v => v = .tuple #[.int .i64 (min (a % r.places.length) (b % r.places.length)), .int .i64 (max (a % r.places.length) (b % r.places.length))]) := by
  obtain ⟨pv, cv, rfl, hp, hc⟩ := hr
  have hl := hp.len
  have hm1 := Int.emod_nonneg a (show (r.places.length : Int) ≠ 0 by omega)
  have hm2 := Int.emod_lt_of_pos a (show (0 : Int) < r.places.length by omega)
  have hm3 := Int.emod_nonneg b (show (r.places.length : Int) ≠ 0 by omega)
  have hm4 := Int.emod_lt_of_pos b (show (0 : Int) < r.places.length by omega)
  refine enter 28 Try.func36 rfl rfl rfl rfl fun h0 => ?_
  refine C.seq ?_
  refine C.region [(false,0),(false,1),(false,2)] rfl ?_
  refine L.boxD rfl rfl rfl rfl trivial (fun q1 E1 hE1 hB1 => ?_)
  refine L.assign rfl rfl rfl trivial ?_
  refine L.assign rfl rfl rfl trivial ?_
  refine L.nil ?_
  refine C.next ?_
  refine C.seq ?_
  refine C.draw [] 3 [0,1,2,3,4,5,6,7,8,9,10,11,12,13] [false,false,true,true,true,false,true,true,true,true,true,true,true,false] [(false,0),(false,1),(true,2),(true,3),(true,4),(false,5),(true,6),(true,7),(true,8),(true,9),(true,10),(true,11),(true,12),(false,13)] Tf.follows (fun _ _ _ h => np_body (P := Try.prog) (fn := Try.f36) _ _ _ h) (by kernel_rfl) rfl ?_
  refine L.move rfl rfl rfl trivial ?_
  refine L.convI rfl Try.underlying5 Try.underlying3 rfl (by simp only [inK]; omega) rfl trivial ?_
  refine L.fieldAddr rfl Tf.f25_0 rfl rfl trivial ?_
  refine L.loadD1 rfl (k := 0) Tf.a22 rfl hB1 (by first | simp | assumption) rfl List.not_mem_nil rfl trivial ?_
  refine L.len rfl Try.underlying22 rfl hp rfl rfl trivial ?_
  refine L.rem rfl rfl rfl (by omega) (by omega) (by simp only [inK]; omega) rfl trivial ?_
  refine L.move rfl rfl rfl trivial ?_
  refine L.convI rfl Try.underlying5 Try.underlying3 rfl (by simp only [inK]; omega) rfl trivial ?_
  refine L.fieldAddr rfl Tf.f25_0 rfl rfl trivial ?_
  refine L.loadD1 rfl (k := 0) Tf.a22 rfl hB1 (by first | simp | assumption) rfl List.not_mem_nil rfl trivial ?_
  refine L.len rfl Try.underlying22 rfl hp rfl rfl trivial ?_
  refine L.rem rfl rfl rfl (by omega) (by omega) (by simp only [inK]; omega) rfl trivial ?_
  refine L.assign rfl rfl rfl trivial ?_
  refine L.assign rfl rfl rfl trivial ?_
  refine L.nil ?_
  refine C.next ?_
  refine C.seq ?_
  refine C.region [(false,0),(false,1),(false,2),(false,3),(false,4),(false,5),(false,6),(false,7)] rfl ?_
  refine L.move rfl rfl rfl trivial ?_
  refine L.move rfl rfl rfl trivial ?_
  refine L.min2 rfl rfl rfl rfl trivial ?_
  refine L.move rfl rfl rfl trivial ?_
  refine L.move rfl rfl rfl trivial ?_
  refine L.max2 rfl rfl rfl rfl trivial ?_
  refine L.assign rfl rfl rfl trivial ?_
  refine L.assign rfl rfl rfl trivial ?_
  refine L.nil ?_
  refine C.next ?_
  refine C.ret ?_
  exact leave (vs := [_, _]) rfl rfl rfl ⟨rfl, rfl, trivial⟩ (fun D hD => rfl)
theorem ends_ok (w : Int) (mv : Value) (more : List Cnt) (D : Data) (hm : Sl D RC 3 mv more) (hl : more.length ≤ 100) : Fn Try.prog 58 #[.int .i64 w, mv] D (fun D' v => RowIs D' v (endsD w more)) := by
  refine enter 13 Try.func58 rfl rfl rfl rfl fun h0 => ?_
  refine C.seq ?_
  refine C.region [(false,0)] rfl ?_
  refine L.alloc rfl Tf.z35 rfl rfl trivial (fun q1 => ?_)
  refine L.nil ?_
  refine C.next ?_
  refine C.seq ?_
  refine C.region [(false,0),(false,1),(false,2),(false,3),(false,4),(false,5),(false,6),(false,7),(false,8)] rfl ?_
  refine L.buildSlice rfl Try.underlying22 Tf.s3 Tf.z3 rfl rfl rfl rfl (.cons rfl rfl (.cons rfl rfl (.cons rfl rfl (.cons rfl rfl (.cons rfl rfl .nil))))) rfl trivial (fun b901 D901 hD901 hA901 => ?_)
  have hS901 := Sl.ofInts (l := [_, _, _, _, _]) (n := 5) (cap := 5) hA901 rfl (by omega) (by omega)
  refine L.build (cs := [.bool false, .int .i64 3, .int .i64 2]) rfl Tf.p87 Tf.z87 rfl rfl rfl trivial ?_
  refine L.build (cs := [.bool true, .int .i64 3, .int .i64 3]) rfl Tf.p87 Tf.z87 rfl rfl rfl trivial ?_
  refine L.buildSliceO rfl Try.underlying33 Tf.s87 Tf.z87 rfl rfl rfl rfl (.cons rfl rfl (.cons rfl rfl .nil)) rfl trivial (fun b3 hacc => ?_)
  refine L.move rfl rfl rfl trivial ?_
  refine L.append (A := []) (ν := [(_, _)]) (B := [(_, _)]) rfl Try.underlying33 rfl rfl Tf.s87 Tf.z87 rfl Tf.i87 rfl rfl rfl hacc (Src.cnts hm) (by simp) (cnt_len _ _ rfl) rfl (cntC_cell1 _) (by omega) (Or.inl rfl) rfl trivial (fun v7 ν7 ha7 => ?_)
  obtain ⟨a7, c7, rfl⟩ := ha7.shape
  refine L.move rfl rfl rfl trivial ?_
  refine L.build (cs := [.slice (some ⟨b901, 0, none⟩) 5 5, .slice a7 (2 + more.length) c7, .int .i64 w, .int .i64 1]) rfl Tf.p35 Tf.z35 rfl rfl rfl trivial ?_
  refine L.storeW rfl rfl rfl rfl Tf.s35 (by first | rfl | (simp only [ints_length, *]; done) | (simp only [ints_length, *]; rfl) | (simp only [ints_length, *]; omega)) (by first | rfl | (simp only [ints_length, *]; done) | (simp only [ints_length, *]; rfl) | (simp only [ints_length, *]; omega)) (.app (Has.head)) (by first | exact ints_cell1 _ | simp [cell1]) trivial ?_
  refine L.nil ?_
  refine C.next ?_
  refine C.ret ?_
  refine Q.freeze (A := []) (B := [(_, _)]) ha7 rfl (fun D2 hD2 hF => ?_)
  exact leave (vs := [_]) rfl rfl rfl ⟨⟨_, _, _, rfl, (List.Mem.head _), Or.inr ⟨Tf.a35, Tf.s35, rfl⟩⟩, trivial⟩ (fun D' hD => ⟨_, _, rfl, hS901.up RI.up ((hD2 _ (by simp)).trans (hD _ (by simp))), (Froz.cnts (l := ⟨false, 3, 2⟩ :: ⟨true, 3, 3⟩ :: more) hF (by simp; omega) (by omega)).up RC.up (hD _ (by simp))⟩)
end Go.Fs
