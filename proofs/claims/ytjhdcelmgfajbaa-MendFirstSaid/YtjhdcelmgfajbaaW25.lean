/- Walks: the reference: all truths by number, the bounds; the law's sure. -/
import Derived.Test.YtjhdcelmgfajbaaW24
namespace Go.Fs
open Go.Proofs
open C7
theorem part_p1 {x : Int} (h : 0 ≤ x ∧ x ≤ 2) (m : Nat) : partIs x (p1 x m).1 = true := by
  unfold p1 partIs
  rw [Bool.and_eq_true, inB_iff, Bool.or_eq_true, decide_eq_true_eq, decide_eq_true_eq]
  split
  · rename_i e; exact ⟨by simp only; omega, Or.inl e⟩
  · rename_i e; exact ⟨by simp only; omega, Or.inr rfl⟩
theorem pts_p3 {p : Pt} (h : ∀ n ∈ p.l, 0 ≤ n ∧ n ≤ 2) (m : Nat) : ptsIs p (p3 p m).1 = true := by
  have ha := h p.a (by simp [Pt.l])
  have hb := h p.b (by simp [Pt.l])
  have hc := h p.c (by simp [Pt.l])
  simp only [ptsIs, Pt.l, p3, List.zip_cons_cons, List.zip_nil_left, List.all_cons, List.all_nil, Bool.and_true, Bool.and_eq_true]
  exact ⟨part_p1 ha _, part_p1 hb _, part_p1 hc _⟩
def nthR : List Ch → Nat → List Pt
  | [], _ => []
  | c :: l, n => (p3 c.parts n).1 :: nthR l (p3 c.parts n).2
theorem nthS_R : ∀ (l : List Ch) (st : List Pt × Nat), (l.foldl nthS st).1 = st.1 ++ nthR l st.2
  | [], st => by simp [nthR]
  | c :: l, st => by rw [List.foldl_cons, nthS_R l]; simp [nthS, nthR]
theorem nthC_R (l : List Ch) (n : Nat) : (nthC l n).1 = nthR l n := by unfold nthC; rw [nthS_R]; rfl
theorem nthR_ok : ∀ (l : List Ch) (n : Nat), (∀ c ∈ l, ∀ n ∈ c.parts.l, 0 ≤ n ∧ n ≤ 2) → ((l.zip (nthR l n)).all fun x => ptsIs x.1.parts x.2) = true
  | [], n, _ => rfl
  | c :: l, n, h => by
    rw [nthR, List.zip_cons_cons, List.all_cons, Bool.and_eq_true]
    exact ⟨pts_p3 (h c List.mem_cons_self) n, nthR_ok l _ fun c hc => h c (List.mem_cons_of_mem _ hc)⟩
theorem nth_truth {y : YardD} (h : YOk y) (n : Nat) : isTruth y (nthC y.chairs n).1 = true := by
  unfold isTruth
  rw [Bool.and_eq_true, decide_eq_true_eq]
  exact ⟨nthC_len _ _, by rw [nthC_R]; exact nthR_ok _ _ h.part⟩
def mostN (y : YardD) (n : Nat) : Int := (mostT y (nthC y.chairs n).1 : Nat)
/-- The most chairs in all truths. -/
def allN (y : YardD) : List Int := (List.range (2 ^ unknown y.chairs)).map (mostN y)
/-- The numbers of the truths of a yard. -/
def numK (y : YardD) (ms : List Int) (k : Nat) : List Int := ((List.range k).filter fun n => rightO y.claims [] (ms.getD n 0)).map fun n : Nat => (n : Int)
theorem numK_len (y : YardD) (ms : List Int) (k : Nat) : (numK y ms k).length ≤ k := by
  have := List.length_filter_le (fun n => rightO y.claims [] (ms.getD n 0)) (List.range k)
  unfold numK; rw [List.length_map]; simpa using this
theorem numK_yes {y : YardD} {ms : List Int} {k : Nat} {x : Int} (hx : ms[k]? = some x) (h : rightO y.claims [] x = true) : numK y ms (k + 1) = numK y ms k ++ [(k : Int)] := by
  unfold numK; rw [List.range_succ, List.filter_append, List.map_append]; simp [List.getD_eq_getElem?_getD, hx, h]
theorem numK_no {y : YardD} {ms : List Int} {k : Nat} {x : Int} (hx : ms[k]? = some x) (h : rightO y.claims [] x = false) : numK y ms (k + 1) = numK y ms k := by
  unfold numK; rw [List.range_succ, List.filter_append, List.map_append]; simp [List.getD_eq_getElem?_getD, hx, h]
def bndR (ms ns : List Int) : Int × Int := ns.foldl (fun r n => (min r.1 (ms.getD n.toNat 0), max r.2 (ms.getD n.toNat 0))) (99, -1)
theorem bndR_step {ms ns : List Int} {k j : Nat} {w : Int} (hx : ns[k]? = some (j : Int)) (hz : ms[j]? = some w) : bndR ms (ns.take (k + 1)) = (min (bndR ms (ns.take k)).1 w, max (bndR ms (ns.take k)).2 w) := by
  unfold bndR
  rw [List.take_add_one, hx, Option.toList_some, List.foldl_append]
  simp [List.getD_eq_getElem?_getD, hz]
theorem All_ok (yv : Value) (y : YardD) (D : Data) (hy : YardIs D yv y) (hf : fault y = 0) : Fn Try.prog 49 #[yv] D (fun D' v => Sl D' RI 1 v (allN y)) := by
  have hy0 := hy
  obtain ⟨cv, qv, rfl, hc, hq⟩ := hy
  have hyo := yOk hf
  have hn7 := hyo.len
  have hu8 := hyo.unk
  have hcap : 2 ^ unknown y.chairs ≤ 2 ^ 8 := Nat.pow_le_pow_right (by omega) hu8
  unfold allN
  refine enter 24 Try.func49 rfl rfl rfl rfl fun h0 => ?_
  refine C.seq ?_
  refine C.region [(false,0),(false,1)] rfl ?_
  refine L.boxD rfl rfl rfl rfl trivial (fun q1 E1 hE1 hB1 => ?_)
  refine L.assign rfl rfl rfl trivial ?_
  refine L.nil ?_
  refine C.next ?_
  refine C.seq ?_
  refine C.region [(false,0),(false,1),(false,2)] rfl ?_
  refine L.loadDW rfl Tf.a25 rfl hB1 (by first | simp | assumption) Tf.s25 List.not_mem_nil rfl trivial ?_
  refine L.call rfl rfl rfl (fun D1 hD1 => Pairings_ok hn7 _ _ (hy0.up (hD1 _ (by simp)))) rfl trivial (fun v1 D1 hD1 hp1 => ?_)
  have hps := hp1
  refine L.assign rfl rfl rfl trivial ?_
  refine L.nil ?_
  refine C.next ?_
  refine C.seq ?_
  refine C.region [(false,0)] rfl ?_
  refine L.assign rfl rfl rfl trivial ?_
  refine L.nil ?_
  refine C.next ?_
  refine C.seq ?_
  refine C.seq ?_
  refine C.region [(false,0)] rfl ?_
  refine L.assign rfl rfl rfl trivial ?_
  refine L.nil ?_
  refine C.next ?_
  refine C.block ?_
  refine C.loopR (γ := Nat × Value × Boxes) (fun g => 2 ^ unknown y.chairs - g.1) (fun g => g.1 ≤ 2 ^ unknown y.chairs ∧ Acc 3 1 g.2.1 (((List.range g.1).map (mostN y))).length (ints (((List.range g.1).map (mostN y)))) g.2.2) (fun g => [(4, g.2.1), (5, .int .i64 (g.1 : Int))]) [(3, _), (2, _), (1, _)] (fun g => g.2.2 ++ []) (fun g => [D1, E1, D]) (0, .slice none 0 0, []) ⟨by simp, Acc.nil⟩ ⟨(by first | rfl | (show some (Value.int _ _) = some (Value.int _ _); congr 2; omega)), (by first | rfl | (show some (Value.int _ _) = some (Value.int _ _); congr 2; omega)), trivial⟩ ⟨rfl, rfl, rfl, trivial⟩ (List.Sublist.refl _) (ds_same) ?_
  rintro ⟨k, v, ν⟩ ⟨h1, ha⟩
  simp only at h1 ha
  refine C.seq ?_
  refine C.seq ?_
  refine C.region [(false,0),(false,1),(false,2),(false,3)] rfl ?_
  refine L.move rfl rfl rfl trivial ?_
  refine L.loadDW rfl Tf.a25 rfl hB1 (by first | simp | assumption) Tf.s25 List.not_mem_nil rfl trivial ?_
  refine L.callV rfl rfl rfl (fun D2 hD2 => Many_ok _ y _ (hy0.up (hD2 _ (by simp))) (by omega) hu8) rfl trivial ?_
  refine L.lss rfl rfl rfl rfl trivial ?_
  refine L.nil ?_
  refine C.next ?_
  refine C.condD rfl (fun hc1 => ?_) (fun hc1 => ?_)
  · have hk : k < 2 ^ unknown y.chairs := by simp only at hc1; omega
    have hit := nth_truth hyo k
    obtain ⟨hlen, hbt⟩ := truthOk hit
    refine C.skip ?_
    refine C.next ?_
    refine C.seq ?_
    refine C.block ?_
    refine C.draw [] 3 [0,1,2,3,5,4,6,7,8,9] [false,true,true,true,true,true,true,true,false,false] [(false,0),(true,1),(true,2),(true,3),(true,5),(true,4),(true,6),(true,7),(false,8),(false,9)] Tf.follows (fun _ _ _ h => np_body (P := Try.prog) (fn := Try.f49) _ _ _ h) (by kernel_rfl) rfl ?_
    refine L.move rfl rfl rfl trivial ?_
    refine L.loadDW rfl Tf.a25 rfl hB1 (by first | simp | assumption) Tf.s25 List.not_mem_nil rfl trivial ?_
    refine L.loadDW rfl Tf.a25 rfl hB1 (by first | simp | assumption) Tf.s25 List.not_mem_nil rfl trivial ?_
    refine L.move rfl rfl rfl trivial ?_
    refine L.move rfl rfl rfl trivial ?_
    refine L.call rfl rfl rfl (fun D3 hD3 => Nth_ok _ y k _ (hy0.up (hD3 _ (by simp))) (by omega) (by omega)) rfl trivial (fun v3 D3 hD3 hp3 => ?_)
    have hz := hp3
    refine L.callV rfl rfl rfl (fun D4 hD4 => Most_ok _ _ _ y _ _ _ (hy0.up (hD4 _ (by simp))) (hz.up RP.up (hD4 _ (by simp))) (hps.up RLP.up (hD4 _ (by simp))) hyo hlen hbt (prs_in hn7 hlen)) rfl trivial ?_
    refine L.buildSlice rfl Try.underlying52 Tf.s3 Tf.z3 rfl rfl rfl rfl (.cons rfl rfl .nil) rfl trivial (fun b901 D901 hD901 hA901 => ?_)
    have hS901 := Sl.ofInts (l := [_]) (n := 1) (cap := 1) hA901 rfl (by omega) (by omega)
    refine L.append (A := []) (B := []) rfl Try.underlying52 rfl rfl Tf.s3 Tf.z3 rfl Tf.i3 rfl rfl rfl ha (Src.lit hA901) (by simp) rfl (by simp) (by simp [cell1]) (by have := hcap; first | omega | (simp only [List.length_map, List.length_range]; omega)) (Or.inl rfl) rfl trivial (fun v7 ν7 ha7 => ?_)
    have hn7 : Acc 3 1 v7 (((List.range (k + 1)).map (mostN y))).length (ints (((List.range (k + 1)).map (mostN y)))) ν7 := by rw [List.range_succ, List.map_append]; rw [most_is hlen (by omega)] at ha7; simpa [ints, mostN] using ha7
    refine L.assign rfl rfl rfl trivial ?_
    refine L.nil ?_
    refine C.blockEnd ?_
    refine C.next ?_
    refine C.region [(false,0),(false,1),(false,2)] rfl ?_
    refine L.move rfl rfl rfl trivial ?_
    refine L.add rfl rfl rfl (by simp only [inK]; omega) rfl trivial ?_
    refine L.assign rfl rfl rfl trivial ?_
    refine L.nil ?_
    exact C.againR 19 (k + 1, v7, ν7) ⟨by simp only; omega, hn7⟩ (by simp only; omega) ⟨(by first | rfl | (show some (Value.int _ _) = some (Value.int _ _); congr 2; omega)), (by first | rfl | (show some (Value.int _ _) = some (Value.int _ _); congr 2; omega)), trivial⟩ rfl rfl (List.Sublist.refl _) (fun D h => ⟨D, List.Mem.tail _ (List.Mem.tail _ (h)), Le.refl D⟩)
  · obtain rfl : k = 2 ^ unknown y.chairs := by simp only at hc1; omega
    simp only [List.length_map, List.length_range] at ha
    refine C.exit ?_
    refine C.thenExit ?_
    refine C.thenExit ?_
    refine C.blockExit ?_
    refine C.next ?_
    refine C.seq ?_
    refine C.region [(false,0),(false,1)] rfl ?_
    refine L.move rfl rfl rfl trivial ?_
    refine L.assign rfl rfl rfl trivial ?_
    refine L.nil ?_
    refine C.next ?_
    refine C.ret ?_
    refine Q.freeze (A := []) (B := []) ha rfl (fun D2 hD2 hF => ?_)
    exact leave (vs := [_]) rfl rfl rfl ⟨rfl, trivial⟩ (fun D' hD => (hF.ints (by simp) (by have := hcap; omega)).up RI.up (hD _ (by simp)))
theorem Numbers_ok (yv mv : Value) (y : YardD) (ms : List Int) (D : Data) (hy : YardIs D yv y) (hm : Sl D RI 1 mv ms) (hf : fault y = 0) (hcap : ms.length ≤ 100000) : Fn Try.prog 88 #[yv, mv] D (fun D' v => Sl D' RI 1 v (numK y ms ms.length)) := by
  have hy0 := hy
  obtain ⟨cv, qv, rfl, hc, hq⟩ := hy
  have hyo := yOk hf
  have hcl5 := hyo.cls
  refine enter 27 Try.func88 rfl rfl rfl rfl fun h0 => ?_
  refine C.seq ?_
  refine C.region [(false,0),(false,1)] rfl ?_
  refine L.boxD rfl rfl rfl rfl trivial (fun q1 E1 hE1 hB1 => ?_)
  refine L.assign rfl rfl rfl trivial ?_
  refine L.nil ?_
  refine C.next ?_
  refine C.seq ?_
  refine C.region [(false,0)] rfl ?_
  refine L.assign rfl rfl rfl trivial ?_
  refine L.nil ?_
  refine C.next ?_
  refine C.seq ?_
  refine C.seq ?_
  refine C.region [(false,0)] rfl ?_
  refine L.assign rfl rfl rfl trivial ?_
  refine L.nil ?_
  refine C.next ?_
  refine C.block ?_
  refine C.loopR (γ := Nat × Value × Boxes) (fun g => ms.length - g.1) (fun g => g.1 ≤ ms.length ∧ Acc 3 1 g.2.1 (numK y ms g.1).length (ints (numK y ms g.1)) g.2.2) (fun g => [(5, g.2.1), (6, .int .i64 (g.1 : Int))]) [(4, _), (2, _), (1, _)] (fun g => g.2.2 ++ []) (fun g => [E1, D]) (0, .slice none 0 0, []) ⟨by simp, Acc.nil⟩ ⟨(by first | rfl | (show some (Value.int _ _) = some (Value.int _ _); congr 2; omega)), (by first | rfl | (show some (Value.int _ _) = some (Value.int _ _); congr 2; omega)), trivial⟩ ⟨rfl, rfl, rfl, trivial⟩ (List.Sublist.refl _) (ds_same) ?_
  rintro ⟨k, v, ν⟩ ⟨h1, ha⟩
  simp only at h1 ha
  refine C.seq ?_
  refine C.seq ?_
  refine C.region [(false,0),(false,1),(false,2),(false,3)] rfl ?_
  refine L.move rfl rfl rfl trivial ?_
  refine L.move rfl rfl rfl trivial ?_
  refine L.len rfl Try.underlying52 rfl hm rfl rfl trivial ?_
  refine L.lss rfl rfl rfl rfl trivial ?_
  refine L.nil ?_
  refine C.next ?_
  refine C.condD rfl (fun hc1 => ?_) (fun hc1 => ?_)
  · have hk : k < ms.length := by simp only at hc1; omega
    obtain ⟨x, hx⟩ : ∃ x, ms[k]? = some x := ⟨_, List.getElem?_eq_getElem hk⟩
    have hnk := numK_len y ms k
    refine C.skip ?_
    refine C.next ?_
    refine C.seq ?_
    refine C.block ?_
    refine C.seq ?_
    refine C.draw [] 4 [0,1,2,3,4,6,5,7,8] [false,true,true,true,true,true,true,false,false] [(false,0),(true,1),(true,2),(true,3),(true,4),(true,6),(true,5),(false,7),(false,8)] Tf.follows (fun _ _ _ h => np_body (P := Try.prog) (fn := Try.f88) _ _ _ h) (by kernel_rfl) rfl ?_
    refine L.loadDW rfl Tf.a25 rfl hB1 (by first | simp | assumption) Tf.s25 List.not_mem_nil rfl trivial ?_
    refine L.move rfl rfl rfl trivial ?_
    refine L.move rfl rfl rfl trivial ?_
    refine L.indexS rfl Try.underlying52 Tf.s3 rfl hm rfl (by omega) hx rfl trivial (fun b1 o1 cs1 hr1 hcl1 hA1 => ?_)
    obtain rfl : cs1 = [.int .i64 _] := hr1
    refine L.loadD1 rfl (k := 0) Tf.a3 rfl hA1 (by first | simp | assumption) rfl List.not_mem_nil rfl trivial ?_
    refine L.loadDW rfl Tf.a25 rfl hB1 (by first | simp | assumption) Tf.s25 List.not_mem_nil rfl trivial ?_
    refine L.callV rfl rfl rfl (fun D1 hD1 => Right_ok _ y x _ (hy0.up (hD1 _ (by simp))) (by omega)) rfl trivial ?_
    refine L.callV rfl rfl rfl (fun D2 hD2 => Full_ok _ y _ (hy0.up (hD2 _ (by simp))) (by omega)) rfl trivial ?_
    refine L.eql rfl rfl rfl rfl trivial ?_
    refine L.nil ?_
    refine C.next ?_
    refine C.condD rfl (fun hc2 => ?_) (fun hc2 => ?_)
    · have hr : rightO y.claims [] x = true := by rw [← right_full]; exact decide_eq_true hc2
      refine C.region [(false,0),(false,1),(false,2),(false,3),(false,4)] rfl ?_
      refine L.move rfl rfl rfl trivial ?_
      refine L.move rfl rfl rfl trivial ?_
      refine L.buildSlice rfl Try.underlying52 Tf.s3 Tf.z3 rfl rfl rfl rfl (.cons rfl rfl .nil) rfl trivial (fun b901 D901 hD901 hA901 => ?_)
      have hS901 := Sl.ofInts (l := [_]) (n := 1) (cap := 1) hA901 rfl (by omega) (by omega)
      refine L.append (A := []) (B := []) rfl Try.underlying52 rfl rfl Tf.s3 Tf.z3 rfl Tf.i3 rfl rfl rfl ha (Src.lit hA901) (by simp) rfl (by simp) (by simp [cell1]) (by have := hcap; first | omega | (simp only [List.length_map, List.length_range]; omega)) (Or.inl rfl) rfl trivial (fun v7 ν7 ha7 => ?_)
      have hn7 : Acc 3 1 v7 (numK y ms (k + 1)).length (ints (numK y ms (k + 1))) ν7 := by rw [numK_yes hx hr]; simpa [ints] using ha7
      refine L.assign rfl rfl rfl trivial ?_
      refine L.nil ?_
      refine C.blockEnd ?_
      refine C.next ?_
      refine C.region [(false,0),(false,1),(false,2)] rfl ?_
      refine L.move rfl rfl rfl trivial ?_
      refine L.add rfl rfl rfl (by simp only [inK]; omega) rfl trivial ?_
      refine L.assign rfl rfl rfl trivial ?_
      refine L.nil ?_
      exact C.againR 23 (k + 1, v7, ν7) ⟨by simp only; omega, hn7⟩ (by simp only; omega) ⟨(by first | rfl | (show some (Value.int _ _) = some (Value.int _ _); congr 2; omega)), (by first | rfl | (show some (Value.int _ _) = some (Value.int _ _); congr 2; omega)), trivial⟩ rfl rfl (List.Sublist.refl _) (fun D h => ⟨D, List.Mem.tail _ (h), Le.refl D⟩)
    · have hr : rightO y.claims [] x = false := by rw [← right_full]; exact decide_eq_false hc2
      refine C.skip ?_
      refine C.blockEnd ?_
      refine C.next ?_
      refine C.region [(false,0),(false,1),(false,2)] rfl ?_
      refine L.move rfl rfl rfl trivial ?_
      refine L.add rfl rfl rfl (by simp only [inK]; omega) rfl trivial ?_
      refine L.assign rfl rfl rfl trivial ?_
      refine L.nil ?_
      exact C.againR 18 (k + 1, v, ν) ⟨by simp only; omega, by simp only; rw [numK_no hx hr]; exact ha⟩ (by simp only; omega) ⟨(by first | rfl | (show some (Value.int _ _) = some (Value.int _ _); congr 2; omega)), (by first | rfl | (show some (Value.int _ _) = some (Value.int _ _); congr 2; omega)), trivial⟩ rfl rfl (List.Sublist.refl _) (ds_same)
  · obtain rfl : k = ms.length := by simp only at hc1; omega
    have hnk := numK_len y ms ms.length
    refine C.exit ?_
    refine C.thenExit ?_
    refine C.thenExit ?_
    refine C.blockExit ?_
    refine C.next ?_
    refine C.seq ?_
    refine C.region [(false,0),(false,1)] rfl ?_
    refine L.move rfl rfl rfl trivial ?_
    refine L.assign rfl rfl rfl trivial ?_
    refine L.nil ?_
    refine C.next ?_
    refine C.ret ?_
    refine Q.freeze (A := []) (B := []) ha rfl (fun D2 hD2 hF => ?_)
    exact leave (vs := [_]) rfl rfl rfl ⟨rfl, trivial⟩ (fun D' hD => (hF.ints rfl (by have := hcap; omega)).up RI.up (hD _ (by simp)))
theorem BoundsR_ok (av nv : Value) (ms ns : List Int) (D : Data) (hm : Sl D RI 1 av ms) (hn : Sl D RI 1 nv ns) (hns : ∀ x ∈ ns, ∃ k : Nat, x = (k : Int) ∧ k < ms.length) : Fn Try.prog 42 #[av, nv] D (fun _ v => v = k2V (bndR ms ns)) := by
  have hml := hm.len
  have hnl := hn.len
  refine enter 32 Try.func42 rfl rfl rfl rfl fun h0 => ?_
  refine C.seq ?_
  refine C.region [(false,0)] rfl ?_
  refine L.alloc rfl Tf.z67 rfl rfl trivial (fun q1 => ?_)
  refine L.nil ?_
  refine C.next ?_
  refine C.seq ?_
  refine C.region [(false,0),(false,1),(false,2)] rfl ?_
  refine L.build (cs := [.int .i64 99, .int .i64 (-1)]) rfl Tf.p67 Tf.z67 rfl rfl rfl trivial ?_
  refine L.alloc rfl Tf.z67 rfl rfl trivial (fun q2 => ?_)
  refine L.storeW rfl rfl rfl rfl Tf.s67 (by first | rfl | (simp only [ints_length, *]; done) | (simp only [ints_length, *]; rfl) | (simp only [ints_length, *]; omega)) (by first | rfl | (simp only [ints_length, *]; done) | (simp only [ints_length, *]; rfl) | (simp only [ints_length, *]; omega)) (Has.head) (by first | exact ints_cell1 _ | simp [cell1]) trivial ?_
  refine L.nil ?_
  refine C.next ?_
  refine C.seq ?_
  refine C.seq ?_
  refine C.region [(false,0)] rfl ?_
  refine L.assign rfl rfl rfl trivial ?_
  refine L.nil ?_
  refine C.next ?_
  refine C.block ?_
  refine C.loopR (γ := Nat) (fun k => ns.length - k) (fun k => k ≤ ns.length) (fun k => [(6, .int .i64 (k : Int))]) [(5, _), (4, _), (0, _), (1, _)] (fun k => [(q2, .cells [.int .i64 (bndR ms (ns.take k)).1, .int .i64 (bndR ms (ns.take k)).2].toArray 67 (0, 0)), (q1, .cells [.int .i64 0, .int .i64 0].toArray 67 (0, 0))]) (fun k => [D]) 0 (by omega) ⟨(by first | rfl | (show some (Value.int _ _) = some (Value.int _ _); congr 2; omega)), trivial⟩ ⟨rfl, rfl, rfl, rfl, trivial⟩ (List.Sublist.refl _) (ds_same) ?_
  rintro k h1
  refine C.seq ?_
  refine C.seq ?_
  refine C.region [(false,0),(false,1),(false,2),(false,3)] rfl ?_
  refine L.move rfl rfl rfl trivial ?_
  refine L.move rfl rfl rfl trivial ?_
  refine L.len rfl Try.underlying52 rfl hn rfl rfl trivial ?_
  refine L.lss rfl rfl rfl rfl trivial ?_
  refine L.nil ?_
  refine C.next ?_
  refine C.condD rfl (fun hc1 => ?_) (fun hc1 => ?_)
  · have hk : k < ns.length := by omega
    obtain ⟨x, hx⟩ : ∃ x, ns[k]? = some x := ⟨_, List.getElem?_eq_getElem hk⟩
    obtain ⟨j, rfl, hj⟩ := hns x (List.mem_of_getElem? hx)
    obtain ⟨w, hz⟩ : ∃ w, ms[j]? = some w := ⟨_, List.getElem?_eq_getElem hj⟩
    refine C.skip ?_
    refine C.next ?_
    refine C.seq ?_
    refine C.block ?_
    refine C.seq ?_
    refine C.region [(false,0),(false,1),(false,2),(false,3),(false,4),(false,5),(false,6),(false,7)] rfl ?_
    refine L.move rfl rfl rfl trivial ?_
    refine L.move rfl rfl rfl trivial ?_
    refine L.move rfl rfl rfl trivial ?_
    refine L.indexS rfl Try.underlying52 Tf.s3 rfl hn rfl (by omega) hx rfl trivial (fun b1 o1 cs1 hr1 hcl1 hA1 => ?_)
    obtain rfl : cs1 = [.int .i64 _] := hr1
    refine L.loadD1 rfl (k := 0) Tf.a3 rfl hA1 (by first | simp | assumption) rfl List.not_mem_nil rfl trivial ?_
    refine L.indexS rfl Try.underlying52 Tf.s3 rfl hm rfl (by omega) hz rfl trivial (fun b2 o2 cs2 hr2 hcl2 hA2 => ?_)
    obtain rfl : cs2 = [.int .i64 _] := hr2
    refine L.loadD1 rfl (k := 0) Tf.a3 rfl hA2 (by first | simp | assumption) rfl List.not_mem_nil rfl trivial ?_
    refine L.assign rfl rfl rfl trivial ?_
    refine L.nil ?_
    refine C.next ?_
    refine C.region [(false,0),(false,1),(false,2),(false,3),(false,4),(false,5),(false,6),(false,7),(false,8),(false,9)] rfl ?_
    refine L.fieldAddr rfl Tf.f67_0 rfl rfl trivial ?_
    refine L.loadB1 rfl Tf.a3 rfl (List.Mem.head _) rfl List.not_mem_nil rfl trivial ?_
    refine L.move rfl rfl rfl trivial ?_
    refine L.min2 rfl rfl rfl rfl trivial ?_
    refine L.fieldAddr rfl Tf.f67_1 rfl rfl trivial ?_
    refine L.loadB1 rfl Tf.a3 rfl (List.Mem.head _) rfl List.not_mem_nil rfl trivial ?_
    refine L.move rfl rfl rfl trivial ?_
    refine L.max2 rfl rfl rfl rfl trivial ?_
    refine L.build (cs := [.int .i64 (min (bndR ms (ns.take k)).1 w), .int .i64 (max (bndR ms (ns.take k)).2 w)]) rfl Tf.p67 Tf.z67 rfl rfl rfl trivial ?_
    refine L.storeW rfl rfl rfl rfl Tf.s67 (by first | rfl | (simp only [ints_length, *]; done) | (simp only [ints_length, *]; rfl) | (simp only [ints_length, *]; omega)) (by first | rfl | (simp only [ints_length, *]; done) | (simp only [ints_length, *]; rfl) | (simp only [ints_length, *]; omega)) (Has.head) (by first | exact ints_cell1 _ | simp [cell1]) trivial ?_
    refine L.nil ?_
    refine C.blockEnd ?_
    refine C.next ?_
    refine C.region [(false,0),(false,1),(false,2)] rfl ?_
    refine L.move rfl rfl rfl trivial ?_
    refine L.add rfl rfl rfl (by simp only [inK]; omega) rfl trivial ?_
    refine L.assign rfl rfl rfl trivial ?_
    refine L.nil ?_
    have e9 := bndR_step hx hz
    rw [show min (bndR ms (ns.take k)).1 w = (bndR ms (ns.take (k + 1))).1 by rw [e9], show max (bndR ms (ns.take k)).2 w = (bndR ms (ns.take (k + 1))).2 by rw [e9]]
    exact C.againR 25 (k + 1) (by omega) (by omega) ⟨(by first | rfl | (show some (Value.int _ _) = some (Value.int _ _); congr 2; omega)), trivial⟩ rfl rfl (List.Sublist.refl _) (ds_same)
  · obtain rfl : k = ns.length := by omega
    rw [List.take_length]
    refine C.exit ?_
    refine C.thenExit ?_
    refine C.thenExit ?_
    refine C.blockExit ?_
    refine C.next ?_
    refine C.seq ?_
    refine C.region [(false,0),(false,1)] rfl ?_
    refine L.loadBW rfl Tf.a67 rfl (List.Mem.head _) Tf.s67 List.not_mem_nil rfl trivial ?_
    refine L.storeW rfl rfl rfl rfl Tf.s67 (by first | rfl | (simp only [ints_length, *]; done) | (simp only [ints_length, *]; rfl) | (simp only [ints_length, *]; omega)) (by first | rfl | (simp only [ints_length, *]; done) | (simp only [ints_length, *]; rfl) | (simp only [ints_length, *]; omega)) (.tail (Has.head)) (by first | exact ints_cell1 _ | simp [cell1]) trivial ?_
    refine L.nil ?_
    refine C.next ?_
    refine C.ret ?_
    exact leave (vs := [_]) rfl rfl rfl ⟨⟨_, _, _, rfl, (List.Mem.tail _ (List.Mem.head _)), Or.inr ⟨Tf.a67, (by first | exact Tf.s67 | (simp only [List.size_toArray, ints_length, *]; exact Tf.s67)), rfl⟩⟩, trivial⟩ (fun D hD => rfl)
end Go.Fs
