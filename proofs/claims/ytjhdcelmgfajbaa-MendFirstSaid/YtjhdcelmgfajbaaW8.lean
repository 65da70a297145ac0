/- Walks: a truth is played. -/
import Derived.Test.YtjhdcelmgfajbaaW7
namespace Go.Fs
open Go.Proofs
open C7
structure YOk (y : YardD) : Prop where
  len : y.chairs.length ≤ 7
  cls : y.claims.length ≤ 5
  fit : 0 ≤ y.fit ∧ y.fit ≤ 9
  size : ∀ c ∈ y.chairs, 0 ≤ c.size ∧ c.size ≤ 9
  part : ∀ c ∈ y.chairs, ∀ n ∈ c.parts.l, 0 ≤ n ∧ n ≤ 2
  claim : ∀ r ∈ y.claims, 0 ≤ r.1 ∧ r.1 ≤ r.2 ∧ r.2 ≤ 7
  unk : unknown y.chairs ≤ 8
theorem yOk {y : YardD} (h : fault y = 0) : YOk y := by
  unfold fault at h
  split at h
  · omega
  · rename_i h1
    split at h
    · omega
    · rename_i h2
      split at h
      · omega
      · rename_i h3
        have h4 : yardOk y = true := by simpa using h2
        simp only [yardOk, Bool.and_eq_true, List.all_eq_true, inB_iff] at h4
        obtain ⟨⟨h5, h6⟩, h7⟩ := h4
        refine ⟨by omega, by omega, h5, fun c hc => ?_, fun c hc n hn => ?_, fun r hr => ?_, by omega⟩
        · have := h6 c hc; simp only [chairOk, Bool.and_eq_true, inB_iff] at this; exact this.1
        · have := h6 c hc; simp only [chairOk, Bool.and_eq_true, ptsOk, List.all_eq_true] at this
          exact inB_iff.1 (this.2 n hn)
        · have := h7 r hr; simp only [claimOk, Bool.and_eq_true, decide_eq_true_eq] at this; exact ⟨this.1.1, this.1.2, this.2⟩
theorem truthOk {y : YardD} {t : List Pt} (h : isTruth y t = true) : t.length = y.chairs.length ∧ ∀ p ∈ t, Bits1 p := by
  unfold isTruth at h
  simp only [Bool.and_eq_true, decide_eq_true_eq, List.all_eq_true] at h
  refine ⟨h.1, fun p hp => ?_⟩
  obtain ⟨i, hi⟩ := List.mem_iff_getElem?.1 hp
  obtain ⟨hlt, _⟩ := List.getElem?_eq_some_iff.1 hi
  have hc : y.chairs[i]? = some (y.chairs[i]'(by omega)) := List.getElem?_eq_getElem _
  have := h.2 (y.chairs[i]'(by omega), p) (List.mem_of_getElem? (i := i) (by rw [List.getElem?_zip_eq_some]; exact ⟨hc, hi⟩))
  simp only [ptsIs, Pt.l, List.zip_cons_cons, List.zip_nil_left, List.all_cons, List.all_nil, Bool.and_true, Bool.and_eq_true, partIs, inB_iff] at this
  exact ⟨this.1.1, this.2.1.1, this.2.2.1⟩
/-- A claim is right, or left out. -/
def rightAt (cl : List (Int × Int)) (out : List Int) (n : Int) (i : Nat) : Bool := (out.any fun x => decide ((i : Int) = x)) || (match cl[i]? with | some r => inB n r.1 r.2 | none => true)
def rightO (cl : List (Int × Int)) (out : List Int) (n : Int) : Bool := (List.range cl.length).all (rightAt cl out n)
theorem right_yes {cl : List (Int × Int)} {out : List Int} {n : Int} {i : Nat} {r : Int × Int} (hr : cl[i]? = some r) (h : ((!out.any fun x => decide ((i : Int) = x)) && !inB n r.1 r.2) = false) : rightAt cl out n i = true := by
  unfold rightAt; rw [hr]; revert h
  cases out.any fun x => decide ((i : Int) = x) <;> simp
theorem right_no {cl : List (Int × Int)} {out : List Int} {n : Int} {i : Nat} {r : Int × Int} (hi : i < cl.length) (hr : cl[i]? = some r) (h : ((!out.any fun x => decide ((i : Int) = x)) && !inB n r.1 r.2) = true) : rightO cl out n = false := by
  unfold rightO
  rw [List.all_eq_false]
  refine ⟨i, List.mem_range.2 hi, ?_⟩
  unfold rightAt; rw [hr]; revert h
  cases out.any fun x => decide ((i : Int) = x) <;> simp
theorem right_all {cl : List (Int × Int)} {out : List Int} {n : Int} (h : ∀ j, j < cl.length → rightAt cl out n j = true) : rightO cl out n = true := by
  unfold rightO; rw [List.all_eq_true]; exact fun j hj => h j (List.mem_range.1 hj)
def mostT (y : YardD) (t : List Pt) : Nat := mostS y.chairs.length (sceneD y t)
/-- What Play returns. -/
def playV (y : YardD) (t : List Pt) : Int × Int := if fault y ≠ 0 then (0, fault y) else if isTruth y t = true then ((mostT y t : Nat), 0) else (0, 2)
def pairsV (y : YardD) (t : List Pt) : List (Int × Int) := if (playV y t).2 = 0 then pI (pairB (sceneD y t).fits y.chairs.length (sceneD y t).broken) else []
theorem play_ok {y : YardD} {t : List Pt} (h : (playV y t).2 = 0) : fault y = 0 ∧ isTruth y t = true := by
  unfold playV at h
  split at h
  · rename_i hf; exact absurd h hf
  · rename_i hf
    split at h
    · rename_i ht; exact ⟨by omega, ht⟩
    · simp at h
theorem pairing_ok (wb mb : Nat) (cv qv : Value) (fit : Int) (chs : List Ch) (s : Sc) (hn7 : chs.length ≤ 7) (hs : ScOk chs.length s) (es : Array MapEntry) (clock : Nat) (M : List (Ints 8 × Int)) (D : Data) (hS : Sl D RCh 4 cv chs) (hM : MapG kaV es M) (hok : MOk chs.length M) :
    FnM Try.prog 76 [.pointer (some ⟨wb, 0, none⟩), scV s] D [(wb, .cells [cv, .int .i64 fit, qv, .map (some mb)].toArray 148 (0, 0)), (mb, .map es clock)] (fun D' v ν' => Sl D' R2 2 v (pI (pairB s.fits chs.length s.broken)) ∧ ∃ es' clock' M', ν' = [(wb, .cells [cv, .int .i64 fit, qv, .map (some mb)].toArray 148 (0, 0)), (mb, .map es' clock')] ∧ MapG kaV es' M' ∧ MOk chs.length M') := by
  obtain ⟨w, b, F⟩ := s
  obtain ⟨a0, a1, a2, a3, a4, a5, a6, rfl⟩ := list7 hs.len
  exact pairing0_ok wb mb cv qv fit chs w b a0 a1 a2 a3 a4 a5 a6 hn7 hs.row hs.bits es clock M D hS hM hok
theorem work_ok (yv : Value) (y : YardD) (cv qv : Value) (D : Data) (hy : yv = .agg #[cv, .int .i64 y.fit, qv]) : FnO Try.prog 75 #[yv] D (fun _ v ν => ∃ wb mb, v = .pointer (some ⟨wb, 0, none⟩) ∧ ν = [(wb, .cells [cv, .int .i64 y.fit, qv, .map (some mb)].toArray 148 (0, 0)), (mb, .map #[] 0)]) := by
  subst hy
  refine enterO 7 Try.func75 rfl rfl rfl rfl fun h0 => ?_
  refine C.seq ?_
  refine C.region [(false,0),(false,1)] rfl ?_
  refine L.boxD rfl rfl rfl rfl trivial (fun q1 E1 hE1 hB1 => ?_)
  refine L.assign rfl rfl rfl trivial ?_
  refine L.nil ?_
  refine C.next ?_
  refine C.seq ?_
  refine C.region [(false,0),(false,1),(false,2),(false,3),(false,4)] rfl ?_
  refine L.loadDW rfl Tf.a37 rfl hB1 (by first | simp | assumption) Tf.s37 List.not_mem_nil rfl trivial ?_
  refine L.makeMap rfl rfl trivial (fun qm => ?_)
  refine L.build (cs := [cv, .int .i64 y.fit, qv, .map (some qm)]) rfl Tf.p148 Tf.z148 rfl rfl rfl trivial ?_
  refine L.box rfl (e := 148) rfl rfl rfl trivial (fun q2 => ?_)
  refine L.assign rfl rfl rfl trivial ?_
  refine L.nil ?_
  refine C.next ?_
  refine C.ret ?_
  exact leave (vs := [_]) rfl rfl rfl ⟨rfl, trivial⟩ (fun D hD => ⟨_, _, rfl, rfl⟩)
theorem Index_ok (sv : Value) (xs : List Int) (n : Int) (D : Data) (hS : Sl D RI 1 sv xs) : Fn Try.prog 124 #[sv, .int .i64 n] D (fun _ v => v = .int .i64 (idxOf (fun x => decide (n = x)) xs)) := by
  have hl := hS.len
  refine enter 19 Try.func124 rfl rfl rfl rfl fun h0 => ?_
  refine C.seq ?_
  refine C.region [(false,0)] rfl ?_
  refine L.assign rfl rfl rfl trivial ?_
  refine L.nil ?_
  refine C.next ?_
  refine C.seq ?_
  refine C.seq ?_
  refine C.region [(false,0),(false,1),(false,2)] rfl ?_
  refine L.move rfl rfl rfl trivial ?_
  refine L.len rfl Try.underlying52 rfl (by assumption) rfl rfl trivial ?_
  refine L.move rfl rfl rfl trivial ?_
  refine L.nil ?_
  refine C.next ?_
  refine C.block ?_
  refine C.loopC (γ := Nat) (fun k => xs.length - k) (fun k => k ≤ xs.length ∧ (xs.take k).any (fun x => decide (n = x)) = false) (fun k => [(8, .int .i64 k)]) [(7, _), (4, _), (0, _), (1, _)] (fun k => [D]) 0 (by simp) ⟨(by first | rfl | (show some (Value.int _ _) = some (Value.int _ _); congr 2; omega)), trivial⟩ ⟨rfl, rfl, rfl, rfl, trivial⟩ (ds_same) ?_
  rintro k ⟨h1, h2⟩
  refine C.seq ?_
  refine C.region [(false,0)] rfl ?_
  refine L.lss rfl rfl rfl rfl trivial ?_
  refine L.nil ?_
  refine C.next ?_
  refine C.seq ?_
  refine C.condD rfl (fun hc1 => ?_) (fun hc1 => ?_)
  · have hk : k < xs.length := by omega
    obtain ⟨x, hx⟩ : ∃ x, xs[k]? = some x := ⟨_, List.getElem?_eq_getElem hk⟩
    refine C.skip ?_
    refine C.next ?_
    refine C.seq ?_
    refine C.block ?_
    refine C.seq ?_
    refine C.region [(false,0),(false,1)] rfl ?_
    refine L.move rfl rfl rfl trivial ?_
    refine L.assign rfl rfl rfl trivial ?_
    refine L.nil ?_
    refine C.next ?_
    refine C.seq ?_
    refine C.region [(false,0),(false,1),(false,2),(false,3),(false,4),(false,5)] rfl ?_
    refine L.move rfl rfl rfl trivial ?_
    refine L.move rfl rfl rfl trivial ?_
    refine L.move rfl rfl rfl trivial ?_
    refine L.indexS rfl Try.underlying52 Tf.s3 rfl (by assumption) rfl (by omega) (by assumption) rfl trivial (fun b1 o1 cs1 hr1 hcl1 hA1 => ?_)
    obtain rfl : cs1 = [.int .i64 _] := hr1
    refine L.loadD1 rfl (k := 0) Tf.a3 rfl hA1 (by first | simp | assumption) rfl List.not_mem_nil rfl trivial ?_
    refine L.eql rfl rfl rfl rfl trivial ?_
    refine L.nil ?_
    refine C.next ?_
    refine C.condD rfl (fun hc2 => ?_) (fun hc2 => ?_)
    · refine C.seq ?_
      refine C.region [(false,0),(false,1)] rfl ?_
      refine L.move rfl rfl rfl trivial ?_
      refine L.assign rfl rfl rfl trivial ?_
      refine L.nil ?_
      refine C.next ?_
      refine C.ret ?_
      refine C.blockRet ?_
      refine C.thenRet ?_
      refine C.thenRet ?_
      refine C.blockRet ?_
      refine C.thenRet ?_
      exact leave (vs := [_]) rfl rfl rfl ⟨rfl, trivial⟩ (fun D hD => by show Value.int _ _ = _; rw [idxOf_at hx h2 (by simp [hc2])])
    · refine C.skip ?_
      refine C.blockEnd ?_
      refine C.next ?_
      refine C.region [(false,0),(false,1)] rfl ?_
      refine L.add rfl rfl rfl (by simp only [inK]; omega) rfl trivial ?_
      refine L.move rfl rfl rfl trivial ?_
      refine L.nil ?_
      have h3 : (xs.take (k + 1)).any (fun x => decide (n = x)) = false := by rw [List.take_add_one, hx, List.any_append, h2]; simp [hc2]
      exact C.againR 12 (k + 1) ⟨by omega, h3⟩ (by omega) ⟨(by first | rfl | (show some (Value.int _ _) = some (Value.int _ _); congr 2; omega)), trivial⟩ rfl rfl (List.Sublist.refl _) (ds_same)
  · refine C.exit ?_
    refine C.thenExit ?_
    refine C.thenExit ?_
    refine C.blockExit ?_
    refine C.next ?_
    refine C.seq ?_
    refine C.region [(false,0)] rfl ?_
    refine L.assign rfl rfl rfl trivial ?_
    refine L.nil ?_
    refine C.next ?_
    refine C.ret ?_
    exact leave (vs := [_]) rfl rfl rfl ⟨rfl, trivial⟩ (fun D hD => by show Value.int _ _ = _; rw [idxOf_none (by rwa [List.take_of_length_le (by omega)] at h2)])
theorem Contains_ok (sv : Value) (xs : List Int) (n : Int) (D : Data) (hS : Sl D RI 1 sv xs) : Fn Try.prog 114 #[sv, .int .i64 n] D (fun _ v => v = .bool (xs.any fun x => decide (n = x))) := by
  refine enter 9 Try.func114 rfl rfl rfl rfl fun h0 => ?_
  refine C.seq ?_
  refine C.region [(false,0)] rfl ?_
  refine L.assign rfl rfl rfl trivial ?_
  refine L.nil ?_
  refine C.next ?_
  refine C.seq ?_
  refine C.region [(false,0),(false,1),(false,2),(false,3),(false,4)] rfl ?_
  refine L.move rfl rfl rfl trivial ?_
  refine L.move rfl rfl rfl trivial ?_
  refine L.callV rfl rfl rfl (fun D1 hD1 => Index_ok _ xs n _ (Sl.at RI.up hD1 (by assumption) (by simp))) rfl trivial ?_
  refine L.geq rfl rfl rfl rfl trivial ?_
  refine L.assign rfl rfl rfl trivial ?_
  refine L.nil ?_
  refine C.next ?_
  refine C.ret ?_
  exact leave (vs := [_]) rfl rfl rfl ⟨rfl, trivial⟩ (fun D hD => by show Value.bool (decide _) = _; rw [idxOf_ge])
theorem right_ok (yv : Value) (y : YardD) (n : Int) (ov : Value) (out : List Int) (D : Data) (hy : YardIs D yv y) (ho : Sl D RI 1 ov out) : Fn Try.prog 101 #[yv, .int .i64 n, ov] D (fun _ v => v = .bool (rightO y.claims out n)) := by
  obtain ⟨cv, qv, rfl, hc, hq⟩ := hy
  have hl := hq.len
  refine enter 28 Try.func101 rfl rfl rfl rfl fun h0 => ?_
  refine C.seq ?_
  refine C.region [(false,0),(false,1)] rfl ?_
  refine L.boxD rfl rfl rfl rfl trivial (fun q1 E1 hE1 hB1 => ?_)
  refine L.assign rfl rfl rfl trivial ?_
  refine L.nil ?_
  refine C.next ?_
  refine C.seq ?_
  refine C.seq ?_
  refine C.region [(false,0),(false,1),(false,2),(false,3)] rfl ?_
  refine L.fieldAddr rfl Tf.f37_2 rfl rfl trivial ?_
  refine L.loadD1 rfl (k := 2) Tf.a35 rfl hB1 (by first | simp | assumption) rfl List.not_mem_nil rfl trivial ?_
  refine L.len rfl Try.underlying35 rfl hq rfl rfl trivial ?_
  refine L.move rfl rfl rfl trivial ?_
  refine L.nil ?_
  refine C.next ?_
  refine C.block ?_
  refine C.loopC (γ := Nat) (fun i => y.claims.length - i) (fun i => i ≤ y.claims.length ∧ ∀ j, j < i → rightAt y.claims out n j = true) (fun i => [(12, .int .i64 (i : Int))]) [(11, _), (10, _), (6, _), (1, _), (2, _)] (fun i => [E1, D]) 0 (by simp) ⟨(by first | rfl | (show some (Value.int _ _) = some (Value.int _ _); congr 2; omega)), trivial⟩ ⟨rfl, rfl, rfl, rfl, rfl, trivial⟩ (ds_same) ?_
  rintro i ⟨h1, h2⟩
  refine C.seq ?_
  refine C.region [(false,0)] rfl ?_
  refine L.lss rfl rfl rfl rfl trivial ?_
  refine L.nil ?_
  refine C.next ?_
  refine C.seq ?_
  refine C.condD rfl (fun hc1 => ?_) (fun hc1 => ?_)
  · have hi : i < y.claims.length := by omega
    obtain ⟨r, hr0⟩ : ∃ r, y.claims[i]? = some r := ⟨_, List.getElem?_eq_getElem hi⟩
    refine C.skip ?_
    refine C.next ?_
    refine C.seq ?_
    refine C.block ?_
    refine C.seq ?_
    refine C.region [(false,0),(false,1),(false,2),(false,3),(false,4),(false,5)] rfl ?_
    refine L.move rfl rfl rfl trivial ?_
    refine L.indexS rfl Try.underlying35 Tf.s61 rfl hq rfl (by omega) hr0 rfl trivial (fun b1 o1 cs1 hr1 hcl1 hA1 => ?_)
    obtain rfl : cs1 = [.int .i64 _, .int .i64 _] := hr1
    refine L.loadDW rfl Tf.a61 rfl hA1 (by first | simp | assumption) Tf.s61 List.not_mem_nil rfl trivial ?_
    refine L.alloc rfl Tf.z61 rfl rfl trivial (fun q2 => ?_)
    refine L.assign rfl rfl rfl trivial ?_
    refine L.storeW rfl rfl rfl rfl Tf.s61 (by first | rfl | (simp only [ints_length, *]; done) | (simp only [ints_length, *]; rfl) | (simp only [ints_length, *]; omega)) (by first | rfl | (simp only [ints_length, *]; done) | (simp only [ints_length, *]; rfl) | (simp only [ints_length, *]; omega)) (Has.head) (by first | exact ints_cell1 _ | simp [cell1]) trivial ?_
    refine L.nil ?_
    refine C.next ?_
    refine C.seq ?_
    refine C.region [(false,0),(false,1),(false,2),(false,3),(false,4),(false,5),(false,6),(false,7),(false,8),(false,9)] rfl ?_
    refine L.move rfl rfl rfl trivial ?_
    refine L.move rfl rfl rfl trivial ?_
    refine L.callV rfl rfl rfl (fun D1 hD1 => Contains_ok _ out (i : Int) _ (Sl.at RI.up hD1 (by assumption) (by simp))) rfl trivial ?_
    refine L.not rfl rfl rfl trivial ?_
    refine L.move rfl rfl rfl trivial ?_
    refine' L.and [(false,5),(false,6),(false,7),(false,8),(false,9)] [] (s := 21) (p := 26) rfl rfl (fun hg1 => ?_) (fun hg1 => ?_) ?_
    rotate_left
    · refine L.loadBW rfl Tf.a61 rfl (List.Mem.head _) Tf.s61 List.not_mem_nil rfl ⟨_, rfl, rfl⟩ ?_
      refine L.move rfl rfl rfl ⟨_, rfl, rfl⟩ ?_
      refine L.callV rfl rfl rfl (fun D2 hD2 => has_ok r n _) rfl ⟨_, rfl, rfl⟩ ?_
      refine L.not rfl rfl rfl ⟨_, rfl, rfl⟩ ?_
      refine L.pickT rfl rfl rfl rfl trivial ?_
      exact L.nil fun a w hh => hh.cutK 4 rfl
    · refine L.pass rfl rfl rfl ⟨_, _, rfl, rfl, rfl⟩ ?_
      refine L.pass rfl rfl rfl ⟨_, _, rfl, rfl, rfl⟩ ?_
      refine L.pass rfl rfl rfl ⟨_, _, rfl, rfl, rfl⟩ ?_
      refine L.pass rfl rfl rfl ⟨_, _, rfl, rfl, rfl⟩ ?_
      refine L.pickF rfl rfl rfl rfl trivial ?_
      exact L.nil fun a w hh => hh.cutK 4 rfl
    refine L.nil ?_
    refine C.next ?_
    refine C.cond rfl (fun hc2 => ?_) (fun hc2 => ?_)
    · refine C.seq ?_
      refine C.region [(false,0)] rfl ?_
      refine L.assign rfl rfl rfl trivial ?_
      refine L.nil ?_
      refine C.next ?_
      refine C.ret ?_
      refine C.blockRet ?_
      refine C.thenRet ?_
      refine C.thenRet ?_
      refine C.blockRet ?_
      refine C.thenRet ?_
      exact leave (vs := [_]) rfl rfl rfl ⟨rfl, trivial⟩ (fun D hD => by show Value.bool _ = _; rw [right_no hi hr0 hc2])
    · refine C.skip ?_
      refine C.blockEnd ?_
      refine C.next ?_
      refine C.region [(false,0),(false,1)] rfl ?_
      refine L.add rfl rfl rfl (by simp only [inK]; omega) rfl trivial ?_
      refine L.move rfl rfl rfl trivial ?_
      refine L.nil ?_
      exact C.againR 15 (i + 1) ⟨by omega, fun j hj => by rcases Nat.lt_succ_iff_lt_or_eq.1 hj with h | rfl; exact h2 j h; exact right_yes hr0 hc2⟩ (by omega) ⟨(by first | rfl | (show some (Value.int _ _) = some (Value.int _ _); congr 2; omega)), trivial⟩ rfl rfl (List.Sublist.cons _ (List.Sublist.refl _)) (ds_same)
  · obtain rfl : i = y.claims.length := by omega
    refine C.exit ?_
    refine C.thenExit ?_
    refine C.thenExit ?_
    refine C.blockExit ?_
    refine C.next ?_
    refine C.seq ?_
    refine C.region [(false,0)] rfl ?_
    refine L.assign rfl rfl rfl trivial ?_
    refine L.nil ?_
    refine C.next ?_
    refine C.ret ?_
    exact leave (vs := [_]) rfl rfl rfl ⟨rfl, trivial⟩ (fun D hD => by show Value.bool _ = _; rw [right_all h2])
theorem Play_ok (yv tv : Value) (y : YardD) (t : List Pt) (D : Data) (hy : YardIs D yv y) (ht : Sl D RP 3 tv t) : Fn Try.prog 57 #[yv, tv] D (fun _ v => v = .tuple #[.int .i64 (playV y t).1, .int .i64 (playV y t).2]) := by
  have hy0 := hy
  obtain ⟨cv, qv, rfl, hc, hq⟩ := hy
  refine enter 22 Try.func57 rfl rfl rfl rfl fun h0 => ?_
  refine C.seq ?_
  refine C.region [(false,0),(false,1),(false,2)] rfl ?_
  refine L.boxD rfl rfl rfl rfl trivial (fun q1 E1 hE1 hB1 => ?_)
  refine L.assign rfl rfl rfl trivial ?_
  refine L.assign rfl rfl rfl trivial ?_
  refine L.nil ?_
  refine C.next ?_
  refine C.seq ?_
  refine C.seq ?_
  refine C.region [(false,0),(false,1),(false,2)] rfl ?_
  refine L.loadDW rfl Tf.a37 rfl hB1 (by first | simp | assumption) Tf.s37 List.not_mem_nil rfl trivial ?_
  refine L.callV rfl rfl rfl (fun D1 hD1 => CheckYard_ok _ y _ (hy0.up (hD1 _ (by simp)))) rfl trivial ?_
  refine L.assign rfl rfl rfl trivial ?_
  refine L.nil ?_
  refine C.next ?_
  refine C.seq ?_
  refine C.region [(false,0),(false,1)] rfl ?_
  refine L.move rfl rfl rfl trivial ?_
  refine L.neq rfl rfl rfl rfl trivial ?_
  refine L.nil ?_
  refine C.next ?_
  refine C.condD rfl (fun hc1 => ?_) (fun hc1 => ?_)
  · refine C.seq ?_
    refine C.region [(false,0),(false,1),(false,2)] rfl ?_
    refine L.move rfl rfl rfl trivial ?_
    refine L.assign rfl rfl rfl trivial ?_
    refine L.assign rfl rfl rfl trivial ?_
    refine L.nil ?_
    refine C.next ?_
    refine C.ret ?_
    refine C.thenRet ?_
    exact leave (vs := [_, _]) rfl rfl rfl ⟨rfl, rfl, trivial⟩ (fun D hD => by show Value.tuple _ = _; rw [playV, if_pos hc1])
  · have hf0 : fault y = 0 := by omega
    have hyo := yOk hf0
    have hn7 := hyo.len
    refine C.skip ?_
    refine C.next ?_
    refine C.seq ?_
    refine C.seq ?_
    refine C.region [(false,0),(false,1),(false,2),(false,3)] rfl ?_
    refine L.loadDW rfl Tf.a37 rfl hB1 (by first | simp | assumption) Tf.s37 List.not_mem_nil rfl trivial ?_
    refine L.move rfl rfl rfl trivial ?_
    refine L.callV rfl rfl rfl (fun D2 hD2 => is_ok _ _ y t _ (hy0.up (hD2 _ (by simp))) (ht.up RP.up (hD2 _ (by simp)))) rfl trivial ?_
    refine L.not rfl rfl rfl trivial ?_
    refine L.nil ?_
    refine C.next ?_
    refine C.cond rfl (fun hc2 => ?_) (fun hc2 => ?_)
    · refine C.seq ?_
      refine C.region [(false,0),(false,1)] rfl ?_
      refine L.assign rfl rfl rfl trivial ?_
      refine L.assign rfl rfl rfl trivial ?_
      refine L.nil ?_
      refine C.next ?_
      refine C.ret ?_
      refine C.thenRet ?_
      exact leave (vs := [_, _]) rfl rfl rfl ⟨rfl, rfl, trivial⟩ (fun D hD => by show Value.tuple _ = _; rw [playV, if_neg hc1, if_neg (by simpa using hc2)])
    · have hit : isTruth y t = true := by simpa using hc2
      obtain ⟨htl, htb⟩ := truthOk hit
      have hsc := scene_ok' htl (by omega)
      refine C.skip ?_
      refine C.next ?_
      refine C.seq ?_
      refine C.draw [] 2 [0,2,3,1,4,5,6,7] [false,true,true,true,false,false,false,false] [(false,0),(true,2),(true,3),(true,1),(false,4),(false,5),(false,6),(false,7)] Tf.follows (fun _ _ _ h => np_body (P := Try.prog) (fn := Try.f57) _ _ _ h) (by kernel_rfl) rfl ?_
      refine L.loadDW rfl Tf.a37 rfl hB1 (by first | simp | assumption) Tf.s37 List.not_mem_nil rfl trivial ?_
      refine L.loadDW rfl Tf.a37 rfl hB1 (by first | simp | assumption) Tf.s37 List.not_mem_nil rfl trivial ?_
      refine L.move rfl rfl rfl trivial ?_
      refine L.callO (μ := _) rfl rfl rfl (fun D5 hD5 => work_ok _ y _ _ D5 rfl) rfl trivial (fun v5 D6 _ hD6 hp5 => ?_)
      obtain ⟨wb, mb, rfl, rfl⟩ := hp5
      refine L.callV rfl rfl rfl (fun D3 hD3 => scene_ok _ _ y t _ (hy0.up (hD3 _ (by simp))) (ht.up RP.up (hD3 _ (by simp))) htl (by omega) htb hyo.fit hyo.size) rfl trivial ?_
      refine L.callM (A := []) (ν := [(_, _), (_, _)]) (B := []) rfl rfl rfl rfl (by first | exact Or.inl rfl | exact Or.inr (fun p hp => List.mem_map.2 ⟨p, hp, rfl⟩)) (unf_w (cs := [_, _, _, _])) (fun D7 hD7 => most_ok wb mb _ _ y.fit y.chairs (sceneD y t) hn7 hsc #[] 0 [] _ (hc.up RCh.up (hD7 _ (by simp))) rfl MOk.nil) rfl trivial (fun v7 D8 _ hD8 hp7 => ?_)
      obtain ⟨rfl, es1, cl1, M1, rfl, hM1, hok1⟩ := hp7
      refine L.assign rfl rfl rfl trivial ?_
      refine L.assign rfl rfl rfl trivial ?_
      refine L.nil ?_
      refine C.next ?_
      refine C.ret ?_
      exact leave (vs := [_, _]) rfl rfl rfl ⟨rfl, rfl, trivial⟩ (fun D hD => by show Value.tuple _ = _; rw [playV, if_neg hc1, if_pos hit]; rfl)
theorem Pairs_ok (yv tv : Value) (y : YardD) (t : List Pt) (D : Data) (hy : YardIs D yv y) (ht : Sl D RP 3 tv t) : Fn Try.prog 22 #[yv, tv] D (fun D' v => ∃ lv, v = .tuple #[lv, .int .i64 (playV y t).2] ∧ Sl D' R2 2 lv (pairsV y t)) := by
  have hy0 := hy
  obtain ⟨cv, qv, rfl, hc, hq⟩ := hy
  refine enter 23 Try.func22 rfl rfl rfl rfl fun h0 => ?_
  refine C.seq ?_
  refine C.region [(false,0),(false,1),(false,2)] rfl ?_
  refine L.boxD rfl rfl rfl rfl trivial (fun q1 E1 hE1 hB1 => ?_)
  refine L.assign rfl rfl rfl trivial ?_
  refine L.assign rfl rfl rfl trivial ?_
  refine L.nil ?_
  refine C.next ?_
  refine C.seq ?_
  refine C.seq ?_
  refine C.region [(false,0),(false,1),(false,2),(false,3),(false,4),(false,5),(false,6),(false,7)] rfl ?_
  refine L.loadDW rfl Tf.a37 rfl hB1 (by first | simp | assumption) Tf.s37 List.not_mem_nil rfl trivial ?_
  refine L.move rfl rfl rfl trivial ?_
  refine L.callV rfl rfl rfl (fun D1 hD1 => Play_ok _ _ y t _ (hy0.up (hD1 _ (by simp))) (ht.up RP.up (hD1 _ (by simp)))) rfl trivial ?_
  refine L.move rfl rfl rfl trivial ?_
  refine L.extract rfl rfl rfl rfl trivial ?_
  refine L.extract rfl rfl rfl rfl trivial ?_
  refine L.assign rfl rfl rfl trivial ?_
  refine L.assign rfl rfl rfl trivial ?_
  refine L.nil ?_
  refine C.next ?_
  refine C.seq ?_
  refine C.region [(false,0),(false,1)] rfl ?_
  refine L.move rfl rfl rfl trivial ?_
  refine L.neq rfl rfl rfl rfl trivial ?_
  refine L.nil ?_
  refine C.next ?_
  refine C.condD rfl (fun hc1 => ?_) (fun hc1 => ?_)
  · refine C.seq ?_
    refine C.region [(false,0),(false,1),(false,2)] rfl ?_
    refine L.move rfl rfl rfl trivial ?_
    refine L.assign rfl rfl rfl trivial ?_
    refine L.assign rfl rfl rfl trivial ?_
    refine L.nil ?_
    refine C.next ?_
    refine C.ret ?_
    refine C.thenRet ?_
    exact leave (vs := [_, _]) rfl rfl rfl ⟨rfl, rfl, trivial⟩ (fun D hD => ⟨_, rfl, by rw [pairsV, if_neg hc1]; exact Sl.nil⟩)
  · obtain ⟨hf0, hit⟩ := play_ok (show (playV y t).2 = 0 by omega)
    have hyo := yOk hf0
    have hn7 := hyo.len
    obtain ⟨htl, htb⟩ := truthOk hit
    have hsc := scene_ok' htl (by omega)
    refine C.skip ?_
    refine C.next ?_
    refine C.seq ?_
    refine C.draw [] 2 [0,2,3,1,4,5,6,7] [false,true,true,true,false,false,false,false] [(false,0),(true,2),(true,3),(true,1),(false,4),(false,5),(false,6),(false,7)] Tf.follows (fun _ _ _ h => np_body (P := Try.prog) (fn := Try.f22) _ _ _ h) (by kernel_rfl) rfl ?_
    refine L.loadDW rfl Tf.a37 rfl hB1 (by first | simp | assumption) Tf.s37 List.not_mem_nil rfl trivial ?_
    refine L.loadDW rfl Tf.a37 rfl hB1 (by first | simp | assumption) Tf.s37 List.not_mem_nil rfl trivial ?_
    refine L.move rfl rfl rfl trivial ?_
    refine L.callO (μ := _) rfl rfl rfl (fun D5 hD5 => work_ok _ y _ _ D5 rfl) rfl trivial (fun v5 D6 _ hD6 hp5 => ?_)
    obtain ⟨wb, mb, rfl, rfl⟩ := hp5
    refine L.callV rfl rfl rfl (fun D2 hD2 => scene_ok _ _ y t _ (hy0.up (hD2 _ (by simp))) (ht.up RP.up (hD2 _ (by simp))) htl (by omega) htb hyo.fit hyo.size) rfl trivial ?_
    refine L.callM (A := []) (ν := [(_, _), (_, _)]) (B := []) rfl rfl rfl rfl (by first | exact Or.inl rfl | exact Or.inr (fun p hp => List.mem_map.2 ⟨p, hp, rfl⟩)) (unf_w (cs := [_, _, _, _])) (fun D7 hD7 => pairing_ok wb mb _ _ y.fit y.chairs (sceneD y t) hn7 hsc #[] 0 [] _ (hc.up RCh.up (hD7 _ (by simp))) rfl MOk.nil) rfl trivial (fun v7 D8 _ hD8 hp7 => ?_)
    obtain ⟨hS7, es1, cl1, M1, rfl, hM1, hok1⟩ := hp7
    refine L.assign rfl rfl rfl trivial ?_
    refine L.assign rfl rfl rfl trivial ?_
    refine L.nil ?_
    refine C.next ?_
    refine C.ret ?_
    exact leave (vs := [_, _]) rfl rfl rfl ⟨rfl, rfl, trivial⟩ (fun D hD => ⟨_, by show Value.tuple _ = _; rw [show (playV y t).2 = 0 by omega], by rw [pairsV, if_pos (by omega)]; exact hS7.up R2.up (hD _ (by simp))⟩)
theorem ProveTruth_ok (yv tv : Value) (y : YardD) (t : List Pt) (D : Data) (hy : YardIs D yv y) (ht : Sl D RP 3 tv t) : Fn Try.prog 66 #[yv, tv] D (fun _ v => v = .bool (decide ((playV y t).2 = 0) && rightO y.claims [] (playV y t).1)) := by
  have hy0 := hy
  obtain ⟨cv, qv, rfl, hc, hq⟩ := hy
  refine enter 20 Try.func66 rfl rfl rfl rfl fun h0 => ?_
  refine C.seq ?_
  refine C.region [(false,0),(false,1)] rfl ?_
  refine L.boxD rfl rfl rfl rfl trivial (fun q1 E1 hE1 hB1 => ?_)
  refine L.assign rfl rfl rfl trivial ?_
  refine L.nil ?_
  refine C.next ?_
  refine C.seq ?_
  refine C.region [(false,0),(false,1),(false,2),(false,3),(false,4),(false,5),(false,6),(false,7)] rfl ?_
  refine L.loadDW rfl Tf.a37 rfl hB1 (by first | simp | assumption) Tf.s37 List.not_mem_nil rfl trivial ?_
  refine L.move rfl rfl rfl trivial ?_
  refine L.callV rfl rfl rfl (fun D1 hD1 => Play_ok _ _ y t _ (hy0.up (hD1 _ (by simp))) (ht.up RP.up (hD1 _ (by simp)))) rfl trivial ?_
  refine L.move rfl rfl rfl trivial ?_
  refine L.extract rfl rfl rfl rfl trivial ?_
  refine L.extract rfl rfl rfl rfl trivial ?_
  refine L.assign rfl rfl rfl trivial ?_
  refine L.assign rfl rfl rfl trivial ?_
  refine L.nil ?_
  refine C.next ?_
  refine C.seq ?_
  refine C.region [(false,0),(false,1),(false,2),(false,3),(false,4),(false,5),(false,6),(false,7)] rfl ?_
  refine L.move rfl rfl rfl trivial ?_
  refine L.eql rfl rfl rfl rfl trivial ?_
  refine L.move rfl rfl rfl trivial ?_
  refine' L.and [(false,3),(false,4),(false,5),(false,6)] [(false,7)] (s := 15) (p := 19) rfl rfl (fun hg1 => ?_) (fun hg1 => ?_) ?_
  rotate_left
  · refine L.loadDW rfl Tf.a37 rfl hB1 (by first | simp | assumption) Tf.s37 List.not_mem_nil rfl ⟨_, rfl, rfl⟩ ?_
    refine L.move rfl rfl rfl ⟨_, rfl, rfl⟩ ?_
    refine L.callV rfl rfl rfl (fun D2 hD2 => right_ok _ y _ _ [] _ (hy0.up (hD2 _ (by simp))) Sl.nil) rfl ⟨_, rfl, rfl⟩ ?_
    refine L.pickT rfl rfl rfl rfl trivial ?_
    exact L.nil fun a w hh => hh.cutK 3 rfl
  · refine L.pass rfl rfl rfl ⟨_, _, rfl, rfl, rfl⟩ ?_
    refine L.pass rfl rfl rfl ⟨_, _, rfl, rfl, rfl⟩ ?_
    refine L.pass rfl rfl rfl ⟨_, _, rfl, rfl, rfl⟩ ?_
    refine L.pickF rfl rfl rfl rfl trivial ?_
    exact L.nil fun a w hh => hh.cutK 3 rfl
  refine L.assign rfl rfl rfl trivial ?_
  refine L.nil ?_
  refine C.next ?_
  refine C.ret ?_
  exact leave (vs := [_]) rfl rfl rfl ⟨rfl, trivial⟩ (fun D hD => rfl)
end Go.Fs
