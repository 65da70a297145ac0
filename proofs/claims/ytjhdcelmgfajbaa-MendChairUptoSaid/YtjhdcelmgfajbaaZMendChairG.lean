/- Of the proof of MendChair: W8, W9, Eqs, W10. -/
import Derived.Test.YtjhdcelmgfajbaaZMendChairF
namespace Go.Fs
open Go.Proofs
open C7
structure YOk (y : YardD) : Prop where
  len : y.chairs.length ≤ 7
  cls : y.claims.length ≤ 5
  fit : 0 ≤ y.fit ∧ y.fit ≤ 9
  size : ∀ c ∈ y.chairs, 0 ≤ c.size ∧ c.size ≤ 9
  part : ∀ c ∈ y.chairs, ∀ n ∈ c.parts.l, 0 ≤ n ∧ n ≤ 2
  claim : ∀ r ∈ y.claims, 0 ≤ r.1 ∧ r.1 ≤ r.2 ∧ r.2 ≤ 7
  unk : unknown y.chairs ≤ 8
theorem yOk {y : YardD} (h : fault y = 0) : YOk y := by
  unfold fault at h
  split at h
  · omega
  · rename_i h1
    split at h
    · omega
    · rename_i h2
      split at h
      · omega
      · rename_i h3
        have h4 : yardOk y = true := by simpa using h2
        simp only [yardOk, Bool.and_eq_true, List.all_eq_true, inB_iff] at h4
        obtain ⟨⟨h5, h6⟩, h7⟩ := h4
        refine ⟨by omega, by omega, h5, fun c hc => ?_, fun c hc n hn => ?_, fun r hr => ?_, by omega⟩
        · have := h6 c hc; simp only [chairOk, Bool.and_eq_true, inB_iff] at this; exact this.1
        · have := h6 c hc; simp only [chairOk, Bool.and_eq_true, ptsOk, List.all_eq_true] at this
          exact inB_iff.1 (this.2 n hn)
        · have := h7 r hr; simp only [claimOk, Bool.and_eq_true, decide_eq_true_eq] at this; exact ⟨this.1.1, this.1.2, this.2⟩
theorem truthOk {y : YardD} {t : List Pt} (h : isTruth y t = true) : t.length = y.chairs.length ∧ ∀ p ∈ t, Bits1 p := by
  unfold isTruth at h
  simp only [Bool.and_eq_true, decide_eq_true_eq, List.all_eq_true] at h
  refine ⟨h.1, fun p hp => ?_⟩
  obtain ⟨i, hi⟩ := List.mem_iff_getElem?.1 hp
  obtain ⟨hlt, _⟩ := List.getElem?_eq_some_iff.1 hi
  have hc : y.chairs[i]? = some (y.chairs[i]'(by omega)) := List.getElem?_eq_getElem _
  have := h.2 (y.chairs[i]'(by omega), p) (List.mem_of_getElem? (i := i) (by rw [List.getElem?_zip_eq_some]; exact ⟨hc, hi⟩))
  simp only [ptsIs, Pt.l, List.zip_cons_cons, List.zip_nil_left, List.all_cons, List.all_nil, Bool.and_true, Bool.and_eq_true, partIs, inB_iff] at this
  exact ⟨this.1.1, this.2.1.1, this.2.2.1⟩
/-- A claim is right, or left out. -/
def rightAt (cl : List (Int × Int)) (out : List Int) (n : Int) (i : Nat) : Bool := (out.any fun x => decide ((i : Int) = x)) || (match cl[i]? with | some r => inB n r.1 r.2 | none => true)
def rightO (cl : List (Int × Int)) (out : List Int) (n : Int) : Bool := (List.range cl.length).all (rightAt cl out n)
theorem right_yes {cl : List (Int × Int)} {out : List Int} {n : Int} {i : Nat} {r : Int × Int} (hr : cl[i]? = some r) (h : ((!out.any fun x => decide ((i : Int) = x)) && !inB n r.1 r.2) = false) : rightAt cl out n i = true := by
  unfold rightAt; rw [hr]; revert h
  cases out.any fun x => decide ((i : Int) = x) <;> simp
theorem right_no {cl : List (Int × Int)} {out : List Int} {n : Int} {i : Nat} {r : Int × Int} (hi : i < cl.length) (hr : cl[i]? = some r) (h : ((!out.any fun x => decide ((i : Int) = x)) && !inB n r.1 r.2) = true) : rightO cl out n = false := by
  unfold rightO
  rw [List.all_eq_false]
  refine ⟨i, List.mem_range.2 hi, ?_⟩
  unfold rightAt; rw [hr]; revert h
  cases out.any fun x => decide ((i : Int) = x) <;> simp
theorem right_all {cl : List (Int × Int)} {out : List Int} {n : Int} (h : ∀ j, j < cl.length → rightAt cl out n j = true) : rightO cl out n = true := by
  unfold rightO; rw [List.all_eq_true]; exact fun j hj => h j (List.mem_range.1 hj)
def mostT (y : YardD) (t : List Pt) : Nat := mostS y.chairs.length (sceneD y t)
/-- What Play returns. -/
def playV (y : YardD) (t : List Pt) : Int × Int := if fault y ≠ 0 then (0, fault y) else if isTruth y t = true then ((mostT y t : Nat), 0) else (0, 2)
def pairsV (y : YardD) (t : List Pt) : List (Int × Int) := if (playV y t).2 = 0 then pI (pairB (sceneD y t).fits y.chairs.length (sceneD y t).broken) else []
theorem play_ok {y : YardD} {t : List Pt} (h : (playV y t).2 = 0) : fault y = 0 ∧ isTruth y t = true := by
  unfold playV at h
  split at h
  · rename_i hf; exact absurd h hf
  · rename_i hf
    split at h
    · rename_i ht; exact ⟨by omega, ht⟩
    · simp at h
theorem pairing_ok (wb mb : Nat) (cv qv : Value) (fit : Int) (chs : List Ch) (s : Sc) (hn7 : chs.length ≤ 7) (hs : ScOk chs.length s) (es : Array MapEntry) (clock : Nat) (M : List (Ints 8 × Int)) (D : Data) (hS : Sl D RCh 4 cv chs) (hM : MapG kaV es M) (hok : MOk chs.length M) :
    FnM Try.prog 76 [.pointer (some ⟨wb, 0, none⟩), scV s] D [(wb, .cells [cv, .int .i64 fit, qv, .map (some mb)].toArray 148 (0, 0)), (mb, .map es clock)] (fun D' v ν' => Sl D' R2 2 v (pI (pairB s.fits chs.length s.broken)) ∧ ∃ es' clock' M', ν' = [(wb, .cells [cv, .int .i64 fit, qv, .map (some mb)].toArray 148 (0, 0)), (mb, .map es' clock')] ∧ MapG kaV es' M' ∧ MOk chs.length M') := by
  obtain ⟨w, b, F⟩ := s
  obtain ⟨a0, a1, a2, a3, a4, a5, a6, rfl⟩ := list7 hs.len
  exact pairing0_ok wb mb cv qv fit chs w b a0 a1 a2 a3 a4 a5 a6 hn7 hs.row hs.bits es clock M D hS hM hok
theorem work_ok (yv : Value) (y : YardD) (cv qv : Value) (D : Data) (hy : yv = .agg #[cv, .int .i64 y.fit, qv]) : FnO Try.prog 75 #[yv] D (fun _ v ν => ∃ wb mb, v = .pointer (some ⟨wb, 0, none⟩) ∧ ν = [(wb, .cells [cv, .int .i64 y.fit, qv, .map (some mb)].toArray 148 (0, 0)), (mb, .map #[] 0)]) := by
  subst hy
  refine enterO 7 Try.func75 rfl rfl rfl rfl fun h0 => ?_
  refine C.seq ?_
  refine C.region [(false,0),(false,1)] rfl ?_
  refine L.boxD rfl rfl rfl rfl trivial (fun q1 E1 hE1 hB1 => ?_)
  refine L.assign rfl rfl rfl trivial ?_
  refine L.nil ?_
  refine C.next ?_
  refine C.seq ?_
  refine C.region [(false,0),(false,1),(false,2),(false,3),(false,4)] rfl ?_
  refine L.loadDW rfl Tf.a37 rfl hB1 (by first | simp | assumption) Tf.s37 List.not_mem_nil rfl trivial ?_
  refine L.makeMap rfl rfl trivial (fun qm => ?_)
  refine L.build (cs := [cv, .int .i64 y.fit, qv, .map (some qm)]) rfl Tf.p148 Tf.z148 rfl rfl rfl trivial ?_
  refine L.box rfl (e := 148) rfl rfl rfl trivial (fun q2 => ?_)
  refine L.assign rfl rfl rfl trivial ?_
  refine L.nil ?_
  refine C.next ?_
  refine C.ret ?_
  exact leave (vs := [_]) rfl rfl rfl ⟨rfl, trivial⟩ (fun D hD => ⟨_, _, rfl, rfl⟩)
theorem Index_ok (sv : Value) (xs : List Int) (n : Int) (D : Data) (hS : Sl D RI 1 sv xs) : Fn Try.prog 124 #[sv, .int .i64 n] D (fun _ v => v = .int .i64 (idxOf (fun x => decide (n = x)) xs)) := by
  have hl := hS.len
  refine enter 19 Try.func124 rfl rfl rfl rfl fun h0 => ?_
  refine C.seq ?_
  refine C.region [(false,0)] rfl ?_
  refine L.assign rfl rfl rfl trivial ?_
  refine L.nil ?_
  refine C.next ?_
  refine C.seq ?_
  refine C.seq ?_
  refine C.region [(false,0),(false,1),(false,2)] rfl ?_
  refine L.move rfl rfl rfl trivial ?_
  refine L.len rfl Try.underlying52 rfl (by assumption) rfl rfl trivial ?_
  refine L.move rfl rfl rfl trivial ?_
  refine L.nil ?_
  refine C.next ?_
  refine C.block ?_
  refine C.loopC (γ := Nat) (fun k => xs.length - k) (fun k => k ≤ xs.length ∧ (xs.take k).any (fun x => decide (n = x)) = false) (fun k => [(8, .int .i64 k)]) [(7, _), (4, _), (0, _), (1, _)] (fun k => [D]) 0 (by simp) ⟨(by first | rfl | (show some (Value.int _ _) = some (Value.int _ _); congr 2; omega)), trivial⟩ ⟨rfl, rfl, rfl, rfl, trivial⟩ (ds_same) ?_
  rintro k ⟨h1, h2⟩
  refine C.seq ?_
  refine C.region [(false,0)] rfl ?_
  refine L.lss rfl rfl rfl rfl trivial ?_
  refine L.nil ?_
  refine C.next ?_
  refine C.seq ?_
  refine C.condD rfl (fun hc1 => ?_) (fun hc1 => ?_)
  · have hk : k < xs.length := by omega
    obtain ⟨x, hx⟩ : ∃ x, xs[k]? = some x := ⟨_, List.getElem?_eq_getElem hk⟩
    refine C.skip ?_
    refine C.next ?_
    refine C.seq ?_
    refine C.block ?_
    refine C.seq ?_
    refine C.region [(false,0),(false,1)] rfl ?_
    refine L.move rfl rfl rfl trivial ?_
    refine L.assign rfl rfl rfl trivial ?_
    refine L.nil ?_
    refine C.next ?_
    refine C.seq ?_
    refine C.region [(false,0),(false,1),(false,2),(false,3),(false,4),(false,5)] rfl ?_
    refine L.move rfl rfl rfl trivial ?_
    refine L.move rfl rfl rfl trivial ?_
    refine L.move rfl rfl rfl trivial ?_
    refine L.indexS rfl Try.underlying52 Tf.s3 rfl (by assumption) rfl (by omega) (by assumption) rfl trivial (fun b1 o1 cs1 hr1 hcl1 hA1 => ?_)
    obtain rfl : cs1 = [.int .i64 _] := hr1
    refine L.loadD1 rfl (k := 0) Tf.a3 rfl hA1 (by first | simp | assumption) rfl List.not_mem_nil rfl trivial ?_
    refine L.eql rfl rfl rfl rfl trivial ?_
    refine L.nil ?_
    refine C.next ?_
    refine C.condD rfl (fun hc2 => ?_) (fun hc2 => ?_)
    · refine C.seq ?_
      refine C.region [(false,0),(false,1)] rfl ?_
      refine L.move rfl rfl rfl trivial ?_
      refine L.assign rfl rfl rfl trivial ?_
      refine L.nil ?_
      refine C.next ?_
      refine C.ret ?_
      refine C.blockRet ?_
      refine C.thenRet ?_
      refine C.thenRet ?_
      refine C.blockRet ?_
      refine C.thenRet ?_
      exact leave (vs := [_]) rfl rfl rfl ⟨rfl, trivial⟩ (fun D hD => by show Value.int _ _ = _; rw [idxOf_at hx h2 (by simp [hc2])])
    · refine C.skip ?_
      refine C.blockEnd ?_
      refine C.next ?_
      refine C.region [(false,0),(false,1)] rfl ?_
      refine L.add rfl rfl rfl (by simp only [inK]; omega) rfl trivial ?_
      refine L.move rfl rfl rfl trivial ?_
      refine L.nil ?_
      have h3 : (xs.take (k + 1)).any (fun x => decide (n = x)) = false := by rw [List.take_add_one, hx, List.any_append, h2]; simp [hc2]
      exact C.againR 12 (k + 1) ⟨by omega, h3⟩ (by omega) ⟨(by first | rfl | (show some (Value.int _ _) = some (Value.int _ _); congr 2; omega)), trivial⟩ rfl rfl (List.Sublist.refl _) (ds_same)
  · refine C.exit ?_
    refine C.thenExit ?_
    refine C.thenExit ?_
    refine C.blockExit ?_
    refine C.next ?_
    refine C.seq ?_
    refine C.region [(false,0)] rfl ?_
    refine L.assign rfl rfl rfl trivial ?_
    refine L.nil ?_
    refine C.next ?_
    refine C.ret ?_
    exact leave (vs := [_]) rfl rfl rfl ⟨rfl, trivial⟩ (fun D hD => by show Value.int _ _ = _; rw [idxOf_none (by rwa [List.take_of_length_le (by omega)] at h2)])
theorem Contains_ok (sv : Value) (xs : List Int) (n : Int) (D : Data) (hS : Sl D RI 1 sv xs) : Fn Try.prog 114 #[sv, .int .i64 n] D (fun _ v => v = .bool (xs.any fun x => decide (n = x))) := by
  refine enter 9 Try.func114 rfl rfl rfl rfl fun h0 => ?_
  refine C.seq ?_
  refine C.region [(false,0)] rfl ?_
  refine L.assign rfl rfl rfl trivial ?_
  refine L.nil ?_
  refine C.next ?_
  refine C.seq ?_
  refine C.region [(false,0),(false,1),(false,2),(false,3),(false,4)] rfl ?_
  refine L.move rfl rfl rfl trivial ?_
  refine L.move rfl rfl rfl trivial ?_
  refine L.callV rfl rfl rfl (fun D1 hD1 => Index_ok _ xs n _ (Sl.at RI.up hD1 (by assumption) (by simp))) rfl trivial ?_
  refine L.geq rfl rfl rfl rfl trivial ?_
  refine L.assign rfl rfl rfl trivial ?_
  refine L.nil ?_
  refine C.next ?_
  refine C.ret ?_
  exact leave (vs := [_]) rfl rfl rfl ⟨rfl, trivial⟩ (fun D hD => by show Value.bool (decide _) = _; rw [idxOf_ge])
theorem right_ok (yv : Value) (y : YardD) (n : Int) (ov : Value) (out : List Int) (D : Data) (hy : YardIs D yv y) (ho : Sl D RI 1 ov out) : Fn Try.prog 101 #[yv, .int .i64 n, ov] D (fun _ v => v = .bool (rightO y.claims out n)) := by
  obtain ⟨cv, qv, rfl, hc, hq⟩ := hy
  have hl := hq.len
  refine enter 28 Try.func101 rfl rfl rfl rfl fun h0 => ?_
  refine C.seq ?_
  refine C.region [(false,0),(false,1)] rfl ?_
  refine L.boxD rfl rfl rfl rfl trivial (fun q1 E1 hE1 hB1 => ?_)
  refine L.assign rfl rfl rfl trivial ?_
  refine L.nil ?_
  refine C.next ?_
  refine C.seq ?_
  refine C.seq ?_
  refine C.region [(false,0),(false,1),(false,2),(false,3)] rfl ?_
  refine L.fieldAddr rfl Tf.f37_2 rfl rfl trivial ?_
  refine L.loadD1 rfl (k := 2) Tf.a35 rfl hB1 (by first | simp | assumption) rfl List.not_mem_nil rfl trivial ?_
  refine L.len rfl Try.underlying35 rfl hq rfl rfl trivial ?_
  refine L.move rfl rfl rfl trivial ?_
  refine L.nil ?_
  refine C.next ?_
  refine C.block ?_
  refine C.loopC (γ := Nat) (fun i => y.claims.length - i) (fun i => i ≤ y.claims.length ∧ ∀ j, j < i → rightAt y.claims out n j = true) (fun i => [(12, .int .i64 (i : Int))]) [(11, _), (10, _), (6, _), (1, _), (2, _)] (fun i => [E1, D]) 0 (by simp) ⟨(by first | rfl | (show some (Value.int _ _) = some (Value.int _ _); congr 2; omega)), trivial⟩ ⟨rfl, rfl, rfl, rfl, rfl, trivial⟩ (ds_same) ?_
  rintro i ⟨h1, h2⟩
  refine C.seq ?_
  refine C.region [(false,0)] rfl ?_
  refine L.lss rfl rfl rfl rfl trivial ?_
  refine L.nil ?_
  refine C.next ?_
  refine C.seq ?_
  refine C.condD rfl (fun hc1 => ?_) (fun hc1 => ?_)
  · have hi : i < y.claims.length := by omega
    obtain ⟨r, hr0⟩ : ∃ r, y.claims[i]? = some r := ⟨_, List.getElem?_eq_getElem hi⟩
    refine C.skip ?_
    refine C.next ?_
    refine C.seq ?_
    refine C.block ?_
    refine C.seq ?_
    refine C.region [(false,0),(false,1),(false,2),(false,3),(false,4),(false,5)] rfl ?_
    refine L.move rfl rfl rfl trivial ?_
    refine L.indexS rfl Try.underlying35 Tf.s61 rfl hq rfl (by omega) hr0 rfl trivial (fun b1 o1 cs1 hr1 hcl1 hA1 => ?_)
    obtain rfl : cs1 = [.int .i64 _, .int .i64 _] := hr1
    refine L.loadDW rfl Tf.a61 rfl hA1 (by first | simp | assumption) Tf.s61 List.not_mem_nil rfl trivial ?_
    refine L.alloc rfl Tf.z61 rfl rfl trivial (fun q2 => ?_)
    refine L.assign rfl rfl rfl trivial ?_
    refine L.storeW rfl rfl rfl rfl Tf.s61 (by first | rfl | (simp only [ints_length, *]; done) | (simp only [ints_length, *]; rfl) | (simp only [ints_length, *]; omega)) (by first | rfl | (simp only [ints_length, *]; done) | (simp only [ints_length, *]; rfl) | (simp only [ints_length, *]; omega)) (Has.head) (by first | exact ints_cell1 _ | simp [cell1]) trivial ?_
    refine L.nil ?_
    refine C.next ?_
    refine C.seq ?_
    refine C.region [(false,0),(false,1),(false,2),(false,3),(false,4),(false,5),(false,6),(false,7),(false,8),(false,9)] rfl ?_
    refine L.move rfl rfl rfl trivial ?_
    refine L.move rfl rfl rfl trivial ?_
    refine L.callV rfl rfl rfl (fun D1 hD1 => Contains_ok _ out (i : Int) _ (Sl.at RI.up hD1 (by assumption) (by simp))) rfl trivial ?_
    refine L.not rfl rfl rfl trivial ?_
    refine L.move rfl rfl rfl trivial ?_
    refine' L.and [(false,5),(false,6),(false,7),(false,8),(false,9)] [] (s := 21) (p := 26) rfl rfl (fun hg1 => ?_) (fun hg1 => ?_) ?_
    rotate_left
    · refine L.loadBW rfl Tf.a61 rfl (List.Mem.head _) Tf.s61 List.not_mem_nil rfl ⟨_, rfl, rfl⟩ ?_
      refine L.move rfl rfl rfl ⟨_, rfl, rfl⟩ ?_
      refine L.callV rfl rfl rfl (fun D2 hD2 => has_ok r n _) rfl ⟨_, rfl, rfl⟩ ?_
      refine L.not rfl rfl rfl ⟨_, rfl, rfl⟩ ?_
      refine L.pickT rfl rfl rfl rfl trivial ?_
      exact L.nil fun a w hh => hh.cutK 4 rfl
    · refine L.pass rfl rfl rfl ⟨_, _, rfl, rfl, rfl⟩ ?_
      refine L.pass rfl rfl rfl ⟨_, _, rfl, rfl, rfl⟩ ?_
      refine L.pass rfl rfl rfl ⟨_, _, rfl, rfl, rfl⟩ ?_
      refine L.pass rfl rfl rfl ⟨_, _, rfl, rfl, rfl⟩ ?_
      refine L.pickF rfl rfl rfl rfl trivial ?_
      exact L.nil fun a w hh => hh.cutK 4 rfl
    refine L.nil ?_
    refine C.next ?_
    refine C.cond rfl (fun hc2 => ?_) (fun hc2 => ?_)
    · refine C.seq ?_
      refine C.region [(false,0)] rfl ?_
      refine L.assign rfl rfl rfl trivial ?_
      refine L.nil ?_
      refine C.next ?_
      refine C.ret ?_
      refine C.blockRet ?_
      refine C.thenRet ?_
      refine C.thenRet ?_
      refine C.blockRet ?_
      refine C.thenRet ?_
      exact leave (vs := [_]) rfl rfl rfl ⟨rfl, trivial⟩ (fun D hD => by show Value.bool _ = _; rw [right_no hi hr0 hc2])
    · refine C.skip ?_
      refine C.blockEnd ?_
      refine C.next ?_
      refine C.region [(false,0),(false,1)] rfl ?_
      refine L.add rfl rfl rfl (by simp only [inK]; omega) rfl trivial ?_
      refine L.move rfl rfl rfl trivial ?_
      refine L.nil ?_
      exact C.againR 15 (i + 1) ⟨by omega, fun j hj => by rcases Nat.lt_succ_iff_lt_or_eq.1 hj with h | rfl; exact h2 j h; exact right_yes hr0 hc2⟩ (by omega) ⟨(by first | rfl | (show some (Value.int _ _) = some (Value.int _ _); congr 2; omega)), trivial⟩ rfl rfl (List.Sublist.cons _ (List.Sublist.refl _)) (ds_same)
  · obtain rfl : i = y.claims.length := by omega
    refine C.exit ?_
    refine C.thenExit ?_
    refine C.thenExit ?_
    refine C.blockExit ?_
    refine C.next ?_
    refine C.seq ?_
    refine C.region [(false,0)] rfl ?_
    refine L.assign rfl rfl rfl trivial ?_
    refine L.nil ?_
    refine C.next ?_
    refine C.ret ?_
    exact leave (vs := [_]) rfl rfl rfl ⟨rfl, trivial⟩ (fun D hD => by show Value.bool _ = _; rw [right_all h2])
theorem Play_ok (yv tv : Value) (y : YardD) (t : List Pt) (D : Data) (hy : YardIs D yv y) (ht : Sl D RP 3 tv t) : Fn Try.prog 57 #[yv, tv] D (fun _ v => v = .tuple #[.int .i64 (playV y t).1, .int .i64 (playV y t).2]) := by
  have hy0 := hy
  obtain ⟨cv, qv, rfl, hc, hq⟩ := hy
  refine enter 22 Try.func57 rfl rfl rfl rfl fun h0 => ?_
  refine C.seq ?_
  refine C.region [(false,0),(false,1),(false,2)] rfl ?_
  refine L.boxD rfl rfl rfl rfl trivial (fun q1 E1 hE1 hB1 => ?_)
  refine L.assign rfl rfl rfl trivial ?_
  refine L.assign rfl rfl rfl trivial ?_
  refine L.nil ?_
  refine C.next ?_
  refine C.seq ?_
  refine C.seq ?_
  refine C.region [(false,0),(false,1),(false,2)] rfl ?_
  refine L.loadDW rfl Tf.a37 rfl hB1 (by first | simp | assumption) Tf.s37 List.not_mem_nil rfl trivial ?_
  refine L.callV rfl rfl rfl (fun D1 hD1 => CheckYard_ok _ y _ (hy0.up (hD1 _ (by simp)))) rfl trivial ?_
  refine L.assign rfl rfl rfl trivial ?_
  refine L.nil ?_
  refine C.next ?_
  refine C.seq ?_
  refine C.region [(false,0),(false,1)] rfl ?_
  refine L.move rfl rfl rfl trivial ?_
  refine L.neq rfl rfl rfl rfl trivial ?_
  refine L.nil ?_
  refine C.next ?_
  refine C.condD rfl (fun hc1 => ?_) (fun hc1 => ?_)
  · refine C.seq ?_
    refine C.region [(false,0),(false,1),(false,2)] rfl ?_
    refine L.move rfl rfl rfl trivial ?_
    refine L.assign rfl rfl rfl trivial ?_
    refine L.assign rfl rfl rfl trivial ?_
    refine L.nil ?_
    refine C.next ?_
    refine C.ret ?_
    refine C.thenRet ?_
    exact leave (vs := [_, _]) rfl rfl rfl ⟨rfl, rfl, trivial⟩ (fun D hD => by show Value.tuple _ = _; rw [playV, if_pos hc1])
  · have hf0 : fault y = 0 := by omega
    have hyo := yOk hf0
    have hn7 := hyo.len
    refine C.skip ?_
    refine C.next ?_
    refine C.seq ?_
    refine C.seq ?_
    refine C.region [(false,0),(false,1),(false,2),(false,3)] rfl ?_
    refine L.loadDW rfl Tf.a37 rfl hB1 (by first | simp | assumption) Tf.s37 List.not_mem_nil rfl trivial ?_
    refine L.move rfl rfl rfl trivial ?_
    refine L.callV rfl rfl rfl (fun D2 hD2 => is_ok _ _ y t _ (hy0.up (hD2 _ (by simp))) (ht.up RP.up (hD2 _ (by simp)))) rfl trivial ?_
    refine L.not rfl rfl rfl trivial ?_
    refine L.nil ?_
    refine C.next ?_
    refine C.cond rfl (fun hc2 => ?_) (fun hc2 => ?_)
    · refine C.seq ?_
      refine C.region [(false,0),(false,1)] rfl ?_
      refine L.assign rfl rfl rfl trivial ?_
      refine L.assign rfl rfl rfl trivial ?_
      refine L.nil ?_
      refine C.next ?_
      refine C.ret ?_
      refine C.thenRet ?_
      exact leave (vs := [_, _]) rfl rfl rfl ⟨rfl, rfl, trivial⟩ (fun D hD => by show Value.tuple _ = _; rw [playV, if_neg hc1, if_neg (by simpa using hc2)])
    · have hit : isTruth y t = true := by simpa using hc2
      obtain ⟨htl, htb⟩ := truthOk hit
      have hsc := scene_ok' htl (by omega)
      refine C.skip ?_
      refine C.next ?_
      refine C.seq ?_
      refine C.draw [] 2 [0,2,3,1,4,5,6,7] [false,true,true,true,false,false,false,false] [(false,0),(true,2),(true,3),(true,1),(false,4),(false,5),(false,6),(false,7)] Tf.follows (fun _ _ _ h => np_body (P := Try.prog) (fn := Try.f57) _ _ _ h) (by kernel_rfl) rfl ?_
      refine L.loadDW rfl Tf.a37 rfl hB1 (by first | simp | assumption) Tf.s37 List.not_mem_nil rfl trivial ?_
      refine L.loadDW rfl Tf.a37 rfl hB1 (by first | simp | assumption) Tf.s37 List.not_mem_nil rfl trivial ?_
      refine L.move rfl rfl rfl trivial ?_
      refine L.callO (μ := _) rfl rfl rfl (fun D5 hD5 => work_ok _ y _ _ D5 rfl) rfl trivial (fun v5 D6 _ hD6 hp5 => ?_)
      obtain ⟨wb, mb, rfl, rfl⟩ := hp5
      refine L.callV rfl rfl rfl (fun D3 hD3 => scene_ok _ _ y t _ (hy0.up (hD3 _ (by simp))) (ht.up RP.up (hD3 _ (by simp))) htl (by omega) htb hyo.fit hyo.size) rfl trivial ?_
      refine L.callM (A := []) (ν := [(_, _), (_, _)]) (B := []) rfl rfl rfl rfl (by first | exact Or.inl rfl | exact Or.inr (fun p hp => List.mem_map.2 ⟨p, hp, rfl⟩)) (unf_w (cs := [_, _, _, _])) (fun D7 hD7 => most_ok wb mb _ _ y.fit y.chairs (sceneD y t) hn7 hsc #[] 0 [] _ (hc.up RCh.up (hD7 _ (by simp))) rfl MOk.nil) rfl trivial (fun v7 D8 _ hD8 hp7 => ?_)
      obtain ⟨rfl, es1, cl1, M1, rfl, hM1, hok1⟩ := hp7
      refine L.assign rfl rfl rfl trivial ?_
      refine L.assign rfl rfl rfl trivial ?_
      refine L.nil ?_
      refine C.next ?_
      refine C.ret ?_
      exact leave (vs := [_, _]) rfl rfl rfl ⟨rfl, rfl, trivial⟩ (fun D hD => by show Value.tuple _ = _; rw [playV, if_neg hc1, if_pos hit]; rfl)
theorem Pairs_ok (yv tv : Value) (y : YardD) (t : List Pt) (D : Data) (hy : YardIs D yv y) (ht : Sl D RP 3 tv t) : Fn Try.prog 22 #[yv, tv] D (fun D' v => ∃ lv, v = .tuple #[lv, .int .i64 (playV y t).2] ∧ Sl D' R2 2 lv (pairsV y t)) := by
  have hy0 := hy
  obtain ⟨cv, qv, rfl, hc, hq⟩ := hy
  refine enter 23 Try.func22 rfl rfl rfl rfl fun h0 => ?_
  refine C.seq ?_
  refine C.region [(false,0),(false,1),(false,2)] rfl ?_
  refine L.boxD rfl rfl rfl rfl trivial (fun q1 E1 hE1 hB1 => ?_)
  refine L.assign rfl rfl rfl trivial ?_
  refine L.assign rfl rfl rfl trivial ?_
  refine L.nil ?_
  refine C.next ?_
  refine C.seq ?_
  refine C.seq ?_
  refine C.region [(false,0),(false,1),(false,2),(false,3),(false,4),(false,5),(false,6),(false,7)] rfl ?_
  refine L.loadDW rfl Tf.a37 rfl hB1 (by first | simp | assumption) Tf.s37 List.not_mem_nil rfl trivial ?_
  refine L.move rfl rfl rfl trivial ?_
  refine L.callV rfl rfl rfl (fun D1 hD1 => Play_ok _ _ y t _ (hy0.up (hD1 _ (by simp))) (ht.up RP.up (hD1 _ (by simp)))) rfl trivial ?_
  refine L.move rfl rfl rfl trivial ?_
  refine L.extract rfl rfl rfl rfl trivial ?_
  refine L.extract rfl rfl rfl rfl trivial ?_
  refine L.assign rfl rfl rfl trivial ?_
  refine L.assign rfl rfl rfl trivial ?_
  refine L.nil ?_
  refine C.next ?_
  refine C.seq ?_
  refine C.region [(false,0),(false,1)] rfl ?_
  refine L.move rfl rfl rfl trivial ?_
  refine L.neq rfl rfl rfl rfl trivial ?_
  refine L.nil ?_
  refine C.next ?_
  refine C.condD rfl (fun hc1 => ?_) (fun hc1 => ?_)
  · refine C.seq ?_
    refine C.region [(false,0),(false,1),(false,2)] rfl ?_
    refine L.move rfl rfl rfl trivial ?_
    refine L.assign rfl rfl rfl trivial ?_
    refine L.assign rfl rfl rfl trivial ?_
    refine L.nil ?_
    refine C.next ?_
    refine C.ret ?_
    refine C.thenRet ?_
    exact leave (vs := [_, _]) rfl rfl rfl ⟨rfl, rfl, trivial⟩ (fun D hD => ⟨_, rfl, by rw [pairsV, if_neg hc1]; exact Sl.nil⟩)
  · obtain ⟨hf0, hit⟩ := play_ok (show (playV y t).2 = 0 by omega)
    have hyo := yOk hf0
    have hn7 := hyo.len
    obtain ⟨htl, htb⟩ := truthOk hit
    have hsc := scene_ok' htl (by omega)
    refine C.skip ?_
    refine C.next ?_
    refine C.seq ?_
    refine C.draw [] 2 [0,2,3,1,4,5,6,7] [false,true,true,true,false,false,false,false] [(false,0),(true,2),(true,3),(true,1),(false,4),(false,5),(false,6),(false,7)] Tf.follows (fun _ _ _ h => np_body (P := Try.prog) (fn := Try.f22) _ _ _ h) (by kernel_rfl) rfl ?_
    refine L.loadDW rfl Tf.a37 rfl hB1 (by first | simp | assumption) Tf.s37 List.not_mem_nil rfl trivial ?_
    refine L.loadDW rfl Tf.a37 rfl hB1 (by first | simp | assumption) Tf.s37 List.not_mem_nil rfl trivial ?_
    refine L.move rfl rfl rfl trivial ?_
    refine L.callO (μ := _) rfl rfl rfl (fun D5 hD5 => work_ok _ y _ _ D5 rfl) rfl trivial (fun v5 D6 _ hD6 hp5 => ?_)
    obtain ⟨wb, mb, rfl, rfl⟩ := hp5
    refine L.callV rfl rfl rfl (fun D2 hD2 => scene_ok _ _ y t _ (hy0.up (hD2 _ (by simp))) (ht.up RP.up (hD2 _ (by simp))) htl (by omega) htb hyo.fit hyo.size) rfl trivial ?_
    refine L.callM (A := []) (ν := [(_, _), (_, _)]) (B := []) rfl rfl rfl rfl (by first | exact Or.inl rfl | exact Or.inr (fun p hp => List.mem_map.2 ⟨p, hp, rfl⟩)) (unf_w (cs := [_, _, _, _])) (fun D7 hD7 => pairing_ok wb mb _ _ y.fit y.chairs (sceneD y t) hn7 hsc #[] 0 [] _ (hc.up RCh.up (hD7 _ (by simp))) rfl MOk.nil) rfl trivial (fun v7 D8 _ hD8 hp7 => ?_)
    obtain ⟨hS7, es1, cl1, M1, rfl, hM1, hok1⟩ := hp7
    refine L.assign rfl rfl rfl trivial ?_
    refine L.assign rfl rfl rfl trivial ?_
    refine L.nil ?_
    refine C.next ?_
    refine C.ret ?_
    exact leave (vs := [_, _]) rfl rfl rfl ⟨rfl, rfl, trivial⟩ (fun D hD => ⟨_, by show Value.tuple _ = _; rw [show (playV y t).2 = 0 by omega], by rw [pairsV, if_pos (by omega)]; exact hS7.up R2.up (hD _ (by simp))⟩)
end Go.Fs
namespace Go.Fs
open Go.Proofs
open C7
/-- The blocks of 'choose', of 'out', and of the list. -/
def chooseMu (bh bc bo bY br n : Nat) (c : List Int) : Boxes := [(bh, .cells [.func (.func 122) #[] #[.pointer (some ⟨bc, 0, none⟩), .pointer (some ⟨bY, 0, none⟩), .pointer (some ⟨br, 0, none⟩), .pointer (some ⟨bh, 0, none⟩)]].toArray 170 (0, 0)), (bc, .cells [.slice (some ⟨bo, 0, none⟩) n n].toArray 39 (0, 0)), (bo, .cells (ints c).toArray 113 (0, 0))]
theorem take_pre {c pre : List Int} {i : Nat} {k : Int} (h : c.take (i + 1) = pre ++ [k]) (hl : pre.length = i) : c.take i = pre := by
  have := congrArg (List.take i) h
  rw [List.take_take, Nat.min_eq_left (Nat.le_succ i)] at this
  rw [this, List.take_append_of_le_length (by omega), List.take_of_length_le (by omega)]
def encS (n bo : Nat) : List Value := [.slice (some ⟨bo, 0, none⟩) n n]
def YieldsS (P : Program) (Dr : Data) (lo l n : Nat) (J Jx : List (List Int) → Inv) (xs : List (List Int)) : Prop := ∀ pre x β D w bo, (∃ r, xs = pre ++ x :: r) → Dom lo D w → J pre β D w → (∀ b ∈ β, b < w.heap.size) → Le Dr D → Shown β D w bo (ints x) →
        YieldRuns P l (encS n bo) w fun b D' w' => Dom lo D' w' ∧ High β D w D' w' ∧ (if b then J (pre ++ [x]) β D' w' else Jx (pre ++ [x]) β D' w')
def chooseR (J Jx : List (List Int) → Inv) (bh bc bo bY br n : Nat) (places : List Int) (pre : List Int) (i : Nat) (done : List (List Int)) (v : Value) (J' : Inv) (μ' : Boxes) : Prop :=
  ∃ b c', v = .bool b ∧ c'.length = 3 * n ∧ c'.take i = pre ∧ μ' = chooseMu bh bc bo bY br n c' ∧ (if b = true then J' = J (done ++ (C1.allT (places.drop i)).map fun t => pre ++ t) else ∃ p, J' = Jx p)
def brC (p : Int) (ps pre : List Int) (k : Nat) : List (List Int) := (List.range k).flatMap fun (m : Nat) => if p = 2 ∨ p = (m : Int) then (C1.allT ps).map (fun t => pre ++ (m : Int) :: t) else []
theorem brC_zero {p : Int} {ps pre : List Int} : brC p ps pre 0 = [] := rfl
theorem brC_no {p : Int} {ps pre : List Int} {k : Nat} (h : ¬ (p = 2 ∨ p = (k : Int))) : brC p ps pre (k + 1) = brC p ps pre k := by
  unfold brC; rw [List.range_succ, List.flatMap_append, List.flatMap_singleton, if_neg h, List.append_nil]
theorem brC_yes {p : Int} {ps pre : List Int} {k : Nat} (h : p = 2 ∨ p = (k : Int)) : brC p ps pre (k + 1) = brC p ps pre k ++ (C1.allT ps).map (fun t => (pre ++ [(k : Int)]) ++ t) := by
  unfold brC; rw [List.range_succ, List.flatMap_append, List.flatMap_singleton, if_pos h]; simp
theorem brC_two {p : Int} {ps pre : List Int} : brC p ps pre 2 = (C1.allT (p :: ps)).map (fun t => pre ++ t) := by
  rw [show C1.allT (p :: ps) = (if p = 2 ∨ p = 0 then (C1.allT ps).map (0 :: ·) else []) ++ (if p = 2 ∨ p = 1 then (C1.allT ps).map (1 :: ·) else []) from rfl]
  unfold brC
  rw [show List.range 2 = [0, 1] from rfl, List.flatMap_cons, List.flatMap_cons, List.flatMap_nil, List.append_nil, List.map_append]
  congr 1
  · by_cases h : p = 2 ∨ p = 0
    · rw [if_pos h, if_pos (by simpa using h)]; simp
    · rw [if_neg h, if_neg (by simpa using h)]; rfl
  · by_cases h : p = 2 ∨ p = 1
    · rw [if_pos h, if_pos (by simpa using h)]; simp
    · rw [if_neg h, if_neg (by simpa using h)]; rfl
theorem brC_rest {p : Int} {ps pre : List Int} {k : Nat} (hk : k < 2) : ∃ r, brC p ps pre 2 = brC p ps pre (k + 1) ++ r := by
  have e : k = 0 ∨ k = 1 := by omega
  rcases e with rfl | rfl
  · refine ⟨[1].flatMap fun (m : Nat) => if p = 2 ∨ p = (m : Int) then (C1.allT ps).map (fun t => pre ++ (m : Int) :: t) else [], ?_⟩
    unfold brC
    rw [show List.range 2 = [0] ++ [1] from rfl, List.flatMap_append]; rfl
  · exact ⟨[], by simp⟩
theorem set_take {c pre : List Int} {i : Nat} {k : Int} (hi : i < c.length) (h : c.take i = pre) : (c.set i k).take (i + 1) = pre ++ [k] := by
  rw [List.take_add_one, List.getElem?_set_self hi, Option.toList_some, List.take_set_of_le (Nat.le_refl _), h]
theorem flatC_get {l : List Ch} {i : Nat} {p : Int} (h : (flatC l)[i]? = some p) : ∃ x, l[i / 3]? = some x ∧ x.parts.l[i % 3]? = some p := by
  induction l generalizing i with
  | nil => simp [flatC] at h
  | cons c l ih =>
    rw [show flatC (c :: l) = c.parts.a :: c.parts.b :: c.parts.c :: flatC l from rfl] at h
    match i with
    | 0 => exact ⟨c, rfl, by simpa [Pt.l] using h⟩
    | 1 => exact ⟨c, rfl, by simpa [Pt.l] using h⟩
    | 2 => exact ⟨c, rfl, by simpa [Pt.l] using h⟩
    | j + 3 =>
      obtain ⟨x, h1, h2⟩ := ih (i := j) (by simpa using h)
      exact ⟨x, by rw [show (j + 3) / 3 = j / 3 + 1 by omega]; simpa using h1, by rw [show (j + 3) % 3 = j % 3 by omega]; exact h2⟩
theorem mem_bo {bh bc bo bY br n : Nat} {c : List Int} : (bo, Obj.cells (ints c).toArray 113 (0, 0)) ∈ chooseMu bh bc bo bY br n c := List.Mem.tail _ (List.Mem.tail _ (List.Mem.head _))
theorem ptr_i (i : Nat) : 0 + ((i : Int) / 3).toNat * 3 + ((i : Int) % 3).toNat * 1 = i := by omega
theorem choose_ok {lo l : Nat} {J Jx : List (List Int) → Inv} {y : YardD} {xs : List (List Int)} {Dr Dy : Data} {Ds : List Data} {bh bc bo bY br : Nat} {cv qv : Value} (hn7 : y.chairs.length ≤ 7)
    (hs : ∀ pre, Stb lo (J pre)) (hsx : ∀ pre, Stb lo (Jx pre)) (hY : YieldsS Try.prog Dr lo l y.chairs.length J Jx xs) (hDr : Dr ∈ Ds) (hDy : Dy ∈ Ds) (hA : At Dr br 0 [cv, .int .i64 y.fit, qv]) (hc : Sl Dr RCh 4 cv y.chairs) (hB : At Dy bY 0 [.func (.yield l) #[] #[]]) :
    ∀ (j i : Nat) (pre c : List Int) (done rest : List (List Int)) (iv : Int), iv = i → i + j = 3 * y.chairs.length → pre.length = i → c.length = 3 * y.chairs.length → c.take i = pre →
      xs = done ++ (C1.allT ((flatC y.chairs).drop i)).map (fun t => pre ++ t) ++ rest →
      FnJ Try.prog 122 [.int .i64 iv, .pointer (some ⟨bc, 0, none⟩), .pointer (some ⟨bY, 0, none⟩), .pointer (some ⟨br, 0, none⟩), .pointer (some ⟨bh, 0, none⟩)] lo (J done) (chooseMu bh bc bo bY br y.chairs.length c) Ds (chooseR J Jx bh bc bo bY br y.chairs.length (flatC y.chairs) pre i done) := by
  intro j
  induction j using Nat.strongRecOn with
  | _ j ih =>
  intro i pre c done rest iv hiv hij hl h9 hp hxs
  subst hiv
  have hmx := hc.len
  have hfl := flatC_length y.chairs
  refine enterJ (μ := chooseMu bh bc bo bY br y.chairs.length c) 52 Try.func122 rfl rfl rfl rfl ?_
  refine C.seq ?_
  refine C.region [(false,0)] rfl ?_
  refine L.assign rfl rfl rfl trivial ?_
  refine L.nil ?_
  refine C.next ?_
  refine C.seq ?_
  refine C.region [(false,0),(false,1),(false,2),(false,3),(false,4),(false,5)] rfl ?_
  refine L.move rfl rfl rfl trivial ?_
  refine L.quo rfl rfl rfl (by omega) (by omega) (by simp only [inK]; omega) rfl trivial ?_
  refine L.move rfl rfl rfl trivial ?_
  refine L.rem rfl rfl rfl (by omega) (by omega) (by simp only [inK]; omega) rfl trivial ?_
  refine L.assign rfl rfl rfl trivial ?_
  refine L.assign rfl rfl rfl trivial ?_
  refine L.nil ?_
  refine C.next ?_
  refine C.seq ?_
  refine C.seq ?_
  refine C.region [(false,0),(false,1),(false,2),(false,3)] rfl ?_
  refine L.move rfl rfl rfl trivial ?_
  refine L.loadB1 rfl Tf.a39 rfl (List.Mem.tail _ (List.Mem.head _)) rfl List.not_mem_nil rfl trivial ?_
  refine L.lenV rfl Try.underlying39 rfl rfl rfl trivial ?_
  refine L.eql rfl rfl rfl rfl trivial ?_
  refine L.nil ?_
  refine C.next ?_
  refine C.condD rfl (fun hc1 => ?_) (fun hc1 => ?_)
  · have hin : i = 3 * y.chairs.length := by omega
    subst hin
    have hleaf : c = pre := by rw [← hp, List.take_of_length_le (by omega)]
    rw [← hfl, List.drop_length] at hxs
    simp only [C1.allT, List.map_cons, List.map_nil, List.append_nil] at hxs
    rw [← hleaf, List.append_assoc, List.singleton_append] at hxs
    refine C.seq ?_
    refine C.region [(false,0),(false,1),(false,2),(false,3)] rfl ?_
    refine L.loadD1 rfl (k := 0) Tf.a153 rfl hB (by first | simp | assumption) rfl List.not_mem_nil rfl trivial ?_
    refine L.loadB1 rfl Tf.a39 rfl (List.Mem.tail _ (List.Mem.head _)) rfl List.not_mem_nil rfl trivial ?_
    refine L.yieldSB (l := l) (J1 := J (done ++ [c])) (J0 := Jx (done ++ [c])) rfl rfl rfl rfl (hs _) (hsx _) (fun D w hd hJ hb hl => hY done c _ D w bo ⟨rest, hxs⟩ hd hJ (fun b hbm => by obtain ⟨p, hp, rfl⟩ := List.mem_map.1 hbm; exact lt_of_some (hb p hp).1) (hl _ hDr) ⟨List.mem_map.2 ⟨_, mem_bo, rfl⟩, (hb _ mem_bo).2, _, _, (hb _ mem_bo).1⟩) rfl trivial (fun b1 J1 hJ1 => ?_)
    refine L.assign rfl rfl rfl trivial ?_
    refine L.nil ?_
    refine C.next ?_
    refine C.ret ?_
    refine C.thenRet ?_
    exact leaveJ (P := Try.prog) (fn := Try.f122) (N := 52) (vs := [_]) rfl rfl ⟨rfl, trivial⟩ (fun D h => ⟨D, h, Le.refl D⟩) ⟨b1, c, rfl, h9, hp, rfl, by cases b1 <;> simp only [hJ1, if_true, Bool.false_eq_true, if_false]; exact ⟨_, rfl⟩; rw [← hfl, List.drop_length]; simp [C1.allT, hleaf]⟩
  · have hin : i < (flatC y.chairs).length := by omega
    obtain ⟨p, hpi⟩ : ∃ p, (flatC y.chairs)[i]? = some p := ⟨_, List.getElem?_eq_getElem hin⟩
    obtain ⟨x, hx3, hm⟩ := flatC_get hpi
    have hx : y.chairs[((i : Int) / 3).toNat]? = some x := by rw [show ((i : Int) / 3).toNat = i / 3 by omega]; exact hx3
    have hd : (flatC y.chairs).drop i = p :: (flatC y.chairs).drop (i + 1) := by rw [List.drop_eq_getElem_cons hin]; congr 1; exact Option.some.inj ((List.getElem?_eq_getElem hin).symm.trans hpi)
    rw [hd, ← brC_two] at hxs
    refine C.skip ?_
    refine C.next ?_
    refine C.seq ?_
    refine C.seq ?_
    refine C.region [(false,0)] rfl ?_
    refine L.move rfl rfl rfl trivial ?_
    refine L.nil ?_
    refine C.next ?_
    refine C.block ?_
    refine C.loopJ (γ := Nat × List Int) (fun g => 2 - g.1) (fun g => g.1 ≤ 2 ∧ g.2.length = 3 * y.chairs.length ∧ g.2.take i = pre) (fun g => J (done ++ brC p ((flatC y.chairs).drop (i + 1)) pre g.1)) (fun g => [(22, .int .i64 (g.1 : Int))]) [(8, _), (7, _), (6, _), (0, _), (1, _), (3, _), (4, _)] (fun g => chooseMu bh bc bo bY br y.chairs.length g.2) (fun g => Ds) (0, c) ⟨by simp, h9, hp⟩ (by simp [brC_zero]) ⟨(by first | rfl | (show some (Value.int _ _) = some (Value.int _ _); congr 2; omega)), trivial⟩ ⟨rfl, rfl, rfl, rfl, rfl, rfl, rfl, trivial⟩ (List.Sublist.refl _) (ds_same) ?_
    rintro ⟨k, c1⟩ ⟨h11, h91, hp1⟩
    simp only at h11 h91 hp1
    refine C.seq ?_
    refine C.region [(false,0)] rfl ?_
    refine L.lss rfl rfl rfl rfl trivial ?_
    refine L.nil ?_
    refine C.next ?_
    refine C.seq ?_
    refine C.condD rfl (fun hc2 => ?_) (fun hc2 => ?_)
    · refine C.skip ?_
      refine C.next ?_
      refine C.seq ?_
      refine C.block ?_
      refine C.seq ?_
      refine C.region [(false,0),(false,1)] rfl ?_
      refine L.move rfl rfl rfl trivial ?_
      refine L.assign rfl rfl rfl trivial ?_
      refine L.nil ?_
      refine C.next ?_
      refine C.seq ?_
      refine C.region [(false,0),(false,1),(false,2),(false,3),(false,4),(false,5),(false,6),(false,7),(false,8)] rfl ?_
      refine L.fieldAddr rfl Tf.f37_0 rfl rfl trivial ?_
      refine L.loadD1 rfl (k := 0) Tf.a34 rfl hA (by first | simp | assumption) rfl List.not_mem_nil rfl trivial ?_
      refine L.move rfl rfl rfl trivial ?_
      refine L.move rfl rfl rfl trivial ?_
      refine L.indexS rfl Try.underlying34 Tf.s115 rfl hc rfl (by omega) hx rfl trivial (fun b1 o1 cs1 hr1 hcl1 hA1 => ?_)
      obtain rfl : cs1 = [.int .i64 _, .int .i64 _, .int .i64 _, .int .i64 _] := hr1
      refine L.fieldAddr rfl Tf.f115_1 rfl rfl trivial ?_
      refine L.indexA rfl Try.underlying113 Tf.s3 rfl rfl (by omega) (by omega) rfl trivial ?_
      refine L.loadD1 (o := _ + 1) (k := ((i : Int) % 3).toNat * 1) rfl Tf.a3 rfl hA1.tail (by first | assumption | simp) (by rw [show ((i : Int) % 3).toNat = i % 3 by omega]; exact pt_get hm) List.not_mem_nil rfl trivial ?_
      refine L.assign rfl rfl rfl trivial ?_
      refine L.nil ?_
      refine C.next ?_
      refine C.seq ?_
      refine C.region [(false,0),(false,1),(false,2),(false,3),(false,4),(false,5),(false,6)] rfl ?_
      refine L.move rfl rfl rfl trivial ?_
      refine L.eql rfl rfl rfl rfl trivial ?_
      refine L.move rfl rfl rfl trivial ?_
      refine' L.or [(false,3),(false,4),(false,5),(false,6)] [] (s := 35) (p := 39) rfl rfl (fun hg1 => ?_) (fun hg1 => ?_) ?_
      rotate_left
      · refine L.move rfl rfl rfl ⟨_, rfl, rfl⟩ ?_
        refine L.move rfl rfl rfl ⟨_, rfl, rfl⟩ ?_
        refine L.eql rfl rfl rfl rfl ⟨_, rfl, rfl⟩ ?_
        refine L.pickF rfl rfl rfl rfl trivial ?_
        exact L.nil fun a w hh => hh.cutK 3 rfl
      · refine L.pass rfl rfl rfl ⟨_, _, rfl, rfl, rfl⟩ ?_
        refine L.pass rfl rfl rfl ⟨_, _, rfl, rfl, rfl⟩ ?_
        refine L.pass rfl rfl rfl ⟨_, _, rfl, rfl, rfl⟩ ?_
        refine L.pickT rfl rfl rfl rfl trivial ?_
        exact L.nil fun a w hh => hh.cutK 3 rfl
      refine L.nil ?_
      refine C.next ?_
      refine C.cond rfl (fun hc3 => ?_) (fun hc3 => ?_)
      · have hpk : p = 2 ∨ p = (k : Int) := by simpa using hc3
        obtain ⟨rr, hr⟩ := brC_rest (p := p) (ps := (flatC y.chairs).drop (i + 1)) (pre := pre) (k := k) (by omega)
        refine C.seq ?_
        refine C.region [(false,0),(false,1),(false,2),(false,3),(false,4),(false,5),(false,6)] rfl ?_
        refine L.loadB1 rfl Tf.a39 rfl (List.Mem.tail _ (List.Mem.head _)) rfl List.not_mem_nil rfl trivial ?_
        refine L.move rfl rfl rfl trivial ?_
        refine L.move rfl rfl rfl trivial ?_
        refine L.move rfl rfl rfl trivial ?_
        refine L.indexP rfl Try.underlying39 Tf.s113 rfl rfl (by omega) (by omega) rfl trivial ?_
        refine L.indexA rfl Try.underlying113 Tf.s3 rfl rfl (by omega) (by omega) rfl trivial ?_
        refine L.storeF (k := i) rfl Tf.s3 (by show some (Value.pointer (some ⟨bo, 0 + ((i : Int) / 3).toNat * 3 + ((i : Int) % 3).toNat * 1, none⟩)) = _; rw [ptr_i]) rfl (.tail (.tail Has.head)) (by simp only; omega) trivial ?_
        refine L.nil ?_
        refine C.next ?_
        refine C.seq ?_
        refine C.region [(false,0),(false,1),(false,2),(false,3),(false,4)] rfl ?_
        refine L.loadB1 rfl Tf.a170 rfl (List.Mem.head _) rfl List.not_mem_nil rfl trivial ?_
        refine L.move rfl rfl rfl trivial ?_
        refine L.add rfl rfl rfl (by simp only [inK]; omega) rfl trivial ?_
        refine L.callJ rfl rfl rfl rfl (ih (j - 1) (by omega) (i + 1) (pre ++ [(k : Int)]) (c1.set i k) (done ++ brC p ((flatC y.chairs).drop (i + 1)) pre k) (rr ++ rest) (i + 1 : Int) (by omega) (by omega) (by simp; omega) (by simpa using h91) (set_take (by omega) hp1) (by rw [hxs, hr, brC_yes hpk]; simp)) rfl trivial ?_
        rintro _ J2 _ ⟨b2, c2, rfl, h9', hp', rfl, hJ2⟩
        refine L.not rfl rfl rfl trivial ?_
        refine L.nil ?_
        refine C.next ?_
        refine C.cond rfl (fun hc4 => ?_) (fun hc4 => ?_)
        · obtain rfl : b2 = false := by simpa using hc4
          refine C.seq ?_
          refine C.region [(false,0)] rfl ?_
          refine L.assign rfl rfl rfl trivial ?_
          refine L.nil ?_
          refine C.next ?_
          refine C.ret ?_
          refine C.blockRet ?_
          refine C.thenRet ?_
          refine C.thenRet ?_
          refine C.blockRet ?_
          refine C.thenRet ?_
          exact leaveJ (P := Try.prog) (fn := Try.f122) (N := 52) (vs := [_]) rfl rfl ⟨rfl, trivial⟩ (fun D h => ⟨D, h, Le.refl D⟩) ⟨false, c2, rfl, h9', take_pre hp' hl, rfl, by simpa using hJ2⟩
        · obtain rfl : b2 = true := by simpa using hc4
          refine C.skip ?_
          refine C.blockEnd ?_
          refine C.next ?_
          refine C.region [(false,0),(false,1)] rfl ?_
          refine L.add rfl rfl rfl (by simp only [inK]; omega) rfl trivial ?_
          refine L.move rfl rfl rfl trivial ?_
          refine L.nil ?_
          exact C.againJ 30 (k + 1, c2) ⟨by simp only; omega, h9', take_pre hp' hl⟩ (by simp only; omega) (by simpa only [if_true, brC_yes hpk, List.append_assoc] using hJ2) ⟨(by first | rfl | (show some (Value.int _ _) = some (Value.int _ _); congr 2; omega)), trivial⟩ rfl rfl (List.Sublist.refl _) (ds_same)
      · have hpk : ¬ (p = 2 ∨ p = (k : Int)) := by simpa using hc3
        refine C.skip ?_
        refine C.blockEnd ?_
        refine C.next ?_
        refine C.region [(false,0),(false,1)] rfl ?_
        refine L.add rfl rfl rfl (by simp only [inK]; omega) rfl trivial ?_
        refine L.move rfl rfl rfl trivial ?_
        refine L.nil ?_
        exact C.againJ 19 (k + 1, c1) ⟨by simp only; omega, h91, hp1⟩ (by simp only; omega) (by rw [brC_no hpk]) ⟨(by first | rfl | (show some (Value.int _ _) = some (Value.int _ _); congr 2; omega)), trivial⟩ rfl rfl (List.Sublist.refl _) (ds_same)
    · refine C.exit ?_
      refine C.thenExit ?_
      refine C.thenExit ?_
      refine C.blockExit ?_
      refine C.next ?_
      refine C.seq ?_
      refine C.region [(false,0)] rfl ?_
      refine L.assign rfl rfl rfl trivial ?_
      refine L.nil ?_
      refine C.next ?_
      refine C.ret ?_
      exact leaveJ (P := Try.prog) (fn := Try.f122) (N := 52) (vs := [_]) rfl rfl ⟨rfl, trivial⟩ (fun D h => ⟨D, h, Le.refl D⟩) ⟨true, c1, rfl, h91, hp1, rfl, by simp only [if_true]; rw [hd, ← brC_two, show k = 2 by omega]⟩
theorem truths1_ok (y : YardD) (Dr : Data) (br : Nat) (cv qv : Value) (hn7 : y.chairs.length ≤ 7) (hA : At Dr br 0 [cv, .int .i64 y.fit, qv]) (hc : Sl Dr RCh 4 cv y.chairs) :
    IterS Try.prog 121 [.pointer (some ⟨br, 0, none⟩)] Dr (C1.allT (flatC y.chairs)) (encS y.chairs.length) ints := by
  refine enterIterS 12 Try.func121 rfl rfl rfl rfl (fun lo l J Jx hs hsx hY => ?_)
  refine C.seq ?_
  refine C.region [(false,0)] rfl ?_
  refine L.boxD rfl rfl rfl rfl trivial (fun q1 E1 hE1 hB1 => ?_)
  refine L.nil ?_
  refine C.next ?_
  refine C.seq ?_
  refine C.region [(false,0),(false,1),(false,2),(false,3),(false,4),(false,5)] rfl ?_
  refine L.fieldAddr rfl Tf.f37_0 rfl rfl trivial ?_
  refine L.loadD1 rfl (k := 0) Tf.a34 rfl hA (by first | simp | assumption) rfl List.not_mem_nil rfl trivial ?_
  refine L.len rfl Try.underlying34 rfl hc rfl rfl trivial ?_
  refine L.makeSliceO rfl Try.underlying39 Tf.s113 Tf.z113 rfl Tf.i113 rfl rfl (by omega) (zero_cells (by simp) rfl) rfl trivial (fun bo => ?_)
  refine L.alloc rfl Tf.z39 rfl rfl trivial (fun q2 => ?_)
  refine L.store rfl rfl rfl rfl Tf.s39 (Has.head) (by simp) rfl (by simp [cell1]) trivial ?_
  refine L.nil ?_
  refine C.next ?_
  refine C.seq ?_
  refine C.region [(false,0)] rfl ?_
  refine L.alloc rfl Tf.z170 rfl rfl trivial (fun q3 => ?_)
  refine L.nil ?_
  refine C.next ?_
  refine C.seq ?_
  refine C.region [(false,0),(false,1)] rfl ?_
  refine L.makeFunc rfl rfl rfl rfl trivial ?_
  refine L.store rfl rfl rfl rfl Tf.s170 (Has.head) (by simp) rfl (by simp [cell1]) trivial ?_
  refine L.nil ?_
  refine C.next ?_
  refine C.region [(false,0),(false,1)] rfl ?_
  refine L.loadB1 rfl Tf.a170 rfl (List.Mem.head _) rfl List.not_mem_nil rfl trivial ?_
  refine L.callJ rfl rfl rfl rfl (choose_ok (l := l) hn7 hs hsx hY (by simp) (by simp) hA hc hB1 (3 * y.chairs.length) 0 [] (List.replicate (y.chairs.length * 3) 0) [] [] 0 rfl (by omega) rfl (by simp; omega) rfl (by simp)) rfl trivial ?_
  rintro _ J2 _ ⟨b2, c2, rfl, h9', hp', rfl, hJ2⟩
  refine L.nil ?_
  exact leaveJ (P := Try.prog) (fn := Try.f121) (N := 12) (vs := []) rfl rfl trivial (fun D h => ⟨D, by simp only [List.mem_singleton] at h; subst h; simp, Le.refl D⟩) (by cases b2 <;> simp at hJ2; exact Or.inr hJ2; exact Or.inl hJ2)
theorem truths_ok (yv : Value) (y : YardD) (D : Data) (hy : YardIs D yv y) (hn7 : y.chairs.length ≤ 7) :
    Fn Try.prog 112 #[yv] D (fun D' v => ∃ br, v = .func (.func 121) #[] #[.pointer (some ⟨br, 0, none⟩)] ∧ IterS Try.prog 121 [.pointer (some ⟨br, 0, none⟩)] D' (C1.allT (flatC y.chairs)) (encS y.chairs.length) ints) := by
  obtain ⟨cv, qv, rfl, hc, hq⟩ := hy
  refine enter 4 Try.func112 rfl rfl rfl rfl fun h0 => ?_
  refine C.seq ?_
  refine C.region [(false,0),(false,1)] rfl ?_
  refine L.boxD rfl rfl rfl rfl trivial (fun q1 E1 hE1 hB1 => ?_)
  refine L.assign rfl rfl rfl trivial ?_
  refine L.nil ?_
  refine C.next ?_
  refine C.seq ?_
  refine C.region [(false,0),(false,1)] rfl ?_
  refine L.makeFunc rfl rfl rfl rfl trivial ?_
  refine L.assign rfl rfl rfl trivial ?_
  refine L.nil ?_
  refine C.next ?_
  refine C.ret ?_
  exact leave (vs := [_]) rfl rfl rfl ⟨rfl, trivial⟩ (fun D hD => ⟨_, rfl, truths1_ok y _ q1 cv qv hn7 (hB1.up (hD _ (by simp))) (hc.up RCh.up (hD _ (by simp)))⟩)
end Go.Fs
namespace Go.Fs
variable {P : Program} {X : Cx} {γb : Type} [Membership Nat γb] {bad : γb} {all : Array Oper} {K : Act → World → Prop} {Q : Exit → Act → World → Prop}
variable {σ : Slots} {μ : Boxes} {Ds : List Data} {os : List (Bool × Nat)} {fl : Bool} {ix : Nat}
variable {d : Nat} {x y z : Operand} {u v : Value} {ty : TypeId} {pos : String} {aft : Array Edge} {g : Option (Nat × Bool)}
/-- A field that has n numbers from o on. -/
structure FldOk (P : Program) (f : Field) (o n : Nat) : Prop where
  name : f.name ≠ "_"
  eqp : ∀ (l m : List Int) w, o + n ≤ l.length → o + n ≤ m.length → ∃ u v, (part f.type (ints l).toArray f.offset).run P w = .ok u w ∧ (part f.type (ints m).toArray f.offset).run P w = .ok v w ∧ (Op.equalIn 9999 f.type u v).run P w = .ok ((l.drop o).take n == (m.drop o).take n) w
/-- Fields that follow each other. -/
inductive Chain (P : Program) : Nat → Nat → List Field → Prop
  | nil {o} : Chain P o o []
  | cons {o n e f fs} (h : FldOk P f o n) (r : Chain P (o + n) e fs) : Chain P o e (f :: fs)
theorem Chain.le {o e : Nat} {fs : List Field} (h : Chain P o e fs) : o ≤ e := by
  induction h with
  | nil => exact Nat.le_refl _
  | cons _ _ ih => omega
theorem drop_eq_split (l m : List Int) (o n : Nat) : (l.drop o == m.drop o) = (((l.drop o).take n == (m.drop o).take n) && (l.drop (o + n) == m.drop (o + n))) := by
  rw [Bool.eq_iff_iff]
  simp only [beq_iff_eq, Bool.and_eq_true]
  constructor
  · intro h
    exact ⟨by rw [h], by rw [← List.drop_drop, ← List.drop_drop, h]⟩
  · rintro ⟨h1, h2⟩
    rw [← List.take_append_drop n (l.drop o), ← List.take_append_drop n (m.drop o), h1, List.drop_drop, List.drop_drop, h2]
theorem run_eqFields (l m : List Int) (w : World) {o e : Nat} {fs : List Field} (h : Chain P o e fs) (hl : l.length = e) (hm : m.length = e) : (Op.eqFields 9999 (ints l).toArray (ints m).toArray fs).run P w = .ok (l.drop o == m.drop o) w := by
  induction h with
  | nil =>
    rw [List.drop_eq_nil_of_le (by omega), List.drop_eq_nil_of_le (by omega)]; rfl
  | @cons o n e f fs h r ih =>
    have hle := r.le
    obtain ⟨u, v, h1, h2, h3⟩ := h.eqp l m w (by omega) (by omega)
    rw [Op.eqFields, if_pos h.name]
    simp only [Sem.run_bind, h1, h2, Result.andThen_ok]
    rw [h3, drop_eq_split l m o n]
    simp only [Result.andThen_ok]
    cases hx : (l.drop o).take n == (m.drop o).take n with
    | true =>
      simp only [Bool.not_true, Bool.false_eq_true, if_false, Bool.true_and]
      exact ih hl hm
    | false => simp only [Bool.not_false, if_true, Sem.run_pure, Bool.false_and]
theorem FldOk.int {f : Field} {o : Nat} (hn : f.name ≠ "_") (ho : f.offset = o) (ht : P.underlying f.type = some (.int .i64)) : FldOk P f o 1 := by
  refine ⟨hn, fun l m w hl hm => ?_⟩
  have h1 : l[o]? = some (l[o]'(by omega)) := List.getElem?_eq_getElem _
  have h2 : m[o]? = some (m[o]'(by omega)) := List.getElem?_eq_getElem _
  refine ⟨.int .i64 l[o], .int .i64 m[o], run_part_int ht (by rw [ho]; simpa using ints_get h1) w, run_part_int ht (by rw [ho]; simpa using ints_get h2) w, ?_⟩
  rw [run_equalIn_int w 9998 f.type .i64 .i64 _ _ ht]
  congr 1
  have t1 : (l.drop o).take 1 = [l[o]] := by rw [List.drop_eq_getElem_cons (show o < l.length by omega)]; rfl
  have t2 : (m.drop o).take 1 = [m[o]] := by rw [List.drop_eq_getElem_cons (show o < m.length by omega)]; rfl
  rw [t1, t2]
  simp
theorem part_ints {t : TypeId} {n o : Nat} (ha : TA P t true) (hs : TS P t n) {l : List Int} (_hl : o + n ≤ l.length) (w : World) : (part t (ints l).toArray o).run P w = .ok (.agg (ints ((l.drop o).take n)).toArray) w := by
  unfold part
  simp only [Sem.run_bind, ha w, Result.andThen_ok, if_true, hs w, Sem.run_pure]
  congr 2
  apply Array.ext'
  simp only [Array.toList_extract, List.extract_eq_take_drop, ints, List.map_drop, List.map_take]
  congr 1; omega
theorem FldOk.arr {f : Field} {o n : Nat} {e : TypeId} (hn : f.name ≠ "_") (ho : f.offset = o) (ht : P.underlying f.type = some (.array n e)) (he : P.underlying e = some (.int .i64)) (hc : P.cellsOf e = 1) (ha : TA P f.type true) (hs : TS P f.type n) : FldOk P f o n := by
  refine ⟨hn, fun l m w hl hm => ⟨_, _, by rw [ho]; exact part_ints ha hs hl w, by rw [ho]; exact part_ints ha hs hm w, ?_⟩⟩
  obtain ⟨i, hi⟩ := info_of_underlying he
  have h := run_equalIn_array (P := P) w 9998 (ints ((l.drop o).take n)).toArray (ints ((m.drop o).take n)).toArray ht hi
  have e1 : ((l.drop o).take n).length = n := by rw [List.length_take, List.length_drop]; omega
  have e2 : ((m.drop o).take n).length = n := by rw [List.length_take, List.length_drop]; omega
  rw [hc, run_eqItems_ints 9997 he _ _ w (List.range n) (fun j hj => by have := List.mem_range.1 hj; omega), all_range_eq e1 e2] at h
  exact h
/-- A struct's type that is compared number by number. -/
def KS (P : Program) (t : TypeId) (n : Nat) : Prop := P.underlying t = some (.struct (P.fieldsOf t)) ∧ P.stoodInHeld t = false ∧ P.eqGuardType P.depth t = false ∧ Chain P 0 n (P.fieldsOf t).toList
theorem run_equal_s {t : TypeId} {n : Nat} (h : KS P t n) {l m : List Int} (hl : l.length = n) (hm : m.length = n) (w : World) : (Op.equal t (.agg (ints l).toArray) (.agg (ints m).toArray)).run P w = .ok (l == m) w := by
  have he := run_equalIn_struct (P := P) w 9999 t (ints l).toArray (ints m).toArray h.1 h.2.1
  show (Op.equalIn (9999 + 1) t (.agg (ints l).toArray) (.agg (ints m).toArray)).run P w = _
  rw [he, run_eqFields l m w h.2.2.2 hl hm]
  simp
theorem L.neqS {t t' : TypeId} {n : Nat} {l m : List Int} (ho : all[ix]? = some ⟨some d, .binOp .neq t x y t', ty, pos, aft, g⟩) (ht : KS P t n) (hl : l.length = n) (hm : m.length = n) (hx : ev σ x = some (.agg (ints l).toArray)) (hy : ev σ y = some (.agg (ints m).toArray)) (hN : Nat.blt d X.N = true) (hg : Gok all σ g)
    (kk : WL P X bad all K Q os ((d, .bool (!(l == m))) :: σ) μ Ds) : WL P X bad all K Q ((fl, ix) :: os) σ μ Ds :=
  L.neqX ho (fun w => by
    have hgd : (eqGuard .neq t x y (.agg (ints l).toArray) (.agg (ints m).toArray)).run P w = .ok () w := by
      simp only [eqGuard, program]
      simp [Sem.run, ht.2.2.1, go_sem]
    rw [Sem.run_bind, hgd]
    show ((do Pure.pure (Value.bool (!(← Op.equal t (.agg (ints l).toArray) (.agg (ints m).toArray))))) : Sem Value).run P w = _
    rw [Sem.run_bind, run_equal_s ht hl hm]; rfl) hx hy hN hg kk
end Go.Fs
namespace Go.Fs
open Go.Proofs
open C7
def scI (s : Sc) : List Int := (s.whole : Int) :: (s.broken : Int) :: s.fits.map fun n : Nat => (n : Int)
theorem scI_len (s : Sc) (h : s.fits.length = 7) : (scI s).length = 9 := by simp [scI, h]
theorem scV_eq (s : Sc) : scV s = .agg (ints (scI s)).toArray := by
  unfold scV scC scI ints
  rw [List.map_cons, List.map_cons, List.map_map]; rfl
theorem scI_inj {s s' : Sc} (h : scI s = scI s') : s = s' := by
  obtain ⟨a, b, c⟩ := s
  obtain ⟨a', b', c'⟩ := s'
  simp only [scI, List.cons.injEq] at h
  obtain ⟨h1, h2, h3⟩ := h
  rw [casts_inj h3, show a = a' by omega, show b = b' by omega]
def lastI (acc : List (Sc × Nat)) : List Int := match acc.getLast? with
  | some p => scI p.1
  | none => []
def addSc (y : YardD) (out : List Int) (acc : List (Sc × Nat)) (t : List Pt) : List (Sc × Nat) :=
  if (rightO y.claims out (mostS y.chairs.length (sceneD y t) : Int) && (decide ((acc.length : Int) = 0) || !(lastI acc == scI (sceneD y t)))) = true then acc ++ [(sceneD y t, mostS y.chairs.length (sceneD y t))] else acc
def scPre (y : YardD) (out : List Int) (pre : List (List Int)) : List (Sc × Nat) := (pre.map grp).foldl (addSc y out) []
/-- The scenes of all truths that are right but for some claims, the same ones in a row only once; and the most chairs in them. -/
def scenesD (y : YardD) (out : List Int) : List (Sc × Nat) := (truthsD y).foldl (addSc y out) []
theorem scPre_all (y : YardD) (out : List Int) : scPre y out (C1.allT (flatC y.chairs)) = scenesD y out := rfl
theorem scPre_snoc (y : YardD) (out : List Int) (pre : List (List Int)) (x : List Int) : scPre y out (pre ++ [x]) = addSc y out (scPre y out pre) (grp x) := by
  unfold scPre; rw [List.map_append, List.foldl_append]; rfl
theorem addSc_len (y : YardD) (out : List Int) (acc : List (Sc × Nat)) (t : List Pt) : (addSc y out acc t).length ≤ acc.length + 1 := by
  unfold addSc; split
  · simp
  · omega
theorem scPre_len (y : YardD) (out : List Int) (pre : List (List Int)) : (scPre y out pre).length ≤ pre.length := by
  have key : ∀ (l : List (List Pt)) (acc : List (Sc × Nat)), (l.foldl (addSc y out) acc).length ≤ acc.length + l.length := by
    intro l
    induction l with
    | nil => intro acc; simp
    | cons t l ih => intro acc; rw [List.foldl_cons]; have := ih (addSc y out acc t); have := addSc_len y out acc t; rw [List.length_cons]; omega
  have := key (pre.map grp) []
  simpa [scPre] using this
theorem scPre_fits (y : YardD) (out : List Int) (pre : List (List Int)) : ∀ p ∈ scPre y out pre, p.1.fits.length = 7 := by
  have key : ∀ (l : List (List Pt)) (acc : List (Sc × Nat)), (∀ p ∈ acc, p.1.fits.length = 7) → ∀ p ∈ l.foldl (addSc y out) acc, p.1.fits.length = 7 := by
    intro l
    induction l with
    | nil => intro acc h; exact h
    | cons t l ih =>
      intro acc h
      rw [List.foldl_cons]
      refine ih _ fun p hp => ?_
      unfold addSc at hp
      split at hp
      · rcases List.mem_append.1 hp with hp | hp
        · exact h p hp
        · simp only [List.mem_singleton] at hp; subst hp; simp [sceneD]
      · exact h p hp
  exact key _ [] (by simp)
def scsC (l : List Sc) : List Value := l.flatMap fun s => ints (scI s)
theorem scsC_length {l : List Sc} (h : ∀ s ∈ l, s.fits.length = 7) : (scsC l).length = l.length * 9 := by
  induction l with
  | nil => rfl
  | cons c l ih =>
    have := ih fun s hs => h s (List.mem_cons_of_mem _ hs)
    unfold scsC at this ⊢
    rw [List.flatMap_cons, List.length_append, this, ints_length, scI_len c (h c List.mem_cons_self), List.length_cons]; omega
theorem scsC_len {acc : List (Sc × Nat)} (h : ∀ p ∈ acc, p.1.fits.length = 7) : (scsC (acc.map fun p => p.1)).length = acc.length * 9 := by
  rw [scsC_length fun s hs => by obtain ⟨p, hp, rfl⟩ := List.mem_map.1 hs; exact h p hp, List.length_map]
theorem scsC_get {l : List Sc} (h : ∀ s ∈ l, s.fits.length = 7) {i : Nat} {s : Sc} (hi : l[i]? = some s) (junk : List Value) : ((scsC l ++ junk).drop (i * 9)).take 9 = ints (scI s) := by
  induction l generalizing i with
  | nil => simp at hi
  | cons d l ih =>
    have h9 : (ints (scI d)).length = 9 := by rw [ints_length, scI_len d (h d List.mem_cons_self)]
    have hc : scsC (d :: l) = ints (scI d) ++ scsC l := rfl
    rw [hc, List.append_assoc]
    cases i with
    | zero =>
      obtain rfl : d = s := by simpa using hi
      rw [Nat.zero_mul, List.drop_zero, List.take_append_of_le_length (by omega), List.take_of_length_le (by omega)]
    | succ i =>
      rw [List.drop_append, List.drop_eq_nil_of_le (by omega), List.nil_append, show (i + 1) * 9 - (ints (scI d)).length = i * 9 by omega]
      exact ih (fun s hs => h s (List.mem_cons_of_mem _ hs)) (by simpa using hi)
def RSc : Rd Sc := fun _ s cs => cs = ints (scI s)
theorem RSc.up : RSc.Up := fun _ _ _ h => h
theorem Froz.scs {D : Data} {v : Value} {n : Nat} {acc : List (Sc × Nat)} (hF : Froz D v n (scsC (acc.map fun p => p.1))) (hn : (acc.map fun p => p.1).length = n) (hb : n ≤ 9223372036854775807) (h : ∀ p ∈ acc, p.1.fits.length = 7 := by assumption) : Sl D RSc 9 v (acc.map fun p => p.1) := by
  have h' : ∀ s ∈ acc.map (fun p => p.1), s.fits.length = 7 := fun s hs => by obtain ⟨p, hp, rfl⟩ := List.mem_map.1 hs; exact h p hp
  exact hF.sl hn hb fun i s hi => ⟨_, rfl, by rw [ints_length, scI_len s (h' s (List.mem_of_getElem? hi))], by have := scsC_get h' hi []; rwa [List.append_nil] at this⟩
theorem lastI_len {acc : List (Sc × Nat)} (h : ∀ p ∈ acc, p.1.fits.length = 7) (hne : acc ≠ []) : (lastI acc).length = 9 := by
  unfold lastI
  rw [List.getLast?_eq_some_getLast hne]
  exact scI_len _ (h _ (List.getLast_mem hne))
theorem lastI_at {acc : List (Sc × Nat)} (h : ∀ p ∈ acc, p.1.fits.length = 7) (hne : acc ≠ []) (junk : List Value) : ((scsC (acc.map fun p => p.1) ++ junk).drop (0 + (((acc.length : Int) - 1).toNat) * 9)).take 9 = ints (lastI acc) := by
  have h' : ∀ s ∈ acc.map (fun p => p.1), s.fits.length = 7 := fun s hs => by obtain ⟨p, hp, rfl⟩ := List.mem_map.1 hs; exact h p hp
  have hpos := List.length_pos_iff.2 hne
  unfold lastI
  rw [List.getLast?_eq_some_getLast hne, Nat.zero_add]
  refine scsC_get h' ?_ junk
  rw [List.getElem?_map, show ((acc.length : Int) - 1).toNat = acc.length - 1 by omega, ← List.getLast?_eq_getElem?, List.getLast?_eq_some_getLast hne]; rfl
theorem sl_grp {D : Data} {bo n : Nat} {x : List Int} (h : At D bo 0 (ints x)) (hx : x.length = 3 * n) (hn : n ≤ 7) : Sl D RP 3 (.slice (some ⟨bo, 0, none⟩) n n) (grp x) := by
  obtain ⟨h1, h2⟩ := grp_of _ _ hx
  have hle : n ≤ 9223372036854775807 ∨ True := Or.inr trivial
  have key : ∀ (l : List Pt) (i : Nat) (p : Pt), l[i]? = some p → ((ints (C7.flatP l)).drop (i * 3)).take 3 = [.int .i64 p.a, .int .i64 p.b, .int .i64 p.c] := by
    intro l
    induction l with
    | nil => intro i p hi; simp at hi
    | cons d l ih =>
      intro i p hi
      cases i with
      | zero => obtain rfl : d = p := by simpa using hi
                rfl
      | succ i =>
        rw [C7.flatP_cons, show (i + 1) * 3 = i * 3 + 3 by omega]
        exact ih i p (by simpa using hi)
  refine ⟨_, n, by rw [h2], by omega, ?_, Or.inr ⟨bo, 0, rfl, fun i p hi => ⟨_, rfl, rfl, fun j v hj => ?_⟩⟩⟩
  · rw [h2]; omega
  · have := key _ _ _ hi
    rw [h1] at this
    rw [← this, List.getElem?_take] at hj
    split at hj
    · rw [List.getElem?_drop] at hj
      have := h _ v hj
      rw [show 0 + i * 3 + j = 0 + (i * 3 + j) by omega]; exact this
    · cases hj
def ScI (y : YardD) (out : List Int) (pre : List (List Int)) (g : Array MapEntry × Nat × List (Ints 8 × Int) × Value × Boxes × Value × Boxes) : Prop :=
  MapG kaV g.1 g.2.2.1 ∧ MOk y.chairs.length g.2.2.1 ∧ Acc 126 9 g.2.2.2.1 (scPre y out pre).length (scsC ((scPre y out pre).map fun p => p.1)) g.2.2.2.2.1 ∧ Acc 3 1 g.2.2.2.2.2.1 (scPre y out pre).length (ints ((scPre y out pre).map fun p => (p.2 : Int))) g.2.2.2.2.2.2
theorem scI_yes {y : YardD} {out : List Int} {pre : List (List Int)} {x : List Int} {es : Array MapEntry} {cl : Nat} {M : List (Ints 8 × Int)} {v u : Value} {ν ω : Boxes} (hM : MapG kaV es M) (hok : MOk y.chairs.length M)
    (hc : (rightO y.claims out (mostS y.chairs.length (sceneD y (grp x)) : Int) && (decide (((scPre y out pre).length : Int) = 0) || !(lastI (scPre y out pre) == scI (sceneD y (grp x))))) = true)
    (h1 : Acc 126 9 v ((scPre y out pre).length + 1) (scsC ((scPre y out pre).map fun p => p.1) ++ ints (scI (sceneD y (grp x)))) ν) (h2 : Acc 3 1 u ((scPre y out pre).length + 1) (ints ((scPre y out pre).map fun p => (p.2 : Int)) ++ [.int .i64 (mostS y.chairs.length (sceneD y (grp x)) : Int)]) ω) : ScI y out (pre ++ [x]) (es, cl, M, v, ν, u, ω) := by
  have e : scPre y out (pre ++ [x]) = scPre y out pre ++ [(sceneD y (grp x), mostS y.chairs.length (sceneD y (grp x)))] := by
    rw [scPre_snoc, addSc, if_pos hc]
  unfold ScI
  rw [e]
  refine ⟨hM, hok, ?_, ?_⟩
  · simpa [scsC] using h1
  · simpa [ints] using h2
theorem scI_no {y : YardD} {out : List Int} {pre : List (List Int)} {x : List Int} {es : Array MapEntry} {cl : Nat} {M : List (Ints 8 × Int)} {v u : Value} {ν ω : Boxes} (hM : MapG kaV es M) (hok : MOk y.chairs.length M)
    (hc : (rightO y.claims out (mostS y.chairs.length (sceneD y (grp x)) : Int) && (decide (((scPre y out pre).length : Int) = 0) || !(lastI (scPre y out pre) == scI (sceneD y (grp x))))) = false)
    (h1 : Acc 126 9 v (scPre y out pre).length (scsC ((scPre y out pre).map fun p => p.1)) ν) (h2 : Acc 3 1 u (scPre y out pre).length (ints ((scPre y out pre).map fun p => (p.2 : Int))) ω) : ScI y out (pre ++ [x]) (es, cl, M, v, ν, u, ω) := by
  have e : scPre y out (pre ++ [x]) = scPre y out pre := by
    rw [scPre_snoc, addSc, if_neg (by rw [hc]; simp)]
  unfold ScI
  rw [e]
  exact ⟨hM, hok, h1, h2⟩
theorem allT_cap {y : YardD} (h : y.chairs.length ≤ 7) : (C1.allT (flatC y.chairs)).length ≤ 2097152 := by
  have h1 := C1.allT_length (flatC y.chairs)
  have h2 : 2 ^ (flatC y.chairs).length ≤ 2 ^ 21 := Nat.pow_le_pow_right (by omega) (by rw [flatC_length]; omega)
  omega
theorem allT_step {l x : List Int} {pre r : List (List Int)} (h : C1.allT l = pre ++ x :: r) : x.length = l.length ∧ (∀ n ∈ x, 0 ≤ n ∧ n ≤ 1) ∧ pre.length < (C1.allT l).length := by
  have hm : x ∈ C1.allT l := by rw [h]; simp
  exact ⟨(C1.allT_ok hm).1, (C1.allT_ok hm).2, by rw [h]; simp⟩
theorem grp_bits {x : List Int} (h : ∀ n ∈ x, 0 ≤ n ∧ n ≤ 1) (hg : C7.flatP (grp x) = x) : ∀ p ∈ grp x, Bits1 p := fun p hp => by
  have : ∀ n ∈ p.l, n ∈ x := fun n hn => by rw [← hg]; exact List.mem_flatMap.2 ⟨p, hp, hn⟩
  exact ⟨h _ (this _ (by simp [Pt.l])), h _ (this _ (by simp [Pt.l])), h _ (this _ (by simp [Pt.l]))⟩
theorem asc4 (A ν ω T : Boxes) : A ++ (ν ++ (ω ++ T)) = A ++ (ν ++ ω) ++ T := by simp
theorem asc5 (A ν ω T : Boxes) : A ++ ((ν ++ ω) ++ T) = A ++ ν ++ (ω ++ T) := by simp
theorem mods4 {a b c d : Nat} {l : List Nat} : ∀ k ∈ [c, d], k ∈ a :: b :: c :: d :: l := fun k hk => by
  simp only [List.mem_cons, List.not_mem_nil, or_false] at hk ⊢
  rcases hk with rfl | rfl
  · exact Or.inr (Or.inr (Or.inl rfl))
  · exact Or.inr (Or.inr (Or.inr (Or.inl rfl)))
theorem nd3 {A B ν ω C : Boxes} {k : Nat} (h : (((A ++ B) ++ (ν ++ (ω ++ C))).map fun p => p.1).Nodup) (hk : k ∈ (A ++ B).ks) : k ∉ ν.ks ++ ω.ks := by
  rw [List.map_append, List.map_append, List.map_append, List.nodup_append] at h
  intro hm
  refine h.2.2 k (by simpa using hk) k ?_ rfl
  rcases List.mem_append.1 hm with hm | hm
  · exact List.mem_append_left _ hm
  · rw [List.map_append]; exact List.mem_append_right _ (List.mem_append_left _ hm)
theorem mostS_le {n : Nat} {s : Sc} (h : ScOk n s) (hn : n ≤ 7) : mostS n s ≤ 200 := by
  have h1 := nuB_le s.fits n s.broken
  have h2 := bits_lt h.bits hn
  have h3 := h.whole
  unfold mostS; omega
theorem ks_126 : KS Try.prog 126 9 := by
  have hf : (Try.prog.fieldsOf 126).toList = [(Try.prog.fieldsOf 126)[0]!, (Try.prog.fieldsOf 126)[1]!, (Try.prog.fieldsOf 126)[2]!] := by kernel_rfl
  refine ⟨by kernel_rfl, by kernel_rfl, by kernel_rfl, ?_⟩
  rw [hf]
  refine .cons (FldOk.int (by decide +kernel) (by kernel_rfl) (by kernel_rfl)) (.cons (FldOk.int (by decide +kernel) (by kernel_rfl) (by kernel_rfl)) (.cons (n := 7) (FldOk.arr (e := 3) (by decide +kernel) (by kernel_rfl) (by kernel_rfl) (by kernel_rfl) (by kernel_rfl) ?_ ?_) .nil))
  · rw [show ((Try.prog.fieldsOf 126)[2]!).type = 124 by kernel_rfl]; exact Tf.a124
  · rw [show ((Try.prog.fieldsOf 126)[2]!).type = 124 by kernel_rfl]; exact Tf.s124
theorem scene2_ok (yv tv : Value) (y : YardD) (t : List Pt) (D : Data) (hy : YardIs D yv y) (ht : Sl D RP 3 tv t) (hlen : t.length = y.chairs.length) (h7 : t.length ≤ 7) (hb : ∀ p ∈ t, Bits1 p) (hf : 0 ≤ y.fit ∧ y.fit ≤ 9) (hs : ∀ c ∈ y.chairs, 0 ≤ c.size ∧ c.size ≤ 9) : Fn Try.prog 77 #[yv, tv] D (fun _ v => v = .agg (ints (scI (sceneD y t))).toArray) := by
  rw [← scV_eq]; exact scene_ok yv tv y t D hy ht hlen h7 hb hf hs
theorem most2_ok (wb mb : Nat) (cv qv : Value) (fit : Int) (chs : List Ch) (s : Sc) (hn7 : chs.length ≤ 7) (hs : ScOk chs.length s) (es : Array MapEntry) (clock : Nat) (M : List (Ints 8 × Int)) (D : Data) (hS : Sl D RCh 4 cv chs) (hM : MapG kaV es M) (hok : MOk chs.length M) :
    FnM Try.prog 99 [.pointer (some ⟨wb, 0, none⟩), .agg (ints (scI s)).toArray] D [(wb, .cells [cv, .int .i64 fit, qv, .map (some mb)].toArray 148 (0, 0)), (mb, .map es clock)] (fun _ v ν' => v = .int .i64 (mostS chs.length s : Int) ∧ ∃ es' clock' M', ν' = [(wb, .cells [cv, .int .i64 fit, qv, .map (some mb)].toArray 148 (0, 0)), (mb, .map es' clock')] ∧ MapG kaV es' M' ∧ MOk chs.length M') := by
  rw [← scV_eq]; exact most_ok wb mb cv qv fit chs s hn7 hs es clock M D hS hM hok
theorem scenes_ok (wb mb : Nat) (cv qv : Value) (y : YardD) (out : List Int) (ov : Value) (hn7 : y.chairs.length ≤ 7) (hft : 0 ≤ y.fit ∧ y.fit ≤ 9) (hsz : ∀ c ∈ y.chairs, 0 ≤ c.size ∧ c.size ≤ 9) (es0 : Array MapEntry) (clock0 : Nat) (M0 : List (Ints 8 × Int)) (D : Data) (hS : Sl D RCh 4 cv y.chairs) (hq : Sl D R2 2 qv y.claims) (ho : Sl D RI 1 ov out) (hM0 : MapG kaV es0 M0) (hok0 : MOk y.chairs.length M0) :
    FnM Try.prog 86 [.pointer (some ⟨wb, 0, none⟩), ov] D [(wb, .cells [cv, .int .i64 y.fit, qv, .map (some mb)].toArray 148 (0, 0)), (mb, .map es0 clock0)] (fun D' v ν' => ∃ sv mv, v = .tuple #[sv, mv] ∧ Sl D' RSc 9 sv ((scenesD y out).map fun p => p.1) ∧ Sl D' RI 1 mv ((scenesD y out).map fun p => (p.2 : Int)) ∧ ∃ es' clock' M', ν' = [(wb, .cells [cv, .int .i64 y.fit, qv, .map (some mb)].toArray 148 (0, 0)), (mb, .map es' clock')] ∧ MapG kaV es' M' ∧ MOk y.chairs.length M') := by
  obtain ⟨oa, oc, rfl⟩ := ho.shape
  refine enterManyM 56 Try.func86 rfl rfl rfl rfl (fun h0 hwl hwn => ?_)
  refine C.seq ?_
  refine C.region [(false,0),(false,1),(false,2),(false,3)] rfl ?_
  refine L.boxD rfl rfl rfl rfl trivial (fun q1 E1 hE1 hB1 => ?_)
  refine L.boxD rfl rfl rfl rfl trivial (fun q2 E2 hE2 hB2 => ?_)
  refine L.alloc rfl Tf.z135 rfl rfl trivial (fun q3 => ?_)
  refine L.alloc rfl Tf.z52 rfl rfl trivial (fun q4 => ?_)
  refine L.nil ?_
  refine C.next ?_
  refine C.seq ?_
  refine C.seq ?_
  refine C.region [(false,0),(false,1),(false,2),(false,3),(false,4)] rfl ?_
  refine L.loadD1 rfl (k := 0) Tf.a120 rfl hB1 (by first | simp | assumption) rfl List.not_mem_nil rfl trivial ?_
  refine L.nilCheck rfl rfl rfl trivial ?_
  refine L.fieldAddr rfl Tf.f148_0 rfl rfl trivial ?_
  refine L.loadBP rfl Tf.a37 Tf.s37 rfl (List.Mem.tail _ (List.Mem.tail _ (List.Mem.head _))) rfl rfl List.not_mem_nil rfl trivial ?_
  refine L.call rfl rfl rfl (fun D1 hD1 => truths_ok _ y _ ⟨_, _, rfl, hS.up RCh.up (hD1 _ (by simp)), hq.up R2.up (hD1 _ (by simp))⟩ hn7) rfl trivial (fun v1 D1 hD1 hp1 => ?_)
  refine L.nil ?_
  refine C.next ?_
  refine C.block ?_
  obtain ⟨br, rfl, hit⟩ := hp1
  refine C.rangeFuncS (γ := Array MapEntry × Nat × List (Ints 8 × Int) × Value × Boxes × Value × Boxes) (xs := C1.allT (flatC y.chairs)) (enc := encS y.chairs.length) (cells := ints) (Dr := D1) (ScI y out) (fun _ _ _ => False) (fun g => (q4, .cells [g.2.2.2.2.2.1].toArray 52 (0, 0)) :: (q3, .cells [g.2.2.2.1].toArray 135 (0, 0)) :: (wb, .cells [cv, .int .i64 y.fit, qv, .map (some mb)].toArray 148 (0, 0)) :: (mb, .map g.1 g.2.1) :: (g.2.2.2.2.1 ++ g.2.2.2.2.2.2)) (es0, clock0, M0, .slice none 0 0, [], .slice none 0 0, []) rfl rfl (fun g k hk => List.mem_cons_of_mem _ (List.mem_cons_of_mem _ (List.mem_append_left (Boxes.ks _) hk))) rfl hit (by simp) (fun _ => rfl) rfl ⟨hM0, hok0, by simpa [scPre, scsC] using Acc.nil, by simpa [scPre, ints] using Acc.nil⟩ rfl ?_ ?_ (fun _ _ _ _ h => h.elim)
  · rintro pre x ⟨es, clock, M, v, ν, u, ω⟩ ⟨us, hx⟩ ⟨hM, hok, ha1, ha2⟩ l bd bo rec hh D7 hD7 hbo hst hpend
    simp only at hM hok ha1 ha2
    obtain ⟨hx3, hxb, hpl⟩ := allT_step hx
    have hcap := allT_cap hn7
    rw [flatC_length] at hx3
    have ht := sl_grp hbo hx3 hn7
    obtain ⟨hg1, hg2⟩ := grp_of _ _ hx3
    have htl : (grp x).length = y.chairs.length := hg2
    have htb := grp_bits hxb hg1
    have hsc := scene_ok' htl (by omega)
    have hpsl := scPre_len y out pre
    have hmb := mostS_le hsc hn7
    have hfit7 : ∀ p ∈ scPre y out pre, p.1.fits.length = 7 := scPre_fits y out pre
    have hs9 := scI_len (sceneD y (grp x)) (by simp [sceneD])
    refine C.region [(false,0)] rfl ?_
    refine L.assign rfl rfl rfl trivial ?_
    refine L.nil ?_
    refine fun a w hhh => C.begin (A := [(_, _), (_, _), (_, _), (_, _)] ++ (ν ++ ω)) (B := [(bd, .deferred (some []))]) (r := rec) (l := l) (by rfl) hst ?_ a w hhh
    refine C.boxesEq ((q4, .cells [u].toArray 52 (0, 0)) :: (q3, .cells [v].toArray 135 (0, 0)) :: (wb, .cells [cv, .int .i64 y.fit, qv, .map (some mb)].toArray 148 (0, 0)) :: (mb, .map es clock) :: (ν ++ (ω ++ [(l, .loop { rec with state := .busy }), (bd, .deferred (some []))]))) (by simp) ?_
    refine C.nd (fun hnd => ?_)
    simp only [List.map_cons, List.map_append, List.map_nil, List.nodup_cons, List.nodup_append, List.mem_cons, List.mem_append, List.not_mem_nil, not_or] at hnd
    refine C.block ?_
    refine C.seq ?_
    refine C.region [(false,0),(false,1),(false,2),(false,3),(false,4),(false,5),(false,6),(false,7)] rfl ?_
    refine L.loadD1 rfl (k := 0) Tf.a120 rfl hB1 (by first | simp | assumption) rfl List.not_mem_nil rfl trivial ?_
    refine L.nilCheck rfl rfl rfl trivial ?_
    refine L.fieldAddr rfl Tf.f148_0 rfl rfl trivial ?_
    refine L.loadBP rfl Tf.a37 Tf.s37 rfl (List.Mem.tail _ (List.Mem.tail _ (List.Mem.head _))) rfl rfl List.not_mem_nil rfl trivial ?_
    refine L.move rfl rfl rfl trivial ?_
    refine L.callV rfl rfl rfl (fun D2 hD2 => scene2_ok _ _ y (grp x) _ ⟨_, _, rfl, hS.up RCh.up (hD2 _ (by simp)), hq.up R2.up (hD2 _ (by simp))⟩ (ht.up RP.up (hD2 _ (by simp))) htl (by omega) htb hft hsz) rfl trivial ?_
    refine L.alloc rfl Tf.z126 rfl rfl trivial (fun q5 => ?_)
    refine L.storeW rfl rfl rfl rfl Tf.s126 (by simpa using hs9) (by rfl) .head (ints_cell1 _) trivial ?_
    refine L.nil ?_
    refine C.next ?_
    refine C.seq ?_
    refine C.region [(false,0),(false,1),(false,2),(false,3)] rfl ?_
    refine L.loadD1 rfl (k := 0) Tf.a120 rfl hB1 (by first | simp | assumption) rfl List.not_mem_nil rfl trivial ?_
    refine L.loadBW (vs := ints (scI (sceneD y (grp x)))) rfl Tf.a126 rfl (List.Mem.head _) (by rw [show (ints (scI (sceneD y (grp x)))).length = 9 by simpa using hs9]; exact Tf.s126) List.not_mem_nil rfl trivial ?_
    refine L.boxesEq ([(_, _), (_, _), (_, _)] ++ [(_, _), (_, _)] ++ (ν ++ (ω ++ [(l, _), (bd, _)]))) rfl ?_
    refine L.callM (A := [(_, _), (_, _), (_, _)]) (ν := [(_, _), (_, _)]) (B := ν ++ (ω ++ [(l, _), (bd, _)])) rfl rfl rfl rfl (Or.inl rfl) (unf_w (cs := [_, _, _, _])) (fun D5 hD5 => most2_ok wb mb cv qv y.fit y.chairs (sceneD y (grp x)) hn7 hsc es clock M D5 (hS.up RCh.up (hD5 _ (by simp))) hM hok) rfl trivial (fun v5 D6 _ hD6 hp5 => ?_)
    obtain ⟨rfl, es1, cl1, M1, rfl, hM1, hok1⟩ := hp5
    refine L.assign rfl rfl rfl trivial ?_
    refine L.nil ?_
    refine C.next ?_
    refine C.seq ?_
    refine C.draw [] 7 [0,1,2,3,4,5,6,7,8,9,10,11,12,13,14,15,16,17,18,19,20,21] [false,false,false,false,true,true,false,false,false,false,false,false,false,true,true,true,false,false,true,false,false,false] [(false,0),(false,1),(false,2),(false,3),(true,4),(true,5),(false,6),(false,7),(false,8),(false,9),(false,10),(false,11),(false,12),(true,13),(true,14),(true,15),(false,16),(false,17),(true,18),(false,19),(false,20),(false,21)] Tf.follows (fun _ _ _ h => h) (by kernel_rfl) rfl ?_
    refine L.loadD1 rfl (k := 0) Tf.a120 rfl hB1 (by first | simp | assumption) rfl List.not_mem_nil rfl trivial ?_
    refine L.nilCheck rfl rfl rfl trivial ?_
    refine L.fieldAddr rfl Tf.f148_0 rfl rfl trivial ?_
    refine L.loadBP rfl Tf.a37 Tf.s37 rfl (List.Mem.tail _ (List.Mem.tail _ (List.Mem.tail _ (List.Mem.head _)))) rfl rfl List.not_mem_nil rfl trivial ?_
    refine L.move rfl rfl rfl trivial ?_
    refine L.loadD1 rfl (k := 0) Tf.a52 rfl hB2 (by first | simp | assumption) rfl List.not_mem_nil rfl trivial ?_
    refine L.callV rfl rfl rfl (fun D3 hD3 => right_ok _ y _ _ out _ ⟨_, _, rfl, hS.up RCh.up (hD3 _ (by simp)), hq.up R2.up (hD3 _ (by simp))⟩ (ho.up RI.up (hD3 _ (by simp)))) rfl trivial ?_
    refine L.move rfl rfl rfl trivial ?_
    refine' L.and [(false,8),(false,9),(false,10),(false,11),(false,12),(true,13),(true,14),(true,15),(false,16),(false,17),(true,18),(false,19),(false,20),(false,21)] [] (s := 31) (p := 45) rfl rfl (fun hg1 => ?_) (fun hg1 => ?_) ?_
    rotate_left
    · refine L.loadB1 rfl Tf.a135 rfl (List.Mem.tail _ (List.Mem.tail _ (List.Mem.head _))) rfl List.not_mem_nil rfl ⟨_, rfl, rfl⟩ ?_
      refine L.lenAcc rfl Try.underlying135 rfl ha1 rfl rfl ⟨_, rfl, rfl⟩ ?_
      refine L.eql rfl rfl rfl rfl ⟨_, rfl, rfl⟩ ?_
      refine L.move rfl rfl rfl ⟨_, rfl, rfl⟩ ?_
      refine' L.or [(false,12),(true,13),(true,14),(true,15),(false,16),(false,17),(true,18),(false,19),(false,20)] [(false,21)] (s := 35) (p := 44) rfl rfl (fun hg2 => ?_) (fun hg2 => ?_) ?_
      rotate_left
      · have hne : scPre y out pre ≠ [] := fun e => by rw [e] at hg2; simp at hg2
        have hpos := List.length_pos_iff.2 hne
        obtain ⟨b5, cap5, junk5, rfl, hcp5, rfl, hl51, hl52⟩ := ha1.some hpos
        refine L.loadB1 rfl Tf.a135 rfl (List.Mem.tail _ (List.Mem.tail _ (List.Mem.head _))) rfl List.not_mem_nil rfl ⟨_, rfl, rfl⟩ ?_
        refine L.loadB1 rfl Tf.a135 rfl (List.Mem.tail _ (List.Mem.tail _ (List.Mem.head _))) rfl List.not_mem_nil rfl ⟨_, rfl, rfl⟩ ?_
        refine L.lenV rfl Try.underlying135 rfl rfl rfl ⟨_, rfl, rfl⟩ ?_
        refine L.sub rfl rfl rfl (by simp only [inK]; omega) rfl ⟨_, rfl, rfl⟩ ?_
        refine L.indexP rfl Try.underlying135 Tf.s126 rfl rfl (by omega) (by omega) rfl ⟨_, rfl, rfl⟩ ?_
        refine L.loadBP (vs := scsC ((scPre y out pre).map fun p => p.1) ++ junk5) (us := ints (lastI (scPre y out pre))) rfl Tf.a126 Tf.s126 rfl (List.Mem.tail _ (List.Mem.tail _ (List.Mem.tail _ (List.Mem.tail _ (List.Mem.tail _ (List.Mem.head _)))))) (lastI_at hfit7 hne junk5) (by simpa using lastI_len hfit7 hne) List.not_mem_nil rfl ⟨_, rfl, rfl⟩ ?_
        refine L.loadBW (vs := ints (scI (sceneD y (grp x)))) rfl Tf.a126 rfl (List.Mem.head _) (by rw [show (ints (scI (sceneD y (grp x)))).length = 9 by simpa using hs9]; exact Tf.s126) List.not_mem_nil rfl ⟨_, rfl, rfl⟩ ?_
        refine L.neqS (n := 9) rfl ks_126 (lastI_len hfit7 hne) hs9 rfl rfl rfl ⟨_, rfl, rfl⟩ ?_
        refine L.pickF rfl rfl rfl rfl ⟨_, rfl, rfl⟩ ?_
        exact L.nil fun a w hh => hh.cutK 8 rfl
      · refine L.pass rfl rfl rfl ⟨_, _, rfl, rfl, rfl⟩ ?_
        refine L.pass rfl rfl rfl ⟨_, _, rfl, rfl, rfl⟩ ?_
        refine L.pass rfl rfl rfl ⟨_, _, rfl, rfl, rfl⟩ ?_
        refine L.pass rfl rfl rfl ⟨_, _, rfl, rfl, rfl⟩ ?_
        refine L.pass rfl rfl rfl ⟨_, _, rfl, rfl, rfl⟩ ?_
        refine L.pass rfl rfl rfl ⟨_, _, rfl, rfl, rfl⟩ ?_
        refine L.pass rfl rfl rfl ⟨_, _, rfl, rfl, rfl⟩ ?_
        refine L.pass rfl rfl rfl ⟨_, _, rfl, rfl, rfl⟩ ?_
        refine L.pickT rfl rfl rfl rfl ⟨_, rfl, rfl⟩ ?_
        exact L.nil fun a w hh => hh.cutK 8 rfl
      refine L.pickT rfl rfl rfl rfl trivial ?_
      exact L.nil fun a w hh => hh.cutK 5 rfl
    · refine L.pass rfl rfl rfl ⟨_, _, rfl, rfl, rfl⟩ ?_
      refine L.pass rfl rfl rfl ⟨_, _, rfl, rfl, rfl⟩ ?_
      refine L.pass rfl rfl rfl ⟨_, _, rfl, rfl, rfl⟩ ?_
      refine L.pass rfl rfl rfl ⟨_, _, rfl, rfl, rfl⟩ ?_
      refine L.pass rfl rfl rfl ⟨_, _, rfl, rfl, rfl⟩ ?_
      refine L.pass rfl rfl rfl ⟨_, _, rfl, rfl, rfl⟩ ?_
      refine L.pass rfl rfl rfl ⟨_, _, rfl, rfl, rfl⟩ ?_
      refine L.pass rfl rfl rfl ⟨_, _, rfl, rfl, rfl⟩ ?_
      refine L.pass rfl rfl rfl ⟨_, _, rfl, rfl, rfl⟩ ?_
      refine L.pass rfl rfl rfl ⟨_, _, rfl, rfl, rfl⟩ ?_
      refine L.pass rfl rfl rfl ⟨_, _, rfl, rfl, rfl⟩ ?_
      refine L.pass rfl rfl rfl ⟨_, _, rfl, rfl, rfl⟩ ?_
      refine L.pass rfl rfl rfl ⟨_, _, rfl, rfl, rfl⟩ ?_
      refine L.pickF rfl rfl rfl rfl trivial ?_
      exact L.nil fun a w hh => hh.cutK 13 rfl
    refine L.nil ?_
    refine C.next ?_
    refine C.cond rfl (fun hc1 => ?_) (fun hc1 => ?_)
    · refine C.nd (fun hnd => ?_)
      have hq5 := nd3 (A := [_, _, _]) (B := [_, _]) (k := q5) hnd (List.Mem.head _)
      have hq4 := nd3 (A := [_, _, _]) (B := [_, _]) (k := q4) hnd (List.Mem.tail _ (List.Mem.head _))
      have hq3 := nd3 (A := [_, _, _]) (B := [_, _]) (k := q3) hnd (List.Mem.tail _ (List.Mem.tail _ (List.Mem.head _)))
      refine C.drawS (ν.ks ++ ω.ks) 3 [false,true,true,true,true,true,true,false,false,false] [.fork [0,1,4,5] 2 (.fork [] 3 (.fin [6]) 6 (.fin [3])) 6 (.fin [2,3]), .fin [7,8,9]] Tf.follows (fun _ _ _ h => h) (by kernel_rfl) ?_
      refine S.cons ?_
      refine L.planFork [(false,0),(true,1),(true,4),(true,5)] rfl ?_
      refine L.loadB1 rfl Tf.a135 rfl (List.Mem.tail _ (List.Mem.tail _ (List.Mem.head _))) rfl (by first | assumption | simp) rfl trivial ?_
      refine L.loadBW (vs := ints (scI (sceneD y (grp x)))) rfl Tf.a126 rfl (List.Mem.head _) (by rw [show (ints (scI (sceneD y (grp x)))).length = 9 by simpa using hs9]; exact Tf.s126) hq5 rfl trivial ?_
      refine L.loadB1 rfl Tf.a52 rfl (List.Mem.tail _ (List.Mem.head _)) rfl (by first | assumption | simp) rfl trivial ?_
      refine L.move rfl rfl rfl trivial ?_
      refine L.nil (L.forkP true true rfl rfl ?_ ?_)
      · refine L.buildSlice rfl Try.underlying135 Tf.s126 Tf.z126 rfl rfl rfl rfl (.cons rfl (by simpa using hs9) .nil) rfl trivial (fun b901 D901 hD901 hA901 => ?_)
        have hAs := hA901
        refine L.nil ?_
        refine L.planFork [] rfl ?_
        refine L.nil (L.forkP true true rfl rfl ?_ ?_)
        · refine L.boxesEq ([(_, _), (_, _), (_, _), (_, _), (_, _)] ++ ν ++ (ω ++ [(l, _), (bd, _)])) (List.append_assoc _ _ _).symm ?_
          refine L.append (A := [(_, _), (_, _), (_, _), (_, _), (_, _)]) (B := (ω ++ [(l, _), (bd, _)])) rfl Try.underlying135 rfl rfl Tf.s126 Tf.z126 rfl Tf.i126 rfl rfl rfl ha1 (Src.lit hAs) (by simp) (by simpa using hs9) (scsC_len hfit7) (by simpa using ints_cell1 _) (by omega) (Or.inr (fun p hp => List.mem_append_left _ (List.mem_map.2 ⟨p, hp, rfl⟩))) rfl trivial (fun v1x ν1x ha1x => ?_)
          refine L.nil ?_
          refine L.planFin [(true,6)] rfl ?_
          refine L.buildSlice rfl Try.underlying52 Tf.s3 Tf.z3 rfl rfl rfl rfl (.cons rfl rfl .nil) rfl trivial (fun b902 D902 hD902 hA902 => ?_)
          have hAm := hA902
          refine L.nil ?_
          refine S.fin [(false,7),(false,8),(false,9)] rfl ?_
          refine L.boxesEq (([(_, _), (_, _), (_, _), (_, _), (_, _)] ++ ν1x) ++ ω ++ [(l, _), (bd, _)]) (List.append_assoc _ _ _).symm ?_
          refine L.append (A := [(_, _), (_, _), (_, _), (_, _), (_, _)] ++ ν1x) (B := [(l, _), (bd, _)]) rfl Try.underlying52 rfl rfl Tf.s3 Tf.z3 rfl Tf.i3 rfl rfl rfl ha2 (Src.lit hAm) (by simp) rfl (by simp) (by simp [cell1]) (by omega) (Or.inr (fun p hp => List.mem_append_right _ (List.mem_map.2 ⟨p, hp, rfl⟩))) rfl trivial (fun u1x ω1x ha2x => ?_)
          refine L.boxesEq ((q5, _) :: (q4, .cells [u].toArray 52 (0, 0)) :: (q3, .cells [v].toArray 135 (0, 0)) :: (wb, .cells [cv, .int .i64 y.fit, qv, .map (some mb)].toArray 148 (0, 0)) :: (mb, .map es1 cl1) :: (ν1x ++ (ω1x ++ [(l, _), (bd, _)]))) ((List.append_assoc _ _ _).trans (List.append_assoc _ _ _)) ?_
          refine L.store rfl rfl rfl ha1x.cells1 Tf.s135 (.tail (.tail .head)) (by simp) rfl ha1x.cell1 trivial ?_
          refine L.store rfl rfl rfl ha2x.cells1 Tf.s52 (.tail .head) (by simp) rfl ha2x.cell1 trivial ?_
          have hI1 : ScI y out (pre ++ [x]) (es1, cl1, M1, v1x, ν1x, u1x, ω1x) := scI_yes hM1 hok1 hc1 (by simpa using ha1x) (by simpa using ha2x)
          refine L.nil ?_
          refine S.nil ?_
          refine C.blockEnd ?_
          exact fun a w hh => C.roundOn (A := [(_, _), (_, _), (_, _), (_, _)] ++ (ν1x ++ ω1x)) (B := [(bd, .deferred (some []))]) (es1, cl1, M1, v1x, ν1x, u1x, ω1x) hI1 rfl rfl a w ((hh.dropBoxes 1).boxesEq (asc4 [_, _, _, _] ν1x ω1x [_, _]))
        · refine L.buildSlice rfl Try.underlying52 Tf.s3 Tf.z3 rfl rfl rfl rfl (.cons rfl rfl .nil) rfl trivial (fun b902 D902 hD902 hA902 => ?_)
          have hAm := hA902
          refine L.nil ?_
          refine L.planFin [(true,3)] rfl ?_
          refine L.boxesEq ([(_, _), (_, _), (_, _), (_, _), (_, _)] ++ ν ++ (ω ++ [(l, _), (bd, _)])) (List.append_assoc _ _ _).symm ?_
          refine L.append (A := [(_, _), (_, _), (_, _), (_, _), (_, _)]) (B := (ω ++ [(l, _), (bd, _)])) rfl Try.underlying135 rfl rfl Tf.s126 Tf.z126 rfl Tf.i126 rfl rfl rfl ha1 (Src.lit hAs) (by simp) (by simpa using hs9) (scsC_len hfit7) (by simpa using ints_cell1 _) (by omega) (Or.inr (fun p hp => List.mem_append_left _ (List.mem_map.2 ⟨p, hp, rfl⟩))) rfl trivial (fun v1x ν1x ha1x => ?_)
          refine L.nil ?_
          refine S.fin [(false,7),(false,8),(false,9)] rfl ?_
          refine L.boxesEq (([(_, _), (_, _), (_, _), (_, _), (_, _)] ++ ν1x) ++ ω ++ [(l, _), (bd, _)]) (List.append_assoc _ _ _).symm ?_
          refine L.append (A := [(_, _), (_, _), (_, _), (_, _), (_, _)] ++ ν1x) (B := [(l, _), (bd, _)]) rfl Try.underlying52 rfl rfl Tf.s3 Tf.z3 rfl Tf.i3 rfl rfl rfl ha2 (Src.lit hAm) (by simp) rfl (by simp) (by simp [cell1]) (by omega) (Or.inr (fun p hp => List.mem_append_right _ (List.mem_map.2 ⟨p, hp, rfl⟩))) rfl trivial (fun u1x ω1x ha2x => ?_)
          refine L.boxesEq ((q5, _) :: (q4, .cells [u].toArray 52 (0, 0)) :: (q3, .cells [v].toArray 135 (0, 0)) :: (wb, .cells [cv, .int .i64 y.fit, qv, .map (some mb)].toArray 148 (0, 0)) :: (mb, .map es1 cl1) :: (ν1x ++ (ω1x ++ [(l, _), (bd, _)]))) ((List.append_assoc _ _ _).trans (List.append_assoc _ _ _)) ?_
          refine L.store rfl rfl rfl ha1x.cells1 Tf.s135 (.tail (.tail .head)) (by simp) rfl ha1x.cell1 trivial ?_
          refine L.store rfl rfl rfl ha2x.cells1 Tf.s52 (.tail .head) (by simp) rfl ha2x.cell1 trivial ?_
          have hI1 : ScI y out (pre ++ [x]) (es1, cl1, M1, v1x, ν1x, u1x, ω1x) := scI_yes hM1 hok1 hc1 (by simpa using ha1x) (by simpa using ha2x)
          refine L.nil ?_
          refine S.nil ?_
          refine C.blockEnd ?_
          exact fun a w hh => C.roundOn (A := [(_, _), (_, _), (_, _), (_, _)] ++ (ν1x ++ ω1x)) (B := [(bd, .deferred (some []))]) (es1, cl1, M1, v1x, ν1x, u1x, ω1x) hI1 rfl rfl a w ((hh.dropBoxes 1).boxesEq (asc4 [_, _, _, _] ν1x ω1x [_, _]))
      · refine L.buildSlice rfl Try.underlying52 Tf.s3 Tf.z3 rfl rfl rfl rfl (.cons rfl rfl .nil) rfl trivial (fun b901 D901 hD901 hA901 => ?_)
        have hAm := hA901
        refine L.nil ?_
        refine L.planFin [(true,2),(true,3)] rfl ?_
        refine L.buildSlice rfl Try.underlying135 Tf.s126 Tf.z126 rfl rfl rfl rfl (.cons rfl (by simpa using hs9) .nil) rfl trivial (fun b902 D902 hD902 hA902 => ?_)
        have hAs := hA902
        refine L.boxesEq ([(_, _), (_, _), (_, _), (_, _), (_, _)] ++ ν ++ (ω ++ [(l, _), (bd, _)])) (List.append_assoc _ _ _).symm ?_
        refine L.append (A := [(_, _), (_, _), (_, _), (_, _), (_, _)]) (B := (ω ++ [(l, _), (bd, _)])) rfl Try.underlying135 rfl rfl Tf.s126 Tf.z126 rfl Tf.i126 rfl rfl rfl ha1 (Src.lit hAs) (by simp) (by simpa using hs9) (scsC_len hfit7) (by simpa using ints_cell1 _) (by omega) (Or.inr (fun p hp => List.mem_append_left _ (List.mem_map.2 ⟨p, hp, rfl⟩))) rfl trivial (fun v1x ν1x ha1x => ?_)
        refine L.nil ?_
        refine S.fin [(false,7),(false,8),(false,9)] rfl ?_
        refine L.boxesEq (([(_, _), (_, _), (_, _), (_, _), (_, _)] ++ ν1x) ++ ω ++ [(l, _), (bd, _)]) (List.append_assoc _ _ _).symm ?_
        refine L.append (A := [(_, _), (_, _), (_, _), (_, _), (_, _)] ++ ν1x) (B := [(l, _), (bd, _)]) rfl Try.underlying52 rfl rfl Tf.s3 Tf.z3 rfl Tf.i3 rfl rfl rfl ha2 (Src.lit hAm) (by simp) rfl (by simp) (by simp [cell1]) (by omega) (Or.inr (fun p hp => List.mem_append_right _ (List.mem_map.2 ⟨p, hp, rfl⟩))) rfl trivial (fun u1x ω1x ha2x => ?_)
        refine L.boxesEq ((q5, _) :: (q4, .cells [u].toArray 52 (0, 0)) :: (q3, .cells [v].toArray 135 (0, 0)) :: (wb, .cells [cv, .int .i64 y.fit, qv, .map (some mb)].toArray 148 (0, 0)) :: (mb, .map es1 cl1) :: (ν1x ++ (ω1x ++ [(l, _), (bd, _)]))) ((List.append_assoc _ _ _).trans (List.append_assoc _ _ _)) ?_
        refine L.store rfl rfl rfl ha1x.cells1 Tf.s135 (.tail (.tail .head)) (by simp) rfl ha1x.cell1 trivial ?_
        refine L.store rfl rfl rfl ha2x.cells1 Tf.s52 (.tail .head) (by simp) rfl ha2x.cell1 trivial ?_
        have hI1 : ScI y out (pre ++ [x]) (es1, cl1, M1, v1x, ν1x, u1x, ω1x) := scI_yes hM1 hok1 hc1 (by simpa using ha1x) (by simpa using ha2x)
        refine L.nil ?_
        refine S.nil ?_
        refine C.blockEnd ?_
        exact fun a w hh => C.roundOn (A := [(_, _), (_, _), (_, _), (_, _)] ++ (ν1x ++ ω1x)) (B := [(bd, .deferred (some []))]) (es1, cl1, M1, v1x, ν1x, u1x, ω1x) hI1 rfl rfl a w ((hh.dropBoxes 1).boxesEq (asc4 [_, _, _, _] ν1x ω1x [_, _]))
    · have hI0 : ScI y out (pre ++ [x]) (es1, cl1, M1, v, ν, u, ω) := scI_no hM1 hok1 hc1 ha1 ha2
      refine C.skip ?_
      refine C.blockEnd ?_
      exact fun a w hh => C.roundOn (A := [(_, _), (_, _), (_, _), (_, _)] ++ (ν ++ ω)) (B := [(bd, .deferred (some []))]) (es1, cl1, M1, v, ν, u, ω) hI0 rfl rfl a w ((hh.dropBoxes 1).boxesEq (asc4 [_, _, _, _] ν ω [_, _]))
  · rintro ⟨es, clock, M, v, ν, u, ω⟩ bd ⟨hM, hok, ha1, ha2⟩
    simp only at hM hok ha1 ha2
    rw [scPre_all] at ha1 ha2
    have hfit7 : ∀ p ∈ scenesD y out, p.1.fits.length = 7 := by rw [← scPre_all]; exact scPre_fits y out _
    have hsl : (scenesD y out).length ≤ 2097152 := by rw [← scPre_all]; have := scPre_len y out (C1.allT (flatC y.chairs)); have := allT_cap hn7; omega
    refine Q.boxesEq ((q4, .cells [u].toArray 52 (0, 0)) :: (q3, .cells [v].toArray 135 (0, 0)) :: (wb, .cells [cv, .int .i64 y.fit, qv, .map (some mb)].toArray 148 (0, 0)) :: (mb, .map es clock) :: ((ν ++ ω) ++ [(bd, .deferred (some []))])) rfl ?_
    refine C.blockEnd ?_
    refine C.next ?_
    refine C.seq ?_
    refine C.draw [] 1 [0,1,2,3] [false,true,true,false] [(false,0),(true,1),(true,2),(false,3)] Tf.follows (fun _ _ _ h => h) (by kernel_rfl) rfl ?_
    refine L.loadB1 rfl Tf.a135 rfl (List.Mem.tail _ (List.Mem.head _)) rfl List.not_mem_nil rfl trivial ?_
    refine L.loadB1 rfl Tf.a52 rfl (List.Mem.head _) rfl List.not_mem_nil rfl trivial ?_
    refine L.storeS rfl rfl rfl ha1.cells1 Tf.s135 (.tail .head) (by simp) rfl ha1.cell1 trivial ?_
    refine L.store rfl rfl rfl ha2.cells1 Tf.s52 .head (by simp) rfl ha2.cell1 trivial ?_
    refine L.nil ?_
    refine C.next ?_
    refine C.ret ?_
    refine Q.boxesEq ([(_, _), (_, _), (_, _), (_, _)] ++ ν ++ (ω ++ [(bd, _)])) (asc5 [_, _, _, _] ν ω [_]) ?_
    refine Q.freezeM (A := [(_, _), (_, _), (_, _), (_, _)]) (B := ω ++ [(bd, _)]) ha1 mods4 (fun D8 hD8 hF8 => ?_)
    refine Q.boxesEq ([(_, _), (_, _), (_, _), (_, _)] ++ ω ++ [(bd, _)]) (List.append_assoc _ _ _).symm ?_
    refine Q.freezeM (A := [(_, _), (_, _), (_, _), (_, _)]) (B := [(bd, _)]) ha2 mods4 (fun D9 hD9 hF9 => ?_)
    exact leaveManyM1 (A := [(_, _), (_, _)]) (ν' := [(_, _), (_, _)]) (B := []) (vs := [_, _]) rfl rfl rfl ⟨⟨_, _, _, rfl, (List.Mem.tail _ (List.Mem.head _)), Or.inl ⟨Tf.a135, rfl⟩⟩, ⟨_, _, _, rfl, List.Mem.head _, Or.inl ⟨Tf.a52, rfl⟩⟩, trivial⟩ rfl (fun D hD => ⟨v, u, rfl, (hF8.scs (by simp) (by omega)).up RSc.up ((hD9 _ (by simp)).trans (hD _ (by simp))), (hF9.ints (by simp) (by omega)).up RI.up (hD _ (by simp)), es, clock, M, rfl, hM, hok⟩)
theorem possible_ok (wb mb : Nat) (cv qv : Value) (y : YardD) (out : List Int) (ov : Value) (hn7 : y.chairs.length ≤ 7) (hft : 0 ≤ y.fit ∧ y.fit ≤ 9) (hsz : ∀ c ∈ y.chairs, 0 ≤ c.size ∧ c.size ≤ 9) (es : Array MapEntry) (clock : Nat) (M : List (Ints 8 × Int)) (D : Data) (hS : Sl D RCh 4 cv y.chairs) (hq : Sl D R2 2 qv y.claims) (ho : Sl D RI 1 ov out) (hM : MapG kaV es M) (hok : MOk y.chairs.length M) :
    FnM Try.prog 93 [.pointer (some ⟨wb, 0, none⟩), ov] D [(wb, .cells [cv, .int .i64 y.fit, qv, .map (some mb)].toArray 148 (0, 0)), (mb, .map es clock)] (fun _D' v ν' => v = .bool (decide (0 < ((scenesD y out).length : Int))) ∧ ∃ es' clock' M', ν' = [(wb, .cells [cv, .int .i64 y.fit, qv, .map (some mb)].toArray 148 (0, 0)), (mb, .map es' clock')] ∧ MapG kaV es' M' ∧ MOk y.chairs.length M') := by
  refine enterMany 16 Try.func93 rfl rfl rfl rfl (fun h0 hwl hwn => ?_)
  refine C.seq ?_
  refine C.region [(false,0)] rfl ?_
  refine L.assign rfl rfl rfl trivial ?_
  refine L.nil ?_
  refine C.next ?_
  refine C.seq ?_
  refine C.region [(false,0),(false,1),(false,2),(false,3),(false,4),(false,5),(false,6),(false,7)] rfl ?_
  refine L.move rfl rfl rfl trivial ?_
  refine L.move rfl rfl rfl trivial ?_
  refine L.callM (A := []) (ν := [(_, _), (_, _)]) (B := []) rfl rfl rfl rfl (Or.inl rfl) (unf_w (cs := [_, _, _, _])) (fun D5 hD5 => scenes_ok wb mb cv qv y out _ hn7 hft hsz es clock M D5 (hS.up RCh.up (hD5 _ (by simp))) (hq.up R2.up (hD5 _ (by simp))) (ho.up RI.up (hD5 _ (by simp))) hM hok) rfl trivial (fun v5 D6 _ hD6 hp5 => ?_)
  obtain ⟨sv, mv, rfl, hsv, hmv, es1, cl1, M1, rfl, hM1, hok1⟩ := hp5
  refine L.move rfl rfl rfl trivial ?_
  refine L.extract rfl rfl rfl rfl trivial ?_
  refine L.extract rfl rfl rfl rfl trivial ?_
  refine L.assign rfl rfl rfl trivial ?_
  refine L.assign rfl rfl rfl trivial ?_
  refine L.nil ?_
  refine C.next ?_
  refine C.seq ?_
  refine C.region [(false,0),(false,1),(false,2),(false,3)] rfl ?_
  refine L.move rfl rfl rfl trivial ?_
  refine L.len rfl Try.underlying135 rfl hsv rfl rfl trivial ?_
  refine L.gtr rfl rfl rfl rfl trivial ?_
  refine L.assign rfl rfl rfl trivial ?_
  refine L.nil ?_
  refine C.next ?_
  refine C.ret ?_
  exact leaveMany (A := []) (ν' := [_, _]) (B := []) (vs := [_]) rfl rfl rfl ⟨rfl, trivial⟩ rfl (fun D hD => ⟨by show Value.bool _ = _; simp, es1, cl1, M1, rfl, hM1, hok1⟩)
end Go.Fs
