/- Walks: the reference: the truth with a number, and how many there are. -/
import Derived.Test.YtjhdcelmgfajbaaW23
namespace Go.Fs
open Go.Proofs
open C7
def setK (st : List Int × Nat) (j : Nat) : List Int × Nat := if st.1[j]? = some 2 then (st.1.set j ((st.2 : Int) % 2), st.2 / 2) else st
def nthK (l : List Int) (m k : Nat) : List Int × Nat := (List.range k).foldl setK (l, m)
theorem nthK_succ (l : List Int) (m k : Nat) : nthK l m (k + 1) = setK (nthK l m k) k := by unfold nthK; rw [List.range_succ, List.foldl_append]; rfl
theorem nthK_yes {l : List Int} {m k : Nat} (h : (nthK l m k).1[k]? = some 2) : nthK l m (k + 1) = ((nthK l m k).1.set k (((nthK l m k).2 : Int) % 2), (nthK l m k).2 / 2) := by rw [nthK_succ, setK, if_pos h]
theorem nthK_no {l : List Int} {m k : Nat} (h : (nthK l m k).1[k]? ≠ some 2) : nthK l m (k + 1) = nthK l m k := by rw [nthK_succ, setK, if_neg h]
theorem nthK_len (l : List Int) (m : Nat) : ∀ k, (nthK l m k).1.length = l.length
  | 0 => rfl
  | k + 1 => by rw [nthK_succ, setK]; split <;> simp [nthK_len l m k]
theorem nthK_le (l : List Int) (m : Nat) : ∀ k, (nthK l m k).2 ≤ m
  | 0 => Nat.le_refl _
  | k + 1 => by
    have := nthK_le l m k
    rw [nthK_succ, setK]; split
    · simp only; omega
    · exact this
/-- A part of the truth with a number, and what is left of the number. -/
def p1 (x : Int) (m : Nat) : Int × Nat := if x = 2 then ((m : Int) % 2, m / 2) else (x, m)
def p3 (p : Pt) (m : Nat) : Pt × Nat := (⟨(p1 p.a m).1, (p1 p.b (p1 p.a m).2).1, (p1 p.c (p1 p.b (p1 p.a m).2).2).1⟩, (p1 p.c (p1 p.b (p1 p.a m).2).2).2)
theorem nthK_3 (p : Pt) (m : Nat) : nthK p.l m 3 = ((p3 p m).1.l, (p3 p m).2) := by
  rw [nthK_succ, nthK_succ, nthK_succ]
  show setK (setK (setK (p.l, m) 0) 1) 2 = _
  unfold setK p3 p1 Pt.l
  by_cases ha : p.a = 2 <;> by_cases hb : p.b = 2 <;> by_cases hc : p.c = 2 <;> simp [ha, hb, hc]
theorem p1_le (x : Int) (m : Nat) : (p1 x m).2 ≤ m := by unfold p1; split <;> (simp only; omega)
theorem p3_le (p : Pt) (m : Nat) : (p3 p m).2 ≤ m := Nat.le_trans (p1_le _ _) (Nat.le_trans (p1_le _ _) (p1_le _ _))
def nthS (st : List Pt × Nat) (c : Ch) : List Pt × Nat := (st.1 ++ [(p3 c.parts st.2).1], (p3 c.parts st.2).2)
/-- The truth with a number. -/
def nthC (l : List Ch) (n : Nat) : List Pt × Nat := l.foldl nthS ([], n)
theorem nthC_snoc {l : List Ch} {n i : Nat} {x : Ch} (h : l[i]? = some x) : nthC (l.take (i + 1)) n = ((nthC (l.take i) n).1 ++ [(p3 x.parts (nthC (l.take i) n).2).1], (p3 x.parts (nthC (l.take i) n).2).2) := by
  unfold nthC; rw [List.take_add_one, h, Option.toList_some, List.foldl_append]; rfl
theorem nthS_len : ∀ (l : List Ch) (st : List Pt × Nat), (l.foldl nthS st).1.length = st.1.length + l.length
  | [], st => by simp
  | c :: l, st => by rw [List.foldl_cons, nthS_len l]; simp [nthS]; omega
theorem nthC_len (l : List Ch) (n : Nat) : (nthC l n).1.length = l.length := by unfold nthC; rw [nthS_len]; simp
theorem nthS_le : ∀ (l : List Ch) (st : List Pt × Nat), (l.foldl nthS st).2 ≤ st.2
  | [], st => Nat.le_refl _
  | c :: l, st => by rw [List.foldl_cons]; exact Nat.le_trans (nthS_le l _) (p3_le _ _)
theorem nthC_le (l : List Ch) (n : Nat) : (nthC l n).2 ≤ n := nthS_le l _
theorem Nth_ok (yv : Value) (y : YardD) (n : Nat) (D : Data) (hy : YardIs D yv y) (hc7 : y.chairs.length ≤ 1000) (hn : n ≤ 1000000) : Fn Try.prog 54 #[yv, .int .i64 (n : Int)] D (fun D' v => Sl D' RP 3 v (nthC y.chairs n).1) := by
  obtain ⟨cv, qv, rfl, hc, hq⟩ := hy
  have hcl := hc.len
  refine enter 41 Try.func54 rfl rfl rfl rfl fun h0 => ?_
  refine C.seq ?_
  refine C.region [(false,0),(false,1)] rfl ?_
  refine L.boxD rfl rfl rfl rfl trivial (fun q1 E1 hE1 hB1 => ?_)
  refine L.assign rfl rfl rfl trivial ?_
  refine L.nil ?_
  refine C.next ?_
  refine C.seq ?_
  refine C.region [(false,0)] rfl ?_
  refine L.assign rfl rfl rfl trivial ?_
  refine L.nil ?_
  refine C.next ?_
  refine C.seq ?_
  refine C.seq ?_
  refine C.region [(false,0)] rfl ?_
  refine L.assign rfl rfl rfl trivial ?_
  refine L.nil ?_
  refine C.next ?_
  refine C.block ?_
  refine C.loopR (γ := Nat × Value × Boxes × Nat) (fun g => y.chairs.length - g.1) (fun g => g.1 ≤ y.chairs.length ∧ Acc 91 3 g.2.1 g.1 (ptC (nthC (y.chairs.take g.1) n).1) g.2.2.1 ∧ g.2.2.2 = (nthC (y.chairs.take g.1) n).2) (fun g => [(1, .int .i64 (g.2.2.2 : Int)), (5, g.2.1), (6, .int .i64 (g.1 : Int))]) [(4, _), (2, _)] (fun g => g.2.2.1 ++ []) (fun g => [E1, D]) (0, .slice none 0 0, [], n) ⟨by simp, by simpa [ptC, nthC] using Acc.nil, rfl⟩ ⟨(by first | rfl | (show some (Value.int _ _) = some (Value.int _ _); congr 2; omega)), (by first | rfl | (show some (Value.int _ _) = some (Value.int _ _); congr 2; omega)), (by first | rfl | (show some (Value.int _ _) = some (Value.int _ _); congr 2; omega)), trivial⟩ ⟨rfl, rfl, trivial⟩ (List.Sublist.refl _) (ds_same) ?_
  rintro ⟨i, v, ν, m⟩ ⟨h1, ha, hm⟩
  simp only at h1 ha hm
  refine C.seq ?_
  refine C.seq ?_
  refine C.region [(false,0),(false,1),(false,2),(false,3),(false,4)] rfl ?_
  refine L.move rfl rfl rfl trivial ?_
  refine L.fieldAddr rfl Tf.f25_0 rfl rfl trivial ?_
  refine L.loadD1 rfl (k := 0) Tf.a22 rfl hB1 (by first | simp | assumption) rfl List.not_mem_nil rfl trivial ?_
  refine L.len rfl Try.underlying22 rfl hc rfl rfl trivial ?_
  refine L.lss rfl rfl rfl rfl trivial ?_
  refine L.nil ?_
  refine C.next ?_
  refine C.condD rfl (fun hc1 => ?_) (fun hc1 => ?_)
  · have hi : i < y.chairs.length := by omega
    obtain ⟨x, hx⟩ : ∃ x, y.chairs[i]? = some x := ⟨_, List.getElem?_eq_getElem hi⟩
    have hmn := nthC_le (y.chairs.take i) n
    rw [← hm] at hmn
    refine C.skip ?_
    refine C.next ?_
    refine C.seq ?_
    refine C.block ?_
    refine C.seq ?_
    refine C.region [(false,0),(false,1),(false,2),(false,3),(false,4),(false,5),(false,6),(false,7)] rfl ?_
    refine L.fieldAddr rfl Tf.f25_0 rfl rfl trivial ?_
    refine L.loadD1 rfl (k := 0) Tf.a22 rfl hB1 (by first | simp | assumption) rfl List.not_mem_nil rfl trivial ?_
    refine L.move rfl rfl rfl trivial ?_
    refine L.indexS rfl Try.underlying22 Tf.s94 rfl hc rfl (by omega) hx rfl trivial (fun b1 o1 cs1 hr1 hcl1 hA1 => ?_)
    obtain rfl : cs1 = [.int .i64 _, .int .i64 _, .int .i64 _, .int .i64 _] := hr1
    refine L.fieldAddr rfl Tf.f94_1 rfl rfl trivial ?_
    refine L.loadDP rfl (k := 1) Tf.a91 Tf.s91 rfl hA1 (by first | simp | assumption) rfl rfl List.not_mem_nil rfl trivial ?_
    refine L.alloc rfl Tf.z91 rfl rfl trivial (fun q2 => ?_)
    refine L.storeW rfl rfl rfl rfl Tf.s91 (by first | rfl | (simp only [ints_length, *]; done) | (simp only [ints_length, *]; rfl) | (simp only [ints_length, *]; omega)) (by first | rfl | (simp only [ints_length, *]; done) | (simp only [ints_length, *]; rfl) | (simp only [ints_length, *]; omega)) (Has.head) (by first | exact ints_cell1 _ | simp [cell1]) trivial ?_
    refine L.nil ?_
    refine C.next ?_
    refine C.seq ?_
    refine C.seq ?_
    refine C.region [(false,0)] rfl ?_
    refine L.assign rfl rfl rfl trivial ?_
    refine L.nil ?_
    refine C.next ?_
    refine C.block ?_
    refine C.loopR (γ := Nat) (fun k => 3 - k) (fun k => k ≤ 3) (fun k => [(1, .int .i64 ((nthK x.parts.l m k).2 : Int)), (8, .int .i64 (k : Int))]) [(7, _), (21, _), (20, _), (19, _), (18, _), (17, _), (16, _), (13, _), (12, _), (11, _), (10, _), (9, _), (5, _), (6, _), (4, _), (2, _)] (fun k => (q2, .cells (ints (nthK x.parts.l m k).1).toArray 91 (0, 0)) :: (ν ++ [])) (fun k => [E1, D]) 0 (by omega) ⟨(by first | rfl | (show some (Value.int _ _) = some (Value.int _ _); congr 2; omega)), (by first | rfl | (show some (Value.int _ _) = some (Value.int _ _); congr 2; omega)), trivial⟩ ⟨rfl, rfl, rfl, rfl, rfl, rfl, rfl, rfl, rfl, rfl, rfl, rfl, rfl, rfl, rfl, rfl, trivial⟩ (List.Sublist.refl _) (ds_same) ?_
    rintro k h2
    refine C.seq ?_
    refine C.seq ?_
    refine C.region [(false,0),(false,1)] rfl ?_
    refine L.move rfl rfl rfl trivial ?_
    refine L.lss rfl rfl rfl rfl trivial ?_
    refine L.nil ?_
    refine C.next ?_
    refine C.condD rfl (fun hc2 => ?_) (fun hc2 => ?_)
    · have hk : k < 3 := by omega
      have hkl := nthK_len x.parts.l m k
      have hkm := nthK_le x.parts.l m k
      have hl3 : x.parts.l.length = 3 := rfl
      obtain ⟨w, hw⟩ : ∃ w, (nthK x.parts.l m k).1[k]? = some w := ⟨_, List.getElem?_eq_getElem (by omega)⟩
      refine C.skip ?_
      refine C.next ?_
      refine C.seq ?_
      refine C.block ?_
      refine C.seq ?_
      refine C.region [(false,0),(false,1),(false,2),(false,3)] rfl ?_
      refine L.move rfl rfl rfl trivial ?_
      refine L.indexB rfl Try.underlying91 Tf.s3 rfl rfl (by omega) (by omega) rfl trivial ?_
      refine L.loadB1 rfl Tf.a3 rfl (List.Mem.head _) (ints_get hw) List.not_mem_nil rfl trivial ?_
      refine L.eql rfl rfl rfl rfl trivial ?_
      refine L.nil ?_
      refine C.next ?_
      refine C.condD rfl (fun hc3 => ?_) (fun hc3 => ?_)
      · have hw2 : w = 2 := hc3
        refine C.seq ?_
        refine C.region [(false,0),(false,1),(false,2),(false,3),(false,4)] rfl ?_
        refine L.move rfl rfl rfl trivial ?_
        refine L.move rfl rfl rfl trivial ?_
        refine L.rem rfl rfl rfl (by omega) (by omega) (by simp only [inK]; omega) rfl trivial ?_
        refine L.indexB rfl Try.underlying91 Tf.s3 rfl rfl (by omega) (by omega) rfl trivial ?_
        refine L.storeI rfl Tf.s3 rfl rfl (Has.head) (by rw [Int.toNat_natCast, hkl]; exact hk) trivial ?_
        refine L.nil ?_
        refine C.next ?_
        refine C.region [(false,0),(false,1),(false,2)] rfl ?_
        refine L.move rfl rfl rfl trivial ?_
        refine L.quo rfl rfl rfl (by omega) (by omega) (by simp only [inK]; omega) rfl trivial ?_
        refine L.assign rfl rfl rfl trivial ?_
        refine L.nil ?_
        refine C.blockEnd ?_
        refine C.next ?_
        refine C.region [(false,0),(false,1),(false,2)] rfl ?_
        refine L.move rfl rfl rfl trivial ?_
        refine L.add rfl rfl rfl (by simp only [inK]; omega) rfl trivial ?_
        refine L.assign rfl rfl rfl trivial ?_
        refine L.nil ?_
        have e9 := nthK_yes (l := x.parts.l) (m := m) (k := k) (hw2 ▸ hw)
        rw [show (nthK x.parts.l m k).1.set (k : Int).toNat (((nthK x.parts.l m k).2 : Int) % 2) = (nthK x.parts.l m (k + 1)).1 by rw [e9]; rfl]
        exact C.againR 18 (k + 1) (by omega) (by omega) ⟨(by rw [e9]; rfl), (by first | rfl | (show some (Value.int _ _) = some (Value.int _ _); congr 2; omega)), trivial⟩ rfl rfl (List.Sublist.refl _) (ds_same)
      · refine C.skip ?_
        refine C.blockEnd ?_
        refine C.next ?_
        refine C.region [(false,0),(false,1),(false,2)] rfl ?_
        refine L.move rfl rfl rfl trivial ?_
        refine L.add rfl rfl rfl (by simp only [inK]; omega) rfl trivial ?_
        refine L.assign rfl rfl rfl trivial ?_
        refine L.nil ?_
        have e9 := nthK_no (l := x.parts.l) (m := m) (k := k) (fun e => hc3 (Option.some.inj (hw.symm.trans e)))
        rw [← e9]
        exact C.againR 11 (k + 1) (by omega) (by omega) ⟨rfl, (by first | rfl | (show some (Value.int _ _) = some (Value.int _ _); congr 2; omega)), trivial⟩ rfl rfl (List.Sublist.refl _) (ds_same)
    · obtain rfl : k = 3 := by omega
      rw [nthK_3]
      refine C.exit ?_
      refine C.thenExit ?_
      refine C.thenExit ?_
      refine C.blockExit ?_
      refine C.next ?_
      refine C.region [(false,0),(false,1),(false,2),(false,3),(false,4)] rfl ?_
      refine L.move rfl rfl rfl trivial ?_
      refine L.loadBW rfl Tf.a91 rfl (List.Mem.head _) (by first | exact Tf.s91 | (simp only [ints_length, *]; exact Tf.s91)) List.not_mem_nil rfl trivial ?_
      refine L.buildSlice rfl Try.underlying26 Tf.s91 Tf.z91 rfl rfl rfl rfl (.cons rfl rfl .nil) rfl trivial (fun b901 D901 hD901 hA901 => ?_)
      refine L.append (A := [(_, _)]) (B := []) rfl Try.underlying26 rfl rfl Tf.s91 Tf.z91 rfl Tf.i91 rfl rfl rfl ha (Src.lit hA901) (by simp) rfl (ptC_lenn _ _ (by simp only [nthC_len, List.length_take]; omega)) (by simp [cell1, ints, Pt.l]) (by omega) (Or.inl rfl) rfl trivial (fun v7 ν7 ha7 => ?_)
      have hn7 : Acc 91 3 v7 (i + 1) (ptC (nthC (y.chairs.take (i + 1)) n).1) ν7 := by rw [nthC_snoc hx, ptC_snoc, ← hm]; simpa [ints, Pt.l] using ha7
      refine L.assign rfl rfl rfl trivial ?_
      refine L.nil ?_
      refine C.blockEnd ?_
      refine C.next ?_
      refine C.region [(false,0),(false,1),(false,2)] rfl ?_
      refine L.move rfl rfl rfl trivial ?_
      refine L.add rfl rfl rfl (by simp only [inK]; omega) rfl trivial ?_
      refine L.assign rfl rfl rfl trivial ?_
      refine L.nil ?_
      exact C.againR 26 (i + 1, v7, ν7, (p3 x.parts m).2) ⟨by simp only; omega, hn7, by rw [nthC_snoc hx, ← hm]⟩ (by simp only; omega) ⟨(by first | rfl | (show some (Value.int _ _) = some (Value.int _ _); congr 2; omega)), (by first | rfl | (show some (Value.int _ _) = some (Value.int _ _); congr 2; omega)), (by first | rfl | (show some (Value.int _ _) = some (Value.int _ _); congr 2; omega)), trivial⟩ rfl rfl (List.Sublist.cons _ (List.Sublist.refl _)) (fun D h => ⟨D, List.Mem.tail _ (h), Le.refl D⟩)
  · obtain rfl : i = y.chairs.length := by omega
    rw [List.take_length] at ha
    refine C.exit ?_
    refine C.thenExit ?_
    refine C.thenExit ?_
    refine C.blockExit ?_
    refine C.next ?_
    refine C.seq ?_
    refine C.region [(false,0),(false,1)] rfl ?_
    refine L.move rfl rfl rfl trivial ?_
    refine L.assign rfl rfl rfl trivial ?_
    refine L.nil ?_
    refine C.next ?_
    refine C.ret ?_
    refine Q.freeze (A := []) (B := []) ha rfl (fun D2 hD2 hF => ?_)
    exact leave (vs := [_]) rfl rfl rfl ⟨rfl, trivial⟩ (fun D' hD => (hF.pts (nthC_len _ _) (by omega)).up RP.up (hD _ (by simp)))
theorem Many_ok (yv : Value) (y : YardD) (D : Data) (hy : YardIs D yv y) (h7 : y.chairs.length ≤ 1000) (hu : unknown y.chairs ≤ 8) : Fn Try.prog 55 #[yv] D (fun _ v => v = .int .i64 ((2 ^ unknown y.chairs : Nat) : Int)) := by
  have hy0 := hy
  obtain ⟨cv, qv, rfl, hc, hq⟩ := hy
  refine enter 7 Try.func55 rfl rfl rfl rfl fun h0 => ?_
  refine C.seq ?_
  refine C.region [(false,0),(false,1)] rfl ?_
  refine L.boxD rfl rfl rfl rfl trivial (fun q1 E1 hE1 hB1 => ?_)
  refine L.assign rfl rfl rfl trivial ?_
  refine L.nil ?_
  refine C.next ?_
  refine C.seq ?_
  refine C.region [(false,0),(false,1),(false,2),(false,3),(false,4)] rfl ?_
  refine L.loadDW rfl Tf.a25 rfl hB1 (by first | simp | assumption) Tf.s25 List.not_mem_nil rfl trivial ?_
  refine L.callV rfl rfl rfl (fun D1 hD1 => Unknown_ok _ y _ (hy0.up (hD1 _ (by simp))) h7) rfl trivial ?_
  refine L.convI rfl Try.underlying3 Try.underlying88 rfl (by simp only [inK]; omega) rfl trivial ?_
  refine L.shl1U rfl rfl rfl (by omega) rfl trivial ?_
  refine L.assign rfl rfl rfl trivial ?_
  refine L.nil ?_
  refine C.next ?_
  refine C.ret ?_
  exact leave (vs := [_]) rfl rfl rfl ⟨rfl, trivial⟩ (fun D hD => rfl)
end Go.Fs
