/- Of the proof of MendLeft: W30, W31, W32, W33. -/
import Derived.Test.YtjhdcelmgfajbaaZMendLeftE
namespace Go.Fs
open Go.Proofs
open C7
def canB (y : YardD) (ms : List Int) (c : Nat) : Bool := ms.any fun m => decide (bset (rightB y.claims m) y.claims.length &&& c = c)
def firstR (y : YardD) (ms : List Int) : Int := match (List.range y.claims.length).find? (fun i => !canB y ms (2 * 2 ^ i - 1)) with
  | some i => i
  | none => -1
theorem bk_yes {m k : Nat} (h : m.testBit k = true) : bitsK m (k + 1) = bitsK m k ++ [(k : Int)] := by
  unfold bitsK; rw [List.range_succ, List.filter_append, List.map_append]; simp [h]
theorem bk_no {m k : Nat} (h : m.testBit k = false) : bitsK m (k + 1) = bitsK m k := by
  unfold bitsK; rw [List.range_succ, List.filter_append, List.map_append]; simp [h]
theorem bk_len (m k : Nat) : (bitsK m k).length ≤ k := by
  have := List.length_filter_le (fun i => m.testBit i) (List.range k)
  unfold bitsK; rw [List.length_map]; simpa using this
theorem bits_end {m k : Nat} (_hm : m < 128) (hk : k ≤ 7) (h : m >>> k = 0) : bitsK m k = bitsL m := by
  have key : ∀ j, k + j ≤ 7 → bitsK m (k + j) = bitsK m k := by
    intro j
    induction j with
    | zero => intro _; rfl
    | succ j ih =>
      intro hj
      have e : m.testBit (k + j) = false := by
        have : (m >>> k).testBit j = false := by rw [h]; exact Nat.zero_testBit _
        rwa [Nat.testBit_shiftRight] at this
      rw [← Nat.add_assoc, bk_no e, ih (by omega)]
  have := key (7 - k) (by omega)
  rw [show k + (7 - k) = 7 by omega] at this
  exact this.symm
def lexB : List Int → List Int → Bool
  | [], b => decide (0 < b.length)
  | _ :: _, [] => false
  | x :: a, z :: b => if x = z then lexB a b else decide (x < z)
theorem lex_same {a b : List Int} {k : Nat} {x z : Int} (hx : a[k]? = some x) (hz : b[k]? = some z) (h : x = z) : lexB (a.drop k) (b.drop k) = lexB (a.drop (k + 1)) (b.drop (k + 1)) := by
  obtain ⟨h1, rfl⟩ := List.getElem?_eq_some_iff.1 hx
  obtain ⟨h2, rfl⟩ := List.getElem?_eq_some_iff.1 hz
  rw [List.drop_eq_getElem_cons h1, List.drop_eq_getElem_cons h2, lexB, if_pos h]
theorem lex_diff {a b : List Int} {k : Nat} {x z : Int} (hx : a[k]? = some x) (hz : b[k]? = some z) (h : x ≠ z) : lexB (a.drop k) (b.drop k) = decide (x < z) := by
  obtain ⟨h1, rfl⟩ := List.getElem?_eq_some_iff.1 hx
  obtain ⟨h2, rfl⟩ := List.getElem?_eq_some_iff.1 hz
  rw [List.drop_eq_getElem_cons h1, List.drop_eq_getElem_cons h2, lexB, if_neg h]
theorem lex_end {a b : List Int} {k : Nat} (h : ¬ k < a.length ∨ ¬ k < b.length) (h1 : k ≤ a.length) (h2 : k ≤ b.length) : lexB (a.drop k) (b.drop k) = decide ((a.length : Int) < (b.length : Int)) := by
  by_cases ha : k < a.length
  · have hb : b.length = k := by omega
    rw [List.drop_eq_getElem_cons ha, List.drop_eq_nil_of_le (by omega : b.length ≤ k), lexB, decide_eq_false (by omega)]
  · rw [List.drop_eq_nil_of_le (by omega : a.length ≤ k), lexB, List.length_drop]
    exact decide_eq_decide.2 (by omega)
def shortB (a b : List Int) : Bool := decide ((a.length : Int) < (b.length : Int)) || (decide ((a.length : Int) = (b.length : Int)) && lexB a b)
theorem BitsR_ok (m : Nat) (hm : m < 128) (D : Data) : Fn Try.prog 65 #[.int .i64 (m : Int)] D (fun D' v => Sl D' RI 1 v (bitsL m)) := by
  refine enter 23 Try.func65 rfl rfl rfl rfl fun h0 => ?_
  refine C.seq ?_
  refine C.region [(false,0)] rfl ?_
  refine L.assign rfl rfl rfl trivial ?_
  refine L.nil ?_
  refine C.next ?_
  refine C.seq ?_
  refine C.region [(false,0)] rfl ?_
  refine L.assign rfl rfl rfl trivial ?_
  refine L.nil ?_
  refine C.next ?_
  refine C.seq ?_
  refine C.seq ?_
  refine C.region [(false,0)] rfl ?_
  refine L.assign rfl rfl rfl trivial ?_
  refine L.nil ?_
  refine C.next ?_
  refine C.block ?_
  refine C.loopR (γ := Nat × Value × Boxes) (fun g => 7 - g.1) (fun g => g.1 ≤ 7 ∧ Acc 3 1 g.2.1 (bitsK m g.1).length (ints (bitsK m g.1)) g.2.2) (fun g => [(3, g.2.1), (4, .int .i64 (g.1 : Int))]) [(2, _), (0, _)] (fun g => g.2.2 ++ []) (fun g => [D]) (0, .slice none 0 0, []) ⟨by simp, Acc.nil⟩ ⟨(by first | rfl | (show some (Value.int _ _) = some (Value.int _ _); congr 2; omega)), (by first | rfl | (show some (Value.int _ _) = some (Value.int _ _); congr 2; omega)), trivial⟩ ⟨rfl, rfl, trivial⟩ (List.Sublist.refl _) (ds_same) ?_
  rintro ⟨k, v, ν⟩ ⟨h1, ha⟩
  simp only at h1 ha
  have hsr : m >>> k ≤ m := Nat.shiftRight_le _ _
  refine C.seq ?_
  refine C.seq ?_
  refine C.region [(false,0),(false,1),(false,2),(false,3),(false,4)] rfl ?_
  refine L.move rfl rfl rfl trivial ?_
  refine L.move rfl rfl rfl trivial ?_
  refine L.convI rfl Try.underlying3 Try.underlying88 rfl (by simp only [inK]; omega) rfl trivial ?_
  refine L.shrN rfl rfl rfl (by omega) rfl trivial ?_
  refine L.gtr rfl rfl rfl rfl trivial ?_
  refine L.nil ?_
  refine C.next ?_
  refine C.condD rfl (fun hc1 => ?_) (fun hc1 => ?_)
  · have hk : k < 7 := shr_pos hm hc1
    refine C.skip ?_
    refine C.next ?_
    refine C.seq ?_
    refine C.block ?_
    refine C.seq ?_
    refine C.region [(false,0),(false,1),(false,2),(false,3),(false,4),(false,5)] rfl ?_
    refine L.move rfl rfl rfl trivial ?_
    refine L.move rfl rfl rfl trivial ?_
    refine L.convI rfl Try.underlying3 Try.underlying88 rfl (by simp only [inK]; omega) rfl trivial ?_
    refine L.shrN rfl rfl rfl (by omega) rfl trivial ?_
    refine L.rem rfl rfl rfl (Int.natCast_nonneg _) (by omega) (by simp only [inK]; omega) rfl trivial ?_
    refine L.eql rfl rfl rfl rfl trivial ?_
    refine L.nil ?_
    refine C.next ?_
    refine C.condD rfl (fun hc2 => ?_) (fun hc2 => ?_)
    · have hbit : m.testBit k = true := bit_one hc2
      refine C.region [(false,0),(false,1),(false,2),(false,3),(false,4)] rfl ?_
      refine L.move rfl rfl rfl trivial ?_
      refine L.move rfl rfl rfl trivial ?_
      refine L.buildSlice rfl Try.underlying52 Tf.s3 Tf.z3 rfl rfl rfl rfl (.cons rfl rfl .nil) rfl trivial (fun b901 D901 hD901 hA901 => ?_)
      have hS901 := Sl.ofInts (l := [_]) (n := 1) (cap := 1) hA901 rfl (by omega) (by omega)
      refine L.append (A := []) (B := []) rfl Try.underlying52 rfl rfl Tf.s3 Tf.z3 rfl Tf.i3 rfl rfl rfl ha (Src.lit hA901) (by simp) rfl (by simp) (by simp [cell1]) (by have := bk_len m k; omega) (Or.inl rfl) rfl trivial (fun v7 ν7 ha7 => ?_)
      have hn7 : Acc 3 1 v7 (bitsK m (k + 1)).length (ints (bitsK m (k + 1))) ν7 := by rw [bk_yes hbit]; simpa [ints] using ha7
      refine L.assign rfl rfl rfl trivial ?_
      refine L.nil ?_
      refine C.blockEnd ?_
      refine C.next ?_
      refine C.region [(false,0),(false,1),(false,2)] rfl ?_
      refine L.move rfl rfl rfl trivial ?_
      refine L.add rfl rfl rfl (by simp only [inK]; omega) rfl trivial ?_
      refine L.assign rfl rfl rfl trivial ?_
      refine L.nil ?_
      exact C.againR 21 (k + 1, v7, ν7) ⟨by simp only; omega, hn7⟩ (by simp only; omega) ⟨(by first | rfl | (show some (Value.int _ _) = some (Value.int _ _); congr 2; omega)), (by first | rfl | (show some (Value.int _ _) = some (Value.int _ _); congr 2; omega)), trivial⟩ rfl rfl (List.Sublist.refl _) (fun D h => ⟨D, List.Mem.tail _ (h), Le.refl D⟩)
    · have hbit : m.testBit k = false := bit_zero hc2
      refine C.skip ?_
      refine C.blockEnd ?_
      refine C.next ?_
      refine C.region [(false,0),(false,1),(false,2)] rfl ?_
      refine L.move rfl rfl rfl trivial ?_
      refine L.add rfl rfl rfl (by simp only [inK]; omega) rfl trivial ?_
      refine L.assign rfl rfl rfl trivial ?_
      refine L.nil ?_
      exact C.againR 16 (k + 1, v, ν) ⟨by simp only; omega, by simp only; rw [bk_no hbit]; exact ha⟩ (by simp only; omega) ⟨(by first | rfl | (show some (Value.int _ _) = some (Value.int _ _); congr 2; omega)), (by first | rfl | (show some (Value.int _ _) = some (Value.int _ _); congr 2; omega)), trivial⟩ rfl rfl (List.Sublist.refl _) (ds_same)
  · have hend : bitsK m k = bitsL m := bits_end hm h1 (by simp only at hc1; generalize m >>> k = s at hc1 ⊢; omega)
    rw [hend] at ha
    refine C.exit ?_
    refine C.thenExit ?_
    refine C.thenExit ?_
    refine C.blockExit ?_
    refine C.next ?_
    refine C.seq ?_
    refine C.region [(false,0),(false,1)] rfl ?_
    refine L.move rfl rfl rfl trivial ?_
    refine L.assign rfl rfl rfl trivial ?_
    refine L.nil ?_
    refine C.next ?_
    refine C.ret ?_
    refine Q.freeze (A := []) (B := []) ha rfl (fun D2 hD2 hF => ?_)
    exact leave (vs := [_]) rfl rfl rfl ⟨rfl, trivial⟩ (fun D' hD => (hF.ints rfl (by have := bk_len m 7; unfold bitsL; omega)).up RI.up (hD _ (by simp)))
theorem Before_ok (av bv : Value) (a b : List Int) (D : Data) (ha : Sl D RI 1 av a) (hb : Sl D RI 1 bv b) : Fn Try.prog 100 #[av, bv] D (fun _ v => v = .bool (lexB a b)) := by
  have hal := ha.len
  have hbl := hb.len
  refine enter 41 Try.func100 rfl rfl rfl rfl fun h0 => ?_
  refine C.seq ?_
  refine C.region [(false,0)] rfl ?_
  refine L.assign rfl rfl rfl trivial ?_
  refine L.nil ?_
  refine C.next ?_
  refine C.seq ?_
  refine C.seq ?_
  refine C.region [(false,0)] rfl ?_
  refine L.assign rfl rfl rfl trivial ?_
  refine L.nil ?_
  refine C.next ?_
  refine C.block ?_
  refine C.loopC (γ := Nat) (fun k => a.length - k) (fun k => k ≤ a.length ∧ k ≤ b.length ∧ lexB a b = lexB (a.drop k) (b.drop k)) (fun k => [(5, .int .i64 (k : Int))]) [(4, _), (0, _), (1, _)] (fun k => [D]) 0 ⟨by omega, by omega, rfl⟩ ⟨(by first | rfl | (show some (Value.int _ _) = some (Value.int _ _); congr 2; omega)), trivial⟩ ⟨rfl, rfl, rfl, trivial⟩ (ds_same) ?_
  rintro k ⟨h1, h2, h3⟩
  refine C.seq ?_
  refine C.seq ?_
  refine C.region [(false,0),(false,1),(false,2),(false,3),(false,4),(false,5),(false,6),(false,7),(false,8),(false,9)] rfl ?_
  refine L.move rfl rfl rfl trivial ?_
  refine L.move rfl rfl rfl trivial ?_
  refine L.len rfl Try.underlying52 rfl ha rfl rfl trivial ?_
  refine L.lss rfl rfl rfl rfl trivial ?_
  refine L.move rfl rfl rfl trivial ?_
  refine' L.and [(false,5),(false,6),(false,7),(false,8),(false,9)] [] (s := 10) (p := 15) rfl rfl (fun hg1 => ?_) (fun hg1 => ?_) ?_
  rotate_left
  · refine L.move rfl rfl rfl ⟨_, rfl, rfl⟩ ?_
    refine L.move rfl rfl rfl ⟨_, rfl, rfl⟩ ?_
    refine L.len rfl Try.underlying52 rfl hb rfl rfl ⟨_, rfl, rfl⟩ ?_
    refine L.lss rfl rfl rfl rfl ⟨_, rfl, rfl⟩ ?_
    refine L.pickT rfl rfl rfl rfl trivial ?_
    exact L.nil fun a w hh => hh.cutK 4 rfl
  · refine L.pass rfl rfl rfl ⟨_, _, rfl, rfl, rfl⟩ ?_
    refine L.pass rfl rfl rfl ⟨_, _, rfl, rfl, rfl⟩ ?_
    refine L.pass rfl rfl rfl ⟨_, _, rfl, rfl, rfl⟩ ?_
    refine L.pass rfl rfl rfl ⟨_, _, rfl, rfl, rfl⟩ ?_
    refine L.pickF rfl rfl rfl rfl trivial ?_
    exact L.nil fun a w hh => hh.cutK 4 rfl
  refine L.nil ?_
  refine C.next ?_
  refine C.cond rfl (fun hc1 => ?_) (fun hc1 => ?_)
  · have hk : k < a.length ∧ k < b.length := by simp only [Bool.and_eq_true, decide_eq_true_eq] at hc1; omega
    obtain ⟨x, hx⟩ : ∃ x, a[k]? = some x := ⟨_, List.getElem?_eq_getElem hk.1⟩
    obtain ⟨z, hz⟩ : ∃ z, b[k]? = some z := ⟨_, List.getElem?_eq_getElem hk.2⟩
    refine C.skip ?_
    refine C.next ?_
    refine C.seq ?_
    refine C.block ?_
    refine C.seq ?_
    refine C.draw [] 3 [0,1,2,3,4,5,6,7,8] [false,true,false,false,true,true,true,true,false] [(false,0),(true,1),(false,2),(false,3),(true,4),(true,5),(true,6),(true,7),(false,8)] Tf.follows (fun _ _ _ h => np_body (P := Try.prog) (fn := Try.f100) _ _ _ h) (by kernel_rfl) rfl ?_
    refine L.move rfl rfl rfl trivial ?_
    refine L.move rfl rfl rfl trivial ?_
    refine L.indexS rfl Try.underlying52 Tf.s3 rfl ha rfl (by omega) hx rfl trivial (fun b1 o1 cs1 hr1 hcl1 hA1 => ?_)
    obtain rfl : cs1 = [.int .i64 _] := hr1
    refine L.loadD1 rfl (k := 0) Tf.a3 rfl hA1 (by first | simp | assumption) rfl List.not_mem_nil rfl trivial ?_
    refine L.move rfl rfl rfl trivial ?_
    refine L.move rfl rfl rfl trivial ?_
    refine L.indexS rfl Try.underlying52 Tf.s3 rfl hb rfl (by omega) hz rfl trivial (fun b2 o2 cs2 hr2 hcl2 hA2 => ?_)
    obtain rfl : cs2 = [.int .i64 _] := hr2
    refine L.loadD1 rfl (k := 0) Tf.a3 rfl hA2 (by first | simp | assumption) rfl List.not_mem_nil rfl trivial ?_
    refine L.neq rfl rfl rfl rfl trivial ?_
    refine L.nil ?_
    refine C.next ?_
    refine C.condD rfl (fun hc2 => ?_) (fun hc2 => ?_)
    · refine C.seq ?_
      refine C.draw [] 3 [0,1,2,3,4,5,6,7,8,9] [false,true,false,false,true,true,true,true,false,false] [(false,0),(true,1),(false,2),(false,3),(true,4),(true,5),(true,6),(true,7),(false,8),(false,9)] Tf.follows (fun _ _ _ h => np_body (P := Try.prog) (fn := Try.f100) _ _ _ h) (by kernel_rfl) rfl ?_
      refine L.move rfl rfl rfl trivial ?_
      refine L.move rfl rfl rfl trivial ?_
      refine L.indexS rfl Try.underlying52 Tf.s3 rfl ha rfl (by omega) hx rfl trivial (fun b3 o3 cs3 hr3 hcl3 hA3 => ?_)
      obtain rfl : cs3 = [.int .i64 _] := hr3
      refine L.loadD1 rfl (k := 0) Tf.a3 rfl hA3 (by first | simp | assumption) rfl List.not_mem_nil rfl trivial ?_
      refine L.move rfl rfl rfl trivial ?_
      refine L.move rfl rfl rfl trivial ?_
      refine L.indexS rfl Try.underlying52 Tf.s3 rfl hb rfl (by omega) hz rfl trivial (fun b4 o4 cs4 hr4 hcl4 hA4 => ?_)
      obtain rfl : cs4 = [.int .i64 _] := hr4
      refine L.loadD1 rfl (k := 0) Tf.a3 rfl hA4 (by first | simp | assumption) rfl List.not_mem_nil rfl trivial ?_
      refine L.lss rfl rfl rfl rfl trivial ?_
      refine L.assign rfl rfl rfl trivial ?_
      refine L.nil ?_
      refine C.next ?_
      refine C.ret ?_
      refine C.blockRet ?_
      refine C.thenRet ?_
      refine C.thenRet ?_
      refine C.blockRet ?_
      refine C.thenRet ?_
      exact leave (vs := [_]) rfl rfl rfl ⟨rfl, trivial⟩ (fun D hD => by show Value.bool _ = _; rw [h3, lex_diff hx hz hc2])
    · refine C.skip ?_
      refine C.blockEnd ?_
      refine C.next ?_
      refine C.region [(false,0),(false,1),(false,2)] rfl ?_
      refine L.move rfl rfl rfl trivial ?_
      refine L.add rfl rfl rfl (by simp only [inK]; omega) rfl trivial ?_
      refine L.assign rfl rfl rfl trivial ?_
      refine L.nil ?_
      exact C.againR 19 (k + 1) ⟨by omega, by omega, by rw [h3, lex_same hx hz (by omega)]⟩ (by omega) ⟨(by first | rfl | (show some (Value.int _ _) = some (Value.int _ _); congr 2; omega)), trivial⟩ rfl rfl (List.Sublist.refl _) (ds_same)
  · refine C.exit ?_
    refine C.thenExit ?_
    refine C.thenExit ?_
    refine C.blockExit ?_
    refine C.next ?_
    refine C.seq ?_
    refine C.region [(false,0),(false,1),(false,2),(false,3),(false,4),(false,5)] rfl ?_
    refine L.move rfl rfl rfl trivial ?_
    refine L.len rfl Try.underlying52 rfl ha rfl rfl trivial ?_
    refine L.move rfl rfl rfl trivial ?_
    refine L.len rfl Try.underlying52 rfl hb rfl rfl trivial ?_
    refine L.lss rfl rfl rfl rfl trivial ?_
    refine L.assign rfl rfl rfl trivial ?_
    refine L.nil ?_
    refine C.next ?_
    refine C.ret ?_
    exact leave (vs := [_]) rfl rfl rfl ⟨rfl, trivial⟩ (fun D hD => by show Value.bool _ = _; rw [h3, lex_end (by simp only [Bool.and_eq_false_iff, decide_eq_false_iff_not] at hc1; omega) h1 h2])
theorem Shorter_ok (av bv : Value) (a b : List Int) (D : Data) (ha : Sl D RI 1 av a) (hb : Sl D RI 1 bv b) : Fn Try.prog 64 #[av, bv] D (fun _ v => v = .bool (shortB a b)) := by
  have hal := ha.len
  have hbl := hb.len
  refine enter 22 Try.func64 rfl rfl rfl rfl fun h0 => ?_
  refine C.seq ?_
  refine C.region [(false,0)] rfl ?_
  refine L.assign rfl rfl rfl trivial ?_
  refine L.nil ?_
  refine C.next ?_
  refine C.seq ?_
  refine C.region [(false,0),(false,1),(false,2),(false,3),(false,4),(false,5),(false,6),(false,7),(false,8),(false,9),(false,10),(false,11),(false,12),(false,13),(false,14),(false,15),(false,16),(false,17)] rfl ?_
  refine L.move rfl rfl rfl trivial ?_
  refine L.len rfl Try.underlying52 rfl ha rfl rfl trivial ?_
  refine L.move rfl rfl rfl trivial ?_
  refine L.len rfl Try.underlying52 rfl hb rfl rfl trivial ?_
  refine L.lss rfl rfl rfl rfl trivial ?_
  refine L.move rfl rfl rfl trivial ?_
  refine' L.or [(false,6),(false,7),(false,8),(false,9),(false,10),(false,11),(false,12),(false,13),(false,14),(false,15),(false,16)] [(false,17)] (s := 10) (p := 21) rfl rfl (fun hg1 => ?_) (fun hg1 => ?_) ?_
  rotate_left
  · refine L.move rfl rfl rfl ⟨_, rfl, rfl⟩ ?_
    refine L.len rfl Try.underlying52 rfl ha rfl rfl ⟨_, rfl, rfl⟩ ?_
    refine L.move rfl rfl rfl ⟨_, rfl, rfl⟩ ?_
    refine L.len rfl Try.underlying52 rfl hb rfl rfl ⟨_, rfl, rfl⟩ ?_
    refine L.eql rfl rfl rfl rfl ⟨_, rfl, rfl⟩ ?_
    refine L.move rfl rfl rfl ⟨_, rfl, rfl⟩ ?_
    refine' L.and [(false,12),(false,13),(false,14),(false,15)] [(false,16)] (s := 16) (p := 20) rfl rfl (fun hg2 => ?_) (fun hg2 => ?_) ?_
    rotate_left
    · refine L.move rfl rfl rfl ⟨_, rfl, rfl⟩ ?_
      refine L.move rfl rfl rfl ⟨_, rfl, rfl⟩ ?_
      refine L.callV rfl rfl rfl (fun D1 hD1 => Before_ok _ _ a b _ (ha.up RI.up (hD1 _ (by simp))) (hb.up RI.up (hD1 _ (by simp)))) rfl ⟨_, rfl, rfl⟩ ?_
      refine L.pickT rfl rfl rfl rfl ⟨_, rfl, rfl⟩ ?_
      exact L.nil fun a w hh => hh.cutK 3 rfl
    · refine L.pass rfl rfl rfl ⟨_, _, rfl, rfl, rfl⟩ ?_
      refine L.pass rfl rfl rfl ⟨_, _, rfl, rfl, rfl⟩ ?_
      refine L.pass rfl rfl rfl ⟨_, _, rfl, rfl, rfl⟩ ?_
      refine L.pickF rfl rfl rfl rfl ⟨_, rfl, rfl⟩ ?_
      exact L.nil fun a w hh => hh.cutK 3 rfl
    refine L.pickF rfl rfl rfl rfl trivial ?_
    exact L.nil fun a w hh => hh.cutK 7 rfl
  · refine L.pass rfl rfl rfl ⟨_, _, rfl, rfl, rfl⟩ ?_
    refine L.pass rfl rfl rfl ⟨_, _, rfl, rfl, rfl⟩ ?_
    refine L.pass rfl rfl rfl ⟨_, _, rfl, rfl, rfl⟩ ?_
    refine L.pass rfl rfl rfl ⟨_, _, rfl, rfl, rfl⟩ ?_
    refine L.pass rfl rfl rfl ⟨_, _, rfl, rfl, rfl⟩ ?_
    refine L.pass rfl rfl rfl ⟨_, _, rfl, rfl, rfl⟩ ?_
    refine L.pass rfl rfl rfl ⟨_, _, rfl, rfl, rfl⟩ ?_
    refine L.pass rfl rfl rfl ⟨_, _, rfl, rfl, rfl⟩ ?_
    refine L.pass rfl rfl rfl ⟨_, _, rfl, rfl, rfl⟩ ?_
    refine L.pass rfl rfl rfl ⟨_, _, rfl, rfl, rfl⟩ ?_
    refine L.pickT rfl rfl rfl rfl trivial ?_
    exact L.nil fun a w hh => hh.cutK 10 rfl
  refine L.assign rfl rfl rfl trivial ?_
  refine L.nil ?_
  refine C.next ?_
  refine C.ret ?_
  exact leave (vs := [_]) rfl rfl rfl ⟨rfl, trivial⟩ (fun D hD => rfl)
end Go.Fs
namespace Go.Fs
open Go.Proofs
open C7
def bestS (y : YardD) (ms : List Int) (best : List Int) (b : Nat) : List Int := if (shortB (bitsL b) best && canB y ms (dif (2 ^ y.claims.length - 1) b)) = true then bitsL b else best
def bestK (y : YardD) (ms : List Int) (k : Nat) : List Int := (List.range k).foldl (bestS y ms) (bitsL (2 ^ y.claims.length - 1))
theorem bestK_succ (y : YardD) (ms : List Int) (k : Nat) : bestK y ms (k + 1) = bestS y ms (bestK y ms k) k := by
  unfold bestK; rw [List.range_succ, List.foldl_append]; rfl
def leaveR (y : YardD) (ms : List Int) : List Int := bestK y ms (2 ^ y.claims.length)
end Go.Fs
namespace Go.Fs
open Go.Proofs
open C7
/-- Some claims are right together in a truth. -/
theorem and_same {b c : Nat} : b &&& c = c ↔ ∀ j, c.testBit j = true → b.testBit j = true := by
  constructor
  · intro h j hj
    rw [← h, Nat.testBit_and, Bool.and_eq_true] at hj
    exact hj.1
  · intro h
    apply Nat.eq_of_testBit_eq
    intro j
    rw [Nat.testBit_and]
    cases e : c.testBit j with
    | false => simp
    | true => rw [h j e]; rfl
theorem can_iff {y : YardD} (h : fault y = 0) {c : Nat} : canB y (allN y) c = true ↔ ∃ t, isTruth y t = true ∧ ∀ j, c.testBit j = true → j < y.claims.length ∧ rightB y.claims (mostT y t : Nat) j = true := by
  have hyo := yOk h
  unfold canB
  rw [List.any_eq_true]
  constructor
  · rintro ⟨m, hm, he⟩
    unfold allN at hm
    obtain ⟨n, _, rfl⟩ := List.mem_map.1 hm
    refine ⟨_, nth_truth hyo n, fun j hj => ?_⟩
    have := and_same.1 (of_decide_eq_true he) j hj
    rw [bset_bit, Bool.and_eq_true, decide_eq_true_eq] at this
    exact this
  · rintro ⟨t, ht, hr⟩
    obtain ⟨n, hn, rfl⟩ := nth_onto ht
    refine ⟨mostN y n, List.mem_map.2 ⟨n, List.mem_range.2 hn, rfl⟩, decide_eq_true (and_same.2 fun j hj => ?_)⟩
    rw [bset_bit, Bool.and_eq_true, decide_eq_true_eq]
    exact hr j hj
theorem scenes_iff {y : YardD} {out : List Int} : (0 : Int) < ((scenesD y out).length : Int) ↔ ∃ t, isTruth y t = true ∧ rightO y.claims out (mostT y t : Nat) = true := by
  rw [show ((0 : Int) < ((scenesD y out).length : Int) ↔ 0 < (scenesD y out).length) by omega, List.length_pos_iff_exists_mem]
  constructor
  · rintro ⟨p, hp⟩
    obtain ⟨t, h1, h2, _⟩ := mem_scenes.1 hp
    exact ⟨t, h1, h2⟩
  · rintro ⟨t, h1, h2⟩
    exact ⟨_, mem_scenes.2 ⟨t, h1, h2, rfl⟩⟩
theorem right_iff {cl : List (Int × Int)} {out : List Int} {n : Int} : rightO cl out n = true ↔ ∀ j, j < cl.length → (∃ x ∈ out, (j : Int) = x) ∨ rightB cl n j = true := by
  unfold rightO
  rw [List.all_eq_true]
  have key : ∀ j, j < cl.length → (rightAt cl out n j = true ↔ (∃ x ∈ out, (j : Int) = x) ∨ rightB cl n j = true) := fun j hj => by
    unfold rightAt rightB
    rw [List.getElem?_eq_getElem hj, Bool.or_eq_true, List.any_eq_true]
    simp
  exact ⟨fun h j hj => (key j hj).1 (h j (List.mem_range.2 hj)), fun h j hj => (key j (List.mem_range.1 hj)).2 (h j (List.mem_range.1 hj))⟩
theorem first_can {y : YardD} (h : fault y = 0) {i : Nat} (hi : i < y.claims.length) : firstP y i = !canB y (allN y) (2 * 2 ^ i - 1) := by
  unfold firstP
  congr 1
  rw [Bool.eq_iff_iff, decide_eq_true_eq, scenes_iff, can_iff h]
  have hl : (takeC y (i + 1)).claims.length = i + 1 := by show (y.claims.take (i + 1)).length = _; rw [List.length_take]; omega
  have hb : ∀ j n, j < i + 1 → rightB (takeC y (i + 1)).claims n j = rightB y.claims n j := fun j n hj => by
    unfold rightB
    show (match (y.claims.take (i + 1))[j]? with | some r => _ | none => _) = _
    rw [List.getElem?_take, if_pos hj]
    cases y.claims[j]? <;> rfl
  have bit : ∀ j, (2 * 2 ^ i - 1).testBit j = decide (j < i + 1) := fun j => by
    rw [show 2 * 2 ^ i = 2 ^ (i + 1) by rw [Nat.pow_succ]; omega, Nat.testBit_two_pow_sub_one]
  constructor
  · rintro ⟨t, h1, h2⟩
    refine ⟨t, h1, fun j hj => ?_⟩
    rw [bit, decide_eq_true_eq] at hj
    rcases right_iff.1 h2 j (by omega) with h3 | h3
    · simp at h3
    · exact ⟨by omega, by rw [hb j _ hj] at h3; exact h3⟩
  · rintro ⟨t, h1, h2⟩
    refine ⟨t, h1, right_iff.2 fun j hj => Or.inr ?_⟩
    rw [hb j _ (by omega)]
    exact (h2 j (by rw [bit, decide_eq_true_eq]; omega)).2
theorem find_congr {p q : Nat → Bool} : ∀ {l : List Nat}, (∀ i ∈ l, p i = q i) → l.find? p = l.find? q
  | [], _ => rfl
  | x :: l, h => by
    rw [List.find?_cons, List.find?_cons, h x List.mem_cons_self, find_congr fun i hi => h i (List.mem_cons_of_mem _ hi)]
theorem first_is {y : YardD} (h : fault y = 0) : firstV y = if 0 ≤ firstR y (allN y) then (firstR y (allN y), 0) else (0, 7) := by
  unfold firstV firstR
  rw [if_neg (by omega), find_congr (q := fun i => !canB y (allN y) (2 * 2 ^ i - 1)) fun i hi => first_can h (List.mem_range.1 hi)]
  cases (List.range y.claims.length).find? (fun i => !canB y (allN y) (2 * 2 ^ i - 1)) with
  | none => rfl
  | some i => simp only; rw [if_pos (by omega)]
/-- Lists of numbers, of one length, in lexicographic order. -/
def sets (n : Nat) : Nat → Nat → List (List Int)
  | 0, _ => [[]]
  | m + 1, f => (List.range' f (n - m - f)).flatMap fun i => (sets n m (i + 1)).map fun l => (i : Int) :: l
def allS (n : Nat) : List (List Int) := (List.range' 0 (n + 1)).flatMap fun m => sets n m 0
def pos (y : YardD) (l : List Int) : Bool := decide (0 < ((scenesD y l).length : Int))
theorem try_spec {g : Nat → List Int → Bool × List Int} {S : Nat → List (List Int)} {Q : List Int → Bool} {out : List Int} : ∀ (is : List Nat), (∀ i ∈ is, ∀ fnd, (∀ l, (S i).find? Q = some l → g i fnd = (true, out ++ l)) ∧ ((S i).find? Q = none → (g i fnd).1 = false)) →
    ∀ fnd, (∀ l, (is.flatMap S).find? Q = some l → tryL g is fnd = (true, out ++ l)) ∧ ((is.flatMap S).find? Q = none → (tryL g is fnd).1 = false)
  | [], _, fnd => ⟨fun l h => by simp at h, fun _ => rfl⟩
  | i :: is, h, fnd => by
    have h0 := h i List.mem_cons_self fnd
    rw [List.flatMap_cons, List.find?_append, tryL]
    cases e : (S i).find? Q with
    | some l =>
      have := h0.1 l e
      rw [this]
      exact ⟨fun l' hl => by rw [Option.some_or] at hl; cases hl; rfl, fun hl => by rw [Option.some_or] at hl; cases hl⟩
    | none =>
      have := h0.2 e
      rw [if_neg (by rw [this]; simp), Option.none_or]
      exact try_spec is (fun i hi => h i (List.mem_cons_of_mem _ hi)) _
theorem lvG_spec {y : YardD} : ∀ (m f : Nat) (out fnd : List Int), (∀ l, (sets y.claims.length m f).find? (fun l => pos y (out ++ l)) = some l → lvG y m f out fnd = (true, out ++ l)) ∧ ((sets y.claims.length m f).find? (fun l => pos y (out ++ l)) = none → (lvG y m f out fnd).1 = false)
  | 0, f, out, fnd => by
    have e : lvG y 0 f out fnd = (pos y out, out) := rfl
    rw [e, sets, List.find?_cons, List.append_nil]
    cases hp : pos y out with
    | true => exact ⟨fun l h => by simp only [Option.some.injEq] at h; rw [← h, List.append_nil], fun h => by simp at h⟩
    | false => exact ⟨fun l h => by simp at h, fun _ => rfl⟩
  | m + 1, f, out, fnd => by
    rw [lvG, sets]
    refine try_spec _ (fun i _ fnd => ?_) fnd
    have ih := lvG_spec (y := y) m (i + 1) (out ++ [(i : Int)]) fnd
    have e : (fun l => pos y (out ++ l)) ∘ (fun l : List Int => (i : Int) :: l) = fun l => pos y ((out ++ [(i : Int)]) ++ l) := by funext l; simp
    rw [List.find?_map, e]
    cases hf : (sets y.claims.length m (i + 1)).find? (fun l => pos y ((out ++ [(i : Int)]) ++ l)) with
    | none => exact ⟨fun l h => by simp at h, fun _ => ih.2 hf⟩
    | some l => exact ⟨fun l' h => by rw [Option.map_some, Option.some.injEq] at h; rw [ih.1 l hf, ← h]; simp, fun h => by simp at h⟩
theorem leaveV_find {y : YardD} (h : fault y = 0) {l : List Int} (hl : (allS y.claims.length).find? (pos y) = some l) : leaveV y = (l, 0) := by
  have := (try_spec (g := fun m fnd => lvG y m 0 [] fnd) (S := fun m => sets y.claims.length m 0) (Q := pos y) (out := []) (List.range' 0 (y.claims.length + 1)) (fun i _ fnd => lvG_spec i 0 [] fnd) []).1 l hl
  unfold leaveV
  rw [if_neg (by omega)]
  show ((tryL (fun m fnd => lvG y m 0 [] fnd) (List.range' 0 (y.claims.length + 1)) []).2, (0 : Int)) = _
  rw [this]; rfl
theorem lex_trans : ∀ {a b c : List Int}, lexB a b = true → lexB b c = true → lexB a c = true
  | [], b, c, h1, h2 => by
    cases b with
    | nil => simp [lexB] at h1
    | cons z b =>
      cases c with
      | nil => simp [lexB] at h2
      | cons w c => simp [lexB]
  | x :: a, b, c, h1, h2 => by
    cases b with
    | nil => simp [lexB] at h1
    | cons z b =>
      cases c with
      | nil => simp [lexB] at h2
      | cons w c =>
        rw [lexB] at h1 h2 ⊢
        split at h1 <;> split at h2
        · rename_i e1 e2; rw [if_pos (e1.trans e2)]; exact lex_trans h1 h2
        · rename_i e1 e2; have := of_decide_eq_true h2; rw [if_neg (by omega), decide_eq_true_eq]; omega
        · rename_i e1 e2; have := of_decide_eq_true h1; rw [if_neg (by omega), decide_eq_true_eq]; omega
        · rename_i e1 e2; have := of_decide_eq_true h1; have := of_decide_eq_true h2; rw [if_neg (by omega), decide_eq_true_eq]; omega
theorem short_trans {a b c : List Int} (h1 : shortB a b = true) (h2 : shortB b c = true) : shortB a c = true := by
  simp only [shortB, Bool.or_eq_true, Bool.and_eq_true, decide_eq_true_eq] at *
  rcases h1 with h1 | h1 <;> rcases h2 with h2 | h2
  · left; omega
  · left; omega
  · left; omega
  · right; exact ⟨by omega, lex_trans h1.2 h2.2⟩
theorem sets_facts : ∀ n, n ≤ 5 → (allS n).Pairwise (fun a b => shortB a b = true) ∧ (∀ b, b < 2 ^ n → bitsL b ∈ allS n) ∧ ∀ l ∈ allS n, ∃ b, b < 2 ^ n ∧ l = bitsL b := by decide +kernel
theorem mem_bits {m j : Nat} : (∃ x ∈ bitsL m, (j : Int) = x) ↔ j < 7 ∧ m.testBit j = true := by
  unfold bitsL bitsK
  constructor
  · rintro ⟨x, hx, e⟩
    obtain ⟨i, hi, rfl⟩ := List.mem_map.1 hx
    obtain rfl : j = i := by omega
    rw [List.mem_filter, List.mem_range] at hi; exact hi
  · rintro ⟨h1, h2⟩
    exact ⟨(j : Int), List.mem_map.2 ⟨j, List.mem_filter.2 ⟨List.mem_range.2 h1, h2⟩, rfl⟩, rfl⟩
theorem pos_can {y : YardD} (h : fault y = 0) {b : Nat} : pos y (bitsL b) = canB y (allN y) (dif (2 ^ y.claims.length - 1) b) := by
  have h5 := (yOk h).cls
  unfold pos
  have bit : ∀ j, (dif (2 ^ y.claims.length - 1) b).testBit j = (decide (j < y.claims.length) && !b.testBit j) := fun j => by rw [dif_bit, Nat.testBit_two_pow_sub_one]
  rw [Bool.eq_iff_iff, decide_eq_true_eq, scenes_iff, can_iff h]
  constructor
  · rintro ⟨t, h1, h2⟩
    refine ⟨t, h1, fun j hj => ?_⟩
    rw [bit, Bool.and_eq_true, decide_eq_true_eq, Bool.not_eq_true'] at hj
    refine ⟨hj.1, ?_⟩
    rcases right_iff.1 h2 j hj.1 with h3 | h3
    · rw [(mem_bits.1 h3).2] at hj; simp at hj
    · exact h3
  · rintro ⟨t, h1, h2⟩
    refine ⟨t, h1, right_iff.2 fun j hj => ?_⟩
    cases e : b.testBit j with
    | true => exact Or.inl (mem_bits.2 ⟨by omega, e⟩)
    | false => exact Or.inr (h2 j (by rw [bit, e]; simp [hj])).2
theorem lex_irr : ∀ a : List Int, lexB a a = false
  | [] => rfl
  | x :: a => by rw [lexB, if_pos rfl]; exact lex_irr a
theorem best_inv {y : YardD} (h : fault y = 0) : ∀ k, k ≤ 2 ^ y.claims.length → (∃ b, b < 2 ^ y.claims.length ∧ bestK y (allN y) k = bitsL b ∧ pos y (bitsL b) = true) ∧ ∀ b, b < k → pos y (bitsL b) = true → shortB (bitsL b) (bestK y (allN y) k) = false
  | 0, _ => by
    have hp1 : 1 ≤ 2 ^ y.claims.length := Nat.one_le_two_pow
    refine ⟨⟨2 ^ y.claims.length - 1, by omega, rfl, ?_⟩, by omega⟩
    rw [pos_can h, can_iff h]
    refine ⟨_, nth_truth (yOk h) 0, fun j hj => ?_⟩
    rw [dif_bit] at hj; simp at hj
  | k + 1, hk => by
    obtain ⟨⟨b0, h0, e0, p0⟩, h1⟩ := best_inv h k (by omega)
    rw [bestK_succ]
    unfold bestS
    split
    · rename_i hc
      rw [Bool.and_eq_true, ← pos_can h] at hc
      refine ⟨⟨k, by omega, rfl, hc.2⟩, fun b hb hp => ?_⟩
      cases e : shortB (bitsL b) (bitsL k) with
      | false => rfl
      | true =>
        have h2 := short_trans e hc.1
        rcases Nat.lt_succ_iff_lt_or_eq.1 hb with hb | rfl
        · rw [h1 b hb hp] at h2; cases h2
        · exfalso
          simp only [shortB, Bool.or_eq_true, Bool.and_eq_true, decide_eq_true_eq] at e
          rcases e with e | e
          · omega
          · exact absurd e.2 (by rw [lex_irr]; simp)
    · rename_i hc
      refine ⟨⟨b0, h0, e0, p0⟩, fun b hb hp => ?_⟩
      rcases Nat.lt_succ_iff_lt_or_eq.1 hb with hb | rfl
      · exact h1 b hb hp
      · rw [← pos_can h, hp, Bool.and_true] at hc
        simpa using hc
theorem leave_is {y : YardD} (h : fault y = 0) : leaveV y = (leaveR y (allN y), 0) := by
  obtain ⟨f1, f2, f3⟩ := sets_facts _ (yOk h).cls
  obtain ⟨⟨b0, h0, e0, p0⟩, h1⟩ := best_inv h (2 ^ y.claims.length) (Nat.le_refl _)
  have hm := f2 b0 h0
  cases e : (allS y.claims.length).find? (pos y) with
  | none => rw [List.find?_eq_none] at e; exact absurd p0 (e _ hm)
  | some l =>
    rw [leaveV_find h e]
    obtain ⟨hp, L1, L2, el, hn⟩ := List.find?_eq_some_iff_append.1 e
    rw [el] at hm f1
    obtain ⟨b1, g1, rfl⟩ := f3 l (List.mem_of_find?_eq_some e)
    have hL := h1 b1 g1 hp
    unfold leaveR
    rw [e0] at hL ⊢
    rcases List.mem_append.1 hm with hm | hm
    · have := hn _ hm; rw [p0] at this; simp at this
    · rcases List.mem_cons.1 hm with hm | hm
      · rw [hm]
      · have := (List.pairwise_cons.1 (List.pairwise_append.1 f1).2.1).1 _ hm
        rw [hL] at this; cases this
end Go.Fs
namespace Go.Fs
open Go.Proofs
open C7
theorem ready_inB {y : YardD} (h : (!(thin y && decide (fault y = 0))) = false) : thin y = true ∧ fault y = 0 := by
  simp only [Bool.not_eq_false', Bool.and_eq_true, decide_eq_true_eq] at h; exact h
def someK (cl : List (Int × Int)) (b : Nat) : Nat → List (Int × Int)
  | 0 => []
  | k + 1 => if b.testBit k = true then someK cl b k ++ cl[k]?.toList else someK cl b k
theorem someK_yes {cl : List (Int × Int)} {b k : Nat} {x : Int × Int} (hx : cl[k]? = some x) (h : b.testBit k = true) : someK cl b (k + 1) = someK cl b k ++ [x] := by rw [someK, if_pos h, hx]; rfl
theorem someK_no {cl : List (Int × Int)} {b k : Nat} (h : b.testBit k = false) : someK cl b (k + 1) = someK cl b k := by rw [someK, if_neg (by rw [h]; simp)]
theorem someK_len (cl : List (Int × Int)) (b : Nat) : ∀ k, (someK cl b k).length ≤ k
  | 0 => Nat.le_refl _
  | k + 1 => by
    have := someK_len cl b k
    rw [someK]
    split
    · rw [List.length_append]
      have : cl[k]?.toList.length ≤ 1 := by cases cl[k]? <;> simp
      omega
    · omega
/-- The yard with some of its claims. -/
def someY (y : YardD) (b : Nat) : YardD := { y with claims := someK y.claims b y.claims.length }
theorem bnd_err {y : YardD} (h : fault y = 0) : (boundsV y).2 = if scenesD y [] = [] then 11 else 0 := by
  by_cases hs : scenesD y [] = []
  · rw [if_pos hs]; unfold boundsV; rw [if_neg (by omega), hs]; rfl
  · rw [if_neg hs]
    have : askS y = 0 := by unfold askS; rw [if_neg (by omega), if_neg fun e => hs ((ns_nil (yOk h)).1 e)]
    rw [bounds_is this]
theorem some_ok (yv : Value) (y : YardD) (b : Nat) (z : Int) (D : Data) (hz : z = (b : Int)) (hy : YardIs D yv y) (_hb : b < 256) (hl5 : y.claims.length ≤ 50) : Fn Try.prog 62 #[yv, .int .i64 z] D (fun D' v => YardIs D' v (someY y b)) := by
  obtain ⟨cv, qv, rfl, hc, hq⟩ := hy
  subst hz
  refine enter 33 Try.func62 rfl rfl rfl rfl fun h0 => ?_
  refine C.seq ?_
  refine C.region [(false,0),(false,1)] rfl ?_
  refine L.boxD rfl rfl rfl rfl trivial (fun q1 E1 hE1 hB1 => ?_)
  refine L.alloc rfl Tf.z25 rfl rfl trivial (fun q2 => ?_)
  refine L.nil ?_
  refine C.next ?_
  refine C.seq ?_
  refine C.region [(false,0),(false,1),(false,2)] rfl ?_
  refine L.loadDW rfl Tf.a25 rfl hB1 (by first | simp | assumption) Tf.s25 List.not_mem_nil rfl trivial ?_
  refine L.alloc rfl Tf.z25 rfl rfl trivial (fun q3 => ?_)
  refine L.storeW rfl rfl rfl rfl Tf.s25 (by first | rfl | (simp only [ints_length, *]; done) | (simp only [ints_length, *]; rfl) | (simp only [ints_length, *]; omega)) (by first | rfl | (simp only [ints_length, *]; done) | (simp only [ints_length, *]; rfl) | (simp only [ints_length, *]; omega)) (Has.head) (cell1_yard hc.cell1 hq.cell1) trivial ?_
  refine L.nil ?_
  refine C.next ?_
  refine C.seq ?_
  refine C.region [(false,0),(false,1)] rfl ?_
  refine L.fieldAddr rfl Tf.f25_2 rfl rfl trivial ?_
  refine L.store rfl rfl rfl rfl Tf.s23 (Has.head) (by simp) rfl (by simp [cell1]) trivial ?_
  refine L.nil ?_
  refine C.next ?_
  refine C.seq ?_
  refine C.seq ?_
  refine C.region [(false,0)] rfl ?_
  refine L.assign rfl rfl rfl trivial ?_
  refine L.nil ?_
  refine C.next ?_
  refine C.block ?_
  refine C.loopR (γ := Nat × Value × Boxes) (fun g => y.claims.length - g.1) (fun g => g.1 ≤ y.claims.length ∧ Acc 67 2 g.2.1 (someK y.claims b g.1).length (prC (someK y.claims b g.1)) g.2.2) (fun g => [(6, .int .i64 (g.1 : Int))]) [(5, _), (4, _), (2, _), (1, _)] (fun g => (q3, .cells [cv, .int .i64 y.fit, g.2.1].toArray 25 (0, 0)) :: (q2, .cells [.slice none 0 0, .int .i64 0, .slice none 0 0].toArray 25 (0, 0)) :: (g.2.2 ++ [])) (fun g => [E1, D]) (0, .slice none 0 0, []) ⟨by simp, Acc.nil⟩ ⟨(by first | rfl | (show some (Value.int _ _) = some (Value.int _ _); congr 2; omega)), trivial⟩ ⟨rfl, rfl, rfl, rfl, trivial⟩ (List.Sublist.refl _) (ds_same) ?_
  rintro ⟨k, v, ν⟩ ⟨h1, ha⟩
  simp only at h1 ha
  have hsr : b >>> k ≤ b := Nat.shiftRight_le _ _
  refine C.seq ?_
  refine C.seq ?_
  refine C.region [(false,0),(false,1),(false,2),(false,3),(false,4)] rfl ?_
  refine L.move rfl rfl rfl trivial ?_
  refine L.fieldAddr rfl Tf.f25_2 rfl rfl trivial ?_
  refine L.loadD1 rfl (k := 2) Tf.a23 rfl hB1 (by first | simp | assumption) rfl List.not_mem_nil rfl trivial ?_
  refine L.len rfl Try.underlying23 rfl hq rfl rfl trivial ?_
  refine L.lss rfl rfl rfl rfl trivial ?_
  refine L.nil ?_
  refine C.next ?_
  refine C.condD rfl (fun hc1 => ?_) (fun hc1 => ?_)
  · have hk : k < y.claims.length := by simp only at hc1; omega
    obtain ⟨x, hx⟩ : ∃ x, y.claims[k]? = some x := ⟨_, List.getElem?_eq_getElem hk⟩
    refine C.skip ?_
    refine C.next ?_
    refine C.seq ?_
    refine C.block ?_
    refine C.seq ?_
    refine C.region [(false,0),(false,1),(false,2),(false,3),(false,4),(false,5)] rfl ?_
    refine L.move rfl rfl rfl trivial ?_
    refine L.move rfl rfl rfl trivial ?_
    refine L.convI rfl Try.underlying3 Try.underlying88 rfl (by simp only [inK]; omega) rfl trivial ?_
    refine L.shrN rfl rfl rfl (by omega) rfl trivial ?_
    refine L.rem rfl rfl rfl (Int.natCast_nonneg _) (by omega) (by simp only [inK]; omega) rfl trivial ?_
    refine L.eql rfl rfl rfl rfl trivial ?_
    refine L.nil ?_
    refine C.next ?_
    refine C.condD rfl (fun hc2 => ?_) (fun hc2 => ?_)
    · have hbit : b.testBit k = true := bit_one hc2
      refine C.draw [] 5 [0,1,2,3,4,5,6,7,8,9,10] [false,false,true,true,true,true,true,true,false,false,false] [(false,0),(false,1),(true,2),(true,3),(true,4),(true,5),(true,6),(true,7),(false,8),(false,9),(false,10)] Tf.follows (fun _ _ _ h => np_body (P := Try.prog) (fn := Try.f62) _ _ _ h) (by kernel_rfl) rfl ?_
      refine L.fieldAddr rfl Tf.f25_2 rfl rfl trivial ?_
      refine L.loadB1 rfl Tf.a23 rfl (List.Mem.head _) rfl List.not_mem_nil rfl trivial ?_
      refine L.fieldAddr rfl Tf.f25_2 rfl rfl trivial ?_
      refine L.loadD1 rfl (k := 2) Tf.a23 rfl hB1 (by first | simp | assumption) rfl List.not_mem_nil rfl trivial ?_
      refine L.move rfl rfl rfl trivial ?_
      refine L.indexS rfl Try.underlying23 Tf.s67 rfl hq rfl (by omega) hx rfl trivial (fun b1 o1 cs1 hr1 hcl1 hA1 => ?_)
      obtain rfl : cs1 = [.int .i64 _, .int .i64 _] := hr1
      refine L.loadDW rfl Tf.a67 rfl hA1 (by first | simp | assumption) Tf.s67 List.not_mem_nil rfl trivial ?_
      refine L.buildSlice rfl Try.underlying23 Tf.s67 Tf.z67 rfl rfl rfl rfl (.cons rfl rfl .nil) rfl trivial (fun b901 D901 hD901 hA901 => ?_)
      refine L.append (A := [(_, _), (_, _)]) (B := []) rfl Try.underlying23 rfl rfl Tf.s67 Tf.z67 rfl Tf.i67 rfl rfl rfl ha (Src.lit hA901) (by simp) rfl (prC_lenn _ _ rfl) (by simp [cell1]) (by have := someK_len y.claims b k; omega) (Or.inl rfl) rfl trivial (fun v7 ν7 ha7 => ?_)
      have hn7 : Acc 67 2 v7 (someK y.claims b (k + 1)).length (prC (someK y.claims b (k + 1))) ν7 := by rw [someK_yes hx hbit, prC_snoc]; simpa using ha7
      refine L.fieldAddr rfl Tf.f25_2 rfl rfl trivial ?_
      refine L.store rfl rfl rfl ha7.cells1 Tf.s23 (Has.head) (by simp) rfl ha7.cell1 trivial ?_
      refine L.nil ?_
      refine C.blockEnd ?_
      refine C.next ?_
      refine C.region [(false,0),(false,1),(false,2)] rfl ?_
      refine L.move rfl rfl rfl trivial ?_
      refine L.add rfl rfl rfl (by simp only [inK]; omega) rfl trivial ?_
      refine L.assign rfl rfl rfl trivial ?_
      refine L.nil ?_
      exact C.againR 25 (k + 1, v7, ν7) ⟨by simp only; omega, hn7⟩ (by simp only; omega) ⟨(by first | rfl | (show some (Value.int _ _) = some (Value.int _ _); congr 2; omega)), trivial⟩ rfl rfl (List.Sublist.refl _) (fun D h => ⟨D, List.Mem.tail _ (h), Le.refl D⟩)
    · have hbit : b.testBit k = false := bit_zero hc2
      refine C.skip ?_
      refine C.blockEnd ?_
      refine C.next ?_
      refine C.region [(false,0),(false,1),(false,2)] rfl ?_
      refine L.move rfl rfl rfl trivial ?_
      refine L.add rfl rfl rfl (by simp only [inK]; omega) rfl trivial ?_
      refine L.assign rfl rfl rfl trivial ?_
      refine L.nil ?_
      exact C.againR 15 (k + 1, v, ν) ⟨by simp only; omega, by simp only; rw [someK_no hbit]; exact ha⟩ (by simp only; omega) ⟨(by first | rfl | (show some (Value.int _ _) = some (Value.int _ _); congr 2; omega)), trivial⟩ rfl rfl (List.Sublist.refl _) (ds_same)
  · obtain rfl : k = y.claims.length := by simp only at hc1; omega
    refine C.exit ?_
    refine C.thenExit ?_
    refine C.thenExit ?_
    refine C.blockExit ?_
    refine C.next ?_
    refine C.seq ?_
    refine C.region [(false,0),(false,1)] rfl ?_
    refine L.loadBW rfl Tf.a25 rfl (List.Mem.head _) Tf.s25 List.not_mem_nil rfl trivial ?_
    refine L.storeW rfl rfl rfl rfl Tf.s25 (by first | rfl | (simp only [ints_length, *]; done) | (simp only [ints_length, *]; rfl) | (simp only [ints_length, *]; omega)) (by first | rfl | (simp only [ints_length, *]; done) | (simp only [ints_length, *]; rfl) | (simp only [ints_length, *]; omega)) (.tail (Has.head)) (cell1_yard hc.cell1 ha.cell1) trivial ?_
    refine L.nil ?_
    refine C.next ?_
    refine C.ret ?_
    refine Q.freeze (A := [(_, _), (_, _)]) (B := []) ha rfl (fun D2 hD2 hF => ?_)
    exact leave (vs := [_]) rfl rfl rfl ⟨⟨_, _, _, rfl, (List.Mem.tail _ (List.Mem.head _)), Or.inr ⟨Tf.a25, Tf.s25, rfl⟩⟩, trivial⟩ (fun D' hD => ⟨_, _, rfl, hc.up RCh.up (hD _ (by simp)), (hF.prs rfl (by have := someK_len y.claims b y.claims.length; omega)).up R2.up (hD _ (by simp))⟩)
end Go.Fs
