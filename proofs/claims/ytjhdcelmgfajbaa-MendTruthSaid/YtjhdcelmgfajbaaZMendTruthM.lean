/- Of the proof of MendTruth: W22, W23, W24, W25, W26, W30, W36, W37, W27, W28, W38, W33, W39, W31, W32. -/
import Derived.Test.YtjhdcelmgfajbaaZMendTruthL
import Derived.Test.YtjhdcelmgfajbaaZMendTruthI
import Derived.Test.YtjhdcelmgfajbaaZMendTruthC
namespace Go.Fs
open Go.Proofs
open C7
theorem ip_bit (s x z : Nat) : (((s &&& (2 ^ x ||| 2 ^ z) : Nat) : Int) ≠ 0) ↔ (((s >>> x ||| s >>> z : Nat) : Int) % 2 = 1) := by
  constructor
  · intro h
    cases e : decide ((((s >>> x) ||| (s >>> z) : Nat) : Int) % 2 = 1) with
    | true => exact of_decide_eq_true e
    | false =>
      obtain ⟨h1, h2⟩ := prS_bits e
      refine absurd ?_ h
      have : s &&& (2 ^ x ||| 2 ^ z) = 0 := Nat.eq_of_testBit_eq fun i => by
        rw [Nat.testBit_and, Nat.testBit_or, Nat.testBit_two_pow, Nat.testBit_two_pow, Nat.zero_testBit]
        by_cases hx : x = i
        · subst hx; rw [h1]; rfl
        · by_cases hz : z = i
          · subst hz; rw [h2]; rfl
          · simp [hx, hz]
      rw [this]; rfl
  · intro h e
    have e0 : s &&& (2 ^ x ||| 2 ^ z) = 0 := by omega
    have b : ∀ i, i = x ∨ i = z → s.testBit i = false := fun i hi => by
      have := congrArg (fun n => Nat.testBit n i) e0
      simp only [Nat.testBit_and, Nat.testBit_or, Nat.testBit_two_pow, Nat.zero_testBit] at this
      rcases hi with rfl | rfl <;> simpa using this
    have key : ((s >>> x) ||| (s >>> z)).testBit 0 = false := by
      rw [Nat.testBit_or, Nat.testBit_shiftRight, Nat.testBit_shiftRight, Nat.add_zero, Nat.add_zero, b x (Or.inl rfl), b z (Or.inr rfl)]; rfl
    rw [Nat.testBit_zero, decide_eq_false_iff_not] at key
    omega
theorem ip_go {n s x z : Nat} (hn : n ≤ 7) (hs : s < 128) (h2 : (!inB (x : Int) 0 ((n : Int) - 1) || !inB (z : Int) ((x : Int) + 1) ((n : Int) - 1)) = false) (h3 : ¬ ((s &&& (2 ^ x ||| 2 ^ z) : Nat) : Int) ≠ 0) : prS n (some s) ((x : Int), (z : Int)) = some (s ||| (2 ^ x ||| 2 ^ z)) ∧ s ||| (2 ^ x ||| 2 ^ z) < 128 := by
  rw [ip_bit] at h3
  obtain ⟨x', z', e1, e2, _, _, h4, h5⟩ := prS_yes (n := n) (a := (x : Int)) (b := (z : Int)) hn hs (by rw [h2, Bool.false_or, decide_eq_false_iff_not, Int.toNat_natCast, Int.toNat_natCast]; exact h3)
  obtain rfl : x = x' := by omega
  obtain rfl : z = z' := by omega
  exact ⟨h4, h5⟩
theorem ip_no {n s x z : Nat} (h3 : ((s &&& (2 ^ x ||| 2 ^ z) : Nat) : Int) ≠ 0) : ((!inB (x : Int) 0 ((n : Int) - 1) || !inB (z : Int) ((x : Int) + 1) ((n : Int) - 1)) || decide ((((s >>> (x : Int).toNat) ||| (s >>> (z : Int).toNat) : Nat) : Int) % 2 = 1)) = true := by
  rw [Bool.or_eq_true]; right
  rw [decide_eq_true_eq, Int.toNat_natCast, Int.toNat_natCast]; exact (ip_bit s x z).1 h3
theorem back_ok (lv : Value) (l : List (Int × Int)) (D : Data) (ht : Sl D R2 2 lv l) (hl : l.length ≤ 9) : Fn Try.prog 31 #[lv] D (fun D' v => Sl D' R2 2 v l) := by
  have hll := hl
  refine enter 30 Try.func31 rfl rfl rfl rfl fun h0 => ?_
  refine C.seq ?_
  refine C.region [(false,0)] rfl ?_
  refine L.assign rfl rfl rfl trivial ?_
  refine L.nil ?_
  refine C.next ?_
  refine C.seq ?_
  refine C.region [(false,0)] rfl ?_
  refine L.assign rfl rfl rfl trivial ?_
  refine L.nil ?_
  refine C.next ?_
  refine C.seq ?_
  refine C.seq ?_
  refine C.region [(false,0)] rfl ?_
  refine L.assign rfl rfl rfl trivial ?_
  refine L.nil ?_
  refine C.next ?_
  refine C.block ?_
  refine C.loopR (γ := Nat × Value × Boxes) (fun g => l.length - g.1) (fun g => g.1 ≤ l.length ∧ Acc 130 2 g.2.1 g.1 (prC (l.take g.1)) g.2.2) (fun g => [(4, .int .i64 (g.1 : Int)), (3, g.2.1)]) [(2, _), (0, _)] (fun g => g.2.2 ++ []) (fun g => [D]) (0, .slice none 0 0, []) ⟨by simp, by simpa [prC] using Acc.nil⟩ ⟨(by first | rfl | (show some (Value.int _ _) = some (Value.int _ _); congr 2; omega)), (by first | rfl | (show some (Value.int _ _) = some (Value.int _ _); congr 2; omega)), trivial⟩ ⟨rfl, rfl, trivial⟩ (List.Sublist.refl _) (ds_same) ?_
  rintro ⟨k, v, ν⟩ ⟨hk1, ha⟩
  simp only at hk1 ha
  refine C.seq ?_
  refine C.seq ?_
  refine C.region [(false,0),(false,1),(false,2),(false,3),(false,4),(false,5),(false,6),(false,7)] rfl ?_
  refine L.move rfl rfl rfl trivial ?_
  refine L.move rfl rfl rfl trivial ?_
  refine L.len rfl Try.underlying30 rfl ht rfl rfl trivial ?_
  refine L.lss rfl rfl rfl rfl trivial ?_
  refine L.move rfl rfl rfl trivial ?_
  refine' L.and [(false,5),(false,6),(false,7)] [] (s := 9) (p := 12) rfl rfl (fun hg1 => ?_) (fun hg1 => ?_) ?_
  rotate_left
  · refine L.move rfl rfl rfl ⟨_, rfl, rfl⟩ ?_
    refine L.lss rfl rfl rfl rfl ⟨_, rfl, rfl⟩ ?_
    refine L.pickT rfl rfl rfl rfl trivial ?_
    exact L.nil fun a w hh => hh.cutK 2 rfl
  · refine L.pass rfl rfl rfl ⟨_, _, rfl, rfl, rfl⟩ ?_
    refine L.pass rfl rfl rfl ⟨_, _, rfl, rfl, rfl⟩ ?_
    refine L.pickF rfl rfl rfl rfl trivial ?_
    exact L.nil fun a w hh => hh.cutK 2 rfl
  refine L.nil ?_
  refine C.next ?_
  refine C.cond rfl (fun hc1 => ?_) (fun hc1 => ?_)
  · have hk : k < l.length := by simp only [Bool.and_eq_true, decide_eq_true_eq] at hc1; omega
    obtain ⟨x, hx⟩ : ∃ x, l[k]? = some x := ⟨_, List.getElem?_eq_getElem hk⟩
    refine C.skip ?_
    refine C.next ?_
    refine C.seq ?_
    refine C.block ?_
    refine C.draw [] 6 [0,1,2,3,4,5,6,7,8,9,10,11,12,13,14] [false,true,true,true,true,true,true,true,true,true,true,true,true,false,false] [(false,0),(true,1),(true,2),(true,3),(true,4),(true,5),(true,6),(true,7),(true,8),(true,9),(true,10),(true,11),(true,12),(false,13),(false,14)] Tf.follows (fun _ _ _ h => np_body (P := Try.prog) (fn := Try.f31) _ _ _ h) (by kernel_rfl) rfl ?_
    refine L.move rfl rfl rfl trivial ?_
    refine L.move rfl rfl rfl trivial ?_
    refine L.move rfl rfl rfl trivial ?_
    refine L.indexS rfl Try.underlying30 Tf.s111 rfl ht rfl (by omega) hx rfl trivial (fun b1 o1 cs1 hr1 hcl1 hA1 => ?_)
    obtain rfl : cs1 = [.int .i64 _, .int .i64 _] := hr1
    refine L.fieldAddr rfl Tf.f111_0 rfl rfl trivial ?_
    refine L.loadD1 rfl (k := 0) Tf.a3 rfl hA1 (by first | simp | assumption) rfl List.not_mem_nil rfl trivial ?_
    refine L.move rfl rfl rfl trivial ?_
    refine L.move rfl rfl rfl trivial ?_
    refine L.indexS rfl Try.underlying30 Tf.s111 rfl ht rfl (by omega) hx rfl trivial (fun b2 o2 cs2 hr2 hcl2 hA2 => ?_)
    obtain rfl : cs2 = [.int .i64 _, .int .i64 _] := hr2
    refine L.fieldAddr rfl Tf.f111_1 rfl rfl trivial ?_
    refine L.loadD1 rfl (k := 1) Tf.a3 rfl hA2 (by first | simp | assumption) rfl List.not_mem_nil rfl trivial ?_
    refine L.build (cs := [.int .i64 x.1, .int .i64 x.2]) rfl Tf.p130 Tf.z130 rfl rfl rfl trivial ?_
    refine L.buildSlice rfl Try.underlying27 Tf.s130 Tf.z130 rfl rfl rfl rfl (.cons rfl rfl .nil) rfl trivial (fun b901 D901 hD901 hA901 => ?_)
    refine L.append (A := []) (B := []) rfl Try.underlying27 rfl rfl Tf.s130 Tf.z130 rfl Tf.i130 rfl rfl rfl ha (Src.lit hA901) (by simp) rfl (prC_lenn _ _ (by simp; omega)) (by simp [cell1]) (by omega) (Or.inl rfl) rfl trivial (fun v7 ν7 ha7 => ?_)
    have hn7 : Acc 130 2 v7 (k + 1) (prC (l.take (k + 1))) ν7 := by rw [List.take_add_one, hx, Option.toList_some, prC_snoc]; simpa using ha7
    refine L.assign rfl rfl rfl trivial ?_
    refine L.nil ?_
    refine C.blockEnd ?_
    refine C.next ?_
    refine C.region [(false,0),(false,1),(false,2)] rfl ?_
    refine L.move rfl rfl rfl trivial ?_
    refine L.add rfl rfl rfl (by simp only [inK]; omega) rfl trivial ?_
    refine L.assign rfl rfl rfl trivial ?_
    refine L.nil ?_
    exact C.againR 26 (k + 1, v7, ν7) ⟨by simp only; omega, hn7⟩ (by simp only; omega) ⟨(by first | rfl | (show some (Value.int _ _) = some (Value.int _ _); congr 2; omega)), (by first | rfl | (show some (Value.int _ _) = some (Value.int _ _); congr 2; omega)), trivial⟩ rfl rfl (List.Sublist.refl _) (fun D h => ⟨D, List.Mem.tail _ (h), Le.refl D⟩)
  · obtain rfl : k = l.length := by simp only [Bool.and_eq_false_iff, decide_eq_false_iff_not] at hc1; omega
    rw [List.take_length] at ha
    refine C.exit ?_
    refine C.thenExit ?_
    refine C.thenExit ?_
    refine C.blockExit ?_
    refine C.next ?_
    refine C.seq ?_
    refine C.region [(false,0),(false,1)] rfl ?_
    refine L.move rfl rfl rfl trivial ?_
    refine L.assign rfl rfl rfl trivial ?_
    refine L.nil ?_
    refine C.next ?_
    refine C.ret ?_
    refine Q.freeze (A := []) (B := []) ha rfl (fun D2 hD2 hF => ?_)
    exact leave (vs := [_]) rfl rfl rfl ⟨rfl, trivial⟩ (fun D' hD => (hF.prs rfl (by omega)).up R2.up (hD _ (by simp)))
theorem IsPairing_ok (yv lv : Value) (y : YardD) (l : List (Int × Int)) (D : Data) (hy : YardIs D yv y) (hl : Sl D R2 2 lv l) (hn7 : y.chairs.length ≤ 7) : Fn Try.prog 29 #[yv, lv] D (fun _ v => v = .bool (prB y.chairs.length l).isSome) := by
  obtain ⟨cv, qv, rfl, hc, hq⟩ := hy
  have hll := hl.len
  refine enter 56 Try.func29 rfl rfl rfl rfl fun h0 => ?_
  refine C.seq ?_
  refine C.region [(false,0),(false,1)] rfl ?_
  refine L.boxD rfl rfl rfl rfl trivial (fun q1 E1 hE1 hB1 => ?_)
  refine L.assign rfl rfl rfl trivial ?_
  refine L.nil ?_
  refine C.next ?_
  refine C.seq ?_
  refine C.region [(false,0)] rfl ?_
  refine L.assign rfl rfl rfl trivial ?_
  refine L.nil ?_
  refine C.next ?_
  refine C.seq ?_
  refine C.seq ?_
  refine C.region [(false,0)] rfl ?_
  refine L.assign rfl rfl rfl trivial ?_
  refine L.nil ?_
  refine C.next ?_
  refine C.block ?_
  refine C.loopC (γ := Nat × Nat) (fun g => l.length - g.1) (fun g => g.1 ≤ l.length ∧ g.2 < 128 ∧ prB y.chairs.length (l.take g.1) = some g.2) (fun g => [(6, .int .i64 (g.1 : Int)), (5, .int .i64 (g.2 : Int))]) [(4, _), (2, _), (1, _)] (fun g => [E1, D]) (0, 0) ⟨by simp, by simp, rfl⟩ ⟨(by first | rfl | (show some (Value.int _ _) = some (Value.int _ _); congr 2; omega)), (by first | rfl | (show some (Value.int _ _) = some (Value.int _ _); congr 2; omega)), trivial⟩ ⟨rfl, rfl, rfl, trivial⟩ (ds_same) ?_
  rintro ⟨k, sn⟩ ⟨h1, h2, h3⟩
  simp only at h1 h2 h3
  refine C.seq ?_
  refine C.seq ?_
  refine C.region [(false,0),(false,1),(false,2),(false,3)] rfl ?_
  refine L.move rfl rfl rfl trivial ?_
  refine L.move rfl rfl rfl trivial ?_
  refine L.len rfl Try.underlying27 rfl hl rfl rfl trivial ?_
  refine L.lss rfl rfl rfl rfl trivial ?_
  refine L.nil ?_
  refine C.next ?_
  refine C.condD rfl (fun hc1 => ?_) (fun hc1 => ?_)
  · have hk : k < l.length := by omega
    obtain ⟨⟨pa, pb⟩, hp0⟩ : ∃ p, l[k]? = some p := ⟨_, List.getElem?_eq_getElem hk⟩
    refine C.skip ?_
    refine C.next ?_
    refine C.seq ?_
    refine C.block ?_
    refine C.seq ?_
    refine C.region [(false,0),(false,1),(false,2),(false,3),(false,4),(false,5)] rfl ?_
    refine L.move rfl rfl rfl trivial ?_
    refine L.move rfl rfl rfl trivial ?_
    refine L.indexS rfl Try.underlying27 Tf.s130 rfl hl rfl (by omega) hp0 rfl trivial (fun b1 o1 cs1 hr1 hcl1 hA1 => ?_)
    obtain rfl : cs1 = [.int .i64 _, .int .i64 _] := hr1
    refine L.loadDW rfl Tf.a130 rfl hA1 (by first | simp | assumption) Tf.s130 List.not_mem_nil rfl trivial ?_
    refine L.alloc rfl Tf.z130 rfl rfl trivial (fun q2 => ?_)
    refine L.storeW rfl rfl rfl rfl Tf.s130 (by first | rfl | (simp only [ints_length, *]; done) | (simp only [ints_length, *]; rfl) | (simp only [ints_length, *]; omega)) (by first | rfl | (simp only [ints_length, *]; done) | (simp only [ints_length, *]; rfl) | (simp only [ints_length, *]; omega)) (Has.head) (by first | exact ints_cell1 _ | simp [cell1]) trivial ?_
    refine L.nil ?_
    refine C.next ?_
    refine C.seq ?_
    refine C.seq ?_
    refine C.region [(false,0),(false,1),(false,2),(false,3),(false,4),(false,5),(false,6),(false,7),(false,8),(false,9),(false,10),(false,11),(false,12),(false,13),(false,14),(false,15),(false,16),(false,17),(false,18),(false,19),(false,20)] rfl ?_
    refine L.fieldAddr rfl Tf.f130_0 rfl rfl trivial ?_
    refine L.loadB1 rfl Tf.a3 rfl (List.Mem.head _) rfl List.not_mem_nil rfl trivial ?_
    refine L.fieldAddr rfl Tf.f25_0 rfl rfl trivial ?_
    refine L.loadD1 rfl (k := 0) Tf.a22 rfl hB1 (by first | simp | assumption) rfl List.not_mem_nil rfl trivial ?_
    refine L.len rfl Try.underlying22 rfl hc rfl rfl trivial ?_
    refine L.sub rfl rfl rfl (by simp only [inK]; omega) rfl trivial ?_
    refine L.callV rfl rfl rfl (fun D1 hD1 => In_ok _ _ _ _) rfl trivial ?_
    refine L.not rfl rfl rfl trivial ?_
    refine L.move rfl rfl rfl trivial ?_
    refine' L.or [(false,9),(false,10),(false,11),(false,12),(false,13),(false,14),(false,15),(false,16),(false,17),(false,18),(false,19),(false,20)] [] (s := 27) (p := 39) rfl rfl (fun hg1 => ?_) (fun hg1 => ?_) ?_
    rotate_left
    · obtain ⟨ha4, hb4⟩ := prB_in1 hg1
      refine L.fieldAddr rfl Tf.f130_1 rfl rfl ⟨_, rfl, rfl⟩ ?_
      refine L.loadB1 rfl Tf.a3 rfl (List.Mem.head _) rfl List.not_mem_nil rfl ⟨_, rfl, rfl⟩ ?_
      refine L.fieldAddr rfl Tf.f130_0 rfl rfl ⟨_, rfl, rfl⟩ ?_
      refine L.loadB1 rfl Tf.a3 rfl (List.Mem.head _) rfl List.not_mem_nil rfl ⟨_, rfl, rfl⟩ ?_
      refine L.add rfl rfl rfl (by simp only [inK]; omega) rfl ⟨_, rfl, rfl⟩ ?_
      refine L.fieldAddr rfl Tf.f25_0 rfl rfl ⟨_, rfl, rfl⟩ ?_
      refine L.loadD1 rfl (k := 0) Tf.a22 rfl hB1 (by first | simp | assumption) rfl List.not_mem_nil rfl ⟨_, rfl, rfl⟩ ?_
      refine L.len rfl Try.underlying22 rfl hc rfl rfl ⟨_, rfl, rfl⟩ ?_
      refine L.sub rfl rfl rfl (by simp only [inK]; omega) rfl ⟨_, rfl, rfl⟩ ?_
      refine L.callV rfl rfl rfl (fun D2 hD2 => In_ok _ _ _ _) rfl ⟨_, rfl, rfl⟩ ?_
      refine L.not rfl rfl rfl ⟨_, rfl, rfl⟩ ?_
      refine L.pickF rfl rfl rfl rfl trivial ?_
      exact L.nil fun a w hh => hh.cutK 11 rfl
    · refine L.pass rfl rfl rfl ⟨_, _, rfl, rfl, rfl⟩ ?_
      refine L.pass rfl rfl rfl ⟨_, _, rfl, rfl, rfl⟩ ?_
      refine L.pass rfl rfl rfl ⟨_, _, rfl, rfl, rfl⟩ ?_
      refine L.pass rfl rfl rfl ⟨_, _, rfl, rfl, rfl⟩ ?_
      refine L.pass rfl rfl rfl ⟨_, _, rfl, rfl, rfl⟩ ?_
      refine L.pass rfl rfl rfl ⟨_, _, rfl, rfl, rfl⟩ ?_
      refine L.pass rfl rfl rfl ⟨_, _, rfl, rfl, rfl⟩ ?_
      refine L.pass rfl rfl rfl ⟨_, _, rfl, rfl, rfl⟩ ?_
      refine L.pass rfl rfl rfl ⟨_, _, rfl, rfl, rfl⟩ ?_
      refine L.pass rfl rfl rfl ⟨_, _, rfl, rfl, rfl⟩ ?_
      refine L.pass rfl rfl rfl ⟨_, _, rfl, rfl, rfl⟩ ?_
      refine L.pickT rfl rfl rfl rfl trivial ?_
      exact L.nil fun a w hh => hh.cutK 11 rfl
    refine L.nil ?_
    refine C.next ?_
    refine C.cond rfl (fun hc2 => ?_) (fun hc2 => ?_)
    · refine C.seq ?_
      refine C.region [(false,0)] rfl ?_
      refine L.assign rfl rfl rfl trivial ?_
      refine L.nil ?_
      refine C.next ?_
      refine C.ret ?_
      refine C.thenRet ?_
      refine C.blockRet ?_
      refine C.thenRet ?_
      refine C.thenRet ?_
      refine C.blockRet ?_
      refine C.thenRet ?_
      exact leave (vs := [_]) rfl rfl rfl ⟨rfl, trivial⟩ (fun D hD => by show Value.bool _ = _; rw [prB_no hp0 h3 hn7 h2 (by rw [hc2]; rfl)]; rfl)
    · obtain ⟨ha5, hb5, hc5, hd5⟩ := prB_in hc2
      obtain ⟨x, rfl⟩ := Int.eq_ofNat_of_zero_le ha5
      obtain ⟨z, rfl⟩ := Int.eq_ofNat_of_zero_le (show 0 ≤ pb by omega)
      have hx7 : x < 7 := by omega
      have hz7 : z < 7 := by omega
      have hxp := pow_lt7 hx7
      have hzp := pow_lt7 hz7
      have hxz := or_lt7 hxp hzp
      refine C.skip ?_
      refine C.next ?_
      refine C.seq ?_
      refine C.region [(false,0),(false,1),(false,2),(false,3),(false,4),(false,5),(false,6),(false,7),(false,8),(false,9)] rfl ?_
      refine L.fieldAddr rfl Tf.f130_0 rfl rfl trivial ?_
      refine L.loadB1 rfl Tf.a3 rfl (List.Mem.head _) rfl List.not_mem_nil rfl trivial ?_
      refine L.convI rfl Try.underlying3 Try.underlying88 rfl (by simp only [inK]; omega) rfl trivial ?_
      refine L.shl1U rfl rfl rfl (by omega) rfl trivial ?_
      refine L.fieldAddr rfl Tf.f130_1 rfl rfl trivial ?_
      refine L.loadB1 rfl Tf.a3 rfl (List.Mem.head _) rfl List.not_mem_nil rfl trivial ?_
      refine L.convI rfl Try.underlying3 Try.underlying88 rfl (by simp only [inK]; omega) rfl trivial ?_
      refine L.shl1U rfl rfl rfl (by omega) rfl trivial ?_
      refine L.orB rfl rfl rfl (by omega) (by omega) rfl trivial ?_
      refine L.assign rfl rfl rfl trivial ?_
      refine L.nil ?_
      refine C.next ?_
      refine C.seq ?_
      refine C.seq ?_
      refine C.region [(false,0),(false,1),(false,2),(false,3)] rfl ?_
      refine L.move rfl rfl rfl trivial ?_
      refine L.move rfl rfl rfl trivial ?_
      refine L.andN rfl rfl rfl (by omega) (by omega) rfl trivial ?_
      refine L.neq rfl rfl rfl rfl trivial ?_
      refine L.nil ?_
      refine C.next ?_
      refine C.condD rfl (fun hc3 => ?_) (fun hc3 => ?_)
      · refine C.seq ?_
        refine C.region [(false,0)] rfl ?_
        refine L.assign rfl rfl rfl trivial ?_
        refine L.nil ?_
        refine C.next ?_
        refine C.ret ?_
        refine C.thenRet ?_
        refine C.blockRet ?_
        refine C.thenRet ?_
        refine C.thenRet ?_
        refine C.blockRet ?_
        refine C.thenRet ?_
        exact leave (vs := [_]) rfl rfl rfl ⟨rfl, trivial⟩ (fun D hD => by show Value.bool _ = _; rw [prB_no hp0 h3 hn7 h2 (ip_no hc3)]; rfl)
      · obtain ⟨hst, hor⟩ := ip_go hn7 h2 hc2 hc3
        refine C.skip ?_
        refine C.next ?_
        refine C.region [(false,0),(false,1),(false,2),(false,3)] rfl ?_
        refine L.move rfl rfl rfl trivial ?_
        refine L.move rfl rfl rfl trivial ?_
        refine L.orB rfl rfl rfl (by omega) (by omega) rfl trivial ?_
        refine L.assign rfl rfl rfl trivial ?_
        refine L.nil ?_
        refine C.blockEnd ?_
        refine C.next ?_
        refine C.region [(false,0),(false,1),(false,2)] rfl ?_
        refine L.move rfl rfl rfl trivial ?_
        refine L.add rfl rfl rfl (by simp only [inK]; omega) rfl trivial ?_
        refine L.assign rfl rfl rfl trivial ?_
        refine L.nil ?_
        exact C.againR 42 (k + 1, sn ||| (2 ^ x ||| 2 ^ z)) ⟨by simp only; omega, hor, by simp only; rw [prB_snoc hp0, h3]; exact hst⟩ (by simp only; omega) ⟨(by first | rfl | (show some (Value.int _ _) = some (Value.int _ _); congr 2; omega)), (by first | rfl | (show some (Value.int _ _) = some (Value.int _ _); congr 2; omega)), trivial⟩ rfl rfl (List.Sublist.cons _ (List.Sublist.refl _)) (ds_same)
  · obtain rfl : k = l.length := by omega
    rw [List.take_length] at h3
    refine C.exit ?_
    refine C.thenExit ?_
    refine C.thenExit ?_
    refine C.blockExit ?_
    refine C.next ?_
    refine C.seq ?_
    refine C.region [(false,0)] rfl ?_
    refine L.assign rfl rfl rfl trivial ?_
    refine L.nil ?_
    refine C.next ?_
    refine C.ret ?_
    exact leave (vs := [_]) rfl rfl rfl ⟨rfl, trivial⟩ (fun D hD => by show Value.bool _ = _; rw [h3]; rfl)
end Go.Fs
namespace Go.Fs
open Go.Proofs
open C7
theorem prB_lt' {n : Nat} : ∀ (l : List (Int × Int)) (s : Nat), (l.foldl (prS n) (some s)).isSome = true → ∀ p ∈ l, 0 ≤ p.1 ∧ p.1 + 1 ≤ p.2 ∧ p.2 ≤ (n : Int) - 1
  | [], _, _ => by simp
  | (a, b) :: l, s, h => by
    rw [List.foldl_cons] at h
    have e : prS n (some s) (a, b) = if ((!inB a 0 ((n : Int) - 1) || !inB b (a + 1) ((n : Int) - 1)) || decide ((((s >>> a.toNat) ||| (s >>> b.toNat) : Nat) : Int) % 2 = 1)) = true then none else some (s ||| (2 ^ a.toNat ||| 2 ^ b.toNat)) := rfl
    rw [e] at h
    split at h
    · rw [prB_none] at h; cases h
    · rename_i hc
      intro p hp
      rcases List.mem_cons.1 hp with rfl | hp
      · rw [Bool.not_eq_true, Bool.or_eq_false_iff] at hc
        obtain ⟨h1, h2, h3, h4⟩ := prB_in hc.1
        exact ⟨h1, h3, h4⟩
      · exact prB_lt' l _ h p hp
theorem prB_lt {n m : Nat} {l : List (Int × Int)} (hm : m = n) (h : (prB n l).isSome = true) : ∀ p ∈ l, ∃ x z : Nat, p = ((x : Int), (z : Int)) ∧ x < m ∧ z < m := by
  intro p hp
  obtain ⟨h1, h2, h3⟩ := prB_lt' l 0 h p hp
  obtain ⟨a, b⟩ := p
  obtain ⟨x, rfl⟩ := Int.eq_ofNat_of_zero_le h1
  obtain ⟨z, rfl⟩ := Int.eq_ofNat_of_zero_le (show 0 ≤ b by simp only at *; omega)
  exact ⟨x, z, rfl, by simp only at *; omega, by simp only at *; omega⟩
/-- A pairing is read as one. -/
theorem prB_of {n : Nat} (hn7 : n ≤ 7) : ∀ (M : List (Nat × Nat)) (s : Nat), s < 128 → (∀ p ∈ M, p.1 < p.2 ∧ p.2 < n ∧ s.testBit p.1 = false ∧ s.testBit p.2 = false) → (ends M).Nodup → ((pI M).foldl (prS n) (some s)).isSome = true
  | [], _, _, _, _ => rfl
  | (a, b) :: M, s, hs, h, hnd => by
    obtain ⟨h1, h2, h3, h4⟩ := h (a, b) List.mem_cons_self
    simp only at h1 h2 h3 h4
    have hin : (!inB (a : Int) 0 ((n : Int) - 1) || !inB (b : Int) ((a : Int) + 1) ((n : Int) - 1)) = false := by
      rw [Bool.or_eq_false_iff, Bool.not_eq_false', Bool.not_eq_false', inB_iff, inB_iff]; omega
    have hz : ¬ ((s &&& (2 ^ a ||| 2 ^ b) : Nat) : Int) ≠ 0 := by
      rw [ip_bit]
      intro e
      have : ((s >>> a) ||| (s >>> b)).testBit 0 = false := by
        rw [Nat.testBit_or, Nat.testBit_shiftRight, Nat.testBit_shiftRight, Nat.add_zero, Nat.add_zero, h3, h4]; rfl
      rw [Nat.testBit_zero, decide_eq_false_iff_not] at this
      omega
    obtain ⟨g1, g2⟩ := ip_go hn7 hs hin hz
    unfold ends at hnd
    rw [List.flatMap_cons, List.nodup_append] at hnd
    obtain ⟨_, n2, n3⟩ := hnd
    show ((pI M).foldl (prS n) (prS n (some s) ((a : Int), (b : Int)))).isSome = true
    rw [g1]
    refine prB_of hn7 M _ g2 (fun p hp => ?_) n2
    obtain ⟨k1, k2, k3, k4⟩ := h p (List.mem_cons_of_mem _ hp)
    have out : ∀ x, x = p.1 ∨ x = p.2 → a ≠ x ∧ b ≠ x := fun x hx => by
      have hm : x ∈ List.flatMap (fun p : Nat × Nat => [p.1, p.2]) M := mem_ends.2 ⟨p, hp, hx⟩
      exact ⟨n3 a (by simp) x hm, n3 b (by simp) x hm⟩
    refine ⟨k1, k2, ?_, ?_⟩
    · rw [Nat.testBit_or, Nat.testBit_or, Nat.testBit_two_pow, Nat.testBit_two_pow, k3]; simp [out p.1 (Or.inl rfl)]
    · rw [Nat.testBit_or, Nat.testBit_or, Nat.testBit_two_pow, Nat.testBit_two_pow, k4]; simp [out p.2 (Or.inr rfl)]
theorem play_eq {y : YardD} {t : List Pt} (h : fault y = 0) (ht : isTruth y t = true) : playV y t = (((mostT y t : Nat) : Int), 0) := by unfold playV; rw [if_neg (by omega), if_pos ht]
theorem makesN_R {y : YardD} {t : List Pt} (h7 : t.length ≤ 7) (l : List (Int × Int)) : makesN (sceneD y t) l = makesR y t l := by
  unfold makesN makesR; rw [fB_fits h7]; rfl
theorem pairs_facts {y : YardD} {t : List Pt} (h : fault y = 0) (ht : isTruth y t = true) : (playV y t).2 = 0 ∧ (pairsV y t).length ≤ 3 ∧ (prB y.chairs.length (pairsV y t)).isSome = true ∧ makesR y t (pairsV y t) = mostT y t := by
  have hn := (yOk h).len
  obtain ⟨hl, _⟩ := truthOk ht
  have e := play_eq h ht
  have hb := (scene_ok' hl (by omega)).bits
  obtain ⟨hM, hlen, hlt⟩ := pairB_ok (F := (sceneD y t).fits) (n := y.chairs.length) _ (sceneD y t).broken (Nat.le_refl _) hb
  have ep : pairsV y t = pI (pairB (sceneD y t).fits y.chairs.length (sceneD y t).broken) := by unfold pairsV; rw [e, if_pos rfl]
  have hsome : (prB y.chairs.length (pairsV y t)).isSome = true := by
    rw [ep]
    exact prB_of hn _ 0 (by omega) (fun p hp => ⟨hlt p hp, hb _ (hM.fit p hp).2.1, Nat.zero_testBit _, Nat.zero_testBit _⟩) hM.nd
  refine ⟨by rw [e], (prB_ok hn hsome).2, hsome, ?_⟩
  rw [ep, makesR_pI]
  have : fitN (fitB y t) (pairB (sceneD y t).fits y.chairs.length (sceneD y t).broken) = (pairB (sceneD y t).fits y.chairs.length (sceneD y t).broken).length := by
    unfold fitN
    rw [List.filter_eq_self.2 fun p hp => by have := (hM.fit p hp).2.2; rwa [fB_fits (by omega)] at this]
  rw [this, hlen]; rfl
theorem pp_eq {y : YardD} {t : List Pt} {l : List (Int × Int)} {many : Int} (h : fault y = 0) (ht : isTruth y t = true) : provePairsV y t l many = ((prB y.chairs.length l).isSome && decide ((makesR y t l : Int) ≥ many)) := by
  have hn := (yOk h).len
  obtain ⟨hl, _⟩ := truthOk ht
  unfold provePairsV
  rw [play_eq h ht, if_pos rfl, makesN_R (by omega)]
end Go.Fs
namespace Go.Fs
open Go.Proofs
open C7
def setK (st : List Int × Nat) (j : Nat) : List Int × Nat := if st.1[j]? = some 2 then (st.1.set j ((st.2 : Int) % 2), st.2 / 2) else st
def nthK (l : List Int) (m k : Nat) : List Int × Nat := (List.range k).foldl setK (l, m)
theorem nthK_succ (l : List Int) (m k : Nat) : nthK l m (k + 1) = setK (nthK l m k) k := by unfold nthK; rw [List.range_succ, List.foldl_append]; rfl
theorem nthK_yes {l : List Int} {m k : Nat} (h : (nthK l m k).1[k]? = some 2) : nthK l m (k + 1) = ((nthK l m k).1.set k (((nthK l m k).2 : Int) % 2), (nthK l m k).2 / 2) := by rw [nthK_succ, setK, if_pos h]
theorem nthK_no {l : List Int} {m k : Nat} (h : (nthK l m k).1[k]? ≠ some 2) : nthK l m (k + 1) = nthK l m k := by rw [nthK_succ, setK, if_neg h]
theorem nthK_len (l : List Int) (m : Nat) : ∀ k, (nthK l m k).1.length = l.length
  | 0 => rfl
  | k + 1 => by rw [nthK_succ, setK]; split <;> simp [nthK_len l m k]
theorem nthK_le (l : List Int) (m : Nat) : ∀ k, (nthK l m k).2 ≤ m
  | 0 => Nat.le_refl _
  | k + 1 => by
    have := nthK_le l m k
    rw [nthK_succ, setK]; split
    · simp only; omega
    · exact this
/-- A part of the truth with a number, and what is left of the number. -/
def p1 (x : Int) (m : Nat) : Int × Nat := if x = 2 then ((m : Int) % 2, m / 2) else (x, m)
def p3 (p : Pt) (m : Nat) : Pt × Nat := (⟨(p1 p.a m).1, (p1 p.b (p1 p.a m).2).1, (p1 p.c (p1 p.b (p1 p.a m).2).2).1⟩, (p1 p.c (p1 p.b (p1 p.a m).2).2).2)
theorem nthK_3 (p : Pt) (m : Nat) : nthK p.l m 3 = ((p3 p m).1.l, (p3 p m).2) := by
  rw [nthK_succ, nthK_succ, nthK_succ]
  show setK (setK (setK (p.l, m) 0) 1) 2 = _
  unfold setK p3 p1 Pt.l
  by_cases ha : p.a = 2 <;> by_cases hb : p.b = 2 <;> by_cases hc : p.c = 2 <;> simp [ha, hb, hc]
theorem p1_le (x : Int) (m : Nat) : (p1 x m).2 ≤ m := by unfold p1; split <;> (simp only; omega)
theorem p3_le (p : Pt) (m : Nat) : (p3 p m).2 ≤ m := Nat.le_trans (p1_le _ _) (Nat.le_trans (p1_le _ _) (p1_le _ _))
def nthS (st : List Pt × Nat) (c : Ch) : List Pt × Nat := (st.1 ++ [(p3 c.parts st.2).1], (p3 c.parts st.2).2)
/-- The truth with a number. -/
def nthC (l : List Ch) (n : Nat) : List Pt × Nat := l.foldl nthS ([], n)
theorem nthC_snoc {l : List Ch} {n i : Nat} {x : Ch} (h : l[i]? = some x) : nthC (l.take (i + 1)) n = ((nthC (l.take i) n).1 ++ [(p3 x.parts (nthC (l.take i) n).2).1], (p3 x.parts (nthC (l.take i) n).2).2) := by
  unfold nthC; rw [List.take_add_one, h, Option.toList_some, List.foldl_append]; rfl
theorem nthS_len : ∀ (l : List Ch) (st : List Pt × Nat), (l.foldl nthS st).1.length = st.1.length + l.length
  | [], st => by simp
  | c :: l, st => by rw [List.foldl_cons, nthS_len l]; simp [nthS]; omega
theorem nthC_len (l : List Ch) (n : Nat) : (nthC l n).1.length = l.length := by unfold nthC; rw [nthS_len]; simp
theorem nthS_le : ∀ (l : List Ch) (st : List Pt × Nat), (l.foldl nthS st).2 ≤ st.2
  | [], st => Nat.le_refl _
  | c :: l, st => by rw [List.foldl_cons]; exact Nat.le_trans (nthS_le l _) (p3_le _ _)
theorem nthC_le (l : List Ch) (n : Nat) : (nthC l n).2 ≤ n := nthS_le l _
theorem Nth_ok (yv : Value) (y : YardD) (n : Nat) (D : Data) (hy : YardIs D yv y) (hc7 : y.chairs.length ≤ 1000) (hn : n ≤ 1000000) : Fn Try.prog 54 #[yv, .int .i64 (n : Int)] D (fun D' v => Sl D' RP 3 v (nthC y.chairs n).1) := by
  obtain ⟨cv, qv, rfl, hc, hq⟩ := hy
  have hcl := hc.len
  refine enter 41 Try.func54 rfl rfl rfl rfl fun h0 => ?_
  refine C.seq ?_
  refine C.region [(false,0),(false,1)] rfl ?_
  refine L.boxD rfl rfl rfl rfl trivial (fun q1 E1 hE1 hB1 => ?_)
  refine L.assign rfl rfl rfl trivial ?_
  refine L.nil ?_
  refine C.next ?_
  refine C.seq ?_
  refine C.region [(false,0)] rfl ?_
  refine L.assign rfl rfl rfl trivial ?_
  refine L.nil ?_
  refine C.next ?_
  refine C.seq ?_
  refine C.seq ?_
  refine C.region [(false,0)] rfl ?_
  refine L.assign rfl rfl rfl trivial ?_
  refine L.nil ?_
  refine C.next ?_
  refine C.block ?_
  refine C.loopR (γ := Nat × Value × Boxes × Nat) (fun g => y.chairs.length - g.1) (fun g => g.1 ≤ y.chairs.length ∧ Acc 91 3 g.2.1 g.1 (ptC (nthC (y.chairs.take g.1) n).1) g.2.2.1 ∧ g.2.2.2 = (nthC (y.chairs.take g.1) n).2) (fun g => [(1, .int .i64 (g.2.2.2 : Int)), (5, g.2.1), (6, .int .i64 (g.1 : Int))]) [(4, _), (2, _)] (fun g => g.2.2.1 ++ []) (fun g => [E1, D]) (0, .slice none 0 0, [], n) ⟨by simp, by simpa [ptC, nthC] using Acc.nil, rfl⟩ ⟨(by first | rfl | (show some (Value.int _ _) = some (Value.int _ _); congr 2; omega)), (by first | rfl | (show some (Value.int _ _) = some (Value.int _ _); congr 2; omega)), (by first | rfl | (show some (Value.int _ _) = some (Value.int _ _); congr 2; omega)), trivial⟩ ⟨rfl, rfl, trivial⟩ (List.Sublist.refl _) (ds_same) ?_
  rintro ⟨i, v, ν, m⟩ ⟨h1, ha, hm⟩
  simp only at h1 ha hm
  refine C.seq ?_
  refine C.seq ?_
  refine C.region [(false,0),(false,1),(false,2),(false,3),(false,4)] rfl ?_
  refine L.move rfl rfl rfl trivial ?_
  refine L.fieldAddr rfl Tf.f25_0 rfl rfl trivial ?_
  refine L.loadD1 rfl (k := 0) Tf.a22 rfl hB1 (by first | simp | assumption) rfl List.not_mem_nil rfl trivial ?_
  refine L.len rfl Try.underlying22 rfl hc rfl rfl trivial ?_
  refine L.lss rfl rfl rfl rfl trivial ?_
  refine L.nil ?_
  refine C.next ?_
  refine C.condD rfl (fun hc1 => ?_) (fun hc1 => ?_)
  · have hi : i < y.chairs.length := by omega
    obtain ⟨x, hx⟩ : ∃ x, y.chairs[i]? = some x := ⟨_, List.getElem?_eq_getElem hi⟩
    have hmn := nthC_le (y.chairs.take i) n
    rw [← hm] at hmn
    refine C.skip ?_
    refine C.next ?_
    refine C.seq ?_
    refine C.block ?_
    refine C.seq ?_
    refine C.region [(false,0),(false,1),(false,2),(false,3),(false,4),(false,5),(false,6),(false,7)] rfl ?_
    refine L.fieldAddr rfl Tf.f25_0 rfl rfl trivial ?_
    refine L.loadD1 rfl (k := 0) Tf.a22 rfl hB1 (by first | simp | assumption) rfl List.not_mem_nil rfl trivial ?_
    refine L.move rfl rfl rfl trivial ?_
    refine L.indexS rfl Try.underlying22 Tf.s94 rfl hc rfl (by omega) hx rfl trivial (fun b1 o1 cs1 hr1 hcl1 hA1 => ?_)
    obtain rfl : cs1 = [.int .i64 _, .int .i64 _, .int .i64 _, .int .i64 _] := hr1
    refine L.fieldAddr rfl Tf.f94_1 rfl rfl trivial ?_
    refine L.loadDP rfl (k := 1) Tf.a91 Tf.s91 rfl hA1 (by first | simp | assumption) rfl rfl List.not_mem_nil rfl trivial ?_
    refine L.alloc rfl Tf.z91 rfl rfl trivial (fun q2 => ?_)
    refine L.storeW rfl rfl rfl rfl Tf.s91 (by first | rfl | (simp only [ints_length, *]; done) | (simp only [ints_length, *]; rfl) | (simp only [ints_length, *]; omega)) (by first | rfl | (simp only [ints_length, *]; done) | (simp only [ints_length, *]; rfl) | (simp only [ints_length, *]; omega)) (Has.head) (by first | exact ints_cell1 _ | simp [cell1]) trivial ?_
    refine L.nil ?_
    refine C.next ?_
    refine C.seq ?_
    refine C.seq ?_
    refine C.region [(false,0)] rfl ?_
    refine L.assign rfl rfl rfl trivial ?_
    refine L.nil ?_
    refine C.next ?_
    refine C.block ?_
    refine C.loopR (γ := Nat) (fun k => 3 - k) (fun k => k ≤ 3) (fun k => [(1, .int .i64 ((nthK x.parts.l m k).2 : Int)), (8, .int .i64 (k : Int))]) [(7, _), (21, _), (20, _), (19, _), (18, _), (17, _), (16, _), (13, _), (12, _), (11, _), (10, _), (9, _), (5, _), (6, _), (4, _), (2, _)] (fun k => (q2, .cells (ints (nthK x.parts.l m k).1).toArray 91 (0, 0)) :: (ν ++ [])) (fun k => [E1, D]) 0 (by omega) ⟨(by first | rfl | (show some (Value.int _ _) = some (Value.int _ _); congr 2; omega)), (by first | rfl | (show some (Value.int _ _) = some (Value.int _ _); congr 2; omega)), trivial⟩ ⟨rfl, rfl, rfl, rfl, rfl, rfl, rfl, rfl, rfl, rfl, rfl, rfl, rfl, rfl, rfl, rfl, trivial⟩ (List.Sublist.refl _) (ds_same) ?_
    rintro k h2
    refine C.seq ?_
    refine C.seq ?_
    refine C.region [(false,0),(false,1)] rfl ?_
    refine L.move rfl rfl rfl trivial ?_
    refine L.lss rfl rfl rfl rfl trivial ?_
    refine L.nil ?_
    refine C.next ?_
    refine C.condD rfl (fun hc2 => ?_) (fun hc2 => ?_)
    · have hk : k < 3 := by omega
      have hkl := nthK_len x.parts.l m k
      have hkm := nthK_le x.parts.l m k
      have hl3 : x.parts.l.length = 3 := rfl
      obtain ⟨w, hw⟩ : ∃ w, (nthK x.parts.l m k).1[k]? = some w := ⟨_, List.getElem?_eq_getElem (by omega)⟩
      refine C.skip ?_
      refine C.next ?_
      refine C.seq ?_
      refine C.block ?_
      refine C.seq ?_
      refine C.region [(false,0),(false,1),(false,2),(false,3)] rfl ?_
      refine L.move rfl rfl rfl trivial ?_
      refine L.indexB rfl Try.underlying91 Tf.s3 rfl rfl (by omega) (by omega) rfl trivial ?_
      refine L.loadB1 rfl Tf.a3 rfl (List.Mem.head _) (ints_get hw) List.not_mem_nil rfl trivial ?_
      refine L.eql rfl rfl rfl rfl trivial ?_
      refine L.nil ?_
      refine C.next ?_
      refine C.condD rfl (fun hc3 => ?_) (fun hc3 => ?_)
      · have hw2 : w = 2 := hc3
        refine C.seq ?_
        refine C.region [(false,0),(false,1),(false,2),(false,3),(false,4)] rfl ?_
        refine L.move rfl rfl rfl trivial ?_
        refine L.move rfl rfl rfl trivial ?_
        refine L.rem rfl rfl rfl (by omega) (by omega) (by simp only [inK]; omega) rfl trivial ?_
        refine L.indexB rfl Try.underlying91 Tf.s3 rfl rfl (by omega) (by omega) rfl trivial ?_
        refine L.storeI rfl Tf.s3 rfl rfl (Has.head) (by rw [Int.toNat_natCast, hkl]; exact hk) trivial ?_
        refine L.nil ?_
        refine C.next ?_
        refine C.region [(false,0),(false,1),(false,2)] rfl ?_
        refine L.move rfl rfl rfl trivial ?_
        refine L.quo rfl rfl rfl (by omega) (by omega) (by simp only [inK]; omega) rfl trivial ?_
        refine L.assign rfl rfl rfl trivial ?_
        refine L.nil ?_
        refine C.blockEnd ?_
        refine C.next ?_
        refine C.region [(false,0),(false,1),(false,2)] rfl ?_
        refine L.move rfl rfl rfl trivial ?_
        refine L.add rfl rfl rfl (by simp only [inK]; omega) rfl trivial ?_
        refine L.assign rfl rfl rfl trivial ?_
        refine L.nil ?_
        have e9 := nthK_yes (l := x.parts.l) (m := m) (k := k) (hw2 ▸ hw)
        rw [show (nthK x.parts.l m k).1.set (k : Int).toNat (((nthK x.parts.l m k).2 : Int) % 2) = (nthK x.parts.l m (k + 1)).1 by rw [e9]; rfl]
        exact C.againR 18 (k + 1) (by omega) (by omega) ⟨(by rw [e9]; rfl), (by first | rfl | (show some (Value.int _ _) = some (Value.int _ _); congr 2; omega)), trivial⟩ rfl rfl (List.Sublist.refl _) (ds_same)
      · refine C.skip ?_
        refine C.blockEnd ?_
        refine C.next ?_
        refine C.region [(false,0),(false,1),(false,2)] rfl ?_
        refine L.move rfl rfl rfl trivial ?_
        refine L.add rfl rfl rfl (by simp only [inK]; omega) rfl trivial ?_
        refine L.assign rfl rfl rfl trivial ?_
        refine L.nil ?_
        have e9 := nthK_no (l := x.parts.l) (m := m) (k := k) (fun e => hc3 (Option.some.inj (hw.symm.trans e)))
        rw [← e9]
        exact C.againR 11 (k + 1) (by omega) (by omega) ⟨rfl, (by first | rfl | (show some (Value.int _ _) = some (Value.int _ _); congr 2; omega)), trivial⟩ rfl rfl (List.Sublist.refl _) (ds_same)
    · obtain rfl : k = 3 := by omega
      rw [nthK_3]
      refine C.exit ?_
      refine C.thenExit ?_
      refine C.thenExit ?_
      refine C.blockExit ?_
      refine C.next ?_
      refine C.region [(false,0),(false,1),(false,2),(false,3),(false,4)] rfl ?_
      refine L.move rfl rfl rfl trivial ?_
      refine L.loadBW rfl Tf.a91 rfl (List.Mem.head _) (by first | exact Tf.s91 | (simp only [ints_length, *]; exact Tf.s91)) List.not_mem_nil rfl trivial ?_
      refine L.buildSlice rfl Try.underlying26 Tf.s91 Tf.z91 rfl rfl rfl rfl (.cons rfl rfl .nil) rfl trivial (fun b901 D901 hD901 hA901 => ?_)
      refine L.append (A := [(_, _)]) (B := []) rfl Try.underlying26 rfl rfl Tf.s91 Tf.z91 rfl Tf.i91 rfl rfl rfl ha (Src.lit hA901) (by simp) rfl (ptC_lenn _ _ (by simp only [nthC_len, List.length_take]; omega)) (by simp [cell1, ints, Pt.l]) (by omega) (Or.inl rfl) rfl trivial (fun v7 ν7 ha7 => ?_)
      have hn7 : Acc 91 3 v7 (i + 1) (ptC (nthC (y.chairs.take (i + 1)) n).1) ν7 := by rw [nthC_snoc hx, ptC_snoc, ← hm]; simpa [ints, Pt.l] using ha7
      refine L.assign rfl rfl rfl trivial ?_
      refine L.nil ?_
      refine C.blockEnd ?_
      refine C.next ?_
      refine C.region [(false,0),(false,1),(false,2)] rfl ?_
      refine L.move rfl rfl rfl trivial ?_
      refine L.add rfl rfl rfl (by simp only [inK]; omega) rfl trivial ?_
      refine L.assign rfl rfl rfl trivial ?_
      refine L.nil ?_
      exact C.againR 26 (i + 1, v7, ν7, (p3 x.parts m).2) ⟨by simp only; omega, hn7, by rw [nthC_snoc hx, ← hm]⟩ (by simp only; omega) ⟨(by first | rfl | (show some (Value.int _ _) = some (Value.int _ _); congr 2; omega)), (by first | rfl | (show some (Value.int _ _) = some (Value.int _ _); congr 2; omega)), (by first | rfl | (show some (Value.int _ _) = some (Value.int _ _); congr 2; omega)), trivial⟩ rfl rfl (List.Sublist.cons _ (List.Sublist.refl _)) (fun D h => ⟨D, List.Mem.tail _ (h), Le.refl D⟩)
  · obtain rfl : i = y.chairs.length := by omega
    rw [List.take_length] at ha
    refine C.exit ?_
    refine C.thenExit ?_
    refine C.thenExit ?_
    refine C.blockExit ?_
    refine C.next ?_
    refine C.seq ?_
    refine C.region [(false,0),(false,1)] rfl ?_
    refine L.move rfl rfl rfl trivial ?_
    refine L.assign rfl rfl rfl trivial ?_
    refine L.nil ?_
    refine C.next ?_
    refine C.ret ?_
    refine Q.freeze (A := []) (B := []) ha rfl (fun D2 hD2 hF => ?_)
    exact leave (vs := [_]) rfl rfl rfl ⟨rfl, trivial⟩ (fun D' hD => (hF.pts (nthC_len _ _) (by omega)).up RP.up (hD _ (by simp)))
theorem Many_ok (yv : Value) (y : YardD) (D : Data) (hy : YardIs D yv y) (h7 : y.chairs.length ≤ 1000) (hu : unknown y.chairs ≤ 8) : Fn Try.prog 55 #[yv] D (fun _ v => v = .int .i64 ((2 ^ unknown y.chairs : Nat) : Int)) := by
  have hy0 := hy
  obtain ⟨cv, qv, rfl, hc, hq⟩ := hy
  refine enter 7 Try.func55 rfl rfl rfl rfl fun h0 => ?_
  refine C.seq ?_
  refine C.region [(false,0),(false,1)] rfl ?_
  refine L.boxD rfl rfl rfl rfl trivial (fun q1 E1 hE1 hB1 => ?_)
  refine L.assign rfl rfl rfl trivial ?_
  refine L.nil ?_
  refine C.next ?_
  refine C.seq ?_
  refine C.region [(false,0),(false,1),(false,2),(false,3),(false,4)] rfl ?_
  refine L.loadDW rfl Tf.a25 rfl hB1 (by first | simp | assumption) Tf.s25 List.not_mem_nil rfl trivial ?_
  refine L.callV rfl rfl rfl (fun D1 hD1 => Unknown_ok _ y _ (hy0.up (hD1 _ (by simp))) h7) rfl trivial ?_
  refine L.convI rfl Try.underlying3 Try.underlying88 rfl (by simp only [inK]; omega) rfl trivial ?_
  refine L.shl1U rfl rfl rfl (by omega) rfl trivial ?_
  refine L.assign rfl rfl rfl trivial ?_
  refine L.nil ?_
  refine C.next ?_
  refine C.ret ?_
  exact leave (vs := [_]) rfl rfl rfl ⟨rfl, trivial⟩ (fun D hD => rfl)
end Go.Fs
namespace Go.Fs
open Go.Proofs
open C7
theorem part_p1 {x : Int} (h : 0 ≤ x ∧ x ≤ 2) (m : Nat) : partIs x (p1 x m).1 = true := by
  unfold p1 partIs
  rw [Bool.and_eq_true, inB_iff, Bool.or_eq_true, decide_eq_true_eq, decide_eq_true_eq]
  split
  · rename_i e; exact ⟨by simp only; omega, Or.inl e⟩
  · rename_i e; exact ⟨by simp only; omega, Or.inr rfl⟩
theorem pts_p3 {p : Pt} (h : ∀ n ∈ p.l, 0 ≤ n ∧ n ≤ 2) (m : Nat) : ptsIs p (p3 p m).1 = true := by
  have ha := h p.a (by simp [Pt.l])
  have hb := h p.b (by simp [Pt.l])
  have hc := h p.c (by simp [Pt.l])
  simp only [ptsIs, Pt.l, p3, List.zip_cons_cons, List.zip_nil_left, List.all_cons, List.all_nil, Bool.and_true, Bool.and_eq_true]
  exact ⟨part_p1 ha _, part_p1 hb _, part_p1 hc _⟩
def nthR : List Ch → Nat → List Pt
  | [], _ => []
  | c :: l, n => (p3 c.parts n).1 :: nthR l (p3 c.parts n).2
theorem nthS_R : ∀ (l : List Ch) (st : List Pt × Nat), (l.foldl nthS st).1 = st.1 ++ nthR l st.2
  | [], st => by simp [nthR]
  | c :: l, st => by rw [List.foldl_cons, nthS_R l]; simp [nthS, nthR]
theorem nthC_R (l : List Ch) (n : Nat) : (nthC l n).1 = nthR l n := by unfold nthC; rw [nthS_R]; rfl
theorem nthR_ok : ∀ (l : List Ch) (n : Nat), (∀ c ∈ l, ∀ n ∈ c.parts.l, 0 ≤ n ∧ n ≤ 2) → ((l.zip (nthR l n)).all fun x => ptsIs x.1.parts x.2) = true
  | [], n, _ => rfl
  | c :: l, n, h => by
    rw [nthR, List.zip_cons_cons, List.all_cons, Bool.and_eq_true]
    exact ⟨pts_p3 (h c List.mem_cons_self) n, nthR_ok l _ fun c hc => h c (List.mem_cons_of_mem _ hc)⟩
theorem nth_truth {y : YardD} (h : YOk y) (n : Nat) : isTruth y (nthC y.chairs n).1 = true := by
  unfold isTruth
  rw [Bool.and_eq_true, decide_eq_true_eq]
  exact ⟨nthC_len _ _, by rw [nthC_R]; exact nthR_ok _ _ h.part⟩
def mostN (y : YardD) (n : Nat) : Int := (mostT y (nthC y.chairs n).1 : Nat)
/-- The most chairs in all truths. -/
def allN (y : YardD) : List Int := (List.range (2 ^ unknown y.chairs)).map (mostN y)
/-- The numbers of the truths of a yard. -/
def numK (y : YardD) (ms : List Int) (k : Nat) : List Int := ((List.range k).filter fun n => rightO y.claims [] (ms.getD n 0)).map fun n : Nat => (n : Int)
end Go.Fs
namespace Go.Fs
open Go.Proofs
open C7
def nsD (y : YardD) : List Int := numK y (allN y) (allN y).length
/-- The error of a question on all truths. -/
def askS (y : YardD) : Int := if fault y ≠ 0 then fault y else if nsD y = [] then 11 else 0
theorem askS_zero {y : YardD} (h : askS y = 0) : fault y = 0 ∧ nsD y ≠ [] := by
  unfold askS at h
  split at h
  · omega
  · rename_i h1
    split at h
    · omega
    · rename_i h2; exact ⟨by omega, h2⟩
theorem allN_get {y : YardD} {n : Nat} (h : n < (allN y).length) : (allN y).getD n 0 = mostN y n := by
  unfold allN at h ⊢
  rw [List.length_map, List.length_range] at h
  rw [List.getD_eq_getElem?_getD, List.getElem?_map, List.getElem?_range h]; rfl
theorem mem_ns {y : YardD} {x : Int} : x ∈ nsD y ↔ ∃ n : Nat, n < 2 ^ unknown y.chairs ∧ rightO y.claims [] (mostN y n) = true ∧ x = (n : Int) := by
  have hl : (allN y).length = 2 ^ unknown y.chairs := by unfold allN; rw [List.length_map, List.length_range]
  unfold nsD numK
  rw [List.mem_map]
  constructor
  · rintro ⟨n, hn, rfl⟩
    rw [List.mem_filter, List.mem_range] at hn
    rw [allN_get hn.1] at hn
    exact ⟨n, by omega, hn.2, rfl⟩
  · rintro ⟨n, hn, hr, rfl⟩
    refine ⟨n, ?_, rfl⟩
    rw [List.mem_filter, List.mem_range, allN_get (by omega)]
    exact ⟨by omega, hr⟩
/-- Each truth has a number. -/
theorem p1_inv {x t : Int} (h : partIs x t = true) {m B : Nat} (hm : m < B) : ∃ n, p1 x n = (t, m) ∧ n < (if x = 2 then 2 else 1) * B := by
  unfold partIs at h
  rw [Bool.and_eq_true, inB_iff, Bool.or_eq_true, decide_eq_true_eq, decide_eq_true_eq] at h
  unfold p1
  by_cases hx : x = 2
  · obtain ⟨b, rfl⟩ := Int.eq_ofNat_of_zero_le h.1.1
    refine ⟨2 * m + b, ?_, by rw [if_pos hx]; omega⟩
    rw [if_pos hx, Prod.mk.injEq]
    exact ⟨by omega, by omega⟩
  · refine ⟨m, ?_, by rw [if_neg hx]; omega⟩
    rw [if_neg hx, Prod.mk.injEq]
    exact ⟨by rcases h.2 with h | h; exact absurd h hx; exact h.symm, rfl⟩
theorem unk_pow (p : Pt) : 2 ^ unkP p = (if p.a = 2 then 2 else 1) * ((if p.b = 2 then 2 else 1) * (if p.c = 2 then 2 else 1)) := by
  unfold unkP Pt.l
  by_cases ha : p.a = 2 <;> by_cases hb : p.b = 2 <;> by_cases hc : p.c = 2 <;> simp [ha, hb, hc]
theorem p3_inv {p t : Pt} (h : ptsIs p t = true) {m B : Nat} (hm : m < B) : ∃ n, p3 p n = (t, m) ∧ n < 2 ^ unkP p * B := by
  simp only [ptsIs, Pt.l, List.zip_cons_cons, List.zip_nil_left, List.all_cons, List.all_nil, Bool.and_true, Bool.and_eq_true] at h
  obtain ⟨c, e1, h1⟩ := p1_inv h.2.2 hm
  obtain ⟨b, e2, h2⟩ := p1_inv h.2.1 h1
  obtain ⟨a, e3, h3⟩ := p1_inv h.1 h2
  refine ⟨a, ?_, ?_⟩
  · unfold p3; rw [e3, e2, e1]
  · rw [unk_pow, Nat.mul_assoc, Nat.mul_assoc]; exact h3
theorem nthR_onto : ∀ (l : List Ch) (t : List Pt), t.length = l.length → ((l.zip t).all fun x => ptsIs x.1.parts x.2) = true → ∃ n, n < 2 ^ unknown l ∧ nthR l n = t
  | [], [], _, _ => ⟨0, by simp [unknown], rfl⟩
  | [], _ :: _, h, _ => by simp at h
  | _ :: _, [], h, _ => by simp at h
  | c :: l, p :: t, h, ha => by
    rw [List.zip_cons_cons, List.all_cons, Bool.and_eq_true] at ha
    obtain ⟨m, hm, e⟩ := nthR_onto l t (by simpa using h) ha.2
    obtain ⟨n, e2, hn⟩ := p3_inv ha.1 hm
    refine ⟨n, ?_, ?_⟩
    · have : unknown (c :: l) = unkP c.parts + unknown l := by simp [unknown]
      rw [this, Nat.pow_add]; exact hn
    · rw [nthR, e2, e]
theorem nth_onto {y : YardD} {t : List Pt} (h : isTruth y t = true) : ∃ n, n < 2 ^ unknown y.chairs ∧ (nthC y.chairs n).1 = t := by
  unfold isTruth at h
  rw [Bool.and_eq_true, decide_eq_true_eq] at h
  obtain ⟨n, hn, e⟩ := nthR_onto _ _ h.1 h.2
  exact ⟨n, hn, by rw [nthC_R]; exact e⟩
theorem fmin : ∀ (l : List Int) (a : Int), (l.foldl min a = a ∨ l.foldl min a ∈ l) ∧ l.foldl min a ≤ a ∧ ∀ x ∈ l, l.foldl min a ≤ x
  | [], a => ⟨Or.inl rfl, Int.le_refl _, by simp⟩
  | x :: l, a => by
    rw [List.foldl_cons]
    obtain ⟨h1, h2, h3⟩ := fmin l (min a x)
    refine ⟨?_, by omega, fun z hz => ?_⟩
    · rcases h1 with h1 | h1
      · rw [h1]; rcases Int.le_total a x with h | h
        · exact Or.inl (Int.min_eq_left h)
        · exact Or.inr (by rw [Int.min_eq_right h]; exact List.mem_cons_self)
      · exact Or.inr (List.mem_cons_of_mem _ h1)
    · rcases List.mem_cons.1 hz with rfl | hz
      · omega
      · exact h3 z hz
theorem fmax : ∀ (l : List Int) (a : Int), (l.foldl max a = a ∨ l.foldl max a ∈ l) ∧ a ≤ l.foldl max a ∧ ∀ x ∈ l, x ≤ l.foldl max a
  | [], a => ⟨Or.inl rfl, Int.le_refl _, by simp⟩
  | x :: l, a => by
    rw [List.foldl_cons]
    obtain ⟨h1, h2, h3⟩ := fmax l (max a x)
    refine ⟨?_, by omega, fun z hz => ?_⟩
    · rcases h1 with h1 | h1
      · rw [h1]; rcases Int.le_total a x with h | h
        · exact Or.inr (by rw [Int.max_eq_right h]; exact List.mem_cons_self)
        · exact Or.inl (Int.max_eq_left h)
      · exact Or.inr (List.mem_cons_of_mem _ h1)
    · rcases List.mem_cons.1 hz with rfl | hz
      · omega
      · exact h3 z hz
theorem fmin_eq {l l' : List Int} {a a' : Int} (hm : ∀ x, x ∈ l ↔ x ∈ l') (hne : l ≠ []) (ha : ∀ x ∈ l, x ≤ a) (ha' : ∀ x ∈ l', x ≤ a') : l.foldl min a = l'.foldl min a' := by
  obtain ⟨h1, h2, h3⟩ := fmin l a
  obtain ⟨g1, g2, g3⟩ := fmin l' a'
  obtain ⟨z, hz⟩ := List.exists_mem_of_ne_nil l hne
  have k1 : l.foldl min a ∈ l := by
    rcases h1 with h1 | h1
    · have := h3 z hz; have := ha z hz; rw [show l.foldl min a = z by omega]; exact hz
    · exact h1
  have k2 : l'.foldl min a' ∈ l' := by
    rcases g1 with g1 | g1
    · have := g3 z ((hm z).1 hz); have := ha' z ((hm z).1 hz); rw [show l'.foldl min a' = z by omega]; exact (hm z).1 hz
    · exact g1
  have := h3 _ ((hm _).2 k2)
  have := g3 _ ((hm _).1 k1)
  omega
/-- The most chairs in the truths: the reference's numbers, and the program's. -/
def mostsL (y : YardD) : List Int := (nsD y).map fun n => (allN y).getD n.toNat 0
theorem mem_mosts {y : YardD} (h : YOk y) (x : Int) : x ∈ mostsL y ↔ x ∈ (scenesD y []).map fun p => (p.2 : Int) := by
  unfold mostsL
  rw [List.mem_map, List.mem_map]
  constructor
  · rintro ⟨n, hn, rfl⟩
    obtain ⟨k, hk, hr, rfl⟩ := mem_ns.1 hn
    refine ⟨_, mem_scenes.2 ⟨(nthC y.chairs k).1, nth_truth h k, hr, rfl⟩, ?_⟩
    rw [Int.toNat_natCast, allN_get (by unfold allN; rw [List.length_map, List.length_range]; exact hk)]; rfl
  · rintro ⟨p, hp, rfl⟩
    obtain ⟨t, ht, hr, rfl⟩ := mem_scenes.1 hp
    obtain ⟨n, hn, rfl⟩ := nth_onto ht
    refine ⟨(n : Int), mem_ns.2 ⟨n, hn, hr, rfl⟩, ?_⟩
    rw [Int.toNat_natCast, allN_get (by unfold allN; rw [List.length_map, List.length_range]; exact hn)]; rfl
theorem ns_nil {y : YardD} (h : YOk y) : nsD y = [] ↔ scenesD y [] = [] := by
  have key := mem_mosts h
  constructor
  · intro e
    rw [List.eq_nil_iff_forall_not_mem]
    intro p hp
    have := (key p.2).2 (List.mem_map.2 ⟨p, hp, rfl⟩)
    unfold mostsL at this; rw [e] at this; simp at this
  · intro e
    rw [List.eq_nil_iff_forall_not_mem]
    intro n hn
    have := (key _).1 (List.mem_map.2 ⟨n, hn, rfl⟩)
    rw [e] at this; simp at this
end Go.Fs
namespace Go.Fs
open Go.Proofs
open C7
def canB (y : YardD) (ms : List Int) (c : Nat) : Bool := ms.any fun m => decide (bset (rightB y.claims m) y.claims.length &&& c = c)
def firstR (y : YardD) (ms : List Int) : Int := match (List.range y.claims.length).find? (fun i => !canB y ms (2 * 2 ^ i - 1)) with
  | some i => i
  | none => -1
def lexB : List Int → List Int → Bool
  | [], b => decide (0 < b.length)
  | _ :: _, [] => false
  | x :: a, z :: b => if x = z then lexB a b else decide (x < z)
def shortB (a b : List Int) : Bool := decide ((a.length : Int) < (b.length : Int)) || (decide ((a.length : Int) = (b.length : Int)) && lexB a b)
end Go.Fs
namespace Go.Fs
open Go.Proofs
open C7
/-- Is the element at a place of a proof right? -/
def pfAt (t : List Pt) (l : List Int) (k : Nat) : Bool := match l[k]? with
  | some x => inB x 0 ((t.length : Int) - 1) && (!(decide (0 < (k : Int)) && decide (x ≤ l.getD (k - 1) 0)) && !isWhole (t.getD x.toNat ⟨0, 0, 0⟩))
  | none => true
def isPf (t : List Pt) (l : List Int) : Bool := (List.range l.length).all (pfAt t l)
theorem pf_at {t : List Pt} {l : List Int} {k : Nat} {x : Int} (hx : l[k]? = some x) : pfAt t l k = !((!inB x 0 ((t.length : Int) - 1) || (decide (0 < (k : Int)) && decide (x ≤ l.getD (k - 1) 0))) || isWhole (t.getD x.toNat ⟨0, 0, 0⟩)) := by
  unfold pfAt; rw [hx]; simp only
  cases inB x 0 ((t.length : Int) - 1) <;> cases (decide (0 < (k : Int)) && decide (x ≤ l.getD (k - 1) 0)) <;> cases isWhole (t.getD x.toNat ⟨0, 0, 0⟩) <;> rfl
def orP (l : List Int) : Nat := l.foldl (fun n x => n ||| 2 ^ x.toNat) 0
theorem orP_step {l : List Int} {k : Nat} {x : Int} (h : l[k]? = some x) : orP (l.take (k + 1)) = orP (l.take k) ||| 2 ^ x.toNat := by
  unfold orP; rw [List.take_add_one, h, Option.toList_some, List.foldl_append]; rfl
theorem orP_bit : ∀ (l : List Int) (n i : Nat), (l.foldl (fun n x => n ||| 2 ^ x.toNat) n).testBit i = (n.testBit i || l.any fun x => decide (x.toNat = i))
  | [], n, i => by simp
  | x :: l, n, i => by rw [List.foldl_cons, orP_bit l, Nat.testBit_or, Nat.testBit_two_pow, List.any_cons, Bool.or_assoc]
theorem mem_orP {l : List Int} {i : Nat} : (orP l).testBit i = true ↔ ∃ x ∈ l, x.toNat = i := by
  unfold orP; rw [orP_bit]; simp
theorem orP_lt {l : List Int} (h : ∀ x ∈ l, x.toNat < 7) : orP l < 128 := by
  refine Nat.lt_pow_two_of_testBit (n := 7) _ fun i hi => ?_
  cases e : (orP l).testBit i with
  | false => rfl
  | true =>
    obtain ⟨x, hx, rfl⟩ := mem_orP.1 e
    have := h x hx
    omega
theorem br_lt (t : List Pt) (h : t.length ≤ 7) : bset (brokB t) t.length < 128 := by
  have := bset_lt (brokB t) t.length
  have h2 : 2 ^ t.length ≤ 2 ^ 7 := Nat.pow_le_pow_right (by omega) h
  omega
theorem bl_len (m : Nat) : (bitsL m).length = onesB m := by unfold bitsL bitsK onesB; rw [List.length_map]
end Go.Fs
namespace Go.Fs
open Go.Proofs
open C7
theorem bits128 : ∀ b, b < 128 → orP (bitsL b) = b ∧ ∀ k, k < (bitsL b).length → 0 < k → (bitsL b).getD (k - 1) 0 < (bitsL b).getD k 0 := by decide +kernel
theorem mem_bitsL {b : Nat} {x : Int} (h : x ∈ bitsL b) : 0 ≤ x ∧ x.toNat < 7 ∧ b.testBit x.toNat = true := by
  unfold bitsL bitsK at h
  obtain ⟨i, hi, rfl⟩ := List.mem_map.1 h
  rw [List.mem_filter, List.mem_range] at hi
  exact ⟨Int.natCast_nonneg _, hi⟩
/-- The chairs of a set of broken ones are a proof. -/
theorem pf_bits {t : List Pt} {b : Nat} (hb : b < 128) (hs : ∀ x, b.testBit x = true → (bset (brokB t) t.length).testBit x = true) : isPf t (bitsL b) = true := by
  unfold isPf
  rw [List.all_eq_true]
  intro k hk
  rw [List.mem_range] at hk
  have hx : (bitsL b)[k]? = some ((bitsL b).getD k 0) := by rw [List.getD_eq_getElem?_getD, List.getElem?_eq_getElem hk]; rfl
  obtain ⟨h1, h2, h3⟩ := mem_bitsL (List.mem_of_getElem? hx)
  have h4 := hs _ h3
  rw [bset_bit, Bool.and_eq_true, decide_eq_true_eq] at h4
  have hz : t[((bitsL b).getD k 0).toNat]? = some (t.getD ((bitsL b).getD k 0).toNat ⟨0, 0, 0⟩) := by rw [List.getD_eq_getElem?_getD (l := t), List.getElem?_eq_getElem h4.1]; rfl
  have h5 := h4.2
  rw [brok_at hz, Bool.not_eq_true'] at h5
  rw [pf_at hx, h5, Bool.or_false, Bool.not_eq_true', Bool.or_eq_false_iff, Bool.not_eq_false', inB_iff, Bool.and_eq_false_iff, decide_eq_false_iff_not, decide_eq_false_iff_not]
  refine ⟨by omega, ?_⟩
  rcases Nat.eq_zero_or_pos k with e | e
  · left; omega
  · right; have := (bits128 b hb).2 k hk e; omega
theorem pf_cond {t : List Pt} {l : List Int} {k : Nat} {x la : Int} (hx : l[k]? = some x) (hla : la = if k = 0 then -1 else l.getD (k - 1) 0) : (!inB x (la + 1) ((t.length : Int) - 1) || decide ((((bset (brokB t) t.length) >>> x.toNat : Nat) : Int) % 2 = 0)) = !pfAt t l k ∨ la < -1 := by
  by_cases hl : la < -1
  · exact Or.inr hl
  left
  rw [pf_at hx, Bool.not_not]
  cases e : inB x (la + 1) ((t.length : Int) - 1) with
  | true =>
    have h1 := inB_iff.1 e
    have hn : x.toNat < t.length := by omega
    have hz : t[x.toNat]? = some (t.getD x.toNat ⟨0, 0, 0⟩) := by rw [List.getD_eq_getElem?_getD, List.getElem?_eq_getElem hn]; rfl
    have h0 : inB x 0 ((t.length : Int) - 1) = true := inB_iff.2 ⟨by omega, h1.2⟩
    have h2 : (decide (0 < (k : Int)) && decide (x ≤ l.getD (k - 1) 0)) = false := by
      rw [Bool.and_eq_false_iff, decide_eq_false_iff_not, decide_eq_false_iff_not]
      by_cases hk : k = 0
      · left; omega
      · right; rw [if_neg hk] at hla; omega
    rw [h0, h2, bit_mod, bset_bit, brok_at hz]
    have hd : decide (x.toNat < t.length) = true := by simpa using hn
    rw [hd]
    cases isWhole (t.getD x.toNat ⟨0, 0, 0⟩) <;> rfl
  | false =>
    have h1 : ¬ (la + 1 ≤ x ∧ x ≤ (t.length : Int) - 1) := fun h => by rw [inB_iff.2 h] at e; cases e
    cases e0 : inB x 0 ((t.length : Int) - 1) with
    | false => rfl
    | true =>
      have h0 := inB_iff.1 e0
      have hk : ¬ k = 0 := fun hk => by rw [if_pos hk] at hla; omega
      rw [if_neg hk] at hla
      rw [decide_eq_true (show (0 : Int) < (k : Int) by omega), decide_eq_true (show x ≤ l.getD (k - 1) 0 by omega)]
      rfl
/-- What ProveBerge reads is a proof. -/
theorem prf_is {t : List Pt} {l : List Int} (h7 : t.length ≤ 7) : ∀ k, k ≤ l.length → (List.range k).all (pfAt t l) = true → ∃ la, prf t.length (bset (brokB t) t.length) (l.take k) = some (orP (l.take k), la) ∧ (la = if k = 0 then -1 else l.getD (k - 1) 0) ∧ -1 ≤ la
  | 0, _, _ => ⟨-1, rfl, rfl, by omega⟩
  | k + 1, hk, h => by
    rw [List.range_succ, List.all_append, Bool.and_eq_true] at h
    obtain ⟨la, h1, h2, h3⟩ := prf_is h7 k (by omega) h.1
    obtain ⟨x, hx⟩ : ∃ x, l[k]? = some x := ⟨_, List.getElem?_eq_getElem (by omega)⟩
    have hp : pfAt t l k = true := by simpa using h.2
    have hc := (pf_cond (t := t) hx h2).resolve_right (by omega)
    rw [hp] at hc
    have hlt : ∀ x ∈ l.take k, x.toNat < 7 := fun z hz => by
      obtain ⟨j, hj⟩ := List.mem_iff_getElem?.1 hz
      rw [List.getElem?_take] at hj
      split at hj
      · rename_i hjk
        have h5 := List.all_eq_true.1 h.1 j (List.mem_range.2 hjk)
        rw [pf_at hj, Bool.not_eq_true', Bool.or_eq_false_iff, Bool.or_eq_false_iff, Bool.not_eq_false'] at h5
        have := inB_iff.1 h5.1.1
        omega
      · cases hj
    obtain ⟨z, rfl, hz7, hst, _⟩ := prf_yes h7 (orP_lt hlt) h3 hc
    refine ⟨(z : Int), by rw [prf_snoc hx, h1, orP_step hx]; exact hst, ?_, by omega⟩
    rw [if_neg (by omega), Nat.add_sub_cancel, List.getD_eq_getElem?_getD, hx]; rfl
theorem prf_eq {t : List Pt} (h7 : t.length ≤ 7) (l : List Int) : (∃ la, prf t.length (bset (brokB t) t.length) l = some (orP l, la)) ∧ isPf t l = true ∨ prf t.length (bset (brokB t) t.length) l = none ∧ isPf t l = false := by
  cases e : isPf t l with
  | true =>
    obtain ⟨la, h1, _⟩ := prf_is (l := l) h7 l.length (Nat.le_refl _) e
    rw [List.take_length] at h1
    exact Or.inl ⟨⟨la, h1⟩, rfl⟩
  | false =>
    right
    refine ⟨?_, rfl⟩
    have key : ∀ k, k ≤ l.length → (List.range k).all (pfAt t l) = false → prf t.length (bset (brokB t) t.length) l = none := by
      intro k
      induction k with
      | zero => intro _ h; cases h
      | succ k ih =>
        intro hk h
        cases e1 : (List.range k).all (pfAt t l) with
        | false => exact ih (by omega) e1
        | true =>
          rw [List.range_succ, List.all_append, e1] at h
          have hp : pfAt t l k = false := by simpa using h
          obtain ⟨la, h1, h2, h3⟩ := prf_is h7 k (by omega) e1
          obtain ⟨x, hx⟩ : ∃ x, l[k]? = some x := ⟨_, List.getElem?_eq_getElem (by omega)⟩
          have hc := (pf_cond (t := t) hx h2).resolve_right (by omega)
          rw [hp] at hc
          exact prf_no hx h1 hc
    exact key _ (Nat.le_refl _) e
theorem pb_eq {y : YardD} {t : List Pt} {l : List Int} {many : Int} (h : fault y = 0) (ht : isTruth y t = true) : proveBergeV y t l many = (isPf t l && decide ((boundB (sceneD y t) (orP l) : Int) ≤ many)) := by
  have hn := (yOk h).len
  obtain ⟨hl, _⟩ := truthOk ht
  unfold proveBergeV
  rw [play_eq h ht, if_pos rfl, ← hl]
  rcases prf_eq (show t.length ≤ 7 by omega) l with ⟨⟨la, h1⟩, h2⟩ | ⟨h1, h2⟩
  · rw [show (sceneD y t).broken = bset (brokB t) t.length from rfl, h1, h2]; rfl
  · rw [show (sceneD y t).broken = bset (brokB t) t.length from rfl, h1, h2]; rfl
/-- No set of broken chairs has a smaller bound. -/
theorem bound_ge {y : YardD} {t : List Pt} (h : fault y = 0) (ht : isTruth y t = true) {s : Nat} (hs : ∀ x, s.testBit x = true → (sceneD y t).broken.testBit x = true) : mostT y t ≤ boundB (sceneD y t) s := by
  have hn := (yOk h).len
  obtain ⟨hl, _⟩ := truthOk ht
  have hsc := scene_ok' hl (show t.length ≤ 7 by omega)
  obtain ⟨M, hM, hk⟩ := (nu_is hl (by omega)).ex
  have := berge_le (F := (sceneD y t).fits) (fun a b => by rw [fB_fits (by omega)]; exact fitB_comm y t a b) hsc.row (br_lt t (by omega)) hs (M := M) (by rw [fB_fits (by omega)]; exact hM)
  unfold mostT mostS boundB
  have hbr : (sceneD y t).broken = bset (brokB t) t.length := rfl
  rw [← hk, hbr]
  omega
theorem bound_ex {y : YardD} {t : List Pt} (h : fault y = 0) (ht : isTruth y t = true) : ∃ s, (∀ x, s.testBit x = true → (sceneD y t).broken.testBit x = true) ∧ boundB (sceneD y t) s = mostT y t := by
  have hn := (yOk h).len
  obtain ⟨hl, _⟩ := truthOk ht
  have hsc := scene_ok' hl (show t.length ≤ 7 by omega)
  obtain ⟨s, hs, hb⟩ := tutte (F := (sceneD y t).fits) (fun a b => by rw [fB_fits (by omega)]; exact fitB_comm y t a b) hsc.row _ _ (br_lt t (by omega)) (by rw [fB_fits (by omega)]; exact nu_is hl (by omega))
  refine ⟨s, hs, ?_⟩
  have h1 := bound_ge h ht hs
  have h2 : onesB (sceneD y t).broken + onesB s ≤ 2 * nuB (sceneD y t).fits y.chairs.length (sceneD y t).broken + oddB (sceneD y t).fits (dif (sceneD y t).broken s) := hb
  unfold mostT mostS boundB at h1 ⊢
  omega
theorem berge_facts {y : YardD} {t : List Pt} (h : fault y = 0) (ht : isTruth y t = true) : (bergeV y t).2.2 = 0 ∧ (bergeV y t).2.1 = ((mostT y t : Nat) : Int) ∧ isPf t (bergeV y t).1 = true ∧ boundB (sceneD y t) (orP (bergeV y t).1) = mostT y t := by
  have hn := (yOk h).len
  obtain ⟨hl, _⟩ := truthOk ht
  obtain ⟨s, hs, hb⟩ := bound_ex h ht
  have sub : ∀ b : Nat, ((dif b (sceneD y t).broken : Nat) : Int) = 0 ↔ ∀ x, b.testBit x = true → (sceneD y t).broken.testBit x = true := fun b => by
    constructor
    · intro e x hx
      have e0 : dif b (sceneD y t).broken = 0 := by omega
      have := congrArg (fun m => Nat.testBit m x) e0
      simp only [dif_bit, hx, Bool.true_and, Nat.zero_testBit] at this
      simpa using this
    · intro e
      have : dif b (sceneD y t).broken = 0 := Nat.eq_of_testBit_eq fun x => by
        rw [dif_bit, Nat.zero_testBit]
        cases hx : b.testBit x with
        | false => rfl
        | true => rw [e x hx]; rfl
      omega
  have hsl : s < 2 ^ y.chairs.length := Nat.lt_pow_two_of_testBit _ fun i hi => by
    cases e : s.testBit i with
    | false => rfl
    | true => have := (scene_ok' hl (by omega)).bits i (hs i e); omega
  have hP : bergeP (sceneD y t) (playV y t).1 s = true := by
    unfold bergeP; rw [play_eq h ht, hb, Bool.and_eq_true, decide_eq_true_eq, decide_eq_true_eq]
    exact ⟨(sub s).2 hs, rfl⟩
  have hfound : bergeP (sceneD y t) (playV y t).1 (bergeB y t) = true ∧ bergeB y t < 2 ^ y.chairs.length := by
    unfold bergeB
    cases e : (List.range (2 ^ y.chairs.length)).find? (bergeP (sceneD y t) (playV y t).1) with
    | none => rw [List.find?_eq_none] at e; exact absurd hP (e s (List.mem_range.2 hsl))
    | some b => exact ⟨List.find?_some e, List.mem_range.1 (List.mem_of_find?_eq_some e)⟩
  have hpn : 2 ^ y.chairs.length ≤ 2 ^ 7 := Nat.pow_le_pow_right (by omega) hn
  have e := play_eq h ht
  obtain ⟨h1, h2⟩ := hfound
  unfold bergeP at h1
  rw [Bool.and_eq_true, decide_eq_true_eq, decide_eq_true_eq, e] at h1
  have e1 : bergeV y t = (bitsL (bergeB y t), (playV y t).1, 0) := by unfold bergeV; rw [e, if_pos rfl]
  rw [e1, e]
  refine ⟨rfl, rfl, pf_bits (by omega) ((sub _).1 h1.1), ?_⟩
  rw [(bits128 _ (by omega)).1]
  have := h1.2
  simp only at this
  omega
end Go.Fs
namespace Go.Fs
open Go.Proofs
open C7
def sureR (y : YardD) (ns : List Int) (l : List (Int × Int)) : Int := (ns.map fun x => (makesR y (nthC y.chairs x.toNat).1 l : Int)).foldl min 99
def surestR (y : YardD) (ns : List Int) : Int := (((prs y.chairs.length y.chairs.length 0).map pI).map (sureR y ns)).foldl max 0
/-- The pairings that the program tries are those of near chairs. -/
theorem flat_near {β : Type} {A C : Nat → Bool} {g : Nat → List β} : ∀ L : List Nat, (L.filter fun b => A b && C b).flatMap g = (L.filter A).flatMap fun b => if C b = true then g b else []
  | [] => rfl
  | b :: L => by
    rw [List.filter_cons, List.filter_cons]
    cases ha : A b with
    | false => simpa using flat_near L
    | true =>
      cases hc : C b with
      | false => simp [hc, flat_near L]
      | true => simp [hc, flat_near L]
def nearM (y : YardD) (M : List (Nat × Nat)) : Bool := M.all fun p => nearB y p.1 p.2
theorem lvs_prs {y : YardD} : ∀ (k f w : Nat) (l : List (Int × Int)), f + k = y.chairs.length → lvs y k f w l = ((prs y.chairs.length k w).filter (nearM y)).map fun M => l ++ pI M
  | 0, f, w, l, _ => by show [l] = [l ++ []]; rw [List.append_nil]
  | k + 1, f, w, l, h => by
    have hf : y.chairs.length - (k + 1) = f := by omega
    rw [lvs, prs, hf, lvs_prs k (f + 1) w l (by omega)]
    by_cases hb : w.testBit f = true
    · rw [if_pos hb, if_pos hb, List.append_nil]
    · rw [if_neg hb, if_neg hb, List.filter_append, List.map_append]
      congr 1
      rw [show (fun b => decide (f < b) && (!w.testBit b && nearB y f b)) = fun b => (decide (f < b) && !w.testBit b) && nearB y f b from funext fun b => (Bool.and_assoc _ _ _).symm, flat_near, List.filter_flatMap, List.map_flatMap]
      congr 1
      funext b
      have e : nearM y ∘ (fun M : List (Nat × Nat) => (f, b) :: M) = fun M => nearB y f b && nearM y M := by funext M; simp [nearM]
      rw [List.filter_map, e, List.map_map]
      cases hn : nearB y f b with
      | false => simp
      | true =>
        rw [if_pos rfl, lvs_prs k (f + 1) (w ||| 2 ^ b) _ (by omega)]
        simp only [Bool.true_and]
        apply List.map_congr_left
        intro M _
        simp [pI]
theorem prs_mono {n : Nat} : ∀ (k w w' : Nat), (∀ x, w.testBit x = true → w'.testBit x = true) → ∀ M ∈ prs n k w', M ∈ prs n k w
  | 0, _, _, _, M, hM => hM
  | k + 1, w, w', h, M, hM => by
    unfold prs at hM ⊢
    have ih := prs_mono (n := n) k
    by_cases h' : w'.testBit (n - (k + 1)) = true
    · rw [if_pos h'] at hM
      have := ih w w' h M hM
      split
      · exact this
      · exact List.mem_append_left _ this
    · rw [if_neg h'] at hM
      rw [if_neg fun e => h' (h _ e)]
      rcases List.mem_append.1 hM with hM | hM
      · exact List.mem_append_left _ (ih w w' h M hM)
      · refine List.mem_append_right _ ?_
        obtain ⟨b, hb, hM⟩ := List.mem_flatMap.1 hM
        obtain ⟨M', hM', rfl⟩ := List.mem_map.1 hM
        rw [List.mem_filter, Bool.and_eq_true, Bool.not_eq_true'] at hb
        refine List.mem_flatMap.2 ⟨b, ?_, List.mem_map.2 ⟨M', ih _ _ (fun x hx => ?_) M' hM', rfl⟩⟩
        · rw [List.mem_filter, Bool.and_eq_true, Bool.not_eq_true']
          refine ⟨hb.1, hb.2.1, ?_⟩
          cases e : w.testBit b with
          | false => rfl
          | true => rw [h b e] at hb; exact absurd hb.2.2 (by simp)
        · rw [Nat.testBit_or, Bool.or_eq_true] at hx ⊢
          exact hx.imp (h x) id
theorem prs_sub {n : Nat} : ∀ (k w : Nat) (M N : List (Nat × Nat)), M ∈ prs n k w → N.Sublist M → N ∈ prs n k w
  | 0, w, M, N, hM, hs => by
    obtain rfl : M = [] := by simpa [prs] using hM
    rw [List.sublist_nil.1 hs]; exact hM
  | k + 1, w, M, N, hM, hs => by
    unfold prs at hM ⊢
    split at hM
    · rename_i h; rw [if_pos h]; exact prs_sub k w M N hM hs
    · rename_i h
      rw [if_neg h]
      rcases List.mem_append.1 hM with hM | hM
      · exact List.mem_append_left _ (prs_sub k w M N hM hs)
      · obtain ⟨b, hb, hM⟩ := List.mem_flatMap.1 hM
        obtain ⟨M', hM', rfl⟩ := List.mem_map.1 hM
        cases hs with
        | cons _ hs => exact List.mem_append_left _ (prs_mono k w (w ||| 2 ^ b) (fun x hx => by rw [Nat.testBit_or, hx]; rfl) _ (prs_sub k _ M' N hM' hs))
        | cons_cons _ hs => exact List.mem_append_right _ (List.mem_flatMap.2 ⟨b, hb, List.mem_map.2 ⟨_, prs_sub k _ M' _ hM' hs, rfl⟩⟩)
theorem fitB_near {y : YardD} {t : List Pt} {a b : Nat} (h : fitB y t a b = true) : nearB y a b = true := by
  unfold fitB at h
  split at h
  · rename_i p q x z _ _ hx hz
    unfold nearB; rw [hx, hz]
    simp only [Bool.and_eq_true] at h
    exact h.1.2
  · simp at h
theorem makes_near (y : YardD) (t : List Pt) (M : List (Nat × Nat)) : makesR y t (pI (M.filter fun p => nearB y p.1 p.2)) = makesR y t (pI M) := by
  rw [makesR_pI, makesR_pI]
  unfold fitN
  rw [List.filter_filter]
  congr 2
  apply List.filter_congr
  intro p _
  cases e : fitB y t p.1 p.2 with
  | false => rfl
  | true => rw [fitB_near e]; rfl
theorem upd_fold {scs : List Sc} : ∀ (L : List (List (Int × Int))) (b : List (Int × Int)) (m : Int), (L.foldl (upd scs) (b, m)).2 = (L.map (sureZ scs)).foldl max m ∧ (L.foldl (upd scs) (b, m) = (b, m) ∨ ((L.foldl (upd scs) (b, m)).1 ∈ L ∧ sureZ scs (L.foldl (upd scs) (b, m)).1 = (L.foldl (upd scs) (b, m)).2))
  | [], b, m => ⟨rfl, Or.inl rfl⟩
  | l :: L, b, m => by
    rw [List.foldl_cons, List.map_cons, List.foldl_cons]
    by_cases h : m < sureZ scs l
    · rw [upd_yes h, show max m (sureZ scs l) = sureZ scs l by omega]
      obtain ⟨h1, h2⟩ := upd_fold (scs := scs) L l (sureZ scs l)
      refine ⟨h1, Or.inr ?_⟩
      rcases h2 with h2 | h2
      · rw [h2]; exact ⟨List.mem_cons_self, rfl⟩
      · exact ⟨List.mem_cons_of_mem _ h2.1, h2.2⟩
    · rw [upd_no h, show max m (sureZ scs l) = m by omega]
      obtain ⟨h1, h2⟩ := upd_fold (scs := scs) L b m
      exact ⟨h1, h2.imp id fun h => ⟨List.mem_cons_of_mem _ h.1, h.2⟩⟩
end Go.Fs
namespace Go.Fs
open Go.Proofs
open C7
/-- The scenes, and the truths by number. -/
theorem sure_eq {y : YardD} (h : askS y = 0) {l : List (Int × Int)} (hl : l.length ≤ 50) : sureZ ((scenesD y []).map fun p => p.1) l = sureR y (nsD y) l := by
  obtain ⟨hf, hne⟩ := askS_zero h
  have hyo := yOk hf
  have hn := hyo.len
  have small : ∀ t, isTruth y t = true → (makesR y t l : Int) ≤ 99 := fun t ht => by
    have := makesR_le y t l
    have := (truthOk ht).1
    omega
  have hm : ∀ x : Int, x ∈ ((scenesD y []).map fun p => p.1).map (fun s => (makesN s l : Int)) ↔ x ∈ (nsD y).map fun x => (makesR y (nthC y.chairs x.toNat).1 l : Int) := by
    intro x
    rw [List.mem_map, List.mem_map]
    constructor
    · rintro ⟨s, hs, rfl⟩
      obtain ⟨p, hp, rfl⟩ := List.mem_map.1 hs
      obtain ⟨t, ht, hr, rfl⟩ := mem_scenes.1 hp
      obtain ⟨n, hn', rfl⟩ := nth_onto ht
      have := (truthOk ht).1
      exact ⟨(n : Int), mem_ns.2 ⟨n, hn', hr, rfl⟩, by rw [makesN_R (by omega)]; rfl⟩
    · rintro ⟨n, hn', rfl⟩
      obtain ⟨k, hk, hr, rfl⟩ := mem_ns.1 hn'
      have ht := nth_truth hyo k
      have := (truthOk ht).1
      exact ⟨_, List.mem_map.2 ⟨_, mem_scenes.2 ⟨_, ht, hr, rfl⟩, rfl⟩, by rw [makesN_R (by omega)]; rfl⟩
  have hin : ∀ x ∈ (nsD y).map (fun x => (makesR y (nthC y.chairs x.toNat).1 l : Int)), x ≤ 99 := fun x hx => by
    obtain ⟨n, hn', rfl⟩ := List.mem_map.1 hx
    exact small _ (nth_truth hyo _)
  have hne2 : scenesD y [] ≠ [] := fun e => hne ((ns_nil hyo).2 e)
  unfold sureR
  unfold sureZ
  cases e : (scenesD y []).map fun p => p.1 with
  | nil => exact absurd (List.map_eq_nil_iff.1 e) hne2
  | cons s r =>
    rw [e] at hm
    simp only
    rw [List.map_cons, List.foldl_cons, Int.min_self]
    rw [List.map_cons] at hm
    have e2 : (List.map (fun s => (makesN s l : Int)) r).foldl min (makesN s l : Int) = ((makesN s l : Int) :: r.map fun s => (makesN s l : Int)).foldl min 99 := by
      rw [List.foldl_cons]
      have := hin _ ((hm (makesN s l : Int)).1 List.mem_cons_self)
      rw [show min (99 : Int) (makesN s l : Int) = (makesN s l : Int) by omega]
    rw [e2]
    exact fmin_eq hm (by simp) (fun x hx => hin x ((hm x).1 hx)) hin
theorem sureR_in {y : YardD} (_h : askS y = 0) {l : List (Int × Int)} (_hl : l.length ≤ 50) : 0 ≤ sureR y (nsD y) l := by
  unfold sureR
  rcases (fmin ((nsD y).map fun x => (makesR y (nthC y.chairs x.toNat).1 l : Int)) 99).1 with e | e
  · rw [e]; omega
  · obtain ⟨n, _, e2⟩ := List.mem_map.1 e
    rw [← e2]; omega
theorem lvs_in {y : YardD} (_h : fault y = 0) {l : List (Int × Int)} : l ∈ lvs y y.chairs.length 0 0 [] ↔ ∃ M ∈ prs y.chairs.length y.chairs.length 0, nearM y M = true ∧ l = pI M := by
  rw [lvs_prs _ _ _ _ (by omega), List.mem_map]
  constructor
  · rintro ⟨M, hM, rfl⟩
    rw [List.mem_filter] at hM
    exact ⟨M, hM.1, hM.2, rfl⟩
  · rintro ⟨M, h1, h2, rfl⟩
    exact ⟨M, List.mem_filter.2 ⟨h1, h2⟩, rfl⟩
theorem surest_eq {y : YardD} (h : askS y = 0) : ((lvs y y.chairs.length 0 0 []).map (sureZ ((scenesD y []).map fun p => p.1))).foldl max (-1) = surestR y (nsD y) ∧ lvs y y.chairs.length 0 0 [] ≠ [] ∧ 0 ≤ surestR y (nsD y) := by
  obtain ⟨hf, hne⟩ := askS_zero h
  have hn := (yOk hf).len
  have short : ∀ M ∈ prs y.chairs.length y.chairs.length 0, (pI M).length ≤ 50 := fun M hM => by have := prs_short hn (Nat.le_refl _) hM; omega
  have full : ∀ M ∈ prs y.chairs.length y.chairs.length 0, pI (M.filter fun p => nearB y p.1 p.2) ∈ lvs y y.chairs.length 0 0 [] := fun M hM =>
    (lvs_in hf).2 ⟨_, prs_sub _ _ _ _ hM List.filter_sublist, by unfold nearM; rw [List.all_eq_true]; exact fun p hp => (List.mem_filter.1 hp).2, rfl⟩
  have same : ∀ M, sureR y (nsD y) (pI (M.filter fun p => nearB y p.1 p.2)) = sureR y (nsD y) (pI M) := fun M => by
    unfold sureR; congr 1; apply List.map_congr_left; intro x _; rw [makes_near]
  obtain ⟨M0, hM0⟩ := List.exists_mem_of_ne_nil _ (prs_ne y.chairs.length y.chairs.length 0 (Nat.le_refl _))
  have hne3 : lvs y y.chairs.length 0 0 [] ≠ [] := List.ne_nil_of_mem (full M0 hM0)
  obtain ⟨a1, a2, a3⟩ := fmax ((lvs y y.chairs.length 0 0 []).map (sureZ ((scenesD y []).map fun p => p.1))) (-1)
  obtain ⟨b1, b2, b3⟩ := fmax (((prs y.chairs.length y.chairs.length 0).map pI).map (sureR y (nsD y))) 0
  have lv_le : ∀ M ∈ prs y.chairs.length y.chairs.length 0, sureR y (nsD y) (pI M) ≤ ((lvs y y.chairs.length 0 0 []).map (sureZ ((scenesD y []).map fun p => p.1))).foldl max (-1) := fun M hM => by
    have := a3 _ (List.mem_map.2 ⟨_, full M hM, rfl⟩)
    rwa [sure_eq h (by have := short _ (prs_sub _ _ _ _ hM (List.filter_sublist (p := fun p => nearB y p.1 p.2))); omega), same] at this
  refine ⟨Int.le_antisymm ?_ ?_, hne3, b2⟩
  · rcases a1 with a1 | a1
    · rw [a1]; show (-1 : Int) ≤ _; exact Int.le_trans (by omega) b2
    · obtain ⟨l, hl, e⟩ := List.mem_map.1 a1
      obtain ⟨M, hM, _, rfl⟩ := (lvs_in hf).1 hl
      rw [← e, sure_eq h (short M hM)]
      exact b3 _ (List.mem_map.2 ⟨_, List.mem_map.2 ⟨M, hM, rfl⟩, rfl⟩)
  · show ((((prs y.chairs.length y.chairs.length 0).map pI).map (sureR y (nsD y))).foldl max 0) ≤ _
    rcases b1 with b1 | b1
    · rw [b1]; exact Int.le_trans (sureR_in h (short M0 hM0)) (lv_le M0 hM0)
    · obtain ⟨l, hl, e⟩ := List.mem_map.1 b1
      obtain ⟨M, hM, rfl⟩ := List.mem_map.1 hl
      rw [← e]; exact lv_le M hM
theorem prB_prs {n : Nat} (hn : n ≤ 7) {M : List (Nat × Nat)} (hM : M ∈ prs n n 0) : (prB n (pI M)).isSome = true := by
  have ok := prs_ok n 0 (Nat.le_refl _) M hM
  exact prB_of hn M 0 (by omega) (fun p hp => by
    obtain ⟨_, h2, h3, _⟩ := ok.at_ p hp
    exact ⟨h2, h3, Nat.zero_testBit _, Nat.zero_testBit _⟩) ok.nd
theorem sure_facts {y : YardD} (h : askS y = 0) : (sureV y).2.2 = 0 ∧ (sureV y).1.length ≤ 3 ∧ (prB y.chairs.length (sureV y).1).isSome = true ∧ sureR y (nsD y) (sureV y).1 = (sureV y).2.1 ∧ (sureV y).2.1 = surestR y (nsD y) := by
  obtain ⟨hf, hne⟩ := askS_zero h
  have hn := (yOk hf).len
  have hne2 : scenesD y [] ≠ [] := fun e => hne ((ns_nil (yOk hf)).2 e)
  obtain ⟨s1, s2, s3⟩ := surest_eq h
  obtain ⟨u1, u2⟩ := upd_fold (scs := (scenesD y []).map fun p => p.1) (lvs y y.chairs.length 0 0 []) [] (-1)
  have e : sureV y = (((lvs y y.chairs.length 0 0 []).foldl (upd ((scenesD y []).map fun p => p.1)) ([], -1)).1, ((lvs y y.chairs.length 0 0 []).foldl (upd ((scenesD y []).map fun p => p.1)) ([], -1)).2, 0) := by
    unfold sureV; rw [if_neg (by omega), if_neg hne2]
  rw [e]
  simp only
  rw [s1] at u1
  have hmem : ((lvs y y.chairs.length 0 0 []).foldl (upd ((scenesD y []).map fun p => p.1)) ([], -1)).1 ∈ lvs y y.chairs.length 0 0 [] ∧ sureZ ((scenesD y []).map fun p => p.1) ((lvs y y.chairs.length 0 0 []).foldl (upd ((scenesD y []).map fun p => p.1)) ([], -1)).1 = ((lvs y y.chairs.length 0 0 []).foldl (upd ((scenesD y []).map fun p => p.1)) ([], -1)).2 := by
    rcases u2 with u2 | u2
    · rw [u2] at u1; simp only at u1; omega
    · exact u2
  obtain ⟨M, hM, _, em⟩ := (lvs_in hf).1 hmem.1
  have hp : (prB y.chairs.length ((lvs y y.chairs.length 0 0 []).foldl (upd ((scenesD y []).map fun p => p.1)) ([], -1)).1).isSome = true := by rw [em]; exact prB_prs hn hM
  have h3 := (prB_ok hn hp).2
  exact ⟨trivial, h3, hp, by rw [← sure_eq h (by omega)]; exact hmem.2, u1⟩
end Go.Fs
namespace Go.Fs
open Go.Proofs
open C7
def wordV (ws : List Int) (a : Int) : Int := if (ws.length : Int) = 0 then 0 else ws.getD (a % ws.length).toNat 0
theorem wordV_none {ws : List Int} {a : Int} (h : (ws.length : Int) = 0) : wordV ws a = 0 := if_pos h
theorem wordV_get {ws : List Int} {a x : Int} (h : ¬ (ws.length : Int) = 0) (hx : ws[(a % ws.length).toNat]? = some x) : wordV ws a = x := by
  unfold wordV; rw [if_neg h, List.getD_eq_getElem?_getD, hx]; rfl
theorem word_ok (sv : Value) (ws : List Int) (a : Int) (D : Data) (hS : Sl D (RK .u16) 1 sv ws) (ha : 0 ≤ a) (_ha2 : a ≤ 100) : Fn Try.prog 97 #[sv, .int .i64 a] D (fun _ v => v = .int .i64 (wordV ws a) ∧ 0 ≤ wordV ws a ∧ wordV ws a ≤ 65535) := by
  have hwl := hS.len
  refine enter 16 Try.func97 rfl rfl rfl rfl fun h0 => ?_
  refine C.seq ?_
  refine C.region [(false,0)] rfl ?_
  refine L.assign rfl rfl rfl trivial ?_
  refine L.nil ?_
  refine C.next ?_
  refine C.seq ?_
  refine C.seq ?_
  refine C.region [(false,0),(false,1),(false,2)] rfl ?_
  refine L.move rfl rfl rfl trivial ?_
  refine L.len rfl Try.underlying83 rfl hS rfl rfl trivial ?_
  refine L.eql rfl rfl rfl rfl trivial ?_
  refine L.nil ?_
  refine C.next ?_
  refine C.condD rfl (fun hc1 => ?_) (fun hc1 => ?_)
  · refine C.seq ?_
    refine C.region [(false,0)] rfl ?_
    refine L.assign rfl rfl rfl trivial ?_
    refine L.nil ?_
    refine C.next ?_
    refine C.ret ?_
    refine C.thenRet ?_
    exact leave (vs := [_]) rfl rfl rfl ⟨rfl, trivial⟩ (fun D hD => by rw [wordV_none hc1]; exact ⟨rfl, by omega, by omega⟩)
  · have hm1 := Int.emod_nonneg a (show (ws.length : Int) ≠ 0 by omega)
    have hm2 := Int.emod_lt_of_pos a (show (0 : Int) < ws.length by omega)
    obtain ⟨x, hx⟩ : ∃ x, ws[(a % ws.length).toNat]? = some x := ⟨_, List.getElem?_eq_getElem (by omega)⟩
    refine C.skip ?_
    refine C.next ?_
    refine C.seq ?_
    refine C.region [(false,0),(false,1),(false,2),(false,3),(false,4),(false,5),(false,6),(false,7),(false,8)] rfl ?_
    refine L.move rfl rfl rfl trivial ?_
    refine L.move rfl rfl rfl trivial ?_
    refine L.move rfl rfl rfl trivial ?_
    refine L.len rfl Try.underlying83 rfl hS rfl rfl trivial ?_
    refine L.rem rfl rfl rfl (by omega) (by omega) (by simp only [inK]; omega) rfl trivial ?_
    refine L.indexS rfl Try.underlying83 Tf.s82 rfl hS rfl (by omega) hx rfl trivial (fun b1 o1 cs1 hr1 hcl1 hA1 => ?_)
    obtain ⟨rfl, hk1⟩ := hr1
    simp only [inK] at hk1
    refine L.loadD1 rfl (k := 0) Tf.a82 rfl hA1 (by first | simp | assumption) rfl List.not_mem_nil rfl trivial ?_
    refine L.convI rfl Try.underlying82 Try.underlying3 rfl (by simp only [inK]; omega) rfl trivial ?_
    refine L.assign rfl rfl rfl trivial ?_
    refine L.nil ?_
    refine C.next ?_
    refine C.ret ?_
    exact leave (vs := [_]) rfl rfl rfl ⟨rfl, trivial⟩ (fun D hD => by rw [wordV_get hc1 hx]; exact ⟨rfl, by omega, by omega⟩)
end Go.Fs
namespace Go.Fs
open Go.Proofs
open C7
theorem ready_inB {y : YardD} (h : (!(thin y && decide (fault y = 0))) = false) : thin y = true ∧ fault y = 0 := by
  simp only [Bool.not_eq_false', Bool.and_eq_true, decide_eq_true_eq] at h; exact h
theorem firstP_iff {y : YardD} {i : Nat} : firstP y i = true ↔ scenesD (takeC y (i + 1)) [] = [] := by
  unfold firstP
  rw [Bool.not_eq_true', decide_eq_false_iff_not, ← List.length_eq_zero_iff]; omega
end Go.Fs
namespace Go.Fs
open Go.Proofs
open C7
section
variable {P : Program} {X : Cx} {γb : Type} [Membership Nat γb] {bad : γb} {all : Array Oper} {K : Act → World → Prop} {Q : Exit → Act → World → Prop}
variable {σ : Slots} {μ : Boxes} {Ds : List Data} {os : List (Bool × Nat)} {fl : Bool} {ix : Nat}
variable {d : Nat} {x y z : Operand} {u v : Value} {ty : TypeId} {pos : String} {aft : Array Edge} {g : Option (Nat × Bool)}
variable {k' : IntKind} {m n : Nat} {t t' : TypeId}
end
theorem unk_8 {y : YardD} (h : fault y = 0) : unknown y.chairs ≤ 8 := by
  unfold fault at h
  split at h
  · omega
  · split at h
    · omega
    · split at h <;> omega
theorem mod_in {a b : Nat} (h : a ≤ 65535) : -9223372036854775808 ≤ (a : Int) % (b : Int) ∧ (a : Int) % (b : Int) ≤ 9223372036854775807 := by
  have e : (a : Int) % (b : Int) = ((a % b : Nat) : Int) := rfl
  have := Nat.mod_le a b
  omega
theorem most_le {y : YardD} {t : List Pt} (h : fault y = 0) (ht : isTruth y t = true) : mostT y t ≤ 200 := by
  have hn := (yOk h).len
  obtain ⟨hl, _⟩ := truthOk ht
  exact mostS_le (scene_ok' hl (by omega)) hn
theorem nth_open {y : YardD} {D : Data} {v : Value} {n : Nat} (h : YOk y) (hS : Sl D RP 3 v (nthC y.chairs n).1) : ∃ t, Sl D RP 3 v t ∧ isTruth y t = true := ⟨_, hS, nth_truth h n⟩
/-- A list that is read as a pairing is one. -/
theorem prB_pairing {n : Nat} : ∀ (l : List (Int × Int)) (s : Nat), (l.foldl (prS n) (some s)).isSome = true → ∃ M, l = pI M ∧ (∀ p ∈ M, p.1 < p.2 ∧ p.2 < n ∧ s.testBit p.1 = false ∧ s.testBit p.2 = false) ∧ (ends M).Nodup
  | [], _, _ => ⟨[], rfl, by simp, by simp [ends]⟩
  | (a, b) :: l, s, h => by
    rw [List.foldl_cons] at h
    have e : prS n (some s) (a, b) = if ((!inB a 0 ((n : Int) - 1) || !inB b (a + 1) ((n : Int) - 1)) || decide ((((s >>> a.toNat) ||| (s >>> b.toNat) : Nat) : Int) % 2 = 1)) = true then none else some (s ||| (2 ^ a.toNat ||| 2 ^ b.toNat)) := rfl
    rw [e] at h
    split at h
    · rw [prB_none] at h; cases h
    · rename_i hc
      rw [Bool.not_eq_true, Bool.or_eq_false_iff] at hc
      obtain ⟨h1, h2, h3, h4⟩ := prB_in hc.1
      obtain ⟨x, rfl⟩ := Int.eq_ofNat_of_zero_le h1
      obtain ⟨z, rfl⟩ := Int.eq_ofNat_of_zero_le (show 0 ≤ b by omega)
      simp only [Int.toNat_natCast] at hc h
      obtain ⟨b1, b2⟩ := prS_bits hc.2
      obtain ⟨M, rfl, hM, hnd⟩ := prB_pairing l _ h
      have out : ∀ p ∈ M, (x ≠ p.1 ∧ z ≠ p.1 ∧ s.testBit p.1 = false) ∧ (x ≠ p.2 ∧ z ≠ p.2 ∧ s.testBit p.2 = false) := fun p hp => by
        obtain ⟨_, _, k3, k4⟩ := hM p hp
        rw [Nat.testBit_or, Nat.testBit_or, Nat.testBit_two_pow, Nat.testBit_two_pow, Bool.or_eq_false_iff, Bool.or_eq_false_iff, decide_eq_false_iff_not, decide_eq_false_iff_not] at k3 k4
        exact ⟨⟨k3.2.1, k3.2.2, k3.1⟩, ⟨k4.2.1, k4.2.2, k4.1⟩⟩
      refine ⟨(x, z) :: M, rfl, fun p hp => ?_, ?_⟩
      · rcases List.mem_cons.1 hp with rfl | hp
        · exact ⟨by simp only; omega, by simp only; omega, b1, b2⟩
        · obtain ⟨k1, k2, _, _⟩ := hM p hp
          exact ⟨k1, k2, (out p hp).1.2.2, (out p hp).2.2.2⟩
      · unfold ends
        rw [List.flatMap_cons]
        refine List.nodup_append.2 ⟨by simp; omega, hnd, fun u hu w hw e => ?_⟩
        subst e
        obtain ⟨p, hp, hx⟩ := mem_ends.1 hw
        have := out p hp
        simp only [List.mem_cons, List.not_mem_nil, or_false] at hu
        omega
theorem prB_pr {n : Nat} {l : List (Int × Int)} (h : (prB n l).isSome = true) : ∃ M, l = pI M ∧ Pairing n 0 0 M := by
  obtain ⟨M, e, hM, hnd⟩ := prB_pairing l 0 h
  exact ⟨M, e, fun p hp => ⟨Nat.zero_le _, (hM p hp).1, (hM p hp).2.1, (hM p hp).2.2⟩, hnd⟩
/-- No pairing makes more than the most chairs. -/
theorem makes_most {y : YardD} {t : List Pt} (h : fault y = 0) (ht : isTruth y t = true) {l : List (Int × Int)} (hl : (prB y.chairs.length l).isSome = true) : makesR y t l ≤ mostT y t := by
  obtain ⟨M, rfl, hM⟩ := prB_pr hl
  obtain ⟨hlen, _⟩ := truthOk ht
  have hn := (yOk h).len
  rw [makesR_pI]
  have := (nu_is hlen (show t.length ≤ 7 by omega)).le (M.filter fun p => fitB y t p.1 p.2) ⟨fun p hp => by
    have hf := (List.mem_filter.1 hp).2
    exact ⟨(broken_bit hf).1, (broken_bit hf).2, hf⟩, hM.nd.sublist (ends_sub List.filter_sublist)⟩
  unfold mostT mostS fitN
  have : (sceneD y t).whole = whole t := rfl
  omega
theorem foldl_min_mono {α : Type} {f g : α → Int} : ∀ (l : List α) (a b : Int), a ≤ b → (∀ x ∈ l, f x ≤ g x) → (l.map f).foldl min a ≤ (l.map g).foldl min b
  | [], _, _, h, _ => h
  | x :: l, a, b, h, hx => by
    rw [List.map_cons, List.map_cons, List.foldl_cons, List.foldl_cons]
    have := hx x List.mem_cons_self
    exact foldl_min_mono l _ _ (by omega) fun z hz => hx z (List.mem_cons_of_mem _ hz)
theorem foldl_max_ge' {α : Type} {f : α → Int} : ∀ (l : List α) (a : Int), a ≤ (l.map f).foldl max a ∧ ∀ x ∈ l, f x ≤ (l.map f).foldl max a
  | [], a => ⟨Int.le_refl _, by simp⟩
  | x :: l, a => by
    rw [List.map_cons, List.foldl_cons]
    obtain ⟨h1, h2⟩ := foldl_max_ge' (f := f) l (max a (f x))
    refine ⟨by omega, fun z hz => ?_⟩
    rcases List.mem_cons.1 hz with rfl | hz
    · omega
    · exact h2 z hz
/-- No pairing is sure of more than the sure number. -/
theorem sure_most {y : YardD} {ns : List Int} {l : List (Int × Int)} (hl : (prB y.chairs.length l).isSome = true) : sureR y ns l ≤ surestR y ns := by
  obtain ⟨M, rfl, hM⟩ := prB_pr hl
  obtain ⟨N, hN, hs⟩ := prs_has y.chairs.length 0 (Nat.le_refl _) M (by rw [Nat.sub_self]; exact hM)
  have h1 : sureR y ns (pI M) ≤ sureR y ns (pI N) := by
    unfold sureR
    refine foldl_min_mono ns 99 99 (Int.le_refl _) fun x _ => ?_
    rw [makesR_pI, makesR_pI]
    have := length_le_of_sub ((pairs_nodup hM.nd).filter fun p => fitB y (nthC y.chairs x.toNat).1 p.1 p.2) (m := N.filter fun p => fitB y (nthC y.chairs x.toNat).1 p.1 p.2) fun p hp => by
      obtain ⟨g1, g2⟩ := List.mem_filter.1 hp
      exact List.mem_filter.2 ⟨hs p g1, g2⟩
    unfold fitN
    omega
  have h2 := (foldl_max_ge' (f := sureR y ns) ((prs y.chairs.length y.chairs.length 0).map pI) 0).2 (pI N) (List.mem_map.2 ⟨N, hN, rfl⟩)
  unfold surestR
  omega
theorem Nth_ok2 (yv : Value) (y : YardD) (z : Int) (n : Nat) (D : Data) (hz : z = (n : Int)) (hy : YardIs D yv y) (hc7 : y.chairs.length ≤ 1000) (hn : n ≤ 1000000) : Fn Try.prog 54 #[yv, .int .i64 z] D (fun D' v => Sl D' RP 3 v (nthC y.chairs n).1) := by subst hz; exact Nth_ok yv y n D hy hc7 hn
theorem Play2_ok (yv tv : Value) (y : YardD) (t : List Pt) (D : Data) (hy : YardIs D yv y) (ht : Sl D RP 3 tv t) (h : fault y = 0) (hit : isTruth y t = true) : Fn Try.prog 57 #[yv, tv] D (fun _ v => v = .tuple #[.int .i64 ((mostT y t : Nat) : Int), .int .i64 0]) := by
  have := Play_ok yv tv y t D hy ht
  rw [play_eq h hit] at this
  exact this
end Go.Fs
namespace Go.Fs
open Go.Proofs
open C7
def bestS (y : YardD) (ms : List Int) (best : List Int) (b : Nat) : List Int := if (shortB (bitsL b) best && canB y ms (dif (2 ^ y.claims.length - 1) b)) = true then bitsL b else best
def bestK (y : YardD) (ms : List Int) (k : Nat) : List Int := (List.range k).foldl (bestS y ms) (bitsL (2 ^ y.claims.length - 1))
theorem bestK_succ (y : YardD) (ms : List Int) (k : Nat) : bestK y ms (k + 1) = bestS y ms (bestK y ms k) k := by
  unfold bestK; rw [List.range_succ, List.foldl_append]; rfl
def leaveR (y : YardD) (ms : List Int) : List Int := bestK y ms (2 ^ y.claims.length)
end Go.Fs
namespace Go.Fs
open Go.Proofs
open C7
/-- Some claims are right together in a truth. -/
theorem and_same {b c : Nat} : b &&& c = c ↔ ∀ j, c.testBit j = true → b.testBit j = true := by
  constructor
  · intro h j hj
    rw [← h, Nat.testBit_and, Bool.and_eq_true] at hj
    exact hj.1
  · intro h
    apply Nat.eq_of_testBit_eq
    intro j
    rw [Nat.testBit_and]
    cases e : c.testBit j with
    | false => simp
    | true => rw [h j e]; rfl
theorem can_iff {y : YardD} (h : fault y = 0) {c : Nat} : canB y (allN y) c = true ↔ ∃ t, isTruth y t = true ∧ ∀ j, c.testBit j = true → j < y.claims.length ∧ rightB y.claims (mostT y t : Nat) j = true := by
  have hyo := yOk h
  unfold canB
  rw [List.any_eq_true]
  constructor
  · rintro ⟨m, hm, he⟩
    unfold allN at hm
    obtain ⟨n, _, rfl⟩ := List.mem_map.1 hm
    refine ⟨_, nth_truth hyo n, fun j hj => ?_⟩
    have := and_same.1 (of_decide_eq_true he) j hj
    rw [bset_bit, Bool.and_eq_true, decide_eq_true_eq] at this
    exact this
  · rintro ⟨t, ht, hr⟩
    obtain ⟨n, hn, rfl⟩ := nth_onto ht
    refine ⟨mostN y n, List.mem_map.2 ⟨n, List.mem_range.2 hn, rfl⟩, decide_eq_true (and_same.2 fun j hj => ?_)⟩
    rw [bset_bit, Bool.and_eq_true, decide_eq_true_eq]
    exact hr j hj
theorem scenes_iff {y : YardD} {out : List Int} : (0 : Int) < ((scenesD y out).length : Int) ↔ ∃ t, isTruth y t = true ∧ rightO y.claims out (mostT y t : Nat) = true := by
  rw [show ((0 : Int) < ((scenesD y out).length : Int) ↔ 0 < (scenesD y out).length) by omega, List.length_pos_iff_exists_mem]
  constructor
  · rintro ⟨p, hp⟩
    obtain ⟨t, h1, h2, _⟩ := mem_scenes.1 hp
    exact ⟨t, h1, h2⟩
  · rintro ⟨t, h1, h2⟩
    exact ⟨_, mem_scenes.2 ⟨t, h1, h2, rfl⟩⟩
theorem right_iff {cl : List (Int × Int)} {out : List Int} {n : Int} : rightO cl out n = true ↔ ∀ j, j < cl.length → (∃ x ∈ out, (j : Int) = x) ∨ rightB cl n j = true := by
  unfold rightO
  rw [List.all_eq_true]
  have key : ∀ j, j < cl.length → (rightAt cl out n j = true ↔ (∃ x ∈ out, (j : Int) = x) ∨ rightB cl n j = true) := fun j hj => by
    unfold rightAt rightB
    rw [List.getElem?_eq_getElem hj, Bool.or_eq_true, List.any_eq_true]
    simp
  exact ⟨fun h j hj => (key j hj).1 (h j (List.mem_range.2 hj)), fun h j hj => (key j (List.mem_range.1 hj)).2 (h j (List.mem_range.1 hj))⟩
theorem first_can {y : YardD} (h : fault y = 0) {i : Nat} (hi : i < y.claims.length) : firstP y i = !canB y (allN y) (2 * 2 ^ i - 1) := by
  unfold firstP
  congr 1
  rw [Bool.eq_iff_iff, decide_eq_true_eq, scenes_iff, can_iff h]
  have hl : (takeC y (i + 1)).claims.length = i + 1 := by show (y.claims.take (i + 1)).length = _; rw [List.length_take]; omega
  have hb : ∀ j n, j < i + 1 → rightB (takeC y (i + 1)).claims n j = rightB y.claims n j := fun j n hj => by
    unfold rightB
    show (match (y.claims.take (i + 1))[j]? with | some r => _ | none => _) = _
    rw [List.getElem?_take, if_pos hj]
    cases y.claims[j]? <;> rfl
  have bit : ∀ j, (2 * 2 ^ i - 1).testBit j = decide (j < i + 1) := fun j => by
    rw [show 2 * 2 ^ i = 2 ^ (i + 1) by rw [Nat.pow_succ]; omega, Nat.testBit_two_pow_sub_one]
  constructor
  · rintro ⟨t, h1, h2⟩
    refine ⟨t, h1, fun j hj => ?_⟩
    rw [bit, decide_eq_true_eq] at hj
    rcases right_iff.1 h2 j (by omega) with h3 | h3
    · simp at h3
    · exact ⟨by omega, by rw [hb j _ hj] at h3; exact h3⟩
  · rintro ⟨t, h1, h2⟩
    refine ⟨t, h1, right_iff.2 fun j hj => Or.inr ?_⟩
    rw [hb j _ (by omega)]
    exact (h2 j (by rw [bit, decide_eq_true_eq]; omega)).2
theorem find_congr {p q : Nat → Bool} : ∀ {l : List Nat}, (∀ i ∈ l, p i = q i) → l.find? p = l.find? q
  | [], _ => rfl
  | x :: l, h => by
    rw [List.find?_cons, List.find?_cons, h x List.mem_cons_self, find_congr fun i hi => h i (List.mem_cons_of_mem _ hi)]
theorem first_is {y : YardD} (h : fault y = 0) : firstV y = if 0 ≤ firstR y (allN y) then (firstR y (allN y), 0) else (0, 7) := by
  unfold firstV firstR
  rw [if_neg (by omega), find_congr (q := fun i => !canB y (allN y) (2 * 2 ^ i - 1)) fun i hi => first_can h (List.mem_range.1 hi)]
  cases (List.range y.claims.length).find? (fun i => !canB y (allN y) (2 * 2 ^ i - 1)) with
  | none => rfl
  | some i => simp only; rw [if_pos (by omega)]
/-- Lists of numbers, of one length, in lexicographic order. -/
def sets (n : Nat) : Nat → Nat → List (List Int)
  | 0, _ => [[]]
  | m + 1, f => (List.range' f (n - m - f)).flatMap fun i => (sets n m (i + 1)).map fun l => (i : Int) :: l
def allS (n : Nat) : List (List Int) := (List.range' 0 (n + 1)).flatMap fun m => sets n m 0
def pos (y : YardD) (l : List Int) : Bool := decide (0 < ((scenesD y l).length : Int))
theorem try_spec {g : Nat → List Int → Bool × List Int} {S : Nat → List (List Int)} {Q : List Int → Bool} {out : List Int} : ∀ (is : List Nat), (∀ i ∈ is, ∀ fnd, (∀ l, (S i).find? Q = some l → g i fnd = (true, out ++ l)) ∧ ((S i).find? Q = none → (g i fnd).1 = false)) →
    ∀ fnd, (∀ l, (is.flatMap S).find? Q = some l → tryL g is fnd = (true, out ++ l)) ∧ ((is.flatMap S).find? Q = none → (tryL g is fnd).1 = false)
  | [], _, fnd => ⟨fun l h => by simp at h, fun _ => rfl⟩
  | i :: is, h, fnd => by
    have h0 := h i List.mem_cons_self fnd
    rw [List.flatMap_cons, List.find?_append, tryL]
    cases e : (S i).find? Q with
    | some l =>
      have := h0.1 l e
      rw [this]
      exact ⟨fun l' hl => by rw [Option.some_or] at hl; cases hl; rfl, fun hl => by rw [Option.some_or] at hl; cases hl⟩
    | none =>
      have := h0.2 e
      rw [if_neg (by rw [this]; simp), Option.none_or]
      exact try_spec is (fun i hi => h i (List.mem_cons_of_mem _ hi)) _
theorem lvG_spec {y : YardD} : ∀ (m f : Nat) (out fnd : List Int), (∀ l, (sets y.claims.length m f).find? (fun l => pos y (out ++ l)) = some l → lvG y m f out fnd = (true, out ++ l)) ∧ ((sets y.claims.length m f).find? (fun l => pos y (out ++ l)) = none → (lvG y m f out fnd).1 = false)
  | 0, f, out, fnd => by
    have e : lvG y 0 f out fnd = (pos y out, out) := rfl
    rw [e, sets, List.find?_cons, List.append_nil]
    cases hp : pos y out with
    | true => exact ⟨fun l h => by simp only [Option.some.injEq] at h; rw [← h, List.append_nil], fun h => by simp at h⟩
    | false => exact ⟨fun l h => by simp at h, fun _ => rfl⟩
  | m + 1, f, out, fnd => by
    rw [lvG, sets]
    refine try_spec _ (fun i _ fnd => ?_) fnd
    have ih := lvG_spec (y := y) m (i + 1) (out ++ [(i : Int)]) fnd
    have e : (fun l => pos y (out ++ l)) ∘ (fun l : List Int => (i : Int) :: l) = fun l => pos y ((out ++ [(i : Int)]) ++ l) := by funext l; simp
    rw [List.find?_map, e]
    cases hf : (sets y.claims.length m (i + 1)).find? (fun l => pos y ((out ++ [(i : Int)]) ++ l)) with
    | none => exact ⟨fun l h => by simp at h, fun _ => ih.2 hf⟩
    | some l => exact ⟨fun l' h => by rw [Option.map_some, Option.some.injEq] at h; rw [ih.1 l hf, ← h]; simp, fun h => by simp at h⟩
theorem leaveV_find {y : YardD} (h : fault y = 0) {l : List Int} (hl : (allS y.claims.length).find? (pos y) = some l) : leaveV y = (l, 0) := by
  have := (try_spec (g := fun m fnd => lvG y m 0 [] fnd) (S := fun m => sets y.claims.length m 0) (Q := pos y) (out := []) (List.range' 0 (y.claims.length + 1)) (fun i _ fnd => lvG_spec i 0 [] fnd) []).1 l hl
  unfold leaveV
  rw [if_neg (by omega)]
  show ((tryL (fun m fnd => lvG y m 0 [] fnd) (List.range' 0 (y.claims.length + 1)) []).2, (0 : Int)) = _
  rw [this]; rfl
theorem lex_trans : ∀ {a b c : List Int}, lexB a b = true → lexB b c = true → lexB a c = true
  | [], b, c, h1, h2 => by
    cases b with
    | nil => simp [lexB] at h1
    | cons z b =>
      cases c with
      | nil => simp [lexB] at h2
      | cons w c => simp [lexB]
  | x :: a, b, c, h1, h2 => by
    cases b with
    | nil => simp [lexB] at h1
    | cons z b =>
      cases c with
      | nil => simp [lexB] at h2
      | cons w c =>
        rw [lexB] at h1 h2 ⊢
        split at h1 <;> split at h2
        · rename_i e1 e2; rw [if_pos (e1.trans e2)]; exact lex_trans h1 h2
        · rename_i e1 e2; have := of_decide_eq_true h2; rw [if_neg (by omega), decide_eq_true_eq]; omega
        · rename_i e1 e2; have := of_decide_eq_true h1; rw [if_neg (by omega), decide_eq_true_eq]; omega
        · rename_i e1 e2; have := of_decide_eq_true h1; have := of_decide_eq_true h2; rw [if_neg (by omega), decide_eq_true_eq]; omega
theorem short_trans {a b c : List Int} (h1 : shortB a b = true) (h2 : shortB b c = true) : shortB a c = true := by
  simp only [shortB, Bool.or_eq_true, Bool.and_eq_true, decide_eq_true_eq] at *
  rcases h1 with h1 | h1 <;> rcases h2 with h2 | h2
  · left; omega
  · left; omega
  · left; omega
  · right; exact ⟨by omega, lex_trans h1.2 h2.2⟩
theorem sets_facts : ∀ n, n ≤ 5 → (allS n).Pairwise (fun a b => shortB a b = true) ∧ (∀ b, b < 2 ^ n → bitsL b ∈ allS n) ∧ ∀ l ∈ allS n, ∃ b, b < 2 ^ n ∧ l = bitsL b := by decide +kernel
theorem mem_bits {m j : Nat} : (∃ x ∈ bitsL m, (j : Int) = x) ↔ j < 7 ∧ m.testBit j = true := by
  unfold bitsL bitsK
  constructor
  · rintro ⟨x, hx, e⟩
    obtain ⟨i, hi, rfl⟩ := List.mem_map.1 hx
    obtain rfl : j = i := by omega
    rw [List.mem_filter, List.mem_range] at hi; exact hi
  · rintro ⟨h1, h2⟩
    exact ⟨(j : Int), List.mem_map.2 ⟨j, List.mem_filter.2 ⟨List.mem_range.2 h1, h2⟩, rfl⟩, rfl⟩
theorem pos_can {y : YardD} (h : fault y = 0) {b : Nat} : pos y (bitsL b) = canB y (allN y) (dif (2 ^ y.claims.length - 1) b) := by
  have h5 := (yOk h).cls
  unfold pos
  have bit : ∀ j, (dif (2 ^ y.claims.length - 1) b).testBit j = (decide (j < y.claims.length) && !b.testBit j) := fun j => by rw [dif_bit, Nat.testBit_two_pow_sub_one]
  rw [Bool.eq_iff_iff, decide_eq_true_eq, scenes_iff, can_iff h]
  constructor
  · rintro ⟨t, h1, h2⟩
    refine ⟨t, h1, fun j hj => ?_⟩
    rw [bit, Bool.and_eq_true, decide_eq_true_eq, Bool.not_eq_true'] at hj
    refine ⟨hj.1, ?_⟩
    rcases right_iff.1 h2 j hj.1 with h3 | h3
    · rw [(mem_bits.1 h3).2] at hj; simp at hj
    · exact h3
  · rintro ⟨t, h1, h2⟩
    refine ⟨t, h1, right_iff.2 fun j hj => ?_⟩
    cases e : b.testBit j with
    | true => exact Or.inl (mem_bits.2 ⟨by omega, e⟩)
    | false => exact Or.inr (h2 j (by rw [bit, e]; simp [hj])).2
theorem lex_irr : ∀ a : List Int, lexB a a = false
  | [] => rfl
  | x :: a => by rw [lexB, if_pos rfl]; exact lex_irr a
theorem best_inv {y : YardD} (h : fault y = 0) : ∀ k, k ≤ 2 ^ y.claims.length → (∃ b, b < 2 ^ y.claims.length ∧ bestK y (allN y) k = bitsL b ∧ pos y (bitsL b) = true) ∧ ∀ b, b < k → pos y (bitsL b) = true → shortB (bitsL b) (bestK y (allN y) k) = false
  | 0, _ => by
    have hp1 : 1 ≤ 2 ^ y.claims.length := Nat.one_le_two_pow
    refine ⟨⟨2 ^ y.claims.length - 1, by omega, rfl, ?_⟩, by omega⟩
    rw [pos_can h, can_iff h]
    refine ⟨_, nth_truth (yOk h) 0, fun j hj => ?_⟩
    rw [dif_bit] at hj; simp at hj
  | k + 1, hk => by
    obtain ⟨⟨b0, h0, e0, p0⟩, h1⟩ := best_inv h k (by omega)
    rw [bestK_succ]
    unfold bestS
    split
    · rename_i hc
      rw [Bool.and_eq_true, ← pos_can h] at hc
      refine ⟨⟨k, by omega, rfl, hc.2⟩, fun b hb hp => ?_⟩
      cases e : shortB (bitsL b) (bitsL k) with
      | false => rfl
      | true =>
        have h2 := short_trans e hc.1
        rcases Nat.lt_succ_iff_lt_or_eq.1 hb with hb | rfl
        · rw [h1 b hb hp] at h2; cases h2
        · exfalso
          simp only [shortB, Bool.or_eq_true, Bool.and_eq_true, decide_eq_true_eq] at e
          rcases e with e | e
          · omega
          · exact absurd e.2 (by rw [lex_irr]; simp)
    · rename_i hc
      refine ⟨⟨b0, h0, e0, p0⟩, fun b hb hp => ?_⟩
      rcases Nat.lt_succ_iff_lt_or_eq.1 hb with hb | rfl
      · exact h1 b hb hp
      · rw [← pos_can h, hp, Bool.and_true] at hc
        simpa using hc
theorem leave_is {y : YardD} (h : fault y = 0) : leaveV y = (leaveR y (allN y), 0) := by
  obtain ⟨f1, f2, f3⟩ := sets_facts _ (yOk h).cls
  obtain ⟨⟨b0, h0, e0, p0⟩, h1⟩ := best_inv h (2 ^ y.claims.length) (Nat.le_refl _)
  have hm := f2 b0 h0
  cases e : (allS y.claims.length).find? (pos y) with
  | none => rw [List.find?_eq_none] at e; exact absurd p0 (e _ hm)
  | some l =>
    rw [leaveV_find h e]
    obtain ⟨hp, L1, L2, el, hn⟩ := List.find?_eq_some_iff_append.1 e
    rw [el] at hm f1
    obtain ⟨b1, g1, rfl⟩ := f3 l (List.mem_of_find?_eq_some e)
    have hL := h1 b1 g1 hp
    unfold leaveR
    rw [e0] at hL ⊢
    rcases List.mem_append.1 hm with hm | hm
    · have := hn _ hm; rw [p0] at this; simp at this
    · rcases List.mem_cons.1 hm with hm | hm
      · rw [hm]
      · have := (List.pairwise_cons.1 (List.pairwise_append.1 f1).2.1).1 _ hm
        rw [hL] at this; cases this
end Go.Fs
