/- Walks: the law MendPairs. -/
import Derived.Test.YtjhdcelmgfajbaaW21
namespace Go.Fs
open Go.Proofs
open C7
theorem ip_bit (s x z : Nat) : (((s &&& (2 ^ x ||| 2 ^ z) : Nat) : Int) ≠ 0) ↔ (((s >>> x ||| s >>> z : Nat) : Int) % 2 = 1) := by
  constructor
  · intro h
    cases e : decide ((((s >>> x) ||| (s >>> z) : Nat) : Int) % 2 = 1) with
    | true => exact of_decide_eq_true e
    | false =>
      obtain ⟨h1, h2⟩ := prS_bits e
      refine absurd ?_ h
      have : s &&& (2 ^ x ||| 2 ^ z) = 0 := Nat.eq_of_testBit_eq fun i => by
        rw [Nat.testBit_and, Nat.testBit_or, Nat.testBit_two_pow, Nat.testBit_two_pow, Nat.zero_testBit]
        by_cases hx : x = i
        · subst hx; rw [h1]; rfl
        · by_cases hz : z = i
          · subst hz; rw [h2]; rfl
          · simp [hx, hz]
      rw [this]; rfl
  · intro h e
    have e0 : s &&& (2 ^ x ||| 2 ^ z) = 0 := by omega
    have b : ∀ i, i = x ∨ i = z → s.testBit i = false := fun i hi => by
      have := congrArg (fun n => Nat.testBit n i) e0
      simp only [Nat.testBit_and, Nat.testBit_or, Nat.testBit_two_pow, Nat.zero_testBit] at this
      rcases hi with rfl | rfl <;> simpa using this
    have key : ((s >>> x) ||| (s >>> z)).testBit 0 = false := by
      rw [Nat.testBit_or, Nat.testBit_shiftRight, Nat.testBit_shiftRight, Nat.add_zero, Nat.add_zero, b x (Or.inl rfl), b z (Or.inr rfl)]; rfl
    rw [Nat.testBit_zero, decide_eq_false_iff_not] at key
    omega
theorem ip_go {n s x z : Nat} (hn : n ≤ 7) (hs : s < 128) (h2 : (!inB (x : Int) 0 ((n : Int) - 1) || !inB (z : Int) ((x : Int) + 1) ((n : Int) - 1)) = false) (h3 : ¬ ((s &&& (2 ^ x ||| 2 ^ z) : Nat) : Int) ≠ 0) : prS n (some s) ((x : Int), (z : Int)) = some (s ||| (2 ^ x ||| 2 ^ z)) ∧ s ||| (2 ^ x ||| 2 ^ z) < 128 := by
  rw [ip_bit] at h3
  obtain ⟨x', z', e1, e2, _, _, h4, h5⟩ := prS_yes (n := n) (a := (x : Int)) (b := (z : Int)) hn hs (by rw [h2, Bool.false_or, decide_eq_false_iff_not, Int.toNat_natCast, Int.toNat_natCast]; exact h3)
  obtain rfl : x = x' := by omega
  obtain rfl : z = z' := by omega
  exact ⟨h4, h5⟩
theorem ip_no {n s x z : Nat} (h3 : ((s &&& (2 ^ x ||| 2 ^ z) : Nat) : Int) ≠ 0) : ((!inB (x : Int) 0 ((n : Int) - 1) || !inB (z : Int) ((x : Int) + 1) ((n : Int) - 1)) || decide ((((s >>> (x : Int).toNat) ||| (s >>> (z : Int).toNat) : Nat) : Int) % 2 = 1)) = true := by
  rw [Bool.or_eq_true]; right
  rw [decide_eq_true_eq, Int.toNat_natCast, Int.toNat_natCast]; exact (ip_bit s x z).1 h3
theorem back_ok (lv : Value) (l : List (Int × Int)) (D : Data) (ht : Sl D R2 2 lv l) (hl : l.length ≤ 9) : Fn Try.prog 31 #[lv] D (fun D' v => Sl D' R2 2 v l) := by
  have hll := hl
  refine enter 30 Try.func31 rfl rfl rfl rfl fun h0 => ?_
  refine C.seq ?_
  refine C.region [(false,0)] rfl ?_
  refine L.assign rfl rfl rfl trivial ?_
  refine L.nil ?_
  refine C.next ?_
  refine C.seq ?_
  refine C.region [(false,0)] rfl ?_
  refine L.assign rfl rfl rfl trivial ?_
  refine L.nil ?_
  refine C.next ?_
  refine C.seq ?_
  refine C.seq ?_
  refine C.region [(false,0)] rfl ?_
  refine L.assign rfl rfl rfl trivial ?_
  refine L.nil ?_
  refine C.next ?_
  refine C.block ?_
  refine C.loopR (γ := Nat × Value × Boxes) (fun g => l.length - g.1) (fun g => g.1 ≤ l.length ∧ Acc 130 2 g.2.1 g.1 (prC (l.take g.1)) g.2.2) (fun g => [(4, .int .i64 (g.1 : Int)), (3, g.2.1)]) [(2, _), (0, _)] (fun g => g.2.2 ++ []) (fun g => [D]) (0, .slice none 0 0, []) ⟨by simp, by simpa [prC] using Acc.nil⟩ ⟨(by first | rfl | (show some (Value.int _ _) = some (Value.int _ _); congr 2; omega)), (by first | rfl | (show some (Value.int _ _) = some (Value.int _ _); congr 2; omega)), trivial⟩ ⟨rfl, rfl, trivial⟩ (List.Sublist.refl _) (ds_same) ?_
  rintro ⟨k, v, ν⟩ ⟨hk1, ha⟩
  simp only at hk1 ha
  refine C.seq ?_
  refine C.seq ?_
  refine C.region [(false,0),(false,1),(false,2),(false,3),(false,4),(false,5),(false,6),(false,7)] rfl ?_
  refine L.move rfl rfl rfl trivial ?_
  refine L.move rfl rfl rfl trivial ?_
  refine L.len rfl Try.underlying30 rfl ht rfl rfl trivial ?_
  refine L.lss rfl rfl rfl rfl trivial ?_
  refine L.move rfl rfl rfl trivial ?_
  refine' L.and [(false,5),(false,6),(false,7)] [] (s := 9) (p := 12) rfl rfl (fun hg1 => ?_) (fun hg1 => ?_) ?_
  rotate_left
  · refine L.move rfl rfl rfl ⟨_, rfl, rfl⟩ ?_
    refine L.lss rfl rfl rfl rfl ⟨_, rfl, rfl⟩ ?_
    refine L.pickT rfl rfl rfl rfl trivial ?_
    exact L.nil fun a w hh => hh.cutK 2 rfl
  · refine L.pass rfl rfl rfl ⟨_, _, rfl, rfl, rfl⟩ ?_
    refine L.pass rfl rfl rfl ⟨_, _, rfl, rfl, rfl⟩ ?_
    refine L.pickF rfl rfl rfl rfl trivial ?_
    exact L.nil fun a w hh => hh.cutK 2 rfl
  refine L.nil ?_
  refine C.next ?_
  refine C.cond rfl (fun hc1 => ?_) (fun hc1 => ?_)
  · have hk : k < l.length := by simp only [Bool.and_eq_true, decide_eq_true_eq] at hc1; omega
    obtain ⟨x, hx⟩ : ∃ x, l[k]? = some x := ⟨_, List.getElem?_eq_getElem hk⟩
    refine C.skip ?_
    refine C.next ?_
    refine C.seq ?_
    refine C.block ?_
    refine C.draw [] 6 [0,1,2,3,4,5,6,7,8,9,10,11,12,13,14] [false,true,true,true,true,true,true,true,true,true,true,true,true,false,false] [(false,0),(true,1),(true,2),(true,3),(true,4),(true,5),(true,6),(true,7),(true,8),(true,9),(true,10),(true,11),(true,12),(false,13),(false,14)] Tf.follows (fun _ _ _ h => np_body (P := Try.prog) (fn := Try.f31) _ _ _ h) (by kernel_rfl) rfl ?_
    refine L.move rfl rfl rfl trivial ?_
    refine L.move rfl rfl rfl trivial ?_
    refine L.move rfl rfl rfl trivial ?_
    refine L.indexS rfl Try.underlying30 Tf.s111 rfl ht rfl (by omega) hx rfl trivial (fun b1 o1 cs1 hr1 hcl1 hA1 => ?_)
    obtain rfl : cs1 = [.int .i64 _, .int .i64 _] := hr1
    refine L.fieldAddr rfl Tf.f111_0 rfl rfl trivial ?_
    refine L.loadD1 rfl (k := 0) Tf.a3 rfl hA1 (by first | simp | assumption) rfl List.not_mem_nil rfl trivial ?_
    refine L.move rfl rfl rfl trivial ?_
    refine L.move rfl rfl rfl trivial ?_
    refine L.indexS rfl Try.underlying30 Tf.s111 rfl ht rfl (by omega) hx rfl trivial (fun b2 o2 cs2 hr2 hcl2 hA2 => ?_)
    obtain rfl : cs2 = [.int .i64 _, .int .i64 _] := hr2
    refine L.fieldAddr rfl Tf.f111_1 rfl rfl trivial ?_
    refine L.loadD1 rfl (k := 1) Tf.a3 rfl hA2 (by first | simp | assumption) rfl List.not_mem_nil rfl trivial ?_
    refine L.build (cs := [.int .i64 x.1, .int .i64 x.2]) rfl Tf.p130 Tf.z130 rfl rfl rfl trivial ?_
    refine L.buildSlice rfl Try.underlying27 Tf.s130 Tf.z130 rfl rfl rfl rfl (.cons rfl rfl .nil) rfl trivial (fun b901 D901 hD901 hA901 => ?_)
    refine L.append (A := []) (B := []) rfl Try.underlying27 rfl rfl Tf.s130 Tf.z130 rfl Tf.i130 rfl rfl rfl ha (Src.lit hA901) (by simp) rfl (prC_lenn _ _ (by simp; omega)) (by simp [cell1]) (by omega) (Or.inl rfl) rfl trivial (fun v7 ν7 ha7 => ?_)
    have hn7 : Acc 130 2 v7 (k + 1) (prC (l.take (k + 1))) ν7 := by rw [List.take_add_one, hx, Option.toList_some, prC_snoc]; simpa using ha7
    refine L.assign rfl rfl rfl trivial ?_
    refine L.nil ?_
    refine C.blockEnd ?_
    refine C.next ?_
    refine C.region [(false,0),(false,1),(false,2)] rfl ?_
    refine L.move rfl rfl rfl trivial ?_
    refine L.add rfl rfl rfl (by simp only [inK]; omega) rfl trivial ?_
    refine L.assign rfl rfl rfl trivial ?_
    refine L.nil ?_
    exact C.againR 26 (k + 1, v7, ν7) ⟨by simp only; omega, hn7⟩ (by simp only; omega) ⟨(by first | rfl | (show some (Value.int _ _) = some (Value.int _ _); congr 2; omega)), (by first | rfl | (show some (Value.int _ _) = some (Value.int _ _); congr 2; omega)), trivial⟩ rfl rfl (List.Sublist.refl _) (fun D h => ⟨D, List.Mem.tail _ (h), Le.refl D⟩)
  · obtain rfl : k = l.length := by simp only [Bool.and_eq_false_iff, decide_eq_false_iff_not] at hc1; omega
    rw [List.take_length] at ha
    refine C.exit ?_
    refine C.thenExit ?_
    refine C.thenExit ?_
    refine C.blockExit ?_
    refine C.next ?_
    refine C.seq ?_
    refine C.region [(false,0),(false,1)] rfl ?_
    refine L.move rfl rfl rfl trivial ?_
    refine L.assign rfl rfl rfl trivial ?_
    refine L.nil ?_
    refine C.next ?_
    refine C.ret ?_
    refine Q.freeze (A := []) (B := []) ha rfl (fun D2 hD2 hF => ?_)
    exact leave (vs := [_]) rfl rfl rfl ⟨rfl, trivial⟩ (fun D' hD => (hF.prs rfl (by omega)).up R2.up (hD _ (by simp)))
theorem IsPairing_ok (yv lv : Value) (y : YardD) (l : List (Int × Int)) (D : Data) (hy : YardIs D yv y) (hl : Sl D R2 2 lv l) (hn7 : y.chairs.length ≤ 7) : Fn Try.prog 29 #[yv, lv] D (fun _ v => v = .bool (prB y.chairs.length l).isSome) := by
  obtain ⟨cv, qv, rfl, hc, hq⟩ := hy
  have hll := hl.len
  refine enter 56 Try.func29 rfl rfl rfl rfl fun h0 => ?_
  refine C.seq ?_
  refine C.region [(false,0),(false,1)] rfl ?_
  refine L.boxD rfl rfl rfl rfl trivial (fun q1 E1 hE1 hB1 => ?_)
  refine L.assign rfl rfl rfl trivial ?_
  refine L.nil ?_
  refine C.next ?_
  refine C.seq ?_
  refine C.region [(false,0)] rfl ?_
  refine L.assign rfl rfl rfl trivial ?_
  refine L.nil ?_
  refine C.next ?_
  refine C.seq ?_
  refine C.seq ?_
  refine C.region [(false,0)] rfl ?_
  refine L.assign rfl rfl rfl trivial ?_
  refine L.nil ?_
  refine C.next ?_
  refine C.block ?_
  refine C.loopC (γ := Nat × Nat) (fun g => l.length - g.1) (fun g => g.1 ≤ l.length ∧ g.2 < 128 ∧ prB y.chairs.length (l.take g.1) = some g.2) (fun g => [(6, .int .i64 (g.1 : Int)), (5, .int .i64 (g.2 : Int))]) [(4, _), (2, _), (1, _)] (fun g => [E1, D]) (0, 0) ⟨by simp, by simp, rfl⟩ ⟨(by first | rfl | (show some (Value.int _ _) = some (Value.int _ _); congr 2; omega)), (by first | rfl | (show some (Value.int _ _) = some (Value.int _ _); congr 2; omega)), trivial⟩ ⟨rfl, rfl, rfl, trivial⟩ (ds_same) ?_
  rintro ⟨k, sn⟩ ⟨h1, h2, h3⟩
  simp only at h1 h2 h3
  refine C.seq ?_
  refine C.seq ?_
  refine C.region [(false,0),(false,1),(false,2),(false,3)] rfl ?_
  refine L.move rfl rfl rfl trivial ?_
  refine L.move rfl rfl rfl trivial ?_
  refine L.len rfl Try.underlying27 rfl hl rfl rfl trivial ?_
  refine L.lss rfl rfl rfl rfl trivial ?_
  refine L.nil ?_
  refine C.next ?_
  refine C.condD rfl (fun hc1 => ?_) (fun hc1 => ?_)
  · have hk : k < l.length := by omega
    obtain ⟨⟨pa, pb⟩, hp0⟩ : ∃ p, l[k]? = some p := ⟨_, List.getElem?_eq_getElem hk⟩
    refine C.skip ?_
    refine C.next ?_
    refine C.seq ?_
    refine C.block ?_
    refine C.seq ?_
    refine C.region [(false,0),(false,1),(false,2),(false,3),(false,4),(false,5)] rfl ?_
    refine L.move rfl rfl rfl trivial ?_
    refine L.move rfl rfl rfl trivial ?_
    refine L.indexS rfl Try.underlying27 Tf.s130 rfl hl rfl (by omega) hp0 rfl trivial (fun b1 o1 cs1 hr1 hcl1 hA1 => ?_)
    obtain rfl : cs1 = [.int .i64 _, .int .i64 _] := hr1
    refine L.loadDW rfl Tf.a130 rfl hA1 (by first | simp | assumption) Tf.s130 List.not_mem_nil rfl trivial ?_
    refine L.alloc rfl Tf.z130 rfl rfl trivial (fun q2 => ?_)
    refine L.storeW rfl rfl rfl rfl Tf.s130 (by first | rfl | (simp only [ints_length, *]; done) | (simp only [ints_length, *]; rfl) | (simp only [ints_length, *]; omega)) (by first | rfl | (simp only [ints_length, *]; done) | (simp only [ints_length, *]; rfl) | (simp only [ints_length, *]; omega)) (Has.head) (by first | exact ints_cell1 _ | simp [cell1]) trivial ?_
    refine L.nil ?_
    refine C.next ?_
    refine C.seq ?_
    refine C.seq ?_
    refine C.region [(false,0),(false,1),(false,2),(false,3),(false,4),(false,5),(false,6),(false,7),(false,8),(false,9),(false,10),(false,11),(false,12),(false,13),(false,14),(false,15),(false,16),(false,17),(false,18),(false,19),(false,20)] rfl ?_
    refine L.fieldAddr rfl Tf.f130_0 rfl rfl trivial ?_
    refine L.loadB1 rfl Tf.a3 rfl (List.Mem.head _) rfl List.not_mem_nil rfl trivial ?_
    refine L.fieldAddr rfl Tf.f25_0 rfl rfl trivial ?_
    refine L.loadD1 rfl (k := 0) Tf.a22 rfl hB1 (by first | simp | assumption) rfl List.not_mem_nil rfl trivial ?_
    refine L.len rfl Try.underlying22 rfl hc rfl rfl trivial ?_
    refine L.sub rfl rfl rfl (by simp only [inK]; omega) rfl trivial ?_
    refine L.callV rfl rfl rfl (fun D1 hD1 => In_ok _ _ _ _) rfl trivial ?_
    refine L.not rfl rfl rfl trivial ?_
    refine L.move rfl rfl rfl trivial ?_
    refine' L.or [(false,9),(false,10),(false,11),(false,12),(false,13),(false,14),(false,15),(false,16),(false,17),(false,18),(false,19),(false,20)] [] (s := 27) (p := 39) rfl rfl (fun hg1 => ?_) (fun hg1 => ?_) ?_
    rotate_left
    · obtain ⟨ha4, hb4⟩ := prB_in1 hg1
      refine L.fieldAddr rfl Tf.f130_1 rfl rfl ⟨_, rfl, rfl⟩ ?_
      refine L.loadB1 rfl Tf.a3 rfl (List.Mem.head _) rfl List.not_mem_nil rfl ⟨_, rfl, rfl⟩ ?_
      refine L.fieldAddr rfl Tf.f130_0 rfl rfl ⟨_, rfl, rfl⟩ ?_
      refine L.loadB1 rfl Tf.a3 rfl (List.Mem.head _) rfl List.not_mem_nil rfl ⟨_, rfl, rfl⟩ ?_
      refine L.add rfl rfl rfl (by simp only [inK]; omega) rfl ⟨_, rfl, rfl⟩ ?_
      refine L.fieldAddr rfl Tf.f25_0 rfl rfl ⟨_, rfl, rfl⟩ ?_
      refine L.loadD1 rfl (k := 0) Tf.a22 rfl hB1 (by first | simp | assumption) rfl List.not_mem_nil rfl ⟨_, rfl, rfl⟩ ?_
      refine L.len rfl Try.underlying22 rfl hc rfl rfl ⟨_, rfl, rfl⟩ ?_
      refine L.sub rfl rfl rfl (by simp only [inK]; omega) rfl ⟨_, rfl, rfl⟩ ?_
      refine L.callV rfl rfl rfl (fun D2 hD2 => In_ok _ _ _ _) rfl ⟨_, rfl, rfl⟩ ?_
      refine L.not rfl rfl rfl ⟨_, rfl, rfl⟩ ?_
      refine L.pickF rfl rfl rfl rfl trivial ?_
      exact L.nil fun a w hh => hh.cutK 11 rfl
    · refine L.pass rfl rfl rfl ⟨_, _, rfl, rfl, rfl⟩ ?_
      refine L.pass rfl rfl rfl ⟨_, _, rfl, rfl, rfl⟩ ?_
      refine L.pass rfl rfl rfl ⟨_, _, rfl, rfl, rfl⟩ ?_
      refine L.pass rfl rfl rfl ⟨_, _, rfl, rfl, rfl⟩ ?_
      refine L.pass rfl rfl rfl ⟨_, _, rfl, rfl, rfl⟩ ?_
      refine L.pass rfl rfl rfl ⟨_, _, rfl, rfl, rfl⟩ ?_
      refine L.pass rfl rfl rfl ⟨_, _, rfl, rfl, rfl⟩ ?_
      refine L.pass rfl rfl rfl ⟨_, _, rfl, rfl, rfl⟩ ?_
      refine L.pass rfl rfl rfl ⟨_, _, rfl, rfl, rfl⟩ ?_
      refine L.pass rfl rfl rfl ⟨_, _, rfl, rfl, rfl⟩ ?_
      refine L.pass rfl rfl rfl ⟨_, _, rfl, rfl, rfl⟩ ?_
      refine L.pickT rfl rfl rfl rfl trivial ?_
      exact L.nil fun a w hh => hh.cutK 11 rfl
    refine L.nil ?_
    refine C.next ?_
    refine C.cond rfl (fun hc2 => ?_) (fun hc2 => ?_)
    · refine C.seq ?_
      refine C.region [(false,0)] rfl ?_
      refine L.assign rfl rfl rfl trivial ?_
      refine L.nil ?_
      refine C.next ?_
      refine C.ret ?_
      refine C.thenRet ?_
      refine C.blockRet ?_
      refine C.thenRet ?_
      refine C.thenRet ?_
      refine C.blockRet ?_
      refine C.thenRet ?_
      exact leave (vs := [_]) rfl rfl rfl ⟨rfl, trivial⟩ (fun D hD => by show Value.bool _ = _; rw [prB_no hp0 h3 hn7 h2 (by rw [hc2]; rfl)]; rfl)
    · obtain ⟨ha5, hb5, hc5, hd5⟩ := prB_in hc2
      obtain ⟨x, rfl⟩ := Int.eq_ofNat_of_zero_le ha5
      obtain ⟨z, rfl⟩ := Int.eq_ofNat_of_zero_le (show 0 ≤ pb by omega)
      have hx7 : x < 7 := by omega
      have hz7 : z < 7 := by omega
      have hxp := pow_lt7 hx7
      have hzp := pow_lt7 hz7
      have hxz := or_lt7 hxp hzp
      refine C.skip ?_
      refine C.next ?_
      refine C.seq ?_
      refine C.region [(false,0),(false,1),(false,2),(false,3),(false,4),(false,5),(false,6),(false,7),(false,8),(false,9)] rfl ?_
      refine L.fieldAddr rfl Tf.f130_0 rfl rfl trivial ?_
      refine L.loadB1 rfl Tf.a3 rfl (List.Mem.head _) rfl List.not_mem_nil rfl trivial ?_
      refine L.convI rfl Try.underlying3 Try.underlying88 rfl (by simp only [inK]; omega) rfl trivial ?_
      refine L.shl1U rfl rfl rfl (by omega) rfl trivial ?_
      refine L.fieldAddr rfl Tf.f130_1 rfl rfl trivial ?_
      refine L.loadB1 rfl Tf.a3 rfl (List.Mem.head _) rfl List.not_mem_nil rfl trivial ?_
      refine L.convI rfl Try.underlying3 Try.underlying88 rfl (by simp only [inK]; omega) rfl trivial ?_
      refine L.shl1U rfl rfl rfl (by omega) rfl trivial ?_
      refine L.orB rfl rfl rfl (by omega) (by omega) rfl trivial ?_
      refine L.assign rfl rfl rfl trivial ?_
      refine L.nil ?_
      refine C.next ?_
      refine C.seq ?_
      refine C.seq ?_
      refine C.region [(false,0),(false,1),(false,2),(false,3)] rfl ?_
      refine L.move rfl rfl rfl trivial ?_
      refine L.move rfl rfl rfl trivial ?_
      refine L.andN rfl rfl rfl (by omega) (by omega) rfl trivial ?_
      refine L.neq rfl rfl rfl rfl trivial ?_
      refine L.nil ?_
      refine C.next ?_
      refine C.condD rfl (fun hc3 => ?_) (fun hc3 => ?_)
      · refine C.seq ?_
        refine C.region [(false,0)] rfl ?_
        refine L.assign rfl rfl rfl trivial ?_
        refine L.nil ?_
        refine C.next ?_
        refine C.ret ?_
        refine C.thenRet ?_
        refine C.blockRet ?_
        refine C.thenRet ?_
        refine C.thenRet ?_
        refine C.blockRet ?_
        refine C.thenRet ?_
        exact leave (vs := [_]) rfl rfl rfl ⟨rfl, trivial⟩ (fun D hD => by show Value.bool _ = _; rw [prB_no hp0 h3 hn7 h2 (ip_no hc3)]; rfl)
      · obtain ⟨hst, hor⟩ := ip_go hn7 h2 hc2 hc3
        refine C.skip ?_
        refine C.next ?_
        refine C.region [(false,0),(false,1),(false,2),(false,3)] rfl ?_
        refine L.move rfl rfl rfl trivial ?_
        refine L.move rfl rfl rfl trivial ?_
        refine L.orB rfl rfl rfl (by omega) (by omega) rfl trivial ?_
        refine L.assign rfl rfl rfl trivial ?_
        refine L.nil ?_
        refine C.blockEnd ?_
        refine C.next ?_
        refine C.region [(false,0),(false,1),(false,2)] rfl ?_
        refine L.move rfl rfl rfl trivial ?_
        refine L.add rfl rfl rfl (by simp only [inK]; omega) rfl trivial ?_
        refine L.assign rfl rfl rfl trivial ?_
        refine L.nil ?_
        exact C.againR 42 (k + 1, sn ||| (2 ^ x ||| 2 ^ z)) ⟨by simp only; omega, hor, by simp only; rw [prB_snoc hp0, h3]; exact hst⟩ (by simp only; omega) ⟨(by first | rfl | (show some (Value.int _ _) = some (Value.int _ _); congr 2; omega)), (by first | rfl | (show some (Value.int _ _) = some (Value.int _ _); congr 2; omega)), trivial⟩ rfl rfl (List.Sublist.cons _ (List.Sublist.refl _)) (ds_same)
  · obtain rfl : k = l.length := by omega
    rw [List.take_length] at h3
    refine C.exit ?_
    refine C.thenExit ?_
    refine C.thenExit ?_
    refine C.blockExit ?_
    refine C.next ?_
    refine C.seq ?_
    refine C.region [(false,0)] rfl ?_
    refine L.assign rfl rfl rfl trivial ?_
    refine L.nil ?_
    refine C.next ?_
    refine C.ret ?_
    exact leave (vs := [_]) rfl rfl rfl ⟨rfl, trivial⟩ (fun D hD => by show Value.bool _ = _; rw [h3]; rfl)
end Go.Fs
