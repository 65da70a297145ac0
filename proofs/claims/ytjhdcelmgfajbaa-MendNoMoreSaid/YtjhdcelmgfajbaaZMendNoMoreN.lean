/- Of the proof of MendNoMore: W38, W33, W39. -/
import Derived.Test.YtjhdcelmgfajbaaZMendNoMoreM
import Derived.Test.YtjhdcelmgfajbaaZMendNoMoreC
namespace Go.Fs
open Go.Proofs
open C7
def wordV (ws : List Int) (a : Int) : Int := if (ws.length : Int) = 0 then 0 else ws.getD (a % ws.length).toNat 0
theorem wordV_none {ws : List Int} {a : Int} (h : (ws.length : Int) = 0) : wordV ws a = 0 := if_pos h
theorem wordV_get {ws : List Int} {a x : Int} (h : ¬ (ws.length : Int) = 0) (hx : ws[(a % ws.length).toNat]? = some x) : wordV ws a = x := by
  unfold wordV; rw [if_neg h, List.getD_eq_getElem?_getD, hx]; rfl
/-- So far: a pairing, and which chairs from one on are in it. -/
def PInv (n i sn : Nat) (l : List (Int × Int)) : Prop := ∃ s, prB n l = some s ∧ s < 128 ∧ ∀ x, i ≤ x → s.testBit x = sn.testBit x
theorem pinv_nil (n : Nat) : PInv n 0 0 [] := ⟨0, rfl, by omega, fun _ _ => rfl⟩
theorem pinv_skip {n i sn : Nat} {l : List (Int × Int)} (h : PInv n i sn l) : PInv n (i + 1) sn l := by
  obtain ⟨s, h1, h2, h3⟩ := h
  exact ⟨s, h1, h2, fun x hx => h3 x (by omega)⟩
theorem PInv.ok {n i sn : Nat} {l : List (Int × Int)} (h : PInv n i sn l) : (prB n l).isSome = true := by
  obtain ⟨s, h1, _⟩ := h
  rw [h1]; rfl
theorem PInv.len {n i sn : Nat} {l : List (Int × Int)} (h : PInv n i sn l) (hn : n ≤ 7) : l.length ≤ 3 := (prB_ok hn h.ok).2
theorem pinv_go {n i b sn : Nat} {l : List (Int × Int)} (hn : n ≤ 7) (h : PInv n i sn l) (hib : i < b) (hbn : b < n) (hi : sn.testBit i = false) (hb : sn.testBit b = false) : PInv n (i + 1) (sn ||| 2 ^ b) (l ++ [((i : Int), (b : Int))]) := by
  obtain ⟨s, h1, h2, h3⟩ := h
  have hin : (!inB (i : Int) 0 ((n : Int) - 1) || !inB (b : Int) ((i : Int) + 1) ((n : Int) - 1)) = false := by
    rw [Bool.or_eq_false_iff, Bool.not_eq_false', Bool.not_eq_false', inB_iff, inB_iff]; omega
  have hz : ¬ ((s &&& (2 ^ i ||| 2 ^ b) : Nat) : Int) ≠ 0 := by
    rw [ip_bit]
    intro e
    have : ((s >>> i) ||| (s >>> b)).testBit 0 = false := by
      rw [Nat.testBit_or, Nat.testBit_shiftRight, Nat.testBit_shiftRight, Nat.add_zero, Nat.add_zero, h3 i (Nat.le_refl _), h3 b (by omega), hi, hb]; rfl
    rw [Nat.testBit_zero, decide_eq_false_iff_not] at this
    omega
  obtain ⟨g1, g2⟩ := ip_go hn h2 hin hz
  refine ⟨s ||| (2 ^ i ||| 2 ^ b), ?_, g2, fun x hx => ?_⟩
  · unfold prB at h1 ⊢; rw [List.foldl_append, h1]; exact g1
  · rw [Nat.testBit_or, Nat.testBit_or, Nat.testBit_or, Nat.testBit_two_pow, Nat.testBit_two_pow, h3 x (by omega)]
    have : decide (i = x) = false := decide_eq_false (by omega)
    rw [this, Bool.false_or]
theorem pd_in {sn i : Nat} {z : Int} (h : (decide (((sn >>> i : Nat) : Int) % 2 = 1) || decide (z = 0)) = false) : sn.testBit i = false ∧ z ≠ 0 := by
  rw [Bool.or_eq_false_iff, decide_eq_false_iff_not, decide_eq_false_iff_not] at h
  exact ⟨bit_zero h.1, h.2⟩
theorem pd_bit {sn b : Nat} {c : Bool} (h : (c || decide (((sn >>> b : Nat) : Int) % 2 = 1)) = false) : sn.testBit b = false := by
  rw [Bool.or_eq_false_iff, decide_eq_false_iff_not] at h
  exact bit_zero h.2
theorem word_ok (sv : Value) (ws : List Int) (a : Int) (D : Data) (hS : Sl D (RK .u16) 1 sv ws) (ha : 0 ≤ a) (_ha2 : a ≤ 100) : Fn Try.prog 97 #[sv, .int .i64 a] D (fun _ v => v = .int .i64 (wordV ws a) ∧ 0 ≤ wordV ws a ∧ wordV ws a ≤ 65535) := by
  have hwl := hS.len
  refine enter 16 Try.func97 rfl rfl rfl rfl fun h0 => ?_
  refine C.seq ?_
  refine C.region [(false,0)] rfl ?_
  refine L.assign rfl rfl rfl trivial ?_
  refine L.nil ?_
  refine C.next ?_
  refine C.seq ?_
  refine C.seq ?_
  refine C.region [(false,0),(false,1),(false,2)] rfl ?_
  refine L.move rfl rfl rfl trivial ?_
  refine L.len rfl Try.underlying83 rfl hS rfl rfl trivial ?_
  refine L.eql rfl rfl rfl rfl trivial ?_
  refine L.nil ?_
  refine C.next ?_
  refine C.condD rfl (fun hc1 => ?_) (fun hc1 => ?_)
  · refine C.seq ?_
    refine C.region [(false,0)] rfl ?_
    refine L.assign rfl rfl rfl trivial ?_
    refine L.nil ?_
    refine C.next ?_
    refine C.ret ?_
    refine C.thenRet ?_
    exact leave (vs := [_]) rfl rfl rfl ⟨rfl, trivial⟩ (fun D hD => by rw [wordV_none hc1]; exact ⟨rfl, by omega, by omega⟩)
  · have hm1 := Int.emod_nonneg a (show (ws.length : Int) ≠ 0 by omega)
    have hm2 := Int.emod_lt_of_pos a (show (0 : Int) < ws.length by omega)
    obtain ⟨x, hx⟩ : ∃ x, ws[(a % ws.length).toNat]? = some x := ⟨_, List.getElem?_eq_getElem (by omega)⟩
    refine C.skip ?_
    refine C.next ?_
    refine C.seq ?_
    refine C.region [(false,0),(false,1),(false,2),(false,3),(false,4),(false,5),(false,6),(false,7),(false,8)] rfl ?_
    refine L.move rfl rfl rfl trivial ?_
    refine L.move rfl rfl rfl trivial ?_
    refine L.move rfl rfl rfl trivial ?_
    refine L.len rfl Try.underlying83 rfl hS rfl rfl trivial ?_
    refine L.rem rfl rfl rfl (by omega) (by omega) (by simp only [inK]; omega) rfl trivial ?_
    refine L.indexS rfl Try.underlying83 Tf.s82 rfl hS rfl (by omega) hx rfl trivial (fun b1 o1 cs1 hr1 hcl1 hA1 => ?_)
    obtain ⟨rfl, hk1⟩ := hr1
    simp only [inK] at hk1
    refine L.loadD1 rfl (k := 0) Tf.a82 rfl hA1 (by first | simp | assumption) rfl List.not_mem_nil rfl trivial ?_
    refine L.convI rfl Try.underlying82 Try.underlying3 rfl (by simp only [inK]; omega) rfl trivial ?_
    refine L.assign rfl rfl rfl trivial ?_
    refine L.nil ?_
    refine C.next ?_
    refine C.ret ?_
    exact leave (vs := [_]) rfl rfl rfl ⟨rfl, trivial⟩ (fun D hD => by rw [wordV_get hc1 hx]; exact ⟨rfl, by omega, by omega⟩)
theorem Paired_ok (yv sv : Value) (y : YardD) (ws : List Int) (D : Data) (hy : YardIs D yv y) (hS : Sl D (RK .u16) 1 sv ws) (hn7 : y.chairs.length ≤ 7) : Fn Try.prog 56 #[yv, sv] D (fun D' v => ∃ l, Sl D' R2 2 v l ∧ (prB y.chairs.length l).isSome = true) := by
  have hy0 := hy
  obtain ⟨cv, qv, rfl, hc, hq⟩ := hy
  refine enter 67 Try.func56 rfl rfl rfl rfl fun h0 => ?_
  refine C.seq ?_
  refine C.region [(false,0),(false,1)] rfl ?_
  refine L.boxD rfl rfl rfl rfl trivial (fun q1 E1 hE1 hB1 => ?_)
  refine L.assign rfl rfl rfl trivial ?_
  refine L.nil ?_
  refine C.next ?_
  refine C.seq ?_
  refine C.region [(false,0)] rfl ?_
  refine L.assign rfl rfl rfl trivial ?_
  refine L.nil ?_
  refine C.next ?_
  refine C.seq ?_
  refine C.region [(false,0)] rfl ?_
  refine L.assign rfl rfl rfl trivial ?_
  refine L.nil ?_
  refine C.next ?_
  refine C.seq ?_
  refine C.seq ?_
  refine C.region [(false,0)] rfl ?_
  refine L.assign rfl rfl rfl trivial ?_
  refine L.nil ?_
  refine C.next ?_
  refine C.block ?_
  refine C.loopR (γ := Nat × Nat × List (Int × Int) × Value × Boxes) (fun g => y.chairs.length - g.1) (fun g => g.1 ≤ y.chairs.length ∧ g.2.1 < 128 ∧ PInv y.chairs.length g.1 g.2.1 g.2.2.1 ∧ Acc 130 2 g.2.2.2.1 g.2.2.1.length (prC g.2.2.1) g.2.2.2.2) (fun g => [(5, g.2.2.2.1), (6, .int .i64 (g.2.1 : Int)), (7, .int .i64 (g.1 : Int))]) [(4, _), (2, _), (1, _)] (fun g => g.2.2.2.2 ++ []) (fun g => [E1, D]) (0, 0, [], .slice none 0 0, []) ⟨by simp, by simp, pinv_nil _, by simpa [prC] using Acc.nil⟩ ⟨(by first | rfl | (show some (Value.int _ _) = some (Value.int _ _); congr 2; omega)), (by first | rfl | (show some (Value.int _ _) = some (Value.int _ _); congr 2; omega)), (by first | rfl | (show some (Value.int _ _) = some (Value.int _ _); congr 2; omega)), trivial⟩ ⟨rfl, rfl, rfl, trivial⟩ (List.Sublist.refl _) (ds_same) ?_
  rintro ⟨i, sn, l, v, ν⟩ ⟨h1, h2, h3, ha⟩
  simp only at h1 h2 h3 ha
  have hl3 := h3.len hn7
  refine C.seq ?_
  refine C.seq ?_
  refine C.region [(false,0),(false,1),(false,2),(false,3),(false,4)] rfl ?_
  refine L.move rfl rfl rfl trivial ?_
  refine L.fieldAddr rfl Tf.f25_0 rfl rfl trivial ?_
  refine L.loadD1 rfl (k := 0) Tf.a22 rfl hB1 (by first | simp | assumption) rfl List.not_mem_nil rfl trivial ?_
  refine L.len rfl Try.underlying22 rfl hc rfl rfl trivial ?_
  refine L.lss rfl rfl rfl rfl trivial ?_
  refine L.nil ?_
  refine C.next ?_
  refine C.condD rfl (fun hc1 => ?_) (fun hc1 => ?_)
  · have hi : i < y.chairs.length := by simp only at hc1; omega
    refine C.skip ?_
    refine C.next ?_
    refine C.seq ?_
    refine C.block ?_
    refine C.seq ?_
    refine C.region [(false,0),(false,1),(false,2),(false,3),(false,4),(false,5),(false,6)] rfl ?_
    refine L.fieldAddr rfl Tf.f25_0 rfl rfl trivial ?_
    refine L.loadD1 rfl (k := 0) Tf.a22 rfl hB1 (by first | simp | assumption) rfl List.not_mem_nil rfl trivial ?_
    refine L.len rfl Try.underlying22 rfl hc rfl rfl trivial ?_
    refine L.move rfl rfl rfl trivial ?_
    refine L.sub rfl rfl rfl (by simp only [inK]; omega) rfl trivial ?_
    refine L.sub rfl rfl rfl (by simp only [inK]; omega) rfl trivial ?_
    refine L.assign rfl rfl rfl trivial ?_
    refine L.nil ?_
    refine C.next ?_
    refine C.seq ?_
    refine C.seq ?_
    refine C.region [(false,0),(false,1),(false,2),(false,3),(false,4),(false,5),(false,6),(false,7),(false,8),(false,9)] rfl ?_
    refine L.move rfl rfl rfl trivial ?_
    refine L.move rfl rfl rfl trivial ?_
    refine L.convI rfl Try.underlying3 Try.underlying88 rfl (by simp only [inK]; omega) rfl trivial ?_
    refine L.shrN rfl rfl rfl (by omega) rfl trivial ?_
    refine L.rem rfl rfl rfl (Int.natCast_nonneg _) (by omega) (by rw [bit_mod]; split <;> simp only [inK] <;> omega) rfl trivial ?_
    refine L.eql rfl rfl rfl rfl trivial ?_
    refine L.move rfl rfl rfl trivial ?_
    refine' L.or [(false,7),(false,8),(false,9)] [] (s := 29) (p := 32) rfl rfl (fun hg1 => ?_) (fun hg1 => ?_) ?_
    rotate_left
    · refine L.move rfl rfl rfl ⟨_, rfl, rfl⟩ ?_
      refine L.eql rfl rfl rfl rfl ⟨_, rfl, rfl⟩ ?_
      refine L.pickF rfl rfl rfl rfl trivial ?_
      exact L.nil fun a w hh => hh.cutK 2 rfl
    · refine L.pass rfl rfl rfl ⟨_, _, rfl, rfl, rfl⟩ ?_
      refine L.pass rfl rfl rfl ⟨_, _, rfl, rfl, rfl⟩ ?_
      refine L.pickT rfl rfl rfl rfl trivial ?_
      exact L.nil fun a w hh => hh.cutK 2 rfl
    refine L.nil ?_
    refine C.next ?_
    refine C.cond rfl (fun hc2 => ?_) (fun hc2 => ?_)
    · refine C.exit ?_
      refine C.thenExit ?_
      refine C.blockExit ?_
      refine C.next ?_
      refine C.region [(false,0),(false,1),(false,2)] rfl ?_
      refine L.move rfl rfl rfl trivial ?_
      refine L.add rfl rfl rfl (by simp only [inK]; omega) rfl trivial ?_
      refine L.assign rfl rfl rfl trivial ?_
      refine L.nil ?_
      exact C.againR 26 (i + 1, sn, l, v, ν) ⟨by simp only; omega, h2, pinv_skip h3, ha⟩ (by simp only; omega) ⟨(by first | rfl | (show some (Value.int _ _) = some (Value.int _ _); congr 2; omega)), (by first | rfl | (show some (Value.int _ _) = some (Value.int _ _); congr 2; omega)), (by first | rfl | (show some (Value.int _ _) = some (Value.int _ _); congr 2; omega)), trivial⟩ rfl rfl (List.Sublist.refl _) (ds_same)
    · obtain ⟨hbi, hnn⟩ := pd_in hc2
      refine C.skip ?_
      refine C.next ?_
      refine C.seq ?_
      refine C.region [(false,0),(false,1),(false,2),(false,3),(false,4),(false,5),(false,6),(false,7),(false,8),(false,9)] rfl ?_
      refine L.move rfl rfl rfl trivial ?_
      refine L.add rfl rfl rfl (by simp only [inK]; omega) rfl trivial ?_
      refine L.move rfl rfl rfl trivial ?_
      refine L.move rfl rfl rfl trivial ?_
      refine L.call rfl rfl rfl (fun D1 hD1 => word_ok _ ws (i : Int) _ (hS.up RK.up (hD1 _ (by simp))) (by omega) (by omega)) rfl trivial (fun v1 D1 hD1 hp1 => ?_)
      obtain ⟨rfl, hwa, hwb⟩ := hp1
      have hq0 := Int.emod_nonneg (wordV ws i / 4) (show (y.chairs.length : Int) - i - 1 ≠ 0 by omega)
      have hq1 := Int.emod_lt_of_pos (wordV ws i / 4) (show (0 : Int) < (y.chairs.length : Int) - i - 1 by omega)
      refine L.quo rfl rfl rfl (by omega) (by omega) (by simp only [inK]; omega) rfl trivial ?_
      refine L.move rfl rfl rfl trivial ?_
      refine L.rem rfl rfl rfl (by omega) (by omega) (by simp only [inK]; omega) rfl trivial ?_
      refine L.add rfl rfl rfl (by simp only [inK]; omega) rfl trivial ?_
      refine L.assign rfl rfl rfl trivial ?_
      refine L.nil ?_
      refine C.next ?_
      refine C.seq ?_
      refine C.seq ?_
      obtain ⟨b, hb⟩ : ∃ b : Nat, (i : Int) + 1 + wordV ws i / 4 % ((y.chairs.length : Int) - i - 1) = b := ⟨_, (Int.toNat_of_nonneg (show (0 : Int) ≤ (i : Int) + 1 + wordV ws i / 4 % ((y.chairs.length : Int) - i - 1) by omega)).symm⟩
      rw [hb]
      have hb7 : b < 7 := by omega
      have hbn : b < y.chairs.length := by omega
      have hib : i < b := by omega
      have hpb := pow_lt7 hb7
      refine C.region [(false,0),(false,1),(false,2),(false,3),(false,4),(false,5),(false,6),(false,7),(false,8),(false,9),(false,10),(false,11),(false,12)] rfl ?_
      refine L.move rfl rfl rfl trivial ?_
      refine L.move rfl rfl rfl trivial ?_
      refine L.call rfl rfl rfl (fun D2 hD2 => word_ok _ ws (i : Int) _ (hS.up RK.up (hD2 _ (by simp))) (by omega) (by omega)) rfl trivial (fun v2 D2 hD2 hp2 => ?_)
      obtain ⟨rfl, _, _⟩ := hp2
      refine L.rem rfl rfl rfl (by omega) (by omega) (by simp only [inK]; omega) rfl trivial ?_
      refine L.eql rfl rfl rfl rfl trivial ?_
      refine L.move rfl rfl rfl trivial ?_
      refine' L.or [(false,6),(false,7),(false,8),(false,9),(false,10),(false,11),(false,12)] [] (s := 47) (p := 54) rfl rfl (fun hg2 => ?_) (fun hg2 => ?_) ?_
      rotate_left
      · refine L.move rfl rfl rfl ⟨_, rfl, rfl⟩ ?_
        refine L.move rfl rfl rfl ⟨_, rfl, rfl⟩ ?_
        refine L.convI rfl Try.underlying3 Try.underlying88 rfl (by simp only [inK]; omega) rfl ⟨_, rfl, rfl⟩ ?_
        refine L.shrN rfl rfl rfl (by omega) rfl ⟨_, rfl, rfl⟩ ?_
        refine L.rem rfl rfl rfl (Int.natCast_nonneg _) (by omega) (by rw [bit_mod]; split <;> simp only [inK] <;> omega) rfl ⟨_, rfl, rfl⟩ ?_
        refine L.eql rfl rfl rfl rfl ⟨_, rfl, rfl⟩ ?_
        refine L.pickF rfl rfl rfl rfl trivial ?_
        exact L.nil fun a w hh => hh.cutK 6 rfl
      · refine L.pass rfl rfl rfl ⟨_, _, rfl, rfl, rfl⟩ ?_
        refine L.pass rfl rfl rfl ⟨_, _, rfl, rfl, rfl⟩ ?_
        refine L.pass rfl rfl rfl ⟨_, _, rfl, rfl, rfl⟩ ?_
        refine L.pass rfl rfl rfl ⟨_, _, rfl, rfl, rfl⟩ ?_
        refine L.pass rfl rfl rfl ⟨_, _, rfl, rfl, rfl⟩ ?_
        refine L.pass rfl rfl rfl ⟨_, _, rfl, rfl, rfl⟩ ?_
        refine L.pickT rfl rfl rfl rfl trivial ?_
        exact L.nil fun a w hh => hh.cutK 6 rfl
      refine L.nil ?_
      refine C.next ?_
      refine C.cond rfl (fun hc3 => ?_) (fun hc3 => ?_)
      · refine C.exit ?_
        refine C.thenExit ?_
        refine C.blockExit ?_
        refine C.next ?_
        refine C.region [(false,0),(false,1),(false,2)] rfl ?_
        refine L.move rfl rfl rfl trivial ?_
        refine L.add rfl rfl rfl (by simp only [inK]; omega) rfl trivial ?_
        refine L.assign rfl rfl rfl trivial ?_
        refine L.nil ?_
        exact C.againR 43 (i + 1, sn, l, v, ν) ⟨by simp only; omega, h2, pinv_skip h3, ha⟩ (by simp only; omega) ⟨(by first | rfl | (show some (Value.int _ _) = some (Value.int _ _); congr 2; omega)), (by first | rfl | (show some (Value.int _ _) = some (Value.int _ _); congr 2; omega)), (by first | rfl | (show some (Value.int _ _) = some (Value.int _ _); congr 2; omega)), trivial⟩ rfl rfl (List.Sublist.refl _) (fun D h => ⟨D, List.Mem.tail _ (List.Mem.tail _ (h)), Le.refl D⟩)
      · have hbb := pd_bit hc3
        refine C.skip ?_
        refine C.next ?_
        refine C.seq ?_
        refine C.region [(false,0),(false,1),(false,2),(false,3),(false,4),(false,5)] rfl ?_
        refine L.move rfl rfl rfl trivial ?_
        refine L.move rfl rfl rfl trivial ?_
        refine L.convI rfl Try.underlying3 Try.underlying88 rfl (by simp only [inK]; omega) rfl trivial ?_
        refine L.shl1U rfl rfl rfl (by omega) rfl trivial ?_
        refine L.orB rfl rfl rfl (by first | omega | (simp only; omega)) (by first | omega | (simp only; omega)) rfl trivial ?_
        refine L.assign rfl rfl rfl trivial ?_
        refine L.nil ?_
        refine C.next ?_
        refine C.region [(false,0),(false,1),(false,2),(false,3),(false,4),(false,5),(false,6)] rfl ?_
        refine L.move rfl rfl rfl trivial ?_
        refine L.move rfl rfl rfl trivial ?_
        refine L.move rfl rfl rfl trivial ?_
        refine L.build (cs := [.int .i64 (i : Int), .int .i64 (b : Int)]) rfl Tf.p130 Tf.z130 rfl rfl rfl trivial ?_
        refine L.buildSlice rfl Try.underlying27 Tf.s130 Tf.z130 rfl rfl rfl rfl (.cons rfl rfl .nil) rfl trivial (fun b901 D901 hD901 hA901 => ?_)
        refine L.append (A := []) (B := []) rfl Try.underlying27 rfl rfl Tf.s130 Tf.z130 rfl Tf.i130 rfl rfl rfl ha (Src.lit hA901) (by simp) rfl (prC_lenn _ _ rfl) (by simp [cell1]) (by omega) (Or.inl rfl) rfl trivial (fun v7 ν7 ha7 => ?_)
        have hn7' : Acc 130 2 v7 (l ++ [((i : Int), (b : Int))]).length (prC (l ++ [((i : Int), (b : Int))])) ν7 := by rw [prC_snoc]; simpa using ha7
        refine L.assign rfl rfl rfl trivial ?_
        refine L.nil ?_
        refine C.blockEnd ?_
        refine C.next ?_
        refine C.region [(false,0),(false,1),(false,2)] rfl ?_
        refine L.move rfl rfl rfl trivial ?_
        refine L.add rfl rfl rfl (by simp only [inK]; omega) rfl trivial ?_
        refine L.assign rfl rfl rfl trivial ?_
        refine L.nil ?_
        exact C.againR 56 (i + 1, sn ||| 2 ^ b, l ++ [((i : Int), (b : Int))], v7, ν7) ⟨by simp only; omega, or_lt7 h2 hpb, pinv_go hn7 h3 hib hbn hbi hbb, hn7'⟩ (by simp only; omega) ⟨(by first | rfl | (show some (Value.int _ _) = some (Value.int _ _); congr 2; omega)), (by first | rfl | (show some (Value.int _ _) = some (Value.int _ _); congr 2; omega)), (by first | rfl | (show some (Value.int _ _) = some (Value.int _ _); congr 2; omega)), trivial⟩ rfl rfl (List.Sublist.refl _) (fun D h => ⟨D, List.Mem.tail _ (List.Mem.tail _ (List.Mem.tail _ (h))), Le.refl D⟩)
  · obtain rfl : i = y.chairs.length := by simp only at hc1; omega
    refine C.exit ?_
    refine C.thenExit ?_
    refine C.thenExit ?_
    refine C.blockExit ?_
    refine C.next ?_
    refine C.seq ?_
    refine C.region [(false,0),(false,1)] rfl ?_
    refine L.move rfl rfl rfl trivial ?_
    refine L.assign rfl rfl rfl trivial ?_
    refine L.nil ?_
    refine C.next ?_
    refine C.ret ?_
    refine Q.freeze (A := []) (B := []) ha rfl (fun D2 hD2 hF => ?_)
    exact leave (vs := [_]) rfl rfl rfl ⟨rfl, trivial⟩ (fun D' hD => ⟨l, (hF.prs rfl (by omega)).up R2.up (hD _ (by simp)), h3.ok⟩)
end Go.Fs
namespace Go.Fs
open Go.Proofs
open C7
theorem ready_inB {y : YardD} (h : (!(thin y && decide (fault y = 0))) = false) : thin y = true ∧ fault y = 0 := by
  simp only [Bool.not_eq_false', Bool.and_eq_true, decide_eq_true_eq] at h; exact h
end Go.Fs
namespace Go.Fs
open Go.Proofs
open C7
section
variable {P : Program} {X : Cx} {γb : Type} [Membership Nat γb] {bad : γb} {all : Array Oper} {K : Act → World → Prop} {Q : Exit → Act → World → Prop}
variable {σ : Slots} {μ : Boxes} {Ds : List Data} {os : List (Bool × Nat)} {fl : Bool} {ix : Nat}
variable {d : Nat} {x y z : Operand} {u v : Value} {ty : TypeId} {pos : String} {aft : Array Edge} {g : Option (Nat × Bool)}
variable {k' : IntKind} {m n : Nat} {t t' : TypeId}
theorem L.shrU8 (ho : all[ix]? = some ⟨some d, .binOp .shr t x y t', ty, pos, aft, g⟩) (hx : ev σ x = some (.int .u8 (m : Int))) (hy : ev σ y = some (.int k' (n : Int))) (hn : n ≤ 8) (hN : Nat.blt d X.N = true) (hg : Gok all σ g)
    (kk : WL P X bad all K Q os ((d, .int .u8 ((m >>> n : Nat) : Int)) :: σ) μ Ds) : WL P X bad all K Q ((fl, ix) :: os) σ μ Ds :=
  L.pure ho rfl rfl hN hg (fun ρ hρ w' => run_shift (Or.inr rfl) (by
    have h1 : ¬ ((n : Int) < 0) := by omega
    have h2 : min (n : Int).toNat IntKind.u8.bits = n := by rw [Int.toNat_natCast]; exact Nat.min_eq_left (Nat.le_trans hn (by decide))
    have h3 : (m : Int).fdiv (2 ^ n) = ((m >>> n : Nat) : Int) := by
      rw [Nat.shiftRight_eq_div_pow, Int.fdiv_eq_ediv_of_nonneg _ (by exact_mod_cast Nat.zero_le (2 ^ n))]; simp
    simp only [Op.shift, h1, if_false, h2, h3]; rfl) (hρ x _ hx) (hρ y _ hy)) kk
end
theorem unk_8 {y : YardD} (h : fault y = 0) : unknown y.chairs ≤ 8 := by
  unfold fault at h
  split at h
  · omega
  · split at h
    · omega
    · split at h <;> omega
theorem mod_in {a b : Nat} (h : a ≤ 65535) : -9223372036854775808 ≤ (a : Int) % (b : Int) ∧ (a : Int) % (b : Int) ≤ 9223372036854775807 := by
  have e : (a : Int) % (b : Int) = ((a % b : Nat) : Int) := rfl
  have := Nat.mod_le a b
  omega
theorem most_le {y : YardD} {t : List Pt} (h : fault y = 0) (ht : isTruth y t = true) : mostT y t ≤ 200 := by
  have hn := (yOk h).len
  obtain ⟨hl, _⟩ := truthOk ht
  exact mostS_le (scene_ok' hl (by omega)) hn
theorem nth_open {y : YardD} {D : Data} {v : Value} {n : Nat} (h : YOk y) (hS : Sl D RP 3 v (nthC y.chairs n).1) : ∃ t, Sl D RP 3 v t ∧ isTruth y t = true := ⟨_, hS, nth_truth h n⟩
/-- A list that is read as a pairing is one. -/
theorem prB_pairing {n : Nat} : ∀ (l : List (Int × Int)) (s : Nat), (l.foldl (prS n) (some s)).isSome = true → ∃ M, l = pI M ∧ (∀ p ∈ M, p.1 < p.2 ∧ p.2 < n ∧ s.testBit p.1 = false ∧ s.testBit p.2 = false) ∧ (ends M).Nodup
  | [], _, _ => ⟨[], rfl, by simp, by simp [ends]⟩
  | (a, b) :: l, s, h => by
    rw [List.foldl_cons] at h
    have e : prS n (some s) (a, b) = if ((!inB a 0 ((n : Int) - 1) || !inB b (a + 1) ((n : Int) - 1)) || decide ((((s >>> a.toNat) ||| (s >>> b.toNat) : Nat) : Int) % 2 = 1)) = true then none else some (s ||| (2 ^ a.toNat ||| 2 ^ b.toNat)) := rfl
    rw [e] at h
    split at h
    · rw [prB_none] at h; cases h
    · rename_i hc
      rw [Bool.not_eq_true, Bool.or_eq_false_iff] at hc
      obtain ⟨h1, h2, h3, h4⟩ := prB_in hc.1
      obtain ⟨x, rfl⟩ := Int.eq_ofNat_of_zero_le h1
      obtain ⟨z, rfl⟩ := Int.eq_ofNat_of_zero_le (show 0 ≤ b by omega)
      simp only [Int.toNat_natCast] at hc h
      obtain ⟨b1, b2⟩ := prS_bits hc.2
      obtain ⟨M, rfl, hM, hnd⟩ := prB_pairing l _ h
      have out : ∀ p ∈ M, (x ≠ p.1 ∧ z ≠ p.1 ∧ s.testBit p.1 = false) ∧ (x ≠ p.2 ∧ z ≠ p.2 ∧ s.testBit p.2 = false) := fun p hp => by
        obtain ⟨_, _, k3, k4⟩ := hM p hp
        rw [Nat.testBit_or, Nat.testBit_or, Nat.testBit_two_pow, Nat.testBit_two_pow, Bool.or_eq_false_iff, Bool.or_eq_false_iff, decide_eq_false_iff_not, decide_eq_false_iff_not] at k3 k4
        exact ⟨⟨k3.2.1, k3.2.2, k3.1⟩, ⟨k4.2.1, k4.2.2, k4.1⟩⟩
      refine ⟨(x, z) :: M, rfl, fun p hp => ?_, ?_⟩
      · rcases List.mem_cons.1 hp with rfl | hp
        · exact ⟨by simp only; omega, by simp only; omega, b1, b2⟩
        · obtain ⟨k1, k2, _, _⟩ := hM p hp
          exact ⟨k1, k2, (out p hp).1.2.2, (out p hp).2.2.2⟩
      · unfold ends
        rw [List.flatMap_cons]
        refine List.nodup_append.2 ⟨by simp; omega, hnd, fun u hu w hw e => ?_⟩
        subst e
        obtain ⟨p, hp, hx⟩ := mem_ends.1 hw
        have := out p hp
        simp only [List.mem_cons, List.not_mem_nil, or_false] at hu
        omega
theorem prB_pr {n : Nat} {l : List (Int × Int)} (h : (prB n l).isSome = true) : ∃ M, l = pI M ∧ Pairing n 0 0 M := by
  obtain ⟨M, e, hM, hnd⟩ := prB_pairing l 0 h
  exact ⟨M, e, fun p hp => ⟨Nat.zero_le _, (hM p hp).1, (hM p hp).2.1, (hM p hp).2.2⟩, hnd⟩
/-- No pairing makes more than the most chairs. -/
theorem makes_most {y : YardD} {t : List Pt} (h : fault y = 0) (ht : isTruth y t = true) {l : List (Int × Int)} (hl : (prB y.chairs.length l).isSome = true) : makesR y t l ≤ mostT y t := by
  obtain ⟨M, rfl, hM⟩ := prB_pr hl
  obtain ⟨hlen, _⟩ := truthOk ht
  have hn := (yOk h).len
  rw [makesR_pI]
  have := (nu_is hlen (show t.length ≤ 7 by omega)).le (M.filter fun p => fitB y t p.1 p.2) ⟨fun p hp => by
    have hf := (List.mem_filter.1 hp).2
    exact ⟨(broken_bit hf).1, (broken_bit hf).2, hf⟩, hM.nd.sublist (ends_sub List.filter_sublist)⟩
  unfold mostT mostS fitN
  have : (sceneD y t).whole = whole t := rfl
  omega
theorem nm_one {y : YardD} {t : List Pt} (h : fault y = 0) (ht : isTruth y t = true) {l : List (Int × Int)} (hl : (prB y.chairs.length l).isSome = true) : ((decide ((0 : Int) ≠ 0) || decide (((mostT y t : Nat) : Int) < (makesR y t l : Int))) || provePairsV y t l (((mostT y t : Nat) : Int) + 1)) = false := by
  have := makes_most h ht hl
  rw [pp_eq h ht, hl, Bool.true_and, decide_eq_false (by omega), decide_eq_false (by omega), decide_eq_false (by omega)]; rfl
/-- The chairs of a list by bits that are broken. -/
theorem q_yes {t : List Pt} {k : Nat} {z : Pt} {m : Nat} (hk : k < t.length) (hz : t[k]? = some z) (h : (decide (((m >>> k : Nat) : Int) % 2 = 1) && !isWhole z) = true) : (bset (fun i => m.testBit i && brokB t i) t.length).testBit k = true := by
  rw [Bool.and_eq_true, decide_eq_true_eq] at h
  rw [bset_bit, bit_one h.1, brok_at hz, h.2]; simpa using hk
theorem q_no {t : List Pt} {k : Nat} {z : Pt} {m : Nat} (_hk : k < t.length) (hz : t[k]? = some z) (h : (decide (((m >>> k : Nat) : Int) % 2 = 1) && !isWhole z) = false) : (bset (fun i => m.testBit i && brokB t i) t.length).testBit k = false := by
  rw [Bool.and_eq_false_iff, decide_eq_false_iff_not] at h
  rw [bset_bit, brok_at hz]
  rcases h with h | h
  · rw [bit_zero h]; simp
  · rw [h]; simp
theorem q_end {t : List Pt} {p : Nat → Bool} (h : t.length ≤ 7) : bitsK (bset p t.length) t.length = bitsL (bset p t.length) := bitsK_end h (by rw [Nat.shiftRight_eq_div_pow, Nat.div_eq_of_lt (bset_lt p _)])
theorem q_facts {t : List Pt} (p : Nat → Bool) (h : t.length ≤ 7) : (bitsL (bset (fun i => p i && brokB t i) t.length)).length ≤ 7 ∧ isPf t (bitsL (bset (fun i => p i && brokB t i) t.length)) = true ∧ (∀ x, (bset (fun i => p i && brokB t i) t.length).testBit x = true → (bset (brokB t) t.length).testBit x = true) ∧ orP (bitsL (bset (fun i => p i && brokB t i) t.length)) = bset (fun i => p i && brokB t i) t.length := by
  have hs : ∀ x, (bset (fun i => p i && brokB t i) t.length).testBit x = true → (bset (brokB t) t.length).testBit x = true := fun x hx => by
    rw [bset_bit] at hx ⊢
    simp only [Bool.and_eq_true] at hx ⊢
    exact ⟨hx.1, hx.2.2⟩
  have hl : bset (fun i => p i && brokB t i) t.length < 128 := by
    have h1 := bset_lt (fun i => p i && brokB t i) t.length
    have h2 : 2 ^ t.length ≤ 2 ^ 7 := Nat.pow_le_pow_right (by omega) h
    omega
  exact ⟨bk_len _ 7, pf_bits hl hs, hs, (bits128 _ hl).1⟩
theorem nm_two {y : YardD} {t : List Pt} {q : Nat} (h : fault y = 0) (ht : isTruth y t = true) (hq : isPf t (bitsL q) = true) (hs : ∀ x, q.testBit x = true → (bset (brokB t) t.length).testBit x = true) (ho : orP (bitsL q) = q) : (proveBergeV y t (bitsL q) (((mostT y t : Nat) : Int) - 1) || decide ((boundB (sceneD y t) (orP (bitsL q)) : Int) < ((mostT y t : Nat) : Int))) = false := by
  have := bound_ge h ht hs
  rw [pb_eq h ht, hq, ho, Bool.true_and, decide_eq_false (by omega), decide_eq_false (by omega)]; rfl
theorem sure_ask {y : YardD} : (sureV y).2.2 = askS y := by
  by_cases h : askS y = 0
  · rw [h]; exact (sure_facts h).1
  · have := ms_err h (l := []) (many := 0)
    simp only [Bool.and_eq_true, decide_eq_true_eq] at this
    exact this.1.1.1.1
theorem nm_ask {y : YardD} (_h : fault y = 0) (he : (sureV y).2.2 = 0) : askS y = 0 := by rw [← sure_ask]; exact he
theorem foldl_min_mono {α : Type} {f g : α → Int} : ∀ (l : List α) (a b : Int), a ≤ b → (∀ x ∈ l, f x ≤ g x) → (l.map f).foldl min a ≤ (l.map g).foldl min b
  | [], _, _, h, _ => h
  | x :: l, a, b, h, hx => by
    rw [List.map_cons, List.map_cons, List.foldl_cons, List.foldl_cons]
    have := hx x List.mem_cons_self
    exact foldl_min_mono l _ _ (by omega) fun z hz => hx z (List.mem_cons_of_mem _ hz)
theorem foldl_max_ge' {α : Type} {f : α → Int} : ∀ (l : List α) (a : Int), a ≤ (l.map f).foldl max a ∧ ∀ x ∈ l, f x ≤ (l.map f).foldl max a
  | [], a => ⟨Int.le_refl _, by simp⟩
  | x :: l, a => by
    rw [List.map_cons, List.foldl_cons]
    obtain ⟨h1, h2⟩ := foldl_max_ge' (f := f) l (max a (f x))
    refine ⟨by omega, fun z hz => ?_⟩
    rcases List.mem_cons.1 hz with rfl | hz
    · omega
    · exact h2 z hz
/-- No pairing is sure of more than the sure number. -/
theorem sure_most {y : YardD} {ns : List Int} {l : List (Int × Int)} (hl : (prB y.chairs.length l).isSome = true) : sureR y ns l ≤ surestR y ns := by
  obtain ⟨M, rfl, hM⟩ := prB_pr hl
  obtain ⟨N, hN, hs⟩ := prs_has y.chairs.length 0 (Nat.le_refl _) M (by rw [Nat.sub_self]; exact hM)
  have h1 : sureR y ns (pI M) ≤ sureR y ns (pI N) := by
    unfold sureR
    refine foldl_min_mono ns 99 99 (Int.le_refl _) fun x _ => ?_
    rw [makesR_pI, makesR_pI]
    have := length_le_of_sub ((pairs_nodup hM.nd).filter fun p => fitB y (nthC y.chairs x.toNat).1 p.1 p.2) (m := N.filter fun p => fitB y (nthC y.chairs x.toNat).1 p.1 p.2) fun p hp => by
      obtain ⟨g1, g2⟩ := List.mem_filter.1 hp
      exact List.mem_filter.2 ⟨hs p g1, g2⟩
    unfold fitN
    omega
  have h2 := (foldl_max_ge' (f := sureR y ns) ((prs y.chairs.length y.chairs.length 0).map pI) 0).2 (pI N) (List.mem_map.2 ⟨N, hN, rfl⟩)
  unfold surestR
  omega
theorem sure_lim {y : YardD} (h : askS y = 0) : 0 ≤ (sureV y).2.1 ∧ (sureV y).2.1 ≤ 99 := by
  obtain ⟨_, h2, _, h4, h5⟩ := sure_facts h
  have := sureR_in h (l := (sureV y).1) (by omega)
  rw [← h4]
  refine ⟨this, ?_⟩
  unfold sureR
  exact foldl_min_le _ _
theorem nm_err {y : YardD} {l : List (Int × Int)} (h : fault y = 0) (he : (sureV y).2.2 ≠ 0) : ((decide ((sureV y).2.2 = 11) && !proveSureV y l 0) && true) = true := by
  rw [sure_ask] at he ⊢
  have := ms_err he (l := l) (many := 0)
  simp only [Bool.and_eq_true, decide_eq_true_eq] at this
  have e : askS y = 11 := by
    unfold askS at he ⊢
    rw [if_neg (by omega)] at he ⊢
    split
    · rfl
    · rename_i hn; rw [if_neg hn] at he; exact absurd rfl he
  rw [e, this.1.2]; rfl
theorem unk_none {l : List Ch} (h : unknown l = 0) {c : Ch} (hc : c ∈ l) : c.parts.a ≠ 2 ∧ c.parts.b ≠ 2 ∧ c.parts.c ≠ 2 := by
  have h1 : unkP c.parts = 0 := by
    unfold unknown at h
    induction l with
    | nil => cases hc
    | cons x l ih =>
      rw [List.map_cons, List.sum_cons] at h
      rcases List.mem_cons.1 hc with rfl | hc
      · omega
      · exact ih (by omega) hc
  unfold unkP Pt.l at h1
  rw [List.length_eq_zero_iff, List.filter_eq_nil_iff] at h1
  simpa using h1
theorem truth_one {y : YardD} {t : List Pt} (hu : unknown y.chairs = 0) (ht : isTruth y t = true) : t = y.chairs.map fun c => c.parts := by
  unfold isTruth at ht
  rw [Bool.and_eq_true, decide_eq_true_eq, List.all_eq_true] at ht
  obtain ⟨h1, h2⟩ := ht
  apply List.ext_getElem (by rw [List.length_map]; exact h1)
  intro i hi hi'
  rw [List.length_map] at hi'
  rw [List.getElem_map]
  have h3 := h2 (y.chairs[i], t[i]) (by
    rw [List.mem_iff_getElem]
    exact ⟨i, by rw [List.length_zip]; omega, by rw [List.getElem_zip]⟩)
  have h4 := unk_none hu (List.getElem_mem hi')
  simp only [ptsIs, Pt.l, List.zip_cons_cons, List.zip_nil_right, List.all_cons, List.all_nil, Bool.and_true, Bool.and_eq_true, partIs, Bool.or_eq_true, decide_eq_true_eq] at h3
  obtain ⟨⟨_, a⟩, ⟨_, b⟩, ⟨_, c⟩⟩ := h3
  generalize y.chairs[i].parts = p at h4 a b c ⊢
  generalize t[i] = q at a b c ⊢
  obtain ⟨p1, p2, p3⟩ := p
  obtain ⟨q1, q2, q3⟩ := q
  simp only at h4 a b c
  rw [a.resolve_left h4.1, b.resolve_left h4.2.1, c.resolve_left h4.2.2]
theorem foldl_min_const (c : Int) : ∀ (l : List Int) (a : Int), c ≤ a → (∀ x ∈ l, x = c) → l ≠ [] → l.foldl min a = c
  | [], _, _, _, h => absurd rfl h
  | x :: l, a, h, hx, _ => by
    rw [List.foldl_cons, hx x List.mem_cons_self, show min a c = c by omega]
    cases l with
    | nil => rfl
    | cons z l => exact foldl_min_const c _ _ (Int.le_refl _) (fun w hw => hx w (List.mem_cons_of_mem _ hw)) (by simp)
theorem nm_end {y : YardD} {t : List Pt} (h : fault y = 0) (ht : isTruth y t = true) (ha : askS y = 0) {l : List (Int × Int)} (hl : (prB y.chairs.length l).isSome = true) : ((!proveSureV y l ((sureV y).2.1 + 1) && (decide ((0 : Int) < (unknown y.chairs : Int)) || decide ((sureV y).2.1 = ((mostT y t : Nat) : Int)))) && true) = true := by
  have hn := (yOk h).len
  obtain ⟨_, h2, h3, h4, h5⟩ := sure_facts ha
  have hl3 := (prB_ok hn hl).2
  have hsm := sure_most (ns := nsD y) hl
  rw [ps_eq ha (by omega), hl, Bool.true_and, decide_eq_false (by omega)]
  by_cases hu : unknown y.chairs = 0
  · have hns : nsD y ≠ [] := fun e => by unfold askS at ha; rw [if_neg (by omega), if_pos e] at ha; cases ha
    obtain ⟨hlen, _⟩ := truthOk ht
    have hone : ∀ x : Int, (nthC y.chairs x.toNat).1 = t := fun x => by rw [truth_one hu (nth_truth (yOk h) _), ← truth_one hu ht]
    have hS : ∀ M ∈ (prs y.chairs.length y.chairs.length 0).map pI, sureR y (nsD y) M = ((makesR y t M : Nat) : Int) := fun M hM => by
      unfold sureR
      refine foldl_min_const _ _ _ ?_ (fun x hx => ?_) (by simpa using hns)
      · obtain ⟨M', hM', rfl⟩ := List.mem_map.1 hM
        have h7 := prs_short hn (Nat.le_refl _) hM'
        have := makesR_le y t (pI M')
        have e : (pI M').length = M'.length := by unfold pI; rw [List.length_map]
        omega
      · obtain ⟨z, _, rfl⟩ := List.mem_map.1 hx
        rw [hone]
    have hmx : surestR y (nsD y) = ((mostT y t : Nat) : Int) := by
      unfold surestR
      rw [List.map_congr_left hS, ← most_is hlen (by omega)]
      have key : ∀ (L : List (List (Int × Int))) (m : Nat), (L.map fun M => ((makesR y t M : Nat) : Int)).foldl max (m : Int) = (((L.map (makesR y t)).foldl max m : Nat) : Int) := by
        intro L
        induction L with
        | nil => intro m; rfl
        | cons M L ih => intro m; rw [List.map_cons, List.map_cons, List.foldl_cons, List.foldl_cons, show max (m : Int) (makesR y t M : Int) = ((max m (makesR y t M) : Nat) : Int) by omega, ih]
      exact key _ 0
    rw [h5, hmx]; simp
  · rw [decide_eq_true (show (0 : Int) < (unknown y.chairs : Int) by omega)]; rfl
theorem Nth_ok2 (yv : Value) (y : YardD) (z : Int) (n : Nat) (D : Data) (hz : z = (n : Int)) (hy : YardIs D yv y) (hc7 : y.chairs.length ≤ 1000) (hn : n ≤ 1000000) : Fn Try.prog 54 #[yv, .int .i64 z] D (fun D' v => Sl D' RP 3 v (nthC y.chairs n).1) := by subst hz; exact Nth_ok yv y n D hy hc7 hn
theorem Play2_ok (yv tv : Value) (y : YardD) (t : List Pt) (D : Data) (hy : YardIs D yv y) (ht : Sl D RP 3 tv t) (h : fault y = 0) (hit : isTruth y t = true) : Fn Try.prog 57 #[yv, tv] D (fun _ v => v = .tuple #[.int .i64 ((mostT y t : Nat) : Int), .int .i64 0]) := by
  have := Play_ok yv tv y t D hy ht
  rw [play_eq h hit] at this
  exact this
theorem MendNoMore_ok (yv sv : Value) (y : YardD) (w b : Int) (ws : List Int) (D : Data) (hy : YardIs D yv y) (hwn : 0 ≤ w ∧ w ≤ 65535) (hbn : 0 ≤ b ∧ b ≤ 255) (hS : Sl D (RK .u16) 1 sv ws) : Fn Try.prog 9 #[yv, .int .u16 w, sv, .int .u8 b] D (fun _ v => v = .bool true) := by
  have hy0 := hy
  obtain ⟨cv, qv, rfl, hc, hq⟩ := hy
  obtain ⟨wn, rfl⟩ := Int.eq_ofNat_of_zero_le hwn.1
  obtain ⟨bn, rfl⟩ := Int.eq_ofNat_of_zero_le hbn.1
  refine enter 145 Try.func9 rfl rfl rfl rfl fun h0 => ?_
  refine C.seq ?_
  refine C.region [(false,0),(false,1)] rfl ?_
  refine L.boxD rfl rfl rfl rfl trivial (fun q1 E1 hE1 hB1 => ?_)
  refine L.assign rfl rfl rfl trivial ?_
  refine L.nil ?_
  refine C.next ?_
  refine C.seq ?_
  refine C.seq ?_
  refine C.region [(false,0),(false,1),(false,2)] rfl ?_
  refine L.loadDW rfl Tf.a25 rfl hB1 (by first | simp | assumption) Tf.s25 List.not_mem_nil rfl trivial ?_
  refine L.callV rfl rfl rfl (fun D1 hD1 => ready_ok _ y _ (hy0.up (hD1 _ (by simp)))) rfl trivial ?_
  refine L.not rfl rfl rfl trivial ?_
  refine L.nil ?_
  refine C.next ?_
  refine C.cond rfl (fun hc1 => ?_) (fun hc1 => ?_)
  · refine C.seq ?_
    refine C.region [(false,0),(false,1)] rfl ?_
    refine L.callV rfl rfl rfl (fun D2 hD2 => awake_ok _) rfl trivial ?_
    refine L.assign rfl rfl rfl trivial ?_
    refine L.nil ?_
    refine C.next ?_
    refine C.ret ?_
    refine C.thenRet ?_
    exact leave (vs := [_]) rfl rfl rfl ⟨rfl, trivial⟩ (fun D hD => rfl)
  · obtain ⟨hthin, hf0⟩ := ready_inB hc1
    obtain ⟨hlc, hlq⟩ := thin_len hthin
    have hyo := yOk hf0
    have hn7 := hyo.len
    have hu8 := unk_8 hf0
    have hp8p := Nat.two_pow_pos (unknown y.chairs)
    have hp8 : 2 ^ unknown y.chairs ≤ 2 ^ 8 := Nat.pow_le_pow_right (by omega) hu8
    refine C.skip ?_
    refine C.next ?_
    refine C.seq ?_
    refine C.draw [] 3 [0,1,2,3,4,5,6,7] [false,true,true,true,true,true,false,false] [(false,0),(true,1),(true,2),(true,3),(true,4),(true,5),(false,6),(false,7)] Tf.follows (fun _ _ _ h => np_body (P := Try.prog) (fn := Try.f9) _ _ _ h) (by kernel_rfl) rfl ?_
    refine L.loadDW rfl Tf.a25 rfl hB1 (by first | simp | assumption) Tf.s25 List.not_mem_nil rfl trivial ?_
    refine L.move rfl rfl rfl trivial ?_
    refine L.convI rfl Try.underlying82 Try.underlying3 rfl (by simp only [inK]; omega) rfl trivial ?_
    refine L.loadDW rfl Tf.a25 rfl hB1 (by first | simp | assumption) Tf.s25 List.not_mem_nil rfl trivial ?_
    refine L.callV rfl rfl rfl (fun D3 hD3 => Many_ok _ y _ (hy0.up (hD3 _ (by simp))) (by omega) (by omega)) rfl trivial ?_
    refine L.rem rfl rfl rfl (by omega) (by omega) (by simp only [inK]; exact mod_in (by omega)) rfl trivial ?_
    refine L.call rfl rfl rfl (fun D4 hD4 => Nth_ok2 _ y _ (wn % 2 ^ unknown y.chairs) _ rfl (hy0.up (hD4 _ (by simp))) (by omega) (by have := Nat.mod_lt wn (Nat.two_pow_pos (unknown y.chairs)); omega)) rfl trivial (fun v4 D4 hD4 hp4 => ?_)
    obtain ⟨t, ht, hit⟩ := nth_open hyo hp4
    obtain ⟨hlen, hbt⟩ := truthOk hit
    have hmt := most_le hf0 hit
    refine L.assign rfl rfl rfl trivial ?_
    refine L.nil ?_
    refine C.next ?_
    refine C.seq ?_
    refine C.region [(false,0),(false,1),(false,2),(false,3)] rfl ?_
    refine L.loadDW rfl Tf.a25 rfl hB1 (by first | simp | assumption) Tf.s25 List.not_mem_nil rfl trivial ?_
    refine L.move rfl rfl rfl trivial ?_
    refine L.call rfl rfl rfl (fun D5 hD5 => Paired_ok _ _ y ws _ (hy0.up (hD5 _ (by simp))) (hS.up RK.up (hD5 _ (by simp))) hn7) rfl trivial (fun v5 D5 hD5 hp5 => ?_)
    obtain ⟨l, hl, hpl⟩ := hp5
    have hl3 := (prB_ok hn7 hpl).2
    have hpi := prB_lt hlen hpl
    refine L.assign rfl rfl rfl trivial ?_
    refine L.nil ?_
    refine C.next ?_
    refine C.seq ?_
    refine C.region [(false,0),(false,1),(false,2),(false,3),(false,4),(false,5),(false,6),(false,7),(false,8),(false,9)] rfl ?_
    refine L.loadDW rfl Tf.a25 rfl hB1 (by first | simp | assumption) Tf.s25 List.not_mem_nil rfl trivial ?_
    refine L.call rfl rfl rfl (fun D6 hD6 => YardL_ok _ y _ (hy0.up (hD6 _ (by simp))) (by omega) (by omega)) rfl trivial (fun v6 D6 hD6 hp6 => ?_)
    have hw := hp6
    refine L.move rfl rfl rfl trivial ?_
    refine L.call rfl rfl rfl (fun D7 hD7 => TruthL_ok _ t _ (ht.up RP.up (hD7 _ (by simp))) (by omega)) rfl trivial (fun v7 D7 hD7 hp7 => ?_)
    have hz := hp7
    refine L.callV rfl rfl rfl (fun D8 hD8 => Play2_ok _ _ y t _ (hw.up (hD8 _ (by simp))) (hz.up RP.up (hD8 _ (by simp))) hf0 hit) rfl trivial ?_
    refine L.move rfl rfl rfl trivial ?_
    refine L.extract rfl rfl rfl rfl trivial ?_
    refine L.extract rfl rfl rfl rfl trivial ?_
    refine L.assign rfl rfl rfl trivial ?_
    refine L.assign rfl rfl rfl trivial ?_
    refine L.nil ?_
    refine C.next ?_
    refine C.seq ?_
    refine C.seq ?_
    refine C.region [(false,0),(false,1),(false,2),(false,3),(false,4),(false,5),(false,6),(false,7),(false,8),(false,9),(false,10),(false,11),(false,12),(false,13),(false,14),(false,15),(false,16),(false,17),(false,18),(false,19),(false,20)] rfl ?_
    refine L.move rfl rfl rfl trivial ?_
    refine L.neq rfl rfl rfl rfl trivial ?_
    refine L.move rfl rfl rfl trivial ?_
    refine' L.or [(false,3),(false,4),(false,5),(false,6),(false,7),(false,8),(false,9)] [(false,10),(false,11),(false,12),(false,13),(false,14),(false,15),(false,16),(false,17),(false,18),(false,19),(false,20)] (s := 42) (p := 49) rfl rfl (fun hg1 => ?_) (fun hg1 => ?_) ?_
    rotate_left
    · refine L.loadDW rfl Tf.a25 rfl hB1 (by first | simp | assumption) Tf.s25 List.not_mem_nil rfl ⟨_, rfl, rfl⟩ ?_
      refine L.move rfl rfl rfl ⟨_, rfl, rfl⟩ ?_
      refine L.move rfl rfl rfl ⟨_, rfl, rfl⟩ ?_
      refine L.callV rfl rfl rfl (fun D9 hD9 => Makes_ok _ _ _ y t l _ (hy0.up (hD9 _ (by simp))) (ht.up RP.up (hD9 _ (by simp))) (hl.up R2.up (hD9 _ (by simp))) hyo hlen hbt hpi (by omega)) rfl ⟨_, rfl, rfl⟩ ?_
      refine L.move rfl rfl rfl ⟨_, rfl, rfl⟩ ?_
      refine L.gtr rfl rfl rfl rfl ⟨_, rfl, rfl⟩ ?_
      refine L.pickF rfl rfl rfl rfl trivial ?_
      exact L.nil fun a w hh => hh.cutK 6 rfl
    · refine L.pass rfl rfl rfl ⟨_, _, rfl, rfl, rfl⟩ ?_
      refine L.pass rfl rfl rfl ⟨_, _, rfl, rfl, rfl⟩ ?_
      refine L.pass rfl rfl rfl ⟨_, _, rfl, rfl, rfl⟩ ?_
      refine L.pass rfl rfl rfl ⟨_, _, rfl, rfl, rfl⟩ ?_
      refine L.pass rfl rfl rfl ⟨_, _, rfl, rfl, rfl⟩ ?_
      refine L.pass rfl rfl rfl ⟨_, _, rfl, rfl, rfl⟩ ?_
      refine L.pickT rfl rfl rfl rfl trivial ?_
      exact L.nil fun a w hh => hh.cutK 6 rfl
    refine L.move rfl rfl rfl trivial ?_
    refine' L.or [(false,11),(false,12),(false,13),(false,14),(false,15),(false,16),(false,17),(false,18),(false,19),(false,20)] [] (s := 50) (p := 60) rfl rfl (fun hg2 => ?_) (fun hg2 => ?_) ?_
    rotate_left
    · refine L.loadDW rfl Tf.a25 rfl hB1 (by first | simp | assumption) Tf.s25 List.not_mem_nil rfl ⟨_, rfl, rfl⟩ ?_
      refine L.call rfl rfl rfl (fun D10 hD10 => YardL_ok _ y _ (hy0.up (hD10 _ (by simp))) (by omega) (by omega)) rfl ⟨_, rfl, rfl⟩ (fun v10 D10 hD10 hp10 => ?_)
      have hw := hp10
      refine L.move rfl rfl rfl ⟨_, rfl, rfl⟩ ?_
      refine L.call rfl rfl rfl (fun D11 hD11 => TruthL_ok _ t _ (ht.up RP.up (hD11 _ (by simp))) (by omega)) rfl ⟨_, rfl, rfl⟩ (fun v11 D11 hD11 hp11 => ?_)
      have hz := hp11
      refine L.move rfl rfl rfl ⟨_, rfl, rfl⟩ ?_
      refine L.call rfl rfl rfl (fun D12 hD12 => pairsL_ok _ l _ (hl.up R2.up (hD12 _ (by simp))) (by omega)) rfl ⟨_, rfl, rfl⟩ (fun v12 D12 hD12 hp12 => ?_)
      have hx := hp12
      refine L.move rfl rfl rfl ⟨_, rfl, rfl⟩ ?_
      refine L.add rfl rfl rfl (by simp only [inK]; omega) rfl ⟨_, rfl, rfl⟩ ?_
      refine L.callV rfl rfl rfl (fun D13 hD13 => ProvePairs_ok _ _ _ y t l _ _ (hw.up (hD13 _ (by simp))) (hz.up RP.up (hD13 _ (by simp))) (hx.up R2.up (hD13 _ (by simp)))) rfl ⟨_, rfl, rfl⟩ ?_
      refine L.pickF rfl rfl rfl rfl trivial ?_
      exact L.nil fun a w hh => (hh.cutK 9 rfl).ds (fun _ h => List.Mem.tail _ (List.Mem.tail _ (List.Mem.tail _ (h))))
    · refine L.pass rfl rfl rfl ⟨_, _, rfl, rfl, rfl⟩ ?_
      refine L.pass rfl rfl rfl ⟨_, _, rfl, rfl, rfl⟩ ?_
      refine L.pass rfl rfl rfl ⟨_, _, rfl, rfl, rfl⟩ ?_
      refine L.pass rfl rfl rfl ⟨_, _, rfl, rfl, rfl⟩ ?_
      refine L.pass rfl rfl rfl ⟨_, _, rfl, rfl, rfl⟩ ?_
      refine L.pass rfl rfl rfl ⟨_, _, rfl, rfl, rfl⟩ ?_
      refine L.pass rfl rfl rfl ⟨_, _, rfl, rfl, rfl⟩ ?_
      refine L.pass rfl rfl rfl ⟨_, _, rfl, rfl, rfl⟩ ?_
      refine L.pass rfl rfl rfl ⟨_, _, rfl, rfl, rfl⟩ ?_
      refine L.pickT rfl rfl rfl rfl trivial ?_
      exact L.nil fun a w hh => hh.cutK 9 rfl
    refine L.nil ?_
    refine C.next ?_
    refine C.cond rfl (fun hc2 => ?_) (fun hc2 => ?_)
    · rw [nm_one hf0 hit hpl] at hc2; cases hc2
    · refine C.skip ?_
      refine C.next ?_
      refine C.seq ?_
      refine C.region [(false,0)] rfl ?_
      refine L.assign rfl rfl rfl trivial ?_
      refine L.nil ?_
      refine C.next ?_
      refine C.seq ?_
      refine C.seq ?_
      refine C.region [(false,0)] rfl ?_
      refine L.assign rfl rfl rfl trivial ?_
      refine L.nil ?_
      refine C.next ?_
      refine C.block ?_
      refine C.loopR (γ := Nat × Value × Boxes) (fun g => t.length - g.1) (fun g => g.1 ≤ t.length ∧ Acc 3 1 g.2.1 (bitsK (bset (fun i => bn.testBit i && brokB t i) t.length) g.1).length (ints (bitsK (bset (fun i => bn.testBit i && brokB t i) t.length) g.1)) g.2.2) (fun g => [(13, g.2.1), (14, .int .i64 (g.1 : Int))]) [(11, _), (10, _), (9, _), (8, _), (4, _), (3, _)] (fun g => g.2.2 ++ []) (fun g => [D7, D6, D5, D4, E1, D]) (0, .slice none 0 0, []) ⟨by simp, Acc.nil⟩ ⟨(by first | rfl | (show some (Value.int _ _) = some (Value.int _ _); congr 2; omega)), (by first | rfl | (show some (Value.int _ _) = some (Value.int _ _); congr 2; omega)), trivial⟩ ⟨rfl, rfl, rfl, rfl, rfl, rfl, trivial⟩ (List.Sublist.refl _) (ds_same) ?_
      rintro ⟨k, v, ν⟩ ⟨h1, ha⟩
      simp only at h1 ha
      refine C.seq ?_
      refine C.seq ?_
      refine C.region [(false,0),(false,1),(false,2),(false,3)] rfl ?_
      refine L.move rfl rfl rfl trivial ?_
      refine L.move rfl rfl rfl trivial ?_
      refine L.len rfl Try.underlying26 rfl ht rfl rfl trivial ?_
      refine L.lss rfl rfl rfl rfl trivial ?_
      refine L.nil ?_
      refine C.next ?_
      refine C.condD rfl (fun hc3 => ?_) (fun hc3 => ?_)
      · have hk : k < t.length := by simp only at hc3; omega
        obtain ⟨z, hz0⟩ : ∃ z, t[k]? = some z := ⟨_, List.getElem?_eq_getElem hk⟩
        refine C.skip ?_
        refine C.next ?_
        refine C.seq ?_
        refine C.block ?_
        refine C.seq ?_
        refine C.region [(false,0),(false,1),(false,2),(false,3),(false,4),(false,5),(false,6),(false,7),(false,8),(false,9),(false,10),(false,11),(false,12),(false,13)] rfl ?_
        refine L.move rfl rfl rfl trivial ?_
        refine L.move rfl rfl rfl trivial ?_
        refine L.convI rfl Try.underlying3 Try.underlying88 rfl (by simp only [inK]; omega) rfl trivial ?_
        refine L.shrU8 rfl rfl rfl (by omega) rfl trivial ?_
        refine L.rem rfl rfl rfl (Int.natCast_nonneg _) (by omega) (by rw [bit_mod]; split <;> simp only [inK] <;> omega) rfl trivial ?_
        refine L.eql rfl rfl rfl rfl trivial ?_
        refine L.move rfl rfl rfl trivial ?_
        refine' L.and [(false,7),(false,8),(false,9),(false,10),(false,11),(false,12),(false,13)] [] (s := 73) (p := 80) rfl rfl (fun hg3 => ?_) (fun hg3 => ?_) ?_
        rotate_left
        · refine L.move rfl rfl rfl ⟨_, rfl, rfl⟩ ?_
          refine L.move rfl rfl rfl ⟨_, rfl, rfl⟩ ?_
          refine L.indexS rfl Try.underlying26 Tf.s91 rfl ht rfl (by omega) hz0 rfl ⟨_, rfl, rfl⟩ (fun b1 o1 cs1 hr1 hcl1 hA1 => ?_)
          obtain rfl : cs1 = [.int .i64 _, .int .i64 _, .int .i64 _] := hr1
          refine L.loadDW rfl Tf.a91 rfl hA1 (by first | simp | assumption) (by first | exact Tf.s91 | (simp only [ints_length, *]; exact Tf.s91)) List.not_mem_nil rfl ⟨_, rfl, rfl⟩ ?_
          refine L.callV rfl rfl rfl (fun D14 hD14 => IsWhole_ok z _ (hbt _ (List.mem_of_getElem? hz0))) rfl ⟨_, rfl, rfl⟩ ?_
          refine L.not rfl rfl rfl ⟨_, rfl, rfl⟩ ?_
          refine L.pickT rfl rfl rfl rfl trivial ?_
          exact L.nil fun a w hh => hh.cutK 6 rfl
        · refine L.pass rfl rfl rfl ⟨_, _, rfl, rfl, rfl⟩ ?_
          refine L.pass rfl rfl rfl ⟨_, _, rfl, rfl, rfl⟩ ?_
          refine L.pass rfl rfl rfl ⟨_, _, rfl, rfl, rfl⟩ ?_
          refine L.pass rfl rfl rfl ⟨_, _, rfl, rfl, rfl⟩ ?_
          refine L.pass rfl rfl rfl ⟨_, _, rfl, rfl, rfl⟩ ?_
          refine L.pass rfl rfl rfl ⟨_, _, rfl, rfl, rfl⟩ ?_
          refine L.pickF rfl rfl rfl rfl trivial ?_
          exact L.nil fun a w hh => hh.cutK 6 rfl
        refine L.nil ?_
        refine C.next ?_
        refine C.cond rfl (fun hc4 => ?_) (fun hc4 => ?_)
        · have hbit := q_yes hk hz0 hc4
          refine C.region [(false,0),(false,1),(false,2),(false,3),(false,4)] rfl ?_
          refine L.move rfl rfl rfl trivial ?_
          refine L.move rfl rfl rfl trivial ?_
          refine L.buildSlice rfl Try.underlying52 Tf.s3 Tf.z3 rfl rfl rfl rfl (.cons rfl rfl .nil) rfl trivial (fun b901 D901 hD901 hA901 => ?_)
          have hS901 := Sl.ofInts (l := [_]) (n := 1) (cap := 1) hA901 rfl (by omega) (by omega)
          refine L.append (A := []) (B := []) rfl Try.underlying52 rfl rfl Tf.s3 Tf.z3 rfl Tf.i3 rfl rfl rfl ha (Src.lit hA901) (by simp) rfl (by simp) (by simp [cell1]) (by have := bk_len (bset (fun i => bn.testBit i && brokB t i) t.length) k; omega) (Or.inl rfl) rfl trivial (fun v7 ν7 ha7 => ?_)
          have hn7x : Acc 3 1 v7 (bitsK (bset (fun i => bn.testBit i && brokB t i) t.length) (k + 1)).length (ints (bitsK (bset (fun i => bn.testBit i && brokB t i) t.length) (k + 1))) ν7 := by rw [bk_yes hbit]; simpa [ints] using ha7
          refine L.assign rfl rfl rfl trivial ?_
          refine L.nil ?_
          refine C.blockEnd ?_
          refine C.next ?_
          refine C.region [(false,0),(false,1),(false,2)] rfl ?_
          refine L.move rfl rfl rfl trivial ?_
          refine L.add rfl rfl rfl (by simp only [inK]; omega) rfl trivial ?_
          refine L.assign rfl rfl rfl trivial ?_
          refine L.nil ?_
          exact C.againR 22 (k + 1, v7, ν7) ⟨by simp only; omega, hn7x⟩ (by simp only; omega) ⟨(by first | rfl | (show some (Value.int _ _) = some (Value.int _ _); congr 2; omega)), (by first | rfl | (show some (Value.int _ _) = some (Value.int _ _); congr 2; omega)), trivial⟩ rfl rfl (List.Sublist.refl _) (fun D h => ⟨D, List.Mem.tail _ (h), Le.refl D⟩)
        · have hbit := q_no hk hz0 hc4
          refine C.skip ?_
          refine C.blockEnd ?_
          refine C.next ?_
          refine C.region [(false,0),(false,1),(false,2)] rfl ?_
          refine L.move rfl rfl rfl trivial ?_
          refine L.add rfl rfl rfl (by simp only [inK]; omega) rfl trivial ?_
          refine L.assign rfl rfl rfl trivial ?_
          refine L.nil ?_
          exact C.againR 17 (k + 1, v, ν) ⟨by simp only; omega, by simp only; rw [bk_no hbit]; exact ha⟩ (by simp only; omega) ⟨(by first | rfl | (show some (Value.int _ _) = some (Value.int _ _); congr 2; omega)), (by first | rfl | (show some (Value.int _ _) = some (Value.int _ _); congr 2; omega)), trivial⟩ rfl rfl (List.Sublist.refl _) (ds_same)
      · obtain rfl : k = t.length := by simp only at hc3; omega
        rw [q_end (show t.length ≤ 7 by omega)] at ha
        obtain ⟨hq7, hqf, hqs, hqo⟩ := q_facts (t := t) (fun i => bn.testBit i) (show t.length ≤ 7 by omega)
        refine C.freezeM (A := []) (B := []) ha (fun _ h => by cases h) (fun D70 hD70 hF70 => ?_)
        have hpr : Sl D70 RI 1 v (bitsL (bset (fun i => bn.testBit i && brokB t i) t.length)) := hF70.ints rfl (by omega)
        refine C.exit ?_
        refine C.thenExit ?_
        refine C.thenExit ?_
        refine C.blockExit ?_
        refine C.next ?_
        refine C.seq ?_
        refine C.seq ?_
        refine C.region [(false,0),(false,1),(false,2),(false,3),(false,4),(false,5),(false,6),(false,7),(false,8),(false,9),(false,10),(false,11),(false,12),(false,13),(false,14),(false,15),(false,16)] rfl ?_
        refine L.loadDW rfl Tf.a25 rfl hB1 (by first | simp | assumption) Tf.s25 List.not_mem_nil rfl trivial ?_
        refine L.call rfl rfl rfl (fun D15 hD15 => YardL_ok _ y _ (hy0.up (hD15 _ (by simp))) (by omega) (by omega)) rfl trivial (fun v15 D15 hD15 hp15 => ?_)
        have hw := hp15
        refine L.move rfl rfl rfl trivial ?_
        refine L.call rfl rfl rfl (fun D16 hD16 => TruthL_ok _ t _ (ht.up RP.up (hD16 _ (by simp))) (by omega)) rfl trivial (fun v16 D16 hD16 hp16 => ?_)
        have hz := hp16
        refine L.move rfl rfl rfl trivial ?_
        refine L.call rfl rfl rfl (fun D17 hD17 => list_ok _ (bitsL (bset (fun i => bn.testBit i && brokB t i) t.length)) _ (hpr.up RI.up (hD17 _ (by simp))) (by omega)) rfl trivial (fun v17 D17 hD17 hp17 => ?_)
        have hx := hp17
        refine L.move rfl rfl rfl trivial ?_
        refine L.sub rfl rfl rfl (by simp only [inK]; omega) rfl trivial ?_
        refine L.callV rfl rfl rfl (fun D18 hD18 => ProveBerge_ok _ _ _ y t (bitsL (bset (fun i => bn.testBit i && brokB t i) t.length)) _ _ (hw.up (hD18 _ (by simp))) (hz.up RP.up (hD18 _ (by simp))) (hx.up RI.up (hD18 _ (by simp)))) rfl trivial ?_
        refine L.move rfl rfl rfl trivial ?_
        refine' L.or [(false,10),(false,11),(false,12),(false,13),(false,14),(false,15),(false,16)] [] (s := 94) (p := 101) rfl rfl (fun hg4 => ?_) (fun hg4 => ?_) ?_
        rotate_left
        · refine L.loadDW rfl Tf.a25 rfl hB1 (by first | simp | assumption) Tf.s25 List.not_mem_nil rfl ⟨_, rfl, rfl⟩ ?_
          refine L.move rfl rfl rfl ⟨_, rfl, rfl⟩ ?_
          refine L.move rfl rfl rfl ⟨_, rfl, rfl⟩ ?_
          refine L.callV rfl rfl rfl (fun D19 hD19 => BoundR_ok _ _ _ y t (bitsL (bset (fun i => bn.testBit i && brokB t i) t.length)) _ (hy0.up (hD19 _ (by simp))) (ht.up RP.up (hD19 _ (by simp))) (hpr.up RI.up (hD19 _ (by simp))) hyo hlen hbt hqf) rfl ⟨_, rfl, rfl⟩ ?_
          refine L.move rfl rfl rfl ⟨_, rfl, rfl⟩ ?_
          refine L.lss rfl rfl rfl rfl ⟨_, rfl, rfl⟩ ?_
          refine L.pickF rfl rfl rfl rfl trivial ?_
          exact L.nil fun a w hh => hh.cutK 6 rfl
        · refine L.pass rfl rfl rfl ⟨_, _, rfl, rfl, rfl⟩ ?_
          refine L.pass rfl rfl rfl ⟨_, _, rfl, rfl, rfl⟩ ?_
          refine L.pass rfl rfl rfl ⟨_, _, rfl, rfl, rfl⟩ ?_
          refine L.pass rfl rfl rfl ⟨_, _, rfl, rfl, rfl⟩ ?_
          refine L.pass rfl rfl rfl ⟨_, _, rfl, rfl, rfl⟩ ?_
          refine L.pass rfl rfl rfl ⟨_, _, rfl, rfl, rfl⟩ ?_
          refine L.pickT rfl rfl rfl rfl trivial ?_
          exact L.nil fun a w hh => hh.cutK 6 rfl
        refine L.nil ?_
        refine C.next ?_
        refine C.cond rfl (fun hc5 => ?_) (fun hc5 => ?_)
        · rw [nm_two hf0 hit hqf hqs hqo] at hc5; cases hc5
        · refine C.skip ?_
          refine C.next ?_
          refine C.seq ?_
          refine C.region [(false,0),(false,1),(false,2),(false,3),(false,4),(false,5),(false,6),(false,7),(false,8),(false,9)] rfl ?_
          refine L.loadDW rfl Tf.a25 rfl hB1 (by first | simp | assumption) Tf.s25 List.not_mem_nil rfl trivial ?_
          refine L.call rfl rfl rfl (fun D20 hD20 => YardL_ok _ y _ (hy0.up (hD20 _ (by simp))) (by omega) (by omega)) rfl trivial (fun v20 D20 hD20 hp20 => ?_)
          have hw := hp20
          refine L.call rfl rfl rfl (fun D21 hD21 => Sure_ok _ y _ (hw.up (hD21 _ (by simp)))) rfl trivial (fun v21 D21 hD21 hp21 => ?_)
          obtain ⟨pv, rfl, hpv⟩ := hp21
          refine L.move rfl rfl rfl trivial ?_
          refine L.extract rfl rfl rfl rfl trivial ?_
          refine L.extract rfl rfl rfl rfl trivial ?_
          refine L.extract rfl rfl rfl rfl trivial ?_
          refine L.assign rfl rfl rfl trivial ?_
          refine L.assign rfl rfl rfl trivial ?_
          refine L.assign rfl rfl rfl trivial ?_
          refine L.nil ?_
          refine C.next ?_
          refine C.seq ?_
          refine C.seq ?_
          refine C.region [(false,0),(false,1)] rfl ?_
          refine L.move rfl rfl rfl trivial ?_
          refine L.neq rfl rfl rfl rfl trivial ?_
          refine L.nil ?_
          refine C.next ?_
          refine C.condD rfl (fun hc6 => ?_) (fun hc6 => ?_)
          · refine C.seq ?_
            refine C.region [(false,0),(false,1),(false,2),(false,3),(false,4),(false,5),(false,6),(false,7),(false,8),(false,9),(false,10),(false,11),(false,12),(false,13)] rfl ?_
            refine L.move rfl rfl rfl trivial ?_
            refine L.eql rfl rfl rfl rfl trivial ?_
            refine L.move rfl rfl rfl trivial ?_
            refine' L.and [(false,3),(false,4),(false,5),(false,6),(false,7),(false,8),(false,9)] [(false,10),(false,11),(false,12),(false,13)] (s := 113) (p := 120) rfl rfl (fun hg5 => ?_) (fun hg5 => ?_) ?_
            rotate_left
            · refine L.loadDW rfl Tf.a25 rfl hB1 (by first | simp | assumption) Tf.s25 List.not_mem_nil rfl ⟨_, rfl, rfl⟩ ?_
              refine L.call rfl rfl rfl (fun D22 hD22 => YardL_ok _ y _ (hy0.up (hD22 _ (by simp))) (by omega) (by omega)) rfl ⟨_, rfl, rfl⟩ (fun v22 D22 hD22 hp22 => ?_)
              have hw := hp22
              refine L.move rfl rfl rfl ⟨_, rfl, rfl⟩ ?_
              refine L.call rfl rfl rfl (fun D23 hD23 => pairsL_ok _ l _ (hl.up R2.up (hD23 _ (by simp))) (by omega)) rfl ⟨_, rfl, rfl⟩ (fun v23 D23 hD23 hp23 => ?_)
              have hx := hp23
              refine L.callV rfl rfl rfl (fun D24 hD24 => ProveSure_ok _ _ y l _ _ (hw.up (hD24 _ (by simp))) (hx.up R2.up (hD24 _ (by simp)))) rfl ⟨_, rfl, rfl⟩ ?_
              refine L.not rfl rfl rfl ⟨_, rfl, rfl⟩ ?_
              refine L.pickT rfl rfl rfl rfl trivial ?_
              exact L.nil fun a w hh => (hh.cutK 6 rfl).ds (fun _ h => List.Mem.tail _ (List.Mem.tail _ (h)))
            · refine L.pass rfl rfl rfl ⟨_, _, rfl, rfl, rfl⟩ ?_
              refine L.pass rfl rfl rfl ⟨_, _, rfl, rfl, rfl⟩ ?_
              refine L.pass rfl rfl rfl ⟨_, _, rfl, rfl, rfl⟩ ?_
              refine L.pass rfl rfl rfl ⟨_, _, rfl, rfl, rfl⟩ ?_
              refine L.pass rfl rfl rfl ⟨_, _, rfl, rfl, rfl⟩ ?_
              refine L.pass rfl rfl rfl ⟨_, _, rfl, rfl, rfl⟩ ?_
              refine L.pickF rfl rfl rfl rfl trivial ?_
              exact L.nil fun a w hh => hh.cutK 6 rfl
            refine L.move rfl rfl rfl trivial ?_
            refine' L.and [(false,11),(false,12)] [(false,13)] (s := 121) (p := 123) rfl rfl (fun hg6 => ?_) (fun hg6 => ?_) ?_
            rotate_left
            · refine L.callV rfl rfl rfl (fun D25 hD25 => awake_ok _) rfl ⟨_, rfl, rfl⟩ ?_
              refine L.pickT rfl rfl rfl rfl trivial ?_
              exact L.nil fun a w hh => hh.cutK 1 rfl
            · refine L.pass rfl rfl rfl ⟨_, _, rfl, rfl, rfl⟩ ?_
              refine L.pickF rfl rfl rfl rfl trivial ?_
              exact L.nil fun a w hh => hh.cutK 1 rfl
            refine L.assign rfl rfl rfl trivial ?_
            refine L.nil ?_
            refine C.next ?_
            refine C.ret ?_
            refine C.thenRet ?_
            exact leave (vs := [_]) rfl rfl rfl ⟨rfl, trivial⟩ (fun D hD => congrArg Value.bool (nm_err hf0 hc6))
          · have has := nm_ask hf0 (by omega)
            have hsu := sure_lim has
            refine C.skip ?_
            refine C.next ?_
            refine C.seq ?_
            refine C.region [(false,0),(false,1),(false,2),(false,3),(false,4),(false,5),(false,6),(false,7),(false,8),(false,9),(false,10),(false,11),(false,12),(false,13),(false,14),(false,15),(false,16),(false,17),(false,18),(false,19),(false,20),(false,21)] rfl ?_
            refine L.loadDW rfl Tf.a25 rfl hB1 (by first | simp | assumption) Tf.s25 List.not_mem_nil rfl trivial ?_
            refine L.call rfl rfl rfl (fun D26 hD26 => YardL_ok _ y _ (hy0.up (hD26 _ (by simp))) (by omega) (by omega)) rfl trivial (fun v26 D26 hD26 hp26 => ?_)
            have hw := hp26
            refine L.move rfl rfl rfl trivial ?_
            refine L.call rfl rfl rfl (fun D27 hD27 => pairsL_ok _ l _ (hl.up R2.up (hD27 _ (by simp))) (by omega)) rfl trivial (fun v27 D27 hD27 hp27 => ?_)
            have hx := hp27
            refine L.move rfl rfl rfl trivial ?_
            refine L.add rfl rfl rfl (by simp only [inK]; omega) rfl trivial ?_
            refine L.callV rfl rfl rfl (fun D28 hD28 => ProveSure_ok _ _ y l _ _ (hw.up (hD28 _ (by simp))) (hx.up R2.up (hD28 _ (by simp)))) rfl trivial ?_
            refine L.not rfl rfl rfl trivial ?_
            refine L.move rfl rfl rfl trivial ?_
            refine' L.and [(false,9),(false,10),(false,11),(false,12),(false,13),(false,14),(false,15),(false,16),(false,17)] [(false,18),(false,19),(false,20),(false,21)] (s := 132) (p := 141) rfl rfl (fun hg7 => ?_) (fun hg7 => ?_) ?_
            rotate_left
            · refine L.loadDW rfl Tf.a25 rfl hB1 (by first | simp | assumption) Tf.s25 List.not_mem_nil rfl ⟨_, rfl, rfl⟩ ?_
              refine L.callV rfl rfl rfl (fun D29 hD29 => Unknown_ok _ y _ (hy0.up (hD29 _ (by simp))) (by omega)) rfl ⟨_, rfl, rfl⟩ ?_
              refine L.gtr rfl rfl rfl rfl ⟨_, rfl, rfl⟩ ?_
              refine L.move rfl rfl rfl ⟨_, rfl, rfl⟩ ?_
              refine' L.or [(false,13),(false,14),(false,15),(false,16)] [(false,17)] (s := 136) (p := 140) rfl rfl (fun hg8 => ?_) (fun hg8 => ?_) ?_
              rotate_left
              · refine L.move rfl rfl rfl ⟨_, rfl, rfl⟩ ?_
                refine L.move rfl rfl rfl ⟨_, rfl, rfl⟩ ?_
                refine L.eql rfl rfl rfl rfl ⟨_, rfl, rfl⟩ ?_
                refine L.pickF rfl rfl rfl rfl ⟨_, rfl, rfl⟩ ?_
                exact L.nil fun a w hh => hh.cutK 3 rfl
              · refine L.pass rfl rfl rfl ⟨_, _, rfl, rfl, rfl⟩ ?_
                refine L.pass rfl rfl rfl ⟨_, _, rfl, rfl, rfl⟩ ?_
                refine L.pass rfl rfl rfl ⟨_, _, rfl, rfl, rfl⟩ ?_
                refine L.pickT rfl rfl rfl rfl ⟨_, rfl, rfl⟩ ?_
                exact L.nil fun a w hh => hh.cutK 3 rfl
              refine L.pickT rfl rfl rfl rfl trivial ?_
              exact L.nil fun a w hh => hh.cutK 5 rfl
            · refine L.pass rfl rfl rfl ⟨_, _, rfl, rfl, rfl⟩ ?_
              refine L.pass rfl rfl rfl ⟨_, _, rfl, rfl, rfl⟩ ?_
              refine L.pass rfl rfl rfl ⟨_, _, rfl, rfl, rfl⟩ ?_
              refine L.pass rfl rfl rfl ⟨_, _, rfl, rfl, rfl⟩ ?_
              refine L.pass rfl rfl rfl ⟨_, _, rfl, rfl, rfl⟩ ?_
              refine L.pass rfl rfl rfl ⟨_, _, rfl, rfl, rfl⟩ ?_
              refine L.pass rfl rfl rfl ⟨_, _, rfl, rfl, rfl⟩ ?_
              refine L.pass rfl rfl rfl ⟨_, _, rfl, rfl, rfl⟩ ?_
              refine L.pickF rfl rfl rfl rfl trivial ?_
              exact L.nil fun a w hh => hh.cutK 8 rfl
            refine L.move rfl rfl rfl trivial ?_
            refine' L.and [(false,19),(false,20)] [(false,21)] (s := 142) (p := 144) rfl rfl (fun hg9 => ?_) (fun hg9 => ?_) ?_
            rotate_left
            · refine L.callV rfl rfl rfl (fun D30 hD30 => awake_ok _) rfl ⟨_, rfl, rfl⟩ ?_
              refine L.pickT rfl rfl rfl rfl trivial ?_
              exact L.nil fun a w hh => hh.cutK 1 rfl
            · refine L.pass rfl rfl rfl ⟨_, _, rfl, rfl, rfl⟩ ?_
              refine L.pickF rfl rfl rfl rfl trivial ?_
              exact L.nil fun a w hh => hh.cutK 1 rfl
            refine L.assign rfl rfl rfl trivial ?_
            refine L.nil ?_
            refine C.next ?_
            refine C.ret ?_
            exact leave (vs := [_]) rfl rfl rfl ⟨rfl, trivial⟩ (fun D hD => congrArg Value.bool (nm_end hf0 hit has hpl))
end Go.Fs
