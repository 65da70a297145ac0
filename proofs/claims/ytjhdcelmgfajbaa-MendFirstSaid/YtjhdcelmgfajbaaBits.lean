/- Bits: the operations << >> & | &^ of numbers that are not negative. -/
import Derived.Test.YtjhdcelmgfajbaaKeys
namespace Go.Fs

variable {P : Program} {X : Cx} {γb : Type} [Membership Nat γb] {bad : γb} {all : Array Oper} {K : Act → World → Prop} {Q : Exit → Act → World → Prop}
variable {σ : Slots} {μ : Boxes} {Ds : List Data} {os : List (Bool × Nat)} {fl : Bool} {ix : Nat}
variable {d : Nat} {x y z : Operand} {u v : Value} {ty : TypeId} {pos : String} {aft : Array Edge} {g : Option (Nat × Bool)}
variable {k' : IntKind} {m n : Nat} {t t' : TypeId}

/-- m without the bits of n. -/
def dif (m n : Nat) : Nat := m ^^^ (m &&& n)
theorem dif_bit (m n i : Nat) : (dif m n).testBit i = (m.testBit i && !n.testBit i) := by
  unfold dif; rw [Nat.testBit_xor, Nat.testBit_and]; cases m.testBit i <;> cases n.testBit i <;> rfl
theorem dif_le (m n : Nat) : dif m n ≤ m := by
  apply Nat.le_of_testBit; intro i hi; rw [dif_bit] at hi; simp at hi; exact hi.1

theorem toNat_of {m : Nat} (h : m < 9223372036854775808) : (BitVec.ofInt IntKind.i64.bits (m : Int)).toNat = m := by
  rw [BitVec.ofInt_natCast, BitVec.toNat_ofNat]
  exact Nat.mod_eq_of_lt (by show m < 2 ^ 64; omega)
theorem and_lt {m n : Nat} (h : m < 9223372036854775808) : m &&& n < 9223372036854775808 := Nat.lt_of_le_of_lt Nat.and_le_left h
theorem or_lt {m n : Nat} (h : m < 9223372036854775808) (h' : n < 9223372036854775808) : m ||| n < 9223372036854775808 := Nat.or_lt_two_pow (n := 63) h h'

theorem L.andN (ho : all[ix]? = some ⟨some d, .binOp .and t x y t', ty, pos, aft, g⟩) (hx : ev σ x = some (.int .i64 (m : Int))) (hy : ev σ y = some (.int .i64 (n : Int))) (hm : m < 9223372036854775808) (hn : n < 9223372036854775808) (hN : Nat.blt d X.N = true) (hg : Gok all σ g)
    (kk : WL P X bad all K Q os ((d, .int .i64 ((m &&& n : Nat) : Int)) :: σ) μ Ds) : WL P X bad all K Q ((fl, ix) :: os) σ μ Ds :=
  L.pure ho rfl rfl hN hg (fun ρ hρ w' => run_bin (by simp) (by
    have e : (BitVec.ofInt IntKind.i64.bits (m : Int) &&& BitVec.ofInt IntKind.i64.bits (n : Int)).toNat = m &&& n := by rw [BitVec.toNat_and, toNat_of hm, toNat_of hn]
    have h2 := and_lt (n := n) hm
    have h3 : inK .i64 ((m &&& n : Nat) : Int) := by simp only [inK]; omega
    simp only [binOp, ne_eq, not_true_eq_false, if_false, Op.intBits, e, wrap_in h3]; rfl) (hρ x _ hx) (hρ y _ hy)) kk
theorem L.orB (ho : all[ix]? = some ⟨some d, .binOp .or t x y t', ty, pos, aft, g⟩) (hx : ev σ x = some (.int .i64 (m : Int))) (hy : ev σ y = some (.int .i64 (n : Int))) (hm : m < 9223372036854775808) (hn : n < 9223372036854775808) (hN : Nat.blt d X.N = true) (hg : Gok all σ g)
    (kk : WL P X bad all K Q os ((d, .int .i64 ((m ||| n : Nat) : Int)) :: σ) μ Ds) : WL P X bad all K Q ((fl, ix) :: os) σ μ Ds :=
  L.pure ho rfl rfl hN hg (fun ρ hρ w' => run_bin (by simp) (by
    have e : (BitVec.ofInt IntKind.i64.bits (m : Int) ||| BitVec.ofInt IntKind.i64.bits (n : Int)).toNat = m ||| n := by rw [BitVec.toNat_or, toNat_of hm, toNat_of hn]
    have h2 := or_lt hm hn
    have h3 : inK .i64 ((m ||| n : Nat) : Int) := by simp only [inK]; omega
    simp only [binOp, ne_eq, not_true_eq_false, if_false, Op.intBits, e, wrap_in h3]; rfl) (hρ x _ hx) (hρ y _ hy)) kk
theorem L.difN (ho : all[ix]? = some ⟨some d, .binOp .andNot t x y t', ty, pos, aft, g⟩) (hx : ev σ x = some (.int .i64 (m : Int))) (hy : ev σ y = some (.int .i64 (n : Int))) (hm : m < 9223372036854775808) (hn : n < 9223372036854775808) (hN : Nat.blt d X.N = true) (hg : Gok all σ g)
    (kk : WL P X bad all K Q os ((d, .int .i64 ((dif m n : Nat) : Int)) :: σ) μ Ds) : WL P X bad all K Q ((fl, ix) :: os) σ μ Ds :=
  L.pure ho rfl rfl hN hg (fun ρ hρ w' => run_bin (by simp) (by
    have e : (BitVec.ofInt IntKind.i64.bits (m : Int) &&& ~~~ BitVec.ofInt IntKind.i64.bits (n : Int)).toNat = dif m n := by
      apply Nat.eq_of_testBit_eq
      intro i
      rw [dif_bit, BitVec.testBit_toNat, BitVec.getLsbD_and, BitVec.getLsbD_not, ← BitVec.testBit_toNat, ← BitVec.testBit_toNat, toNat_of hm, toNat_of hn]
      by_cases hi : i < IntKind.i64.bits
      · simp [hi]
      · have : m.testBit i = false := Nat.testBit_lt_two_pow (Nat.lt_of_lt_of_le hm (Nat.le_trans (show 9223372036854775808 ≤ 2 ^ 64 by decide) (Nat.pow_le_pow_right (by decide) (show 64 ≤ i from Nat.le_of_not_lt hi))))
        simp [this]
    have h2 := dif_le m n
    have h3 : inK .i64 ((dif m n : Nat) : Int) := by simp only [inK]; omega
    simp only [binOp, ne_eq, not_true_eq_false, if_false, Op.intBits, e, wrap_in h3]; rfl) (hρ x _ hx) (hρ y _ hy)) kk

theorem L.or01 {a b : Int} (ho : all[ix]? = some ⟨some d, .binOp .or t x y t', ty, pos, aft, g⟩) (hx : ev σ x = some (.int .i64 a)) (hy : ev σ y = some (.int .i64 b)) (ha : 0 ≤ a ∧ a ≤ 1) (hb : 0 ≤ b ∧ b ≤ 1) (hN : Nat.blt d X.N = true) (hg : Gok all σ g)
    (kk : WL P X bad all K Q os ((d, .int .i64 (max a b)) :: σ) μ Ds) : WL P X bad all K Q ((fl, ix) :: os) σ μ Ds := by
  have h1 : a = ((a.toNat : Nat) : Int) := by omega
  have h2 : b = ((b.toNat : Nat) : Int) := by omega
  have h3 : max a b = ((a.toNat ||| b.toNat : Nat) : Int) := by
    have ha' : a = 0 ∨ a = 1 := by omega
    have hb' : b = 0 ∨ b = 1 := by omega
    rcases ha' with rfl | rfl <;> rcases hb' with rfl | rfl <;> decide
  rw [h3] at kk
  rw [h1] at hx
  rw [h2] at hy
  exact L.orB ho hx hy (by omega) (by omega) hN hg kk
theorem L.neg {k : IntKind} {a : Int} (ho : all[ix]? = some ⟨some d, .unOp .neg t x, ty, pos, aft, g⟩) (hx : ev σ x = some (.int k a)) (hr : inK k (-a)) (hN : Nat.blt d X.N = true) (hg : Gok all σ g)
    (kk : WL P X bad all K Q os ((d, .int k (-a)) :: σ) μ Ds) : WL P X bad all K Q ((fl, ix) :: os) σ μ Ds :=
  L.pure ho rfl rfl hN hg (fun ρ hρ w' => by
    have h2 : (0 : Int) - a = -a := by omega
    simp only [execOp, hρ x _ hx, Op.unary, Op.intArith, h2, wrap_in hr]; rfl) kk

/-- An array's literal. -/
theorem L.buildA {t e : TypeId} {n sz : Nat} {parts : Array (Nat × Operand)} {us : List (Nat × Value)} {zs cs : List Value} (ho : all[ix]? = some ⟨some d, .build t parts, ty, pos, aft, g⟩) (ht : P.underlying t = some (.array n e)) (hs : TS P e sz) (hz : TZ P t (.agg zs.toArray)) (hu : evps σ parts.toList = some us)
    (hf : Instr.fill (fun i => some (i * sz, sz)) zs.toArray us = some cs.toArray) (hN : Nat.blt d X.N = true) (hg : Gok all σ g) (kk : WL P X bad all K Q os ((d, .agg cs.toArray) :: σ) μ Ds) : WL P X bad all K Q ((fl, ix) :: os) σ μ Ds :=
  L.pure ho rfl rfl hN hg (fun ρ hρ w' => by
    have e : (parts.map fun (i, x) => (i, ρ x)).toList = us := by rw [← evps_eval hρ hu]; simp
    simp only [execOp, Instr.build, Sem.run_bind, hz w', Result.andThen_ok, TU.of ht w', hs w', Value.cells, e, hf, Sem.run_pure]) kk
theorem run_shift {op : BinOp} (he : op = .shl ∨ op = .shr) {k : IntKind} {a b : Int} {w : World} {r : Value} (h : (Op.shift op k a k' b).run P w = .ok r w) {ρ : Operand → Value} (hx : ρ x = .int k a) (hy : ρ y = .int k' b) :
    (execOp ρ ⟨some d, .binOp op t x y t', ty, pos, aft, g⟩).run P w = .ok (.value r) w := by
  rcases he with rfl | rfl <;> simp [execOp, hx, hy, binOp, h, go_sem]
theorem L.shlN (ho : all[ix]? = some ⟨some d, .binOp .shl t x y t', ty, pos, aft, g⟩) (hx : ev σ x = some (.int .i64 (m : Int))) (hy : ev σ y = some (.int k' (n : Int))) (hn : n ≤ 62) (hm : m * 2 ^ n < 9223372036854775808) (hN : Nat.blt d X.N = true) (hg : Gok all σ g)
    (kk : WL P X bad all K Q os ((d, .int .i64 ((m <<< n : Nat) : Int)) :: σ) μ Ds) : WL P X bad all K Q ((fl, ix) :: os) σ μ Ds :=
  L.pure ho rfl rfl hN hg (fun ρ hρ w' => run_shift (Or.inl rfl) (by
    have h1 : ¬ ((n : Int) < 0) := by omega
    have h2 : min (n : Int).toNat IntKind.i64.bits = n := by rw [Int.toNat_natCast]; exact Nat.min_eq_left (Nat.le_trans hn (by decide))
    have h3 : (m : Int) * 2 ^ n = ((m <<< n : Nat) : Int) := by rw [Nat.shiftLeft_eq]; simp
    have h4 : inK .i64 ((m <<< n : Nat) : Int) := by rw [Nat.shiftLeft_eq]; simp only [inK]; omega
    simp only [Op.shift, h1, if_false, h2, h3, wrap_in h4]; rfl) (hρ x _ hx) (hρ y _ hy)) kk
theorem L.shrN (ho : all[ix]? = some ⟨some d, .binOp .shr t x y t', ty, pos, aft, g⟩) (hx : ev σ x = some (.int .i64 (m : Int))) (hy : ev σ y = some (.int k' (n : Int))) (hn : n ≤ 62) (hN : Nat.blt d X.N = true) (hg : Gok all σ g)
    (kk : WL P X bad all K Q os ((d, .int .i64 ((m >>> n : Nat) : Int)) :: σ) μ Ds) : WL P X bad all K Q ((fl, ix) :: os) σ μ Ds :=
  L.pure ho rfl rfl hN hg (fun ρ hρ w' => run_shift (Or.inr rfl) (by
    have h1 : ¬ ((n : Int) < 0) := by omega
    have h2 : min (n : Int).toNat IntKind.i64.bits = n := by rw [Int.toNat_natCast]; exact Nat.min_eq_left (Nat.le_trans hn (by decide))
    have h3 : (m : Int).fdiv (2 ^ n) = ((m >>> n : Nat) : Int) := by
      rw [Nat.shiftRight_eq_div_pow, Int.fdiv_eq_ediv_of_nonneg _ (by exact_mod_cast Nat.zero_le (2 ^ n))]; simp
    simp only [Op.shift, h1, if_false, h2, h3]; rfl) (hρ x _ hx) (hρ y _ hy)) kk
theorem bit_mod (m n : Nat) : ((m >>> n : Nat) : Int) % 2 = if m.testBit n then 1 else 0 := by
  rw [Nat.testBit, Nat.one_and_eq_mod_two]
  have := Nat.mod_two_eq_zero_or_one (m >>> n)
  rcases this with h | h
  · have : ((m >>> n : Nat) : Int) % 2 = 0 := by omega
    rw [this]; simp [h]
  · have : ((m >>> n : Nat) : Int) % 2 = 1 := by omega
    rw [this]; simp [h]
end Go.Fs
