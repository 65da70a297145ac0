/- Of the proof of MendChair: Bits, Yard, Open, W1, W2, W3. -/
import Derived.Test.YtjhdcelmgfajbaaZMendChairC
namespace Go.Fs
variable {P : Program} {X : Cx} {γb : Type} [Membership Nat γb] {bad : γb} {all : Array Oper} {K : Act → World → Prop} {Q : Exit → Act → World → Prop}
variable {σ : Slots} {μ : Boxes} {Ds : List Data} {os : List (Bool × Nat)} {fl : Bool} {ix : Nat}
variable {d : Nat} {x y z : Operand} {u v : Value} {ty : TypeId} {pos : String} {aft : Array Edge} {g : Option (Nat × Bool)}
variable {k' : IntKind} {m n : Nat} {t t' : TypeId}
/-- m without the bits of n. -/
def dif (m n : Nat) : Nat := m ^^^ (m &&& n)
theorem dif_bit (m n i : Nat) : (dif m n).testBit i = (m.testBit i && !n.testBit i) := by
  unfold dif; rw [Nat.testBit_xor, Nat.testBit_and]; cases m.testBit i <;> cases n.testBit i <;> rfl
theorem dif_le (m n : Nat) : dif m n ≤ m := by
  apply Nat.le_of_testBit; intro i hi; rw [dif_bit] at hi; simp at hi; exact hi.1
theorem toNat_of {m : Nat} (h : m < 9223372036854775808) : (BitVec.ofInt IntKind.i64.bits (m : Int)).toNat = m := by
  rw [BitVec.ofInt_natCast, BitVec.toNat_ofNat]
  exact Nat.mod_eq_of_lt (by show m < 2 ^ 64; omega)
theorem and_lt {m n : Nat} (h : m < 9223372036854775808) : m &&& n < 9223372036854775808 := Nat.lt_of_le_of_lt Nat.and_le_left h
theorem or_lt {m n : Nat} (h : m < 9223372036854775808) (h' : n < 9223372036854775808) : m ||| n < 9223372036854775808 := Nat.or_lt_two_pow (n := 63) h h'
theorem L.andN (ho : all[ix]? = some ⟨some d, .binOp .and t x y t', ty, pos, aft, g⟩) (hx : ev σ x = some (.int .i64 (m : Int))) (hy : ev σ y = some (.int .i64 (n : Int))) (hm : m < 9223372036854775808) (hn : n < 9223372036854775808) (hN : Nat.blt d X.N = true) (hg : Gok all σ g)
    (kk : WL P X bad all K Q os ((d, .int .i64 ((m &&& n : Nat) : Int)) :: σ) μ Ds) : WL P X bad all K Q ((fl, ix) :: os) σ μ Ds :=
  L.pure ho rfl rfl hN hg (fun ρ hρ w' => run_bin (by simp) (by
    have e : (BitVec.ofInt IntKind.i64.bits (m : Int) &&& BitVec.ofInt IntKind.i64.bits (n : Int)).toNat = m &&& n := by rw [BitVec.toNat_and, toNat_of hm, toNat_of hn]
    have h2 := and_lt (n := n) hm
    have h3 : inK .i64 ((m &&& n : Nat) : Int) := by simp only [inK]; omega
    simp only [binOp, ne_eq, not_true_eq_false, if_false, Op.intBits, e, wrap_in h3]; rfl) (hρ x _ hx) (hρ y _ hy)) kk
theorem L.orB (ho : all[ix]? = some ⟨some d, .binOp .or t x y t', ty, pos, aft, g⟩) (hx : ev σ x = some (.int .i64 (m : Int))) (hy : ev σ y = some (.int .i64 (n : Int))) (hm : m < 9223372036854775808) (hn : n < 9223372036854775808) (hN : Nat.blt d X.N = true) (hg : Gok all σ g)
    (kk : WL P X bad all K Q os ((d, .int .i64 ((m ||| n : Nat) : Int)) :: σ) μ Ds) : WL P X bad all K Q ((fl, ix) :: os) σ μ Ds :=
  L.pure ho rfl rfl hN hg (fun ρ hρ w' => run_bin (by simp) (by
    have e : (BitVec.ofInt IntKind.i64.bits (m : Int) ||| BitVec.ofInt IntKind.i64.bits (n : Int)).toNat = m ||| n := by rw [BitVec.toNat_or, toNat_of hm, toNat_of hn]
    have h2 := or_lt hm hn
    have h3 : inK .i64 ((m ||| n : Nat) : Int) := by simp only [inK]; omega
    simp only [binOp, ne_eq, not_true_eq_false, if_false, Op.intBits, e, wrap_in h3]; rfl) (hρ x _ hx) (hρ y _ hy)) kk
theorem L.difN (ho : all[ix]? = some ⟨some d, .binOp .andNot t x y t', ty, pos, aft, g⟩) (hx : ev σ x = some (.int .i64 (m : Int))) (hy : ev σ y = some (.int .i64 (n : Int))) (hm : m < 9223372036854775808) (hn : n < 9223372036854775808) (hN : Nat.blt d X.N = true) (hg : Gok all σ g)
    (kk : WL P X bad all K Q os ((d, .int .i64 ((dif m n : Nat) : Int)) :: σ) μ Ds) : WL P X bad all K Q ((fl, ix) :: os) σ μ Ds :=
  L.pure ho rfl rfl hN hg (fun ρ hρ w' => run_bin (by simp) (by
    have e : (BitVec.ofInt IntKind.i64.bits (m : Int) &&& ~~~ BitVec.ofInt IntKind.i64.bits (n : Int)).toNat = dif m n := by
      apply Nat.eq_of_testBit_eq
      intro i
      rw [dif_bit, BitVec.testBit_toNat, BitVec.getLsbD_and, BitVec.getLsbD_not, ← BitVec.testBit_toNat, ← BitVec.testBit_toNat, toNat_of hm, toNat_of hn]
      by_cases hi : i < IntKind.i64.bits
      · simp [hi]
      · have : m.testBit i = false := Nat.testBit_lt_two_pow (Nat.lt_of_lt_of_le hm (Nat.le_trans (show 9223372036854775808 ≤ 2 ^ 64 by decide) (Nat.pow_le_pow_right (by decide) (show 64 ≤ i from Nat.le_of_not_lt hi))))
        simp [this]
    have h2 := dif_le m n
    have h3 : inK .i64 ((dif m n : Nat) : Int) := by simp only [inK]; omega
    simp only [binOp, ne_eq, not_true_eq_false, if_false, Op.intBits, e, wrap_in h3]; rfl) (hρ x _ hx) (hρ y _ hy)) kk
theorem L.or01 {a b : Int} (ho : all[ix]? = some ⟨some d, .binOp .or t x y t', ty, pos, aft, g⟩) (hx : ev σ x = some (.int .i64 a)) (hy : ev σ y = some (.int .i64 b)) (ha : 0 ≤ a ∧ a ≤ 1) (hb : 0 ≤ b ∧ b ≤ 1) (hN : Nat.blt d X.N = true) (hg : Gok all σ g)
    (kk : WL P X bad all K Q os ((d, .int .i64 (max a b)) :: σ) μ Ds) : WL P X bad all K Q ((fl, ix) :: os) σ μ Ds := by
  have h1 : a = ((a.toNat : Nat) : Int) := by omega
  have h2 : b = ((b.toNat : Nat) : Int) := by omega
  have h3 : max a b = ((a.toNat ||| b.toNat : Nat) : Int) := by
    have ha' : a = 0 ∨ a = 1 := by omega
    have hb' : b = 0 ∨ b = 1 := by omega
    rcases ha' with rfl | rfl <;> rcases hb' with rfl | rfl <;> decide
  rw [h3] at kk
  rw [h1] at hx
  rw [h2] at hy
  exact L.orB ho hx hy (by omega) (by omega) hN hg kk
theorem L.neg {k : IntKind} {a : Int} (ho : all[ix]? = some ⟨some d, .unOp .neg t x, ty, pos, aft, g⟩) (hx : ev σ x = some (.int k a)) (hr : inK k (-a)) (hN : Nat.blt d X.N = true) (hg : Gok all σ g)
    (kk : WL P X bad all K Q os ((d, .int k (-a)) :: σ) μ Ds) : WL P X bad all K Q ((fl, ix) :: os) σ μ Ds :=
  L.pure ho rfl rfl hN hg (fun ρ hρ w' => by
    have h2 : (0 : Int) - a = -a := by omega
    simp only [execOp, hρ x _ hx, Op.unary, Op.intArith, h2, wrap_in hr]; rfl) kk
/-- An array's literal. -/
theorem L.buildA {t e : TypeId} {n sz : Nat} {parts : Array (Nat × Operand)} {us : List (Nat × Value)} {zs cs : List Value} (ho : all[ix]? = some ⟨some d, .build t parts, ty, pos, aft, g⟩) (ht : P.underlying t = some (.array n e)) (hs : TS P e sz) (hz : TZ P t (.agg zs.toArray)) (hu : evps σ parts.toList = some us)
    (hf : Instr.fill (fun i => some (i * sz, sz)) zs.toArray us = some cs.toArray) (hN : Nat.blt d X.N = true) (hg : Gok all σ g) (kk : WL P X bad all K Q os ((d, .agg cs.toArray) :: σ) μ Ds) : WL P X bad all K Q ((fl, ix) :: os) σ μ Ds :=
  L.pure ho rfl rfl hN hg (fun ρ hρ w' => by
    have e : (parts.map fun (i, x) => (i, ρ x)).toList = us := by rw [← evps_eval hρ hu]; simp
    simp only [execOp, Instr.build, Sem.run_bind, hz w', Result.andThen_ok, TU.of ht w', hs w', Value.cells, e, hf, Sem.run_pure]) kk
theorem run_shift {op : BinOp} (he : op = .shl ∨ op = .shr) {k : IntKind} {a b : Int} {w : World} {r : Value} (h : (Op.shift op k a k' b).run P w = .ok r w) {ρ : Operand → Value} (hx : ρ x = .int k a) (hy : ρ y = .int k' b) :
    (execOp ρ ⟨some d, .binOp op t x y t', ty, pos, aft, g⟩).run P w = .ok (.value r) w := by
  rcases he with rfl | rfl <;> simp [execOp, hx, hy, binOp, h, go_sem]
theorem L.shlN (ho : all[ix]? = some ⟨some d, .binOp .shl t x y t', ty, pos, aft, g⟩) (hx : ev σ x = some (.int .i64 (m : Int))) (hy : ev σ y = some (.int k' (n : Int))) (hn : n ≤ 62) (hm : m * 2 ^ n < 9223372036854775808) (hN : Nat.blt d X.N = true) (hg : Gok all σ g)
    (kk : WL P X bad all K Q os ((d, .int .i64 ((m <<< n : Nat) : Int)) :: σ) μ Ds) : WL P X bad all K Q ((fl, ix) :: os) σ μ Ds :=
  L.pure ho rfl rfl hN hg (fun ρ hρ w' => run_shift (Or.inl rfl) (by
    have h1 : ¬ ((n : Int) < 0) := by omega
    have h2 : min (n : Int).toNat IntKind.i64.bits = n := by rw [Int.toNat_natCast]; exact Nat.min_eq_left (Nat.le_trans hn (by decide))
    have h3 : (m : Int) * 2 ^ n = ((m <<< n : Nat) : Int) := by rw [Nat.shiftLeft_eq]; simp
    have h4 : inK .i64 ((m <<< n : Nat) : Int) := by rw [Nat.shiftLeft_eq]; simp only [inK]; omega
    simp only [Op.shift, h1, if_false, h2, h3, wrap_in h4]; rfl) (hρ x _ hx) (hρ y _ hy)) kk
theorem L.shrN (ho : all[ix]? = some ⟨some d, .binOp .shr t x y t', ty, pos, aft, g⟩) (hx : ev σ x = some (.int .i64 (m : Int))) (hy : ev σ y = some (.int k' (n : Int))) (hn : n ≤ 62) (hN : Nat.blt d X.N = true) (hg : Gok all σ g)
    (kk : WL P X bad all K Q os ((d, .int .i64 ((m >>> n : Nat) : Int)) :: σ) μ Ds) : WL P X bad all K Q ((fl, ix) :: os) σ μ Ds :=
  L.pure ho rfl rfl hN hg (fun ρ hρ w' => run_shift (Or.inr rfl) (by
    have h1 : ¬ ((n : Int) < 0) := by omega
    have h2 : min (n : Int).toNat IntKind.i64.bits = n := by rw [Int.toNat_natCast]; exact Nat.min_eq_left (Nat.le_trans hn (by decide))
    have h3 : (m : Int).fdiv (2 ^ n) = ((m >>> n : Nat) : Int) := by
      rw [Nat.shiftRight_eq_div_pow, Int.fdiv_eq_ediv_of_nonneg _ (by exact_mod_cast Nat.zero_le (2 ^ n))]; simp
    simp only [Op.shift, h1, if_false, h2, h3]; rfl) (hρ x _ hx) (hρ y _ hy)) kk
theorem bit_mod (m n : Nat) : ((m >>> n : Nat) : Int) % 2 = if m.testBit n then 1 else 0 := by
  rw [Nat.testBit, Nat.one_and_eq_mod_two]
  have := Nat.mod_two_eq_zero_or_one (m >>> n)
  rcases this with h | h
  · have : ((m >>> n : Nat) : Int) % 2 = 0 := by omega
    rw [this]; simp [h]
  · have : ((m >>> n : Nat) : Int) % 2 = 1 := by omega
    rw [this]; simp [h]
end Go.Fs
namespace Go.Fs
/-- The first index of an element of which p is true; -1 if there is none. -/
def idxOf {α : Type} (p : α → Bool) (xs : List α) : Int := if xs.any p then (xs.findIdx p : Int) else -1
def iV (n : Int) : Value := .int .i64 n
namespace C7
/-- Three parts. -/
structure Pt where
  a : Int
  b : Int
  c : Int
deriving DecidableEq
structure Ch where
  size : Int
  parts : Pt
structure YardD where
  chairs : List Ch
  fit : Int
  claims : List (Int × Int)
def Pt.l (p : Pt) : List Int := [p.a, p.b, p.c]
def inB (n lo hi : Int) : Bool := decide (lo ≤ n) && decide (n ≤ hi)
theorem inB_iff {n lo hi : Int} : inB n lo hi = true ↔ lo ≤ n ∧ n ≤ hi := by simp [inB]
def ptsOk (p : Pt) (m : Int) : Bool := p.l.all fun n => inB n 0 m
def chairOk (c : Ch) : Bool := inB c.size 0 9 && ptsOk c.parts 2
def claimOk (r : Int × Int) : Bool := (decide (0 ≤ r.1) && decide (r.1 ≤ r.2)) && decide (r.2 ≤ 7)
def unkP (p : Pt) : Nat := (p.l.filter fun n => decide (n = 2)).length
def unknown (l : List Ch) : Nat := (l.map fun c => unkP c.parts).sum
def yardOk (y : YardD) : Bool := (inB y.fit 0 9 && y.chairs.all chairOk) && y.claims.all claimOk
def fault (y : YardD) : Int := if 7 < y.chairs.length ∨ 5 < y.claims.length then 3 else if yardOk y = false then 1 else if 8 < unknown y.chairs then 3 else 0
/-- A part that may be so. -/
def partIs (n t : Int) : Bool := inB t 0 1 && (decide (n = 2) || decide (t = n))
def ptsIs (p t : Pt) : Bool := (p.l.zip t.l).all fun x => partIs x.1 x.2
def isTruth (y : YardD) (t : List Pt) : Bool := decide (t.length = y.chairs.length) && (y.chairs.zip t).all fun x => ptsIs x.1.parts x.2
def isWhole (p : Pt) : Bool := decide (p = ⟨1, 1, 1⟩)
def whole (t : List Pt) : Nat := (t.filter isWhole).length
end C7
open C7
def ptV (p : Pt) : Value := .agg #[.int .i64 p.a, .int .i64 p.b, .int .i64 p.c]
def chV (c : Ch) : Value := .agg #[.int .i64 c.size, .int .i64 c.parts.a, .int .i64 c.parts.b, .int .i64 c.parts.c]
def RP : Rd Pt := fun _ p cs => cs = [.int .i64 p.a, .int .i64 p.b, .int .i64 p.c]
theorem RP.up : RP.Up := fun _ _ _ h => h
def RCh : Rd Ch := fun _ c cs => cs = [.int .i64 c.size, .int .i64 c.parts.a, .int .i64 c.parts.b, .int .i64 c.parts.c]
theorem RCh.up : RCh.Up := fun _ _ _ h => h
def R2 : Rd (Int × Int) := fun _ p cs => cs = [.int .i64 p.1, .int .i64 p.2]
theorem R2.up : R2.Up := fun _ _ _ h => h
def YardIs (D : Data) (v : Value) (y : YardD) : Prop := ∃ cv rv, v = .agg #[cv, .int .i64 y.fit, rv] ∧ Sl D RCh 4 cv y.chairs ∧ Sl D R2 2 rv y.claims
theorem YardIs.up {D D' : Data} {v : Value} {y : YardD} (h : YardIs D v y) (hl : Le D D') : YardIs D' v y := by
  obtain ⟨cv, rv, hv, hc, hr⟩ := h
  exact ⟨cv, rv, hv, hc.up RCh.up hl, hr.up R2.up hl⟩
end Go.Fs
namespace Go.Fs
open Go.Proofs
open C7 Go.ChangeShapes Go.WideShapes Go.RowKit
theorem list2 {α : Type} {l : List α} (h : l.length = 2) : ∃ a b, l = [a, b] := by
  match l, h with
  | [a, b], _ => exact ⟨a, b, rfl⟩
theorem list4 {α : Type} {l : List α} (h : l.length = 4) : ∃ a b c d, l = [a, b, c, d] := by
  match l, h with
  | [a, b, c, d], _ => exact ⟨a, b, c, d, rfl⟩
def RYard : Rd YardD := fun D y cs => YardIs D (.agg cs.toArray) y
section
variable {H : Type} {enc : TypeId × Value → H} {P : Program} {t : TypeId} {fs : Array Field} {W : World} {r : Reach} {b0 : Nat} {v : Value} {d : DataW H} {ps : List MemPlace} {k : Nat}
theorem trod_field {n : Nat} {cs : List Value} {x : DataW H × List MemPlace} (ht : P.underlying t = some (.struct fs)) (h : DataW.trod enc P W 0 (fun _ => true) true n t cs = some x) :
    cs.length = P.cellsOf t ∧ ∀ (i o u : Nat), (fs[i]?).map (fun f => (f.offset, f.type)) = some (o, u) → ∃ m y, DataW.trod enc P W 0 (fun _ => true) true m u ((cs.drop o).take (P.cellsOf u)) = some y := by
  obtain ⟨xs, m, _, _, hlen, hsz, hf⟩ := DataW.trod_struct ht h
  refine ⟨hlen, fun i o u hi => ?_⟩
  rw [Option.map_eq_some_iff] at hi
  obtain ⟨f, hi, he⟩ := hi
  simp only [Prod.mk.injEq] at he
  obtain ⟨rfl, rfl⟩ := he
  have h1 := hf i f hi
  have hl : i < xs.length := by rw [hsz]; exact (Array.getElem?_eq_some_iff.1 hi).1
  rw [List.getElem?_eq_getElem hl] at h1
  exact ⟨m, _, h1⟩
theorem open_yard (ht : P.underlying t = some (.struct fs)) (hk : P.cellsOf t = k) (hr : Reads P t RYard) (hval : Value.okWide P W r b0 t v) (hd : DataW.Trod enc P W 0 (fun _ => true) true t v d ps) : ∃ y, YardIs (full W) v y := by
  obtain ⟨cs, rfl, hsz, n, x, hx⟩ := open_struct ht hk hval hd
  obtain ⟨r, hr⟩ := hr _ _ _ _ _ hx
  exact ⟨r, by simpa [RYard] using hr⟩
end
theorem cells_25 : Try.prog.cellsOf 25 = 3 := by kernel_rfl
theorem cells_22 : Try.prog.cellsOf 22 = 1 := by kernel_rfl
theorem cells_23 : Try.prog.cellsOf 23 = 1 := by kernel_rfl
theorem cells_3 : Try.prog.cellsOf 3 = 1 := by kernel_rfl
theorem cells_94 : Try.prog.cellsOf 94 = 4 := by kernel_rfl
theorem cells_67 : Try.prog.cellsOf 67 = 2 := by kernel_rfl
theorem cells_91 : Try.prog.cellsOf 91 = 3 := by kernel_rfl
theorem reads_range : Reads Try.prog 67 R2 := fun enc W n cs x hx => by
  obtain ⟨hl, hp⟩ := trod_parts Try.underlying67 cells_67 hx
  obtain ⟨c0, c1, rfl⟩ := list2 hl
  obtain ⟨m0, y0, h0⟩ := hp 0 0 3 c0 rfl cells_3 rfl
  obtain ⟨m1, y1, h1⟩ := hp 1 1 3 c1 rfl cells_3 rfl
  obtain ⟨k, e0, _⟩ := DataW.trod_int Try.underlying3 h0
  obtain ⟨l, e1, _⟩ := DataW.trod_int Try.underlying3 h1
  simp only [List.cons.injEq, and_true] at e0 e1
  subst e0 e1
  exact ⟨(k, l), rfl⟩
theorem reads_pt : Reads Try.prog 91 RP := fun enc W n cs x hx => by
  obtain ⟨xs, m, _, _, hlen, hn, hf⟩ := DataW.trod_array Try.underlying91 hx
  rw [cells_91] at hlen
  obtain ⟨c0, c1, c2, rfl⟩ := list3 hlen
  have e : ∀ i, i < 3 → ∃ y, DataW.trod enc Try.prog W 0 (fun _ => true) true m 3 (([c0, c1, c2].drop i).take 1) = some y := fun i hi => by
    have := hf i hi
    rw [List.getElem?_eq_getElem (by omega), cells_3, Nat.mul_one] at this
    exact ⟨_, this⟩
  obtain ⟨y0, h0⟩ := e 0 (by omega)
  obtain ⟨y1, h1⟩ := e 1 (by omega)
  obtain ⟨y2, h2⟩ := e 2 (by omega)
  obtain ⟨k, e0, _⟩ := DataW.trod_int Try.underlying3 h0
  obtain ⟨l, e1, _⟩ := DataW.trod_int Try.underlying3 h1
  obtain ⟨j, e2, _⟩ := DataW.trod_int Try.underlying3 h2
  simp only [List.drop_zero, List.drop_succ_cons, List.take_succ_cons, List.take_zero, List.cons.injEq, and_true] at e0 e1 e2
  subst e0 e1 e2
  exact ⟨⟨k, l, j⟩, rfl⟩
theorem reads_ch : Reads Try.prog 94 RCh := fun enc W n cs x hx => by
  obtain ⟨hl, hp⟩ := trod_field Try.underlying94 hx
  rw [cells_94] at hl
  obtain ⟨c0, c1, c2, c3, rfl⟩ := list4 hl
  obtain ⟨m0, y0, h0⟩ := hp 0 0 3 rfl
  obtain ⟨m1, y1, h1⟩ := hp 1 1 91 rfl
  rw [cells_3] at h0
  rw [cells_91] at h1
  obtain ⟨k, e0, _⟩ := DataW.trod_int Try.underlying3 h0
  obtain ⟨p, e1⟩ := reads_pt _ _ _ _ _ h1
  simp only [RP, List.drop_zero, List.drop_succ_cons, List.take_succ_cons, List.take_zero, List.cons.injEq, and_true] at e0 e1
  obtain ⟨rfl, rfl, rfl⟩ := e1
  subst e0
  exact ⟨⟨k, p⟩, rfl⟩
theorem reads_chs : Reads Try.prog 22 (RSl RCh 4) := Reads.slice Try.underlying22 cells_94 (by decide) reads_ch
theorem reads_ranges : Reads Try.prog 23 (RSl R2 2) := Reads.slice Try.underlying23 cells_67 (by decide) reads_range
theorem reads_yard : Reads Try.prog 25 RYard := fun enc W n cs x hx => by
  obtain ⟨hl, hp⟩ := trod_parts Try.underlying25 cells_25 hx
  obtain ⟨c0, c1, c2, rfl⟩ := list3 hl
  obtain ⟨m0, y0, h0⟩ := hp 0 0 22 c0 rfl cells_22 rfl
  obtain ⟨m1, y1, h1⟩ := hp 1 1 3 c1 rfl cells_3 rfl
  obtain ⟨m2, y2, h2⟩ := hp 2 2 23 c2 rfl cells_23 rfl
  obtain ⟨chairs, u0, e0, s0⟩ := reads_chs _ _ _ _ _ h0
  obtain ⟨k, e1, _⟩ := DataW.trod_int Try.underlying3 h1
  obtain ⟨claims, u2, e2, s2⟩ := reads_ranges _ _ _ _ _ h2
  simp only [List.cons.injEq, and_true] at e0 e1 e2
  subst e0 e1 e2
  exact ⟨⟨chairs, k, claims⟩, _, _, rfl, s0, s2⟩
end Go.Fs
namespace Go.Fs
open Go.Proofs
open C7
theorem idxOf_at {α : Type} {p : α → Bool} {xs : List α} {k : Nat} {x : α} (hx : xs[k]? = some x) (h : (xs.take k).any p = false) (hp : p x = true) : idxOf p xs = k := by
  have hk := (List.getElem?_eq_some_iff.1 hx).1
  have he := (List.getElem?_eq_some_iff.1 hx).2
  have h1 : xs.any p = true := List.any_eq_true.2 ⟨x, List.mem_of_getElem? hx, hp⟩
  have h2 : xs.findIdx p = k := by
    rw [List.findIdx_eq hk]
    refine ⟨by rw [he]; exact hp, fun j hj => ?_⟩
    have := List.any_eq_false.1 h (xs[j]'(by omega)) (by
      rw [List.mem_take_iff_getElem]; exact ⟨j, by omega, rfl⟩)
    simpa using this
  simp [idxOf, h1, h2]
theorem idxOf_none {α : Type} {p : α → Bool} {xs : List α} (h : xs.any p = false) : idxOf p xs = -1 := by simp [idxOf, h]
theorem idxOf_ge {α : Type} {p : α → Bool} {xs : List α} : decide (0 ≤ idxOf p xs) = xs.any p := by
  unfold idxOf; cases h : xs.any p <;> simp
theorem all_any {α : Type} {p : α → Bool} {xs : List α} : (!xs.any fun x => !p x) = xs.all p := by
  rw [List.all_eq_not_any_not]
theorem within_ok (n lo hi : Int) (D : Data) : Fn Try.prog 84 #[.int .i64 n, .int .i64 lo, .int .i64 hi] D (fun _ v => v = .bool (inB n lo hi)) := by
  refine enter 15 Try.func84 rfl rfl rfl rfl fun h0 => ?_
  refine C.seq ?_
  refine C.region [(false,0)] rfl ?_
  refine L.assign rfl rfl rfl trivial ?_
  refine L.nil ?_
  refine C.next ?_
  refine C.seq ?_
  refine C.region [(false,0),(false,1),(false,2),(false,3),(false,4),(false,5),(false,6),(false,7),(false,8)] rfl ?_
  refine L.move rfl rfl rfl trivial ?_
  refine L.move rfl rfl rfl trivial ?_
  refine L.leq rfl rfl rfl rfl trivial ?_
  refine L.move rfl rfl rfl trivial ?_
  refine' L.and [(false,4),(false,5),(false,6),(false,7)] [(false,8)] (s := 10) (p := 14) rfl rfl (fun hg1 => ?_) (fun hg1 => ?_) ?_
  rotate_left
  · refine L.move rfl rfl rfl ⟨_, rfl, rfl⟩ ?_
    refine L.move rfl rfl rfl ⟨_, rfl, rfl⟩ ?_
    refine L.leq rfl rfl rfl rfl ⟨_, rfl, rfl⟩ ?_
    refine L.pickT rfl rfl rfl rfl trivial ?_
    exact L.nil fun a w hh => hh.cutK 3 rfl
  · refine L.pass rfl rfl rfl ⟨_, _, rfl, rfl, rfl⟩ ?_
    refine L.pass rfl rfl rfl ⟨_, _, rfl, rfl, rfl⟩ ?_
    refine L.pass rfl rfl rfl ⟨_, _, rfl, rfl, rfl⟩ ?_
    refine L.pickF rfl rfl rfl rfl trivial ?_
    exact L.nil fun a w hh => hh.cutK 3 rfl
  refine L.assign rfl rfl rfl trivial ?_
  refine L.nil ?_
  refine C.next ?_
  refine C.ret ?_
  exact leave (vs := [_]) rfl rfl rfl ⟨rfl, trivial⟩ (fun D hD => rfl)
theorem In_ok (n lo hi : Int) (D : Data) : Fn Try.prog 61 #[.int .i64 n, .int .i64 lo, .int .i64 hi] D (fun _ v => v = .bool (inB n lo hi)) := by
  refine enter 15 Try.func61 rfl rfl rfl rfl fun h0 => ?_
  refine C.seq ?_
  refine C.region [(false,0)] rfl ?_
  refine L.assign rfl rfl rfl trivial ?_
  refine L.nil ?_
  refine C.next ?_
  refine C.seq ?_
  refine C.region [(false,0),(false,1),(false,2),(false,3),(false,4),(false,5),(false,6),(false,7),(false,8)] rfl ?_
  refine L.move rfl rfl rfl trivial ?_
  refine L.move rfl rfl rfl trivial ?_
  refine L.geq rfl rfl rfl rfl trivial ?_
  refine L.move rfl rfl rfl trivial ?_
  refine' L.and [(false,4),(false,5),(false,6),(false,7)] [(false,8)] (s := 10) (p := 14) rfl rfl (fun hg1 => ?_) (fun hg1 => ?_) ?_
  rotate_left
  · refine L.move rfl rfl rfl ⟨_, rfl, rfl⟩ ?_
    refine L.move rfl rfl rfl ⟨_, rfl, rfl⟩ ?_
    refine L.leq rfl rfl rfl rfl ⟨_, rfl, rfl⟩ ?_
    refine L.pickT rfl rfl rfl rfl trivial ?_
    exact L.nil fun a w hh => hh.cutK 3 rfl
  · refine L.pass rfl rfl rfl ⟨_, _, rfl, rfl, rfl⟩ ?_
    refine L.pass rfl rfl rfl ⟨_, _, rfl, rfl, rfl⟩ ?_
    refine L.pass rfl rfl rfl ⟨_, _, rfl, rfl, rfl⟩ ?_
    refine L.pickF rfl rfl rfl rfl trivial ?_
    exact L.nil fun a w hh => hh.cutK 3 rfl
  refine L.assign rfl rfl rfl trivial ?_
  refine L.nil ?_
  refine C.next ?_
  refine C.ret ?_
  exact leave (vs := [_]) rfl rfl rfl ⟨rfl, trivial⟩ (fun D hD => by show Value.bool (decide (n ≥ lo) && decide (n ≤ hi)) = _; rfl)
theorem IndexFuncI_ok (sv fv : Value) (xs : List Int) (p : Int → Bool) (D : Data) (hS : Sl D RI 1 sv xs) (hp : PredOK Try.prog D iV fv p) :
    Fn Try.prog 131 #[sv, fv] D (fun _ v => v = .int .i64 (idxOf p xs)) := by
  have hl := hS.len
  obtain ⟨f, c1, c2, rfl, hf⟩ := hp
  refine enter 19 Try.func131 rfl rfl rfl rfl fun h0 => ?_
  refine C.seq ?_
  refine C.region [(false,0)] rfl ?_
  refine L.assign rfl rfl rfl trivial ?_
  refine L.nil ?_
  refine C.next ?_
  refine C.seq ?_
  refine C.seq ?_
  refine C.region [(false,0),(false,1),(false,2)] rfl ?_
  refine L.move rfl rfl rfl trivial ?_
  refine L.len rfl Try.underlying52 rfl (by assumption) rfl rfl trivial ?_
  refine L.move rfl rfl rfl trivial ?_
  refine L.nil ?_
  refine C.next ?_
  refine C.block ?_
  refine C.loopC (γ := Nat) (fun k => xs.length - k) (fun k => k ≤ xs.length ∧ (xs.take k).any p = false) (fun k => [(8, .int .i64 k)]) [(7, _), (4, _), (0, _), (1, _)] (fun k => [D]) 0 (by simp) ⟨(by first | rfl | (show some (Value.int _ _) = some (Value.int _ _); congr 2; omega)), trivial⟩ ⟨rfl, rfl, rfl, rfl, trivial⟩ (ds_same) ?_
  rintro k ⟨h1, h2⟩
  refine C.seq ?_
  refine C.region [(false,0)] rfl ?_
  refine L.lss rfl rfl rfl rfl trivial ?_
  refine L.nil ?_
  refine C.next ?_
  refine C.seq ?_
  refine C.condD rfl (fun hc1 => ?_) (fun hc1 => ?_)
  · have hk : k < xs.length := by omega
    obtain ⟨x, hx⟩ : ∃ x, xs[k]? = some x := ⟨_, List.getElem?_eq_getElem hk⟩
    refine C.skip ?_
    refine C.next ?_
    refine C.seq ?_
    refine C.block ?_
    refine C.seq ?_
    refine C.region [(false,0),(false,1)] rfl ?_
    refine L.move rfl rfl rfl trivial ?_
    refine L.assign rfl rfl rfl trivial ?_
    refine L.nil ?_
    refine C.next ?_
    refine C.seq ?_
    refine C.region [(false,0),(false,1),(false,2),(false,3),(false,4),(false,5)] rfl ?_
    refine L.move rfl rfl rfl trivial ?_
    refine L.move rfl rfl rfl trivial ?_
    refine L.move rfl rfl rfl trivial ?_
    refine L.indexS rfl Try.underlying52 Tf.s3 rfl (by assumption) rfl (by omega) (by assumption) rfl trivial (fun b1 o1 cs1 hr1 hcl1 hA1 => ?_)
    obtain rfl : cs1 = [.int .i64 _] := hr1
    refine L.loadD1 rfl (k := 0) Tf.a3 rfl hA1 (by first | simp | assumption) rfl List.not_mem_nil rfl trivial ?_
    refine L.callV rfl rfl rfl (fun D1 hD1 => hf x _ (hD1 _ (by simp))) rfl trivial ?_
    refine L.nil ?_
    refine C.next ?_
    refine C.cond rfl (fun hc2 => ?_) (fun hc2 => ?_)
    · refine C.seq ?_
      refine C.region [(false,0),(false,1)] rfl ?_
      refine L.move rfl rfl rfl trivial ?_
      refine L.assign rfl rfl rfl trivial ?_
      refine L.nil ?_
      refine C.next ?_
      refine C.ret ?_
      refine C.blockRet ?_
      refine C.thenRet ?_
      refine C.thenRet ?_
      refine C.blockRet ?_
      refine C.thenRet ?_
      exact leave (vs := [_]) rfl rfl rfl ⟨rfl, trivial⟩ (fun D hD => by show Value.int _ _ = _; rw [idxOf_at hx h2 hc2])
    · refine C.skip ?_
      refine C.blockEnd ?_
      refine C.next ?_
      refine C.region [(false,0),(false,1)] rfl ?_
      refine L.add rfl rfl rfl (by simp only [inK]; omega) rfl trivial ?_
      refine L.move rfl rfl rfl trivial ?_
      refine L.nil ?_
      have hpx : p x = false := hc2
      have h3 : (xs.take (k + 1)).any p = false := by rw [List.take_add_one, hx, List.any_append, h2]; simp [hpx]
      exact C.againR 12 (k + 1) ⟨by omega, h3⟩ (by omega) ⟨(by first | rfl | (show some (Value.int _ _) = some (Value.int _ _); congr 2; omega)), trivial⟩ rfl rfl (List.Sublist.refl _) (ds_same)
  · refine C.exit ?_
    refine C.thenExit ?_
    refine C.thenExit ?_
    refine C.blockExit ?_
    refine C.next ?_
    refine C.seq ?_
    refine C.region [(false,0)] rfl ?_
    refine L.assign rfl rfl rfl trivial ?_
    refine L.nil ?_
    refine C.next ?_
    refine C.ret ?_
    exact leave (vs := [_]) rfl rfl rfl ⟨rfl, trivial⟩ (fun D hD => by show Value.int _ _ = _; rw [idxOf_none (by rwa [List.take_of_length_le (by omega)] at h2)])
theorem ContainsFuncI_ok (sv fv : Value) (xs : List Int) (p : Int → Bool) (D : Data) (hS : Sl D RI 1 sv xs) (hp : PredOK Try.prog D iV fv p) :
    Fn Try.prog 129 #[sv, fv] D (fun _ v => v = .bool (xs.any p)) := by
  refine enter 9 Try.func129 rfl rfl rfl rfl fun h0 => ?_
  refine C.seq ?_
  refine C.region [(false,0)] rfl ?_
  refine L.assign rfl rfl rfl trivial ?_
  refine L.nil ?_
  refine C.next ?_
  refine C.seq ?_
  refine C.region [(false,0),(false,1),(false,2),(false,3),(false,4)] rfl ?_
  refine L.move rfl rfl rfl trivial ?_
  refine L.move rfl rfl rfl trivial ?_
  refine L.callV rfl rfl rfl (fun D1 hD1 => IndexFuncI_ok _ _ xs p _ (Sl.at RI.up hD1 (by assumption) (by simp)) (hp.up (hD1 _ (by simp)))) rfl trivial ?_
  refine L.geq rfl rfl rfl rfl trivial ?_
  refine L.assign rfl rfl rfl trivial ?_
  refine L.nil ?_
  refine C.next ?_
  refine C.ret ?_
  exact leave (vs := [_]) rfl rfl rfl ⟨rfl, trivial⟩ (fun D hD => by show Value.bool (decide _) = _; rw [idxOf_ge])
theorem allI1_ok (b : Nat) (fv : Value) (p : Int → Bool) (x : Int) (D : Data) (hp : PredOK Try.prog D iV fv p) (hB : At D b 0 [fv]) :
    Fn Try.prog 130 #[iV x, .pointer (some ⟨b, 0, none⟩)] D (fun _ v => v = .bool (!p x)) := by
  obtain ⟨f, c1, c2, rfl, hf⟩ := hp
  refine enter 8 Try.func130 rfl rfl rfl rfl fun h0 => ?_
  refine C.seq ?_
  refine C.region [(false,0)] rfl ?_
  refine L.assign rfl rfl rfl trivial ?_
  refine L.nil ?_
  refine C.next ?_
  refine C.seq ?_
  refine C.region [(false,0),(false,1),(false,2),(false,3),(false,4)] rfl ?_
  refine L.loadD1 rfl (k := 0) Tf.a170 rfl hB (by first | simp | assumption) rfl List.not_mem_nil rfl trivial ?_
  refine L.move rfl rfl rfl trivial ?_
  refine L.callV rfl rfl rfl (fun D1 hD1 => hf x _ (hD1 _ (by simp))) rfl trivial ?_
  refine L.not rfl rfl rfl trivial ?_
  refine L.assign rfl rfl rfl trivial ?_
  refine L.nil ?_
  refine C.next ?_
  refine C.ret ?_
  exact leave (vs := [_]) rfl rfl rfl ⟨rfl, trivial⟩ (fun D hD => rfl)
theorem allI_ok (sv fv : Value) (xs : List Int) (p : Int → Bool) (D : Data) (hS : Sl D RI 1 sv xs) (hp : PredOK Try.prog D iV fv p) (h1 : fv.cells = #[fv]) :
    Fn Try.prog 126 #[sv, fv] D (fun _ v => v = .bool (xs.all p)) := by
  refine enter 9 Try.func126 rfl rfl rfl rfl fun h0 => ?_
  refine C.seq ?_
  refine C.region [(false,0),(false,1)] rfl ?_
  refine L.boxD (vs := [fv]) rfl rfl h1 rfl trivial (fun b D1 hD1 hB => ?_)
  refine L.assign rfl rfl rfl trivial ?_
  refine L.nil ?_
  refine C.next ?_
  refine C.seq ?_
  refine C.region [(false,0),(false,1),(false,2),(false,3),(false,4)] rfl ?_
  refine L.move rfl rfl rfl trivial ?_
  refine L.makeFunc rfl rfl rfl rfl trivial ?_
  refine L.callV rfl rfl rfl (fun D1 hD1 => ContainsFuncI_ok _ _ xs (fun x => !p x) _ (Sl.at RI.up hD1 (by assumption) (by simp)) ⟨_, [], [.pointer (some ⟨b, 0, none⟩)], rfl, fun x D2 hl => allI1_ok b fv p x D2 (hp.up ((hD1 _ (by simp)).trans hl)) (hB.up ((hD1 _ (by simp)).trans hl))⟩) rfl trivial ?_
  refine L.not rfl rfl rfl trivial ?_
  refine L.assign rfl rfl rfl trivial ?_
  refine L.nil ?_
  refine C.next ?_
  refine C.ret ?_
  exact leave (vs := [_]) rfl rfl rfl ⟨rfl, trivial⟩ (fun D hD => by show Value.bool (!_) = _; rw [all_any])
theorem IndexFuncC_ok (sv fv : Value) (xs : List Ch) (p : Ch → Bool) (D : Data) (hS : Sl D RCh 4 sv xs) (hp : PredOK Try.prog D chV fv p) :
    Fn Try.prog 125 #[sv, fv] D (fun _ v => v = .int .i64 (idxOf p xs)) := by
  have hl := hS.len
  obtain ⟨f, c1, c2, rfl, hf⟩ := hp
  refine enter 19 Try.func125 rfl rfl rfl rfl fun h0 => ?_
  refine C.seq ?_
  refine C.region [(false,0)] rfl ?_
  refine L.assign rfl rfl rfl trivial ?_
  refine L.nil ?_
  refine C.next ?_
  refine C.seq ?_
  refine C.seq ?_
  refine C.region [(false,0),(false,1),(false,2)] rfl ?_
  refine L.move rfl rfl rfl trivial ?_
  refine L.len rfl Try.underlying34 rfl (by assumption) rfl rfl trivial ?_
  refine L.move rfl rfl rfl trivial ?_
  refine L.nil ?_
  refine C.next ?_
  refine C.block ?_
  refine C.loopC (γ := Nat) (fun k => xs.length - k) (fun k => k ≤ xs.length ∧ (xs.take k).any p = false) (fun k => [(8, .int .i64 k)]) [(7, _), (4, _), (0, _), (1, _)] (fun k => [D]) 0 (by simp) ⟨(by first | rfl | (show some (Value.int _ _) = some (Value.int _ _); congr 2; omega)), trivial⟩ ⟨rfl, rfl, rfl, rfl, trivial⟩ (ds_same) ?_
  rintro k ⟨h1, h2⟩
  refine C.seq ?_
  refine C.region [(false,0)] rfl ?_
  refine L.lss rfl rfl rfl rfl trivial ?_
  refine L.nil ?_
  refine C.next ?_
  refine C.seq ?_
  refine C.condD rfl (fun hc1 => ?_) (fun hc1 => ?_)
  · have hk : k < xs.length := by omega
    obtain ⟨x, hx⟩ : ∃ x, xs[k]? = some x := ⟨_, List.getElem?_eq_getElem hk⟩
    refine C.skip ?_
    refine C.next ?_
    refine C.seq ?_
    refine C.block ?_
    refine C.seq ?_
    refine C.region [(false,0),(false,1)] rfl ?_
    refine L.move rfl rfl rfl trivial ?_
    refine L.assign rfl rfl rfl trivial ?_
    refine L.nil ?_
    refine C.next ?_
    refine C.seq ?_
    refine C.region [(false,0),(false,1),(false,2),(false,3),(false,4),(false,5)] rfl ?_
    refine L.move rfl rfl rfl trivial ?_
    refine L.move rfl rfl rfl trivial ?_
    refine L.move rfl rfl rfl trivial ?_
    refine L.indexS rfl Try.underlying34 Tf.s115 rfl (by assumption) rfl (by omega) (by assumption) rfl trivial (fun b1 o1 cs1 hr1 hcl1 hA1 => ?_)
    obtain rfl : cs1 = [.int .i64 _, .int .i64 _, .int .i64 _, .int .i64 _] := hr1
    refine L.loadDW rfl Tf.a115 rfl hA1 (by first | simp | assumption) Tf.s115 List.not_mem_nil rfl trivial ?_
    refine L.callV rfl rfl rfl (fun D1 hD1 => hf x _ (hD1 _ (by simp))) rfl trivial ?_
    refine L.nil ?_
    refine C.next ?_
    refine C.cond rfl (fun hc2 => ?_) (fun hc2 => ?_)
    · refine C.seq ?_
      refine C.region [(false,0),(false,1)] rfl ?_
      refine L.move rfl rfl rfl trivial ?_
      refine L.assign rfl rfl rfl trivial ?_
      refine L.nil ?_
      refine C.next ?_
      refine C.ret ?_
      refine C.blockRet ?_
      refine C.thenRet ?_
      refine C.thenRet ?_
      refine C.blockRet ?_
      refine C.thenRet ?_
      exact leave (vs := [_]) rfl rfl rfl ⟨rfl, trivial⟩ (fun D hD => by show Value.int _ _ = _; rw [idxOf_at hx h2 hc2])
    · refine C.skip ?_
      refine C.blockEnd ?_
      refine C.next ?_
      refine C.region [(false,0),(false,1)] rfl ?_
      refine L.add rfl rfl rfl (by simp only [inK]; omega) rfl trivial ?_
      refine L.move rfl rfl rfl trivial ?_
      refine L.nil ?_
      have hpx : p x = false := hc2
      have h3 : (xs.take (k + 1)).any p = false := by rw [List.take_add_one, hx, List.any_append, h2]; simp [hpx]
      exact C.againR 12 (k + 1) ⟨by omega, h3⟩ (by omega) ⟨(by first | rfl | (show some (Value.int _ _) = some (Value.int _ _); congr 2; omega)), trivial⟩ rfl rfl (List.Sublist.refl _) (ds_same)
  · refine C.exit ?_
    refine C.thenExit ?_
    refine C.thenExit ?_
    refine C.blockExit ?_
    refine C.next ?_
    refine C.seq ?_
    refine C.region [(false,0)] rfl ?_
    refine L.assign rfl rfl rfl trivial ?_
    refine L.nil ?_
    refine C.next ?_
    refine C.ret ?_
    exact leave (vs := [_]) rfl rfl rfl ⟨rfl, trivial⟩ (fun D hD => by show Value.int _ _ = _; rw [idxOf_none (by rwa [List.take_of_length_le (by omega)] at h2)])
theorem ContainsFuncC_ok (sv fv : Value) (xs : List Ch) (p : Ch → Bool) (D : Data) (hS : Sl D RCh 4 sv xs) (hp : PredOK Try.prog D chV fv p) :
    Fn Try.prog 116 #[sv, fv] D (fun _ v => v = .bool (xs.any p)) := by
  refine enter 9 Try.func116 rfl rfl rfl rfl fun h0 => ?_
  refine C.seq ?_
  refine C.region [(false,0)] rfl ?_
  refine L.assign rfl rfl rfl trivial ?_
  refine L.nil ?_
  refine C.next ?_
  refine C.seq ?_
  refine C.region [(false,0),(false,1),(false,2),(false,3),(false,4)] rfl ?_
  refine L.move rfl rfl rfl trivial ?_
  refine L.move rfl rfl rfl trivial ?_
  refine L.callV rfl rfl rfl (fun D1 hD1 => IndexFuncC_ok _ _ xs p _ (Sl.at RCh.up hD1 (by assumption) (by simp)) (hp.up (hD1 _ (by simp)))) rfl trivial ?_
  refine L.geq rfl rfl rfl rfl trivial ?_
  refine L.assign rfl rfl rfl trivial ?_
  refine L.nil ?_
  refine C.next ?_
  refine C.ret ?_
  exact leave (vs := [_]) rfl rfl rfl ⟨rfl, trivial⟩ (fun D hD => by show Value.bool (decide _) = _; rw [idxOf_ge])
theorem allC1_ok (b : Nat) (fv : Value) (p : Ch → Bool) (x : Ch) (D : Data) (hp : PredOK Try.prog D chV fv p) (hB : At D b 0 [fv]) :
    Fn Try.prog 117 #[chV x, .pointer (some ⟨b, 0, none⟩)] D (fun _ v => v = .bool (!p x)) := by
  obtain ⟨f, c1, c2, rfl, hf⟩ := hp
  refine enter 8 Try.func117 rfl rfl rfl rfl fun h0 => ?_
  refine C.seq ?_
  refine C.region [(false,0),(false,1)] rfl ?_
  refine L.boxD rfl rfl rfl rfl trivial (fun q1 E1 hE1 hB1 => ?_)
  refine L.assign rfl rfl rfl trivial ?_
  refine L.nil ?_
  refine C.next ?_
  refine C.seq ?_
  refine C.region [(false,0),(false,1),(false,2),(false,3),(false,4)] rfl ?_
  refine L.loadD1 rfl (k := 0) Tf.a158 rfl hB (by first | simp | assumption) rfl List.not_mem_nil rfl trivial ?_
  refine L.loadDW rfl Tf.a115 rfl hB1 (by first | simp | assumption) Tf.s115 List.not_mem_nil rfl trivial ?_
  refine L.callV rfl rfl rfl (fun D1 hD1 => hf x _ (hD1 _ (by simp))) rfl trivial ?_
  refine L.not rfl rfl rfl trivial ?_
  refine L.assign rfl rfl rfl trivial ?_
  refine L.nil ?_
  refine C.next ?_
  refine C.ret ?_
  exact leave (vs := [_]) rfl rfl rfl ⟨rfl, trivial⟩ (fun D hD => rfl)
theorem allC_ok (sv fv : Value) (xs : List Ch) (p : Ch → Bool) (D : Data) (hS : Sl D RCh 4 sv xs) (hp : PredOK Try.prog D chV fv p) (h1 : fv.cells = #[fv]) :
    Fn Try.prog 103 #[sv, fv] D (fun _ v => v = .bool (xs.all p)) := by
  refine enter 9 Try.func103 rfl rfl rfl rfl fun h0 => ?_
  refine C.seq ?_
  refine C.region [(false,0),(false,1)] rfl ?_
  refine L.boxD (vs := [fv]) rfl rfl h1 rfl trivial (fun b D1 hD1 hB => ?_)
  refine L.assign rfl rfl rfl trivial ?_
  refine L.nil ?_
  refine C.next ?_
  refine C.seq ?_
  refine C.region [(false,0),(false,1),(false,2),(false,3),(false,4)] rfl ?_
  refine L.move rfl rfl rfl trivial ?_
  refine L.makeFunc rfl rfl rfl rfl trivial ?_
  refine L.callV rfl rfl rfl (fun D1 hD1 => ContainsFuncC_ok _ _ xs (fun x => !p x) _ (Sl.at RCh.up hD1 (by assumption) (by simp)) ⟨_, [], [.pointer (some ⟨b, 0, none⟩)], rfl, fun x D2 hl => allC1_ok b fv p x D2 (hp.up ((hD1 _ (by simp)).trans hl)) (hB.up ((hD1 _ (by simp)).trans hl))⟩) rfl trivial ?_
  refine L.not rfl rfl rfl trivial ?_
  refine L.assign rfl rfl rfl trivial ?_
  refine L.nil ?_
  refine C.next ?_
  refine C.ret ?_
  exact leave (vs := [_]) rfl rfl rfl ⟨rfl, trivial⟩ (fun D hD => by show Value.bool (!_) = _; rw [all_any])
theorem IndexFuncR_ok (sv fv : Value) (xs : List (Int × Int)) (p : (Int × Int) → Bool) (D : Data) (hS : Sl D R2 2 sv xs) (hp : PredOK Try.prog D k2V fv p) :
    Fn Try.prog 128 #[sv, fv] D (fun _ v => v = .int .i64 (idxOf p xs)) := by
  have hl := hS.len
  obtain ⟨f, c1, c2, rfl, hf⟩ := hp
  refine enter 19 Try.func128 rfl rfl rfl rfl fun h0 => ?_
  refine C.seq ?_
  refine C.region [(false,0)] rfl ?_
  refine L.assign rfl rfl rfl trivial ?_
  refine L.nil ?_
  refine C.next ?_
  refine C.seq ?_
  refine C.seq ?_
  refine C.region [(false,0),(false,1),(false,2)] rfl ?_
  refine L.move rfl rfl rfl trivial ?_
  refine L.len rfl Try.underlying35 rfl (by assumption) rfl rfl trivial ?_
  refine L.move rfl rfl rfl trivial ?_
  refine L.nil ?_
  refine C.next ?_
  refine C.block ?_
  refine C.loopC (γ := Nat) (fun k => xs.length - k) (fun k => k ≤ xs.length ∧ (xs.take k).any p = false) (fun k => [(8, .int .i64 k)]) [(7, _), (4, _), (0, _), (1, _)] (fun k => [D]) 0 (by simp) ⟨(by first | rfl | (show some (Value.int _ _) = some (Value.int _ _); congr 2; omega)), trivial⟩ ⟨rfl, rfl, rfl, rfl, trivial⟩ (ds_same) ?_
  rintro k ⟨h1, h2⟩
  refine C.seq ?_
  refine C.region [(false,0)] rfl ?_
  refine L.lss rfl rfl rfl rfl trivial ?_
  refine L.nil ?_
  refine C.next ?_
  refine C.seq ?_
  refine C.condD rfl (fun hc1 => ?_) (fun hc1 => ?_)
  · have hk : k < xs.length := by omega
    obtain ⟨x, hx⟩ : ∃ x, xs[k]? = some x := ⟨_, List.getElem?_eq_getElem hk⟩
    refine C.skip ?_
    refine C.next ?_
    refine C.seq ?_
    refine C.block ?_
    refine C.seq ?_
    refine C.region [(false,0),(false,1)] rfl ?_
    refine L.move rfl rfl rfl trivial ?_
    refine L.assign rfl rfl rfl trivial ?_
    refine L.nil ?_
    refine C.next ?_
    refine C.seq ?_
    refine C.region [(false,0),(false,1),(false,2),(false,3),(false,4),(false,5)] rfl ?_
    refine L.move rfl rfl rfl trivial ?_
    refine L.move rfl rfl rfl trivial ?_
    refine L.move rfl rfl rfl trivial ?_
    refine L.indexS rfl Try.underlying35 Tf.s61 rfl (by assumption) rfl (by omega) (by assumption) rfl trivial (fun b1 o1 cs1 hr1 hcl1 hA1 => ?_)
    obtain rfl : cs1 = [.int .i64 _, .int .i64 _] := hr1
    refine L.loadDW rfl Tf.a61 rfl hA1 (by first | simp | assumption) Tf.s61 List.not_mem_nil rfl trivial ?_
    refine L.callV rfl rfl rfl (fun D1 hD1 => hf x _ (hD1 _ (by simp))) rfl trivial ?_
    refine L.nil ?_
    refine C.next ?_
    refine C.cond rfl (fun hc2 => ?_) (fun hc2 => ?_)
    · refine C.seq ?_
      refine C.region [(false,0),(false,1)] rfl ?_
      refine L.move rfl rfl rfl trivial ?_
      refine L.assign rfl rfl rfl trivial ?_
      refine L.nil ?_
      refine C.next ?_
      refine C.ret ?_
      refine C.blockRet ?_
      refine C.thenRet ?_
      refine C.thenRet ?_
      refine C.blockRet ?_
      refine C.thenRet ?_
      exact leave (vs := [_]) rfl rfl rfl ⟨rfl, trivial⟩ (fun D hD => by show Value.int _ _ = _; rw [idxOf_at hx h2 hc2])
    · refine C.skip ?_
      refine C.blockEnd ?_
      refine C.next ?_
      refine C.region [(false,0),(false,1)] rfl ?_
      refine L.add rfl rfl rfl (by simp only [inK]; omega) rfl trivial ?_
      refine L.move rfl rfl rfl trivial ?_
      refine L.nil ?_
      have hpx : p x = false := hc2
      have h3 : (xs.take (k + 1)).any p = false := by rw [List.take_add_one, hx, List.any_append, h2]; simp [hpx]
      exact C.againR 12 (k + 1) ⟨by omega, h3⟩ (by omega) ⟨(by first | rfl | (show some (Value.int _ _) = some (Value.int _ _); congr 2; omega)), trivial⟩ rfl rfl (List.Sublist.refl _) (ds_same)
  · refine C.exit ?_
    refine C.thenExit ?_
    refine C.thenExit ?_
    refine C.blockExit ?_
    refine C.next ?_
    refine C.seq ?_
    refine C.region [(false,0)] rfl ?_
    refine L.assign rfl rfl rfl trivial ?_
    refine L.nil ?_
    refine C.next ?_
    refine C.ret ?_
    exact leave (vs := [_]) rfl rfl rfl ⟨rfl, trivial⟩ (fun D hD => by show Value.int _ _ = _; rw [idxOf_none (by rwa [List.take_of_length_le (by omega)] at h2)])
theorem ContainsFuncR_ok (sv fv : Value) (xs : List (Int × Int)) (p : (Int × Int) → Bool) (D : Data) (hS : Sl D R2 2 sv xs) (hp : PredOK Try.prog D k2V fv p) :
    Fn Try.prog 119 #[sv, fv] D (fun _ v => v = .bool (xs.any p)) := by
  refine enter 9 Try.func119 rfl rfl rfl rfl fun h0 => ?_
  refine C.seq ?_
  refine C.region [(false,0)] rfl ?_
  refine L.assign rfl rfl rfl trivial ?_
  refine L.nil ?_
  refine C.next ?_
  refine C.seq ?_
  refine C.region [(false,0),(false,1),(false,2),(false,3),(false,4)] rfl ?_
  refine L.move rfl rfl rfl trivial ?_
  refine L.move rfl rfl rfl trivial ?_
  refine L.callV rfl rfl rfl (fun D1 hD1 => IndexFuncR_ok _ _ xs p _ (Sl.at R2.up hD1 (by assumption) (by simp)) (hp.up (hD1 _ (by simp)))) rfl trivial ?_
  refine L.geq rfl rfl rfl rfl trivial ?_
  refine L.assign rfl rfl rfl trivial ?_
  refine L.nil ?_
  refine C.next ?_
  refine C.ret ?_
  exact leave (vs := [_]) rfl rfl rfl ⟨rfl, trivial⟩ (fun D hD => by show Value.bool (decide _) = _; rw [idxOf_ge])
theorem allR1_ok (b : Nat) (fv : Value) (p : (Int × Int) → Bool) (x : (Int × Int)) (D : Data) (hp : PredOK Try.prog D k2V fv p) (hB : At D b 0 [fv]) :
    Fn Try.prog 120 #[k2V x, .pointer (some ⟨b, 0, none⟩)] D (fun _ v => v = .bool (!p x)) := by
  obtain ⟨f, c1, c2, rfl, hf⟩ := hp
  refine enter 8 Try.func120 rfl rfl rfl rfl fun h0 => ?_
  refine C.seq ?_
  refine C.region [(false,0),(false,1)] rfl ?_
  refine L.boxD rfl rfl rfl rfl trivial (fun q1 E1 hE1 hB1 => ?_)
  refine L.assign rfl rfl rfl trivial ?_
  refine L.nil ?_
  refine C.next ?_
  refine C.seq ?_
  refine C.region [(false,0),(false,1),(false,2),(false,3),(false,4)] rfl ?_
  refine L.loadD1 rfl (k := 0) Tf.a156 rfl hB (by first | simp | assumption) rfl List.not_mem_nil rfl trivial ?_
  refine L.loadDW rfl Tf.a61 rfl hB1 (by first | simp | assumption) Tf.s61 List.not_mem_nil rfl trivial ?_
  refine L.callV rfl rfl rfl (fun D1 hD1 => hf x _ (hD1 _ (by simp))) rfl trivial ?_
  refine L.not rfl rfl rfl trivial ?_
  refine L.assign rfl rfl rfl trivial ?_
  refine L.nil ?_
  refine C.next ?_
  refine C.ret ?_
  exact leave (vs := [_]) rfl rfl rfl ⟨rfl, trivial⟩ (fun D hD => rfl)
theorem allR_ok (sv fv : Value) (xs : List (Int × Int)) (p : (Int × Int) → Bool) (D : Data) (hS : Sl D R2 2 sv xs) (hp : PredOK Try.prog D k2V fv p) (h1 : fv.cells = #[fv]) :
    Fn Try.prog 105 #[sv, fv] D (fun _ v => v = .bool (xs.all p)) := by
  refine enter 9 Try.func105 rfl rfl rfl rfl fun h0 => ?_
  refine C.seq ?_
  refine C.region [(false,0),(false,1)] rfl ?_
  refine L.boxD (vs := [fv]) rfl rfl h1 rfl trivial (fun b D1 hD1 hB => ?_)
  refine L.assign rfl rfl rfl trivial ?_
  refine L.nil ?_
  refine C.next ?_
  refine C.seq ?_
  refine C.region [(false,0),(false,1),(false,2),(false,3),(false,4)] rfl ?_
  refine L.move rfl rfl rfl trivial ?_
  refine L.makeFunc rfl rfl rfl rfl trivial ?_
  refine L.callV rfl rfl rfl (fun D1 hD1 => ContainsFuncR_ok _ _ xs (fun x => !p x) _ (Sl.at R2.up hD1 (by assumption) (by simp)) ⟨_, [], [.pointer (some ⟨b, 0, none⟩)], rfl, fun x D2 hl => allR1_ok b fv p x D2 (hp.up ((hD1 _ (by simp)).trans hl)) (hB.up ((hD1 _ (by simp)).trans hl))⟩) rfl trivial ?_
  refine L.not rfl rfl rfl trivial ?_
  refine L.assign rfl rfl rfl trivial ?_
  refine L.nil ?_
  refine C.next ?_
  refine C.ret ?_
  exact leave (vs := [_]) rfl rfl rfl ⟨rfl, trivial⟩ (fun D hD => by show Value.bool (!_) = _; rw [all_any])
theorem Min_ok (sv : Value) (x : Int) (xs : List Int) (D : Data) (hS : Sl D RI 1 sv (x :: xs)) :
    Fn Try.prog 123 #[sv] D (fun _ v => v = .int .i64 (xs.foldl min x)) := by
  have hl := hS.len
  simp only [List.length_cons] at hl
  refine enter 25 Try.func123 rfl rfl rfl rfl fun h0 => ?_
  refine C.seq ?_
  refine C.region [(false,0)] rfl ?_
  refine L.assign rfl rfl rfl trivial ?_
  refine L.nil ?_
  refine C.next ?_
  refine C.seq ?_
  refine C.seq ?_
  refine C.region [(false,0),(false,1),(false,2)] rfl ?_
  refine L.move rfl rfl rfl trivial ?_
  refine L.len rfl Try.underlying52 rfl (by assumption) rfl rfl trivial ?_
  refine L.lss rfl rfl rfl rfl trivial ?_
  refine L.nil ?_
  refine C.next ?_
  refine C.condD rfl (fun hc1 => ?_) (fun hc1 => ?_)
  · exact absurd hc1 (by simp only [List.length_cons]; omega)
  · refine C.skip ?_
    refine C.next ?_
    refine C.seq ?_
    refine C.region [(false,0),(false,1),(false,2),(false,3)] rfl ?_
    refine L.move rfl rfl rfl trivial ?_
    refine L.indexS rfl Try.underlying52 Tf.s3 rfl (by assumption) rfl (by omega) (by rfl) rfl trivial (fun b1 o1 cs1 hr1 hcl1 hA1 => ?_)
    obtain rfl : cs1 = [.int .i64 _] := hr1
    refine L.loadD1 rfl (k := 0) Tf.a3 rfl hA1 (by first | simp | assumption) rfl List.not_mem_nil rfl trivial ?_
    refine L.assign rfl rfl rfl trivial ?_
    refine L.nil ?_
    refine C.next ?_
    refine C.seq ?_
    refine C.seq ?_
    refine C.region [(false,0)] rfl ?_
    refine L.assign rfl rfl rfl trivial ?_
    refine L.nil ?_
    refine C.next ?_
    refine C.block ?_
    refine C.loopC (γ := Nat) (fun k => xs.length - k) (fun k => k ≤ xs.length) (fun k => [(3, .int .i64 ((xs.take k).foldl min x)), (4, .int .i64 (k + 1 : Int))]) [(2, _), (0, _)] (fun k => [D]) 0 (by omega) ⟨(by first | rfl | (show some (Value.int _ _) = some (Value.int _ _); congr 2; omega)), (by first | rfl | (show some (Value.int _ _) = some (Value.int _ _); congr 2; omega)), trivial⟩ ⟨rfl, rfl, trivial⟩ (ds_same) ?_
    rintro k h1
    refine C.seq ?_
    refine C.seq ?_
    refine C.region [(false,0),(false,1),(false,2),(false,3)] rfl ?_
    refine L.move rfl rfl rfl trivial ?_
    refine L.move rfl rfl rfl trivial ?_
    refine L.len rfl Try.underlying52 rfl (by assumption) rfl rfl trivial ?_
    refine L.lss rfl rfl rfl rfl trivial ?_
    refine L.nil ?_
    refine C.next ?_
    refine C.condD rfl (fun hc2 => ?_) (fun hc2 => ?_)
    · simp only [List.length_cons] at hc2
      have hk : k < xs.length := by omega
      obtain ⟨y, hy⟩ : ∃ y, xs[k]? = some y := ⟨_, List.getElem?_eq_getElem hk⟩
      have hy2 : (x :: xs)[(k + 1 : Int).toNat]? = some y := by rw [show ((k : Int) + 1).toNat = k + 1 by omega]; simpa using hy
      refine C.skip ?_
      refine C.next ?_
      refine C.seq ?_
      refine C.block ?_
      refine C.region [(false,0),(false,1),(false,2),(false,3),(false,4),(false,5),(false,6)] rfl ?_
      refine L.move rfl rfl rfl trivial ?_
      refine L.move rfl rfl rfl trivial ?_
      refine L.move rfl rfl rfl trivial ?_
      refine L.indexS rfl Try.underlying52 Tf.s3 rfl (by assumption) rfl (by omega) (by assumption) rfl trivial (fun b2 o2 cs2 hr2 hcl2 hA2 => ?_)
      obtain rfl : cs2 = [.int .i64 _] := hr2
      refine L.loadD1 rfl (k := 0) Tf.a3 rfl hA2 (by first | simp | assumption) rfl List.not_mem_nil rfl trivial ?_
      refine L.min2 rfl rfl rfl rfl trivial ?_
      refine L.assign rfl rfl rfl trivial ?_
      refine L.nil ?_
      refine C.blockEnd ?_
      refine C.next ?_
      refine C.region [(false,0),(false,1),(false,2)] rfl ?_
      refine L.move rfl rfl rfl trivial ?_
      refine L.add rfl rfl rfl (by simp only [inK]; omega) rfl trivial ?_
      refine L.assign rfl rfl rfl trivial ?_
      refine L.nil ?_
      have h3 : (xs.take (k + 1)).foldl min x = min ((xs.take k).foldl min x) y := by rw [List.take_add_one, hy, List.foldl_append]; rfl
      exact C.againR 16 (k + 1) (by omega) (by omega) ⟨(by rw [h3]; rfl), (by first | rfl | (show some (Value.int _ _) = some (Value.int _ _); congr 2; omega)), trivial⟩ rfl rfl (List.Sublist.refl _) (ds_same)
    · simp only [List.length_cons] at hc2
      refine C.exit ?_
      refine C.thenExit ?_
      refine C.thenExit ?_
      refine C.blockExit ?_
      refine C.next ?_
      refine C.seq ?_
      refine C.region [(false,0),(false,1)] rfl ?_
      refine L.move rfl rfl rfl trivial ?_
      refine L.assign rfl rfl rfl trivial ?_
      refine L.nil ?_
      refine C.next ?_
      refine C.ret ?_
      exact leave (vs := [_]) rfl rfl rfl ⟨rfl, trivial⟩ (fun D hD => by show Value.int _ _ = _; rw [List.take_of_length_le (by omega)])
theorem minimum_ok (sv : Value) (x : Int) (xs : List Int) (D : Data) (hS : Sl D RI 1 sv (x :: xs)) :
    Fn Try.prog 113 #[sv] D (fun _ v => v = .int .i64 (xs.foldl min x)) := by
  refine enter 5 Try.func113 rfl rfl rfl rfl fun h0 => ?_
  refine C.seq ?_
  refine C.region [(false,0)] rfl ?_
  refine L.assign rfl rfl rfl trivial ?_
  refine L.nil ?_
  refine C.next ?_
  refine C.seq ?_
  refine C.region [(false,0),(false,1),(false,2)] rfl ?_
  refine L.move rfl rfl rfl trivial ?_
  refine L.callV rfl rfl rfl (fun D1 hD1 => Min_ok _ x xs _ (Sl.at RI.up hD1 (by assumption) (by simp))) rfl trivial ?_
  refine L.assign rfl rfl rfl trivial ?_
  refine L.nil ?_
  refine C.next ?_
  refine C.ret ?_
  exact leave (vs := [_]) rfl rfl rfl ⟨rfl, trivial⟩ (fun D hD => rfl)
end Go.Fs
namespace Go.Fs
open Go.Proofs
open C7
theorem whole_l {p : Pt} : (p.l == [1, 1, 1]) = isWhole p := by
  obtain ⟨a, b, c⟩ := p
  simp only [isWhole, Pt.l, Pt.mk.injEq]
  rw [Bool.eq_iff_iff]; simp
theorem low_go {m k i : Nat} (hk : m.testBit k = true) (h1 : i ≤ k) (h : ((m >>> i : Nat) : Int) % 2 = 0) : i + 1 ≤ k := by
  rw [bit_mod] at h
  have : i ≠ k := by rintro rfl; rw [hk] at h; simp at h
  omega
theorem low_end {m k i : Nat} (hl : ∀ i, i < k → m.testBit i = false) (h1 : i ≤ k) (h : ¬ ((m >>> i : Nat) : Int) % 2 = 0) : i = k := by
  rw [bit_mod] at h
  by_cases hi : i < k
  · rw [hl i hi] at h; simp at h
  · omega
theorem has_ok (r : Int × Int) (n : Int) (D : Data) : Fn Try.prog 115 #[k2V r, .int .i64 n] D (fun _ v => v = .bool (inB n r.1 r.2)) := by
  refine enter 11 Try.func115 rfl rfl rfl rfl fun h0 => ?_
  refine C.seq ?_
  refine C.region [(false,0),(false,1)] rfl ?_
  refine L.boxD rfl rfl rfl rfl trivial (fun q1 E1 hE1 hB1 => ?_)
  refine L.assign rfl rfl rfl trivial ?_
  refine L.nil ?_
  refine C.next ?_
  refine C.seq ?_
  refine C.region [(false,0),(false,1),(false,2),(false,3),(false,4),(false,5),(false,6)] rfl ?_
  refine L.move rfl rfl rfl trivial ?_
  refine L.fieldAddr rfl Tf.f61_0 rfl rfl trivial ?_
  refine L.loadD1 rfl (k := 0) Tf.a3 rfl hB1 (by first | simp | assumption) rfl List.not_mem_nil rfl trivial ?_
  refine L.fieldAddr rfl Tf.f61_1 rfl rfl trivial ?_
  refine L.loadD1 rfl (k := 1) Tf.a3 rfl hB1 (by first | simp | assumption) rfl List.not_mem_nil rfl trivial ?_
  refine L.callV rfl rfl rfl (fun D1 hD1 => within_ok _ _ _ _) rfl trivial ?_
  refine L.assign rfl rfl rfl trivial ?_
  refine L.nil ?_
  refine C.next ?_
  refine C.ret ?_
  exact leave (vs := [_]) rfl rfl rfl ⟨rfl, trivial⟩ (fun D hD => rfl)
theorem wider_ok (r : Int × Int) (n : Int) (D : Data) : Fn Try.prog 87 #[k2V r, .int .i64 n] D (fun _ v => v = k2V (min r.1 n, max r.2 n)) := by
  refine enter 15 Try.func87 rfl rfl rfl rfl fun h0 => ?_
  refine C.seq ?_
  refine C.region [(false,0),(false,1)] rfl ?_
  refine L.boxD rfl rfl rfl rfl trivial (fun q1 E1 hE1 hB1 => ?_)
  refine L.alloc rfl Tf.z61 rfl rfl trivial (fun q2 => ?_)
  refine L.nil ?_
  refine C.next ?_
  refine C.seq ?_
  refine C.draw [] 4 [0,1,2,5,6,7,8,3,4,9,10] [false,false,true,true,true,true,true,true,true,false,false] [(false,0),(false,1),(true,2),(true,5),(true,6),(true,7),(true,8),(true,3),(true,4),(false,9),(false,10)] Tf.follows (fun _ _ _ h => np_body (P := Try.prog) (fn := Try.f87) _ _ _ h) (by kernel_rfl) rfl ?_
  refine L.fieldAddr rfl Tf.f61_0 rfl rfl trivial ?_
  refine L.loadD1 rfl (k := 0) Tf.a3 rfl hB1 (by first | simp | assumption) rfl List.not_mem_nil rfl trivial ?_
  refine L.move rfl rfl rfl trivial ?_
  refine L.fieldAddr rfl Tf.f61_1 rfl rfl trivial ?_
  refine L.loadD1 rfl (k := 1) Tf.a3 rfl hB1 (by first | simp | assumption) rfl List.not_mem_nil rfl trivial ?_
  refine L.move rfl rfl rfl trivial ?_
  refine L.max2 rfl rfl rfl rfl trivial ?_
  refine L.buildSlice rfl Try.underlying52 Tf.s3 Tf.z3 rfl rfl rfl rfl (.cons rfl rfl (.cons rfl rfl .nil)) rfl trivial (fun b901 D901 hD901 hA901 => ?_)
  have hS901 := Sl.ofInts (l := [_, _]) (n := 2) (cap := 2) hA901 rfl (by omega) (by omega)
  refine L.callV rfl rfl rfl (fun D1 hD1 => minimum_ok _ r.1 [n] _ (hS901.up RI.up (hD1 _ (by simp)))) rfl trivial ?_
  refine L.build (cs := [.int .i64 (min r.1 n), .int .i64 (max r.2 n)]) rfl Tf.p61 Tf.z61 rfl rfl rfl trivial ?_
  refine L.storeW rfl rfl rfl rfl Tf.s61 (by first | rfl | (simp only [ints_length, *]; done) | (simp only [ints_length, *]; rfl) | (simp only [ints_length, *]; omega)) (by first | rfl | (simp only [ints_length, *]; done) | (simp only [ints_length, *]; rfl) | (simp only [ints_length, *]; omega)) (Has.head) (by first | exact ints_cell1 _ | simp [cell1]) trivial ?_
  refine L.nil ?_
  refine C.next ?_
  refine C.ret ?_
  exact leave (vs := [_]) rfl rfl rfl ⟨⟨_, _, _, rfl, (List.Mem.head _), Or.inr ⟨Tf.a61, (by first | exact Tf.s61 | (simp only [List.size_toArray, ints_length, *]; exact Tf.s61)), rfl⟩⟩, trivial⟩ (fun D hD => rfl)
theorem valid1_ok (n m : Int) (b : Nat) (D : Data) (hB : At D b 0 [.int .i64 m]) : Fn Try.prog 127 #[.int .i64 n, .pointer (some ⟨b, 0, none⟩)] D (fun _ v => v = .bool (inB n 0 m)) := by
  refine enter 7 Try.func127 rfl rfl rfl rfl fun h0 => ?_
  refine C.seq ?_
  refine C.region [(false,0)] rfl ?_
  refine L.assign rfl rfl rfl trivial ?_
  refine L.nil ?_
  refine C.next ?_
  refine C.seq ?_
  refine C.region [(false,0),(false,1),(false,2),(false,3)] rfl ?_
  refine L.move rfl rfl rfl trivial ?_
  refine L.loadD1 rfl (k := 0) Tf.a3 rfl hB (by first | simp | assumption) rfl List.not_mem_nil rfl trivial ?_
  refine L.callV rfl rfl rfl (fun D1 hD1 => within_ok _ _ _ _) rfl trivial ?_
  refine L.assign rfl rfl rfl trivial ?_
  refine L.nil ?_
  refine C.next ?_
  refine C.ret ?_
  exact leave (vs := [_]) rfl rfl rfl ⟨rfl, trivial⟩ (fun D hD => rfl)
theorem valid_ok (p : Pt) (m : Int) (D : Data) : Fn Try.prog 118 #[ptV p, .int .i64 m] D (fun _ v => v = .bool (ptsOk p m)) := by
  refine enter 8 Try.func118 rfl rfl rfl rfl fun h0 => ?_
  refine C.seq ?_
  refine C.region [(false,0),(false,1),(false,2)] rfl ?_
  refine L.boxD rfl rfl rfl rfl trivial (fun q1 E1 hE1 hB1 => ?_)
  refine L.boxD rfl rfl rfl rfl trivial (fun q2 E2 hE2 hB2 => ?_)
  refine L.assign rfl rfl rfl trivial ?_
  refine L.nil ?_
  refine C.next ?_
  refine C.seq ?_
  refine C.region [(false,0),(false,1),(false,2),(false,3)] rfl ?_
  refine L.sliceA rfl Try.underlying113 Tf.s3 rfl rfl trivial ?_
  refine L.makeFunc rfl rfl rfl rfl trivial ?_
  refine L.callV rfl rfl rfl (fun D1 hD1 => allI_ok _ _ p.l (fun x => inB x 0 m) _ (Sl.ofInts (l := p.l) (n := 3) (cap := 3) (hB1.up (hD1 _ (by simp))) rfl (by omega) (by omega)) ⟨_, [], [_], rfl, fun x D2 hl => valid1_ok x m q2 D2 (hB2.up ((hD1 _ (by simp)).trans hl))⟩ rfl) rfl trivial ?_
  refine L.assign rfl rfl rfl trivial ?_
  refine L.nil ?_
  refine C.next ?_
  refine C.ret ?_
  exact leave (vs := [_]) rfl rfl rfl ⟨rfl, trivial⟩ (fun D hD => rfl)
theorem chairValid_ok (c : Ch) (D : Data) : Fn Try.prog 104 #[chV c] D (fun _ v => v = .bool (chairOk c)) := by
  refine enter 11 Try.func104 rfl rfl rfl rfl fun h0 => ?_
  refine C.seq ?_
  refine C.region [(false,0),(false,1)] rfl ?_
  refine L.boxD rfl rfl rfl rfl trivial (fun q1 E1 hE1 hB1 => ?_)
  refine L.assign rfl rfl rfl trivial ?_
  refine L.nil ?_
  refine C.next ?_
  refine C.seq ?_
  refine C.region [(false,0),(false,1),(false,2),(false,3),(false,4),(false,5),(false,6),(false,7),(false,8)] rfl ?_
  refine L.fieldAddr rfl Tf.f115_0 rfl rfl trivial ?_
  refine L.loadD1 rfl (k := 0) Tf.a3 rfl hB1 (by first | simp | assumption) rfl List.not_mem_nil rfl trivial ?_
  refine L.callV rfl rfl rfl (fun D1 hD1 => within_ok _ _ _ _) rfl trivial ?_
  refine L.move rfl rfl rfl trivial ?_
  refine' L.and [(false,4),(false,5),(false,6),(false,7)] [(false,8)] (s := 6) (p := 10) rfl rfl (fun hg1 => ?_) (fun hg1 => ?_) ?_
  rotate_left
  · refine L.fieldAddr rfl Tf.f115_1 rfl rfl ⟨_, rfl, rfl⟩ ?_
    refine L.loadDP rfl (k := 1) Tf.a113 Tf.s113 rfl hB1 (by first | simp | assumption) rfl rfl List.not_mem_nil rfl ⟨_, rfl, rfl⟩ ?_
    refine L.callV rfl rfl rfl (fun D2 hD2 => valid_ok c.parts 2 _) rfl ⟨_, rfl, rfl⟩ ?_
    refine L.pickT rfl rfl rfl rfl trivial ?_
    exact L.nil fun a w hh => hh.cutK 3 rfl
  · refine L.pass rfl rfl rfl ⟨_, _, rfl, rfl, rfl⟩ ?_
    refine L.pass rfl rfl rfl ⟨_, _, rfl, rfl, rfl⟩ ?_
    refine L.pass rfl rfl rfl ⟨_, _, rfl, rfl, rfl⟩ ?_
    refine L.pickF rfl rfl rfl rfl trivial ?_
    exact L.nil fun a w hh => hh.cutK 3 rfl
  refine L.assign rfl rfl rfl trivial ?_
  refine L.nil ?_
  refine C.next ?_
  refine C.ret ?_
  exact leave (vs := [_]) rfl rfl rfl ⟨rfl, trivial⟩ (fun D hD => rfl)
theorem claim_ok (yv : Value) (y : YardD) (r : Int × Int) (D : Data) (hy : YardIs D yv y) : Fn Try.prog 102 #[yv, k2V r] D (fun _ v => v = .bool (claimOk r)) := by
  obtain ⟨cv, qv, rfl, hc, hq⟩ := hy
  refine enter 20 Try.func102 rfl rfl rfl rfl fun h0 => ?_
  refine C.seq ?_
  refine C.region [(false,0),(false,1),(false,2)] rfl ?_
  refine L.boxD rfl rfl rfl rfl trivial (fun q1 E1 hE1 hB1 => ?_)
  refine L.boxD rfl rfl rfl rfl trivial (fun q2 E2 hE2 hB2 => ?_)
  refine L.assign rfl rfl rfl trivial ?_
  refine L.nil ?_
  refine C.next ?_
  refine C.seq ?_
  refine C.region [(false,0),(false,1),(false,2),(false,3),(false,4),(false,5),(false,6),(false,7),(false,8),(false,9),(false,10),(false,11),(false,12),(false,13),(false,14),(false,15)] rfl ?_
  refine L.fieldAddr rfl Tf.f61_0 rfl rfl trivial ?_
  refine L.loadD1 rfl (k := 0) Tf.a3 rfl hB2 (by first | simp | assumption) rfl List.not_mem_nil rfl trivial ?_
  refine L.leq rfl rfl rfl rfl trivial ?_
  refine L.move rfl rfl rfl trivial ?_
  refine' L.and [(false,4),(false,5),(false,6),(false,7),(false,8),(false,9)] [(false,10),(false,11),(false,12),(false,13),(false,14),(false,15)] (s := 8) (p := 14) rfl rfl (fun hg1 => ?_) (fun hg1 => ?_) ?_
  rotate_left
  · refine L.fieldAddr rfl Tf.f61_0 rfl rfl ⟨_, rfl, rfl⟩ ?_
    refine L.loadD1 rfl (k := 0) Tf.a3 rfl hB2 (by first | simp | assumption) rfl List.not_mem_nil rfl ⟨_, rfl, rfl⟩ ?_
    refine L.fieldAddr rfl Tf.f61_1 rfl rfl ⟨_, rfl, rfl⟩ ?_
    refine L.loadD1 rfl (k := 1) Tf.a3 rfl hB2 (by first | simp | assumption) rfl List.not_mem_nil rfl ⟨_, rfl, rfl⟩ ?_
    refine L.leq rfl rfl rfl rfl ⟨_, rfl, rfl⟩ ?_
    refine L.pickT rfl rfl rfl rfl trivial ?_
    exact L.nil fun a w hh => hh.cutK 5 rfl
  · refine L.pass rfl rfl rfl ⟨_, _, rfl, rfl, rfl⟩ ?_
    refine L.pass rfl rfl rfl ⟨_, _, rfl, rfl, rfl⟩ ?_
    refine L.pass rfl rfl rfl ⟨_, _, rfl, rfl, rfl⟩ ?_
    refine L.pass rfl rfl rfl ⟨_, _, rfl, rfl, rfl⟩ ?_
    refine L.pass rfl rfl rfl ⟨_, _, rfl, rfl, rfl⟩ ?_
    refine L.pickF rfl rfl rfl rfl trivial ?_
    exact L.nil fun a w hh => hh.cutK 5 rfl
  refine L.move rfl rfl rfl trivial ?_
  refine' L.and [(false,11),(false,12),(false,13),(false,14)] [(false,15)] (s := 15) (p := 19) rfl rfl (fun hg2 => ?_) (fun hg2 => ?_) ?_
  rotate_left
  · refine L.fieldAddr rfl Tf.f61_1 rfl rfl ⟨_, rfl, rfl⟩ ?_
    refine L.loadD1 rfl (k := 1) Tf.a3 rfl hB2 (by first | simp | assumption) rfl List.not_mem_nil rfl ⟨_, rfl, rfl⟩ ?_
    refine L.leq rfl rfl rfl rfl ⟨_, rfl, rfl⟩ ?_
    refine L.pickT rfl rfl rfl rfl trivial ?_
    exact L.nil fun a w hh => hh.cutK 3 rfl
  · refine L.pass rfl rfl rfl ⟨_, _, rfl, rfl, rfl⟩ ?_
    refine L.pass rfl rfl rfl ⟨_, _, rfl, rfl, rfl⟩ ?_
    refine L.pass rfl rfl rfl ⟨_, _, rfl, rfl, rfl⟩ ?_
    refine L.pickF rfl rfl rfl rfl trivial ?_
    exact L.nil fun a w hh => hh.cutK 3 rfl
  refine L.assign rfl rfl rfl trivial ?_
  refine L.nil ?_
  refine C.next ?_
  refine C.ret ?_
  exact leave (vs := [_]) rfl rfl rfl ⟨rfl, trivial⟩ (fun D hD => rfl)
theorem whole_ok (p : Pt) (D : Data) : Fn Try.prog 108 #[ptV p] D (fun _ v => v = .bool (isWhole p)) := by
  refine enter 6 Try.func108 rfl rfl rfl rfl fun h0 => ?_
  refine C.seq ?_
  refine C.region [(false,0),(false,1)] rfl ?_
  refine L.boxD rfl rfl rfl rfl trivial (fun q1 E1 hE1 hB1 => ?_)
  refine L.assign rfl rfl rfl trivial ?_
  refine L.nil ?_
  refine C.next ?_
  refine C.seq ?_
  refine C.region [(false,0),(false,1),(false,2),(false,3)] rfl ?_
  refine L.loadDW rfl Tf.a113 rfl hB1 (by first | simp | assumption) (by first | exact Tf.s113 | (simp only [ints_length, *]; exact Tf.s113)) List.not_mem_nil rfl trivial ?_
  refine L.buildA (cs := [.int .i64 1, .int .i64 1, .int .i64 1]) rfl Try.underlying113 Tf.s3 Tf.z113 rfl rfl rfl trivial ?_
  refine L.eqlA (l := p.l) (m := [1, 1, 1]) rfl (by kernel_rfl) Try.underlying113 Try.underlying3 (by kernel_rfl) rfl rfl rfl rfl rfl trivial ?_
  refine L.assign rfl rfl rfl trivial ?_
  refine L.nil ?_
  refine C.next ?_
  refine C.ret ?_
  exact leave (vs := [_]) rfl rfl rfl ⟨rfl, trivial⟩ (fun D hD => by show Value.bool _ = _; rw [whole_l])
theorem lowest_ok (m k : Nat) (D : Data) (hk : m.testBit k = true) (hk2 : k ≤ 60) (hl : ∀ i, i < k → m.testBit i = false) : Fn Try.prog 106 #[.int .i64 (m : Int)] D (fun _ v => v = .int .i64 (k : Int)) := by
  refine enter 11 Try.func106 rfl rfl rfl rfl fun h0 => ?_
  refine C.seq ?_
  refine C.region [(false,0)] rfl ?_
  refine L.assign rfl rfl rfl trivial ?_
  refine L.nil ?_
  refine C.next ?_
  refine C.seq ?_
  refine C.block ?_
  refine C.loopC (γ := Nat) (fun i => k - i) (fun i => i ≤ k) (fun i => [(2, .int .i64 (i : Int))]) [(0, _)] (fun i => [D]) 0 (by omega) ⟨(by first | rfl | (show some (Value.int _ _) = some (Value.int _ _); congr 2; omega)), trivial⟩ ⟨rfl, trivial⟩ (ds_same) ?_
  rintro i h1
  refine C.seq ?_
  refine C.seq ?_
  refine C.region [(false,0),(false,1),(false,2),(false,3),(false,4)] rfl ?_
  refine L.move rfl rfl rfl trivial ?_
  refine L.move rfl rfl rfl trivial ?_
  refine L.shrN rfl rfl rfl (by omega) rfl trivial ?_
  refine L.rem rfl rfl rfl (Int.natCast_nonneg _) (by omega) (by rw [bit_mod]; split <;> simp only [inK] <;> omega) rfl trivial ?_
  refine L.eql rfl rfl rfl rfl trivial ?_
  refine L.nil ?_
  refine C.next ?_
  refine C.condD rfl (fun hc1 => ?_) (fun hc1 => ?_)
  · refine C.skip ?_
    refine C.next ?_
    refine C.block ?_
    refine C.region [(false,0),(false,1),(false,2)] rfl ?_
    refine L.move rfl rfl rfl trivial ?_
    refine L.add rfl rfl rfl (by simp only [inK]; omega) rfl trivial ?_
    refine L.assign rfl rfl rfl trivial ?_
    refine L.nil ?_
    refine C.blockEnd ?_
    exact C.againR 9 (i + 1) (low_go hk h1 hc1) (by have := low_go hk h1 hc1; omega) ⟨(by first | rfl | (show some (Value.int _ _) = some (Value.int _ _); congr 2; omega)), trivial⟩ rfl rfl (List.Sublist.refl _) (ds_same)
  · obtain rfl := low_end hl h1 hc1
    refine C.exit ?_
    refine C.thenExit ?_
    refine C.thenExit ?_
    refine C.blockExit ?_
    refine C.next ?_
    refine C.seq ?_
    refine C.region [(false,0),(false,1)] rfl ?_
    refine L.move rfl rfl rfl trivial ?_
    refine L.assign rfl rfl rfl trivial ?_
    refine L.nil ?_
    refine C.next ?_
    refine C.ret ?_
    exact leave (vs := [_]) rfl rfl rfl ⟨rfl, trivial⟩ (fun D hD => rfl)
end Go.Fs
namespace Go.Fs
open Go.Proofs
open C7
def unkL (l : List Int) : Nat := (l.filter fun n => decide (n = 2)).length
theorem unkL_le (l : List Int) : unkL l ≤ l.length := List.length_filter_le _ _
theorem unk_le (l : List Ch) : unknown l ≤ 3 * l.length := by
  induction l with
  | nil => simp [unknown]
  | cons c l ih =>
    have : unkP c.parts ≤ 3 := List.length_filter_le _ _
    simp only [unknown, List.map_cons, List.sum_cons, List.length_cons] at ih ⊢
    omega
theorem unk_snoc {l : List Ch} {i : Nat} {x : Ch} (hx : l[i]? = some x) : ((unknown (l.take (i + 1)) : Nat) : Int) = ((unknown (l.take i) + unkL (x.parts.l.take 3) : Nat) : Int) := by
  rw [List.take_add_one, hx]; simp [unknown, unkP, unkL, Pt.l]
theorem part_le {x : Ch} {k : Nat} {n : Int} (hx : chairOk x = true) (hn : x.parts.l[k]? = some n) : 0 ≤ n ∧ n ≤ 2 := by
  simp only [chairOk, Bool.and_eq_true, ptsOk, List.all_eq_true] at hx
  have := hx.2 n (List.mem_of_getElem? hn)
  simpa [inB] using this
theorem unkL_step {l : List Int} {k u : Nat} {n : Int} (hn : l[k]? = some n) (h : 0 ≤ n ∧ n ≤ 2) : ((u + unkL (l.take (k + 1)) : Nat) : Int) = ((u + unkL (l.take k) : Nat) : Int) + n / 2 := by
  rw [List.take_add_one, hn]
  simp only [unkL, Option.toList_some, List.filter_append, List.length_append]
  by_cases h2 : n = 2
  · subst h2; simp; omega
  · simp [h2]; omega
theorem cy_limit {y : YardD} (h : (decide ((7 : Int) < y.chairs.length) || decide ((5 : Int) < y.claims.length)) = true) : fault y = 3 := by
  simp only [Bool.or_eq_true, decide_eq_true_eq] at h
  unfold fault; rw [if_pos (by omega)]
theorem cy_not {y : YardD} (h : (decide ((7 : Int) < y.chairs.length) || decide ((5 : Int) < y.claims.length)) = false) : ¬ (7 < y.chairs.length ∨ 5 < y.claims.length) := by
  simp only [Bool.or_eq_false_iff, decide_eq_false_iff_not] at h; omega
theorem cy_arg {y : YardD} (h : (decide ((7 : Int) < y.chairs.length) || decide ((5 : Int) < y.claims.length)) = false) (h2 : ((!inB y.fit 0 9 || !y.chairs.all chairOk) || !y.claims.all claimOk) = true) : fault y = 1 := by
  unfold fault; rw [if_neg (cy_not h), if_pos]
  revert h2; unfold yardOk
  generalize inB y.fit 0 9 = a, y.chairs.all chairOk = b, y.claims.all claimOk = c
  cases a <;> cases b <;> cases c <;> decide
theorem cy_yes {y : YardD} (h2 : ((!inB y.fit 0 9 || !y.chairs.all chairOk) || !y.claims.all claimOk) = false) : yardOk y = true := by
  revert h2; unfold yardOk
  generalize inB y.fit 0 9 = a, y.chairs.all chairOk = b, y.claims.all claimOk = c
  cases a <;> cases b <;> cases c <;> decide
theorem cy_ok {y : YardD} (h : (decide ((7 : Int) < y.chairs.length) || decide ((5 : Int) < y.claims.length)) = false) (h2 : ((!inB y.fit 0 9 || !y.chairs.all chairOk) || !y.claims.all claimOk) = false) : y.chairs.length ≤ 7 ∧ ∀ x ∈ y.chairs, chairOk x = true := by
  have h3 := cy_yes h2
  simp only [yardOk, Bool.and_eq_true, List.all_eq_true] at h3
  have := cy_not h
  exact ⟨by omega, h3.1.2⟩
theorem cy_many {y : YardD} (h : (decide ((7 : Int) < y.chairs.length) || decide ((5 : Int) < y.claims.length)) = false) (h2 : ((!inB y.fit 0 9 || !y.chairs.all chairOk) || !y.claims.all claimOk) = false) (h3 : (8 : Int) < unknown y.chairs) : fault y = 3 := by
  unfold fault; rw [if_neg (cy_not h), if_neg (by rw [cy_yes h2]; simp), if_pos (by omega)]
theorem cy_fine {y : YardD} (h : (decide ((7 : Int) < y.chairs.length) || decide ((5 : Int) < y.claims.length)) = false) (h2 : ((!inB y.fit 0 9 || !y.chairs.all chairOk) || !y.claims.all claimOk) = false) (h3 : ¬ (8 : Int) < unknown y.chairs) : fault y = 0 := by
  unfold fault; rw [if_neg (cy_not h), if_neg (by rw [cy_yes h2]; simp), if_neg (by omega)]
theorem pt_get {p : Pt} {k : Nat} {m : Int} (h : p.l[k]? = some m) : ([.int .i64 p.a, .int .i64 p.b, .int .i64 p.c] : List Value)[k * 1]? = some (.int .i64 m) := by
  rw [Nat.mul_one, show ([.int .i64 p.a, .int .i64 p.b, .int .i64 p.c] : List Value) = p.l.map (Value.int .i64) from rfl, List.getElem?_map, h]; rfl
theorem ist_len {y : YardD} {t : List Pt} (h : t.length ≠ y.chairs.length) : isTruth y t = false := by unfold isTruth; simp [h]
theorem isp_bad {n m : Int} (h : (!inB m 0 1 || (decide (n ≠ 2) && decide (m ≠ n))) = true) : partIs n m = false := by
  unfold partIs
  cases h1 : inB m 0 1 <;> simp_all
theorem isp_good {n m : Int} (h : (!inB m 0 1 || (decide (n ≠ 2) && decide (m ≠ n))) = false) : partIs n m = true := by
  unfold partIs
  cases h1 : inB m 0 1 <;> simp_all
  by_cases h2 : n = 2
  · exact Or.inl h2
  · exact Or.inr (h h2)
theorem ist_no {y : YardD} {t : List Pt} {i k : Nat} {x : Ch} {z : Pt} {n m : Int} (hx : y.chairs[i]? = some x) (hz : t[i]? = some z) (hn : x.parts.l[k]? = some n) (hm : z.l[k]? = some m) (h : (!inB m 0 1 || (decide (n ≠ 2) && decide (m ≠ n))) = true) : isTruth y t = false := by
  have h1 : ((y.chairs.zip t).all fun x => ptsIs x.1.parts x.2) = false := by
    rw [List.all_eq_false]
    refine ⟨(x, z), List.mem_of_getElem? (i := i) (by rw [List.getElem?_zip_eq_some]; exact ⟨hx, hz⟩), ?_⟩
    have : ptsIs x.parts z = false := by
      unfold ptsIs
      rw [List.all_eq_false]
      exact ⟨(n, m), List.mem_of_getElem? (i := k) (by rw [List.getElem?_zip_eq_some]; exact ⟨hn, hm⟩), by simp [isp_bad h]⟩
    simp [this]
  unfold isTruth; rw [h1]; simp
theorem isp_step {p z : Pt} {k : Nat} {n m : Int} (hn : p.l[k]? = some n) (hm : z.l[k]? = some m) (h4 : ((p.l.zip z.l).take k).all (fun q => partIs q.1 q.2) = true) (h : (!inB m 0 1 || (decide (n ≠ 2) && decide (m ≠ n))) = false) : ((p.l.zip z.l).take (k + 1)).all (fun q => partIs q.1 q.2) = true := by
  rw [List.take_add_one, show (p.l.zip z.l)[k]? = some (n, m) by rw [List.getElem?_zip_eq_some]; exact ⟨hn, hm⟩, List.all_append, h4]
  simp [isp_good h]
theorem ist_step {y : YardD} {t : List Pt} {i : Nat} {x : Ch} {z : Pt} (hx : y.chairs[i]? = some x) (hz : t[i]? = some z) (h2 : ((y.chairs.zip t).take i).all (fun x => ptsIs x.1.parts x.2) = true) (h4 : ((x.parts.l.zip z.l).take 3).all (fun q => partIs q.1 q.2) = true) : ((y.chairs.zip t).take (i + 1)).all (fun x => ptsIs x.1.parts x.2) = true := by
  have h : ptsIs x.parts z = true := h4
  rw [List.take_add_one, show (y.chairs.zip t)[i]? = some (x, z) by rw [List.getElem?_zip_eq_some]; exact ⟨hx, hz⟩, List.all_append, h2]
  simp [h]
theorem ist_yes {y : YardD} {t : List Pt} (hl : t.length = y.chairs.length) (h2 : ((y.chairs.zip t).take y.chairs.length).all (fun x => ptsIs x.1.parts x.2) = true) : isTruth y t = true := by
  rw [List.take_of_length_le (by rw [List.length_zip]; omega)] at h2
  unfold isTruth; rw [h2, hl]; simp
theorem CheckYard_ok (yv : Value) (y : YardD) (D : Data) (hy : YardIs D yv y) : Fn Try.prog 67 #[yv] D (fun _ v => v = .int .i64 (fault y)) := by
  have hy0 := hy
  obtain ⟨cv, qv, rfl, hc, hq⟩ := hy
  refine enter 60 Try.func67 rfl rfl rfl rfl fun h0 => ?_
  refine C.seq ?_
  refine C.region [(false,0),(false,1)] rfl ?_
  refine L.boxD rfl rfl rfl rfl trivial (fun q1 E1 hE1 hB1 => ?_)
  refine L.assign rfl rfl rfl trivial ?_
  refine L.nil ?_
  refine C.next ?_
  refine C.seq ?_
  refine C.region [(false,0),(false,1),(false,2)] rfl ?_
  refine L.loadDW rfl Tf.a37 rfl hB1 (by first | simp | assumption) Tf.s37 List.not_mem_nil rfl trivial ?_
  refine L.makeFunc rfl rfl rfl rfl trivial ?_
  refine L.assign rfl rfl rfl trivial ?_
  refine L.nil ?_
  refine C.next ?_
  refine C.seq ?_
  refine C.block ?_
  refine C.seq ?_
  refine C.region [(false,0),(false,1),(false,2),(false,3),(false,4),(false,5),(false,6),(false,7),(false,8),(false,9),(false,10)] rfl ?_
  refine L.fieldAddr rfl Tf.f37_0 rfl rfl trivial ?_
  refine L.loadD1 rfl (k := 0) Tf.a34 rfl hB1 (by first | simp | assumption) rfl List.not_mem_nil rfl trivial ?_
  refine L.len rfl Try.underlying34 rfl hc rfl rfl trivial ?_
  refine L.gtr rfl rfl rfl rfl trivial ?_
  refine L.move rfl rfl rfl trivial ?_
  refine' L.or [(false,5),(false,6),(false,7),(false,8),(false,9)] [(false,10)] (s := 16) (p := 21) rfl rfl (fun hg1 => ?_) (fun hg1 => ?_) ?_
  rotate_left
  · refine L.fieldAddr rfl Tf.f37_2 rfl rfl ⟨_, rfl, rfl⟩ ?_
    refine L.loadD1 rfl (k := 2) Tf.a35 rfl hB1 (by first | simp | assumption) rfl List.not_mem_nil rfl ⟨_, rfl, rfl⟩ ?_
    refine L.len rfl Try.underlying35 rfl hq rfl rfl ⟨_, rfl, rfl⟩ ?_
    refine L.gtr rfl rfl rfl rfl ⟨_, rfl, rfl⟩ ?_
    refine L.pickF rfl rfl rfl rfl trivial ?_
    exact L.nil fun a w hh => hh.cutK 4 rfl
  · refine L.pass rfl rfl rfl ⟨_, _, rfl, rfl, rfl⟩ ?_
    refine L.pass rfl rfl rfl ⟨_, _, rfl, rfl, rfl⟩ ?_
    refine L.pass rfl rfl rfl ⟨_, _, rfl, rfl, rfl⟩ ?_
    refine L.pass rfl rfl rfl ⟨_, _, rfl, rfl, rfl⟩ ?_
    refine L.pickT rfl rfl rfl rfl trivial ?_
    exact L.nil fun a w hh => hh.cutK 4 rfl
  refine L.assign rfl rfl rfl trivial ?_
  refine L.nil ?_
  refine C.next ?_
  refine C.cond rfl (fun hc1 => ?_) (fun hc1 => ?_)
  · refine C.seq ?_
    refine C.region [(false,0)] rfl ?_
    refine L.assign rfl rfl rfl trivial ?_
    refine L.nil ?_
    refine C.next ?_
    refine C.ret ?_
    refine C.blockRet ?_
    refine C.thenRet ?_
    exact leave (vs := [_]) rfl rfl rfl ⟨rfl, trivial⟩ (fun D hD => by show Value.int _ _ = _; rw [cy_limit hc1])
  · refine C.seq ?_
    refine C.region [(false,0),(false,1),(false,2),(false,3),(false,4),(false,5),(false,6),(false,7),(false,8),(false,9),(false,10),(false,11),(false,12),(false,13),(false,14),(false,15),(false,16),(false,17)] rfl ?_
    refine L.fieldAddr rfl Tf.f37_1 rfl rfl trivial ?_
    refine L.loadD1 rfl (k := 1) Tf.a3 rfl hB1 (by first | simp | assumption) rfl List.not_mem_nil rfl trivial ?_
    refine L.callV rfl rfl rfl (fun D1 hD1 => within_ok _ _ _ _) rfl trivial ?_
    refine L.not rfl rfl rfl trivial ?_
    refine L.move rfl rfl rfl trivial ?_
    refine' L.or [(false,5),(false,6),(false,7),(false,8),(false,9)] [(false,10),(false,11),(false,12),(false,13),(false,14),(false,15),(false,16),(false,17)] (s := 27) (p := 32) rfl rfl (fun hg2 => ?_) (fun hg2 => ?_) ?_
    rotate_left
    · refine L.fieldAddr rfl Tf.f37_0 rfl rfl ⟨_, rfl, rfl⟩ ?_
      refine L.loadD1 rfl (k := 0) Tf.a34 rfl hB1 (by first | simp | assumption) rfl List.not_mem_nil rfl ⟨_, rfl, rfl⟩ ?_
      refine L.callV rfl rfl rfl (fun D2 hD2 => allC_ok _ _ _ chairOk _ (Sl.at RCh.up hD2 (by assumption) (by simp)) (.of fun x D2 => chairValid_ok x D2) rfl) rfl ⟨_, rfl, rfl⟩ ?_
      refine L.not rfl rfl rfl ⟨_, rfl, rfl⟩ ?_
      refine L.pickF rfl rfl rfl rfl trivial ?_
      exact L.nil fun a w hh => hh.cutK 4 rfl
    · refine L.pass rfl rfl rfl ⟨_, _, rfl, rfl, rfl⟩ ?_
      refine L.pass rfl rfl rfl ⟨_, _, rfl, rfl, rfl⟩ ?_
      refine L.pass rfl rfl rfl ⟨_, _, rfl, rfl, rfl⟩ ?_
      refine L.pass rfl rfl rfl ⟨_, _, rfl, rfl, rfl⟩ ?_
      refine L.pickT rfl rfl rfl rfl trivial ?_
      exact L.nil fun a w hh => hh.cutK 4 rfl
    refine L.move rfl rfl rfl trivial ?_
    refine' L.or [(false,11),(false,12),(false,13),(false,14),(false,15),(false,16)] [(false,17)] (s := 33) (p := 39) rfl rfl (fun hg3 => ?_) (fun hg3 => ?_) ?_
    rotate_left
    · refine L.fieldAddr rfl Tf.f37_2 rfl rfl ⟨_, rfl, rfl⟩ ?_
      refine L.loadD1 rfl (k := 2) Tf.a35 rfl hB1 (by first | simp | assumption) rfl List.not_mem_nil rfl ⟨_, rfl, rfl⟩ ?_
      refine L.move rfl rfl rfl ⟨_, rfl, rfl⟩ ?_
      refine L.callV rfl rfl rfl (fun D3 hD3 => allR_ok _ _ _ claimOk _ (Sl.at R2.up hD3 (by assumption) (by simp)) ⟨_, [_], [], rfl, fun r D2 hl => claim_ok _ y r D2 (hy0.up ((hD3 _ (by simp)).trans hl))⟩ rfl) rfl ⟨_, rfl, rfl⟩ ?_
      refine L.not rfl rfl rfl ⟨_, rfl, rfl⟩ ?_
      refine L.pickF rfl rfl rfl rfl trivial ?_
      exact L.nil fun a w hh => hh.cutK 5 rfl
    · refine L.pass rfl rfl rfl ⟨_, _, rfl, rfl, rfl⟩ ?_
      refine L.pass rfl rfl rfl ⟨_, _, rfl, rfl, rfl⟩ ?_
      refine L.pass rfl rfl rfl ⟨_, _, rfl, rfl, rfl⟩ ?_
      refine L.pass rfl rfl rfl ⟨_, _, rfl, rfl, rfl⟩ ?_
      refine L.pass rfl rfl rfl ⟨_, _, rfl, rfl, rfl⟩ ?_
      refine L.pickT rfl rfl rfl rfl trivial ?_
      exact L.nil fun a w hh => hh.cutK 5 rfl
    refine L.assign rfl rfl rfl trivial ?_
    refine L.nil ?_
    refine C.next ?_
    refine C.cond rfl (fun hc2 => ?_) (fun hc2 => ?_)
    · refine C.seq ?_
      refine C.region [(false,0)] rfl ?_
      refine L.assign rfl rfl rfl trivial ?_
      refine L.nil ?_
      refine C.next ?_
      refine C.ret ?_
      refine C.blockRet ?_
      refine C.thenRet ?_
      exact leave (vs := [_]) rfl rfl rfl ⟨rfl, trivial⟩ (fun D hD => by show Value.int _ _ = _; rw [cy_arg hc1 hc2])
    · obtain ⟨hl7, hok⟩ := cy_ok hc1 hc2
      refine C.skip ?_
      refine C.blockEnd ?_
      refine C.next ?_
      refine C.seq ?_
      refine C.region [(false,0)] rfl ?_
      refine L.assign rfl rfl rfl trivial ?_
      refine L.nil ?_
      refine C.next ?_
      refine C.seq ?_
      refine C.seq ?_
      refine C.region [(false,0),(false,1),(false,2),(false,3)] rfl ?_
      refine L.fieldAddr rfl Tf.f37_0 rfl rfl trivial ?_
      refine L.loadD1 rfl (k := 0) Tf.a34 rfl hB1 (by first | simp | assumption) rfl List.not_mem_nil rfl trivial ?_
      refine L.len rfl Try.underlying34 rfl hc rfl rfl trivial ?_
      refine L.move rfl rfl rfl trivial ?_
      refine L.nil ?_
      refine C.next ?_
      refine C.block ?_
      refine C.loopC (γ := Nat) (fun i => y.chairs.length - i) (fun i => i ≤ y.chairs.length) (fun i => [(43, .int .i64 (i : Int)), (4, .int .i64 (unknown (y.chairs.take i) : Int))]) [(42, _), (41, _), (2, _)] (fun i => [E1, D]) 0 (by omega) ⟨(by first | rfl | (show some (Value.int _ _) = some (Value.int _ _); congr 2; omega)), (by simp [unknown]; rfl), trivial⟩ ⟨rfl, rfl, rfl, trivial⟩ (ds_same) ?_
      rintro i h1
      refine C.seq ?_
      refine C.region [(false,0)] rfl ?_
      refine L.lss rfl rfl rfl rfl trivial ?_
      refine L.nil ?_
      refine C.next ?_
      refine C.seq ?_
      refine C.condD rfl (fun hc3 => ?_) (fun hc3 => ?_)
      · have hi : i < y.chairs.length := by omega
        obtain ⟨x, hx⟩ : ∃ x, y.chairs[i]? = some x := ⟨_, List.getElem?_eq_getElem hi⟩
        have hxo := hok x (List.mem_of_getElem? hx)
        have hub := unk_le (y.chairs.take i)
        have hut : (y.chairs.take i).length ≤ i := List.length_take_le _ _
        refine C.skip ?_
        refine C.next ?_
        refine C.seq ?_
        refine C.block ?_
        refine C.seq ?_
        refine C.region [(false,0),(false,1),(false,2),(false,3)] rfl ?_
        refine L.indexS rfl Try.underlying34 Tf.s115 rfl hc rfl (by omega) hx rfl trivial (fun b1 o1 cs1 hr1 hcl1 hA1 => ?_)
        obtain rfl : cs1 = [.int .i64 _, .int .i64 _, .int .i64 _, .int .i64 _] := hr1
        refine L.loadDW rfl Tf.a115 rfl hA1 (by first | simp | assumption) Tf.s115 List.not_mem_nil rfl trivial ?_
        refine L.alloc rfl Tf.z115 rfl rfl trivial (fun q2 => ?_)
        refine L.storeW rfl rfl rfl rfl Tf.s115 (by first | rfl | (simp only [ints_length, *]; done) | (simp only [ints_length, *]; rfl) | (simp only [ints_length, *]; omega)) (by first | rfl | (simp only [ints_length, *]; done) | (simp only [ints_length, *]; rfl) | (simp only [ints_length, *]; omega)) (Has.head) (by first | exact ints_cell1 _ | simp [cell1]) trivial ?_
        refine L.nil ?_
        refine C.next ?_
        refine C.seq ?_
        refine C.region [(false,0),(false,1),(false,2)] rfl ?_
        refine L.fieldAddr rfl Tf.f115_1 rfl rfl trivial ?_
        refine L.loadBP rfl Tf.a113 Tf.s113 rfl (List.Mem.head _) rfl rfl List.not_mem_nil rfl trivial ?_
        refine L.move rfl rfl rfl trivial ?_
        refine L.nil ?_
        refine C.next ?_
        refine C.block ?_
        refine C.loopC (γ := Nat) (fun k => 3 - k) (fun k => k ≤ 3) (fun k => [(49, .int .i64 (k : Int)), (4, .int .i64 ((unknown (y.chairs.take i) + unkL (x.parts.l.take k) : Nat) : Int))]) [(48, _), (47, _), (6, _), (46, _), (45, _), (44, _), (43, _), (42, _), (41, _), (2, _)] (fun k => [E1, D]) 0 (by omega) ⟨(by first | rfl | (show some (Value.int _ _) = some (Value.int _ _); congr 2; omega)), (by simp [unkL]; rfl), trivial⟩ ⟨rfl, rfl, rfl, rfl, rfl, rfl, rfl, rfl, rfl, rfl, trivial⟩ (ds_same) ?_
        rintro k h2
        refine C.seq ?_
        refine C.region [(false,0)] rfl ?_
        refine L.lss rfl rfl rfl rfl trivial ?_
        refine L.nil ?_
        refine C.next ?_
        refine C.seq ?_
        refine C.condD rfl (fun hc4 => ?_) (fun hc4 => ?_)
        · have hk3 : k < 3 := by omega
          obtain ⟨n, hn⟩ : ∃ n, x.parts.l[k]? = some n := ⟨_, List.getElem?_eq_getElem (by simp [Pt.l]; omega)⟩
          have hn2 := part_le hxo hn
          have hkl := unkL_le (x.parts.l.take k)
          have hkt : (x.parts.l.take k).length ≤ k := List.length_take_le _ _
          refine C.skip ?_
          refine C.next ?_
          refine C.seq ?_
          refine C.block ?_
          refine C.seq ?_
          refine C.region [(false,0),(false,1)] rfl ?_
          refine L.indexV (l := x.parts.l) rfl Try.underlying113 Tf.a3 Tf.s3 rfl rfl (by omega) (by omega) hn rfl trivial ?_
          refine L.assign rfl rfl rfl trivial ?_
          refine L.nil ?_
          refine C.next ?_
          refine C.region [(false,0),(false,1),(false,2),(false,3),(false,4)] rfl ?_
          refine L.move rfl rfl rfl trivial ?_
          refine L.move rfl rfl rfl trivial ?_
          refine L.quo rfl rfl rfl (by omega) (by omega) (by simp only [inK]; omega) rfl trivial ?_
          refine L.add rfl rfl rfl (by simp only [inK]; omega) rfl trivial ?_
          refine L.assign rfl rfl rfl trivial ?_
          refine L.nil ?_
          refine C.blockEnd ?_
          refine C.next ?_
          refine C.region [(false,0),(false,1)] rfl ?_
          refine L.add rfl rfl rfl (by simp only [inK]; omega) rfl trivial ?_
          refine L.move rfl rfl rfl trivial ?_
          refine L.nil ?_
          exact C.againR 12 (k + 1) (by omega) (by omega) ⟨(by first | rfl | (show some (Value.int _ _) = some (Value.int _ _); congr 2; omega)), (by rw [unkL_step hn hn2]; rfl), trivial⟩ rfl rfl (List.Sublist.refl _) (ds_same)
        · obtain rfl : k = 3 := by omega
          refine C.exit ?_
          refine C.thenExit ?_
          refine C.thenExit ?_
          refine C.blockExit ?_
          refine C.blockEnd ?_
          refine C.next ?_
          refine C.region [(false,0),(false,1)] rfl ?_
          refine L.add rfl rfl rfl (by simp only [inK]; omega) rfl trivial ?_
          refine L.move rfl rfl rfl trivial ?_
          refine L.nil ?_
          exact C.againR 12 (i + 1) (by omega) (by omega) ⟨(by first | rfl | (show some (Value.int _ _) = some (Value.int _ _); congr 2; omega)), (by rw [unk_snoc hx]; rfl), trivial⟩ rfl rfl (List.Sublist.cons _ (List.Sublist.refl _)) (ds_same)
      · obtain rfl : i = y.chairs.length := by omega
        rw [List.take_length]
        refine C.exit ?_
        refine C.thenExit ?_
        refine C.thenExit ?_
        refine C.blockExit ?_
        refine C.next ?_
        refine C.seq ?_
        refine C.seq ?_
        refine C.region [(false,0),(false,1)] rfl ?_
        refine L.move rfl rfl rfl trivial ?_
        refine L.gtr rfl rfl rfl rfl trivial ?_
        refine L.nil ?_
        refine C.next ?_
        refine C.condD rfl (fun hc5 => ?_) (fun hc5 => ?_)
        · refine C.seq ?_
          refine C.region [(false,0)] rfl ?_
          refine L.assign rfl rfl rfl trivial ?_
          refine L.nil ?_
          refine C.next ?_
          refine C.ret ?_
          refine C.thenRet ?_
          exact leave (vs := [_]) rfl rfl rfl ⟨rfl, trivial⟩ (fun D hD => by show Value.int _ _ = _; rw [cy_many hc1 hc2 hc5])
        · refine C.skip ?_
          refine C.next ?_
          refine C.seq ?_
          refine C.region [(false,0)] rfl ?_
          refine L.assign rfl rfl rfl trivial ?_
          refine L.nil ?_
          refine C.next ?_
          refine C.ret ?_
          exact leave (vs := [_]) rfl rfl rfl ⟨rfl, trivial⟩ (fun D hD => by show Value.int _ _ = _; rw [cy_fine hc1 hc2 hc5])
theorem is_ok (yv tv : Value) (y : YardD) (t : List Pt) (D : Data) (hy : YardIs D yv y) (ht : Sl D RP 3 tv t) : Fn Try.prog 98 #[yv, tv] D (fun _ v => v = .bool (isTruth y t)) := by
  obtain ⟨cv, qv, rfl, hc, hq⟩ := hy
  have hl := ht.len
  refine enter 53 Try.func98 rfl rfl rfl rfl fun h0 => ?_
  refine C.seq ?_
  refine C.region [(false,0),(false,1)] rfl ?_
  refine L.boxD rfl rfl rfl rfl trivial (fun q1 E1 hE1 hB1 => ?_)
  refine L.assign rfl rfl rfl trivial ?_
  refine L.nil ?_
  refine C.next ?_
  refine C.seq ?_
  refine C.seq ?_
  refine C.region [(false,0),(false,1),(false,2),(false,3),(false,4),(false,5)] rfl ?_
  refine L.move rfl rfl rfl trivial ?_
  refine L.len rfl Try.underlying39 rfl ht rfl rfl trivial ?_
  refine L.fieldAddr rfl Tf.f37_0 rfl rfl trivial ?_
  refine L.loadD1 rfl (k := 0) Tf.a34 rfl hB1 (by first | simp | assumption) rfl List.not_mem_nil rfl trivial ?_
  refine L.len rfl Try.underlying34 rfl hc rfl rfl trivial ?_
  refine L.neq rfl rfl rfl rfl trivial ?_
  refine L.nil ?_
  refine C.next ?_
  refine C.condD rfl (fun hc1 => ?_) (fun hc1 => ?_)
  · refine C.seq ?_
    refine C.region [(false,0)] rfl ?_
    refine L.assign rfl rfl rfl trivial ?_
    refine L.nil ?_
    refine C.next ?_
    refine C.ret ?_
    refine C.thenRet ?_
    exact leave (vs := [_]) rfl rfl rfl ⟨rfl, trivial⟩ (fun D hD => by show Value.bool _ = _; rw [ist_len (by omega)])
  · have hlen : t.length = y.chairs.length := by omega
    refine C.skip ?_
    refine C.next ?_
    refine C.seq ?_
    refine C.seq ?_
    refine C.region [(false,0),(false,1),(false,2),(false,3)] rfl ?_
    refine L.fieldAddr rfl Tf.f37_0 rfl rfl trivial ?_
    refine L.loadD1 rfl (k := 0) Tf.a34 rfl hB1 (by first | simp | assumption) rfl List.not_mem_nil rfl trivial ?_
    refine L.len rfl Try.underlying34 rfl hc rfl rfl trivial ?_
    refine L.move rfl rfl rfl trivial ?_
    refine L.nil ?_
    refine C.next ?_
    refine C.block ?_
    refine C.loopC (γ := Nat) (fun i => y.chairs.length - i) (fun i => i ≤ y.chairs.length ∧ ((y.chairs.zip t).take i).all (fun x => ptsIs x.1.parts x.2) = true) (fun i => [(18, .int .i64 (i : Int))]) [(17, _), (16, _), (4, _), (1, _)] (fun i => [E1, D]) 0 (by simp) ⟨(by first | rfl | (show some (Value.int _ _) = some (Value.int _ _); congr 2; omega)), trivial⟩ ⟨rfl, rfl, rfl, rfl, trivial⟩ (ds_same) ?_
    rintro i ⟨h1, h2⟩
    refine C.seq ?_
    refine C.region [(false,0)] rfl ?_
    refine L.lss rfl rfl rfl rfl trivial ?_
    refine L.nil ?_
    refine C.next ?_
    refine C.seq ?_
    refine C.condD rfl (fun hc2 => ?_) (fun hc2 => ?_)
    · have hi : i < y.chairs.length := by omega
      obtain ⟨x, hx⟩ : ∃ x, y.chairs[i]? = some x := ⟨_, List.getElem?_eq_getElem hi⟩
      obtain ⟨z, hz⟩ : ∃ z, t[i]? = some z := ⟨_, List.getElem?_eq_getElem (by omega)⟩
      refine C.skip ?_
      refine C.next ?_
      refine C.seq ?_
      refine C.block ?_
      refine C.seq ?_
      refine C.region [(false,0),(false,1),(false,2),(false,3),(false,4),(false,5)] rfl ?_
      refine L.move rfl rfl rfl trivial ?_
      refine L.indexS rfl Try.underlying34 Tf.s115 rfl hc rfl (by omega) hx rfl trivial (fun b1 o1 cs1 hr1 hcl1 hA1 => ?_)
      obtain rfl : cs1 = [.int .i64 _, .int .i64 _, .int .i64 _, .int .i64 _] := hr1
      refine L.loadDW rfl Tf.a115 rfl hA1 (by first | simp | assumption) Tf.s115 List.not_mem_nil rfl trivial ?_
      refine L.alloc rfl Tf.z115 rfl rfl trivial (fun q2 => ?_)
      refine L.assign rfl rfl rfl trivial ?_
      refine L.storeW rfl rfl rfl rfl Tf.s115 (by first | rfl | (simp only [ints_length, *]; done) | (simp only [ints_length, *]; rfl) | (simp only [ints_length, *]; omega)) (by first | rfl | (simp only [ints_length, *]; done) | (simp only [ints_length, *]; rfl) | (simp only [ints_length, *]; omega)) (Has.head) (by first | exact ints_cell1 _ | simp [cell1]) trivial ?_
      refine L.nil ?_
      refine C.next ?_
      refine C.seq ?_
      refine C.region [(false,0),(false,1),(false,2)] rfl ?_
      refine L.fieldAddr rfl Tf.f115_1 rfl rfl trivial ?_
      refine L.loadBP rfl Tf.a113 Tf.s113 rfl (List.Mem.head _) rfl rfl List.not_mem_nil rfl trivial ?_
      refine L.move rfl rfl rfl trivial ?_
      refine L.nil ?_
      refine C.next ?_
      refine C.block ?_
      refine C.loopC (γ := Nat) (fun k => 3 - k) (fun k => k ≤ 3 ∧ ((x.parts.l.zip z.l).take k).all (fun q => partIs q.1 q.2) = true) (fun k => [(25, .int .i64 (k : Int))]) [(24, _), (23, _), (5, _), (6, _), (22, _), (21, _), (20, _), (19, _), (18, _), (17, _), (16, _), (4, _), (1, _)] (fun k => [E1, D]) 0 (by simp) ⟨(by first | rfl | (show some (Value.int _ _) = some (Value.int _ _); congr 2; omega)), trivial⟩ ⟨rfl, rfl, rfl, rfl, rfl, rfl, rfl, rfl, rfl, rfl, rfl, rfl, rfl, trivial⟩ (ds_same) ?_
      rintro k ⟨h3, h4⟩
      refine C.seq ?_
      refine C.region [(false,0)] rfl ?_
      refine L.lss rfl rfl rfl rfl trivial ?_
      refine L.nil ?_
      refine C.next ?_
      refine C.seq ?_
      refine C.condD rfl (fun hc3 => ?_) (fun hc3 => ?_)
      · have hk3 : k < 3 := by omega
        obtain ⟨n, hn⟩ : ∃ n, x.parts.l[k]? = some n := ⟨_, List.getElem?_eq_getElem (by simp [Pt.l]; omega)⟩
        obtain ⟨m, hm⟩ : ∃ m, z.l[k]? = some m := ⟨_, List.getElem?_eq_getElem (by simp [Pt.l]; omega)⟩
        refine C.skip ?_
        refine C.next ?_
        refine C.seq ?_
        refine C.block ?_
        refine C.seq ?_
        refine C.region [(false,0),(false,1),(false,2),(false,3)] rfl ?_
        refine L.move rfl rfl rfl trivial ?_
        refine L.indexV (l := x.parts.l) rfl Try.underlying113 Tf.a3 Tf.s3 rfl rfl (by omega) (by omega) hn rfl trivial ?_
        refine L.assign rfl rfl rfl trivial ?_
        refine L.assign rfl rfl rfl trivial ?_
        refine L.nil ?_
        refine C.next ?_
        refine C.seq ?_
        refine C.region [(false,0),(false,1),(false,2),(false,3),(false,4),(false,5),(false,6),(false,7),(false,8),(false,9),(false,10),(false,11),(false,12),(false,13),(false,14),(false,15),(false,16),(false,17),(false,18),(false,19),(false,20),(false,21)] rfl ?_
        refine L.move rfl rfl rfl trivial ?_
        refine L.move rfl rfl rfl trivial ?_
        refine L.move rfl rfl rfl trivial ?_
        refine L.indexS rfl Try.underlying39 Tf.s113 rfl ht rfl (by omega) hz rfl trivial (fun b2 o2 cs2 hr2 hcl2 hA2 => ?_)
        obtain rfl : cs2 = [.int .i64 _, .int .i64 _, .int .i64 _] := hr2
        refine L.indexA rfl Try.underlying113 Tf.s3 rfl rfl (by omega) (by omega) rfl trivial ?_
        refine L.loadD1 (k := k * 1) rfl Tf.a3 rfl hA2 (by simp) (pt_get hm) List.not_mem_nil rfl trivial ?_
        refine L.callV rfl rfl rfl (fun D1 hD1 => within_ok _ _ _ _) rfl trivial ?_
        refine L.not rfl rfl rfl trivial ?_
        refine L.move rfl rfl rfl trivial ?_
        refine' L.or [(false,9),(false,10),(false,11),(false,12),(false,13),(false,14),(false,15),(false,16),(false,17),(false,18),(false,19),(false,20),(false,21)] [] (s := 37) (p := 50) rfl rfl (fun hg1 => ?_) (fun hg1 => ?_) ?_
        rotate_left
        · refine L.move rfl rfl rfl ⟨_, rfl, rfl⟩ ?_
          refine L.neq rfl rfl rfl rfl ⟨_, rfl, rfl⟩ ?_
          refine L.move rfl rfl rfl ⟨_, rfl, rfl⟩ ?_
          refine' L.and [(false,12),(false,13),(false,14),(false,15),(false,16),(false,17),(false,18),(false,19),(false,20)] [(false,21)] (s := 40) (p := 49) rfl rfl (fun hg2 => ?_) (fun hg2 => ?_) ?_
          rotate_left
          · refine L.move rfl rfl rfl ⟨_, rfl, rfl⟩ ?_
            refine L.move rfl rfl rfl ⟨_, rfl, rfl⟩ ?_
            refine L.move rfl rfl rfl ⟨_, rfl, rfl⟩ ?_
            refine L.indexS rfl Try.underlying39 Tf.s113 rfl ht rfl (by omega) hz rfl ⟨_, rfl, rfl⟩ (fun b3 o3 cs3 hr3 hcl3 hA3 => ?_)
            obtain rfl : cs3 = [.int .i64 _, .int .i64 _, .int .i64 _] := hr3
            refine L.indexA rfl Try.underlying113 Tf.s3 rfl rfl (by omega) (by omega) rfl ⟨_, rfl, rfl⟩ ?_
            refine L.loadD1 (k := k * 1) rfl Tf.a3 rfl hA3 (by simp) (pt_get hm) List.not_mem_nil rfl ⟨_, rfl, rfl⟩ ?_
            refine L.move rfl rfl rfl ⟨_, rfl, rfl⟩ ?_
            refine L.neq rfl rfl rfl rfl ⟨_, rfl, rfl⟩ ?_
            refine L.pickT rfl rfl rfl rfl ⟨_, rfl, rfl⟩ ?_
            exact L.nil fun a w hh => hh.cutK 8 rfl
          · refine L.pass rfl rfl rfl ⟨_, _, rfl, rfl, rfl⟩ ?_
            refine L.pass rfl rfl rfl ⟨_, _, rfl, rfl, rfl⟩ ?_
            refine L.pass rfl rfl rfl ⟨_, _, rfl, rfl, rfl⟩ ?_
            refine L.pass rfl rfl rfl ⟨_, _, rfl, rfl, rfl⟩ ?_
            refine L.pass rfl rfl rfl ⟨_, _, rfl, rfl, rfl⟩ ?_
            refine L.pass rfl rfl rfl ⟨_, _, rfl, rfl, rfl⟩ ?_
            refine L.pass rfl rfl rfl ⟨_, _, rfl, rfl, rfl⟩ ?_
            refine L.pass rfl rfl rfl ⟨_, _, rfl, rfl, rfl⟩ ?_
            refine L.pickF rfl rfl rfl rfl ⟨_, rfl, rfl⟩ ?_
            exact L.nil fun a w hh => hh.cutK 8 rfl
          refine L.pickF rfl rfl rfl rfl trivial ?_
          exact L.nil fun a w hh => hh.cutK 4 rfl
        · refine L.pass rfl rfl rfl ⟨_, _, rfl, rfl, rfl⟩ ?_
          refine L.pass rfl rfl rfl ⟨_, _, rfl, rfl, rfl⟩ ?_
          refine L.pass rfl rfl rfl ⟨_, _, rfl, rfl, rfl⟩ ?_
          refine L.pass rfl rfl rfl ⟨_, _, rfl, rfl, rfl⟩ ?_
          refine L.pass rfl rfl rfl ⟨_, _, rfl, rfl, rfl⟩ ?_
          refine L.pass rfl rfl rfl ⟨_, _, rfl, rfl, rfl⟩ ?_
          refine L.pass rfl rfl rfl ⟨_, _, rfl, rfl, rfl⟩ ?_
          refine L.pass rfl rfl rfl ⟨_, _, rfl, rfl, rfl⟩ ?_
          refine L.pass rfl rfl rfl ⟨_, _, rfl, rfl, rfl⟩ ?_
          refine L.pass rfl rfl rfl ⟨_, _, rfl, rfl, rfl⟩ ?_
          refine L.pass rfl rfl rfl ⟨_, _, rfl, rfl, rfl⟩ ?_
          refine L.pass rfl rfl rfl ⟨_, _, rfl, rfl, rfl⟩ ?_
          refine L.pickT rfl rfl rfl rfl trivial ?_
          exact L.nil fun a w hh => hh.cutK 12 rfl
        refine L.nil ?_
        refine C.next ?_
        refine C.cond rfl (fun hc4 => ?_) (fun hc4 => ?_)
        · refine C.seq ?_
          refine C.region [(false,0)] rfl ?_
          refine L.assign rfl rfl rfl trivial ?_
          refine L.nil ?_
          refine C.next ?_
          refine C.ret ?_
          refine C.blockRet ?_
          refine C.thenRet ?_
          refine C.thenRet ?_
          refine C.blockRet ?_
          refine C.blockRet ?_
          refine C.thenRet ?_
          refine C.thenRet ?_
          refine C.blockRet ?_
          refine C.thenRet ?_
          exact leave (vs := [_]) rfl rfl rfl ⟨rfl, trivial⟩ (fun D hD => by show Value.bool _ = _; rw [ist_no hx hz hn hm hc4])
        · refine C.skip ?_
          refine C.blockEnd ?_
          refine C.next ?_
          refine C.region [(false,0),(false,1)] rfl ?_
          refine L.add rfl rfl rfl (by simp only [inK]; omega) rfl trivial ?_
          refine L.move rfl rfl rfl trivial ?_
          refine L.nil ?_
          exact C.againR 18 (k + 1) ⟨by omega, isp_step hn hm h4 hc4⟩ (by omega) ⟨(by first | rfl | (show some (Value.int _ _) = some (Value.int _ _); congr 2; omega)), trivial⟩ rfl rfl (List.Sublist.refl _) (ds_same)
      · obtain rfl : k = 3 := by omega
        refine C.exit ?_
        refine C.thenExit ?_
        refine C.thenExit ?_
        refine C.blockExit ?_
        refine C.blockEnd ?_
        refine C.next ?_
        refine C.region [(false,0),(false,1)] rfl ?_
        refine L.add rfl rfl rfl (by simp only [inK]; omega) rfl trivial ?_
        refine L.move rfl rfl rfl trivial ?_
        refine L.nil ?_
        exact C.againR 13 (i + 1) ⟨by omega, ist_step hx hz h2 h4⟩ (by omega) ⟨(by first | rfl | (show some (Value.int _ _) = some (Value.int _ _); congr 2; omega)), trivial⟩ rfl rfl (List.Sublist.cons _ (List.Sublist.refl _)) (ds_same)
    · obtain rfl : i = y.chairs.length := by omega
      refine C.exit ?_
      refine C.thenExit ?_
      refine C.thenExit ?_
      refine C.blockExit ?_
      refine C.next ?_
      refine C.seq ?_
      refine C.region [(false,0)] rfl ?_
      refine L.assign rfl rfl rfl trivial ?_
      refine L.nil ?_
      refine C.next ?_
      refine C.ret ?_
      exact leave (vs := [_]) rfl rfl rfl ⟨rfl, trivial⟩ (fun D hD => by show Value.bool _ = _; rw [ist_yes hlen h2])
end Go.Fs
