/- The rules of the operations: numbers, loads and stores of the frame's own blocks, loads of data, new blocks, builtins. -/
import Derived.Test.YtjhdcelmgfajbaaState
namespace Go.Fs

variable {P : Program} {X : Cx} {γb : Type} [Membership Nat γb] {bad : γb} {all : Array Oper} {K : Act → World → Prop} {Q : Exit → Act → World → Prop}
variable {σ : Slots} {μ : Boxes} {Ds : List Data} {os : List (Bool × Nat)} {fl : Bool} {ix : Nat}
variable {d : Nat} {x y z : Operand} {u v : Value} {ty : TypeId} {pos : String} {aft : Array Edge} {g : Option (Nat × Bool)}

/-! ### Numbers -/
def inK : IntKind → Int → Prop
  | .i8, n => -128 ≤ n ∧ n ≤ 127
  | .i16, n => -32768 ≤ n ∧ n ≤ 32767
  | .i32, n => -2147483648 ≤ n ∧ n ≤ 2147483647
  | .i64, n => -9223372036854775808 ≤ n ∧ n ≤ 9223372036854775807
  | .u8, n => 0 ≤ n ∧ n ≤ 255
  | .u16, n => 0 ≤ n ∧ n ≤ 65535
  | .u32, n => 0 ≤ n ∧ n ≤ 4294967295
  | .u64, n => 0 ≤ n ∧ n ≤ 18446744073709551615

theorem wrap_in {k : IntKind} {n : Int} (h : inK k n) : k.wrap n = n := by
  cases k <;> simp only [inK] at h <;> simp only [IntKind.wrap, IntKind.bits, IntKind.signed, Bool.true_and, Bool.false_and, Bool.false_eq_true, if_false, decide_eq_true_eq, ge_iff_le] <;>
    (first | (split <;> omega) | omega)

section nums
variable {k : IntKind} {m n : Int} {t t' : TypeId}

theorem run_bin {op : BinOp} {w : World} {r : Value} (he : op ≠ .shl ∧ op ≠ .shr) (h : (binOp op t (.int k m) (.int k n)).run P w = .ok r w) {ρ : Operand → Value} (hx : ρ x = .int k m) (hy : ρ y = .int k n) :
    (execOp ρ ⟨some d, .binOp op t x y t', ty, pos, aft, g⟩).run P w = .ok (.value r) w := by
  have hg : ∀ w, (eqGuard op t x y (.int k m) (.int k n)).run P w = .ok () w := by
    intro w; unfold eqGuard; split <;> rfl
  simp [execOp, hx, hy, h, go_sem]

theorem L.add (ho : all[ix]? = some ⟨some d, .binOp .add t x y t', ty, pos, aft, g⟩) (hx : ev σ x = some (.int k m)) (hy : ev σ y = some (.int k n)) (hr : inK k (m + n)) (hN : Nat.blt d X.N = true) (hg : Gok all σ g) (kk : WL P X bad all K Q os ((d, .int k (m + n)) :: σ) μ Ds) :
    WL P X bad all K Q ((fl, ix) :: os) σ μ Ds :=
  L.pure ho rfl rfl hN hg (fun ρ hρ w' => run_bin (by simp) (by cases k <;> simp [binOp, Op.intArith, wrap_in hr, Pure.pure]) (hρ x _ hx) (hρ y _ hy)) kk
theorem L.sub (ho : all[ix]? = some ⟨some d, .binOp .sub t x y t', ty, pos, aft, g⟩) (hx : ev σ x = some (.int k m)) (hy : ev σ y = some (.int k n)) (hr : inK k (m - n)) (hN : Nat.blt d X.N = true) (hg : Gok all σ g) (kk : WL P X bad all K Q os ((d, .int k (m - n)) :: σ) μ Ds) :
    WL P X bad all K Q ((fl, ix) :: os) σ μ Ds :=
  L.pure ho rfl rfl hN hg (fun ρ hρ w' => run_bin (by simp) (by cases k <;> simp [binOp, Op.intArith, wrap_in hr, Pure.pure]) (hρ x _ hx) (hρ y _ hy)) kk
theorem L.mul (ho : all[ix]? = some ⟨some d, .binOp .mul t x y t', ty, pos, aft, g⟩) (hx : ev σ x = some (.int k m)) (hy : ev σ y = some (.int k n)) (hr : inK k (m * n)) (hN : Nat.blt d X.N = true) (hg : Gok all σ g) (kk : WL P X bad all K Q os ((d, .int k (m * n)) :: σ) μ Ds) :
    WL P X bad all K Q ((fl, ix) :: os) σ μ Ds :=
  L.pure ho rfl rfl hN hg (fun ρ hρ w' => run_bin (by simp) (by cases k <;> simp [binOp, Op.intArith, wrap_in hr, Pure.pure]) (hρ x _ hx) (hρ y _ hy)) kk
theorem L.lss (ho : all[ix]? = some ⟨some d, .binOp .lss t x y t', ty, pos, aft, g⟩) (hx : ev σ x = some (.int k m)) (hy : ev σ y = some (.int k n)) (hN : Nat.blt d X.N = true) (hg : Gok all σ g) (kk : WL P X bad all K Q os ((d, .bool (decide (m < n))) :: σ) μ Ds) :
    WL P X bad all K Q ((fl, ix) :: os) σ μ Ds :=
  L.pure ho rfl rfl hN hg (fun ρ hρ w' => run_bin (by simp) (by cases k <;> simp [binOp, Op.intCmp, Pure.pure]) (hρ x _ hx) (hρ y _ hy)) kk
theorem L.leq (ho : all[ix]? = some ⟨some d, .binOp .leq t x y t', ty, pos, aft, g⟩) (hx : ev σ x = some (.int k m)) (hy : ev σ y = some (.int k n)) (hN : Nat.blt d X.N = true) (hg : Gok all σ g) (kk : WL P X bad all K Q os ((d, .bool (decide (m ≤ n))) :: σ) μ Ds) :
    WL P X bad all K Q ((fl, ix) :: os) σ μ Ds :=
  L.pure ho rfl rfl hN hg (fun ρ hρ w' => run_bin (by simp) (by cases k <;> simp [binOp, Op.intCmp, Pure.pure]) (hρ x _ hx) (hρ y _ hy)) kk
theorem L.gtr (ho : all[ix]? = some ⟨some d, .binOp .gtr t x y t', ty, pos, aft, g⟩) (hx : ev σ x = some (.int k m)) (hy : ev σ y = some (.int k n)) (hN : Nat.blt d X.N = true) (hg : Gok all σ g) (kk : WL P X bad all K Q os ((d, .bool (decide (n < m))) :: σ) μ Ds) :
    WL P X bad all K Q ((fl, ix) :: os) σ μ Ds :=
  L.pure ho rfl rfl hN hg (fun ρ hρ w' => run_bin (by simp) (by cases k <;> simp [binOp, Op.intCmp, Pure.pure]) (hρ x _ hx) (hρ y _ hy)) kk
theorem L.geq (ho : all[ix]? = some ⟨some d, .binOp .geq t x y t', ty, pos, aft, g⟩) (hx : ev σ x = some (.int k m)) (hy : ev σ y = some (.int k n)) (hN : Nat.blt d X.N = true) (hg : Gok all σ g) (kk : WL P X bad all K Q os ((d, .bool (decide (n ≤ m))) :: σ) μ Ds) :
    WL P X bad all K Q ((fl, ix) :: os) σ μ Ds :=
  L.pure ho rfl rfl hN hg (fun ρ hρ w' => run_bin (by simp) (by cases k <;> simp [binOp, Op.intCmp, Pure.pure]) (hρ x _ hx) (hρ y _ hy)) kk
theorem L.eql (ho : all[ix]? = some ⟨some d, .binOp .eql t x y t', ty, pos, aft, g⟩) (hx : ev σ x = some (.int k m)) (hy : ev σ y = some (.int k n)) (hN : Nat.blt d X.N = true) (hg : Gok all σ g) (kk : WL P X bad all K Q os ((d, .bool (decide (m = n))) :: σ) μ Ds) :
    WL P X bad all K Q ((fl, ix) :: os) σ μ Ds :=
  L.pure ho rfl rfl hN hg (fun ρ hρ w' => run_bin (by simp) (by cases k <;> (simp [binOp, Op.intCmp, Pure.pure]; by_cases h : m = n <;> simp [h])) (hρ x _ hx) (hρ y _ hy)) kk
theorem L.neq (ho : all[ix]? = some ⟨some d, .binOp .neq t x y t', ty, pos, aft, g⟩) (hx : ev σ x = some (.int k m)) (hy : ev σ y = some (.int k n)) (hN : Nat.blt d X.N = true) (hg : Gok all σ g) (kk : WL P X bad all K Q os ((d, .bool (decide (m ≠ n))) :: σ) μ Ds) :
    WL P X bad all K Q ((fl, ix) :: os) σ μ Ds :=
  L.pure ho rfl rfl hN hg (fun ρ hρ w' => run_bin (by simp) (by cases k <;> (simp [binOp, Op.intCmp, Pure.pure]; by_cases h : m = n <;> simp [h])) (hρ x _ hx) (hρ y _ hy)) kk
/-- '%' and '/' of a number that is not negative by one above 0. -/
theorem L.rem (ho : all[ix]? = some ⟨some d, .binOp .rem t x y t', ty, pos, aft, g⟩) (hx : ev σ x = some (.int k m)) (hy : ev σ y = some (.int k n)) (h0 : 0 ≤ m) (h1 : 0 < n) (hr : inK k (m % n)) (hN : Nat.blt d X.N = true) (hg : Gok all σ g) (kk : WL P X bad all K Q os ((d, .int k (m % n)) :: σ) μ Ds) :
    WL P X bad all K Q ((fl, ix) :: os) σ μ Ds :=
  L.pure ho rfl rfl hN hg (fun ρ hρ w' => run_bin (by simp) (by
    have hn : ¬ n = 0 := by omega
    have e : m.tmod n = m % n := Int.tmod_eq_emod_of_nonneg h0
    cases k <;> simp [binOp, Op.intDiv, hn, e, Pure.pure]) (hρ x _ hx) (hρ y _ hy)) kk
theorem L.quo (ho : all[ix]? = some ⟨some d, .binOp .quo t x y t', ty, pos, aft, g⟩) (hx : ev σ x = some (.int k m)) (hy : ev σ y = some (.int k n)) (h0 : 0 ≤ m) (h1 : 0 < n) (hr : inK k (m / n)) (hN : Nat.blt d X.N = true) (hg : Gok all σ g) (kk : WL P X bad all K Q os ((d, .int k (m / n)) :: σ) μ Ds) :
    WL P X bad all K Q ((fl, ix) :: os) σ μ Ds :=
  L.pure ho rfl rfl hN hg (fun ρ hρ w' => run_bin (by simp) (by
    have hn : ¬ n = 0 := by omega
    have e : m.tdiv n = m / n := Int.tdiv_eq_ediv_of_nonneg h0
    cases k <;> simp [binOp, Op.intDiv, hn, e, wrap_in hr, Pure.pure]) (hρ x _ hx) (hρ y _ hy)) kk
end nums

theorem C.condD {c : Operand} {a b : Code} {p : Prop} [Decidable p] (hc : ev σ c = some (.bool (decide p))) (ht : p → WC P X Q a σ μ Ds) (hf : ¬ p → WC P X Q b σ μ Ds) : WC P X Q (.cond c a b) σ μ Ds :=
  C.cond hc (fun e => ht (of_decide_eq_true e)) (fun e => hf (of_decide_eq_false e))

/-! ### Types: what the walk asks of them -/
def TA (P : Program) (t : TypeId) (b : Bool) : Prop := ∀ w, (isAgg t).run P w = .ok b w
def TS (P : Program) (t : TypeId) (n : Nat) : Prop := ∀ w, (sizeOf t).run P w = .ok n w
def TU (P : Program) (t : TypeId) (u : TypeDesc) : Prop := ∀ w, (underlying t).run P w = .ok u w
def TZ (P : Program) (t : TypeId) (v : Value) : Prop := ∀ w, (zeroValue t).run P w = .ok v w

theorem TU.of {t : TypeId} {u : TypeDesc} (h : P.underlying t = some u) : TU P t u := fun w => by simp [underlying, program, Sem.run, h, go_sem]
theorem TA.of {t : TypeId} {u : TypeDesc} (h : P.underlying t = some u) (b : Bool) (hb : (match u with | .struct _ => true | .array _ _ => true | _ => false) = b) : TA P t b := fun w => by
  have := TU.of h w
  unfold isAgg
  rw [Sem.run_bind, this]
  subst hb
  cases u <;> rfl
theorem TS.of {t : TypeId} {n : Nat} (h : (P.info? t).map (·.size) = some n) : TS P t n := fun w => by
  cases hi : P.info? t with
  | none => simp [hi] at h
  | some i => simp [hi] at h; simp [sizeOf, typeInfo, program, Sem.run, hi, h, go_sem]
theorem TZ.of {t : TypeId} {v : Value} (h : (P.info? t).bind (·.zero) = some v) : TZ P t v := fun w => by
  cases hi : P.info? t with
  | none => simp [hi] at h
  | some i => simp [hi] at h; simp [zeroValue, typeInfo, program, Sem.run, hi, h, go_sem]

/-! ### Cells -/
theorem cell_of {w : World} {b off : Nat} {cs : Array Value} {e : TypeId} {fz : Nat × Nat} {v : Value} (h : w.heap[b]? = some (.cells cs e fz)) (hv : cs[off]? = some v) : w.cell? ⟨b, off, none⟩ = some v := by
  simp [World.cell?, h, hv]

theorem run_load {w : World} {a : Addr} {v : Value} (h : w.cell? a = some v) : (load a).run P w = .ok v w := by
  simp [load, Sem.run, h]

theorem run_loadCellsFrom {w : World} {b off : Nat} : ∀ (n i : Nat) (acc : Array Value) (vs : List Value), vs.length = n → (∀ j v, vs[j]? = some v → w.cell? ⟨b, off + (i + j), none⟩ = some v) →
    (loadCellsFrom ⟨b, off, none⟩ i n acc).run P w = .ok (acc ++ vs.toArray) w := by
  intro n
  induction n with
  | zero => intro i acc vs hl _; have : vs = [] := List.length_eq_zero_iff.1 hl; subst this; simp [loadCellsFrom, Pure.pure]
  | succ n ih =>
    intro i acc vs hl h
    cases vs with
    | nil => simp at hl
    | cons v vs =>
      have h0 := h 0 v rfl
      have ha : (⟨b, off, none⟩ : Addr).add i = ⟨b, off + i, none⟩ := by
        unfold Addr.add; split
        · rename_i h; subst h; rfl
        · rfl
      simp only [loadCellsFrom]
      rw [Sem.run_bind, ha, run_load (by simpa using h0)]
      show (loadCellsFrom ⟨b, off, none⟩ (i + 1) n (acc.push v)).run P w = _
      rw [ih (i + 1) (acc.push v) vs (by simpa using hl) (fun j u hu => by
        have := h (j + 1) u (by simpa using hu)
        rw [show off + (i + (j + 1)) = off + (i + 1 + j) by omega] at this
        exact this)]
      simp

/-- The cells at an address of the world, written out. -/
def Lies (w : World) (b off : Nat) (vs : List Value) : Prop := ∀ j v, vs[j]? = some v → w.cell? ⟨b, off + j, none⟩ = some v

theorem run_loadAt_agg {w : World} {t : TypeId} {b off : Nat} {vs : List Value} (ha : TA P t true) (hs : TS P t vs.length) (h : Lies w b off vs) : (Instr.loadAt t (.pointer (some ⟨b, off, none⟩))).run P w = .ok (.agg vs.toArray) w := by
  unfold Instr.loadAt Instr.sureAddr loadVar loadCells
  simp only [Sem.run_bind, Sem.run_pure, Result.andThen, ha w, hs w, if_true, pure_bind]
  rw [run_loadCellsFrom vs.length 0 #[] vs rfl (fun j v hv => by rw [show off + (0 + j) = off + j by omega]; exact h j v hv)]
  simp

theorem run_loadAt_one {w : World} {t : TypeId} {b off : Nat} {v : Value} (ha : TA P t false) (h : w.cell? ⟨b, off, none⟩ = some v) : (Instr.loadAt t (.pointer (some ⟨b, off, none⟩))).run P w = .ok v w := by
  unfold Instr.loadAt Instr.sureAddr loadVar
  simp only [Sem.run_bind, Result.andThen, ha w, pure_bind]
  exact run_load h

/-! ### What a known state gives -/
theorem lt_of_some {w : World} {b : Nat} {o : Obj} (h : w.heap[b]? = some o) : b < w.heap.size := (Array.getElem?_eq_some_iff.1 h).1

theorem Hl.boxAt {a : Act} {w w' : World} (h : Hl X σ μ Ds a w) {b : Nat} {o : Obj} (hm : (b, o) ∈ μ) (hb : b ∉ bad) (hk : Keep bad w w') : w'.heap[b]? = some o := by
  obtain ⟨_, _, _, D, hs, _⟩ := h
  have := (hs.box _ hm).1
  rw [hk.2 b (lt_of_some this) hb]; exact this

theorem Agrees.cell {D : Data} {w : World} (h : Agrees D w) {b i : Nat} {v : Value} (hv : (D b)[i]? = some v) : w.cell? ⟨b, i, none⟩ = some v := by
  have hne : D b ≠ [] := fun e => by rw [e] at hv; simp at hv
  obtain ⟨cs, e, fz, hc, hp⟩ := h b hne
  obtain ⟨t, ht⟩ := hp
  refine cell_of hc ?_
  have hl := (List.getElem?_eq_some_iff.1 hv).1
  have : cs.toList[i]? = some v := by rw [← ht, List.getElem?_append_left hl]; exact hv
  simpa using this

theorem Hl.dataAt {a : Act} {w w' : World} (h : Hl X σ μ Ds a w) {D₁ : Data} (hD : D₁ ∈ Ds) {b i : Nat} {v : Value} (hv : (D₁ b)[i]? = some v) (hb : b ∉ bad) (hk : Keep bad w w') :
    w'.cell? ⟨b, i, none⟩ = some v := by
  obtain ⟨_, _, _, D, hs, hl, _⟩ := h
  have hc := hs.agr.cell ((hl D₁ hD).get hv)
  unfold World.cell? at hc ⊢
  cases hw : w.heap[b]? with
  | none => simp [hw] at hc
  | some o => rw [show (⟨b, i, none⟩ : Addr).block = b from rfl, hk.2 b (lt_of_some hw) hb]; exact hc

/-- The data hold these cells at an address. -/
def At (D : Data) (b o : Nat) (cs : List Value) : Prop := ∀ j v, cs[j]? = some v → (D b)[o + j]? = some v

theorem At.up {D D' : Data} {b o : Nat} {cs : List Value} (h : At D b o cs) (hl : Le D D') : At D' b o cs := fun j v hv => hl.get (h j v hv)

theorem Hl.liesD {a : Act} {w w' : World} (h : Hl X σ μ Ds a w) {D₁ : Data} (hD : D₁ ∈ Ds) {b o : Nat} {cs : List Value} (hA : At D₁ b o cs) (hb : b ∉ bad) (hk : Keep bad w w') : Lies w' b o cs :=
  fun j v hv => h.dataAt hD (hA j v hv) hb hk

/-! ### Loads -/
theorem L.loadB1 {t : TypeId} {b off : Nat} {vs : List Value} {e : TypeId} {fz : Nat × Nat} (ho : all[ix]? = some ⟨some d, .load t x, ty, pos, aft, g⟩) (ha : TA P t false) (hx : ev σ x = some (.pointer (some ⟨b, off, none⟩))) (hm : (b, .cells vs.toArray e fz) ∈ μ) (hv : vs[off]? = some v) (hb : b ∉ bad)
    (hN : Nat.blt d X.N = true) (hg : Gok all σ g) (kk : WL P X bad all K Q os ((d, v) :: σ) μ Ds) : WL P X bad all K Q ((fl, ix) :: os) σ μ Ds :=
  L.quiet ho rfl rfl hN hg (fun a w hh w' hk => by
    simp only [execOp, hh.eval hx]
    rw [Sem.run_bind, run_loadAt_one ha (cell_of (hh.boxAt hm hb hk) (by simpa using hv))]
    rfl) kk
/-- A whole block. -/
theorem L.loadBW {t : TypeId} {b : Nat} {vs : List Value} {e : TypeId} {fz : Nat × Nat} (ho : all[ix]? = some ⟨some d, .load t x, ty, pos, aft, g⟩) (ha : TA P t true) (hx : ev σ x = some (.pointer (some ⟨b, 0, none⟩))) (hm : (b, .cells vs.toArray e fz) ∈ μ) (hs : TS P t vs.length) (hb : b ∉ bad)
    (hN : Nat.blt d X.N = true) (hg : Gok all σ g) (kk : WL P X bad all K Q os ((d, .agg vs.toArray) :: σ) μ Ds) : WL P X bad all K Q ((fl, ix) :: os) σ μ Ds :=
  L.quiet ho rfl rfl hN hg (fun a w hh w' hk => by
    simp only [execOp, hh.eval hx]
    rw [Sem.run_bind, run_loadAt_agg ha hs (fun j v hv => cell_of (hh.boxAt hm hb hk) (by simpa using hv))]
    rfl) kk
/-- A struct or an array within a block. -/
theorem L.loadBP {t : TypeId} {b off n : Nat} {vs us : List Value} {e : TypeId} {fz : Nat × Nat} (ho : all[ix]? = some ⟨some d, .load t x, ty, pos, aft, g⟩) (ha : TA P t true) (hs : TS P t n) (hx : ev σ x = some (.pointer (some ⟨b, off, none⟩))) (hm : (b, .cells vs.toArray e fz) ∈ μ)
    (hu : (vs.drop off).take n = us) (hl : us.length = n) (hb : b ∉ bad)
    (hN : Nat.blt d X.N = true) (hg : Gok all σ g) (kk : WL P X bad all K Q os ((d, .agg us.toArray) :: σ) μ Ds) : WL P X bad all K Q ((fl, ix) :: os) σ μ Ds :=
  L.quiet ho rfl rfl hN hg (fun a w hh w' hk => by
    subst hl
    simp only [execOp, hh.eval hx]
    rw [Sem.run_bind, run_loadAt_agg ha hs (fun j v hv => cell_of (hh.boxAt hm hb hk) (by
      have hl := (List.getElem?_eq_some_iff.1 hv).1
      rw [← hu, List.getElem?_take_of_lt hl, List.getElem?_drop] at hv
      simpa using hv))]
    rfl) kk
theorem L.loadD1 {t : TypeId} {D₁ : Data} {b o k : Nat} {cs : List Value} (ho : all[ix]? = some ⟨some d, .load t x, ty, pos, aft, g⟩) (ha : TA P t false) (hx : ev σ x = some (.pointer (some ⟨b, o + k, none⟩))) (hA : At D₁ b o cs) (hD : D₁ ∈ Ds) (hv : cs[k]? = some v) (hb : b ∉ bad)
    (hN : Nat.blt d X.N = true) (hg : Gok all σ g) (kk : WL P X bad all K Q os ((d, v) :: σ) μ Ds) : WL P X bad all K Q ((fl, ix) :: os) σ μ Ds :=
  L.quiet ho rfl rfl hN hg (fun a w hh w' hk => by
    simp only [execOp, hh.eval hx]
    rw [Sem.run_bind, run_loadAt_one ha (hh.liesD hD hA hb hk k v hv)]
    rfl) kk
theorem L.loadDW {t : TypeId} {D₁ : Data} {b o : Nat} {cs : List Value} (ho : all[ix]? = some ⟨some d, .load t x, ty, pos, aft, g⟩) (ha : TA P t true) (hx : ev σ x = some (.pointer (some ⟨b, o, none⟩))) (hA : At D₁ b o cs) (hD : D₁ ∈ Ds) (hs : TS P t cs.length) (hb : b ∉ bad)
    (hN : Nat.blt d X.N = true) (hg : Gok all σ g) (kk : WL P X bad all K Q os ((d, .agg cs.toArray) :: σ) μ Ds) : WL P X bad all K Q ((fl, ix) :: os) σ μ Ds :=
  L.quiet ho rfl rfl hN hg (fun a w hh w' hk => by
    simp only [execOp, hh.eval hx]
    rw [Sem.run_bind, run_loadAt_agg ha hs (hh.liesD hD hA hb hk)]
    rfl) kk
theorem L.loadDP {t : TypeId} {D₁ : Data} {b o k n : Nat} {cs us : List Value} (ho : all[ix]? = some ⟨some d, .load t x, ty, pos, aft, g⟩) (ha : TA P t true) (hs : TS P t n) (hx : ev σ x = some (.pointer (some ⟨b, o + k, none⟩))) (hA : At D₁ b o cs) (hD : D₁ ∈ Ds) (hu : (cs.drop k).take n = us) (hl : us.length = n) (hb : b ∉ bad)
    (hN : Nat.blt d X.N = true) (hg : Gok all σ g) (kk : WL P X bad all K Q os ((d, .agg us.toArray) :: σ) μ Ds) : WL P X bad all K Q ((fl, ix) :: os) σ μ Ds :=
  L.quiet ho rfl rfl hN hg (fun a w hh w' hk => by
    subst hl
    simp only [execOp, hh.eval hx]
    rw [Sem.run_bind, run_loadAt_agg ha hs (fun j v hv => by
      have hl := (List.getElem?_eq_some_iff.1 hv).1
      rw [← hu, List.getElem?_take_of_lt hl, List.getElem?_drop] at hv
      have := hh.liesD hD hA hb hk (k + j) v hv
      rw [← Nat.add_assoc] at this
      exact this)]
    rfl) kk

/-! ### Addresses -/
/-- Field i of the struct t lies k cells behind its head. -/
def TF (P : Program) (t : TypeId) (i k : Nat) : Prop := ∀ (a : Addr) w, (Instr.fieldAt t (.pointer (some a)) i).run P w = .ok (.pointer (some (a.add k))) w

theorem TF.of {t : TypeId} {i k ft : Nat} {fs : Array Field} {n : Nat} (h : P.underlying t = some (.struct fs)) (hk : (fs[i]?).map (fun f => (f.offset, f.type)) = some (k, ft)) (hs : TS P ft n) (hn : Nat.beq n 0 = false) : TF P t i k := fun a w => by
  have hn' : n ≠ 0 := fun e => by subst e; simp at hn
  cases hf : fs[i]? with
  | none => simp [hf] at hk
  | some f =>
    simp only [hf, Option.map_some, Option.some.injEq, Prod.mk.injEq] at hk
    obtain ⟨rfl, rfl⟩ := hk
    unfold Instr.fieldAt fieldPlace Instr.sureAddr
    simp only [Sem.run_bind, TU.of h w, Result.andThen_ok, hf, hs w, Sem.run_pure, if_neg hn', pure_bind]

theorem add_plain (b o k : Nat) : (⟨b, o, none⟩ : Addr).add k = ⟨b, o + k, none⟩ := by
  unfold Addr.add; split
  · rename_i h; subst h; rfl
  · rfl

theorem L.fieldAddr {t : TypeId} {i k b o : Nat} (ho : all[ix]? = some ⟨some d, .fieldAddr t x i, ty, pos, aft, g⟩) (h : TF P t i k) (hx : ev σ x = some (.pointer (some ⟨b, o, none⟩)))
    (hN : Nat.blt d X.N = true) (hg : Gok all σ g) (kk : WL P X bad all K Q os ((d, .pointer (some ⟨b, o + k, none⟩)) :: σ) μ Ds) : WL P X bad all K Q ((fl, ix) :: os) σ μ Ds :=
  L.pure ho rfl rfl hN hg (fun ρ hρ w' => by
    simp only [execOp, hρ x _ hx]
    rw [Sem.run_bind, h, add_plain]
    rfl) kk

theorem L.nilCheck {a : Addr} (ho : all[ix]? = some ⟨some d, .nilCheck x, ty, pos, aft, g⟩) (hx : ev σ x = some (.pointer (some a)))
    (hN : Nat.blt d X.N = true) (hg : Gok all σ g) (kk : WL P X bad all K Q os ((d, .pointer (some a)) :: σ) μ Ds) : WL P X bad all K Q ((fl, ix) :: os) σ μ Ds :=
  L.pure ho rfl rfl hN hg (fun ρ hρ w' => by simp only [execOp, hρ x _ hx]; rfl) kk
theorem L.nilCheckF {f : Fn} {c1 c2 : Array Value} (ho : all[ix]? = some ⟨some d, .nilCheck x, ty, pos, aft, g⟩) (hx : ev σ x = some (.func f c1 c2)) (hf : (match f with | .method _ => true | _ => false) = false)
    (hN : Nat.blt d X.N = true) (hg : Gok all σ g) (kk : WL P X bad all K Q os ((d, .func f c1 c2) :: σ) μ Ds) : WL P X bad all K Q ((fl, ix) :: os) σ μ Ds :=
  L.pure ho rfl rfl hN hg (fun ρ hρ w' => by simp only [execOp, hρ x _ hx]; cases f <;> first | rfl | cases hf) kk

/-- The i-th element of an array behind a pointer. -/
theorem L.indexA {t e : TypeId} {n sz b o : Nat} {k : IntKind} {i : Int} (ho : all[ix]? = some ⟨some d, .indexAddr t x y, ty, pos, aft, g⟩) (ht : P.underlying t = some (.array n e)) (hs : TS P e sz) (hx : ev σ x = some (.pointer (some ⟨b, o, none⟩))) (hy : ev σ y = some (.int k i)) (h0 : 0 ≤ i) (h1 : i < n)
    (hN : Nat.blt d X.N = true) (hg : Gok all σ g) (kk : WL P X bad all K Q os ((d, .pointer (some ⟨b, o + i.toNat * sz, none⟩)) :: σ) μ Ds) : WL P X bad all K Q ((fl, ix) :: os) σ μ Ds :=
  L.pure ho rfl rfl hN hg (fun ρ hρ w' => by
    simp only [execOp, hρ x _ hx, hρ y _ hy]
    unfold Instr.indexAt asIntOf Instr.sureAddr
    simp only [Sem.run_bind, TU.of ht w', Result.andThen_ok, hs w', Sem.run_pure, pure_bind, h0, h1, and_self, if_true, add_plain]) kk

end Go.Fs
