/- Structs of numbers, and of arrays of numbers, are compared. -/
import Derived.Test.YtjhdcelmgfajbaaMapK
namespace Go.Fs

variable {P : Program} {X : Cx} {γb : Type} [Membership Nat γb] {bad : γb} {all : Array Oper} {K : Act → World → Prop} {Q : Exit → Act → World → Prop}
variable {σ : Slots} {μ : Boxes} {Ds : List Data} {os : List (Bool × Nat)} {fl : Bool} {ix : Nat}
variable {d : Nat} {x y z : Operand} {u v : Value} {ty : TypeId} {pos : String} {aft : Array Edge} {g : Option (Nat × Bool)}

/-- A field that has n numbers from o on. -/
structure FldOk (P : Program) (f : Field) (o n : Nat) : Prop where
  name : f.name ≠ "_"
  eqp : ∀ (l m : List Int) w, o + n ≤ l.length → o + n ≤ m.length → ∃ u v, (part f.type (ints l).toArray f.offset).run P w = .ok u w ∧ (part f.type (ints m).toArray f.offset).run P w = .ok v w ∧ (Op.equalIn 9999 f.type u v).run P w = .ok ((l.drop o).take n == (m.drop o).take n) w
/-- Fields that follow each other. -/
inductive Chain (P : Program) : Nat → Nat → List Field → Prop
  | nil {o} : Chain P o o []
  | cons {o n e f fs} (h : FldOk P f o n) (r : Chain P (o + n) e fs) : Chain P o e (f :: fs)

theorem Chain.le {o e : Nat} {fs : List Field} (h : Chain P o e fs) : o ≤ e := by
  induction h with
  | nil => exact Nat.le_refl _
  | cons _ _ ih => omega

theorem drop_eq_split (l m : List Int) (o n : Nat) : (l.drop o == m.drop o) = (((l.drop o).take n == (m.drop o).take n) && (l.drop (o + n) == m.drop (o + n))) := by
  rw [Bool.eq_iff_iff]
  simp only [beq_iff_eq, Bool.and_eq_true]
  constructor
  · intro h
    exact ⟨by rw [h], by rw [← List.drop_drop, ← List.drop_drop, h]⟩
  · rintro ⟨h1, h2⟩
    rw [← List.take_append_drop n (l.drop o), ← List.take_append_drop n (m.drop o), h1, List.drop_drop, List.drop_drop, h2]

theorem run_eqFields (l m : List Int) (w : World) {o e : Nat} {fs : List Field} (h : Chain P o e fs) (hl : l.length = e) (hm : m.length = e) : (Op.eqFields 9999 (ints l).toArray (ints m).toArray fs).run P w = .ok (l.drop o == m.drop o) w := by
  induction h with
  | nil =>
    rw [List.drop_eq_nil_of_le (by omega), List.drop_eq_nil_of_le (by omega)]; rfl
  | @cons o n e f fs h r ih =>
    have hle := r.le
    obtain ⟨u, v, h1, h2, h3⟩ := h.eqp l m w (by omega) (by omega)
    rw [Op.eqFields, if_pos h.name]
    simp only [Sem.run_bind, h1, h2, Result.andThen_ok]
    rw [h3, drop_eq_split l m o n]
    simp only [Result.andThen_ok]
    cases hx : (l.drop o).take n == (m.drop o).take n with
    | true =>
      simp only [Bool.not_true, Bool.false_eq_true, if_false, Bool.true_and]
      exact ih hl hm
    | false => simp only [Bool.not_false, if_true, Sem.run_pure, Bool.false_and]

theorem FldOk.int {f : Field} {o : Nat} (hn : f.name ≠ "_") (ho : f.offset = o) (ht : P.underlying f.type = some (.int .i64)) : FldOk P f o 1 := by
  refine ⟨hn, fun l m w hl hm => ?_⟩
  have h1 : l[o]? = some (l[o]'(by omega)) := List.getElem?_eq_getElem _
  have h2 : m[o]? = some (m[o]'(by omega)) := List.getElem?_eq_getElem _
  refine ⟨.int .i64 l[o], .int .i64 m[o], run_part_int ht (by rw [ho]; simpa using ints_get h1) w, run_part_int ht (by rw [ho]; simpa using ints_get h2) w, ?_⟩
  rw [run_equalIn_int w 9998 f.type .i64 .i64 _ _ ht]
  congr 1
  have t1 : (l.drop o).take 1 = [l[o]] := by rw [List.drop_eq_getElem_cons (show o < l.length by omega)]; rfl
  have t2 : (m.drop o).take 1 = [m[o]] := by rw [List.drop_eq_getElem_cons (show o < m.length by omega)]; rfl
  rw [t1, t2]
  simp
theorem part_ints {t : TypeId} {n o : Nat} (ha : TA P t true) (hs : TS P t n) {l : List Int} (_hl : o + n ≤ l.length) (w : World) : (part t (ints l).toArray o).run P w = .ok (.agg (ints ((l.drop o).take n)).toArray) w := by
  unfold part
  simp only [Sem.run_bind, ha w, Result.andThen_ok, if_true, hs w, Sem.run_pure]
  congr 2
  apply Array.ext'
  simp only [Array.toList_extract, List.extract_eq_take_drop, ints, List.map_drop, List.map_take]
  congr 1; omega
theorem FldOk.arr {f : Field} {o n : Nat} {e : TypeId} (hn : f.name ≠ "_") (ho : f.offset = o) (ht : P.underlying f.type = some (.array n e)) (he : P.underlying e = some (.int .i64)) (hc : P.cellsOf e = 1) (ha : TA P f.type true) (hs : TS P f.type n) : FldOk P f o n := by
  refine ⟨hn, fun l m w hl hm => ⟨_, _, by rw [ho]; exact part_ints ha hs hl w, by rw [ho]; exact part_ints ha hs hm w, ?_⟩⟩
  obtain ⟨i, hi⟩ := info_of_underlying he
  have h := run_equalIn_array (P := P) w 9998 (ints ((l.drop o).take n)).toArray (ints ((m.drop o).take n)).toArray ht hi
  have e1 : ((l.drop o).take n).length = n := by rw [List.length_take, List.length_drop]; omega
  have e2 : ((m.drop o).take n).length = n := by rw [List.length_take, List.length_drop]; omega
  rw [hc, run_eqItems_ints 9997 he _ _ w (List.range n) (fun j hj => by have := List.mem_range.1 hj; omega), all_range_eq e1 e2] at h
  exact h

/-- A struct's type that is compared number by number. -/
def KS (P : Program) (t : TypeId) (n : Nat) : Prop := P.underlying t = some (.struct (P.fieldsOf t)) ∧ P.stoodInHeld t = false ∧ P.eqGuardType P.depth t = false ∧ Chain P 0 n (P.fieldsOf t).toList

theorem run_equal_s {t : TypeId} {n : Nat} (h : KS P t n) {l m : List Int} (hl : l.length = n) (hm : m.length = n) (w : World) : (Op.equal t (.agg (ints l).toArray) (.agg (ints m).toArray)).run P w = .ok (l == m) w := by
  have he := run_equalIn_struct (P := P) w 9999 t (ints l).toArray (ints m).toArray h.1 h.2.1
  show (Op.equalIn (9999 + 1) t (.agg (ints l).toArray) (.agg (ints m).toArray)).run P w = _
  rw [he, run_eqFields l m w h.2.2.2 hl hm]
  simp
theorem L.neqS {t t' : TypeId} {n : Nat} {l m : List Int} (ho : all[ix]? = some ⟨some d, .binOp .neq t x y t', ty, pos, aft, g⟩) (ht : KS P t n) (hl : l.length = n) (hm : m.length = n) (hx : ev σ x = some (.agg (ints l).toArray)) (hy : ev σ y = some (.agg (ints m).toArray)) (hN : Nat.blt d X.N = true) (hg : Gok all σ g)
    (kk : WL P X bad all K Q os ((d, .bool (!(l == m))) :: σ) μ Ds) : WL P X bad all K Q ((fl, ix) :: os) σ μ Ds :=
  L.neqX ho (fun w => by
    have hgd : (eqGuard .neq t x y (.agg (ints l).toArray) (.agg (ints m).toArray)).run P w = .ok () w := by
      simp only [eqGuard, program]
      simp [Sem.run, ht.2.2.1, go_sem]
    rw [Sem.run_bind, hgd]
    show ((do Pure.pure (Value.bool (!(← Op.equal t (.agg (ints l).toArray) (.agg (ints m).toArray))))) : Sem Value).run P w = _
    rw [Sem.run_bind, run_equal_s ht hl hm]; rfl) hx hy hN hg kk
theorem L.eqlS {t t' : TypeId} {n : Nat} {l m : List Int} (ho : all[ix]? = some ⟨some d, .binOp .eql t x y t', ty, pos, aft, g⟩) (ht : KS P t n) (hl : l.length = n) (hm : m.length = n) (hx : ev σ x = some (.agg (ints l).toArray)) (hy : ev σ y = some (.agg (ints m).toArray)) (hN : Nat.blt d X.N = true) (hg : Gok all σ g)
    (kk : WL P X bad all K Q os ((d, .bool (l == m)) :: σ) μ Ds) : WL P X bad all K Q ((fl, ix) :: os) σ μ Ds :=
  L.eqlX ho (fun w => by
    have hgd : (eqGuard .eql t x y (.agg (ints l).toArray) (.agg (ints m).toArray)).run P w = .ok () w := by
      simp only [eqGuard, program]
      simp [Sem.run, ht.2.2.1, go_sem]
    rw [Sem.run_bind, hgd]
    show ((do Pure.pure (Value.bool (← Op.equal t (.agg (ints l).toArray) (.agg (ints m).toArray)))) : Sem Value).run P w = _
    rw [Sem.run_bind, run_equal_s ht hl hm]; rfl) hx hy hN hg kk

end Go.Fs
