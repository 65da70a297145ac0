/- Equal arrays of numbers; maps whose keys are two numbers. -/
import Derived.Test.YtjhdcelmgfajbaaRest
import Derived.ChangeKeysEq
namespace Go.Fs

variable {P : Program} {X : Cx} {γb : Type} [Membership Nat γb] {bad : γb} {all : Array Oper} {K : Act → World → Prop} {Q : Exit → Act → World → Prop}
variable {σ : Slots} {μ : Boxes} {Ds : List Data} {os : List (Bool × Nat)} {fl : Bool} {ix : Nat}
variable {d : Nat} {x y z : Operand} {u v : Value} {ty : TypeId} {pos : String} {aft : Array Edge} {g : Option (Nat × Bool)}

theorem run_part_int {e : TypeId} {q : IntKind} (hu : P.underlying e = some (.int q)) {xs : Array Value} {off : Nat} {v : Value} (hx : xs[off]? = some v) (w : World) : (part e xs off).run P w = .ok v w :=
  run_part_plain w (by simp [Program.plainKey, hu]) hx

theorem run_eqItems_ints (dp : Nat) {e : TypeId} (hu : P.underlying e = some (.int .i64)) (l m : List Int) (w : World) : ∀ (is : List Nat), (∀ i ∈ is, i < l.length ∧ i < m.length) →
    (Op.eqItems (dp + 1) e 1 (ints l).toArray (ints m).toArray is).run P w = .ok (is.all fun i => l[i]? == m[i]?) w
  | [], _ => by simp [Op.eqItems, Sem.run_pure]
  | i :: is, h => by
    obtain ⟨h1, h2⟩ := h i List.mem_cons_self
    have g1 : (ints l).toArray[i * 1]? = some (.int .i64 l[i]) := by rw [Nat.mul_one]; simpa using ints_get (List.getElem?_eq_getElem h1)
    have g2 : (ints m).toArray[i * 1]? = some (.int .i64 m[i]) := by rw [Nat.mul_one]; simpa using ints_get (List.getElem?_eq_getElem h2)
    simp only [Op.eqItems, Sem.run_bind, run_part_int hu g1, run_part_int hu g2, run_equalIn_int w dp e .i64 .i64 _ _ hu, Result.andThen_ok, List.all_cons, List.getElem?_eq_getElem h1, List.getElem?_eq_getElem h2]
    by_cases he : l[i] = m[i]
    · simp [he, run_eqItems_ints dp hu l m w is (fun j hj => h j (List.mem_cons_of_mem _ hj))]
    · simp [he, Sem.run_pure]

theorem all_range_eq {l m : List Int} {n : Nat} (hl : l.length = n) (hm : m.length = n) : ((List.range n).all fun i => l[i]? == m[i]?) = (l == m) := by
  rw [Bool.eq_iff_iff]
  simp only [List.all_eq_true, List.mem_range, beq_iff_eq]
  constructor
  · intro h
    apply List.ext_getElem?
    intro i
    by_cases hi : i < n
    · exact h i hi
    · rw [List.getElem?_eq_none (by omega), List.getElem?_eq_none (by omega)]
  · rintro rfl i _; rfl

/-- Two arrays of numbers are compared. -/
theorem L.eqlA {t e t' : TypeId} {n : Nat} {l m : List Int} (ho : all[ix]? = some ⟨some d, .binOp .eql t x y t', ty, pos, aft, g⟩) (hgt : P.eqGuardType P.depth t = false) (ht : P.underlying t = some (.array n e)) (he : P.underlying e = some (.int .i64)) (hc : P.cellsOf e = 1)
    (hl : l.length = n) (hm : m.length = n) (hx : ev σ x = some (.agg (ints l).toArray)) (hy : ev σ y = some (.agg (ints m).toArray)) (hN : Nat.blt d X.N = true) (hg : Gok all σ g)
    (kk : WL P X bad all K Q os ((d, .bool (l == m)) :: σ) μ Ds) : WL P X bad all K Q ((fl, ix) :: os) σ μ Ds :=
  L.eqlX ho (fun w => by
    have hgd : (eqGuard .eql t x y (.agg (ints l).toArray) (.agg (ints m).toArray)).run P w = .ok () w := by
      simp only [eqGuard, program]
      simp [Sem.run, hgt, go_sem]
    have heq : (Op.equal t (.agg (ints l).toArray) (.agg (ints m).toArray)).run P w = .ok (l == m) w := by
      obtain ⟨i, hi⟩ := info_of_underlying he
      have h := run_equalIn_array (P := P) w 9999 (ints l).toArray (ints m).toArray ht hi
      rw [hc, run_eqItems_ints 9998 he l m w (List.range n) (fun j hj => by have := List.mem_range.1 hj; omega), all_range_eq hl hm] at h
      exact h
    rw [Sem.run_bind, hgd]
    show ((do Pure.pure (Value.bool (← Op.equal t (.agg (ints l).toArray) (.agg (ints m).toArray)))) : Sem Value).run P w = _
    rw [Sem.run_bind, heq]; rfl) hx hy hN hg kk

/-! ### Maps -/
def K2 (P : Program) (k : TypeId) : Prop := P.underlying k = some (.struct (P.fieldsOf k)) ∧ P.stoodInHeld k = false ∧
  (P.fieldsOf k).toList.map (fun f => (f.name == "_", f.offset, P.underlying f.type)) = [(false, 0, some (.int .i64)), (false, 1, some (.int .i64))]
def k2V (k : Int × Int) : Value := .agg #[.int .i64 k.1, .int .i64 k.2]

theorem K2.fields {k : TypeId} (h : K2 P k) : ∃ f0 f1, P.underlying k = some (.struct #[f0, f1]) ∧ P.fieldsOf k = #[f0, f1] ∧ f0.name ≠ "_" ∧ f1.name ≠ "_" ∧ f0.offset = 0 ∧ f1.offset = 1 ∧ P.underlying f0.type = some (.int .i64) ∧ P.underlying f1.type = some (.int .i64) := by
  obtain ⟨h1, h2, h3⟩ := h
  generalize hl : (P.fieldsOf k).toList = fs at h3
  have h0 := congrArg List.length h3
  simp only [List.length_map, List.length_cons, List.length_nil] at h0
  rcases fs with _ | ⟨f0, _ | ⟨f1, _ | ⟨f2, fs⟩⟩⟩ <;> simp only [List.length_cons, List.length_nil] at h0 <;> try omega
  have he : P.fieldsOf k = #[f0, f1] := by rw [← Array.toArray_toList (xs := P.fieldsOf k), hl]
  simp only [List.map_cons, List.map_nil, List.cons.injEq, Prod.mk.injEq, and_true, beq_eq_false_iff_ne] at h3
  exact ⟨f0, f1, by rw [h1, he], he, h3.1.1, h3.2.1, h3.1.2.1, h3.2.2.1, h3.1.2.2, h3.2.2.2⟩

theorem run_equal_k2 {k : TypeId} (h : K2 P k) (a b : Int × Int) (w : World) : (Op.equal k (k2V a) (k2V b)).run P w = .ok (a == b) w := by
  obtain ⟨a1, a2⟩ := a
  obtain ⟨b1, b2⟩ := b
  obtain ⟨f0, f1, hu, hf, n0, n1, o0, o1, t0, t1⟩ := h.fields
  have he := run_equalIn_struct (P := P) w 9999 k #[.int .i64 a1, .int .i64 a2] #[.int .i64 b1, .int .i64 b2] h.1 h.2.1
  show (Op.equalIn (9999 + 1) k (.agg #[.int .i64 a1, .int .i64 a2]) (.agg #[.int .i64 b1, .int .i64 b2])).run P w = _
  rw [he, hf]
  have p0 : ∀ c1 c2 : Int, (part f0.type #[.int .i64 c1, .int .i64 c2] f0.offset).run P w = .ok (.int .i64 c1) w := fun c1 c2 => run_part_int t0 (by rw [o0]; rfl) w
  have p1 : ∀ c1 c2 : Int, (part f1.type #[.int .i64 c1, .int .i64 c2] f1.offset).run P w = .ok (.int .i64 c2) w := fun c1 c2 => run_part_int t1 (by rw [o1]; rfl) w
  have e0 := run_equalIn_int w 9998 f0.type .i64 .i64 a1 b1 t0
  have e1 := run_equalIn_int w 9998 f1.type .i64 .i64 a2 b2 t1
  have s1 : (Op.eqFields 9999 #[.int .i64 a1, .int .i64 a2] #[.int .i64 b1, .int .i64 b2] [f1]).run P w = .ok (a2 == b2) w := by
    simp only [Op.eqFields, n1, ne_eq, not_false_eq_true, if_true, Sem.run_bind, p1, Result.andThen_ok]
    rw [e1]
    simp only [Result.andThen_ok]
    cases a2 == b2 <;> rfl
  show (Op.eqFields 9999 #[.int .i64 a1, .int .i64 a2] #[.int .i64 b1, .int .i64 b2] (f0 :: [f1])).run P w = _
  rw [Op.eqFields, if_pos n0]
  simp only [Sem.run_bind, p0, Result.andThen_ok]
  rw [e0]
  simp only [Result.andThen_ok]
  by_cases hab : a1 = b1
  · subst hab
    simp only [beq_self_eq_true, Bool.not_true, Bool.false_eq_true, if_false]
    rw [s1]
    have : (a2 == b2) = ((a1, a2) == (a1, b2)) := by rw [Bool.eq_iff_iff]; simp
    rw [this]
  · have hb : (a1 == b1) = false := by simpa using hab
    simp only [hb, Bool.not_false, if_true, Sem.run_pure]
    simp [hab]

/-- Two structs of two numbers are compared. -/
theorem L.eqlK {t t' : TypeId} {a b : Int × Int} (ho : all[ix]? = some ⟨some d, .binOp .eql t x y t', ty, pos, aft, g⟩) (hgt : P.eqGuardType P.depth t = false) (ht : K2 P t) (hx : ev σ x = some (k2V a)) (hy : ev σ y = some (k2V b)) (hN : Nat.blt d X.N = true) (hg : Gok all σ g)
    (kk : WL P X bad all K Q os ((d, .bool (a == b)) :: σ) μ Ds) : WL P X bad all K Q ((fl, ix) :: os) σ μ Ds :=
  L.eqlX ho (fun w => by
    have hgd : (eqGuard .eql t x y (k2V a) (k2V b)).run P w = .ok () w := by
      simp only [eqGuard, k2V, program]
      simp [Sem.run, hgt, go_sem]
    rw [Sem.run_bind, hgd]
    show ((do Pure.pure (Value.bool (← Op.equal t (k2V a) (k2V b)))) : Sem Value).run P w = _
    rw [Sem.run_bind, run_equal_k2 ht]; rfl) hx hy hN hg kk
theorem L.neqK {t t' : TypeId} {a b : Int × Int} (ho : all[ix]? = some ⟨some d, .binOp .neq t x y t', ty, pos, aft, g⟩) (hgt : P.eqGuardType P.depth t = false) (ht : K2 P t) (hx : ev σ x = some (k2V a)) (hy : ev σ y = some (k2V b)) (hN : Nat.blt d X.N = true) (hg : Gok all σ g)
    (kk : WL P X bad all K Q os ((d, .bool (!(a == b))) :: σ) μ Ds) : WL P X bad all K Q ((fl, ix) :: os) σ μ Ds :=
  L.neqX ho (fun w => by
    have hgd : (eqGuard .neq t x y (k2V a) (k2V b)).run P w = .ok () w := by
      simp only [eqGuard, k2V, program]
      simp [Sem.run, hgt, go_sem]
    rw [Sem.run_bind, hgd]
    show ((do Pure.pure (Value.bool (!(← Op.equal t (k2V a) (k2V b))))) : Sem Value).run P w = _
    rw [Sem.run_bind, run_equal_k2 ht]; rfl) hx hy hN hg kk

/-- A conversion of a number to another kind, in which it fits. -/
theorem L.convI {k k' : IntKind} {s t : TypeId} {u' : TypeDesc} {n : Int} (ho : all[ix]? = some ⟨some d, .convert s t x, ty, pos, aft, g⟩) (hs : P.underlying s = some u') (ht : P.underlying t = some (.int k')) (hx : ev σ x = some (.int k n)) (hn : inK k' n) (hN : Nat.blt d X.N = true) (hg : Gok all σ g)
    (kk : WL P X bad all K Q os ((d, .int k' n) :: σ) μ Ds) : WL P X bad all K Q ((fl, ix) :: os) σ μ Ds :=
  L.convert ho (fun w => by
    simp only [Go.convert, Sem.run_bind, TU.of hs w, TU.of ht w, Result.andThen_ok, Conv.intToInt, wrap_in hn]
    rfl) hx hN hg kk

theorem Acc.shape {e : TypeId} {sz n : Nat} {cells : List Value} {ν : Boxes} (h : Acc e sz v n cells ν) : ∃ a cap, v = .slice a n cap := by
  rcases h with ⟨a, hv, hn, _, _⟩ | ⟨b, cap, junk, hv, _⟩
  · exact ⟨a, 0, by rw [hv, hn]⟩
  · exact ⟨_, cap, hv⟩
theorem Sl.shape {α : Type} {R : Rd α} {D : Data} {sz : Nat} {xs : List α} (h : Sl D R sz v xs) : ∃ a cap, v = .slice a xs.length cap := by
  obtain ⟨a, cap, hv, _⟩ := h; exact ⟨a, cap, hv⟩

/-- A slice's literal that is the frame's own. -/
theorem L.buildSliceO {t e : TypeId} {sz n : Nat} {parts : Array (Nat × Operand)} {us : List (Nat × Value)} {rs : List Value} {z0 : Value} (ho : all[ix]? = some ⟨some d, .buildSlice t n parts, ty, pos, aft, g⟩) (ht : P.underlying t = some (.slice e)) (hs : TS P e sz) (hz : TZ P e z0) (_hz1 : Nat.beq z0.cells.size sz = true)
    (hu : evps σ parts.toList = some us) (hn : us.length = n) (hnz : Nat.ble (n * sz) 4096 = true) (hf : Flat sz 0 us rs) (hN : Nat.blt d X.N = true) (hg : Gok all σ g)
    (kk : ∀ b, Acc e sz (.slice (some ⟨b, 0, none⟩) n n) n rs [(b, .cells rs.toArray e (0, 0))] → WL P X bad all K Q os ((d, .slice (some ⟨b, 0, none⟩) n n) :: σ) ((b, .cells rs.toArray e (0, 0)) :: μ) Ds) : WL P X bad all K Q ((fl, ix) :: os) σ μ Ds := by
  refine L.loud ho rfl rfl hg fun a w hh => ?_
  obtain ⟨h1, h2, h3, D, h4, h5, h6⟩ := id hh
  have hnz' : n * sz ≤ 4096 := Nat.le_of_ble_eq_true hnz
  have hlen : rs.length = n * sz := by rw [hf.len, hn]
  have e1 : (parts.map fun (i, x) => (i, a.eval x)).toList = us := by rw [← evps_eval (fun _ _ hx => hh.eval hx) hu]; simp
  have hrun : (execOp a.eval ⟨some d, .buildSlice t n parts, ty, pos, aft, g⟩).run P w = .ok (.value (.slice (some ⟨w.heap.size, 0, none⟩) n n)) { w with heap := w.heap.push (.cells rs.toArray e (0, 0)) } := by
    simp only [execOp, Instr.buildSlice, Sem.run_bind, TU.of ht w, Result.andThen_ok, hs w]
    rw [if_neg (by omega)]
    simp only [pure_bind]
    have key : ∀ zc : Array Value, Instr.fill (fun i => some (i * sz, sz)) ((Array.range (n * sz)).map (zc[· % zc.size]!)) us = some rs.toArray := by
      intro zc
      have := fill_flat hf [] ((Array.range (n * sz)).map (zc[· % zc.size]!)).toList (by simp) (by simp [hlen])
      rw [List.nil_append, List.nil_append] at this
      exact this
    split
    · simp only [Sem.run_bind, Sem.run_pure, Result.andThen_ok, e1, key, run_newRow]
    · simp only [Sem.run_bind, Sem.run_pure, Result.andThen_ok, hz w, e1, key, run_newRow]
  rw [hrun]
  have hs' := h4.push (.cells rs.toArray e (0, 0)) rfl
  refine ⟨fun _ => keep_push _ _ _, kk w.heap.size (Or.inr ⟨_, n, [], rfl, Nat.le_refl _, by simp, hlen, by simpa using hlen⟩) _ _ (Hl.put ⟨h1, h2, h3, D, hs', h5, h6.step (fun _ p hp => ?_) (fun _ => low_push _ _) hs'.dom⟩ hN _)⟩
  rcases List.mem_cons.1 hp with rfl | hp
  · exact Or.inr (Nat.le_refl _)
  · exact Or.inl (List.mem_map.2 ⟨p, hp, rfl⟩)

theorem run_checkKey_k2 {k : TypeId} (h : K2 P k) (em : Bool) (a : Int × Int) (w : World) : (Instr.checkKey em 10000 k (k2V a)).run P w = .ok () w := by
  obtain ⟨f0, f1, hu, hf, n0, n1, o0, o1, t0, t1⟩ := h.fields
  have p0 : (part f0.type #[.int .i64 a.1, .int .i64 a.2] f0.offset).run P w = .ok (.int .i64 a.1) w := run_part_int t0 (by rw [o0]; rfl) w
  have p1 : (part f1.type #[.int .i64 a.1, .int .i64 a.2] f1.offset).run P w = .ok (.int .i64 a.2) w := run_part_int t1 (by rw [o1]; rfl) w
  have c0 : (Instr.checkKey em (9998 + 1) f0.type (.int .i64 a.1)).run P w = .ok () w := by
    rw [Instr.checkKey, Sem.run_bind, TU.of t0 w]; rfl
  have c1 : (Instr.checkKey em (9998 + 1) f1.type (.int .i64 a.2)).run P w = .ok () w := by
    rw [Instr.checkKey, Sem.run_bind, TU.of t1 w]; rfl
  show (Instr.checkKey em (9999 + 1) k (.agg #[.int .i64 a.1, .int .i64 a.2])).run P w = _
  rw [Instr.checkKey, Sem.run_bind, TU.of hu w]
  simp only [Result.andThen_ok]
  rw [← Array.forIn_toList]
  simp only [List.forIn_cons, List.forIn_nil, n0, n1, ne_eq, not_false_eq_true, if_true, Sem.run_bind, p0, Result.andThen_ok, Sem.run_pure]
  rw [c0]
  simp only [Result.andThen_ok, Sem.run_pure, Sem.run_bind, p1]
  rw [c1]
  simp [Sem.run_pure, Result.andThen_ok]

/-- The entries of a map from two numbers to a number. -/
def MapIs (es : Array MapEntry) (M : List ((Int × Int) × Int)) : Prop := es.toList.map (fun e => (e.key, e.val)) = M.map fun x => (k2V x.1, Value.int .i64 x.2)

def posK (a : Int × Int) : List ((Int × Int) × Int) → Nat → Option (Nat × Int)
  | [], _ => none
  | (b, n) :: M, i => if a = b then some (i, n) else posK a M (i + 1)
theorem posK_some {a : Int × Int} : ∀ {M : List ((Int × Int) × Int)} {i j : Nat} {n : Int}, posK a M i = some (j, n) → ∃ k, j = i + k ∧ M[k]? = some (a, n)
  | (b, m) :: M, i, j, n, h => by
    simp only [posK] at h
    split at h
    · rename_i he; cases h; exact ⟨0, rfl, by rw [he]; rfl⟩
    · obtain ⟨k, rfl, hk⟩ := posK_some h
      exact ⟨k + 1, by omega, by simpa using hk⟩

theorem run_findAsking_k2 {k : TypeId} (h : K2 P k) (a : Int × Int) (w : World) : ∀ (es : List MapEntry) (M : List ((Int × Int) × Int)) (i : Nat), es.map (fun e => (e.key, e.val)) = M.map (fun x => (k2V x.1, Value.int .i64 x.2)) →
    (Instr.findAsking k (k2V a) es i).run P w = .ok ((posK a M i).map fun p => (p.1, Value.int .i64 p.2)) w
  | [], [], i, _ => rfl
  | [], _ :: _, i, hm => by simp at hm
  | e :: es, [], i, hm => by simp at hm
  | e :: es, (b, n) :: M, i, hm => by
    simp only [List.map_cons, List.cons.injEq, Prod.mk.injEq] at hm
    obtain ⟨⟨hk, hv⟩, hm⟩ := hm
    simp only [Instr.findAsking, Sem.run_bind, hk, run_equal_k2 h, Result.andThen_ok, posK]
    by_cases he : a = b
    · subst he
      simp only [beq_self_eq_true, if_true, Sem.run_pure, hv]; rfl
    · have : (a == b) = false := by simpa using he
      simp only [this, Bool.false_eq_true, if_false, if_neg he]
      exact run_findAsking_k2 h a w es M (i + 1) hm

theorem run_findKey_k2 {k : TypeId} (h : K2 P k) (a : Int × Int) (w : World) {es : List MapEntry} {M : List ((Int × Int) × Int)} (hm : es.map (fun e => (e.key, e.val)) = M.map (fun x => (k2V x.1, Value.int .i64 x.2))) :
    (Instr.findKey k (k2V a) es).run P w = .ok ((posK a M 0).map fun p => (p.1, Value.int .i64 p.2)) w := by
  obtain ⟨f0, f1, hu, _⟩ := h.fields
  unfold Instr.findKey
  rw [Sem.run_bind, TU.of hu w]
  cases es with
  | nil =>
    cases M with
    | nil => rfl
    | cons x M => simp at hm
  | cons e es =>
    have hn : Instr.findNow (.struct #[f0, f1]) (k2V a) (e :: es) 0 = none := rfl
    simp only [Result.andThen_ok, hn]
    exact run_findAsking_k2 h a w (e :: es) M 0 hm

theorem L.makeMap {t : TypeId} (ho : all[ix]? = some ⟨some d, .makeMap t none, ty, pos, aft, g⟩) (hN : Nat.blt d X.N = true) (hg : Gok all σ g)
    (kk : ∀ b, WL P X bad all K Q os ((d, .map (some b)) :: σ) ((b, .map #[] 0) :: μ) Ds) : WL P X bad all K Q ((fl, ix) :: os) σ μ Ds := by
  refine L.loud ho rfl rfl hg fun a w hh => ?_
  obtain ⟨h1, h2, h3, D, h4, h5, h6⟩ := id hh
  have : (execOp a.eval ⟨some d, .makeMap t none, ty, pos, aft, g⟩).run P w = .ok (.value (.map (some w.heap.size))) { w with heap := w.heap.push (.map #[] 0) } := rfl
  rw [this]
  exact ⟨fun _ => keep_push _ _ _, kk _ _ _ (Hl.put ⟨h1, h2, h3, D, h4.push _ (show unfrozen (.map #[] 0) from trivial), h5, h6.step (fun _ p hp => by rcases List.mem_cons.1 hp with rfl | hp; exact Or.inr (Nat.le_refl _); exact Or.inl (List.mem_map.2 ⟨p, hp, rfl⟩)) (fun _ => low_push _ _) (h4.push _ (show unfrozen (.map #[] 0) from trivial)).dom⟩ hN _)⟩

theorem run_getObj {w : World} {r : Nat} {es : Array MapEntry} {clock : Nat} (h : w.heap[r]? = some (.map es clock)) : (getObj r).run P w = .ok (.map es clock) w := by
  simp [getObj, Sem.run, h]

/-- A value is looked up. -/
theorem L.lookup2 {t k e : TypeId} {b clock : Nat} {es : Array MapEntry} {M : List ((Int × Int) × Int)} {a : Int × Int} (ho : all[ix]? = some ⟨some d, .lookup t x y true, ty, pos, aft, g⟩) (ht : P.underlying t = some (.map k e)) (hk : K2 P k) (hz : TZ P e (.int .i64 0))
    (hx : ev σ x = some (.map (some b))) (hy : ev σ y = some (k2V a)) (hm : (b, Obj.map es clock) ∈ μ) (hb : b ∉ bad) (hM : MapIs es M) (hN : Nat.blt d X.N = true) (hg : Gok all σ g)
    (kk : ∀ n ok, (ok = true → (a, n) ∈ M) → WL P X bad all K Q os ((d, .tuple #[.int .i64 n, .bool ok]) :: σ) μ Ds) : WL P X bad all K Q ((fl, ix) :: os) σ μ Ds := by
  have run : ∀ w, w.heap[b]? = some (Obj.map es clock) → (Instr.lookup t (.map (some b)) (k2V a) true).run P w = .ok (.tuple #[.int .i64 (match posK a M 0 with | some (_, v) => v | none => 0), .bool (posK a M 0).isSome]) w := by
    intro w hw
    have hf := run_findKey_k2 hk a w hM
    unfold Instr.lookup
    simp only [Sem.run_bind, TU.of ht w, Result.andThen_ok, run_getObj hw, Sem.run_pure, run_checkKey_k2 hk]
    rw [hf]
    cases posK a M 0 with
    | none => simp only [Option.map_none, Result.andThen_ok, Sem.run_bind, hz w, Sem.run_pure]; rfl
    | some r => obtain ⟨j, v⟩ := r; simp only [Option.map_some, Result.andThen_ok]; rfl
  refine L.quiet ho rfl rfl hN hg (fun a' w hh w' hk' => ?_) (kk (match posK a M 0 with | some (_, v) => v | none => 0) (posK a M 0).isSome fun hok => ?_)
  · simp only [execOp, hh.eval hx, hh.eval hy, Sem.run_bind, run w' (hh.boxAt hm hb hk'), Result.andThen_ok, Sem.run_pure]
  · cases hp : posK a M 0 with
    | none => rw [hp] at hok; cases hok
    | some r =>
      obtain ⟨j, n⟩ := r
      obtain ⟨i, _, hi⟩ := posK_some hp
      exact List.mem_of_getElem? hi

/-- A value is set. -/
theorem L.update2 {t k e : TypeId} {b clock : Nat} {es : Array MapEntry} {M : List ((Int × Int) × Int)} {a : Int × Int} {n : Int} {A B : Boxes} (ho : all[ix]? = some ⟨none, .mapUpdate t x y z, ty, pos, aft, g⟩) (ht : P.underlying t = some (.map k e)) (hk : K2 P k)
    (hx : ev σ x = some (.map (some b))) (hy : ev σ y = some (k2V a)) (hz : ev σ z = some (.int .i64 n)) (hM : MapIs es M) (hg : Gok all σ g)
    (kk : ∀ es' clock' M', MapIs es' M' → (∀ p ∈ M', p ∈ M ∨ p = (a, n)) → WL P X bad all K Q os σ (A ++ (b, .map es' clock') :: B) Ds) : WL P X bad all K Q ((false, ix) :: os) σ (A ++ (b, .map es clock) :: B) Ds := by
  refine L.loud ho rfl rfl hg fun a' w hh => ?_
  obtain ⟨h1, h2, h3, D, h4, h5, h6⟩ := id hh
  have hw := (h4.box (b, .map es clock) (by simp)).1
  have run : ∃ es' clock' M', MapIs es' M' ∧ (∀ p ∈ M', p ∈ M ∨ p = (a, n)) ∧ (Instr.mapUpdate t (.map (some b)) (k2V a) (.int .i64 n)).run P w = .ok () { w with heap := w.heap.setIfInBounds b (.map es' clock') } := by
    have hf := run_findKey_k2 hk a w hM
    have hset : ∀ o, (setObj b o).run P w = .ok () { w with heap := w.heap.setIfInBounds b o } := fun o => by simp [setObj, Sem.run, hw]
    cases hp : posK a M 0 with
    | none =>
      refine ⟨es.push { key := k2V a, val := .int .i64 n, born := clock }, clock + 1, M ++ [(a, n)], ?_, fun p hp => by simpa using hp, ?_⟩
      · unfold MapIs at hM ⊢
        rw [Array.toList_push, List.map_append, List.map_append, hM]; rfl
      · unfold Instr.mapUpdate
        simp only [Sem.run_bind, TU.of ht w, Result.andThen_ok, run_getObj hw, run_checkKey_k2 hk]
        rw [hf, hp]
        simp only [Option.map_none, Result.andThen_ok, hset]
    | some r =>
      obtain ⟨j, m⟩ := r
      obtain ⟨i, hi0, hi⟩ := posK_some hp
      rw [Nat.zero_add] at hi0; subst hi0
      have hMi : ∀ i, (es.toList[i]?).map (fun e : MapEntry => (e.key, e.val)) = (M[i]?).map (fun x : (Int × Int) × Int => (k2V x.1, Value.int .i64 x.2)) := fun i => by rw [← List.getElem?_map, ← List.getElem?_map, hM]
      have hj := hMi j
      rw [hi] at hj
      obtain ⟨e0, he0, hke⟩ := Option.map_eq_some_iff.1 hj
      simp only [Prod.mk.injEq] at hke
      have he0' : es[j]? = some e0 := by simpa using he0
      refine ⟨es.modify j fun e => { e with key := k2V a, val := .int .i64 n }, clock, M.set j (a, n), ?_, fun p hp => (List.mem_or_eq_of_mem_set hp), ?_⟩
      · unfold MapIs
        apply List.ext_getElem?
        intro q
        rw [List.getElem?_map, List.getElem?_map, Array.getElem?_toList, Array.getElem?_modify, List.getElem?_set]
        have hq := hMi q
        rw [Array.getElem?_toList] at hq
        by_cases hjq : j = q
        · subst hjq
          have hlt := (List.getElem?_eq_some_iff.1 hi).1
          simp [he0', hlt]
        · simp only [hjq, if_false]; exact hq
      · have hks : (Instr.keyThatStays (k2V a) (k2V a)).run P w = .ok (k2V a) w := by
          have : Instr.sameBits 10000 (k2V a) (k2V a) = true := by
            show Instr.sameBits (9999 + 1) (.agg #[.int .i64 a.1, .int .i64 a.2]) (.agg #[.int .i64 a.1, .int .i64 a.2]) = true
            simp [Instr.sameBits]
          unfold Instr.keyThatStays
          rw [if_pos this, Sem.run_pure]
        unfold Instr.mapUpdate
        simp only [Sem.run_bind, TU.of ht w, Result.andThen_ok, run_getObj hw, run_checkKey_k2 hk]
        rw [hf, hp]
        simp only [Option.map_some, Result.andThen_ok, he0', Option.getD_some, hke.1, Sem.run_bind, hks, hset]
  obtain ⟨es', clock', M', hM', hmem, hr⟩ := run
  have hHas : Has (A ++ (b, Obj.map es clock) :: B) b (.map es clock) (.map es' clock') (A ++ (b, .map es' clock') :: B) := .app .head
  have hs := h4.set (w' := { w with heap := w.heap.setIfInBounds b (.map es' clock') }) hHas ⟨rfl, rfl⟩ trivial
  have : (execOp a'.eval ⟨none, .mapUpdate t x y z, ty, pos, aft, g⟩).run P w = .ok .skip { w with heap := w.heap.setIfInBounds b (.map es' clock') } := by
    simp only [execOp, hh.eval hx, hh.eval hy, hh.eval hz, Sem.run_bind, hr, Result.andThen_ok, Sem.run_pure]
  rw [this]
  exact ⟨fun h => by simp at h, kk es' clock' M' hM' hmem _ _ ⟨h1, h2, h3, D, hs, h5, h6.step (fun _ p hp => Or.inl (by rw [← hHas.keys]; exact List.mem_map.2 ⟨p, hp, rfl⟩)) (fun _ => low_set ⟨rfl, rfl⟩ (List.mem_map.2 ⟨_, hHas.mem, rfl⟩)) hs.dom⟩⟩

/-! ### Bits -/
theorem L.shl {t t' : TypeId} {m n : Int} {k : IntKind} (ho : all[ix]? = some ⟨some d, .binOp .shl t x y t', ty, pos, aft, g⟩) (hx : ev σ x = some (.int .i64 m)) (hy : ev σ y = some (.int k n)) (h0 : 0 ≤ n) (h1 : n < 64) (hr : inK .i64 (m * 2 ^ n.toNat)) (hN : Nat.blt d X.N = true) (hg : Gok all σ g)
    (kk : WL P X bad all K Q os ((d, .int .i64 (m * 2 ^ n.toNat)) :: σ) μ Ds) : WL P X bad all K Q ((fl, ix) :: os) σ μ Ds :=
  L.pure ho rfl rfl hN hg (fun ρ hρ w' => by
    have hn : min n.toNat IntKind.i64.bits = n.toNat := by have : IntKind.i64.bits = 64 := rfl; omega
    have h0' : ¬ n < 0 := by omega
    have hs : (binOp .shl t (.int .i64 m) (.int k n)).run P w' = .ok (.int .i64 (m * 2 ^ n.toNat)) w' := by
      show (Op.shift .shl .i64 m k n).run P w' = _
      unfold Op.shift
      rw [if_neg h0']
      simp only [hn, wrap_in hr, Sem.run_pure]
    have hg : ∀ w, (eqGuard .shl t x y (.int .i64 m) (.int k n)).run P w = .ok () w := fun w => rfl
    simp only [execOp, hρ x _ hx, hρ y _ hy, Sem.run_bind, hg, Result.andThen_ok, hs, Sem.run_pure]) kk

theorem L.orN {t t' : TypeId} {a b : Nat} (ho : all[ix]? = some ⟨some d, .binOp .or t x y t', ty, pos, aft, g⟩) (hx : ev σ x = some (.int .i64 (a : Int))) (hy : ev σ y = some (.int .i64 (b : Int))) (ha : a < 2 ^ 62) (hb : b < 2 ^ 62) (hN : Nat.blt d X.N = true) (hg : Gok all σ g)
    (kk : WL P X bad all K Q os ((d, .int .i64 ((a ||| b : Nat) : Int)) :: σ) μ Ds) : WL P X bad all K Q ((fl, ix) :: os) σ μ Ds :=
  L.pure ho rfl rfl hN hg (fun ρ hρ w' => run_bin (by simp) (by
    have hab : a ||| b < 2 ^ 62 := Nat.or_lt_two_pow ha hb
    have hr : inK .i64 ((a ||| b : Nat) : Int) := by simp only [inK]; omega
    show (Op.intBits .or .i64 a b).run P w' = _
    unfold Op.intBits
    have e : ((BitVec.ofInt IntKind.i64.bits a ||| BitVec.ofInt IntKind.i64.bits b).toNat : Int) = ((a ||| b : Nat) : Int) := by
      show ((BitVec.ofInt 64 a ||| BitVec.ofInt 64 b).toNat : Int) = _
      rw [BitVec.ofInt_natCast, BitVec.ofInt_natCast, BitVec.toNat_or, BitVec.toNat_ofNat, BitVec.toNat_ofNat, Nat.mod_eq_of_lt (by omega), Nat.mod_eq_of_lt (by omega)]
    simp only [e, wrap_in hr, Sem.run_pure]) (hρ x _ hx) (hρ y _ hy)) kk

/-! ### Calls that change one of the caller's blocks -/
/-- What a call comes to that may change one block besides the new ones. -/
def FnB (P : Program) (f : FuncId) (args : List Value) (D : Data) (b : Nat) (o : Obj) (post : Data → Value → Obj → Prop) : Prop :=
  EF P f ∧ ∀ w, Agrees D w → w.heap[b]? = some o → D b = [] → unfrozen o → Calls P f args.toArray w fun e w' => ∃ v D' o', e = .returned v ∧ Sta (hd w) w.heap.size D [b] [(b, o')] D' w' ∧ post D' v o'

theorem Sta.afterB {h0 : H0} {lo : Nat} {D0 D D' : Data} {mods : List Nat} {A B : Boxes} {b : Nat} {o o' : Obj} {w w' : World} (h : Sta h0 lo D0 mods (A ++ (b, o) :: B) D w) (hs : Sta (hd w) w.heap.size D [b] [(b, o')] D' w') : Sta h0 lo D0 mods (A ++ (b, o') :: B) D' w' := by
  have hle := Nat.le_trans h.hlo h.size
  have hb := h.box (b, o) (by simp)
  have hlt := lt_of_some hb.1
  have hHas : Has (A ++ (b, o) :: B) b o o' (A ++ (b, o') :: B) := .app .head
  refine ⟨h.hlo, Nat.le_trans h.size hs.size, fun c hc hm => ?_, fun c hc => ?_, hs.agr, fun p hp => ?_, by rw [hHas.keys]; exact h.nd, fun c q hc hq => ?_, fun e he => (hs.env _ rfl).trans (h.env e he)⟩
  · have hne : c ≠ b := by
      rintro rfl
      rcases hb.2.2 with h' | h'
      · have := h.hlo; simp at h'; omega
      · exact hm h'
    rw [hs.old c (Nat.lt_of_lt_of_le hc hle) (by simpa using hne)]; exact h.old c hc hm
  · rw [hs.dold c (Nat.lt_of_lt_of_le hc hle)]; exact h.dold c hc
  · by_cases he : p.1 = b
    · obtain rfl := hHas.apart h.nd p hp he
      obtain ⟨q1, q2, _⟩ := hs.box (b, o') List.mem_cons_self
      exact ⟨q1, q2, hb.2.2⟩
    · rcases hHas.other p hp with rfl | hp'
      · exact absurd rfl he
      · obtain ⟨h1, h2, h3⟩ := h.box p hp'
        have hl := lt_of_some h1
        exact ⟨by rw [hs.old _ hl (by simpa using he)]; exact h1, by rw [hs.dold _ hl]; exact h2, h3⟩
  · rcases Nat.lt_or_ge c w.heap.size with hl | hl
    · by_cases he : c = b
      · subst he; exact hs.fz c q (Or.inr List.mem_cons_self) hq
      · rw [hs.old c hl (by simpa using he)] at hq; exact h.fz c q hc hq
    · exact hs.fz c q (Or.inl hl) hq

theorem L.callB {c : Operand} {xs : Array Operand} {ats : Array TypeId} {f : FuncId} {c1 c2 : List Value} {vs : List Value} {A B : Boxes} {b : Nat} {o : Obj} {post : Data → Value → Obj → Prop} (ho : all[ix]? = some ⟨some d, .call { callee := .value c, args := xs, argTypes := ats }, ty, pos, aft, g⟩) (hc : ev σ c = some (.func (.func f) c1.toArray c2.toArray)) (hxs : evs σ xs.toList = some vs)
    (hex : X.ex = none) (hfl : fl = false ∨ b ∈ bad) (hu : unfrozen o) (hf : ∀ D, (∀ D₁ ∈ Ds, Le D₁ D) → FnB P f (c1 ++ vs ++ c2) D b o post) (hN : Nat.blt d X.N = true) (hg : Gok all σ g)
    (kk : ∀ v D o', (∀ D₁ ∈ Ds, Le D₁ D) → post D v o' → WL P X bad all K Q os ((d, v) :: σ) (A ++ (b, o') :: B) (D :: Ds)) :
    WL P X bad all K Q ((fl, ix) :: os) σ (A ++ (b, o) :: B) Ds := by
  refine L.loud ho rfl rfl hg fun a w hh => ?_
  obtain ⟨h1, h2, h3, D, h4, h5, h6⟩ := id hh
  have hF := hf D h5
  have hbx := h4.box (b, o) (by simp)
  rw [run_call hF.1 (hh.eval hc) (evs_eval (fun _ _ hx => hh.eval hx) hxs)]
  refine ⟨fun h => by simp [FW] at h, callsIn_FW.2 ((hF.2 w h4.agr hbx.1 hbx.2.1 hu).mono ?_)⟩
  rintro e w' ⟨v, D', o', rfl, hs, hpost⟩
  have hle := le_of_call h4.agr hs
  refine ⟨fun hflt => ⟨hs.size, fun c hc hcb => hs.old c hc (fun hm => ?_)⟩, kk v D' o' (fun D₁ hD₁ => (h5 D₁ hD₁).trans hle) hpost _ _ ?_⟩
  · obtain rfl := List.mem_singleton.1 hm
    rcases hfl with h | h
    · rw [hflt] at h; cases h
    · exact hcb h
  · refine Hl.put ⟨h1, h2, h3, D', h4.afterB hs, fun D₁ hD₁ => ?_, by unfold exOk; rw [hex]; trivial⟩ hN v
    rcases List.mem_cons.1 hD₁ with rfl | hD₁
    · exact Le.refl _
    · exact (h5 D₁ hD₁).trans hle

/-- Entering such a function. -/
def PostB (X : Cx) (b : Nat) (post : Data → Value → Obj → Prop) : Ending → World → Prop := fun e w' => ∃ v D' o', e = .returned v ∧ Sta X.h0 X.lo X.D0 X.mods [(b, o')] D' w' ∧ post D' v o'
theorem np_bodyB {fn : Func} {b : Nat} {post : Data → Value → Obj → Prop} : NP (bodyPost P fn (PostB X b post)) := by
  rintro c a w ⟨_, v, D', μ', h, _⟩
  cases h
def XB (N : Nat) (h0 : H0) (D : Data) (b : Nat) : Cx := ⟨none, N, [], h0, h0.size, D, [b], none⟩
theorem enterB {f : FuncId} {fn : Func} {c : Code} {args : List Value} {D : Data} {b : Nat} {o : Obj} {post : Data → Value → Obj → Prop} (N : Nat) (hf : P.funcs[f]? = some fn) (hn : (fn.name == "runtime.NumGoroutine") = false) (hb : fn.body = some c) (hN : fn.ntmps = N) (hsz : Nat.ble args.length N = true)
    (h : ∀ h0 : H0, b < h0.size → WC P (XB N h0 D b) (bodyPost P fn (PostB (XB N h0 D b) b post)) c (slotsOf 0 args) [(b, o)] [D]) : FnB P f args D b o post := by
  refine ⟨EF.of hf hn hb, fun w hw hwb hDb hu => ?_⟩
  subst hN
  have hsz := Nat.le_of_ble_eq_true hsz
  refine (callsIn_FW (r := none) (n := 0)).1 ((callsIn_of_wp (R := PostB (XB fn.ntmps (hd w) D b) b post) hf hb trivial (h (hd w) (lt_of_some hwb) _ w ⟨?_, fun s v hs => ?_, rfl, D, ⟨Nat.le_refl _, Nat.le_refl _, fun _ _ _ => rfl, fun _ _ => rfl, hw, (fun p hp => ?_), by simp, fun c q hc hq => ?_, fun e he => Option.some.inj he⟩, fun D₁ h1 => ?_, trivial⟩) rfl).mono ?_)
  · simp [XB]; omega
  · obtain ⟨_, h2⟩ := look_slotsOf args 0 s v hs
    have hl := (List.getElem?_eq_some_iff.1 h2).1
    simp only [Nat.sub_zero] at h2 hl
    show (args.toArray ++ _)[s]? = some v
    rw [Array.getElem?_append_left (by simpa using hl)]
    simpa using h2
  · obtain rfl := List.mem_singleton.1 hp
    exact ⟨hwb, hDb, Or.inr List.mem_cons_self⟩
  · rcases hc with hc | hc
    · exact absurd (lt_of_some hq) (Nat.not_lt_of_le hc)
    · obtain rfl := List.mem_singleton.1 hc
      rw [hwb] at hq; cases hq; exact hu
  · simp only [List.mem_singleton] at h1; subst h1; exact Le.refl _
  · rintro e w' ⟨v, D', o', rfl, hs, hp⟩
    exact ⟨v, D', o', rfl, hs, hp⟩

theorem leaveB {fn : Func} {b : Nat} {o' : Obj} {post : Data → Value → Obj → Prop} {e : Exit} (he : (match e with | .normal => true | .ret => true | _ => false) = true) {rs : List ResultVar} {vs : List Value} (hds : X.ds = []) (hr : fn.results = rs.toArray) (h : ResV P X σ μ rs vs)
    (hm : (b, o') ∈ μ) (hp : ∀ D, (∀ D₁ ∈ Ds, Le D₁ D) → post D (resOf vs) o') : ∀ a w, Hl X σ μ Ds a w → bodyPost P fn (PostB X b post) e a w := by
  intro a w hh
  have hrun := run_results hh hr h
  obtain ⟨h1, h2, h3, D, h4, h5, h6⟩ := hh
  have : a.defers = [] ∧ ∃ v, (results fn a.tmps).run P w = .ok v w ∧ PostB X b post (.returned v) w := ⟨h3.trans hds, _, hrun, _, D, o', rfl, h4.sub (fun p hp => by rw [List.mem_singleton.1 hp]; exact hm) (by simp), hp D h5⟩
  cases e <;> first | exact this | cases he

theorem L.shl1 {t t' : TypeId} {n : Nat} (ho : all[ix]? = some ⟨some d, .binOp .shl t x y t', ty, pos, aft, g⟩) (hx : ev σ x = some (.int .i64 1)) (hy : ev σ y = some (.int .i64 (n : Int))) (h1 : n < 62) (hN : Nat.blt d X.N = true) (hg : Gok all σ g)
    (kk : WL P X bad all K Q os ((d, .int .i64 ((2 ^ n : Nat) : Int)) :: σ) μ Ds) : WL P X bad all K Q ((fl, ix) :: os) σ μ Ds := by
  have h2 : (2 : Nat) ^ n < 2 ^ 62 := Nat.pow_lt_pow_right (by omega) h1
  have e : (1 : Int) * 2 ^ (n : Int).toNat = ((2 ^ n : Nat) : Int) := by simp
  have hr : inK .i64 ((1 : Int) * 2 ^ (n : Int).toNat) := by
    rw [e]; generalize (2 : Nat) ^ n = q at h2; simp only [inK]; omega
  refine L.shl ho hx hy (by omega) (by omega) hr hN hg ?_
  rw [e]; exact kk

end Go.Fs
