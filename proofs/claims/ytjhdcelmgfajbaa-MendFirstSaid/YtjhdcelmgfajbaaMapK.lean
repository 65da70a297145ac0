/- Maps from keys of any struct to a number; structs of a number and an array of numbers as keys. -/
import Derived.Test.YtjhdcelmgfajbaaKeys
namespace Go.Fs

variable {P : Program} {X : Cx} {γb : Type} [Membership Nat γb] {bad : γb} {all : Array Oper} {K : Act → World → Prop} {Q : Exit → Act → World → Prop}
variable {σ : Slots} {μ : Boxes} {Ds : List Data} {os : List (Bool × Nat)} {fl : Bool} {ix : Nat}
variable {d : Nat} {x y z : Operand} {u v : Value} {ty : TypeId} {pos : String} {aft : Array Edge} {g : Option (Nat × Bool)}

/-- A key type, and how its keys are written. -/
structure KeyT (P : Program) (k : TypeId) {α : Type} [DecidableEq α] (val : α → Value) : Prop where
  und : ∃ fs, P.underlying k = some (.struct fs)
  eq : ∀ a b w, (Op.equal k (val a) (val b)).run P w = .ok (decide (a = b)) w
  chk : ∀ em a w, (Instr.checkKey em 10000 k (val a)).run P w = .ok () w
  stay : ∀ a, Instr.sameBits 10000 (val a) (val a) = true
  agg : ∀ a, ∃ cs, val a = .agg cs

variable {α : Type} [DecidableEq α] {val : α → Value}
def MapG (val : α → Value) (es : Array MapEntry) (M : List (α × Int)) : Prop := es.toList.map (fun e => (e.key, e.val)) = M.map fun x => (val x.1, Value.int .i64 x.2)
def posG (a : α) : List (α × Int) → Nat → Option (Nat × Int)
  | [], _ => none
  | (b, n) :: M, i => if a = b then some (i, n) else posG a M (i + 1)
theorem posG_some {a : α} : ∀ {M : List (α × Int)} {i j : Nat} {n : Int}, posG a M i = some (j, n) → ∃ k, j = i + k ∧ M[k]? = some (a, n)
  | (b, m) :: M, i, j, n, h => by
    simp only [posG] at h
    split at h
    · rename_i he; cases h; exact ⟨0, rfl, by rw [he]; rfl⟩
    · obtain ⟨k, rfl, hk⟩ := posG_some h
      exact ⟨k + 1, by omega, by simpa using hk⟩
theorem run_findAsking_G {k : TypeId} (h : KeyT P k val) (a : α) (w : World) : ∀ (es : List MapEntry) (M : List (α × Int)) (i : Nat), es.map (fun e => (e.key, e.val)) = M.map (fun x => (val x.1, Value.int .i64 x.2)) →
    (Instr.findAsking k (val a) es i).run P w = .ok ((posG a M i).map fun p => (p.1, Value.int .i64 p.2)) w
  | [], [], i, _ => rfl
  | [], _ :: _, i, hm => by simp at hm
  | e :: es, [], i, hm => by simp at hm
  | e :: es, (b, n) :: M, i, hm => by
    simp only [List.map_cons, List.cons.injEq, Prod.mk.injEq] at hm
    obtain ⟨⟨hk, hv⟩, hm⟩ := hm
    simp only [Instr.findAsking, Sem.run_bind, hk, h.eq, Result.andThen_ok, posG]
    by_cases he : a = b
    · subst he
      simp only [decide_true, if_true, Sem.run_pure, hv]; rfl
    · simp only [he, decide_false, Bool.false_eq_true, if_false]
      exact run_findAsking_G h a w es M (i + 1) hm
theorem run_findKey_G {k : TypeId} (h : KeyT P k val) (a : α) (w : World) {es : List MapEntry} {M : List (α × Int)} (hm : es.map (fun e => (e.key, e.val)) = M.map (fun x => (val x.1, Value.int .i64 x.2))) :
    (Instr.findKey k (val a) es).run P w = .ok ((posG a M 0).map fun p => (p.1, Value.int .i64 p.2)) w := by
  obtain ⟨fs, hu⟩ := h.und
  unfold Instr.findKey
  rw [Sem.run_bind, TU.of hu w]
  cases es with
  | nil =>
    cases M with
    | nil => rfl
    | cons x M => simp at hm
  | cons e es =>
    have hn : Instr.findNow (.struct fs) (val a) (e :: es) 0 = none := by
      obtain ⟨cs, hc⟩ := h.agg a
      rw [hc]; rfl
    simp only [Result.andThen_ok, hn]
    exact run_findAsking_G h a w (e :: es) M 0 hm

/-- A value is looked up. -/
theorem L.lookupG {t k e : TypeId} {b clock : Nat} {es : Array MapEntry} {M : List (α × Int)} {a : α} (ho : all[ix]? = some ⟨some d, .lookup t x y true, ty, pos, aft, g⟩) (ht : P.underlying t = some (.map k e)) (hk : KeyT P k val) (hz : TZ P e (.int .i64 0))
    (hx : ev σ x = some (.map (some b))) (hy : ev σ y = some (val a)) (hm : (b, Obj.map es clock) ∈ μ) (hb : b ∉ bad) (hM : MapG val es M) (hN : Nat.blt d X.N = true) (hg : Gok all σ g)
    (kk : ∀ n ok, (ok = true → (a, n) ∈ M) → WL P X bad all K Q os ((d, .tuple #[.int .i64 n, .bool ok]) :: σ) μ Ds) : WL P X bad all K Q ((fl, ix) :: os) σ μ Ds := by
  have run : ∀ w, w.heap[b]? = some (Obj.map es clock) → (Instr.lookup t (.map (some b)) (val a) true).run P w = .ok (.tuple #[.int .i64 (match posG a M 0 with | some (_, v) => v | none => 0), .bool (posG a M 0).isSome]) w := by
    intro w hw
    have hf := run_findKey_G hk a w hM
    unfold Instr.lookup
    simp only [Sem.run_bind, TU.of ht w, Result.andThen_ok, run_getObj hw, Sem.run_pure, hk.chk]
    rw [hf]
    cases posG a M 0 with
    | none => simp only [Option.map_none, Result.andThen_ok, Sem.run_bind, hz w, Sem.run_pure]; rfl
    | some r => obtain ⟨j, v⟩ := r; simp only [Option.map_some, Result.andThen_ok]; rfl
  refine L.quiet ho rfl rfl hN hg (fun a' w hh w' hk' => ?_) (kk (match posG a M 0 with | some (_, v) => v | none => 0) (posG a M 0).isSome fun hok => ?_)
  · simp only [execOp, hh.eval hx, hh.eval hy, Sem.run_bind, run w' (hh.boxAt hm hb hk'), Result.andThen_ok, Sem.run_pure]
  · cases hp : posG a M 0 with
    | none => rw [hp] at hok; cases hok
    | some r =>
      obtain ⟨j, n⟩ := r
      obtain ⟨i, _, hi⟩ := posG_some hp
      exact List.mem_of_getElem? hi

/-- A value is set. -/
theorem L.updateG {t k e : TypeId} {b clock : Nat} {es : Array MapEntry} {M : List (α × Int)} {a : α} {n : Int} {A B : Boxes} (ho : all[ix]? = some ⟨none, .mapUpdate t x y z, ty, pos, aft, g⟩) (ht : P.underlying t = some (.map k e)) (hk : KeyT P k val)
    (hx : ev σ x = some (.map (some b))) (hy : ev σ y = some (val a)) (hz : ev σ z = some (.int .i64 n)) (hM : MapG val es M) (hg : Gok all σ g)
    (kk : ∀ es' clock' M', MapG val es' M' → (∀ p ∈ M', p ∈ M ∨ p = (a, n)) → WL P X bad all K Q os σ (A ++ (b, .map es' clock') :: B) Ds) : WL P X bad all K Q ((false, ix) :: os) σ (A ++ (b, .map es clock) :: B) Ds := by
  refine L.loud ho rfl rfl hg fun a' w hh => ?_
  obtain ⟨h1, h2, h3, D, h4, h5, h6⟩ := id hh
  have hw := (h4.box (b, .map es clock) (by simp)).1
  have run : ∃ es' clock' M', MapG val es' M' ∧ (∀ p ∈ M', p ∈ M ∨ p = (a, n)) ∧ (Instr.mapUpdate t (.map (some b)) (val a) (.int .i64 n)).run P w = .ok () { w with heap := w.heap.setIfInBounds b (.map es' clock') } := by
    have hf := run_findKey_G hk a w hM
    have hset : ∀ o, (setObj b o).run P w = .ok () { w with heap := w.heap.setIfInBounds b o } := fun o => by simp [setObj, Sem.run, hw]
    cases hp : posG a M 0 with
    | none =>
      refine ⟨es.push { key := val a, val := .int .i64 n, born := clock }, clock + 1, M ++ [(a, n)], ?_, fun p hp => by simpa using hp, ?_⟩
      · unfold MapG at hM ⊢
        rw [Array.toList_push, List.map_append, List.map_append, hM]; rfl
      · unfold Instr.mapUpdate
        simp only [Sem.run_bind, TU.of ht w, Result.andThen_ok, run_getObj hw, hk.chk]
        rw [hf, hp]
        simp only [Option.map_none, Result.andThen_ok, hset]
    | some r =>
      obtain ⟨j, m⟩ := r
      obtain ⟨i, hi0, hi⟩ := posG_some hp
      rw [Nat.zero_add] at hi0; subst hi0
      have hMi : ∀ i, (es.toList[i]?).map (fun e : MapEntry => (e.key, e.val)) = (M[i]?).map (fun x : α × Int => (val x.1, Value.int .i64 x.2)) := fun i => by rw [← List.getElem?_map, ← List.getElem?_map, hM]
      have hj := hMi j
      rw [hi] at hj
      obtain ⟨e0, he0, hke⟩ := Option.map_eq_some_iff.1 hj
      simp only [Prod.mk.injEq] at hke
      have he0' : es[j]? = some e0 := by simpa using he0
      refine ⟨es.modify j fun e => { e with key := val a, val := .int .i64 n }, clock, M.set j (a, n), ?_, fun p hp => (List.mem_or_eq_of_mem_set hp), ?_⟩
      · unfold MapG
        apply List.ext_getElem?
        intro q
        rw [List.getElem?_map, List.getElem?_map, Array.getElem?_toList, Array.getElem?_modify, List.getElem?_set]
        have hq := hMi q
        rw [Array.getElem?_toList] at hq
        by_cases hjq : j = q
        · subst hjq
          have hlt := (List.getElem?_eq_some_iff.1 hi).1
          simp [he0', hlt]
        · simp only [hjq, if_false]; exact hq
      · have hks : (Instr.keyThatStays (val a) (val a)).run P w = .ok (val a) w := by
          have : Instr.sameBits 10000 (val a) (val a) = true := hk.stay a
          unfold Instr.keyThatStays
          rw [if_pos this, Sem.run_pure]
        unfold Instr.mapUpdate
        simp only [Sem.run_bind, TU.of ht w, Result.andThen_ok, run_getObj hw, hk.chk]
        rw [hf, hp]
        simp only [Option.map_some, Result.andThen_ok, he0', Option.getD_some, hke.1, Sem.run_bind, hks, hset]
  obtain ⟨es', clock', M', hM', hmem, hr⟩ := run
  have hHas : Has (A ++ (b, Obj.map es clock) :: B) b (.map es clock) (.map es' clock') (A ++ (b, .map es' clock') :: B) := .app .head
  have hs := h4.set (w' := { w with heap := w.heap.setIfInBounds b (.map es' clock') }) hHas ⟨rfl, rfl⟩ trivial
  have : (execOp a'.eval ⟨none, .mapUpdate t x y z, ty, pos, aft, g⟩).run P w = .ok .skip { w with heap := w.heap.setIfInBounds b (.map es' clock') } := by
    simp only [execOp, hh.eval hx, hh.eval hy, hh.eval hz, Sem.run_bind, hr, Result.andThen_ok, Sem.run_pure]
  rw [this]
  exact ⟨fun h => by simp at h, kk es' clock' M' hM' hmem _ _ ⟨h1, h2, h3, D, hs, h5, h6.step (fun _ p hp => Or.inl (by rw [← hHas.keys]; exact List.mem_map.2 ⟨p, hp, rfl⟩)) (fun _ => low_set ⟨rfl, rfl⟩ (List.mem_map.2 ⟨_, hHas.mem, rfl⟩)) hs.dom⟩⟩


/-! ### A number and an array of numbers -/
structure Ints (n : Nat) where
  l : List Int
  h : l.length = n
deriving DecidableEq
def kaV {n : Nat} (a : Ints n) : Value := .agg (ints a.l).toArray
/-- The key's type: a number, then an array of n numbers. -/
def KA (P : Program) (k : TypeId) (n : Nat) : Prop := ∃ f0 f1 e, P.underlying k = some (.struct (P.fieldsOf k)) ∧ P.stoodInHeld k = false ∧ P.fieldsOf k = #[f0, f1] ∧ f0.name ≠ "_" ∧ f1.name ≠ "_" ∧ f0.offset = 0 ∧ f1.offset = 1 ∧
  P.underlying f0.type = some (.int .i64) ∧ P.underlying f1.type = some (.array n e) ∧ P.underlying e = some (.int .i64) ∧ P.cellsOf e = 1 ∧ TA P f1.type true ∧ TS P f1.type n ∧ TS P e 1

theorem part_arr {t : TypeId} {n : Nat} (ha : TA P t true) (hs : TS P t n) {l : List Int} (hl : l.length = n + 1) (w : World) : (part t (ints l).toArray 1).run P w = .ok (.agg (ints (l.drop 1)).toArray) w := by
  unfold part
  simp only [Sem.run_bind, ha w, Result.andThen_ok, if_true, hs w, Sem.run_pure]
  congr 2
  apply Array.ext'
  simp only [Array.toList_extract, List.extract_eq_take_drop, ints, List.map_drop]
  rw [List.take_of_length_le (by simp; omega)]

theorem KA.key {k : TypeId} {n : Nat} (h : KA P k n) : KeyT P k (kaV (n := n + 1)) := by
  obtain ⟨f0, f1, e, hu, hst, hf, n0, n1, o0, o1, t0, t1, te, hc, ha, hs, hse⟩ := h
  have hsplit : ∀ a : Ints (n + 1), ∃ x r, a.l = x :: r ∧ r.length = n := by
    rintro ⟨l, hl⟩
    cases l with
    | nil => simp at hl
    | cons x r => exact ⟨x, r, rfl, by simpa using hl⟩
  have p0 : ∀ (x : Int) (r : List Int) (w : World), (part f0.type (ints (x :: r)).toArray f0.offset).run P w = .ok (.int .i64 x) w := fun x r w => run_part_int t0 (by rw [o0]; rfl) w
  have p1 : ∀ (x : Int) (r : List Int) (w : World), r.length = n → (part f1.type (ints (x :: r)).toArray f1.offset).run P w = .ok (.agg (ints r).toArray) w := fun x r w hr => by
    rw [o1]; exact part_arr ha hs (l := x :: r) (by simp [hr]) w
  refine ⟨⟨_, hu⟩, fun a b w => ?_, fun em a w => ?_, fun a => ?_, fun a => ⟨_, rfl⟩⟩
  · obtain ⟨x, r, ea, hr⟩ := hsplit a
    obtain ⟨x', r', eb, hr'⟩ := hsplit b
    have he := run_equalIn_struct (P := P) w 9999 k (ints (x :: r)).toArray (ints (x' :: r')).toArray hu hst
    have hab : decide (a = b) = ((x == x') && (r == r')) := by
      rw [Bool.eq_iff_iff]
      simp only [decide_eq_true_eq, Bool.and_eq_true, beq_iff_eq]
      constructor
      · rintro rfl
        rw [ea] at eb
        exact List.cons.inj eb
      · rintro ⟨h1, h2⟩
        obtain ⟨la, ha'⟩ := a
        obtain ⟨lb, hb'⟩ := b
        simp only at ea eb
        subst ea eb h1 h2
        rfl
    show (Op.equalIn (9999 + 1) k (.agg (ints a.l).toArray) (.agg (ints b.l).toArray)).run P w = _
    rw [ea, eb, he, hf, hab]
    have e0 := run_equalIn_int w 9998 f0.type .i64 .i64 x x' t0
    obtain ⟨inf, hinf⟩ := info_of_underlying te
    have e1 := run_equalIn_array (P := P) w 9998 (ints r).toArray (ints r').toArray t1 hinf
    rw [hc, run_eqItems_ints 9997 te r r' w (List.range n) (fun j hj => by have := List.mem_range.1 hj; omega), all_range_eq hr hr'] at e1
    have s1 : (Op.eqFields 9999 (ints (x :: r)).toArray (ints (x' :: r')).toArray [f1]).run P w = .ok (r == r') w := by
      simp only [Op.eqFields, n1, ne_eq, not_false_eq_true, if_true, Sem.run_bind, p1 _ _ _ hr, p1 _ _ _ hr', Result.andThen_ok]
      rw [e1]
      simp only [Result.andThen_ok]
      cases r == r' <;> rfl
    show (Op.eqFields 9999 (ints (x :: r)).toArray (ints (x' :: r')).toArray (f0 :: [f1])).run P w = _
    rw [Op.eqFields, if_pos n0]
    simp only [Sem.run_bind, p0, Result.andThen_ok]
    rw [e0]
    simp only [Result.andThen_ok]
    cases hx : x == x' with
    | true =>
      simp only [Bool.not_true, Bool.false_eq_true, if_false, Bool.true_and]
      rw [s1]
    | false => simp only [Bool.not_false, if_true, Sem.run_pure, Bool.false_and]
  · obtain ⟨x, r, ea, hr⟩ := hsplit a
    have c0 : (Instr.checkKey em (9998 + 1) f0.type (.int .i64 x)).run P w = .ok () w := by
      rw [Instr.checkKey, Sem.run_bind, TU.of t0 w]; rfl
    have ce : ∀ m : Int, (Instr.checkKey em (9997 + 1) e (.int .i64 m)).run P w = .ok () w := fun m => by
      rw [Instr.checkKey, Sem.run_bind, TU.of te w]; rfl
    have c1 : (Instr.checkKey em (9998 + 1) f1.type (.agg (ints r).toArray)).run P w = .ok () w := by
      rw [Instr.checkKey, Sem.run_bind, TU.of t1 w]
      simp only [Result.andThen_ok]
      rw [Std.Legacy.Range.forIn_eq_forIn_range']
      have key : ∀ (is : List Nat), (∀ i ∈ is, i < n) → ((forIn is PUnit.unit fun i _ => do Instr.checkKey em 9998 e (← part e (ints r).toArray (i * (← sizeOf e))); Pure.pure (ForInStep.yield PUnit.unit) : Sem PUnit)).run P w = .ok PUnit.unit w := by
        intro is
        induction is with
        | nil => intro _; rfl
        | cons i is ih =>
          intro hi
          have hlt := hi i List.mem_cons_self
          have g1 : (ints r).toArray[i * 1]? = some (.int .i64 r[i]) := by rw [Nat.mul_one]; simpa using ints_get (List.getElem?_eq_getElem (show i < r.length by omega))
          rw [List.forIn_cons]
          simp only [Sem.run_bind, hse w, Result.andThen_ok, run_part_int te g1]
          rw [ce]
          simp only [Result.andThen_ok, Sem.run_pure]
          exact ih fun j hj => hi j (List.mem_cons_of_mem _ hj)
      have := key (List.range' 0 n) (fun i hi => by simpa using hi)
      simpa using this
    show (Instr.checkKey em (9999 + 1) k (.agg (ints a.l).toArray)).run P w = _
    rw [ea, Instr.checkKey, Sem.run_bind, TU.of hu w]
    simp only [Result.andThen_ok]
    rw [hf, ← Array.forIn_toList]
    simp only [List.forIn_cons, List.forIn_nil, n0, n1, ne_eq, not_false_eq_true, if_true, Sem.run_bind, p0, Result.andThen_ok, Sem.run_pure]
    rw [c0]
    simp only [Result.andThen_ok, Sem.run_pure, Sem.run_bind, p1 _ _ _ hr]
    rw [c1]
    simp [Sem.run_pure, Result.andThen_ok]
  · show Instr.sameBits (9999 + 1) (.agg (ints a.l).toArray) (.agg (ints a.l).toArray) = true
    simp only [Instr.sameBits, beq_self_eq_true, Bool.true_and, List.all_eq_true]
    rintro ⟨p, q⟩ hpq
    obtain ⟨i, hi⟩ := List.mem_iff_getElem?.1 hpq
    rw [List.getElem?_zip_eq_some] at hi
    obtain ⟨h1, h2⟩ := hi
    simp only at h1 h2
    rw [h1] at h2
    obtain rfl := Option.some.inj h2
    have : p ∈ ints a.l := List.mem_of_getElem? (by simpa using h1)
    obtain ⟨m, _, rfl⟩ := List.mem_map.1 this
    simp [Instr.sameBits]

end Go.Fs
