/- Of the proof of TopStand: Keys, Shell, Types, Spec, Row, Book, OpenK, W1. -/
import Derived.Test.YtjbdakpeheajgaaZTopStandC
import Derived.ChangeKeysEq
import Derived.ProofKit
import Derived.OpenShut
import Derived.WideKeyArgs
import Derived.JoinedCond
import Derived.Test.YtjbdakpeheajgaaProg
namespace Go.Fs
variable {P : Program} {X : Cx} {γb : Type} [Membership Nat γb] {bad : γb} {all : Array Oper} {K : Act → World → Prop} {Q : Exit → Act → World → Prop}
variable {σ : Slots} {μ : Boxes} {Ds : List Data} {os : List (Bool × Nat)} {fl : Bool} {ix : Nat}
variable {d : Nat} {x y z : Operand} {u v : Value} {ty : TypeId} {pos : String} {aft : Array Edge} {g : Option (Nat × Bool)}
theorem run_part_int {e : TypeId} {q : IntKind} (hu : P.underlying e = some (.int q)) {xs : Array Value} {off : Nat} {v : Value} (hx : xs[off]? = some v) (w : World) : (part e xs off).run P w = .ok v w :=
  run_part_plain w (by simp [Program.plainKey, hu]) hx
theorem run_eqItems_ints (dp : Nat) {e : TypeId} (hu : P.underlying e = some (.int .i64)) (l m : List Int) (w : World) : ∀ (is : List Nat), (∀ i ∈ is, i < l.length ∧ i < m.length) →
    (Op.eqItems (dp + 1) e 1 (ints l).toArray (ints m).toArray is).run P w = .ok (is.all fun i => l[i]? == m[i]?) w
  | [], _ => by simp [Op.eqItems, Sem.run_pure]
  | i :: is, h => by
    obtain ⟨h1, h2⟩ := h i List.mem_cons_self
    have g1 : (ints l).toArray[i * 1]? = some (.int .i64 l[i]) := by rw [Nat.mul_one]; simpa using ints_get (List.getElem?_eq_getElem h1)
    have g2 : (ints m).toArray[i * 1]? = some (.int .i64 m[i]) := by rw [Nat.mul_one]; simpa using ints_get (List.getElem?_eq_getElem h2)
    simp only [Op.eqItems, Sem.run_bind, run_part_int hu g1, run_part_int hu g2, run_equalIn_int w dp e .i64 .i64 _ _ hu, Result.andThen_ok, List.all_cons, List.getElem?_eq_getElem h1, List.getElem?_eq_getElem h2]
    by_cases he : l[i] = m[i]
    · simp [he, run_eqItems_ints dp hu l m w is (fun j hj => h j (List.mem_cons_of_mem _ hj))]
    · simp [he, Sem.run_pure]
theorem all_range_eq {l m : List Int} {n : Nat} (hl : l.length = n) (hm : m.length = n) : ((List.range n).all fun i => l[i]? == m[i]?) = (l == m) := by
  rw [Bool.eq_iff_iff]
  simp only [List.all_eq_true, List.mem_range, beq_iff_eq]
  constructor
  · intro h
    apply List.ext_getElem?
    intro i
    by_cases hi : i < n
    · exact h i hi
    · rw [List.getElem?_eq_none (by omega), List.getElem?_eq_none (by omega)]
  · rintro rfl i _; rfl
/-- Two arrays of numbers are compared. -/
theorem L.eqlA {t e t' : TypeId} {n : Nat} {l m : List Int} (ho : all[ix]? = some ⟨some d, .binOp .eql t x y t', ty, pos, aft, g⟩) (hgt : P.eqGuardType P.depth t = false) (ht : P.underlying t = some (.array n e)) (he : P.underlying e = some (.int .i64)) (hc : P.cellsOf e = 1)
    (hl : l.length = n) (hm : m.length = n) (hx : ev σ x = some (.agg (ints l).toArray)) (hy : ev σ y = some (.agg (ints m).toArray)) (hN : Nat.blt d X.N = true) (hg : Gok all σ g)
    (kk : WL P X bad all K Q os ((d, .bool (l == m)) :: σ) μ Ds) : WL P X bad all K Q ((fl, ix) :: os) σ μ Ds :=
  L.eqlX ho (fun w => by
    have hgd : (eqGuard .eql t x y (.agg (ints l).toArray) (.agg (ints m).toArray)).run P w = .ok () w := by
      simp only [eqGuard, program]
      simp [Sem.run, hgt, go_sem]
    have heq : (Op.equal t (.agg (ints l).toArray) (.agg (ints m).toArray)).run P w = .ok (l == m) w := by
      obtain ⟨i, hi⟩ := info_of_underlying he
      have h := run_equalIn_array (P := P) w 9999 (ints l).toArray (ints m).toArray ht hi
      rw [hc, run_eqItems_ints 9998 he l m w (List.range n) (fun j hj => by have := List.mem_range.1 hj; omega), all_range_eq hl hm] at h
      exact h
    rw [Sem.run_bind, hgd]
    show ((do Pure.pure (Value.bool (← Op.equal t (.agg (ints l).toArray) (.agg (ints m).toArray)))) : Sem Value).run P w = _
    rw [Sem.run_bind, heq]; rfl) hx hy hN hg kk
/-! ### Maps -/
def K2 (P : Program) (k : TypeId) : Prop := P.underlying k = some (.struct (P.fieldsOf k)) ∧ P.stoodInHeld k = false ∧
  (P.fieldsOf k).toList.map (fun f => (f.name == "_", f.offset, P.underlying f.type)) = [(false, 0, some (.int .i64)), (false, 1, some (.int .i64))]
def k2V (k : Int × Int) : Value := .agg #[.int .i64 k.1, .int .i64 k.2]
theorem K2.fields {k : TypeId} (h : K2 P k) : ∃ f0 f1, P.underlying k = some (.struct #[f0, f1]) ∧ P.fieldsOf k = #[f0, f1] ∧ f0.name ≠ "_" ∧ f1.name ≠ "_" ∧ f0.offset = 0 ∧ f1.offset = 1 ∧ P.underlying f0.type = some (.int .i64) ∧ P.underlying f1.type = some (.int .i64) := by
  obtain ⟨h1, h2, h3⟩ := h
  generalize hl : (P.fieldsOf k).toList = fs at h3
  have h0 := congrArg List.length h3
  simp only [List.length_map, List.length_cons, List.length_nil] at h0
  rcases fs with _ | ⟨f0, _ | ⟨f1, _ | ⟨f2, fs⟩⟩⟩ <;> simp only [List.length_cons, List.length_nil] at h0 <;> try omega
  have he : P.fieldsOf k = #[f0, f1] := by rw [← Array.toArray_toList (xs := P.fieldsOf k), hl]
  simp only [List.map_cons, List.map_nil, List.cons.injEq, Prod.mk.injEq, and_true, beq_eq_false_iff_ne] at h3
  exact ⟨f0, f1, by rw [h1, he], he, h3.1.1, h3.2.1, h3.1.2.1, h3.2.2.1, h3.1.2.2, h3.2.2.2⟩
theorem run_equal_k2 {k : TypeId} (h : K2 P k) (a b : Int × Int) (w : World) : (Op.equal k (k2V a) (k2V b)).run P w = .ok (a == b) w := by
  obtain ⟨a1, a2⟩ := a
  obtain ⟨b1, b2⟩ := b
  obtain ⟨f0, f1, hu, hf, n0, n1, o0, o1, t0, t1⟩ := h.fields
  have he := run_equalIn_struct (P := P) w 9999 k #[.int .i64 a1, .int .i64 a2] #[.int .i64 b1, .int .i64 b2] h.1 h.2.1
  show (Op.equalIn (9999 + 1) k (.agg #[.int .i64 a1, .int .i64 a2]) (.agg #[.int .i64 b1, .int .i64 b2])).run P w = _
  rw [he, hf]
  have p0 : ∀ c1 c2 : Int, (part f0.type #[.int .i64 c1, .int .i64 c2] f0.offset).run P w = .ok (.int .i64 c1) w := fun c1 c2 => run_part_int t0 (by rw [o0]; rfl) w
  have p1 : ∀ c1 c2 : Int, (part f1.type #[.int .i64 c1, .int .i64 c2] f1.offset).run P w = .ok (.int .i64 c2) w := fun c1 c2 => run_part_int t1 (by rw [o1]; rfl) w
  have e0 := run_equalIn_int w 9998 f0.type .i64 .i64 a1 b1 t0
  have e1 := run_equalIn_int w 9998 f1.type .i64 .i64 a2 b2 t1
  have s1 : (Op.eqFields 9999 #[.int .i64 a1, .int .i64 a2] #[.int .i64 b1, .int .i64 b2] [f1]).run P w = .ok (a2 == b2) w := by
    simp only [Op.eqFields, n1, ne_eq, not_false_eq_true, if_true, Sem.run_bind, p1, Result.andThen_ok]
    rw [e1]
    simp only [Result.andThen_ok]
    cases a2 == b2 <;> rfl
  show (Op.eqFields 9999 #[.int .i64 a1, .int .i64 a2] #[.int .i64 b1, .int .i64 b2] (f0 :: [f1])).run P w = _
  rw [Op.eqFields, if_pos n0]
  simp only [Sem.run_bind, p0, Result.andThen_ok]
  rw [e0]
  simp only [Result.andThen_ok]
  by_cases hab : a1 = b1
  · subst hab
    simp only [beq_self_eq_true, Bool.not_true, Bool.false_eq_true, if_false]
    rw [s1]
    have : (a2 == b2) = ((a1, a2) == (a1, b2)) := by rw [Bool.eq_iff_iff]; simp
    rw [this]
  · have hb : (a1 == b1) = false := by simpa using hab
    simp only [hb, Bool.not_false, if_true, Sem.run_pure]
    simp [hab]
/-- Two structs of two numbers are compared. -/
theorem L.eqlK {t t' : TypeId} {a b : Int × Int} (ho : all[ix]? = some ⟨some d, .binOp .eql t x y t', ty, pos, aft, g⟩) (hgt : P.eqGuardType P.depth t = false) (ht : K2 P t) (hx : ev σ x = some (k2V a)) (hy : ev σ y = some (k2V b)) (hN : Nat.blt d X.N = true) (hg : Gok all σ g)
    (kk : WL P X bad all K Q os ((d, .bool (a == b)) :: σ) μ Ds) : WL P X bad all K Q ((fl, ix) :: os) σ μ Ds :=
  L.eqlX ho (fun w => by
    have hgd : (eqGuard .eql t x y (k2V a) (k2V b)).run P w = .ok () w := by
      simp only [eqGuard, k2V, program]
      simp [Sem.run, hgt, go_sem]
    rw [Sem.run_bind, hgd]
    show ((do Pure.pure (Value.bool (← Op.equal t (k2V a) (k2V b)))) : Sem Value).run P w = _
    rw [Sem.run_bind, run_equal_k2 ht]; rfl) hx hy hN hg kk
/-- A conversion of a number to another kind, in which it fits. -/
theorem L.convI {k k' : IntKind} {s t : TypeId} {u' : TypeDesc} {n : Int} (ho : all[ix]? = some ⟨some d, .convert s t x, ty, pos, aft, g⟩) (hs : P.underlying s = some u') (ht : P.underlying t = some (.int k')) (hx : ev σ x = some (.int k n)) (hn : inK k' n) (hN : Nat.blt d X.N = true) (hg : Gok all σ g)
    (kk : WL P X bad all K Q os ((d, .int k' n) :: σ) μ Ds) : WL P X bad all K Q ((fl, ix) :: os) σ μ Ds :=
  L.convert ho (fun w => by
    simp only [Go.convert, Sem.run_bind, TU.of hs w, TU.of ht w, Result.andThen_ok, Conv.intToInt, wrap_in hn]
    rfl) hx hN hg kk
theorem Sl.shape {α : Type} {R : Rd α} {D : Data} {sz : Nat} {xs : List α} (h : Sl D R sz v xs) : ∃ a cap, v = .slice a xs.length cap := by
  obtain ⟨a, cap, hv, _⟩ := h; exact ⟨a, cap, hv⟩
/-- A slice's literal that is the frame's own. -/
theorem L.buildSliceO {t e : TypeId} {sz n : Nat} {parts : Array (Nat × Operand)} {us : List (Nat × Value)} {rs : List Value} {z0 : Value} (ho : all[ix]? = some ⟨some d, .buildSlice t n parts, ty, pos, aft, g⟩) (ht : P.underlying t = some (.slice e)) (hs : TS P e sz) (hz : TZ P e z0) (_hz1 : Nat.beq z0.cells.size sz = true)
    (hu : evps σ parts.toList = some us) (hn : us.length = n) (hnz : Nat.ble (n * sz) 4096 = true) (hf : Flat sz 0 us rs) (hN : Nat.blt d X.N = true) (hg : Gok all σ g)
    (kk : ∀ b, Acc e sz (.slice (some ⟨b, 0, none⟩) n n) n rs [(b, .cells rs.toArray e (0, 0))] → WL P X bad all K Q os ((d, .slice (some ⟨b, 0, none⟩) n n) :: σ) ((b, .cells rs.toArray e (0, 0)) :: μ) Ds) : WL P X bad all K Q ((fl, ix) :: os) σ μ Ds := by
  refine L.loud ho rfl rfl hg fun a w hh => ?_
  obtain ⟨h1, h2, h3, D, h4, h5, h6⟩ := id hh
  have hnz' : n * sz ≤ 4096 := Nat.le_of_ble_eq_true hnz
  have hlen : rs.length = n * sz := by rw [hf.len, hn]
  have e1 : (parts.map fun (i, x) => (i, a.eval x)).toList = us := by rw [← evps_eval (fun _ _ hx => hh.eval hx) hu]; simp
  have hrun : (execOp a.eval ⟨some d, .buildSlice t n parts, ty, pos, aft, g⟩).run P w = .ok (.value (.slice (some ⟨w.heap.size, 0, none⟩) n n)) { w with heap := w.heap.push (.cells rs.toArray e (0, 0)) } := by
    simp only [execOp, Instr.buildSlice, Sem.run_bind, TU.of ht w, Result.andThen_ok, hs w]
    rw [if_neg (by omega)]
    simp only [pure_bind]
    have key : ∀ zc : Array Value, Instr.fill (fun i => some (i * sz, sz)) ((Array.range (n * sz)).map (zc[· % zc.size]!)) us = some rs.toArray := by
      intro zc
      have := fill_flat hf [] ((Array.range (n * sz)).map (zc[· % zc.size]!)).toList (by simp) (by simp [hlen])
      rw [List.nil_append, List.nil_append] at this
      exact this
    split
    · simp only [Sem.run_bind, Sem.run_pure, Result.andThen_ok, e1, key, run_newRow]
    · simp only [Sem.run_bind, Sem.run_pure, Result.andThen_ok, hz w, e1, key, run_newRow]
  rw [hrun]
  have hs' := h4.push (.cells rs.toArray e (0, 0)) rfl
  refine ⟨fun _ => keep_push _ _ _, kk w.heap.size (Or.inr ⟨_, n, [], rfl, Nat.le_refl _, by simp, hlen, by simpa using hlen⟩) _ _ (Hl.put ⟨h1, h2, h3, D, hs', h5, h6.step (fun _ p hp => ?_) (fun _ => low_push _ _) hs'.dom⟩ hN _)⟩
  rcases List.mem_cons.1 hp with rfl | hp
  · exact Or.inr (Nat.le_refl _)
  · exact Or.inl (List.mem_map.2 ⟨p, hp, rfl⟩)
theorem L.makeMap {t : TypeId} (ho : all[ix]? = some ⟨some d, .makeMap t none, ty, pos, aft, g⟩) (hN : Nat.blt d X.N = true) (hg : Gok all σ g)
    (kk : ∀ b, WL P X bad all K Q os ((d, .map (some b)) :: σ) ((b, .map #[] 0) :: μ) Ds) : WL P X bad all K Q ((fl, ix) :: os) σ μ Ds := by
  refine L.loud ho rfl rfl hg fun a w hh => ?_
  obtain ⟨h1, h2, h3, D, h4, h5, h6⟩ := id hh
  have : (execOp a.eval ⟨some d, .makeMap t none, ty, pos, aft, g⟩).run P w = .ok (.value (.map (some w.heap.size))) { w with heap := w.heap.push (.map #[] 0) } := rfl
  rw [this]
  exact ⟨fun _ => keep_push _ _ _, kk _ _ _ (Hl.put ⟨h1, h2, h3, D, h4.push _ (show unfrozen (.map #[] 0) from trivial), h5, h6.step (fun _ p hp => by rcases List.mem_cons.1 hp with rfl | hp; exact Or.inr (Nat.le_refl _); exact Or.inl (List.mem_map.2 ⟨p, hp, rfl⟩)) (fun _ => low_push _ _) (h4.push _ (show unfrozen (.map #[] 0) from trivial)).dom⟩ hN _)⟩
theorem run_getObj {w : World} {r : Nat} {es : Array MapEntry} {clock : Nat} (h : w.heap[r]? = some (.map es clock)) : (getObj r).run P w = .ok (.map es clock) w := by
  simp [getObj, Sem.run, h]
/-! ### Bits -/
/-! ### Calls that change one of the caller's blocks -/
end Go.Fs
namespace Go.Fs
open Go.ChangeShapes Go.WideShapes Go.RowKit
/-- All cells of all blocks. -/
def full (W : World) : Data := fun b => match W.heap[b]? with
  | some (.cells cs _ _) => cs.toList
  | _ => []
theorem full_agrees (W : World) : Agrees (full W) W := by
  intro b hb
  unfold full at hb ⊢
  split at hb
  · rename_i cs e fz h
    exact ⟨cs, e, fz, h, List.prefix_refl _⟩
  · exact absurd rfl hb
theorem full_cell {W : World} {b i : Nat} {v : Value} (h : W.cell? ⟨b, i, none⟩ = some v) : (full W b)[i]? = some v := by
  unfold World.cell? at h
  unfold full
  split at h
  · rename_i cs e fz hb
    simp only at hb
    rw [hb]
    simpa using h
  · cases h
/-- Everything is as it was; what is new is not kept from being written. -/
structure Kept (W W' : World) : Prop where
  env : wenv W' = wenv W
  size : W.heap.size ≤ W'.heap.size
  old : ∀ b, b < W.heap.size → W'.heap[b]? = W.heap[b]?
  fz : ∀ b o, W.heap.size ≤ b → W'.heap[b]? = some o → unfrozen o
theorem Kept.but {W W' : World} (h : Kept W W') (may : MemPlace → Prop) : W.keptBut W' may := by
  refine ⟨congrArg Prod.fst h.env, congrArg Prod.snd h.env, fun i hi => ?_⟩
  rw [h.old i hi]
  cases W.heap[i]? with
  | none => rfl
  | some o => cases o <;> first | exact ⟨rfl, rfl, rfl, fun _ _ => rfl⟩ | exact Or.inr ⟨rfl, rfl⟩ | rfl
theorem Kept.frozen {W W' : World} (h : Kept W W') (a : Addr) : W'.frozen? a = W.frozen? a := by
  unfold World.frozen?
  rcases Nat.lt_or_ge a.block W.heap.size with hl | hl
  · rw [h.old _ hl]
  · have hn : W.heap[a.block]? = none := Array.getElem?_eq_none hl
    rw [hn]
    cases ho : W'.heap[a.block]? with
    | none => rfl
    | some o =>
      have := h.fz _ o hl ho
      cases o with
      | cells cs e z =>
        simp only [unfrozen] at this
        subst this
        simp
      | _ => rfl
theorem Kept.same {W W' : World} (h : Kept W W') {p : MemPlace} (hp : p.block < W.heap.size) : W.sameAt W' p := by
  cases p with
  | cell b off =>
    simp only [World.sameAt, World.cell?]
    rw [h.old b hp]
  | map b => exact h.old b hp
theorem Fn.calls {P : Program} {f : FuncId} {args : Array Value} {D : Data} {post : Data → Value → Prop} (h : Fn P f args D post) {W : World} (hD : Agrees D W) :
    Calls P f args W fun e W' => ∃ v D', e = .returned v ∧ post D' v ∧ Kept W W' :=
  (h.2 W hD).mono (by
    rintro e W' ⟨v, D', he, hs, hp⟩
    exact ⟨v, D', he, hp, hs.env _ rfl, hs.size, fun b hb => hs.old b hb (by simp), fun b o hb ho => hs.fz b o (Or.inl hb) ho⟩)
section
variable {H : Type} {enc : TypeId × Value → H} {P : Program}
theorem trodAll_stays (hl : laidOutB P = true) {W W' : World} {sp : Nat → Bool} : ∀ (ts : List TypeId) (vs : List Value) (ds : List (DataW H)) (ps : List MemPlace), (∀ t ∈ ts, P.readableRec t = true ∧ t < P.types.size) →
    DataW.TrodAll enc P W 0 (fun _ => true) true ts vs ds ps → (∀ p ∈ ps, W.sameAt W' p) → (∀ p ∈ ps, sp p.block = true) → DataW.TrodAll enc P W' 0 sp true ts vs ds ps
  | [], vs, ds, ps, _, h, _, _ => by
    obtain ⟨rfl, rfl, rfl⟩ := trodAll_nil h
    exact trodAll_mk0
  | t :: ts, vs, ds, ps, hr, h, hsame, hs => by
    obtain ⟨v, vs', d, ds', p, q, rfl, rfl, rfl, h1, h2⟩ := trodAll_cons h
    exact trodAll_cons_mk (WideElems.Trod_stays hl (hr t List.mem_cons_self).1 (hr t List.mem_cons_self).2 h1 (fun x hx => hsame x (List.mem_append_left _ hx)) (fun x hx => hs x (List.mem_append_left _ hx)))
      (trodAll_stays hl ts vs' ds' q (fun u hu => hr u (List.mem_cons_of_mem _ hu)) h2 (fun x hx => hsame x (List.mem_append_right _ hx)) (fun x hx => hs x (List.mem_append_right _ hx)))
theorem law_post {f : Func} {s : ChangeSpec} {tb : TypeId} {W W' : World} {args : Array Value} {ds gs : List (DataW H)} {before : List MemPlace} (hl : laidOutB P = true) (hp : (f.params.toList.all fun t => P.readableRec t && decide (t < P.types.size)) = true) (hvars : s.vars = [])
    (hres : f.resultTypes = #[tb]) (htb : P.underlying tb = some .bool) (hW : DataW.Whole enc P f.params.toList s.vars false W args.toList ds gs before) (hs : s.fn H (ds ++ gs) = { results := [.lit (.bool true)], args := ds }) (hk : Kept W W') :
    s.post enc P f false true false false W args (.bool true) W' := by
  have hlt := hW.lt
  have hW' := hW
  obtain ⟨p, q, hA, hV, rfl, hfz, hnd⟩ := hW'
  rw [hvars] at hV
  obtain ⟨_, rfl⟩ := trodVars_none hV
  refine post_of_same (pa := p) (pv := []) hW (fun b sp hd => ?_) (fun sp hsp => ?_) (fun sp _ => ?_) rfl (hk.but _) hk.frozen (ok_one hres rfl (okWide_bool_mk htb true))
  · rw [hs, hres]
    exact trodAll_mk1 (shut_bool htb true)
  · rw [hs]
    refine trodAll_stays hl _ _ _ _ (fun t ht => ?_) hA (fun x hx => hk.same (hlt x (List.mem_append_left _ hx))) (fun x hx => hsp x (List.mem_append_left _ hx))
    have := List.all_eq_true.1 hp t ht
    simpa using this
  · rw [hs, hvars]; rfl
/-! ### How an argument reads -/
/-- Whatever reads as a value of type t reads so. -/
def Reads (P : Program) (t : TypeId) {α : Type} (R : Rd α) : Prop := ∀ {H : Type} (enc : TypeId × Value → H) (W : World) (n : Nat) (cs : List Value) (x : DataW H × List MemPlace), DataW.trod enc P W 0 (fun _ => true) true n t cs = some x → ∃ a, R (full W) a cs
/-- Numbers of a kind, that fit. -/
def RK (k : IntKind) : Rd Int := fun _ n cs => cs = [.int k n] ∧ inK k n
theorem RK.up {k : IntKind} : (RK k).Up := fun _ _ _ h => h
theorem inK_of_wf {k : IntKind} {n : Int} (h : (Lit.int k n).wf = true) : inK k n := by
  cases k <;> simpa [Lit.wf, IntKind.min, IntKind.max, IntKind.signed, IntKind.bits, inK] using h
theorem Reads.kind {t : TypeId} {k : IntKind} (h : P.underlying t = some (.int k)) : Reads P t (RK k) := fun enc W n cs x hx => by
  obtain ⟨m, hc, _, hw⟩ := DataW.trod_int h hx
  exact ⟨m, hc, inK_of_wf hw⟩
/-- A slice in a cell. -/
def RSl {α : Type} (R : Rd α) (sz : Nat) : Rd (List α) := fun D xs cs => ∃ v, cs = [v] ∧ Sl D R sz v xs
theorem Reads.slice {t e : TypeId} {sz : Nat} {α : Type} {R : Rd α} (ht : P.underlying t = some (.slice e)) (hc : P.cellsOf e = sz) (hpos : 0 < sz) (hel : Reads P e R) : Reads P t (RSl R sz) := fun {H} enc W fuel cs x hx => by
  rcases DataW.trod_slice ht hx with ⟨rfl, _⟩ | ⟨a, len, cap, elems, rest, n, _, rfl, _, _, hl, hm, hlen, hel', _, _⟩
  · exact ⟨[], _, rfl, Sl.nil⟩
  have hm' : cap ≤ 9223372036854775807 := by simpa [maxLen] using hm
  have key : ∀ i, i < len → ∃ cs, (∃ y, R (full W) y cs) ∧ cs.length = sz ∧ ∀ j, j < sz → W.cell? ((a.add (i * sz)).add j) = cs[j]? := by
    intro i hi
    have h1 := hel' i hi
    rw [List.getElem?_eq_getElem (by omega), hc] at h1
    simp only [Option.bind_eq_some_iff] at h1
    obtain ⟨cs, h2, h3⟩ := h1
    obtain ⟨_, h4, h5⟩ := World.cells?_some h2
    exact ⟨cs, hel enc W n cs _ h3, h4, h5⟩
  by_cases h0 : len = 0
  · subst h0
    exact ⟨[], _, rfl, some a, cap, rfl, Nat.zero_le _, by simp, Or.inl rfl⟩
  have hspot : a = ⟨a.block, a.off, none⟩ := by
    obtain ⟨cs, _, h2, h3⟩ := key 0 (by omega)
    have h4 := h3 0 hpos
    rw [Nat.zero_mul] at h4
    simp only [Addr.add, if_true] at h4
    rw [List.getElem?_eq_getElem (show 0 < cs.length by omega)] at h4
    unfold World.cell? at h4
    split at h4
    · split at h4
      · cases h4
      · rename_i hs
        obtain ⟨b, o, s⟩ := a
        cases s with
        | none => rfl
        | some => simp at hs
    · cases h4
  have pick : ∃ ys : List α, ys.length = len ∧ ∀ i y, ys[i]? = some y → ∃ cs, R (full W) y cs ∧ cs.length = sz ∧ ∀ j, j < sz → W.cell? ((a.add (i * sz)).add j) = cs[j]? := by
    refine ⟨List.ofFn fun i : Fin len => (key i.1 i.2).choose_spec.1.choose, by simp, fun i y hy => ?_⟩
    rw [List.getElem?_ofFn] at hy
    split at hy
    · rename_i hi
      cases hy
      exact ⟨_, (key i hi).choose_spec.1.choose_spec, (key i hi).choose_spec.2.1, (key i hi).choose_spec.2.2⟩
    · cases hy
  obtain ⟨ys, hys, hy⟩ := pick
  refine ⟨ys, _, rfl, some a, cap, by rw [hys], by omega, by omega, Or.inr ⟨a.block, a.off, by rw [← hspot], fun i y hi => ?_⟩⟩
  obtain ⟨cs, h1, h2, h3⟩ := hy i y hi
  refine ⟨cs, h1, h2, fun j v hj => ?_⟩
  have hjl := (List.getElem?_eq_some_iff.1 hj).1
  have h4 := h3 j (by omega)
  rw [hj, hspot, add_plain, add_plain] at h4
  exact full_cell h4
theorem Reads.trod {t : TypeId} {α : Type} {R : Rd α} (h : Reads P t R) {W : World} {v : Value} {d : DataW H} {ps : List MemPlace} (hd : DataW.Trod enc P W 0 (fun _ => true) true t v d ps) : ∃ a, R (full W) a v.cells.toList := by
  obtain ⟨fuel, hf⟩ := hd
  exact h enc W fuel _ _ hf
theorem open_slice {t e : TypeId} {α : Type} {R : Rd α} {sz : Nat} (ht : P.underlying t = some (.slice e)) (h : Reads P t (RSl R sz)) {W : World} {r : Reach} {b0 : Nat} {v : Value} {d : DataW H} {ps : List MemPlace} (hval : Value.okWide P W r b0 t v) (hd : DataW.Trod enc P W 0 (fun _ => true) true t v d ps) :
    ∃ xs, Sl (full W) R sz v xs := by
  obtain ⟨a, len, cap, rfl⟩ := okWide_slice ht hval
  obtain ⟨xs, u, hc, hs⟩ := h.trod hd
  simp only [Value.cells, List.cons.injEq, and_true] at hc
  exact ⟨xs, by rw [hc]; exact hs⟩
/-- A struct's parts, each of one cell. -/
theorem trod_parts {t : TypeId} {fs : Array Field} {W : World} {n : Nat} {cs : List Value} {x : DataW H × List MemPlace} {k : Nat} (ht : P.underlying t = some (.struct fs)) (hk : P.cellsOf t = k) (h : DataW.trod enc P W 0 (fun _ => true) true n t cs = some x) :
    cs.length = k ∧ ∀ (i o u : Nat) (c : Value), (fs[i]?).map (fun f => (f.offset, f.type)) = some (o, u) → P.cellsOf u = 1 → cs[o]? = some c → ∃ m y, DataW.trod enc P W 0 (fun _ => true) true m u [c] = some y := by
  obtain ⟨xs, m, _, _, hlen, hsz, hf⟩ := DataW.trod_struct ht h
  refine ⟨hlen.trans hk, fun i o u c hi hu hc => ?_⟩
  rw [Option.map_eq_some_iff] at hi
  obtain ⟨f, hi, he⟩ := hi
  simp only [Prod.mk.injEq] at he
  obtain ⟨rfl, rfl⟩ := he
  have h1 := hf i f hi
  have hl : i < xs.length := by rw [hsz]; exact (Array.getElem?_eq_some_iff.1 hi).1
  rw [List.getElem?_eq_getElem hl, hu] at h1
  have hol := (List.getElem?_eq_some_iff.1 hc).1
  rw [List.getElem?_eq_getElem hol] at hc
  rw [List.drop_eq_getElem_cons hol, Option.some.inj hc] at h1
  exact ⟨m, _, h1⟩
theorem list3 {α : Type} {l : List α} (h : l.length = 3) : ∃ a b c, l = [a, b, c] := by
  match l, h with
  | [a, b, c], _ => exact ⟨a, b, c, rfl⟩
theorem open_struct {t : TypeId} {fs : Array Field} {W : World} {r : Reach} {b0 : Nat} {v : Value} {d : DataW H} {ps : List MemPlace} {k : Nat} (ht : P.underlying t = some (.struct fs)) (hk : P.cellsOf t = k) (hval : Value.okWide P W r b0 t v) (hd : DataW.Trod enc P W 0 (fun _ => true) true t v d ps) :
    ∃ cs : Array Value, v = .agg cs ∧ cs.size = k ∧ ∃ n x, DataW.trod enc P W 0 (fun _ => true) true n t cs.toList = some x := by
  obtain ⟨cs, rfl, hsz⟩ := okWide_struct ht hval
  obtain ⟨fuel, hf⟩ := hd
  exact ⟨cs, rfl, hsz.trans hk, fuel, _, hf⟩
end
end Go.Fs
namespace Go.Fs
open Go.Proofs
namespace Tf
theorem follows : Try.prog.follows .mixedOrders = true := by kernel_rfl
theorem a3 : TA Try.prog 3 false := TA.of Try.underlying3 _ rfl
theorem s3 : TS Try.prog 3 1 := TS.of (by kernel_rfl)
theorem z3 : TZ Try.prog 3 (.int .i64 0) := TZ.of (by kernel_rfl)
theorem i3 : (Try.prog.info? 3).map (fun i => Nat.ble 1 i.bytes && Nat.ble i.bytes 4096) = some true := by kernel_rfl
theorem a4 : TA Try.prog 4 false := TA.of Try.underlying4 _ rfl
theorem s4 : TS Try.prog 4 1 := TS.of (by kernel_rfl)
theorem z4 : TZ Try.prog 4 (.bool false) := TZ.of (by kernel_rfl)
theorem a22 : TA Try.prog 22 false := TA.of Try.underlying22 _ rfl
theorem s22 : TS Try.prog 22 1 := TS.of (by kernel_rfl)
theorem a23 : TA Try.prog 23 false := TA.of Try.underlying23 _ rfl
theorem s23 : TS Try.prog 23 1 := TS.of (by kernel_rfl)
theorem a25 : TA Try.prog 25 true := TA.of Try.underlying25 _ rfl
theorem s25 : TS Try.prog 25 5 := TS.of (by kernel_rfl)
theorem z25 : TZ Try.prog 25 (.agg #[.int .i64 0, .int .i64 0, .int .i64 0, .slice none 0 0, .slice none 0 0]) := TZ.of (by kernel_rfl)
theorem f25_0 : TF Try.prog 25 0 0 := TF.of Try.underlying25 rfl s3 rfl
theorem f25_1 : TF Try.prog 25 1 1 := TF.of Try.underlying25 rfl s3 rfl
theorem f25_2 : TF Try.prog 25 2 2 := TF.of Try.underlying25 rfl s3 rfl
theorem f25_3 : TF Try.prog 25 3 3 := TF.of Try.underlying25 rfl s22 rfl
theorem f25_4 : TF Try.prog 25 4 4 := TF.of Try.underlying25 rfl s23 rfl
theorem a33 : TA Try.prog 33 false := TA.of Try.underlying33 _ rfl
theorem s33 : TS Try.prog 33 1 := TS.of (by kernel_rfl)
theorem z33 : TZ Try.prog 33 (.slice none 0 0) := TZ.of (by kernel_rfl)
theorem a37 : TA Try.prog 37 false := TA.of Try.underlying37 _ rfl
theorem s37 : TS Try.prog 37 1 := TS.of (by kernel_rfl)
theorem z37 : TZ Try.prog 37 (.slice none 0 0) := TZ.of (by kernel_rfl)
theorem a38 : TA Try.prog 38 false := TA.of Try.underlying38 _ rfl
theorem s38 : TS Try.prog 38 1 := TS.of (by kernel_rfl)
theorem a40 : TA Try.prog 40 true := TA.of Try.underlying40 _ rfl
theorem s40 : TS Try.prog 40 5 := TS.of (by kernel_rfl)
theorem z40 : TZ Try.prog 40 (.agg #[.int .i64 0, .int .i64 0, .int .i64 0, .slice none 0 0, .slice none 0 0]) := TZ.of (by kernel_rfl)
theorem p40 : TP Try.prog 40 [(0, 1), (1, 1), (2, 1), (3, 1), (4, 1)] := TP.of Try.underlying40 (by kernel_rfl) (by kernel_rfl)
theorem f40_0 : TF Try.prog 40 0 0 := TF.of Try.underlying40 rfl s3 rfl
theorem f40_1 : TF Try.prog 40 1 1 := TF.of Try.underlying40 rfl s3 rfl
theorem f40_2 : TF Try.prog 40 2 2 := TF.of Try.underlying40 rfl s3 rfl
theorem f40_3 : TF Try.prog 40 3 3 := TF.of Try.underlying40 rfl s37 rfl
theorem f40_4 : TF Try.prog 40 4 4 := TF.of Try.underlying40 rfl s38 rfl
theorem a43 : TA Try.prog 43 true := TA.of Try.underlying43 _ rfl
theorem s43 : TS Try.prog 43 2 := TS.of (by kernel_rfl)
theorem z43 : TZ Try.prog 43 (.agg #[.int .i64 0, .int .i64 0]) := TZ.of (by kernel_rfl)
theorem p43 : TP Try.prog 43 [(0, 1), (1, 1)] := TP.of Try.underlying43 (by kernel_rfl) (by kernel_rfl)
theorem f43_0 : TF Try.prog 43 0 0 := TF.of Try.underlying43 rfl s3 rfl
theorem f43_1 : TF Try.prog 43 1 1 := TF.of Try.underlying43 rfl s3 rfl
theorem a49 : TA Try.prog 49 false := TA.of Try.underlying49 _ rfl
theorem s49 : TS Try.prog 49 1 := TS.of (by kernel_rfl)
theorem a51 : TA Try.prog 51 true := TA.of Try.underlying51 _ rfl
theorem s51 : TS Try.prog 51 4 := TS.of (by kernel_rfl)
theorem z51 : TZ Try.prog 51 (.agg #[.slice none 0 0, .slice none 0 0, .int .i64 0, .int .i64 0]) := TZ.of (by kernel_rfl)
theorem p51 : TP Try.prog 51 [(0, 1), (1, 1), (2, 1), (3, 1)] := TP.of Try.underlying51 (by kernel_rfl) (by kernel_rfl)
theorem f51_0 : TF Try.prog 51 0 0 := TF.of Try.underlying51 rfl s33 rfl
theorem f51_1 : TF Try.prog 51 1 1 := TF.of Try.underlying51 rfl s49 rfl
theorem f51_2 : TF Try.prog 51 2 2 := TF.of Try.underlying51 rfl s3 rfl
theorem f51_3 : TF Try.prog 51 3 3 := TF.of Try.underlying51 rfl s3 rfl
theorem a54 : TA Try.prog 54 true := TA.of Try.underlying54 _ rfl
theorem s54 : TS Try.prog 54 2 := TS.of (by kernel_rfl)
theorem z54 : TZ Try.prog 54 (.agg #[.int .i64 0, .int .i64 0]) := TZ.of (by kernel_rfl)
theorem p54 : TP Try.prog 54 [(0, 1), (1, 1)] := TP.of Try.underlying54 (by kernel_rfl) (by kernel_rfl)
theorem f54_0 : TF Try.prog 54 0 0 := TF.of Try.underlying54 rfl s3 rfl
theorem f54_1 : TF Try.prog 54 1 1 := TF.of Try.underlying54 rfl s3 rfl
theorem a57 : TA Try.prog 57 false := TA.of Try.underlying57 _ rfl
theorem s57 : TS Try.prog 57 1 := TS.of (by kernel_rfl)
theorem a59 : TA Try.prog 59 true := TA.of Try.underlying59 _ rfl
theorem s59 : TS Try.prog 59 4 := TS.of (by kernel_rfl)
theorem z59 : TZ Try.prog 59 (.agg #[.slice none 0 0, .slice none 0 0, .int .i64 0, .int .i64 0]) := TZ.of (by kernel_rfl)
theorem p59 : TP Try.prog 59 [(0, 1), (1, 1), (2, 1), (3, 1)] := TP.of Try.underlying59 (by kernel_rfl) (by kernel_rfl)
theorem f59_0 : TF Try.prog 59 0 0 := TF.of Try.underlying59 rfl s33 rfl
theorem f59_1 : TF Try.prog 59 1 1 := TF.of Try.underlying59 rfl s57 rfl
theorem f59_2 : TF Try.prog 59 2 2 := TF.of Try.underlying59 rfl s3 rfl
theorem f59_3 : TF Try.prog 59 3 3 := TF.of Try.underlying59 rfl s3 rfl
theorem a64 : TA Try.prog 64 true := TA.of Try.underlying64 _ rfl
theorem s64 : TS Try.prog 64 3 := TS.of (by kernel_rfl)
theorem z64 : TZ Try.prog 64 (.agg #[.int .i64 0, .int .i64 0, .int .i64 0]) := TZ.of (by kernel_rfl)
theorem i64 : (Try.prog.info? 64).map (fun i => Nat.ble 1 i.bytes && Nat.ble i.bytes 4096) = some true := by kernel_rfl
theorem p64 : TP Try.prog 64 [(0, 1), (1, 1), (2, 1)] := TP.of Try.underlying64 (by kernel_rfl) (by kernel_rfl)
theorem f64_0 : TF Try.prog 64 0 0 := TF.of Try.underlying64 rfl s3 rfl
theorem f64_1 : TF Try.prog 64 1 1 := TF.of Try.underlying64 rfl s3 rfl
theorem f64_2 : TF Try.prog 64 2 2 := TF.of Try.underlying64 rfl s3 rfl
theorem a66 : TA Try.prog 66 true := TA.of Try.underlying66 _ rfl
theorem s66 : TS Try.prog 66 3 := TS.of (by kernel_rfl)
theorem z66 : TZ Try.prog 66 (.agg #[.bool false, .int .i64 0, .int .i64 0]) := TZ.of (by kernel_rfl)
theorem i66 : (Try.prog.info? 66).map (fun i => Nat.ble 1 i.bytes && Nat.ble i.bytes 4096) = some true := by kernel_rfl
theorem p66 : TP Try.prog 66 [(0, 1), (1, 1), (2, 1)] := TP.of Try.underlying66 (by kernel_rfl) (by kernel_rfl)
theorem f66_0 : TF Try.prog 66 0 0 := TF.of Try.underlying66 rfl s4 rfl
theorem f66_1 : TF Try.prog 66 1 1 := TF.of Try.underlying66 rfl s3 rfl
theorem f66_2 : TF Try.prog 66 2 2 := TF.of Try.underlying66 rfl s3 rfl
theorem a68 : TA Try.prog 68 true := TA.of Try.underlying68 _ rfl
theorem s68 : TS Try.prog 68 3 := TS.of (by kernel_rfl)
theorem z68 : TZ Try.prog 68 (.agg #[.int .i64 0, .int .i64 0, .int .i64 0]) := TZ.of (by kernel_rfl)
theorem i68 : (Try.prog.info? 68).map (fun i => Nat.ble 1 i.bytes && Nat.ble i.bytes 4096) = some true := by kernel_rfl
theorem p68 : TP Try.prog 68 [(0, 1), (1, 1), (2, 1)] := TP.of Try.underlying68 (by kernel_rfl) (by kernel_rfl)
theorem f68_0 : TF Try.prog 68 0 0 := TF.of Try.underlying68 rfl s3 rfl
theorem f68_1 : TF Try.prog 68 1 1 := TF.of Try.underlying68 rfl s3 rfl
theorem f68_2 : TF Try.prog 68 2 2 := TF.of Try.underlying68 rfl s3 rfl
theorem a70 : TA Try.prog 70 true := TA.of Try.underlying70 _ rfl
theorem s70 : TS Try.prog 70 2 := TS.of (by kernel_rfl)
theorem z70 : TZ Try.prog 70 (.agg #[.int .i64 0, .int .i64 0]) := TZ.of (by kernel_rfl)
theorem p70 : TP Try.prog 70 [(0, 1), (1, 1)] := TP.of Try.underlying70 (by kernel_rfl) (by kernel_rfl)
theorem f70_0 : TF Try.prog 70 0 0 := TF.of Try.underlying70 rfl s3 rfl
theorem f70_1 : TF Try.prog 70 1 1 := TF.of Try.underlying70 rfl s3 rfl
theorem a72 : TA Try.prog 72 true := TA.of Try.underlying72 _ rfl
theorem s72 : TS Try.prog 72 3 := TS.of (by kernel_rfl)
theorem z72 : TZ Try.prog 72 (.agg #[.int .i64 0, .int .i64 0, .int .i64 0]) := TZ.of (by kernel_rfl)
theorem i72 : (Try.prog.info? 72).map (fun i => Nat.ble 1 i.bytes && Nat.ble i.bytes 4096) = some true := by kernel_rfl
theorem p72 : TP Try.prog 72 [(0, 1), (1, 2)] := TP.of Try.underlying72 (by kernel_rfl) (by kernel_rfl)
theorem f72_0 : TF Try.prog 72 0 0 := TF.of Try.underlying72 rfl s3 rfl
theorem f72_1 : TF Try.prog 72 1 1 := TF.of Try.underlying72 rfl s70 rfl
theorem a75 : TA Try.prog 75 false := TA.of Try.underlying75 _ rfl
theorem s75 : TS Try.prog 75 1 := TS.of (by kernel_rfl)
theorem a76 : TA Try.prog 76 false := TA.of Try.underlying76 _ rfl
theorem s76 : TS Try.prog 76 1 := TS.of (by kernel_rfl)
theorem z76 : TZ Try.prog 76 (.nilFunc) := TZ.of (by kernel_rfl)
theorem a78 : TA Try.prog 78 true := TA.of Try.underlying78 _ rfl
theorem s78 : TS Try.prog 78 4 := TS.of (by kernel_rfl)
theorem z78 : TZ Try.prog 78 (.agg #[.int .i64 0, .int .i64 0, .int .i64 0, .int .i64 0]) := TZ.of (by kernel_rfl)
theorem a80 : TA Try.prog 80 true := TA.of Try.underlying80 _ rfl
theorem s80 : TS Try.prog 80 10 := TS.of (by kernel_rfl)
theorem z80 : TZ Try.prog 80 (.agg #[.int .i64 0, .int .i64 0, .int .i64 0, .int .i64 0, .int .i64 0, .int .i64 0, .int .i64 0, .int .i64 0, .int .i64 0, .int .i64 0]) := TZ.of (by kernel_rfl)
theorem i80 : (Try.prog.info? 80).map (fun i => Nat.ble 1 i.bytes && Nat.ble i.bytes 4096) = some true := by kernel_rfl
theorem p80 : TP Try.prog 80 [(0, 4), (4, 4), (8, 1), (9, 1)] := TP.of Try.underlying80 (by kernel_rfl) (by kernel_rfl)
theorem f80_0 : TF Try.prog 80 0 0 := TF.of Try.underlying80 rfl s78 rfl
theorem f80_1 : TF Try.prog 80 1 4 := TF.of Try.underlying80 rfl s78 rfl
theorem f80_2 : TF Try.prog 80 2 8 := TF.of Try.underlying80 rfl s3 rfl
theorem f80_3 : TF Try.prog 80 3 9 := TF.of Try.underlying80 rfl s3 rfl
theorem z82 : TZ Try.prog 82 (.agg #[.nilFunc]) := TZ.of (by kernel_rfl)
theorem p82 : TP Try.prog 82 [(0, 1)] := TP.of Try.underlying82 (by kernel_rfl) (by kernel_rfl)
theorem f82_0 : TF Try.prog 82 0 0 := TF.of Try.underlying82 rfl s75 rfl
theorem a86 : TA Try.prog 86 true := TA.of Try.underlying86 _ rfl
theorem s86 : TS Try.prog 86 3 := TS.of (by kernel_rfl)
theorem z86 : TZ Try.prog 86 (.agg #[.int .i64 0, .int .i64 0, .int .i64 0]) := TZ.of (by kernel_rfl)
theorem i86 : (Try.prog.info? 86).map (fun i => Nat.ble 1 i.bytes && Nat.ble i.bytes 4096) = some true := by kernel_rfl
theorem p86 : TP Try.prog 86 [(0, 1), (1, 2)] := TP.of Try.underlying86 (by kernel_rfl) (by kernel_rfl)
theorem f86_0 : TF Try.prog 86 0 0 := TF.of Try.underlying86 rfl s3 rfl
theorem f86_1 : TF Try.prog 86 1 1 := TF.of Try.underlying86 rfl s43 rfl
theorem a88 : TA Try.prog 88 false := TA.of Try.underlying88 _ rfl
theorem a90 : TA Try.prog 90 false := TA.of Try.underlying90 _ rfl
theorem s90 : TS Try.prog 90 1 := TS.of (by kernel_rfl)
theorem z90 : TZ Try.prog 90 (.slice none 0 0) := TZ.of (by kernel_rfl)
theorem a93 : TA Try.prog 93 true := TA.of Try.underlying93 _ rfl
theorem s93 : TS Try.prog 93 3 := TS.of (by kernel_rfl)
theorem z93 : TZ Try.prog 93 (.agg #[.bool false, .int .i64 0, .int .i64 0]) := TZ.of (by kernel_rfl)
theorem p93 : TP Try.prog 93 [(0, 1), (1, 1), (2, 1)] := TP.of Try.underlying93 (by kernel_rfl) (by kernel_rfl)
theorem f93_0 : TF Try.prog 93 0 0 := TF.of Try.underlying93 rfl s4 rfl
theorem f93_1 : TF Try.prog 93 1 1 := TF.of Try.underlying93 rfl s3 rfl
theorem f93_2 : TF Try.prog 93 2 2 := TF.of Try.underlying93 rfl s3 rfl
theorem a94 : TA Try.prog 94 false := TA.of Try.underlying94 _ rfl
theorem s94 : TS Try.prog 94 1 := TS.of (by kernel_rfl)
theorem z94 : TZ Try.prog 94 (.pointer none) := TZ.of (by kernel_rfl)
theorem a99 : TA Try.prog 99 false := TA.of Try.underlying99 _ rfl
theorem s99 : TS Try.prog 99 1 := TS.of (by kernel_rfl)
theorem z101 : TZ Try.prog 101 (.agg #[.slice none 0 0, .slice none 0 0, .int .i64 0, .int .i64 0, .slice none 0 0]) := TZ.of (by kernel_rfl)
theorem p101 : TP Try.prog 101 [(0, 4), (4, 1)] := TP.of Try.underlying101 (by kernel_rfl) (by kernel_rfl)
theorem f101_1 : TF Try.prog 101 1 4 := TF.of Try.underlying101 rfl s99 rfl
theorem a104 : TA Try.prog 104 false := TA.of Try.underlying104 _ rfl
theorem s104 : TS Try.prog 104 1 := TS.of (by kernel_rfl)
theorem a110 : TA Try.prog 110 false := TA.of Try.underlying110 _ rfl
theorem a111 : TA Try.prog 111 false := TA.of Try.underlying111 _ rfl
theorem a125 : TA Try.prog 125 true := TA.of Try.underlying125 _ rfl
theorem s125 : TS Try.prog 125 9 := TS.of (by kernel_rfl)
theorem z125 : TZ Try.prog 125 (.agg #[.int .i64 0, .int .i64 0, .int .i64 0, .int .i64 0, .int .i64 0, .int .i64 0, .int .i64 0, .int .i64 0, .int .i64 0]) := TZ.of (by kernel_rfl)
theorem i125 : (Try.prog.info? 125).map (fun i => Nat.ble 1 i.bytes && Nat.ble i.bytes 4096) = some true := by kernel_rfl
theorem a129 : TA Try.prog 129 true := TA.of Try.underlying129 _ rfl
theorem s129 : TS Try.prog 129 10 := TS.of (by kernel_rfl)
theorem z129 : TZ Try.prog 129 (.agg #[.int .i64 0, .int .i64 0, .int .i64 0, .int .i64 0, .int .i64 0, .int .i64 0, .int .i64 0, .int .i64 0, .int .i64 0, .int .i64 0]) := TZ.of (by kernel_rfl)
theorem a137 : TA Try.prog 137 false := TA.of Try.underlying137 _ rfl
theorem s137 : TS Try.prog 137 1 := TS.of (by kernel_rfl)
theorem z139 : TZ Try.prog 139 (.agg #[.int .i64 0, .int .i64 0, .int .i64 0, .slice none 0 0, .slice none 0 0, .map none]) := TZ.of (by kernel_rfl)
theorem p139 : TP Try.prog 139 [(0, 5), (5, 1)] := TP.of Try.underlying139 (by kernel_rfl) (by kernel_rfl)
theorem f139_0 : TF Try.prog 139 0 0 := TF.of Try.underlying139 rfl s40 rfl
theorem f139_1 : TF Try.prog 139 1 5 := TF.of Try.underlying139 rfl s137 rfl
theorem a140 : TA Try.prog 140 false := TA.of Try.underlying140 _ rfl
theorem a144 : TA Try.prog 144 false := TA.of Try.underlying144 _ rfl
theorem a147 : TA Try.prog 147 false := TA.of Try.underlying147 _ rfl
theorem a151 : TA Try.prog 151 true := TA.of Try.underlying151 _ rfl
theorem s151 : TS Try.prog 151 9 := TS.of (by kernel_rfl)
theorem z151 : TZ Try.prog 151 (.agg #[.int .i64 0, .int .i64 0, .int .i64 0, .int .i64 0, .int .i64 0, .int .i64 0, .int .i64 0, .int .i64 0, .int .i64 0]) := TZ.of (by kernel_rfl)
theorem p151 : TP Try.prog 151 [(0, 1), (1, 4), (5, 4)] := TP.of Try.underlying151 (by kernel_rfl) (by kernel_rfl)
end Tf
end Go.Fs
namespace Go.Fs.C1
structure Cnt where
  back : Bool
  many : Int
  num : Int
  deriving DecidableEq
structure RowD where
  places : List Int
  counts : List Cnt
  wrong : Int
  off : Int
  deriving DecidableEq
def inB (n lo hi : Int) : Bool := decide (lo ≤ n) && decide (n ≤ hi)
def placeOk (n : Int) : Bool := inB n 0 2
def cntOk (len : Nat) (c : Cnt) : Bool := inB c.many 0 len && inB c.num 0 9
/-- The error of a row. -/
def fault (r : RowD) : Int :=
  if 9 < r.places.length ∨ 6 < r.counts.length then 3
  else if r.places.length = 0 ∨ inB r.wrong 0 6 = false ∨ inB r.off 0 9 = false ∨ r.places.all placeOk = false ∨ r.counts.all (cntOk r.places.length) = false then 1
  else 0
/-- One place of a truth. -/
def placeIs (t p : Int) : Bool := inB t 0 1 && (p == 2 || t == p)
def isTruth (r : RowD) (t : List Int) : Bool := (t.length == r.places.length) && (t.zip r.places).all fun x => placeIs x.1 x.2
def sumFrom (l : List Int) (i k : Nat) : Int := ((l.drop i).take k).sum
/-- The number of chairs in the places that a count is about. -/
def about (t : List Int) (c : Cnt) : Int := if c.back then sumFrom t (t.length - c.many.toNat) c.many.toNat else sumFrom t 0 c.many.toNat
def errOf (t : List Int) (c : Cnt) : Int := max (about t c - c.num) (c.num - about t c)
def explains (r : RowD) (t : List Int) : Bool := r.counts.all fun c => decide (errOf t c ≤ r.off)
def wrongs (r : RowD) (t : List Int) : Nat := (r.counts.filter fun c => decide (0 < errOf t c)).length
/-- All truths of places, the last place changes first. -/
def allT : List Int → List (List Int)
  | [] => [[]]
  | p :: ps => (if p = 2 ∨ p = 0 then (allT ps).map (0 :: ·) else []) ++ (if p = 2 ∨ p = 1 then (allT ps).map (1 :: ·) else [])
def fits (r : RowD) (t : List Int) : Bool := explains r t && decide ((wrongs r t : Int) ≤ r.wrong)
def truths (r : RowD) : List (List Int) := (allT r.places).filter (fits r)
def partOf (t : List Int) (i j : Nat) : Int := sumFrom t i (j + 1 - i)
def minL : List Int → Int
  | [] => 0
  | x :: xs => xs.foldl min x
def maxL : List Int → Int
  | [] => 0
  | x :: xs => xs.foldl max x
/-! ### Sums -/
theorem sumFrom_succ {l : List Int} {i k : Nat} {x : Int} (h : l[i + k]? = some x) : sumFrom l i (k + 1) = sumFrom l i k + x := by
  unfold sumFrom
  rw [List.take_add_one, List.getElem?_drop, h]
  simp
theorem sumFrom_bound {l : List Int} (hb : ∀ x ∈ l, 0 ≤ x ∧ x ≤ 1) (i k : Nat) : 0 ≤ sumFrom l i k ∧ sumFrom l i k ≤ k := by
  induction k with
  | zero => simp [sumFrom]
  | succ k ih =>
    cases h : l[i + k]? with
    | none =>
      have : sumFrom l i (k + 1) = sumFrom l i k := by
        unfold sumFrom; rw [List.take_add_one, List.getElem?_drop, h]; simp
      rw [this]; omega
    | some x => rw [sumFrom_succ h]; have := hb x (List.mem_of_getElem? h); omega
theorem sumFrom_split (l : List Int) (i k m : Nat) : sumFrom l i (k + m) = sumFrom l i k + sumFrom l (i + k) m := by
  unfold sumFrom
  rw [List.take_add, List.drop_drop]
  simp
def pad9 (t : List Int) : List Int := t ++ List.replicate (9 - t.length) 0
theorem pad9_length {t : List Int} (h : t.length ≤ 9) : (pad9 t).length = 9 := by simp [pad9]; omega
theorem pad9_bound {t : List Int} (h : ∀ x ∈ t, 0 ≤ x ∧ x ≤ 1) : ∀ x ∈ pad9 t, 0 ≤ x ∧ x ≤ 1 := by
  intro x hx
  rcases List.mem_append.1 hx with hx | hx
  · exact h x hx
  · rw [(List.mem_replicate.1 hx).2]; omega
theorem sum_replicate_zero (n : Nat) : (List.replicate n (0 : Int)).sum = 0 := by
  induction n with
  | zero => rfl
  | succ n ih => rw [List.replicate_succ, List.sum_cons, ih]; rfl
theorem sumFrom_pad (t : List Int) (k : Nat) : sumFrom (pad9 t) 0 k = sumFrom t 0 k := by
  unfold sumFrom pad9
  simp only [List.drop_zero, List.take_append, List.sum_append, List.take_replicate, sum_replicate_zero]
  omega
def sumsOf (c : List Int) : List Int := (List.range 10).map fun k => sumFrom c 0 k
def preSums (c : List Int) (k : Nat) : List Int := (List.range 10).map fun j => if j ≤ k then sumFrom c 0 j else 0
theorem sumsOf_length (c : List Int) : (sumsOf c).length = 10 := by simp [sumsOf]
theorem preSums_length (c : List Int) (k : Nat) : (preSums c k).length = 10 := by simp [preSums]
theorem preSums_nine (c : List Int) : preSums c 9 = sumsOf c := by simp [preSums, sumsOf, List.range, List.range.loop]
theorem preSums_get (c : List Int) (k : Nat) (h : k < 10) : (preSums c k)[k]? = some (sumFrom c 0 k) := by simp [preSums, h]
theorem preSums_set (c : List Int) (k : Nat) : (preSums c k).set (k + 1) (sumFrom c 0 (k + 1)) = preSums c (k + 1) := by
  apply List.ext_getElem?
  intro j
  rw [List.getElem?_set]
  simp only [preSums, List.getElem?_map]
  by_cases hj : k + 1 = j
  · subst hj
    by_cases hk : k + 1 < 10
    · simp [hk]
    · simp [hk]
  · rw [if_neg hj]
    by_cases hk : j < 10
    · simp only [List.getElem?_range hk, Option.map_some]
      by_cases h1 : j ≤ k
      · rw [if_pos h1, if_pos (by omega)]
      · rw [if_neg h1, if_neg (by omega)]
    · simp [hk]
theorem sumsOf_get (c : List Int) (k : Nat) (h : k < 10) : (sumsOf c)[k]? = some (sumFrom c 0 k) := by simp [sumsOf, h]
theorem sumsOf_pad (t : List Int) : sumsOf (pad9 t) = sumsOf t := by simp [sumsOf, sumFrom_pad]
/-! ### What a valid row has -/
structure RowOk (r : RowD) : Prop where
  len0 : 0 < r.places.length
  len9 : r.places.length ≤ 9
  cnt6 : r.counts.length ≤ 6
  wrong : 0 ≤ r.wrong ∧ r.wrong ≤ 6
  off : 0 ≤ r.off ∧ r.off ≤ 9
  place : ∀ p ∈ r.places, 0 ≤ p ∧ p ≤ 2
  cnt : ∀ c ∈ r.counts, 0 ≤ c.many ∧ c.many ≤ r.places.length ∧ 0 ≤ c.num ∧ c.num ≤ 9
theorem inB_iff {n lo hi : Int} : inB n lo hi = true ↔ lo ≤ n ∧ n ≤ hi := by simp [inB]
theorem rowOk_iff {r : RowD} : fault r = 0 ↔ RowOk r := by
  unfold fault
  constructor
  · intro h
    split at h
    · cases h
    · split at h
      · cases h
      · rename_i h1 h2
        simp only [not_or] at h1 h2
        obtain ⟨a, b, c, d, e⟩ := h2
        simp only [Bool.not_eq_false, List.all_eq_true, placeOk, cntOk, Bool.and_eq_true, inB_iff] at b c d e
        exact ⟨by omega, by omega, by omega, b, c, d, fun x hx => ⟨(e x hx).1.1, (e x hx).1.2, (e x hx).2.1, (e x hx).2.2⟩⟩
  · intro h
    rw [if_neg (by have := h.len9; have := h.cnt6; omega), if_neg]
    simp only [not_or, Bool.not_eq_false, List.all_eq_true, placeOk, cntOk, Bool.and_eq_true, inB_iff]
    exact ⟨by have := h.len0; omega, h.wrong, h.off, h.place, fun x hx => ⟨⟨(h.cnt x hx).1, (h.cnt x hx).2.1⟩, (h.cnt x hx).2.2⟩⟩
/-- A truth of the right length, of zeros and ones. -/
def TruthOk (r : RowD) (t : List Int) : Prop := t.length = r.places.length ∧ ∀ x ∈ t, 0 ≤ x ∧ x ≤ 1
/-- The program's own test of a truth. -/
def isP (r : RowD) (t : List Int) : Bool := (t.length == r.places.length) && t.all (fun x => inB x 0 1) && (t.zip r.places).all fun x => x.2 == 2 || x.1 == x.2
theorem zip_all_left {α β : Type} {p : α → Bool} : ∀ {l : List α} {m : List β}, l.length = m.length → ((l.zip m).all fun x => p x.1) = l.all p
  | [], [], _ => rfl
  | a :: l, b :: m, h => by simp only [List.zip_cons_cons, List.all_cons]; rw [zip_all_left (by simpa using h)]
theorem isP_eq (r : RowD) (t : List Int) : isP r t = isTruth r t := by
  unfold isP isTruth placeIs
  by_cases h : t.length = r.places.length
  · rw [← zip_all_left h]
    simp only [h, beq_self_eq_true, Bool.true_and]
    rw [Bool.eq_iff_iff]
    simp only [Bool.and_eq_true, List.all_eq_true]
    constructor
    · rintro ⟨h1, h2⟩ x hx; exact ⟨h1 x hx, h2 x hx⟩
    · intro h; exact ⟨fun x hx => (h x hx).1, fun x hx => (h x hx).2⟩
  · have : (t.length == r.places.length) = false := by simpa using h
    simp [this]
theorem isTruth_ok {r : RowD} {t : List Int} (h : isTruth r t = true) : TruthOk r t := by
  rw [← isP_eq] at h
  simp only [isP, Bool.and_eq_true, beq_iff_eq, List.all_eq_true, inB_iff] at h
  exact ⟨h.1.1, h.1.2⟩
theorem about_sums {r : RowD} {t : List Int} {c : Cnt} (ht : TruthOk r t) (h0 : 0 ≤ c.many) (h1 : c.many ≤ r.places.length) :
    about t c = if c.back then sumFrom t 0 t.length - sumFrom t 0 (t.length - c.many.toNat) else sumFrom t 0 c.many.toNat := by
  unfold about
  split
  · have h := sumFrom_split t 0 (t.length - c.many.toNat) c.many.toNat
    rw [show t.length - c.many.toNat + c.many.toNat = t.length by rw [ht.1]; omega, Nat.zero_add] at h
    omega
  · rfl
theorem about_bound {r : RowD} {t : List Int} {c : Cnt} (ht : TruthOk r t) (_h0 : 0 ≤ c.many) (h1 : c.many ≤ r.places.length) (h9 : r.places.length ≤ 9) : 0 ≤ about t c ∧ about t c ≤ 9 := by
  unfold about
  split
  · have := sumFrom_bound ht.2 (t.length - c.many.toNat) c.many.toNat; omega
  · have := sumFrom_bound ht.2 0 c.many.toNat; omega
theorem errOf_bound {r : RowD} {t : List Int} {c : Cnt} (hr : RowOk r) (ht : TruthOk r t) (hc : c ∈ r.counts) : 0 ≤ errOf t c ∧ errOf t c ≤ 9 := by
  obtain ⟨a, b, d, e⟩ := hr.cnt c hc
  have := about_bound ht a b hr.len9
  unfold errOf; omega
/-! ### All truths, one after the other -/
/-- What the first k choices at a place p come to. -/
def brs (p : Int) (ps pre : List Int) (k : Nat) : List (List Int) := (List.range k).flatMap fun (m : Nat) => if p = 2 ∨ p = (m : Int) then (allT ps).map (fun t => pad9 (pre ++ (m : Int) :: t)) else []
theorem brs_zero {p : Int} {ps pre : List Int} : brs p ps pre 0 = [] := rfl
theorem brs_no {p : Int} {ps pre : List Int} {k : Nat} (h : ¬ (p = 2 ∨ p = (k : Int))) : brs p ps pre (k + 1) = brs p ps pre k := by
  unfold brs; rw [List.range_succ, List.flatMap_append]; simp [h]
theorem brs_yes {p : Int} {ps pre : List Int} {k : Nat} (h : p = 2 ∨ p = (k : Int)) : brs p ps pre (k + 1) = brs p ps pre k ++ (allT ps).map (fun t => pad9 (pre ++ [(k : Int)] ++ t)) := by
  unfold brs; rw [List.range_succ, List.flatMap_append]; simp [h]
theorem brs_two {p : Int} {ps pre : List Int} : brs p ps pre 2 = (allT (p :: ps)).map (fun t => pad9 (pre ++ t)) := by
  by_cases h2 : p = 2
  · simp [brs, allT, List.range, List.range.loop, Function.comp_def, h2]
  · by_cases h0 : p = 0
    · simp [brs, allT, List.range, List.range.loop, Function.comp_def, h0]
    · by_cases h1 : p = 1
      · simp [brs, allT, List.range, List.range.loop, Function.comp_def, h1]
      · have : ¬ (1 : Int) = p := fun e => h1 e.symm
        simp [brs, allT, List.range, List.range.loop, h2, h0, h1]
theorem brs_rest {p : Int} {ps pre : List Int} {k : Nat} (hk : k < 2) : ∃ r, brs p ps pre 2 = brs p ps pre (k + 1) ++ r := by
  rcases (by omega : k = 0 ∨ k = 1) with rfl | rfl
  · refine ⟨if p = 2 ∨ p = 1 then (allT ps).map (fun t => pad9 (pre ++ 1 :: t)) else [], ?_⟩
    simp [brs, List.range, List.range.loop]
  · exact ⟨[], by simp⟩
theorem choose_leaf {pre c : List Int} {n : Nat} (_h9 : c.length = 9) (hp : c.take n = pre) (hn : pre.length = n) (hz : c.drop n = List.replicate (9 - n) 0) : c = pad9 pre := by
  rw [← List.take_append_drop n c, hp, hz]; unfold pad9; rw [hn]
theorem choose_set {pre c : List Int} {i n : Nat} {k : Int} (h9 : c.length = 9) (hi : i < n) (hn : n ≤ 9) (hp : c.take i = pre) (hz : c.drop n = List.replicate (9 - n) 0) :
    (c.set i k).length = 9 ∧ (c.set i k).take (i + 1) = pre ++ [k] ∧ (c.set i k).drop n = List.replicate (9 - n) 0 := by
  refine ⟨by simpa using h9, ?_, ?_⟩
  · rw [List.take_succ_eq_append_getElem (by simp; omega), List.take_set_of_le (Nat.le_refl _), hp]; simp
  · rw [List.drop_set_of_lt hi, hz]
theorem allT_length (l : List Int) : (allT l).length ≤ 2 ^ l.length := by
  induction l with
  | nil => simp [allT]
  | cons p ps ih =>
    simp only [allT, List.length_append, List.length_cons, Nat.pow_succ]
    have : ∀ (c : Prop) [Decidable c] (f : List Int → List Int), (if c then (allT ps).map f else []).length ≤ (allT ps).length := by intro c _ f; split <;> simp
    have h1 := this (p = 2 ∨ p = 0) (0 :: ·)
    have h2 := this (p = 2 ∨ p = 1) (1 :: ·)
    omega
theorem allT_ok {l t : List Int} (h : t ∈ allT l) : t.length = l.length ∧ ∀ x ∈ t, 0 ≤ x ∧ x ≤ 1 := by
  induction l generalizing t with
  | nil => simp [allT] at h; subst h; simp
  | cons p ps ih =>
    simp only [allT, List.mem_append] at h
    rcases h with h | h
    · split at h
      · obtain ⟨t', ht', rfl⟩ := List.mem_map.1 h
        refine ⟨by simp [(ih ht').1], fun x hx => ?_⟩
        rcases List.mem_cons.1 hx with rfl | hx
        · omega
        · exact (ih ht').2 x hx
      · simp at h
    · split at h
      · obtain ⟨t', ht', rfl⟩ := List.mem_map.1 h
        refine ⟨by simp [(ih ht').1], fun x hx => ?_⟩
        rcases List.mem_cons.1 hx with rfl | hx
        · omega
        · exact (ih ht').2 x hx
      · simp at h
theorem allT_step {places x : List Int} {pre r : List (List Int)} (h : (allT places).map pad9 = pre ++ x :: r) : ∃ t, (allT places)[pre.length]? = some t ∧ x = pad9 t ∧ t ∈ allT places ∧ (allT places).take (pre ++ [x]).length = (allT places).take pre.length ++ [t] := by
  have h1 : ((allT places).map pad9)[pre.length]? = some x := by rw [h]; simp
  rw [List.getElem?_map, Option.map_eq_some_iff] at h1
  obtain ⟨t, ht, hx⟩ := h1
  refine ⟨t, ht, hx.symm, List.mem_of_getElem? ht, ?_⟩
  rw [List.length_append, List.length_singleton, List.take_add_one, ht]; rfl
/-- The error of what is asked. -/
def askErr (r : RowD) (fine : Bool) : Int := if fault r ≠ 0 then fault r else if fine = false then 2 else if truths r = [] then 11 else 0
def partOk (r : RowD) (i j : Int) : Bool := inB i 0 (r.places.length - 1) && inB j i (r.places.length - 1)
/-! ### Bounds, verdicts -/
def loOf (ts : List (List Int)) (i j : Nat) : Int := minL (ts.map fun t => partOf t i j)
def hiOf (ts : List (List Int)) (i j : Nat) : Int := maxL (ts.map fun t => partOf t i j)
theorem foldl_min_self (l : List Int) (a : Int) (h : l[0]? = some a) : l.foldl min a = minL l := by
  cases l with
  | nil => simp at h
  | cons x l => simp at h; subst h; simp [minL]
theorem foldl_max_self (l : List Int) (a : Int) (h : l[0]? = some a) : l.foldl max a = maxL l := by
  cases l with
  | nil => simp at h
  | cons x l => simp at h; subst h; simp [maxL]
theorem partOf_bound {t : List Int} (hb : ∀ x ∈ t, 0 ≤ x ∧ x ≤ 1) (i j : Nat) (hj : j < 9) : 0 ≤ partOf t i j ∧ partOf t i j ≤ 9 := by
  unfold partOf; have := sumFrom_bound hb i (j + 1 - i); omega
theorem truths_ok {r : RowD} {t : List Int} (h : t ∈ truths r) : TruthOk r t := allT_ok (List.mem_filter.1 h).1
/-! ### Looks -/
/-! ### The least number of wrong counts -/
/-! ### All truths, place by place -/
end Go.Fs.C1
namespace Go.Fs
open C1
def RC : Rd Cnt := fun _ c cs => cs = [.bool c.back, .int .i64 c.many, .int .i64 c.num]
theorem RC.up : RC.Up := fun _ _ _ h => h
def iV (n : Int) : Value := .int .i64 n
def cV (c : Cnt) : Value := .agg #[.bool c.back, .int .i64 c.many, .int .i64 c.num]
def RowIs (D : Data) (v : Value) (r : RowD) : Prop := ∃ pv cv, v = .agg #[pv, cv, .int .i64 r.wrong, .int .i64 r.off] ∧ Sl D RI 1 pv r.places ∧ Sl D RC 3 cv r.counts
theorem RowIs.up {D D' : Data} {v : Value} {r : RowD} (h : RowIs D v r) (hl : Le D D') : RowIs D' v r := by
  obtain ⟨pv, cv, hv, hp, hc⟩ := h
  exact ⟨pv, cv, hv, hp.up RI.up hl, hc.up RC.up hl⟩
/-- The first index of an element of which p is true; -1 if there is none. -/
def idxOf {α : Type} (p : α → Bool) (xs : List α) : Int := if xs.any p then (xs.findIdx p : Int) else -1
def RT : Rd (List Int) := fun _ t cs => cs = ints (pad9 t)
theorem RT.up : RT.Up := fun _ _ _ h => h
/-- A row at work. -/
def WorkIs (D : Data) (v : Value) (r : RowD) : Prop := ∃ b pv cv tv, v = .pointer (some ⟨b, 0, none⟩) ∧ At D b 0 [pv, cv, .int .i64 r.wrong, .int .i64 r.off, tv] ∧ Sl D RI 1 pv r.places ∧ Sl D RC 3 cv r.counts ∧ Sl D RT 9 tv (truths r)
/-- The loop of 'asked': the truths that fit, so far. -/
def AskI (e : Nat) (r : RowD) (pre : List (List Int)) (g : Value × Boxes) : Prop := Acc e 9 g.1 (((allT r.places).take pre.length).filter (fits r)).length ((((allT r.places).take pre.length).filter (fits r)).flatMap fun t => ints (pad9 t)) g.2
theorem flat_length {l : List (List Int)} (h : ∀ t ∈ l, t.length ≤ 9) : (l.flatMap fun t => ints (pad9 t)).length = l.length * 9 := by
  induction l with
  | nil => rfl
  | cons t l ih =>
    rw [List.flatMap_cons, List.length_append, ih (fun t ht => h t (List.mem_cons_of_mem _ ht)), List.length_cons, Fs.ints_length, pad9_length (h t List.mem_cons_self), Nat.add_mul]
    omega
theorem flat_get {l : List (List Int)} (h : ∀ t ∈ l, t.length ≤ 9) {i : Nat} {t : List Int} (hi : l[i]? = some t) : ((l.flatMap fun t => ints (pad9 t)).drop (i * 9)).take 9 = ints (pad9 t) := by
  induction l generalizing i with
  | nil => simp at hi
  | cons u l ih =>
    have hu : (ints (pad9 u)).length = 9 := by rw [Fs.ints_length, pad9_length (h u List.mem_cons_self)]
    rw [List.flatMap_cons]
    cases i with
    | zero =>
      obtain rfl : u = t := by simpa using hi
      rw [Nat.zero_mul, List.drop_zero, List.take_append_of_le_length (by omega), List.take_of_length_le (by omega)]
    | succ i =>
      rw [List.drop_append, List.drop_eq_nil_of_le (by omega), List.nil_append, hu, show (i + 1) * 9 - 9 = i * 9 by omega]
      exact ih (fun t ht => h t (List.mem_cons_of_mem _ ht)) (by simpa using hi)
theorem Froz.truths {D : Data} {v : Value} {n : Nat} {l : List (List Int)} (hF : Froz D v n (l.flatMap fun t => Fs.ints (pad9 t))) (hn : l.length = n) (hb : n ≤ 9223372036854775807) (h : ∀ t ∈ l, t.length ≤ 9) : Sl D RT 9 v l :=
  hF.sl hn hb fun i t hi => ⟨Fs.ints (pad9 t), rfl, by rw [Fs.ints_length, pad9_length (h t (List.mem_of_getElem? hi))], flat_get h hi⟩
theorem acc_one {e sz b : Nat} {cells : List Value} (h : cells.length = sz) : Acc e sz (.slice (some ⟨b, 0, none⟩) 1 1) 1 cells [(b, .cells cells.toArray e (0, 0))] :=
  Or.inr ⟨b, 1, [], rfl, Nat.le_refl _, by simp, by omega, by simp; omega⟩
theorem Froz.at {D : Data} {b n cap : Nat} {cells : List Value} (h : Froz D (.slice (some ⟨b, 0, none⟩) n cap) n cells) (hn : 0 < n) : At D b 0 cells := by
  rcases h with ⟨a, hv, h0, _⟩ | ⟨b', cap', hv, _, hA⟩
  · omega
  · cases hv; exact hA
end Go.Fs
namespace Go.Fs
namespace C3
open C1 (inB inB_iff)
structure Lin where
  kind : Int
  chair : Int
  token : Int
deriving DecidableEq
structure Cn where
  after : Int
  lo : Int
  hi : Int
deriving DecidableEq
structure BookD where
  chairs : Int
  coin : Int
  box : Int
  lines : List Lin
  counts : List Cn
def lineOk (n : Int) (l : Lin) : Bool := inB l.kind 0 2 && inB l.chair (-1) (n - 1) && inB l.token (-1) (n - 1)
def cntOk (len : Int) (c : Cn) : Bool := inB c.after 0 len && decide (0 ≤ c.lo) && decide (c.lo ≤ c.hi) && decide (c.hi ≤ 2000)
/-- What a sign can be, from one number up to another one. -/
def waysB (sign none lo hi : Int) : List Int := if sign ≠ none then [sign] else (List.range (hi + 1 - lo).toNat).map fun i : Nat => lo + (i : Int)
def readings (n : Int) (l : Lin) : List Lin := (waysB l.kind 0 1 2).flatMap fun k => (waysB l.chair (-1) 0 (n - 1)).flatMap fun c => (waysB l.token (-1) 0 (n - 1)).map fun t => ⟨k, c, t⟩
def manyK (n : Int) (ls : List Lin) : Int := ls.foldl (fun m l => min (m * (readings n l).length) 4097) 1
def bookOk (b : BookD) : Bool := inB b.chairs 1 4 && inB b.coin 1 99 && inB b.box 0 999 && b.lines.all (lineOk b.chairs) && b.counts.all (cntOk b.lines.length)
def fault (b : BookD) : Int := if 8 < b.lines.length ∨ 4 < b.counts.length then 3 else if bookOk b = false then 1 else if 4096 < manyK b.chairs b.lines then 3 else 0
/-- What is so after some lines: by which line (from 1) chairs and tokens are out, the money, mixed returns. -/
structure Sc where
  ch : List Int
  tk : List Int
  money : Int
  mixed : Int
deriving DecidableEq
def scL (s : Sc) : List Int := s.ch ++ s.tk ++ [s.money, s.mixed]
def getI (l : List Int) (i : Int) : Int := l.getD i.toNat 0
def canN (s : Sc) (l : Lin) : Bool := (decide (getI s.ch l.chair ≠ 0) == decide (l.kind = 2)) && (decide (getI s.tk l.token ≠ 0) == decide (l.kind = 2))
def nextN (b : BookD) (s : Sc) (i : Int) (l : Lin) : Sc :=
  if l.kind = 2 then ⟨s.ch.set l.chair.toNat 0, s.tk.set l.token.toNat 0, s.money - b.coin, if getI s.ch l.chair ≠ getI s.tk l.token then s.mixed + 1 else s.mixed⟩
  else ⟨s.ch.set l.chair.toNat (i + 1), s.tk.set l.token.toNat (i + 1), s.money + b.coin, s.mixed⟩
def countedB (b : BookD) (s : Sc) (after : Int) : Bool := b.counts.all fun c => decide (c.after ≠ after) || inB s.money c.lo c.hi
def begin0 (b : BookD) : Sc := ⟨[0, 0, 0, 0], [0, 0, 0, 0], b.box, 0⟩
/-- All waysB to go on: the lines that are read, and the scenes from this one on. -/
def runs (b : BookD) : List Lin → Nat → Sc → List (List Lin × List Sc)
  | [], i, s => if countedB b s i = true then [([], [s])] else []
  | l :: ls, i, s => if countedB b s i = true then (readings b.chairs l).flatMap fun r => if canN s r = true then (runs b ls (i + 1) (nextN b s i r)).map fun x => (r :: x.1, s :: x.2) else [] else []
def truths (b : BookD) : List (List Lin × List Sc) := runs b b.lines 0 (begin0 b)
def askB (b : BookD) (fine : Bool) : Int := if fault b ≠ 0 then fault b else if fine = false then 2 else if truths b = [] then 11 else 0
/-- The scene's shape after some lines, in a list of scenes. -/
def atS (ss : List Sc) (k : Nat) : Sc := ss.getD k ⟨[], [], 0, 0⟩
/-- How often something is so, of truths whose scenes in a row differ. -/
structure VSt where
  last : List Int
  many : Nat
  yes : List Int
def vstep (n : Nat) (q : Sc → Nat → Bool) (v : VSt) (s : Sc) : VSt :=
  if v.many ≠ 0 ∧ s.ch ++ s.tk = v.last then v else ⟨s.ch ++ s.tk, v.many + 1, (List.range n).map fun i => v.yes.getD i 0 + if q s i = true then 1 else 0⟩
def vrun (n : Nat) (q : Sc → Nat → Bool) (ss : List Sc) : VSt := ss.foldl (vstep n q) ⟨[], 0, List.replicate n 0⟩
def vdOf (many : Nat) (y : Int) : Int := if y = many then 1 else if y = 0 then 2 else 3
def verdicts (n : Nat) (q : Sc → Nat → Bool) (ss : List Sc) : List Int := (vrun n q ss).yes.map (vdOf (vrun n q ss).many)
def qCh (s : Sc) (i : Nat) : Bool := decide (s.ch.getD i 0 ≠ 0)
def qTk (s : Sc) (i : Nat) : Bool := decide (s.tk.getD i 0 ≠ 0)
end C3
open C1 C3
def RLin : Rd Lin := fun _ l cs => cs = [.int .i64 l.kind, .int .i64 l.chair, .int .i64 l.token]
theorem RLin.up : RLin.Up := fun _ _ _ h => h
def RCn : Rd Cn := fun _ c cs => cs = [.int .i64 c.after, .int .i64 c.lo, .int .i64 c.hi]
theorem RCn.up : RCn.Up := fun _ _ _ h => h
def linV (l : Lin) : Value := .agg #[.int .i64 l.kind, .int .i64 l.chair, .int .i64 l.token]
def cnV (c : Cn) : Value := .agg #[.int .i64 c.after, .int .i64 c.lo, .int .i64 c.hi]
def BookIs (D : Data) (v : Value) (b : BookD) : Prop := ∃ lv cv, v = .agg #[.int .i64 b.chairs, .int .i64 b.coin, .int .i64 b.box, lv, cv] ∧ Sl D RLin 3 lv b.lines ∧ Sl D RCn 3 cv b.counts
theorem BookIs.up {D D' : Data} {v : Value} {b : BookD} (h : BookIs D v b) (hl : Le D D') : BookIs D' v b := by
  obtain ⟨lv, cv, e, h1, h2⟩ := h
  exact ⟨lv, cv, e, h1.up RLin.up hl, h2.up RCn.up hl⟩
def scV (s : Sc) : Value := .agg (ints (scL s)).toArray
def RSc : Rd Sc := fun _ s cs => cs = ints (scL s)
theorem RSc.up : RSc.Up := fun _ _ _ h => h
end Go.Fs
namespace Go.Fs
open Go.Proofs
open C3 Go.ChangeShapes Go.WideShapes Go.RowKit
theorem list2 {α : Type} {l : List α} (h : l.length = 2) : ∃ a b, l = [a, b] := by
  match l, h with
  | [a, b], _ => exact ⟨a, b, rfl⟩
theorem list5 {α : Type} {l : List α} (h : l.length = 5) : ∃ a b c d e, l = [a, b, c, d, e] := by
  match l, h with
  | [a, b, c, d, e], _ => exact ⟨a, b, c, d, e, rfl⟩
def RBook : Rd BookD := fun D y cs => BookIs D (.agg cs.toArray) y
section
variable {H : Type} {enc : TypeId × Value → H} {P : Program} {t : TypeId} {fs : Array Field} {W : World} {r : Reach} {b0 : Nat} {v : Value} {d : DataW H} {ps : List MemPlace} {k : Nat}
theorem trod_field {n : Nat} {cs : List Value} {x : DataW H × List MemPlace} (ht : P.underlying t = some (.struct fs)) (h : DataW.trod enc P W 0 (fun _ => true) true n t cs = some x) :
    cs.length = P.cellsOf t ∧ ∀ (i o u : Nat), (fs[i]?).map (fun f => (f.offset, f.type)) = some (o, u) → ∃ m y, DataW.trod enc P W 0 (fun _ => true) true m u ((cs.drop o).take (P.cellsOf u)) = some y := by
  obtain ⟨xs, m, _, _, hlen, hsz, hf⟩ := DataW.trod_struct ht h
  refine ⟨hlen, fun i o u hi => ?_⟩
  rw [Option.map_eq_some_iff] at hi
  obtain ⟨f, hi, he⟩ := hi
  simp only [Prod.mk.injEq] at he
  obtain ⟨rfl, rfl⟩ := he
  have h1 := hf i f hi
  have hl : i < xs.length := by rw [hsz]; exact (Array.getElem?_eq_some_iff.1 hi).1
  rw [List.getElem?_eq_getElem hl] at h1
  exact ⟨m, _, h1⟩
theorem open_book (ht : P.underlying t = some (.struct fs)) (hk : P.cellsOf t = k) (hr : Reads P t RBook) (hval : Value.okWide P W r b0 t v) (hd : DataW.Trod enc P W 0 (fun _ => true) true t v d ps) : ∃ y, BookIs (full W) v y := by
  obtain ⟨cs, rfl, hsz, n, x, hx⟩ := open_struct ht hk hval hd
  obtain ⟨r, hr⟩ := hr _ _ _ _ _ hx
  exact ⟨r, by simpa [RBook] using hr⟩
end
theorem cells_25 : Try.prog.cellsOf 25 = 5 := by kernel_rfl
theorem cells_22 : Try.prog.cellsOf 22 = 1 := by kernel_rfl
theorem cells_68 : Try.prog.cellsOf 68 = 3 := by kernel_rfl
theorem cells_23 : Try.prog.cellsOf 23 = 1 := by kernel_rfl
theorem cells_72 : Try.prog.cellsOf 72 = 3 := by kernel_rfl
theorem cells_70 : Try.prog.cellsOf 70 = 2 := by kernel_rfl
theorem cells_3 : Try.prog.cellsOf 3 = 1 := by kernel_rfl
theorem reads_lin : Reads Try.prog 68 RLin := fun enc W n cs x hx => by
  obtain ⟨hl, hp⟩ := trod_parts Try.underlying68 cells_68 hx
  obtain ⟨c0, c1, c2, rfl⟩ := list3 hl
  obtain ⟨m0, y0, h0⟩ := hp 0 0 3 c0 rfl cells_3 rfl
  obtain ⟨k0, e0, _⟩ := DataW.trod_int Try.underlying3 h0
  obtain ⟨m1, y1, h1⟩ := hp 1 1 3 c1 rfl cells_3 rfl
  obtain ⟨k1, e1, _⟩ := DataW.trod_int Try.underlying3 h1
  obtain ⟨m2, y2, h2⟩ := hp 2 2 3 c2 rfl cells_3 rfl
  obtain ⟨k2, e2, _⟩ := DataW.trod_int Try.underlying3 h2
  simp only [List.cons.injEq, and_true] at e0 e1 e2
  subst e0 e1 e2
  exact ⟨⟨k0, k1, k2⟩, rfl⟩
theorem reads_rg : Reads Try.prog 70 (fun _ (p : Int × Int) cs => cs = [.int .i64 p.1, .int .i64 p.2]) := fun enc W n cs x hx => by
  obtain ⟨hl, hp⟩ := trod_parts Try.underlying70 cells_70 hx
  obtain ⟨c0, c1, rfl⟩ := list2 hl
  obtain ⟨m0, y0, h0⟩ := hp 0 0 3 c0 rfl cells_3 rfl
  obtain ⟨k0, e0, _⟩ := DataW.trod_int Try.underlying3 h0
  obtain ⟨m1, y1, h1⟩ := hp 1 1 3 c1 rfl cells_3 rfl
  obtain ⟨k1, e1, _⟩ := DataW.trod_int Try.underlying3 h1
  simp only [List.cons.injEq, and_true] at e0 e1
  subst e0 e1
  exact ⟨(k0, k1), rfl⟩
theorem reads_cn : Reads Try.prog 72 RCn := fun enc W n cs x hx => by
  obtain ⟨hl, hp⟩ := trod_field Try.underlying72 hx
  rw [cells_72] at hl
  obtain ⟨c0, c1, c2, rfl⟩ := list3 hl
  obtain ⟨m0, y0, h0⟩ := hp 0 0 3 rfl
  obtain ⟨m1, y1, h1⟩ := hp 1 1 70 rfl
  rw [cells_3] at h0
  rw [cells_70] at h1
  obtain ⟨k, e0, _⟩ := DataW.trod_int Try.underlying3 h0
  obtain ⟨p, e1⟩ := reads_rg _ _ _ _ _ h1
  simp only [List.drop_zero, List.drop_succ_cons, List.take_succ_cons, List.take_zero, List.cons.injEq, and_true] at e0 e1
  obtain ⟨rfl, rfl⟩ := e1
  subst e0
  exact ⟨⟨k, p.1, p.2⟩, rfl⟩
theorem reads_lins : Reads Try.prog 22 (RSl RLin 3) := Reads.slice Try.underlying22 cells_68 (by decide) reads_lin
theorem reads_cns : Reads Try.prog 23 (RSl RCn 3) := Reads.slice Try.underlying23 cells_72 (by decide) reads_cn
theorem reads_book : Reads Try.prog 25 RBook := fun enc W n cs x hx => by
  obtain ⟨hl, hp⟩ := trod_parts Try.underlying25 cells_25 hx
  obtain ⟨c0, c1, c2, c3, c4, rfl⟩ := list5 hl
  obtain ⟨m0, y0, h0⟩ := hp 0 0 3 c0 rfl cells_3 rfl
  obtain ⟨m1, y1, h1⟩ := hp 1 1 3 c1 rfl cells_3 rfl
  obtain ⟨m2, y2, h2⟩ := hp 2 2 3 c2 rfl cells_3 rfl
  obtain ⟨m3, y3, h3⟩ := hp 3 3 22 c3 rfl cells_22 rfl
  obtain ⟨m4, y4, h4⟩ := hp 4 4 23 c4 rfl cells_23 rfl
  obtain ⟨k0, e0, _⟩ := DataW.trod_int Try.underlying3 h0
  obtain ⟨k1, e1, _⟩ := DataW.trod_int Try.underlying3 h1
  obtain ⟨k2, e2, _⟩ := DataW.trod_int Try.underlying3 h2
  obtain ⟨ls, u3, e3, s3⟩ := reads_lins _ _ _ _ _ h3
  obtain ⟨cs, u4, e4, s4⟩ := reads_cns _ _ _ _ _ h4
  simp only [List.cons.injEq, and_true] at e0 e1 e2 e3 e4
  subst e0 e1 e2 e3 e4
  exact ⟨⟨k0, k1, k2, ls, cs⟩, _, _, rfl, s3, s4⟩
theorem cells_104 : Try.prog.cellsOf 104 = 1 := by kernel_rfl
theorem reads_words : Reads Try.prog 26 (RSl (RK .u16) 1) := Reads.slice Try.underlying26 cells_104 (by decide) (Reads.kind Try.underlying104)
end Go.Fs
namespace Go.Fs
open Go.Proofs
open C1
theorem idxOf_at {α : Type} {p : α → Bool} {xs : List α} {k : Nat} {x : α} (hx : xs[k]? = some x) (h : (xs.take k).any p = false) (hp : p x = true) : idxOf p xs = k := by
  have hk := (List.getElem?_eq_some_iff.1 hx).1
  have he := (List.getElem?_eq_some_iff.1 hx).2
  have h1 : xs.any p = true := List.any_eq_true.2 ⟨x, List.mem_of_getElem? hx, hp⟩
  have h2 : xs.findIdx p = k := by
    rw [List.findIdx_eq hk]
    refine ⟨by rw [he]; exact hp, fun j hj => ?_⟩
    have := List.any_eq_false.1 h (xs[j]'(by omega)) (by
      rw [List.mem_take_iff_getElem]; exact ⟨j, by omega, rfl⟩)
    simpa using this
  simp [idxOf, h1, h2]
theorem idxOf_none {α : Type} {p : α → Bool} {xs : List α} (h : xs.any p = false) : idxOf p xs = -1 := by simp [idxOf, h]
theorem idxOf_ge {α : Type} {p : α → Bool} {xs : List α} : decide (0 ≤ idxOf p xs) = xs.any p := by
  unfold idxOf; cases h : xs.any p <;> simp
theorem all_any {α : Type} {p : α → Bool} {xs : List α} : (!xs.any fun x => !p x) = xs.all p := by
  rw [List.all_eq_not_any_not]
theorem within_ok (n lo hi : Int) (D : Data) : Fn Try.prog 56 #[.int .i64 n, .int .i64 lo, .int .i64 hi] D (fun _ v => v = .bool (inB n lo hi)) := by
  refine enter 15 Try.func56 rfl rfl rfl rfl fun h0 => ?_
  refine C.seq ?_
  refine C.region [(false,0)] rfl ?_
  refine L.assign rfl rfl rfl trivial ?_
  refine L.nil ?_
  refine C.next ?_
  refine C.seq ?_
  refine C.region [(false,0),(false,1),(false,2),(false,3),(false,4),(false,5),(false,6),(false,7),(false,8)] rfl ?_
  refine L.move rfl rfl rfl trivial ?_
  refine L.move rfl rfl rfl trivial ?_
  refine L.leq rfl rfl rfl rfl trivial ?_
  refine L.move rfl rfl rfl trivial ?_
  refine' L.and [(false,4),(false,5),(false,6),(false,7)] [(false,8)] (s := 10) (p := 14) rfl rfl (fun hg1 => ?_) (fun hg1 => ?_) ?_
  rotate_left
  · refine L.move rfl rfl rfl ⟨_, rfl, rfl⟩ ?_
    refine L.move rfl rfl rfl ⟨_, rfl, rfl⟩ ?_
    refine L.leq rfl rfl rfl rfl ⟨_, rfl, rfl⟩ ?_
    refine L.pickT rfl rfl rfl rfl trivial ?_
    exact L.nil fun a w hh => hh.cutK 3 rfl
  · refine L.pass rfl rfl rfl ⟨_, _, rfl, rfl, rfl⟩ ?_
    refine L.pass rfl rfl rfl ⟨_, _, rfl, rfl, rfl⟩ ?_
    refine L.pass rfl rfl rfl ⟨_, _, rfl, rfl, rfl⟩ ?_
    refine L.pickF rfl rfl rfl rfl trivial ?_
    exact L.nil fun a w hh => hh.cutK 3 rfl
  refine L.assign rfl rfl rfl trivial ?_
  refine L.nil ?_
  refine C.next ?_
  refine C.ret ?_
  exact leave (vs := [_]) rfl rfl rfl ⟨rfl, trivial⟩ (fun D hD => rfl)
theorem place_ok (n : Int) (D : Data) : Fn Try.prog 75 #[iV n] D (fun _ v => v = .bool (placeOk n)) := by
  refine enter 5 Try.func75 rfl rfl rfl rfl fun h0 => ?_
  refine C.seq ?_
  refine C.region [(false,0)] rfl ?_
  refine L.assign rfl rfl rfl trivial ?_
  refine L.nil ?_
  refine C.next ?_
  refine C.seq ?_
  refine C.region [(false,0),(false,1),(false,2)] rfl ?_
  refine L.move rfl rfl rfl trivial ?_
  refine L.callV rfl rfl rfl (fun D1 hD1 => within_ok _ _ _ _) rfl trivial ?_
  refine L.assign rfl rfl rfl trivial ?_
  refine L.nil ?_
  refine C.next ?_
  refine C.ret ?_
  exact leave (vs := [_]) rfl rfl rfl ⟨rfl, trivial⟩ (fun D hD => rfl)
theorem chair_ok (n : Int) (D : Data) : Fn Try.prog 81 #[iV n] D (fun _ v => v = .bool (inB n 0 1)) := by
  refine enter 5 Try.func81 rfl rfl rfl rfl fun h0 => ?_
  refine C.seq ?_
  refine C.region [(false,0)] rfl ?_
  refine L.assign rfl rfl rfl trivial ?_
  refine L.nil ?_
  refine C.next ?_
  refine C.seq ?_
  refine C.region [(false,0),(false,1),(false,2)] rfl ?_
  refine L.move rfl rfl rfl trivial ?_
  refine L.callV rfl rfl rfl (fun D1 hD1 => within_ok _ _ _ _) rfl trivial ?_
  refine L.assign rfl rfl rfl trivial ?_
  refine L.nil ?_
  refine C.next ?_
  refine C.ret ?_
  exact leave (vs := [_]) rfl rfl rfl ⟨rfl, trivial⟩ (fun D hD => rfl)
theorem count_ok (rv : Value) (r : RowD) (c : Cnt) (D : Data) (hr : RowIs D rv r) : Fn Try.prog 73 #[rv, cV c] D (fun _ v => v = .bool (cntOk r.places.length c)) := by
  obtain ⟨pv, cv, rfl, hp, hc⟩ := hr
  refine enter 16 Try.func73 rfl rfl rfl rfl fun h0 => ?_
  refine C.seq ?_
  refine C.region [(false,0),(false,1),(false,2)] rfl ?_
  refine L.boxD rfl rfl rfl rfl trivial (fun q1 E1 hE1 hB1 => ?_)
  refine L.boxD rfl rfl rfl rfl trivial (fun q2 E2 hE2 hB2 => ?_)
  refine L.assign rfl rfl rfl trivial ?_
  refine L.nil ?_
  refine C.next ?_
  refine C.seq ?_
  refine C.region [(false,0),(false,1),(false,2),(false,3),(false,4),(false,5),(false,6),(false,7),(false,8),(false,9),(false,10),(false,11)] rfl ?_
  refine L.fieldAddr rfl Tf.f66_1 rfl rfl trivial ?_
  refine L.loadD1 rfl (k := 1) Tf.a3 rfl hB2 (by first | simp | assumption) rfl List.not_mem_nil rfl trivial ?_
  refine L.fieldAddr rfl Tf.f59_0 rfl rfl trivial ?_
  refine L.loadD1 rfl (k := 0) Tf.a33 rfl hB1 (by first | simp | assumption) rfl List.not_mem_nil rfl trivial ?_
  refine L.len rfl Try.underlying33 rfl (by assumption) rfl rfl trivial ?_
  refine L.callV rfl rfl rfl (fun D1 hD1 => within_ok _ _ _ _) rfl trivial ?_
  refine L.move rfl rfl rfl trivial ?_
  refine' L.and [(false,7),(false,8),(false,9),(false,10)] [(false,11)] (s := 11) (p := 15) rfl rfl (fun hg1 => ?_) (fun hg1 => ?_) ?_
  rotate_left
  · refine L.fieldAddr rfl Tf.f66_2 rfl rfl ⟨_, rfl, rfl⟩ ?_
    refine L.loadD1 rfl (k := 2) Tf.a3 rfl hB2 (by first | simp | assumption) rfl List.not_mem_nil rfl ⟨_, rfl, rfl⟩ ?_
    refine L.callV rfl rfl rfl (fun D2 hD2 => within_ok _ _ _ _) rfl ⟨_, rfl, rfl⟩ ?_
    refine L.pickT rfl rfl rfl rfl trivial ?_
    exact L.nil fun a w hh => hh.cutK 3 rfl
  · refine L.pass rfl rfl rfl ⟨_, _, rfl, rfl, rfl⟩ ?_
    refine L.pass rfl rfl rfl ⟨_, _, rfl, rfl, rfl⟩ ?_
    refine L.pass rfl rfl rfl ⟨_, _, rfl, rfl, rfl⟩ ?_
    refine L.pickF rfl rfl rfl rfl trivial ?_
    exact L.nil fun a w hh => hh.cutK 3 rfl
  refine L.assign rfl rfl rfl trivial ?_
  refine L.nil ?_
  refine C.next ?_
  refine C.ret ?_
  exact leave (vs := [_]) rfl rfl rfl ⟨rfl, trivial⟩ (fun D hD => rfl)
theorem IndexFuncI_ok (sv fv : Value) (xs : List Int) (p : Int → Bool) (D : Data) (hS : Sl D RI 1 sv xs) (hp : PredOK Try.prog D iV fv p) :
    Fn Try.prog 93 #[sv, fv] D (fun _ v => v = .int .i64 (idxOf p xs)) := by
  have hl := hS.len
  obtain ⟨f, c1, c2, rfl, hf⟩ := hp
  refine enter 19 Try.func93 rfl rfl rfl rfl fun h0 => ?_
  refine C.seq ?_
  refine C.region [(false,0)] rfl ?_
  refine L.assign rfl rfl rfl trivial ?_
  refine L.nil ?_
  refine C.next ?_
  refine C.seq ?_
  refine C.seq ?_
  refine C.region [(false,0),(false,1),(false,2)] rfl ?_
  refine L.move rfl rfl rfl trivial ?_
  refine L.len rfl Try.underlying33 rfl (by assumption) rfl rfl trivial ?_
  refine L.move rfl rfl rfl trivial ?_
  refine L.nil ?_
  refine C.next ?_
  refine C.block ?_
  refine C.loopC (γ := Nat) (fun k => xs.length - k) (fun k => k ≤ xs.length ∧ (xs.take k).any p = false) (fun k => [(8, .int .i64 k)]) [(7, _), (4, _), (0, _), (1, _)] (fun k => [D]) 0 (by simp) ⟨(by first | rfl | (show some (Value.int _ _) = some (Value.int _ _); congr 2; omega)), trivial⟩ ⟨rfl, rfl, rfl, rfl, trivial⟩ (ds_same) ?_
  rintro k ⟨h1, h2⟩
  refine C.seq ?_
  refine C.region [(false,0)] rfl ?_
  refine L.lss rfl rfl rfl rfl trivial ?_
  refine L.nil ?_
  refine C.next ?_
  refine C.seq ?_
  refine C.condD rfl (fun hc1 => ?_) (fun hc1 => ?_)
  · have hk : k < xs.length := by omega
    obtain ⟨x, hx⟩ : ∃ x, xs[k]? = some x := ⟨_, List.getElem?_eq_getElem hk⟩
    refine C.skip ?_
    refine C.next ?_
    refine C.seq ?_
    refine C.block ?_
    refine C.seq ?_
    refine C.region [(false,0),(false,1)] rfl ?_
    refine L.move rfl rfl rfl trivial ?_
    refine L.assign rfl rfl rfl trivial ?_
    refine L.nil ?_
    refine C.next ?_
    refine C.seq ?_
    refine C.region [(false,0),(false,1),(false,2),(false,3),(false,4),(false,5)] rfl ?_
    refine L.move rfl rfl rfl trivial ?_
    refine L.move rfl rfl rfl trivial ?_
    refine L.move rfl rfl rfl trivial ?_
    refine L.indexS rfl Try.underlying33 Tf.s3 rfl (by assumption) rfl (by omega) (by assumption) rfl trivial (fun b1 o1 cs1 hr1 hcl1 hA1 => ?_)
    obtain rfl : cs1 = [.int .i64 _] := hr1
    refine L.loadD1 rfl (k := 0) Tf.a3 rfl hA1 (by first | simp | assumption) rfl List.not_mem_nil rfl trivial ?_
    refine L.callV rfl rfl rfl (fun D1 hD1 => hf x _ (hD1 _ (by simp))) rfl trivial ?_
    refine L.nil ?_
    refine C.next ?_
    refine C.cond rfl (fun hc2 => ?_) (fun hc2 => ?_)
    · refine C.seq ?_
      refine C.region [(false,0),(false,1)] rfl ?_
      refine L.move rfl rfl rfl trivial ?_
      refine L.assign rfl rfl rfl trivial ?_
      refine L.nil ?_
      refine C.next ?_
      refine C.ret ?_
      refine C.blockRet ?_
      refine C.thenRet ?_
      refine C.thenRet ?_
      refine C.blockRet ?_
      refine C.thenRet ?_
      exact leave (vs := [_]) rfl rfl rfl ⟨rfl, trivial⟩ (fun D hD => by show Value.int _ _ = _; rw [idxOf_at hx h2 hc2])
    · refine C.skip ?_
      refine C.blockEnd ?_
      refine C.next ?_
      refine C.region [(false,0),(false,1)] rfl ?_
      refine L.add rfl rfl rfl (by simp only [inK]; omega) rfl trivial ?_
      refine L.move rfl rfl rfl trivial ?_
      refine L.nil ?_
      have hpx : p x = false := hc2
      have h3 : (xs.take (k + 1)).any p = false := by rw [List.take_add_one, hx, List.any_append, h2]; simp [hpx]
      exact C.againR 12 (k + 1) ⟨by omega, h3⟩ (by omega) ⟨(by first | rfl | (show some (Value.int _ _) = some (Value.int _ _); congr 2; omega)), trivial⟩ rfl rfl (List.Sublist.refl _) (ds_same)
  · refine C.exit ?_
    refine C.thenExit ?_
    refine C.thenExit ?_
    refine C.blockExit ?_
    refine C.next ?_
    refine C.seq ?_
    refine C.region [(false,0)] rfl ?_
    refine L.assign rfl rfl rfl trivial ?_
    refine L.nil ?_
    refine C.next ?_
    refine C.ret ?_
    exact leave (vs := [_]) rfl rfl rfl ⟨rfl, trivial⟩ (fun D hD => by show Value.int _ _ = _; rw [idxOf_none (by rwa [List.take_of_length_le (by omega)] at h2)])
theorem ContainsFuncI_ok (sv fv : Value) (xs : List Int) (p : Int → Bool) (D : Data) (hS : Sl D RI 1 sv xs) (hp : PredOK Try.prog D iV fv p) :
    Fn Try.prog 88 #[sv, fv] D (fun _ v => v = .bool (xs.any p)) := by
  refine enter 9 Try.func88 rfl rfl rfl rfl fun h0 => ?_
  refine C.seq ?_
  refine C.region [(false,0)] rfl ?_
  refine L.assign rfl rfl rfl trivial ?_
  refine L.nil ?_
  refine C.next ?_
  refine C.seq ?_
  refine C.region [(false,0),(false,1),(false,2),(false,3),(false,4)] rfl ?_
  refine L.move rfl rfl rfl trivial ?_
  refine L.move rfl rfl rfl trivial ?_
  refine L.callV rfl rfl rfl (fun D1 hD1 => IndexFuncI_ok _ _ xs p _ (Sl.at RI.up hD1 (by assumption) (by simp)) (hp.up (hD1 _ (by simp)))) rfl trivial ?_
  refine L.geq rfl rfl rfl rfl trivial ?_
  refine L.assign rfl rfl rfl trivial ?_
  refine L.nil ?_
  refine C.next ?_
  refine C.ret ?_
  exact leave (vs := [_]) rfl rfl rfl ⟨rfl, trivial⟩ (fun D hD => by show Value.bool (decide _) = _; rw [idxOf_ge])
theorem allI1_ok (b : Nat) (fv : Value) (p : Int → Bool) (x : Int) (D : Data) (hp : PredOK Try.prog D iV fv p) (hB : At D b 0 [fv]) :
    Fn Try.prog 89 #[iV x, .pointer (some ⟨b, 0, none⟩)] D (fun _ v => v = .bool (!p x)) := by
  obtain ⟨f, c1, c2, rfl, hf⟩ := hp
  refine enter 8 Try.func89 rfl rfl rfl rfl fun h0 => ?_
  refine C.seq ?_
  refine C.region [(false,0)] rfl ?_
  refine L.assign rfl rfl rfl trivial ?_
  refine L.nil ?_
  refine C.next ?_
  refine C.seq ?_
  refine C.region [(false,0),(false,1),(false,2),(false,3),(false,4)] rfl ?_
  refine L.loadD1 rfl (k := 0) Tf.a76 rfl hB (by first | simp | assumption) rfl List.not_mem_nil rfl trivial ?_
  refine L.move rfl rfl rfl trivial ?_
  refine L.callV rfl rfl rfl (fun D1 hD1 => hf x _ (hD1 _ (by simp))) rfl trivial ?_
  refine L.not rfl rfl rfl trivial ?_
  refine L.assign rfl rfl rfl trivial ?_
  refine L.nil ?_
  refine C.next ?_
  refine C.ret ?_
  exact leave (vs := [_]) rfl rfl rfl ⟨rfl, trivial⟩ (fun D hD => rfl)
theorem allI_ok (sv fv : Value) (xs : List Int) (p : Int → Bool) (D : Data) (hS : Sl D RI 1 sv xs) (hp : PredOK Try.prog D iV fv p) (h1 : fv.cells = #[fv]) :
    Fn Try.prog 74 #[sv, fv] D (fun _ v => v = .bool (xs.all p)) := by
  refine enter 9 Try.func74 rfl rfl rfl rfl fun h0 => ?_
  refine C.seq ?_
  refine C.region [(false,0),(false,1)] rfl ?_
  refine L.boxD (vs := [fv]) rfl rfl h1 rfl trivial (fun b D1 hD1 hB => ?_)
  refine L.assign rfl rfl rfl trivial ?_
  refine L.nil ?_
  refine C.next ?_
  refine C.seq ?_
  refine C.region [(false,0),(false,1),(false,2),(false,3),(false,4)] rfl ?_
  refine L.move rfl rfl rfl trivial ?_
  refine L.makeFunc rfl rfl rfl rfl trivial ?_
  refine L.callV rfl rfl rfl (fun D1 hD1 => ContainsFuncI_ok _ _ xs (fun x => !p x) _ (Sl.at RI.up hD1 (by assumption) (by simp)) ⟨_, [], [.pointer (some ⟨b, 0, none⟩)], rfl, fun x D2 hl => allI1_ok b fv p x D2 (hp.up ((hD1 _ (by simp)).trans hl)) (hB.up ((hD1 _ (by simp)).trans hl))⟩) rfl trivial ?_
  refine L.not rfl rfl rfl trivial ?_
  refine L.assign rfl rfl rfl trivial ?_
  refine L.nil ?_
  refine C.next ?_
  refine C.ret ?_
  exact leave (vs := [_]) rfl rfl rfl ⟨rfl, trivial⟩ (fun D hD => by show Value.bool (!_) = _; rw [all_any])
theorem IndexFuncC_ok (sv fv : Value) (xs : List Cnt) (p : Cnt → Bool) (D : Data) (hS : Sl D RC 3 sv xs) (hp : PredOK Try.prog D cV fv p) :
    Fn Try.prog 94 #[sv, fv] D (fun _ v => v = .int .i64 (idxOf p xs)) := by
  have hl := hS.len
  obtain ⟨f, c1, c2, rfl, hf⟩ := hp
  refine enter 19 Try.func94 rfl rfl rfl rfl fun h0 => ?_
  refine C.seq ?_
  refine C.region [(false,0)] rfl ?_
  refine L.assign rfl rfl rfl trivial ?_
  refine L.nil ?_
  refine C.next ?_
  refine C.seq ?_
  refine C.seq ?_
  refine C.region [(false,0),(false,1),(false,2)] rfl ?_
  refine L.move rfl rfl rfl trivial ?_
  refine L.len rfl Try.underlying57 rfl (by assumption) rfl rfl trivial ?_
  refine L.move rfl rfl rfl trivial ?_
  refine L.nil ?_
  refine C.next ?_
  refine C.block ?_
  refine C.loopC (γ := Nat) (fun k => xs.length - k) (fun k => k ≤ xs.length ∧ (xs.take k).any p = false) (fun k => [(8, .int .i64 k)]) [(7, _), (4, _), (0, _), (1, _)] (fun k => [D]) 0 (by simp) ⟨(by first | rfl | (show some (Value.int _ _) = some (Value.int _ _); congr 2; omega)), trivial⟩ ⟨rfl, rfl, rfl, rfl, trivial⟩ (ds_same) ?_
  rintro k ⟨h1, h2⟩
  refine C.seq ?_
  refine C.region [(false,0)] rfl ?_
  refine L.lss rfl rfl rfl rfl trivial ?_
  refine L.nil ?_
  refine C.next ?_
  refine C.seq ?_
  refine C.condD rfl (fun hc1 => ?_) (fun hc1 => ?_)
  · have hk : k < xs.length := by omega
    obtain ⟨x, hx⟩ : ∃ x, xs[k]? = some x := ⟨_, List.getElem?_eq_getElem hk⟩
    refine C.skip ?_
    refine C.next ?_
    refine C.seq ?_
    refine C.block ?_
    refine C.seq ?_
    refine C.region [(false,0),(false,1)] rfl ?_
    refine L.move rfl rfl rfl trivial ?_
    refine L.assign rfl rfl rfl trivial ?_
    refine L.nil ?_
    refine C.next ?_
    refine C.seq ?_
    refine C.region [(false,0),(false,1),(false,2),(false,3),(false,4),(false,5)] rfl ?_
    refine L.move rfl rfl rfl trivial ?_
    refine L.move rfl rfl rfl trivial ?_
    refine L.move rfl rfl rfl trivial ?_
    refine L.indexS rfl Try.underlying57 Tf.s66 rfl (by assumption) rfl (by omega) (by assumption) rfl trivial (fun b1 o1 cs1 hr1 hcl1 hA1 => ?_)
    obtain rfl : cs1 = [.bool _, .int .i64 _, .int .i64 _] := hr1
    refine L.loadDW rfl Tf.a66 rfl hA1 (by first | simp | assumption) Tf.s66 List.not_mem_nil rfl trivial ?_
    refine L.callV rfl rfl rfl (fun D1 hD1 => hf x _ (hD1 _ (by simp))) rfl trivial ?_
    refine L.nil ?_
    refine C.next ?_
    refine C.cond rfl (fun hc2 => ?_) (fun hc2 => ?_)
    · refine C.seq ?_
      refine C.region [(false,0),(false,1)] rfl ?_
      refine L.move rfl rfl rfl trivial ?_
      refine L.assign rfl rfl rfl trivial ?_
      refine L.nil ?_
      refine C.next ?_
      refine C.ret ?_
      refine C.blockRet ?_
      refine C.thenRet ?_
      refine C.thenRet ?_
      refine C.blockRet ?_
      refine C.thenRet ?_
      exact leave (vs := [_]) rfl rfl rfl ⟨rfl, trivial⟩ (fun D hD => by show Value.int _ _ = _; rw [idxOf_at hx h2 hc2])
    · refine C.skip ?_
      refine C.blockEnd ?_
      refine C.next ?_
      refine C.region [(false,0),(false,1)] rfl ?_
      refine L.add rfl rfl rfl (by simp only [inK]; omega) rfl trivial ?_
      refine L.move rfl rfl rfl trivial ?_
      refine L.nil ?_
      have hpx : p x = false := hc2
      have h3 : (xs.take (k + 1)).any p = false := by rw [List.take_add_one, hx, List.any_append, h2]; simp [hpx]
      exact C.againR 12 (k + 1) ⟨by omega, h3⟩ (by omega) ⟨(by first | rfl | (show some (Value.int _ _) = some (Value.int _ _); congr 2; omega)), trivial⟩ rfl rfl (List.Sublist.refl _) (ds_same)
  · refine C.exit ?_
    refine C.thenExit ?_
    refine C.thenExit ?_
    refine C.blockExit ?_
    refine C.next ?_
    refine C.seq ?_
    refine C.region [(false,0)] rfl ?_
    refine L.assign rfl rfl rfl trivial ?_
    refine L.nil ?_
    refine C.next ?_
    refine C.ret ?_
    exact leave (vs := [_]) rfl rfl rfl ⟨rfl, trivial⟩ (fun D hD => by show Value.int _ _ = _; rw [idxOf_none (by rwa [List.take_of_length_le (by omega)] at h2)])
theorem ContainsFuncC_ok (sv fv : Value) (xs : List Cnt) (p : Cnt → Bool) (D : Data) (hS : Sl D RC 3 sv xs) (hp : PredOK Try.prog D cV fv p) :
    Fn Try.prog 90 #[sv, fv] D (fun _ v => v = .bool (xs.any p)) := by
  refine enter 9 Try.func90 rfl rfl rfl rfl fun h0 => ?_
  refine C.seq ?_
  refine C.region [(false,0)] rfl ?_
  refine L.assign rfl rfl rfl trivial ?_
  refine L.nil ?_
  refine C.next ?_
  refine C.seq ?_
  refine C.region [(false,0),(false,1),(false,2),(false,3),(false,4)] rfl ?_
  refine L.move rfl rfl rfl trivial ?_
  refine L.move rfl rfl rfl trivial ?_
  refine L.callV rfl rfl rfl (fun D1 hD1 => IndexFuncC_ok _ _ xs p _ (Sl.at RC.up hD1 (by assumption) (by simp)) (hp.up (hD1 _ (by simp)))) rfl trivial ?_
  refine L.geq rfl rfl rfl rfl trivial ?_
  refine L.assign rfl rfl rfl trivial ?_
  refine L.nil ?_
  refine C.next ?_
  refine C.ret ?_
  exact leave (vs := [_]) rfl rfl rfl ⟨rfl, trivial⟩ (fun D hD => by show Value.bool (decide _) = _; rw [idxOf_ge])
theorem allC1_ok (b : Nat) (fv : Value) (p : Cnt → Bool) (x : Cnt) (D : Data) (hp : PredOK Try.prog D cV fv p) (hB : At D b 0 [fv]) :
    Fn Try.prog 91 #[cV x, .pointer (some ⟨b, 0, none⟩)] D (fun _ v => v = .bool (!p x)) := by
  obtain ⟨f, c1, c2, rfl, hf⟩ := hp
  refine enter 8 Try.func91 rfl rfl rfl rfl fun h0 => ?_
  refine C.seq ?_
  refine C.region [(false,0),(false,1)] rfl ?_
  refine L.boxD rfl rfl rfl rfl trivial (fun q1 E1 hE1 hB1 => ?_)
  refine L.assign rfl rfl rfl trivial ?_
  refine L.nil ?_
  refine C.next ?_
  refine C.seq ?_
  refine C.region [(false,0),(false,1),(false,2),(false,3),(false,4)] rfl ?_
  refine L.loadD1 rfl (k := 0) Tf.a144 rfl hB (by first | simp | assumption) rfl List.not_mem_nil rfl trivial ?_
  refine L.loadDW rfl Tf.a66 rfl hB1 (by first | simp | assumption) Tf.s66 List.not_mem_nil rfl trivial ?_
  refine L.callV rfl rfl rfl (fun D1 hD1 => hf x _ (hD1 _ (by simp))) rfl trivial ?_
  refine L.not rfl rfl rfl trivial ?_
  refine L.assign rfl rfl rfl trivial ?_
  refine L.nil ?_
  refine C.next ?_
  refine C.ret ?_
  exact leave (vs := [_]) rfl rfl rfl ⟨rfl, trivial⟩ (fun D hD => rfl)
theorem allC_ok (sv fv : Value) (xs : List Cnt) (p : Cnt → Bool) (D : Data) (hS : Sl D RC 3 sv xs) (hp : PredOK Try.prog D cV fv p) (h1 : fv.cells = #[fv]) :
    Fn Try.prog 76 #[sv, fv] D (fun _ v => v = .bool (xs.all p)) := by
  refine enter 9 Try.func76 rfl rfl rfl rfl fun h0 => ?_
  refine C.seq ?_
  refine C.region [(false,0),(false,1)] rfl ?_
  refine L.boxD (vs := [fv]) rfl rfl h1 rfl trivial (fun b D1 hD1 hB => ?_)
  refine L.assign rfl rfl rfl trivial ?_
  refine L.nil ?_
  refine C.next ?_
  refine C.seq ?_
  refine C.region [(false,0),(false,1),(false,2),(false,3),(false,4)] rfl ?_
  refine L.move rfl rfl rfl trivial ?_
  refine L.makeFunc rfl rfl rfl rfl trivial ?_
  refine L.callV rfl rfl rfl (fun D1 hD1 => ContainsFuncC_ok _ _ xs (fun x => !p x) _ (Sl.at RC.up hD1 (by assumption) (by simp)) ⟨_, [], [.pointer (some ⟨b, 0, none⟩)], rfl, fun x D2 hl => allC1_ok b fv p x D2 (hp.up ((hD1 _ (by simp)).trans hl)) (hB.up ((hD1 _ (by simp)).trans hl))⟩) rfl trivial ?_
  refine L.not rfl rfl rfl trivial ?_
  refine L.assign rfl rfl rfl trivial ?_
  refine L.nil ?_
  refine C.next ?_
  refine C.ret ?_
  exact leave (vs := [_]) rfl rfl rfl ⟨rfl, trivial⟩ (fun D hD => by show Value.bool (!_) = _; rw [all_any])
theorem Min_ok (sv : Value) (x : Int) (xs : List Int) (D : Data) (hS : Sl D RI 1 sv (x :: xs)) :
    Fn Try.prog 70 #[sv] D (fun _ v => v = .int .i64 (xs.foldl min x)) := by
  have hl := hS.len
  simp only [List.length_cons] at hl
  refine enter 25 Try.func70 rfl rfl rfl rfl fun h0 => ?_
  refine C.seq ?_
  refine C.region [(false,0)] rfl ?_
  refine L.assign rfl rfl rfl trivial ?_
  refine L.nil ?_
  refine C.next ?_
  refine C.seq ?_
  refine C.seq ?_
  refine C.region [(false,0),(false,1),(false,2)] rfl ?_
  refine L.move rfl rfl rfl trivial ?_
  refine L.len rfl Try.underlying33 rfl (by assumption) rfl rfl trivial ?_
  refine L.lss rfl rfl rfl rfl trivial ?_
  refine L.nil ?_
  refine C.next ?_
  refine C.condD rfl (fun hc1 => ?_) (fun hc1 => ?_)
  · exact absurd hc1 (by simp only [List.length_cons]; omega)
  · refine C.skip ?_
    refine C.next ?_
    refine C.seq ?_
    refine C.region [(false,0),(false,1),(false,2),(false,3)] rfl ?_
    refine L.move rfl rfl rfl trivial ?_
    refine L.indexS rfl Try.underlying33 Tf.s3 rfl (by assumption) rfl (by omega) (by rfl) rfl trivial (fun b1 o1 cs1 hr1 hcl1 hA1 => ?_)
    obtain rfl : cs1 = [.int .i64 _] := hr1
    refine L.loadD1 rfl (k := 0) Tf.a3 rfl hA1 (by first | simp | assumption) rfl List.not_mem_nil rfl trivial ?_
    refine L.assign rfl rfl rfl trivial ?_
    refine L.nil ?_
    refine C.next ?_
    refine C.seq ?_
    refine C.seq ?_
    refine C.region [(false,0)] rfl ?_
    refine L.assign rfl rfl rfl trivial ?_
    refine L.nil ?_
    refine C.next ?_
    refine C.block ?_
    refine C.loopC (γ := Nat) (fun k => xs.length - k) (fun k => k ≤ xs.length) (fun k => [(3, .int .i64 ((xs.take k).foldl min x)), (4, .int .i64 (k + 1 : Int))]) [(2, _), (0, _)] (fun k => [D]) 0 (by omega) ⟨(by first | rfl | (show some (Value.int _ _) = some (Value.int _ _); congr 2; omega)), (by first | rfl | (show some (Value.int _ _) = some (Value.int _ _); congr 2; omega)), trivial⟩ ⟨rfl, rfl, trivial⟩ (ds_same) ?_
    rintro k h1
    refine C.seq ?_
    refine C.seq ?_
    refine C.region [(false,0),(false,1),(false,2),(false,3)] rfl ?_
    refine L.move rfl rfl rfl trivial ?_
    refine L.move rfl rfl rfl trivial ?_
    refine L.len rfl Try.underlying33 rfl (by assumption) rfl rfl trivial ?_
    refine L.lss rfl rfl rfl rfl trivial ?_
    refine L.nil ?_
    refine C.next ?_
    refine C.condD rfl (fun hc2 => ?_) (fun hc2 => ?_)
    · simp only [List.length_cons] at hc2
      have hk : k < xs.length := by omega
      obtain ⟨y, hy⟩ : ∃ y, xs[k]? = some y := ⟨_, List.getElem?_eq_getElem hk⟩
      have hy2 : (x :: xs)[(k + 1 : Int).toNat]? = some y := by rw [show ((k : Int) + 1).toNat = k + 1 by omega]; simpa using hy
      refine C.skip ?_
      refine C.next ?_
      refine C.seq ?_
      refine C.block ?_
      refine C.region [(false,0),(false,1),(false,2),(false,3),(false,4),(false,5),(false,6)] rfl ?_
      refine L.move rfl rfl rfl trivial ?_
      refine L.move rfl rfl rfl trivial ?_
      refine L.move rfl rfl rfl trivial ?_
      refine L.indexS rfl Try.underlying33 Tf.s3 rfl (by assumption) rfl (by omega) (by assumption) rfl trivial (fun b2 o2 cs2 hr2 hcl2 hA2 => ?_)
      obtain rfl : cs2 = [.int .i64 _] := hr2
      refine L.loadD1 rfl (k := 0) Tf.a3 rfl hA2 (by first | simp | assumption) rfl List.not_mem_nil rfl trivial ?_
      refine L.min2 rfl rfl rfl rfl trivial ?_
      refine L.assign rfl rfl rfl trivial ?_
      refine L.nil ?_
      refine C.blockEnd ?_
      refine C.next ?_
      refine C.region [(false,0),(false,1),(false,2)] rfl ?_
      refine L.move rfl rfl rfl trivial ?_
      refine L.add rfl rfl rfl (by simp only [inK]; omega) rfl trivial ?_
      refine L.assign rfl rfl rfl trivial ?_
      refine L.nil ?_
      have h3 : (xs.take (k + 1)).foldl min x = min ((xs.take k).foldl min x) y := by rw [List.take_add_one, hy, List.foldl_append]; rfl
      exact C.againR 16 (k + 1) (by omega) (by omega) ⟨(by rw [h3]; rfl), (by first | rfl | (show some (Value.int _ _) = some (Value.int _ _); congr 2; omega)), trivial⟩ rfl rfl (List.Sublist.refl _) (ds_same)
    · simp only [List.length_cons] at hc2
      refine C.exit ?_
      refine C.thenExit ?_
      refine C.thenExit ?_
      refine C.blockExit ?_
      refine C.next ?_
      refine C.seq ?_
      refine C.region [(false,0),(false,1)] rfl ?_
      refine L.move rfl rfl rfl trivial ?_
      refine L.assign rfl rfl rfl trivial ?_
      refine L.nil ?_
      refine C.next ?_
      refine C.ret ?_
      exact leave (vs := [_]) rfl rfl rfl ⟨rfl, trivial⟩ (fun D hD => by show Value.int _ _ = _; rw [List.take_of_length_le (by omega)])
theorem minimum_ok (sv : Value) (x : Int) (xs : List Int) (D : Data) (hS : Sl D RI 1 sv (x :: xs)) :
    Fn Try.prog 80 #[sv] D (fun _ v => v = .int .i64 (xs.foldl min x)) := by
  refine enter 5 Try.func80 rfl rfl rfl rfl fun h0 => ?_
  refine C.seq ?_
  refine C.region [(false,0)] rfl ?_
  refine L.assign rfl rfl rfl trivial ?_
  refine L.nil ?_
  refine C.next ?_
  refine C.seq ?_
  refine C.region [(false,0),(false,1),(false,2)] rfl ?_
  refine L.move rfl rfl rfl trivial ?_
  refine L.callV rfl rfl rfl (fun D1 hD1 => Min_ok _ x xs _ (Sl.at RI.up hD1 (by assumption) (by simp))) rfl trivial ?_
  refine L.assign rfl rfl rfl trivial ?_
  refine L.nil ?_
  refine C.next ?_
  refine C.ret ?_
  exact leave (vs := [_]) rfl rfl rfl ⟨rfl, trivial⟩ (fun D hD => rfl)
end Go.Fs
