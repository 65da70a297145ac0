/- More rules: arrays of numbers, building structs and slices, append, closures. -/
import Derived.Test.YtjhdcelmgfajbaaMem
namespace Go.Fs

variable {P : Program} {X : Cx} {γb : Type} [Membership Nat γb] {bad : γb} {all : Array Oper} {K : Act → World → Prop} {Q : Exit → Act → World → Prop}
variable {σ : Slots} {μ : Boxes} {Ds : List Data} {os : List (Bool × Nat)} {fl : Bool} {ix : Nat}
variable {d : Nat} {x y z : Operand} {u v : Value} {ty : TypeId} {pos : String} {aft : Array Edge} {g : Option (Nat × Bool)}

/-! ### Arrays of numbers -/
def ints (l : List Int) : List Value := l.map (Value.int .i64)
@[simp] theorem ints_length (l : List Int) : (ints l).length = l.length := by simp [ints]
theorem ints_get {l : List Int} {k : Nat} {n : Int} (h : l[k]? = some n) : (ints l)[k]? = some (.int .i64 n) := by simp [ints, h]
theorem ints_cell1 (l : List Int) : ∀ v ∈ ints l, cell1 v = true := by intro v hv; simp [ints] at hv; obtain ⟨n, _, rfl⟩ := hv; rfl

/-- The i-th element of an array of one-cell elements in a box. -/
theorem L.indexB {t e : TypeId} {n b : Nat} {k : IntKind} {i : Int} (ho : all[ix]? = some ⟨some d, .indexAddr t x y, ty, pos, aft, g⟩) (ht : P.underlying t = some (.array n e)) (hs : TS P e 1) (hx : ev σ x = some (.pointer (some ⟨b, 0, none⟩))) (hy : ev σ y = some (.int k i)) (h0 : 0 ≤ i) (h1 : i < n)
    (hN : Nat.blt d X.N = true) (hg : Gok all σ g) (kk : WL P X bad all K Q os ((d, .pointer (some ⟨b, i.toNat, none⟩)) :: σ) μ Ds) : WL P X bad all K Q ((fl, ix) :: os) σ μ Ds :=
  L.indexA ho ht hs hx hy h0 h1 hN hg (by simpa using kk)

theorem L.lenA {t e tr : TypeId} {n : Nat} {ats : Array TypeId} (ho : all[ix]? = some ⟨some d, .call { callee := .builtin .len, args := #[x], argTypes := ats }, tr, pos, aft, g⟩) (hat : ats[0]? = some t) (ht : P.underlying t = some (.array n e)) (hx : ev σ x = some v)
    (hN : Nat.blt d X.N = true) (hg : Gok all σ g) (kk : WL P X bad all K Q os ((d, .int .i64 (n : Int)) :: σ) μ Ds) : WL P X bad all K Q ((fl, ix) :: os) σ μ Ds :=
  L.pure ho rfl rfl hN hg (fun ρ hρ w' => by
    have hx' := hρ x _ hx
    simp only [execOp, resolve, invoke, builtin, Builtin.len_, pure_bind]
    simp [hat, hx', Sem.run_bind, TU.of ht w', goInt, go_sem]) kk

/-- A store of a number into an array of numbers. -/
theorem L.storeI {t : TypeId} {b k : Nat} {l : List Int} {n : Int} {e : TypeId} {μ' : Boxes} (ho : all[ix]? = some ⟨none, .store t x y, ty, pos, aft, g⟩) (hs : TS P t 1) (hx : ev σ x = some (.pointer (some ⟨b, k, none⟩))) (hy : ev σ y = some (.int .i64 n))
    (hm : Has μ b (.cells (ints l).toArray e (0, 0)) (.cells (ints (l.set k n)).toArray e (0, 0)) μ') (hl : k < l.length) (hg : Gok all σ g)
    (kk : WL P X bad all K Q os σ μ' Ds) : WL P X bad all K Q ((false, ix) :: os) σ μ Ds :=
  L.store (us := [.int .i64 n]) (vs := ints l) (ws := ints (l.set k n)) ho hx hy rfl hs hm (by simp; omega) (by
    rw [show ints (l.set k n) = (ints l).set k (.int .i64 n) by simp [ints, List.map_set], List.set_eq_take_append_cons_drop, if_pos (by simpa using hl)]
    simp) (by simp [cell1]) hg kk

/-! ### Structs -/
def evps (σ : Slots) : List (Nat × Operand) → Option (List (Nat × Value))
  | [] => some []
  | (i, x) :: xs => match ev σ x, evps σ xs with
    | some v, some vs => some ((i, v) :: vs)
    | _, _ => none

theorem evps_eval {ρ : Operand → Value} (hρ : ∀ x u, ev σ x = some u → ρ x = u) : ∀ {xs : List (Nat × Operand)} {vs : List (Nat × Value)}, evps σ xs = some vs → (xs.map fun p => (p.1, ρ p.2)) = vs
  | [], vs, h => by simp [evps] at h; simp [h]
  | (i, x) :: xs, vs, h => by
    simp only [evps] at h
    cases h1 : ev σ x with
    | none => simp [h1] at h
    | some v1 =>
      cases h2 : evps σ xs with
      | none => simp [h1, h2] at h
      | some v2 =>
        simp [h1, h2] at h
        rw [← h, List.map_cons, hρ x v1 h1, evps_eval hρ h2]

/-- The places of a struct's fields. -/
def TP (P : Program) (t : TypeId) (pl : List (Nat × Nat)) : Prop :=
  ∃ fs, P.underlying t = some (.struct fs) ∧ ∀ w, (fs.mapM (fun f => do pure (f.offset, ← sizeOf f.type) : Field → Sem (Nat × Nat))).run P w = .ok pl.toArray w

theorem run_places {P : Program} : ∀ (fs : List Field) (pl : List (Nat × Nat)), (fs.map fun f => (f.offset, P.cellsOf f.type)) = pl → (∀ f ∈ fs, (P.info? f.type).isSome = true) → ∀ w,
    (fs.mapM (fun f => do pure (f.offset, ← sizeOf f.type) : Field → Sem (Nat × Nat))).run P w = .ok pl w
  | [], pl, h, _, w => by subst h; rfl
  | f :: fs, pl, h, hi, w => by
    subst h
    have hs : (sizeOf f.type).run P w = .ok (P.cellsOf f.type) w := by
      have := hi f List.mem_cons_self
      obtain ⟨i, hi⟩ := Option.isSome_iff_exists.1 this
      exact TS.of (by rw [hi]; simp [Program.cellsOf, hi]) w
    rw [List.mapM_cons, Sem.run_bind, Sem.run_bind, hs]
    simp only [Result.andThen_ok, Sem.run_pure]
    rw [Sem.run_bind, run_places fs _ rfl (fun f hf => hi f (List.mem_cons_of_mem _ hf)) w]
    rfl

theorem TP.of {t : TypeId} {fs : Array Field} {pl : List (Nat × Nat)} (h : P.underlying t = some (.struct fs)) (hp : (fs.toList.map fun f => (f.offset, P.cellsOf f.type)) = pl) (hi : (fs.toList.all fun f => (P.info? f.type).isSome) = true) : TP P t pl := by
  refine ⟨fs, h, fun w => ?_⟩
  have hr := run_places (P := P) fs.toList pl hp (fun f hf => List.all_eq_true.1 hi f hf) w
  have e : fs = fs.toList.toArray := rfl
  rw [e, List.mapM_toArray, Sem.run_map]
  simp only [hr, Result.andThen_ok]

theorem L.build {t : TypeId} {parts : Array (Nat × Operand)} {us : List (Nat × Value)} {zs cs : List Value} {pl : List (Nat × Nat)} (ho : all[ix]? = some ⟨some d, .build t parts, ty, pos, aft, g⟩) (hpl : TP P t pl) (hz : TZ P t (.agg zs.toArray)) (hu : evps σ parts.toList = some us)
    (hf : Instr.fill (fun i => pl[i]?) zs.toArray us = some cs.toArray) (hN : Nat.blt d X.N = true) (hg : Gok all σ g) (kk : WL P X bad all K Q os ((d, .agg cs.toArray) :: σ) μ Ds) : WL P X bad all K Q ((fl, ix) :: os) σ μ Ds :=
  L.pure ho rfl rfl hN hg (fun ρ hρ w' => by
    obtain ⟨fs, h, hp⟩ := hpl
    have e : (parts.map fun (i, x) => (i, ρ x)).toList = us := by rw [← evps_eval hρ hu]; simp
    have hf' : Instr.fill (fun i => pl.toArray[i]?) zs.toArray us = some cs.toArray := by simpa using hf
    simp only [execOp, Instr.build, Sem.run_bind, hz w', Result.andThen_ok, TU.of h w', hp w', Value.cells, e, hf', Sem.run_pure]) kk

/-! ### A slice's literal -/
/-- The cells of the elements one after the other. -/
inductive Flat (sz : Nat) : Nat → List (Nat × Value) → List Value → Prop
  | nil {k} : Flat sz k [] []
  | cons {k v cs r rs} (hv : v.cells = cs.toArray) (hc : cs.length = sz) (h : Flat sz (k + 1) r rs) : Flat sz k ((k, v) :: r) (cs ++ rs)

theorem Flat.len {sz k : Nat} {r : List (Nat × Value)} {rs : List Value} (h : Flat sz k r rs) : rs.length = r.length * sz := by
  induction h with
  | nil => simp
  | cons hv hc h ih => simp [ih, hc, Nat.add_mul]; omega

theorem foldl_set : ∀ (cs : List Value) (j off : Nat) (pre mid post : List Value), pre.length = off + j → mid.length = cs.length →
    (cs.zipIdx j).foldl (fun (a : Array Value) (p : Value × Nat) => a.setIfInBounds (off + p.2) p.1) (pre ++ mid ++ post).toArray = (pre ++ cs ++ post).toArray
  | [], j, off, pre, mid, post, h1, h2 => by have : mid = [] := List.length_eq_zero_iff.1 h2; subst this; rfl
  | c :: cs, j, off, pre, [], post, h1, h2 => by simp at h2
  | c :: cs, j, off, pre, m :: mid, post, h1, h2 => by
    rw [List.zipIdx_cons, List.foldl_cons]
    have e : (pre ++ (m :: mid) ++ post).toArray.setIfInBounds (off + j) c = ((pre ++ [c]) ++ mid ++ post).toArray := by
      rw [← h1]; simp
    rw [e, foldl_set cs (j + 1) off (pre ++ [c]) mid post (by simp; omega) (by simpa using h2)]
    simp

theorem fill_flat {sz : Nat} {k : Nat} {r : List (Nat × Value)} {rs : List Value} (h : Flat sz k r rs) : ∀ (pre zs : List Value), pre.length = k * sz → zs.length = rs.length →
    Instr.fill (fun i => some (i * sz, sz)) (pre ++ zs).toArray r = some (pre ++ rs).toArray := by
  induction h with
  | nil => intro pre zs h1 h2; have : zs = [] := List.length_eq_zero_iff.1 h2; subst this; rfl
  | @cons k v cs r rs hv hc h ih =>
    intro pre zs h1 h2
    obtain ⟨m, post, rfl, hm⟩ : ∃ m post, zs = m ++ post ∧ m.length = cs.length := ⟨zs.take cs.length, zs.drop cs.length, by simp, by rw [List.length_take, h2]; simp⟩
    have hpost : post.length = rs.length := by simp [hm] at h2; omega
    simp only [Instr.fill]
    rw [if_neg]
    · rw [hv]
      have hz : (cs.toArray.zipIdx.foldl (fun (a : Array Value) (p : Value × Nat) => a.setIfInBounds (k * sz + p.2) p.1) (pre ++ m ++ post).toArray) = (pre ++ cs ++ post).toArray := by
        have := foldl_set cs 0 (k * sz) pre m post (by simpa using h1) hm
        rw [← this, ← Array.foldl_toList]
        simp
      have e : (pre ++ (m ++ post)).toArray = (pre ++ m ++ post).toArray := by simp
      rw [e]
      rw [hz, ih (pre ++ cs) post (by simp [h1, hc, Nat.add_mul]) hpost]
      simp
    · rw [hv]
      simp [h1, hc, hm]

theorem L.buildSlice {t e : TypeId} {sz n : Nat} {parts : Array (Nat × Operand)} {us : List (Nat × Value)} {rs : List Value} {z0 : Value} (ho : all[ix]? = some ⟨some d, .buildSlice t n parts, ty, pos, aft, g⟩) (ht : P.underlying t = some (.slice e)) (hs : TS P e sz) (hz : TZ P e z0) (_hz1 : Nat.beq z0.cells.size sz = true)
    (hu : evps σ parts.toList = some us) (hn : us.length = n) (hnz : Nat.ble (n * sz) 4096 = true) (hf : Flat sz 0 us rs) (hN : Nat.blt d X.N = true) (hg : Gok all σ g)
    (kk : ∀ b D, (∀ D₁ ∈ Ds, Le D₁ D) → At D b 0 rs → WL P X bad all K Q os ((d, .slice (some ⟨b, 0, none⟩) n n) :: σ) μ (D :: Ds)) : WL P X bad all K Q ((fl, ix) :: os) σ μ Ds := by
  refine L.loud ho rfl rfl hg fun a w hh => ?_
  obtain ⟨h1, h2, h3, D, h4, h5, h6⟩ := id hh
  have hnz' : n * sz ≤ 4096 := Nat.le_of_ble_eq_true hnz
  have hlen : rs.length = n * sz := by rw [hf.len, hn]
  have e1 : (parts.map fun (i, x) => (i, a.eval x)).toList = us := by rw [← evps_eval (fun _ _ hx => hh.eval hx) hu]; simp
  have hrun : (execOp a.eval ⟨some d, .buildSlice t n parts, ty, pos, aft, g⟩).run P w = .ok (.value (.slice (some ⟨w.heap.size, 0, none⟩) n n)) { w with heap := w.heap.push (.cells rs.toArray e (0, 0)) } := by
    simp only [execOp, Instr.buildSlice, Sem.run_bind, TU.of ht w, Result.andThen_ok, hs w]
    rw [if_neg (by omega)]
    simp only [pure_bind]
    have key : ∀ zc : Array Value, Instr.fill (fun i => some (i * sz, sz)) ((Array.range (n * sz)).map (zc[· % zc.size]!)) us = some rs.toArray := by
      intro zc
      have := fill_flat hf [] ((Array.range (n * sz)).map (zc[· % zc.size]!)).toList (by simp) (by simp [hlen])
      rw [List.nil_append, List.nil_append] at this
      exact this
    split
    · simp only [Sem.run_bind, Sem.run_pure, Result.andThen_ok, e1, key, run_newRow]
    · simp only [Sem.run_bind, Sem.run_pure, Result.andThen_ok, hz w, e1, key, run_newRow]
  rw [hrun]
  obtain ⟨D', hle, hD', hDo, hs'⟩ := h4.pushD rs e
  refine ⟨fun _ => keep_push _ _ _, kk w.heap.size D' (fun D₁ hD₁ => (h5 D₁ hD₁).trans hle) (fun j v hj => by rw [hD']; simpa using hj) _ _ (Hl.put ⟨h1, h2, h3, D', hs', fun D₁ hD₁ => ?_, h6.step (fun _ p hp => Or.inl (List.mem_map.2 ⟨p, hp, rfl⟩)) (fun _ => ⟨by simp, fun b hb _ => ⟨heap_push_lt hb, hDo b (by omega)⟩, rfl⟩) hs'.dom⟩ hN _)⟩
  rcases List.mem_cons.1 hD₁ with rfl | hD₁
  · exact Le.refl _
  · exact (h5 D₁ hD₁).trans hle

/-- A slice that was written out reads as its elements. -/
theorem Sl.of_at {α : Type} {R : Rd α} {D : Data} {sz b n cap : Nat} {xs : List α} {rs : List Value} (hA : At D b 0 rs) (hn : xs.length = n) (hc : n ≤ cap) (hb : n ≤ 9223372036854775807) (h : ∀ i x, xs[i]? = some x → ∃ cs, R D x cs ∧ cs.length = sz ∧ (rs.drop (i * sz)).take sz = cs) : Sl D R sz (.slice (some ⟨b, 0, none⟩) n cap) xs := by
  subst hn
  refine ⟨_, cap, rfl, hc, hb, Or.inr ⟨b, 0, rfl, fun i x hx => ?_⟩⟩
  obtain ⟨cs, hr, hl, hcs⟩ := h i x hx
  refine ⟨cs, hr, hl, fun j v hj => ?_⟩
  have hlt := (List.getElem?_eq_some_iff.1 hj).1
  rw [← hcs, List.getElem?_take_of_lt (by omega), List.getElem?_drop] at hj
  have := hA _ _ hj
  simpa [Nat.add_assoc] using this

theorem Sl.ofInts {D : Data} {b cap : Nat} {l : List Int} {n : Nat} (hA : At D b 0 (ints l)) (hn : l.length = n) (hc : n ≤ cap) (hb : n ≤ 9223372036854775807) : Sl D RI 1 (.slice (some ⟨b, 0, none⟩) n cap) l :=
  Sl.of_at hA hn hc hb fun i x hx => ⟨[.int .i64 x], rfl, rfl, by
    have h := ints_get hx
    have hl := (List.getElem?_eq_some_iff.1 h).1
    rw [Nat.mul_one, List.drop_eq_getElem_cons hl]
    rw [List.getElem?_eq_getElem hl] at h
    simp [Option.some.inj h]⟩

theorem L.makeFunc {f : FuncId} {xs ys : Array Operand} {vs us : List Value} (ho : all[ix]? = some ⟨some d, .makeFunc (.func f) xs ys, ty, pos, aft, g⟩) (hx : evs σ xs.toList = some vs) (hy : evs σ ys.toList = some us) (hN : Nat.blt d X.N = true) (hg : Gok all σ g)
    (kk : WL P X bad all K Q os ((d, .func (.func f) vs.toArray us.toArray) :: σ) μ Ds) : WL P X bad all K Q ((fl, ix) :: os) σ μ Ds :=
  L.pure ho rfl rfl hN hg (fun ρ hρ w' => by
    have e1 : xs.map ρ = vs.toArray := by rw [← evs_eval hρ hx, ← Array.toList_map]
    have e2 : ys.map ρ = us.toArray := by rw [← evs_eval hρ hy, ← Array.toList_map]
    simp only [execOp, Instr.makeFunc, e1, e2, pure_bind, Sem.run_pure]) kk


/-- A new variable that is never written again: data. -/
theorem L.boxD {e : TypeId} {vs : List Value} (ho : all[ix]? = some ⟨some d, .box e x, ty, pos, aft, g⟩) (hx : ev σ x = some v) (hv : v.cells = vs.toArray) (hN : Nat.blt d X.N = true) (hg : Gok all σ g)
    (kk : ∀ b D, (∀ D₁ ∈ Ds, Le D₁ D) → At D b 0 vs → WL P X bad all K Q os ((d, .pointer (some ⟨b, 0, none⟩)) :: σ) μ (D :: Ds)) : WL P X bad all K Q ((fl, ix) :: os) σ μ Ds := by
  refine L.loud ho rfl rfl hg fun a w hh => ?_
  obtain ⟨h1, h2, h3, D, h4, h5, h6⟩ := id hh
  have : (execOp a.eval ⟨some d, .box e x, ty, pos, aft, g⟩).run P w = .ok (.value (.pointer (some ⟨w.heap.size, 0, none⟩))) { w with heap := w.heap.push (.cells vs.toArray e (0, 0)) } := by
    simp only [execOp, hh.eval hx, Instr.box, newVar, hv, Sem.run_bind, run_newRow, Result.andThen_ok, Sem.run_pure]
  rw [this]
  obtain ⟨D', hle, hD', hDo, hs'⟩ := h4.pushD vs e
  refine ⟨fun _ => keep_push _ _ _, kk w.heap.size D' (fun D₁ hD₁ => (h5 D₁ hD₁).trans hle) (fun j v hj => by rw [hD']; simpa using hj) _ _ (Hl.put ⟨h1, h2, h3, D', hs', fun D₁ hD₁ => ?_, h6.step (fun _ p hp => Or.inl (List.mem_map.2 ⟨p, hp, rfl⟩)) (fun _ => ⟨by simp, fun b hb _ => ⟨heap_push_lt hb, hDo b (by omega)⟩, rfl⟩) hs'.dom⟩ hN _)⟩
  rcases List.mem_cons.1 hD₁ with rfl | hD₁
  · exact Le.refl _
  · exact (h5 D₁ hD₁).trans hle

/-- A function value that asks a question of its argument. -/
def PredOK {α : Type} (P : Program) (D : Data) (val : α → Value) (fv : Value) (p : α → Bool) : Prop :=
  ∃ f c1 c2, fv = .func (.func f) (List.toArray c1) (List.toArray c2) ∧ ∀ x D', Le D D' → Fn P f (c1 ++ [val x] ++ c2).toArray D' fun _ v => v = .bool (p x)

theorem PredOK.up {α : Type} {D D' : Data} {val : α → Value} {fv : Value} {p : α → Bool} (h : PredOK P D val fv p) (hl : Le D D') : PredOK P D' val fv p := by
  obtain ⟨f, c1, c2, h1, h2⟩ := h
  exact ⟨f, c1, c2, h1, fun x D'' hl' => h2 x D'' (hl.trans hl')⟩

theorem PredOK.of {α : Type} {D : Data} {val : α → Value} {f : FuncId} {p : α → Bool} (h : ∀ x D', Fn P f #[val x] D' fun _ v => v = .bool (p x)) : PredOK P D val (.func (.func f) #[] #[]) p :=
  ⟨f, [], [], rfl, fun x D' _ => h x D'⟩

end Go.Fs
