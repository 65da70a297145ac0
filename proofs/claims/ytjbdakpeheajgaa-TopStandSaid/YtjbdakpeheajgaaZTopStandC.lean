/- Of the proof of TopStand: More, Append, Iter, Rest. -/
import Derived.Test.YtjbdakpeheajgaaZTopStandB
import Derived.RangeFuncLeaves
import Derived.RangeFuncRecord
namespace Go.Fs
variable {P : Program} {X : Cx} {γb : Type} [Membership Nat γb] {bad : γb} {all : Array Oper} {K : Act → World → Prop} {Q : Exit → Act → World → Prop}
variable {σ : Slots} {μ : Boxes} {Ds : List Data} {os : List (Bool × Nat)} {fl : Bool} {ix : Nat}
variable {d : Nat} {x y z : Operand} {u v : Value} {ty : TypeId} {pos : String} {aft : Array Edge} {g : Option (Nat × Bool)}
/-! ### Arrays of numbers -/
def ints (l : List Int) : List Value := l.map (Value.int .i64)
@[simp] theorem ints_length (l : List Int) : (ints l).length = l.length := by simp [ints]
theorem ints_get {l : List Int} {k : Nat} {n : Int} (h : l[k]? = some n) : (ints l)[k]? = some (.int .i64 n) := by simp [ints, h]
theorem ints_cell1 (l : List Int) : ∀ v ∈ ints l, cell1 v = true := by intro v hv; simp [ints] at hv; obtain ⟨n, _, rfl⟩ := hv; rfl
/-- The i-th element of an array of one-cell elements in a box. -/
theorem L.indexB {t e : TypeId} {n b : Nat} {k : IntKind} {i : Int} (ho : all[ix]? = some ⟨some d, .indexAddr t x y, ty, pos, aft, g⟩) (ht : P.underlying t = some (.array n e)) (hs : TS P e 1) (hx : ev σ x = some (.pointer (some ⟨b, 0, none⟩))) (hy : ev σ y = some (.int k i)) (h0 : 0 ≤ i) (h1 : i < n)
    (hN : Nat.blt d X.N = true) (hg : Gok all σ g) (kk : WL P X bad all K Q os ((d, .pointer (some ⟨b, i.toNat, none⟩)) :: σ) μ Ds) : WL P X bad all K Q ((fl, ix) :: os) σ μ Ds :=
  L.indexA ho ht hs hx hy h0 h1 hN hg (by simpa using kk)
/-- A store of a number into an array of numbers. -/
theorem L.storeI {t : TypeId} {b k : Nat} {l : List Int} {n : Int} {e : TypeId} {μ' : Boxes} (ho : all[ix]? = some ⟨none, .store t x y, ty, pos, aft, g⟩) (hs : TS P t 1) (hx : ev σ x = some (.pointer (some ⟨b, k, none⟩))) (hy : ev σ y = some (.int .i64 n))
    (hm : Has μ b (.cells (ints l).toArray e (0, 0)) (.cells (ints (l.set k n)).toArray e (0, 0)) μ') (hl : k < l.length) (hg : Gok all σ g)
    (kk : WL P X bad all K Q os σ μ' Ds) : WL P X bad all K Q ((false, ix) :: os) σ μ Ds :=
  L.store (us := [.int .i64 n]) (vs := ints l) (ws := ints (l.set k n)) ho hx hy rfl hs hm (by simp; omega) (by
    rw [show ints (l.set k n) = (ints l).set k (.int .i64 n) by simp [ints, List.map_set], List.set_eq_take_append_cons_drop, if_pos (by simpa using hl)]
    simp) (by simp [cell1]) hg kk
/-! ### Structs -/
def evps (σ : Slots) : List (Nat × Operand) → Option (List (Nat × Value))
  | [] => some []
  | (i, x) :: xs => match ev σ x, evps σ xs with
    | some v, some vs => some ((i, v) :: vs)
    | _, _ => none
theorem evps_eval {ρ : Operand → Value} (hρ : ∀ x u, ev σ x = some u → ρ x = u) : ∀ {xs : List (Nat × Operand)} {vs : List (Nat × Value)}, evps σ xs = some vs → (xs.map fun p => (p.1, ρ p.2)) = vs
  | [], vs, h => by simp [evps] at h; simp [h]
  | (i, x) :: xs, vs, h => by
    simp only [evps] at h
    cases h1 : ev σ x with
    | none => simp [h1] at h
    | some v1 =>
      cases h2 : evps σ xs with
      | none => simp [h1, h2] at h
      | some v2 =>
        simp [h1, h2] at h
        rw [← h, List.map_cons, hρ x v1 h1, evps_eval hρ h2]
/-- The places of a struct's fields. -/
def TP (P : Program) (t : TypeId) (pl : List (Nat × Nat)) : Prop :=
  ∃ fs, P.underlying t = some (.struct fs) ∧ ∀ w, (fs.mapM (fun f => do pure (f.offset, ← sizeOf f.type) : Field → Sem (Nat × Nat))).run P w = .ok pl.toArray w
theorem run_places {P : Program} : ∀ (fs : List Field) (pl : List (Nat × Nat)), (fs.map fun f => (f.offset, P.cellsOf f.type)) = pl → (∀ f ∈ fs, (P.info? f.type).isSome = true) → ∀ w,
    (fs.mapM (fun f => do pure (f.offset, ← sizeOf f.type) : Field → Sem (Nat × Nat))).run P w = .ok pl w
  | [], pl, h, _, w => by subst h; rfl
  | f :: fs, pl, h, hi, w => by
    subst h
    have hs : (sizeOf f.type).run P w = .ok (P.cellsOf f.type) w := by
      have := hi f List.mem_cons_self
      obtain ⟨i, hi⟩ := Option.isSome_iff_exists.1 this
      exact TS.of (by rw [hi]; simp [Program.cellsOf, hi]) w
    rw [List.mapM_cons, Sem.run_bind, Sem.run_bind, hs]
    simp only [Result.andThen_ok, Sem.run_pure]
    rw [Sem.run_bind, run_places fs _ rfl (fun f hf => hi f (List.mem_cons_of_mem _ hf)) w]
    rfl
theorem TP.of {t : TypeId} {fs : Array Field} {pl : List (Nat × Nat)} (h : P.underlying t = some (.struct fs)) (hp : (fs.toList.map fun f => (f.offset, P.cellsOf f.type)) = pl) (hi : (fs.toList.all fun f => (P.info? f.type).isSome) = true) : TP P t pl := by
  refine ⟨fs, h, fun w => ?_⟩
  have hr := run_places (P := P) fs.toList pl hp (fun f hf => List.all_eq_true.1 hi f hf) w
  have e : fs = fs.toList.toArray := rfl
  rw [e, List.mapM_toArray, Sem.run_map]
  simp only [hr, Result.andThen_ok]
theorem L.build {t : TypeId} {parts : Array (Nat × Operand)} {us : List (Nat × Value)} {zs cs : List Value} {pl : List (Nat × Nat)} (ho : all[ix]? = some ⟨some d, .build t parts, ty, pos, aft, g⟩) (hpl : TP P t pl) (hz : TZ P t (.agg zs.toArray)) (hu : evps σ parts.toList = some us)
    (hf : Instr.fill (fun i => pl[i]?) zs.toArray us = some cs.toArray) (hN : Nat.blt d X.N = true) (hg : Gok all σ g) (kk : WL P X bad all K Q os ((d, .agg cs.toArray) :: σ) μ Ds) : WL P X bad all K Q ((fl, ix) :: os) σ μ Ds :=
  L.pure ho rfl rfl hN hg (fun ρ hρ w' => by
    obtain ⟨fs, h, hp⟩ := hpl
    have e : (parts.map fun (i, x) => (i, ρ x)).toList = us := by rw [← evps_eval hρ hu]; simp
    have hf' : Instr.fill (fun i => pl.toArray[i]?) zs.toArray us = some cs.toArray := by simpa using hf
    simp only [execOp, Instr.build, Sem.run_bind, hz w', Result.andThen_ok, TU.of h w', hp w', Value.cells, e, hf', Sem.run_pure]) kk
/-! ### A slice's literal -/
/-- The cells of the elements one after the other. -/
inductive Flat (sz : Nat) : Nat → List (Nat × Value) → List Value → Prop
  | nil {k} : Flat sz k [] []
  | cons {k v cs r rs} (hv : v.cells = cs.toArray) (hc : cs.length = sz) (h : Flat sz (k + 1) r rs) : Flat sz k ((k, v) :: r) (cs ++ rs)
theorem Flat.len {sz k : Nat} {r : List (Nat × Value)} {rs : List Value} (h : Flat sz k r rs) : rs.length = r.length * sz := by
  induction h with
  | nil => simp
  | cons hv hc h ih => simp [ih, hc, Nat.add_mul]; omega
theorem foldl_set : ∀ (cs : List Value) (j off : Nat) (pre mid post : List Value), pre.length = off + j → mid.length = cs.length →
    (cs.zipIdx j).foldl (fun (a : Array Value) (p : Value × Nat) => a.setIfInBounds (off + p.2) p.1) (pre ++ mid ++ post).toArray = (pre ++ cs ++ post).toArray
  | [], j, off, pre, mid, post, h1, h2 => by have : mid = [] := List.length_eq_zero_iff.1 h2; subst this; rfl
  | c :: cs, j, off, pre, [], post, h1, h2 => by simp at h2
  | c :: cs, j, off, pre, m :: mid, post, h1, h2 => by
    rw [List.zipIdx_cons, List.foldl_cons]
    have e : (pre ++ (m :: mid) ++ post).toArray.setIfInBounds (off + j) c = ((pre ++ [c]) ++ mid ++ post).toArray := by
      rw [← h1]; simp
    rw [e, foldl_set cs (j + 1) off (pre ++ [c]) mid post (by simp; omega) (by simpa using h2)]
    simp
theorem fill_flat {sz : Nat} {k : Nat} {r : List (Nat × Value)} {rs : List Value} (h : Flat sz k r rs) : ∀ (pre zs : List Value), pre.length = k * sz → zs.length = rs.length →
    Instr.fill (fun i => some (i * sz, sz)) (pre ++ zs).toArray r = some (pre ++ rs).toArray := by
  induction h with
  | nil => intro pre zs h1 h2; have : zs = [] := List.length_eq_zero_iff.1 h2; subst this; rfl
  | @cons k v cs r rs hv hc h ih =>
    intro pre zs h1 h2
    obtain ⟨m, post, rfl, hm⟩ : ∃ m post, zs = m ++ post ∧ m.length = cs.length := ⟨zs.take cs.length, zs.drop cs.length, by simp, by rw [List.length_take, h2]; simp⟩
    have hpost : post.length = rs.length := by simp [hm] at h2; omega
    simp only [Instr.fill]
    rw [if_neg]
    · rw [hv]
      have hz : (cs.toArray.zipIdx.foldl (fun (a : Array Value) (p : Value × Nat) => a.setIfInBounds (k * sz + p.2) p.1) (pre ++ m ++ post).toArray) = (pre ++ cs ++ post).toArray := by
        have := foldl_set cs 0 (k * sz) pre m post (by simpa using h1) hm
        rw [← this, ← Array.foldl_toList]
        simp
      have e : (pre ++ (m ++ post)).toArray = (pre ++ m ++ post).toArray := by simp
      rw [e]
      rw [hz, ih (pre ++ cs) post (by simp [h1, hc, Nat.add_mul]) hpost]
      simp
    · rw [hv]
      simp [h1, hc, hm]
theorem L.buildSlice {t e : TypeId} {sz n : Nat} {parts : Array (Nat × Operand)} {us : List (Nat × Value)} {rs : List Value} {z0 : Value} (ho : all[ix]? = some ⟨some d, .buildSlice t n parts, ty, pos, aft, g⟩) (ht : P.underlying t = some (.slice e)) (hs : TS P e sz) (hz : TZ P e z0) (_hz1 : Nat.beq z0.cells.size sz = true)
    (hu : evps σ parts.toList = some us) (hn : us.length = n) (hnz : Nat.ble (n * sz) 4096 = true) (hf : Flat sz 0 us rs) (hN : Nat.blt d X.N = true) (hg : Gok all σ g)
    (kk : ∀ b D, (∀ D₁ ∈ Ds, Le D₁ D) → At D b 0 rs → WL P X bad all K Q os ((d, .slice (some ⟨b, 0, none⟩) n n) :: σ) μ (D :: Ds)) : WL P X bad all K Q ((fl, ix) :: os) σ μ Ds := by
  refine L.loud ho rfl rfl hg fun a w hh => ?_
  obtain ⟨h1, h2, h3, D, h4, h5, h6⟩ := id hh
  have hnz' : n * sz ≤ 4096 := Nat.le_of_ble_eq_true hnz
  have hlen : rs.length = n * sz := by rw [hf.len, hn]
  have e1 : (parts.map fun (i, x) => (i, a.eval x)).toList = us := by rw [← evps_eval (fun _ _ hx => hh.eval hx) hu]; simp
  have hrun : (execOp a.eval ⟨some d, .buildSlice t n parts, ty, pos, aft, g⟩).run P w = .ok (.value (.slice (some ⟨w.heap.size, 0, none⟩) n n)) { w with heap := w.heap.push (.cells rs.toArray e (0, 0)) } := by
    simp only [execOp, Instr.buildSlice, Sem.run_bind, TU.of ht w, Result.andThen_ok, hs w]
    rw [if_neg (by omega)]
    simp only [pure_bind]
    have key : ∀ zc : Array Value, Instr.fill (fun i => some (i * sz, sz)) ((Array.range (n * sz)).map (zc[· % zc.size]!)) us = some rs.toArray := by
      intro zc
      have := fill_flat hf [] ((Array.range (n * sz)).map (zc[· % zc.size]!)).toList (by simp) (by simp [hlen])
      rw [List.nil_append, List.nil_append] at this
      exact this
    split
    · simp only [Sem.run_bind, Sem.run_pure, Result.andThen_ok, e1, key, run_newRow]
    · simp only [Sem.run_bind, Sem.run_pure, Result.andThen_ok, hz w, e1, key, run_newRow]
  rw [hrun]
  obtain ⟨D', hle, hD', hDo, hs'⟩ := h4.pushD rs e
  refine ⟨fun _ => keep_push _ _ _, kk w.heap.size D' (fun D₁ hD₁ => (h5 D₁ hD₁).trans hle) (fun j v hj => by rw [hD']; simpa using hj) _ _ (Hl.put ⟨h1, h2, h3, D', hs', fun D₁ hD₁ => ?_, h6.step (fun _ p hp => Or.inl (List.mem_map.2 ⟨p, hp, rfl⟩)) (fun _ => ⟨by simp, fun b hb _ => ⟨heap_push_lt hb, hDo b (by omega)⟩, rfl⟩) hs'.dom⟩ hN _)⟩
  rcases List.mem_cons.1 hD₁ with rfl | hD₁
  · exact Le.refl _
  · exact (h5 D₁ hD₁).trans hle
/-- A slice that was written out reads as its elements. -/
theorem Sl.of_at {α : Type} {R : Rd α} {D : Data} {sz b n cap : Nat} {xs : List α} {rs : List Value} (hA : At D b 0 rs) (hn : xs.length = n) (hc : n ≤ cap) (hb : n ≤ 9223372036854775807) (h : ∀ i x, xs[i]? = some x → ∃ cs, R D x cs ∧ cs.length = sz ∧ (rs.drop (i * sz)).take sz = cs) : Sl D R sz (.slice (some ⟨b, 0, none⟩) n cap) xs := by
  subst hn
  refine ⟨_, cap, rfl, hc, hb, Or.inr ⟨b, 0, rfl, fun i x hx => ?_⟩⟩
  obtain ⟨cs, hr, hl, hcs⟩ := h i x hx
  refine ⟨cs, hr, hl, fun j v hj => ?_⟩
  have hlt := (List.getElem?_eq_some_iff.1 hj).1
  rw [← hcs, List.getElem?_take_of_lt (by omega), List.getElem?_drop] at hj
  have := hA _ _ hj
  simpa [Nat.add_assoc] using this
theorem Sl.ofInts {D : Data} {b cap : Nat} {l : List Int} {n : Nat} (hA : At D b 0 (ints l)) (hn : l.length = n) (hc : n ≤ cap) (hb : n ≤ 9223372036854775807) : Sl D RI 1 (.slice (some ⟨b, 0, none⟩) n cap) l :=
  Sl.of_at hA hn hc hb fun i x hx => ⟨[.int .i64 x], rfl, rfl, by
    have h := ints_get hx
    have hl := (List.getElem?_eq_some_iff.1 h).1
    rw [Nat.mul_one, List.drop_eq_getElem_cons hl]
    rw [List.getElem?_eq_getElem hl] at h
    simp [Option.some.inj h]⟩
theorem L.makeFunc {f : FuncId} {xs ys : Array Operand} {vs us : List Value} (ho : all[ix]? = some ⟨some d, .makeFunc (.func f) xs ys, ty, pos, aft, g⟩) (hx : evs σ xs.toList = some vs) (hy : evs σ ys.toList = some us) (hN : Nat.blt d X.N = true) (hg : Gok all σ g)
    (kk : WL P X bad all K Q os ((d, .func (.func f) vs.toArray us.toArray) :: σ) μ Ds) : WL P X bad all K Q ((fl, ix) :: os) σ μ Ds :=
  L.pure ho rfl rfl hN hg (fun ρ hρ w' => by
    have e1 : xs.map ρ = vs.toArray := by rw [← evs_eval hρ hx, ← Array.toList_map]
    have e2 : ys.map ρ = us.toArray := by rw [← evs_eval hρ hy, ← Array.toList_map]
    simp only [execOp, Instr.makeFunc, e1, e2, pure_bind, Sem.run_pure]) kk
/-- A new variable that is never written again: data. -/
theorem L.boxD {e : TypeId} {vs : List Value} (ho : all[ix]? = some ⟨some d, .box e x, ty, pos, aft, g⟩) (hx : ev σ x = some v) (hv : v.cells = vs.toArray) (hN : Nat.blt d X.N = true) (hg : Gok all σ g)
    (kk : ∀ b D, (∀ D₁ ∈ Ds, Le D₁ D) → At D b 0 vs → WL P X bad all K Q os ((d, .pointer (some ⟨b, 0, none⟩)) :: σ) μ (D :: Ds)) : WL P X bad all K Q ((fl, ix) :: os) σ μ Ds := by
  refine L.loud ho rfl rfl hg fun a w hh => ?_
  obtain ⟨h1, h2, h3, D, h4, h5, h6⟩ := id hh
  have : (execOp a.eval ⟨some d, .box e x, ty, pos, aft, g⟩).run P w = .ok (.value (.pointer (some ⟨w.heap.size, 0, none⟩))) { w with heap := w.heap.push (.cells vs.toArray e (0, 0)) } := by
    simp only [execOp, hh.eval hx, Instr.box, newVar, hv, Sem.run_bind, run_newRow, Result.andThen_ok, Sem.run_pure]
  rw [this]
  obtain ⟨D', hle, hD', hDo, hs'⟩ := h4.pushD vs e
  refine ⟨fun _ => keep_push _ _ _, kk w.heap.size D' (fun D₁ hD₁ => (h5 D₁ hD₁).trans hle) (fun j v hj => by rw [hD']; simpa using hj) _ _ (Hl.put ⟨h1, h2, h3, D', hs', fun D₁ hD₁ => ?_, h6.step (fun _ p hp => Or.inl (List.mem_map.2 ⟨p, hp, rfl⟩)) (fun _ => ⟨by simp, fun b hb _ => ⟨heap_push_lt hb, hDo b (by omega)⟩, rfl⟩) hs'.dom⟩ hN _)⟩
  rcases List.mem_cons.1 hD₁ with rfl | hD₁
  · exact Le.refl _
  · exact (h5 D₁ hD₁).trans hle
/-- A function value that asks a question of its argument. -/
def PredOK {α : Type} (P : Program) (D : Data) (val : α → Value) (fv : Value) (p : α → Bool) : Prop :=
  ∃ f c1 c2, fv = .func (.func f) (List.toArray c1) (List.toArray c2) ∧ ∀ x D', Le D D' → Fn P f (c1 ++ [val x] ++ c2).toArray D' fun _ v => v = .bool (p x)
theorem PredOK.up {α : Type} {D D' : Data} {val : α → Value} {fv : Value} {p : α → Bool} (h : PredOK P D val fv p) (hl : Le D D') : PredOK P D' val fv p := by
  obtain ⟨f, c1, c2, h1, h2⟩ := h
  exact ⟨f, c1, c2, h1, fun x D'' hl' => h2 x D'' (hl.trans hl')⟩
theorem PredOK.of {α : Type} {D : Data} {val : α → Value} {f : FuncId} {p : α → Bool} (h : ∀ x D', Fn P f #[val x] D' fun _ v => v = .bool (p x)) : PredOK P D val (.func (.func f) #[] #[]) p :=
  ⟨f, [], [], rfl, fun x D' _ => h x D'⟩
end Go.Fs
namespace Go.Fs
variable {P : Program} {X : Cx} {γb : Type} [Membership Nat γb] {bad : γb} {all : Array Oper} {K : Act → World → Prop} {Q : Exit → Act → World → Prop}
variable {σ : Slots} {μ : Boxes} {Ds : List Data} {os : List (Bool × Nat)} {fl : Bool} {ix : Nat}
variable {d : Nat} {x y z : Operand} {u v : Value} {ty : TypeId} {pos : String} {aft : Array Edge} {g : Option (Nat × Bool)}
/-- A slice value that owns its block: n elements, their cells, and the block among the boxes (none, while nothing has been appended). -/
def Acc (e : TypeId) (sz : Nat) (v : Value) (n : Nat) (cells : List Value) (ν : Boxes) : Prop :=
  (∃ a, v = .slice a 0 0 ∧ n = 0 ∧ cells = [] ∧ ν = []) ∨
  (∃ b cap junk, v = .slice (some ⟨b, 0, none⟩) n cap ∧ n ≤ cap ∧ ν = [(b, .cells (cells ++ junk).toArray e (0, 0))] ∧ cells.length = n * sz ∧ (cells ++ junk).length = cap * sz)
theorem Acc.nil {e : TypeId} {sz : Nat} {a : Option Addr} : Acc e sz (.slice a 0 0) 0 [] [] := Or.inl ⟨a, rfl, rfl, rfl, rfl⟩
theorem run_loadCells {w : World} {b o : Nat} {vs : List Value} {n : Nat} (hn : vs.length = n) (h : Lies w b o vs) : (loadCells ⟨b, o, none⟩ n).run P w = .ok vs.toArray w := by
  unfold loadCells
  rw [run_loadCellsFrom n 0 #[] vs hn (fun j v hj => by rw [show o + (0 + j) = o + j by omega]; exact h j v hj)]
  simp
/-- What is appended: some cells of data. -/
def Src (D : Data) (x : Value) (m : Nat) (xs : List Value) : Prop := (∃ a c, x = .slice a 0 c ∧ m = 0 ∧ xs = []) ∨ (∃ b o c, x = .slice (some ⟨b, o, none⟩) m c ∧ At D b o xs)
theorem run_firstCells {D : Data} {w : World} {x : Value} {m sz : Nat} {xs : List Value} (h : Src D x m xs) (hl : xs.length = m * sz) (hw : ∀ b o, At D b o xs → Lies w b o xs) : (Builtin.firstCells sz m x).run P w = .ok xs.toArray w := by
  rcases h with ⟨a, c, rfl, rfl, rfl⟩ | ⟨b, o, c, rfl, hA⟩
  · cases a with
    | none => rfl
    | some a => simp [Builtin.firstCells, loadCells, loadCellsFrom, Sem.run_pure]
  · simp only [Builtin.firstCells]
    exact run_loadCells hl (hw b o hA)
theorem lenOf_src {D : Data} {w : World} {x : Value} {m : Nat} {xs : List Value} (h : Src D x m xs) : (Builtin.lenOf x).run P w = .ok m w := by
  rcases h with ⟨a, c, rfl, rfl, rfl⟩ | ⟨b, o, c, rfl, hA⟩ <;> rfl
theorem nextcap_le {need cap : Nat} (h : cap < need) : Builtin.nextslicecap need cap ≤ 2 * need + 768 := by
  unfold Builtin.nextslicecap
  split
  · omega
  · split
    · omega
    · have key : ∀ (r c : Nat), c < need + need / 4 + 400 → Builtin.growBy need r c ≤ 2 * need + 768 := by
        intro r
        induction r with
        | zero => intro c hc; simp only [Builtin.growBy]; omega
        | succ r ih =>
          intro c hc
          simp only [Builtin.growBy]
          split
          · omega
          · exact ih _ (by omega)
      exact key _ _ (by omega)
theorem run_askRoom {w : World} {n : Nat} : (askRoom n).run P w = .ok () w := by unfold askRoom; split <;> rfl
theorem zeroCells_size (z : Array Value) (n : Nat) : (Builtin.zeroCells z n).size = n * z.size := by simp [Builtin.zeroCells]
section run
variable {t e tr : TypeId} {sz : Nat} {z0 : Value} {i0 : TypeInfo} {ats : Array TypeId}
/-- append where there is room. -/
theorem run_append_fits (ht : P.underlying t = some (.slice e)) (hat : ats[0]? = some t) (hat1 : ats[1]? = some t) (hs : TS P e sz) {w : World} {a : Option Addr} {n cap m : Nat} {xv : Value} {xs : List Value}
    (hm : (Builtin.lenOf xv).run P w = .ok m w) (hx : (Builtin.firstCells sz m xv).run P w = .ok xs.toArray w) (hle : n + m ≤ cap) {w' : World}
    (hst : (match a with | some a => storeCells (a.add (n * sz)) xs | none => pure () : Sem Unit).run P w = .ok () w') :
    (Builtin.append_ ats tr #[.slice a n cap, xv]).run P w = .ok (.slice a (n + m) cap) w' := by
  have e1 : (#[Value.slice a n cap, xv] : Array Value)[0]? = some (.slice a n cap) := rfl
  have e2 : (#[Value.slice a n cap, xv] : Array Value)[1]? = some xv := rfl
  unfold Builtin.append_
  simp only [hat, hat1, e1, e2, Sem.run_bind, TU.of ht w, Result.andThen_ok, hs w, Sem.run_pure, Bool.false_eq_true, if_false, hm, Bool.not_false, if_true, hle, hx]
  cases a with
  | none =>
    have : w' = w := by
      have h : (pure () : Sem Unit).run P w = .ok () w' := hst
      rw [Sem.run_pure] at h
      cases h; rfl
    subst this; rfl
  | some a =>
    have h : (storeCells (a.add (n * sz)) xs).run P w = .ok () w' := hst
    simp only [Sem.run_bind, h, Result.andThen_ok, Sem.run_pure]
/-- append where a new block is made. -/
theorem run_append_grows (ht : P.underlying t = some (.slice e)) (hat : ats[0]? = some t) (hat1 : ats[1]? = some t) (hs : TS P e sz) (hz : TZ P e z0) (hi : P.info? e = some i0) {w : World} {a : Option Addr} {n cap m : Nat} {xv : Value} {old xs : List Value}
    (hm : (Builtin.lenOf xv).run P w = .ok m w) (hx : ∀ w', w'.heap = w.heap → (Builtin.firstCells sz m xv).run P w' = .ok xs.toArray w') (ho : ∀ w', w'.heap = w.heap → (Builtin.firstCells sz n (.slice a n cap)).run P w' = .ok old.toArray w')
    (hgt : cap < n + m) (hlen : n + m ≤ 10000000) (hb : 1 ≤ i0.bytes ∧ i0.bytes ≤ 4096) :
    ∃ c, n + m ≤ c ∧ (Builtin.append_ ats tr #[.slice a n cap, xv]).run P w = .ok (.slice (some ⟨w.heap.size, 0, none⟩) (n + m) c)
      { w with drawn := w.drawn + 1, heap := w.heap.push (.cells (old.toArray ++ xs.toArray ++ Builtin.zeroCells z0.cells (c - (n + m))) e (0, 0)) } := by
  have e1 : (#[Value.slice a n cap, xv] : Array Value)[0]? = some (.slice a n cap) := rfl
  have e2 : (#[Value.slice a n cap, xv] : Array Value)[1]? = some xv := rfl
  have hti : ∀ w, (typeInfo e).run P w = .ok i0 w := fun w => by simp [typeInfo, program, Sem.run, hi, go_sem]
  have hcapn := nextcap_le hgt
  have hbig : ¬ Builtin.nextslicecap (n + m) cap * i0.bytes > 2 ^ 48 := by
    have : Builtin.nextslicecap (n + m) cap * i0.bytes ≤ (2 * (n + m) + 768) * 4096 := Nat.mul_le_mul hcapn hb.2
    omega
  have hch : (choose (.appendCap (n + m) cap e)).run P w = .ok ((n + m) + (w.tape w.drawn (.appendCap (n + m) cap e)) % (2 ^ 63 - (n + m))) { w with drawn := w.drawn + 1 } := by
    simp [choose, Sem.run, Question.forced, Question.cut]
  refine ⟨(n + m) + (w.tape w.drawn (.appendCap (n + m) cap e)) % (2 ^ 63 - (n + m)), Nat.le_add_right _ _, ?_⟩
  unfold Builtin.append_
  have hnot : ¬ (n + m ≤ cap) := by omega
  have hmax : ¬ (((n + m : Nat) : Int) > IntKind.i64.max ∧ (false = true ∨ i0.bytes = 0)) := by
    rintro ⟨_, h | h⟩
    · cases h
    · omega
  simp only [hat, hat1, e1, e2, Sem.run_bind, TU.of ht w, Result.andThen_ok, hs w, Sem.run_pure, Bool.false_eq_true, if_false, hm, Bool.not_false, if_true, hnot, hti]
  rw [if_neg (by rintro ⟨_, h | h⟩; exact h.elim; omega)]
  simp only [Sem.run_bind, Result.andThen_ok, hti]
  rw [if_neg hbig]
  have hzz : ∀ w, (zeroValue e).run P w = .ok z0 w := hz
  simp only [Sem.run_bind, Sem.run_pure, Result.andThen_ok, hti, hch, run_askRoom, hzz, ho { w with drawn := w.drawn + 1 } rfl, hx { w with drawn := w.drawn + 1 } rfl, run_newRow]
end run
/-- append: the slice of the frame's own with the new cells behind it. -/
theorem L.appendG {A B ν : Boxes} {t e tr : TypeId} {sz n m : Nat} {cells xs : List Value} {xv : Value} {z0 : Value} {ats : Array TypeId}
    (ho : all[ix]? = some ⟨some d, .call { callee := .builtin .append, args := #[x, y], argTypes := ats }, tr, pos, aft, g⟩) (ht : P.underlying t = some (.slice e)) (hat : ats[0]? = some t) (hat1 : ats[1]? = some t)
    (hs : TS P e sz) (hz : TZ P e z0) (hz1 : Nat.beq z0.cells.size sz = true) (hi : (P.info? e).map (fun i => Nat.ble 1 i.bytes && Nat.ble i.bytes 4096) = some true) (hsz1 : Nat.ble 1 sz = true)
    (hx : ev σ x = some v) (hy : ev σ y = some xv) (hacc : Acc e sz v n cells ν) (hsrc : ∀ a w, Hl X σ (A ++ ν ++ B) Ds a w → (Builtin.lenOf xv).run P w = .ok m w ∧ ∀ w', w'.heap = w.heap → (Builtin.firstCells sz m xv).run P w' = .ok xs.toArray w') (hxl : xs.length = m * sz) (hcl : cells.length = n * sz) (hx1 : ∀ u ∈ xs, cell1 u = true) (hlen : n + m ≤ 10000000)
    (hfl : fl = false ∨ ∀ p ∈ ν, p.1 ∈ bad)
    (hN : Nat.blt d X.N = true) (hg : Gok all σ g)
    (kk : ∀ v' ν', Acc e sz v' (n + m) (cells ++ xs) ν' → WL P X bad all K Q os ((d, v') :: σ) (A ++ ν' ++ B) Ds) : WL P X bad all K Q ((fl, ix) :: os) σ (A ++ ν ++ B) Ds := by
  refine L.loud ho rfl rfl hg fun a w hh => ?_
  obtain ⟨h1, h2, h3, D, h4, h5, h6⟩ := id hh
  obtain ⟨i0, hi, hb1, hb2⟩ : ∃ i0, P.info? e = some i0 ∧ 1 ≤ i0.bytes ∧ i0.bytes ≤ 4096 := by
    cases h : P.info? e with
    | none => simp [h] at hi
    | some i => simp [h] at hi; exact ⟨i, rfl, hi⟩
  have hsz : 1 ≤ sz := Nat.le_of_ble_eq_true hsz1
  have hz1' := Nat.eq_of_beq_eq_true hz1
  have hex : (execOp a.eval ⟨some d, .call { callee := .builtin .append, args := #[x, y], argTypes := ats }, tr, pos, aft, g⟩).run P w =
      ((Builtin.append_ ats tr #[v, xv]).run P w).andThen fun r w' => .ok (.value r) w' := by
    simp only [execOp, resolve, pure_bind, invoke, builtin]
    have e1 : (#[x, y].map a.eval) = #[v, xv] := by simp [hh.eval hx, hh.eval hy]
    rw [e1, Sem.run_bind]
    simp only [Sem.run_pure]
  rw [hex]
  obtain ⟨hm, hfc⟩ := hsrc a w hh
  -- a new block
  have grow : ∀ (old : Option Addr) (cap : Nat), v = .slice old n cap → cap < n + m → (∀ w', w'.heap = w.heap → (Builtin.firstCells sz n (.slice old n cap)).run P w' = .ok cells.toArray w') →
      Oper.uponIn (FW X.r) 0 P ⟨some d, .call { callee := .builtin .append, args := #[x, y], argTypes := ats }, tr, pos, aft, g⟩ a (fun a' w' => (fl = true → Keep bad w w') ∧ wpL X.r bad P all K Q (opsAt all os) a' w') Q
        (((Builtin.append_ ats tr #[v, xv]).run P w).andThen fun r w' => .ok (.value r) w') := by
    intro old cap hv hgt hold
    obtain ⟨c, hc, hrun⟩ := run_append_grows (tr := tr) ht hat hat1 hs hz hi hm hfc hold hgt hlen ⟨hb1, hb2⟩
    rw [hv, hrun]
    obtain ⟨junk, hjunk⟩ : ∃ junk : List Value, cells.toArray ++ xs.toArray ++ Builtin.zeroCells z0.cells (c - (n + m)) = (cells ++ xs ++ junk).toArray ∧ (cells ++ xs ++ junk).length = c * sz := by
      refine ⟨(Builtin.zeroCells z0.cells (c - (n + m))).toList, by simp, ?_⟩
      have := zeroCells_size z0.cells (c - (n + m))
      simp only [List.length_append, Array.length_toList, this, hz1', hcl, hxl]
      rw [← Nat.add_mul, ← Nat.add_mul]
      congr 1; omega
    have hpush := h4.push (.cells (cells ++ xs ++ junk).toArray e (0, 0)) rfl
    simp only [Result.andThen_ok]
    rw [hjunk.1]
    refine ⟨fun _ => ⟨by simp, fun b hb _ => heap_push_lt hb⟩, ?_⟩
    have hst : Sta X.h0 X.lo X.D0 X.mods (A ++ [(w.heap.size, .cells (cells ++ xs ++ junk).toArray e (0, 0))] ++ B) D { w with drawn := w.drawn + 1, heap := w.heap.push (.cells (cells ++ xs ++ junk).toArray e (0, 0)) } := by
      have h := hpush.sub (μ' := A ++ [(w.heap.size, .cells (cells ++ xs ++ junk).toArray e (0, 0))] ++ B) (fun p hp => by
        simp only [List.mem_append, List.mem_cons] at hp ⊢
        rcases hp with (hp | hp) | hp
        · exact Or.inr (Or.inl (Or.inl hp))
        · exact Or.inl (hp.resolve_right (by simp))
        · exact Or.inr (Or.inr hp)) (by
        have hn := hpush.nd
        simp only [List.map_cons, List.map_append, List.nodup_cons, List.mem_append, not_or] at hn
        obtain ⟨⟨⟨ha, _⟩, hb⟩, hn⟩ := hn
        rw [List.nodup_append, List.nodup_append] at hn
        simp only [List.map_append, List.map_cons, List.map_nil]
        rw [List.nodup_append, List.nodup_append]
        refine ⟨⟨hn.1.1, by simp, fun q hq r hr => ?_⟩, hn.2.1, fun q hq r hr => ?_⟩
        · simp only [List.mem_singleton] at hr
          rintro rfl; exact ha (hr ▸ hq)
        · simp only [List.mem_append, List.mem_singleton] at hq
          rcases hq with hq | hq
          · exact hn.2.2 q (List.mem_append_left _ hq) r hr
          · rintro rfl; exact hb (hq ▸ hr))
      exact ⟨h.hlo, h.size, h.old, h.dold, h.agr, h.box, h.nd, h.fz, h.env⟩
    exact kk _ _ (Or.inr ⟨_, c, junk, rfl, hc, rfl, by simp [hcl, hxl, Nat.add_mul], hjunk.2⟩) _ _ (Hl.put ⟨h1, h2, h3, D, hst, h5, h6.step (fun _ p hp => by
      rcases List.mem_append.1 hp with hp | hp
      · rcases List.mem_append.1 hp with hp | hp
        · exact Or.inl (List.mem_map.2 ⟨p, List.mem_append_left _ (List.mem_append_left _ hp), rfl⟩)
        · exact Or.inr (by rw [List.mem_singleton.1 hp]; exact Nat.le_refl _)
      · exact Or.inl (List.mem_map.2 ⟨p, List.mem_append_right _ hp, rfl⟩)) (fun _ => ⟨by simp, fun b hb _ => ⟨heap_push_lt hb, rfl⟩, rfl⟩) hst.dom⟩ hN _)
  rcases hacc with ⟨old, hv, hn, hc, hν⟩ | ⟨b, cap, junk, hv, hncap, hν, hl1, hl2⟩
  · subst hn; subst hc; subst hν
    by_cases h0 : m = 0
    · subst h0
      have hxs : xs = [] := List.length_eq_zero_iff.1 (by simpa using hxl)
      subst hxs
      rw [hv, run_append_fits (tr := tr) (w' := w) ht hat hat1 hs hm (hfc w rfl) (Nat.le_refl _) (by cases old <;> rfl)]
      refine ⟨fun _ => Keep.refl _ _, kk _ [] (Or.inl ⟨old, rfl, rfl, rfl, rfl⟩) _ _ (Hl.put hh hN _)⟩
    · refine grow old 0 hv (by omega) fun w' _ => ?_
      cases old with
      | none => rfl
      | some a => simp [Builtin.firstCells, loadCells, loadCellsFrom, Sem.run_pure]
  · subst hν
    have hbx := (h4.box (b, .cells (cells ++ junk).toArray e (0, 0)) (by simp)).1
    by_cases hfit : n + m ≤ cap
    · have hjl : xs.length ≤ junk.length := by
        have h1 : (n + m) * sz ≤ cap * sz := Nat.mul_le_mul_right sz hfit
        rw [← hl2, Nat.add_mul, List.length_append, hcl] at h1
        omega
      have hcl1 : n * sz + 0 + xs.length ≤ (cells ++ junk).length := by rw [List.length_append, hcl]; omega
      obtain ⟨w', hr, hw'⟩ := run_storeCells (P := P) xs 0 w b (n * sz) (cells ++ junk) e hbx hcl1 hx1
      have htk : (cells ++ junk).take (n * sz + 0) ++ xs ++ (cells ++ junk).drop (n * sz + 0 + xs.length) = cells ++ xs ++ junk.drop xs.length := by
        rw [← hcl, Nat.add_zero, List.take_left, List.drop_append, List.drop_eq_nil_of_le (by omega)]
        simp
      rw [htk] at hw'
      rw [hv, run_append_fits (tr := tr) (w' := w') ht hat hat1 hs hm (hfc w rfl) hfit (by
        show (storeCells ((⟨b, 0, none⟩ : Addr).add (n * sz)) xs).run P w = _
        rw [add_plain, Nat.zero_add]; exact hr)]
      have hHas : Has (A ++ [(b, .cells (cells ++ junk).toArray e (0, 0))] ++ B) b (.cells (cells ++ junk).toArray e (0, 0)) (.cells (cells ++ xs ++ junk.drop xs.length).toArray e (0, 0)) (A ++ [(b, .cells (cells ++ xs ++ junk.drop xs.length).toArray e (0, 0))] ++ B) := by
        rw [List.append_assoc A, List.append_assoc A]
        exact .app .head
      have hst := h4.set hHas hw' rfl
      refine ⟨fun hf => ⟨by rw [hw'.1]; simp, fun c hc hcb => ?_⟩, kk _ _ (Or.inr ⟨b, cap, junk.drop xs.length, rfl, hfit, rfl, by simp [hcl, hxl, Nat.add_mul], ?_⟩) _ _ (Hl.put ⟨h1, h2, h3, D, hst, h5, h6.step (fun _ p hp => Or.inl (by rw [← hHas.keys]; exact List.mem_map.2 ⟨p, hp, rfl⟩)) (fun _ => low_set hw' (List.mem_map.2 ⟨_, hHas.mem, rfl⟩)) hst.dom⟩ hN _)⟩
      · have hb : b ∈ bad := by
          rcases hfl with h | h
          · rw [hf] at h; cases h
          · exact h _ (List.mem_singleton.2 rfl)
        rw [hw'.1, Array.getElem?_setIfInBounds_ne (by rintro rfl; exact hcb hb)]
      · rw [← hl2]; simp; omega
    · refine grow _ cap hv (by omega) fun w' hw' => ?_
      simp only [Builtin.firstCells]
      refine run_loadCells hcl fun j u hj => cell_of (cs := (cells ++ junk).toArray) (by rw [hw']; exact hbx) ?_
      have := (List.getElem?_eq_some_iff.1 hj).1
      simp only [List.getElem?_toArray, Nat.zero_add]
      rw [List.getElem?_append_left this]; exact hj
/-! ### What is owned becomes data -/
theorem Sta.freeze {h0 : H0} {lo : Nat} {D0 D : Data} {mods : List Nat} {A B : Boxes} {w : World} {b : Nat} {cells junk : List Value} {e : TypeId} (h : Sta h0 lo D0 mods (A ++ [(b, .cells (cells ++ junk).toArray e (0, 0))] ++ B) D w) (hb : lo ≤ b) :
    ∃ D', Le D D' ∧ D' b = cells ∧ (∀ c, c ≠ b → D' c = D c) ∧ Sta h0 lo D0 mods (A ++ B) D' w := by
  have hx := h.box (b, .cells (cells ++ junk).toArray e (0, 0)) (by simp)
  have hnd : b ∉ (A ++ B).map (·.1) := by
    have hn := h.nd
    simp only [List.map_append, List.map_cons, List.map_nil] at hn ⊢
    rw [List.nodup_append, List.nodup_append] at hn
    simp only [List.mem_append, not_or]
    exact ⟨fun hm => hn.1.2.2 b hm b (by simp) rfl, fun hm => hn.2.2 b (by simp) b hm rfl⟩
  have hlo := h.hlo
  refine ⟨fun c => if c = b then cells else D c, fun c => ?_, by simp, (fun c hc => by simp [hc]), h.hlo, h.size, h.old, fun c hc => ?_, fun c hc => ?_, fun p hp => ?_, ?_, h.fz, h.env⟩
  · by_cases hcb : c = b
    · subst hcb; rw [hx.2.1]; exact List.nil_prefix
    · simp [hcb]
  · have : c ≠ b := by omega
    simp only [this, if_false]; exact h.dold c hc
  · by_cases hcb : c = b
    · subst hcb
      exact ⟨_, e, _, hx.1, by simp⟩
    · simp only [hcb, if_false] at hc ⊢; exact h.agr c hc
  · have hp' : p ∈ A ++ [(b, Obj.cells (cells ++ junk).toArray e (0, 0))] ++ B := by
      rcases List.mem_append.1 hp with hp | hp
      · exact List.mem_append_left _ (List.mem_append_left _ hp)
      · exact List.mem_append_right _ hp
    obtain ⟨h1, h2, h3⟩ := h.box p hp'
    have : p.1 ≠ b := by rintro rfl; exact hnd (List.mem_map.2 ⟨p, hp, rfl⟩)
    exact ⟨h1, by simp only [this, if_false]; exact h2, h3⟩
  · have hn := h.nd
    simp only [List.map_append, List.map_cons, List.map_nil] at hn ⊢
    rw [List.nodup_append, List.nodup_append] at hn
    rw [List.nodup_append]
    exact ⟨hn.1.1, hn.2.1, fun q hq r hr => hn.2.2 q (List.mem_append_left _ hq) r hr⟩
/-- **append**: the slice of the frame's own with the new cells behind it. -/
theorem L.append {A B ν : Boxes} {D₁ : Data} {t e tr : TypeId} {sz n m : Nat} {cells xs : List Value} {xv : Value} {z0 : Value} {ats : Array TypeId}
    (ho : all[ix]? = some ⟨some d, .call { callee := .builtin .append, args := #[x, y], argTypes := ats }, tr, pos, aft, g⟩) (ht : P.underlying t = some (.slice e)) (hat : ats[0]? = some t) (hat1 : ats[1]? = some t)
    (hs : TS P e sz) (hz : TZ P e z0) (hz1 : Nat.beq z0.cells.size sz = true) (hi : (P.info? e).map (fun i => Nat.ble 1 i.bytes && Nat.ble i.bytes 4096) = some true) (hsz1 : Nat.ble 1 sz = true)
    (hx : ev σ x = some v) (hy : ev σ y = some xv) (hacc : Acc e sz v n cells ν) (hsrc : Src D₁ xv m xs) (hD : D₁ ∈ Ds) (hxl : xs.length = m * sz) (hcl : cells.length = n * sz) (hx1 : ∀ u ∈ xs, cell1 u = true) (hlen : n + m ≤ 10000000)
    (hfl : fl = false ∨ ∀ p ∈ ν, p.1 ∈ bad)
    (hN : Nat.blt d X.N = true) (hg : Gok all σ g)
    (kk : ∀ v' ν', Acc e sz v' (n + m) (cells ++ xs) ν' → WL P X bad all K Q os ((d, v') :: σ) (A ++ ν' ++ B) Ds) : WL P X bad all K Q ((fl, ix) :: os) σ (A ++ ν ++ B) Ds := by
  refine L.appendG ho ht hat hat1 hs hz hz1 hi hsz1 hx hy hacc (fun a w hh => ?_) hxl hcl hx1 hlen hfl hN hg kk
  obtain ⟨h1, h2, h3, D, h4, h5, h6⟩ := id hh
  refine ⟨lenOf_src hsrc, fun w' hw' => run_firstCells hsrc hxl fun b o hA j u hj => ?_⟩
  have := h4.agr.cell ((h5 D₁ hD).get (hA j u hj))
  unfold World.cell? at this ⊢
  rw [hw']; exact this
/-- The same, where what is appended is another list of the frame's own. -/
theorem L.appendO {A B ν ω : Boxes} {t e tr : TypeId} {sz n m : Nat} {cells xs : List Value} {xv : Value} {z0 : Value} {ats : Array TypeId}
    (ho : all[ix]? = some ⟨some d, .call { callee := .builtin .append, args := #[x, y], argTypes := ats }, tr, pos, aft, g⟩) (ht : P.underlying t = some (.slice e)) (hat : ats[0]? = some t) (hat1 : ats[1]? = some t)
    (hs : TS P e sz) (hz : TZ P e z0) (hz1 : Nat.beq z0.cells.size sz = true) (hi : (P.info? e).map (fun i => Nat.ble 1 i.bytes && Nat.ble i.bytes 4096) = some true) (hsz1 : Nat.ble 1 sz = true)
    (hx : ev σ x = some v) (hy : ev σ y = some xv) (hacc : Acc e sz v n cells ν) (hsrc : Acc e sz xv m xs ω) (hω : ∀ p ∈ ω, p ∈ A ++ ν ++ B) (hxl : xs.length = m * sz) (hcl : cells.length = n * sz) (hx1 : ∀ u ∈ xs, cell1 u = true) (hlen : n + m ≤ 10000000)
    (hfl : fl = false ∨ ∀ p ∈ ν, p.1 ∈ bad)
    (hN : Nat.blt d X.N = true) (hg : Gok all σ g)
    (kk : ∀ v' ν', Acc e sz v' (n + m) (cells ++ xs) ν' → WL P X bad all K Q os ((d, v') :: σ) (A ++ ν' ++ B) Ds) : WL P X bad all K Q ((fl, ix) :: os) σ (A ++ ν ++ B) Ds := by
  refine L.appendG ho ht hat hat1 hs hz hz1 hi hsz1 hx hy hacc (fun a w hh => ?_) hxl hcl hx1 hlen hfl hN hg kk
  obtain ⟨h1, h2, h3, D, h4, h5, h6⟩ := id hh
  rcases hsrc with ⟨a', rfl, rfl, rfl, _⟩ | ⟨b, cap, junk, rfl, hc, rfl, h8, h9⟩
  · refine ⟨rfl, fun w' _ => ?_⟩
    cases a' with
    | none => rfl
    | some a' => simp [Builtin.firstCells, loadCells, loadCellsFrom, Sem.run_pure]
  · refine ⟨rfl, fun w' hw' => ?_⟩
    simp only [Builtin.firstCells]
    refine run_loadCells hxl fun j u hj => ?_
    have hb := (h4.box _ (hω _ List.mem_cons_self)).1
    unfold World.cell?
    rw [hw', hb]
    have hj2 : (xs ++ junk)[j]? = some u := by rw [List.getElem?_append_left (List.getElem?_eq_some_iff.1 hj).1]; exact hj
    simpa using hj2
/-- What the frozen slice gives. -/
def Froz (D : Data) (v : Value) (n : Nat) (cells : List Value) : Prop := (∃ a, v = .slice a 0 0 ∧ n = 0 ∧ cells = []) ∨ (∃ b cap, v = .slice (some ⟨b, 0, none⟩) n cap ∧ n ≤ cap ∧ At D b 0 cells)
theorem Hl.freeze {A B ν : Boxes} {e sz n : Nat} {cells : List Value} {a : Act} {w : World} (hacc : Acc e sz v n cells ν) (hmods : X.mods = []) (hh : Hl X σ (A ++ ν ++ B) Ds a w) :
    ∃ D', (∀ D₁ ∈ Ds, Le D₁ D') ∧ Froz D' v n cells ∧ Hl X σ (A ++ B) (D' :: Ds) a w := by
  obtain ⟨h1, h2, h3, D, h4, h5, h6⟩ := hh
  rcases hacc with ⟨old, hv, hn, hc, hν⟩ | ⟨b, cap, junk, hv, hncap, hν, hl1, hl2⟩
  · subst hν
    refine ⟨D, h5, Or.inl ⟨old, hv, hn, hc⟩, h1, h2, h3, D, by simpa using h4, fun D₁ hD₁ => ?_, by simpa using h6⟩
    rcases List.mem_cons.1 hD₁ with rfl | hD₁
    · exact Le.refl _
    · exact h5 D₁ hD₁
  · subst hν
    have hb := (h4.box (b, .cells (cells ++ junk).toArray e (0, 0)) (by simp)).2.2
    have hb' := hb.resolve_right (by rw [hmods]; simp)
    obtain ⟨D', hle, hD', hDo, hs⟩ := h4.freeze hb'
    refine ⟨D', fun D₁ hD₁ => (h5 D₁ hD₁).trans hle, Or.inr ⟨b, cap, hv, hncap, fun j u hj => by rw [hD', Nat.zero_add]; exact hj⟩, h1, h2, h3, D', hs, fun D₁ hD₁ => ?_, h6.step (fun _ p hp => Or.inl (List.mem_map.2 ⟨p, by rcases List.mem_append.1 hp with hp | hp; exact List.mem_append_left _ (List.mem_append_left _ hp); exact List.mem_append_right _ hp, rfl⟩)) (fun _ => ⟨Nat.le_refl _, fun c _ hn => ⟨rfl, hDo c (by rintro rfl; exact hn (by simp))⟩, rfl⟩) hs.dom⟩
    rcases List.mem_cons.1 hD₁ with rfl | hD₁
    · exact Le.refl _
    · exact (h5 D₁ hD₁).trans hle
theorem C.freeze {c : Code} {A B ν : Boxes} {e sz n : Nat} {cells : List Value} (hacc : Acc e sz v n cells ν) (hmods : X.mods = []) (kk : ∀ D, (∀ D₁ ∈ Ds, Le D₁ D) → Froz D v n cells → WC P X Q c σ (A ++ B) (D :: Ds)) : WC P X Q c σ (A ++ ν ++ B) Ds := by
  intro a w hh
  obtain ⟨D', h1, h2, h3⟩ := hh.freeze hacc hmods
  exact kk D' h1 h2 a w h3
theorem Q.freeze {T : Act → World → Prop} {A B ν : Boxes} {e sz n : Nat} {cells : List Value} (hacc : Acc e sz v n cells ν) (hmods : X.mods = []) (kk : ∀ D, (∀ D₁ ∈ Ds, Le D₁ D) → Froz D v n cells → ∀ a w, Hl X σ (A ++ B) (D :: Ds) a w → T a w) : ∀ a w, Hl X σ (A ++ ν ++ B) Ds a w → T a w := by
  intro a w hh
  obtain ⟨D', h1, h2, h3⟩ := hh.freeze hacc hmods
  exact kk D' h1 h2 a w h3
theorem Froz.sl {α : Type} {R : Rd α} {D : Data} {sz n : Nat} {cells : List Value} {xs : List α} (h : Froz D v n cells) (hn : xs.length = n) (hb : n ≤ 9223372036854775807) (he : ∀ i x, xs[i]? = some x → ∃ cs, R D x cs ∧ cs.length = sz ∧ (cells.drop (i * sz)).take sz = cs) : Sl D R sz v xs := by
  rcases h with ⟨a, hv, hn0, hc⟩ | ⟨b, cap, hv, hc, hA⟩
  · subst hn0
    have : xs = [] := List.length_eq_zero_iff.1 hn
    subst this; subst hv
    exact ⟨a, 0, rfl, Nat.le_refl _, by simp, Or.inl rfl⟩
  · subst hv; exact Sl.of_at hA hn hc hb he
theorem Froz.ints {D : Data} {n : Nat} {l : List Int} (h : Froz D v n (ints l)) (hn : l.length = n) (hb : n ≤ 9223372036854775807) : Sl D RI 1 v l :=
  h.sl hn hb fun i x hx => ⟨[.int .i64 x], rfl, rfl, by
    have h := ints_get hx
    have hl := (List.getElem?_eq_some_iff.1 h).1
    rw [Nat.mul_one, List.drop_eq_getElem_cons hl]
    rw [List.getElem?_eq_getElem hl] at h
    simp [Option.some.inj h]⟩
/-- A source for an append: a slice that was written out; a slice of numbers. -/
theorem Src.lit {D : Data} {b m c : Nat} {xs : List Value} (h : At D b 0 xs) : Src D (.slice (some ⟨b, 0, none⟩) m c) m xs := Or.inr ⟨b, 0, c, rfl, h⟩
theorem Src.ints {D : Data} {l : List Int} (h : Sl D RI 1 v l) : Src D v l.length (ints l) := by
  obtain ⟨a, cap, rfl, h1, h2, h3⟩ := h
  rcases h3 with rfl | ⟨b, o, rfl, h3⟩
  · exact Or.inl ⟨a, cap, rfl, rfl, rfl⟩
  · refine Or.inr ⟨b, o, cap, rfl, fun j v hj => ?_⟩
    simp only [Fs.ints, List.getElem?_map, Option.map_eq_some_iff] at hj
    obtain ⟨n, hn, rfl⟩ := hj
    obtain ⟨cs, hr, hc, hA⟩ := h3 j n hn
    obtain rfl : cs = [.int .i64 n] := hr
    have := hA 0 _ rfl
    simpa using this
end Go.Fs
namespace Go.Fs
variable {P : Program} {X : Cx} {γb : Type} [Membership Nat γb] {bad : γb} {all : Array Oper} {K : Act → World → Prop} {Q : Exit → Act → World → Prop}
variable {σ : Slots} {μ : Boxes} {Ds : List Data} {os : List (Bool × Nat)} {fl : Bool} {ix : Nat}
variable {d : Nat} {x y z : Operand} {u v : Value} {ty : TypeId} {pos : String} {aft : Array Edge} {g : Option (Nat × Bool)}
/-- The blocks of the list, and the data, are as they were. -/
def High (β : List Nat) (D : Data) (w : World) (D' : Data) (w' : World) : Prop := w.heap.size ≤ w'.heap.size ∧ Le D D' ∧ ∀ b ∈ β, w'.heap[b]? = w.heap[b]? ∧ D' b = D b
abbrev Inv := List Nat → Data → World → Prop
/-- A call of yield that runs a round. -/
def YieldRuns (P : Program) (l : Nat) (vs : List Value) (w : World) (R : Bool → Data → World → Prop) : Prop :=
  ∃ fn tmps assign body, (Instr.yield l vs.toArray).run P w = .ok (.round l fn tmps assign body) w ∧ Rounds P l fn tmps assign body w fun e w' => ∃ b D', e = .returned (.bool b) ∧ R b D' w'
def Cx.withEx (X : Cx) (J : Inv) : Cx := { X with ex := some J }
/-- **A call of yield** in an iterator. -/
theorem L.yield {J J1 J0 : Inv} {l : Nat} {c : Operand} {xs : Array Operand} {ats : Array TypeId} {vs : List Value} (ho : all[ix]? = some ⟨some d, .call { callee := .value c, args := xs, argTypes := ats }, ty, pos, aft, g⟩)
    (hc : ev σ c = some (.func (.yield l) #[] #[])) (hxs : evs σ xs.toList = some vs) (hex : X.ex = some J) (hfl : fl = false) (h0 : X.h0 = ⟨#[], none⟩) (hm : X.mods = []) (hs1 : Stb X.lo J1) (hs0 : Stb X.lo J0)
    (hY : ∀ D w, Dom X.lo D w → J (μ.map (·.1)) D w → (∀ p ∈ μ, p.1 < w.heap.size) → (∀ D₁ ∈ Ds, Le D₁ D) → YieldRuns P l vs w fun b D' w' => Dom X.lo D' w' ∧ High (μ.map (·.1)) D w D' w' ∧ (if b then J1 (μ.map (·.1)) D' w' else J0 (μ.map (·.1)) D' w'))
    (hN : Nat.blt d X.N = true) (hg : Gok all σ g)
    (k1 : WL P (X.withEx J1) bad all K Q os ((d, .bool true) :: σ) μ Ds) (k0 : WL P (X.withEx J0) bad all K Q os ((d, .bool false) :: σ) μ Ds) : WL P X bad all K Q ((fl, ix) :: os) σ μ Ds := by
  refine L.loud ho rfl rfl hg fun a w hh => ?_
  obtain ⟨h1, h2, h3, D, h4, h5, h6⟩ := id hh
  have hJ : J (μ.map (·.1)) D w := by unfold exOk at h6; rw [hex] at h6; exact h6.2
  obtain ⟨fn, tmps, assign, body, hy, hr⟩ := hY D w h4.dom hJ (fun p hp => lt_of_some (h4.box p hp).1) h5
  have e : xs.map a.eval = vs.toArray := by rw [← evs_eval (fun _ _ hx => hh.eval hx) hxs, ← Array.toList_map]
  have hrun : (execOp a.eval ⟨some d, .call { callee := .value c, args := xs, argTypes := ats }, ty, pos, aft, g⟩).run P w = .ok (.round l fn tmps assign body) w := by
    simp only [execOp, resolve, hh.eval hc, Deferred.ofValue, pure_bind, invoke, e]
    rw [← hy]; simp
  rw [hrun]
  refine ⟨fun h => by simp [FW] at h, (roundIn_FW hr).mono ?_⟩
  rintro e' w' ⟨b, D', rfl, hd', hh', hb⟩
  have hst : Sta X.h0 X.lo X.D0 X.mods μ D' w' := by
    refine ⟨h4.hlo, hd'.2.1, (fun b hb => by rw [h0] at hb; exact absurd hb (Nat.not_lt_zero _)), (fun b hb => by rw [h0] at hb; exact absurd hb (Nat.not_lt_zero _)), hd'.1, fun p hp => ?_, h4.nd, fun b o hb => hd'.2.2 b o (hb.resolve_right (by rw [hm]; simp)), fun e he => by rw [h0] at he; cases he⟩
    obtain ⟨p1, p2, p3⟩ := h4.box p hp
    obtain ⟨q1, q2⟩ := hh'.2.2 p.1 (List.mem_map.2 ⟨p, hp, rfl⟩)
    exact ⟨q1.trans p1, q2.trans p2, p3⟩
  have hds : ∀ D₁ ∈ Ds, Le D₁ D' := fun D₁ hD₁ => (h5 D₁ hD₁).trans hh'.2.1
  refine ⟨(fun h => by rw [hfl] at h; cases h), ?_⟩
  cases b with
  | true =>
    refine k1 _ _ (Hl.put (X := X.withEx J1) ⟨h1, h2, h3, D', hst, hds, ⟨hs1, hb⟩⟩ hN _)
  | false =>
    refine k0 _ _ (Hl.put (X := X.withEx J0) ⟨h1, h2, h3, D', hst, hds, ⟨hs0, hb⟩⟩ hN _)
/-! ### Functions that call yield -/
def Xj (N lo : Nat) (J : Inv) : Cx := ⟨none, N, [], ⟨#[], none⟩, lo, fun _ => [], [], some J⟩
/-- The world as such a function finds it, and leaves it. -/
def SJ (lo : Nat) (J : Inv) (μ : Boxes) (Ds : List Data) (w : World) : Prop :=
  ∃ D, Sta ⟨#[], none⟩ lo (fun _ => []) [] μ D w ∧ (∀ D₁ ∈ Ds, Le D₁ D) ∧ exOk (Xj 0 lo J) μ D w
/-- What a call of such a function comes to. -/
def FnJ (P : Program) (f : FuncId) (args : List Value) (lo : Nat) (J : Inv) (μ : Boxes) (Ds : List Data) (post : Value → Inv → Boxes → Prop) : Prop :=
  EF P f ∧ ∀ w, SJ lo J μ Ds w → Calls P f args.toArray w fun e w' => ∃ v J' μ', e = .returned v ∧ SJ lo J' μ' Ds w' ∧ post v J' μ'
def PostJ (lo : Nat) (Ds : List Data) (post : Value → Inv → Boxes → Prop) : Ending → World → Prop := fun e w' => ∃ v J' μ', e = .returned v ∧ SJ lo J' μ' Ds w' ∧ post v J' μ'
theorem np_bodyJ {fn : Func} {lo : Nat} {post : Value → Inv → Boxes → Prop} : NP (bodyPost P fn (PostJ lo Ds post)) := by
  rintro c a w ⟨_, v, D', μ', h, _⟩
  cases h
theorem enterJ {f : FuncId} {fn : Func} {c : Code} {args : List Value} {lo : Nat} {J : Inv} {post : Value → Inv → Boxes → Prop} (N : Nat) (hf : P.funcs[f]? = some fn) (hn : (fn.name == "runtime.NumGoroutine") = false) (hb : fn.body = some c) (hN : fn.ntmps = N) (hsz : Nat.ble args.length N = true)
    (h : WC P (Xj N lo J) (bodyPost P fn (PostJ lo Ds post)) c (slotsOf 0 args) μ Ds) : FnJ P f args lo J μ Ds post := by
  refine ⟨EF.of hf hn hb, fun w hw => ?_⟩
  subst hN
  have hsz := Nat.le_of_ble_eq_true hsz
  obtain ⟨D, hs, hds, hex⟩ := hw
  refine (callsIn_FW (r := none) (n := 0)).1 (callsIn_of_wp (R := PostJ lo Ds post) hf hb trivial (h _ w ⟨?_, (fun s v hs => ?_), rfl, D, hs, hds, hex⟩) rfl)
  · simp [Xj]; omega
  · obtain ⟨_, h2⟩ := look_slotsOf args 0 s v hs
    have hl := (List.getElem?_eq_some_iff.1 h2).1
    simp only [Nat.sub_zero] at h2 hl
    show (args.toArray ++ _)[s]? = some v
    rw [Array.getElem?_append_left (by simpa using hl)]
    simpa using h2
theorem leaveJ {fn : Func} {lo N : Nat} {J : Inv} {post : Value → Inv → Boxes → Prop} {e : Exit} (he : (match e with | .normal => true | .ret => true | _ => false) = true) {rs : List ResultVar} {vs : List Value} (hr : fn.results = rs.toArray) (h : ResV P (Xj N lo J) σ μ rs vs)
    {Ds' : List Data} (hD : ∀ D ∈ Ds', ∃ D' ∈ Ds, Le D D') (hp : post (resOf vs) J μ) : ∀ a w, Hl (Xj N lo J) σ μ Ds a w → bodyPost P fn (PostJ lo Ds' post) e a w := by
  intro a w hh
  have hrun := run_results hh hr h
  obtain ⟨h1, h2, h3, D, h4, h5, h6⟩ := hh
  have : a.defers = [] ∧ ∃ v, (results fn a.tmps).run P w = .ok v w ∧ PostJ lo Ds' post (.returned v) w := ⟨h3, _, hrun, _, J, μ, rfl, ⟨D, h4, (fun D₁ h => by obtain ⟨D2, hm, hle⟩ := hD D₁ h; exact hle.trans (h5 D2 hm)), h6⟩, hp⟩
  cases e <;> first | exact this | cases he
/-- A call of such a function, in one. -/
theorem L.callJ {J : Inv} {N lo : Nat} {c : Operand} {xs : Array Operand} {ats : Array TypeId} {f : FuncId} {c1 c2 vs : List Value} {post : Value → Inv → Boxes → Prop} (ho : all[ix]? = some ⟨some d, .call { callee := .value c, args := xs, argTypes := ats }, ty, pos, aft, g⟩)
    (hc : ev σ c = some (.func (.func f) c1.toArray c2.toArray)) (hxs : evs σ xs.toList = some vs) (hfl : fl = false)
    (hf : FnJ P f (c1 ++ vs ++ c2) lo J μ Ds post) (hN : Nat.blt d N = true) (hg : Gok all σ g)
    (kk : ∀ v J' μ', post v J' μ' → WL P (Xj N lo J') bad all K Q os ((d, v) :: σ) μ' Ds) : WL P (Xj N lo J) bad all K Q ((fl, ix) :: os) σ μ Ds := by
  refine L.loud ho rfl rfl hg fun a w hh => ?_
  obtain ⟨h1, h2, h3, D, h4, h5, h6⟩ := id hh
  rw [run_call hf.1 (hh.eval hc) (evs_eval (fun _ _ hx => hh.eval hx) hxs)]
  refine ⟨fun h => by simp [FW] at h, callsIn_FW.2 ((hf.2 w ⟨D, h4, h5, h6⟩).mono ?_)⟩
  rintro e w' ⟨v, J', μ', rfl, ⟨D', hs, hds, hex⟩, hpost⟩
  exact ⟨(fun h => by rw [hfl] at h; cases h), kk v J' μ' hpost _ _ (Hl.put (X := Xj N lo J') ⟨h1, h2, h3, D', hs, hds, hex⟩ hN v)⟩
/-! ### The statement -/
/-- What a function is worth that is ranged over: it hands over the elements of xs one after the other, as long as it is told to go on. -/
def IterOK {α : Type} (P : Program) (f : FuncId) (cap : List Value) (Dr : Data) (xs : List α) (enc : α → List Value) : Prop :=
  EF P f ∧ ∀ (lo l : Nat) (J Jx : List α → Inv), (∀ pre, Stb lo (J pre)) → (∀ pre, Stb lo (Jx pre)) →
    (∀ pre x β D w, (∃ r, xs = pre ++ x :: r) → Dom lo D w → J pre β D w → (∀ b ∈ β, b < w.heap.size) → Le Dr D →
      YieldRuns P l (enc x) w fun b D' w' => Dom lo D' w' ∧ High β D w D' w' ∧ (if b then J (pre ++ [x]) β D' w' else Jx (pre ++ [x]) β D' w')) →
    ∀ D w, Dom lo D w → Le Dr D → J [] [] D w → Calls P f (.func (.yield l) #[] #[] :: cap).toArray w fun e w' => ∃ v D', e = .returned v ∧ Dom lo D' w' ∧ (J xs [] D' w' ∨ ∃ pre, Jx pre [] D' w')
/-- What the loop's owner knows between two rounds. -/
def Own {γ : Type} (h0 : H0) (lo : Nat) (D0 : Data) (mods : List Nat) (Ds : List Data) (Φ : γ → Prop) (Mx : γ → Boxes) : Inv := fun β D w =>
  ∃ g, Φ g ∧ Sta h0 lo D0 mods (Mx g) D w ∧ (∀ D₁ ∈ Ds, Le D₁ D) ∧ (∀ b ∈ β, h0.size ≤ b ∧ ∀ D₁ ∈ Ds, D₁ b = []) ∧ ∀ p ∈ Mx g, p.1 ∉ β
theorem own_stb {γ : Type} {h0 : H0} {lo : Nat} {D0 : Data} {Ds : List Data} {Φ : γ → Prop} {Mx : γ → Boxes} : Stb lo (Own h0 lo D0 [] Ds Φ Mx) := by
  constructor
  · rintro β D w D' w' ⟨g, hg, hs, hD, hβ, hM⟩ ⟨hl1, hl2, hl3⟩ hd
    refine ⟨g, hg, ⟨hs.hlo, hd.2.1, fun b hb hm => ?_, fun b hb => ?_, hd.1, fun p hp => ?_, hs.nd, fun b o hb ho => hd.2.2 b o (hb.resolve_right (by simp)) ho, fun e he => hl3.trans (hs.env e he)⟩, fun D₁ hD₁ b => ?_, hβ, hM⟩
    · have hlt : b < w.heap.size := by have := hs.hlo; have := hs.size; omega
      have hn : b ∉ β := fun h => by have := (hβ b h).1; omega
      rw [(hl2 b hlt hn).1]; exact hs.old b hb hm
    · have hlt : b < w.heap.size := by have := hs.hlo; have := hs.size; omega
      have hn : b ∉ β := fun h => by have := (hβ b h).1; omega
      rw [(hl2 b hlt hn).2]; exact hs.dold b hb
    · obtain ⟨p1, p2, p3⟩ := hs.box p hp
      obtain ⟨q1, q2⟩ := hl2 p.1 (lt_of_some p1) (hM p hp)
      exact ⟨q1.trans p1, q2.trans p2, p3⟩
    · by_cases hb : b ∈ β
      · rw [(hβ b hb).2 D₁ hD₁]; exact List.nil_prefix
      · by_cases hlt : b < w.heap.size
        · rw [(hl2 b hlt hb).2]; exact hD D₁ hD₁ b
        · have := hD D₁ hD₁ b
          rw [hs.agr.fresh (Nat.le_of_not_lt hlt)] at this
          rw [List.prefix_nil.1 this]; exact List.nil_prefix
  · rintro β β' D w ⟨g, hg, hs, hD, hβ, hM⟩ hb'
    refine ⟨g, hg, hs, hD, fun b hb => ?_, fun p hp hb => ?_⟩
    · rcases hb' b hb with h | h
      · exact hβ b h
      · refine ⟨by have := hs.hlo; have := hs.size; omega, fun D₁ hD₁ => ?_⟩
        have := hD D₁ hD₁ b
        rw [hs.agr.fresh h] at this
        exact List.prefix_nil.1 this
    · rcases hb' _ hb with h | h
      · exact hM p hp h
      · have := lt_of_some (hs.box p hp).1; omega
/-- A round's state, set into the loop owner's. -/
theorem Sta.round {h0 : H0} {lo : Nat} {D0 D D' : Data} {μ μ' : Boxes} {w w' : World} (h : Sta h0 lo D0 [] μ D w) (hs : Sta (hd w) w.heap.size D (μ.map (·.1)) μ' D' w') : Sta h0 lo D0 [] μ' D' w' := by
  have hle := Nat.le_trans h.hlo h.size
  have hkey : ∀ b ∈ μ.map (·.1), lo ≤ b := by
    intro b hb
    obtain ⟨p, hp, rfl⟩ := List.mem_map.1 hb
    exact (h.box p hp).2.2.resolve_right (by simp)
  refine ⟨h.hlo, Nat.le_trans h.size hs.size, fun b hb hm => ?_, fun b hb => ?_, hs.agr, fun p hp => ?_, hs.nd, fun b o hb ho => ?_, fun e he => (hs.env _ rfl).trans (h.env e he)⟩
  · rw [hs.old b (Nat.lt_of_lt_of_le hb hle) (fun hk => by have := hkey b hk; have := h.hlo; omega)]; exact h.old b hb hm
  · rw [hs.dold b (Nat.lt_of_lt_of_le hb hle)]; exact h.dold b hb
  · obtain ⟨p1, p2, p3⟩ := hs.box p hp
    refine ⟨p1, p2, Or.inl ?_⟩
    rcases p3 with p3 | p3
    · have := h.size; omega
    · exact hkey _ p3
  · have hb := hb.resolve_right (by simp)
    by_cases hk : b ∈ μ.map (·.1)
    · exact hs.fz b o (Or.inr hk) ho
    · rcases Nat.lt_or_ge b w.heap.size with hl | hl
      · rw [hs.old b hl hk] at ho; exact h.fz b o (Or.inl hb) ho
      · exact hs.fz b o (Or.inl hl) ho
theorem Sta.roundHigh {D D' : Data} {w w' : World} {μ μ' : Boxes} {β : List Nat} (hw : Agrees D w) (hs : Sta (hd w) w.heap.size D (μ.map (·.1)) μ' D' w') (hβ : ∀ b ∈ β, b < w.heap.size) (hM : ∀ p ∈ μ, p.1 ∉ β) : High β D w D' w' := by
  refine ⟨hs.size, le_of_call hw hs, fun b hb => ⟨hs.old b (hβ b hb) (fun hk => ?_), hs.dold b (hβ b hb)⟩⟩
  obtain ⟨p, hp, rfl⟩ := List.mem_map.1 hk
  exact hM p hp hb
def markOf (bd : Nat) : Deferred := { target := .collected bd, args := #[] }
def Cx.withDs (X : Cx) (bd : Nat) : Cx := { X with ds := markOf bd :: X.ds }
/-- The frame of a round. -/
def Xr (l N : Nat) (h0 : H0) (D : Data) (mods : List Nat) : Cx := ⟨some l, N, [], h0, h0.size, D, mods, none⟩
/-- What a round ends in. -/
def RoundR {γ : Type} (h0 : H0) (D : Data) (mods : List Nat) (Φ : γ → Prop) (Ψ : Code → γ → Prop) (Mx : γ → Boxes) (My : Code → γ → Boxes) : Ending → World → Prop := fun e w' =>
  ∃ b D', e = .returned (.bool b) ∧ (if b then ∃ g, Φ g ∧ Sta h0 h0.size D mods (Mx g) D' w' else ∃ c g, Ψ c g ∧ Sta h0 h0.size D mods (My c g) D' w')
/-- Behind the assignments to the loop's left sides: the round begins. -/
theorem C.begin {c : Code} {A B : Boxes} {l : Nat} {r : Loop} {QQ : Exit → Act → World → Prop} (hr : X.r = some l) (hst : r.state = .ready) (h : WC P X Q c σ (A ++ (l, .loop { r with state := .busy }) :: B) Ds) :
    ∀ a w, Hl X σ (A ++ (l, .loop r) :: B) Ds a w → Exit.then (fun a₁ w₁ => ∃ w₂, (Instr.beginRound l).run P w₁ = .ok () w₂ ∧ c.wpIn ((FW none).inRound l) 0 P Q a₁ w₂) QQ .normal a w := by
  intro a w hh
  obtain ⟨h1, h2, h3, D, h4, h5, h6⟩ := hh
  have hb := (h4.box (l, .loop r) (by simp)).1
  refine ⟨_, run_beginRound hb hst, ?_⟩
  have hHas : Has (A ++ (l, .loop r) :: B) l (.loop r) (.loop { r with state := .busy }) (A ++ (l, .loop { r with state := .busy }) :: B) := .app .head
  have hs := h4.set (w' := w.putObj l (.loop { r with state := .busy })) hHas ⟨rfl, rfl⟩ trivial
  have := h a _ ⟨h1, h2, h3, D, hs, h5, h6.step (fun _ p hp => Or.inl (by rw [← hHas.keys]; exact List.mem_map.2 ⟨p, hp, rfl⟩)) (fun _ => low_set ⟨rfl, rfl⟩ (List.mem_map.2 ⟨_, hHas.mem, rfl⟩)) hs.dom⟩
  rw [hr] at this
  exact this
/-- A round's end: on. -/
theorem C.roundOn {γ : Type} {A B : Boxes} {l : Nat} {r : Loop} {Φ : γ → Prop} {Ψ : Code → γ → Prop} {Mx : γ → Boxes} {My : Code → γ → Boxes} (g : γ) (hΦ : Φ g) (hM : Mx g = A ++ (l, .loop { r with state := .ready, pending := none }) :: B) (hlo : X.lo = X.h0.size) :
    ∀ a w, Hl X σ (A ++ (l, .loop r) :: B) Ds a w → roundPost P l (RoundR X.h0 X.D0 X.mods Φ Ψ Mx My) .normal a w := by
  intro a w hh
  obtain ⟨h1, h2, h3, D, h4, h5, h6⟩ := hh
  have hb := (h4.box (l, .loop r) (by simp)).1
  refine ⟨_, _, run_endRound none hb, true, D, rfl, g, hΦ, ?_⟩
  have hHas : Has (A ++ (l, .loop r) :: B) l (.loop r) (.loop { r with state := .ready, pending := none }) (A ++ (l, .loop { r with state := .ready, pending := none }) :: B) := .app .head
  have hs := h4.set (w' := w.putObj l (.loop { r with state := .ready, pending := none })) hHas ⟨rfl, rfl⟩ trivial
  rw [hM, ← hlo]; exact hs
/-- The loop variables' slots, as yield is called. -/
def parSlots : List Tmp → List Value → Slots → Slots
  | p :: ps, v :: vs, σ => parSlots ps vs ((p, v) :: σ)
  | _, _, σ => σ
theorem look_par : ∀ (ps : List Tmp) (vs : List Value) (tmps : Array Value) (σ : Slots), (∀ s v, look σ s = some v → tmps[s]? = some v) → (∀ p ∈ ps, p < tmps.size) →
    ∀ s v, look (parSlots ps vs σ) s = some v → ((ps.zip vs).foldl (fun tmps (p : Tmp × Value) => tmps.setIfInBounds p.1 p.2) tmps)[s]? = some v
  | [], vs, tmps, σ, h, _, s, v, hs => by cases vs <;> exact h s v hs
  | p :: ps, [], tmps, σ, h, _, s, v, hs => h s v hs
  | p :: ps, u :: vs, tmps, σ, h, hp, s, v, hs => by
    refine look_par ps vs (tmps.setIfInBounds p u) ((p, u) :: σ) (fun s v hs => ?_) (fun q hq => by simpa using hp q (List.mem_cons_of_mem _ hq)) s v hs
    simp only [look] at hs
    cases hb : Nat.beq p s with
    | true => rw [hb] at hs; cases hs; obtain rfl := Nat.eq_of_beq_eq_true hb; rw [Array.getElem?_setIfInBounds_self_of_lt (hp p List.mem_cons_self)]
    | false => rw [hb] at hs; rw [Array.getElem?_setIfInBounds_ne (fun e => by subst e; simp at hb)]; exact h s v hs
theorem size_par : ∀ (l : List (Tmp × Value)) (tmps : Array Value), (l.foldl (fun tmps (p : Tmp × Value) => tmps.setIfInBounds p.1 p.2) tmps).size = tmps.size
  | [], _ => rfl
  | p :: l, tmps => by rw [List.foldl_cons, size_par l]; simp
/-- **THE STATEMENT 'for .. := range g { .. }'**, outermost in its function. -/
theorem C.rangeFunc {α γ : Type} {xs : List α} {enc : α → List Value} {Dr : Data} {f : FuncId} {cap : List Value} {gop : Operand} {ps : Array Tmp} {assign body : Code}
    (Φ : List α → γ → Prop) (Ψ : List α → Code → γ → Prop) (M : γ → Boxes) (g₀ : γ) (hr : X.r = none) (hex : X.ex = none) (hmods : X.mods = [])
    (hg : ev σ gop = some (.func (.func f) #[] cap.toArray)) (hit : IterOK P f cap Dr xs enc) (hDr : Dr ∈ Ds) (hps : ∀ x, (enc x).length = ps.size) (hpN : (ps.toList.all fun p => Nat.blt p X.N) = true) (h₀ : Φ [] g₀) (hμ : M g₀ = μ)
    (hround : ∀ pre x g, (∃ r, xs = pre ++ x :: r) → Φ pre g → ∀ (l bd : Nat) (rec : Loop) (h0 : H0) (D : Data), (∀ D₁ ∈ Ds, Le D₁ D) → rec.state = .ready → rec.pending = none →
      WC P (Xr l X.N h0 D ((M g ++ (l, Obj.loop rec) :: [(bd, Obj.deferred (some []))]).map (·.1)))
        (Exit.then (fun a₁ w₁ => ∃ w₂, (Instr.beginRound l).run P w₁ = .ok () w₂ ∧ body.wpIn ((FW none).inRound l) 0 P (roundPost P l (RoundR h0 D ((M g ++ (l, Obj.loop rec) :: [(bd, Obj.deferred (some []))]).map (·.1)) (Φ (pre ++ [x])) (Ψ (pre ++ [x]))
          (fun g => M g ++ (l, Obj.loop { rec with state := .ready, pending := none }) :: [(bd, Obj.deferred (some []))]) (fun c g => M g ++ (l, Obj.loop { rec with state := .done, pending := some c }) :: [(bd, Obj.deferred (some []))]))) a₁ w₂) (fun _ _ _ => False))
        assign (parSlots ps.toList (enc x) σ) (M g ++ (l, Obj.loop rec) :: [(bd, Obj.deferred (some []))]) (D :: Ds))
    (hdone : ∀ g bd, Φ xs g → ∀ a w, Hl (X.withDs bd) σ (M g ++ [(bd, Obj.deferred (some []))]) Ds a w → Q .normal a w)
    (hstop : ∀ pre c g bd, Ψ pre c g → WC P (X.withDs bd) Q c σ (M g ++ [(bd, Obj.deferred (some []))]) Ds) : WC P X Q (.rangeFunc gop ps assign body) σ μ Ds := by
  intro a w hh
  subst hμ
  have hev := hh.eval hg
  obtain ⟨h1, h2, h3, D, h4, h5, h6⟩ := hh
  rw [hmods] at h4
  refine wpIn_rangeFunc fun fn _ => ?_
  have hround' : (FW X.r).round = none := hr
  rw [hround']
  let bd := w.heap.size
  let l := w.heap.size + 1
  let rec0 : Loop := { state := .ready, pending := none, fn, tmps := a.tmps, params := ps, assign, body, defers := bd }
  let w1 : World := { w with heap := w.heap.push (.deferred (some [])) }
  let w2 : World := { w1 with heap := w1.heap.push (.loop rec0) }
  have hs1 : Sta X.h0 X.lo X.D0 [] ((bd, Obj.deferred (some [])) :: M g₀) D w1 := h4.push (.deferred (some [])) trivial
  have hs2 : Sta X.h0 X.lo X.D0 [] ((l, Obj.loop rec0) :: (bd, Obj.deferred (some [])) :: M g₀) D w2 := by
    have := hs1.push (.loop rec0) trivial
    have e : w1.heap.size = l := by simp [w1, l]
    rw [e] at this; exact this
  have hperm : Sta X.h0 X.lo X.D0 [] (M g₀ ++ (l, Obj.loop rec0) :: [(bd, Obj.deferred (some []))]) D w2 := by
    refine hs2.sub (fun p hp => ?_) ?_
    · simp only [List.mem_append, List.mem_cons, List.not_mem_nil, or_false] at hp ⊢
      rcases hp with hp | hp | hp
      · exact Or.inr (Or.inr hp)
      · exact Or.inl hp
      · exact Or.inr (Or.inl hp)
    · have hn := hs2.nd
      simp only [List.map_cons, List.nodup_cons, List.mem_cons, not_or] at hn
      simp only [List.map_append, List.map_cons, List.map_nil, List.nodup_append, List.nodup_cons, List.mem_cons, List.not_mem_nil, or_false, not_false_eq_true, List.nodup_nil, and_true]
      refine ⟨hn.2.2, hn.1.1, fun q hq r hr' => ?_⟩
      rcases hr' with rfl | rfl
      · rintro rfl; exact hn.1.2 hq
      · rintro rfl; exact hn.2.1 hq
  -- the call
  refine ⟨l, [markOf bd], w2, { target := .fn (.func f) cap.toArray, args := #[.func (.yield l) #[] #[]] }, w2, f, (.func (.yield l) #[] #[] :: cap).toArray, w2, run_enterLoop_outer fn a.tmps ps assign body, ?_, fun _ _ => trivial, ?_, fun h => by simp [FW] at h, ?_⟩
  · simp only [resolve, Deferred.ofValue]
    have e : Array.map a.eval #[Operand.const (Value.func (Fn.yield l) #[] #[])] = #[.func (.yield l) #[] #[]] := by simp [Act.eval]
    rw [e, hev]; rfl
  · simp only [invoke]
    rw [hit.1]; simp
  · refine callsIn_FW.2 ((hit.2 X.lo l
      (fun pre => Own X.h0 X.lo X.D0 [] Ds (Φ pre) fun g => M g ++ (l, Obj.loop rec0) :: [(bd, Obj.deferred (some []))])
      (fun pre => Own X.h0 X.lo X.D0 [] Ds (fun cg : Code × γ => Ψ pre cg.1 cg.2) fun cg => M cg.2 ++ (l, Obj.loop { rec0 with state := .done, pending := some cg.1 }) :: [(bd, Obj.deferred (some []))])
      (fun _ => own_stb) (fun _ => own_stb) ?_ D w2 hs2.dom (h5 Dr hDr) ⟨g₀, h₀, hperm, h5, (fun _ h => by cases h), (fun _ _ h => by cases h)⟩).mono ?_)
    · rintro pre x β Dx wx hx hdx ⟨g, hΦ, hst, hDs, hβ, hM⟩ hβs hle
      have hbox := (hst.box (l, Obj.loop rec0) (by simp)).1
      refine ⟨fn, _, assign, body, run_yield hbox (by simpa using hps x), ?_⟩
      refine (roundIn_of_wpIn (F := FW none) trivial (R := RoundR (hd wx) Dx ((M g ++ (l, Obj.loop rec0) :: [(bd, Obj.deferred (some []))]).map (·.1)) (Φ (pre ++ [x])) (Ψ (pre ++ [x]))
          (fun g => M g ++ (l, Obj.loop { rec0 with state := .ready, pending := none }) :: [(bd, Obj.deferred (some []))]) (fun c g => M g ++ (l, Obj.loop { rec0 with state := .done, pending := some c }) :: [(bd, Obj.deferred (some []))])) ?_).mono ?_
      · have hw := hround pre x g hx hΦ l bd rec0 (hd wx) Dx hDs rfl rfl
        have ht : (ps.zip (enc x).toArray).foldl (fun tmps (t, a) => tmps.setIfInBounds t a) a.tmps = (ps.toList.zip (enc x)).foldl (fun tmps (p : Tmp × Value) => tmps.setIfInBounds p.1 p.2) a.tmps := by
          rw [← Array.foldl_toList]; simp
        have hpN' : ∀ p ∈ ps.toList, p < a.tmps.size := fun p hp => by rw [h1]; simpa [Nat.blt_eq] using List.all_eq_true.1 hpN p hp
        refine hw { tmps := _, defers := [] } wx ⟨?_, fun s v hs => ?_, rfl, Dx, ⟨Nat.le_refl _, Nat.le_refl _, fun _ _ _ => rfl, fun _ _ => rfl, hst.agr, fun p hp => ?_, hst.nd, fun b o hb ho => ?_, fun e he => Option.some.inj he⟩, fun D₁ hD₁ => ?_, trivial⟩
        · show ((ps.zip (enc x).toArray).foldl _ a.tmps).size = X.N
          rw [ht, size_par]; exact h1
        · show ((ps.zip (enc x).toArray).foldl _ a.tmps)[s]? = some v
          rw [ht]; exact look_par _ _ _ _ h2 hpN' s v hs
        · obtain ⟨p1, p2, p3⟩ := hst.box p hp
          exact ⟨p1, p2, Or.inr (List.mem_map.2 ⟨p, hp, rfl⟩)⟩
        · rcases hb with hb | hb
          · exact absurd (lt_of_some ho) (Nat.not_lt_of_le hb)
          · obtain ⟨p, hp, rfl⟩ := List.mem_map.1 hb
            exact hst.fz _ o (Or.inl ((hst.box p hp).2.2.resolve_right (by simp))) ho
        · rcases List.mem_cons.1 hD₁ with rfl | hD₁
          · exact Le.refl _
          · exact hDs D₁ hD₁
      · rintro e w' ⟨b, D', rfl, hb⟩
        have fin : ∀ μ', Sta (hd wx) wx.heap.size Dx ((M g ++ (l, Obj.loop rec0) :: [(bd, Obj.deferred (some []))]).map (·.1)) μ' D' w' → Sta X.h0 X.lo X.D0 [] μ' D' w' ∧ High β Dx wx D' w' ∧ (∀ D₁ ∈ Ds, Le D₁ D') ∧ (∀ p ∈ μ', p.1 ∉ β) := by
          intro μ' hs'
          refine ⟨hst.round hs', Sta.roundHigh hst.agr hs' hβs hM, fun D₁ hD₁ => (hDs D₁ hD₁).trans (le_of_call hst.agr hs'), fun p hp hpb => ?_⟩
          rcases (hs'.box p hp).2.2 with h | h
          · have := hβs _ hpb; omega
          · obtain ⟨q, hq, he⟩ := List.mem_map.1 h
            exact hM q hq (by rw [he]; exact hpb)
        refine ⟨b, D', rfl, ?_⟩
        cases b with
        | true =>
          obtain ⟨g', hg', hs'⟩ := hb
          obtain ⟨f1, f2, f3, f4⟩ := fin _ hs'
          exact ⟨f1.dom, f2, g', hg', f1, f3, hβ, f4⟩
        | false =>
          obtain ⟨c', g', hg', hs'⟩ := hb
          obtain ⟨f1, f2, f3, f4⟩ := fin _ hs'
          exact ⟨f1.dom, f2, (c', g'), hg', f1, f3, hβ, f4⟩
    · rintro e w' ⟨v, D', rfl, hd, hend⟩
      have post : ∀ (g : γ) (r : Loop), Sta X.h0 X.lo X.D0 [] (M g ++ (l, Obj.loop r) :: [(bd, Obj.deferred (some []))]) D' w' → (∀ D₁ ∈ Ds, Le D₁ D') →
          Hl (X.withDs bd) σ (M g ++ [(bd, Obj.deferred (some []))]) Ds { a with defers := [markOf bd] ++ a.defers } (w'.putObj l (.loop { r with state := .exhausted })) := by
        intro g r hs hD'
        have hHas : Has (M g ++ (l, Obj.loop r) :: [(bd, Obj.deferred (some []))]) l (.loop r) (.loop { r with state := .exhausted }) (M g ++ (l, Obj.loop { r with state := .exhausted }) :: [(bd, Obj.deferred (some []))]) := .app .head
        have hs' := hs.set (w' := w'.putObj l (.loop { r with state := .exhausted })) hHas ⟨rfl, rfl⟩ trivial
        have hs'' := hs'.sub (μ' := M g ++ [(bd, Obj.deferred (some []))]) (fun p hp => by
          rcases List.mem_append.1 hp with hp | hp
          · exact List.mem_append_left _ hp
          · exact List.mem_append_right _ (List.mem_cons_of_mem _ hp)) (by
          have hn := hs'.nd
          rw [List.map_append, List.nodup_append] at hn ⊢
          simp only [List.map_cons] at hn
          exact ⟨hn.1, (List.nodup_cons.1 hn.2.1).2, fun q hq r hr => hn.2.2 q hq r (List.mem_cons_of_mem _ hr)⟩)
        exact ⟨h1, h2, congrArg (markOf bd :: ·) h3, D', by show Sta X.h0 X.lo X.D0 X.mods _ _ _; rw [hmods]; exact hs'', hD', by unfold exOk; show (match X.ex with | none => True | some J => _); rw [hex]; trivial⟩
      rcases hend with ⟨g, hΦ, hs, hDs, _, _⟩ | ⟨pre, ⟨c, g⟩, hΨ, hs, hDs, _, _⟩
      · have hb := (hs.box (l, Obj.loop rec0) (by simp)).1
        exact ⟨none, _, run_endLoop hb (by simp [rec0]), hdone g bd hΦ _ _ (post g rec0 hs hDs)⟩
      · have hb := (hs.box (l, Obj.loop { rec0 with state := .done, pending := some c }) (by simp)).1
        refine ⟨some c, _, run_endLoop hb (by simp), ?_⟩
        have := hstop pre c g bd hΨ _ _ (post g _ hs hDs)
        exact this
/-! ### A function that ranges over a function: entering it, and leaving it -/
def BodyM (P : Program) (fn : Func) (R : Ending → World → Prop) : Exit → Act → World → Prop
  | .normal, a, w => LeavesInM (FW none) 0 P fn a.tmps R a.defers .returning w
  | .ret, a, w => LeavesInM (FW none) 0 P fn a.tmps R a.defers .returning w
  | _, _, _ => False
theorem enterM {f : FuncId} {fn : Func} {c : Code} {args : List Value} {D : Data} {post : Data → Value → Prop} (N : Nat) (hf : P.funcs[f]? = some fn) (hn : (fn.name == "runtime.NumGoroutine") = false) (hb : fn.body = some c) (hN : fn.ntmps = N) (hsz : Nat.ble args.length N = true)
    (h : ∀ h0 : H0, WC P ⟨none, N, [], h0, h0.size, D, [], none⟩ (BodyM P fn (Post ⟨none, N, [], h0, h0.size, D, [], none⟩ fun D' v _ => post D' v)) c (slotsOf 0 args) [] [D]) : Fn P f args.toArray D post := by
  refine ⟨EF.of hf hn hb, fun w hw => ?_⟩
  subst hN
  have hsz := Nat.le_of_ble_eq_true hsz
  have hq : ∀ e a w', BodyM P fn (Post ⟨none, fn.ntmps, [], hd w, w.heap.size, D, [], none⟩ fun D' v _ => post D' v) e a w' → bodyPostM (FW none) 0 P fn (Post ⟨none, fn.ntmps, [], hd w, w.heap.size, D, [], none⟩ fun D' v _ => post D' v) e a w' := by
    intro e a w' he
    cases e <;> first | exact he | exact he.elim
  have hwp := h (hd w) { tmps := args.toArray ++ Array.replicate (fn.ntmps - args.toArray.size) undef, defers := [] } w ⟨by simp; omega, fun s v hs => by
    obtain ⟨_, h2⟩ := look_slotsOf args 0 s v hs
    have hl := (List.getElem?_eq_some_iff.1 h2).1
    simp only [Nat.sub_zero] at h2 hl
    show (args.toArray ++ _)[s]? = some v
    rw [Array.getElem?_append_left (by simpa using hl)]
    simpa using h2, rfl, D, ⟨Nat.le_refl _, Nat.le_refl _, (fun _ _ _ => rfl), (fun _ _ => rfl), hw, (fun p hp => by cases hp), List.nodup_nil, (fun b o hb ho => absurd (lt_of_some ho) (Nat.not_lt_of_le (hb.resolve_right (by simp)))), fun e he => Option.some.inj he⟩, (fun D₁ h1 => by simp only [List.mem_singleton] at h1; subst h1; exact Le.refl _), trivial⟩
  refine (callsIn_FW (r := none) (n := 0)).1 ((callsIn_of_wp_marks hf hb trivial (wpIn_mono hwp hq) rfl).mono ?_)
  rintro e w' ⟨v, D', μ', rfl, hs, hp⟩
  exact ⟨v, D', rfl, hs.sub (by intro p hp; cases hp) List.nodup_nil, hp⟩
theorem leaveM0 {fn : Func} {post : Data → Value → Boxes → Prop} {e : Exit} (he : (match e with | .normal => true | .ret => true | _ => false) = true) {rs : List ResultVar} {vs : List Value} (hds : X.ds = []) (hr : fn.results = rs.toArray) (h : ResV P X σ μ rs vs)
    (hp : ∀ D, (∀ D₁ ∈ Ds, Le D₁ D) → post D (resOf vs) μ) : ∀ a w, Hl X σ μ Ds a w → BodyM P fn (Post X post) e a w := by
  intro a w hh
  have hrun := run_results hh hr h
  obtain ⟨h1, h2, h3, D, h4, h5, h6⟩ := hh
  have : LeavesInM (FW none) 0 P fn a.tmps (Post X post) a.defers .returning w := by
    rw [h3, hds]; exact ⟨_, hrun, _, D, μ, rfl, h4, hp D h5⟩
  cases e <;> first | exact this | cases he
/-- Behind one loop: X is the frame as it was entered. -/
theorem leaveM1 {fn : Func} {bd : Nat} {post : Data → Value → Boxes → Prop} {e : Exit} (he : (match e with | .normal => true | .ret => true | _ => false) = true) {rs : List ResultVar} {vs : List Value} {A : Boxes} (hds : X.ds = []) (hr : fn.results = rs.toArray) (h : ResV P X σ (A ++ [(bd, Obj.deferred none)]) rs vs)
    (hp : ∀ D, (∀ D₁ ∈ Ds, Le D₁ D) → post D (resOf vs) (A ++ [(bd, Obj.deferred none)])) : ∀ a w, Hl (X.withDs bd) σ (A ++ [(bd, Obj.deferred (some []))]) Ds a w → BodyM P fn (Post X post) e a w := by
  intro a w hh
  obtain ⟨h1, h2, h3, D, h4, h5, h6⟩ := hh
  have hHas : Has (A ++ [(bd, Obj.deferred (some []))]) bd (.deferred (some [])) (.deferred none) (A ++ [(bd, Obj.deferred none)]) := .app .head
  have hs := h4.set (w' := w.putObj bd (.deferred none)) hHas ⟨rfl, rfl⟩ trivial
  have hh' : Hl X σ (A ++ [(bd, Obj.deferred none)]) Ds { a with defers := [] } (w.putObj bd (.deferred none)) :=
    ⟨h1, h2, hds.symm, D, hs, h5, h6.step (X := X.withDs bd) (fun _ p hp => Or.inl (by rw [← hHas.keys]; exact List.mem_map.2 ⟨p, hp, rfl⟩)) (fun _ => low_set ⟨rfl, rfl⟩ (List.mem_map.2 ⟨_, hHas.mem, rfl⟩)) hs.dom⟩
  have hrun := run_results hh' hr h
  have hb := (h4.box (bd, Obj.deferred (some [])) (by simp)).1
  have : LeavesInM (FW none) 0 P fn a.tmps (Post X post) a.defers .returning w := by
    have h3' : a.defers = [markOf bd] := h3.trans (by show markOf bd :: X.ds = _; rw [hds])
    rw [h3']
    exact ⟨by simp, Or.inl ⟨bd, _, rfl, run_takeDeferred hb, _, hrun, _, D, _, rfl, hs, hp D h5⟩⟩
  cases e <;> first | exact this | cases he
/-! ### Entering an iterator -/
theorem enterIter {α : Type} {f : FuncId} {fn : Func} {c : Code} {cap : List Value} {Dr : Data} {xs : List α} {enc : α → List Value} (N : Nat) (hf : P.funcs[f]? = some fn) (hn : (fn.name == "runtime.NumGoroutine") = false) (hb : fn.body = some c) (hN : fn.ntmps = N) (hsz : Nat.ble (cap.length + 1) N = true)
    (h : ∀ (lo l : Nat) (J Jx : List α → Inv), (∀ pre, Stb lo (J pre)) → (∀ pre, Stb lo (Jx pre)) →
      (∀ pre x β D w, (∃ r, xs = pre ++ x :: r) → Dom lo D w → J pre β D w → (∀ b ∈ β, b < w.heap.size) → Le Dr D →
        YieldRuns P l (enc x) w fun b D' w' => Dom lo D' w' ∧ High β D w D' w' ∧ (if b then J (pre ++ [x]) β D' w' else Jx (pre ++ [x]) β D' w')) →
      WC P (Xj N lo (J [])) (bodyPost P fn (PostJ lo [Dr] fun _ J' _ => J' = J xs ∨ ∃ pre, J' = Jx pre)) c (slotsOf 0 (.func (.yield l) #[] #[] :: cap)) [] [Dr]) : IterOK P f cap Dr xs enc := by
  refine ⟨EF.of hf hn hb, fun lo l J Jx hs hsx hY D w hd hle hJ => ?_⟩
  have hF := enterJ (μ := []) N hf hn hb hN (by simpa using hsz) (h lo l J Jx hs hsx hY)
  refine (hF.2 w ⟨D, ⟨Nat.zero_le _, hd.2.1, fun b hb => absurd hb (Nat.not_lt_zero _), fun b hb => absurd hb (Nat.not_lt_zero _), hd.1, (fun p hp => by cases hp), List.nodup_nil, fun b o hb ho => hd.2.2 b o (hb.resolve_right (by simp)) ho, fun e he => by cases he⟩, fun D₁ h1 => ?_, hs [], hJ⟩).mono ?_
  · simp only [List.mem_singleton] at h1; subst h1; exact hle
  · rintro e w' ⟨v, J', μ', rfl, ⟨D', hst, hds, hex⟩, hpost⟩
    refine ⟨v, D', rfl, hst.dom, ?_⟩
    have hJ' : J' [] D' w' := hex.1.own _ [] D' w' hex.2 (fun b hb => by cases hb)
    rcases hpost with rfl | ⟨pre, rfl⟩
    · exact Or.inl hJ'
    · exact Or.inr ⟨pre, hJ'⟩
end Go.Fs
namespace Go.Fs
variable {P : Program} {X : Cx} {γb : Type} [Membership Nat γb] {bad : γb} {all : Array Oper} {K : Act → World → Prop} {Q : Exit → Act → World → Prop}
variable {σ : Slots} {μ : Boxes} {Ds : List Data} {os : List (Bool × Nat)} {fl : Bool} {ix : Nat}
variable {d : Nat} {x y z : Operand} {u v : Value} {ty : TypeId} {pos : String} {aft : Array Edge} {g : Option (Nat × Bool)}
/-- 'a[:]' of an array in a box. -/
theorem L.sliceA {t e : TypeId} {n b : Nat} (ho : all[ix]? = some ⟨some d, .slice t x none none none, ty, pos, aft, g⟩) (ht : P.underlying t = some (.array n e)) (hs : TS P e 1) (hx : ev σ x = some (.pointer (some ⟨b, 0, none⟩)))
    (hN : Nat.blt d X.N = true) (hg : Gok all σ g) (kk : WL P X bad all K Q os ((d, .slice (some ⟨b, 0, none⟩) n n) :: σ) μ Ds) : WL P X bad all K Q ((fl, ix) :: os) σ μ Ds :=
  L.pure ho rfl rfl hN hg (fun ρ hρ w' => by
    simp only [execOp, hρ x _ hx, Option.map_none]
    unfold Instr.sliceAt Instr.sureAddr Instr.sliceBounds
    simp only [Sem.run_bind, TU.of ht w', Result.andThen_ok, hs w', Sem.run_pure, pure_bind, Nat.zero_mul, Nat.sub_zero]
    split <;> simp [Addr.add]) kk
theorem splice_ints {l0 xs : List Int} (_h : xs.length ≤ l0.length) : (ints l0).take 0 ++ ints xs ++ (ints l0).drop (0 + (ints xs).length) = ints (xs ++ l0.drop xs.length) := by
  simp [ints]
/-- 'copy' of a slice of numbers into an array of numbers in a box. -/
theorem L.copyA {D₁ : Data} {t e tr : TypeId} {b n : Nat} {l0 xs : List Int} {eb : TypeId} {xv : Value} {μ' : Boxes} {ats : Array TypeId} (ho : all[ix]? = some ⟨some d, .call { callee := .builtin .copy, args := #[x, y], argTypes := ats }, tr, pos, aft, g⟩)
    (hat : ats[0]? = some t) (ht : P.underlying t = some (.slice e)) (hs : TS P e 1) (hx : ev σ x = some (.slice (some ⟨b, 0, none⟩) n n)) (hy : ev σ y = some xv) (hS : Sl D₁ RI 1 xv xs) (hD : D₁ ∈ Ds) (hl : xs.length ≤ n) (hn : l0.length = n)
    (hm : Has μ b (.cells (ints l0).toArray eb (0, 0)) (.cells (ints (xs ++ l0.drop xs.length)).toArray eb (0, 0)) μ') (hN : Nat.blt d X.N = true) (hg : Gok all σ g)
    (kk : WL P X bad all K Q os ((d, .int .i64 xs.length) :: σ) μ' Ds) : WL P X bad all K Q ((false, ix) :: os) σ μ Ds := by
  refine L.loud ho rfl rfl hg fun a w hh => ?_
  obtain ⟨h1, h2, h3, D, h4, h5, h6⟩ := id hh
  have hbx := (h4.box _ hm.mem).1
  obtain ⟨w', hr, hw'⟩ := run_storeCells (P := P) (ints xs) 0 w b 0 (ints l0) eb hbx (by simp; omega) (ints_cell1 xs)
  rw [Nat.add_zero, splice_ints (by omega)] at hw'
  have hsrc := Src.ints hS
  have hfc := run_firstCells (P := P) (w := w) (sz := 1) hsrc (by simp) (fun b o hA j u hj => h4.agr.cell ((h5 D₁ hD).get (hA j u hj)))
  have hlen := lenOf_src (P := P) (w := w) hsrc
  have hmin : Nat.min xs.length n = xs.length := Nat.min_eq_left hl
  have hrun : (execOp a.eval ⟨some d, .call { callee := .builtin .copy, args := #[x, y], argTypes := ats }, tr, pos, aft, g⟩).run P w = .ok (.value (.int .i64 xs.length)) w' := by
    simp only [execOp, resolve, pure_bind, invoke, builtin]
    have e1 : (#[x, y].map a.eval) = #[.slice (some ⟨b, 0, none⟩) n n, xv] := by simp [hh.eval hx, hh.eval hy]
    have e2 : (#[Value.slice (some ⟨b, 0, none⟩) n n, xv] : Array Value)[0]? = some (.slice (some ⟨b, 0, none⟩) n n) := rfl
    have e3 : (#[Value.slice (some ⟨b, 0, none⟩) n n, xv] : Array Value)[1]? = some xv := rfl
    rw [e1]
    unfold Builtin.copy_
    simp only [hat, e2, e3, Sem.run_bind, TU.of ht w, Result.andThen_ok, hlen, hmin, hs w, hfc, hr, goInt, Sem.run_pure]
  rw [hrun]
  have hst := h4.set hm hw' rfl
  exact ⟨fun h => by simp at h, kk _ _ (Hl.put ⟨h1, h2, h3, D, hst, h5, h6.step (fun _ p hp => Or.inl (by rw [← hm.keys]; exact List.mem_map.2 ⟨p, hp, rfl⟩)) (fun _ => low_set hw' (List.mem_map.2 ⟨_, hm.mem, rfl⟩)) hst.dom⟩ hN _)⟩
/-- A conversion between kinds of numbers, of a number that fits. -/
theorem L.convert {k k' : IntKind} {s t : TypeId} {n : Int} (ho : all[ix]? = some ⟨some d, .convert s t x, ty, pos, aft, g⟩) (hr : ∀ w, (Go.convert s t (.int k n)).run P w = .ok (.int k' n) w) (hx : ev σ x = some (.int k n)) (hN : Nat.blt d X.N = true) (hg : Gok all σ g)
    (kk : WL P X bad all K Q os ((d, .int k' n) :: σ) μ Ds) : WL P X bad all K Q ((fl, ix) :: os) σ μ Ds :=
  L.pure ho rfl rfl hN hg (fun ρ hρ w' => by simp only [execOp, hρ x _ hx, Sem.run_bind, hr w', Result.andThen_ok, Sem.run_pure]) kk
/-- A comparison whose run is known. -/
theorem L.eqlX {t t' : TypeId} {b : Bool} (ho : all[ix]? = some ⟨some d, .binOp .eql t x y t', ty, pos, aft, g⟩) (hr : ∀ w, ((do eqGuard .eql t x y u v; binOp .eql t u v) : Sem Value).run P w = .ok (.bool b) w) (hx : ev σ x = some u) (hy : ev σ y = some v) (hN : Nat.blt d X.N = true) (hg : Gok all σ g)
    (kk : WL P X bad all K Q os ((d, .bool b) :: σ) μ Ds) : WL P X bad all K Q ((fl, ix) :: os) σ μ Ds :=
  L.pure ho rfl rfl hN hg (fun ρ hρ w' => by simp only [execOp, hρ x _ hx, hρ y _ hy]; rw [Sem.run_bind, hr w']; rfl) kk
theorem L.neqX {t t' : TypeId} {b : Bool} (ho : all[ix]? = some ⟨some d, .binOp .neq t x y t', ty, pos, aft, g⟩) (hr : ∀ w, ((do eqGuard .neq t x y u v; binOp .neq t u v) : Sem Value).run P w = .ok (.bool b) w) (hx : ev σ x = some u) (hy : ev σ y = some v) (hN : Nat.blt d X.N = true) (hg : Gok all σ g)
    (kk : WL P X bad all K Q os ((d, .bool b) :: σ) μ Ds) : WL P X bad all K Q ((fl, ix) :: os) σ μ Ds :=
  L.pure ho rfl rfl hN hg (fun ρ hρ w' => by simp only [execOp, hρ x _ hx, hρ y _ hy]; rw [Sem.run_bind, hr w']; rfl) kk
theorem run_equal_bool {t : TypeId} {a b : Bool} (ht : P.underlying t = some .bool) (w : World) : (Op.equal t (.bool a) (.bool b)).run P w = .ok (a == b) w := by
  have h : (Op.equalIn (9999 + 1) t (.bool a) (.bool b)).run P w = .ok (a == b) w := by
    rw [Op.equalIn, Sem.run_bind, TU.of ht w]; rfl
  exact h
theorem L.neqB {t t' : TypeId} {a b : Bool} (ho : all[ix]? = some ⟨some d, .binOp .neq t x y t', ty, pos, aft, g⟩) (ht : P.underlying t = some .bool) (hx : ev σ x = some (.bool a)) (hy : ev σ y = some (.bool b)) (hN : Nat.blt d X.N = true) (hg : Gok all σ g)
    (kk : WL P X bad all K Q os ((d, .bool (!(a == b))) :: σ) μ Ds) : WL P X bad all K Q ((fl, ix) :: os) σ μ Ds :=
  L.neqX ho (fun w => by
    have hg : (eqGuard .neq t x y (.bool a) (.bool b)).run P w = .ok () w := rfl
    rw [Sem.run_bind, hg]
    show ((do Pure.pure (Value.bool (!(← Op.equal t (.bool a) (.bool b))))) : Sem Value).run P w = _
    rw [Sem.run_bind, run_equal_bool ht]; rfl) hx hy hN hg kk
/-- An element of an array of numbers, out of the array's value. -/
theorem L.indexV {t e : TypeId} {n : Nat} {l : List Int} {k : IntKind} {i m : Int} (ho : all[ix]? = some ⟨some d, .index t x y, ty, pos, aft, g⟩) (ht : P.underlying t = some (.array n e)) (ha : TA P e false) (hs : TS P e 1) (hx : ev σ x = some (.agg (ints l).toArray)) (hy : ev σ y = some (.int k i)) (h0 : 0 ≤ i) (h1 : i < n) (hm : l[i.toNat]? = some m)
    (hN : Nat.blt d X.N = true) (hg : Gok all σ g) (kk : WL P X bad all K Q os ((d, .int .i64 m) :: σ) μ Ds) : WL P X bad all K Q ((fl, ix) :: os) σ μ Ds :=
  L.pure ho rfl rfl hN hg (fun ρ hρ w' => by
    have hg : (ints l).toArray[i.toNat]? = some (.int .i64 m) := by simpa using ints_get hm
    simp only [execOp, hρ x _ hx, hρ y _ hy]
    unfold Instr.index asIntOf part
    simp only [Sem.run_bind, TU.of ht w', Result.andThen_ok, hs w', ha w', Sem.run_pure, pure_bind, h0, h1, and_self, if_true, Nat.mul_one, Bool.false_eq_true, if_false, hg]) kk
theorem ints_append (l m : List Int) : ints l ++ ints m = ints (l ++ m) := by simp [ints]
/-- A cell of data at a computed place. -/
theorem L.loadDI {t : TypeId} {D₁ : Data} {b k : Nat} {cs : List Value} (ho : all[ix]? = some ⟨some d, .load t x, ty, pos, aft, g⟩) (ha : TA P t false) (hx : ev σ x = some (.pointer (some ⟨b, k, none⟩))) (hA : At D₁ b 0 cs) (hD : D₁ ∈ Ds) (hv : cs[k]? = some v) (hb : b ∉ bad)
    (hN : Nat.blt d X.N = true) (hg : Gok all σ g) (kk : WL P X bad all K Q os ((d, v) :: σ) μ Ds) : WL P X bad all K Q ((fl, ix) :: os) σ μ Ds :=
  L.loadD1 (o := 0) (k := k) ho ha (by rw [Nat.zero_add]; exact hx) hA hD hv hb hN hg kk
/-- A loop in a function that calls yield: what the loop's owner knows goes by the letter, too. -/
theorem C.loopJ {γ : Type} {c : Code} {N lo : Nat} {J0 : Inv} (m : γ → Nat) (I : γ → Prop) (J : γ → Inv) (ch : γ → Slots) (rest : Slots) (M : γ → Boxes) (E : γ → List Data) (g₀ : γ) (h₀ : I g₀) (hJ : J0 = J g₀) (hch : Sub σ (ch g₀)) (hrest : Sub σ rest) (hμ : (M g₀).Sublist μ) (hD : ∀ D ∈ E g₀, ∃ D' ∈ Ds, Le D D')
    (round : ∀ g, I g → WC P (Xj N lo (J g)) (Exit.then (fun a w => ∃ g', I g' ∧ m g' < m g ∧ Hl (Xj N lo (J g')) (ch g' ++ rest) (M g') (E g') a w) Q) c (ch g ++ rest) (M g) (E g)) : WC P (Xj N lo J0) Q (.loop c) σ μ Ds := by
  subst hJ
  let p : Act → World → Nat → Prop := fun a w n => ∃ g, I g ∧ m g = n ∧ Hl (Xj N lo (J g)) (ch g ++ rest) (M g) (E g) a w
  have ex : ∀ a w, (∃ n, p a w n) → ∃ n, p a w n ∧ ∀ k, p a w k → n ≤ k := by
    intro a w ⟨n, hn⟩
    induction n using Nat.strongRecOn with
    | _ n ih =>
      by_cases h : ∃ k, k < n ∧ p a w k
      · obtain ⟨k, hk, hp⟩ := h; exact ih k hk hp
      · exact ⟨n, hn, fun k hk => Nat.le_of_not_lt fun hl => h ⟨k, hl, hk⟩⟩
  intro a w hh
  refine wpIn_loop (fun a w => ∃ n, p a w n) (fun a w => open Classical in if h : ∃ n, p a w n then (ex a w h).choose else 0) ⟨_, g₀, h₀, rfl, hh.weak (Sub.app hch hrest) hμ hD⟩ ?_
  intro a w hI
  obtain ⟨⟨g, hg, hm, hst⟩, hmin⟩ := (ex a w hI).choose_spec
  refine wpIn_mono (round g hg a w hst) fun e a' w' hq => ?_
  cases e with
  | normal =>
    obtain ⟨g', hg', hlt, hst'⟩ := hq
    have hI' : ∃ n, p a' w' n := ⟨_, g', hg', rfl, hst'⟩
    refine ⟨hI', ?_⟩
    simp only [dif_pos hI', dif_pos hI]
    have := (ex a' w' hI').choose_spec.2 _ ⟨g', hg', rfl, hst'⟩
    omega
  | _ => exact hq
theorem C.againJ {γ : Type} {N lo : Nat} {J1 : Inv} {m : γ → Nat} {I : γ → Prop} {J : γ → Inv} {ch : γ → Slots} {rest : Slots} {M : γ → Boxes} {E : γ → List Data} {g : γ} (n : Nat) (g' : γ) (h1 : I g') (h2 : m g' < m g) (hJ : J1 = J g') (hch : Sub σ (ch g')) (hn : dropOk n σ = true) (hr : σ.drop n = rest) (hμ : (M g').Sublist μ) (hD : ∀ D ∈ E g', ∃ D' ∈ Ds, Le D D') :
    ∀ a w, Hl (Xj N lo J1) σ μ Ds a w → Exit.then (fun a w => ∃ g', I g' ∧ m g' < m g ∧ Hl (Xj N lo (J g')) (ch g' ++ rest) (M g') (E g') a w) Q .normal a w := by
  subst hJ
  intro a w hh
  refine ⟨g', h1, h2, ?_⟩
  have h3 := hh.weak (σ' := ch g') hch hμ hD
  refine ⟨h3.1, fun s v hs => ?_, h3.2.2⟩
  rcases look_append hs with hs | hs
  · exact h3.2.1 s v hs
  · subst hr; exact hh.2.1 s v (look_drop n σ hn s v hs)
/-- A call of yield, the two ways out in one. -/
theorem L.yieldB {J J1 J0 : Inv} {l N lo : Nat} {c : Operand} {xs : Array Operand} {ats : Array TypeId} {vs : List Value} (ho : all[ix]? = some ⟨some d, .call { callee := .value c, args := xs, argTypes := ats }, ty, pos, aft, g⟩)
    (hc : ev σ c = some (.func (.yield l) #[] #[])) (hxs : evs σ xs.toList = some vs) (hfl : fl = false) (hs1 : Stb lo J1) (hs0 : Stb lo J0)
    (hY : ∀ D w, Dom lo D w → J (μ.map (·.1)) D w → (∀ p ∈ μ, p.1 < w.heap.size) → (∀ D₁ ∈ Ds, Le D₁ D) → YieldRuns P l vs w fun b D' w' => Dom lo D' w' ∧ High (μ.map (·.1)) D w D' w' ∧ (if b then J1 (μ.map (·.1)) D' w' else J0 (μ.map (·.1)) D' w'))
    (hN : Nat.blt d N = true) (hg : Gok all σ g)
    (kk : ∀ b J', J' = (if b = true then J1 else J0) → WL P (Xj N lo J') bad all K Q os ((d, .bool b) :: σ) μ Ds) : WL P (Xj N lo J) bad all K Q ((fl, ix) :: os) σ μ Ds :=
  L.yield (X := Xj N lo J) ho hc hxs rfl hfl rfl rfl hs1 hs0 hY hN hg (kk true J1 rfl) (kk false J0 rfl)
/-- The boxes are apart from each other. -/
theorem C.nd {c : Code} (k : (μ.map (·.1)).Nodup → WC P X Q c σ μ Ds) : WC P X Q c σ μ Ds := fun a w hh => k (by obtain ⟨_, _, _, D, h4, _⟩ := hh; exact h4.nd) a w hh
/-- A store of a whole block. -/
theorem L.storeW {t : TypeId} {b n : Nat} {vs us : List Value} {e : TypeId} {μ' : Boxes} (ho : all[ix]? = some ⟨none, .store t x y, ty, pos, aft, g⟩) (hx : ev σ x = some (.pointer (some ⟨b, 0, none⟩))) (hy : ev σ y = some v) (hv : v.cells = us.toArray) (hs : TS P t n)
    (hn : us.length = n) (hl : vs.length = n) (hm : Has μ b (.cells vs.toArray e (0, 0)) (.cells us.toArray e (0, 0)) μ') (hc1 : ∀ u ∈ us, cell1 u = true) (hg : Gok all σ g)
    (kk : WL P X bad all K Q os σ μ' Ds) : WL P X bad all K Q ((false, ix) :: os) σ μ Ds :=
  L.store ho hx hy hv (by rw [hn]; exact hs) hm (by omega) (by rw [List.take_zero, Nat.zero_add, List.drop_eq_nil_of_le (by omega)]; simp) hc1 hg kk
/-- The length of a slice that somebody owns. -/
theorem L.lenAcc {t e tr e' : TypeId} {n sz : Nat} {cells : List Value} {ν : Boxes} {ats : Array TypeId} (ho : all[ix]? = some ⟨some d, .call { callee := .builtin .len, args := #[x], argTypes := ats }, tr, pos, aft, g⟩) (ht : P.underlying t = some (.slice e)) (hx : ev σ x = some v) (hS : Acc e' sz v n cells ν) (hat : ats[0]? = some t)
    (hN : Nat.blt d X.N = true) (hg : Gok all σ g) (kk : WL P X bad all K Q os ((d, .int .i64 (n : Int)) :: σ) μ Ds) :
    WL P X bad all K Q ((fl, ix) :: os) σ μ Ds :=
  L.pure ho rfl rfl hN hg (fun ρ hρ w' => by
    have hx' := hρ x _ hx
    rcases hS with ⟨a, rfl, rfl, _⟩ | ⟨b, cap, junk, rfl, _⟩
    · simp [Builtin.len_, hat, hx', Sem.run_bind, TU.of ht w', goInt, Sem.run_pure, go_sem]
    · simp [Builtin.len_, hat, hx', Sem.run_bind, TU.of ht w', goInt, Sem.run_pure, go_sem]) kk
theorem Hl.dropBoxes {a : Act} {w : World} (n : Nat) (h : Hl X σ μ Ds a w) : Hl X σ (μ.drop n) Ds a w := by
  obtain ⟨h1, h2, h3, D, h4, h5, h6⟩ := h
  have hμ : (μ.drop n).Sublist μ := List.drop_sublist n μ
  exact ⟨h1, h2, h3, D, h4.sub (fun p hp => hμ.mem hp) ((hμ.map (·.1)).nodup h4.nd), h5, h6.step (fun _ p hp => Or.inl (List.mem_map.2 ⟨p, hμ.mem hp, rfl⟩)) (fun _ => Low.refl _ _ _) h4.dom⟩
theorem Acc.cells1 {e : TypeId} {sz n : Nat} {cells : List Value} {ν : Boxes} (h : Acc e sz v n cells ν) : v.cells = [v].toArray := by
  rcases h with ⟨a, rfl, _⟩ | ⟨b, cap, junk, rfl, _⟩ <;> rfl
theorem Acc.cell1 {e : TypeId} {sz n : Nat} {cells : List Value} {ν : Boxes} (h : Acc e sz v n cells ν) : ∀ u ∈ [v], Fs.cell1 u = true := by
  rcases h with ⟨a, rfl, _⟩ | ⟨b, cap, junk, rfl, _⟩ <;> simp [Fs.cell1]
/-! ### Scopes -/
theorem L.boxesEq (μ' : Boxes) (h : μ = μ') (k : WL P X bad all K Q os σ μ' Ds) : WL P X bad all K Q os σ μ Ds := h ▸ k
theorem Sl.cell1 {α : Type} {R : Rd α} {D : Data} {sz : Nat} {v : Value} {xs : List α} (h : Sl D R sz v xs) : ∀ u ∈ [v], Fs.cell1 u = true := by
  obtain ⟨a, cap, rfl, _⟩ := h; simp [Fs.cell1]
end Go.Fs
