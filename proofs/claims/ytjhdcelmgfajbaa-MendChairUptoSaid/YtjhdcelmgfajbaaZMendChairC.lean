/- Of the proof of MendChair: More, Append, Iter, Rest, Keys, Shell, Types. -/
import Derived.Test.YtjhdcelmgfajbaaZMendChairB
import Derived.RangeFuncLeaves
import Derived.RangeFuncRecord
import Derived.ChangeKeysEq
import Derived.ProofKit
import Derived.OpenShut
import Derived.WideKeyArgs
import Derived.JoinedCond
import Derived.Test.YtjhdcelmgfajbaaProg
namespace Go.Fs
variable {P : Program} {X : Cx} {γb : Type} [Membership Nat γb] {bad : γb} {all : Array Oper} {K : Act → World → Prop} {Q : Exit → Act → World → Prop}
variable {σ : Slots} {μ : Boxes} {Ds : List Data} {os : List (Bool × Nat)} {fl : Bool} {ix : Nat}
variable {d : Nat} {x y z : Operand} {u v : Value} {ty : TypeId} {pos : String} {aft : Array Edge} {g : Option (Nat × Bool)}
/-! ### Arrays of numbers -/
def ints (l : List Int) : List Value := l.map (Value.int .i64)
@[simp] theorem ints_length (l : List Int) : (ints l).length = l.length := by simp [ints]
theorem ints_get {l : List Int} {k : Nat} {n : Int} (h : l[k]? = some n) : (ints l)[k]? = some (.int .i64 n) := by simp [ints, h]
theorem ints_cell1 (l : List Int) : ∀ v ∈ ints l, cell1 v = true := by intro v hv; simp [ints] at hv; obtain ⟨n, _, rfl⟩ := hv; rfl
/-- The i-th element of an array of one-cell elements in a box. -/
theorem L.indexB {t e : TypeId} {n b : Nat} {k : IntKind} {i : Int} (ho : all[ix]? = some ⟨some d, .indexAddr t x y, ty, pos, aft, g⟩) (ht : P.underlying t = some (.array n e)) (hs : TS P e 1) (hx : ev σ x = some (.pointer (some ⟨b, 0, none⟩))) (hy : ev σ y = some (.int k i)) (h0 : 0 ≤ i) (h1 : i < n)
    (hN : Nat.blt d X.N = true) (hg : Gok all σ g) (kk : WL P X bad all K Q os ((d, .pointer (some ⟨b, i.toNat, none⟩)) :: σ) μ Ds) : WL P X bad all K Q ((fl, ix) :: os) σ μ Ds :=
  L.indexA ho ht hs hx hy h0 h1 hN hg (by simpa using kk)
/-- A store of a number into an array of numbers. -/
theorem L.storeI {t : TypeId} {b k : Nat} {l : List Int} {n : Int} {e : TypeId} {μ' : Boxes} (ho : all[ix]? = some ⟨none, .store t x y, ty, pos, aft, g⟩) (hs : TS P t 1) (hx : ev σ x = some (.pointer (some ⟨b, k, none⟩))) (hy : ev σ y = some (.int .i64 n))
    (hm : Has μ b (.cells (ints l).toArray e (0, 0)) (.cells (ints (l.set k n)).toArray e (0, 0)) μ') (hl : k < l.length) (hg : Gok all σ g)
    (kk : WL P X bad all K Q os σ μ' Ds) : WL P X bad all K Q ((false, ix) :: os) σ μ Ds :=
  L.store (us := [.int .i64 n]) (vs := ints l) (ws := ints (l.set k n)) ho hx hy rfl hs hm (by simp; omega) (by
    rw [show ints (l.set k n) = (ints l).set k (.int .i64 n) by simp [ints, List.map_set], List.set_eq_take_append_cons_drop, if_pos (by simpa using hl)]
    simp) (by simp [cell1]) hg kk
/-! ### Structs -/
def evps (σ : Slots) : List (Nat × Operand) → Option (List (Nat × Value))
  | [] => some []
  | (i, x) :: xs => match ev σ x, evps σ xs with
    | some v, some vs => some ((i, v) :: vs)
    | _, _ => none
theorem evps_eval {ρ : Operand → Value} (hρ : ∀ x u, ev σ x = some u → ρ x = u) : ∀ {xs : List (Nat × Operand)} {vs : List (Nat × Value)}, evps σ xs = some vs → (xs.map fun p => (p.1, ρ p.2)) = vs
  | [], vs, h => by simp [evps] at h; simp [h]
  | (i, x) :: xs, vs, h => by
    simp only [evps] at h
    cases h1 : ev σ x with
    | none => simp [h1] at h
    | some v1 =>
      cases h2 : evps σ xs with
      | none => simp [h1, h2] at h
      | some v2 =>
        simp [h1, h2] at h
        rw [← h, List.map_cons, hρ x v1 h1, evps_eval hρ h2]
/-- The places of a struct's fields. -/
def TP (P : Program) (t : TypeId) (pl : List (Nat × Nat)) : Prop :=
  ∃ fs, P.underlying t = some (.struct fs) ∧ ∀ w, (fs.mapM (fun f => do pure (f.offset, ← sizeOf f.type) : Field → Sem (Nat × Nat))).run P w = .ok pl.toArray w
theorem run_places {P : Program} : ∀ (fs : List Field) (pl : List (Nat × Nat)), (fs.map fun f => (f.offset, P.cellsOf f.type)) = pl → (∀ f ∈ fs, (P.info? f.type).isSome = true) → ∀ w,
    (fs.mapM (fun f => do pure (f.offset, ← sizeOf f.type) : Field → Sem (Nat × Nat))).run P w = .ok pl w
  | [], pl, h, _, w => by subst h; rfl
  | f :: fs, pl, h, hi, w => by
    subst h
    have hs : (sizeOf f.type).run P w = .ok (P.cellsOf f.type) w := by
      have := hi f List.mem_cons_self
      obtain ⟨i, hi⟩ := Option.isSome_iff_exists.1 this
      exact TS.of (by rw [hi]; simp [Program.cellsOf, hi]) w
    rw [List.mapM_cons, Sem.run_bind, Sem.run_bind, hs]
    simp only [Result.andThen_ok, Sem.run_pure]
    rw [Sem.run_bind, run_places fs _ rfl (fun f hf => hi f (List.mem_cons_of_mem _ hf)) w]
    rfl
theorem TP.of {t : TypeId} {fs : Array Field} {pl : List (Nat × Nat)} (h : P.underlying t = some (.struct fs)) (hp : (fs.toList.map fun f => (f.offset, P.cellsOf f.type)) = pl) (hi : (fs.toList.all fun f => (P.info? f.type).isSome) = true) : TP P t pl := by
  refine ⟨fs, h, fun w => ?_⟩
  have hr := run_places (P := P) fs.toList pl hp (fun f hf => List.all_eq_true.1 hi f hf) w
  have e : fs = fs.toList.toArray := rfl
  rw [e, List.mapM_toArray, Sem.run_map]
  simp only [hr, Result.andThen_ok]
theorem L.build {t : TypeId} {parts : Array (Nat × Operand)} {us : List (Nat × Value)} {zs cs : List Value} {pl : List (Nat × Nat)} (ho : all[ix]? = some ⟨some d, .build t parts, ty, pos, aft, g⟩) (hpl : TP P t pl) (hz : TZ P t (.agg zs.toArray)) (hu : evps σ parts.toList = some us)
    (hf : Instr.fill (fun i => pl[i]?) zs.toArray us = some cs.toArray) (hN : Nat.blt d X.N = true) (hg : Gok all σ g) (kk : WL P X bad all K Q os ((d, .agg cs.toArray) :: σ) μ Ds) : WL P X bad all K Q ((fl, ix) :: os) σ μ Ds :=
  L.pure ho rfl rfl hN hg (fun ρ hρ w' => by
    obtain ⟨fs, h, hp⟩ := hpl
    have e : (parts.map fun (i, x) => (i, ρ x)).toList = us := by rw [← evps_eval hρ hu]; simp
    have hf' : Instr.fill (fun i => pl.toArray[i]?) zs.toArray us = some cs.toArray := by simpa using hf
    simp only [execOp, Instr.build, Sem.run_bind, hz w', Result.andThen_ok, TU.of h w', hp w', Value.cells, e, hf', Sem.run_pure]) kk
/-! ### A slice's literal -/
/-- The cells of the elements one after the other. -/
inductive Flat (sz : Nat) : Nat → List (Nat × Value) → List Value → Prop
  | nil {k} : Flat sz k [] []
  | cons {k v cs r rs} (hv : v.cells = cs.toArray) (hc : cs.length = sz) (h : Flat sz (k + 1) r rs) : Flat sz k ((k, v) :: r) (cs ++ rs)
theorem Flat.len {sz k : Nat} {r : List (Nat × Value)} {rs : List Value} (h : Flat sz k r rs) : rs.length = r.length * sz := by
  induction h with
  | nil => simp
  | cons hv hc h ih => simp [ih, hc, Nat.add_mul]; omega
theorem foldl_set : ∀ (cs : List Value) (j off : Nat) (pre mid post : List Value), pre.length = off + j → mid.length = cs.length →
    (cs.zipIdx j).foldl (fun (a : Array Value) (p : Value × Nat) => a.setIfInBounds (off + p.2) p.1) (pre ++ mid ++ post).toArray = (pre ++ cs ++ post).toArray
  | [], j, off, pre, mid, post, h1, h2 => by have : mid = [] := List.length_eq_zero_iff.1 h2; subst this; rfl
  | c :: cs, j, off, pre, [], post, h1, h2 => by simp at h2
  | c :: cs, j, off, pre, m :: mid, post, h1, h2 => by
    rw [List.zipIdx_cons, List.foldl_cons]
    have e : (pre ++ (m :: mid) ++ post).toArray.setIfInBounds (off + j) c = ((pre ++ [c]) ++ mid ++ post).toArray := by
      rw [← h1]; simp
    rw [e, foldl_set cs (j + 1) off (pre ++ [c]) mid post (by simp; omega) (by simpa using h2)]
    simp
theorem fill_flat {sz : Nat} {k : Nat} {r : List (Nat × Value)} {rs : List Value} (h : Flat sz k r rs) : ∀ (pre zs : List Value), pre.length = k * sz → zs.length = rs.length →
    Instr.fill (fun i => some (i * sz, sz)) (pre ++ zs).toArray r = some (pre ++ rs).toArray := by
  induction h with
  | nil => intro pre zs h1 h2; have : zs = [] := List.length_eq_zero_iff.1 h2; subst this; rfl
  | @cons k v cs r rs hv hc h ih =>
    intro pre zs h1 h2
    obtain ⟨m, post, rfl, hm⟩ : ∃ m post, zs = m ++ post ∧ m.length = cs.length := ⟨zs.take cs.length, zs.drop cs.length, by simp, by rw [List.length_take, h2]; simp⟩
    have hpost : post.length = rs.length := by simp [hm] at h2; omega
    simp only [Instr.fill]
    rw [if_neg]
    · rw [hv]
      have hz : (cs.toArray.zipIdx.foldl (fun (a : Array Value) (p : Value × Nat) => a.setIfInBounds (k * sz + p.2) p.1) (pre ++ m ++ post).toArray) = (pre ++ cs ++ post).toArray := by
        have := foldl_set cs 0 (k * sz) pre m post (by simpa using h1) hm
        rw [← this, ← Array.foldl_toList]
        simp
      have e : (pre ++ (m ++ post)).toArray = (pre ++ m ++ post).toArray := by simp
      rw [e]
      rw [hz, ih (pre ++ cs) post (by simp [h1, hc, Nat.add_mul]) hpost]
      simp
    · rw [hv]
      simp [h1, hc, hm]
theorem L.buildSlice {t e : TypeId} {sz n : Nat} {parts : Array (Nat × Operand)} {us : List (Nat × Value)} {rs : List Value} {z0 : Value} (ho : all[ix]? = some ⟨some d, .buildSlice t n parts, ty, pos, aft, g⟩) (ht : P.underlying t = some (.slice e)) (hs : TS P e sz) (hz : TZ P e z0) (_hz1 : Nat.beq z0.cells.size sz = true)
    (hu : evps σ parts.toList = some us) (hn : us.length = n) (hnz : Nat.ble (n * sz) 4096 = true) (hf : Flat sz 0 us rs) (hN : Nat.blt d X.N = true) (hg : Gok all σ g)
    (kk : ∀ b D, (∀ D₁ ∈ Ds, Le D₁ D) → At D b 0 rs → WL P X bad all K Q os ((d, .slice (some ⟨b, 0, none⟩) n n) :: σ) μ (D :: Ds)) : WL P X bad all K Q ((fl, ix) :: os) σ μ Ds := by
  refine L.loud ho rfl rfl hg fun a w hh => ?_
  obtain ⟨h1, h2, h3, D, h4, h5, h6⟩ := id hh
  have hnz' : n * sz ≤ 4096 := Nat.le_of_ble_eq_true hnz
  have hlen : rs.length = n * sz := by rw [hf.len, hn]
  have e1 : (parts.map fun (i, x) => (i, a.eval x)).toList = us := by rw [← evps_eval (fun _ _ hx => hh.eval hx) hu]; simp
  have hrun : (execOp a.eval ⟨some d, .buildSlice t n parts, ty, pos, aft, g⟩).run P w = .ok (.value (.slice (some ⟨w.heap.size, 0, none⟩) n n)) { w with heap := w.heap.push (.cells rs.toArray e (0, 0)) } := by
    simp only [execOp, Instr.buildSlice, Sem.run_bind, TU.of ht w, Result.andThen_ok, hs w]
    rw [if_neg (by omega)]
    simp only [pure_bind]
    have key : ∀ zc : Array Value, Instr.fill (fun i => some (i * sz, sz)) ((Array.range (n * sz)).map (zc[· % zc.size]!)) us = some rs.toArray := by
      intro zc
      have := fill_flat hf [] ((Array.range (n * sz)).map (zc[· % zc.size]!)).toList (by simp) (by simp [hlen])
      rw [List.nil_append, List.nil_append] at this
      exact this
    split
    · simp only [Sem.run_bind, Sem.run_pure, Result.andThen_ok, e1, key, run_newRow]
    · simp only [Sem.run_bind, Sem.run_pure, Result.andThen_ok, hz w, e1, key, run_newRow]
  rw [hrun]
  obtain ⟨D', hle, hD', hDo, hs'⟩ := h4.pushD rs e
  refine ⟨fun _ => keep_push _ _ _, kk w.heap.size D' (fun D₁ hD₁ => (h5 D₁ hD₁).trans hle) (fun j v hj => by rw [hD']; simpa using hj) _ _ (Hl.put ⟨h1, h2, h3, D', hs', fun D₁ hD₁ => ?_, h6.step (fun _ p hp => Or.inl (List.mem_map.2 ⟨p, hp, rfl⟩)) (fun _ => ⟨by simp, fun b hb _ => ⟨heap_push_lt hb, hDo b (by omega)⟩, rfl⟩) hs'.dom⟩ hN _)⟩
  rcases List.mem_cons.1 hD₁ with rfl | hD₁
  · exact Le.refl _
  · exact (h5 D₁ hD₁).trans hle
/-- A slice that was written out reads as its elements. -/
theorem Sl.of_at {α : Type} {R : Rd α} {D : Data} {sz b n cap : Nat} {xs : List α} {rs : List Value} (hA : At D b 0 rs) (hn : xs.length = n) (hc : n ≤ cap) (hb : n ≤ 9223372036854775807) (h : ∀ i x, xs[i]? = some x → ∃ cs, R D x cs ∧ cs.length = sz ∧ (rs.drop (i * sz)).take sz = cs) : Sl D R sz (.slice (some ⟨b, 0, none⟩) n cap) xs := by
  subst hn
  refine ⟨_, cap, rfl, hc, hb, Or.inr ⟨b, 0, rfl, fun i x hx => ?_⟩⟩
  obtain ⟨cs, hr, hl, hcs⟩ := h i x hx
  refine ⟨cs, hr, hl, fun j v hj => ?_⟩
  have hlt := (List.getElem?_eq_some_iff.1 hj).1
  rw [← hcs, List.getElem?_take_of_lt (by omega), List.getElem?_drop] at hj
  have := hA _ _ hj
  simpa [Nat.add_assoc] using this
theorem Sl.ofInts {D : Data} {b cap : Nat} {l : List Int} {n : Nat} (hA : At D b 0 (ints l)) (hn : l.length = n) (hc : n ≤ cap) (hb : n ≤ 9223372036854775807) : Sl D RI 1 (.slice (some ⟨b, 0, none⟩) n cap) l :=
  Sl.of_at hA hn hc hb fun i x hx => ⟨[.int .i64 x], rfl, rfl, by
    have h := ints_get hx
    have hl := (List.getElem?_eq_some_iff.1 h).1
    rw [Nat.mul_one, List.drop_eq_getElem_cons hl]
    rw [List.getElem?_eq_getElem hl] at h
    simp [Option.some.inj h]⟩
theorem L.makeFunc {f : FuncId} {xs ys : Array Operand} {vs us : List Value} (ho : all[ix]? = some ⟨some d, .makeFunc (.func f) xs ys, ty, pos, aft, g⟩) (hx : evs σ xs.toList = some vs) (hy : evs σ ys.toList = some us) (hN : Nat.blt d X.N = true) (hg : Gok all σ g)
    (kk : WL P X bad all K Q os ((d, .func (.func f) vs.toArray us.toArray) :: σ) μ Ds) : WL P X bad all K Q ((fl, ix) :: os) σ μ Ds :=
  L.pure ho rfl rfl hN hg (fun ρ hρ w' => by
    have e1 : xs.map ρ = vs.toArray := by rw [← evs_eval hρ hx, ← Array.toList_map]
    have e2 : ys.map ρ = us.toArray := by rw [← evs_eval hρ hy, ← Array.toList_map]
    simp only [execOp, Instr.makeFunc, e1, e2, pure_bind, Sem.run_pure]) kk
/-- A new variable that is never written again: data. -/
theorem L.boxD {e : TypeId} {vs : List Value} (ho : all[ix]? = some ⟨some d, .box e x, ty, pos, aft, g⟩) (hx : ev σ x = some v) (hv : v.cells = vs.toArray) (hN : Nat.blt d X.N = true) (hg : Gok all σ g)
    (kk : ∀ b D, (∀ D₁ ∈ Ds, Le D₁ D) → At D b 0 vs → WL P X bad all K Q os ((d, .pointer (some ⟨b, 0, none⟩)) :: σ) μ (D :: Ds)) : WL P X bad all K Q ((fl, ix) :: os) σ μ Ds := by
  refine L.loud ho rfl rfl hg fun a w hh => ?_
  obtain ⟨h1, h2, h3, D, h4, h5, h6⟩ := id hh
  have : (execOp a.eval ⟨some d, .box e x, ty, pos, aft, g⟩).run P w = .ok (.value (.pointer (some ⟨w.heap.size, 0, none⟩))) { w with heap := w.heap.push (.cells vs.toArray e (0, 0)) } := by
    simp only [execOp, hh.eval hx, Instr.box, newVar, hv, Sem.run_bind, run_newRow, Result.andThen_ok, Sem.run_pure]
  rw [this]
  obtain ⟨D', hle, hD', hDo, hs'⟩ := h4.pushD vs e
  refine ⟨fun _ => keep_push _ _ _, kk w.heap.size D' (fun D₁ hD₁ => (h5 D₁ hD₁).trans hle) (fun j v hj => by rw [hD']; simpa using hj) _ _ (Hl.put ⟨h1, h2, h3, D', hs', fun D₁ hD₁ => ?_, h6.step (fun _ p hp => Or.inl (List.mem_map.2 ⟨p, hp, rfl⟩)) (fun _ => ⟨by simp, fun b hb _ => ⟨heap_push_lt hb, hDo b (by omega)⟩, rfl⟩) hs'.dom⟩ hN _)⟩
  rcases List.mem_cons.1 hD₁ with rfl | hD₁
  · exact Le.refl _
  · exact (h5 D₁ hD₁).trans hle
/-- A function value that asks a question of its argument. -/
def PredOK {α : Type} (P : Program) (D : Data) (val : α → Value) (fv : Value) (p : α → Bool) : Prop :=
  ∃ f c1 c2, fv = .func (.func f) (List.toArray c1) (List.toArray c2) ∧ ∀ x D', Le D D' → Fn P f (c1 ++ [val x] ++ c2).toArray D' fun _ v => v = .bool (p x)
theorem PredOK.up {α : Type} {D D' : Data} {val : α → Value} {fv : Value} {p : α → Bool} (h : PredOK P D val fv p) (hl : Le D D') : PredOK P D' val fv p := by
  obtain ⟨f, c1, c2, h1, h2⟩ := h
  exact ⟨f, c1, c2, h1, fun x D'' hl' => h2 x D'' (hl.trans hl')⟩
theorem PredOK.of {α : Type} {D : Data} {val : α → Value} {f : FuncId} {p : α → Bool} (h : ∀ x D', Fn P f #[val x] D' fun _ v => v = .bool (p x)) : PredOK P D val (.func (.func f) #[] #[]) p :=
  ⟨f, [], [], rfl, fun x D' _ => h x D'⟩
end Go.Fs
namespace Go.Fs
variable {P : Program} {X : Cx} {γb : Type} [Membership Nat γb] {bad : γb} {all : Array Oper} {K : Act → World → Prop} {Q : Exit → Act → World → Prop}
variable {σ : Slots} {μ : Boxes} {Ds : List Data} {os : List (Bool × Nat)} {fl : Bool} {ix : Nat}
variable {d : Nat} {x y z : Operand} {u v : Value} {ty : TypeId} {pos : String} {aft : Array Edge} {g : Option (Nat × Bool)}
/-- A slice value that owns its block: n elements, their cells, and the block among the boxes (none, while nothing has been appended). -/
def Acc (e : TypeId) (sz : Nat) (v : Value) (n : Nat) (cells : List Value) (ν : Boxes) : Prop :=
  (∃ a, v = .slice a 0 0 ∧ n = 0 ∧ cells = [] ∧ ν = []) ∨
  (∃ b cap junk, v = .slice (some ⟨b, 0, none⟩) n cap ∧ n ≤ cap ∧ ν = [(b, .cells (cells ++ junk).toArray e (0, 0))] ∧ cells.length = n * sz ∧ (cells ++ junk).length = cap * sz)
theorem Acc.nil {e : TypeId} {sz : Nat} {a : Option Addr} : Acc e sz (.slice a 0 0) 0 [] [] := Or.inl ⟨a, rfl, rfl, rfl, rfl⟩
theorem run_loadCells {w : World} {b o : Nat} {vs : List Value} {n : Nat} (hn : vs.length = n) (h : Lies w b o vs) : (loadCells ⟨b, o, none⟩ n).run P w = .ok vs.toArray w := by
  unfold loadCells
  rw [run_loadCellsFrom n 0 #[] vs hn (fun j v hj => by rw [show o + (0 + j) = o + j by omega]; exact h j v hj)]
  simp
/-- What is appended: some cells of data. -/
def Src (D : Data) (x : Value) (m : Nat) (xs : List Value) : Prop := (∃ a c, x = .slice a 0 c ∧ m = 0 ∧ xs = []) ∨ (∃ b o c, x = .slice (some ⟨b, o, none⟩) m c ∧ At D b o xs)
theorem run_firstCells {D : Data} {w : World} {x : Value} {m sz : Nat} {xs : List Value} (h : Src D x m xs) (hl : xs.length = m * sz) (hw : ∀ b o, At D b o xs → Lies w b o xs) : (Builtin.firstCells sz m x).run P w = .ok xs.toArray w := by
  rcases h with ⟨a, c, rfl, rfl, rfl⟩ | ⟨b, o, c, rfl, hA⟩
  · cases a with
    | none => rfl
    | some a => simp [Builtin.firstCells, loadCells, loadCellsFrom, Sem.run_pure]
  · simp only [Builtin.firstCells]
    exact run_loadCells hl (hw b o hA)
theorem lenOf_src {D : Data} {w : World} {x : Value} {m : Nat} {xs : List Value} (h : Src D x m xs) : (Builtin.lenOf x).run P w = .ok m w := by
  rcases h with ⟨a, c, rfl, rfl, rfl⟩ | ⟨b, o, c, rfl, hA⟩ <;> rfl
theorem nextcap_le {need cap : Nat} (h : cap < need) : Builtin.nextslicecap need cap ≤ 2 * need + 768 := by
  unfold Builtin.nextslicecap
  split
  · omega
  · split
    · omega
    · have key : ∀ (r c : Nat), c < need + need / 4 + 400 → Builtin.growBy need r c ≤ 2 * need + 768 := by
        intro r
        induction r with
        | zero => intro c hc; simp only [Builtin.growBy]; omega
        | succ r ih =>
          intro c hc
          simp only [Builtin.growBy]
          split
          · omega
          · exact ih _ (by omega)
      exact key _ _ (by omega)
theorem run_askRoom {w : World} {n : Nat} : (askRoom n).run P w = .ok () w := by unfold askRoom; split <;> rfl
theorem zeroCells_size (z : Array Value) (n : Nat) : (Builtin.zeroCells z n).size = n * z.size := by simp [Builtin.zeroCells]
section run
variable {t e tr : TypeId} {sz : Nat} {z0 : Value} {i0 : TypeInfo} {ats : Array TypeId}
/-- append where there is room. -/
theorem run_append_fits (ht : P.underlying t = some (.slice e)) (hat : ats[0]? = some t) (hat1 : ats[1]? = some t) (hs : TS P e sz) {w : World} {a : Option Addr} {n cap m : Nat} {xv : Value} {xs : List Value}
    (hm : (Builtin.lenOf xv).run P w = .ok m w) (hx : (Builtin.firstCells sz m xv).run P w = .ok xs.toArray w) (hle : n + m ≤ cap) {w' : World}
    (hst : (match a with | some a => storeCells (a.add (n * sz)) xs | none => pure () : Sem Unit).run P w = .ok () w') :
    (Builtin.append_ ats tr #[.slice a n cap, xv]).run P w = .ok (.slice a (n + m) cap) w' := by
  have e1 : (#[Value.slice a n cap, xv] : Array Value)[0]? = some (.slice a n cap) := rfl
  have e2 : (#[Value.slice a n cap, xv] : Array Value)[1]? = some xv := rfl
  unfold Builtin.append_
  simp only [hat, hat1, e1, e2, Sem.run_bind, TU.of ht w, Result.andThen_ok, hs w, Sem.run_pure, Bool.false_eq_true, if_false, hm, Bool.not_false, if_true, hle, hx]
  cases a with
  | none =>
    have : w' = w := by
      have h : (pure () : Sem Unit).run P w = .ok () w' := hst
      rw [Sem.run_pure] at h
      cases h; rfl
    subst this; rfl
  | some a =>
    have h : (storeCells (a.add (n * sz)) xs).run P w = .ok () w' := hst
    simp only [Sem.run_bind, h, Result.andThen_ok, Sem.run_pure]
/-- append where a new block is made. -/
theorem run_append_grows (ht : P.underlying t = some (.slice e)) (hat : ats[0]? = some t) (hat1 : ats[1]? = some t) (hs : TS P e sz) (hz : TZ P e z0) (hi : P.info? e = some i0) {w : World} {a : Option Addr} {n cap m : Nat} {xv : Value} {old xs : List Value}
    (hm : (Builtin.lenOf xv).run P w = .ok m w) (hx : ∀ w', w'.heap = w.heap → (Builtin.firstCells sz m xv).run P w' = .ok xs.toArray w') (ho : ∀ w', w'.heap = w.heap → (Builtin.firstCells sz n (.slice a n cap)).run P w' = .ok old.toArray w')
    (hgt : cap < n + m) (hlen : n + m ≤ 10000000) (hb : 1 ≤ i0.bytes ∧ i0.bytes ≤ 4096) :
    ∃ c, n + m ≤ c ∧ (Builtin.append_ ats tr #[.slice a n cap, xv]).run P w = .ok (.slice (some ⟨w.heap.size, 0, none⟩) (n + m) c)
      { w with drawn := w.drawn + 1, heap := w.heap.push (.cells (old.toArray ++ xs.toArray ++ Builtin.zeroCells z0.cells (c - (n + m))) e (0, 0)) } := by
  have e1 : (#[Value.slice a n cap, xv] : Array Value)[0]? = some (.slice a n cap) := rfl
  have e2 : (#[Value.slice a n cap, xv] : Array Value)[1]? = some xv := rfl
  have hti : ∀ w, (typeInfo e).run P w = .ok i0 w := fun w => by simp [typeInfo, program, Sem.run, hi, go_sem]
  have hcapn := nextcap_le hgt
  have hbig : ¬ Builtin.nextslicecap (n + m) cap * i0.bytes > 2 ^ 48 := by
    have : Builtin.nextslicecap (n + m) cap * i0.bytes ≤ (2 * (n + m) + 768) * 4096 := Nat.mul_le_mul hcapn hb.2
    omega
  have hch : (choose (.appendCap (n + m) cap e)).run P w = .ok ((n + m) + (w.tape w.drawn (.appendCap (n + m) cap e)) % (2 ^ 63 - (n + m))) { w with drawn := w.drawn + 1 } := by
    simp [choose, Sem.run, Question.forced, Question.cut]
  refine ⟨(n + m) + (w.tape w.drawn (.appendCap (n + m) cap e)) % (2 ^ 63 - (n + m)), Nat.le_add_right _ _, ?_⟩
  unfold Builtin.append_
  have hnot : ¬ (n + m ≤ cap) := by omega
  have hmax : ¬ (((n + m : Nat) : Int) > IntKind.i64.max ∧ (false = true ∨ i0.bytes = 0)) := by
    rintro ⟨_, h | h⟩
    · cases h
    · omega
  simp only [hat, hat1, e1, e2, Sem.run_bind, TU.of ht w, Result.andThen_ok, hs w, Sem.run_pure, Bool.false_eq_true, if_false, hm, Bool.not_false, if_true, hnot, hti]
  rw [if_neg (by rintro ⟨_, h | h⟩; exact h.elim; omega)]
  simp only [Sem.run_bind, Result.andThen_ok, hti]
  rw [if_neg hbig]
  have hzz : ∀ w, (zeroValue e).run P w = .ok z0 w := hz
  simp only [Sem.run_bind, Sem.run_pure, Result.andThen_ok, hti, hch, run_askRoom, hzz, ho { w with drawn := w.drawn + 1 } rfl, hx { w with drawn := w.drawn + 1 } rfl, run_newRow]
end run
/-- **append**: the slice of the frame's own with the new cells behind it. -/
theorem L.append {A B ν : Boxes} {D₁ : Data} {t e tr : TypeId} {sz n m : Nat} {cells xs : List Value} {xv : Value} {z0 : Value} {ats : Array TypeId}
    (ho : all[ix]? = some ⟨some d, .call { callee := .builtin .append, args := #[x, y], argTypes := ats }, tr, pos, aft, g⟩) (ht : P.underlying t = some (.slice e)) (hat : ats[0]? = some t) (hat1 : ats[1]? = some t)
    (hs : TS P e sz) (hz : TZ P e z0) (hz1 : Nat.beq z0.cells.size sz = true) (hi : (P.info? e).map (fun i => Nat.ble 1 i.bytes && Nat.ble i.bytes 4096) = some true) (hsz1 : Nat.ble 1 sz = true)
    (hx : ev σ x = some v) (hy : ev σ y = some xv) (hacc : Acc e sz v n cells ν) (hsrc : Src D₁ xv m xs) (hD : D₁ ∈ Ds) (hxl : xs.length = m * sz) (hcl : cells.length = n * sz) (hx1 : ∀ u ∈ xs, cell1 u = true) (hlen : n + m ≤ 10000000)
    (hfl : fl = false ∨ ∀ p ∈ ν, p.1 ∈ bad)
    (hN : Nat.blt d X.N = true) (hg : Gok all σ g)
    (kk : ∀ v' ν', Acc e sz v' (n + m) (cells ++ xs) ν' → WL P X bad all K Q os ((d, v') :: σ) (A ++ ν' ++ B) Ds) : WL P X bad all K Q ((fl, ix) :: os) σ (A ++ ν ++ B) Ds := by
  refine L.loud ho rfl rfl hg fun a w hh => ?_
  obtain ⟨h1, h2, h3, D, h4, h5, h6⟩ := id hh
  obtain ⟨i0, hi, hb1, hb2⟩ : ∃ i0, P.info? e = some i0 ∧ 1 ≤ i0.bytes ∧ i0.bytes ≤ 4096 := by
    cases h : P.info? e with
    | none => simp [h] at hi
    | some i => simp [h] at hi; exact ⟨i, rfl, hi⟩
  have hsz : 1 ≤ sz := Nat.le_of_ble_eq_true hsz1
  have hz1' := Nat.eq_of_beq_eq_true hz1
  have hlies : ∀ w', w'.heap = w.heap → ∀ b o, At D₁ b o xs → Lies w' b o xs := by
    intro w' hw' b o hA j u hj
    have := h4.agr.cell ((h5 D₁ hD).get (hA j u hj))
    unfold World.cell? at this ⊢
    rw [hw']; exact this
  have hex : (execOp a.eval ⟨some d, .call { callee := .builtin .append, args := #[x, y], argTypes := ats }, tr, pos, aft, g⟩).run P w =
      ((Builtin.append_ ats tr #[v, xv]).run P w).andThen fun r w' => .ok (.value r) w' := by
    simp only [execOp, resolve, pure_bind, invoke, builtin]
    have e1 : (#[x, y].map a.eval) = #[v, xv] := by simp [hh.eval hx, hh.eval hy]
    rw [e1, Sem.run_bind]
    simp only [Sem.run_pure]
  rw [hex]
  have hm := lenOf_src (P := P) (w := w) hsrc
  have hfc : ∀ w', w'.heap = w.heap → (Builtin.firstCells sz m xv).run P w' = .ok xs.toArray w' := fun w' hw' => run_firstCells hsrc hxl (hlies w' hw')
  -- a new block
  have grow : ∀ (old : Option Addr) (cap : Nat), v = .slice old n cap → cap < n + m → (∀ w', w'.heap = w.heap → (Builtin.firstCells sz n (.slice old n cap)).run P w' = .ok cells.toArray w') →
      Oper.uponIn (FW X.r) 0 P ⟨some d, .call { callee := .builtin .append, args := #[x, y], argTypes := ats }, tr, pos, aft, g⟩ a (fun a' w' => (fl = true → Keep bad w w') ∧ wpL X.r bad P all K Q (opsAt all os) a' w') Q
        (((Builtin.append_ ats tr #[v, xv]).run P w).andThen fun r w' => .ok (.value r) w') := by
    intro old cap hv hgt hold
    obtain ⟨c, hc, hrun⟩ := run_append_grows (tr := tr) ht hat hat1 hs hz hi hm hfc hold hgt hlen ⟨hb1, hb2⟩
    rw [hv, hrun]
    obtain ⟨junk, hjunk⟩ : ∃ junk : List Value, cells.toArray ++ xs.toArray ++ Builtin.zeroCells z0.cells (c - (n + m)) = (cells ++ xs ++ junk).toArray ∧ (cells ++ xs ++ junk).length = c * sz := by
      refine ⟨(Builtin.zeroCells z0.cells (c - (n + m))).toList, by simp, ?_⟩
      have := zeroCells_size z0.cells (c - (n + m))
      simp only [List.length_append, Array.length_toList, this, hz1', hcl, hxl]
      rw [← Nat.add_mul, ← Nat.add_mul]
      congr 1; omega
    have hpush := h4.push (.cells (cells ++ xs ++ junk).toArray e (0, 0)) rfl
    simp only [Result.andThen_ok]
    rw [hjunk.1]
    refine ⟨fun _ => ⟨by simp, fun b hb _ => heap_push_lt hb⟩, ?_⟩
    have hst : Sta X.h0 X.lo X.D0 X.mods (A ++ [(w.heap.size, .cells (cells ++ xs ++ junk).toArray e (0, 0))] ++ B) D { w with drawn := w.drawn + 1, heap := w.heap.push (.cells (cells ++ xs ++ junk).toArray e (0, 0)) } := by
      have h := hpush.sub (μ' := A ++ [(w.heap.size, .cells (cells ++ xs ++ junk).toArray e (0, 0))] ++ B) (fun p hp => by
        simp only [List.mem_append, List.mem_cons] at hp ⊢
        rcases hp with (hp | hp) | hp
        · exact Or.inr (Or.inl (Or.inl hp))
        · exact Or.inl (hp.resolve_right (by simp))
        · exact Or.inr (Or.inr hp)) (by
        have hn := hpush.nd
        simp only [List.map_cons, List.map_append, List.nodup_cons, List.mem_append, not_or] at hn
        obtain ⟨⟨⟨ha, _⟩, hb⟩, hn⟩ := hn
        rw [List.nodup_append, List.nodup_append] at hn
        simp only [List.map_append, List.map_cons, List.map_nil]
        rw [List.nodup_append, List.nodup_append]
        refine ⟨⟨hn.1.1, by simp, fun q hq r hr => ?_⟩, hn.2.1, fun q hq r hr => ?_⟩
        · simp only [List.mem_singleton] at hr
          rintro rfl; exact ha (hr ▸ hq)
        · simp only [List.mem_append, List.mem_singleton] at hq
          rcases hq with hq | hq
          · exact hn.2.2 q (List.mem_append_left _ hq) r hr
          · rintro rfl; exact hb (hq ▸ hr))
      exact ⟨h.hlo, h.size, h.old, h.dold, h.agr, h.box, h.nd, h.fz, h.env⟩
    exact kk _ _ (Or.inr ⟨_, c, junk, rfl, hc, rfl, by simp [hcl, hxl, Nat.add_mul], hjunk.2⟩) _ _ (Hl.put ⟨h1, h2, h3, D, hst, h5, h6.step (fun _ p hp => by
      rcases List.mem_append.1 hp with hp | hp
      · rcases List.mem_append.1 hp with hp | hp
        · exact Or.inl (List.mem_map.2 ⟨p, List.mem_append_left _ (List.mem_append_left _ hp), rfl⟩)
        · exact Or.inr (by rw [List.mem_singleton.1 hp]; exact Nat.le_refl _)
      · exact Or.inl (List.mem_map.2 ⟨p, List.mem_append_right _ hp, rfl⟩)) (fun _ => ⟨by simp, fun b hb _ => ⟨heap_push_lt hb, rfl⟩, rfl⟩) hst.dom⟩ hN _)
  rcases hacc with ⟨old, hv, hn, hc, hν⟩ | ⟨b, cap, junk, hv, hncap, hν, hl1, hl2⟩
  · subst hn; subst hc; subst hν
    by_cases h0 : m = 0
    · subst h0
      have hxs : xs = [] := List.length_eq_zero_iff.1 (by simpa using hxl)
      subst hxs
      rw [hv, run_append_fits (tr := tr) (w' := w) ht hat hat1 hs hm (hfc w rfl) (Nat.le_refl _) (by cases old <;> rfl)]
      refine ⟨fun _ => Keep.refl _ _, kk _ [] (Or.inl ⟨old, rfl, rfl, rfl, rfl⟩) _ _ (Hl.put hh hN _)⟩
    · refine grow old 0 hv (by omega) fun w' _ => ?_
      cases old with
      | none => rfl
      | some a => simp [Builtin.firstCells, loadCells, loadCellsFrom, Sem.run_pure]
  · subst hν
    have hbx := (h4.box (b, .cells (cells ++ junk).toArray e (0, 0)) (by simp)).1
    by_cases hfit : n + m ≤ cap
    · have hjl : xs.length ≤ junk.length := by
        have h1 : (n + m) * sz ≤ cap * sz := Nat.mul_le_mul_right sz hfit
        rw [← hl2, Nat.add_mul, List.length_append, hcl] at h1
        omega
      have hcl1 : n * sz + 0 + xs.length ≤ (cells ++ junk).length := by rw [List.length_append, hcl]; omega
      obtain ⟨w', hr, hw'⟩ := run_storeCells (P := P) xs 0 w b (n * sz) (cells ++ junk) e hbx hcl1 hx1
      have htk : (cells ++ junk).take (n * sz + 0) ++ xs ++ (cells ++ junk).drop (n * sz + 0 + xs.length) = cells ++ xs ++ junk.drop xs.length := by
        rw [← hcl, Nat.add_zero, List.take_left, List.drop_append, List.drop_eq_nil_of_le (by omega)]
        simp
      rw [htk] at hw'
      rw [hv, run_append_fits (tr := tr) (w' := w') ht hat hat1 hs hm (hfc w rfl) hfit (by
        show (storeCells ((⟨b, 0, none⟩ : Addr).add (n * sz)) xs).run P w = _
        rw [add_plain, Nat.zero_add]; exact hr)]
      have hHas : Has (A ++ [(b, .cells (cells ++ junk).toArray e (0, 0))] ++ B) b (.cells (cells ++ junk).toArray e (0, 0)) (.cells (cells ++ xs ++ junk.drop xs.length).toArray e (0, 0)) (A ++ [(b, .cells (cells ++ xs ++ junk.drop xs.length).toArray e (0, 0))] ++ B) := by
        rw [List.append_assoc A, List.append_assoc A]
        exact .app .head
      have hst := h4.set hHas hw' rfl
      refine ⟨fun hf => ⟨by rw [hw'.1]; simp, fun c hc hcb => ?_⟩, kk _ _ (Or.inr ⟨b, cap, junk.drop xs.length, rfl, hfit, rfl, by simp [hcl, hxl, Nat.add_mul], ?_⟩) _ _ (Hl.put ⟨h1, h2, h3, D, hst, h5, h6.step (fun _ p hp => Or.inl (by rw [← hHas.keys]; exact List.mem_map.2 ⟨p, hp, rfl⟩)) (fun _ => low_set hw' (List.mem_map.2 ⟨_, hHas.mem, rfl⟩)) hst.dom⟩ hN _)⟩
      · have hb : b ∈ bad := by
          rcases hfl with h | h
          · rw [hf] at h; cases h
          · exact h _ (List.mem_singleton.2 rfl)
        rw [hw'.1, Array.getElem?_setIfInBounds_ne (by rintro rfl; exact hcb hb)]
      · rw [← hl2]; simp; omega
    · refine grow _ cap hv (by omega) fun w' hw' => ?_
      simp only [Builtin.firstCells]
      refine run_loadCells hcl fun j u hj => cell_of (cs := (cells ++ junk).toArray) (by rw [hw']; exact hbx) ?_
      have := (List.getElem?_eq_some_iff.1 hj).1
      simp only [List.getElem?_toArray, Nat.zero_add]
      rw [List.getElem?_append_left this]; exact hj
/-! ### What is owned becomes data -/
theorem Sta.freeze {h0 : H0} {lo : Nat} {D0 D : Data} {mods : List Nat} {A B : Boxes} {w : World} {b : Nat} {cells junk : List Value} {e : TypeId} (h : Sta h0 lo D0 mods (A ++ [(b, .cells (cells ++ junk).toArray e (0, 0))] ++ B) D w) (hb : lo ≤ b) :
    ∃ D', Le D D' ∧ D' b = cells ∧ (∀ c, c ≠ b → D' c = D c) ∧ Sta h0 lo D0 mods (A ++ B) D' w := by
  have hx := h.box (b, .cells (cells ++ junk).toArray e (0, 0)) (by simp)
  have hnd : b ∉ (A ++ B).map (·.1) := by
    have hn := h.nd
    simp only [List.map_append, List.map_cons, List.map_nil] at hn ⊢
    rw [List.nodup_append, List.nodup_append] at hn
    simp only [List.mem_append, not_or]
    exact ⟨fun hm => hn.1.2.2 b hm b (by simp) rfl, fun hm => hn.2.2 b (by simp) b hm rfl⟩
  have hlo := h.hlo
  refine ⟨fun c => if c = b then cells else D c, fun c => ?_, by simp, (fun c hc => by simp [hc]), h.hlo, h.size, h.old, fun c hc => ?_, fun c hc => ?_, fun p hp => ?_, ?_, h.fz, h.env⟩
  · by_cases hcb : c = b
    · subst hcb; rw [hx.2.1]; exact List.nil_prefix
    · simp [hcb]
  · have : c ≠ b := by omega
    simp only [this, if_false]; exact h.dold c hc
  · by_cases hcb : c = b
    · subst hcb
      exact ⟨_, e, _, hx.1, by simp⟩
    · simp only [hcb, if_false] at hc ⊢; exact h.agr c hc
  · have hp' : p ∈ A ++ [(b, Obj.cells (cells ++ junk).toArray e (0, 0))] ++ B := by
      rcases List.mem_append.1 hp with hp | hp
      · exact List.mem_append_left _ (List.mem_append_left _ hp)
      · exact List.mem_append_right _ hp
    obtain ⟨h1, h2, h3⟩ := h.box p hp'
    have : p.1 ≠ b := by rintro rfl; exact hnd (List.mem_map.2 ⟨p, hp, rfl⟩)
    exact ⟨h1, by simp only [this, if_false]; exact h2, h3⟩
  · have hn := h.nd
    simp only [List.map_append, List.map_cons, List.map_nil] at hn ⊢
    rw [List.nodup_append, List.nodup_append] at hn
    rw [List.nodup_append]
    exact ⟨hn.1.1, hn.2.1, fun q hq r hr => hn.2.2 q (List.mem_append_left _ hq) r hr⟩
/-- What the frozen slice gives. -/
def Froz (D : Data) (v : Value) (n : Nat) (cells : List Value) : Prop := (∃ a, v = .slice a 0 0 ∧ n = 0 ∧ cells = []) ∨ (∃ b cap, v = .slice (some ⟨b, 0, none⟩) n cap ∧ n ≤ cap ∧ At D b 0 cells)
theorem Hl.freeze {A B ν : Boxes} {e sz n : Nat} {cells : List Value} {a : Act} {w : World} (hacc : Acc e sz v n cells ν) (hmods : X.mods = []) (hh : Hl X σ (A ++ ν ++ B) Ds a w) :
    ∃ D', (∀ D₁ ∈ Ds, Le D₁ D') ∧ Froz D' v n cells ∧ Hl X σ (A ++ B) (D' :: Ds) a w := by
  obtain ⟨h1, h2, h3, D, h4, h5, h6⟩ := hh
  rcases hacc with ⟨old, hv, hn, hc, hν⟩ | ⟨b, cap, junk, hv, hncap, hν, hl1, hl2⟩
  · subst hν
    refine ⟨D, h5, Or.inl ⟨old, hv, hn, hc⟩, h1, h2, h3, D, by simpa using h4, fun D₁ hD₁ => ?_, by simpa using h6⟩
    rcases List.mem_cons.1 hD₁ with rfl | hD₁
    · exact Le.refl _
    · exact h5 D₁ hD₁
  · subst hν
    have hb := (h4.box (b, .cells (cells ++ junk).toArray e (0, 0)) (by simp)).2.2
    have hb' := hb.resolve_right (by rw [hmods]; simp)
    obtain ⟨D', hle, hD', hDo, hs⟩ := h4.freeze hb'
    refine ⟨D', fun D₁ hD₁ => (h5 D₁ hD₁).trans hle, Or.inr ⟨b, cap, hv, hncap, fun j u hj => by rw [hD', Nat.zero_add]; exact hj⟩, h1, h2, h3, D', hs, fun D₁ hD₁ => ?_, h6.step (fun _ p hp => Or.inl (List.mem_map.2 ⟨p, by rcases List.mem_append.1 hp with hp | hp; exact List.mem_append_left _ (List.mem_append_left _ hp); exact List.mem_append_right _ hp, rfl⟩)) (fun _ => ⟨Nat.le_refl _, fun c _ hn => ⟨rfl, hDo c (by rintro rfl; exact hn (by simp))⟩, rfl⟩) hs.dom⟩
    rcases List.mem_cons.1 hD₁ with rfl | hD₁
    · exact Le.refl _
    · exact (h5 D₁ hD₁).trans hle
theorem C.freeze {c : Code} {A B ν : Boxes} {e sz n : Nat} {cells : List Value} (hacc : Acc e sz v n cells ν) (hmods : X.mods = []) (kk : ∀ D, (∀ D₁ ∈ Ds, Le D₁ D) → Froz D v n cells → WC P X Q c σ (A ++ B) (D :: Ds)) : WC P X Q c σ (A ++ ν ++ B) Ds := by
  intro a w hh
  obtain ⟨D', h1, h2, h3⟩ := hh.freeze hacc hmods
  exact kk D' h1 h2 a w h3
theorem Q.freeze {T : Act → World → Prop} {A B ν : Boxes} {e sz n : Nat} {cells : List Value} (hacc : Acc e sz v n cells ν) (hmods : X.mods = []) (kk : ∀ D, (∀ D₁ ∈ Ds, Le D₁ D) → Froz D v n cells → ∀ a w, Hl X σ (A ++ B) (D :: Ds) a w → T a w) : ∀ a w, Hl X σ (A ++ ν ++ B) Ds a w → T a w := by
  intro a w hh
  obtain ⟨D', h1, h2, h3⟩ := hh.freeze hacc hmods
  exact kk D' h1 h2 a w h3
theorem Froz.sl {α : Type} {R : Rd α} {D : Data} {sz n : Nat} {cells : List Value} {xs : List α} (h : Froz D v n cells) (hn : xs.length = n) (hb : n ≤ 9223372036854775807) (he : ∀ i x, xs[i]? = some x → ∃ cs, R D x cs ∧ cs.length = sz ∧ (cells.drop (i * sz)).take sz = cs) : Sl D R sz v xs := by
  rcases h with ⟨a, hv, hn0, hc⟩ | ⟨b, cap, hv, hc, hA⟩
  · subst hn0
    have : xs = [] := List.length_eq_zero_iff.1 hn
    subst this; subst hv
    exact ⟨a, 0, rfl, Nat.le_refl _, by simp, Or.inl rfl⟩
  · subst hv; exact Sl.of_at hA hn hc hb he
theorem Froz.ints {D : Data} {n : Nat} {l : List Int} (h : Froz D v n (ints l)) (hn : l.length = n) (hb : n ≤ 9223372036854775807) : Sl D RI 1 v l :=
  h.sl hn hb fun i x hx => ⟨[.int .i64 x], rfl, rfl, by
    have h := ints_get hx
    have hl := (List.getElem?_eq_some_iff.1 h).1
    rw [Nat.mul_one, List.drop_eq_getElem_cons hl]
    rw [List.getElem?_eq_getElem hl] at h
    simp [Option.some.inj h]⟩
/-- A source for an append: a slice that was written out; a slice of numbers. -/
theorem Src.lit {D : Data} {b m c : Nat} {xs : List Value} (h : At D b 0 xs) : Src D (.slice (some ⟨b, 0, none⟩) m c) m xs := Or.inr ⟨b, 0, c, rfl, h⟩
theorem Src.ints {D : Data} {l : List Int} (h : Sl D RI 1 v l) : Src D v l.length (ints l) := by
  obtain ⟨a, cap, rfl, h1, h2, h3⟩ := h
  rcases h3 with rfl | ⟨b, o, rfl, h3⟩
  · exact Or.inl ⟨a, cap, rfl, rfl, rfl⟩
  · refine Or.inr ⟨b, o, cap, rfl, fun j v hj => ?_⟩
    simp only [Fs.ints, List.getElem?_map, Option.map_eq_some_iff] at hj
    obtain ⟨n, hn, rfl⟩ := hj
    obtain ⟨cs, hr, hc, hA⟩ := h3 j n hn
    obtain rfl : cs = [.int .i64 n] := hr
    have := hA 0 _ rfl
    simpa using this
end Go.Fs
namespace Go.Fs
variable {P : Program} {X : Cx} {γb : Type} [Membership Nat γb] {bad : γb} {all : Array Oper} {K : Act → World → Prop} {Q : Exit → Act → World → Prop}
variable {σ : Slots} {μ : Boxes} {Ds : List Data} {os : List (Bool × Nat)} {fl : Bool} {ix : Nat}
variable {d : Nat} {x y z : Operand} {u v : Value} {ty : TypeId} {pos : String} {aft : Array Edge} {g : Option (Nat × Bool)}
/-- The blocks of the list, and the data, are as they were. -/
def High (β : List Nat) (D : Data) (w : World) (D' : Data) (w' : World) : Prop := w.heap.size ≤ w'.heap.size ∧ Le D D' ∧ ∀ b ∈ β, w'.heap[b]? = w.heap[b]? ∧ D' b = D b
abbrev Inv := List Nat → Data → World → Prop
/-- A call of yield that runs a round. -/
def YieldRuns (P : Program) (l : Nat) (vs : List Value) (w : World) (R : Bool → Data → World → Prop) : Prop :=
  ∃ fn tmps assign body, (Instr.yield l vs.toArray).run P w = .ok (.round l fn tmps assign body) w ∧ Rounds P l fn tmps assign body w fun e w' => ∃ b D', e = .returned (.bool b) ∧ R b D' w'
def Cx.withEx (X : Cx) (J : Inv) : Cx := { X with ex := some J }
/-! ### Functions that call yield -/
def Xj (N lo : Nat) (J : Inv) : Cx := ⟨none, N, [], ⟨#[], none⟩, lo, fun _ => [], [], some J⟩
/-- The world as such a function finds it, and leaves it. -/
def SJ (lo : Nat) (J : Inv) (μ : Boxes) (Ds : List Data) (w : World) : Prop :=
  ∃ D, Sta ⟨#[], none⟩ lo (fun _ => []) [] μ D w ∧ (∀ D₁ ∈ Ds, Le D₁ D) ∧ exOk (Xj 0 lo J) μ D w
/-- What a call of such a function comes to. -/
def FnJ (P : Program) (f : FuncId) (args : List Value) (lo : Nat) (J : Inv) (μ : Boxes) (Ds : List Data) (post : Value → Inv → Boxes → Prop) : Prop :=
  EF P f ∧ ∀ w, SJ lo J μ Ds w → Calls P f args.toArray w fun e w' => ∃ v J' μ', e = .returned v ∧ SJ lo J' μ' Ds w' ∧ post v J' μ'
def PostJ (lo : Nat) (Ds : List Data) (post : Value → Inv → Boxes → Prop) : Ending → World → Prop := fun e w' => ∃ v J' μ', e = .returned v ∧ SJ lo J' μ' Ds w' ∧ post v J' μ'
theorem enterJ {f : FuncId} {fn : Func} {c : Code} {args : List Value} {lo : Nat} {J : Inv} {post : Value → Inv → Boxes → Prop} (N : Nat) (hf : P.funcs[f]? = some fn) (hn : (fn.name == "runtime.NumGoroutine") = false) (hb : fn.body = some c) (hN : fn.ntmps = N) (hsz : Nat.ble args.length N = true)
    (h : WC P (Xj N lo J) (bodyPost P fn (PostJ lo Ds post)) c (slotsOf 0 args) μ Ds) : FnJ P f args lo J μ Ds post := by
  refine ⟨EF.of hf hn hb, fun w hw => ?_⟩
  subst hN
  have hsz := Nat.le_of_ble_eq_true hsz
  obtain ⟨D, hs, hds, hex⟩ := hw
  refine (callsIn_FW (r := none) (n := 0)).1 (callsIn_of_wp (R := PostJ lo Ds post) hf hb trivial (h _ w ⟨?_, (fun s v hs => ?_), rfl, D, hs, hds, hex⟩) rfl)
  · simp [Xj]; omega
  · obtain ⟨_, h2⟩ := look_slotsOf args 0 s v hs
    have hl := (List.getElem?_eq_some_iff.1 h2).1
    simp only [Nat.sub_zero] at h2 hl
    show (args.toArray ++ _)[s]? = some v
    rw [Array.getElem?_append_left (by simpa using hl)]
    simpa using h2
theorem leaveJ {fn : Func} {lo N : Nat} {J : Inv} {post : Value → Inv → Boxes → Prop} {e : Exit} (he : (match e with | .normal => true | .ret => true | _ => false) = true) {rs : List ResultVar} {vs : List Value} (hr : fn.results = rs.toArray) (h : ResV P (Xj N lo J) σ μ rs vs)
    {Ds' : List Data} (hD : ∀ D ∈ Ds', ∃ D' ∈ Ds, Le D D') (hp : post (resOf vs) J μ) : ∀ a w, Hl (Xj N lo J) σ μ Ds a w → bodyPost P fn (PostJ lo Ds' post) e a w := by
  intro a w hh
  have hrun := run_results hh hr h
  obtain ⟨h1, h2, h3, D, h4, h5, h6⟩ := hh
  have : a.defers = [] ∧ ∃ v, (results fn a.tmps).run P w = .ok v w ∧ PostJ lo Ds' post (.returned v) w := ⟨h3, _, hrun, _, J, μ, rfl, ⟨D, h4, (fun D₁ h => by obtain ⟨D2, hm, hle⟩ := hD D₁ h; exact hle.trans (h5 D2 hm)), h6⟩, hp⟩
  cases e <;> first | exact this | cases he
/-- A call of such a function, in one. -/
theorem L.callJ {J : Inv} {N lo : Nat} {c : Operand} {xs : Array Operand} {ats : Array TypeId} {f : FuncId} {c1 c2 vs : List Value} {post : Value → Inv → Boxes → Prop} (ho : all[ix]? = some ⟨some d, .call { callee := .value c, args := xs, argTypes := ats }, ty, pos, aft, g⟩)
    (hc : ev σ c = some (.func (.func f) c1.toArray c2.toArray)) (hxs : evs σ xs.toList = some vs) (hfl : fl = false)
    (hf : FnJ P f (c1 ++ vs ++ c2) lo J μ Ds post) (hN : Nat.blt d N = true) (hg : Gok all σ g)
    (kk : ∀ v J' μ', post v J' μ' → WL P (Xj N lo J') bad all K Q os ((d, v) :: σ) μ' Ds) : WL P (Xj N lo J) bad all K Q ((fl, ix) :: os) σ μ Ds := by
  refine L.loud ho rfl rfl hg fun a w hh => ?_
  obtain ⟨h1, h2, h3, D, h4, h5, h6⟩ := id hh
  rw [run_call hf.1 (hh.eval hc) (evs_eval (fun _ _ hx => hh.eval hx) hxs)]
  refine ⟨fun h => by simp [FW] at h, callsIn_FW.2 ((hf.2 w ⟨D, h4, h5, h6⟩).mono ?_)⟩
  rintro e w' ⟨v, J', μ', rfl, ⟨D', hs, hds, hex⟩, hpost⟩
  exact ⟨(fun h => by rw [hfl] at h; cases h), kk v J' μ' hpost _ _ (Hl.put (X := Xj N lo J') ⟨h1, h2, h3, D', hs, hds, hex⟩ hN v)⟩
/-! ### The statement -/
theorem Sta.roundHigh {D D' : Data} {w w' : World} {μ μ' : Boxes} {β : List Nat} (hw : Agrees D w) (hs : Sta (hd w) w.heap.size D (μ.map (·.1)) μ' D' w') (hβ : ∀ b ∈ β, b < w.heap.size) (hM : ∀ p ∈ μ, p.1 ∉ β) : High β D w D' w' := by
  refine ⟨hs.size, le_of_call hw hs, fun b hb => ⟨hs.old b (hβ b hb) (fun hk => ?_), hs.dold b (hβ b hb)⟩⟩
  obtain ⟨p, hp, rfl⟩ := List.mem_map.1 hk
  exact hM p hp hb
def markOf (bd : Nat) : Deferred := { target := .collected bd, args := #[] }
def Cx.withDs (X : Cx) (bd : Nat) : Cx := { X with ds := markOf bd :: X.ds }
/-- The frame of a round. -/
def Xr (l N : Nat) (h0 : H0) (D : Data) (mods : List Nat) : Cx := ⟨some l, N, [], h0, h0.size, D, mods, none⟩
/-- What a round ends in. -/
def RoundR {γ : Type} (h0 : H0) (D : Data) (mods : List Nat) (Φ : γ → Prop) (Ψ : Code → γ → Prop) (Mx : γ → Boxes) (My : Code → γ → Boxes) : Ending → World → Prop := fun e w' =>
  ∃ b D', e = .returned (.bool b) ∧ (if b then ∃ g, Φ g ∧ Sta h0 h0.size D mods (Mx g) D' w' else ∃ c g, Ψ c g ∧ Sta h0 h0.size D mods (My c g) D' w')
/-- Behind the assignments to the loop's left sides: the round begins. -/
theorem C.begin {c : Code} {A B : Boxes} {l : Nat} {r : Loop} {QQ : Exit → Act → World → Prop} (hr : X.r = some l) (hst : r.state = .ready) (h : WC P X Q c σ (A ++ (l, .loop { r with state := .busy }) :: B) Ds) :
    ∀ a w, Hl X σ (A ++ (l, .loop r) :: B) Ds a w → Exit.then (fun a₁ w₁ => ∃ w₂, (Instr.beginRound l).run P w₁ = .ok () w₂ ∧ c.wpIn ((FW none).inRound l) 0 P Q a₁ w₂) QQ .normal a w := by
  intro a w hh
  obtain ⟨h1, h2, h3, D, h4, h5, h6⟩ := hh
  have hb := (h4.box (l, .loop r) (by simp)).1
  refine ⟨_, run_beginRound hb hst, ?_⟩
  have hHas : Has (A ++ (l, .loop r) :: B) l (.loop r) (.loop { r with state := .busy }) (A ++ (l, .loop { r with state := .busy }) :: B) := .app .head
  have hs := h4.set (w' := w.putObj l (.loop { r with state := .busy })) hHas ⟨rfl, rfl⟩ trivial
  have := h a _ ⟨h1, h2, h3, D, hs, h5, h6.step (fun _ p hp => Or.inl (by rw [← hHas.keys]; exact List.mem_map.2 ⟨p, hp, rfl⟩)) (fun _ => low_set ⟨rfl, rfl⟩ (List.mem_map.2 ⟨_, hHas.mem, rfl⟩)) hs.dom⟩
  rw [hr] at this
  exact this
/-- A round's end: on. -/
theorem C.roundOn {γ : Type} {A B : Boxes} {l : Nat} {r : Loop} {Φ : γ → Prop} {Ψ : Code → γ → Prop} {Mx : γ → Boxes} {My : Code → γ → Boxes} (g : γ) (hΦ : Φ g) (hM : Mx g = A ++ (l, .loop { r with state := .ready, pending := none }) :: B) (hlo : X.lo = X.h0.size) :
    ∀ a w, Hl X σ (A ++ (l, .loop r) :: B) Ds a w → roundPost P l (RoundR X.h0 X.D0 X.mods Φ Ψ Mx My) .normal a w := by
  intro a w hh
  obtain ⟨h1, h2, h3, D, h4, h5, h6⟩ := hh
  have hb := (h4.box (l, .loop r) (by simp)).1
  refine ⟨_, _, run_endRound none hb, true, D, rfl, g, hΦ, ?_⟩
  have hHas : Has (A ++ (l, .loop r) :: B) l (.loop r) (.loop { r with state := .ready, pending := none }) (A ++ (l, .loop { r with state := .ready, pending := none }) :: B) := .app .head
  have hs := h4.set (w' := w.putObj l (.loop { r with state := .ready, pending := none })) hHas ⟨rfl, rfl⟩ trivial
  rw [hM, ← hlo]; exact hs
/-- The loop variables' slots, as yield is called. -/
def parSlots : List Tmp → List Value → Slots → Slots
  | p :: ps, v :: vs, σ => parSlots ps vs ((p, v) :: σ)
  | _, _, σ => σ
theorem look_par : ∀ (ps : List Tmp) (vs : List Value) (tmps : Array Value) (σ : Slots), (∀ s v, look σ s = some v → tmps[s]? = some v) → (∀ p ∈ ps, p < tmps.size) →
    ∀ s v, look (parSlots ps vs σ) s = some v → ((ps.zip vs).foldl (fun tmps (p : Tmp × Value) => tmps.setIfInBounds p.1 p.2) tmps)[s]? = some v
  | [], vs, tmps, σ, h, _, s, v, hs => by cases vs <;> exact h s v hs
  | p :: ps, [], tmps, σ, h, _, s, v, hs => h s v hs
  | p :: ps, u :: vs, tmps, σ, h, hp, s, v, hs => by
    refine look_par ps vs (tmps.setIfInBounds p u) ((p, u) :: σ) (fun s v hs => ?_) (fun q hq => by simpa using hp q (List.mem_cons_of_mem _ hq)) s v hs
    simp only [look] at hs
    cases hb : Nat.beq p s with
    | true => rw [hb] at hs; cases hs; obtain rfl := Nat.eq_of_beq_eq_true hb; rw [Array.getElem?_setIfInBounds_self_of_lt (hp p List.mem_cons_self)]
    | false => rw [hb] at hs; rw [Array.getElem?_setIfInBounds_ne (fun e => by subst e; simp at hb)]; exact h s v hs
theorem size_par : ∀ (l : List (Tmp × Value)) (tmps : Array Value), (l.foldl (fun tmps (p : Tmp × Value) => tmps.setIfInBounds p.1 p.2) tmps).size = tmps.size
  | [], _ => rfl
  | p :: l, tmps => by rw [List.foldl_cons, size_par l]; simp
/-! ### A function that ranges over a function: entering it, and leaving it -/
def BodyM (P : Program) (fn : Func) (R : Ending → World → Prop) : Exit → Act → World → Prop
  | .normal, a, w => LeavesInM (FW none) 0 P fn a.tmps R a.defers .returning w
  | .ret, a, w => LeavesInM (FW none) 0 P fn a.tmps R a.defers .returning w
  | _, _, _ => False
/-! ### Entering an iterator -/
end Go.Fs
namespace Go.Fs
variable {P : Program} {X : Cx} {γb : Type} [Membership Nat γb] {bad : γb} {all : Array Oper} {K : Act → World → Prop} {Q : Exit → Act → World → Prop}
variable {σ : Slots} {μ : Boxes} {Ds : List Data} {os : List (Bool × Nat)} {fl : Bool} {ix : Nat}
variable {d : Nat} {x y z : Operand} {u v : Value} {ty : TypeId} {pos : String} {aft : Array Edge} {g : Option (Nat × Bool)}
/-- 'a[:]' of an array in a box. -/
theorem L.sliceA {t e : TypeId} {n b : Nat} (ho : all[ix]? = some ⟨some d, .slice t x none none none, ty, pos, aft, g⟩) (ht : P.underlying t = some (.array n e)) (hs : TS P e 1) (hx : ev σ x = some (.pointer (some ⟨b, 0, none⟩)))
    (hN : Nat.blt d X.N = true) (hg : Gok all σ g) (kk : WL P X bad all K Q os ((d, .slice (some ⟨b, 0, none⟩) n n) :: σ) μ Ds) : WL P X bad all K Q ((fl, ix) :: os) σ μ Ds :=
  L.pure ho rfl rfl hN hg (fun ρ hρ w' => by
    simp only [execOp, hρ x _ hx, Option.map_none]
    unfold Instr.sliceAt Instr.sureAddr Instr.sliceBounds
    simp only [Sem.run_bind, TU.of ht w', Result.andThen_ok, hs w', Sem.run_pure, pure_bind, Nat.zero_mul, Nat.sub_zero]
    split <;> simp [Addr.add]) kk
/-- A conversion between kinds of numbers, of a number that fits. -/
theorem L.convert {k k' : IntKind} {s t : TypeId} {n : Int} (ho : all[ix]? = some ⟨some d, .convert s t x, ty, pos, aft, g⟩) (hr : ∀ w, (Go.convert s t (.int k n)).run P w = .ok (.int k' n) w) (hx : ev σ x = some (.int k n)) (hN : Nat.blt d X.N = true) (hg : Gok all σ g)
    (kk : WL P X bad all K Q os ((d, .int k' n) :: σ) μ Ds) : WL P X bad all K Q ((fl, ix) :: os) σ μ Ds :=
  L.pure ho rfl rfl hN hg (fun ρ hρ w' => by simp only [execOp, hρ x _ hx, Sem.run_bind, hr w', Result.andThen_ok, Sem.run_pure]) kk
/-- A comparison whose run is known. -/
theorem L.eqlX {t t' : TypeId} {b : Bool} (ho : all[ix]? = some ⟨some d, .binOp .eql t x y t', ty, pos, aft, g⟩) (hr : ∀ w, ((do eqGuard .eql t x y u v; binOp .eql t u v) : Sem Value).run P w = .ok (.bool b) w) (hx : ev σ x = some u) (hy : ev σ y = some v) (hN : Nat.blt d X.N = true) (hg : Gok all σ g)
    (kk : WL P X bad all K Q os ((d, .bool b) :: σ) μ Ds) : WL P X bad all K Q ((fl, ix) :: os) σ μ Ds :=
  L.pure ho rfl rfl hN hg (fun ρ hρ w' => by simp only [execOp, hρ x _ hx, hρ y _ hy]; rw [Sem.run_bind, hr w']; rfl) kk
theorem L.neqX {t t' : TypeId} {b : Bool} (ho : all[ix]? = some ⟨some d, .binOp .neq t x y t', ty, pos, aft, g⟩) (hr : ∀ w, ((do eqGuard .neq t x y u v; binOp .neq t u v) : Sem Value).run P w = .ok (.bool b) w) (hx : ev σ x = some u) (hy : ev σ y = some v) (hN : Nat.blt d X.N = true) (hg : Gok all σ g)
    (kk : WL P X bad all K Q os ((d, .bool b) :: σ) μ Ds) : WL P X bad all K Q ((fl, ix) :: os) σ μ Ds :=
  L.pure ho rfl rfl hN hg (fun ρ hρ w' => by simp only [execOp, hρ x _ hx, hρ y _ hy]; rw [Sem.run_bind, hr w']; rfl) kk
/-- Scopes and labels change nothing. -/
theorem C.label {n : Nat} (h : ∀ a w, Hl X σ μ Ds a w → Q .normal a w) : WC P X Q (.label n) σ μ Ds := fun a w hh => wpIn_label (h a w hh)
/-- An element of an array of numbers, out of the array's value. -/
theorem L.indexV {t e : TypeId} {n : Nat} {l : List Int} {k : IntKind} {i m : Int} (ho : all[ix]? = some ⟨some d, .index t x y, ty, pos, aft, g⟩) (ht : P.underlying t = some (.array n e)) (ha : TA P e false) (hs : TS P e 1) (hx : ev σ x = some (.agg (ints l).toArray)) (hy : ev σ y = some (.int k i)) (h0 : 0 ≤ i) (h1 : i < n) (hm : l[i.toNat]? = some m)
    (hN : Nat.blt d X.N = true) (hg : Gok all σ g) (kk : WL P X bad all K Q os ((d, .int .i64 m) :: σ) μ Ds) : WL P X bad all K Q ((fl, ix) :: os) σ μ Ds :=
  L.pure ho rfl rfl hN hg (fun ρ hρ w' => by
    have hg : (ints l).toArray[i.toNat]? = some (.int .i64 m) := by simpa using ints_get hm
    simp only [execOp, hρ x _ hx, hρ y _ hy]
    unfold Instr.index asIntOf part
    simp only [Sem.run_bind, TU.of ht w', Result.andThen_ok, hs w', ha w', Sem.run_pure, pure_bind, h0, h1, and_self, if_true, Nat.mul_one, Bool.false_eq_true, if_false, hg]) kk
/-- A cell of data at a computed place. -/
theorem L.loadDI {t : TypeId} {D₁ : Data} {b k : Nat} {cs : List Value} (ho : all[ix]? = some ⟨some d, .load t x, ty, pos, aft, g⟩) (ha : TA P t false) (hx : ev σ x = some (.pointer (some ⟨b, k, none⟩))) (hA : At D₁ b 0 cs) (hD : D₁ ∈ Ds) (hv : cs[k]? = some v) (hb : b ∉ bad)
    (hN : Nat.blt d X.N = true) (hg : Gok all σ g) (kk : WL P X bad all K Q os ((d, v) :: σ) μ Ds) : WL P X bad all K Q ((fl, ix) :: os) σ μ Ds :=
  L.loadD1 (o := 0) (k := k) ho ha (by rw [Nat.zero_add]; exact hx) hA hD hv hb hN hg kk
/-- A loop in a function that calls yield: what the loop's owner knows goes by the letter, too. -/
theorem C.loopJ {γ : Type} {c : Code} {N lo : Nat} {J0 : Inv} (m : γ → Nat) (I : γ → Prop) (J : γ → Inv) (ch : γ → Slots) (rest : Slots) (M : γ → Boxes) (E : γ → List Data) (g₀ : γ) (h₀ : I g₀) (hJ : J0 = J g₀) (hch : Sub σ (ch g₀)) (hrest : Sub σ rest) (hμ : (M g₀).Sublist μ) (hD : ∀ D ∈ E g₀, ∃ D' ∈ Ds, Le D D')
    (round : ∀ g, I g → WC P (Xj N lo (J g)) (Exit.then (fun a w => ∃ g', I g' ∧ m g' < m g ∧ Hl (Xj N lo (J g')) (ch g' ++ rest) (M g') (E g') a w) Q) c (ch g ++ rest) (M g) (E g)) : WC P (Xj N lo J0) Q (.loop c) σ μ Ds := by
  subst hJ
  let p : Act → World → Nat → Prop := fun a w n => ∃ g, I g ∧ m g = n ∧ Hl (Xj N lo (J g)) (ch g ++ rest) (M g) (E g) a w
  have ex : ∀ a w, (∃ n, p a w n) → ∃ n, p a w n ∧ ∀ k, p a w k → n ≤ k := by
    intro a w ⟨n, hn⟩
    induction n using Nat.strongRecOn with
    | _ n ih =>
      by_cases h : ∃ k, k < n ∧ p a w k
      · obtain ⟨k, hk, hp⟩ := h; exact ih k hk hp
      · exact ⟨n, hn, fun k hk => Nat.le_of_not_lt fun hl => h ⟨k, hl, hk⟩⟩
  intro a w hh
  refine wpIn_loop (fun a w => ∃ n, p a w n) (fun a w => open Classical in if h : ∃ n, p a w n then (ex a w h).choose else 0) ⟨_, g₀, h₀, rfl, hh.weak (Sub.app hch hrest) hμ hD⟩ ?_
  intro a w hI
  obtain ⟨⟨g, hg, hm, hst⟩, hmin⟩ := (ex a w hI).choose_spec
  refine wpIn_mono (round g hg a w hst) fun e a' w' hq => ?_
  cases e with
  | normal =>
    obtain ⟨g', hg', hlt, hst'⟩ := hq
    have hI' : ∃ n, p a' w' n := ⟨_, g', hg', rfl, hst'⟩
    refine ⟨hI', ?_⟩
    simp only [dif_pos hI', dif_pos hI]
    have := (ex a' w' hI').choose_spec.2 _ ⟨g', hg', rfl, hst'⟩
    omega
  | _ => exact hq
theorem C.againJ {γ : Type} {N lo : Nat} {J1 : Inv} {m : γ → Nat} {I : γ → Prop} {J : γ → Inv} {ch : γ → Slots} {rest : Slots} {M : γ → Boxes} {E : γ → List Data} {g : γ} (n : Nat) (g' : γ) (h1 : I g') (h2 : m g' < m g) (hJ : J1 = J g') (hch : Sub σ (ch g')) (hn : dropOk n σ = true) (hr : σ.drop n = rest) (hμ : (M g').Sublist μ) (hD : ∀ D ∈ E g', ∃ D' ∈ Ds, Le D D') :
    ∀ a w, Hl (Xj N lo J1) σ μ Ds a w → Exit.then (fun a w => ∃ g', I g' ∧ m g' < m g ∧ Hl (Xj N lo (J g')) (ch g' ++ rest) (M g') (E g') a w) Q .normal a w := by
  subst hJ
  intro a w hh
  refine ⟨g', h1, h2, ?_⟩
  have h3 := hh.weak (σ' := ch g') hch hμ hD
  refine ⟨h3.1, fun s v hs => ?_, h3.2.2⟩
  rcases look_append hs with hs | hs
  · exact h3.2.1 s v hs
  · subst hr; exact hh.2.1 s v (look_drop n σ hn s v hs)
/-- The boxes are apart from each other. -/
theorem C.nd {c : Code} (k : (μ.map (·.1)).Nodup → WC P X Q c σ μ Ds) : WC P X Q c σ μ Ds := fun a w hh => k (by obtain ⟨_, _, _, D, h4, _⟩ := hh; exact h4.nd) a w hh
/-- A store of a whole block. -/
theorem L.storeW {t : TypeId} {b n : Nat} {vs us : List Value} {e : TypeId} {μ' : Boxes} (ho : all[ix]? = some ⟨none, .store t x y, ty, pos, aft, g⟩) (hx : ev σ x = some (.pointer (some ⟨b, 0, none⟩))) (hy : ev σ y = some v) (hv : v.cells = us.toArray) (hs : TS P t n)
    (hn : us.length = n) (hl : vs.length = n) (hm : Has μ b (.cells vs.toArray e (0, 0)) (.cells us.toArray e (0, 0)) μ') (hc1 : ∀ u ∈ us, cell1 u = true) (hg : Gok all σ g)
    (kk : WL P X bad all K Q os σ μ' Ds) : WL P X bad all K Q ((false, ix) :: os) σ μ Ds :=
  L.store ho hx hy hv (by rw [hn]; exact hs) hm (by omega) (by rw [List.take_zero, Nat.zero_add, List.drop_eq_nil_of_le (by omega)]; simp) hc1 hg kk
/-- The length of a slice that somebody owns. -/
theorem L.lenAcc {t e tr e' : TypeId} {n sz : Nat} {cells : List Value} {ν : Boxes} {ats : Array TypeId} (ho : all[ix]? = some ⟨some d, .call { callee := .builtin .len, args := #[x], argTypes := ats }, tr, pos, aft, g⟩) (ht : P.underlying t = some (.slice e)) (hx : ev σ x = some v) (hS : Acc e' sz v n cells ν) (hat : ats[0]? = some t)
    (hN : Nat.blt d X.N = true) (hg : Gok all σ g) (kk : WL P X bad all K Q os ((d, .int .i64 (n : Int)) :: σ) μ Ds) :
    WL P X bad all K Q ((fl, ix) :: os) σ μ Ds :=
  L.pure ho rfl rfl hN hg (fun ρ hρ w' => by
    have hx' := hρ x _ hx
    rcases hS with ⟨a, rfl, rfl, _⟩ | ⟨b, cap, junk, rfl, _⟩
    · simp [Builtin.len_, hat, hx', Sem.run_bind, TU.of ht w', goInt, Sem.run_pure, go_sem]
    · simp [Builtin.len_, hat, hx', Sem.run_bind, TU.of ht w', goInt, Sem.run_pure, go_sem]) kk
theorem Hl.dropBoxes {a : Act} {w : World} (n : Nat) (h : Hl X σ μ Ds a w) : Hl X σ (μ.drop n) Ds a w := by
  obtain ⟨h1, h2, h3, D, h4, h5, h6⟩ := h
  have hμ : (μ.drop n).Sublist μ := List.drop_sublist n μ
  exact ⟨h1, h2, h3, D, h4.sub (fun p hp => hμ.mem hp) ((hμ.map (·.1)).nodup h4.nd), h5, h6.step (fun _ p hp => Or.inl (List.mem_map.2 ⟨p, hμ.mem hp, rfl⟩)) (fun _ => Low.refl _ _ _) h4.dom⟩
theorem Acc.cells1 {e : TypeId} {sz n : Nat} {cells : List Value} {ν : Boxes} (h : Acc e sz v n cells ν) : v.cells = [v].toArray := by
  rcases h with ⟨a, rfl, _⟩ | ⟨b, cap, junk, rfl, _⟩ <;> rfl
theorem Acc.cell1 {e : TypeId} {sz n : Nat} {cells : List Value} {ν : Boxes} (h : Acc e sz v n cells ν) : ∀ u ∈ [v], Fs.cell1 u = true := by
  rcases h with ⟨a, rfl, _⟩ | ⟨b, cap, junk, rfl, _⟩ <;> simp [Fs.cell1]
/-! ### Scopes -/
theorem stepR_scope' {b : Frame} {a : Act} {k : List Item} {cs : List Frame} {w : World} {c : Code} : step P (lone (b.atR a (.code (.scope c) :: k)) cs w) = .next (lone (b.atR a (.code c :: .inScope c :: k)) cs w) :=
  step_lone_go (by simp [stepG, stepG.exec, Frame.atR])
theorem stepR_inScope' {b : Frame} {a : Act} {k : List Item} {cs : List Frame} {w : World} {c : Code} : step P (lone (b.atR a (.inScope c :: k)) cs w) = .next (lone (b.atR a k) cs w) :=
  step_lone_go (by simp [stepG, stepG.exec, Frame.atR])
def NoGoto (Q : Exit → Act → World → Prop) : Exit → Act → World → Prop
  | .goto _, _, _ => False
  | e, a, w => Q e a w
theorem wpIn_scope' {F : Fence} {n : Nat} {c : Code} {a : Act} {w : World} (h : c.wpIn F n P (NoGoto Q) a w) : (Code.scope c).wpIn F n P Q a w := by
  intro b k cs hro hb hr
  have h0 : (lone (b.atR a (.code (.scope c) :: k)) cs w).fenced P F := fenced_calm hb hr rfl
  obtain ⟨e, a₁, w₁, hq, harr⟩ := h b (.inScope c :: k) cs hro hb hr
  cases e with
  | normal => exact ⟨.normal, a₁, w₁, hq, .head h0 stepR_scope' (StepsIn.trans harr (.one (fenced_calm hb hr rfl) stepR_inScope'))⟩
  | exit id' =>
    have hx : exitTo id' (.inScope c :: k) = exitTo id' k := by simp [exitTo]
    exact ⟨.exit id', a₁, w₁, hq, fun k' hk => .head h0 stepR_scope' (harr.1 k' (by rw [hx]; exact hk)),
      fun hr' hk => let ⟨k₁, h1, h2⟩ := harr.2 hr' (by rw [hx]; exact hk); ⟨k₁, h1, .head h0 stepR_scope' h2⟩⟩
  | goto l => exact hq.elim
  | ret => exact ⟨_, a₁, w₁, hq, .of_steps (.one h0 stepR_scope') harr⟩
  | panic ch => exact ⟨_, a₁, w₁, hq, .of_steps (.one h0 stepR_scope') harr⟩
  | outgrown => exact ⟨_, a₁, w₁, hq, .of_steps (.one h0 stepR_scope') harr⟩
theorem C.scope {c : Code} (h : WC P X (NoGoto Q) c σ μ Ds) : WC P X Q (.scope c) σ μ Ds := fun a w hh => wpIn_scope' (h a w hh)
theorem C.scopeRet (h : ∀ a w, Hl X σ μ Ds a w → Q .ret a w) : ∀ a w, Hl X σ μ Ds a w → NoGoto Q .ret a w := h
theorem L.boxesEq (μ' : Boxes) (h : μ = μ') (k : WL P X bad all K Q os σ μ' Ds) : WL P X bad all K Q os σ μ Ds := h ▸ k
theorem C.boxesEq {c : Code} (μ' : Boxes) (h : μ = μ') (k : WC P X Q c σ μ' Ds) : WC P X Q c σ μ Ds := h ▸ k
theorem Sl.cell1 {α : Type} {R : Rd α} {D : Data} {sz : Nat} {v : Value} {xs : List α} (h : Sl D R sz v xs) : ∀ u ∈ [v], Fs.cell1 u = true := by
  obtain ⟨a, cap, rfl, _⟩ := h; simp [Fs.cell1]
end Go.Fs
namespace Go.Fs
variable {P : Program} {X : Cx} {γb : Type} [Membership Nat γb] {bad : γb} {all : Array Oper} {K : Act → World → Prop} {Q : Exit → Act → World → Prop}
variable {σ : Slots} {μ : Boxes} {Ds : List Data} {os : List (Bool × Nat)} {fl : Bool} {ix : Nat}
variable {d : Nat} {x y z : Operand} {u v : Value} {ty : TypeId} {pos : String} {aft : Array Edge} {g : Option (Nat × Bool)}
theorem run_part_int {e : TypeId} {q : IntKind} (hu : P.underlying e = some (.int q)) {xs : Array Value} {off : Nat} {v : Value} (hx : xs[off]? = some v) (w : World) : (part e xs off).run P w = .ok v w :=
  run_part_plain w (by simp [Program.plainKey, hu]) hx
theorem run_eqItems_ints (dp : Nat) {e : TypeId} (hu : P.underlying e = some (.int .i64)) (l m : List Int) (w : World) : ∀ (is : List Nat), (∀ i ∈ is, i < l.length ∧ i < m.length) →
    (Op.eqItems (dp + 1) e 1 (ints l).toArray (ints m).toArray is).run P w = .ok (is.all fun i => l[i]? == m[i]?) w
  | [], _ => by simp [Op.eqItems, Sem.run_pure]
  | i :: is, h => by
    obtain ⟨h1, h2⟩ := h i List.mem_cons_self
    have g1 : (ints l).toArray[i * 1]? = some (.int .i64 l[i]) := by rw [Nat.mul_one]; simpa using ints_get (List.getElem?_eq_getElem h1)
    have g2 : (ints m).toArray[i * 1]? = some (.int .i64 m[i]) := by rw [Nat.mul_one]; simpa using ints_get (List.getElem?_eq_getElem h2)
    simp only [Op.eqItems, Sem.run_bind, run_part_int hu g1, run_part_int hu g2, run_equalIn_int w dp e .i64 .i64 _ _ hu, Result.andThen_ok, List.all_cons, List.getElem?_eq_getElem h1, List.getElem?_eq_getElem h2]
    by_cases he : l[i] = m[i]
    · simp [he, run_eqItems_ints dp hu l m w is (fun j hj => h j (List.mem_cons_of_mem _ hj))]
    · simp [he, Sem.run_pure]
theorem all_range_eq {l m : List Int} {n : Nat} (hl : l.length = n) (hm : m.length = n) : ((List.range n).all fun i => l[i]? == m[i]?) = (l == m) := by
  rw [Bool.eq_iff_iff]
  simp only [List.all_eq_true, List.mem_range, beq_iff_eq]
  constructor
  · intro h
    apply List.ext_getElem?
    intro i
    by_cases hi : i < n
    · exact h i hi
    · rw [List.getElem?_eq_none (by omega), List.getElem?_eq_none (by omega)]
  · rintro rfl i _; rfl
/-- Two arrays of numbers are compared. -/
theorem L.eqlA {t e t' : TypeId} {n : Nat} {l m : List Int} (ho : all[ix]? = some ⟨some d, .binOp .eql t x y t', ty, pos, aft, g⟩) (hgt : P.eqGuardType P.depth t = false) (ht : P.underlying t = some (.array n e)) (he : P.underlying e = some (.int .i64)) (hc : P.cellsOf e = 1)
    (hl : l.length = n) (hm : m.length = n) (hx : ev σ x = some (.agg (ints l).toArray)) (hy : ev σ y = some (.agg (ints m).toArray)) (hN : Nat.blt d X.N = true) (hg : Gok all σ g)
    (kk : WL P X bad all K Q os ((d, .bool (l == m)) :: σ) μ Ds) : WL P X bad all K Q ((fl, ix) :: os) σ μ Ds :=
  L.eqlX ho (fun w => by
    have hgd : (eqGuard .eql t x y (.agg (ints l).toArray) (.agg (ints m).toArray)).run P w = .ok () w := by
      simp only [eqGuard, program]
      simp [Sem.run, hgt, go_sem]
    have heq : (Op.equal t (.agg (ints l).toArray) (.agg (ints m).toArray)).run P w = .ok (l == m) w := by
      obtain ⟨i, hi⟩ := info_of_underlying he
      have h := run_equalIn_array (P := P) w 9999 (ints l).toArray (ints m).toArray ht hi
      rw [hc, run_eqItems_ints 9998 he l m w (List.range n) (fun j hj => by have := List.mem_range.1 hj; omega), all_range_eq hl hm] at h
      exact h
    rw [Sem.run_bind, hgd]
    show ((do Pure.pure (Value.bool (← Op.equal t (.agg (ints l).toArray) (.agg (ints m).toArray)))) : Sem Value).run P w = _
    rw [Sem.run_bind, heq]; rfl) hx hy hN hg kk
/-! ### Maps -/
def K2 (P : Program) (k : TypeId) : Prop := P.underlying k = some (.struct (P.fieldsOf k)) ∧ P.stoodInHeld k = false ∧
  (P.fieldsOf k).toList.map (fun f => (f.name == "_", f.offset, P.underlying f.type)) = [(false, 0, some (.int .i64)), (false, 1, some (.int .i64))]
def k2V (k : Int × Int) : Value := .agg #[.int .i64 k.1, .int .i64 k.2]
theorem K2.fields {k : TypeId} (h : K2 P k) : ∃ f0 f1, P.underlying k = some (.struct #[f0, f1]) ∧ P.fieldsOf k = #[f0, f1] ∧ f0.name ≠ "_" ∧ f1.name ≠ "_" ∧ f0.offset = 0 ∧ f1.offset = 1 ∧ P.underlying f0.type = some (.int .i64) ∧ P.underlying f1.type = some (.int .i64) := by
  obtain ⟨h1, h2, h3⟩ := h
  generalize hl : (P.fieldsOf k).toList = fs at h3
  have h0 := congrArg List.length h3
  simp only [List.length_map, List.length_cons, List.length_nil] at h0
  rcases fs with _ | ⟨f0, _ | ⟨f1, _ | ⟨f2, fs⟩⟩⟩ <;> simp only [List.length_cons, List.length_nil] at h0 <;> try omega
  have he : P.fieldsOf k = #[f0, f1] := by rw [← Array.toArray_toList (xs := P.fieldsOf k), hl]
  simp only [List.map_cons, List.map_nil, List.cons.injEq, Prod.mk.injEq, and_true, beq_eq_false_iff_ne] at h3
  exact ⟨f0, f1, by rw [h1, he], he, h3.1.1, h3.2.1, h3.1.2.1, h3.2.2.1, h3.1.2.2, h3.2.2.2⟩
theorem run_equal_k2 {k : TypeId} (h : K2 P k) (a b : Int × Int) (w : World) : (Op.equal k (k2V a) (k2V b)).run P w = .ok (a == b) w := by
  obtain ⟨a1, a2⟩ := a
  obtain ⟨b1, b2⟩ := b
  obtain ⟨f0, f1, hu, hf, n0, n1, o0, o1, t0, t1⟩ := h.fields
  have he := run_equalIn_struct (P := P) w 9999 k #[.int .i64 a1, .int .i64 a2] #[.int .i64 b1, .int .i64 b2] h.1 h.2.1
  show (Op.equalIn (9999 + 1) k (.agg #[.int .i64 a1, .int .i64 a2]) (.agg #[.int .i64 b1, .int .i64 b2])).run P w = _
  rw [he, hf]
  have p0 : ∀ c1 c2 : Int, (part f0.type #[.int .i64 c1, .int .i64 c2] f0.offset).run P w = .ok (.int .i64 c1) w := fun c1 c2 => run_part_int t0 (by rw [o0]; rfl) w
  have p1 : ∀ c1 c2 : Int, (part f1.type #[.int .i64 c1, .int .i64 c2] f1.offset).run P w = .ok (.int .i64 c2) w := fun c1 c2 => run_part_int t1 (by rw [o1]; rfl) w
  have e0 := run_equalIn_int w 9998 f0.type .i64 .i64 a1 b1 t0
  have e1 := run_equalIn_int w 9998 f1.type .i64 .i64 a2 b2 t1
  have s1 : (Op.eqFields 9999 #[.int .i64 a1, .int .i64 a2] #[.int .i64 b1, .int .i64 b2] [f1]).run P w = .ok (a2 == b2) w := by
    simp only [Op.eqFields, n1, ne_eq, not_false_eq_true, if_true, Sem.run_bind, p1, Result.andThen_ok]
    rw [e1]
    simp only [Result.andThen_ok]
    cases a2 == b2 <;> rfl
  show (Op.eqFields 9999 #[.int .i64 a1, .int .i64 a2] #[.int .i64 b1, .int .i64 b2] (f0 :: [f1])).run P w = _
  rw [Op.eqFields, if_pos n0]
  simp only [Sem.run_bind, p0, Result.andThen_ok]
  rw [e0]
  simp only [Result.andThen_ok]
  by_cases hab : a1 = b1
  · subst hab
    simp only [beq_self_eq_true, Bool.not_true, Bool.false_eq_true, if_false]
    rw [s1]
    have : (a2 == b2) = ((a1, a2) == (a1, b2)) := by rw [Bool.eq_iff_iff]; simp
    rw [this]
  · have hb : (a1 == b1) = false := by simpa using hab
    simp only [hb, Bool.not_false, if_true, Sem.run_pure]
    simp [hab]
/-- Two structs of two numbers are compared. -/
theorem L.eqlK {t t' : TypeId} {a b : Int × Int} (ho : all[ix]? = some ⟨some d, .binOp .eql t x y t', ty, pos, aft, g⟩) (hgt : P.eqGuardType P.depth t = false) (ht : K2 P t) (hx : ev σ x = some (k2V a)) (hy : ev σ y = some (k2V b)) (hN : Nat.blt d X.N = true) (hg : Gok all σ g)
    (kk : WL P X bad all K Q os ((d, .bool (a == b)) :: σ) μ Ds) : WL P X bad all K Q ((fl, ix) :: os) σ μ Ds :=
  L.eqlX ho (fun w => by
    have hgd : (eqGuard .eql t x y (k2V a) (k2V b)).run P w = .ok () w := by
      simp only [eqGuard, k2V, program]
      simp [Sem.run, hgt, go_sem]
    rw [Sem.run_bind, hgd]
    show ((do Pure.pure (Value.bool (← Op.equal t (k2V a) (k2V b)))) : Sem Value).run P w = _
    rw [Sem.run_bind, run_equal_k2 ht]; rfl) hx hy hN hg kk
/-- A conversion of a number to another kind, in which it fits. -/
theorem L.convI {k k' : IntKind} {s t : TypeId} {u' : TypeDesc} {n : Int} (ho : all[ix]? = some ⟨some d, .convert s t x, ty, pos, aft, g⟩) (hs : P.underlying s = some u') (ht : P.underlying t = some (.int k')) (hx : ev σ x = some (.int k n)) (hn : inK k' n) (hN : Nat.blt d X.N = true) (hg : Gok all σ g)
    (kk : WL P X bad all K Q os ((d, .int k' n) :: σ) μ Ds) : WL P X bad all K Q ((fl, ix) :: os) σ μ Ds :=
  L.convert ho (fun w => by
    simp only [Go.convert, Sem.run_bind, TU.of hs w, TU.of ht w, Result.andThen_ok, Conv.intToInt, wrap_in hn]
    rfl) hx hN hg kk
theorem Acc.shape {e : TypeId} {sz n : Nat} {cells : List Value} {ν : Boxes} (h : Acc e sz v n cells ν) : ∃ a cap, v = .slice a n cap := by
  rcases h with ⟨a, hv, hn, _, _⟩ | ⟨b, cap, junk, hv, _⟩
  · exact ⟨a, 0, by rw [hv, hn]⟩
  · exact ⟨_, cap, hv⟩
theorem Sl.shape {α : Type} {R : Rd α} {D : Data} {sz : Nat} {xs : List α} (h : Sl D R sz v xs) : ∃ a cap, v = .slice a xs.length cap := by
  obtain ⟨a, cap, hv, _⟩ := h; exact ⟨a, cap, hv⟩
theorem L.makeMap {t : TypeId} (ho : all[ix]? = some ⟨some d, .makeMap t none, ty, pos, aft, g⟩) (hN : Nat.blt d X.N = true) (hg : Gok all σ g)
    (kk : ∀ b, WL P X bad all K Q os ((d, .map (some b)) :: σ) ((b, .map #[] 0) :: μ) Ds) : WL P X bad all K Q ((fl, ix) :: os) σ μ Ds := by
  refine L.loud ho rfl rfl hg fun a w hh => ?_
  obtain ⟨h1, h2, h3, D, h4, h5, h6⟩ := id hh
  have : (execOp a.eval ⟨some d, .makeMap t none, ty, pos, aft, g⟩).run P w = .ok (.value (.map (some w.heap.size))) { w with heap := w.heap.push (.map #[] 0) } := rfl
  rw [this]
  exact ⟨fun _ => keep_push _ _ _, kk _ _ _ (Hl.put ⟨h1, h2, h3, D, h4.push _ (show unfrozen (.map #[] 0) from trivial), h5, h6.step (fun _ p hp => by rcases List.mem_cons.1 hp with rfl | hp; exact Or.inr (Nat.le_refl _); exact Or.inl (List.mem_map.2 ⟨p, hp, rfl⟩)) (fun _ => low_push _ _) (h4.push _ (show unfrozen (.map #[] 0) from trivial)).dom⟩ hN _)⟩
theorem run_getObj {w : World} {r : Nat} {es : Array MapEntry} {clock : Nat} (h : w.heap[r]? = some (.map es clock)) : (getObj r).run P w = .ok (.map es clock) w := by
  simp [getObj, Sem.run, h]
/-! ### Bits -/
theorem L.shl {t t' : TypeId} {m n : Int} {k : IntKind} (ho : all[ix]? = some ⟨some d, .binOp .shl t x y t', ty, pos, aft, g⟩) (hx : ev σ x = some (.int .i64 m)) (hy : ev σ y = some (.int k n)) (h0 : 0 ≤ n) (h1 : n < 64) (hr : inK .i64 (m * 2 ^ n.toNat)) (hN : Nat.blt d X.N = true) (hg : Gok all σ g)
    (kk : WL P X bad all K Q os ((d, .int .i64 (m * 2 ^ n.toNat)) :: σ) μ Ds) : WL P X bad all K Q ((fl, ix) :: os) σ μ Ds :=
  L.pure ho rfl rfl hN hg (fun ρ hρ w' => by
    have hn : min n.toNat IntKind.i64.bits = n.toNat := by have : IntKind.i64.bits = 64 := rfl; omega
    have h0' : ¬ n < 0 := by omega
    have hs : (binOp .shl t (.int .i64 m) (.int k n)).run P w' = .ok (.int .i64 (m * 2 ^ n.toNat)) w' := by
      show (Op.shift .shl .i64 m k n).run P w' = _
      unfold Op.shift
      rw [if_neg h0']
      simp only [hn, wrap_in hr, Sem.run_pure]
    have hg : ∀ w, (eqGuard .shl t x y (.int .i64 m) (.int k n)).run P w = .ok () w := fun w => rfl
    simp only [execOp, hρ x _ hx, hρ y _ hy, Sem.run_bind, hg, Result.andThen_ok, hs, Sem.run_pure]) kk
/-! ### Calls that change one of the caller's blocks -/
theorem L.shl1 {t t' : TypeId} {n : Nat} (ho : all[ix]? = some ⟨some d, .binOp .shl t x y t', ty, pos, aft, g⟩) (hx : ev σ x = some (.int .i64 1)) (hy : ev σ y = some (.int .i64 (n : Int))) (h1 : n < 62) (hN : Nat.blt d X.N = true) (hg : Gok all σ g)
    (kk : WL P X bad all K Q os ((d, .int .i64 ((2 ^ n : Nat) : Int)) :: σ) μ Ds) : WL P X bad all K Q ((fl, ix) :: os) σ μ Ds := by
  have h2 : (2 : Nat) ^ n < 2 ^ 62 := Nat.pow_lt_pow_right (by omega) h1
  have e : (1 : Int) * 2 ^ (n : Int).toNat = ((2 ^ n : Nat) : Int) := by simp
  have hr : inK .i64 ((1 : Int) * 2 ^ (n : Int).toNat) := by
    rw [e]; generalize (2 : Nat) ^ n = q at h2; simp only [inK]; omega
  refine L.shl ho hx hy (by omega) (by omega) hr hN hg ?_
  rw [e]; exact kk
end Go.Fs
namespace Go.Fs
open Go.ChangeShapes Go.WideShapes Go.RowKit
/-- All cells of all blocks. -/
def full (W : World) : Data := fun b => match W.heap[b]? with
  | some (.cells cs _ _) => cs.toList
  | _ => []
theorem full_agrees (W : World) : Agrees (full W) W := by
  intro b hb
  unfold full at hb ⊢
  split at hb
  · rename_i cs e fz h
    exact ⟨cs, e, fz, h, List.prefix_refl _⟩
  · exact absurd rfl hb
theorem full_cell {W : World} {b i : Nat} {v : Value} (h : W.cell? ⟨b, i, none⟩ = some v) : (full W b)[i]? = some v := by
  unfold World.cell? at h
  unfold full
  split at h
  · rename_i cs e fz hb
    simp only at hb
    rw [hb]
    simpa using h
  · cases h
/-- Everything is as it was; what is new is not kept from being written. -/
structure Kept (W W' : World) : Prop where
  env : wenv W' = wenv W
  size : W.heap.size ≤ W'.heap.size
  old : ∀ b, b < W.heap.size → W'.heap[b]? = W.heap[b]?
  fz : ∀ b o, W.heap.size ≤ b → W'.heap[b]? = some o → unfrozen o
theorem Kept.but {W W' : World} (h : Kept W W') (may : MemPlace → Prop) : W.keptBut W' may := by
  refine ⟨congrArg Prod.fst h.env, congrArg Prod.snd h.env, fun i hi => ?_⟩
  rw [h.old i hi]
  cases W.heap[i]? with
  | none => rfl
  | some o => cases o <;> first | exact ⟨rfl, rfl, rfl, fun _ _ => rfl⟩ | exact Or.inr ⟨rfl, rfl⟩ | rfl
theorem Kept.frozen {W W' : World} (h : Kept W W') (a : Addr) : W'.frozen? a = W.frozen? a := by
  unfold World.frozen?
  rcases Nat.lt_or_ge a.block W.heap.size with hl | hl
  · rw [h.old _ hl]
  · have hn : W.heap[a.block]? = none := Array.getElem?_eq_none hl
    rw [hn]
    cases ho : W'.heap[a.block]? with
    | none => rfl
    | some o =>
      have := h.fz _ o hl ho
      cases o with
      | cells cs e z =>
        simp only [unfrozen] at this
        subst this
        simp
      | _ => rfl
theorem Kept.same {W W' : World} (h : Kept W W') {p : MemPlace} (hp : p.block < W.heap.size) : W.sameAt W' p := by
  cases p with
  | cell b off =>
    simp only [World.sameAt, World.cell?]
    rw [h.old b hp]
  | map b => exact h.old b hp
theorem Fn.calls {P : Program} {f : FuncId} {args : Array Value} {D : Data} {post : Data → Value → Prop} (h : Fn P f args D post) {W : World} (hD : Agrees D W) :
    Calls P f args W fun e W' => ∃ v D', e = .returned v ∧ post D' v ∧ Kept W W' :=
  (h.2 W hD).mono (by
    rintro e W' ⟨v, D', he, hs, hp⟩
    exact ⟨v, D', he, hp, hs.env _ rfl, hs.size, fun b hb => hs.old b hb (by simp), fun b o hb ho => hs.fz b o (Or.inl hb) ho⟩)
section
variable {H : Type} {enc : TypeId × Value → H} {P : Program}
theorem trodAll_stays (hl : laidOutB P = true) {W W' : World} {sp : Nat → Bool} : ∀ (ts : List TypeId) (vs : List Value) (ds : List (DataW H)) (ps : List MemPlace), (∀ t ∈ ts, P.readableRec t = true ∧ t < P.types.size) →
    DataW.TrodAll enc P W 0 (fun _ => true) true ts vs ds ps → (∀ p ∈ ps, W.sameAt W' p) → (∀ p ∈ ps, sp p.block = true) → DataW.TrodAll enc P W' 0 sp true ts vs ds ps
  | [], vs, ds, ps, _, h, _, _ => by
    obtain ⟨rfl, rfl, rfl⟩ := trodAll_nil h
    exact trodAll_mk0
  | t :: ts, vs, ds, ps, hr, h, hsame, hs => by
    obtain ⟨v, vs', d, ds', p, q, rfl, rfl, rfl, h1, h2⟩ := trodAll_cons h
    exact trodAll_cons_mk (WideElems.Trod_stays hl (hr t List.mem_cons_self).1 (hr t List.mem_cons_self).2 h1 (fun x hx => hsame x (List.mem_append_left _ hx)) (fun x hx => hs x (List.mem_append_left _ hx)))
      (trodAll_stays hl ts vs' ds' q (fun u hu => hr u (List.mem_cons_of_mem _ hu)) h2 (fun x hx => hsame x (List.mem_append_right _ hx)) (fun x hx => hs x (List.mem_append_right _ hx)))
theorem law_post {f : Func} {s : ChangeSpec} {tb : TypeId} {W W' : World} {args : Array Value} {ds gs : List (DataW H)} {before : List MemPlace} (hl : laidOutB P = true) (hp : (f.params.toList.all fun t => P.readableRec t && decide (t < P.types.size)) = true) (hvars : s.vars = [])
    (hres : f.resultTypes = #[tb]) (htb : P.underlying tb = some .bool) (hW : DataW.Whole enc P f.params.toList s.vars false W args.toList ds gs before) (hs : s.fn H (ds ++ gs) = { results := [.lit (.bool true)], args := ds }) (hk : Kept W W') :
    s.post enc P f false true false false W args (.bool true) W' := by
  have hlt := hW.lt
  have hW' := hW
  obtain ⟨p, q, hA, hV, rfl, hfz, hnd⟩ := hW'
  rw [hvars] at hV
  obtain ⟨_, rfl⟩ := trodVars_none hV
  refine post_of_same (pa := p) (pv := []) hW (fun b sp hd => ?_) (fun sp hsp => ?_) (fun sp _ => ?_) rfl (hk.but _) hk.frozen (ok_one hres rfl (okWide_bool_mk htb true))
  · rw [hs, hres]
    exact trodAll_mk1 (shut_bool htb true)
  · rw [hs]
    refine trodAll_stays hl _ _ _ _ (fun t ht => ?_) hA (fun x hx => hk.same (hlt x (List.mem_append_left _ hx))) (fun x hx => hsp x (List.mem_append_left _ hx))
    have := List.all_eq_true.1 hp t ht
    simpa using this
  · rw [hs, hvars]; rfl
/-! ### How an argument reads -/
/-- Whatever reads as a value of type t reads so. -/
def Reads (P : Program) (t : TypeId) {α : Type} (R : Rd α) : Prop := ∀ {H : Type} (enc : TypeId × Value → H) (W : World) (n : Nat) (cs : List Value) (x : DataW H × List MemPlace), DataW.trod enc P W 0 (fun _ => true) true n t cs = some x → ∃ a, R (full W) a cs
theorem inK_of_wf {k : IntKind} {n : Int} (h : (Lit.int k n).wf = true) : inK k n := by
  cases k <;> simpa [Lit.wf, IntKind.min, IntKind.max, IntKind.signed, IntKind.bits, inK] using h
/-- A slice in a cell. -/
def RSl {α : Type} (R : Rd α) (sz : Nat) : Rd (List α) := fun D xs cs => ∃ v, cs = [v] ∧ Sl D R sz v xs
theorem Reads.slice {t e : TypeId} {sz : Nat} {α : Type} {R : Rd α} (ht : P.underlying t = some (.slice e)) (hc : P.cellsOf e = sz) (hpos : 0 < sz) (hel : Reads P e R) : Reads P t (RSl R sz) := fun {H} enc W fuel cs x hx => by
  rcases DataW.trod_slice ht hx with ⟨rfl, _⟩ | ⟨a, len, cap, elems, rest, n, _, rfl, _, _, hl, hm, hlen, hel', _, _⟩
  · exact ⟨[], _, rfl, Sl.nil⟩
  have hm' : cap ≤ 9223372036854775807 := by simpa [maxLen] using hm
  have key : ∀ i, i < len → ∃ cs, (∃ y, R (full W) y cs) ∧ cs.length = sz ∧ ∀ j, j < sz → W.cell? ((a.add (i * sz)).add j) = cs[j]? := by
    intro i hi
    have h1 := hel' i hi
    rw [List.getElem?_eq_getElem (by omega), hc] at h1
    simp only [Option.bind_eq_some_iff] at h1
    obtain ⟨cs, h2, h3⟩ := h1
    obtain ⟨_, h4, h5⟩ := World.cells?_some h2
    exact ⟨cs, hel enc W n cs _ h3, h4, h5⟩
  by_cases h0 : len = 0
  · subst h0
    exact ⟨[], _, rfl, some a, cap, rfl, Nat.zero_le _, by simp, Or.inl rfl⟩
  have hspot : a = ⟨a.block, a.off, none⟩ := by
    obtain ⟨cs, _, h2, h3⟩ := key 0 (by omega)
    have h4 := h3 0 hpos
    rw [Nat.zero_mul] at h4
    simp only [Addr.add, if_true] at h4
    rw [List.getElem?_eq_getElem (show 0 < cs.length by omega)] at h4
    unfold World.cell? at h4
    split at h4
    · split at h4
      · cases h4
      · rename_i hs
        obtain ⟨b, o, s⟩ := a
        cases s with
        | none => rfl
        | some => simp at hs
    · cases h4
  have pick : ∃ ys : List α, ys.length = len ∧ ∀ i y, ys[i]? = some y → ∃ cs, R (full W) y cs ∧ cs.length = sz ∧ ∀ j, j < sz → W.cell? ((a.add (i * sz)).add j) = cs[j]? := by
    refine ⟨List.ofFn fun i : Fin len => (key i.1 i.2).choose_spec.1.choose, by simp, fun i y hy => ?_⟩
    rw [List.getElem?_ofFn] at hy
    split at hy
    · rename_i hi
      cases hy
      exact ⟨_, (key i hi).choose_spec.1.choose_spec, (key i hi).choose_spec.2.1, (key i hi).choose_spec.2.2⟩
    · cases hy
  obtain ⟨ys, hys, hy⟩ := pick
  refine ⟨ys, _, rfl, some a, cap, by rw [hys], by omega, by omega, Or.inr ⟨a.block, a.off, by rw [← hspot], fun i y hi => ?_⟩⟩
  obtain ⟨cs, h1, h2, h3⟩ := hy i y hi
  refine ⟨cs, h1, h2, fun j v hj => ?_⟩
  have hjl := (List.getElem?_eq_some_iff.1 hj).1
  have h4 := h3 j (by omega)
  rw [hj, hspot, add_plain, add_plain] at h4
  exact full_cell h4
/-- A struct's parts, each of one cell. -/
theorem trod_parts {t : TypeId} {fs : Array Field} {W : World} {n : Nat} {cs : List Value} {x : DataW H × List MemPlace} {k : Nat} (ht : P.underlying t = some (.struct fs)) (hk : P.cellsOf t = k) (h : DataW.trod enc P W 0 (fun _ => true) true n t cs = some x) :
    cs.length = k ∧ ∀ (i o u : Nat) (c : Value), (fs[i]?).map (fun f => (f.offset, f.type)) = some (o, u) → P.cellsOf u = 1 → cs[o]? = some c → ∃ m y, DataW.trod enc P W 0 (fun _ => true) true m u [c] = some y := by
  obtain ⟨xs, m, _, _, hlen, hsz, hf⟩ := DataW.trod_struct ht h
  refine ⟨hlen.trans hk, fun i o u c hi hu hc => ?_⟩
  rw [Option.map_eq_some_iff] at hi
  obtain ⟨f, hi, he⟩ := hi
  simp only [Prod.mk.injEq] at he
  obtain ⟨rfl, rfl⟩ := he
  have h1 := hf i f hi
  have hl : i < xs.length := by rw [hsz]; exact (Array.getElem?_eq_some_iff.1 hi).1
  rw [List.getElem?_eq_getElem hl, hu] at h1
  have hol := (List.getElem?_eq_some_iff.1 hc).1
  rw [List.getElem?_eq_getElem hol] at hc
  rw [List.drop_eq_getElem_cons hol, Option.some.inj hc] at h1
  exact ⟨m, _, h1⟩
theorem list3 {α : Type} {l : List α} (h : l.length = 3) : ∃ a b c, l = [a, b, c] := by
  match l, h with
  | [a, b, c], _ => exact ⟨a, b, c, rfl⟩
theorem open_struct {t : TypeId} {fs : Array Field} {W : World} {r : Reach} {b0 : Nat} {v : Value} {d : DataW H} {ps : List MemPlace} {k : Nat} (ht : P.underlying t = some (.struct fs)) (hk : P.cellsOf t = k) (hval : Value.okWide P W r b0 t v) (hd : DataW.Trod enc P W 0 (fun _ => true) true t v d ps) :
    ∃ cs : Array Value, v = .agg cs ∧ cs.size = k ∧ ∃ n x, DataW.trod enc P W 0 (fun _ => true) true n t cs.toList = some x := by
  obtain ⟨cs, rfl, hsz⟩ := okWide_struct ht hval
  obtain ⟨fuel, hf⟩ := hd
  exact ⟨cs, rfl, hsz.trans hk, fuel, _, hf⟩
end
end Go.Fs
namespace Go.Fs
open Go.Proofs
namespace Tf
theorem follows : Try.prog.follows .mixedOrders = true := by kernel_rfl
theorem a3 : TA Try.prog 3 false := TA.of Try.underlying3 _ rfl
theorem s3 : TS Try.prog 3 1 := TS.of (by kernel_rfl)
theorem z3 : TZ Try.prog 3 (.int .i64 0) := TZ.of (by kernel_rfl)
theorem i3 : (Try.prog.info? 3).map (fun i => Nat.ble 1 i.bytes && Nat.ble i.bytes 4096) = some true := by kernel_rfl
theorem a22 : TA Try.prog 22 false := TA.of Try.underlying22 _ rfl
theorem s22 : TS Try.prog 22 1 := TS.of (by kernel_rfl)
theorem a23 : TA Try.prog 23 false := TA.of Try.underlying23 _ rfl
theorem s23 : TS Try.prog 23 1 := TS.of (by kernel_rfl)
theorem a25 : TA Try.prog 25 true := TA.of Try.underlying25 _ rfl
theorem s25 : TS Try.prog 25 3 := TS.of (by kernel_rfl)
theorem z25 : TZ Try.prog 25 (.agg #[.slice none 0 0, .int .i64 0, .slice none 0 0]) := TZ.of (by kernel_rfl)
theorem f25_0 : TF Try.prog 25 0 0 := TF.of Try.underlying25 rfl s22 rfl
theorem f25_1 : TF Try.prog 25 1 1 := TF.of Try.underlying25 rfl s3 rfl
theorem f25_2 : TF Try.prog 25 2 2 := TF.of Try.underlying25 rfl s23 rfl
theorem a30 : TA Try.prog 30 false := TA.of Try.underlying30 _ rfl
theorem s30 : TS Try.prog 30 1 := TS.of (by kernel_rfl)
theorem z30 : TZ Try.prog 30 (.slice none 0 0) := TZ.of (by kernel_rfl)
theorem a34 : TA Try.prog 34 false := TA.of Try.underlying34 _ rfl
theorem s34 : TS Try.prog 34 1 := TS.of (by kernel_rfl)
theorem a35 : TA Try.prog 35 false := TA.of Try.underlying35 _ rfl
theorem s35 : TS Try.prog 35 1 := TS.of (by kernel_rfl)
theorem a37 : TA Try.prog 37 true := TA.of Try.underlying37 _ rfl
theorem s37 : TS Try.prog 37 3 := TS.of (by kernel_rfl)
theorem z37 : TZ Try.prog 37 (.agg #[.slice none 0 0, .int .i64 0, .slice none 0 0]) := TZ.of (by kernel_rfl)
theorem p37 : TP Try.prog 37 [(0, 1), (1, 1), (2, 1)] := TP.of Try.underlying37 (by kernel_rfl) (by kernel_rfl)
theorem f37_0 : TF Try.prog 37 0 0 := TF.of Try.underlying37 rfl s34 rfl
theorem f37_1 : TF Try.prog 37 1 1 := TF.of Try.underlying37 rfl s3 rfl
theorem f37_2 : TF Try.prog 37 2 2 := TF.of Try.underlying37 rfl s35 rfl
theorem a39 : TA Try.prog 39 false := TA.of Try.underlying39 _ rfl
theorem s39 : TS Try.prog 39 1 := TS.of (by kernel_rfl)
theorem z39 : TZ Try.prog 39 (.slice none 0 0) := TZ.of (by kernel_rfl)
theorem a52 : TA Try.prog 52 false := TA.of Try.underlying52 _ rfl
theorem s52 : TS Try.prog 52 1 := TS.of (by kernel_rfl)
theorem z52 : TZ Try.prog 52 (.slice none 0 0) := TZ.of (by kernel_rfl)
theorem a61 : TA Try.prog 61 true := TA.of Try.underlying61 _ rfl
theorem s61 : TS Try.prog 61 2 := TS.of (by kernel_rfl)
theorem z61 : TZ Try.prog 61 (.agg #[.int .i64 0, .int .i64 0]) := TZ.of (by kernel_rfl)
theorem i61 : (Try.prog.info? 61).map (fun i => Nat.ble 1 i.bytes && Nat.ble i.bytes 4096) = some true := by kernel_rfl
theorem p61 : TP Try.prog 61 [(0, 1), (1, 1)] := TP.of Try.underlying61 (by kernel_rfl) (by kernel_rfl)
theorem f61_0 : TF Try.prog 61 0 0 := TF.of Try.underlying61 rfl s3 rfl
theorem f61_1 : TF Try.prog 61 1 1 := TF.of Try.underlying61 rfl s3 rfl
theorem a67 : TA Try.prog 67 true := TA.of Try.underlying67 _ rfl
theorem s67 : TS Try.prog 67 2 := TS.of (by kernel_rfl)
theorem z67 : TZ Try.prog 67 (.agg #[.int .i64 0, .int .i64 0]) := TZ.of (by kernel_rfl)
theorem f67_0 : TF Try.prog 67 0 0 := TF.of Try.underlying67 rfl s3 rfl
theorem f67_1 : TF Try.prog 67 1 1 := TF.of Try.underlying67 rfl s3 rfl
theorem a91 : TA Try.prog 91 true := TA.of Try.underlying91 _ rfl
theorem s91 : TS Try.prog 91 3 := TS.of (by kernel_rfl)
theorem z91 : TZ Try.prog 91 (.agg #[.int .i64 0, .int .i64 0, .int .i64 0]) := TZ.of (by kernel_rfl)
theorem i91 : (Try.prog.info? 91).map (fun i => Nat.ble 1 i.bytes && Nat.ble i.bytes 4096) = some true := by kernel_rfl
theorem a94 : TA Try.prog 94 true := TA.of Try.underlying94 _ rfl
theorem s94 : TS Try.prog 94 4 := TS.of (by kernel_rfl)
theorem z94 : TZ Try.prog 94 (.agg #[.int .i64 0, .int .i64 0, .int .i64 0, .int .i64 0]) := TZ.of (by kernel_rfl)
theorem i94 : (Try.prog.info? 94).map (fun i => Nat.ble 1 i.bytes && Nat.ble i.bytes 4096) = some true := by kernel_rfl
theorem f94_0 : TF Try.prog 94 0 0 := TF.of Try.underlying94 rfl s3 rfl
theorem f94_1 : TF Try.prog 94 1 1 := TF.of Try.underlying94 rfl s91 rfl
theorem a111 : TA Try.prog 111 true := TA.of Try.underlying111 _ rfl
theorem s111 : TS Try.prog 111 2 := TS.of (by kernel_rfl)
theorem z111 : TZ Try.prog 111 (.agg #[.int .i64 0, .int .i64 0]) := TZ.of (by kernel_rfl)
theorem i111 : (Try.prog.info? 111).map (fun i => Nat.ble 1 i.bytes && Nat.ble i.bytes 4096) = some true := by kernel_rfl
theorem p111 : TP Try.prog 111 [(0, 1), (1, 1)] := TP.of Try.underlying111 (by kernel_rfl) (by kernel_rfl)
theorem f111_0 : TF Try.prog 111 0 0 := TF.of Try.underlying111 rfl s3 rfl
theorem f111_1 : TF Try.prog 111 1 1 := TF.of Try.underlying111 rfl s3 rfl
theorem a113 : TA Try.prog 113 true := TA.of Try.underlying113 _ rfl
theorem s113 : TS Try.prog 113 3 := TS.of (by kernel_rfl)
theorem z113 : TZ Try.prog 113 (.agg #[.int .i64 0, .int .i64 0, .int .i64 0]) := TZ.of (by kernel_rfl)
theorem i113 : (Try.prog.info? 113).map (fun i => Nat.ble 1 i.bytes && Nat.ble i.bytes 4096) = some true := by kernel_rfl
theorem a115 : TA Try.prog 115 true := TA.of Try.underlying115 _ rfl
theorem s115 : TS Try.prog 115 4 := TS.of (by kernel_rfl)
theorem z115 : TZ Try.prog 115 (.agg #[.int .i64 0, .int .i64 0, .int .i64 0, .int .i64 0]) := TZ.of (by kernel_rfl)
theorem i115 : (Try.prog.info? 115).map (fun i => Nat.ble 1 i.bytes && Nat.ble i.bytes 4096) = some true := by kernel_rfl
theorem p115 : TP Try.prog 115 [(0, 1), (1, 3)] := TP.of Try.underlying115 (by kernel_rfl) (by kernel_rfl)
theorem f115_0 : TF Try.prog 115 0 0 := TF.of Try.underlying115 rfl s3 rfl
theorem f115_1 : TF Try.prog 115 1 1 := TF.of Try.underlying115 rfl s113 rfl
theorem a120 : TA Try.prog 120 false := TA.of Try.underlying120 _ rfl
theorem s120 : TS Try.prog 120 1 := TS.of (by kernel_rfl)
theorem z120 : TZ Try.prog 120 (.pointer none) := TZ.of (by kernel_rfl)
theorem a124 : TA Try.prog 124 true := TA.of Try.underlying124 _ rfl
theorem s124 : TS Try.prog 124 7 := TS.of (by kernel_rfl)
theorem a126 : TA Try.prog 126 true := TA.of Try.underlying126 _ rfl
theorem s126 : TS Try.prog 126 9 := TS.of (by kernel_rfl)
theorem z126 : TZ Try.prog 126 (.agg #[.int .i64 0, .int .i64 0, .int .i64 0, .int .i64 0, .int .i64 0, .int .i64 0, .int .i64 0, .int .i64 0, .int .i64 0]) := TZ.of (by kernel_rfl)
theorem i126 : (Try.prog.info? 126).map (fun i => Nat.ble 1 i.bytes && Nat.ble i.bytes 4096) = some true := by kernel_rfl
theorem f126_0 : TF Try.prog 126 0 0 := TF.of Try.underlying126 rfl s3 rfl
theorem f126_1 : TF Try.prog 126 1 1 := TF.of Try.underlying126 rfl s3 rfl
theorem f126_2 : TF Try.prog 126 2 2 := TF.of Try.underlying126 rfl s124 rfl
theorem a135 : TA Try.prog 135 false := TA.of Try.underlying135 _ rfl
theorem s135 : TS Try.prog 135 1 := TS.of (by kernel_rfl)
theorem z135 : TZ Try.prog 135 (.slice none 0 0) := TZ.of (by kernel_rfl)
theorem a138 : TA Try.prog 138 false := TA.of Try.underlying138 _ rfl
theorem s138 : TS Try.prog 138 1 := TS.of (by kernel_rfl)
theorem s141 : TS Try.prog 141 1 := TS.of (by kernel_rfl)
theorem z141 : TZ Try.prog 141 (.agg #[.nilFunc]) := TZ.of (by kernel_rfl)
theorem p141 : TP Try.prog 141 [(0, 1)] := TP.of Try.underlying141 (by kernel_rfl) (by kernel_rfl)
theorem f141_0 : TF Try.prog 141 0 0 := TF.of Try.underlying141 rfl s138 rfl
theorem a142 : TA Try.prog 142 false := TA.of Try.underlying142 _ rfl
theorem s142 : TS Try.prog 142 1 := TS.of (by kernel_rfl)
theorem z142 : TZ Try.prog 142 (.nilFunc) := TZ.of (by kernel_rfl)
theorem a146 : TA Try.prog 146 false := TA.of Try.underlying146 _ rfl
theorem s146 : TS Try.prog 146 1 := TS.of (by kernel_rfl)
theorem z148 : TZ Try.prog 148 (.agg #[.slice none 0 0, .int .i64 0, .slice none 0 0, .map none]) := TZ.of (by kernel_rfl)
theorem p148 : TP Try.prog 148 [(0, 3), (3, 1)] := TP.of Try.underlying148 (by kernel_rfl) (by kernel_rfl)
theorem f148_0 : TF Try.prog 148 0 0 := TF.of Try.underlying148 rfl s37 rfl
theorem f148_1 : TF Try.prog 148 1 3 := TF.of Try.underlying148 rfl s146 rfl
theorem a150 : TA Try.prog 150 false := TA.of Try.underlying150 _ rfl
theorem s150 : TS Try.prog 150 1 := TS.of (by kernel_rfl)
theorem z150 : TZ Try.prog 150 (.nilFunc) := TZ.of (by kernel_rfl)
theorem a153 : TA Try.prog 153 false := TA.of Try.underlying153 _ rfl
theorem a156 : TA Try.prog 156 false := TA.of Try.underlying156 _ rfl
theorem a158 : TA Try.prog 158 false := TA.of Try.underlying158 _ rfl
theorem a162 : TA Try.prog 162 true := TA.of Try.underlying162 _ rfl
theorem s162 : TS Try.prog 162 8 := TS.of (by kernel_rfl)
theorem z162 : TZ Try.prog 162 (.agg #[.int .i64 0, .int .i64 0, .int .i64 0, .int .i64 0, .int .i64 0, .int .i64 0, .int .i64 0, .int .i64 0]) := TZ.of (by kernel_rfl)
theorem p162 : TP Try.prog 162 [(0, 1), (1, 7)] := TP.of Try.underlying162 (by kernel_rfl) (by kernel_rfl)
theorem f162_0 : TF Try.prog 162 0 0 := TF.of Try.underlying162 rfl s3 rfl
theorem f162_1 : TF Try.prog 162 1 1 := TF.of Try.underlying162 rfl s124 rfl
theorem a170 : TA Try.prog 170 false := TA.of Try.underlying170 _ rfl
theorem s170 : TS Try.prog 170 1 := TS.of (by kernel_rfl)
theorem z170 : TZ Try.prog 170 (.nilFunc) := TZ.of (by kernel_rfl)
end Tf
end Go.Fs
