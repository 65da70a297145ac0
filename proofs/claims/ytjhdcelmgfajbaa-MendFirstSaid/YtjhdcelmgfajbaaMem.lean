/- Slices that are read, calls, new blocks, stores, append. -/
import Derived.Test.YtjhdcelmgfajbaaOps
namespace Go.Fs

variable {P : Program} {X : Cx} {γb : Type} [Membership Nat γb] {bad : γb} {all : Array Oper} {K : Act → World → Prop} {Q : Exit → Act → World → Prop}
variable {σ : Slots} {μ : Boxes} {Ds : List Data} {os : List (Bool × Nat)} {fl : Bool} {ix : Nat}
variable {d : Nat} {x y z : Operand} {u v : Value} {ty : TypeId} {pos : String} {aft : Array Edge} {g : Option (Nat × Bool)}

/-! ### A slice reads as a list -/
abbrev Rd (α : Type) := Data → α → List Value → Prop
def Rd.Up {α : Type} (R : Rd α) : Prop := ∀ {D D' : Data}, Le D D' → ∀ {x : α} {cs : List Value}, R D x cs → R D' x cs

def Sl {α : Type} (D : Data) (R : Rd α) (sz : Nat) (v : Value) (xs : List α) : Prop :=
  ∃ a cap, v = .slice a xs.length cap ∧ xs.length ≤ cap ∧ xs.length ≤ 9223372036854775807 ∧ (xs = [] ∨ ∃ b o, a = some ⟨b, o, none⟩ ∧ ∀ i x, xs[i]? = some x → ∃ cs, R D x cs ∧ cs.length = sz ∧ At D b (o + i * sz) cs)

theorem Sl.up {α : Type} {R : Rd α} (hR : R.Up) {D D' : Data} (hl : Le D D') {sz : Nat} {v : Value} {xs : List α} (h : Sl D R sz v xs) : Sl D' R sz v xs := by
  obtain ⟨a, cap, hv, h1, h2, h3⟩ := h
  refine ⟨a, cap, hv, h1, h2, h3.imp id ?_⟩
  rintro ⟨b, o, ha, he⟩
  refine ⟨b, o, ha, fun i x hx => ?_⟩
  obtain ⟨cs, hr, hc, hA⟩ := he i x hx
  exact ⟨cs, hR hl hr, hc, hA.up hl⟩

theorem Sl.cells1 {α : Type} {R : Rd α} {D : Data} {sz : Nat} {v : Value} {xs : List α} (h : Sl D R sz v xs) : v.cells = [v].toArray := by
  obtain ⟨a, cap, rfl, _⟩ := h; rfl
theorem Sl.nil {α : Type} {R : Rd α} {D : Data} {sz : Nat} : Sl D R sz (.slice none 0 0) ([] : List α) := ⟨none, 0, rfl, Nat.le_refl _, by simp, Or.inl rfl⟩

theorem Sl.len {α : Type} {R : Rd α} {D : Data} {sz : Nat} {v : Value} {xs : List α} (h : Sl D R sz v xs) : xs.length ≤ 9223372036854775807 := by
  obtain ⟨a, cap, hv, h1, h2, h3⟩ := h; exact h2

/-- The elements' readings. -/
def RI : Rd Int := fun _ n cs => cs = [.int .i64 n]
theorem RI.up : RI.Up := fun _ _ _ h => h
def RL : Rd (List Int) := fun D l cs => ∃ v, cs = [v] ∧ Sl D RI 1 v l
theorem RL.up : RL.Up := fun hl _ _ ⟨v, hc, hs⟩ => ⟨v, hc, hs.up RI.up hl⟩

/-- A reading, later. -/
theorem Sl.at {α : Type} {R : Rd α} (hR : R.Up) {D D₁ : Data} {Ds : List Data} (hD : ∀ D₁ ∈ Ds, Le D₁ D) {sz : Nat} {v : Value} {xs : List α} (h : Sl D₁ R sz v xs) (hm : D₁ ∈ Ds) : Sl D R sz v xs := h.up hR (hD _ hm)

/-! ### len, index -/
theorem L.len {α : Type} {R : Rd α} {D₁ : Data} {sz : Nat} {t e tr : TypeId} {xs : List α} {ats : Array TypeId} (ho : all[ix]? = some ⟨some d, .call { callee := .builtin .len, args := #[x], argTypes := ats }, tr, pos, aft, g⟩) (ht : P.underlying t = some (.slice e)) (hx : ev σ x = some v) (hS : Sl D₁ R sz v xs) (hat : ats[0]? = some t)
    (hN : Nat.blt d X.N = true) (hg : Gok all σ g) (kk : WL P X bad all K Q os ((d, .int .i64 (xs.length : Int)) :: σ) μ Ds) :
    WL P X bad all K Q ((fl, ix) :: os) σ μ Ds :=
  L.pure ho rfl rfl hN hg (fun ρ hρ w' => by
    obtain ⟨a, cap, rfl, _⟩ := hS
    have hx' := hρ x _ hx
    simp [Builtin.len_, hat, hx', Sem.run_bind, TU.of ht w', goInt, Sem.run_pure, go_sem]) kk

theorem L.indexS {α : Type} {R : Rd α} {D₁ : Data} {sz : Nat} {t e : TypeId} {xs : List α} {k : IntKind} {i : Int} {el : α} (ho : all[ix]? = some ⟨some d, .indexAddr t x y, ty, pos, aft, g⟩) (ht : P.underlying t = some (.slice e)) (hs : TS P e sz) (hx : ev σ x = some v) (hS : Sl D₁ R sz v xs)
    (hy : ev σ y = some (.int k i)) (h0 : 0 ≤ i) (hi : xs[i.toNat]? = some el) (hN : Nat.blt d X.N = true) (hg : Gok all σ g)
    (kk : ∀ b o cs, R D₁ el cs → cs.length = sz → At D₁ b o cs → WL P X bad all K Q os ((d, .pointer (some ⟨b, o, none⟩)) :: σ) μ Ds) :
    WL P X bad all K Q ((fl, ix) :: os) σ μ Ds := by
  obtain ⟨a, cap, rfl, h1, h2, h3⟩ := hS
  have hlt : i.toNat < xs.length := (List.getElem?_eq_some_iff.1 hi).1
  rcases h3 with rfl | ⟨b, o, rfl, h3⟩
  · simp at hlt
  · obtain ⟨cs, hr, hc, hA⟩ := h3 _ _ hi
    refine L.pure ho rfl rfl hN hg (fun ρ hρ w' => ?_) (kk b _ cs hr hc hA)
    have h1' : i < (xs.length : Int) := by omega
    simp only [execOp, hρ x _ hx, hρ y _ hy]
    unfold Instr.indexAt asIntOf
    simp only [Sem.run_bind, TU.of ht w', Result.andThen_ok, hs w', Sem.run_pure, pure_bind, h0, h1', and_self, if_true, add_plain]

theorem L.extract {vs : Array Value} {i : Nat} (ho : all[ix]? = some ⟨some d, .extract x i, ty, pos, aft, g⟩) (hx : ev σ x = some (.tuple vs)) (hi : vs.toList[i]? = some v) (hN : Nat.blt d X.N = true) (hg : Gok all σ g) (kk : WL P X bad all K Q os ((d, v) :: σ) μ Ds) :
    WL P X bad all K Q ((fl, ix) :: os) σ μ Ds :=
  L.pure ho rfl rfl hN hg (fun ρ hρ w' => by rw [Array.getElem?_toList] at hi; simp [execOp, hρ x _ hx, Instr.extract, hi, go_sem]) kk

theorem L.max2 {k : IntKind} {m n : Int} {ats : Array TypeId} (ho : all[ix]? = some ⟨some d, .call { callee := .builtin .max, args := #[x, y], argTypes := ats }, ty, pos, aft, g⟩) (hx : ev σ x = some (.int k m)) (hy : ev σ y = some (.int k n)) (hN : Nat.blt d X.N = true) (hg : Gok all σ g) (kk : WL P X bad all K Q os ((d, .int k (max m n)) :: σ) μ Ds) :
    WL P X bad all K Q ((fl, ix) :: os) σ μ Ds :=
  L.pure ho rfl rfl hN hg (fun ρ hρ w' => by
    have hx' := hρ x _ hx
    have hy' := hρ y _ hy
    have e : (if n > m then n else m) = max m n := by split <;> omega
    simp [Builtin.max_, Builtin.max2, hx', hy', go_sem, e]) kk
theorem L.min2 {k : IntKind} {m n : Int} {ats : Array TypeId} (ho : all[ix]? = some ⟨some d, .call { callee := .builtin .min, args := #[x, y], argTypes := ats }, ty, pos, aft, g⟩) (hx : ev σ x = some (.int k m)) (hy : ev σ y = some (.int k n)) (hN : Nat.blt d X.N = true) (hg : Gok all σ g) (kk : WL P X bad all K Q os ((d, .int k (min m n)) :: σ) μ Ds) :
    WL P X bad all K Q ((fl, ix) :: os) σ μ Ds :=
  L.pure ho rfl rfl hN hg (fun ρ hρ w' => by
    have hx' := hρ x _ hx
    have hy' := hρ y _ hy
    have e : (if n < m then n else m) = min m n := by split <;> omega
    simp [Builtin.min_, Builtin.min2, hx', hy', go_sem, e]) kk

theorem Hl.ds {Ds' : List Data} {a : Act} {w : World} (h : Hl X σ μ Ds a w) (hD : ∀ D ∈ Ds', D ∈ Ds) : Hl X σ μ Ds' a w := by
  obtain ⟨h1, h2, h3, D, h4, h5, h6⟩ := h
  exact ⟨h1, h2, h3, D, h4, fun D₁ hD₁ => h5 D₁ (hD D₁ hD₁), h6⟩

/-! ### Calls -/
/-- Function f can be entered. -/
def EF (P : Program) (f : FuncId) : Prop := ∀ args w, (callFunc f args).run P w = .ok (.enter f args) w
theorem EF.of {f : FuncId} {fn : Func} {c : Code} (h : P.funcs[f]? = some fn) (hn : (fn.name == "runtime.NumGoroutine") = false) (hb : fn.body = some c) : EF P f := fun args w => by
  have hn' : ¬ fn.name = "runtime.NumGoroutine" := by simpa using hn
  simp [callFunc, program, Sem.run, h, hn', hb, go_sem]

/-- What a call of f comes to, where the data are D: it returns; what lay before lies as it lay; 'post' of the data behind it and the value. -/
def Fn (P : Program) (f : FuncId) (args : Array Value) (D : Data) (post : Data → Value → Prop) : Prop :=
  EF P f ∧ ∀ w, Agrees D w → Calls P f args w fun e w' => ∃ v D', e = .returned v ∧ Sta (hd w) w.heap.size D [] [] D' w' ∧ post D' v

theorem Fn.mono {f : FuncId} {args : Array Value} {D : Data} {post post' : Data → Value → Prop} (h : Fn P f args D post) (hp : ∀ D' v, Le D D' → post D' v → post' D' v) : Fn P f args D post' := by
  refine ⟨h.1, fun w hw => (h.2 w hw).mono ?_⟩
  rintro e w' ⟨v, D', rfl, hs, hpost⟩
  refine ⟨v, D', rfl, hs, hp _ _ ?_ hpost⟩
  intro b
  by_cases hb : b < w.heap.size
  · rw [hs.dold b hb]; exact List.prefix_refl _
  · have : D b = [] := by
      refine Decidable.byContradiction fun hne => ?_
      obtain ⟨cs, e, fz, hc, _⟩ := hw b hne
      exact hb (lt_of_some hc)
    rw [this]; exact List.nil_prefix

theorem le_of_call {D D' : Data} {w w' : World} {mods : List Nat} {μ : Boxes} (hw : Agrees D w) (hs : Sta (hd w) w.heap.size D mods μ D' w') : Le D D' := by
  intro b
  by_cases hb : b < w.heap.size
  · rw [hs.dold b hb]; exact List.prefix_refl _
  · have : D b = [] := by
      refine Decidable.byContradiction fun hne => ?_
      obtain ⟨cs, e, fz, hc, _⟩ := hw b hne
      exact hb (lt_of_some hc)
    rw [this]; exact List.nil_prefix

/-- A caller's state behind a call that keeps what lay before. -/
theorem Sta.after {h0 : H0} {lo : Nat} {D0 D D' : Data} {mods : List Nat} {μ : Boxes} {w w' : World} (h : Sta h0 lo D0 mods μ D w) (hs : Sta (hd w) w.heap.size D [] [] D' w') : Sta h0 lo D0 mods μ D' w' := by
  have hle := Nat.le_trans h.hlo h.size
  refine ⟨h.hlo, Nat.le_trans h.size hs.size, fun b hb hm => ?_, fun b hb => ?_, hs.agr, fun p hp => ?_, h.nd, fun b o hb ho => ?_, fun e he => (hs.env _ rfl).trans (h.env e he)⟩
  · rw [hs.old b (Nat.lt_of_lt_of_le hb hle) (by simp)]; exact h.old b hb hm
  · rw [hs.dold b (Nat.lt_of_lt_of_le hb hle)]; exact h.dold b hb
  · obtain ⟨h1, h2, h3⟩ := h.box p hp
    have hl := lt_of_some h1
    exact ⟨by rw [hs.old _ hl (by simp)]; exact h1, by rw [hs.dold _ hl]; exact h2, h3⟩
  · rcases Nat.lt_or_ge b w.heap.size with hl | hl
    · rw [hs.old b hl (by simp)] at ho; exact h.fz b o hb ho
    · exact hs.fz b o (Or.inl hl) ho

theorem Sta.low {D D' : Data} {μ : Boxes} {w w' : World} (hs : Sta (hd w) w.heap.size D [] μ D' w') (β : List Nat) : Low β D w D' w' := ⟨hs.size, fun b hb _ => ⟨hs.old b hb (by simp), hs.dold b hb⟩, hs.env _ rfl⟩

theorem Sta.keep {D D' : Data} {μ : Boxes} {w w' : World} (hs : Sta (hd w) w.heap.size D [] μ D' w') {γb : Type} [Membership Nat γb] (bad : γb) : Keep bad w w' := ⟨hs.size, fun b hb _ => hs.old b hb (by simp)⟩

def evs (σ : Slots) : List Operand → Option (List Value)
  | [] => some []
  | x :: xs => match ev σ x, evs σ xs with
    | some v, some vs => some (v :: vs)
    | _, _ => none

theorem evs_eval {ρ : Operand → Value} (hρ : ∀ x u, ev σ x = some u → ρ x = u) : ∀ {xs : List Operand} {vs : List Value}, evs σ xs = some vs → xs.map ρ = vs
  | [], vs, h => by simp [evs] at h; simp [h]
  | x :: xs, vs, h => by
    simp only [evs] at h
    cases h1 : ev σ x with
    | none => simp [h1] at h
    | some v1 =>
      cases h2 : evs σ xs with
      | none => simp [h1, h2] at h
      | some v2 =>
        simp [h1, h2] at h
        rw [← h, List.map_cons, hρ x v1 h1, evs_eval hρ h2]

/-- A loud operation that is carried out. -/
theorem L.loud {o : Oper} (ho : all[ix]? = some o) (hq : quietKind o.op = false) (hdf : deferKind o.op = false) (hg : Gok all σ o.guard)
    (h : ∀ a w, Hl X σ μ Ds a w → o.uponIn (FW X.r) 0 P a (fun a' w' => (fl = true → Keep bad w w') ∧ wpL X.r bad P all K Q (opsAt all os) a' w') Q ((execOp a.eval o).run P w)) : WL P X bad all K Q ((fl, ix) :: os) σ μ Ds := by
  intro a w hh
  rw [opsAt_cons ho]
  simp only [wpL, hq, Bool.false_eq_true, if_false]
  unfold Loud
  rw [if_pos (hh.wanted hg)]
  refine ⟨fun _ _ => trivial, ?_⟩
  rw [semAt_of hdf]
  exact h a w hh

theorem run_call {w : World} {ρ : Operand → Value} {c : Operand} {xs : Array Operand} {ats : Array TypeId} {f : FuncId} {c1 c2 : List Value} {vs : List Value} {dst : Option Nat} (hEF : EF P f) (hc : ρ c = .func (.func f) c1.toArray c2.toArray) (hvs : xs.toList.map ρ = vs) :
    (execOp ρ ⟨dst, .call { callee := .value c, args := xs, argTypes := ats }, ty, pos, aft, g⟩).run P w = .ok (.enter f (c1 ++ vs ++ c2).toArray) w := by
  have e : xs.map ρ = vs.toArray := by rw [← hvs, ← Array.toList_map]
  simp only [execOp, resolve, hc, Deferred.ofValue, pure_bind, invoke, e]
  rw [hEF]; simp

/-- **A CALL** of a function that keeps what lay before. -/
theorem L.call {c : Operand} {xs : Array Operand} {ats : Array TypeId} {f : FuncId} {c1 c2 : List Value} {vs : List Value} {post : Data → Value → Prop} (ho : all[ix]? = some ⟨some d, .call { callee := .value c, args := xs, argTypes := ats }, ty, pos, aft, g⟩) (hc : ev σ c = some (.func (.func f) c1.toArray c2.toArray)) (hxs : evs σ xs.toList = some vs)
    (hf : ∀ D, (∀ D₁ ∈ Ds, Le D₁ D) → Fn P f (c1 ++ vs ++ c2).toArray D post) (hN : Nat.blt d X.N = true) (hg : Gok all σ g)
    (kk : ∀ v D, (∀ D₁ ∈ Ds, Le D₁ D) → post D v → WL P X bad all K Q os ((d, v) :: σ) μ (D :: Ds)) :
    WL P X bad all K Q ((fl, ix) :: os) σ μ Ds := by
  refine L.loud ho rfl rfl hg fun a w hh => ?_
  obtain ⟨h1, h2, h3, D, h4, h5, h6⟩ := id hh
  have hF := hf D h5
  rw [run_call hF.1 (hh.eval hc) (evs_eval (fun _ _ hx => hh.eval hx) hxs)]
  refine ⟨fun h => by simp [FW] at h, callsIn_FW.2 ((hF.2 w h4.agr).mono ?_)⟩
  rintro e w' ⟨v, D', rfl, hs, hpost⟩
  have hle := le_of_call h4.agr hs
  refine ⟨fun _ => hs.keep bad, kk v D' (fun D₁ hD₁ => (h5 D₁ hD₁).trans hle) hpost _ _ ?_⟩
  refine Hl.put ⟨h1, h2, h3, D', h4.after hs, fun D₁ hD₁ => ?_, h6.step (fun _ p hp => Or.inl (List.mem_map.2 ⟨p, hp, rfl⟩)) (fun _ => hs.low _) (h4.after hs).dom⟩ hN v
  rcases List.mem_cons.1 hD₁ with rfl | hD₁
  · exact Le.refl _
  · exact (h5 D₁ hD₁).trans hle

/-- A call whose value is known, and holds no data. -/
theorem L.callV {c : Operand} {xs : Array Operand} {ats : Array TypeId} {f : FuncId} {c1 c2 : List Value} {vs : List Value} {r : Value} (ho : all[ix]? = some ⟨some d, .call { callee := .value c, args := xs, argTypes := ats }, ty, pos, aft, g⟩) (hc : ev σ c = some (.func (.func f) c1.toArray c2.toArray)) (hxs : evs σ xs.toList = some vs)
    (hf : ∀ D, (∀ D₁ ∈ Ds, Le D₁ D) → Fn P f (c1 ++ vs ++ c2).toArray D (fun _ v => v = r)) (hN : Nat.blt d X.N = true) (hg : Gok all σ g)
    (kk : WL P X bad all K Q os ((d, r) :: σ) μ Ds) :
    WL P X bad all K Q ((fl, ix) :: os) σ μ Ds :=
  L.call ho hc hxs hf hN hg fun _ _ _ hv => by
    subst hv
    exact fun a w hh => kk a w (hh.ds fun D hD => List.mem_cons_of_mem _ hD)

/-! ### New blocks -/
theorem heap_push_lt {w : World} {o : Obj} {b : Nat} (h : b < w.heap.size) : (w.heap.push o)[b]? = w.heap[b]? := by
  rw [Array.getElem?_push, if_neg (by omega)]

theorem Agrees.push {D : Data} {w : World} (h : Agrees D w) (o : Obj) : Agrees D { w with heap := w.heap.push o } := by
  intro b hb
  obtain ⟨cs, e, fz, hc, hp⟩ := h b hb
  exact ⟨cs, e, fz, by show (w.heap.push o)[b]? = _; rw [heap_push_lt (lt_of_some hc)]; exact hc, hp⟩

theorem Agrees.fresh {D : Data} {w : World} (h : Agrees D w) {b : Nat} (hb : w.heap.size ≤ b) : D b = [] :=
  Decidable.byContradiction fun hne => by
    obtain ⟨cs, e, fz, hc, _⟩ := h b hne
    have := lt_of_some hc
    omega

/-- A new block of the frame's own. -/
theorem fz_push {h0 : H0} {lo : Nat} {D0 D : Data} {mods : List Nat} {μ : Boxes} {w : World} (h : Sta h0 lo D0 mods μ D w) {o : Obj} (ho : unfrozen o) : ∀ b o', lo ≤ b ∨ b ∈ mods → (w.heap.push o)[b]? = some o' → unfrozen o' := by
  intro b o' hb hs
  rcases Nat.lt_trichotomy b w.heap.size with hl | hl | hl
  · rw [heap_push_lt hl] at hs; exact h.fz b o' hb hs
  · subst hl; simp at hs; rw [← hs]; exact ho
  · rw [Array.getElem?_push, if_neg (by omega)] at hs
    have := (Array.getElem?_eq_some_iff.1 hs).1
    omega

theorem Sta.push {h0 : H0} {lo : Nat} {D0 D : Data} {mods : List Nat} {μ : Boxes} {w : World} (h : Sta h0 lo D0 mods μ D w) (o : Obj) (ho : unfrozen o) : Sta h0 lo D0 mods ((w.heap.size, o) :: μ) D { w with heap := w.heap.push o } := by
  have hle := Nat.le_trans h.hlo h.size
  refine ⟨h.hlo, by have := h.size; simp; omega, fun b hb hm => ?_, h.dold, h.agr.push o, fun p hp => ?_, ?_, fz_push h ho, h.env⟩
  · show (w.heap.push o)[b]? = _
    rw [heap_push_lt (Nat.lt_of_lt_of_le hb hle)]; exact h.old b hb hm
  · rcases List.mem_cons.1 hp with rfl | hp
    · exact ⟨by simp, h.agr.fresh (Nat.le_refl _), Or.inl h.size⟩
    · obtain ⟨h1, h2, h3⟩ := h.box p hp
      exact ⟨by show (w.heap.push o)[p.1]? = _; rw [heap_push_lt (lt_of_some h1)]; exact h1, h2, h3⟩
  · simp only [List.map_cons, List.nodup_cons]
    refine ⟨fun hm => ?_, h.nd⟩
    obtain ⟨p, hp, he⟩ := List.mem_map.1 hm
    have := lt_of_some (h.box p hp).1
    omega

theorem keep_push {γb : Type} [Membership Nat γb] (bad : γb) (w : World) (o : Obj) : Keep bad w { w with heap := w.heap.push o } := ⟨by simp, fun b hb _ => heap_push_lt hb⟩

theorem low_push (β : List Nat) {D : Data} {w : World} (o : Obj) : Low β D w D { w with heap := w.heap.push o } := ⟨by simp, fun b hb _ => ⟨heap_push_lt hb, rfl⟩, rfl⟩

/-- A new block that never changes again: data from now on. -/
theorem Sta.pushD {h0 : H0} {lo : Nat} {D0 D : Data} {mods : List Nat} {μ : Boxes} {w : World} (h : Sta h0 lo D0 mods μ D w) (vs : List Value) (e : TypeId) :
    ∃ D', Le D D' ∧ D' w.heap.size = vs ∧ (∀ b, b ≠ w.heap.size → D' b = D b) ∧ Sta h0 lo D0 mods μ D' { w with heap := w.heap.push (.cells vs.toArray e (0, 0)) } := by
  have hf := h.agr.fresh (Nat.le_refl w.heap.size)
  refine ⟨fun b => if b = w.heap.size then vs else D b, fun b => ?_, by simp, (fun b hb => by simp [hb]), ?_⟩
  · by_cases hb : b = w.heap.size
    · subst hb; rw [hf]; exact List.nil_prefix
    · simp [hb]
  · have hle := Nat.le_trans h.hlo h.size
    refine ⟨h.hlo, by have := h.size; simp; omega, fun b hb hm => ?_, fun b hb => ?_, fun b hb => ?_, fun p hp => ?_, h.nd, fz_push h rfl, h.env⟩
    · show (w.heap.push _)[b]? = _
      rw [heap_push_lt (Nat.lt_of_lt_of_le hb hle)]; exact h.old b hb hm
    · have hne : b ≠ w.heap.size := by omega
      simp only [hne, if_false]; exact h.dold b hb
    · by_cases he : b = w.heap.size
      · subst he
        exact ⟨vs.toArray, e, (0, 0), by simp, by simp⟩
      · simp only [he, if_false] at hb ⊢
        obtain ⟨cs, e', fz, hc, hp⟩ := h.agr b hb
        exact ⟨cs, e', fz, by show (w.heap.push _)[b]? = _; rw [heap_push_lt (lt_of_some hc)]; exact hc, hp⟩
    · obtain ⟨h1, h2, h3⟩ := h.box p hp
      have hl := lt_of_some h1
      refine ⟨by show (w.heap.push _)[p.1]? = _; rw [heap_push_lt hl]; exact h1, ?_, h3⟩
      have hne : p.1 ≠ w.heap.size := by omega
      simp only [hne, if_false]; exact h2

theorem run_newRow {w : World} {e : TypeId} {cs : Array Value} : (newRow e cs).run P w = .ok ⟨w.heap.size, 0, none⟩ { w with heap := w.heap.push (.cells cs e (0, 0)) } := rfl

/-- A new variable of the frame's own that holds v. -/
theorem L.box {e : TypeId} {vs : List Value} (ho : all[ix]? = some ⟨some d, .box e x, ty, pos, aft, g⟩) (hx : ev σ x = some v) (hv : v.cells = vs.toArray) (hN : Nat.blt d X.N = true) (hg : Gok all σ g)
    (kk : ∀ b, WL P X bad all K Q os ((d, .pointer (some ⟨b, 0, none⟩)) :: σ) ((b, .cells vs.toArray e (0, 0)) :: μ) Ds) :
    WL P X bad all K Q ((fl, ix) :: os) σ μ Ds := by
  refine L.loud ho rfl rfl hg fun a w hh => ?_
  obtain ⟨h1, h2, h3, D, h4, h5, h6⟩ := id hh
  have : (execOp a.eval ⟨some d, .box e x, ty, pos, aft, g⟩).run P w = .ok (.value (.pointer (some ⟨w.heap.size, 0, none⟩))) { w with heap := w.heap.push (.cells vs.toArray e (0, 0)) } := by
    simp only [execOp, hh.eval hx, Instr.box, newVar, hv, Sem.run_bind, run_newRow, Result.andThen_ok, Sem.run_pure]
  rw [this]
  exact ⟨fun _ => keep_push _ _ _, kk _ _ _ (Hl.put ⟨h1, h2, h3, D, h4.push _ (show unfrozen (.cells _ _ (0, 0)) from rfl), h5, h6.step (fun _ p hp => by rcases List.mem_cons.1 hp with rfl | hp; exact Or.inr (Nat.le_refl _); exact Or.inl (List.mem_map.2 ⟨p, hp, rfl⟩)) (fun _ => low_push _ _) (h4.push _ (show unfrozen (.cells _ _ (0, 0)) from rfl)).dom⟩ hN _)⟩

theorem L.alloc {e : TypeId} {vs : List Value} {z0 : Value} (ho : all[ix]? = some ⟨some d, .alloc e, ty, pos, aft, g⟩) (hz : TZ P e z0) (hv : z0.cells = vs.toArray) (hN : Nat.blt d X.N = true) (hg : Gok all σ g)
    (kk : ∀ b, WL P X bad all K Q os ((d, .pointer (some ⟨b, 0, none⟩)) :: σ) ((b, .cells vs.toArray e (0, 0)) :: μ) Ds) :
    WL P X bad all K Q ((fl, ix) :: os) σ μ Ds := by
  refine L.loud ho rfl rfl hg fun a w hh => ?_
  obtain ⟨h1, h2, h3, D, h4, h5, h6⟩ := id hh
  have : (execOp a.eval ⟨some d, .alloc e, ty, pos, aft, g⟩).run P w = .ok (.value (.pointer (some ⟨w.heap.size, 0, none⟩))) { w with heap := w.heap.push (.cells vs.toArray e (0, 0)) } := by
    simp only [execOp, Instr.alloc, newVar, Sem.run_bind, hz w, Result.andThen_ok, hv, run_newRow, Sem.run_pure]
  rw [this]
  exact ⟨fun _ => keep_push _ _ _, kk _ _ _ (Hl.put ⟨h1, h2, h3, D, h4.push _ (show unfrozen (.cells _ _ (0, 0)) from rfl), h5, h6.step (fun _ p hp => by rcases List.mem_cons.1 hp with rfl | hp; exact Or.inr (Nat.le_refl _); exact Or.inl (List.mem_map.2 ⟨p, hp, rfl⟩)) (fun _ => low_push _ _) (h4.push _ (show unfrozen (.cells _ _ (0, 0)) from rfl)).dom⟩ hN _)⟩

/-! ### Stores into the frame's own blocks -/
/-- One of the boxes, and the boxes with another thing in its place. -/
inductive Has : Boxes → Nat → Obj → Obj → Boxes → Prop
  | head {b o o' μ} : Has ((b, o) :: μ) b o o' ((b, o') :: μ)
  | tail {p b o o' μ μ'} (h : Has μ b o o' μ') : Has (p :: μ) b o o' (p :: μ')
  | app {ν b o o' μ μ'} (h : Has μ b o o' μ') : Has (ν ++ μ) b o o' (ν ++ μ')

theorem Has.mem {μ μ' : Boxes} {b : Nat} {o o' : Obj} (h : Has μ b o o' μ') : (b, o) ∈ μ := by
  induction h with
  | head => exact List.mem_cons_self
  | tail _ ih => exact List.mem_cons_of_mem _ ih
  | app _ ih => exact List.mem_append_right _ ih
theorem Has.keys {μ μ' : Boxes} {b : Nat} {o o' : Obj} (h : Has μ b o o' μ') : μ'.map (·.1) = μ.map (·.1) := by
  induction h with
  | head => rfl
  | tail _ ih => simp [ih]
  | app _ ih => simp [ih]
theorem Has.other {μ μ' : Boxes} {b : Nat} {o o' : Obj} (h : Has μ b o o' μ') : ∀ p ∈ μ', p = (b, o') ∨ p ∈ μ := by
  induction h with
  | head => intro p hp; rcases List.mem_cons.1 hp with rfl | hp; exact Or.inl rfl; exact Or.inr (List.mem_cons_of_mem _ hp)
  | tail _ ih => intro p hp; rcases List.mem_cons.1 hp with rfl | hp; exact Or.inr List.mem_cons_self; exact (ih p hp).imp id (List.mem_cons_of_mem _)
  | app _ ih => intro p hp; rcases List.mem_append.1 hp with hp | hp; exact Or.inr (List.mem_append_left _ hp); exact (ih p hp).imp id (List.mem_append_right _)
/-- At any other key than b the new boxes are the old ones. -/
theorem Has.apart {μ μ' : Boxes} {b : Nat} {o o' : Obj} (h : Has μ b o o' μ') (hn : (μ.map (·.1)).Nodup) : ∀ p ∈ μ', p.1 = b → p = (b, o') := by
  induction h with
  | @head b o o' μ =>
    intro p hp he
    rcases List.mem_cons.1 hp with rfl | hp
    · rfl
    · exfalso
      simp only [List.map_cons, List.nodup_cons] at hn
      exact hn.1 (List.mem_map.2 ⟨p, hp, he⟩)
  | @tail q b o o' μ μ' h ih =>
    intro p hp he
    simp only [List.map_cons, List.nodup_cons] at hn
    rcases List.mem_cons.1 hp with rfl | hp
    · exact absurd (List.mem_map.2 ⟨_, h.mem, he.symm⟩) hn.1
    · exact ih hn.2 p hp he
  | @app ν b o o' μ μ' h ih =>
    intro p hp he
    rw [List.map_append, List.nodup_append] at hn
    rcases List.mem_append.1 hp with hp | hp
    · exact absurd rfl (hn.2.2 p.1 (List.mem_map.2 ⟨p, hp, rfl⟩) b (List.mem_map.2 ⟨_, h.mem, rfl⟩) |> fun hne => he ▸ hne)
    · exact ih hn.2.1 p hp he

/-- One block is laid anew. -/
def SetB (w : World) (b : Nat) (o : Obj) (w' : World) : Prop := w'.heap = w.heap.setIfInBounds b o ∧ wenv w' = wenv w

/-- Another thing laid in the place of a box. -/
theorem Sta.set {h0 : H0} {lo : Nat} {D0 D : Data} {mods : List Nat} {μ μ' : Boxes} {w w' : World} {b : Nat} {o o' : Obj} (h : Sta h0 lo D0 mods μ D w) (hm : Has μ b o o' μ') (hwe : SetB w b o' w') (hu : unfrozen o') : Sta h0 lo D0 mods μ' D w' := by
  have hw := hwe.1
  have hb := h.box _ hm.mem
  have hlt : b < w.heap.size := lt_of_some hb.1
  have hsame : ∀ c, c ≠ b → w'.heap[c]? = w.heap[c]? := fun c hc => by rw [hw, Array.getElem?_setIfInBounds_ne (Ne.symm hc)]
  refine ⟨h.hlo, by rw [hw]; simpa using h.size, fun c hc hmods => ?_, h.dold, fun c hc => ?_, fun p hp => ?_, by rw [hm.keys]; exact h.nd, fun c q hc hq => ?_, fun e he => hwe.2.trans (h.env e he)⟩
  · rw [hsame c ?_]
    · exact h.old c hc hmods
    · rintro rfl
      rcases hb.2.2 with h' | h'
      · have := h.hlo; simp at h'; omega
      · exact hmods h'
  · have : c ≠ b := by rintro rfl; exact hc hb.2.1
    obtain ⟨cs, e, fz, h1, h2⟩ := h.agr c hc
    exact ⟨cs, e, fz, by rw [hsame c this]; exact h1, h2⟩
  · by_cases he : p.1 = b
    · obtain rfl := hm.apart h.nd p hp he
      exact ⟨by rw [hw]; simp [hlt], hb.2.1, hb.2.2⟩
    · rcases hm.other p hp with rfl | hp'
      · exact absurd rfl he
      · obtain ⟨h1, h2, h3⟩ := h.box p hp'
        exact ⟨by rw [hsame _ he]; exact h1, h2, h3⟩
  · by_cases he : c = b
    · subst he; rw [hw] at hq; simp [hlt] at hq; rw [← hq]; exact hu
    · rw [hsame c he] at hq; exact h.fz c q hc hq

/-- A value of one cell. -/
def cell1 : Value → Bool
  | .agg _ => false
  | .tuple _ => false
  | _ => true

theorem heap_setCell {w : World} {b off : Nat} {cs : Array Value} {e : TypeId} {fz : Nat × Nat} {v : Value} (h : w.heap[b]? = some (.cells cs e fz)) : (w.setCell ⟨b, off, none⟩ v).heap = w.heap.setIfInBounds b (.cells (cs.setIfInBounds off v) e fz) := by
  simp only [World.setCell]
  apply Array.ext_getElem?
  intro i
  rw [Array.getElem?_modify, Array.getElem?_setIfInBounds]
  by_cases hi : b = i
  · subst hi
    simp [lt_of_some h, (Array.getElem?_eq_some_iff.1 h).2]
  · simp [hi]

theorem run_storeCells : ∀ (us : List Value) (i : Nat) (w : World) (b off : Nat) (vs : List Value) (e : TypeId), w.heap[b]? = some (.cells vs.toArray e (0, 0)) → off + i + us.length ≤ vs.length → (∀ u ∈ us, cell1 u = true) →
    ∃ w', (storeCells ⟨b, off, none⟩ us i).run P w = .ok () w' ∧ SetB w b (.cells (vs.take (off + i) ++ us ++ vs.drop (off + i + us.length)).toArray e (0, 0)) w'
  | [], i, w, b, off, vs, e, h, hl, _ => by
    refine ⟨w, rfl, ?_, rfl⟩
    simp only [List.append_nil, List.length_nil, Nat.add_zero, List.take_append_drop]
    apply Array.ext_getElem?
    intro j
    rw [Array.getElem?_setIfInBounds]
    split
    · rename_i hj; subst hj; simp [lt_of_some h, (Array.getElem?_eq_some_iff.1 h).2]
    · rfl
  | u :: us, i, w, b, off, vs, e, h, hl, ho => by
    have hu := ho u List.mem_cons_self
    simp only [List.length_cons] at hl
    have hcell : ∃ v, w.cell? ⟨b, off + i, none⟩ = some v := ⟨vs[off + i], cell_of h (by simp [show off + i < vs.length by omega])⟩
    obtain ⟨v0, hv0⟩ := hcell
    have hfz : w.frozen? ⟨b, off + i, none⟩ = false := by simp [World.frozen?, h]
    have hs : (store ⟨b, off + i, none⟩ u).run P w = .ok () (w.setCell ⟨b, off + i, none⟩ u) := by
      cases u <;> first | (simp [cell1] at hu; done) | simp [store, Sem.run, hv0, hfz]
    have hh := heap_setCell (v := u) (off := off + i) h
    have h' : (w.setCell ⟨b, off + i, none⟩ u).heap[b]? = some (.cells (vs.set (off + i) u).toArray e (0, 0)) := by
      rw [hh]; simp [lt_of_some h]
    obtain ⟨w', hr, hw'⟩ := run_storeCells us (i + 1) _ b off (vs.set (off + i) u) e h' (by simp; omega) (fun u hu => ho u (List.mem_cons_of_mem _ hu))
    refine ⟨w', ?_, ?_, hw'.2⟩
    · simp only [storeCells, Sem.run_bind, add_plain, hs, Result.andThen_ok]
      exact hr
    · rw [hw'.1, hh]
      apply Array.ext_getElem?
      intro j
      simp only [Array.getElem?_setIfInBounds, Array.size_setIfInBounds]
      split
      · have hlt : off + i < vs.length := by omega
        have h1 : (vs.set (off + i) u).take (off + (i + 1)) = vs.take (off + i) ++ [u] := by
          rw [show off + (i + 1) = off + i + 1 by omega, List.take_succ_eq_append_getElem (by simpa using hlt), List.take_set_of_le (Nat.le_refl _)]
          simp
        have h2 : (vs.set (off + i) u).drop (off + (i + 1) + us.length) = vs.drop (off + i + (us.length + 1)) := by
          rw [List.drop_set_of_lt (by omega)]
          congr 1; omega
        simp only [h1, h2, List.length_cons, List.append_assoc, List.singleton_append]
      · rfl

theorem run_storeAt {w : World} {t : TypeId} {b off : Nat} {vs us : List Value} {e : TypeId} {v : Value} (hs : TS P t us.length) (hv : v.cells = us.toArray) (h : w.heap[b]? = some (.cells vs.toArray e (0, 0))) (hl : off + us.length ≤ vs.length) (ho : ∀ u ∈ us, cell1 u = true) :
    ∃ w', (Instr.storeAt t (.pointer (some ⟨b, off, none⟩)) v).run P w = .ok () w' ∧ SetB w b (.cells (vs.take off ++ us ++ vs.drop (off + us.length)).toArray e (0, 0)) w' := by
  obtain ⟨w', hr, hw⟩ := run_storeCells (P := P) us 0 w b off vs e h (by simpa using hl) ho
  refine ⟨w', ?_, by simpa using hw⟩
  unfold Instr.storeAt Instr.sureAddr storeVar
  simp only [pure_bind, Sem.run_bind, hs w, Result.andThen_ok, hv, List.size_toArray, ne_eq, not_true_eq_false, if_false]
  exact hr

theorem low_set {β : List Nat} {D : Data} {w w' : World} {b : Nat} {o : Obj} (hw : SetB w b o w') (h : b ∈ β) : Low β D w D w' :=
  ⟨by rw [hw.1]; simp, fun c _ hn => ⟨by rw [hw.1, Array.getElem?_setIfInBounds_ne (by rintro rfl; exact hn h)], rfl⟩, hw.2⟩

/-- A store into one of the frame's own blocks. -/
theorem L.store {t : TypeId} {b off : Nat} {vs us ws : List Value} {e : TypeId} {μ' : Boxes} (ho : all[ix]? = some ⟨none, .store t x y, ty, pos, aft, g⟩) (hx : ev σ x = some (.pointer (some ⟨b, off, none⟩))) (hy : ev σ y = some v) (hv : v.cells = us.toArray) (hs : TS P t us.length)
    (hm : Has μ b (.cells vs.toArray e (0, 0)) (.cells ws.toArray e (0, 0)) μ') (hl : off + us.length ≤ vs.length) (hw : vs.take off ++ us ++ vs.drop (off + us.length) = ws) (hc1 : ∀ u ∈ us, cell1 u = true) (hg : Gok all σ g) 
    (kk : WL P X bad all K Q os σ μ' Ds) : WL P X bad all K Q ((false, ix) :: os) σ μ Ds := by
  refine L.loud ho rfl rfl hg fun a w hh => ?_
  obtain ⟨h1, h2, h3, D, h4, h5, h6⟩ := id hh
  obtain ⟨w', hr, hw'⟩ := run_storeAt (P := P) hs hv (h4.box _ hm.mem).1 hl hc1
  have : (execOp a.eval ⟨none, .store t x y, ty, pos, aft, g⟩).run P w = .ok .skip w' := by
    simp only [execOp, hh.eval hx, hh.eval hy, Sem.run_bind, hr, Result.andThen_ok, Sem.run_pure]
  rw [this]
  rw [hw] at hw'
  exact ⟨fun h => by simp at h, kk _ _ ⟨h1, h2, h3, D, h4.set hm hw' rfl, h5, h6.step (fun _ p hp => Or.inl (by rw [← hm.keys]; exact List.mem_map.2 ⟨p, hp, rfl⟩)) (fun _ => low_set hw' (List.mem_map.2 ⟨_, hm.mem, rfl⟩)) (h4.set hm hw' rfl).dom⟩⟩

theorem cells_agg (us : List Value) : (Value.agg us.toArray).cells = us.toArray := rfl

/-! ### Entering a function, and leaving it -/
def slotsOf : Nat → List Value → Slots
  | _, [] => []
  | i, v :: vs => (i, v) :: slotsOf (i + 1) vs

theorem look_slotsOf : ∀ (vs : List Value) (i s : Nat) (v : Value), look (slotsOf i vs) s = some v → i ≤ s ∧ vs[s - i]? = some v
  | [], i, s, v, h => by cases h
  | u :: vs, i, s, v, h => by
    simp only [slotsOf, look] at h
    cases hb : Nat.beq i s with
    | true => rw [hb] at h; cases h; obtain rfl := Nat.eq_of_beq_eq_true hb; simp
    | false =>
      rw [hb] at h
      obtain ⟨h1, h2⟩ := look_slotsOf vs (i + 1) s v h
      refine ⟨by omega, ?_⟩
      rw [show s - i = (s - (i + 1)) + 1 by omega]
      simpa using h2

/-- What a function's walk ends in. -/
def Post (X : Cx) (post : Data → Value → Boxes → Prop) : Ending → World → Prop := fun e w' => ∃ v D' μ', e = .returned v ∧ Sta X.h0 X.lo X.D0 X.mods μ' D' w' ∧ post D' v μ'

theorem np_body {fn : Func} {post : Data → Value → Boxes → Prop} : NP (bodyPost P fn (Post X post)) := by
  rintro c a w ⟨_, v, D', μ', h, _⟩
  cases h

theorem enter {f : FuncId} {fn : Func} {c : Code} {args : List Value} {D : Data} {post : Data → Value → Prop} (N : Nat) (hf : P.funcs[f]? = some fn) (hn : (fn.name == "runtime.NumGoroutine") = false) (hb : fn.body = some c) (hN : fn.ntmps = N) (hsz : Nat.ble args.length N = true)
    (h : ∀ h0 : H0, WC P ⟨none, N, [], h0, h0.size, D, [], none⟩ (bodyPost P fn (Post ⟨none, N, [], h0, h0.size, D, [], none⟩ fun D' v _ => post D' v)) c (slotsOf 0 args) [] [D]) : Fn P f args.toArray D post := by
  refine ⟨EF.of hf hn hb, fun w hw => ?_⟩
  subst hN
  have hsz := Nat.le_of_ble_eq_true hsz
  refine (callsIn_FW (r := none) (n := 0)).1 ((callsIn_of_wp (R := Post ⟨none, fn.ntmps, [], hd w, w.heap.size, D, [], none⟩ fun D' v _ => post D' v) hf hb trivial (h (hd w) _ w ⟨?_, fun s v hs => ?_, rfl, D, ⟨Nat.le_refl _, Nat.le_refl _, fun _ _ _ => rfl, fun _ _ => rfl, hw, (fun p hp => by cases hp), List.nodup_nil, fun b o hb ho => absurd (lt_of_some ho) (Nat.not_lt_of_le (hb.resolve_right (by simp))), fun e he => Option.some.inj he⟩, fun D₁ h1 => ?_, trivial⟩) rfl).mono ?_)
  · simp; omega
  · obtain ⟨_, h2⟩ := look_slotsOf args 0 s v hs
    have hl := (List.getElem?_eq_some_iff.1 h2).1
    simp only [Nat.sub_zero] at h2 hl
    show (args.toArray ++ _)[s]? = some v
    rw [Array.getElem?_append_left (by simpa using hl)]
    simpa using h2
  · simp only [List.mem_singleton] at h1; subst h1; exact Le.refl _
  · rintro e w' ⟨v, D', μ', rfl, hs, hp⟩
    exact ⟨v, D', rfl, hs.sub (by intro p hp; cases hp) List.nodup_nil, hp⟩

/-- The results, one after the other. -/
def ResV (P : Program) (X : Cx) (σ : Slots) (μ : Boxes) : List ResultVar → List Value → Prop
  | [], [] => True
  | .tmp t :: rs, v :: vs => look σ t = some v ∧ ResV P X σ μ rs vs
  | .cell a t :: rs, v :: vs => (∃ b us e, look σ a = some (.pointer (some ⟨b, 0, none⟩)) ∧ (b, .cells us e (0, 0)) ∈ μ ∧
      ((TA P t false ∧ us = #[v]) ∨ (TA P t true ∧ TS P t us.size ∧ v = .agg us))) ∧ ResV P X σ μ rs vs
  | _, _ => False

def resOne (tmps : Array Value) (r : ResultVar) : Sem Value :=
  match r with
  | .tmp t => pure (tmps.getD t undef)
  | .cell a t => do loadVar t (← asAddr (tmps.getD a undef))

theorem run_resV {a : Act} {w : World} (hh : Hl X σ μ Ds a w) : ∀ (rs : List ResultVar) (vs : List Value), ResV P X σ μ rs vs → (rs.mapM (resOne a.tmps)).run P w = .ok vs w
  | [], [], _ => rfl
  | [], _ :: _, h => h.elim
  | .tmp t :: rs, [], h => h.elim
  | .cell _ _ :: rs, [], h => h.elim
  | .tmp t :: rs, v :: vs, h => by
    have hv := hh.2.1 _ _ h.1
    have he : a.tmps.getD t undef = v := by rw [Array.getD_eq_getD_getElem?, hv]; rfl
    have h1 : (resOne a.tmps (.tmp t)).run P w = .ok v w := by simp only [resOne, he, Sem.run_pure]
    rw [List.mapM_cons, Sem.run_bind, h1, Result.andThen_ok, Sem.run_bind, run_resV hh rs vs h.2]
    rfl
  | .cell s t :: rs, v :: vs, h => by
    obtain ⟨⟨b, us, e, hs, hm, hc⟩, hr⟩ := h
    have hv := hh.2.1 _ _ hs
    have he : a.tmps.getD s undef = .pointer (some ⟨b, 0, none⟩) := by rw [Array.getD_eq_getD_getElem?, hv]; rfl
    have hbox := hh.boxAt (bad := []) hm (by simp) (Keep.refl _ w)
    have hload : (loadVar t ⟨b, 0, none⟩).run P w = .ok v w := by
      rcases hc with ⟨ha, hu⟩ | ⟨ha, hsz, hu⟩
      · have := run_loadAt_one (P := P) (t := t) (b := b) (off := 0) (v := v) ha (cell_of hbox (by rw [hu]; rfl))
        simpa [Instr.loadAt, Instr.sureAddr] using this
      · have := run_loadAt_agg (P := P) (t := t) (b := b) (off := 0) (vs := us.toList) ha (by simpa using hsz) (fun j u hj => cell_of hbox (by simpa using hj))
        rw [hu]
        simpa [Instr.loadAt, Instr.sureAddr] using this
    have h1 : (resOne a.tmps (.cell s t)).run P w = .ok v w := by simp only [resOne, he, asAddr, pure_bind]; exact hload
    rw [List.mapM_cons, Sem.run_bind, h1, Result.andThen_ok, Sem.run_bind, run_resV hh rs vs hr]
    rfl

def resOf : List Value → Value
  | [v] => v
  | vs => .tuple vs.toArray

theorem run_results {fn : Func} {a : Act} {w : World} (hh : Hl X σ μ Ds a w) {rs : List ResultVar} {vs : List Value} (hr : fn.results = rs.toArray) (h : ResV P X σ μ rs vs) : (results fn a.tmps).run P w = .ok (resOf vs) w := by
  have e : results fn a.tmps = (rs.toArray.mapM (resOne a.tmps) >>= fun vs => Pure.pure (if h : vs.size = 1 then vs[0] else .tuple vs)) := by rw [← hr]; rfl
  rw [e, List.mapM_toArray, Sem.run_bind, Sem.run_map, run_resV hh rs vs h]
  simp only [Result.andThen_ok, Sem.run_pure]
  match vs with
  | [] => rfl
  | [v] => rfl
  | _ :: _ :: _ => rfl

/-- Leaving a function by its end or by a return. -/
theorem leave {fn : Func} {post : Data → Value → Boxes → Prop} {e : Exit} (he : (match e with | .normal => true | .ret => true | _ => false) = true) {rs : List ResultVar} {vs : List Value} (hds : X.ds = []) (hr : fn.results = rs.toArray) (h : ResV P X σ μ rs vs)
    (hp : ∀ D, (∀ D₁ ∈ Ds, Le D₁ D) → post D (resOf vs) μ) : ∀ a w, Hl X σ μ Ds a w → bodyPost P fn (Post X post) e a w := by
  intro a w hh
  have hrun := run_results hh hr h
  obtain ⟨h1, h2, h3, D, h4, h5, h6⟩ := hh
  have : a.defers = [] ∧ ∃ v, (results fn a.tmps).run P w = .ok v w ∧ Post X post (.returned v) w := ⟨h3.trans hds, _, hrun, _, D, μ, rfl, h4, hp D h5⟩
  cases e <;> first | exact this | cases he

end Go.Fs
