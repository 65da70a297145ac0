/- Of the proof of TopStand: State, Ops, Mem. -/
import Derived.Test.YtjbdakpeheajgaaZTopStandA
import Derived.WalkKit
namespace Go.Fs
abbrev Slots := List (Nat × Value)
abbrev Boxes := List (Nat × Obj)
/-- The cells at the head of each block that never change again. -/
abbrev Data := Nat → List Value
def look : Slots → Nat → Option Value
  | [], _ => none
  | (k, v) :: r, s => match Nat.beq k s with | true => some v | false => look r s
def ev (σ : Slots) : Operand → Option Value
  | .tmp t => look σ t
  | .const v => some v
  | .global g => some (.pointer (some ⟨g, 0, none⟩))
  | .func f => some (.func (.func f) #[] #[])
def Le (D D' : Data) : Prop := ∀ b, D b <+: D' b
theorem Le.refl (D : Data) : Le D D := fun _ => List.prefix_refl _
theorem Le.trans {D D' D'' : Data} (h : Le D D') (h' : Le D' D'') : Le D D'' := fun b => (h b).trans (h' b)
theorem Le.get {D D' : Data} (h : Le D D') {b i : Nat} {v : Value} (hv : (D b)[i]? = some v) : (D' b)[i]? = some v := by
  obtain ⟨t, ht⟩ := h b
  rw [← ht, List.getElem?_append_left]
  · exact hv
  · exact (List.getElem?_eq_some_iff.1 hv).1
/-- The world holds the data. -/
def Agrees (D : Data) (w : World) : Prop := ∀ b, D b ≠ [] → ∃ cs e fz, w.heap[b]? = some (.cells cs e fz) ∧ D b <+: cs.toList
/-- No cell of a new block is kept from being written. -/
def unfrozen : Obj → Prop
  | .cells _ _ z => z = (0, 0)
  | _ => True
def wenv (w : World) : Os × Array (Nat × ByteArray) := (w.os, w.output)
/-- What lay at the entry: the blocks; what the system is like, if it is known. -/
structure H0 where
  arr : Array Obj
  env : Option (Os × Array (Nat × ByteArray))
abbrev H0.size (h : H0) : Nat := h.arr.size
abbrev hd (w : World) : H0 := ⟨w.heap, some (wenv w)⟩
/-- What the frame knows of the world, from its entry on: what lay before lies as it lay (but for 'mods'), its own blocks (from 'lo' on), the data. -/
structure Sta (h0 : H0) (lo : Nat) (D0 : Data) (mods : List Nat) (μ : Boxes) (D : Data) (w : World) : Prop where
  hlo : h0.size ≤ lo
  size : lo ≤ w.heap.size
  old : ∀ b, b < h0.size → b ∉ mods → w.heap[b]? = h0.arr[b]?
  dold : ∀ b, b < h0.size → D b = D0 b
  agr : Agrees D w
  box : ∀ p ∈ μ, w.heap[p.1]? = some p.2 ∧ D p.1 = [] ∧ (lo ≤ p.1 ∨ p.1 ∈ mods)
  nd : (μ.map (·.1)).Nodup
  fz : ∀ b o, lo ≤ b ∨ b ∈ mods → w.heap[b]? = some o → unfrozen o
  env : ∀ e, h0.env = some e → wenv w = e
/-- The world holds the data, and no block from lo on is kept from being written. -/
def Dom (lo : Nat) (D : Data) (w : World) : Prop := Agrees D w ∧ lo ≤ w.heap.size ∧ ∀ b o, lo ≤ b → w.heap[b]? = some o → unfrozen o
theorem Sta.dom {h0 : H0} {lo : Nat} {D0 : Data} {mods : List Nat} {μ : Boxes} {D : Data} {w : World} (h : Sta h0 lo D0 mods μ D w) : Dom lo D w := ⟨h.agr, h.size, fun b o hb => h.fz b o (Or.inl hb)⟩
/-- Whatever lies in none of the blocks of a list is as it was. -/
def Low (β : List Nat) (D : Data) (w : World) (D' : Data) (w' : World) : Prop := w.heap.size ≤ w'.heap.size ∧ (∀ b, b < w.heap.size → b ∉ β → w'.heap[b]? = w.heap[b]? ∧ D' b = D b) ∧ wenv w' = wenv w
theorem Low.refl (β : List Nat) (D : Data) (w : World) : Low β D w D w := ⟨Nat.le_refl _, fun _ _ _ => ⟨rfl, rfl⟩, rfl⟩
/-- What somebody else knows of the world, who does not touch the blocks of the list: it stays, whatever is done in these and in new ones. -/
structure Stb (lo : Nat) (J : List Nat → Data → World → Prop) : Prop where
  low : ∀ β D w D' w', J β D w → Low β D w D' w' → Dom lo D' w' → J β D' w'
  own : ∀ β β' D w, J β D w → (∀ b ∈ β', b ∈ β ∨ w.heap.size ≤ b) → J β' D w
structure Cx where
  r : Option Nat
  N : Nat
  ds : List Deferred
  h0 : H0
  lo : Nat
  D0 : Data
  mods : List Nat
  ex : Option (List Nat → Data → World → Prop)
/-- What else is known, of somebody who does not touch the boxes. -/
def exOk (X : Cx) (μ : Boxes) (D : Data) (w : World) : Prop :=
  match X.ex with
  | none => True
  | some J => Stb X.lo J ∧ J (μ.map (·.1)) D w
theorem exOk.step {X : Cx} {μ μ' : Boxes} {D D' : Data} {w w' : World} (h : exOk X μ D w) (hk : X.ex ≠ none → ∀ p ∈ μ', p.1 ∈ μ.map (·.1) ∨ w.heap.size ≤ p.1) (hl : X.ex ≠ none → Low (μ.map (·.1)) D w D' w') (hd : Dom X.lo D' w') : exOk X μ' D' w' := by
  unfold exOk at *
  cases hx : X.ex with
  | none => trivial
  | some J =>
    rw [hx] at h
    have hne : X.ex ≠ none := by simp [hx]
    refine ⟨h.1, ?_⟩
    have h1 := h.1.own _ (μ'.map (·.1) ++ μ.map (·.1)) D w h.2 (fun b hb => by
      rcases List.mem_append.1 hb with hb | hb
      · obtain ⟨p, hp, rfl⟩ := List.mem_map.1 hb; exact hk hne p hp
      · exact Or.inl hb)
    have h2 := h.1.low _ D w D' w' h1 ⟨(hl hne).1, fun b hb hn => (hl hne).2.1 b hb (fun hm => hn (List.mem_append_right _ hm)), (hl hne).2.2⟩ hd
    exact h.1.own _ _ D' w' h2 (fun b hb => Or.inl (List.mem_append_left _ hb))
def Hl (X : Cx) (σ : Slots) (μ : Boxes) (Ds : List Data) (a : Act) (w : World) : Prop :=
  a.tmps.size = X.N ∧ (∀ s v, look σ s = some v → a.tmps[s]? = some v) ∧ a.defers = X.ds ∧ ∃ D, Sta X.h0 X.lo X.D0 X.mods μ D w ∧ (∀ D₁ ∈ Ds, Le D₁ D) ∧ exOk X μ D w
/-- A list of operations, from what is known on. -/
def WL (P : Program) (X : Cx) {γb : Type} [Membership Nat γb] (bad : γb) (all : Array Oper) (K : Act → World → Prop) (Q : Exit → Act → World → Prop) (os : List (Bool × Nat)) (σ : Slots) (μ : Boxes) (Ds : List Data) : Prop :=
  ∀ a w, Hl X σ μ Ds a w → wpL X.r bad P all K Q (opsAt all os) a w
/-- Code, from what is known on. -/
def WC (P : Program) (X : Cx) (Q : Exit → Act → World → Prop) (c : Code) (σ : Slots) (μ : Boxes) (Ds : List Data) : Prop :=
  ∀ a w, Hl X σ μ Ds a w → c.wpIn (FW X.r) 0 P Q a w
variable {P : Program} {X : Cx} {γb : Type} [Membership Nat γb] {bad : γb} {all : Array Oper} {K : Act → World → Prop} {Q : Exit → Act → World → Prop}
variable {σ : Slots} {μ : Boxes} {Ds : List Data} {os : List (Bool × Nat)} {fl : Bool} {ix : Nat}
theorem Hl.eval {a : Act} {w : World} (h : Hl X σ μ Ds a w) {x : Operand} {v : Value} (hx : ev σ x = some v) : a.eval x = v := by
  cases x with
  | tmp t =>
    have := h.2.1 t v hx
    show a.tmps.getD t undef = v
    rw [Array.getD_eq_getD_getElem?, this]; rfl
  | const v => exact Option.some.inj hx
  | global g => exact Option.some.inj hx
  | func f => exact Option.some.inj hx
theorem Hl.put {a : Act} {w : World} (h : Hl X σ μ Ds a w) {d : Nat} (hd : Nat.blt d X.N = true) (v : Value) : Hl X ((d, v) :: σ) μ Ds (a.put (some d) v) w := by
  have hd' : d < X.N := by simpa [Nat.blt_eq] using hd
  refine ⟨by simpa [Act.put] using h.1, fun s u hs => ?_, h.2.2.1, h.2.2.2⟩
  simp only [look] at hs
  simp only [Act.put]
  cases hb : Nat.beq d s with
  | true =>
    rw [hb] at hs
    obtain rfl := Nat.eq_of_beq_eq_true hb
    cases hs
    rw [Array.getElem?_setIfInBounds_self_of_lt (by rw [h.1]; exact hd')]
  | false =>
    rw [hb] at hs
    rw [Array.getElem?_setIfInBounds_ne (fun e => by subst e; simp at hb)]
    exact h.2.1 s u hs
/-- What a slot's fact is worth: each of the second list's is one of the first's. -/
def Sub : Slots → Slots → Prop
  | _, [] => True
  | σ, (k, v) :: r => look σ k = some v ∧ Sub σ r
theorem Sub.look {σ σ' : Slots} (h : Sub σ σ') {s : Nat} {v : Value} (hv : look σ' s = some v) : look σ s = some v := by
  induction σ' with
  | nil => cases hv
  | cons p r ih =>
    obtain ⟨k, u⟩ := p
    simp only [Fs.look] at hv
    cases hb : Nat.beq k s with
    | true => rw [hb] at hv; cases hv; obtain rfl := Nat.eq_of_beq_eq_true hb; exact h.1
    | false => rw [hb] at hv; exact ih h.2 hv
/-- Boxes may be forgotten, and listed in another order. -/
theorem Sta.sub {h0 : H0} {lo : Nat} {D0 : Data} {mods : List Nat} {μ μ' : Boxes} {D : Data} {w : World} (h : Sta h0 lo D0 mods μ D w) (hs : ∀ p ∈ μ', p ∈ μ) (hn : (μ'.map (·.1)).Nodup) : Sta h0 lo D0 mods μ' D w :=
  ⟨h.hlo, h.size, h.old, h.dold, h.agr, fun p hp => h.box p (hs p hp), hn, h.fz, h.env⟩
theorem Hl.weak {σ' : Slots} {μ' : Boxes} {Ds' : List Data} {a : Act} {w : World} (h : Hl X σ μ Ds a w) (hσ : Sub σ σ') (hμ : μ'.Sublist μ) (hD : ∀ D ∈ Ds', ∃ D' ∈ Ds, Le D D') : Hl X σ' μ' Ds' a w := by
  obtain ⟨h1, h2, h3, D, h4, h5, h6⟩ := h
  refine ⟨h1, fun s v hv => h2 s v (hσ.look hv), h3, D, h4.sub (fun p hp => hμ.mem hp) ((hμ.map (·.1)).nodup h4.nd), fun D₁ hD₁ => ?_, h6.step (fun _ p hp => Or.inl (List.mem_map.2 ⟨p, hμ.mem hp, rfl⟩)) (fun _ => Low.refl _ _ _) h4.dom⟩
  obtain ⟨D₂, hm, hle⟩ := hD D₁ hD₁
  exact hle.trans (h5 D₂ hm)
theorem Sub.app {σ σ1 σ2 : Slots} (h1 : Sub σ σ1) (h2 : Sub σ σ2) : Sub σ (σ1 ++ σ2) := by
  induction σ1 with
  | nil => exact h2
  | cons p r ih => exact ⟨h1.1, ih h1.2⟩
theorem look_append {σ1 σ2 : Slots} {s : Nat} {v : Value} (h : look (σ1 ++ σ2) s = some v) : look σ1 s = some v ∨ look σ2 s = some v := by
  induction σ1 with
  | nil => exact Or.inr h
  | cons p r ih =>
    obtain ⟨k, u⟩ := p
    simp only [List.cons_append, look] at h ⊢
    cases hb : Nat.beq k s with
    | true => rw [hb] at h; exact Or.inl h
    | false => rw [hb] at h; exact ih h
/-! ### Rules of the code -/
def NP (Q : Exit → Act → World → Prop) : Prop := ∀ c a w, ¬ Q (.panic c) a w
theorem C.seq {x y : Code} (h : WC P X (Exit.then (y.wpIn (FW X.r) 0 P Q) Q) x σ μ Ds) : WC P X Q (.seq x y) σ μ Ds :=
  fun a w hh => wpIn_seq (h a w hh)
theorem C.skip (h : ∀ a w, Hl X σ μ Ds a w → Q .normal a w) : WC P X Q .skip σ μ Ds := fun a w hh => wpIn_skip (h a w hh)
theorem C.exit {id : Nat} (h : ∀ a w, Hl X σ μ Ds a w → Q (.exit id) a w) : WC P X Q (.exit id) σ μ Ds := fun a w hh => wpIn_exit (h a w hh)
theorem C.ret (h : ∀ a w, Hl X σ μ Ds a w → Q .ret a w) : WC P X Q .ret σ μ Ds := fun a w hh => wpIn_ret (h a w hh)
/-- What comes next. -/
theorem C.next {y : Code} (h : WC P X Q y σ μ Ds) : ∀ a w, Hl X σ μ Ds a w → (Exit.then (y.wpIn (FW X.r) 0 P Q) Q) .normal a w := h
theorem C.cond {c : Operand} {x y : Code} {b : Bool} (hc : ev σ c = some (.bool b)) (ht : b = true → WC P X Q x σ μ Ds) (hf : b = false → WC P X Q y σ μ Ds) : WC P X Q (.cond c x y) σ μ Ds :=
  fun a w hh => wpIn_cond_split (hh.eval hc) (fun e => ht e a w hh) (fun e => hf e a w hh)
theorem C.block {id : Nat} {c : Code} (h : WC P X (Exit.inBlock id Q) c σ μ Ds) : WC P X Q (.block id c) σ μ Ds := fun a w hh => wpIn_block (h a w hh)
theorem C.block_exit {id : Nat} {a : Act} {w : World} (h : Q .normal a w) : Exit.inBlock id Q (.exit id) a w := by simp [Exit.inBlock, h]
theorem C.block_other {id id' : Nat} (hne : Nat.beq id' id = false) {a : Act} {w : World} (h : Q (.exit id') a w) : Exit.inBlock id Q (.exit id') a w := by
  have : id' ≠ id := fun e => by subst e; simp at hne
  simp [Exit.inBlock, this, h]
theorem C.region (is : List (Bool × Nat)) {id : Nat} {ops : Array Oper} (hi : is = (List.range ops.size).map fun i => (false, i)) (h : WL P X [] ops (fun a w => Q .normal a w) Q is σ μ Ds) : WC P X Q (.region id ops false) σ μ Ds :=
  fun a w hh => wp_plain (by rw [plain_eq, ← hi]; exact h a w hh)
theorem Hl.drew {a : Act} {w : World} (h : Hl X σ μ Ds a w) : Hl X σ μ Ds a { w with drawn := w.drawn + 1 } := by
  obtain ⟨h1, h2, h3, D, h4, h5, h6⟩ := h
  exact ⟨h1, h2, h3, D, ⟨h4.hlo, h4.size, h4.old, h4.dold, h4.agr, h4.box, h4.nd, h4.fz, h4.env⟩, h5, h6.step (fun _ p hp => Or.inl (List.mem_map.2 ⟨p, hp, rfl⟩)) (fun _ => ⟨Nat.le_refl _, fun _ _ _ => ⟨rfl, rfl⟩, rfl⟩) h4.dom⟩
theorem C.draw {γb : Type} [Membership Nat γb] (bad : γb) (n : Nat) (c : List Nat) (bits : List Bool) (is : List (Bool × Nat)) {id : Nat} {ops : Array Oper} (hm : P.follows .mixedOrders = true) (hQ : NP Q) (hc : (canon ops n c && (bitsOf ops n [] c == bits)) = true) (hi : is = bits.zip c)
    (h : WL P X bad ops (fun a w => Q .normal a w) Q is σ μ Ds) : WC P X Q (.region id ops true) σ μ Ds := by
  rw [Bool.and_eq_true] at hc
  intro a w hh
  refine wp_draw (bad := bad) hm hc.1 hQ ?_
  rw [listed_eq, eq_of_beq hc.2, ← hi]
  exact h a _ hh.drew
/-- By segments, from what is known on; K behind them. -/
def WS (P : Program) (X : Cx) {γb : Type} [Membership Nat γb] (bad : γb) (all : Array Oper) (fls : List Bool) (K : Act → World → Prop) (Q : Exit → Act → World → Prop) (segs : List Plan) (σ : Slots) (μ : Boxes) (Ds : List Data) : Prop :=
  ∀ a w, Hl X σ μ Ds a w → wpSL X.r bad P all fls Q K segs a w
/-- One segment, or what is left of it. -/
def WP (P : Program) (X : Cx) {γb : Type} [Membership Nat γb] (bad : γb) (all : Array Oper) (fls : List Bool) (kont : Act → World → Prop) (Q : Exit → Act → World → Prop) (pl : Plan) (σ : Slots) (μ : Boxes) (Ds : List Data) : Prop :=
  ∀ a w, Hl X σ μ Ds a w → wpPL X.r bad P all fls Q kont pl a w
theorem C.drawS {γb : Type} [Membership Nat γb] (bad : γb) (n : Nat) (fls : List Bool) (segs : List Plan) {id : Nat} {ops : Array Oper} (hm : P.follows .mixedOrders = true) (hQ : NP Q) (hc : (segsChk ops n fls [] segs && segs.all fun pl => planLt ops.size pl) = true)
    (h : WS P X bad ops fls (fun a w => Q .normal a w) Q segs σ μ Ds) : WC P X Q (.region id ops true) σ μ Ds := by
  intro a w hh
  exact wp_drawS (bad := bad) hm hc hQ (h a _ hh.drew)
section segments
variable {fls : List Bool} {kont : Act → World → Prop}
theorem S.nil (h : ∀ a w, Hl X σ μ Ds a w → K a w) : WS P X bad all fls K Q [] σ μ Ds := h
theorem S.fin {c : List Nat} {segs : List Plan} (is : List (Bool × Nat)) (hi : is = c.map fun i => (fls.getD i false, i)) (h : WL P X bad all (fun a w => wpSL X.r bad P all fls Q K segs a w) Q is σ μ Ds) : WS P X bad all fls K Q (.fin c :: segs) σ μ Ds := by
  subst hi; exact h
theorem S.cons {pl : Plan} {segs : List Plan} (h : WP P X bad all fls (fun a w => wpSL X.r bad P all fls Q K segs a w) Q pl σ μ Ds) : WS P X bad all fls K Q (pl :: segs) σ μ Ds := h
theorem L.planFin {c : List Nat} (is : List (Bool × Nat)) (hi : is = c.map fun i => (fls.getD i false, i)) (h : WL P X bad all kont Q is σ μ Ds) : WP P X bad all fls kont Q (.fin c) σ μ Ds := by
  subst hi; exact h
theorem L.planFork {d : List Nat} {p q : Nat} {A B : Plan} (is : List (Bool × Nat)) (hi : is = d.map fun i => (fls.getD i false, i))
    (h : WL P X bad all (fun a w => wpL X.r bad P all (wpPL X.r bad P all fls Q kont A) Q (opsAt all [(fls.getD p false, p)]) a w ∧ wpL X.r bad P all (wpPL X.r bad P all fls Q kont B) Q (opsAt all [(fls.getD q false, q)]) a w) Q is σ μ Ds) : WP P X bad all fls kont Q (.fork d p A q B) σ μ Ds := by
  subst hi; exact h
theorem L.forkP {p q : Nat} {A B : Plan} (bp bq : Bool) (hp : fls.getD p false = bp) (hq : fls.getD q false = bq) (h1 : WL P X bad all (fun a w => wpPL X.r bad P all fls Q kont A a w) Q [(bp, p)] σ μ Ds) (h2 : WL P X bad all (fun a w => wpPL X.r bad P all fls Q kont B a w) Q [(bq, q)] σ μ Ds) :
    ∀ a w, Hl X σ μ Ds a w → wpL X.r bad P all (wpPL X.r bad P all fls Q kont A) Q (opsAt all [(fls.getD p false, p)]) a w ∧ wpL X.r bad P all (wpPL X.r bad P all fls Q kont B) Q (opsAt all [(fls.getD q false, q)]) a w := fun a w hh => by
  subst hp hq
  exact ⟨h1 a w hh, h2 a w hh⟩
/-- More than two ways to go on. -/
theorem L.planForkN {d : List Nat} {p : Nat} {ps : List Nat} {A : Nat → Plan} (is : List (Bool × Nat)) (hi : is = d.map fun i => (fls.getD i false, i))
    (h : WL P X bad all (fun a w => ∀ i ∈ p :: ps, wpL X.r bad P all (wpPL X.r bad P all fls Q kont (A i)) Q (opsAt all [(fls.getD i false, i)]) a w) Q is σ μ Ds) : WP P X bad all fls kont Q (.forkN d p ps A) σ μ Ds := by
  subst hi; exact h
theorem L.altNil {A : Nat → Plan} : ∀ a w, Hl X σ μ Ds a w → ∀ i ∈ ([] : List Nat), wpL X.r bad P all (wpPL X.r bad P all fls Q kont (A i)) Q (opsAt all [(fls.getD i false, i)]) a w := fun _ _ _ _ h => by cases h
theorem L.altCons {A : Nat → Plan} {p : Nat} {ps : List Nat} (b : Bool) {B : Plan} (hb : fls.getD p false = b) (hB : A p = B) (h1 : WL P X bad all (fun a w => wpPL X.r bad P all fls Q kont B a w) Q [(b, p)] σ μ Ds)
    (h2 : ∀ a w, Hl X σ μ Ds a w → ∀ i ∈ ps, wpL X.r bad P all (wpPL X.r bad P all fls Q kont (A i)) Q (opsAt all [(fls.getD i false, i)]) a w) :
    ∀ a w, Hl X σ μ Ds a w → ∀ i ∈ p :: ps, wpL X.r bad P all (wpPL X.r bad P all fls Q kont (A i)) Q (opsAt all [(fls.getD i false, i)]) a w := fun a w hh i hi => by
  rcases List.mem_cons.1 hi with rfl | hi
  · rw [hb, hB]; exact h1 a w hh
  · exact h2 a w hh i hi
end segments
def alts : List (Nat × Plan) → Nat → Plan
  | [], _ => .fin []
  | (j, pl) :: l, i => bif Nat.beq i j then pl else alts l i
/-- A loop: what is known at each round's head goes by a letter g; 'm' falls. -/
theorem C.loop {γ : Type} {c : Code} (m : γ → Nat) (I : γ → Prop) (S : γ → Slots) (M : γ → Boxes) (E : γ → List Data) (g₀ : γ) (h₀ : I g₀) (hσ : Sub σ (S g₀)) (hμ : (M g₀).Sublist μ) (hD : ∀ D ∈ E g₀, ∃ D' ∈ Ds, Le D D')
    (round : ∀ g, I g → WC P X (Exit.then (fun a w => ∃ g', I g' ∧ m g' < m g ∧ Hl X (S g') (M g') (E g') a w) Q) c (S g) (M g) (E g)) : WC P X Q (.loop c) σ μ Ds := by
  let p : Act → World → Nat → Prop := fun a w n => ∃ g, I g ∧ m g = n ∧ Hl X (S g) (M g) (E g) a w
  have ex : ∀ a w, (∃ n, p a w n) → ∃ n, p a w n ∧ ∀ k, p a w k → n ≤ k := by
    intro a w ⟨n, hn⟩
    induction n using Nat.strongRecOn with
    | _ n ih =>
      by_cases h : ∃ k, k < n ∧ p a w k
      · obtain ⟨k, hk, hp⟩ := h; exact ih k hk hp
      · exact ⟨n, hn, fun k hk => Nat.le_of_not_lt fun hl => h ⟨k, hl, hk⟩⟩
  intro a w hh
  refine wpIn_loop (fun a w => ∃ n, p a w n) (fun a w => open Classical in if h : ∃ n, p a w n then (ex a w h).choose else 0) ⟨_, g₀, h₀, rfl, hh.weak hσ hμ hD⟩ ?_
  intro a w hI
  obtain ⟨⟨g, hg, hm, hst⟩, hmin⟩ := (ex a w hI).choose_spec
  refine wpIn_mono (round g hg a w hst) fun e a' w' hq => ?_
  cases e with
  | normal =>
    obtain ⟨g', hg', hlt, hst'⟩ := hq
    have hI' : ∃ n, p a' w' n := ⟨_, g', hg', rfl, hst'⟩
    refine ⟨hI', ?_⟩
    simp only [dif_pos hI', dif_pos hI]
    have := (ex a' w' hI').choose_spec.2 _ ⟨g', hg', rfl, hst'⟩
    omega
  | _ => exact hq
/-! ### Rules of the operations -/
/-- The operation runs: it has no guard, or its guard has said so. -/
def Gok (all : Array Oper) (σ : Slots) : Option (Nat × Bool) → Prop
  | none => True
  | some (j, want) => ∃ s, (all[j]?).bind (·.dst) = some s ∧ look σ s = some (.bool want)
/-- The operation is passed over. -/
def Gno (all : Array Oper) (σ : Slots) : Option (Nat × Bool) → Prop
  | none => False
  | some (j, want) => ∃ s v, (all[j]?).bind (·.dst) = some s ∧ look σ s = some v ∧ (match v with | .bool b => Bool.xor b want | _ => true) = true
theorem Hl.wanted {a : Act} {w : World} (h : Hl X σ μ Ds a w) {o : Oper} (hg : Gok all σ o.guard) : Region.wanted o (yielded all a.tmps) = true := by
  unfold Region.wanted
  cases hgd : o.guard with
  | none => rfl
  | some p =>
    obtain ⟨j, want⟩ := p
    rw [hgd] at hg
    obtain ⟨s, hs, hl⟩ := hg
    simp [yielded, hs, h.2.1 s _ hl]
theorem Hl.unwanted {a : Act} {w : World} (h : Hl X σ μ Ds a w) {o : Oper} (hg : Gno all σ o.guard) : Region.wanted o (yielded all a.tmps) = false := by
  unfold Region.wanted
  cases hgd : o.guard with
  | none => rw [hgd] at hg; exact hg.elim
  | some p =>
    obtain ⟨j, want⟩ := p
    rw [hgd] at hg
    obtain ⟨s, v, hs, hl, hv⟩ := hg
    have hy : yielded all a.tmps j = (match v with | .bool b => some b | _ => none) := by
      simp only [yielded, hs, Option.bind_some, h.2.1 s _ hl]
      cases v <;> rfl
    simp only [hy]
    cases v with
    | bool b => cases b <;> cases want <;> first | rfl | (simp at hv)
    | _ => rfl
theorem L.nil (h : ∀ a w, Hl X σ μ Ds a w → K a w) : WL P X bad all K Q [] σ μ Ds := fun a w hh => h a w hh
/-- A quiet operation that gives v. -/
theorem opsAt_cons {o : Oper} (ho : all[ix]? = some o) : opsAt all ((fl, ix) :: os) = (fl, o) :: opsAt all os := by simp [opsAt, ho]
theorem L.quiet {o : Oper} {d : Nat} {v : Value} (ho : all[ix]? = some o) (hq : quietKind o.op = true) (hd : o.dst = some d) (hN : Nat.blt d X.N = true) (hg : Gok all σ o.guard)
    (hv : ∀ a w, Hl X σ μ Ds a w → ∀ w', Keep bad w w' → (execOp a.eval o).run P w' = .ok (.value v) w') (k : WL P X bad all K Q os ((d, v) :: σ) μ Ds) : WL P X bad all K Q ((fl, ix) :: os) σ μ Ds := by
  intro a w hh
  rw [opsAt_cons ho]
  simp only [wpL, hq, if_true]
  refine ⟨v, Or.inl ⟨hh.wanted hg, hv a w hh⟩, ?_⟩
  rw [hd]
  exact k _ _ (hh.put hN v)
/-- A quiet operation without world: whatever the slots of its operands hold. -/
theorem L.pure {o : Oper} {d : Nat} {v : Value} (ho : all[ix]? = some o) (hq : quietKind o.op = true) (hd : o.dst = some d) (hN : Nat.blt d X.N = true) (hg : Gok all σ o.guard)
    (hv : ∀ ρ : Operand → Value, (∀ x u, ev σ x = some u → ρ x = u) → ∀ w', (execOp ρ o).run P w' = .ok (.value v) w') (k : WL P X bad all K Q os ((d, v) :: σ) μ Ds) : WL P X bad all K Q ((fl, ix) :: os) σ μ Ds :=
  L.quiet ho hq hd hN hg (fun a _ hh w' _ => hv a.eval (fun _ _ hx => hh.eval hx) w') k
/-- An operation that is passed over. -/
theorem L.pass {o : Oper} {d : Nat} (ho : all[ix]? = some o) (hd : o.dst = some d) (hN : Nat.blt d X.N = true) (hg : Gno all σ o.guard) (k : WL P X bad all K Q os ((d, undef) :: σ) μ Ds) : WL P X bad all K Q ((fl, ix) :: os) σ μ Ds := by
  intro a w hh
  rw [opsAt_cons ho]
  simp only [wpL]
  split
  · refine ⟨undef, Or.inr ⟨hh.unwanted hg, rfl⟩, ?_⟩
    rw [hd]; exact k _ _ (hh.put hN _)
  · unfold Loud
    rw [if_neg (by rw [hh.unwanted hg]; simp), hd]
    exact k _ _ (hh.put hN _)
theorem L.weakM (μ' : Boxes) (hμ : μ'.Sublist μ) (k : WL P X bad all K Q os σ μ' Ds) : WL P X bad all K Q os σ μ Ds := fun a w hh => by
  obtain ⟨h1, h2, h3, D, h4, h5, h6⟩ := hh
  exact k a w ⟨h1, h2, h3, D, h4.sub (fun p hp => hμ.mem hp) ((hμ.map (·.1)).nodup h4.nd), h5, h6.step (fun _ p hp => Or.inl (List.mem_map.2 ⟨p, hμ.mem hp, rfl⟩)) (fun _ => Low.refl _ _ _) h4.dom⟩
theorem wpL_append {K' : Act → World → Prop} : ∀ (xs ys : List (Bool × Oper)) (a : Act) (w : World), wpL X.r bad P all (fun a w => K' a w) Q xs a w → (∀ a w, K' a w → wpL X.r bad P all K Q ys a w) → wpL X.r bad P all K Q (xs ++ ys) a w
  | [], ys, a, w, h, hk => hk a w h
  | (fl, o) :: xs, ys, a, w, h, hk => by
    simp only [List.cons_append, wpL] at h ⊢
    split at h
    · rename_i hq
      rw [if_pos hq]
      obtain ⟨v, hy, h⟩ := h
      exact ⟨v, hy, wpL_append xs ys _ _ h hk⟩
    · rename_i hq
      rw [if_neg hq]
      exact h.mono fun a w hh => wpL_append xs ys a w hh hk
theorem WL.append {K' : Act → World → Prop} {xs ys : List (Bool × Nat)} {a : Act} {w : World} (h : wpL X.r bad P all (fun a w => K' a w) Q (opsAt all xs) a w) (hk : ∀ a w, K' a w → wpL X.r bad P all K Q (opsAt all ys) a w) :
    wpL X.r bad P all K Q (opsAt all (xs ++ ys)) a w := by
  rw [opsAt, List.map_append]
  exact wpL_append _ _ a w h hk
/-- 'x || y', 'x && y': the operations of y are guarded by slot s ('want': the bit at which they run); behind them slot p is picked. -/
theorem L.guarded (xs ys : List (Bool × Nat)) {s p : Nat} {b c want : Bool} (ho : os = xs ++ ys) (hs : look σ s = some (.bool b))
    (hyes : b = want → WL P X bad all (fun a w => Hl X ((p, .bool c) :: (s, .bool want) :: σ) μ Ds a w) Q xs ((s, .bool want) :: σ) μ Ds)
    (hno : b = !want → WL P X bad all (fun a w => Hl X ((p, .bool (!want)) :: (s, .bool (!want)) :: σ) μ Ds a w) Q xs ((s, .bool (!want)) :: σ) μ Ds)
    (k : WL P X bad all K Q ys ((p, .bool (bif want then b && c else b || c)) :: σ) μ Ds) : WL P X bad all K Q os σ μ Ds := by
  have hsub : ∀ u, Value.bool b = u → ∀ a w, Hl X σ μ Ds a w → Hl X ((s, u) :: σ) μ Ds a w := by
    rintro _ rfl a w ⟨h1, h2, h3⟩
    refine ⟨h1, fun t v ht => ?_, h3⟩
    simp only [look] at ht
    cases hb : Nat.beq s t with
    | true => rw [hb] at ht; cases ht; obtain rfl := Nat.eq_of_beq_eq_true hb; exact h2 _ _ hs
    | false => rw [hb] at ht; exact h2 _ _ ht
  have hback : ∀ u v, Value.bool b = u → ∀ a w, Hl X ((p, v) :: (s, u) :: σ) μ Ds a w → Hl X ((p, v) :: σ) μ Ds a w := by
    rintro _ v rfl a w ⟨h1, h2, h3⟩
    refine ⟨h1, fun t v' ht => ?_, h3⟩
    refine h2 t v' ?_
    simp only [look] at ht ⊢
    cases hp : Nat.beq p t with
    | true => rw [hp] at ht; exact ht
    | false =>
      rw [hp] at ht
      cases hb : Nat.beq s t with
      | true => obtain rfl := Nat.eq_of_beq_eq_true hb; rw [← ht, hs]
      | false => exact ht
  subst ho
  intro a w hh
  have kk : ∀ v, v = Value.bool (bif want then b && c else b || c) → ∀ a w, Hl X ((p, v) :: σ) μ Ds a w → wpL X.r bad P all K Q (opsAt all ys) a w := by rintro _ rfl a w h; exact k a w h
  cases b <;> cases want
  · exact WL.append (hyes rfl a w (hsub _ rfl a w hh)) fun a w h => kk _ rfl a w (hback _ _ rfl a w h)
  · exact WL.append (hno rfl a w (hsub _ rfl a w hh)) fun a w h => kk _ rfl a w (hback _ _ rfl a w h)
  · exact WL.append (hno rfl a w (hsub _ rfl a w hh)) fun a w h => kk _ rfl a w (hback _ _ rfl a w h)
  · exact WL.append (hyes rfl a w (hsub _ rfl a w hh)) fun a w h => kk _ rfl a w (hback _ _ rfl a w h)
theorem wpPL_mono {fls : List Bool} {k1 k2 : Act → World → Prop} (hk : ∀ a w, k1 a w → k2 a w) : ∀ (pl : Plan) (a : Act) (w : World), wpPL X.r bad P all fls Q k1 pl a w → wpPL X.r bad P all fls Q k2 pl a w
  | .fin c, a, w, h => by
    have := wpL_append (X := X) (K' := k1) _ [] a w h (fun a w h => hk a w h)
    rw [List.append_nil] at this; exact this
  | .fork d p A q B, a, w, h => by
    have one : ∀ (xs : List (Bool × Oper)) (K1 K2 : Act → World → Prop) (a : Act) (w : World), wpL X.r bad P all K1 Q xs a w → (∀ a w, K1 a w → K2 a w) → wpL X.r bad P all K2 Q xs a w := fun xs K1 K2 a w h hh => by
      have := wpL_append (X := X) (K' := K1) xs [] a w h (fun a w h => hh a w h)
      rw [List.append_nil] at this; exact this
    exact one _ _ _ a w h fun a w hh => ⟨one _ _ _ a w hh.1 (wpPL_mono hk A), one _ _ _ a w hh.2 (wpPL_mono hk B)⟩
  | .forkN d p ps A, a, w, h => by
    have one : ∀ (xs : List (Bool × Oper)) (K1 K2 : Act → World → Prop) (a : Act) (w : World), wpL X.r bad P all K1 Q xs a w → (∀ a w, K1 a w → K2 a w) → wpL X.r bad P all K2 Q xs a w := fun xs K1 K2 a w h hh => by
      have := wpL_append (X := X) (K' := K1) xs [] a w h (fun a w h => hh a w h)
      rw [List.append_nil] at this; exact this
    exact one _ _ _ a w h fun a w hh i hi => one _ _ _ a w (hh i hi) (wpPL_mono hk (A i))
theorem wpSL_append {fls : List Bool} {K' : Act → World → Prop} : ∀ (xs ys : List Plan) (a : Act) (w : World), wpSL X.r bad P all fls Q K' xs a w → (∀ a w, K' a w → wpSL X.r bad P all fls Q K ys a w) → wpSL X.r bad P all fls Q K (xs ++ ys) a w
  | [], _, a, w, h, hk => hk a w h
  | x :: xs, ys, a, w, h, hk => wpPL_mono (fun a w h => wpSL_append xs ys a w h hk) x a w h
/-- Both ways come to the same: what holds behind the first segments goes by a letter g. -/
theorem S.join {fls : List Bool} {γ : Type} (I : γ → Prop) (S : γ → Slots) (M : γ → Boxes) (E : γ → List Data) (xs ys : List Plan) {segs : List Plan} (ho : segs = xs ++ ys) (h1 : WS P X bad all fls (fun a w => ∃ g, I g ∧ Hl X (S g) (M g) (E g) a w) Q xs σ μ Ds)
    (h2 : ∀ g, I g → WS P X bad all fls K Q ys (S g) (M g) (E g)) : WS P X bad all fls K Q segs σ μ Ds := by
  subst ho
  intro a w hh
  exact wpSL_append xs ys a w (h1 a w hh) fun a w ⟨g, hg, h⟩ => h2 g hg a w h
theorem L.and (xs ys : List (Bool × Nat)) {s p : Nat} {b c : Bool} (ho : os = xs ++ ys) (hs : look σ s = some (.bool b))
    (hyes : b = true → WL P X bad all (fun a w => Hl X ((p, .bool c) :: (s, .bool true) :: σ) μ Ds a w) Q xs ((s, .bool true) :: σ) μ Ds)
    (hno : b = false → WL P X bad all (fun a w => Hl X ((p, .bool false) :: (s, .bool false) :: σ) μ Ds a w) Q xs ((s, .bool false) :: σ) μ Ds)
    (k : WL P X bad all K Q ys ((p, .bool (b && c)) :: σ) μ Ds) : WL P X bad all K Q os σ μ Ds :=
  L.guarded xs ys (want := true) ho hs hyes hno k
theorem L.or (xs ys : List (Bool × Nat)) {s p : Nat} {b c : Bool} (ho : os = xs ++ ys) (hs : look σ s = some (.bool b))
    (hyes : b = false → WL P X bad all (fun a w => Hl X ((p, .bool c) :: (s, .bool false) :: σ) μ Ds a w) Q xs ((s, .bool false) :: σ) μ Ds)
    (hno : b = true → WL P X bad all (fun a w => Hl X ((p, .bool true) :: (s, .bool true) :: σ) μ Ds a w) Q xs ((s, .bool true) :: σ) μ Ds)
    (k : WL P X bad all K Q ys ((p, .bool (b || c)) :: σ) μ Ds) : WL P X bad all K Q os σ μ Ds :=
  L.guarded xs ys (want := false) ho hs hyes hno k
/-- The first n slots' facts may be dropped: none of them hides another. -/
def dropOk : Nat → Slots → Bool
  | 0, _ => true
  | _, [] => true
  | n + 1, (k, _) :: r => (match look (r.drop n) k with | none => true | some _ => false) && dropOk n r
theorem look_drop : ∀ (n : Nat) (σ : Slots), dropOk n σ = true → ∀ s v, look (σ.drop n) s = some v → look σ s = some v
  | 0, σ, _, s, v, h => h
  | n + 1, [], _, s, v, h => h
  | n + 1, (k, u) :: r, hd, s, v, h => by
    simp only [dropOk, Bool.and_eq_true] at hd
    simp only [List.drop_succ_cons] at h
    have h2 := look_drop n r hd.2 s v h
    simp only [look]
    cases hb : Nat.beq k s with
    | false => exact h2
    | true =>
      obtain rfl := Nat.eq_of_beq_eq_true hb
      have := hd.1
      rw [h] at this
      cases this
/-- Behind a group: its own slots are dropped. -/
theorem Hl.cutK {p : Nat} {v : Value} {a : Act} {w : World} (n : Nat) (h : Hl X ((p, v) :: σ) μ Ds a w) (hd : dropOk n σ = true) : Hl X ((p, v) :: σ.drop n) μ Ds a w := by
  obtain ⟨h1, h2, h3⟩ := h
  refine ⟨h1, fun s u hs => h2 s u ?_, h3⟩
  simp only [look] at hs ⊢
  cases hb : Nat.beq p s with
  | true => rw [hb] at hs; exact hs
  | false => rw [hb] at hs; exact look_drop n σ hd s u hs
/-! ### The ways out, one shell after the other -/
theorem C.thenRet {k : Act → World → Prop} (h : ∀ a w, Hl X σ μ Ds a w → Q .ret a w) : ∀ a w, Hl X σ μ Ds a w → Exit.then k Q .ret a w := h
theorem C.thenExit {k : Act → World → Prop} {id : Nat} (h : ∀ a w, Hl X σ μ Ds a w → Q (.exit id) a w) : ∀ a w, Hl X σ μ Ds a w → Exit.then k Q (.exit id) a w := h
theorem C.blockRet {id : Nat} (h : ∀ a w, Hl X σ μ Ds a w → Q .ret a w) : ∀ a w, Hl X σ μ Ds a w → Exit.inBlock id Q .ret a w := h
theorem C.blockEnd {id : Nat} (h : ∀ a w, Hl X σ μ Ds a w → Q .normal a w) : ∀ a w, Hl X σ μ Ds a w → Exit.inBlock id Q .normal a w := h
theorem C.blockExit {id : Nat} (h : ∀ a w, Hl X σ μ Ds a w → Q .normal a w) : ∀ a w, Hl X σ μ Ds a w → Exit.inBlock id Q (.exit id) a w := fun a w hh => C.block_exit (h a w hh)
theorem C.blockPass {id id' : Nat} (hne : Nat.beq id' id = false) (h : ∀ a w, Hl X σ μ Ds a w → Q (.exit id') a w) : ∀ a w, Hl X σ μ Ds a w → Exit.inBlock id Q (.exit id') a w := fun a w hh => C.block_other hne (h a w hh)
/-- A loop whose changing slots are 'ch'; the others are listed once. -/
theorem C.loopR {γ : Type} {c : Code} (m : γ → Nat) (I : γ → Prop) (ch : γ → Slots) (rest : Slots) (M : γ → Boxes) (E : γ → List Data) (g₀ : γ) (h₀ : I g₀) (hch : Sub σ (ch g₀)) (hrest : Sub σ rest) (hμ : (M g₀).Sublist μ) (hD : ∀ D ∈ E g₀, ∃ D' ∈ Ds, Le D D')
    (round : ∀ g, I g → WC P X (Exit.then (fun a w => ∃ g', I g' ∧ m g' < m g ∧ Hl X (ch g' ++ rest) (M g') (E g') a w) Q) c (ch g ++ rest) (M g) (E g)) : WC P X Q (.loop c) σ μ Ds :=
  C.loop m I (fun g => ch g ++ rest) M E g₀ h₀ (Sub.app hch hrest) hμ hD round
/-- The same, where the boxes stay. -/
theorem C.loopC {γ : Type} {c : Code} (m : γ → Nat) (I : γ → Prop) (ch : γ → Slots) (rest : Slots) (E : γ → List Data) (g₀ : γ) (h₀ : I g₀) (hch : Sub σ (ch g₀)) (hrest : Sub σ rest) (hD : ∀ D ∈ E g₀, ∃ D' ∈ Ds, Le D D')
    (round : ∀ g, I g → WC P X (Exit.then (fun a w => ∃ g', I g' ∧ m g' < m g ∧ Hl X (ch g' ++ rest) ((fun _ => μ) g') (E g') a w) Q) c (ch g ++ rest) μ (E g)) : WC P X Q (.loop c) σ μ Ds :=
  C.loopR m I ch rest (fun _ => μ) E g₀ h₀ hch hrest (List.Sublist.refl _) hD round
/-- A round's end, the other slots as they were. -/
theorem C.againR {γ : Type} {m : γ → Nat} {I : γ → Prop} {ch : γ → Slots} {rest : Slots} {M : γ → Boxes} {E : γ → List Data} {g : γ} (n : Nat) (g' : γ) (h1 : I g') (h2 : m g' < m g) (hch : Sub σ (ch g')) (hn : dropOk n σ = true) (hr : σ.drop n = rest) (hμ : (M g').Sublist μ) (hD : ∀ D ∈ E g', ∃ D' ∈ Ds, Le D D') :
    ∀ a w, Hl X σ μ Ds a w → Exit.then (fun a w => ∃ g', I g' ∧ m g' < m g ∧ Hl X (ch g' ++ rest) (M g') (E g') a w) Q .normal a w := by
  intro a w hh
  refine ⟨g', h1, h2, ?_⟩
  have h3 := hh.weak (σ' := ch g') hch hμ hD
  refine ⟨h3.1, fun s v hs => ?_, h3.2.2⟩
  rcases look_append hs with hs | hs
  · exact h3.2.1 s v hs
  · subst hr; exact hh.2.1 s v (look_drop n σ hn s v hs)
theorem ds_same {Ds : List Data} : ∀ D ∈ Ds, ∃ D' ∈ Ds, Le D D' := fun D h => ⟨D, h, Le.refl D⟩
section ops
variable {d : Nat} {x y z : Operand} {u v : Value} {ty : TypeId} {pos : String} {aft : Array Edge} {g : Option (Nat × Bool)}
theorem L.move (ho : all[ix]? = some ⟨some d, .move x, ty, pos, aft, g⟩) (hx : ev σ x = some v) (hN : Nat.blt d X.N = true) (hg : Gok all σ g) (k : WL P X bad all K Q os ((d, v) :: σ) μ Ds) : WL P X bad all K Q ((fl, ix) :: os) σ μ Ds :=
  L.pure ho rfl rfl hN hg (fun ρ hρ w' => by simp [execOp, hρ x v hx, Pure.pure]) k
theorem L.assign (ho : all[ix]? = some ⟨some d, .assign x, ty, pos, aft, g⟩) (hx : ev σ x = some v) (hN : Nat.blt d X.N = true) (hg : Gok all σ g) (k : WL P X bad all K Q os ((d, v) :: σ) μ Ds) : WL P X bad all K Q ((fl, ix) :: os) σ μ Ds :=
  L.pure ho rfl rfl hN hg (fun ρ hρ w' => by simp [execOp, hρ x v hx, Pure.pure]) k
theorem L.pickT (ho : all[ix]? = some ⟨some d, .pick x y z, ty, pos, aft, g⟩) (hx : ev σ x = some (.bool true)) (hy : ev σ y = some v) (hN : Nat.blt d X.N = true) (hg : Gok all σ g) (k : WL P X bad all K Q os ((d, v) :: σ) μ Ds) : WL P X bad all K Q ((fl, ix) :: os) σ μ Ds :=
  L.pure ho rfl rfl hN hg (fun ρ hρ w' => by simp [execOp, hρ x _ hx, hρ y _ hy, asBool, go_sem]) k
theorem L.pickF (ho : all[ix]? = some ⟨some d, .pick x y z, ty, pos, aft, g⟩) (hx : ev σ x = some (.bool false)) (hy : ev σ z = some v) (hN : Nat.blt d X.N = true) (hg : Gok all σ g) (k : WL P X bad all K Q os ((d, v) :: σ) μ Ds) : WL P X bad all K Q ((fl, ix) :: os) σ μ Ds :=
  L.pure ho rfl rfl hN hg (fun ρ hρ w' => by simp [execOp, hρ x _ hx, hρ z _ hy, asBool, go_sem]) k
theorem L.not {b : Bool} {t : TypeId} (ho : all[ix]? = some ⟨some d, .unOp .not t x, ty, pos, aft, g⟩) (hx : ev σ x = some (.bool b)) (hN : Nat.blt d X.N = true) (hg : Gok all σ g) (k : WL P X bad all K Q os ((d, .bool (!b)) :: σ) μ Ds) : WL P X bad all K Q ((fl, ix) :: os) σ μ Ds :=
  L.pure ho rfl rfl hN hg (fun ρ hρ w' => by simp [execOp, hρ x _ hx, Op.unary, go_sem]) k
end ops
end Go.Fs
namespace Go.Fs
variable {P : Program} {X : Cx} {γb : Type} [Membership Nat γb] {bad : γb} {all : Array Oper} {K : Act → World → Prop} {Q : Exit → Act → World → Prop}
variable {σ : Slots} {μ : Boxes} {Ds : List Data} {os : List (Bool × Nat)} {fl : Bool} {ix : Nat}
variable {d : Nat} {x y z : Operand} {u v : Value} {ty : TypeId} {pos : String} {aft : Array Edge} {g : Option (Nat × Bool)}
/-! ### Numbers -/
def inK : IntKind → Int → Prop
  | .i8, n => -128 ≤ n ∧ n ≤ 127
  | .i16, n => -32768 ≤ n ∧ n ≤ 32767
  | .i32, n => -2147483648 ≤ n ∧ n ≤ 2147483647
  | .i64, n => -9223372036854775808 ≤ n ∧ n ≤ 9223372036854775807
  | .u8, n => 0 ≤ n ∧ n ≤ 255
  | .u16, n => 0 ≤ n ∧ n ≤ 65535
  | .u32, n => 0 ≤ n ∧ n ≤ 4294967295
  | .u64, n => 0 ≤ n ∧ n ≤ 18446744073709551615
theorem wrap_in {k : IntKind} {n : Int} (h : inK k n) : k.wrap n = n := by
  cases k <;> simp only [inK] at h <;> simp only [IntKind.wrap, IntKind.bits, IntKind.signed, Bool.true_and, Bool.false_and, Bool.false_eq_true, if_false, decide_eq_true_eq, ge_iff_le] <;>
    (first | (split <;> omega) | omega)
section nums
variable {k : IntKind} {m n : Int} {t t' : TypeId}
theorem run_bin {op : BinOp} {w : World} {r : Value} (he : op ≠ .shl ∧ op ≠ .shr) (h : (binOp op t (.int k m) (.int k n)).run P w = .ok r w) {ρ : Operand → Value} (hx : ρ x = .int k m) (hy : ρ y = .int k n) :
    (execOp ρ ⟨some d, .binOp op t x y t', ty, pos, aft, g⟩).run P w = .ok (.value r) w := by
  have hg : ∀ w, (eqGuard op t x y (.int k m) (.int k n)).run P w = .ok () w := by
    intro w; unfold eqGuard; split <;> rfl
  simp [execOp, hx, hy, h, go_sem]
theorem L.add (ho : all[ix]? = some ⟨some d, .binOp .add t x y t', ty, pos, aft, g⟩) (hx : ev σ x = some (.int k m)) (hy : ev σ y = some (.int k n)) (hr : inK k (m + n)) (hN : Nat.blt d X.N = true) (hg : Gok all σ g) (kk : WL P X bad all K Q os ((d, .int k (m + n)) :: σ) μ Ds) :
    WL P X bad all K Q ((fl, ix) :: os) σ μ Ds :=
  L.pure ho rfl rfl hN hg (fun ρ hρ w' => run_bin (by simp) (by cases k <;> simp [binOp, Op.intArith, wrap_in hr, Pure.pure]) (hρ x _ hx) (hρ y _ hy)) kk
theorem L.sub (ho : all[ix]? = some ⟨some d, .binOp .sub t x y t', ty, pos, aft, g⟩) (hx : ev σ x = some (.int k m)) (hy : ev σ y = some (.int k n)) (hr : inK k (m - n)) (hN : Nat.blt d X.N = true) (hg : Gok all σ g) (kk : WL P X bad all K Q os ((d, .int k (m - n)) :: σ) μ Ds) :
    WL P X bad all K Q ((fl, ix) :: os) σ μ Ds :=
  L.pure ho rfl rfl hN hg (fun ρ hρ w' => run_bin (by simp) (by cases k <;> simp [binOp, Op.intArith, wrap_in hr, Pure.pure]) (hρ x _ hx) (hρ y _ hy)) kk
theorem L.mul (ho : all[ix]? = some ⟨some d, .binOp .mul t x y t', ty, pos, aft, g⟩) (hx : ev σ x = some (.int k m)) (hy : ev σ y = some (.int k n)) (hr : inK k (m * n)) (hN : Nat.blt d X.N = true) (hg : Gok all σ g) (kk : WL P X bad all K Q os ((d, .int k (m * n)) :: σ) μ Ds) :
    WL P X bad all K Q ((fl, ix) :: os) σ μ Ds :=
  L.pure ho rfl rfl hN hg (fun ρ hρ w' => run_bin (by simp) (by cases k <;> simp [binOp, Op.intArith, wrap_in hr, Pure.pure]) (hρ x _ hx) (hρ y _ hy)) kk
theorem L.lss (ho : all[ix]? = some ⟨some d, .binOp .lss t x y t', ty, pos, aft, g⟩) (hx : ev σ x = some (.int k m)) (hy : ev σ y = some (.int k n)) (hN : Nat.blt d X.N = true) (hg : Gok all σ g) (kk : WL P X bad all K Q os ((d, .bool (decide (m < n))) :: σ) μ Ds) :
    WL P X bad all K Q ((fl, ix) :: os) σ μ Ds :=
  L.pure ho rfl rfl hN hg (fun ρ hρ w' => run_bin (by simp) (by cases k <;> simp [binOp, Op.intCmp, Pure.pure]) (hρ x _ hx) (hρ y _ hy)) kk
theorem L.leq (ho : all[ix]? = some ⟨some d, .binOp .leq t x y t', ty, pos, aft, g⟩) (hx : ev σ x = some (.int k m)) (hy : ev σ y = some (.int k n)) (hN : Nat.blt d X.N = true) (hg : Gok all σ g) (kk : WL P X bad all K Q os ((d, .bool (decide (m ≤ n))) :: σ) μ Ds) :
    WL P X bad all K Q ((fl, ix) :: os) σ μ Ds :=
  L.pure ho rfl rfl hN hg (fun ρ hρ w' => run_bin (by simp) (by cases k <;> simp [binOp, Op.intCmp, Pure.pure]) (hρ x _ hx) (hρ y _ hy)) kk
theorem L.gtr (ho : all[ix]? = some ⟨some d, .binOp .gtr t x y t', ty, pos, aft, g⟩) (hx : ev σ x = some (.int k m)) (hy : ev σ y = some (.int k n)) (hN : Nat.blt d X.N = true) (hg : Gok all σ g) (kk : WL P X bad all K Q os ((d, .bool (decide (n < m))) :: σ) μ Ds) :
    WL P X bad all K Q ((fl, ix) :: os) σ μ Ds :=
  L.pure ho rfl rfl hN hg (fun ρ hρ w' => run_bin (by simp) (by cases k <;> simp [binOp, Op.intCmp, Pure.pure]) (hρ x _ hx) (hρ y _ hy)) kk
theorem L.geq (ho : all[ix]? = some ⟨some d, .binOp .geq t x y t', ty, pos, aft, g⟩) (hx : ev σ x = some (.int k m)) (hy : ev σ y = some (.int k n)) (hN : Nat.blt d X.N = true) (hg : Gok all σ g) (kk : WL P X bad all K Q os ((d, .bool (decide (n ≤ m))) :: σ) μ Ds) :
    WL P X bad all K Q ((fl, ix) :: os) σ μ Ds :=
  L.pure ho rfl rfl hN hg (fun ρ hρ w' => run_bin (by simp) (by cases k <;> simp [binOp, Op.intCmp, Pure.pure]) (hρ x _ hx) (hρ y _ hy)) kk
theorem L.eql (ho : all[ix]? = some ⟨some d, .binOp .eql t x y t', ty, pos, aft, g⟩) (hx : ev σ x = some (.int k m)) (hy : ev σ y = some (.int k n)) (hN : Nat.blt d X.N = true) (hg : Gok all σ g) (kk : WL P X bad all K Q os ((d, .bool (decide (m = n))) :: σ) μ Ds) :
    WL P X bad all K Q ((fl, ix) :: os) σ μ Ds :=
  L.pure ho rfl rfl hN hg (fun ρ hρ w' => run_bin (by simp) (by cases k <;> (simp [binOp, Op.intCmp, Pure.pure]; by_cases h : m = n <;> simp [h])) (hρ x _ hx) (hρ y _ hy)) kk
theorem L.neq (ho : all[ix]? = some ⟨some d, .binOp .neq t x y t', ty, pos, aft, g⟩) (hx : ev σ x = some (.int k m)) (hy : ev σ y = some (.int k n)) (hN : Nat.blt d X.N = true) (hg : Gok all σ g) (kk : WL P X bad all K Q os ((d, .bool (decide (m ≠ n))) :: σ) μ Ds) :
    WL P X bad all K Q ((fl, ix) :: os) σ μ Ds :=
  L.pure ho rfl rfl hN hg (fun ρ hρ w' => run_bin (by simp) (by cases k <;> (simp [binOp, Op.intCmp, Pure.pure]; by_cases h : m = n <;> simp [h])) (hρ x _ hx) (hρ y _ hy)) kk
/-- '%' and '/' of a number that is not negative by one above 0. -/
theorem L.rem (ho : all[ix]? = some ⟨some d, .binOp .rem t x y t', ty, pos, aft, g⟩) (hx : ev σ x = some (.int k m)) (hy : ev σ y = some (.int k n)) (h0 : 0 ≤ m) (h1 : 0 < n) (hr : inK k (m % n)) (hN : Nat.blt d X.N = true) (hg : Gok all σ g) (kk : WL P X bad all K Q os ((d, .int k (m % n)) :: σ) μ Ds) :
    WL P X bad all K Q ((fl, ix) :: os) σ μ Ds :=
  L.pure ho rfl rfl hN hg (fun ρ hρ w' => run_bin (by simp) (by
    have hn : ¬ n = 0 := by omega
    have e : m.tmod n = m % n := Int.tmod_eq_emod_of_nonneg h0
    cases k <;> simp [binOp, Op.intDiv, hn, e, Pure.pure]) (hρ x _ hx) (hρ y _ hy)) kk
theorem L.quo (ho : all[ix]? = some ⟨some d, .binOp .quo t x y t', ty, pos, aft, g⟩) (hx : ev σ x = some (.int k m)) (hy : ev σ y = some (.int k n)) (h0 : 0 ≤ m) (h1 : 0 < n) (hr : inK k (m / n)) (hN : Nat.blt d X.N = true) (hg : Gok all σ g) (kk : WL P X bad all K Q os ((d, .int k (m / n)) :: σ) μ Ds) :
    WL P X bad all K Q ((fl, ix) :: os) σ μ Ds :=
  L.pure ho rfl rfl hN hg (fun ρ hρ w' => run_bin (by simp) (by
    have hn : ¬ n = 0 := by omega
    have e : m.tdiv n = m / n := Int.tdiv_eq_ediv_of_nonneg h0
    cases k <;> simp [binOp, Op.intDiv, hn, e, wrap_in hr, Pure.pure]) (hρ x _ hx) (hρ y _ hy)) kk
end nums
theorem C.condD {c : Operand} {a b : Code} {p : Prop} [Decidable p] (hc : ev σ c = some (.bool (decide p))) (ht : p → WC P X Q a σ μ Ds) (hf : ¬ p → WC P X Q b σ μ Ds) : WC P X Q (.cond c a b) σ μ Ds :=
  C.cond hc (fun e => ht (of_decide_eq_true e)) (fun e => hf (of_decide_eq_false e))
/-! ### Types: what the walk asks of them -/
def TA (P : Program) (t : TypeId) (b : Bool) : Prop := ∀ w, (isAgg t).run P w = .ok b w
def TS (P : Program) (t : TypeId) (n : Nat) : Prop := ∀ w, (sizeOf t).run P w = .ok n w
def TU (P : Program) (t : TypeId) (u : TypeDesc) : Prop := ∀ w, (underlying t).run P w = .ok u w
def TZ (P : Program) (t : TypeId) (v : Value) : Prop := ∀ w, (zeroValue t).run P w = .ok v w
theorem TU.of {t : TypeId} {u : TypeDesc} (h : P.underlying t = some u) : TU P t u := fun w => by simp [underlying, program, Sem.run, h, go_sem]
theorem TA.of {t : TypeId} {u : TypeDesc} (h : P.underlying t = some u) (b : Bool) (hb : (match u with | .struct _ => true | .array _ _ => true | _ => false) = b) : TA P t b := fun w => by
  have := TU.of h w
  unfold isAgg
  rw [Sem.run_bind, this]
  subst hb
  cases u <;> rfl
theorem TS.of {t : TypeId} {n : Nat} (h : (P.info? t).map (·.size) = some n) : TS P t n := fun w => by
  cases hi : P.info? t with
  | none => simp [hi] at h
  | some i => simp [hi] at h; simp [sizeOf, typeInfo, program, Sem.run, hi, h, go_sem]
theorem TZ.of {t : TypeId} {v : Value} (h : (P.info? t).bind (·.zero) = some v) : TZ P t v := fun w => by
  cases hi : P.info? t with
  | none => simp [hi] at h
  | some i => simp [hi] at h; simp [zeroValue, typeInfo, program, Sem.run, hi, h, go_sem]
/-! ### Cells -/
theorem cell_of {w : World} {b off : Nat} {cs : Array Value} {e : TypeId} {fz : Nat × Nat} {v : Value} (h : w.heap[b]? = some (.cells cs e fz)) (hv : cs[off]? = some v) : w.cell? ⟨b, off, none⟩ = some v := by
  simp [World.cell?, h, hv]
theorem run_load {w : World} {a : Addr} {v : Value} (h : w.cell? a = some v) : (load a).run P w = .ok v w := by
  simp [load, Sem.run, h]
theorem run_loadCellsFrom {w : World} {b off : Nat} : ∀ (n i : Nat) (acc : Array Value) (vs : List Value), vs.length = n → (∀ j v, vs[j]? = some v → w.cell? ⟨b, off + (i + j), none⟩ = some v) →
    (loadCellsFrom ⟨b, off, none⟩ i n acc).run P w = .ok (acc ++ vs.toArray) w := by
  intro n
  induction n with
  | zero => intro i acc vs hl _; have : vs = [] := List.length_eq_zero_iff.1 hl; subst this; simp [loadCellsFrom, Pure.pure]
  | succ n ih =>
    intro i acc vs hl h
    cases vs with
    | nil => simp at hl
    | cons v vs =>
      have h0 := h 0 v rfl
      have ha : (⟨b, off, none⟩ : Addr).add i = ⟨b, off + i, none⟩ := by
        unfold Addr.add; split
        · rename_i h; subst h; rfl
        · rfl
      simp only [loadCellsFrom]
      rw [Sem.run_bind, ha, run_load (by simpa using h0)]
      show (loadCellsFrom ⟨b, off, none⟩ (i + 1) n (acc.push v)).run P w = _
      rw [ih (i + 1) (acc.push v) vs (by simpa using hl) (fun j u hu => by
        have := h (j + 1) u (by simpa using hu)
        rw [show off + (i + (j + 1)) = off + (i + 1 + j) by omega] at this
        exact this)]
      simp
/-- The cells at an address of the world, written out. -/
def Lies (w : World) (b off : Nat) (vs : List Value) : Prop := ∀ j v, vs[j]? = some v → w.cell? ⟨b, off + j, none⟩ = some v
theorem run_loadAt_agg {w : World} {t : TypeId} {b off : Nat} {vs : List Value} (ha : TA P t true) (hs : TS P t vs.length) (h : Lies w b off vs) : (Instr.loadAt t (.pointer (some ⟨b, off, none⟩))).run P w = .ok (.agg vs.toArray) w := by
  unfold Instr.loadAt Instr.sureAddr loadVar loadCells
  simp only [Sem.run_bind, Sem.run_pure, Result.andThen, ha w, hs w, if_true, pure_bind]
  rw [run_loadCellsFrom vs.length 0 #[] vs rfl (fun j v hv => by rw [show off + (0 + j) = off + j by omega]; exact h j v hv)]
  simp
theorem run_loadAt_one {w : World} {t : TypeId} {b off : Nat} {v : Value} (ha : TA P t false) (h : w.cell? ⟨b, off, none⟩ = some v) : (Instr.loadAt t (.pointer (some ⟨b, off, none⟩))).run P w = .ok v w := by
  unfold Instr.loadAt Instr.sureAddr loadVar
  simp only [Sem.run_bind, Result.andThen, ha w, pure_bind]
  exact run_load h
/-! ### What a known state gives -/
theorem lt_of_some {w : World} {b : Nat} {o : Obj} (h : w.heap[b]? = some o) : b < w.heap.size := (Array.getElem?_eq_some_iff.1 h).1
theorem Hl.boxAt {a : Act} {w w' : World} (h : Hl X σ μ Ds a w) {b : Nat} {o : Obj} (hm : (b, o) ∈ μ) (hb : b ∉ bad) (hk : Keep bad w w') : w'.heap[b]? = some o := by
  obtain ⟨_, _, _, D, hs, _⟩ := h
  have := (hs.box _ hm).1
  rw [hk.2 b (lt_of_some this) hb]; exact this
theorem Agrees.cell {D : Data} {w : World} (h : Agrees D w) {b i : Nat} {v : Value} (hv : (D b)[i]? = some v) : w.cell? ⟨b, i, none⟩ = some v := by
  have hne : D b ≠ [] := fun e => by rw [e] at hv; simp at hv
  obtain ⟨cs, e, fz, hc, hp⟩ := h b hne
  obtain ⟨t, ht⟩ := hp
  refine cell_of hc ?_
  have hl := (List.getElem?_eq_some_iff.1 hv).1
  have : cs.toList[i]? = some v := by rw [← ht, List.getElem?_append_left hl]; exact hv
  simpa using this
theorem Hl.dataAt {a : Act} {w w' : World} (h : Hl X σ μ Ds a w) {D₁ : Data} (hD : D₁ ∈ Ds) {b i : Nat} {v : Value} (hv : (D₁ b)[i]? = some v) (hb : b ∉ bad) (hk : Keep bad w w') :
    w'.cell? ⟨b, i, none⟩ = some v := by
  obtain ⟨_, _, _, D, hs, hl, _⟩ := h
  have hc := hs.agr.cell ((hl D₁ hD).get hv)
  unfold World.cell? at hc ⊢
  cases hw : w.heap[b]? with
  | none => simp [hw] at hc
  | some o => rw [show (⟨b, i, none⟩ : Addr).block = b from rfl, hk.2 b (lt_of_some hw) hb]; exact hc
/-- The data hold these cells at an address. -/
def At (D : Data) (b o : Nat) (cs : List Value) : Prop := ∀ j v, cs[j]? = some v → (D b)[o + j]? = some v
theorem At.up {D D' : Data} {b o : Nat} {cs : List Value} (h : At D b o cs) (hl : Le D D') : At D' b o cs := fun j v hv => hl.get (h j v hv)
theorem Hl.liesD {a : Act} {w w' : World} (h : Hl X σ μ Ds a w) {D₁ : Data} (hD : D₁ ∈ Ds) {b o : Nat} {cs : List Value} (hA : At D₁ b o cs) (hb : b ∉ bad) (hk : Keep bad w w') : Lies w' b o cs :=
  fun j v hv => h.dataAt hD (hA j v hv) hb hk
/-! ### Loads -/
theorem L.loadB1 {t : TypeId} {b off : Nat} {vs : List Value} {e : TypeId} {fz : Nat × Nat} (ho : all[ix]? = some ⟨some d, .load t x, ty, pos, aft, g⟩) (ha : TA P t false) (hx : ev σ x = some (.pointer (some ⟨b, off, none⟩))) (hm : (b, .cells vs.toArray e fz) ∈ μ) (hv : vs[off]? = some v) (hb : b ∉ bad)
    (hN : Nat.blt d X.N = true) (hg : Gok all σ g) (kk : WL P X bad all K Q os ((d, v) :: σ) μ Ds) : WL P X bad all K Q ((fl, ix) :: os) σ μ Ds :=
  L.quiet ho rfl rfl hN hg (fun a w hh w' hk => by
    simp only [execOp, hh.eval hx]
    rw [Sem.run_bind, run_loadAt_one ha (cell_of (hh.boxAt hm hb hk) (by simpa using hv))]
    rfl) kk
/-- A whole block. -/
theorem L.loadBW {t : TypeId} {b : Nat} {vs : List Value} {e : TypeId} {fz : Nat × Nat} (ho : all[ix]? = some ⟨some d, .load t x, ty, pos, aft, g⟩) (ha : TA P t true) (hx : ev σ x = some (.pointer (some ⟨b, 0, none⟩))) (hm : (b, .cells vs.toArray e fz) ∈ μ) (hs : TS P t vs.length) (hb : b ∉ bad)
    (hN : Nat.blt d X.N = true) (hg : Gok all σ g) (kk : WL P X bad all K Q os ((d, .agg vs.toArray) :: σ) μ Ds) : WL P X bad all K Q ((fl, ix) :: os) σ μ Ds :=
  L.quiet ho rfl rfl hN hg (fun a w hh w' hk => by
    simp only [execOp, hh.eval hx]
    rw [Sem.run_bind, run_loadAt_agg ha hs (fun j v hv => cell_of (hh.boxAt hm hb hk) (by simpa using hv))]
    rfl) kk
/-- A struct or an array within a block. -/
theorem L.loadBP {t : TypeId} {b off n : Nat} {vs us : List Value} {e : TypeId} {fz : Nat × Nat} (ho : all[ix]? = some ⟨some d, .load t x, ty, pos, aft, g⟩) (ha : TA P t true) (hs : TS P t n) (hx : ev σ x = some (.pointer (some ⟨b, off, none⟩))) (hm : (b, .cells vs.toArray e fz) ∈ μ)
    (hu : (vs.drop off).take n = us) (hl : us.length = n) (hb : b ∉ bad)
    (hN : Nat.blt d X.N = true) (hg : Gok all σ g) (kk : WL P X bad all K Q os ((d, .agg us.toArray) :: σ) μ Ds) : WL P X bad all K Q ((fl, ix) :: os) σ μ Ds :=
  L.quiet ho rfl rfl hN hg (fun a w hh w' hk => by
    subst hl
    simp only [execOp, hh.eval hx]
    rw [Sem.run_bind, run_loadAt_agg ha hs (fun j v hv => cell_of (hh.boxAt hm hb hk) (by
      have hl := (List.getElem?_eq_some_iff.1 hv).1
      rw [← hu, List.getElem?_take_of_lt hl, List.getElem?_drop] at hv
      simpa using hv))]
    rfl) kk
theorem L.loadD1 {t : TypeId} {D₁ : Data} {b o k : Nat} {cs : List Value} (ho : all[ix]? = some ⟨some d, .load t x, ty, pos, aft, g⟩) (ha : TA P t false) (hx : ev σ x = some (.pointer (some ⟨b, o + k, none⟩))) (hA : At D₁ b o cs) (hD : D₁ ∈ Ds) (hv : cs[k]? = some v) (hb : b ∉ bad)
    (hN : Nat.blt d X.N = true) (hg : Gok all σ g) (kk : WL P X bad all K Q os ((d, v) :: σ) μ Ds) : WL P X bad all K Q ((fl, ix) :: os) σ μ Ds :=
  L.quiet ho rfl rfl hN hg (fun a w hh w' hk => by
    simp only [execOp, hh.eval hx]
    rw [Sem.run_bind, run_loadAt_one ha (hh.liesD hD hA hb hk k v hv)]
    rfl) kk
theorem L.loadDW {t : TypeId} {D₁ : Data} {b o : Nat} {cs : List Value} (ho : all[ix]? = some ⟨some d, .load t x, ty, pos, aft, g⟩) (ha : TA P t true) (hx : ev σ x = some (.pointer (some ⟨b, o, none⟩))) (hA : At D₁ b o cs) (hD : D₁ ∈ Ds) (hs : TS P t cs.length) (hb : b ∉ bad)
    (hN : Nat.blt d X.N = true) (hg : Gok all σ g) (kk : WL P X bad all K Q os ((d, .agg cs.toArray) :: σ) μ Ds) : WL P X bad all K Q ((fl, ix) :: os) σ μ Ds :=
  L.quiet ho rfl rfl hN hg (fun a w hh w' hk => by
    simp only [execOp, hh.eval hx]
    rw [Sem.run_bind, run_loadAt_agg ha hs (hh.liesD hD hA hb hk)]
    rfl) kk
theorem L.loadDP {t : TypeId} {D₁ : Data} {b o k n : Nat} {cs us : List Value} (ho : all[ix]? = some ⟨some d, .load t x, ty, pos, aft, g⟩) (ha : TA P t true) (hs : TS P t n) (hx : ev σ x = some (.pointer (some ⟨b, o + k, none⟩))) (hA : At D₁ b o cs) (hD : D₁ ∈ Ds) (hu : (cs.drop k).take n = us) (hl : us.length = n) (hb : b ∉ bad)
    (hN : Nat.blt d X.N = true) (hg : Gok all σ g) (kk : WL P X bad all K Q os ((d, .agg us.toArray) :: σ) μ Ds) : WL P X bad all K Q ((fl, ix) :: os) σ μ Ds :=
  L.quiet ho rfl rfl hN hg (fun a w hh w' hk => by
    subst hl
    simp only [execOp, hh.eval hx]
    rw [Sem.run_bind, run_loadAt_agg ha hs (fun j v hv => by
      have hl := (List.getElem?_eq_some_iff.1 hv).1
      rw [← hu, List.getElem?_take_of_lt hl, List.getElem?_drop] at hv
      have := hh.liesD hD hA hb hk (k + j) v hv
      rw [← Nat.add_assoc] at this
      exact this)]
    rfl) kk
/-! ### Addresses -/
/-- Field i of the struct t lies k cells behind its head. -/
def TF (P : Program) (t : TypeId) (i k : Nat) : Prop := ∀ (a : Addr) w, (Instr.fieldAt t (.pointer (some a)) i).run P w = .ok (.pointer (some (a.add k))) w
theorem TF.of {t : TypeId} {i k ft : Nat} {fs : Array Field} {n : Nat} (h : P.underlying t = some (.struct fs)) (hk : (fs[i]?).map (fun f => (f.offset, f.type)) = some (k, ft)) (hs : TS P ft n) (hn : Nat.beq n 0 = false) : TF P t i k := fun a w => by
  have hn' : n ≠ 0 := fun e => by subst e; simp at hn
  cases hf : fs[i]? with
  | none => simp [hf] at hk
  | some f =>
    simp only [hf, Option.map_some, Option.some.injEq, Prod.mk.injEq] at hk
    obtain ⟨rfl, rfl⟩ := hk
    unfold Instr.fieldAt fieldPlace Instr.sureAddr
    simp only [Sem.run_bind, TU.of h w, Result.andThen_ok, hf, hs w, Sem.run_pure, if_neg hn', pure_bind]
theorem add_plain (b o k : Nat) : (⟨b, o, none⟩ : Addr).add k = ⟨b, o + k, none⟩ := by
  unfold Addr.add; split
  · rename_i h; subst h; rfl
  · rfl
theorem L.fieldAddr {t : TypeId} {i k b o : Nat} (ho : all[ix]? = some ⟨some d, .fieldAddr t x i, ty, pos, aft, g⟩) (h : TF P t i k) (hx : ev σ x = some (.pointer (some ⟨b, o, none⟩)))
    (hN : Nat.blt d X.N = true) (hg : Gok all σ g) (kk : WL P X bad all K Q os ((d, .pointer (some ⟨b, o + k, none⟩)) :: σ) μ Ds) : WL P X bad all K Q ((fl, ix) :: os) σ μ Ds :=
  L.pure ho rfl rfl hN hg (fun ρ hρ w' => by
    simp only [execOp, hρ x _ hx]
    rw [Sem.run_bind, h, add_plain]
    rfl) kk
theorem L.nilCheck {a : Addr} (ho : all[ix]? = some ⟨some d, .nilCheck x, ty, pos, aft, g⟩) (hx : ev σ x = some (.pointer (some a)))
    (hN : Nat.blt d X.N = true) (hg : Gok all σ g) (kk : WL P X bad all K Q os ((d, .pointer (some a)) :: σ) μ Ds) : WL P X bad all K Q ((fl, ix) :: os) σ μ Ds :=
  L.pure ho rfl rfl hN hg (fun ρ hρ w' => by simp only [execOp, hρ x _ hx]; rfl) kk
/-- The i-th element of an array behind a pointer. -/
theorem L.indexA {t e : TypeId} {n sz b o : Nat} {k : IntKind} {i : Int} (ho : all[ix]? = some ⟨some d, .indexAddr t x y, ty, pos, aft, g⟩) (ht : P.underlying t = some (.array n e)) (hs : TS P e sz) (hx : ev σ x = some (.pointer (some ⟨b, o, none⟩))) (hy : ev σ y = some (.int k i)) (h0 : 0 ≤ i) (h1 : i < n)
    (hN : Nat.blt d X.N = true) (hg : Gok all σ g) (kk : WL P X bad all K Q os ((d, .pointer (some ⟨b, o + i.toNat * sz, none⟩)) :: σ) μ Ds) : WL P X bad all K Q ((fl, ix) :: os) σ μ Ds :=
  L.pure ho rfl rfl hN hg (fun ρ hρ w' => by
    simp only [execOp, hρ x _ hx, hρ y _ hy]
    unfold Instr.indexAt asIntOf Instr.sureAddr
    simp only [Sem.run_bind, TU.of ht w', Result.andThen_ok, hs w', Sem.run_pure, pure_bind, h0, h1, and_self, if_true, add_plain]) kk
end Go.Fs
namespace Go.Fs
variable {P : Program} {X : Cx} {γb : Type} [Membership Nat γb] {bad : γb} {all : Array Oper} {K : Act → World → Prop} {Q : Exit → Act → World → Prop}
variable {σ : Slots} {μ : Boxes} {Ds : List Data} {os : List (Bool × Nat)} {fl : Bool} {ix : Nat}
variable {d : Nat} {x y z : Operand} {u v : Value} {ty : TypeId} {pos : String} {aft : Array Edge} {g : Option (Nat × Bool)}
/-! ### A slice reads as a list -/
abbrev Rd (α : Type) := Data → α → List Value → Prop
def Rd.Up {α : Type} (R : Rd α) : Prop := ∀ {D D' : Data}, Le D D' → ∀ {x : α} {cs : List Value}, R D x cs → R D' x cs
def Sl {α : Type} (D : Data) (R : Rd α) (sz : Nat) (v : Value) (xs : List α) : Prop :=
  ∃ a cap, v = .slice a xs.length cap ∧ xs.length ≤ cap ∧ xs.length ≤ 9223372036854775807 ∧ (xs = [] ∨ ∃ b o, a = some ⟨b, o, none⟩ ∧ ∀ i x, xs[i]? = some x → ∃ cs, R D x cs ∧ cs.length = sz ∧ At D b (o + i * sz) cs)
theorem Sl.up {α : Type} {R : Rd α} (hR : R.Up) {D D' : Data} (hl : Le D D') {sz : Nat} {v : Value} {xs : List α} (h : Sl D R sz v xs) : Sl D' R sz v xs := by
  obtain ⟨a, cap, hv, h1, h2, h3⟩ := h
  refine ⟨a, cap, hv, h1, h2, h3.imp id ?_⟩
  rintro ⟨b, o, ha, he⟩
  refine ⟨b, o, ha, fun i x hx => ?_⟩
  obtain ⟨cs, hr, hc, hA⟩ := he i x hx
  exact ⟨cs, hR hl hr, hc, hA.up hl⟩
theorem Sl.nil {α : Type} {R : Rd α} {D : Data} {sz : Nat} : Sl D R sz (.slice none 0 0) ([] : List α) := ⟨none, 0, rfl, Nat.le_refl _, by simp, Or.inl rfl⟩
theorem Sl.len {α : Type} {R : Rd α} {D : Data} {sz : Nat} {v : Value} {xs : List α} (h : Sl D R sz v xs) : xs.length ≤ 9223372036854775807 := by
  obtain ⟨a, cap, hv, h1, h2, h3⟩ := h; exact h2
/-- The elements' readings. -/
def RI : Rd Int := fun _ n cs => cs = [.int .i64 n]
theorem RI.up : RI.Up := fun _ _ _ h => h
/-- A reading, later. -/
theorem Sl.at {α : Type} {R : Rd α} (hR : R.Up) {D D₁ : Data} {Ds : List Data} (hD : ∀ D₁ ∈ Ds, Le D₁ D) {sz : Nat} {v : Value} {xs : List α} (h : Sl D₁ R sz v xs) (hm : D₁ ∈ Ds) : Sl D R sz v xs := h.up hR (hD _ hm)
/-! ### len, index -/
theorem L.len {α : Type} {R : Rd α} {D₁ : Data} {sz : Nat} {t e tr : TypeId} {xs : List α} {ats : Array TypeId} (ho : all[ix]? = some ⟨some d, .call { callee := .builtin .len, args := #[x], argTypes := ats }, tr, pos, aft, g⟩) (ht : P.underlying t = some (.slice e)) (hx : ev σ x = some v) (hS : Sl D₁ R sz v xs) (hat : ats[0]? = some t)
    (hN : Nat.blt d X.N = true) (hg : Gok all σ g) (kk : WL P X bad all K Q os ((d, .int .i64 (xs.length : Int)) :: σ) μ Ds) :
    WL P X bad all K Q ((fl, ix) :: os) σ μ Ds :=
  L.pure ho rfl rfl hN hg (fun ρ hρ w' => by
    obtain ⟨a, cap, rfl, _⟩ := hS
    have hx' := hρ x _ hx
    simp [Builtin.len_, hat, hx', Sem.run_bind, TU.of ht w', goInt, Sem.run_pure, go_sem]) kk
theorem L.indexS {α : Type} {R : Rd α} {D₁ : Data} {sz : Nat} {t e : TypeId} {xs : List α} {k : IntKind} {i : Int} {el : α} (ho : all[ix]? = some ⟨some d, .indexAddr t x y, ty, pos, aft, g⟩) (ht : P.underlying t = some (.slice e)) (hs : TS P e sz) (hx : ev σ x = some v) (hS : Sl D₁ R sz v xs)
    (hy : ev σ y = some (.int k i)) (h0 : 0 ≤ i) (hi : xs[i.toNat]? = some el) (hN : Nat.blt d X.N = true) (hg : Gok all σ g)
    (kk : ∀ b o cs, R D₁ el cs → cs.length = sz → At D₁ b o cs → WL P X bad all K Q os ((d, .pointer (some ⟨b, o, none⟩)) :: σ) μ Ds) :
    WL P X bad all K Q ((fl, ix) :: os) σ μ Ds := by
  obtain ⟨a, cap, rfl, h1, h2, h3⟩ := hS
  have hlt : i.toNat < xs.length := (List.getElem?_eq_some_iff.1 hi).1
  rcases h3 with rfl | ⟨b, o, rfl, h3⟩
  · simp at hlt
  · obtain ⟨cs, hr, hc, hA⟩ := h3 _ _ hi
    refine L.pure ho rfl rfl hN hg (fun ρ hρ w' => ?_) (kk b _ cs hr hc hA)
    have h1' : i < (xs.length : Int) := by omega
    simp only [execOp, hρ x _ hx, hρ y _ hy]
    unfold Instr.indexAt asIntOf
    simp only [Sem.run_bind, TU.of ht w', Result.andThen_ok, hs w', Sem.run_pure, pure_bind, h0, h1', and_self, if_true, add_plain]
theorem L.extract {vs : Array Value} {i : Nat} (ho : all[ix]? = some ⟨some d, .extract x i, ty, pos, aft, g⟩) (hx : ev σ x = some (.tuple vs)) (hi : vs.toList[i]? = some v) (hN : Nat.blt d X.N = true) (hg : Gok all σ g) (kk : WL P X bad all K Q os ((d, v) :: σ) μ Ds) :
    WL P X bad all K Q ((fl, ix) :: os) σ μ Ds :=
  L.pure ho rfl rfl hN hg (fun ρ hρ w' => by rw [Array.getElem?_toList] at hi; simp [execOp, hρ x _ hx, Instr.extract, hi, go_sem]) kk
theorem L.max2 {k : IntKind} {m n : Int} {ats : Array TypeId} (ho : all[ix]? = some ⟨some d, .call { callee := .builtin .max, args := #[x, y], argTypes := ats }, ty, pos, aft, g⟩) (hx : ev σ x = some (.int k m)) (hy : ev σ y = some (.int k n)) (hN : Nat.blt d X.N = true) (hg : Gok all σ g) (kk : WL P X bad all K Q os ((d, .int k (max m n)) :: σ) μ Ds) :
    WL P X bad all K Q ((fl, ix) :: os) σ μ Ds :=
  L.pure ho rfl rfl hN hg (fun ρ hρ w' => by
    have hx' := hρ x _ hx
    have hy' := hρ y _ hy
    have e : (if n > m then n else m) = max m n := by split <;> omega
    simp [Builtin.max_, Builtin.max2, hx', hy', go_sem, e]) kk
theorem L.min2 {k : IntKind} {m n : Int} {ats : Array TypeId} (ho : all[ix]? = some ⟨some d, .call { callee := .builtin .min, args := #[x, y], argTypes := ats }, ty, pos, aft, g⟩) (hx : ev σ x = some (.int k m)) (hy : ev σ y = some (.int k n)) (hN : Nat.blt d X.N = true) (hg : Gok all σ g) (kk : WL P X bad all K Q os ((d, .int k (min m n)) :: σ) μ Ds) :
    WL P X bad all K Q ((fl, ix) :: os) σ μ Ds :=
  L.pure ho rfl rfl hN hg (fun ρ hρ w' => by
    have hx' := hρ x _ hx
    have hy' := hρ y _ hy
    have e : (if n < m then n else m) = min m n := by split <;> omega
    simp [Builtin.min_, Builtin.min2, hx', hy', go_sem, e]) kk
theorem Hl.ds {Ds' : List Data} {a : Act} {w : World} (h : Hl X σ μ Ds a w) (hD : ∀ D ∈ Ds', D ∈ Ds) : Hl X σ μ Ds' a w := by
  obtain ⟨h1, h2, h3, D, h4, h5, h6⟩ := h
  exact ⟨h1, h2, h3, D, h4, fun D₁ hD₁ => h5 D₁ (hD D₁ hD₁), h6⟩
/-! ### Calls -/
/-- Function f can be entered. -/
def EF (P : Program) (f : FuncId) : Prop := ∀ args w, (callFunc f args).run P w = .ok (.enter f args) w
theorem EF.of {f : FuncId} {fn : Func} {c : Code} (h : P.funcs[f]? = some fn) (hn : (fn.name == "runtime.NumGoroutine") = false) (hb : fn.body = some c) : EF P f := fun args w => by
  have hn' : ¬ fn.name = "runtime.NumGoroutine" := by simpa using hn
  simp [callFunc, program, Sem.run, h, hn', hb, go_sem]
/-- What a call of f comes to, where the data are D: it returns; what lay before lies as it lay; 'post' of the data behind it and the value. -/
def Fn (P : Program) (f : FuncId) (args : Array Value) (D : Data) (post : Data → Value → Prop) : Prop :=
  EF P f ∧ ∀ w, Agrees D w → Calls P f args w fun e w' => ∃ v D', e = .returned v ∧ Sta (hd w) w.heap.size D [] [] D' w' ∧ post D' v
theorem Fn.mono {f : FuncId} {args : Array Value} {D : Data} {post post' : Data → Value → Prop} (h : Fn P f args D post) (hp : ∀ D' v, Le D D' → post D' v → post' D' v) : Fn P f args D post' := by
  refine ⟨h.1, fun w hw => (h.2 w hw).mono ?_⟩
  rintro e w' ⟨v, D', rfl, hs, hpost⟩
  refine ⟨v, D', rfl, hs, hp _ _ ?_ hpost⟩
  intro b
  by_cases hb : b < w.heap.size
  · rw [hs.dold b hb]; exact List.prefix_refl _
  · have : D b = [] := by
      refine Decidable.byContradiction fun hne => ?_
      obtain ⟨cs, e, fz, hc, _⟩ := hw b hne
      exact hb (lt_of_some hc)
    rw [this]; exact List.nil_prefix
theorem le_of_call {D D' : Data} {w w' : World} {mods : List Nat} {μ : Boxes} (hw : Agrees D w) (hs : Sta (hd w) w.heap.size D mods μ D' w') : Le D D' := by
  intro b
  by_cases hb : b < w.heap.size
  · rw [hs.dold b hb]; exact List.prefix_refl _
  · have : D b = [] := by
      refine Decidable.byContradiction fun hne => ?_
      obtain ⟨cs, e, fz, hc, _⟩ := hw b hne
      exact hb (lt_of_some hc)
    rw [this]; exact List.nil_prefix
/-- A caller's state behind a call that keeps what lay before. -/
theorem Sta.after {h0 : H0} {lo : Nat} {D0 D D' : Data} {mods : List Nat} {μ : Boxes} {w w' : World} (h : Sta h0 lo D0 mods μ D w) (hs : Sta (hd w) w.heap.size D [] [] D' w') : Sta h0 lo D0 mods μ D' w' := by
  have hle := Nat.le_trans h.hlo h.size
  refine ⟨h.hlo, Nat.le_trans h.size hs.size, fun b hb hm => ?_, fun b hb => ?_, hs.agr, fun p hp => ?_, h.nd, fun b o hb ho => ?_, fun e he => (hs.env _ rfl).trans (h.env e he)⟩
  · rw [hs.old b (Nat.lt_of_lt_of_le hb hle) (by simp)]; exact h.old b hb hm
  · rw [hs.dold b (Nat.lt_of_lt_of_le hb hle)]; exact h.dold b hb
  · obtain ⟨h1, h2, h3⟩ := h.box p hp
    have hl := lt_of_some h1
    exact ⟨by rw [hs.old _ hl (by simp)]; exact h1, by rw [hs.dold _ hl]; exact h2, h3⟩
  · rcases Nat.lt_or_ge b w.heap.size with hl | hl
    · rw [hs.old b hl (by simp)] at ho; exact h.fz b o hb ho
    · exact hs.fz b o (Or.inl hl) ho
theorem Sta.low {D D' : Data} {μ : Boxes} {w w' : World} (hs : Sta (hd w) w.heap.size D [] μ D' w') (β : List Nat) : Low β D w D' w' := ⟨hs.size, fun b hb _ => ⟨hs.old b hb (by simp), hs.dold b hb⟩, hs.env _ rfl⟩
theorem Sta.keep {D D' : Data} {μ : Boxes} {w w' : World} (hs : Sta (hd w) w.heap.size D [] μ D' w') {γb : Type} [Membership Nat γb] (bad : γb) : Keep bad w w' := ⟨hs.size, fun b hb _ => hs.old b hb (by simp)⟩
def evs (σ : Slots) : List Operand → Option (List Value)
  | [] => some []
  | x :: xs => match ev σ x, evs σ xs with
    | some v, some vs => some (v :: vs)
    | _, _ => none
theorem evs_eval {ρ : Operand → Value} (hρ : ∀ x u, ev σ x = some u → ρ x = u) : ∀ {xs : List Operand} {vs : List Value}, evs σ xs = some vs → xs.map ρ = vs
  | [], vs, h => by simp [evs] at h; simp [h]
  | x :: xs, vs, h => by
    simp only [evs] at h
    cases h1 : ev σ x with
    | none => simp [h1] at h
    | some v1 =>
      cases h2 : evs σ xs with
      | none => simp [h1, h2] at h
      | some v2 =>
        simp [h1, h2] at h
        rw [← h, List.map_cons, hρ x v1 h1, evs_eval hρ h2]
/-- A loud operation that is carried out. -/
theorem L.loud {o : Oper} (ho : all[ix]? = some o) (hq : quietKind o.op = false) (hdf : deferKind o.op = false) (hg : Gok all σ o.guard)
    (h : ∀ a w, Hl X σ μ Ds a w → o.uponIn (FW X.r) 0 P a (fun a' w' => (fl = true → Keep bad w w') ∧ wpL X.r bad P all K Q (opsAt all os) a' w') Q ((execOp a.eval o).run P w)) : WL P X bad all K Q ((fl, ix) :: os) σ μ Ds := by
  intro a w hh
  rw [opsAt_cons ho]
  simp only [wpL, hq, Bool.false_eq_true, if_false]
  unfold Loud
  rw [if_pos (hh.wanted hg)]
  refine ⟨fun _ _ => trivial, ?_⟩
  rw [semAt_of hdf]
  exact h a w hh
theorem run_call {w : World} {ρ : Operand → Value} {c : Operand} {xs : Array Operand} {ats : Array TypeId} {f : FuncId} {c1 c2 : List Value} {vs : List Value} {dst : Option Nat} (hEF : EF P f) (hc : ρ c = .func (.func f) c1.toArray c2.toArray) (hvs : xs.toList.map ρ = vs) :
    (execOp ρ ⟨dst, .call { callee := .value c, args := xs, argTypes := ats }, ty, pos, aft, g⟩).run P w = .ok (.enter f (c1 ++ vs ++ c2).toArray) w := by
  have e : xs.map ρ = vs.toArray := by rw [← hvs, ← Array.toList_map]
  simp only [execOp, resolve, hc, Deferred.ofValue, pure_bind, invoke, e]
  rw [hEF]; simp
/-- **A CALL** of a function that keeps what lay before. -/
theorem L.call {c : Operand} {xs : Array Operand} {ats : Array TypeId} {f : FuncId} {c1 c2 : List Value} {vs : List Value} {post : Data → Value → Prop} (ho : all[ix]? = some ⟨some d, .call { callee := .value c, args := xs, argTypes := ats }, ty, pos, aft, g⟩) (hc : ev σ c = some (.func (.func f) c1.toArray c2.toArray)) (hxs : evs σ xs.toList = some vs)
    (hf : ∀ D, (∀ D₁ ∈ Ds, Le D₁ D) → Fn P f (c1 ++ vs ++ c2).toArray D post) (hN : Nat.blt d X.N = true) (hg : Gok all σ g)
    (kk : ∀ v D, (∀ D₁ ∈ Ds, Le D₁ D) → post D v → WL P X bad all K Q os ((d, v) :: σ) μ (D :: Ds)) :
    WL P X bad all K Q ((fl, ix) :: os) σ μ Ds := by
  refine L.loud ho rfl rfl hg fun a w hh => ?_
  obtain ⟨h1, h2, h3, D, h4, h5, h6⟩ := id hh
  have hF := hf D h5
  rw [run_call hF.1 (hh.eval hc) (evs_eval (fun _ _ hx => hh.eval hx) hxs)]
  refine ⟨fun h => by simp [FW] at h, callsIn_FW.2 ((hF.2 w h4.agr).mono ?_)⟩
  rintro e w' ⟨v, D', rfl, hs, hpost⟩
  have hle := le_of_call h4.agr hs
  refine ⟨fun _ => hs.keep bad, kk v D' (fun D₁ hD₁ => (h5 D₁ hD₁).trans hle) hpost _ _ ?_⟩
  refine Hl.put ⟨h1, h2, h3, D', h4.after hs, fun D₁ hD₁ => ?_, h6.step (fun _ p hp => Or.inl (List.mem_map.2 ⟨p, hp, rfl⟩)) (fun _ => hs.low _) (h4.after hs).dom⟩ hN v
  rcases List.mem_cons.1 hD₁ with rfl | hD₁
  · exact Le.refl _
  · exact (h5 D₁ hD₁).trans hle
/-- A call whose value is known, and holds no data. -/
theorem L.callV {c : Operand} {xs : Array Operand} {ats : Array TypeId} {f : FuncId} {c1 c2 : List Value} {vs : List Value} {r : Value} (ho : all[ix]? = some ⟨some d, .call { callee := .value c, args := xs, argTypes := ats }, ty, pos, aft, g⟩) (hc : ev σ c = some (.func (.func f) c1.toArray c2.toArray)) (hxs : evs σ xs.toList = some vs)
    (hf : ∀ D, (∀ D₁ ∈ Ds, Le D₁ D) → Fn P f (c1 ++ vs ++ c2).toArray D (fun _ v => v = r)) (hN : Nat.blt d X.N = true) (hg : Gok all σ g)
    (kk : WL P X bad all K Q os ((d, r) :: σ) μ Ds) :
    WL P X bad all K Q ((fl, ix) :: os) σ μ Ds :=
  L.call ho hc hxs hf hN hg fun _ _ _ hv => by
    subst hv
    exact fun a w hh => kk a w (hh.ds fun D hD => List.mem_cons_of_mem _ hD)
/-! ### New blocks -/
theorem heap_push_lt {w : World} {o : Obj} {b : Nat} (h : b < w.heap.size) : (w.heap.push o)[b]? = w.heap[b]? := by
  rw [Array.getElem?_push, if_neg (by omega)]
theorem Agrees.push {D : Data} {w : World} (h : Agrees D w) (o : Obj) : Agrees D { w with heap := w.heap.push o } := by
  intro b hb
  obtain ⟨cs, e, fz, hc, hp⟩ := h b hb
  exact ⟨cs, e, fz, by show (w.heap.push o)[b]? = _; rw [heap_push_lt (lt_of_some hc)]; exact hc, hp⟩
theorem Agrees.fresh {D : Data} {w : World} (h : Agrees D w) {b : Nat} (hb : w.heap.size ≤ b) : D b = [] :=
  Decidable.byContradiction fun hne => by
    obtain ⟨cs, e, fz, hc, _⟩ := h b hne
    have := lt_of_some hc
    omega
/-- A new block of the frame's own. -/
theorem fz_push {h0 : H0} {lo : Nat} {D0 D : Data} {mods : List Nat} {μ : Boxes} {w : World} (h : Sta h0 lo D0 mods μ D w) {o : Obj} (ho : unfrozen o) : ∀ b o', lo ≤ b ∨ b ∈ mods → (w.heap.push o)[b]? = some o' → unfrozen o' := by
  intro b o' hb hs
  rcases Nat.lt_trichotomy b w.heap.size with hl | hl | hl
  · rw [heap_push_lt hl] at hs; exact h.fz b o' hb hs
  · subst hl; simp at hs; rw [← hs]; exact ho
  · rw [Array.getElem?_push, if_neg (by omega)] at hs
    have := (Array.getElem?_eq_some_iff.1 hs).1
    omega
theorem Sta.push {h0 : H0} {lo : Nat} {D0 D : Data} {mods : List Nat} {μ : Boxes} {w : World} (h : Sta h0 lo D0 mods μ D w) (o : Obj) (ho : unfrozen o) : Sta h0 lo D0 mods ((w.heap.size, o) :: μ) D { w with heap := w.heap.push o } := by
  have hle := Nat.le_trans h.hlo h.size
  refine ⟨h.hlo, by have := h.size; simp; omega, fun b hb hm => ?_, h.dold, h.agr.push o, fun p hp => ?_, ?_, fz_push h ho, h.env⟩
  · show (w.heap.push o)[b]? = _
    rw [heap_push_lt (Nat.lt_of_lt_of_le hb hle)]; exact h.old b hb hm
  · rcases List.mem_cons.1 hp with rfl | hp
    · exact ⟨by simp, h.agr.fresh (Nat.le_refl _), Or.inl h.size⟩
    · obtain ⟨h1, h2, h3⟩ := h.box p hp
      exact ⟨by show (w.heap.push o)[p.1]? = _; rw [heap_push_lt (lt_of_some h1)]; exact h1, h2, h3⟩
  · simp only [List.map_cons, List.nodup_cons]
    refine ⟨fun hm => ?_, h.nd⟩
    obtain ⟨p, hp, he⟩ := List.mem_map.1 hm
    have := lt_of_some (h.box p hp).1
    omega
theorem keep_push {γb : Type} [Membership Nat γb] (bad : γb) (w : World) (o : Obj) : Keep bad w { w with heap := w.heap.push o } := ⟨by simp, fun b hb _ => heap_push_lt hb⟩
theorem low_push (β : List Nat) {D : Data} {w : World} (o : Obj) : Low β D w D { w with heap := w.heap.push o } := ⟨by simp, fun b hb _ => ⟨heap_push_lt hb, rfl⟩, rfl⟩
/-- A new block that never changes again: data from now on. -/
theorem Sta.pushD {h0 : H0} {lo : Nat} {D0 D : Data} {mods : List Nat} {μ : Boxes} {w : World} (h : Sta h0 lo D0 mods μ D w) (vs : List Value) (e : TypeId) :
    ∃ D', Le D D' ∧ D' w.heap.size = vs ∧ (∀ b, b ≠ w.heap.size → D' b = D b) ∧ Sta h0 lo D0 mods μ D' { w with heap := w.heap.push (.cells vs.toArray e (0, 0)) } := by
  have hf := h.agr.fresh (Nat.le_refl w.heap.size)
  refine ⟨fun b => if b = w.heap.size then vs else D b, fun b => ?_, by simp, (fun b hb => by simp [hb]), ?_⟩
  · by_cases hb : b = w.heap.size
    · subst hb; rw [hf]; exact List.nil_prefix
    · simp [hb]
  · have hle := Nat.le_trans h.hlo h.size
    refine ⟨h.hlo, by have := h.size; simp; omega, fun b hb hm => ?_, fun b hb => ?_, fun b hb => ?_, fun p hp => ?_, h.nd, fz_push h rfl, h.env⟩
    · show (w.heap.push _)[b]? = _
      rw [heap_push_lt (Nat.lt_of_lt_of_le hb hle)]; exact h.old b hb hm
    · have hne : b ≠ w.heap.size := by omega
      simp only [hne, if_false]; exact h.dold b hb
    · by_cases he : b = w.heap.size
      · subst he
        exact ⟨vs.toArray, e, (0, 0), by simp, by simp⟩
      · simp only [he, if_false] at hb ⊢
        obtain ⟨cs, e', fz, hc, hp⟩ := h.agr b hb
        exact ⟨cs, e', fz, by show (w.heap.push _)[b]? = _; rw [heap_push_lt (lt_of_some hc)]; exact hc, hp⟩
    · obtain ⟨h1, h2, h3⟩ := h.box p hp
      have hl := lt_of_some h1
      refine ⟨by show (w.heap.push _)[p.1]? = _; rw [heap_push_lt hl]; exact h1, ?_, h3⟩
      have hne : p.1 ≠ w.heap.size := by omega
      simp only [hne, if_false]; exact h2
theorem run_newRow {w : World} {e : TypeId} {cs : Array Value} : (newRow e cs).run P w = .ok ⟨w.heap.size, 0, none⟩ { w with heap := w.heap.push (.cells cs e (0, 0)) } := rfl
/-- A new variable of the frame's own that holds v. -/
theorem L.box {e : TypeId} {vs : List Value} (ho : all[ix]? = some ⟨some d, .box e x, ty, pos, aft, g⟩) (hx : ev σ x = some v) (hv : v.cells = vs.toArray) (hN : Nat.blt d X.N = true) (hg : Gok all σ g)
    (kk : ∀ b, WL P X bad all K Q os ((d, .pointer (some ⟨b, 0, none⟩)) :: σ) ((b, .cells vs.toArray e (0, 0)) :: μ) Ds) :
    WL P X bad all K Q ((fl, ix) :: os) σ μ Ds := by
  refine L.loud ho rfl rfl hg fun a w hh => ?_
  obtain ⟨h1, h2, h3, D, h4, h5, h6⟩ := id hh
  have : (execOp a.eval ⟨some d, .box e x, ty, pos, aft, g⟩).run P w = .ok (.value (.pointer (some ⟨w.heap.size, 0, none⟩))) { w with heap := w.heap.push (.cells vs.toArray e (0, 0)) } := by
    simp only [execOp, hh.eval hx, Instr.box, newVar, hv, Sem.run_bind, run_newRow, Result.andThen_ok, Sem.run_pure]
  rw [this]
  exact ⟨fun _ => keep_push _ _ _, kk _ _ _ (Hl.put ⟨h1, h2, h3, D, h4.push _ (show unfrozen (.cells _ _ (0, 0)) from rfl), h5, h6.step (fun _ p hp => by rcases List.mem_cons.1 hp with rfl | hp; exact Or.inr (Nat.le_refl _); exact Or.inl (List.mem_map.2 ⟨p, hp, rfl⟩)) (fun _ => low_push _ _) (h4.push _ (show unfrozen (.cells _ _ (0, 0)) from rfl)).dom⟩ hN _)⟩
theorem L.alloc {e : TypeId} {vs : List Value} {z0 : Value} (ho : all[ix]? = some ⟨some d, .alloc e, ty, pos, aft, g⟩) (hz : TZ P e z0) (hv : z0.cells = vs.toArray) (hN : Nat.blt d X.N = true) (hg : Gok all σ g)
    (kk : ∀ b, WL P X bad all K Q os ((d, .pointer (some ⟨b, 0, none⟩)) :: σ) ((b, .cells vs.toArray e (0, 0)) :: μ) Ds) :
    WL P X bad all K Q ((fl, ix) :: os) σ μ Ds := by
  refine L.loud ho rfl rfl hg fun a w hh => ?_
  obtain ⟨h1, h2, h3, D, h4, h5, h6⟩ := id hh
  have : (execOp a.eval ⟨some d, .alloc e, ty, pos, aft, g⟩).run P w = .ok (.value (.pointer (some ⟨w.heap.size, 0, none⟩))) { w with heap := w.heap.push (.cells vs.toArray e (0, 0)) } := by
    simp only [execOp, Instr.alloc, newVar, Sem.run_bind, hz w, Result.andThen_ok, hv, run_newRow, Sem.run_pure]
  rw [this]
  exact ⟨fun _ => keep_push _ _ _, kk _ _ _ (Hl.put ⟨h1, h2, h3, D, h4.push _ (show unfrozen (.cells _ _ (0, 0)) from rfl), h5, h6.step (fun _ p hp => by rcases List.mem_cons.1 hp with rfl | hp; exact Or.inr (Nat.le_refl _); exact Or.inl (List.mem_map.2 ⟨p, hp, rfl⟩)) (fun _ => low_push _ _) (h4.push _ (show unfrozen (.cells _ _ (0, 0)) from rfl)).dom⟩ hN _)⟩
/-! ### Stores into the frame's own blocks -/
/-- One of the boxes, and the boxes with another thing in its place. -/
inductive Has : Boxes → Nat → Obj → Obj → Boxes → Prop
  | head {b o o' μ} : Has ((b, o) :: μ) b o o' ((b, o') :: μ)
  | tail {p b o o' μ μ'} (h : Has μ b o o' μ') : Has (p :: μ) b o o' (p :: μ')
  | app {ν b o o' μ μ'} (h : Has μ b o o' μ') : Has (ν ++ μ) b o o' (ν ++ μ')
theorem Has.mem {μ μ' : Boxes} {b : Nat} {o o' : Obj} (h : Has μ b o o' μ') : (b, o) ∈ μ := by
  induction h with
  | head => exact List.mem_cons_self
  | tail _ ih => exact List.mem_cons_of_mem _ ih
  | app _ ih => exact List.mem_append_right _ ih
theorem Has.keys {μ μ' : Boxes} {b : Nat} {o o' : Obj} (h : Has μ b o o' μ') : μ'.map (·.1) = μ.map (·.1) := by
  induction h with
  | head => rfl
  | tail _ ih => simp [ih]
  | app _ ih => simp [ih]
theorem Has.other {μ μ' : Boxes} {b : Nat} {o o' : Obj} (h : Has μ b o o' μ') : ∀ p ∈ μ', p = (b, o') ∨ p ∈ μ := by
  induction h with
  | head => intro p hp; rcases List.mem_cons.1 hp with rfl | hp; exact Or.inl rfl; exact Or.inr (List.mem_cons_of_mem _ hp)
  | tail _ ih => intro p hp; rcases List.mem_cons.1 hp with rfl | hp; exact Or.inr List.mem_cons_self; exact (ih p hp).imp id (List.mem_cons_of_mem _)
  | app _ ih => intro p hp; rcases List.mem_append.1 hp with hp | hp; exact Or.inr (List.mem_append_left _ hp); exact (ih p hp).imp id (List.mem_append_right _)
/-- At any other key than b the new boxes are the old ones. -/
theorem Has.apart {μ μ' : Boxes} {b : Nat} {o o' : Obj} (h : Has μ b o o' μ') (hn : (μ.map (·.1)).Nodup) : ∀ p ∈ μ', p.1 = b → p = (b, o') := by
  induction h with
  | @head b o o' μ =>
    intro p hp he
    rcases List.mem_cons.1 hp with rfl | hp
    · rfl
    · exfalso
      simp only [List.map_cons, List.nodup_cons] at hn
      exact hn.1 (List.mem_map.2 ⟨p, hp, he⟩)
  | @tail q b o o' μ μ' h ih =>
    intro p hp he
    simp only [List.map_cons, List.nodup_cons] at hn
    rcases List.mem_cons.1 hp with rfl | hp
    · exact absurd (List.mem_map.2 ⟨_, h.mem, he.symm⟩) hn.1
    · exact ih hn.2 p hp he
  | @app ν b o o' μ μ' h ih =>
    intro p hp he
    rw [List.map_append, List.nodup_append] at hn
    rcases List.mem_append.1 hp with hp | hp
    · exact absurd rfl (hn.2.2 p.1 (List.mem_map.2 ⟨p, hp, rfl⟩) b (List.mem_map.2 ⟨_, h.mem, rfl⟩) |> fun hne => he ▸ hne)
    · exact ih hn.2.1 p hp he
/-- One block is laid anew. -/
def SetB (w : World) (b : Nat) (o : Obj) (w' : World) : Prop := w'.heap = w.heap.setIfInBounds b o ∧ wenv w' = wenv w
/-- Another thing laid in the place of a box. -/
theorem Sta.set {h0 : H0} {lo : Nat} {D0 D : Data} {mods : List Nat} {μ μ' : Boxes} {w w' : World} {b : Nat} {o o' : Obj} (h : Sta h0 lo D0 mods μ D w) (hm : Has μ b o o' μ') (hwe : SetB w b o' w') (hu : unfrozen o') : Sta h0 lo D0 mods μ' D w' := by
  have hw := hwe.1
  have hb := h.box _ hm.mem
  have hlt : b < w.heap.size := lt_of_some hb.1
  have hsame : ∀ c, c ≠ b → w'.heap[c]? = w.heap[c]? := fun c hc => by rw [hw, Array.getElem?_setIfInBounds_ne (Ne.symm hc)]
  refine ⟨h.hlo, by rw [hw]; simpa using h.size, fun c hc hmods => ?_, h.dold, fun c hc => ?_, fun p hp => ?_, by rw [hm.keys]; exact h.nd, fun c q hc hq => ?_, fun e he => hwe.2.trans (h.env e he)⟩
  · rw [hsame c ?_]
    · exact h.old c hc hmods
    · rintro rfl
      rcases hb.2.2 with h' | h'
      · have := h.hlo; simp at h'; omega
      · exact hmods h'
  · have : c ≠ b := by rintro rfl; exact hc hb.2.1
    obtain ⟨cs, e, fz, h1, h2⟩ := h.agr c hc
    exact ⟨cs, e, fz, by rw [hsame c this]; exact h1, h2⟩
  · by_cases he : p.1 = b
    · obtain rfl := hm.apart h.nd p hp he
      exact ⟨by rw [hw]; simp [hlt], hb.2.1, hb.2.2⟩
    · rcases hm.other p hp with rfl | hp'
      · exact absurd rfl he
      · obtain ⟨h1, h2, h3⟩ := h.box p hp'
        exact ⟨by rw [hsame _ he]; exact h1, h2, h3⟩
  · by_cases he : c = b
    · subst he; rw [hw] at hq; simp [hlt] at hq; rw [← hq]; exact hu
    · rw [hsame c he] at hq; exact h.fz c q hc hq
/-- A value of one cell. -/
def cell1 : Value → Bool
  | .agg _ => false
  | .tuple _ => false
  | _ => true
theorem heap_setCell {w : World} {b off : Nat} {cs : Array Value} {e : TypeId} {fz : Nat × Nat} {v : Value} (h : w.heap[b]? = some (.cells cs e fz)) : (w.setCell ⟨b, off, none⟩ v).heap = w.heap.setIfInBounds b (.cells (cs.setIfInBounds off v) e fz) := by
  simp only [World.setCell]
  apply Array.ext_getElem?
  intro i
  rw [Array.getElem?_modify, Array.getElem?_setIfInBounds]
  by_cases hi : b = i
  · subst hi
    simp [lt_of_some h, (Array.getElem?_eq_some_iff.1 h).2]
  · simp [hi]
theorem run_storeCells : ∀ (us : List Value) (i : Nat) (w : World) (b off : Nat) (vs : List Value) (e : TypeId), w.heap[b]? = some (.cells vs.toArray e (0, 0)) → off + i + us.length ≤ vs.length → (∀ u ∈ us, cell1 u = true) →
    ∃ w', (storeCells ⟨b, off, none⟩ us i).run P w = .ok () w' ∧ SetB w b (.cells (vs.take (off + i) ++ us ++ vs.drop (off + i + us.length)).toArray e (0, 0)) w'
  | [], i, w, b, off, vs, e, h, hl, _ => by
    refine ⟨w, rfl, ?_, rfl⟩
    simp only [List.append_nil, List.length_nil, Nat.add_zero, List.take_append_drop]
    apply Array.ext_getElem?
    intro j
    rw [Array.getElem?_setIfInBounds]
    split
    · rename_i hj; subst hj; simp [lt_of_some h, (Array.getElem?_eq_some_iff.1 h).2]
    · rfl
  | u :: us, i, w, b, off, vs, e, h, hl, ho => by
    have hu := ho u List.mem_cons_self
    simp only [List.length_cons] at hl
    have hcell : ∃ v, w.cell? ⟨b, off + i, none⟩ = some v := ⟨vs[off + i], cell_of h (by simp [show off + i < vs.length by omega])⟩
    obtain ⟨v0, hv0⟩ := hcell
    have hfz : w.frozen? ⟨b, off + i, none⟩ = false := by simp [World.frozen?, h]
    have hs : (store ⟨b, off + i, none⟩ u).run P w = .ok () (w.setCell ⟨b, off + i, none⟩ u) := by
      cases u <;> first | (simp [cell1] at hu; done) | simp [store, Sem.run, hv0, hfz]
    have hh := heap_setCell (v := u) (off := off + i) h
    have h' : (w.setCell ⟨b, off + i, none⟩ u).heap[b]? = some (.cells (vs.set (off + i) u).toArray e (0, 0)) := by
      rw [hh]; simp [lt_of_some h]
    obtain ⟨w', hr, hw'⟩ := run_storeCells us (i + 1) _ b off (vs.set (off + i) u) e h' (by simp; omega) (fun u hu => ho u (List.mem_cons_of_mem _ hu))
    refine ⟨w', ?_, ?_, hw'.2⟩
    · simp only [storeCells, Sem.run_bind, add_plain, hs, Result.andThen_ok]
      exact hr
    · rw [hw'.1, hh]
      apply Array.ext_getElem?
      intro j
      simp only [Array.getElem?_setIfInBounds, Array.size_setIfInBounds]
      split
      · have hlt : off + i < vs.length := by omega
        have h1 : (vs.set (off + i) u).take (off + (i + 1)) = vs.take (off + i) ++ [u] := by
          rw [show off + (i + 1) = off + i + 1 by omega, List.take_succ_eq_append_getElem (by simpa using hlt), List.take_set_of_le (Nat.le_refl _)]
          simp
        have h2 : (vs.set (off + i) u).drop (off + (i + 1) + us.length) = vs.drop (off + i + (us.length + 1)) := by
          rw [List.drop_set_of_lt (by omega)]
          congr 1; omega
        simp only [h1, h2, List.length_cons, List.append_assoc, List.singleton_append]
      · rfl
theorem run_storeAt {w : World} {t : TypeId} {b off : Nat} {vs us : List Value} {e : TypeId} {v : Value} (hs : TS P t us.length) (hv : v.cells = us.toArray) (h : w.heap[b]? = some (.cells vs.toArray e (0, 0))) (hl : off + us.length ≤ vs.length) (ho : ∀ u ∈ us, cell1 u = true) :
    ∃ w', (Instr.storeAt t (.pointer (some ⟨b, off, none⟩)) v).run P w = .ok () w' ∧ SetB w b (.cells (vs.take off ++ us ++ vs.drop (off + us.length)).toArray e (0, 0)) w' := by
  obtain ⟨w', hr, hw⟩ := run_storeCells (P := P) us 0 w b off vs e h (by simpa using hl) ho
  refine ⟨w', ?_, by simpa using hw⟩
  unfold Instr.storeAt Instr.sureAddr storeVar
  simp only [pure_bind, Sem.run_bind, hs w, Result.andThen_ok, hv, List.size_toArray, ne_eq, not_true_eq_false, if_false]
  exact hr
theorem low_set {β : List Nat} {D : Data} {w w' : World} {b : Nat} {o : Obj} (hw : SetB w b o w') (h : b ∈ β) : Low β D w D w' :=
  ⟨by rw [hw.1]; simp, fun c _ hn => ⟨by rw [hw.1, Array.getElem?_setIfInBounds_ne (by rintro rfl; exact hn h)], rfl⟩, hw.2⟩
/-- A store into one of the frame's own blocks. -/
theorem L.store {t : TypeId} {b off : Nat} {vs us ws : List Value} {e : TypeId} {μ' : Boxes} (ho : all[ix]? = some ⟨none, .store t x y, ty, pos, aft, g⟩) (hx : ev σ x = some (.pointer (some ⟨b, off, none⟩))) (hy : ev σ y = some v) (hv : v.cells = us.toArray) (hs : TS P t us.length)
    (hm : Has μ b (.cells vs.toArray e (0, 0)) (.cells ws.toArray e (0, 0)) μ') (hl : off + us.length ≤ vs.length) (hw : vs.take off ++ us ++ vs.drop (off + us.length) = ws) (hc1 : ∀ u ∈ us, cell1 u = true) (hg : Gok all σ g) 
    (kk : WL P X bad all K Q os σ μ' Ds) : WL P X bad all K Q ((false, ix) :: os) σ μ Ds := by
  refine L.loud ho rfl rfl hg fun a w hh => ?_
  obtain ⟨h1, h2, h3, D, h4, h5, h6⟩ := id hh
  obtain ⟨w', hr, hw'⟩ := run_storeAt (P := P) hs hv (h4.box _ hm.mem).1 hl hc1
  have : (execOp a.eval ⟨none, .store t x y, ty, pos, aft, g⟩).run P w = .ok .skip w' := by
    simp only [execOp, hh.eval hx, hh.eval hy, Sem.run_bind, hr, Result.andThen_ok, Sem.run_pure]
  rw [this]
  rw [hw] at hw'
  exact ⟨fun h => by simp at h, kk _ _ ⟨h1, h2, h3, D, h4.set hm hw' rfl, h5, h6.step (fun _ p hp => Or.inl (by rw [← hm.keys]; exact List.mem_map.2 ⟨p, hp, rfl⟩)) (fun _ => low_set hw' (List.mem_map.2 ⟨_, hm.mem, rfl⟩)) (h4.set hm hw' rfl).dom⟩⟩
/-! ### Entering a function, and leaving it -/
def slotsOf : Nat → List Value → Slots
  | _, [] => []
  | i, v :: vs => (i, v) :: slotsOf (i + 1) vs
theorem look_slotsOf : ∀ (vs : List Value) (i s : Nat) (v : Value), look (slotsOf i vs) s = some v → i ≤ s ∧ vs[s - i]? = some v
  | [], i, s, v, h => by cases h
  | u :: vs, i, s, v, h => by
    simp only [slotsOf, look] at h
    cases hb : Nat.beq i s with
    | true => rw [hb] at h; cases h; obtain rfl := Nat.eq_of_beq_eq_true hb; simp
    | false =>
      rw [hb] at h
      obtain ⟨h1, h2⟩ := look_slotsOf vs (i + 1) s v h
      refine ⟨by omega, ?_⟩
      rw [show s - i = (s - (i + 1)) + 1 by omega]
      simpa using h2
/-- What a function's walk ends in. -/
def Post (X : Cx) (post : Data → Value → Boxes → Prop) : Ending → World → Prop := fun e w' => ∃ v D' μ', e = .returned v ∧ Sta X.h0 X.lo X.D0 X.mods μ' D' w' ∧ post D' v μ'
theorem np_body {fn : Func} {post : Data → Value → Boxes → Prop} : NP (bodyPost P fn (Post X post)) := by
  rintro c a w ⟨_, v, D', μ', h, _⟩
  cases h
theorem enter {f : FuncId} {fn : Func} {c : Code} {args : List Value} {D : Data} {post : Data → Value → Prop} (N : Nat) (hf : P.funcs[f]? = some fn) (hn : (fn.name == "runtime.NumGoroutine") = false) (hb : fn.body = some c) (hN : fn.ntmps = N) (hsz : Nat.ble args.length N = true)
    (h : ∀ h0 : H0, WC P ⟨none, N, [], h0, h0.size, D, [], none⟩ (bodyPost P fn (Post ⟨none, N, [], h0, h0.size, D, [], none⟩ fun D' v _ => post D' v)) c (slotsOf 0 args) [] [D]) : Fn P f args.toArray D post := by
  refine ⟨EF.of hf hn hb, fun w hw => ?_⟩
  subst hN
  have hsz := Nat.le_of_ble_eq_true hsz
  refine (callsIn_FW (r := none) (n := 0)).1 ((callsIn_of_wp (R := Post ⟨none, fn.ntmps, [], hd w, w.heap.size, D, [], none⟩ fun D' v _ => post D' v) hf hb trivial (h (hd w) _ w ⟨?_, fun s v hs => ?_, rfl, D, ⟨Nat.le_refl _, Nat.le_refl _, fun _ _ _ => rfl, fun _ _ => rfl, hw, (fun p hp => by cases hp), List.nodup_nil, fun b o hb ho => absurd (lt_of_some ho) (Nat.not_lt_of_le (hb.resolve_right (by simp))), fun e he => Option.some.inj he⟩, fun D₁ h1 => ?_, trivial⟩) rfl).mono ?_)
  · simp; omega
  · obtain ⟨_, h2⟩ := look_slotsOf args 0 s v hs
    have hl := (List.getElem?_eq_some_iff.1 h2).1
    simp only [Nat.sub_zero] at h2 hl
    show (args.toArray ++ _)[s]? = some v
    rw [Array.getElem?_append_left (by simpa using hl)]
    simpa using h2
  · simp only [List.mem_singleton] at h1; subst h1; exact Le.refl _
  · rintro e w' ⟨v, D', μ', rfl, hs, hp⟩
    exact ⟨v, D', rfl, hs.sub (by intro p hp; cases hp) List.nodup_nil, hp⟩
/-- The results, one after the other. -/
def ResV (P : Program) (X : Cx) (σ : Slots) (μ : Boxes) : List ResultVar → List Value → Prop
  | [], [] => True
  | .tmp t :: rs, v :: vs => look σ t = some v ∧ ResV P X σ μ rs vs
  | .cell a t :: rs, v :: vs => (∃ b us e, look σ a = some (.pointer (some ⟨b, 0, none⟩)) ∧ (b, .cells us e (0, 0)) ∈ μ ∧
      ((TA P t false ∧ us = #[v]) ∨ (TA P t true ∧ TS P t us.size ∧ v = .agg us))) ∧ ResV P X σ μ rs vs
  | _, _ => False
def resOne (tmps : Array Value) (r : ResultVar) : Sem Value :=
  match r with
  | .tmp t => pure (tmps.getD t undef)
  | .cell a t => do loadVar t (← asAddr (tmps.getD a undef))
theorem run_resV {a : Act} {w : World} (hh : Hl X σ μ Ds a w) : ∀ (rs : List ResultVar) (vs : List Value), ResV P X σ μ rs vs → (rs.mapM (resOne a.tmps)).run P w = .ok vs w
  | [], [], _ => rfl
  | [], _ :: _, h => h.elim
  | .tmp t :: rs, [], h => h.elim
  | .cell _ _ :: rs, [], h => h.elim
  | .tmp t :: rs, v :: vs, h => by
    have hv := hh.2.1 _ _ h.1
    have he : a.tmps.getD t undef = v := by rw [Array.getD_eq_getD_getElem?, hv]; rfl
    have h1 : (resOne a.tmps (.tmp t)).run P w = .ok v w := by simp only [resOne, he, Sem.run_pure]
    rw [List.mapM_cons, Sem.run_bind, h1, Result.andThen_ok, Sem.run_bind, run_resV hh rs vs h.2]
    rfl
  | .cell s t :: rs, v :: vs, h => by
    obtain ⟨⟨b, us, e, hs, hm, hc⟩, hr⟩ := h
    have hv := hh.2.1 _ _ hs
    have he : a.tmps.getD s undef = .pointer (some ⟨b, 0, none⟩) := by rw [Array.getD_eq_getD_getElem?, hv]; rfl
    have hbox := hh.boxAt (bad := []) hm (by simp) (Keep.refl _ w)
    have hload : (loadVar t ⟨b, 0, none⟩).run P w = .ok v w := by
      rcases hc with ⟨ha, hu⟩ | ⟨ha, hsz, hu⟩
      · have := run_loadAt_one (P := P) (t := t) (b := b) (off := 0) (v := v) ha (cell_of hbox (by rw [hu]; rfl))
        simpa [Instr.loadAt, Instr.sureAddr] using this
      · have := run_loadAt_agg (P := P) (t := t) (b := b) (off := 0) (vs := us.toList) ha (by simpa using hsz) (fun j u hj => cell_of hbox (by simpa using hj))
        rw [hu]
        simpa [Instr.loadAt, Instr.sureAddr] using this
    have h1 : (resOne a.tmps (.cell s t)).run P w = .ok v w := by simp only [resOne, he, asAddr, pure_bind]; exact hload
    rw [List.mapM_cons, Sem.run_bind, h1, Result.andThen_ok, Sem.run_bind, run_resV hh rs vs hr]
    rfl
def resOf : List Value → Value
  | [v] => v
  | vs => .tuple vs.toArray
theorem run_results {fn : Func} {a : Act} {w : World} (hh : Hl X σ μ Ds a w) {rs : List ResultVar} {vs : List Value} (hr : fn.results = rs.toArray) (h : ResV P X σ μ rs vs) : (results fn a.tmps).run P w = .ok (resOf vs) w := by
  have e : results fn a.tmps = (rs.toArray.mapM (resOne a.tmps) >>= fun vs => Pure.pure (if h : vs.size = 1 then vs[0] else .tuple vs)) := by rw [← hr]; rfl
  rw [e, List.mapM_toArray, Sem.run_bind, Sem.run_map, run_resV hh rs vs h]
  simp only [Result.andThen_ok, Sem.run_pure]
  match vs with
  | [] => rfl
  | [v] => rfl
  | _ :: _ :: _ => rfl
/-- Leaving a function by its end or by a return. -/
theorem leave {fn : Func} {post : Data → Value → Boxes → Prop} {e : Exit} (he : (match e with | .normal => true | .ret => true | _ => false) = true) {rs : List ResultVar} {vs : List Value} (hds : X.ds = []) (hr : fn.results = rs.toArray) (h : ResV P X σ μ rs vs)
    (hp : ∀ D, (∀ D₁ ∈ Ds, Le D₁ D) → post D (resOf vs) μ) : ∀ a w, Hl X σ μ Ds a w → bodyPost P fn (Post X post) e a w := by
  intro a w hh
  have hrun := run_results hh hr h
  obtain ⟨h1, h2, h3, D, h4, h5, h6⟩ := hh
  have : a.defers = [] ∧ ∃ v, (results fn a.tmps).run P w = .ok v w ∧ Post X post (.returned v) w := ⟨h3.trans hds, _, hrun, _, D, μ, rfl, h4, hp D h5⟩
  cases e <;> first | exact this | cases he
end Go.Fs
