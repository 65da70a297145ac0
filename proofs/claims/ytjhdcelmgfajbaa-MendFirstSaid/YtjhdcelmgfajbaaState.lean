/- What is known at a place of the code: the slots, the frame's own blocks, and the data that never changes again. The rules of the code, and those of the quiet operations. -/
import Derived.Test.YtjhdcelmgfajbaaBase
import Derived.WalkKit
namespace Go.Fs

abbrev Slots := List (Nat × Value)
abbrev Boxes := List (Nat × Obj)
/-- The cells at the head of each block that never change again. -/
abbrev Data := Nat → List Value

def look : Slots → Nat → Option Value
  | [], _ => none
  | (k, v) :: r, s => match Nat.beq k s with | true => some v | false => look r s

def ev (σ : Slots) : Operand → Option Value
  | .tmp t => look σ t
  | .const v => some v
  | .global g => some (.pointer (some ⟨g, 0, none⟩))
  | .func f => some (.func (.func f) #[] #[])

def Le (D D' : Data) : Prop := ∀ b, D b <+: D' b
theorem Le.refl (D : Data) : Le D D := fun _ => List.prefix_refl _
theorem Le.trans {D D' D'' : Data} (h : Le D D') (h' : Le D' D'') : Le D D'' := fun b => (h b).trans (h' b)
theorem Le.get {D D' : Data} (h : Le D D') {b i : Nat} {v : Value} (hv : (D b)[i]? = some v) : (D' b)[i]? = some v := by
  obtain ⟨t, ht⟩ := h b
  rw [← ht, List.getElem?_append_left]
  · exact hv
  · exact (List.getElem?_eq_some_iff.1 hv).1

/-- The world holds the data. -/
def Agrees (D : Data) (w : World) : Prop := ∀ b, D b ≠ [] → ∃ cs e fz, w.heap[b]? = some (.cells cs e fz) ∧ D b <+: cs.toList

/-- No cell of a new block is kept from being written. -/
def unfrozen : Obj → Prop
  | .cells _ _ z => z = (0, 0)
  | _ => True

def wenv (w : World) : Os × Array (Nat × ByteArray) := (w.os, w.output)
/-- What lay at the entry: the blocks; what the system is like, if it is known. -/
structure H0 where
  arr : Array Obj
  env : Option (Os × Array (Nat × ByteArray))
abbrev H0.size (h : H0) : Nat := h.arr.size
abbrev hd (w : World) : H0 := ⟨w.heap, some (wenv w)⟩

/-- What the frame knows of the world, from its entry on: what lay before lies as it lay (but for 'mods'), its own blocks (from 'lo' on), the data. -/
structure Sta (h0 : H0) (lo : Nat) (D0 : Data) (mods : List Nat) (μ : Boxes) (D : Data) (w : World) : Prop where
  hlo : h0.size ≤ lo
  size : lo ≤ w.heap.size
  old : ∀ b, b < h0.size → b ∉ mods → w.heap[b]? = h0.arr[b]?
  dold : ∀ b, b < h0.size → D b = D0 b
  agr : Agrees D w
  box : ∀ p ∈ μ, w.heap[p.1]? = some p.2 ∧ D p.1 = [] ∧ (lo ≤ p.1 ∨ p.1 ∈ mods)
  nd : (μ.map (·.1)).Nodup
  fz : ∀ b o, lo ≤ b ∨ b ∈ mods → w.heap[b]? = some o → unfrozen o
  env : ∀ e, h0.env = some e → wenv w = e

/-- The world holds the data, and no block from lo on is kept from being written. -/
def Dom (lo : Nat) (D : Data) (w : World) : Prop := Agrees D w ∧ lo ≤ w.heap.size ∧ ∀ b o, lo ≤ b → w.heap[b]? = some o → unfrozen o

theorem Sta.dom {h0 : H0} {lo : Nat} {D0 : Data} {mods : List Nat} {μ : Boxes} {D : Data} {w : World} (h : Sta h0 lo D0 mods μ D w) : Dom lo D w := ⟨h.agr, h.size, fun b o hb => h.fz b o (Or.inl hb)⟩

/-- Whatever lies in none of the blocks of a list is as it was. -/
def Low (β : List Nat) (D : Data) (w : World) (D' : Data) (w' : World) : Prop := w.heap.size ≤ w'.heap.size ∧ (∀ b, b < w.heap.size → b ∉ β → w'.heap[b]? = w.heap[b]? ∧ D' b = D b) ∧ wenv w' = wenv w

theorem Low.refl (β : List Nat) (D : Data) (w : World) : Low β D w D w := ⟨Nat.le_refl _, fun _ _ _ => ⟨rfl, rfl⟩, rfl⟩

/-- What somebody else knows of the world, who does not touch the blocks of the list: it stays, whatever is done in these and in new ones. -/
structure Stb (lo : Nat) (J : List Nat → Data → World → Prop) : Prop where
  low : ∀ β D w D' w', J β D w → Low β D w D' w' → Dom lo D' w' → J β D' w'
  own : ∀ β β' D w, J β D w → (∀ b ∈ β', b ∈ β ∨ w.heap.size ≤ b) → J β' D w

structure Cx where
  r : Option Nat
  N : Nat
  ds : List Deferred
  h0 : H0
  lo : Nat
  D0 : Data
  mods : List Nat
  ex : Option (List Nat → Data → World → Prop)

/-- What else is known, of somebody who does not touch the boxes. -/
def exOk (X : Cx) (μ : Boxes) (D : Data) (w : World) : Prop :=
  match X.ex with
  | none => True
  | some J => Stb X.lo J ∧ J (μ.map (·.1)) D w

theorem exOk.step {X : Cx} {μ μ' : Boxes} {D D' : Data} {w w' : World} (h : exOk X μ D w) (hk : X.ex ≠ none → ∀ p ∈ μ', p.1 ∈ μ.map (·.1) ∨ w.heap.size ≤ p.1) (hl : X.ex ≠ none → Low (μ.map (·.1)) D w D' w') (hd : Dom X.lo D' w') : exOk X μ' D' w' := by
  unfold exOk at *
  cases hx : X.ex with
  | none => trivial
  | some J =>
    rw [hx] at h
    have hne : X.ex ≠ none := by simp [hx]
    refine ⟨h.1, ?_⟩
    have h1 := h.1.own _ (μ'.map (·.1) ++ μ.map (·.1)) D w h.2 (fun b hb => by
      rcases List.mem_append.1 hb with hb | hb
      · obtain ⟨p, hp, rfl⟩ := List.mem_map.1 hb; exact hk hne p hp
      · exact Or.inl hb)
    have h2 := h.1.low _ D w D' w' h1 ⟨(hl hne).1, fun b hb hn => (hl hne).2.1 b hb (fun hm => hn (List.mem_append_right _ hm)), (hl hne).2.2⟩ hd
    exact h.1.own _ _ D' w' h2 (fun b hb => Or.inl (List.mem_append_left _ hb))

def Hl (X : Cx) (σ : Slots) (μ : Boxes) (Ds : List Data) (a : Act) (w : World) : Prop :=
  a.tmps.size = X.N ∧ (∀ s v, look σ s = some v → a.tmps[s]? = some v) ∧ a.defers = X.ds ∧ ∃ D, Sta X.h0 X.lo X.D0 X.mods μ D w ∧ (∀ D₁ ∈ Ds, Le D₁ D) ∧ exOk X μ D w

/-- A list of operations, from what is known on. -/
def WL (P : Program) (X : Cx) {γb : Type} [Membership Nat γb] (bad : γb) (all : Array Oper) (K : Act → World → Prop) (Q : Exit → Act → World → Prop) (os : List (Bool × Nat)) (σ : Slots) (μ : Boxes) (Ds : List Data) : Prop :=
  ∀ a w, Hl X σ μ Ds a w → wpL X.r bad P all K Q (opsAt all os) a w

/-- Code, from what is known on. -/
def WC (P : Program) (X : Cx) (Q : Exit → Act → World → Prop) (c : Code) (σ : Slots) (μ : Boxes) (Ds : List Data) : Prop :=
  ∀ a w, Hl X σ μ Ds a w → c.wpIn (FW X.r) 0 P Q a w

variable {P : Program} {X : Cx} {γb : Type} [Membership Nat γb] {bad : γb} {all : Array Oper} {K : Act → World → Prop} {Q : Exit → Act → World → Prop}
variable {σ : Slots} {μ : Boxes} {Ds : List Data} {os : List (Bool × Nat)} {fl : Bool} {ix : Nat}

theorem Hl.eval {a : Act} {w : World} (h : Hl X σ μ Ds a w) {x : Operand} {v : Value} (hx : ev σ x = some v) : a.eval x = v := by
  cases x with
  | tmp t =>
    have := h.2.1 t v hx
    show a.tmps.getD t undef = v
    rw [Array.getD_eq_getD_getElem?, this]; rfl
  | const v => exact Option.some.inj hx
  | global g => exact Option.some.inj hx
  | func f => exact Option.some.inj hx

theorem Hl.put {a : Act} {w : World} (h : Hl X σ μ Ds a w) {d : Nat} (hd : Nat.blt d X.N = true) (v : Value) : Hl X ((d, v) :: σ) μ Ds (a.put (some d) v) w := by
  have hd' : d < X.N := by simpa [Nat.blt_eq] using hd
  refine ⟨by simpa [Act.put] using h.1, fun s u hs => ?_, h.2.2.1, h.2.2.2⟩
  simp only [look] at hs
  simp only [Act.put]
  cases hb : Nat.beq d s with
  | true =>
    rw [hb] at hs
    obtain rfl := Nat.eq_of_beq_eq_true hb
    cases hs
    rw [Array.getElem?_setIfInBounds_self_of_lt (by rw [h.1]; exact hd')]
  | false =>
    rw [hb] at hs
    rw [Array.getElem?_setIfInBounds_ne (fun e => by subst e; simp at hb)]
    exact h.2.1 s u hs

theorem Hl.put_none {a : Act} {w : World} (h : Hl X σ μ Ds a w) (v : Value) : Hl X σ μ Ds (a.put none v) w := h

/-- What a slot's fact is worth: each of the second list's is one of the first's. -/
def Sub : Slots → Slots → Prop
  | _, [] => True
  | σ, (k, v) :: r => look σ k = some v ∧ Sub σ r

theorem Sub.look {σ σ' : Slots} (h : Sub σ σ') {s : Nat} {v : Value} (hv : look σ' s = some v) : look σ s = some v := by
  induction σ' with
  | nil => cases hv
  | cons p r ih =>
    obtain ⟨k, u⟩ := p
    simp only [Fs.look] at hv
    cases hb : Nat.beq k s with
    | true => rw [hb] at hv; cases hv; obtain rfl := Nat.eq_of_beq_eq_true hb; exact h.1
    | false => rw [hb] at hv; exact ih h.2 hv

/-- Boxes may be forgotten, and listed in another order. -/
theorem Sta.sub {h0 : H0} {lo : Nat} {D0 : Data} {mods : List Nat} {μ μ' : Boxes} {D : Data} {w : World} (h : Sta h0 lo D0 mods μ D w) (hs : ∀ p ∈ μ', p ∈ μ) (hn : (μ'.map (·.1)).Nodup) : Sta h0 lo D0 mods μ' D w :=
  ⟨h.hlo, h.size, h.old, h.dold, h.agr, fun p hp => h.box p (hs p hp), hn, h.fz, h.env⟩

theorem Hl.weak {σ' : Slots} {μ' : Boxes} {Ds' : List Data} {a : Act} {w : World} (h : Hl X σ μ Ds a w) (hσ : Sub σ σ') (hμ : μ'.Sublist μ) (hD : ∀ D ∈ Ds', ∃ D' ∈ Ds, Le D D') : Hl X σ' μ' Ds' a w := by
  obtain ⟨h1, h2, h3, D, h4, h5, h6⟩ := h
  refine ⟨h1, fun s v hv => h2 s v (hσ.look hv), h3, D, h4.sub (fun p hp => hμ.mem hp) ((hμ.map (·.1)).nodup h4.nd), fun D₁ hD₁ => ?_, h6.step (fun _ p hp => Or.inl (List.mem_map.2 ⟨p, hμ.mem hp, rfl⟩)) (fun _ => Low.refl _ _ _) h4.dom⟩
  obtain ⟨D₂, hm, hle⟩ := hD D₁ hD₁
  exact hle.trans (h5 D₂ hm)

theorem Sub.app {σ σ1 σ2 : Slots} (h1 : Sub σ σ1) (h2 : Sub σ σ2) : Sub σ (σ1 ++ σ2) := by
  induction σ1 with
  | nil => exact h2
  | cons p r ih => exact ⟨h1.1, ih h1.2⟩
theorem look_append {σ1 σ2 : Slots} {s : Nat} {v : Value} (h : look (σ1 ++ σ2) s = some v) : look σ1 s = some v ∨ look σ2 s = some v := by
  induction σ1 with
  | nil => exact Or.inr h
  | cons p r ih =>
    obtain ⟨k, u⟩ := p
    simp only [List.cons_append, look] at h ⊢
    cases hb : Nat.beq k s with
    | true => rw [hb] at h; exact Or.inl h
    | false => rw [hb] at h; exact ih h

/-! ### Rules of the code -/
def NP (Q : Exit → Act → World → Prop) : Prop := ∀ c a w, ¬ Q (.panic c) a w

theorem C.seq {x y : Code} (h : WC P X (Exit.then (y.wpIn (FW X.r) 0 P Q) Q) x σ μ Ds) : WC P X Q (.seq x y) σ μ Ds :=
  fun a w hh => wpIn_seq (h a w hh)

theorem C.skip (h : ∀ a w, Hl X σ μ Ds a w → Q .normal a w) : WC P X Q .skip σ μ Ds := fun a w hh => wpIn_skip (h a w hh)
theorem C.exit {id : Nat} (h : ∀ a w, Hl X σ μ Ds a w → Q (.exit id) a w) : WC P X Q (.exit id) σ μ Ds := fun a w hh => wpIn_exit (h a w hh)
theorem C.ret (h : ∀ a w, Hl X σ μ Ds a w → Q .ret a w) : WC P X Q .ret σ μ Ds := fun a w hh => wpIn_ret (h a w hh)

/-- What comes next. -/
theorem C.next {y : Code} (h : WC P X Q y σ μ Ds) : ∀ a w, Hl X σ μ Ds a w → (Exit.then (y.wpIn (FW X.r) 0 P Q) Q) .normal a w := h

theorem C.cond {c : Operand} {x y : Code} {b : Bool} (hc : ev σ c = some (.bool b)) (ht : b = true → WC P X Q x σ μ Ds) (hf : b = false → WC P X Q y σ μ Ds) : WC P X Q (.cond c x y) σ μ Ds :=
  fun a w hh => wpIn_cond_split (hh.eval hc) (fun e => ht e a w hh) (fun e => hf e a w hh)

theorem C.block {id : Nat} {c : Code} (h : WC P X (Exit.inBlock id Q) c σ μ Ds) : WC P X Q (.block id c) σ μ Ds := fun a w hh => wpIn_block (h a w hh)

theorem C.block_exit {id : Nat} {a : Act} {w : World} (h : Q .normal a w) : Exit.inBlock id Q (.exit id) a w := by simp [Exit.inBlock, h]
theorem C.block_other {id id' : Nat} (hne : Nat.beq id' id = false) {a : Act} {w : World} (h : Q (.exit id') a w) : Exit.inBlock id Q (.exit id') a w := by
  have : id' ≠ id := fun e => by subst e; simp at hne
  simp [Exit.inBlock, this, h]

theorem C.region (is : List (Bool × Nat)) {id : Nat} {ops : Array Oper} (hi : is = (List.range ops.size).map fun i => (false, i)) (h : WL P X [] ops (fun a w => Q .normal a w) Q is σ μ Ds) : WC P X Q (.region id ops false) σ μ Ds :=
  fun a w hh => wp_plain (by rw [plain_eq, ← hi]; exact h a w hh)

theorem Hl.drew {a : Act} {w : World} (h : Hl X σ μ Ds a w) : Hl X σ μ Ds a { w with drawn := w.drawn + 1 } := by
  obtain ⟨h1, h2, h3, D, h4, h5, h6⟩ := h
  exact ⟨h1, h2, h3, D, ⟨h4.hlo, h4.size, h4.old, h4.dold, h4.agr, h4.box, h4.nd, h4.fz, h4.env⟩, h5, h6.step (fun _ p hp => Or.inl (List.mem_map.2 ⟨p, hp, rfl⟩)) (fun _ => ⟨Nat.le_refl _, fun _ _ _ => ⟨rfl, rfl⟩, rfl⟩) h4.dom⟩

theorem C.draw {γb : Type} [Membership Nat γb] (bad : γb) (n : Nat) (c : List Nat) (bits : List Bool) (is : List (Bool × Nat)) {id : Nat} {ops : Array Oper} (hm : P.follows .mixedOrders = true) (hQ : NP Q) (hc : (canon ops n c && (bitsOf ops n [] c == bits)) = true) (hi : is = bits.zip c)
    (h : WL P X bad ops (fun a w => Q .normal a w) Q is σ μ Ds) : WC P X Q (.region id ops true) σ μ Ds := by
  rw [Bool.and_eq_true] at hc
  intro a w hh
  refine wp_draw (bad := bad) hm hc.1 hQ ?_
  rw [listed_eq, eq_of_beq hc.2, ← hi]
  exact h a _ hh.drew

theorem opsAt_map (all : Array Oper) (fls : List Bool) (c : List Nat) {is : List (Bool × Nat)} (h : is = c.map fun i => (fls.getD i false, i)) : opsAt all is = opsAt all (c.map fun i => (fls.getD i false, i)) := by rw [h]

/-- By segments, from what is known on; K behind them. -/
def WS (P : Program) (X : Cx) {γb : Type} [Membership Nat γb] (bad : γb) (all : Array Oper) (fls : List Bool) (K : Act → World → Prop) (Q : Exit → Act → World → Prop) (segs : List Plan) (σ : Slots) (μ : Boxes) (Ds : List Data) : Prop :=
  ∀ a w, Hl X σ μ Ds a w → wpSL X.r bad P all fls Q K segs a w
/-- One segment, or what is left of it. -/
def WP (P : Program) (X : Cx) {γb : Type} [Membership Nat γb] (bad : γb) (all : Array Oper) (fls : List Bool) (kont : Act → World → Prop) (Q : Exit → Act → World → Prop) (pl : Plan) (σ : Slots) (μ : Boxes) (Ds : List Data) : Prop :=
  ∀ a w, Hl X σ μ Ds a w → wpPL X.r bad P all fls Q kont pl a w
theorem C.drawS {γb : Type} [Membership Nat γb] (bad : γb) (n : Nat) (fls : List Bool) (segs : List Plan) {id : Nat} {ops : Array Oper} (hm : P.follows .mixedOrders = true) (hQ : NP Q) (hc : (segsChk ops n fls [] segs && segs.all fun pl => planLt ops.size pl) = true)
    (h : WS P X bad ops fls (fun a w => Q .normal a w) Q segs σ μ Ds) : WC P X Q (.region id ops true) σ μ Ds := by
  intro a w hh
  exact wp_drawS (bad := bad) hm hc hQ (h a _ hh.drew)
section segments
variable {fls : List Bool} {kont : Act → World → Prop}
theorem S.nil (h : ∀ a w, Hl X σ μ Ds a w → K a w) : WS P X bad all fls K Q [] σ μ Ds := h
theorem S.fin {c : List Nat} {segs : List Plan} (is : List (Bool × Nat)) (hi : is = c.map fun i => (fls.getD i false, i)) (h : WL P X bad all (fun a w => wpSL X.r bad P all fls Q K segs a w) Q is σ μ Ds) : WS P X bad all fls K Q (.fin c :: segs) σ μ Ds := by
  subst hi; exact h
theorem S.cons {pl : Plan} {segs : List Plan} (h : WP P X bad all fls (fun a w => wpSL X.r bad P all fls Q K segs a w) Q pl σ μ Ds) : WS P X bad all fls K Q (pl :: segs) σ μ Ds := h
theorem L.planFin {c : List Nat} (is : List (Bool × Nat)) (hi : is = c.map fun i => (fls.getD i false, i)) (h : WL P X bad all kont Q is σ μ Ds) : WP P X bad all fls kont Q (.fin c) σ μ Ds := by
  subst hi; exact h
theorem L.planFork {d : List Nat} {p q : Nat} {A B : Plan} (is : List (Bool × Nat)) (hi : is = d.map fun i => (fls.getD i false, i))
    (h : WL P X bad all (fun a w => wpL X.r bad P all (wpPL X.r bad P all fls Q kont A) Q (opsAt all [(fls.getD p false, p)]) a w ∧ wpL X.r bad P all (wpPL X.r bad P all fls Q kont B) Q (opsAt all [(fls.getD q false, q)]) a w) Q is σ μ Ds) : WP P X bad all fls kont Q (.fork d p A q B) σ μ Ds := by
  subst hi; exact h
theorem L.forkP {p q : Nat} {A B : Plan} (bp bq : Bool) (hp : fls.getD p false = bp) (hq : fls.getD q false = bq) (h1 : WL P X bad all (fun a w => wpPL X.r bad P all fls Q kont A a w) Q [(bp, p)] σ μ Ds) (h2 : WL P X bad all (fun a w => wpPL X.r bad P all fls Q kont B a w) Q [(bq, q)] σ μ Ds) :
    ∀ a w, Hl X σ μ Ds a w → wpL X.r bad P all (wpPL X.r bad P all fls Q kont A) Q (opsAt all [(fls.getD p false, p)]) a w ∧ wpL X.r bad P all (wpPL X.r bad P all fls Q kont B) Q (opsAt all [(fls.getD q false, q)]) a w := fun a w hh => by
  subst hp hq
  exact ⟨h1 a w hh, h2 a w hh⟩
end segments

/-- A loop: what is known at each round's head goes by a letter g; 'm' falls. -/
theorem C.loop {γ : Type} {c : Code} (m : γ → Nat) (I : γ → Prop) (S : γ → Slots) (M : γ → Boxes) (E : γ → List Data) (g₀ : γ) (h₀ : I g₀) (hσ : Sub σ (S g₀)) (hμ : (M g₀).Sublist μ) (hD : ∀ D ∈ E g₀, ∃ D' ∈ Ds, Le D D')
    (round : ∀ g, I g → WC P X (Exit.then (fun a w => ∃ g', I g' ∧ m g' < m g ∧ Hl X (S g') (M g') (E g') a w) Q) c (S g) (M g) (E g)) : WC P X Q (.loop c) σ μ Ds := by
  let p : Act → World → Nat → Prop := fun a w n => ∃ g, I g ∧ m g = n ∧ Hl X (S g) (M g) (E g) a w
  have ex : ∀ a w, (∃ n, p a w n) → ∃ n, p a w n ∧ ∀ k, p a w k → n ≤ k := by
    intro a w ⟨n, hn⟩
    induction n using Nat.strongRecOn with
    | _ n ih =>
      by_cases h : ∃ k, k < n ∧ p a w k
      · obtain ⟨k, hk, hp⟩ := h; exact ih k hk hp
      · exact ⟨n, hn, fun k hk => Nat.le_of_not_lt fun hl => h ⟨k, hl, hk⟩⟩
  intro a w hh
  refine wpIn_loop (fun a w => ∃ n, p a w n) (fun a w => open Classical in if h : ∃ n, p a w n then (ex a w h).choose else 0) ⟨_, g₀, h₀, rfl, hh.weak hσ hμ hD⟩ ?_
  intro a w hI
  obtain ⟨⟨g, hg, hm, hst⟩, hmin⟩ := (ex a w hI).choose_spec
  refine wpIn_mono (round g hg a w hst) fun e a' w' hq => ?_
  cases e with
  | normal =>
    obtain ⟨g', hg', hlt, hst'⟩ := hq
    have hI' : ∃ n, p a' w' n := ⟨_, g', hg', rfl, hst'⟩
    refine ⟨hI', ?_⟩
    simp only [dif_pos hI', dif_pos hI]
    have := (ex a' w' hI').choose_spec.2 _ ⟨g', hg', rfl, hst'⟩
    omega
  | _ => exact hq

/-! ### Rules of the operations -/
/-- The operation runs: it has no guard, or its guard has said so. -/
def Gok (all : Array Oper) (σ : Slots) : Option (Nat × Bool) → Prop
  | none => True
  | some (j, want) => ∃ s, (all[j]?).bind (·.dst) = some s ∧ look σ s = some (.bool want)

/-- The operation is passed over. -/
def Gno (all : Array Oper) (σ : Slots) : Option (Nat × Bool) → Prop
  | none => False
  | some (j, want) => ∃ s v, (all[j]?).bind (·.dst) = some s ∧ look σ s = some v ∧ (match v with | .bool b => Bool.xor b want | _ => true) = true

theorem Hl.wanted {a : Act} {w : World} (h : Hl X σ μ Ds a w) {o : Oper} (hg : Gok all σ o.guard) : Region.wanted o (yielded all a.tmps) = true := by
  unfold Region.wanted
  cases hgd : o.guard with
  | none => rfl
  | some p =>
    obtain ⟨j, want⟩ := p
    rw [hgd] at hg
    obtain ⟨s, hs, hl⟩ := hg
    simp [yielded, hs, h.2.1 s _ hl]

theorem Hl.unwanted {a : Act} {w : World} (h : Hl X σ μ Ds a w) {o : Oper} (hg : Gno all σ o.guard) : Region.wanted o (yielded all a.tmps) = false := by
  unfold Region.wanted
  cases hgd : o.guard with
  | none => rw [hgd] at hg; exact hg.elim
  | some p =>
    obtain ⟨j, want⟩ := p
    rw [hgd] at hg
    obtain ⟨s, v, hs, hl, hv⟩ := hg
    have hy : yielded all a.tmps j = (match v with | .bool b => some b | _ => none) := by
      simp only [yielded, hs, Option.bind_some, h.2.1 s _ hl]
      cases v <;> rfl
    simp only [hy]
    cases v with
    | bool b => cases b <;> cases want <;> first | rfl | (simp at hv)
    | _ => rfl

theorem L.nil (h : ∀ a w, Hl X σ μ Ds a w → K a w) : WL P X bad all K Q [] σ μ Ds := fun a w hh => h a w hh

/-- A quiet operation that gives v. -/
theorem opsAt_cons {o : Oper} (ho : all[ix]? = some o) : opsAt all ((fl, ix) :: os) = (fl, o) :: opsAt all os := by simp [opsAt, ho]

theorem L.quiet {o : Oper} {d : Nat} {v : Value} (ho : all[ix]? = some o) (hq : quietKind o.op = true) (hd : o.dst = some d) (hN : Nat.blt d X.N = true) (hg : Gok all σ o.guard)
    (hv : ∀ a w, Hl X σ μ Ds a w → ∀ w', Keep bad w w' → (execOp a.eval o).run P w' = .ok (.value v) w') (k : WL P X bad all K Q os ((d, v) :: σ) μ Ds) : WL P X bad all K Q ((fl, ix) :: os) σ μ Ds := by
  intro a w hh
  rw [opsAt_cons ho]
  simp only [wpL, hq, if_true]
  refine ⟨v, Or.inl ⟨hh.wanted hg, hv a w hh⟩, ?_⟩
  rw [hd]
  exact k _ _ (hh.put hN v)

/-- A quiet operation without world: whatever the slots of its operands hold. -/
theorem L.pure {o : Oper} {d : Nat} {v : Value} (ho : all[ix]? = some o) (hq : quietKind o.op = true) (hd : o.dst = some d) (hN : Nat.blt d X.N = true) (hg : Gok all σ o.guard)
    (hv : ∀ ρ : Operand → Value, (∀ x u, ev σ x = some u → ρ x = u) → ∀ w', (execOp ρ o).run P w' = .ok (.value v) w') (k : WL P X bad all K Q os ((d, v) :: σ) μ Ds) : WL P X bad all K Q ((fl, ix) :: os) σ μ Ds :=
  L.quiet ho hq hd hN hg (fun a _ hh w' _ => hv a.eval (fun _ _ hx => hh.eval hx) w') k

/-- An operation that is passed over. -/
theorem L.pass {o : Oper} {d : Nat} (ho : all[ix]? = some o) (hd : o.dst = some d) (hN : Nat.blt d X.N = true) (hg : Gno all σ o.guard) (k : WL P X bad all K Q os ((d, undef) :: σ) μ Ds) : WL P X bad all K Q ((fl, ix) :: os) σ μ Ds := by
  intro a w hh
  rw [opsAt_cons ho]
  simp only [wpL]
  split
  · refine ⟨undef, Or.inr ⟨hh.unwanted hg, rfl⟩, ?_⟩
    rw [hd]; exact k _ _ (hh.put hN _)
  · unfold Loud
    rw [if_neg (by rw [hh.unwanted hg]; simp), hd]
    exact k _ _ (hh.put hN _)

theorem L.pass_none {o : Oper} (ho : all[ix]? = some o) (hd : o.dst = none) (hg : Gno all σ o.guard) (k : WL P X bad all K Q os σ μ Ds) : WL P X bad all K Q ((fl, ix) :: os) σ μ Ds := by
  intro a w hh
  rw [opsAt_cons ho]
  simp only [wpL]
  split
  · refine ⟨undef, Or.inr ⟨hh.unwanted hg, rfl⟩, ?_⟩
    rw [hd]; exact k _ _ hh
  · unfold Loud
    rw [if_neg (by rw [hh.unwanted hg]; simp), hd]
    exact k _ _ hh

/-- Forget, in the midst of a list. -/
theorem L.weak {σ' : Slots} {μ' : Boxes} {Ds' : List Data} (hσ : Sub σ σ') (hμ : μ'.Sublist μ) (hD : ∀ D ∈ Ds', ∃ D' ∈ Ds, Le D D') (k : WL P X bad all K Q os σ' μ' Ds') : WL P X bad all K Q os σ μ Ds :=
  fun a w hh => k a w (hh.weak hσ hμ hD)
theorem L.weakM (μ' : Boxes) (hμ : μ'.Sublist μ) (k : WL P X bad all K Q os σ μ' Ds) : WL P X bad all K Q os σ μ Ds := fun a w hh => by
  obtain ⟨h1, h2, h3, D, h4, h5, h6⟩ := hh
  exact k a w ⟨h1, h2, h3, D, h4.sub (fun p hp => hμ.mem hp) ((hμ.map (·.1)).nodup h4.nd), h5, h6.step (fun _ p hp => Or.inl (List.mem_map.2 ⟨p, hμ.mem hp, rfl⟩)) (fun _ => Low.refl _ _ _) h4.dom⟩
theorem C.weak {c : Code} {σ' : Slots} {μ' : Boxes} {Ds' : List Data} (hσ : Sub σ σ') (hμ : μ'.Sublist μ) (hD : ∀ D ∈ Ds', ∃ D' ∈ Ds, Le D D') (k : WC P X Q c σ' μ' Ds') : WC P X Q c σ μ Ds :=
  fun a w hh => k a w (hh.weak hσ hμ hD)

theorem wpL_append {K' : Act → World → Prop} : ∀ (xs ys : List (Bool × Oper)) (a : Act) (w : World), wpL X.r bad P all (fun a w => K' a w) Q xs a w → (∀ a w, K' a w → wpL X.r bad P all K Q ys a w) → wpL X.r bad P all K Q (xs ++ ys) a w
  | [], ys, a, w, h, hk => hk a w h
  | (fl, o) :: xs, ys, a, w, h, hk => by
    simp only [List.cons_append, wpL] at h ⊢
    split at h
    · rename_i hq
      rw [if_pos hq]
      obtain ⟨v, hy, h⟩ := h
      exact ⟨v, hy, wpL_append xs ys _ _ h hk⟩
    · rename_i hq
      rw [if_neg hq]
      exact h.mono fun a w hh => wpL_append xs ys a w hh hk

theorem WL.append {K' : Act → World → Prop} {xs ys : List (Bool × Nat)} {a : Act} {w : World} (h : wpL X.r bad P all (fun a w => K' a w) Q (opsAt all xs) a w) (hk : ∀ a w, K' a w → wpL X.r bad P all K Q (opsAt all ys) a w) :
    wpL X.r bad P all K Q (opsAt all (xs ++ ys)) a w := by
  rw [opsAt, List.map_append]
  exact wpL_append _ _ a w h hk

/-- A cut: the first operations come to what is named, the rest goes on from there. -/
theorem L.cut (xs ys : List (Bool × Nat)) (σ' : Slots) (μ' : Boxes) (Ds' : List Data) (ho : os = xs ++ ys) (h1 : WL P X bad all (fun a w => Hl X σ' μ' Ds' a w) Q xs σ μ Ds) (h2 : WL P X bad all K Q ys σ' μ' Ds') : WL P X bad all K Q os σ μ Ds := by
  subst ho
  intro a w hh
  exact WL.append (h1 a w hh) h2

/-- 'x || y', 'x && y': the operations of y are guarded by slot s ('want': the bit at which they run); behind them slot p is picked. -/
theorem L.guarded (xs ys : List (Bool × Nat)) {s p : Nat} {b c want : Bool} (ho : os = xs ++ ys) (hs : look σ s = some (.bool b))
    (hyes : b = want → WL P X bad all (fun a w => Hl X ((p, .bool c) :: (s, .bool want) :: σ) μ Ds a w) Q xs ((s, .bool want) :: σ) μ Ds)
    (hno : b = !want → WL P X bad all (fun a w => Hl X ((p, .bool (!want)) :: (s, .bool (!want)) :: σ) μ Ds a w) Q xs ((s, .bool (!want)) :: σ) μ Ds)
    (k : WL P X bad all K Q ys ((p, .bool (bif want then b && c else b || c)) :: σ) μ Ds) : WL P X bad all K Q os σ μ Ds := by
  have hsub : ∀ u, Value.bool b = u → ∀ a w, Hl X σ μ Ds a w → Hl X ((s, u) :: σ) μ Ds a w := by
    rintro _ rfl a w ⟨h1, h2, h3⟩
    refine ⟨h1, fun t v ht => ?_, h3⟩
    simp only [look] at ht
    cases hb : Nat.beq s t with
    | true => rw [hb] at ht; cases ht; obtain rfl := Nat.eq_of_beq_eq_true hb; exact h2 _ _ hs
    | false => rw [hb] at ht; exact h2 _ _ ht
  have hback : ∀ u v, Value.bool b = u → ∀ a w, Hl X ((p, v) :: (s, u) :: σ) μ Ds a w → Hl X ((p, v) :: σ) μ Ds a w := by
    rintro _ v rfl a w ⟨h1, h2, h3⟩
    refine ⟨h1, fun t v' ht => ?_, h3⟩
    refine h2 t v' ?_
    simp only [look] at ht ⊢
    cases hp : Nat.beq p t with
    | true => rw [hp] at ht; exact ht
    | false =>
      rw [hp] at ht
      cases hb : Nat.beq s t with
      | true => obtain rfl := Nat.eq_of_beq_eq_true hb; rw [← ht, hs]
      | false => exact ht
  subst ho
  intro a w hh
  have kk : ∀ v, v = Value.bool (bif want then b && c else b || c) → ∀ a w, Hl X ((p, v) :: σ) μ Ds a w → wpL X.r bad P all K Q (opsAt all ys) a w := by rintro _ rfl a w h; exact k a w h
  cases b <;> cases want
  · exact WL.append (hyes rfl a w (hsub _ rfl a w hh)) fun a w h => kk _ rfl a w (hback _ _ rfl a w h)
  · exact WL.append (hno rfl a w (hsub _ rfl a w hh)) fun a w h => kk _ rfl a w (hback _ _ rfl a w h)
  · exact WL.append (hno rfl a w (hsub _ rfl a w hh)) fun a w h => kk _ rfl a w (hback _ _ rfl a w h)
  · exact WL.append (hyes rfl a w (hsub _ rfl a w hh)) fun a w h => kk _ rfl a w (hback _ _ rfl a w h)

theorem wpPL_mono {fls : List Bool} {k1 k2 : Act → World → Prop} (hk : ∀ a w, k1 a w → k2 a w) : ∀ (pl : Plan) (a : Act) (w : World), wpPL X.r bad P all fls Q k1 pl a w → wpPL X.r bad P all fls Q k2 pl a w
  | .fin c, a, w, h => by
    have := wpL_append (X := X) (K' := k1) _ [] a w h (fun a w h => hk a w h)
    rw [List.append_nil] at this; exact this
  | .fork d p A q B, a, w, h => by
    have one : ∀ (xs : List (Bool × Oper)) (K1 K2 : Act → World → Prop) (a : Act) (w : World), wpL X.r bad P all K1 Q xs a w → (∀ a w, K1 a w → K2 a w) → wpL X.r bad P all K2 Q xs a w := fun xs K1 K2 a w h hh => by
      have := wpL_append (X := X) (K' := K1) xs [] a w h (fun a w h => hh a w h)
      rw [List.append_nil] at this; exact this
    exact one _ _ _ a w h fun a w hh => ⟨one _ _ _ a w hh.1 (wpPL_mono hk A), one _ _ _ a w hh.2 (wpPL_mono hk B)⟩
theorem wpSL_append {fls : List Bool} {K' : Act → World → Prop} : ∀ (xs ys : List Plan) (a : Act) (w : World), wpSL X.r bad P all fls Q K' xs a w → (∀ a w, K' a w → wpSL X.r bad P all fls Q K ys a w) → wpSL X.r bad P all fls Q K (xs ++ ys) a w
  | [], _, a, w, h, hk => hk a w h
  | x :: xs, ys, a, w, h, hk => wpPL_mono (fun a w h => wpSL_append xs ys a w h hk) x a w h

/-- The same of segments: those of 'xs' are guarded by slot s; behind them slot p is picked. -/
theorem S.guarded {fls : List Bool} (xs ys : List Plan) {segs : List Plan} {s p : Nat} {b c want : Bool} (ho : segs = xs ++ ys) (hs : look σ s = some (.bool b))
    (hyes : b = want → WS P X bad all fls (fun a w => Hl X ((p, .bool c) :: (s, .bool want) :: σ) μ Ds a w) Q xs ((s, .bool want) :: σ) μ Ds)
    (hno : b = !want → WS P X bad all fls (fun a w => Hl X ((p, .bool (!want)) :: (s, .bool (!want)) :: σ) μ Ds a w) Q xs ((s, .bool (!want)) :: σ) μ Ds)
    (k : WS P X bad all fls K Q ys ((p, .bool (bif want then b && c else b || c)) :: σ) μ Ds) : WS P X bad all fls K Q segs σ μ Ds := by
  have hsub : ∀ u, Value.bool b = u → ∀ a w, Hl X σ μ Ds a w → Hl X ((s, u) :: σ) μ Ds a w := by
    rintro _ rfl a w ⟨h1, h2, h3⟩
    refine ⟨h1, fun t v ht => ?_, h3⟩
    simp only [look] at ht
    cases hb : Nat.beq s t with
    | true => rw [hb] at ht; cases ht; obtain rfl := Nat.eq_of_beq_eq_true hb; exact h2 _ _ hs
    | false => rw [hb] at ht; exact h2 _ _ ht
  have hback : ∀ u v, Value.bool b = u → ∀ a w, Hl X ((p, v) :: (s, u) :: σ) μ Ds a w → Hl X ((p, v) :: σ) μ Ds a w := by
    rintro _ v rfl a w ⟨h1, h2, h3⟩
    refine ⟨h1, fun t v' ht => ?_, h3⟩
    refine h2 t v' ?_
    simp only [look] at ht ⊢
    cases hp : Nat.beq p t with
    | true => rw [hp] at ht; exact ht
    | false =>
      rw [hp] at ht
      cases hb : Nat.beq s t with
      | true => obtain rfl := Nat.eq_of_beq_eq_true hb; rw [← ht, hs]
      | false => exact ht
  subst ho
  intro a w hh
  have kk : ∀ v, v = Value.bool (bif want then b && c else b || c) → ∀ a w, Hl X ((p, v) :: σ) μ Ds a w → wpSL X.r bad P all fls Q K ys a w := by rintro _ rfl a w h; exact k a w h
  cases b <;> cases want
  · exact wpSL_append xs ys a w (hyes rfl a w (hsub _ rfl a w hh)) fun a w h => kk _ rfl a w (hback _ _ rfl a w h)
  · exact wpSL_append xs ys a w (hno rfl a w (hsub _ rfl a w hh)) fun a w h => kk _ rfl a w (hback _ _ rfl a w h)
  · exact wpSL_append xs ys a w (hno rfl a w (hsub _ rfl a w hh)) fun a w h => kk _ rfl a w (hback _ _ rfl a w h)
  · exact wpSL_append xs ys a w (hyes rfl a w (hsub _ rfl a w hh)) fun a w h => kk _ rfl a w (hback _ _ rfl a w h)
theorem S.and {fls : List Bool} (xs ys : List Plan) {segs : List Plan} {s p : Nat} {b c : Bool} (ho : segs = xs ++ ys) (hs : look σ s = some (.bool b))
    (hyes : b = true → WS P X bad all fls (fun a w => Hl X ((p, .bool c) :: (s, .bool true) :: σ) μ Ds a w) Q xs ((s, .bool true) :: σ) μ Ds)
    (hno : b = false → WS P X bad all fls (fun a w => Hl X ((p, .bool false) :: (s, .bool false) :: σ) μ Ds a w) Q xs ((s, .bool false) :: σ) μ Ds)
    (k : WS P X bad all fls K Q ys ((p, .bool (b && c)) :: σ) μ Ds) : WS P X bad all fls K Q segs σ μ Ds := S.guarded xs ys (want := true) ho hs hyes hno k
theorem S.or {fls : List Bool} (xs ys : List Plan) {segs : List Plan} {s p : Nat} {b c : Bool} (ho : segs = xs ++ ys) (hs : look σ s = some (.bool b))
    (hyes : b = false → WS P X bad all fls (fun a w => Hl X ((p, .bool c) :: (s, .bool false) :: σ) μ Ds a w) Q xs ((s, .bool false) :: σ) μ Ds)
    (hno : b = true → WS P X bad all fls (fun a w => Hl X ((p, .bool true) :: (s, .bool true) :: σ) μ Ds a w) Q xs ((s, .bool true) :: σ) μ Ds)
    (k : WS P X bad all fls K Q ys ((p, .bool (b || c)) :: σ) μ Ds) : WS P X bad all fls K Q segs σ μ Ds := S.guarded xs ys (want := false) ho hs hyes hno k
/-- Both ways come to the same: what holds behind the first segments goes by a letter g. -/
theorem S.join {fls : List Bool} {γ : Type} (I : γ → Prop) (S : γ → Slots) (M : γ → Boxes) (E : γ → List Data) (xs ys : List Plan) {segs : List Plan} (ho : segs = xs ++ ys) (h1 : WS P X bad all fls (fun a w => ∃ g, I g ∧ Hl X (S g) (M g) (E g) a w) Q xs σ μ Ds)
    (h2 : ∀ g, I g → WS P X bad all fls K Q ys (S g) (M g) (E g)) : WS P X bad all fls K Q segs σ μ Ds := by
  subst ho
  intro a w hh
  exact wpSL_append xs ys a w (h1 a w hh) fun a w ⟨g, hg, h⟩ => h2 g hg a w h

theorem L.and (xs ys : List (Bool × Nat)) {s p : Nat} {b c : Bool} (ho : os = xs ++ ys) (hs : look σ s = some (.bool b))
    (hyes : b = true → WL P X bad all (fun a w => Hl X ((p, .bool c) :: (s, .bool true) :: σ) μ Ds a w) Q xs ((s, .bool true) :: σ) μ Ds)
    (hno : b = false → WL P X bad all (fun a w => Hl X ((p, .bool false) :: (s, .bool false) :: σ) μ Ds a w) Q xs ((s, .bool false) :: σ) μ Ds)
    (k : WL P X bad all K Q ys ((p, .bool (b && c)) :: σ) μ Ds) : WL P X bad all K Q os σ μ Ds :=
  L.guarded xs ys (want := true) ho hs hyes hno k
theorem L.or (xs ys : List (Bool × Nat)) {s p : Nat} {b c : Bool} (ho : os = xs ++ ys) (hs : look σ s = some (.bool b))
    (hyes : b = false → WL P X bad all (fun a w => Hl X ((p, .bool c) :: (s, .bool false) :: σ) μ Ds a w) Q xs ((s, .bool false) :: σ) μ Ds)
    (hno : b = true → WL P X bad all (fun a w => Hl X ((p, .bool true) :: (s, .bool true) :: σ) μ Ds a w) Q xs ((s, .bool true) :: σ) μ Ds)
    (k : WL P X bad all K Q ys ((p, .bool (b || c)) :: σ) μ Ds) : WL P X bad all K Q os σ μ Ds :=
  L.guarded xs ys (want := false) ho hs hyes hno k

/-- The first n slots' facts may be dropped: none of them hides another. -/
def dropOk : Nat → Slots → Bool
  | 0, _ => true
  | _, [] => true
  | n + 1, (k, _) :: r => (match look (r.drop n) k with | none => true | some _ => false) && dropOk n r

theorem look_drop : ∀ (n : Nat) (σ : Slots), dropOk n σ = true → ∀ s v, look (σ.drop n) s = some v → look σ s = some v
  | 0, σ, _, s, v, h => h
  | n + 1, [], _, s, v, h => h
  | n + 1, (k, u) :: r, hd, s, v, h => by
    simp only [dropOk, Bool.and_eq_true] at hd
    simp only [List.drop_succ_cons] at h
    have h2 := look_drop n r hd.2 s v h
    simp only [look]
    cases hb : Nat.beq k s with
    | false => exact h2
    | true =>
      obtain rfl := Nat.eq_of_beq_eq_true hb
      have := hd.1
      rw [h] at this
      cases this

/-- Behind a group: its own slots are dropped. -/
theorem Hl.cutK {p : Nat} {v : Value} {a : Act} {w : World} (n : Nat) (h : Hl X ((p, v) :: σ) μ Ds a w) (hd : dropOk n σ = true) : Hl X ((p, v) :: σ.drop n) μ Ds a w := by
  obtain ⟨h1, h2, h3⟩ := h
  refine ⟨h1, fun s u hs => h2 s u ?_, h3⟩
  simp only [look] at hs ⊢
  cases hb : Nat.beq p s with
  | true => rw [hb] at hs; exact hs
  | false => rw [hb] at hs; exact look_drop n σ hd s u hs

/-! ### The ways out, one shell after the other -/
theorem C.thenRet {k : Act → World → Prop} (h : ∀ a w, Hl X σ μ Ds a w → Q .ret a w) : ∀ a w, Hl X σ μ Ds a w → Exit.then k Q .ret a w := h
theorem C.thenExit {k : Act → World → Prop} {id : Nat} (h : ∀ a w, Hl X σ μ Ds a w → Q (.exit id) a w) : ∀ a w, Hl X σ μ Ds a w → Exit.then k Q (.exit id) a w := h
theorem C.blockRet {id : Nat} (h : ∀ a w, Hl X σ μ Ds a w → Q .ret a w) : ∀ a w, Hl X σ μ Ds a w → Exit.inBlock id Q .ret a w := h
theorem C.blockEnd {id : Nat} (h : ∀ a w, Hl X σ μ Ds a w → Q .normal a w) : ∀ a w, Hl X σ μ Ds a w → Exit.inBlock id Q .normal a w := h
theorem C.blockExit {id : Nat} (h : ∀ a w, Hl X σ μ Ds a w → Q .normal a w) : ∀ a w, Hl X σ μ Ds a w → Exit.inBlock id Q (.exit id) a w := fun a w hh => C.block_exit (h a w hh)
theorem C.blockPass {id id' : Nat} (hne : Nat.beq id' id = false) (h : ∀ a w, Hl X σ μ Ds a w → Q (.exit id') a w) : ∀ a w, Hl X σ μ Ds a w → Exit.inBlock id Q (.exit id') a w := fun a w hh => C.block_other hne (h a w hh)
/-- A loop whose changing slots are 'ch'; the others are listed once. -/
theorem C.loopR {γ : Type} {c : Code} (m : γ → Nat) (I : γ → Prop) (ch : γ → Slots) (rest : Slots) (M : γ → Boxes) (E : γ → List Data) (g₀ : γ) (h₀ : I g₀) (hch : Sub σ (ch g₀)) (hrest : Sub σ rest) (hμ : (M g₀).Sublist μ) (hD : ∀ D ∈ E g₀, ∃ D' ∈ Ds, Le D D')
    (round : ∀ g, I g → WC P X (Exit.then (fun a w => ∃ g', I g' ∧ m g' < m g ∧ Hl X (ch g' ++ rest) (M g') (E g') a w) Q) c (ch g ++ rest) (M g) (E g)) : WC P X Q (.loop c) σ μ Ds :=
  C.loop m I (fun g => ch g ++ rest) M E g₀ h₀ (Sub.app hch hrest) hμ hD round

/-- The same, where the boxes stay. -/
theorem C.loopC {γ : Type} {c : Code} (m : γ → Nat) (I : γ → Prop) (ch : γ → Slots) (rest : Slots) (E : γ → List Data) (g₀ : γ) (h₀ : I g₀) (hch : Sub σ (ch g₀)) (hrest : Sub σ rest) (hD : ∀ D ∈ E g₀, ∃ D' ∈ Ds, Le D D')
    (round : ∀ g, I g → WC P X (Exit.then (fun a w => ∃ g', I g' ∧ m g' < m g ∧ Hl X (ch g' ++ rest) ((fun _ => μ) g') (E g') a w) Q) c (ch g ++ rest) μ (E g)) : WC P X Q (.loop c) σ μ Ds :=
  C.loopR m I ch rest (fun _ => μ) E g₀ h₀ hch hrest (List.Sublist.refl _) hD round

/-- A round's end, the other slots as they were. -/
theorem C.againR {γ : Type} {m : γ → Nat} {I : γ → Prop} {ch : γ → Slots} {rest : Slots} {M : γ → Boxes} {E : γ → List Data} {g : γ} (n : Nat) (g' : γ) (h1 : I g') (h2 : m g' < m g) (hch : Sub σ (ch g')) (hn : dropOk n σ = true) (hr : σ.drop n = rest) (hμ : (M g').Sublist μ) (hD : ∀ D ∈ E g', ∃ D' ∈ Ds, Le D D') :
    ∀ a w, Hl X σ μ Ds a w → Exit.then (fun a w => ∃ g', I g' ∧ m g' < m g ∧ Hl X (ch g' ++ rest) (M g') (E g') a w) Q .normal a w := by
  intro a w hh
  refine ⟨g', h1, h2, ?_⟩
  have h3 := hh.weak (σ' := ch g') hch hμ hD
  refine ⟨h3.1, fun s v hs => ?_, h3.2.2⟩
  rcases look_append hs with hs | hs
  · exact h3.2.1 s v hs
  · subst hr; exact hh.2.1 s v (look_drop n σ hn s v hs)
/-- A round's end. -/
theorem C.again {γ : Type} {m : γ → Nat} {I : γ → Prop} {S : γ → Slots} {M : γ → Boxes} {E : γ → List Data} {g : γ} (g' : γ) (h1 : I g') (h2 : m g' < m g) (hσ : Sub σ (S g')) (hμ : (M g').Sublist μ) (hD : ∀ D ∈ E g', ∃ D' ∈ Ds, Le D D') :
    ∀ a w, Hl X σ μ Ds a w → Exit.then (fun a w => ∃ g', I g' ∧ m g' < m g ∧ Hl X (S g') (M g') (E g') a w) Q .normal a w := fun _ _ hh => ⟨g', h1, h2, hh.weak hσ hμ hD⟩
theorem all_nil {α : Type} {p : α → Prop} : ∀ x ∈ ([] : List α), p x := fun _ h => by cases h
theorem ds_same {Ds : List Data} : ∀ D ∈ Ds, ∃ D' ∈ Ds, Le D D' := fun D h => ⟨D, h, Le.refl D⟩

section ops
variable {d : Nat} {x y z : Operand} {u v : Value} {ty : TypeId} {pos : String} {aft : Array Edge} {g : Option (Nat × Bool)}

theorem L.move (ho : all[ix]? = some ⟨some d, .move x, ty, pos, aft, g⟩) (hx : ev σ x = some v) (hN : Nat.blt d X.N = true) (hg : Gok all σ g) (k : WL P X bad all K Q os ((d, v) :: σ) μ Ds) : WL P X bad all K Q ((fl, ix) :: os) σ μ Ds :=
  L.pure ho rfl rfl hN hg (fun ρ hρ w' => by simp [execOp, hρ x v hx, Pure.pure]) k
theorem L.assign (ho : all[ix]? = some ⟨some d, .assign x, ty, pos, aft, g⟩) (hx : ev σ x = some v) (hN : Nat.blt d X.N = true) (hg : Gok all σ g) (k : WL P X bad all K Q os ((d, v) :: σ) μ Ds) : WL P X bad all K Q ((fl, ix) :: os) σ μ Ds :=
  L.pure ho rfl rfl hN hg (fun ρ hρ w' => by simp [execOp, hρ x v hx, Pure.pure]) k
theorem L.pickT (ho : all[ix]? = some ⟨some d, .pick x y z, ty, pos, aft, g⟩) (hx : ev σ x = some (.bool true)) (hy : ev σ y = some v) (hN : Nat.blt d X.N = true) (hg : Gok all σ g) (k : WL P X bad all K Q os ((d, v) :: σ) μ Ds) : WL P X bad all K Q ((fl, ix) :: os) σ μ Ds :=
  L.pure ho rfl rfl hN hg (fun ρ hρ w' => by simp [execOp, hρ x _ hx, hρ y _ hy, asBool, go_sem]) k
theorem L.pickF (ho : all[ix]? = some ⟨some d, .pick x y z, ty, pos, aft, g⟩) (hx : ev σ x = some (.bool false)) (hy : ev σ z = some v) (hN : Nat.blt d X.N = true) (hg : Gok all σ g) (k : WL P X bad all K Q os ((d, v) :: σ) μ Ds) : WL P X bad all K Q ((fl, ix) :: os) σ μ Ds :=
  L.pure ho rfl rfl hN hg (fun ρ hρ w' => by simp [execOp, hρ x _ hx, hρ z _ hy, asBool, go_sem]) k
theorem L.not {b : Bool} {t : TypeId} (ho : all[ix]? = some ⟨some d, .unOp .not t x, ty, pos, aft, g⟩) (hx : ev σ x = some (.bool b)) (hN : Nat.blt d X.N = true) (hg : Gok all σ g) (k : WL P X bad all K Q os ((d, .bool (!b)) :: σ) μ Ds) : WL P X bad all K Q ((fl, ix) :: os) σ μ Ds :=
  L.pure ho rfl rfl hN hg (fun ρ hρ w' => by simp [execOp, hρ x _ hx, Op.unary, go_sem]) k
end ops
end Go.Fs
