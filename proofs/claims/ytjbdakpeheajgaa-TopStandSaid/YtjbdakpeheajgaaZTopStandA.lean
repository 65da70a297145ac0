/- Of the proof of TopStand: Base. -/
import Derived.OrdersIn
import Derived.RangeFuncIn
namespace Go.Fs
/-! ### The fence, and calls -/
def FW (r : Option Nat) : Fence := { fn := fun _ => True, depth := none, alive := false, round := r }
theorem room_FW (r : Option Nat) (n : Nat) : (FW r).room n := fun _ h => by simp [FW] at h
theorem fenced_FW (r : Option Nat) (P : Program) (m : Machine) : m.fenced P (FW r) :=
  fun _ _ => ⟨fun h => by simp [FW] at h, Or.inl trivial, fun _ _ => trivial, fun _ h => by simp [FW] at h⟩
theorem stepsIn_FW {r : Option Nat} {P : Program} {m m' : Machine} : StepsIn (Machine.fenced P (FW r)) P m m' ↔ Steps P m m' :=
  ⟨StepsIn.steps, fun h => (StepsIn.of_steps h).mono fun m _ => fenced_FW r P m⟩
theorem comesIn_FW {r : Option Nat} {P : Program} {m m' : Machine} {e : Ending} : ComesIn (Machine.fenced P (FW r)) P m m' e ↔ Comes P m m' e := by
  cases e with
  | returned v => exact stepsIn_FW
  | panicked chain => exact stepsIn_FW
  | outgrown => exact Iff.rfl
theorem callsIn_FW {r : Option Nat} {n : Nat} {P : Program} {f : FuncId} {args : Array Value} {w : World} {R : Ending → World → Prop} :
    CallsIn (FW r) n P f args w R ↔ Calls P f args w R :=
  ⟨fun h cs => let ⟨e, w', fr, r, s, x⟩ := h.2 cs (room_FW _ _); ⟨e, w', fr, r, comesIn_FW.1 s, x⟩,
   fun h => ⟨trivial, fun cs _ => let ⟨e, w', fr, r, s, x⟩ := h cs; ⟨e, w', fr, r, comesIn_FW.2 s, x⟩⟩⟩
/-- One round of a range over a function, wherever it is called. -/
def Rounds (P : Program) (l : Nat) (f : FuncId) (tmps : Array Value) (assign body : Code) (w : World) (R : Ending → World → Prop) : Prop :=
  RoundIn (FW none) 0 P l f tmps assign body w R
theorem roundIn_FW {r : Option Nat} {n : Nat} {P : Program} {l : Nat} {f : FuncId} {tmps : Array Value} {assign body : Code} {w : World} {R : Ending → World → Prop}
    (h : Rounds P l f tmps assign body w R) : RoundIn (FW r) n P l f tmps assign body w R :=
  ⟨trivial, fun c cs _ => let ⟨e, w', q, s⟩ := h.2 c cs (room_FW _ _); ⟨e, w', q, comesIn_FW.2 (comesIn_FW.1 s)⟩⟩
/-! ### Blocks that stay -/
/-- Every block of w, but those that are named, is in w' as it was. -/
def Keep {γb : Type} [Membership Nat γb] (bad : γb) (w w' : World) : Prop := w.heap.size ≤ w'.heap.size ∧ ∀ b, b < w.heap.size → b ∉ bad → w'.heap[b]? = w.heap[b]?
/-- Every block but those of a list. -/
structure But where
  l : List Nat
instance : Membership Nat But := ⟨fun s b => b ∉ s.l⟩
theorem But.out {l : List Nat} {b : Nat} (h : b ∈ l) : b ∉ (But.mk l) := fun hn => hn h
theorem But.in_ {l : List Nat} {b : Nat} (h : b ∉ l) : b ∈ (But.mk l) := h
theorem Keep.refl {γb : Type} [Membership Nat γb] (bad : γb) (w : World) : Keep bad w w := ⟨Nat.le_refl _, fun _ _ _ => rfl⟩
theorem Keep.trans {γb : Type} [Membership Nat γb] {bad : γb} {w w1 w2 : World} (h : Keep bad w w1) (h' : Keep bad w1 w2) : Keep bad w w2 :=
  ⟨Nat.le_trans h.1 h'.1, fun b hb hn => (h'.2 b (Nat.lt_of_lt_of_le hb h.1) hn).trans (h.2 b hb hn)⟩
/-! ### Operations, one after the other -/
/-- Operations that change no memory, draw nothing and call nothing. -/
def quietKind : Op → Bool
  | .move _ | .assign _ | .pick _ _ _ | .load _ _ | .nilCheck _ | .binOp _ _ _ _ _ | .unOp _ _ _ | .convert _ _ _ | .fieldAddr _ _ _ | .field _ _ _
  | .indexAddr _ _ _ | .index _ _ _ | .extract _ _ | .slice _ _ _ _ _ | .build _ _ | .makeFunc _ _ _ | .makeInterface _ _ | .lookup _ _ _ _ | .typeAssert _ _ _ _ => true
  | .call c => match c.callee with | .builtin .len | .builtin .cap | .builtin .max | .builtin .min => true | _ => false
  | _ => false
def deferKind : Op → Bool
  | .defer _ => true
  | .select _ _ => true
  | _ => false
/-- A quiet operation gives v, now and in each later world that keeps the blocks. -/
def Yv {γb : Type} [Membership Nat γb] (bad : γb) (P : Program) (all : Array Oper) (o : Oper) (a : Act) (w : World) (v : Value) : Prop :=
  (Region.wanted o (yielded all a.tmps) = true ∧ ∀ w', Keep bad w w' → (execOp a.eval o).run P w' = .ok (.value v) w') ∨
  (Region.wanted o (yielded all a.tmps) = false ∧ v = undef)
def Loud (r : Option Nat) {γb : Type} [Membership Nat γb] (bad : γb) (P : Program) (all : Array Oper) (Q : Exit → Act → World → Prop) (o : Oper) (fl : Bool) (K : Act → World → Prop) (a : Act) (w : World) : Prop :=
  if Region.wanted o (yielded all a.tmps) = true then o.wpIn (FW r) 0 P a w (fun a' w' => (fl = true → Keep bad w w') ∧ K a' w') Q
  else K (a.put o.dst undef) w
/-- The operations of a list, in its order; a bit says whether those before it may run behind it. -/
def wpL (r : Option Nat) {γb : Type} [Membership Nat γb] (bad : γb) (P : Program) (all : Array Oper) (K : Act → World → Prop) (Q : Exit → Act → World → Prop) : List (Bool × Oper) → Act → World → Prop
  | [], a, w => K a w
  | (fl, o) :: os, a, w =>
    if quietKind o.op = true then ∃ v, Yv bad P all o a w v ∧ wpL r bad P all K Q os (a.put o.dst v) w
    else Loud r bad P all Q o fl (wpL r bad P all K Q os) a w
variable {r : Option Nat} {γb : Type} [Membership Nat γb] {bad : γb} {P : Program} {all : Array Oper} {Q : Exit → Act → World → Prop}
theorem semAt_of {o : Oper} (h : deferKind o.op = false) (ro : Option Nat) (ρ : Operand → Value) : Oper.semAt ro ρ o = execOp ρ o :=
  Oper.semAt_eq ro ρ o fun c hc => by rw [hc] at h; cases h
theorem deferKind_of_quiet {o : Op} (h : quietKind o = true) : deferKind o = false := by
  cases o <;> first | rfl | (cases h)
theorem Yv.run {o : Oper} {a : Act} {w : World} {v : Value} (h : Yv bad P all o a w v) (hk : quietKind o.op = true) {K : Act → World → Prop} {i : Nat} (hi : all[i]? = some o) {n : Nat}
    (hK : K (a.put o.dst v) w) : wpOpIn (FW r) n P all Q i K a w := by
  unfold wpOpIn
  simp only [hi]
  rcases h with ⟨hw, hv⟩ | ⟨hw, rfl⟩
  · rw [if_pos hw]
    refine ⟨fun _ _ => trivial, ?_⟩
    rw [semAt_of (deferKind_of_quiet hk), hv w (Keep.refl _ _)]
    exact hK
  · rw [if_neg (by simp [hw])]
    exact ⟨fun _ _ => trivial, hK⟩
theorem wpIn_any {n : Nat} {o : Oper} {a : Act} {w : World} {K : Act → World → Prop} (h : o.wpIn (FW r) 0 P a w K Q) : o.wpIn (FW r) n P a w K Q := by
  refine ⟨h.1, ?_⟩
  have h2 := h.2
  generalize (o.semAt (FW r).round a.eval).run P w = x at *
  cases x with
  | ok x w' =>
    cases x <;> simp only [Oper.uponIn] at h2 ⊢ <;> first
      | exact h2
      | exact ⟨fun h => by simp [FW] at h, callsIn_FW.2 (callsIn_FW.1 h2.2)⟩
      | exact ⟨fun h => by simp [FW] at h, fun c cs _ => h2.2 c cs (room_FW _ _)⟩
      | exact ⟨fun h => by simp [FW] at h, trivial, fun c cs _ => h2.2.2 c cs (room_FW _ _)⟩
  | halt x w' => cases x <;> exact h2
/-! ### A plain region: in the order of the text -/
theorem wpOpsIn_of_wpL {n : Nat} {K : Act → World → Prop} (hK : ∀ a w, K a w → Q .normal a w) : ∀ (os : List (Bool × Oper)) (is : List Nat), is.map (fun i => all[i]?) = os.map (fun o => some o.2) →
    ∀ a w, wpL r bad P all K Q os a w → wpOpsIn (FW r) n P all Q is a w := by
  intro os
  induction os with
  | nil => intro is h a w H; cases is with | nil => exact hK _ _ H | cons => simp at h
  | cons o os ih =>
    intro is h a w H
    cases is with
    | nil => simp at h
    | cons i is =>
      obtain ⟨fl, o⟩ := o
      simp only [List.map_cons, List.cons.injEq] at h
      rw [wpOpsIn_cons]
      simp only [wpL] at H
      split at H
      · rename_i hq
        obtain ⟨v, hy, H⟩ := H
        exact hy.run hq h.1 (ih is h.2 _ _ H)
      · unfold wpOpIn
        simp only [h.1]
        unfold Loud at H
        split at H
        · rename_i hw
          rw [if_pos hw]
          exact wpIn_any (Oper.wpIn_mono (fun a w hh => ih is h.2 _ _ hh.2) H)
        · rename_i hw
          rw [if_neg hw]
          exact ⟨fun _ _ => trivial, ih is h.2 _ _ H⟩
theorem range_map_all (all : Array Oper) : (List.range all.size).map (fun i => all[i]?) = all.toList.map some := by
  apply List.ext_getElem
  · simp
  · intro i h1 h2
    simp
theorem wp_plain {id : Nat} {a : Act} {w : World} (h : wpL r [] P all (fun a w => Q .normal a w) Q (all.toList.map fun o => (false, o)) a w) :
    (Code.region id all false).wpIn (FW r) 0 P Q a w :=
  wpIn_region (wpOpsIn_of_wpL (fun _ _ h => h) _ _ (by rw [range_map_all]; simp) _ _ h)
/-! ### A region that draws its order -/
/-- i stands behind x by the edges, in at most n steps. -/
def reach (all : Array Oper) : Nat → Nat → Nat → Bool
  | 0, _, _ => false
  | n + 1, i, x => ((all[i]?).map fun o => o.after.toList.any fun e => Region.binds .any e && (Nat.beq e.on x || reach all n e.on x)).getD false
/-- All that stands before i by the edges (for closed facts: quicker than 'reach'). -/
def flagged (all : Array Oper) (n : Nat) (i : Nat) : List Nat → Bool
  | [] => false
  | x :: xs => !reach all n i x || flagged all n i xs
def quietAt (all : Array Oper) (x : Nat) : Bool := ((all[x]?).map fun o => quietKind o.op).getD false
def apartAt (all : Array Oper) (x i : Nat) : Bool :=
  match all[x]?, all[i]? with
  | some x, some i => x.apart all i
  | _, _ => false
/-- Whatever stands before i in the list stands before it by the edges, or is quiet and has nothing to do with it. -/
def goodAt (all : Array Oper) (n : Nat) (i : Nat) (before : List Nat) : Bool :=
  before.all fun x => reach all n i x || (quietAt all x && apartAt all x i)
/-- All that stands right before i by the edges is in the list. -/
def topoAt (all : Array Oper) (i : Nat) (before : List Nat) : Bool :=
  ((all[i]?).map fun o => o.after.toList.all fun e => !Region.binds .any e || before.contains e.on).getD false
def canonFrom (all : Array Oper) (n : Nat) : List Nat → List Nat → Bool
  | _, [] => true
  | before, i :: rest => goodAt all n i before && topoAt all i before && !before.contains i && canonFrom all n (before ++ [i]) rest
def noDefers (all : Array Oper) : Bool := all.toList.all fun o => !deferKind o.op
/-- The list 'c' has each operation once, and stands in an order to which every other one leads back. -/
def canon (all : Array Oper) (n : Nat) (c : List Nat) : Bool :=
  noDefers all && (c.length == all.size) && ((List.range all.size).all fun i => c.contains i) && canonFrom all n [] c
/-- The operations by their numbers. -/
def wpI (r : Option Nat) {γb : Type} [Membership Nat γb] (bad : γb) (P : Program) (all : Array Oper) (fl : Nat → Bool) (K : Act → World → Prop) (Q : Exit → Act → World → Prop) : List Nat → Act → World → Prop
  | [], a, w => K a w
  | i :: is, a, w =>
    match all[i]? with
    | none => False
    | some o =>
      if quietKind o.op = true then ∃ v, Yv bad P all o a w v ∧ wpI r bad P all fl K Q is (a.put o.dst v) w
      else Loud r bad P all Q o (fl i) (wpI r bad P all fl K Q is) a w
/-- One operation by its number. -/
def stepI (r : Option Nat) {γb : Type} [Membership Nat γb] (bad : γb) (P : Program) (all : Array Oper) (fl : Nat → Bool) (Q : Exit → Act → World → Prop) (i : Nat) (K : Act → World → Prop) (a : Act) (w : World) : Prop :=
  match all[i]? with
  | none => False
  | some o =>
    if quietKind o.op = true then ∃ v, Yv bad P all o a w v ∧ K (a.put o.dst v) w
    else Loud r bad P all Q o (fl i) K a w
theorem wpI_cons {fl : Nat → Bool} {K : Act → World → Prop} (i : Nat) (is : List Nat) (a : Act) (w : World) :
    wpI r bad P all fl K Q (i :: is) a w = stepI r bad P all fl Q i (wpI r bad P all fl K Q is) a w := by
  rfl
theorem Loud.mono {o : Oper} {f : Bool} {K K' : Act → World → Prop} {a : Act} {w : World} (h : ∀ a w, K a w → K' a w) (H : Loud r bad P all Q o f K a w) :
    Loud r bad P all Q o f K' a w := by
  unfold Loud at *
  split at H
  · rename_i hw; rw [if_pos hw]; exact Oper.wpIn_mono (fun a w hh => ⟨hh.1, h _ _ hh.2⟩) H
  · rename_i hw; rw [if_neg hw]; exact h _ _ H
theorem stepI.mono {fl : Nat → Bool} {i : Nat} {K K' : Act → World → Prop} {a : Act} {w : World} (h : ∀ a w, K a w → K' a w) (H : stepI r bad P all fl Q i K a w) :
    stepI r bad P all fl Q i K' a w := by
  unfold stepI at *
  split at H
  · exact H
  · split at H
    · rename_i hq; rw [if_pos hq]; obtain ⟨v, y, k⟩ := H; exact ⟨v, y, h _ _ k⟩
    · rename_i hq; rw [if_neg hq]; exact H.mono h
theorem wpI_mono {fl : Nat → Bool} {K K' : Act → World → Prop} (h : ∀ a w, K a w → K' a w) : ∀ (is : List Nat) {a : Act} {w : World}, wpI r bad P all fl K Q is a w → wpI r bad P all fl K' Q is a w
  | [], _, _, H => h _ _ H
  | i :: is, a, w, H => by
    rw [wpI_cons] at H ⊢
    exact H.mono fun a w => wpI_mono h is
theorem Yv.of_same {o : Oper} {v : Value} {a a' : Act} {w w' : World} (hy : Yv bad P all o a w v) (hk : Keep bad w w') (he : execOp a'.eval o = execOp a.eval o)
    (hw : Region.wanted o (yielded all a'.tmps) = Region.wanted o (yielded all a.tmps)) : Yv bad P all o a' w' v := by
  rcases hy with ⟨h1, h2⟩ | ⟨h1, h2⟩
  · exact Or.inl ⟨hw.trans h1, fun w2 hk2 => he ▸ h2 w2 (hk.trans hk2)⟩
  · exact Or.inr ⟨hw.trans h1, h2⟩
/-- An operation that looks at no world. -/
def pureKind : Op → Bool
  | .build _ _ => true
  | _ => false
def pureAt (all : Array Oper) (x : Nat) : Bool := ((all[x]?).map fun o => pureKind o.op).getD false
/-- What comes to the same in each world, and changes none. -/
def WI {α : Type} (x : Sem α) : Prop := ∀ (P : Program) w v w1, x.run P w = .ok v w1 → w1 = w ∧ ∀ w', x.run P w' = .ok v w'
theorem WI.pure {α : Type} (a : α) : WI (Pure.pure a : Sem α) := fun P w v w1 h => by
  rw [Sem.run_pure] at h; cases h; exact ⟨rfl, fun w' => Sem.run_pure ..⟩
theorem WI.bind {α β : Type} {x : Sem α} {f : α → Sem β} (hx : WI x) (hf : ∀ a, WI (f a)) : WI (x >>= f) := fun P w v w1 h => by
  rw [Sem.run_bind] at h
  cases hr : x.run P w with
  | ok a w2 =>
    rw [hr] at h
    obtain ⟨rfl, h2⟩ := hx P w a w2 hr
    obtain ⟨rfl, h3⟩ := hf a P _ v w1 h
    exact ⟨rfl, fun w' => by rw [Sem.run_bind, h2 w']; exact h3 w'⟩
  | halt z w2 => rw [hr] at h; cases h
theorem WI.halt {α : Type} (z : Halt) : WI (Sem.halt z : Sem α) := fun P w v w1 h => by cases h
theorem WI.program : WI program := fun P w v w1 h => by cases h; exact ⟨rfl, fun w' => rfl⟩
theorem WI.typeInfo (t : TypeId) : WI (typeInfo t) := by
  unfold Go.typeInfo
  refine WI.bind WI.program fun p => ?_
  split
  · exact WI.pure _
  · exact WI.halt _
theorem WI.underlying (t : TypeId) : WI (underlying t) := by
  unfold Go.underlying
  refine WI.bind WI.program fun p => ?_
  split
  · exact WI.pure _
  · exact WI.halt _
theorem WI.sizeOf (t : TypeId) : WI (sizeOf t) := WI.bind (WI.typeInfo t) fun _ => WI.pure _
theorem WI.zeroValue (t : TypeId) : WI (zeroValue t) := by
  unfold Go.zeroValue
  refine WI.bind (WI.typeInfo t) fun p => ?_
  split
  · exact WI.pure _
  · exact WI.halt _
theorem WI.mapM {α β : Type} {f : α → Sem β} (hf : ∀ a, WI (f a)) (as : Array α) : WI (as.mapM f) := by
  rw [Array.mapM_eq_mapM_toList]
  refine WI.bind ?_ fun _ => WI.pure _
  generalize as.toList = l
  induction l with
  | nil => exact WI.pure _
  | cons a l ih =>
    rw [List.mapM_cons]
    exact WI.bind (hf a) fun _ => WI.bind ih fun _ => WI.pure _
theorem WI.build (t : TypeId) (parts : Array (Nat × Value)) : WI (Instr.build t parts) := by
  unfold Instr.build
  refine WI.bind (WI.zeroValue t) fun z => WI.bind (WI.underlying t) fun u => ?_
  split
  · refine WI.bind (WI.mapM (fun f => WI.bind (WI.sizeOf _) fun _ => WI.pure _) _) fun pl => ?_
    split
    · exact WI.pure _
    · exact WI.halt _
  · refine WI.bind (WI.sizeOf _) fun sz => ?_
    split
    · exact WI.pure _
    · exact WI.halt _
  · exact WI.halt _
theorem pure_run {o : Oper} (hp : pureKind o.op = true) {ρ : Operand → Value} {P : Program} {w : World} {v : Value} (hr : (execOp ρ o).run P w = .ok (.value v) w) : ∀ w', (execOp ρ o).run P w' = .ok (.value v) w' := by
  have : WI (execOp ρ o) := by
    cases o with
    | mk dst op type pos after guard =>
      cases op <;> first | (cases hp) | skip
      unfold execOp
      exact WI.bind (WI.build _ _) fun _ => WI.pure _
  exact (this P w _ w hr).2
theorem Yv.of_same' {o : Oper} {v : Value} {a a' : Act} {w w' : World} (hy : Yv bad P all o a w v) (hk : Keep bad w w' ∨ pureKind o.op = true) (he : execOp a'.eval o = execOp a.eval o)
    (hw : Region.wanted o (yielded all a'.tmps) = Region.wanted o (yielded all a.tmps)) : Yv bad P all o a' w' v := by
  rcases hk with hk | hk
  · exact hy.of_same hk he hw
  · rcases hy with ⟨h1, h2⟩ | ⟨h1, h2⟩
    · exact Or.inl ⟨hw.trans h1, fun w2 _ => he ▸ pure_run hk (h2 w (Keep.refl _ _)) w2⟩
    · exact Or.inr ⟨hw.trans h1, h2⟩
theorem not_select {o : Oper} (h : deferKind o.op = false) : ∀ cs b, o.op ≠ .select cs b := fun cs b e => by rw [e] at h; cases h
theorem loud_put {x o : Oper} {f : Bool} {v : Value} (hap : x.apart all o = true) (hx : deferKind x.op = false) (ho : deferKind o.op = false) (hf : f = true ∨ pureKind x.op = true) (hQ : ∀ c a w, ¬ Q (.panic c) a w)
    {K : Act → World → Prop} {a : Act} {w : World} (hy : Yv bad P all x a w v) (h : Loud r bad P all Q o f K (a.put x.dst v) w) :
    Loud r bad P all Q o f (fun a' w' => Yv bad P all x a' w' v ∧ K (a'.put x.dst v) w') a w := by
  obtain ⟨h1, h2, h3⟩ := Oper.apart_spec hap
  have keep : ∀ u w', (f = true → Keep bad w w') → Yv bad P all x (a.put o.dst u) w' v := fun u w' hk =>
    hy.of_same' (hf.imp hk id) (execOp_put x (not_select hx) a o.dst u h3) (wanted_put x a o.dst u h3)
  unfold Loud at *
  rw [wanted_put o a x.dst v h1] at h
  split at h
  · rename_i hw
    rw [if_pos hw]
    refine ⟨fun _ _ => trivial, ?_⟩
    have h := h.2
    rw [semAt_of ho, execOp_put o (not_select ho) a x.dst v h1] at h
    rw [semAt_of ho]
    generalize (execOp a.eval o).run P w = z at *
    cases z with
    | ok z w' =>
      cases z <;> simp only [Oper.uponIn] at h ⊢
      case value u => exact ⟨h.1, keep u w' h.1, by rw [← Act.put_comm a v u h2]; exact h.2⟩
      case skip => exact ⟨h.1, keep _ w' h.1, by rw [← Act.put_comm a v undef h2]; exact h.2⟩
      case defer d =>
        refine ⟨h.1, ?_, ?_⟩
        · exact (hy.of_same' (a' := { a with defers := d :: a.defers }.put o.dst undef) (hf.imp h.1 id)
            ((execOp_put x (not_select hx) { a with defers := d :: a.defers } o.dst undef h3).trans rfl) ((wanted_put x { a with defers := d :: a.defers } o.dst undef h3).trans rfl))
        · have e := h.2
          rw [Act.put_defers, Act.put_comm _ v undef h2] at e
          exact e
      case enter f args =>
        refine ⟨h.1, CallsIn.mono h.2 fun e w'' he => ?_⟩
        cases e with
        | returned u => exact ⟨he.1, keep u w'' he.1, by rw [← Act.put_comm a v u h2]; exact he.2⟩
        | panicked c => exact absurd he (hQ _ _ _)
        | outgrown => exact he
      case row row args => exact ⟨h.1, RowsIn.mono h.2 fun u w'' he => ⟨he.1, keep u w'' he.1, by rw [← Act.put_comm a v u h2]; exact he.2⟩⟩
      case round l f tmps assign body =>
        refine ⟨h.1, RoundIn.mono h.2 fun e w'' he => ?_⟩
        cases e with
        | returned u => exact ⟨he.1, keep u w'' he.1, by rw [← Act.put_comm a v u h2]; exact he.2⟩
        | panicked c => exact absurd he (hQ _ _ _)
        | outgrown => exact he
    | halt z w' =>
      cases z <;> simp only [Oper.uponIn] at h ⊢
      case panic u => exact absurd h (hQ _ _ _)
  · rename_i hw
    rw [if_neg hw]
    exact ⟨keep _ w (fun _ => Keep.refl _ _), by rw [← Act.put_comm a v undef h2]; exact h⟩
theorem quietAt_spec {x : Nat} (h : quietAt all x = true) : ∃ o, all[x]? = some o ∧ quietKind o.op = true := by
  unfold quietAt at h
  cases hx : all[x]? with
  | none => simp [hx] at h
  | some o => exact ⟨o, rfl, by simpa [hx] using h⟩
theorem noDefers_spec (h : noDefers all = true) {i : Nat} {o : Oper} (ho : all[i]? = some o) : deferKind o.op = false := by
  have hm : o ∈ all.toList := by
    rw [Array.getElem?_eq_some_iff] at ho
    obtain ⟨hi, rfl⟩ := ho
    simp
  have := List.all_eq_true.1 h o hm
  simpa using this
/-- One step moved ahead of a quiet one that has nothing to do with it. -/
theorem step_swap {fl : Nat → Bool} {x i : Nat} (hnd : noDefers all = true) (hq : quietAt all x = true) (hap : apartAt all x i = true) (hf : quietAt all i = true ∨ fl i = true ∨ pureAt all x = true)
    (hQ : ∀ c a w, ¬ Q (.panic c) a w) {K : Act → World → Prop} {a : Act} {w : World}
    (h : stepI r bad P all fl Q x (stepI r bad P all fl Q i K) a w) : stepI r bad P all fl Q i (stepI r bad P all fl Q x K) a w := by
  obtain ⟨ox, hx, hqx⟩ := quietAt_spec hq
  cases hi : all[i]? with
  | none => simp [apartAt, hx, hi] at hap
  | some oi =>
    have hap' : ox.apart all oi = true := by simpa [apartAt, hx, hi] using hap
    have dx := noDefers_spec hnd hx
    have di := noDefers_spec hnd hi
    obtain ⟨h1, h2, h3⟩ := Oper.apart_spec hap'
    simp only [stepI, hx, hi, hqx, if_true] at h ⊢
    obtain ⟨v, hy, h⟩ := h
    split at h
    · rename_i hqi
      obtain ⟨u, hu, h⟩ := h
      rw [if_pos hqi]
      refine ⟨u, hu.of_same (Keep.refl _ _) (execOp_put oi (not_select di) a ox.dst v h1).symm (wanted_put oi a ox.dst v h1).symm, v,
        hy.of_same (Keep.refl _ _) (execOp_put ox (not_select dx) a oi.dst u h3) (wanted_put ox a oi.dst u h3), ?_⟩
      rw [← Act.put_comm a v u h2]
      exact h
    · rename_i hqi
      rw [if_neg hqi]
      have hfl : fl i = true ∨ pureKind ox.op = true := by
        rcases hf with hf | hf | hf
        · obtain ⟨o, ho, hqo⟩ := quietAt_spec hf
          rw [hi] at ho; cases ho; exact absurd hqo hqi
        · exact Or.inl hf
        · exact Or.inr (by simpa [pureAt, hx] using hf)
      refine (loud_put hap' dx di hfl hQ hy h).mono fun a w hh => ?_
      rw [stepI, hx]
      simp only [hqx, if_true]
      exact ⟨v, hh.1, hh.2⟩
theorem wpI_front {fl : Nat → Bool} {i : Nat} (hnd : noDefers all = true) (hQ : ∀ c a w, ¬ Q (.panic c) a w) {K : Act → World → Prop} :
    ∀ (c1 c2 : List Nat) (a : Act) (w : World), (∀ x ∈ c1, quietAt all x = true ∧ apartAt all x i = true ∧ (quietAt all i = true ∨ fl i = true ∨ pureAt all x = true)) →
      wpI r bad P all fl K Q (c1 ++ i :: c2) a w → stepI r bad P all fl Q i (wpI r bad P all fl K Q (c1 ++ c2)) a w := by
  intro c1
  induction c1 with
  | nil => intro c2 a w _ h; rw [List.nil_append, wpI_cons] at h; exact h
  | cons x c1 ih =>
    intro c2 a w hc h
    rw [List.cons_append, wpI_cons] at h
    have h' := h.mono fun a w hh => ih c2 a w (fun y hy => hc y (List.mem_cons_of_mem _ hy)) hh
    obtain ⟨h1, h2, h3⟩ := hc x List.mem_cons_self
    have := step_swap hnd h1 h2 h3 hQ h'
    exact this.mono fun a w hh => by rw [List.cons_append, wpI_cons]; exact hh
theorem stepI.wpOpIn {fl : Nat → Bool} {i : Nat} {n : Nat} {K : Act → World → Prop} {a : Act} {w : World} (h : stepI r bad P all fl Q i K a w) : wpOpIn (FW r) n P all Q i K a w := by
  unfold stepI at h
  split at h
  · exact h.elim
  · rename_i o ho
    split at h
    · rename_i hq
      obtain ⟨v, hy, h⟩ := h
      exact hy.run hq ho h
    · unfold Go.wpOpIn
      simp only [ho]
      unfold Loud at h
      split at h
      · rename_i hw
        rw [if_pos hw]
        exact wpIn_any (Oper.wpIn_mono (fun a w hh => hh.2) h)
      · rename_i hw
        rw [if_neg hw]
        exact ⟨fun _ _ => trivial, h⟩
/-- What is listed so far leaves nothing out that stands before it. -/
def Closed (all : Array Oper) (listed : Array Bool) : Prop :=
  ∀ (i : Nat) (o : Oper), all[i]? = some o → listed.getD i false = true → ∀ e ∈ o.after, Region.binds .any e = true → listed.getD e.on false = true
theorem reach_listed {listed : Array Bool} (hc : Closed all listed) : ∀ (n i x : Nat) (o : Oper), all[i]? = some o → (∀ e ∈ o.after, Region.binds .any e = true → listed.getD e.on false = true) →
    (∀ j, listed.getD j false = true → j < all.size) → reach all n i x = true → listed.getD x false = true := by
  intro n
  induction n with
  | zero => intro i x o _ _ _ h; simp [reach] at h
  | succ n ih =>
    intro i x o ho hall hlt h
    simp only [reach, ho, Option.map_some, Option.getD_some, List.any_eq_true, Bool.and_eq_true, Bool.or_eq_true] at h
    obtain ⟨e, he, hb, h⟩ := h
    have hl := hall e (by simpa using he) hb
    rcases h with h | h
    · rw [Nat.eq_of_beq_eq_true h] at hl; exact hl
    · have hj := hlt _ hl
      exact ih e.on x all[e.on] (by simp [hj]) (hc e.on _ (by simp [hj]) hl) hlt h
theorem canonFrom_split {n : Nat} : ∀ (c before c1 : List Nat) (i : Nat) (c2 : List Nat), canonFrom all n before c = true → c = c1 ++ i :: c2 →
    goodAt all n i (before ++ c1) = true ∧ topoAt all i (before ++ c1) = true ∧ i ∉ before ++ c1 := by
  intro c
  induction c with
  | nil => intro before c1 i c2 _ h; simp at h
  | cons x c ih =>
    intro before c1 i c2 hc h
    simp only [canonFrom, Bool.and_eq_true] at hc
    cases c1 with
    | nil => simp only [List.nil_append, List.cons.injEq] at h; rw [← h.1]; simpa [and_assoc] using hc.1
    | cons y c1 =>
      simp only [List.cons_append, List.cons.injEq] at h
      have := ih (before ++ [x]) c1 i c2 hc.2 h.2
      rw [h.1] at this
      simpa using this
/-- Good, and flagged where need be, for each place of a list. -/
def GoodList (all : Array Oper) (n : Nat) (fl : Nat → Bool) (c : List Nat) : Prop :=
  ∀ c1 i c2, c = c1 ++ i :: c2 → ∀ x ∈ c1, reach all n i x = true ∨ (quietAt all x = true ∧ apartAt all x i = true ∧ (quietAt all i = true ∨ fl i = true ∨ pureAt all x = true))
theorem GoodList.erase {n : Nat} {fl : Nat → Bool} {c1 c2 : List Nat} {i : Nat} (h : GoodList all n fl (c1 ++ i :: c2)) : GoodList all n fl (c1 ++ c2) := by
  intro d1 j d2 he x hx
  by_cases hl : d1.length < c1.length
  · obtain ⟨t, ht⟩ : ∃ t, c1 = d1 ++ j :: t := by
      have h1 : (c1 ++ c2)[d1.length]? = some j := by rw [he]; simp
      rw [List.getElem?_append_left hl] at h1
      have h2 : c1.take d1.length = d1 := by
        have := congrArg (List.take d1.length) he
        rw [List.take_append_of_le_length (Nat.le_of_lt hl)] at this
        simpa using this
      refine ⟨c1.drop (d1.length + 1), ?_⟩
      have h3 := List.take_append_drop d1.length c1
      rw [h2, List.drop_eq_getElem_cons hl] at h3
      rw [List.getElem?_eq_getElem hl] at h1
      rw [Option.some.inj h1] at h3
      exact h3.symm
    exact h d1 j (t ++ i :: c2) (by rw [ht]; simp) x hx
  · obtain ⟨t, ht⟩ : ∃ t, d1 = c1 ++ t := by
      have h2 : d1.take c1.length = c1 := by
        have := congrArg (List.take c1.length) he
        rw [List.take_append_of_le_length (Nat.le_refl _), List.take_length, List.take_append_of_le_length (by omega)] at this
        exact this.symm
      exact ⟨d1.drop c1.length, by rw [← h2, List.length_take, Nat.min_eq_left (by omega), List.take_append_drop]⟩
    subst ht
    have hc2 : c2 = t ++ j :: d2 := by
      rw [List.append_assoc] at he
      exact List.append_cancel_left he
    refine h (c1 ++ i :: t) j d2 (by rw [hc2]; simp) x ?_
    simp only [List.mem_append, List.mem_cons] at hx ⊢
    rcases hx with hx | hx
    · exact Or.inl hx
    · exact Or.inr (Or.inr hx)
/-- What stands right before each place by the edges is listed, or stands before it. -/
def TopoList (all : Array Oper) (listed : Array Bool) (c : List Nat) : Prop :=
  ∀ c1 i c2, c = c1 ++ i :: c2 → ∀ o, all[i]? = some o → ∀ e ∈ o.after, Region.binds .any e = true → listed.getD e.on false = true ∨ e.on ∈ c1
theorem split_erase {c1 c2 d1 d2 : List Nat} {j : Nat} (he : c1 ++ c2 = d1 ++ j :: d2) :
    (∃ t, c1 = d1 ++ j :: t ∧ d2 = t ++ c2) ∨ (∃ t, d1 = c1 ++ t ∧ c2 = t ++ j :: d2) := by
  rcases List.append_eq_append_iff.1 he with ⟨t, h1, h2⟩ | ⟨t, h1, h2⟩
  · exact Or.inr ⟨t, h1, h2⟩
  · cases t with
    | nil => exact Or.inr ⟨[], by simpa using h1.symm, by simpa using h2.symm⟩
    | cons x t =>
      simp only [List.cons_append, List.cons.injEq] at h2
      exact Or.inl ⟨t, by rw [h1, h2.1], h2.2⟩
theorem TopoList.erase {listed : Array Bool} {c1 c2 : List Nat} {i : Nat} (hi : i < listed.size) (h : TopoList all listed (c1 ++ i :: c2)) : TopoList all (listed.setIfInBounds i true) (c1 ++ c2) := by
  intro d1 j d2 he o ho e hm hb
  rcases split_erase he with ⟨t, h1, h2⟩ | ⟨t, h1, h2⟩
  · rcases h d1 j (t ++ i :: c2) (by rw [h1]; simp) o ho e hm hb with hl | hl
    · exact Or.inl (getD_set_true hl)
    · exact Or.inr hl
  · rcases h (c1 ++ i :: t) j d2 (by rw [h2]; simp) o ho e hm hb with hl | hl
    · exact Or.inl (getD_set_true hl)
    · simp only [List.mem_append, List.mem_cons] at hl
      rcases hl with hl | hl | hl
      · exact Or.inr (by rw [h1]; simp [hl])
      · rw [hl]; exact Or.inl (by simp [hi])
      · exact Or.inr (by rw [h1]; simp [hl])
theorem getD_set_self {listed : Array Bool} {i : Nat} (h : i < listed.size) : (listed.setIfInBounds i true).getD i false = true := by simp [h]
theorem any_of_wpI {n : Nat} {fl : Nat → Bool} (hnd : noDefers all = true) (hQ : ∀ c a w, ¬ Q (.panic c) a w) :
    ∀ (c : List Nat) (listed : Array Bool) (a : Act) (w : World), listed.size = all.size → Closed all listed → c.Nodup →
      (∀ i, i < all.size → (i ∈ c ↔ listed.getD i false = false)) → (∀ i ∈ c, i < all.size) → GoodList all n fl c → TopoList all listed c →
      wpI r bad P all fl (fun a w => Q .normal a w) Q c a w → wpAnyIn (FW r) 0 P .any all Q c.length listed a w := by
  intro c
  induction hlen : c.length generalizing c with
  | zero =>
    intro listed a w hs _ _ hm _ _ _ h
    have hc : c = [] := List.length_eq_zero_iff.1 hlen
    subst hc
    refine ⟨?_, h⟩
    rw [List.eq_nil_iff_forall_not_mem]
    intro i hi
    obtain ⟨hun, o, ho, _⟩ := mem_ready.1 hi
    have hlt : i < all.size := (Array.getElem?_eq_some_iff.1 ho).1
    have := (hm i hlt).2 (by rw [Array.getD_eq_getD_getElem?] at hun ⊢; rw [Array.getElem?_eq_getElem (by omega)] at hun ⊢; exact hun)
    simp at this
  | succ k ih =>
    intro listed a w hs hcl hnodup hm hlt hg ht h
    constructor
    · intro h0
      exfalso
      -- the first of the list is ready
      match c, hlen with
      | i :: c', _ =>
        have hi : i ∈ Region.ready .any all listed := by
          refine mem_ready.2 ⟨?_, all[i]'(hlt i List.mem_cons_self), by simp [hlt i List.mem_cons_self], ?_⟩
          · have := (hm i (hlt i List.mem_cons_self)).1 List.mem_cons_self
            rw [Array.getD_eq_getD_getElem?] at this ⊢
            rw [Array.getElem?_eq_getElem (by rw [hs]; exact hlt i List.mem_cons_self)] at this ⊢
            exact this
          · intro e he hb
            rcases ht [] i c' rfl _ (by simp [hlt i List.mem_cons_self]) e he hb with h | h
            · exact h
            · cases h
        rw [h0] at hi
        cases hi
    · intro i hi
      obtain ⟨hun, o, ho, hpre⟩ := mem_ready.1 hi
      have hil : i < all.size := (Array.getElem?_eq_some_iff.1 ho).1
      have hun' : listed.getD i false = false := by
        rw [Array.getD_eq_getD_getElem?] at hun ⊢
        rw [Array.getElem?_eq_getElem (by omega)] at hun ⊢
        exact hun
      have hmem := (hm i hil).2 hun'
      obtain ⟨c1, c2, rfl⟩ := List.append_of_mem hmem
      have hfront : ∀ x ∈ c1, quietAt all x = true ∧ apartAt all x i = true ∧ (quietAt all i = true ∨ fl i = true ∨ pureAt all x = true) := by
        intro x hx
        rcases hg c1 i c2 rfl x hx with hr | hr
        · have hxl := hlt x (by simp [hx])
          have := reach_listed hcl n i x o ho (fun e he hb => hpre e he hb) (fun j hj => by
            rcases Nat.lt_or_ge j listed.size with h | h
            · omega
            · simp [Array.getElem?_eq_none h] at hj) hr
          have h2 := (hm x hxl).1 (by simp [hx])
          rw [h2] at this
          cases this
        · exact hr
      have hst := wpI_front hnd hQ c1 c2 a w hfront h
      refine wpOpIn_mono (fun a w hh => ?_) hst.wpOpIn
      have hlen' : (c1 ++ c2).length = k := by simp at hlen ⊢; omega
      refine ih (c1 ++ c2) hlen' (listed.setIfInBounds i true) a w (by simpa using hs) ?_ ?_ ?_ ?_ hg.erase (ht.erase (by omega)) hh
      · intro j oj hj hlj e he hb
        by_cases hij : i = j
        · subst hij
          rw [ho] at hj; cases hj
          exact getD_set_true (hpre e he hb)
        · rw [getD_set_ne false hij] at hlj
          exact getD_set_true (hcl j oj hj hlj e he hb)
      · rw [List.nodup_append] at hnodup ⊢
        refine ⟨hnodup.1, (List.nodup_cons.1 hnodup.2.1).2, fun x hx y hy => hnodup.2.2 x hx y (List.mem_cons_of_mem _ hy)⟩
      · intro j hj
        by_cases hij : i = j
        · subst hij
          rw [getD_set_self (by omega)]
          constructor
          · intro hmem
            exfalso
            rw [List.nodup_append] at hnodup
            rcases List.mem_append.1 hmem with hm1 | hm2
            · exact hnodup.2.2 i hm1 i List.mem_cons_self rfl
            · exact (List.nodup_cons.1 hnodup.2.1).1 hm2
          · intro h; cases h
        · rw [getD_set_ne false hij, ← hm j hj]
          simp only [List.mem_append, List.mem_cons]
          constructor
          · rintro (h | h)
            · exact Or.inl h
            · exact Or.inr (Or.inr h)
          · rintro (h | h | h)
            · exact Or.inl h
            · exact absurd h.symm hij
            · exact Or.inr h
      · intro j hj
        refine hlt j ?_
        simp only [List.mem_append, List.mem_cons] at hj ⊢
        rcases hj with h | h
        · exact Or.inl h
        · exact Or.inr (Or.inr h)
/-- The canonical list with its operations, each with its bit. -/
def listed (all : Array Oper) (n : Nat) : List Nat → List Nat → List (Bool × Oper)
  | _, [] => []
  | before, i :: rest => (flagged all n i before, all.getD i default) :: listed all n (before ++ [i]) rest
theorem wpI_of_wpL {n : Nat} {K : Act → World → Prop} {fl : Nat → Bool} : ∀ (c before : List Nat) (a : Act) (w : World), (∀ i ∈ c, i < all.size) →
    (∀ c1 i c2, c = c1 ++ i :: c2 → fl i = flagged all n i (before ++ c1)) → wpL r bad P all K Q (listed all n before c) a w → wpI r bad P all fl K Q c a w := by
  intro c
  induction c with
  | nil => intro before a w _ _ h; exact h
  | cons i c ih =>
    intro before a w hlt hf h
    have hi := hlt i List.mem_cons_self
    have ho : all[i]? = some all[i] := by simp [hi]
    have hd : all.getD i default = all[i] := by simp [hi]
    have hfi : fl i = flagged all n i before := by simpa using hf [] i c rfl
    have hrec : ∀ a w, wpL r bad P all K Q (listed all n (before ++ [i]) c) a w → wpI r bad P all fl K Q c a w := fun a w hh =>
      ih (before ++ [i]) a w (fun j hj => hlt j (List.mem_cons_of_mem _ hj)) (fun c1 j c2 he => by
        rw [hf (i :: c1) j c2 (by rw [he]; rfl)]; simp) hh
    simp only [listed, wpL, hd] at h
    simp only [wpI, ho]
    split at h
    · rename_i hq
      obtain ⟨v, hy, h⟩ := h
      rw [if_pos hq]
      exact ⟨v, hy, hrec _ _ h⟩
    · rename_i hq
      rw [if_neg hq, hfi]
      exact h.mono hrec
theorem nodup_of_canonFrom {n : Nat} : ∀ (c before : List Nat), canonFrom all n before c = true → before.Nodup → (before ++ c).Nodup := by
  intro c
  induction c with
  | nil => intro before _ h; simpa using h
  | cons i c ih =>
    intro before h hb
    simp only [canonFrom, Bool.and_eq_true, Bool.not_eq_true', List.contains_eq_mem, decide_eq_false_iff_not] at h
    have := ih (before ++ [i]) h.2 (by
      rw [List.nodup_append]
      refine ⟨hb, by simp, fun x hx y hy => ?_⟩
      simp only [List.mem_singleton] at hy
      rintro rfl
      exact h.1.2 (hy ▸ hx))
    simpa using this
theorem flagged_of_not_reach {n i x : Nat} : ∀ {l : List Nat}, x ∈ l → reach all n i x = false → flagged all n i l = true
  | y :: l, hx, hr => by
    simp only [flagged, Bool.or_eq_true, Bool.not_eq_true']
    rcases List.mem_cons.1 hx with rfl | hx
    · exact Or.inl hr
    · exact Or.inr (flagged_of_not_reach hx hr)
/-- **A REGION THAT DRAWS ITS ORDER GOES BY ITS CANONICAL ORDER.** -/
theorem wp_draw {id n : Nat} {c : List Nat} {a : Act} {w : World} (hm : P.follows .mixedOrders = true) (hc : canon all n c = true) (hQ : ∀ c a w, ¬ Q (.panic c) a w)
    (h : wpL r bad P all (fun a w => Q .normal a w) Q (listed all n [] c) a { w with drawn := w.drawn + 1 }) :
    (Code.region id all true).wpIn (FW r) 0 P Q a w := by
  simp only [canon, Bool.and_eq_true, beq_iff_eq, List.all_eq_true, List.mem_range, List.contains_eq_mem, decide_eq_true_eq] at hc
  obtain ⟨⟨⟨hnd, hlen⟩, hall⟩, hfrom⟩ := hc
  have hnodup : c.Nodup := by simpa using nodup_of_canonFrom c [] hfrom List.nodup_nil
  have hlt : ∀ i ∈ c, i < all.size := by
    intro i hi
    obtain ⟨c1, c2, rfl⟩ := List.append_of_mem hi
    have := (canonFrom_split _ [] c1 i c2 hfrom rfl).2.1
    unfold topoAt at this
    rcases Nat.lt_or_ge i all.size with h | h
    · exact h
    · simp [Array.getElem?_eq_none h] at this
  refine wpIn_region_any hm ?_
  rw [← hlen]
  refine any_of_wpI (bad := bad) (fl := fun i => flagged all n i (c.take (c.idxOf i))) (n := n) hnd hQ c _ a _ (by simp [hlen]) ?_ hnodup ?_ hlt ?_ ?_ ?_
  · intro i o ho hl
    simp [Array.getD_eq_getD_getElem?, Array.getElem?_replicate] at hl
    split at hl <;> simp at hl
  · intro i hi
    simp only [Array.getD_eq_getD_getElem?, Array.getElem?_replicate, hlen, hi, if_true, Option.getD_some, iff_true]
    exact hall i hi
  · intro c1 i c2 he x hx
    obtain ⟨hg, _, _⟩ := canonFrom_split _ [] c1 i c2 hfrom he
    have h1 := List.all_eq_true.1 hg x (by simpa using hx)
    simp only [Bool.or_eq_true, Bool.and_eq_true] at h1
    cases hr : reach all n i x with
    | true => exact Or.inl rfl
    | false =>
      rw [hr] at h1
      have h1 := h1.resolve_left (by simp)
      refine Or.inr ⟨h1.1, h1.2, Or.inr (Or.inl ?_)⟩
      have hni : i ∉ c1 := by
        rw [he, List.nodup_append] at hnodup
        intro hm
        exact hnodup.2.2 i hm i List.mem_cons_self rfl
      have : c.take (c.idxOf i) = c1 := by
        rw [he, List.idxOf_append, if_neg hni, List.idxOf_cons_self]
        simp
      show flagged all n i (c.take (c.idxOf i)) = true
      rw [this]
      exact flagged_of_not_reach hx hr
  · intro c1 i c2 he o ho e hm hb
    obtain ⟨_, ht, _⟩ := canonFrom_split _ [] c1 i c2 hfrom he
    unfold topoAt at ht
    rw [ho] at ht
    simp only [Option.map_some, Option.getD_some, List.all_eq_true, Bool.or_eq_true, Bool.not_eq_true', List.nil_append, List.contains_eq_mem, decide_eq_true_eq] at ht
    rcases ht e (by simpa using hm) with h | h
    · rw [hb] at h; cases h
    · exact Or.inr h
  · refine wpI_of_wpL (n := n) c [] a _ hlt ?_ h
    intro c1 i c2 he
    have hni : i ∉ c1 := by
      rw [he, List.nodup_append] at hnodup
      intro hm
      exact hnodup.2.2 i hm i List.mem_cons_self rfl
    have : c.take (c.idxOf i) = c1 := by
      rw [he, List.idxOf_append, if_neg hni, List.idxOf_cons_self]
      simp
    show flagged all n i (c.take (c.idxOf i)) = _
    rw [this]; rfl
def bitsOf (all : Array Oper) (n : Nat) : List Nat → List Nat → List Bool
  | _, [] => []
  | before, i :: rest => flagged all n i before :: bitsOf all n (before ++ [i]) rest
/-- The operations behind their numbers. -/
def opsAt (all : Array Oper) (is : List (Bool × Nat)) : List (Bool × Oper) := is.map fun p => (p.1, all.getD p.2 default)
theorem listed_eq (all : Array Oper) (n : Nat) : ∀ (c before : List Nat), listed all n before c = opsAt all ((bitsOf all n before c).zip c)
  | [], _ => rfl
  | i :: c, before => by simp only [listed, bitsOf, opsAt, List.zip_cons_cons, List.map_cons, listed_eq all n c]
theorem plain_eq (all : Array Oper) : (all.toList.map fun o => (false, o)) = opsAt all ((List.range all.size).map fun i => (false, i)) := by
  apply List.ext_getElem
  · simp [opsAt]
  · intro i h1 h2
    simp [opsAt] at h1 ⊢
    simp [h1]
/-! ### Loud operations in several orders -/
/-- The flags are given; those of E may stand before anything. -/
def goodAt3 (all : Array Oper) (n : Nat) (fls : List Bool) (E : List Nat) (i : Nat) (before : List Nat) : Bool :=
  before.all fun x => E.contains x || reach all n i x || (quietAt all x && apartAt all x i && (quietAt all i || (fls.getD i false || pureAt all x)))
/-- Good for each place of a list, but for those of E. -/
def GoodE (all : Array Oper) (n : Nat) (E : List Nat) (fl : Nat → Bool) (c : List Nat) : Prop :=
  ∀ c1 i c2, c = c1 ++ i :: c2 → ∀ x ∈ c1, x ∈ E ∨ reach all n i x = true ∨ (quietAt all x = true ∧ apartAt all x i = true ∧ (quietAt all i = true ∨ fl i = true ∨ pureAt all x = true))
theorem GoodE.erase {n : Nat} {E : List Nat} {fl : Nat → Bool} {c1 c2 : List Nat} {i : Nat} (h : GoodE all n E fl (c1 ++ i :: c2)) : GoodE all n E fl (c1 ++ c2) := by
  intro d1 j d2 he x hx
  rcases split_erase he with ⟨t, h1, h2⟩ | ⟨t, h1, h2⟩
  · exact h d1 j (t ++ i :: c2) (by rw [h1]; simp) x hx
  · refine h (c1 ++ i :: t) j d2 (by rw [h2]; simp) x ?_
    rw [h1] at hx
    simp only [List.mem_append, List.mem_cons] at hx ⊢
    rcases hx with hx | hx
    · exact Or.inl hx
    · exact Or.inr (Or.inr hx)
theorem GoodE.none {n : Nat} {E : List Nat} {fl : Nat → Bool} {c : List Nat} (h : GoodE all n E fl c) (hp : ∀ e ∈ E, e ∉ c) : GoodList all n fl c := by
  intro c1 i c2 he x hx
  rcases h c1 i c2 he x hx with h | h
  · exact absurd (by rw [he]; simp [hx]) (hp x h)
  · exact h
theorem wpI_append {fl : Nat → Bool} {K : Act → World → Prop} : ∀ (c d : List Nat) (a : Act) (w : World), wpI r bad P all fl (wpI r bad P all fl K Q d) Q c a w → wpI r bad P all fl K Q (c ++ d) a w
  | [], d, a, w, h => h
  | i :: c, d, a, w, h => by
    rw [List.cons_append, wpI_cons]
    rw [wpI_cons] at h
    exact h.mono fun a w => wpI_append c d a w
/-- What holds of the operations that are listed, after one more. -/
structure Part (all : Array Oper) (n : Nat) (listed : Array Bool) (c : List Nat) : Prop where
  size : listed.size = all.size
  closed : Closed all listed
  nodup : c.Nodup
  mem : ∀ i, i < all.size → (i ∈ c ↔ listed.getD i false = false)
  lt : ∀ i ∈ c, i < all.size
  topo : TopoList all listed c
theorem Part.step {n : Nat} {listed : Array Bool} {c1 c2 : List Nat} {i : Nat} {o : Oper} (h : Part all n listed (c1 ++ i :: c2)) (ho : all[i]? = some o) (hpre : ∀ e ∈ o.after, Region.binds .any e = true → listed.getD e.on false = true) : Part all n (listed.setIfInBounds i true) (c1 ++ c2) := by
  have hil : i < all.size := (Array.getElem?_eq_some_iff.1 ho).1
  have hs := h.size
  refine ⟨by simpa using hs, ?_, ?_, ?_, ?_, h.topo.erase (by omega)⟩
  · intro j oj hj hlj e he hb
    by_cases hij : i = j
    · subst hij
      rw [ho] at hj; cases hj
      exact getD_set_true (hpre e he hb)
    · rw [getD_set_ne false hij] at hlj
      exact getD_set_true (h.closed j oj hj hlj e he hb)
  · have hnodup := h.nodup
    rw [List.nodup_append] at hnodup ⊢
    exact ⟨hnodup.1, (List.nodup_cons.1 hnodup.2.1).2, fun x hx y hy => hnodup.2.2 x hx y (List.mem_cons_of_mem _ hy)⟩
  · intro j hj
    have hnodup := h.nodup
    by_cases hij : i = j
    · subst hij
      rw [getD_set_self (by omega)]
      constructor
      · intro hmem
        exfalso
        rw [List.nodup_append] at hnodup
        rcases List.mem_append.1 hmem with hm1 | hm2
        · exact hnodup.2.2 i hm1 i List.mem_cons_self rfl
        · exact (List.nodup_cons.1 hnodup.2.1).1 hm2
      · intro h; cases h
    · rw [getD_set_ne false hij, ← h.mem j hj]
      simp only [List.mem_append, List.mem_cons]
      constructor
      · rintro (h | h)
        · exact Or.inl h
        · exact Or.inr (Or.inr h)
      · rintro (h | h | h)
        · exact Or.inl h
        · exact absurd h.symm hij
        · exact Or.inr h
  · intro j hj
    refine h.lt j ?_
    simp only [List.mem_append, List.mem_cons] at hj ⊢
    rcases hj with h | h
    · exact Or.inl h
    · exact Or.inr (Or.inr h)
/-- In which orders the operations of a segment may go: one; or first some, then either of two, and so on. -/
inductive Plan where
  | fin (c : List Nat)
  | fork (d : List Nat) (p : Nat) (A : Plan) (q : Nat) (B : Plan)
  | forkN (d : List Nat) (p : Nat) (ps : List Nat) (A : Nat → Plan)
def Plan.list : Plan → List Nat
  | .fin c => c
  | .fork d p A _ _ => d ++ p :: A.list
  | .forkN d p _ A => d ++ p :: (A p).list
def flatP : List Plan → List Nat
  | [] => []
  | pl :: segs => pl.list ++ flatP segs
/-- What a segment comes to, whichever way it goes; then 'kont'. -/
def wpP (r : Option Nat) {γb : Type} [Membership Nat γb] (bad : γb) (P : Program) (all : Array Oper) (fl : Nat → Bool) (Q : Exit → Act → World → Prop) (kont : Act → World → Prop) : Plan → Act → World → Prop
  | .fin c => wpI r bad P all fl kont Q c
  | .fork d p A q B => wpI r bad P all fl (fun a w => stepI r bad P all fl Q p (wpP r bad P all fl Q kont A) a w ∧ stepI r bad P all fl Q q (wpP r bad P all fl Q kont B) a w) Q d
  | .forkN d p ps A => wpI r bad P all fl (fun a w => ∀ i ∈ p :: ps, stepI r bad P all fl Q i (wpP r bad P all fl Q kont (A i)) a w) Q d
def wpS (r : Option Nat) {γb : Type} [Membership Nat γb] (bad : γb) (P : Program) (all : Array Oper) (fl : Nat → Bool) (Q : Exit → Act → World → Prop) : List Plan → Act → World → Prop
  | [] => fun a w => Q .normal a w
  | pl :: segs => wpP r bad P all fl Q (wpS r bad P all fl Q segs) pl
/-- What is known of the operations that are not listed: some of 'pre', then the segment, then 'rest'. -/
def RdyK (all : Array Oper) (n : Nat) (cont : List Nat → List Nat → Array Bool → Prop) (rest : List Nat) : Plan → List Nat → List Nat → Array Bool → Prop
  | .fin c, pre, E, L => cont (pre ++ c) E L
  | .fork d p A q B, pre, E, L => RdyK all n cont rest A (pre ++ d ++ [p]) (p :: E) L ∧ RdyK all n cont rest B (pre ++ d ++ [q]) (q :: E) L ∧ q ∈ A.list ++ rest ∧ A.list.length = B.list.length ∧ ∀ i ∈ A.list ++ rest, i = q ∨ reach all n i p = true ∨ reach all n i q = true
  | .forkN d p ps A, pre, E, L => (∀ i ∈ p :: ps, RdyK all n cont rest (A i) (pre ++ d ++ [i]) (i :: E) L ∧ (A i).list.length = (A p).list.length ∧ (i = p ∨ i ∈ (A p).list ++ rest)) ∧ ∀ i ∈ (A p).list ++ rest, i ∈ ps ∨ ∃ q ∈ p :: ps, reach all n i q = true
def RdyS (all : Array Oper) (n : Nat) (fl : Nat → Bool) : List Plan → List Nat → List Nat → Array Bool → Prop
  | [], pre, E, L => Part all n L pre ∧ GoodE all n E fl pre
  | pl :: segs, pre, E, L => RdyK all n (RdyS all n fl segs) (flatP segs) pl pre E L
/-- What every such knowledge gives. -/
structure ContOk (all : Array Oper) (n : Nat) (fl : Nat → Bool) (cont : List Nat → List Nat → Array Bool → Prop) (rest : List Nat) : Prop where
  part : ∀ pre E L, cont pre E L → Part all n L (pre ++ rest)
  good : ∀ pre E L, cont pre E L → GoodE all n E fl pre
  erase : ∀ c1 i c2 E L (o : Oper), all[i]? = some o → (∀ e ∈ o.after, Region.binds .any e = true → L.getD e.on false = true) → cont (c1 ++ i :: c2) E L → cont (c1 ++ c2) E (L.setIfInBounds i true)
theorem RdyK.part {n : Nat} {fl : Nat → Bool} {cont : List Nat → List Nat → Array Bool → Prop} {rest : List Nat} (hc : ContOk all n fl cont rest) : ∀ {pl : Plan} {pre E : List Nat} {L : Array Bool}, RdyK all n cont rest pl pre E L → Part all n L (pre ++ (pl.list ++ rest))
  | .fin c, pre, E, L, h => by
    have := hc.part _ _ _ h
    rw [List.append_assoc] at this; exact this
  | .fork d p A q B, pre, E, L, h => by
    have := RdyK.part hc h.1
    simpa [Plan.list] using this
  | .forkN d p ps A, pre, E, L, h => by
    have := RdyK.part hc (h.1 p List.mem_cons_self).1
    simpa [Plan.list] using this
theorem RdyK.good {n : Nat} {fl : Nat → Bool} {cont : List Nat → List Nat → Array Bool → Prop} {rest : List Nat} (hc : ContOk all n fl cont rest) : ∀ {pl : Plan} {pre E : List Nat} {L : Array Bool}, RdyK all n cont rest pl pre E L → GoodE all n E fl pre
  | .fin c, pre, E, L, h => by
    intro c1 i c2 he x hx
    exact hc.good _ _ _ h c1 i (c2 ++ c) (by rw [he]; simp) x hx
  | .fork d p A q B, pre, E, L, h => by
    intro c1 i c2 he x hx
    have h1 := RdyK.good hc h.1 c1 i (c2 ++ d ++ [p]) (by rw [he]; simp) x hx
    have hn := (RdyK.part hc h.1).nodup
    rcases h1 with h1 | h1
    · rcases List.mem_cons.1 h1 with rfl | h1
      · exfalso
        rw [he] at hn
        simp only [List.append_assoc] at hn
        rw [List.nodup_append] at hn
        exact hn.2.2 x hx x (by simp) rfl
      · exact Or.inl h1
    · exact Or.inr h1
  | .forkN d p ps A, pre, E, L, h => by
    intro c1 i c2 he x hx
    have h1 := RdyK.good hc (h.1 p List.mem_cons_self).1 c1 i (c2 ++ d ++ [p]) (by rw [he]; simp) x hx
    have hn := (RdyK.part hc (h.1 p List.mem_cons_self).1).nodup
    rcases h1 with h1 | h1
    · rcases List.mem_cons.1 h1 with rfl | h1
      · exfalso
        rw [he] at hn
        simp only [List.append_assoc] at hn
        rw [List.nodup_append] at hn
        exact hn.2.2 x hx x (by simp) rfl
      · exact Or.inl h1
    · exact Or.inr h1
theorem RdyK.erase {n : Nat} {fl : Nat → Bool} {cont : List Nat → List Nat → Array Bool → Prop} {rest : List Nat} (hc : ContOk all n fl cont rest) {i : Nat} {o : Oper} (ho : all[i]? = some o) {L : Array Bool} (hpre : ∀ e ∈ o.after, Region.binds .any e = true → L.getD e.on false = true) : ∀ {pl : Plan} {c1 c2 E : List Nat}, RdyK all n cont rest pl (c1 ++ i :: c2) E L → RdyK all n cont rest pl (c1 ++ c2) E (L.setIfInBounds i true)
  | .fin c, c1, c2, E, h => by
    have h' : cont (c1 ++ i :: (c2 ++ c)) E L := by
      have h2 : cont (c1 ++ i :: c2 ++ c) E L := h
      simpa using h2
    have := hc.erase c1 i (c2 ++ c) E L o ho hpre h'
    show cont (c1 ++ c2 ++ c) E _
    rw [List.append_assoc]; exact this
  | .fork d p A q B, c1, c2, E, h => by
    obtain ⟨h1, h2, h3⟩ := h
    have e : ∀ z : Nat, c1 ++ i :: c2 ++ d ++ [z] = c1 ++ i :: (c2 ++ d ++ [z]) := fun z => by simp
    have e' : ∀ z : Nat, c1 ++ (c2 ++ d ++ [z]) = c1 ++ c2 ++ d ++ [z] := fun z => by simp
    rw [e] at h1 h2
    have s1 := RdyK.erase hc ho hpre h1
    have s2 := RdyK.erase hc ho hpre h2
    rw [e'] at s1 s2
    exact ⟨s1, s2, h3⟩
  | .forkN d p ps A, c1, c2, E, h => by
    refine ⟨fun z hz => ?_, h.2⟩
    obtain ⟨h1, h2, h3⟩ := h.1 z hz
    have e : c1 ++ i :: c2 ++ d ++ [z] = c1 ++ i :: (c2 ++ d ++ [z]) := by simp
    have e' : c1 ++ (c2 ++ d ++ [z]) = c1 ++ c2 ++ d ++ [z] := by simp
    rw [e] at h1
    have s1 := RdyK.erase hc ho hpre h1
    rw [e'] at s1
    exact ⟨s1, h2, h3⟩
theorem contOk (n : Nat) (fl : Nat → Bool) : ∀ segs : List Plan, ContOk all n fl (RdyS all n fl segs) (flatP segs)
  | [] => ⟨fun pre E L h => by rw [flatP, List.append_nil]; exact h.1, fun pre E L h => h.2, fun c1 i c2 E L o ho hpre h => ⟨h.1.step ho hpre, h.2.erase⟩⟩
  | _ :: segs => ⟨fun pre E L h => RdyK.part (contOk n fl segs) h, fun pre E L h => RdyK.good (contOk n fl segs) h, fun c1 i c2 E L o ho hpre h => RdyK.erase (contOk n fl segs) ho hpre h⟩
theorem Part.frontE {n : Nat} {E : List Nat} {fl : Nat → Bool} {listed : Array Bool} {c1 c2 c3 : List Nat} {i : Nat} {o : Oper} (h : Part all n listed (c1 ++ i :: c3)) (hg : GoodE all n E fl (c1 ++ i :: c2)) (ho : all[i]? = some o) (hpre : ∀ e ∈ o.after, Region.binds .any e = true → listed.getD e.on false = true) (hE : ∀ e ∈ E, e ∉ c1) :
    ∀ x ∈ c1, quietAt all x = true ∧ apartAt all x i = true ∧ (quietAt all i = true ∨ fl i = true ∨ pureAt all x = true) := by
  intro x hx
  rcases hg c1 i c2 rfl x hx with he | hr | hr
  · exact absurd hx (hE x he)
  · have hxl := h.lt x (by simp [hx])
    have := reach_listed h.closed n i x o ho hpre (fun j hj => by
      rcases Nat.lt_or_ge j listed.size with h' | h'
      · have := h.size; omega
      · simp [Array.getElem?_eq_none h'] at hj) hr
    have h2 := (h.mem x hxl).1 (by simp [hx])
    rw [h2] at this
    cases this
  · exact hr
theorem stepI_cons {fl : Nat → Bool} {K : Act → World → Prop} {i : Nat} {a : Act} {w : World} (h : stepI r bad P all fl Q i K a w) : wpI r bad P all fl K Q [i] a w := by
  rw [wpI_cons]; exact h
theorem any_of_plan {n : Nat} {fl : Nat → Bool} {cont : List Nat → List Nat → Array Bool → Prop} {rest : List Nat} {kont : Act → World → Prop} (hnd : noDefers all = true) (hQ : ∀ c a w, ¬ Q (.panic c) a w) (hc : ContOk all n fl cont rest)
    (hcont : ∀ (pre E : List Nat) (L : Array Bool) (a : Act) (w : World), (∀ e ∈ E, L.getD e false = true) → cont pre E L → wpI r bad P all fl kont Q pre a w → wpAnyIn (FW r) 0 P .any all Q (pre ++ rest).length L a w) :
    ∀ (pl : Plan) (pre E : List Nat) (L : Array Bool) (a : Act) (w : World), (∀ e ∈ E, L.getD e false = true) → RdyK all n cont rest pl pre E L → wpI r bad P all fl (wpP r bad P all fl Q kont pl) Q pre a w →
    wpAnyIn (FW r) 0 P .any all Q (pre ++ (pl.list ++ rest)).length L a w
  | .fin c, pre, E, L, a, w, hE, hr, h => by
    have := hcont (pre ++ c) E L a w hE hr (wpI_append pre c a w h)
    rw [List.append_assoc] at this; exact this
  | .fork d p A q B, pre, E, L, a, w, hE, hr, h => by
    have hmain : ∀ (m : Nat) (d' : List Nat) (L : Array Bool) (a : Act) (w : World), d'.length = m → (∀ e ∈ E, L.getD e false = true) → RdyK all n cont rest A (d' ++ [p]) (p :: E) L → RdyK all n cont rest B (d' ++ [q]) (q :: E) L → q ∈ A.list ++ rest → A.list.length = B.list.length → (∀ i ∈ A.list ++ rest, i = q ∨ reach all n i p = true ∨ reach all n i q = true) →
        wpI r bad P all fl (fun a w => stepI r bad P all fl Q p (wpP r bad P all fl Q kont A) a w ∧ stepI r bad P all fl Q q (wpP r bad P all fl Q kont B) a w) Q d' a w → wpAnyIn (FW r) 0 P .any all Q (d' ++ p :: (A.list ++ rest)).length L a w := by
      intro m
      induction m using Nat.strongRecOn with
      | _ m ih =>
      intro d' L a w hm hE hA hB hqA hlen he h
      have h1 := RdyK.part hc hA
      have h2 := RdyK.part hc hB
      rw [List.append_assoc] at h1 h2
      have gA := RdyK.good hc hA
      have gB := RdyK.good hc hB
      simp only [List.singleton_append] at h1 h2
      obtain ⟨k, hk⟩ : ∃ k, (d' ++ p :: (A.list ++ rest)).length = k + 1 := ⟨d'.length + (A.list ++ rest).length, by simp; omega⟩
      rw [hk]
      constructor
      · intro h0
        exfalso
        match hcc : d' ++ p :: (A.list ++ rest), hk with
        | i :: c', _ =>
          rw [hcc] at h1
          have hil := h1.lt i List.mem_cons_self
          have hi : i ∈ Region.ready .any all L := by
            refine mem_ready.2 ⟨?_, all[i], by simp [hil], ?_⟩
            · have := (h1.mem i hil).1 List.mem_cons_self
              rw [Array.getD_eq_getD_getElem?] at this ⊢
              rw [Array.getElem?_eq_getElem (by rw [h1.size]; exact hil)] at this ⊢
              exact this
            · intro e he hb
              rcases h1.topo [] i c' rfl _ (by simp [hil]) e he hb with h | h
              · exact h
              · cases h
          rw [h0] at hi
          cases hi
      · intro i hi
        obtain ⟨hun, o, ho, hpre⟩ := mem_ready.1 hi
        have hil : i < all.size := (Array.getElem?_eq_some_iff.1 ho).1
        have hun' : L.getD i false = false := by
          have := h1.size
          rw [Array.getD_eq_getD_getElem?] at hun ⊢
          rw [Array.getElem?_eq_getElem (by omega)] at hun ⊢
          exact hun
        have hmem := (h1.mem i hil).2 hun'
        have hun2 : ∀ x, x ∈ d' ++ p :: (A.list ++ rest) → reach all n i x = true → False := by
          intro x hx hr
          have := reach_listed h1.closed n i x o ho hpre (fun j hj => by
            rcases Nat.lt_or_ge j L.size with h' | h'
            · have := h1.size; omega
            · simp [Array.getElem?_eq_none h'] at hj) hr
          have h2 := (h1.mem x (h1.lt x hx)).1 hx
          rw [h2] at this; cases this
        have hEd : ∀ e ∈ E, e ∉ d' := fun e he hm => by
          have := (h1.mem e (h1.lt e (by simp [hm]))).1 (by simp [hm])
          rw [hE e he] at this; cases this
        have hnA : p ∉ d' := fun hp => by
          have hn := h1.nodup
          rw [List.nodup_append] at hn
          exact hn.2.2 p hp p (by simp) rfl
        have hnB : q ∉ d' := fun hp => by
          have hn := h2.nodup
          rw [List.nodup_append] at hn
          exact hn.2.2 q hp q (by simp) rfl
        rw [List.mem_append, List.mem_cons] at hmem
        rcases hmem with hm' | rfl | hm'
        · obtain ⟨c1, c2, rfl⟩ := List.append_of_mem hm'
          have q1 : ∀ z : Nat, (c1 ++ i :: c2) ++ [z] = c1 ++ i :: (c2 ++ [z]) := fun z => by simp
          have q2 : ∀ z : Nat, c1 ++ (c2 ++ [z]) = (c1 ++ c2) ++ [z] := fun z => by simp
          rw [q1] at hA hB gA
          have hk2 : (c1 ++ i :: (c2 ++ p :: (A.list ++ rest))).length = k + 1 := by rw [← hk]; simp
          have h1' : Part all n L (c1 ++ i :: (c2 ++ p :: (A.list ++ rest))) := by simpa using h1
          have hf := h1'.frontE gA ho hpre (fun e he hm => by
            rcases List.mem_cons.1 he with rfl | he
            · exact hnA (by simp [hm])
            · exact hEd e he (by simp [hm]))
          have hst := wpI_front hnd hQ c1 c2 a w hf h
          refine wpOpIn_mono (fun a w hh => ?_) hst.wpOpIn
          have sA := RdyK.erase hc ho hpre hA
          have sB := RdyK.erase hc ho hpre hB
          rw [q2] at sA sB
          have := ih (c1 ++ c2).length (by rw [← hm]; simp) (c1 ++ c2) _ a w rfl (fun e he => getD_set_true (hE e he)) sA sB hqA hlen ‹_› hh
          have hl : ((c1 ++ c2) ++ p :: (A.list ++ rest)).length = k := by simp at hk2 ⊢; omega
          rw [hl] at this; exact this
        · have hw := wpI_append (K := fun a w => wpP r bad P all fl Q kont A a w) d' [i] a w (wpI_mono (fun _ _ h => stepI_cons h.1) d' h)
          have hf := h1.frontE (c2 := []) gA ho hpre (fun e he hm => by
            rcases List.mem_cons.1 he with rfl | he
            · exact hnA hm
            · exact hEd e he hm)
          have hst := wpI_front hnd hQ d' [] a w hf hw
          refine wpOpIn_mono (fun a w hh => ?_) hst.wpOpIn
          have sA := RdyK.erase hc ho hpre hA
          rw [List.append_nil] at sA hh
          have := any_of_plan hnd hQ hc hcont A d' (i :: E) _ a w (fun e he => by
            rcases List.mem_cons.1 he with rfl | he
            · exact getD_set_self (by rw [h1.size]; exact hil)
            · exact getD_set_true (hE e he)) sA hh
          have hl : (d' ++ (A.list ++ rest)).length = k := by simp at hk ⊢; omega
          rw [hl] at this; exact this
        · by_cases hiq : i = q
          · subst hiq
            have hw := wpI_append (K := fun a w => wpP r bad P all fl Q kont B a w) d' [i] a w (wpI_mono (fun _ _ h => stepI_cons h.2) d' h)
            have hf := h2.frontE (c2 := []) gB ho hpre (fun e he hm => by
              rcases List.mem_cons.1 he with rfl | he
              · exact hnB hm
              · exact hEd e he hm)
            have hst := wpI_front hnd hQ d' [] a w hf hw
            refine wpOpIn_mono (fun a w hh => ?_) hst.wpOpIn
            have sB := RdyK.erase hc ho hpre hB
            rw [List.append_nil] at sB hh
            have := any_of_plan hnd hQ hc hcont B d' (i :: E) _ a w (fun e he => by
              rcases List.mem_cons.1 he with rfl | he
              · exact getD_set_self (by rw [h1.size]; exact hil)
              · exact getD_set_true (hE e he)) sB hh
            have hl : (d' ++ (B.list ++ rest)).length = k := by simp at hk ⊢; omega
            rw [hl] at this; exact this
          · exfalso
            rcases he i hm' with hr | hr | hr
            · exact hiq hr
            · exact hun2 p (by simp) hr
            · exact hun2 q (List.mem_append_right _ (List.mem_cons_of_mem _ hqA)) hr
    obtain ⟨hA, hB, hqA, hlen, he⟩ := hr
    have := hmain (pre ++ d).length (pre ++ d) L a w rfl hE hA hB hqA hlen he (wpI_append pre d a w h)
    have e : pre ++ d ++ p :: (A.list ++ rest) = pre ++ ((Plan.fork d p A q B).list ++ rest) := by simp [Plan.list]
    rw [e] at this
    exact this

  | .forkN d p ps A, pre, E, L, a, w, hE, hr, h => by
    have hmain : ∀ (m : Nat) (d' : List Nat) (L : Array Bool) (a : Act) (w : World), d'.length = m → (∀ e ∈ E, L.getD e false = true) → (∀ i ∈ p :: ps, RdyK all n cont rest (A i) (d' ++ [i]) (i :: E) L ∧ (A i).list.length = (A p).list.length ∧ (i = p ∨ i ∈ (A p).list ++ rest)) → (∀ i ∈ (A p).list ++ rest, i ∈ ps ∨ ∃ q ∈ p :: ps, reach all n i q = true) →
        wpI r bad P all fl (fun a w => ∀ i ∈ p :: ps, stepI r bad P all fl Q i (wpP r bad P all fl Q kont (A i)) a w) Q d' a w → wpAnyIn (FW r) 0 P .any all Q (d' ++ p :: ((A p).list ++ rest)).length L a w := by
      intro m
      induction m using Nat.strongRecOn with
      | _ m ih =>
      intro d' L a w hm hE hA he h
      have h1 := RdyK.part hc (hA p List.mem_cons_self).1
      rw [List.append_assoc] at h1
      simp only [List.singleton_append] at h1
      obtain ⟨k, hk⟩ : ∃ k, (d' ++ p :: ((A p).list ++ rest)).length = k + 1 := ⟨d'.length + ((A p).list ++ rest).length, by simp; omega⟩
      rw [hk]
      constructor
      · intro h0
        exfalso
        match hcc : d' ++ p :: ((A p).list ++ rest), hk with
        | i :: c', _ =>
          rw [hcc] at h1
          have hil := h1.lt i List.mem_cons_self
          have hi : i ∈ Region.ready .any all L := by
            refine mem_ready.2 ⟨?_, all[i], by simp [hil], ?_⟩
            · have := (h1.mem i hil).1 List.mem_cons_self
              rw [Array.getD_eq_getD_getElem?] at this ⊢
              rw [Array.getElem?_eq_getElem (by rw [h1.size]; exact hil)] at this ⊢
              exact this
            · intro e he hb
              rcases h1.topo [] i c' rfl _ (by simp [hil]) e he hb with h | h
              · exact h
              · cases h
          rw [h0] at hi
          cases hi
      · intro i hi
        obtain ⟨hun, o, ho, hpre⟩ := mem_ready.1 hi
        have hil : i < all.size := (Array.getElem?_eq_some_iff.1 ho).1
        have hun' : L.getD i false = false := by
          have := h1.size
          rw [Array.getD_eq_getD_getElem?] at hun ⊢
          rw [Array.getElem?_eq_getElem (by omega)] at hun ⊢
          exact hun
        have hmem := (h1.mem i hil).2 hun'
        have hun2 : ∀ x, x ∈ d' ++ p :: ((A p).list ++ rest) → reach all n i x = true → False := by
          intro x hx hr
          have := reach_listed h1.closed n i x o ho hpre (fun j hj => by
            rcases Nat.lt_or_ge j L.size with h' | h'
            · have := h1.size; omega
            · simp [Array.getElem?_eq_none h'] at hj) hr
          have h2 := (h1.mem x (h1.lt x hx)).1 hx
          rw [h2] at this; cases this
        have hEd : ∀ e ∈ E, e ∉ d' := fun e he hm => by
          have := (h1.mem e (h1.lt e (by simp [hm]))).1 (by simp [hm])
          rw [hE e he] at this; cases this
        have hnz : ∀ z ∈ p :: ps, z ∉ d' := fun z hz hp => by
          have hn := (RdyK.part hc (hA z hz).1).nodup
          rw [List.append_assoc, List.nodup_append] at hn
          exact hn.2.2 z hp z (by simp) rfl
        have hin : ∀ z ∈ p :: ps, z ∈ d' ++ p :: ((A p).list ++ rest) := fun z hz => by
          rcases (hA z hz).2.2 with rfl | hz'
          · simp
          · exact List.mem_append_right _ (List.mem_cons_of_mem _ hz')
        by_cases hz : i ∈ p :: ps
        · have h2 := RdyK.part hc (hA i hz).1
          rw [List.append_assoc] at h2
          simp only [List.singleton_append] at h2
          have hw := wpI_append (K := fun a w => wpP r bad P all fl Q kont (A i) a w) d' [i] a w (wpI_mono (fun _ _ h => stepI_cons (h i hz)) d' h)
          have hf := h2.frontE (c2 := []) (RdyK.good hc (hA i hz).1) ho hpre (fun e he hm => by
            rcases List.mem_cons.1 he with rfl | he
            · exact hnz _ hz hm
            · exact hEd e he hm)
          have hst := wpI_front hnd hQ d' [] a w hf hw
          refine wpOpIn_mono (fun a w hh => ?_) hst.wpOpIn
          have sA := RdyK.erase hc ho hpre (hA i hz).1
          rw [List.append_nil] at sA hh
          have := any_of_plan hnd hQ hc hcont (A i) d' (i :: E) _ a w (fun e he => by
            rcases List.mem_cons.1 he with rfl | he
            · exact getD_set_self (by rw [h1.size]; exact hil)
            · exact getD_set_true (hE e he)) sA hh
          have hl : (d' ++ ((A i).list ++ rest)).length = k := by
            have := (hA i hz).2.1
            simp at hk ⊢; omega
          rw [hl] at this; exact this
        · rw [List.mem_append, List.mem_cons] at hmem
          rcases hmem with hm' | rfl | hm'
          · obtain ⟨c1, c2, rfl⟩ := List.append_of_mem hm'
            have q1 : ∀ z : Nat, (c1 ++ i :: c2) ++ [z] = c1 ++ i :: (c2 ++ [z]) := fun z => by simp
            have q2 : ∀ z : Nat, c1 ++ (c2 ++ [z]) = (c1 ++ c2) ++ [z] := fun z => by simp
            have gA := RdyK.good hc (hA p List.mem_cons_self).1
            rw [q1] at gA
            have hk2 : (c1 ++ i :: (c2 ++ p :: ((A p).list ++ rest))).length = k + 1 := by rw [← hk]; simp
            have h1' : Part all n L (c1 ++ i :: (c2 ++ p :: ((A p).list ++ rest))) := by simpa using h1
            have hf := h1'.frontE gA ho hpre (fun e he hm => by
              rcases List.mem_cons.1 he with rfl | he
              · exact hnz _ List.mem_cons_self (by simp [hm])
              · exact hEd e he (by simp [hm]))
            have hst := wpI_front hnd hQ c1 c2 a w hf h
            refine wpOpIn_mono (fun a w hh => ?_) hst.wpOpIn
            have := ih (c1 ++ c2).length (by rw [← hm]; simp) (c1 ++ c2) _ a w rfl (fun e he => getD_set_true (hE e he)) (fun z hz => by
              have hz1 := (hA z hz).1
              rw [q1] at hz1
              have sA := RdyK.erase hc ho hpre hz1
              rw [q2] at sA
              exact ⟨sA, (hA z hz).2⟩) he hh
            have hl : ((c1 ++ c2) ++ p :: ((A p).list ++ rest)).length = k := by simp at hk2 ⊢; omega
            rw [hl] at this; exact this
          · exact absurd List.mem_cons_self hz
          · rcases he i hm' with hr | ⟨q, hq, hr⟩
            · exact absurd (List.mem_cons_of_mem _ hr) hz
            · exact (hun2 q (hin q hq) hr).elim
    obtain ⟨hA, he⟩ := hr
    have := hmain (pre ++ d).length (pre ++ d) L a w rfl hE hA he (wpI_append pre d a w h)
    have e : pre ++ d ++ p :: ((A p).list ++ rest) = pre ++ ((Plan.forkN d p ps A).list ++ rest) := by simp [Plan.list]
    rw [e] at this
    exact this
theorem any_of_segs {n : Nat} {fl : Nat → Bool} (hnd : noDefers all = true) (hQ : ∀ c a w, ¬ Q (.panic c) a w) : ∀ (segs : List Plan) (pre E : List Nat) (L : Array Bool) (a : Act) (w : World), (∀ e ∈ E, L.getD e false = true) → RdyS all n fl segs pre E L → wpI r bad P all fl (wpS r bad P all fl Q segs) Q pre a w →
    wpAnyIn (FW r) 0 P .any all Q (pre ++ flatP segs).length L a w
  | [], pre, E, L, a, w, hE, hr, h => by
    obtain ⟨hp, hg⟩ := hr
    rw [flatP, List.append_nil]
    refine any_of_wpI hnd hQ pre L a w hp.size hp.closed hp.nodup hp.mem hp.lt (hg.none fun e he hm => ?_) hp.topo h
    have := (hp.mem e (hp.lt e hm)).1 hm
    rw [hE e he] at this; cases this
  | pl :: segs, pre, E, L, a, w, hE, hr, h =>
    any_of_plan hnd hQ (contOk n fl segs) (any_of_segs hnd hQ segs) pl pre E L a w hE hr h
/-! ### The segments stand by the edges -/
/-- i of a later segment may not stand ahead of x of an earlier one, or x is quiet and has nothing to do with it. -/
def crossOk (all : Array Oper) (n : Nat) (fls : List Bool) (S : List Nat) (i : Nat) : Bool := S.all fun x => reach all n i x || (quietAt all x && apartAt all x i && (quietAt all i || (fls.getD i false || pureAt all x)))
def canonS (all : Array Oper) (n : Nat) (fls : List Bool) (S E : List Nat) : List Nat → List Nat → Bool
  | _, [] => true
  | before, i :: rest => goodAt3 all n fls E i before && crossOk all n fls S i && topoAt all i (S ++ before) && !(S ++ before).contains i && Nat.blt i all.size && canonS all n fls S E (before ++ [i]) rest
def planChk (all : Array Oper) (n : Nat) (fls : List Bool) (S rest T : List Nat) : Plan → List Nat → List Nat → Bool
  | .fin c, pre, E => canonS all n fls S E [] (pre ++ c) && Nat.beq (pre ++ c).length T.length && (pre ++ c).all T.contains && T.all (pre ++ c).contains
  | .fork d p A q B, pre, E => planChk all n fls S rest T A (pre ++ d ++ [p]) (p :: E) && planChk all n fls S rest T B (pre ++ d ++ [q]) (q :: E) && ((A.list ++ rest).any fun i => Nat.beq i q) && Nat.beq A.list.length B.list.length && (A.list ++ rest).all fun i => Nat.beq i q || (reach all n i p || reach all n i q)
  | .forkN d p ps A, pre, E => (p :: ps).all (fun i => planChk all n fls S rest T (A i) (pre ++ d ++ [i]) (i :: E) && Nat.beq (A i).list.length (A p).list.length && (Nat.beq i p || ((A p).list ++ rest).contains i)) && ((A p).list ++ rest).all fun i => ps.contains i || (p :: ps).any fun q => reach all n i q
def segsChk (all : Array Oper) (n : Nat) (fls : List Bool) : List Nat → List Plan → Bool
  | S, [] => noDefers all && Nat.beq S.length all.size && (List.range all.size).all S.contains
  | S, pl :: segs => planChk all n fls S (flatP segs) pl.list pl [] [] && segsChk all n fls (S ++ pl.list) segs
/-- A list of operations, in an order that has come about: those of S. -/
structure PreOk (all : Array Oper) (n : Nat) (fls : List Bool) (S pre E : List Nat) : Prop where
  nodup : pre.Nodup
  mem : ∀ i, i ∈ pre ↔ i ∈ S
  lt : ∀ i ∈ pre, i < all.size
  good : GoodE all n E (fun i => fls.getD i false) pre
  topo : TopoList all (Array.replicate all.size false) pre
  len : pre.length = S.length
theorem canonS_split {n : Nat} {S E : List Nat} {fls : List Bool} : ∀ (c before c1 : List Nat) (i : Nat) (c2 : List Nat), canonS all n fls S E before c = true → c = c1 ++ i :: c2 →
    goodAt3 all n fls E i (before ++ c1) = true ∧ crossOk all n fls S i = true ∧ topoAt all i (S ++ (before ++ c1)) = true ∧ i ∉ S ++ (before ++ c1) ∧ i < all.size := by
  intro c
  induction c with
  | nil => intro before c1 i c2 _ h; simp at h
  | cons x c ih =>
    intro before c1 i c2 hc h
    simp only [canonS, Bool.and_eq_true] at hc
    obtain ⟨⟨⟨⟨⟨g, cr⟩, t⟩, nm⟩, lt⟩, hc⟩ := hc
    cases c1 with
    | nil =>
      simp only [List.nil_append, List.cons.injEq] at h
      rw [← h.1, List.append_nil]
      exact ⟨g, cr, t, by simpa using nm, by simpa [Nat.blt_eq] using lt⟩
    | cons y c1 =>
      simp only [List.cons_append, List.cons.injEq] at h
      have := ih (before ++ [x]) c1 i c2 hc h.2
      rw [h.1] at this
      simpa using this
theorem PreOk.more {n : Nat} {fls : List Bool} {S pre E E' T c : List Nat} (h : PreOk all n fls S pre E) (hE : ∀ e ∈ E, e ∈ E') (hc : canonS all n fls S E' [] c = true) (hT : ∀ i, i ∈ c ↔ i ∈ T) (hl : c.length = T.length) : PreOk all n fls (S ++ T) (pre ++ c) E' := by
  have sp := fun c1 i c2 he => canonS_split c [] c1 i c2 hc he
  simp only [List.nil_append] at sp
  have hcn : c.Nodup := by
    have key : ∀ (c before : List Nat), canonS all n fls S E' before c = true → before.Nodup → (before ++ c).Nodup := by
      intro c
      induction c with
      | nil => intro before _ h; simpa using h
      | cons i c ih =>
        intro before h hb
        simp only [canonS, Bool.and_eq_true] at h
        have hn : i ∉ S ++ before := by simpa using h.1.1.2
        have := ih (before ++ [i]) h.2 (by
          rw [List.nodup_append]
          refine ⟨hb, by simp, fun x hx y hy => ?_⟩
          simp only [List.mem_singleton] at hy
          rintro rfl
          exact hn (List.mem_append_right _ (hy ▸ hx)))
        simpa using this
    simpa using key c [] hc List.nodup_nil
  have hcS : ∀ i ∈ c, i ∉ S := fun i hi => by
    obtain ⟨c1, c2, rfl⟩ := List.append_of_mem hi
    have := (sp c1 i c2 rfl).2.2.2.1
    exact fun hS => this (List.mem_append_left _ hS)
  refine ⟨?_, fun i => ?_, fun i hi => ?_, ?_, ?_, by simp [h.len, hl]⟩
  · rw [List.nodup_append]
    exact ⟨h.nodup, hcn, fun x hx y hy => by rintro rfl; exact hcS x hy ((h.mem x).1 hx)⟩
  · simp [h.mem, hT]
  · rcases List.mem_append.1 hi with hi | hi
    · exact h.lt i hi
    · obtain ⟨c1, c2, rfl⟩ := List.append_of_mem hi
      exact (sp c1 i c2 rfl).2.2.2.2
  · intro d1 i d2 he x hx
    rcases List.append_eq_append_iff.1 he with ⟨t, h1, h2⟩ | ⟨t, h1, h2⟩
    · -- i lies in c
      rw [h1] at hx
      obtain ⟨g, cr, _⟩ := sp t i d2 h2
      rcases List.mem_append.1 hx with hx | hx
      · have := List.all_eq_true.1 cr x ((h.mem x).1 hx)
        simp only [Bool.or_eq_true, Bool.and_eq_true] at this
        rcases this with h' | h'
        · exact Or.inr (Or.inl h')
        · exact Or.inr (Or.inr ⟨h'.1.1, h'.1.2, h'.2⟩)
      · have := List.all_eq_true.1 g x hx
        simp only [Bool.or_eq_true, Bool.and_eq_true] at this
        rcases this with (h' | h') | h'
        · exact Or.inl (by simpa using h')
        · exact Or.inr (Or.inl h')
        · exact Or.inr (Or.inr ⟨h'.1.1, h'.1.2, h'.2⟩)
    · cases t with
      | nil =>
        rw [List.append_nil] at h1
        rw [List.nil_append] at h2
        rw [← h1] at hx
        obtain ⟨g, cr, _⟩ := sp [] i d2 h2.symm
        have := List.all_eq_true.1 cr x ((h.mem x).1 hx)
        simp only [Bool.or_eq_true, Bool.and_eq_true] at this
        rcases this with h' | h'
        · exact Or.inr (Or.inl h')
        · exact Or.inr (Or.inr ⟨h'.1.1, h'.1.2, h'.2⟩)
      | cons z t =>
        simp only [List.cons_append, List.cons.injEq] at h2
        rw [← h2.1] at h1
        rcases h.good d1 i t h1 x hx with h' | h'
        · exact Or.inl (hE x h')
        · exact Or.inr h'
  · intro d1 i d2 he o ho e hm hb
    rcases List.append_eq_append_iff.1 he with ⟨t, h1, h2⟩ | ⟨t, h1, h2⟩
    · obtain ⟨_, _, tp, _⟩ := sp t i d2 h2
      unfold topoAt at tp
      rw [ho] at tp
      simp only [Option.map_some, Option.getD_some, List.all_eq_true, Bool.or_eq_true, Bool.not_eq_true', List.contains_eq_mem, decide_eq_true_eq] at tp
      rcases tp e (by simpa using hm) with h' | h'
      · rw [hb] at h'; cases h'
      · rw [h1]
        rcases List.mem_append.1 h' with h' | h'
        · exact Or.inr (List.mem_append_left _ ((h.mem _).2 h'))
        · exact Or.inr (List.mem_append_right _ h')
    · cases t with
      | nil =>
        rw [List.append_nil] at h1
        rw [List.nil_append] at h2
        obtain ⟨_, _, tp, _⟩ := sp [] i d2 h2.symm
        unfold topoAt at tp
        rw [ho] at tp
        simp only [Option.map_some, Option.getD_some, List.all_eq_true, Bool.or_eq_true, Bool.not_eq_true', List.contains_eq_mem, decide_eq_true_eq] at tp
        rcases tp e (by simpa using hm) with h' | h'
        · rw [hb] at h'; cases h'
        · rw [← h1]
          rcases List.mem_append.1 h' with h' | h'
          · exact Or.inr ((h.mem _).2 h')
          · cases h'
      | cons z t =>
        simp only [List.cons_append, List.cons.injEq] at h2
        rw [← h2.1] at h1
        exact h.topo d1 i t h1 o ho e hm hb
theorem rdyK_of_chk {n : Nat} {fls : List Bool} {S rest T pre E : List Nat} {cont : List Nat → List Nat → Array Bool → Prop} (h : PreOk all n fls S pre E) (hcont : ∀ pre' E', PreOk all n fls (S ++ T) pre' E' → cont pre' E' (Array.replicate all.size false)) :
    ∀ {pl : Plan} {lp Ep : List Nat}, planChk all n fls S rest T pl lp Ep = true → RdyK all n cont rest pl (pre ++ lp) (Ep ++ E) (Array.replicate all.size false)
  | .fin c, lp, Ep, hc => by
    simp only [planChk, Bool.and_eq_true, List.all_eq_true] at hc
    obtain ⟨⟨⟨h1, h2⟩, h3⟩, h4⟩ := hc
    have h1' : canonS all n fls S (Ep ++ E) [] (lp ++ c) = true := by
      have key : ∀ (c before : List Nat), canonS all n fls S Ep before c = true → canonS all n fls S (Ep ++ E) before c = true := by
        intro c
        induction c with
        | nil => intro _ _; rfl
        | cons i c ih =>
          intro before hh
          simp only [canonS, Bool.and_eq_true] at hh ⊢
          refine ⟨⟨⟨⟨⟨?_, hh.1.1.1.1.2⟩, hh.1.1.1.2⟩, hh.1.1.2⟩, hh.1.2⟩, ih _ hh.2⟩
          unfold goodAt3 at hh ⊢
          rw [List.all_eq_true]
          intro x hx
          have := List.all_eq_true.1 hh.1.1.1.1.1 x hx
          simp only [Bool.or_eq_true] at this ⊢
          rcases this with (h' | h') | h'
          · exact Or.inl (Or.inl (by simp only [List.contains_eq_mem, decide_eq_true_eq] at h' ⊢; exact List.mem_append_left _ h'))
          · exact Or.inl (Or.inr h')
          · exact Or.inr h'
      exact key _ _ h1
    have := h.more (fun e he => List.mem_append_right Ep he) h1' (T := T) (fun i => ⟨fun hi => by simpa using h3 i hi, fun hi => by simpa using h4 i hi⟩) (Nat.eq_of_beq_eq_true h2)
    show cont (pre ++ lp ++ c) (Ep ++ E) _
    rw [List.append_assoc]
    exact hcont _ _ this
  | .fork d p A q B, lp, Ep, hc => by
    simp only [planChk, Bool.and_eq_true] at hc
    obtain ⟨⟨⟨⟨hA, hB⟩, hq⟩, hl⟩, he⟩ := hc
    have rA := rdyK_of_chk h hcont hA
    have rB := rdyK_of_chk h hcont hB
    simp only [← List.append_assoc] at rA rB
    refine ⟨rA, rB, ?_, Nat.eq_of_beq_eq_true hl, fun i hi => ?_⟩
    · obtain ⟨x, hx, hb⟩ := List.any_eq_true.1 hq
      rw [← Nat.eq_of_beq_eq_true hb]; exact hx
    · simpa using List.all_eq_true.1 he i hi
  | .forkN d p ps A, lp, Ep, hc => by
    simp only [planChk, Bool.and_eq_true] at hc
    obtain ⟨hA, he⟩ := hc
    refine ⟨fun i hi => ?_, fun i hi => ?_⟩
    · have h1 := List.all_eq_true.1 hA i hi
      simp only [Bool.and_eq_true] at h1
      have rA := rdyK_of_chk h hcont h1.1.1
      simp only [← List.append_assoc] at rA
      refine ⟨rA, Nat.eq_of_beq_eq_true h1.1.2, ?_⟩
      have h2 := h1.2
      rw [Bool.or_eq_true] at h2
      rcases h2 with h2 | h2
      · exact Or.inl (Nat.eq_of_beq_eq_true h2)
      · exact Or.inr (by simpa using h2)
    · have := List.all_eq_true.1 he i hi
      rw [Bool.or_eq_true] at this
      rcases this with h1 | h1
      · exact Or.inl (by simpa using h1)
      · obtain ⟨q, hq, hr⟩ := List.any_eq_true.1 h1
        exact Or.inr ⟨q, hq, hr⟩
theorem rdyS_of_chk {n : Nat} {fls : List Bool} : ∀ {segs : List Plan} {S pre E : List Nat}, PreOk all n fls S pre E → segsChk all n fls S segs = true → RdyS all n (fun i => fls.getD i false) segs pre E (Array.replicate all.size false)
  | [], S, pre, E, h, hc => by
    simp only [segsChk, Bool.and_eq_true, List.all_eq_true, List.mem_range, List.contains_eq_mem, decide_eq_true_eq] at hc
    refine ⟨⟨by simp, ?_, h.nodup, fun i hi => ?_, h.lt, h.topo⟩, h.good⟩
    · intro i o ho hl
      simp [Array.getD_eq_getD_getElem?, Array.getElem?_replicate] at hl
      split at hl <;> simp at hl
    · simp only [Array.getD_eq_getD_getElem?, Array.getElem?_replicate, hi, if_true, Option.getD_some, iff_true]
      exact (h.mem i).2 (hc.2 i hi)
  | pl :: segs, S, pre, E, h, hc => by
    simp only [segsChk, Bool.and_eq_true] at hc
    have := rdyK_of_chk (cont := RdyS all n (fun i => fls.getD i false) segs) (rest := flatP segs) (T := pl.list) h (fun pre' E' h' => rdyS_of_chk h' hc.2) hc.1
    rw [List.append_nil, List.nil_append] at this
    exact this
theorem chk_facts {n : Nat} {fls : List Bool} : ∀ {segs : List Plan} {S : List Nat}, segsChk all n fls S segs = true → noDefers all = true ∧ (S ++ flatP segs).length = all.size
  | [], S, hc => by
    simp only [segsChk, Bool.and_eq_true] at hc
    rw [flatP, List.append_nil]
    exact ⟨hc.1.1, Nat.eq_of_beq_eq_true hc.1.2⟩
  | pl :: segs, S, hc => by
    simp only [segsChk, Bool.and_eq_true] at hc
    obtain ⟨h1, h2⟩ := chk_facts hc.2
    rw [List.append_assoc] at h2
    exact ⟨h1, h2⟩
theorem wpI_of_map {K : Act → World → Prop} {fl : Nat → Bool} : ∀ (c : List Nat) (a : Act) (w : World), (∀ i ∈ c, i < all.size) → wpL r bad P all K Q (opsAt all (c.map fun i => (fl i, i))) a w → wpI r bad P all fl K Q c a w := by
  intro c
  induction c with
  | nil => intro a w _ h; exact h
  | cons i c ih =>
    intro a w hlt h
    have hi := hlt i List.mem_cons_self
    have ho : all[i]? = some all[i] := by simp [hi]
    have hd : all.getD i default = all[i] := by simp [hi]
    have hrec : ∀ a w, wpL r bad P all K Q (opsAt all (c.map fun i => (fl i, i))) a w → wpI r bad P all fl K Q c a w := fun a w hh => ih a w (fun j hj => hlt j (List.mem_cons_of_mem _ hj)) hh
    simp only [opsAt, List.map_cons, wpL, hd] at h
    simp only [wpI, ho]
    split at h
    · rename_i hq
      obtain ⟨v, hy, h⟩ := h
      rw [if_pos hq]
      exact ⟨v, hy, hrec _ _ h⟩
    · rename_i hq
      rw [if_neg hq]
      exact h.mono hrec
/-- The same by lists of operations. -/
def wpPL (r : Option Nat) {γb : Type} [Membership Nat γb] (bad : γb) (P : Program) (all : Array Oper) (fls : List Bool) (Q : Exit → Act → World → Prop) (kont : Act → World → Prop) : Plan → Act → World → Prop
  | .fin c => wpL r bad P all kont Q (opsAt all (c.map fun i => (fls.getD i false, i)))
  | .fork d p A q B => wpL r bad P all (fun a w => wpL r bad P all (wpPL r bad P all fls Q kont A) Q (opsAt all [(fls.getD p false, p)]) a w ∧ wpL r bad P all (wpPL r bad P all fls Q kont B) Q (opsAt all [(fls.getD q false, q)]) a w) Q (opsAt all (d.map fun i => (fls.getD i false, i)))
  | .forkN d p ps A => wpL r bad P all (fun a w => ∀ i ∈ p :: ps, wpL r bad P all (wpPL r bad P all fls Q kont (A i)) Q (opsAt all [(fls.getD i false, i)]) a w) Q (opsAt all (d.map fun i => (fls.getD i false, i)))
/-- Segments, and what holds behind them. -/
def wpSL (r : Option Nat) {γb : Type} [Membership Nat γb] (bad : γb) (P : Program) (all : Array Oper) (fls : List Bool) (Q : Exit → Act → World → Prop) (K : Act → World → Prop) : List Plan → Act → World → Prop
  | [] => K
  | pl :: segs => wpPL r bad P all fls Q (wpSL r bad P all fls Q K segs) pl
/-- All operations of a plan. -/
def planLt (N : Nat) : Plan → Bool
  | .fin c => c.all fun i => Nat.blt i N
  | .fork d p A q B => d.all (fun i => Nat.blt i N) && Nat.blt p N && Nat.blt q N && planLt N A && planLt N B
  | .forkN d p ps A => d.all (fun i => Nat.blt i N) && (p :: ps).all fun i => Nat.blt i N && planLt N (A i)
theorem wpP_of_wpPL {fls : List Bool} {kont kont' : Act → World → Prop} (hk : ∀ a w, kont a w → kont' a w) : ∀ {pl : Plan} {a : Act} {w : World}, planLt all.size pl = true → wpPL r bad P all fls Q kont pl a w → wpP r bad P all (fun i => fls.getD i false) Q kont' pl a w
  | .fin c, a, w, hl, h => wpI_mono hk c (wpI_of_map c a w (fun i hi => by simpa [Nat.blt_eq] using List.all_eq_true.1 hl i hi) h)
  | .fork d p A q B, a, w, hl, h => by
    simp only [planLt, Bool.and_eq_true, Nat.blt_eq] at hl
    obtain ⟨⟨⟨⟨h1, h2⟩, h3⟩, h4⟩, h5⟩ := hl
    refine wpI_mono ?_ d (wpI_of_map d a w (fun i hi => by simpa [Nat.blt_eq] using List.all_eq_true.1 h1 i hi) h)
    rintro a w ⟨g1, g2⟩
    have one : ∀ (z : Nat) (K : Act → World → Prop), z < all.size → wpL r bad P all K Q (opsAt all [(fls.getD z false, z)]) a w → stepI r bad P all (fun i => fls.getD i false) Q z K a w := fun z K hz h => by
      have := wpI_of_map (all := all) (fl := fun i => fls.getD i false) [z] a w (by simpa using hz) h
      rw [wpI_cons] at this; exact this
    exact ⟨(one p _ h2 g1).mono fun a w h => wpP_of_wpPL hk h4 h, (one q _ h3 g2).mono fun a w h => wpP_of_wpPL hk h5 h⟩
  | .forkN d p ps A, a, w, hl, h => by
    simp only [planLt, Bool.and_eq_true] at hl
    obtain ⟨h1, h2⟩ := hl
    refine wpI_mono ?_ d (wpI_of_map d a w (fun i hi => by simpa [Nat.blt_eq] using List.all_eq_true.1 h1 i hi) h)
    intro a w g i hi
    have h3 := List.all_eq_true.1 h2 i hi
    simp only [Bool.and_eq_true, Nat.blt_eq] at h3
    have one : ∀ (z : Nat) (K : Act → World → Prop), z < all.size → wpL r bad P all K Q (opsAt all [(fls.getD z false, z)]) a w → stepI r bad P all (fun i => fls.getD i false) Q z K a w := fun z K hz h => by
      have := wpI_of_map (all := all) (fl := fun i => fls.getD i false) [z] a w (by simpa using hz) h
      rw [wpI_cons] at this; exact this
    exact (one i _ h3.1 (g i hi)).mono fun a w h => wpP_of_wpPL hk h3.2 h
theorem wpS_of_wpSL {fls : List Bool} : ∀ {segs : List Plan} {a : Act} {w : World}, (segs.all fun pl => planLt all.size pl) = true → wpSL r bad P all fls Q (fun a w => Q .normal a w) segs a w → wpS r bad P all (fun i => fls.getD i false) Q segs a w
  | [], a, w, _, h => h
  | pl :: segs, a, w, hl, h => by
    rw [List.all_cons, Bool.and_eq_true] at hl
    exact wpP_of_wpPL (fun a w h => wpS_of_wpSL hl.2 h) hl.1 h
/-- **A REGION THAT DRAWS ITS ORDER, by its segments.** -/
theorem wp_drawS {id n : Nat} {fls : List Bool} {segs : List Plan} {a : Act} {w : World} (hm : P.follows .mixedOrders = true) (hc : (segsChk all n fls [] segs && segs.all fun pl => planLt all.size pl) = true) (hQ : ∀ c a w, ¬ Q (.panic c) a w)
    (h : wpSL r bad P all fls Q (fun a w => Q .normal a w) segs a { w with drawn := w.drawn + 1 }) : (Code.region id all true).wpIn (FW r) 0 P Q a w := by
  rw [Bool.and_eq_true] at hc
  obtain ⟨hnd, hlen⟩ := chk_facts hc.1
  have hr := rdyS_of_chk (S := []) (pre := []) (E := []) ⟨List.nodup_nil, fun i => Iff.rfl, (fun i hi => by cases hi), (fun c1 i c2 he => by simp at he), (fun c1 i c2 he => by simp at he), rfl⟩ hc.1
  refine wpIn_region_any hm ?_
  have := any_of_segs (P := P) (r := r) (bad := bad) (n := n) (fl := fun i => fls.getD i false) hnd hQ segs [] [] (Array.replicate all.size false) a { w with drawn := w.drawn + 1 } (fun e he => by cases he) hr (wpS_of_wpSL hc.2 h)
  rw [hlen] at this
  exact this
end Go.Fs
