/- Ranges over functions: the iterator's side, the rounds, the statement. -/
import Derived.Test.YtjhdcelmgfajbaaAppend
import Derived.RangeFuncLeaves
import Derived.RangeFuncRecord
namespace Go.Fs

variable {P : Program} {X : Cx} {γb : Type} [Membership Nat γb] {bad : γb} {all : Array Oper} {K : Act → World → Prop} {Q : Exit → Act → World → Prop}
variable {σ : Slots} {μ : Boxes} {Ds : List Data} {os : List (Bool × Nat)} {fl : Bool} {ix : Nat}
variable {d : Nat} {x y z : Operand} {u v : Value} {ty : TypeId} {pos : String} {aft : Array Edge} {g : Option (Nat × Bool)}

/-- The blocks of the list, and the data, are as they were. -/
def High (β : List Nat) (D : Data) (w : World) (D' : Data) (w' : World) : Prop := w.heap.size ≤ w'.heap.size ∧ Le D D' ∧ ∀ b ∈ β, w'.heap[b]? = w.heap[b]? ∧ D' b = D b

abbrev Inv := List Nat → Data → World → Prop

/-- A call of yield that runs a round. -/
def YieldRuns (P : Program) (l : Nat) (vs : List Value) (w : World) (R : Bool → Data → World → Prop) : Prop :=
  ∃ fn tmps assign body, (Instr.yield l vs.toArray).run P w = .ok (.round l fn tmps assign body) w ∧ Rounds P l fn tmps assign body w fun e w' => ∃ b D', e = .returned (.bool b) ∧ R b D' w'

def Cx.withEx (X : Cx) (J : Inv) : Cx := { X with ex := some J }

/-- **A call of yield** in an iterator. -/
theorem L.yield {J J1 J0 : Inv} {l : Nat} {c : Operand} {xs : Array Operand} {ats : Array TypeId} {vs : List Value} (ho : all[ix]? = some ⟨some d, .call { callee := .value c, args := xs, argTypes := ats }, ty, pos, aft, g⟩)
    (hc : ev σ c = some (.func (.yield l) #[] #[])) (hxs : evs σ xs.toList = some vs) (hex : X.ex = some J) (hfl : fl = false) (h0 : X.h0 = ⟨#[], none⟩) (hm : X.mods = []) (hs1 : Stb X.lo J1) (hs0 : Stb X.lo J0)
    (hY : ∀ D w, Dom X.lo D w → J (μ.map (·.1)) D w → (∀ p ∈ μ, p.1 < w.heap.size) → (∀ D₁ ∈ Ds, Le D₁ D) → YieldRuns P l vs w fun b D' w' => Dom X.lo D' w' ∧ High (μ.map (·.1)) D w D' w' ∧ (if b then J1 (μ.map (·.1)) D' w' else J0 (μ.map (·.1)) D' w'))
    (hN : Nat.blt d X.N = true) (hg : Gok all σ g)
    (k1 : WL P (X.withEx J1) bad all K Q os ((d, .bool true) :: σ) μ Ds) (k0 : WL P (X.withEx J0) bad all K Q os ((d, .bool false) :: σ) μ Ds) : WL P X bad all K Q ((fl, ix) :: os) σ μ Ds := by
  refine L.loud ho rfl rfl hg fun a w hh => ?_
  obtain ⟨h1, h2, h3, D, h4, h5, h6⟩ := id hh
  have hJ : J (μ.map (·.1)) D w := by unfold exOk at h6; rw [hex] at h6; exact h6.2
  obtain ⟨fn, tmps, assign, body, hy, hr⟩ := hY D w h4.dom hJ (fun p hp => lt_of_some (h4.box p hp).1) h5
  have e : xs.map a.eval = vs.toArray := by rw [← evs_eval (fun _ _ hx => hh.eval hx) hxs, ← Array.toList_map]
  have hrun : (execOp a.eval ⟨some d, .call { callee := .value c, args := xs, argTypes := ats }, ty, pos, aft, g⟩).run P w = .ok (.round l fn tmps assign body) w := by
    simp only [execOp, resolve, hh.eval hc, Deferred.ofValue, pure_bind, invoke, e]
    rw [← hy]; simp
  rw [hrun]
  refine ⟨fun h => by simp [FW] at h, (roundIn_FW hr).mono ?_⟩
  rintro e' w' ⟨b, D', rfl, hd', hh', hb⟩
  have hst : Sta X.h0 X.lo X.D0 X.mods μ D' w' := by
    refine ⟨h4.hlo, hd'.2.1, (fun b hb => by rw [h0] at hb; exact absurd hb (Nat.not_lt_zero _)), (fun b hb => by rw [h0] at hb; exact absurd hb (Nat.not_lt_zero _)), hd'.1, fun p hp => ?_, h4.nd, fun b o hb => hd'.2.2 b o (hb.resolve_right (by rw [hm]; simp)), fun e he => by rw [h0] at he; cases he⟩
    obtain ⟨p1, p2, p3⟩ := h4.box p hp
    obtain ⟨q1, q2⟩ := hh'.2.2 p.1 (List.mem_map.2 ⟨p, hp, rfl⟩)
    exact ⟨q1.trans p1, q2.trans p2, p3⟩
  have hds : ∀ D₁ ∈ Ds, Le D₁ D' := fun D₁ hD₁ => (h5 D₁ hD₁).trans hh'.2.1
  refine ⟨(fun h => by rw [hfl] at h; cases h), ?_⟩
  cases b with
  | true =>
    refine k1 _ _ (Hl.put (X := X.withEx J1) ⟨h1, h2, h3, D', hst, hds, ⟨hs1, hb⟩⟩ hN _)
  | false =>
    refine k0 _ _ (Hl.put (X := X.withEx J0) ⟨h1, h2, h3, D', hst, hds, ⟨hs0, hb⟩⟩ hN _)

/-! ### Functions that call yield -/
def Xj (N lo : Nat) (J : Inv) : Cx := ⟨none, N, [], ⟨#[], none⟩, lo, fun _ => [], [], some J⟩

/-- The world as such a function finds it, and leaves it. -/
def SJ (lo : Nat) (J : Inv) (μ : Boxes) (Ds : List Data) (w : World) : Prop :=
  ∃ D, Sta ⟨#[], none⟩ lo (fun _ => []) [] μ D w ∧ (∀ D₁ ∈ Ds, Le D₁ D) ∧ exOk (Xj 0 lo J) μ D w

/-- What a call of such a function comes to. -/
def FnJ (P : Program) (f : FuncId) (args : List Value) (lo : Nat) (J : Inv) (μ : Boxes) (Ds : List Data) (post : Value → Inv → Boxes → Prop) : Prop :=
  EF P f ∧ ∀ w, SJ lo J μ Ds w → Calls P f args.toArray w fun e w' => ∃ v J' μ', e = .returned v ∧ SJ lo J' μ' Ds w' ∧ post v J' μ'

def PostJ (lo : Nat) (Ds : List Data) (post : Value → Inv → Boxes → Prop) : Ending → World → Prop := fun e w' => ∃ v J' μ', e = .returned v ∧ SJ lo J' μ' Ds w' ∧ post v J' μ'

theorem np_bodyJ {fn : Func} {lo : Nat} {post : Value → Inv → Boxes → Prop} : NP (bodyPost P fn (PostJ lo Ds post)) := by
  rintro c a w ⟨_, v, D', μ', h, _⟩
  cases h

theorem enterJ {f : FuncId} {fn : Func} {c : Code} {args : List Value} {lo : Nat} {J : Inv} {post : Value → Inv → Boxes → Prop} (N : Nat) (hf : P.funcs[f]? = some fn) (hn : (fn.name == "runtime.NumGoroutine") = false) (hb : fn.body = some c) (hN : fn.ntmps = N) (hsz : Nat.ble args.length N = true)
    (h : WC P (Xj N lo J) (bodyPost P fn (PostJ lo Ds post)) c (slotsOf 0 args) μ Ds) : FnJ P f args lo J μ Ds post := by
  refine ⟨EF.of hf hn hb, fun w hw => ?_⟩
  subst hN
  have hsz := Nat.le_of_ble_eq_true hsz
  obtain ⟨D, hs, hds, hex⟩ := hw
  refine (callsIn_FW (r := none) (n := 0)).1 (callsIn_of_wp (R := PostJ lo Ds post) hf hb trivial (h _ w ⟨?_, (fun s v hs => ?_), rfl, D, hs, hds, hex⟩) rfl)
  · simp [Xj]; omega
  · obtain ⟨_, h2⟩ := look_slotsOf args 0 s v hs
    have hl := (List.getElem?_eq_some_iff.1 h2).1
    simp only [Nat.sub_zero] at h2 hl
    show (args.toArray ++ _)[s]? = some v
    rw [Array.getElem?_append_left (by simpa using hl)]
    simpa using h2

theorem leaveJ {fn : Func} {lo N : Nat} {J : Inv} {post : Value → Inv → Boxes → Prop} {e : Exit} (he : (match e with | .normal => true | .ret => true | _ => false) = true) {rs : List ResultVar} {vs : List Value} (hr : fn.results = rs.toArray) (h : ResV P (Xj N lo J) σ μ rs vs)
    {Ds' : List Data} (hD : ∀ D ∈ Ds', ∃ D' ∈ Ds, Le D D') (hp : post (resOf vs) J μ) : ∀ a w, Hl (Xj N lo J) σ μ Ds a w → bodyPost P fn (PostJ lo Ds' post) e a w := by
  intro a w hh
  have hrun := run_results hh hr h
  obtain ⟨h1, h2, h3, D, h4, h5, h6⟩ := hh
  have : a.defers = [] ∧ ∃ v, (results fn a.tmps).run P w = .ok v w ∧ PostJ lo Ds' post (.returned v) w := ⟨h3, _, hrun, _, J, μ, rfl, ⟨D, h4, (fun D₁ h => by obtain ⟨D2, hm, hle⟩ := hD D₁ h; exact hle.trans (h5 D2 hm)), h6⟩, hp⟩
  cases e <;> first | exact this | cases he

/-- A call of such a function, in one. -/
theorem L.callJ {J : Inv} {N lo : Nat} {c : Operand} {xs : Array Operand} {ats : Array TypeId} {f : FuncId} {c1 c2 vs : List Value} {post : Value → Inv → Boxes → Prop} (ho : all[ix]? = some ⟨some d, .call { callee := .value c, args := xs, argTypes := ats }, ty, pos, aft, g⟩)
    (hc : ev σ c = some (.func (.func f) c1.toArray c2.toArray)) (hxs : evs σ xs.toList = some vs) (hfl : fl = false)
    (hf : FnJ P f (c1 ++ vs ++ c2) lo J μ Ds post) (hN : Nat.blt d N = true) (hg : Gok all σ g)
    (kk : ∀ v J' μ', post v J' μ' → WL P (Xj N lo J') bad all K Q os ((d, v) :: σ) μ' Ds) : WL P (Xj N lo J) bad all K Q ((fl, ix) :: os) σ μ Ds := by
  refine L.loud ho rfl rfl hg fun a w hh => ?_
  obtain ⟨h1, h2, h3, D, h4, h5, h6⟩ := id hh
  rw [run_call hf.1 (hh.eval hc) (evs_eval (fun _ _ hx => hh.eval hx) hxs)]
  refine ⟨fun h => by simp [FW] at h, callsIn_FW.2 ((hf.2 w ⟨D, h4, h5, h6⟩).mono ?_)⟩
  rintro e w' ⟨v, J', μ', rfl, ⟨D', hs, hds, hex⟩, hpost⟩
  exact ⟨(fun h => by rw [hfl] at h; cases h), kk v J' μ' hpost _ _ (Hl.put (X := Xj N lo J') ⟨h1, h2, h3, D', hs, hds, hex⟩ hN v)⟩

/-! ### The statement -/
/-- What a function is worth that is ranged over: it hands over the elements of xs one after the other, as long as it is told to go on. -/
def IterOK {α : Type} (P : Program) (f : FuncId) (cap : List Value) (Dr : Data) (xs : List α) (enc : α → List Value) : Prop :=
  EF P f ∧ ∀ (lo l : Nat) (J Jx : List α → Inv), (∀ pre, Stb lo (J pre)) → (∀ pre, Stb lo (Jx pre)) →
    (∀ pre x β D w, (∃ r, xs = pre ++ x :: r) → Dom lo D w → J pre β D w → (∀ b ∈ β, b < w.heap.size) → Le Dr D →
      YieldRuns P l (enc x) w fun b D' w' => Dom lo D' w' ∧ High β D w D' w' ∧ (if b then J (pre ++ [x]) β D' w' else Jx (pre ++ [x]) β D' w')) →
    ∀ D w, Dom lo D w → Le Dr D → J [] [] D w → Calls P f (.func (.yield l) #[] #[] :: cap).toArray w fun e w' => ∃ v D', e = .returned v ∧ Dom lo D' w' ∧ (J xs [] D' w' ∨ ∃ pre, Jx pre [] D' w')

/-- What the loop's owner knows between two rounds. -/
def Own {γ : Type} (h0 : H0) (lo : Nat) (D0 : Data) (mods : List Nat) (Ds : List Data) (Φ : γ → Prop) (Mx : γ → Boxes) : Inv := fun β D w =>
  ∃ g, Φ g ∧ Sta h0 lo D0 mods (Mx g) D w ∧ (∀ D₁ ∈ Ds, Le D₁ D) ∧ (∀ b ∈ β, h0.size ≤ b ∧ ∀ D₁ ∈ Ds, D₁ b = []) ∧ ∀ p ∈ Mx g, p.1 ∉ β

theorem own_stb {γ : Type} {h0 : H0} {lo : Nat} {D0 : Data} {Ds : List Data} {Φ : γ → Prop} {Mx : γ → Boxes} : Stb lo (Own h0 lo D0 [] Ds Φ Mx) := by
  constructor
  · rintro β D w D' w' ⟨g, hg, hs, hD, hβ, hM⟩ ⟨hl1, hl2, hl3⟩ hd
    refine ⟨g, hg, ⟨hs.hlo, hd.2.1, fun b hb hm => ?_, fun b hb => ?_, hd.1, fun p hp => ?_, hs.nd, fun b o hb ho => hd.2.2 b o (hb.resolve_right (by simp)) ho, fun e he => hl3.trans (hs.env e he)⟩, fun D₁ hD₁ b => ?_, hβ, hM⟩
    · have hlt : b < w.heap.size := by have := hs.hlo; have := hs.size; omega
      have hn : b ∉ β := fun h => by have := (hβ b h).1; omega
      rw [(hl2 b hlt hn).1]; exact hs.old b hb hm
    · have hlt : b < w.heap.size := by have := hs.hlo; have := hs.size; omega
      have hn : b ∉ β := fun h => by have := (hβ b h).1; omega
      rw [(hl2 b hlt hn).2]; exact hs.dold b hb
    · obtain ⟨p1, p2, p3⟩ := hs.box p hp
      obtain ⟨q1, q2⟩ := hl2 p.1 (lt_of_some p1) (hM p hp)
      exact ⟨q1.trans p1, q2.trans p2, p3⟩
    · by_cases hb : b ∈ β
      · rw [(hβ b hb).2 D₁ hD₁]; exact List.nil_prefix
      · by_cases hlt : b < w.heap.size
        · rw [(hl2 b hlt hb).2]; exact hD D₁ hD₁ b
        · have := hD D₁ hD₁ b
          rw [hs.agr.fresh (Nat.le_of_not_lt hlt)] at this
          rw [List.prefix_nil.1 this]; exact List.nil_prefix
  · rintro β β' D w ⟨g, hg, hs, hD, hβ, hM⟩ hb'
    refine ⟨g, hg, hs, hD, fun b hb => ?_, fun p hp hb => ?_⟩
    · rcases hb' b hb with h | h
      · exact hβ b h
      · refine ⟨by have := hs.hlo; have := hs.size; omega, fun D₁ hD₁ => ?_⟩
        have := hD D₁ hD₁ b
        rw [hs.agr.fresh h] at this
        exact List.prefix_nil.1 this
    · rcases hb' _ hb with h | h
      · exact hM p hp h
      · have := lt_of_some (hs.box p hp).1; omega

/-- A round's state, set into the loop owner's. -/
theorem Sta.round {h0 : H0} {lo : Nat} {D0 D D' : Data} {μ μ' : Boxes} {w w' : World} (h : Sta h0 lo D0 [] μ D w) (hs : Sta (hd w) w.heap.size D (μ.map (·.1)) μ' D' w') : Sta h0 lo D0 [] μ' D' w' := by
  have hle := Nat.le_trans h.hlo h.size
  have hkey : ∀ b ∈ μ.map (·.1), lo ≤ b := by
    intro b hb
    obtain ⟨p, hp, rfl⟩ := List.mem_map.1 hb
    exact (h.box p hp).2.2.resolve_right (by simp)
  refine ⟨h.hlo, Nat.le_trans h.size hs.size, fun b hb hm => ?_, fun b hb => ?_, hs.agr, fun p hp => ?_, hs.nd, fun b o hb ho => ?_, fun e he => (hs.env _ rfl).trans (h.env e he)⟩
  · rw [hs.old b (Nat.lt_of_lt_of_le hb hle) (fun hk => by have := hkey b hk; have := h.hlo; omega)]; exact h.old b hb hm
  · rw [hs.dold b (Nat.lt_of_lt_of_le hb hle)]; exact h.dold b hb
  · obtain ⟨p1, p2, p3⟩ := hs.box p hp
    refine ⟨p1, p2, Or.inl ?_⟩
    rcases p3 with p3 | p3
    · have := h.size; omega
    · exact hkey _ p3
  · have hb := hb.resolve_right (by simp)
    by_cases hk : b ∈ μ.map (·.1)
    · exact hs.fz b o (Or.inr hk) ho
    · rcases Nat.lt_or_ge b w.heap.size with hl | hl
      · rw [hs.old b hl hk] at ho; exact h.fz b o (Or.inl hb) ho
      · exact hs.fz b o (Or.inl hl) ho

theorem Sta.roundHigh {D D' : Data} {w w' : World} {μ μ' : Boxes} {β : List Nat} (hw : Agrees D w) (hs : Sta (hd w) w.heap.size D (μ.map (·.1)) μ' D' w') (hβ : ∀ b ∈ β, b < w.heap.size) (hM : ∀ p ∈ μ, p.1 ∉ β) : High β D w D' w' := by
  refine ⟨hs.size, le_of_call hw hs, fun b hb => ⟨hs.old b (hβ b hb) (fun hk => ?_), hs.dold b (hβ b hb)⟩⟩
  obtain ⟨p, hp, rfl⟩ := List.mem_map.1 hk
  exact hM p hp hb

def markOf (bd : Nat) : Deferred := { target := .collected bd, args := #[] }
def Cx.withDs (X : Cx) (bd : Nat) : Cx := { X with ds := markOf bd :: X.ds }

/-- The frame of a round. -/
def Xr (l N : Nat) (h0 : H0) (D : Data) (mods : List Nat) : Cx := ⟨some l, N, [], h0, h0.size, D, mods, none⟩

/-- What a round ends in. -/
def RoundR {γ : Type} (h0 : H0) (D : Data) (mods : List Nat) (Φ : γ → Prop) (Ψ : Code → γ → Prop) (Mx : γ → Boxes) (My : Code → γ → Boxes) : Ending → World → Prop := fun e w' =>
  ∃ b D', e = .returned (.bool b) ∧ (if b then ∃ g, Φ g ∧ Sta h0 h0.size D mods (Mx g) D' w' else ∃ c g, Ψ c g ∧ Sta h0 h0.size D mods (My c g) D' w')

theorem np_round {l : Nat} {R : Ending → World → Prop} : NP (roundPost P l R) := fun _ _ _ h => h

/-- Behind the assignments to the loop's left sides: the round begins. -/
theorem C.begin {c : Code} {A B : Boxes} {l : Nat} {r : Loop} {QQ : Exit → Act → World → Prop} (hr : X.r = some l) (hst : r.state = .ready) (h : WC P X Q c σ (A ++ (l, .loop { r with state := .busy }) :: B) Ds) :
    ∀ a w, Hl X σ (A ++ (l, .loop r) :: B) Ds a w → Exit.then (fun a₁ w₁ => ∃ w₂, (Instr.beginRound l).run P w₁ = .ok () w₂ ∧ c.wpIn ((FW none).inRound l) 0 P Q a₁ w₂) QQ .normal a w := by
  intro a w hh
  obtain ⟨h1, h2, h3, D, h4, h5, h6⟩ := hh
  have hb := (h4.box (l, .loop r) (by simp)).1
  refine ⟨_, run_beginRound hb hst, ?_⟩
  have hHas : Has (A ++ (l, .loop r) :: B) l (.loop r) (.loop { r with state := .busy }) (A ++ (l, .loop { r with state := .busy }) :: B) := .app .head
  have hs := h4.set (w' := w.putObj l (.loop { r with state := .busy })) hHas ⟨rfl, rfl⟩ trivial
  have := h a _ ⟨h1, h2, h3, D, hs, h5, h6.step (fun _ p hp => Or.inl (by rw [← hHas.keys]; exact List.mem_map.2 ⟨p, hp, rfl⟩)) (fun _ => low_set ⟨rfl, rfl⟩ (List.mem_map.2 ⟨_, hHas.mem, rfl⟩)) hs.dom⟩
  rw [hr] at this
  exact this

/-- A round's end: on. -/
theorem C.roundOn {γ : Type} {A B : Boxes} {l : Nat} {r : Loop} {Φ : γ → Prop} {Ψ : Code → γ → Prop} {Mx : γ → Boxes} {My : Code → γ → Boxes} (g : γ) (hΦ : Φ g) (hM : Mx g = A ++ (l, .loop { r with state := .ready, pending := none }) :: B) (hlo : X.lo = X.h0.size) :
    ∀ a w, Hl X σ (A ++ (l, .loop r) :: B) Ds a w → roundPost P l (RoundR X.h0 X.D0 X.mods Φ Ψ Mx My) .normal a w := by
  intro a w hh
  obtain ⟨h1, h2, h3, D, h4, h5, h6⟩ := hh
  have hb := (h4.box (l, .loop r) (by simp)).1
  refine ⟨_, _, run_endRound none hb, true, D, rfl, g, hΦ, ?_⟩
  have hHas : Has (A ++ (l, .loop r) :: B) l (.loop r) (.loop { r with state := .ready, pending := none }) (A ++ (l, .loop { r with state := .ready, pending := none }) :: B) := .app .head
  have hs := h4.set (w' := w.putObj l (.loop { r with state := .ready, pending := none })) hHas ⟨rfl, rfl⟩ trivial
  rw [hM, ← hlo]; exact hs

theorem roundOff {γ : Type} {A B : Boxes} {l : Nat} {r : Loop} {Φ : γ → Prop} {Ψ : Code → γ → Prop} {Mx : γ → Boxes} {My : Code → γ → Boxes} (c : Code) (g : γ) (hΨ : Ψ c g) (hM : My c g = A ++ (l, .loop { r with state := .done, pending := some c }) :: B) (hlo : X.lo = X.h0.size) :
    ∀ a w, Hl X σ (A ++ (l, .loop r) :: B) Ds a w → ∃ v w', (Instr.endRound l (some c)).run P w = .ok v w' ∧ RoundR X.h0 X.D0 X.mods Φ Ψ Mx My (.returned v) w' := by
  intro a w hh
  obtain ⟨h1, h2, h3, D, h4, h5, h6⟩ := hh
  have hb := (h4.box (l, .loop r) (by simp)).1
  refine ⟨_, _, run_endRound (some c) hb, false, D, rfl, c, g, hΨ, ?_⟩
  have hHas : Has (A ++ (l, .loop r) :: B) l (.loop r) (.loop { r with state := .done, pending := some c }) (A ++ (l, .loop { r with state := .done, pending := some c }) :: B) := .app .head
  have hs := h4.set (w' := w.putObj l (.loop { r with state := .done, pending := some c })) hHas ⟨rfl, rfl⟩ trivial
  rw [hM, ← hlo]; exact hs


/-- The loop variables' slots, as yield is called. -/
def parSlots : List Tmp → List Value → Slots → Slots
  | p :: ps, v :: vs, σ => parSlots ps vs ((p, v) :: σ)
  | _, _, σ => σ

theorem look_par : ∀ (ps : List Tmp) (vs : List Value) (tmps : Array Value) (σ : Slots), (∀ s v, look σ s = some v → tmps[s]? = some v) → (∀ p ∈ ps, p < tmps.size) →
    ∀ s v, look (parSlots ps vs σ) s = some v → ((ps.zip vs).foldl (fun tmps (p : Tmp × Value) => tmps.setIfInBounds p.1 p.2) tmps)[s]? = some v
  | [], vs, tmps, σ, h, _, s, v, hs => by cases vs <;> exact h s v hs
  | p :: ps, [], tmps, σ, h, _, s, v, hs => h s v hs
  | p :: ps, u :: vs, tmps, σ, h, hp, s, v, hs => by
    refine look_par ps vs (tmps.setIfInBounds p u) ((p, u) :: σ) (fun s v hs => ?_) (fun q hq => by simpa using hp q (List.mem_cons_of_mem _ hq)) s v hs
    simp only [look] at hs
    cases hb : Nat.beq p s with
    | true => rw [hb] at hs; cases hs; obtain rfl := Nat.eq_of_beq_eq_true hb; rw [Array.getElem?_setIfInBounds_self_of_lt (hp p List.mem_cons_self)]
    | false => rw [hb] at hs; rw [Array.getElem?_setIfInBounds_ne (fun e => by subst e; simp at hb)]; exact h s v hs

theorem size_par : ∀ (l : List (Tmp × Value)) (tmps : Array Value), (l.foldl (fun tmps (p : Tmp × Value) => tmps.setIfInBounds p.1 p.2) tmps).size = tmps.size
  | [], _ => rfl
  | p :: l, tmps => by rw [List.foldl_cons, size_par l]; simp

/-- **THE STATEMENT 'for .. := range g { .. }'**, outermost in its function. -/
theorem C.rangeFunc {α γ : Type} {xs : List α} {enc : α → List Value} {Dr : Data} {f : FuncId} {cap : List Value} {gop : Operand} {ps : Array Tmp} {assign body : Code}
    (Φ : List α → γ → Prop) (Ψ : List α → Code → γ → Prop) (M : γ → Boxes) (g₀ : γ) (hr : X.r = none) (hex : X.ex = none) (hmods : X.mods = [])
    (hg : ev σ gop = some (.func (.func f) #[] cap.toArray)) (hit : IterOK P f cap Dr xs enc) (hDr : Dr ∈ Ds) (hps : ∀ x, (enc x).length = ps.size) (hpN : (ps.toList.all fun p => Nat.blt p X.N) = true) (h₀ : Φ [] g₀) (hμ : M g₀ = μ)
    (hround : ∀ pre x g, (∃ r, xs = pre ++ x :: r) → Φ pre g → ∀ (l bd : Nat) (rec : Loop) (h0 : H0) (D : Data), (∀ D₁ ∈ Ds, Le D₁ D) → rec.state = .ready → rec.pending = none →
      WC P (Xr l X.N h0 D ((M g ++ (l, Obj.loop rec) :: [(bd, Obj.deferred (some []))]).map (·.1)))
        (Exit.then (fun a₁ w₁ => ∃ w₂, (Instr.beginRound l).run P w₁ = .ok () w₂ ∧ body.wpIn ((FW none).inRound l) 0 P (roundPost P l (RoundR h0 D ((M g ++ (l, Obj.loop rec) :: [(bd, Obj.deferred (some []))]).map (·.1)) (Φ (pre ++ [x])) (Ψ (pre ++ [x]))
          (fun g => M g ++ (l, Obj.loop { rec with state := .ready, pending := none }) :: [(bd, Obj.deferred (some []))]) (fun c g => M g ++ (l, Obj.loop { rec with state := .done, pending := some c }) :: [(bd, Obj.deferred (some []))]))) a₁ w₂) (fun _ _ _ => False))
        assign (parSlots ps.toList (enc x) σ) (M g ++ (l, Obj.loop rec) :: [(bd, Obj.deferred (some []))]) (D :: Ds))
    (hdone : ∀ g bd, Φ xs g → ∀ a w, Hl (X.withDs bd) σ (M g ++ [(bd, Obj.deferred (some []))]) Ds a w → Q .normal a w)
    (hstop : ∀ pre c g bd, Ψ pre c g → WC P (X.withDs bd) Q c σ (M g ++ [(bd, Obj.deferred (some []))]) Ds) : WC P X Q (.rangeFunc gop ps assign body) σ μ Ds := by
  intro a w hh
  subst hμ
  have hev := hh.eval hg
  obtain ⟨h1, h2, h3, D, h4, h5, h6⟩ := hh
  rw [hmods] at h4
  refine wpIn_rangeFunc fun fn _ => ?_
  have hround' : (FW X.r).round = none := hr
  rw [hround']
  let bd := w.heap.size
  let l := w.heap.size + 1
  let rec0 : Loop := { state := .ready, pending := none, fn, tmps := a.tmps, params := ps, assign, body, defers := bd }
  let w1 : World := { w with heap := w.heap.push (.deferred (some [])) }
  let w2 : World := { w1 with heap := w1.heap.push (.loop rec0) }
  have hs1 : Sta X.h0 X.lo X.D0 [] ((bd, Obj.deferred (some [])) :: M g₀) D w1 := h4.push (.deferred (some [])) trivial
  have hs2 : Sta X.h0 X.lo X.D0 [] ((l, Obj.loop rec0) :: (bd, Obj.deferred (some [])) :: M g₀) D w2 := by
    have := hs1.push (.loop rec0) trivial
    have e : w1.heap.size = l := by simp [w1, l]
    rw [e] at this; exact this
  have hperm : Sta X.h0 X.lo X.D0 [] (M g₀ ++ (l, Obj.loop rec0) :: [(bd, Obj.deferred (some []))]) D w2 := by
    refine hs2.sub (fun p hp => ?_) ?_
    · simp only [List.mem_append, List.mem_cons, List.not_mem_nil, or_false] at hp ⊢
      rcases hp with hp | hp | hp
      · exact Or.inr (Or.inr hp)
      · exact Or.inl hp
      · exact Or.inr (Or.inl hp)
    · have hn := hs2.nd
      simp only [List.map_cons, List.nodup_cons, List.mem_cons, not_or] at hn
      simp only [List.map_append, List.map_cons, List.map_nil, List.nodup_append, List.nodup_cons, List.mem_cons, List.not_mem_nil, or_false, not_false_eq_true, List.nodup_nil, and_true]
      refine ⟨hn.2.2, hn.1.1, fun q hq r hr' => ?_⟩
      rcases hr' with rfl | rfl
      · rintro rfl; exact hn.1.2 hq
      · rintro rfl; exact hn.2.1 hq
  -- the call
  refine ⟨l, [markOf bd], w2, { target := .fn (.func f) cap.toArray, args := #[.func (.yield l) #[] #[]] }, w2, f, (.func (.yield l) #[] #[] :: cap).toArray, w2, run_enterLoop_outer fn a.tmps ps assign body, ?_, fun _ _ => trivial, ?_, fun h => by simp [FW] at h, ?_⟩
  · simp only [resolve, Deferred.ofValue]
    have e : Array.map a.eval #[Operand.const (Value.func (Fn.yield l) #[] #[])] = #[.func (.yield l) #[] #[]] := by simp [Act.eval]
    rw [e, hev]; rfl
  · simp only [invoke]
    rw [hit.1]; simp
  · refine callsIn_FW.2 ((hit.2 X.lo l
      (fun pre => Own X.h0 X.lo X.D0 [] Ds (Φ pre) fun g => M g ++ (l, Obj.loop rec0) :: [(bd, Obj.deferred (some []))])
      (fun pre => Own X.h0 X.lo X.D0 [] Ds (fun cg : Code × γ => Ψ pre cg.1 cg.2) fun cg => M cg.2 ++ (l, Obj.loop { rec0 with state := .done, pending := some cg.1 }) :: [(bd, Obj.deferred (some []))])
      (fun _ => own_stb) (fun _ => own_stb) ?_ D w2 hs2.dom (h5 Dr hDr) ⟨g₀, h₀, hperm, h5, (fun _ h => by cases h), (fun _ _ h => by cases h)⟩).mono ?_)
    · rintro pre x β Dx wx hx hdx ⟨g, hΦ, hst, hDs, hβ, hM⟩ hβs hle
      have hbox := (hst.box (l, Obj.loop rec0) (by simp)).1
      refine ⟨fn, _, assign, body, run_yield hbox (by simpa using hps x), ?_⟩
      refine (roundIn_of_wpIn (F := FW none) trivial (R := RoundR (hd wx) Dx ((M g ++ (l, Obj.loop rec0) :: [(bd, Obj.deferred (some []))]).map (·.1)) (Φ (pre ++ [x])) (Ψ (pre ++ [x]))
          (fun g => M g ++ (l, Obj.loop { rec0 with state := .ready, pending := none }) :: [(bd, Obj.deferred (some []))]) (fun c g => M g ++ (l, Obj.loop { rec0 with state := .done, pending := some c }) :: [(bd, Obj.deferred (some []))])) ?_).mono ?_
      · have hw := hround pre x g hx hΦ l bd rec0 (hd wx) Dx hDs rfl rfl
        have ht : (ps.zip (enc x).toArray).foldl (fun tmps (t, a) => tmps.setIfInBounds t a) a.tmps = (ps.toList.zip (enc x)).foldl (fun tmps (p : Tmp × Value) => tmps.setIfInBounds p.1 p.2) a.tmps := by
          rw [← Array.foldl_toList]; simp
        have hpN' : ∀ p ∈ ps.toList, p < a.tmps.size := fun p hp => by rw [h1]; simpa [Nat.blt_eq] using List.all_eq_true.1 hpN p hp
        refine hw { tmps := _, defers := [] } wx ⟨?_, fun s v hs => ?_, rfl, Dx, ⟨Nat.le_refl _, Nat.le_refl _, fun _ _ _ => rfl, fun _ _ => rfl, hst.agr, fun p hp => ?_, hst.nd, fun b o hb ho => ?_, fun e he => Option.some.inj he⟩, fun D₁ hD₁ => ?_, trivial⟩
        · show ((ps.zip (enc x).toArray).foldl _ a.tmps).size = X.N
          rw [ht, size_par]; exact h1
        · show ((ps.zip (enc x).toArray).foldl _ a.tmps)[s]? = some v
          rw [ht]; exact look_par _ _ _ _ h2 hpN' s v hs
        · obtain ⟨p1, p2, p3⟩ := hst.box p hp
          exact ⟨p1, p2, Or.inr (List.mem_map.2 ⟨p, hp, rfl⟩)⟩
        · rcases hb with hb | hb
          · exact absurd (lt_of_some ho) (Nat.not_lt_of_le hb)
          · obtain ⟨p, hp, rfl⟩ := List.mem_map.1 hb
            exact hst.fz _ o (Or.inl ((hst.box p hp).2.2.resolve_right (by simp))) ho
        · rcases List.mem_cons.1 hD₁ with rfl | hD₁
          · exact Le.refl _
          · exact hDs D₁ hD₁
      · rintro e w' ⟨b, D', rfl, hb⟩
        have fin : ∀ μ', Sta (hd wx) wx.heap.size Dx ((M g ++ (l, Obj.loop rec0) :: [(bd, Obj.deferred (some []))]).map (·.1)) μ' D' w' → Sta X.h0 X.lo X.D0 [] μ' D' w' ∧ High β Dx wx D' w' ∧ (∀ D₁ ∈ Ds, Le D₁ D') ∧ (∀ p ∈ μ', p.1 ∉ β) := by
          intro μ' hs'
          refine ⟨hst.round hs', Sta.roundHigh hst.agr hs' hβs hM, fun D₁ hD₁ => (hDs D₁ hD₁).trans (le_of_call hst.agr hs'), fun p hp hpb => ?_⟩
          rcases (hs'.box p hp).2.2 with h | h
          · have := hβs _ hpb; omega
          · obtain ⟨q, hq, he⟩ := List.mem_map.1 h
            exact hM q hq (by rw [he]; exact hpb)
        refine ⟨b, D', rfl, ?_⟩
        cases b with
        | true =>
          obtain ⟨g', hg', hs'⟩ := hb
          obtain ⟨f1, f2, f3, f4⟩ := fin _ hs'
          exact ⟨f1.dom, f2, g', hg', f1, f3, hβ, f4⟩
        | false =>
          obtain ⟨c', g', hg', hs'⟩ := hb
          obtain ⟨f1, f2, f3, f4⟩ := fin _ hs'
          exact ⟨f1.dom, f2, (c', g'), hg', f1, f3, hβ, f4⟩
    · rintro e w' ⟨v, D', rfl, hd, hend⟩
      have post : ∀ (g : γ) (r : Loop), Sta X.h0 X.lo X.D0 [] (M g ++ (l, Obj.loop r) :: [(bd, Obj.deferred (some []))]) D' w' → (∀ D₁ ∈ Ds, Le D₁ D') →
          Hl (X.withDs bd) σ (M g ++ [(bd, Obj.deferred (some []))]) Ds { a with defers := [markOf bd] ++ a.defers } (w'.putObj l (.loop { r with state := .exhausted })) := by
        intro g r hs hD'
        have hHas : Has (M g ++ (l, Obj.loop r) :: [(bd, Obj.deferred (some []))]) l (.loop r) (.loop { r with state := .exhausted }) (M g ++ (l, Obj.loop { r with state := .exhausted }) :: [(bd, Obj.deferred (some []))]) := .app .head
        have hs' := hs.set (w' := w'.putObj l (.loop { r with state := .exhausted })) hHas ⟨rfl, rfl⟩ trivial
        have hs'' := hs'.sub (μ' := M g ++ [(bd, Obj.deferred (some []))]) (fun p hp => by
          rcases List.mem_append.1 hp with hp | hp
          · exact List.mem_append_left _ hp
          · exact List.mem_append_right _ (List.mem_cons_of_mem _ hp)) (by
          have hn := hs'.nd
          rw [List.map_append, List.nodup_append] at hn ⊢
          simp only [List.map_cons] at hn
          exact ⟨hn.1, (List.nodup_cons.1 hn.2.1).2, fun q hq r hr => hn.2.2 q hq r (List.mem_cons_of_mem _ hr)⟩)
        exact ⟨h1, h2, congrArg (markOf bd :: ·) h3, D', by show Sta X.h0 X.lo X.D0 X.mods _ _ _; rw [hmods]; exact hs'', hD', by unfold exOk; show (match X.ex with | none => True | some J => _); rw [hex]; trivial⟩
      rcases hend with ⟨g, hΦ, hs, hDs, _, _⟩ | ⟨pre, ⟨c, g⟩, hΨ, hs, hDs, _, _⟩
      · have hb := (hs.box (l, Obj.loop rec0) (by simp)).1
        exact ⟨none, _, run_endLoop hb (by simp [rec0]), hdone g bd hΦ _ _ (post g rec0 hs hDs)⟩
      · have hb := (hs.box (l, Obj.loop { rec0 with state := .done, pending := some c }) (by simp)).1
        refine ⟨some c, _, run_endLoop hb (by simp), ?_⟩
        have := hstop pre c g bd hΨ _ _ (post g _ hs hDs)
        exact this


/-! ### A function that ranges over a function: entering it, and leaving it -/
def BodyM (P : Program) (fn : Func) (R : Ending → World → Prop) : Exit → Act → World → Prop
  | .normal, a, w => LeavesInM (FW none) 0 P fn a.tmps R a.defers .returning w
  | .ret, a, w => LeavesInM (FW none) 0 P fn a.tmps R a.defers .returning w
  | _, _, _ => False

theorem np_bodyM {fn : Func} {R : Ending → World → Prop} : NP (BodyM P fn R) := fun _ _ _ h => h

theorem enterM {f : FuncId} {fn : Func} {c : Code} {args : List Value} {D : Data} {post : Data → Value → Prop} (N : Nat) (hf : P.funcs[f]? = some fn) (hn : (fn.name == "runtime.NumGoroutine") = false) (hb : fn.body = some c) (hN : fn.ntmps = N) (hsz : Nat.ble args.length N = true)
    (h : ∀ h0 : H0, WC P ⟨none, N, [], h0, h0.size, D, [], none⟩ (BodyM P fn (Post ⟨none, N, [], h0, h0.size, D, [], none⟩ fun D' v _ => post D' v)) c (slotsOf 0 args) [] [D]) : Fn P f args.toArray D post := by
  refine ⟨EF.of hf hn hb, fun w hw => ?_⟩
  subst hN
  have hsz := Nat.le_of_ble_eq_true hsz
  have hq : ∀ e a w', BodyM P fn (Post ⟨none, fn.ntmps, [], hd w, w.heap.size, D, [], none⟩ fun D' v _ => post D' v) e a w' → bodyPostM (FW none) 0 P fn (Post ⟨none, fn.ntmps, [], hd w, w.heap.size, D, [], none⟩ fun D' v _ => post D' v) e a w' := by
    intro e a w' he
    cases e <;> first | exact he | exact he.elim
  have hwp := h (hd w) { tmps := args.toArray ++ Array.replicate (fn.ntmps - args.toArray.size) undef, defers := [] } w ⟨by simp; omega, fun s v hs => by
    obtain ⟨_, h2⟩ := look_slotsOf args 0 s v hs
    have hl := (List.getElem?_eq_some_iff.1 h2).1
    simp only [Nat.sub_zero] at h2 hl
    show (args.toArray ++ _)[s]? = some v
    rw [Array.getElem?_append_left (by simpa using hl)]
    simpa using h2, rfl, D, ⟨Nat.le_refl _, Nat.le_refl _, (fun _ _ _ => rfl), (fun _ _ => rfl), hw, (fun p hp => by cases hp), List.nodup_nil, (fun b o hb ho => absurd (lt_of_some ho) (Nat.not_lt_of_le (hb.resolve_right (by simp)))), fun e he => Option.some.inj he⟩, (fun D₁ h1 => by simp only [List.mem_singleton] at h1; subst h1; exact Le.refl _), trivial⟩
  refine (callsIn_FW (r := none) (n := 0)).1 ((callsIn_of_wp_marks hf hb trivial (wpIn_mono hwp hq) rfl).mono ?_)
  rintro e w' ⟨v, D', μ', rfl, hs, hp⟩
  exact ⟨v, D', rfl, hs.sub (by intro p hp; cases hp) List.nodup_nil, hp⟩

theorem leaveM0 {fn : Func} {post : Data → Value → Boxes → Prop} {e : Exit} (he : (match e with | .normal => true | .ret => true | _ => false) = true) {rs : List ResultVar} {vs : List Value} (hds : X.ds = []) (hr : fn.results = rs.toArray) (h : ResV P X σ μ rs vs)
    (hp : ∀ D, (∀ D₁ ∈ Ds, Le D₁ D) → post D (resOf vs) μ) : ∀ a w, Hl X σ μ Ds a w → BodyM P fn (Post X post) e a w := by
  intro a w hh
  have hrun := run_results hh hr h
  obtain ⟨h1, h2, h3, D, h4, h5, h6⟩ := hh
  have : LeavesInM (FW none) 0 P fn a.tmps (Post X post) a.defers .returning w := by
    rw [h3, hds]; exact ⟨_, hrun, _, D, μ, rfl, h4, hp D h5⟩
  cases e <;> first | exact this | cases he

/-- Behind one loop: X is the frame as it was entered. -/
theorem leaveM1 {fn : Func} {bd : Nat} {post : Data → Value → Boxes → Prop} {e : Exit} (he : (match e with | .normal => true | .ret => true | _ => false) = true) {rs : List ResultVar} {vs : List Value} {A : Boxes} (hds : X.ds = []) (hr : fn.results = rs.toArray) (h : ResV P X σ (A ++ [(bd, Obj.deferred none)]) rs vs)
    (hp : ∀ D, (∀ D₁ ∈ Ds, Le D₁ D) → post D (resOf vs) (A ++ [(bd, Obj.deferred none)])) : ∀ a w, Hl (X.withDs bd) σ (A ++ [(bd, Obj.deferred (some []))]) Ds a w → BodyM P fn (Post X post) e a w := by
  intro a w hh
  obtain ⟨h1, h2, h3, D, h4, h5, h6⟩ := hh
  have hHas : Has (A ++ [(bd, Obj.deferred (some []))]) bd (.deferred (some [])) (.deferred none) (A ++ [(bd, Obj.deferred none)]) := .app .head
  have hs := h4.set (w' := w.putObj bd (.deferred none)) hHas ⟨rfl, rfl⟩ trivial
  have hh' : Hl X σ (A ++ [(bd, Obj.deferred none)]) Ds { a with defers := [] } (w.putObj bd (.deferred none)) :=
    ⟨h1, h2, hds.symm, D, hs, h5, h6.step (X := X.withDs bd) (fun _ p hp => Or.inl (by rw [← hHas.keys]; exact List.mem_map.2 ⟨p, hp, rfl⟩)) (fun _ => low_set ⟨rfl, rfl⟩ (List.mem_map.2 ⟨_, hHas.mem, rfl⟩)) hs.dom⟩
  have hrun := run_results hh' hr h
  have hb := (h4.box (bd, Obj.deferred (some [])) (by simp)).1
  have : LeavesInM (FW none) 0 P fn a.tmps (Post X post) a.defers .returning w := by
    have h3' : a.defers = [markOf bd] := h3.trans (by show markOf bd :: X.ds = _; rw [hds])
    rw [h3']
    exact ⟨by simp, Or.inl ⟨bd, _, rfl, run_takeDeferred hb, _, hrun, _, D, _, rfl, hs, hp D h5⟩⟩
  cases e <;> first | exact this | cases he

/-! ### Entering an iterator -/
theorem enterIter {α : Type} {f : FuncId} {fn : Func} {c : Code} {cap : List Value} {Dr : Data} {xs : List α} {enc : α → List Value} (N : Nat) (hf : P.funcs[f]? = some fn) (hn : (fn.name == "runtime.NumGoroutine") = false) (hb : fn.body = some c) (hN : fn.ntmps = N) (hsz : Nat.ble (cap.length + 1) N = true)
    (h : ∀ (lo l : Nat) (J Jx : List α → Inv), (∀ pre, Stb lo (J pre)) → (∀ pre, Stb lo (Jx pre)) →
      (∀ pre x β D w, (∃ r, xs = pre ++ x :: r) → Dom lo D w → J pre β D w → (∀ b ∈ β, b < w.heap.size) → Le Dr D →
        YieldRuns P l (enc x) w fun b D' w' => Dom lo D' w' ∧ High β D w D' w' ∧ (if b then J (pre ++ [x]) β D' w' else Jx (pre ++ [x]) β D' w')) →
      WC P (Xj N lo (J [])) (bodyPost P fn (PostJ lo [Dr] fun _ J' _ => J' = J xs ∨ ∃ pre, J' = Jx pre)) c (slotsOf 0 (.func (.yield l) #[] #[] :: cap)) [] [Dr]) : IterOK P f cap Dr xs enc := by
  refine ⟨EF.of hf hn hb, fun lo l J Jx hs hsx hY D w hd hle hJ => ?_⟩
  have hF := enterJ (μ := []) N hf hn hb hN (by simpa using hsz) (h lo l J Jx hs hsx hY)
  refine (hF.2 w ⟨D, ⟨Nat.zero_le _, hd.2.1, fun b hb => absurd hb (Nat.not_lt_zero _), fun b hb => absurd hb (Nat.not_lt_zero _), hd.1, (fun p hp => by cases hp), List.nodup_nil, fun b o hb ho => hd.2.2 b o (hb.resolve_right (by simp)) ho, fun e he => by cases he⟩, fun D₁ h1 => ?_, hs [], hJ⟩).mono ?_
  · simp only [List.mem_singleton] at h1; subst h1; exact hle
  · rintro e w' ⟨v, J', μ', rfl, ⟨D', hst, hds, hex⟩, hpost⟩
    refine ⟨v, D', rfl, hst.dom, ?_⟩
    have hJ' : J' [] D' w' := hex.1.own _ [] D' w' hex.2 (fun b hb => by cases hb)
    rcases hpost with rfl | ⟨pre, rfl⟩
    · exact Or.inl hJ'
    · exact Or.inr ⟨pre, hJ'⟩

end Go.Fs
