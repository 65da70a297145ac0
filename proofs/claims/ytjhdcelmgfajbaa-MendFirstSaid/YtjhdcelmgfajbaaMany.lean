/- Calls that change some of the caller's own blocks. -/
import Derived.Test.YtjhdcelmgfajbaaOwn
namespace Go.Fs

variable {P : Program} {X : Cx} {γb : Type} [Membership Nat γb] {bad : γb} {all : Array Oper} {K : Act → World → Prop} {Q : Exit → Act → World → Prop}
variable {σ : Slots} {μ : Boxes} {Ds : List Data} {os : List (Bool × Nat)} {fl : Bool} {ix : Nat}
variable {d : Nat} {x y z : Operand} {u v : Value} {ty : TypeId} {pos : String} {aft : Array Edge} {g : Option (Nat × Bool)}

abbrev Boxes.ks (μ : Boxes) : List Nat := μ.map fun p => p.1
/-- What a call comes to that may change some blocks besides the new ones. -/
def FnM (P : Program) (f : FuncId) (args : List Value) (D : Data) (ν : Boxes) (post : Data → Value → Boxes → Prop) : Prop :=
  EF P f ∧ ∀ w, Agrees D w → (∀ p ∈ ν, w.heap[p.1]? = some p.2 ∧ D p.1 = [] ∧ unfrozen p.2) → ν.ks.Nodup → Calls P f args.toArray w fun e w' => ∃ v D' ν', e = .returned v ∧ ν'.ks = ν.ks ∧ Sta (hd w) w.heap.size D ν.ks ν' D' w' ∧ post D' v ν'

theorem Sta.afterM {h0 : H0} {lo : Nat} {D0 D D' : Data} {mods : List Nat} {A B ν ν' : Boxes} {w w' : World} (h : Sta h0 lo D0 mods (A ++ ν ++ B) D w) (hk : ν'.ks = ν.ks) (hs : Sta (hd w) w.heap.size D ν.ks ν' D' w') : Sta h0 lo D0 mods (A ++ ν' ++ B) D' w' := by
  have hle := Nat.le_trans h.hlo h.size
  have hin : ∀ c ∈ ν.ks, ∃ o, (c, o) ∈ ν := fun c hc => by
    obtain ⟨p, hp, rfl⟩ := List.mem_map.1 hc
    exact ⟨p.2, hp⟩
  have hbx : ∀ p ∈ ν, _ := fun p hp => h.box p (List.mem_append_left _ (List.mem_append_right _ hp))
  have hnd := h.nd
  simp only [List.map_append] at hnd
  have keys : (A ++ ν' ++ B).map (fun p => p.1) = (A ++ ν ++ B).map (fun p => p.1) := by
    simp only [List.map_append]
    rw [show ν'.map (fun p => p.1) = ν.map (fun p => p.1) from hk]
  refine ⟨h.hlo, Nat.le_trans h.size hs.size, fun c hc hm => ?_, fun c hc => ?_, hs.agr, fun p hp => ?_, by rw [keys]; exact h.nd, fun c q hc hq => ?_, fun e he => (hs.env _ rfl).trans (h.env e he)⟩
  · have hne : c ∉ ν.ks := by
      intro hcm
      obtain ⟨o, ho⟩ := hin c hcm
      rcases (hbx _ ho).2.2 with h' | h'
      · have := h.hlo; simp at h'; omega
      · exact hm h'
    rw [hs.old c (Nat.lt_of_lt_of_le hc hle) hne]; exact h.old c hc hm
  · rw [hs.dold c (Nat.lt_of_lt_of_le hc hle)]; exact h.dold c hc
  · rcases List.mem_append.1 hp with hp | hp
    · rcases List.mem_append.1 hp with hp | hp
      · obtain ⟨h1, h2, h3⟩ := h.box p (List.mem_append_left _ (List.mem_append_left _ hp))
        have hl := lt_of_some h1
        have hne : p.1 ∉ ν.ks := fun hm => (List.nodup_append.1 (List.nodup_append.1 hnd).1).2.2 p.1 (List.mem_map.2 ⟨p, hp, rfl⟩) p.1 hm rfl
        exact ⟨by rw [hs.old _ hl hne]; exact h1, by rw [hs.dold _ hl]; exact h2, h3⟩
      · obtain ⟨q1, q2, _⟩ := hs.box p hp
        have hm : p.1 ∈ ν.ks := by rw [← hk]; exact List.mem_map.2 ⟨p, hp, rfl⟩
        obtain ⟨o, ho⟩ := hin p.1 hm
        exact ⟨q1, q2, (hbx _ ho).2.2⟩
    · obtain ⟨h1, h2, h3⟩ := h.box p (List.mem_append_right _ hp)
      have hl := lt_of_some h1
      have hne : p.1 ∉ ν.ks := fun hm => (List.nodup_append.1 hnd).2.2 p.1 (List.mem_append_right _ hm) p.1 (List.mem_map.2 ⟨p, hp, rfl⟩) rfl
      exact ⟨by rw [hs.old _ hl hne]; exact h1, by rw [hs.dold _ hl]; exact h2, h3⟩
  · rcases Nat.lt_or_ge c w.heap.size with hl | hl
    · by_cases he : c ∈ ν.ks
      · exact hs.fz c q (Or.inr he) hq
      · rw [hs.old c hl he] at hq; exact h.fz c q hc hq
    · exact hs.fz c q (Or.inl hl) hq

theorem L.callM {c : Operand} {xs : Array Operand} {ats : Array TypeId} {f : FuncId} {c1 c2 : List Value} {vs : List Value} {A B ν : Boxes} {post : Data → Value → Boxes → Prop} (ho : all[ix]? = some ⟨some d, .call { callee := .value c, args := xs, argTypes := ats }, ty, pos, aft, g⟩) (hc : ev σ c = some (.func (.func f) c1.toArray c2.toArray)) (hxs : evs σ xs.toList = some vs)
    (hex : X.ex = none) (hfl : fl = false ∨ ∀ p ∈ ν, p.1 ∈ bad) (hu : ∀ p ∈ ν, unfrozen p.2) (hf : ∀ D, (∀ D₁ ∈ Ds, Le D₁ D) → FnM P f (c1 ++ vs ++ c2) D ν post) (hN : Nat.blt d X.N = true) (hg : Gok all σ g)
    (kk : ∀ v D ν', (∀ D₁ ∈ Ds, Le D₁ D) → post D v ν' → WL P X bad all K Q os ((d, v) :: σ) (A ++ ν' ++ B) (D :: Ds)) :
    WL P X bad all K Q ((fl, ix) :: os) σ (A ++ ν ++ B) Ds := by
  refine L.loud ho rfl rfl hg fun a w hh => ?_
  obtain ⟨h1, h2, h3, D, h4, h5, h6⟩ := id hh
  have hF := hf D h5
  have hbx : ∀ p ∈ ν, _ := fun p hp => h4.box p (List.mem_append_left _ (List.mem_append_right _ hp))
  have hnd := h4.nd
  simp only [List.map_append] at hnd
  rw [run_call hF.1 (hh.eval hc) (evs_eval (fun _ _ hx => hh.eval hx) hxs)]
  refine ⟨fun h => by simp [FW] at h, callsIn_FW.2 ((hF.2 w h4.agr (fun p hp => ⟨(hbx p hp).1, (hbx p hp).2.1, hu p hp⟩) (List.nodup_append.1 (List.nodup_append.1 hnd).1).2.1).mono ?_)⟩
  rintro e w' ⟨v, D', ν', rfl, hk, hs, hpost⟩
  have hle := le_of_call h4.agr hs
  refine ⟨fun hflt => ⟨hs.size, fun c hc hcb => hs.old c hc (fun hm => ?_)⟩, kk v D' ν' (fun D₁ hD₁ => (h5 D₁ hD₁).trans hle) hpost _ _ ?_⟩
  · obtain ⟨p, hp, rfl⟩ := List.mem_map.1 hm
    rcases hfl with h | h
    · rw [hflt] at h; cases h
    · exact hcb (h p hp)
  · refine Hl.put ⟨h1, h2, h3, D', h4.afterM hk hs, fun D₁ hD₁ => ?_, by unfold exOk; rw [hex]; trivial⟩ hN v
    rcases List.mem_cons.1 hD₁ with rfl | hD₁
    · exact Le.refl _
    · exact (h5 D₁ hD₁).trans hle

theorem L.callMA {c : Operand} {xs : Array Operand} {ats : Array TypeId} {f : FuncId} {c1 c2 : List Value} {vs : List Value} {A ν : Boxes} {post : Data → Value → Boxes → Prop} (ho : all[ix]? = some ⟨some d, .call { callee := .value c, args := xs, argTypes := ats }, ty, pos, aft, g⟩) (hc : ev σ c = some (.func (.func f) c1.toArray c2.toArray)) (hxs : evs σ xs.toList = some vs)
    (hex : X.ex = none) (hfl : fl = false ∨ ∀ p ∈ ν, p.1 ∈ bad) (hu : ∀ p ∈ ν, unfrozen p.2) (hf : ∀ D, (∀ D₁ ∈ Ds, Le D₁ D) → FnM P f (c1 ++ vs ++ c2) D ν post) (hN : Nat.blt d X.N = true) (hg : Gok all σ g)
    (kk : ∀ v D ν', (∀ D₁ ∈ Ds, Le D₁ D) → post D v ν' → WL P X bad all K Q os ((d, v) :: σ) (A ++ ν') (D :: Ds)) :
    WL P X bad all K Q ((fl, ix) :: os) σ (A ++ ν) Ds := by
  have := L.callM (A := A) (B := []) ho hc hxs hex hfl hu hf hN hg (fun v D ν' h1 h2 => by rw [List.append_nil]; exact kk v D ν' h1 h2)
  rwa [List.append_nil] at this

/-- Entering such a function. -/
def PostMany (X : Cx) (ks : List Nat) (post : Data → Value → Boxes → Prop) : Ending → World → Prop := fun e w' => ∃ v D' ν', e = .returned v ∧ ν'.ks = ks ∧ Sta X.h0 X.lo X.D0 X.mods ν' D' w' ∧ post D' v ν'
theorem np_bodyMany {fn : Func} {ks : List Nat} {post : Data → Value → Boxes → Prop} : NP (bodyPost P fn (PostMany X ks post)) := by
  rintro c a w ⟨_, v, D', μ', h, _⟩
  cases h
def XMany (N : Nat) (h0 : H0) (D : Data) (ks : List Nat) : Cx := ⟨none, N, [], h0, h0.size, D, ks, none⟩
theorem enterMany {f : FuncId} {fn : Func} {c : Code} {args : List Value} {D : Data} {ν : Boxes} {post : Data → Value → Boxes → Prop} (N : Nat) (hf : P.funcs[f]? = some fn) (hn : (fn.name == "runtime.NumGoroutine") = false) (hb : fn.body = some c) (hN : fn.ntmps = N) (hsz : Nat.ble args.length N = true)
    (h : ∀ h0 : H0, (∀ p ∈ ν, p.1 < h0.size) → ν.ks.Nodup → WC P (XMany N h0 D ν.ks) (bodyPost P fn (PostMany (XMany N h0 D ν.ks) ν.ks post)) c (slotsOf 0 args) ν [D]) : FnM P f args D ν post := by
  refine ⟨EF.of hf hn hb, fun w hw hν hnd => ?_⟩
  subst hN
  have hsz := Nat.le_of_ble_eq_true hsz
  refine (callsIn_FW (r := none) (n := 0)).1 ((callsIn_of_wp (R := PostMany (XMany fn.ntmps (hd w) D ν.ks) ν.ks post) hf hb trivial (h (hd w) (fun p hp => lt_of_some (hν p hp).1) hnd _ w ⟨?_, fun s v hs => ?_, rfl, D, ⟨Nat.le_refl _, Nat.le_refl _, fun _ _ _ => rfl, fun _ _ => rfl, hw, (fun p hp => ?_), hnd, fun c q hc hq => ?_, fun e he => Option.some.inj he⟩, fun D₁ h1 => ?_, trivial⟩) rfl).mono ?_)
  · simp [XMany]; omega
  · obtain ⟨_, h2⟩ := look_slotsOf args 0 s v hs
    have hl := (List.getElem?_eq_some_iff.1 h2).1
    simp only [Nat.sub_zero] at h2 hl
    show (args.toArray ++ _)[s]? = some v
    rw [Array.getElem?_append_left (by simpa using hl)]
    simpa using h2
  · exact ⟨(hν p hp).1, (hν p hp).2.1, Or.inr (List.mem_map.2 ⟨p, hp, rfl⟩)⟩
  · rcases hc with hc | hc
    · exact absurd (lt_of_some hq) (Nat.not_lt_of_le hc)
    · obtain ⟨p, hp, rfl⟩ := List.mem_map.1 hc
      rw [(hν p hp).1] at hq; cases hq; exact (hν p hp).2.2
  · simp only [List.mem_singleton] at h1; subst h1; exact Le.refl _
  · rintro e w' ⟨v, D', ν', rfl, hk, hs, hp⟩
    exact ⟨v, D', ν', rfl, hk, hs, hp⟩

theorem leaveMany {fn : Func} {ks : List Nat} {A B ν' : Boxes} {post : Data → Value → Boxes → Prop} {e : Exit} (he : (match e with | .normal => true | .ret => true | _ => false) = true) {rs : List ResultVar} {vs : List Value} (hds : X.ds = []) (hr : fn.results = rs.toArray) (h : ResV P X σ (A ++ ν' ++ B) rs vs)
    (hk : ν'.ks = ks) (hp : ∀ D, (∀ D₁ ∈ Ds, Le D₁ D) → post D (resOf vs) ν') : ∀ a w, Hl X σ (A ++ ν' ++ B) Ds a w → bodyPost P fn (PostMany X ks post) e a w := by
  intro a w hh
  have hrun := run_results hh hr h
  obtain ⟨h1, h2, h3, D, h4, h5, h6⟩ := hh
  have hnd := h4.nd
  simp only [List.map_append] at hnd
  have : a.defers = [] ∧ ∃ v, (results fn a.tmps).run P w = .ok v w ∧ PostMany X ks post (.returned v) w := ⟨h3.trans hds, _, hrun, _, D, ν', rfl, hk, h4.sub (fun p hp => List.mem_append_left _ (List.mem_append_right _ hp)) (List.nodup_append.1 (List.nodup_append.1 hnd).1).2.1, hp D h5⟩
  cases e <;> first | exact this | cases he

end Go.Fs
