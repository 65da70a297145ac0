/- Of the proof of MendPart: W44, BulkY. -/
import Derived.Test.YtjhdcelmgfajbaaZMendPartK
import Derived.Test.YtjhdcelmgfajbaaZMendPartD
import Derived.Test.YtjhdcelmgfajbaaRows
namespace Go.Fs
open Go.Proofs
open C7
section
variable {P : Program} {X : Cx} {γb : Type} [Membership Nat γb] {bad : γb} {all : Array Oper} {K : Act → World → Prop} {Q : Exit → Act → World → Prop}
variable {σ : Slots} {μ : Boxes} {Ds : List Data} {os : List (Bool × Nat)} {fl : Bool} {ix : Nat}
variable {d : Nat} {x y z : Operand} {u v : Value} {ty : TypeId} {pos : String} {aft : Array Edge} {g : Option (Nat × Bool)}
variable {k' : IntKind} {m n : Nat} {t t' : TypeId}
/-- **A CALL** to which a block of the frame's own is lent. -/
theorem L.callLend {c : Operand} {xs : Array Operand} {ats : Array TypeId} {f : FuncId} {c1 c2 : List Value} {vs cs : List Value} {bo : Nat} {e : TypeId} {fz : Nat × Nat} {post : Value → Boxes → Prop} (ho : all[ix]? = some ⟨some d, .call { callee := .value c, args := xs, argTypes := ats }, ty, pos, aft, g⟩) (hc : ev σ c = some (.func (.func f) c1.toArray c2.toArray)) (hxs : evs σ xs.toList = some vs)
    (hbox : (bo, .cells cs.toArray e fz) ∈ μ) (hf : ∀ D, (∀ D₁ ∈ Ds, Le D₁ D) → At D bo 0 cs → FnO P f (c1 ++ vs ++ c2).toArray D (fun _ v ν => post v ν)) (hN : Nat.blt d X.N = true) (hg : Gok all σ g)
    (kk : ∀ v D ν, (∀ D₁ ∈ Ds, Le D₁ D) → post v ν → WL P X bad all K Q os ((d, v) :: σ) (ν ++ μ) (D :: Ds)) :
    WL P X bad all K Q ((fl, ix) :: os) σ μ Ds := by
  refine L.loud ho rfl rfl hg fun a w hh => ?_
  obtain ⟨h1, h2, h3, D, h4, h5, h6⟩ := id hh
  obtain ⟨hb1, hb2, hb3⟩ := h4.box _ hbox
  simp only at hb1 hb2
  have hF := hf (shown D bo cs) (fun D₁ hD₁ => (h5 D₁ hD₁).trans (shown_le hb2)) (shown_at _ _ _)
  rw [run_call hF.1 (hh.eval hc) (evs_eval (fun _ _ hx => hh.eval hx) hxs)]
  refine ⟨fun h => by simp [FW] at h, callsIn_FW.2 ((hF.2 w (shown_agr h4.agr hb1)).mono ?_)⟩
  rintro e w' ⟨v, D', ν, rfl, hs0, hpost⟩
  have hs := hs0.hide hb2
  have hle := le_of_call h4.agr hs
  refine ⟨fun _ => hs.keep bad, kk v (shown D' bo []) ν (fun D₁ hD₁ => (h5 D₁ hD₁).trans hle) hpost _ _ ?_⟩
  refine Hl.put ⟨h1, h2, h3, shown D' bo [], h4.afterO hs, fun D₁ hD₁ => ?_, h6.step (fun _ p hp => ?_) (fun _ => hs.low _) (h4.afterO hs).dom⟩ hN v
  · rcases List.mem_cons.1 hD₁ with rfl | hD₁
    · exact Le.refl _
    · exact (h5 D₁ hD₁).trans hle
  · rcases List.mem_append.1 hp with hp | hp
    · exact Or.inr ((hs.box p hp).2.2.resolve_right (by simp))
    · exact Or.inl (List.mem_map.2 ⟨p, hp, rfl⟩)
end
/-- A truth with another part. -/
def setT (l : List Pt) (k p : Nat) (v : Int) : List Pt := l.modify k fun q => setP q p v
theorem setT_len (l : List Pt) (k p : Nat) (v : Int) : (setT l k p v).length = l.length := List.length_modify ..
theorem setT_get (l : List Pt) (k p i : Nat) (v : Int) : (setT l k p v)[i]? = (l[i]?).map fun q => if k = i then setP q p v else q := by
  unfold setT
  rw [List.getElem?_modify]
  cases l[i]? with
  | none => rfl
  | some c => by_cases h : k = i <;> simp [h]
theorem setT_cells {v : Int} {p : Nat} (hp : p < 3) : ∀ {l : List Pt} {k : Nat}, k < l.length → (ptC l).set (k * 3 + p) (.int .i64 v) = ptC (setT l k p v)
  | c :: l, 0, _ => by
    have h : p = 0 ∨ p = 1 ∨ p = 2 := by omega
    rcases h with rfl | rfl | rfl <;> rfl
  | c :: l, k + 1, h => by
    have ih := setT_cells (v := v) hp (l := l) (k := k) (by simpa using h)
    rw [show (k + 1) * 3 + p = (k * 3 + p) + 1 + 1 + 1 by omega]
    have e : ptC (c :: l) = .int .i64 c.a :: .int .i64 c.b :: .int .i64 c.c :: ptC l := rfl
    rw [e, List.set_cons_succ, List.set_cons_succ, List.set_cons_succ, ih]; rfl
/-- A list that lies in a block of one's own reads as data. -/
theorem sl_own {D : Data} {b cap : Nat} {l : List Pt} {J : List Value} {n : Nat} (h : At D b 0 (ptC l ++ J)) (hn : l.length = n) (hc : n ≤ cap ∧ n ≤ 9223372036854775807) : Sl D RP 3 (.slice (some ⟨b, 0, none⟩) n cap) l := by
  subst hn
  refine ⟨_, cap, rfl, hc.1, hc.2, Or.inr ⟨b, 0, rfl, fun i x hx => ⟨_, rfl, rfl, fun j v hj => ?_⟩⟩⟩
  have e : ∀ (l : List Pt) (i : Nat) (x : Pt), l[i]? = some x → ∀ j v, [Value.int .i64 x.a, .int .i64 x.b, .int .i64 x.c][j]? = some v → (ptC l)[i * 3 + j]? = some v := by
    intro l
    induction l with
    | nil => intro i x hx; simp at hx
    | cons c l ih =>
      intro i x hx j v hj
      have e : ptC (c :: l) = .int .i64 c.a :: .int .i64 c.b :: .int .i64 c.c :: ptC l := rfl
      have hj3 : j < 3 := (List.getElem?_eq_some_iff.1 hj).1
      cases i with
      | zero =>
        obtain rfl : c = x := by simpa using hx
        rw [e]
        have h : j = 0 ∨ j = 1 ∨ j = 2 := by omega
        rcases h with rfl | rfl | rfl <;> simpa using hj
      | succ i =>
        rw [e, show (i + 1) * 3 + j = (i * 3 + j) + 1 + 1 + 1 by omega, List.getElem?_cons_succ, List.getElem?_cons_succ, List.getElem?_cons_succ]
        exact ih i x (by simpa using hx) j v hj
  have := h (i * 3 + j) v (by
    have h1 := e l i x hx j v hj
    rw [List.getElem?_append_left (List.getElem?_eq_some_iff.1 h1).1]; exact h1)
  rw [Nat.zero_add] at this ⊢
  exact this
theorem nu_near {f g : Nat → Nat → Bool} {S T : Nat → Bool} {k : Nat} (hf : ∀ a b, a ≠ k → b ≠ k → f a b = true → g a b = true) (hS : ∀ a, a ≠ k → S a = true → T a = true) {x y : Nat} (hx : IsNu f S x) (hy : IsNu g T y) : x ≤ y + 1 := by
  obtain ⟨M, hM, rfl⟩ := hx.ex
  have key : ∀ N : List (Nat × Nat), Mat f S N → k ∉ ends N → N.length ≤ y := fun N hN hk => hy.le N ⟨fun p hp => by
    obtain ⟨h1, h2, h3⟩ := hN.fit p hp
    have e1 : p.1 ≠ k := fun e => hk (mem_ends.2 ⟨p, hp, Or.inl e.symm⟩)
    have e2 : p.2 ≠ k := fun e => hk (mem_ends.2 ⟨p, hp, Or.inr e.symm⟩)
    exact ⟨hS _ e1 h1, hS _ e2 h2, hf _ _ e1 e2 h3⟩, hN.nd⟩
  by_cases hk : k ∈ ends M
  · obtain ⟨z, hz⟩ := has_of hk
    obtain ⟨p, hp, _, hr, hl⟩ := hM.rem hz
    have := key (M.erase p) (hr.mono fun w hw => (without_iff.1 (without_iff.1 hw).1).1) fun h => by
      obtain ⟨q, hq, e⟩ := mem_ends.1 h
      obtain ⟨g1, g2, _⟩ := hr.fit q hq
      rcases e with rfl | rfl
      · exact (without_iff.1 (without_iff.1 g1).1).2 rfl
      · exact (without_iff.1 (without_iff.1 g2).1).2 rfl
    omega
  · have := key M hM hk; omega
theorem nu_mono {f g : Nat → Nat → Bool} {S T : Nat → Bool} (hf : ∀ a b, S a = true → S b = true → f a b = true → g a b = true) (hS : ∀ a, S a = true → T a = true) {x y : Nat} (hx : IsNu f S x) (hy : IsNu g T y) : x ≤ y := by
  obtain ⟨M, hM, rfl⟩ := hx.ex
  exact hy.le M ⟨fun p hp => by
    obtain ⟨h1, h2, h3⟩ := hM.fit p hp
    exact ⟨hS _ h1, hS _ h2, hf _ _ h1 h2 h3⟩, hM.nd⟩
theorem truth_with {y : YardD} {k p : Nat} {v : Int} {c : Ch} {t : List Pt} (hc : y.chairs[k]? = some c) (hp : p < 3) (hq : c.parts.l[p]? = some 2) (hv : 0 ≤ v ∧ v ≤ 1) (h : isTruth y t = true) : isTruth y (setT t k p v) = true := by
  unfold isTruth at h ⊢
  rw [Bool.and_eq_true, decide_eq_true_eq, List.all_eq_true] at h ⊢
  obtain ⟨h1, h2⟩ := h
  refine ⟨by rw [setT_len]; exact h1, fun x hx => ?_⟩
  obtain ⟨i, hi⟩ := List.mem_iff_getElem?.1 hx
  obtain ⟨c', q⟩ := x
  rw [List.getElem?_zip_eq_some] at hi
  simp only [setT_get] at hi
  obtain ⟨i1, i2⟩ := hi
  obtain ⟨q', hq', rfl⟩ := Option.map_eq_some_iff.1 i2
  have h3 := h2 (c', q') (List.mem_iff_getElem?.2 ⟨i, by rw [List.getElem?_zip_eq_some]; exact ⟨i1, hq'⟩⟩)
  by_cases e : k = i
  · subst e
    rw [i1] at hc
    obtain rfl : c' = c := Option.some.inj hc
    rw [if_pos rfl]
    obtain ⟨sz, pa, pb, pc⟩ := c'
    obtain ⟨qa, qb, qc⟩ := q'
    have hp' : p = 0 ∨ p = 1 ∨ p = 2 := by omega
    have hv' : inB v 0 1 = true := inB_iff.2 hv
    simp only [Pt.l] at hq
    rcases hp' with rfl | rfl | rfl <;> simp only [List.getElem?_cons_zero, List.getElem?_cons_succ, Option.some.injEq] at hq <;> subst hq <;> simp only [ptsIs, Pt.l, setP, if_true, if_neg (show ¬ (1 : Nat) = 0 by decide), if_neg (show ¬ (2 : Nat) = 0 by decide), if_neg (show ¬ (2 : Nat) = 1 by decide), List.zip_cons_cons, List.zip_nil_right, List.all_cons, List.all_nil, Bool.and_true, Bool.and_eq_true, partIs, Bool.or_eq_true, decide_eq_true_eq] at h3 ⊢
    · exact ⟨⟨hv', Or.inl trivial⟩, h3.2⟩
    · exact ⟨h3.1, ⟨hv', Or.inl trivial⟩, h3.2.2⟩
    · exact ⟨h3.1, h3.2.1, ⟨hv', Or.inl trivial⟩⟩
  · rw [if_neg e]; exact h3
theorem setY_part {y : YardD} {k p : Nat} {v : Int} {c : Ch} (hc : y.chairs[k]? = some c) (hp : p < 3) : ∃ c', (setY y k p v).chairs[k]? = some c' ∧ c'.parts.l[p]? = some v := by
  refine ⟨{ c with parts := setP c.parts p v }, ?_, ?_⟩
  · show (setC y.chairs k p v)[k]? = _
    rw [setC_get, hc]; simp
  · have h : p = 0 ∨ p = 1 ∨ p = 2 := by omega
    rcases h with rfl | rfl | rfl <;> rfl
theorem setP_ge {q : Pt} {p : Nat} (hp : p < 3) (hq : Bits1 q) : isWhole (setP q p 0) = false ∧ (setP q p 0).a ≤ (setP (setP q p 0) p 1).a ∧ (setP q p 0).b ≤ (setP (setP q p 0) p 1).b ∧ (setP q p 0).c ≤ (setP (setP q p 0) p 1).c ∧ Bits1 (setP (setP q p 0) p 1) ∧ Bits1 (setP q p 0) := by
  obtain ⟨a, b, c⟩ := q
  obtain ⟨⟨h1, h2⟩, ⟨h3, h4⟩, h5, h6⟩ := hq
  simp only at h1 h2 h3 h4 h5 h6
  have h : p = 0 ∨ p = 1 ∨ p = 2 := by omega
  rcases h with rfl | rfl | rfl <;> simp [setP, isWhole, Bits1] <;> omega
theorem joins_mono {p p' q : Pt} (hp : p.a ≤ p'.a ∧ p.b ≤ p'.b ∧ p.c ≤ p'.c) (hb : Bits1 p') (hq : Bits1 q) (hw : isWhole p' = false) (h : joins p q = true) : joins p' q = true := by
  unfold joins isWhole at *
  obtain ⟨a, b, c⟩ := p
  obtain ⟨a', b', c'⟩ := p'
  obtain ⟨d, e, f⟩ := q
  obtain ⟨⟨h1, h2⟩, ⟨h3, h4⟩, h5, h6⟩ := hb
  obtain ⟨⟨g1, g2⟩, ⟨g3, g4⟩, g5, g6⟩ := hq
  simp only [Bool.and_eq_true, Bool.not_eq_true', decide_eq_false_iff_not, decide_eq_true_eq, Pt.mk.injEq] at *
  exact ⟨⟨hw, h.1.2⟩, by omega, by omega, by omega⟩
/-- A part whole instead of broken: not fewer chairs, and at most one more. -/
theorem part_most {y : YardD} {k p : Nat} {t : List Pt} (hf : fault y = 0) (hp : p < 3) (h1 : isTruth y (setT t k p 0) = true) (h2 : isTruth y (setT (setT t k p 0) k p 1) = true) (hb : ∀ q ∈ t, Bits1 q) (hk : k < t.length) : mostT y (setT t k p 0) ≤ mostT y (setT (setT t k p 0) k p 1) ∧ mostT y (setT (setT t k p 0) k p 1) ≤ mostT y (setT t k p 0) + 1 := by
  have hn := (yOk hf).len
  obtain ⟨l1, b1⟩ := truthOk h1
  obtain ⟨l2, b2⟩ := truthOk h2
  have n1 := nu_is l1 (show (setT t k p 0).length ≤ 7 by omega)
  have n2 := nu_is l2 (show (setT (setT t k p 0) k p 1).length ≤ 7 by omega)
  obtain ⟨q, hq⟩ : ∃ q, t[k]? = some q := ⟨_, List.getElem?_eq_getElem hk⟩
  have hqb := hb q (List.mem_of_getElem? hq)
  obtain ⟨w1, w2, w3, w4, w5, w6⟩ := setP_ge hp hqb
  have g1 : (setT t k p 0)[k]? = some (setP q p 0) := by rw [setT_get, hq]; simp
  have g2 : (setT (setT t k p 0) k p 1)[k]? = some (setP (setP q p 0) p 1) := by rw [setT_get, g1]; simp
  have ge : ∀ i, i ≠ k → (setT (setT t k p 0) k p 1)[i]? = (setT t k p 0)[i]? := fun i hi => by
    rw [setT_get (setT t k p 0)]
    have : ¬ k = i := fun e => hi e.symm
    simp [this]
  have fe : ∀ i j, i ≠ k → j ≠ k → fitB y (setT (setT t k p 0) k p 1) i j = fitB y (setT t k p 0) i j := fun i j hi hj => by
    unfold fitB; rw [ge i hi, ge j hj]
  have be : ∀ i, i ≠ k → (sceneD y (setT (setT t k p 0) k p 1)).broken.testBit i = (sceneD y (setT t k p 0)).broken.testBit i := fun i hi => by
    show (bset (brokB _) _).testBit i = (bset (brokB _) _).testBit i
    rw [bset_bit, bset_bit, setT_len (setT t k p 0)]
    unfold brokB; rw [ge i hi]
  have u1 := nu_near (k := k) (fun a b ha hb h => by rw [fe a b ha hb]; exact h) (fun a ha h => by rw [be a ha]; exact h) n1 n2
  have u2 := nu_near (k := k) (fun a b ha hb h => by rw [← fe a b ha hb]; exact h) (fun a ha h => by rw [← be a ha]; exact h) n2 n1
  have bk1 : (sceneD y (setT t k p 0)).broken.testBit k = true := by
    show (bset (brokB _) _).testBit k = true
    rw [bset_bit, brok_at g1, w1, setT_len]; simpa using hk
  have hwh : whole (setT (setT t k p 0) k p 1) = whole (setT t k p 0) + if isWhole (setP (setP q p 0) p 1) = true then 1 else 0 := by
    have key : ∀ (l : List Pt) (m : Nat) (r : Pt), l[m]? = some r → isWhole r = false → whole (setT l m p 1) = whole l + if isWhole (setP r p 1) = true then 1 else 0 := by
      intro l
      induction l with
      | nil => intro m r h; simp at h
      | cons c l ih =>
        intro m r h hr
        cases m with
        | zero =>
          obtain rfl : c = r := by simpa using h
          show (List.filter isWhole (setP c p 1 :: l)).length = (List.filter isWhole (c :: l)).length + _
          rw [List.filter_cons, List.filter_cons, hr]
          split <;> simp
        | succ m =>
          have := ih m r (by simpa using h) hr
          show (List.filter isWhole (c :: setT l m p 1)).length = (List.filter isWhole (c :: l)).length + _
          unfold whole at this
          rw [List.filter_cons, List.filter_cons]
          split
          · rw [List.length_cons, List.length_cons, this]; omega
          · exact this
    exact key _ k _ g1 w1
  have ew1 : (sceneD y (setT t k p 0)).whole = whole (setT t k p 0) := rfl
  have ew2 : (sceneD y (setT (setT t k p 0) k p 1)).whole = whole (setT (setT t k p 0) k p 1) := rfl
  unfold mostT mostS
  rw [ew1, ew2, hwh]
  cases hw : isWhole (setP (setP q p 0) p 1) with
  | true =>
    have bk2 : (sceneD y (setT (setT t k p 0) k p 1)).broken.testBit k = false := by
      show (bset (brokB _) _).testBit k = false
      rw [bset_bit, brok_at g2, hw]; simp
    have u3 := nu_mono (fun a b ha hb h => by
      have ea : a ≠ k := fun e => by rw [e, bk2] at ha; cases ha
      have eb : b ≠ k := fun e => by rw [e, bk2] at hb; cases hb
      rw [← fe a b ea eb]; exact h) (fun a ha => by
      have ea : a ≠ k := fun e => by rw [e, bk2] at ha; cases ha
      rw [← be a ea]; exact ha) n2 n1
    simp only [if_true]
    omega
  | false =>
    have fmono : ∀ i j, fitB y (setT t k p 0) i j = true → fitB y (setT (setT t k p 0) k p 1) i j = true := fun i j h => by
      by_cases hi : i = k
      · by_cases hj : j = k
        · subst hi hj
          unfold fitB at h; split at h
          · simp at h
          · cases h
        · subst hi
          unfold fitB at h ⊢
          rw [ge j hj, g2]
          rw [g1] at h
          revert h
          cases ej : (setT t i p 0)[j]? <;> cases y.chairs[i]? <;> cases y.chairs[j]? <;> simp
          intro a1 a2 a3
          exact ⟨⟨a1, a2⟩, joins_mono ⟨w2, w3, w4⟩ w5 (b1 _ (List.mem_of_getElem? ej)) hw a3⟩
      · by_cases hj : j = k
        · subst hj
          rw [fitB_comm] at h ⊢
          unfold fitB at h ⊢
          rw [ge i hi, g2]
          rw [g1] at h
          revert h
          cases ei : (setT t j p 0)[i]? <;> cases y.chairs[i]? <;> cases y.chairs[j]? <;> simp
          intro a1 a2 a3
          exact ⟨⟨a1, a2⟩, joins_mono ⟨w2, w3, w4⟩ w5 (b1 _ (List.mem_of_getElem? ei)) hw a3⟩
        · rw [fe i j hi hj]; exact h
    have bk2 : (sceneD y (setT (setT t k p 0) k p 1)).broken.testBit k = true := by
      show (bset (brokB _) _).testBit k = true
      rw [bset_bit, brok_at g2, hw, setT_len, setT_len]; simpa using hk
    have u3 := nu_mono (fun a b _ _ h => fmono a b h) (fun a ha => by
      by_cases ea : a = k
      · rw [ea]; exact bk2
      · rw [be a ea]; exact ha) n1 n2
    simp only [Bool.false_eq_true, if_false]
    omega
theorem part_facts {y : YardD} {k p : Nat} {c : Ch} {t : List Pt} (hf : fault (setY y k p 2) = 0) (hc : y.chairs[k]? = some c) (hp : p < 3) (ht : isTruth (setY y k p 2) t = true) : isTruth (setY y k p 2) (setT t k p 0) = true ∧ isTruth (setY y k p 2) (setT (setT t k p 0) k p 1) = true ∧ mostT (setY y k p 2) (setT t k p 0) ≤ mostT (setY y k p 2) (setT (setT t k p 0) k p 1) ∧ mostT (setY y k p 2) (setT (setT t k p 0) k p 1) ≤ mostT (setY y k p 2) (setT t k p 0) + 1 ∧ mostT (setY y k p 2) (setT t k p 0) ≤ 200 := by
  obtain ⟨c', h1, h2⟩ := setY_part (y := y) (v := 2) hc hp
  have a1 := truth_with h1 hp h2 (v := 0) (by omega) ht
  have a2 := truth_with h1 hp h2 (v := 1) (by omega) a1
  obtain ⟨hl, hb⟩ := truthOk ht
  have hk : k < t.length := by
    rw [hl, show (setY y k p 2).chairs.length = y.chairs.length from setC_len _ _ _ _]
    exact (List.getElem?_eq_some_iff.1 hc).1
  obtain ⟨m1, m2⟩ := part_most hf hp a1 a2 hb hk
  exact ⟨a1, a2, m1, m2, most_le hf a1⟩
theorem mp_ok {m n : Nat} (h1 : n ≤ m) (h2 : m ≤ n + 1 ∧ n ≤ 200) : ((((decide ((0 : Int) = 0) && decide ((0 : Int) = 0)) && decide ((m : Int) ≥ (n : Int))) && decide ((m : Int) ≤ (n : Int) + 1)) && true) = true := by
  rw [decide_eq_true (show (m : Int) ≥ (n : Int) by omega), decide_eq_true (show (m : Int) ≤ (n : Int) + 1 by omega)]; rfl
theorem NthO_ok (yv : Value) (y : YardD) (z : Int) (n : Nat) (D : Data) (hz : z = (n : Int)) (hy : YardIs D yv y) (hc7 : y.chairs.length ≤ 1000) (hn : n ≤ 1000000) : FnO Try.prog 54 #[yv, .int .i64 z] D (fun _ v ν => Acc 91 3 v y.chairs.length (ptC (nthC y.chairs n).1) ν) := by
  subst hz
  obtain ⟨cv, qv, rfl, hc, hq⟩ := hy
  have hcl := hc.len
  refine enterO 41 Try.func54 rfl rfl rfl rfl fun h0 => ?_
  refine C.seq ?_
  refine C.region [(false,0),(false,1)] rfl ?_
  refine L.boxD rfl rfl rfl rfl trivial (fun q1 E1 hE1 hB1 => ?_)
  refine L.assign rfl rfl rfl trivial ?_
  refine L.nil ?_
  refine C.next ?_
  refine C.seq ?_
  refine C.region [(false,0)] rfl ?_
  refine L.assign rfl rfl rfl trivial ?_
  refine L.nil ?_
  refine C.next ?_
  refine C.seq ?_
  refine C.seq ?_
  refine C.region [(false,0)] rfl ?_
  refine L.assign rfl rfl rfl trivial ?_
  refine L.nil ?_
  refine C.next ?_
  refine C.block ?_
  refine C.loopR (γ := Nat × Value × Boxes × Nat) (fun g => y.chairs.length - g.1) (fun g => g.1 ≤ y.chairs.length ∧ Acc 91 3 g.2.1 g.1 (ptC (nthC (y.chairs.take g.1) n).1) g.2.2.1 ∧ g.2.2.2 = (nthC (y.chairs.take g.1) n).2) (fun g => [(1, .int .i64 (g.2.2.2 : Int)), (5, g.2.1), (6, .int .i64 (g.1 : Int))]) [(4, _), (2, _)] (fun g => g.2.2.1 ++ []) (fun g => [E1, D]) (0, .slice none 0 0, [], n) ⟨by simp, by simpa [ptC, nthC] using Acc.nil, rfl⟩ ⟨(by first | rfl | (show some (Value.int _ _) = some (Value.int _ _); congr 2; omega)), (by first | rfl | (show some (Value.int _ _) = some (Value.int _ _); congr 2; omega)), (by first | rfl | (show some (Value.int _ _) = some (Value.int _ _); congr 2; omega)), trivial⟩ ⟨rfl, rfl, trivial⟩ (List.Sublist.refl _) (ds_same) ?_
  rintro ⟨i, v, ν, m⟩ ⟨h1, ha, hm⟩
  simp only at h1 ha hm
  refine C.seq ?_
  refine C.seq ?_
  refine C.region [(false,0),(false,1),(false,2),(false,3),(false,4)] rfl ?_
  refine L.move rfl rfl rfl trivial ?_
  refine L.fieldAddr rfl Tf.f25_0 rfl rfl trivial ?_
  refine L.loadD1 rfl (k := 0) Tf.a22 rfl hB1 (by first | simp | assumption) rfl List.not_mem_nil rfl trivial ?_
  refine L.len rfl Try.underlying22 rfl hc rfl rfl trivial ?_
  refine L.lss rfl rfl rfl rfl trivial ?_
  refine L.nil ?_
  refine C.next ?_
  refine C.condD rfl (fun hc1 => ?_) (fun hc1 => ?_)
  · have hi : i < y.chairs.length := by omega
    obtain ⟨x, hx⟩ : ∃ x, y.chairs[i]? = some x := ⟨_, List.getElem?_eq_getElem hi⟩
    have hmn := nthC_le (y.chairs.take i) n
    rw [← hm] at hmn
    refine C.skip ?_
    refine C.next ?_
    refine C.seq ?_
    refine C.block ?_
    refine C.seq ?_
    refine C.region [(false,0),(false,1),(false,2),(false,3),(false,4),(false,5),(false,6),(false,7)] rfl ?_
    refine L.fieldAddr rfl Tf.f25_0 rfl rfl trivial ?_
    refine L.loadD1 rfl (k := 0) Tf.a22 rfl hB1 (by first | simp | assumption) rfl List.not_mem_nil rfl trivial ?_
    refine L.move rfl rfl rfl trivial ?_
    refine L.indexS rfl Try.underlying22 Tf.s94 rfl hc rfl (by omega) hx rfl trivial (fun b1 o1 cs1 hr1 hcl1 hA1 => ?_)
    obtain rfl : cs1 = [.int .i64 _, .int .i64 _, .int .i64 _, .int .i64 _] := hr1
    refine L.fieldAddr rfl Tf.f94_1 rfl rfl trivial ?_
    refine L.loadDP rfl (k := 1) Tf.a91 Tf.s91 rfl hA1 (by first | simp | assumption) rfl rfl List.not_mem_nil rfl trivial ?_
    refine L.alloc rfl Tf.z91 rfl rfl trivial (fun q2 => ?_)
    refine L.storeW rfl rfl rfl rfl Tf.s91 (by first | rfl | (simp only [ints_length, *]; done) | (simp only [ints_length, *]; rfl) | (simp only [ints_length, *]; omega)) (by first | rfl | (simp only [ints_length, *]; done) | (simp only [ints_length, *]; rfl) | (simp only [ints_length, *]; omega)) (Has.head) (by first | exact ints_cell1 _ | simp [cell1]) trivial ?_
    refine L.nil ?_
    refine C.next ?_
    refine C.seq ?_
    refine C.seq ?_
    refine C.region [(false,0)] rfl ?_
    refine L.assign rfl rfl rfl trivial ?_
    refine L.nil ?_
    refine C.next ?_
    refine C.block ?_
    refine C.loopR (γ := Nat) (fun k => 3 - k) (fun k => k ≤ 3) (fun k => [(1, .int .i64 ((nthK x.parts.l m k).2 : Int)), (8, .int .i64 (k : Int))]) [(7, _), (21, _), (20, _), (19, _), (18, _), (17, _), (16, _), (13, _), (12, _), (11, _), (10, _), (9, _), (5, _), (6, _), (4, _), (2, _)] (fun k => (q2, .cells (ints (nthK x.parts.l m k).1).toArray 91 (0, 0)) :: (ν ++ [])) (fun k => [E1, D]) 0 (by omega) ⟨(by first | rfl | (show some (Value.int _ _) = some (Value.int _ _); congr 2; omega)), (by first | rfl | (show some (Value.int _ _) = some (Value.int _ _); congr 2; omega)), trivial⟩ ⟨rfl, rfl, rfl, rfl, rfl, rfl, rfl, rfl, rfl, rfl, rfl, rfl, rfl, rfl, rfl, rfl, trivial⟩ (List.Sublist.refl _) (ds_same) ?_
    rintro k h2
    refine C.seq ?_
    refine C.seq ?_
    refine C.region [(false,0),(false,1)] rfl ?_
    refine L.move rfl rfl rfl trivial ?_
    refine L.lss rfl rfl rfl rfl trivial ?_
    refine L.nil ?_
    refine C.next ?_
    refine C.condD rfl (fun hc2 => ?_) (fun hc2 => ?_)
    · have hk : k < 3 := by omega
      have hkl := nthK_len x.parts.l m k
      have hkm := nthK_le x.parts.l m k
      have hl3 : x.parts.l.length = 3 := rfl
      obtain ⟨w, hw⟩ : ∃ w, (nthK x.parts.l m k).1[k]? = some w := ⟨_, List.getElem?_eq_getElem (by omega)⟩
      refine C.skip ?_
      refine C.next ?_
      refine C.seq ?_
      refine C.block ?_
      refine C.seq ?_
      refine C.region [(false,0),(false,1),(false,2),(false,3)] rfl ?_
      refine L.move rfl rfl rfl trivial ?_
      refine L.indexB rfl Try.underlying91 Tf.s3 rfl rfl (by omega) (by omega) rfl trivial ?_
      refine L.loadB1 rfl Tf.a3 rfl (List.Mem.head _) (ints_get hw) List.not_mem_nil rfl trivial ?_
      refine L.eql rfl rfl rfl rfl trivial ?_
      refine L.nil ?_
      refine C.next ?_
      refine C.condD rfl (fun hc3 => ?_) (fun hc3 => ?_)
      · have hw2 : w = 2 := hc3
        refine C.seq ?_
        refine C.region [(false,0),(false,1),(false,2),(false,3),(false,4)] rfl ?_
        refine L.move rfl rfl rfl trivial ?_
        refine L.move rfl rfl rfl trivial ?_
        refine L.rem rfl rfl rfl (by omega) (by omega) (by simp only [inK]; omega) rfl trivial ?_
        refine L.indexB rfl Try.underlying91 Tf.s3 rfl rfl (by omega) (by omega) rfl trivial ?_
        refine L.storeI rfl Tf.s3 rfl rfl (Has.head) (by rw [Int.toNat_natCast, hkl]; exact hk) trivial ?_
        refine L.nil ?_
        refine C.next ?_
        refine C.region [(false,0),(false,1),(false,2)] rfl ?_
        refine L.move rfl rfl rfl trivial ?_
        refine L.quo rfl rfl rfl (by omega) (by omega) (by simp only [inK]; omega) rfl trivial ?_
        refine L.assign rfl rfl rfl trivial ?_
        refine L.nil ?_
        refine C.blockEnd ?_
        refine C.next ?_
        refine C.region [(false,0),(false,1),(false,2)] rfl ?_
        refine L.move rfl rfl rfl trivial ?_
        refine L.add rfl rfl rfl (by simp only [inK]; omega) rfl trivial ?_
        refine L.assign rfl rfl rfl trivial ?_
        refine L.nil ?_
        have e9 := nthK_yes (l := x.parts.l) (m := m) (k := k) (hw2 ▸ hw)
        rw [show (nthK x.parts.l m k).1.set (k : Int).toNat (((nthK x.parts.l m k).2 : Int) % 2) = (nthK x.parts.l m (k + 1)).1 by rw [e9]; rfl]
        exact C.againR 18 (k + 1) (by omega) (by omega) ⟨(by rw [e9]; rfl), (by first | rfl | (show some (Value.int _ _) = some (Value.int _ _); congr 2; omega)), trivial⟩ rfl rfl (List.Sublist.refl _) (ds_same)
      · refine C.skip ?_
        refine C.blockEnd ?_
        refine C.next ?_
        refine C.region [(false,0),(false,1),(false,2)] rfl ?_
        refine L.move rfl rfl rfl trivial ?_
        refine L.add rfl rfl rfl (by simp only [inK]; omega) rfl trivial ?_
        refine L.assign rfl rfl rfl trivial ?_
        refine L.nil ?_
        have e9 := nthK_no (l := x.parts.l) (m := m) (k := k) (fun e => hc3 (Option.some.inj (hw.symm.trans e)))
        rw [← e9]
        exact C.againR 11 (k + 1) (by omega) (by omega) ⟨rfl, (by first | rfl | (show some (Value.int _ _) = some (Value.int _ _); congr 2; omega)), trivial⟩ rfl rfl (List.Sublist.refl _) (ds_same)
    · obtain rfl : k = 3 := by omega
      rw [nthK_3]
      refine C.exit ?_
      refine C.thenExit ?_
      refine C.thenExit ?_
      refine C.blockExit ?_
      refine C.next ?_
      refine C.region [(false,0),(false,1),(false,2),(false,3),(false,4)] rfl ?_
      refine L.move rfl rfl rfl trivial ?_
      refine L.loadBW rfl Tf.a91 rfl (List.Mem.head _) (by first | exact Tf.s91 | (simp only [ints_length, *]; exact Tf.s91)) List.not_mem_nil rfl trivial ?_
      refine L.buildSlice rfl Try.underlying26 Tf.s91 Tf.z91 rfl rfl rfl rfl (.cons rfl rfl .nil) rfl trivial (fun b901 D901 hD901 hA901 => ?_)
      refine L.append (A := [(_, _)]) (B := []) rfl Try.underlying26 rfl rfl Tf.s91 Tf.z91 rfl Tf.i91 rfl rfl rfl ha (Src.lit hA901) (by simp) rfl (ptC_lenn _ _ (by simp only [nthC_len, List.length_take]; omega)) (by simp [cell1, ints, Pt.l]) (by omega) (Or.inl rfl) rfl trivial (fun v7 ν7 ha7 => ?_)
      have hn7 : Acc 91 3 v7 (i + 1) (ptC (nthC (y.chairs.take (i + 1)) n).1) ν7 := by rw [nthC_snoc hx, ptC_snoc, ← hm]; simpa [ints, Pt.l] using ha7
      refine L.assign rfl rfl rfl trivial ?_
      refine L.nil ?_
      refine C.blockEnd ?_
      refine C.next ?_
      refine C.region [(false,0),(false,1),(false,2)] rfl ?_
      refine L.move rfl rfl rfl trivial ?_
      refine L.add rfl rfl rfl (by simp only [inK]; omega) rfl trivial ?_
      refine L.assign rfl rfl rfl trivial ?_
      refine L.nil ?_
      exact C.againR 26 (i + 1, v7, ν7, (p3 x.parts m).2) ⟨by simp only; omega, hn7, by rw [nthC_snoc hx, ← hm]⟩ (by simp only; omega) ⟨(by first | rfl | (show some (Value.int _ _) = some (Value.int _ _); congr 2; omega)), (by first | rfl | (show some (Value.int _ _) = some (Value.int _ _); congr 2; omega)), (by first | rfl | (show some (Value.int _ _) = some (Value.int _ _); congr 2; omega)), trivial⟩ rfl rfl (List.Sublist.cons _ (List.Sublist.refl _)) (fun D h => ⟨D, List.Mem.tail _ (h), Le.refl D⟩)
  · obtain rfl : i = y.chairs.length := by omega
    rw [List.take_length] at ha
    refine C.exit ?_
    refine C.thenExit ?_
    refine C.thenExit ?_
    refine C.blockExit ?_
    refine C.next ?_
    refine C.seq ?_
    refine C.region [(false,0),(false,1)] rfl ?_
    refine L.move rfl rfl rfl trivial ?_
    refine L.assign rfl rfl rfl trivial ?_
    refine L.nil ?_
    refine C.next ?_
    refine C.ret ?_
    exact leave (vs := [_]) rfl rfl rfl ⟨rfl, trivial⟩ (fun D' hD => by show Acc 91 3 v _ _ _; simpa using ha)
theorem TruthO_ok (tv : Value) (t : List Pt) (D : Data) (ht : Sl D RP 3 tv t) (hl : t.length ≤ 1000) : FnO Try.prog 24 #[tv] D (fun _ v ν => Acc 113 3 v t.length (ptC t) ν) := by
  have hll := hl
  refine enterO 19 Try.func24 rfl rfl rfl rfl fun h0 => ?_
  refine C.seq ?_
  refine C.region [(false,0)] rfl ?_
  refine L.assign rfl rfl rfl trivial ?_
  refine L.nil ?_
  refine C.next ?_
  refine C.seq ?_
  refine C.region [(false,0)] rfl ?_
  refine L.assign rfl rfl rfl trivial ?_
  refine L.nil ?_
  refine C.next ?_
  refine C.seq ?_
  refine C.seq ?_
  refine C.region [(false,0)] rfl ?_
  refine L.assign rfl rfl rfl trivial ?_
  refine L.nil ?_
  refine C.next ?_
  refine C.block ?_
  refine C.loopR (γ := Nat × Value × Boxes) (fun g => t.length - g.1) (fun g => g.1 ≤ t.length ∧ Acc 113 3 g.2.1 g.1 (ptC (t.take g.1)) g.2.2) (fun g => [(4, .int .i64 (g.1 : Int)), (3, g.2.1)]) [(2, _), (0, _)] (fun g => g.2.2 ++ []) (fun g => [D]) (0, .slice none 0 0, []) ⟨by simp, by simpa [ptC] using Acc.nil⟩ ⟨(by first | rfl | (show some (Value.int _ _) = some (Value.int _ _); congr 2; omega)), (by first | rfl | (show some (Value.int _ _) = some (Value.int _ _); congr 2; omega)), trivial⟩ ⟨rfl, rfl, trivial⟩ (List.Sublist.refl _) (ds_same) ?_
  rintro ⟨k, v, ν⟩ ⟨hk1, ha⟩
  simp only at hk1 ha
  refine C.seq ?_
  refine C.seq ?_
  refine C.region [(false,0),(false,1),(false,2),(false,3)] rfl ?_
  refine L.move rfl rfl rfl trivial ?_
  refine L.move rfl rfl rfl trivial ?_
  refine L.len rfl Try.underlying26 rfl ht rfl rfl trivial ?_
  refine L.lss rfl rfl rfl rfl trivial ?_
  refine L.nil ?_
  refine C.next ?_
  refine C.condD rfl (fun hc1 => ?_) (fun hc1 => ?_)
  · have hk : k < t.length := by omega
    obtain ⟨x, hx⟩ : ∃ x, t[k]? = some x := ⟨_, List.getElem?_eq_getElem hk⟩
    refine C.skip ?_
    refine C.next ?_
    refine C.seq ?_
    refine C.block ?_
    refine C.region [(false,0),(false,1),(false,2),(false,3),(false,4),(false,5),(false,6),(false,7)] rfl ?_
    refine L.move rfl rfl rfl trivial ?_
    refine L.move rfl rfl rfl trivial ?_
    refine L.move rfl rfl rfl trivial ?_
    refine L.indexS rfl Try.underlying26 Tf.s91 rfl ht rfl (by omega) hx rfl trivial (fun b1 o1 cs1 hr1 hcl1 hA1 => ?_)
    obtain rfl : cs1 = [.int .i64 _, .int .i64 _, .int .i64 _] := hr1
    refine L.loadDW rfl Tf.a91 rfl hA1 (by first | simp | assumption) (by first | exact Tf.s91 | (simp only [ints_length, *]; exact Tf.s91)) List.not_mem_nil rfl trivial ?_
    refine L.buildSlice rfl Try.underlying39 Tf.s113 Tf.z113 rfl rfl rfl rfl (.cons rfl rfl .nil) rfl trivial (fun b901 D901 hD901 hA901 => ?_)
    refine L.append (A := []) (B := []) rfl Try.underlying39 rfl rfl Tf.s113 Tf.z113 rfl Tf.i113 rfl rfl rfl ha (Src.lit hA901) (by simp) rfl (ptC_lenn _ _ (by simp; omega)) (by simp [cell1]) (by omega) (Or.inl rfl) rfl trivial (fun v7 ν7 ha7 => ?_)
    have hn7 : Acc 113 3 v7 (k + 1) (ptC (t.take (k + 1))) ν7 := by rw [List.take_add_one, hx, Option.toList_some, ptC_snoc]; simpa using ha7
    refine L.assign rfl rfl rfl trivial ?_
    refine L.nil ?_
    refine C.blockEnd ?_
    refine C.next ?_
    refine C.region [(false,0),(false,1),(false,2)] rfl ?_
    refine L.move rfl rfl rfl trivial ?_
    refine L.add rfl rfl rfl (by simp only [inK]; omega) rfl trivial ?_
    refine L.assign rfl rfl rfl trivial ?_
    refine L.nil ?_
    exact C.againR 17 (k + 1, v7, ν7) ⟨by simp only; omega, hn7⟩ (by simp only; omega) ⟨(by first | rfl | (show some (Value.int _ _) = some (Value.int _ _); congr 2; omega)), (by first | rfl | (show some (Value.int _ _) = some (Value.int _ _); congr 2; omega)), trivial⟩ rfl rfl (List.Sublist.refl _) (fun D h => ⟨D, List.Mem.tail _ (h), Le.refl D⟩)
  · obtain rfl : k = t.length := by omega
    rw [List.take_length] at ha
    refine C.exit ?_
    refine C.thenExit ?_
    refine C.thenExit ?_
    refine C.blockExit ?_
    refine C.next ?_
    refine C.seq ?_
    refine C.region [(false,0),(false,1)] rfl ?_
    refine L.move rfl rfl rfl trivial ?_
    refine L.assign rfl rfl rfl trivial ?_
    refine L.nil ?_
    refine C.next ?_
    refine C.ret ?_
    exact leave (vs := [_]) rfl rfl rfl ⟨rfl, trivial⟩ (fun D' hD => by show Acc 113 3 v _ _ _; simpa using ha)
set_option maxHeartbeats 1000000 in
theorem MendPart_ok (yv : Value) (y : YardD) (w a b : Int) (D : Data) (hy : YardIs D yv y) (hw : 0 ≤ w ∧ w ≤ 65535) (ha : 0 ≤ a ∧ a ≤ 255) (hb : 0 ≤ b ∧ b ≤ 255) (hbig : y.chairs.length ≤ 1048576) : Fn Try.prog 10 #[yv, .int .u16 w, .int .u8 a, .int .u8 b] D (fun _ v => v = .bool true) := by
  have hy0 := hy
  obtain ⟨cv, qv, rfl, hc, hq⟩ := hy
  obtain ⟨wn, rfl⟩ := Int.eq_ofNat_of_zero_le hw.1
  obtain ⟨an, rfl⟩ := Int.eq_ofNat_of_zero_le ha.1
  obtain ⟨pn, rfl⟩ := Int.eq_ofNat_of_zero_le hb.1
  have hcl := hc.len
  refine enter 106 Try.func10 rfl rfl rfl rfl fun h0 => ?_
  refine C.seq ?_
  refine C.region [(false,0),(false,1)] rfl ?_
  refine L.boxD rfl rfl rfl rfl trivial (fun q1 E1 hE1 hB1 => ?_)
  refine L.assign rfl rfl rfl trivial ?_
  refine L.nil ?_
  refine C.next ?_
  refine C.seq ?_
  refine C.seq ?_
  refine C.region [(false,0),(false,1),(false,2),(false,3)] rfl ?_
  refine L.fieldAddr rfl Tf.f25_0 rfl rfl trivial ?_
  refine L.loadD1 rfl (k := 0) Tf.a22 rfl hB1 (by first | simp | assumption) rfl List.not_mem_nil rfl trivial ?_
  refine L.len rfl Try.underlying22 rfl hc rfl rfl trivial ?_
  refine L.eql rfl rfl rfl rfl trivial ?_
  refine L.nil ?_
  refine C.next ?_
  refine C.condD rfl (fun hc1 => ?_) (fun hc1 => ?_)
  · refine C.seq ?_
    refine C.region [(false,0),(false,1)] rfl ?_
    refine L.callV rfl rfl rfl (fun D1 hD1 => awake_ok _) rfl trivial ?_
    refine L.assign rfl rfl rfl trivial ?_
    refine L.nil ?_
    refine C.next ?_
    refine C.ret ?_
    refine C.thenRet ?_
    exact leave (vs := [_]) rfl rfl rfl ⟨rfl, trivial⟩ (fun D hD => rfl)
  · have hne : 0 < y.chairs.length := by omega
    refine C.skip ?_
    refine C.next ?_
    refine C.seq ?_
    refine C.region [(false,0),(false,1),(false,2),(false,3),(false,4),(false,5),(false,6),(false,7),(false,8),(false,9),(false,10)] rfl ?_
    refine L.move rfl rfl rfl trivial ?_
    refine L.convI rfl Try.underlying5 Try.underlying3 rfl (by simp only [inK]; omega) rfl trivial ?_
    refine L.fieldAddr rfl Tf.f25_0 rfl rfl trivial ?_
    refine L.loadD1 rfl (k := 0) Tf.a22 rfl hB1 (by first | simp | assumption) rfl List.not_mem_nil rfl trivial ?_
    refine L.len rfl Try.underlying22 rfl hc rfl rfl trivial ?_
    refine L.rem rfl rfl rfl (by omega) (by omega) (by simp only [inK]; exact mod_in2 (by omega)) rfl trivial ?_
    refine L.move rfl rfl rfl trivial ?_
    refine L.convI rfl Try.underlying5 Try.underlying3 rfl (by simp only [inK]; omega) rfl trivial ?_
    refine L.rem rfl rfl rfl (by omega) (by omega) (by simp only [inK]; omega) rfl trivial ?_
    refine L.assign rfl rfl rfl trivial ?_
    refine L.assign rfl rfl rfl trivial ?_
    refine L.nil ?_
    refine C.next ?_
    refine C.seq ?_
    obtain ⟨k, hk⟩ : ∃ k : Nat, (an : Int) % (y.chairs.length : Int) = k := ⟨an % y.chairs.length, rfl⟩
    have hkl : k < y.chairs.length := by have := Int.emod_lt_of_pos (an : Int) (show (0 : Int) < (y.chairs.length : Int) by omega); omega
    obtain ⟨p, hp⟩ : ∃ p : Nat, (pn : Int) % 3 = p := ⟨pn % 3, rfl⟩
    have hp3 : p < 3 := by omega
    rw [hk, hp]
    obtain ⟨c, hx⟩ : ∃ c, y.chairs[k]? = some c := ⟨_, List.getElem?_eq_getElem hkl⟩
    refine C.region [(false,0),(false,1),(false,2)] rfl ?_
    refine L.loadDW rfl Tf.a25 rfl hB1 (by first | simp | assumption) Tf.s25 List.not_mem_nil rfl trivial ?_
    refine L.alloc rfl Tf.z25 rfl rfl trivial (fun q2 => ?_)
    refine L.storeW rfl rfl rfl rfl Tf.s25 (by first | rfl | (simp only [ints_length, *]; done) | (simp only [ints_length, *]; rfl) | (simp only [ints_length, *]; omega)) (by first | rfl | (simp only [ints_length, *]; done) | (simp only [ints_length, *]; rfl) | (simp only [ints_length, *]; omega)) (Has.head) (cell1_yard hc.cell1 hq.cell1) trivial ?_
    refine L.nil ?_
    refine C.next ?_
    refine C.seq ?_
    refine C.region [(false,0),(false,1),(false,2),(false,3),(false,4),(false,5)] rfl ?_
    refine L.buildSlice rfl Try.underlying22 Tf.s94 Tf.z94 rfl rfl rfl rfl .nil rfl trivial (fun b901 D901 hD901 hA901 => ?_)
    refine L.fieldAddr rfl Tf.f25_0 rfl rfl trivial ?_
    refine L.loadD1 rfl (k := 0) Tf.a22 rfl hB1 (by first | simp | assumption) rfl List.not_mem_nil rfl trivial ?_
    refine L.append (A := []) (ν := []) (B := [(_, _)]) rfl Try.underlying22 rfl rfl Tf.s94 Tf.z94 rfl Tf.i94 rfl rfl rfl Acc.nil (Src.chs hc) (by simp) (chC_lenn _ _ rfl) (by simp) (chC_cell1 _) (by omega) (Or.inl rfl) rfl trivial (fun v7 ν7 ha7 => ?_)
    obtain ⟨ob, ocap, junk, rfl, hcap, rfl, hcl1, hcl2⟩ := (show Acc 94 4 v7 y.chairs.length (chC y.chairs) ν7 by simpa using ha7).some (by omega)
    refine L.fieldAddr rfl Tf.f25_0 rfl rfl trivial ?_
    refine L.store rfl rfl rfl rfl Tf.s22 (.tail Has.head) (by simp) rfl (by simp [cell1]) trivial ?_
    refine L.nil ?_
    refine C.next ?_
    refine C.seq ?_
    refine C.region [(false,0),(false,1),(false,2),(false,3),(false,4),(false,5),(false,6),(false,7)] rfl ?_
    refine L.fieldAddr rfl Tf.f25_0 rfl rfl trivial ?_
    refine L.loadB1 rfl Tf.a22 rfl (List.Mem.tail _ (List.Mem.head _)) rfl List.not_mem_nil rfl trivial ?_
    refine L.move rfl rfl rfl trivial ?_
    refine L.move rfl rfl rfl trivial ?_
    refine L.indexP rfl Try.underlying22 Tf.s94 rfl rfl (by omega) (by omega) rfl trivial ?_
    refine L.fieldAddr rfl Tf.f94_1 rfl rfl trivial ?_
    refine L.indexA rfl Try.underlying91 Tf.s3 rfl rfl (by omega) (by omega) rfl trivial ?_
    refine L.storeCell (k := k * 4 + 1 + p) rfl Tf.s3 rfl rfl rfl rfl Has.head (setC_cells (v := 2) (p := p) hp3 (l := y.chairs) (k := k) hkl) (by first | omega | (simp only [Int.toNat_natCast]; omega)) (by rw [hcl1]; omega) trivial ?_
    refine L.nil ?_
    refine C.next ?_
    refine C.seq ?_
    refine C.seq ?_
    have hn8 : Acc 94 4 (.slice (some ⟨ob, 0, none⟩) y.chairs.length ocap) y.chairs.length (chC (setC y.chairs k p 2)) [(ob, .cells (chC (setC y.chairs k p 2) ++ junk).toArray 94 (0, 0))] := Or.inr ⟨ob, ocap, junk, rfl, hcap, rfl, chC_lenn _ _ (setC_len _ _ _ _), by simpa [chC_lenn _ _ (setC_len y.chairs k p 2), hcl1] using hcl2⟩
    refine C.freeze (A := []) (B := [(_, _)]) hn8 rfl (fun D8 hD8 hF => ?_)
    have hxr : YardIs D8 (.agg #[.slice (some ⟨ob, 0, none⟩) y.chairs.length ocap, .int .i64 y.fit, qv]) (setY y k p 2) := ⟨_, _, rfl, hF.chs (setC_len _ _ _ _) (by omega), hq.up R2.up (hD8 _ (by simp))⟩
    refine C.region [(false,0),(false,1),(false,2),(false,3),(false,4),(false,5),(false,6),(false,7)] rfl ?_
    refine L.loadDW rfl Tf.a25 rfl hB1 (by first | simp | assumption) Tf.s25 List.not_mem_nil rfl trivial ?_
    refine L.callV rfl rfl rfl (fun D2 hD2 => ready_ok _ y _ (hy0.up (hD2 _ (by simp)))) rfl trivial ?_
    refine L.not rfl rfl rfl trivial ?_
    refine L.move rfl rfl rfl trivial ?_
    refine' L.or [(false,4),(false,5),(false,6),(false,7)] [] (s := 47) (p := 51) rfl rfl (fun hg1 => ?_) (fun hg1 => ?_) ?_
    rotate_left
    · refine L.loadBW rfl Tf.a25 rfl (List.Mem.head _) Tf.s25 List.not_mem_nil rfl ⟨_, rfl, rfl⟩ ?_
      refine L.callV rfl rfl rfl (fun D3 hD3 => ready_ok _ (setY y k p 2) _ (hxr.up (hD3 _ (by simp)))) rfl ⟨_, rfl, rfl⟩ ?_
      refine L.not rfl rfl rfl ⟨_, rfl, rfl⟩ ?_
      refine L.pickF rfl rfl rfl rfl trivial ?_
      exact L.nil fun a w hh => hh.cutK 3 rfl
    · refine L.pass rfl rfl rfl ⟨_, _, rfl, rfl, rfl⟩ ?_
      refine L.pass rfl rfl rfl ⟨_, _, rfl, rfl, rfl⟩ ?_
      refine L.pass rfl rfl rfl ⟨_, _, rfl, rfl, rfl⟩ ?_
      refine L.pickT rfl rfl rfl rfl trivial ?_
      exact L.nil fun a w hh => hh.cutK 3 rfl
    refine L.nil ?_
    refine C.next ?_
    refine C.cond rfl (fun hc2 => ?_) (fun hc2 => ?_)
    · refine C.seq ?_
      refine C.region [(false,0),(false,1)] rfl ?_
      refine L.callV rfl rfl rfl (fun D4 hD4 => awake_ok _) rfl trivial ?_
      refine L.assign rfl rfl rfl trivial ?_
      refine L.nil ?_
      refine C.next ?_
      refine C.ret ?_
      refine C.thenRet ?_
      exact leave (vs := [_]) rfl rfl rfl ⟨rfl, trivial⟩ (fun D hD => rfl)
    · obtain ⟨hca, hcb⟩ := two_no hc2
      obtain ⟨hthin, hf0⟩ := ready_inB hca
      obtain ⟨hthx, hfx⟩ := ready_inB hcb
      obtain ⟨hlc, hlq⟩ := thin_len hthin
      have hyo := yOk hf0
      have hn7 := hyo.len
      have hq5 := hyo.cls
      have hux := unk_8 hfx
      have hp8 : 2 ^ unknown (setY y k p 2).chairs ≤ 2 ^ 8 := Nat.pow_le_pow_right (by omega) hux
      refine C.skip ?_
      refine C.next ?_
      refine C.seq ?_
      refine C.draw [] 3 [0,1,2,3,4,5,6,7] [false,true,true,true,true,true,false,false] [(false,0),(true,1),(true,2),(true,3),(true,4),(true,5),(false,6),(false,7)] Tf.follows (fun _ _ _ h => np_body (P := Try.prog) (fn := Try.f10) _ _ _ h) (by kernel_rfl) rfl ?_
      refine L.loadBW rfl Tf.a25 rfl (List.Mem.head _) Tf.s25 List.not_mem_nil rfl trivial ?_
      refine L.move rfl rfl rfl trivial ?_
      refine L.convI rfl Try.underlying82 Try.underlying3 rfl (by simp only [inK]; omega) rfl trivial ?_
      refine L.loadBW rfl Tf.a25 rfl (List.Mem.head _) Tf.s25 List.not_mem_nil rfl trivial ?_
      refine L.callV rfl rfl rfl (fun D5 hD5 => Many_ok _ (setY y k p 2) _ (hxr.up (hD5 _ (by simp))) (by simp only [setY, setC_len]; omega) (unk_8 hfx)) rfl trivial ?_
      refine L.rem rfl rfl rfl (by omega) (by have := Nat.two_pow_pos (unknown (setY y k p 2).chairs); omega) (by simp only [inK]; exact mod_in (by omega)) rfl trivial ?_
      refine L.callO (μ := _) rfl rfl rfl (fun D40 hD40 => NthO_ok _ (setY y k p 2) _ (wn % 2 ^ unknown (setY y k p 2).chairs) D40 rfl (hxr.up (hD40 _ (by simp))) (by simp only [setY, setC_len]; omega) (by have := Nat.mod_lt wn (Nat.two_pow_pos (unknown (setY y k p 2).chairs)); omega)) rfl trivial (fun v41 D41 ν41 hD41 ha41 => ?_)
      obtain ⟨t, ht, hit⟩ : ∃ t, (nthC (setY y k p 2).chairs (wn % 2 ^ unknown (setY y k p 2).chairs)).1 = t ∧ isTruth (setY y k p 2) t = true := ⟨_, rfl, nth_truth (yOk hfx) _⟩
      rw [ht] at ha41
      obtain ⟨hlen, hbt⟩ := truthOk hit
      have hln : t.length = y.chairs.length := by rw [hlen]; exact setC_len _ _ _ _
      have htk : k < t.length := by omega
      obtain ⟨tb, tcap, junk2, rfl, htcap, rfl, htc1, htc2⟩ := ha41.some (by simp only [setY, setC_len]; omega)
      obtain ⟨hit1, hit2, hmm1, hmm2⟩ := part_facts hfx hx hp3 hit
      refine L.assign rfl rfl rfl trivial ?_
      refine L.nil ?_
      refine C.next ?_
      refine C.seq ?_
      refine C.region [(false,0),(false,1),(false,2),(false,3),(false,4),(false,5)] rfl ?_
      refine L.move rfl rfl rfl trivial ?_
      refine L.move rfl rfl rfl trivial ?_
      refine L.move rfl rfl rfl trivial ?_
      refine L.indexP rfl Try.underlying26 Tf.s91 rfl rfl (by omega) (by omega) rfl trivial ?_
      refine L.indexA rfl Try.underlying91 Tf.s3 rfl rfl (by omega) (by omega) rfl trivial ?_
      refine L.storeCell (k := k * 3 + p) rfl Tf.s3 rfl rfl rfl rfl Has.head (setT_cells (v := 0) (p := p) hp3 (l := t) (k := k) htk) (by first | omega | (simp only [Int.toNat_natCast]; omega)) (by rw [ptC_lenn _ t.length (by first | rfl | exact setT_len _ _ _ _)]; omega) trivial ?_
      refine L.nil ?_
      refine C.next ?_
      refine C.seq ?_
      refine C.region [(false,0),(false,1),(false,2),(false,3),(false,4),(false,5),(false,6),(false,7),(false,8),(false,9)] rfl ?_
      refine L.loadBW rfl Tf.a25 rfl (List.Mem.tail _ (List.Mem.head _)) Tf.s25 List.not_mem_nil rfl trivial ?_
      refine L.call rfl rfl rfl (fun D6 hD6 => YardL_ok _ (setY y k p 2) _ (hxr.up (hD6 _ (by simp))) (by simp only [setY, setC_len]; omega) (by simp only [setY]; omega)) rfl trivial (fun v6 D6 hD6 hp6 => ?_)
      have hwx := hp6
      refine L.move rfl rfl rfl trivial ?_
      refine L.callLend (bo := tb) rfl rfl rfl (List.Mem.head _) (fun D50 hD50 hA50 => TruthO_ok _ (setT t k p 0) _ (sl_own (cap := tcap) hA50 (by simp only [setT_len]; omega) (by omega)) (by simp only [setT_len]; omega)) rfl trivial (fun v51 D51 ν51 hD51 ha51 => ?_)
      refine L.freezeM (A := []) (ν := ν51) (B := [(_, _), (_, _)]) ha51 (fun _ h => by cases h) (fun D52 hD52 hF52 => ?_)
      have hz := hF52.pts rfl (by simp only [setT_len]; omega)
      refine L.callV rfl rfl rfl (fun D7 hD7 => Play2_ok _ _ (setY y k p 2) (setT t k p 0) _ (hwx.up (hD7 _ (by simp))) (hz.up RP.up (hD7 _ (by simp))) hfx hit1) rfl trivial ?_
      refine L.move rfl rfl rfl trivial ?_
      refine L.extract rfl rfl rfl rfl trivial ?_
      refine L.extract rfl rfl rfl rfl trivial ?_
      refine L.assign rfl rfl rfl trivial ?_
      refine L.assign rfl rfl rfl trivial ?_
      refine L.nil ?_
      refine C.next ?_
      refine C.seq ?_
      refine C.region [(false,0),(false,1),(false,2),(false,3),(false,4),(false,5)] rfl ?_
      refine L.move rfl rfl rfl trivial ?_
      refine L.move rfl rfl rfl trivial ?_
      refine L.move rfl rfl rfl trivial ?_
      refine L.indexP rfl Try.underlying26 Tf.s91 rfl rfl (by omega) (by omega) rfl trivial ?_
      refine L.indexA rfl Try.underlying91 Tf.s3 rfl rfl (by omega) (by omega) rfl trivial ?_
      refine L.storeCell (k := k * 3 + p) rfl Tf.s3 rfl rfl rfl rfl Has.head (setT_cells (v := 1) (p := p) hp3 (l := (setT t k p 0)) (k := k) (by rw [setT_len]; exact htk)) (by first | omega | (simp only [Int.toNat_natCast]; omega)) (by rw [ptC_lenn _ t.length (by first | rfl | exact setT_len _ _ _ _)]; omega) trivial ?_
      refine L.nil ?_
      refine C.next ?_
      refine C.seq ?_
      refine C.region [(false,0),(false,1),(false,2),(false,3),(false,4),(false,5),(false,6),(false,7),(false,8),(false,9)] rfl ?_
      refine L.loadBW rfl Tf.a25 rfl (List.Mem.tail _ (List.Mem.head _)) Tf.s25 List.not_mem_nil rfl trivial ?_
      refine L.call rfl rfl rfl (fun D8 hD8 => YardL_ok _ (setY y k p 2) _ (hxr.up (hD8 _ (by simp))) (by simp only [setY, setC_len]; omega) (by simp only [setY]; omega)) rfl trivial (fun v8 D8 hD8 hp8 => ?_)
      have hwx := hp8
      refine L.move rfl rfl rfl trivial ?_
      refine L.callLend (bo := tb) rfl rfl rfl (List.Mem.head _) (fun D50 hD50 hA50 => TruthO_ok _ (setT (setT t k p 0) k p 1) _ (sl_own (cap := tcap) hA50 (by simp only [setT_len]; omega) (by omega)) (by simp only [setT_len]; omega)) rfl trivial (fun v51 D51 ν51 hD51 ha51 => ?_)
      refine L.freezeM (A := []) (ν := ν51) (B := [(_, _), (_, _)]) ha51 (fun _ h => by cases h) (fun D52 hD52 hF52 => ?_)
      have hz := hF52.pts rfl (by simp only [setT_len]; omega)
      refine L.callV rfl rfl rfl (fun D9 hD9 => Play2_ok _ _ (setY y k p 2) (setT (setT t k p 0) k p 1) _ (hwx.up (hD9 _ (by simp))) (hz.up RP.up (hD9 _ (by simp))) hfx hit2) rfl trivial ?_
      refine L.move rfl rfl rfl trivial ?_
      refine L.extract rfl rfl rfl rfl trivial ?_
      refine L.extract rfl rfl rfl rfl trivial ?_
      refine L.assign rfl rfl rfl trivial ?_
      refine L.assign rfl rfl rfl trivial ?_
      refine L.nil ?_
      refine C.next ?_
      refine C.seq ?_
      refine C.region [(false,0),(false,1),(false,2),(false,3),(false,4),(false,5),(false,6),(false,7),(false,8),(false,9),(false,10),(false,11),(false,12),(false,13),(false,14),(false,15),(false,16),(false,17),(false,18),(false,19),(false,20)] rfl ?_
      refine L.move rfl rfl rfl trivial ?_
      refine L.eql rfl rfl rfl rfl trivial ?_
      refine L.move rfl rfl rfl trivial ?_
      refine' L.and [(false,3),(false,4),(false,5)] [(false,6),(false,7),(false,8),(false,9),(false,10),(false,11),(false,12),(false,13),(false,14),(false,15),(false,16),(false,17),(false,18),(false,19),(false,20)] (s := 88) (p := 91) rfl rfl (fun hg2 => ?_) (fun hg2 => ?_) ?_
      rotate_left
      · refine L.move rfl rfl rfl ⟨_, rfl, rfl⟩ ?_
        refine L.eql rfl rfl rfl rfl ⟨_, rfl, rfl⟩ ?_
        refine L.pickT rfl rfl rfl rfl trivial ?_
        exact L.nil fun a w hh => hh.cutK 2 rfl
      · refine L.pass rfl rfl rfl ⟨_, _, rfl, rfl, rfl⟩ ?_
        refine L.pass rfl rfl rfl ⟨_, _, rfl, rfl, rfl⟩ ?_
        refine L.pickF rfl rfl rfl rfl trivial ?_
        exact L.nil fun a w hh => hh.cutK 2 rfl
      refine L.move rfl rfl rfl trivial ?_
      refine' L.and [(false,7),(false,8),(false,9),(false,10)] [(false,11),(false,12),(false,13),(false,14),(false,15),(false,16),(false,17),(false,18),(false,19),(false,20)] (s := 92) (p := 96) rfl rfl (fun hg3 => ?_) (fun hg3 => ?_) ?_
      rotate_left
      · refine L.move rfl rfl rfl ⟨_, rfl, rfl⟩ ?_
        refine L.move rfl rfl rfl ⟨_, rfl, rfl⟩ ?_
        refine L.geq rfl rfl rfl rfl ⟨_, rfl, rfl⟩ ?_
        refine L.pickT rfl rfl rfl rfl trivial ?_
        exact L.nil fun a w hh => hh.cutK 3 rfl
      · refine L.pass rfl rfl rfl ⟨_, _, rfl, rfl, rfl⟩ ?_
        refine L.pass rfl rfl rfl ⟨_, _, rfl, rfl, rfl⟩ ?_
        refine L.pass rfl rfl rfl ⟨_, _, rfl, rfl, rfl⟩ ?_
        refine L.pickF rfl rfl rfl rfl trivial ?_
        exact L.nil fun a w hh => hh.cutK 3 rfl
      refine L.move rfl rfl rfl trivial ?_
      refine' L.and [(false,12),(false,13),(false,14),(false,15),(false,16)] [(false,17),(false,18),(false,19),(false,20)] (s := 97) (p := 102) rfl rfl (fun hg4 => ?_) (fun hg4 => ?_) ?_
      rotate_left
      · refine L.move rfl rfl rfl ⟨_, rfl, rfl⟩ ?_
        refine L.move rfl rfl rfl ⟨_, rfl, rfl⟩ ?_
        refine L.add rfl rfl rfl (by simp only [inK]; omega) rfl ⟨_, rfl, rfl⟩ ?_
        refine L.leq rfl rfl rfl rfl ⟨_, rfl, rfl⟩ ?_
        refine L.pickT rfl rfl rfl rfl trivial ?_
        exact L.nil fun a w hh => hh.cutK 4 rfl
      · refine L.pass rfl rfl rfl ⟨_, _, rfl, rfl, rfl⟩ ?_
        refine L.pass rfl rfl rfl ⟨_, _, rfl, rfl, rfl⟩ ?_
        refine L.pass rfl rfl rfl ⟨_, _, rfl, rfl, rfl⟩ ?_
        refine L.pass rfl rfl rfl ⟨_, _, rfl, rfl, rfl⟩ ?_
        refine L.pickF rfl rfl rfl rfl trivial ?_
        exact L.nil fun a w hh => hh.cutK 4 rfl
      refine L.move rfl rfl rfl trivial ?_
      refine' L.and [(false,18),(false,19)] [(false,20)] (s := 103) (p := 105) rfl rfl (fun hg5 => ?_) (fun hg5 => ?_) ?_
      rotate_left
      · refine L.callV rfl rfl rfl (fun D10 hD10 => awake_ok _) rfl ⟨_, rfl, rfl⟩ ?_
        refine L.pickT rfl rfl rfl rfl trivial ?_
        exact L.nil fun a w hh => hh.cutK 1 rfl
      · refine L.pass rfl rfl rfl ⟨_, _, rfl, rfl, rfl⟩ ?_
        refine L.pickF rfl rfl rfl rfl trivial ?_
        exact L.nil fun a w hh => hh.cutK 1 rfl
      refine L.assign rfl rfl rfl trivial ?_
      refine L.nil ?_
      refine C.next ?_
      refine C.ret ?_
      exact leave (vs := [_]) rfl rfl rfl ⟨rfl, trivial⟩ (fun D hD => congrArg Value.bool (mp_ok hmm1 hmm2))
end Go.Fs
namespace Go.Fs
open Go.Proofs
open C7 Go.ChangeShapes Go.WideShapes Go.RowKit Ytjhdcelmgfajbaa
theorem bulk_one {H : Type} (d : DataW H) : 1 ≤ Rows.uptoBulk d := by
  cases d with
  | lit l => cases l <;> simp [Rows.uptoBulk]
  | _ => simp [Rows.uptoBulk]
theorem bulk_part {H : Type} {d : DataW H} {l : List (DataW H)} (h : d ∈ l) : Rows.uptoBulk d ≤ Rows.uptoBulkAll l := by
  induction l with
  | nil => cases h
  | cons x r ih =>
    simp only [Rows.uptoBulkAll]
    rcases List.mem_cons.1 h with rfl | h
    · omega
    · have := ih h; omega
theorem bulk_length {H : Type} (l : List (DataW H)) : l.length ≤ Rows.uptoBulkAll l := by
  induction l with
  | nil => simp
  | cons x r ih => have := bulk_one x; simp only [Rows.uptoBulkAll, List.length_cons]; omega
theorem chairs_bulk {H : Type} {enc : TypeId × Value → H} {P : Program} {t u e : TypeId} {fs : Array Field} {f : Field} {W : World} {v : Value} {y : YardD} {d : DataW H} {ps : List MemPlace} (ht : P.underlying t = some (.struct fs)) (hf : fs[0]? = some f) (ho : f.offset = 0) (hu : f.type = u) (hs : P.underlying u = some (.slice e)) (hk : P.cellsOf u = 1)
    (hr : YardIs (full W) v y) (hd : DataW.Trod enc P W 0 (fun _ => true) true t v d ps) : y.chairs.length ≤ Rows.uptoBulk d := by
  obtain ⟨cv, qv, rfl, hc, hq⟩ := hr
  obtain ⟨fuel, hfu⟩ := hd
  obtain ⟨xs, n, _, hx, _, hsz, hfl⟩ := DataW.trod_struct ht hfu
  have h1 := hfl 0 f hf
  rw [ho, hu, hk] at h1
  have hl : 0 < xs.length := by rw [hsz]; exact (Array.getElem?_eq_some_iff.1 hf).1
  rw [List.getElem?_eq_getElem hl] at h1
  obtain ⟨a, cap, rfl⟩ := hc.shape
  have hm : (xs[0]'hl).1 ∈ xs.map (·.1) := List.mem_map.2 ⟨_, List.getElem_mem hl, rfl⟩
  have hd2 : d = .agg (xs.map (·.1)) := by simpa using congrArg Prod.fst hx
  have hb := bulk_part hm
  rw [hd2]
  simp only [Rows.uptoBulk]
  rcases DataW.trod_slice hs h1 with ⟨h2, _⟩ | ⟨a', len, cap', elems, rest, m, _, h2, h3, _, _, _, hel, _⟩
  · have e := (List.cons.inj (show [Value.slice a y.chairs.length cap] = [.slice none 0 0] from h2)).1
    injection e with _ e2 _
    omega
  · have e := (List.cons.inj (show [Value.slice a y.chairs.length cap] = [.slice (some a') len cap'] from h2)).1
    injection e with _ e2 _
    rw [h3] at hb
    simp only [Rows.uptoBulk] at hb
    have := bulk_length (elems.map (·.1))
    rw [List.length_map] at this
    omega
theorem claims_bulk {H : Type} {enc : TypeId × Value → H} {P : Program} {t u e : TypeId} {fs : Array Field} {f : Field} {W : World} {v : Value} {y : YardD} {d : DataW H} {ps : List MemPlace} (ht : P.underlying t = some (.struct fs)) (hf : fs[2]? = some f) (ho : f.offset = 2) (hu : f.type = u) (hs : P.underlying u = some (.slice e)) (hk : P.cellsOf u = 1)
    (hr : YardIs (full W) v y) (hd : DataW.Trod enc P W 0 (fun _ => true) true t v d ps) : y.claims.length ≤ Rows.uptoBulk d := by
  obtain ⟨cv, qv, rfl, hc, hq⟩ := hr
  obtain ⟨fuel, hfu⟩ := hd
  obtain ⟨xs, n, _, hx, _, hsz, hfl⟩ := DataW.trod_struct ht hfu
  have h1 := hfl 2 f hf
  rw [ho, hu, hk] at h1
  have hl : 2 < xs.length := by rw [hsz]; exact (Array.getElem?_eq_some_iff.1 hf).1
  rw [List.getElem?_eq_getElem hl] at h1
  obtain ⟨a, cap, rfl⟩ := hq.shape
  have hm : (xs[2]'hl).1 ∈ xs.map (·.1) := List.mem_map.2 ⟨_, List.getElem_mem hl, rfl⟩
  have hd2 : d = .agg (xs.map (·.1)) := by simpa using congrArg Prod.fst hx
  have hb := bulk_part hm
  rw [hd2]
  simp only [Rows.uptoBulk]
  rcases DataW.trod_slice hs h1 with ⟨h2, _⟩ | ⟨a', len, cap', elems, rest, m, _, h2, h3, _, _, _, hel, _⟩
  · have e := (List.cons.inj (show [Value.slice a y.claims.length cap] = [.slice none 0 0] from h2)).1
    injection e with _ e2 _
    omega
  · have e := (List.cons.inj (show [Value.slice a y.claims.length cap] = [.slice (some a') len cap'] from h2)).1
    injection e with _ e2 _
    rw [h3] at hb
    simp only [Rows.uptoBulk] at hb
    have := bulk_length (elems.map (·.1))
    rw [List.length_map] at this
    omega
theorem yard_bulk {H : Type} {enc : TypeId × Value → H} {W : World} {v : Value} {y : YardD} {d : DataW H} {ps : List MemPlace} {t : TypeId} (hT : t = 25) (hr : YardIs (full W) v y) (hd : DataW.Trod enc Try.prog W 0 (fun _ => true) true t v d ps) : y.chairs.length ≤ Rows.uptoBulk d ∧ y.claims.length ≤ Rows.uptoBulk d := by
  subst hT
  exact ⟨chairs_bulk Try.underlying25 rfl rfl rfl Try.underlying22 cells_22 hr hd, claims_bulk Try.underlying25 rfl rfl rfl Try.underlying23 cells_23 hr hd⟩
end Go.Fs
