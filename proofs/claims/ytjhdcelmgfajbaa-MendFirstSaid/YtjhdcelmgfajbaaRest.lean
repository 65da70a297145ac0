/- The last rules: a slice of an array and copy, comparisons of arrays and structs, conversions of numbers, parts of structs. -/
import Derived.Test.YtjhdcelmgfajbaaIter
namespace Go.Fs

variable {P : Program} {X : Cx} {γb : Type} [Membership Nat γb] {bad : γb} {all : Array Oper} {K : Act → World → Prop} {Q : Exit → Act → World → Prop}
variable {σ : Slots} {μ : Boxes} {Ds : List Data} {os : List (Bool × Nat)} {fl : Bool} {ix : Nat}
variable {d : Nat} {x y z : Operand} {u v : Value} {ty : TypeId} {pos : String} {aft : Array Edge} {g : Option (Nat × Bool)}

/-- 'a[:]' of an array in a box. -/
theorem L.sliceA {t e : TypeId} {n b : Nat} (ho : all[ix]? = some ⟨some d, .slice t x none none none, ty, pos, aft, g⟩) (ht : P.underlying t = some (.array n e)) (hs : TS P e 1) (hx : ev σ x = some (.pointer (some ⟨b, 0, none⟩)))
    (hN : Nat.blt d X.N = true) (hg : Gok all σ g) (kk : WL P X bad all K Q os ((d, .slice (some ⟨b, 0, none⟩) n n) :: σ) μ Ds) : WL P X bad all K Q ((fl, ix) :: os) σ μ Ds :=
  L.pure ho rfl rfl hN hg (fun ρ hρ w' => by
    simp only [execOp, hρ x _ hx, Option.map_none]
    unfold Instr.sliceAt Instr.sureAddr Instr.sliceBounds
    simp only [Sem.run_bind, TU.of ht w', Result.andThen_ok, hs w', Sem.run_pure, pure_bind, Nat.zero_mul, Nat.sub_zero]
    split <;> simp [Addr.add]) kk

theorem splice_ints {l0 xs : List Int} (_h : xs.length ≤ l0.length) : (ints l0).take 0 ++ ints xs ++ (ints l0).drop (0 + (ints xs).length) = ints (xs ++ l0.drop xs.length) := by
  simp [ints]

/-- 'copy' of a slice of numbers into an array of numbers in a box. -/
theorem L.copyA {D₁ : Data} {t e tr : TypeId} {b n : Nat} {l0 xs : List Int} {eb : TypeId} {xv : Value} {μ' : Boxes} {ats : Array TypeId} (ho : all[ix]? = some ⟨some d, .call { callee := .builtin .copy, args := #[x, y], argTypes := ats }, tr, pos, aft, g⟩)
    (hat : ats[0]? = some t) (ht : P.underlying t = some (.slice e)) (hs : TS P e 1) (hx : ev σ x = some (.slice (some ⟨b, 0, none⟩) n n)) (hy : ev σ y = some xv) (hS : Sl D₁ RI 1 xv xs) (hD : D₁ ∈ Ds) (hl : xs.length ≤ n) (hn : l0.length = n)
    (hm : Has μ b (.cells (ints l0).toArray eb (0, 0)) (.cells (ints (xs ++ l0.drop xs.length)).toArray eb (0, 0)) μ') (hN : Nat.blt d X.N = true) (hg : Gok all σ g)
    (kk : WL P X bad all K Q os ((d, .int .i64 xs.length) :: σ) μ' Ds) : WL P X bad all K Q ((false, ix) :: os) σ μ Ds := by
  refine L.loud ho rfl rfl hg fun a w hh => ?_
  obtain ⟨h1, h2, h3, D, h4, h5, h6⟩ := id hh
  have hbx := (h4.box _ hm.mem).1
  obtain ⟨w', hr, hw'⟩ := run_storeCells (P := P) (ints xs) 0 w b 0 (ints l0) eb hbx (by simp; omega) (ints_cell1 xs)
  rw [Nat.add_zero, splice_ints (by omega)] at hw'
  have hsrc := Src.ints hS
  have hfc := run_firstCells (P := P) (w := w) (sz := 1) hsrc (by simp) (fun b o hA j u hj => h4.agr.cell ((h5 D₁ hD).get (hA j u hj)))
  have hlen := lenOf_src (P := P) (w := w) hsrc
  have hmin : Nat.min xs.length n = xs.length := Nat.min_eq_left hl
  have hrun : (execOp a.eval ⟨some d, .call { callee := .builtin .copy, args := #[x, y], argTypes := ats }, tr, pos, aft, g⟩).run P w = .ok (.value (.int .i64 xs.length)) w' := by
    simp only [execOp, resolve, pure_bind, invoke, builtin]
    have e1 : (#[x, y].map a.eval) = #[.slice (some ⟨b, 0, none⟩) n n, xv] := by simp [hh.eval hx, hh.eval hy]
    have e2 : (#[Value.slice (some ⟨b, 0, none⟩) n n, xv] : Array Value)[0]? = some (.slice (some ⟨b, 0, none⟩) n n) := rfl
    have e3 : (#[Value.slice (some ⟨b, 0, none⟩) n n, xv] : Array Value)[1]? = some xv := rfl
    rw [e1]
    unfold Builtin.copy_
    simp only [hat, e2, e3, Sem.run_bind, TU.of ht w, Result.andThen_ok, hlen, hmin, hs w, hfc, hr, goInt, Sem.run_pure]
  rw [hrun]
  have hst := h4.set hm hw' rfl
  exact ⟨fun h => by simp at h, kk _ _ (Hl.put ⟨h1, h2, h3, D, hst, h5, h6.step (fun _ p hp => Or.inl (by rw [← hm.keys]; exact List.mem_map.2 ⟨p, hp, rfl⟩)) (fun _ => low_set hw' (List.mem_map.2 ⟨_, hm.mem, rfl⟩)) hst.dom⟩ hN _)⟩

/-- A conversion between kinds of numbers, of a number that fits. -/
theorem L.convert {k k' : IntKind} {s t : TypeId} {n : Int} (ho : all[ix]? = some ⟨some d, .convert s t x, ty, pos, aft, g⟩) (hr : ∀ w, (Go.convert s t (.int k n)).run P w = .ok (.int k' n) w) (hx : ev σ x = some (.int k n)) (hN : Nat.blt d X.N = true) (hg : Gok all σ g)
    (kk : WL P X bad all K Q os ((d, .int k' n) :: σ) μ Ds) : WL P X bad all K Q ((fl, ix) :: os) σ μ Ds :=
  L.pure ho rfl rfl hN hg (fun ρ hρ w' => by simp only [execOp, hρ x _ hx, Sem.run_bind, hr w', Result.andThen_ok, Sem.run_pure]) kk

/-- A conversion of a struct to another type of the same shape. -/
theorem L.convertA {s t : TypeId} {cs : Array Value} (ho : all[ix]? = some ⟨some d, .convert s t x, ty, pos, aft, g⟩) (hr : ∀ w, (Go.convert s t (.agg cs)).run P w = .ok (.agg cs) w) (hx : ev σ x = some (.agg cs)) (hN : Nat.blt d X.N = true) (hg : Gok all σ g)
    (kk : WL P X bad all K Q os ((d, .agg cs) :: σ) μ Ds) : WL P X bad all K Q ((fl, ix) :: os) σ μ Ds :=
  L.pure ho rfl rfl hN hg (fun ρ hρ w' => by simp only [execOp, hρ x _ hx, Sem.run_bind, hr w', Result.andThen_ok, Sem.run_pure]) kk

/-- A comparison whose run is known. -/
theorem L.eqlX {t t' : TypeId} {b : Bool} (ho : all[ix]? = some ⟨some d, .binOp .eql t x y t', ty, pos, aft, g⟩) (hr : ∀ w, ((do eqGuard .eql t x y u v; binOp .eql t u v) : Sem Value).run P w = .ok (.bool b) w) (hx : ev σ x = some u) (hy : ev σ y = some v) (hN : Nat.blt d X.N = true) (hg : Gok all σ g)
    (kk : WL P X bad all K Q os ((d, .bool b) :: σ) μ Ds) : WL P X bad all K Q ((fl, ix) :: os) σ μ Ds :=
  L.pure ho rfl rfl hN hg (fun ρ hρ w' => by simp only [execOp, hρ x _ hx, hρ y _ hy]; rw [Sem.run_bind, hr w']; rfl) kk
theorem L.neqX {t t' : TypeId} {b : Bool} (ho : all[ix]? = some ⟨some d, .binOp .neq t x y t', ty, pos, aft, g⟩) (hr : ∀ w, ((do eqGuard .neq t x y u v; binOp .neq t u v) : Sem Value).run P w = .ok (.bool b) w) (hx : ev σ x = some u) (hy : ev σ y = some v) (hN : Nat.blt d X.N = true) (hg : Gok all σ g)
    (kk : WL P X bad all K Q os ((d, .bool b) :: σ) μ Ds) : WL P X bad all K Q ((fl, ix) :: os) σ μ Ds :=
  L.pure ho rfl rfl hN hg (fun ρ hρ w' => by simp only [execOp, hρ x _ hx, hρ y _ hy]; rw [Sem.run_bind, hr w']; rfl) kk

theorem run_equal_bool {t : TypeId} {a b : Bool} (ht : P.underlying t = some .bool) (w : World) : (Op.equal t (.bool a) (.bool b)).run P w = .ok (a == b) w := by
  have h : (Op.equalIn (9999 + 1) t (.bool a) (.bool b)).run P w = .ok (a == b) w := by
    rw [Op.equalIn, Sem.run_bind, TU.of ht w]; rfl
  exact h

theorem L.eqlB {t t' : TypeId} {a b : Bool} (ho : all[ix]? = some ⟨some d, .binOp .eql t x y t', ty, pos, aft, g⟩) (ht : P.underlying t = some .bool) (hx : ev σ x = some (.bool a)) (hy : ev σ y = some (.bool b)) (hN : Nat.blt d X.N = true) (hg : Gok all σ g)
    (kk : WL P X bad all K Q os ((d, .bool (a == b)) :: σ) μ Ds) : WL P X bad all K Q ((fl, ix) :: os) σ μ Ds :=
  L.eqlX ho (fun w => by
    have hg : (eqGuard .eql t x y (.bool a) (.bool b)).run P w = .ok () w := rfl
    rw [Sem.run_bind, hg]
    show ((do Pure.pure (Value.bool (← Op.equal t (.bool a) (.bool b)))) : Sem Value).run P w = _
    rw [Sem.run_bind, run_equal_bool ht]; rfl) hx hy hN hg kk
theorem L.neqB {t t' : TypeId} {a b : Bool} (ho : all[ix]? = some ⟨some d, .binOp .neq t x y t', ty, pos, aft, g⟩) (ht : P.underlying t = some .bool) (hx : ev σ x = some (.bool a)) (hy : ev σ y = some (.bool b)) (hN : Nat.blt d X.N = true) (hg : Gok all σ g)
    (kk : WL P X bad all K Q os ((d, .bool (!(a == b))) :: σ) μ Ds) : WL P X bad all K Q ((fl, ix) :: os) σ μ Ds :=
  L.neqX ho (fun w => by
    have hg : (eqGuard .neq t x y (.bool a) (.bool b)).run P w = .ok () w := rfl
    rw [Sem.run_bind, hg]
    show ((do Pure.pure (Value.bool (!(← Op.equal t (.bool a) (.bool b))))) : Sem Value).run P w = _
    rw [Sem.run_bind, run_equal_bool ht]; rfl) hx hy hN hg kk

/-- Scopes and labels change nothing. -/
theorem C.label {n : Nat} (h : ∀ a w, Hl X σ μ Ds a w → Q .normal a w) : WC P X Q (.label n) σ μ Ds := fun a w hh => wpIn_label (h a w hh)


/-- An element of an array of numbers, out of the array's value. -/
theorem L.indexV {t e : TypeId} {n : Nat} {l : List Int} {k : IntKind} {i m : Int} (ho : all[ix]? = some ⟨some d, .index t x y, ty, pos, aft, g⟩) (ht : P.underlying t = some (.array n e)) (ha : TA P e false) (hs : TS P e 1) (hx : ev σ x = some (.agg (ints l).toArray)) (hy : ev σ y = some (.int k i)) (h0 : 0 ≤ i) (h1 : i < n) (hm : l[i.toNat]? = some m)
    (hN : Nat.blt d X.N = true) (hg : Gok all σ g) (kk : WL P X bad all K Q os ((d, .int .i64 m) :: σ) μ Ds) : WL P X bad all K Q ((fl, ix) :: os) σ μ Ds :=
  L.pure ho rfl rfl hN hg (fun ρ hρ w' => by
    have hg : (ints l).toArray[i.toNat]? = some (.int .i64 m) := by simpa using ints_get hm
    simp only [execOp, hρ x _ hx, hρ y _ hy]
    unfold Instr.index asIntOf part
    simp only [Sem.run_bind, TU.of ht w', Result.andThen_ok, hs w', ha w', Sem.run_pure, pure_bind, h0, h1, and_self, if_true, Nat.mul_one, Bool.false_eq_true, if_false, hg]) kk

theorem ints_snoc (l : List Int) (n : Int) : ints l ++ [.int .i64 n] = ints (l ++ [n]) := by simp [ints]
theorem ints_append (l m : List Int) : ints l ++ ints m = ints (l ++ m) := by simp [ints]

/-- A field of a struct's value. -/
theorem L.field {t f k ft : Nat} {cs : List Value} {fs : Array Field} (ho : all[ix]? = some ⟨some d, .field t x f, ty, pos, aft, g⟩) (ht : P.underlying t = some (.struct fs)) (hk : (fs[f]?).map (fun f => (f.offset, f.type)) = some (k, ft)) (ha : TA P ft false) (hx : ev σ x = some (.agg cs.toArray)) (hv : cs[k]? = some v)
    (hN : Nat.blt d X.N = true) (hg : Gok all σ g) (kk : WL P X bad all K Q os ((d, v) :: σ) μ Ds) : WL P X bad all K Q ((fl, ix) :: os) σ μ Ds :=
  L.pure ho rfl rfl hN hg (fun ρ hρ w' => by
    cases hf : fs[f]? with
    | none => simp [hf] at hk
    | some f0 =>
      simp only [hf, Option.map_some, Option.some.injEq, Prod.mk.injEq] at hk
      obtain ⟨rfl, rfl⟩ := hk
      have hv' : cs.toArray[f0.offset]? = some v := by simpa using hv
      simp only [execOp, hρ x _ hx]
      unfold Instr.field asAgg part
      simp only [Sem.run_bind, TU.of ht w', Result.andThen_ok, hf, ha w', Sem.run_pure, pure_bind, Bool.false_eq_true, if_false, hv']) kk


/-- A cell of data at a computed place. -/
theorem L.loadDI {t : TypeId} {D₁ : Data} {b k : Nat} {cs : List Value} (ho : all[ix]? = some ⟨some d, .load t x, ty, pos, aft, g⟩) (ha : TA P t false) (hx : ev σ x = some (.pointer (some ⟨b, k, none⟩))) (hA : At D₁ b 0 cs) (hD : D₁ ∈ Ds) (hv : cs[k]? = some v) (hb : b ∉ bad)
    (hN : Nat.blt d X.N = true) (hg : Gok all σ g) (kk : WL P X bad all K Q os ((d, v) :: σ) μ Ds) : WL P X bad all K Q ((fl, ix) :: os) σ μ Ds :=
  L.loadD1 (o := 0) (k := k) ho ha (by rw [Nat.zero_add]; exact hx) hA hD hv hb hN hg kk

/-- A loop in a function that calls yield: what the loop's owner knows goes by the letter, too. -/
theorem C.loopJ {γ : Type} {c : Code} {N lo : Nat} {J0 : Inv} (m : γ → Nat) (I : γ → Prop) (J : γ → Inv) (ch : γ → Slots) (rest : Slots) (M : γ → Boxes) (E : γ → List Data) (g₀ : γ) (h₀ : I g₀) (hJ : J0 = J g₀) (hch : Sub σ (ch g₀)) (hrest : Sub σ rest) (hμ : (M g₀).Sublist μ) (hD : ∀ D ∈ E g₀, ∃ D' ∈ Ds, Le D D')
    (round : ∀ g, I g → WC P (Xj N lo (J g)) (Exit.then (fun a w => ∃ g', I g' ∧ m g' < m g ∧ Hl (Xj N lo (J g')) (ch g' ++ rest) (M g') (E g') a w) Q) c (ch g ++ rest) (M g) (E g)) : WC P (Xj N lo J0) Q (.loop c) σ μ Ds := by
  subst hJ
  let p : Act → World → Nat → Prop := fun a w n => ∃ g, I g ∧ m g = n ∧ Hl (Xj N lo (J g)) (ch g ++ rest) (M g) (E g) a w
  have ex : ∀ a w, (∃ n, p a w n) → ∃ n, p a w n ∧ ∀ k, p a w k → n ≤ k := by
    intro a w ⟨n, hn⟩
    induction n using Nat.strongRecOn with
    | _ n ih =>
      by_cases h : ∃ k, k < n ∧ p a w k
      · obtain ⟨k, hk, hp⟩ := h; exact ih k hk hp
      · exact ⟨n, hn, fun k hk => Nat.le_of_not_lt fun hl => h ⟨k, hl, hk⟩⟩
  intro a w hh
  refine wpIn_loop (fun a w => ∃ n, p a w n) (fun a w => open Classical in if h : ∃ n, p a w n then (ex a w h).choose else 0) ⟨_, g₀, h₀, rfl, hh.weak (Sub.app hch hrest) hμ hD⟩ ?_
  intro a w hI
  obtain ⟨⟨g, hg, hm, hst⟩, hmin⟩ := (ex a w hI).choose_spec
  refine wpIn_mono (round g hg a w hst) fun e a' w' hq => ?_
  cases e with
  | normal =>
    obtain ⟨g', hg', hlt, hst'⟩ := hq
    have hI' : ∃ n, p a' w' n := ⟨_, g', hg', rfl, hst'⟩
    refine ⟨hI', ?_⟩
    simp only [dif_pos hI', dif_pos hI]
    have := (ex a' w' hI').choose_spec.2 _ ⟨g', hg', rfl, hst'⟩
    omega
  | _ => exact hq

theorem C.againJ {γ : Type} {N lo : Nat} {J1 : Inv} {m : γ → Nat} {I : γ → Prop} {J : γ → Inv} {ch : γ → Slots} {rest : Slots} {M : γ → Boxes} {E : γ → List Data} {g : γ} (n : Nat) (g' : γ) (h1 : I g') (h2 : m g' < m g) (hJ : J1 = J g') (hch : Sub σ (ch g')) (hn : dropOk n σ = true) (hr : σ.drop n = rest) (hμ : (M g').Sublist μ) (hD : ∀ D ∈ E g', ∃ D' ∈ Ds, Le D D') :
    ∀ a w, Hl (Xj N lo J1) σ μ Ds a w → Exit.then (fun a w => ∃ g', I g' ∧ m g' < m g ∧ Hl (Xj N lo (J g')) (ch g' ++ rest) (M g') (E g') a w) Q .normal a w := by
  subst hJ
  intro a w hh
  refine ⟨g', h1, h2, ?_⟩
  have h3 := hh.weak (σ' := ch g') hch hμ hD
  refine ⟨h3.1, fun s v hs => ?_, h3.2.2⟩
  rcases look_append hs with hs | hs
  · exact h3.2.1 s v hs
  · subst hr; exact hh.2.1 s v (look_drop n σ hn s v hs)

/-- A call of yield, the two ways out in one. -/
theorem L.yieldB {J J1 J0 : Inv} {l N lo : Nat} {c : Operand} {xs : Array Operand} {ats : Array TypeId} {vs : List Value} (ho : all[ix]? = some ⟨some d, .call { callee := .value c, args := xs, argTypes := ats }, ty, pos, aft, g⟩)
    (hc : ev σ c = some (.func (.yield l) #[] #[])) (hxs : evs σ xs.toList = some vs) (hfl : fl = false) (hs1 : Stb lo J1) (hs0 : Stb lo J0)
    (hY : ∀ D w, Dom lo D w → J (μ.map (·.1)) D w → (∀ p ∈ μ, p.1 < w.heap.size) → (∀ D₁ ∈ Ds, Le D₁ D) → YieldRuns P l vs w fun b D' w' => Dom lo D' w' ∧ High (μ.map (·.1)) D w D' w' ∧ (if b then J1 (μ.map (·.1)) D' w' else J0 (μ.map (·.1)) D' w'))
    (hN : Nat.blt d N = true) (hg : Gok all σ g)
    (kk : ∀ b J', J' = (if b = true then J1 else J0) → WL P (Xj N lo J') bad all K Q os ((d, .bool b) :: σ) μ Ds) : WL P (Xj N lo J) bad all K Q ((fl, ix) :: os) σ μ Ds :=
  L.yield (X := Xj N lo J) ho hc hxs rfl hfl rfl rfl hs1 hs0 hY hN hg (kk true J1 rfl) (kk false J0 rfl)

/-- The boxes are apart from each other. -/
theorem C.nd {c : Code} (k : (μ.map (·.1)).Nodup → WC P X Q c σ μ Ds) : WC P X Q c σ μ Ds := fun a w hh => k (by obtain ⟨_, _, _, D, h4, _⟩ := hh; exact h4.nd) a w hh

/-- A store of a whole block. -/
theorem L.storeW {t : TypeId} {b n : Nat} {vs us : List Value} {e : TypeId} {μ' : Boxes} (ho : all[ix]? = some ⟨none, .store t x y, ty, pos, aft, g⟩) (hx : ev σ x = some (.pointer (some ⟨b, 0, none⟩))) (hy : ev σ y = some v) (hv : v.cells = us.toArray) (hs : TS P t n)
    (hn : us.length = n) (hl : vs.length = n) (hm : Has μ b (.cells vs.toArray e (0, 0)) (.cells us.toArray e (0, 0)) μ') (hc1 : ∀ u ∈ us, cell1 u = true) (hg : Gok all σ g)
    (kk : WL P X bad all K Q os σ μ' Ds) : WL P X bad all K Q ((false, ix) :: os) σ μ Ds :=
  L.store ho hx hy hv (by rw [hn]; exact hs) hm (by omega) (by rw [List.take_zero, Nat.zero_add, List.drop_eq_nil_of_le (by omega)]; simp) hc1 hg kk

/-- The length of a slice that somebody owns. -/
theorem L.lenAcc {t e tr e' : TypeId} {n sz : Nat} {cells : List Value} {ν : Boxes} {ats : Array TypeId} (ho : all[ix]? = some ⟨some d, .call { callee := .builtin .len, args := #[x], argTypes := ats }, tr, pos, aft, g⟩) (ht : P.underlying t = some (.slice e)) (hx : ev σ x = some v) (hS : Acc e' sz v n cells ν) (hat : ats[0]? = some t)
    (hN : Nat.blt d X.N = true) (hg : Gok all σ g) (kk : WL P X bad all K Q os ((d, .int .i64 (n : Int)) :: σ) μ Ds) :
    WL P X bad all K Q ((fl, ix) :: os) σ μ Ds :=
  L.pure ho rfl rfl hN hg (fun ρ hρ w' => by
    have hx' := hρ x _ hx
    rcases hS with ⟨a, rfl, rfl, _⟩ | ⟨b, cap, junk, rfl, _⟩
    · simp [Builtin.len_, hat, hx', Sem.run_bind, TU.of ht w', goInt, Sem.run_pure, go_sem]
    · simp [Builtin.len_, hat, hx', Sem.run_bind, TU.of ht w', goInt, Sem.run_pure, go_sem]) kk

theorem Hl.dropBoxes {a : Act} {w : World} (n : Nat) (h : Hl X σ μ Ds a w) : Hl X σ (μ.drop n) Ds a w := by
  obtain ⟨h1, h2, h3, D, h4, h5, h6⟩ := h
  have hμ : (μ.drop n).Sublist μ := List.drop_sublist n μ
  exact ⟨h1, h2, h3, D, h4.sub (fun p hp => hμ.mem hp) ((hμ.map (·.1)).nodup h4.nd), h5, h6.step (fun _ p hp => Or.inl (List.mem_map.2 ⟨p, hμ.mem hp, rfl⟩)) (fun _ => Low.refl _ _ _) h4.dom⟩

theorem Acc.cells1 {e : TypeId} {sz n : Nat} {cells : List Value} {ν : Boxes} (h : Acc e sz v n cells ν) : v.cells = [v].toArray := by
  rcases h with ⟨a, rfl, _⟩ | ⟨b, cap, junk, rfl, _⟩ <;> rfl
theorem Acc.cell1 {e : TypeId} {sz n : Nat} {cells : List Value} {ν : Boxes} (h : Acc e sz v n cells ν) : ∀ u ∈ [v], Fs.cell1 u = true := by
  rcases h with ⟨a, rfl, _⟩ | ⟨b, cap, junk, rfl, _⟩ <;> simp [Fs.cell1]

/-! ### Scopes -/
theorem stepR_scope' {b : Frame} {a : Act} {k : List Item} {cs : List Frame} {w : World} {c : Code} : step P (lone (b.atR a (.code (.scope c) :: k)) cs w) = .next (lone (b.atR a (.code c :: .inScope c :: k)) cs w) :=
  step_lone_go (by simp [stepG, stepG.exec, Frame.atR])
theorem stepR_inScope' {b : Frame} {a : Act} {k : List Item} {cs : List Frame} {w : World} {c : Code} : step P (lone (b.atR a (.inScope c :: k)) cs w) = .next (lone (b.atR a k) cs w) :=
  step_lone_go (by simp [stepG, stepG.exec, Frame.atR])

def NoGoto (Q : Exit → Act → World → Prop) : Exit → Act → World → Prop
  | .goto _, _, _ => False
  | e, a, w => Q e a w

theorem wpIn_scope' {F : Fence} {n : Nat} {c : Code} {a : Act} {w : World} (h : c.wpIn F n P (NoGoto Q) a w) : (Code.scope c).wpIn F n P Q a w := by
  intro b k cs hro hb hr
  have h0 : (lone (b.atR a (.code (.scope c) :: k)) cs w).fenced P F := fenced_calm hb hr rfl
  obtain ⟨e, a₁, w₁, hq, harr⟩ := h b (.inScope c :: k) cs hro hb hr
  cases e with
  | normal => exact ⟨.normal, a₁, w₁, hq, .head h0 stepR_scope' (StepsIn.trans harr (.one (fenced_calm hb hr rfl) stepR_inScope'))⟩
  | exit id' =>
    have hx : exitTo id' (.inScope c :: k) = exitTo id' k := by simp [exitTo]
    exact ⟨.exit id', a₁, w₁, hq, fun k' hk => .head h0 stepR_scope' (harr.1 k' (by rw [hx]; exact hk)),
      fun hr' hk => let ⟨k₁, h1, h2⟩ := harr.2 hr' (by rw [hx]; exact hk); ⟨k₁, h1, .head h0 stepR_scope' h2⟩⟩
  | goto l => exact hq.elim
  | ret => exact ⟨_, a₁, w₁, hq, .of_steps (.one h0 stepR_scope') harr⟩
  | panic ch => exact ⟨_, a₁, w₁, hq, .of_steps (.one h0 stepR_scope') harr⟩
  | outgrown => exact ⟨_, a₁, w₁, hq, .of_steps (.one h0 stepR_scope') harr⟩

theorem C.scope {c : Code} (h : WC P X (NoGoto Q) c σ μ Ds) : WC P X Q (.scope c) σ μ Ds := fun a w hh => wpIn_scope' (h a w hh)
theorem C.scopeEnd (h : ∀ a w, Hl X σ μ Ds a w → Q .normal a w) : ∀ a w, Hl X σ μ Ds a w → NoGoto Q .normal a w := h
theorem C.scopeRet (h : ∀ a w, Hl X σ μ Ds a w → Q .ret a w) : ∀ a w, Hl X σ μ Ds a w → NoGoto Q .ret a w := h
theorem C.scopeExit {id : Nat} (h : ∀ a w, Hl X σ μ Ds a w → Q (.exit id) a w) : ∀ a w, Hl X σ μ Ds a w → NoGoto Q (.exit id) a w := h

theorem L.boxesEq (μ' : Boxes) (h : μ = μ') (k : WL P X bad all K Q os σ μ' Ds) : WL P X bad all K Q os σ μ Ds := h ▸ k
theorem C.boxesEq {c : Code} (μ' : Boxes) (h : μ = μ') (k : WC P X Q c σ μ' Ds) : WC P X Q c σ μ Ds := h ▸ k
theorem cell1_two {a b : Value} (ha : ∀ u ∈ [a], cell1 u = true) (hb : ∀ u ∈ [b], cell1 u = true) : ∀ u ∈ [a, b], cell1 u = true := by
  intro u hu
  rcases List.mem_cons.1 hu with rfl | hu
  · exact ha _ List.mem_cons_self
  · exact hb _ hu

theorem boxes_assoc2 {p q : Nat × Obj} {A B C : Boxes} : p :: q :: (A ++ (B ++ C)) = (p :: q :: A) ++ B ++ C := by simp

theorem Sl.cell1 {α : Type} {R : Rd α} {D : Data} {sz : Nat} {v : Value} {xs : List α} (h : Sl D R sz v xs) : ∀ u ∈ [v], Fs.cell1 u = true := by
  obtain ⟨a, cap, rfl, _⟩ := h; simp [Fs.cell1]

end Go.Fs
