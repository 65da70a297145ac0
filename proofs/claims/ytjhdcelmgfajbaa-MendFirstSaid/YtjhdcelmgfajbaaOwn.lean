/- Functions that hand over blocks of their own making; slices that the frame owns. -/
import Derived.Test.YtjhdcelmgfajbaaKeys
namespace Go.Fs

variable {P : Program} {X : Cx} {γb : Type} [Membership Nat γb] {bad : γb} {all : Array Oper} {K : Act → World → Prop} {Q : Exit → Act → World → Prop}
variable {σ : Slots} {μ : Boxes} {Ds : List Data} {os : List (Bool × Nat)} {fl : Bool} {ix : Nat}
variable {d : Nat} {x y z : Operand} {u v : Value} {ty : TypeId} {pos : String} {aft : Array Edge} {g : Option (Nat × Bool)}

/-- What a call of f comes to that hands over new blocks. -/
def FnO (P : Program) (f : FuncId) (args : Array Value) (D : Data) (post : Data → Value → Boxes → Prop) : Prop :=
  EF P f ∧ ∀ w, Agrees D w → Calls P f args w fun e w' => ∃ v D' ν, e = .returned v ∧ Sta (hd w) w.heap.size D [] ν D' w' ∧ post D' v ν

theorem enterO {f : FuncId} {fn : Func} {c : Code} {args : List Value} {D : Data} {post : Data → Value → Boxes → Prop} (N : Nat) (hf : P.funcs[f]? = some fn) (hn : (fn.name == "runtime.NumGoroutine") = false) (hb : fn.body = some c) (hN : fn.ntmps = N) (hsz : Nat.ble args.length N = true)
    (h : ∀ h0 : H0, WC P ⟨none, N, [], h0, h0.size, D, [], none⟩ (bodyPost P fn (Post ⟨none, N, [], h0, h0.size, D, [], none⟩ post)) c (slotsOf 0 args) [] [D]) : FnO P f args.toArray D post := by
  refine ⟨EF.of hf hn hb, fun w hw => ?_⟩
  subst hN
  have hsz := Nat.le_of_ble_eq_true hsz
  refine (callsIn_FW (r := none) (n := 0)).1 ((callsIn_of_wp (R := Post ⟨none, fn.ntmps, [], hd w, w.heap.size, D, [], none⟩ post) hf hb trivial (h (hd w) _ w ⟨?_, fun s v hs => ?_, rfl, D, ⟨Nat.le_refl _, Nat.le_refl _, fun _ _ _ => rfl, fun _ _ => rfl, hw, (fun p hp => by cases hp), List.nodup_nil, fun b o hb ho => absurd (lt_of_some ho) (Nat.not_lt_of_le (hb.resolve_right (by simp))), fun e he => Option.some.inj he⟩, fun D₁ h1 => ?_, trivial⟩) rfl).mono ?_)
  · simp; omega
  · obtain ⟨_, h2⟩ := look_slotsOf args 0 s v hs
    have hl := (List.getElem?_eq_some_iff.1 h2).1
    simp only [Nat.sub_zero] at h2 hl
    show (args.toArray ++ _)[s]? = some v
    rw [Array.getElem?_append_left (by simpa using hl)]
    simpa using h2
  · simp only [List.mem_singleton] at h1; subst h1; exact Le.refl _
  · rintro e w' ⟨v, D', μ', rfl, hs, hp⟩
    exact ⟨v, D', μ', rfl, hs, hp⟩

theorem Sta.afterO {h0 : H0} {lo : Nat} {D0 D D' : Data} {mods : List Nat} {μ ν : Boxes} {w w' : World} (h : Sta h0 lo D0 mods μ D w) (hs : Sta (hd w) w.heap.size D [] ν D' w') : Sta h0 lo D0 mods (ν ++ μ) D' w' := by
  have h1 := h.after (hs.sub (μ' := []) (fun p hp => by cases hp) List.nodup_nil)
  have hge : ∀ p ∈ ν, w.heap.size ≤ p.1 := fun p hp => (hs.box p hp).2.2.resolve_right (by simp)
  refine ⟨h1.hlo, h1.size, h1.old, h1.dold, h1.agr, fun p hp => ?_, ?_, h1.fz, h1.env⟩
  · rcases List.mem_append.1 hp with hp | hp
    · obtain ⟨a, b, _⟩ := hs.box p hp
      exact ⟨a, b, Or.inl (Nat.le_trans h.size (hge p hp))⟩
    · exact h1.box p hp
  · rw [List.map_append, List.nodup_append]
    refine ⟨hs.nd, h.nd, fun a ha b hb => ?_⟩
    obtain ⟨p, hp, rfl⟩ := List.mem_map.1 ha
    obtain ⟨q, hq, rfl⟩ := List.mem_map.1 hb
    have := hge p hp
    have := lt_of_some (h.box q hq).1
    omega

/-- **A CALL** of a function that hands over new blocks. -/
theorem L.callO {c : Operand} {xs : Array Operand} {ats : Array TypeId} {f : FuncId} {c1 c2 : List Value} {vs : List Value} {post : Data → Value → Boxes → Prop} (ho : all[ix]? = some ⟨some d, .call { callee := .value c, args := xs, argTypes := ats }, ty, pos, aft, g⟩) (hc : ev σ c = some (.func (.func f) c1.toArray c2.toArray)) (hxs : evs σ xs.toList = some vs)
    (hf : ∀ D, (∀ D₁ ∈ Ds, Le D₁ D) → FnO P f (c1 ++ vs ++ c2).toArray D post) (hN : Nat.blt d X.N = true) (hg : Gok all σ g)
    (kk : ∀ v D ν, (∀ D₁ ∈ Ds, Le D₁ D) → post D v ν → WL P X bad all K Q os ((d, v) :: σ) (ν ++ μ) (D :: Ds)) :
    WL P X bad all K Q ((fl, ix) :: os) σ μ Ds := by
  refine L.loud ho rfl rfl hg fun a w hh => ?_
  obtain ⟨h1, h2, h3, D, h4, h5, h6⟩ := id hh
  have hF := hf D h5
  rw [run_call hF.1 (hh.eval hc) (evs_eval (fun _ _ hx => hh.eval hx) hxs)]
  refine ⟨fun h => by simp [FW] at h, callsIn_FW.2 ((hF.2 w h4.agr).mono ?_)⟩
  rintro e w' ⟨v, D', ν, rfl, hs, hpost⟩
  have hle := le_of_call h4.agr hs
  refine ⟨fun _ => hs.keep bad, kk v D' ν (fun D₁ hD₁ => (h5 D₁ hD₁).trans hle) hpost _ _ ?_⟩
  refine Hl.put ⟨h1, h2, h3, D', h4.afterO hs, fun D₁ hD₁ => ?_, h6.step (fun _ p hp => ?_) (fun _ => hs.low _) (h4.afterO hs).dom⟩ hN v
  · rcases List.mem_cons.1 hD₁ with rfl | hD₁
    · exact Le.refl _
    · exact (h5 D₁ hD₁).trans hle
  · rcases List.mem_append.1 hp with hp | hp
    · exact Or.inr ((hs.box p hp).2.2.resolve_right (by simp))
    · exact Or.inl (List.mem_map.2 ⟨p, hp, rfl⟩)

/-- A pointer into a slice that lies at a plain address. -/
theorem L.indexP {t e : TypeId} {sz b o n cap : Nat} {k : IntKind} {i : Int} (ho : all[ix]? = some ⟨some d, .indexAddr t x y, ty, pos, aft, g⟩) (ht : P.underlying t = some (.slice e)) (hs : TS P e sz) (hx : ev σ x = some (.slice (some ⟨b, o, none⟩) n cap))
    (hy : ev σ y = some (.int k i)) (h0 : 0 ≤ i) (hi : i < n) (hN : Nat.blt d X.N = true) (hg : Gok all σ g)
    (kk : WL P X bad all K Q os ((d, .pointer (some ⟨b, o + i.toNat * sz, none⟩)) :: σ) μ Ds) : WL P X bad all K Q ((fl, ix) :: os) σ μ Ds :=
  L.pure ho rfl rfl hN hg (fun ρ hρ w' => by
    simp only [execOp, hρ x _ hx, hρ y _ hy]
    unfold Instr.indexAt asIntOf
    simp only [Sem.run_bind, TU.of ht w', Result.andThen_ok, hs w', Sem.run_pure, pure_bind, h0, hi, and_self, if_true, add_plain]) kk

theorem Acc.some {e : TypeId} {sz n : Nat} {cells : List Value} {ν : Boxes} (h : Acc e sz v n cells ν) (hn : 0 < n) : ∃ b cap junk, v = .slice (some ⟨b, 0, none⟩) n cap ∧ n ≤ cap ∧ ν = [(b, .cells (cells ++ junk).toArray e (0, 0))] ∧ cells.length = n * sz ∧ (cells ++ junk).length = cap * sz := by
  rcases h with ⟨_, _, h0, _⟩ | h
  · omega
  · exact h

/-- 'make' of a slice of so many zeros, that never changes again. -/
theorem L.makeSliceD {t e : TypeId} {sz n : Nat} {z0 : Value} {zs cs : List Value} {k k' : IntKind} (ho : all[ix]? = some ⟨some d, .makeSlice t x y, ty, pos, aft, g⟩) (ht : P.underlying t = some (.slice e)) (hs : TS P e sz) (hz : TZ P e z0) (hzc : z0.cells = zs.toArray) (hi : (P.info? e).map (fun i => Nat.ble 1 i.bytes && Nat.ble i.bytes 4096) = some true)
    (hx : ev σ x = some (.int k n)) (hy : ev σ y = some (.int k' n)) (hn : Nat.ble n 10000 = true) (hnz : Nat.beq (n * sz) 0 = false) (hcs : ((Array.range (n * sz)).map (zs.toArray[· % zs.toArray.size]!)).toList = cs) (hN : Nat.blt d X.N = true) (hg : Gok all σ g)
    (kk : ∀ b D, (∀ D₁ ∈ Ds, Le D₁ D) → At D b 0 cs → WL P X bad all K Q os ((d, .slice (some ⟨b, 0, none⟩) n n) :: σ) μ (D :: Ds)) : WL P X bad all K Q ((fl, ix) :: os) σ μ Ds := by
  refine L.loud ho rfl rfl hg fun a w hh => ?_
  obtain ⟨h1, h2, h3, D, h4, h5, h6⟩ := id hh
  have hn' : n ≤ 10000 := Nat.le_of_ble_eq_true hn
  obtain ⟨i0, hi0, hb⟩ := Option.map_eq_some_iff.1 hi
  simp only [Bool.and_eq_true] at hb
  have hb1 := Nat.le_of_ble_eq_true hb.1
  have hb2 := Nat.le_of_ble_eq_true hb.2
  have hti : ∀ w, (typeInfo e).run P w = .ok i0 w := fun w => by simp [typeInfo, program, Sem.run, hi0, go_sem]
  have hw : IntKind.i64.wrap (n : Int) = n := wrap_in (by simp only [inK]; omega)
  have hbn : i0.bytes * n ≤ 4096 * 10000 := Nat.mul_le_mul hb2 hn'
  have hlarge : (((n : Int) < 0) || decide ((i0.bytes : Int) * n > 2 ^ 48)) = false := by
    have : ((i0.bytes * n : Nat) : Int) ≤ 40960000 := by omega
    rw [Int.natCast_mul] at this
    simp only [Bool.or_eq_false_iff, decide_eq_false_iff_not]
    constructor
    · omega
    · omega
  have hnz' : ¬ n * sz = 0 := fun h => by rw [h] at hnz; simp at hnz
  have hzz : ∀ w, (zeroValue e).run P w = .ok z0 w := hz
  have hrun : (execOp a.eval ⟨some d, .makeSlice t x y, ty, pos, aft, g⟩).run P w = .ok (.value (.slice (some ⟨w.heap.size, 0, none⟩) n n)) { w with heap := w.heap.push (.cells cs.toArray e (0, 0)) } := by
    have hcs' : (Array.range (n * sz)).map (zs.toArray[· % zs.toArray.size]!) = cs.toArray := by rw [← hcs]
    have hai : ∀ (k : IntKind) (m : Int) (w : World), (asInt (.int k m)).run P w = .ok m w := fun _ _ _ => rfl
    simp only [execOp, Instr.makeSlice, hh.eval hx, hh.eval hy, hai, Sem.run_bind, TU.of ht w, Result.andThen_ok, Sem.run_pure, hti, hw, pure_bind]
    rw [if_neg (by simp only [Bool.or_eq_true, decide_eq_true_eq, not_or]; exact ⟨⟨by simpa using hlarge, by omega⟩, by omega⟩)]
    simp only [Sem.run_bind, run_askRoom, Result.andThen_ok, hs w, Int.toNat_natCast]
    rw [if_neg hnz']
    simp only [Sem.run_bind, hzz, Result.andThen_ok, Sem.run_pure, hzc, hcs', run_newRow]
  rw [hrun]
  obtain ⟨D', hle, hD', hDo, hs'⟩ := h4.pushD cs e
  refine ⟨fun _ => keep_push _ _ _, kk w.heap.size D' (fun D₁ hD₁ => (h5 D₁ hD₁).trans hle) (fun j v hj => by rw [hD']; simpa using hj) _ _ (Hl.put ⟨h1, h2, h3, D', hs', fun D₁ hD₁ => ?_, h6.step (fun _ p hp => Or.inl (List.mem_map.2 ⟨p, hp, rfl⟩)) (fun _ => ⟨by simp, fun b hb _ => ⟨heap_push_lt hb, hDo b (by omega)⟩, rfl⟩) hs'.dom⟩ hN _)⟩
  rcases List.mem_cons.1 hD₁ with rfl | hD₁
  · exact Le.refl _
  · exact (h5 D₁ hD₁).trans hle

/-- A number laid into a slice of numbers that the frame owns. -/
theorem L.storeO {t : TypeId} {b k : Nat} {l : List Int} {junk : List Value} {n : Int} {e : TypeId} {μ' : Boxes} (ho : all[ix]? = some ⟨none, .store t x y, ty, pos, aft, g⟩) (hs : TS P t 1) (hx : ev σ x = some (.pointer (some ⟨b, 0 + k * 1, none⟩))) (hy : ev σ y = some (.int .i64 n))
    (hm : Has μ b (.cells (ints l ++ junk).toArray e (0, 0)) (.cells (ints (l.set k n) ++ junk).toArray e (0, 0)) μ') (hl : k < l.length) (hg : Gok all σ g)
    (kk : WL P X bad all K Q os σ μ' Ds) : WL P X bad all K Q ((false, ix) :: os) σ μ Ds := by
  have hil : (ints l).length = l.length := ints_length l
  refine L.store (off := k) (us := [.int .i64 n]) (vs := ints l ++ junk) (ws := ints (l.set k n) ++ junk) ho (by rw [hx, Nat.zero_add, Nat.mul_one]) hy rfl hs hm (by simp [hil]; omega) ?_ (fun u hu => by simp at hu; subst hu; rfl) hg kk
  rw [show ints (l.set k n) = (ints l).set k (.int .i64 n) by simp [ints, List.map_set], List.set_eq_take_append_cons_drop, if_pos (by rw [hil]; exact hl)]
  rw [List.take_append_of_le_length (by rw [hil]; omega), List.drop_append_of_le_length (by rw [hil]; simp; omega)]
  simp

end Go.Fs
