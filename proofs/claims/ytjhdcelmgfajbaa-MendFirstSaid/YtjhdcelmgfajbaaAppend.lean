/- A slice of the frame's own that is appended to, and how it becomes data. -/
import Derived.Test.YtjhdcelmgfajbaaMore
namespace Go.Fs

variable {P : Program} {X : Cx} {γb : Type} [Membership Nat γb] {bad : γb} {all : Array Oper} {K : Act → World → Prop} {Q : Exit → Act → World → Prop}
variable {σ : Slots} {μ : Boxes} {Ds : List Data} {os : List (Bool × Nat)} {fl : Bool} {ix : Nat}
variable {d : Nat} {x y z : Operand} {u v : Value} {ty : TypeId} {pos : String} {aft : Array Edge} {g : Option (Nat × Bool)}

/-- A slice value that owns its block: n elements, their cells, and the block among the boxes (none, while nothing has been appended). -/
def Acc (e : TypeId) (sz : Nat) (v : Value) (n : Nat) (cells : List Value) (ν : Boxes) : Prop :=
  (∃ a, v = .slice a 0 0 ∧ n = 0 ∧ cells = [] ∧ ν = []) ∨
  (∃ b cap junk, v = .slice (some ⟨b, 0, none⟩) n cap ∧ n ≤ cap ∧ ν = [(b, .cells (cells ++ junk).toArray e (0, 0))] ∧ cells.length = n * sz ∧ (cells ++ junk).length = cap * sz)

theorem Acc.nil {e : TypeId} {sz : Nat} {a : Option Addr} : Acc e sz (.slice a 0 0) 0 [] [] := Or.inl ⟨a, rfl, rfl, rfl, rfl⟩

theorem run_loadCells {w : World} {b o : Nat} {vs : List Value} {n : Nat} (hn : vs.length = n) (h : Lies w b o vs) : (loadCells ⟨b, o, none⟩ n).run P w = .ok vs.toArray w := by
  unfold loadCells
  rw [run_loadCellsFrom n 0 #[] vs hn (fun j v hj => by rw [show o + (0 + j) = o + j by omega]; exact h j v hj)]
  simp

/-- What is appended: some cells of data. -/
def Src (D : Data) (x : Value) (m : Nat) (xs : List Value) : Prop := (∃ a c, x = .slice a 0 c ∧ m = 0 ∧ xs = []) ∨ (∃ b o c, x = .slice (some ⟨b, o, none⟩) m c ∧ At D b o xs)

theorem run_firstCells {D : Data} {w : World} {x : Value} {m sz : Nat} {xs : List Value} (h : Src D x m xs) (hl : xs.length = m * sz) (hw : ∀ b o, At D b o xs → Lies w b o xs) : (Builtin.firstCells sz m x).run P w = .ok xs.toArray w := by
  rcases h with ⟨a, c, rfl, rfl, rfl⟩ | ⟨b, o, c, rfl, hA⟩
  · cases a with
    | none => rfl
    | some a => simp [Builtin.firstCells, loadCells, loadCellsFrom, Sem.run_pure]
  · simp only [Builtin.firstCells]
    exact run_loadCells hl (hw b o hA)

theorem lenOf_src {D : Data} {w : World} {x : Value} {m : Nat} {xs : List Value} (h : Src D x m xs) : (Builtin.lenOf x).run P w = .ok m w := by
  rcases h with ⟨a, c, rfl, rfl, rfl⟩ | ⟨b, o, c, rfl, hA⟩ <;> rfl

theorem nextcap_le {need cap : Nat} (h : cap < need) : Builtin.nextslicecap need cap ≤ 2 * need + 768 := by
  unfold Builtin.nextslicecap
  split
  · omega
  · split
    · omega
    · have key : ∀ (r c : Nat), c < need + need / 4 + 400 → Builtin.growBy need r c ≤ 2 * need + 768 := by
        intro r
        induction r with
        | zero => intro c hc; simp only [Builtin.growBy]; omega
        | succ r ih =>
          intro c hc
          simp only [Builtin.growBy]
          split
          · omega
          · exact ih _ (by omega)
      exact key _ _ (by omega)

theorem run_askRoom {w : World} {n : Nat} : (askRoom n).run P w = .ok () w := by unfold askRoom; split <;> rfl

theorem zeroCells_size (z : Array Value) (n : Nat) : (Builtin.zeroCells z n).size = n * z.size := by simp [Builtin.zeroCells]

section run
variable {t e tr : TypeId} {sz : Nat} {z0 : Value} {i0 : TypeInfo} {ats : Array TypeId}

/-- append where there is room. -/
theorem run_append_fits (ht : P.underlying t = some (.slice e)) (hat : ats[0]? = some t) (hat1 : ats[1]? = some t) (hs : TS P e sz) {w : World} {a : Option Addr} {n cap m : Nat} {xv : Value} {xs : List Value}
    (hm : (Builtin.lenOf xv).run P w = .ok m w) (hx : (Builtin.firstCells sz m xv).run P w = .ok xs.toArray w) (hle : n + m ≤ cap) {w' : World}
    (hst : (match a with | some a => storeCells (a.add (n * sz)) xs | none => pure () : Sem Unit).run P w = .ok () w') :
    (Builtin.append_ ats tr #[.slice a n cap, xv]).run P w = .ok (.slice a (n + m) cap) w' := by
  have e1 : (#[Value.slice a n cap, xv] : Array Value)[0]? = some (.slice a n cap) := rfl
  have e2 : (#[Value.slice a n cap, xv] : Array Value)[1]? = some xv := rfl
  unfold Builtin.append_
  simp only [hat, hat1, e1, e2, Sem.run_bind, TU.of ht w, Result.andThen_ok, hs w, Sem.run_pure, Bool.false_eq_true, if_false, hm, Bool.not_false, if_true, hle, hx]
  cases a with
  | none =>
    have : w' = w := by
      have h : (pure () : Sem Unit).run P w = .ok () w' := hst
      rw [Sem.run_pure] at h
      cases h; rfl
    subst this; rfl
  | some a =>
    have h : (storeCells (a.add (n * sz)) xs).run P w = .ok () w' := hst
    simp only [Sem.run_bind, h, Result.andThen_ok, Sem.run_pure]

/-- append where a new block is made. -/
theorem run_append_grows (ht : P.underlying t = some (.slice e)) (hat : ats[0]? = some t) (hat1 : ats[1]? = some t) (hs : TS P e sz) (hz : TZ P e z0) (hi : P.info? e = some i0) {w : World} {a : Option Addr} {n cap m : Nat} {xv : Value} {old xs : List Value}
    (hm : (Builtin.lenOf xv).run P w = .ok m w) (hx : ∀ w', w'.heap = w.heap → (Builtin.firstCells sz m xv).run P w' = .ok xs.toArray w') (ho : ∀ w', w'.heap = w.heap → (Builtin.firstCells sz n (.slice a n cap)).run P w' = .ok old.toArray w')
    (hgt : cap < n + m) (hlen : n + m ≤ 10000000) (hb : 1 ≤ i0.bytes ∧ i0.bytes ≤ 4096) :
    ∃ c, n + m ≤ c ∧ (Builtin.append_ ats tr #[.slice a n cap, xv]).run P w = .ok (.slice (some ⟨w.heap.size, 0, none⟩) (n + m) c)
      { w with drawn := w.drawn + 1, heap := w.heap.push (.cells (old.toArray ++ xs.toArray ++ Builtin.zeroCells z0.cells (c - (n + m))) e (0, 0)) } := by
  have e1 : (#[Value.slice a n cap, xv] : Array Value)[0]? = some (.slice a n cap) := rfl
  have e2 : (#[Value.slice a n cap, xv] : Array Value)[1]? = some xv := rfl
  have hti : ∀ w, (typeInfo e).run P w = .ok i0 w := fun w => by simp [typeInfo, program, Sem.run, hi, go_sem]
  have hcapn := nextcap_le hgt
  have hbig : ¬ Builtin.nextslicecap (n + m) cap * i0.bytes > 2 ^ 48 := by
    have : Builtin.nextslicecap (n + m) cap * i0.bytes ≤ (2 * (n + m) + 768) * 4096 := Nat.mul_le_mul hcapn hb.2
    omega
  have hch : (choose (.appendCap (n + m) cap e)).run P w = .ok ((n + m) + (w.tape w.drawn (.appendCap (n + m) cap e)) % (2 ^ 63 - (n + m))) { w with drawn := w.drawn + 1 } := by
    simp [choose, Sem.run, Question.forced, Question.cut]
  refine ⟨(n + m) + (w.tape w.drawn (.appendCap (n + m) cap e)) % (2 ^ 63 - (n + m)), Nat.le_add_right _ _, ?_⟩
  unfold Builtin.append_
  have hnot : ¬ (n + m ≤ cap) := by omega
  have hmax : ¬ (((n + m : Nat) : Int) > IntKind.i64.max ∧ (false = true ∨ i0.bytes = 0)) := by
    rintro ⟨_, h | h⟩
    · cases h
    · omega
  simp only [hat, hat1, e1, e2, Sem.run_bind, TU.of ht w, Result.andThen_ok, hs w, Sem.run_pure, Bool.false_eq_true, if_false, hm, Bool.not_false, if_true, hnot, hti]
  rw [if_neg (by rintro ⟨_, h | h⟩; exact h.elim; omega)]
  simp only [Sem.run_bind, Result.andThen_ok, hti]
  rw [if_neg hbig]
  have hzz : ∀ w, (zeroValue e).run P w = .ok z0 w := hz
  simp only [Sem.run_bind, Sem.run_pure, Result.andThen_ok, hti, hch, run_askRoom, hzz, ho { w with drawn := w.drawn + 1 } rfl, hx { w with drawn := w.drawn + 1 } rfl, run_newRow]

end run


/-- **append**: the slice of the frame's own with the new cells behind it. -/
theorem L.append {A B ν : Boxes} {D₁ : Data} {t e tr : TypeId} {sz n m : Nat} {cells xs : List Value} {xv : Value} {z0 : Value} {ats : Array TypeId}
    (ho : all[ix]? = some ⟨some d, .call { callee := .builtin .append, args := #[x, y], argTypes := ats }, tr, pos, aft, g⟩) (ht : P.underlying t = some (.slice e)) (hat : ats[0]? = some t) (hat1 : ats[1]? = some t)
    (hs : TS P e sz) (hz : TZ P e z0) (hz1 : Nat.beq z0.cells.size sz = true) (hi : (P.info? e).map (fun i => Nat.ble 1 i.bytes && Nat.ble i.bytes 4096) = some true) (hsz1 : Nat.ble 1 sz = true)
    (hx : ev σ x = some v) (hy : ev σ y = some xv) (hacc : Acc e sz v n cells ν) (hsrc : Src D₁ xv m xs) (hD : D₁ ∈ Ds) (hxl : xs.length = m * sz) (hcl : cells.length = n * sz) (hx1 : ∀ u ∈ xs, cell1 u = true) (hlen : n + m ≤ 10000000)
    (hfl : fl = false ∨ ∀ p ∈ ν, p.1 ∈ bad)
    (hN : Nat.blt d X.N = true) (hg : Gok all σ g)
    (kk : ∀ v' ν', Acc e sz v' (n + m) (cells ++ xs) ν' → WL P X bad all K Q os ((d, v') :: σ) (A ++ ν' ++ B) Ds) : WL P X bad all K Q ((fl, ix) :: os) σ (A ++ ν ++ B) Ds := by
  refine L.loud ho rfl rfl hg fun a w hh => ?_
  obtain ⟨h1, h2, h3, D, h4, h5, h6⟩ := id hh
  obtain ⟨i0, hi, hb1, hb2⟩ : ∃ i0, P.info? e = some i0 ∧ 1 ≤ i0.bytes ∧ i0.bytes ≤ 4096 := by
    cases h : P.info? e with
    | none => simp [h] at hi
    | some i => simp [h] at hi; exact ⟨i, rfl, hi⟩
  have hsz : 1 ≤ sz := Nat.le_of_ble_eq_true hsz1
  have hz1' := Nat.eq_of_beq_eq_true hz1
  have hlies : ∀ w', w'.heap = w.heap → ∀ b o, At D₁ b o xs → Lies w' b o xs := by
    intro w' hw' b o hA j u hj
    have := h4.agr.cell ((h5 D₁ hD).get (hA j u hj))
    unfold World.cell? at this ⊢
    rw [hw']; exact this
  have hex : (execOp a.eval ⟨some d, .call { callee := .builtin .append, args := #[x, y], argTypes := ats }, tr, pos, aft, g⟩).run P w =
      ((Builtin.append_ ats tr #[v, xv]).run P w).andThen fun r w' => .ok (.value r) w' := by
    simp only [execOp, resolve, pure_bind, invoke, builtin]
    have e1 : (#[x, y].map a.eval) = #[v, xv] := by simp [hh.eval hx, hh.eval hy]
    rw [e1, Sem.run_bind]
    simp only [Sem.run_pure]
  rw [hex]
  have hm := lenOf_src (P := P) (w := w) hsrc
  have hfc : ∀ w', w'.heap = w.heap → (Builtin.firstCells sz m xv).run P w' = .ok xs.toArray w' := fun w' hw' => run_firstCells hsrc hxl (hlies w' hw')
  -- a new block
  have grow : ∀ (old : Option Addr) (cap : Nat), v = .slice old n cap → cap < n + m → (∀ w', w'.heap = w.heap → (Builtin.firstCells sz n (.slice old n cap)).run P w' = .ok cells.toArray w') →
      Oper.uponIn (FW X.r) 0 P ⟨some d, .call { callee := .builtin .append, args := #[x, y], argTypes := ats }, tr, pos, aft, g⟩ a (fun a' w' => (fl = true → Keep bad w w') ∧ wpL X.r bad P all K Q (opsAt all os) a' w') Q
        (((Builtin.append_ ats tr #[v, xv]).run P w).andThen fun r w' => .ok (.value r) w') := by
    intro old cap hv hgt hold
    obtain ⟨c, hc, hrun⟩ := run_append_grows (tr := tr) ht hat hat1 hs hz hi hm hfc hold hgt hlen ⟨hb1, hb2⟩
    rw [hv, hrun]
    obtain ⟨junk, hjunk⟩ : ∃ junk : List Value, cells.toArray ++ xs.toArray ++ Builtin.zeroCells z0.cells (c - (n + m)) = (cells ++ xs ++ junk).toArray ∧ (cells ++ xs ++ junk).length = c * sz := by
      refine ⟨(Builtin.zeroCells z0.cells (c - (n + m))).toList, by simp, ?_⟩
      have := zeroCells_size z0.cells (c - (n + m))
      simp only [List.length_append, Array.length_toList, this, hz1', hcl, hxl]
      rw [← Nat.add_mul, ← Nat.add_mul]
      congr 1; omega
    have hpush := h4.push (.cells (cells ++ xs ++ junk).toArray e (0, 0)) rfl
    simp only [Result.andThen_ok]
    rw [hjunk.1]
    refine ⟨fun _ => ⟨by simp, fun b hb _ => heap_push_lt hb⟩, ?_⟩
    have hst : Sta X.h0 X.lo X.D0 X.mods (A ++ [(w.heap.size, .cells (cells ++ xs ++ junk).toArray e (0, 0))] ++ B) D { w with drawn := w.drawn + 1, heap := w.heap.push (.cells (cells ++ xs ++ junk).toArray e (0, 0)) } := by
      have h := hpush.sub (μ' := A ++ [(w.heap.size, .cells (cells ++ xs ++ junk).toArray e (0, 0))] ++ B) (fun p hp => by
        simp only [List.mem_append, List.mem_cons] at hp ⊢
        rcases hp with (hp | hp) | hp
        · exact Or.inr (Or.inl (Or.inl hp))
        · exact Or.inl (hp.resolve_right (by simp))
        · exact Or.inr (Or.inr hp)) (by
        have hn := hpush.nd
        simp only [List.map_cons, List.map_append, List.nodup_cons, List.mem_append, not_or] at hn
        obtain ⟨⟨⟨ha, _⟩, hb⟩, hn⟩ := hn
        rw [List.nodup_append, List.nodup_append] at hn
        simp only [List.map_append, List.map_cons, List.map_nil]
        rw [List.nodup_append, List.nodup_append]
        refine ⟨⟨hn.1.1, by simp, fun q hq r hr => ?_⟩, hn.2.1, fun q hq r hr => ?_⟩
        · simp only [List.mem_singleton] at hr
          rintro rfl; exact ha (hr ▸ hq)
        · simp only [List.mem_append, List.mem_singleton] at hq
          rcases hq with hq | hq
          · exact hn.2.2 q (List.mem_append_left _ hq) r hr
          · rintro rfl; exact hb (hq ▸ hr))
      exact ⟨h.hlo, h.size, h.old, h.dold, h.agr, h.box, h.nd, h.fz, h.env⟩
    exact kk _ _ (Or.inr ⟨_, c, junk, rfl, hc, rfl, by simp [hcl, hxl, Nat.add_mul], hjunk.2⟩) _ _ (Hl.put ⟨h1, h2, h3, D, hst, h5, h6.step (fun _ p hp => by
      rcases List.mem_append.1 hp with hp | hp
      · rcases List.mem_append.1 hp with hp | hp
        · exact Or.inl (List.mem_map.2 ⟨p, List.mem_append_left _ (List.mem_append_left _ hp), rfl⟩)
        · exact Or.inr (by rw [List.mem_singleton.1 hp]; exact Nat.le_refl _)
      · exact Or.inl (List.mem_map.2 ⟨p, List.mem_append_right _ hp, rfl⟩)) (fun _ => ⟨by simp, fun b hb _ => ⟨heap_push_lt hb, rfl⟩, rfl⟩) hst.dom⟩ hN _)
  rcases hacc with ⟨old, hv, hn, hc, hν⟩ | ⟨b, cap, junk, hv, hncap, hν, hl1, hl2⟩
  · subst hn; subst hc; subst hν
    by_cases h0 : m = 0
    · subst h0
      have hxs : xs = [] := List.length_eq_zero_iff.1 (by simpa using hxl)
      subst hxs
      rw [hv, run_append_fits (tr := tr) (w' := w) ht hat hat1 hs hm (hfc w rfl) (Nat.le_refl _) (by cases old <;> rfl)]
      refine ⟨fun _ => Keep.refl _ _, kk _ [] (Or.inl ⟨old, rfl, rfl, rfl, rfl⟩) _ _ (Hl.put hh hN _)⟩
    · refine grow old 0 hv (by omega) fun w' _ => ?_
      cases old with
      | none => rfl
      | some a => simp [Builtin.firstCells, loadCells, loadCellsFrom, Sem.run_pure]
  · subst hν
    have hbx := (h4.box (b, .cells (cells ++ junk).toArray e (0, 0)) (by simp)).1
    by_cases hfit : n + m ≤ cap
    · have hjl : xs.length ≤ junk.length := by
        have h1 : (n + m) * sz ≤ cap * sz := Nat.mul_le_mul_right sz hfit
        rw [← hl2, Nat.add_mul, List.length_append, hcl] at h1
        omega
      have hcl1 : n * sz + 0 + xs.length ≤ (cells ++ junk).length := by rw [List.length_append, hcl]; omega
      obtain ⟨w', hr, hw'⟩ := run_storeCells (P := P) xs 0 w b (n * sz) (cells ++ junk) e hbx hcl1 hx1
      have htk : (cells ++ junk).take (n * sz + 0) ++ xs ++ (cells ++ junk).drop (n * sz + 0 + xs.length) = cells ++ xs ++ junk.drop xs.length := by
        rw [← hcl, Nat.add_zero, List.take_left, List.drop_append, List.drop_eq_nil_of_le (by omega)]
        simp
      rw [htk] at hw'
      rw [hv, run_append_fits (tr := tr) (w' := w') ht hat hat1 hs hm (hfc w rfl) hfit (by
        show (storeCells ((⟨b, 0, none⟩ : Addr).add (n * sz)) xs).run P w = _
        rw [add_plain, Nat.zero_add]; exact hr)]
      have hHas : Has (A ++ [(b, .cells (cells ++ junk).toArray e (0, 0))] ++ B) b (.cells (cells ++ junk).toArray e (0, 0)) (.cells (cells ++ xs ++ junk.drop xs.length).toArray e (0, 0)) (A ++ [(b, .cells (cells ++ xs ++ junk.drop xs.length).toArray e (0, 0))] ++ B) := by
        rw [List.append_assoc A, List.append_assoc A]
        exact .app .head
      have hst := h4.set hHas hw' rfl
      refine ⟨fun hf => ⟨by rw [hw'.1]; simp, fun c hc hcb => ?_⟩, kk _ _ (Or.inr ⟨b, cap, junk.drop xs.length, rfl, hfit, rfl, by simp [hcl, hxl, Nat.add_mul], ?_⟩) _ _ (Hl.put ⟨h1, h2, h3, D, hst, h5, h6.step (fun _ p hp => Or.inl (by rw [← hHas.keys]; exact List.mem_map.2 ⟨p, hp, rfl⟩)) (fun _ => low_set hw' (List.mem_map.2 ⟨_, hHas.mem, rfl⟩)) hst.dom⟩ hN _)⟩
      · have hb : b ∈ bad := by
          rcases hfl with h | h
          · rw [hf] at h; cases h
          · exact h _ (List.mem_singleton.2 rfl)
        rw [hw'.1, Array.getElem?_setIfInBounds_ne (by rintro rfl; exact hcb hb)]
      · rw [← hl2]; simp; omega
    · refine grow _ cap hv (by omega) fun w' hw' => ?_
      simp only [Builtin.firstCells]
      refine run_loadCells hcl fun j u hj => cell_of (cs := (cells ++ junk).toArray) (by rw [hw']; exact hbx) ?_
      have := (List.getElem?_eq_some_iff.1 hj).1
      simp only [List.getElem?_toArray, Nat.zero_add]
      rw [List.getElem?_append_left this]; exact hj

/-! ### What is owned becomes data -/
theorem Sta.freeze {h0 : H0} {lo : Nat} {D0 D : Data} {mods : List Nat} {A B : Boxes} {w : World} {b : Nat} {cells junk : List Value} {e : TypeId} (h : Sta h0 lo D0 mods (A ++ [(b, .cells (cells ++ junk).toArray e (0, 0))] ++ B) D w) (hb : lo ≤ b) :
    ∃ D', Le D D' ∧ D' b = cells ∧ (∀ c, c ≠ b → D' c = D c) ∧ Sta h0 lo D0 mods (A ++ B) D' w := by
  have hx := h.box (b, .cells (cells ++ junk).toArray e (0, 0)) (by simp)
  have hnd : b ∉ (A ++ B).map (·.1) := by
    have hn := h.nd
    simp only [List.map_append, List.map_cons, List.map_nil] at hn ⊢
    rw [List.nodup_append, List.nodup_append] at hn
    simp only [List.mem_append, not_or]
    exact ⟨fun hm => hn.1.2.2 b hm b (by simp) rfl, fun hm => hn.2.2 b (by simp) b hm rfl⟩
  have hlo := h.hlo
  refine ⟨fun c => if c = b then cells else D c, fun c => ?_, by simp, (fun c hc => by simp [hc]), h.hlo, h.size, h.old, fun c hc => ?_, fun c hc => ?_, fun p hp => ?_, ?_, h.fz, h.env⟩
  · by_cases hcb : c = b
    · subst hcb; rw [hx.2.1]; exact List.nil_prefix
    · simp [hcb]
  · have : c ≠ b := by omega
    simp only [this, if_false]; exact h.dold c hc
  · by_cases hcb : c = b
    · subst hcb
      exact ⟨_, e, _, hx.1, by simp⟩
    · simp only [hcb, if_false] at hc ⊢; exact h.agr c hc
  · have hp' : p ∈ A ++ [(b, Obj.cells (cells ++ junk).toArray e (0, 0))] ++ B := by
      rcases List.mem_append.1 hp with hp | hp
      · exact List.mem_append_left _ (List.mem_append_left _ hp)
      · exact List.mem_append_right _ hp
    obtain ⟨h1, h2, h3⟩ := h.box p hp'
    have : p.1 ≠ b := by rintro rfl; exact hnd (List.mem_map.2 ⟨p, hp, rfl⟩)
    exact ⟨h1, by simp only [this, if_false]; exact h2, h3⟩
  · have hn := h.nd
    simp only [List.map_append, List.map_cons, List.map_nil] at hn ⊢
    rw [List.nodup_append, List.nodup_append] at hn
    rw [List.nodup_append]
    exact ⟨hn.1.1, hn.2.1, fun q hq r hr => hn.2.2 q (List.mem_append_left _ hq) r hr⟩

/-- What the frozen slice gives. -/
def Froz (D : Data) (v : Value) (n : Nat) (cells : List Value) : Prop := (∃ a, v = .slice a 0 0 ∧ n = 0 ∧ cells = []) ∨ (∃ b cap, v = .slice (some ⟨b, 0, none⟩) n cap ∧ n ≤ cap ∧ At D b 0 cells)

theorem Hl.freeze {A B ν : Boxes} {e sz n : Nat} {cells : List Value} {a : Act} {w : World} (hacc : Acc e sz v n cells ν) (hmods : X.mods = []) (hh : Hl X σ (A ++ ν ++ B) Ds a w) :
    ∃ D', (∀ D₁ ∈ Ds, Le D₁ D') ∧ Froz D' v n cells ∧ Hl X σ (A ++ B) (D' :: Ds) a w := by
  obtain ⟨h1, h2, h3, D, h4, h5, h6⟩ := hh
  rcases hacc with ⟨old, hv, hn, hc, hν⟩ | ⟨b, cap, junk, hv, hncap, hν, hl1, hl2⟩
  · subst hν
    refine ⟨D, h5, Or.inl ⟨old, hv, hn, hc⟩, h1, h2, h3, D, by simpa using h4, fun D₁ hD₁ => ?_, by simpa using h6⟩
    rcases List.mem_cons.1 hD₁ with rfl | hD₁
    · exact Le.refl _
    · exact h5 D₁ hD₁
  · subst hν
    have hb := (h4.box (b, .cells (cells ++ junk).toArray e (0, 0)) (by simp)).2.2
    have hb' := hb.resolve_right (by rw [hmods]; simp)
    obtain ⟨D', hle, hD', hDo, hs⟩ := h4.freeze hb'
    refine ⟨D', fun D₁ hD₁ => (h5 D₁ hD₁).trans hle, Or.inr ⟨b, cap, hv, hncap, fun j u hj => by rw [hD', Nat.zero_add]; exact hj⟩, h1, h2, h3, D', hs, fun D₁ hD₁ => ?_, h6.step (fun _ p hp => Or.inl (List.mem_map.2 ⟨p, by rcases List.mem_append.1 hp with hp | hp; exact List.mem_append_left _ (List.mem_append_left _ hp); exact List.mem_append_right _ hp, rfl⟩)) (fun _ => ⟨Nat.le_refl _, fun c _ hn => ⟨rfl, hDo c (by rintro rfl; exact hn (by simp))⟩, rfl⟩) hs.dom⟩
    rcases List.mem_cons.1 hD₁ with rfl | hD₁
    · exact Le.refl _
    · exact (h5 D₁ hD₁).trans hle

/-- The frame's own slice becomes data, in the midst of operations, or of code. -/
theorem L.freeze {A B ν : Boxes} {e sz n : Nat} {cells : List Value} (hacc : Acc e sz v n cells ν) (hmods : X.mods = []) (kk : ∀ D, (∀ D₁ ∈ Ds, Le D₁ D) → Froz D v n cells → WL P X bad all K Q os σ (A ++ B) (D :: Ds)) : WL P X bad all K Q os σ (A ++ ν ++ B) Ds := by
  intro a w hh
  obtain ⟨D', h1, h2, h3⟩ := hh.freeze hacc hmods
  exact kk D' h1 h2 a w h3
theorem C.freeze {c : Code} {A B ν : Boxes} {e sz n : Nat} {cells : List Value} (hacc : Acc e sz v n cells ν) (hmods : X.mods = []) (kk : ∀ D, (∀ D₁ ∈ Ds, Le D₁ D) → Froz D v n cells → WC P X Q c σ (A ++ B) (D :: Ds)) : WC P X Q c σ (A ++ ν ++ B) Ds := by
  intro a w hh
  obtain ⟨D', h1, h2, h3⟩ := hh.freeze hacc hmods
  exact kk D' h1 h2 a w h3
theorem Q.freeze {T : Act → World → Prop} {A B ν : Boxes} {e sz n : Nat} {cells : List Value} (hacc : Acc e sz v n cells ν) (hmods : X.mods = []) (kk : ∀ D, (∀ D₁ ∈ Ds, Le D₁ D) → Froz D v n cells → ∀ a w, Hl X σ (A ++ B) (D :: Ds) a w → T a w) : ∀ a w, Hl X σ (A ++ ν ++ B) Ds a w → T a w := by
  intro a w hh
  obtain ⟨D', h1, h2, h3⟩ := hh.freeze hacc hmods
  exact kk D' h1 h2 a w h3

theorem Froz.sl {α : Type} {R : Rd α} {D : Data} {sz n : Nat} {cells : List Value} {xs : List α} (h : Froz D v n cells) (hn : xs.length = n) (hb : n ≤ 9223372036854775807) (he : ∀ i x, xs[i]? = some x → ∃ cs, R D x cs ∧ cs.length = sz ∧ (cells.drop (i * sz)).take sz = cs) : Sl D R sz v xs := by
  rcases h with ⟨a, hv, hn0, hc⟩ | ⟨b, cap, hv, hc, hA⟩
  · subst hn0
    have : xs = [] := List.length_eq_zero_iff.1 hn
    subst this; subst hv
    exact ⟨a, 0, rfl, Nat.le_refl _, by simp, Or.inl rfl⟩
  · subst hv; exact Sl.of_at hA hn hc hb he
theorem Froz.ints {D : Data} {n : Nat} {l : List Int} (h : Froz D v n (ints l)) (hn : l.length = n) (hb : n ≤ 9223372036854775807) : Sl D RI 1 v l :=
  h.sl hn hb fun i x hx => ⟨[.int .i64 x], rfl, rfl, by
    have h := ints_get hx
    have hl := (List.getElem?_eq_some_iff.1 h).1
    rw [Nat.mul_one, List.drop_eq_getElem_cons hl]
    rw [List.getElem?_eq_getElem hl] at h
    simp [Option.some.inj h]⟩

/-- A source for an append: a slice that was written out; a slice of numbers. -/
theorem Src.lit {D : Data} {b m c : Nat} {xs : List Value} (h : At D b 0 xs) : Src D (.slice (some ⟨b, 0, none⟩) m c) m xs := Or.inr ⟨b, 0, c, rfl, h⟩
theorem Src.ints {D : Data} {l : List Int} (h : Sl D RI 1 v l) : Src D v l.length (ints l) := by
  obtain ⟨a, cap, rfl, h1, h2, h3⟩ := h
  rcases h3 with rfl | ⟨b, o, rfl, h3⟩
  · exact Or.inl ⟨a, cap, rfl, rfl, rfl⟩
  · refine Or.inr ⟨b, o, cap, rfl, fun j v hj => ?_⟩
    simp only [Fs.ints, List.getElem?_map, Option.map_eq_some_iff] at hj
    obtain ⟨n, hn, rfl⟩ := hj
    obtain ⟨cs, hr, hc, hA⟩ := h3 j n hn
    obtain rfl : cs = [.int .i64 n] := hr
    have := hA 0 _ rfl
    simpa using this

end Go.Fs
