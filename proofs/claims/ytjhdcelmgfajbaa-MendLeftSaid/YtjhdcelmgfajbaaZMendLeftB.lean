/- Of the proof of MendLeft: Append, Iter, Rest, Keys, Shell, Types, Bits, Yard, Open, W1, W2, W3, W4. -/
import Derived.Test.YtjhdcelmgfajbaaZMendLeftA
import Derived.RangeFuncLeaves
import Derived.RangeFuncRecord
import Derived.ChangeKeysEq
import Derived.ProofKit
import Derived.OpenShut
import Derived.WideKeyArgs
import Derived.JoinedCond
import Derived.Test.YtjhdcelmgfajbaaProg
namespace Go.Fs
variable {P : Program} {X : Cx} {γb : Type} [Membership Nat γb] {bad : γb} {all : Array Oper} {K : Act → World → Prop} {Q : Exit → Act → World → Prop}
variable {σ : Slots} {μ : Boxes} {Ds : List Data} {os : List (Bool × Nat)} {fl : Bool} {ix : Nat}
variable {d : Nat} {x y z : Operand} {u v : Value} {ty : TypeId} {pos : String} {aft : Array Edge} {g : Option (Nat × Bool)}
/-- A slice value that owns its block: n elements, their cells, and the block among the boxes (none, while nothing has been appended). -/
def Acc (e : TypeId) (sz : Nat) (v : Value) (n : Nat) (cells : List Value) (ν : Boxes) : Prop :=
  (∃ a, v = .slice a 0 0 ∧ n = 0 ∧ cells = [] ∧ ν = []) ∨
  (∃ b cap junk, v = .slice (some ⟨b, 0, none⟩) n cap ∧ n ≤ cap ∧ ν = [(b, .cells (cells ++ junk).toArray e (0, 0))] ∧ cells.length = n * sz ∧ (cells ++ junk).length = cap * sz)
theorem Acc.nil {e : TypeId} {sz : Nat} {a : Option Addr} : Acc e sz (.slice a 0 0) 0 [] [] := Or.inl ⟨a, rfl, rfl, rfl, rfl⟩
theorem run_loadCells {w : World} {b o : Nat} {vs : List Value} {n : Nat} (hn : vs.length = n) (h : Lies w b o vs) : (loadCells ⟨b, o, none⟩ n).run P w = .ok vs.toArray w := by
  unfold loadCells
  rw [run_loadCellsFrom n 0 #[] vs hn (fun j v hj => by rw [show o + (0 + j) = o + j by omega]; exact h j v hj)]
  simp
/-- What is appended: some cells of data. -/
def Src (D : Data) (x : Value) (m : Nat) (xs : List Value) : Prop := (∃ a c, x = .slice a 0 c ∧ m = 0 ∧ xs = []) ∨ (∃ b o c, x = .slice (some ⟨b, o, none⟩) m c ∧ At D b o xs)
theorem run_firstCells {D : Data} {w : World} {x : Value} {m sz : Nat} {xs : List Value} (h : Src D x m xs) (hl : xs.length = m * sz) (hw : ∀ b o, At D b o xs → Lies w b o xs) : (Builtin.firstCells sz m x).run P w = .ok xs.toArray w := by
  rcases h with ⟨a, c, rfl, rfl, rfl⟩ | ⟨b, o, c, rfl, hA⟩
  · cases a with
    | none => rfl
    | some a => simp [Builtin.firstCells, loadCells, loadCellsFrom, Sem.run_pure]
  · simp only [Builtin.firstCells]
    exact run_loadCells hl (hw b o hA)
theorem lenOf_src {D : Data} {w : World} {x : Value} {m : Nat} {xs : List Value} (h : Src D x m xs) : (Builtin.lenOf x).run P w = .ok m w := by
  rcases h with ⟨a, c, rfl, rfl, rfl⟩ | ⟨b, o, c, rfl, hA⟩ <;> rfl
theorem nextcap_le {need cap : Nat} (h : cap < need) : Builtin.nextslicecap need cap ≤ 2 * need + 768 := by
  unfold Builtin.nextslicecap
  split
  · omega
  · split
    · omega
    · have key : ∀ (r c : Nat), c < need + need / 4 + 400 → Builtin.growBy need r c ≤ 2 * need + 768 := by
        intro r
        induction r with
        | zero => intro c hc; simp only [Builtin.growBy]; omega
        | succ r ih =>
          intro c hc
          simp only [Builtin.growBy]
          split
          · omega
          · exact ih _ (by omega)
      exact key _ _ (by omega)
theorem run_askRoom {w : World} {n : Nat} : (askRoom n).run P w = .ok () w := by unfold askRoom; split <;> rfl
theorem zeroCells_size (z : Array Value) (n : Nat) : (Builtin.zeroCells z n).size = n * z.size := by simp [Builtin.zeroCells]
section run
variable {t e tr : TypeId} {sz : Nat} {z0 : Value} {i0 : TypeInfo} {ats : Array TypeId}
/-- append where there is room. -/
theorem run_append_fits (ht : P.underlying t = some (.slice e)) (hat : ats[0]? = some t) (hat1 : ats[1]? = some t) (hs : TS P e sz) {w : World} {a : Option Addr} {n cap m : Nat} {xv : Value} {xs : List Value}
    (hm : (Builtin.lenOf xv).run P w = .ok m w) (hx : (Builtin.firstCells sz m xv).run P w = .ok xs.toArray w) (hle : n + m ≤ cap) {w' : World}
    (hst : (match a with | some a => storeCells (a.add (n * sz)) xs | none => pure () : Sem Unit).run P w = .ok () w') :
    (Builtin.append_ ats tr #[.slice a n cap, xv]).run P w = .ok (.slice a (n + m) cap) w' := by
  have e1 : (#[Value.slice a n cap, xv] : Array Value)[0]? = some (.slice a n cap) := rfl
  have e2 : (#[Value.slice a n cap, xv] : Array Value)[1]? = some xv := rfl
  unfold Builtin.append_
  simp only [hat, hat1, e1, e2, Sem.run_bind, TU.of ht w, Result.andThen_ok, hs w, Sem.run_pure, Bool.false_eq_true, if_false, hm, Bool.not_false, if_true, hle, hx]
  cases a with
  | none =>
    have : w' = w := by
      have h : (pure () : Sem Unit).run P w = .ok () w' := hst
      rw [Sem.run_pure] at h
      cases h; rfl
    subst this; rfl
  | some a =>
    have h : (storeCells (a.add (n * sz)) xs).run P w = .ok () w' := hst
    simp only [Sem.run_bind, h, Result.andThen_ok, Sem.run_pure]
/-- append where a new block is made. -/
theorem run_append_grows (ht : P.underlying t = some (.slice e)) (hat : ats[0]? = some t) (hat1 : ats[1]? = some t) (hs : TS P e sz) (hz : TZ P e z0) (hi : P.info? e = some i0) {w : World} {a : Option Addr} {n cap m : Nat} {xv : Value} {old xs : List Value}
    (hm : (Builtin.lenOf xv).run P w = .ok m w) (hx : ∀ w', w'.heap = w.heap → (Builtin.firstCells sz m xv).run P w' = .ok xs.toArray w') (ho : ∀ w', w'.heap = w.heap → (Builtin.firstCells sz n (.slice a n cap)).run P w' = .ok old.toArray w')
    (hgt : cap < n + m) (hlen : n + m ≤ 10000000) (hb : 1 ≤ i0.bytes ∧ i0.bytes ≤ 4096) :
    ∃ c, n + m ≤ c ∧ (Builtin.append_ ats tr #[.slice a n cap, xv]).run P w = .ok (.slice (some ⟨w.heap.size, 0, none⟩) (n + m) c)
      { w with drawn := w.drawn + 1, heap := w.heap.push (.cells (old.toArray ++ xs.toArray ++ Builtin.zeroCells z0.cells (c - (n + m))) e (0, 0)) } := by
  have e1 : (#[Value.slice a n cap, xv] : Array Value)[0]? = some (.slice a n cap) := rfl
  have e2 : (#[Value.slice a n cap, xv] : Array Value)[1]? = some xv := rfl
  have hti : ∀ w, (typeInfo e).run P w = .ok i0 w := fun w => by simp [typeInfo, program, Sem.run, hi, go_sem]
  have hcapn := nextcap_le hgt
  have hbig : ¬ Builtin.nextslicecap (n + m) cap * i0.bytes > 2 ^ 48 := by
    have : Builtin.nextslicecap (n + m) cap * i0.bytes ≤ (2 * (n + m) + 768) * 4096 := Nat.mul_le_mul hcapn hb.2
    omega
  have hch : (choose (.appendCap (n + m) cap e)).run P w = .ok ((n + m) + (w.tape w.drawn (.appendCap (n + m) cap e)) % (2 ^ 63 - (n + m))) { w with drawn := w.drawn + 1 } := by
    simp [choose, Sem.run, Question.forced, Question.cut]
  refine ⟨(n + m) + (w.tape w.drawn (.appendCap (n + m) cap e)) % (2 ^ 63 - (n + m)), Nat.le_add_right _ _, ?_⟩
  unfold Builtin.append_
  have hnot : ¬ (n + m ≤ cap) := by omega
  have hmax : ¬ (((n + m : Nat) : Int) > IntKind.i64.max ∧ (false = true ∨ i0.bytes = 0)) := by
    rintro ⟨_, h | h⟩
    · cases h
    · omega
  simp only [hat, hat1, e1, e2, Sem.run_bind, TU.of ht w, Result.andThen_ok, hs w, Sem.run_pure, Bool.false_eq_true, if_false, hm, Bool.not_false, if_true, hnot, hti]
  rw [if_neg (by rintro ⟨_, h | h⟩; exact h.elim; omega)]
  simp only [Sem.run_bind, Result.andThen_ok, hti]
  rw [if_neg hbig]
  have hzz : ∀ w, (zeroValue e).run P w = .ok z0 w := hz
  simp only [Sem.run_bind, Sem.run_pure, Result.andThen_ok, hti, hch, run_askRoom, hzz, ho { w with drawn := w.drawn + 1 } rfl, hx { w with drawn := w.drawn + 1 } rfl, run_newRow]
end run
/-- **append**: the slice of the frame's own with the new cells behind it. -/
theorem L.append {A B ν : Boxes} {D₁ : Data} {t e tr : TypeId} {sz n m : Nat} {cells xs : List Value} {xv : Value} {z0 : Value} {ats : Array TypeId}
    (ho : all[ix]? = some ⟨some d, .call { callee := .builtin .append, args := #[x, y], argTypes := ats }, tr, pos, aft, g⟩) (ht : P.underlying t = some (.slice e)) (hat : ats[0]? = some t) (hat1 : ats[1]? = some t)
    (hs : TS P e sz) (hz : TZ P e z0) (hz1 : Nat.beq z0.cells.size sz = true) (hi : (P.info? e).map (fun i => Nat.ble 1 i.bytes && Nat.ble i.bytes 4096) = some true) (hsz1 : Nat.ble 1 sz = true)
    (hx : ev σ x = some v) (hy : ev σ y = some xv) (hacc : Acc e sz v n cells ν) (hsrc : Src D₁ xv m xs) (hD : D₁ ∈ Ds) (hxl : xs.length = m * sz) (hcl : cells.length = n * sz) (hx1 : ∀ u ∈ xs, cell1 u = true) (hlen : n + m ≤ 10000000)
    (hfl : fl = false ∨ ∀ p ∈ ν, p.1 ∈ bad)
    (hN : Nat.blt d X.N = true) (hg : Gok all σ g)
    (kk : ∀ v' ν', Acc e sz v' (n + m) (cells ++ xs) ν' → WL P X bad all K Q os ((d, v') :: σ) (A ++ ν' ++ B) Ds) : WL P X bad all K Q ((fl, ix) :: os) σ (A ++ ν ++ B) Ds := by
  refine L.loud ho rfl rfl hg fun a w hh => ?_
  obtain ⟨h1, h2, h3, D, h4, h5, h6⟩ := id hh
  obtain ⟨i0, hi, hb1, hb2⟩ : ∃ i0, P.info? e = some i0 ∧ 1 ≤ i0.bytes ∧ i0.bytes ≤ 4096 := by
    cases h : P.info? e with
    | none => simp [h] at hi
    | some i => simp [h] at hi; exact ⟨i, rfl, hi⟩
  have hsz : 1 ≤ sz := Nat.le_of_ble_eq_true hsz1
  have hz1' := Nat.eq_of_beq_eq_true hz1
  have hlies : ∀ w', w'.heap = w.heap → ∀ b o, At D₁ b o xs → Lies w' b o xs := by
    intro w' hw' b o hA j u hj
    have := h4.agr.cell ((h5 D₁ hD).get (hA j u hj))
    unfold World.cell? at this ⊢
    rw [hw']; exact this
  have hex : (execOp a.eval ⟨some d, .call { callee := .builtin .append, args := #[x, y], argTypes := ats }, tr, pos, aft, g⟩).run P w =
      ((Builtin.append_ ats tr #[v, xv]).run P w).andThen fun r w' => .ok (.value r) w' := by
    simp only [execOp, resolve, pure_bind, invoke, builtin]
    have e1 : (#[x, y].map a.eval) = #[v, xv] := by simp [hh.eval hx, hh.eval hy]
    rw [e1, Sem.run_bind]
    simp only [Sem.run_pure]
  rw [hex]
  have hm := lenOf_src (P := P) (w := w) hsrc
  have hfc : ∀ w', w'.heap = w.heap → (Builtin.firstCells sz m xv).run P w' = .ok xs.toArray w' := fun w' hw' => run_firstCells hsrc hxl (hlies w' hw')
  -- a new block
  have grow : ∀ (old : Option Addr) (cap : Nat), v = .slice old n cap → cap < n + m → (∀ w', w'.heap = w.heap → (Builtin.firstCells sz n (.slice old n cap)).run P w' = .ok cells.toArray w') →
      Oper.uponIn (FW X.r) 0 P ⟨some d, .call { callee := .builtin .append, args := #[x, y], argTypes := ats }, tr, pos, aft, g⟩ a (fun a' w' => (fl = true → Keep bad w w') ∧ wpL X.r bad P all K Q (opsAt all os) a' w') Q
        (((Builtin.append_ ats tr #[v, xv]).run P w).andThen fun r w' => .ok (.value r) w') := by
    intro old cap hv hgt hold
    obtain ⟨c, hc, hrun⟩ := run_append_grows (tr := tr) ht hat hat1 hs hz hi hm hfc hold hgt hlen ⟨hb1, hb2⟩
    rw [hv, hrun]
    obtain ⟨junk, hjunk⟩ : ∃ junk : List Value, cells.toArray ++ xs.toArray ++ Builtin.zeroCells z0.cells (c - (n + m)) = (cells ++ xs ++ junk).toArray ∧ (cells ++ xs ++ junk).length = c * sz := by
      refine ⟨(Builtin.zeroCells z0.cells (c - (n + m))).toList, by simp, ?_⟩
      have := zeroCells_size z0.cells (c - (n + m))
      simp only [List.length_append, Array.length_toList, this, hz1', hcl, hxl]
      rw [← Nat.add_mul, ← Nat.add_mul]
      congr 1; omega
    have hpush := h4.push (.cells (cells ++ xs ++ junk).toArray e (0, 0)) rfl
    simp only [Result.andThen_ok]
    rw [hjunk.1]
    refine ⟨fun _ => ⟨by simp, fun b hb _ => heap_push_lt hb⟩, ?_⟩
    have hst : Sta X.h0 X.lo X.D0 X.mods (A ++ [(w.heap.size, .cells (cells ++ xs ++ junk).toArray e (0, 0))] ++ B) D { w with drawn := w.drawn + 1, heap := w.heap.push (.cells (cells ++ xs ++ junk).toArray e (0, 0)) } := by
      have h := hpush.sub (μ' := A ++ [(w.heap.size, .cells (cells ++ xs ++ junk).toArray e (0, 0))] ++ B) (fun p hp => by
        simp only [List.mem_append, List.mem_cons] at hp ⊢
        rcases hp with (hp | hp) | hp
        · exact Or.inr (Or.inl (Or.inl hp))
        · exact Or.inl (hp.resolve_right (by simp))
        · exact Or.inr (Or.inr hp)) (by
        have hn := hpush.nd
        simp only [List.map_cons, List.map_append, List.nodup_cons, List.mem_append, not_or] at hn
        obtain ⟨⟨⟨ha, _⟩, hb⟩, hn⟩ := hn
        rw [List.nodup_append, List.nodup_append] at hn
        simp only [List.map_append, List.map_cons, List.map_nil]
        rw [List.nodup_append, List.nodup_append]
        refine ⟨⟨hn.1.1, by simp, fun q hq r hr => ?_⟩, hn.2.1, fun q hq r hr => ?_⟩
        · simp only [List.mem_singleton] at hr
          rintro rfl; exact ha (hr ▸ hq)
        · simp only [List.mem_append, List.mem_singleton] at hq
          rcases hq with hq | hq
          · exact hn.2.2 q (List.mem_append_left _ hq) r hr
          · rintro rfl; exact hb (hq ▸ hr))
      exact ⟨h.hlo, h.size, h.old, h.dold, h.agr, h.box, h.nd, h.fz, h.env⟩
    exact kk _ _ (Or.inr ⟨_, c, junk, rfl, hc, rfl, by simp [hcl, hxl, Nat.add_mul], hjunk.2⟩) _ _ (Hl.put ⟨h1, h2, h3, D, hst, h5, h6.step (fun _ p hp => by
      rcases List.mem_append.1 hp with hp | hp
      · rcases List.mem_append.1 hp with hp | hp
        · exact Or.inl (List.mem_map.2 ⟨p, List.mem_append_left _ (List.mem_append_left _ hp), rfl⟩)
        · exact Or.inr (by rw [List.mem_singleton.1 hp]; exact Nat.le_refl _)
      · exact Or.inl (List.mem_map.2 ⟨p, List.mem_append_right _ hp, rfl⟩)) (fun _ => ⟨by simp, fun b hb _ => ⟨heap_push_lt hb, rfl⟩, rfl⟩) hst.dom⟩ hN _)
  rcases hacc with ⟨old, hv, hn, hc, hν⟩ | ⟨b, cap, junk, hv, hncap, hν, hl1, hl2⟩
  · subst hn; subst hc; subst hν
    by_cases h0 : m = 0
    · subst h0
      have hxs : xs = [] := List.length_eq_zero_iff.1 (by simpa using hxl)
      subst hxs
      rw [hv, run_append_fits (tr := tr) (w' := w) ht hat hat1 hs hm (hfc w rfl) (Nat.le_refl _) (by cases old <;> rfl)]
      refine ⟨fun _ => Keep.refl _ _, kk _ [] (Or.inl ⟨old, rfl, rfl, rfl, rfl⟩) _ _ (Hl.put hh hN _)⟩
    · refine grow old 0 hv (by omega) fun w' _ => ?_
      cases old with
      | none => rfl
      | some a => simp [Builtin.firstCells, loadCells, loadCellsFrom, Sem.run_pure]
  · subst hν
    have hbx := (h4.box (b, .cells (cells ++ junk).toArray e (0, 0)) (by simp)).1
    by_cases hfit : n + m ≤ cap
    · have hjl : xs.length ≤ junk.length := by
        have h1 : (n + m) * sz ≤ cap * sz := Nat.mul_le_mul_right sz hfit
        rw [← hl2, Nat.add_mul, List.length_append, hcl] at h1
        omega
      have hcl1 : n * sz + 0 + xs.length ≤ (cells ++ junk).length := by rw [List.length_append, hcl]; omega
      obtain ⟨w', hr, hw'⟩ := run_storeCells (P := P) xs 0 w b (n * sz) (cells ++ junk) e hbx hcl1 hx1
      have htk : (cells ++ junk).take (n * sz + 0) ++ xs ++ (cells ++ junk).drop (n * sz + 0 + xs.length) = cells ++ xs ++ junk.drop xs.length := by
        rw [← hcl, Nat.add_zero, List.take_left, List.drop_append, List.drop_eq_nil_of_le (by omega)]
        simp
      rw [htk] at hw'
      rw [hv, run_append_fits (tr := tr) (w' := w') ht hat hat1 hs hm (hfc w rfl) hfit (by
        show (storeCells ((⟨b, 0, none⟩ : Addr).add (n * sz)) xs).run P w = _
        rw [add_plain, Nat.zero_add]; exact hr)]
      have hHas : Has (A ++ [(b, .cells (cells ++ junk).toArray e (0, 0))] ++ B) b (.cells (cells ++ junk).toArray e (0, 0)) (.cells (cells ++ xs ++ junk.drop xs.length).toArray e (0, 0)) (A ++ [(b, .cells (cells ++ xs ++ junk.drop xs.length).toArray e (0, 0))] ++ B) := by
        rw [List.append_assoc A, List.append_assoc A]
        exact .app .head
      have hst := h4.set hHas hw' rfl
      refine ⟨fun hf => ⟨by rw [hw'.1]; simp, fun c hc hcb => ?_⟩, kk _ _ (Or.inr ⟨b, cap, junk.drop xs.length, rfl, hfit, rfl, by simp [hcl, hxl, Nat.add_mul], ?_⟩) _ _ (Hl.put ⟨h1, h2, h3, D, hst, h5, h6.step (fun _ p hp => Or.inl (by rw [← hHas.keys]; exact List.mem_map.2 ⟨p, hp, rfl⟩)) (fun _ => low_set hw' (List.mem_map.2 ⟨_, hHas.mem, rfl⟩)) hst.dom⟩ hN _)⟩
      · have hb : b ∈ bad := by
          rcases hfl with h | h
          · rw [hf] at h; cases h
          · exact h _ (List.mem_singleton.2 rfl)
        rw [hw'.1, Array.getElem?_setIfInBounds_ne (by rintro rfl; exact hcb hb)]
      · rw [← hl2]; simp; omega
    · refine grow _ cap hv (by omega) fun w' hw' => ?_
      simp only [Builtin.firstCells]
      refine run_loadCells hcl fun j u hj => cell_of (cs := (cells ++ junk).toArray) (by rw [hw']; exact hbx) ?_
      have := (List.getElem?_eq_some_iff.1 hj).1
      simp only [List.getElem?_toArray, Nat.zero_add]
      rw [List.getElem?_append_left this]; exact hj
/-! ### What is owned becomes data -/
theorem Sta.freeze {h0 : H0} {lo : Nat} {D0 D : Data} {mods : List Nat} {A B : Boxes} {w : World} {b : Nat} {cells junk : List Value} {e : TypeId} (h : Sta h0 lo D0 mods (A ++ [(b, .cells (cells ++ junk).toArray e (0, 0))] ++ B) D w) (hb : lo ≤ b) :
    ∃ D', Le D D' ∧ D' b = cells ∧ (∀ c, c ≠ b → D' c = D c) ∧ Sta h0 lo D0 mods (A ++ B) D' w := by
  have hx := h.box (b, .cells (cells ++ junk).toArray e (0, 0)) (by simp)
  have hnd : b ∉ (A ++ B).map (·.1) := by
    have hn := h.nd
    simp only [List.map_append, List.map_cons, List.map_nil] at hn ⊢
    rw [List.nodup_append, List.nodup_append] at hn
    simp only [List.mem_append, not_or]
    exact ⟨fun hm => hn.1.2.2 b hm b (by simp) rfl, fun hm => hn.2.2 b (by simp) b hm rfl⟩
  have hlo := h.hlo
  refine ⟨fun c => if c = b then cells else D c, fun c => ?_, by simp, (fun c hc => by simp [hc]), h.hlo, h.size, h.old, fun c hc => ?_, fun c hc => ?_, fun p hp => ?_, ?_, h.fz, h.env⟩
  · by_cases hcb : c = b
    · subst hcb; rw [hx.2.1]; exact List.nil_prefix
    · simp [hcb]
  · have : c ≠ b := by omega
    simp only [this, if_false]; exact h.dold c hc
  · by_cases hcb : c = b
    · subst hcb
      exact ⟨_, e, _, hx.1, by simp⟩
    · simp only [hcb, if_false] at hc ⊢; exact h.agr c hc
  · have hp' : p ∈ A ++ [(b, Obj.cells (cells ++ junk).toArray e (0, 0))] ++ B := by
      rcases List.mem_append.1 hp with hp | hp
      · exact List.mem_append_left _ (List.mem_append_left _ hp)
      · exact List.mem_append_right _ hp
    obtain ⟨h1, h2, h3⟩ := h.box p hp'
    have : p.1 ≠ b := by rintro rfl; exact hnd (List.mem_map.2 ⟨p, hp, rfl⟩)
    exact ⟨h1, by simp only [this, if_false]; exact h2, h3⟩
  · have hn := h.nd
    simp only [List.map_append, List.map_cons, List.map_nil] at hn ⊢
    rw [List.nodup_append, List.nodup_append] at hn
    rw [List.nodup_append]
    exact ⟨hn.1.1, hn.2.1, fun q hq r hr => hn.2.2 q (List.mem_append_left _ hq) r hr⟩
/-- What the frozen slice gives. -/
def Froz (D : Data) (v : Value) (n : Nat) (cells : List Value) : Prop := (∃ a, v = .slice a 0 0 ∧ n = 0 ∧ cells = []) ∨ (∃ b cap, v = .slice (some ⟨b, 0, none⟩) n cap ∧ n ≤ cap ∧ At D b 0 cells)
theorem Hl.freeze {A B ν : Boxes} {e sz n : Nat} {cells : List Value} {a : Act} {w : World} (hacc : Acc e sz v n cells ν) (hmods : X.mods = []) (hh : Hl X σ (A ++ ν ++ B) Ds a w) :
    ∃ D', (∀ D₁ ∈ Ds, Le D₁ D') ∧ Froz D' v n cells ∧ Hl X σ (A ++ B) (D' :: Ds) a w := by
  obtain ⟨h1, h2, h3, D, h4, h5, h6⟩ := hh
  rcases hacc with ⟨old, hv, hn, hc, hν⟩ | ⟨b, cap, junk, hv, hncap, hν, hl1, hl2⟩
  · subst hν
    refine ⟨D, h5, Or.inl ⟨old, hv, hn, hc⟩, h1, h2, h3, D, by simpa using h4, fun D₁ hD₁ => ?_, by simpa using h6⟩
    rcases List.mem_cons.1 hD₁ with rfl | hD₁
    · exact Le.refl _
    · exact h5 D₁ hD₁
  · subst hν
    have hb := (h4.box (b, .cells (cells ++ junk).toArray e (0, 0)) (by simp)).2.2
    have hb' := hb.resolve_right (by rw [hmods]; simp)
    obtain ⟨D', hle, hD', hDo, hs⟩ := h4.freeze hb'
    refine ⟨D', fun D₁ hD₁ => (h5 D₁ hD₁).trans hle, Or.inr ⟨b, cap, hv, hncap, fun j u hj => by rw [hD', Nat.zero_add]; exact hj⟩, h1, h2, h3, D', hs, fun D₁ hD₁ => ?_, h6.step (fun _ p hp => Or.inl (List.mem_map.2 ⟨p, by rcases List.mem_append.1 hp with hp | hp; exact List.mem_append_left _ (List.mem_append_left _ hp); exact List.mem_append_right _ hp, rfl⟩)) (fun _ => ⟨Nat.le_refl _, fun c _ hn => ⟨rfl, hDo c (by rintro rfl; exact hn (by simp))⟩, rfl⟩) hs.dom⟩
    rcases List.mem_cons.1 hD₁ with rfl | hD₁
    · exact Le.refl _
    · exact (h5 D₁ hD₁).trans hle
theorem C.freeze {c : Code} {A B ν : Boxes} {e sz n : Nat} {cells : List Value} (hacc : Acc e sz v n cells ν) (hmods : X.mods = []) (kk : ∀ D, (∀ D₁ ∈ Ds, Le D₁ D) → Froz D v n cells → WC P X Q c σ (A ++ B) (D :: Ds)) : WC P X Q c σ (A ++ ν ++ B) Ds := by
  intro a w hh
  obtain ⟨D', h1, h2, h3⟩ := hh.freeze hacc hmods
  exact kk D' h1 h2 a w h3
theorem Q.freeze {T : Act → World → Prop} {A B ν : Boxes} {e sz n : Nat} {cells : List Value} (hacc : Acc e sz v n cells ν) (hmods : X.mods = []) (kk : ∀ D, (∀ D₁ ∈ Ds, Le D₁ D) → Froz D v n cells → ∀ a w, Hl X σ (A ++ B) (D :: Ds) a w → T a w) : ∀ a w, Hl X σ (A ++ ν ++ B) Ds a w → T a w := by
  intro a w hh
  obtain ⟨D', h1, h2, h3⟩ := hh.freeze hacc hmods
  exact kk D' h1 h2 a w h3
theorem Froz.sl {α : Type} {R : Rd α} {D : Data} {sz n : Nat} {cells : List Value} {xs : List α} (h : Froz D v n cells) (hn : xs.length = n) (hb : n ≤ 9223372036854775807) (he : ∀ i x, xs[i]? = some x → ∃ cs, R D x cs ∧ cs.length = sz ∧ (cells.drop (i * sz)).take sz = cs) : Sl D R sz v xs := by
  rcases h with ⟨a, hv, hn0, hc⟩ | ⟨b, cap, hv, hc, hA⟩
  · subst hn0
    have : xs = [] := List.length_eq_zero_iff.1 hn
    subst this; subst hv
    exact ⟨a, 0, rfl, Nat.le_refl _, by simp, Or.inl rfl⟩
  · subst hv; exact Sl.of_at hA hn hc hb he
theorem Froz.ints {D : Data} {n : Nat} {l : List Int} (h : Froz D v n (ints l)) (hn : l.length = n) (hb : n ≤ 9223372036854775807) : Sl D RI 1 v l :=
  h.sl hn hb fun i x hx => ⟨[.int .i64 x], rfl, rfl, by
    have h := ints_get hx
    have hl := (List.getElem?_eq_some_iff.1 h).1
    rw [Nat.mul_one, List.drop_eq_getElem_cons hl]
    rw [List.getElem?_eq_getElem hl] at h
    simp [Option.some.inj h]⟩
/-- A source for an append: a slice that was written out; a slice of numbers. -/
theorem Src.lit {D : Data} {b m c : Nat} {xs : List Value} (h : At D b 0 xs) : Src D (.slice (some ⟨b, 0, none⟩) m c) m xs := Or.inr ⟨b, 0, c, rfl, h⟩
theorem Src.ints {D : Data} {l : List Int} (h : Sl D RI 1 v l) : Src D v l.length (ints l) := by
  obtain ⟨a, cap, rfl, h1, h2, h3⟩ := h
  rcases h3 with rfl | ⟨b, o, rfl, h3⟩
  · exact Or.inl ⟨a, cap, rfl, rfl, rfl⟩
  · refine Or.inr ⟨b, o, cap, rfl, fun j v hj => ?_⟩
    simp only [Fs.ints, List.getElem?_map, Option.map_eq_some_iff] at hj
    obtain ⟨n, hn, rfl⟩ := hj
    obtain ⟨cs, hr, hc, hA⟩ := h3 j n hn
    obtain rfl : cs = [.int .i64 n] := hr
    have := hA 0 _ rfl
    simpa using this
end Go.Fs
namespace Go.Fs
variable {P : Program} {X : Cx} {γb : Type} [Membership Nat γb] {bad : γb} {all : Array Oper} {K : Act → World → Prop} {Q : Exit → Act → World → Prop}
variable {σ : Slots} {μ : Boxes} {Ds : List Data} {os : List (Bool × Nat)} {fl : Bool} {ix : Nat}
variable {d : Nat} {x y z : Operand} {u v : Value} {ty : TypeId} {pos : String} {aft : Array Edge} {g : Option (Nat × Bool)}
/-- The blocks of the list, and the data, are as they were. -/
def High (β : List Nat) (D : Data) (w : World) (D' : Data) (w' : World) : Prop := w.heap.size ≤ w'.heap.size ∧ Le D D' ∧ ∀ b ∈ β, w'.heap[b]? = w.heap[b]? ∧ D' b = D b
abbrev Inv := List Nat → Data → World → Prop
/-- A call of yield that runs a round. -/
def YieldRuns (P : Program) (l : Nat) (vs : List Value) (w : World) (R : Bool → Data → World → Prop) : Prop :=
  ∃ fn tmps assign body, (Instr.yield l vs.toArray).run P w = .ok (.round l fn tmps assign body) w ∧ Rounds P l fn tmps assign body w fun e w' => ∃ b D', e = .returned (.bool b) ∧ R b D' w'
def Cx.withEx (X : Cx) (J : Inv) : Cx := { X with ex := some J }
/-! ### Functions that call yield -/
def Xj (N lo : Nat) (J : Inv) : Cx := ⟨none, N, [], ⟨#[], none⟩, lo, fun _ => [], [], some J⟩
/-- The world as such a function finds it, and leaves it. -/
def SJ (lo : Nat) (J : Inv) (μ : Boxes) (Ds : List Data) (w : World) : Prop :=
  ∃ D, Sta ⟨#[], none⟩ lo (fun _ => []) [] μ D w ∧ (∀ D₁ ∈ Ds, Le D₁ D) ∧ exOk (Xj 0 lo J) μ D w
/-- What a call of such a function comes to. -/
def FnJ (P : Program) (f : FuncId) (args : List Value) (lo : Nat) (J : Inv) (μ : Boxes) (Ds : List Data) (post : Value → Inv → Boxes → Prop) : Prop :=
  EF P f ∧ ∀ w, SJ lo J μ Ds w → Calls P f args.toArray w fun e w' => ∃ v J' μ', e = .returned v ∧ SJ lo J' μ' Ds w' ∧ post v J' μ'
def PostJ (lo : Nat) (Ds : List Data) (post : Value → Inv → Boxes → Prop) : Ending → World → Prop := fun e w' => ∃ v J' μ', e = .returned v ∧ SJ lo J' μ' Ds w' ∧ post v J' μ'
theorem enterJ {f : FuncId} {fn : Func} {c : Code} {args : List Value} {lo : Nat} {J : Inv} {post : Value → Inv → Boxes → Prop} (N : Nat) (hf : P.funcs[f]? = some fn) (hn : (fn.name == "runtime.NumGoroutine") = false) (hb : fn.body = some c) (hN : fn.ntmps = N) (hsz : Nat.ble args.length N = true)
    (h : WC P (Xj N lo J) (bodyPost P fn (PostJ lo Ds post)) c (slotsOf 0 args) μ Ds) : FnJ P f args lo J μ Ds post := by
  refine ⟨EF.of hf hn hb, fun w hw => ?_⟩
  subst hN
  have hsz := Nat.le_of_ble_eq_true hsz
  obtain ⟨D, hs, hds, hex⟩ := hw
  refine (callsIn_FW (r := none) (n := 0)).1 (callsIn_of_wp (R := PostJ lo Ds post) hf hb trivial (h _ w ⟨?_, (fun s v hs => ?_), rfl, D, hs, hds, hex⟩) rfl)
  · simp [Xj]; omega
  · obtain ⟨_, h2⟩ := look_slotsOf args 0 s v hs
    have hl := (List.getElem?_eq_some_iff.1 h2).1
    simp only [Nat.sub_zero] at h2 hl
    show (args.toArray ++ _)[s]? = some v
    rw [Array.getElem?_append_left (by simpa using hl)]
    simpa using h2
theorem leaveJ {fn : Func} {lo N : Nat} {J : Inv} {post : Value → Inv → Boxes → Prop} {e : Exit} (he : (match e with | .normal => true | .ret => true | _ => false) = true) {rs : List ResultVar} {vs : List Value} (hr : fn.results = rs.toArray) (h : ResV P (Xj N lo J) σ μ rs vs)
    {Ds' : List Data} (hD : ∀ D ∈ Ds', ∃ D' ∈ Ds, Le D D') (hp : post (resOf vs) J μ) : ∀ a w, Hl (Xj N lo J) σ μ Ds a w → bodyPost P fn (PostJ lo Ds' post) e a w := by
  intro a w hh
  have hrun := run_results hh hr h
  obtain ⟨h1, h2, h3, D, h4, h5, h6⟩ := hh
  have : a.defers = [] ∧ ∃ v, (results fn a.tmps).run P w = .ok v w ∧ PostJ lo Ds' post (.returned v) w := ⟨h3, _, hrun, _, J, μ, rfl, ⟨D, h4, (fun D₁ h => by obtain ⟨D2, hm, hle⟩ := hD D₁ h; exact hle.trans (h5 D2 hm)), h6⟩, hp⟩
  cases e <;> first | exact this | cases he
/-- A call of such a function, in one. -/
theorem L.callJ {J : Inv} {N lo : Nat} {c : Operand} {xs : Array Operand} {ats : Array TypeId} {f : FuncId} {c1 c2 vs : List Value} {post : Value → Inv → Boxes → Prop} (ho : all[ix]? = some ⟨some d, .call { callee := .value c, args := xs, argTypes := ats }, ty, pos, aft, g⟩)
    (hc : ev σ c = some (.func (.func f) c1.toArray c2.toArray)) (hxs : evs σ xs.toList = some vs) (hfl : fl = false)
    (hf : FnJ P f (c1 ++ vs ++ c2) lo J μ Ds post) (hN : Nat.blt d N = true) (hg : Gok all σ g)
    (kk : ∀ v J' μ', post v J' μ' → WL P (Xj N lo J') bad all K Q os ((d, v) :: σ) μ' Ds) : WL P (Xj N lo J) bad all K Q ((fl, ix) :: os) σ μ Ds := by
  refine L.loud ho rfl rfl hg fun a w hh => ?_
  obtain ⟨h1, h2, h3, D, h4, h5, h6⟩ := id hh
  rw [run_call hf.1 (hh.eval hc) (evs_eval (fun _ _ hx => hh.eval hx) hxs)]
  refine ⟨fun h => by simp [FW] at h, callsIn_FW.2 ((hf.2 w ⟨D, h4, h5, h6⟩).mono ?_)⟩
  rintro e w' ⟨v, J', μ', rfl, ⟨D', hs, hds, hex⟩, hpost⟩
  exact ⟨(fun h => by rw [hfl] at h; cases h), kk v J' μ' hpost _ _ (Hl.put (X := Xj N lo J') ⟨h1, h2, h3, D', hs, hds, hex⟩ hN v)⟩
/-! ### The statement -/
theorem Sta.roundHigh {D D' : Data} {w w' : World} {μ μ' : Boxes} {β : List Nat} (hw : Agrees D w) (hs : Sta (hd w) w.heap.size D (μ.map (·.1)) μ' D' w') (hβ : ∀ b ∈ β, b < w.heap.size) (hM : ∀ p ∈ μ, p.1 ∉ β) : High β D w D' w' := by
  refine ⟨hs.size, le_of_call hw hs, fun b hb => ⟨hs.old b (hβ b hb) (fun hk => ?_), hs.dold b (hβ b hb)⟩⟩
  obtain ⟨p, hp, rfl⟩ := List.mem_map.1 hk
  exact hM p hp hb
def markOf (bd : Nat) : Deferred := { target := .collected bd, args := #[] }
def Cx.withDs (X : Cx) (bd : Nat) : Cx := { X with ds := markOf bd :: X.ds }
/-- The frame of a round. -/
def Xr (l N : Nat) (h0 : H0) (D : Data) (mods : List Nat) : Cx := ⟨some l, N, [], h0, h0.size, D, mods, none⟩
/-- What a round ends in. -/
def RoundR {γ : Type} (h0 : H0) (D : Data) (mods : List Nat) (Φ : γ → Prop) (Ψ : Code → γ → Prop) (Mx : γ → Boxes) (My : Code → γ → Boxes) : Ending → World → Prop := fun e w' =>
  ∃ b D', e = .returned (.bool b) ∧ (if b then ∃ g, Φ g ∧ Sta h0 h0.size D mods (Mx g) D' w' else ∃ c g, Ψ c g ∧ Sta h0 h0.size D mods (My c g) D' w')
/-- Behind the assignments to the loop's left sides: the round begins. -/
theorem C.begin {c : Code} {A B : Boxes} {l : Nat} {r : Loop} {QQ : Exit → Act → World → Prop} (hr : X.r = some l) (hst : r.state = .ready) (h : WC P X Q c σ (A ++ (l, .loop { r with state := .busy }) :: B) Ds) :
    ∀ a w, Hl X σ (A ++ (l, .loop r) :: B) Ds a w → Exit.then (fun a₁ w₁ => ∃ w₂, (Instr.beginRound l).run P w₁ = .ok () w₂ ∧ c.wpIn ((FW none).inRound l) 0 P Q a₁ w₂) QQ .normal a w := by
  intro a w hh
  obtain ⟨h1, h2, h3, D, h4, h5, h6⟩ := hh
  have hb := (h4.box (l, .loop r) (by simp)).1
  refine ⟨_, run_beginRound hb hst, ?_⟩
  have hHas : Has (A ++ (l, .loop r) :: B) l (.loop r) (.loop { r with state := .busy }) (A ++ (l, .loop { r with state := .busy }) :: B) := .app .head
  have hs := h4.set (w' := w.putObj l (.loop { r with state := .busy })) hHas ⟨rfl, rfl⟩ trivial
  have := h a _ ⟨h1, h2, h3, D, hs, h5, h6.step (fun _ p hp => Or.inl (by rw [← hHas.keys]; exact List.mem_map.2 ⟨p, hp, rfl⟩)) (fun _ => low_set ⟨rfl, rfl⟩ (List.mem_map.2 ⟨_, hHas.mem, rfl⟩)) hs.dom⟩
  rw [hr] at this
  exact this
/-- A round's end: on. -/
theorem C.roundOn {γ : Type} {A B : Boxes} {l : Nat} {r : Loop} {Φ : γ → Prop} {Ψ : Code → γ → Prop} {Mx : γ → Boxes} {My : Code → γ → Boxes} (g : γ) (hΦ : Φ g) (hM : Mx g = A ++ (l, .loop { r with state := .ready, pending := none }) :: B) (hlo : X.lo = X.h0.size) :
    ∀ a w, Hl X σ (A ++ (l, .loop r) :: B) Ds a w → roundPost P l (RoundR X.h0 X.D0 X.mods Φ Ψ Mx My) .normal a w := by
  intro a w hh
  obtain ⟨h1, h2, h3, D, h4, h5, h6⟩ := hh
  have hb := (h4.box (l, .loop r) (by simp)).1
  refine ⟨_, _, run_endRound none hb, true, D, rfl, g, hΦ, ?_⟩
  have hHas : Has (A ++ (l, .loop r) :: B) l (.loop r) (.loop { r with state := .ready, pending := none }) (A ++ (l, .loop { r with state := .ready, pending := none }) :: B) := .app .head
  have hs := h4.set (w' := w.putObj l (.loop { r with state := .ready, pending := none })) hHas ⟨rfl, rfl⟩ trivial
  rw [hM, ← hlo]; exact hs
/-- The loop variables' slots, as yield is called. -/
def parSlots : List Tmp → List Value → Slots → Slots
  | p :: ps, v :: vs, σ => parSlots ps vs ((p, v) :: σ)
  | _, _, σ => σ
theorem look_par : ∀ (ps : List Tmp) (vs : List Value) (tmps : Array Value) (σ : Slots), (∀ s v, look σ s = some v → tmps[s]? = some v) → (∀ p ∈ ps, p < tmps.size) →
    ∀ s v, look (parSlots ps vs σ) s = some v → ((ps.zip vs).foldl (fun tmps (p : Tmp × Value) => tmps.setIfInBounds p.1 p.2) tmps)[s]? = some v
  | [], vs, tmps, σ, h, _, s, v, hs => by cases vs <;> exact h s v hs
  | p :: ps, [], tmps, σ, h, _, s, v, hs => h s v hs
  | p :: ps, u :: vs, tmps, σ, h, hp, s, v, hs => by
    refine look_par ps vs (tmps.setIfInBounds p u) ((p, u) :: σ) (fun s v hs => ?_) (fun q hq => by simpa using hp q (List.mem_cons_of_mem _ hq)) s v hs
    simp only [look] at hs
    cases hb : Nat.beq p s with
    | true => rw [hb] at hs; cases hs; obtain rfl := Nat.eq_of_beq_eq_true hb; rw [Array.getElem?_setIfInBounds_self_of_lt (hp p List.mem_cons_self)]
    | false => rw [hb] at hs; rw [Array.getElem?_setIfInBounds_ne (fun e => by subst e; simp at hb)]; exact h s v hs
theorem size_par : ∀ (l : List (Tmp × Value)) (tmps : Array Value), (l.foldl (fun tmps (p : Tmp × Value) => tmps.setIfInBounds p.1 p.2) tmps).size = tmps.size
  | [], _ => rfl
  | p :: l, tmps => by rw [List.foldl_cons, size_par l]; simp
/-! ### A function that ranges over a function: entering it, and leaving it -/
def BodyM (P : Program) (fn : Func) (R : Ending → World → Prop) : Exit → Act → World → Prop
  | .normal, a, w => LeavesInM (FW none) 0 P fn a.tmps R a.defers .returning w
  | .ret, a, w => LeavesInM (FW none) 0 P fn a.tmps R a.defers .returning w
  | _, _, _ => False
/-! ### Entering an iterator -/
end Go.Fs
namespace Go.Fs
variable {P : Program} {X : Cx} {γb : Type} [Membership Nat γb] {bad : γb} {all : Array Oper} {K : Act → World → Prop} {Q : Exit → Act → World → Prop}
variable {σ : Slots} {μ : Boxes} {Ds : List Data} {os : List (Bool × Nat)} {fl : Bool} {ix : Nat}
variable {d : Nat} {x y z : Operand} {u v : Value} {ty : TypeId} {pos : String} {aft : Array Edge} {g : Option (Nat × Bool)}
/-- 'a[:]' of an array in a box. -/
theorem L.sliceA {t e : TypeId} {n b : Nat} (ho : all[ix]? = some ⟨some d, .slice t x none none none, ty, pos, aft, g⟩) (ht : P.underlying t = some (.array n e)) (hs : TS P e 1) (hx : ev σ x = some (.pointer (some ⟨b, 0, none⟩)))
    (hN : Nat.blt d X.N = true) (hg : Gok all σ g) (kk : WL P X bad all K Q os ((d, .slice (some ⟨b, 0, none⟩) n n) :: σ) μ Ds) : WL P X bad all K Q ((fl, ix) :: os) σ μ Ds :=
  L.pure ho rfl rfl hN hg (fun ρ hρ w' => by
    simp only [execOp, hρ x _ hx, Option.map_none]
    unfold Instr.sliceAt Instr.sureAddr Instr.sliceBounds
    simp only [Sem.run_bind, TU.of ht w', Result.andThen_ok, hs w', Sem.run_pure, pure_bind, Nat.zero_mul, Nat.sub_zero]
    split <;> simp [Addr.add]) kk
/-- A conversion between kinds of numbers, of a number that fits. -/
theorem L.convert {k k' : IntKind} {s t : TypeId} {n : Int} (ho : all[ix]? = some ⟨some d, .convert s t x, ty, pos, aft, g⟩) (hr : ∀ w, (Go.convert s t (.int k n)).run P w = .ok (.int k' n) w) (hx : ev σ x = some (.int k n)) (hN : Nat.blt d X.N = true) (hg : Gok all σ g)
    (kk : WL P X bad all K Q os ((d, .int k' n) :: σ) μ Ds) : WL P X bad all K Q ((fl, ix) :: os) σ μ Ds :=
  L.pure ho rfl rfl hN hg (fun ρ hρ w' => by simp only [execOp, hρ x _ hx, Sem.run_bind, hr w', Result.andThen_ok, Sem.run_pure]) kk
/-- A comparison whose run is known. -/
theorem L.eqlX {t t' : TypeId} {b : Bool} (ho : all[ix]? = some ⟨some d, .binOp .eql t x y t', ty, pos, aft, g⟩) (hr : ∀ w, ((do eqGuard .eql t x y u v; binOp .eql t u v) : Sem Value).run P w = .ok (.bool b) w) (hx : ev σ x = some u) (hy : ev σ y = some v) (hN : Nat.blt d X.N = true) (hg : Gok all σ g)
    (kk : WL P X bad all K Q os ((d, .bool b) :: σ) μ Ds) : WL P X bad all K Q ((fl, ix) :: os) σ μ Ds :=
  L.pure ho rfl rfl hN hg (fun ρ hρ w' => by simp only [execOp, hρ x _ hx, hρ y _ hy]; rw [Sem.run_bind, hr w']; rfl) kk
theorem L.neqX {t t' : TypeId} {b : Bool} (ho : all[ix]? = some ⟨some d, .binOp .neq t x y t', ty, pos, aft, g⟩) (hr : ∀ w, ((do eqGuard .neq t x y u v; binOp .neq t u v) : Sem Value).run P w = .ok (.bool b) w) (hx : ev σ x = some u) (hy : ev σ y = some v) (hN : Nat.blt d X.N = true) (hg : Gok all σ g)
    (kk : WL P X bad all K Q os ((d, .bool b) :: σ) μ Ds) : WL P X bad all K Q ((fl, ix) :: os) σ μ Ds :=
  L.pure ho rfl rfl hN hg (fun ρ hρ w' => by simp only [execOp, hρ x _ hx, hρ y _ hy]; rw [Sem.run_bind, hr w']; rfl) kk
/-- Scopes and labels change nothing. -/
theorem C.label {n : Nat} (h : ∀ a w, Hl X σ μ Ds a w → Q .normal a w) : WC P X Q (.label n) σ μ Ds := fun a w hh => wpIn_label (h a w hh)
/-- An element of an array of numbers, out of the array's value. -/
theorem L.indexV {t e : TypeId} {n : Nat} {l : List Int} {k : IntKind} {i m : Int} (ho : all[ix]? = some ⟨some d, .index t x y, ty, pos, aft, g⟩) (ht : P.underlying t = some (.array n e)) (ha : TA P e false) (hs : TS P e 1) (hx : ev σ x = some (.agg (ints l).toArray)) (hy : ev σ y = some (.int k i)) (h0 : 0 ≤ i) (h1 : i < n) (hm : l[i.toNat]? = some m)
    (hN : Nat.blt d X.N = true) (hg : Gok all σ g) (kk : WL P X bad all K Q os ((d, .int .i64 m) :: σ) μ Ds) : WL P X bad all K Q ((fl, ix) :: os) σ μ Ds :=
  L.pure ho rfl rfl hN hg (fun ρ hρ w' => by
    have hg : (ints l).toArray[i.toNat]? = some (.int .i64 m) := by simpa using ints_get hm
    simp only [execOp, hρ x _ hx, hρ y _ hy]
    unfold Instr.index asIntOf part
    simp only [Sem.run_bind, TU.of ht w', Result.andThen_ok, hs w', ha w', Sem.run_pure, pure_bind, h0, h1, and_self, if_true, Nat.mul_one, Bool.false_eq_true, if_false, hg]) kk
/-- A cell of data at a computed place. -/
theorem L.loadDI {t : TypeId} {D₁ : Data} {b k : Nat} {cs : List Value} (ho : all[ix]? = some ⟨some d, .load t x, ty, pos, aft, g⟩) (ha : TA P t false) (hx : ev σ x = some (.pointer (some ⟨b, k, none⟩))) (hA : At D₁ b 0 cs) (hD : D₁ ∈ Ds) (hv : cs[k]? = some v) (hb : b ∉ bad)
    (hN : Nat.blt d X.N = true) (hg : Gok all σ g) (kk : WL P X bad all K Q os ((d, v) :: σ) μ Ds) : WL P X bad all K Q ((fl, ix) :: os) σ μ Ds :=
  L.loadD1 (o := 0) (k := k) ho ha (by rw [Nat.zero_add]; exact hx) hA hD hv hb hN hg kk
/-- A loop in a function that calls yield: what the loop's owner knows goes by the letter, too. -/
theorem C.loopJ {γ : Type} {c : Code} {N lo : Nat} {J0 : Inv} (m : γ → Nat) (I : γ → Prop) (J : γ → Inv) (ch : γ → Slots) (rest : Slots) (M : γ → Boxes) (E : γ → List Data) (g₀ : γ) (h₀ : I g₀) (hJ : J0 = J g₀) (hch : Sub σ (ch g₀)) (hrest : Sub σ rest) (hμ : (M g₀).Sublist μ) (hD : ∀ D ∈ E g₀, ∃ D' ∈ Ds, Le D D')
    (round : ∀ g, I g → WC P (Xj N lo (J g)) (Exit.then (fun a w => ∃ g', I g' ∧ m g' < m g ∧ Hl (Xj N lo (J g')) (ch g' ++ rest) (M g') (E g') a w) Q) c (ch g ++ rest) (M g) (E g)) : WC P (Xj N lo J0) Q (.loop c) σ μ Ds := by
  subst hJ
  let p : Act → World → Nat → Prop := fun a w n => ∃ g, I g ∧ m g = n ∧ Hl (Xj N lo (J g)) (ch g ++ rest) (M g) (E g) a w
  have ex : ∀ a w, (∃ n, p a w n) → ∃ n, p a w n ∧ ∀ k, p a w k → n ≤ k := by
    intro a w ⟨n, hn⟩
    induction n using Nat.strongRecOn with
    | _ n ih =>
      by_cases h : ∃ k, k < n ∧ p a w k
      · obtain ⟨k, hk, hp⟩ := h; exact ih k hk hp
      · exact ⟨n, hn, fun k hk => Nat.le_of_not_lt fun hl => h ⟨k, hl, hk⟩⟩
  intro a w hh
  refine wpIn_loop (fun a w => ∃ n, p a w n) (fun a w => open Classical in if h : ∃ n, p a w n then (ex a w h).choose else 0) ⟨_, g₀, h₀, rfl, hh.weak (Sub.app hch hrest) hμ hD⟩ ?_
  intro a w hI
  obtain ⟨⟨g, hg, hm, hst⟩, hmin⟩ := (ex a w hI).choose_spec
  refine wpIn_mono (round g hg a w hst) fun e a' w' hq => ?_
  cases e with
  | normal =>
    obtain ⟨g', hg', hlt, hst'⟩ := hq
    have hI' : ∃ n, p a' w' n := ⟨_, g', hg', rfl, hst'⟩
    refine ⟨hI', ?_⟩
    simp only [dif_pos hI', dif_pos hI]
    have := (ex a' w' hI').choose_spec.2 _ ⟨g', hg', rfl, hst'⟩
    omega
  | _ => exact hq
theorem C.againJ {γ : Type} {N lo : Nat} {J1 : Inv} {m : γ → Nat} {I : γ → Prop} {J : γ → Inv} {ch : γ → Slots} {rest : Slots} {M : γ → Boxes} {E : γ → List Data} {g : γ} (n : Nat) (g' : γ) (h1 : I g') (h2 : m g' < m g) (hJ : J1 = J g') (hch : Sub σ (ch g')) (hn : dropOk n σ = true) (hr : σ.drop n = rest) (hμ : (M g').Sublist μ) (hD : ∀ D ∈ E g', ∃ D' ∈ Ds, Le D D') :
    ∀ a w, Hl (Xj N lo J1) σ μ Ds a w → Exit.then (fun a w => ∃ g', I g' ∧ m g' < m g ∧ Hl (Xj N lo (J g')) (ch g' ++ rest) (M g') (E g') a w) Q .normal a w := by
  subst hJ
  intro a w hh
  refine ⟨g', h1, h2, ?_⟩
  have h3 := hh.weak (σ' := ch g') hch hμ hD
  refine ⟨h3.1, fun s v hs => ?_, h3.2.2⟩
  rcases look_append hs with hs | hs
  · exact h3.2.1 s v hs
  · subst hr; exact hh.2.1 s v (look_drop n σ hn s v hs)
/-- The boxes are apart from each other. -/
theorem C.nd {c : Code} (k : (μ.map (·.1)).Nodup → WC P X Q c σ μ Ds) : WC P X Q c σ μ Ds := fun a w hh => k (by obtain ⟨_, _, _, D, h4, _⟩ := hh; exact h4.nd) a w hh
/-- A store of a whole block. -/
theorem L.storeW {t : TypeId} {b n : Nat} {vs us : List Value} {e : TypeId} {μ' : Boxes} (ho : all[ix]? = some ⟨none, .store t x y, ty, pos, aft, g⟩) (hx : ev σ x = some (.pointer (some ⟨b, 0, none⟩))) (hy : ev σ y = some v) (hv : v.cells = us.toArray) (hs : TS P t n)
    (hn : us.length = n) (hl : vs.length = n) (hm : Has μ b (.cells vs.toArray e (0, 0)) (.cells us.toArray e (0, 0)) μ') (hc1 : ∀ u ∈ us, cell1 u = true) (hg : Gok all σ g)
    (kk : WL P X bad all K Q os σ μ' Ds) : WL P X bad all K Q ((false, ix) :: os) σ μ Ds :=
  L.store ho hx hy hv (by rw [hn]; exact hs) hm (by omega) (by rw [List.take_zero, Nat.zero_add, List.drop_eq_nil_of_le (by omega)]; simp) hc1 hg kk
/-- The length of a slice that somebody owns. -/
theorem L.lenAcc {t e tr e' : TypeId} {n sz : Nat} {cells : List Value} {ν : Boxes} {ats : Array TypeId} (ho : all[ix]? = some ⟨some d, .call { callee := .builtin .len, args := #[x], argTypes := ats }, tr, pos, aft, g⟩) (ht : P.underlying t = some (.slice e)) (hx : ev σ x = some v) (hS : Acc e' sz v n cells ν) (hat : ats[0]? = some t)
    (hN : Nat.blt d X.N = true) (hg : Gok all σ g) (kk : WL P X bad all K Q os ((d, .int .i64 (n : Int)) :: σ) μ Ds) :
    WL P X bad all K Q ((fl, ix) :: os) σ μ Ds :=
  L.pure ho rfl rfl hN hg (fun ρ hρ w' => by
    have hx' := hρ x _ hx
    rcases hS with ⟨a, rfl, rfl, _⟩ | ⟨b, cap, junk, rfl, _⟩
    · simp [Builtin.len_, hat, hx', Sem.run_bind, TU.of ht w', goInt, Sem.run_pure, go_sem]
    · simp [Builtin.len_, hat, hx', Sem.run_bind, TU.of ht w', goInt, Sem.run_pure, go_sem]) kk
theorem Hl.dropBoxes {a : Act} {w : World} (n : Nat) (h : Hl X σ μ Ds a w) : Hl X σ (μ.drop n) Ds a w := by
  obtain ⟨h1, h2, h3, D, h4, h5, h6⟩ := h
  have hμ : (μ.drop n).Sublist μ := List.drop_sublist n μ
  exact ⟨h1, h2, h3, D, h4.sub (fun p hp => hμ.mem hp) ((hμ.map (·.1)).nodup h4.nd), h5, h6.step (fun _ p hp => Or.inl (List.mem_map.2 ⟨p, hμ.mem hp, rfl⟩)) (fun _ => Low.refl _ _ _) h4.dom⟩
theorem Acc.cells1 {e : TypeId} {sz n : Nat} {cells : List Value} {ν : Boxes} (h : Acc e sz v n cells ν) : v.cells = [v].toArray := by
  rcases h with ⟨a, rfl, _⟩ | ⟨b, cap, junk, rfl, _⟩ <;> rfl
theorem Acc.cell1 {e : TypeId} {sz n : Nat} {cells : List Value} {ν : Boxes} (h : Acc e sz v n cells ν) : ∀ u ∈ [v], Fs.cell1 u = true := by
  rcases h with ⟨a, rfl, _⟩ | ⟨b, cap, junk, rfl, _⟩ <;> simp [Fs.cell1]
/-! ### Scopes -/
theorem stepR_scope' {b : Frame} {a : Act} {k : List Item} {cs : List Frame} {w : World} {c : Code} : step P (lone (b.atR a (.code (.scope c) :: k)) cs w) = .next (lone (b.atR a (.code c :: .inScope c :: k)) cs w) :=
  step_lone_go (by simp [stepG, stepG.exec, Frame.atR])
theorem stepR_inScope' {b : Frame} {a : Act} {k : List Item} {cs : List Frame} {w : World} {c : Code} : step P (lone (b.atR a (.inScope c :: k)) cs w) = .next (lone (b.atR a k) cs w) :=
  step_lone_go (by simp [stepG, stepG.exec, Frame.atR])
def NoGoto (Q : Exit → Act → World → Prop) : Exit → Act → World → Prop
  | .goto _, _, _ => False
  | e, a, w => Q e a w
theorem wpIn_scope' {F : Fence} {n : Nat} {c : Code} {a : Act} {w : World} (h : c.wpIn F n P (NoGoto Q) a w) : (Code.scope c).wpIn F n P Q a w := by
  intro b k cs hro hb hr
  have h0 : (lone (b.atR a (.code (.scope c) :: k)) cs w).fenced P F := fenced_calm hb hr rfl
  obtain ⟨e, a₁, w₁, hq, harr⟩ := h b (.inScope c :: k) cs hro hb hr
  cases e with
  | normal => exact ⟨.normal, a₁, w₁, hq, .head h0 stepR_scope' (StepsIn.trans harr (.one (fenced_calm hb hr rfl) stepR_inScope'))⟩
  | exit id' =>
    have hx : exitTo id' (.inScope c :: k) = exitTo id' k := by simp [exitTo]
    exact ⟨.exit id', a₁, w₁, hq, fun k' hk => .head h0 stepR_scope' (harr.1 k' (by rw [hx]; exact hk)),
      fun hr' hk => let ⟨k₁, h1, h2⟩ := harr.2 hr' (by rw [hx]; exact hk); ⟨k₁, h1, .head h0 stepR_scope' h2⟩⟩
  | goto l => exact hq.elim
  | ret => exact ⟨_, a₁, w₁, hq, .of_steps (.one h0 stepR_scope') harr⟩
  | panic ch => exact ⟨_, a₁, w₁, hq, .of_steps (.one h0 stepR_scope') harr⟩
  | outgrown => exact ⟨_, a₁, w₁, hq, .of_steps (.one h0 stepR_scope') harr⟩
theorem C.scope {c : Code} (h : WC P X (NoGoto Q) c σ μ Ds) : WC P X Q (.scope c) σ μ Ds := fun a w hh => wpIn_scope' (h a w hh)
theorem C.scopeRet (h : ∀ a w, Hl X σ μ Ds a w → Q .ret a w) : ∀ a w, Hl X σ μ Ds a w → NoGoto Q .ret a w := h
theorem L.boxesEq (μ' : Boxes) (h : μ = μ') (k : WL P X bad all K Q os σ μ' Ds) : WL P X bad all K Q os σ μ Ds := h ▸ k
theorem C.boxesEq {c : Code} (μ' : Boxes) (h : μ = μ') (k : WC P X Q c σ μ' Ds) : WC P X Q c σ μ Ds := h ▸ k
theorem Sl.cell1 {α : Type} {R : Rd α} {D : Data} {sz : Nat} {v : Value} {xs : List α} (h : Sl D R sz v xs) : ∀ u ∈ [v], Fs.cell1 u = true := by
  obtain ⟨a, cap, rfl, _⟩ := h; simp [Fs.cell1]
end Go.Fs
namespace Go.Fs
variable {P : Program} {X : Cx} {γb : Type} [Membership Nat γb] {bad : γb} {all : Array Oper} {K : Act → World → Prop} {Q : Exit → Act → World → Prop}
variable {σ : Slots} {μ : Boxes} {Ds : List Data} {os : List (Bool × Nat)} {fl : Bool} {ix : Nat}
variable {d : Nat} {x y z : Operand} {u v : Value} {ty : TypeId} {pos : String} {aft : Array Edge} {g : Option (Nat × Bool)}
theorem run_part_int {e : TypeId} {q : IntKind} (hu : P.underlying e = some (.int q)) {xs : Array Value} {off : Nat} {v : Value} (hx : xs[off]? = some v) (w : World) : (part e xs off).run P w = .ok v w :=
  run_part_plain w (by simp [Program.plainKey, hu]) hx
theorem run_eqItems_ints (dp : Nat) {e : TypeId} (hu : P.underlying e = some (.int .i64)) (l m : List Int) (w : World) : ∀ (is : List Nat), (∀ i ∈ is, i < l.length ∧ i < m.length) →
    (Op.eqItems (dp + 1) e 1 (ints l).toArray (ints m).toArray is).run P w = .ok (is.all fun i => l[i]? == m[i]?) w
  | [], _ => by simp [Op.eqItems, Sem.run_pure]
  | i :: is, h => by
    obtain ⟨h1, h2⟩ := h i List.mem_cons_self
    have g1 : (ints l).toArray[i * 1]? = some (.int .i64 l[i]) := by rw [Nat.mul_one]; simpa using ints_get (List.getElem?_eq_getElem h1)
    have g2 : (ints m).toArray[i * 1]? = some (.int .i64 m[i]) := by rw [Nat.mul_one]; simpa using ints_get (List.getElem?_eq_getElem h2)
    simp only [Op.eqItems, Sem.run_bind, run_part_int hu g1, run_part_int hu g2, run_equalIn_int w dp e .i64 .i64 _ _ hu, Result.andThen_ok, List.all_cons, List.getElem?_eq_getElem h1, List.getElem?_eq_getElem h2]
    by_cases he : l[i] = m[i]
    · simp [he, run_eqItems_ints dp hu l m w is (fun j hj => h j (List.mem_cons_of_mem _ hj))]
    · simp [he, Sem.run_pure]
theorem all_range_eq {l m : List Int} {n : Nat} (hl : l.length = n) (hm : m.length = n) : ((List.range n).all fun i => l[i]? == m[i]?) = (l == m) := by
  rw [Bool.eq_iff_iff]
  simp only [List.all_eq_true, List.mem_range, beq_iff_eq]
  constructor
  · intro h
    apply List.ext_getElem?
    intro i
    by_cases hi : i < n
    · exact h i hi
    · rw [List.getElem?_eq_none (by omega), List.getElem?_eq_none (by omega)]
  · rintro rfl i _; rfl
/-- Two arrays of numbers are compared. -/
theorem L.eqlA {t e t' : TypeId} {n : Nat} {l m : List Int} (ho : all[ix]? = some ⟨some d, .binOp .eql t x y t', ty, pos, aft, g⟩) (hgt : P.eqGuardType P.depth t = false) (ht : P.underlying t = some (.array n e)) (he : P.underlying e = some (.int .i64)) (hc : P.cellsOf e = 1)
    (hl : l.length = n) (hm : m.length = n) (hx : ev σ x = some (.agg (ints l).toArray)) (hy : ev σ y = some (.agg (ints m).toArray)) (hN : Nat.blt d X.N = true) (hg : Gok all σ g)
    (kk : WL P X bad all K Q os ((d, .bool (l == m)) :: σ) μ Ds) : WL P X bad all K Q ((fl, ix) :: os) σ μ Ds :=
  L.eqlX ho (fun w => by
    have hgd : (eqGuard .eql t x y (.agg (ints l).toArray) (.agg (ints m).toArray)).run P w = .ok () w := by
      simp only [eqGuard, program]
      simp [Sem.run, hgt, go_sem]
    have heq : (Op.equal t (.agg (ints l).toArray) (.agg (ints m).toArray)).run P w = .ok (l == m) w := by
      obtain ⟨i, hi⟩ := info_of_underlying he
      have h := run_equalIn_array (P := P) w 9999 (ints l).toArray (ints m).toArray ht hi
      rw [hc, run_eqItems_ints 9998 he l m w (List.range n) (fun j hj => by have := List.mem_range.1 hj; omega), all_range_eq hl hm] at h
      exact h
    rw [Sem.run_bind, hgd]
    show ((do Pure.pure (Value.bool (← Op.equal t (.agg (ints l).toArray) (.agg (ints m).toArray)))) : Sem Value).run P w = _
    rw [Sem.run_bind, heq]; rfl) hx hy hN hg kk
/-! ### Maps -/
def K2 (P : Program) (k : TypeId) : Prop := P.underlying k = some (.struct (P.fieldsOf k)) ∧ P.stoodInHeld k = false ∧
  (P.fieldsOf k).toList.map (fun f => (f.name == "_", f.offset, P.underlying f.type)) = [(false, 0, some (.int .i64)), (false, 1, some (.int .i64))]
def k2V (k : Int × Int) : Value := .agg #[.int .i64 k.1, .int .i64 k.2]
theorem K2.fields {k : TypeId} (h : K2 P k) : ∃ f0 f1, P.underlying k = some (.struct #[f0, f1]) ∧ P.fieldsOf k = #[f0, f1] ∧ f0.name ≠ "_" ∧ f1.name ≠ "_" ∧ f0.offset = 0 ∧ f1.offset = 1 ∧ P.underlying f0.type = some (.int .i64) ∧ P.underlying f1.type = some (.int .i64) := by
  obtain ⟨h1, h2, h3⟩ := h
  generalize hl : (P.fieldsOf k).toList = fs at h3
  have h0 := congrArg List.length h3
  simp only [List.length_map, List.length_cons, List.length_nil] at h0
  rcases fs with _ | ⟨f0, _ | ⟨f1, _ | ⟨f2, fs⟩⟩⟩ <;> simp only [List.length_cons, List.length_nil] at h0 <;> try omega
  have he : P.fieldsOf k = #[f0, f1] := by rw [← Array.toArray_toList (xs := P.fieldsOf k), hl]
  simp only [List.map_cons, List.map_nil, List.cons.injEq, Prod.mk.injEq, and_true, beq_eq_false_iff_ne] at h3
  exact ⟨f0, f1, by rw [h1, he], he, h3.1.1, h3.2.1, h3.1.2.1, h3.2.2.1, h3.1.2.2, h3.2.2.2⟩
theorem run_equal_k2 {k : TypeId} (h : K2 P k) (a b : Int × Int) (w : World) : (Op.equal k (k2V a) (k2V b)).run P w = .ok (a == b) w := by
  obtain ⟨a1, a2⟩ := a
  obtain ⟨b1, b2⟩ := b
  obtain ⟨f0, f1, hu, hf, n0, n1, o0, o1, t0, t1⟩ := h.fields
  have he := run_equalIn_struct (P := P) w 9999 k #[.int .i64 a1, .int .i64 a2] #[.int .i64 b1, .int .i64 b2] h.1 h.2.1
  show (Op.equalIn (9999 + 1) k (.agg #[.int .i64 a1, .int .i64 a2]) (.agg #[.int .i64 b1, .int .i64 b2])).run P w = _
  rw [he, hf]
  have p0 : ∀ c1 c2 : Int, (part f0.type #[.int .i64 c1, .int .i64 c2] f0.offset).run P w = .ok (.int .i64 c1) w := fun c1 c2 => run_part_int t0 (by rw [o0]; rfl) w
  have p1 : ∀ c1 c2 : Int, (part f1.type #[.int .i64 c1, .int .i64 c2] f1.offset).run P w = .ok (.int .i64 c2) w := fun c1 c2 => run_part_int t1 (by rw [o1]; rfl) w
  have e0 := run_equalIn_int w 9998 f0.type .i64 .i64 a1 b1 t0
  have e1 := run_equalIn_int w 9998 f1.type .i64 .i64 a2 b2 t1
  have s1 : (Op.eqFields 9999 #[.int .i64 a1, .int .i64 a2] #[.int .i64 b1, .int .i64 b2] [f1]).run P w = .ok (a2 == b2) w := by
    simp only [Op.eqFields, n1, ne_eq, not_false_eq_true, if_true, Sem.run_bind, p1, Result.andThen_ok]
    rw [e1]
    simp only [Result.andThen_ok]
    cases a2 == b2 <;> rfl
  show (Op.eqFields 9999 #[.int .i64 a1, .int .i64 a2] #[.int .i64 b1, .int .i64 b2] (f0 :: [f1])).run P w = _
  rw [Op.eqFields, if_pos n0]
  simp only [Sem.run_bind, p0, Result.andThen_ok]
  rw [e0]
  simp only [Result.andThen_ok]
  by_cases hab : a1 = b1
  · subst hab
    simp only [beq_self_eq_true, Bool.not_true, Bool.false_eq_true, if_false]
    rw [s1]
    have : (a2 == b2) = ((a1, a2) == (a1, b2)) := by rw [Bool.eq_iff_iff]; simp
    rw [this]
  · have hb : (a1 == b1) = false := by simpa using hab
    simp only [hb, Bool.not_false, if_true, Sem.run_pure]
    simp [hab]
/-- Two structs of two numbers are compared. -/
theorem L.eqlK {t t' : TypeId} {a b : Int × Int} (ho : all[ix]? = some ⟨some d, .binOp .eql t x y t', ty, pos, aft, g⟩) (hgt : P.eqGuardType P.depth t = false) (ht : K2 P t) (hx : ev σ x = some (k2V a)) (hy : ev σ y = some (k2V b)) (hN : Nat.blt d X.N = true) (hg : Gok all σ g)
    (kk : WL P X bad all K Q os ((d, .bool (a == b)) :: σ) μ Ds) : WL P X bad all K Q ((fl, ix) :: os) σ μ Ds :=
  L.eqlX ho (fun w => by
    have hgd : (eqGuard .eql t x y (k2V a) (k2V b)).run P w = .ok () w := by
      simp only [eqGuard, k2V, program]
      simp [Sem.run, hgt, go_sem]
    rw [Sem.run_bind, hgd]
    show ((do Pure.pure (Value.bool (← Op.equal t (k2V a) (k2V b)))) : Sem Value).run P w = _
    rw [Sem.run_bind, run_equal_k2 ht]; rfl) hx hy hN hg kk
/-- A conversion of a number to another kind, in which it fits. -/
theorem L.convI {k k' : IntKind} {s t : TypeId} {u' : TypeDesc} {n : Int} (ho : all[ix]? = some ⟨some d, .convert s t x, ty, pos, aft, g⟩) (hs : P.underlying s = some u') (ht : P.underlying t = some (.int k')) (hx : ev σ x = some (.int k n)) (hn : inK k' n) (hN : Nat.blt d X.N = true) (hg : Gok all σ g)
    (kk : WL P X bad all K Q os ((d, .int k' n) :: σ) μ Ds) : WL P X bad all K Q ((fl, ix) :: os) σ μ Ds :=
  L.convert ho (fun w => by
    simp only [Go.convert, Sem.run_bind, TU.of hs w, TU.of ht w, Result.andThen_ok, Conv.intToInt, wrap_in hn]
    rfl) hx hN hg kk
theorem Acc.shape {e : TypeId} {sz n : Nat} {cells : List Value} {ν : Boxes} (h : Acc e sz v n cells ν) : ∃ a cap, v = .slice a n cap := by
  rcases h with ⟨a, hv, hn, _, _⟩ | ⟨b, cap, junk, hv, _⟩
  · exact ⟨a, 0, by rw [hv, hn]⟩
  · exact ⟨_, cap, hv⟩
theorem Sl.shape {α : Type} {R : Rd α} {D : Data} {sz : Nat} {xs : List α} (h : Sl D R sz v xs) : ∃ a cap, v = .slice a xs.length cap := by
  obtain ⟨a, cap, hv, _⟩ := h; exact ⟨a, cap, hv⟩
theorem L.makeMap {t : TypeId} (ho : all[ix]? = some ⟨some d, .makeMap t none, ty, pos, aft, g⟩) (hN : Nat.blt d X.N = true) (hg : Gok all σ g)
    (kk : ∀ b, WL P X bad all K Q os ((d, .map (some b)) :: σ) ((b, .map #[] 0) :: μ) Ds) : WL P X bad all K Q ((fl, ix) :: os) σ μ Ds := by
  refine L.loud ho rfl rfl hg fun a w hh => ?_
  obtain ⟨h1, h2, h3, D, h4, h5, h6⟩ := id hh
  have : (execOp a.eval ⟨some d, .makeMap t none, ty, pos, aft, g⟩).run P w = .ok (.value (.map (some w.heap.size))) { w with heap := w.heap.push (.map #[] 0) } := rfl
  rw [this]
  exact ⟨fun _ => keep_push _ _ _, kk _ _ _ (Hl.put ⟨h1, h2, h3, D, h4.push _ (show unfrozen (.map #[] 0) from trivial), h5, h6.step (fun _ p hp => by rcases List.mem_cons.1 hp with rfl | hp; exact Or.inr (Nat.le_refl _); exact Or.inl (List.mem_map.2 ⟨p, hp, rfl⟩)) (fun _ => low_push _ _) (h4.push _ (show unfrozen (.map #[] 0) from trivial)).dom⟩ hN _)⟩
theorem run_getObj {w : World} {r : Nat} {es : Array MapEntry} {clock : Nat} (h : w.heap[r]? = some (.map es clock)) : (getObj r).run P w = .ok (.map es clock) w := by
  simp [getObj, Sem.run, h]
/-! ### Bits -/
theorem L.shl {t t' : TypeId} {m n : Int} {k : IntKind} (ho : all[ix]? = some ⟨some d, .binOp .shl t x y t', ty, pos, aft, g⟩) (hx : ev σ x = some (.int .i64 m)) (hy : ev σ y = some (.int k n)) (h0 : 0 ≤ n) (h1 : n < 64) (hr : inK .i64 (m * 2 ^ n.toNat)) (hN : Nat.blt d X.N = true) (hg : Gok all σ g)
    (kk : WL P X bad all K Q os ((d, .int .i64 (m * 2 ^ n.toNat)) :: σ) μ Ds) : WL P X bad all K Q ((fl, ix) :: os) σ μ Ds :=
  L.pure ho rfl rfl hN hg (fun ρ hρ w' => by
    have hn : min n.toNat IntKind.i64.bits = n.toNat := by have : IntKind.i64.bits = 64 := rfl; omega
    have h0' : ¬ n < 0 := by omega
    have hs : (binOp .shl t (.int .i64 m) (.int k n)).run P w' = .ok (.int .i64 (m * 2 ^ n.toNat)) w' := by
      show (Op.shift .shl .i64 m k n).run P w' = _
      unfold Op.shift
      rw [if_neg h0']
      simp only [hn, wrap_in hr, Sem.run_pure]
    have hg : ∀ w, (eqGuard .shl t x y (.int .i64 m) (.int k n)).run P w = .ok () w := fun w => rfl
    simp only [execOp, hρ x _ hx, hρ y _ hy, Sem.run_bind, hg, Result.andThen_ok, hs, Sem.run_pure]) kk
/-! ### Calls that change one of the caller's blocks -/
theorem L.shl1 {t t' : TypeId} {n : Nat} (ho : all[ix]? = some ⟨some d, .binOp .shl t x y t', ty, pos, aft, g⟩) (hx : ev σ x = some (.int .i64 1)) (hy : ev σ y = some (.int .i64 (n : Int))) (h1 : n < 62) (hN : Nat.blt d X.N = true) (hg : Gok all σ g)
    (kk : WL P X bad all K Q os ((d, .int .i64 ((2 ^ n : Nat) : Int)) :: σ) μ Ds) : WL P X bad all K Q ((fl, ix) :: os) σ μ Ds := by
  have h2 : (2 : Nat) ^ n < 2 ^ 62 := Nat.pow_lt_pow_right (by omega) h1
  have e : (1 : Int) * 2 ^ (n : Int).toNat = ((2 ^ n : Nat) : Int) := by simp
  have hr : inK .i64 ((1 : Int) * 2 ^ (n : Int).toNat) := by
    rw [e]; generalize (2 : Nat) ^ n = q at h2; simp only [inK]; omega
  refine L.shl ho hx hy (by omega) (by omega) hr hN hg ?_
  rw [e]; exact kk
end Go.Fs
namespace Go.Fs
open Go.ChangeShapes Go.WideShapes Go.RowKit
/-- All cells of all blocks. -/
def full (W : World) : Data := fun b => match W.heap[b]? with
  | some (.cells cs _ _) => cs.toList
  | _ => []
theorem full_agrees (W : World) : Agrees (full W) W := by
  intro b hb
  unfold full at hb ⊢
  split at hb
  · rename_i cs e fz h
    exact ⟨cs, e, fz, h, List.prefix_refl _⟩
  · exact absurd rfl hb
theorem full_cell {W : World} {b i : Nat} {v : Value} (h : W.cell? ⟨b, i, none⟩ = some v) : (full W b)[i]? = some v := by
  unfold World.cell? at h
  unfold full
  split at h
  · rename_i cs e fz hb
    simp only at hb
    rw [hb]
    simpa using h
  · cases h
/-- Everything is as it was; what is new is not kept from being written. -/
structure Kept (W W' : World) : Prop where
  env : wenv W' = wenv W
  size : W.heap.size ≤ W'.heap.size
  old : ∀ b, b < W.heap.size → W'.heap[b]? = W.heap[b]?
  fz : ∀ b o, W.heap.size ≤ b → W'.heap[b]? = some o → unfrozen o
theorem Kept.but {W W' : World} (h : Kept W W') (may : MemPlace → Prop) : W.keptBut W' may := by
  refine ⟨congrArg Prod.fst h.env, congrArg Prod.snd h.env, fun i hi => ?_⟩
  rw [h.old i hi]
  cases W.heap[i]? with
  | none => rfl
  | some o => cases o <;> first | exact ⟨rfl, rfl, rfl, fun _ _ => rfl⟩ | exact Or.inr ⟨rfl, rfl⟩ | rfl
theorem Kept.frozen {W W' : World} (h : Kept W W') (a : Addr) : W'.frozen? a = W.frozen? a := by
  unfold World.frozen?
  rcases Nat.lt_or_ge a.block W.heap.size with hl | hl
  · rw [h.old _ hl]
  · have hn : W.heap[a.block]? = none := Array.getElem?_eq_none hl
    rw [hn]
    cases ho : W'.heap[a.block]? with
    | none => rfl
    | some o =>
      have := h.fz _ o hl ho
      cases o with
      | cells cs e z =>
        simp only [unfrozen] at this
        subst this
        simp
      | _ => rfl
theorem Kept.same {W W' : World} (h : Kept W W') {p : MemPlace} (hp : p.block < W.heap.size) : W.sameAt W' p := by
  cases p with
  | cell b off =>
    simp only [World.sameAt, World.cell?]
    rw [h.old b hp]
  | map b => exact h.old b hp
theorem Fn.calls {P : Program} {f : FuncId} {args : Array Value} {D : Data} {post : Data → Value → Prop} (h : Fn P f args D post) {W : World} (hD : Agrees D W) :
    Calls P f args W fun e W' => ∃ v D', e = .returned v ∧ post D' v ∧ Kept W W' :=
  (h.2 W hD).mono (by
    rintro e W' ⟨v, D', he, hs, hp⟩
    exact ⟨v, D', he, hp, hs.env _ rfl, hs.size, fun b hb => hs.old b hb (by simp), fun b o hb ho => hs.fz b o (Or.inl hb) ho⟩)
section
variable {H : Type} {enc : TypeId × Value → H} {P : Program}
theorem trodAll_stays (hl : laidOutB P = true) {W W' : World} {sp : Nat → Bool} : ∀ (ts : List TypeId) (vs : List Value) (ds : List (DataW H)) (ps : List MemPlace), (∀ t ∈ ts, P.readableRec t = true ∧ t < P.types.size) →
    DataW.TrodAll enc P W 0 (fun _ => true) true ts vs ds ps → (∀ p ∈ ps, W.sameAt W' p) → (∀ p ∈ ps, sp p.block = true) → DataW.TrodAll enc P W' 0 sp true ts vs ds ps
  | [], vs, ds, ps, _, h, _, _ => by
    obtain ⟨rfl, rfl, rfl⟩ := trodAll_nil h
    exact trodAll_mk0
  | t :: ts, vs, ds, ps, hr, h, hsame, hs => by
    obtain ⟨v, vs', d, ds', p, q, rfl, rfl, rfl, h1, h2⟩ := trodAll_cons h
    exact trodAll_cons_mk (WideElems.Trod_stays hl (hr t List.mem_cons_self).1 (hr t List.mem_cons_self).2 h1 (fun x hx => hsame x (List.mem_append_left _ hx)) (fun x hx => hs x (List.mem_append_left _ hx)))
      (trodAll_stays hl ts vs' ds' q (fun u hu => hr u (List.mem_cons_of_mem _ hu)) h2 (fun x hx => hsame x (List.mem_append_right _ hx)) (fun x hx => hs x (List.mem_append_right _ hx)))
theorem law_post {f : Func} {s : ChangeSpec} {tb : TypeId} {W W' : World} {args : Array Value} {ds gs : List (DataW H)} {before : List MemPlace} (hl : laidOutB P = true) (hp : (f.params.toList.all fun t => P.readableRec t && decide (t < P.types.size)) = true) (hvars : s.vars = [])
    (hres : f.resultTypes = #[tb]) (htb : P.underlying tb = some .bool) (hW : DataW.Whole enc P f.params.toList s.vars false W args.toList ds gs before) (hs : s.fn H (ds ++ gs) = { results := [.lit (.bool true)], args := ds }) (hk : Kept W W') :
    s.post enc P f false true false false W args (.bool true) W' := by
  have hlt := hW.lt
  have hW' := hW
  obtain ⟨p, q, hA, hV, rfl, hfz, hnd⟩ := hW'
  rw [hvars] at hV
  obtain ⟨_, rfl⟩ := trodVars_none hV
  refine post_of_same (pa := p) (pv := []) hW (fun b sp hd => ?_) (fun sp hsp => ?_) (fun sp _ => ?_) rfl (hk.but _) hk.frozen (ok_one hres rfl (okWide_bool_mk htb true))
  · rw [hs, hres]
    exact trodAll_mk1 (shut_bool htb true)
  · rw [hs]
    refine trodAll_stays hl _ _ _ _ (fun t ht => ?_) hA (fun x hx => hk.same (hlt x (List.mem_append_left _ hx))) (fun x hx => hsp x (List.mem_append_left _ hx))
    have := List.all_eq_true.1 hp t ht
    simpa using this
  · rw [hs, hvars]; rfl
/-! ### How an argument reads -/
/-- Whatever reads as a value of type t reads so. -/
def Reads (P : Program) (t : TypeId) {α : Type} (R : Rd α) : Prop := ∀ {H : Type} (enc : TypeId × Value → H) (W : World) (n : Nat) (cs : List Value) (x : DataW H × List MemPlace), DataW.trod enc P W 0 (fun _ => true) true n t cs = some x → ∃ a, R (full W) a cs
theorem inK_of_wf {k : IntKind} {n : Int} (h : (Lit.int k n).wf = true) : inK k n := by
  cases k <;> simpa [Lit.wf, IntKind.min, IntKind.max, IntKind.signed, IntKind.bits, inK] using h
/-- A slice in a cell. -/
def RSl {α : Type} (R : Rd α) (sz : Nat) : Rd (List α) := fun D xs cs => ∃ v, cs = [v] ∧ Sl D R sz v xs
theorem Reads.slice {t e : TypeId} {sz : Nat} {α : Type} {R : Rd α} (ht : P.underlying t = some (.slice e)) (hc : P.cellsOf e = sz) (hpos : 0 < sz) (hel : Reads P e R) : Reads P t (RSl R sz) := fun {H} enc W fuel cs x hx => by
  rcases DataW.trod_slice ht hx with ⟨rfl, _⟩ | ⟨a, len, cap, elems, rest, n, _, rfl, _, _, hl, hm, hlen, hel', _, _⟩
  · exact ⟨[], _, rfl, Sl.nil⟩
  have hm' : cap ≤ 9223372036854775807 := by simpa [maxLen] using hm
  have key : ∀ i, i < len → ∃ cs, (∃ y, R (full W) y cs) ∧ cs.length = sz ∧ ∀ j, j < sz → W.cell? ((a.add (i * sz)).add j) = cs[j]? := by
    intro i hi
    have h1 := hel' i hi
    rw [List.getElem?_eq_getElem (by omega), hc] at h1
    simp only [Option.bind_eq_some_iff] at h1
    obtain ⟨cs, h2, h3⟩ := h1
    obtain ⟨_, h4, h5⟩ := World.cells?_some h2
    exact ⟨cs, hel enc W n cs _ h3, h4, h5⟩
  by_cases h0 : len = 0
  · subst h0
    exact ⟨[], _, rfl, some a, cap, rfl, Nat.zero_le _, by simp, Or.inl rfl⟩
  have hspot : a = ⟨a.block, a.off, none⟩ := by
    obtain ⟨cs, _, h2, h3⟩ := key 0 (by omega)
    have h4 := h3 0 hpos
    rw [Nat.zero_mul] at h4
    simp only [Addr.add, if_true] at h4
    rw [List.getElem?_eq_getElem (show 0 < cs.length by omega)] at h4
    unfold World.cell? at h4
    split at h4
    · split at h4
      · cases h4
      · rename_i hs
        obtain ⟨b, o, s⟩ := a
        cases s with
        | none => rfl
        | some => simp at hs
    · cases h4
  have pick : ∃ ys : List α, ys.length = len ∧ ∀ i y, ys[i]? = some y → ∃ cs, R (full W) y cs ∧ cs.length = sz ∧ ∀ j, j < sz → W.cell? ((a.add (i * sz)).add j) = cs[j]? := by
    refine ⟨List.ofFn fun i : Fin len => (key i.1 i.2).choose_spec.1.choose, by simp, fun i y hy => ?_⟩
    rw [List.getElem?_ofFn] at hy
    split at hy
    · rename_i hi
      cases hy
      exact ⟨_, (key i hi).choose_spec.1.choose_spec, (key i hi).choose_spec.2.1, (key i hi).choose_spec.2.2⟩
    · cases hy
  obtain ⟨ys, hys, hy⟩ := pick
  refine ⟨ys, _, rfl, some a, cap, by rw [hys], by omega, by omega, Or.inr ⟨a.block, a.off, by rw [← hspot], fun i y hi => ?_⟩⟩
  obtain ⟨cs, h1, h2, h3⟩ := hy i y hi
  refine ⟨cs, h1, h2, fun j v hj => ?_⟩
  have hjl := (List.getElem?_eq_some_iff.1 hj).1
  have h4 := h3 j (by omega)
  rw [hj, hspot, add_plain, add_plain] at h4
  exact full_cell h4
/-- A struct's parts, each of one cell. -/
theorem trod_parts {t : TypeId} {fs : Array Field} {W : World} {n : Nat} {cs : List Value} {x : DataW H × List MemPlace} {k : Nat} (ht : P.underlying t = some (.struct fs)) (hk : P.cellsOf t = k) (h : DataW.trod enc P W 0 (fun _ => true) true n t cs = some x) :
    cs.length = k ∧ ∀ (i o u : Nat) (c : Value), (fs[i]?).map (fun f => (f.offset, f.type)) = some (o, u) → P.cellsOf u = 1 → cs[o]? = some c → ∃ m y, DataW.trod enc P W 0 (fun _ => true) true m u [c] = some y := by
  obtain ⟨xs, m, _, _, hlen, hsz, hf⟩ := DataW.trod_struct ht h
  refine ⟨hlen.trans hk, fun i o u c hi hu hc => ?_⟩
  rw [Option.map_eq_some_iff] at hi
  obtain ⟨f, hi, he⟩ := hi
  simp only [Prod.mk.injEq] at he
  obtain ⟨rfl, rfl⟩ := he
  have h1 := hf i f hi
  have hl : i < xs.length := by rw [hsz]; exact (Array.getElem?_eq_some_iff.1 hi).1
  rw [List.getElem?_eq_getElem hl, hu] at h1
  have hol := (List.getElem?_eq_some_iff.1 hc).1
  rw [List.getElem?_eq_getElem hol] at hc
  rw [List.drop_eq_getElem_cons hol, Option.some.inj hc] at h1
  exact ⟨m, _, h1⟩
theorem list3 {α : Type} {l : List α} (h : l.length = 3) : ∃ a b c, l = [a, b, c] := by
  match l, h with
  | [a, b, c], _ => exact ⟨a, b, c, rfl⟩
theorem open_struct {t : TypeId} {fs : Array Field} {W : World} {r : Reach} {b0 : Nat} {v : Value} {d : DataW H} {ps : List MemPlace} {k : Nat} (ht : P.underlying t = some (.struct fs)) (hk : P.cellsOf t = k) (hval : Value.okWide P W r b0 t v) (hd : DataW.Trod enc P W 0 (fun _ => true) true t v d ps) :
    ∃ cs : Array Value, v = .agg cs ∧ cs.size = k ∧ ∃ n x, DataW.trod enc P W 0 (fun _ => true) true n t cs.toList = some x := by
  obtain ⟨cs, rfl, hsz⟩ := okWide_struct ht hval
  obtain ⟨fuel, hf⟩ := hd
  exact ⟨cs, rfl, hsz.trans hk, fuel, _, hf⟩
end
end Go.Fs
namespace Go.Fs
open Go.Proofs
namespace Tf
theorem follows : Try.prog.follows .mixedOrders = true := by kernel_rfl
theorem a3 : TA Try.prog 3 false := TA.of Try.underlying3 _ rfl
theorem s3 : TS Try.prog 3 1 := TS.of (by kernel_rfl)
theorem z3 : TZ Try.prog 3 (.int .i64 0) := TZ.of (by kernel_rfl)
theorem i3 : (Try.prog.info? 3).map (fun i => Nat.ble 1 i.bytes && Nat.ble i.bytes 4096) = some true := by kernel_rfl
theorem a22 : TA Try.prog 22 false := TA.of Try.underlying22 _ rfl
theorem s22 : TS Try.prog 22 1 := TS.of (by kernel_rfl)
theorem a23 : TA Try.prog 23 false := TA.of Try.underlying23 _ rfl
theorem s23 : TS Try.prog 23 1 := TS.of (by kernel_rfl)
theorem a25 : TA Try.prog 25 true := TA.of Try.underlying25 _ rfl
theorem s25 : TS Try.prog 25 3 := TS.of (by kernel_rfl)
theorem z25 : TZ Try.prog 25 (.agg #[.slice none 0 0, .int .i64 0, .slice none 0 0]) := TZ.of (by kernel_rfl)
theorem f25_0 : TF Try.prog 25 0 0 := TF.of Try.underlying25 rfl s22 rfl
theorem f25_1 : TF Try.prog 25 1 1 := TF.of Try.underlying25 rfl s3 rfl
theorem f25_2 : TF Try.prog 25 2 2 := TF.of Try.underlying25 rfl s23 rfl
theorem a30 : TA Try.prog 30 false := TA.of Try.underlying30 _ rfl
theorem s30 : TS Try.prog 30 1 := TS.of (by kernel_rfl)
theorem z30 : TZ Try.prog 30 (.slice none 0 0) := TZ.of (by kernel_rfl)
theorem a34 : TA Try.prog 34 false := TA.of Try.underlying34 _ rfl
theorem s34 : TS Try.prog 34 1 := TS.of (by kernel_rfl)
theorem a35 : TA Try.prog 35 false := TA.of Try.underlying35 _ rfl
theorem s35 : TS Try.prog 35 1 := TS.of (by kernel_rfl)
theorem a37 : TA Try.prog 37 true := TA.of Try.underlying37 _ rfl
theorem s37 : TS Try.prog 37 3 := TS.of (by kernel_rfl)
theorem z37 : TZ Try.prog 37 (.agg #[.slice none 0 0, .int .i64 0, .slice none 0 0]) := TZ.of (by kernel_rfl)
theorem p37 : TP Try.prog 37 [(0, 1), (1, 1), (2, 1)] := TP.of Try.underlying37 (by kernel_rfl) (by kernel_rfl)
theorem f37_0 : TF Try.prog 37 0 0 := TF.of Try.underlying37 rfl s34 rfl
theorem f37_1 : TF Try.prog 37 1 1 := TF.of Try.underlying37 rfl s3 rfl
theorem f37_2 : TF Try.prog 37 2 2 := TF.of Try.underlying37 rfl s35 rfl
theorem a39 : TA Try.prog 39 false := TA.of Try.underlying39 _ rfl
theorem s39 : TS Try.prog 39 1 := TS.of (by kernel_rfl)
theorem z39 : TZ Try.prog 39 (.slice none 0 0) := TZ.of (by kernel_rfl)
theorem a52 : TA Try.prog 52 false := TA.of Try.underlying52 _ rfl
theorem s52 : TS Try.prog 52 1 := TS.of (by kernel_rfl)
theorem z52 : TZ Try.prog 52 (.slice none 0 0) := TZ.of (by kernel_rfl)
theorem a61 : TA Try.prog 61 true := TA.of Try.underlying61 _ rfl
theorem s61 : TS Try.prog 61 2 := TS.of (by kernel_rfl)
theorem z61 : TZ Try.prog 61 (.agg #[.int .i64 0, .int .i64 0]) := TZ.of (by kernel_rfl)
theorem i61 : (Try.prog.info? 61).map (fun i => Nat.ble 1 i.bytes && Nat.ble i.bytes 4096) = some true := by kernel_rfl
theorem p61 : TP Try.prog 61 [(0, 1), (1, 1)] := TP.of Try.underlying61 (by kernel_rfl) (by kernel_rfl)
theorem f61_0 : TF Try.prog 61 0 0 := TF.of Try.underlying61 rfl s3 rfl
theorem f61_1 : TF Try.prog 61 1 1 := TF.of Try.underlying61 rfl s3 rfl
theorem a67 : TA Try.prog 67 true := TA.of Try.underlying67 _ rfl
theorem s67 : TS Try.prog 67 2 := TS.of (by kernel_rfl)
theorem z67 : TZ Try.prog 67 (.agg #[.int .i64 0, .int .i64 0]) := TZ.of (by kernel_rfl)
theorem i67 : (Try.prog.info? 67).map (fun i => Nat.ble 1 i.bytes && Nat.ble i.bytes 4096) = some true := by kernel_rfl
theorem f67_0 : TF Try.prog 67 0 0 := TF.of Try.underlying67 rfl s3 rfl
theorem f67_1 : TF Try.prog 67 1 1 := TF.of Try.underlying67 rfl s3 rfl
theorem a91 : TA Try.prog 91 true := TA.of Try.underlying91 _ rfl
theorem s91 : TS Try.prog 91 3 := TS.of (by kernel_rfl)
theorem a94 : TA Try.prog 94 true := TA.of Try.underlying94 _ rfl
theorem s94 : TS Try.prog 94 4 := TS.of (by kernel_rfl)
theorem z94 : TZ Try.prog 94 (.agg #[.int .i64 0, .int .i64 0, .int .i64 0, .int .i64 0]) := TZ.of (by kernel_rfl)
theorem f94_0 : TF Try.prog 94 0 0 := TF.of Try.underlying94 rfl s3 rfl
theorem f94_1 : TF Try.prog 94 1 1 := TF.of Try.underlying94 rfl s91 rfl
theorem a111 : TA Try.prog 111 true := TA.of Try.underlying111 _ rfl
theorem s111 : TS Try.prog 111 2 := TS.of (by kernel_rfl)
theorem z111 : TZ Try.prog 111 (.agg #[.int .i64 0, .int .i64 0]) := TZ.of (by kernel_rfl)
theorem i111 : (Try.prog.info? 111).map (fun i => Nat.ble 1 i.bytes && Nat.ble i.bytes 4096) = some true := by kernel_rfl
theorem p111 : TP Try.prog 111 [(0, 1), (1, 1)] := TP.of Try.underlying111 (by kernel_rfl) (by kernel_rfl)
theorem f111_0 : TF Try.prog 111 0 0 := TF.of Try.underlying111 rfl s3 rfl
theorem f111_1 : TF Try.prog 111 1 1 := TF.of Try.underlying111 rfl s3 rfl
theorem a113 : TA Try.prog 113 true := TA.of Try.underlying113 _ rfl
theorem s113 : TS Try.prog 113 3 := TS.of (by kernel_rfl)
theorem z113 : TZ Try.prog 113 (.agg #[.int .i64 0, .int .i64 0, .int .i64 0]) := TZ.of (by kernel_rfl)
theorem i113 : (Try.prog.info? 113).map (fun i => Nat.ble 1 i.bytes && Nat.ble i.bytes 4096) = some true := by kernel_rfl
theorem a115 : TA Try.prog 115 true := TA.of Try.underlying115 _ rfl
theorem s115 : TS Try.prog 115 4 := TS.of (by kernel_rfl)
theorem z115 : TZ Try.prog 115 (.agg #[.int .i64 0, .int .i64 0, .int .i64 0, .int .i64 0]) := TZ.of (by kernel_rfl)
theorem i115 : (Try.prog.info? 115).map (fun i => Nat.ble 1 i.bytes && Nat.ble i.bytes 4096) = some true := by kernel_rfl
theorem p115 : TP Try.prog 115 [(0, 1), (1, 3)] := TP.of Try.underlying115 (by kernel_rfl) (by kernel_rfl)
theorem f115_0 : TF Try.prog 115 0 0 := TF.of Try.underlying115 rfl s3 rfl
theorem f115_1 : TF Try.prog 115 1 1 := TF.of Try.underlying115 rfl s113 rfl
theorem a120 : TA Try.prog 120 false := TA.of Try.underlying120 _ rfl
theorem s120 : TS Try.prog 120 1 := TS.of (by kernel_rfl)
theorem z120 : TZ Try.prog 120 (.pointer none) := TZ.of (by kernel_rfl)
theorem a124 : TA Try.prog 124 true := TA.of Try.underlying124 _ rfl
theorem s124 : TS Try.prog 124 7 := TS.of (by kernel_rfl)
theorem a126 : TA Try.prog 126 true := TA.of Try.underlying126 _ rfl
theorem s126 : TS Try.prog 126 9 := TS.of (by kernel_rfl)
theorem z126 : TZ Try.prog 126 (.agg #[.int .i64 0, .int .i64 0, .int .i64 0, .int .i64 0, .int .i64 0, .int .i64 0, .int .i64 0, .int .i64 0, .int .i64 0]) := TZ.of (by kernel_rfl)
theorem i126 : (Try.prog.info? 126).map (fun i => Nat.ble 1 i.bytes && Nat.ble i.bytes 4096) = some true := by kernel_rfl
theorem f126_0 : TF Try.prog 126 0 0 := TF.of Try.underlying126 rfl s3 rfl
theorem f126_1 : TF Try.prog 126 1 1 := TF.of Try.underlying126 rfl s3 rfl
theorem f126_2 : TF Try.prog 126 2 2 := TF.of Try.underlying126 rfl s124 rfl
theorem a135 : TA Try.prog 135 false := TA.of Try.underlying135 _ rfl
theorem s135 : TS Try.prog 135 1 := TS.of (by kernel_rfl)
theorem z135 : TZ Try.prog 135 (.slice none 0 0) := TZ.of (by kernel_rfl)
theorem a138 : TA Try.prog 138 false := TA.of Try.underlying138 _ rfl
theorem s138 : TS Try.prog 138 1 := TS.of (by kernel_rfl)
theorem s141 : TS Try.prog 141 1 := TS.of (by kernel_rfl)
theorem z141 : TZ Try.prog 141 (.agg #[.nilFunc]) := TZ.of (by kernel_rfl)
theorem p141 : TP Try.prog 141 [(0, 1)] := TP.of Try.underlying141 (by kernel_rfl) (by kernel_rfl)
theorem f141_0 : TF Try.prog 141 0 0 := TF.of Try.underlying141 rfl s138 rfl
theorem a142 : TA Try.prog 142 false := TA.of Try.underlying142 _ rfl
theorem s142 : TS Try.prog 142 1 := TS.of (by kernel_rfl)
theorem z142 : TZ Try.prog 142 (.nilFunc) := TZ.of (by kernel_rfl)
theorem a146 : TA Try.prog 146 false := TA.of Try.underlying146 _ rfl
theorem s146 : TS Try.prog 146 1 := TS.of (by kernel_rfl)
theorem z148 : TZ Try.prog 148 (.agg #[.slice none 0 0, .int .i64 0, .slice none 0 0, .map none]) := TZ.of (by kernel_rfl)
theorem p148 : TP Try.prog 148 [(0, 3), (3, 1)] := TP.of Try.underlying148 (by kernel_rfl) (by kernel_rfl)
theorem f148_0 : TF Try.prog 148 0 0 := TF.of Try.underlying148 rfl s37 rfl
theorem f148_1 : TF Try.prog 148 1 3 := TF.of Try.underlying148 rfl s146 rfl
theorem a150 : TA Try.prog 150 false := TA.of Try.underlying150 _ rfl
theorem s150 : TS Try.prog 150 1 := TS.of (by kernel_rfl)
theorem z150 : TZ Try.prog 150 (.nilFunc) := TZ.of (by kernel_rfl)
theorem a153 : TA Try.prog 153 false := TA.of Try.underlying153 _ rfl
theorem a156 : TA Try.prog 156 false := TA.of Try.underlying156 _ rfl
theorem a158 : TA Try.prog 158 false := TA.of Try.underlying158 _ rfl
theorem a162 : TA Try.prog 162 true := TA.of Try.underlying162 _ rfl
theorem s162 : TS Try.prog 162 8 := TS.of (by kernel_rfl)
theorem z162 : TZ Try.prog 162 (.agg #[.int .i64 0, .int .i64 0, .int .i64 0, .int .i64 0, .int .i64 0, .int .i64 0, .int .i64 0, .int .i64 0]) := TZ.of (by kernel_rfl)
theorem p162 : TP Try.prog 162 [(0, 1), (1, 7)] := TP.of Try.underlying162 (by kernel_rfl) (by kernel_rfl)
theorem f162_0 : TF Try.prog 162 0 0 := TF.of Try.underlying162 rfl s3 rfl
theorem f162_1 : TF Try.prog 162 1 1 := TF.of Try.underlying162 rfl s124 rfl
theorem a170 : TA Try.prog 170 false := TA.of Try.underlying170 _ rfl
theorem s170 : TS Try.prog 170 1 := TS.of (by kernel_rfl)
theorem z170 : TZ Try.prog 170 (.nilFunc) := TZ.of (by kernel_rfl)
end Tf
end Go.Fs
namespace Go.Fs
variable {P : Program} {X : Cx} {γb : Type} [Membership Nat γb] {bad : γb} {all : Array Oper} {K : Act → World → Prop} {Q : Exit → Act → World → Prop}
variable {σ : Slots} {μ : Boxes} {Ds : List Data} {os : List (Bool × Nat)} {fl : Bool} {ix : Nat}
variable {d : Nat} {x y z : Operand} {u v : Value} {ty : TypeId} {pos : String} {aft : Array Edge} {g : Option (Nat × Bool)}
variable {k' : IntKind} {m n : Nat} {t t' : TypeId}
/-- m without the bits of n. -/
def dif (m n : Nat) : Nat := m ^^^ (m &&& n)
theorem dif_bit (m n i : Nat) : (dif m n).testBit i = (m.testBit i && !n.testBit i) := by
  unfold dif; rw [Nat.testBit_xor, Nat.testBit_and]; cases m.testBit i <;> cases n.testBit i <;> rfl
theorem dif_le (m n : Nat) : dif m n ≤ m := by
  apply Nat.le_of_testBit; intro i hi; rw [dif_bit] at hi; simp at hi; exact hi.1
theorem toNat_of {m : Nat} (h : m < 9223372036854775808) : (BitVec.ofInt IntKind.i64.bits (m : Int)).toNat = m := by
  rw [BitVec.ofInt_natCast, BitVec.toNat_ofNat]
  exact Nat.mod_eq_of_lt (by show m < 2 ^ 64; omega)
theorem and_lt {m n : Nat} (h : m < 9223372036854775808) : m &&& n < 9223372036854775808 := Nat.lt_of_le_of_lt Nat.and_le_left h
theorem or_lt {m n : Nat} (h : m < 9223372036854775808) (h' : n < 9223372036854775808) : m ||| n < 9223372036854775808 := Nat.or_lt_two_pow (n := 63) h h'
theorem L.andN (ho : all[ix]? = some ⟨some d, .binOp .and t x y t', ty, pos, aft, g⟩) (hx : ev σ x = some (.int .i64 (m : Int))) (hy : ev σ y = some (.int .i64 (n : Int))) (hm : m < 9223372036854775808) (hn : n < 9223372036854775808) (hN : Nat.blt d X.N = true) (hg : Gok all σ g)
    (kk : WL P X bad all K Q os ((d, .int .i64 ((m &&& n : Nat) : Int)) :: σ) μ Ds) : WL P X bad all K Q ((fl, ix) :: os) σ μ Ds :=
  L.pure ho rfl rfl hN hg (fun ρ hρ w' => run_bin (by simp) (by
    have e : (BitVec.ofInt IntKind.i64.bits (m : Int) &&& BitVec.ofInt IntKind.i64.bits (n : Int)).toNat = m &&& n := by rw [BitVec.toNat_and, toNat_of hm, toNat_of hn]
    have h2 := and_lt (n := n) hm
    have h3 : inK .i64 ((m &&& n : Nat) : Int) := by simp only [inK]; omega
    simp only [binOp, ne_eq, not_true_eq_false, if_false, Op.intBits, e, wrap_in h3]; rfl) (hρ x _ hx) (hρ y _ hy)) kk
theorem L.orB (ho : all[ix]? = some ⟨some d, .binOp .or t x y t', ty, pos, aft, g⟩) (hx : ev σ x = some (.int .i64 (m : Int))) (hy : ev σ y = some (.int .i64 (n : Int))) (hm : m < 9223372036854775808) (hn : n < 9223372036854775808) (hN : Nat.blt d X.N = true) (hg : Gok all σ g)
    (kk : WL P X bad all K Q os ((d, .int .i64 ((m ||| n : Nat) : Int)) :: σ) μ Ds) : WL P X bad all K Q ((fl, ix) :: os) σ μ Ds :=
  L.pure ho rfl rfl hN hg (fun ρ hρ w' => run_bin (by simp) (by
    have e : (BitVec.ofInt IntKind.i64.bits (m : Int) ||| BitVec.ofInt IntKind.i64.bits (n : Int)).toNat = m ||| n := by rw [BitVec.toNat_or, toNat_of hm, toNat_of hn]
    have h2 := or_lt hm hn
    have h3 : inK .i64 ((m ||| n : Nat) : Int) := by simp only [inK]; omega
    simp only [binOp, ne_eq, not_true_eq_false, if_false, Op.intBits, e, wrap_in h3]; rfl) (hρ x _ hx) (hρ y _ hy)) kk
theorem L.difN (ho : all[ix]? = some ⟨some d, .binOp .andNot t x y t', ty, pos, aft, g⟩) (hx : ev σ x = some (.int .i64 (m : Int))) (hy : ev σ y = some (.int .i64 (n : Int))) (hm : m < 9223372036854775808) (hn : n < 9223372036854775808) (hN : Nat.blt d X.N = true) (hg : Gok all σ g)
    (kk : WL P X bad all K Q os ((d, .int .i64 ((dif m n : Nat) : Int)) :: σ) μ Ds) : WL P X bad all K Q ((fl, ix) :: os) σ μ Ds :=
  L.pure ho rfl rfl hN hg (fun ρ hρ w' => run_bin (by simp) (by
    have e : (BitVec.ofInt IntKind.i64.bits (m : Int) &&& ~~~ BitVec.ofInt IntKind.i64.bits (n : Int)).toNat = dif m n := by
      apply Nat.eq_of_testBit_eq
      intro i
      rw [dif_bit, BitVec.testBit_toNat, BitVec.getLsbD_and, BitVec.getLsbD_not, ← BitVec.testBit_toNat, ← BitVec.testBit_toNat, toNat_of hm, toNat_of hn]
      by_cases hi : i < IntKind.i64.bits
      · simp [hi]
      · have : m.testBit i = false := Nat.testBit_lt_two_pow (Nat.lt_of_lt_of_le hm (Nat.le_trans (show 9223372036854775808 ≤ 2 ^ 64 by decide) (Nat.pow_le_pow_right (by decide) (show 64 ≤ i from Nat.le_of_not_lt hi))))
        simp [this]
    have h2 := dif_le m n
    have h3 : inK .i64 ((dif m n : Nat) : Int) := by simp only [inK]; omega
    simp only [binOp, ne_eq, not_true_eq_false, if_false, Op.intBits, e, wrap_in h3]; rfl) (hρ x _ hx) (hρ y _ hy)) kk
theorem L.or01 {a b : Int} (ho : all[ix]? = some ⟨some d, .binOp .or t x y t', ty, pos, aft, g⟩) (hx : ev σ x = some (.int .i64 a)) (hy : ev σ y = some (.int .i64 b)) (ha : 0 ≤ a ∧ a ≤ 1) (hb : 0 ≤ b ∧ b ≤ 1) (hN : Nat.blt d X.N = true) (hg : Gok all σ g)
    (kk : WL P X bad all K Q os ((d, .int .i64 (max a b)) :: σ) μ Ds) : WL P X bad all K Q ((fl, ix) :: os) σ μ Ds := by
  have h1 : a = ((a.toNat : Nat) : Int) := by omega
  have h2 : b = ((b.toNat : Nat) : Int) := by omega
  have h3 : max a b = ((a.toNat ||| b.toNat : Nat) : Int) := by
    have ha' : a = 0 ∨ a = 1 := by omega
    have hb' : b = 0 ∨ b = 1 := by omega
    rcases ha' with rfl | rfl <;> rcases hb' with rfl | rfl <;> decide
  rw [h3] at kk
  rw [h1] at hx
  rw [h2] at hy
  exact L.orB ho hx hy (by omega) (by omega) hN hg kk
theorem L.neg {k : IntKind} {a : Int} (ho : all[ix]? = some ⟨some d, .unOp .neg t x, ty, pos, aft, g⟩) (hx : ev σ x = some (.int k a)) (hr : inK k (-a)) (hN : Nat.blt d X.N = true) (hg : Gok all σ g)
    (kk : WL P X bad all K Q os ((d, .int k (-a)) :: σ) μ Ds) : WL P X bad all K Q ((fl, ix) :: os) σ μ Ds :=
  L.pure ho rfl rfl hN hg (fun ρ hρ w' => by
    have h2 : (0 : Int) - a = -a := by omega
    simp only [execOp, hρ x _ hx, Op.unary, Op.intArith, h2, wrap_in hr]; rfl) kk
/-- An array's literal. -/
theorem L.buildA {t e : TypeId} {n sz : Nat} {parts : Array (Nat × Operand)} {us : List (Nat × Value)} {zs cs : List Value} (ho : all[ix]? = some ⟨some d, .build t parts, ty, pos, aft, g⟩) (ht : P.underlying t = some (.array n e)) (hs : TS P e sz) (hz : TZ P t (.agg zs.toArray)) (hu : evps σ parts.toList = some us)
    (hf : Instr.fill (fun i => some (i * sz, sz)) zs.toArray us = some cs.toArray) (hN : Nat.blt d X.N = true) (hg : Gok all σ g) (kk : WL P X bad all K Q os ((d, .agg cs.toArray) :: σ) μ Ds) : WL P X bad all K Q ((fl, ix) :: os) σ μ Ds :=
  L.pure ho rfl rfl hN hg (fun ρ hρ w' => by
    have e : (parts.map fun (i, x) => (i, ρ x)).toList = us := by rw [← evps_eval hρ hu]; simp
    simp only [execOp, Instr.build, Sem.run_bind, hz w', Result.andThen_ok, TU.of ht w', hs w', Value.cells, e, hf, Sem.run_pure]) kk
theorem run_shift {op : BinOp} (he : op = .shl ∨ op = .shr) {k : IntKind} {a b : Int} {w : World} {r : Value} (h : (Op.shift op k a k' b).run P w = .ok r w) {ρ : Operand → Value} (hx : ρ x = .int k a) (hy : ρ y = .int k' b) :
    (execOp ρ ⟨some d, .binOp op t x y t', ty, pos, aft, g⟩).run P w = .ok (.value r) w := by
  rcases he with rfl | rfl <;> simp [execOp, hx, hy, binOp, h, go_sem]
theorem L.shlN (ho : all[ix]? = some ⟨some d, .binOp .shl t x y t', ty, pos, aft, g⟩) (hx : ev σ x = some (.int .i64 (m : Int))) (hy : ev σ y = some (.int k' (n : Int))) (hn : n ≤ 62) (hm : m * 2 ^ n < 9223372036854775808) (hN : Nat.blt d X.N = true) (hg : Gok all σ g)
    (kk : WL P X bad all K Q os ((d, .int .i64 ((m <<< n : Nat) : Int)) :: σ) μ Ds) : WL P X bad all K Q ((fl, ix) :: os) σ μ Ds :=
  L.pure ho rfl rfl hN hg (fun ρ hρ w' => run_shift (Or.inl rfl) (by
    have h1 : ¬ ((n : Int) < 0) := by omega
    have h2 : min (n : Int).toNat IntKind.i64.bits = n := by rw [Int.toNat_natCast]; exact Nat.min_eq_left (Nat.le_trans hn (by decide))
    have h3 : (m : Int) * 2 ^ n = ((m <<< n : Nat) : Int) := by rw [Nat.shiftLeft_eq]; simp
    have h4 : inK .i64 ((m <<< n : Nat) : Int) := by rw [Nat.shiftLeft_eq]; simp only [inK]; omega
    simp only [Op.shift, h1, if_false, h2, h3, wrap_in h4]; rfl) (hρ x _ hx) (hρ y _ hy)) kk
theorem L.shrN (ho : all[ix]? = some ⟨some d, .binOp .shr t x y t', ty, pos, aft, g⟩) (hx : ev σ x = some (.int .i64 (m : Int))) (hy : ev σ y = some (.int k' (n : Int))) (hn : n ≤ 62) (hN : Nat.blt d X.N = true) (hg : Gok all σ g)
    (kk : WL P X bad all K Q os ((d, .int .i64 ((m >>> n : Nat) : Int)) :: σ) μ Ds) : WL P X bad all K Q ((fl, ix) :: os) σ μ Ds :=
  L.pure ho rfl rfl hN hg (fun ρ hρ w' => run_shift (Or.inr rfl) (by
    have h1 : ¬ ((n : Int) < 0) := by omega
    have h2 : min (n : Int).toNat IntKind.i64.bits = n := by rw [Int.toNat_natCast]; exact Nat.min_eq_left (Nat.le_trans hn (by decide))
    have h3 : (m : Int).fdiv (2 ^ n) = ((m >>> n : Nat) : Int) := by
      rw [Nat.shiftRight_eq_div_pow, Int.fdiv_eq_ediv_of_nonneg _ (by exact_mod_cast Nat.zero_le (2 ^ n))]; simp
    simp only [Op.shift, h1, if_false, h2, h3]; rfl) (hρ x _ hx) (hρ y _ hy)) kk
theorem bit_mod (m n : Nat) : ((m >>> n : Nat) : Int) % 2 = if m.testBit n then 1 else 0 := by
  rw [Nat.testBit, Nat.one_and_eq_mod_two]
  have := Nat.mod_two_eq_zero_or_one (m >>> n)
  rcases this with h | h
  · have : ((m >>> n : Nat) : Int) % 2 = 0 := by omega
    rw [this]; simp [h]
  · have : ((m >>> n : Nat) : Int) % 2 = 1 := by omega
    rw [this]; simp [h]
end Go.Fs
namespace Go.Fs
/-- The first index of an element of which p is true; -1 if there is none. -/
def idxOf {α : Type} (p : α → Bool) (xs : List α) : Int := if xs.any p then (xs.findIdx p : Int) else -1
def iV (n : Int) : Value := .int .i64 n
namespace C7
/-- Three parts. -/
structure Pt where
  a : Int
  b : Int
  c : Int
deriving DecidableEq
structure Ch where
  size : Int
  parts : Pt
structure YardD where
  chairs : List Ch
  fit : Int
  claims : List (Int × Int)
def Pt.l (p : Pt) : List Int := [p.a, p.b, p.c]
def inB (n lo hi : Int) : Bool := decide (lo ≤ n) && decide (n ≤ hi)
theorem inB_iff {n lo hi : Int} : inB n lo hi = true ↔ lo ≤ n ∧ n ≤ hi := by simp [inB]
def ptsOk (p : Pt) (m : Int) : Bool := p.l.all fun n => inB n 0 m
def chairOk (c : Ch) : Bool := inB c.size 0 9 && ptsOk c.parts 2
def claimOk (r : Int × Int) : Bool := (decide (0 ≤ r.1) && decide (r.1 ≤ r.2)) && decide (r.2 ≤ 7)
def unkP (p : Pt) : Nat := (p.l.filter fun n => decide (n = 2)).length
def unknown (l : List Ch) : Nat := (l.map fun c => unkP c.parts).sum
def yardOk (y : YardD) : Bool := (inB y.fit 0 9 && y.chairs.all chairOk) && y.claims.all claimOk
def fault (y : YardD) : Int := if 7 < y.chairs.length ∨ 5 < y.claims.length then 3 else if yardOk y = false then 1 else if 8 < unknown y.chairs then 3 else 0
/-- A part that may be so. -/
def partIs (n t : Int) : Bool := inB t 0 1 && (decide (n = 2) || decide (t = n))
def ptsIs (p t : Pt) : Bool := (p.l.zip t.l).all fun x => partIs x.1 x.2
def isTruth (y : YardD) (t : List Pt) : Bool := decide (t.length = y.chairs.length) && (y.chairs.zip t).all fun x => ptsIs x.1.parts x.2
def isWhole (p : Pt) : Bool := decide (p = ⟨1, 1, 1⟩)
def whole (t : List Pt) : Nat := (t.filter isWhole).length
end C7
open C7
def ptV (p : Pt) : Value := .agg #[.int .i64 p.a, .int .i64 p.b, .int .i64 p.c]
def chV (c : Ch) : Value := .agg #[.int .i64 c.size, .int .i64 c.parts.a, .int .i64 c.parts.b, .int .i64 c.parts.c]
def RP : Rd Pt := fun _ p cs => cs = [.int .i64 p.a, .int .i64 p.b, .int .i64 p.c]
theorem RP.up : RP.Up := fun _ _ _ h => h
def RCh : Rd Ch := fun _ c cs => cs = [.int .i64 c.size, .int .i64 c.parts.a, .int .i64 c.parts.b, .int .i64 c.parts.c]
theorem RCh.up : RCh.Up := fun _ _ _ h => h
def R2 : Rd (Int × Int) := fun _ p cs => cs = [.int .i64 p.1, .int .i64 p.2]
theorem R2.up : R2.Up := fun _ _ _ h => h
def YardIs (D : Data) (v : Value) (y : YardD) : Prop := ∃ cv rv, v = .agg #[cv, .int .i64 y.fit, rv] ∧ Sl D RCh 4 cv y.chairs ∧ Sl D R2 2 rv y.claims
theorem YardIs.up {D D' : Data} {v : Value} {y : YardD} (h : YardIs D v y) (hl : Le D D') : YardIs D' v y := by
  obtain ⟨cv, rv, hv, hc, hr⟩ := h
  exact ⟨cv, rv, hv, hc.up RCh.up hl, hr.up R2.up hl⟩
end Go.Fs
namespace Go.Fs
open Go.Proofs
open C7 Go.ChangeShapes Go.WideShapes Go.RowKit
theorem list2 {α : Type} {l : List α} (h : l.length = 2) : ∃ a b, l = [a, b] := by
  match l, h with
  | [a, b], _ => exact ⟨a, b, rfl⟩
theorem list4 {α : Type} {l : List α} (h : l.length = 4) : ∃ a b c d, l = [a, b, c, d] := by
  match l, h with
  | [a, b, c, d], _ => exact ⟨a, b, c, d, rfl⟩
def RYard : Rd YardD := fun D y cs => YardIs D (.agg cs.toArray) y
section
variable {H : Type} {enc : TypeId × Value → H} {P : Program} {t : TypeId} {fs : Array Field} {W : World} {r : Reach} {b0 : Nat} {v : Value} {d : DataW H} {ps : List MemPlace} {k : Nat}
theorem trod_field {n : Nat} {cs : List Value} {x : DataW H × List MemPlace} (ht : P.underlying t = some (.struct fs)) (h : DataW.trod enc P W 0 (fun _ => true) true n t cs = some x) :
    cs.length = P.cellsOf t ∧ ∀ (i o u : Nat), (fs[i]?).map (fun f => (f.offset, f.type)) = some (o, u) → ∃ m y, DataW.trod enc P W 0 (fun _ => true) true m u ((cs.drop o).take (P.cellsOf u)) = some y := by
  obtain ⟨xs, m, _, _, hlen, hsz, hf⟩ := DataW.trod_struct ht h
  refine ⟨hlen, fun i o u hi => ?_⟩
  rw [Option.map_eq_some_iff] at hi
  obtain ⟨f, hi, he⟩ := hi
  simp only [Prod.mk.injEq] at he
  obtain ⟨rfl, rfl⟩ := he
  have h1 := hf i f hi
  have hl : i < xs.length := by rw [hsz]; exact (Array.getElem?_eq_some_iff.1 hi).1
  rw [List.getElem?_eq_getElem hl] at h1
  exact ⟨m, _, h1⟩
theorem open_yard (ht : P.underlying t = some (.struct fs)) (hk : P.cellsOf t = k) (hr : Reads P t RYard) (hval : Value.okWide P W r b0 t v) (hd : DataW.Trod enc P W 0 (fun _ => true) true t v d ps) : ∃ y, YardIs (full W) v y := by
  obtain ⟨cs, rfl, hsz, n, x, hx⟩ := open_struct ht hk hval hd
  obtain ⟨r, hr⟩ := hr _ _ _ _ _ hx
  exact ⟨r, by simpa [RYard] using hr⟩
end
theorem cells_25 : Try.prog.cellsOf 25 = 3 := by kernel_rfl
theorem cells_22 : Try.prog.cellsOf 22 = 1 := by kernel_rfl
theorem cells_23 : Try.prog.cellsOf 23 = 1 := by kernel_rfl
theorem cells_3 : Try.prog.cellsOf 3 = 1 := by kernel_rfl
theorem cells_94 : Try.prog.cellsOf 94 = 4 := by kernel_rfl
theorem cells_67 : Try.prog.cellsOf 67 = 2 := by kernel_rfl
theorem cells_91 : Try.prog.cellsOf 91 = 3 := by kernel_rfl
theorem reads_range : Reads Try.prog 67 R2 := fun enc W n cs x hx => by
  obtain ⟨hl, hp⟩ := trod_parts Try.underlying67 cells_67 hx
  obtain ⟨c0, c1, rfl⟩ := list2 hl
  obtain ⟨m0, y0, h0⟩ := hp 0 0 3 c0 rfl cells_3 rfl
  obtain ⟨m1, y1, h1⟩ := hp 1 1 3 c1 rfl cells_3 rfl
  obtain ⟨k, e0, _⟩ := DataW.trod_int Try.underlying3 h0
  obtain ⟨l, e1, _⟩ := DataW.trod_int Try.underlying3 h1
  simp only [List.cons.injEq, and_true] at e0 e1
  subst e0 e1
  exact ⟨(k, l), rfl⟩
theorem reads_pt : Reads Try.prog 91 RP := fun enc W n cs x hx => by
  obtain ⟨xs, m, _, _, hlen, hn, hf⟩ := DataW.trod_array Try.underlying91 hx
  rw [cells_91] at hlen
  obtain ⟨c0, c1, c2, rfl⟩ := list3 hlen
  have e : ∀ i, i < 3 → ∃ y, DataW.trod enc Try.prog W 0 (fun _ => true) true m 3 (([c0, c1, c2].drop i).take 1) = some y := fun i hi => by
    have := hf i hi
    rw [List.getElem?_eq_getElem (by omega), cells_3, Nat.mul_one] at this
    exact ⟨_, this⟩
  obtain ⟨y0, h0⟩ := e 0 (by omega)
  obtain ⟨y1, h1⟩ := e 1 (by omega)
  obtain ⟨y2, h2⟩ := e 2 (by omega)
  obtain ⟨k, e0, _⟩ := DataW.trod_int Try.underlying3 h0
  obtain ⟨l, e1, _⟩ := DataW.trod_int Try.underlying3 h1
  obtain ⟨j, e2, _⟩ := DataW.trod_int Try.underlying3 h2
  simp only [List.drop_zero, List.drop_succ_cons, List.take_succ_cons, List.take_zero, List.cons.injEq, and_true] at e0 e1 e2
  subst e0 e1 e2
  exact ⟨⟨k, l, j⟩, rfl⟩
theorem reads_ch : Reads Try.prog 94 RCh := fun enc W n cs x hx => by
  obtain ⟨hl, hp⟩ := trod_field Try.underlying94 hx
  rw [cells_94] at hl
  obtain ⟨c0, c1, c2, c3, rfl⟩ := list4 hl
  obtain ⟨m0, y0, h0⟩ := hp 0 0 3 rfl
  obtain ⟨m1, y1, h1⟩ := hp 1 1 91 rfl
  rw [cells_3] at h0
  rw [cells_91] at h1
  obtain ⟨k, e0, _⟩ := DataW.trod_int Try.underlying3 h0
  obtain ⟨p, e1⟩ := reads_pt _ _ _ _ _ h1
  simp only [RP, List.drop_zero, List.drop_succ_cons, List.take_succ_cons, List.take_zero, List.cons.injEq, and_true] at e0 e1
  obtain ⟨rfl, rfl, rfl⟩ := e1
  subst e0
  exact ⟨⟨k, p⟩, rfl⟩
theorem reads_chs : Reads Try.prog 22 (RSl RCh 4) := Reads.slice Try.underlying22 cells_94 (by decide) reads_ch
theorem reads_ranges : Reads Try.prog 23 (RSl R2 2) := Reads.slice Try.underlying23 cells_67 (by decide) reads_range
theorem reads_yard : Reads Try.prog 25 RYard := fun enc W n cs x hx => by
  obtain ⟨hl, hp⟩ := trod_parts Try.underlying25 cells_25 hx
  obtain ⟨c0, c1, c2, rfl⟩ := list3 hl
  obtain ⟨m0, y0, h0⟩ := hp 0 0 22 c0 rfl cells_22 rfl
  obtain ⟨m1, y1, h1⟩ := hp 1 1 3 c1 rfl cells_3 rfl
  obtain ⟨m2, y2, h2⟩ := hp 2 2 23 c2 rfl cells_23 rfl
  obtain ⟨chairs, u0, e0, s0⟩ := reads_chs _ _ _ _ _ h0
  obtain ⟨k, e1, _⟩ := DataW.trod_int Try.underlying3 h1
  obtain ⟨claims, u2, e2, s2⟩ := reads_ranges _ _ _ _ _ h2
  simp only [List.cons.injEq, and_true] at e0 e1 e2
  subst e0 e1 e2
  exact ⟨⟨chairs, k, claims⟩, _, _, rfl, s0, s2⟩
end Go.Fs
namespace Go.Fs
open Go.Proofs
open C7
theorem idxOf_at {α : Type} {p : α → Bool} {xs : List α} {k : Nat} {x : α} (hx : xs[k]? = some x) (h : (xs.take k).any p = false) (hp : p x = true) : idxOf p xs = k := by
  have hk := (List.getElem?_eq_some_iff.1 hx).1
  have he := (List.getElem?_eq_some_iff.1 hx).2
  have h1 : xs.any p = true := List.any_eq_true.2 ⟨x, List.mem_of_getElem? hx, hp⟩
  have h2 : xs.findIdx p = k := by
    rw [List.findIdx_eq hk]
    refine ⟨by rw [he]; exact hp, fun j hj => ?_⟩
    have := List.any_eq_false.1 h (xs[j]'(by omega)) (by
      rw [List.mem_take_iff_getElem]; exact ⟨j, by omega, rfl⟩)
    simpa using this
  simp [idxOf, h1, h2]
theorem idxOf_none {α : Type} {p : α → Bool} {xs : List α} (h : xs.any p = false) : idxOf p xs = -1 := by simp [idxOf, h]
theorem idxOf_ge {α : Type} {p : α → Bool} {xs : List α} : decide (0 ≤ idxOf p xs) = xs.any p := by
  unfold idxOf; cases h : xs.any p <;> simp
theorem all_any {α : Type} {p : α → Bool} {xs : List α} : (!xs.any fun x => !p x) = xs.all p := by
  rw [List.all_eq_not_any_not]
theorem within_ok (n lo hi : Int) (D : Data) : Fn Try.prog 84 #[.int .i64 n, .int .i64 lo, .int .i64 hi] D (fun _ v => v = .bool (inB n lo hi)) := by
  refine enter 15 Try.func84 rfl rfl rfl rfl fun h0 => ?_
  refine C.seq ?_
  refine C.region [(false,0)] rfl ?_
  refine L.assign rfl rfl rfl trivial ?_
  refine L.nil ?_
  refine C.next ?_
  refine C.seq ?_
  refine C.region [(false,0),(false,1),(false,2),(false,3),(false,4),(false,5),(false,6),(false,7),(false,8)] rfl ?_
  refine L.move rfl rfl rfl trivial ?_
  refine L.move rfl rfl rfl trivial ?_
  refine L.leq rfl rfl rfl rfl trivial ?_
  refine L.move rfl rfl rfl trivial ?_
  refine' L.and [(false,4),(false,5),(false,6),(false,7)] [(false,8)] (s := 10) (p := 14) rfl rfl (fun hg1 => ?_) (fun hg1 => ?_) ?_
  rotate_left
  · refine L.move rfl rfl rfl ⟨_, rfl, rfl⟩ ?_
    refine L.move rfl rfl rfl ⟨_, rfl, rfl⟩ ?_
    refine L.leq rfl rfl rfl rfl ⟨_, rfl, rfl⟩ ?_
    refine L.pickT rfl rfl rfl rfl trivial ?_
    exact L.nil fun a w hh => hh.cutK 3 rfl
  · refine L.pass rfl rfl rfl ⟨_, _, rfl, rfl, rfl⟩ ?_
    refine L.pass rfl rfl rfl ⟨_, _, rfl, rfl, rfl⟩ ?_
    refine L.pass rfl rfl rfl ⟨_, _, rfl, rfl, rfl⟩ ?_
    refine L.pickF rfl rfl rfl rfl trivial ?_
    exact L.nil fun a w hh => hh.cutK 3 rfl
  refine L.assign rfl rfl rfl trivial ?_
  refine L.nil ?_
  refine C.next ?_
  refine C.ret ?_
  exact leave (vs := [_]) rfl rfl rfl ⟨rfl, trivial⟩ (fun D hD => rfl)
theorem In_ok (n lo hi : Int) (D : Data) : Fn Try.prog 61 #[.int .i64 n, .int .i64 lo, .int .i64 hi] D (fun _ v => v = .bool (inB n lo hi)) := by
  refine enter 15 Try.func61 rfl rfl rfl rfl fun h0 => ?_
  refine C.seq ?_
  refine C.region [(false,0)] rfl ?_
  refine L.assign rfl rfl rfl trivial ?_
  refine L.nil ?_
  refine C.next ?_
  refine C.seq ?_
  refine C.region [(false,0),(false,1),(false,2),(false,3),(false,4),(false,5),(false,6),(false,7),(false,8)] rfl ?_
  refine L.move rfl rfl rfl trivial ?_
  refine L.move rfl rfl rfl trivial ?_
  refine L.geq rfl rfl rfl rfl trivial ?_
  refine L.move rfl rfl rfl trivial ?_
  refine' L.and [(false,4),(false,5),(false,6),(false,7)] [(false,8)] (s := 10) (p := 14) rfl rfl (fun hg1 => ?_) (fun hg1 => ?_) ?_
  rotate_left
  · refine L.move rfl rfl rfl ⟨_, rfl, rfl⟩ ?_
    refine L.move rfl rfl rfl ⟨_, rfl, rfl⟩ ?_
    refine L.leq rfl rfl rfl rfl ⟨_, rfl, rfl⟩ ?_
    refine L.pickT rfl rfl rfl rfl trivial ?_
    exact L.nil fun a w hh => hh.cutK 3 rfl
  · refine L.pass rfl rfl rfl ⟨_, _, rfl, rfl, rfl⟩ ?_
    refine L.pass rfl rfl rfl ⟨_, _, rfl, rfl, rfl⟩ ?_
    refine L.pass rfl rfl rfl ⟨_, _, rfl, rfl, rfl⟩ ?_
    refine L.pickF rfl rfl rfl rfl trivial ?_
    exact L.nil fun a w hh => hh.cutK 3 rfl
  refine L.assign rfl rfl rfl trivial ?_
  refine L.nil ?_
  refine C.next ?_
  refine C.ret ?_
  exact leave (vs := [_]) rfl rfl rfl ⟨rfl, trivial⟩ (fun D hD => by show Value.bool (decide (n ≥ lo) && decide (n ≤ hi)) = _; rfl)
theorem IndexFuncI_ok (sv fv : Value) (xs : List Int) (p : Int → Bool) (D : Data) (hS : Sl D RI 1 sv xs) (hp : PredOK Try.prog D iV fv p) :
    Fn Try.prog 131 #[sv, fv] D (fun _ v => v = .int .i64 (idxOf p xs)) := by
  have hl := hS.len
  obtain ⟨f, c1, c2, rfl, hf⟩ := hp
  refine enter 19 Try.func131 rfl rfl rfl rfl fun h0 => ?_
  refine C.seq ?_
  refine C.region [(false,0)] rfl ?_
  refine L.assign rfl rfl rfl trivial ?_
  refine L.nil ?_
  refine C.next ?_
  refine C.seq ?_
  refine C.seq ?_
  refine C.region [(false,0),(false,1),(false,2)] rfl ?_
  refine L.move rfl rfl rfl trivial ?_
  refine L.len rfl Try.underlying52 rfl (by assumption) rfl rfl trivial ?_
  refine L.move rfl rfl rfl trivial ?_
  refine L.nil ?_
  refine C.next ?_
  refine C.block ?_
  refine C.loopC (γ := Nat) (fun k => xs.length - k) (fun k => k ≤ xs.length ∧ (xs.take k).any p = false) (fun k => [(8, .int .i64 k)]) [(7, _), (4, _), (0, _), (1, _)] (fun k => [D]) 0 (by simp) ⟨(by first | rfl | (show some (Value.int _ _) = some (Value.int _ _); congr 2; omega)), trivial⟩ ⟨rfl, rfl, rfl, rfl, trivial⟩ (ds_same) ?_
  rintro k ⟨h1, h2⟩
  refine C.seq ?_
  refine C.region [(false,0)] rfl ?_
  refine L.lss rfl rfl rfl rfl trivial ?_
  refine L.nil ?_
  refine C.next ?_
  refine C.seq ?_
  refine C.condD rfl (fun hc1 => ?_) (fun hc1 => ?_)
  · have hk : k < xs.length := by omega
    obtain ⟨x, hx⟩ : ∃ x, xs[k]? = some x := ⟨_, List.getElem?_eq_getElem hk⟩
    refine C.skip ?_
    refine C.next ?_
    refine C.seq ?_
    refine C.block ?_
    refine C.seq ?_
    refine C.region [(false,0),(false,1)] rfl ?_
    refine L.move rfl rfl rfl trivial ?_
    refine L.assign rfl rfl rfl trivial ?_
    refine L.nil ?_
    refine C.next ?_
    refine C.seq ?_
    refine C.region [(false,0),(false,1),(false,2),(false,3),(false,4),(false,5)] rfl ?_
    refine L.move rfl rfl rfl trivial ?_
    refine L.move rfl rfl rfl trivial ?_
    refine L.move rfl rfl rfl trivial ?_
    refine L.indexS rfl Try.underlying52 Tf.s3 rfl (by assumption) rfl (by omega) (by assumption) rfl trivial (fun b1 o1 cs1 hr1 hcl1 hA1 => ?_)
    obtain rfl : cs1 = [.int .i64 _] := hr1
    refine L.loadD1 rfl (k := 0) Tf.a3 rfl hA1 (by first | simp | assumption) rfl List.not_mem_nil rfl trivial ?_
    refine L.callV rfl rfl rfl (fun D1 hD1 => hf x _ (hD1 _ (by simp))) rfl trivial ?_
    refine L.nil ?_
    refine C.next ?_
    refine C.cond rfl (fun hc2 => ?_) (fun hc2 => ?_)
    · refine C.seq ?_
      refine C.region [(false,0),(false,1)] rfl ?_
      refine L.move rfl rfl rfl trivial ?_
      refine L.assign rfl rfl rfl trivial ?_
      refine L.nil ?_
      refine C.next ?_
      refine C.ret ?_
      refine C.blockRet ?_
      refine C.thenRet ?_
      refine C.thenRet ?_
      refine C.blockRet ?_
      refine C.thenRet ?_
      exact leave (vs := [_]) rfl rfl rfl ⟨rfl, trivial⟩ (fun D hD => by show Value.int _ _ = _; rw [idxOf_at hx h2 hc2])
    · refine C.skip ?_
      refine C.blockEnd ?_
      refine C.next ?_
      refine C.region [(false,0),(false,1)] rfl ?_
      refine L.add rfl rfl rfl (by simp only [inK]; omega) rfl trivial ?_
      refine L.move rfl rfl rfl trivial ?_
      refine L.nil ?_
      have hpx : p x = false := hc2
      have h3 : (xs.take (k + 1)).any p = false := by rw [List.take_add_one, hx, List.any_append, h2]; simp [hpx]
      exact C.againR 12 (k + 1) ⟨by omega, h3⟩ (by omega) ⟨(by first | rfl | (show some (Value.int _ _) = some (Value.int _ _); congr 2; omega)), trivial⟩ rfl rfl (List.Sublist.refl _) (ds_same)
  · refine C.exit ?_
    refine C.thenExit ?_
    refine C.thenExit ?_
    refine C.blockExit ?_
    refine C.next ?_
    refine C.seq ?_
    refine C.region [(false,0)] rfl ?_
    refine L.assign rfl rfl rfl trivial ?_
    refine L.nil ?_
    refine C.next ?_
    refine C.ret ?_
    exact leave (vs := [_]) rfl rfl rfl ⟨rfl, trivial⟩ (fun D hD => by show Value.int _ _ = _; rw [idxOf_none (by rwa [List.take_of_length_le (by omega)] at h2)])
theorem ContainsFuncI_ok (sv fv : Value) (xs : List Int) (p : Int → Bool) (D : Data) (hS : Sl D RI 1 sv xs) (hp : PredOK Try.prog D iV fv p) :
    Fn Try.prog 129 #[sv, fv] D (fun _ v => v = .bool (xs.any p)) := by
  refine enter 9 Try.func129 rfl rfl rfl rfl fun h0 => ?_
  refine C.seq ?_
  refine C.region [(false,0)] rfl ?_
  refine L.assign rfl rfl rfl trivial ?_
  refine L.nil ?_
  refine C.next ?_
  refine C.seq ?_
  refine C.region [(false,0),(false,1),(false,2),(false,3),(false,4)] rfl ?_
  refine L.move rfl rfl rfl trivial ?_
  refine L.move rfl rfl rfl trivial ?_
  refine L.callV rfl rfl rfl (fun D1 hD1 => IndexFuncI_ok _ _ xs p _ (Sl.at RI.up hD1 (by assumption) (by simp)) (hp.up (hD1 _ (by simp)))) rfl trivial ?_
  refine L.geq rfl rfl rfl rfl trivial ?_
  refine L.assign rfl rfl rfl trivial ?_
  refine L.nil ?_
  refine C.next ?_
  refine C.ret ?_
  exact leave (vs := [_]) rfl rfl rfl ⟨rfl, trivial⟩ (fun D hD => by show Value.bool (decide _) = _; rw [idxOf_ge])
theorem allI1_ok (b : Nat) (fv : Value) (p : Int → Bool) (x : Int) (D : Data) (hp : PredOK Try.prog D iV fv p) (hB : At D b 0 [fv]) :
    Fn Try.prog 130 #[iV x, .pointer (some ⟨b, 0, none⟩)] D (fun _ v => v = .bool (!p x)) := by
  obtain ⟨f, c1, c2, rfl, hf⟩ := hp
  refine enter 8 Try.func130 rfl rfl rfl rfl fun h0 => ?_
  refine C.seq ?_
  refine C.region [(false,0)] rfl ?_
  refine L.assign rfl rfl rfl trivial ?_
  refine L.nil ?_
  refine C.next ?_
  refine C.seq ?_
  refine C.region [(false,0),(false,1),(false,2),(false,3),(false,4)] rfl ?_
  refine L.loadD1 rfl (k := 0) Tf.a170 rfl hB (by first | simp | assumption) rfl List.not_mem_nil rfl trivial ?_
  refine L.move rfl rfl rfl trivial ?_
  refine L.callV rfl rfl rfl (fun D1 hD1 => hf x _ (hD1 _ (by simp))) rfl trivial ?_
  refine L.not rfl rfl rfl trivial ?_
  refine L.assign rfl rfl rfl trivial ?_
  refine L.nil ?_
  refine C.next ?_
  refine C.ret ?_
  exact leave (vs := [_]) rfl rfl rfl ⟨rfl, trivial⟩ (fun D hD => rfl)
theorem allI_ok (sv fv : Value) (xs : List Int) (p : Int → Bool) (D : Data) (hS : Sl D RI 1 sv xs) (hp : PredOK Try.prog D iV fv p) (h1 : fv.cells = #[fv]) :
    Fn Try.prog 126 #[sv, fv] D (fun _ v => v = .bool (xs.all p)) := by
  refine enter 9 Try.func126 rfl rfl rfl rfl fun h0 => ?_
  refine C.seq ?_
  refine C.region [(false,0),(false,1)] rfl ?_
  refine L.boxD (vs := [fv]) rfl rfl h1 rfl trivial (fun b D1 hD1 hB => ?_)
  refine L.assign rfl rfl rfl trivial ?_
  refine L.nil ?_
  refine C.next ?_
  refine C.seq ?_
  refine C.region [(false,0),(false,1),(false,2),(false,3),(false,4)] rfl ?_
  refine L.move rfl rfl rfl trivial ?_
  refine L.makeFunc rfl rfl rfl rfl trivial ?_
  refine L.callV rfl rfl rfl (fun D1 hD1 => ContainsFuncI_ok _ _ xs (fun x => !p x) _ (Sl.at RI.up hD1 (by assumption) (by simp)) ⟨_, [], [.pointer (some ⟨b, 0, none⟩)], rfl, fun x D2 hl => allI1_ok b fv p x D2 (hp.up ((hD1 _ (by simp)).trans hl)) (hB.up ((hD1 _ (by simp)).trans hl))⟩) rfl trivial ?_
  refine L.not rfl rfl rfl trivial ?_
  refine L.assign rfl rfl rfl trivial ?_
  refine L.nil ?_
  refine C.next ?_
  refine C.ret ?_
  exact leave (vs := [_]) rfl rfl rfl ⟨rfl, trivial⟩ (fun D hD => by show Value.bool (!_) = _; rw [all_any])
theorem IndexFuncC_ok (sv fv : Value) (xs : List Ch) (p : Ch → Bool) (D : Data) (hS : Sl D RCh 4 sv xs) (hp : PredOK Try.prog D chV fv p) :
    Fn Try.prog 125 #[sv, fv] D (fun _ v => v = .int .i64 (idxOf p xs)) := by
  have hl := hS.len
  obtain ⟨f, c1, c2, rfl, hf⟩ := hp
  refine enter 19 Try.func125 rfl rfl rfl rfl fun h0 => ?_
  refine C.seq ?_
  refine C.region [(false,0)] rfl ?_
  refine L.assign rfl rfl rfl trivial ?_
  refine L.nil ?_
  refine C.next ?_
  refine C.seq ?_
  refine C.seq ?_
  refine C.region [(false,0),(false,1),(false,2)] rfl ?_
  refine L.move rfl rfl rfl trivial ?_
  refine L.len rfl Try.underlying34 rfl (by assumption) rfl rfl trivial ?_
  refine L.move rfl rfl rfl trivial ?_
  refine L.nil ?_
  refine C.next ?_
  refine C.block ?_
  refine C.loopC (γ := Nat) (fun k => xs.length - k) (fun k => k ≤ xs.length ∧ (xs.take k).any p = false) (fun k => [(8, .int .i64 k)]) [(7, _), (4, _), (0, _), (1, _)] (fun k => [D]) 0 (by simp) ⟨(by first | rfl | (show some (Value.int _ _) = some (Value.int _ _); congr 2; omega)), trivial⟩ ⟨rfl, rfl, rfl, rfl, trivial⟩ (ds_same) ?_
  rintro k ⟨h1, h2⟩
  refine C.seq ?_
  refine C.region [(false,0)] rfl ?_
  refine L.lss rfl rfl rfl rfl trivial ?_
  refine L.nil ?_
  refine C.next ?_
  refine C.seq ?_
  refine C.condD rfl (fun hc1 => ?_) (fun hc1 => ?_)
  · have hk : k < xs.length := by omega
    obtain ⟨x, hx⟩ : ∃ x, xs[k]? = some x := ⟨_, List.getElem?_eq_getElem hk⟩
    refine C.skip ?_
    refine C.next ?_
    refine C.seq ?_
    refine C.block ?_
    refine C.seq ?_
    refine C.region [(false,0),(false,1)] rfl ?_
    refine L.move rfl rfl rfl trivial ?_
    refine L.assign rfl rfl rfl trivial ?_
    refine L.nil ?_
    refine C.next ?_
    refine C.seq ?_
    refine C.region [(false,0),(false,1),(false,2),(false,3),(false,4),(false,5)] rfl ?_
    refine L.move rfl rfl rfl trivial ?_
    refine L.move rfl rfl rfl trivial ?_
    refine L.move rfl rfl rfl trivial ?_
    refine L.indexS rfl Try.underlying34 Tf.s115 rfl (by assumption) rfl (by omega) (by assumption) rfl trivial (fun b1 o1 cs1 hr1 hcl1 hA1 => ?_)
    obtain rfl : cs1 = [.int .i64 _, .int .i64 _, .int .i64 _, .int .i64 _] := hr1
    refine L.loadDW rfl Tf.a115 rfl hA1 (by first | simp | assumption) Tf.s115 List.not_mem_nil rfl trivial ?_
    refine L.callV rfl rfl rfl (fun D1 hD1 => hf x _ (hD1 _ (by simp))) rfl trivial ?_
    refine L.nil ?_
    refine C.next ?_
    refine C.cond rfl (fun hc2 => ?_) (fun hc2 => ?_)
    · refine C.seq ?_
      refine C.region [(false,0),(false,1)] rfl ?_
      refine L.move rfl rfl rfl trivial ?_
      refine L.assign rfl rfl rfl trivial ?_
      refine L.nil ?_
      refine C.next ?_
      refine C.ret ?_
      refine C.blockRet ?_
      refine C.thenRet ?_
      refine C.thenRet ?_
      refine C.blockRet ?_
      refine C.thenRet ?_
      exact leave (vs := [_]) rfl rfl rfl ⟨rfl, trivial⟩ (fun D hD => by show Value.int _ _ = _; rw [idxOf_at hx h2 hc2])
    · refine C.skip ?_
      refine C.blockEnd ?_
      refine C.next ?_
      refine C.region [(false,0),(false,1)] rfl ?_
      refine L.add rfl rfl rfl (by simp only [inK]; omega) rfl trivial ?_
      refine L.move rfl rfl rfl trivial ?_
      refine L.nil ?_
      have hpx : p x = false := hc2
      have h3 : (xs.take (k + 1)).any p = false := by rw [List.take_add_one, hx, List.any_append, h2]; simp [hpx]
      exact C.againR 12 (k + 1) ⟨by omega, h3⟩ (by omega) ⟨(by first | rfl | (show some (Value.int _ _) = some (Value.int _ _); congr 2; omega)), trivial⟩ rfl rfl (List.Sublist.refl _) (ds_same)
  · refine C.exit ?_
    refine C.thenExit ?_
    refine C.thenExit ?_
    refine C.blockExit ?_
    refine C.next ?_
    refine C.seq ?_
    refine C.region [(false,0)] rfl ?_
    refine L.assign rfl rfl rfl trivial ?_
    refine L.nil ?_
    refine C.next ?_
    refine C.ret ?_
    exact leave (vs := [_]) rfl rfl rfl ⟨rfl, trivial⟩ (fun D hD => by show Value.int _ _ = _; rw [idxOf_none (by rwa [List.take_of_length_le (by omega)] at h2)])
theorem ContainsFuncC_ok (sv fv : Value) (xs : List Ch) (p : Ch → Bool) (D : Data) (hS : Sl D RCh 4 sv xs) (hp : PredOK Try.prog D chV fv p) :
    Fn Try.prog 116 #[sv, fv] D (fun _ v => v = .bool (xs.any p)) := by
  refine enter 9 Try.func116 rfl rfl rfl rfl fun h0 => ?_
  refine C.seq ?_
  refine C.region [(false,0)] rfl ?_
  refine L.assign rfl rfl rfl trivial ?_
  refine L.nil ?_
  refine C.next ?_
  refine C.seq ?_
  refine C.region [(false,0),(false,1),(false,2),(false,3),(false,4)] rfl ?_
  refine L.move rfl rfl rfl trivial ?_
  refine L.move rfl rfl rfl trivial ?_
  refine L.callV rfl rfl rfl (fun D1 hD1 => IndexFuncC_ok _ _ xs p _ (Sl.at RCh.up hD1 (by assumption) (by simp)) (hp.up (hD1 _ (by simp)))) rfl trivial ?_
  refine L.geq rfl rfl rfl rfl trivial ?_
  refine L.assign rfl rfl rfl trivial ?_
  refine L.nil ?_
  refine C.next ?_
  refine C.ret ?_
  exact leave (vs := [_]) rfl rfl rfl ⟨rfl, trivial⟩ (fun D hD => by show Value.bool (decide _) = _; rw [idxOf_ge])
theorem allC1_ok (b : Nat) (fv : Value) (p : Ch → Bool) (x : Ch) (D : Data) (hp : PredOK Try.prog D chV fv p) (hB : At D b 0 [fv]) :
    Fn Try.prog 117 #[chV x, .pointer (some ⟨b, 0, none⟩)] D (fun _ v => v = .bool (!p x)) := by
  obtain ⟨f, c1, c2, rfl, hf⟩ := hp
  refine enter 8 Try.func117 rfl rfl rfl rfl fun h0 => ?_
  refine C.seq ?_
  refine C.region [(false,0),(false,1)] rfl ?_
  refine L.boxD rfl rfl rfl rfl trivial (fun q1 E1 hE1 hB1 => ?_)
  refine L.assign rfl rfl rfl trivial ?_
  refine L.nil ?_
  refine C.next ?_
  refine C.seq ?_
  refine C.region [(false,0),(false,1),(false,2),(false,3),(false,4)] rfl ?_
  refine L.loadD1 rfl (k := 0) Tf.a158 rfl hB (by first | simp | assumption) rfl List.not_mem_nil rfl trivial ?_
  refine L.loadDW rfl Tf.a115 rfl hB1 (by first | simp | assumption) Tf.s115 List.not_mem_nil rfl trivial ?_
  refine L.callV rfl rfl rfl (fun D1 hD1 => hf x _ (hD1 _ (by simp))) rfl trivial ?_
  refine L.not rfl rfl rfl trivial ?_
  refine L.assign rfl rfl rfl trivial ?_
  refine L.nil ?_
  refine C.next ?_
  refine C.ret ?_
  exact leave (vs := [_]) rfl rfl rfl ⟨rfl, trivial⟩ (fun D hD => rfl)
theorem allC_ok (sv fv : Value) (xs : List Ch) (p : Ch → Bool) (D : Data) (hS : Sl D RCh 4 sv xs) (hp : PredOK Try.prog D chV fv p) (h1 : fv.cells = #[fv]) :
    Fn Try.prog 103 #[sv, fv] D (fun _ v => v = .bool (xs.all p)) := by
  refine enter 9 Try.func103 rfl rfl rfl rfl fun h0 => ?_
  refine C.seq ?_
  refine C.region [(false,0),(false,1)] rfl ?_
  refine L.boxD (vs := [fv]) rfl rfl h1 rfl trivial (fun b D1 hD1 hB => ?_)
  refine L.assign rfl rfl rfl trivial ?_
  refine L.nil ?_
  refine C.next ?_
  refine C.seq ?_
  refine C.region [(false,0),(false,1),(false,2),(false,3),(false,4)] rfl ?_
  refine L.move rfl rfl rfl trivial ?_
  refine L.makeFunc rfl rfl rfl rfl trivial ?_
  refine L.callV rfl rfl rfl (fun D1 hD1 => ContainsFuncC_ok _ _ xs (fun x => !p x) _ (Sl.at RCh.up hD1 (by assumption) (by simp)) ⟨_, [], [.pointer (some ⟨b, 0, none⟩)], rfl, fun x D2 hl => allC1_ok b fv p x D2 (hp.up ((hD1 _ (by simp)).trans hl)) (hB.up ((hD1 _ (by simp)).trans hl))⟩) rfl trivial ?_
  refine L.not rfl rfl rfl trivial ?_
  refine L.assign rfl rfl rfl trivial ?_
  refine L.nil ?_
  refine C.next ?_
  refine C.ret ?_
  exact leave (vs := [_]) rfl rfl rfl ⟨rfl, trivial⟩ (fun D hD => by show Value.bool (!_) = _; rw [all_any])
theorem IndexFuncR_ok (sv fv : Value) (xs : List (Int × Int)) (p : (Int × Int) → Bool) (D : Data) (hS : Sl D R2 2 sv xs) (hp : PredOK Try.prog D k2V fv p) :
    Fn Try.prog 128 #[sv, fv] D (fun _ v => v = .int .i64 (idxOf p xs)) := by
  have hl := hS.len
  obtain ⟨f, c1, c2, rfl, hf⟩ := hp
  refine enter 19 Try.func128 rfl rfl rfl rfl fun h0 => ?_
  refine C.seq ?_
  refine C.region [(false,0)] rfl ?_
  refine L.assign rfl rfl rfl trivial ?_
  refine L.nil ?_
  refine C.next ?_
  refine C.seq ?_
  refine C.seq ?_
  refine C.region [(false,0),(false,1),(false,2)] rfl ?_
  refine L.move rfl rfl rfl trivial ?_
  refine L.len rfl Try.underlying35 rfl (by assumption) rfl rfl trivial ?_
  refine L.move rfl rfl rfl trivial ?_
  refine L.nil ?_
  refine C.next ?_
  refine C.block ?_
  refine C.loopC (γ := Nat) (fun k => xs.length - k) (fun k => k ≤ xs.length ∧ (xs.take k).any p = false) (fun k => [(8, .int .i64 k)]) [(7, _), (4, _), (0, _), (1, _)] (fun k => [D]) 0 (by simp) ⟨(by first | rfl | (show some (Value.int _ _) = some (Value.int _ _); congr 2; omega)), trivial⟩ ⟨rfl, rfl, rfl, rfl, trivial⟩ (ds_same) ?_
  rintro k ⟨h1, h2⟩
  refine C.seq ?_
  refine C.region [(false,0)] rfl ?_
  refine L.lss rfl rfl rfl rfl trivial ?_
  refine L.nil ?_
  refine C.next ?_
  refine C.seq ?_
  refine C.condD rfl (fun hc1 => ?_) (fun hc1 => ?_)
  · have hk : k < xs.length := by omega
    obtain ⟨x, hx⟩ : ∃ x, xs[k]? = some x := ⟨_, List.getElem?_eq_getElem hk⟩
    refine C.skip ?_
    refine C.next ?_
    refine C.seq ?_
    refine C.block ?_
    refine C.seq ?_
    refine C.region [(false,0),(false,1)] rfl ?_
    refine L.move rfl rfl rfl trivial ?_
    refine L.assign rfl rfl rfl trivial ?_
    refine L.nil ?_
    refine C.next ?_
    refine C.seq ?_
    refine C.region [(false,0),(false,1),(false,2),(false,3),(false,4),(false,5)] rfl ?_
    refine L.move rfl rfl rfl trivial ?_
    refine L.move rfl rfl rfl trivial ?_
    refine L.move rfl rfl rfl trivial ?_
    refine L.indexS rfl Try.underlying35 Tf.s61 rfl (by assumption) rfl (by omega) (by assumption) rfl trivial (fun b1 o1 cs1 hr1 hcl1 hA1 => ?_)
    obtain rfl : cs1 = [.int .i64 _, .int .i64 _] := hr1
    refine L.loadDW rfl Tf.a61 rfl hA1 (by first | simp | assumption) Tf.s61 List.not_mem_nil rfl trivial ?_
    refine L.callV rfl rfl rfl (fun D1 hD1 => hf x _ (hD1 _ (by simp))) rfl trivial ?_
    refine L.nil ?_
    refine C.next ?_
    refine C.cond rfl (fun hc2 => ?_) (fun hc2 => ?_)
    · refine C.seq ?_
      refine C.region [(false,0),(false,1)] rfl ?_
      refine L.move rfl rfl rfl trivial ?_
      refine L.assign rfl rfl rfl trivial ?_
      refine L.nil ?_
      refine C.next ?_
      refine C.ret ?_
      refine C.blockRet ?_
      refine C.thenRet ?_
      refine C.thenRet ?_
      refine C.blockRet ?_
      refine C.thenRet ?_
      exact leave (vs := [_]) rfl rfl rfl ⟨rfl, trivial⟩ (fun D hD => by show Value.int _ _ = _; rw [idxOf_at hx h2 hc2])
    · refine C.skip ?_
      refine C.blockEnd ?_
      refine C.next ?_
      refine C.region [(false,0),(false,1)] rfl ?_
      refine L.add rfl rfl rfl (by simp only [inK]; omega) rfl trivial ?_
      refine L.move rfl rfl rfl trivial ?_
      refine L.nil ?_
      have hpx : p x = false := hc2
      have h3 : (xs.take (k + 1)).any p = false := by rw [List.take_add_one, hx, List.any_append, h2]; simp [hpx]
      exact C.againR 12 (k + 1) ⟨by omega, h3⟩ (by omega) ⟨(by first | rfl | (show some (Value.int _ _) = some (Value.int _ _); congr 2; omega)), trivial⟩ rfl rfl (List.Sublist.refl _) (ds_same)
  · refine C.exit ?_
    refine C.thenExit ?_
    refine C.thenExit ?_
    refine C.blockExit ?_
    refine C.next ?_
    refine C.seq ?_
    refine C.region [(false,0)] rfl ?_
    refine L.assign rfl rfl rfl trivial ?_
    refine L.nil ?_
    refine C.next ?_
    refine C.ret ?_
    exact leave (vs := [_]) rfl rfl rfl ⟨rfl, trivial⟩ (fun D hD => by show Value.int _ _ = _; rw [idxOf_none (by rwa [List.take_of_length_le (by omega)] at h2)])
theorem ContainsFuncR_ok (sv fv : Value) (xs : List (Int × Int)) (p : (Int × Int) → Bool) (D : Data) (hS : Sl D R2 2 sv xs) (hp : PredOK Try.prog D k2V fv p) :
    Fn Try.prog 119 #[sv, fv] D (fun _ v => v = .bool (xs.any p)) := by
  refine enter 9 Try.func119 rfl rfl rfl rfl fun h0 => ?_
  refine C.seq ?_
  refine C.region [(false,0)] rfl ?_
  refine L.assign rfl rfl rfl trivial ?_
  refine L.nil ?_
  refine C.next ?_
  refine C.seq ?_
  refine C.region [(false,0),(false,1),(false,2),(false,3),(false,4)] rfl ?_
  refine L.move rfl rfl rfl trivial ?_
  refine L.move rfl rfl rfl trivial ?_
  refine L.callV rfl rfl rfl (fun D1 hD1 => IndexFuncR_ok _ _ xs p _ (Sl.at R2.up hD1 (by assumption) (by simp)) (hp.up (hD1 _ (by simp)))) rfl trivial ?_
  refine L.geq rfl rfl rfl rfl trivial ?_
  refine L.assign rfl rfl rfl trivial ?_
  refine L.nil ?_
  refine C.next ?_
  refine C.ret ?_
  exact leave (vs := [_]) rfl rfl rfl ⟨rfl, trivial⟩ (fun D hD => by show Value.bool (decide _) = _; rw [idxOf_ge])
theorem allR1_ok (b : Nat) (fv : Value) (p : (Int × Int) → Bool) (x : (Int × Int)) (D : Data) (hp : PredOK Try.prog D k2V fv p) (hB : At D b 0 [fv]) :
    Fn Try.prog 120 #[k2V x, .pointer (some ⟨b, 0, none⟩)] D (fun _ v => v = .bool (!p x)) := by
  obtain ⟨f, c1, c2, rfl, hf⟩ := hp
  refine enter 8 Try.func120 rfl rfl rfl rfl fun h0 => ?_
  refine C.seq ?_
  refine C.region [(false,0),(false,1)] rfl ?_
  refine L.boxD rfl rfl rfl rfl trivial (fun q1 E1 hE1 hB1 => ?_)
  refine L.assign rfl rfl rfl trivial ?_
  refine L.nil ?_
  refine C.next ?_
  refine C.seq ?_
  refine C.region [(false,0),(false,1),(false,2),(false,3),(false,4)] rfl ?_
  refine L.loadD1 rfl (k := 0) Tf.a156 rfl hB (by first | simp | assumption) rfl List.not_mem_nil rfl trivial ?_
  refine L.loadDW rfl Tf.a61 rfl hB1 (by first | simp | assumption) Tf.s61 List.not_mem_nil rfl trivial ?_
  refine L.callV rfl rfl rfl (fun D1 hD1 => hf x _ (hD1 _ (by simp))) rfl trivial ?_
  refine L.not rfl rfl rfl trivial ?_
  refine L.assign rfl rfl rfl trivial ?_
  refine L.nil ?_
  refine C.next ?_
  refine C.ret ?_
  exact leave (vs := [_]) rfl rfl rfl ⟨rfl, trivial⟩ (fun D hD => rfl)
theorem allR_ok (sv fv : Value) (xs : List (Int × Int)) (p : (Int × Int) → Bool) (D : Data) (hS : Sl D R2 2 sv xs) (hp : PredOK Try.prog D k2V fv p) (h1 : fv.cells = #[fv]) :
    Fn Try.prog 105 #[sv, fv] D (fun _ v => v = .bool (xs.all p)) := by
  refine enter 9 Try.func105 rfl rfl rfl rfl fun h0 => ?_
  refine C.seq ?_
  refine C.region [(false,0),(false,1)] rfl ?_
  refine L.boxD (vs := [fv]) rfl rfl h1 rfl trivial (fun b D1 hD1 hB => ?_)
  refine L.assign rfl rfl rfl trivial ?_
  refine L.nil ?_
  refine C.next ?_
  refine C.seq ?_
  refine C.region [(false,0),(false,1),(false,2),(false,3),(false,4)] rfl ?_
  refine L.move rfl rfl rfl trivial ?_
  refine L.makeFunc rfl rfl rfl rfl trivial ?_
  refine L.callV rfl rfl rfl (fun D1 hD1 => ContainsFuncR_ok _ _ xs (fun x => !p x) _ (Sl.at R2.up hD1 (by assumption) (by simp)) ⟨_, [], [.pointer (some ⟨b, 0, none⟩)], rfl, fun x D2 hl => allR1_ok b fv p x D2 (hp.up ((hD1 _ (by simp)).trans hl)) (hB.up ((hD1 _ (by simp)).trans hl))⟩) rfl trivial ?_
  refine L.not rfl rfl rfl trivial ?_
  refine L.assign rfl rfl rfl trivial ?_
  refine L.nil ?_
  refine C.next ?_
  refine C.ret ?_
  exact leave (vs := [_]) rfl rfl rfl ⟨rfl, trivial⟩ (fun D hD => by show Value.bool (!_) = _; rw [all_any])
theorem Min_ok (sv : Value) (x : Int) (xs : List Int) (D : Data) (hS : Sl D RI 1 sv (x :: xs)) :
    Fn Try.prog 123 #[sv] D (fun _ v => v = .int .i64 (xs.foldl min x)) := by
  have hl := hS.len
  simp only [List.length_cons] at hl
  refine enter 25 Try.func123 rfl rfl rfl rfl fun h0 => ?_
  refine C.seq ?_
  refine C.region [(false,0)] rfl ?_
  refine L.assign rfl rfl rfl trivial ?_
  refine L.nil ?_
  refine C.next ?_
  refine C.seq ?_
  refine C.seq ?_
  refine C.region [(false,0),(false,1),(false,2)] rfl ?_
  refine L.move rfl rfl rfl trivial ?_
  refine L.len rfl Try.underlying52 rfl (by assumption) rfl rfl trivial ?_
  refine L.lss rfl rfl rfl rfl trivial ?_
  refine L.nil ?_
  refine C.next ?_
  refine C.condD rfl (fun hc1 => ?_) (fun hc1 => ?_)
  · exact absurd hc1 (by simp only [List.length_cons]; omega)
  · refine C.skip ?_
    refine C.next ?_
    refine C.seq ?_
    refine C.region [(false,0),(false,1),(false,2),(false,3)] rfl ?_
    refine L.move rfl rfl rfl trivial ?_
    refine L.indexS rfl Try.underlying52 Tf.s3 rfl (by assumption) rfl (by omega) (by rfl) rfl trivial (fun b1 o1 cs1 hr1 hcl1 hA1 => ?_)
    obtain rfl : cs1 = [.int .i64 _] := hr1
    refine L.loadD1 rfl (k := 0) Tf.a3 rfl hA1 (by first | simp | assumption) rfl List.not_mem_nil rfl trivial ?_
    refine L.assign rfl rfl rfl trivial ?_
    refine L.nil ?_
    refine C.next ?_
    refine C.seq ?_
    refine C.seq ?_
    refine C.region [(false,0)] rfl ?_
    refine L.assign rfl rfl rfl trivial ?_
    refine L.nil ?_
    refine C.next ?_
    refine C.block ?_
    refine C.loopC (γ := Nat) (fun k => xs.length - k) (fun k => k ≤ xs.length) (fun k => [(3, .int .i64 ((xs.take k).foldl min x)), (4, .int .i64 (k + 1 : Int))]) [(2, _), (0, _)] (fun k => [D]) 0 (by omega) ⟨(by first | rfl | (show some (Value.int _ _) = some (Value.int _ _); congr 2; omega)), (by first | rfl | (show some (Value.int _ _) = some (Value.int _ _); congr 2; omega)), trivial⟩ ⟨rfl, rfl, trivial⟩ (ds_same) ?_
    rintro k h1
    refine C.seq ?_
    refine C.seq ?_
    refine C.region [(false,0),(false,1),(false,2),(false,3)] rfl ?_
    refine L.move rfl rfl rfl trivial ?_
    refine L.move rfl rfl rfl trivial ?_
    refine L.len rfl Try.underlying52 rfl (by assumption) rfl rfl trivial ?_
    refine L.lss rfl rfl rfl rfl trivial ?_
    refine L.nil ?_
    refine C.next ?_
    refine C.condD rfl (fun hc2 => ?_) (fun hc2 => ?_)
    · simp only [List.length_cons] at hc2
      have hk : k < xs.length := by omega
      obtain ⟨y, hy⟩ : ∃ y, xs[k]? = some y := ⟨_, List.getElem?_eq_getElem hk⟩
      have hy2 : (x :: xs)[(k + 1 : Int).toNat]? = some y := by rw [show ((k : Int) + 1).toNat = k + 1 by omega]; simpa using hy
      refine C.skip ?_
      refine C.next ?_
      refine C.seq ?_
      refine C.block ?_
      refine C.region [(false,0),(false,1),(false,2),(false,3),(false,4),(false,5),(false,6)] rfl ?_
      refine L.move rfl rfl rfl trivial ?_
      refine L.move rfl rfl rfl trivial ?_
      refine L.move rfl rfl rfl trivial ?_
      refine L.indexS rfl Try.underlying52 Tf.s3 rfl (by assumption) rfl (by omega) (by assumption) rfl trivial (fun b2 o2 cs2 hr2 hcl2 hA2 => ?_)
      obtain rfl : cs2 = [.int .i64 _] := hr2
      refine L.loadD1 rfl (k := 0) Tf.a3 rfl hA2 (by first | simp | assumption) rfl List.not_mem_nil rfl trivial ?_
      refine L.min2 rfl rfl rfl rfl trivial ?_
      refine L.assign rfl rfl rfl trivial ?_
      refine L.nil ?_
      refine C.blockEnd ?_
      refine C.next ?_
      refine C.region [(false,0),(false,1),(false,2)] rfl ?_
      refine L.move rfl rfl rfl trivial ?_
      refine L.add rfl rfl rfl (by simp only [inK]; omega) rfl trivial ?_
      refine L.assign rfl rfl rfl trivial ?_
      refine L.nil ?_
      have h3 : (xs.take (k + 1)).foldl min x = min ((xs.take k).foldl min x) y := by rw [List.take_add_one, hy, List.foldl_append]; rfl
      exact C.againR 16 (k + 1) (by omega) (by omega) ⟨(by rw [h3]; rfl), (by first | rfl | (show some (Value.int _ _) = some (Value.int _ _); congr 2; omega)), trivial⟩ rfl rfl (List.Sublist.refl _) (ds_same)
    · simp only [List.length_cons] at hc2
      refine C.exit ?_
      refine C.thenExit ?_
      refine C.thenExit ?_
      refine C.blockExit ?_
      refine C.next ?_
      refine C.seq ?_
      refine C.region [(false,0),(false,1)] rfl ?_
      refine L.move rfl rfl rfl trivial ?_
      refine L.assign rfl rfl rfl trivial ?_
      refine L.nil ?_
      refine C.next ?_
      refine C.ret ?_
      exact leave (vs := [_]) rfl rfl rfl ⟨rfl, trivial⟩ (fun D hD => by show Value.int _ _ = _; rw [List.take_of_length_le (by omega)])
theorem minimum_ok (sv : Value) (x : Int) (xs : List Int) (D : Data) (hS : Sl D RI 1 sv (x :: xs)) :
    Fn Try.prog 113 #[sv] D (fun _ v => v = .int .i64 (xs.foldl min x)) := by
  refine enter 5 Try.func113 rfl rfl rfl rfl fun h0 => ?_
  refine C.seq ?_
  refine C.region [(false,0)] rfl ?_
  refine L.assign rfl rfl rfl trivial ?_
  refine L.nil ?_
  refine C.next ?_
  refine C.seq ?_
  refine C.region [(false,0),(false,1),(false,2)] rfl ?_
  refine L.move rfl rfl rfl trivial ?_
  refine L.callV rfl rfl rfl (fun D1 hD1 => Min_ok _ x xs _ (Sl.at RI.up hD1 (by assumption) (by simp))) rfl trivial ?_
  refine L.assign rfl rfl rfl trivial ?_
  refine L.nil ?_
  refine C.next ?_
  refine C.ret ?_
  exact leave (vs := [_]) rfl rfl rfl ⟨rfl, trivial⟩ (fun D hD => rfl)
end Go.Fs
namespace Go.Fs
open Go.Proofs
open C7
theorem whole_l {p : Pt} : (p.l == [1, 1, 1]) = isWhole p := by
  obtain ⟨a, b, c⟩ := p
  simp only [isWhole, Pt.l, Pt.mk.injEq]
  rw [Bool.eq_iff_iff]; simp
theorem low_go {m k i : Nat} (hk : m.testBit k = true) (h1 : i ≤ k) (h : ((m >>> i : Nat) : Int) % 2 = 0) : i + 1 ≤ k := by
  rw [bit_mod] at h
  have : i ≠ k := by rintro rfl; rw [hk] at h; simp at h
  omega
theorem low_end {m k i : Nat} (hl : ∀ i, i < k → m.testBit i = false) (h1 : i ≤ k) (h : ¬ ((m >>> i : Nat) : Int) % 2 = 0) : i = k := by
  rw [bit_mod] at h
  by_cases hi : i < k
  · rw [hl i hi] at h; simp at h
  · omega
theorem has_ok (r : Int × Int) (n : Int) (D : Data) : Fn Try.prog 115 #[k2V r, .int .i64 n] D (fun _ v => v = .bool (inB n r.1 r.2)) := by
  refine enter 11 Try.func115 rfl rfl rfl rfl fun h0 => ?_
  refine C.seq ?_
  refine C.region [(false,0),(false,1)] rfl ?_
  refine L.boxD rfl rfl rfl rfl trivial (fun q1 E1 hE1 hB1 => ?_)
  refine L.assign rfl rfl rfl trivial ?_
  refine L.nil ?_
  refine C.next ?_
  refine C.seq ?_
  refine C.region [(false,0),(false,1),(false,2),(false,3),(false,4),(false,5),(false,6)] rfl ?_
  refine L.move rfl rfl rfl trivial ?_
  refine L.fieldAddr rfl Tf.f61_0 rfl rfl trivial ?_
  refine L.loadD1 rfl (k := 0) Tf.a3 rfl hB1 (by first | simp | assumption) rfl List.not_mem_nil rfl trivial ?_
  refine L.fieldAddr rfl Tf.f61_1 rfl rfl trivial ?_
  refine L.loadD1 rfl (k := 1) Tf.a3 rfl hB1 (by first | simp | assumption) rfl List.not_mem_nil rfl trivial ?_
  refine L.callV rfl rfl rfl (fun D1 hD1 => within_ok _ _ _ _) rfl trivial ?_
  refine L.assign rfl rfl rfl trivial ?_
  refine L.nil ?_
  refine C.next ?_
  refine C.ret ?_
  exact leave (vs := [_]) rfl rfl rfl ⟨rfl, trivial⟩ (fun D hD => rfl)
theorem wider_ok (r : Int × Int) (n : Int) (D : Data) : Fn Try.prog 87 #[k2V r, .int .i64 n] D (fun _ v => v = k2V (min r.1 n, max r.2 n)) := by
  refine enter 15 Try.func87 rfl rfl rfl rfl fun h0 => ?_
  refine C.seq ?_
  refine C.region [(false,0),(false,1)] rfl ?_
  refine L.boxD rfl rfl rfl rfl trivial (fun q1 E1 hE1 hB1 => ?_)
  refine L.alloc rfl Tf.z61 rfl rfl trivial (fun q2 => ?_)
  refine L.nil ?_
  refine C.next ?_
  refine C.seq ?_
  refine C.draw [] 4 [0,1,2,5,6,7,8,3,4,9,10] [false,false,true,true,true,true,true,true,true,false,false] [(false,0),(false,1),(true,2),(true,5),(true,6),(true,7),(true,8),(true,3),(true,4),(false,9),(false,10)] Tf.follows (fun _ _ _ h => np_body (P := Try.prog) (fn := Try.f87) _ _ _ h) (by kernel_rfl) rfl ?_
  refine L.fieldAddr rfl Tf.f61_0 rfl rfl trivial ?_
  refine L.loadD1 rfl (k := 0) Tf.a3 rfl hB1 (by first | simp | assumption) rfl List.not_mem_nil rfl trivial ?_
  refine L.move rfl rfl rfl trivial ?_
  refine L.fieldAddr rfl Tf.f61_1 rfl rfl trivial ?_
  refine L.loadD1 rfl (k := 1) Tf.a3 rfl hB1 (by first | simp | assumption) rfl List.not_mem_nil rfl trivial ?_
  refine L.move rfl rfl rfl trivial ?_
  refine L.max2 rfl rfl rfl rfl trivial ?_
  refine L.buildSlice rfl Try.underlying52 Tf.s3 Tf.z3 rfl rfl rfl rfl (.cons rfl rfl (.cons rfl rfl .nil)) rfl trivial (fun b901 D901 hD901 hA901 => ?_)
  have hS901 := Sl.ofInts (l := [_, _]) (n := 2) (cap := 2) hA901 rfl (by omega) (by omega)
  refine L.callV rfl rfl rfl (fun D1 hD1 => minimum_ok _ r.1 [n] _ (hS901.up RI.up (hD1 _ (by simp)))) rfl trivial ?_
  refine L.build (cs := [.int .i64 (min r.1 n), .int .i64 (max r.2 n)]) rfl Tf.p61 Tf.z61 rfl rfl rfl trivial ?_
  refine L.storeW rfl rfl rfl rfl Tf.s61 (by first | rfl | (simp only [ints_length, *]; done) | (simp only [ints_length, *]; rfl) | (simp only [ints_length, *]; omega)) (by first | rfl | (simp only [ints_length, *]; done) | (simp only [ints_length, *]; rfl) | (simp only [ints_length, *]; omega)) (Has.head) (by first | exact ints_cell1 _ | simp [cell1]) trivial ?_
  refine L.nil ?_
  refine C.next ?_
  refine C.ret ?_
  exact leave (vs := [_]) rfl rfl rfl ⟨⟨_, _, _, rfl, (List.Mem.head _), Or.inr ⟨Tf.a61, (by first | exact Tf.s61 | (simp only [List.size_toArray, ints_length, *]; exact Tf.s61)), rfl⟩⟩, trivial⟩ (fun D hD => rfl)
theorem valid1_ok (n m : Int) (b : Nat) (D : Data) (hB : At D b 0 [.int .i64 m]) : Fn Try.prog 127 #[.int .i64 n, .pointer (some ⟨b, 0, none⟩)] D (fun _ v => v = .bool (inB n 0 m)) := by
  refine enter 7 Try.func127 rfl rfl rfl rfl fun h0 => ?_
  refine C.seq ?_
  refine C.region [(false,0)] rfl ?_
  refine L.assign rfl rfl rfl trivial ?_
  refine L.nil ?_
  refine C.next ?_
  refine C.seq ?_
  refine C.region [(false,0),(false,1),(false,2),(false,3)] rfl ?_
  refine L.move rfl rfl rfl trivial ?_
  refine L.loadD1 rfl (k := 0) Tf.a3 rfl hB (by first | simp | assumption) rfl List.not_mem_nil rfl trivial ?_
  refine L.callV rfl rfl rfl (fun D1 hD1 => within_ok _ _ _ _) rfl trivial ?_
  refine L.assign rfl rfl rfl trivial ?_
  refine L.nil ?_
  refine C.next ?_
  refine C.ret ?_
  exact leave (vs := [_]) rfl rfl rfl ⟨rfl, trivial⟩ (fun D hD => rfl)
theorem valid_ok (p : Pt) (m : Int) (D : Data) : Fn Try.prog 118 #[ptV p, .int .i64 m] D (fun _ v => v = .bool (ptsOk p m)) := by
  refine enter 8 Try.func118 rfl rfl rfl rfl fun h0 => ?_
  refine C.seq ?_
  refine C.region [(false,0),(false,1),(false,2)] rfl ?_
  refine L.boxD rfl rfl rfl rfl trivial (fun q1 E1 hE1 hB1 => ?_)
  refine L.boxD rfl rfl rfl rfl trivial (fun q2 E2 hE2 hB2 => ?_)
  refine L.assign rfl rfl rfl trivial ?_
  refine L.nil ?_
  refine C.next ?_
  refine C.seq ?_
  refine C.region [(false,0),(false,1),(false,2),(false,3)] rfl ?_
  refine L.sliceA rfl Try.underlying113 Tf.s3 rfl rfl trivial ?_
  refine L.makeFunc rfl rfl rfl rfl trivial ?_
  refine L.callV rfl rfl rfl (fun D1 hD1 => allI_ok _ _ p.l (fun x => inB x 0 m) _ (Sl.ofInts (l := p.l) (n := 3) (cap := 3) (hB1.up (hD1 _ (by simp))) rfl (by omega) (by omega)) ⟨_, [], [_], rfl, fun x D2 hl => valid1_ok x m q2 D2 (hB2.up ((hD1 _ (by simp)).trans hl))⟩ rfl) rfl trivial ?_
  refine L.assign rfl rfl rfl trivial ?_
  refine L.nil ?_
  refine C.next ?_
  refine C.ret ?_
  exact leave (vs := [_]) rfl rfl rfl ⟨rfl, trivial⟩ (fun D hD => rfl)
theorem chairValid_ok (c : Ch) (D : Data) : Fn Try.prog 104 #[chV c] D (fun _ v => v = .bool (chairOk c)) := by
  refine enter 11 Try.func104 rfl rfl rfl rfl fun h0 => ?_
  refine C.seq ?_
  refine C.region [(false,0),(false,1)] rfl ?_
  refine L.boxD rfl rfl rfl rfl trivial (fun q1 E1 hE1 hB1 => ?_)
  refine L.assign rfl rfl rfl trivial ?_
  refine L.nil ?_
  refine C.next ?_
  refine C.seq ?_
  refine C.region [(false,0),(false,1),(false,2),(false,3),(false,4),(false,5),(false,6),(false,7),(false,8)] rfl ?_
  refine L.fieldAddr rfl Tf.f115_0 rfl rfl trivial ?_
  refine L.loadD1 rfl (k := 0) Tf.a3 rfl hB1 (by first | simp | assumption) rfl List.not_mem_nil rfl trivial ?_
  refine L.callV rfl rfl rfl (fun D1 hD1 => within_ok _ _ _ _) rfl trivial ?_
  refine L.move rfl rfl rfl trivial ?_
  refine' L.and [(false,4),(false,5),(false,6),(false,7)] [(false,8)] (s := 6) (p := 10) rfl rfl (fun hg1 => ?_) (fun hg1 => ?_) ?_
  rotate_left
  · refine L.fieldAddr rfl Tf.f115_1 rfl rfl ⟨_, rfl, rfl⟩ ?_
    refine L.loadDP rfl (k := 1) Tf.a113 Tf.s113 rfl hB1 (by first | simp | assumption) rfl rfl List.not_mem_nil rfl ⟨_, rfl, rfl⟩ ?_
    refine L.callV rfl rfl rfl (fun D2 hD2 => valid_ok c.parts 2 _) rfl ⟨_, rfl, rfl⟩ ?_
    refine L.pickT rfl rfl rfl rfl trivial ?_
    exact L.nil fun a w hh => hh.cutK 3 rfl
  · refine L.pass rfl rfl rfl ⟨_, _, rfl, rfl, rfl⟩ ?_
    refine L.pass rfl rfl rfl ⟨_, _, rfl, rfl, rfl⟩ ?_
    refine L.pass rfl rfl rfl ⟨_, _, rfl, rfl, rfl⟩ ?_
    refine L.pickF rfl rfl rfl rfl trivial ?_
    exact L.nil fun a w hh => hh.cutK 3 rfl
  refine L.assign rfl rfl rfl trivial ?_
  refine L.nil ?_
  refine C.next ?_
  refine C.ret ?_
  exact leave (vs := [_]) rfl rfl rfl ⟨rfl, trivial⟩ (fun D hD => rfl)
theorem claim_ok (yv : Value) (y : YardD) (r : Int × Int) (D : Data) (hy : YardIs D yv y) : Fn Try.prog 102 #[yv, k2V r] D (fun _ v => v = .bool (claimOk r)) := by
  obtain ⟨cv, qv, rfl, hc, hq⟩ := hy
  refine enter 20 Try.func102 rfl rfl rfl rfl fun h0 => ?_
  refine C.seq ?_
  refine C.region [(false,0),(false,1),(false,2)] rfl ?_
  refine L.boxD rfl rfl rfl rfl trivial (fun q1 E1 hE1 hB1 => ?_)
  refine L.boxD rfl rfl rfl rfl trivial (fun q2 E2 hE2 hB2 => ?_)
  refine L.assign rfl rfl rfl trivial ?_
  refine L.nil ?_
  refine C.next ?_
  refine C.seq ?_
  refine C.region [(false,0),(false,1),(false,2),(false,3),(false,4),(false,5),(false,6),(false,7),(false,8),(false,9),(false,10),(false,11),(false,12),(false,13),(false,14),(false,15)] rfl ?_
  refine L.fieldAddr rfl Tf.f61_0 rfl rfl trivial ?_
  refine L.loadD1 rfl (k := 0) Tf.a3 rfl hB2 (by first | simp | assumption) rfl List.not_mem_nil rfl trivial ?_
  refine L.leq rfl rfl rfl rfl trivial ?_
  refine L.move rfl rfl rfl trivial ?_
  refine' L.and [(false,4),(false,5),(false,6),(false,7),(false,8),(false,9)] [(false,10),(false,11),(false,12),(false,13),(false,14),(false,15)] (s := 8) (p := 14) rfl rfl (fun hg1 => ?_) (fun hg1 => ?_) ?_
  rotate_left
  · refine L.fieldAddr rfl Tf.f61_0 rfl rfl ⟨_, rfl, rfl⟩ ?_
    refine L.loadD1 rfl (k := 0) Tf.a3 rfl hB2 (by first | simp | assumption) rfl List.not_mem_nil rfl ⟨_, rfl, rfl⟩ ?_
    refine L.fieldAddr rfl Tf.f61_1 rfl rfl ⟨_, rfl, rfl⟩ ?_
    refine L.loadD1 rfl (k := 1) Tf.a3 rfl hB2 (by first | simp | assumption) rfl List.not_mem_nil rfl ⟨_, rfl, rfl⟩ ?_
    refine L.leq rfl rfl rfl rfl ⟨_, rfl, rfl⟩ ?_
    refine L.pickT rfl rfl rfl rfl trivial ?_
    exact L.nil fun a w hh => hh.cutK 5 rfl
  · refine L.pass rfl rfl rfl ⟨_, _, rfl, rfl, rfl⟩ ?_
    refine L.pass rfl rfl rfl ⟨_, _, rfl, rfl, rfl⟩ ?_
    refine L.pass rfl rfl rfl ⟨_, _, rfl, rfl, rfl⟩ ?_
    refine L.pass rfl rfl rfl ⟨_, _, rfl, rfl, rfl⟩ ?_
    refine L.pass rfl rfl rfl ⟨_, _, rfl, rfl, rfl⟩ ?_
    refine L.pickF rfl rfl rfl rfl trivial ?_
    exact L.nil fun a w hh => hh.cutK 5 rfl
  refine L.move rfl rfl rfl trivial ?_
  refine' L.and [(false,11),(false,12),(false,13),(false,14)] [(false,15)] (s := 15) (p := 19) rfl rfl (fun hg2 => ?_) (fun hg2 => ?_) ?_
  rotate_left
  · refine L.fieldAddr rfl Tf.f61_1 rfl rfl ⟨_, rfl, rfl⟩ ?_
    refine L.loadD1 rfl (k := 1) Tf.a3 rfl hB2 (by first | simp | assumption) rfl List.not_mem_nil rfl ⟨_, rfl, rfl⟩ ?_
    refine L.leq rfl rfl rfl rfl ⟨_, rfl, rfl⟩ ?_
    refine L.pickT rfl rfl rfl rfl trivial ?_
    exact L.nil fun a w hh => hh.cutK 3 rfl
  · refine L.pass rfl rfl rfl ⟨_, _, rfl, rfl, rfl⟩ ?_
    refine L.pass rfl rfl rfl ⟨_, _, rfl, rfl, rfl⟩ ?_
    refine L.pass rfl rfl rfl ⟨_, _, rfl, rfl, rfl⟩ ?_
    refine L.pickF rfl rfl rfl rfl trivial ?_
    exact L.nil fun a w hh => hh.cutK 3 rfl
  refine L.assign rfl rfl rfl trivial ?_
  refine L.nil ?_
  refine C.next ?_
  refine C.ret ?_
  exact leave (vs := [_]) rfl rfl rfl ⟨rfl, trivial⟩ (fun D hD => rfl)
theorem whole_ok (p : Pt) (D : Data) : Fn Try.prog 108 #[ptV p] D (fun _ v => v = .bool (isWhole p)) := by
  refine enter 6 Try.func108 rfl rfl rfl rfl fun h0 => ?_
  refine C.seq ?_
  refine C.region [(false,0),(false,1)] rfl ?_
  refine L.boxD rfl rfl rfl rfl trivial (fun q1 E1 hE1 hB1 => ?_)
  refine L.assign rfl rfl rfl trivial ?_
  refine L.nil ?_
  refine C.next ?_
  refine C.seq ?_
  refine C.region [(false,0),(false,1),(false,2),(false,3)] rfl ?_
  refine L.loadDW rfl Tf.a113 rfl hB1 (by first | simp | assumption) (by first | exact Tf.s113 | (simp only [ints_length, *]; exact Tf.s113)) List.not_mem_nil rfl trivial ?_
  refine L.buildA (cs := [.int .i64 1, .int .i64 1, .int .i64 1]) rfl Try.underlying113 Tf.s3 Tf.z113 rfl rfl rfl trivial ?_
  refine L.eqlA (l := p.l) (m := [1, 1, 1]) rfl (by kernel_rfl) Try.underlying113 Try.underlying3 (by kernel_rfl) rfl rfl rfl rfl rfl trivial ?_
  refine L.assign rfl rfl rfl trivial ?_
  refine L.nil ?_
  refine C.next ?_
  refine C.ret ?_
  exact leave (vs := [_]) rfl rfl rfl ⟨rfl, trivial⟩ (fun D hD => by show Value.bool _ = _; rw [whole_l])
theorem lowest_ok (m k : Nat) (D : Data) (hk : m.testBit k = true) (hk2 : k ≤ 60) (hl : ∀ i, i < k → m.testBit i = false) : Fn Try.prog 106 #[.int .i64 (m : Int)] D (fun _ v => v = .int .i64 (k : Int)) := by
  refine enter 11 Try.func106 rfl rfl rfl rfl fun h0 => ?_
  refine C.seq ?_
  refine C.region [(false,0)] rfl ?_
  refine L.assign rfl rfl rfl trivial ?_
  refine L.nil ?_
  refine C.next ?_
  refine C.seq ?_
  refine C.block ?_
  refine C.loopC (γ := Nat) (fun i => k - i) (fun i => i ≤ k) (fun i => [(2, .int .i64 (i : Int))]) [(0, _)] (fun i => [D]) 0 (by omega) ⟨(by first | rfl | (show some (Value.int _ _) = some (Value.int _ _); congr 2; omega)), trivial⟩ ⟨rfl, trivial⟩ (ds_same) ?_
  rintro i h1
  refine C.seq ?_
  refine C.seq ?_
  refine C.region [(false,0),(false,1),(false,2),(false,3),(false,4)] rfl ?_
  refine L.move rfl rfl rfl trivial ?_
  refine L.move rfl rfl rfl trivial ?_
  refine L.shrN rfl rfl rfl (by omega) rfl trivial ?_
  refine L.rem rfl rfl rfl (Int.natCast_nonneg _) (by omega) (by rw [bit_mod]; split <;> simp only [inK] <;> omega) rfl trivial ?_
  refine L.eql rfl rfl rfl rfl trivial ?_
  refine L.nil ?_
  refine C.next ?_
  refine C.condD rfl (fun hc1 => ?_) (fun hc1 => ?_)
  · refine C.skip ?_
    refine C.next ?_
    refine C.block ?_
    refine C.region [(false,0),(false,1),(false,2)] rfl ?_
    refine L.move rfl rfl rfl trivial ?_
    refine L.add rfl rfl rfl (by simp only [inK]; omega) rfl trivial ?_
    refine L.assign rfl rfl rfl trivial ?_
    refine L.nil ?_
    refine C.blockEnd ?_
    exact C.againR 9 (i + 1) (low_go hk h1 hc1) (by have := low_go hk h1 hc1; omega) ⟨(by first | rfl | (show some (Value.int _ _) = some (Value.int _ _); congr 2; omega)), trivial⟩ rfl rfl (List.Sublist.refl _) (ds_same)
  · obtain rfl := low_end hl h1 hc1
    refine C.exit ?_
    refine C.thenExit ?_
    refine C.thenExit ?_
    refine C.blockExit ?_
    refine C.next ?_
    refine C.seq ?_
    refine C.region [(false,0),(false,1)] rfl ?_
    refine L.move rfl rfl rfl trivial ?_
    refine L.assign rfl rfl rfl trivial ?_
    refine L.nil ?_
    refine C.next ?_
    refine C.ret ?_
    exact leave (vs := [_]) rfl rfl rfl ⟨rfl, trivial⟩ (fun D hD => rfl)
end Go.Fs
namespace Go.Fs
open Go.Proofs
open C7
def unkL (l : List Int) : Nat := (l.filter fun n => decide (n = 2)).length
theorem unkL_le (l : List Int) : unkL l ≤ l.length := List.length_filter_le _ _
theorem unk_le (l : List Ch) : unknown l ≤ 3 * l.length := by
  induction l with
  | nil => simp [unknown]
  | cons c l ih =>
    have : unkP c.parts ≤ 3 := List.length_filter_le _ _
    simp only [unknown, List.map_cons, List.sum_cons, List.length_cons] at ih ⊢
    omega
theorem unk_snoc {l : List Ch} {i : Nat} {x : Ch} (hx : l[i]? = some x) : ((unknown (l.take (i + 1)) : Nat) : Int) = ((unknown (l.take i) + unkL (x.parts.l.take 3) : Nat) : Int) := by
  rw [List.take_add_one, hx]; simp [unknown, unkP, unkL, Pt.l]
theorem part_le {x : Ch} {k : Nat} {n : Int} (hx : chairOk x = true) (hn : x.parts.l[k]? = some n) : 0 ≤ n ∧ n ≤ 2 := by
  simp only [chairOk, Bool.and_eq_true, ptsOk, List.all_eq_true] at hx
  have := hx.2 n (List.mem_of_getElem? hn)
  simpa [inB] using this
theorem unkL_step {l : List Int} {k u : Nat} {n : Int} (hn : l[k]? = some n) (h : 0 ≤ n ∧ n ≤ 2) : ((u + unkL (l.take (k + 1)) : Nat) : Int) = ((u + unkL (l.take k) : Nat) : Int) + n / 2 := by
  rw [List.take_add_one, hn]
  simp only [unkL, Option.toList_some, List.filter_append, List.length_append]
  by_cases h2 : n = 2
  · subst h2; simp; omega
  · simp [h2]; omega
theorem cy_limit {y : YardD} (h : (decide ((7 : Int) < y.chairs.length) || decide ((5 : Int) < y.claims.length)) = true) : fault y = 3 := by
  simp only [Bool.or_eq_true, decide_eq_true_eq] at h
  unfold fault; rw [if_pos (by omega)]
theorem cy_not {y : YardD} (h : (decide ((7 : Int) < y.chairs.length) || decide ((5 : Int) < y.claims.length)) = false) : ¬ (7 < y.chairs.length ∨ 5 < y.claims.length) := by
  simp only [Bool.or_eq_false_iff, decide_eq_false_iff_not] at h; omega
theorem cy_arg {y : YardD} (h : (decide ((7 : Int) < y.chairs.length) || decide ((5 : Int) < y.claims.length)) = false) (h2 : ((!inB y.fit 0 9 || !y.chairs.all chairOk) || !y.claims.all claimOk) = true) : fault y = 1 := by
  unfold fault; rw [if_neg (cy_not h), if_pos]
  revert h2; unfold yardOk
  generalize inB y.fit 0 9 = a, y.chairs.all chairOk = b, y.claims.all claimOk = c
  cases a <;> cases b <;> cases c <;> decide
theorem cy_yes {y : YardD} (h2 : ((!inB y.fit 0 9 || !y.chairs.all chairOk) || !y.claims.all claimOk) = false) : yardOk y = true := by
  revert h2; unfold yardOk
  generalize inB y.fit 0 9 = a, y.chairs.all chairOk = b, y.claims.all claimOk = c
  cases a <;> cases b <;> cases c <;> decide
theorem cy_ok {y : YardD} (h : (decide ((7 : Int) < y.chairs.length) || decide ((5 : Int) < y.claims.length)) = false) (h2 : ((!inB y.fit 0 9 || !y.chairs.all chairOk) || !y.claims.all claimOk) = false) : y.chairs.length ≤ 7 ∧ ∀ x ∈ y.chairs, chairOk x = true := by
  have h3 := cy_yes h2
  simp only [yardOk, Bool.and_eq_true, List.all_eq_true] at h3
  have := cy_not h
  exact ⟨by omega, h3.1.2⟩
theorem cy_many {y : YardD} (h : (decide ((7 : Int) < y.chairs.length) || decide ((5 : Int) < y.claims.length)) = false) (h2 : ((!inB y.fit 0 9 || !y.chairs.all chairOk) || !y.claims.all claimOk) = false) (h3 : (8 : Int) < unknown y.chairs) : fault y = 3 := by
  unfold fault; rw [if_neg (cy_not h), if_neg (by rw [cy_yes h2]; simp), if_pos (by omega)]
theorem cy_fine {y : YardD} (h : (decide ((7 : Int) < y.chairs.length) || decide ((5 : Int) < y.claims.length)) = false) (h2 : ((!inB y.fit 0 9 || !y.chairs.all chairOk) || !y.claims.all claimOk) = false) (h3 : ¬ (8 : Int) < unknown y.chairs) : fault y = 0 := by
  unfold fault; rw [if_neg (cy_not h), if_neg (by rw [cy_yes h2]; simp), if_neg (by omega)]
theorem pt_get {p : Pt} {k : Nat} {m : Int} (h : p.l[k]? = some m) : ([.int .i64 p.a, .int .i64 p.b, .int .i64 p.c] : List Value)[k * 1]? = some (.int .i64 m) := by
  rw [Nat.mul_one, show ([.int .i64 p.a, .int .i64 p.b, .int .i64 p.c] : List Value) = p.l.map (Value.int .i64) from rfl, List.getElem?_map, h]; rfl
theorem ist_len {y : YardD} {t : List Pt} (h : t.length ≠ y.chairs.length) : isTruth y t = false := by unfold isTruth; simp [h]
theorem isp_bad {n m : Int} (h : (!inB m 0 1 || (decide (n ≠ 2) && decide (m ≠ n))) = true) : partIs n m = false := by
  unfold partIs
  cases h1 : inB m 0 1 <;> simp_all
theorem isp_good {n m : Int} (h : (!inB m 0 1 || (decide (n ≠ 2) && decide (m ≠ n))) = false) : partIs n m = true := by
  unfold partIs
  cases h1 : inB m 0 1 <;> simp_all
  by_cases h2 : n = 2
  · exact Or.inl h2
  · exact Or.inr (h h2)
theorem ist_no {y : YardD} {t : List Pt} {i k : Nat} {x : Ch} {z : Pt} {n m : Int} (hx : y.chairs[i]? = some x) (hz : t[i]? = some z) (hn : x.parts.l[k]? = some n) (hm : z.l[k]? = some m) (h : (!inB m 0 1 || (decide (n ≠ 2) && decide (m ≠ n))) = true) : isTruth y t = false := by
  have h1 : ((y.chairs.zip t).all fun x => ptsIs x.1.parts x.2) = false := by
    rw [List.all_eq_false]
    refine ⟨(x, z), List.mem_of_getElem? (i := i) (by rw [List.getElem?_zip_eq_some]; exact ⟨hx, hz⟩), ?_⟩
    have : ptsIs x.parts z = false := by
      unfold ptsIs
      rw [List.all_eq_false]
      exact ⟨(n, m), List.mem_of_getElem? (i := k) (by rw [List.getElem?_zip_eq_some]; exact ⟨hn, hm⟩), by simp [isp_bad h]⟩
    simp [this]
  unfold isTruth; rw [h1]; simp
theorem isp_step {p z : Pt} {k : Nat} {n m : Int} (hn : p.l[k]? = some n) (hm : z.l[k]? = some m) (h4 : ((p.l.zip z.l).take k).all (fun q => partIs q.1 q.2) = true) (h : (!inB m 0 1 || (decide (n ≠ 2) && decide (m ≠ n))) = false) : ((p.l.zip z.l).take (k + 1)).all (fun q => partIs q.1 q.2) = true := by
  rw [List.take_add_one, show (p.l.zip z.l)[k]? = some (n, m) by rw [List.getElem?_zip_eq_some]; exact ⟨hn, hm⟩, List.all_append, h4]
  simp [isp_good h]
theorem ist_step {y : YardD} {t : List Pt} {i : Nat} {x : Ch} {z : Pt} (hx : y.chairs[i]? = some x) (hz : t[i]? = some z) (h2 : ((y.chairs.zip t).take i).all (fun x => ptsIs x.1.parts x.2) = true) (h4 : ((x.parts.l.zip z.l).take 3).all (fun q => partIs q.1 q.2) = true) : ((y.chairs.zip t).take (i + 1)).all (fun x => ptsIs x.1.parts x.2) = true := by
  have h : ptsIs x.parts z = true := h4
  rw [List.take_add_one, show (y.chairs.zip t)[i]? = some (x, z) by rw [List.getElem?_zip_eq_some]; exact ⟨hx, hz⟩, List.all_append, h2]
  simp [h]
theorem ist_yes {y : YardD} {t : List Pt} (hl : t.length = y.chairs.length) (h2 : ((y.chairs.zip t).take y.chairs.length).all (fun x => ptsIs x.1.parts x.2) = true) : isTruth y t = true := by
  rw [List.take_of_length_le (by rw [List.length_zip]; omega)] at h2
  unfold isTruth; rw [h2, hl]; simp
theorem CheckYard_ok (yv : Value) (y : YardD) (D : Data) (hy : YardIs D yv y) : Fn Try.prog 67 #[yv] D (fun _ v => v = .int .i64 (fault y)) := by
  have hy0 := hy
  obtain ⟨cv, qv, rfl, hc, hq⟩ := hy
  refine enter 60 Try.func67 rfl rfl rfl rfl fun h0 => ?_
  refine C.seq ?_
  refine C.region [(false,0),(false,1)] rfl ?_
  refine L.boxD rfl rfl rfl rfl trivial (fun q1 E1 hE1 hB1 => ?_)
  refine L.assign rfl rfl rfl trivial ?_
  refine L.nil ?_
  refine C.next ?_
  refine C.seq ?_
  refine C.region [(false,0),(false,1),(false,2)] rfl ?_
  refine L.loadDW rfl Tf.a37 rfl hB1 (by first | simp | assumption) Tf.s37 List.not_mem_nil rfl trivial ?_
  refine L.makeFunc rfl rfl rfl rfl trivial ?_
  refine L.assign rfl rfl rfl trivial ?_
  refine L.nil ?_
  refine C.next ?_
  refine C.seq ?_
  refine C.block ?_
  refine C.seq ?_
  refine C.region [(false,0),(false,1),(false,2),(false,3),(false,4),(false,5),(false,6),(false,7),(false,8),(false,9),(false,10)] rfl ?_
  refine L.fieldAddr rfl Tf.f37_0 rfl rfl trivial ?_
  refine L.loadD1 rfl (k := 0) Tf.a34 rfl hB1 (by first | simp | assumption) rfl List.not_mem_nil rfl trivial ?_
  refine L.len rfl Try.underlying34 rfl hc rfl rfl trivial ?_
  refine L.gtr rfl rfl rfl rfl trivial ?_
  refine L.move rfl rfl rfl trivial ?_
  refine' L.or [(false,5),(false,6),(false,7),(false,8),(false,9)] [(false,10)] (s := 16) (p := 21) rfl rfl (fun hg1 => ?_) (fun hg1 => ?_) ?_
  rotate_left
  · refine L.fieldAddr rfl Tf.f37_2 rfl rfl ⟨_, rfl, rfl⟩ ?_
    refine L.loadD1 rfl (k := 2) Tf.a35 rfl hB1 (by first | simp | assumption) rfl List.not_mem_nil rfl ⟨_, rfl, rfl⟩ ?_
    refine L.len rfl Try.underlying35 rfl hq rfl rfl ⟨_, rfl, rfl⟩ ?_
    refine L.gtr rfl rfl rfl rfl ⟨_, rfl, rfl⟩ ?_
    refine L.pickF rfl rfl rfl rfl trivial ?_
    exact L.nil fun a w hh => hh.cutK 4 rfl
  · refine L.pass rfl rfl rfl ⟨_, _, rfl, rfl, rfl⟩ ?_
    refine L.pass rfl rfl rfl ⟨_, _, rfl, rfl, rfl⟩ ?_
    refine L.pass rfl rfl rfl ⟨_, _, rfl, rfl, rfl⟩ ?_
    refine L.pass rfl rfl rfl ⟨_, _, rfl, rfl, rfl⟩ ?_
    refine L.pickT rfl rfl rfl rfl trivial ?_
    exact L.nil fun a w hh => hh.cutK 4 rfl
  refine L.assign rfl rfl rfl trivial ?_
  refine L.nil ?_
  refine C.next ?_
  refine C.cond rfl (fun hc1 => ?_) (fun hc1 => ?_)
  · refine C.seq ?_
    refine C.region [(false,0)] rfl ?_
    refine L.assign rfl rfl rfl trivial ?_
    refine L.nil ?_
    refine C.next ?_
    refine C.ret ?_
    refine C.blockRet ?_
    refine C.thenRet ?_
    exact leave (vs := [_]) rfl rfl rfl ⟨rfl, trivial⟩ (fun D hD => by show Value.int _ _ = _; rw [cy_limit hc1])
  · refine C.seq ?_
    refine C.region [(false,0),(false,1),(false,2),(false,3),(false,4),(false,5),(false,6),(false,7),(false,8),(false,9),(false,10),(false,11),(false,12),(false,13),(false,14),(false,15),(false,16),(false,17)] rfl ?_
    refine L.fieldAddr rfl Tf.f37_1 rfl rfl trivial ?_
    refine L.loadD1 rfl (k := 1) Tf.a3 rfl hB1 (by first | simp | assumption) rfl List.not_mem_nil rfl trivial ?_
    refine L.callV rfl rfl rfl (fun D1 hD1 => within_ok _ _ _ _) rfl trivial ?_
    refine L.not rfl rfl rfl trivial ?_
    refine L.move rfl rfl rfl trivial ?_
    refine' L.or [(false,5),(false,6),(false,7),(false,8),(false,9)] [(false,10),(false,11),(false,12),(false,13),(false,14),(false,15),(false,16),(false,17)] (s := 27) (p := 32) rfl rfl (fun hg2 => ?_) (fun hg2 => ?_) ?_
    rotate_left
    · refine L.fieldAddr rfl Tf.f37_0 rfl rfl ⟨_, rfl, rfl⟩ ?_
      refine L.loadD1 rfl (k := 0) Tf.a34 rfl hB1 (by first | simp | assumption) rfl List.not_mem_nil rfl ⟨_, rfl, rfl⟩ ?_
      refine L.callV rfl rfl rfl (fun D2 hD2 => allC_ok _ _ _ chairOk _ (Sl.at RCh.up hD2 (by assumption) (by simp)) (.of fun x D2 => chairValid_ok x D2) rfl) rfl ⟨_, rfl, rfl⟩ ?_
      refine L.not rfl rfl rfl ⟨_, rfl, rfl⟩ ?_
      refine L.pickF rfl rfl rfl rfl trivial ?_
      exact L.nil fun a w hh => hh.cutK 4 rfl
    · refine L.pass rfl rfl rfl ⟨_, _, rfl, rfl, rfl⟩ ?_
      refine L.pass rfl rfl rfl ⟨_, _, rfl, rfl, rfl⟩ ?_
      refine L.pass rfl rfl rfl ⟨_, _, rfl, rfl, rfl⟩ ?_
      refine L.pass rfl rfl rfl ⟨_, _, rfl, rfl, rfl⟩ ?_
      refine L.pickT rfl rfl rfl rfl trivial ?_
      exact L.nil fun a w hh => hh.cutK 4 rfl
    refine L.move rfl rfl rfl trivial ?_
    refine' L.or [(false,11),(false,12),(false,13),(false,14),(false,15),(false,16)] [(false,17)] (s := 33) (p := 39) rfl rfl (fun hg3 => ?_) (fun hg3 => ?_) ?_
    rotate_left
    · refine L.fieldAddr rfl Tf.f37_2 rfl rfl ⟨_, rfl, rfl⟩ ?_
      refine L.loadD1 rfl (k := 2) Tf.a35 rfl hB1 (by first | simp | assumption) rfl List.not_mem_nil rfl ⟨_, rfl, rfl⟩ ?_
      refine L.move rfl rfl rfl ⟨_, rfl, rfl⟩ ?_
      refine L.callV rfl rfl rfl (fun D3 hD3 => allR_ok _ _ _ claimOk _ (Sl.at R2.up hD3 (by assumption) (by simp)) ⟨_, [_], [], rfl, fun r D2 hl => claim_ok _ y r D2 (hy0.up ((hD3 _ (by simp)).trans hl))⟩ rfl) rfl ⟨_, rfl, rfl⟩ ?_
      refine L.not rfl rfl rfl ⟨_, rfl, rfl⟩ ?_
      refine L.pickF rfl rfl rfl rfl trivial ?_
      exact L.nil fun a w hh => hh.cutK 5 rfl
    · refine L.pass rfl rfl rfl ⟨_, _, rfl, rfl, rfl⟩ ?_
      refine L.pass rfl rfl rfl ⟨_, _, rfl, rfl, rfl⟩ ?_
      refine L.pass rfl rfl rfl ⟨_, _, rfl, rfl, rfl⟩ ?_
      refine L.pass rfl rfl rfl ⟨_, _, rfl, rfl, rfl⟩ ?_
      refine L.pass rfl rfl rfl ⟨_, _, rfl, rfl, rfl⟩ ?_
      refine L.pickT rfl rfl rfl rfl trivial ?_
      exact L.nil fun a w hh => hh.cutK 5 rfl
    refine L.assign rfl rfl rfl trivial ?_
    refine L.nil ?_
    refine C.next ?_
    refine C.cond rfl (fun hc2 => ?_) (fun hc2 => ?_)
    · refine C.seq ?_
      refine C.region [(false,0)] rfl ?_
      refine L.assign rfl rfl rfl trivial ?_
      refine L.nil ?_
      refine C.next ?_
      refine C.ret ?_
      refine C.blockRet ?_
      refine C.thenRet ?_
      exact leave (vs := [_]) rfl rfl rfl ⟨rfl, trivial⟩ (fun D hD => by show Value.int _ _ = _; rw [cy_arg hc1 hc2])
    · obtain ⟨hl7, hok⟩ := cy_ok hc1 hc2
      refine C.skip ?_
      refine C.blockEnd ?_
      refine C.next ?_
      refine C.seq ?_
      refine C.region [(false,0)] rfl ?_
      refine L.assign rfl rfl rfl trivial ?_
      refine L.nil ?_
      refine C.next ?_
      refine C.seq ?_
      refine C.seq ?_
      refine C.region [(false,0),(false,1),(false,2),(false,3)] rfl ?_
      refine L.fieldAddr rfl Tf.f37_0 rfl rfl trivial ?_
      refine L.loadD1 rfl (k := 0) Tf.a34 rfl hB1 (by first | simp | assumption) rfl List.not_mem_nil rfl trivial ?_
      refine L.len rfl Try.underlying34 rfl hc rfl rfl trivial ?_
      refine L.move rfl rfl rfl trivial ?_
      refine L.nil ?_
      refine C.next ?_
      refine C.block ?_
      refine C.loopC (γ := Nat) (fun i => y.chairs.length - i) (fun i => i ≤ y.chairs.length) (fun i => [(43, .int .i64 (i : Int)), (4, .int .i64 (unknown (y.chairs.take i) : Int))]) [(42, _), (41, _), (2, _)] (fun i => [E1, D]) 0 (by omega) ⟨(by first | rfl | (show some (Value.int _ _) = some (Value.int _ _); congr 2; omega)), (by simp [unknown]; rfl), trivial⟩ ⟨rfl, rfl, rfl, trivial⟩ (ds_same) ?_
      rintro i h1
      refine C.seq ?_
      refine C.region [(false,0)] rfl ?_
      refine L.lss rfl rfl rfl rfl trivial ?_
      refine L.nil ?_
      refine C.next ?_
      refine C.seq ?_
      refine C.condD rfl (fun hc3 => ?_) (fun hc3 => ?_)
      · have hi : i < y.chairs.length := by omega
        obtain ⟨x, hx⟩ : ∃ x, y.chairs[i]? = some x := ⟨_, List.getElem?_eq_getElem hi⟩
        have hxo := hok x (List.mem_of_getElem? hx)
        have hub := unk_le (y.chairs.take i)
        have hut : (y.chairs.take i).length ≤ i := List.length_take_le _ _
        refine C.skip ?_
        refine C.next ?_
        refine C.seq ?_
        refine C.block ?_
        refine C.seq ?_
        refine C.region [(false,0),(false,1),(false,2),(false,3)] rfl ?_
        refine L.indexS rfl Try.underlying34 Tf.s115 rfl hc rfl (by omega) hx rfl trivial (fun b1 o1 cs1 hr1 hcl1 hA1 => ?_)
        obtain rfl : cs1 = [.int .i64 _, .int .i64 _, .int .i64 _, .int .i64 _] := hr1
        refine L.loadDW rfl Tf.a115 rfl hA1 (by first | simp | assumption) Tf.s115 List.not_mem_nil rfl trivial ?_
        refine L.alloc rfl Tf.z115 rfl rfl trivial (fun q2 => ?_)
        refine L.storeW rfl rfl rfl rfl Tf.s115 (by first | rfl | (simp only [ints_length, *]; done) | (simp only [ints_length, *]; rfl) | (simp only [ints_length, *]; omega)) (by first | rfl | (simp only [ints_length, *]; done) | (simp only [ints_length, *]; rfl) | (simp only [ints_length, *]; omega)) (Has.head) (by first | exact ints_cell1 _ | simp [cell1]) trivial ?_
        refine L.nil ?_
        refine C.next ?_
        refine C.seq ?_
        refine C.region [(false,0),(false,1),(false,2)] rfl ?_
        refine L.fieldAddr rfl Tf.f115_1 rfl rfl trivial ?_
        refine L.loadBP rfl Tf.a113 Tf.s113 rfl (List.Mem.head _) rfl rfl List.not_mem_nil rfl trivial ?_
        refine L.move rfl rfl rfl trivial ?_
        refine L.nil ?_
        refine C.next ?_
        refine C.block ?_
        refine C.loopC (γ := Nat) (fun k => 3 - k) (fun k => k ≤ 3) (fun k => [(49, .int .i64 (k : Int)), (4, .int .i64 ((unknown (y.chairs.take i) + unkL (x.parts.l.take k) : Nat) : Int))]) [(48, _), (47, _), (6, _), (46, _), (45, _), (44, _), (43, _), (42, _), (41, _), (2, _)] (fun k => [E1, D]) 0 (by omega) ⟨(by first | rfl | (show some (Value.int _ _) = some (Value.int _ _); congr 2; omega)), (by simp [unkL]; rfl), trivial⟩ ⟨rfl, rfl, rfl, rfl, rfl, rfl, rfl, rfl, rfl, rfl, trivial⟩ (ds_same) ?_
        rintro k h2
        refine C.seq ?_
        refine C.region [(false,0)] rfl ?_
        refine L.lss rfl rfl rfl rfl trivial ?_
        refine L.nil ?_
        refine C.next ?_
        refine C.seq ?_
        refine C.condD rfl (fun hc4 => ?_) (fun hc4 => ?_)
        · have hk3 : k < 3 := by omega
          obtain ⟨n, hn⟩ : ∃ n, x.parts.l[k]? = some n := ⟨_, List.getElem?_eq_getElem (by simp [Pt.l]; omega)⟩
          have hn2 := part_le hxo hn
          have hkl := unkL_le (x.parts.l.take k)
          have hkt : (x.parts.l.take k).length ≤ k := List.length_take_le _ _
          refine C.skip ?_
          refine C.next ?_
          refine C.seq ?_
          refine C.block ?_
          refine C.seq ?_
          refine C.region [(false,0),(false,1)] rfl ?_
          refine L.indexV (l := x.parts.l) rfl Try.underlying113 Tf.a3 Tf.s3 rfl rfl (by omega) (by omega) hn rfl trivial ?_
          refine L.assign rfl rfl rfl trivial ?_
          refine L.nil ?_
          refine C.next ?_
          refine C.region [(false,0),(false,1),(false,2),(false,3),(false,4)] rfl ?_
          refine L.move rfl rfl rfl trivial ?_
          refine L.move rfl rfl rfl trivial ?_
          refine L.quo rfl rfl rfl (by omega) (by omega) (by simp only [inK]; omega) rfl trivial ?_
          refine L.add rfl rfl rfl (by simp only [inK]; omega) rfl trivial ?_
          refine L.assign rfl rfl rfl trivial ?_
          refine L.nil ?_
          refine C.blockEnd ?_
          refine C.next ?_
          refine C.region [(false,0),(false,1)] rfl ?_
          refine L.add rfl rfl rfl (by simp only [inK]; omega) rfl trivial ?_
          refine L.move rfl rfl rfl trivial ?_
          refine L.nil ?_
          exact C.againR 12 (k + 1) (by omega) (by omega) ⟨(by first | rfl | (show some (Value.int _ _) = some (Value.int _ _); congr 2; omega)), (by rw [unkL_step hn hn2]; rfl), trivial⟩ rfl rfl (List.Sublist.refl _) (ds_same)
        · obtain rfl : k = 3 := by omega
          refine C.exit ?_
          refine C.thenExit ?_
          refine C.thenExit ?_
          refine C.blockExit ?_
          refine C.blockEnd ?_
          refine C.next ?_
          refine C.region [(false,0),(false,1)] rfl ?_
          refine L.add rfl rfl rfl (by simp only [inK]; omega) rfl trivial ?_
          refine L.move rfl rfl rfl trivial ?_
          refine L.nil ?_
          exact C.againR 12 (i + 1) (by omega) (by omega) ⟨(by first | rfl | (show some (Value.int _ _) = some (Value.int _ _); congr 2; omega)), (by rw [unk_snoc hx]; rfl), trivial⟩ rfl rfl (List.Sublist.cons _ (List.Sublist.refl _)) (ds_same)
      · obtain rfl : i = y.chairs.length := by omega
        rw [List.take_length]
        refine C.exit ?_
        refine C.thenExit ?_
        refine C.thenExit ?_
        refine C.blockExit ?_
        refine C.next ?_
        refine C.seq ?_
        refine C.seq ?_
        refine C.region [(false,0),(false,1)] rfl ?_
        refine L.move rfl rfl rfl trivial ?_
        refine L.gtr rfl rfl rfl rfl trivial ?_
        refine L.nil ?_
        refine C.next ?_
        refine C.condD rfl (fun hc5 => ?_) (fun hc5 => ?_)
        · refine C.seq ?_
          refine C.region [(false,0)] rfl ?_
          refine L.assign rfl rfl rfl trivial ?_
          refine L.nil ?_
          refine C.next ?_
          refine C.ret ?_
          refine C.thenRet ?_
          exact leave (vs := [_]) rfl rfl rfl ⟨rfl, trivial⟩ (fun D hD => by show Value.int _ _ = _; rw [cy_many hc1 hc2 hc5])
        · refine C.skip ?_
          refine C.next ?_
          refine C.seq ?_
          refine C.region [(false,0)] rfl ?_
          refine L.assign rfl rfl rfl trivial ?_
          refine L.nil ?_
          refine C.next ?_
          refine C.ret ?_
          exact leave (vs := [_]) rfl rfl rfl ⟨rfl, trivial⟩ (fun D hD => by show Value.int _ _ = _; rw [cy_fine hc1 hc2 hc5])
theorem is_ok (yv tv : Value) (y : YardD) (t : List Pt) (D : Data) (hy : YardIs D yv y) (ht : Sl D RP 3 tv t) : Fn Try.prog 98 #[yv, tv] D (fun _ v => v = .bool (isTruth y t)) := by
  obtain ⟨cv, qv, rfl, hc, hq⟩ := hy
  have hl := ht.len
  refine enter 53 Try.func98 rfl rfl rfl rfl fun h0 => ?_
  refine C.seq ?_
  refine C.region [(false,0),(false,1)] rfl ?_
  refine L.boxD rfl rfl rfl rfl trivial (fun q1 E1 hE1 hB1 => ?_)
  refine L.assign rfl rfl rfl trivial ?_
  refine L.nil ?_
  refine C.next ?_
  refine C.seq ?_
  refine C.seq ?_
  refine C.region [(false,0),(false,1),(false,2),(false,3),(false,4),(false,5)] rfl ?_
  refine L.move rfl rfl rfl trivial ?_
  refine L.len rfl Try.underlying39 rfl ht rfl rfl trivial ?_
  refine L.fieldAddr rfl Tf.f37_0 rfl rfl trivial ?_
  refine L.loadD1 rfl (k := 0) Tf.a34 rfl hB1 (by first | simp | assumption) rfl List.not_mem_nil rfl trivial ?_
  refine L.len rfl Try.underlying34 rfl hc rfl rfl trivial ?_
  refine L.neq rfl rfl rfl rfl trivial ?_
  refine L.nil ?_
  refine C.next ?_
  refine C.condD rfl (fun hc1 => ?_) (fun hc1 => ?_)
  · refine C.seq ?_
    refine C.region [(false,0)] rfl ?_
    refine L.assign rfl rfl rfl trivial ?_
    refine L.nil ?_
    refine C.next ?_
    refine C.ret ?_
    refine C.thenRet ?_
    exact leave (vs := [_]) rfl rfl rfl ⟨rfl, trivial⟩ (fun D hD => by show Value.bool _ = _; rw [ist_len (by omega)])
  · have hlen : t.length = y.chairs.length := by omega
    refine C.skip ?_
    refine C.next ?_
    refine C.seq ?_
    refine C.seq ?_
    refine C.region [(false,0),(false,1),(false,2),(false,3)] rfl ?_
    refine L.fieldAddr rfl Tf.f37_0 rfl rfl trivial ?_
    refine L.loadD1 rfl (k := 0) Tf.a34 rfl hB1 (by first | simp | assumption) rfl List.not_mem_nil rfl trivial ?_
    refine L.len rfl Try.underlying34 rfl hc rfl rfl trivial ?_
    refine L.move rfl rfl rfl trivial ?_
    refine L.nil ?_
    refine C.next ?_
    refine C.block ?_
    refine C.loopC (γ := Nat) (fun i => y.chairs.length - i) (fun i => i ≤ y.chairs.length ∧ ((y.chairs.zip t).take i).all (fun x => ptsIs x.1.parts x.2) = true) (fun i => [(18, .int .i64 (i : Int))]) [(17, _), (16, _), (4, _), (1, _)] (fun i => [E1, D]) 0 (by simp) ⟨(by first | rfl | (show some (Value.int _ _) = some (Value.int _ _); congr 2; omega)), trivial⟩ ⟨rfl, rfl, rfl, rfl, trivial⟩ (ds_same) ?_
    rintro i ⟨h1, h2⟩
    refine C.seq ?_
    refine C.region [(false,0)] rfl ?_
    refine L.lss rfl rfl rfl rfl trivial ?_
    refine L.nil ?_
    refine C.next ?_
    refine C.seq ?_
    refine C.condD rfl (fun hc2 => ?_) (fun hc2 => ?_)
    · have hi : i < y.chairs.length := by omega
      obtain ⟨x, hx⟩ : ∃ x, y.chairs[i]? = some x := ⟨_, List.getElem?_eq_getElem hi⟩
      obtain ⟨z, hz⟩ : ∃ z, t[i]? = some z := ⟨_, List.getElem?_eq_getElem (by omega)⟩
      refine C.skip ?_
      refine C.next ?_
      refine C.seq ?_
      refine C.block ?_
      refine C.seq ?_
      refine C.region [(false,0),(false,1),(false,2),(false,3),(false,4),(false,5)] rfl ?_
      refine L.move rfl rfl rfl trivial ?_
      refine L.indexS rfl Try.underlying34 Tf.s115 rfl hc rfl (by omega) hx rfl trivial (fun b1 o1 cs1 hr1 hcl1 hA1 => ?_)
      obtain rfl : cs1 = [.int .i64 _, .int .i64 _, .int .i64 _, .int .i64 _] := hr1
      refine L.loadDW rfl Tf.a115 rfl hA1 (by first | simp | assumption) Tf.s115 List.not_mem_nil rfl trivial ?_
      refine L.alloc rfl Tf.z115 rfl rfl trivial (fun q2 => ?_)
      refine L.assign rfl rfl rfl trivial ?_
      refine L.storeW rfl rfl rfl rfl Tf.s115 (by first | rfl | (simp only [ints_length, *]; done) | (simp only [ints_length, *]; rfl) | (simp only [ints_length, *]; omega)) (by first | rfl | (simp only [ints_length, *]; done) | (simp only [ints_length, *]; rfl) | (simp only [ints_length, *]; omega)) (Has.head) (by first | exact ints_cell1 _ | simp [cell1]) trivial ?_
      refine L.nil ?_
      refine C.next ?_
      refine C.seq ?_
      refine C.region [(false,0),(false,1),(false,2)] rfl ?_
      refine L.fieldAddr rfl Tf.f115_1 rfl rfl trivial ?_
      refine L.loadBP rfl Tf.a113 Tf.s113 rfl (List.Mem.head _) rfl rfl List.not_mem_nil rfl trivial ?_
      refine L.move rfl rfl rfl trivial ?_
      refine L.nil ?_
      refine C.next ?_
      refine C.block ?_
      refine C.loopC (γ := Nat) (fun k => 3 - k) (fun k => k ≤ 3 ∧ ((x.parts.l.zip z.l).take k).all (fun q => partIs q.1 q.2) = true) (fun k => [(25, .int .i64 (k : Int))]) [(24, _), (23, _), (5, _), (6, _), (22, _), (21, _), (20, _), (19, _), (18, _), (17, _), (16, _), (4, _), (1, _)] (fun k => [E1, D]) 0 (by simp) ⟨(by first | rfl | (show some (Value.int _ _) = some (Value.int _ _); congr 2; omega)), trivial⟩ ⟨rfl, rfl, rfl, rfl, rfl, rfl, rfl, rfl, rfl, rfl, rfl, rfl, rfl, trivial⟩ (ds_same) ?_
      rintro k ⟨h3, h4⟩
      refine C.seq ?_
      refine C.region [(false,0)] rfl ?_
      refine L.lss rfl rfl rfl rfl trivial ?_
      refine L.nil ?_
      refine C.next ?_
      refine C.seq ?_
      refine C.condD rfl (fun hc3 => ?_) (fun hc3 => ?_)
      · have hk3 : k < 3 := by omega
        obtain ⟨n, hn⟩ : ∃ n, x.parts.l[k]? = some n := ⟨_, List.getElem?_eq_getElem (by simp [Pt.l]; omega)⟩
        obtain ⟨m, hm⟩ : ∃ m, z.l[k]? = some m := ⟨_, List.getElem?_eq_getElem (by simp [Pt.l]; omega)⟩
        refine C.skip ?_
        refine C.next ?_
        refine C.seq ?_
        refine C.block ?_
        refine C.seq ?_
        refine C.region [(false,0),(false,1),(false,2),(false,3)] rfl ?_
        refine L.move rfl rfl rfl trivial ?_
        refine L.indexV (l := x.parts.l) rfl Try.underlying113 Tf.a3 Tf.s3 rfl rfl (by omega) (by omega) hn rfl trivial ?_
        refine L.assign rfl rfl rfl trivial ?_
        refine L.assign rfl rfl rfl trivial ?_
        refine L.nil ?_
        refine C.next ?_
        refine C.seq ?_
        refine C.region [(false,0),(false,1),(false,2),(false,3),(false,4),(false,5),(false,6),(false,7),(false,8),(false,9),(false,10),(false,11),(false,12),(false,13),(false,14),(false,15),(false,16),(false,17),(false,18),(false,19),(false,20),(false,21)] rfl ?_
        refine L.move rfl rfl rfl trivial ?_
        refine L.move rfl rfl rfl trivial ?_
        refine L.move rfl rfl rfl trivial ?_
        refine L.indexS rfl Try.underlying39 Tf.s113 rfl ht rfl (by omega) hz rfl trivial (fun b2 o2 cs2 hr2 hcl2 hA2 => ?_)
        obtain rfl : cs2 = [.int .i64 _, .int .i64 _, .int .i64 _] := hr2
        refine L.indexA rfl Try.underlying113 Tf.s3 rfl rfl (by omega) (by omega) rfl trivial ?_
        refine L.loadD1 (k := k * 1) rfl Tf.a3 rfl hA2 (by simp) (pt_get hm) List.not_mem_nil rfl trivial ?_
        refine L.callV rfl rfl rfl (fun D1 hD1 => within_ok _ _ _ _) rfl trivial ?_
        refine L.not rfl rfl rfl trivial ?_
        refine L.move rfl rfl rfl trivial ?_
        refine' L.or [(false,9),(false,10),(false,11),(false,12),(false,13),(false,14),(false,15),(false,16),(false,17),(false,18),(false,19),(false,20),(false,21)] [] (s := 37) (p := 50) rfl rfl (fun hg1 => ?_) (fun hg1 => ?_) ?_
        rotate_left
        · refine L.move rfl rfl rfl ⟨_, rfl, rfl⟩ ?_
          refine L.neq rfl rfl rfl rfl ⟨_, rfl, rfl⟩ ?_
          refine L.move rfl rfl rfl ⟨_, rfl, rfl⟩ ?_
          refine' L.and [(false,12),(false,13),(false,14),(false,15),(false,16),(false,17),(false,18),(false,19),(false,20)] [(false,21)] (s := 40) (p := 49) rfl rfl (fun hg2 => ?_) (fun hg2 => ?_) ?_
          rotate_left
          · refine L.move rfl rfl rfl ⟨_, rfl, rfl⟩ ?_
            refine L.move rfl rfl rfl ⟨_, rfl, rfl⟩ ?_
            refine L.move rfl rfl rfl ⟨_, rfl, rfl⟩ ?_
            refine L.indexS rfl Try.underlying39 Tf.s113 rfl ht rfl (by omega) hz rfl ⟨_, rfl, rfl⟩ (fun b3 o3 cs3 hr3 hcl3 hA3 => ?_)
            obtain rfl : cs3 = [.int .i64 _, .int .i64 _, .int .i64 _] := hr3
            refine L.indexA rfl Try.underlying113 Tf.s3 rfl rfl (by omega) (by omega) rfl ⟨_, rfl, rfl⟩ ?_
            refine L.loadD1 (k := k * 1) rfl Tf.a3 rfl hA3 (by simp) (pt_get hm) List.not_mem_nil rfl ⟨_, rfl, rfl⟩ ?_
            refine L.move rfl rfl rfl ⟨_, rfl, rfl⟩ ?_
            refine L.neq rfl rfl rfl rfl ⟨_, rfl, rfl⟩ ?_
            refine L.pickT rfl rfl rfl rfl ⟨_, rfl, rfl⟩ ?_
            exact L.nil fun a w hh => hh.cutK 8 rfl
          · refine L.pass rfl rfl rfl ⟨_, _, rfl, rfl, rfl⟩ ?_
            refine L.pass rfl rfl rfl ⟨_, _, rfl, rfl, rfl⟩ ?_
            refine L.pass rfl rfl rfl ⟨_, _, rfl, rfl, rfl⟩ ?_
            refine L.pass rfl rfl rfl ⟨_, _, rfl, rfl, rfl⟩ ?_
            refine L.pass rfl rfl rfl ⟨_, _, rfl, rfl, rfl⟩ ?_
            refine L.pass rfl rfl rfl ⟨_, _, rfl, rfl, rfl⟩ ?_
            refine L.pass rfl rfl rfl ⟨_, _, rfl, rfl, rfl⟩ ?_
            refine L.pass rfl rfl rfl ⟨_, _, rfl, rfl, rfl⟩ ?_
            refine L.pickF rfl rfl rfl rfl ⟨_, rfl, rfl⟩ ?_
            exact L.nil fun a w hh => hh.cutK 8 rfl
          refine L.pickF rfl rfl rfl rfl trivial ?_
          exact L.nil fun a w hh => hh.cutK 4 rfl
        · refine L.pass rfl rfl rfl ⟨_, _, rfl, rfl, rfl⟩ ?_
          refine L.pass rfl rfl rfl ⟨_, _, rfl, rfl, rfl⟩ ?_
          refine L.pass rfl rfl rfl ⟨_, _, rfl, rfl, rfl⟩ ?_
          refine L.pass rfl rfl rfl ⟨_, _, rfl, rfl, rfl⟩ ?_
          refine L.pass rfl rfl rfl ⟨_, _, rfl, rfl, rfl⟩ ?_
          refine L.pass rfl rfl rfl ⟨_, _, rfl, rfl, rfl⟩ ?_
          refine L.pass rfl rfl rfl ⟨_, _, rfl, rfl, rfl⟩ ?_
          refine L.pass rfl rfl rfl ⟨_, _, rfl, rfl, rfl⟩ ?_
          refine L.pass rfl rfl rfl ⟨_, _, rfl, rfl, rfl⟩ ?_
          refine L.pass rfl rfl rfl ⟨_, _, rfl, rfl, rfl⟩ ?_
          refine L.pass rfl rfl rfl ⟨_, _, rfl, rfl, rfl⟩ ?_
          refine L.pass rfl rfl rfl ⟨_, _, rfl, rfl, rfl⟩ ?_
          refine L.pickT rfl rfl rfl rfl trivial ?_
          exact L.nil fun a w hh => hh.cutK 12 rfl
        refine L.nil ?_
        refine C.next ?_
        refine C.cond rfl (fun hc4 => ?_) (fun hc4 => ?_)
        · refine C.seq ?_
          refine C.region [(false,0)] rfl ?_
          refine L.assign rfl rfl rfl trivial ?_
          refine L.nil ?_
          refine C.next ?_
          refine C.ret ?_
          refine C.blockRet ?_
          refine C.thenRet ?_
          refine C.thenRet ?_
          refine C.blockRet ?_
          refine C.blockRet ?_
          refine C.thenRet ?_
          refine C.thenRet ?_
          refine C.blockRet ?_
          refine C.thenRet ?_
          exact leave (vs := [_]) rfl rfl rfl ⟨rfl, trivial⟩ (fun D hD => by show Value.bool _ = _; rw [ist_no hx hz hn hm hc4])
        · refine C.skip ?_
          refine C.blockEnd ?_
          refine C.next ?_
          refine C.region [(false,0),(false,1)] rfl ?_
          refine L.add rfl rfl rfl (by simp only [inK]; omega) rfl trivial ?_
          refine L.move rfl rfl rfl trivial ?_
          refine L.nil ?_
          exact C.againR 18 (k + 1) ⟨by omega, isp_step hn hm h4 hc4⟩ (by omega) ⟨(by first | rfl | (show some (Value.int _ _) = some (Value.int _ _); congr 2; omega)), trivial⟩ rfl rfl (List.Sublist.refl _) (ds_same)
      · obtain rfl : k = 3 := by omega
        refine C.exit ?_
        refine C.thenExit ?_
        refine C.thenExit ?_
        refine C.blockExit ?_
        refine C.blockEnd ?_
        refine C.next ?_
        refine C.region [(false,0),(false,1)] rfl ?_
        refine L.add rfl rfl rfl (by simp only [inK]; omega) rfl trivial ?_
        refine L.move rfl rfl rfl trivial ?_
        refine L.nil ?_
        exact C.againR 13 (i + 1) ⟨by omega, ist_step hx hz h2 h4⟩ (by omega) ⟨(by first | rfl | (show some (Value.int _ _) = some (Value.int _ _); congr 2; omega)), trivial⟩ rfl rfl (List.Sublist.cons _ (List.Sublist.refl _)) (ds_same)
    · obtain rfl : i = y.chairs.length := by omega
      refine C.exit ?_
      refine C.thenExit ?_
      refine C.thenExit ?_
      refine C.blockExit ?_
      refine C.next ?_
      refine C.seq ?_
      refine C.region [(false,0)] rfl ?_
      refine L.assign rfl rfl rfl trivial ?_
      refine L.nil ?_
      refine C.next ?_
      refine C.ret ?_
      exact leave (vs := [_]) rfl rfl rfl ⟨rfl, trivial⟩ (fun D hD => by show Value.bool _ = _; rw [ist_yes hlen h2])
end Go.Fs
namespace Go.Fs
open Go.Proofs
open C7
def Bits1 (p : Pt) : Prop := (0 ≤ p.a ∧ p.a ≤ 1) ∧ (0 ≤ p.b ∧ p.b ≤ 1) ∧ (0 ≤ p.c ∧ p.c ≤ 1)
def joins (p q : Pt) : Bool := (!isWhole p && !isWhole q) && isWhole ⟨max p.a q.a, max p.b q.b, max p.c q.c⟩
def nearC (f : Int) (x z : Ch) : Bool := inB (x.size - z.size) (-f) f
theorem joins_comm (p q : Pt) : joins p q = joins q p := by
  unfold joins; rw [Int.max_comm p.a, Int.max_comm p.b, Int.max_comm p.c, Bool.and_comm (!isWhole p)]
theorem near_comm (f : Int) (x z : Ch) : nearC f x z = nearC f z x := by
  unfold nearC inB; rw [Bool.eq_iff_iff]; simp only [Bool.and_eq_true, decide_eq_true_eq]; omega
theorem joins_ok (p q : Pt) (D : Data) (hp : Bits1 p) (hq : Bits1 q) : Fn Try.prog 109 #[ptV p, ptV q] D (fun _ v => v = .bool (joins p q)) := by
  refine enter 32 Try.func109 rfl rfl rfl rfl fun h0 => ?_
  refine C.seq ?_
  refine C.region [(false,0),(false,1),(false,2)] rfl ?_
  refine L.boxD rfl rfl rfl rfl trivial (fun q1 E1 hE1 hB1 => ?_)
  refine L.boxD rfl rfl rfl rfl trivial (fun q2 E2 hE2 hB2 => ?_)
  refine L.assign rfl rfl rfl trivial ?_
  refine L.nil ?_
  refine C.next ?_
  refine C.seq ?_
  refine C.region [(false,0),(false,1),(false,2),(false,3),(false,4),(false,5),(false,6),(false,7),(false,8),(false,9),(false,10),(false,11),(false,12),(false,13),(false,14),(false,15),(false,16),(false,17),(false,18),(false,19),(false,20),(false,21),(false,22),(false,23),(false,24),(false,25),(false,26),(false,27)] rfl ?_
  refine L.loadDW rfl Tf.a113 rfl hB1 (by first | simp | assumption) (by first | exact Tf.s113 | (simp only [ints_length, *]; exact Tf.s113)) List.not_mem_nil rfl trivial ?_
  refine L.callV rfl rfl rfl (fun D1 hD1 => whole_ok p _) rfl trivial ?_
  refine L.not rfl rfl rfl trivial ?_
  refine L.move rfl rfl rfl trivial ?_
  refine' L.and [(false,4),(false,5),(false,6),(false,7)] [(false,8),(false,9),(false,10),(false,11),(false,12),(false,13),(false,14),(false,15),(false,16),(false,17),(false,18),(false,19),(false,20),(false,21),(false,22),(false,23),(false,24),(false,25),(false,26),(false,27)] (s := 8) (p := 12) rfl rfl (fun hg1 => ?_) (fun hg1 => ?_) ?_
  rotate_left
  · refine L.loadDW rfl Tf.a113 rfl hB2 (by first | simp | assumption) (by first | exact Tf.s113 | (simp only [ints_length, *]; exact Tf.s113)) List.not_mem_nil rfl ⟨_, rfl, rfl⟩ ?_
    refine L.callV rfl rfl rfl (fun D2 hD2 => whole_ok q _) rfl ⟨_, rfl, rfl⟩ ?_
    refine L.not rfl rfl rfl ⟨_, rfl, rfl⟩ ?_
    refine L.pickT rfl rfl rfl rfl trivial ?_
    exact L.nil fun a w hh => hh.cutK 3 rfl
  · refine L.pass rfl rfl rfl ⟨_, _, rfl, rfl, rfl⟩ ?_
    refine L.pass rfl rfl rfl ⟨_, _, rfl, rfl, rfl⟩ ?_
    refine L.pass rfl rfl rfl ⟨_, _, rfl, rfl, rfl⟩ ?_
    refine L.pickF rfl rfl rfl rfl trivial ?_
    exact L.nil fun a w hh => hh.cutK 3 rfl
  refine L.move rfl rfl rfl trivial ?_
  refine' L.and [(false,9),(false,10),(false,11),(false,12),(false,13),(false,14),(false,15),(false,16),(false,17),(false,18),(false,19),(false,20),(false,21),(false,22),(false,23),(false,24),(false,25),(false,26)] [(false,27)] (s := 13) (p := 31) rfl rfl (fun hg2 => ?_) (fun hg2 => ?_) ?_
  rotate_left
  · refine L.indexB rfl Try.underlying113 Tf.s3 rfl rfl (by decide) (by decide) rfl ⟨_, rfl, rfl⟩ ?_
    refine L.loadDI rfl Tf.a3 rfl hB1 (by simp) rfl List.not_mem_nil rfl ⟨_, rfl, rfl⟩ ?_
    refine L.indexB rfl Try.underlying113 Tf.s3 rfl rfl (by decide) (by decide) rfl ⟨_, rfl, rfl⟩ ?_
    refine L.loadDI rfl Tf.a3 rfl hB2 (by simp) rfl List.not_mem_nil rfl ⟨_, rfl, rfl⟩ ?_
    refine L.or01 rfl rfl rfl hp.1 hq.1 rfl ⟨_, rfl, rfl⟩ ?_
    refine L.indexB rfl Try.underlying113 Tf.s3 rfl rfl (by decide) (by decide) rfl ⟨_, rfl, rfl⟩ ?_
    refine L.loadDI rfl Tf.a3 rfl hB1 (by simp) rfl List.not_mem_nil rfl ⟨_, rfl, rfl⟩ ?_
    refine L.indexB rfl Try.underlying113 Tf.s3 rfl rfl (by decide) (by decide) rfl ⟨_, rfl, rfl⟩ ?_
    refine L.loadDI rfl Tf.a3 rfl hB2 (by simp) rfl List.not_mem_nil rfl ⟨_, rfl, rfl⟩ ?_
    refine L.or01 rfl rfl rfl hp.2.1 hq.2.1 rfl ⟨_, rfl, rfl⟩ ?_
    refine L.indexB rfl Try.underlying113 Tf.s3 rfl rfl (by decide) (by decide) rfl ⟨_, rfl, rfl⟩ ?_
    refine L.loadDI rfl Tf.a3 rfl hB1 (by simp) rfl List.not_mem_nil rfl ⟨_, rfl, rfl⟩ ?_
    refine L.indexB rfl Try.underlying113 Tf.s3 rfl rfl (by decide) (by decide) rfl ⟨_, rfl, rfl⟩ ?_
    refine L.loadDI rfl Tf.a3 rfl hB2 (by simp) rfl List.not_mem_nil rfl ⟨_, rfl, rfl⟩ ?_
    refine L.or01 rfl rfl rfl hp.2.2 hq.2.2 rfl ⟨_, rfl, rfl⟩ ?_
    refine L.buildA (cs := [.int .i64 (max p.a q.a), .int .i64 (max p.b q.b), .int .i64 (max p.c q.c)]) rfl Try.underlying113 Tf.s3 Tf.z113 rfl rfl rfl ⟨_, rfl, rfl⟩ ?_
    refine L.callV rfl rfl rfl (fun D3 hD3 => whole_ok ⟨max p.a q.a, max p.b q.b, max p.c q.c⟩ _) rfl ⟨_, rfl, rfl⟩ ?_
    refine L.pickT rfl rfl rfl rfl trivial ?_
    exact L.nil fun a w hh => hh.cutK 17 rfl
  · refine L.pass rfl rfl rfl ⟨_, _, rfl, rfl, rfl⟩ ?_
    refine L.pass rfl rfl rfl ⟨_, _, rfl, rfl, rfl⟩ ?_
    refine L.pass rfl rfl rfl ⟨_, _, rfl, rfl, rfl⟩ ?_
    refine L.pass rfl rfl rfl ⟨_, _, rfl, rfl, rfl⟩ ?_
    refine L.pass rfl rfl rfl ⟨_, _, rfl, rfl, rfl⟩ ?_
    refine L.pass rfl rfl rfl ⟨_, _, rfl, rfl, rfl⟩ ?_
    refine L.pass rfl rfl rfl ⟨_, _, rfl, rfl, rfl⟩ ?_
    refine L.pass rfl rfl rfl ⟨_, _, rfl, rfl, rfl⟩ ?_
    refine L.pass rfl rfl rfl ⟨_, _, rfl, rfl, rfl⟩ ?_
    refine L.pass rfl rfl rfl ⟨_, _, rfl, rfl, rfl⟩ ?_
    refine L.pass rfl rfl rfl ⟨_, _, rfl, rfl, rfl⟩ ?_
    refine L.pass rfl rfl rfl ⟨_, _, rfl, rfl, rfl⟩ ?_
    refine L.pass rfl rfl rfl ⟨_, _, rfl, rfl, rfl⟩ ?_
    refine L.pass rfl rfl rfl ⟨_, _, rfl, rfl, rfl⟩ ?_
    refine L.pass rfl rfl rfl ⟨_, _, rfl, rfl, rfl⟩ ?_
    refine L.pass rfl rfl rfl ⟨_, _, rfl, rfl, rfl⟩ ?_
    refine L.pass rfl rfl rfl ⟨_, _, rfl, rfl, rfl⟩ ?_
    refine L.pickF rfl rfl rfl rfl trivial ?_
    exact L.nil fun a w hh => hh.cutK 17 rfl
  refine L.assign rfl rfl rfl trivial ?_
  refine L.nil ?_
  refine C.next ?_
  refine C.ret ?_
  exact leave (vs := [_]) rfl rfl rfl ⟨rfl, trivial⟩ (fun D hD => rfl)
theorem near_ok (yv : Value) (y : YardD) (a b : Nat) (x z : Ch) (D : Data) (hy : YardIs D yv y) (hf : 0 ≤ y.fit ∧ y.fit ≤ 9) (hx : y.chairs[a]? = some x) (hz : y.chairs[b]? = some z) (hxs : 0 ≤ x.size ∧ x.size ≤ 9) (hzs : 0 ≤ z.size ∧ z.size ≤ 9) : Fn Try.prog 92 #[yv, .int .i64 (a : Int), .int .i64 (b : Int)] D (fun _ v => v = .bool (nearC y.fit x z)) := by
  obtain ⟨cv, qv, rfl, hc, hq⟩ := hy
  refine enter 26 Try.func92 rfl rfl rfl rfl fun h0 => ?_
  refine C.seq ?_
  refine C.region [(false,0),(false,1)] rfl ?_
  refine L.boxD rfl rfl rfl rfl trivial (fun q1 E1 hE1 hB1 => ?_)
  refine L.assign rfl rfl rfl trivial ?_
  refine L.nil ?_
  refine C.next ?_
  refine C.seq ?_
  refine C.draw [] 6 [0,1,2,3,4,5,6,7,8,9,10,11,12,13,14,15,16,17,18,19] [false,false,true,false,false,false,true,true,true,true,true,true,false,true,true,true,true,true,false,false] [(false,0),(false,1),(true,2),(false,3),(false,4),(false,5),(true,6),(true,7),(true,8),(true,9),(true,10),(true,11),(false,12),(true,13),(true,14),(true,15),(true,16),(true,17),(false,18),(false,19)] Tf.follows (fun _ _ _ h => np_body (P := Try.prog) (fn := Try.f92) _ _ _ h) (by kernel_rfl) rfl ?_
  refine L.fieldAddr rfl Tf.f37_0 rfl rfl trivial ?_
  refine L.loadD1 rfl (k := 0) Tf.a34 rfl hB1 (by first | simp | assumption) rfl List.not_mem_nil rfl trivial ?_
  refine L.move rfl rfl rfl trivial ?_
  refine L.indexS rfl Try.underlying34 Tf.s115 rfl hc rfl (by omega) hx rfl trivial (fun b1 o1 cs1 hr1 hcl1 hA1 => ?_)
  obtain rfl : cs1 = [.int .i64 _, .int .i64 _, .int .i64 _, .int .i64 _] := hr1
  refine L.fieldAddr rfl Tf.f115_0 rfl rfl trivial ?_
  refine L.loadD1 rfl (k := 0) Tf.a3 rfl hA1 (by first | simp | assumption) rfl List.not_mem_nil rfl trivial ?_
  refine L.fieldAddr rfl Tf.f37_0 rfl rfl trivial ?_
  refine L.loadD1 rfl (k := 0) Tf.a34 rfl hB1 (by first | simp | assumption) rfl List.not_mem_nil rfl trivial ?_
  refine L.move rfl rfl rfl trivial ?_
  refine L.indexS rfl Try.underlying34 Tf.s115 rfl hc rfl (by omega) hz rfl trivial (fun b2 o2 cs2 hr2 hcl2 hA2 => ?_)
  obtain rfl : cs2 = [.int .i64 _, .int .i64 _, .int .i64 _, .int .i64 _] := hr2
  refine L.fieldAddr rfl Tf.f115_0 rfl rfl trivial ?_
  refine L.loadD1 rfl (k := 0) Tf.a3 rfl hA2 (by first | simp | assumption) rfl List.not_mem_nil rfl trivial ?_
  refine L.sub rfl rfl rfl (by simp only [inK]; omega) rfl trivial ?_
  refine L.fieldAddr rfl Tf.f37_1 rfl rfl trivial ?_
  refine L.loadD1 rfl (k := 1) Tf.a3 rfl hB1 (by first | simp | assumption) rfl List.not_mem_nil rfl trivial ?_
  refine L.neg rfl rfl (by simp only [inK]; omega) rfl trivial ?_
  refine L.fieldAddr rfl Tf.f37_1 rfl rfl trivial ?_
  refine L.loadD1 rfl (k := 1) Tf.a3 rfl hB1 (by first | simp | assumption) rfl List.not_mem_nil rfl trivial ?_
  refine L.callV rfl rfl rfl (fun D1 hD1 => within_ok _ _ _ _) rfl trivial ?_
  refine L.assign rfl rfl rfl trivial ?_
  refine L.nil ?_
  refine C.next ?_
  refine C.ret ?_
  exact leave (vs := [_]) rfl rfl rfl ⟨rfl, trivial⟩ (fun D hD => rfl)
end Go.Fs
