/- From a function's contract to the statement: the arguments read as data; what is left behind is as it was. -/
import Derived.Test.YtjhdcelmgfajbaaKeys
import Derived.ProofKit
import Derived.OpenShut
import Derived.WideKeyArgs
import Derived.JoinedCond
namespace Go.Fs
open Go.ChangeShapes Go.WideShapes Go.RowKit

/-- All cells of all blocks. -/
def full (W : World) : Data := fun b => match W.heap[b]? with
  | some (.cells cs _ _) => cs.toList
  | _ => []
theorem full_agrees (W : World) : Agrees (full W) W := by
  intro b hb
  unfold full at hb ⊢
  split at hb
  · rename_i cs e fz h
    exact ⟨cs, e, fz, h, List.prefix_refl _⟩
  · exact absurd rfl hb
theorem full_cell {W : World} {b i : Nat} {v : Value} (h : W.cell? ⟨b, i, none⟩ = some v) : (full W b)[i]? = some v := by
  unfold World.cell? at h
  unfold full
  split at h
  · rename_i cs e fz hb
    simp only at hb
    rw [hb]
    simpa using h
  · cases h

/-- Everything is as it was; what is new is not kept from being written. -/
structure Kept (W W' : World) : Prop where
  env : wenv W' = wenv W
  size : W.heap.size ≤ W'.heap.size
  old : ∀ b, b < W.heap.size → W'.heap[b]? = W.heap[b]?
  fz : ∀ b o, W.heap.size ≤ b → W'.heap[b]? = some o → unfrozen o

theorem Kept.but {W W' : World} (h : Kept W W') (may : MemPlace → Prop) : W.keptBut W' may := by
  refine ⟨congrArg Prod.fst h.env, congrArg Prod.snd h.env, fun i hi => ?_⟩
  rw [h.old i hi]
  cases W.heap[i]? with
  | none => rfl
  | some o => cases o <;> first | exact ⟨rfl, rfl, rfl, fun _ _ => rfl⟩ | exact Or.inr ⟨rfl, rfl⟩ | rfl

theorem Kept.frozen {W W' : World} (h : Kept W W') (a : Addr) : W'.frozen? a = W.frozen? a := by
  unfold World.frozen?
  rcases Nat.lt_or_ge a.block W.heap.size with hl | hl
  · rw [h.old _ hl]
  · have hn : W.heap[a.block]? = none := Array.getElem?_eq_none hl
    rw [hn]
    cases ho : W'.heap[a.block]? with
    | none => rfl
    | some o =>
      have := h.fz _ o hl ho
      cases o with
      | cells cs e z =>
        simp only [unfrozen] at this
        subst this
        simp
      | _ => rfl

theorem Kept.same {W W' : World} (h : Kept W W') {p : MemPlace} (hp : p.block < W.heap.size) : W.sameAt W' p := by
  cases p with
  | cell b off =>
    simp only [World.sameAt, World.cell?]
    rw [h.old b hp]
  | map b => exact h.old b hp

theorem Fn.calls {P : Program} {f : FuncId} {args : Array Value} {D : Data} {post : Data → Value → Prop} (h : Fn P f args D post) {W : World} (hD : Agrees D W) :
    Calls P f args W fun e W' => ∃ v D', e = .returned v ∧ post D' v ∧ Kept W W' :=
  (h.2 W hD).mono (by
    rintro e W' ⟨v, D', he, hs, hp⟩
    exact ⟨v, D', he, hp, hs.env _ rfl, hs.size, fun b hb => hs.old b hb (by simp), fun b o hb ho => hs.fz b o (Or.inl hb) ho⟩)

section
variable {H : Type} {enc : TypeId × Value → H} {P : Program}

theorem trodAll_stays (hl : laidOutB P = true) {W W' : World} {sp : Nat → Bool} : ∀ (ts : List TypeId) (vs : List Value) (ds : List (DataW H)) (ps : List MemPlace), (∀ t ∈ ts, P.readableRec t = true ∧ t < P.types.size) →
    DataW.TrodAll enc P W 0 (fun _ => true) true ts vs ds ps → (∀ p ∈ ps, W.sameAt W' p) → (∀ p ∈ ps, sp p.block = true) → DataW.TrodAll enc P W' 0 sp true ts vs ds ps
  | [], vs, ds, ps, _, h, _, _ => by
    obtain ⟨rfl, rfl, rfl⟩ := trodAll_nil h
    exact trodAll_mk0
  | t :: ts, vs, ds, ps, hr, h, hsame, hs => by
    obtain ⟨v, vs', d, ds', p, q, rfl, rfl, rfl, h1, h2⟩ := trodAll_cons h
    exact trodAll_cons_mk (WideElems.Trod_stays hl (hr t List.mem_cons_self).1 (hr t List.mem_cons_self).2 h1 (fun x hx => hsame x (List.mem_append_left _ hx)) (fun x hx => hs x (List.mem_append_left _ hx)))
      (trodAll_stays hl ts vs' ds' q (fun u hu => hr u (List.mem_cons_of_mem _ hu)) h2 (fun x hx => hsame x (List.mem_append_right _ hx)) (fun x hx => hs x (List.mem_append_right _ hx)))

theorem law_post {f : Func} {s : ChangeSpec} {tb : TypeId} {W W' : World} {args : Array Value} {ds gs : List (DataW H)} {before : List MemPlace} (hl : laidOutB P = true) (hp : (f.params.toList.all fun t => P.readableRec t && decide (t < P.types.size)) = true) (hvars : s.vars = [])
    (hres : f.resultTypes = #[tb]) (htb : P.underlying tb = some .bool) (hW : DataW.Whole enc P f.params.toList s.vars false W args.toList ds gs before) (hs : s.fn H (ds ++ gs) = { results := [.lit (.bool true)], args := ds }) (hk : Kept W W') :
    s.post enc P f false true false false W args (.bool true) W' := by
  have hlt := hW.lt
  have hW' := hW
  obtain ⟨p, q, hA, hV, rfl, hfz, hnd⟩ := hW'
  rw [hvars] at hV
  obtain ⟨_, rfl⟩ := trodVars_none hV
  refine post_of_same (pa := p) (pv := []) hW (fun b sp hd => ?_) (fun sp hsp => ?_) (fun sp _ => ?_) rfl (hk.but _) hk.frozen (ok_one hres rfl (okWide_bool_mk htb true))
  · rw [hs, hres]
    exact trodAll_mk1 (shut_bool htb true)
  · rw [hs]
    refine trodAll_stays hl _ _ _ _ (fun t ht => ?_) hA (fun x hx => hk.same (hlt x (List.mem_append_left _ hx))) (fun x hx => hsp x (List.mem_append_left _ hx))
    have := List.all_eq_true.1 hp t ht
    simpa using this
  · rw [hs, hvars]; rfl

/-! ### How an argument reads -/
/-- Whatever reads as a value of type t reads so. -/
def Reads (P : Program) (t : TypeId) {α : Type} (R : Rd α) : Prop := ∀ {H : Type} (enc : TypeId × Value → H) (W : World) (n : Nat) (cs : List Value) (x : DataW H × List MemPlace), DataW.trod enc P W 0 (fun _ => true) true n t cs = some x → ∃ a, R (full W) a cs

theorem Reads.int {t : TypeId} (h : P.underlying t = some (.int .i64)) : Reads P t RI := fun enc W n cs x hx => by
  obtain ⟨m, hc, _, _⟩ := DataW.trod_int h hx
  exact ⟨m, hc⟩

/-- Numbers of a kind, that fit. -/
def RK (k : IntKind) : Rd Int := fun _ n cs => cs = [.int k n] ∧ inK k n
theorem RK.up {k : IntKind} : (RK k).Up := fun _ _ _ h => h
theorem inK_of_wf {k : IntKind} {n : Int} (h : (Lit.int k n).wf = true) : inK k n := by
  cases k <;> simpa [Lit.wf, IntKind.min, IntKind.max, IntKind.signed, IntKind.bits, inK] using h
theorem Reads.kind {t : TypeId} {k : IntKind} (h : P.underlying t = some (.int k)) : Reads P t (RK k) := fun enc W n cs x hx => by
  obtain ⟨m, hc, _, hw⟩ := DataW.trod_int h hx
  exact ⟨m, hc, inK_of_wf hw⟩

/-- A slice in a cell. -/
def RSl {α : Type} (R : Rd α) (sz : Nat) : Rd (List α) := fun D xs cs => ∃ v, cs = [v] ∧ Sl D R sz v xs

theorem Reads.slice {t e : TypeId} {sz : Nat} {α : Type} {R : Rd α} (ht : P.underlying t = some (.slice e)) (hc : P.cellsOf e = sz) (hpos : 0 < sz) (hel : Reads P e R) : Reads P t (RSl R sz) := fun {H} enc W fuel cs x hx => by
  rcases DataW.trod_slice ht hx with ⟨rfl, _⟩ | ⟨a, len, cap, elems, rest, n, _, rfl, _, _, hl, hm, hlen, hel', _, _⟩
  · exact ⟨[], _, rfl, Sl.nil⟩
  have hm' : cap ≤ 9223372036854775807 := by simpa [maxLen] using hm
  have key : ∀ i, i < len → ∃ cs, (∃ y, R (full W) y cs) ∧ cs.length = sz ∧ ∀ j, j < sz → W.cell? ((a.add (i * sz)).add j) = cs[j]? := by
    intro i hi
    have h1 := hel' i hi
    rw [List.getElem?_eq_getElem (by omega), hc] at h1
    simp only [Option.bind_eq_some_iff] at h1
    obtain ⟨cs, h2, h3⟩ := h1
    obtain ⟨_, h4, h5⟩ := World.cells?_some h2
    exact ⟨cs, hel enc W n cs _ h3, h4, h5⟩
  by_cases h0 : len = 0
  · subst h0
    exact ⟨[], _, rfl, some a, cap, rfl, Nat.zero_le _, by simp, Or.inl rfl⟩
  have hspot : a = ⟨a.block, a.off, none⟩ := by
    obtain ⟨cs, _, h2, h3⟩ := key 0 (by omega)
    have h4 := h3 0 hpos
    rw [Nat.zero_mul] at h4
    simp only [Addr.add, if_true] at h4
    rw [List.getElem?_eq_getElem (show 0 < cs.length by omega)] at h4
    unfold World.cell? at h4
    split at h4
    · split at h4
      · cases h4
      · rename_i hs
        obtain ⟨b, o, s⟩ := a
        cases s with
        | none => rfl
        | some => simp at hs
    · cases h4
  have pick : ∃ ys : List α, ys.length = len ∧ ∀ i y, ys[i]? = some y → ∃ cs, R (full W) y cs ∧ cs.length = sz ∧ ∀ j, j < sz → W.cell? ((a.add (i * sz)).add j) = cs[j]? := by
    refine ⟨List.ofFn fun i : Fin len => (key i.1 i.2).choose_spec.1.choose, by simp, fun i y hy => ?_⟩
    rw [List.getElem?_ofFn] at hy
    split at hy
    · rename_i hi
      cases hy
      exact ⟨_, (key i hi).choose_spec.1.choose_spec, (key i hi).choose_spec.2.1, (key i hi).choose_spec.2.2⟩
    · cases hy
  obtain ⟨ys, hys, hy⟩ := pick
  refine ⟨ys, _, rfl, some a, cap, by rw [hys], by omega, by omega, Or.inr ⟨a.block, a.off, by rw [← hspot], fun i y hi => ?_⟩⟩
  obtain ⟨cs, h1, h2, h3⟩ := hy i y hi
  refine ⟨cs, h1, h2, fun j v hj => ?_⟩
  have hjl := (List.getElem?_eq_some_iff.1 hj).1
  have h4 := h3 j (by omega)
  rw [hj, hspot, add_plain, add_plain] at h4
  exact full_cell h4

theorem Reads.trod {t : TypeId} {α : Type} {R : Rd α} (h : Reads P t R) {W : World} {v : Value} {d : DataW H} {ps : List MemPlace} (hd : DataW.Trod enc P W 0 (fun _ => true) true t v d ps) : ∃ a, R (full W) a v.cells.toList := by
  obtain ⟨fuel, hf⟩ := hd
  exact h enc W fuel _ _ hf

theorem open_slice {t e : TypeId} {α : Type} {R : Rd α} {sz : Nat} (ht : P.underlying t = some (.slice e)) (h : Reads P t (RSl R sz)) {W : World} {r : Reach} {b0 : Nat} {v : Value} {d : DataW H} {ps : List MemPlace} (hval : Value.okWide P W r b0 t v) (hd : DataW.Trod enc P W 0 (fun _ => true) true t v d ps) :
    ∃ xs, Sl (full W) R sz v xs := by
  obtain ⟨a, len, cap, rfl⟩ := okWide_slice ht hval
  obtain ⟨xs, u, hc, hs⟩ := h.trod hd
  simp only [Value.cells, List.cons.injEq, and_true] at hc
  exact ⟨xs, by rw [hc]; exact hs⟩

/-- A struct's parts, each of one cell. -/
theorem trod_parts {t : TypeId} {fs : Array Field} {W : World} {n : Nat} {cs : List Value} {x : DataW H × List MemPlace} {k : Nat} (ht : P.underlying t = some (.struct fs)) (hk : P.cellsOf t = k) (h : DataW.trod enc P W 0 (fun _ => true) true n t cs = some x) :
    cs.length = k ∧ ∀ (i o u : Nat) (c : Value), (fs[i]?).map (fun f => (f.offset, f.type)) = some (o, u) → P.cellsOf u = 1 → cs[o]? = some c → ∃ m y, DataW.trod enc P W 0 (fun _ => true) true m u [c] = some y := by
  obtain ⟨xs, m, _, _, hlen, hsz, hf⟩ := DataW.trod_struct ht h
  refine ⟨hlen.trans hk, fun i o u c hi hu hc => ?_⟩
  rw [Option.map_eq_some_iff] at hi
  obtain ⟨f, hi, he⟩ := hi
  simp only [Prod.mk.injEq] at he
  obtain ⟨rfl, rfl⟩ := he
  have h1 := hf i f hi
  have hl : i < xs.length := by rw [hsz]; exact (Array.getElem?_eq_some_iff.1 hi).1
  rw [List.getElem?_eq_getElem hl, hu] at h1
  have hol := (List.getElem?_eq_some_iff.1 hc).1
  rw [List.getElem?_eq_getElem hol] at hc
  rw [List.drop_eq_getElem_cons hol, Option.some.inj hc] at h1
  exact ⟨m, _, h1⟩
theorem list3 {α : Type} {l : List α} (h : l.length = 3) : ∃ a b c, l = [a, b, c] := by
  match l, h with
  | [a, b, c], _ => exact ⟨a, b, c, rfl⟩
theorem array4 {α : Type} {l : Array α} (h : l.size = 4) : ∃ a b c d, l = #[a, b, c, d] := by
  obtain ⟨l⟩ := l
  match l, h with
  | [a, b, c, d], _ => exact ⟨a, b, c, d, rfl⟩
theorem array3 {α : Type} {l : Array α} (h : l.size = 3) : ∃ a b c, l = #[a, b, c] := by
  obtain ⟨l⟩ := l
  match l, h with
  | [a, b, c], _ => exact ⟨a, b, c, rfl⟩
theorem open_struct {t : TypeId} {fs : Array Field} {W : World} {r : Reach} {b0 : Nat} {v : Value} {d : DataW H} {ps : List MemPlace} {k : Nat} (ht : P.underlying t = some (.struct fs)) (hk : P.cellsOf t = k) (hval : Value.okWide P W r b0 t v) (hd : DataW.Trod enc P W 0 (fun _ => true) true t v d ps) :
    ∃ cs : Array Value, v = .agg cs ∧ cs.size = k ∧ ∃ n x, DataW.trod enc P W 0 (fun _ => true) true n t cs.toList = some x := by
  obtain ⟨cs, rfl, hsz⟩ := okWide_struct ht hval
  obtain ⟨fuel, hf⟩ := hd
  exact ⟨cs, rfl, hsz.trans hk, fuel, _, hf⟩
end

end Go.Fs
