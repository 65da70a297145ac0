/- The statement MendKnown: for every input the law returns true, and each argument reads as it did. -/
import Derived.Test.YtjhdcelmgfajbaaZMendKnownK
import Derived.Test.YtjhdcelmgfajbaaRows
import Derived.Test.YtjhdcelmgfajbaaZMendKnownD
namespace Go.Fs
open Go.Proofs
open C7
/-- A truth of the yard. -/
def Tr (y : YardD) (t : List Pt) : Prop := isTruth y t = true ∧ rightO y.claims [] ((mostT y t : Nat) : Int) = true
theorem sc_tr {y : YardD} : scenesD y [] ≠ [] ↔ ∃ t, Tr y t := by
  rw [show scenesD y [] ≠ [] ↔ (0 : Int) < ((scenesD y []).length : Int) by rw [Ne, ← List.length_eq_zero_iff]; omega, scenes_iff]; rfl
theorem ask_iff {y : YardD} (h : fault y = 0) : askS y = 0 ↔ ∃ t, Tr y t := by
  rw [← sc_tr]
  unfold askS
  rw [if_neg (by omega), Ne, ← ns_nil (yOk h)]
  constructor
  · intro e hn; rw [if_pos hn] at e; cases e
  · intro e; rw [if_neg e]
theorem mm_fold : ∀ (l : List Int) (r : Int × Int), ((l.foldl (fun r n => (min r.1 n, max r.2 n)) r).1 ≤ r.1 ∧ r.2 ≤ (l.foldl (fun r n => (min r.1 n, max r.2 n)) r).2 ∧ ∀ x ∈ l, (l.foldl (fun r n => (min r.1 n, max r.2 n)) r).1 ≤ x ∧ x ≤ (l.foldl (fun r n => (min r.1 n, max r.2 n)) r).2) ∧
    ((l.foldl (fun r n => (min r.1 n, max r.2 n)) r).1 = r.1 ∨ (l.foldl (fun r n => (min r.1 n, max r.2 n)) r).1 ∈ l) ∧ ((l.foldl (fun r n => (min r.1 n, max r.2 n)) r).2 = r.2 ∨ (l.foldl (fun r n => (min r.1 n, max r.2 n)) r).2 ∈ l)
  | [], r => ⟨⟨Int.le_refl _, Int.le_refl _, by simp⟩, Or.inl rfl, Or.inl rfl⟩
  | x :: l, r => by
    rw [List.foldl_cons]
    obtain ⟨⟨h1, h2, h3⟩, h4, h5⟩ := mm_fold l (min r.1 x, max r.2 x)
    generalize l.foldl (fun r n => (min r.1 n, max r.2 n)) (min r.1 x, max r.2 x) = q at h1 h2 h3 h4 h5 ⊢
    simp only at h1 h2 h4 h5
    refine ⟨⟨by omega, by omega, fun z hz => ?_⟩, ?_, ?_⟩
    · rcases List.mem_cons.1 hz with rfl | hz
      · omega
      · exact h3 z hz
    · rcases h4 with h4 | h4
      · rcases Int.le_total r.1 x with h | h
        · exact Or.inl (by omega)
        · exact Or.inr (by rw [h4, show min r.1 x = x by omega]; exact List.mem_cons_self)
      · exact Or.inr (List.mem_cons_of_mem _ h4)
    · rcases h5 with h5 | h5
      · rcases Int.le_total r.2 x with h | h
        · exact Or.inr (by rw [h5, show max r.2 x = x by omega]; exact List.mem_cons_self)
        · exact Or.inl (by omega)
      · exact Or.inr (List.mem_cons_of_mem _ h5)
/-- The bounds, by the truths. -/
theorem bounds_char {y : YardD} (h : fault y = 0) (ht : ∃ t, Tr y t) : (boundsV y).2 = 0 ∧ (∀ t, Tr y t → (boundsV y).1.1 ≤ ((mostT y t : Nat) : Int) ∧ ((mostT y t : Nat) : Int) ≤ (boundsV y).1.2) ∧ (∃ t, Tr y t ∧ ((mostT y t : Nat) : Int) = (boundsV y).1.1) ∧ ∃ t, Tr y t ∧ ((mostT y t : Nat) : Int) = (boundsV y).1.2 := by
  have hne := sc_tr.2 ht
  have mem : ∀ z, z ∈ (scenesD y []).map (fun p => (p.2 : Int)) ↔ ∃ t, Tr y t ∧ ((mostT y t : Nat) : Int) = z := fun z => by
    rw [List.mem_map]
    constructor
    · rintro ⟨p, hp, rfl⟩
      obtain ⟨t, h1, h2, rfl⟩ := mem_scenes.1 hp
      exact ⟨t, ⟨h1, h2⟩, rfl⟩
    · rintro ⟨t, h1, rfl⟩
      exact ⟨_, mem_scenes.2 ⟨t, h1.1, h1.2, rfl⟩, rfl⟩
  have e : ∃ m l, (scenesD y []).map (fun p => (p.2 : Int)) = m :: l := by
    cases e : scenesD y [] with
    | nil => exact absurd e hne
    | cons p l => exact ⟨_, _, rfl⟩
  obtain ⟨m, l, e⟩ := e
  have eb : boundsV y = ((m :: l).foldl (fun r n => (min r.1 n, max r.2 n)) (m, m), 0) := by unfold boundsV; rw [if_neg (by omega), e]
  rw [e] at mem
  obtain ⟨⟨_, _, h3⟩, h4, h5⟩ := mm_fold (m :: l) (m, m)
  rw [eb]
  generalize (m :: l).foldl (fun r n => (min r.1 n, max r.2 n)) (m, m) = q at h3 h4 h5 ⊢
  simp only at h4 h5 ⊢
  refine ⟨trivial, fun t hT => h3 _ ((mem _).2 ⟨t, hT, rfl⟩), (mem _).1 ?_, (mem _).1 ?_⟩
  · rcases h4 with h4 | h4
    · rw [h4]; exact List.mem_cons_self
    · exact h4
  · rcases h5 with h5 | h5
    · rw [h5]; exact List.mem_cons_self
    · exact h5
theorem bounds_none {y : YardD} (h : fault y = 0) (ht : ¬ ∃ t, Tr y t) : boundsV y = ((0, 0), 11) := by
  have : scenesD y [] = [] := Classical.byContradiction fun hn => ht (sc_tr.1 hn)
  unfold boundsV; rw [if_neg (by omega), this]; rfl
theorem fold_min_char : ∀ (l : List Int) (a : Int), l.foldl min a ≤ a ∧ (∀ x ∈ l, l.foldl min a ≤ x) ∧ (l.foldl min a = a ∨ l.foldl min a ∈ l)
  | [], a => ⟨Int.le_refl _, by simp, Or.inl rfl⟩
  | x :: l, a => by
    rw [List.foldl_cons]
    obtain ⟨h1, h2, h3⟩ := fold_min_char l (min a x)
    refine ⟨by omega, fun z hz => ?_, ?_⟩
    · rcases List.mem_cons.1 hz with rfl | hz
      · omega
      · exact h2 z hz
    · rcases h3 with h3 | h3
      · rcases Int.le_total a x with h | h
        · exact Or.inl (by omega)
        · exact Or.inr (by rw [h3, show min a x = x by omega]; exact List.mem_cons_self)
      · exact Or.inr (List.mem_cons_of_mem _ h3)
/-- The sure number, by the truths. -/
theorem sure_char {y : YardD} (h : fault y = 0) (ht : ∃ t, Tr y t) : (sureV y).2.2 = 0 ∧ (∃ l, (prB y.chairs.length l).isSome = true ∧ l = (sureV y).1 ∧ ∀ t, Tr y t → (sureV y).2.1 ≤ ((makesR y t l : Nat) : Int)) ∧ ∀ l, (prB y.chairs.length l).isSome = true → ∃ t, Tr y t ∧ ((makesR y t l : Nat) : Int) ≤ (sureV y).2.1 := by
  have ha := (ask_iff h).2 ht
  have hn := (yOk h).len
  obtain ⟨h1, h2, h3, h4, h5⟩ := sure_facts ha
  have hne := sc_tr.2 ht
  have key : ∀ l : List (Int × Int), l.length ≤ 50 → (∀ t, Tr y t → sureR y (nsD y) l ≤ ((makesR y t l : Nat) : Int)) ∧ ∃ t, Tr y t ∧ ((makesR y t l : Nat) : Int) = sureR y (nsD y) l := fun l hl => by
    rw [← sure_eq ha hl]
    have mem : ∀ z, z ∈ ((scenesD y []).map fun p => p.1).map (fun s => (makesN s l : Int)) ↔ ∃ t, Tr y t ∧ ((makesR y t l : Nat) : Int) = z := fun z => by
      rw [List.map_map, List.mem_map]
      constructor
      · rintro ⟨p, hp, rfl⟩
        obtain ⟨t, g1, g2, rfl⟩ := mem_scenes.1 hp
        obtain ⟨hlen, _⟩ := truthOk g1
        exact ⟨t, ⟨g1, g2⟩, by rw [← makesN_R (show t.length ≤ 7 by omega)]; rfl⟩
      · rintro ⟨t, g1, rfl⟩
        obtain ⟨hlen, _⟩ := truthOk g1.1
        exact ⟨_, mem_scenes.2 ⟨t, g1.1, g1.2, rfl⟩, by rw [← makesN_R (show t.length ≤ 7 by omega)]; rfl⟩
    have e : ∃ s r, (scenesD y []).map (fun p => p.1) = s :: r := by
      cases e : scenesD y [] with
      | nil => exact absurd e hne
      | cons p l => exact ⟨_, _, rfl⟩
    obtain ⟨s, r, e⟩ := e
    have es : sureZ ((scenesD y []).map fun p => p.1) l = (((scenesD y []).map fun p => p.1).map fun s => (makesN s l : Int)).foldl min (makesN s l : Int) := by rw [e]; rfl
    obtain ⟨c1, c2, c3⟩ := fold_min_char (((scenesD y []).map fun p => p.1).map fun s => (makesN s l : Int)) (makesN s l : Int)
    rw [es]
    refine ⟨fun t hT => c2 _ ((mem _).2 ⟨t, hT, rfl⟩), (mem _).1 ?_⟩
    rcases c3 with c3 | c3
    · rw [c3, e]; exact List.mem_cons_self
    · exact c3
  refine ⟨h1, ⟨_, h3, rfl, fun t hT => ?_⟩, fun l hl => ?_⟩
  · have := (key (sureV y).1 (by omega)).1 t hT
    omega
  · have hl3 := (prB_ok hn hl).2
    obtain ⟨t, hT, e⟩ := (key l (by omega)).2
    have := sure_most (ns := nsD y) hl
    exact ⟨t, hT, by omega⟩
theorem sure_none {y : YardD} (h : fault y = 0) (ht : ¬ ∃ t, Tr y t) : sureV y = ([], 0, 11) := by
  have : scenesD y [] = [] := Classical.byContradiction fun hn => ht (sc_tr.1 hn)
  unfold sureV; rw [if_neg (by omega), if_pos this]
/-- Fewer truths: the bounds are not wider, the sure number is not less. -/
theorem fewer {x y : YardD} (hx : fault x = 0) (hy : fault y = 0) (hn : x.chairs.length = y.chairs.length) (ht : ∃ t, Tr x t) (hs : ∀ t, Tr x t → Tr y t) (hm : ∀ t, Tr x t → mostT x t = mostT y t) (hk : ∀ t l, makesR x t l = makesR y t l) :
    (boundsV x).2 = 0 ∧ (boundsV y).2 = 0 ∧ (boundsV y).1.1 ≤ (boundsV x).1.1 ∧ (boundsV x).1.2 ≤ (boundsV y).1.2 ∧ (sureV x).2.2 = 0 ∧ (sureV y).2.2 = 0 ∧ (sureV y).2.1 ≤ (sureV x).2.1 := by
  have hty : ∃ t, Tr y t := ht.imp fun t h => hs t h
  obtain ⟨a1, _, ⟨t3, a3, a3'⟩, ⟨t4, a4, a4'⟩⟩ := bounds_char hx ht
  obtain ⟨b1, b2, _⟩ := bounds_char hy hty
  obtain ⟨c1, _, c3⟩ := sure_char hx ht
  obtain ⟨d1, ⟨l, d2, _, d3⟩, _⟩ := sure_char hy hty
  have e3 := b2 t3 (hs _ a3)
  have e4 := b2 t4 (hs _ a4)
  have m3 := hm _ a3
  have m4 := hm _ a4
  obtain ⟨t5, g1, g2⟩ := c3 l (by rw [hn]; exact d2)
  have := d3 t5 (hs _ g1)
  rw [hk] at g2
  exact ⟨a1, b1, by omega, by omega, c1, d1, by omega⟩
end Go.Fs
namespace Go.Fs
open Go.Proofs
open C7
section
variable {P : Program} {X : Cx} {γb : Type} [Membership Nat γb] {bad : γb} {all : Array Oper} {K : Act → World → Prop} {Q : Exit → Act → World → Prop}
variable {σ : Slots} {μ : Boxes} {Ds : List Data} {os : List (Bool × Nat)} {fl : Bool} {ix : Nat}
variable {d : Nat} {x y z : Operand} {u v : Value} {ty : TypeId} {pos : String} {aft : Array Edge} {g : Option (Nat × Bool)}
variable {k' : IntKind} {m n : Nat} {t t' : TypeId}
/-- One cell laid into a block that the frame owns. -/
theorem L.storeCell {t : TypeId} {b off k : Nat} {A A' J : List Value} {e : TypeId} {μ' : Boxes} (ho : all[ix]? = some ⟨none, .store t x y, ty, pos, aft, g⟩) (hs : TS P t 1) (hx : ev σ x = some (.pointer (some ⟨b, off, none⟩))) (hy : ev σ y = some v) (hv : v.cells = [v].toArray) (hc1 : cell1 v = true)
    (hm : Has μ b (.cells (A ++ J).toArray e (0, 0)) (.cells (A' ++ J).toArray e (0, 0)) μ') (hA : A.set k v = A') (hk : off = k) (hl : k < A.length) (hg : Gok all σ g)
    (kk : WL P X bad all K Q os σ μ' Ds) : WL P X bad all K Q ((false, ix) :: os) σ μ Ds := by
  subst hk
  refine L.store (us := [v]) (vs := A ++ J) (ws := A' ++ J) ho hx hy hv hs hm (by rw [List.length_append, List.length_singleton]; omega) ?_ (fun u hu => by rw [List.mem_singleton] at hu; subst hu; exact hc1) hg kk
  have e1 : (A ++ J).set off v = A' ++ J := by rw [List.set_append_left _ _ hl, hA]
  rw [← e1, List.set_eq_take_append_cons_drop, if_pos (by rw [List.length_append]; omega)]
  simp
end
def setP (p : Pt) (k : Nat) (v : Int) : Pt := if k = 0 then ⟨v, p.b, p.c⟩ else if k = 1 then ⟨p.a, v, p.c⟩ else ⟨p.a, p.b, v⟩
def setC (l : List Ch) (k p : Nat) (v : Int) : List Ch := l.modify k fun c => { c with parts := setP c.parts p v }
theorem setC_len (l : List Ch) (k p : Nat) (v : Int) : (setC l k p v).length = l.length := List.length_modify ..
theorem setC_cells {v : Int} {p : Nat} (hp : p < 3) : ∀ {l : List Ch} {k : Nat}, k < l.length → (chC l).set (k * 4 + 1 + p) (.int .i64 v) = chC (setC l k p v)
  | c :: l, 0, _ => by
    have h : p = 0 ∨ p = 1 ∨ p = 2 := by omega
    rcases h with rfl | rfl | rfl <;> rfl
  | c :: l, k + 1, h => by
    have ih := setC_cells (v := v) hp (l := l) (k := k) (by simpa using h)
    rw [show (k + 1) * 4 + 1 + p = (k * 4 + 1 + p) + 1 + 1 + 1 + 1 by omega]
    have e : chC (c :: l) = .int .i64 c.size :: .int .i64 c.parts.a :: .int .i64 c.parts.b :: .int .i64 c.parts.c :: chC l := rfl
    rw [e, List.set_cons_succ, List.set_cons_succ, List.set_cons_succ, List.set_cons_succ, ih]; rfl
/-- A yard with another part. -/
def setY (y : YardD) (k p : Nat) (v : Int) : YardD := { y with chairs := setC y.chairs k p v }
theorem chC_cell1 (l : List Ch) : ∀ u ∈ chC l, cell1 u = true := by
  intro u hu
  obtain ⟨c, _, h⟩ := List.mem_flatMap.1 hu
  simp only [List.mem_cons, List.not_mem_nil, or_false] at h
  rcases h with rfl | rfl | rfl | rfl <;> rfl
theorem Src.chs {D : Data} {v : Value} {l : List Ch} (h : Sl D RCh 4 v l) : Src D v l.length (chC l) := Src.of (R := RCh) (fun _ _ _ h => h) (fun _ => rfl) h
theorem mod_in2 {a b : Nat} (h : a ≤ 255) : -9223372036854775808 ≤ (a : Int) % (b : Int) ∧ (a : Int) % (b : Int) ≤ 9223372036854775807 := mod_in (by omega)
theorem known_in {y : YardD} (h : (!(thin y && decide (fault y = 0)) || decide ((y.chairs.length : Int) = 0)) = false) : (!(thin y && decide (fault y = 0))) = false ∧ 0 < y.chairs.length := by
  rw [Bool.or_eq_false_iff, decide_eq_false_iff_not] at h
  exact ⟨h.1, by omega⟩
theorem setC_get (l : List Ch) (k p i : Nat) (v : Int) : (setC l k p v)[i]? = (l[i]?).map fun c => if k = i then { c with parts := setP c.parts p v } else c := by
  unfold setC
  rw [List.getElem?_modify]
  cases l[i]? with
  | none => rfl
  | some c => by_cases h : k = i <;> simp [h]
theorem fit_set (y : YardD) (k p : Nat) (v : Int) (t : List Pt) : fitB (setY y k p v) t = fitB y t := by
  funext i j
  unfold fitB setY
  simp only [setC_get]
  cases hi : y.chairs[i]? <;> cases hj : y.chairs[j]? <;> cases t[i]? <;> cases t[j]? <;> simp
  rename_i a b _ _
  have e : ∀ (c : Ch) (m : Nat), (if k = m then ({ c with parts := setP c.parts p v } : Ch) else c).size = c.size := fun c m => by split <;> rfl
  unfold nearC
  rw [e, e]
theorem scene_set (y : YardD) (k p : Nat) (v : Int) (t : List Pt) : sceneD (setY y k p v) t = sceneD y t := by unfold sceneD; rw [fit_set]
theorem most_set (y : YardD) (k p : Nat) (v : Int) (t : List Pt) : mostT (setY y k p v) t = mostT y t := by
  unfold mostT; rw [scene_set, show (setY y k p v).chairs.length = y.chairs.length from setC_len _ _ _ _]
theorem makes_set (y : YardD) (k p : Nat) (v : Int) (t : List Pt) (l : List (Int × Int)) : makesR (setY y k p v) t l = makesR y t l := by unfold makesR; rw [fit_set]
theorem unkP_set {q : Pt} {p : Nat} {v : Int} (hp : p < 3) (hq : q.l[p]? = some 2) (hv : 0 ≤ v ∧ v ≤ 1) : unkP (setP q p v) + 1 = unkP q := by
  have h : p = 0 ∨ p = 1 ∨ p = 2 := by omega
  obtain ⟨a, b, c⟩ := q
  have hv2 : v ≠ 2 := by omega
  rcases h with rfl | rfl | rfl
  · obtain rfl : a = 2 := by simpa [Pt.l] using hq
    by_cases h1 : b = 2 <;> by_cases h2 : c = 2 <;> simp [unkP, Pt.l, setP, hv2, h1, h2]
  · obtain rfl : b = 2 := by simpa [Pt.l] using hq
    by_cases h1 : a = 2 <;> by_cases h2 : c = 2 <;> simp [unkP, Pt.l, setP, hv2, h1, h2]
  · obtain rfl : c = 2 := by simpa [Pt.l] using hq
    by_cases h1 : a = 2 <;> by_cases h2 : b = 2 <;> simp [unkP, Pt.l, setP, hv2, h1, h2]
theorem unk_set {p : Nat} {v : Int} {q : Ch} (hp : p < 3) (hq : q.parts.l[p]? = some 2) (hv : 0 ≤ v ∧ v ≤ 1) : ∀ {l : List Ch} {k : Nat}, l[k]? = some q → unknown (setC l k p v) + 1 = unknown l
  | c :: l, 0, h => by
    obtain rfl : c = q := by simpa using h
    have := unkP_set hp hq hv
    show (unkP (setP c.parts p v) + (l.map fun c => unkP c.parts).sum) + 1 = unkP c.parts + (l.map fun c => unkP c.parts).sum
    omega
  | c :: l, k + 1, h => by
    have ih := unk_set hp hq hv (l := l) (k := k) (by simpa using h)
    show (unkP c.parts + unknown (setC l k p v)) + 1 = unkP c.parts + unknown l
    omega
theorem setP_ok {q : Pt} {p : Nat} {v : Int} (hq : ptsOk q 2 = true) (hv : 0 ≤ v ∧ v ≤ 2) : ptsOk (setP q p v) 2 = true := by
  unfold ptsOk Pt.l at hq ⊢
  simp only [List.all_cons, List.all_nil, Bool.and_true, Bool.and_eq_true, inB_iff] at hq ⊢
  unfold setP
  split
  · exact ⟨hv, hq.2⟩
  · split
    · exact ⟨hq.1, hv, hq.2.2⟩
    · exact ⟨hq.1, hq.2.1, hv⟩
theorem yard_set {y : YardD} {k p : Nat} {v : Int} (h : yardOk y = true) (hv : 0 ≤ v ∧ v ≤ 2) : yardOk (setY y k p v) = true := by
  unfold yardOk at h ⊢
  rw [Bool.and_eq_true, Bool.and_eq_true, List.all_eq_true] at h
  rw [Bool.and_eq_true, Bool.and_eq_true, List.all_eq_true]
  refine ⟨⟨h.1.1, fun c hc => ?_⟩, h.2⟩
  obtain ⟨i, hi⟩ := List.mem_iff_getElem?.1 hc
  rw [show (setY y k p v).chairs = setC y.chairs k p v from rfl, setC_get] at hi
  obtain ⟨d, hd, rfl⟩ := Option.map_eq_some_iff.1 hi
  have := h.1.2 d (List.mem_of_getElem? hd)
  split
  · unfold chairOk at this ⊢
    rw [Bool.and_eq_true] at this ⊢
    exact ⟨this.1, setP_ok this.2 hv⟩
  · exact this
theorem fault_of {y : YardD} (h1 : y.chairs.length ≤ 7) (h2 : y.claims.length ≤ 5) (h3 : yardOk y = true) (h4 : unknown y.chairs ≤ 8) : fault y = 0 := by
  unfold fault; rw [if_neg (by omega), if_neg (by rw [h3]; simp), if_neg (by omega)]
theorem ok_of {y : YardD} (h : fault y = 0) : yardOk y = true := by
  unfold fault at h
  split at h
  · omega
  · split at h
    · omega
    · rename_i h2; simpa using h2
/-- A truth of the yard with a part known is one of the yard. -/
theorem truth_set {y : YardD} {k p : Nat} {v : Int} {c : Ch} {t : List Pt} (hc : y.chairs[k]? = some c) (hp : p < 3) (hq : c.parts.l[p]? = some 2) (h : isTruth (setY y k p v) t = true) : isTruth y t = true := by
  unfold isTruth at h ⊢
  rw [Bool.and_eq_true, decide_eq_true_eq, List.all_eq_true] at h ⊢
  obtain ⟨h1, h2⟩ := h
  rw [show (setY y k p v).chairs = setC y.chairs k p v from rfl] at h1 h2
  rw [setC_len] at h1
  refine ⟨h1, fun x hx => ?_⟩
  obtain ⟨i, hi⟩ := List.mem_iff_getElem?.1 hx
  obtain ⟨c', q⟩ := x
  rw [List.getElem?_zip_eq_some] at hi
  obtain ⟨i1, i2⟩ := hi
  have h3 := h2 ((if k = i then { c' with parts := setP c'.parts p v } else c'), q) (List.mem_iff_getElem?.2 ⟨i, by rw [List.getElem?_zip_eq_some, setC_get, i1]; exact ⟨rfl, i2⟩⟩)
  by_cases e : k = i
  · subst e
    rw [i1] at hc
    obtain rfl : c' = c := Option.some.inj hc
    rw [if_pos rfl] at h3
    simp only at h3 ⊢
    obtain ⟨sz, pa, pb, pc⟩ := c'
    obtain ⟨qa, qb, qc⟩ := q
    have hp' : p = 0 ∨ p = 1 ∨ p = 2 := by omega
    simp only [Pt.l] at hq
    rcases hp' with rfl | rfl | rfl <;> simp only [List.getElem?_cons_zero, List.getElem?_cons_succ, Option.some.injEq] at hq <;> subst hq <;> simp only [ptsIs, Pt.l, setP, if_true, if_neg (show ¬ (1 : Nat) = 0 by decide), if_neg (show ¬ (2 : Nat) = 0 by decide), if_neg (show ¬ (2 : Nat) = 1 by decide), List.zip_cons_cons, List.zip_nil_right, List.all_cons, List.all_nil, Bool.and_true, Bool.and_eq_true, partIs, Bool.or_eq_true, decide_eq_true_eq] at h3 ⊢
    · exact ⟨⟨h3.1.1, Or.inl trivial⟩, h3.2⟩
    · exact ⟨h3.1, ⟨h3.2.1.1, Or.inl trivial⟩, h3.2.2⟩
    · exact ⟨h3.1, h3.2.1, ⟨h3.2.2.1, Or.inl trivial⟩⟩
  · rw [if_neg e] at h3; exact h3
theorem known_facts {y : YardD} {k p : Nat} {v : Int} {c : Ch} (hf : fault y = 0) (hc : y.chairs[k]? = some c) (hp : p < 3) (hq : c.parts.l[p]? = some 2) (hv : 0 ≤ v ∧ v ≤ 1) : fault (setY y k p v) = 0 ∧ ((∃ t, Tr (setY y k p v) t) → (boundsV (setY y k p v)).2 = 0 ∧ (boundsV y).2 = 0 ∧ (boundsV y).1.1 ≤ (boundsV (setY y k p v)).1.1 ∧ (boundsV (setY y k p v)).1.2 ≤ (boundsV y).1.2 ∧ (sureV (setY y k p v)).2.2 = 0 ∧ (sureV y).2.2 = 0 ∧ (sureV y).2.1 ≤ (sureV (setY y k p v)).2.1) := by
  have hyo := yOk hf
  have hfx : fault (setY y k p v) = 0 := fault_of (by have := hyo.len; rw [show (setY y k p v).chairs = setC y.chairs k p v from rfl, setC_len]; exact this) hyo.cls (yard_set (ok_of hf) (by omega)) (by
    have h1 := unk_set hp hq hv hc
    have h2 := unk_8 hf
    rw [show (setY y k p v).chairs = setC y.chairs k p v from rfl]; omega)
  refine ⟨hfx, fun ht => fewer hfx hf (setC_len _ _ _ _) ht (fun t hT => ?_) (fun t _ => most_set y k p v t) (fun t l => makes_set y k p v t l)⟩
  refine ⟨truth_set hc hp hq hT.1, ?_⟩
  have := hT.2
  rw [most_set] at this; exact this
theorem ke_err {x : YardD} (h : fault x = 0) (he : (boundsV x).2 ≠ 0) : ((decide ((boundsV x).2 = 11) && decide ((sureV x).2.2 = (boundsV x).2)) && true) = true := by
  have hn : ¬ ∃ t, Tr x t := fun ht => he (bounds_char h ht).1
  rw [bounds_none h hn, sure_none h hn]; rfl
theorem ke_in {x : YardD} (h : fault x = 0) (he : ¬ (boundsV x).2 ≠ 0) : ∃ t, Tr x t := Classical.byContradiction fun hn => he (by rw [bounds_none h hn]; simp)
theorem ke_ok {x y : YardD} (h : (boundsV x).2 = 0 ∧ (boundsV y).2 = 0 ∧ (boundsV y).1.1 ≤ (boundsV x).1.1 ∧ (boundsV x).1.2 ≤ (boundsV y).1.2 ∧ (sureV x).2.2 = 0 ∧ (sureV y).2.2 = 0 ∧ (sureV y).2.1 ≤ (sureV x).2.1) : (((((decide ((boundsV y).2 = 0) && (decide ((boundsV y).1.1 ≤ (boundsV x).1.1) && decide ((boundsV x).1.2 ≤ (boundsV y).1.2))) && decide ((sureV y).2.2 = 0)) && decide ((sureV x).2.2 = 0)) && decide ((sureV x).2.1 ≥ (sureV y).2.1)) && true) = true := by
  obtain ⟨h1, h2, h3, h4, h5, h6, h7⟩ := h
  simp [h2, h3, h4, h5, h6, h7]
theorem inside_ok (a b : Int × Int) (D : Data) : Fn Try.prog 60 #[k2V a, k2V b] D (fun _ v => v = .bool (decide (b.1 ≤ a.1) && decide (a.2 ≤ b.2))) := by
  refine enter 17 Try.func60 rfl rfl rfl rfl fun h0 => ?_
  refine C.seq ?_
  refine C.region [(false,0),(false,1),(false,2)] rfl ?_
  refine L.boxD rfl rfl rfl rfl trivial (fun q1 E1 hE1 hB1 => ?_)
  refine L.boxD rfl rfl rfl rfl trivial (fun q2 E2 hE2 hB2 => ?_)
  refine L.assign rfl rfl rfl trivial ?_
  refine L.nil ?_
  refine C.next ?_
  refine C.seq ?_
  refine C.region [(false,0),(false,1),(false,2),(false,3),(false,4),(false,5),(false,6),(false,7),(false,8),(false,9),(false,10),(false,11),(false,12)] rfl ?_
  refine L.fieldAddr rfl Tf.f61_0 rfl rfl trivial ?_
  refine L.loadD1 rfl (k := 0) Tf.a3 rfl hB1 (by first | simp | assumption) rfl List.not_mem_nil rfl trivial ?_
  refine L.fieldAddr rfl Tf.f61_0 rfl rfl trivial ?_
  refine L.loadD1 rfl (k := 0) Tf.a3 rfl hB2 (by first | simp | assumption) rfl List.not_mem_nil rfl trivial ?_
  refine L.geq rfl rfl rfl rfl trivial ?_
  refine L.move rfl rfl rfl trivial ?_
  refine' L.and [(false,6),(false,7),(false,8),(false,9),(false,10),(false,11)] [(false,12)] (s := 10) (p := 16) rfl rfl (fun hg1 => ?_) (fun hg1 => ?_) ?_
  rotate_left
  · refine L.fieldAddr rfl Tf.f61_1 rfl rfl ⟨_, rfl, rfl⟩ ?_
    refine L.loadD1 rfl (k := 1) Tf.a3 rfl hB1 (by first | simp | assumption) rfl List.not_mem_nil rfl ⟨_, rfl, rfl⟩ ?_
    refine L.fieldAddr rfl Tf.f61_1 rfl rfl ⟨_, rfl, rfl⟩ ?_
    refine L.loadD1 rfl (k := 1) Tf.a3 rfl hB2 (by first | simp | assumption) rfl List.not_mem_nil rfl ⟨_, rfl, rfl⟩ ?_
    refine L.leq rfl rfl rfl rfl ⟨_, rfl, rfl⟩ ?_
    refine L.pickT rfl rfl rfl rfl trivial ?_
    exact L.nil fun a w hh => hh.cutK 5 rfl
  · refine L.pass rfl rfl rfl ⟨_, _, rfl, rfl, rfl⟩ ?_
    refine L.pass rfl rfl rfl ⟨_, _, rfl, rfl, rfl⟩ ?_
    refine L.pass rfl rfl rfl ⟨_, _, rfl, rfl, rfl⟩ ?_
    refine L.pass rfl rfl rfl ⟨_, _, rfl, rfl, rfl⟩ ?_
    refine L.pass rfl rfl rfl ⟨_, _, rfl, rfl, rfl⟩ ?_
    refine L.pickF rfl rfl rfl rfl trivial ?_
    exact L.nil fun a w hh => hh.cutK 5 rfl
  refine L.assign rfl rfl rfl trivial ?_
  refine L.nil ?_
  refine C.next ?_
  refine C.ret ?_
  exact leave (vs := [_]) rfl rfl rfl ⟨rfl, trivial⟩ (fun D hD => rfl)
theorem MendKnown_ok (yv : Value) (y : YardD) (a b z : Int) (D : Data) (hy : YardIs D yv y) (ha : 0 ≤ a ∧ a ≤ 255) (hb : 0 ≤ b ∧ b ≤ 255) (hz : 0 ≤ z ∧ z ≤ 255) : Fn Try.prog 12 #[yv, .int .u8 a, .int .u8 b, .int .u8 z] D (fun _ v => v = .bool true) := by
  have hy0 := hy
  obtain ⟨cv, qv, rfl, hc, hq⟩ := hy
  obtain ⟨an, rfl⟩ := Int.eq_ofNat_of_zero_le ha.1
  obtain ⟨pn, rfl⟩ := Int.eq_ofNat_of_zero_le hb.1
  have hcl := hc.len
  refine enter 128 Try.func12 rfl rfl rfl rfl fun h0 => ?_
  refine C.seq ?_
  refine C.region [(false,0),(false,1)] rfl ?_
  refine L.boxD rfl rfl rfl rfl trivial (fun q1 E1 hE1 hB1 => ?_)
  refine L.assign rfl rfl rfl trivial ?_
  refine L.nil ?_
  refine C.next ?_
  refine C.seq ?_
  refine C.seq ?_
  refine C.region [(false,0),(false,1),(false,2),(false,3),(false,4),(false,5),(false,6),(false,7),(false,8)] rfl ?_
  refine L.loadDW rfl Tf.a25 rfl hB1 (by first | simp | assumption) Tf.s25 List.not_mem_nil rfl trivial ?_
  refine L.callV rfl rfl rfl (fun D1 hD1 => ready_ok _ y _ (hy0.up (hD1 _ (by simp)))) rfl trivial ?_
  refine L.not rfl rfl rfl trivial ?_
  refine L.move rfl rfl rfl trivial ?_
  refine' L.or [(false,4),(false,5),(false,6),(false,7),(false,8)] [] (s := 25) (p := 30) rfl rfl (fun hg1 => ?_) (fun hg1 => ?_) ?_
  rotate_left
  · refine L.fieldAddr rfl Tf.f25_0 rfl rfl ⟨_, rfl, rfl⟩ ?_
    refine L.loadD1 rfl (k := 0) Tf.a22 rfl hB1 (by first | simp | assumption) rfl List.not_mem_nil rfl ⟨_, rfl, rfl⟩ ?_
    refine L.len rfl Try.underlying22 rfl hc rfl rfl ⟨_, rfl, rfl⟩ ?_
    refine L.eql rfl rfl rfl rfl ⟨_, rfl, rfl⟩ ?_
    refine L.pickF rfl rfl rfl rfl trivial ?_
    exact L.nil fun a w hh => hh.cutK 4 rfl
  · refine L.pass rfl rfl rfl ⟨_, _, rfl, rfl, rfl⟩ ?_
    refine L.pass rfl rfl rfl ⟨_, _, rfl, rfl, rfl⟩ ?_
    refine L.pass rfl rfl rfl ⟨_, _, rfl, rfl, rfl⟩ ?_
    refine L.pass rfl rfl rfl ⟨_, _, rfl, rfl, rfl⟩ ?_
    refine L.pickT rfl rfl rfl rfl trivial ?_
    exact L.nil fun a w hh => hh.cutK 4 rfl
  refine L.nil ?_
  refine C.next ?_
  refine C.cond rfl (fun hc1 => ?_) (fun hc1 => ?_)
  · refine C.seq ?_
    refine C.region [(false,0),(false,1)] rfl ?_
    refine L.callV rfl rfl rfl (fun D2 hD2 => awake_ok _) rfl trivial ?_
    refine L.assign rfl rfl rfl trivial ?_
    refine L.nil ?_
    refine C.next ?_
    refine C.ret ?_
    refine C.thenRet ?_
    exact leave (vs := [_]) rfl rfl rfl ⟨rfl, trivial⟩ (fun D hD => rfl)
  · obtain ⟨hcr, hne⟩ := known_in hc1
    obtain ⟨hthin, hf0⟩ := ready_inB hcr
    obtain ⟨hlc, hlq⟩ := thin_len hthin
    have hyo := yOk hf0
    have hn7 := hyo.len
    refine C.skip ?_
    refine C.next ?_
    refine C.seq ?_
    refine C.region [(false,0),(false,1),(false,2),(false,3),(false,4),(false,5),(false,6),(false,7),(false,8),(false,9),(false,10)] rfl ?_
    refine L.move rfl rfl rfl trivial ?_
    refine L.convI rfl Try.underlying5 Try.underlying3 rfl (by simp only [inK]; omega) rfl trivial ?_
    refine L.fieldAddr rfl Tf.f25_0 rfl rfl trivial ?_
    refine L.loadD1 rfl (k := 0) Tf.a22 rfl hB1 (by first | simp | assumption) rfl List.not_mem_nil rfl trivial ?_
    refine L.len rfl Try.underlying22 rfl hc rfl rfl trivial ?_
    refine L.rem rfl rfl rfl (by omega) (by omega) (by simp only [inK]; exact mod_in2 (by omega)) rfl trivial ?_
    refine L.move rfl rfl rfl trivial ?_
    refine L.convI rfl Try.underlying5 Try.underlying3 rfl (by simp only [inK]; omega) rfl trivial ?_
    refine L.rem rfl rfl rfl (by omega) (by omega) (by simp only [inK]; omega) rfl trivial ?_
    refine L.assign rfl rfl rfl trivial ?_
    refine L.assign rfl rfl rfl trivial ?_
    refine L.nil ?_
    refine C.next ?_
    refine C.seq ?_
    refine C.seq ?_
    obtain ⟨k, hk⟩ : ∃ k : Nat, (an : Int) % (y.chairs.length : Int) = k := ⟨an % y.chairs.length, rfl⟩
    have hkl : k < y.chairs.length := by have := Int.emod_lt_of_pos (an : Int) (show (0 : Int) < (y.chairs.length : Int) by omega); omega
    obtain ⟨p, hp⟩ : ∃ p : Nat, (pn : Int) % 3 = p := ⟨pn % 3, rfl⟩
    have hp3 : p < 3 := by omega
    rw [hk, hp]
    obtain ⟨c, hx⟩ : ∃ c, y.chairs[k]? = some c := ⟨_, List.getElem?_eq_getElem hkl⟩
    obtain ⟨q, hn⟩ : ∃ q, c.parts.l[p]? = some q := ⟨_, List.getElem?_eq_getElem (by simp [Pt.l]; omega)⟩
    refine C.region [(false,0),(false,1),(false,2),(false,3),(false,4),(false,5),(false,6),(false,7),(false,8)] rfl ?_
    refine L.fieldAddr rfl Tf.f25_0 rfl rfl trivial ?_
    refine L.loadD1 rfl (k := 0) Tf.a22 rfl hB1 (by first | simp | assumption) rfl List.not_mem_nil rfl trivial ?_
    refine L.move rfl rfl rfl trivial ?_
    refine L.move rfl rfl rfl trivial ?_
    refine L.indexS rfl Try.underlying22 Tf.s94 rfl hc rfl (by omega) hx rfl trivial (fun b1 o1 cs1 hr1 hcl1 hA1 => ?_)
    obtain rfl : cs1 = [.int .i64 _, .int .i64 _, .int .i64 _, .int .i64 _] := hr1
    refine L.fieldAddr rfl Tf.f94_1 rfl rfl trivial ?_
    refine L.indexA rfl Try.underlying91 Tf.s3 rfl rfl (by omega) (by omega) rfl trivial ?_
    refine L.loadD1 (o := _ + 1) (k := p * 1) rfl Tf.a3 rfl hA1.tail (by simp) (pt_get hn) List.not_mem_nil rfl trivial ?_
    refine L.neq rfl rfl rfl rfl trivial ?_
    refine L.nil ?_
    refine C.next ?_
    refine C.condD rfl (fun hc2 => ?_) (fun hc2 => ?_)
    · refine C.seq ?_
      refine C.region [(false,0),(false,1)] rfl ?_
      refine L.callV rfl rfl rfl (fun D3 hD3 => awake_ok _) rfl trivial ?_
      refine L.assign rfl rfl rfl trivial ?_
      refine L.nil ?_
      refine C.next ?_
      refine C.ret ?_
      refine C.thenRet ?_
      exact leave (vs := [_]) rfl rfl rfl ⟨rfl, trivial⟩ (fun D hD => rfl)
    · obtain rfl : q = 2 := by omega
      obtain ⟨hfx, hkn⟩ := known_facts hf0 hx hp3 hn (show 0 ≤ z % 2 ∧ z % 2 ≤ 1 by omega)
      refine C.skip ?_
      refine C.next ?_
      refine C.seq ?_
      refine C.region [(false,0),(false,1),(false,2)] rfl ?_
      refine L.loadDW rfl Tf.a25 rfl hB1 (by first | simp | assumption) Tf.s25 List.not_mem_nil rfl trivial ?_
      refine L.alloc rfl Tf.z25 rfl rfl trivial (fun q2 => ?_)
      refine L.storeW rfl rfl rfl rfl Tf.s25 (by first | rfl | (simp only [ints_length, *]; done) | (simp only [ints_length, *]; rfl) | (simp only [ints_length, *]; omega)) (by first | rfl | (simp only [ints_length, *]; done) | (simp only [ints_length, *]; rfl) | (simp only [ints_length, *]; omega)) (Has.head) (cell1_yard hc.cell1 hq.cell1) trivial ?_
      refine L.nil ?_
      refine C.next ?_
      refine C.seq ?_
      refine C.region [(false,0),(false,1),(false,2),(false,3),(false,4),(false,5)] rfl ?_
      refine L.buildSlice rfl Try.underlying22 Tf.s94 Tf.z94 rfl rfl rfl rfl .nil rfl trivial (fun b901 D901 hD901 hA901 => ?_)
      refine L.fieldAddr rfl Tf.f25_0 rfl rfl trivial ?_
      refine L.loadD1 rfl (k := 0) Tf.a22 rfl hB1 (by first | simp | assumption) rfl List.not_mem_nil rfl trivial ?_
      refine L.append (A := []) (ν := []) (B := [(_, _)]) rfl Try.underlying22 rfl rfl Tf.s94 Tf.z94 rfl Tf.i94 rfl rfl rfl Acc.nil (Src.chs hc) (by simp) (chC_lenn _ _ rfl) (by simp) (chC_cell1 _) (by omega) (Or.inl rfl) rfl trivial (fun v7 ν7 ha7 => ?_)
      obtain ⟨ob, ocap, junk, rfl, hcap, rfl, hcl1, hcl2⟩ := (show Acc 94 4 v7 y.chairs.length (chC y.chairs) ν7 by simpa using ha7).some (by omega)
      refine L.fieldAddr rfl Tf.f25_0 rfl rfl trivial ?_
      refine L.store rfl rfl rfl rfl Tf.s22 (.tail Has.head) (by simp) rfl (by simp [cell1]) trivial ?_
      refine L.nil ?_
      refine C.next ?_
      refine C.seq ?_
      refine C.region [(false,0),(false,1),(false,2),(false,3),(false,4),(false,5),(false,6),(false,7),(false,8),(false,9),(false,10)] rfl ?_
      refine L.fieldAddr rfl Tf.f25_0 rfl rfl trivial ?_
      refine L.loadB1 rfl Tf.a22 rfl (List.Mem.tail _ (List.Mem.head _)) rfl List.not_mem_nil rfl trivial ?_
      refine L.move rfl rfl rfl trivial ?_
      refine L.move rfl rfl rfl trivial ?_
      refine L.move rfl rfl rfl trivial ?_
      refine L.convI rfl Try.underlying5 Try.underlying3 rfl (by simp only [inK]; omega) rfl trivial ?_
      refine L.rem rfl rfl rfl (by omega) (by omega) (by simp only [inK]; omega) rfl trivial ?_
      refine L.indexP rfl Try.underlying22 Tf.s94 rfl rfl (by omega) (by omega) rfl trivial ?_
      refine L.fieldAddr rfl Tf.f94_1 rfl rfl trivial ?_
      refine L.indexA rfl Try.underlying91 Tf.s3 rfl rfl (by omega) (by omega) rfl trivial ?_
      refine L.storeCell (k := k * 4 + 1 + p) rfl Tf.s3 rfl rfl rfl rfl Has.head (setC_cells (v := z % 2) (p := p) hp3 (l := y.chairs) (k := k) hkl) (by simp only [Int.toNat_natCast]; omega) (by rw [hcl1]; omega) trivial ?_
      refine L.nil ?_
      refine C.next ?_
      refine C.seq ?_
      have hn8 : Acc 94 4 (.slice (some ⟨ob, 0, none⟩) y.chairs.length ocap) y.chairs.length (chC (setC y.chairs k p (z % 2))) [(ob, .cells (chC (setC y.chairs k p (z % 2)) ++ junk).toArray 94 (0, 0))] := Or.inr ⟨ob, ocap, junk, rfl, hcap, rfl, chC_lenn _ _ (setC_len _ _ _ _), by simpa [chC_lenn _ _ (setC_len y.chairs k p (z % 2)), hcl1] using hcl2⟩
      refine C.freeze (A := []) (B := [(_, _)]) hn8 rfl (fun D8 hD8 hF => ?_)
      have hxr : YardIs D8 (.agg #[.slice (some ⟨ob, 0, none⟩) y.chairs.length ocap, .int .i64 y.fit, qv]) (setY y k p (z % 2)) := ⟨_, _, rfl, hF.chs (setC_len _ _ _ _) (by omega), hq.up R2.up (hD8 _ (by simp))⟩
      refine C.region [(false,0),(false,1),(false,2),(false,3),(false,4),(false,5),(false,6),(false,7),(false,8)] rfl ?_
      refine L.loadDW rfl Tf.a25 rfl hB1 (by first | simp | assumption) Tf.s25 List.not_mem_nil rfl trivial ?_
      refine L.call rfl rfl rfl (fun D4 hD4 => YardL_ok _ y _ (hy0.up (hD4 _ (by simp))) (by omega) (by omega)) rfl trivial (fun v4 D4 hD4 hp4 => ?_)
      have hw := hp4
      refine L.callV rfl rfl rfl (fun D5 hD5 => Bounds_ok _ y _ (hw.up (hD5 _ (by simp)))) rfl trivial ?_
      refine L.move rfl rfl rfl trivial ?_
      refine L.extract rfl rfl rfl rfl trivial ?_
      refine L.extract rfl rfl rfl rfl trivial ?_
      refine L.alloc rfl Tf.z61 rfl rfl trivial (fun q3 => ?_)
      refine L.storeW rfl rfl rfl rfl Tf.s61 (by first | rfl | (simp only [ints_length, *]; done) | (simp only [ints_length, *]; rfl) | (simp only [ints_length, *]; omega)) (by first | rfl | (simp only [ints_length, *]; done) | (simp only [ints_length, *]; rfl) | (simp only [ints_length, *]; omega)) (Has.head) (by first | exact ints_cell1 _ | simp [cell1]) trivial ?_
      refine L.assign rfl rfl rfl trivial ?_
      refine L.nil ?_
      refine C.next ?_
      refine C.seq ?_
      refine C.region [(false,0),(false,1),(false,2),(false,3),(false,4),(false,5),(false,6),(false,7),(false,8)] rfl ?_
      refine L.loadBW rfl Tf.a25 rfl (List.Mem.tail _ (List.Mem.head _)) Tf.s25 List.not_mem_nil rfl trivial ?_
      refine L.call rfl rfl rfl (fun D6 hD6 => YardL_ok _ (setY y k p (z % 2)) _ (hxr.up (hD6 _ (by simp))) (by simp only [setY, setC_len]; omega) (by simp only [setY]; omega)) rfl trivial (fun v6 D6 hD6 hp6 => ?_)
      have hwx := hp6
      refine L.callV rfl rfl rfl (fun D7 hD7 => Bounds_ok _ (setY y k p (z % 2)) _ (hwx.up (hD7 _ (by simp)))) rfl trivial ?_
      refine L.move rfl rfl rfl trivial ?_
      refine L.extract rfl rfl rfl rfl trivial ?_
      refine L.extract rfl rfl rfl rfl trivial ?_
      refine L.alloc rfl Tf.z61 rfl rfl trivial (fun q4 => ?_)
      refine L.storeW rfl rfl rfl rfl Tf.s61 (by first | rfl | (simp only [ints_length, *]; done) | (simp only [ints_length, *]; rfl) | (simp only [ints_length, *]; omega)) (by first | rfl | (simp only [ints_length, *]; done) | (simp only [ints_length, *]; rfl) | (simp only [ints_length, *]; omega)) (Has.head) (by first | exact ints_cell1 _ | simp [cell1]) trivial ?_
      refine L.assign rfl rfl rfl trivial ?_
      refine L.nil ?_
      refine C.next ?_
      refine C.seq ?_
      refine C.region [(false,0),(false,1),(false,2),(false,3),(false,4),(false,5),(false,6),(false,7),(false,8),(false,9)] rfl ?_
      refine L.loadDW rfl Tf.a25 rfl hB1 (by first | simp | assumption) Tf.s25 List.not_mem_nil rfl trivial ?_
      refine L.call rfl rfl rfl (fun D8 hD8 => YardL_ok _ y _ (hy0.up (hD8 _ (by simp))) (by omega) (by omega)) rfl trivial (fun v8 D8 hD8 hp8 => ?_)
      have hw := hp8
      refine L.call rfl rfl rfl (fun D9 hD9 => Sure_ok _ y _ (hw.up (hD9 _ (by simp)))) rfl trivial (fun v9 D9 hD9 hp9 => ?_)
      obtain ⟨pv, rfl, hpv⟩ := hp9
      refine L.move rfl rfl rfl trivial ?_
      refine L.extract rfl rfl rfl rfl trivial ?_
      refine L.extract rfl rfl rfl rfl trivial ?_
      refine L.extract rfl rfl rfl rfl trivial ?_
      refine L.assign rfl rfl rfl trivial ?_
      refine L.assign rfl rfl rfl trivial ?_
      refine L.assign rfl rfl rfl trivial ?_
      refine L.nil ?_
      refine C.next ?_
      refine C.seq ?_
      refine C.region [(false,0),(false,1),(false,2),(false,3),(false,4),(false,5),(false,6),(false,7),(false,8),(false,9)] rfl ?_
      refine L.loadBW rfl Tf.a25 rfl (List.Mem.tail _ (List.Mem.tail _ (List.Mem.head _))) Tf.s25 List.not_mem_nil rfl trivial ?_
      refine L.call rfl rfl rfl (fun D10 hD10 => YardL_ok _ (setY y k p (z % 2)) _ (hxr.up (hD10 _ (by simp))) (by simp only [setY, setC_len]; omega) (by simp only [setY]; omega)) rfl trivial (fun v10 D10 hD10 hp10 => ?_)
      have hwx := hp10
      refine L.call rfl rfl rfl (fun D11 hD11 => Sure_ok _ (setY y k p (z % 2)) _ (hwx.up (hD11 _ (by simp)))) rfl trivial (fun v11 D11 hD11 hp11 => ?_)
      obtain ⟨pv2, rfl, hpv2⟩ := hp11
      refine L.move rfl rfl rfl trivial ?_
      refine L.extract rfl rfl rfl rfl trivial ?_
      refine L.extract rfl rfl rfl rfl trivial ?_
      refine L.extract rfl rfl rfl rfl trivial ?_
      refine L.assign rfl rfl rfl trivial ?_
      refine L.assign rfl rfl rfl trivial ?_
      refine L.assign rfl rfl rfl trivial ?_
      refine L.nil ?_
      refine C.next ?_
      refine C.seq ?_
      refine C.seq ?_
      refine C.region [(false,0),(false,1)] rfl ?_
      refine L.move rfl rfl rfl trivial ?_
      refine L.neq rfl rfl rfl rfl trivial ?_
      refine L.nil ?_
      refine C.next ?_
      refine C.condD rfl (fun hc3 => ?_) (fun hc3 => ?_)
      · refine C.seq ?_
        refine C.region [(false,0),(false,1),(false,2),(false,3),(false,4),(false,5),(false,6),(false,7),(false,8),(false,9),(false,10)] rfl ?_
        refine L.move rfl rfl rfl trivial ?_
        refine L.eql rfl rfl rfl rfl trivial ?_
        refine L.move rfl rfl rfl trivial ?_
        refine' L.and [(false,3),(false,4),(false,5),(false,6)] [(false,7),(false,8),(false,9),(false,10)] (s := 97) (p := 101) rfl rfl (fun hg2 => ?_) (fun hg2 => ?_) ?_
        rotate_left
        · refine L.move rfl rfl rfl ⟨_, rfl, rfl⟩ ?_
          refine L.move rfl rfl rfl ⟨_, rfl, rfl⟩ ?_
          refine L.eql rfl rfl rfl rfl ⟨_, rfl, rfl⟩ ?_
          refine L.pickT rfl rfl rfl rfl trivial ?_
          exact L.nil fun a w hh => hh.cutK 3 rfl
        · refine L.pass rfl rfl rfl ⟨_, _, rfl, rfl, rfl⟩ ?_
          refine L.pass rfl rfl rfl ⟨_, _, rfl, rfl, rfl⟩ ?_
          refine L.pass rfl rfl rfl ⟨_, _, rfl, rfl, rfl⟩ ?_
          refine L.pickF rfl rfl rfl rfl trivial ?_
          exact L.nil fun a w hh => hh.cutK 3 rfl
        refine L.move rfl rfl rfl trivial ?_
        refine' L.and [(false,8),(false,9)] [(false,10)] (s := 102) (p := 104) rfl rfl (fun hg3 => ?_) (fun hg3 => ?_) ?_
        rotate_left
        · refine L.callV rfl rfl rfl (fun D12 hD12 => awake_ok _) rfl ⟨_, rfl, rfl⟩ ?_
          refine L.pickT rfl rfl rfl rfl trivial ?_
          exact L.nil fun a w hh => hh.cutK 1 rfl
        · refine L.pass rfl rfl rfl ⟨_, _, rfl, rfl, rfl⟩ ?_
          refine L.pickF rfl rfl rfl rfl trivial ?_
          exact L.nil fun a w hh => hh.cutK 1 rfl
        refine L.assign rfl rfl rfl trivial ?_
        refine L.nil ?_
        refine C.next ?_
        refine C.ret ?_
        refine C.thenRet ?_
        exact leave (vs := [_]) rfl rfl rfl ⟨rfl, trivial⟩ (fun D hD => congrArg Value.bool (ke_err hfx hc3))
      · have hkt := ke_in hfx hc3
        refine C.skip ?_
        refine C.next ?_
        refine C.seq ?_
        refine C.region [(false,0),(false,1),(false,2),(false,3),(false,4),(false,5),(false,6),(false,7),(false,8),(false,9),(false,10),(false,11),(false,12),(false,13),(false,14),(false,15),(false,16),(false,17),(false,18),(false,19),(false,20),(false,21),(false,22),(false,23)] rfl ?_
        refine L.move rfl rfl rfl trivial ?_
        refine L.eql rfl rfl rfl rfl trivial ?_
        refine L.move rfl rfl rfl trivial ?_
        refine' L.and [(false,3),(false,4),(false,5),(false,6)] [(false,7),(false,8),(false,9),(false,10),(false,11),(false,12),(false,13),(false,14),(false,15),(false,16),(false,17),(false,18),(false,19),(false,20),(false,21),(false,22),(false,23)] (s := 107) (p := 111) rfl rfl (fun hg4 => ?_) (fun hg4 => ?_) ?_
        rotate_left
        · refine L.loadBW rfl Tf.a61 rfl (List.Mem.head _) Tf.s61 List.not_mem_nil rfl ⟨_, rfl, rfl⟩ ?_
          refine L.loadBW rfl Tf.a61 rfl (List.Mem.tail _ (List.Mem.head _)) Tf.s61 List.not_mem_nil rfl ⟨_, rfl, rfl⟩ ?_
          refine L.callV rfl rfl rfl (fun D13 hD13 => inside_ok (boundsV (setY y k p (z % 2))).1 (boundsV y).1 _) rfl ⟨_, rfl, rfl⟩ ?_
          refine L.pickT rfl rfl rfl rfl trivial ?_
          exact L.nil fun a w hh => hh.cutK 3 rfl
        · refine L.pass rfl rfl rfl ⟨_, _, rfl, rfl, rfl⟩ ?_
          refine L.pass rfl rfl rfl ⟨_, _, rfl, rfl, rfl⟩ ?_
          refine L.pass rfl rfl rfl ⟨_, _, rfl, rfl, rfl⟩ ?_
          refine L.pickF rfl rfl rfl rfl trivial ?_
          exact L.nil fun a w hh => hh.cutK 3 rfl
        refine L.move rfl rfl rfl trivial ?_
        refine' L.and [(false,8),(false,9),(false,10)] [(false,11),(false,12),(false,13),(false,14),(false,15),(false,16),(false,17),(false,18),(false,19),(false,20),(false,21),(false,22),(false,23)] (s := 112) (p := 115) rfl rfl (fun hg5 => ?_) (fun hg5 => ?_) ?_
        rotate_left
        · refine L.move rfl rfl rfl ⟨_, rfl, rfl⟩ ?_
          refine L.eql rfl rfl rfl rfl ⟨_, rfl, rfl⟩ ?_
          refine L.pickT rfl rfl rfl rfl trivial ?_
          exact L.nil fun a w hh => hh.cutK 2 rfl
        · refine L.pass rfl rfl rfl ⟨_, _, rfl, rfl, rfl⟩ ?_
          refine L.pass rfl rfl rfl ⟨_, _, rfl, rfl, rfl⟩ ?_
          refine L.pickF rfl rfl rfl rfl trivial ?_
          exact L.nil fun a w hh => hh.cutK 2 rfl
        refine L.move rfl rfl rfl trivial ?_
        refine' L.and [(false,12),(false,13),(false,14)] [(false,15),(false,16),(false,17),(false,18),(false,19),(false,20),(false,21),(false,22),(false,23)] (s := 116) (p := 119) rfl rfl (fun hg6 => ?_) (fun hg6 => ?_) ?_
        rotate_left
        · refine L.move rfl rfl rfl ⟨_, rfl, rfl⟩ ?_
          refine L.eql rfl rfl rfl rfl ⟨_, rfl, rfl⟩ ?_
          refine L.pickT rfl rfl rfl rfl trivial ?_
          exact L.nil fun a w hh => hh.cutK 2 rfl
        · refine L.pass rfl rfl rfl ⟨_, _, rfl, rfl, rfl⟩ ?_
          refine L.pass rfl rfl rfl ⟨_, _, rfl, rfl, rfl⟩ ?_
          refine L.pickF rfl rfl rfl rfl trivial ?_
          exact L.nil fun a w hh => hh.cutK 2 rfl
        refine L.move rfl rfl rfl trivial ?_
        refine' L.and [(false,16),(false,17),(false,18),(false,19)] [(false,20),(false,21),(false,22),(false,23)] (s := 120) (p := 124) rfl rfl (fun hg7 => ?_) (fun hg7 => ?_) ?_
        rotate_left
        · refine L.move rfl rfl rfl ⟨_, rfl, rfl⟩ ?_
          refine L.move rfl rfl rfl ⟨_, rfl, rfl⟩ ?_
          refine L.geq rfl rfl rfl rfl ⟨_, rfl, rfl⟩ ?_
          refine L.pickT rfl rfl rfl rfl trivial ?_
          exact L.nil fun a w hh => hh.cutK 3 rfl
        · refine L.pass rfl rfl rfl ⟨_, _, rfl, rfl, rfl⟩ ?_
          refine L.pass rfl rfl rfl ⟨_, _, rfl, rfl, rfl⟩ ?_
          refine L.pass rfl rfl rfl ⟨_, _, rfl, rfl, rfl⟩ ?_
          refine L.pickF rfl rfl rfl rfl trivial ?_
          exact L.nil fun a w hh => hh.cutK 3 rfl
        refine L.move rfl rfl rfl trivial ?_
        refine' L.and [(false,21),(false,22)] [(false,23)] (s := 125) (p := 127) rfl rfl (fun hg8 => ?_) (fun hg8 => ?_) ?_
        rotate_left
        · refine L.callV rfl rfl rfl (fun D14 hD14 => awake_ok _) rfl ⟨_, rfl, rfl⟩ ?_
          refine L.pickT rfl rfl rfl rfl trivial ?_
          exact L.nil fun a w hh => hh.cutK 1 rfl
        · refine L.pass rfl rfl rfl ⟨_, _, rfl, rfl, rfl⟩ ?_
          refine L.pickF rfl rfl rfl rfl trivial ?_
          exact L.nil fun a w hh => hh.cutK 1 rfl
        refine L.assign rfl rfl rfl trivial ?_
        refine L.nil ?_
        refine C.next ?_
        refine C.ret ?_
        exact leave (vs := [_]) rfl rfl rfl ⟨rfl, trivial⟩ (fun D hD => congrArg Value.bool (ke_ok (hkn hkt)))
end Go.Fs
namespace Go.Proofs.Ytjhdcelmgfajbaa.mendKnown
open Go.ChangeShapes Go.WideShapes Go.ChangeAt Go.RowKit Go.Fs
theorem own : ownKnob Try.prog.godebug = none := by kernel_rfl
set_option maxRecDepth 100000 in
theorem lifted (os : Os) (started : os.Started) (H : Type) (enc : TypeId × Value → H) :
    ReturnsInHanded {} Try.checked os 12 .any (Rows.mendKnownSpec.pre6 enc Try.prog Try.f12 Rows.mendKnownRow.domain false) (Rows.mendKnownSpec.post enc Try.prog Try.f12 false true false false) := by
  refine returnsInHanded_of_change (C := Try.checked) own started (by kernel_rfl) Try.func12
    (ChangeSpec.witness6 (enc := enc) (C := Try.checked) false ⟨#[], #[.agg #[.slice none 0 0, .int .i64 0, .slice none 0 0], .int .u8 0, .int .u8 0, .int .u8 0], []⟩ 8 (by kernel_rfl) (by kernel_rfl) (by kernel_rfl) (by kernel_rfl)) ?_
  intro W base args ds gs before hval0 hW hcnd _
  have hval : ∀ (j : Nat) t v, Try.f12.params[j]? = some t → args[j]? = some v → Value.okWide Try.prog W .any base t v := hval0
  have hW' := hW
  obtain ⟨p, q, hA0, hV, rfl, hfz, hnd⟩ := hW'
  have hA : DataW.TrodAll enc Try.prog W 0 (fun _ => true) true Try.f12.params.toList args.toList ds p := hA0
  rw [Try.params12] at hA hval
  obtain ⟨v0, vs0, d0, ds0, p0, q0, hargs, rfl, rfl, h0, r0⟩ := trodAll_cons hA
  obtain ⟨v1, vs1, d1, ds1, p1, q1, rfl, rfl, rfl, h1, r1⟩ := trodAll_cons r0
  obtain ⟨v2, vs2, d2, ds2, p2, q2, rfl, rfl, rfl, h2, r2⟩ := trodAll_cons r1
  obtain ⟨v3, vs3, d3, ds3, p3, q3, rfl, rfl, rfl, h3, r3⟩ := trodAll_cons r2
  obtain ⟨rfl, rfl, rfl⟩ := trodAll_nil r3
  obtain rfl : args = #[v0, v1, v2, v3] := by cases args; simp_all
  obtain ⟨rfl, rfl⟩ := trodVars_none hV
  obtain ⟨x0, hx0⟩ := open_yard Try.underlying25 cells_25 reads_yard (hval 0 25 v0 rfl rfl) h0
  obtain ⟨x1, rfl, rfl, rfl, w1⟩ := open_int Try.underlying5 (hval 1 5 v1 rfl rfl) h1
  have hx1 := inK_of_wf w1
  obtain ⟨x2, rfl, rfl, rfl, w2⟩ := open_int Try.underlying5 (hval 2 5 v2 rfl rfl) h2
  have hx2 := inK_of_wf w2
  obtain ⟨x3, rfl, rfl, rfl, w3⟩ := open_int Try.underlying5 (hval 3 5 v3 rfl rfl) h3
  have hx3 := inK_of_wf w3
  refine ((MendKnown_ok v0 x0 x1 x2 x3 (full W) hx0 hx1 hx2 hx3).calls (full_agrees W)).mono ?_
  rintro e W' ⟨v, D', rfl, rfl, hk⟩
  exact ⟨_, rfl, law_post (by kernel_rfl) (by kernel_rfl) rfl (by kernel_rfl) Try.underlying4 hW rfl hk⟩
theorem over : Rows.mendKnownRow.holds Try.pinned (OpenSpec.ofChange Rows.mendKnownSpec) :=
  OpenClaim.holds_of_wide 12 Try.f12 rfl rfl rfl rfl rfl rfl rfl ⟨rfl, rfl, rfl, rfl, rfl⟩ rfl rfl rfl rfl rfl (by kernel_rfl) Try.func12 (by kernel_rfl)
    (of_decide_eq_true (by kernel_rfl)) (by unfold Func.isWrapper; first | (rw [if_pos (by decide +kernel)]; kernel_rfl) | (rw [if_neg (by decide +kernel)]; exact ⟨rfl, rfl⟩))
    (fun os started H enc _ => lifted os started H enc)
theorem proved : Rows.MendKnownSaid := over
#print axioms proved
end Go.Proofs.Ytjhdcelmgfajbaa.mendKnown
