/- Of the proof of MendTruth: W40, W41, W46. -/
import Derived.Test.YtjhdcelmgfajbaaZMendTruthM
namespace Go.Fs
open Go.Proofs
open C7
/-- A truth of the yard. -/
def Tr (y : YardD) (t : List Pt) : Prop := isTruth y t = true ∧ rightO y.claims [] ((mostT y t : Nat) : Int) = true
theorem sc_tr {y : YardD} : scenesD y [] ≠ [] ↔ ∃ t, Tr y t := by
  rw [show scenesD y [] ≠ [] ↔ (0 : Int) < ((scenesD y []).length : Int) by rw [Ne, ← List.length_eq_zero_iff]; omega, scenes_iff]; rfl
theorem ask_iff {y : YardD} (h : fault y = 0) : askS y = 0 ↔ ∃ t, Tr y t := by
  rw [← sc_tr]
  unfold askS
  rw [if_neg (by omega), Ne, ← ns_nil (yOk h)]
  constructor
  · intro e hn; rw [if_pos hn] at e; cases e
  · intro e; rw [if_neg e]
theorem mm_fold : ∀ (l : List Int) (r : Int × Int), ((l.foldl (fun r n => (min r.1 n, max r.2 n)) r).1 ≤ r.1 ∧ r.2 ≤ (l.foldl (fun r n => (min r.1 n, max r.2 n)) r).2 ∧ ∀ x ∈ l, (l.foldl (fun r n => (min r.1 n, max r.2 n)) r).1 ≤ x ∧ x ≤ (l.foldl (fun r n => (min r.1 n, max r.2 n)) r).2) ∧
    ((l.foldl (fun r n => (min r.1 n, max r.2 n)) r).1 = r.1 ∨ (l.foldl (fun r n => (min r.1 n, max r.2 n)) r).1 ∈ l) ∧ ((l.foldl (fun r n => (min r.1 n, max r.2 n)) r).2 = r.2 ∨ (l.foldl (fun r n => (min r.1 n, max r.2 n)) r).2 ∈ l)
  | [], r => ⟨⟨Int.le_refl _, Int.le_refl _, by simp⟩, Or.inl rfl, Or.inl rfl⟩
  | x :: l, r => by
    rw [List.foldl_cons]
    obtain ⟨⟨h1, h2, h3⟩, h4, h5⟩ := mm_fold l (min r.1 x, max r.2 x)
    generalize l.foldl (fun r n => (min r.1 n, max r.2 n)) (min r.1 x, max r.2 x) = q at h1 h2 h3 h4 h5 ⊢
    simp only at h1 h2 h4 h5
    refine ⟨⟨by omega, by omega, fun z hz => ?_⟩, ?_, ?_⟩
    · rcases List.mem_cons.1 hz with rfl | hz
      · omega
      · exact h3 z hz
    · rcases h4 with h4 | h4
      · rcases Int.le_total r.1 x with h | h
        · exact Or.inl (by omega)
        · exact Or.inr (by rw [h4, show min r.1 x = x by omega]; exact List.mem_cons_self)
      · exact Or.inr (List.mem_cons_of_mem _ h4)
    · rcases h5 with h5 | h5
      · rcases Int.le_total r.2 x with h | h
        · exact Or.inr (by rw [h5, show max r.2 x = x by omega]; exact List.mem_cons_self)
        · exact Or.inl (by omega)
      · exact Or.inr (List.mem_cons_of_mem _ h5)
/-- The bounds, by the truths. -/
theorem bounds_char {y : YardD} (h : fault y = 0) (ht : ∃ t, Tr y t) : (boundsV y).2 = 0 ∧ (∀ t, Tr y t → (boundsV y).1.1 ≤ ((mostT y t : Nat) : Int) ∧ ((mostT y t : Nat) : Int) ≤ (boundsV y).1.2) ∧ (∃ t, Tr y t ∧ ((mostT y t : Nat) : Int) = (boundsV y).1.1) ∧ ∃ t, Tr y t ∧ ((mostT y t : Nat) : Int) = (boundsV y).1.2 := by
  have hne := sc_tr.2 ht
  have mem : ∀ z, z ∈ (scenesD y []).map (fun p => (p.2 : Int)) ↔ ∃ t, Tr y t ∧ ((mostT y t : Nat) : Int) = z := fun z => by
    rw [List.mem_map]
    constructor
    · rintro ⟨p, hp, rfl⟩
      obtain ⟨t, h1, h2, rfl⟩ := mem_scenes.1 hp
      exact ⟨t, ⟨h1, h2⟩, rfl⟩
    · rintro ⟨t, h1, rfl⟩
      exact ⟨_, mem_scenes.2 ⟨t, h1.1, h1.2, rfl⟩, rfl⟩
  have e : ∃ m l, (scenesD y []).map (fun p => (p.2 : Int)) = m :: l := by
    cases e : scenesD y [] with
    | nil => exact absurd e hne
    | cons p l => exact ⟨_, _, rfl⟩
  obtain ⟨m, l, e⟩ := e
  have eb : boundsV y = ((m :: l).foldl (fun r n => (min r.1 n, max r.2 n)) (m, m), 0) := by unfold boundsV; rw [if_neg (by omega), e]
  rw [e] at mem
  obtain ⟨⟨_, _, h3⟩, h4, h5⟩ := mm_fold (m :: l) (m, m)
  rw [eb]
  generalize (m :: l).foldl (fun r n => (min r.1 n, max r.2 n)) (m, m) = q at h3 h4 h5 ⊢
  simp only at h4 h5 ⊢
  refine ⟨trivial, fun t hT => h3 _ ((mem _).2 ⟨t, hT, rfl⟩), (mem _).1 ?_, (mem _).1 ?_⟩
  · rcases h4 with h4 | h4
    · rw [h4]; exact List.mem_cons_self
    · exact h4
  · rcases h5 with h5 | h5
    · rw [h5]; exact List.mem_cons_self
    · exact h5
theorem fold_min_char : ∀ (l : List Int) (a : Int), l.foldl min a ≤ a ∧ (∀ x ∈ l, l.foldl min a ≤ x) ∧ (l.foldl min a = a ∨ l.foldl min a ∈ l)
  | [], a => ⟨Int.le_refl _, by simp, Or.inl rfl⟩
  | x :: l, a => by
    rw [List.foldl_cons]
    obtain ⟨h1, h2, h3⟩ := fold_min_char l (min a x)
    refine ⟨by omega, fun z hz => ?_, ?_⟩
    · rcases List.mem_cons.1 hz with rfl | hz
      · omega
      · exact h2 z hz
    · rcases h3 with h3 | h3
      · rcases Int.le_total a x with h | h
        · exact Or.inl (by omega)
        · exact Or.inr (by rw [h3, show min a x = x by omega]; exact List.mem_cons_self)
      · exact Or.inr (List.mem_cons_of_mem _ h3)
/-- The sure number, by the truths. -/
theorem sure_char {y : YardD} (h : fault y = 0) (ht : ∃ t, Tr y t) : (sureV y).2.2 = 0 ∧ (∃ l, (prB y.chairs.length l).isSome = true ∧ l = (sureV y).1 ∧ ∀ t, Tr y t → (sureV y).2.1 ≤ ((makesR y t l : Nat) : Int)) ∧ ∀ l, (prB y.chairs.length l).isSome = true → ∃ t, Tr y t ∧ ((makesR y t l : Nat) : Int) ≤ (sureV y).2.1 := by
  have ha := (ask_iff h).2 ht
  have hn := (yOk h).len
  obtain ⟨h1, h2, h3, h4, h5⟩ := sure_facts ha
  have hne := sc_tr.2 ht
  have key : ∀ l : List (Int × Int), l.length ≤ 50 → (∀ t, Tr y t → sureR y (nsD y) l ≤ ((makesR y t l : Nat) : Int)) ∧ ∃ t, Tr y t ∧ ((makesR y t l : Nat) : Int) = sureR y (nsD y) l := fun l hl => by
    rw [← sure_eq ha hl]
    have mem : ∀ z, z ∈ ((scenesD y []).map fun p => p.1).map (fun s => (makesN s l : Int)) ↔ ∃ t, Tr y t ∧ ((makesR y t l : Nat) : Int) = z := fun z => by
      rw [List.map_map, List.mem_map]
      constructor
      · rintro ⟨p, hp, rfl⟩
        obtain ⟨t, g1, g2, rfl⟩ := mem_scenes.1 hp
        obtain ⟨hlen, _⟩ := truthOk g1
        exact ⟨t, ⟨g1, g2⟩, by rw [← makesN_R (show t.length ≤ 7 by omega)]; rfl⟩
      · rintro ⟨t, g1, rfl⟩
        obtain ⟨hlen, _⟩ := truthOk g1.1
        exact ⟨_, mem_scenes.2 ⟨t, g1.1, g1.2, rfl⟩, by rw [← makesN_R (show t.length ≤ 7 by omega)]; rfl⟩
    have e : ∃ s r, (scenesD y []).map (fun p => p.1) = s :: r := by
      cases e : scenesD y [] with
      | nil => exact absurd e hne
      | cons p l => exact ⟨_, _, rfl⟩
    obtain ⟨s, r, e⟩ := e
    have es : sureZ ((scenesD y []).map fun p => p.1) l = (((scenesD y []).map fun p => p.1).map fun s => (makesN s l : Int)).foldl min (makesN s l : Int) := by rw [e]; rfl
    obtain ⟨c1, c2, c3⟩ := fold_min_char (((scenesD y []).map fun p => p.1).map fun s => (makesN s l : Int)) (makesN s l : Int)
    rw [es]
    refine ⟨fun t hT => c2 _ ((mem _).2 ⟨t, hT, rfl⟩), (mem _).1 ?_⟩
    rcases c3 with c3 | c3
    · rw [c3, e]; exact List.mem_cons_self
    · exact c3
  refine ⟨h1, ⟨_, h3, rfl, fun t hT => ?_⟩, fun l hl => ?_⟩
  · have := (key (sureV y).1 (by omega)).1 t hT
    omega
  · have hl3 := (prB_ok hn hl).2
    obtain ⟨t, hT, e⟩ := (key l (by omega)).2
    have := sure_most (ns := nsD y) hl
    exact ⟨t, hT, by omega⟩
/-- Some claims (by bits) can be left out. -/
def Pos (y : YardD) (b : Nat) : Prop := ∃ t, isTruth y t = true ∧ ∀ j, j < y.claims.length → b.testBit j = true ∨ rightB y.claims ((mostT y t : Nat) : Int) j = true
theorem pos_iff {y : YardD} (h : fault y = 0) {b : Nat} (hb : b < 2 ^ y.claims.length) : pos y (bitsL b) = true ↔ Pos y b := by
  have h5 := (yOk h).cls
  have hb5 : 2 ^ y.claims.length ≤ 2 ^ 5 := Nat.pow_le_pow_right (by omega) h5
  unfold pos
  rw [decide_eq_true_eq, scenes_iff]
  have mem : ∀ j : Nat, (∃ x ∈ bitsL b, (j : Int) = x) ↔ b.testBit j = true := fun j => by
    constructor
    · rintro ⟨x, hx, rfl⟩
      exact (mem_bitsL hx).2.2
    · intro hj
      refine ⟨(j : Int), ?_, rfl⟩
      unfold bitsL bitsK
      refine List.mem_map.2 ⟨j, List.mem_filter.2 ⟨List.mem_range.2 (bit128 (by omega) hj), hj⟩, rfl⟩
  constructor
  · rintro ⟨t, h1, h2⟩
    refine ⟨t, h1, fun j hj => ?_⟩
    exact (right_iff.1 h2 j hj).imp (mem j).1 id
  · rintro ⟨t, h1, h2⟩
    exact ⟨t, h1, right_iff.2 fun j hj => (h2 j hj).imp (mem j).2 id⟩
/-- The number of claims that have to be left out. -/
theorem leave_char {y : YardD} (h : fault y = 0) : (leaveV y).2 = 0 ∧ ∃ b, b < 2 ^ y.claims.length ∧ Pos y b ∧ (leaveV y).1 = bitsL b ∧ (leaveV y).1.length = onesB b ∧ ∀ c, c < 2 ^ y.claims.length → Pos y c → onesB b ≤ onesB c := by
  obtain ⟨⟨b, h0, e, p⟩, h1⟩ := best_inv h _ (Nat.le_refl _)
  rw [e] at h1
  have el : (leaveV y).1 = bitsL b := by rw [leave_is h]; exact e
  refine ⟨by rw [leave_is h], b, h0, (pos_iff h h0).1 p, el, by rw [el, bl_len], fun c hc hp => ?_⟩
  have := h1 c hc ((pos_iff h hc).2 hp)
  unfold shortB at this
  rw [Bool.or_eq_false_iff, decide_eq_false_iff_not, bl_len, bl_len] at this
  omega
theorem pos_zero {y : YardD} : Pos y 0 ↔ ∃ t, Tr y t := by
  unfold Pos Tr
  constructor
  · rintro ⟨t, h1, h2⟩
    exact ⟨t, h1, right_iff.2 fun j hj => Or.inr ((h2 j hj).resolve_left (by rw [Nat.zero_testBit]; simp))⟩
  · rintro ⟨t, h1, h2⟩
    refine ⟨t, h1, fun j hj => Or.inr ((right_iff.1 h2 j hj).resolve_left ?_)⟩
    rintro ⟨x, hx, _⟩; simp at hx
end Go.Fs
namespace Go.Fs
open Go.Proofs
open C7
section
variable {P : Program} {X : Cx} {γb : Type} [Membership Nat γb] {bad : γb} {all : Array Oper} {K : Act → World → Prop} {Q : Exit → Act → World → Prop}
variable {σ : Slots} {μ : Boxes} {Ds : List Data} {os : List (Bool × Nat)} {fl : Bool} {ix : Nat}
variable {d : Nat} {x y z : Operand} {u v : Value} {ty : TypeId} {pos : String} {aft : Array Edge} {g : Option (Nat × Bool)}
variable {k' : IntKind} {m n : Nat} {t t' : TypeId}
end
theorem fault_of {y : YardD} (h1 : y.chairs.length ≤ 7) (h2 : y.claims.length ≤ 5) (h3 : yardOk y = true) (h4 : unknown y.chairs ≤ 8) : fault y = 0 := by
  unfold fault; rw [if_neg (by omega), if_neg (by rw [h3]; simp), if_neg (by omega)]
theorem ok_of {y : YardD} (h : fault y = 0) : yardOk y = true := by
  unfold fault at h
  split at h
  · omega
  · split at h
    · omega
    · rename_i h2; simpa using h2
end Go.Fs
namespace Go.Fs
open Go.Proofs
open C7
theorem most_seven {y : YardD} {t : List Pt} (hf : fault y = 0) (ht : isTruth y t = true) : mostT y t ≤ 7 := by
  have hn := (yOk hf).len
  obtain ⟨hl, _⟩ := truthOk ht
  obtain ⟨M, hM, hk⟩ := (nu_is hl (show t.length ≤ 7 by omega)).ex
  have hbr := br_lt t (show t.length ≤ 7 by omega)
  have hc : onesB (bset (brokB t) t.length) = 2 * M.length + (missL (bset (brokB t) t.length) M).length := count_all hM hbr
  have hw : whole t = ((List.range t.length).filter fun i => isWhole (t.getD i ⟨0, 0, 0⟩)).length := by
    have e : t = (List.range t.length).map fun i => t.getD i ⟨0, 0, 0⟩ := by
      apply List.ext_getElem (by simp)
      intro i h1 h2
      rw [List.getElem_map, List.getElem_range, List.getD_eq_getElem?_getD, List.getElem?_eq_getElem h1]; rfl
    have e2 : whole t = (((List.range t.length).map fun i => t.getD i ⟨0, 0, 0⟩).filter isWhole).length := congrArg (fun l => (List.filter isWhole l).length) e
    rw [e2, List.filter_map, List.length_map]; rfl
  have ho : onesB (bset (brokB t) t.length) = ((List.range t.length).filter fun i => !isWhole (t.getD i ⟨0, 0, 0⟩)).length := by
    unfold onesB
    refine len_eq_of_iff (nodup_bits7 _) (List.nodup_range.filter _) fun i => ?_
    rw [mem_bits7 hbr, List.mem_filter, List.mem_range, bset_bit, Bool.and_eq_true, decide_eq_true_eq]
    constructor
    · rintro ⟨h1, h2⟩
      refine ⟨h1, ?_⟩
      rw [brok_at (z := t.getD i ⟨0, 0, 0⟩) (by rw [List.getD_eq_getElem?_getD, List.getElem?_eq_getElem h1]; rfl)] at h2; exact h2
    · rintro ⟨h1, h2⟩
      exact ⟨h1, by rw [brok_at (z := t.getD i ⟨0, 0, 0⟩) (by rw [List.getD_eq_getElem?_getD, List.getElem?_eq_getElem h1]; rfl)]; exact h2⟩
  have h2 := filter_two (fun i => isWhole (t.getD i ⟨0, 0, 0⟩)) (List.range t.length)
  rw [List.length_range] at h2
  have e1 : (sceneD y t).whole = whole t := rfl
  have e2 : (sceneD y t).broken = bset (brokB t) t.length := rfl
  unfold mostT mostS
  rw [e1, ← hk]
  omega
/-- Claims that are valid, and right if the most chairs are so many. -/
def ClOk (m : Nat) (cl : List (Int × Int)) : Prop := ∀ r ∈ cl, 0 ≤ r.1 ∧ r.1 ≤ (m : Int) ∧ (m : Int) ≤ r.2 ∧ r.2 ≤ 7
theorem cl_go {m : Nat} {cl : List (Int × Int)} {a b : Int} (h : ClOk m cl) (hm : m ≤ 7) (ha : 0 ≤ a) (hb : 0 ≤ b) : ClOk m (cl ++ [(max 0 ((m : Int) - a), min 7 ((m : Int) + b))]) := fun r hr => by
  rcases List.mem_append.1 hr with hr | hr
  · exact h r hr
  · rw [List.mem_singleton] at hr; subst hr; simp only; omega
theorem cl_fault {y : YardD} {cl : List (Int × Int)} {m : Nat} (hf : fault y = 0) (hl : cl.length ≤ 5) (h : ClOk m cl) : fault { y with claims := cl } = 0 := by
  have hyo := yOk hf
  refine fault_of hyo.len hl ?_ (show unknown y.chairs ≤ 8 from unk_8 hf)
  have := ok_of hf
  unfold yardOk at this ⊢
  rw [Bool.and_eq_true, Bool.and_eq_true] at this ⊢
  refine ⟨this.1, List.all_eq_true.2 fun r hr => ?_⟩
  have h1 := h r hr
  unfold claimOk
  rw [Bool.and_eq_true, Bool.and_eq_true, decide_eq_true_eq, decide_eq_true_eq, decide_eq_true_eq]
  omega
theorem cl_tr {y : YardD} {t : List Pt} {cl : List (Int × Int)} (ht : isTruth y t = true) (h : ClOk (mostT y t) cl) : Tr { y with claims := cl } t := by
  refine ⟨ht, right_iff.2 fun j hj => Or.inr ?_⟩
  rw [rightB_at (List.getElem?_eq_getElem hj)]
  have := h _ (List.getElem_mem hj)
  exact inB_iff.2 ⟨this.2.1, this.2.2.1⟩
theorem truth_facts {x : YardD} {t : List Pt} (hf : fault x = 0) (hT : Tr x t) : (boundsV x).2 = 0 ∧ (sureV x).2.2 = 0 ∧ (leaveV x).2 = 0 ∧ (leaveV x).1.length = 0 ∧ firstV x = (0, 7) ∧ ((boundsV x).1.1 ≤ ((mostT x t : Nat) : Int) ∧ ((mostT x t : Nat) : Int) ≤ (boundsV x).1.2) ∧ (sureV x).2.1 ≤ (boundsV x).1.1 ∧ (prB x.chairs.length (sureV x).1).isSome = true ∧ (sureV x).2.1 ≤ ((makesR x t (sureV x).1 : Nat) : Int) := by
  have hn := (yOk hf).len
  have h5 := (yOk hf).cls
  obtain ⟨b1, b2, ⟨t3, b3, b3'⟩, _⟩ := bounds_char hf ⟨t, hT⟩
  obtain ⟨s1, ⟨l, s2, rfl, s3⟩, _⟩ := sure_char hf ⟨t, hT⟩
  obtain ⟨l1, b, l2, l3, _, l4, l5⟩ := leave_char hf
  have h0 := l5 0 (Nat.two_pow_pos _) (pos_zero.2 ⟨t, hT⟩)
  have h00 : onesB 0 = 0 := by decide
  have hm := makes_most hf b3.1 s2
  have hs := s3 t3 b3
  refine ⟨b1, s1, l1, by omega, ?_, b2 t hT, by omega, s2, s3 t hT⟩
  unfold firstV
  rw [if_neg (by omega)]
  have : (List.range x.claims.length).find? (firstP x) = none := by
    rw [List.find?_eq_none]
    intro i hi hp
    rw [List.mem_range] at hi
    rw [firstP_iff] at hp
    refine (sc_tr (y := takeC x (i + 1))).2 ⟨t, hT.1, right_iff.2 fun j hj => Or.inr ?_⟩ hp
    have hj' : j < (x.claims.take (i + 1)).length := hj
    rw [List.length_take] at hj'
    have := (right_iff.1 hT.2 j (by omega)).resolve_left (by rintro ⟨z, hz, _⟩; simp at hz)
    rw [rightB_at (List.getElem?_eq_getElem (show j < x.claims.length by omega))] at this
    have e : (takeC x (i + 1)).claims[j]? = some (x.claims[j]'(by omega)) := by
      show (x.claims.take (i + 1))[j]? = _
      rw [List.getElem?_take, if_pos (by omega), List.getElem?_eq_getElem]
    rw [rightB_at e]; exact this
  rw [this]
theorem mt_prove {x : YardD} {t : List Pt} (hf : fault x = 0) (hT : Tr x t) : (decide ((playV x t).2 = 0) && rightO x.claims [] (playV x t).1) = true := by
  rw [play_eq hf hT.1]; simpa using hT.2
theorem mt_one {x : YardD} {t : List Pt} {m : Nat} {pt : Bool} {pe qe : Int} (f1 : (boundsV x).2 = 0) (f2 : (sureV x).2.2 = 0) (f3 : (leaveV x).2 = 0) (f4 : (leaveV x).1.length = 0) (f5 : firstV x = (0, 7)) (f6 : (boundsV x).1.1 ≤ (m : Int) ∧ (m : Int) ≤ (boundsV x).1.2) (p1 : pe = 0) (b1 : qe = 0) (hp : pt = true) (f7 : (sureV x).2.1 ≤ (boundsV x).1.1) (b2 : (bergeV x t).2.1 = (m : Int)) :
    (((((((((((decide ((0 : Int) ≠ 0) || decide ((boundsV x).2 ≠ 0)) || decide ((sureV x).2.2 ≠ 0)) || decide ((leaveV x).2 ≠ 0)) || decide (((leaveV x).1.length : Int) ≠ 0)) || decide ((firstV x).2 ≠ 7)) || decide (pe ≠ 0)) || decide (qe ≠ 0)) || !pt) || !(decide ((m : Int) ≥ (boundsV x).1.1) && decide ((m : Int) ≤ (boundsV x).1.2))) || decide ((boundsV x).1.1 < (sureV x).2.1)) || decide ((bergeV x t).2.1 ≠ (m : Int))) = false := by
  rw [f1, f2, f3, f4, f5, p1, b1, hp, b2, decide_eq_true (show (m : Int) ≥ (boundsV x).1.1 from f6.1), decide_eq_true f6.2, decide_eq_false (show ¬ (boundsV x).1.1 < (sureV x).2.1 by omega)]; simp
theorem mt_two {x : YardD} {t : List Pt} (hf : fault x = 0) (hT : Tr x t) (f8 : (prB x.chairs.length (sureV x).1).isSome = true) (f9 : (sureV x).2.1 ≤ ((makesR x t (sureV x).1 : Nat) : Int)) (_p2 : (pairsV x t).length ≤ 3) (p3 : (prB x.chairs.length (pairsV x t)).isSome = true) (p4 : makesR x t (pairsV x t) = mostT x t) (b3 : isPf t (bergeV x t).1 = true) (b4 : boundB (sceneD x t) (orP (bergeV x t).1) = mostT x t) :
    ((((((decide (((sureV x).1.length : Int) ≤ 3) && (prB x.chairs.length (sureV x).1).isSome) && decide (((makesR x t (sureV x).1 : Nat) : Int) ≥ (sureV x).2.1)) && provePairsV x t (pairsV x t) ((mostT x t : Nat) : Int)) && !provePairsV x t (pairsV x t) (((mostT x t : Nat) : Int) + 1)) && proveBergeV x t (bergeV x t).1 ((mostT x t : Nat) : Int)) && true) = true := by
  have hl := (prB_ok (yOk hf).len f8).2
  rw [pp_eq hf hT.1, pp_eq hf hT.1, pb_eq hf hT.1, f8, p3, p4, b3, b4, decide_eq_true (show ((sureV x).1.length : Int) ≤ 3 by omega), decide_eq_true (show ((makesR x t (sureV x).1 : Nat) : Int) ≥ (sureV x).2.1 from f9), decide_eq_false (show ¬ ((mostT x t : Nat) : Int) ≥ ((mostT x t : Nat) : Int) + 1 by omega)]; simp
theorem in_ok (n : Int) (r : Int × Int) (D : Data) : Fn Try.prog 73 #[.int .i64 n, k2V r] D (fun _ v => v = .bool (decide (n ≥ r.1) && decide (n ≤ r.2))) := by
  refine enter 15 Try.func73 rfl rfl rfl rfl fun h0 => ?_
  refine C.seq ?_
  refine C.region [(false,0),(false,1)] rfl ?_
  refine L.boxD rfl rfl rfl rfl trivial (fun q1 E1 hE1 hB1 => ?_)
  refine L.assign rfl rfl rfl trivial ?_
  refine L.nil ?_
  refine C.next ?_
  refine C.seq ?_
  refine C.region [(false,0),(false,1),(false,2),(false,3),(false,4),(false,5),(false,6),(false,7),(false,8),(false,9),(false,10)] rfl ?_
  refine L.move rfl rfl rfl trivial ?_
  refine L.fieldAddr rfl Tf.f61_0 rfl rfl trivial ?_
  refine L.loadD1 rfl (k := 0) Tf.a3 rfl hB1 (by first | simp | assumption) rfl List.not_mem_nil rfl trivial ?_
  refine L.geq rfl rfl rfl rfl trivial ?_
  refine L.move rfl rfl rfl trivial ?_
  refine' L.and [(false,5),(false,6),(false,7),(false,8),(false,9)] [(false,10)] (s := 9) (p := 14) rfl rfl (fun hg1 => ?_) (fun hg1 => ?_) ?_
  rotate_left
  · refine L.move rfl rfl rfl ⟨_, rfl, rfl⟩ ?_
    refine L.fieldAddr rfl Tf.f61_1 rfl rfl ⟨_, rfl, rfl⟩ ?_
    refine L.loadD1 rfl (k := 1) Tf.a3 rfl hB1 (by first | simp | assumption) rfl List.not_mem_nil rfl ⟨_, rfl, rfl⟩ ?_
    refine L.leq rfl rfl rfl rfl ⟨_, rfl, rfl⟩ ?_
    refine L.pickT rfl rfl rfl rfl trivial ?_
    exact L.nil fun a w hh => hh.cutK 4 rfl
  · refine L.pass rfl rfl rfl ⟨_, _, rfl, rfl, rfl⟩ ?_
    refine L.pass rfl rfl rfl ⟨_, _, rfl, rfl, rfl⟩ ?_
    refine L.pass rfl rfl rfl ⟨_, _, rfl, rfl, rfl⟩ ?_
    refine L.pass rfl rfl rfl ⟨_, _, rfl, rfl, rfl⟩ ?_
    refine L.pickF rfl rfl rfl rfl trivial ?_
    exact L.nil fun a w hh => hh.cutK 4 rfl
  refine L.assign rfl rfl rfl trivial ?_
  refine L.nil ?_
  refine C.next ?_
  refine C.ret ?_
  exact leave (vs := [_]) rfl rfl rfl ⟨rfl, trivial⟩ (fun D hD => rfl)
set_option maxHeartbeats 1000000 in
theorem Claimed_ok (yv sv : Value) (y : YardD) (w : Int) (ws : List Int) (D : Data) (hy : YardIs D yv y) (hf0 : fault y = 0) (hw : 0 ≤ w ∧ w ≤ 65535) (hS : Sl D (RK .u16) 1 sv ws) : Fn Try.prog 72 #[yv, .int .u16 w, sv] D (fun D' v => ∃ xv tv x t, v = .tuple #[xv, tv] ∧ YardIs D' xv x ∧ Sl D' RP 3 tv t ∧ fault x = 0 ∧ Tr x t) := by
  have hy0 := hy
  obtain ⟨cv, qv, rfl, hc, hq⟩ := hy
  obtain ⟨wn, rfl⟩ := Int.eq_ofNat_of_zero_le hw.1
  have hyo := yOk hf0
  have hn7 := hyo.len
  have hu8 := unk_8 hf0
  have hp8p := Nat.two_pow_pos (unknown y.chairs)
  have hp8 : 2 ^ unknown y.chairs ≤ 2 ^ 8 := Nat.pow_le_pow_right (by omega) hu8
  refine enter 57 Try.func72 rfl rfl rfl rfl fun h0 => ?_
  refine C.seq ?_
  refine C.region [(false,0),(false,1),(false,2)] rfl ?_
  refine L.boxD rfl rfl rfl rfl trivial (fun q1 E1 hE1 hB1 => ?_)
  refine L.alloc rfl Tf.z25 rfl rfl trivial (fun q2 => ?_)
  refine L.assign rfl rfl rfl trivial ?_
  refine L.nil ?_
  refine C.next ?_
  refine C.seq ?_
  refine C.draw [] 3 [0,1,2,3,4,5,6,7] [false,true,true,true,true,true,false,false] [(false,0),(true,1),(true,2),(true,3),(true,4),(true,5),(false,6),(false,7)] Tf.follows (fun _ _ _ h => np_body (P := Try.prog) (fn := Try.f72) _ _ _ h) (by kernel_rfl) rfl ?_
  refine L.loadDW rfl Tf.a25 rfl hB1 (by first | simp | assumption) Tf.s25 List.not_mem_nil rfl trivial ?_
  refine L.move rfl rfl rfl trivial ?_
  refine L.convI rfl Try.underlying82 Try.underlying3 rfl (by simp only [inK]; omega) rfl trivial ?_
  refine L.loadDW rfl Tf.a25 rfl hB1 (by first | simp | assumption) Tf.s25 List.not_mem_nil rfl trivial ?_
  refine L.callV rfl rfl rfl (fun D1 hD1 => Many_ok _ y _ (hy0.up (hD1 _ (by simp))) (by omega) (by omega)) rfl trivial ?_
  refine L.rem rfl rfl rfl (by omega) (by omega) (by simp only [inK]; exact mod_in (by omega)) rfl trivial ?_
  refine L.call rfl rfl rfl (fun D2 hD2 => Nth_ok2 _ y _ (wn % 2 ^ unknown y.chairs) _ rfl (hy0.up (hD2 _ (by simp))) (by omega) (by have := Nat.mod_lt wn (Nat.two_pow_pos (unknown y.chairs)); omega)) rfl trivial (fun v2 D2 hD2 hp2 => ?_)
  obtain ⟨t, ht, hit⟩ := nth_open hyo hp2
  obtain ⟨hlen, hbt⟩ := truthOk hit
  have hmt := most_le hf0 hit
  refine L.assign rfl rfl rfl trivial ?_
  refine L.nil ?_
  refine C.next ?_
  refine C.seq ?_
  refine C.region [(false,0),(false,1),(false,2)] rfl ?_
  refine L.loadDW rfl Tf.a25 rfl hB1 (by first | simp | assumption) Tf.s25 List.not_mem_nil rfl trivial ?_
  refine L.alloc rfl Tf.z25 rfl rfl trivial (fun q3 => ?_)
  refine L.storeW rfl rfl rfl rfl Tf.s25 (by first | rfl | (simp only [ints_length, *]; done) | (simp only [ints_length, *]; rfl) | (simp only [ints_length, *]; omega)) (by first | rfl | (simp only [ints_length, *]; done) | (simp only [ints_length, *]; rfl) | (simp only [ints_length, *]; omega)) (Has.head) (cell1_yard hc.cell1 hq.cell1) trivial ?_
  refine L.nil ?_
  refine C.next ?_
  refine C.seq ?_
  refine C.region [(false,0),(false,1)] rfl ?_
  refine L.fieldAddr rfl Tf.f25_2 rfl rfl trivial ?_
  refine L.store rfl rfl rfl rfl Tf.s23 (Has.head) (by simp) rfl (by simp [cell1]) trivial ?_
  refine L.nil ?_
  refine C.next ?_
  refine C.seq ?_
  refine C.draw [] 2 [0,1,2,3,4,5] [false,true,true,true,false,false] [(false,0),(true,1),(true,2),(true,3),(false,4),(false,5)] Tf.follows (fun _ _ _ h => np_body (P := Try.prog) (fn := Try.f72) _ _ _ h) (by kernel_rfl) rfl ?_
  refine L.loadDW rfl Tf.a25 rfl hB1 (by first | simp | assumption) Tf.s25 List.not_mem_nil rfl trivial ?_
  refine L.move rfl rfl rfl trivial ?_
  refine L.loadDW rfl Tf.a25 rfl hB1 (by first | simp | assumption) Tf.s25 List.not_mem_nil rfl trivial ?_
  refine L.call rfl rfl rfl (fun D3 hD3 => Pairings_ok hn7 _ _ (hy0.up (hD3 _ (by simp)))) rfl trivial (fun v3 D3 hD3 hp3 => ?_)
  have hps := hp3
  refine L.callV rfl rfl rfl (fun D4 hD4 => Most_ok _ _ _ y t _ _ (hy0.up (hD4 _ (by simp))) (ht.up RP.up (hD4 _ (by simp))) (hps.up RLP.up (hD4 _ (by simp))) hyo hlen hbt (prs_in hn7 hlen)) rfl trivial ?_
  refine L.assign rfl rfl rfl trivial ?_
  refine L.nil ?_
  refine C.next ?_
  refine C.seq ?_
  refine C.seq ?_
  rw [most_is hlen (by omega)]
  have hmt7 := most_seven hf0 hit
  refine C.region [(false,0)] rfl ?_
  refine L.assign rfl rfl rfl trivial ?_
  refine L.nil ?_
  refine C.next ?_
  refine C.block ?_
  refine C.loopR (γ := Nat × List (Int × Int) × Value × Boxes) (fun g => 6 - g.1) (fun g => (g.1 ≤ 5 ∧ g.2.1.length = g.1 ∧ ClOk (mostT y t) g.2.1) ∧ Acc 67 2 g.2.2.1 g.2.1.length (prC g.2.1) g.2.2.2) (fun g => [(11, .int .i64 (g.1 : Int))]) [(10, _), (9, _), (8, _), (7, _), (6, _), (2, _)] (fun g => (q3, .cells [cv, .int .i64 y.fit, g.2.2.1].toArray 25 (0, 0)) :: (q2, .cells [.slice none 0 0, .int .i64 0, .slice none 0 0].toArray 25 (0, 0)) :: (g.2.2.2 ++ [])) (fun g => [D3, D2, E1, D]) (0, [], .slice none 0 0, []) ⟨⟨by simp, rfl, by simp [ClOk]⟩, by simpa [prC] using Acc.nil⟩ ⟨(by first | rfl | (show some (Value.int _ _) = some (Value.int _ _); congr 2; omega)), trivial⟩ ⟨rfl, rfl, rfl, rfl, rfl, rfl, trivial⟩ (List.Sublist.refl _) (ds_same) ?_
  rintro ⟨k, cl, v, ν⟩ ⟨⟨h1, h2, h3⟩, ha⟩
  simp only at h1 h2 h3 ha
  refine C.seq ?_
  refine C.seq ?_
  refine C.region [(false,0),(false,1),(false,2),(false,3),(false,4)] rfl ?_
  refine L.move rfl rfl rfl trivial ?_
  refine L.move rfl rfl rfl trivial ?_
  refine L.call rfl rfl rfl (fun D5 hD5 => word_ok _ ws 0 _ (hS.up RK.up (hD5 _ (by simp))) (by omega) (by omega)) rfl trivial (fun v5 D5 hD5 hp5 => ?_)
  obtain ⟨rfl, hwa, hwb⟩ := hp5
  refine L.rem rfl rfl rfl (by omega) (by omega) (by simp only [inK]; omega) rfl trivial ?_
  refine L.lss rfl rfl rfl rfl trivial ?_
  refine L.nil ?_
  refine C.next ?_
  refine C.condD rfl (fun hc1 => ?_) (fun hc1 => ?_)
  · have hk5 : k < 5 := by have := Int.emod_lt_of_pos (wordV ws 0) (show (0 : Int) < 6 by omega); omega
    refine C.skip ?_
    refine C.next ?_
    refine C.seq ?_
    refine C.block ?_
    refine C.seq ?_
    refine C.region [(false,0),(false,1),(false,2),(false,3),(false,4)] rfl ?_
    refine L.move rfl rfl rfl trivial ?_
    refine L.move rfl rfl rfl trivial ?_
    refine L.add rfl rfl rfl (by simp only [inK]; omega) rfl trivial ?_
    refine L.call rfl rfl rfl (fun D6 hD6 => word_ok _ ws ((k : Int) + 1) _ (hS.up RK.up (hD6 _ (by simp))) (by omega) (by omega)) rfl trivial (fun v6 D6 hD6 hp6 => ?_)
    obtain ⟨rfl, hwc, hwd⟩ := hp6
    refine L.assign rfl rfl rfl trivial ?_
    refine L.nil ?_
    refine C.next ?_
    generalize hU : wordV ws ((k : Int) + 1) = u at hwc hwd ⊢
    refine C.region [(false,0),(false,1),(false,2),(false,3),(false,4),(false,5),(false,6),(false,7),(false,8),(false,9),(false,10),(false,11),(false,12),(false,13),(false,14),(false,15),(false,16),(false,17)] rfl ?_
    refine L.fieldAddr rfl Tf.f25_2 rfl rfl trivial ?_
    refine L.loadB1 rfl Tf.a23 rfl (List.Mem.head _) rfl List.not_mem_nil rfl trivial ?_
    refine L.move rfl rfl rfl trivial ?_
    refine L.move rfl rfl rfl trivial ?_
    refine L.rem rfl rfl rfl (by omega) (by omega) (by simp only [inK]; omega) rfl trivial ?_
    refine L.sub rfl rfl rfl (by simp only [inK]; omega) rfl trivial ?_
    refine L.max2 rfl rfl rfl rfl trivial ?_
    refine L.move rfl rfl rfl trivial ?_
    refine L.move rfl rfl rfl trivial ?_
    refine L.quo rfl rfl rfl (by omega) (by omega) (by simp only [inK]; omega) rfl trivial ?_
    refine L.rem rfl rfl rfl (by omega) (by omega) (by simp only [inK]; omega) rfl trivial ?_
    refine L.add rfl rfl rfl (by simp only [inK]; omega) rfl trivial ?_
    refine L.min2 rfl rfl rfl rfl trivial ?_
    refine L.build (cs := [.int .i64 (max 0 (((mostT y t : Nat) : Int) - u % 3)), .int .i64 (min 7 (((mostT y t : Nat) : Int) + u / 8 % 3))]) rfl Tf.p67 Tf.z67 rfl rfl rfl trivial ?_
    refine L.buildSlice rfl Try.underlying23 Tf.s67 Tf.z67 rfl rfl rfl rfl (.cons rfl rfl .nil) rfl trivial (fun b901 D901 hD901 hA901 => ?_)
    refine L.append (A := [(_, _), (_, _)]) (B := []) rfl Try.underlying23 rfl rfl Tf.s67 Tf.z67 rfl Tf.i67 rfl rfl rfl ha (Src.lit hA901) (by simp) rfl (prC_lenn _ _ rfl) (by simp [cell1]) (by omega) (Or.inl rfl) rfl trivial (fun v7 ν7 ha7 => ?_)
    have hn7x : Acc 67 2 v7 (cl ++ [(max 0 (((mostT y t : Nat) : Int) - u % 3), min 7 (((mostT y t : Nat) : Int) + u / 8 % 3))]).length (prC (cl ++ [(max 0 (((mostT y t : Nat) : Int) - u % 3), min 7 (((mostT y t : Nat) : Int) + u / 8 % 3))])) ν7 := by rw [prC_snoc]; simpa using ha7
    refine L.fieldAddr rfl Tf.f25_2 rfl rfl trivial ?_
    refine L.store rfl rfl rfl hn7x.cells1 Tf.s23 (Has.head) (by simp) rfl hn7x.cell1 trivial ?_
    refine L.nil ?_
    refine C.blockEnd ?_
    refine C.next ?_
    refine C.region [(false,0),(false,1),(false,2)] rfl ?_
    refine L.move rfl rfl rfl trivial ?_
    refine L.add rfl rfl rfl (by simp only [inK]; omega) rfl trivial ?_
    refine L.assign rfl rfl rfl trivial ?_
    refine L.nil ?_
    exact C.againR 31 (k + 1, cl ++ [(max 0 (((mostT y t : Nat) : Int) - u % 3), min 7 (((mostT y t : Nat) : Int) + u / 8 % 3))], v7, ν7) ⟨⟨by simp only; omega, by rw [List.length_append]; exact congrArg (· + 1) h2, cl_go h3 (by omega) (by omega) (by omega)⟩, hn7x⟩ (by simp only; omega) ⟨(by first | rfl | (show some (Value.int _ _) = some (Value.int _ _); congr 2; omega)), trivial⟩ rfl rfl (List.Sublist.refl _) (fun D h => ⟨D, List.Mem.tail _ (List.Mem.tail _ (List.Mem.tail _ (h))), Le.refl D⟩)
  · refine C.exit ?_
    refine C.thenExit ?_
    refine C.thenExit ?_
    refine C.blockExit ?_
    refine C.next ?_
    refine C.seq ?_
    refine C.region [(false,0),(false,1),(false,2),(false,3)] rfl ?_
    refine L.loadBW rfl Tf.a25 rfl (List.Mem.head _) Tf.s25 List.not_mem_nil rfl trivial ?_
    refine L.move rfl rfl rfl trivial ?_
    refine L.storeW rfl rfl rfl rfl Tf.s25 (by first | rfl | (simp only [ints_length, *]; done) | (simp only [ints_length, *]; rfl) | (simp only [ints_length, *]; omega)) (by first | rfl | (simp only [ints_length, *]; done) | (simp only [ints_length, *]; rfl) | (simp only [ints_length, *]; omega)) (.tail (Has.head)) (cell1_yard hc.cell1 ha.cell1) trivial ?_
    refine L.assign rfl rfl rfl trivial ?_
    refine L.nil ?_
    refine C.next ?_
    refine C.ret ?_
    refine Q.freeze (A := [(_, _), (_, _)]) (B := []) ha rfl (fun D2 hD2 hF => ?_)
    exact leave (vs := [_, _]) rfl rfl rfl ⟨⟨_, _, _, rfl, (List.Mem.tail _ (List.Mem.head _)), Or.inr ⟨Tf.a25, Tf.s25, rfl⟩⟩, rfl, trivial⟩ (fun D' hD => ⟨_, _, { y with claims := cl }, t, rfl, ⟨cv, v, rfl, hc.up RCh.up (hD _ (by simp)), (hF.prs rfl (by omega)).up R2.up (hD _ (by simp))⟩, ht.up RP.up (hD _ (by simp)), cl_fault hf0 (by omega) h3, cl_tr hit h3⟩)
set_option maxHeartbeats 2000000 in
theorem MendTruth_ok (yv sv : Value) (y : YardD) (w : Int) (ws : List Int) (D : Data) (hy : YardIs D yv y) (hw : 0 ≤ w ∧ w ≤ 65535) (hS : Sl D (RK .u16) 1 sv ws) : Fn Try.prog 19 #[yv, .int .u16 w, sv] D (fun _ v => v = .bool true) := by
  have hy0 := hy
  obtain ⟨cv, qv, rfl, hc, hq⟩ := hy
  refine enter 192 Try.func19 rfl rfl rfl rfl fun h0 => ?_
  refine C.seq ?_
  refine C.region [(false,0),(false,1)] rfl ?_
  refine L.boxD rfl rfl rfl rfl trivial (fun q1 E1 hE1 hB1 => ?_)
  refine L.assign rfl rfl rfl trivial ?_
  refine L.nil ?_
  refine C.next ?_
  refine C.seq ?_
  refine C.seq ?_
  refine C.region [(false,0),(false,1),(false,2)] rfl ?_
  refine L.loadDW rfl Tf.a25 rfl hB1 (by first | simp | assumption) Tf.s25 List.not_mem_nil rfl trivial ?_
  refine L.callV rfl rfl rfl (fun D1 hD1 => ready_ok _ y _ (hy0.up (hD1 _ (by simp)))) rfl trivial ?_
  refine L.not rfl rfl rfl trivial ?_
  refine L.nil ?_
  refine C.next ?_
  refine C.cond rfl (fun hc1 => ?_) (fun hc1 => ?_)
  · refine C.seq ?_
    refine C.region [(false,0),(false,1)] rfl ?_
    refine L.callV rfl rfl rfl (fun D2 hD2 => awake_ok _) rfl trivial ?_
    refine L.assign rfl rfl rfl trivial ?_
    refine L.nil ?_
    refine C.next ?_
    refine C.ret ?_
    refine C.thenRet ?_
    exact leave (vs := [_]) rfl rfl rfl ⟨rfl, trivial⟩ (fun D hD => rfl)
  · obtain ⟨hthin, hf0⟩ := ready_inB hc1
    obtain ⟨hlc, hlq⟩ := thin_len hthin
    refine C.skip ?_
    refine C.next ?_
    refine C.seq ?_
    refine C.region [(false,0),(false,1),(false,2),(false,3),(false,4),(false,5),(false,6),(false,7),(false,8),(false,9)] rfl ?_
    refine L.loadDW rfl Tf.a25 rfl hB1 (by first | simp | assumption) Tf.s25 List.not_mem_nil rfl trivial ?_
    refine L.move rfl rfl rfl trivial ?_
    refine L.move rfl rfl rfl trivial ?_
    refine L.call rfl rfl rfl (fun D3 hD3 => Claimed_ok _ _ y w ws _ (hy0.up (hD3 _ (by simp))) hf0 hw (hS.up RK.up (hD3 _ (by simp)))) rfl trivial (fun v3 D3 hD3 hp3 => ?_)
    obtain ⟨xv, tv, x, t, rfl, hxr, htr, hfx, hT⟩ := hp3
    obtain ⟨xc, xq, rfl, hxc, hxq⟩ := id hxr
    obtain ⟨hlen, hbt⟩ := truthOk hT.1
    have hyx := yOk hfx
    have hx7 := hyx.len
    have hx5 := hyx.cls
    have hmt := most_le hfx hT.1
    obtain ⟨f1, f2, f3, f4, f5, f6, f7, f8, f9⟩ := truth_facts hfx hT
    obtain ⟨p1, p2, p3, p4⟩ := pairs_facts hfx hT.1
    obtain ⟨b1, b2, b3, b4⟩ := berge_facts hfx hT.1
    have hpis := prB_lt hlen f8
    have hls3 := (prB_ok hx7 f8).2
    refine L.move rfl rfl rfl trivial ?_
    refine L.extract rfl rfl rfl rfl trivial ?_
    refine L.extract rfl rfl rfl rfl trivial ?_
    refine L.alloc rfl Tf.z25 rfl rfl trivial (fun q2 => ?_)
    refine L.storeW rfl rfl rfl rfl Tf.s25 (by first | rfl | (simp only [ints_length, *]; done) | (simp only [ints_length, *]; rfl) | (simp only [ints_length, *]; omega)) (by first | rfl | (simp only [ints_length, *]; done) | (simp only [ints_length, *]; rfl) | (simp only [ints_length, *]; omega)) (Has.head) (cell1_yard hxc.cell1 hxq.cell1) trivial ?_
    refine L.assign rfl rfl rfl trivial ?_
    refine L.nil ?_
    refine C.next ?_
    refine C.seq ?_
    refine C.region [(false,0),(false,1),(false,2),(false,3),(false,4),(false,5),(false,6),(false,7),(false,8),(false,9)] rfl ?_
    refine L.loadBW rfl Tf.a25 rfl (List.Mem.head _) Tf.s25 List.not_mem_nil rfl trivial ?_
    refine L.call rfl rfl rfl (fun D4 hD4 => YardL_ok _ x _ (hxr.up (hD4 _ (by simp))) (by omega) (by omega)) rfl trivial (fun v4 D4 hD4 hp4 => ?_)
    have hwx := hp4
    refine L.move rfl rfl rfl trivial ?_
    refine L.call rfl rfl rfl (fun D5 hD5 => TruthL_ok _ t _ (htr.up RP.up (hD5 _ (by simp))) (by omega)) rfl trivial (fun v5 D5 hD5 hp5 => ?_)
    have hz := hp5
    refine L.callV rfl rfl rfl (fun D6 hD6 => Play2_ok _ _ x t _ (hwx.up (hD6 _ (by simp))) (hz.up RP.up (hD6 _ (by simp))) hfx hT.1) rfl trivial ?_
    refine L.move rfl rfl rfl trivial ?_
    refine L.extract rfl rfl rfl rfl trivial ?_
    refine L.extract rfl rfl rfl rfl trivial ?_
    refine L.assign rfl rfl rfl trivial ?_
    refine L.assign rfl rfl rfl trivial ?_
    refine L.nil ?_
    refine C.next ?_
    refine C.seq ?_
    refine C.region [(false,0),(false,1),(false,2),(false,3),(false,4),(false,5),(false,6),(false,7),(false,8)] rfl ?_
    refine L.loadBW rfl Tf.a25 rfl (List.Mem.head _) Tf.s25 List.not_mem_nil rfl trivial ?_
    refine L.call rfl rfl rfl (fun D7 hD7 => YardL_ok _ x _ (hxr.up (hD7 _ (by simp))) (by omega) (by omega)) rfl trivial (fun v7 D7 hD7 hp7 => ?_)
    have hwx := hp7
    refine L.callV rfl rfl rfl (fun D8 hD8 => Bounds_ok _ x _ (hwx.up (hD8 _ (by simp)))) rfl trivial ?_
    refine L.move rfl rfl rfl trivial ?_
    refine L.extract rfl rfl rfl rfl trivial ?_
    refine L.extract rfl rfl rfl rfl trivial ?_
    refine L.alloc rfl Tf.z61 rfl rfl trivial (fun q3 => ?_)
    refine L.storeW rfl rfl rfl rfl Tf.s61 (by first | rfl | (simp only [ints_length, *]; done) | (simp only [ints_length, *]; rfl) | (simp only [ints_length, *]; omega)) (by first | rfl | (simp only [ints_length, *]; done) | (simp only [ints_length, *]; rfl) | (simp only [ints_length, *]; omega)) (Has.head) (by first | exact ints_cell1 _ | simp [cell1]) trivial ?_
    refine L.assign rfl rfl rfl trivial ?_
    refine L.nil ?_
    refine C.next ?_
    refine C.seq ?_
    refine C.region [(false,0),(false,1),(false,2),(false,3),(false,4),(false,5),(false,6),(false,7),(false,8),(false,9)] rfl ?_
    refine L.loadBW rfl Tf.a25 rfl (List.Mem.tail _ (List.Mem.head _)) Tf.s25 List.not_mem_nil rfl trivial ?_
    refine L.call rfl rfl rfl (fun D9 hD9 => YardL_ok _ x _ (hxr.up (hD9 _ (by simp))) (by omega) (by omega)) rfl trivial (fun v9 D9 hD9 hp9 => ?_)
    have hwx := hp9
    refine L.call rfl rfl rfl (fun D10 hD10 => Sure_ok _ x _ (hwx.up (hD10 _ (by simp)))) rfl trivial (fun v10 D10 hD10 hp10 => ?_)
    obtain ⟨lvs, rfl, hls⟩ := hp10
    refine L.move rfl rfl rfl trivial ?_
    refine L.extract rfl rfl rfl rfl trivial ?_
    refine L.extract rfl rfl rfl rfl trivial ?_
    refine L.extract rfl rfl rfl rfl trivial ?_
    refine L.assign rfl rfl rfl trivial ?_
    refine L.assign rfl rfl rfl trivial ?_
    refine L.assign rfl rfl rfl trivial ?_
    refine L.nil ?_
    refine C.next ?_
    refine C.seq ?_
    refine C.region [(false,0),(false,1),(false,2),(false,3),(false,4),(false,5),(false,6),(false,7)] rfl ?_
    refine L.loadBW rfl Tf.a25 rfl (List.Mem.tail _ (List.Mem.head _)) Tf.s25 List.not_mem_nil rfl trivial ?_
    refine L.call rfl rfl rfl (fun D11 hD11 => YardL_ok _ x _ (hxr.up (hD11 _ (by simp))) (by omega) (by omega)) rfl trivial (fun v11 D11 hD11 hp11 => ?_)
    have hwx := hp11
    refine L.call rfl rfl rfl (fun D12 hD12 => Leave_ok _ x _ (hwx.up (hD12 _ (by simp)))) rfl trivial (fun v12 D12 hD12 hp12 => ?_)
    obtain ⟨lvo, rfl, hlo⟩ := hp12
    refine L.move rfl rfl rfl trivial ?_
    refine L.extract rfl rfl rfl rfl trivial ?_
    refine L.extract rfl rfl rfl rfl trivial ?_
    refine L.assign rfl rfl rfl trivial ?_
    refine L.assign rfl rfl rfl trivial ?_
    refine L.nil ?_
    refine C.next ?_
    refine C.seq ?_
    refine C.region [(false,0),(false,1),(false,2),(false,3),(false,4),(false,5),(false,6),(false,7)] rfl ?_
    refine L.loadBW rfl Tf.a25 rfl (List.Mem.tail _ (List.Mem.head _)) Tf.s25 List.not_mem_nil rfl trivial ?_
    refine L.call rfl rfl rfl (fun D13 hD13 => YardL_ok _ x _ (hxr.up (hD13 _ (by simp))) (by omega) (by omega)) rfl trivial (fun v13 D13 hD13 hp13 => ?_)
    have hwx := hp13
    refine L.callV rfl rfl rfl (fun D14 hD14 => First_ok _ x _ (hwx.up (hD14 _ (by simp)))) rfl trivial ?_
    refine L.move rfl rfl rfl trivial ?_
    refine L.extract rfl rfl rfl rfl trivial ?_
    refine L.extract rfl rfl rfl rfl trivial ?_
    refine L.assign rfl rfl rfl trivial ?_
    refine L.assign rfl rfl rfl trivial ?_
    refine L.nil ?_
    refine C.next ?_
    refine C.seq ?_
    refine C.region [(false,0),(false,1),(false,2),(false,3),(false,4),(false,5),(false,6),(false,7),(false,8),(false,9)] rfl ?_
    refine L.loadBW rfl Tf.a25 rfl (List.Mem.tail _ (List.Mem.head _)) Tf.s25 List.not_mem_nil rfl trivial ?_
    refine L.call rfl rfl rfl (fun D15 hD15 => YardL_ok _ x _ (hxr.up (hD15 _ (by simp))) (by omega) (by omega)) rfl trivial (fun v15 D15 hD15 hp15 => ?_)
    have hwx := hp15
    refine L.move rfl rfl rfl trivial ?_
    refine L.call rfl rfl rfl (fun D16 hD16 => TruthL_ok _ t _ (htr.up RP.up (hD16 _ (by simp))) (by omega)) rfl trivial (fun v16 D16 hD16 hp16 => ?_)
    have hz := hp16
    refine L.call rfl rfl rfl (fun D17 hD17 => Pairs_ok _ _ x t _ (hwx.up (hD17 _ (by simp))) (hz.up RP.up (hD17 _ (by simp)))) rfl trivial (fun v17 D17 hD17 hp17 => ?_)
    obtain ⟨lvp, rfl, hlp⟩ := hp17
    refine L.move rfl rfl rfl trivial ?_
    refine L.extract rfl rfl rfl rfl trivial ?_
    refine L.extract rfl rfl rfl rfl trivial ?_
    refine L.assign rfl rfl rfl trivial ?_
    refine L.assign rfl rfl rfl trivial ?_
    refine L.nil ?_
    refine C.next ?_
    refine C.seq ?_
    refine C.region [(false,0),(false,1),(false,2),(false,3),(false,4),(false,5),(false,6),(false,7),(false,8),(false,9),(false,10),(false,11)] rfl ?_
    refine L.loadBW rfl Tf.a25 rfl (List.Mem.tail _ (List.Mem.head _)) Tf.s25 List.not_mem_nil rfl trivial ?_
    refine L.call rfl rfl rfl (fun D18 hD18 => YardL_ok _ x _ (hxr.up (hD18 _ (by simp))) (by omega) (by omega)) rfl trivial (fun v18 D18 hD18 hp18 => ?_)
    have hwx := hp18
    refine L.move rfl rfl rfl trivial ?_
    refine L.call rfl rfl rfl (fun D19 hD19 => TruthL_ok _ t _ (htr.up RP.up (hD19 _ (by simp))) (by omega)) rfl trivial (fun v19 D19 hD19 hp19 => ?_)
    have hz := hp19
    refine L.call rfl rfl rfl (fun D20 hD20 => Berge_ok _ _ x t _ (hwx.up (hD20 _ (by simp))) (hz.up RP.up (hD20 _ (by simp)))) rfl trivial (fun v20 D20 hD20 hp20 => ?_)
    obtain ⟨lvq, rfl, hlq⟩ := hp20
    refine L.move rfl rfl rfl trivial ?_
    refine L.extract rfl rfl rfl rfl trivial ?_
    refine L.extract rfl rfl rfl rfl trivial ?_
    refine L.extract rfl rfl rfl rfl trivial ?_
    refine L.assign rfl rfl rfl trivial ?_
    refine L.assign rfl rfl rfl trivial ?_
    refine L.assign rfl rfl rfl trivial ?_
    refine L.nil ?_
    refine C.next ?_
    refine C.seq ?_
    refine C.seq ?_
    refine C.region [(false,0),(false,1),(false,2),(false,3),(false,4),(false,5),(false,6),(false,7),(false,8),(false,9),(false,10),(false,11),(false,12),(false,13),(false,14),(false,15),(false,16),(false,17),(false,18),(false,19),(false,20),(false,21),(false,22),(false,23),(false,24),(false,25),(false,26),(false,27),(false,28),(false,29),(false,30),(false,31),(false,32),(false,33),(false,34),(false,35),(false,36),(false,37),(false,38),(false,39),(false,40),(false,41),(false,42),(false,43),(false,44),(false,45),(false,46),(false,47),(false,48),(false,49),(false,50),(false,51),(false,52),(false,53),(false,54),(false,55)] rfl ?_
    refine L.move rfl rfl rfl trivial ?_
    refine L.neq rfl rfl rfl rfl trivial ?_
    refine L.move rfl rfl rfl trivial ?_
    refine' L.or [(false,3),(false,4),(false,5)] [(false,6),(false,7),(false,8),(false,9),(false,10),(false,11),(false,12),(false,13),(false,14),(false,15),(false,16),(false,17),(false,18),(false,19),(false,20),(false,21),(false,22),(false,23),(false,24),(false,25),(false,26),(false,27),(false,28),(false,29),(false,30),(false,31),(false,32),(false,33),(false,34),(false,35),(false,36),(false,37),(false,38),(false,39),(false,40),(false,41),(false,42),(false,43),(false,44),(false,45),(false,46),(false,47),(false,48),(false,49),(false,50),(false,51),(false,52),(false,53),(false,54),(false,55)] (s := 88) (p := 91) rfl rfl (fun hg1 => ?_) (fun hg1 => ?_) ?_
    rotate_left
    · refine L.move rfl rfl rfl ⟨_, rfl, rfl⟩ ?_
      refine L.neq rfl rfl rfl rfl ⟨_, rfl, rfl⟩ ?_
      refine L.pickF rfl rfl rfl rfl trivial ?_
      exact L.nil fun a w hh => hh.cutK 2 rfl
    · refine L.pass rfl rfl rfl ⟨_, _, rfl, rfl, rfl⟩ ?_
      refine L.pass rfl rfl rfl ⟨_, _, rfl, rfl, rfl⟩ ?_
      refine L.pickT rfl rfl rfl rfl trivial ?_
      exact L.nil fun a w hh => hh.cutK 2 rfl
    refine L.move rfl rfl rfl trivial ?_
    refine' L.or [(false,7),(false,8),(false,9)] [(false,10),(false,11),(false,12),(false,13),(false,14),(false,15),(false,16),(false,17),(false,18),(false,19),(false,20),(false,21),(false,22),(false,23),(false,24),(false,25),(false,26),(false,27),(false,28),(false,29),(false,30),(false,31),(false,32),(false,33),(false,34),(false,35),(false,36),(false,37),(false,38),(false,39),(false,40),(false,41),(false,42),(false,43),(false,44),(false,45),(false,46),(false,47),(false,48),(false,49),(false,50),(false,51),(false,52),(false,53),(false,54),(false,55)] (s := 92) (p := 95) rfl rfl (fun hg2 => ?_) (fun hg2 => ?_) ?_
    rotate_left
    · refine L.move rfl rfl rfl ⟨_, rfl, rfl⟩ ?_
      refine L.neq rfl rfl rfl rfl ⟨_, rfl, rfl⟩ ?_
      refine L.pickF rfl rfl rfl rfl trivial ?_
      exact L.nil fun a w hh => hh.cutK 2 rfl
    · refine L.pass rfl rfl rfl ⟨_, _, rfl, rfl, rfl⟩ ?_
      refine L.pass rfl rfl rfl ⟨_, _, rfl, rfl, rfl⟩ ?_
      refine L.pickT rfl rfl rfl rfl trivial ?_
      exact L.nil fun a w hh => hh.cutK 2 rfl
    refine L.move rfl rfl rfl trivial ?_
    refine' L.or [(false,11),(false,12),(false,13)] [(false,14),(false,15),(false,16),(false,17),(false,18),(false,19),(false,20),(false,21),(false,22),(false,23),(false,24),(false,25),(false,26),(false,27),(false,28),(false,29),(false,30),(false,31),(false,32),(false,33),(false,34),(false,35),(false,36),(false,37),(false,38),(false,39),(false,40),(false,41),(false,42),(false,43),(false,44),(false,45),(false,46),(false,47),(false,48),(false,49),(false,50),(false,51),(false,52),(false,53),(false,54),(false,55)] (s := 96) (p := 99) rfl rfl (fun hg3 => ?_) (fun hg3 => ?_) ?_
    rotate_left
    · refine L.move rfl rfl rfl ⟨_, rfl, rfl⟩ ?_
      refine L.neq rfl rfl rfl rfl ⟨_, rfl, rfl⟩ ?_
      refine L.pickF rfl rfl rfl rfl trivial ?_
      exact L.nil fun a w hh => hh.cutK 2 rfl
    · refine L.pass rfl rfl rfl ⟨_, _, rfl, rfl, rfl⟩ ?_
      refine L.pass rfl rfl rfl ⟨_, _, rfl, rfl, rfl⟩ ?_
      refine L.pickT rfl rfl rfl rfl trivial ?_
      exact L.nil fun a w hh => hh.cutK 2 rfl
    refine L.move rfl rfl rfl trivial ?_
    refine' L.or [(false,15),(false,16),(false,17),(false,18)] [(false,19),(false,20),(false,21),(false,22),(false,23),(false,24),(false,25),(false,26),(false,27),(false,28),(false,29),(false,30),(false,31),(false,32),(false,33),(false,34),(false,35),(false,36),(false,37),(false,38),(false,39),(false,40),(false,41),(false,42),(false,43),(false,44),(false,45),(false,46),(false,47),(false,48),(false,49),(false,50),(false,51),(false,52),(false,53),(false,54),(false,55)] (s := 100) (p := 104) rfl rfl (fun hg4 => ?_) (fun hg4 => ?_) ?_
    rotate_left
    · refine L.move rfl rfl rfl ⟨_, rfl, rfl⟩ ?_
      refine L.len rfl Try.underlying52 rfl hlo rfl rfl ⟨_, rfl, rfl⟩ ?_
      refine L.neq rfl rfl rfl rfl ⟨_, rfl, rfl⟩ ?_
      refine L.pickF rfl rfl rfl rfl trivial ?_
      exact L.nil fun a w hh => hh.cutK 3 rfl
    · refine L.pass rfl rfl rfl ⟨_, _, rfl, rfl, rfl⟩ ?_
      refine L.pass rfl rfl rfl ⟨_, _, rfl, rfl, rfl⟩ ?_
      refine L.pass rfl rfl rfl ⟨_, _, rfl, rfl, rfl⟩ ?_
      refine L.pickT rfl rfl rfl rfl trivial ?_
      exact L.nil fun a w hh => hh.cutK 3 rfl
    refine L.move rfl rfl rfl trivial ?_
    refine' L.or [(false,20),(false,21),(false,22)] [(false,23),(false,24),(false,25),(false,26),(false,27),(false,28),(false,29),(false,30),(false,31),(false,32),(false,33),(false,34),(false,35),(false,36),(false,37),(false,38),(false,39),(false,40),(false,41),(false,42),(false,43),(false,44),(false,45),(false,46),(false,47),(false,48),(false,49),(false,50),(false,51),(false,52),(false,53),(false,54),(false,55)] (s := 105) (p := 108) rfl rfl (fun hg5 => ?_) (fun hg5 => ?_) ?_
    rotate_left
    · refine L.move rfl rfl rfl ⟨_, rfl, rfl⟩ ?_
      refine L.neq rfl rfl rfl rfl ⟨_, rfl, rfl⟩ ?_
      refine L.pickF rfl rfl rfl rfl trivial ?_
      exact L.nil fun a w hh => hh.cutK 2 rfl
    · refine L.pass rfl rfl rfl ⟨_, _, rfl, rfl, rfl⟩ ?_
      refine L.pass rfl rfl rfl ⟨_, _, rfl, rfl, rfl⟩ ?_
      refine L.pickT rfl rfl rfl rfl trivial ?_
      exact L.nil fun a w hh => hh.cutK 2 rfl
    refine L.move rfl rfl rfl trivial ?_
    refine' L.or [(false,24),(false,25),(false,26)] [(false,27),(false,28),(false,29),(false,30),(false,31),(false,32),(false,33),(false,34),(false,35),(false,36),(false,37),(false,38),(false,39),(false,40),(false,41),(false,42),(false,43),(false,44),(false,45),(false,46),(false,47),(false,48),(false,49),(false,50),(false,51),(false,52),(false,53),(false,54),(false,55)] (s := 109) (p := 112) rfl rfl (fun hg6 => ?_) (fun hg6 => ?_) ?_
    rotate_left
    · refine L.move rfl rfl rfl ⟨_, rfl, rfl⟩ ?_
      refine L.neq rfl rfl rfl rfl ⟨_, rfl, rfl⟩ ?_
      refine L.pickF rfl rfl rfl rfl trivial ?_
      exact L.nil fun a w hh => hh.cutK 2 rfl
    · refine L.pass rfl rfl rfl ⟨_, _, rfl, rfl, rfl⟩ ?_
      refine L.pass rfl rfl rfl ⟨_, _, rfl, rfl, rfl⟩ ?_
      refine L.pickT rfl rfl rfl rfl trivial ?_
      exact L.nil fun a w hh => hh.cutK 2 rfl
    refine L.move rfl rfl rfl trivial ?_
    refine' L.or [(false,28),(false,29),(false,30)] [(false,31),(false,32),(false,33),(false,34),(false,35),(false,36),(false,37),(false,38),(false,39),(false,40),(false,41),(false,42),(false,43),(false,44),(false,45),(false,46),(false,47),(false,48),(false,49),(false,50),(false,51),(false,52),(false,53),(false,54),(false,55)] (s := 113) (p := 116) rfl rfl (fun hg7 => ?_) (fun hg7 => ?_) ?_
    rotate_left
    · refine L.move rfl rfl rfl ⟨_, rfl, rfl⟩ ?_
      refine L.neq rfl rfl rfl rfl ⟨_, rfl, rfl⟩ ?_
      refine L.pickF rfl rfl rfl rfl trivial ?_
      exact L.nil fun a w hh => hh.cutK 2 rfl
    · refine L.pass rfl rfl rfl ⟨_, _, rfl, rfl, rfl⟩ ?_
      refine L.pass rfl rfl rfl ⟨_, _, rfl, rfl, rfl⟩ ?_
      refine L.pickT rfl rfl rfl rfl trivial ?_
      exact L.nil fun a w hh => hh.cutK 2 rfl
    refine L.move rfl rfl rfl trivial ?_
    refine' L.or [(false,32),(false,33),(false,34),(false,35),(false,36),(false,37),(false,38)] [(false,39),(false,40),(false,41),(false,42),(false,43),(false,44),(false,45),(false,46),(false,47),(false,48),(false,49),(false,50),(false,51),(false,52),(false,53),(false,54),(false,55)] (s := 117) (p := 124) rfl rfl (fun hg8 => ?_) (fun hg8 => ?_) ?_
    rotate_left
    · refine L.loadBW rfl Tf.a25 rfl (List.Mem.tail _ (List.Mem.head _)) Tf.s25 List.not_mem_nil rfl ⟨_, rfl, rfl⟩ ?_
      refine L.call rfl rfl rfl (fun D21 hD21 => YardL_ok _ x _ (hxr.up (hD21 _ (by simp))) (by omega) (by omega)) rfl ⟨_, rfl, rfl⟩ (fun v21 D21 hD21 hp21 => ?_)
      have hwx := hp21
      refine L.move rfl rfl rfl ⟨_, rfl, rfl⟩ ?_
      refine L.call rfl rfl rfl (fun D22 hD22 => TruthL_ok _ t _ (htr.up RP.up (hD22 _ (by simp))) (by omega)) rfl ⟨_, rfl, rfl⟩ (fun v22 D22 hD22 hp22 => ?_)
      have hz := hp22
      refine L.callV rfl rfl rfl (fun D23 hD23 => ProveTruth_ok _ _ x t _ (hwx.up (hD23 _ (by simp))) (hz.up RP.up (hD23 _ (by simp)))) rfl ⟨_, rfl, rfl⟩ ?_
      refine L.not rfl rfl rfl ⟨_, rfl, rfl⟩ ?_
      refine L.pickF rfl rfl rfl rfl trivial ?_
      exact L.nil fun a w hh => (hh.cutK 6 rfl).ds (fun _ h => List.Mem.tail _ (List.Mem.tail _ (h)))
    · refine L.pass rfl rfl rfl ⟨_, _, rfl, rfl, rfl⟩ ?_
      refine L.pass rfl rfl rfl ⟨_, _, rfl, rfl, rfl⟩ ?_
      refine L.pass rfl rfl rfl ⟨_, _, rfl, rfl, rfl⟩ ?_
      refine L.pass rfl rfl rfl ⟨_, _, rfl, rfl, rfl⟩ ?_
      refine L.pass rfl rfl rfl ⟨_, _, rfl, rfl, rfl⟩ ?_
      refine L.pass rfl rfl rfl ⟨_, _, rfl, rfl, rfl⟩ ?_
      refine L.pickT rfl rfl rfl rfl trivial ?_
      exact L.nil fun a w hh => hh.cutK 6 rfl
    refine L.move rfl rfl rfl trivial ?_
    refine' L.or [(false,40),(false,41),(false,42),(false,43),(false,44)] [(false,45),(false,46),(false,47),(false,48),(false,49),(false,50),(false,51),(false,52),(false,53),(false,54),(false,55)] (s := 125) (p := 130) rfl rfl (fun hg9 => ?_) (fun hg9 => ?_) ?_
    rotate_left
    · refine L.move rfl rfl rfl ⟨_, rfl, rfl⟩ ?_
      refine L.loadBW rfl Tf.a61 rfl (List.Mem.head _) Tf.s61 List.not_mem_nil rfl ⟨_, rfl, rfl⟩ ?_
      refine L.callV rfl rfl rfl (fun D24 hD24 => in_ok _ (boundsV x).1 _) rfl ⟨_, rfl, rfl⟩ ?_
      refine L.not rfl rfl rfl ⟨_, rfl, rfl⟩ ?_
      refine L.pickF rfl rfl rfl rfl trivial ?_
      exact L.nil fun a w hh => hh.cutK 4 rfl
    · refine L.pass rfl rfl rfl ⟨_, _, rfl, rfl, rfl⟩ ?_
      refine L.pass rfl rfl rfl ⟨_, _, rfl, rfl, rfl⟩ ?_
      refine L.pass rfl rfl rfl ⟨_, _, rfl, rfl, rfl⟩ ?_
      refine L.pass rfl rfl rfl ⟨_, _, rfl, rfl, rfl⟩ ?_
      refine L.pickT rfl rfl rfl rfl trivial ?_
      exact L.nil fun a w hh => hh.cutK 4 rfl
    refine L.move rfl rfl rfl trivial ?_
    refine' L.or [(false,46),(false,47),(false,48),(false,49),(false,50)] [(false,51),(false,52),(false,53),(false,54),(false,55)] (s := 131) (p := 136) rfl rfl (fun hg10 => ?_) (fun hg10 => ?_) ?_
    rotate_left
    · refine L.move rfl rfl rfl ⟨_, rfl, rfl⟩ ?_
      refine L.fieldAddr rfl Tf.f61_0 rfl rfl ⟨_, rfl, rfl⟩ ?_
      refine L.loadB1 rfl Tf.a3 rfl (List.Mem.head _) rfl List.not_mem_nil rfl ⟨_, rfl, rfl⟩ ?_
      refine L.gtr rfl rfl rfl rfl ⟨_, rfl, rfl⟩ ?_
      refine L.pickF rfl rfl rfl rfl trivial ?_
      exact L.nil fun a w hh => hh.cutK 4 rfl
    · refine L.pass rfl rfl rfl ⟨_, _, rfl, rfl, rfl⟩ ?_
      refine L.pass rfl rfl rfl ⟨_, _, rfl, rfl, rfl⟩ ?_
      refine L.pass rfl rfl rfl ⟨_, _, rfl, rfl, rfl⟩ ?_
      refine L.pass rfl rfl rfl ⟨_, _, rfl, rfl, rfl⟩ ?_
      refine L.pickT rfl rfl rfl rfl trivial ?_
      exact L.nil fun a w hh => hh.cutK 4 rfl
    refine L.move rfl rfl rfl trivial ?_
    refine' L.or [(false,52),(false,53),(false,54),(false,55)] [] (s := 137) (p := 141) rfl rfl (fun hg11 => ?_) (fun hg11 => ?_) ?_
    rotate_left
    · refine L.move rfl rfl rfl ⟨_, rfl, rfl⟩ ?_
      refine L.move rfl rfl rfl ⟨_, rfl, rfl⟩ ?_
      refine L.neq rfl rfl rfl rfl ⟨_, rfl, rfl⟩ ?_
      refine L.pickF rfl rfl rfl rfl trivial ?_
      exact L.nil fun a w hh => hh.cutK 3 rfl
    · refine L.pass rfl rfl rfl ⟨_, _, rfl, rfl, rfl⟩ ?_
      refine L.pass rfl rfl rfl ⟨_, _, rfl, rfl, rfl⟩ ?_
      refine L.pass rfl rfl rfl ⟨_, _, rfl, rfl, rfl⟩ ?_
      refine L.pickT rfl rfl rfl rfl trivial ?_
      exact L.nil fun a w hh => hh.cutK 3 rfl
    refine L.nil ?_
    refine C.next ?_
    refine C.cond rfl (fun hc2 => ?_) (fun hc2 => ?_)
    · exact absurd hc2 (by rw [mt_one f1 f2 f3 f4 f5 f6 p1 b1 (mt_prove hfx hT) f7 b2]; simp)
    · refine C.skip ?_
      refine C.next ?_
      refine C.seq ?_
      refine C.draw [] 14 [0,1,2,3,4,5,6,7,8,9,10,11,12,15,13,14,16,17,18,19,21,23,24,20,22,25,26,27,28,30,32,33,34,29,31,35,36,37,38,39,41,43,44,40,42,45,46,47,48,49,50] [false,false,false,false,false,true,true,false,false,false,false,true,true,true,true,true,false,false,false,false,true,true,true,true,true,false,false,false,false,true,true,true,true,true,true,false,false,false,false,false,true,true,true,true,true,false,false,false,false,false,false] [(false,0),(false,1),(false,2),(false,3),(false,4),(true,5),(true,6),(false,7),(false,8),(false,9),(false,10),(true,11),(true,12),(true,15),(true,13),(true,14),(false,16),(false,17),(false,18),(false,19),(true,21),(true,23),(true,24),(true,20),(true,22),(false,25),(false,26),(false,27),(false,28),(true,30),(true,32),(true,33),(true,34),(true,29),(true,31),(false,35),(false,36),(false,37),(false,38),(false,39),(true,41),(true,43),(true,44),(true,40),(true,42),(false,45),(false,46),(false,47),(false,48),(false,49),(false,50)] Tf.follows (fun _ _ _ h => np_body (P := Try.prog) (fn := Try.f19) _ _ _ h) (by kernel_rfl) rfl ?_
      refine L.move rfl rfl rfl trivial ?_
      refine L.len rfl Try.underlying30 rfl hls rfl rfl trivial ?_
      refine L.leq rfl rfl rfl rfl trivial ?_
      refine L.move rfl rfl rfl trivial ?_
      refine' L.and [(false,4),(true,5),(true,6),(false,7),(false,8)] [(false,9),(false,10),(true,11),(true,12),(true,15),(true,13),(true,14),(false,16),(false,17),(false,18),(false,19),(true,21),(true,23),(true,24),(true,20),(true,22),(false,25),(false,26),(false,27),(false,28),(true,30),(true,32),(true,33),(true,34),(true,29),(true,31),(false,35),(false,36),(false,37),(false,38),(false,39),(true,41),(true,43),(true,44),(true,40),(true,42),(false,45),(false,46),(false,47),(false,48),(false,49),(false,50)] (s := 145) (p := 150) rfl rfl (fun hg12 => ?_) (fun hg12 => ?_) ?_
      rotate_left
      · refine L.loadBW rfl Tf.a25 rfl (List.Mem.tail _ (List.Mem.head _)) Tf.s25 List.not_mem_nil rfl ⟨_, rfl, rfl⟩ ?_
        refine L.move rfl rfl rfl ⟨_, rfl, rfl⟩ ?_
        refine L.call rfl rfl rfl (fun D25 hD25 => back_ok _ (sureV x).1 _ (hls.up R2.up (hD25 _ (by simp))) (by omega)) rfl ⟨_, rfl, rfl⟩ (fun v25 D25 hD25 hp25 => ?_)
        have hb := hp25
        refine L.callV rfl rfl rfl (fun D26 hD26 => IsPairing_ok _ _ x (sureV x).1 _ (hxr.up (hD26 _ (by simp))) (hb.up R2.up (hD26 _ (by simp))) hx7) rfl ⟨_, rfl, rfl⟩ ?_
        refine L.pickT rfl rfl rfl rfl trivial ?_
        exact L.nil fun a w hh => (hh.cutK 4 rfl).ds (fun _ h => List.Mem.tail _ (h))
      · refine L.pass rfl rfl rfl ⟨_, _, rfl, rfl, rfl⟩ ?_
        refine L.pass rfl rfl rfl ⟨_, _, rfl, rfl, rfl⟩ ?_
        refine L.pass rfl rfl rfl ⟨_, _, rfl, rfl, rfl⟩ ?_
        refine L.pass rfl rfl rfl ⟨_, _, rfl, rfl, rfl⟩ ?_
        refine L.pickF rfl rfl rfl rfl trivial ?_
        exact L.nil fun a w hh => hh.cutK 4 rfl
      refine L.move rfl rfl rfl trivial ?_
      refine' L.and [(false,10),(true,11),(true,12),(true,15),(true,13),(true,14),(false,16),(false,17)] [(false,18),(false,19),(true,21),(true,23),(true,24),(true,20),(true,22),(false,25),(false,26),(false,27),(false,28),(true,30),(true,32),(true,33),(true,34),(true,29),(true,31),(false,35),(false,36),(false,37),(false,38),(false,39),(true,41),(true,43),(true,44),(true,40),(true,42),(false,45),(false,46),(false,47),(false,48),(false,49),(false,50)] (s := 151) (p := 159) rfl rfl (fun hg13 => ?_) (fun hg13 => ?_) ?_
      rotate_left
      · refine L.loadBW rfl Tf.a25 rfl (List.Mem.tail _ (List.Mem.head _)) Tf.s25 List.not_mem_nil rfl ⟨_, rfl, rfl⟩ ?_
        refine L.move rfl rfl rfl ⟨_, rfl, rfl⟩ ?_
        refine L.move rfl rfl rfl ⟨_, rfl, rfl⟩ ?_
        refine L.move rfl rfl rfl ⟨_, rfl, rfl⟩ ?_
        refine L.call rfl rfl rfl (fun D27 hD27 => back_ok _ (sureV x).1 _ (hls.up R2.up (hD27 _ (by simp))) (by omega)) rfl ⟨_, rfl, rfl⟩ (fun v27 D27 hD27 hp27 => ?_)
        have hb := hp27
        refine L.callV rfl rfl rfl (fun D28 hD28 => Makes_ok _ _ _ x t (sureV x).1 _ (hxr.up (hD28 _ (by simp))) (htr.up RP.up (hD28 _ (by simp))) (hb.up R2.up (hD28 _ (by simp))) hyx hlen hbt hpis (by omega)) rfl ⟨_, rfl, rfl⟩ ?_
        refine L.geq rfl rfl rfl rfl ⟨_, rfl, rfl⟩ ?_
        refine L.pickT rfl rfl rfl rfl trivial ?_
        exact L.nil fun a w hh => (hh.cutK 7 rfl).ds (fun _ h => List.Mem.tail _ (h))
      · refine L.pass rfl rfl rfl ⟨_, _, rfl, rfl, rfl⟩ ?_
        refine L.pass rfl rfl rfl ⟨_, _, rfl, rfl, rfl⟩ ?_
        refine L.pass rfl rfl rfl ⟨_, _, rfl, rfl, rfl⟩ ?_
        refine L.pass rfl rfl rfl ⟨_, _, rfl, rfl, rfl⟩ ?_
        refine L.pass rfl rfl rfl ⟨_, _, rfl, rfl, rfl⟩ ?_
        refine L.pass rfl rfl rfl ⟨_, _, rfl, rfl, rfl⟩ ?_
        refine L.pass rfl rfl rfl ⟨_, _, rfl, rfl, rfl⟩ ?_
        refine L.pickF rfl rfl rfl rfl trivial ?_
        exact L.nil fun a w hh => hh.cutK 7 rfl
      refine L.move rfl rfl rfl trivial ?_
      refine' L.and [(false,19),(true,21),(true,23),(true,24),(true,20),(true,22),(false,25),(false,26)] [(false,27),(false,28),(true,30),(true,32),(true,33),(true,34),(true,29),(true,31),(false,35),(false,36),(false,37),(false,38),(false,39),(true,41),(true,43),(true,44),(true,40),(true,42),(false,45),(false,46),(false,47),(false,48),(false,49),(false,50)] (s := 160) (p := 168) rfl rfl (fun hg14 => ?_) (fun hg14 => ?_) ?_
      rotate_left
      · refine L.loadBW rfl Tf.a25 rfl (List.Mem.tail _ (List.Mem.head _)) Tf.s25 List.not_mem_nil rfl ⟨_, rfl, rfl⟩ ?_
        refine L.move rfl rfl rfl ⟨_, rfl, rfl⟩ ?_
        refine L.move rfl rfl rfl ⟨_, rfl, rfl⟩ ?_
        refine L.move rfl rfl rfl ⟨_, rfl, rfl⟩ ?_
        refine L.call rfl rfl rfl (fun D29 hD29 => YardL_ok _ x _ (hxr.up (hD29 _ (by simp))) (by omega) (by omega)) rfl ⟨_, rfl, rfl⟩ (fun v29 D29 hD29 hp29 => ?_)
        have hwx := hp29
        refine L.call rfl rfl rfl (fun D30 hD30 => TruthL_ok _ t _ (htr.up RP.up (hD30 _ (by simp))) (by omega)) rfl ⟨_, rfl, rfl⟩ (fun v30 D30 hD30 hp30 => ?_)
        have hz := hp30
        refine L.callV rfl rfl rfl (fun D31 hD31 => ProvePairs_ok _ _ _ x t (pairsV x t) _ _ (hwx.up (hD31 _ (by simp))) (hz.up RP.up (hD31 _ (by simp))) (hlp.up R2.up (hD31 _ (by simp)))) rfl ⟨_, rfl, rfl⟩ ?_
        refine L.pickT rfl rfl rfl rfl trivial ?_
        exact L.nil fun a w hh => (hh.cutK 7 rfl).ds (fun _ h => List.Mem.tail _ (List.Mem.tail _ (h)))
      · refine L.pass rfl rfl rfl ⟨_, _, rfl, rfl, rfl⟩ ?_
        refine L.pass rfl rfl rfl ⟨_, _, rfl, rfl, rfl⟩ ?_
        refine L.pass rfl rfl rfl ⟨_, _, rfl, rfl, rfl⟩ ?_
        refine L.pass rfl rfl rfl ⟨_, _, rfl, rfl, rfl⟩ ?_
        refine L.pass rfl rfl rfl ⟨_, _, rfl, rfl, rfl⟩ ?_
        refine L.pass rfl rfl rfl ⟨_, _, rfl, rfl, rfl⟩ ?_
        refine L.pass rfl rfl rfl ⟨_, _, rfl, rfl, rfl⟩ ?_
        refine L.pickF rfl rfl rfl rfl trivial ?_
        exact L.nil fun a w hh => hh.cutK 7 rfl
      refine L.move rfl rfl rfl trivial ?_
      refine' L.and [(false,28),(true,30),(true,32),(true,33),(true,34),(true,29),(true,31),(false,35),(false,36),(false,37)] [(false,38),(false,39),(true,41),(true,43),(true,44),(true,40),(true,42),(false,45),(false,46),(false,47),(false,48),(false,49),(false,50)] (s := 169) (p := 179) rfl rfl (fun hg15 => ?_) (fun hg15 => ?_) ?_
      rotate_left
      · refine L.loadBW rfl Tf.a25 rfl (List.Mem.tail _ (List.Mem.head _)) Tf.s25 List.not_mem_nil rfl ⟨_, rfl, rfl⟩ ?_
        refine L.move rfl rfl rfl ⟨_, rfl, rfl⟩ ?_
        refine L.move rfl rfl rfl ⟨_, rfl, rfl⟩ ?_
        refine L.move rfl rfl rfl ⟨_, rfl, rfl⟩ ?_
        refine L.add rfl rfl rfl (by simp only [inK]; omega) rfl ⟨_, rfl, rfl⟩ ?_
        refine L.call rfl rfl rfl (fun D32 hD32 => YardL_ok _ x _ (hxr.up (hD32 _ (by simp))) (by omega) (by omega)) rfl ⟨_, rfl, rfl⟩ (fun v32 D32 hD32 hp32 => ?_)
        have hwx := hp32
        refine L.call rfl rfl rfl (fun D33 hD33 => TruthL_ok _ t _ (htr.up RP.up (hD33 _ (by simp))) (by omega)) rfl ⟨_, rfl, rfl⟩ (fun v33 D33 hD33 hp33 => ?_)
        have hz := hp33
        refine L.callV rfl rfl rfl (fun D34 hD34 => ProvePairs_ok _ _ _ x t (pairsV x t) _ _ (hwx.up (hD34 _ (by simp))) (hz.up RP.up (hD34 _ (by simp))) (hlp.up R2.up (hD34 _ (by simp)))) rfl ⟨_, rfl, rfl⟩ ?_
        refine L.not rfl rfl rfl ⟨_, rfl, rfl⟩ ?_
        refine L.pickT rfl rfl rfl rfl trivial ?_
        exact L.nil fun a w hh => (hh.cutK 9 rfl).ds (fun _ h => List.Mem.tail _ (List.Mem.tail _ (h)))
      · refine L.pass rfl rfl rfl ⟨_, _, rfl, rfl, rfl⟩ ?_
        refine L.pass rfl rfl rfl ⟨_, _, rfl, rfl, rfl⟩ ?_
        refine L.pass rfl rfl rfl ⟨_, _, rfl, rfl, rfl⟩ ?_
        refine L.pass rfl rfl rfl ⟨_, _, rfl, rfl, rfl⟩ ?_
        refine L.pass rfl rfl rfl ⟨_, _, rfl, rfl, rfl⟩ ?_
        refine L.pass rfl rfl rfl ⟨_, _, rfl, rfl, rfl⟩ ?_
        refine L.pass rfl rfl rfl ⟨_, _, rfl, rfl, rfl⟩ ?_
        refine L.pass rfl rfl rfl ⟨_, _, rfl, rfl, rfl⟩ ?_
        refine L.pass rfl rfl rfl ⟨_, _, rfl, rfl, rfl⟩ ?_
        refine L.pickF rfl rfl rfl rfl trivial ?_
        exact L.nil fun a w hh => hh.cutK 9 rfl
      refine L.move rfl rfl rfl trivial ?_
      refine' L.and [(false,39),(true,41),(true,43),(true,44),(true,40),(true,42),(false,45),(false,46)] [(false,47),(false,48),(false,49),(false,50)] (s := 180) (p := 188) rfl rfl (fun hg16 => ?_) (fun hg16 => ?_) ?_
      rotate_left
      · refine L.loadBW rfl Tf.a25 rfl (List.Mem.tail _ (List.Mem.head _)) Tf.s25 List.not_mem_nil rfl ⟨_, rfl, rfl⟩ ?_
        refine L.move rfl rfl rfl ⟨_, rfl, rfl⟩ ?_
        refine L.move rfl rfl rfl ⟨_, rfl, rfl⟩ ?_
        refine L.move rfl rfl rfl ⟨_, rfl, rfl⟩ ?_
        refine L.call rfl rfl rfl (fun D35 hD35 => YardL_ok _ x _ (hxr.up (hD35 _ (by simp))) (by omega) (by omega)) rfl ⟨_, rfl, rfl⟩ (fun v35 D35 hD35 hp35 => ?_)
        have hwx := hp35
        refine L.call rfl rfl rfl (fun D36 hD36 => TruthL_ok _ t _ (htr.up RP.up (hD36 _ (by simp))) (by omega)) rfl ⟨_, rfl, rfl⟩ (fun v36 D36 hD36 hp36 => ?_)
        have hz := hp36
        refine L.callV rfl rfl rfl (fun D37 hD37 => ProveBerge_ok _ _ _ x t (bergeV x t).1 _ _ (hwx.up (hD37 _ (by simp))) (hz.up RP.up (hD37 _ (by simp))) (hlq.up RI.up (hD37 _ (by simp)))) rfl ⟨_, rfl, rfl⟩ ?_
        refine L.pickT rfl rfl rfl rfl trivial ?_
        exact L.nil fun a w hh => (hh.cutK 7 rfl).ds (fun _ h => List.Mem.tail _ (List.Mem.tail _ (h)))
      · refine L.pass rfl rfl rfl ⟨_, _, rfl, rfl, rfl⟩ ?_
        refine L.pass rfl rfl rfl ⟨_, _, rfl, rfl, rfl⟩ ?_
        refine L.pass rfl rfl rfl ⟨_, _, rfl, rfl, rfl⟩ ?_
        refine L.pass rfl rfl rfl ⟨_, _, rfl, rfl, rfl⟩ ?_
        refine L.pass rfl rfl rfl ⟨_, _, rfl, rfl, rfl⟩ ?_
        refine L.pass rfl rfl rfl ⟨_, _, rfl, rfl, rfl⟩ ?_
        refine L.pass rfl rfl rfl ⟨_, _, rfl, rfl, rfl⟩ ?_
        refine L.pickF rfl rfl rfl rfl trivial ?_
        exact L.nil fun a w hh => hh.cutK 7 rfl
      refine L.move rfl rfl rfl trivial ?_
      refine' L.and [(false,48),(false,49)] [(false,50)] (s := 189) (p := 191) rfl rfl (fun hg17 => ?_) (fun hg17 => ?_) ?_
      rotate_left
      · refine L.callV rfl rfl rfl (fun D38 hD38 => awake_ok _) rfl ⟨_, rfl, rfl⟩ ?_
        refine L.pickT rfl rfl rfl rfl trivial ?_
        exact L.nil fun a w hh => hh.cutK 1 rfl
      · refine L.pass rfl rfl rfl ⟨_, _, rfl, rfl, rfl⟩ ?_
        refine L.pickF rfl rfl rfl rfl trivial ?_
        exact L.nil fun a w hh => hh.cutK 1 rfl
      refine L.assign rfl rfl rfl trivial ?_
      refine L.nil ?_
      refine C.next ?_
      refine C.ret ?_
      exact leave (vs := [_]) rfl rfl rfl ⟨rfl, trivial⟩ (fun D hD => congrArg Value.bool (mt_two hfx hT f8 f9 p2 p3 p4 b3 b4))
end Go.Fs
