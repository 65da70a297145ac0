/- Of the proof of MendNoMore: W26, W30, W36, W37, W27, W28. -/
import Derived.Test.YtjhdcelmgfajbaaZMendNoMoreL
import Derived.Test.YtjhdcelmgfajbaaZMendNoMoreI
namespace Go.Fs
open Go.Proofs
open C7
def nsD (y : YardD) : List Int := numK y (allN y) (allN y).length
/-- The error of a question on all truths. -/
def askS (y : YardD) : Int := if fault y ≠ 0 then fault y else if nsD y = [] then 11 else 0
theorem askS_zero {y : YardD} (h : askS y = 0) : fault y = 0 ∧ nsD y ≠ [] := by
  unfold askS at h
  split at h
  · omega
  · rename_i h1
    split at h
    · omega
    · rename_i h2; exact ⟨by omega, h2⟩
theorem allN_get {y : YardD} {n : Nat} (h : n < (allN y).length) : (allN y).getD n 0 = mostN y n := by
  unfold allN at h ⊢
  rw [List.length_map, List.length_range] at h
  rw [List.getD_eq_getElem?_getD, List.getElem?_map, List.getElem?_range h]; rfl
theorem mem_ns {y : YardD} {x : Int} : x ∈ nsD y ↔ ∃ n : Nat, n < 2 ^ unknown y.chairs ∧ rightO y.claims [] (mostN y n) = true ∧ x = (n : Int) := by
  have hl : (allN y).length = 2 ^ unknown y.chairs := by unfold allN; rw [List.length_map, List.length_range]
  unfold nsD numK
  rw [List.mem_map]
  constructor
  · rintro ⟨n, hn, rfl⟩
    rw [List.mem_filter, List.mem_range] at hn
    rw [allN_get hn.1] at hn
    exact ⟨n, by omega, hn.2, rfl⟩
  · rintro ⟨n, hn, hr, rfl⟩
    refine ⟨n, ?_, rfl⟩
    rw [List.mem_filter, List.mem_range, allN_get (by omega)]
    exact ⟨by omega, hr⟩
/-- Each truth has a number. -/
theorem p1_inv {x t : Int} (h : partIs x t = true) {m B : Nat} (hm : m < B) : ∃ n, p1 x n = (t, m) ∧ n < (if x = 2 then 2 else 1) * B := by
  unfold partIs at h
  rw [Bool.and_eq_true, inB_iff, Bool.or_eq_true, decide_eq_true_eq, decide_eq_true_eq] at h
  unfold p1
  by_cases hx : x = 2
  · obtain ⟨b, rfl⟩ := Int.eq_ofNat_of_zero_le h.1.1
    refine ⟨2 * m + b, ?_, by rw [if_pos hx]; omega⟩
    rw [if_pos hx, Prod.mk.injEq]
    exact ⟨by omega, by omega⟩
  · refine ⟨m, ?_, by rw [if_neg hx]; omega⟩
    rw [if_neg hx, Prod.mk.injEq]
    exact ⟨by rcases h.2 with h | h; exact absurd h hx; exact h.symm, rfl⟩
theorem unk_pow (p : Pt) : 2 ^ unkP p = (if p.a = 2 then 2 else 1) * ((if p.b = 2 then 2 else 1) * (if p.c = 2 then 2 else 1)) := by
  unfold unkP Pt.l
  by_cases ha : p.a = 2 <;> by_cases hb : p.b = 2 <;> by_cases hc : p.c = 2 <;> simp [ha, hb, hc]
theorem p3_inv {p t : Pt} (h : ptsIs p t = true) {m B : Nat} (hm : m < B) : ∃ n, p3 p n = (t, m) ∧ n < 2 ^ unkP p * B := by
  simp only [ptsIs, Pt.l, List.zip_cons_cons, List.zip_nil_left, List.all_cons, List.all_nil, Bool.and_true, Bool.and_eq_true] at h
  obtain ⟨c, e1, h1⟩ := p1_inv h.2.2 hm
  obtain ⟨b, e2, h2⟩ := p1_inv h.2.1 h1
  obtain ⟨a, e3, h3⟩ := p1_inv h.1 h2
  refine ⟨a, ?_, ?_⟩
  · unfold p3; rw [e3, e2, e1]
  · rw [unk_pow, Nat.mul_assoc, Nat.mul_assoc]; exact h3
theorem nthR_onto : ∀ (l : List Ch) (t : List Pt), t.length = l.length → ((l.zip t).all fun x => ptsIs x.1.parts x.2) = true → ∃ n, n < 2 ^ unknown l ∧ nthR l n = t
  | [], [], _, _ => ⟨0, by simp [unknown], rfl⟩
  | [], _ :: _, h, _ => by simp at h
  | _ :: _, [], h, _ => by simp at h
  | c :: l, p :: t, h, ha => by
    rw [List.zip_cons_cons, List.all_cons, Bool.and_eq_true] at ha
    obtain ⟨m, hm, e⟩ := nthR_onto l t (by simpa using h) ha.2
    obtain ⟨n, e2, hn⟩ := p3_inv ha.1 hm
    refine ⟨n, ?_, ?_⟩
    · have : unknown (c :: l) = unkP c.parts + unknown l := by simp [unknown]
      rw [this, Nat.pow_add]; exact hn
    · rw [nthR, e2, e]
theorem nth_onto {y : YardD} {t : List Pt} (h : isTruth y t = true) : ∃ n, n < 2 ^ unknown y.chairs ∧ (nthC y.chairs n).1 = t := by
  unfold isTruth at h
  rw [Bool.and_eq_true, decide_eq_true_eq] at h
  obtain ⟨n, hn, e⟩ := nthR_onto _ _ h.1 h.2
  exact ⟨n, hn, by rw [nthC_R]; exact e⟩
theorem fmin : ∀ (l : List Int) (a : Int), (l.foldl min a = a ∨ l.foldl min a ∈ l) ∧ l.foldl min a ≤ a ∧ ∀ x ∈ l, l.foldl min a ≤ x
  | [], a => ⟨Or.inl rfl, Int.le_refl _, by simp⟩
  | x :: l, a => by
    rw [List.foldl_cons]
    obtain ⟨h1, h2, h3⟩ := fmin l (min a x)
    refine ⟨?_, by omega, fun z hz => ?_⟩
    · rcases h1 with h1 | h1
      · rw [h1]; rcases Int.le_total a x with h | h
        · exact Or.inl (Int.min_eq_left h)
        · exact Or.inr (by rw [Int.min_eq_right h]; exact List.mem_cons_self)
      · exact Or.inr (List.mem_cons_of_mem _ h1)
    · rcases List.mem_cons.1 hz with rfl | hz
      · omega
      · exact h3 z hz
theorem fmax : ∀ (l : List Int) (a : Int), (l.foldl max a = a ∨ l.foldl max a ∈ l) ∧ a ≤ l.foldl max a ∧ ∀ x ∈ l, x ≤ l.foldl max a
  | [], a => ⟨Or.inl rfl, Int.le_refl _, by simp⟩
  | x :: l, a => by
    rw [List.foldl_cons]
    obtain ⟨h1, h2, h3⟩ := fmax l (max a x)
    refine ⟨?_, by omega, fun z hz => ?_⟩
    · rcases h1 with h1 | h1
      · rw [h1]; rcases Int.le_total a x with h | h
        · exact Or.inr (by rw [Int.max_eq_right h]; exact List.mem_cons_self)
        · exact Or.inl (Int.max_eq_left h)
      · exact Or.inr (List.mem_cons_of_mem _ h1)
    · rcases List.mem_cons.1 hz with rfl | hz
      · omega
      · exact h3 z hz
theorem fmin_eq {l l' : List Int} {a a' : Int} (hm : ∀ x, x ∈ l ↔ x ∈ l') (hne : l ≠ []) (ha : ∀ x ∈ l, x ≤ a) (ha' : ∀ x ∈ l', x ≤ a') : l.foldl min a = l'.foldl min a' := by
  obtain ⟨h1, h2, h3⟩ := fmin l a
  obtain ⟨g1, g2, g3⟩ := fmin l' a'
  obtain ⟨z, hz⟩ := List.exists_mem_of_ne_nil l hne
  have k1 : l.foldl min a ∈ l := by
    rcases h1 with h1 | h1
    · have := h3 z hz; have := ha z hz; rw [show l.foldl min a = z by omega]; exact hz
    · exact h1
  have k2 : l'.foldl min a' ∈ l' := by
    rcases g1 with g1 | g1
    · have := g3 z ((hm z).1 hz); have := ha' z ((hm z).1 hz); rw [show l'.foldl min a' = z by omega]; exact (hm z).1 hz
    · exact g1
  have := h3 _ ((hm _).2 k2)
  have := g3 _ ((hm _).1 k1)
  omega
/-- The most chairs in the truths: the reference's numbers, and the program's. -/
def mostsL (y : YardD) : List Int := (nsD y).map fun n => (allN y).getD n.toNat 0
theorem mem_mosts {y : YardD} (h : YOk y) (x : Int) : x ∈ mostsL y ↔ x ∈ (scenesD y []).map fun p => (p.2 : Int) := by
  unfold mostsL
  rw [List.mem_map, List.mem_map]
  constructor
  · rintro ⟨n, hn, rfl⟩
    obtain ⟨k, hk, hr, rfl⟩ := mem_ns.1 hn
    refine ⟨_, mem_scenes.2 ⟨(nthC y.chairs k).1, nth_truth h k, hr, rfl⟩, ?_⟩
    rw [Int.toNat_natCast, allN_get (by unfold allN; rw [List.length_map, List.length_range]; exact hk)]; rfl
  · rintro ⟨p, hp, rfl⟩
    obtain ⟨t, ht, hr, rfl⟩ := mem_scenes.1 hp
    obtain ⟨n, hn, rfl⟩ := nth_onto ht
    refine ⟨(n : Int), mem_ns.2 ⟨n, hn, hr, rfl⟩, ?_⟩
    rw [Int.toNat_natCast, allN_get (by unfold allN; rw [List.length_map, List.length_range]; exact hn)]; rfl
theorem ns_nil {y : YardD} (h : YOk y) : nsD y = [] ↔ scenesD y [] = [] := by
  have key := mem_mosts h
  constructor
  · intro e
    rw [List.eq_nil_iff_forall_not_mem]
    intro p hp
    have := (key p.2).2 (List.mem_map.2 ⟨p, hp, rfl⟩)
    unfold mostsL at this; rw [e] at this; simp at this
  · intro e
    rw [List.eq_nil_iff_forall_not_mem]
    intro n hn
    have := (key _).1 (List.mem_map.2 ⟨n, hn, rfl⟩)
    rw [e] at this; simp at this
end Go.Fs
namespace Go.Fs
open Go.Proofs
open C7
theorem bk_yes {m k : Nat} (h : m.testBit k = true) : bitsK m (k + 1) = bitsK m k ++ [(k : Int)] := by
  unfold bitsK; rw [List.range_succ, List.filter_append, List.map_append]; simp [h]
theorem bk_no {m k : Nat} (h : m.testBit k = false) : bitsK m (k + 1) = bitsK m k := by
  unfold bitsK; rw [List.range_succ, List.filter_append, List.map_append]; simp [h]
theorem bk_len (m k : Nat) : (bitsK m k).length ≤ k := by
  have := List.length_filter_le (fun i => m.testBit i) (List.range k)
  unfold bitsK; rw [List.length_map]; simpa using this
theorem bits_end {m k : Nat} (_hm : m < 128) (hk : k ≤ 7) (h : m >>> k = 0) : bitsK m k = bitsL m := by
  have key : ∀ j, k + j ≤ 7 → bitsK m (k + j) = bitsK m k := by
    intro j
    induction j with
    | zero => intro _; rfl
    | succ j ih =>
      intro hj
      have e : m.testBit (k + j) = false := by
        have : (m >>> k).testBit j = false := by rw [h]; exact Nat.zero_testBit _
        rwa [Nat.testBit_shiftRight] at this
      rw [← Nat.add_assoc, bk_no e, ih (by omega)]
  have := key (7 - k) (by omega)
  rw [show k + (7 - k) = 7 by omega] at this
  exact this.symm
theorem BitsR_ok (m : Nat) (hm : m < 128) (D : Data) : Fn Try.prog 65 #[.int .i64 (m : Int)] D (fun D' v => Sl D' RI 1 v (bitsL m)) := by
  refine enter 23 Try.func65 rfl rfl rfl rfl fun h0 => ?_
  refine C.seq ?_
  refine C.region [(false,0)] rfl ?_
  refine L.assign rfl rfl rfl trivial ?_
  refine L.nil ?_
  refine C.next ?_
  refine C.seq ?_
  refine C.region [(false,0)] rfl ?_
  refine L.assign rfl rfl rfl trivial ?_
  refine L.nil ?_
  refine C.next ?_
  refine C.seq ?_
  refine C.seq ?_
  refine C.region [(false,0)] rfl ?_
  refine L.assign rfl rfl rfl trivial ?_
  refine L.nil ?_
  refine C.next ?_
  refine C.block ?_
  refine C.loopR (γ := Nat × Value × Boxes) (fun g => 7 - g.1) (fun g => g.1 ≤ 7 ∧ Acc 3 1 g.2.1 (bitsK m g.1).length (ints (bitsK m g.1)) g.2.2) (fun g => [(3, g.2.1), (4, .int .i64 (g.1 : Int))]) [(2, _), (0, _)] (fun g => g.2.2 ++ []) (fun g => [D]) (0, .slice none 0 0, []) ⟨by simp, Acc.nil⟩ ⟨(by first | rfl | (show some (Value.int _ _) = some (Value.int _ _); congr 2; omega)), (by first | rfl | (show some (Value.int _ _) = some (Value.int _ _); congr 2; omega)), trivial⟩ ⟨rfl, rfl, trivial⟩ (List.Sublist.refl _) (ds_same) ?_
  rintro ⟨k, v, ν⟩ ⟨h1, ha⟩
  simp only at h1 ha
  have hsr : m >>> k ≤ m := Nat.shiftRight_le _ _
  refine C.seq ?_
  refine C.seq ?_
  refine C.region [(false,0),(false,1),(false,2),(false,3),(false,4)] rfl ?_
  refine L.move rfl rfl rfl trivial ?_
  refine L.move rfl rfl rfl trivial ?_
  refine L.convI rfl Try.underlying3 Try.underlying88 rfl (by simp only [inK]; omega) rfl trivial ?_
  refine L.shrN rfl rfl rfl (by omega) rfl trivial ?_
  refine L.gtr rfl rfl rfl rfl trivial ?_
  refine L.nil ?_
  refine C.next ?_
  refine C.condD rfl (fun hc1 => ?_) (fun hc1 => ?_)
  · have hk : k < 7 := shr_pos hm hc1
    refine C.skip ?_
    refine C.next ?_
    refine C.seq ?_
    refine C.block ?_
    refine C.seq ?_
    refine C.region [(false,0),(false,1),(false,2),(false,3),(false,4),(false,5)] rfl ?_
    refine L.move rfl rfl rfl trivial ?_
    refine L.move rfl rfl rfl trivial ?_
    refine L.convI rfl Try.underlying3 Try.underlying88 rfl (by simp only [inK]; omega) rfl trivial ?_
    refine L.shrN rfl rfl rfl (by omega) rfl trivial ?_
    refine L.rem rfl rfl rfl (Int.natCast_nonneg _) (by omega) (by simp only [inK]; omega) rfl trivial ?_
    refine L.eql rfl rfl rfl rfl trivial ?_
    refine L.nil ?_
    refine C.next ?_
    refine C.condD rfl (fun hc2 => ?_) (fun hc2 => ?_)
    · have hbit : m.testBit k = true := bit_one hc2
      refine C.region [(false,0),(false,1),(false,2),(false,3),(false,4)] rfl ?_
      refine L.move rfl rfl rfl trivial ?_
      refine L.move rfl rfl rfl trivial ?_
      refine L.buildSlice rfl Try.underlying52 Tf.s3 Tf.z3 rfl rfl rfl rfl (.cons rfl rfl .nil) rfl trivial (fun b901 D901 hD901 hA901 => ?_)
      have hS901 := Sl.ofInts (l := [_]) (n := 1) (cap := 1) hA901 rfl (by omega) (by omega)
      refine L.append (A := []) (B := []) rfl Try.underlying52 rfl rfl Tf.s3 Tf.z3 rfl Tf.i3 rfl rfl rfl ha (Src.lit hA901) (by simp) rfl (by simp) (by simp [cell1]) (by have := bk_len m k; omega) (Or.inl rfl) rfl trivial (fun v7 ν7 ha7 => ?_)
      have hn7 : Acc 3 1 v7 (bitsK m (k + 1)).length (ints (bitsK m (k + 1))) ν7 := by rw [bk_yes hbit]; simpa [ints] using ha7
      refine L.assign rfl rfl rfl trivial ?_
      refine L.nil ?_
      refine C.blockEnd ?_
      refine C.next ?_
      refine C.region [(false,0),(false,1),(false,2)] rfl ?_
      refine L.move rfl rfl rfl trivial ?_
      refine L.add rfl rfl rfl (by simp only [inK]; omega) rfl trivial ?_
      refine L.assign rfl rfl rfl trivial ?_
      refine L.nil ?_
      exact C.againR 21 (k + 1, v7, ν7) ⟨by simp only; omega, hn7⟩ (by simp only; omega) ⟨(by first | rfl | (show some (Value.int _ _) = some (Value.int _ _); congr 2; omega)), (by first | rfl | (show some (Value.int _ _) = some (Value.int _ _); congr 2; omega)), trivial⟩ rfl rfl (List.Sublist.refl _) (fun D h => ⟨D, List.Mem.tail _ (h), Le.refl D⟩)
    · have hbit : m.testBit k = false := bit_zero hc2
      refine C.skip ?_
      refine C.blockEnd ?_
      refine C.next ?_
      refine C.region [(false,0),(false,1),(false,2)] rfl ?_
      refine L.move rfl rfl rfl trivial ?_
      refine L.add rfl rfl rfl (by simp only [inK]; omega) rfl trivial ?_
      refine L.assign rfl rfl rfl trivial ?_
      refine L.nil ?_
      exact C.againR 16 (k + 1, v, ν) ⟨by simp only; omega, by simp only; rw [bk_no hbit]; exact ha⟩ (by simp only; omega) ⟨(by first | rfl | (show some (Value.int _ _) = some (Value.int _ _); congr 2; omega)), (by first | rfl | (show some (Value.int _ _) = some (Value.int _ _); congr 2; omega)), trivial⟩ rfl rfl (List.Sublist.refl _) (ds_same)
  · have hend : bitsK m k = bitsL m := bits_end hm h1 (by simp only at hc1; generalize m >>> k = s at hc1 ⊢; omega)
    rw [hend] at ha
    refine C.exit ?_
    refine C.thenExit ?_
    refine C.thenExit ?_
    refine C.blockExit ?_
    refine C.next ?_
    refine C.seq ?_
    refine C.region [(false,0),(false,1)] rfl ?_
    refine L.move rfl rfl rfl trivial ?_
    refine L.assign rfl rfl rfl trivial ?_
    refine L.nil ?_
    refine C.next ?_
    refine C.ret ?_
    refine Q.freeze (A := []) (B := []) ha rfl (fun D2 hD2 hF => ?_)
    exact leave (vs := [_]) rfl rfl rfl ⟨rfl, trivial⟩ (fun D' hD => (hF.ints rfl (by have := bk_len m 7; unfold bitsL; omega)).up RI.up (hD _ (by simp)))
end Go.Fs
namespace Go.Fs
open Go.Proofs
open C7
/-- Is the element at a place of a proof right? -/
def pfAt (t : List Pt) (l : List Int) (k : Nat) : Bool := match l[k]? with
  | some x => inB x 0 ((t.length : Int) - 1) && (!(decide (0 < (k : Int)) && decide (x ≤ l.getD (k - 1) 0)) && !isWhole (t.getD x.toNat ⟨0, 0, 0⟩))
  | none => true
def isPf (t : List Pt) (l : List Int) : Bool := (List.range l.length).all (pfAt t l)
theorem pf_at {t : List Pt} {l : List Int} {k : Nat} {x : Int} (hx : l[k]? = some x) : pfAt t l k = !((!inB x 0 ((t.length : Int) - 1) || (decide (0 < (k : Int)) && decide (x ≤ l.getD (k - 1) 0))) || isWhole (t.getD x.toNat ⟨0, 0, 0⟩)) := by
  unfold pfAt; rw [hx]; simp only
  cases inB x 0 ((t.length : Int) - 1) <;> cases (decide (0 < (k : Int)) && decide (x ≤ l.getD (k - 1) 0)) <;> cases isWhole (t.getD x.toNat ⟨0, 0, 0⟩) <;> rfl
def orP (l : List Int) : Nat := l.foldl (fun n x => n ||| 2 ^ x.toNat) 0
theorem orP_step {l : List Int} {k : Nat} {x : Int} (h : l[k]? = some x) : orP (l.take (k + 1)) = orP (l.take k) ||| 2 ^ x.toNat := by
  unfold orP; rw [List.take_add_one, h, Option.toList_some, List.foldl_append]; rfl
theorem orP_bit : ∀ (l : List Int) (n i : Nat), (l.foldl (fun n x => n ||| 2 ^ x.toNat) n).testBit i = (n.testBit i || l.any fun x => decide (x.toNat = i))
  | [], n, i => by simp
  | x :: l, n, i => by rw [List.foldl_cons, orP_bit l, Nat.testBit_or, Nat.testBit_two_pow, List.any_cons, Bool.or_assoc]
theorem mem_orP {l : List Int} {i : Nat} : (orP l).testBit i = true ↔ ∃ x ∈ l, x.toNat = i := by
  unfold orP; rw [orP_bit]; simp
theorem orP_lt {l : List Int} (h : ∀ x ∈ l, x.toNat < 7) : orP l < 128 := by
  refine Nat.lt_pow_two_of_testBit (n := 7) _ fun i hi => ?_
  cases e : (orP l).testBit i with
  | false => rfl
  | true =>
    obtain ⟨x, hx, rfl⟩ := mem_orP.1 e
    have := h x hx
    omega
theorem dif_zero (m : Nat) : dif m (orP []) = m := by unfold dif orP; simp
theorem dif_or (m a b : Nat) : dif m (a ||| b) = dif (dif m a) b := by
  apply Nat.eq_of_testBit_eq; intro x
  rw [dif_bit, dif_bit, dif_bit, Nat.testBit_or]
  cases m.testBit x <;> cases a.testBit x <;> cases b.testBit x <;> rfl
theorem br_lt (t : List Pt) (h : t.length ≤ 7) : bset (brokB t) t.length < 128 := by
  have := bset_lt (brokB t) t.length
  have h2 : 2 ^ t.length ≤ 2 ^ 7 := Nat.pow_le_pow_right (by omega) h
  omega
theorem br_in {t : List Pt} {p x : Nat} (h : (dif (bset (brokB t) t.length) p).testBit x = true) : x < t.length := by
  rw [dif_bit, bset_bit] at h; simp at h; exact h.1.1
/-- What a list that is a proof has. -/
theorem pf_facts {t : List Pt} {l : List Int} (h7 : t.length ≤ 7) (h : isPf t l = true) : (∀ x ∈ l, 0 ≤ x ∧ x.toNat < 7 ∧ (bset (brokB t) t.length).testBit x.toNat = true) ∧ onesB (orP l) = l.length ∧ (∀ x, (orP l).testBit x = true → (bset (brokB t) t.length).testBit x = true) := by
  have at_ : ∀ k x, l[k]? = some x → (0 ≤ x ∧ x.toNat < 7 ∧ (bset (brokB t) t.length).testBit x.toNat = true) ∧ (0 < k → l.getD (k - 1) 0 < x) := fun k x hx => by
    have hk := (List.getElem?_eq_some_iff.1 hx).1
    have h1 := List.all_eq_true.1 h k (List.mem_range.2 hk)
    rw [pf_at hx, Bool.not_eq_true', Bool.or_eq_false_iff, Bool.or_eq_false_iff, Bool.not_eq_false', Bool.and_eq_false_iff, decide_eq_false_iff_not, decide_eq_false_iff_not] at h1
    obtain ⟨⟨h1, h2⟩, h3⟩ := h1
    have h4 := inB_iff.1 h1
    refine ⟨⟨h4.1, by omega, ?_⟩, fun hp => by omega⟩
    have hz : t[x.toNat]? = some (t.getD x.toNat ⟨0, 0, 0⟩) := by rw [List.getD_eq_getElem?_getD, List.getElem?_eq_getElem (by omega)]; rfl
    rw [bset_bit, brok_at hz, h3]; simp; omega
  have all_ : ∀ x ∈ l, 0 ≤ x ∧ x.toNat < 7 ∧ (bset (brokB t) t.length).testBit x.toNat = true := fun x hx => by
    obtain ⟨k, hk⟩ := List.mem_iff_getElem?.1 hx
    exact (at_ k x hk).1
  have inc : ∀ k j : Nat, k < j → ∀ x z, l[k]? = some x → l[j]? = some z → x < z := by
    intro k j hkj
    induction j with
    | zero => omega
    | succ j ih =>
      intro x z hx hz
      have hj := (List.getElem?_eq_some_iff.1 hz).1
      have h1 := (at_ (j + 1) z hz).2 (by omega)
      have h2 : l[j]? = some (l.getD j 0) := by rw [List.getD_eq_getElem?_getD, List.getElem?_eq_getElem (by omega)]; rfl
      rw [Nat.add_sub_cancel] at h1
      by_cases e : k = j
      · subst e; rw [hx] at h2; obtain rfl := Option.some.inj h2; exact h1
      · have := ih (by omega) x _ hx h2; omega
  refine ⟨all_, ?_, fun x hx => ?_⟩
  · have hnd : (l.map Int.toNat).Nodup := by
      rw [List.nodup_iff_pairwise_ne, List.pairwise_iff_getElem]
      intro i j hi hj hij e
      rw [List.length_map] at hi hj
      rw [List.getElem_map, List.getElem_map] at e
      have h1 := inc i j hij _ _ (List.getElem?_eq_getElem hi) (List.getElem?_eq_getElem hj)
      have h2 := (all_ _ (List.getElem_mem hi)).1
      omega
    unfold onesB
    rw [show l.length = (l.map Int.toNat).length by rw [List.length_map]]
    refine len_eq_of_iff (nodup_bits7 _) hnd fun x => ?_
    rw [mem_bits7 (orP_lt fun x hx => (all_ x hx).2.1), mem_orP, List.mem_map]
  · obtain ⟨z, hz, rfl⟩ := mem_orP.1 hx
    exact (all_ z hz).2.2
/-- The group, as the reference finds it: each chair with each other, as often as there are chairs. -/
def colS (f : Nat → Nat → Bool) (left a : Nat) (g b : Nat) : Nat := if ((decide ((((g >>> a : Nat) : Int)) % 2 = 1) && decide ((((left >>> b : Nat) : Int)) % 2 = 1)) && f a b) = true then g ||| 2 ^ b else g
def colK (f : Nat → Nat → Bool) (left a g k : Nat) : Nat := (List.range k).foldl (colS f left a) g
def rowK (f : Nat → Nat → Bool) (left n g k : Nat) : Nat := (List.range k).foldl (fun g a => colK f left a g n) g
def rndK (f : Nat → Nat → Bool) (left n g k : Nat) : Nat := (List.range k).foldl (fun g _ => rowK f left n g n) g
theorem col_succ {f : Nat → Nat → Bool} {left a g k : Nat} : colK f left a g (k + 1) = colS f left a (colK f left a g k) k := by unfold colK; rw [List.range_succ, List.foldl_append]; rfl
theorem row_succ {f : Nat → Nat → Bool} {left n g k : Nat} : rowK f left n g (k + 1) = colK f left k (rowK f left n g k) n := by unfold rowK; rw [List.range_succ, List.foldl_append]; rfl
theorem rnd_succ {f : Nat → Nat → Bool} {left n g k : Nat} : rndK f left n g (k + 1) = rowK f left n (rndK f left n g k) n := by unfold rndK; rw [List.range_succ, List.foldl_append]; rfl
theorem col_yes {f : Nat → Nat → Bool} {left a g k : Nat} (h : ((decide ((((colK f left a g k >>> a : Nat) : Int)) % 2 = 1) && decide ((((left >>> k : Nat) : Int)) % 2 = 1)) && f a k) = true) : colK f left a g (k + 1) = colK f left a g k ||| 2 ^ k := by rw [col_succ, colS, if_pos h]
theorem col_no {f : Nat → Nat → Bool} {left a g k : Nat} (h : ((decide ((((colK f left a g k >>> a : Nat) : Int)) % 2 = 1) && decide ((((left >>> k : Nat) : Int)) % 2 = 1)) && f a k) = false) : colK f left a g (k + 1) = colK f left a g k := by rw [col_succ, colS, if_neg (by rw [h]; simp)]
theorem colS_bit {f : Nat → Nat → Bool} {left a g b x : Nat} : (colS f left a g b).testBit x = true ↔ g.testBit x = true ∨ (x = b ∧ g.testBit a = true ∧ left.testBit b = true ∧ f a b = true) := by
  have e : ((decide ((((g >>> a : Nat) : Int)) % 2 = 1) && decide ((((left >>> b : Nat) : Int)) % 2 = 1)) && f a b) = ((g.testBit a && left.testBit b) && f a b) := by
    rw [bit_mod, bit_mod]; cases g.testBit a <;> cases left.testBit b <;> rfl
  unfold colS; rw [e]
  split
  · rename_i h
    simp only [Bool.and_eq_true] at h
    rw [Nat.testBit_or, Nat.testBit_two_pow, Bool.or_eq_true, decide_eq_true_eq]
    exact ⟨fun h' => h'.imp id fun e => ⟨e.symm, h.1.1, h.1.2, h.2⟩, fun h' => h'.imp id fun e => e.1.symm⟩
  · rename_i h
    simp only [Bool.and_eq_true] at h
    exact ⟨Or.inl, fun h' => h'.resolve_right fun e => h ⟨⟨e.2.1, e.2.2.1⟩, e.2.2.2⟩⟩
theorem colK_lt {f : Nat → Nat → Bool} {left a g : Nat} (hg : g < 128) : ∀ k, k ≤ 7 → colK f left a g k < 128
  | 0, _ => hg
  | k + 1, hk => by
    have ih := colK_lt (f := f) (left := left) (a := a) hg k (by omega)
    rw [col_succ, colS]; split
    · exact Nat.or_lt_two_pow (n := 7) ih (pow_lt7 (by omega))
    · exact ih
theorem rowK_lt {f : Nat → Nat → Bool} {left g n : Nat} (hg : g < 128) (hn : n ≤ 7) : ∀ k, rowK f left n g k < 128
  | 0 => hg
  | k + 1 => by rw [row_succ]; exact colK_lt (rowK_lt hg hn k) n hn
theorem rnd_lt {f : Nat → Nat → Bool} {left g n : Nat} (hg : g < 128) (hn : n ≤ 7) : ∀ k, rndK f left n g k < 128
  | 0 => hg
  | k + 1 => by rw [rnd_succ]; exact rowK_lt (rnd_lt hg hn k) hn n
/-- What holds of all that are reached. -/
theorem colK_ind {f : Nat → Nat → Bool} {left a g : Nat} {p : Nat → Prop} (hs : ∀ z, p a → left.testBit z = true → f a z = true → p z) (h : ∀ x, g.testBit x = true → p x) : ∀ k x, (colK f left a g k).testBit x = true → p x
  | 0, x, hx => h x hx
  | k + 1, x, hx => by
    have ih := colK_ind hs h k
    rw [col_succ, colS_bit] at hx
    rcases hx with hx | ⟨rfl, h1, h2, h3⟩
    · exact ih x hx
    · exact hs x (ih a h1) h2 h3
theorem rowK_ind {f : Nat → Nat → Bool} {left g n : Nat} {p : Nat → Prop} (hs : ∀ a z, p a → left.testBit z = true → f a z = true → p z) (h : ∀ x, g.testBit x = true → p x) : ∀ k x, (rowK f left n g k).testBit x = true → p x
  | 0, x, hx => h x hx
  | k + 1, x, hx => by rw [row_succ] at hx; exact colK_ind (hs k) (rowK_ind hs h k) n x hx
theorem rnd_ind {f : Nat → Nat → Bool} {left g n : Nat} {p : Nat → Prop} (hs : ∀ a z, p a → left.testBit z = true → f a z = true → p z) (h : ∀ x, g.testBit x = true → p x) : ∀ k x, (rndK f left n g k).testBit x = true → p x
  | 0, x, hx => h x hx
  | k + 1, x, hx => by rw [rnd_succ] at hx; exact rowK_ind hs (rnd_ind hs h k) n x hx
theorem colK_up {f : Nat → Nat → Bool} {left a g x : Nat} (h : g.testBit x = true) : ∀ k, (colK f left a g k).testBit x = true
  | 0 => h
  | k + 1 => by rw [col_succ, colS_bit]; exact Or.inl (colK_up h k)
theorem rowK_up {f : Nat → Nat → Bool} {left n g x : Nat} (h : g.testBit x = true) : ∀ k, (rowK f left n g k).testBit x = true
  | 0 => h
  | k + 1 => by rw [row_succ]; exact colK_up (rowK_up h k) n
theorem rnd_up {f : Nat → Nat → Bool} {left n g x : Nat} (h : g.testBit x = true) : ∀ k, (rndK f left n g k).testBit x = true
  | 0 => h
  | k + 1 => by rw [rnd_succ]; exact rowK_up (rnd_up h k) n
theorem colK_near {f : Nat → Nat → Bool} {left a g z : Nat} (ha : g.testBit a = true) (hz : left.testBit z = true) (hf : f a z = true) : ∀ k, z < k → (colK f left a g k).testBit z = true
  | k + 1, hk => by
    rw [col_succ, colS_bit]
    by_cases e : z = k
    · subst e; exact Or.inr ⟨rfl, colK_up ha z, hz, hf⟩
    · exact Or.inl (colK_near ha hz hf k (by omega))
theorem rowK_near {f : Nat → Nat → Bool} {left n g a z : Nat} (ha : g.testBit a = true) (hz : left.testBit z = true) (hf : f a z = true) (hzn : z < n) : ∀ k, a < k → (rowK f left n g k).testBit z = true
  | k + 1, hk => by
    rw [row_succ]
    by_cases e : a = k
    · subst e; exact colK_near (rowK_up ha a) hz hf n hzn
    · exact colK_up (rowK_near ha hz hf hzn k (by omega)) n
theorem ones_le_n {m n : Nat} (h : ∀ x, m.testBit x = true → x < n) : onesB m ≤ n := by
  have := length_le_of_sub (nodup_bits7 fun i => m.testBit i) (m := List.range n) fun x hx => List.mem_range.2 (h x (List.mem_filter.1 hx).2)
  rwa [List.length_range] at this
theorem ones_grow {m g : Nat} (h : ∀ x, g.testBit x = true → m.testBit x = true) (hm : m < 128) (hne : m ≠ g) : onesB g + 1 ≤ onesB m := by
  have : ∃ x, m.testBit x = true ∧ g.testBit x = false := Classical.byContradiction fun hno => hne (Nat.eq_of_testBit_eq fun x => by
    cases e : g.testBit x with
    | true => exact h x e
    | false => cases e2 : m.testBit x with
      | false => rfl
      | true => exact absurd ⟨x, e2, e⟩ hno)
  obtain ⟨x, hx, hg⟩ := this
  exact filter_lt h hx hg (List.mem_range.2 (bit128 hm hx))
theorem rnd_fix {f : Nat → Nat → Bool} {left n a : Nat} (hn : n ≤ 7) (ha : a < 7) : ∀ k, rowK f left n (rndK f left n (2 ^ a) k) n = rndK f left n (2 ^ a) k ∨ k + 1 ≤ onesB (rndK f left n (2 ^ a) k)
  | 0 => Or.inr (by show 1 ≤ onesB (2 ^ a); rw [ones_two ha]; exact Nat.le_refl _)
  | k + 1 => by
    rcases Classical.em (rowK f left n (rndK f left n (2 ^ a) k) n = rndK f left n (2 ^ a) k) with h | h
    · left; rw [rnd_succ, h, h]
    · right
      rcases rnd_fix (f := f) (left := left) hn ha k with h1 | h1
      · exact absurd h1 h
      · rw [rnd_succ]
        have := ones_grow (fun x hx => rowK_up hx n) (rowK_lt (rnd_lt (f := f) (left := left) (pow_lt7 ha) hn k) hn n) h
        omega
/-- The reference's group is the program's. -/
theorem group_is {y : YardD} {t : List Pt} {left a : Nat} (hlen : t.length = y.chairs.length) (h7 : t.length ≤ 7) (ha : a < 7) (hbit : left.testBit a = true) (_hl : left < 128) (hin : ∀ x, left.testBit x = true → x < t.length) : rndK (fitB y t) left t.length (2 ^ a) t.length = groupB (sceneD y t).fits left a := by
  have hF := (scene_ok' hlen h7).row
  have hfb : ∀ x z, fB (sceneD y t).fits x z = fitB y t x z := fun x z => by rw [fB_fits h7]
  have h1 : ∀ x, (rndK (fitB y t) left t.length (2 ^ a) t.length).testBit x = true → (groupB (sceneD y t).fits left a).testBit x = true := by
    refine rnd_ind (fun x z hx hz hf => group_closed hF ha hx hz (by rw [hfb]; exact hf)) (fun x hx => ?_) t.length
    rw [Nat.testBit_two_pow] at hx
    obtain rfl : a = x := by simpa using hx
    exact group_has _ _ _
  have hfix : rowK (fitB y t) left t.length (rndK (fitB y t) left t.length (2 ^ a) t.length) t.length = rndK (fitB y t) left t.length (2 ^ a) t.length := by
    rcases rnd_fix (f := fitB y t) (left := left) h7 ha t.length with h | h
    · exact h
    · have := ones_le_n (fun x hx => hin x (group_sub hbit x (h1 x hx)))
      omega
  have h2 : ∀ x, (groupB (sceneD y t).fits left a).testBit x = true → (rndK (fitB y t) left t.length (2 ^ a) t.length).testBit x = true := by
    refine group_ind (p := fun x => (rndK (fitB y t) left t.length (2 ^ a) t.length).testBit x = true) (fun x z hx hz hf => ?_) (rnd_up (by rw [Nat.testBit_two_pow_self]) _)
    rw [hfb] at hf
    rw [← hfix]
    exact rowK_near hx hz hf (hin z hz) _ (fitB_in hf).1
  exact Nat.eq_of_testBit_eq fun x => by
    cases e : (groupB (sceneD y t).fits left a).testBit x with
    | true => exact h2 x e
    | false => cases e2 : (rndK (fitB y t) left t.length (2 ^ a) t.length).testBit x with
      | false => rfl
      | true => rw [h1 x e2] at e; cases e
theorem odd_skip {lf i n : Nat} (h : ∀ x, lf.testBit x = true → i ≤ x ∧ x < n) (hb : lf.testBit i = false) (x : Nat) (hx : lf.testBit x = true) : i + 1 ≤ x ∧ x < n := by
  have := h x hx
  have hne : x ≠ i := by rintro rfl; rw [hb] at hx; cases hx
  omega
theorem odd_go {F : List Nat} {lf i n : Nat} (h : ∀ x, lf.testBit x = true → i ≤ x ∧ x < n) (x : Nat) (hx : (dif lf (groupB F lf i)).testBit x = true) : i + 1 ≤ x ∧ x < n := by
  rw [dif_bit] at hx
  simp only [Bool.and_eq_true, Bool.not_eq_true'] at hx
  have := h x hx.1
  have hne : x ≠ i := by rintro rfl; rw [group_has] at hx; cases hx.2
  omega
theorem odd_at {F : List Nat} {lf i n : Nat} (h : ∀ x, lf.testBit x = true → i ≤ x ∧ x < n) (hb : lf.testBit i = true) : oddB F lf = onesB (groupB F lf i) % 2 + oddB F (dif lf (groupB F lf i)) := by
  have h0 : lf ≠ 0 := by rintro rfl; rw [Nat.zero_testBit] at hb; cases hb
  have hl := low_spec h0
  have e : low lf = i := by
    have h1 := (h _ hl.1).1
    rcases Nat.lt_or_ge i (low lf) with h2 | h2
    · rw [hl.2 i h2] at hb; cases hb
    · omega
  have := oddB_eq (F := F) h0
  rwa [e] at this
theorem bl_len (m : Nat) : (bitsL m).length = onesB m := by unfold bitsL bitsK onesB; rw [List.length_map]
theorem bound_fin {y : YardD} {t : List Pt} {l : List Int} {od : Nat} (hpl : onesB (orP l) = l.length) (h8 : od + oddB (sceneD y t).fits 0 = oddB (sceneD y t).fits (dif (bset (brokB t) t.length) (orP l))) (hle : oddB (sceneD y t).fits (dif (bset (brokB t) t.length) (orP l)) ≤ onesB (dif (bset (brokB t) t.length) (orP l))) (_h7 : onesB (dif (bset (brokB t) t.length) (orP l)) ≤ 7) : ((whole t : Nat) : Int) + (((bitsL (bset (brokB t) t.length)).length : Int) + (l.length : Int) - (od : Int)) / 2 = (boundB (sceneD y t) (orP l) : Int) := by
  have h0 : oddB (sceneD y t).fits 0 = 0 := rfl
  have h1 := onesB_mono (bset (brokB t) t.length) (orP l)
  rw [bl_len, ← hpl]
  unfold boundB
  have hb : (sceneD y t).broken = bset (brokB t) t.length := rfl
  have hw : (sceneD y t).whole = whole t := rfl
  rw [hb, hw]
  omega
theorem odd_end {lf n : Nat} (h : ∀ x, lf.testBit x = true → n ≤ x ∧ x < n) : lf = 0 := Nat.eq_of_testBit_eq fun x => by
  rw [Nat.zero_testBit]
  cases e : lf.testBit x with
  | false => rfl
  | true => have := h x e; omega
theorem GroupR_ok (yv tv : Value) (y : YardD) (t : List Pt) (left from_ : Nat) (D : Data) (hy : YardIs D yv y) (ht : Sl D RP 3 tv t) (hyo : YOk y) (hlen : t.length = y.chairs.length) (hb : ∀ p ∈ t, Bits1 p) (_hl : left < 128) (hf : from_ < 7) : Fn Try.prog 85 #[yv, tv, .int .i64 (left : Int), .int .i64 (from_ : Int)] D (fun _ v => v = .int .i64 (rndK (fitB y t) left t.length (2 ^ from_) t.length : Int)) := by
  have hy0 := hy
  have hn7 := hyo.len
  have hp2 := pow_lt7 hf
  obtain ⟨cv, qv, rfl, hc, hq⟩ := hy
  have htl := ht.len
  refine enter 61 Try.func85 rfl rfl rfl rfl fun h0 => ?_
  refine C.seq ?_
  refine C.region [(false,0),(false,1)] rfl ?_
  refine L.boxD rfl rfl rfl rfl trivial (fun q1 E1 hE1 hB1 => ?_)
  refine L.assign rfl rfl rfl trivial ?_
  refine L.nil ?_
  refine C.next ?_
  refine C.seq ?_
  refine C.region [(false,0),(false,1),(false,2),(false,3)] rfl ?_
  refine L.move rfl rfl rfl trivial ?_
  refine L.convI rfl Try.underlying3 Try.underlying88 rfl (by simp only [inK]; omega) rfl trivial ?_
  refine L.shl1U rfl rfl rfl (by omega) rfl trivial ?_
  refine L.assign rfl rfl rfl trivial ?_
  refine L.nil ?_
  refine C.next ?_
  refine C.seq ?_
  refine C.seq ?_
  refine C.region [(false,0)] rfl ?_
  refine L.assign rfl rfl rfl trivial ?_
  refine L.nil ?_
  refine C.next ?_
  refine C.block ?_
  refine C.loopC (γ := Nat) (fun i => t.length - i) (fun i => i ≤ t.length) (fun i => [(10, .int .i64 (i : Int)), (9, .int .i64 (rndK (fitB y t) left t.length (2 ^ from_) i : Int))]) [(8, _), (4, _), (1, _), (2, _)] (fun i => [E1, D]) 0 (by omega) ⟨(by first | rfl | (show some (Value.int _ _) = some (Value.int _ _); congr 2; omega)), (by first | rfl | (show some (Value.int _ _) = some (Value.int _ _); congr 2; omega)), trivial⟩ ⟨rfl, rfl, rfl, rfl, trivial⟩ (ds_same) ?_
  rintro i h1
  refine C.seq ?_
  refine C.seq ?_
  refine C.region [(false,0),(false,1),(false,2),(false,3)] rfl ?_
  refine L.move rfl rfl rfl trivial ?_
  refine L.move rfl rfl rfl trivial ?_
  refine L.len rfl Try.underlying26 rfl ht rfl rfl trivial ?_
  refine L.lss rfl rfl rfl rfl trivial ?_
  refine L.nil ?_
  refine C.next ?_
  refine C.condD rfl (fun hc1 => ?_) (fun hc1 => ?_)
  · refine C.skip ?_
    refine C.next ?_
    refine C.seq ?_
    refine C.block ?_
    refine C.seq ?_
    refine C.region [(false,0)] rfl ?_
    refine L.assign rfl rfl rfl trivial ?_
    refine L.nil ?_
    refine C.next ?_
    refine C.block ?_
    refine C.loopC (γ := Nat) (fun a => t.length - a) (fun a => a ≤ t.length) (fun a => [(11, .int .i64 (a : Int)), (9, .int .i64 (rowK (fitB y t) left t.length (rndK (fitB y t) left t.length (2 ^ from_) i) a : Int))]) [(19, _), (18, _), (17, _), (16, _), (10, _), (8, _), (4, _), (1, _), (2, _)] (fun a => [E1, D]) 0 (by omega) ⟨(by first | rfl | (show some (Value.int _ _) = some (Value.int _ _); congr 2; omega)), (by first | rfl | (show some (Value.int _ _) = some (Value.int _ _); congr 2; omega)), trivial⟩ ⟨rfl, rfl, rfl, rfl, rfl, rfl, rfl, rfl, rfl, trivial⟩ (ds_same) ?_
    rintro a h2
    refine C.seq ?_
    refine C.seq ?_
    refine C.region [(false,0),(false,1),(false,2),(false,3)] rfl ?_
    refine L.move rfl rfl rfl trivial ?_
    refine L.move rfl rfl rfl trivial ?_
    refine L.len rfl Try.underlying26 rfl ht rfl rfl trivial ?_
    refine L.lss rfl rfl rfl rfl trivial ?_
    refine L.nil ?_
    refine C.next ?_
    refine C.condD rfl (fun hc2 => ?_) (fun hc2 => ?_)
    · have ha : a < t.length := by omega
      have hg2 := rnd_lt (f := fitB y t) (left := left) (n := t.length) hp2 (by omega) i
      refine C.skip ?_
      refine C.next ?_
      refine C.seq ?_
      refine C.block ?_
      refine C.seq ?_
      refine C.region [(false,0)] rfl ?_
      refine L.assign rfl rfl rfl trivial ?_
      refine L.nil ?_
      refine C.next ?_
      refine C.block ?_
      refine C.loopC (γ := Nat) (fun b => t.length - b) (fun b => b ≤ t.length) (fun b => [(12, .int .i64 (b : Int)), (9, .int .i64 (colK (fitB y t) left a (rowK (fitB y t) left t.length (rndK (fitB y t) left t.length (2 ^ from_) i) a) b : Int))]) [(25, _), (24, _), (23, _), (22, _), (11, _), (19, _), (18, _), (17, _), (16, _), (10, _), (8, _), (4, _), (1, _), (2, _)] (fun b => [E1, D]) 0 (by omega) ⟨(by first | rfl | (show some (Value.int _ _) = some (Value.int _ _); congr 2; omega)), (by first | rfl | (show some (Value.int _ _) = some (Value.int _ _); congr 2; omega)), trivial⟩ ⟨rfl, rfl, rfl, rfl, rfl, rfl, rfl, rfl, rfl, rfl, rfl, rfl, rfl, rfl, trivial⟩ (ds_same) ?_
      rintro b h3
      refine C.seq ?_
      refine C.seq ?_
      refine C.region [(false,0),(false,1),(false,2),(false,3)] rfl ?_
      refine L.move rfl rfl rfl trivial ?_
      refine L.move rfl rfl rfl trivial ?_
      refine L.len rfl Try.underlying26 rfl ht rfl rfl trivial ?_
      refine L.lss rfl rfl rfl rfl trivial ?_
      refine L.nil ?_
      refine C.next ?_
      refine C.condD rfl (fun hc3 => ?_) (fun hc3 => ?_)
      · have hb2 : b < t.length := by omega
        have hg4 := rowK_lt (f := fitB y t) (left := left) hg2 (n := t.length) (by omega) a
        have hg3 := colK_lt (f := fitB y t) (left := left) (a := a) hg4 b (by omega)
        have hp3 := pow_lt7 (show b < 7 by omega)
        refine C.skip ?_
        refine C.next ?_
        refine C.seq ?_
        refine C.block ?_
        refine C.seq ?_
        refine C.region [(false,0),(false,1),(false,2),(false,3),(false,4),(false,5),(false,6),(false,7),(false,8),(false,9),(false,10),(false,11),(false,12),(false,13),(false,14),(false,15),(false,16),(false,17),(false,18),(false,19),(false,20)] rfl ?_
        refine L.move rfl rfl rfl trivial ?_
        refine L.move rfl rfl rfl trivial ?_
        refine L.convI rfl Try.underlying3 Try.underlying88 rfl (by simp only [inK]; omega) rfl trivial ?_
        refine L.shrN rfl rfl rfl (by omega) rfl trivial ?_
        refine L.rem rfl rfl rfl (Int.natCast_nonneg _) (by omega) (by rw [bit_mod]; split <;> simp only [inK] <;> omega) rfl trivial ?_
        refine L.eql rfl rfl rfl rfl trivial ?_
        refine L.move rfl rfl rfl trivial ?_
        refine' L.and [(false,7),(false,8),(false,9),(false,10),(false,11),(false,12),(false,13)] [(false,14),(false,15),(false,16),(false,17),(false,18),(false,19),(false,20)] (s := 40) (p := 47) rfl rfl (fun hg1 => ?_) (fun hg1 => ?_) ?_
        rotate_left
        · refine L.move rfl rfl rfl ⟨_, rfl, rfl⟩ ?_
          refine L.move rfl rfl rfl ⟨_, rfl, rfl⟩ ?_
          refine L.convI rfl Try.underlying3 Try.underlying88 rfl (by simp only [inK]; omega) rfl ⟨_, rfl, rfl⟩ ?_
          refine L.shrN rfl rfl rfl (by omega) rfl ⟨_, rfl, rfl⟩ ?_
          refine L.rem rfl rfl rfl (Int.natCast_nonneg _) (by omega) (by rw [bit_mod]; split <;> simp only [inK] <;> omega) rfl ⟨_, rfl, rfl⟩ ?_
          refine L.eql rfl rfl rfl rfl ⟨_, rfl, rfl⟩ ?_
          refine L.pickT rfl rfl rfl rfl trivial ?_
          exact L.nil fun a w hh => hh.cutK 6 rfl
        · refine L.pass rfl rfl rfl ⟨_, _, rfl, rfl, rfl⟩ ?_
          refine L.pass rfl rfl rfl ⟨_, _, rfl, rfl, rfl⟩ ?_
          refine L.pass rfl rfl rfl ⟨_, _, rfl, rfl, rfl⟩ ?_
          refine L.pass rfl rfl rfl ⟨_, _, rfl, rfl, rfl⟩ ?_
          refine L.pass rfl rfl rfl ⟨_, _, rfl, rfl, rfl⟩ ?_
          refine L.pass rfl rfl rfl ⟨_, _, rfl, rfl, rfl⟩ ?_
          refine L.pickF rfl rfl rfl rfl trivial ?_
          exact L.nil fun a w hh => hh.cutK 6 rfl
        refine L.move rfl rfl rfl trivial ?_
        refine' L.and [(false,15),(false,16),(false,17),(false,18),(false,19),(false,20)] [] (s := 48) (p := 54) rfl rfl (fun hg2 => ?_) (fun hg2 => ?_) ?_
        rotate_left
        · refine L.loadDW rfl Tf.a25 rfl hB1 (by first | simp | assumption) Tf.s25 List.not_mem_nil rfl ⟨_, rfl, rfl⟩ ?_
          refine L.move rfl rfl rfl ⟨_, rfl, rfl⟩ ?_
          refine L.move rfl rfl rfl ⟨_, rfl, rfl⟩ ?_
          refine L.move rfl rfl rfl ⟨_, rfl, rfl⟩ ?_
          refine L.callV rfl rfl rfl (fun D1 hD1 => Fits_ok _ _ y t a b _ (hy0.up (hD1 _ (by simp))) (ht.up RP.up (hD1 _ (by simp))) hyo hlen hb ha hb2) rfl ⟨_, rfl, rfl⟩ ?_
          refine L.pickT rfl rfl rfl rfl trivial ?_
          exact L.nil fun a w hh => hh.cutK 5 rfl
        · refine L.pass rfl rfl rfl ⟨_, _, rfl, rfl, rfl⟩ ?_
          refine L.pass rfl rfl rfl ⟨_, _, rfl, rfl, rfl⟩ ?_
          refine L.pass rfl rfl rfl ⟨_, _, rfl, rfl, rfl⟩ ?_
          refine L.pass rfl rfl rfl ⟨_, _, rfl, rfl, rfl⟩ ?_
          refine L.pass rfl rfl rfl ⟨_, _, rfl, rfl, rfl⟩ ?_
          refine L.pickF rfl rfl rfl rfl trivial ?_
          exact L.nil fun a w hh => hh.cutK 5 rfl
        refine L.nil ?_
        refine C.next ?_
        refine C.cond rfl (fun hc4 => ?_) (fun hc4 => ?_)
        · refine C.region [(false,0),(false,1),(false,2),(false,3),(false,4),(false,5)] rfl ?_
          refine L.move rfl rfl rfl trivial ?_
          refine L.move rfl rfl rfl trivial ?_
          refine L.convI rfl Try.underlying3 Try.underlying88 rfl (by simp only [inK]; omega) rfl trivial ?_
          refine L.shl1U rfl rfl rfl (by omega) rfl trivial ?_
          refine L.orB rfl rfl rfl (by omega) (by omega) rfl trivial ?_
          refine L.assign rfl rfl rfl trivial ?_
          refine L.nil ?_
          refine C.blockEnd ?_
          refine C.next ?_
          refine C.region [(false,0),(false,1),(false,2)] rfl ?_
          refine L.move rfl rfl rfl trivial ?_
          refine L.add rfl rfl rfl (by simp only [inK]; omega) rfl trivial ?_
          refine L.assign rfl rfl rfl trivial ?_
          refine L.nil ?_
          exact C.againR 25 (b + 1) (by omega) (by omega) ⟨(by first | rfl | (show some (Value.int _ _) = some (Value.int _ _); congr 2; omega)), (by rw [col_yes hc4]; rfl), trivial⟩ rfl rfl (List.Sublist.refl _) (ds_same)
        · refine C.skip ?_
          refine C.blockEnd ?_
          refine C.next ?_
          refine C.region [(false,0),(false,1),(false,2)] rfl ?_
          refine L.move rfl rfl rfl trivial ?_
          refine L.add rfl rfl rfl (by simp only [inK]; omega) rfl trivial ?_
          refine L.assign rfl rfl rfl trivial ?_
          refine L.nil ?_
          exact C.againR 19 (b + 1) (by omega) (by omega) ⟨(by first | rfl | (show some (Value.int _ _) = some (Value.int _ _); congr 2; omega)), (by rw [col_no hc4]; rfl), trivial⟩ rfl rfl (List.Sublist.refl _) (ds_same)
      · obtain rfl : b = t.length := by omega
        rw [← row_succ]
        refine C.exit ?_
        refine C.thenExit ?_
        refine C.thenExit ?_
        refine C.blockExit ?_
        refine C.blockEnd ?_
        refine C.next ?_
        refine C.region [(false,0),(false,1),(false,2)] rfl ?_
        refine L.move rfl rfl rfl trivial ?_
        refine L.add rfl rfl rfl (by simp only [inK]; omega) rfl trivial ?_
        refine L.assign rfl rfl rfl trivial ?_
        refine L.nil ?_
        exact C.againR 14 (a + 1) (by omega) (by omega) ⟨(by first | rfl | (show some (Value.int _ _) = some (Value.int _ _); congr 2; omega)), (by show some (Value.int _ _) = some (Value.int _ _); congr 2), trivial⟩ rfl rfl (List.Sublist.refl _) (ds_same)
    · obtain rfl : a = t.length := by omega
      rw [← rnd_succ]
      refine C.exit ?_
      refine C.thenExit ?_
      refine C.thenExit ?_
      refine C.blockExit ?_
      refine C.blockEnd ?_
      refine C.next ?_
      refine C.region [(false,0),(false,1),(false,2)] rfl ?_
      refine L.move rfl rfl rfl trivial ?_
      refine L.add rfl rfl rfl (by simp only [inK]; omega) rfl trivial ?_
      refine L.assign rfl rfl rfl trivial ?_
      refine L.nil ?_
      exact C.againR 14 (i + 1) (by omega) (by omega) ⟨(by first | rfl | (show some (Value.int _ _) = some (Value.int _ _); congr 2; omega)), (by show some (Value.int _ _) = some (Value.int _ _); congr 2), trivial⟩ rfl rfl (List.Sublist.refl _) (ds_same)
  · obtain rfl : i = t.length := by omega
    refine C.exit ?_
    refine C.thenExit ?_
    refine C.thenExit ?_
    refine C.blockExit ?_
    refine C.next ?_
    refine C.seq ?_
    refine C.region [(false,0),(false,1)] rfl ?_
    refine L.move rfl rfl rfl trivial ?_
    refine L.assign rfl rfl rfl trivial ?_
    refine L.nil ?_
    refine C.next ?_
    refine C.ret ?_
    exact leave (vs := [_]) rfl rfl rfl ⟨rfl, trivial⟩ (fun D hD => rfl)
theorem GroupR_ok2 (yv tv : Value) (y : YardD) (t : List Pt) (left from_ : Nat) (D : Data) (hy : YardIs D yv y) (ht : Sl D RP 3 tv t) (hyo : YOk y) (hlen : t.length = y.chairs.length) (hb : ∀ p ∈ t, Bits1 p) (hl : left < 128) (hf : from_ < 7) (hbit : left.testBit from_ = true) (hin : ∀ x, left.testBit x = true → x < t.length) : Fn Try.prog 85 #[yv, tv, .int .i64 (left : Int), .int .i64 (from_ : Int)] D (fun _ v => v = .int .i64 (groupB (sceneD y t).fits left from_ : Int)) := by
  have h7 : t.length ≤ 7 := by have := hyo.len; omega
  rw [← group_is hlen h7 hf hbit hl hin]
  exact GroupR_ok yv tv y t left from_ D hy ht hyo hlen hb hl hf
theorem BoundR_ok (yv tv lv : Value) (y : YardD) (t : List Pt) (l : List Int) (D : Data) (hy : YardIs D yv y) (ht : Sl D RP 3 tv t) (hv : Sl D RI 1 lv l) (hyo : YOk y) (hlen : t.length = y.chairs.length) (hb : ∀ p ∈ t, Bits1 p) (hp : isPf t l = true) : Fn Try.prog 38 #[yv, tv, lv] D (fun _ v => v = .int .i64 (boundB (sceneD y t) (orP l) : Int)) := by
  have hy0 := hy
  have hn7 := hyo.len
  obtain ⟨cv, qv, rfl, hc, hq⟩ := hy
  have htl := ht.len
  have hvl := hv.len
  have hbr := br_lt t (show t.length ≤ 7 by omega)
  obtain ⟨hpx, hpl, hps⟩ := pf_facts (show t.length ≤ 7 by omega) hp
  have hop := orP_lt (fun x hx => (hpx x hx).2.1)
  have hblB := bl_len (bset (brokB t) t.length)
  have honM := onesB_mono (bset (brokB t) t.length) (orP l)
  have honB := onesB_le (bset (brokB t) t.length)
  have hopl := onesB_le (orP l)
  have hodl := oddB_le (sceneD y t).fits (dif (bset (brokB t) t.length) (orP l)) (by have := dif_le (bset (brokB t) t.length) (orP l); omega)
  have hol2 := onesB_le (dif (bset (brokB t) t.length) (orP l))
  have hwl : whole t ≤ t.length := List.length_filter_le _ _
  refine enter 84 Try.func38 rfl rfl rfl rfl fun h0 => ?_
  refine C.seq ?_
  refine C.region [(false,0),(false,1)] rfl ?_
  refine L.boxD rfl rfl rfl rfl trivial (fun q1 E1 hE1 hB1 => ?_)
  refine L.assign rfl rfl rfl trivial ?_
  refine L.nil ?_
  refine C.next ?_
  refine C.seq ?_
  refine C.region [(false,0)] rfl ?_
  refine L.assign rfl rfl rfl trivial ?_
  refine L.nil ?_
  refine C.next ?_
  refine C.seq ?_
  refine C.seq ?_
  refine C.region [(false,0)] rfl ?_
  refine L.assign rfl rfl rfl trivial ?_
  refine L.nil ?_
  refine C.next ?_
  refine C.block ?_
  refine C.loopC (γ := Nat) (fun i => t.length - i) (fun i => i ≤ t.length) (fun i => [(7, .int .i64 (bset (brokB t) i : Int)), (8, .int .i64 (i : Int))]) [(6, _), (3, _), (1, _), (2, _)] (fun i => [E1, D]) 0 (by omega) ⟨(by first | rfl | (show some (Value.int _ _) = some (Value.int _ _); congr 2; omega)), (by first | rfl | (show some (Value.int _ _) = some (Value.int _ _); congr 2; omega)), trivial⟩ ⟨rfl, rfl, rfl, rfl, trivial⟩ (ds_same) ?_
  rintro i h1
  refine C.seq ?_
  refine C.seq ?_
  refine C.region [(false,0),(false,1),(false,2),(false,3)] rfl ?_
  refine L.move rfl rfl rfl trivial ?_
  refine L.move rfl rfl rfl trivial ?_
  refine L.len rfl Try.underlying26 rfl ht rfl rfl trivial ?_
  refine L.lss rfl rfl rfl rfl trivial ?_
  refine L.nil ?_
  refine C.next ?_
  refine C.condD rfl (fun hc1 => ?_) (fun hc1 => ?_)
  · have hi : i < t.length := by omega
    obtain ⟨z, hz⟩ : ∃ z, t[i]? = some z := ⟨_, List.getElem?_eq_getElem hi⟩
    have hp2 := pow_lt7 (show i < 7 by omega)
    have hbi := bset_lt (brokB t) i
    have hbj : 2 ^ i < 128 := hp2
    refine C.skip ?_
    refine C.next ?_
    refine C.seq ?_
    refine C.block ?_
    refine C.seq ?_
    refine C.region [(false,0),(false,1),(false,2),(false,3),(false,4),(false,5)] rfl ?_
    refine L.move rfl rfl rfl trivial ?_
    refine L.move rfl rfl rfl trivial ?_
    refine L.indexS rfl Try.underlying26 Tf.s91 rfl ht rfl (by omega) hz rfl trivial (fun b1 o1 cs1 hr1 hcl1 hA1 => ?_)
    obtain rfl : cs1 = [.int .i64 _, .int .i64 _, .int .i64 _] := hr1
    refine L.loadDW rfl Tf.a91 rfl hA1 (by first | simp | assumption) (by first | exact Tf.s91 | (simp only [ints_length, *]; exact Tf.s91)) List.not_mem_nil rfl trivial ?_
    refine L.callV rfl rfl rfl (fun D1 hD1 => IsWhole_ok z _ (hb _ (List.mem_of_getElem? hz))) rfl trivial ?_
    refine L.not rfl rfl rfl trivial ?_
    refine L.nil ?_
    refine C.next ?_
    refine C.cond rfl (fun hc2 => ?_) (fun hc2 => ?_)
    · have hwz : isWhole z = false := by simpa using hc2
      refine C.region [(false,0),(false,1),(false,2),(false,3),(false,4),(false,5)] rfl ?_
      refine L.move rfl rfl rfl trivial ?_
      refine L.move rfl rfl rfl trivial ?_
      refine L.convI rfl Try.underlying3 Try.underlying88 rfl (by simp only [inK]; omega) rfl trivial ?_
      refine L.shl1U rfl rfl rfl (by omega) rfl trivial ?_
      refine L.orB rfl rfl rfl (by omega) (by omega) rfl trivial ?_
      refine L.assign rfl rfl rfl trivial ?_
      refine L.nil ?_
      refine C.blockEnd ?_
      refine C.next ?_
      refine C.region [(false,0),(false,1),(false,2)] rfl ?_
      refine L.move rfl rfl rfl trivial ?_
      refine L.add rfl rfl rfl (by simp only [inK]; omega) rfl trivial ?_
      refine L.assign rfl rfl rfl trivial ?_
      refine L.nil ?_
      exact C.againR 21 (i + 1) (by omega) (by omega) ⟨(by rw [bset, if_pos (by rw [brok_at hz, hwz]; rfl)]; rfl), (by first | rfl | (show some (Value.int _ _) = some (Value.int _ _); congr 2; omega)), trivial⟩ rfl rfl (List.Sublist.refl _) (ds_same)
    · have hwz : isWhole z = true := by simpa using hc2
      refine C.skip ?_
      refine C.blockEnd ?_
      refine C.next ?_
      refine C.region [(false,0),(false,1),(false,2)] rfl ?_
      refine L.move rfl rfl rfl trivial ?_
      refine L.add rfl rfl rfl (by simp only [inK]; omega) rfl trivial ?_
      refine L.assign rfl rfl rfl trivial ?_
      refine L.nil ?_
      exact C.againR 15 (i + 1) (by omega) (by omega) ⟨(by rw [bset, if_neg (by rw [brok_at hz, hwz]; simp)]; rfl), (by first | rfl | (show some (Value.int _ _) = some (Value.int _ _); congr 2; omega)), trivial⟩ rfl rfl (List.Sublist.refl _) (ds_same)
  · obtain rfl : i = t.length := by omega
    refine C.exit ?_
    refine C.thenExit ?_
    refine C.thenExit ?_
    refine C.blockExit ?_
    refine C.next ?_
    refine C.seq ?_
    refine C.region [(false,0),(false,1),(false,2),(false,3)] rfl ?_
    refine L.move rfl rfl rfl trivial ?_
    refine L.call rfl rfl rfl (fun D2 hD2 => BitsR_ok (bset (brokB t) t.length) (by omega) _) rfl trivial (fun v2 D2 hD2 hp2 => ?_)
    have hb7 := hp2
    refine L.len rfl Try.underlying52 rfl (by assumption) rfl rfl trivial ?_
    refine L.assign rfl rfl rfl trivial ?_
    refine L.nil ?_
    refine C.next ?_
    refine C.seq ?_
    refine C.seq ?_
    refine C.region [(false,0)] rfl ?_
    refine L.assign rfl rfl rfl trivial ?_
    refine L.nil ?_
    refine C.next ?_
    refine C.block ?_
    refine C.loopC (γ := Nat) (fun k => l.length - k) (fun k => k ≤ l.length) (fun k => [(7, .int .i64 (dif (bset (brokB t) t.length) (orP (l.take k)) : Int)), (10, .int .i64 (k : Int))]) [(9, _), (6, _), (3, _), (1, _), (2, _)] (fun k => [D2, E1, D]) 0 (by omega) ⟨(by rw [List.take_zero, dif_zero]; rfl), (by first | rfl | (show some (Value.int _ _) = some (Value.int _ _); congr 2; omega)), trivial⟩ ⟨rfl, rfl, rfl, rfl, rfl, trivial⟩ (ds_same) ?_
    rintro k h2
    refine C.seq ?_
    refine C.seq ?_
    refine C.region [(false,0),(false,1),(false,2),(false,3)] rfl ?_
    refine L.move rfl rfl rfl trivial ?_
    refine L.move rfl rfl rfl trivial ?_
    refine L.len rfl Try.underlying52 rfl hv rfl rfl trivial ?_
    refine L.lss rfl rfl rfl rfl trivial ?_
    refine L.nil ?_
    refine C.next ?_
    refine C.condD rfl (fun hc3 => ?_) (fun hc3 => ?_)
    · have hk : k < l.length := by omega
      obtain ⟨x, hx⟩ : ∃ x, l[k]? = some x := ⟨_, List.getElem?_eq_getElem hk⟩
      obtain ⟨hx0, hx7, hxn⟩ := hpx x (List.mem_of_getElem? hx)
      have hp3 := pow_lt7 hx7
      have hdl := dif_le (bset (brokB t) t.length) (orP (l.take k))
      refine C.skip ?_
      refine C.next ?_
      refine C.seq ?_
      refine C.block ?_
      refine C.region [(false,0),(false,1),(false,2),(false,3),(false,4),(false,5),(false,6),(false,7),(false,8)] rfl ?_
      refine L.move rfl rfl rfl trivial ?_
      refine L.move rfl rfl rfl trivial ?_
      refine L.move rfl rfl rfl trivial ?_
      refine L.indexS rfl Try.underlying52 Tf.s3 rfl hv rfl (by omega) hx rfl trivial (fun b2 o2 cs2 hr2 hcl2 hA2 => ?_)
      obtain rfl : cs2 = [.int .i64 _] := hr2
      refine L.loadD1 rfl (k := 0) Tf.a3 rfl hA2 (by first | simp | assumption) rfl List.not_mem_nil rfl trivial ?_
      refine L.convI rfl Try.underlying3 Try.underlying88 rfl (by simp only [inK]; omega) rfl trivial ?_
      refine L.shl1U (n := x.toNat) rfl rfl (by show some (Value.int _ _) = some (Value.int _ _); congr 2; omega) (by omega) rfl trivial ?_
      refine L.difN rfl rfl rfl (by omega) (by omega) rfl trivial ?_
      refine L.assign rfl rfl rfl trivial ?_
      refine L.nil ?_
      refine C.blockEnd ?_
      refine C.next ?_
      refine C.region [(false,0),(false,1),(false,2)] rfl ?_
      refine L.move rfl rfl rfl trivial ?_
      refine L.add rfl rfl rfl (by simp only [inK]; omega) rfl trivial ?_
      refine L.assign rfl rfl rfl trivial ?_
      refine L.nil ?_
      exact C.againR 18 (k + 1) (by omega) (by omega) ⟨(by rw [orP_step hx, dif_or]; rfl), (by first | rfl | (show some (Value.int _ _) = some (Value.int _ _); congr 2; omega)), trivial⟩ rfl rfl (List.Sublist.refl _) (ds_same)
    · obtain rfl : k = l.length := by omega
      rw [List.take_length]
      have hdl := dif_le (bset (brokB t) t.length) (orP l)
      refine C.exit ?_
      refine C.thenExit ?_
      refine C.thenExit ?_
      refine C.blockExit ?_
      refine C.next ?_
      refine C.seq ?_
      refine C.region [(false,0)] rfl ?_
      refine L.assign rfl rfl rfl trivial ?_
      refine L.nil ?_
      refine C.next ?_
      refine C.seq ?_
      refine C.seq ?_
      refine C.region [(false,0)] rfl ?_
      refine L.assign rfl rfl rfl trivial ?_
      refine L.nil ?_
      refine C.next ?_
      refine C.block ?_
      refine C.loopC (γ := Nat × Nat × Nat) (fun g => t.length - g.1) (fun g => g.1 ≤ t.length ∧ g.2.1 < 128 ∧ (∀ x, g.2.1.testBit x = true → g.1 ≤ x ∧ x < t.length) ∧ g.2.2 + oddB (sceneD y t).fits g.2.1 = oddB (sceneD y t).fits (dif (bset (brokB t) t.length) (orP l))) (fun g => [(7, .int .i64 (g.2.1 : Int)), (11, .int .i64 (g.2.2 : Int)), (12, .int .i64 (g.1 : Int))]) [(9, _), (6, _), (3, _), (1, _), (2, _)] (fun g => [D2, E1, D]) (0, dif (bset (brokB t) t.length) (orP l), 0) ⟨by simp, by simp only; omega, fun x hx => ⟨Nat.zero_le _, br_in hx⟩, by simp⟩ ⟨(by first | rfl | (show some (Value.int _ _) = some (Value.int _ _); congr 2; omega)), (by first | rfl | (show some (Value.int _ _) = some (Value.int _ _); congr 2; omega)), (by first | rfl | (show some (Value.int _ _) = some (Value.int _ _); congr 2; omega)), trivial⟩ ⟨rfl, rfl, rfl, rfl, rfl, trivial⟩ (ds_same) ?_
      rintro ⟨i, lf, od⟩ ⟨h4, h5, h6, h8⟩
      simp only at h4 h5 h6 h8
      refine C.seq ?_
      refine C.seq ?_
      refine C.region [(false,0),(false,1),(false,2),(false,3)] rfl ?_
      refine L.move rfl rfl rfl trivial ?_
      refine L.move rfl rfl rfl trivial ?_
      refine L.len rfl Try.underlying26 rfl ht rfl rfl trivial ?_
      refine L.lss rfl rfl rfl rfl trivial ?_
      refine L.nil ?_
      refine C.next ?_
      refine C.condD rfl (fun hc4 => ?_) (fun hc4 => ?_)
      · have hi : i < t.length := by omega
        refine C.skip ?_
        refine C.next ?_
        refine C.seq ?_
        refine C.block ?_
        refine C.seq ?_
        refine C.seq ?_
        refine C.region [(false,0),(false,1),(false,2),(false,3),(false,4),(false,5)] rfl ?_
        refine L.move rfl rfl rfl trivial ?_
        refine L.move rfl rfl rfl trivial ?_
        refine L.convI rfl Try.underlying3 Try.underlying88 rfl (by simp only [inK]; omega) rfl trivial ?_
        refine L.shrN rfl rfl rfl (by omega) rfl trivial ?_
        refine L.rem rfl rfl rfl (Int.natCast_nonneg _) (by omega) (by rw [bit_mod]; split <;> simp only [inK] <;> omega) rfl trivial ?_
        refine L.eql rfl rfl rfl rfl trivial ?_
        refine L.nil ?_
        refine C.next ?_
        refine C.condD rfl (fun hc5 => ?_) (fun hc5 => ?_)
        · have hbit : lf.testBit i = false := by rw [bit_mod] at hc5; simpa using hc5
          refine C.exit ?_
          refine C.thenExit ?_
          refine C.blockExit ?_
          refine C.next ?_
          refine C.region [(false,0),(false,1),(false,2)] rfl ?_
          refine L.move rfl rfl rfl trivial ?_
          refine L.add rfl rfl rfl (by simp only [inK]; omega) rfl trivial ?_
          refine L.assign rfl rfl rfl trivial ?_
          refine L.nil ?_
          exact C.againR 16 (i + 1, lf, od) ⟨by simp only; omega, h5, fun x hx => odd_skip h6 hbit x hx, h8⟩ (by simp only; omega) ⟨(by first | rfl | (show some (Value.int _ _) = some (Value.int _ _); congr 2; omega)), (by first | rfl | (show some (Value.int _ _) = some (Value.int _ _); congr 2; omega)), (by first | rfl | (show some (Value.int _ _) = some (Value.int _ _); congr 2; omega)), trivial⟩ rfl rfl (List.Sublist.refl _) (ds_same)
        · have hbit : lf.testBit i = true := by rw [bit_mod] at hc5; simpa using hc5
          have h7 : ∀ x, lf.testBit x = true → x < t.length := fun x hx => (h6 x hx).2
          have hgl := group_lt (scene_ok' hlen (by omega)).row h5 (show i < 7 by omega) (F := (sceneD y t).fits)
          have hdl := dif_le lf (groupB (sceneD y t).fits lf i)
          have hol := onesB_le (groupB (sceneD y t).fits lf i)
          refine C.skip ?_
          refine C.next ?_
          refine C.seq ?_
          refine C.region [(false,0),(false,1),(false,2),(false,3),(false,4),(false,5)] rfl ?_
          refine L.loadDW rfl Tf.a25 rfl hB1 (by first | simp | assumption) Tf.s25 List.not_mem_nil rfl trivial ?_
          refine L.move rfl rfl rfl trivial ?_
          refine L.move rfl rfl rfl trivial ?_
          refine L.move rfl rfl rfl trivial ?_
          refine L.callV rfl rfl rfl (fun D3 hD3 => GroupR_ok2 _ _ y t lf i _ (hy0.up (hD3 _ (by simp))) (ht.up RP.up (hD3 _ (by simp))) hyo hlen hb h5 (by omega) hbit h7) rfl trivial ?_
          refine L.assign rfl rfl rfl trivial ?_
          refine L.nil ?_
          refine C.next ?_
          refine C.seq ?_
          refine C.region [(false,0),(false,1),(false,2),(false,3)] rfl ?_
          refine L.move rfl rfl rfl trivial ?_
          refine L.move rfl rfl rfl trivial ?_
          refine L.difN rfl rfl rfl (by first | omega | (simp only; omega)) (by first | omega | (simp only; omega)) rfl trivial ?_
          refine L.assign rfl rfl rfl trivial ?_
          refine L.nil ?_
          refine C.next ?_
          refine C.region [(false,0),(false,1),(false,2),(false,3),(false,4),(false,5),(false,6)] rfl ?_
          refine L.move rfl rfl rfl trivial ?_
          refine L.move rfl rfl rfl trivial ?_
          refine L.call rfl rfl rfl (fun D4 hD4 => BitsR_ok (groupB (sceneD y t).fits lf i) hgl _) rfl trivial (fun v4 D4 hD4 hp4 => ?_)
          have hb8 := hp4
          refine L.len rfl Try.underlying52 rfl (by assumption) rfl rfl trivial ?_
          refine L.rem rfl rfl rfl (by omega) (by omega) (by simp only [inK]; omega) rfl trivial ?_
          refine L.add rfl rfl rfl (by simp only [inK]; omega) rfl trivial ?_
          refine L.assign rfl rfl rfl trivial ?_
          refine L.nil ?_
          refine C.blockEnd ?_
          refine C.next ?_
          refine C.region [(false,0),(false,1),(false,2)] rfl ?_
          refine L.move rfl rfl rfl trivial ?_
          refine L.add rfl rfl rfl (by simp only [inK]; omega) rfl trivial ?_
          refine L.assign rfl rfl rfl trivial ?_
          refine L.nil ?_
          exact C.againR 33 (i + 1, dif lf (groupB (sceneD y t).fits lf i), od + onesB (groupB (sceneD y t).fits lf i) % 2) ⟨by simp only; omega, by simp only; omega, fun x hx => odd_go h6 x hx, by simp only; rw [← h8, odd_at h6 hbit]; omega⟩ (by simp only; omega) ⟨(by first | rfl | (show some (Value.int _ _) = some (Value.int _ _); congr 2; omega)), (by show some (Value.int _ _) = some (Value.int _ _); congr 2; simp only [bl_len]; omega), (by first | rfl | (show some (Value.int _ _) = some (Value.int _ _); congr 2; omega)), trivial⟩ rfl rfl (List.Sublist.refl _) (fun D h => ⟨D, List.Mem.tail _ (h), Le.refl D⟩)
      · obtain rfl : i = t.length := by omega
        have hz0 := odd_end h6
        subst hz0
        refine C.exit ?_
        refine C.thenExit ?_
        refine C.thenExit ?_
        refine C.blockExit ?_
        refine C.next ?_
        refine C.seq ?_
        refine C.region [(false,0),(false,1),(false,2),(false,3),(false,4),(false,5),(false,6),(false,7),(false,8),(false,9),(false,10)] rfl ?_
        refine L.move rfl rfl rfl trivial ?_
        refine L.callV rfl rfl rfl (fun D5 hD5 => Whole_ok _ t _ (ht.up RP.up (hD5 _ (by simp))) hb) rfl trivial ?_
        refine L.move rfl rfl rfl trivial ?_
        refine L.move rfl rfl rfl trivial ?_
        refine L.len rfl Try.underlying52 rfl (by assumption) rfl rfl trivial ?_
        refine L.add rfl rfl rfl (by simp only [inK]; omega) rfl trivial ?_
        refine L.move rfl rfl rfl trivial ?_
        refine L.sub rfl rfl rfl (by simp only [inK]; omega) rfl trivial ?_
        refine L.quo rfl rfl rfl (by simp only; omega) (by omega) (by simp only [inK]; omega) rfl trivial ?_
        refine L.add rfl rfl rfl (by simp only [inK]; omega) rfl trivial ?_
        refine L.assign rfl rfl rfl trivial ?_
        refine L.nil ?_
        refine C.next ?_
        refine C.ret ?_
        exact leave (vs := [_]) rfl rfl rfl ⟨rfl, trivial⟩ (fun D hD => by show Value.int _ _ = _; rw [bound_fin hpl h8 hodl hol2])
end Go.Fs
namespace Go.Fs
open Go.Proofs
open C7
theorem bits128 : ∀ b, b < 128 → orP (bitsL b) = b ∧ ∀ k, k < (bitsL b).length → 0 < k → (bitsL b).getD (k - 1) 0 < (bitsL b).getD k 0 := by decide +kernel
theorem mem_bitsL {b : Nat} {x : Int} (h : x ∈ bitsL b) : 0 ≤ x ∧ x.toNat < 7 ∧ b.testBit x.toNat = true := by
  unfold bitsL bitsK at h
  obtain ⟨i, hi, rfl⟩ := List.mem_map.1 h
  rw [List.mem_filter, List.mem_range] at hi
  exact ⟨Int.natCast_nonneg _, hi⟩
/-- The chairs of a set of broken ones are a proof. -/
theorem pf_bits {t : List Pt} {b : Nat} (hb : b < 128) (hs : ∀ x, b.testBit x = true → (bset (brokB t) t.length).testBit x = true) : isPf t (bitsL b) = true := by
  unfold isPf
  rw [List.all_eq_true]
  intro k hk
  rw [List.mem_range] at hk
  have hx : (bitsL b)[k]? = some ((bitsL b).getD k 0) := by rw [List.getD_eq_getElem?_getD, List.getElem?_eq_getElem hk]; rfl
  obtain ⟨h1, h2, h3⟩ := mem_bitsL (List.mem_of_getElem? hx)
  have h4 := hs _ h3
  rw [bset_bit, Bool.and_eq_true, decide_eq_true_eq] at h4
  have hz : t[((bitsL b).getD k 0).toNat]? = some (t.getD ((bitsL b).getD k 0).toNat ⟨0, 0, 0⟩) := by rw [List.getD_eq_getElem?_getD (l := t), List.getElem?_eq_getElem h4.1]; rfl
  have h5 := h4.2
  rw [brok_at hz, Bool.not_eq_true'] at h5
  rw [pf_at hx, h5, Bool.or_false, Bool.not_eq_true', Bool.or_eq_false_iff, Bool.not_eq_false', inB_iff, Bool.and_eq_false_iff, decide_eq_false_iff_not, decide_eq_false_iff_not]
  refine ⟨by omega, ?_⟩
  rcases Nat.eq_zero_or_pos k with e | e
  · left; omega
  · right; have := (bits128 b hb).2 k hk e; omega
theorem pf_cond {t : List Pt} {l : List Int} {k : Nat} {x la : Int} (hx : l[k]? = some x) (hla : la = if k = 0 then -1 else l.getD (k - 1) 0) : (!inB x (la + 1) ((t.length : Int) - 1) || decide ((((bset (brokB t) t.length) >>> x.toNat : Nat) : Int) % 2 = 0)) = !pfAt t l k ∨ la < -1 := by
  by_cases hl : la < -1
  · exact Or.inr hl
  left
  rw [pf_at hx, Bool.not_not]
  cases e : inB x (la + 1) ((t.length : Int) - 1) with
  | true =>
    have h1 := inB_iff.1 e
    have hn : x.toNat < t.length := by omega
    have hz : t[x.toNat]? = some (t.getD x.toNat ⟨0, 0, 0⟩) := by rw [List.getD_eq_getElem?_getD, List.getElem?_eq_getElem hn]; rfl
    have h0 : inB x 0 ((t.length : Int) - 1) = true := inB_iff.2 ⟨by omega, h1.2⟩
    have h2 : (decide (0 < (k : Int)) && decide (x ≤ l.getD (k - 1) 0)) = false := by
      rw [Bool.and_eq_false_iff, decide_eq_false_iff_not, decide_eq_false_iff_not]
      by_cases hk : k = 0
      · left; omega
      · right; rw [if_neg hk] at hla; omega
    rw [h0, h2, bit_mod, bset_bit, brok_at hz]
    have hd : decide (x.toNat < t.length) = true := by simpa using hn
    rw [hd]
    cases isWhole (t.getD x.toNat ⟨0, 0, 0⟩) <;> rfl
  | false =>
    have h1 : ¬ (la + 1 ≤ x ∧ x ≤ (t.length : Int) - 1) := fun h => by rw [inB_iff.2 h] at e; cases e
    cases e0 : inB x 0 ((t.length : Int) - 1) with
    | false => rfl
    | true =>
      have h0 := inB_iff.1 e0
      have hk : ¬ k = 0 := fun hk => by rw [if_pos hk] at hla; omega
      rw [if_neg hk] at hla
      rw [decide_eq_true (show (0 : Int) < (k : Int) by omega), decide_eq_true (show x ≤ l.getD (k - 1) 0 by omega)]
      rfl
/-- What ProveBerge reads is a proof. -/
theorem prf_is {t : List Pt} {l : List Int} (h7 : t.length ≤ 7) : ∀ k, k ≤ l.length → (List.range k).all (pfAt t l) = true → ∃ la, prf t.length (bset (brokB t) t.length) (l.take k) = some (orP (l.take k), la) ∧ (la = if k = 0 then -1 else l.getD (k - 1) 0) ∧ -1 ≤ la
  | 0, _, _ => ⟨-1, rfl, rfl, by omega⟩
  | k + 1, hk, h => by
    rw [List.range_succ, List.all_append, Bool.and_eq_true] at h
    obtain ⟨la, h1, h2, h3⟩ := prf_is h7 k (by omega) h.1
    obtain ⟨x, hx⟩ : ∃ x, l[k]? = some x := ⟨_, List.getElem?_eq_getElem (by omega)⟩
    have hp : pfAt t l k = true := by simpa using h.2
    have hc := (pf_cond (t := t) hx h2).resolve_right (by omega)
    rw [hp] at hc
    have hlt : ∀ x ∈ l.take k, x.toNat < 7 := fun z hz => by
      obtain ⟨j, hj⟩ := List.mem_iff_getElem?.1 hz
      rw [List.getElem?_take] at hj
      split at hj
      · rename_i hjk
        have h5 := List.all_eq_true.1 h.1 j (List.mem_range.2 hjk)
        rw [pf_at hj, Bool.not_eq_true', Bool.or_eq_false_iff, Bool.or_eq_false_iff, Bool.not_eq_false'] at h5
        have := inB_iff.1 h5.1.1
        omega
      · cases hj
    obtain ⟨z, rfl, hz7, hst, _⟩ := prf_yes h7 (orP_lt hlt) h3 hc
    refine ⟨(z : Int), by rw [prf_snoc hx, h1, orP_step hx]; exact hst, ?_, by omega⟩
    rw [if_neg (by omega), Nat.add_sub_cancel, List.getD_eq_getElem?_getD, hx]; rfl
theorem prf_eq {t : List Pt} (h7 : t.length ≤ 7) (l : List Int) : (∃ la, prf t.length (bset (brokB t) t.length) l = some (orP l, la)) ∧ isPf t l = true ∨ prf t.length (bset (brokB t) t.length) l = none ∧ isPf t l = false := by
  cases e : isPf t l with
  | true =>
    obtain ⟨la, h1, _⟩ := prf_is (l := l) h7 l.length (Nat.le_refl _) e
    rw [List.take_length] at h1
    exact Or.inl ⟨⟨la, h1⟩, rfl⟩
  | false =>
    right
    refine ⟨?_, rfl⟩
    have key : ∀ k, k ≤ l.length → (List.range k).all (pfAt t l) = false → prf t.length (bset (brokB t) t.length) l = none := by
      intro k
      induction k with
      | zero => intro _ h; cases h
      | succ k ih =>
        intro hk h
        cases e1 : (List.range k).all (pfAt t l) with
        | false => exact ih (by omega) e1
        | true =>
          rw [List.range_succ, List.all_append, e1] at h
          have hp : pfAt t l k = false := by simpa using h
          obtain ⟨la, h1, h2, h3⟩ := prf_is h7 k (by omega) e1
          obtain ⟨x, hx⟩ : ∃ x, l[k]? = some x := ⟨_, List.getElem?_eq_getElem (by omega)⟩
          have hc := (pf_cond (t := t) hx h2).resolve_right (by omega)
          rw [hp] at hc
          exact prf_no hx h1 hc
    exact key _ (Nat.le_refl _) e
theorem pb_eq {y : YardD} {t : List Pt} {l : List Int} {many : Int} (h : fault y = 0) (ht : isTruth y t = true) : proveBergeV y t l many = (isPf t l && decide ((boundB (sceneD y t) (orP l) : Int) ≤ many)) := by
  have hn := (yOk h).len
  obtain ⟨hl, _⟩ := truthOk ht
  unfold proveBergeV
  rw [play_eq h ht, if_pos rfl, ← hl]
  rcases prf_eq (show t.length ≤ 7 by omega) l with ⟨⟨la, h1⟩, h2⟩ | ⟨h1, h2⟩
  · rw [show (sceneD y t).broken = bset (brokB t) t.length from rfl, h1, h2]; rfl
  · rw [show (sceneD y t).broken = bset (brokB t) t.length from rfl, h1, h2]; rfl
/-- No set of broken chairs has a smaller bound. -/
theorem bound_ge {y : YardD} {t : List Pt} (h : fault y = 0) (ht : isTruth y t = true) {s : Nat} (hs : ∀ x, s.testBit x = true → (sceneD y t).broken.testBit x = true) : mostT y t ≤ boundB (sceneD y t) s := by
  have hn := (yOk h).len
  obtain ⟨hl, _⟩ := truthOk ht
  have hsc := scene_ok' hl (show t.length ≤ 7 by omega)
  obtain ⟨M, hM, hk⟩ := (nu_is hl (by omega)).ex
  have := berge_le (F := (sceneD y t).fits) (fun a b => by rw [fB_fits (by omega)]; exact fitB_comm y t a b) hsc.row (br_lt t (by omega)) hs (M := M) (by rw [fB_fits (by omega)]; exact hM)
  unfold mostT mostS boundB
  have hbr : (sceneD y t).broken = bset (brokB t) t.length := rfl
  rw [← hk, hbr]
  omega
end Go.Fs
namespace Go.Fs
open Go.Proofs
open C7
def sureR (y : YardD) (ns : List Int) (l : List (Int × Int)) : Int := (ns.map fun x => (makesR y (nthC y.chairs x.toNat).1 l : Int)).foldl min 99
def surestR (y : YardD) (ns : List Int) : Int := (((prs y.chairs.length y.chairs.length 0).map pI).map (sureR y ns)).foldl max 0
/-- The pairings that the program tries are those of near chairs. -/
theorem flat_near {β : Type} {A C : Nat → Bool} {g : Nat → List β} : ∀ L : List Nat, (L.filter fun b => A b && C b).flatMap g = (L.filter A).flatMap fun b => if C b = true then g b else []
  | [] => rfl
  | b :: L => by
    rw [List.filter_cons, List.filter_cons]
    cases ha : A b with
    | false => simpa using flat_near L
    | true =>
      cases hc : C b with
      | false => simp [hc, flat_near L]
      | true => simp [hc, flat_near L]
def nearM (y : YardD) (M : List (Nat × Nat)) : Bool := M.all fun p => nearB y p.1 p.2
theorem lvs_prs {y : YardD} : ∀ (k f w : Nat) (l : List (Int × Int)), f + k = y.chairs.length → lvs y k f w l = ((prs y.chairs.length k w).filter (nearM y)).map fun M => l ++ pI M
  | 0, f, w, l, _ => by show [l] = [l ++ []]; rw [List.append_nil]
  | k + 1, f, w, l, h => by
    have hf : y.chairs.length - (k + 1) = f := by omega
    rw [lvs, prs, hf, lvs_prs k (f + 1) w l (by omega)]
    by_cases hb : w.testBit f = true
    · rw [if_pos hb, if_pos hb, List.append_nil]
    · rw [if_neg hb, if_neg hb, List.filter_append, List.map_append]
      congr 1
      rw [show (fun b => decide (f < b) && (!w.testBit b && nearB y f b)) = fun b => (decide (f < b) && !w.testBit b) && nearB y f b from funext fun b => (Bool.and_assoc _ _ _).symm, flat_near, List.filter_flatMap, List.map_flatMap]
      congr 1
      funext b
      have e : nearM y ∘ (fun M : List (Nat × Nat) => (f, b) :: M) = fun M => nearB y f b && nearM y M := by funext M; simp [nearM]
      rw [List.filter_map, e, List.map_map]
      cases hn : nearB y f b with
      | false => simp
      | true =>
        rw [if_pos rfl, lvs_prs k (f + 1) (w ||| 2 ^ b) _ (by omega)]
        simp only [Bool.true_and]
        apply List.map_congr_left
        intro M _
        simp [pI]
theorem prs_mono {n : Nat} : ∀ (k w w' : Nat), (∀ x, w.testBit x = true → w'.testBit x = true) → ∀ M ∈ prs n k w', M ∈ prs n k w
  | 0, _, _, _, M, hM => hM
  | k + 1, w, w', h, M, hM => by
    unfold prs at hM ⊢
    have ih := prs_mono (n := n) k
    by_cases h' : w'.testBit (n - (k + 1)) = true
    · rw [if_pos h'] at hM
      have := ih w w' h M hM
      split
      · exact this
      · exact List.mem_append_left _ this
    · rw [if_neg h'] at hM
      rw [if_neg fun e => h' (h _ e)]
      rcases List.mem_append.1 hM with hM | hM
      · exact List.mem_append_left _ (ih w w' h M hM)
      · refine List.mem_append_right _ ?_
        obtain ⟨b, hb, hM⟩ := List.mem_flatMap.1 hM
        obtain ⟨M', hM', rfl⟩ := List.mem_map.1 hM
        rw [List.mem_filter, Bool.and_eq_true, Bool.not_eq_true'] at hb
        refine List.mem_flatMap.2 ⟨b, ?_, List.mem_map.2 ⟨M', ih _ _ (fun x hx => ?_) M' hM', rfl⟩⟩
        · rw [List.mem_filter, Bool.and_eq_true, Bool.not_eq_true']
          refine ⟨hb.1, hb.2.1, ?_⟩
          cases e : w.testBit b with
          | false => rfl
          | true => rw [h b e] at hb; exact absurd hb.2.2 (by simp)
        · rw [Nat.testBit_or, Bool.or_eq_true] at hx ⊢
          exact hx.imp (h x) id
theorem prs_sub {n : Nat} : ∀ (k w : Nat) (M N : List (Nat × Nat)), M ∈ prs n k w → N.Sublist M → N ∈ prs n k w
  | 0, w, M, N, hM, hs => by
    obtain rfl : M = [] := by simpa [prs] using hM
    rw [List.sublist_nil.1 hs]; exact hM
  | k + 1, w, M, N, hM, hs => by
    unfold prs at hM ⊢
    split at hM
    · rename_i h; rw [if_pos h]; exact prs_sub k w M N hM hs
    · rename_i h
      rw [if_neg h]
      rcases List.mem_append.1 hM with hM | hM
      · exact List.mem_append_left _ (prs_sub k w M N hM hs)
      · obtain ⟨b, hb, hM⟩ := List.mem_flatMap.1 hM
        obtain ⟨M', hM', rfl⟩ := List.mem_map.1 hM
        cases hs with
        | cons _ hs => exact List.mem_append_left _ (prs_mono k w (w ||| 2 ^ b) (fun x hx => by rw [Nat.testBit_or, hx]; rfl) _ (prs_sub k _ M' N hM' hs))
        | cons_cons _ hs => exact List.mem_append_right _ (List.mem_flatMap.2 ⟨b, hb, List.mem_map.2 ⟨_, prs_sub k _ M' _ hM' hs, rfl⟩⟩)
theorem fitB_near {y : YardD} {t : List Pt} {a b : Nat} (h : fitB y t a b = true) : nearB y a b = true := by
  unfold fitB at h
  split at h
  · rename_i p q x z _ _ hx hz
    unfold nearB; rw [hx, hz]
    simp only [Bool.and_eq_true] at h
    exact h.1.2
  · simp at h
theorem makes_near (y : YardD) (t : List Pt) (M : List (Nat × Nat)) : makesR y t (pI (M.filter fun p => nearB y p.1 p.2)) = makesR y t (pI M) := by
  rw [makesR_pI, makesR_pI]
  unfold fitN
  rw [List.filter_filter]
  congr 2
  apply List.filter_congr
  intro p _
  cases e : fitB y t p.1 p.2 with
  | false => rfl
  | true => rw [fitB_near e]; rfl
theorem upd_fold {scs : List Sc} : ∀ (L : List (List (Int × Int))) (b : List (Int × Int)) (m : Int), (L.foldl (upd scs) (b, m)).2 = (L.map (sureZ scs)).foldl max m ∧ (L.foldl (upd scs) (b, m) = (b, m) ∨ ((L.foldl (upd scs) (b, m)).1 ∈ L ∧ sureZ scs (L.foldl (upd scs) (b, m)).1 = (L.foldl (upd scs) (b, m)).2))
  | [], b, m => ⟨rfl, Or.inl rfl⟩
  | l :: L, b, m => by
    rw [List.foldl_cons, List.map_cons, List.foldl_cons]
    by_cases h : m < sureZ scs l
    · rw [upd_yes h, show max m (sureZ scs l) = sureZ scs l by omega]
      obtain ⟨h1, h2⟩ := upd_fold (scs := scs) L l (sureZ scs l)
      refine ⟨h1, Or.inr ?_⟩
      rcases h2 with h2 | h2
      · rw [h2]; exact ⟨List.mem_cons_self, rfl⟩
      · exact ⟨List.mem_cons_of_mem _ h2.1, h2.2⟩
    · rw [upd_no h, show max m (sureZ scs l) = m by omega]
      obtain ⟨h1, h2⟩ := upd_fold (scs := scs) L b m
      exact ⟨h1, h2.imp id fun h => ⟨List.mem_cons_of_mem _ h.1, h.2⟩⟩
end Go.Fs
namespace Go.Fs
open Go.Proofs
open C7
/-- The scenes, and the truths by number. -/
theorem sure_eq {y : YardD} (h : askS y = 0) {l : List (Int × Int)} (hl : l.length ≤ 50) : sureZ ((scenesD y []).map fun p => p.1) l = sureR y (nsD y) l := by
  obtain ⟨hf, hne⟩ := askS_zero h
  have hyo := yOk hf
  have hn := hyo.len
  have small : ∀ t, isTruth y t = true → (makesR y t l : Int) ≤ 99 := fun t ht => by
    have := makesR_le y t l
    have := (truthOk ht).1
    omega
  have hm : ∀ x : Int, x ∈ ((scenesD y []).map fun p => p.1).map (fun s => (makesN s l : Int)) ↔ x ∈ (nsD y).map fun x => (makesR y (nthC y.chairs x.toNat).1 l : Int) := by
    intro x
    rw [List.mem_map, List.mem_map]
    constructor
    · rintro ⟨s, hs, rfl⟩
      obtain ⟨p, hp, rfl⟩ := List.mem_map.1 hs
      obtain ⟨t, ht, hr, rfl⟩ := mem_scenes.1 hp
      obtain ⟨n, hn', rfl⟩ := nth_onto ht
      have := (truthOk ht).1
      exact ⟨(n : Int), mem_ns.2 ⟨n, hn', hr, rfl⟩, by rw [makesN_R (by omega)]; rfl⟩
    · rintro ⟨n, hn', rfl⟩
      obtain ⟨k, hk, hr, rfl⟩ := mem_ns.1 hn'
      have ht := nth_truth hyo k
      have := (truthOk ht).1
      exact ⟨_, List.mem_map.2 ⟨_, mem_scenes.2 ⟨_, ht, hr, rfl⟩, rfl⟩, by rw [makesN_R (by omega)]; rfl⟩
  have hin : ∀ x ∈ (nsD y).map (fun x => (makesR y (nthC y.chairs x.toNat).1 l : Int)), x ≤ 99 := fun x hx => by
    obtain ⟨n, hn', rfl⟩ := List.mem_map.1 hx
    exact small _ (nth_truth hyo _)
  have hne2 : scenesD y [] ≠ [] := fun e => hne ((ns_nil hyo).2 e)
  unfold sureR
  unfold sureZ
  cases e : (scenesD y []).map fun p => p.1 with
  | nil => exact absurd (List.map_eq_nil_iff.1 e) hne2
  | cons s r =>
    rw [e] at hm
    simp only
    rw [List.map_cons, List.foldl_cons, Int.min_self]
    rw [List.map_cons] at hm
    have e2 : (List.map (fun s => (makesN s l : Int)) r).foldl min (makesN s l : Int) = ((makesN s l : Int) :: r.map fun s => (makesN s l : Int)).foldl min 99 := by
      rw [List.foldl_cons]
      have := hin _ ((hm (makesN s l : Int)).1 List.mem_cons_self)
      rw [show min (99 : Int) (makesN s l : Int) = (makesN s l : Int) by omega]
    rw [e2]
    exact fmin_eq hm (by simp) (fun x hx => hin x ((hm x).1 hx)) hin
theorem sureR_in {y : YardD} (_h : askS y = 0) {l : List (Int × Int)} (_hl : l.length ≤ 50) : 0 ≤ sureR y (nsD y) l := by
  unfold sureR
  rcases (fmin ((nsD y).map fun x => (makesR y (nthC y.chairs x.toNat).1 l : Int)) 99).1 with e | e
  · rw [e]; omega
  · obtain ⟨n, _, e2⟩ := List.mem_map.1 e
    rw [← e2]; omega
theorem ps_eq {y : YardD} (h : askS y = 0) {l : List (Int × Int)} {many : Int} (hl : l.length ≤ 6) : proveSureV y l many = ((prB y.chairs.length l).isSome && decide (sureR y (nsD y) l ≥ many)) := by
  obtain ⟨hf, hne⟩ := askS_zero h
  have hne2 : scenesD y [] ≠ [] := fun e => hne ((ns_nil (yOk hf)).2 e)
  have hpos : 0 < (scenesD y []).length := List.length_pos_iff.2 hne2
  unfold proveSureV
  rw [sure_eq h (by omega)]
  cases (prB y.chairs.length l).isSome with
  | false => simp
  | true => simp [hf, hpos]
theorem lvs_in {y : YardD} (_h : fault y = 0) {l : List (Int × Int)} : l ∈ lvs y y.chairs.length 0 0 [] ↔ ∃ M ∈ prs y.chairs.length y.chairs.length 0, nearM y M = true ∧ l = pI M := by
  rw [lvs_prs _ _ _ _ (by omega), List.mem_map]
  constructor
  · rintro ⟨M, hM, rfl⟩
    rw [List.mem_filter] at hM
    exact ⟨M, hM.1, hM.2, rfl⟩
  · rintro ⟨M, h1, h2, rfl⟩
    exact ⟨M, List.mem_filter.2 ⟨h1, h2⟩, rfl⟩
theorem surest_eq {y : YardD} (h : askS y = 0) : ((lvs y y.chairs.length 0 0 []).map (sureZ ((scenesD y []).map fun p => p.1))).foldl max (-1) = surestR y (nsD y) ∧ lvs y y.chairs.length 0 0 [] ≠ [] ∧ 0 ≤ surestR y (nsD y) := by
  obtain ⟨hf, hne⟩ := askS_zero h
  have hn := (yOk hf).len
  have short : ∀ M ∈ prs y.chairs.length y.chairs.length 0, (pI M).length ≤ 50 := fun M hM => by have := prs_short hn (Nat.le_refl _) hM; omega
  have full : ∀ M ∈ prs y.chairs.length y.chairs.length 0, pI (M.filter fun p => nearB y p.1 p.2) ∈ lvs y y.chairs.length 0 0 [] := fun M hM =>
    (lvs_in hf).2 ⟨_, prs_sub _ _ _ _ hM List.filter_sublist, by unfold nearM; rw [List.all_eq_true]; exact fun p hp => (List.mem_filter.1 hp).2, rfl⟩
  have same : ∀ M, sureR y (nsD y) (pI (M.filter fun p => nearB y p.1 p.2)) = sureR y (nsD y) (pI M) := fun M => by
    unfold sureR; congr 1; apply List.map_congr_left; intro x _; rw [makes_near]
  obtain ⟨M0, hM0⟩ := List.exists_mem_of_ne_nil _ (prs_ne y.chairs.length y.chairs.length 0 (Nat.le_refl _))
  have hne3 : lvs y y.chairs.length 0 0 [] ≠ [] := List.ne_nil_of_mem (full M0 hM0)
  obtain ⟨a1, a2, a3⟩ := fmax ((lvs y y.chairs.length 0 0 []).map (sureZ ((scenesD y []).map fun p => p.1))) (-1)
  obtain ⟨b1, b2, b3⟩ := fmax (((prs y.chairs.length y.chairs.length 0).map pI).map (sureR y (nsD y))) 0
  have lv_le : ∀ M ∈ prs y.chairs.length y.chairs.length 0, sureR y (nsD y) (pI M) ≤ ((lvs y y.chairs.length 0 0 []).map (sureZ ((scenesD y []).map fun p => p.1))).foldl max (-1) := fun M hM => by
    have := a3 _ (List.mem_map.2 ⟨_, full M hM, rfl⟩)
    rwa [sure_eq h (by have := short _ (prs_sub _ _ _ _ hM (List.filter_sublist (p := fun p => nearB y p.1 p.2))); omega), same] at this
  refine ⟨Int.le_antisymm ?_ ?_, hne3, b2⟩
  · rcases a1 with a1 | a1
    · rw [a1]; show (-1 : Int) ≤ _; exact Int.le_trans (by omega) b2
    · obtain ⟨l, hl, e⟩ := List.mem_map.1 a1
      obtain ⟨M, hM, _, rfl⟩ := (lvs_in hf).1 hl
      rw [← e, sure_eq h (short M hM)]
      exact b3 _ (List.mem_map.2 ⟨_, List.mem_map.2 ⟨M, hM, rfl⟩, rfl⟩)
  · show ((((prs y.chairs.length y.chairs.length 0).map pI).map (sureR y (nsD y))).foldl max 0) ≤ _
    rcases b1 with b1 | b1
    · rw [b1]; exact Int.le_trans (sureR_in h (short M0 hM0)) (lv_le M0 hM0)
    · obtain ⟨l, hl, e⟩ := List.mem_map.1 b1
      obtain ⟨M, hM, rfl⟩ := List.mem_map.1 hl
      rw [← e]; exact lv_le M hM
theorem prB_prs {n : Nat} (hn : n ≤ 7) {M : List (Nat × Nat)} (hM : M ∈ prs n n 0) : (prB n (pI M)).isSome = true := by
  have ok := prs_ok n 0 (Nat.le_refl _) M hM
  exact prB_of hn M 0 (by omega) (fun p hp => by
    obtain ⟨_, h2, h3, _⟩ := ok.at_ p hp
    exact ⟨h2, h3, Nat.zero_testBit _, Nat.zero_testBit _⟩) ok.nd
theorem sure_facts {y : YardD} (h : askS y = 0) : (sureV y).2.2 = 0 ∧ (sureV y).1.length ≤ 3 ∧ (prB y.chairs.length (sureV y).1).isSome = true ∧ sureR y (nsD y) (sureV y).1 = (sureV y).2.1 ∧ (sureV y).2.1 = surestR y (nsD y) := by
  obtain ⟨hf, hne⟩ := askS_zero h
  have hn := (yOk hf).len
  have hne2 : scenesD y [] ≠ [] := fun e => hne ((ns_nil (yOk hf)).2 e)
  obtain ⟨s1, s2, s3⟩ := surest_eq h
  obtain ⟨u1, u2⟩ := upd_fold (scs := (scenesD y []).map fun p => p.1) (lvs y y.chairs.length 0 0 []) [] (-1)
  have e : sureV y = (((lvs y y.chairs.length 0 0 []).foldl (upd ((scenesD y []).map fun p => p.1)) ([], -1)).1, ((lvs y y.chairs.length 0 0 []).foldl (upd ((scenesD y []).map fun p => p.1)) ([], -1)).2, 0) := by
    unfold sureV; rw [if_neg (by omega), if_neg hne2]
  rw [e]
  simp only
  rw [s1] at u1
  have hmem : ((lvs y y.chairs.length 0 0 []).foldl (upd ((scenesD y []).map fun p => p.1)) ([], -1)).1 ∈ lvs y y.chairs.length 0 0 [] ∧ sureZ ((scenesD y []).map fun p => p.1) ((lvs y y.chairs.length 0 0 []).foldl (upd ((scenesD y []).map fun p => p.1)) ([], -1)).1 = ((lvs y y.chairs.length 0 0 []).foldl (upd ((scenesD y []).map fun p => p.1)) ([], -1)).2 := by
    rcases u2 with u2 | u2
    · rw [u2] at u1; simp only at u1; omega
    · exact u2
  obtain ⟨M, hM, _, em⟩ := (lvs_in hf).1 hmem.1
  have hp : (prB y.chairs.length ((lvs y y.chairs.length 0 0 []).foldl (upd ((scenesD y []).map fun p => p.1)) ([], -1)).1).isSome = true := by rw [em]; exact prB_prs hn hM
  have h3 := (prB_ok hn hp).2
  exact ⟨trivial, h3, hp, by rw [← sure_eq h (by omega)]; exact hmem.2, u1⟩
theorem ms_err {y : YardD} {l : List (Int × Int)} {many : Int} (h : askS y ≠ 0) : ((((decide ((sureV y).2.2 = askS y) && decide (((sureV y).1.length : Int) = 0)) && decide ((sureV y).2.1 = 0)) && !proveSureV y l many) && true) = true := by
  by_cases hf : fault y = 0
  · have e : askS y = 11 ∧ nsD y = [] := by
      unfold askS at h ⊢
      rw [if_neg (by omega)] at h ⊢
      split at h
      · rename_i hn; rw [if_pos hn]; exact ⟨rfl, hn⟩
      · omega
    have hs := (ns_nil (yOk hf)).1 e.2
    unfold sureV proveSureV
    rw [if_neg (by omega), if_pos hs, e.1, hs]; simp
  · have e : askS y = fault y := by unfold askS; rw [if_pos hf]
    unfold sureV proveSureV
    rw [if_pos hf, e]; simp [hf]
end Go.Fs
