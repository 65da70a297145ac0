/- Of the proof of MendBerge: W30, W36. -/
import Derived.Test.YtjhdcelmgfajbaaZMendBergeL
import Derived.Test.YtjhdcelmgfajbaaZMendBergeI
namespace Go.Fs
open Go.Proofs
open C7
theorem bk_yes {m k : Nat} (h : m.testBit k = true) : bitsK m (k + 1) = bitsK m k ++ [(k : Int)] := by
  unfold bitsK; rw [List.range_succ, List.filter_append, List.map_append]; simp [h]
theorem bk_no {m k : Nat} (h : m.testBit k = false) : bitsK m (k + 1) = bitsK m k := by
  unfold bitsK; rw [List.range_succ, List.filter_append, List.map_append]; simp [h]
theorem bk_len (m k : Nat) : (bitsK m k).length ≤ k := by
  have := List.length_filter_le (fun i => m.testBit i) (List.range k)
  unfold bitsK; rw [List.length_map]; simpa using this
theorem bits_end {m k : Nat} (_hm : m < 128) (hk : k ≤ 7) (h : m >>> k = 0) : bitsK m k = bitsL m := by
  have key : ∀ j, k + j ≤ 7 → bitsK m (k + j) = bitsK m k := by
    intro j
    induction j with
    | zero => intro _; rfl
    | succ j ih =>
      intro hj
      have e : m.testBit (k + j) = false := by
        have : (m >>> k).testBit j = false := by rw [h]; exact Nat.zero_testBit _
        rwa [Nat.testBit_shiftRight] at this
      rw [← Nat.add_assoc, bk_no e, ih (by omega)]
  have := key (7 - k) (by omega)
  rw [show k + (7 - k) = 7 by omega] at this
  exact this.symm
theorem BitsR_ok (m : Nat) (hm : m < 128) (D : Data) : Fn Try.prog 65 #[.int .i64 (m : Int)] D (fun D' v => Sl D' RI 1 v (bitsL m)) := by
  refine enter 23 Try.func65 rfl rfl rfl rfl fun h0 => ?_
  refine C.seq ?_
  refine C.region [(false,0)] rfl ?_
  refine L.assign rfl rfl rfl trivial ?_
  refine L.nil ?_
  refine C.next ?_
  refine C.seq ?_
  refine C.region [(false,0)] rfl ?_
  refine L.assign rfl rfl rfl trivial ?_
  refine L.nil ?_
  refine C.next ?_
  refine C.seq ?_
  refine C.seq ?_
  refine C.region [(false,0)] rfl ?_
  refine L.assign rfl rfl rfl trivial ?_
  refine L.nil ?_
  refine C.next ?_
  refine C.block ?_
  refine C.loopR (γ := Nat × Value × Boxes) (fun g => 7 - g.1) (fun g => g.1 ≤ 7 ∧ Acc 3 1 g.2.1 (bitsK m g.1).length (ints (bitsK m g.1)) g.2.2) (fun g => [(3, g.2.1), (4, .int .i64 (g.1 : Int))]) [(2, _), (0, _)] (fun g => g.2.2 ++ []) (fun g => [D]) (0, .slice none 0 0, []) ⟨by simp, Acc.nil⟩ ⟨(by first | rfl | (show some (Value.int _ _) = some (Value.int _ _); congr 2; omega)), (by first | rfl | (show some (Value.int _ _) = some (Value.int _ _); congr 2; omega)), trivial⟩ ⟨rfl, rfl, trivial⟩ (List.Sublist.refl _) (ds_same) ?_
  rintro ⟨k, v, ν⟩ ⟨h1, ha⟩
  simp only at h1 ha
  have hsr : m >>> k ≤ m := Nat.shiftRight_le _ _
  refine C.seq ?_
  refine C.seq ?_
  refine C.region [(false,0),(false,1),(false,2),(false,3),(false,4)] rfl ?_
  refine L.move rfl rfl rfl trivial ?_
  refine L.move rfl rfl rfl trivial ?_
  refine L.convI rfl Try.underlying3 Try.underlying88 rfl (by simp only [inK]; omega) rfl trivial ?_
  refine L.shrN rfl rfl rfl (by omega) rfl trivial ?_
  refine L.gtr rfl rfl rfl rfl trivial ?_
  refine L.nil ?_
  refine C.next ?_
  refine C.condD rfl (fun hc1 => ?_) (fun hc1 => ?_)
  · have hk : k < 7 := shr_pos hm hc1
    refine C.skip ?_
    refine C.next ?_
    refine C.seq ?_
    refine C.block ?_
    refine C.seq ?_
    refine C.region [(false,0),(false,1),(false,2),(false,3),(false,4),(false,5)] rfl ?_
    refine L.move rfl rfl rfl trivial ?_
    refine L.move rfl rfl rfl trivial ?_
    refine L.convI rfl Try.underlying3 Try.underlying88 rfl (by simp only [inK]; omega) rfl trivial ?_
    refine L.shrN rfl rfl rfl (by omega) rfl trivial ?_
    refine L.rem rfl rfl rfl (Int.natCast_nonneg _) (by omega) (by simp only [inK]; omega) rfl trivial ?_
    refine L.eql rfl rfl rfl rfl trivial ?_
    refine L.nil ?_
    refine C.next ?_
    refine C.condD rfl (fun hc2 => ?_) (fun hc2 => ?_)
    · have hbit : m.testBit k = true := bit_one hc2
      refine C.region [(false,0),(false,1),(false,2),(false,3),(false,4)] rfl ?_
      refine L.move rfl rfl rfl trivial ?_
      refine L.move rfl rfl rfl trivial ?_
      refine L.buildSlice rfl Try.underlying52 Tf.s3 Tf.z3 rfl rfl rfl rfl (.cons rfl rfl .nil) rfl trivial (fun b901 D901 hD901 hA901 => ?_)
      have hS901 := Sl.ofInts (l := [_]) (n := 1) (cap := 1) hA901 rfl (by omega) (by omega)
      refine L.append (A := []) (B := []) rfl Try.underlying52 rfl rfl Tf.s3 Tf.z3 rfl Tf.i3 rfl rfl rfl ha (Src.lit hA901) (by simp) rfl (by simp) (by simp [cell1]) (by have := bk_len m k; omega) (Or.inl rfl) rfl trivial (fun v7 ν7 ha7 => ?_)
      have hn7 : Acc 3 1 v7 (bitsK m (k + 1)).length (ints (bitsK m (k + 1))) ν7 := by rw [bk_yes hbit]; simpa [ints] using ha7
      refine L.assign rfl rfl rfl trivial ?_
      refine L.nil ?_
      refine C.blockEnd ?_
      refine C.next ?_
      refine C.region [(false,0),(false,1),(false,2)] rfl ?_
      refine L.move rfl rfl rfl trivial ?_
      refine L.add rfl rfl rfl (by simp only [inK]; omega) rfl trivial ?_
      refine L.assign rfl rfl rfl trivial ?_
      refine L.nil ?_
      exact C.againR 21 (k + 1, v7, ν7) ⟨by simp only; omega, hn7⟩ (by simp only; omega) ⟨(by first | rfl | (show some (Value.int _ _) = some (Value.int _ _); congr 2; omega)), (by first | rfl | (show some (Value.int _ _) = some (Value.int _ _); congr 2; omega)), trivial⟩ rfl rfl (List.Sublist.refl _) (fun D h => ⟨D, List.Mem.tail _ (h), Le.refl D⟩)
    · have hbit : m.testBit k = false := bit_zero hc2
      refine C.skip ?_
      refine C.blockEnd ?_
      refine C.next ?_
      refine C.region [(false,0),(false,1),(false,2)] rfl ?_
      refine L.move rfl rfl rfl trivial ?_
      refine L.add rfl rfl rfl (by simp only [inK]; omega) rfl trivial ?_
      refine L.assign rfl rfl rfl trivial ?_
      refine L.nil ?_
      exact C.againR 16 (k + 1, v, ν) ⟨by simp only; omega, by simp only; rw [bk_no hbit]; exact ha⟩ (by simp only; omega) ⟨(by first | rfl | (show some (Value.int _ _) = some (Value.int _ _); congr 2; omega)), (by first | rfl | (show some (Value.int _ _) = some (Value.int _ _); congr 2; omega)), trivial⟩ rfl rfl (List.Sublist.refl _) (ds_same)
  · have hend : bitsK m k = bitsL m := bits_end hm h1 (by simp only at hc1; generalize m >>> k = s at hc1 ⊢; omega)
    rw [hend] at ha
    refine C.exit ?_
    refine C.thenExit ?_
    refine C.thenExit ?_
    refine C.blockExit ?_
    refine C.next ?_
    refine C.seq ?_
    refine C.region [(false,0),(false,1)] rfl ?_
    refine L.move rfl rfl rfl trivial ?_
    refine L.assign rfl rfl rfl trivial ?_
    refine L.nil ?_
    refine C.next ?_
    refine C.ret ?_
    refine Q.freeze (A := []) (B := []) ha rfl (fun D2 hD2 hF => ?_)
    exact leave (vs := [_]) rfl rfl rfl ⟨rfl, trivial⟩ (fun D' hD => (hF.ints rfl (by have := bk_len m 7; unfold bitsL; omega)).up RI.up (hD _ (by simp)))
end Go.Fs
namespace Go.Fs
open Go.Proofs
open C7
/-- Is the element at a place of a proof right? -/
def pfAt (t : List Pt) (l : List Int) (k : Nat) : Bool := match l[k]? with
  | some x => inB x 0 ((t.length : Int) - 1) && (!(decide (0 < (k : Int)) && decide (x ≤ l.getD (k - 1) 0)) && !isWhole (t.getD x.toNat ⟨0, 0, 0⟩))
  | none => true
def isPf (t : List Pt) (l : List Int) : Bool := (List.range l.length).all (pfAt t l)
theorem pf_in {n : Nat} {x : Int} {b : Bool} (h : (!inB x 0 ((n : Int) - 1) || b) = false) : 0 ≤ x ∧ x.toNat < n := by
  simp only [Bool.or_eq_false_iff, Bool.not_eq_false'] at h
  have := inB_iff.1 h.1
  omega
theorem pf_at {t : List Pt} {l : List Int} {k : Nat} {x : Int} (hx : l[k]? = some x) : pfAt t l k = !((!inB x 0 ((t.length : Int) - 1) || (decide (0 < (k : Int)) && decide (x ≤ l.getD (k - 1) 0))) || isWhole (t.getD x.toNat ⟨0, 0, 0⟩)) := by
  unfold pfAt; rw [hx]; simp only
  cases inB x 0 ((t.length : Int) - 1) <;> cases (decide (0 < (k : Int)) && decide (x ≤ l.getD (k - 1) 0)) <;> cases isWhole (t.getD x.toNat ⟨0, 0, 0⟩) <;> rfl
theorem pf_yes {t : List Pt} {l : List Int} {k : Nat} {x : Int} (hx : l[k]? = some x) (h : ((!inB x 0 ((t.length : Int) - 1) || (decide (0 < (k : Int)) && decide (x ≤ l.getD (k - 1) 0))) || isWhole (t.getD x.toNat ⟨0, 0, 0⟩)) = false) : pfAt t l k = true := by rw [pf_at hx, h]; rfl
theorem pf_no {t : List Pt} {l : List Int} {k : Nat} {x : Int} (hx : l[k]? = some x) (hk : k < l.length) (h : ((!inB x 0 ((t.length : Int) - 1) || (decide (0 < (k : Int)) && decide (x ≤ l.getD (k - 1) 0))) || isWhole (t.getD x.toNat ⟨0, 0, 0⟩)) = true) : isPf t l = false := by
  unfold isPf
  exact List.all_eq_false.2 ⟨k, List.mem_range.2 hk, by rw [pf_at hx, h]; simp⟩
def orP (l : List Int) : Nat := l.foldl (fun n x => n ||| 2 ^ x.toNat) 0
theorem orP_step {l : List Int} {k : Nat} {x : Int} (h : l[k]? = some x) : orP (l.take (k + 1)) = orP (l.take k) ||| 2 ^ x.toNat := by
  unfold orP; rw [List.take_add_one, h, Option.toList_some, List.foldl_append]; rfl
theorem orP_bit : ∀ (l : List Int) (n i : Nat), (l.foldl (fun n x => n ||| 2 ^ x.toNat) n).testBit i = (n.testBit i || l.any fun x => decide (x.toNat = i))
  | [], n, i => by simp
  | x :: l, n, i => by rw [List.foldl_cons, orP_bit l, Nat.testBit_or, Nat.testBit_two_pow, List.any_cons, Bool.or_assoc]
theorem mem_orP {l : List Int} {i : Nat} : (orP l).testBit i = true ↔ ∃ x ∈ l, x.toNat = i := by
  unfold orP; rw [orP_bit]; simp
theorem orP_lt {l : List Int} (h : ∀ x ∈ l, x.toNat < 7) : orP l < 128 := by
  refine Nat.lt_pow_two_of_testBit (n := 7) _ fun i hi => ?_
  cases e : (orP l).testBit i with
  | false => rfl
  | true =>
    obtain ⟨x, hx, rfl⟩ := mem_orP.1 e
    have := h x hx
    omega
theorem dif_zero (m : Nat) : dif m (orP []) = m := by unfold dif orP; simp
theorem dif_or (m a b : Nat) : dif m (a ||| b) = dif (dif m a) b := by
  apply Nat.eq_of_testBit_eq; intro x
  rw [dif_bit, dif_bit, dif_bit, Nat.testBit_or]
  cases m.testBit x <;> cases a.testBit x <;> cases b.testBit x <;> rfl
theorem br_lt (t : List Pt) (h : t.length ≤ 7) : bset (brokB t) t.length < 128 := by
  have := bset_lt (brokB t) t.length
  have h2 : 2 ^ t.length ≤ 2 ^ 7 := Nat.pow_le_pow_right (by omega) h
  omega
theorem br_in {t : List Pt} {p x : Nat} (h : (dif (bset (brokB t) t.length) p).testBit x = true) : x < t.length := by
  rw [dif_bit, bset_bit] at h; simp at h; exact h.1.1
/-- What a list that is a proof has. -/
theorem pf_facts {t : List Pt} {l : List Int} (h7 : t.length ≤ 7) (h : isPf t l = true) : (∀ x ∈ l, 0 ≤ x ∧ x.toNat < 7 ∧ (bset (brokB t) t.length).testBit x.toNat = true) ∧ onesB (orP l) = l.length ∧ (∀ x, (orP l).testBit x = true → (bset (brokB t) t.length).testBit x = true) := by
  have at_ : ∀ k x, l[k]? = some x → (0 ≤ x ∧ x.toNat < 7 ∧ (bset (brokB t) t.length).testBit x.toNat = true) ∧ (0 < k → l.getD (k - 1) 0 < x) := fun k x hx => by
    have hk := (List.getElem?_eq_some_iff.1 hx).1
    have h1 := List.all_eq_true.1 h k (List.mem_range.2 hk)
    rw [pf_at hx, Bool.not_eq_true', Bool.or_eq_false_iff, Bool.or_eq_false_iff, Bool.not_eq_false', Bool.and_eq_false_iff, decide_eq_false_iff_not, decide_eq_false_iff_not] at h1
    obtain ⟨⟨h1, h2⟩, h3⟩ := h1
    have h4 := inB_iff.1 h1
    refine ⟨⟨h4.1, by omega, ?_⟩, fun hp => by omega⟩
    have hz : t[x.toNat]? = some (t.getD x.toNat ⟨0, 0, 0⟩) := by rw [List.getD_eq_getElem?_getD, List.getElem?_eq_getElem (by omega)]; rfl
    rw [bset_bit, brok_at hz, h3]; simp; omega
  have all_ : ∀ x ∈ l, 0 ≤ x ∧ x.toNat < 7 ∧ (bset (brokB t) t.length).testBit x.toNat = true := fun x hx => by
    obtain ⟨k, hk⟩ := List.mem_iff_getElem?.1 hx
    exact (at_ k x hk).1
  have inc : ∀ k j : Nat, k < j → ∀ x z, l[k]? = some x → l[j]? = some z → x < z := by
    intro k j hkj
    induction j with
    | zero => omega
    | succ j ih =>
      intro x z hx hz
      have hj := (List.getElem?_eq_some_iff.1 hz).1
      have h1 := (at_ (j + 1) z hz).2 (by omega)
      have h2 : l[j]? = some (l.getD j 0) := by rw [List.getD_eq_getElem?_getD, List.getElem?_eq_getElem (by omega)]; rfl
      rw [Nat.add_sub_cancel] at h1
      by_cases e : k = j
      · subst e; rw [hx] at h2; obtain rfl := Option.some.inj h2; exact h1
      · have := ih (by omega) x _ hx h2; omega
  refine ⟨all_, ?_, fun x hx => ?_⟩
  · have hnd : (l.map Int.toNat).Nodup := by
      rw [List.nodup_iff_pairwise_ne, List.pairwise_iff_getElem]
      intro i j hi hj hij e
      rw [List.length_map] at hi hj
      rw [List.getElem_map, List.getElem_map] at e
      have h1 := inc i j hij _ _ (List.getElem?_eq_getElem hi) (List.getElem?_eq_getElem hj)
      have h2 := (all_ _ (List.getElem_mem hi)).1
      omega
    unfold onesB
    rw [show l.length = (l.map Int.toNat).length by rw [List.length_map]]
    refine len_eq_of_iff (nodup_bits7 _) hnd fun x => ?_
    rw [mem_bits7 (orP_lt fun x hx => (all_ x hx).2.1), mem_orP, List.mem_map]
  · obtain ⟨z, hz, rfl⟩ := mem_orP.1 hx
    exact (all_ z hz).2.2
/-- The group, as the reference finds it: each chair with each other, as often as there are chairs. -/
def colS (f : Nat → Nat → Bool) (left a : Nat) (g b : Nat) : Nat := if ((decide ((((g >>> a : Nat) : Int)) % 2 = 1) && decide ((((left >>> b : Nat) : Int)) % 2 = 1)) && f a b) = true then g ||| 2 ^ b else g
def colK (f : Nat → Nat → Bool) (left a g k : Nat) : Nat := (List.range k).foldl (colS f left a) g
def rowK (f : Nat → Nat → Bool) (left n g k : Nat) : Nat := (List.range k).foldl (fun g a => colK f left a g n) g
def rndK (f : Nat → Nat → Bool) (left n g k : Nat) : Nat := (List.range k).foldl (fun g _ => rowK f left n g n) g
theorem col_succ {f : Nat → Nat → Bool} {left a g k : Nat} : colK f left a g (k + 1) = colS f left a (colK f left a g k) k := by unfold colK; rw [List.range_succ, List.foldl_append]; rfl
theorem row_succ {f : Nat → Nat → Bool} {left n g k : Nat} : rowK f left n g (k + 1) = colK f left k (rowK f left n g k) n := by unfold rowK; rw [List.range_succ, List.foldl_append]; rfl
theorem rnd_succ {f : Nat → Nat → Bool} {left n g k : Nat} : rndK f left n g (k + 1) = rowK f left n (rndK f left n g k) n := by unfold rndK; rw [List.range_succ, List.foldl_append]; rfl
theorem col_yes {f : Nat → Nat → Bool} {left a g k : Nat} (h : ((decide ((((colK f left a g k >>> a : Nat) : Int)) % 2 = 1) && decide ((((left >>> k : Nat) : Int)) % 2 = 1)) && f a k) = true) : colK f left a g (k + 1) = colK f left a g k ||| 2 ^ k := by rw [col_succ, colS, if_pos h]
theorem col_no {f : Nat → Nat → Bool} {left a g k : Nat} (h : ((decide ((((colK f left a g k >>> a : Nat) : Int)) % 2 = 1) && decide ((((left >>> k : Nat) : Int)) % 2 = 1)) && f a k) = false) : colK f left a g (k + 1) = colK f left a g k := by rw [col_succ, colS, if_neg (by rw [h]; simp)]
theorem colS_bit {f : Nat → Nat → Bool} {left a g b x : Nat} : (colS f left a g b).testBit x = true ↔ g.testBit x = true ∨ (x = b ∧ g.testBit a = true ∧ left.testBit b = true ∧ f a b = true) := by
  have e : ((decide ((((g >>> a : Nat) : Int)) % 2 = 1) && decide ((((left >>> b : Nat) : Int)) % 2 = 1)) && f a b) = ((g.testBit a && left.testBit b) && f a b) := by
    rw [bit_mod, bit_mod]; cases g.testBit a <;> cases left.testBit b <;> rfl
  unfold colS; rw [e]
  split
  · rename_i h
    simp only [Bool.and_eq_true] at h
    rw [Nat.testBit_or, Nat.testBit_two_pow, Bool.or_eq_true, decide_eq_true_eq]
    exact ⟨fun h' => h'.imp id fun e => ⟨e.symm, h.1.1, h.1.2, h.2⟩, fun h' => h'.imp id fun e => e.1.symm⟩
  · rename_i h
    simp only [Bool.and_eq_true] at h
    exact ⟨Or.inl, fun h' => h'.resolve_right fun e => h ⟨⟨e.2.1, e.2.2.1⟩, e.2.2.2⟩⟩
theorem colK_lt {f : Nat → Nat → Bool} {left a g : Nat} (hg : g < 128) : ∀ k, k ≤ 7 → colK f left a g k < 128
  | 0, _ => hg
  | k + 1, hk => by
    have ih := colK_lt (f := f) (left := left) (a := a) hg k (by omega)
    rw [col_succ, colS]; split
    · exact Nat.or_lt_two_pow (n := 7) ih (pow_lt7 (by omega))
    · exact ih
theorem rowK_lt {f : Nat → Nat → Bool} {left g n : Nat} (hg : g < 128) (hn : n ≤ 7) : ∀ k, rowK f left n g k < 128
  | 0 => hg
  | k + 1 => by rw [row_succ]; exact colK_lt (rowK_lt hg hn k) n hn
theorem rnd_lt {f : Nat → Nat → Bool} {left g n : Nat} (hg : g < 128) (hn : n ≤ 7) : ∀ k, rndK f left n g k < 128
  | 0 => hg
  | k + 1 => by rw [rnd_succ]; exact rowK_lt (rnd_lt hg hn k) hn n
/-- What holds of all that are reached. -/
theorem colK_ind {f : Nat → Nat → Bool} {left a g : Nat} {p : Nat → Prop} (hs : ∀ z, p a → left.testBit z = true → f a z = true → p z) (h : ∀ x, g.testBit x = true → p x) : ∀ k x, (colK f left a g k).testBit x = true → p x
  | 0, x, hx => h x hx
  | k + 1, x, hx => by
    have ih := colK_ind hs h k
    rw [col_succ, colS_bit] at hx
    rcases hx with hx | ⟨rfl, h1, h2, h3⟩
    · exact ih x hx
    · exact hs x (ih a h1) h2 h3
theorem rowK_ind {f : Nat → Nat → Bool} {left g n : Nat} {p : Nat → Prop} (hs : ∀ a z, p a → left.testBit z = true → f a z = true → p z) (h : ∀ x, g.testBit x = true → p x) : ∀ k x, (rowK f left n g k).testBit x = true → p x
  | 0, x, hx => h x hx
  | k + 1, x, hx => by rw [row_succ] at hx; exact colK_ind (hs k) (rowK_ind hs h k) n x hx
theorem rnd_ind {f : Nat → Nat → Bool} {left g n : Nat} {p : Nat → Prop} (hs : ∀ a z, p a → left.testBit z = true → f a z = true → p z) (h : ∀ x, g.testBit x = true → p x) : ∀ k x, (rndK f left n g k).testBit x = true → p x
  | 0, x, hx => h x hx
  | k + 1, x, hx => by rw [rnd_succ] at hx; exact rowK_ind hs (rnd_ind hs h k) n x hx
theorem colK_up {f : Nat → Nat → Bool} {left a g x : Nat} (h : g.testBit x = true) : ∀ k, (colK f left a g k).testBit x = true
  | 0 => h
  | k + 1 => by rw [col_succ, colS_bit]; exact Or.inl (colK_up h k)
theorem rowK_up {f : Nat → Nat → Bool} {left n g x : Nat} (h : g.testBit x = true) : ∀ k, (rowK f left n g k).testBit x = true
  | 0 => h
  | k + 1 => by rw [row_succ]; exact colK_up (rowK_up h k) n
theorem rnd_up {f : Nat → Nat → Bool} {left n g x : Nat} (h : g.testBit x = true) : ∀ k, (rndK f left n g k).testBit x = true
  | 0 => h
  | k + 1 => by rw [rnd_succ]; exact rowK_up (rnd_up h k) n
theorem colK_near {f : Nat → Nat → Bool} {left a g z : Nat} (ha : g.testBit a = true) (hz : left.testBit z = true) (hf : f a z = true) : ∀ k, z < k → (colK f left a g k).testBit z = true
  | k + 1, hk => by
    rw [col_succ, colS_bit]
    by_cases e : z = k
    · subst e; exact Or.inr ⟨rfl, colK_up ha z, hz, hf⟩
    · exact Or.inl (colK_near ha hz hf k (by omega))
theorem rowK_near {f : Nat → Nat → Bool} {left n g a z : Nat} (ha : g.testBit a = true) (hz : left.testBit z = true) (hf : f a z = true) (hzn : z < n) : ∀ k, a < k → (rowK f left n g k).testBit z = true
  | k + 1, hk => by
    rw [row_succ]
    by_cases e : a = k
    · subst e; exact colK_near (rowK_up ha a) hz hf n hzn
    · exact colK_up (rowK_near ha hz hf hzn k (by omega)) n
theorem ones_le_n {m n : Nat} (h : ∀ x, m.testBit x = true → x < n) : onesB m ≤ n := by
  have := length_le_of_sub (nodup_bits7 fun i => m.testBit i) (m := List.range n) fun x hx => List.mem_range.2 (h x (List.mem_filter.1 hx).2)
  rwa [List.length_range] at this
theorem ones_grow {m g : Nat} (h : ∀ x, g.testBit x = true → m.testBit x = true) (hm : m < 128) (hne : m ≠ g) : onesB g + 1 ≤ onesB m := by
  have : ∃ x, m.testBit x = true ∧ g.testBit x = false := Classical.byContradiction fun hno => hne (Nat.eq_of_testBit_eq fun x => by
    cases e : g.testBit x with
    | true => exact h x e
    | false => cases e2 : m.testBit x with
      | false => rfl
      | true => exact absurd ⟨x, e2, e⟩ hno)
  obtain ⟨x, hx, hg⟩ := this
  exact filter_lt h hx hg (List.mem_range.2 (bit128 hm hx))
theorem rnd_fix {f : Nat → Nat → Bool} {left n a : Nat} (hn : n ≤ 7) (ha : a < 7) : ∀ k, rowK f left n (rndK f left n (2 ^ a) k) n = rndK f left n (2 ^ a) k ∨ k + 1 ≤ onesB (rndK f left n (2 ^ a) k)
  | 0 => Or.inr (by show 1 ≤ onesB (2 ^ a); rw [ones_two ha]; exact Nat.le_refl _)
  | k + 1 => by
    rcases Classical.em (rowK f left n (rndK f left n (2 ^ a) k) n = rndK f left n (2 ^ a) k) with h | h
    · left; rw [rnd_succ, h, h]
    · right
      rcases rnd_fix (f := f) (left := left) hn ha k with h1 | h1
      · exact absurd h1 h
      · rw [rnd_succ]
        have := ones_grow (fun x hx => rowK_up hx n) (rowK_lt (rnd_lt (f := f) (left := left) (pow_lt7 ha) hn k) hn n) h
        omega
/-- The reference's group is the program's. -/
theorem group_is {y : YardD} {t : List Pt} {left a : Nat} (hlen : t.length = y.chairs.length) (h7 : t.length ≤ 7) (ha : a < 7) (hbit : left.testBit a = true) (_hl : left < 128) (hin : ∀ x, left.testBit x = true → x < t.length) : rndK (fitB y t) left t.length (2 ^ a) t.length = groupB (sceneD y t).fits left a := by
  have hF := (scene_ok' hlen h7).row
  have hfb : ∀ x z, fB (sceneD y t).fits x z = fitB y t x z := fun x z => by rw [fB_fits h7]
  have h1 : ∀ x, (rndK (fitB y t) left t.length (2 ^ a) t.length).testBit x = true → (groupB (sceneD y t).fits left a).testBit x = true := by
    refine rnd_ind (fun x z hx hz hf => group_closed hF ha hx hz (by rw [hfb]; exact hf)) (fun x hx => ?_) t.length
    rw [Nat.testBit_two_pow] at hx
    obtain rfl : a = x := by simpa using hx
    exact group_has _ _ _
  have hfix : rowK (fitB y t) left t.length (rndK (fitB y t) left t.length (2 ^ a) t.length) t.length = rndK (fitB y t) left t.length (2 ^ a) t.length := by
    rcases rnd_fix (f := fitB y t) (left := left) h7 ha t.length with h | h
    · exact h
    · have := ones_le_n (fun x hx => hin x (group_sub hbit x (h1 x hx)))
      omega
  have h2 : ∀ x, (groupB (sceneD y t).fits left a).testBit x = true → (rndK (fitB y t) left t.length (2 ^ a) t.length).testBit x = true := by
    refine group_ind (p := fun x => (rndK (fitB y t) left t.length (2 ^ a) t.length).testBit x = true) (fun x z hx hz hf => ?_) (rnd_up (by rw [Nat.testBit_two_pow_self]) _)
    rw [hfb] at hf
    rw [← hfix]
    exact rowK_near hx hz hf (hin z hz) _ (fitB_in hf).1
  exact Nat.eq_of_testBit_eq fun x => by
    cases e : (groupB (sceneD y t).fits left a).testBit x with
    | true => exact h2 x e
    | false => cases e2 : (rndK (fitB y t) left t.length (2 ^ a) t.length).testBit x with
      | false => rfl
      | true => rw [h1 x e2] at e; cases e
theorem odd_skip {lf i n : Nat} (h : ∀ x, lf.testBit x = true → i ≤ x ∧ x < n) (hb : lf.testBit i = false) (x : Nat) (hx : lf.testBit x = true) : i + 1 ≤ x ∧ x < n := by
  have := h x hx
  have hne : x ≠ i := by rintro rfl; rw [hb] at hx; cases hx
  omega
theorem odd_go {F : List Nat} {lf i n : Nat} (h : ∀ x, lf.testBit x = true → i ≤ x ∧ x < n) (x : Nat) (hx : (dif lf (groupB F lf i)).testBit x = true) : i + 1 ≤ x ∧ x < n := by
  rw [dif_bit] at hx
  simp only [Bool.and_eq_true, Bool.not_eq_true'] at hx
  have := h x hx.1
  have hne : x ≠ i := by rintro rfl; rw [group_has] at hx; cases hx.2
  omega
theorem odd_at {F : List Nat} {lf i n : Nat} (h : ∀ x, lf.testBit x = true → i ≤ x ∧ x < n) (hb : lf.testBit i = true) : oddB F lf = onesB (groupB F lf i) % 2 + oddB F (dif lf (groupB F lf i)) := by
  have h0 : lf ≠ 0 := by rintro rfl; rw [Nat.zero_testBit] at hb; cases hb
  have hl := low_spec h0
  have e : low lf = i := by
    have h1 := (h _ hl.1).1
    rcases Nat.lt_or_ge i (low lf) with h2 | h2
    · rw [hl.2 i h2] at hb; cases hb
    · omega
  have := oddB_eq (F := F) h0
  rwa [e] at this
theorem bl_len (m : Nat) : (bitsL m).length = onesB m := by unfold bitsL bitsK onesB; rw [List.length_map]
theorem bound_fin {y : YardD} {t : List Pt} {l : List Int} {od : Nat} (hpl : onesB (orP l) = l.length) (h8 : od + oddB (sceneD y t).fits 0 = oddB (sceneD y t).fits (dif (bset (brokB t) t.length) (orP l))) (hle : oddB (sceneD y t).fits (dif (bset (brokB t) t.length) (orP l)) ≤ onesB (dif (bset (brokB t) t.length) (orP l))) (_h7 : onesB (dif (bset (brokB t) t.length) (orP l)) ≤ 7) : ((whole t : Nat) : Int) + (((bitsL (bset (brokB t) t.length)).length : Int) + (l.length : Int) - (od : Int)) / 2 = (boundB (sceneD y t) (orP l) : Int) := by
  have h0 : oddB (sceneD y t).fits 0 = 0 := rfl
  have h1 := onesB_mono (bset (brokB t) t.length) (orP l)
  rw [bl_len, ← hpl]
  unfold boundB
  have hb : (sceneD y t).broken = bset (brokB t) t.length := rfl
  have hw : (sceneD y t).whole = whole t := rfl
  rw [hb, hw]
  omega
theorem odd_end {lf n : Nat} (h : ∀ x, lf.testBit x = true → n ≤ x ∧ x < n) : lf = 0 := Nat.eq_of_testBit_eq fun x => by
  rw [Nat.zero_testBit]
  cases e : lf.testBit x with
  | false => rfl
  | true => have := h x e; omega
theorem IsProof_ok (tv lv : Value) (t : List Pt) (l : List Int) (D : Data) (ht : Sl D RP 3 tv t) (hl : Sl D RI 1 lv l) (hb : ∀ p ∈ t, Bits1 p) (hn7 : t.length ≤ 7) : Fn Try.prog 37 #[tv, lv] D (fun _ v => v = .bool (isPf t l)) := by
  have htl := ht.len
  have hll := hl.len
  refine enter 47 Try.func37 rfl rfl rfl rfl fun h0 => ?_
  refine C.seq ?_
  refine C.region [(false,0)] rfl ?_
  refine L.assign rfl rfl rfl trivial ?_
  refine L.nil ?_
  refine C.next ?_
  refine C.seq ?_
  refine C.seq ?_
  refine C.region [(false,0)] rfl ?_
  refine L.assign rfl rfl rfl trivial ?_
  refine L.nil ?_
  refine C.next ?_
  refine C.block ?_
  refine C.loopC (γ := Nat) (fun k => l.length - k) (fun k => k ≤ l.length ∧ (List.range k).all (pfAt t l) = true) (fun k => [(5, .int .i64 (k : Int))]) [(4, _), (0, _), (1, _)] (fun k => [D]) 0 ⟨by omega, rfl⟩ ⟨(by first | rfl | (show some (Value.int _ _) = some (Value.int _ _); congr 2; omega)), trivial⟩ ⟨rfl, rfl, rfl, trivial⟩ (ds_same) ?_
  rintro k ⟨h1, h2⟩
  refine C.seq ?_
  refine C.seq ?_
  refine C.region [(false,0),(false,1),(false,2),(false,3)] rfl ?_
  refine L.move rfl rfl rfl trivial ?_
  refine L.move rfl rfl rfl trivial ?_
  refine L.len rfl Try.underlying52 rfl hl rfl rfl trivial ?_
  refine L.lss rfl rfl rfl rfl trivial ?_
  refine L.nil ?_
  refine C.next ?_
  refine C.condD rfl (fun hc1 => ?_) (fun hc1 => ?_)
  · have hk : k < l.length := by omega
    obtain ⟨x, hx⟩ : ∃ x, l[k]? = some x := ⟨_, List.getElem?_eq_getElem hk⟩
    have hw1 : 0 < k → l[((k : Int) - 1).toNat]? = some (l.getD (k - 1) 0) := fun h => by rw [show ((k : Int) - 1).toNat = k - 1 by omega, List.getD_eq_getElem?_getD, List.getElem?_eq_getElem (by omega)]; rfl
    refine C.skip ?_
    refine C.next ?_
    refine C.seq ?_
    refine C.block ?_
    refine C.seq ?_
    refine C.draw [] 8 [0,1,2,3,4,5,6,7,8,9,10,11,12,13,14,15,16,17,18,19,20,21,22,23,24,25,26,27,28,29,30,31,32,33,34] [false,true,false,false,true,true,true,false,false,false,false,false,false,false,true,false,false,true,true,true,true,true,false,false,false,false,false,true,true,true,true,false,false,false,false] [(false,0),(true,1),(false,2),(false,3),(true,4),(true,5),(true,6),(false,7),(false,8),(false,9),(false,10),(false,11),(false,12),(false,13),(true,14),(false,15),(false,16),(true,17),(true,18),(true,19),(true,20),(true,21),(false,22),(false,23),(false,24),(false,25),(false,26),(true,27),(true,28),(true,29),(true,30),(false,31),(false,32),(false,33),(false,34)] Tf.follows (fun _ _ _ h => np_body (P := Try.prog) (fn := Try.f37) _ _ _ h) (by kernel_rfl) rfl ?_
    refine L.move rfl rfl rfl trivial ?_
    refine L.move rfl rfl rfl trivial ?_
    refine L.indexS rfl Try.underlying52 Tf.s3 rfl hl rfl (by omega) hx rfl trivial (fun b1 o1 cs1 hr1 hcl1 hA1 => ?_)
    obtain rfl : cs1 = [.int .i64 _] := hr1
    refine L.loadD1 rfl (k := 0) Tf.a3 rfl hA1 (by first | simp | assumption) rfl List.not_mem_nil rfl trivial ?_
    refine L.move rfl rfl rfl trivial ?_
    refine L.len rfl Try.underlying26 rfl ht rfl rfl trivial ?_
    refine L.sub rfl rfl rfl (by simp only [inK]; omega) rfl trivial ?_
    refine L.callV rfl rfl rfl (fun D1 hD1 => In_ok _ _ _ _) rfl trivial ?_
    refine L.not rfl rfl rfl trivial ?_
    refine L.move rfl rfl rfl trivial ?_
    refine' L.or [(false,10),(false,11),(false,12),(false,13),(true,14),(false,15),(false,16),(true,17),(true,18),(true,19),(true,20),(true,21),(false,22),(false,23),(false,24)] [(false,25),(false,26),(true,27),(true,28),(true,29),(true,30),(false,31),(false,32),(false,33),(false,34)] (s := 21) (p := 36) rfl rfl (fun hg1 => ?_) (fun hg1 => ?_) ?_
    rotate_left
    · refine L.move rfl rfl rfl ⟨_, rfl, rfl⟩ ?_
      refine L.gtr rfl rfl rfl rfl ⟨_, rfl, rfl⟩ ?_
      refine L.move rfl rfl rfl ⟨_, rfl, rfl⟩ ?_
      refine' L.and [(false,13),(true,14),(false,15),(false,16),(true,17),(true,18),(true,19),(true,20),(true,21),(false,22),(false,23)] [(false,24)] (s := 24) (p := 35) rfl rfl (fun hg2 => ?_) (fun hg2 => ?_) ?_
      rotate_left
      · have hkp : 0 < k := by simpa using hg2
        refine L.move rfl rfl rfl ⟨_, rfl, rfl⟩ ?_
        refine L.move rfl rfl rfl ⟨_, rfl, rfl⟩ ?_
        refine L.indexS rfl Try.underlying52 Tf.s3 rfl hl rfl (by omega) hx rfl ⟨_, rfl, rfl⟩ (fun b2 o2 cs2 hr2 hcl2 hA2 => ?_)
        obtain rfl : cs2 = [.int .i64 _] := hr2
        refine L.loadD1 rfl (k := 0) Tf.a3 rfl hA2 (by first | simp | assumption) rfl List.not_mem_nil rfl ⟨_, rfl, rfl⟩ ?_
        refine L.move rfl rfl rfl ⟨_, rfl, rfl⟩ ?_
        refine L.move rfl rfl rfl ⟨_, rfl, rfl⟩ ?_
        refine L.sub rfl rfl rfl (by simp only [inK]; omega) rfl ⟨_, rfl, rfl⟩ ?_
        refine L.indexS rfl Try.underlying52 Tf.s3 rfl hl rfl (by omega) (hw1 hkp) rfl ⟨_, rfl, rfl⟩ (fun b3 o3 cs3 hr3 hcl3 hA3 => ?_)
        obtain rfl : cs3 = [.int .i64 _] := hr3
        refine L.loadD1 rfl (k := 0) Tf.a3 rfl hA3 (by first | simp | assumption) rfl List.not_mem_nil rfl ⟨_, rfl, rfl⟩ ?_
        refine L.leq rfl rfl rfl rfl ⟨_, rfl, rfl⟩ ?_
        refine L.pickT rfl rfl rfl rfl ⟨_, rfl, rfl⟩ ?_
        exact L.nil fun a w hh => hh.cutK 10 rfl
      · refine L.pass rfl rfl rfl ⟨_, _, rfl, rfl, rfl⟩ ?_
        refine L.pass rfl rfl rfl ⟨_, _, rfl, rfl, rfl⟩ ?_
        refine L.pass rfl rfl rfl ⟨_, _, rfl, rfl, rfl⟩ ?_
        refine L.pass rfl rfl rfl ⟨_, _, rfl, rfl, rfl⟩ ?_
        refine L.pass rfl rfl rfl ⟨_, _, rfl, rfl, rfl⟩ ?_
        refine L.pass rfl rfl rfl ⟨_, _, rfl, rfl, rfl⟩ ?_
        refine L.pass rfl rfl rfl ⟨_, _, rfl, rfl, rfl⟩ ?_
        refine L.pass rfl rfl rfl ⟨_, _, rfl, rfl, rfl⟩ ?_
        refine L.pass rfl rfl rfl ⟨_, _, rfl, rfl, rfl⟩ ?_
        refine L.pass rfl rfl rfl ⟨_, _, rfl, rfl, rfl⟩ ?_
        refine L.pickF rfl rfl rfl rfl ⟨_, rfl, rfl⟩ ?_
        exact L.nil fun a w hh => hh.cutK 10 rfl
      refine L.pickF rfl rfl rfl rfl trivial ?_
      exact L.nil fun a w hh => hh.cutK 4 rfl
    · refine L.pass rfl rfl rfl ⟨_, _, rfl, rfl, rfl⟩ ?_
      refine L.pass rfl rfl rfl ⟨_, _, rfl, rfl, rfl⟩ ?_
      refine L.pass rfl rfl rfl ⟨_, _, rfl, rfl, rfl⟩ ?_
      refine L.pass rfl rfl rfl ⟨_, _, rfl, rfl, rfl⟩ ?_
      refine L.pass rfl rfl rfl ⟨_, _, rfl, rfl, rfl⟩ ?_
      refine L.pass rfl rfl rfl ⟨_, _, rfl, rfl, rfl⟩ ?_
      refine L.pass rfl rfl rfl ⟨_, _, rfl, rfl, rfl⟩ ?_
      refine L.pass rfl rfl rfl ⟨_, _, rfl, rfl, rfl⟩ ?_
      refine L.pass rfl rfl rfl ⟨_, _, rfl, rfl, rfl⟩ ?_
      refine L.pass rfl rfl rfl ⟨_, _, rfl, rfl, rfl⟩ ?_
      refine L.pass rfl rfl rfl ⟨_, _, rfl, rfl, rfl⟩ ?_
      refine L.pass rfl rfl rfl ⟨_, _, rfl, rfl, rfl⟩ ?_
      refine L.pass rfl rfl rfl ⟨_, _, rfl, rfl, rfl⟩ ?_
      refine L.pass rfl rfl rfl ⟨_, _, rfl, rfl, rfl⟩ ?_
      refine L.pickT rfl rfl rfl rfl trivial ?_
      exact L.nil fun a w hh => hh.cutK 14 rfl
    refine L.move rfl rfl rfl trivial ?_
    refine' L.or [(false,26),(true,27),(true,28),(true,29),(true,30),(false,31),(false,32),(false,33),(false,34)] [] (s := 37) (p := 46) rfl rfl (fun hg3 => ?_) (fun hg3 => ?_) ?_
    rotate_left
    · obtain ⟨hx0, hxn⟩ := pf_in hg3
      have hz : t[x.toNat]? = some (t.getD x.toNat ⟨0, 0, 0⟩) := by rw [List.getD_eq_getElem?_getD, List.getElem?_eq_getElem (by omega)]; rfl
      refine L.move rfl rfl rfl ⟨_, rfl, rfl⟩ ?_
      refine L.move rfl rfl rfl ⟨_, rfl, rfl⟩ ?_
      refine L.move rfl rfl rfl ⟨_, rfl, rfl⟩ ?_
      refine L.indexS rfl Try.underlying52 Tf.s3 rfl hl rfl (by omega) hx rfl ⟨_, rfl, rfl⟩ (fun b4 o4 cs4 hr4 hcl4 hA4 => ?_)
      obtain rfl : cs4 = [.int .i64 _] := hr4
      refine L.loadD1 rfl (k := 0) Tf.a3 rfl hA4 (by first | simp | assumption) rfl List.not_mem_nil rfl ⟨_, rfl, rfl⟩ ?_
      refine L.indexS rfl Try.underlying26 Tf.s91 rfl ht rfl (by omega) hz rfl ⟨_, rfl, rfl⟩ (fun b5 o5 cs5 hr5 hcl5 hA5 => ?_)
      obtain rfl : cs5 = [.int .i64 _, .int .i64 _, .int .i64 _] := hr5
      refine L.loadDW rfl Tf.a91 rfl hA5 (by first | simp | assumption) (by first | exact Tf.s91 | (simp only [ints_length, *]; exact Tf.s91)) List.not_mem_nil rfl ⟨_, rfl, rfl⟩ ?_
      refine L.callV rfl rfl rfl (fun D2 hD2 => IsWhole_ok (t.getD x.toNat ⟨0, 0, 0⟩) _ (hb _ (List.mem_of_getElem? hz))) rfl ⟨_, rfl, rfl⟩ ?_
      refine L.pickF rfl rfl rfl rfl trivial ?_
      exact L.nil fun a w hh => hh.cutK 8 rfl
    · refine L.pass rfl rfl rfl ⟨_, _, rfl, rfl, rfl⟩ ?_
      refine L.pass rfl rfl rfl ⟨_, _, rfl, rfl, rfl⟩ ?_
      refine L.pass rfl rfl rfl ⟨_, _, rfl, rfl, rfl⟩ ?_
      refine L.pass rfl rfl rfl ⟨_, _, rfl, rfl, rfl⟩ ?_
      refine L.pass rfl rfl rfl ⟨_, _, rfl, rfl, rfl⟩ ?_
      refine L.pass rfl rfl rfl ⟨_, _, rfl, rfl, rfl⟩ ?_
      refine L.pass rfl rfl rfl ⟨_, _, rfl, rfl, rfl⟩ ?_
      refine L.pass rfl rfl rfl ⟨_, _, rfl, rfl, rfl⟩ ?_
      refine L.pickT rfl rfl rfl rfl trivial ?_
      exact L.nil fun a w hh => hh.cutK 8 rfl
    refine L.nil ?_
    refine C.next ?_
    refine C.cond rfl (fun hc2 => ?_) (fun hc2 => ?_)
    · refine C.seq ?_
      refine C.region [(false,0)] rfl ?_
      refine L.assign rfl rfl rfl trivial ?_
      refine L.nil ?_
      refine C.next ?_
      refine C.ret ?_
      refine C.blockRet ?_
      refine C.thenRet ?_
      refine C.thenRet ?_
      refine C.blockRet ?_
      refine C.thenRet ?_
      exact leave (vs := [_]) rfl rfl rfl ⟨rfl, trivial⟩ (fun D hD => by show Value.bool _ = _; rw [pf_no hx hk hc2])
    · refine C.skip ?_
      refine C.blockEnd ?_
      refine C.next ?_
      refine C.region [(false,0),(false,1),(false,2)] rfl ?_
      refine L.move rfl rfl rfl trivial ?_
      refine L.add rfl rfl rfl (by simp only [inK]; omega) rfl trivial ?_
      refine L.assign rfl rfl rfl trivial ?_
      refine L.nil ?_
      exact C.againR 21 (k + 1) ⟨by omega, by rw [List.range_succ, List.all_append, h2, List.all_cons, pf_yes hx hc2]; rfl⟩ (by omega) ⟨(by first | rfl | (show some (Value.int _ _) = some (Value.int _ _); congr 2; omega)), trivial⟩ rfl rfl (List.Sublist.refl _) (ds_same)
  · obtain rfl : k = l.length := by omega
    refine C.exit ?_
    refine C.thenExit ?_
    refine C.thenExit ?_
    refine C.blockExit ?_
    refine C.next ?_
    refine C.seq ?_
    refine C.region [(false,0)] rfl ?_
    refine L.assign rfl rfl rfl trivial ?_
    refine L.nil ?_
    refine C.next ?_
    refine C.ret ?_
    exact leave (vs := [_]) rfl rfl rfl ⟨rfl, trivial⟩ (fun D hD => by show Value.bool _ = _; rw [isPf, h2])
theorem GroupR_ok (yv tv : Value) (y : YardD) (t : List Pt) (left from_ : Nat) (D : Data) (hy : YardIs D yv y) (ht : Sl D RP 3 tv t) (hyo : YOk y) (hlen : t.length = y.chairs.length) (hb : ∀ p ∈ t, Bits1 p) (_hl : left < 128) (hf : from_ < 7) : Fn Try.prog 85 #[yv, tv, .int .i64 (left : Int), .int .i64 (from_ : Int)] D (fun _ v => v = .int .i64 (rndK (fitB y t) left t.length (2 ^ from_) t.length : Int)) := by
  have hy0 := hy
  have hn7 := hyo.len
  have hp2 := pow_lt7 hf
  obtain ⟨cv, qv, rfl, hc, hq⟩ := hy
  have htl := ht.len
  refine enter 61 Try.func85 rfl rfl rfl rfl fun h0 => ?_
  refine C.seq ?_
  refine C.region [(false,0),(false,1)] rfl ?_
  refine L.boxD rfl rfl rfl rfl trivial (fun q1 E1 hE1 hB1 => ?_)
  refine L.assign rfl rfl rfl trivial ?_
  refine L.nil ?_
  refine C.next ?_
  refine C.seq ?_
  refine C.region [(false,0),(false,1),(false,2),(false,3)] rfl ?_
  refine L.move rfl rfl rfl trivial ?_
  refine L.convI rfl Try.underlying3 Try.underlying88 rfl (by simp only [inK]; omega) rfl trivial ?_
  refine L.shl1U rfl rfl rfl (by omega) rfl trivial ?_
  refine L.assign rfl rfl rfl trivial ?_
  refine L.nil ?_
  refine C.next ?_
  refine C.seq ?_
  refine C.seq ?_
  refine C.region [(false,0)] rfl ?_
  refine L.assign rfl rfl rfl trivial ?_
  refine L.nil ?_
  refine C.next ?_
  refine C.block ?_
  refine C.loopC (γ := Nat) (fun i => t.length - i) (fun i => i ≤ t.length) (fun i => [(10, .int .i64 (i : Int)), (9, .int .i64 (rndK (fitB y t) left t.length (2 ^ from_) i : Int))]) [(8, _), (4, _), (1, _), (2, _)] (fun i => [E1, D]) 0 (by omega) ⟨(by first | rfl | (show some (Value.int _ _) = some (Value.int _ _); congr 2; omega)), (by first | rfl | (show some (Value.int _ _) = some (Value.int _ _); congr 2; omega)), trivial⟩ ⟨rfl, rfl, rfl, rfl, trivial⟩ (ds_same) ?_
  rintro i h1
  refine C.seq ?_
  refine C.seq ?_
  refine C.region [(false,0),(false,1),(false,2),(false,3)] rfl ?_
  refine L.move rfl rfl rfl trivial ?_
  refine L.move rfl rfl rfl trivial ?_
  refine L.len rfl Try.underlying26 rfl ht rfl rfl trivial ?_
  refine L.lss rfl rfl rfl rfl trivial ?_
  refine L.nil ?_
  refine C.next ?_
  refine C.condD rfl (fun hc1 => ?_) (fun hc1 => ?_)
  · refine C.skip ?_
    refine C.next ?_
    refine C.seq ?_
    refine C.block ?_
    refine C.seq ?_
    refine C.region [(false,0)] rfl ?_
    refine L.assign rfl rfl rfl trivial ?_
    refine L.nil ?_
    refine C.next ?_
    refine C.block ?_
    refine C.loopC (γ := Nat) (fun a => t.length - a) (fun a => a ≤ t.length) (fun a => [(11, .int .i64 (a : Int)), (9, .int .i64 (rowK (fitB y t) left t.length (rndK (fitB y t) left t.length (2 ^ from_) i) a : Int))]) [(19, _), (18, _), (17, _), (16, _), (10, _), (8, _), (4, _), (1, _), (2, _)] (fun a => [E1, D]) 0 (by omega) ⟨(by first | rfl | (show some (Value.int _ _) = some (Value.int _ _); congr 2; omega)), (by first | rfl | (show some (Value.int _ _) = some (Value.int _ _); congr 2; omega)), trivial⟩ ⟨rfl, rfl, rfl, rfl, rfl, rfl, rfl, rfl, rfl, trivial⟩ (ds_same) ?_
    rintro a h2
    refine C.seq ?_
    refine C.seq ?_
    refine C.region [(false,0),(false,1),(false,2),(false,3)] rfl ?_
    refine L.move rfl rfl rfl trivial ?_
    refine L.move rfl rfl rfl trivial ?_
    refine L.len rfl Try.underlying26 rfl ht rfl rfl trivial ?_
    refine L.lss rfl rfl rfl rfl trivial ?_
    refine L.nil ?_
    refine C.next ?_
    refine C.condD rfl (fun hc2 => ?_) (fun hc2 => ?_)
    · have ha : a < t.length := by omega
      have hg2 := rnd_lt (f := fitB y t) (left := left) (n := t.length) hp2 (by omega) i
      refine C.skip ?_
      refine C.next ?_
      refine C.seq ?_
      refine C.block ?_
      refine C.seq ?_
      refine C.region [(false,0)] rfl ?_
      refine L.assign rfl rfl rfl trivial ?_
      refine L.nil ?_
      refine C.next ?_
      refine C.block ?_
      refine C.loopC (γ := Nat) (fun b => t.length - b) (fun b => b ≤ t.length) (fun b => [(12, .int .i64 (b : Int)), (9, .int .i64 (colK (fitB y t) left a (rowK (fitB y t) left t.length (rndK (fitB y t) left t.length (2 ^ from_) i) a) b : Int))]) [(25, _), (24, _), (23, _), (22, _), (11, _), (19, _), (18, _), (17, _), (16, _), (10, _), (8, _), (4, _), (1, _), (2, _)] (fun b => [E1, D]) 0 (by omega) ⟨(by first | rfl | (show some (Value.int _ _) = some (Value.int _ _); congr 2; omega)), (by first | rfl | (show some (Value.int _ _) = some (Value.int _ _); congr 2; omega)), trivial⟩ ⟨rfl, rfl, rfl, rfl, rfl, rfl, rfl, rfl, rfl, rfl, rfl, rfl, rfl, rfl, trivial⟩ (ds_same) ?_
      rintro b h3
      refine C.seq ?_
      refine C.seq ?_
      refine C.region [(false,0),(false,1),(false,2),(false,3)] rfl ?_
      refine L.move rfl rfl rfl trivial ?_
      refine L.move rfl rfl rfl trivial ?_
      refine L.len rfl Try.underlying26 rfl ht rfl rfl trivial ?_
      refine L.lss rfl rfl rfl rfl trivial ?_
      refine L.nil ?_
      refine C.next ?_
      refine C.condD rfl (fun hc3 => ?_) (fun hc3 => ?_)
      · have hb2 : b < t.length := by omega
        have hg4 := rowK_lt (f := fitB y t) (left := left) hg2 (n := t.length) (by omega) a
        have hg3 := colK_lt (f := fitB y t) (left := left) (a := a) hg4 b (by omega)
        have hp3 := pow_lt7 (show b < 7 by omega)
        refine C.skip ?_
        refine C.next ?_
        refine C.seq ?_
        refine C.block ?_
        refine C.seq ?_
        refine C.region [(false,0),(false,1),(false,2),(false,3),(false,4),(false,5),(false,6),(false,7),(false,8),(false,9),(false,10),(false,11),(false,12),(false,13),(false,14),(false,15),(false,16),(false,17),(false,18),(false,19),(false,20)] rfl ?_
        refine L.move rfl rfl rfl trivial ?_
        refine L.move rfl rfl rfl trivial ?_
        refine L.convI rfl Try.underlying3 Try.underlying88 rfl (by simp only [inK]; omega) rfl trivial ?_
        refine L.shrN rfl rfl rfl (by omega) rfl trivial ?_
        refine L.rem rfl rfl rfl (Int.natCast_nonneg _) (by omega) (by rw [bit_mod]; split <;> simp only [inK] <;> omega) rfl trivial ?_
        refine L.eql rfl rfl rfl rfl trivial ?_
        refine L.move rfl rfl rfl trivial ?_
        refine' L.and [(false,7),(false,8),(false,9),(false,10),(false,11),(false,12),(false,13)] [(false,14),(false,15),(false,16),(false,17),(false,18),(false,19),(false,20)] (s := 40) (p := 47) rfl rfl (fun hg1 => ?_) (fun hg1 => ?_) ?_
        rotate_left
        · refine L.move rfl rfl rfl ⟨_, rfl, rfl⟩ ?_
          refine L.move rfl rfl rfl ⟨_, rfl, rfl⟩ ?_
          refine L.convI rfl Try.underlying3 Try.underlying88 rfl (by simp only [inK]; omega) rfl ⟨_, rfl, rfl⟩ ?_
          refine L.shrN rfl rfl rfl (by omega) rfl ⟨_, rfl, rfl⟩ ?_
          refine L.rem rfl rfl rfl (Int.natCast_nonneg _) (by omega) (by rw [bit_mod]; split <;> simp only [inK] <;> omega) rfl ⟨_, rfl, rfl⟩ ?_
          refine L.eql rfl rfl rfl rfl ⟨_, rfl, rfl⟩ ?_
          refine L.pickT rfl rfl rfl rfl trivial ?_
          exact L.nil fun a w hh => hh.cutK 6 rfl
        · refine L.pass rfl rfl rfl ⟨_, _, rfl, rfl, rfl⟩ ?_
          refine L.pass rfl rfl rfl ⟨_, _, rfl, rfl, rfl⟩ ?_
          refine L.pass rfl rfl rfl ⟨_, _, rfl, rfl, rfl⟩ ?_
          refine L.pass rfl rfl rfl ⟨_, _, rfl, rfl, rfl⟩ ?_
          refine L.pass rfl rfl rfl ⟨_, _, rfl, rfl, rfl⟩ ?_
          refine L.pass rfl rfl rfl ⟨_, _, rfl, rfl, rfl⟩ ?_
          refine L.pickF rfl rfl rfl rfl trivial ?_
          exact L.nil fun a w hh => hh.cutK 6 rfl
        refine L.move rfl rfl rfl trivial ?_
        refine' L.and [(false,15),(false,16),(false,17),(false,18),(false,19),(false,20)] [] (s := 48) (p := 54) rfl rfl (fun hg2 => ?_) (fun hg2 => ?_) ?_
        rotate_left
        · refine L.loadDW rfl Tf.a25 rfl hB1 (by first | simp | assumption) Tf.s25 List.not_mem_nil rfl ⟨_, rfl, rfl⟩ ?_
          refine L.move rfl rfl rfl ⟨_, rfl, rfl⟩ ?_
          refine L.move rfl rfl rfl ⟨_, rfl, rfl⟩ ?_
          refine L.move rfl rfl rfl ⟨_, rfl, rfl⟩ ?_
          refine L.callV rfl rfl rfl (fun D1 hD1 => Fits_ok _ _ y t a b _ (hy0.up (hD1 _ (by simp))) (ht.up RP.up (hD1 _ (by simp))) hyo hlen hb ha hb2) rfl ⟨_, rfl, rfl⟩ ?_
          refine L.pickT rfl rfl rfl rfl trivial ?_
          exact L.nil fun a w hh => hh.cutK 5 rfl
        · refine L.pass rfl rfl rfl ⟨_, _, rfl, rfl, rfl⟩ ?_
          refine L.pass rfl rfl rfl ⟨_, _, rfl, rfl, rfl⟩ ?_
          refine L.pass rfl rfl rfl ⟨_, _, rfl, rfl, rfl⟩ ?_
          refine L.pass rfl rfl rfl ⟨_, _, rfl, rfl, rfl⟩ ?_
          refine L.pass rfl rfl rfl ⟨_, _, rfl, rfl, rfl⟩ ?_
          refine L.pickF rfl rfl rfl rfl trivial ?_
          exact L.nil fun a w hh => hh.cutK 5 rfl
        refine L.nil ?_
        refine C.next ?_
        refine C.cond rfl (fun hc4 => ?_) (fun hc4 => ?_)
        · refine C.region [(false,0),(false,1),(false,2),(false,3),(false,4),(false,5)] rfl ?_
          refine L.move rfl rfl rfl trivial ?_
          refine L.move rfl rfl rfl trivial ?_
          refine L.convI rfl Try.underlying3 Try.underlying88 rfl (by simp only [inK]; omega) rfl trivial ?_
          refine L.shl1U rfl rfl rfl (by omega) rfl trivial ?_
          refine L.orB rfl rfl rfl (by omega) (by omega) rfl trivial ?_
          refine L.assign rfl rfl rfl trivial ?_
          refine L.nil ?_
          refine C.blockEnd ?_
          refine C.next ?_
          refine C.region [(false,0),(false,1),(false,2)] rfl ?_
          refine L.move rfl rfl rfl trivial ?_
          refine L.add rfl rfl rfl (by simp only [inK]; omega) rfl trivial ?_
          refine L.assign rfl rfl rfl trivial ?_
          refine L.nil ?_
          exact C.againR 25 (b + 1) (by omega) (by omega) ⟨(by first | rfl | (show some (Value.int _ _) = some (Value.int _ _); congr 2; omega)), (by rw [col_yes hc4]; rfl), trivial⟩ rfl rfl (List.Sublist.refl _) (ds_same)
        · refine C.skip ?_
          refine C.blockEnd ?_
          refine C.next ?_
          refine C.region [(false,0),(false,1),(false,2)] rfl ?_
          refine L.move rfl rfl rfl trivial ?_
          refine L.add rfl rfl rfl (by simp only [inK]; omega) rfl trivial ?_
          refine L.assign rfl rfl rfl trivial ?_
          refine L.nil ?_
          exact C.againR 19 (b + 1) (by omega) (by omega) ⟨(by first | rfl | (show some (Value.int _ _) = some (Value.int _ _); congr 2; omega)), (by rw [col_no hc4]; rfl), trivial⟩ rfl rfl (List.Sublist.refl _) (ds_same)
      · obtain rfl : b = t.length := by omega
        rw [← row_succ]
        refine C.exit ?_
        refine C.thenExit ?_
        refine C.thenExit ?_
        refine C.blockExit ?_
        refine C.blockEnd ?_
        refine C.next ?_
        refine C.region [(false,0),(false,1),(false,2)] rfl ?_
        refine L.move rfl rfl rfl trivial ?_
        refine L.add rfl rfl rfl (by simp only [inK]; omega) rfl trivial ?_
        refine L.assign rfl rfl rfl trivial ?_
        refine L.nil ?_
        exact C.againR 14 (a + 1) (by omega) (by omega) ⟨(by first | rfl | (show some (Value.int _ _) = some (Value.int _ _); congr 2; omega)), (by show some (Value.int _ _) = some (Value.int _ _); congr 2), trivial⟩ rfl rfl (List.Sublist.refl _) (ds_same)
    · obtain rfl : a = t.length := by omega
      rw [← rnd_succ]
      refine C.exit ?_
      refine C.thenExit ?_
      refine C.thenExit ?_
      refine C.blockExit ?_
      refine C.blockEnd ?_
      refine C.next ?_
      refine C.region [(false,0),(false,1),(false,2)] rfl ?_
      refine L.move rfl rfl rfl trivial ?_
      refine L.add rfl rfl rfl (by simp only [inK]; omega) rfl trivial ?_
      refine L.assign rfl rfl rfl trivial ?_
      refine L.nil ?_
      exact C.againR 14 (i + 1) (by omega) (by omega) ⟨(by first | rfl | (show some (Value.int _ _) = some (Value.int _ _); congr 2; omega)), (by show some (Value.int _ _) = some (Value.int _ _); congr 2), trivial⟩ rfl rfl (List.Sublist.refl _) (ds_same)
  · obtain rfl : i = t.length := by omega
    refine C.exit ?_
    refine C.thenExit ?_
    refine C.thenExit ?_
    refine C.blockExit ?_
    refine C.next ?_
    refine C.seq ?_
    refine C.region [(false,0),(false,1)] rfl ?_
    refine L.move rfl rfl rfl trivial ?_
    refine L.assign rfl rfl rfl trivial ?_
    refine L.nil ?_
    refine C.next ?_
    refine C.ret ?_
    exact leave (vs := [_]) rfl rfl rfl ⟨rfl, trivial⟩ (fun D hD => rfl)
theorem GroupR_ok2 (yv tv : Value) (y : YardD) (t : List Pt) (left from_ : Nat) (D : Data) (hy : YardIs D yv y) (ht : Sl D RP 3 tv t) (hyo : YOk y) (hlen : t.length = y.chairs.length) (hb : ∀ p ∈ t, Bits1 p) (hl : left < 128) (hf : from_ < 7) (hbit : left.testBit from_ = true) (hin : ∀ x, left.testBit x = true → x < t.length) : Fn Try.prog 85 #[yv, tv, .int .i64 (left : Int), .int .i64 (from_ : Int)] D (fun _ v => v = .int .i64 (groupB (sceneD y t).fits left from_ : Int)) := by
  have h7 : t.length ≤ 7 := by have := hyo.len; omega
  rw [← group_is hlen h7 hf hbit hl hin]
  exact GroupR_ok yv tv y t left from_ D hy ht hyo hlen hb hl hf
theorem BoundR_ok (yv tv lv : Value) (y : YardD) (t : List Pt) (l : List Int) (D : Data) (hy : YardIs D yv y) (ht : Sl D RP 3 tv t) (hv : Sl D RI 1 lv l) (hyo : YOk y) (hlen : t.length = y.chairs.length) (hb : ∀ p ∈ t, Bits1 p) (hp : isPf t l = true) : Fn Try.prog 38 #[yv, tv, lv] D (fun _ v => v = .int .i64 (boundB (sceneD y t) (orP l) : Int)) := by
  have hy0 := hy
  have hn7 := hyo.len
  obtain ⟨cv, qv, rfl, hc, hq⟩ := hy
  have htl := ht.len
  have hvl := hv.len
  have hbr := br_lt t (show t.length ≤ 7 by omega)
  obtain ⟨hpx, hpl, hps⟩ := pf_facts (show t.length ≤ 7 by omega) hp
  have hop := orP_lt (fun x hx => (hpx x hx).2.1)
  have hblB := bl_len (bset (brokB t) t.length)
  have honM := onesB_mono (bset (brokB t) t.length) (orP l)
  have honB := onesB_le (bset (brokB t) t.length)
  have hopl := onesB_le (orP l)
  have hodl := oddB_le (sceneD y t).fits (dif (bset (brokB t) t.length) (orP l)) (by have := dif_le (bset (brokB t) t.length) (orP l); omega)
  have hol2 := onesB_le (dif (bset (brokB t) t.length) (orP l))
  have hwl : whole t ≤ t.length := List.length_filter_le _ _
  refine enter 84 Try.func38 rfl rfl rfl rfl fun h0 => ?_
  refine C.seq ?_
  refine C.region [(false,0),(false,1)] rfl ?_
  refine L.boxD rfl rfl rfl rfl trivial (fun q1 E1 hE1 hB1 => ?_)
  refine L.assign rfl rfl rfl trivial ?_
  refine L.nil ?_
  refine C.next ?_
  refine C.seq ?_
  refine C.region [(false,0)] rfl ?_
  refine L.assign rfl rfl rfl trivial ?_
  refine L.nil ?_
  refine C.next ?_
  refine C.seq ?_
  refine C.seq ?_
  refine C.region [(false,0)] rfl ?_
  refine L.assign rfl rfl rfl trivial ?_
  refine L.nil ?_
  refine C.next ?_
  refine C.block ?_
  refine C.loopC (γ := Nat) (fun i => t.length - i) (fun i => i ≤ t.length) (fun i => [(7, .int .i64 (bset (brokB t) i : Int)), (8, .int .i64 (i : Int))]) [(6, _), (3, _), (1, _), (2, _)] (fun i => [E1, D]) 0 (by omega) ⟨(by first | rfl | (show some (Value.int _ _) = some (Value.int _ _); congr 2; omega)), (by first | rfl | (show some (Value.int _ _) = some (Value.int _ _); congr 2; omega)), trivial⟩ ⟨rfl, rfl, rfl, rfl, trivial⟩ (ds_same) ?_
  rintro i h1
  refine C.seq ?_
  refine C.seq ?_
  refine C.region [(false,0),(false,1),(false,2),(false,3)] rfl ?_
  refine L.move rfl rfl rfl trivial ?_
  refine L.move rfl rfl rfl trivial ?_
  refine L.len rfl Try.underlying26 rfl ht rfl rfl trivial ?_
  refine L.lss rfl rfl rfl rfl trivial ?_
  refine L.nil ?_
  refine C.next ?_
  refine C.condD rfl (fun hc1 => ?_) (fun hc1 => ?_)
  · have hi : i < t.length := by omega
    obtain ⟨z, hz⟩ : ∃ z, t[i]? = some z := ⟨_, List.getElem?_eq_getElem hi⟩
    have hp2 := pow_lt7 (show i < 7 by omega)
    have hbi := bset_lt (brokB t) i
    have hbj : 2 ^ i < 128 := hp2
    refine C.skip ?_
    refine C.next ?_
    refine C.seq ?_
    refine C.block ?_
    refine C.seq ?_
    refine C.region [(false,0),(false,1),(false,2),(false,3),(false,4),(false,5)] rfl ?_
    refine L.move rfl rfl rfl trivial ?_
    refine L.move rfl rfl rfl trivial ?_
    refine L.indexS rfl Try.underlying26 Tf.s91 rfl ht rfl (by omega) hz rfl trivial (fun b1 o1 cs1 hr1 hcl1 hA1 => ?_)
    obtain rfl : cs1 = [.int .i64 _, .int .i64 _, .int .i64 _] := hr1
    refine L.loadDW rfl Tf.a91 rfl hA1 (by first | simp | assumption) (by first | exact Tf.s91 | (simp only [ints_length, *]; exact Tf.s91)) List.not_mem_nil rfl trivial ?_
    refine L.callV rfl rfl rfl (fun D1 hD1 => IsWhole_ok z _ (hb _ (List.mem_of_getElem? hz))) rfl trivial ?_
    refine L.not rfl rfl rfl trivial ?_
    refine L.nil ?_
    refine C.next ?_
    refine C.cond rfl (fun hc2 => ?_) (fun hc2 => ?_)
    · have hwz : isWhole z = false := by simpa using hc2
      refine C.region [(false,0),(false,1),(false,2),(false,3),(false,4),(false,5)] rfl ?_
      refine L.move rfl rfl rfl trivial ?_
      refine L.move rfl rfl rfl trivial ?_
      refine L.convI rfl Try.underlying3 Try.underlying88 rfl (by simp only [inK]; omega) rfl trivial ?_
      refine L.shl1U rfl rfl rfl (by omega) rfl trivial ?_
      refine L.orB rfl rfl rfl (by omega) (by omega) rfl trivial ?_
      refine L.assign rfl rfl rfl trivial ?_
      refine L.nil ?_
      refine C.blockEnd ?_
      refine C.next ?_
      refine C.region [(false,0),(false,1),(false,2)] rfl ?_
      refine L.move rfl rfl rfl trivial ?_
      refine L.add rfl rfl rfl (by simp only [inK]; omega) rfl trivial ?_
      refine L.assign rfl rfl rfl trivial ?_
      refine L.nil ?_
      exact C.againR 21 (i + 1) (by omega) (by omega) ⟨(by rw [bset, if_pos (by rw [brok_at hz, hwz]; rfl)]; rfl), (by first | rfl | (show some (Value.int _ _) = some (Value.int _ _); congr 2; omega)), trivial⟩ rfl rfl (List.Sublist.refl _) (ds_same)
    · have hwz : isWhole z = true := by simpa using hc2
      refine C.skip ?_
      refine C.blockEnd ?_
      refine C.next ?_
      refine C.region [(false,0),(false,1),(false,2)] rfl ?_
      refine L.move rfl rfl rfl trivial ?_
      refine L.add rfl rfl rfl (by simp only [inK]; omega) rfl trivial ?_
      refine L.assign rfl rfl rfl trivial ?_
      refine L.nil ?_
      exact C.againR 15 (i + 1) (by omega) (by omega) ⟨(by rw [bset, if_neg (by rw [brok_at hz, hwz]; simp)]; rfl), (by first | rfl | (show some (Value.int _ _) = some (Value.int _ _); congr 2; omega)), trivial⟩ rfl rfl (List.Sublist.refl _) (ds_same)
  · obtain rfl : i = t.length := by omega
    refine C.exit ?_
    refine C.thenExit ?_
    refine C.thenExit ?_
    refine C.blockExit ?_
    refine C.next ?_
    refine C.seq ?_
    refine C.region [(false,0),(false,1),(false,2),(false,3)] rfl ?_
    refine L.move rfl rfl rfl trivial ?_
    refine L.call rfl rfl rfl (fun D2 hD2 => BitsR_ok (bset (brokB t) t.length) (by omega) _) rfl trivial (fun v2 D2 hD2 hp2 => ?_)
    have hb7 := hp2
    refine L.len rfl Try.underlying52 rfl (by assumption) rfl rfl trivial ?_
    refine L.assign rfl rfl rfl trivial ?_
    refine L.nil ?_
    refine C.next ?_
    refine C.seq ?_
    refine C.seq ?_
    refine C.region [(false,0)] rfl ?_
    refine L.assign rfl rfl rfl trivial ?_
    refine L.nil ?_
    refine C.next ?_
    refine C.block ?_
    refine C.loopC (γ := Nat) (fun k => l.length - k) (fun k => k ≤ l.length) (fun k => [(7, .int .i64 (dif (bset (brokB t) t.length) (orP (l.take k)) : Int)), (10, .int .i64 (k : Int))]) [(9, _), (6, _), (3, _), (1, _), (2, _)] (fun k => [D2, E1, D]) 0 (by omega) ⟨(by rw [List.take_zero, dif_zero]; rfl), (by first | rfl | (show some (Value.int _ _) = some (Value.int _ _); congr 2; omega)), trivial⟩ ⟨rfl, rfl, rfl, rfl, rfl, trivial⟩ (ds_same) ?_
    rintro k h2
    refine C.seq ?_
    refine C.seq ?_
    refine C.region [(false,0),(false,1),(false,2),(false,3)] rfl ?_
    refine L.move rfl rfl rfl trivial ?_
    refine L.move rfl rfl rfl trivial ?_
    refine L.len rfl Try.underlying52 rfl hv rfl rfl trivial ?_
    refine L.lss rfl rfl rfl rfl trivial ?_
    refine L.nil ?_
    refine C.next ?_
    refine C.condD rfl (fun hc3 => ?_) (fun hc3 => ?_)
    · have hk : k < l.length := by omega
      obtain ⟨x, hx⟩ : ∃ x, l[k]? = some x := ⟨_, List.getElem?_eq_getElem hk⟩
      obtain ⟨hx0, hx7, hxn⟩ := hpx x (List.mem_of_getElem? hx)
      have hp3 := pow_lt7 hx7
      have hdl := dif_le (bset (brokB t) t.length) (orP (l.take k))
      refine C.skip ?_
      refine C.next ?_
      refine C.seq ?_
      refine C.block ?_
      refine C.region [(false,0),(false,1),(false,2),(false,3),(false,4),(false,5),(false,6),(false,7),(false,8)] rfl ?_
      refine L.move rfl rfl rfl trivial ?_
      refine L.move rfl rfl rfl trivial ?_
      refine L.move rfl rfl rfl trivial ?_
      refine L.indexS rfl Try.underlying52 Tf.s3 rfl hv rfl (by omega) hx rfl trivial (fun b2 o2 cs2 hr2 hcl2 hA2 => ?_)
      obtain rfl : cs2 = [.int .i64 _] := hr2
      refine L.loadD1 rfl (k := 0) Tf.a3 rfl hA2 (by first | simp | assumption) rfl List.not_mem_nil rfl trivial ?_
      refine L.convI rfl Try.underlying3 Try.underlying88 rfl (by simp only [inK]; omega) rfl trivial ?_
      refine L.shl1U (n := x.toNat) rfl rfl (by show some (Value.int _ _) = some (Value.int _ _); congr 2; omega) (by omega) rfl trivial ?_
      refine L.difN rfl rfl rfl (by omega) (by omega) rfl trivial ?_
      refine L.assign rfl rfl rfl trivial ?_
      refine L.nil ?_
      refine C.blockEnd ?_
      refine C.next ?_
      refine C.region [(false,0),(false,1),(false,2)] rfl ?_
      refine L.move rfl rfl rfl trivial ?_
      refine L.add rfl rfl rfl (by simp only [inK]; omega) rfl trivial ?_
      refine L.assign rfl rfl rfl trivial ?_
      refine L.nil ?_
      exact C.againR 18 (k + 1) (by omega) (by omega) ⟨(by rw [orP_step hx, dif_or]; rfl), (by first | rfl | (show some (Value.int _ _) = some (Value.int _ _); congr 2; omega)), trivial⟩ rfl rfl (List.Sublist.refl _) (ds_same)
    · obtain rfl : k = l.length := by omega
      rw [List.take_length]
      have hdl := dif_le (bset (brokB t) t.length) (orP l)
      refine C.exit ?_
      refine C.thenExit ?_
      refine C.thenExit ?_
      refine C.blockExit ?_
      refine C.next ?_
      refine C.seq ?_
      refine C.region [(false,0)] rfl ?_
      refine L.assign rfl rfl rfl trivial ?_
      refine L.nil ?_
      refine C.next ?_
      refine C.seq ?_
      refine C.seq ?_
      refine C.region [(false,0)] rfl ?_
      refine L.assign rfl rfl rfl trivial ?_
      refine L.nil ?_
      refine C.next ?_
      refine C.block ?_
      refine C.loopC (γ := Nat × Nat × Nat) (fun g => t.length - g.1) (fun g => g.1 ≤ t.length ∧ g.2.1 < 128 ∧ (∀ x, g.2.1.testBit x = true → g.1 ≤ x ∧ x < t.length) ∧ g.2.2 + oddB (sceneD y t).fits g.2.1 = oddB (sceneD y t).fits (dif (bset (brokB t) t.length) (orP l))) (fun g => [(7, .int .i64 (g.2.1 : Int)), (11, .int .i64 (g.2.2 : Int)), (12, .int .i64 (g.1 : Int))]) [(9, _), (6, _), (3, _), (1, _), (2, _)] (fun g => [D2, E1, D]) (0, dif (bset (brokB t) t.length) (orP l), 0) ⟨by simp, by simp only; omega, fun x hx => ⟨Nat.zero_le _, br_in hx⟩, by simp⟩ ⟨(by first | rfl | (show some (Value.int _ _) = some (Value.int _ _); congr 2; omega)), (by first | rfl | (show some (Value.int _ _) = some (Value.int _ _); congr 2; omega)), (by first | rfl | (show some (Value.int _ _) = some (Value.int _ _); congr 2; omega)), trivial⟩ ⟨rfl, rfl, rfl, rfl, rfl, trivial⟩ (ds_same) ?_
      rintro ⟨i, lf, od⟩ ⟨h4, h5, h6, h8⟩
      simp only at h4 h5 h6 h8
      refine C.seq ?_
      refine C.seq ?_
      refine C.region [(false,0),(false,1),(false,2),(false,3)] rfl ?_
      refine L.move rfl rfl rfl trivial ?_
      refine L.move rfl rfl rfl trivial ?_
      refine L.len rfl Try.underlying26 rfl ht rfl rfl trivial ?_
      refine L.lss rfl rfl rfl rfl trivial ?_
      refine L.nil ?_
      refine C.next ?_
      refine C.condD rfl (fun hc4 => ?_) (fun hc4 => ?_)
      · have hi : i < t.length := by omega
        refine C.skip ?_
        refine C.next ?_
        refine C.seq ?_
        refine C.block ?_
        refine C.seq ?_
        refine C.seq ?_
        refine C.region [(false,0),(false,1),(false,2),(false,3),(false,4),(false,5)] rfl ?_
        refine L.move rfl rfl rfl trivial ?_
        refine L.move rfl rfl rfl trivial ?_
        refine L.convI rfl Try.underlying3 Try.underlying88 rfl (by simp only [inK]; omega) rfl trivial ?_
        refine L.shrN rfl rfl rfl (by omega) rfl trivial ?_
        refine L.rem rfl rfl rfl (Int.natCast_nonneg _) (by omega) (by rw [bit_mod]; split <;> simp only [inK] <;> omega) rfl trivial ?_
        refine L.eql rfl rfl rfl rfl trivial ?_
        refine L.nil ?_
        refine C.next ?_
        refine C.condD rfl (fun hc5 => ?_) (fun hc5 => ?_)
        · have hbit : lf.testBit i = false := by rw [bit_mod] at hc5; simpa using hc5
          refine C.exit ?_
          refine C.thenExit ?_
          refine C.blockExit ?_
          refine C.next ?_
          refine C.region [(false,0),(false,1),(false,2)] rfl ?_
          refine L.move rfl rfl rfl trivial ?_
          refine L.add rfl rfl rfl (by simp only [inK]; omega) rfl trivial ?_
          refine L.assign rfl rfl rfl trivial ?_
          refine L.nil ?_
          exact C.againR 16 (i + 1, lf, od) ⟨by simp only; omega, h5, fun x hx => odd_skip h6 hbit x hx, h8⟩ (by simp only; omega) ⟨(by first | rfl | (show some (Value.int _ _) = some (Value.int _ _); congr 2; omega)), (by first | rfl | (show some (Value.int _ _) = some (Value.int _ _); congr 2; omega)), (by first | rfl | (show some (Value.int _ _) = some (Value.int _ _); congr 2; omega)), trivial⟩ rfl rfl (List.Sublist.refl _) (ds_same)
        · have hbit : lf.testBit i = true := by rw [bit_mod] at hc5; simpa using hc5
          have h7 : ∀ x, lf.testBit x = true → x < t.length := fun x hx => (h6 x hx).2
          have hgl := group_lt (scene_ok' hlen (by omega)).row h5 (show i < 7 by omega) (F := (sceneD y t).fits)
          have hdl := dif_le lf (groupB (sceneD y t).fits lf i)
          have hol := onesB_le (groupB (sceneD y t).fits lf i)
          refine C.skip ?_
          refine C.next ?_
          refine C.seq ?_
          refine C.region [(false,0),(false,1),(false,2),(false,3),(false,4),(false,5)] rfl ?_
          refine L.loadDW rfl Tf.a25 rfl hB1 (by first | simp | assumption) Tf.s25 List.not_mem_nil rfl trivial ?_
          refine L.move rfl rfl rfl trivial ?_
          refine L.move rfl rfl rfl trivial ?_
          refine L.move rfl rfl rfl trivial ?_
          refine L.callV rfl rfl rfl (fun D3 hD3 => GroupR_ok2 _ _ y t lf i _ (hy0.up (hD3 _ (by simp))) (ht.up RP.up (hD3 _ (by simp))) hyo hlen hb h5 (by omega) hbit h7) rfl trivial ?_
          refine L.assign rfl rfl rfl trivial ?_
          refine L.nil ?_
          refine C.next ?_
          refine C.seq ?_
          refine C.region [(false,0),(false,1),(false,2),(false,3)] rfl ?_
          refine L.move rfl rfl rfl trivial ?_
          refine L.move rfl rfl rfl trivial ?_
          refine L.difN rfl rfl rfl (by first | omega | (simp only; omega)) (by first | omega | (simp only; omega)) rfl trivial ?_
          refine L.assign rfl rfl rfl trivial ?_
          refine L.nil ?_
          refine C.next ?_
          refine C.region [(false,0),(false,1),(false,2),(false,3),(false,4),(false,5),(false,6)] rfl ?_
          refine L.move rfl rfl rfl trivial ?_
          refine L.move rfl rfl rfl trivial ?_
          refine L.call rfl rfl rfl (fun D4 hD4 => BitsR_ok (groupB (sceneD y t).fits lf i) hgl _) rfl trivial (fun v4 D4 hD4 hp4 => ?_)
          have hb8 := hp4
          refine L.len rfl Try.underlying52 rfl (by assumption) rfl rfl trivial ?_
          refine L.rem rfl rfl rfl (by omega) (by omega) (by simp only [inK]; omega) rfl trivial ?_
          refine L.add rfl rfl rfl (by simp only [inK]; omega) rfl trivial ?_
          refine L.assign rfl rfl rfl trivial ?_
          refine L.nil ?_
          refine C.blockEnd ?_
          refine C.next ?_
          refine C.region [(false,0),(false,1),(false,2)] rfl ?_
          refine L.move rfl rfl rfl trivial ?_
          refine L.add rfl rfl rfl (by simp only [inK]; omega) rfl trivial ?_
          refine L.assign rfl rfl rfl trivial ?_
          refine L.nil ?_
          exact C.againR 33 (i + 1, dif lf (groupB (sceneD y t).fits lf i), od + onesB (groupB (sceneD y t).fits lf i) % 2) ⟨by simp only; omega, by simp only; omega, fun x hx => odd_go h6 x hx, by simp only; rw [← h8, odd_at h6 hbit]; omega⟩ (by simp only; omega) ⟨(by first | rfl | (show some (Value.int _ _) = some (Value.int _ _); congr 2; omega)), (by show some (Value.int _ _) = some (Value.int _ _); congr 2; simp only [bl_len]; omega), (by first | rfl | (show some (Value.int _ _) = some (Value.int _ _); congr 2; omega)), trivial⟩ rfl rfl (List.Sublist.refl _) (fun D h => ⟨D, List.Mem.tail _ (h), Le.refl D⟩)
      · obtain rfl : i = t.length := by omega
        have hz0 := odd_end h6
        subst hz0
        refine C.exit ?_
        refine C.thenExit ?_
        refine C.thenExit ?_
        refine C.blockExit ?_
        refine C.next ?_
        refine C.seq ?_
        refine C.region [(false,0),(false,1),(false,2),(false,3),(false,4),(false,5),(false,6),(false,7),(false,8),(false,9),(false,10)] rfl ?_
        refine L.move rfl rfl rfl trivial ?_
        refine L.callV rfl rfl rfl (fun D5 hD5 => Whole_ok _ t _ (ht.up RP.up (hD5 _ (by simp))) hb) rfl trivial ?_
        refine L.move rfl rfl rfl trivial ?_
        refine L.move rfl rfl rfl trivial ?_
        refine L.len rfl Try.underlying52 rfl (by assumption) rfl rfl trivial ?_
        refine L.add rfl rfl rfl (by simp only [inK]; omega) rfl trivial ?_
        refine L.move rfl rfl rfl trivial ?_
        refine L.sub rfl rfl rfl (by simp only [inK]; omega) rfl trivial ?_
        refine L.quo rfl rfl rfl (by simp only; omega) (by omega) (by simp only [inK]; omega) rfl trivial ?_
        refine L.add rfl rfl rfl (by simp only [inK]; omega) rfl trivial ?_
        refine L.assign rfl rfl rfl trivial ?_
        refine L.nil ?_
        refine C.next ?_
        refine C.ret ?_
        exact leave (vs := [_]) rfl rfl rfl ⟨rfl, trivial⟩ (fun D hD => by show Value.int _ _ = _; rw [bound_fin hpl h8 hodl hol2])
end Go.Fs
