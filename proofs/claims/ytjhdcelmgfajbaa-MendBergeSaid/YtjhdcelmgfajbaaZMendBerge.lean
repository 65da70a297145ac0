/- The statement MendBerge: for every input the law returns true, and each argument reads as it did. -/
import Derived.Test.YtjhdcelmgfajbaaZMendBergeM
import Derived.Test.YtjhdcelmgfajbaaZMendBergeL
import Derived.Test.YtjhdcelmgfajbaaRows
import Derived.Test.YtjhdcelmgfajbaaZMendBergeD
namespace Go.Fs
open Go.Proofs
open C7
theorem berge_in {y : YardD} {n m : Nat} (h : ((!thin y || decide (9 < (n : Int))) || decide (9 < (m : Int))) = false) : thin y = true ∧ n ≤ 9 ∧ m ≤ 9 := by
  simp only [Bool.or_eq_false_iff, Bool.not_eq_false', decide_eq_false_iff_not] at h; exact ⟨h.1.1, by omega, by omega⟩
theorem bits128 : ∀ b, b < 128 → orP (bitsL b) = b ∧ ∀ k, k < (bitsL b).length → 0 < k → (bitsL b).getD (k - 1) 0 < (bitsL b).getD k 0 := by decide +kernel
theorem mem_bitsL {b : Nat} {x : Int} (h : x ∈ bitsL b) : 0 ≤ x ∧ x.toNat < 7 ∧ b.testBit x.toNat = true := by
  unfold bitsL bitsK at h
  obtain ⟨i, hi, rfl⟩ := List.mem_map.1 h
  rw [List.mem_filter, List.mem_range] at hi
  exact ⟨Int.natCast_nonneg _, hi⟩
/-- The chairs of a set of broken ones are a proof. -/
theorem pf_bits {t : List Pt} {b : Nat} (hb : b < 128) (hs : ∀ x, b.testBit x = true → (bset (brokB t) t.length).testBit x = true) : isPf t (bitsL b) = true := by
  unfold isPf
  rw [List.all_eq_true]
  intro k hk
  rw [List.mem_range] at hk
  have hx : (bitsL b)[k]? = some ((bitsL b).getD k 0) := by rw [List.getD_eq_getElem?_getD, List.getElem?_eq_getElem hk]; rfl
  obtain ⟨h1, h2, h3⟩ := mem_bitsL (List.mem_of_getElem? hx)
  have h4 := hs _ h3
  rw [bset_bit, Bool.and_eq_true, decide_eq_true_eq] at h4
  have hz : t[((bitsL b).getD k 0).toNat]? = some (t.getD ((bitsL b).getD k 0).toNat ⟨0, 0, 0⟩) := by rw [List.getD_eq_getElem?_getD (l := t), List.getElem?_eq_getElem h4.1]; rfl
  have h5 := h4.2
  rw [brok_at hz, Bool.not_eq_true'] at h5
  rw [pf_at hx, h5, Bool.or_false, Bool.not_eq_true', Bool.or_eq_false_iff, Bool.not_eq_false', inB_iff, Bool.and_eq_false_iff, decide_eq_false_iff_not, decide_eq_false_iff_not]
  refine ⟨by omega, ?_⟩
  rcases Nat.eq_zero_or_pos k with e | e
  · left; omega
  · right; have := (bits128 b hb).2 k hk e; omega
theorem pf_cond {t : List Pt} {l : List Int} {k : Nat} {x la : Int} (hx : l[k]? = some x) (hla : la = if k = 0 then -1 else l.getD (k - 1) 0) : (!inB x (la + 1) ((t.length : Int) - 1) || decide ((((bset (brokB t) t.length) >>> x.toNat : Nat) : Int) % 2 = 0)) = !pfAt t l k ∨ la < -1 := by
  by_cases hl : la < -1
  · exact Or.inr hl
  left
  rw [pf_at hx, Bool.not_not]
  cases e : inB x (la + 1) ((t.length : Int) - 1) with
  | true =>
    have h1 := inB_iff.1 e
    have hn : x.toNat < t.length := by omega
    have hz : t[x.toNat]? = some (t.getD x.toNat ⟨0, 0, 0⟩) := by rw [List.getD_eq_getElem?_getD, List.getElem?_eq_getElem hn]; rfl
    have h0 : inB x 0 ((t.length : Int) - 1) = true := inB_iff.2 ⟨by omega, h1.2⟩
    have h2 : (decide (0 < (k : Int)) && decide (x ≤ l.getD (k - 1) 0)) = false := by
      rw [Bool.and_eq_false_iff, decide_eq_false_iff_not, decide_eq_false_iff_not]
      by_cases hk : k = 0
      · left; omega
      · right; rw [if_neg hk] at hla; omega
    rw [h0, h2, bit_mod, bset_bit, brok_at hz]
    have hd : decide (x.toNat < t.length) = true := by simpa using hn
    rw [hd]
    cases isWhole (t.getD x.toNat ⟨0, 0, 0⟩) <;> rfl
  | false =>
    have h1 : ¬ (la + 1 ≤ x ∧ x ≤ (t.length : Int) - 1) := fun h => by rw [inB_iff.2 h] at e; cases e
    cases e0 : inB x 0 ((t.length : Int) - 1) with
    | false => rfl
    | true =>
      have h0 := inB_iff.1 e0
      have hk : ¬ k = 0 := fun hk => by rw [if_pos hk] at hla; omega
      rw [if_neg hk] at hla
      rw [decide_eq_true (show (0 : Int) < (k : Int) by omega), decide_eq_true (show x ≤ l.getD (k - 1) 0 by omega)]
      rfl
/-- What ProveBerge reads is a proof. -/
theorem prf_is {t : List Pt} {l : List Int} (h7 : t.length ≤ 7) : ∀ k, k ≤ l.length → (List.range k).all (pfAt t l) = true → ∃ la, prf t.length (bset (brokB t) t.length) (l.take k) = some (orP (l.take k), la) ∧ (la = if k = 0 then -1 else l.getD (k - 1) 0) ∧ -1 ≤ la
  | 0, _, _ => ⟨-1, rfl, rfl, by omega⟩
  | k + 1, hk, h => by
    rw [List.range_succ, List.all_append, Bool.and_eq_true] at h
    obtain ⟨la, h1, h2, h3⟩ := prf_is h7 k (by omega) h.1
    obtain ⟨x, hx⟩ : ∃ x, l[k]? = some x := ⟨_, List.getElem?_eq_getElem (by omega)⟩
    have hp : pfAt t l k = true := by simpa using h.2
    have hc := (pf_cond (t := t) hx h2).resolve_right (by omega)
    rw [hp] at hc
    have hlt : ∀ x ∈ l.take k, x.toNat < 7 := fun z hz => by
      obtain ⟨j, hj⟩ := List.mem_iff_getElem?.1 hz
      rw [List.getElem?_take] at hj
      split at hj
      · rename_i hjk
        have h5 := List.all_eq_true.1 h.1 j (List.mem_range.2 hjk)
        rw [pf_at hj, Bool.not_eq_true', Bool.or_eq_false_iff, Bool.or_eq_false_iff, Bool.not_eq_false'] at h5
        have := inB_iff.1 h5.1.1
        omega
      · cases hj
    obtain ⟨z, rfl, hz7, hst, _⟩ := prf_yes h7 (orP_lt hlt) h3 hc
    refine ⟨(z : Int), by rw [prf_snoc hx, h1, orP_step hx]; exact hst, ?_, by omega⟩
    rw [if_neg (by omega), Nat.add_sub_cancel, List.getD_eq_getElem?_getD, hx]; rfl
theorem prf_eq {t : List Pt} (h7 : t.length ≤ 7) (l : List Int) : (∃ la, prf t.length (bset (brokB t) t.length) l = some (orP l, la)) ∧ isPf t l = true ∨ prf t.length (bset (brokB t) t.length) l = none ∧ isPf t l = false := by
  cases e : isPf t l with
  | true =>
    obtain ⟨la, h1, _⟩ := prf_is (l := l) h7 l.length (Nat.le_refl _) e
    rw [List.take_length] at h1
    exact Or.inl ⟨⟨la, h1⟩, rfl⟩
  | false =>
    right
    refine ⟨?_, rfl⟩
    have key : ∀ k, k ≤ l.length → (List.range k).all (pfAt t l) = false → prf t.length (bset (brokB t) t.length) l = none := by
      intro k
      induction k with
      | zero => intro _ h; cases h
      | succ k ih =>
        intro hk h
        cases e1 : (List.range k).all (pfAt t l) with
        | false => exact ih (by omega) e1
        | true =>
          rw [List.range_succ, List.all_append, e1] at h
          have hp : pfAt t l k = false := by simpa using h
          obtain ⟨la, h1, h2, h3⟩ := prf_is h7 k (by omega) e1
          obtain ⟨x, hx⟩ : ∃ x, l[k]? = some x := ⟨_, List.getElem?_eq_getElem (by omega)⟩
          have hc := (pf_cond (t := t) hx h2).resolve_right (by omega)
          rw [hp] at hc
          exact prf_no hx h1 hc
    exact key _ (Nat.le_refl _) e
theorem pb_eq {y : YardD} {t : List Pt} {l : List Int} {many : Int} (h : fault y = 0) (ht : isTruth y t = true) : proveBergeV y t l many = (isPf t l && decide ((boundB (sceneD y t) (orP l) : Int) ≤ many)) := by
  have hn := (yOk h).len
  obtain ⟨hl, _⟩ := truthOk ht
  unfold proveBergeV
  rw [play_eq h ht, if_pos rfl, ← hl]
  rcases prf_eq (show t.length ≤ 7 by omega) l with ⟨⟨la, h1⟩, h2⟩ | ⟨h1, h2⟩
  · rw [show (sceneD y t).broken = bset (brokB t) t.length from rfl, h1, h2]; rfl
  · rw [show (sceneD y t).broken = bset (brokB t) t.length from rfl, h1, h2]; rfl
/-- No set of broken chairs has a smaller bound. -/
theorem bound_ge {y : YardD} {t : List Pt} (h : fault y = 0) (ht : isTruth y t = true) {s : Nat} (hs : ∀ x, s.testBit x = true → (sceneD y t).broken.testBit x = true) : mostT y t ≤ boundB (sceneD y t) s := by
  have hn := (yOk h).len
  obtain ⟨hl, _⟩ := truthOk ht
  have hsc := scene_ok' hl (show t.length ≤ 7 by omega)
  obtain ⟨M, hM, hk⟩ := (nu_is hl (by omega)).ex
  have := berge_le (F := (sceneD y t).fits) (fun a b => by rw [fB_fits (by omega)]; exact fitB_comm y t a b) hsc.row (br_lt t (by omega)) hs (M := M) (by rw [fB_fits (by omega)]; exact hM)
  unfold mostT mostS boundB
  have hbr : (sceneD y t).broken = bset (brokB t) t.length := rfl
  rw [← hk, hbr]
  omega
theorem bound_ex {y : YardD} {t : List Pt} (h : fault y = 0) (ht : isTruth y t = true) : ∃ s, (∀ x, s.testBit x = true → (sceneD y t).broken.testBit x = true) ∧ boundB (sceneD y t) s = mostT y t := by
  have hn := (yOk h).len
  obtain ⟨hl, _⟩ := truthOk ht
  have hsc := scene_ok' hl (show t.length ≤ 7 by omega)
  obtain ⟨s, hs, hb⟩ := tutte (F := (sceneD y t).fits) (fun a b => by rw [fB_fits (by omega)]; exact fitB_comm y t a b) hsc.row _ _ (br_lt t (by omega)) (by rw [fB_fits (by omega)]; exact nu_is hl (by omega))
  refine ⟨s, hs, ?_⟩
  have h1 := bound_ge h ht hs
  have h2 : onesB (sceneD y t).broken + onesB s ≤ 2 * nuB (sceneD y t).fits y.chairs.length (sceneD y t).broken + oddB (sceneD y t).fits (dif (sceneD y t).broken s) := hb
  unfold mostT mostS boundB at h1 ⊢
  omega
theorem berge_facts {y : YardD} {t : List Pt} (h : fault y = 0) (ht : isTruth y t = true) : (bergeV y t).2.2 = 0 ∧ (bergeV y t).2.1 = ((mostT y t : Nat) : Int) ∧ isPf t (bergeV y t).1 = true ∧ boundB (sceneD y t) (orP (bergeV y t).1) = mostT y t := by
  have hn := (yOk h).len
  obtain ⟨hl, _⟩ := truthOk ht
  obtain ⟨s, hs, hb⟩ := bound_ex h ht
  have sub : ∀ b : Nat, ((dif b (sceneD y t).broken : Nat) : Int) = 0 ↔ ∀ x, b.testBit x = true → (sceneD y t).broken.testBit x = true := fun b => by
    constructor
    · intro e x hx
      have e0 : dif b (sceneD y t).broken = 0 := by omega
      have := congrArg (fun m => Nat.testBit m x) e0
      simp only [dif_bit, hx, Bool.true_and, Nat.zero_testBit] at this
      simpa using this
    · intro e
      have : dif b (sceneD y t).broken = 0 := Nat.eq_of_testBit_eq fun x => by
        rw [dif_bit, Nat.zero_testBit]
        cases hx : b.testBit x with
        | false => rfl
        | true => rw [e x hx]; rfl
      omega
  have hsl : s < 2 ^ y.chairs.length := Nat.lt_pow_two_of_testBit _ fun i hi => by
    cases e : s.testBit i with
    | false => rfl
    | true => have := (scene_ok' hl (by omega)).bits i (hs i e); omega
  have hP : bergeP (sceneD y t) (playV y t).1 s = true := by
    unfold bergeP; rw [play_eq h ht, hb, Bool.and_eq_true, decide_eq_true_eq, decide_eq_true_eq]
    exact ⟨(sub s).2 hs, rfl⟩
  have hfound : bergeP (sceneD y t) (playV y t).1 (bergeB y t) = true ∧ bergeB y t < 2 ^ y.chairs.length := by
    unfold bergeB
    cases e : (List.range (2 ^ y.chairs.length)).find? (bergeP (sceneD y t) (playV y t).1) with
    | none => rw [List.find?_eq_none] at e; exact absurd hP (e s (List.mem_range.2 hsl))
    | some b => exact ⟨List.find?_some e, List.mem_range.1 (List.mem_of_find?_eq_some e)⟩
  have hpn : 2 ^ y.chairs.length ≤ 2 ^ 7 := Nat.pow_le_pow_right (by omega) hn
  have e := play_eq h ht
  obtain ⟨h1, h2⟩ := hfound
  unfold bergeP at h1
  rw [Bool.and_eq_true, decide_eq_true_eq, decide_eq_true_eq, e] at h1
  have e1 : bergeV y t = (bitsL (bergeB y t), (playV y t).1, 0) := by unfold bergeV; rw [e, if_pos rfl]
  rw [e1, e]
  refine ⟨rfl, rfl, pf_bits (by omega) ((sub _).1 h1.1), ?_⟩
  rw [(bits128 _ (by omega)).1]
  have := h1.2
  simp only at this
  omega
theorem be_range {y : YardD} {t : List Pt} {l : List Int} {many : Int} (h : (decide (fault y = 0) && !isTruth y t) = true) : ((((decide ((bergeV y t).2.2 = 2) && decide (((bergeV y t).1.length : Int) = 0)) && decide ((bergeV y t).2.1 = 0)) && !proveBergeV y t l many) && true) = true := by
  unfold bergeV proveBergeV; rw [play_rng h]; rfl
theorem be_fault {y : YardD} {t : List Pt} {l : List Int} {many : Int} (h : fault y ≠ 0) : ((((decide ((bergeV y t).2.2 = fault y) && decide (((bergeV y t).1.length : Int) = 0)) && decide ((bergeV y t).2.1 = 0)) && !proveBergeV y t l many) && true) = true := by
  unfold bergeV proveBergeV; rw [play_flt h, if_neg (by simpa using h), if_neg (by simpa using h)]; simp
theorem be_ok {y : YardD} {t : List Pt} (h : fault y = 0) (ht : isTruth y t = true) : (((((decide ((bergeV y t).2.2 = 0) && decide ((bergeV y t).2.1 = ((((prs y.chairs.length y.chairs.length 0).map pI).map (makesR y t)).foldl max 0 : Nat))) && isPf t (bergeV y t).1) && decide ((boundB (sceneD y t) (orP (bergeV y t).1) : Int) = ((((prs y.chairs.length y.chairs.length 0).map pI).map (makesR y t)).foldl max 0 : Nat)))) && true) = true := by
  have hn := (yOk h).len
  obtain ⟨hl, _⟩ := truthOk ht
  obtain ⟨h1, h2, h3, h4⟩ := berge_facts h ht
  rw [h1, h2, h3, h4, most_is hl (by omega)]; simp
theorem MendBerge_ok (yv tv lv : Value) (y : YardD) (t : List Pt) (l : List Int) (many : Int) (D : Data) (hy : YardIs D yv y) (ht : Sl D RP 3 tv t) (hl : Sl D RI 1 lv l) : Fn Try.prog 4 #[yv, tv, lv, .int .i64 many] D (fun _ v => v = .bool true) := by
  have hy0 := hy
  obtain ⟨cv, qv, rfl, hc, hq⟩ := hy
  refine enter 118 Try.func4 rfl rfl rfl rfl fun h0 => ?_
  refine C.seq ?_
  refine C.region [(false,0),(false,1)] rfl ?_
  refine L.boxD rfl rfl rfl rfl trivial (fun q1 E1 hE1 hB1 => ?_)
  refine L.assign rfl rfl rfl trivial ?_
  refine L.nil ?_
  refine C.next ?_
  refine C.seq ?_
  refine C.seq ?_
  refine C.region [(false,0),(false,1),(false,2),(false,3),(false,4),(false,5),(false,6),(false,7),(false,8),(false,9),(false,10),(false,11),(false,12)] rfl ?_
  refine L.loadDW rfl Tf.a25 rfl hB1 (by first | simp | assumption) Tf.s25 List.not_mem_nil rfl trivial ?_
  refine L.callV rfl rfl rfl (fun D1 hD1 => Thin_ok _ y _ (hy0.up (hD1 _ (by simp)))) rfl trivial ?_
  refine L.not rfl rfl rfl trivial ?_
  refine L.move rfl rfl rfl trivial ?_
  refine' L.or [(false,4),(false,5),(false,6),(false,7)] [(false,8),(false,9),(false,10),(false,11),(false,12)] (s := 18) (p := 22) rfl rfl (fun hg1 => ?_) (fun hg1 => ?_) ?_
  rotate_left
  · refine L.move rfl rfl rfl ⟨_, rfl, rfl⟩ ?_
    refine L.len rfl Try.underlying26 rfl ht rfl rfl ⟨_, rfl, rfl⟩ ?_
    refine L.gtr rfl rfl rfl rfl ⟨_, rfl, rfl⟩ ?_
    refine L.pickF rfl rfl rfl rfl trivial ?_
    exact L.nil fun a w hh => hh.cutK 3 rfl
  · refine L.pass rfl rfl rfl ⟨_, _, rfl, rfl, rfl⟩ ?_
    refine L.pass rfl rfl rfl ⟨_, _, rfl, rfl, rfl⟩ ?_
    refine L.pass rfl rfl rfl ⟨_, _, rfl, rfl, rfl⟩ ?_
    refine L.pickT rfl rfl rfl rfl trivial ?_
    exact L.nil fun a w hh => hh.cutK 3 rfl
  refine L.move rfl rfl rfl trivial ?_
  refine' L.or [(false,9),(false,10),(false,11),(false,12)] [] (s := 23) (p := 27) rfl rfl (fun hg2 => ?_) (fun hg2 => ?_) ?_
  rotate_left
  · refine L.move rfl rfl rfl ⟨_, rfl, rfl⟩ ?_
    refine L.len rfl Try.underlying52 rfl hl rfl rfl ⟨_, rfl, rfl⟩ ?_
    refine L.gtr rfl rfl rfl rfl ⟨_, rfl, rfl⟩ ?_
    refine L.pickF rfl rfl rfl rfl trivial ?_
    exact L.nil fun a w hh => hh.cutK 3 rfl
  · refine L.pass rfl rfl rfl ⟨_, _, rfl, rfl, rfl⟩ ?_
    refine L.pass rfl rfl rfl ⟨_, _, rfl, rfl, rfl⟩ ?_
    refine L.pass rfl rfl rfl ⟨_, _, rfl, rfl, rfl⟩ ?_
    refine L.pickT rfl rfl rfl rfl trivial ?_
    exact L.nil fun a w hh => hh.cutK 3 rfl
  refine L.nil ?_
  refine C.next ?_
  refine C.cond rfl (fun hc1 => ?_) (fun hc1 => ?_)
  · refine C.seq ?_
    refine C.region [(false,0),(false,1)] rfl ?_
    refine L.callV rfl rfl rfl (fun D2 hD2 => awake_ok _) rfl trivial ?_
    refine L.assign rfl rfl rfl trivial ?_
    refine L.nil ?_
    refine C.next ?_
    refine C.ret ?_
    refine C.thenRet ?_
    exact leave (vs := [_]) rfl rfl rfl ⟨rfl, trivial⟩ (fun D hD => rfl)
  · obtain ⟨hthin, ht9, hl6⟩ := berge_in hc1
    obtain ⟨hlc, hlq⟩ := thin_len hthin
    refine C.skip ?_
    refine C.next ?_
    refine C.seq ?_
    refine C.region [(false,0),(false,1),(false,2),(false,3),(false,4),(false,5),(false,6),(false,7),(false,8),(false,9),(false,10),(false,11)] rfl ?_
    refine L.loadDW rfl Tf.a25 rfl hB1 (by first | simp | assumption) Tf.s25 List.not_mem_nil rfl trivial ?_
    refine L.call rfl rfl rfl (fun D3 hD3 => YardL_ok _ y _ (hy0.up (hD3 _ (by simp))) (by omega) (by omega)) rfl trivial (fun v3 D3 hD3 hp3 => ?_)
    have hw := hp3
    refine L.move rfl rfl rfl trivial ?_
    refine L.call rfl rfl rfl (fun D4 hD4 => TruthL_ok _ t _ (ht.up RP.up (hD4 _ (by simp))) (by omega)) rfl trivial (fun v4 D4 hD4 hp4 => ?_)
    have hz := hp4
    refine L.call rfl rfl rfl (fun D5 hD5 => Berge_ok _ _ y t _ (hw.up (hD5 _ (by simp))) (hz.up RP.up (hD5 _ (by simp)))) rfl trivial (fun v5 D5 hD5 hp5 => ?_)
    obtain ⟨lv2, rfl, hlv⟩ := hp5
    refine L.move rfl rfl rfl trivial ?_
    refine L.extract rfl rfl rfl rfl trivial ?_
    refine L.extract rfl rfl rfl rfl trivial ?_
    refine L.extract rfl rfl rfl rfl trivial ?_
    refine L.assign rfl rfl rfl trivial ?_
    refine L.assign rfl rfl rfl trivial ?_
    refine L.assign rfl rfl rfl trivial ?_
    refine L.nil ?_
    refine C.next ?_
    refine C.seq ?_
    refine C.region [(false,0),(false,1),(false,2),(false,3),(false,4),(false,5),(false,6),(false,7),(false,8)] rfl ?_
    refine L.loadDW rfl Tf.a25 rfl hB1 (by first | simp | assumption) Tf.s25 List.not_mem_nil rfl trivial ?_
    refine L.call rfl rfl rfl (fun D6 hD6 => YardL_ok _ y _ (hy0.up (hD6 _ (by simp))) (by omega) (by omega)) rfl trivial (fun v6 D6 hD6 hp6 => ?_)
    have hw := hp6
    refine L.move rfl rfl rfl trivial ?_
    refine L.call rfl rfl rfl (fun D7 hD7 => TruthL_ok _ t _ (ht.up RP.up (hD7 _ (by simp))) (by omega)) rfl trivial (fun v7 D7 hD7 hp7 => ?_)
    have hz := hp7
    refine L.move rfl rfl rfl trivial ?_
    refine L.call rfl rfl rfl (fun D8 hD8 => list_ok _ l _ (hl.up RI.up (hD8 _ (by simp))) (by omega)) rfl trivial (fun v8 D8 hD8 hp8 => ?_)
    have hx := hp8
    refine L.move rfl rfl rfl trivial ?_
    refine L.callV rfl rfl rfl (fun D9 hD9 => ProveBerge_ok _ _ _ y t l many _ (hw.up (hD9 _ (by simp))) (hz.up RP.up (hD9 _ (by simp))) (hx.up RI.up (hD9 _ (by simp)))) rfl trivial ?_
    refine L.assign rfl rfl rfl trivial ?_
    refine L.nil ?_
    refine C.next ?_
    refine C.seq ?_
    refine C.region [(false,0),(false,1),(false,2)] rfl ?_
    refine L.loadDW rfl Tf.a25 rfl hB1 (by first | simp | assumption) Tf.s25 List.not_mem_nil rfl trivial ?_
    refine L.callV rfl rfl rfl (fun D10 hD10 => faultL_ok _ y _ (hy0.up (hD10 _ (by simp)))) rfl trivial ?_
    refine L.assign rfl rfl rfl trivial ?_
    refine L.nil ?_
    refine C.next ?_
    refine C.seq ?_
    refine C.seq ?_
    refine C.region [(false,0),(false,1),(false,2),(false,3),(false,4),(false,5),(false,6),(false,7)] rfl ?_
    refine L.move rfl rfl rfl trivial ?_
    refine L.eql rfl rfl rfl rfl trivial ?_
    refine L.move rfl rfl rfl trivial ?_
    refine' L.and [(false,3),(false,4),(false,5),(false,6),(false,7)] [] (s := 50) (p := 55) rfl rfl (fun hg3 => ?_) (fun hg3 => ?_) ?_
    rotate_left
    · refine L.loadDW rfl Tf.a25 rfl hB1 (by first | simp | assumption) Tf.s25 List.not_mem_nil rfl ⟨_, rfl, rfl⟩ ?_
      refine L.move rfl rfl rfl ⟨_, rfl, rfl⟩ ?_
      refine L.callV rfl rfl rfl (fun D11 hD11 => IsTruth_ok _ _ y t _ (hy0.up (hD11 _ (by simp))) (ht.up RP.up (hD11 _ (by simp)))) rfl ⟨_, rfl, rfl⟩ ?_
      refine L.not rfl rfl rfl ⟨_, rfl, rfl⟩ ?_
      refine L.pickT rfl rfl rfl rfl trivial ?_
      exact L.nil fun a w hh => hh.cutK 4 rfl
    · refine L.pass rfl rfl rfl ⟨_, _, rfl, rfl, rfl⟩ ?_
      refine L.pass rfl rfl rfl ⟨_, _, rfl, rfl, rfl⟩ ?_
      refine L.pass rfl rfl rfl ⟨_, _, rfl, rfl, rfl⟩ ?_
      refine L.pass rfl rfl rfl ⟨_, _, rfl, rfl, rfl⟩ ?_
      refine L.pickF rfl rfl rfl rfl trivial ?_
      exact L.nil fun a w hh => hh.cutK 4 rfl
    refine L.nil ?_
    refine C.next ?_
    refine C.cond rfl (fun hc2 => ?_) (fun hc2 => ?_)
    · refine C.region [(false,0)] rfl ?_
      refine L.assign rfl rfl rfl trivial ?_
      refine L.nil ?_
      refine C.next ?_
      refine C.seq ?_
      refine C.seq ?_
      refine C.region [(false,0),(false,1)] rfl ?_
      refine L.move rfl rfl rfl trivial ?_
      refine L.neq rfl rfl rfl rfl trivial ?_
      refine L.nil ?_
      refine C.next ?_
      refine C.condD rfl (fun hc3 => ?_) (fun hc3 => ?_)
      · refine C.seq ?_
        refine C.region [(false,0),(false,1),(false,2),(false,3),(false,4),(false,5),(false,6),(false,7),(false,8),(false,9),(false,10),(false,11),(false,12),(false,13),(false,14),(false,15),(false,16),(false,17),(false,18),(false,19)] rfl ?_
        refine L.move rfl rfl rfl trivial ?_
        refine L.move rfl rfl rfl trivial ?_
        refine L.eql rfl rfl rfl rfl trivial ?_
        refine L.move rfl rfl rfl trivial ?_
        refine' L.and [(false,4),(false,5),(false,6),(false,7)] [(false,8),(false,9),(false,10),(false,11),(false,12),(false,13),(false,14),(false,15),(false,16),(false,17),(false,18),(false,19)] (s := 61) (p := 65) rfl rfl (fun hg4 => ?_) (fun hg4 => ?_) ?_
        rotate_left
        · refine L.move rfl rfl rfl ⟨_, rfl, rfl⟩ ?_
          refine L.len rfl Try.underlying52 rfl hlv rfl rfl ⟨_, rfl, rfl⟩ ?_
          refine L.eql rfl rfl rfl rfl ⟨_, rfl, rfl⟩ ?_
          refine L.pickT rfl rfl rfl rfl trivial ?_
          exact L.nil fun a w hh => hh.cutK 3 rfl
        · refine L.pass rfl rfl rfl ⟨_, _, rfl, rfl, rfl⟩ ?_
          refine L.pass rfl rfl rfl ⟨_, _, rfl, rfl, rfl⟩ ?_
          refine L.pass rfl rfl rfl ⟨_, _, rfl, rfl, rfl⟩ ?_
          refine L.pickF rfl rfl rfl rfl trivial ?_
          exact L.nil fun a w hh => hh.cutK 3 rfl
        refine L.move rfl rfl rfl trivial ?_
        refine' L.and [(false,9),(false,10),(false,11)] [(false,12),(false,13),(false,14),(false,15),(false,16),(false,17),(false,18),(false,19)] (s := 66) (p := 69) rfl rfl (fun hg5 => ?_) (fun hg5 => ?_) ?_
        rotate_left
        · refine L.move rfl rfl rfl ⟨_, rfl, rfl⟩ ?_
          refine L.eql rfl rfl rfl rfl ⟨_, rfl, rfl⟩ ?_
          refine L.pickT rfl rfl rfl rfl trivial ?_
          exact L.nil fun a w hh => hh.cutK 2 rfl
        · refine L.pass rfl rfl rfl ⟨_, _, rfl, rfl, rfl⟩ ?_
          refine L.pass rfl rfl rfl ⟨_, _, rfl, rfl, rfl⟩ ?_
          refine L.pickF rfl rfl rfl rfl trivial ?_
          exact L.nil fun a w hh => hh.cutK 2 rfl
        refine L.move rfl rfl rfl trivial ?_
        refine' L.and [(false,13),(false,14),(false,15)] [(false,16),(false,17),(false,18),(false,19)] (s := 70) (p := 73) rfl rfl (fun hg6 => ?_) (fun hg6 => ?_) ?_
        rotate_left
        · refine L.move rfl rfl rfl ⟨_, rfl, rfl⟩ ?_
          refine L.not rfl rfl rfl ⟨_, rfl, rfl⟩ ?_
          refine L.pickT rfl rfl rfl rfl trivial ?_
          exact L.nil fun a w hh => hh.cutK 2 rfl
        · refine L.pass rfl rfl rfl ⟨_, _, rfl, rfl, rfl⟩ ?_
          refine L.pass rfl rfl rfl ⟨_, _, rfl, rfl, rfl⟩ ?_
          refine L.pickF rfl rfl rfl rfl trivial ?_
          exact L.nil fun a w hh => hh.cutK 2 rfl
        refine L.move rfl rfl rfl trivial ?_
        refine' L.and [(false,17),(false,18)] [(false,19)] (s := 74) (p := 76) rfl rfl (fun hg7 => ?_) (fun hg7 => ?_) ?_
        rotate_left
        · refine L.callV rfl rfl rfl (fun D12 hD12 => awake_ok _) rfl ⟨_, rfl, rfl⟩ ?_
          refine L.pickT rfl rfl rfl rfl trivial ?_
          exact L.nil fun a w hh => hh.cutK 1 rfl
        · refine L.pass rfl rfl rfl ⟨_, _, rfl, rfl, rfl⟩ ?_
          refine L.pickF rfl rfl rfl rfl trivial ?_
          exact L.nil fun a w hh => hh.cutK 1 rfl
        refine L.assign rfl rfl rfl trivial ?_
        refine L.nil ?_
        refine C.next ?_
        refine C.ret ?_
        refine C.thenRet ?_
        exact leave (vs := [_]) rfl rfl rfl ⟨rfl, trivial⟩ (fun D hD => congrArg Value.bool (be_range hc2))
      · exact absurd hc3 (by decide)
    · refine C.skip ?_
      refine C.next ?_
      refine C.seq ?_
      refine C.seq ?_
      refine C.region [(false,0),(false,1)] rfl ?_
      refine L.move rfl rfl rfl trivial ?_
      refine L.neq rfl rfl rfl rfl trivial ?_
      refine L.nil ?_
      refine C.next ?_
      refine C.condD rfl (fun hc4 => ?_) (fun hc4 => ?_)
      · refine C.seq ?_
        refine C.region [(false,0),(false,1),(false,2),(false,3),(false,4),(false,5),(false,6),(false,7),(false,8),(false,9),(false,10),(false,11),(false,12),(false,13),(false,14),(false,15),(false,16),(false,17),(false,18),(false,19)] rfl ?_
        refine L.move rfl rfl rfl trivial ?_
        refine L.move rfl rfl rfl trivial ?_
        refine L.eql rfl rfl rfl rfl trivial ?_
        refine L.move rfl rfl rfl trivial ?_
        refine' L.and [(false,4),(false,5),(false,6),(false,7)] [(false,8),(false,9),(false,10),(false,11),(false,12),(false,13),(false,14),(false,15),(false,16),(false,17),(false,18),(false,19)] (s := 61) (p := 65) rfl rfl (fun hg8 => ?_) (fun hg8 => ?_) ?_
        rotate_left
        · refine L.move rfl rfl rfl ⟨_, rfl, rfl⟩ ?_
          refine L.len rfl Try.underlying52 rfl hlv rfl rfl ⟨_, rfl, rfl⟩ ?_
          refine L.eql rfl rfl rfl rfl ⟨_, rfl, rfl⟩ ?_
          refine L.pickT rfl rfl rfl rfl trivial ?_
          exact L.nil fun a w hh => hh.cutK 3 rfl
        · refine L.pass rfl rfl rfl ⟨_, _, rfl, rfl, rfl⟩ ?_
          refine L.pass rfl rfl rfl ⟨_, _, rfl, rfl, rfl⟩ ?_
          refine L.pass rfl rfl rfl ⟨_, _, rfl, rfl, rfl⟩ ?_
          refine L.pickF rfl rfl rfl rfl trivial ?_
          exact L.nil fun a w hh => hh.cutK 3 rfl
        refine L.move rfl rfl rfl trivial ?_
        refine' L.and [(false,9),(false,10),(false,11)] [(false,12),(false,13),(false,14),(false,15),(false,16),(false,17),(false,18),(false,19)] (s := 66) (p := 69) rfl rfl (fun hg9 => ?_) (fun hg9 => ?_) ?_
        rotate_left
        · refine L.move rfl rfl rfl ⟨_, rfl, rfl⟩ ?_
          refine L.eql rfl rfl rfl rfl ⟨_, rfl, rfl⟩ ?_
          refine L.pickT rfl rfl rfl rfl trivial ?_
          exact L.nil fun a w hh => hh.cutK 2 rfl
        · refine L.pass rfl rfl rfl ⟨_, _, rfl, rfl, rfl⟩ ?_
          refine L.pass rfl rfl rfl ⟨_, _, rfl, rfl, rfl⟩ ?_
          refine L.pickF rfl rfl rfl rfl trivial ?_
          exact L.nil fun a w hh => hh.cutK 2 rfl
        refine L.move rfl rfl rfl trivial ?_
        refine' L.and [(false,13),(false,14),(false,15)] [(false,16),(false,17),(false,18),(false,19)] (s := 70) (p := 73) rfl rfl (fun hg10 => ?_) (fun hg10 => ?_) ?_
        rotate_left
        · refine L.move rfl rfl rfl ⟨_, rfl, rfl⟩ ?_
          refine L.not rfl rfl rfl ⟨_, rfl, rfl⟩ ?_
          refine L.pickT rfl rfl rfl rfl trivial ?_
          exact L.nil fun a w hh => hh.cutK 2 rfl
        · refine L.pass rfl rfl rfl ⟨_, _, rfl, rfl, rfl⟩ ?_
          refine L.pass rfl rfl rfl ⟨_, _, rfl, rfl, rfl⟩ ?_
          refine L.pickF rfl rfl rfl rfl trivial ?_
          exact L.nil fun a w hh => hh.cutK 2 rfl
        refine L.move rfl rfl rfl trivial ?_
        refine' L.and [(false,17),(false,18)] [(false,19)] (s := 74) (p := 76) rfl rfl (fun hg11 => ?_) (fun hg11 => ?_) ?_
        rotate_left
        · refine L.callV rfl rfl rfl (fun D13 hD13 => awake_ok _) rfl ⟨_, rfl, rfl⟩ ?_
          refine L.pickT rfl rfl rfl rfl trivial ?_
          exact L.nil fun a w hh => hh.cutK 1 rfl
        · refine L.pass rfl rfl rfl ⟨_, _, rfl, rfl, rfl⟩ ?_
          refine L.pickF rfl rfl rfl rfl trivial ?_
          exact L.nil fun a w hh => hh.cutK 1 rfl
        refine L.assign rfl rfl rfl trivial ?_
        refine L.nil ?_
        refine C.next ?_
        refine C.ret ?_
        refine C.thenRet ?_
        exact leave (vs := [_]) rfl rfl rfl ⟨rfl, trivial⟩ (fun D hD => congrArg Value.bool (be_fault hc4))
      · have hf0 : fault y = 0 := by omega
        have hit : isTruth y t = true := by simpa [hf0] using hc2
        have hyo := yOk hf0
        have hn7 := hyo.len
        obtain ⟨hlen, hbt⟩ := truthOk hit
        obtain ⟨hbe, hbm, hbp, hbb⟩ := berge_facts hf0 hit
        refine C.skip ?_
        refine C.next ?_
        refine C.seq ?_
        refine C.seq ?_
        refine C.region [(false,0),(false,1),(false,2),(false,3),(false,4),(false,5),(false,6),(false,7),(false,8),(false,9),(false,10),(false,11),(false,12)] rfl ?_
        refine L.move rfl rfl rfl trivial ?_
        refine L.move rfl rfl rfl trivial ?_
        refine L.move rfl rfl rfl trivial ?_
        refine L.callV rfl rfl rfl (fun D14 hD14 => IsProof_ok _ _ t l _ (ht.up RP.up (hD14 _ (by simp))) (hl.up RI.up (hD14 _ (by simp))) hbt (by omega)) rfl trivial ?_
        refine L.move rfl rfl rfl trivial ?_
        refine' L.and [(false,5),(false,6),(false,7),(false,8),(false,9),(false,10),(false,11)] [(false,12)] (s := 81) (p := 88) rfl rfl (fun hg12 => ?_) (fun hg12 => ?_) ?_
        rotate_left
        · have hpf : isPf t l = true := hg12
          refine L.loadDW rfl Tf.a25 rfl hB1 (by first | simp | assumption) Tf.s25 List.not_mem_nil rfl ⟨_, rfl, rfl⟩ ?_
          refine L.move rfl rfl rfl ⟨_, rfl, rfl⟩ ?_
          refine L.move rfl rfl rfl ⟨_, rfl, rfl⟩ ?_
          refine L.callV rfl rfl rfl (fun D15 hD15 => BoundR_ok _ _ _ y t l _ (hy0.up (hD15 _ (by simp))) (ht.up RP.up (hD15 _ (by simp))) (hl.up RI.up (hD15 _ (by simp))) hyo hlen hbt hpf) rfl ⟨_, rfl, rfl⟩ ?_
          refine L.move rfl rfl rfl ⟨_, rfl, rfl⟩ ?_
          refine L.leq rfl rfl rfl rfl ⟨_, rfl, rfl⟩ ?_
          refine L.pickT rfl rfl rfl rfl trivial ?_
          exact L.nil fun a w hh => hh.cutK 6 rfl
        · refine L.pass rfl rfl rfl ⟨_, _, rfl, rfl, rfl⟩ ?_
          refine L.pass rfl rfl rfl ⟨_, _, rfl, rfl, rfl⟩ ?_
          refine L.pass rfl rfl rfl ⟨_, _, rfl, rfl, rfl⟩ ?_
          refine L.pass rfl rfl rfl ⟨_, _, rfl, rfl, rfl⟩ ?_
          refine L.pass rfl rfl rfl ⟨_, _, rfl, rfl, rfl⟩ ?_
          refine L.pass rfl rfl rfl ⟨_, _, rfl, rfl, rfl⟩ ?_
          refine L.pickF rfl rfl rfl rfl trivial ?_
          exact L.nil fun a w hh => hh.cutK 6 rfl
        refine L.neqB rfl Try.underlying4 rfl rfl rfl trivial ?_
        refine L.nil ?_
        refine C.next ?_
        refine C.cond rfl (fun hc5 => ?_) (fun hc5 => ?_)
        · rw [pb_eq hf0 hit] at hc5; simp at hc5
        · refine C.skip ?_
          refine C.next ?_
          refine C.seq ?_
          refine C.draw [] 2 [0,1,2,3,4,5] [false,true,true,true,false,false] [(false,0),(true,1),(true,2),(true,3),(false,4),(false,5)] Tf.follows (fun _ _ _ h => np_body (P := Try.prog) (fn := Try.f4) _ _ _ h) (by kernel_rfl) rfl ?_
          refine L.loadDW rfl Tf.a25 rfl hB1 (by first | simp | assumption) Tf.s25 List.not_mem_nil rfl trivial ?_
          refine L.move rfl rfl rfl trivial ?_
          refine L.loadDW rfl Tf.a25 rfl hB1 (by first | simp | assumption) Tf.s25 List.not_mem_nil rfl trivial ?_
          refine L.call rfl rfl rfl (fun D16 hD16 => Pairings_ok hn7 _ _ (hy0.up (hD16 _ (by simp)))) rfl trivial (fun v16 D16 hD16 hp16 => ?_)
          have hps := hp16
          refine L.callV rfl rfl rfl (fun D17 hD17 => Most_ok _ _ _ y t _ _ (hy0.up (hD17 _ (by simp))) (ht.up RP.up (hD17 _ (by simp))) (hps.up RLP.up (hD17 _ (by simp))) hyo hlen hbt (prs_in hn7 hlen)) rfl trivial ?_
          refine L.assign rfl rfl rfl trivial ?_
          refine L.nil ?_
          refine C.next ?_
          refine C.seq ?_
          refine C.region [(false,0),(false,1),(false,2),(false,3),(false,4),(false,5),(false,6),(false,7),(false,8),(false,9),(false,10),(false,11),(false,12),(false,13),(false,14),(false,15),(false,16),(false,17),(false,18),(false,19),(false,20),(false,21),(false,22),(false,23)] rfl ?_
          refine L.move rfl rfl rfl trivial ?_
          refine L.eql rfl rfl rfl rfl trivial ?_
          refine L.move rfl rfl rfl trivial ?_
          refine' L.and [(false,3),(false,4),(false,5),(false,6)] [(false,7),(false,8),(false,9),(false,10),(false,11),(false,12),(false,13),(false,14),(false,15),(false,16),(false,17),(false,18),(false,19),(false,20),(false,21),(false,22),(false,23)] (s := 97) (p := 101) rfl rfl (fun hg13 => ?_) (fun hg13 => ?_) ?_
          rotate_left
          · refine L.move rfl rfl rfl ⟨_, rfl, rfl⟩ ?_
            refine L.move rfl rfl rfl ⟨_, rfl, rfl⟩ ?_
            refine L.eql rfl rfl rfl rfl ⟨_, rfl, rfl⟩ ?_
            refine L.pickT rfl rfl rfl rfl trivial ?_
            exact L.nil fun a w hh => hh.cutK 3 rfl
          · refine L.pass rfl rfl rfl ⟨_, _, rfl, rfl, rfl⟩ ?_
            refine L.pass rfl rfl rfl ⟨_, _, rfl, rfl, rfl⟩ ?_
            refine L.pass rfl rfl rfl ⟨_, _, rfl, rfl, rfl⟩ ?_
            refine L.pickF rfl rfl rfl rfl trivial ?_
            exact L.nil fun a w hh => hh.cutK 3 rfl
          refine L.move rfl rfl rfl trivial ?_
          refine' L.and [(false,8),(false,9),(false,10),(false,11)] [(false,12),(false,13),(false,14),(false,15),(false,16),(false,17),(false,18),(false,19),(false,20),(false,21),(false,22),(false,23)] (s := 102) (p := 106) rfl rfl (fun hg14 => ?_) (fun hg14 => ?_) ?_
          rotate_left
          · refine L.move rfl rfl rfl ⟨_, rfl, rfl⟩ ?_
            refine L.move rfl rfl rfl ⟨_, rfl, rfl⟩ ?_
            refine L.callV rfl rfl rfl (fun D18 hD18 => IsProof_ok _ _ t (bergeV y t).1 _ (ht.up RP.up (hD18 _ (by simp))) (hlv.up RI.up (hD18 _ (by simp))) hbt (by omega)) rfl ⟨_, rfl, rfl⟩ ?_
            refine L.pickT rfl rfl rfl rfl trivial ?_
            exact L.nil fun a w hh => hh.cutK 3 rfl
          · refine L.pass rfl rfl rfl ⟨_, _, rfl, rfl, rfl⟩ ?_
            refine L.pass rfl rfl rfl ⟨_, _, rfl, rfl, rfl⟩ ?_
            refine L.pass rfl rfl rfl ⟨_, _, rfl, rfl, rfl⟩ ?_
            refine L.pickF rfl rfl rfl rfl trivial ?_
            exact L.nil fun a w hh => hh.cutK 3 rfl
          refine L.move rfl rfl rfl trivial ?_
          refine' L.and [(false,13),(false,14),(false,15),(false,16),(false,17),(false,18),(false,19)] [(false,20),(false,21),(false,22),(false,23)] (s := 107) (p := 114) rfl rfl (fun hg15 => ?_) (fun hg15 => ?_) ?_
          rotate_left
          · refine L.loadDW rfl Tf.a25 rfl hB1 (by first | simp | assumption) Tf.s25 List.not_mem_nil rfl ⟨_, rfl, rfl⟩ ?_
            refine L.move rfl rfl rfl ⟨_, rfl, rfl⟩ ?_
            refine L.move rfl rfl rfl ⟨_, rfl, rfl⟩ ?_
            refine L.callV rfl rfl rfl (fun D19 hD19 => BoundR_ok _ _ _ y t (bergeV y t).1 _ (hy0.up (hD19 _ (by simp))) (ht.up RP.up (hD19 _ (by simp))) (hlv.up RI.up (hD19 _ (by simp))) hyo hlen hbt hbp) rfl ⟨_, rfl, rfl⟩ ?_
            refine L.move rfl rfl rfl ⟨_, rfl, rfl⟩ ?_
            refine L.eql rfl rfl rfl rfl ⟨_, rfl, rfl⟩ ?_
            refine L.pickT rfl rfl rfl rfl trivial ?_
            exact L.nil fun a w hh => hh.cutK 6 rfl
          · refine L.pass rfl rfl rfl ⟨_, _, rfl, rfl, rfl⟩ ?_
            refine L.pass rfl rfl rfl ⟨_, _, rfl, rfl, rfl⟩ ?_
            refine L.pass rfl rfl rfl ⟨_, _, rfl, rfl, rfl⟩ ?_
            refine L.pass rfl rfl rfl ⟨_, _, rfl, rfl, rfl⟩ ?_
            refine L.pass rfl rfl rfl ⟨_, _, rfl, rfl, rfl⟩ ?_
            refine L.pass rfl rfl rfl ⟨_, _, rfl, rfl, rfl⟩ ?_
            refine L.pickF rfl rfl rfl rfl trivial ?_
            exact L.nil fun a w hh => hh.cutK 6 rfl
          refine L.move rfl rfl rfl trivial ?_
          refine' L.and [(false,21),(false,22)] [(false,23)] (s := 115) (p := 117) rfl rfl (fun hg16 => ?_) (fun hg16 => ?_) ?_
          rotate_left
          · refine L.callV rfl rfl rfl (fun D20 hD20 => awake_ok _) rfl ⟨_, rfl, rfl⟩ ?_
            refine L.pickT rfl rfl rfl rfl trivial ?_
            exact L.nil fun a w hh => hh.cutK 1 rfl
          · refine L.pass rfl rfl rfl ⟨_, _, rfl, rfl, rfl⟩ ?_
            refine L.pickF rfl rfl rfl rfl trivial ?_
            exact L.nil fun a w hh => hh.cutK 1 rfl
          refine L.assign rfl rfl rfl trivial ?_
          refine L.nil ?_
          refine C.next ?_
          refine C.ret ?_
          exact leave (vs := [_]) rfl rfl rfl ⟨rfl, trivial⟩ (fun D hD => congrArg Value.bool (be_ok hf0 hit))
end Go.Fs
namespace Go.Proofs.Ytjhdcelmgfajbaa.mendBerge
open Go.ChangeShapes Go.WideShapes Go.ChangeAt Go.RowKit Go.Fs
theorem own : ownKnob Try.prog.godebug = none := by kernel_rfl
set_option maxRecDepth 100000 in
theorem lifted (os : Os) (started : os.Started) (H : Type) (enc : TypeId × Value → H) :
    ReturnsInHanded {} Try.checked os 4 .any (Rows.mendBergeSpec.pre6 enc Try.prog Try.f4 Rows.mendBergeRow.domain false) (Rows.mendBergeSpec.post enc Try.prog Try.f4 false true false false) := by
  refine returnsInHanded_of_change (C := Try.checked) own started (by kernel_rfl) Try.func4
    (ChangeSpec.witness6 (enc := enc) (C := Try.checked) false ⟨#[], #[.agg #[.slice none 0 0, .int .i64 0, .slice none 0 0], .slice none 0 0, .slice none 0 0, .int .i64 0], []⟩ 8 (by kernel_rfl) (by kernel_rfl) (by kernel_rfl) (by kernel_rfl)) ?_
  intro W base args ds gs before hval0 hW hcnd _
  have hval : ∀ (j : Nat) t v, Try.f4.params[j]? = some t → args[j]? = some v → Value.okWide Try.prog W .any base t v := hval0
  have hW' := hW
  obtain ⟨p, q, hA0, hV, rfl, hfz, hnd⟩ := hW'
  have hA : DataW.TrodAll enc Try.prog W 0 (fun _ => true) true Try.f4.params.toList args.toList ds p := hA0
  rw [Try.params4] at hA hval
  obtain ⟨v0, vs0, d0, ds0, p0, q0, hargs, rfl, rfl, h0, r0⟩ := trodAll_cons hA
  obtain ⟨v1, vs1, d1, ds1, p1, q1, rfl, rfl, rfl, h1, r1⟩ := trodAll_cons r0
  obtain ⟨v2, vs2, d2, ds2, p2, q2, rfl, rfl, rfl, h2, r2⟩ := trodAll_cons r1
  obtain ⟨v3, vs3, d3, ds3, p3, q3, rfl, rfl, rfl, h3, r3⟩ := trodAll_cons r2
  obtain ⟨rfl, rfl, rfl⟩ := trodAll_nil r3
  obtain rfl : args = #[v0, v1, v2, v3] := by cases args; simp_all
  obtain ⟨rfl, rfl⟩ := trodVars_none hV
  obtain ⟨x0, hx0⟩ := open_yard Try.underlying25 cells_25 reads_yard (hval 0 25 v0 rfl rfl) h0
  obtain ⟨x1, hx1⟩ := open_slice Try.underlying26 reads_pts (hval 1 26 v1 rfl rfl) h1
  obtain ⟨x2, hx2⟩ := open_slice Try.underlying52 reads_ints (hval 2 52 v2 rfl rfl) h2
  obtain ⟨x3, rfl, rfl, rfl, w3⟩ := open_int Try.underlying3 (hval 3 3 v3 rfl rfl) h3
  have hx3 := inK_of_wf w3
  refine ((MendBerge_ok v0 v1 v2 x0 x1 x2 x3 (full W) hx0 hx1 hx2).calls (full_agrees W)).mono ?_
  rintro e W' ⟨v, D', rfl, rfl, hk⟩
  exact ⟨_, rfl, law_post (by kernel_rfl) (by kernel_rfl) rfl (by kernel_rfl) Try.underlying4 hW rfl hk⟩
theorem over : Rows.mendBergeRow.holds Try.pinned (OpenSpec.ofChange Rows.mendBergeSpec) :=
  OpenClaim.holds_of_wide 4 Try.f4 rfl rfl rfl rfl rfl rfl rfl ⟨rfl, rfl, rfl, rfl, rfl⟩ rfl rfl rfl rfl rfl (by kernel_rfl) Try.func4 (by kernel_rfl)
    (of_decide_eq_true (by kernel_rfl)) (by unfold Func.isWrapper; first | (rw [if_pos (by decide +kernel)]; kernel_rfl) | (rw [if_neg (by decide +kernel)]; exact ⟨rfl, rfl⟩))
    (fun os started H enc _ => lifted os started H enc)
theorem proved : Rows.MendBergeSaid := over
#print axioms proved
end Go.Proofs.Ytjhdcelmgfajbaa.mendBerge
