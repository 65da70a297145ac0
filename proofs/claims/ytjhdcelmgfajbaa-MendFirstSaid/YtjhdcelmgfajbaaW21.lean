/- Walks: the law MendPlays. -/
import Derived.Test.YtjhdcelmgfajbaaW20
namespace Go.Fs
open Go.Proofs
open C7
theorem thin_len {y : YardD} (h : thin y = true) : y.chairs.length ≤ 9 ∧ y.claims.length ≤ 7 := by
  simp only [thin, Bool.and_eq_true, decide_eq_true_eq] at h; omega
theorem plays_in {y : YardD} {n : Nat} (h : (!thin y || decide (9 < (n : Int))) = false) : thin y = true ∧ n ≤ 9 := by
  simp only [Bool.or_eq_false_iff, Bool.not_eq_false', decide_eq_false_iff_not] at h; exact ⟨h.1, by omega⟩
theorem fitB_comm (y : YardD) (t : List Pt) (a b : Nat) : fitB y t a b = fitB y t b a := by
  unfold fitB
  cases t[a]? <;> cases t[b]? <;> cases y.chairs[a]? <;> cases y.chairs[b]? <;> try rfl
  rename_i p q x z
  simp only
  rw [near_comm, joins_comm, show decide ((b : Int) ≠ a) = decide ((a : Int) ≠ b) from decide_eq_decide.2 ⟨fun h e => h e.symm, fun h e => h e.symm⟩]
theorem fitB_in {y : YardD} {t : List Pt} {a b : Nat} (h : fitB y t a b = true) : a < t.length ∧ b < t.length ∧ brokB t a = true ∧ brokB t b = true := by
  unfold fitB at h
  split at h
  · rename_i p q x z hp hq _ _
    simp only [joins, Bool.and_eq_true] at h
    refine ⟨(List.getElem?_eq_some_iff.1 hp).1, (List.getElem?_eq_some_iff.1 hq).1, ?_, ?_⟩
    · unfold brokB; rw [hp]; exact h.2.1.1
    · unfold brokB; rw [hq]; exact h.2.1.2
  · simp at h
theorem fB_fits {y : YardD} {t : List Pt} (h7 : t.length ≤ 7) : fB (sceneD y t).fits = fitB y t := by
  funext a b
  unfold fB sceneD
  simp only [List.getD_eq_getElem?_getD, List.getElem?_map]
  by_cases ha : a < 7
  · rw [List.getElem?_range ha, Option.map_some, Option.getD_some, bset_bit]
    cases e : fitB y t a b with
    | false => simp
    | true => simp [(fitB_in e).2.1]
  · rw [List.getElem?_eq_none (by simp; omega)]
    cases e : fitB y t a b with
    | false => simp
    | true => have := (fitB_in e).1; omega
theorem broken_bit {y : YardD} {t : List Pt} {a b : Nat} (h : fitB y t a b = true) : (sceneD y t).broken.testBit a = true ∧ (sceneD y t).broken.testBit b = true := by
  obtain ⟨h1, h2, h3, h4⟩ := fitB_in h
  simp only [sceneD, bset_bit]
  simp [h1, h2, h3, h4]
/-- The most pairs: program. -/
theorem nu_is {y : YardD} {t : List Pt} (hl : t.length = y.chairs.length) (h7 : t.length ≤ 7) : IsNu (fitB y t) (sceneD y t).broken.testBit (nuB (sceneD y t).fits y.chairs.length (sceneD y t).broken) := by
  have := nuB_is (F := (sceneD y t).fits) (n := y.chairs.length) (fun a b => by rw [fB_fits h7]; exact fitB_comm y t a b) _ (sceneD y t).broken (Nat.le_refl _) (scene_ok' hl h7).bits
  rwa [fB_fits h7] at this
theorem fold_max_add {α : Type} (f : α → Nat) (w : Nat) : ∀ (l : List α) (m : Nat), (l.map fun x => w + f x).foldl max (w + m) = w + (l.map f).foldl max m
  | [], m => rfl
  | x :: l, m => by
    rw [List.map_cons, List.map_cons, List.foldl_cons, List.foldl_cons, show max (w + m) (w + f x) = w + max m (f x) by omega]
    exact fold_max_add f w l _
theorem fold_max_add' {α : Type} (f : α → Nat) (w : Nat) {l : List α} (h : l ≠ []) : (l.map fun x => w + f x).foldl max 0 = w + (l.map f).foldl max 0 := by
  cases l with
  | nil => exact absurd rfl h
  | cons x l =>
    rw [List.map_cons, List.map_cons, List.foldl_cons, List.foldl_cons, show max 0 (w + f x) = w + max 0 (f x) by omega]
    exact fold_max_add f w l _
theorem makesR_pI (y : YardD) (t : List Pt) (l : List (Nat × Nat)) : makesR y t (pI l) = whole t + fitN (fitB y t) l := by
  unfold makesR fitN pI
  rw [List.filter_map, List.length_map]
  rfl
theorem prs_ne (n k w : Nat) (h : k ≤ n) : prs n k w ≠ [] := fun e => by
  obtain ⟨l, hl, _⟩ := prs_has k w h [] ⟨by simp, by simp [ends]⟩
  rw [e] at hl; simp at hl
theorem most_is {y : YardD} {t : List Pt} (hl : t.length = y.chairs.length) (h7 : t.length ≤ 7) : (((prs y.chairs.length y.chairs.length 0).map pI).map (makesR y t)).foldl max 0 = mostT y t := by
  rw [List.map_map, show (makesR y t ∘ pI) = fun l => whole t + fitN (fitB y t) l from funext fun l => makesR_pI y t l, fold_max_add' _ _ (prs_ne _ _ _ (Nat.le_refl _)),
    prs_most (fitB_comm y t) (fun a b h => broken_bit h) (scene_ok' hl h7).bits (nu_is hl h7)]
  rfl
theorem prs_in {n m : Nat} (hn : n ≤ 7) (hm : m = n) : ∀ l ∈ (prs n n 0).map pI, (∀ p ∈ l, ∃ x z : Nat, p = ((x : Int), (z : Int)) ∧ x < m ∧ z < m) ∧ l.length ≤ 1000 := by
  intro l hl
  obtain ⟨l', hl', rfl⟩ := List.mem_map.1 hl
  have ok := prs_ok n 0 (Nat.le_refl _) l' hl'
  refine ⟨fun p hp => ?_, by have := prs_short hn (Nat.le_refl _) hl'; omega⟩
  obtain ⟨q, hq, rfl⟩ := List.mem_map.1 hp
  obtain ⟨_, h2, h3, _⟩ := ok.at_ q hq
  exact ⟨q.1, q.2, rfl, by omega, by omega⟩
theorem bset_full {p : Nat → Bool} {n : Nat} : bset p n = 2 ^ n - 1 ↔ ∀ i, i < n → p i = true := by
  constructor
  · intro h i hi
    have := congrArg (fun x => Nat.testBit x i) h
    simp only [bset_bit, Nat.testBit_two_pow_sub_one] at this
    simpa [hi] using this
  · intro h
    apply Nat.eq_of_testBit_eq
    intro i
    rw [bset_bit, Nat.testBit_two_pow_sub_one]
    by_cases hi : i < n
    · simp [hi, h i hi]
    · simp [hi]
theorem right_full (cl : List (Int × Int)) (n : Int) : decide ((bset (rightB cl n) cl.length : Int) = ((2 ^ cl.length : Nat) : Int) - 1) = rightO cl [] n := by
  have hp : 1 ≤ 2 ^ cl.length := Nat.one_le_two_pow
  rw [Bool.eq_iff_iff, decide_eq_true_eq, show ((bset (rightB cl n) cl.length : Int) = ((2 ^ cl.length : Nat) : Int) - 1 ↔ bset (rightB cl n) cl.length = 2 ^ cl.length - 1) by omega, bset_full]
  unfold rightO
  rw [List.all_eq_true]
  have key : ∀ i, i < cl.length → rightB cl n i = rightAt cl [] n i := fun i hi => by
    unfold rightB rightAt; rw [List.getElem?_eq_getElem hi]; rfl
  exact ⟨fun h i hi => by rw [← key i (List.mem_range.1 hi)]; exact h i (List.mem_range.1 hi), fun h i hi => by rw [key i hi]; exact h i (List.mem_range.2 hi)⟩
theorem pl_range {y : YardD} {t : List Pt} (h : (decide (fault y = 0) && !isTruth y t) = true) : (((decide ((playV y t).2 = 2) && decide ((playV y t).1 = 0)) && !(decide ((playV y t).2 = 0) && rightO y.claims [] (playV y t).1)) && true) = true := by
  simp only [Bool.and_eq_true, decide_eq_true_eq, Bool.not_eq_true'] at h
  have e : playV y t = (0, 2) := by unfold playV; rw [if_neg (by omega), h.2]; rfl
  rw [e]; rfl
theorem pl_fault {y : YardD} {t : List Pt} (h : fault y ≠ 0) : (((decide ((playV y t).2 = fault y) && decide ((playV y t).1 = 0)) && !(decide ((playV y t).2 = 0) && rightO y.claims [] (playV y t).1)) && true) = true := by
  have e : playV y t = (0, fault y) := by unfold playV; rw [if_pos h]
  rw [e]; simp [h]
theorem pl_ok {y : YardD} {t : List Pt} (h : fault y = 0) (ht : isTruth y t = true) : (((decide ((playV y t).2 = 0) && decide ((playV y t).1 = ((((prs y.chairs.length y.chairs.length 0).map pI).map (makesR y t)).foldl max 0 : Nat))) && decide ((decide ((playV y t).2 = 0) && rightO y.claims [] (playV y t).1) = decide ((bset (rightB y.claims ((((prs y.chairs.length y.chairs.length 0).map pI).map (makesR y t)).foldl max 0 : Nat)) y.claims.length : Int) = ((2 ^ y.claims.length : Nat) : Int) - 1))) && true) = true := by
  have e : playV y t = (((mostT y t : Nat) : Int), 0) := by unfold playV; rw [if_neg (by omega), if_pos ht]
  have hn := (yOk h).len
  obtain ⟨hl, _⟩ := truthOk ht
  rw [e, most_is hl (by omega), right_full]; simp
theorem MendPlays_ok (yv tv : Value) (y : YardD) (t : List Pt) (D : Data) (hy : YardIs D yv y) (ht : Sl D RP 3 tv t) : Fn Try.prog 17 #[yv, tv] D (fun _ v => v = .bool true) := by
  have hy0 := hy
  obtain ⟨cv, qv, rfl, hc, hq⟩ := hy
  refine enter 88 Try.func17 rfl rfl rfl rfl fun h0 => ?_
  refine C.seq ?_
  refine C.region [(false,0),(false,1)] rfl ?_
  refine L.boxD rfl rfl rfl rfl trivial (fun q1 E1 hE1 hB1 => ?_)
  refine L.assign rfl rfl rfl trivial ?_
  refine L.nil ?_
  refine C.next ?_
  refine C.seq ?_
  refine C.seq ?_
  refine C.region [(false,0),(false,1),(false,2),(false,3),(false,4),(false,5),(false,6),(false,7)] rfl ?_
  refine L.loadDW rfl Tf.a25 rfl hB1 (by first | simp | assumption) Tf.s25 List.not_mem_nil rfl trivial ?_
  refine L.callV rfl rfl rfl (fun D1 hD1 => Thin_ok _ y _ (hy0.up (hD1 _ (by simp)))) rfl trivial ?_
  refine L.not rfl rfl rfl trivial ?_
  refine L.move rfl rfl rfl trivial ?_
  refine' L.or [(false,4),(false,5),(false,6),(false,7)] [] (s := 13) (p := 17) rfl rfl (fun hg1 => ?_) (fun hg1 => ?_) ?_
  rotate_left
  · refine L.move rfl rfl rfl ⟨_, rfl, rfl⟩ ?_
    refine L.len rfl Try.underlying26 rfl ht rfl rfl ⟨_, rfl, rfl⟩ ?_
    refine L.gtr rfl rfl rfl rfl ⟨_, rfl, rfl⟩ ?_
    refine L.pickF rfl rfl rfl rfl trivial ?_
    exact L.nil fun a w hh => hh.cutK 3 rfl
  · refine L.pass rfl rfl rfl ⟨_, _, rfl, rfl, rfl⟩ ?_
    refine L.pass rfl rfl rfl ⟨_, _, rfl, rfl, rfl⟩ ?_
    refine L.pass rfl rfl rfl ⟨_, _, rfl, rfl, rfl⟩ ?_
    refine L.pickT rfl rfl rfl rfl trivial ?_
    exact L.nil fun a w hh => hh.cutK 3 rfl
  refine L.nil ?_
  refine C.next ?_
  refine C.cond rfl (fun hc1 => ?_) (fun hc1 => ?_)
  · refine C.seq ?_
    refine C.region [(false,0),(false,1)] rfl ?_
    refine L.callV rfl rfl rfl (fun D2 hD2 => awake_ok _) rfl trivial ?_
    refine L.assign rfl rfl rfl trivial ?_
    refine L.nil ?_
    refine C.next ?_
    refine C.ret ?_
    refine C.thenRet ?_
    exact leave (vs := [_]) rfl rfl rfl ⟨rfl, trivial⟩ (fun D hD => rfl)
  · obtain ⟨hthin, ht9⟩ := plays_in hc1
    obtain ⟨hlc, hlq⟩ := thin_len hthin
    refine C.skip ?_
    refine C.next ?_
    refine C.seq ?_
    refine C.region [(false,0),(false,1),(false,2),(false,3),(false,4),(false,5),(false,6),(false,7),(false,8),(false,9)] rfl ?_
    refine L.loadDW rfl Tf.a25 rfl hB1 (by first | simp | assumption) Tf.s25 List.not_mem_nil rfl trivial ?_
    refine L.call rfl rfl rfl (fun D3 hD3 => YardL_ok _ y _ (hy0.up (hD3 _ (by simp))) (by omega) (by omega)) rfl trivial (fun v3 D3 hD3 hp3 => ?_)
    have hw := hp3
    refine L.move rfl rfl rfl trivial ?_
    refine L.call rfl rfl rfl (fun D4 hD4 => TruthL_ok _ t _ (ht.up RP.up (hD4 _ (by simp))) (by omega)) rfl trivial (fun v4 D4 hD4 hp4 => ?_)
    have hz := hp4
    refine L.callV rfl rfl rfl (fun D5 hD5 => Play_ok _ _ y t _ (hw.up (hD5 _ (by simp))) (hz.up RP.up (hD5 _ (by simp)))) rfl trivial ?_
    refine L.move rfl rfl rfl trivial ?_
    refine L.extract rfl rfl rfl rfl trivial ?_
    refine L.extract rfl rfl rfl rfl trivial ?_
    refine L.assign rfl rfl rfl trivial ?_
    refine L.assign rfl rfl rfl trivial ?_
    refine L.nil ?_
    refine C.next ?_
    refine C.seq ?_
    refine C.region [(false,0),(false,1),(false,2),(false,3),(false,4),(false,5)] rfl ?_
    refine L.loadDW rfl Tf.a25 rfl hB1 (by first | simp | assumption) Tf.s25 List.not_mem_nil rfl trivial ?_
    refine L.call rfl rfl rfl (fun D6 hD6 => YardL_ok _ y _ (hy0.up (hD6 _ (by simp))) (by omega) (by omega)) rfl trivial (fun v6 D6 hD6 hp6 => ?_)
    have hw := hp6
    refine L.move rfl rfl rfl trivial ?_
    refine L.call rfl rfl rfl (fun D7 hD7 => TruthL_ok _ t _ (ht.up RP.up (hD7 _ (by simp))) (by omega)) rfl trivial (fun v7 D7 hD7 hp7 => ?_)
    have hz := hp7
    refine L.callV rfl rfl rfl (fun D8 hD8 => ProveTruth_ok _ _ y t _ (hw.up (hD8 _ (by simp))) (hz.up RP.up (hD8 _ (by simp)))) rfl trivial ?_
    refine L.assign rfl rfl rfl trivial ?_
    refine L.nil ?_
    refine C.next ?_
    refine C.seq ?_
    refine C.region [(false,0),(false,1),(false,2)] rfl ?_
    refine L.loadDW rfl Tf.a25 rfl hB1 (by first | simp | assumption) Tf.s25 List.not_mem_nil rfl trivial ?_
    refine L.callV rfl rfl rfl (fun D9 hD9 => faultL_ok _ y _ (hy0.up (hD9 _ (by simp)))) rfl trivial ?_
    refine L.assign rfl rfl rfl trivial ?_
    refine L.nil ?_
    refine C.next ?_
    refine C.seq ?_
    refine C.seq ?_
    refine C.region [(false,0),(false,1),(false,2),(false,3),(false,4)] rfl ?_
    refine L.loadDW rfl Tf.a25 rfl hB1 (by first | simp | assumption) Tf.s25 List.not_mem_nil rfl trivial ?_
    refine L.call rfl rfl rfl (fun D10 hD10 => YardL_ok _ y _ (hy0.up (hD10 _ (by simp))) (by omega) (by omega)) rfl trivial (fun v10 D10 hD10 hp10 => ?_)
    have hw := hp10
    refine L.callV rfl rfl rfl (fun D11 hD11 => CheckYard_ok _ y _ (hw.up (hD11 _ (by simp)))) rfl trivial ?_
    refine L.move rfl rfl rfl trivial ?_
    refine L.neq rfl rfl rfl rfl trivial ?_
    refine L.nil ?_
    refine C.next ?_
    refine C.condD rfl (fun hc2 => ?_) (fun hc2 => ?_)
    · exact absurd rfl hc2
    · refine C.skip ?_
      refine C.next ?_
      refine C.seq ?_
      refine C.seq ?_
      refine C.region [(false,0),(false,1),(false,2),(false,3),(false,4),(false,5),(false,6),(false,7)] rfl ?_
      refine L.move rfl rfl rfl trivial ?_
      refine L.eql rfl rfl rfl rfl trivial ?_
      refine L.move rfl rfl rfl trivial ?_
      refine' L.and [(false,3),(false,4),(false,5),(false,6),(false,7)] [] (s := 41) (p := 46) rfl rfl (fun hg2 => ?_) (fun hg2 => ?_) ?_
      rotate_left
      · refine L.loadDW rfl Tf.a25 rfl hB1 (by first | simp | assumption) Tf.s25 List.not_mem_nil rfl ⟨_, rfl, rfl⟩ ?_
        refine L.move rfl rfl rfl ⟨_, rfl, rfl⟩ ?_
        refine L.callV rfl rfl rfl (fun D12 hD12 => IsTruth_ok _ _ y t _ (hy0.up (hD12 _ (by simp))) (ht.up RP.up (hD12 _ (by simp)))) rfl ⟨_, rfl, rfl⟩ ?_
        refine L.not rfl rfl rfl ⟨_, rfl, rfl⟩ ?_
        refine L.pickT rfl rfl rfl rfl trivial ?_
        exact L.nil fun a w hh => hh.cutK 4 rfl
      · refine L.pass rfl rfl rfl ⟨_, _, rfl, rfl, rfl⟩ ?_
        refine L.pass rfl rfl rfl ⟨_, _, rfl, rfl, rfl⟩ ?_
        refine L.pass rfl rfl rfl ⟨_, _, rfl, rfl, rfl⟩ ?_
        refine L.pass rfl rfl rfl ⟨_, _, rfl, rfl, rfl⟩ ?_
        refine L.pickF rfl rfl rfl rfl trivial ?_
        exact L.nil fun a w hh => hh.cutK 4 rfl
      refine L.nil ?_
      refine C.next ?_
      refine C.cond rfl (fun hc3 => ?_) (fun hc3 => ?_)
      · refine C.region [(false,0)] rfl ?_
        refine L.assign rfl rfl rfl trivial ?_
        refine L.nil ?_
        refine C.next ?_
        refine C.seq ?_
        refine C.seq ?_
        refine C.region [(false,0),(false,1)] rfl ?_
        refine L.move rfl rfl rfl trivial ?_
        refine L.neq rfl rfl rfl rfl trivial ?_
        refine L.nil ?_
        refine C.next ?_
        refine C.condD rfl (fun hc4 => ?_) (fun hc4 => ?_)
        · refine C.seq ?_
          refine C.region [(false,0),(false,1),(false,2),(false,3),(false,4),(false,5),(false,6),(false,7),(false,8),(false,9),(false,10),(false,11),(false,12),(false,13),(false,14)] rfl ?_
          refine L.move rfl rfl rfl trivial ?_
          refine L.move rfl rfl rfl trivial ?_
          refine L.eql rfl rfl rfl rfl trivial ?_
          refine L.move rfl rfl rfl trivial ?_
          refine' L.and [(false,4),(false,5),(false,6)] [(false,7),(false,8),(false,9),(false,10),(false,11),(false,12),(false,13),(false,14)] (s := 52) (p := 55) rfl rfl (fun hg3 => ?_) (fun hg3 => ?_) ?_
          rotate_left
          · refine L.move rfl rfl rfl ⟨_, rfl, rfl⟩ ?_
            refine L.eql rfl rfl rfl rfl ⟨_, rfl, rfl⟩ ?_
            refine L.pickT rfl rfl rfl rfl trivial ?_
            exact L.nil fun a w hh => hh.cutK 2 rfl
          · refine L.pass rfl rfl rfl ⟨_, _, rfl, rfl, rfl⟩ ?_
            refine L.pass rfl rfl rfl ⟨_, _, rfl, rfl, rfl⟩ ?_
            refine L.pickF rfl rfl rfl rfl trivial ?_
            exact L.nil fun a w hh => hh.cutK 2 rfl
          refine L.move rfl rfl rfl trivial ?_
          refine' L.and [(false,8),(false,9),(false,10)] [(false,11),(false,12),(false,13),(false,14)] (s := 56) (p := 59) rfl rfl (fun hg4 => ?_) (fun hg4 => ?_) ?_
          rotate_left
          · refine L.move rfl rfl rfl ⟨_, rfl, rfl⟩ ?_
            refine L.not rfl rfl rfl ⟨_, rfl, rfl⟩ ?_
            refine L.pickT rfl rfl rfl rfl trivial ?_
            exact L.nil fun a w hh => hh.cutK 2 rfl
          · refine L.pass rfl rfl rfl ⟨_, _, rfl, rfl, rfl⟩ ?_
            refine L.pass rfl rfl rfl ⟨_, _, rfl, rfl, rfl⟩ ?_
            refine L.pickF rfl rfl rfl rfl trivial ?_
            exact L.nil fun a w hh => hh.cutK 2 rfl
          refine L.move rfl rfl rfl trivial ?_
          refine' L.and [(false,12),(false,13)] [(false,14)] (s := 60) (p := 62) rfl rfl (fun hg5 => ?_) (fun hg5 => ?_) ?_
          rotate_left
          · refine L.callV rfl rfl rfl (fun D13 hD13 => awake_ok _) rfl ⟨_, rfl, rfl⟩ ?_
            refine L.pickT rfl rfl rfl rfl trivial ?_
            exact L.nil fun a w hh => hh.cutK 1 rfl
          · refine L.pass rfl rfl rfl ⟨_, _, rfl, rfl, rfl⟩ ?_
            refine L.pickF rfl rfl rfl rfl trivial ?_
            exact L.nil fun a w hh => hh.cutK 1 rfl
          refine L.assign rfl rfl rfl trivial ?_
          refine L.nil ?_
          refine C.next ?_
          refine C.ret ?_
          refine C.thenRet ?_
          exact leave (vs := [_]) rfl rfl rfl ⟨rfl, trivial⟩ (fun D hD => congrArg Value.bool (pl_range hc3))
        · exact absurd hc4 (by decide)
      · refine C.skip ?_
        refine C.next ?_
        refine C.seq ?_
        refine C.seq ?_
        refine C.region [(false,0),(false,1)] rfl ?_
        refine L.move rfl rfl rfl trivial ?_
        refine L.neq rfl rfl rfl rfl trivial ?_
        refine L.nil ?_
        refine C.next ?_
        refine C.condD rfl (fun hc5 => ?_) (fun hc5 => ?_)
        · refine C.seq ?_
          refine C.region [(false,0),(false,1),(false,2),(false,3),(false,4),(false,5),(false,6),(false,7),(false,8),(false,9),(false,10),(false,11),(false,12),(false,13),(false,14)] rfl ?_
          refine L.move rfl rfl rfl trivial ?_
          refine L.move rfl rfl rfl trivial ?_
          refine L.eql rfl rfl rfl rfl trivial ?_
          refine L.move rfl rfl rfl trivial ?_
          refine' L.and [(false,4),(false,5),(false,6)] [(false,7),(false,8),(false,9),(false,10),(false,11),(false,12),(false,13),(false,14)] (s := 52) (p := 55) rfl rfl (fun hg6 => ?_) (fun hg6 => ?_) ?_
          rotate_left
          · refine L.move rfl rfl rfl ⟨_, rfl, rfl⟩ ?_
            refine L.eql rfl rfl rfl rfl ⟨_, rfl, rfl⟩ ?_
            refine L.pickT rfl rfl rfl rfl trivial ?_
            exact L.nil fun a w hh => hh.cutK 2 rfl
          · refine L.pass rfl rfl rfl ⟨_, _, rfl, rfl, rfl⟩ ?_
            refine L.pass rfl rfl rfl ⟨_, _, rfl, rfl, rfl⟩ ?_
            refine L.pickF rfl rfl rfl rfl trivial ?_
            exact L.nil fun a w hh => hh.cutK 2 rfl
          refine L.move rfl rfl rfl trivial ?_
          refine' L.and [(false,8),(false,9),(false,10)] [(false,11),(false,12),(false,13),(false,14)] (s := 56) (p := 59) rfl rfl (fun hg7 => ?_) (fun hg7 => ?_) ?_
          rotate_left
          · refine L.move rfl rfl rfl ⟨_, rfl, rfl⟩ ?_
            refine L.not rfl rfl rfl ⟨_, rfl, rfl⟩ ?_
            refine L.pickT rfl rfl rfl rfl trivial ?_
            exact L.nil fun a w hh => hh.cutK 2 rfl
          · refine L.pass rfl rfl rfl ⟨_, _, rfl, rfl, rfl⟩ ?_
            refine L.pass rfl rfl rfl ⟨_, _, rfl, rfl, rfl⟩ ?_
            refine L.pickF rfl rfl rfl rfl trivial ?_
            exact L.nil fun a w hh => hh.cutK 2 rfl
          refine L.move rfl rfl rfl trivial ?_
          refine' L.and [(false,12),(false,13)] [(false,14)] (s := 60) (p := 62) rfl rfl (fun hg8 => ?_) (fun hg8 => ?_) ?_
          rotate_left
          · refine L.callV rfl rfl rfl (fun D14 hD14 => awake_ok _) rfl ⟨_, rfl, rfl⟩ ?_
            refine L.pickT rfl rfl rfl rfl trivial ?_
            exact L.nil fun a w hh => hh.cutK 1 rfl
          · refine L.pass rfl rfl rfl ⟨_, _, rfl, rfl, rfl⟩ ?_
            refine L.pickF rfl rfl rfl rfl trivial ?_
            exact L.nil fun a w hh => hh.cutK 1 rfl
          refine L.assign rfl rfl rfl trivial ?_
          refine L.nil ?_
          refine C.next ?_
          refine C.ret ?_
          refine C.thenRet ?_
          exact leave (vs := [_]) rfl rfl rfl ⟨rfl, trivial⟩ (fun D hD => congrArg Value.bool (pl_fault hc5))
        · have hf0 : fault y = 0 := by omega
          have hit : isTruth y t = true := by simpa [hf0] using hc3
          have hyo := yOk hf0
          have hn7 := hyo.len
          obtain ⟨hlen, hbt⟩ := truthOk hit
          refine C.skip ?_
          refine C.next ?_
          refine C.seq ?_
          refine C.draw [] 2 [0,1,2,3,4,5] [false,true,true,true,false,false] [(false,0),(true,1),(true,2),(true,3),(false,4),(false,5)] Tf.follows (fun _ _ _ h => np_body (P := Try.prog) (fn := Try.f17) _ _ _ h) (by kernel_rfl) rfl ?_
          refine L.loadDW rfl Tf.a25 rfl hB1 (by first | simp | assumption) Tf.s25 List.not_mem_nil rfl trivial ?_
          refine L.move rfl rfl rfl trivial ?_
          refine L.loadDW rfl Tf.a25 rfl hB1 (by first | simp | assumption) Tf.s25 List.not_mem_nil rfl trivial ?_
          refine L.call rfl rfl rfl (fun D15 hD15 => Pairings_ok hn7 _ _ (hy0.up (hD15 _ (by simp)))) rfl trivial (fun v15 D15 hD15 hp15 => ?_)
          have hps := hp15
          refine L.callV rfl rfl rfl (fun D16 hD16 => Most_ok _ _ _ y t _ _ (hy0.up (hD16 _ (by simp))) (ht.up RP.up (hD16 _ (by simp))) (hps.up RLP.up (hD16 _ (by simp))) hyo hlen hbt (prs_in hn7 hlen)) rfl trivial ?_
          refine L.assign rfl rfl rfl trivial ?_
          refine L.nil ?_
          refine C.next ?_
          refine C.seq ?_
          refine C.draw [] 6 [0,1,2,3,4,5,6,7,8,9,10,12,11,13,14,15,16,17,18,19,20] [false,false,false,false,true,false,false,false,false,true,true,true,true,true,true,false,false,false,false,false,false] [(false,0),(false,1),(false,2),(false,3),(true,4),(false,5),(false,6),(false,7),(false,8),(true,9),(true,10),(true,12),(true,11),(true,13),(true,14),(false,15),(false,16),(false,17),(false,18),(false,19),(false,20)] Tf.follows (fun _ _ _ h => np_body (P := Try.prog) (fn := Try.f17) _ _ _ h) (by kernel_rfl) rfl ?_
          refine L.move rfl rfl rfl trivial ?_
          refine L.eql rfl rfl rfl rfl trivial ?_
          refine L.move rfl rfl rfl trivial ?_
          refine' L.and [(false,3),(true,4),(false,5),(false,6)] [(false,7),(false,8),(true,9),(true,10),(true,12),(true,11),(true,13),(true,14),(false,15),(false,16),(false,17),(false,18),(false,19),(false,20)] (s := 70) (p := 74) rfl rfl (fun hg9 => ?_) (fun hg9 => ?_) ?_
          rotate_left
          · refine L.move rfl rfl rfl ⟨_, rfl, rfl⟩ ?_
            refine L.move rfl rfl rfl ⟨_, rfl, rfl⟩ ?_
            refine L.eql rfl rfl rfl rfl ⟨_, rfl, rfl⟩ ?_
            refine L.pickT rfl rfl rfl rfl trivial ?_
            exact L.nil fun a w hh => hh.cutK 3 rfl
          · refine L.pass rfl rfl rfl ⟨_, _, rfl, rfl, rfl⟩ ?_
            refine L.pass rfl rfl rfl ⟨_, _, rfl, rfl, rfl⟩ ?_
            refine L.pass rfl rfl rfl ⟨_, _, rfl, rfl, rfl⟩ ?_
            refine L.pickF rfl rfl rfl rfl trivial ?_
            exact L.nil fun a w hh => hh.cutK 3 rfl
          refine L.move rfl rfl rfl trivial ?_
          refine' L.and [(false,8),(true,9),(true,10),(true,12),(true,11),(true,13),(true,14),(false,15),(false,16)] [(false,17),(false,18),(false,19),(false,20)] (s := 75) (p := 84) rfl rfl (fun hg10 => ?_) (fun hg10 => ?_) ?_
          rotate_left
          · refine L.move rfl rfl rfl ⟨_, rfl, rfl⟩ ?_
            refine L.loadDW rfl Tf.a25 rfl hB1 (by first | simp | assumption) Tf.s25 List.not_mem_nil rfl ⟨_, rfl, rfl⟩ ?_
            refine L.move rfl rfl rfl ⟨_, rfl, rfl⟩ ?_
            refine L.loadDW rfl Tf.a25 rfl hB1 (by first | simp | assumption) Tf.s25 List.not_mem_nil rfl ⟨_, rfl, rfl⟩ ?_
            refine L.callV rfl rfl rfl (fun D17 hD17 => Right_ok _ y _ _ (hy0.up (hD17 _ (by simp))) (by omega)) rfl ⟨_, rfl, rfl⟩ ?_
            refine L.callV rfl rfl rfl (fun D18 hD18 => Full_ok _ y _ (hy0.up (hD18 _ (by simp))) (by omega)) rfl ⟨_, rfl, rfl⟩ ?_
            refine L.eql rfl rfl rfl rfl ⟨_, rfl, rfl⟩ ?_
            refine L.eqlB rfl Try.underlying4 rfl rfl rfl ⟨_, rfl, rfl⟩ ?_
            refine L.pickT rfl rfl rfl rfl trivial ?_
            exact L.nil fun a w hh => hh.cutK 8 rfl
          · refine L.pass rfl rfl rfl ⟨_, _, rfl, rfl, rfl⟩ ?_
            refine L.pass rfl rfl rfl ⟨_, _, rfl, rfl, rfl⟩ ?_
            refine L.pass rfl rfl rfl ⟨_, _, rfl, rfl, rfl⟩ ?_
            refine L.pass rfl rfl rfl ⟨_, _, rfl, rfl, rfl⟩ ?_
            refine L.pass rfl rfl rfl ⟨_, _, rfl, rfl, rfl⟩ ?_
            refine L.pass rfl rfl rfl ⟨_, _, rfl, rfl, rfl⟩ ?_
            refine L.pass rfl rfl rfl ⟨_, _, rfl, rfl, rfl⟩ ?_
            refine L.pass rfl rfl rfl ⟨_, _, rfl, rfl, rfl⟩ ?_
            refine L.pickF rfl rfl rfl rfl trivial ?_
            exact L.nil fun a w hh => hh.cutK 8 rfl
          refine L.move rfl rfl rfl trivial ?_
          refine' L.and [(false,18),(false,19)] [(false,20)] (s := 85) (p := 87) rfl rfl (fun hg11 => ?_) (fun hg11 => ?_) ?_
          rotate_left
          · refine L.callV rfl rfl rfl (fun D19 hD19 => awake_ok _) rfl ⟨_, rfl, rfl⟩ ?_
            refine L.pickT rfl rfl rfl rfl trivial ?_
            exact L.nil fun a w hh => hh.cutK 1 rfl
          · refine L.pass rfl rfl rfl ⟨_, _, rfl, rfl, rfl⟩ ?_
            refine L.pickF rfl rfl rfl rfl trivial ?_
            exact L.nil fun a w hh => hh.cutK 1 rfl
          refine L.assign rfl rfl rfl trivial ?_
          refine L.nil ?_
          refine C.next ?_
          refine C.ret ?_
          exact leave (vs := [_]) rfl rfl rfl ⟨rfl, trivial⟩ (fun D hD => congrArg Value.bool (pl_ok hf0 hit))
end Go.Fs
