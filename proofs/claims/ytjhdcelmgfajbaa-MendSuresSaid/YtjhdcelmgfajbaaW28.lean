/- Walks: the law MendSures. -/
import Derived.Test.YtjhdcelmgfajbaaW27
namespace Go.Fs
open Go.Proofs
open C7
theorem sures_in {y : YardD} {m : Nat} (h : (!thin y || decide (6 < (m : Int))) = false) : thin y = true ∧ m ≤ 6 := by
  simp only [Bool.or_eq_false_iff, Bool.not_eq_false', decide_eq_false_iff_not] at h; exact ⟨h.1, by omega⟩
theorem ns_le {y : YardD} (h : fault y = 0) : ∀ x ∈ nsD y, ∃ k : Nat, x = (k : Int) ∧ k ≤ 1000000 := fun x hx => by
  obtain ⟨k, rfl, hk⟩ := ns_in x hx
  have := allN_len h
  exact ⟨k, rfl, by omega⟩
/-- The scenes, and the truths by number. -/
theorem sure_eq {y : YardD} (h : askS y = 0) {l : List (Int × Int)} (hl : l.length ≤ 50) : sureZ ((scenesD y []).map fun p => p.1) l = sureR y (nsD y) l := by
  obtain ⟨hf, hne⟩ := askS_zero h
  have hyo := yOk hf
  have hn := hyo.len
  have small : ∀ t, isTruth y t = true → (makesR y t l : Int) ≤ 99 := fun t ht => by
    have := makesR_le y t l
    have := (truthOk ht).1
    omega
  have hm : ∀ x : Int, x ∈ ((scenesD y []).map fun p => p.1).map (fun s => (makesN s l : Int)) ↔ x ∈ (nsD y).map fun x => (makesR y (nthC y.chairs x.toNat).1 l : Int) := by
    intro x
    rw [List.mem_map, List.mem_map]
    constructor
    · rintro ⟨s, hs, rfl⟩
      obtain ⟨p, hp, rfl⟩ := List.mem_map.1 hs
      obtain ⟨t, ht, hr, rfl⟩ := mem_scenes.1 hp
      obtain ⟨n, hn', rfl⟩ := nth_onto ht
      have := (truthOk ht).1
      exact ⟨(n : Int), mem_ns.2 ⟨n, hn', hr, rfl⟩, by rw [makesN_R (by omega)]; rfl⟩
    · rintro ⟨n, hn', rfl⟩
      obtain ⟨k, hk, hr, rfl⟩ := mem_ns.1 hn'
      have ht := nth_truth hyo k
      have := (truthOk ht).1
      exact ⟨_, List.mem_map.2 ⟨_, mem_scenes.2 ⟨_, ht, hr, rfl⟩, rfl⟩, by rw [makesN_R (by omega)]; rfl⟩
  have hin : ∀ x ∈ (nsD y).map (fun x => (makesR y (nthC y.chairs x.toNat).1 l : Int)), x ≤ 99 := fun x hx => by
    obtain ⟨n, hn', rfl⟩ := List.mem_map.1 hx
    exact small _ (nth_truth hyo _)
  have hne2 : scenesD y [] ≠ [] := fun e => hne ((ns_nil hyo).2 e)
  unfold sureR
  unfold sureZ
  cases e : (scenesD y []).map fun p => p.1 with
  | nil => exact absurd (List.map_eq_nil_iff.1 e) hne2
  | cons s r =>
    rw [e] at hm
    simp only
    rw [List.map_cons, List.foldl_cons, Int.min_self]
    rw [List.map_cons] at hm
    have e2 : (List.map (fun s => (makesN s l : Int)) r).foldl min (makesN s l : Int) = ((makesN s l : Int) :: r.map fun s => (makesN s l : Int)).foldl min 99 := by
      rw [List.foldl_cons]
      have := hin _ ((hm (makesN s l : Int)).1 List.mem_cons_self)
      rw [show min (99 : Int) (makesN s l : Int) = (makesN s l : Int) by omega]
    rw [e2]
    exact fmin_eq hm (by simp) (fun x hx => hin x ((hm x).1 hx)) hin
theorem sureR_in {y : YardD} (_h : askS y = 0) {l : List (Int × Int)} (_hl : l.length ≤ 50) : 0 ≤ sureR y (nsD y) l := by
  unfold sureR
  rcases (fmin ((nsD y).map fun x => (makesR y (nthC y.chairs x.toNat).1 l : Int)) 99).1 with e | e
  · rw [e]; omega
  · obtain ⟨n, _, e2⟩ := List.mem_map.1 e
    rw [← e2]; omega
theorem ps_eq {y : YardD} (h : askS y = 0) {l : List (Int × Int)} {many : Int} (hl : l.length ≤ 6) : proveSureV y l many = ((prB y.chairs.length l).isSome && decide (sureR y (nsD y) l ≥ many)) := by
  obtain ⟨hf, hne⟩ := askS_zero h
  have hne2 : scenesD y [] ≠ [] := fun e => hne ((ns_nil (yOk hf)).2 e)
  have hpos : 0 < (scenesD y []).length := List.length_pos_iff.2 hne2
  unfold proveSureV
  rw [sure_eq h (by omega)]
  cases (prB y.chairs.length l).isSome with
  | false => simp
  | true => simp [hf, hpos]
theorem lvs_in {y : YardD} (_h : fault y = 0) {l : List (Int × Int)} : l ∈ lvs y y.chairs.length 0 0 [] ↔ ∃ M ∈ prs y.chairs.length y.chairs.length 0, nearM y M = true ∧ l = pI M := by
  rw [lvs_prs _ _ _ _ (by omega), List.mem_map]
  constructor
  · rintro ⟨M, hM, rfl⟩
    rw [List.mem_filter] at hM
    exact ⟨M, hM.1, hM.2, rfl⟩
  · rintro ⟨M, h1, h2, rfl⟩
    exact ⟨M, List.mem_filter.2 ⟨h1, h2⟩, rfl⟩
theorem surest_eq {y : YardD} (h : askS y = 0) : ((lvs y y.chairs.length 0 0 []).map (sureZ ((scenesD y []).map fun p => p.1))).foldl max (-1) = surestR y (nsD y) ∧ lvs y y.chairs.length 0 0 [] ≠ [] ∧ 0 ≤ surestR y (nsD y) := by
  obtain ⟨hf, hne⟩ := askS_zero h
  have hn := (yOk hf).len
  have short : ∀ M ∈ prs y.chairs.length y.chairs.length 0, (pI M).length ≤ 50 := fun M hM => by have := prs_short hn (Nat.le_refl _) hM; omega
  have full : ∀ M ∈ prs y.chairs.length y.chairs.length 0, pI (M.filter fun p => nearB y p.1 p.2) ∈ lvs y y.chairs.length 0 0 [] := fun M hM =>
    (lvs_in hf).2 ⟨_, prs_sub _ _ _ _ hM List.filter_sublist, by unfold nearM; rw [List.all_eq_true]; exact fun p hp => (List.mem_filter.1 hp).2, rfl⟩
  have same : ∀ M, sureR y (nsD y) (pI (M.filter fun p => nearB y p.1 p.2)) = sureR y (nsD y) (pI M) := fun M => by
    unfold sureR; congr 1; apply List.map_congr_left; intro x _; rw [makes_near]
  obtain ⟨M0, hM0⟩ := List.exists_mem_of_ne_nil _ (prs_ne y.chairs.length y.chairs.length 0 (Nat.le_refl _))
  have hne3 : lvs y y.chairs.length 0 0 [] ≠ [] := List.ne_nil_of_mem (full M0 hM0)
  obtain ⟨a1, a2, a3⟩ := fmax ((lvs y y.chairs.length 0 0 []).map (sureZ ((scenesD y []).map fun p => p.1))) (-1)
  obtain ⟨b1, b2, b3⟩ := fmax (((prs y.chairs.length y.chairs.length 0).map pI).map (sureR y (nsD y))) 0
  have lv_le : ∀ M ∈ prs y.chairs.length y.chairs.length 0, sureR y (nsD y) (pI M) ≤ ((lvs y y.chairs.length 0 0 []).map (sureZ ((scenesD y []).map fun p => p.1))).foldl max (-1) := fun M hM => by
    have := a3 _ (List.mem_map.2 ⟨_, full M hM, rfl⟩)
    rwa [sure_eq h (by have := short _ (prs_sub _ _ _ _ hM (List.filter_sublist (p := fun p => nearB y p.1 p.2))); omega), same] at this
  refine ⟨Int.le_antisymm ?_ ?_, hne3, b2⟩
  · rcases a1 with a1 | a1
    · rw [a1]; show (-1 : Int) ≤ _; exact Int.le_trans (by omega) b2
    · obtain ⟨l, hl, e⟩ := List.mem_map.1 a1
      obtain ⟨M, hM, _, rfl⟩ := (lvs_in hf).1 hl
      rw [← e, sure_eq h (short M hM)]
      exact b3 _ (List.mem_map.2 ⟨_, List.mem_map.2 ⟨M, hM, rfl⟩, rfl⟩)
  · show ((((prs y.chairs.length y.chairs.length 0).map pI).map (sureR y (nsD y))).foldl max 0) ≤ _
    rcases b1 with b1 | b1
    · rw [b1]; exact Int.le_trans (sureR_in h (short M0 hM0)) (lv_le M0 hM0)
    · obtain ⟨l, hl, e⟩ := List.mem_map.1 b1
      obtain ⟨M, hM, rfl⟩ := List.mem_map.1 hl
      rw [← e]; exact lv_le M hM
theorem prB_prs {n : Nat} (hn : n ≤ 7) {M : List (Nat × Nat)} (hM : M ∈ prs n n 0) : (prB n (pI M)).isSome = true := by
  have ok := prs_ok n 0 (Nat.le_refl _) M hM
  exact prB_of hn M 0 (by omega) (fun p hp => by
    obtain ⟨_, h2, h3, _⟩ := ok.at_ p hp
    exact ⟨h2, h3, Nat.zero_testBit _, Nat.zero_testBit _⟩) ok.nd
theorem sure_facts {y : YardD} (h : askS y = 0) : (sureV y).2.2 = 0 ∧ (sureV y).1.length ≤ 3 ∧ (prB y.chairs.length (sureV y).1).isSome = true ∧ sureR y (nsD y) (sureV y).1 = (sureV y).2.1 ∧ (sureV y).2.1 = surestR y (nsD y) := by
  obtain ⟨hf, hne⟩ := askS_zero h
  have hn := (yOk hf).len
  have hne2 : scenesD y [] ≠ [] := fun e => hne ((ns_nil (yOk hf)).2 e)
  obtain ⟨s1, s2, s3⟩ := surest_eq h
  obtain ⟨u1, u2⟩ := upd_fold (scs := (scenesD y []).map fun p => p.1) (lvs y y.chairs.length 0 0 []) [] (-1)
  have e : sureV y = (((lvs y y.chairs.length 0 0 []).foldl (upd ((scenesD y []).map fun p => p.1)) ([], -1)).1, ((lvs y y.chairs.length 0 0 []).foldl (upd ((scenesD y []).map fun p => p.1)) ([], -1)).2, 0) := by
    unfold sureV; rw [if_neg (by omega), if_neg hne2]
  rw [e]
  simp only
  rw [s1] at u1
  have hmem : ((lvs y y.chairs.length 0 0 []).foldl (upd ((scenesD y []).map fun p => p.1)) ([], -1)).1 ∈ lvs y y.chairs.length 0 0 [] ∧ sureZ ((scenesD y []).map fun p => p.1) ((lvs y y.chairs.length 0 0 []).foldl (upd ((scenesD y []).map fun p => p.1)) ([], -1)).1 = ((lvs y y.chairs.length 0 0 []).foldl (upd ((scenesD y []).map fun p => p.1)) ([], -1)).2 := by
    rcases u2 with u2 | u2
    · rw [u2] at u1; simp only at u1; omega
    · exact u2
  obtain ⟨M, hM, _, em⟩ := (lvs_in hf).1 hmem.1
  have hp : (prB y.chairs.length ((lvs y y.chairs.length 0 0 []).foldl (upd ((scenesD y []).map fun p => p.1)) ([], -1)).1).isSome = true := by rw [em]; exact prB_prs hn hM
  have h3 := (prB_ok hn hp).2
  exact ⟨trivial, h3, hp, by rw [← sure_eq h (by omega)]; exact hmem.2, u1⟩
theorem ms_err {y : YardD} {l : List (Int × Int)} {many : Int} (h : askS y ≠ 0) : ((((decide ((sureV y).2.2 = askS y) && decide (((sureV y).1.length : Int) = 0)) && decide ((sureV y).2.1 = 0)) && !proveSureV y l many) && true) = true := by
  by_cases hf : fault y = 0
  · have e : askS y = 11 ∧ nsD y = [] := by
      unfold askS at h ⊢
      rw [if_neg (by omega)] at h ⊢
      split at h
      · rename_i hn; rw [if_pos hn]; exact ⟨rfl, hn⟩
      · omega
    have hs := (ns_nil (yOk hf)).1 e.2
    unfold sureV proveSureV
    rw [if_neg (by omega), if_pos hs, e.1, hs]; simp
  · have e : askS y = fault y := by unfold askS; rw [if_pos hf]
    unfold sureV proveSureV
    rw [if_pos hf, e]; simp [hf]
theorem ms_ok {y : YardD} (h : askS y = 0) : (((((decide ((sureV y).2.2 = 0) && decide ((sureV y).2.1 = surestR y (nsD y))) && decide (((sureV y).1.length : Int) ≤ 3)) && (prB y.chairs.length (sureV y).1).isSome) && decide (sureR y (nsD y) (sureV y).1 = (sureV y).2.1)) && true) = true := by
  obtain ⟨h1, h2, h3, h4, h5⟩ := sure_facts h
  rw [h1, h3, h4, h5]; simp; omega
theorem MendSures_ok (yv lv : Value) (y : YardD) (l : List (Int × Int)) (many : Int) (D : Data) (hy : YardIs D yv y) (hl : Sl D R2 2 lv l) : Fn Try.prog 6 #[yv, lv, .int .i64 many] D (fun _ v => v = .bool true) := by
  have hy0 := hy
  obtain ⟨cv, qv, rfl, hc, hq⟩ := hy
  refine enter 108 Try.func6 rfl rfl rfl rfl fun h0 => ?_
  refine C.seq ?_
  refine C.region [(false,0),(false,1)] rfl ?_
  refine L.boxD rfl rfl rfl rfl trivial (fun q1 E1 hE1 hB1 => ?_)
  refine L.assign rfl rfl rfl trivial ?_
  refine L.nil ?_
  refine C.next ?_
  refine C.seq ?_
  refine C.seq ?_
  refine C.region [(false,0),(false,1),(false,2),(false,3),(false,4),(false,5),(false,6),(false,7)] rfl ?_
  refine L.loadDW rfl Tf.a25 rfl hB1 (by first | simp | assumption) Tf.s25 List.not_mem_nil rfl trivial ?_
  refine L.callV rfl rfl rfl (fun D1 hD1 => Thin_ok _ y _ (hy0.up (hD1 _ (by simp)))) rfl trivial ?_
  refine L.not rfl rfl rfl trivial ?_
  refine L.move rfl rfl rfl trivial ?_
  refine' L.or [(false,4),(false,5),(false,6),(false,7)] [] (s := 17) (p := 21) rfl rfl (fun hg1 => ?_) (fun hg1 => ?_) ?_
  rotate_left
  · refine L.move rfl rfl rfl ⟨_, rfl, rfl⟩ ?_
    refine L.len rfl Try.underlying27 rfl hl rfl rfl ⟨_, rfl, rfl⟩ ?_
    refine L.gtr rfl rfl rfl rfl ⟨_, rfl, rfl⟩ ?_
    refine L.pickF rfl rfl rfl rfl trivial ?_
    exact L.nil fun a w hh => hh.cutK 3 rfl
  · refine L.pass rfl rfl rfl ⟨_, _, rfl, rfl, rfl⟩ ?_
    refine L.pass rfl rfl rfl ⟨_, _, rfl, rfl, rfl⟩ ?_
    refine L.pass rfl rfl rfl ⟨_, _, rfl, rfl, rfl⟩ ?_
    refine L.pickT rfl rfl rfl rfl trivial ?_
    exact L.nil fun a w hh => hh.cutK 3 rfl
  refine L.nil ?_
  refine C.next ?_
  refine C.cond rfl (fun hc1 => ?_) (fun hc1 => ?_)
  · refine C.seq ?_
    refine C.region [(false,0),(false,1)] rfl ?_
    refine L.callV rfl rfl rfl (fun D2 hD2 => awake_ok _) rfl trivial ?_
    refine L.assign rfl rfl rfl trivial ?_
    refine L.nil ?_
    refine C.next ?_
    refine C.ret ?_
    refine C.thenRet ?_
    exact leave (vs := [_]) rfl rfl rfl ⟨rfl, trivial⟩ (fun D hD => rfl)
  · obtain ⟨hthin, hl6⟩ := sures_in hc1
    obtain ⟨hlc, hlq⟩ := thin_len hthin
    refine C.skip ?_
    refine C.next ?_
    refine C.seq ?_
    refine C.region [(false,0),(false,1),(false,2),(false,3),(false,4),(false,5),(false,6),(false,7),(false,8),(false,9)] rfl ?_
    refine L.loadDW rfl Tf.a25 rfl hB1 (by first | simp | assumption) Tf.s25 List.not_mem_nil rfl trivial ?_
    refine L.call rfl rfl rfl (fun D3 hD3 => YardL_ok _ y _ (hy0.up (hD3 _ (by simp))) (by omega) (by omega)) rfl trivial (fun v3 D3 hD3 hp3 => ?_)
    have hw := hp3
    refine L.call rfl rfl rfl (fun D4 hD4 => Sure_ok _ y _ (hw.up (hD4 _ (by simp)))) rfl trivial (fun v4 D4 hD4 hp4 => ?_)
    obtain ⟨pv, rfl, hpv⟩ := hp4
    refine L.move rfl rfl rfl trivial ?_
    refine L.extract rfl rfl rfl rfl trivial ?_
    refine L.extract rfl rfl rfl rfl trivial ?_
    refine L.extract rfl rfl rfl rfl trivial ?_
    refine L.assign rfl rfl rfl trivial ?_
    refine L.assign rfl rfl rfl trivial ?_
    refine L.assign rfl rfl rfl trivial ?_
    refine L.nil ?_
    refine C.next ?_
    refine C.seq ?_
    refine C.region [(false,0),(false,1),(false,2),(false,3),(false,4),(false,5),(false,6)] rfl ?_
    refine L.loadDW rfl Tf.a25 rfl hB1 (by first | simp | assumption) Tf.s25 List.not_mem_nil rfl trivial ?_
    refine L.call rfl rfl rfl (fun D5 hD5 => YardL_ok _ y _ (hy0.up (hD5 _ (by simp))) (by omega) (by omega)) rfl trivial (fun v5 D5 hD5 hp5 => ?_)
    have hw := hp5
    refine L.move rfl rfl rfl trivial ?_
    refine L.call rfl rfl rfl (fun D6 hD6 => pairsL_ok _ l _ (hl.up R2.up (hD6 _ (by simp))) (by omega)) rfl trivial (fun v6 D6 hD6 hp6 => ?_)
    have hx := hp6
    refine L.move rfl rfl rfl trivial ?_
    refine L.callV rfl rfl rfl (fun D7 hD7 => ProveSure_ok _ _ y l many _ (hw.up (hD7 _ (by simp))) (hx.up R2.up (hD7 _ (by simp)))) rfl trivial ?_
    refine L.assign rfl rfl rfl trivial ?_
    refine L.nil ?_
    refine C.next ?_
    refine C.seq ?_
    refine C.region [(false,0),(false,1),(false,2),(false,3),(false,4),(false,5),(false,6),(false,7),(false,8)] rfl ?_
    refine L.loadDW rfl Tf.a25 rfl hB1 (by first | simp | assumption) Tf.s25 List.not_mem_nil rfl trivial ?_
    refine L.call rfl rfl rfl (fun D8 hD8 => sureL_ok _ y _ (hy0.up (hD8 _ (by simp)))) rfl trivial (fun v8 D8 hD8 hp8 => ?_)
    obtain ⟨sv, av, rfl, hsv, hav⟩ := hp8
    refine L.move rfl rfl rfl trivial ?_
    refine L.extract rfl rfl rfl rfl trivial ?_
    refine L.extract rfl rfl rfl rfl trivial ?_
    refine L.extract rfl rfl rfl rfl trivial ?_
    refine L.assign rfl rfl rfl trivial ?_
    refine L.assign rfl rfl rfl trivial ?_
    refine L.assign rfl rfl rfl trivial ?_
    refine L.nil ?_
    refine C.next ?_
    refine C.seq ?_
    refine C.seq ?_
    refine C.region [(false,0),(false,1)] rfl ?_
    refine L.move rfl rfl rfl trivial ?_
    refine L.neq rfl rfl rfl rfl trivial ?_
    refine L.nil ?_
    refine C.next ?_
    refine C.condD rfl (fun hc2 => ?_) (fun hc2 => ?_)
    · refine C.seq ?_
      refine C.region [(false,0),(false,1),(false,2),(false,3),(false,4),(false,5),(false,6),(false,7),(false,8),(false,9),(false,10),(false,11),(false,12),(false,13),(false,14),(false,15),(false,16),(false,17),(false,18),(false,19)] rfl ?_
      refine L.move rfl rfl rfl trivial ?_
      refine L.move rfl rfl rfl trivial ?_
      refine L.eql rfl rfl rfl rfl trivial ?_
      refine L.move rfl rfl rfl trivial ?_
      refine' L.and [(false,4),(false,5),(false,6),(false,7)] [(false,8),(false,9),(false,10),(false,11),(false,12),(false,13),(false,14),(false,15),(false,16),(false,17),(false,18),(false,19)] (s := 47) (p := 51) rfl rfl (fun hg2 => ?_) (fun hg2 => ?_) ?_
      rotate_left
      · refine L.move rfl rfl rfl ⟨_, rfl, rfl⟩ ?_
        refine L.len rfl Try.underlying30 rfl hpv rfl rfl ⟨_, rfl, rfl⟩ ?_
        refine L.eql rfl rfl rfl rfl ⟨_, rfl, rfl⟩ ?_
        refine L.pickT rfl rfl rfl rfl trivial ?_
        exact L.nil fun a w hh => hh.cutK 3 rfl
      · refine L.pass rfl rfl rfl ⟨_, _, rfl, rfl, rfl⟩ ?_
        refine L.pass rfl rfl rfl ⟨_, _, rfl, rfl, rfl⟩ ?_
        refine L.pass rfl rfl rfl ⟨_, _, rfl, rfl, rfl⟩ ?_
        refine L.pickF rfl rfl rfl rfl trivial ?_
        exact L.nil fun a w hh => hh.cutK 3 rfl
      refine L.move rfl rfl rfl trivial ?_
      refine' L.and [(false,9),(false,10),(false,11)] [(false,12),(false,13),(false,14),(false,15),(false,16),(false,17),(false,18),(false,19)] (s := 52) (p := 55) rfl rfl (fun hg3 => ?_) (fun hg3 => ?_) ?_
      rotate_left
      · refine L.move rfl rfl rfl ⟨_, rfl, rfl⟩ ?_
        refine L.eql rfl rfl rfl rfl ⟨_, rfl, rfl⟩ ?_
        refine L.pickT rfl rfl rfl rfl trivial ?_
        exact L.nil fun a w hh => hh.cutK 2 rfl
      · refine L.pass rfl rfl rfl ⟨_, _, rfl, rfl, rfl⟩ ?_
        refine L.pass rfl rfl rfl ⟨_, _, rfl, rfl, rfl⟩ ?_
        refine L.pickF rfl rfl rfl rfl trivial ?_
        exact L.nil fun a w hh => hh.cutK 2 rfl
      refine L.move rfl rfl rfl trivial ?_
      refine' L.and [(false,13),(false,14),(false,15)] [(false,16),(false,17),(false,18),(false,19)] (s := 56) (p := 59) rfl rfl (fun hg4 => ?_) (fun hg4 => ?_) ?_
      rotate_left
      · refine L.move rfl rfl rfl ⟨_, rfl, rfl⟩ ?_
        refine L.not rfl rfl rfl ⟨_, rfl, rfl⟩ ?_
        refine L.pickT rfl rfl rfl rfl trivial ?_
        exact L.nil fun a w hh => hh.cutK 2 rfl
      · refine L.pass rfl rfl rfl ⟨_, _, rfl, rfl, rfl⟩ ?_
        refine L.pass rfl rfl rfl ⟨_, _, rfl, rfl, rfl⟩ ?_
        refine L.pickF rfl rfl rfl rfl trivial ?_
        exact L.nil fun a w hh => hh.cutK 2 rfl
      refine L.move rfl rfl rfl trivial ?_
      refine' L.and [(false,17),(false,18)] [(false,19)] (s := 60) (p := 62) rfl rfl (fun hg5 => ?_) (fun hg5 => ?_) ?_
      rotate_left
      · refine L.callV rfl rfl rfl (fun D9 hD9 => awake_ok _) rfl ⟨_, rfl, rfl⟩ ?_
        refine L.pickT rfl rfl rfl rfl trivial ?_
        exact L.nil fun a w hh => hh.cutK 1 rfl
      · refine L.pass rfl rfl rfl ⟨_, _, rfl, rfl, rfl⟩ ?_
        refine L.pickF rfl rfl rfl rfl trivial ?_
        exact L.nil fun a w hh => hh.cutK 1 rfl
      refine L.assign rfl rfl rfl trivial ?_
      refine L.nil ?_
      refine C.next ?_
      refine C.ret ?_
      refine C.thenRet ?_
      exact leave (vs := [_]) rfl rfl rfl ⟨rfl, trivial⟩ (fun D hD => congrArg Value.bool (ms_err hc2))
    · have hz : askS y = 0 := by omega
      obtain ⟨hf0, hne⟩ := askS_zero hz
      rw [if_pos hz] at hsv
      have hyo := yOk hf0
      have hn7 := hyo.len
      obtain ⟨hs1, hs2, hs3, hs4, hs5⟩ := sure_facts hz
      have hpq := prB_lt rfl hs3
      refine C.skip ?_
      refine C.next ?_
      refine C.seq ?_
      refine C.seq ?_
      refine C.region [(false,0),(false,1),(false,2),(false,3),(false,4),(false,5),(false,6),(false,7),(false,8),(false,9),(false,10),(false,11),(false,12)] rfl ?_
      refine L.move rfl rfl rfl trivial ?_
      refine L.loadDW rfl Tf.a25 rfl hB1 (by first | simp | assumption) Tf.s25 List.not_mem_nil rfl trivial ?_
      refine L.move rfl rfl rfl trivial ?_
      refine L.callV rfl rfl rfl (fun D10 hD10 => IsPairing_ok _ _ y l _ (hy0.up (hD10 _ (by simp))) (hl.up R2.up (hD10 _ (by simp))) hn7) rfl trivial ?_
      refine L.move rfl rfl rfl trivial ?_
      refine' L.and [(false,5),(false,6),(false,7),(false,8),(false,9),(false,10),(false,11)] [(false,12)] (s := 67) (p := 74) rfl rfl (fun hg6 => ?_) (fun hg6 => ?_) ?_
      rotate_left
      · have hpi := prB_lt rfl hg6
        refine L.loadDW rfl Tf.a25 rfl hB1 (by first | simp | assumption) Tf.s25 List.not_mem_nil rfl ⟨_, rfl, rfl⟩ ?_
        refine L.move rfl rfl rfl ⟨_, rfl, rfl⟩ ?_
        refine L.move rfl rfl rfl ⟨_, rfl, rfl⟩ ?_
        refine L.callV rfl rfl rfl (fun D11 hD11 => SureR_ok _ _ _ y (nsD y) l _ (hy0.up (hD11 _ (by simp))) (hsv.up RI.up (hD11 _ (by simp))) (hl.up R2.up (hD11 _ (by simp))) hf0 (ns_le hf0) hpi (by omega)) rfl ⟨_, rfl, rfl⟩ ?_
        refine L.move rfl rfl rfl ⟨_, rfl, rfl⟩ ?_
        refine L.geq rfl rfl rfl rfl ⟨_, rfl, rfl⟩ ?_
        refine L.pickT rfl rfl rfl rfl trivial ?_
        exact L.nil fun a w hh => hh.cutK 6 rfl
      · refine L.pass rfl rfl rfl ⟨_, _, rfl, rfl, rfl⟩ ?_
        refine L.pass rfl rfl rfl ⟨_, _, rfl, rfl, rfl⟩ ?_
        refine L.pass rfl rfl rfl ⟨_, _, rfl, rfl, rfl⟩ ?_
        refine L.pass rfl rfl rfl ⟨_, _, rfl, rfl, rfl⟩ ?_
        refine L.pass rfl rfl rfl ⟨_, _, rfl, rfl, rfl⟩ ?_
        refine L.pass rfl rfl rfl ⟨_, _, rfl, rfl, rfl⟩ ?_
        refine L.pickF rfl rfl rfl rfl trivial ?_
        exact L.nil fun a w hh => hh.cutK 6 rfl
      refine L.neqB rfl Try.underlying4 rfl rfl rfl trivial ?_
      refine L.nil ?_
      refine C.next ?_
      refine C.cond rfl (fun hc3 => ?_) (fun hc3 => ?_)
      · rw [ps_eq hz hl6] at hc3; simp at hc3
      · refine C.skip ?_
        refine C.next ?_
        refine C.seq ?_
        refine C.draw [] 10 [0,1,2,3,4,5,6,7,8,9,10,11,12,13,14,15,16,17,18,19,20,21,22,23,26,24,25,27,28,29,30,31,32] [false,false,false,false,true,true,true,false,false,false,false,false,false,false,false,false,true,true,false,false,false,false,true,true,true,true,true,false,false,false,false,false,false] [(false,0),(false,1),(false,2),(false,3),(true,4),(true,5),(true,6),(false,7),(false,8),(false,9),(false,10),(false,11),(false,12),(false,13),(false,14),(false,15),(true,16),(true,17),(false,18),(false,19),(false,20),(false,21),(true,22),(true,23),(true,26),(true,24),(true,25),(false,27),(false,28),(false,29),(false,30),(false,31),(false,32)] Tf.follows (fun _ _ _ h => np_body (P := Try.prog) (fn := Try.f6) _ _ _ h) (by kernel_rfl) rfl ?_
        refine L.move rfl rfl rfl trivial ?_
        refine L.eql rfl rfl rfl rfl trivial ?_
        refine L.move rfl rfl rfl trivial ?_
        refine' L.and [(false,3),(true,4),(true,5),(true,6),(false,7),(false,8)] [(false,9),(false,10),(false,11),(false,12),(false,13),(false,14),(false,15),(true,16),(true,17),(false,18),(false,19),(false,20),(false,21),(true,22),(true,23),(true,26),(true,24),(true,25),(false,27),(false,28),(false,29),(false,30),(false,31),(false,32)] (s := 78) (p := 84) rfl rfl (fun hg7 => ?_) (fun hg7 => ?_) ?_
        rotate_left
        · refine L.move rfl rfl rfl ⟨_, rfl, rfl⟩ ?_
          refine L.loadDW rfl Tf.a25 rfl hB1 (by first | simp | assumption) Tf.s25 List.not_mem_nil rfl ⟨_, rfl, rfl⟩ ?_
          refine L.move rfl rfl rfl ⟨_, rfl, rfl⟩ ?_
          refine L.callV rfl rfl rfl (fun D12 hD12 => Surest_ok _ _ y (nsD y) _ (hy0.up (hD12 _ (by simp))) (hsv.up RI.up (hD12 _ (by simp))) hf0 (ns_le hf0)) rfl ⟨_, rfl, rfl⟩ ?_
          refine L.eql rfl rfl rfl rfl ⟨_, rfl, rfl⟩ ?_
          refine L.pickT rfl rfl rfl rfl trivial ?_
          exact L.nil fun a w hh => hh.cutK 5 rfl
        · refine L.pass rfl rfl rfl ⟨_, _, rfl, rfl, rfl⟩ ?_
          refine L.pass rfl rfl rfl ⟨_, _, rfl, rfl, rfl⟩ ?_
          refine L.pass rfl rfl rfl ⟨_, _, rfl, rfl, rfl⟩ ?_
          refine L.pass rfl rfl rfl ⟨_, _, rfl, rfl, rfl⟩ ?_
          refine L.pass rfl rfl rfl ⟨_, _, rfl, rfl, rfl⟩ ?_
          refine L.pickF rfl rfl rfl rfl trivial ?_
          exact L.nil fun a w hh => hh.cutK 5 rfl
        refine L.move rfl rfl rfl trivial ?_
        refine' L.and [(false,10),(false,11),(false,12),(false,13)] [(false,14),(false,15),(true,16),(true,17),(false,18),(false,19),(false,20),(false,21),(true,22),(true,23),(true,26),(true,24),(true,25),(false,27),(false,28),(false,29),(false,30),(false,31),(false,32)] (s := 85) (p := 89) rfl rfl (fun hg8 => ?_) (fun hg8 => ?_) ?_
        rotate_left
        · refine L.move rfl rfl rfl ⟨_, rfl, rfl⟩ ?_
          refine L.len rfl Try.underlying30 rfl hpv rfl rfl ⟨_, rfl, rfl⟩ ?_
          refine L.leq rfl rfl rfl rfl ⟨_, rfl, rfl⟩ ?_
          refine L.pickT rfl rfl rfl rfl trivial ?_
          exact L.nil fun a w hh => hh.cutK 3 rfl
        · refine L.pass rfl rfl rfl ⟨_, _, rfl, rfl, rfl⟩ ?_
          refine L.pass rfl rfl rfl ⟨_, _, rfl, rfl, rfl⟩ ?_
          refine L.pass rfl rfl rfl ⟨_, _, rfl, rfl, rfl⟩ ?_
          refine L.pickF rfl rfl rfl rfl trivial ?_
          exact L.nil fun a w hh => hh.cutK 3 rfl
        refine L.move rfl rfl rfl trivial ?_
        refine' L.and [(false,15),(true,16),(true,17),(false,18),(false,19)] [(false,20),(false,21),(true,22),(true,23),(true,26),(true,24),(true,25),(false,27),(false,28),(false,29),(false,30),(false,31),(false,32)] (s := 90) (p := 95) rfl rfl (fun hg9 => ?_) (fun hg9 => ?_) ?_
        rotate_left
        · refine L.loadDW rfl Tf.a25 rfl hB1 (by first | simp | assumption) Tf.s25 List.not_mem_nil rfl ⟨_, rfl, rfl⟩ ?_
          refine L.move rfl rfl rfl ⟨_, rfl, rfl⟩ ?_
          refine L.call rfl rfl rfl (fun D13 hD13 => back_ok _ (sureV y).1 _ (hpv.up R2.up (hD13 _ (by simp))) (by omega)) rfl ⟨_, rfl, rfl⟩ (fun v13 D13 hD13 hp13 => ?_)
          have hb := hp13
          refine L.callV rfl rfl rfl (fun D14 hD14 => IsPairing_ok _ _ y (sureV y).1 _ (hy0.up (hD14 _ (by simp))) (hb.up R2.up (hD14 _ (by simp))) hn7) rfl ⟨_, rfl, rfl⟩ ?_
          refine L.pickT rfl rfl rfl rfl trivial ?_
          exact L.nil fun a w hh => (hh.cutK 4 rfl).ds (fun _ h => List.Mem.tail _ (h))
        · refine L.pass rfl rfl rfl ⟨_, _, rfl, rfl, rfl⟩ ?_
          refine L.pass rfl rfl rfl ⟨_, _, rfl, rfl, rfl⟩ ?_
          refine L.pass rfl rfl rfl ⟨_, _, rfl, rfl, rfl⟩ ?_
          refine L.pass rfl rfl rfl ⟨_, _, rfl, rfl, rfl⟩ ?_
          refine L.pickF rfl rfl rfl rfl trivial ?_
          exact L.nil fun a w hh => hh.cutK 4 rfl
        refine L.move rfl rfl rfl trivial ?_
        refine' L.and [(false,21),(true,22),(true,23),(true,26),(true,24),(true,25),(false,27),(false,28)] [(false,29),(false,30),(false,31),(false,32)] (s := 96) (p := 104) rfl rfl (fun hg10 => ?_) (fun hg10 => ?_) ?_
        rotate_left
        · refine L.loadDW rfl Tf.a25 rfl hB1 (by first | simp | assumption) Tf.s25 List.not_mem_nil rfl ⟨_, rfl, rfl⟩ ?_
          refine L.move rfl rfl rfl ⟨_, rfl, rfl⟩ ?_
          refine L.move rfl rfl rfl ⟨_, rfl, rfl⟩ ?_
          refine L.move rfl rfl rfl ⟨_, rfl, rfl⟩ ?_
          refine L.call rfl rfl rfl (fun D15 hD15 => back_ok _ (sureV y).1 _ (hpv.up R2.up (hD15 _ (by simp))) (by omega)) rfl ⟨_, rfl, rfl⟩ (fun v15 D15 hD15 hp15 => ?_)
          have hb := hp15
          refine L.callV rfl rfl rfl (fun D16 hD16 => SureR_ok _ _ _ y (nsD y) (sureV y).1 _ (hy0.up (hD16 _ (by simp))) (hsv.up RI.up (hD16 _ (by simp))) (hb.up R2.up (hD16 _ (by simp))) hf0 (ns_le hf0) hpq (by omega)) rfl ⟨_, rfl, rfl⟩ ?_
          refine L.eql rfl rfl rfl rfl ⟨_, rfl, rfl⟩ ?_
          refine L.pickT rfl rfl rfl rfl trivial ?_
          exact L.nil fun a w hh => (hh.cutK 7 rfl).ds (fun _ h => List.Mem.tail _ (h))
        · refine L.pass rfl rfl rfl ⟨_, _, rfl, rfl, rfl⟩ ?_
          refine L.pass rfl rfl rfl ⟨_, _, rfl, rfl, rfl⟩ ?_
          refine L.pass rfl rfl rfl ⟨_, _, rfl, rfl, rfl⟩ ?_
          refine L.pass rfl rfl rfl ⟨_, _, rfl, rfl, rfl⟩ ?_
          refine L.pass rfl rfl rfl ⟨_, _, rfl, rfl, rfl⟩ ?_
          refine L.pass rfl rfl rfl ⟨_, _, rfl, rfl, rfl⟩ ?_
          refine L.pass rfl rfl rfl ⟨_, _, rfl, rfl, rfl⟩ ?_
          refine L.pickF rfl rfl rfl rfl trivial ?_
          exact L.nil fun a w hh => hh.cutK 7 rfl
        refine L.move rfl rfl rfl trivial ?_
        refine' L.and [(false,30),(false,31)] [(false,32)] (s := 105) (p := 107) rfl rfl (fun hg11 => ?_) (fun hg11 => ?_) ?_
        rotate_left
        · refine L.callV rfl rfl rfl (fun D17 hD17 => awake_ok _) rfl ⟨_, rfl, rfl⟩ ?_
          refine L.pickT rfl rfl rfl rfl trivial ?_
          exact L.nil fun a w hh => hh.cutK 1 rfl
        · refine L.pass rfl rfl rfl ⟨_, _, rfl, rfl, rfl⟩ ?_
          refine L.pickF rfl rfl rfl rfl trivial ?_
          exact L.nil fun a w hh => hh.cutK 1 rfl
        refine L.assign rfl rfl rfl trivial ?_
        refine L.nil ?_
        refine C.next ?_
        refine C.ret ?_
        exact leave (vs := [_]) rfl rfl rfl ⟨rfl, trivial⟩ (fun D hD => congrArg Value.bool (ms_ok hz))
end Go.Fs
