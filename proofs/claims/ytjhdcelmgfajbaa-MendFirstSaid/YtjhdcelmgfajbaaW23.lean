/- Walks: the law MendPairs, joined. -/
import Derived.Test.YtjhdcelmgfajbaaW22
namespace Go.Fs
open Go.Proofs
open C7
theorem pairs_in {y : YardD} {n m : Nat} (h : ((!thin y || decide (9 < (n : Int))) || decide (6 < (m : Int))) = false) : thin y = true ∧ n ≤ 9 ∧ m ≤ 6 := by
  simp only [Bool.or_eq_false_iff, Bool.not_eq_false', decide_eq_false_iff_not] at h; exact ⟨h.1.1, by omega, by omega⟩
theorem prB_lt' {n : Nat} : ∀ (l : List (Int × Int)) (s : Nat), (l.foldl (prS n) (some s)).isSome = true → ∀ p ∈ l, 0 ≤ p.1 ∧ p.1 + 1 ≤ p.2 ∧ p.2 ≤ (n : Int) - 1
  | [], _, _ => by simp
  | (a, b) :: l, s, h => by
    rw [List.foldl_cons] at h
    have e : prS n (some s) (a, b) = if ((!inB a 0 ((n : Int) - 1) || !inB b (a + 1) ((n : Int) - 1)) || decide ((((s >>> a.toNat) ||| (s >>> b.toNat) : Nat) : Int) % 2 = 1)) = true then none else some (s ||| (2 ^ a.toNat ||| 2 ^ b.toNat)) := rfl
    rw [e] at h
    split at h
    · rw [prB_none] at h; cases h
    · rename_i hc
      intro p hp
      rcases List.mem_cons.1 hp with rfl | hp
      · rw [Bool.not_eq_true, Bool.or_eq_false_iff] at hc
        obtain ⟨h1, h2, h3, h4⟩ := prB_in hc.1
        exact ⟨h1, h3, h4⟩
      · exact prB_lt' l _ h p hp
theorem prB_lt {n m : Nat} {l : List (Int × Int)} (hm : m = n) (h : (prB n l).isSome = true) : ∀ p ∈ l, ∃ x z : Nat, p = ((x : Int), (z : Int)) ∧ x < m ∧ z < m := by
  intro p hp
  obtain ⟨h1, h2, h3⟩ := prB_lt' l 0 h p hp
  obtain ⟨a, b⟩ := p
  obtain ⟨x, rfl⟩ := Int.eq_ofNat_of_zero_le h1
  obtain ⟨z, rfl⟩ := Int.eq_ofNat_of_zero_le (show 0 ≤ b by simp only at *; omega)
  exact ⟨x, z, rfl, by simp only at *; omega, by simp only at *; omega⟩
/-- A pairing is read as one. -/
theorem prB_of {n : Nat} (hn7 : n ≤ 7) : ∀ (M : List (Nat × Nat)) (s : Nat), s < 128 → (∀ p ∈ M, p.1 < p.2 ∧ p.2 < n ∧ s.testBit p.1 = false ∧ s.testBit p.2 = false) → (ends M).Nodup → ((pI M).foldl (prS n) (some s)).isSome = true
  | [], _, _, _, _ => rfl
  | (a, b) :: M, s, hs, h, hnd => by
    obtain ⟨h1, h2, h3, h4⟩ := h (a, b) List.mem_cons_self
    simp only at h1 h2 h3 h4
    have hin : (!inB (a : Int) 0 ((n : Int) - 1) || !inB (b : Int) ((a : Int) + 1) ((n : Int) - 1)) = false := by
      rw [Bool.or_eq_false_iff, Bool.not_eq_false', Bool.not_eq_false', inB_iff, inB_iff]; omega
    have hz : ¬ ((s &&& (2 ^ a ||| 2 ^ b) : Nat) : Int) ≠ 0 := by
      rw [ip_bit]
      intro e
      have : ((s >>> a) ||| (s >>> b)).testBit 0 = false := by
        rw [Nat.testBit_or, Nat.testBit_shiftRight, Nat.testBit_shiftRight, Nat.add_zero, Nat.add_zero, h3, h4]; rfl
      rw [Nat.testBit_zero, decide_eq_false_iff_not] at this
      omega
    obtain ⟨g1, g2⟩ := ip_go hn7 hs hin hz
    unfold ends at hnd
    rw [List.flatMap_cons, List.nodup_append] at hnd
    obtain ⟨_, n2, n3⟩ := hnd
    show ((pI M).foldl (prS n) (prS n (some s) ((a : Int), (b : Int)))).isSome = true
    rw [g1]
    refine prB_of hn7 M _ g2 (fun p hp => ?_) n2
    obtain ⟨k1, k2, k3, k4⟩ := h p (List.mem_cons_of_mem _ hp)
    have out : ∀ x, x = p.1 ∨ x = p.2 → a ≠ x ∧ b ≠ x := fun x hx => by
      have hm : x ∈ List.flatMap (fun p : Nat × Nat => [p.1, p.2]) M := mem_ends.2 ⟨p, hp, hx⟩
      exact ⟨n3 a (by simp) x hm, n3 b (by simp) x hm⟩
    refine ⟨k1, k2, ?_, ?_⟩
    · rw [Nat.testBit_or, Nat.testBit_or, Nat.testBit_two_pow, Nat.testBit_two_pow, k3]; simp [out p.1 (Or.inl rfl)]
    · rw [Nat.testBit_or, Nat.testBit_or, Nat.testBit_two_pow, Nat.testBit_two_pow, k4]; simp [out p.2 (Or.inr rfl)]
theorem play_eq {y : YardD} {t : List Pt} (h : fault y = 0) (ht : isTruth y t = true) : playV y t = (((mostT y t : Nat) : Int), 0) := by unfold playV; rw [if_neg (by omega), if_pos ht]
theorem play_rng {y : YardD} {t : List Pt} (h : (decide (fault y = 0) && !isTruth y t) = true) : playV y t = (0, 2) := by
  simp only [Bool.and_eq_true, decide_eq_true_eq, Bool.not_eq_true'] at h
  unfold playV; rw [if_neg (by omega), h.2]; rfl
theorem play_flt {y : YardD} {t : List Pt} (h : fault y ≠ 0) : playV y t = (0, fault y) := by unfold playV; rw [if_pos h]
theorem makesN_R {y : YardD} {t : List Pt} (h7 : t.length ≤ 7) (l : List (Int × Int)) : makesN (sceneD y t) l = makesR y t l := by
  unfold makesN makesR; rw [fB_fits h7]; rfl
theorem pairs_facts {y : YardD} {t : List Pt} (h : fault y = 0) (ht : isTruth y t = true) : (playV y t).2 = 0 ∧ (pairsV y t).length ≤ 3 ∧ (prB y.chairs.length (pairsV y t)).isSome = true ∧ makesR y t (pairsV y t) = mostT y t := by
  have hn := (yOk h).len
  obtain ⟨hl, _⟩ := truthOk ht
  have e := play_eq h ht
  have hb := (scene_ok' hl (by omega)).bits
  obtain ⟨hM, hlen, hlt⟩ := pairB_ok (F := (sceneD y t).fits) (n := y.chairs.length) _ (sceneD y t).broken (Nat.le_refl _) hb
  have ep : pairsV y t = pI (pairB (sceneD y t).fits y.chairs.length (sceneD y t).broken) := by unfold pairsV; rw [e, if_pos rfl]
  have hsome : (prB y.chairs.length (pairsV y t)).isSome = true := by
    rw [ep]
    exact prB_of hn _ 0 (by omega) (fun p hp => ⟨hlt p hp, hb _ (hM.fit p hp).2.1, Nat.zero_testBit _, Nat.zero_testBit _⟩) hM.nd
  refine ⟨by rw [e], (prB_ok hn hsome).2, hsome, ?_⟩
  rw [ep, makesR_pI]
  have : fitN (fitB y t) (pairB (sceneD y t).fits y.chairs.length (sceneD y t).broken) = (pairB (sceneD y t).fits y.chairs.length (sceneD y t).broken).length := by
    unfold fitN
    rw [List.filter_eq_self.2 fun p hp => by have := (hM.fit p hp).2.2; rwa [fB_fits (by omega)] at this]
  rw [this, hlen]; rfl
theorem pp_eq {y : YardD} {t : List Pt} {l : List (Int × Int)} {many : Int} (h : fault y = 0) (ht : isTruth y t = true) : provePairsV y t l many = ((prB y.chairs.length l).isSome && decide ((makesR y t l : Int) ≥ many)) := by
  have hn := (yOk h).len
  obtain ⟨hl, _⟩ := truthOk ht
  unfold provePairsV
  rw [play_eq h ht, if_pos rfl, makesN_R (by omega)]
theorem pp_range {y : YardD} {t : List Pt} {l : List (Int × Int)} {many : Int} (h : (decide (fault y = 0) && !isTruth y t) = true) : (((decide ((playV y t).2 = 2) && decide (((pairsV y t).length : Int) = 0)) && !provePairsV y t l many) && true) = true := by
  unfold pairsV provePairsV; rw [play_rng h]; rfl
theorem pp_fault {y : YardD} {t : List Pt} {l : List (Int × Int)} {many : Int} (h : fault y ≠ 0) : (((decide ((playV y t).2 = fault y) && decide (((pairsV y t).length : Int) = 0)) && !provePairsV y t l many) && true) = true := by
  unfold pairsV provePairsV; rw [play_flt h, if_neg (by simpa using h), if_neg (by simpa using h)]; simp
theorem pp_ok {y : YardD} {t : List Pt} (h : fault y = 0) (ht : isTruth y t = true) : ((((decide ((playV y t).2 = 0) && decide (((pairsV y t).length : Int) ≤ 3)) && (prB y.chairs.length (pairsV y t)).isSome) && decide ((makesR y t (pairsV y t) : Int) = ((((prs y.chairs.length y.chairs.length 0).map pI).map (makesR y t)).foldl max 0 : Nat))) && true) = true := by
  have hn := (yOk h).len
  obtain ⟨hl, _⟩ := truthOk ht
  obtain ⟨h1, h2, h3, h4⟩ := pairs_facts h ht
  rw [h1, h3, h4, most_is hl (by omega)]; simp; omega
theorem MendPairs_ok (yv tv lv : Value) (y : YardD) (t : List Pt) (l : List (Int × Int)) (many : Int) (D : Data) (hy : YardIs D yv y) (ht : Sl D RP 3 tv t) (hl : Sl D R2 2 lv l) : Fn Try.prog 3 #[yv, tv, lv, .int .i64 many] D (fun _ v => v = .bool true) := by
  have hy0 := hy
  obtain ⟨cv, qv, rfl, hc, hq⟩ := hy
  refine enter 112 Try.func3 rfl rfl rfl rfl fun h0 => ?_
  refine C.seq ?_
  refine C.region [(false,0),(false,1)] rfl ?_
  refine L.boxD rfl rfl rfl rfl trivial (fun q1 E1 hE1 hB1 => ?_)
  refine L.assign rfl rfl rfl trivial ?_
  refine L.nil ?_
  refine C.next ?_
  refine C.seq ?_
  refine C.seq ?_
  refine C.region [(false,0),(false,1),(false,2),(false,3),(false,4),(false,5),(false,6),(false,7),(false,8),(false,9),(false,10),(false,11),(false,12)] rfl ?_
  refine L.loadDW rfl Tf.a25 rfl hB1 (by first | simp | assumption) Tf.s25 List.not_mem_nil rfl trivial ?_
  refine L.callV rfl rfl rfl (fun D1 hD1 => Thin_ok _ y _ (hy0.up (hD1 _ (by simp)))) rfl trivial ?_
  refine L.not rfl rfl rfl trivial ?_
  refine L.move rfl rfl rfl trivial ?_
  refine' L.or [(false,4),(false,5),(false,6),(false,7)] [(false,8),(false,9),(false,10),(false,11),(false,12)] (s := 16) (p := 20) rfl rfl (fun hg1 => ?_) (fun hg1 => ?_) ?_
  rotate_left
  · refine L.move rfl rfl rfl ⟨_, rfl, rfl⟩ ?_
    refine L.len rfl Try.underlying26 rfl ht rfl rfl ⟨_, rfl, rfl⟩ ?_
    refine L.gtr rfl rfl rfl rfl ⟨_, rfl, rfl⟩ ?_
    refine L.pickF rfl rfl rfl rfl trivial ?_
    exact L.nil fun a w hh => hh.cutK 3 rfl
  · refine L.pass rfl rfl rfl ⟨_, _, rfl, rfl, rfl⟩ ?_
    refine L.pass rfl rfl rfl ⟨_, _, rfl, rfl, rfl⟩ ?_
    refine L.pass rfl rfl rfl ⟨_, _, rfl, rfl, rfl⟩ ?_
    refine L.pickT rfl rfl rfl rfl trivial ?_
    exact L.nil fun a w hh => hh.cutK 3 rfl
  refine L.move rfl rfl rfl trivial ?_
  refine' L.or [(false,9),(false,10),(false,11),(false,12)] [] (s := 21) (p := 25) rfl rfl (fun hg2 => ?_) (fun hg2 => ?_) ?_
  rotate_left
  · refine L.move rfl rfl rfl ⟨_, rfl, rfl⟩ ?_
    refine L.len rfl Try.underlying27 rfl hl rfl rfl ⟨_, rfl, rfl⟩ ?_
    refine L.gtr rfl rfl rfl rfl ⟨_, rfl, rfl⟩ ?_
    refine L.pickF rfl rfl rfl rfl trivial ?_
    exact L.nil fun a w hh => hh.cutK 3 rfl
  · refine L.pass rfl rfl rfl ⟨_, _, rfl, rfl, rfl⟩ ?_
    refine L.pass rfl rfl rfl ⟨_, _, rfl, rfl, rfl⟩ ?_
    refine L.pass rfl rfl rfl ⟨_, _, rfl, rfl, rfl⟩ ?_
    refine L.pickT rfl rfl rfl rfl trivial ?_
    exact L.nil fun a w hh => hh.cutK 3 rfl
  refine L.nil ?_
  refine C.next ?_
  refine C.cond rfl (fun hc1 => ?_) (fun hc1 => ?_)
  · refine C.seq ?_
    refine C.region [(false,0),(false,1)] rfl ?_
    refine L.callV rfl rfl rfl (fun D2 hD2 => awake_ok _) rfl trivial ?_
    refine L.assign rfl rfl rfl trivial ?_
    refine L.nil ?_
    refine C.next ?_
    refine C.ret ?_
    refine C.thenRet ?_
    exact leave (vs := [_]) rfl rfl rfl ⟨rfl, trivial⟩ (fun D hD => rfl)
  · obtain ⟨hthin, ht9, hl6⟩ := pairs_in hc1
    obtain ⟨hlc, hlq⟩ := thin_len hthin
    refine C.skip ?_
    refine C.next ?_
    refine C.seq ?_
    refine C.region [(false,0),(false,1),(false,2),(false,3),(false,4),(false,5),(false,6),(false,7),(false,8),(false,9)] rfl ?_
    refine L.loadDW rfl Tf.a25 rfl hB1 (by first | simp | assumption) Tf.s25 List.not_mem_nil rfl trivial ?_
    refine L.call rfl rfl rfl (fun D3 hD3 => YardL_ok _ y _ (hy0.up (hD3 _ (by simp))) (by omega) (by omega)) rfl trivial (fun v3 D3 hD3 hp3 => ?_)
    have hw := hp3
    refine L.move rfl rfl rfl trivial ?_
    refine L.call rfl rfl rfl (fun D4 hD4 => TruthL_ok _ t _ (ht.up RP.up (hD4 _ (by simp))) (by omega)) rfl trivial (fun v4 D4 hD4 hp4 => ?_)
    have hz := hp4
    refine L.call rfl rfl rfl (fun D5 hD5 => Pairs_ok _ _ y t _ (hw.up (hD5 _ (by simp))) (hz.up RP.up (hD5 _ (by simp)))) rfl trivial (fun v5 D5 hD5 hp5 => ?_)
    obtain ⟨lv2, rfl, hlv⟩ := hp5
    refine L.move rfl rfl rfl trivial ?_
    refine L.extract rfl rfl rfl rfl trivial ?_
    refine L.extract rfl rfl rfl rfl trivial ?_
    refine L.assign rfl rfl rfl trivial ?_
    refine L.assign rfl rfl rfl trivial ?_
    refine L.nil ?_
    refine C.next ?_
    refine C.seq ?_
    refine C.region [(false,0),(false,1),(false,2),(false,3),(false,4),(false,5),(false,6),(false,7),(false,8)] rfl ?_
    refine L.loadDW rfl Tf.a25 rfl hB1 (by first | simp | assumption) Tf.s25 List.not_mem_nil rfl trivial ?_
    refine L.call rfl rfl rfl (fun D6 hD6 => YardL_ok _ y _ (hy0.up (hD6 _ (by simp))) (by omega) (by omega)) rfl trivial (fun v6 D6 hD6 hp6 => ?_)
    have hw := hp6
    refine L.move rfl rfl rfl trivial ?_
    refine L.call rfl rfl rfl (fun D7 hD7 => TruthL_ok _ t _ (ht.up RP.up (hD7 _ (by simp))) (by omega)) rfl trivial (fun v7 D7 hD7 hp7 => ?_)
    have hz := hp7
    refine L.move rfl rfl rfl trivial ?_
    refine L.call rfl rfl rfl (fun D8 hD8 => pairsL_ok _ l _ (hl.up R2.up (hD8 _ (by simp))) (by omega)) rfl trivial (fun v8 D8 hD8 hp8 => ?_)
    have hx := hp8
    refine L.move rfl rfl rfl trivial ?_
    refine L.callV rfl rfl rfl (fun D9 hD9 => ProvePairs_ok _ _ _ y t l many _ (hw.up (hD9 _ (by simp))) (hz.up RP.up (hD9 _ (by simp))) (hx.up R2.up (hD9 _ (by simp)))) rfl trivial ?_
    refine L.assign rfl rfl rfl trivial ?_
    refine L.nil ?_
    refine C.next ?_
    refine C.seq ?_
    refine C.region [(false,0),(false,1),(false,2)] rfl ?_
    refine L.loadDW rfl Tf.a25 rfl hB1 (by first | simp | assumption) Tf.s25 List.not_mem_nil rfl trivial ?_
    refine L.callV rfl rfl rfl (fun D10 hD10 => faultL_ok _ y _ (hy0.up (hD10 _ (by simp)))) rfl trivial ?_
    refine L.assign rfl rfl rfl trivial ?_
    refine L.nil ?_
    refine C.next ?_
    refine C.seq ?_
    refine C.seq ?_
    refine C.region [(false,0),(false,1),(false,2),(false,3),(false,4),(false,5),(false,6),(false,7)] rfl ?_
    refine L.move rfl rfl rfl trivial ?_
    refine L.eql rfl rfl rfl rfl trivial ?_
    refine L.move rfl rfl rfl trivial ?_
    refine' L.and [(false,3),(false,4),(false,5),(false,6),(false,7)] [] (s := 47) (p := 52) rfl rfl (fun hg3 => ?_) (fun hg3 => ?_) ?_
    rotate_left
    · refine L.loadDW rfl Tf.a25 rfl hB1 (by first | simp | assumption) Tf.s25 List.not_mem_nil rfl ⟨_, rfl, rfl⟩ ?_
      refine L.move rfl rfl rfl ⟨_, rfl, rfl⟩ ?_
      refine L.callV rfl rfl rfl (fun D11 hD11 => IsTruth_ok _ _ y t _ (hy0.up (hD11 _ (by simp))) (ht.up RP.up (hD11 _ (by simp)))) rfl ⟨_, rfl, rfl⟩ ?_
      refine L.not rfl rfl rfl ⟨_, rfl, rfl⟩ ?_
      refine L.pickT rfl rfl rfl rfl trivial ?_
      exact L.nil fun a w hh => hh.cutK 4 rfl
    · refine L.pass rfl rfl rfl ⟨_, _, rfl, rfl, rfl⟩ ?_
      refine L.pass rfl rfl rfl ⟨_, _, rfl, rfl, rfl⟩ ?_
      refine L.pass rfl rfl rfl ⟨_, _, rfl, rfl, rfl⟩ ?_
      refine L.pass rfl rfl rfl ⟨_, _, rfl, rfl, rfl⟩ ?_
      refine L.pickF rfl rfl rfl rfl trivial ?_
      exact L.nil fun a w hh => hh.cutK 4 rfl
    refine L.nil ?_
    refine C.next ?_
    refine C.cond rfl (fun hc2 => ?_) (fun hc2 => ?_)
    · refine C.region [(false,0)] rfl ?_
      refine L.assign rfl rfl rfl trivial ?_
      refine L.nil ?_
      refine C.next ?_
      refine C.seq ?_
      refine C.seq ?_
      refine C.region [(false,0),(false,1)] rfl ?_
      refine L.move rfl rfl rfl trivial ?_
      refine L.neq rfl rfl rfl rfl trivial ?_
      refine L.nil ?_
      refine C.next ?_
      refine C.condD rfl (fun hc3 => ?_) (fun hc3 => ?_)
      · refine C.seq ?_
        refine C.region [(false,0),(false,1),(false,2),(false,3),(false,4),(false,5),(false,6),(false,7),(false,8),(false,9),(false,10),(false,11),(false,12),(false,13),(false,14),(false,15)] rfl ?_
        refine L.move rfl rfl rfl trivial ?_
        refine L.move rfl rfl rfl trivial ?_
        refine L.eql rfl rfl rfl rfl trivial ?_
        refine L.move rfl rfl rfl trivial ?_
        refine' L.and [(false,4),(false,5),(false,6),(false,7)] [(false,8),(false,9),(false,10),(false,11),(false,12),(false,13),(false,14),(false,15)] (s := 58) (p := 62) rfl rfl (fun hg4 => ?_) (fun hg4 => ?_) ?_
        rotate_left
        · refine L.move rfl rfl rfl ⟨_, rfl, rfl⟩ ?_
          refine L.len rfl Try.underlying30 rfl hlv rfl rfl ⟨_, rfl, rfl⟩ ?_
          refine L.eql rfl rfl rfl rfl ⟨_, rfl, rfl⟩ ?_
          refine L.pickT rfl rfl rfl rfl trivial ?_
          exact L.nil fun a w hh => hh.cutK 3 rfl
        · refine L.pass rfl rfl rfl ⟨_, _, rfl, rfl, rfl⟩ ?_
          refine L.pass rfl rfl rfl ⟨_, _, rfl, rfl, rfl⟩ ?_
          refine L.pass rfl rfl rfl ⟨_, _, rfl, rfl, rfl⟩ ?_
          refine L.pickF rfl rfl rfl rfl trivial ?_
          exact L.nil fun a w hh => hh.cutK 3 rfl
        refine L.move rfl rfl rfl trivial ?_
        refine' L.and [(false,9),(false,10),(false,11)] [(false,12),(false,13),(false,14),(false,15)] (s := 63) (p := 66) rfl rfl (fun hg5 => ?_) (fun hg5 => ?_) ?_
        rotate_left
        · refine L.move rfl rfl rfl ⟨_, rfl, rfl⟩ ?_
          refine L.not rfl rfl rfl ⟨_, rfl, rfl⟩ ?_
          refine L.pickT rfl rfl rfl rfl trivial ?_
          exact L.nil fun a w hh => hh.cutK 2 rfl
        · refine L.pass rfl rfl rfl ⟨_, _, rfl, rfl, rfl⟩ ?_
          refine L.pass rfl rfl rfl ⟨_, _, rfl, rfl, rfl⟩ ?_
          refine L.pickF rfl rfl rfl rfl trivial ?_
          exact L.nil fun a w hh => hh.cutK 2 rfl
        refine L.move rfl rfl rfl trivial ?_
        refine' L.and [(false,13),(false,14)] [(false,15)] (s := 67) (p := 69) rfl rfl (fun hg6 => ?_) (fun hg6 => ?_) ?_
        rotate_left
        · refine L.callV rfl rfl rfl (fun D12 hD12 => awake_ok _) rfl ⟨_, rfl, rfl⟩ ?_
          refine L.pickT rfl rfl rfl rfl trivial ?_
          exact L.nil fun a w hh => hh.cutK 1 rfl
        · refine L.pass rfl rfl rfl ⟨_, _, rfl, rfl, rfl⟩ ?_
          refine L.pickF rfl rfl rfl rfl trivial ?_
          exact L.nil fun a w hh => hh.cutK 1 rfl
        refine L.assign rfl rfl rfl trivial ?_
        refine L.nil ?_
        refine C.next ?_
        refine C.ret ?_
        refine C.thenRet ?_
        exact leave (vs := [_]) rfl rfl rfl ⟨rfl, trivial⟩ (fun D hD => congrArg Value.bool (pp_range hc2))
      · exact absurd hc3 (by decide)
    · refine C.skip ?_
      refine C.next ?_
      refine C.seq ?_
      refine C.seq ?_
      refine C.region [(false,0),(false,1)] rfl ?_
      refine L.move rfl rfl rfl trivial ?_
      refine L.neq rfl rfl rfl rfl trivial ?_
      refine L.nil ?_
      refine C.next ?_
      refine C.condD rfl (fun hc4 => ?_) (fun hc4 => ?_)
      · refine C.seq ?_
        refine C.region [(false,0),(false,1),(false,2),(false,3),(false,4),(false,5),(false,6),(false,7),(false,8),(false,9),(false,10),(false,11),(false,12),(false,13),(false,14),(false,15)] rfl ?_
        refine L.move rfl rfl rfl trivial ?_
        refine L.move rfl rfl rfl trivial ?_
        refine L.eql rfl rfl rfl rfl trivial ?_
        refine L.move rfl rfl rfl trivial ?_
        refine' L.and [(false,4),(false,5),(false,6),(false,7)] [(false,8),(false,9),(false,10),(false,11),(false,12),(false,13),(false,14),(false,15)] (s := 58) (p := 62) rfl rfl (fun hg7 => ?_) (fun hg7 => ?_) ?_
        rotate_left
        · refine L.move rfl rfl rfl ⟨_, rfl, rfl⟩ ?_
          refine L.len rfl Try.underlying30 rfl hlv rfl rfl ⟨_, rfl, rfl⟩ ?_
          refine L.eql rfl rfl rfl rfl ⟨_, rfl, rfl⟩ ?_
          refine L.pickT rfl rfl rfl rfl trivial ?_
          exact L.nil fun a w hh => hh.cutK 3 rfl
        · refine L.pass rfl rfl rfl ⟨_, _, rfl, rfl, rfl⟩ ?_
          refine L.pass rfl rfl rfl ⟨_, _, rfl, rfl, rfl⟩ ?_
          refine L.pass rfl rfl rfl ⟨_, _, rfl, rfl, rfl⟩ ?_
          refine L.pickF rfl rfl rfl rfl trivial ?_
          exact L.nil fun a w hh => hh.cutK 3 rfl
        refine L.move rfl rfl rfl trivial ?_
        refine' L.and [(false,9),(false,10),(false,11)] [(false,12),(false,13),(false,14),(false,15)] (s := 63) (p := 66) rfl rfl (fun hg8 => ?_) (fun hg8 => ?_) ?_
        rotate_left
        · refine L.move rfl rfl rfl ⟨_, rfl, rfl⟩ ?_
          refine L.not rfl rfl rfl ⟨_, rfl, rfl⟩ ?_
          refine L.pickT rfl rfl rfl rfl trivial ?_
          exact L.nil fun a w hh => hh.cutK 2 rfl
        · refine L.pass rfl rfl rfl ⟨_, _, rfl, rfl, rfl⟩ ?_
          refine L.pass rfl rfl rfl ⟨_, _, rfl, rfl, rfl⟩ ?_
          refine L.pickF rfl rfl rfl rfl trivial ?_
          exact L.nil fun a w hh => hh.cutK 2 rfl
        refine L.move rfl rfl rfl trivial ?_
        refine' L.and [(false,13),(false,14)] [(false,15)] (s := 67) (p := 69) rfl rfl (fun hg9 => ?_) (fun hg9 => ?_) ?_
        rotate_left
        · refine L.callV rfl rfl rfl (fun D13 hD13 => awake_ok _) rfl ⟨_, rfl, rfl⟩ ?_
          refine L.pickT rfl rfl rfl rfl trivial ?_
          exact L.nil fun a w hh => hh.cutK 1 rfl
        · refine L.pass rfl rfl rfl ⟨_, _, rfl, rfl, rfl⟩ ?_
          refine L.pickF rfl rfl rfl rfl trivial ?_
          exact L.nil fun a w hh => hh.cutK 1 rfl
        refine L.assign rfl rfl rfl trivial ?_
        refine L.nil ?_
        refine C.next ?_
        refine C.ret ?_
        refine C.thenRet ?_
        exact leave (vs := [_]) rfl rfl rfl ⟨rfl, trivial⟩ (fun D hD => congrArg Value.bool (pp_fault hc4))
      · have hf0 : fault y = 0 := by omega
        have hit : isTruth y t = true := by simpa [hf0] using hc2
        have hyo := yOk hf0
        have hn7 := hyo.len
        obtain ⟨hlen, hbt⟩ := truthOk hit
        obtain ⟨hpe, hps3, hpis, hpmk⟩ := pairs_facts hf0 hit
        have hpv := prB_lt hlen hpis
        refine C.skip ?_
        refine C.next ?_
        refine C.seq ?_
        refine C.seq ?_
        refine C.region [(false,0),(false,1),(false,2),(false,3),(false,4),(false,5),(false,6),(false,7),(false,8),(false,9),(false,10),(false,11),(false,12)] rfl ?_
        refine L.move rfl rfl rfl trivial ?_
        refine L.loadDW rfl Tf.a25 rfl hB1 (by first | simp | assumption) Tf.s25 List.not_mem_nil rfl trivial ?_
        refine L.move rfl rfl rfl trivial ?_
        refine L.callV rfl rfl rfl (fun D14 hD14 => IsPairing_ok _ _ y l _ (hy0.up (hD14 _ (by simp))) (hl.up R2.up (hD14 _ (by simp))) hn7) rfl trivial ?_
        refine L.move rfl rfl rfl trivial ?_
        refine' L.and [(false,5),(false,6),(false,7),(false,8),(false,9),(false,10),(false,11)] [(false,12)] (s := 74) (p := 81) rfl rfl (fun hg10 => ?_) (fun hg10 => ?_) ?_
        rotate_left
        · have hpi := prB_lt hlen hg10
          refine L.loadDW rfl Tf.a25 rfl hB1 (by first | simp | assumption) Tf.s25 List.not_mem_nil rfl ⟨_, rfl, rfl⟩ ?_
          refine L.move rfl rfl rfl ⟨_, rfl, rfl⟩ ?_
          refine L.move rfl rfl rfl ⟨_, rfl, rfl⟩ ?_
          refine L.callV rfl rfl rfl (fun D15 hD15 => Makes_ok _ _ _ y t l _ (hy0.up (hD15 _ (by simp))) (ht.up RP.up (hD15 _ (by simp))) (hl.up R2.up (hD15 _ (by simp))) hyo hlen hbt hpi (by omega)) rfl ⟨_, rfl, rfl⟩ ?_
          refine L.move rfl rfl rfl ⟨_, rfl, rfl⟩ ?_
          refine L.geq rfl rfl rfl rfl ⟨_, rfl, rfl⟩ ?_
          refine L.pickT rfl rfl rfl rfl trivial ?_
          exact L.nil fun a w hh => hh.cutK 6 rfl
        · refine L.pass rfl rfl rfl ⟨_, _, rfl, rfl, rfl⟩ ?_
          refine L.pass rfl rfl rfl ⟨_, _, rfl, rfl, rfl⟩ ?_
          refine L.pass rfl rfl rfl ⟨_, _, rfl, rfl, rfl⟩ ?_
          refine L.pass rfl rfl rfl ⟨_, _, rfl, rfl, rfl⟩ ?_
          refine L.pass rfl rfl rfl ⟨_, _, rfl, rfl, rfl⟩ ?_
          refine L.pass rfl rfl rfl ⟨_, _, rfl, rfl, rfl⟩ ?_
          refine L.pickF rfl rfl rfl rfl trivial ?_
          exact L.nil fun a w hh => hh.cutK 6 rfl
        refine L.neqB rfl Try.underlying4 rfl rfl rfl trivial ?_
        refine L.nil ?_
        refine C.next ?_
        refine C.cond rfl (fun hc5 => ?_) (fun hc5 => ?_)
        · rw [pp_eq hf0 hit] at hc5; simp at hc5
        · refine C.skip ?_
          refine C.next ?_
          refine C.seq ?_
          refine C.draw [] 9 [0,1,2,3,4,5,6,7,8,9,10,11,12,13,14,15,16,19,20,21,17,18,22,23,24,25,26,27,28,29] [false,false,false,false,false,false,false,false,false,true,true,false,false,false,false,true,true,true,true,true,true,true,true,false,false,false,false,false,false,false] [(false,0),(false,1),(false,2),(false,3),(false,4),(false,5),(false,6),(false,7),(false,8),(true,9),(true,10),(false,11),(false,12),(false,13),(false,14),(true,15),(true,16),(true,19),(true,20),(true,21),(true,17),(true,18),(true,22),(false,23),(false,24),(false,25),(false,26),(false,27),(false,28),(false,29)] Tf.follows (fun _ _ _ h => np_body (P := Try.prog) (fn := Try.f3) _ _ _ h) (by kernel_rfl) rfl ?_
          refine L.move rfl rfl rfl trivial ?_
          refine L.eql rfl rfl rfl rfl trivial ?_
          refine L.move rfl rfl rfl trivial ?_
          refine' L.and [(false,3),(false,4),(false,5),(false,6)] [(false,7),(false,8),(true,9),(true,10),(false,11),(false,12),(false,13),(false,14),(true,15),(true,16),(true,19),(true,20),(true,21),(true,17),(true,18),(true,22),(false,23),(false,24),(false,25),(false,26),(false,27),(false,28),(false,29)] (s := 85) (p := 89) rfl rfl (fun hg11 => ?_) (fun hg11 => ?_) ?_
          rotate_left
          · refine L.move rfl rfl rfl ⟨_, rfl, rfl⟩ ?_
            refine L.len rfl Try.underlying30 rfl hlv rfl rfl ⟨_, rfl, rfl⟩ ?_
            refine L.leq rfl rfl rfl rfl ⟨_, rfl, rfl⟩ ?_
            refine L.pickT rfl rfl rfl rfl trivial ?_
            exact L.nil fun a w hh => hh.cutK 3 rfl
          · refine L.pass rfl rfl rfl ⟨_, _, rfl, rfl, rfl⟩ ?_
            refine L.pass rfl rfl rfl ⟨_, _, rfl, rfl, rfl⟩ ?_
            refine L.pass rfl rfl rfl ⟨_, _, rfl, rfl, rfl⟩ ?_
            refine L.pickF rfl rfl rfl rfl trivial ?_
            exact L.nil fun a w hh => hh.cutK 3 rfl
          refine L.move rfl rfl rfl trivial ?_
          refine' L.and [(false,8),(true,9),(true,10),(false,11),(false,12)] [(false,13),(false,14),(true,15),(true,16),(true,19),(true,20),(true,21),(true,17),(true,18),(true,22),(false,23),(false,24),(false,25),(false,26),(false,27),(false,28),(false,29)] (s := 90) (p := 95) rfl rfl (fun hg12 => ?_) (fun hg12 => ?_) ?_
          rotate_left
          · refine L.loadDW rfl Tf.a25 rfl hB1 (by first | simp | assumption) Tf.s25 List.not_mem_nil rfl ⟨_, rfl, rfl⟩ ?_
            refine L.move rfl rfl rfl ⟨_, rfl, rfl⟩ ?_
            refine L.call rfl rfl rfl (fun D16 hD16 => back_ok _ (pairsV y t) _ (hlv.up R2.up (hD16 _ (by simp))) (by omega)) rfl ⟨_, rfl, rfl⟩ (fun v16 D16 hD16 hp16 => ?_)
            have hb := hp16
            refine L.callV rfl rfl rfl (fun D17 hD17 => IsPairing_ok _ _ y (pairsV y t) _ (hy0.up (hD17 _ (by simp))) (hb.up R2.up (hD17 _ (by simp))) hn7) rfl ⟨_, rfl, rfl⟩ ?_
            refine L.pickT rfl rfl rfl rfl trivial ?_
            exact L.nil fun a w hh => (hh.cutK 4 rfl).ds (fun _ h => List.Mem.tail _ (h))
          · refine L.pass rfl rfl rfl ⟨_, _, rfl, rfl, rfl⟩ ?_
            refine L.pass rfl rfl rfl ⟨_, _, rfl, rfl, rfl⟩ ?_
            refine L.pass rfl rfl rfl ⟨_, _, rfl, rfl, rfl⟩ ?_
            refine L.pass rfl rfl rfl ⟨_, _, rfl, rfl, rfl⟩ ?_
            refine L.pickF rfl rfl rfl rfl trivial ?_
            exact L.nil fun a w hh => hh.cutK 4 rfl
          refine L.move rfl rfl rfl trivial ?_
          refine' L.and [(false,14),(true,15),(true,16),(true,19),(true,20),(true,21),(true,17),(true,18),(true,22),(false,23),(false,24),(false,25)] [(false,26),(false,27),(false,28),(false,29)] (s := 96) (p := 108) rfl rfl (fun hg13 => ?_) (fun hg13 => ?_) ?_
          rotate_left
          · refine L.loadDW rfl Tf.a25 rfl hB1 (by first | simp | assumption) Tf.s25 List.not_mem_nil rfl ⟨_, rfl, rfl⟩ ?_
            refine L.move rfl rfl rfl ⟨_, rfl, rfl⟩ ?_
            refine L.move rfl rfl rfl ⟨_, rfl, rfl⟩ ?_
            refine L.loadDW rfl Tf.a25 rfl hB1 (by first | simp | assumption) Tf.s25 List.not_mem_nil rfl ⟨_, rfl, rfl⟩ ?_
            refine L.move rfl rfl rfl ⟨_, rfl, rfl⟩ ?_
            refine L.loadDW rfl Tf.a25 rfl hB1 (by first | simp | assumption) Tf.s25 List.not_mem_nil rfl ⟨_, rfl, rfl⟩ ?_
            refine L.call rfl rfl rfl (fun D18 hD18 => back_ok _ (pairsV y t) _ (hlv.up R2.up (hD18 _ (by simp))) (by omega)) rfl ⟨_, rfl, rfl⟩ (fun v18 D18 hD18 hp18 => ?_)
            have hb := hp18
            refine L.callV rfl rfl rfl (fun D19 hD19 => Makes_ok _ _ _ y t (pairsV y t) _ (hy0.up (hD19 _ (by simp))) (ht.up RP.up (hD19 _ (by simp))) (hb.up R2.up (hD19 _ (by simp))) hyo hlen hbt hpv (by omega)) rfl ⟨_, rfl, rfl⟩ ?_
            refine L.call rfl rfl rfl (fun D20 hD20 => Pairings_ok hn7 _ _ (hy0.up (hD20 _ (by simp)))) rfl ⟨_, rfl, rfl⟩ (fun v20 D20 hD20 hp20 => ?_)
            have hps := hp20
            refine L.callV rfl rfl rfl (fun D21 hD21 => Most_ok _ _ _ y t _ _ (hy0.up (hD21 _ (by simp))) (ht.up RP.up (hD21 _ (by simp))) (hps.up RLP.up (hD21 _ (by simp))) hyo hlen hbt (prs_in hn7 hlen)) rfl ⟨_, rfl, rfl⟩ ?_
            refine L.eql rfl rfl rfl rfl ⟨_, rfl, rfl⟩ ?_
            refine L.pickT rfl rfl rfl rfl trivial ?_
            exact L.nil fun a w hh => (hh.cutK 11 rfl).ds (fun _ h => List.Mem.tail _ (List.Mem.tail _ (h)))
          · refine L.pass rfl rfl rfl ⟨_, _, rfl, rfl, rfl⟩ ?_
            refine L.pass rfl rfl rfl ⟨_, _, rfl, rfl, rfl⟩ ?_
            refine L.pass rfl rfl rfl ⟨_, _, rfl, rfl, rfl⟩ ?_
            refine L.pass rfl rfl rfl ⟨_, _, rfl, rfl, rfl⟩ ?_
            refine L.pass rfl rfl rfl ⟨_, _, rfl, rfl, rfl⟩ ?_
            refine L.pass rfl rfl rfl ⟨_, _, rfl, rfl, rfl⟩ ?_
            refine L.pass rfl rfl rfl ⟨_, _, rfl, rfl, rfl⟩ ?_
            refine L.pass rfl rfl rfl ⟨_, _, rfl, rfl, rfl⟩ ?_
            refine L.pass rfl rfl rfl ⟨_, _, rfl, rfl, rfl⟩ ?_
            refine L.pass rfl rfl rfl ⟨_, _, rfl, rfl, rfl⟩ ?_
            refine L.pass rfl rfl rfl ⟨_, _, rfl, rfl, rfl⟩ ?_
            refine L.pickF rfl rfl rfl rfl trivial ?_
            exact L.nil fun a w hh => hh.cutK 11 rfl
          refine L.move rfl rfl rfl trivial ?_
          refine' L.and [(false,27),(false,28)] [(false,29)] (s := 109) (p := 111) rfl rfl (fun hg14 => ?_) (fun hg14 => ?_) ?_
          rotate_left
          · refine L.callV rfl rfl rfl (fun D22 hD22 => awake_ok _) rfl ⟨_, rfl, rfl⟩ ?_
            refine L.pickT rfl rfl rfl rfl trivial ?_
            exact L.nil fun a w hh => hh.cutK 1 rfl
          · refine L.pass rfl rfl rfl ⟨_, _, rfl, rfl, rfl⟩ ?_
            refine L.pickF rfl rfl rfl rfl trivial ?_
            exact L.nil fun a w hh => hh.cutK 1 rfl
          refine L.assign rfl rfl rfl trivial ?_
          refine L.nil ?_
          refine C.next ?_
          refine C.ret ?_
          exact leave (vs := [_]) rfl rfl rfl ⟨rfl, trivial⟩ (fun D hD => congrArg Value.bool (pp_ok hf0 hit))
end Go.Fs
