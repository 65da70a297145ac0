/- Of the proof of MendLeft: W34. -/
import Derived.Test.YtjhdcelmgfajbaaZMendLeftF
namespace Go.Fs
open Go.Proofs
open C7
def orL (l : List Int) : Nat := l.foldl (fun n x => n ||| 2 ^ x.toNat) 0
theorem orL_step {l : List Int} {k j : Nat} (h : l[k]? = some (j : Int)) : orL (l.take (k + 1)) = orL (l.take k) ||| 2 ^ j := by
  unfold orL; rw [List.take_add_one, h, Option.toList_some, List.foldl_append]; rfl
theorem bits_facts : ∀ b, b < 32 → orL (bitsL b) = b ∧ ∀ k, k < (bitsL b).length → (bitsL b)[k]? = some ((((bitsL b).getD k 0).toNat : Nat) : Int) ∧ (0 < k → (bitsL b).getD (k - 1) 0 < (bitsL b).getD k 0) := by decide +kernel
theorem orL_lt : ∀ b k, b < 32 → orL ((bitsL b).take k) < 128 := fun b k hb => by
  have key : ∀ b, b < 32 → ∀ k, k ≤ 7 → orL ((bitsL b).take k) < 128 := by decide +kernel
  rcases Nat.le_total k 7 with h | h
  · exact key b hb k h
  · have := key b hb 7 (by omega)
    rw [List.take_of_length_le (by have := bk_len b 7; unfold bitsL; omega)] at this ⊢
    exact this
theorem bits_in {b n j : Nat} (hb : b < 2 ^ n) (h : (j : Int) ∈ bitsL b) : j < n := by
  have := (mem_bits.1 ⟨_, h, rfl⟩).2
  exact Nat.lt_of_not_le fun hle => by
    rw [Nat.testBit_lt_two_pow (Nat.lt_of_lt_of_le hb (Nat.pow_le_pow_right (by omega) hle))] at this; cases this
theorem left_facts {y : YardD} (h : fault y = 0) : ∃ b, b < 2 ^ y.claims.length ∧ (leaveV y).1 = bitsL b ∧ pos y (bitsL b) = true ∧ ∀ c, c < 2 ^ y.claims.length → pos y (bitsL c) = true → shortB (bitsL c) (bitsL b) = false := by
  obtain ⟨⟨b, h0, e, p⟩, h1⟩ := best_inv h _ (Nat.le_refl _)
  rw [e] at h1
  exact ⟨b, h0, by rw [leave_is h]; exact e, p, h1⟩
theorem mem_someK {cl : List (Int × Int)} {b : Nat} {r : Int × Int} : ∀ k, r ∈ someK cl b k ↔ ∃ j, j < k ∧ b.testBit j = true ∧ cl[j]? = some r
  | 0 => by simp [someK]
  | k + 1 => by
    rw [someK]
    have ih := mem_someK (cl := cl) (b := b) (r := r) k
    split
    · rename_i h
      rw [List.mem_append, ih, Option.mem_toList]
      constructor
      · rintro (⟨j, h1, h2⟩ | h1)
        · exact ⟨j, by omega, h2⟩
        · exact ⟨k, by omega, h, h1⟩
      · rintro ⟨j, h1, h2, h3⟩
        rcases Nat.lt_succ_iff_lt_or_eq.1 h1 with h1 | rfl
        · exact Or.inl ⟨j, h1, h2, h3⟩
        · exact Or.inr h3
    · rename_i h
      rw [ih]
      constructor
      · rintro ⟨j, h1, h2⟩; exact ⟨j, by omega, h2⟩
      · rintro ⟨j, h1, h2, h3⟩
        rcases Nat.lt_succ_iff_lt_or_eq.1 h1 with h1 | rfl
        · exact ⟨j, h1, h2, h3⟩
        · exact absurd h2 h
theorem fault_some {y : YardD} (h : fault y = 0) (b : Nat) : fault (someY y b) = 0 := by
  unfold fault at h ⊢
  have hl : (someY y b).claims.length ≤ y.claims.length := someK_len _ _ _
  split at h
  · omega
  · rename_i h1
    rw [if_neg (by show ¬ (7 < y.chairs.length ∨ 5 < (someY y b).claims.length); omega)]
    split at h
    · omega
    · rename_i h2
      have h3 : yardOk (someY y b) = true := by
        have : yardOk y = true := by simpa using h2
        simp only [yardOk, Bool.and_eq_true, List.all_eq_true] at this ⊢
        refine ⟨this.1, fun r hr => ?_⟩
        obtain ⟨j, _, _, e⟩ := (mem_someK _).1 hr
        exact this.2 r (List.mem_of_getElem? e)
      rw [if_neg (by rw [h3]; simp)]
      exact h
theorem right_all_iff {cl : List (Int × Int)} {n : Int} : rightO cl [] n = true ↔ ∀ r ∈ cl, inB n r.1 r.2 = true := by
  rw [right_iff]
  constructor
  · intro h r hr
    obtain ⟨j, hj⟩ := List.mem_iff_getElem?.1 hr
    rcases h j (List.getElem?_eq_some_iff.1 hj).1 with h | h
    · simp at h
    · rwa [rightB_at hj] at h
  · intro h j hj
    right
    rw [rightB_at (List.getElem?_eq_getElem hj)]
    exact h _ (List.getElem_mem hj)
theorem some_bnd {y : YardD} (h : fault y = 0) (b : Nat) : (boundsV (someY y (dif (2 ^ y.claims.length - 1) b))).2 = if pos y (bitsL b) = true then 0 else 11 := by
  rw [bnd_err (fault_some h _)]
  have bit : ∀ j, (dif (2 ^ y.claims.length - 1) b).testBit j = (decide (j < y.claims.length) && !b.testBit j) := fun j => by rw [dif_bit, Nat.testBit_two_pow_sub_one]
  have key : (¬ scenesD (someY y (dif (2 ^ y.claims.length - 1) b)) [] = []) ↔ pos y (bitsL b) = true := by
    rw [pos_can h, can_iff h, show (¬ scenesD (someY y (dif (2 ^ y.claims.length - 1) b)) [] = []) ↔ (0 : Int) < ((scenesD (someY y (dif (2 ^ y.claims.length - 1) b)) []).length : Int) by rw [← List.length_eq_zero_iff]; omega, scenes_iff]
    constructor
    · rintro ⟨t, h1, h2⟩
      refine ⟨t, h1, fun j hj => ?_⟩
      have hjl : j < y.claims.length := by rw [bit, Bool.and_eq_true, decide_eq_true_eq] at hj; exact hj.1
      refine ⟨hjl, ?_⟩
      rw [rightB_at (List.getElem?_eq_getElem hjl)]
      exact right_all_iff.1 h2 _ ((mem_someK _).2 ⟨j, hjl, hj, List.getElem?_eq_getElem hjl⟩)
    · rintro ⟨t, h1, h2⟩
      refine ⟨t, h1, right_all_iff.2 fun r hr => ?_⟩
      obtain ⟨j, hj, hb, e⟩ := (mem_someK _).1 hr
      have := (h2 j hb).2
      rwa [rightB_at e] at this
  by_cases hp : pos y (bitsL b) = true
  · rw [if_pos hp, if_neg (key.2 hp)]
  · rw [if_neg hp, if_pos (Classical.not_not.1 fun e => hp (key.1 e))]
theorem mlf_ok {y : YardD} {b n : Nat} (h : fault y = 0) (_hb : b < 2 ^ y.claims.length) (hp : pos y (bitsL b) = true) (hm : ∀ c, c < 2 ^ y.claims.length → pos y (bitsL c) = true → shortB (bitsL c) (bitsL b) = false) (hn : n < 2 ^ y.claims.length) :
    ((decide ((boundsV (someY y (dif (2 ^ y.claims.length - 1) b))).2 = 0) && (decide ((boundsV (someY y (dif (2 ^ y.claims.length - 1) n))).2 = 11) || (decide ((boundsV (someY y (dif (2 ^ y.claims.length - 1) n))).2 = 0) && !shortB (bitsL n) (bitsL b)))) && true) = true := by
  rw [some_bnd h b, some_bnd h n, if_pos hp]
  cases e : pos y (bitsL n) with
  | true => rw [hm n hn e]; rfl
  | false => rfl
set_option maxHeartbeats 2000000 in
theorem MendLeft_ok (yv : Value) (y : YardD) (tr : Int) (D : Data) (hy : YardIs D yv y) (htr : 0 ≤ tr ∧ tr ≤ 255) : Fn Try.prog 16 #[yv, .int .u8 tr] D (fun _ v => v = .bool true) := by
  have hy0 := hy
  obtain ⟨cv, qv, rfl, hc, hq⟩ := hy
  obtain ⟨tn, rfl⟩ := Int.eq_ofNat_of_zero_le htr.1
  refine enter 118 Try.func16 rfl rfl rfl rfl fun h0 => ?_
  refine C.seq ?_
  refine C.region [(false,0),(false,1)] rfl ?_
  refine L.boxD rfl rfl rfl rfl trivial (fun q1 E1 hE1 hB1 => ?_)
  refine L.assign rfl rfl rfl trivial ?_
  refine L.nil ?_
  refine C.next ?_
  refine C.seq ?_
  refine C.seq ?_
  refine C.region [(false,0),(false,1),(false,2)] rfl ?_
  refine L.loadDW rfl Tf.a25 rfl hB1 (by first | simp | assumption) Tf.s25 List.not_mem_nil rfl trivial ?_
  refine L.callV rfl rfl rfl (fun D1 hD1 => ready_ok _ y _ (hy0.up (hD1 _ (by simp)))) rfl trivial ?_
  refine L.not rfl rfl rfl trivial ?_
  refine L.nil ?_
  refine C.next ?_
  refine C.cond rfl (fun hc1 => ?_) (fun hc1 => ?_)
  · refine C.seq ?_
    refine C.region [(false,0),(false,1)] rfl ?_
    refine L.callV rfl rfl rfl (fun D2 hD2 => awake_ok _) rfl trivial ?_
    refine L.assign rfl rfl rfl trivial ?_
    refine L.nil ?_
    refine C.next ?_
    refine C.ret ?_
    refine C.thenRet ?_
    exact leave (vs := [_]) rfl rfl rfl ⟨rfl, trivial⟩ (fun D hD => rfl)
  · obtain ⟨hthin, hf0⟩ := ready_inB hc1
    obtain ⟨hlc, hlq⟩ := thin_len hthin
    have hq5 := (yOk hf0).cls
    have hp5 : 2 ^ y.claims.length ≤ 2 ^ 5 := Nat.pow_le_pow_right (by omega) hq5
    have hp1 : 1 ≤ 2 ^ y.claims.length := Nat.one_le_two_pow
    refine C.skip ?_
    refine C.next ?_
    refine C.seq ?_
    refine C.region [(false,0),(false,1),(false,2),(false,3),(false,4),(false,5),(false,6),(false,7)] rfl ?_
    refine L.loadDW rfl Tf.a25 rfl hB1 (by first | simp | assumption) Tf.s25 List.not_mem_nil rfl trivial ?_
    refine L.call rfl rfl rfl (fun D3 hD3 => YardL_ok _ y _ (hy0.up (hD3 _ (by simp))) (by omega) (by omega)) rfl trivial (fun v3 D3 hD3 hp3 => ?_)
    have hw := hp3
    refine L.call rfl rfl rfl (fun D4 hD4 => Leave_ok _ y _ (hw.up (hD4 _ (by simp)))) rfl trivial (fun v4 D4 hD4 hp4 => ?_)
    obtain ⟨lv, rfl, hlv⟩ := hp4
    refine L.move rfl rfl rfl trivial ?_
    refine L.extract rfl rfl rfl rfl trivial ?_
    refine L.extract rfl rfl rfl rfl trivial ?_
    refine L.assign rfl rfl rfl trivial ?_
    refine L.assign rfl rfl rfl trivial ?_
    refine L.nil ?_
    refine C.next ?_
    refine C.seq ?_
    refine C.seq ?_
    refine C.region [(false,0),(false,1)] rfl ?_
    refine L.move rfl rfl rfl trivial ?_
    refine L.neq rfl rfl rfl rfl trivial ?_
    refine L.nil ?_
    refine C.next ?_
    refine C.condD rfl (fun hc2 => ?_) (fun hc2 => ?_)
    · rw [leave_is hf0] at hc2; exact absurd rfl hc2
    · obtain ⟨b0, hb0, hlb, hpos, hmin⟩ := left_facts hf0
      rw [hlb] at hlv
      have hbl7 : (bitsL b0).length ≤ 7 := bk_len b0 7
      obtain ⟨hor, hinc⟩ := bits_facts b0 (by omega)
      have hand : tn &&& (2 ^ y.claims.length - 1) < 2 ^ y.claims.length := Nat.lt_of_le_of_lt Nat.and_le_right (by omega)
      refine C.skip ?_
      refine C.next ?_
      refine C.seq ?_
      refine C.region [(false,0)] rfl ?_
      refine L.assign rfl rfl rfl trivial ?_
      refine L.nil ?_
      refine C.next ?_
      refine C.seq ?_
      refine C.seq ?_
      refine C.region [(false,0)] rfl ?_
      refine L.assign rfl rfl rfl trivial ?_
      refine L.nil ?_
      refine C.next ?_
      refine C.block ?_
      refine C.loopC (γ := Nat) (fun k => (bitsL b0).length - k) (fun k => k ≤ (bitsL b0).length) (fun k => [(7, .int .i64 (orL ((bitsL b0).take k) : Int)), (8, .int .i64 (k : Int))]) [(5, _), (4, _), (2, _), (1, _)] (fun k => [D4, D3, E1, D]) 0 (by omega) ⟨(by first | rfl | (show some (Value.int _ _) = some (Value.int _ _); congr 2; omega)), (by first | rfl | (show some (Value.int _ _) = some (Value.int _ _); congr 2; omega)), trivial⟩ ⟨rfl, rfl, rfl, rfl, trivial⟩ (ds_same) ?_
      rintro k h1
      refine C.seq ?_
      refine C.seq ?_
      refine C.region [(false,0),(false,1),(false,2),(false,3)] rfl ?_
      refine L.move rfl rfl rfl trivial ?_
      refine L.move rfl rfl rfl trivial ?_
      refine L.len rfl Try.underlying52 rfl hlv rfl rfl trivial ?_
      refine L.lss rfl rfl rfl rfl trivial ?_
      refine L.nil ?_
      refine C.next ?_
      refine C.condD rfl (fun hc3 => ?_) (fun hc3 => ?_)
      · have hk : k < (bitsL b0).length := by omega
        obtain ⟨hj0, hj1⟩ := hinc k hk
        obtain ⟨j, hx⟩ : ∃ j : Nat, (bitsL b0)[k]? = some (j : Int) := ⟨_, hj0⟩
        have hjl : j < y.claims.length := bits_in hb0 (List.mem_of_getElem? hx)
        have hw1 : 0 < k → (bitsL b0)[((k : Int) - 1).toNat]? = some ((bitsL b0).getD (k - 1) 0) := fun h => by rw [show ((k : Int) - 1).toNat = k - 1 by omega, List.getD_eq_getElem?_getD, List.getElem?_eq_getElem (by omega)]; rfl
        have hjo := orL_lt b0 k (by omega)
        have hpj : 2 ^ j ≤ 2 ^ 4 := Nat.pow_le_pow_right (by omega) (by omega)
        refine C.skip ?_
        refine C.next ?_
        refine C.seq ?_
        refine C.block ?_
        refine C.seq ?_
        refine C.seq ?_
        refine C.draw [] 7 [0,1,2,3,4,5,6,7,8,9,10,11,12,13,14,15,16,17,18,19,20,21,22,23,24,25,26,27,28,29,30] [false,true,false,false,false,false,false,true,false,false,true,true,true,false,false,false,false,false,false,false,true,false,false,true,true,true,true,true,false,false,false] [(false,0),(true,1),(false,2),(false,3),(false,4),(false,5),(false,6),(true,7),(false,8),(false,9),(true,10),(true,11),(true,12),(false,13),(false,14),(false,15),(false,16),(false,17),(false,18),(false,19),(true,20),(false,21),(false,22),(true,23),(true,24),(true,25),(true,26),(true,27),(false,28),(false,29),(false,30)] Tf.follows (fun _ _ _ h => np_body (P := Try.prog) (fn := Try.f16) _ _ _ h) (by kernel_rfl) rfl ?_
        refine L.move rfl rfl rfl trivial ?_
        refine L.move rfl rfl rfl trivial ?_
        refine L.indexS rfl Try.underlying52 Tf.s3 rfl hlv rfl (by omega) hx rfl trivial (fun b1 o1 cs1 hr1 hcl1 hA1 => ?_)
        obtain rfl : cs1 = [.int .i64 _] := hr1
        refine L.loadD1 rfl (k := 0) Tf.a3 rfl hA1 (by first | simp | assumption) rfl List.not_mem_nil rfl trivial ?_
        refine L.lss rfl rfl rfl rfl trivial ?_
        refine L.move rfl rfl rfl trivial ?_
        refine' L.or [(false,6),(true,7),(false,8),(false,9),(true,10),(true,11),(true,12),(false,13),(false,14)] [(false,15),(false,16),(false,17),(false,18),(false,19),(true,20),(false,21),(false,22),(true,23),(true,24),(true,25),(true,26),(true,27),(false,28),(false,29),(false,30)] (s := 37) (p := 46) rfl rfl (fun hg1 => ?_) (fun hg1 => ?_) ?_
        rotate_left
        · refine L.move rfl rfl rfl ⟨_, rfl, rfl⟩ ?_
          refine L.move rfl rfl rfl ⟨_, rfl, rfl⟩ ?_
          refine L.indexS rfl Try.underlying52 Tf.s3 rfl hlv rfl (by omega) hx rfl ⟨_, rfl, rfl⟩ (fun b2 o2 cs2 hr2 hcl2 hA2 => ?_)
          obtain rfl : cs2 = [.int .i64 _] := hr2
          refine L.loadD1 rfl (k := 0) Tf.a3 rfl hA2 (by first | simp | assumption) rfl List.not_mem_nil rfl ⟨_, rfl, rfl⟩ ?_
          refine L.fieldAddr rfl Tf.f25_2 rfl rfl ⟨_, rfl, rfl⟩ ?_
          refine L.loadD1 rfl (k := 2) Tf.a23 rfl hB1 (by first | simp | assumption) rfl List.not_mem_nil rfl ⟨_, rfl, rfl⟩ ?_
          refine L.len rfl Try.underlying23 rfl hq rfl rfl ⟨_, rfl, rfl⟩ ?_
          refine L.geq rfl rfl rfl rfl ⟨_, rfl, rfl⟩ ?_
          refine L.pickF rfl rfl rfl rfl trivial ?_
          exact L.nil fun a w hh => hh.cutK 8 rfl
        · refine L.pass rfl rfl rfl ⟨_, _, rfl, rfl, rfl⟩ ?_
          refine L.pass rfl rfl rfl ⟨_, _, rfl, rfl, rfl⟩ ?_
          refine L.pass rfl rfl rfl ⟨_, _, rfl, rfl, rfl⟩ ?_
          refine L.pass rfl rfl rfl ⟨_, _, rfl, rfl, rfl⟩ ?_
          refine L.pass rfl rfl rfl ⟨_, _, rfl, rfl, rfl⟩ ?_
          refine L.pass rfl rfl rfl ⟨_, _, rfl, rfl, rfl⟩ ?_
          refine L.pass rfl rfl rfl ⟨_, _, rfl, rfl, rfl⟩ ?_
          refine L.pass rfl rfl rfl ⟨_, _, rfl, rfl, rfl⟩ ?_
          refine L.pickT rfl rfl rfl rfl trivial ?_
          exact L.nil fun a w hh => hh.cutK 8 rfl
        refine L.move rfl rfl rfl trivial ?_
        refine' L.or [(false,16),(false,17),(false,18),(false,19),(true,20),(false,21),(false,22),(true,23),(true,24),(true,25),(true,26),(true,27),(false,28),(false,29),(false,30)] [] (s := 47) (p := 62) rfl rfl (fun hg2 => ?_) (fun hg2 => ?_) ?_
        rotate_left
        · refine L.move rfl rfl rfl ⟨_, rfl, rfl⟩ ?_
          refine L.gtr rfl rfl rfl rfl ⟨_, rfl, rfl⟩ ?_
          refine L.move rfl rfl rfl ⟨_, rfl, rfl⟩ ?_
          refine' L.and [(false,19),(true,20),(false,21),(false,22),(true,23),(true,24),(true,25),(true,26),(true,27),(false,28),(false,29)] [(false,30)] (s := 50) (p := 61) rfl rfl (fun hg3 => ?_) (fun hg3 => ?_) ?_
          rotate_left
          · have hkp : 0 < k := by simpa using hg3
            refine L.move rfl rfl rfl ⟨_, rfl, rfl⟩ ?_
            refine L.move rfl rfl rfl ⟨_, rfl, rfl⟩ ?_
            refine L.indexS rfl Try.underlying52 Tf.s3 rfl hlv rfl (by omega) hx rfl ⟨_, rfl, rfl⟩ (fun b3 o3 cs3 hr3 hcl3 hA3 => ?_)
            obtain rfl : cs3 = [.int .i64 _] := hr3
            refine L.loadD1 rfl (k := 0) Tf.a3 rfl hA3 (by first | simp | assumption) rfl List.not_mem_nil rfl ⟨_, rfl, rfl⟩ ?_
            refine L.move rfl rfl rfl ⟨_, rfl, rfl⟩ ?_
            refine L.move rfl rfl rfl ⟨_, rfl, rfl⟩ ?_
            refine L.sub rfl rfl rfl (by simp only [inK]; omega) rfl ⟨_, rfl, rfl⟩ ?_
            refine L.indexS rfl Try.underlying52 Tf.s3 rfl hlv rfl (by omega) (hw1 hkp) rfl ⟨_, rfl, rfl⟩ (fun b4 o4 cs4 hr4 hcl4 hA4 => ?_)
            obtain rfl : cs4 = [.int .i64 _] := hr4
            refine L.loadD1 rfl (k := 0) Tf.a3 rfl hA4 (by first | simp | assumption) rfl List.not_mem_nil rfl ⟨_, rfl, rfl⟩ ?_
            refine L.leq rfl rfl rfl rfl ⟨_, rfl, rfl⟩ ?_
            refine L.pickT rfl rfl rfl rfl ⟨_, rfl, rfl⟩ ?_
            exact L.nil fun a w hh => hh.cutK 10 rfl
          · refine L.pass rfl rfl rfl ⟨_, _, rfl, rfl, rfl⟩ ?_
            refine L.pass rfl rfl rfl ⟨_, _, rfl, rfl, rfl⟩ ?_
            refine L.pass rfl rfl rfl ⟨_, _, rfl, rfl, rfl⟩ ?_
            refine L.pass rfl rfl rfl ⟨_, _, rfl, rfl, rfl⟩ ?_
            refine L.pass rfl rfl rfl ⟨_, _, rfl, rfl, rfl⟩ ?_
            refine L.pass rfl rfl rfl ⟨_, _, rfl, rfl, rfl⟩ ?_
            refine L.pass rfl rfl rfl ⟨_, _, rfl, rfl, rfl⟩ ?_
            refine L.pass rfl rfl rfl ⟨_, _, rfl, rfl, rfl⟩ ?_
            refine L.pass rfl rfl rfl ⟨_, _, rfl, rfl, rfl⟩ ?_
            refine L.pass rfl rfl rfl ⟨_, _, rfl, rfl, rfl⟩ ?_
            refine L.pickF rfl rfl rfl rfl ⟨_, rfl, rfl⟩ ?_
            exact L.nil fun a w hh => hh.cutK 10 rfl
          refine L.pickF rfl rfl rfl rfl trivial ?_
          exact L.nil fun a w hh => hh.cutK 4 rfl
        · refine L.pass rfl rfl rfl ⟨_, _, rfl, rfl, rfl⟩ ?_
          refine L.pass rfl rfl rfl ⟨_, _, rfl, rfl, rfl⟩ ?_
          refine L.pass rfl rfl rfl ⟨_, _, rfl, rfl, rfl⟩ ?_
          refine L.pass rfl rfl rfl ⟨_, _, rfl, rfl, rfl⟩ ?_
          refine L.pass rfl rfl rfl ⟨_, _, rfl, rfl, rfl⟩ ?_
          refine L.pass rfl rfl rfl ⟨_, _, rfl, rfl, rfl⟩ ?_
          refine L.pass rfl rfl rfl ⟨_, _, rfl, rfl, rfl⟩ ?_
          refine L.pass rfl rfl rfl ⟨_, _, rfl, rfl, rfl⟩ ?_
          refine L.pass rfl rfl rfl ⟨_, _, rfl, rfl, rfl⟩ ?_
          refine L.pass rfl rfl rfl ⟨_, _, rfl, rfl, rfl⟩ ?_
          refine L.pass rfl rfl rfl ⟨_, _, rfl, rfl, rfl⟩ ?_
          refine L.pass rfl rfl rfl ⟨_, _, rfl, rfl, rfl⟩ ?_
          refine L.pass rfl rfl rfl ⟨_, _, rfl, rfl, rfl⟩ ?_
          refine L.pass rfl rfl rfl ⟨_, _, rfl, rfl, rfl⟩ ?_
          refine L.pickT rfl rfl rfl rfl trivial ?_
          exact L.nil fun a w hh => hh.cutK 14 rfl
        refine L.nil ?_
        refine C.next ?_
        refine C.cond rfl (fun hc4 => ?_) (fun hc4 => ?_)
        · have hgk : (bitsL b0).getD k 0 = (j : Int) := by rw [List.getD_eq_getElem?_getD, hx]; rfl
          simp only [Bool.or_eq_true, Bool.and_eq_true, decide_eq_true_eq] at hc4
          omega
        · refine C.skip ?_
          refine C.next ?_
          refine C.region [(false,0),(false,1),(false,2),(false,3),(false,4),(false,5),(false,6),(false,7),(false,8)] rfl ?_
          refine L.move rfl rfl rfl trivial ?_
          refine L.move rfl rfl rfl trivial ?_
          refine L.move rfl rfl rfl trivial ?_
          refine L.indexS rfl Try.underlying52 Tf.s3 rfl hlv rfl (by omega) hx rfl trivial (fun b5 o5 cs5 hr5 hcl5 hA5 => ?_)
          obtain rfl : cs5 = [.int .i64 _] := hr5
          refine L.loadD1 rfl (k := 0) Tf.a3 rfl hA5 (by first | simp | assumption) rfl List.not_mem_nil rfl trivial ?_
          refine L.convI rfl Try.underlying3 Try.underlying88 rfl (by simp only [inK]; omega) rfl trivial ?_
          refine L.shl1U rfl rfl rfl (by omega) rfl trivial ?_
          refine L.orB rfl rfl rfl (by omega) (by omega) rfl trivial ?_
          refine L.assign rfl rfl rfl trivial ?_
          refine L.nil ?_
          refine C.blockEnd ?_
          refine C.next ?_
          refine C.region [(false,0),(false,1),(false,2)] rfl ?_
          refine L.move rfl rfl rfl trivial ?_
          refine L.add rfl rfl rfl (by simp only [inK]; omega) rfl trivial ?_
          refine L.assign rfl rfl rfl trivial ?_
          refine L.nil ?_
          exact C.againR 27 (k + 1) (by omega) (by omega) ⟨(by rw [orL_step hx]; rfl), (by first | rfl | (show some (Value.int _ _) = some (Value.int _ _); congr 2; omega)), trivial⟩ rfl rfl (List.Sublist.refl _) (ds_same)
      · obtain rfl : k = (bitsL b0).length := by omega
        rw [List.take_length, hor]
        refine C.exit ?_
        refine C.thenExit ?_
        refine C.thenExit ?_
        refine C.blockExit ?_
        refine C.next ?_
        refine C.seq ?_
        refine C.region [(false,0),(false,1),(false,2),(false,3),(false,4),(false,5)] rfl ?_
        refine L.move rfl rfl rfl trivial ?_
        refine L.convI rfl Try.underlying5 Try.underlying3 rfl (by simp only [inK]; omega) rfl trivial ?_
        refine L.loadDW rfl Tf.a25 rfl hB1 (by first | simp | assumption) Tf.s25 List.not_mem_nil rfl trivial ?_
        refine L.callV rfl rfl rfl (fun D5 hD5 => Full_ok _ y _ (hy0.up (hD5 _ (by simp))) (by omega)) rfl trivial ?_
        refine L.andN (m := tn) (n := 2 ^ y.claims.length - 1) rfl rfl (by show some (Value.int _ _) = some (Value.int _ _); congr 2; omega) (by omega) (by omega) rfl trivial ?_
        refine L.assign rfl rfl rfl trivial ?_
        refine L.nil ?_
        refine C.next ?_
        refine C.seq ?_
        refine C.drawS (But.mk [q1]) 6 [false,true,true,true,true,true,true,true,false,false,true,true,true,false] [.fork [0,1,3] 2 (.fork [4] 5 (.fork [] 6 (.fork [] 7 (.fin [8,9,10,11]) 11 (.fin [7,8,9,10])) 11 (.fin [6,7,8,9,10])) 11 (.fin [5,6,7,8,9,10])) 11 (.fin [2,4,5,6,7,8,9,10]), .fin [12,13]] Tf.follows (fun _ _ _ h => np_body (P := Try.prog) (fn := Try.f16) _ _ _ h) (by kernel_rfl) ?_
        refine S.cons ?_
        refine L.planFork [(false,0),(true,1),(true,3)] rfl ?_
        refine L.loadDW rfl Tf.a25 rfl hB1 (by simp) Tf.s25 (But.out (by simp)) rfl trivial ?_
        refine L.loadDW rfl Tf.a25 rfl hB1 (by simp) Tf.s25 (But.out (by simp)) rfl trivial ?_
        refine L.move rfl rfl rfl trivial ?_
        refine L.nil (L.forkP true true rfl rfl ?_ ?_)
        · refine L.callV rfl rfl rfl (fun D6 hD6 => Full_ok _ y _ (hy0.up (hD6 _ (by simp))) (by omega)) rfl trivial ?_
          refine L.nil ?_
          refine L.planFork [(true,4)] rfl ?_
          refine L.difN (m := 2 ^ y.claims.length - 1) (n := b0) rfl (by show some (Value.int _ _) = some (Value.int _ _); congr 2; omega) rfl (by omega) (by omega) rfl trivial ?_
          refine L.nil (L.forkP true true rfl rfl ?_ ?_)
          · refine L.call rfl rfl rfl (fun D7 hD7 => some_ok _ y (dif (2 ^ y.claims.length - 1) b0) _ _ rfl (hy0.up (hD7 _ (by simp))) (by have := dif_le (2 ^ y.claims.length - 1) b0; omega) (by omega)) rfl trivial (fun v7 D7 hD7 hp7 => ?_)
            have hs1 := hp7
            refine L.nil ?_
            refine L.planFork [] rfl ?_
            refine L.nil (L.forkP true true rfl rfl ?_ ?_)
            · refine L.call rfl rfl rfl (fun D8 hD8 => YardL_ok _ (someY y (dif (2 ^ y.claims.length - 1) b0)) _ (hs1.up (hD8 _ (by simp))) (by simp only [someY]; omega) (by have := someK_len y.claims (dif (2 ^ y.claims.length - 1) b0) y.claims.length; simp only [someY]; omega)) rfl trivial (fun v8 D8 hD8 hp8 => ?_)
              have hw := hp8
              refine L.nil ?_
              refine L.planFork [] rfl ?_
              refine L.nil (L.forkP true true rfl rfl ?_ ?_)
              · refine L.callV rfl rfl rfl (fun D9 hD9 => Bounds_ok _ (someY y (dif (2 ^ y.claims.length - 1) b0)) _ (hw.up (hD9 _ (by simp)))) rfl trivial ?_
                refine L.nil ?_
                refine L.planFin [(false,8),(false,9),(true,10),(true,11)] rfl ?_
                refine L.move rfl rfl rfl trivial ?_
                refine L.extract rfl rfl rfl rfl trivial ?_
                refine L.extract rfl rfl rfl rfl trivial ?_
                refine L.alloc rfl Tf.z61 rfl rfl trivial (fun q2 => ?_)
                refine L.nil ?_
                refine S.fin [(true,12),(false,13)] rfl ?_
                refine L.apart hB1 (by simp) (fun hap => ?_)
                refine L.storeB rfl rfl rfl rfl Tf.s61 (Has.head) (by simp) rfl (by simp [cell1]) (Or.inr (But.in_ (by rw [List.mem_singleton]; rintro rfl; exact hap (List.mem_map.2 ⟨_, (List.Mem.head _), rfl⟩)))) trivial ?_
                refine L.assign rfl rfl rfl trivial ?_
                refine L.nil ?_
                refine S.nil ?_
                refine C.next ?_
                refine C.seq ?_
                refine C.drawS (But.mk [q1]) 6 [false,true,true,true,true,true,true,true,false,false,true,true,true,false] [.fork [0,1,3] 2 (.fork [4] 5 (.fork [] 6 (.fork [] 7 (.fin [8,9,10,11]) 11 (.fin [7,8,9,10])) 11 (.fin [6,7,8,9,10])) 11 (.fin [5,6,7,8,9,10])) 11 (.fin [2,4,5,6,7,8,9,10]), .fin [12,13]] Tf.follows (fun _ _ _ h => np_body (P := Try.prog) (fn := Try.f16) _ _ _ h) (by kernel_rfl) ?_
                refine S.cons ?_
                refine L.planFork [(false,0),(true,1),(true,3)] rfl ?_
                refine L.loadDW rfl Tf.a25 rfl hB1 (by simp) Tf.s25 (But.out (by simp)) rfl trivial ?_
                refine L.loadDW rfl Tf.a25 rfl hB1 (by simp) Tf.s25 (But.out (by simp)) rfl trivial ?_
                refine L.move rfl rfl rfl trivial ?_
                refine L.nil (L.forkP true true rfl rfl ?_ ?_)
                · refine L.callV rfl rfl rfl (fun D10 hD10 => Full_ok _ y _ (hy0.up (hD10 _ (by simp))) (by omega)) rfl trivial ?_
                  refine L.nil ?_
                  refine L.planFork [(true,4)] rfl ?_
                  refine L.difN (m := 2 ^ y.claims.length - 1) (n := (tn &&& (2 ^ y.claims.length - 1))) rfl (by show some (Value.int _ _) = some (Value.int _ _); congr 2; omega) rfl (by omega) (by omega) rfl trivial ?_
                  refine L.nil (L.forkP true true rfl rfl ?_ ?_)
                  · refine L.call rfl rfl rfl (fun D11 hD11 => some_ok _ y (dif (2 ^ y.claims.length - 1) (tn &&& (2 ^ y.claims.length - 1))) _ _ rfl (hy0.up (hD11 _ (by simp))) (by have := dif_le (2 ^ y.claims.length - 1) (tn &&& (2 ^ y.claims.length - 1)); omega) (by omega)) rfl trivial (fun v11 D11 hD11 hp11 => ?_)
                    have hs2 := hp11
                    refine L.nil ?_
                    refine L.planFork [] rfl ?_
                    refine L.nil (L.forkP true true rfl rfl ?_ ?_)
                    · refine L.call rfl rfl rfl (fun D12 hD12 => YardL_ok _ (someY y (dif (2 ^ y.claims.length - 1) (tn &&& (2 ^ y.claims.length - 1)))) _ (hs2.up (hD12 _ (by simp))) (by simp only [someY]; omega) (by have := someK_len y.claims (dif (2 ^ y.claims.length - 1) (tn &&& (2 ^ y.claims.length - 1))) y.claims.length; simp only [someY]; omega)) rfl trivial (fun v12 D12 hD12 hp12 => ?_)
                      have hw := hp12
                      refine L.nil ?_
                      refine L.planFork [] rfl ?_
                      refine L.nil (L.forkP true true rfl rfl ?_ ?_)
                      · refine L.callV rfl rfl rfl (fun D13 hD13 => Bounds_ok _ (someY y (dif (2 ^ y.claims.length - 1) (tn &&& (2 ^ y.claims.length - 1)))) _ (hw.up (hD13 _ (by simp)))) rfl trivial ?_
                        refine L.nil ?_
                        refine L.planFin [(false,8),(false,9),(true,10),(true,11)] rfl ?_
                        refine L.move rfl rfl rfl trivial ?_
                        refine L.extract rfl rfl rfl rfl trivial ?_
                        refine L.extract rfl rfl rfl rfl trivial ?_
                        refine L.alloc rfl Tf.z61 rfl rfl trivial (fun q3 => ?_)
                        refine L.nil ?_
                        refine S.fin [(true,12),(false,13)] rfl ?_
                        refine L.apart hB1 (by simp) (fun hap => ?_)
                        refine L.storeB rfl rfl rfl rfl Tf.s61 (Has.head) (by simp) rfl (by simp [cell1]) (Or.inr (But.in_ (by rw [List.mem_singleton]; rintro rfl; exact hap (List.mem_map.2 ⟨_, (List.Mem.head _), rfl⟩)))) trivial ?_
                        refine L.assign rfl rfl rfl trivial ?_
                        refine L.nil ?_
                        refine S.nil ?_
                        refine C.next ?_
                        refine C.seq ?_
                        refine C.region [(false,0),(false,1),(false,2),(false,3),(false,4),(false,5),(false,6),(false,7),(false,8),(false,9),(false,10),(false,11),(false,12),(false,13),(false,14),(false,15),(false,16),(false,17),(false,18),(false,19),(false,20)] rfl ?_
                        refine L.move rfl rfl rfl trivial ?_
                        refine L.eql rfl rfl rfl rfl trivial ?_
                        refine L.move rfl rfl rfl trivial ?_
                        refine' L.and [(false,3),(false,4),(false,5),(false,6),(false,7),(false,8),(false,9),(false,10),(false,11),(false,12),(false,13),(false,14),(false,15),(false,16)] [(false,17),(false,18),(false,19),(false,20)] (s := 100) (p := 114) rfl rfl (fun hg4 => ?_) (fun hg4 => ?_) ?_
                        rotate_left
                        · refine L.move rfl rfl rfl ⟨_, rfl, rfl⟩ ?_
                          refine L.eql rfl rfl rfl rfl ⟨_, rfl, rfl⟩ ?_
                          refine L.move rfl rfl rfl ⟨_, rfl, rfl⟩ ?_
                          refine' L.or [(false,6),(false,7),(false,8),(false,9),(false,10),(false,11),(false,12),(false,13),(false,14),(false,15)] [(false,16)] (s := 103) (p := 113) rfl rfl (fun hg5 => ?_) (fun hg5 => ?_) ?_
                          rotate_left
                          · refine L.move rfl rfl rfl ⟨_, rfl, rfl⟩ ?_
                            refine L.eql rfl rfl rfl rfl ⟨_, rfl, rfl⟩ ?_
                            refine L.move rfl rfl rfl ⟨_, rfl, rfl⟩ ?_
                            refine' L.and [(false,9),(false,10),(false,11),(false,12),(false,13),(false,14)] [(false,15)] (s := 106) (p := 112) rfl rfl (fun hg6 => ?_) (fun hg6 => ?_) ?_
                            rotate_left
                            · refine L.move rfl rfl rfl ⟨_, rfl, rfl⟩ ?_
                              refine L.call rfl rfl rfl (fun D14 hD14 => BitsR_ok (tn &&& (2 ^ y.claims.length - 1)) (by omega) _) rfl ⟨_, rfl, rfl⟩ (fun v14 D14 hD14 hp14 => ?_)
                              have hbn := hp14
                              refine L.move rfl rfl rfl ⟨_, rfl, rfl⟩ ?_
                              refine L.callV rfl rfl rfl (fun D15 hD15 => Shorter_ok _ _ (bitsL (tn &&& (2 ^ y.claims.length - 1))) (bitsL b0) _ (hbn.up RI.up (hD15 _ (by simp))) (hlv.up RI.up (hD15 _ (by simp)))) rfl ⟨_, rfl, rfl⟩ ?_
                              refine L.not rfl rfl rfl ⟨_, rfl, rfl⟩ ?_
                              refine L.pickT rfl rfl rfl rfl ⟨_, rfl, rfl⟩ ?_
                              exact L.nil fun a w hh => (hh.cutK 5 rfl).ds (fun _ h => List.Mem.tail _ (h))
                            · refine L.pass rfl rfl rfl ⟨_, _, rfl, rfl, rfl⟩ ?_
                              refine L.pass rfl rfl rfl ⟨_, _, rfl, rfl, rfl⟩ ?_
                              refine L.pass rfl rfl rfl ⟨_, _, rfl, rfl, rfl⟩ ?_
                              refine L.pass rfl rfl rfl ⟨_, _, rfl, rfl, rfl⟩ ?_
                              refine L.pass rfl rfl rfl ⟨_, _, rfl, rfl, rfl⟩ ?_
                              refine L.pickF rfl rfl rfl rfl ⟨_, rfl, rfl⟩ ?_
                              exact L.nil fun a w hh => hh.cutK 5 rfl
                            refine L.pickF rfl rfl rfl rfl ⟨_, rfl, rfl⟩ ?_
                            exact L.nil fun a w hh => hh.cutK 4 rfl
                          · refine L.pass rfl rfl rfl ⟨_, _, rfl, rfl, rfl⟩ ?_
                            refine L.pass rfl rfl rfl ⟨_, _, rfl, rfl, rfl⟩ ?_
                            refine L.pass rfl rfl rfl ⟨_, _, rfl, rfl, rfl⟩ ?_
                            refine L.pass rfl rfl rfl ⟨_, _, rfl, rfl, rfl⟩ ?_
                            refine L.pass rfl rfl rfl ⟨_, _, rfl, rfl, rfl⟩ ?_
                            refine L.pass rfl rfl rfl ⟨_, _, rfl, rfl, rfl⟩ ?_
                            refine L.pass rfl rfl rfl ⟨_, _, rfl, rfl, rfl⟩ ?_
                            refine L.pass rfl rfl rfl ⟨_, _, rfl, rfl, rfl⟩ ?_
                            refine L.pass rfl rfl rfl ⟨_, _, rfl, rfl, rfl⟩ ?_
                            refine L.pickT rfl rfl rfl rfl ⟨_, rfl, rfl⟩ ?_
                            exact L.nil fun a w hh => hh.cutK 9 rfl
                          refine L.pickT rfl rfl rfl rfl trivial ?_
                          exact L.nil fun a w hh => hh.cutK 4 rfl
                        · refine L.pass rfl rfl rfl ⟨_, _, rfl, rfl, rfl⟩ ?_
                          refine L.pass rfl rfl rfl ⟨_, _, rfl, rfl, rfl⟩ ?_
                          refine L.pass rfl rfl rfl ⟨_, _, rfl, rfl, rfl⟩ ?_
                          refine L.pass rfl rfl rfl ⟨_, _, rfl, rfl, rfl⟩ ?_
                          refine L.pass rfl rfl rfl ⟨_, _, rfl, rfl, rfl⟩ ?_
                          refine L.pass rfl rfl rfl ⟨_, _, rfl, rfl, rfl⟩ ?_
                          refine L.pass rfl rfl rfl ⟨_, _, rfl, rfl, rfl⟩ ?_
                          refine L.pass rfl rfl rfl ⟨_, _, rfl, rfl, rfl⟩ ?_
                          refine L.pass rfl rfl rfl ⟨_, _, rfl, rfl, rfl⟩ ?_
                          refine L.pass rfl rfl rfl ⟨_, _, rfl, rfl, rfl⟩ ?_
                          refine L.pass rfl rfl rfl ⟨_, _, rfl, rfl, rfl⟩ ?_
                          refine L.pass rfl rfl rfl ⟨_, _, rfl, rfl, rfl⟩ ?_
                          refine L.pass rfl rfl rfl ⟨_, _, rfl, rfl, rfl⟩ ?_
                          refine L.pickF rfl rfl rfl rfl trivial ?_
                          exact L.nil fun a w hh => hh.cutK 13 rfl
                        refine L.move rfl rfl rfl trivial ?_
                        refine' L.and [(false,18),(false,19)] [(false,20)] (s := 115) (p := 117) rfl rfl (fun hg7 => ?_) (fun hg7 => ?_) ?_
                        rotate_left
                        · refine L.callV rfl rfl rfl (fun D16 hD16 => awake_ok _) rfl ⟨_, rfl, rfl⟩ ?_
                          refine L.pickT rfl rfl rfl rfl trivial ?_
                          exact L.nil fun a w hh => hh.cutK 1 rfl
                        · refine L.pass rfl rfl rfl ⟨_, _, rfl, rfl, rfl⟩ ?_
                          refine L.pickF rfl rfl rfl rfl trivial ?_
                          exact L.nil fun a w hh => hh.cutK 1 rfl
                        refine L.assign rfl rfl rfl trivial ?_
                        refine L.nil ?_
                        refine C.next ?_
                        refine C.ret ?_
                        exact leave (vs := [_]) rfl rfl rfl ⟨rfl, trivial⟩ (fun D hD => congrArg Value.bool (mlf_ok hf0 hb0 hpos hmin hand))
                      · refine L.alloc rfl Tf.z61 rfl rfl trivial (fun q3 => ?_)
                        refine L.nil ?_
                        refine L.planFin [(true,7),(false,8),(false,9),(true,10)] rfl ?_
                        refine L.callV rfl rfl rfl (fun D13 hD13 => Bounds_ok _ (someY y (dif (2 ^ y.claims.length - 1) (tn &&& (2 ^ y.claims.length - 1)))) _ (hw.up (hD13 _ (by simp)))) rfl trivial ?_
                        refine L.move rfl rfl rfl trivial ?_
                        refine L.extract rfl rfl rfl rfl trivial ?_
                        refine L.extract rfl rfl rfl rfl trivial ?_
                        refine L.nil ?_
                        refine S.fin [(true,12),(false,13)] rfl ?_
                        refine L.apart hB1 (by simp) (fun hap => ?_)
                        refine L.storeB rfl rfl rfl rfl Tf.s61 (Has.head) (by simp) rfl (by simp [cell1]) (Or.inr (But.in_ (by rw [List.mem_singleton]; rintro rfl; exact hap (List.mem_map.2 ⟨_, (List.Mem.head _), rfl⟩)))) trivial ?_
                        refine L.assign rfl rfl rfl trivial ?_
                        refine L.nil ?_
                        refine S.nil ?_
                        refine C.next ?_
                        refine C.seq ?_
                        refine C.region [(false,0),(false,1),(false,2),(false,3),(false,4),(false,5),(false,6),(false,7),(false,8),(false,9),(false,10),(false,11),(false,12),(false,13),(false,14),(false,15),(false,16),(false,17),(false,18),(false,19),(false,20)] rfl ?_
                        refine L.move rfl rfl rfl trivial ?_
                        refine L.eql rfl rfl rfl rfl trivial ?_
                        refine L.move rfl rfl rfl trivial ?_
                        refine' L.and [(false,3),(false,4),(false,5),(false,6),(false,7),(false,8),(false,9),(false,10),(false,11),(false,12),(false,13),(false,14),(false,15),(false,16)] [(false,17),(false,18),(false,19),(false,20)] (s := 100) (p := 114) rfl rfl (fun hg4 => ?_) (fun hg4 => ?_) ?_
                        rotate_left
                        · refine L.move rfl rfl rfl ⟨_, rfl, rfl⟩ ?_
                          refine L.eql rfl rfl rfl rfl ⟨_, rfl, rfl⟩ ?_
                          refine L.move rfl rfl rfl ⟨_, rfl, rfl⟩ ?_
                          refine' L.or [(false,6),(false,7),(false,8),(false,9),(false,10),(false,11),(false,12),(false,13),(false,14),(false,15)] [(false,16)] (s := 103) (p := 113) rfl rfl (fun hg5 => ?_) (fun hg5 => ?_) ?_
                          rotate_left
                          · refine L.move rfl rfl rfl ⟨_, rfl, rfl⟩ ?_
                            refine L.eql rfl rfl rfl rfl ⟨_, rfl, rfl⟩ ?_
                            refine L.move rfl rfl rfl ⟨_, rfl, rfl⟩ ?_
                            refine' L.and [(false,9),(false,10),(false,11),(false,12),(false,13),(false,14)] [(false,15)] (s := 106) (p := 112) rfl rfl (fun hg6 => ?_) (fun hg6 => ?_) ?_
                            rotate_left
                            · refine L.move rfl rfl rfl ⟨_, rfl, rfl⟩ ?_
                              refine L.call rfl rfl rfl (fun D14 hD14 => BitsR_ok (tn &&& (2 ^ y.claims.length - 1)) (by omega) _) rfl ⟨_, rfl, rfl⟩ (fun v14 D14 hD14 hp14 => ?_)
                              have hbn := hp14
                              refine L.move rfl rfl rfl ⟨_, rfl, rfl⟩ ?_
                              refine L.callV rfl rfl rfl (fun D15 hD15 => Shorter_ok _ _ (bitsL (tn &&& (2 ^ y.claims.length - 1))) (bitsL b0) _ (hbn.up RI.up (hD15 _ (by simp))) (hlv.up RI.up (hD15 _ (by simp)))) rfl ⟨_, rfl, rfl⟩ ?_
                              refine L.not rfl rfl rfl ⟨_, rfl, rfl⟩ ?_
                              refine L.pickT rfl rfl rfl rfl ⟨_, rfl, rfl⟩ ?_
                              exact L.nil fun a w hh => (hh.cutK 5 rfl).ds (fun _ h => List.Mem.tail _ (h))
                            · refine L.pass rfl rfl rfl ⟨_, _, rfl, rfl, rfl⟩ ?_
                              refine L.pass rfl rfl rfl ⟨_, _, rfl, rfl, rfl⟩ ?_
                              refine L.pass rfl rfl rfl ⟨_, _, rfl, rfl, rfl⟩ ?_
                              refine L.pass rfl rfl rfl ⟨_, _, rfl, rfl, rfl⟩ ?_
                              refine L.pass rfl rfl rfl ⟨_, _, rfl, rfl, rfl⟩ ?_
                              refine L.pickF rfl rfl rfl rfl ⟨_, rfl, rfl⟩ ?_
                              exact L.nil fun a w hh => hh.cutK 5 rfl
                            refine L.pickF rfl rfl rfl rfl ⟨_, rfl, rfl⟩ ?_
                            exact L.nil fun a w hh => hh.cutK 4 rfl
                          · refine L.pass rfl rfl rfl ⟨_, _, rfl, rfl, rfl⟩ ?_
                            refine L.pass rfl rfl rfl ⟨_, _, rfl, rfl, rfl⟩ ?_
                            refine L.pass rfl rfl rfl ⟨_, _, rfl, rfl, rfl⟩ ?_
                            refine L.pass rfl rfl rfl ⟨_, _, rfl, rfl, rfl⟩ ?_
                            refine L.pass rfl rfl rfl ⟨_, _, rfl, rfl, rfl⟩ ?_
                            refine L.pass rfl rfl rfl ⟨_, _, rfl, rfl, rfl⟩ ?_
                            refine L.pass rfl rfl rfl ⟨_, _, rfl, rfl, rfl⟩ ?_
                            refine L.pass rfl rfl rfl ⟨_, _, rfl, rfl, rfl⟩ ?_
                            refine L.pass rfl rfl rfl ⟨_, _, rfl, rfl, rfl⟩ ?_
                            refine L.pickT rfl rfl rfl rfl ⟨_, rfl, rfl⟩ ?_
                            exact L.nil fun a w hh => hh.cutK 9 rfl
                          refine L.pickT rfl rfl rfl rfl trivial ?_
                          exact L.nil fun a w hh => hh.cutK 4 rfl
                        · refine L.pass rfl rfl rfl ⟨_, _, rfl, rfl, rfl⟩ ?_
                          refine L.pass rfl rfl rfl ⟨_, _, rfl, rfl, rfl⟩ ?_
                          refine L.pass rfl rfl rfl ⟨_, _, rfl, rfl, rfl⟩ ?_
                          refine L.pass rfl rfl rfl ⟨_, _, rfl, rfl, rfl⟩ ?_
                          refine L.pass rfl rfl rfl ⟨_, _, rfl, rfl, rfl⟩ ?_
                          refine L.pass rfl rfl rfl ⟨_, _, rfl, rfl, rfl⟩ ?_
                          refine L.pass rfl rfl rfl ⟨_, _, rfl, rfl, rfl⟩ ?_
                          refine L.pass rfl rfl rfl ⟨_, _, rfl, rfl, rfl⟩ ?_
                          refine L.pass rfl rfl rfl ⟨_, _, rfl, rfl, rfl⟩ ?_
                          refine L.pass rfl rfl rfl ⟨_, _, rfl, rfl, rfl⟩ ?_
                          refine L.pass rfl rfl rfl ⟨_, _, rfl, rfl, rfl⟩ ?_
                          refine L.pass rfl rfl rfl ⟨_, _, rfl, rfl, rfl⟩ ?_
                          refine L.pass rfl rfl rfl ⟨_, _, rfl, rfl, rfl⟩ ?_
                          refine L.pickF rfl rfl rfl rfl trivial ?_
                          exact L.nil fun a w hh => hh.cutK 13 rfl
                        refine L.move rfl rfl rfl trivial ?_
                        refine' L.and [(false,18),(false,19)] [(false,20)] (s := 115) (p := 117) rfl rfl (fun hg7 => ?_) (fun hg7 => ?_) ?_
                        rotate_left
                        · refine L.callV rfl rfl rfl (fun D16 hD16 => awake_ok _) rfl ⟨_, rfl, rfl⟩ ?_
                          refine L.pickT rfl rfl rfl rfl trivial ?_
                          exact L.nil fun a w hh => hh.cutK 1 rfl
                        · refine L.pass rfl rfl rfl ⟨_, _, rfl, rfl, rfl⟩ ?_
                          refine L.pickF rfl rfl rfl rfl trivial ?_
                          exact L.nil fun a w hh => hh.cutK 1 rfl
                        refine L.assign rfl rfl rfl trivial ?_
                        refine L.nil ?_
                        refine C.next ?_
                        refine C.ret ?_
                        exact leave (vs := [_]) rfl rfl rfl ⟨rfl, trivial⟩ (fun D hD => congrArg Value.bool (mlf_ok hf0 hb0 hpos hmin hand))
                    · refine L.alloc rfl Tf.z61 rfl rfl trivial (fun q3 => ?_)
                      refine L.nil ?_
                      refine L.planFin [(true,6),(true,7),(false,8),(false,9),(true,10)] rfl ?_
                      refine L.call rfl rfl rfl (fun D12 hD12 => YardL_ok _ (someY y (dif (2 ^ y.claims.length - 1) (tn &&& (2 ^ y.claims.length - 1)))) _ (hs2.up (hD12 _ (by simp))) (by simp only [someY]; omega) (by have := someK_len y.claims (dif (2 ^ y.claims.length - 1) (tn &&& (2 ^ y.claims.length - 1))) y.claims.length; simp only [someY]; omega)) rfl trivial (fun v12 D12 hD12 hp12 => ?_)
                      have hw := hp12
                      refine L.callV rfl rfl rfl (fun D13 hD13 => Bounds_ok _ (someY y (dif (2 ^ y.claims.length - 1) (tn &&& (2 ^ y.claims.length - 1)))) _ (hw.up (hD13 _ (by simp)))) rfl trivial ?_
                      refine L.move rfl rfl rfl trivial ?_
                      refine L.extract rfl rfl rfl rfl trivial ?_
                      refine L.extract rfl rfl rfl rfl trivial ?_
                      refine L.nil ?_
                      refine S.fin [(true,12),(false,13)] rfl ?_
                      refine L.apart hB1 (by simp) (fun hap => ?_)
                      refine L.storeB rfl rfl rfl rfl Tf.s61 (Has.head) (by simp) rfl (by simp [cell1]) (Or.inr (But.in_ (by rw [List.mem_singleton]; rintro rfl; exact hap (List.mem_map.2 ⟨_, (List.Mem.head _), rfl⟩)))) trivial ?_
                      refine L.assign rfl rfl rfl trivial ?_
                      refine L.nil ?_
                      refine S.nil ?_
                      refine C.next ?_
                      refine C.seq ?_
                      refine C.region [(false,0),(false,1),(false,2),(false,3),(false,4),(false,5),(false,6),(false,7),(false,8),(false,9),(false,10),(false,11),(false,12),(false,13),(false,14),(false,15),(false,16),(false,17),(false,18),(false,19),(false,20)] rfl ?_
                      refine L.move rfl rfl rfl trivial ?_
                      refine L.eql rfl rfl rfl rfl trivial ?_
                      refine L.move rfl rfl rfl trivial ?_
                      refine' L.and [(false,3),(false,4),(false,5),(false,6),(false,7),(false,8),(false,9),(false,10),(false,11),(false,12),(false,13),(false,14),(false,15),(false,16)] [(false,17),(false,18),(false,19),(false,20)] (s := 100) (p := 114) rfl rfl (fun hg4 => ?_) (fun hg4 => ?_) ?_
                      rotate_left
                      · refine L.move rfl rfl rfl ⟨_, rfl, rfl⟩ ?_
                        refine L.eql rfl rfl rfl rfl ⟨_, rfl, rfl⟩ ?_
                        refine L.move rfl rfl rfl ⟨_, rfl, rfl⟩ ?_
                        refine' L.or [(false,6),(false,7),(false,8),(false,9),(false,10),(false,11),(false,12),(false,13),(false,14),(false,15)] [(false,16)] (s := 103) (p := 113) rfl rfl (fun hg5 => ?_) (fun hg5 => ?_) ?_
                        rotate_left
                        · refine L.move rfl rfl rfl ⟨_, rfl, rfl⟩ ?_
                          refine L.eql rfl rfl rfl rfl ⟨_, rfl, rfl⟩ ?_
                          refine L.move rfl rfl rfl ⟨_, rfl, rfl⟩ ?_
                          refine' L.and [(false,9),(false,10),(false,11),(false,12),(false,13),(false,14)] [(false,15)] (s := 106) (p := 112) rfl rfl (fun hg6 => ?_) (fun hg6 => ?_) ?_
                          rotate_left
                          · refine L.move rfl rfl rfl ⟨_, rfl, rfl⟩ ?_
                            refine L.call rfl rfl rfl (fun D14 hD14 => BitsR_ok (tn &&& (2 ^ y.claims.length - 1)) (by omega) _) rfl ⟨_, rfl, rfl⟩ (fun v14 D14 hD14 hp14 => ?_)
                            have hbn := hp14
                            refine L.move rfl rfl rfl ⟨_, rfl, rfl⟩ ?_
                            refine L.callV rfl rfl rfl (fun D15 hD15 => Shorter_ok _ _ (bitsL (tn &&& (2 ^ y.claims.length - 1))) (bitsL b0) _ (hbn.up RI.up (hD15 _ (by simp))) (hlv.up RI.up (hD15 _ (by simp)))) rfl ⟨_, rfl, rfl⟩ ?_
                            refine L.not rfl rfl rfl ⟨_, rfl, rfl⟩ ?_
                            refine L.pickT rfl rfl rfl rfl ⟨_, rfl, rfl⟩ ?_
                            exact L.nil fun a w hh => (hh.cutK 5 rfl).ds (fun _ h => List.Mem.tail _ (h))
                          · refine L.pass rfl rfl rfl ⟨_, _, rfl, rfl, rfl⟩ ?_
                            refine L.pass rfl rfl rfl ⟨_, _, rfl, rfl, rfl⟩ ?_
                            refine L.pass rfl rfl rfl ⟨_, _, rfl, rfl, rfl⟩ ?_
                            refine L.pass rfl rfl rfl ⟨_, _, rfl, rfl, rfl⟩ ?_
                            refine L.pass rfl rfl rfl ⟨_, _, rfl, rfl, rfl⟩ ?_
                            refine L.pickF rfl rfl rfl rfl ⟨_, rfl, rfl⟩ ?_
                            exact L.nil fun a w hh => hh.cutK 5 rfl
                          refine L.pickF rfl rfl rfl rfl ⟨_, rfl, rfl⟩ ?_
                          exact L.nil fun a w hh => hh.cutK 4 rfl
                        · refine L.pass rfl rfl rfl ⟨_, _, rfl, rfl, rfl⟩ ?_
                          refine L.pass rfl rfl rfl ⟨_, _, rfl, rfl, rfl⟩ ?_
                          refine L.pass rfl rfl rfl ⟨_, _, rfl, rfl, rfl⟩ ?_
                          refine L.pass rfl rfl rfl ⟨_, _, rfl, rfl, rfl⟩ ?_
                          refine L.pass rfl rfl rfl ⟨_, _, rfl, rfl, rfl⟩ ?_
                          refine L.pass rfl rfl rfl ⟨_, _, rfl, rfl, rfl⟩ ?_
                          refine L.pass rfl rfl rfl ⟨_, _, rfl, rfl, rfl⟩ ?_
                          refine L.pass rfl rfl rfl ⟨_, _, rfl, rfl, rfl⟩ ?_
                          refine L.pass rfl rfl rfl ⟨_, _, rfl, rfl, rfl⟩ ?_
                          refine L.pickT rfl rfl rfl rfl ⟨_, rfl, rfl⟩ ?_
                          exact L.nil fun a w hh => hh.cutK 9 rfl
                        refine L.pickT rfl rfl rfl rfl trivial ?_
                        exact L.nil fun a w hh => hh.cutK 4 rfl
                      · refine L.pass rfl rfl rfl ⟨_, _, rfl, rfl, rfl⟩ ?_
                        refine L.pass rfl rfl rfl ⟨_, _, rfl, rfl, rfl⟩ ?_
                        refine L.pass rfl rfl rfl ⟨_, _, rfl, rfl, rfl⟩ ?_
                        refine L.pass rfl rfl rfl ⟨_, _, rfl, rfl, rfl⟩ ?_
                        refine L.pass rfl rfl rfl ⟨_, _, rfl, rfl, rfl⟩ ?_
                        refine L.pass rfl rfl rfl ⟨_, _, rfl, rfl, rfl⟩ ?_
                        refine L.pass rfl rfl rfl ⟨_, _, rfl, rfl, rfl⟩ ?_
                        refine L.pass rfl rfl rfl ⟨_, _, rfl, rfl, rfl⟩ ?_
                        refine L.pass rfl rfl rfl ⟨_, _, rfl, rfl, rfl⟩ ?_
                        refine L.pass rfl rfl rfl ⟨_, _, rfl, rfl, rfl⟩ ?_
                        refine L.pass rfl rfl rfl ⟨_, _, rfl, rfl, rfl⟩ ?_
                        refine L.pass rfl rfl rfl ⟨_, _, rfl, rfl, rfl⟩ ?_
                        refine L.pass rfl rfl rfl ⟨_, _, rfl, rfl, rfl⟩ ?_
                        refine L.pickF rfl rfl rfl rfl trivial ?_
                        exact L.nil fun a w hh => hh.cutK 13 rfl
                      refine L.move rfl rfl rfl trivial ?_
                      refine' L.and [(false,18),(false,19)] [(false,20)] (s := 115) (p := 117) rfl rfl (fun hg7 => ?_) (fun hg7 => ?_) ?_
                      rotate_left
                      · refine L.callV rfl rfl rfl (fun D16 hD16 => awake_ok _) rfl ⟨_, rfl, rfl⟩ ?_
                        refine L.pickT rfl rfl rfl rfl trivial ?_
                        exact L.nil fun a w hh => hh.cutK 1 rfl
                      · refine L.pass rfl rfl rfl ⟨_, _, rfl, rfl, rfl⟩ ?_
                        refine L.pickF rfl rfl rfl rfl trivial ?_
                        exact L.nil fun a w hh => hh.cutK 1 rfl
                      refine L.assign rfl rfl rfl trivial ?_
                      refine L.nil ?_
                      refine C.next ?_
                      refine C.ret ?_
                      exact leave (vs := [_]) rfl rfl rfl ⟨rfl, trivial⟩ (fun D hD => congrArg Value.bool (mlf_ok hf0 hb0 hpos hmin hand))
                  · refine L.alloc rfl Tf.z61 rfl rfl trivial (fun q3 => ?_)
                    refine L.nil ?_
                    refine L.planFin [(true,5),(true,6),(true,7),(false,8),(false,9),(true,10)] rfl ?_
                    refine L.call rfl rfl rfl (fun D11 hD11 => some_ok _ y (dif (2 ^ y.claims.length - 1) (tn &&& (2 ^ y.claims.length - 1))) _ _ rfl (hy0.up (hD11 _ (by simp))) (by have := dif_le (2 ^ y.claims.length - 1) (tn &&& (2 ^ y.claims.length - 1)); omega) (by omega)) rfl trivial (fun v11 D11 hD11 hp11 => ?_)
                    have hs2 := hp11
                    refine L.call rfl rfl rfl (fun D12 hD12 => YardL_ok _ (someY y (dif (2 ^ y.claims.length - 1) (tn &&& (2 ^ y.claims.length - 1)))) _ (hs2.up (hD12 _ (by simp))) (by simp only [someY]; omega) (by have := someK_len y.claims (dif (2 ^ y.claims.length - 1) (tn &&& (2 ^ y.claims.length - 1))) y.claims.length; simp only [someY]; omega)) rfl trivial (fun v12 D12 hD12 hp12 => ?_)
                    have hw := hp12
                    refine L.callV rfl rfl rfl (fun D13 hD13 => Bounds_ok _ (someY y (dif (2 ^ y.claims.length - 1) (tn &&& (2 ^ y.claims.length - 1)))) _ (hw.up (hD13 _ (by simp)))) rfl trivial ?_
                    refine L.move rfl rfl rfl trivial ?_
                    refine L.extract rfl rfl rfl rfl trivial ?_
                    refine L.extract rfl rfl rfl rfl trivial ?_
                    refine L.nil ?_
                    refine S.fin [(true,12),(false,13)] rfl ?_
                    refine L.apart hB1 (by simp) (fun hap => ?_)
                    refine L.storeB rfl rfl rfl rfl Tf.s61 (Has.head) (by simp) rfl (by simp [cell1]) (Or.inr (But.in_ (by rw [List.mem_singleton]; rintro rfl; exact hap (List.mem_map.2 ⟨_, (List.Mem.head _), rfl⟩)))) trivial ?_
                    refine L.assign rfl rfl rfl trivial ?_
                    refine L.nil ?_
                    refine S.nil ?_
                    refine C.next ?_
                    refine C.seq ?_
                    refine C.region [(false,0),(false,1),(false,2),(false,3),(false,4),(false,5),(false,6),(false,7),(false,8),(false,9),(false,10),(false,11),(false,12),(false,13),(false,14),(false,15),(false,16),(false,17),(false,18),(false,19),(false,20)] rfl ?_
                    refine L.move rfl rfl rfl trivial ?_
                    refine L.eql rfl rfl rfl rfl trivial ?_
                    refine L.move rfl rfl rfl trivial ?_
                    refine' L.and [(false,3),(false,4),(false,5),(false,6),(false,7),(false,8),(false,9),(false,10),(false,11),(false,12),(false,13),(false,14),(false,15),(false,16)] [(false,17),(false,18),(false,19),(false,20)] (s := 100) (p := 114) rfl rfl (fun hg4 => ?_) (fun hg4 => ?_) ?_
                    rotate_left
                    · refine L.move rfl rfl rfl ⟨_, rfl, rfl⟩ ?_
                      refine L.eql rfl rfl rfl rfl ⟨_, rfl, rfl⟩ ?_
                      refine L.move rfl rfl rfl ⟨_, rfl, rfl⟩ ?_
                      refine' L.or [(false,6),(false,7),(false,8),(false,9),(false,10),(false,11),(false,12),(false,13),(false,14),(false,15)] [(false,16)] (s := 103) (p := 113) rfl rfl (fun hg5 => ?_) (fun hg5 => ?_) ?_
                      rotate_left
                      · refine L.move rfl rfl rfl ⟨_, rfl, rfl⟩ ?_
                        refine L.eql rfl rfl rfl rfl ⟨_, rfl, rfl⟩ ?_
                        refine L.move rfl rfl rfl ⟨_, rfl, rfl⟩ ?_
                        refine' L.and [(false,9),(false,10),(false,11),(false,12),(false,13),(false,14)] [(false,15)] (s := 106) (p := 112) rfl rfl (fun hg6 => ?_) (fun hg6 => ?_) ?_
                        rotate_left
                        · refine L.move rfl rfl rfl ⟨_, rfl, rfl⟩ ?_
                          refine L.call rfl rfl rfl (fun D14 hD14 => BitsR_ok (tn &&& (2 ^ y.claims.length - 1)) (by omega) _) rfl ⟨_, rfl, rfl⟩ (fun v14 D14 hD14 hp14 => ?_)
                          have hbn := hp14
                          refine L.move rfl rfl rfl ⟨_, rfl, rfl⟩ ?_
                          refine L.callV rfl rfl rfl (fun D15 hD15 => Shorter_ok _ _ (bitsL (tn &&& (2 ^ y.claims.length - 1))) (bitsL b0) _ (hbn.up RI.up (hD15 _ (by simp))) (hlv.up RI.up (hD15 _ (by simp)))) rfl ⟨_, rfl, rfl⟩ ?_
                          refine L.not rfl rfl rfl ⟨_, rfl, rfl⟩ ?_
                          refine L.pickT rfl rfl rfl rfl ⟨_, rfl, rfl⟩ ?_
                          exact L.nil fun a w hh => (hh.cutK 5 rfl).ds (fun _ h => List.Mem.tail _ (h))
                        · refine L.pass rfl rfl rfl ⟨_, _, rfl, rfl, rfl⟩ ?_
                          refine L.pass rfl rfl rfl ⟨_, _, rfl, rfl, rfl⟩ ?_
                          refine L.pass rfl rfl rfl ⟨_, _, rfl, rfl, rfl⟩ ?_
                          refine L.pass rfl rfl rfl ⟨_, _, rfl, rfl, rfl⟩ ?_
                          refine L.pass rfl rfl rfl ⟨_, _, rfl, rfl, rfl⟩ ?_
                          refine L.pickF rfl rfl rfl rfl ⟨_, rfl, rfl⟩ ?_
                          exact L.nil fun a w hh => hh.cutK 5 rfl
                        refine L.pickF rfl rfl rfl rfl ⟨_, rfl, rfl⟩ ?_
                        exact L.nil fun a w hh => hh.cutK 4 rfl
                      · refine L.pass rfl rfl rfl ⟨_, _, rfl, rfl, rfl⟩ ?_
                        refine L.pass rfl rfl rfl ⟨_, _, rfl, rfl, rfl⟩ ?_
                        refine L.pass rfl rfl rfl ⟨_, _, rfl, rfl, rfl⟩ ?_
                        refine L.pass rfl rfl rfl ⟨_, _, rfl, rfl, rfl⟩ ?_
                        refine L.pass rfl rfl rfl ⟨_, _, rfl, rfl, rfl⟩ ?_
                        refine L.pass rfl rfl rfl ⟨_, _, rfl, rfl, rfl⟩ ?_
                        refine L.pass rfl rfl rfl ⟨_, _, rfl, rfl, rfl⟩ ?_
                        refine L.pass rfl rfl rfl ⟨_, _, rfl, rfl, rfl⟩ ?_
                        refine L.pass rfl rfl rfl ⟨_, _, rfl, rfl, rfl⟩ ?_
                        refine L.pickT rfl rfl rfl rfl ⟨_, rfl, rfl⟩ ?_
                        exact L.nil fun a w hh => hh.cutK 9 rfl
                      refine L.pickT rfl rfl rfl rfl trivial ?_
                      exact L.nil fun a w hh => hh.cutK 4 rfl
                    · refine L.pass rfl rfl rfl ⟨_, _, rfl, rfl, rfl⟩ ?_
                      refine L.pass rfl rfl rfl ⟨_, _, rfl, rfl, rfl⟩ ?_
                      refine L.pass rfl rfl rfl ⟨_, _, rfl, rfl, rfl⟩ ?_
                      refine L.pass rfl rfl rfl ⟨_, _, rfl, rfl, rfl⟩ ?_
                      refine L.pass rfl rfl rfl ⟨_, _, rfl, rfl, rfl⟩ ?_
                      refine L.pass rfl rfl rfl ⟨_, _, rfl, rfl, rfl⟩ ?_
                      refine L.pass rfl rfl rfl ⟨_, _, rfl, rfl, rfl⟩ ?_
                      refine L.pass rfl rfl rfl ⟨_, _, rfl, rfl, rfl⟩ ?_
                      refine L.pass rfl rfl rfl ⟨_, _, rfl, rfl, rfl⟩ ?_
                      refine L.pass rfl rfl rfl ⟨_, _, rfl, rfl, rfl⟩ ?_
                      refine L.pass rfl rfl rfl ⟨_, _, rfl, rfl, rfl⟩ ?_
                      refine L.pass rfl rfl rfl ⟨_, _, rfl, rfl, rfl⟩ ?_
                      refine L.pass rfl rfl rfl ⟨_, _, rfl, rfl, rfl⟩ ?_
                      refine L.pickF rfl rfl rfl rfl trivial ?_
                      exact L.nil fun a w hh => hh.cutK 13 rfl
                    refine L.move rfl rfl rfl trivial ?_
                    refine' L.and [(false,18),(false,19)] [(false,20)] (s := 115) (p := 117) rfl rfl (fun hg7 => ?_) (fun hg7 => ?_) ?_
                    rotate_left
                    · refine L.callV rfl rfl rfl (fun D16 hD16 => awake_ok _) rfl ⟨_, rfl, rfl⟩ ?_
                      refine L.pickT rfl rfl rfl rfl trivial ?_
                      exact L.nil fun a w hh => hh.cutK 1 rfl
                    · refine L.pass rfl rfl rfl ⟨_, _, rfl, rfl, rfl⟩ ?_
                      refine L.pickF rfl rfl rfl rfl trivial ?_
                      exact L.nil fun a w hh => hh.cutK 1 rfl
                    refine L.assign rfl rfl rfl trivial ?_
                    refine L.nil ?_
                    refine C.next ?_
                    refine C.ret ?_
                    exact leave (vs := [_]) rfl rfl rfl ⟨rfl, trivial⟩ (fun D hD => congrArg Value.bool (mlf_ok hf0 hb0 hpos hmin hand))
                · refine L.alloc rfl Tf.z61 rfl rfl trivial (fun q3 => ?_)
                  refine L.nil ?_
                  refine L.planFin [(true,2),(true,4),(true,5),(true,6),(true,7),(false,8),(false,9),(true,10)] rfl ?_
                  refine L.callV rfl rfl rfl (fun D10 hD10 => Full_ok _ y _ (hy0.up (hD10 _ (by simp))) (by omega)) rfl trivial ?_
                  refine L.difN (m := 2 ^ y.claims.length - 1) (n := (tn &&& (2 ^ y.claims.length - 1))) rfl (by show some (Value.int _ _) = some (Value.int _ _); congr 2; omega) rfl (by omega) (by omega) rfl trivial ?_
                  refine L.call rfl rfl rfl (fun D11 hD11 => some_ok _ y (dif (2 ^ y.claims.length - 1) (tn &&& (2 ^ y.claims.length - 1))) _ _ rfl (hy0.up (hD11 _ (by simp))) (by have := dif_le (2 ^ y.claims.length - 1) (tn &&& (2 ^ y.claims.length - 1)); omega) (by omega)) rfl trivial (fun v11 D11 hD11 hp11 => ?_)
                  have hs2 := hp11
                  refine L.call rfl rfl rfl (fun D12 hD12 => YardL_ok _ (someY y (dif (2 ^ y.claims.length - 1) (tn &&& (2 ^ y.claims.length - 1)))) _ (hs2.up (hD12 _ (by simp))) (by simp only [someY]; omega) (by have := someK_len y.claims (dif (2 ^ y.claims.length - 1) (tn &&& (2 ^ y.claims.length - 1))) y.claims.length; simp only [someY]; omega)) rfl trivial (fun v12 D12 hD12 hp12 => ?_)
                  have hw := hp12
                  refine L.callV rfl rfl rfl (fun D13 hD13 => Bounds_ok _ (someY y (dif (2 ^ y.claims.length - 1) (tn &&& (2 ^ y.claims.length - 1)))) _ (hw.up (hD13 _ (by simp)))) rfl trivial ?_
                  refine L.move rfl rfl rfl trivial ?_
                  refine L.extract rfl rfl rfl rfl trivial ?_
                  refine L.extract rfl rfl rfl rfl trivial ?_
                  refine L.nil ?_
                  refine S.fin [(true,12),(false,13)] rfl ?_
                  refine L.apart hB1 (by simp) (fun hap => ?_)
                  refine L.storeB rfl rfl rfl rfl Tf.s61 (Has.head) (by simp) rfl (by simp [cell1]) (Or.inr (But.in_ (by rw [List.mem_singleton]; rintro rfl; exact hap (List.mem_map.2 ⟨_, (List.Mem.head _), rfl⟩)))) trivial ?_
                  refine L.assign rfl rfl rfl trivial ?_
                  refine L.nil ?_
                  refine S.nil ?_
                  refine C.next ?_
                  refine C.seq ?_
                  refine C.region [(false,0),(false,1),(false,2),(false,3),(false,4),(false,5),(false,6),(false,7),(false,8),(false,9),(false,10),(false,11),(false,12),(false,13),(false,14),(false,15),(false,16),(false,17),(false,18),(false,19),(false,20)] rfl ?_
                  refine L.move rfl rfl rfl trivial ?_
                  refine L.eql rfl rfl rfl rfl trivial ?_
                  refine L.move rfl rfl rfl trivial ?_
                  refine' L.and [(false,3),(false,4),(false,5),(false,6),(false,7),(false,8),(false,9),(false,10),(false,11),(false,12),(false,13),(false,14),(false,15),(false,16)] [(false,17),(false,18),(false,19),(false,20)] (s := 100) (p := 114) rfl rfl (fun hg4 => ?_) (fun hg4 => ?_) ?_
                  rotate_left
                  · refine L.move rfl rfl rfl ⟨_, rfl, rfl⟩ ?_
                    refine L.eql rfl rfl rfl rfl ⟨_, rfl, rfl⟩ ?_
                    refine L.move rfl rfl rfl ⟨_, rfl, rfl⟩ ?_
                    refine' L.or [(false,6),(false,7),(false,8),(false,9),(false,10),(false,11),(false,12),(false,13),(false,14),(false,15)] [(false,16)] (s := 103) (p := 113) rfl rfl (fun hg5 => ?_) (fun hg5 => ?_) ?_
                    rotate_left
                    · refine L.move rfl rfl rfl ⟨_, rfl, rfl⟩ ?_
                      refine L.eql rfl rfl rfl rfl ⟨_, rfl, rfl⟩ ?_
                      refine L.move rfl rfl rfl ⟨_, rfl, rfl⟩ ?_
                      refine' L.and [(false,9),(false,10),(false,11),(false,12),(false,13),(false,14)] [(false,15)] (s := 106) (p := 112) rfl rfl (fun hg6 => ?_) (fun hg6 => ?_) ?_
                      rotate_left
                      · refine L.move rfl rfl rfl ⟨_, rfl, rfl⟩ ?_
                        refine L.call rfl rfl rfl (fun D14 hD14 => BitsR_ok (tn &&& (2 ^ y.claims.length - 1)) (by omega) _) rfl ⟨_, rfl, rfl⟩ (fun v14 D14 hD14 hp14 => ?_)
                        have hbn := hp14
                        refine L.move rfl rfl rfl ⟨_, rfl, rfl⟩ ?_
                        refine L.callV rfl rfl rfl (fun D15 hD15 => Shorter_ok _ _ (bitsL (tn &&& (2 ^ y.claims.length - 1))) (bitsL b0) _ (hbn.up RI.up (hD15 _ (by simp))) (hlv.up RI.up (hD15 _ (by simp)))) rfl ⟨_, rfl, rfl⟩ ?_
                        refine L.not rfl rfl rfl ⟨_, rfl, rfl⟩ ?_
                        refine L.pickT rfl rfl rfl rfl ⟨_, rfl, rfl⟩ ?_
                        exact L.nil fun a w hh => (hh.cutK 5 rfl).ds (fun _ h => List.Mem.tail _ (h))
                      · refine L.pass rfl rfl rfl ⟨_, _, rfl, rfl, rfl⟩ ?_
                        refine L.pass rfl rfl rfl ⟨_, _, rfl, rfl, rfl⟩ ?_
                        refine L.pass rfl rfl rfl ⟨_, _, rfl, rfl, rfl⟩ ?_
                        refine L.pass rfl rfl rfl ⟨_, _, rfl, rfl, rfl⟩ ?_
                        refine L.pass rfl rfl rfl ⟨_, _, rfl, rfl, rfl⟩ ?_
                        refine L.pickF rfl rfl rfl rfl ⟨_, rfl, rfl⟩ ?_
                        exact L.nil fun a w hh => hh.cutK 5 rfl
                      refine L.pickF rfl rfl rfl rfl ⟨_, rfl, rfl⟩ ?_
                      exact L.nil fun a w hh => hh.cutK 4 rfl
                    · refine L.pass rfl rfl rfl ⟨_, _, rfl, rfl, rfl⟩ ?_
                      refine L.pass rfl rfl rfl ⟨_, _, rfl, rfl, rfl⟩ ?_
                      refine L.pass rfl rfl rfl ⟨_, _, rfl, rfl, rfl⟩ ?_
                      refine L.pass rfl rfl rfl ⟨_, _, rfl, rfl, rfl⟩ ?_
                      refine L.pass rfl rfl rfl ⟨_, _, rfl, rfl, rfl⟩ ?_
                      refine L.pass rfl rfl rfl ⟨_, _, rfl, rfl, rfl⟩ ?_
                      refine L.pass rfl rfl rfl ⟨_, _, rfl, rfl, rfl⟩ ?_
                      refine L.pass rfl rfl rfl ⟨_, _, rfl, rfl, rfl⟩ ?_
                      refine L.pass rfl rfl rfl ⟨_, _, rfl, rfl, rfl⟩ ?_
                      refine L.pickT rfl rfl rfl rfl ⟨_, rfl, rfl⟩ ?_
                      exact L.nil fun a w hh => hh.cutK 9 rfl
                    refine L.pickT rfl rfl rfl rfl trivial ?_
                    exact L.nil fun a w hh => hh.cutK 4 rfl
                  · refine L.pass rfl rfl rfl ⟨_, _, rfl, rfl, rfl⟩ ?_
                    refine L.pass rfl rfl rfl ⟨_, _, rfl, rfl, rfl⟩ ?_
                    refine L.pass rfl rfl rfl ⟨_, _, rfl, rfl, rfl⟩ ?_
                    refine L.pass rfl rfl rfl ⟨_, _, rfl, rfl, rfl⟩ ?_
                    refine L.pass rfl rfl rfl ⟨_, _, rfl, rfl, rfl⟩ ?_
                    refine L.pass rfl rfl rfl ⟨_, _, rfl, rfl, rfl⟩ ?_
                    refine L.pass rfl rfl rfl ⟨_, _, rfl, rfl, rfl⟩ ?_
                    refine L.pass rfl rfl rfl ⟨_, _, rfl, rfl, rfl⟩ ?_
                    refine L.pass rfl rfl rfl ⟨_, _, rfl, rfl, rfl⟩ ?_
                    refine L.pass rfl rfl rfl ⟨_, _, rfl, rfl, rfl⟩ ?_
                    refine L.pass rfl rfl rfl ⟨_, _, rfl, rfl, rfl⟩ ?_
                    refine L.pass rfl rfl rfl ⟨_, _, rfl, rfl, rfl⟩ ?_
                    refine L.pass rfl rfl rfl ⟨_, _, rfl, rfl, rfl⟩ ?_
                    refine L.pickF rfl rfl rfl rfl trivial ?_
                    exact L.nil fun a w hh => hh.cutK 13 rfl
                  refine L.move rfl rfl rfl trivial ?_
                  refine' L.and [(false,18),(false,19)] [(false,20)] (s := 115) (p := 117) rfl rfl (fun hg7 => ?_) (fun hg7 => ?_) ?_
                  rotate_left
                  · refine L.callV rfl rfl rfl (fun D16 hD16 => awake_ok _) rfl ⟨_, rfl, rfl⟩ ?_
                    refine L.pickT rfl rfl rfl rfl trivial ?_
                    exact L.nil fun a w hh => hh.cutK 1 rfl
                  · refine L.pass rfl rfl rfl ⟨_, _, rfl, rfl, rfl⟩ ?_
                    refine L.pickF rfl rfl rfl rfl trivial ?_
                    exact L.nil fun a w hh => hh.cutK 1 rfl
                  refine L.assign rfl rfl rfl trivial ?_
                  refine L.nil ?_
                  refine C.next ?_
                  refine C.ret ?_
                  exact leave (vs := [_]) rfl rfl rfl ⟨rfl, trivial⟩ (fun D hD => congrArg Value.bool (mlf_ok hf0 hb0 hpos hmin hand))
              · refine L.alloc rfl Tf.z61 rfl rfl trivial (fun q2 => ?_)
                refine L.nil ?_
                refine L.planFin [(true,7),(false,8),(false,9),(true,10)] rfl ?_
                refine L.callV rfl rfl rfl (fun D9 hD9 => Bounds_ok _ (someY y (dif (2 ^ y.claims.length - 1) b0)) _ (hw.up (hD9 _ (by simp)))) rfl trivial ?_
                refine L.move rfl rfl rfl trivial ?_
                refine L.extract rfl rfl rfl rfl trivial ?_
                refine L.extract rfl rfl rfl rfl trivial ?_
                refine L.nil ?_
                refine S.fin [(true,12),(false,13)] rfl ?_
                refine L.apart hB1 (by simp) (fun hap => ?_)
                refine L.storeB rfl rfl rfl rfl Tf.s61 (Has.head) (by simp) rfl (by simp [cell1]) (Or.inr (But.in_ (by rw [List.mem_singleton]; rintro rfl; exact hap (List.mem_map.2 ⟨_, (List.Mem.head _), rfl⟩)))) trivial ?_
                refine L.assign rfl rfl rfl trivial ?_
                refine L.nil ?_
                refine S.nil ?_
                refine C.next ?_
                refine C.seq ?_
                refine C.drawS (But.mk [q1]) 6 [false,true,true,true,true,true,true,true,false,false,true,true,true,false] [.fork [0,1,3] 2 (.fork [4] 5 (.fork [] 6 (.fork [] 7 (.fin [8,9,10,11]) 11 (.fin [7,8,9,10])) 11 (.fin [6,7,8,9,10])) 11 (.fin [5,6,7,8,9,10])) 11 (.fin [2,4,5,6,7,8,9,10]), .fin [12,13]] Tf.follows (fun _ _ _ h => np_body (P := Try.prog) (fn := Try.f16) _ _ _ h) (by kernel_rfl) ?_
                refine S.cons ?_
                refine L.planFork [(false,0),(true,1),(true,3)] rfl ?_
                refine L.loadDW rfl Tf.a25 rfl hB1 (by simp) Tf.s25 (But.out (by simp)) rfl trivial ?_
                refine L.loadDW rfl Tf.a25 rfl hB1 (by simp) Tf.s25 (But.out (by simp)) rfl trivial ?_
                refine L.move rfl rfl rfl trivial ?_
                refine L.nil (L.forkP true true rfl rfl ?_ ?_)
                · refine L.callV rfl rfl rfl (fun D10 hD10 => Full_ok _ y _ (hy0.up (hD10 _ (by simp))) (by omega)) rfl trivial ?_
                  refine L.nil ?_
                  refine L.planFork [(true,4)] rfl ?_
                  refine L.difN (m := 2 ^ y.claims.length - 1) (n := (tn &&& (2 ^ y.claims.length - 1))) rfl (by show some (Value.int _ _) = some (Value.int _ _); congr 2; omega) rfl (by omega) (by omega) rfl trivial ?_
                  refine L.nil (L.forkP true true rfl rfl ?_ ?_)
                  · refine L.call rfl rfl rfl (fun D11 hD11 => some_ok _ y (dif (2 ^ y.claims.length - 1) (tn &&& (2 ^ y.claims.length - 1))) _ _ rfl (hy0.up (hD11 _ (by simp))) (by have := dif_le (2 ^ y.claims.length - 1) (tn &&& (2 ^ y.claims.length - 1)); omega) (by omega)) rfl trivial (fun v11 D11 hD11 hp11 => ?_)
                    have hs2 := hp11
                    refine L.nil ?_
                    refine L.planFork [] rfl ?_
                    refine L.nil (L.forkP true true rfl rfl ?_ ?_)
                    · refine L.call rfl rfl rfl (fun D12 hD12 => YardL_ok _ (someY y (dif (2 ^ y.claims.length - 1) (tn &&& (2 ^ y.claims.length - 1)))) _ (hs2.up (hD12 _ (by simp))) (by simp only [someY]; omega) (by have := someK_len y.claims (dif (2 ^ y.claims.length - 1) (tn &&& (2 ^ y.claims.length - 1))) y.claims.length; simp only [someY]; omega)) rfl trivial (fun v12 D12 hD12 hp12 => ?_)
                      have hw := hp12
                      refine L.nil ?_
                      refine L.planFork [] rfl ?_
                      refine L.nil (L.forkP true true rfl rfl ?_ ?_)
                      · refine L.callV rfl rfl rfl (fun D13 hD13 => Bounds_ok _ (someY y (dif (2 ^ y.claims.length - 1) (tn &&& (2 ^ y.claims.length - 1)))) _ (hw.up (hD13 _ (by simp)))) rfl trivial ?_
                        refine L.nil ?_
                        refine L.planFin [(false,8),(false,9),(true,10),(true,11)] rfl ?_
                        refine L.move rfl rfl rfl trivial ?_
                        refine L.extract rfl rfl rfl rfl trivial ?_
                        refine L.extract rfl rfl rfl rfl trivial ?_
                        refine L.alloc rfl Tf.z61 rfl rfl trivial (fun q3 => ?_)
                        refine L.nil ?_
                        refine S.fin [(true,12),(false,13)] rfl ?_
                        refine L.apart hB1 (by simp) (fun hap => ?_)
                        refine L.storeB rfl rfl rfl rfl Tf.s61 (Has.head) (by simp) rfl (by simp [cell1]) (Or.inr (But.in_ (by rw [List.mem_singleton]; rintro rfl; exact hap (List.mem_map.2 ⟨_, (List.Mem.head _), rfl⟩)))) trivial ?_
                        refine L.assign rfl rfl rfl trivial ?_
                        refine L.nil ?_
                        refine S.nil ?_
                        refine C.next ?_
                        refine C.seq ?_
                        refine C.region [(false,0),(false,1),(false,2),(false,3),(false,4),(false,5),(false,6),(false,7),(false,8),(false,9),(false,10),(false,11),(false,12),(false,13),(false,14),(false,15),(false,16),(false,17),(false,18),(false,19),(false,20)] rfl ?_
                        refine L.move rfl rfl rfl trivial ?_
                        refine L.eql rfl rfl rfl rfl trivial ?_
                        refine L.move rfl rfl rfl trivial ?_
                        refine' L.and [(false,3),(false,4),(false,5),(false,6),(false,7),(false,8),(false,9),(false,10),(false,11),(false,12),(false,13),(false,14),(false,15),(false,16)] [(false,17),(false,18),(false,19),(false,20)] (s := 100) (p := 114) rfl rfl (fun hg4 => ?_) (fun hg4 => ?_) ?_
                        rotate_left
                        · refine L.move rfl rfl rfl ⟨_, rfl, rfl⟩ ?_
                          refine L.eql rfl rfl rfl rfl ⟨_, rfl, rfl⟩ ?_
                          refine L.move rfl rfl rfl ⟨_, rfl, rfl⟩ ?_
                          refine' L.or [(false,6),(false,7),(false,8),(false,9),(false,10),(false,11),(false,12),(false,13),(false,14),(false,15)] [(false,16)] (s := 103) (p := 113) rfl rfl (fun hg5 => ?_) (fun hg5 => ?_) ?_
                          rotate_left
                          · refine L.move rfl rfl rfl ⟨_, rfl, rfl⟩ ?_
                            refine L.eql rfl rfl rfl rfl ⟨_, rfl, rfl⟩ ?_
                            refine L.move rfl rfl rfl ⟨_, rfl, rfl⟩ ?_
                            refine' L.and [(false,9),(false,10),(false,11),(false,12),(false,13),(false,14)] [(false,15)] (s := 106) (p := 112) rfl rfl (fun hg6 => ?_) (fun hg6 => ?_) ?_
                            rotate_left
                            · refine L.move rfl rfl rfl ⟨_, rfl, rfl⟩ ?_
                              refine L.call rfl rfl rfl (fun D14 hD14 => BitsR_ok (tn &&& (2 ^ y.claims.length - 1)) (by omega) _) rfl ⟨_, rfl, rfl⟩ (fun v14 D14 hD14 hp14 => ?_)
                              have hbn := hp14
                              refine L.move rfl rfl rfl ⟨_, rfl, rfl⟩ ?_
                              refine L.callV rfl rfl rfl (fun D15 hD15 => Shorter_ok _ _ (bitsL (tn &&& (2 ^ y.claims.length - 1))) (bitsL b0) _ (hbn.up RI.up (hD15 _ (by simp))) (hlv.up RI.up (hD15 _ (by simp)))) rfl ⟨_, rfl, rfl⟩ ?_
                              refine L.not rfl rfl rfl ⟨_, rfl, rfl⟩ ?_
                              refine L.pickT rfl rfl rfl rfl ⟨_, rfl, rfl⟩ ?_
                              exact L.nil fun a w hh => (hh.cutK 5 rfl).ds (fun _ h => List.Mem.tail _ (h))
                            · refine L.pass rfl rfl rfl ⟨_, _, rfl, rfl, rfl⟩ ?_
                              refine L.pass rfl rfl rfl ⟨_, _, rfl, rfl, rfl⟩ ?_
                              refine L.pass rfl rfl rfl ⟨_, _, rfl, rfl, rfl⟩ ?_
                              refine L.pass rfl rfl rfl ⟨_, _, rfl, rfl, rfl⟩ ?_
                              refine L.pass rfl rfl rfl ⟨_, _, rfl, rfl, rfl⟩ ?_
                              refine L.pickF rfl rfl rfl rfl ⟨_, rfl, rfl⟩ ?_
                              exact L.nil fun a w hh => hh.cutK 5 rfl
                            refine L.pickF rfl rfl rfl rfl ⟨_, rfl, rfl⟩ ?_
                            exact L.nil fun a w hh => hh.cutK 4 rfl
                          · refine L.pass rfl rfl rfl ⟨_, _, rfl, rfl, rfl⟩ ?_
                            refine L.pass rfl rfl rfl ⟨_, _, rfl, rfl, rfl⟩ ?_
                            refine L.pass rfl rfl rfl ⟨_, _, rfl, rfl, rfl⟩ ?_
                            refine L.pass rfl rfl rfl ⟨_, _, rfl, rfl, rfl⟩ ?_
                            refine L.pass rfl rfl rfl ⟨_, _, rfl, rfl, rfl⟩ ?_
                            refine L.pass rfl rfl rfl ⟨_, _, rfl, rfl, rfl⟩ ?_
                            refine L.pass rfl rfl rfl ⟨_, _, rfl, rfl, rfl⟩ ?_
                            refine L.pass rfl rfl rfl ⟨_, _, rfl, rfl, rfl⟩ ?_
                            refine L.pass rfl rfl rfl ⟨_, _, rfl, rfl, rfl⟩ ?_
                            refine L.pickT rfl rfl rfl rfl ⟨_, rfl, rfl⟩ ?_
                            exact L.nil fun a w hh => hh.cutK 9 rfl
                          refine L.pickT rfl rfl rfl rfl trivial ?_
                          exact L.nil fun a w hh => hh.cutK 4 rfl
                        · refine L.pass rfl rfl rfl ⟨_, _, rfl, rfl, rfl⟩ ?_
                          refine L.pass rfl rfl rfl ⟨_, _, rfl, rfl, rfl⟩ ?_
                          refine L.pass rfl rfl rfl ⟨_, _, rfl, rfl, rfl⟩ ?_
                          refine L.pass rfl rfl rfl ⟨_, _, rfl, rfl, rfl⟩ ?_
                          refine L.pass rfl rfl rfl ⟨_, _, rfl, rfl, rfl⟩ ?_
                          refine L.pass rfl rfl rfl ⟨_, _, rfl, rfl, rfl⟩ ?_
                          refine L.pass rfl rfl rfl ⟨_, _, rfl, rfl, rfl⟩ ?_
                          refine L.pass rfl rfl rfl ⟨_, _, rfl, rfl, rfl⟩ ?_
                          refine L.pass rfl rfl rfl ⟨_, _, rfl, rfl, rfl⟩ ?_
                          refine L.pass rfl rfl rfl ⟨_, _, rfl, rfl, rfl⟩ ?_
                          refine L.pass rfl rfl rfl ⟨_, _, rfl, rfl, rfl⟩ ?_
                          refine L.pass rfl rfl rfl ⟨_, _, rfl, rfl, rfl⟩ ?_
                          refine L.pass rfl rfl rfl ⟨_, _, rfl, rfl, rfl⟩ ?_
                          refine L.pickF rfl rfl rfl rfl trivial ?_
                          exact L.nil fun a w hh => hh.cutK 13 rfl
                        refine L.move rfl rfl rfl trivial ?_
                        refine' L.and [(false,18),(false,19)] [(false,20)] (s := 115) (p := 117) rfl rfl (fun hg7 => ?_) (fun hg7 => ?_) ?_
                        rotate_left
                        · refine L.callV rfl rfl rfl (fun D16 hD16 => awake_ok _) rfl ⟨_, rfl, rfl⟩ ?_
                          refine L.pickT rfl rfl rfl rfl trivial ?_
                          exact L.nil fun a w hh => hh.cutK 1 rfl
                        · refine L.pass rfl rfl rfl ⟨_, _, rfl, rfl, rfl⟩ ?_
                          refine L.pickF rfl rfl rfl rfl trivial ?_
                          exact L.nil fun a w hh => hh.cutK 1 rfl
                        refine L.assign rfl rfl rfl trivial ?_
                        refine L.nil ?_
                        refine C.next ?_
                        refine C.ret ?_
                        exact leave (vs := [_]) rfl rfl rfl ⟨rfl, trivial⟩ (fun D hD => congrArg Value.bool (mlf_ok hf0 hb0 hpos hmin hand))
                      · refine L.alloc rfl Tf.z61 rfl rfl trivial (fun q3 => ?_)
                        refine L.nil ?_
                        refine L.planFin [(true,7),(false,8),(false,9),(true,10)] rfl ?_
                        refine L.callV rfl rfl rfl (fun D13 hD13 => Bounds_ok _ (someY y (dif (2 ^ y.claims.length - 1) (tn &&& (2 ^ y.claims.length - 1)))) _ (hw.up (hD13 _ (by simp)))) rfl trivial ?_
                        refine L.move rfl rfl rfl trivial ?_
                        refine L.extract rfl rfl rfl rfl trivial ?_
                        refine L.extract rfl rfl rfl rfl trivial ?_
                        refine L.nil ?_
                        refine S.fin [(true,12),(false,13)] rfl ?_
                        refine L.apart hB1 (by simp) (fun hap => ?_)
                        refine L.storeB rfl rfl rfl rfl Tf.s61 (Has.head) (by simp) rfl (by simp [cell1]) (Or.inr (But.in_ (by rw [List.mem_singleton]; rintro rfl; exact hap (List.mem_map.2 ⟨_, (List.Mem.head _), rfl⟩)))) trivial ?_
                        refine L.assign rfl rfl rfl trivial ?_
                        refine L.nil ?_
                        refine S.nil ?_
                        refine C.next ?_
                        refine C.seq ?_
                        refine C.region [(false,0),(false,1),(false,2),(false,3),(false,4),(false,5),(false,6),(false,7),(false,8),(false,9),(false,10),(false,11),(false,12),(false,13),(false,14),(false,15),(false,16),(false,17),(false,18),(false,19),(false,20)] rfl ?_
                        refine L.move rfl rfl rfl trivial ?_
                        refine L.eql rfl rfl rfl rfl trivial ?_
                        refine L.move rfl rfl rfl trivial ?_
                        refine' L.and [(false,3),(false,4),(false,5),(false,6),(false,7),(false,8),(false,9),(false,10),(false,11),(false,12),(false,13),(false,14),(false,15),(false,16)] [(false,17),(false,18),(false,19),(false,20)] (s := 100) (p := 114) rfl rfl (fun hg4 => ?_) (fun hg4 => ?_) ?_
                        rotate_left
                        · refine L.move rfl rfl rfl ⟨_, rfl, rfl⟩ ?_
                          refine L.eql rfl rfl rfl rfl ⟨_, rfl, rfl⟩ ?_
                          refine L.move rfl rfl rfl ⟨_, rfl, rfl⟩ ?_
                          refine' L.or [(false,6),(false,7),(false,8),(false,9),(false,10),(false,11),(false,12),(false,13),(false,14),(false,15)] [(false,16)] (s := 103) (p := 113) rfl rfl (fun hg5 => ?_) (fun hg5 => ?_) ?_
                          rotate_left
                          · refine L.move rfl rfl rfl ⟨_, rfl, rfl⟩ ?_
                            refine L.eql rfl rfl rfl rfl ⟨_, rfl, rfl⟩ ?_
                            refine L.move rfl rfl rfl ⟨_, rfl, rfl⟩ ?_
                            refine' L.and [(false,9),(false,10),(false,11),(false,12),(false,13),(false,14)] [(false,15)] (s := 106) (p := 112) rfl rfl (fun hg6 => ?_) (fun hg6 => ?_) ?_
                            rotate_left
                            · refine L.move rfl rfl rfl ⟨_, rfl, rfl⟩ ?_
                              refine L.call rfl rfl rfl (fun D14 hD14 => BitsR_ok (tn &&& (2 ^ y.claims.length - 1)) (by omega) _) rfl ⟨_, rfl, rfl⟩ (fun v14 D14 hD14 hp14 => ?_)
                              have hbn := hp14
                              refine L.move rfl rfl rfl ⟨_, rfl, rfl⟩ ?_
                              refine L.callV rfl rfl rfl (fun D15 hD15 => Shorter_ok _ _ (bitsL (tn &&& (2 ^ y.claims.length - 1))) (bitsL b0) _ (hbn.up RI.up (hD15 _ (by simp))) (hlv.up RI.up (hD15 _ (by simp)))) rfl ⟨_, rfl, rfl⟩ ?_
                              refine L.not rfl rfl rfl ⟨_, rfl, rfl⟩ ?_
                              refine L.pickT rfl rfl rfl rfl ⟨_, rfl, rfl⟩ ?_
                              exact L.nil fun a w hh => (hh.cutK 5 rfl).ds (fun _ h => List.Mem.tail _ (h))
                            · refine L.pass rfl rfl rfl ⟨_, _, rfl, rfl, rfl⟩ ?_
                              refine L.pass rfl rfl rfl ⟨_, _, rfl, rfl, rfl⟩ ?_
                              refine L.pass rfl rfl rfl ⟨_, _, rfl, rfl, rfl⟩ ?_
                              refine L.pass rfl rfl rfl ⟨_, _, rfl, rfl, rfl⟩ ?_
                              refine L.pass rfl rfl rfl ⟨_, _, rfl, rfl, rfl⟩ ?_
                              refine L.pickF rfl rfl rfl rfl ⟨_, rfl, rfl⟩ ?_
                              exact L.nil fun a w hh => hh.cutK 5 rfl
                            refine L.pickF rfl rfl rfl rfl ⟨_, rfl, rfl⟩ ?_
                            exact L.nil fun a w hh => hh.cutK 4 rfl
                          · refine L.pass rfl rfl rfl ⟨_, _, rfl, rfl, rfl⟩ ?_
                            refine L.pass rfl rfl rfl ⟨_, _, rfl, rfl, rfl⟩ ?_
                            refine L.pass rfl rfl rfl ⟨_, _, rfl, rfl, rfl⟩ ?_
                            refine L.pass rfl rfl rfl ⟨_, _, rfl, rfl, rfl⟩ ?_
                            refine L.pass rfl rfl rfl ⟨_, _, rfl, rfl, rfl⟩ ?_
                            refine L.pass rfl rfl rfl ⟨_, _, rfl, rfl, rfl⟩ ?_
                            refine L.pass rfl rfl rfl ⟨_, _, rfl, rfl, rfl⟩ ?_
                            refine L.pass rfl rfl rfl ⟨_, _, rfl, rfl, rfl⟩ ?_
                            refine L.pass rfl rfl rfl ⟨_, _, rfl, rfl, rfl⟩ ?_
                            refine L.pickT rfl rfl rfl rfl ⟨_, rfl, rfl⟩ ?_
                            exact L.nil fun a w hh => hh.cutK 9 rfl
                          refine L.pickT rfl rfl rfl rfl trivial ?_
                          exact L.nil fun a w hh => hh.cutK 4 rfl
                        · refine L.pass rfl rfl rfl ⟨_, _, rfl, rfl, rfl⟩ ?_
                          refine L.pass rfl rfl rfl ⟨_, _, rfl, rfl, rfl⟩ ?_
                          refine L.pass rfl rfl rfl ⟨_, _, rfl, rfl, rfl⟩ ?_
                          refine L.pass rfl rfl rfl ⟨_, _, rfl, rfl, rfl⟩ ?_
                          refine L.pass rfl rfl rfl ⟨_, _, rfl, rfl, rfl⟩ ?_
                          refine L.pass rfl rfl rfl ⟨_, _, rfl, rfl, rfl⟩ ?_
                          refine L.pass rfl rfl rfl ⟨_, _, rfl, rfl, rfl⟩ ?_
                          refine L.pass rfl rfl rfl ⟨_, _, rfl, rfl, rfl⟩ ?_
                          refine L.pass rfl rfl rfl ⟨_, _, rfl, rfl, rfl⟩ ?_
                          refine L.pass rfl rfl rfl ⟨_, _, rfl, rfl, rfl⟩ ?_
                          refine L.pass rfl rfl rfl ⟨_, _, rfl, rfl, rfl⟩ ?_
                          refine L.pass rfl rfl rfl ⟨_, _, rfl, rfl, rfl⟩ ?_
                          refine L.pass rfl rfl rfl ⟨_, _, rfl, rfl, rfl⟩ ?_
                          refine L.pickF rfl rfl rfl rfl trivial ?_
                          exact L.nil fun a w hh => hh.cutK 13 rfl
                        refine L.move rfl rfl rfl trivial ?_
                        refine' L.and [(false,18),(false,19)] [(false,20)] (s := 115) (p := 117) rfl rfl (fun hg7 => ?_) (fun hg7 => ?_) ?_
                        rotate_left
                        · refine L.callV rfl rfl rfl (fun D16 hD16 => awake_ok _) rfl ⟨_, rfl, rfl⟩ ?_
                          refine L.pickT rfl rfl rfl rfl trivial ?_
                          exact L.nil fun a w hh => hh.cutK 1 rfl
                        · refine L.pass rfl rfl rfl ⟨_, _, rfl, rfl, rfl⟩ ?_
                          refine L.pickF rfl rfl rfl rfl trivial ?_
                          exact L.nil fun a w hh => hh.cutK 1 rfl
                        refine L.assign rfl rfl rfl trivial ?_
                        refine L.nil ?_
                        refine C.next ?_
                        refine C.ret ?_
                        exact leave (vs := [_]) rfl rfl rfl ⟨rfl, trivial⟩ (fun D hD => congrArg Value.bool (mlf_ok hf0 hb0 hpos hmin hand))
                    · refine L.alloc rfl Tf.z61 rfl rfl trivial (fun q3 => ?_)
                      refine L.nil ?_
                      refine L.planFin [(true,6),(true,7),(false,8),(false,9),(true,10)] rfl ?_
                      refine L.call rfl rfl rfl (fun D12 hD12 => YardL_ok _ (someY y (dif (2 ^ y.claims.length - 1) (tn &&& (2 ^ y.claims.length - 1)))) _ (hs2.up (hD12 _ (by simp))) (by simp only [someY]; omega) (by have := someK_len y.claims (dif (2 ^ y.claims.length - 1) (tn &&& (2 ^ y.claims.length - 1))) y.claims.length; simp only [someY]; omega)) rfl trivial (fun v12 D12 hD12 hp12 => ?_)
                      have hw := hp12
                      refine L.callV rfl rfl rfl (fun D13 hD13 => Bounds_ok _ (someY y (dif (2 ^ y.claims.length - 1) (tn &&& (2 ^ y.claims.length - 1)))) _ (hw.up (hD13 _ (by simp)))) rfl trivial ?_
                      refine L.move rfl rfl rfl trivial ?_
                      refine L.extract rfl rfl rfl rfl trivial ?_
                      refine L.extract rfl rfl rfl rfl trivial ?_
                      refine L.nil ?_
                      refine S.fin [(true,12),(false,13)] rfl ?_
                      refine L.apart hB1 (by simp) (fun hap => ?_)
                      refine L.storeB rfl rfl rfl rfl Tf.s61 (Has.head) (by simp) rfl (by simp [cell1]) (Or.inr (But.in_ (by rw [List.mem_singleton]; rintro rfl; exact hap (List.mem_map.2 ⟨_, (List.Mem.head _), rfl⟩)))) trivial ?_
                      refine L.assign rfl rfl rfl trivial ?_
                      refine L.nil ?_
                      refine S.nil ?_
                      refine C.next ?_
                      refine C.seq ?_
                      refine C.region [(false,0),(false,1),(false,2),(false,3),(false,4),(false,5),(false,6),(false,7),(false,8),(false,9),(false,10),(false,11),(false,12),(false,13),(false,14),(false,15),(false,16),(false,17),(false,18),(false,19),(false,20)] rfl ?_
                      refine L.move rfl rfl rfl trivial ?_
                      refine L.eql rfl rfl rfl rfl trivial ?_
                      refine L.move rfl rfl rfl trivial ?_
                      refine' L.and [(false,3),(false,4),(false,5),(false,6),(false,7),(false,8),(false,9),(false,10),(false,11),(false,12),(false,13),(false,14),(false,15),(false,16)] [(false,17),(false,18),(false,19),(false,20)] (s := 100) (p := 114) rfl rfl (fun hg4 => ?_) (fun hg4 => ?_) ?_
                      rotate_left
                      · refine L.move rfl rfl rfl ⟨_, rfl, rfl⟩ ?_
                        refine L.eql rfl rfl rfl rfl ⟨_, rfl, rfl⟩ ?_
                        refine L.move rfl rfl rfl ⟨_, rfl, rfl⟩ ?_
                        refine' L.or [(false,6),(false,7),(false,8),(false,9),(false,10),(false,11),(false,12),(false,13),(false,14),(false,15)] [(false,16)] (s := 103) (p := 113) rfl rfl (fun hg5 => ?_) (fun hg5 => ?_) ?_
                        rotate_left
                        · refine L.move rfl rfl rfl ⟨_, rfl, rfl⟩ ?_
                          refine L.eql rfl rfl rfl rfl ⟨_, rfl, rfl⟩ ?_
                          refine L.move rfl rfl rfl ⟨_, rfl, rfl⟩ ?_
                          refine' L.and [(false,9),(false,10),(false,11),(false,12),(false,13),(false,14)] [(false,15)] (s := 106) (p := 112) rfl rfl (fun hg6 => ?_) (fun hg6 => ?_) ?_
                          rotate_left
                          · refine L.move rfl rfl rfl ⟨_, rfl, rfl⟩ ?_
                            refine L.call rfl rfl rfl (fun D14 hD14 => BitsR_ok (tn &&& (2 ^ y.claims.length - 1)) (by omega) _) rfl ⟨_, rfl, rfl⟩ (fun v14 D14 hD14 hp14 => ?_)
                            have hbn := hp14
                            refine L.move rfl rfl rfl ⟨_, rfl, rfl⟩ ?_
                            refine L.callV rfl rfl rfl (fun D15 hD15 => Shorter_ok _ _ (bitsL (tn &&& (2 ^ y.claims.length - 1))) (bitsL b0) _ (hbn.up RI.up (hD15 _ (by simp))) (hlv.up RI.up (hD15 _ (by simp)))) rfl ⟨_, rfl, rfl⟩ ?_
                            refine L.not rfl rfl rfl ⟨_, rfl, rfl⟩ ?_
                            refine L.pickT rfl rfl rfl rfl ⟨_, rfl, rfl⟩ ?_
                            exact L.nil fun a w hh => (hh.cutK 5 rfl).ds (fun _ h => List.Mem.tail _ (h))
                          · refine L.pass rfl rfl rfl ⟨_, _, rfl, rfl, rfl⟩ ?_
                            refine L.pass rfl rfl rfl ⟨_, _, rfl, rfl, rfl⟩ ?_
                            refine L.pass rfl rfl rfl ⟨_, _, rfl, rfl, rfl⟩ ?_
                            refine L.pass rfl rfl rfl ⟨_, _, rfl, rfl, rfl⟩ ?_
                            refine L.pass rfl rfl rfl ⟨_, _, rfl, rfl, rfl⟩ ?_
                            refine L.pickF rfl rfl rfl rfl ⟨_, rfl, rfl⟩ ?_
                            exact L.nil fun a w hh => hh.cutK 5 rfl
                          refine L.pickF rfl rfl rfl rfl ⟨_, rfl, rfl⟩ ?_
                          exact L.nil fun a w hh => hh.cutK 4 rfl
                        · refine L.pass rfl rfl rfl ⟨_, _, rfl, rfl, rfl⟩ ?_
                          refine L.pass rfl rfl rfl ⟨_, _, rfl, rfl, rfl⟩ ?_
                          refine L.pass rfl rfl rfl ⟨_, _, rfl, rfl, rfl⟩ ?_
                          refine L.pass rfl rfl rfl ⟨_, _, rfl, rfl, rfl⟩ ?_
                          refine L.pass rfl rfl rfl ⟨_, _, rfl, rfl, rfl⟩ ?_
                          refine L.pass rfl rfl rfl ⟨_, _, rfl, rfl, rfl⟩ ?_
                          refine L.pass rfl rfl rfl ⟨_, _, rfl, rfl, rfl⟩ ?_
                          refine L.pass rfl rfl rfl ⟨_, _, rfl, rfl, rfl⟩ ?_
                          refine L.pass rfl rfl rfl ⟨_, _, rfl, rfl, rfl⟩ ?_
                          refine L.pickT rfl rfl rfl rfl ⟨_, rfl, rfl⟩ ?_
                          exact L.nil fun a w hh => hh.cutK 9 rfl
                        refine L.pickT rfl rfl rfl rfl trivial ?_
                        exact L.nil fun a w hh => hh.cutK 4 rfl
                      · refine L.pass rfl rfl rfl ⟨_, _, rfl, rfl, rfl⟩ ?_
                        refine L.pass rfl rfl rfl ⟨_, _, rfl, rfl, rfl⟩ ?_
                        refine L.pass rfl rfl rfl ⟨_, _, rfl, rfl, rfl⟩ ?_
                        refine L.pass rfl rfl rfl ⟨_, _, rfl, rfl, rfl⟩ ?_
                        refine L.pass rfl rfl rfl ⟨_, _, rfl, rfl, rfl⟩ ?_
                        refine L.pass rfl rfl rfl ⟨_, _, rfl, rfl, rfl⟩ ?_
                        refine L.pass rfl rfl rfl ⟨_, _, rfl, rfl, rfl⟩ ?_
                        refine L.pass rfl rfl rfl ⟨_, _, rfl, rfl, rfl⟩ ?_
                        refine L.pass rfl rfl rfl ⟨_, _, rfl, rfl, rfl⟩ ?_
                        refine L.pass rfl rfl rfl ⟨_, _, rfl, rfl, rfl⟩ ?_
                        refine L.pass rfl rfl rfl ⟨_, _, rfl, rfl, rfl⟩ ?_
                        refine L.pass rfl rfl rfl ⟨_, _, rfl, rfl, rfl⟩ ?_
                        refine L.pass rfl rfl rfl ⟨_, _, rfl, rfl, rfl⟩ ?_
                        refine L.pickF rfl rfl rfl rfl trivial ?_
                        exact L.nil fun a w hh => hh.cutK 13 rfl
                      refine L.move rfl rfl rfl trivial ?_
                      refine' L.and [(false,18),(false,19)] [(false,20)] (s := 115) (p := 117) rfl rfl (fun hg7 => ?_) (fun hg7 => ?_) ?_
                      rotate_left
                      · refine L.callV rfl rfl rfl (fun D16 hD16 => awake_ok _) rfl ⟨_, rfl, rfl⟩ ?_
                        refine L.pickT rfl rfl rfl rfl trivial ?_
                        exact L.nil fun a w hh => hh.cutK 1 rfl
                      · refine L.pass rfl rfl rfl ⟨_, _, rfl, rfl, rfl⟩ ?_
                        refine L.pickF rfl rfl rfl rfl trivial ?_
                        exact L.nil fun a w hh => hh.cutK 1 rfl
                      refine L.assign rfl rfl rfl trivial ?_
                      refine L.nil ?_
                      refine C.next ?_
                      refine C.ret ?_
                      exact leave (vs := [_]) rfl rfl rfl ⟨rfl, trivial⟩ (fun D hD => congrArg Value.bool (mlf_ok hf0 hb0 hpos hmin hand))
                  · refine L.alloc rfl Tf.z61 rfl rfl trivial (fun q3 => ?_)
                    refine L.nil ?_
                    refine L.planFin [(true,5),(true,6),(true,7),(false,8),(false,9),(true,10)] rfl ?_
                    refine L.call rfl rfl rfl (fun D11 hD11 => some_ok _ y (dif (2 ^ y.claims.length - 1) (tn &&& (2 ^ y.claims.length - 1))) _ _ rfl (hy0.up (hD11 _ (by simp))) (by have := dif_le (2 ^ y.claims.length - 1) (tn &&& (2 ^ y.claims.length - 1)); omega) (by omega)) rfl trivial (fun v11 D11 hD11 hp11 => ?_)
                    have hs2 := hp11
                    refine L.call rfl rfl rfl (fun D12 hD12 => YardL_ok _ (someY y (dif (2 ^ y.claims.length - 1) (tn &&& (2 ^ y.claims.length - 1)))) _ (hs2.up (hD12 _ (by simp))) (by simp only [someY]; omega) (by have := someK_len y.claims (dif (2 ^ y.claims.length - 1) (tn &&& (2 ^ y.claims.length - 1))) y.claims.length; simp only [someY]; omega)) rfl trivial (fun v12 D12 hD12 hp12 => ?_)
                    have hw := hp12
                    refine L.callV rfl rfl rfl (fun D13 hD13 => Bounds_ok _ (someY y (dif (2 ^ y.claims.length - 1) (tn &&& (2 ^ y.claims.length - 1)))) _ (hw.up (hD13 _ (by simp)))) rfl trivial ?_
                    refine L.move rfl rfl rfl trivial ?_
                    refine L.extract rfl rfl rfl rfl trivial ?_
                    refine L.extract rfl rfl rfl rfl trivial ?_
                    refine L.nil ?_
                    refine S.fin [(true,12),(false,13)] rfl ?_
                    refine L.apart hB1 (by simp) (fun hap => ?_)
                    refine L.storeB rfl rfl rfl rfl Tf.s61 (Has.head) (by simp) rfl (by simp [cell1]) (Or.inr (But.in_ (by rw [List.mem_singleton]; rintro rfl; exact hap (List.mem_map.2 ⟨_, (List.Mem.head _), rfl⟩)))) trivial ?_
                    refine L.assign rfl rfl rfl trivial ?_
                    refine L.nil ?_
                    refine S.nil ?_
                    refine C.next ?_
                    refine C.seq ?_
                    refine C.region [(false,0),(false,1),(false,2),(false,3),(false,4),(false,5),(false,6),(false,7),(false,8),(false,9),(false,10),(false,11),(false,12),(false,13),(false,14),(false,15),(false,16),(false,17),(false,18),(false,19),(false,20)] rfl ?_
                    refine L.move rfl rfl rfl trivial ?_
                    refine L.eql rfl rfl rfl rfl trivial ?_
                    refine L.move rfl rfl rfl trivial ?_
                    refine' L.and [(false,3),(false,4),(false,5),(false,6),(false,7),(false,8),(false,9),(false,10),(false,11),(false,12),(false,13),(false,14),(false,15),(false,16)] [(false,17),(false,18),(false,19),(false,20)] (s := 100) (p := 114) rfl rfl (fun hg4 => ?_) (fun hg4 => ?_) ?_
                    rotate_left
                    · refine L.move rfl rfl rfl ⟨_, rfl, rfl⟩ ?_
                      refine L.eql rfl rfl rfl rfl ⟨_, rfl, rfl⟩ ?_
                      refine L.move rfl rfl rfl ⟨_, rfl, rfl⟩ ?_
                      refine' L.or [(false,6),(false,7),(false,8),(false,9),(false,10),(false,11),(false,12),(false,13),(false,14),(false,15)] [(false,16)] (s := 103) (p := 113) rfl rfl (fun hg5 => ?_) (fun hg5 => ?_) ?_
                      rotate_left
                      · refine L.move rfl rfl rfl ⟨_, rfl, rfl⟩ ?_
                        refine L.eql rfl rfl rfl rfl ⟨_, rfl, rfl⟩ ?_
                        refine L.move rfl rfl rfl ⟨_, rfl, rfl⟩ ?_
                        refine' L.and [(false,9),(false,10),(false,11),(false,12),(false,13),(false,14)] [(false,15)] (s := 106) (p := 112) rfl rfl (fun hg6 => ?_) (fun hg6 => ?_) ?_
                        rotate_left
                        · refine L.move rfl rfl rfl ⟨_, rfl, rfl⟩ ?_
                          refine L.call rfl rfl rfl (fun D14 hD14 => BitsR_ok (tn &&& (2 ^ y.claims.length - 1)) (by omega) _) rfl ⟨_, rfl, rfl⟩ (fun v14 D14 hD14 hp14 => ?_)
                          have hbn := hp14
                          refine L.move rfl rfl rfl ⟨_, rfl, rfl⟩ ?_
                          refine L.callV rfl rfl rfl (fun D15 hD15 => Shorter_ok _ _ (bitsL (tn &&& (2 ^ y.claims.length - 1))) (bitsL b0) _ (hbn.up RI.up (hD15 _ (by simp))) (hlv.up RI.up (hD15 _ (by simp)))) rfl ⟨_, rfl, rfl⟩ ?_
                          refine L.not rfl rfl rfl ⟨_, rfl, rfl⟩ ?_
                          refine L.pickT rfl rfl rfl rfl ⟨_, rfl, rfl⟩ ?_
                          exact L.nil fun a w hh => (hh.cutK 5 rfl).ds (fun _ h => List.Mem.tail _ (h))
                        · refine L.pass rfl rfl rfl ⟨_, _, rfl, rfl, rfl⟩ ?_
                          refine L.pass rfl rfl rfl ⟨_, _, rfl, rfl, rfl⟩ ?_
                          refine L.pass rfl rfl rfl ⟨_, _, rfl, rfl, rfl⟩ ?_
                          refine L.pass rfl rfl rfl ⟨_, _, rfl, rfl, rfl⟩ ?_
                          refine L.pass rfl rfl rfl ⟨_, _, rfl, rfl, rfl⟩ ?_
                          refine L.pickF rfl rfl rfl rfl ⟨_, rfl, rfl⟩ ?_
                          exact L.nil fun a w hh => hh.cutK 5 rfl
                        refine L.pickF rfl rfl rfl rfl ⟨_, rfl, rfl⟩ ?_
                        exact L.nil fun a w hh => hh.cutK 4 rfl
                      · refine L.pass rfl rfl rfl ⟨_, _, rfl, rfl, rfl⟩ ?_
                        refine L.pass rfl rfl rfl ⟨_, _, rfl, rfl, rfl⟩ ?_
                        refine L.pass rfl rfl rfl ⟨_, _, rfl, rfl, rfl⟩ ?_
                        refine L.pass rfl rfl rfl ⟨_, _, rfl, rfl, rfl⟩ ?_
                        refine L.pass rfl rfl rfl ⟨_, _, rfl, rfl, rfl⟩ ?_
                        refine L.pass rfl rfl rfl ⟨_, _, rfl, rfl, rfl⟩ ?_
                        refine L.pass rfl rfl rfl ⟨_, _, rfl, rfl, rfl⟩ ?_
                        refine L.pass rfl rfl rfl ⟨_, _, rfl, rfl, rfl⟩ ?_
                        refine L.pass rfl rfl rfl ⟨_, _, rfl, rfl, rfl⟩ ?_
                        refine L.pickT rfl rfl rfl rfl ⟨_, rfl, rfl⟩ ?_
                        exact L.nil fun a w hh => hh.cutK 9 rfl
                      refine L.pickT rfl rfl rfl rfl trivial ?_
                      exact L.nil fun a w hh => hh.cutK 4 rfl
                    · refine L.pass rfl rfl rfl ⟨_, _, rfl, rfl, rfl⟩ ?_
                      refine L.pass rfl rfl rfl ⟨_, _, rfl, rfl, rfl⟩ ?_
                      refine L.pass rfl rfl rfl ⟨_, _, rfl, rfl, rfl⟩ ?_
                      refine L.pass rfl rfl rfl ⟨_, _, rfl, rfl, rfl⟩ ?_
                      refine L.pass rfl rfl rfl ⟨_, _, rfl, rfl, rfl⟩ ?_
                      refine L.pass rfl rfl rfl ⟨_, _, rfl, rfl, rfl⟩ ?_
                      refine L.pass rfl rfl rfl ⟨_, _, rfl, rfl, rfl⟩ ?_
                      refine L.pass rfl rfl rfl ⟨_, _, rfl, rfl, rfl⟩ ?_
                      refine L.pass rfl rfl rfl ⟨_, _, rfl, rfl, rfl⟩ ?_
                      refine L.pass rfl rfl rfl ⟨_, _, rfl, rfl, rfl⟩ ?_
                      refine L.pass rfl rfl rfl ⟨_, _, rfl, rfl, rfl⟩ ?_
                      refine L.pass rfl rfl rfl ⟨_, _, rfl, rfl, rfl⟩ ?_
                      refine L.pass rfl rfl rfl ⟨_, _, rfl, rfl, rfl⟩ ?_
                      refine L.pickF rfl rfl rfl rfl trivial ?_
                      exact L.nil fun a w hh => hh.cutK 13 rfl
                    refine L.move rfl rfl rfl trivial ?_
                    refine' L.and [(false,18),(false,19)] [(false,20)] (s := 115) (p := 117) rfl rfl (fun hg7 => ?_) (fun hg7 => ?_) ?_
                    rotate_left
                    · refine L.callV rfl rfl rfl (fun D16 hD16 => awake_ok _) rfl ⟨_, rfl, rfl⟩ ?_
                      refine L.pickT rfl rfl rfl rfl trivial ?_
                      exact L.nil fun a w hh => hh.cutK 1 rfl
                    · refine L.pass rfl rfl rfl ⟨_, _, rfl, rfl, rfl⟩ ?_
                      refine L.pickF rfl rfl rfl rfl trivial ?_
                      exact L.nil fun a w hh => hh.cutK 1 rfl
                    refine L.assign rfl rfl rfl trivial ?_
                    refine L.nil ?_
                    refine C.next ?_
                    refine C.ret ?_
                    exact leave (vs := [_]) rfl rfl rfl ⟨rfl, trivial⟩ (fun D hD => congrArg Value.bool (mlf_ok hf0 hb0 hpos hmin hand))
                · refine L.alloc rfl Tf.z61 rfl rfl trivial (fun q3 => ?_)
                  refine L.nil ?_
                  refine L.planFin [(true,2),(true,4),(true,5),(true,6),(true,7),(false,8),(false,9),(true,10)] rfl ?_
                  refine L.callV rfl rfl rfl (fun D10 hD10 => Full_ok _ y _ (hy0.up (hD10 _ (by simp))) (by omega)) rfl trivial ?_
                  refine L.difN (m := 2 ^ y.claims.length - 1) (n := (tn &&& (2 ^ y.claims.length - 1))) rfl (by show some (Value.int _ _) = some (Value.int _ _); congr 2; omega) rfl (by omega) (by omega) rfl trivial ?_
                  refine L.call rfl rfl rfl (fun D11 hD11 => some_ok _ y (dif (2 ^ y.claims.length - 1) (tn &&& (2 ^ y.claims.length - 1))) _ _ rfl (hy0.up (hD11 _ (by simp))) (by have := dif_le (2 ^ y.claims.length - 1) (tn &&& (2 ^ y.claims.length - 1)); omega) (by omega)) rfl trivial (fun v11 D11 hD11 hp11 => ?_)
                  have hs2 := hp11
                  refine L.call rfl rfl rfl (fun D12 hD12 => YardL_ok _ (someY y (dif (2 ^ y.claims.length - 1) (tn &&& (2 ^ y.claims.length - 1)))) _ (hs2.up (hD12 _ (by simp))) (by simp only [someY]; omega) (by have := someK_len y.claims (dif (2 ^ y.claims.length - 1) (tn &&& (2 ^ y.claims.length - 1))) y.claims.length; simp only [someY]; omega)) rfl trivial (fun v12 D12 hD12 hp12 => ?_)
                  have hw := hp12
                  refine L.callV rfl rfl rfl (fun D13 hD13 => Bounds_ok _ (someY y (dif (2 ^ y.claims.length - 1) (tn &&& (2 ^ y.claims.length - 1)))) _ (hw.up (hD13 _ (by simp)))) rfl trivial ?_
                  refine L.move rfl rfl rfl trivial ?_
                  refine L.extract rfl rfl rfl rfl trivial ?_
                  refine L.extract rfl rfl rfl rfl trivial ?_
                  refine L.nil ?_
                  refine S.fin [(true,12),(false,13)] rfl ?_
                  refine L.apart hB1 (by simp) (fun hap => ?_)
                  refine L.storeB rfl rfl rfl rfl Tf.s61 (Has.head) (by simp) rfl (by simp [cell1]) (Or.inr (But.in_ (by rw [List.mem_singleton]; rintro rfl; exact hap (List.mem_map.2 ⟨_, (List.Mem.head _), rfl⟩)))) trivial ?_
                  refine L.assign rfl rfl rfl trivial ?_
                  refine L.nil ?_
                  refine S.nil ?_
                  refine C.next ?_
                  refine C.seq ?_
                  refine C.region [(false,0),(false,1),(false,2),(false,3),(false,4),(false,5),(false,6),(false,7),(false,8),(false,9),(false,10),(false,11),(false,12),(false,13),(false,14),(false,15),(false,16),(false,17),(false,18),(false,19),(false,20)] rfl ?_
                  refine L.move rfl rfl rfl trivial ?_
                  refine L.eql rfl rfl rfl rfl trivial ?_
                  refine L.move rfl rfl rfl trivial ?_
                  refine' L.and [(false,3),(false,4),(false,5),(false,6),(false,7),(false,8),(false,9),(false,10),(false,11),(false,12),(false,13),(false,14),(false,15),(false,16)] [(false,17),(false,18),(false,19),(false,20)] (s := 100) (p := 114) rfl rfl (fun hg4 => ?_) (fun hg4 => ?_) ?_
                  rotate_left
                  · refine L.move rfl rfl rfl ⟨_, rfl, rfl⟩ ?_
                    refine L.eql rfl rfl rfl rfl ⟨_, rfl, rfl⟩ ?_
                    refine L.move rfl rfl rfl ⟨_, rfl, rfl⟩ ?_
                    refine' L.or [(false,6),(false,7),(false,8),(false,9),(false,10),(false,11),(false,12),(false,13),(false,14),(false,15)] [(false,16)] (s := 103) (p := 113) rfl rfl (fun hg5 => ?_) (fun hg5 => ?_) ?_
                    rotate_left
                    · refine L.move rfl rfl rfl ⟨_, rfl, rfl⟩ ?_
                      refine L.eql rfl rfl rfl rfl ⟨_, rfl, rfl⟩ ?_
                      refine L.move rfl rfl rfl ⟨_, rfl, rfl⟩ ?_
                      refine' L.and [(false,9),(false,10),(false,11),(false,12),(false,13),(false,14)] [(false,15)] (s := 106) (p := 112) rfl rfl (fun hg6 => ?_) (fun hg6 => ?_) ?_
                      rotate_left
                      · refine L.move rfl rfl rfl ⟨_, rfl, rfl⟩ ?_
                        refine L.call rfl rfl rfl (fun D14 hD14 => BitsR_ok (tn &&& (2 ^ y.claims.length - 1)) (by omega) _) rfl ⟨_, rfl, rfl⟩ (fun v14 D14 hD14 hp14 => ?_)
                        have hbn := hp14
                        refine L.move rfl rfl rfl ⟨_, rfl, rfl⟩ ?_
                        refine L.callV rfl rfl rfl (fun D15 hD15 => Shorter_ok _ _ (bitsL (tn &&& (2 ^ y.claims.length - 1))) (bitsL b0) _ (hbn.up RI.up (hD15 _ (by simp))) (hlv.up RI.up (hD15 _ (by simp)))) rfl ⟨_, rfl, rfl⟩ ?_
                        refine L.not rfl rfl rfl ⟨_, rfl, rfl⟩ ?_
                        refine L.pickT rfl rfl rfl rfl ⟨_, rfl, rfl⟩ ?_
                        exact L.nil fun a w hh => (hh.cutK 5 rfl).ds (fun _ h => List.Mem.tail _ (h))
                      · refine L.pass rfl rfl rfl ⟨_, _, rfl, rfl, rfl⟩ ?_
                        refine L.pass rfl rfl rfl ⟨_, _, rfl, rfl, rfl⟩ ?_
                        refine L.pass rfl rfl rfl ⟨_, _, rfl, rfl, rfl⟩ ?_
                        refine L.pass rfl rfl rfl ⟨_, _, rfl, rfl, rfl⟩ ?_
                        refine L.pass rfl rfl rfl ⟨_, _, rfl, rfl, rfl⟩ ?_
                        refine L.pickF rfl rfl rfl rfl ⟨_, rfl, rfl⟩ ?_
                        exact L.nil fun a w hh => hh.cutK 5 rfl
                      refine L.pickF rfl rfl rfl rfl ⟨_, rfl, rfl⟩ ?_
                      exact L.nil fun a w hh => hh.cutK 4 rfl
                    · refine L.pass rfl rfl rfl ⟨_, _, rfl, rfl, rfl⟩ ?_
                      refine L.pass rfl rfl rfl ⟨_, _, rfl, rfl, rfl⟩ ?_
                      refine L.pass rfl rfl rfl ⟨_, _, rfl, rfl, rfl⟩ ?_
                      refine L.pass rfl rfl rfl ⟨_, _, rfl, rfl, rfl⟩ ?_
                      refine L.pass rfl rfl rfl ⟨_, _, rfl, rfl, rfl⟩ ?_
                      refine L.pass rfl rfl rfl ⟨_, _, rfl, rfl, rfl⟩ ?_
                      refine L.pass rfl rfl rfl ⟨_, _, rfl, rfl, rfl⟩ ?_
                      refine L.pass rfl rfl rfl ⟨_, _, rfl, rfl, rfl⟩ ?_
                      refine L.pass rfl rfl rfl ⟨_, _, rfl, rfl, rfl⟩ ?_
                      refine L.pickT rfl rfl rfl rfl ⟨_, rfl, rfl⟩ ?_
                      exact L.nil fun a w hh => hh.cutK 9 rfl
                    refine L.pickT rfl rfl rfl rfl trivial ?_
                    exact L.nil fun a w hh => hh.cutK 4 rfl
                  · refine L.pass rfl rfl rfl ⟨_, _, rfl, rfl, rfl⟩ ?_
                    refine L.pass rfl rfl rfl ⟨_, _, rfl, rfl, rfl⟩ ?_
                    refine L.pass rfl rfl rfl ⟨_, _, rfl, rfl, rfl⟩ ?_
                    refine L.pass rfl rfl rfl ⟨_, _, rfl, rfl, rfl⟩ ?_
                    refine L.pass rfl rfl rfl ⟨_, _, rfl, rfl, rfl⟩ ?_
                    refine L.pass rfl rfl rfl ⟨_, _, rfl, rfl, rfl⟩ ?_
                    refine L.pass rfl rfl rfl ⟨_, _, rfl, rfl, rfl⟩ ?_
                    refine L.pass rfl rfl rfl ⟨_, _, rfl, rfl, rfl⟩ ?_
                    refine L.pass rfl rfl rfl ⟨_, _, rfl, rfl, rfl⟩ ?_
                    refine L.pass rfl rfl rfl ⟨_, _, rfl, rfl, rfl⟩ ?_
                    refine L.pass rfl rfl rfl ⟨_, _, rfl, rfl, rfl⟩ ?_
                    refine L.pass rfl rfl rfl ⟨_, _, rfl, rfl, rfl⟩ ?_
                    refine L.pass rfl rfl rfl ⟨_, _, rfl, rfl, rfl⟩ ?_
                    refine L.pickF rfl rfl rfl rfl trivial ?_
                    exact L.nil fun a w hh => hh.cutK 13 rfl
                  refine L.move rfl rfl rfl trivial ?_
                  refine' L.and [(false,18),(false,19)] [(false,20)] (s := 115) (p := 117) rfl rfl (fun hg7 => ?_) (fun hg7 => ?_) ?_
                  rotate_left
                  · refine L.callV rfl rfl rfl (fun D16 hD16 => awake_ok _) rfl ⟨_, rfl, rfl⟩ ?_
                    refine L.pickT rfl rfl rfl rfl trivial ?_
                    exact L.nil fun a w hh => hh.cutK 1 rfl
                  · refine L.pass rfl rfl rfl ⟨_, _, rfl, rfl, rfl⟩ ?_
                    refine L.pickF rfl rfl rfl rfl trivial ?_
                    exact L.nil fun a w hh => hh.cutK 1 rfl
                  refine L.assign rfl rfl rfl trivial ?_
                  refine L.nil ?_
                  refine C.next ?_
                  refine C.ret ?_
                  exact leave (vs := [_]) rfl rfl rfl ⟨rfl, trivial⟩ (fun D hD => congrArg Value.bool (mlf_ok hf0 hb0 hpos hmin hand))
            · refine L.alloc rfl Tf.z61 rfl rfl trivial (fun q2 => ?_)
              refine L.nil ?_
              refine L.planFin [(true,6),(true,7),(false,8),(false,9),(true,10)] rfl ?_
              refine L.call rfl rfl rfl (fun D8 hD8 => YardL_ok _ (someY y (dif (2 ^ y.claims.length - 1) b0)) _ (hs1.up (hD8 _ (by simp))) (by simp only [someY]; omega) (by have := someK_len y.claims (dif (2 ^ y.claims.length - 1) b0) y.claims.length; simp only [someY]; omega)) rfl trivial (fun v8 D8 hD8 hp8 => ?_)
              have hw := hp8
              refine L.callV rfl rfl rfl (fun D9 hD9 => Bounds_ok _ (someY y (dif (2 ^ y.claims.length - 1) b0)) _ (hw.up (hD9 _ (by simp)))) rfl trivial ?_
              refine L.move rfl rfl rfl trivial ?_
              refine L.extract rfl rfl rfl rfl trivial ?_
              refine L.extract rfl rfl rfl rfl trivial ?_
              refine L.nil ?_
              refine S.fin [(true,12),(false,13)] rfl ?_
              refine L.apart hB1 (by simp) (fun hap => ?_)
              refine L.storeB rfl rfl rfl rfl Tf.s61 (Has.head) (by simp) rfl (by simp [cell1]) (Or.inr (But.in_ (by rw [List.mem_singleton]; rintro rfl; exact hap (List.mem_map.2 ⟨_, (List.Mem.head _), rfl⟩)))) trivial ?_
              refine L.assign rfl rfl rfl trivial ?_
              refine L.nil ?_
              refine S.nil ?_
              refine C.next ?_
              refine C.seq ?_
              refine C.drawS (But.mk [q1]) 6 [false,true,true,true,true,true,true,true,false,false,true,true,true,false] [.fork [0,1,3] 2 (.fork [4] 5 (.fork [] 6 (.fork [] 7 (.fin [8,9,10,11]) 11 (.fin [7,8,9,10])) 11 (.fin [6,7,8,9,10])) 11 (.fin [5,6,7,8,9,10])) 11 (.fin [2,4,5,6,7,8,9,10]), .fin [12,13]] Tf.follows (fun _ _ _ h => np_body (P := Try.prog) (fn := Try.f16) _ _ _ h) (by kernel_rfl) ?_
              refine S.cons ?_
              refine L.planFork [(false,0),(true,1),(true,3)] rfl ?_
              refine L.loadDW rfl Tf.a25 rfl hB1 (by simp) Tf.s25 (But.out (by simp)) rfl trivial ?_
              refine L.loadDW rfl Tf.a25 rfl hB1 (by simp) Tf.s25 (But.out (by simp)) rfl trivial ?_
              refine L.move rfl rfl rfl trivial ?_
              refine L.nil (L.forkP true true rfl rfl ?_ ?_)
              · refine L.callV rfl rfl rfl (fun D10 hD10 => Full_ok _ y _ (hy0.up (hD10 _ (by simp))) (by omega)) rfl trivial ?_
                refine L.nil ?_
                refine L.planFork [(true,4)] rfl ?_
                refine L.difN (m := 2 ^ y.claims.length - 1) (n := (tn &&& (2 ^ y.claims.length - 1))) rfl (by show some (Value.int _ _) = some (Value.int _ _); congr 2; omega) rfl (by omega) (by omega) rfl trivial ?_
                refine L.nil (L.forkP true true rfl rfl ?_ ?_)
                · refine L.call rfl rfl rfl (fun D11 hD11 => some_ok _ y (dif (2 ^ y.claims.length - 1) (tn &&& (2 ^ y.claims.length - 1))) _ _ rfl (hy0.up (hD11 _ (by simp))) (by have := dif_le (2 ^ y.claims.length - 1) (tn &&& (2 ^ y.claims.length - 1)); omega) (by omega)) rfl trivial (fun v11 D11 hD11 hp11 => ?_)
                  have hs2 := hp11
                  refine L.nil ?_
                  refine L.planFork [] rfl ?_
                  refine L.nil (L.forkP true true rfl rfl ?_ ?_)
                  · refine L.call rfl rfl rfl (fun D12 hD12 => YardL_ok _ (someY y (dif (2 ^ y.claims.length - 1) (tn &&& (2 ^ y.claims.length - 1)))) _ (hs2.up (hD12 _ (by simp))) (by simp only [someY]; omega) (by have := someK_len y.claims (dif (2 ^ y.claims.length - 1) (tn &&& (2 ^ y.claims.length - 1))) y.claims.length; simp only [someY]; omega)) rfl trivial (fun v12 D12 hD12 hp12 => ?_)
                    have hw := hp12
                    refine L.nil ?_
                    refine L.planFork [] rfl ?_
                    refine L.nil (L.forkP true true rfl rfl ?_ ?_)
                    · refine L.callV rfl rfl rfl (fun D13 hD13 => Bounds_ok _ (someY y (dif (2 ^ y.claims.length - 1) (tn &&& (2 ^ y.claims.length - 1)))) _ (hw.up (hD13 _ (by simp)))) rfl trivial ?_
                      refine L.nil ?_
                      refine L.planFin [(false,8),(false,9),(true,10),(true,11)] rfl ?_
                      refine L.move rfl rfl rfl trivial ?_
                      refine L.extract rfl rfl rfl rfl trivial ?_
                      refine L.extract rfl rfl rfl rfl trivial ?_
                      refine L.alloc rfl Tf.z61 rfl rfl trivial (fun q3 => ?_)
                      refine L.nil ?_
                      refine S.fin [(true,12),(false,13)] rfl ?_
                      refine L.apart hB1 (by simp) (fun hap => ?_)
                      refine L.storeB rfl rfl rfl rfl Tf.s61 (Has.head) (by simp) rfl (by simp [cell1]) (Or.inr (But.in_ (by rw [List.mem_singleton]; rintro rfl; exact hap (List.mem_map.2 ⟨_, (List.Mem.head _), rfl⟩)))) trivial ?_
                      refine L.assign rfl rfl rfl trivial ?_
                      refine L.nil ?_
                      refine S.nil ?_
                      refine C.next ?_
                      refine C.seq ?_
                      refine C.region [(false,0),(false,1),(false,2),(false,3),(false,4),(false,5),(false,6),(false,7),(false,8),(false,9),(false,10),(false,11),(false,12),(false,13),(false,14),(false,15),(false,16),(false,17),(false,18),(false,19),(false,20)] rfl ?_
                      refine L.move rfl rfl rfl trivial ?_
                      refine L.eql rfl rfl rfl rfl trivial ?_
                      refine L.move rfl rfl rfl trivial ?_
                      refine' L.and [(false,3),(false,4),(false,5),(false,6),(false,7),(false,8),(false,9),(false,10),(false,11),(false,12),(false,13),(false,14),(false,15),(false,16)] [(false,17),(false,18),(false,19),(false,20)] (s := 100) (p := 114) rfl rfl (fun hg4 => ?_) (fun hg4 => ?_) ?_
                      rotate_left
                      · refine L.move rfl rfl rfl ⟨_, rfl, rfl⟩ ?_
                        refine L.eql rfl rfl rfl rfl ⟨_, rfl, rfl⟩ ?_
                        refine L.move rfl rfl rfl ⟨_, rfl, rfl⟩ ?_
                        refine' L.or [(false,6),(false,7),(false,8),(false,9),(false,10),(false,11),(false,12),(false,13),(false,14),(false,15)] [(false,16)] (s := 103) (p := 113) rfl rfl (fun hg5 => ?_) (fun hg5 => ?_) ?_
                        rotate_left
                        · refine L.move rfl rfl rfl ⟨_, rfl, rfl⟩ ?_
                          refine L.eql rfl rfl rfl rfl ⟨_, rfl, rfl⟩ ?_
                          refine L.move rfl rfl rfl ⟨_, rfl, rfl⟩ ?_
                          refine' L.and [(false,9),(false,10),(false,11),(false,12),(false,13),(false,14)] [(false,15)] (s := 106) (p := 112) rfl rfl (fun hg6 => ?_) (fun hg6 => ?_) ?_
                          rotate_left
                          · refine L.move rfl rfl rfl ⟨_, rfl, rfl⟩ ?_
                            refine L.call rfl rfl rfl (fun D14 hD14 => BitsR_ok (tn &&& (2 ^ y.claims.length - 1)) (by omega) _) rfl ⟨_, rfl, rfl⟩ (fun v14 D14 hD14 hp14 => ?_)
                            have hbn := hp14
                            refine L.move rfl rfl rfl ⟨_, rfl, rfl⟩ ?_
                            refine L.callV rfl rfl rfl (fun D15 hD15 => Shorter_ok _ _ (bitsL (tn &&& (2 ^ y.claims.length - 1))) (bitsL b0) _ (hbn.up RI.up (hD15 _ (by simp))) (hlv.up RI.up (hD15 _ (by simp)))) rfl ⟨_, rfl, rfl⟩ ?_
                            refine L.not rfl rfl rfl ⟨_, rfl, rfl⟩ ?_
                            refine L.pickT rfl rfl rfl rfl ⟨_, rfl, rfl⟩ ?_
                            exact L.nil fun a w hh => (hh.cutK 5 rfl).ds (fun _ h => List.Mem.tail _ (h))
                          · refine L.pass rfl rfl rfl ⟨_, _, rfl, rfl, rfl⟩ ?_
                            refine L.pass rfl rfl rfl ⟨_, _, rfl, rfl, rfl⟩ ?_
                            refine L.pass rfl rfl rfl ⟨_, _, rfl, rfl, rfl⟩ ?_
                            refine L.pass rfl rfl rfl ⟨_, _, rfl, rfl, rfl⟩ ?_
                            refine L.pass rfl rfl rfl ⟨_, _, rfl, rfl, rfl⟩ ?_
                            refine L.pickF rfl rfl rfl rfl ⟨_, rfl, rfl⟩ ?_
                            exact L.nil fun a w hh => hh.cutK 5 rfl
                          refine L.pickF rfl rfl rfl rfl ⟨_, rfl, rfl⟩ ?_
                          exact L.nil fun a w hh => hh.cutK 4 rfl
                        · refine L.pass rfl rfl rfl ⟨_, _, rfl, rfl, rfl⟩ ?_
                          refine L.pass rfl rfl rfl ⟨_, _, rfl, rfl, rfl⟩ ?_
                          refine L.pass rfl rfl rfl ⟨_, _, rfl, rfl, rfl⟩ ?_
                          refine L.pass rfl rfl rfl ⟨_, _, rfl, rfl, rfl⟩ ?_
                          refine L.pass rfl rfl rfl ⟨_, _, rfl, rfl, rfl⟩ ?_
                          refine L.pass rfl rfl rfl ⟨_, _, rfl, rfl, rfl⟩ ?_
                          refine L.pass rfl rfl rfl ⟨_, _, rfl, rfl, rfl⟩ ?_
                          refine L.pass rfl rfl rfl ⟨_, _, rfl, rfl, rfl⟩ ?_
                          refine L.pass rfl rfl rfl ⟨_, _, rfl, rfl, rfl⟩ ?_
                          refine L.pickT rfl rfl rfl rfl ⟨_, rfl, rfl⟩ ?_
                          exact L.nil fun a w hh => hh.cutK 9 rfl
                        refine L.pickT rfl rfl rfl rfl trivial ?_
                        exact L.nil fun a w hh => hh.cutK 4 rfl
                      · refine L.pass rfl rfl rfl ⟨_, _, rfl, rfl, rfl⟩ ?_
                        refine L.pass rfl rfl rfl ⟨_, _, rfl, rfl, rfl⟩ ?_
                        refine L.pass rfl rfl rfl ⟨_, _, rfl, rfl, rfl⟩ ?_
                        refine L.pass rfl rfl rfl ⟨_, _, rfl, rfl, rfl⟩ ?_
                        refine L.pass rfl rfl rfl ⟨_, _, rfl, rfl, rfl⟩ ?_
                        refine L.pass rfl rfl rfl ⟨_, _, rfl, rfl, rfl⟩ ?_
                        refine L.pass rfl rfl rfl ⟨_, _, rfl, rfl, rfl⟩ ?_
                        refine L.pass rfl rfl rfl ⟨_, _, rfl, rfl, rfl⟩ ?_
                        refine L.pass rfl rfl rfl ⟨_, _, rfl, rfl, rfl⟩ ?_
                        refine L.pass rfl rfl rfl ⟨_, _, rfl, rfl, rfl⟩ ?_
                        refine L.pass rfl rfl rfl ⟨_, _, rfl, rfl, rfl⟩ ?_
                        refine L.pass rfl rfl rfl ⟨_, _, rfl, rfl, rfl⟩ ?_
                        refine L.pass rfl rfl rfl ⟨_, _, rfl, rfl, rfl⟩ ?_
                        refine L.pickF rfl rfl rfl rfl trivial ?_
                        exact L.nil fun a w hh => hh.cutK 13 rfl
                      refine L.move rfl rfl rfl trivial ?_
                      refine' L.and [(false,18),(false,19)] [(false,20)] (s := 115) (p := 117) rfl rfl (fun hg7 => ?_) (fun hg7 => ?_) ?_
                      rotate_left
                      · refine L.callV rfl rfl rfl (fun D16 hD16 => awake_ok _) rfl ⟨_, rfl, rfl⟩ ?_
                        refine L.pickT rfl rfl rfl rfl trivial ?_
                        exact L.nil fun a w hh => hh.cutK 1 rfl
                      · refine L.pass rfl rfl rfl ⟨_, _, rfl, rfl, rfl⟩ ?_
                        refine L.pickF rfl rfl rfl rfl trivial ?_
                        exact L.nil fun a w hh => hh.cutK 1 rfl
                      refine L.assign rfl rfl rfl trivial ?_
                      refine L.nil ?_
                      refine C.next ?_
                      refine C.ret ?_
                      exact leave (vs := [_]) rfl rfl rfl ⟨rfl, trivial⟩ (fun D hD => congrArg Value.bool (mlf_ok hf0 hb0 hpos hmin hand))
                    · refine L.alloc rfl Tf.z61 rfl rfl trivial (fun q3 => ?_)
                      refine L.nil ?_
                      refine L.planFin [(true,7),(false,8),(false,9),(true,10)] rfl ?_
                      refine L.callV rfl rfl rfl (fun D13 hD13 => Bounds_ok _ (someY y (dif (2 ^ y.claims.length - 1) (tn &&& (2 ^ y.claims.length - 1)))) _ (hw.up (hD13 _ (by simp)))) rfl trivial ?_
                      refine L.move rfl rfl rfl trivial ?_
                      refine L.extract rfl rfl rfl rfl trivial ?_
                      refine L.extract rfl rfl rfl rfl trivial ?_
                      refine L.nil ?_
                      refine S.fin [(true,12),(false,13)] rfl ?_
                      refine L.apart hB1 (by simp) (fun hap => ?_)
                      refine L.storeB rfl rfl rfl rfl Tf.s61 (Has.head) (by simp) rfl (by simp [cell1]) (Or.inr (But.in_ (by rw [List.mem_singleton]; rintro rfl; exact hap (List.mem_map.2 ⟨_, (List.Mem.head _), rfl⟩)))) trivial ?_
                      refine L.assign rfl rfl rfl trivial ?_
                      refine L.nil ?_
                      refine S.nil ?_
                      refine C.next ?_
                      refine C.seq ?_
                      refine C.region [(false,0),(false,1),(false,2),(false,3),(false,4),(false,5),(false,6),(false,7),(false,8),(false,9),(false,10),(false,11),(false,12),(false,13),(false,14),(false,15),(false,16),(false,17),(false,18),(false,19),(false,20)] rfl ?_
                      refine L.move rfl rfl rfl trivial ?_
                      refine L.eql rfl rfl rfl rfl trivial ?_
                      refine L.move rfl rfl rfl trivial ?_
                      refine' L.and [(false,3),(false,4),(false,5),(false,6),(false,7),(false,8),(false,9),(false,10),(false,11),(false,12),(false,13),(false,14),(false,15),(false,16)] [(false,17),(false,18),(false,19),(false,20)] (s := 100) (p := 114) rfl rfl (fun hg4 => ?_) (fun hg4 => ?_) ?_
                      rotate_left
                      · refine L.move rfl rfl rfl ⟨_, rfl, rfl⟩ ?_
                        refine L.eql rfl rfl rfl rfl ⟨_, rfl, rfl⟩ ?_
                        refine L.move rfl rfl rfl ⟨_, rfl, rfl⟩ ?_
                        refine' L.or [(false,6),(false,7),(false,8),(false,9),(false,10),(false,11),(false,12),(false,13),(false,14),(false,15)] [(false,16)] (s := 103) (p := 113) rfl rfl (fun hg5 => ?_) (fun hg5 => ?_) ?_
                        rotate_left
                        · refine L.move rfl rfl rfl ⟨_, rfl, rfl⟩ ?_
                          refine L.eql rfl rfl rfl rfl ⟨_, rfl, rfl⟩ ?_
                          refine L.move rfl rfl rfl ⟨_, rfl, rfl⟩ ?_
                          refine' L.and [(false,9),(false,10),(false,11),(false,12),(false,13),(false,14)] [(false,15)] (s := 106) (p := 112) rfl rfl (fun hg6 => ?_) (fun hg6 => ?_) ?_
                          rotate_left
                          · refine L.move rfl rfl rfl ⟨_, rfl, rfl⟩ ?_
                            refine L.call rfl rfl rfl (fun D14 hD14 => BitsR_ok (tn &&& (2 ^ y.claims.length - 1)) (by omega) _) rfl ⟨_, rfl, rfl⟩ (fun v14 D14 hD14 hp14 => ?_)
                            have hbn := hp14
                            refine L.move rfl rfl rfl ⟨_, rfl, rfl⟩ ?_
                            refine L.callV rfl rfl rfl (fun D15 hD15 => Shorter_ok _ _ (bitsL (tn &&& (2 ^ y.claims.length - 1))) (bitsL b0) _ (hbn.up RI.up (hD15 _ (by simp))) (hlv.up RI.up (hD15 _ (by simp)))) rfl ⟨_, rfl, rfl⟩ ?_
                            refine L.not rfl rfl rfl ⟨_, rfl, rfl⟩ ?_
                            refine L.pickT rfl rfl rfl rfl ⟨_, rfl, rfl⟩ ?_
                            exact L.nil fun a w hh => (hh.cutK 5 rfl).ds (fun _ h => List.Mem.tail _ (h))
                          · refine L.pass rfl rfl rfl ⟨_, _, rfl, rfl, rfl⟩ ?_
                            refine L.pass rfl rfl rfl ⟨_, _, rfl, rfl, rfl⟩ ?_
                            refine L.pass rfl rfl rfl ⟨_, _, rfl, rfl, rfl⟩ ?_
                            refine L.pass rfl rfl rfl ⟨_, _, rfl, rfl, rfl⟩ ?_
                            refine L.pass rfl rfl rfl ⟨_, _, rfl, rfl, rfl⟩ ?_
                            refine L.pickF rfl rfl rfl rfl ⟨_, rfl, rfl⟩ ?_
                            exact L.nil fun a w hh => hh.cutK 5 rfl
                          refine L.pickF rfl rfl rfl rfl ⟨_, rfl, rfl⟩ ?_
                          exact L.nil fun a w hh => hh.cutK 4 rfl
                        · refine L.pass rfl rfl rfl ⟨_, _, rfl, rfl, rfl⟩ ?_
                          refine L.pass rfl rfl rfl ⟨_, _, rfl, rfl, rfl⟩ ?_
                          refine L.pass rfl rfl rfl ⟨_, _, rfl, rfl, rfl⟩ ?_
                          refine L.pass rfl rfl rfl ⟨_, _, rfl, rfl, rfl⟩ ?_
                          refine L.pass rfl rfl rfl ⟨_, _, rfl, rfl, rfl⟩ ?_
                          refine L.pass rfl rfl rfl ⟨_, _, rfl, rfl, rfl⟩ ?_
                          refine L.pass rfl rfl rfl ⟨_, _, rfl, rfl, rfl⟩ ?_
                          refine L.pass rfl rfl rfl ⟨_, _, rfl, rfl, rfl⟩ ?_
                          refine L.pass rfl rfl rfl ⟨_, _, rfl, rfl, rfl⟩ ?_
                          refine L.pickT rfl rfl rfl rfl ⟨_, rfl, rfl⟩ ?_
                          exact L.nil fun a w hh => hh.cutK 9 rfl
                        refine L.pickT rfl rfl rfl rfl trivial ?_
                        exact L.nil fun a w hh => hh.cutK 4 rfl
                      · refine L.pass rfl rfl rfl ⟨_, _, rfl, rfl, rfl⟩ ?_
                        refine L.pass rfl rfl rfl ⟨_, _, rfl, rfl, rfl⟩ ?_
                        refine L.pass rfl rfl rfl ⟨_, _, rfl, rfl, rfl⟩ ?_
                        refine L.pass rfl rfl rfl ⟨_, _, rfl, rfl, rfl⟩ ?_
                        refine L.pass rfl rfl rfl ⟨_, _, rfl, rfl, rfl⟩ ?_
                        refine L.pass rfl rfl rfl ⟨_, _, rfl, rfl, rfl⟩ ?_
                        refine L.pass rfl rfl rfl ⟨_, _, rfl, rfl, rfl⟩ ?_
                        refine L.pass rfl rfl rfl ⟨_, _, rfl, rfl, rfl⟩ ?_
                        refine L.pass rfl rfl rfl ⟨_, _, rfl, rfl, rfl⟩ ?_
                        refine L.pass rfl rfl rfl ⟨_, _, rfl, rfl, rfl⟩ ?_
                        refine L.pass rfl rfl rfl ⟨_, _, rfl, rfl, rfl⟩ ?_
                        refine L.pass rfl rfl rfl ⟨_, _, rfl, rfl, rfl⟩ ?_
                        refine L.pass rfl rfl rfl ⟨_, _, rfl, rfl, rfl⟩ ?_
                        refine L.pickF rfl rfl rfl rfl trivial ?_
                        exact L.nil fun a w hh => hh.cutK 13 rfl
                      refine L.move rfl rfl rfl trivial ?_
                      refine' L.and [(false,18),(false,19)] [(false,20)] (s := 115) (p := 117) rfl rfl (fun hg7 => ?_) (fun hg7 => ?_) ?_
                      rotate_left
                      · refine L.callV rfl rfl rfl (fun D16 hD16 => awake_ok _) rfl ⟨_, rfl, rfl⟩ ?_
                        refine L.pickT rfl rfl rfl rfl trivial ?_
                        exact L.nil fun a w hh => hh.cutK 1 rfl
                      · refine L.pass rfl rfl rfl ⟨_, _, rfl, rfl, rfl⟩ ?_
                        refine L.pickF rfl rfl rfl rfl trivial ?_
                        exact L.nil fun a w hh => hh.cutK 1 rfl
                      refine L.assign rfl rfl rfl trivial ?_
                      refine L.nil ?_
                      refine C.next ?_
                      refine C.ret ?_
                      exact leave (vs := [_]) rfl rfl rfl ⟨rfl, trivial⟩ (fun D hD => congrArg Value.bool (mlf_ok hf0 hb0 hpos hmin hand))
                  · refine L.alloc rfl Tf.z61 rfl rfl trivial (fun q3 => ?_)
                    refine L.nil ?_
                    refine L.planFin [(true,6),(true,7),(false,8),(false,9),(true,10)] rfl ?_
                    refine L.call rfl rfl rfl (fun D12 hD12 => YardL_ok _ (someY y (dif (2 ^ y.claims.length - 1) (tn &&& (2 ^ y.claims.length - 1)))) _ (hs2.up (hD12 _ (by simp))) (by simp only [someY]; omega) (by have := someK_len y.claims (dif (2 ^ y.claims.length - 1) (tn &&& (2 ^ y.claims.length - 1))) y.claims.length; simp only [someY]; omega)) rfl trivial (fun v12 D12 hD12 hp12 => ?_)
                    have hw := hp12
                    refine L.callV rfl rfl rfl (fun D13 hD13 => Bounds_ok _ (someY y (dif (2 ^ y.claims.length - 1) (tn &&& (2 ^ y.claims.length - 1)))) _ (hw.up (hD13 _ (by simp)))) rfl trivial ?_
                    refine L.move rfl rfl rfl trivial ?_
                    refine L.extract rfl rfl rfl rfl trivial ?_
                    refine L.extract rfl rfl rfl rfl trivial ?_
                    refine L.nil ?_
                    refine S.fin [(true,12),(false,13)] rfl ?_
                    refine L.apart hB1 (by simp) (fun hap => ?_)
                    refine L.storeB rfl rfl rfl rfl Tf.s61 (Has.head) (by simp) rfl (by simp [cell1]) (Or.inr (But.in_ (by rw [List.mem_singleton]; rintro rfl; exact hap (List.mem_map.2 ⟨_, (List.Mem.head _), rfl⟩)))) trivial ?_
                    refine L.assign rfl rfl rfl trivial ?_
                    refine L.nil ?_
                    refine S.nil ?_
                    refine C.next ?_
                    refine C.seq ?_
                    refine C.region [(false,0),(false,1),(false,2),(false,3),(false,4),(false,5),(false,6),(false,7),(false,8),(false,9),(false,10),(false,11),(false,12),(false,13),(false,14),(false,15),(false,16),(false,17),(false,18),(false,19),(false,20)] rfl ?_
                    refine L.move rfl rfl rfl trivial ?_
                    refine L.eql rfl rfl rfl rfl trivial ?_
                    refine L.move rfl rfl rfl trivial ?_
                    refine' L.and [(false,3),(false,4),(false,5),(false,6),(false,7),(false,8),(false,9),(false,10),(false,11),(false,12),(false,13),(false,14),(false,15),(false,16)] [(false,17),(false,18),(false,19),(false,20)] (s := 100) (p := 114) rfl rfl (fun hg4 => ?_) (fun hg4 => ?_) ?_
                    rotate_left
                    · refine L.move rfl rfl rfl ⟨_, rfl, rfl⟩ ?_
                      refine L.eql rfl rfl rfl rfl ⟨_, rfl, rfl⟩ ?_
                      refine L.move rfl rfl rfl ⟨_, rfl, rfl⟩ ?_
                      refine' L.or [(false,6),(false,7),(false,8),(false,9),(false,10),(false,11),(false,12),(false,13),(false,14),(false,15)] [(false,16)] (s := 103) (p := 113) rfl rfl (fun hg5 => ?_) (fun hg5 => ?_) ?_
                      rotate_left
                      · refine L.move rfl rfl rfl ⟨_, rfl, rfl⟩ ?_
                        refine L.eql rfl rfl rfl rfl ⟨_, rfl, rfl⟩ ?_
                        refine L.move rfl rfl rfl ⟨_, rfl, rfl⟩ ?_
                        refine' L.and [(false,9),(false,10),(false,11),(false,12),(false,13),(false,14)] [(false,15)] (s := 106) (p := 112) rfl rfl (fun hg6 => ?_) (fun hg6 => ?_) ?_
                        rotate_left
                        · refine L.move rfl rfl rfl ⟨_, rfl, rfl⟩ ?_
                          refine L.call rfl rfl rfl (fun D14 hD14 => BitsR_ok (tn &&& (2 ^ y.claims.length - 1)) (by omega) _) rfl ⟨_, rfl, rfl⟩ (fun v14 D14 hD14 hp14 => ?_)
                          have hbn := hp14
                          refine L.move rfl rfl rfl ⟨_, rfl, rfl⟩ ?_
                          refine L.callV rfl rfl rfl (fun D15 hD15 => Shorter_ok _ _ (bitsL (tn &&& (2 ^ y.claims.length - 1))) (bitsL b0) _ (hbn.up RI.up (hD15 _ (by simp))) (hlv.up RI.up (hD15 _ (by simp)))) rfl ⟨_, rfl, rfl⟩ ?_
                          refine L.not rfl rfl rfl ⟨_, rfl, rfl⟩ ?_
                          refine L.pickT rfl rfl rfl rfl ⟨_, rfl, rfl⟩ ?_
                          exact L.nil fun a w hh => (hh.cutK 5 rfl).ds (fun _ h => List.Mem.tail _ (h))
                        · refine L.pass rfl rfl rfl ⟨_, _, rfl, rfl, rfl⟩ ?_
                          refine L.pass rfl rfl rfl ⟨_, _, rfl, rfl, rfl⟩ ?_
                          refine L.pass rfl rfl rfl ⟨_, _, rfl, rfl, rfl⟩ ?_
                          refine L.pass rfl rfl rfl ⟨_, _, rfl, rfl, rfl⟩ ?_
                          refine L.pass rfl rfl rfl ⟨_, _, rfl, rfl, rfl⟩ ?_
                          refine L.pickF rfl rfl rfl rfl ⟨_, rfl, rfl⟩ ?_
                          exact L.nil fun a w hh => hh.cutK 5 rfl
                        refine L.pickF rfl rfl rfl rfl ⟨_, rfl, rfl⟩ ?_
                        exact L.nil fun a w hh => hh.cutK 4 rfl
                      · refine L.pass rfl rfl rfl ⟨_, _, rfl, rfl, rfl⟩ ?_
                        refine L.pass rfl rfl rfl ⟨_, _, rfl, rfl, rfl⟩ ?_
                        refine L.pass rfl rfl rfl ⟨_, _, rfl, rfl, rfl⟩ ?_
                        refine L.pass rfl rfl rfl ⟨_, _, rfl, rfl, rfl⟩ ?_
                        refine L.pass rfl rfl rfl ⟨_, _, rfl, rfl, rfl⟩ ?_
                        refine L.pass rfl rfl rfl ⟨_, _, rfl, rfl, rfl⟩ ?_
                        refine L.pass rfl rfl rfl ⟨_, _, rfl, rfl, rfl⟩ ?_
                        refine L.pass rfl rfl rfl ⟨_, _, rfl, rfl, rfl⟩ ?_
                        refine L.pass rfl rfl rfl ⟨_, _, rfl, rfl, rfl⟩ ?_
                        refine L.pickT rfl rfl rfl rfl ⟨_, rfl, rfl⟩ ?_
                        exact L.nil fun a w hh => hh.cutK 9 rfl
                      refine L.pickT rfl rfl rfl rfl trivial ?_
                      exact L.nil fun a w hh => hh.cutK 4 rfl
                    · refine L.pass rfl rfl rfl ⟨_, _, rfl, rfl, rfl⟩ ?_
                      refine L.pass rfl rfl rfl ⟨_, _, rfl, rfl, rfl⟩ ?_
                      refine L.pass rfl rfl rfl ⟨_, _, rfl, rfl, rfl⟩ ?_
                      refine L.pass rfl rfl rfl ⟨_, _, rfl, rfl, rfl⟩ ?_
                      refine L.pass rfl rfl rfl ⟨_, _, rfl, rfl, rfl⟩ ?_
                      refine L.pass rfl rfl rfl ⟨_, _, rfl, rfl, rfl⟩ ?_
                      refine L.pass rfl rfl rfl ⟨_, _, rfl, rfl, rfl⟩ ?_
                      refine L.pass rfl rfl rfl ⟨_, _, rfl, rfl, rfl⟩ ?_
                      refine L.pass rfl rfl rfl ⟨_, _, rfl, rfl, rfl⟩ ?_
                      refine L.pass rfl rfl rfl ⟨_, _, rfl, rfl, rfl⟩ ?_
                      refine L.pass rfl rfl rfl ⟨_, _, rfl, rfl, rfl⟩ ?_
                      refine L.pass rfl rfl rfl ⟨_, _, rfl, rfl, rfl⟩ ?_
                      refine L.pass rfl rfl rfl ⟨_, _, rfl, rfl, rfl⟩ ?_
                      refine L.pickF rfl rfl rfl rfl trivial ?_
                      exact L.nil fun a w hh => hh.cutK 13 rfl
                    refine L.move rfl rfl rfl trivial ?_
                    refine' L.and [(false,18),(false,19)] [(false,20)] (s := 115) (p := 117) rfl rfl (fun hg7 => ?_) (fun hg7 => ?_) ?_
                    rotate_left
                    · refine L.callV rfl rfl rfl (fun D16 hD16 => awake_ok _) rfl ⟨_, rfl, rfl⟩ ?_
                      refine L.pickT rfl rfl rfl rfl trivial ?_
                      exact L.nil fun a w hh => hh.cutK 1 rfl
                    · refine L.pass rfl rfl rfl ⟨_, _, rfl, rfl, rfl⟩ ?_
                      refine L.pickF rfl rfl rfl rfl trivial ?_
                      exact L.nil fun a w hh => hh.cutK 1 rfl
                    refine L.assign rfl rfl rfl trivial ?_
                    refine L.nil ?_
                    refine C.next ?_
                    refine C.ret ?_
                    exact leave (vs := [_]) rfl rfl rfl ⟨rfl, trivial⟩ (fun D hD => congrArg Value.bool (mlf_ok hf0 hb0 hpos hmin hand))
                · refine L.alloc rfl Tf.z61 rfl rfl trivial (fun q3 => ?_)
                  refine L.nil ?_
                  refine L.planFin [(true,5),(true,6),(true,7),(false,8),(false,9),(true,10)] rfl ?_
                  refine L.call rfl rfl rfl (fun D11 hD11 => some_ok _ y (dif (2 ^ y.claims.length - 1) (tn &&& (2 ^ y.claims.length - 1))) _ _ rfl (hy0.up (hD11 _ (by simp))) (by have := dif_le (2 ^ y.claims.length - 1) (tn &&& (2 ^ y.claims.length - 1)); omega) (by omega)) rfl trivial (fun v11 D11 hD11 hp11 => ?_)
                  have hs2 := hp11
                  refine L.call rfl rfl rfl (fun D12 hD12 => YardL_ok _ (someY y (dif (2 ^ y.claims.length - 1) (tn &&& (2 ^ y.claims.length - 1)))) _ (hs2.up (hD12 _ (by simp))) (by simp only [someY]; omega) (by have := someK_len y.claims (dif (2 ^ y.claims.length - 1) (tn &&& (2 ^ y.claims.length - 1))) y.claims.length; simp only [someY]; omega)) rfl trivial (fun v12 D12 hD12 hp12 => ?_)
                  have hw := hp12
                  refine L.callV rfl rfl rfl (fun D13 hD13 => Bounds_ok _ (someY y (dif (2 ^ y.claims.length - 1) (tn &&& (2 ^ y.claims.length - 1)))) _ (hw.up (hD13 _ (by simp)))) rfl trivial ?_
                  refine L.move rfl rfl rfl trivial ?_
                  refine L.extract rfl rfl rfl rfl trivial ?_
                  refine L.extract rfl rfl rfl rfl trivial ?_
                  refine L.nil ?_
                  refine S.fin [(true,12),(false,13)] rfl ?_
                  refine L.apart hB1 (by simp) (fun hap => ?_)
                  refine L.storeB rfl rfl rfl rfl Tf.s61 (Has.head) (by simp) rfl (by simp [cell1]) (Or.inr (But.in_ (by rw [List.mem_singleton]; rintro rfl; exact hap (List.mem_map.2 ⟨_, (List.Mem.head _), rfl⟩)))) trivial ?_
                  refine L.assign rfl rfl rfl trivial ?_
                  refine L.nil ?_
                  refine S.nil ?_
                  refine C.next ?_
                  refine C.seq ?_
                  refine C.region [(false,0),(false,1),(false,2),(false,3),(false,4),(false,5),(false,6),(false,7),(false,8),(false,9),(false,10),(false,11),(false,12),(false,13),(false,14),(false,15),(false,16),(false,17),(false,18),(false,19),(false,20)] rfl ?_
                  refine L.move rfl rfl rfl trivial ?_
                  refine L.eql rfl rfl rfl rfl trivial ?_
                  refine L.move rfl rfl rfl trivial ?_
                  refine' L.and [(false,3),(false,4),(false,5),(false,6),(false,7),(false,8),(false,9),(false,10),(false,11),(false,12),(false,13),(false,14),(false,15),(false,16)] [(false,17),(false,18),(false,19),(false,20)] (s := 100) (p := 114) rfl rfl (fun hg4 => ?_) (fun hg4 => ?_) ?_
                  rotate_left
                  · refine L.move rfl rfl rfl ⟨_, rfl, rfl⟩ ?_
                    refine L.eql rfl rfl rfl rfl ⟨_, rfl, rfl⟩ ?_
                    refine L.move rfl rfl rfl ⟨_, rfl, rfl⟩ ?_
                    refine' L.or [(false,6),(false,7),(false,8),(false,9),(false,10),(false,11),(false,12),(false,13),(false,14),(false,15)] [(false,16)] (s := 103) (p := 113) rfl rfl (fun hg5 => ?_) (fun hg5 => ?_) ?_
                    rotate_left
                    · refine L.move rfl rfl rfl ⟨_, rfl, rfl⟩ ?_
                      refine L.eql rfl rfl rfl rfl ⟨_, rfl, rfl⟩ ?_
                      refine L.move rfl rfl rfl ⟨_, rfl, rfl⟩ ?_
                      refine' L.and [(false,9),(false,10),(false,11),(false,12),(false,13),(false,14)] [(false,15)] (s := 106) (p := 112) rfl rfl (fun hg6 => ?_) (fun hg6 => ?_) ?_
                      rotate_left
                      · refine L.move rfl rfl rfl ⟨_, rfl, rfl⟩ ?_
                        refine L.call rfl rfl rfl (fun D14 hD14 => BitsR_ok (tn &&& (2 ^ y.claims.length - 1)) (by omega) _) rfl ⟨_, rfl, rfl⟩ (fun v14 D14 hD14 hp14 => ?_)
                        have hbn := hp14
                        refine L.move rfl rfl rfl ⟨_, rfl, rfl⟩ ?_
                        refine L.callV rfl rfl rfl (fun D15 hD15 => Shorter_ok _ _ (bitsL (tn &&& (2 ^ y.claims.length - 1))) (bitsL b0) _ (hbn.up RI.up (hD15 _ (by simp))) (hlv.up RI.up (hD15 _ (by simp)))) rfl ⟨_, rfl, rfl⟩ ?_
                        refine L.not rfl rfl rfl ⟨_, rfl, rfl⟩ ?_
                        refine L.pickT rfl rfl rfl rfl ⟨_, rfl, rfl⟩ ?_
                        exact L.nil fun a w hh => (hh.cutK 5 rfl).ds (fun _ h => List.Mem.tail _ (h))
                      · refine L.pass rfl rfl rfl ⟨_, _, rfl, rfl, rfl⟩ ?_
                        refine L.pass rfl rfl rfl ⟨_, _, rfl, rfl, rfl⟩ ?_
                        refine L.pass rfl rfl rfl ⟨_, _, rfl, rfl, rfl⟩ ?_
                        refine L.pass rfl rfl rfl ⟨_, _, rfl, rfl, rfl⟩ ?_
                        refine L.pass rfl rfl rfl ⟨_, _, rfl, rfl, rfl⟩ ?_
                        refine L.pickF rfl rfl rfl rfl ⟨_, rfl, rfl⟩ ?_
                        exact L.nil fun a w hh => hh.cutK 5 rfl
                      refine L.pickF rfl rfl rfl rfl ⟨_, rfl, rfl⟩ ?_
                      exact L.nil fun a w hh => hh.cutK 4 rfl
                    · refine L.pass rfl rfl rfl ⟨_, _, rfl, rfl, rfl⟩ ?_
                      refine L.pass rfl rfl rfl ⟨_, _, rfl, rfl, rfl⟩ ?_
                      refine L.pass rfl rfl rfl ⟨_, _, rfl, rfl, rfl⟩ ?_
                      refine L.pass rfl rfl rfl ⟨_, _, rfl, rfl, rfl⟩ ?_
                      refine L.pass rfl rfl rfl ⟨_, _, rfl, rfl, rfl⟩ ?_
                      refine L.pass rfl rfl rfl ⟨_, _, rfl, rfl, rfl⟩ ?_
                      refine L.pass rfl rfl rfl ⟨_, _, rfl, rfl, rfl⟩ ?_
                      refine L.pass rfl rfl rfl ⟨_, _, rfl, rfl, rfl⟩ ?_
                      refine L.pass rfl rfl rfl ⟨_, _, rfl, rfl, rfl⟩ ?_
                      refine L.pickT rfl rfl rfl rfl ⟨_, rfl, rfl⟩ ?_
                      exact L.nil fun a w hh => hh.cutK 9 rfl
                    refine L.pickT rfl rfl rfl rfl trivial ?_
                    exact L.nil fun a w hh => hh.cutK 4 rfl
                  · refine L.pass rfl rfl rfl ⟨_, _, rfl, rfl, rfl⟩ ?_
                    refine L.pass rfl rfl rfl ⟨_, _, rfl, rfl, rfl⟩ ?_
                    refine L.pass rfl rfl rfl ⟨_, _, rfl, rfl, rfl⟩ ?_
                    refine L.pass rfl rfl rfl ⟨_, _, rfl, rfl, rfl⟩ ?_
                    refine L.pass rfl rfl rfl ⟨_, _, rfl, rfl, rfl⟩ ?_
                    refine L.pass rfl rfl rfl ⟨_, _, rfl, rfl, rfl⟩ ?_
                    refine L.pass rfl rfl rfl ⟨_, _, rfl, rfl, rfl⟩ ?_
                    refine L.pass rfl rfl rfl ⟨_, _, rfl, rfl, rfl⟩ ?_
                    refine L.pass rfl rfl rfl ⟨_, _, rfl, rfl, rfl⟩ ?_
                    refine L.pass rfl rfl rfl ⟨_, _, rfl, rfl, rfl⟩ ?_
                    refine L.pass rfl rfl rfl ⟨_, _, rfl, rfl, rfl⟩ ?_
                    refine L.pass rfl rfl rfl ⟨_, _, rfl, rfl, rfl⟩ ?_
                    refine L.pass rfl rfl rfl ⟨_, _, rfl, rfl, rfl⟩ ?_
                    refine L.pickF rfl rfl rfl rfl trivial ?_
                    exact L.nil fun a w hh => hh.cutK 13 rfl
                  refine L.move rfl rfl rfl trivial ?_
                  refine' L.and [(false,18),(false,19)] [(false,20)] (s := 115) (p := 117) rfl rfl (fun hg7 => ?_) (fun hg7 => ?_) ?_
                  rotate_left
                  · refine L.callV rfl rfl rfl (fun D16 hD16 => awake_ok _) rfl ⟨_, rfl, rfl⟩ ?_
                    refine L.pickT rfl rfl rfl rfl trivial ?_
                    exact L.nil fun a w hh => hh.cutK 1 rfl
                  · refine L.pass rfl rfl rfl ⟨_, _, rfl, rfl, rfl⟩ ?_
                    refine L.pickF rfl rfl rfl rfl trivial ?_
                    exact L.nil fun a w hh => hh.cutK 1 rfl
                  refine L.assign rfl rfl rfl trivial ?_
                  refine L.nil ?_
                  refine C.next ?_
                  refine C.ret ?_
                  exact leave (vs := [_]) rfl rfl rfl ⟨rfl, trivial⟩ (fun D hD => congrArg Value.bool (mlf_ok hf0 hb0 hpos hmin hand))
              · refine L.alloc rfl Tf.z61 rfl rfl trivial (fun q3 => ?_)
                refine L.nil ?_
                refine L.planFin [(true,2),(true,4),(true,5),(true,6),(true,7),(false,8),(false,9),(true,10)] rfl ?_
                refine L.callV rfl rfl rfl (fun D10 hD10 => Full_ok _ y _ (hy0.up (hD10 _ (by simp))) (by omega)) rfl trivial ?_
                refine L.difN (m := 2 ^ y.claims.length - 1) (n := (tn &&& (2 ^ y.claims.length - 1))) rfl (by show some (Value.int _ _) = some (Value.int _ _); congr 2; omega) rfl (by omega) (by omega) rfl trivial ?_
                refine L.call rfl rfl rfl (fun D11 hD11 => some_ok _ y (dif (2 ^ y.claims.length - 1) (tn &&& (2 ^ y.claims.length - 1))) _ _ rfl (hy0.up (hD11 _ (by simp))) (by have := dif_le (2 ^ y.claims.length - 1) (tn &&& (2 ^ y.claims.length - 1)); omega) (by omega)) rfl trivial (fun v11 D11 hD11 hp11 => ?_)
                have hs2 := hp11
                refine L.call rfl rfl rfl (fun D12 hD12 => YardL_ok _ (someY y (dif (2 ^ y.claims.length - 1) (tn &&& (2 ^ y.claims.length - 1)))) _ (hs2.up (hD12 _ (by simp))) (by simp only [someY]; omega) (by have := someK_len y.claims (dif (2 ^ y.claims.length - 1) (tn &&& (2 ^ y.claims.length - 1))) y.claims.length; simp only [someY]; omega)) rfl trivial (fun v12 D12 hD12 hp12 => ?_)
                have hw := hp12
                refine L.callV rfl rfl rfl (fun D13 hD13 => Bounds_ok _ (someY y (dif (2 ^ y.claims.length - 1) (tn &&& (2 ^ y.claims.length - 1)))) _ (hw.up (hD13 _ (by simp)))) rfl trivial ?_
                refine L.move rfl rfl rfl trivial ?_
                refine L.extract rfl rfl rfl rfl trivial ?_
                refine L.extract rfl rfl rfl rfl trivial ?_
                refine L.nil ?_
                refine S.fin [(true,12),(false,13)] rfl ?_
                refine L.apart hB1 (by simp) (fun hap => ?_)
                refine L.storeB rfl rfl rfl rfl Tf.s61 (Has.head) (by simp) rfl (by simp [cell1]) (Or.inr (But.in_ (by rw [List.mem_singleton]; rintro rfl; exact hap (List.mem_map.2 ⟨_, (List.Mem.head _), rfl⟩)))) trivial ?_
                refine L.assign rfl rfl rfl trivial ?_
                refine L.nil ?_
                refine S.nil ?_
                refine C.next ?_
                refine C.seq ?_
                refine C.region [(false,0),(false,1),(false,2),(false,3),(false,4),(false,5),(false,6),(false,7),(false,8),(false,9),(false,10),(false,11),(false,12),(false,13),(false,14),(false,15),(false,16),(false,17),(false,18),(false,19),(false,20)] rfl ?_
                refine L.move rfl rfl rfl trivial ?_
                refine L.eql rfl rfl rfl rfl trivial ?_
                refine L.move rfl rfl rfl trivial ?_
                refine' L.and [(false,3),(false,4),(false,5),(false,6),(false,7),(false,8),(false,9),(false,10),(false,11),(false,12),(false,13),(false,14),(false,15),(false,16)] [(false,17),(false,18),(false,19),(false,20)] (s := 100) (p := 114) rfl rfl (fun hg4 => ?_) (fun hg4 => ?_) ?_
                rotate_left
                · refine L.move rfl rfl rfl ⟨_, rfl, rfl⟩ ?_
                  refine L.eql rfl rfl rfl rfl ⟨_, rfl, rfl⟩ ?_
                  refine L.move rfl rfl rfl ⟨_, rfl, rfl⟩ ?_
                  refine' L.or [(false,6),(false,7),(false,8),(false,9),(false,10),(false,11),(false,12),(false,13),(false,14),(false,15)] [(false,16)] (s := 103) (p := 113) rfl rfl (fun hg5 => ?_) (fun hg5 => ?_) ?_
                  rotate_left
                  · refine L.move rfl rfl rfl ⟨_, rfl, rfl⟩ ?_
                    refine L.eql rfl rfl rfl rfl ⟨_, rfl, rfl⟩ ?_
                    refine L.move rfl rfl rfl ⟨_, rfl, rfl⟩ ?_
                    refine' L.and [(false,9),(false,10),(false,11),(false,12),(false,13),(false,14)] [(false,15)] (s := 106) (p := 112) rfl rfl (fun hg6 => ?_) (fun hg6 => ?_) ?_
                    rotate_left
                    · refine L.move rfl rfl rfl ⟨_, rfl, rfl⟩ ?_
                      refine L.call rfl rfl rfl (fun D14 hD14 => BitsR_ok (tn &&& (2 ^ y.claims.length - 1)) (by omega) _) rfl ⟨_, rfl, rfl⟩ (fun v14 D14 hD14 hp14 => ?_)
                      have hbn := hp14
                      refine L.move rfl rfl rfl ⟨_, rfl, rfl⟩ ?_
                      refine L.callV rfl rfl rfl (fun D15 hD15 => Shorter_ok _ _ (bitsL (tn &&& (2 ^ y.claims.length - 1))) (bitsL b0) _ (hbn.up RI.up (hD15 _ (by simp))) (hlv.up RI.up (hD15 _ (by simp)))) rfl ⟨_, rfl, rfl⟩ ?_
                      refine L.not rfl rfl rfl ⟨_, rfl, rfl⟩ ?_
                      refine L.pickT rfl rfl rfl rfl ⟨_, rfl, rfl⟩ ?_
                      exact L.nil fun a w hh => (hh.cutK 5 rfl).ds (fun _ h => List.Mem.tail _ (h))
                    · refine L.pass rfl rfl rfl ⟨_, _, rfl, rfl, rfl⟩ ?_
                      refine L.pass rfl rfl rfl ⟨_, _, rfl, rfl, rfl⟩ ?_
                      refine L.pass rfl rfl rfl ⟨_, _, rfl, rfl, rfl⟩ ?_
                      refine L.pass rfl rfl rfl ⟨_, _, rfl, rfl, rfl⟩ ?_
                      refine L.pass rfl rfl rfl ⟨_, _, rfl, rfl, rfl⟩ ?_
                      refine L.pickF rfl rfl rfl rfl ⟨_, rfl, rfl⟩ ?_
                      exact L.nil fun a w hh => hh.cutK 5 rfl
                    refine L.pickF rfl rfl rfl rfl ⟨_, rfl, rfl⟩ ?_
                    exact L.nil fun a w hh => hh.cutK 4 rfl
                  · refine L.pass rfl rfl rfl ⟨_, _, rfl, rfl, rfl⟩ ?_
                    refine L.pass rfl rfl rfl ⟨_, _, rfl, rfl, rfl⟩ ?_
                    refine L.pass rfl rfl rfl ⟨_, _, rfl, rfl, rfl⟩ ?_
                    refine L.pass rfl rfl rfl ⟨_, _, rfl, rfl, rfl⟩ ?_
                    refine L.pass rfl rfl rfl ⟨_, _, rfl, rfl, rfl⟩ ?_
                    refine L.pass rfl rfl rfl ⟨_, _, rfl, rfl, rfl⟩ ?_
                    refine L.pass rfl rfl rfl ⟨_, _, rfl, rfl, rfl⟩ ?_
                    refine L.pass rfl rfl rfl ⟨_, _, rfl, rfl, rfl⟩ ?_
                    refine L.pass rfl rfl rfl ⟨_, _, rfl, rfl, rfl⟩ ?_
                    refine L.pickT rfl rfl rfl rfl ⟨_, rfl, rfl⟩ ?_
                    exact L.nil fun a w hh => hh.cutK 9 rfl
                  refine L.pickT rfl rfl rfl rfl trivial ?_
                  exact L.nil fun a w hh => hh.cutK 4 rfl
                · refine L.pass rfl rfl rfl ⟨_, _, rfl, rfl, rfl⟩ ?_
                  refine L.pass rfl rfl rfl ⟨_, _, rfl, rfl, rfl⟩ ?_
                  refine L.pass rfl rfl rfl ⟨_, _, rfl, rfl, rfl⟩ ?_
                  refine L.pass rfl rfl rfl ⟨_, _, rfl, rfl, rfl⟩ ?_
                  refine L.pass rfl rfl rfl ⟨_, _, rfl, rfl, rfl⟩ ?_
                  refine L.pass rfl rfl rfl ⟨_, _, rfl, rfl, rfl⟩ ?_
                  refine L.pass rfl rfl rfl ⟨_, _, rfl, rfl, rfl⟩ ?_
                  refine L.pass rfl rfl rfl ⟨_, _, rfl, rfl, rfl⟩ ?_
                  refine L.pass rfl rfl rfl ⟨_, _, rfl, rfl, rfl⟩ ?_
                  refine L.pass rfl rfl rfl ⟨_, _, rfl, rfl, rfl⟩ ?_
                  refine L.pass rfl rfl rfl ⟨_, _, rfl, rfl, rfl⟩ ?_
                  refine L.pass rfl rfl rfl ⟨_, _, rfl, rfl, rfl⟩ ?_
                  refine L.pass rfl rfl rfl ⟨_, _, rfl, rfl, rfl⟩ ?_
                  refine L.pickF rfl rfl rfl rfl trivial ?_
                  exact L.nil fun a w hh => hh.cutK 13 rfl
                refine L.move rfl rfl rfl trivial ?_
                refine' L.and [(false,18),(false,19)] [(false,20)] (s := 115) (p := 117) rfl rfl (fun hg7 => ?_) (fun hg7 => ?_) ?_
                rotate_left
                · refine L.callV rfl rfl rfl (fun D16 hD16 => awake_ok _) rfl ⟨_, rfl, rfl⟩ ?_
                  refine L.pickT rfl rfl rfl rfl trivial ?_
                  exact L.nil fun a w hh => hh.cutK 1 rfl
                · refine L.pass rfl rfl rfl ⟨_, _, rfl, rfl, rfl⟩ ?_
                  refine L.pickF rfl rfl rfl rfl trivial ?_
                  exact L.nil fun a w hh => hh.cutK 1 rfl
                refine L.assign rfl rfl rfl trivial ?_
                refine L.nil ?_
                refine C.next ?_
                refine C.ret ?_
                exact leave (vs := [_]) rfl rfl rfl ⟨rfl, trivial⟩ (fun D hD => congrArg Value.bool (mlf_ok hf0 hb0 hpos hmin hand))
          · refine L.alloc rfl Tf.z61 rfl rfl trivial (fun q2 => ?_)
            refine L.nil ?_
            refine L.planFin [(true,5),(true,6),(true,7),(false,8),(false,9),(true,10)] rfl ?_
            refine L.call rfl rfl rfl (fun D7 hD7 => some_ok _ y (dif (2 ^ y.claims.length - 1) b0) _ _ rfl (hy0.up (hD7 _ (by simp))) (by have := dif_le (2 ^ y.claims.length - 1) b0; omega) (by omega)) rfl trivial (fun v7 D7 hD7 hp7 => ?_)
            have hs1 := hp7
            refine L.call rfl rfl rfl (fun D8 hD8 => YardL_ok _ (someY y (dif (2 ^ y.claims.length - 1) b0)) _ (hs1.up (hD8 _ (by simp))) (by simp only [someY]; omega) (by have := someK_len y.claims (dif (2 ^ y.claims.length - 1) b0) y.claims.length; simp only [someY]; omega)) rfl trivial (fun v8 D8 hD8 hp8 => ?_)
            have hw := hp8
            refine L.callV rfl rfl rfl (fun D9 hD9 => Bounds_ok _ (someY y (dif (2 ^ y.claims.length - 1) b0)) _ (hw.up (hD9 _ (by simp)))) rfl trivial ?_
            refine L.move rfl rfl rfl trivial ?_
            refine L.extract rfl rfl rfl rfl trivial ?_
            refine L.extract rfl rfl rfl rfl trivial ?_
            refine L.nil ?_
            refine S.fin [(true,12),(false,13)] rfl ?_
            refine L.apart hB1 (by simp) (fun hap => ?_)
            refine L.storeB rfl rfl rfl rfl Tf.s61 (Has.head) (by simp) rfl (by simp [cell1]) (Or.inr (But.in_ (by rw [List.mem_singleton]; rintro rfl; exact hap (List.mem_map.2 ⟨_, (List.Mem.head _), rfl⟩)))) trivial ?_
            refine L.assign rfl rfl rfl trivial ?_
            refine L.nil ?_
            refine S.nil ?_
            refine C.next ?_
            refine C.seq ?_
            refine C.drawS (But.mk [q1]) 6 [false,true,true,true,true,true,true,true,false,false,true,true,true,false] [.fork [0,1,3] 2 (.fork [4] 5 (.fork [] 6 (.fork [] 7 (.fin [8,9,10,11]) 11 (.fin [7,8,9,10])) 11 (.fin [6,7,8,9,10])) 11 (.fin [5,6,7,8,9,10])) 11 (.fin [2,4,5,6,7,8,9,10]), .fin [12,13]] Tf.follows (fun _ _ _ h => np_body (P := Try.prog) (fn := Try.f16) _ _ _ h) (by kernel_rfl) ?_
            refine S.cons ?_
            refine L.planFork [(false,0),(true,1),(true,3)] rfl ?_
            refine L.loadDW rfl Tf.a25 rfl hB1 (by simp) Tf.s25 (But.out (by simp)) rfl trivial ?_
            refine L.loadDW rfl Tf.a25 rfl hB1 (by simp) Tf.s25 (But.out (by simp)) rfl trivial ?_
            refine L.move rfl rfl rfl trivial ?_
            refine L.nil (L.forkP true true rfl rfl ?_ ?_)
            · refine L.callV rfl rfl rfl (fun D10 hD10 => Full_ok _ y _ (hy0.up (hD10 _ (by simp))) (by omega)) rfl trivial ?_
              refine L.nil ?_
              refine L.planFork [(true,4)] rfl ?_
              refine L.difN (m := 2 ^ y.claims.length - 1) (n := (tn &&& (2 ^ y.claims.length - 1))) rfl (by show some (Value.int _ _) = some (Value.int _ _); congr 2; omega) rfl (by omega) (by omega) rfl trivial ?_
              refine L.nil (L.forkP true true rfl rfl ?_ ?_)
              · refine L.call rfl rfl rfl (fun D11 hD11 => some_ok _ y (dif (2 ^ y.claims.length - 1) (tn &&& (2 ^ y.claims.length - 1))) _ _ rfl (hy0.up (hD11 _ (by simp))) (by have := dif_le (2 ^ y.claims.length - 1) (tn &&& (2 ^ y.claims.length - 1)); omega) (by omega)) rfl trivial (fun v11 D11 hD11 hp11 => ?_)
                have hs2 := hp11
                refine L.nil ?_
                refine L.planFork [] rfl ?_
                refine L.nil (L.forkP true true rfl rfl ?_ ?_)
                · refine L.call rfl rfl rfl (fun D12 hD12 => YardL_ok _ (someY y (dif (2 ^ y.claims.length - 1) (tn &&& (2 ^ y.claims.length - 1)))) _ (hs2.up (hD12 _ (by simp))) (by simp only [someY]; omega) (by have := someK_len y.claims (dif (2 ^ y.claims.length - 1) (tn &&& (2 ^ y.claims.length - 1))) y.claims.length; simp only [someY]; omega)) rfl trivial (fun v12 D12 hD12 hp12 => ?_)
                  have hw := hp12
                  refine L.nil ?_
                  refine L.planFork [] rfl ?_
                  refine L.nil (L.forkP true true rfl rfl ?_ ?_)
                  · refine L.callV rfl rfl rfl (fun D13 hD13 => Bounds_ok _ (someY y (dif (2 ^ y.claims.length - 1) (tn &&& (2 ^ y.claims.length - 1)))) _ (hw.up (hD13 _ (by simp)))) rfl trivial ?_
                    refine L.nil ?_
                    refine L.planFin [(false,8),(false,9),(true,10),(true,11)] rfl ?_
                    refine L.move rfl rfl rfl trivial ?_
                    refine L.extract rfl rfl rfl rfl trivial ?_
                    refine L.extract rfl rfl rfl rfl trivial ?_
                    refine L.alloc rfl Tf.z61 rfl rfl trivial (fun q3 => ?_)
                    refine L.nil ?_
                    refine S.fin [(true,12),(false,13)] rfl ?_
                    refine L.apart hB1 (by simp) (fun hap => ?_)
                    refine L.storeB rfl rfl rfl rfl Tf.s61 (Has.head) (by simp) rfl (by simp [cell1]) (Or.inr (But.in_ (by rw [List.mem_singleton]; rintro rfl; exact hap (List.mem_map.2 ⟨_, (List.Mem.head _), rfl⟩)))) trivial ?_
                    refine L.assign rfl rfl rfl trivial ?_
                    refine L.nil ?_
                    refine S.nil ?_
                    refine C.next ?_
                    refine C.seq ?_
                    refine C.region [(false,0),(false,1),(false,2),(false,3),(false,4),(false,5),(false,6),(false,7),(false,8),(false,9),(false,10),(false,11),(false,12),(false,13),(false,14),(false,15),(false,16),(false,17),(false,18),(false,19),(false,20)] rfl ?_
                    refine L.move rfl rfl rfl trivial ?_
                    refine L.eql rfl rfl rfl rfl trivial ?_
                    refine L.move rfl rfl rfl trivial ?_
                    refine' L.and [(false,3),(false,4),(false,5),(false,6),(false,7),(false,8),(false,9),(false,10),(false,11),(false,12),(false,13),(false,14),(false,15),(false,16)] [(false,17),(false,18),(false,19),(false,20)] (s := 100) (p := 114) rfl rfl (fun hg4 => ?_) (fun hg4 => ?_) ?_
                    rotate_left
                    · refine L.move rfl rfl rfl ⟨_, rfl, rfl⟩ ?_
                      refine L.eql rfl rfl rfl rfl ⟨_, rfl, rfl⟩ ?_
                      refine L.move rfl rfl rfl ⟨_, rfl, rfl⟩ ?_
                      refine' L.or [(false,6),(false,7),(false,8),(false,9),(false,10),(false,11),(false,12),(false,13),(false,14),(false,15)] [(false,16)] (s := 103) (p := 113) rfl rfl (fun hg5 => ?_) (fun hg5 => ?_) ?_
                      rotate_left
                      · refine L.move rfl rfl rfl ⟨_, rfl, rfl⟩ ?_
                        refine L.eql rfl rfl rfl rfl ⟨_, rfl, rfl⟩ ?_
                        refine L.move rfl rfl rfl ⟨_, rfl, rfl⟩ ?_
                        refine' L.and [(false,9),(false,10),(false,11),(false,12),(false,13),(false,14)] [(false,15)] (s := 106) (p := 112) rfl rfl (fun hg6 => ?_) (fun hg6 => ?_) ?_
                        rotate_left
                        · refine L.move rfl rfl rfl ⟨_, rfl, rfl⟩ ?_
                          refine L.call rfl rfl rfl (fun D14 hD14 => BitsR_ok (tn &&& (2 ^ y.claims.length - 1)) (by omega) _) rfl ⟨_, rfl, rfl⟩ (fun v14 D14 hD14 hp14 => ?_)
                          have hbn := hp14
                          refine L.move rfl rfl rfl ⟨_, rfl, rfl⟩ ?_
                          refine L.callV rfl rfl rfl (fun D15 hD15 => Shorter_ok _ _ (bitsL (tn &&& (2 ^ y.claims.length - 1))) (bitsL b0) _ (hbn.up RI.up (hD15 _ (by simp))) (hlv.up RI.up (hD15 _ (by simp)))) rfl ⟨_, rfl, rfl⟩ ?_
                          refine L.not rfl rfl rfl ⟨_, rfl, rfl⟩ ?_
                          refine L.pickT rfl rfl rfl rfl ⟨_, rfl, rfl⟩ ?_
                          exact L.nil fun a w hh => (hh.cutK 5 rfl).ds (fun _ h => List.Mem.tail _ (h))
                        · refine L.pass rfl rfl rfl ⟨_, _, rfl, rfl, rfl⟩ ?_
                          refine L.pass rfl rfl rfl ⟨_, _, rfl, rfl, rfl⟩ ?_
                          refine L.pass rfl rfl rfl ⟨_, _, rfl, rfl, rfl⟩ ?_
                          refine L.pass rfl rfl rfl ⟨_, _, rfl, rfl, rfl⟩ ?_
                          refine L.pass rfl rfl rfl ⟨_, _, rfl, rfl, rfl⟩ ?_
                          refine L.pickF rfl rfl rfl rfl ⟨_, rfl, rfl⟩ ?_
                          exact L.nil fun a w hh => hh.cutK 5 rfl
                        refine L.pickF rfl rfl rfl rfl ⟨_, rfl, rfl⟩ ?_
                        exact L.nil fun a w hh => hh.cutK 4 rfl
                      · refine L.pass rfl rfl rfl ⟨_, _, rfl, rfl, rfl⟩ ?_
                        refine L.pass rfl rfl rfl ⟨_, _, rfl, rfl, rfl⟩ ?_
                        refine L.pass rfl rfl rfl ⟨_, _, rfl, rfl, rfl⟩ ?_
                        refine L.pass rfl rfl rfl ⟨_, _, rfl, rfl, rfl⟩ ?_
                        refine L.pass rfl rfl rfl ⟨_, _, rfl, rfl, rfl⟩ ?_
                        refine L.pass rfl rfl rfl ⟨_, _, rfl, rfl, rfl⟩ ?_
                        refine L.pass rfl rfl rfl ⟨_, _, rfl, rfl, rfl⟩ ?_
                        refine L.pass rfl rfl rfl ⟨_, _, rfl, rfl, rfl⟩ ?_
                        refine L.pass rfl rfl rfl ⟨_, _, rfl, rfl, rfl⟩ ?_
                        refine L.pickT rfl rfl rfl rfl ⟨_, rfl, rfl⟩ ?_
                        exact L.nil fun a w hh => hh.cutK 9 rfl
                      refine L.pickT rfl rfl rfl rfl trivial ?_
                      exact L.nil fun a w hh => hh.cutK 4 rfl
                    · refine L.pass rfl rfl rfl ⟨_, _, rfl, rfl, rfl⟩ ?_
                      refine L.pass rfl rfl rfl ⟨_, _, rfl, rfl, rfl⟩ ?_
                      refine L.pass rfl rfl rfl ⟨_, _, rfl, rfl, rfl⟩ ?_
                      refine L.pass rfl rfl rfl ⟨_, _, rfl, rfl, rfl⟩ ?_
                      refine L.pass rfl rfl rfl ⟨_, _, rfl, rfl, rfl⟩ ?_
                      refine L.pass rfl rfl rfl ⟨_, _, rfl, rfl, rfl⟩ ?_
                      refine L.pass rfl rfl rfl ⟨_, _, rfl, rfl, rfl⟩ ?_
                      refine L.pass rfl rfl rfl ⟨_, _, rfl, rfl, rfl⟩ ?_
                      refine L.pass rfl rfl rfl ⟨_, _, rfl, rfl, rfl⟩ ?_
                      refine L.pass rfl rfl rfl ⟨_, _, rfl, rfl, rfl⟩ ?_
                      refine L.pass rfl rfl rfl ⟨_, _, rfl, rfl, rfl⟩ ?_
                      refine L.pass rfl rfl rfl ⟨_, _, rfl, rfl, rfl⟩ ?_
                      refine L.pass rfl rfl rfl ⟨_, _, rfl, rfl, rfl⟩ ?_
                      refine L.pickF rfl rfl rfl rfl trivial ?_
                      exact L.nil fun a w hh => hh.cutK 13 rfl
                    refine L.move rfl rfl rfl trivial ?_
                    refine' L.and [(false,18),(false,19)] [(false,20)] (s := 115) (p := 117) rfl rfl (fun hg7 => ?_) (fun hg7 => ?_) ?_
                    rotate_left
                    · refine L.callV rfl rfl rfl (fun D16 hD16 => awake_ok _) rfl ⟨_, rfl, rfl⟩ ?_
                      refine L.pickT rfl rfl rfl rfl trivial ?_
                      exact L.nil fun a w hh => hh.cutK 1 rfl
                    · refine L.pass rfl rfl rfl ⟨_, _, rfl, rfl, rfl⟩ ?_
                      refine L.pickF rfl rfl rfl rfl trivial ?_
                      exact L.nil fun a w hh => hh.cutK 1 rfl
                    refine L.assign rfl rfl rfl trivial ?_
                    refine L.nil ?_
                    refine C.next ?_
                    refine C.ret ?_
                    exact leave (vs := [_]) rfl rfl rfl ⟨rfl, trivial⟩ (fun D hD => congrArg Value.bool (mlf_ok hf0 hb0 hpos hmin hand))
                  · refine L.alloc rfl Tf.z61 rfl rfl trivial (fun q3 => ?_)
                    refine L.nil ?_
                    refine L.planFin [(true,7),(false,8),(false,9),(true,10)] rfl ?_
                    refine L.callV rfl rfl rfl (fun D13 hD13 => Bounds_ok _ (someY y (dif (2 ^ y.claims.length - 1) (tn &&& (2 ^ y.claims.length - 1)))) _ (hw.up (hD13 _ (by simp)))) rfl trivial ?_
                    refine L.move rfl rfl rfl trivial ?_
                    refine L.extract rfl rfl rfl rfl trivial ?_
                    refine L.extract rfl rfl rfl rfl trivial ?_
                    refine L.nil ?_
                    refine S.fin [(true,12),(false,13)] rfl ?_
                    refine L.apart hB1 (by simp) (fun hap => ?_)
                    refine L.storeB rfl rfl rfl rfl Tf.s61 (Has.head) (by simp) rfl (by simp [cell1]) (Or.inr (But.in_ (by rw [List.mem_singleton]; rintro rfl; exact hap (List.mem_map.2 ⟨_, (List.Mem.head _), rfl⟩)))) trivial ?_
                    refine L.assign rfl rfl rfl trivial ?_
                    refine L.nil ?_
                    refine S.nil ?_
                    refine C.next ?_
                    refine C.seq ?_
                    refine C.region [(false,0),(false,1),(false,2),(false,3),(false,4),(false,5),(false,6),(false,7),(false,8),(false,9),(false,10),(false,11),(false,12),(false,13),(false,14),(false,15),(false,16),(false,17),(false,18),(false,19),(false,20)] rfl ?_
                    refine L.move rfl rfl rfl trivial ?_
                    refine L.eql rfl rfl rfl rfl trivial ?_
                    refine L.move rfl rfl rfl trivial ?_
                    refine' L.and [(false,3),(false,4),(false,5),(false,6),(false,7),(false,8),(false,9),(false,10),(false,11),(false,12),(false,13),(false,14),(false,15),(false,16)] [(false,17),(false,18),(false,19),(false,20)] (s := 100) (p := 114) rfl rfl (fun hg4 => ?_) (fun hg4 => ?_) ?_
                    rotate_left
                    · refine L.move rfl rfl rfl ⟨_, rfl, rfl⟩ ?_
                      refine L.eql rfl rfl rfl rfl ⟨_, rfl, rfl⟩ ?_
                      refine L.move rfl rfl rfl ⟨_, rfl, rfl⟩ ?_
                      refine' L.or [(false,6),(false,7),(false,8),(false,9),(false,10),(false,11),(false,12),(false,13),(false,14),(false,15)] [(false,16)] (s := 103) (p := 113) rfl rfl (fun hg5 => ?_) (fun hg5 => ?_) ?_
                      rotate_left
                      · refine L.move rfl rfl rfl ⟨_, rfl, rfl⟩ ?_
                        refine L.eql rfl rfl rfl rfl ⟨_, rfl, rfl⟩ ?_
                        refine L.move rfl rfl rfl ⟨_, rfl, rfl⟩ ?_
                        refine' L.and [(false,9),(false,10),(false,11),(false,12),(false,13),(false,14)] [(false,15)] (s := 106) (p := 112) rfl rfl (fun hg6 => ?_) (fun hg6 => ?_) ?_
                        rotate_left
                        · refine L.move rfl rfl rfl ⟨_, rfl, rfl⟩ ?_
                          refine L.call rfl rfl rfl (fun D14 hD14 => BitsR_ok (tn &&& (2 ^ y.claims.length - 1)) (by omega) _) rfl ⟨_, rfl, rfl⟩ (fun v14 D14 hD14 hp14 => ?_)
                          have hbn := hp14
                          refine L.move rfl rfl rfl ⟨_, rfl, rfl⟩ ?_
                          refine L.callV rfl rfl rfl (fun D15 hD15 => Shorter_ok _ _ (bitsL (tn &&& (2 ^ y.claims.length - 1))) (bitsL b0) _ (hbn.up RI.up (hD15 _ (by simp))) (hlv.up RI.up (hD15 _ (by simp)))) rfl ⟨_, rfl, rfl⟩ ?_
                          refine L.not rfl rfl rfl ⟨_, rfl, rfl⟩ ?_
                          refine L.pickT rfl rfl rfl rfl ⟨_, rfl, rfl⟩ ?_
                          exact L.nil fun a w hh => (hh.cutK 5 rfl).ds (fun _ h => List.Mem.tail _ (h))
                        · refine L.pass rfl rfl rfl ⟨_, _, rfl, rfl, rfl⟩ ?_
                          refine L.pass rfl rfl rfl ⟨_, _, rfl, rfl, rfl⟩ ?_
                          refine L.pass rfl rfl rfl ⟨_, _, rfl, rfl, rfl⟩ ?_
                          refine L.pass rfl rfl rfl ⟨_, _, rfl, rfl, rfl⟩ ?_
                          refine L.pass rfl rfl rfl ⟨_, _, rfl, rfl, rfl⟩ ?_
                          refine L.pickF rfl rfl rfl rfl ⟨_, rfl, rfl⟩ ?_
                          exact L.nil fun a w hh => hh.cutK 5 rfl
                        refine L.pickF rfl rfl rfl rfl ⟨_, rfl, rfl⟩ ?_
                        exact L.nil fun a w hh => hh.cutK 4 rfl
                      · refine L.pass rfl rfl rfl ⟨_, _, rfl, rfl, rfl⟩ ?_
                        refine L.pass rfl rfl rfl ⟨_, _, rfl, rfl, rfl⟩ ?_
                        refine L.pass rfl rfl rfl ⟨_, _, rfl, rfl, rfl⟩ ?_
                        refine L.pass rfl rfl rfl ⟨_, _, rfl, rfl, rfl⟩ ?_
                        refine L.pass rfl rfl rfl ⟨_, _, rfl, rfl, rfl⟩ ?_
                        refine L.pass rfl rfl rfl ⟨_, _, rfl, rfl, rfl⟩ ?_
                        refine L.pass rfl rfl rfl ⟨_, _, rfl, rfl, rfl⟩ ?_
                        refine L.pass rfl rfl rfl ⟨_, _, rfl, rfl, rfl⟩ ?_
                        refine L.pass rfl rfl rfl ⟨_, _, rfl, rfl, rfl⟩ ?_
                        refine L.pickT rfl rfl rfl rfl ⟨_, rfl, rfl⟩ ?_
                        exact L.nil fun a w hh => hh.cutK 9 rfl
                      refine L.pickT rfl rfl rfl rfl trivial ?_
                      exact L.nil fun a w hh => hh.cutK 4 rfl
                    · refine L.pass rfl rfl rfl ⟨_, _, rfl, rfl, rfl⟩ ?_
                      refine L.pass rfl rfl rfl ⟨_, _, rfl, rfl, rfl⟩ ?_
                      refine L.pass rfl rfl rfl ⟨_, _, rfl, rfl, rfl⟩ ?_
                      refine L.pass rfl rfl rfl ⟨_, _, rfl, rfl, rfl⟩ ?_
                      refine L.pass rfl rfl rfl ⟨_, _, rfl, rfl, rfl⟩ ?_
                      refine L.pass rfl rfl rfl ⟨_, _, rfl, rfl, rfl⟩ ?_
                      refine L.pass rfl rfl rfl ⟨_, _, rfl, rfl, rfl⟩ ?_
                      refine L.pass rfl rfl rfl ⟨_, _, rfl, rfl, rfl⟩ ?_
                      refine L.pass rfl rfl rfl ⟨_, _, rfl, rfl, rfl⟩ ?_
                      refine L.pass rfl rfl rfl ⟨_, _, rfl, rfl, rfl⟩ ?_
                      refine L.pass rfl rfl rfl ⟨_, _, rfl, rfl, rfl⟩ ?_
                      refine L.pass rfl rfl rfl ⟨_, _, rfl, rfl, rfl⟩ ?_
                      refine L.pass rfl rfl rfl ⟨_, _, rfl, rfl, rfl⟩ ?_
                      refine L.pickF rfl rfl rfl rfl trivial ?_
                      exact L.nil fun a w hh => hh.cutK 13 rfl
                    refine L.move rfl rfl rfl trivial ?_
                    refine' L.and [(false,18),(false,19)] [(false,20)] (s := 115) (p := 117) rfl rfl (fun hg7 => ?_) (fun hg7 => ?_) ?_
                    rotate_left
                    · refine L.callV rfl rfl rfl (fun D16 hD16 => awake_ok _) rfl ⟨_, rfl, rfl⟩ ?_
                      refine L.pickT rfl rfl rfl rfl trivial ?_
                      exact L.nil fun a w hh => hh.cutK 1 rfl
                    · refine L.pass rfl rfl rfl ⟨_, _, rfl, rfl, rfl⟩ ?_
                      refine L.pickF rfl rfl rfl rfl trivial ?_
                      exact L.nil fun a w hh => hh.cutK 1 rfl
                    refine L.assign rfl rfl rfl trivial ?_
                    refine L.nil ?_
                    refine C.next ?_
                    refine C.ret ?_
                    exact leave (vs := [_]) rfl rfl rfl ⟨rfl, trivial⟩ (fun D hD => congrArg Value.bool (mlf_ok hf0 hb0 hpos hmin hand))
                · refine L.alloc rfl Tf.z61 rfl rfl trivial (fun q3 => ?_)
                  refine L.nil ?_
                  refine L.planFin [(true,6),(true,7),(false,8),(false,9),(true,10)] rfl ?_
                  refine L.call rfl rfl rfl (fun D12 hD12 => YardL_ok _ (someY y (dif (2 ^ y.claims.length - 1) (tn &&& (2 ^ y.claims.length - 1)))) _ (hs2.up (hD12 _ (by simp))) (by simp only [someY]; omega) (by have := someK_len y.claims (dif (2 ^ y.claims.length - 1) (tn &&& (2 ^ y.claims.length - 1))) y.claims.length; simp only [someY]; omega)) rfl trivial (fun v12 D12 hD12 hp12 => ?_)
                  have hw := hp12
                  refine L.callV rfl rfl rfl (fun D13 hD13 => Bounds_ok _ (someY y (dif (2 ^ y.claims.length - 1) (tn &&& (2 ^ y.claims.length - 1)))) _ (hw.up (hD13 _ (by simp)))) rfl trivial ?_
                  refine L.move rfl rfl rfl trivial ?_
                  refine L.extract rfl rfl rfl rfl trivial ?_
                  refine L.extract rfl rfl rfl rfl trivial ?_
                  refine L.nil ?_
                  refine S.fin [(true,12),(false,13)] rfl ?_
                  refine L.apart hB1 (by simp) (fun hap => ?_)
                  refine L.storeB rfl rfl rfl rfl Tf.s61 (Has.head) (by simp) rfl (by simp [cell1]) (Or.inr (But.in_ (by rw [List.mem_singleton]; rintro rfl; exact hap (List.mem_map.2 ⟨_, (List.Mem.head _), rfl⟩)))) trivial ?_
                  refine L.assign rfl rfl rfl trivial ?_
                  refine L.nil ?_
                  refine S.nil ?_
                  refine C.next ?_
                  refine C.seq ?_
                  refine C.region [(false,0),(false,1),(false,2),(false,3),(false,4),(false,5),(false,6),(false,7),(false,8),(false,9),(false,10),(false,11),(false,12),(false,13),(false,14),(false,15),(false,16),(false,17),(false,18),(false,19),(false,20)] rfl ?_
                  refine L.move rfl rfl rfl trivial ?_
                  refine L.eql rfl rfl rfl rfl trivial ?_
                  refine L.move rfl rfl rfl trivial ?_
                  refine' L.and [(false,3),(false,4),(false,5),(false,6),(false,7),(false,8),(false,9),(false,10),(false,11),(false,12),(false,13),(false,14),(false,15),(false,16)] [(false,17),(false,18),(false,19),(false,20)] (s := 100) (p := 114) rfl rfl (fun hg4 => ?_) (fun hg4 => ?_) ?_
                  rotate_left
                  · refine L.move rfl rfl rfl ⟨_, rfl, rfl⟩ ?_
                    refine L.eql rfl rfl rfl rfl ⟨_, rfl, rfl⟩ ?_
                    refine L.move rfl rfl rfl ⟨_, rfl, rfl⟩ ?_
                    refine' L.or [(false,6),(false,7),(false,8),(false,9),(false,10),(false,11),(false,12),(false,13),(false,14),(false,15)] [(false,16)] (s := 103) (p := 113) rfl rfl (fun hg5 => ?_) (fun hg5 => ?_) ?_
                    rotate_left
                    · refine L.move rfl rfl rfl ⟨_, rfl, rfl⟩ ?_
                      refine L.eql rfl rfl rfl rfl ⟨_, rfl, rfl⟩ ?_
                      refine L.move rfl rfl rfl ⟨_, rfl, rfl⟩ ?_
                      refine' L.and [(false,9),(false,10),(false,11),(false,12),(false,13),(false,14)] [(false,15)] (s := 106) (p := 112) rfl rfl (fun hg6 => ?_) (fun hg6 => ?_) ?_
                      rotate_left
                      · refine L.move rfl rfl rfl ⟨_, rfl, rfl⟩ ?_
                        refine L.call rfl rfl rfl (fun D14 hD14 => BitsR_ok (tn &&& (2 ^ y.claims.length - 1)) (by omega) _) rfl ⟨_, rfl, rfl⟩ (fun v14 D14 hD14 hp14 => ?_)
                        have hbn := hp14
                        refine L.move rfl rfl rfl ⟨_, rfl, rfl⟩ ?_
                        refine L.callV rfl rfl rfl (fun D15 hD15 => Shorter_ok _ _ (bitsL (tn &&& (2 ^ y.claims.length - 1))) (bitsL b0) _ (hbn.up RI.up (hD15 _ (by simp))) (hlv.up RI.up (hD15 _ (by simp)))) rfl ⟨_, rfl, rfl⟩ ?_
                        refine L.not rfl rfl rfl ⟨_, rfl, rfl⟩ ?_
                        refine L.pickT rfl rfl rfl rfl ⟨_, rfl, rfl⟩ ?_
                        exact L.nil fun a w hh => (hh.cutK 5 rfl).ds (fun _ h => List.Mem.tail _ (h))
                      · refine L.pass rfl rfl rfl ⟨_, _, rfl, rfl, rfl⟩ ?_
                        refine L.pass rfl rfl rfl ⟨_, _, rfl, rfl, rfl⟩ ?_
                        refine L.pass rfl rfl rfl ⟨_, _, rfl, rfl, rfl⟩ ?_
                        refine L.pass rfl rfl rfl ⟨_, _, rfl, rfl, rfl⟩ ?_
                        refine L.pass rfl rfl rfl ⟨_, _, rfl, rfl, rfl⟩ ?_
                        refine L.pickF rfl rfl rfl rfl ⟨_, rfl, rfl⟩ ?_
                        exact L.nil fun a w hh => hh.cutK 5 rfl
                      refine L.pickF rfl rfl rfl rfl ⟨_, rfl, rfl⟩ ?_
                      exact L.nil fun a w hh => hh.cutK 4 rfl
                    · refine L.pass rfl rfl rfl ⟨_, _, rfl, rfl, rfl⟩ ?_
                      refine L.pass rfl rfl rfl ⟨_, _, rfl, rfl, rfl⟩ ?_
                      refine L.pass rfl rfl rfl ⟨_, _, rfl, rfl, rfl⟩ ?_
                      refine L.pass rfl rfl rfl ⟨_, _, rfl, rfl, rfl⟩ ?_
                      refine L.pass rfl rfl rfl ⟨_, _, rfl, rfl, rfl⟩ ?_
                      refine L.pass rfl rfl rfl ⟨_, _, rfl, rfl, rfl⟩ ?_
                      refine L.pass rfl rfl rfl ⟨_, _, rfl, rfl, rfl⟩ ?_
                      refine L.pass rfl rfl rfl ⟨_, _, rfl, rfl, rfl⟩ ?_
                      refine L.pass rfl rfl rfl ⟨_, _, rfl, rfl, rfl⟩ ?_
                      refine L.pickT rfl rfl rfl rfl ⟨_, rfl, rfl⟩ ?_
                      exact L.nil fun a w hh => hh.cutK 9 rfl
                    refine L.pickT rfl rfl rfl rfl trivial ?_
                    exact L.nil fun a w hh => hh.cutK 4 rfl
                  · refine L.pass rfl rfl rfl ⟨_, _, rfl, rfl, rfl⟩ ?_
                    refine L.pass rfl rfl rfl ⟨_, _, rfl, rfl, rfl⟩ ?_
                    refine L.pass rfl rfl rfl ⟨_, _, rfl, rfl, rfl⟩ ?_
                    refine L.pass rfl rfl rfl ⟨_, _, rfl, rfl, rfl⟩ ?_
                    refine L.pass rfl rfl rfl ⟨_, _, rfl, rfl, rfl⟩ ?_
                    refine L.pass rfl rfl rfl ⟨_, _, rfl, rfl, rfl⟩ ?_
                    refine L.pass rfl rfl rfl ⟨_, _, rfl, rfl, rfl⟩ ?_
                    refine L.pass rfl rfl rfl ⟨_, _, rfl, rfl, rfl⟩ ?_
                    refine L.pass rfl rfl rfl ⟨_, _, rfl, rfl, rfl⟩ ?_
                    refine L.pass rfl rfl rfl ⟨_, _, rfl, rfl, rfl⟩ ?_
                    refine L.pass rfl rfl rfl ⟨_, _, rfl, rfl, rfl⟩ ?_
                    refine L.pass rfl rfl rfl ⟨_, _, rfl, rfl, rfl⟩ ?_
                    refine L.pass rfl rfl rfl ⟨_, _, rfl, rfl, rfl⟩ ?_
                    refine L.pickF rfl rfl rfl rfl trivial ?_
                    exact L.nil fun a w hh => hh.cutK 13 rfl
                  refine L.move rfl rfl rfl trivial ?_
                  refine' L.and [(false,18),(false,19)] [(false,20)] (s := 115) (p := 117) rfl rfl (fun hg7 => ?_) (fun hg7 => ?_) ?_
                  rotate_left
                  · refine L.callV rfl rfl rfl (fun D16 hD16 => awake_ok _) rfl ⟨_, rfl, rfl⟩ ?_
                    refine L.pickT rfl rfl rfl rfl trivial ?_
                    exact L.nil fun a w hh => hh.cutK 1 rfl
                  · refine L.pass rfl rfl rfl ⟨_, _, rfl, rfl, rfl⟩ ?_
                    refine L.pickF rfl rfl rfl rfl trivial ?_
                    exact L.nil fun a w hh => hh.cutK 1 rfl
                  refine L.assign rfl rfl rfl trivial ?_
                  refine L.nil ?_
                  refine C.next ?_
                  refine C.ret ?_
                  exact leave (vs := [_]) rfl rfl rfl ⟨rfl, trivial⟩ (fun D hD => congrArg Value.bool (mlf_ok hf0 hb0 hpos hmin hand))
              · refine L.alloc rfl Tf.z61 rfl rfl trivial (fun q3 => ?_)
                refine L.nil ?_
                refine L.planFin [(true,5),(true,6),(true,7),(false,8),(false,9),(true,10)] rfl ?_
                refine L.call rfl rfl rfl (fun D11 hD11 => some_ok _ y (dif (2 ^ y.claims.length - 1) (tn &&& (2 ^ y.claims.length - 1))) _ _ rfl (hy0.up (hD11 _ (by simp))) (by have := dif_le (2 ^ y.claims.length - 1) (tn &&& (2 ^ y.claims.length - 1)); omega) (by omega)) rfl trivial (fun v11 D11 hD11 hp11 => ?_)
                have hs2 := hp11
                refine L.call rfl rfl rfl (fun D12 hD12 => YardL_ok _ (someY y (dif (2 ^ y.claims.length - 1) (tn &&& (2 ^ y.claims.length - 1)))) _ (hs2.up (hD12 _ (by simp))) (by simp only [someY]; omega) (by have := someK_len y.claims (dif (2 ^ y.claims.length - 1) (tn &&& (2 ^ y.claims.length - 1))) y.claims.length; simp only [someY]; omega)) rfl trivial (fun v12 D12 hD12 hp12 => ?_)
                have hw := hp12
                refine L.callV rfl rfl rfl (fun D13 hD13 => Bounds_ok _ (someY y (dif (2 ^ y.claims.length - 1) (tn &&& (2 ^ y.claims.length - 1)))) _ (hw.up (hD13 _ (by simp)))) rfl trivial ?_
                refine L.move rfl rfl rfl trivial ?_
                refine L.extract rfl rfl rfl rfl trivial ?_
                refine L.extract rfl rfl rfl rfl trivial ?_
                refine L.nil ?_
                refine S.fin [(true,12),(false,13)] rfl ?_
                refine L.apart hB1 (by simp) (fun hap => ?_)
                refine L.storeB rfl rfl rfl rfl Tf.s61 (Has.head) (by simp) rfl (by simp [cell1]) (Or.inr (But.in_ (by rw [List.mem_singleton]; rintro rfl; exact hap (List.mem_map.2 ⟨_, (List.Mem.head _), rfl⟩)))) trivial ?_
                refine L.assign rfl rfl rfl trivial ?_
                refine L.nil ?_
                refine S.nil ?_
                refine C.next ?_
                refine C.seq ?_
                refine C.region [(false,0),(false,1),(false,2),(false,3),(false,4),(false,5),(false,6),(false,7),(false,8),(false,9),(false,10),(false,11),(false,12),(false,13),(false,14),(false,15),(false,16),(false,17),(false,18),(false,19),(false,20)] rfl ?_
                refine L.move rfl rfl rfl trivial ?_
                refine L.eql rfl rfl rfl rfl trivial ?_
                refine L.move rfl rfl rfl trivial ?_
                refine' L.and [(false,3),(false,4),(false,5),(false,6),(false,7),(false,8),(false,9),(false,10),(false,11),(false,12),(false,13),(false,14),(false,15),(false,16)] [(false,17),(false,18),(false,19),(false,20)] (s := 100) (p := 114) rfl rfl (fun hg4 => ?_) (fun hg4 => ?_) ?_
                rotate_left
                · refine L.move rfl rfl rfl ⟨_, rfl, rfl⟩ ?_
                  refine L.eql rfl rfl rfl rfl ⟨_, rfl, rfl⟩ ?_
                  refine L.move rfl rfl rfl ⟨_, rfl, rfl⟩ ?_
                  refine' L.or [(false,6),(false,7),(false,8),(false,9),(false,10),(false,11),(false,12),(false,13),(false,14),(false,15)] [(false,16)] (s := 103) (p := 113) rfl rfl (fun hg5 => ?_) (fun hg5 => ?_) ?_
                  rotate_left
                  · refine L.move rfl rfl rfl ⟨_, rfl, rfl⟩ ?_
                    refine L.eql rfl rfl rfl rfl ⟨_, rfl, rfl⟩ ?_
                    refine L.move rfl rfl rfl ⟨_, rfl, rfl⟩ ?_
                    refine' L.and [(false,9),(false,10),(false,11),(false,12),(false,13),(false,14)] [(false,15)] (s := 106) (p := 112) rfl rfl (fun hg6 => ?_) (fun hg6 => ?_) ?_
                    rotate_left
                    · refine L.move rfl rfl rfl ⟨_, rfl, rfl⟩ ?_
                      refine L.call rfl rfl rfl (fun D14 hD14 => BitsR_ok (tn &&& (2 ^ y.claims.length - 1)) (by omega) _) rfl ⟨_, rfl, rfl⟩ (fun v14 D14 hD14 hp14 => ?_)
                      have hbn := hp14
                      refine L.move rfl rfl rfl ⟨_, rfl, rfl⟩ ?_
                      refine L.callV rfl rfl rfl (fun D15 hD15 => Shorter_ok _ _ (bitsL (tn &&& (2 ^ y.claims.length - 1))) (bitsL b0) _ (hbn.up RI.up (hD15 _ (by simp))) (hlv.up RI.up (hD15 _ (by simp)))) rfl ⟨_, rfl, rfl⟩ ?_
                      refine L.not rfl rfl rfl ⟨_, rfl, rfl⟩ ?_
                      refine L.pickT rfl rfl rfl rfl ⟨_, rfl, rfl⟩ ?_
                      exact L.nil fun a w hh => (hh.cutK 5 rfl).ds (fun _ h => List.Mem.tail _ (h))
                    · refine L.pass rfl rfl rfl ⟨_, _, rfl, rfl, rfl⟩ ?_
                      refine L.pass rfl rfl rfl ⟨_, _, rfl, rfl, rfl⟩ ?_
                      refine L.pass rfl rfl rfl ⟨_, _, rfl, rfl, rfl⟩ ?_
                      refine L.pass rfl rfl rfl ⟨_, _, rfl, rfl, rfl⟩ ?_
                      refine L.pass rfl rfl rfl ⟨_, _, rfl, rfl, rfl⟩ ?_
                      refine L.pickF rfl rfl rfl rfl ⟨_, rfl, rfl⟩ ?_
                      exact L.nil fun a w hh => hh.cutK 5 rfl
                    refine L.pickF rfl rfl rfl rfl ⟨_, rfl, rfl⟩ ?_
                    exact L.nil fun a w hh => hh.cutK 4 rfl
                  · refine L.pass rfl rfl rfl ⟨_, _, rfl, rfl, rfl⟩ ?_
                    refine L.pass rfl rfl rfl ⟨_, _, rfl, rfl, rfl⟩ ?_
                    refine L.pass rfl rfl rfl ⟨_, _, rfl, rfl, rfl⟩ ?_
                    refine L.pass rfl rfl rfl ⟨_, _, rfl, rfl, rfl⟩ ?_
                    refine L.pass rfl rfl rfl ⟨_, _, rfl, rfl, rfl⟩ ?_
                    refine L.pass rfl rfl rfl ⟨_, _, rfl, rfl, rfl⟩ ?_
                    refine L.pass rfl rfl rfl ⟨_, _, rfl, rfl, rfl⟩ ?_
                    refine L.pass rfl rfl rfl ⟨_, _, rfl, rfl, rfl⟩ ?_
                    refine L.pass rfl rfl rfl ⟨_, _, rfl, rfl, rfl⟩ ?_
                    refine L.pickT rfl rfl rfl rfl ⟨_, rfl, rfl⟩ ?_
                    exact L.nil fun a w hh => hh.cutK 9 rfl
                  refine L.pickT rfl rfl rfl rfl trivial ?_
                  exact L.nil fun a w hh => hh.cutK 4 rfl
                · refine L.pass rfl rfl rfl ⟨_, _, rfl, rfl, rfl⟩ ?_
                  refine L.pass rfl rfl rfl ⟨_, _, rfl, rfl, rfl⟩ ?_
                  refine L.pass rfl rfl rfl ⟨_, _, rfl, rfl, rfl⟩ ?_
                  refine L.pass rfl rfl rfl ⟨_, _, rfl, rfl, rfl⟩ ?_
                  refine L.pass rfl rfl rfl ⟨_, _, rfl, rfl, rfl⟩ ?_
                  refine L.pass rfl rfl rfl ⟨_, _, rfl, rfl, rfl⟩ ?_
                  refine L.pass rfl rfl rfl ⟨_, _, rfl, rfl, rfl⟩ ?_
                  refine L.pass rfl rfl rfl ⟨_, _, rfl, rfl, rfl⟩ ?_
                  refine L.pass rfl rfl rfl ⟨_, _, rfl, rfl, rfl⟩ ?_
                  refine L.pass rfl rfl rfl ⟨_, _, rfl, rfl, rfl⟩ ?_
                  refine L.pass rfl rfl rfl ⟨_, _, rfl, rfl, rfl⟩ ?_
                  refine L.pass rfl rfl rfl ⟨_, _, rfl, rfl, rfl⟩ ?_
                  refine L.pass rfl rfl rfl ⟨_, _, rfl, rfl, rfl⟩ ?_
                  refine L.pickF rfl rfl rfl rfl trivial ?_
                  exact L.nil fun a w hh => hh.cutK 13 rfl
                refine L.move rfl rfl rfl trivial ?_
                refine' L.and [(false,18),(false,19)] [(false,20)] (s := 115) (p := 117) rfl rfl (fun hg7 => ?_) (fun hg7 => ?_) ?_
                rotate_left
                · refine L.callV rfl rfl rfl (fun D16 hD16 => awake_ok _) rfl ⟨_, rfl, rfl⟩ ?_
                  refine L.pickT rfl rfl rfl rfl trivial ?_
                  exact L.nil fun a w hh => hh.cutK 1 rfl
                · refine L.pass rfl rfl rfl ⟨_, _, rfl, rfl, rfl⟩ ?_
                  refine L.pickF rfl rfl rfl rfl trivial ?_
                  exact L.nil fun a w hh => hh.cutK 1 rfl
                refine L.assign rfl rfl rfl trivial ?_
                refine L.nil ?_
                refine C.next ?_
                refine C.ret ?_
                exact leave (vs := [_]) rfl rfl rfl ⟨rfl, trivial⟩ (fun D hD => congrArg Value.bool (mlf_ok hf0 hb0 hpos hmin hand))
            · refine L.alloc rfl Tf.z61 rfl rfl trivial (fun q3 => ?_)
              refine L.nil ?_
              refine L.planFin [(true,2),(true,4),(true,5),(true,6),(true,7),(false,8),(false,9),(true,10)] rfl ?_
              refine L.callV rfl rfl rfl (fun D10 hD10 => Full_ok _ y _ (hy0.up (hD10 _ (by simp))) (by omega)) rfl trivial ?_
              refine L.difN (m := 2 ^ y.claims.length - 1) (n := (tn &&& (2 ^ y.claims.length - 1))) rfl (by show some (Value.int _ _) = some (Value.int _ _); congr 2; omega) rfl (by omega) (by omega) rfl trivial ?_
              refine L.call rfl rfl rfl (fun D11 hD11 => some_ok _ y (dif (2 ^ y.claims.length - 1) (tn &&& (2 ^ y.claims.length - 1))) _ _ rfl (hy0.up (hD11 _ (by simp))) (by have := dif_le (2 ^ y.claims.length - 1) (tn &&& (2 ^ y.claims.length - 1)); omega) (by omega)) rfl trivial (fun v11 D11 hD11 hp11 => ?_)
              have hs2 := hp11
              refine L.call rfl rfl rfl (fun D12 hD12 => YardL_ok _ (someY y (dif (2 ^ y.claims.length - 1) (tn &&& (2 ^ y.claims.length - 1)))) _ (hs2.up (hD12 _ (by simp))) (by simp only [someY]; omega) (by have := someK_len y.claims (dif (2 ^ y.claims.length - 1) (tn &&& (2 ^ y.claims.length - 1))) y.claims.length; simp only [someY]; omega)) rfl trivial (fun v12 D12 hD12 hp12 => ?_)
              have hw := hp12
              refine L.callV rfl rfl rfl (fun D13 hD13 => Bounds_ok _ (someY y (dif (2 ^ y.claims.length - 1) (tn &&& (2 ^ y.claims.length - 1)))) _ (hw.up (hD13 _ (by simp)))) rfl trivial ?_
              refine L.move rfl rfl rfl trivial ?_
              refine L.extract rfl rfl rfl rfl trivial ?_
              refine L.extract rfl rfl rfl rfl trivial ?_
              refine L.nil ?_
              refine S.fin [(true,12),(false,13)] rfl ?_
              refine L.apart hB1 (by simp) (fun hap => ?_)
              refine L.storeB rfl rfl rfl rfl Tf.s61 (Has.head) (by simp) rfl (by simp [cell1]) (Or.inr (But.in_ (by rw [List.mem_singleton]; rintro rfl; exact hap (List.mem_map.2 ⟨_, (List.Mem.head _), rfl⟩)))) trivial ?_
              refine L.assign rfl rfl rfl trivial ?_
              refine L.nil ?_
              refine S.nil ?_
              refine C.next ?_
              refine C.seq ?_
              refine C.region [(false,0),(false,1),(false,2),(false,3),(false,4),(false,5),(false,6),(false,7),(false,8),(false,9),(false,10),(false,11),(false,12),(false,13),(false,14),(false,15),(false,16),(false,17),(false,18),(false,19),(false,20)] rfl ?_
              refine L.move rfl rfl rfl trivial ?_
              refine L.eql rfl rfl rfl rfl trivial ?_
              refine L.move rfl rfl rfl trivial ?_
              refine' L.and [(false,3),(false,4),(false,5),(false,6),(false,7),(false,8),(false,9),(false,10),(false,11),(false,12),(false,13),(false,14),(false,15),(false,16)] [(false,17),(false,18),(false,19),(false,20)] (s := 100) (p := 114) rfl rfl (fun hg4 => ?_) (fun hg4 => ?_) ?_
              rotate_left
              · refine L.move rfl rfl rfl ⟨_, rfl, rfl⟩ ?_
                refine L.eql rfl rfl rfl rfl ⟨_, rfl, rfl⟩ ?_
                refine L.move rfl rfl rfl ⟨_, rfl, rfl⟩ ?_
                refine' L.or [(false,6),(false,7),(false,8),(false,9),(false,10),(false,11),(false,12),(false,13),(false,14),(false,15)] [(false,16)] (s := 103) (p := 113) rfl rfl (fun hg5 => ?_) (fun hg5 => ?_) ?_
                rotate_left
                · refine L.move rfl rfl rfl ⟨_, rfl, rfl⟩ ?_
                  refine L.eql rfl rfl rfl rfl ⟨_, rfl, rfl⟩ ?_
                  refine L.move rfl rfl rfl ⟨_, rfl, rfl⟩ ?_
                  refine' L.and [(false,9),(false,10),(false,11),(false,12),(false,13),(false,14)] [(false,15)] (s := 106) (p := 112) rfl rfl (fun hg6 => ?_) (fun hg6 => ?_) ?_
                  rotate_left
                  · refine L.move rfl rfl rfl ⟨_, rfl, rfl⟩ ?_
                    refine L.call rfl rfl rfl (fun D14 hD14 => BitsR_ok (tn &&& (2 ^ y.claims.length - 1)) (by omega) _) rfl ⟨_, rfl, rfl⟩ (fun v14 D14 hD14 hp14 => ?_)
                    have hbn := hp14
                    refine L.move rfl rfl rfl ⟨_, rfl, rfl⟩ ?_
                    refine L.callV rfl rfl rfl (fun D15 hD15 => Shorter_ok _ _ (bitsL (tn &&& (2 ^ y.claims.length - 1))) (bitsL b0) _ (hbn.up RI.up (hD15 _ (by simp))) (hlv.up RI.up (hD15 _ (by simp)))) rfl ⟨_, rfl, rfl⟩ ?_
                    refine L.not rfl rfl rfl ⟨_, rfl, rfl⟩ ?_
                    refine L.pickT rfl rfl rfl rfl ⟨_, rfl, rfl⟩ ?_
                    exact L.nil fun a w hh => (hh.cutK 5 rfl).ds (fun _ h => List.Mem.tail _ (h))
                  · refine L.pass rfl rfl rfl ⟨_, _, rfl, rfl, rfl⟩ ?_
                    refine L.pass rfl rfl rfl ⟨_, _, rfl, rfl, rfl⟩ ?_
                    refine L.pass rfl rfl rfl ⟨_, _, rfl, rfl, rfl⟩ ?_
                    refine L.pass rfl rfl rfl ⟨_, _, rfl, rfl, rfl⟩ ?_
                    refine L.pass rfl rfl rfl ⟨_, _, rfl, rfl, rfl⟩ ?_
                    refine L.pickF rfl rfl rfl rfl ⟨_, rfl, rfl⟩ ?_
                    exact L.nil fun a w hh => hh.cutK 5 rfl
                  refine L.pickF rfl rfl rfl rfl ⟨_, rfl, rfl⟩ ?_
                  exact L.nil fun a w hh => hh.cutK 4 rfl
                · refine L.pass rfl rfl rfl ⟨_, _, rfl, rfl, rfl⟩ ?_
                  refine L.pass rfl rfl rfl ⟨_, _, rfl, rfl, rfl⟩ ?_
                  refine L.pass rfl rfl rfl ⟨_, _, rfl, rfl, rfl⟩ ?_
                  refine L.pass rfl rfl rfl ⟨_, _, rfl, rfl, rfl⟩ ?_
                  refine L.pass rfl rfl rfl ⟨_, _, rfl, rfl, rfl⟩ ?_
                  refine L.pass rfl rfl rfl ⟨_, _, rfl, rfl, rfl⟩ ?_
                  refine L.pass rfl rfl rfl ⟨_, _, rfl, rfl, rfl⟩ ?_
                  refine L.pass rfl rfl rfl ⟨_, _, rfl, rfl, rfl⟩ ?_
                  refine L.pass rfl rfl rfl ⟨_, _, rfl, rfl, rfl⟩ ?_
                  refine L.pickT rfl rfl rfl rfl ⟨_, rfl, rfl⟩ ?_
                  exact L.nil fun a w hh => hh.cutK 9 rfl
                refine L.pickT rfl rfl rfl rfl trivial ?_
                exact L.nil fun a w hh => hh.cutK 4 rfl
              · refine L.pass rfl rfl rfl ⟨_, _, rfl, rfl, rfl⟩ ?_
                refine L.pass rfl rfl rfl ⟨_, _, rfl, rfl, rfl⟩ ?_
                refine L.pass rfl rfl rfl ⟨_, _, rfl, rfl, rfl⟩ ?_
                refine L.pass rfl rfl rfl ⟨_, _, rfl, rfl, rfl⟩ ?_
                refine L.pass rfl rfl rfl ⟨_, _, rfl, rfl, rfl⟩ ?_
                refine L.pass rfl rfl rfl ⟨_, _, rfl, rfl, rfl⟩ ?_
                refine L.pass rfl rfl rfl ⟨_, _, rfl, rfl, rfl⟩ ?_
                refine L.pass rfl rfl rfl ⟨_, _, rfl, rfl, rfl⟩ ?_
                refine L.pass rfl rfl rfl ⟨_, _, rfl, rfl, rfl⟩ ?_
                refine L.pass rfl rfl rfl ⟨_, _, rfl, rfl, rfl⟩ ?_
                refine L.pass rfl rfl rfl ⟨_, _, rfl, rfl, rfl⟩ ?_
                refine L.pass rfl rfl rfl ⟨_, _, rfl, rfl, rfl⟩ ?_
                refine L.pass rfl rfl rfl ⟨_, _, rfl, rfl, rfl⟩ ?_
                refine L.pickF rfl rfl rfl rfl trivial ?_
                exact L.nil fun a w hh => hh.cutK 13 rfl
              refine L.move rfl rfl rfl trivial ?_
              refine' L.and [(false,18),(false,19)] [(false,20)] (s := 115) (p := 117) rfl rfl (fun hg7 => ?_) (fun hg7 => ?_) ?_
              rotate_left
              · refine L.callV rfl rfl rfl (fun D16 hD16 => awake_ok _) rfl ⟨_, rfl, rfl⟩ ?_
                refine L.pickT rfl rfl rfl rfl trivial ?_
                exact L.nil fun a w hh => hh.cutK 1 rfl
              · refine L.pass rfl rfl rfl ⟨_, _, rfl, rfl, rfl⟩ ?_
                refine L.pickF rfl rfl rfl rfl trivial ?_
                exact L.nil fun a w hh => hh.cutK 1 rfl
              refine L.assign rfl rfl rfl trivial ?_
              refine L.nil ?_
              refine C.next ?_
              refine C.ret ?_
              exact leave (vs := [_]) rfl rfl rfl ⟨rfl, trivial⟩ (fun D hD => congrArg Value.bool (mlf_ok hf0 hb0 hpos hmin hand))
        · refine L.alloc rfl Tf.z61 rfl rfl trivial (fun q2 => ?_)
          refine L.nil ?_
          refine L.planFin [(true,2),(true,4),(true,5),(true,6),(true,7),(false,8),(false,9),(true,10)] rfl ?_
          refine L.callV rfl rfl rfl (fun D6 hD6 => Full_ok _ y _ (hy0.up (hD6 _ (by simp))) (by omega)) rfl trivial ?_
          refine L.difN (m := 2 ^ y.claims.length - 1) (n := b0) rfl (by show some (Value.int _ _) = some (Value.int _ _); congr 2; omega) rfl (by omega) (by omega) rfl trivial ?_
          refine L.call rfl rfl rfl (fun D7 hD7 => some_ok _ y (dif (2 ^ y.claims.length - 1) b0) _ _ rfl (hy0.up (hD7 _ (by simp))) (by have := dif_le (2 ^ y.claims.length - 1) b0; omega) (by omega)) rfl trivial (fun v7 D7 hD7 hp7 => ?_)
          have hs1 := hp7
          refine L.call rfl rfl rfl (fun D8 hD8 => YardL_ok _ (someY y (dif (2 ^ y.claims.length - 1) b0)) _ (hs1.up (hD8 _ (by simp))) (by simp only [someY]; omega) (by have := someK_len y.claims (dif (2 ^ y.claims.length - 1) b0) y.claims.length; simp only [someY]; omega)) rfl trivial (fun v8 D8 hD8 hp8 => ?_)
          have hw := hp8
          refine L.callV rfl rfl rfl (fun D9 hD9 => Bounds_ok _ (someY y (dif (2 ^ y.claims.length - 1) b0)) _ (hw.up (hD9 _ (by simp)))) rfl trivial ?_
          refine L.move rfl rfl rfl trivial ?_
          refine L.extract rfl rfl rfl rfl trivial ?_
          refine L.extract rfl rfl rfl rfl trivial ?_
          refine L.nil ?_
          refine S.fin [(true,12),(false,13)] rfl ?_
          refine L.apart hB1 (by simp) (fun hap => ?_)
          refine L.storeB rfl rfl rfl rfl Tf.s61 (Has.head) (by simp) rfl (by simp [cell1]) (Or.inr (But.in_ (by rw [List.mem_singleton]; rintro rfl; exact hap (List.mem_map.2 ⟨_, (List.Mem.head _), rfl⟩)))) trivial ?_
          refine L.assign rfl rfl rfl trivial ?_
          refine L.nil ?_
          refine S.nil ?_
          refine C.next ?_
          refine C.seq ?_
          refine C.drawS (But.mk [q1]) 6 [false,true,true,true,true,true,true,true,false,false,true,true,true,false] [.fork [0,1,3] 2 (.fork [4] 5 (.fork [] 6 (.fork [] 7 (.fin [8,9,10,11]) 11 (.fin [7,8,9,10])) 11 (.fin [6,7,8,9,10])) 11 (.fin [5,6,7,8,9,10])) 11 (.fin [2,4,5,6,7,8,9,10]), .fin [12,13]] Tf.follows (fun _ _ _ h => np_body (P := Try.prog) (fn := Try.f16) _ _ _ h) (by kernel_rfl) ?_
          refine S.cons ?_
          refine L.planFork [(false,0),(true,1),(true,3)] rfl ?_
          refine L.loadDW rfl Tf.a25 rfl hB1 (by simp) Tf.s25 (But.out (by simp)) rfl trivial ?_
          refine L.loadDW rfl Tf.a25 rfl hB1 (by simp) Tf.s25 (But.out (by simp)) rfl trivial ?_
          refine L.move rfl rfl rfl trivial ?_
          refine L.nil (L.forkP true true rfl rfl ?_ ?_)
          · refine L.callV rfl rfl rfl (fun D10 hD10 => Full_ok _ y _ (hy0.up (hD10 _ (by simp))) (by omega)) rfl trivial ?_
            refine L.nil ?_
            refine L.planFork [(true,4)] rfl ?_
            refine L.difN (m := 2 ^ y.claims.length - 1) (n := (tn &&& (2 ^ y.claims.length - 1))) rfl (by show some (Value.int _ _) = some (Value.int _ _); congr 2; omega) rfl (by omega) (by omega) rfl trivial ?_
            refine L.nil (L.forkP true true rfl rfl ?_ ?_)
            · refine L.call rfl rfl rfl (fun D11 hD11 => some_ok _ y (dif (2 ^ y.claims.length - 1) (tn &&& (2 ^ y.claims.length - 1))) _ _ rfl (hy0.up (hD11 _ (by simp))) (by have := dif_le (2 ^ y.claims.length - 1) (tn &&& (2 ^ y.claims.length - 1)); omega) (by omega)) rfl trivial (fun v11 D11 hD11 hp11 => ?_)
              have hs2 := hp11
              refine L.nil ?_
              refine L.planFork [] rfl ?_
              refine L.nil (L.forkP true true rfl rfl ?_ ?_)
              · refine L.call rfl rfl rfl (fun D12 hD12 => YardL_ok _ (someY y (dif (2 ^ y.claims.length - 1) (tn &&& (2 ^ y.claims.length - 1)))) _ (hs2.up (hD12 _ (by simp))) (by simp only [someY]; omega) (by have := someK_len y.claims (dif (2 ^ y.claims.length - 1) (tn &&& (2 ^ y.claims.length - 1))) y.claims.length; simp only [someY]; omega)) rfl trivial (fun v12 D12 hD12 hp12 => ?_)
                have hw := hp12
                refine L.nil ?_
                refine L.planFork [] rfl ?_
                refine L.nil (L.forkP true true rfl rfl ?_ ?_)
                · refine L.callV rfl rfl rfl (fun D13 hD13 => Bounds_ok _ (someY y (dif (2 ^ y.claims.length - 1) (tn &&& (2 ^ y.claims.length - 1)))) _ (hw.up (hD13 _ (by simp)))) rfl trivial ?_
                  refine L.nil ?_
                  refine L.planFin [(false,8),(false,9),(true,10),(true,11)] rfl ?_
                  refine L.move rfl rfl rfl trivial ?_
                  refine L.extract rfl rfl rfl rfl trivial ?_
                  refine L.extract rfl rfl rfl rfl trivial ?_
                  refine L.alloc rfl Tf.z61 rfl rfl trivial (fun q3 => ?_)
                  refine L.nil ?_
                  refine S.fin [(true,12),(false,13)] rfl ?_
                  refine L.apart hB1 (by simp) (fun hap => ?_)
                  refine L.storeB rfl rfl rfl rfl Tf.s61 (Has.head) (by simp) rfl (by simp [cell1]) (Or.inr (But.in_ (by rw [List.mem_singleton]; rintro rfl; exact hap (List.mem_map.2 ⟨_, (List.Mem.head _), rfl⟩)))) trivial ?_
                  refine L.assign rfl rfl rfl trivial ?_
                  refine L.nil ?_
                  refine S.nil ?_
                  refine C.next ?_
                  refine C.seq ?_
                  refine C.region [(false,0),(false,1),(false,2),(false,3),(false,4),(false,5),(false,6),(false,7),(false,8),(false,9),(false,10),(false,11),(false,12),(false,13),(false,14),(false,15),(false,16),(false,17),(false,18),(false,19),(false,20)] rfl ?_
                  refine L.move rfl rfl rfl trivial ?_
                  refine L.eql rfl rfl rfl rfl trivial ?_
                  refine L.move rfl rfl rfl trivial ?_
                  refine' L.and [(false,3),(false,4),(false,5),(false,6),(false,7),(false,8),(false,9),(false,10),(false,11),(false,12),(false,13),(false,14),(false,15),(false,16)] [(false,17),(false,18),(false,19),(false,20)] (s := 100) (p := 114) rfl rfl (fun hg4 => ?_) (fun hg4 => ?_) ?_
                  rotate_left
                  · refine L.move rfl rfl rfl ⟨_, rfl, rfl⟩ ?_
                    refine L.eql rfl rfl rfl rfl ⟨_, rfl, rfl⟩ ?_
                    refine L.move rfl rfl rfl ⟨_, rfl, rfl⟩ ?_
                    refine' L.or [(false,6),(false,7),(false,8),(false,9),(false,10),(false,11),(false,12),(false,13),(false,14),(false,15)] [(false,16)] (s := 103) (p := 113) rfl rfl (fun hg5 => ?_) (fun hg5 => ?_) ?_
                    rotate_left
                    · refine L.move rfl rfl rfl ⟨_, rfl, rfl⟩ ?_
                      refine L.eql rfl rfl rfl rfl ⟨_, rfl, rfl⟩ ?_
                      refine L.move rfl rfl rfl ⟨_, rfl, rfl⟩ ?_
                      refine' L.and [(false,9),(false,10),(false,11),(false,12),(false,13),(false,14)] [(false,15)] (s := 106) (p := 112) rfl rfl (fun hg6 => ?_) (fun hg6 => ?_) ?_
                      rotate_left
                      · refine L.move rfl rfl rfl ⟨_, rfl, rfl⟩ ?_
                        refine L.call rfl rfl rfl (fun D14 hD14 => BitsR_ok (tn &&& (2 ^ y.claims.length - 1)) (by omega) _) rfl ⟨_, rfl, rfl⟩ (fun v14 D14 hD14 hp14 => ?_)
                        have hbn := hp14
                        refine L.move rfl rfl rfl ⟨_, rfl, rfl⟩ ?_
                        refine L.callV rfl rfl rfl (fun D15 hD15 => Shorter_ok _ _ (bitsL (tn &&& (2 ^ y.claims.length - 1))) (bitsL b0) _ (hbn.up RI.up (hD15 _ (by simp))) (hlv.up RI.up (hD15 _ (by simp)))) rfl ⟨_, rfl, rfl⟩ ?_
                        refine L.not rfl rfl rfl ⟨_, rfl, rfl⟩ ?_
                        refine L.pickT rfl rfl rfl rfl ⟨_, rfl, rfl⟩ ?_
                        exact L.nil fun a w hh => (hh.cutK 5 rfl).ds (fun _ h => List.Mem.tail _ (h))
                      · refine L.pass rfl rfl rfl ⟨_, _, rfl, rfl, rfl⟩ ?_
                        refine L.pass rfl rfl rfl ⟨_, _, rfl, rfl, rfl⟩ ?_
                        refine L.pass rfl rfl rfl ⟨_, _, rfl, rfl, rfl⟩ ?_
                        refine L.pass rfl rfl rfl ⟨_, _, rfl, rfl, rfl⟩ ?_
                        refine L.pass rfl rfl rfl ⟨_, _, rfl, rfl, rfl⟩ ?_
                        refine L.pickF rfl rfl rfl rfl ⟨_, rfl, rfl⟩ ?_
                        exact L.nil fun a w hh => hh.cutK 5 rfl
                      refine L.pickF rfl rfl rfl rfl ⟨_, rfl, rfl⟩ ?_
                      exact L.nil fun a w hh => hh.cutK 4 rfl
                    · refine L.pass rfl rfl rfl ⟨_, _, rfl, rfl, rfl⟩ ?_
                      refine L.pass rfl rfl rfl ⟨_, _, rfl, rfl, rfl⟩ ?_
                      refine L.pass rfl rfl rfl ⟨_, _, rfl, rfl, rfl⟩ ?_
                      refine L.pass rfl rfl rfl ⟨_, _, rfl, rfl, rfl⟩ ?_
                      refine L.pass rfl rfl rfl ⟨_, _, rfl, rfl, rfl⟩ ?_
                      refine L.pass rfl rfl rfl ⟨_, _, rfl, rfl, rfl⟩ ?_
                      refine L.pass rfl rfl rfl ⟨_, _, rfl, rfl, rfl⟩ ?_
                      refine L.pass rfl rfl rfl ⟨_, _, rfl, rfl, rfl⟩ ?_
                      refine L.pass rfl rfl rfl ⟨_, _, rfl, rfl, rfl⟩ ?_
                      refine L.pickT rfl rfl rfl rfl ⟨_, rfl, rfl⟩ ?_
                      exact L.nil fun a w hh => hh.cutK 9 rfl
                    refine L.pickT rfl rfl rfl rfl trivial ?_
                    exact L.nil fun a w hh => hh.cutK 4 rfl
                  · refine L.pass rfl rfl rfl ⟨_, _, rfl, rfl, rfl⟩ ?_
                    refine L.pass rfl rfl rfl ⟨_, _, rfl, rfl, rfl⟩ ?_
                    refine L.pass rfl rfl rfl ⟨_, _, rfl, rfl, rfl⟩ ?_
                    refine L.pass rfl rfl rfl ⟨_, _, rfl, rfl, rfl⟩ ?_
                    refine L.pass rfl rfl rfl ⟨_, _, rfl, rfl, rfl⟩ ?_
                    refine L.pass rfl rfl rfl ⟨_, _, rfl, rfl, rfl⟩ ?_
                    refine L.pass rfl rfl rfl ⟨_, _, rfl, rfl, rfl⟩ ?_
                    refine L.pass rfl rfl rfl ⟨_, _, rfl, rfl, rfl⟩ ?_
                    refine L.pass rfl rfl rfl ⟨_, _, rfl, rfl, rfl⟩ ?_
                    refine L.pass rfl rfl rfl ⟨_, _, rfl, rfl, rfl⟩ ?_
                    refine L.pass rfl rfl rfl ⟨_, _, rfl, rfl, rfl⟩ ?_
                    refine L.pass rfl rfl rfl ⟨_, _, rfl, rfl, rfl⟩ ?_
                    refine L.pass rfl rfl rfl ⟨_, _, rfl, rfl, rfl⟩ ?_
                    refine L.pickF rfl rfl rfl rfl trivial ?_
                    exact L.nil fun a w hh => hh.cutK 13 rfl
                  refine L.move rfl rfl rfl trivial ?_
                  refine' L.and [(false,18),(false,19)] [(false,20)] (s := 115) (p := 117) rfl rfl (fun hg7 => ?_) (fun hg7 => ?_) ?_
                  rotate_left
                  · refine L.callV rfl rfl rfl (fun D16 hD16 => awake_ok _) rfl ⟨_, rfl, rfl⟩ ?_
                    refine L.pickT rfl rfl rfl rfl trivial ?_
                    exact L.nil fun a w hh => hh.cutK 1 rfl
                  · refine L.pass rfl rfl rfl ⟨_, _, rfl, rfl, rfl⟩ ?_
                    refine L.pickF rfl rfl rfl rfl trivial ?_
                    exact L.nil fun a w hh => hh.cutK 1 rfl
                  refine L.assign rfl rfl rfl trivial ?_
                  refine L.nil ?_
                  refine C.next ?_
                  refine C.ret ?_
                  exact leave (vs := [_]) rfl rfl rfl ⟨rfl, trivial⟩ (fun D hD => congrArg Value.bool (mlf_ok hf0 hb0 hpos hmin hand))
                · refine L.alloc rfl Tf.z61 rfl rfl trivial (fun q3 => ?_)
                  refine L.nil ?_
                  refine L.planFin [(true,7),(false,8),(false,9),(true,10)] rfl ?_
                  refine L.callV rfl rfl rfl (fun D13 hD13 => Bounds_ok _ (someY y (dif (2 ^ y.claims.length - 1) (tn &&& (2 ^ y.claims.length - 1)))) _ (hw.up (hD13 _ (by simp)))) rfl trivial ?_
                  refine L.move rfl rfl rfl trivial ?_
                  refine L.extract rfl rfl rfl rfl trivial ?_
                  refine L.extract rfl rfl rfl rfl trivial ?_
                  refine L.nil ?_
                  refine S.fin [(true,12),(false,13)] rfl ?_
                  refine L.apart hB1 (by simp) (fun hap => ?_)
                  refine L.storeB rfl rfl rfl rfl Tf.s61 (Has.head) (by simp) rfl (by simp [cell1]) (Or.inr (But.in_ (by rw [List.mem_singleton]; rintro rfl; exact hap (List.mem_map.2 ⟨_, (List.Mem.head _), rfl⟩)))) trivial ?_
                  refine L.assign rfl rfl rfl trivial ?_
                  refine L.nil ?_
                  refine S.nil ?_
                  refine C.next ?_
                  refine C.seq ?_
                  refine C.region [(false,0),(false,1),(false,2),(false,3),(false,4),(false,5),(false,6),(false,7),(false,8),(false,9),(false,10),(false,11),(false,12),(false,13),(false,14),(false,15),(false,16),(false,17),(false,18),(false,19),(false,20)] rfl ?_
                  refine L.move rfl rfl rfl trivial ?_
                  refine L.eql rfl rfl rfl rfl trivial ?_
                  refine L.move rfl rfl rfl trivial ?_
                  refine' L.and [(false,3),(false,4),(false,5),(false,6),(false,7),(false,8),(false,9),(false,10),(false,11),(false,12),(false,13),(false,14),(false,15),(false,16)] [(false,17),(false,18),(false,19),(false,20)] (s := 100) (p := 114) rfl rfl (fun hg4 => ?_) (fun hg4 => ?_) ?_
                  rotate_left
                  · refine L.move rfl rfl rfl ⟨_, rfl, rfl⟩ ?_
                    refine L.eql rfl rfl rfl rfl ⟨_, rfl, rfl⟩ ?_
                    refine L.move rfl rfl rfl ⟨_, rfl, rfl⟩ ?_
                    refine' L.or [(false,6),(false,7),(false,8),(false,9),(false,10),(false,11),(false,12),(false,13),(false,14),(false,15)] [(false,16)] (s := 103) (p := 113) rfl rfl (fun hg5 => ?_) (fun hg5 => ?_) ?_
                    rotate_left
                    · refine L.move rfl rfl rfl ⟨_, rfl, rfl⟩ ?_
                      refine L.eql rfl rfl rfl rfl ⟨_, rfl, rfl⟩ ?_
                      refine L.move rfl rfl rfl ⟨_, rfl, rfl⟩ ?_
                      refine' L.and [(false,9),(false,10),(false,11),(false,12),(false,13),(false,14)] [(false,15)] (s := 106) (p := 112) rfl rfl (fun hg6 => ?_) (fun hg6 => ?_) ?_
                      rotate_left
                      · refine L.move rfl rfl rfl ⟨_, rfl, rfl⟩ ?_
                        refine L.call rfl rfl rfl (fun D14 hD14 => BitsR_ok (tn &&& (2 ^ y.claims.length - 1)) (by omega) _) rfl ⟨_, rfl, rfl⟩ (fun v14 D14 hD14 hp14 => ?_)
                        have hbn := hp14
                        refine L.move rfl rfl rfl ⟨_, rfl, rfl⟩ ?_
                        refine L.callV rfl rfl rfl (fun D15 hD15 => Shorter_ok _ _ (bitsL (tn &&& (2 ^ y.claims.length - 1))) (bitsL b0) _ (hbn.up RI.up (hD15 _ (by simp))) (hlv.up RI.up (hD15 _ (by simp)))) rfl ⟨_, rfl, rfl⟩ ?_
                        refine L.not rfl rfl rfl ⟨_, rfl, rfl⟩ ?_
                        refine L.pickT rfl rfl rfl rfl ⟨_, rfl, rfl⟩ ?_
                        exact L.nil fun a w hh => (hh.cutK 5 rfl).ds (fun _ h => List.Mem.tail _ (h))
                      · refine L.pass rfl rfl rfl ⟨_, _, rfl, rfl, rfl⟩ ?_
                        refine L.pass rfl rfl rfl ⟨_, _, rfl, rfl, rfl⟩ ?_
                        refine L.pass rfl rfl rfl ⟨_, _, rfl, rfl, rfl⟩ ?_
                        refine L.pass rfl rfl rfl ⟨_, _, rfl, rfl, rfl⟩ ?_
                        refine L.pass rfl rfl rfl ⟨_, _, rfl, rfl, rfl⟩ ?_
                        refine L.pickF rfl rfl rfl rfl ⟨_, rfl, rfl⟩ ?_
                        exact L.nil fun a w hh => hh.cutK 5 rfl
                      refine L.pickF rfl rfl rfl rfl ⟨_, rfl, rfl⟩ ?_
                      exact L.nil fun a w hh => hh.cutK 4 rfl
                    · refine L.pass rfl rfl rfl ⟨_, _, rfl, rfl, rfl⟩ ?_
                      refine L.pass rfl rfl rfl ⟨_, _, rfl, rfl, rfl⟩ ?_
                      refine L.pass rfl rfl rfl ⟨_, _, rfl, rfl, rfl⟩ ?_
                      refine L.pass rfl rfl rfl ⟨_, _, rfl, rfl, rfl⟩ ?_
                      refine L.pass rfl rfl rfl ⟨_, _, rfl, rfl, rfl⟩ ?_
                      refine L.pass rfl rfl rfl ⟨_, _, rfl, rfl, rfl⟩ ?_
                      refine L.pass rfl rfl rfl ⟨_, _, rfl, rfl, rfl⟩ ?_
                      refine L.pass rfl rfl rfl ⟨_, _, rfl, rfl, rfl⟩ ?_
                      refine L.pass rfl rfl rfl ⟨_, _, rfl, rfl, rfl⟩ ?_
                      refine L.pickT rfl rfl rfl rfl ⟨_, rfl, rfl⟩ ?_
                      exact L.nil fun a w hh => hh.cutK 9 rfl
                    refine L.pickT rfl rfl rfl rfl trivial ?_
                    exact L.nil fun a w hh => hh.cutK 4 rfl
                  · refine L.pass rfl rfl rfl ⟨_, _, rfl, rfl, rfl⟩ ?_
                    refine L.pass rfl rfl rfl ⟨_, _, rfl, rfl, rfl⟩ ?_
                    refine L.pass rfl rfl rfl ⟨_, _, rfl, rfl, rfl⟩ ?_
                    refine L.pass rfl rfl rfl ⟨_, _, rfl, rfl, rfl⟩ ?_
                    refine L.pass rfl rfl rfl ⟨_, _, rfl, rfl, rfl⟩ ?_
                    refine L.pass rfl rfl rfl ⟨_, _, rfl, rfl, rfl⟩ ?_
                    refine L.pass rfl rfl rfl ⟨_, _, rfl, rfl, rfl⟩ ?_
                    refine L.pass rfl rfl rfl ⟨_, _, rfl, rfl, rfl⟩ ?_
                    refine L.pass rfl rfl rfl ⟨_, _, rfl, rfl, rfl⟩ ?_
                    refine L.pass rfl rfl rfl ⟨_, _, rfl, rfl, rfl⟩ ?_
                    refine L.pass rfl rfl rfl ⟨_, _, rfl, rfl, rfl⟩ ?_
                    refine L.pass rfl rfl rfl ⟨_, _, rfl, rfl, rfl⟩ ?_
                    refine L.pass rfl rfl rfl ⟨_, _, rfl, rfl, rfl⟩ ?_
                    refine L.pickF rfl rfl rfl rfl trivial ?_
                    exact L.nil fun a w hh => hh.cutK 13 rfl
                  refine L.move rfl rfl rfl trivial ?_
                  refine' L.and [(false,18),(false,19)] [(false,20)] (s := 115) (p := 117) rfl rfl (fun hg7 => ?_) (fun hg7 => ?_) ?_
                  rotate_left
                  · refine L.callV rfl rfl rfl (fun D16 hD16 => awake_ok _) rfl ⟨_, rfl, rfl⟩ ?_
                    refine L.pickT rfl rfl rfl rfl trivial ?_
                    exact L.nil fun a w hh => hh.cutK 1 rfl
                  · refine L.pass rfl rfl rfl ⟨_, _, rfl, rfl, rfl⟩ ?_
                    refine L.pickF rfl rfl rfl rfl trivial ?_
                    exact L.nil fun a w hh => hh.cutK 1 rfl
                  refine L.assign rfl rfl rfl trivial ?_
                  refine L.nil ?_
                  refine C.next ?_
                  refine C.ret ?_
                  exact leave (vs := [_]) rfl rfl rfl ⟨rfl, trivial⟩ (fun D hD => congrArg Value.bool (mlf_ok hf0 hb0 hpos hmin hand))
              · refine L.alloc rfl Tf.z61 rfl rfl trivial (fun q3 => ?_)
                refine L.nil ?_
                refine L.planFin [(true,6),(true,7),(false,8),(false,9),(true,10)] rfl ?_
                refine L.call rfl rfl rfl (fun D12 hD12 => YardL_ok _ (someY y (dif (2 ^ y.claims.length - 1) (tn &&& (2 ^ y.claims.length - 1)))) _ (hs2.up (hD12 _ (by simp))) (by simp only [someY]; omega) (by have := someK_len y.claims (dif (2 ^ y.claims.length - 1) (tn &&& (2 ^ y.claims.length - 1))) y.claims.length; simp only [someY]; omega)) rfl trivial (fun v12 D12 hD12 hp12 => ?_)
                have hw := hp12
                refine L.callV rfl rfl rfl (fun D13 hD13 => Bounds_ok _ (someY y (dif (2 ^ y.claims.length - 1) (tn &&& (2 ^ y.claims.length - 1)))) _ (hw.up (hD13 _ (by simp)))) rfl trivial ?_
                refine L.move rfl rfl rfl trivial ?_
                refine L.extract rfl rfl rfl rfl trivial ?_
                refine L.extract rfl rfl rfl rfl trivial ?_
                refine L.nil ?_
                refine S.fin [(true,12),(false,13)] rfl ?_
                refine L.apart hB1 (by simp) (fun hap => ?_)
                refine L.storeB rfl rfl rfl rfl Tf.s61 (Has.head) (by simp) rfl (by simp [cell1]) (Or.inr (But.in_ (by rw [List.mem_singleton]; rintro rfl; exact hap (List.mem_map.2 ⟨_, (List.Mem.head _), rfl⟩)))) trivial ?_
                refine L.assign rfl rfl rfl trivial ?_
                refine L.nil ?_
                refine S.nil ?_
                refine C.next ?_
                refine C.seq ?_
                refine C.region [(false,0),(false,1),(false,2),(false,3),(false,4),(false,5),(false,6),(false,7),(false,8),(false,9),(false,10),(false,11),(false,12),(false,13),(false,14),(false,15),(false,16),(false,17),(false,18),(false,19),(false,20)] rfl ?_
                refine L.move rfl rfl rfl trivial ?_
                refine L.eql rfl rfl rfl rfl trivial ?_
                refine L.move rfl rfl rfl trivial ?_
                refine' L.and [(false,3),(false,4),(false,5),(false,6),(false,7),(false,8),(false,9),(false,10),(false,11),(false,12),(false,13),(false,14),(false,15),(false,16)] [(false,17),(false,18),(false,19),(false,20)] (s := 100) (p := 114) rfl rfl (fun hg4 => ?_) (fun hg4 => ?_) ?_
                rotate_left
                · refine L.move rfl rfl rfl ⟨_, rfl, rfl⟩ ?_
                  refine L.eql rfl rfl rfl rfl ⟨_, rfl, rfl⟩ ?_
                  refine L.move rfl rfl rfl ⟨_, rfl, rfl⟩ ?_
                  refine' L.or [(false,6),(false,7),(false,8),(false,9),(false,10),(false,11),(false,12),(false,13),(false,14),(false,15)] [(false,16)] (s := 103) (p := 113) rfl rfl (fun hg5 => ?_) (fun hg5 => ?_) ?_
                  rotate_left
                  · refine L.move rfl rfl rfl ⟨_, rfl, rfl⟩ ?_
                    refine L.eql rfl rfl rfl rfl ⟨_, rfl, rfl⟩ ?_
                    refine L.move rfl rfl rfl ⟨_, rfl, rfl⟩ ?_
                    refine' L.and [(false,9),(false,10),(false,11),(false,12),(false,13),(false,14)] [(false,15)] (s := 106) (p := 112) rfl rfl (fun hg6 => ?_) (fun hg6 => ?_) ?_
                    rotate_left
                    · refine L.move rfl rfl rfl ⟨_, rfl, rfl⟩ ?_
                      refine L.call rfl rfl rfl (fun D14 hD14 => BitsR_ok (tn &&& (2 ^ y.claims.length - 1)) (by omega) _) rfl ⟨_, rfl, rfl⟩ (fun v14 D14 hD14 hp14 => ?_)
                      have hbn := hp14
                      refine L.move rfl rfl rfl ⟨_, rfl, rfl⟩ ?_
                      refine L.callV rfl rfl rfl (fun D15 hD15 => Shorter_ok _ _ (bitsL (tn &&& (2 ^ y.claims.length - 1))) (bitsL b0) _ (hbn.up RI.up (hD15 _ (by simp))) (hlv.up RI.up (hD15 _ (by simp)))) rfl ⟨_, rfl, rfl⟩ ?_
                      refine L.not rfl rfl rfl ⟨_, rfl, rfl⟩ ?_
                      refine L.pickT rfl rfl rfl rfl ⟨_, rfl, rfl⟩ ?_
                      exact L.nil fun a w hh => (hh.cutK 5 rfl).ds (fun _ h => List.Mem.tail _ (h))
                    · refine L.pass rfl rfl rfl ⟨_, _, rfl, rfl, rfl⟩ ?_
                      refine L.pass rfl rfl rfl ⟨_, _, rfl, rfl, rfl⟩ ?_
                      refine L.pass rfl rfl rfl ⟨_, _, rfl, rfl, rfl⟩ ?_
                      refine L.pass rfl rfl rfl ⟨_, _, rfl, rfl, rfl⟩ ?_
                      refine L.pass rfl rfl rfl ⟨_, _, rfl, rfl, rfl⟩ ?_
                      refine L.pickF rfl rfl rfl rfl ⟨_, rfl, rfl⟩ ?_
                      exact L.nil fun a w hh => hh.cutK 5 rfl
                    refine L.pickF rfl rfl rfl rfl ⟨_, rfl, rfl⟩ ?_
                    exact L.nil fun a w hh => hh.cutK 4 rfl
                  · refine L.pass rfl rfl rfl ⟨_, _, rfl, rfl, rfl⟩ ?_
                    refine L.pass rfl rfl rfl ⟨_, _, rfl, rfl, rfl⟩ ?_
                    refine L.pass rfl rfl rfl ⟨_, _, rfl, rfl, rfl⟩ ?_
                    refine L.pass rfl rfl rfl ⟨_, _, rfl, rfl, rfl⟩ ?_
                    refine L.pass rfl rfl rfl ⟨_, _, rfl, rfl, rfl⟩ ?_
                    refine L.pass rfl rfl rfl ⟨_, _, rfl, rfl, rfl⟩ ?_
                    refine L.pass rfl rfl rfl ⟨_, _, rfl, rfl, rfl⟩ ?_
                    refine L.pass rfl rfl rfl ⟨_, _, rfl, rfl, rfl⟩ ?_
                    refine L.pass rfl rfl rfl ⟨_, _, rfl, rfl, rfl⟩ ?_
                    refine L.pickT rfl rfl rfl rfl ⟨_, rfl, rfl⟩ ?_
                    exact L.nil fun a w hh => hh.cutK 9 rfl
                  refine L.pickT rfl rfl rfl rfl trivial ?_
                  exact L.nil fun a w hh => hh.cutK 4 rfl
                · refine L.pass rfl rfl rfl ⟨_, _, rfl, rfl, rfl⟩ ?_
                  refine L.pass rfl rfl rfl ⟨_, _, rfl, rfl, rfl⟩ ?_
                  refine L.pass rfl rfl rfl ⟨_, _, rfl, rfl, rfl⟩ ?_
                  refine L.pass rfl rfl rfl ⟨_, _, rfl, rfl, rfl⟩ ?_
                  refine L.pass rfl rfl rfl ⟨_, _, rfl, rfl, rfl⟩ ?_
                  refine L.pass rfl rfl rfl ⟨_, _, rfl, rfl, rfl⟩ ?_
                  refine L.pass rfl rfl rfl ⟨_, _, rfl, rfl, rfl⟩ ?_
                  refine L.pass rfl rfl rfl ⟨_, _, rfl, rfl, rfl⟩ ?_
                  refine L.pass rfl rfl rfl ⟨_, _, rfl, rfl, rfl⟩ ?_
                  refine L.pass rfl rfl rfl ⟨_, _, rfl, rfl, rfl⟩ ?_
                  refine L.pass rfl rfl rfl ⟨_, _, rfl, rfl, rfl⟩ ?_
                  refine L.pass rfl rfl rfl ⟨_, _, rfl, rfl, rfl⟩ ?_
                  refine L.pass rfl rfl rfl ⟨_, _, rfl, rfl, rfl⟩ ?_
                  refine L.pickF rfl rfl rfl rfl trivial ?_
                  exact L.nil fun a w hh => hh.cutK 13 rfl
                refine L.move rfl rfl rfl trivial ?_
                refine' L.and [(false,18),(false,19)] [(false,20)] (s := 115) (p := 117) rfl rfl (fun hg7 => ?_) (fun hg7 => ?_) ?_
                rotate_left
                · refine L.callV rfl rfl rfl (fun D16 hD16 => awake_ok _) rfl ⟨_, rfl, rfl⟩ ?_
                  refine L.pickT rfl rfl rfl rfl trivial ?_
                  exact L.nil fun a w hh => hh.cutK 1 rfl
                · refine L.pass rfl rfl rfl ⟨_, _, rfl, rfl, rfl⟩ ?_
                  refine L.pickF rfl rfl rfl rfl trivial ?_
                  exact L.nil fun a w hh => hh.cutK 1 rfl
                refine L.assign rfl rfl rfl trivial ?_
                refine L.nil ?_
                refine C.next ?_
                refine C.ret ?_
                exact leave (vs := [_]) rfl rfl rfl ⟨rfl, trivial⟩ (fun D hD => congrArg Value.bool (mlf_ok hf0 hb0 hpos hmin hand))
            · refine L.alloc rfl Tf.z61 rfl rfl trivial (fun q3 => ?_)
              refine L.nil ?_
              refine L.planFin [(true,5),(true,6),(true,7),(false,8),(false,9),(true,10)] rfl ?_
              refine L.call rfl rfl rfl (fun D11 hD11 => some_ok _ y (dif (2 ^ y.claims.length - 1) (tn &&& (2 ^ y.claims.length - 1))) _ _ rfl (hy0.up (hD11 _ (by simp))) (by have := dif_le (2 ^ y.claims.length - 1) (tn &&& (2 ^ y.claims.length - 1)); omega) (by omega)) rfl trivial (fun v11 D11 hD11 hp11 => ?_)
              have hs2 := hp11
              refine L.call rfl rfl rfl (fun D12 hD12 => YardL_ok _ (someY y (dif (2 ^ y.claims.length - 1) (tn &&& (2 ^ y.claims.length - 1)))) _ (hs2.up (hD12 _ (by simp))) (by simp only [someY]; omega) (by have := someK_len y.claims (dif (2 ^ y.claims.length - 1) (tn &&& (2 ^ y.claims.length - 1))) y.claims.length; simp only [someY]; omega)) rfl trivial (fun v12 D12 hD12 hp12 => ?_)
              have hw := hp12
              refine L.callV rfl rfl rfl (fun D13 hD13 => Bounds_ok _ (someY y (dif (2 ^ y.claims.length - 1) (tn &&& (2 ^ y.claims.length - 1)))) _ (hw.up (hD13 _ (by simp)))) rfl trivial ?_
              refine L.move rfl rfl rfl trivial ?_
              refine L.extract rfl rfl rfl rfl trivial ?_
              refine L.extract rfl rfl rfl rfl trivial ?_
              refine L.nil ?_
              refine S.fin [(true,12),(false,13)] rfl ?_
              refine L.apart hB1 (by simp) (fun hap => ?_)
              refine L.storeB rfl rfl rfl rfl Tf.s61 (Has.head) (by simp) rfl (by simp [cell1]) (Or.inr (But.in_ (by rw [List.mem_singleton]; rintro rfl; exact hap (List.mem_map.2 ⟨_, (List.Mem.head _), rfl⟩)))) trivial ?_
              refine L.assign rfl rfl rfl trivial ?_
              refine L.nil ?_
              refine S.nil ?_
              refine C.next ?_
              refine C.seq ?_
              refine C.region [(false,0),(false,1),(false,2),(false,3),(false,4),(false,5),(false,6),(false,7),(false,8),(false,9),(false,10),(false,11),(false,12),(false,13),(false,14),(false,15),(false,16),(false,17),(false,18),(false,19),(false,20)] rfl ?_
              refine L.move rfl rfl rfl trivial ?_
              refine L.eql rfl rfl rfl rfl trivial ?_
              refine L.move rfl rfl rfl trivial ?_
              refine' L.and [(false,3),(false,4),(false,5),(false,6),(false,7),(false,8),(false,9),(false,10),(false,11),(false,12),(false,13),(false,14),(false,15),(false,16)] [(false,17),(false,18),(false,19),(false,20)] (s := 100) (p := 114) rfl rfl (fun hg4 => ?_) (fun hg4 => ?_) ?_
              rotate_left
              · refine L.move rfl rfl rfl ⟨_, rfl, rfl⟩ ?_
                refine L.eql rfl rfl rfl rfl ⟨_, rfl, rfl⟩ ?_
                refine L.move rfl rfl rfl ⟨_, rfl, rfl⟩ ?_
                refine' L.or [(false,6),(false,7),(false,8),(false,9),(false,10),(false,11),(false,12),(false,13),(false,14),(false,15)] [(false,16)] (s := 103) (p := 113) rfl rfl (fun hg5 => ?_) (fun hg5 => ?_) ?_
                rotate_left
                · refine L.move rfl rfl rfl ⟨_, rfl, rfl⟩ ?_
                  refine L.eql rfl rfl rfl rfl ⟨_, rfl, rfl⟩ ?_
                  refine L.move rfl rfl rfl ⟨_, rfl, rfl⟩ ?_
                  refine' L.and [(false,9),(false,10),(false,11),(false,12),(false,13),(false,14)] [(false,15)] (s := 106) (p := 112) rfl rfl (fun hg6 => ?_) (fun hg6 => ?_) ?_
                  rotate_left
                  · refine L.move rfl rfl rfl ⟨_, rfl, rfl⟩ ?_
                    refine L.call rfl rfl rfl (fun D14 hD14 => BitsR_ok (tn &&& (2 ^ y.claims.length - 1)) (by omega) _) rfl ⟨_, rfl, rfl⟩ (fun v14 D14 hD14 hp14 => ?_)
                    have hbn := hp14
                    refine L.move rfl rfl rfl ⟨_, rfl, rfl⟩ ?_
                    refine L.callV rfl rfl rfl (fun D15 hD15 => Shorter_ok _ _ (bitsL (tn &&& (2 ^ y.claims.length - 1))) (bitsL b0) _ (hbn.up RI.up (hD15 _ (by simp))) (hlv.up RI.up (hD15 _ (by simp)))) rfl ⟨_, rfl, rfl⟩ ?_
                    refine L.not rfl rfl rfl ⟨_, rfl, rfl⟩ ?_
                    refine L.pickT rfl rfl rfl rfl ⟨_, rfl, rfl⟩ ?_
                    exact L.nil fun a w hh => (hh.cutK 5 rfl).ds (fun _ h => List.Mem.tail _ (h))
                  · refine L.pass rfl rfl rfl ⟨_, _, rfl, rfl, rfl⟩ ?_
                    refine L.pass rfl rfl rfl ⟨_, _, rfl, rfl, rfl⟩ ?_
                    refine L.pass rfl rfl rfl ⟨_, _, rfl, rfl, rfl⟩ ?_
                    refine L.pass rfl rfl rfl ⟨_, _, rfl, rfl, rfl⟩ ?_
                    refine L.pass rfl rfl rfl ⟨_, _, rfl, rfl, rfl⟩ ?_
                    refine L.pickF rfl rfl rfl rfl ⟨_, rfl, rfl⟩ ?_
                    exact L.nil fun a w hh => hh.cutK 5 rfl
                  refine L.pickF rfl rfl rfl rfl ⟨_, rfl, rfl⟩ ?_
                  exact L.nil fun a w hh => hh.cutK 4 rfl
                · refine L.pass rfl rfl rfl ⟨_, _, rfl, rfl, rfl⟩ ?_
                  refine L.pass rfl rfl rfl ⟨_, _, rfl, rfl, rfl⟩ ?_
                  refine L.pass rfl rfl rfl ⟨_, _, rfl, rfl, rfl⟩ ?_
                  refine L.pass rfl rfl rfl ⟨_, _, rfl, rfl, rfl⟩ ?_
                  refine L.pass rfl rfl rfl ⟨_, _, rfl, rfl, rfl⟩ ?_
                  refine L.pass rfl rfl rfl ⟨_, _, rfl, rfl, rfl⟩ ?_
                  refine L.pass rfl rfl rfl ⟨_, _, rfl, rfl, rfl⟩ ?_
                  refine L.pass rfl rfl rfl ⟨_, _, rfl, rfl, rfl⟩ ?_
                  refine L.pass rfl rfl rfl ⟨_, _, rfl, rfl, rfl⟩ ?_
                  refine L.pickT rfl rfl rfl rfl ⟨_, rfl, rfl⟩ ?_
                  exact L.nil fun a w hh => hh.cutK 9 rfl
                refine L.pickT rfl rfl rfl rfl trivial ?_
                exact L.nil fun a w hh => hh.cutK 4 rfl
              · refine L.pass rfl rfl rfl ⟨_, _, rfl, rfl, rfl⟩ ?_
                refine L.pass rfl rfl rfl ⟨_, _, rfl, rfl, rfl⟩ ?_
                refine L.pass rfl rfl rfl ⟨_, _, rfl, rfl, rfl⟩ ?_
                refine L.pass rfl rfl rfl ⟨_, _, rfl, rfl, rfl⟩ ?_
                refine L.pass rfl rfl rfl ⟨_, _, rfl, rfl, rfl⟩ ?_
                refine L.pass rfl rfl rfl ⟨_, _, rfl, rfl, rfl⟩ ?_
                refine L.pass rfl rfl rfl ⟨_, _, rfl, rfl, rfl⟩ ?_
                refine L.pass rfl rfl rfl ⟨_, _, rfl, rfl, rfl⟩ ?_
                refine L.pass rfl rfl rfl ⟨_, _, rfl, rfl, rfl⟩ ?_
                refine L.pass rfl rfl rfl ⟨_, _, rfl, rfl, rfl⟩ ?_
                refine L.pass rfl rfl rfl ⟨_, _, rfl, rfl, rfl⟩ ?_
                refine L.pass rfl rfl rfl ⟨_, _, rfl, rfl, rfl⟩ ?_
                refine L.pass rfl rfl rfl ⟨_, _, rfl, rfl, rfl⟩ ?_
                refine L.pickF rfl rfl rfl rfl trivial ?_
                exact L.nil fun a w hh => hh.cutK 13 rfl
              refine L.move rfl rfl rfl trivial ?_
              refine' L.and [(false,18),(false,19)] [(false,20)] (s := 115) (p := 117) rfl rfl (fun hg7 => ?_) (fun hg7 => ?_) ?_
              rotate_left
              · refine L.callV rfl rfl rfl (fun D16 hD16 => awake_ok _) rfl ⟨_, rfl, rfl⟩ ?_
                refine L.pickT rfl rfl rfl rfl trivial ?_
                exact L.nil fun a w hh => hh.cutK 1 rfl
              · refine L.pass rfl rfl rfl ⟨_, _, rfl, rfl, rfl⟩ ?_
                refine L.pickF rfl rfl rfl rfl trivial ?_
                exact L.nil fun a w hh => hh.cutK 1 rfl
              refine L.assign rfl rfl rfl trivial ?_
              refine L.nil ?_
              refine C.next ?_
              refine C.ret ?_
              exact leave (vs := [_]) rfl rfl rfl ⟨rfl, trivial⟩ (fun D hD => congrArg Value.bool (mlf_ok hf0 hb0 hpos hmin hand))
          · refine L.alloc rfl Tf.z61 rfl rfl trivial (fun q3 => ?_)
            refine L.nil ?_
            refine L.planFin [(true,2),(true,4),(true,5),(true,6),(true,7),(false,8),(false,9),(true,10)] rfl ?_
            refine L.callV rfl rfl rfl (fun D10 hD10 => Full_ok _ y _ (hy0.up (hD10 _ (by simp))) (by omega)) rfl trivial ?_
            refine L.difN (m := 2 ^ y.claims.length - 1) (n := (tn &&& (2 ^ y.claims.length - 1))) rfl (by show some (Value.int _ _) = some (Value.int _ _); congr 2; omega) rfl (by omega) (by omega) rfl trivial ?_
            refine L.call rfl rfl rfl (fun D11 hD11 => some_ok _ y (dif (2 ^ y.claims.length - 1) (tn &&& (2 ^ y.claims.length - 1))) _ _ rfl (hy0.up (hD11 _ (by simp))) (by have := dif_le (2 ^ y.claims.length - 1) (tn &&& (2 ^ y.claims.length - 1)); omega) (by omega)) rfl trivial (fun v11 D11 hD11 hp11 => ?_)
            have hs2 := hp11
            refine L.call rfl rfl rfl (fun D12 hD12 => YardL_ok _ (someY y (dif (2 ^ y.claims.length - 1) (tn &&& (2 ^ y.claims.length - 1)))) _ (hs2.up (hD12 _ (by simp))) (by simp only [someY]; omega) (by have := someK_len y.claims (dif (2 ^ y.claims.length - 1) (tn &&& (2 ^ y.claims.length - 1))) y.claims.length; simp only [someY]; omega)) rfl trivial (fun v12 D12 hD12 hp12 => ?_)
            have hw := hp12
            refine L.callV rfl rfl rfl (fun D13 hD13 => Bounds_ok _ (someY y (dif (2 ^ y.claims.length - 1) (tn &&& (2 ^ y.claims.length - 1)))) _ (hw.up (hD13 _ (by simp)))) rfl trivial ?_
            refine L.move rfl rfl rfl trivial ?_
            refine L.extract rfl rfl rfl rfl trivial ?_
            refine L.extract rfl rfl rfl rfl trivial ?_
            refine L.nil ?_
            refine S.fin [(true,12),(false,13)] rfl ?_
            refine L.apart hB1 (by simp) (fun hap => ?_)
            refine L.storeB rfl rfl rfl rfl Tf.s61 (Has.head) (by simp) rfl (by simp [cell1]) (Or.inr (But.in_ (by rw [List.mem_singleton]; rintro rfl; exact hap (List.mem_map.2 ⟨_, (List.Mem.head _), rfl⟩)))) trivial ?_
            refine L.assign rfl rfl rfl trivial ?_
            refine L.nil ?_
            refine S.nil ?_
            refine C.next ?_
            refine C.seq ?_
            refine C.region [(false,0),(false,1),(false,2),(false,3),(false,4),(false,5),(false,6),(false,7),(false,8),(false,9),(false,10),(false,11),(false,12),(false,13),(false,14),(false,15),(false,16),(false,17),(false,18),(false,19),(false,20)] rfl ?_
            refine L.move rfl rfl rfl trivial ?_
            refine L.eql rfl rfl rfl rfl trivial ?_
            refine L.move rfl rfl rfl trivial ?_
            refine' L.and [(false,3),(false,4),(false,5),(false,6),(false,7),(false,8),(false,9),(false,10),(false,11),(false,12),(false,13),(false,14),(false,15),(false,16)] [(false,17),(false,18),(false,19),(false,20)] (s := 100) (p := 114) rfl rfl (fun hg4 => ?_) (fun hg4 => ?_) ?_
            rotate_left
            · refine L.move rfl rfl rfl ⟨_, rfl, rfl⟩ ?_
              refine L.eql rfl rfl rfl rfl ⟨_, rfl, rfl⟩ ?_
              refine L.move rfl rfl rfl ⟨_, rfl, rfl⟩ ?_
              refine' L.or [(false,6),(false,7),(false,8),(false,9),(false,10),(false,11),(false,12),(false,13),(false,14),(false,15)] [(false,16)] (s := 103) (p := 113) rfl rfl (fun hg5 => ?_) (fun hg5 => ?_) ?_
              rotate_left
              · refine L.move rfl rfl rfl ⟨_, rfl, rfl⟩ ?_
                refine L.eql rfl rfl rfl rfl ⟨_, rfl, rfl⟩ ?_
                refine L.move rfl rfl rfl ⟨_, rfl, rfl⟩ ?_
                refine' L.and [(false,9),(false,10),(false,11),(false,12),(false,13),(false,14)] [(false,15)] (s := 106) (p := 112) rfl rfl (fun hg6 => ?_) (fun hg6 => ?_) ?_
                rotate_left
                · refine L.move rfl rfl rfl ⟨_, rfl, rfl⟩ ?_
                  refine L.call rfl rfl rfl (fun D14 hD14 => BitsR_ok (tn &&& (2 ^ y.claims.length - 1)) (by omega) _) rfl ⟨_, rfl, rfl⟩ (fun v14 D14 hD14 hp14 => ?_)
                  have hbn := hp14
                  refine L.move rfl rfl rfl ⟨_, rfl, rfl⟩ ?_
                  refine L.callV rfl rfl rfl (fun D15 hD15 => Shorter_ok _ _ (bitsL (tn &&& (2 ^ y.claims.length - 1))) (bitsL b0) _ (hbn.up RI.up (hD15 _ (by simp))) (hlv.up RI.up (hD15 _ (by simp)))) rfl ⟨_, rfl, rfl⟩ ?_
                  refine L.not rfl rfl rfl ⟨_, rfl, rfl⟩ ?_
                  refine L.pickT rfl rfl rfl rfl ⟨_, rfl, rfl⟩ ?_
                  exact L.nil fun a w hh => (hh.cutK 5 rfl).ds (fun _ h => List.Mem.tail _ (h))
                · refine L.pass rfl rfl rfl ⟨_, _, rfl, rfl, rfl⟩ ?_
                  refine L.pass rfl rfl rfl ⟨_, _, rfl, rfl, rfl⟩ ?_
                  refine L.pass rfl rfl rfl ⟨_, _, rfl, rfl, rfl⟩ ?_
                  refine L.pass rfl rfl rfl ⟨_, _, rfl, rfl, rfl⟩ ?_
                  refine L.pass rfl rfl rfl ⟨_, _, rfl, rfl, rfl⟩ ?_
                  refine L.pickF rfl rfl rfl rfl ⟨_, rfl, rfl⟩ ?_
                  exact L.nil fun a w hh => hh.cutK 5 rfl
                refine L.pickF rfl rfl rfl rfl ⟨_, rfl, rfl⟩ ?_
                exact L.nil fun a w hh => hh.cutK 4 rfl
              · refine L.pass rfl rfl rfl ⟨_, _, rfl, rfl, rfl⟩ ?_
                refine L.pass rfl rfl rfl ⟨_, _, rfl, rfl, rfl⟩ ?_
                refine L.pass rfl rfl rfl ⟨_, _, rfl, rfl, rfl⟩ ?_
                refine L.pass rfl rfl rfl ⟨_, _, rfl, rfl, rfl⟩ ?_
                refine L.pass rfl rfl rfl ⟨_, _, rfl, rfl, rfl⟩ ?_
                refine L.pass rfl rfl rfl ⟨_, _, rfl, rfl, rfl⟩ ?_
                refine L.pass rfl rfl rfl ⟨_, _, rfl, rfl, rfl⟩ ?_
                refine L.pass rfl rfl rfl ⟨_, _, rfl, rfl, rfl⟩ ?_
                refine L.pass rfl rfl rfl ⟨_, _, rfl, rfl, rfl⟩ ?_
                refine L.pickT rfl rfl rfl rfl ⟨_, rfl, rfl⟩ ?_
                exact L.nil fun a w hh => hh.cutK 9 rfl
              refine L.pickT rfl rfl rfl rfl trivial ?_
              exact L.nil fun a w hh => hh.cutK 4 rfl
            · refine L.pass rfl rfl rfl ⟨_, _, rfl, rfl, rfl⟩ ?_
              refine L.pass rfl rfl rfl ⟨_, _, rfl, rfl, rfl⟩ ?_
              refine L.pass rfl rfl rfl ⟨_, _, rfl, rfl, rfl⟩ ?_
              refine L.pass rfl rfl rfl ⟨_, _, rfl, rfl, rfl⟩ ?_
              refine L.pass rfl rfl rfl ⟨_, _, rfl, rfl, rfl⟩ ?_
              refine L.pass rfl rfl rfl ⟨_, _, rfl, rfl, rfl⟩ ?_
              refine L.pass rfl rfl rfl ⟨_, _, rfl, rfl, rfl⟩ ?_
              refine L.pass rfl rfl rfl ⟨_, _, rfl, rfl, rfl⟩ ?_
              refine L.pass rfl rfl rfl ⟨_, _, rfl, rfl, rfl⟩ ?_
              refine L.pass rfl rfl rfl ⟨_, _, rfl, rfl, rfl⟩ ?_
              refine L.pass rfl rfl rfl ⟨_, _, rfl, rfl, rfl⟩ ?_
              refine L.pass rfl rfl rfl ⟨_, _, rfl, rfl, rfl⟩ ?_
              refine L.pass rfl rfl rfl ⟨_, _, rfl, rfl, rfl⟩ ?_
              refine L.pickF rfl rfl rfl rfl trivial ?_
              exact L.nil fun a w hh => hh.cutK 13 rfl
            refine L.move rfl rfl rfl trivial ?_
            refine' L.and [(false,18),(false,19)] [(false,20)] (s := 115) (p := 117) rfl rfl (fun hg7 => ?_) (fun hg7 => ?_) ?_
            rotate_left
            · refine L.callV rfl rfl rfl (fun D16 hD16 => awake_ok _) rfl ⟨_, rfl, rfl⟩ ?_
              refine L.pickT rfl rfl rfl rfl trivial ?_
              exact L.nil fun a w hh => hh.cutK 1 rfl
            · refine L.pass rfl rfl rfl ⟨_, _, rfl, rfl, rfl⟩ ?_
              refine L.pickF rfl rfl rfl rfl trivial ?_
              exact L.nil fun a w hh => hh.cutK 1 rfl
            refine L.assign rfl rfl rfl trivial ?_
            refine L.nil ?_
            refine C.next ?_
            refine C.ret ?_
            exact leave (vs := [_]) rfl rfl rfl ⟨rfl, trivial⟩ (fun D hD => congrArg Value.bool (mlf_ok hf0 hb0 hpos hmin hand))
end Go.Fs
