/- Walks: the reference: the smallest set. -/
import Derived.Test.YtjhdcelmgfajbaaW30
namespace Go.Fs
open Go.Proofs
open C7
theorem BitsR_ok2 (m : Nat) (z : Int) (hz : z = (m : Int)) (hm : m < 128) (D : Data) : Fn Try.prog 65 #[.int .i64 z] D (fun D' v => Sl D' RI 1 v (bitsL m)) := by
  subst hz; exact BitsR_ok m hm D
def bestS (y : YardD) (ms : List Int) (best : List Int) (b : Nat) : List Int := if (shortB (bitsL b) best && canB y ms (dif (2 ^ y.claims.length - 1) b)) = true then bitsL b else best
def bestK (y : YardD) (ms : List Int) (k : Nat) : List Int := (List.range k).foldl (bestS y ms) (bitsL (2 ^ y.claims.length - 1))
theorem bestK_succ (y : YardD) (ms : List Int) (k : Nat) : bestK y ms (k + 1) = bestS y ms (bestK y ms k) k := by
  unfold bestK; rw [List.range_succ, List.foldl_append]; rfl
theorem best_yes {y : YardD} {ms : List Int} {b : Nat} (h : (shortB (bitsL b) (bestK y ms b) && canB y ms (dif (2 ^ y.claims.length - 1) b)) = true) : bestK y ms (b + 1) = bitsL b := by
  rw [bestK_succ, bestS, if_pos h]
theorem best_no {y : YardD} {ms : List Int} {b : Nat} (h : (shortB (bitsL b) (bestK y ms b) && canB y ms (dif (2 ^ y.claims.length - 1) b)) = false) : bestK y ms (b + 1) = bestK y ms b := by
  rw [bestK_succ, bestS, if_neg (by rw [h]; simp)]
def leaveR (y : YardD) (ms : List Int) : List Int := bestK y ms (2 ^ y.claims.length)
theorem LeaveR_ok (yv mv : Value) (y : YardD) (ms : List Int) (D : Data) (hy : YardIs D yv y) (hm : Sl D RI 1 mv ms) (h5 : y.claims.length ≤ 5) : Fn Try.prog 51 #[yv, mv] D (fun D' v => Sl D' RI 1 v (leaveR y ms)) := by
  have hy0 := hy
  obtain ⟨cv, qv, rfl, hc, hq⟩ := hy
  have hp5 : 2 ^ y.claims.length ≤ 2 ^ 5 := Nat.pow_le_pow_right (by omega) h5
  have hp1 : 1 ≤ 2 ^ y.claims.length := Nat.one_le_two_pow
  refine enter 33 Try.func51 rfl rfl rfl rfl fun h0 => ?_
  refine C.seq ?_
  refine C.region [(false,0),(false,1)] rfl ?_
  refine L.boxD rfl rfl rfl rfl trivial (fun q1 E1 hE1 hB1 => ?_)
  refine L.assign rfl rfl rfl trivial ?_
  refine L.nil ?_
  refine C.next ?_
  refine C.seq ?_
  refine C.region [(false,0),(false,1),(false,2),(false,3)] rfl ?_
  refine L.loadDW rfl Tf.a25 rfl hB1 (by first | simp | assumption) Tf.s25 List.not_mem_nil rfl trivial ?_
  refine L.callV rfl rfl rfl (fun D1 hD1 => Full_ok _ y _ (hy0.up (hD1 _ (by simp))) (by omega)) rfl trivial ?_
  refine L.call rfl rfl rfl (fun D2 hD2 => BitsR_ok2 (2 ^ y.claims.length - 1) _ (by omega) (by omega) _) rfl trivial (fun v2 D2 hD2 hp2 => ?_)
  have hs0 := hp2
  refine L.assign rfl rfl rfl trivial ?_
  refine L.nil ?_
  refine C.next ?_
  refine C.seq ?_
  refine C.seq ?_
  refine C.region [(false,0)] rfl ?_
  refine L.assign rfl rfl rfl trivial ?_
  refine L.nil ?_
  refine C.next ?_
  refine C.block ?_
  refine C.loopC (γ := Nat × Value × Data) (fun g => 2 ^ y.claims.length - g.1) (fun g => g.1 ≤ 2 ^ y.claims.length ∧ Sl g.2.2 RI 1 g.2.1 (bestK y ms g.1)) (fun g => [(5, g.2.1), (6, .int .i64 (g.1 : Int))]) [(4, _), (2, _), (1, _)] (fun g => [g.2.2, E1, D]) (0, v2, D2) ⟨by simp, hs0⟩ ⟨(by first | rfl | (show some (Value.int _ _) = some (Value.int _ _); congr 2; omega)), (by first | rfl | (show some (Value.int _ _) = some (Value.int _ _); congr 2; omega)), trivial⟩ ⟨rfl, rfl, rfl, trivial⟩ ((fun D0 h => by simp only [List.mem_cons, List.not_mem_nil, or_false] at h; rcases h with h | h | h; exact ⟨D2, by simp, h ▸ Le.refl _⟩; exact ⟨E1, by simp, h ▸ Le.refl _⟩; exact ⟨D, by simp, h ▸ Le.refl _⟩)) ?_
  rintro ⟨b, v, Dn⟩ ⟨h1, hs⟩
  simp only at h1 hs
  refine C.seq ?_
  refine C.seq ?_
  refine C.region [(false,0),(false,1),(false,2),(false,3)] rfl ?_
  refine L.move rfl rfl rfl trivial ?_
  refine L.loadDW rfl Tf.a25 rfl hB1 (by first | simp | assumption) Tf.s25 List.not_mem_nil rfl trivial ?_
  refine L.callV rfl rfl rfl (fun D3 hD3 => Full_ok _ y _ (hy0.up (hD3 _ (by simp))) (by omega)) rfl trivial ?_
  refine L.leq rfl rfl rfl rfl trivial ?_
  refine L.nil ?_
  refine C.next ?_
  refine C.condD rfl (fun hc1 => ?_) (fun hc1 => ?_)
  · have hbl : b < 2 ^ y.claims.length := by simp only at hc1; omega
    refine C.skip ?_
    refine C.next ?_
    refine C.seq ?_
    refine C.block ?_
    refine C.seq ?_
    refine C.region [(false,0),(false,1),(false,2)] rfl ?_
    refine L.move rfl rfl rfl trivial ?_
    refine L.call rfl rfl rfl (fun D4 hD4 => BitsR_ok b (by omega) _) rfl trivial (fun v4 D4 hD4 hp4 => ?_)
    have hb := hp4
    refine L.assign rfl rfl rfl trivial ?_
    refine L.nil ?_
    refine C.next ?_
    refine C.seq ?_
    refine C.draw [] 3 [0,1,2,3,4,5,6,8,7,9,10,11] [false,true,false,false,false,true,true,true,true,true,false,false] [(false,0),(true,1),(false,2),(false,3),(false,4),(true,5),(true,6),(true,8),(true,7),(true,9),(false,10),(false,11)] Tf.follows (fun _ _ _ h => np_body (P := Try.prog) (fn := Try.f51) _ _ _ h) (by kernel_rfl) rfl ?_
    refine L.move rfl rfl rfl trivial ?_
    refine L.move rfl rfl rfl trivial ?_
    refine L.callV rfl rfl rfl (fun D5 hD5 => Shorter_ok _ _ (bitsL b) (bestK y ms b) _ (hb.up RI.up (hD5 _ (by simp))) (hs.up RI.up (hD5 _ (by simp)))) rfl trivial ?_
    refine L.move rfl rfl rfl trivial ?_
    refine' L.and [(false,4),(true,5),(true,6),(true,8),(true,7),(true,9),(false,10),(false,11)] [] (s := 22) (p := 30) rfl rfl (fun hg1 => ?_) (fun hg1 => ?_) ?_
    rotate_left
    · refine L.loadDW rfl Tf.a25 rfl hB1 (by first | simp | assumption) Tf.s25 List.not_mem_nil rfl ⟨_, rfl, rfl⟩ ?_
      refine L.move rfl rfl rfl ⟨_, rfl, rfl⟩ ?_
      refine L.loadDW rfl Tf.a25 rfl hB1 (by first | simp | assumption) Tf.s25 List.not_mem_nil rfl ⟨_, rfl, rfl⟩ ?_
      refine L.move rfl rfl rfl ⟨_, rfl, rfl⟩ ?_
      refine L.callV rfl rfl rfl (fun D6 hD6 => Full_ok _ y _ (hy0.up (hD6 _ (by simp))) (by omega)) rfl ⟨_, rfl, rfl⟩ ?_
      refine L.difN (m := 2 ^ y.claims.length - 1) (n := b) rfl (by show some (Value.int _ _) = some (Value.int _ _); congr 2; omega) rfl (by omega) (by omega) rfl ⟨_, rfl, rfl⟩ ?_
      refine L.callV rfl rfl rfl (fun D7 hD7 => Can_ok _ _ y ms (dif (2 ^ y.claims.length - 1) b) _ (hy0.up (hD7 _ (by simp))) (hm.up RI.up (hD7 _ (by simp))) h5 (by have := dif_le (2 ^ y.claims.length - 1) b; omega)) rfl ⟨_, rfl, rfl⟩ ?_
      refine L.pickT rfl rfl rfl rfl trivial ?_
      exact L.nil fun a w hh => hh.cutK 7 rfl
    · refine L.pass rfl rfl rfl ⟨_, _, rfl, rfl, rfl⟩ ?_
      refine L.pass rfl rfl rfl ⟨_, _, rfl, rfl, rfl⟩ ?_
      refine L.pass rfl rfl rfl ⟨_, _, rfl, rfl, rfl⟩ ?_
      refine L.pass rfl rfl rfl ⟨_, _, rfl, rfl, rfl⟩ ?_
      refine L.pass rfl rfl rfl ⟨_, _, rfl, rfl, rfl⟩ ?_
      refine L.pass rfl rfl rfl ⟨_, _, rfl, rfl, rfl⟩ ?_
      refine L.pass rfl rfl rfl ⟨_, _, rfl, rfl, rfl⟩ ?_
      refine L.pickF rfl rfl rfl rfl trivial ?_
      exact L.nil fun a w hh => hh.cutK 7 rfl
    refine L.nil ?_
    refine C.next ?_
    refine C.cond rfl (fun hc2 => ?_) (fun hc2 => ?_)
    · refine C.region [(false,0),(false,1)] rfl ?_
      refine L.move rfl rfl rfl trivial ?_
      refine L.assign rfl rfl rfl trivial ?_
      refine L.nil ?_
      refine C.blockEnd ?_
      refine C.next ?_
      refine C.region [(false,0),(false,1),(false,2)] rfl ?_
      refine L.move rfl rfl rfl trivial ?_
      refine L.add rfl rfl rfl (by simp only [inK]; omega) rfl trivial ?_
      refine L.assign rfl rfl rfl trivial ?_
      refine L.nil ?_
      exact C.againR 19 (b + 1, v4, D4) ⟨by simp only; omega, by simp only; rw [best_yes hc2]; exact hb⟩ (by simp only; omega) ⟨(by first | rfl | (show some (Value.int _ _) = some (Value.int _ _); congr 2; omega)), (by first | rfl | (show some (Value.int _ _) = some (Value.int _ _); congr 2; omega)), trivial⟩ rfl rfl (List.Sublist.refl _) ((fun D0 h => by simp only [List.mem_cons, List.not_mem_nil, or_false] at h; rcases h with h | h | h; exact ⟨D4, by simp, h ▸ Le.refl _⟩; exact ⟨E1, by simp, h ▸ Le.refl _⟩; exact ⟨D, by simp, h ▸ Le.refl _⟩))
    · refine C.skip ?_
      refine C.blockEnd ?_
      refine C.next ?_
      refine C.region [(false,0),(false,1),(false,2)] rfl ?_
      refine L.move rfl rfl rfl trivial ?_
      refine L.add rfl rfl rfl (by simp only [inK]; omega) rfl trivial ?_
      refine L.assign rfl rfl rfl trivial ?_
      refine L.nil ?_
      exact C.againR 17 (b + 1, v, Dn) ⟨by simp only; omega, by simp only; rw [best_no hc2]; exact hs⟩ (by simp only; omega) ⟨(by first | rfl | (show some (Value.int _ _) = some (Value.int _ _); congr 2; omega)), (by first | rfl | (show some (Value.int _ _) = some (Value.int _ _); congr 2; omega)), trivial⟩ rfl rfl (List.Sublist.refl _) ((fun D0 h => by simp only [List.mem_cons, List.not_mem_nil, or_false] at h; rcases h with h | h | h; exact ⟨Dn, by simp, h ▸ Le.refl _⟩; exact ⟨E1, by simp, h ▸ Le.refl _⟩; exact ⟨D, by simp, h ▸ Le.refl _⟩))
  · obtain rfl : b = 2 ^ y.claims.length := by simp only at hc1; omega
    refine C.exit ?_
    refine C.thenExit ?_
    refine C.thenExit ?_
    refine C.blockExit ?_
    refine C.next ?_
    refine C.seq ?_
    refine C.region [(false,0),(false,1)] rfl ?_
    refine L.move rfl rfl rfl trivial ?_
    refine L.assign rfl rfl rfl trivial ?_
    refine L.nil ?_
    refine C.next ?_
    refine C.ret ?_
    exact leave (vs := [_]) rfl rfl rfl ⟨rfl, trivial⟩ (fun D hD => hs.up RI.up (hD _ (by simp)))
end Go.Fs
