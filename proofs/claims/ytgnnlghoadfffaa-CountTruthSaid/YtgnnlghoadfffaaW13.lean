/- Walks: the reference: the looks that are needed. -/
import Derived.Test.YtgnnlghoadfffaaW12
namespace Go.Fs
open Go.Proofs
open C1
theorem needr_skip {l0 l1 : List (List Int)} (h : (decide ((l0.length : Int) = 0) || decide ((l1.length : Int) = 0)) = true) : l0 = [] ∨ l1 = [] := by
  simp only [Bool.or_eq_true, decide_eq_true_eq] at h
  rcases h with h | h
  · exact Or.inl (List.length_eq_zero_iff.1 (by omega))
  · exact Or.inr (List.length_eq_zero_iff.1 (by omega))
theorem needr_go {l0 l1 : List (List Int)} (h : (decide ((l0.length : Int) = 0) || decide ((l1.length : Int) = 0)) = false) : l0 ≠ [] ∧ l1 ≠ [] := by
  simp only [Bool.or_eq_false_iff, decide_eq_false_iff_not] at h
  exact ⟨fun e => h.1 (by rw [e]; rfl), fun e => h.2 (by rw [e]; rfl)⟩
open C1
theorem LooksR_ok (n : Nat) (i j : Int) (hi0 : 0 ≤ i) (hij : i ≤ j) (hjn : j < n) : ∀ (f : Nat) (ts : List (List Int)), ts.length ≤ f → ∀ (sv : Value) (D : Data), Sl D RL 1 sv ts → ts ≠ [] → ts.length ≤ 10000 → (∀ t ∈ ts, t.length ≤ 9 ∧ ∀ x ∈ t, 0 ≤ x ∧ x ≤ 1) → (∀ t ∈ ts, t.length = n) →
    Fn Try.prog 34 #[sv, .int .i64 i, .int .i64 j] D (fun _ v => v = .int .i64 (needG n i.toNat j.toNat f ts)) := by
  intro f
  induction f with
  | zero => intro ts h sv D _ hne; exact absurd (List.length_eq_zero_iff.1 (by omega)) hne
  | succ f ih =>
  intro ts hf sv D hS hne hlen hall hn
  have hl := hS.len
  obtain ⟨t0, ht0⟩ : ∃ t, ts[0]? = some t := ⟨ts[0]'(List.length_pos_iff.2 hne), List.getElem?_eq_getElem _⟩
  have ht0m := List.mem_of_getElem? ht0
  have hn0 := hn t0 ht0m
  have h90 := (hall t0 ht0m).1
  refine enter 62 Try.func34 rfl rfl rfl rfl fun h0 => ?_
  refine C.seq ?_
  refine C.region [(false,0)] rfl ?_
  refine L.assign rfl rfl rfl trivial ?_
  refine L.nil ?_
  refine C.next ?_
  refine C.seq ?_
  refine C.seq ?_
  refine C.region [(false,0),(false,1),(false,2),(false,3),(false,4),(false,5)] rfl ?_
  refine L.move rfl rfl rfl trivial ?_
  refine L.move rfl rfl rfl trivial ?_
  refine L.move rfl rfl rfl trivial ?_
  refine L.callV rfl rfl rfl (fun D1 hD1 => ChairsR_ok _ ts i j _ (hS.up RL.up (hD1 _ (by simp))) hne hall hi0 hij (fun t ht => by have := hn t ht; omega)) rfl trivial ?_
  refine L.alloc rfl Tf.z43 rfl rfl trivial (fun q1 => ?_)
  refine L.storeW rfl rfl rfl rfl Tf.s43 (by first | rfl | (simp only [ints_length, *]; done) | (simp only [ints_length, *]; rfl) | (simp only [ints_length, *]; omega)) (by first | rfl | (simp only [ints_length, *]; done) | (simp only [ints_length, *]; rfl) | (simp only [ints_length, *]; omega)) (Has.head) (by first | exact ints_cell1 _ | simp [cell1]) trivial ?_
  refine L.nil ?_
  refine C.next ?_
  refine C.seq ?_
  refine C.region [(false,0),(false,1),(false,2),(false,3),(false,4)] rfl ?_
  refine L.fieldAddr rfl Tf.f43_0 rfl rfl trivial ?_
  refine L.loadB1 rfl Tf.a3 rfl (List.Mem.head _) rfl List.not_mem_nil rfl trivial ?_
  refine L.fieldAddr rfl Tf.f43_1 rfl rfl trivial ?_
  refine L.loadB1 rfl Tf.a3 rfl (List.Mem.head _) rfl List.not_mem_nil rfl trivial ?_
  refine L.eql rfl rfl rfl rfl trivial ?_
  refine L.nil ?_
  refine C.next ?_
  refine C.condD rfl (fun hc1 => ?_) (fun hc1 => ?_)
  · refine C.seq ?_
    refine C.region [(false,0)] rfl ?_
    refine L.assign rfl rfl rfl trivial ?_
    refine L.nil ?_
    refine C.next ?_
    refine C.ret ?_
    refine C.thenRet ?_
    exact leave (vs := [_]) rfl rfl rfl ⟨rfl, trivial⟩ (fun D hD => by show Value.int _ _ = _; rw [needG, if_pos hc1])
  · refine C.skip ?_
    refine C.next ?_
    refine C.seq ?_
    refine C.region [(false,0)] rfl ?_
    refine L.assign rfl rfl rfl trivial ?_
    refine L.nil ?_
    refine C.next ?_
    refine C.seq ?_
    refine C.seq ?_
    refine C.region [(false,0)] rfl ?_
    refine L.assign rfl rfl rfl trivial ?_
    refine L.nil ?_
    refine C.next ?_
    refine C.block ?_
    refine C.loopC (γ := Nat) (fun k => n - k) (fun k => k ≤ n) (fun k => [(9, .int .i64 (k : Int)), (8, .int .i64 (bestI (needG n i.toNat j.toNat f) ts 100 k))]) [(6, _), (0, _), (1, _), (2, _)] (fun k => [D]) 0 (by omega) ⟨(by first | rfl | (show some (Value.int _ _) = some (Value.int _ _); congr 2; omega)), (by first | rfl | (show some (Value.int _ _) = some (Value.int _ _); congr 2; omega)), trivial⟩ ⟨rfl, rfl, rfl, rfl, trivial⟩ (ds_same) ?_
    rintro k h1
    refine C.seq ?_
    refine C.seq ?_
    refine C.region [(false,0),(false,1),(false,2),(false,3),(false,4),(false,5)] rfl ?_
    refine L.move rfl rfl rfl trivial ?_
    refine L.move rfl rfl rfl trivial ?_
    refine L.indexS rfl Try.underlying37 Tf.s22 rfl hS rfl (by omega) ht0 rfl trivial (fun b1 o1 cs1 hr1 hcl1 hA1 => ?_)
    obtain ⟨w1, rfl, hw1⟩ := hr1
    refine L.loadD1 rfl (k := 0) Tf.a22 rfl hA1 (by first | simp | assumption) rfl List.not_mem_nil rfl trivial ?_
    refine L.len rfl Try.underlying22 rfl hw1 rfl rfl trivial ?_
    refine L.lss rfl rfl rfl rfl trivial ?_
    refine L.nil ?_
    refine C.next ?_
    refine C.condD rfl (fun hc2 => ?_) (fun hc2 => ?_)
    · have hk : k < n := by omega
      have hbb := bestI_bound (nd := needG n i.toNat j.toNat f) (fun l => (needG_bound _ _ _ _ l).1) ts k
      refine C.skip ?_
      refine C.next ?_
      refine C.seq ?_
      refine C.block ?_
      refine C.seq ?_
      refine C.region [(false,0),(false,1),(false,2),(false,3),(false,4),(false,5),(false,6),(false,7)] rfl ?_
      refine L.move rfl rfl rfl trivial ?_
      refine L.move rfl rfl rfl trivial ?_
      refine L.call rfl rfl rfl (fun D2 hD2 => Seen_ok _ ts k 0 _ (hS.up RL.up (hD2 _ (by simp))) hlen hall (fun t ht => by have := hn t ht; omega)) rfl trivial (fun v2 D2 hD2 hp2 => ?_)
      refine L.move rfl rfl rfl trivial ?_
      refine L.move rfl rfl rfl trivial ?_
      refine L.call rfl rfl rfl (fun D3 hD3 => Seen_ok _ ts k 1 _ (hS.up RL.up (hD3 _ (by simp))) hlen hall (fun t ht => by have := hn t ht; omega)) rfl trivial (fun v3 D3 hD3 hp3 => ?_)
      refine L.assign rfl rfl rfl trivial ?_
      refine L.assign rfl rfl rfl trivial ?_
      refine L.nil ?_
      refine C.next ?_
      refine C.seq ?_
      refine C.seq ?_
      refine C.region [(false,0),(false,1),(false,2),(false,3),(false,4),(false,5),(false,6),(false,7)] rfl ?_
      refine L.move rfl rfl rfl trivial ?_
      refine L.len rfl Try.underlying37 rfl hp2 rfl rfl trivial ?_
      refine L.eql rfl rfl rfl rfl trivial ?_
      refine L.move rfl rfl rfl trivial ?_
      refine' L.or [(false,4),(false,5),(false,6),(false,7)] [] (s := 39) (p := 43) rfl rfl (fun hg1 => ?_) (fun hg1 => ?_) ?_
      rotate_left
      · refine L.move rfl rfl rfl ⟨_, rfl, rfl⟩ ?_
        refine L.len rfl Try.underlying37 rfl hp3 rfl rfl ⟨_, rfl, rfl⟩ ?_
        refine L.eql rfl rfl rfl rfl ⟨_, rfl, rfl⟩ ?_
        refine L.pickF rfl rfl rfl rfl trivial ?_
        exact L.nil fun a w hh => hh.cutK 3 rfl
      · refine L.pass rfl rfl rfl ⟨_, _, rfl, rfl, rfl⟩ ?_
        refine L.pass rfl rfl rfl ⟨_, _, rfl, rfl, rfl⟩ ?_
        refine L.pass rfl rfl rfl ⟨_, _, rfl, rfl, rfl⟩ ?_
        refine L.pickT rfl rfl rfl rfl trivial ?_
        exact L.nil fun a w hh => hh.cutK 3 rfl
      refine L.nil ?_
      refine C.next ?_
      refine C.cond rfl (fun hc3 => ?_) (fun hc3 => ?_)
      · have hsk := needr_skip hc3
        refine C.exit ?_
        refine C.thenExit ?_
        refine C.blockExit ?_
        refine C.next ?_
        refine C.region [(false,0),(false,1),(false,2)] rfl ?_
        refine L.move rfl rfl rfl trivial ?_
        refine L.add rfl rfl rfl (by simp only [inK]; omega) rfl trivial ?_
        refine L.assign rfl rfl rfl trivial ?_
        refine L.nil ?_
        exact C.againR 24 (k + 1) (by omega) (by omega) ⟨(by first | rfl | (show some (Value.int _ _) = some (Value.int _ _); congr 2; omega)), (by rw [bestI_skip hsk]; rfl), trivial⟩ rfl rfl (List.Sublist.refl _) (fun D h => ⟨D, List.Mem.tail _ (List.Mem.tail _ (h)), Le.refl D⟩)
      · obtain ⟨h0s, h1s⟩ := needr_go hc3
        have hlt := seenT_lt h0s h1s
        have hn0b := needG_bound n i.toNat j.toNat f (seenT ts k 0)
        have hn1b := needG_bound n i.toNat j.toNat f (seenT ts k 1)
        refine C.skip ?_
        refine C.next ?_
        refine C.seq ?_
        refine C.region [(false,0),(false,1),(false,2),(false,3),(false,4)] rfl ?_
        refine L.move rfl rfl rfl trivial ?_
        refine L.move rfl rfl rfl trivial ?_
        refine L.move rfl rfl rfl trivial ?_
        refine L.callV rfl rfl rfl (fun D4 hD4 => ih (seenT ts k 0) (by omega) _ _ (hp2.up RL.up (hD4 _ (by simp))) (by assumption) (by omega) (fun t ht => hall t (seenT_mem ht)) (fun t ht => hn t (seenT_mem ht))) rfl trivial ?_
        refine L.assign rfl rfl rfl trivial ?_
        refine L.nil ?_
        refine C.next ?_
        refine C.seq ?_
        refine C.region [(false,0),(false,1),(false,2),(false,3)] rfl ?_
        refine L.move rfl rfl rfl trivial ?_
        refine L.add rfl rfl rfl (by simp only [inK]; omega) rfl trivial ?_
        refine L.move rfl rfl rfl trivial ?_
        refine L.lss rfl rfl rfl rfl trivial ?_
        refine L.nil ?_
        refine C.next ?_
        refine C.condD rfl (fun hc4 => ?_) (fun hc4 => ?_)
        · refine C.region [(false,0),(false,1),(false,2),(false,3),(false,4),(false,5),(false,6),(false,7),(false,8),(false,9)] rfl ?_
          refine L.move rfl rfl rfl trivial ?_
          refine L.move rfl rfl rfl trivial ?_
          refine L.move rfl rfl rfl trivial ?_
          refine L.move rfl rfl rfl trivial ?_
          refine L.move rfl rfl rfl trivial ?_
          refine L.callV rfl rfl rfl (fun D5 hD5 => ih (seenT ts k 1) (by omega) _ _ (hp3.up RL.up (hD5 _ (by simp))) (by assumption) (by omega) (fun t ht => hall t (seenT_mem ht)) (fun t ht => hn t (seenT_mem ht))) rfl trivial ?_
          refine L.max2 rfl rfl rfl rfl trivial ?_
          refine L.add rfl rfl rfl (by simp only [inK]; omega) rfl trivial ?_
          refine L.min2 rfl rfl rfl rfl trivial ?_
          refine L.assign rfl rfl rfl trivial ?_
          refine L.nil ?_
          refine C.blockEnd ?_
          refine C.next ?_
          refine C.region [(false,0),(false,1),(false,2)] rfl ?_
          refine L.move rfl rfl rfl trivial ?_
          refine L.add rfl rfl rfl (by simp only [inK]; omega) rfl trivial ?_
          refine L.assign rfl rfl rfl trivial ?_
          refine L.nil ?_
          exact C.againR 43 (k + 1) (by omega) (by omega) ⟨(by first | rfl | (show some (Value.int _ _) = some (Value.int _ _); congr 2; omega)), (by rw [bestI_yes h0s h1s hc4]; rfl), trivial⟩ rfl rfl (List.Sublist.refl _) (fun D h => ⟨D, List.Mem.tail _ (List.Mem.tail _ (h)), Le.refl D⟩)
        · refine C.skip ?_
          refine C.blockEnd ?_
          refine C.next ?_
          refine C.region [(false,0),(false,1),(false,2)] rfl ?_
          refine L.move rfl rfl rfl trivial ?_
          refine L.add rfl rfl rfl (by simp only [inK]; omega) rfl trivial ?_
          refine L.assign rfl rfl rfl trivial ?_
          refine L.nil ?_
          exact C.againR 33 (k + 1) (by omega) (by omega) ⟨(by first | rfl | (show some (Value.int _ _) = some (Value.int _ _); congr 2; omega)), (by rw [bestI_no h0s h1s hc4]; rfl), trivial⟩ rfl rfl (List.Sublist.refl _) (fun D h => ⟨D, List.Mem.tail _ (List.Mem.tail _ (h)), Le.refl D⟩)
    · obtain rfl : k = n := by omega
      refine C.exit ?_
      refine C.thenExit ?_
      refine C.thenExit ?_
      refine C.blockExit ?_
      refine C.next ?_
      refine C.seq ?_
      refine C.region [(false,0),(false,1)] rfl ?_
      refine L.move rfl rfl rfl trivial ?_
      refine L.assign rfl rfl rfl trivial ?_
      refine L.nil ?_
      refine C.next ?_
      refine C.ret ?_
      exact leave (vs := [_]) rfl rfl rfl ⟨rfl, trivial⟩ (fun D hD => by show Value.int _ _ = _; rw [needG, if_neg hc1])
end Go.Fs
