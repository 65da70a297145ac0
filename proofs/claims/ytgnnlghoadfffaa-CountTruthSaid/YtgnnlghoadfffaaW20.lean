/- Walks: the law CountChairs. -/
import Derived.Test.YtgnnlghoadfffaaW19
namespace Go.Fs
open Go.Proofs
open C1
theorem thin_len {r : RowD} (h : thin r = true) : r.places.length ≤ 11 ∧ r.counts.length ≤ 8 := by
  simp only [thin, Bool.and_eq_true, decide_eq_true_eq] at h; omega
theorem ask_truths {r : RowD} (h : askErr r true = 0) : RowOk r ∧ truths r ≠ [] ∧ (∀ t ∈ truths r, t.length ≤ 9 ∧ ∀ x ∈ t, 0 ≤ x ∧ x ≤ 1) ∧ ∀ t ∈ truths r, t.length = r.places.length := by
  unfold askErr at h
  split at h
  · omega
  · rename_i hf
    have hok : RowOk r := rowOk_iff.1 (by omega)
    simp only [Bool.true_eq_false, if_false] at h
    split at h
    · omega
    · rename_i hne
      have hall : ∀ t ∈ truths r, t.length = r.places.length ∧ ∀ x ∈ t, 0 ≤ x ∧ x ≤ 1 := fun t ht => allT_ok (List.mem_filter.1 ht).1
      exact ⟨hok, hne, fun t ht => ⟨by have := (hall t ht).1; have := hok.len9; omega, (hall t ht).2⟩, fun t ht => (hall t ht).1⟩
theorem ask_fault {r : RowD} (h : askErr r true = 0) : fault r = 0 := rowOk_iff.2 (ask_truths h).1
theorem askr_part {r : RowD} {i j : Int} (h : askErr r true = 0) (hc : (decide (fault r = 0) && !partOk r i j) = false) : 0 ≤ i ∧ i ≤ j ∧ ∀ t ∈ truths r, j < t.length := by
  have hf := ask_fault h
  simp only [hf, decide_true, Bool.true_and, Bool.not_eq_false'] at hc
  simp only [partOk, Bool.and_eq_true, inB_iff] at hc
  refine ⟨hc.1.1, hc.2.1, fun t ht => ?_⟩
  rw [(ask_truths h).2.2.2 t ht]; omega
theorem ask_eq {r : RowD} {i j : Int} (hc : (decide (fault r = 0) && !partOk r i j) = false) : askErr r (partOk r i j) = askErr r true := by
  unfold askErr
  split
  · rfl
  · rename_i hf
    have hf0 : fault r = 0 := by omega
    simp only [hf0, decide_true, Bool.true_and, Bool.not_eq_false'] at hc
    rw [hc]
theorem ask_range {r : RowD} {i j : Int} (hc : (decide (fault r = 0) && !partOk r i j) = true) : askErr r (partOk r i j) = 2 := by
  simp only [Bool.and_eq_true, decide_eq_true_eq, Bool.not_eq_true'] at hc
  unfold askErr
  rw [if_neg (by omega), if_pos hc.2]
theorem cc_range {r : RowD} {i j : Int} (hc : (decide (fault r = 0) && !partOk r i j) = true) : ((decide (askErr r (partOk r i j) = 2) && (chV r i j == (0, 0))) && true) = true := by
  unfold chV; rw [ask_range hc]; rfl
theorem cc_err {r : RowD} {i j : Int} (hc : (decide (fault r = 0) && !partOk r i j) = false) (h : askErr r true ≠ 0) : ((decide (askErr r (partOk r i j) = askErr r true) && (chV r i j == (0, 0))) && true) = true := by
  unfold chV; rw [ask_eq hc, if_neg h]; simp
theorem cc_ok {r : RowD} {i j : Int} (h : askErr r true = 0) (hc : (decide (fault r = 0) && !partOk r i j) = false) : ((decide (askErr r (partOk r i j) = 0) && (chV r i j == (loOf (truths r) i.toNat j.toNat, hiOf (truths r) i.toNat j.toNat))) && true) = true := by
  unfold chV; rw [ask_eq hc, h]; simp
open C1
theorem ChairsR2_ok (sv : Value) (ts : List (List Int)) (i j : Int) (D : Data) (hS : Sl D RL 1 sv ts) (hne : ts ≠ []) (hall : ∀ t ∈ ts, t.length ≤ 9 ∧ ∀ x ∈ t, 0 ≤ x ∧ x ≤ 1) (hi0 : 0 ≤ i) (hij : i ≤ j) (hjl : ∀ t ∈ ts, j < t.length) :
    Fn Try.prog 26 #[sv, .int .i64 i, .int .i64 j] D (fun _ v => v = k2V (loOf ts i.toNat j.toNat, hiOf ts i.toNat j.toNat)) := ChairsR_ok sv ts i j D hS hne hall hi0 hij hjl
theorem CountChairs_ok (rv : Value) (r : RowD) (i j : Int) (D : Data) (hr : RowIs D rv r) : Fn Try.prog 3 #[rv, .int .i64 i, .int .i64 j] D (fun _ v => v = .bool true) := by
  have hr0 := hr
  obtain ⟨pv, cv, rfl, hp, hc⟩ := hr
  refine enter 65 Try.func3 rfl rfl rfl rfl fun h0 => ?_
  refine C.seq ?_
  refine C.region [(false,0),(false,1)] rfl ?_
  refine L.boxD rfl rfl rfl rfl trivial (fun q1 E1 hE1 hB1 => ?_)
  refine L.assign rfl rfl rfl trivial ?_
  refine L.nil ?_
  refine C.next ?_
  refine C.seq ?_
  refine C.seq ?_
  refine C.region [(false,0),(false,1),(false,2)] rfl ?_
  refine L.loadDW rfl Tf.a25 rfl hB1 (by first | simp | assumption) Tf.s25 List.not_mem_nil rfl trivial ?_
  refine L.callV rfl rfl rfl (fun D1 hD1 => Thin_ok _ r _ (hr0.up (hD1 _ (by simp)))) rfl trivial ?_
  refine L.not rfl rfl rfl trivial ?_
  refine L.nil ?_
  refine C.next ?_
  refine C.cond rfl (fun hc1 => ?_) (fun hc1 => ?_)
  · refine C.seq ?_
    refine C.region [(false,0),(false,1)] rfl ?_
    refine L.callV rfl rfl rfl (fun D2 hD2 => awake_ok _) rfl trivial ?_
    refine L.assign rfl rfl rfl trivial ?_
    refine L.nil ?_
    refine C.next ?_
    refine C.ret ?_
    refine C.thenRet ?_
    exact leave (vs := [_]) rfl rfl rfl ⟨rfl, trivial⟩ (fun D hD => rfl)
  · have hthin : thin r = true := by simpa using hc1
    obtain ⟨hlp, hlc⟩ := thin_len hthin
    refine C.skip ?_
    refine C.next ?_
    refine C.seq ?_
    refine C.region [(false,0),(false,1),(false,2),(false,3),(false,4),(false,5),(false,6),(false,7),(false,8),(false,9),(false,10)] rfl ?_
    refine L.loadDW rfl Tf.a25 rfl hB1 (by first | simp | assumption) Tf.s25 List.not_mem_nil rfl trivial ?_
    refine L.call rfl rfl rfl (fun D3 hD3 => Row_ok _ r _ (hr0.up (hD3 _ (by simp))) (by omega) (by omega)) rfl trivial (fun v3 D3 hD3 hp3 => ?_)
    have hw := hp3
    refine L.move rfl rfl rfl trivial ?_
    refine L.move rfl rfl rfl trivial ?_
    refine L.callV rfl rfl rfl (fun D4 hD4 => Chairs2_ok _ r i j _ (hw.up (hD4 _ (by simp)))) rfl trivial ?_
    refine L.move rfl rfl rfl trivial ?_
    refine L.extract rfl rfl rfl rfl trivial ?_
    refine L.extract rfl rfl rfl rfl trivial ?_
    refine L.alloc rfl Tf.z29 rfl rfl trivial (fun q2 => ?_)
    refine L.storeW rfl rfl rfl rfl Tf.s29 (by first | rfl | (simp only [ints_length, *]; done) | (simp only [ints_length, *]; rfl) | (simp only [ints_length, *]; omega)) (by first | rfl | (simp only [ints_length, *]; done) | (simp only [ints_length, *]; rfl) | (simp only [ints_length, *]; omega)) (Has.head) (by first | exact ints_cell1 _ | simp [cell1]) trivial ?_
    refine L.assign rfl rfl rfl trivial ?_
    refine L.nil ?_
    refine C.next ?_
    refine C.seq ?_
    refine C.region [(false,0),(false,1),(false,2),(false,3),(false,4),(false,5),(false,6)] rfl ?_
    refine L.loadDW rfl Tf.a25 rfl hB1 (by first | simp | assumption) Tf.s25 List.not_mem_nil rfl trivial ?_
    refine L.call rfl rfl rfl (fun D5 hD5 => sure_ok _ r _ (hr0.up (hD5 _ (by simp)))) rfl trivial (fun v5 D5 hD5 hp5 => ?_)
    obtain ⟨lv, rfl, hls⟩ := hp5
    refine L.move rfl rfl rfl trivial ?_
    refine L.extract rfl rfl rfl rfl trivial ?_
    refine L.extract rfl rfl rfl rfl trivial ?_
    refine L.assign rfl rfl rfl trivial ?_
    refine L.assign rfl rfl rfl trivial ?_
    refine L.nil ?_
    refine C.next ?_
    refine C.seq ?_
    refine C.seq ?_
    refine C.region [(false,0),(false,1),(false,2),(false,3),(false,4),(false,5),(false,6),(false,7),(false,8),(false,9)] rfl ?_
    refine L.loadDW rfl Tf.a25 rfl hB1 (by first | simp | assumption) Tf.s25 List.not_mem_nil rfl trivial ?_
    refine L.callV rfl rfl rfl (fun D6 hD6 => faultL_ok _ r _ (hr0.up (hD6 _ (by simp)))) rfl trivial ?_
    refine L.eql rfl rfl rfl rfl trivial ?_
    refine L.move rfl rfl rfl trivial ?_
    refine' L.and [(false,4),(false,5),(false,6),(false,7),(false,8),(false,9)] [] (s := 31) (p := 37) rfl rfl (fun hg1 => ?_) (fun hg1 => ?_) ?_
    rotate_left
    · refine L.loadDW rfl Tf.a25 rfl hB1 (by first | simp | assumption) Tf.s25 List.not_mem_nil rfl ⟨_, rfl, rfl⟩ ?_
      refine L.move rfl rfl rfl ⟨_, rfl, rfl⟩ ?_
      refine L.move rfl rfl rfl ⟨_, rfl, rfl⟩ ?_
      refine L.callV rfl rfl rfl (fun D7 hD7 => partL_ok _ r i j _ (hr0.up (hD7 _ (by simp)))) rfl ⟨_, rfl, rfl⟩ ?_
      refine L.not rfl rfl rfl ⟨_, rfl, rfl⟩ ?_
      refine L.pickT rfl rfl rfl rfl trivial ?_
      exact L.nil fun a w hh => hh.cutK 5 rfl
    · refine L.pass rfl rfl rfl ⟨_, _, rfl, rfl, rfl⟩ ?_
      refine L.pass rfl rfl rfl ⟨_, _, rfl, rfl, rfl⟩ ?_
      refine L.pass rfl rfl rfl ⟨_, _, rfl, rfl, rfl⟩ ?_
      refine L.pass rfl rfl rfl ⟨_, _, rfl, rfl, rfl⟩ ?_
      refine L.pass rfl rfl rfl ⟨_, _, rfl, rfl, rfl⟩ ?_
      refine L.pickF rfl rfl rfl rfl trivial ?_
      exact L.nil fun a w hh => hh.cutK 5 rfl
    refine L.nil ?_
    refine C.next ?_
    refine C.cond rfl (fun hc2 => ?_) (fun hc2 => ?_)
    · refine C.region [(false,0)] rfl ?_
      refine L.assign rfl rfl rfl trivial ?_
      refine L.nil ?_
      refine C.next ?_
      refine C.seq ?_
      refine C.seq ?_
      refine C.region [(false,0),(false,1)] rfl ?_
      refine L.move rfl rfl rfl trivial ?_
      refine L.neq rfl rfl rfl rfl trivial ?_
      refine L.nil ?_
      refine C.next ?_
      refine C.condD rfl (fun hc3 => ?_) (fun hc3 => ?_)
      · refine C.seq ?_
        refine C.region [(false,0),(false,1),(false,2),(false,3),(false,4),(false,5),(false,6),(false,7),(false,8),(false,9),(false,10),(false,11)] rfl ?_
        refine L.move rfl rfl rfl trivial ?_
        refine L.move rfl rfl rfl trivial ?_
        refine L.eql rfl rfl rfl rfl trivial ?_
        refine L.move rfl rfl rfl trivial ?_
        refine' L.and [(false,4),(false,5),(false,6),(false,7)] [(false,8),(false,9),(false,10),(false,11)] (s := 43) (p := 47) rfl rfl (fun hg2 => ?_) (fun hg2 => ?_) ?_
        rotate_left
        · refine L.loadBW rfl Tf.a29 rfl (List.Mem.head _) Tf.s29 List.not_mem_nil rfl ⟨_, rfl, rfl⟩ ?_
          refine L.build (cs := [.int .i64 0, .int .i64 0]) rfl Tf.p29 Tf.z29 rfl rfl rfl ⟨_, rfl, rfl⟩ ?_
          refine L.eqlK (b := (0, 0)) rfl (by kernel_rfl) k2_29 rfl rfl rfl ⟨_, rfl, rfl⟩ ?_
          refine L.pickT rfl rfl rfl rfl trivial ?_
          exact L.nil fun a w hh => hh.cutK 3 rfl
        · refine L.pass rfl rfl rfl ⟨_, _, rfl, rfl, rfl⟩ ?_
          refine L.pass rfl rfl rfl ⟨_, _, rfl, rfl, rfl⟩ ?_
          refine L.pass rfl rfl rfl ⟨_, _, rfl, rfl, rfl⟩ ?_
          refine L.pickF rfl rfl rfl rfl trivial ?_
          exact L.nil fun a w hh => hh.cutK 3 rfl
        refine L.move rfl rfl rfl trivial ?_
        refine' L.and [(false,9),(false,10)] [(false,11)] (s := 48) (p := 50) rfl rfl (fun hg3 => ?_) (fun hg3 => ?_) ?_
        rotate_left
        · refine L.callV rfl rfl rfl (fun D8 hD8 => awake_ok _) rfl ⟨_, rfl, rfl⟩ ?_
          refine L.pickT rfl rfl rfl rfl trivial ?_
          exact L.nil fun a w hh => hh.cutK 1 rfl
        · refine L.pass rfl rfl rfl ⟨_, _, rfl, rfl, rfl⟩ ?_
          refine L.pickF rfl rfl rfl rfl trivial ?_
          exact L.nil fun a w hh => hh.cutK 1 rfl
        refine L.assign rfl rfl rfl trivial ?_
        refine L.nil ?_
        refine C.next ?_
        refine C.ret ?_
        refine C.thenRet ?_
        exact leave (vs := [_]) rfl rfl rfl ⟨rfl, trivial⟩ (fun D hD => congrArg Value.bool (cc_range hc2))
      · exact absurd hc3 (by decide)
    · refine C.skip ?_
      refine C.next ?_
      refine C.seq ?_
      refine C.seq ?_
      refine C.region [(false,0),(false,1)] rfl ?_
      refine L.move rfl rfl rfl trivial ?_
      refine L.neq rfl rfl rfl rfl trivial ?_
      refine L.nil ?_
      refine C.next ?_
      refine C.condD rfl (fun hc4 => ?_) (fun hc4 => ?_)
      · refine C.seq ?_
        refine C.region [(false,0),(false,1),(false,2),(false,3),(false,4),(false,5),(false,6),(false,7),(false,8),(false,9),(false,10),(false,11)] rfl ?_
        refine L.move rfl rfl rfl trivial ?_
        refine L.move rfl rfl rfl trivial ?_
        refine L.eql rfl rfl rfl rfl trivial ?_
        refine L.move rfl rfl rfl trivial ?_
        refine' L.and [(false,4),(false,5),(false,6),(false,7)] [(false,8),(false,9),(false,10),(false,11)] (s := 43) (p := 47) rfl rfl (fun hg4 => ?_) (fun hg4 => ?_) ?_
        rotate_left
        · refine L.loadBW rfl Tf.a29 rfl (List.Mem.head _) Tf.s29 List.not_mem_nil rfl ⟨_, rfl, rfl⟩ ?_
          refine L.build (cs := [.int .i64 0, .int .i64 0]) rfl Tf.p29 Tf.z29 rfl rfl rfl ⟨_, rfl, rfl⟩ ?_
          refine L.eqlK (b := (0, 0)) rfl (by kernel_rfl) k2_29 rfl rfl rfl ⟨_, rfl, rfl⟩ ?_
          refine L.pickT rfl rfl rfl rfl trivial ?_
          exact L.nil fun a w hh => hh.cutK 3 rfl
        · refine L.pass rfl rfl rfl ⟨_, _, rfl, rfl, rfl⟩ ?_
          refine L.pass rfl rfl rfl ⟨_, _, rfl, rfl, rfl⟩ ?_
          refine L.pass rfl rfl rfl ⟨_, _, rfl, rfl, rfl⟩ ?_
          refine L.pickF rfl rfl rfl rfl trivial ?_
          exact L.nil fun a w hh => hh.cutK 3 rfl
        refine L.move rfl rfl rfl trivial ?_
        refine' L.and [(false,9),(false,10)] [(false,11)] (s := 48) (p := 50) rfl rfl (fun hg5 => ?_) (fun hg5 => ?_) ?_
        rotate_left
        · refine L.callV rfl rfl rfl (fun D9 hD9 => awake_ok _) rfl ⟨_, rfl, rfl⟩ ?_
          refine L.pickT rfl rfl rfl rfl trivial ?_
          exact L.nil fun a w hh => hh.cutK 1 rfl
        · refine L.pass rfl rfl rfl ⟨_, _, rfl, rfl, rfl⟩ ?_
          refine L.pickF rfl rfl rfl rfl trivial ?_
          exact L.nil fun a w hh => hh.cutK 1 rfl
        refine L.assign rfl rfl rfl trivial ?_
        refine L.nil ?_
        refine C.next ?_
        refine C.ret ?_
        refine C.thenRet ?_
        exact leave (vs := [_]) rfl rfl rfl ⟨rfl, trivial⟩ (fun D hD => congrArg Value.bool (cc_err hc2 hc4))
      · have hz : askErr r true = 0 := by omega
        rw [if_pos hz] at hls
        have hlt := hls
        obtain ⟨hok, hne, hall, hlen⟩ := ask_truths hz
        obtain ⟨hij0, hij1, hij2⟩ := askr_part hz hc2
        refine C.skip ?_
        refine C.next ?_
        refine C.seq ?_
        refine C.draw [] 5 [0,1,2,3,4,5,6,7,8,9,10,11,12,13,14] [false,false,false,false,true,true,true,true,true,false,false,false,false,false,false] [(false,0),(false,1),(false,2),(false,3),(true,4),(true,5),(true,6),(true,7),(true,8),(false,9),(false,10),(false,11),(false,12),(false,13),(false,14)] Tf.follows (fun _ _ _ h => np_body (P := Try.prog) (fn := Try.f3) _ _ _ h) (by kernel_rfl) rfl ?_
        refine L.move rfl rfl rfl trivial ?_
        refine L.eql rfl rfl rfl rfl trivial ?_
        refine L.move rfl rfl rfl trivial ?_
        refine' L.and [(false,3),(true,4),(true,5),(true,6),(true,7),(true,8),(false,9),(false,10)] [(false,11),(false,12),(false,13),(false,14)] (s := 53) (p := 61) rfl rfl (fun hg6 => ?_) (fun hg6 => ?_) ?_
        rotate_left
        · refine L.loadBW rfl Tf.a29 rfl (List.Mem.head _) Tf.s29 List.not_mem_nil rfl ⟨_, rfl, rfl⟩ ?_
          refine L.move rfl rfl rfl ⟨_, rfl, rfl⟩ ?_
          refine L.move rfl rfl rfl ⟨_, rfl, rfl⟩ ?_
          refine L.move rfl rfl rfl ⟨_, rfl, rfl⟩ ?_
          refine L.callV rfl rfl rfl (fun D10 hD10 => ChairsR2_ok _ (truths r) i j _ (hlt.up RL.up (hD10 _ (by simp))) hne hall hij0 hij1 hij2) rfl ⟨_, rfl, rfl⟩ ?_
          refine L.callV rfl rfl rfl (fun D11 hD11 => to2_ok _ _) rfl ⟨_, rfl, rfl⟩ ?_
          refine L.eqlK  rfl (by kernel_rfl) k2_29 rfl rfl rfl ⟨_, rfl, rfl⟩ ?_
          refine L.pickT rfl rfl rfl rfl trivial ?_
          exact L.nil fun a w hh => hh.cutK 7 rfl
        · refine L.pass rfl rfl rfl ⟨_, _, rfl, rfl, rfl⟩ ?_
          refine L.pass rfl rfl rfl ⟨_, _, rfl, rfl, rfl⟩ ?_
          refine L.pass rfl rfl rfl ⟨_, _, rfl, rfl, rfl⟩ ?_
          refine L.pass rfl rfl rfl ⟨_, _, rfl, rfl, rfl⟩ ?_
          refine L.pass rfl rfl rfl ⟨_, _, rfl, rfl, rfl⟩ ?_
          refine L.pass rfl rfl rfl ⟨_, _, rfl, rfl, rfl⟩ ?_
          refine L.pass rfl rfl rfl ⟨_, _, rfl, rfl, rfl⟩ ?_
          refine L.pickF rfl rfl rfl rfl trivial ?_
          exact L.nil fun a w hh => hh.cutK 7 rfl
        refine L.move rfl rfl rfl trivial ?_
        refine' L.and [(false,12),(false,13)] [(false,14)] (s := 62) (p := 64) rfl rfl (fun hg7 => ?_) (fun hg7 => ?_) ?_
        rotate_left
        · refine L.callV rfl rfl rfl (fun D12 hD12 => awake_ok _) rfl ⟨_, rfl, rfl⟩ ?_
          refine L.pickT rfl rfl rfl rfl trivial ?_
          exact L.nil fun a w hh => hh.cutK 1 rfl
        · refine L.pass rfl rfl rfl ⟨_, _, rfl, rfl, rfl⟩ ?_
          refine L.pickF rfl rfl rfl rfl trivial ?_
          exact L.nil fun a w hh => hh.cutK 1 rfl
        refine L.assign rfl rfl rfl trivial ?_
        refine L.nil ?_
        refine C.next ?_
        refine C.ret ?_
        exact leave (vs := [_]) rfl rfl rfl ⟨rfl, trivial⟩ (fun D hD => congrArg Value.bool (cc_ok hz hc2))
end Go.Fs
