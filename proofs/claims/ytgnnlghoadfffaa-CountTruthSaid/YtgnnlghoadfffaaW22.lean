/- Walks: the law CountParts. -/
import Derived.Test.YtgnnlghoadfffaaW21
namespace Go.Fs
open Go.Proofs
open C1
theorem ask_inI {r : RowD} {i j : Int} (_ : RowOk r) (hi : 0 ≤ i) (hij : i ≤ j) (hj : j < r.places.length) : askErr r (partOk r i j) = askErr r true := by
  have : partOk r i j = true := by simp only [partOk, Bool.and_eq_true, inB_iff]; omega
  rw [this]
theorem ch_bound {r : RowD} {i j : Int} (hok : RowOk r) (hi : 0 ≤ i) (hij : i ≤ j) (hj : j < r.places.length) : 0 ≤ (chV r i j).1 ∧ (chV r i j).1 ≤ 9 ∧ 0 ≤ (chV r i j).2 ∧ (chV r i j).2 ≤ 9 := by
  unfold chV
  split
  · rename_i hz
    rw [ask_inI hok hi hij hj] at hz
    obtain ⟨_, hne, hall, hlen⟩ := ask_truths hz
    have h9 := hok.len9
    obtain ⟨t, ht, he⟩ := lo_mem (i := i.toNat) (j := j.toNat) hne
    obtain ⟨t', ht', he'⟩ := hi_mem (i := i.toNat) (j := j.toNat) hne
    have a := partOf_bound (hall t ht).2 i.toNat j.toNat (by omega)
    have b := partOf_bound (hall t' ht').2 i.toNat j.toNat (by omega)
    simp only; omega
  · simp
theorem partOf_split (t : List Int) {i k j : Nat} (h1 : i ≤ k) (h2 : k < j) : partOf t i j = partOf t i k + partOf t (k + 1) j := by
  unfold partOf
  have := sumFrom_split t i (k + 1 - i) (j - k)
  rw [show k + 1 - i + (j - k) = j + 1 - i by omega, show i + (k + 1 - i) = k + 1 by omega] at this
  rw [this, show j + 1 - (k + 1) = j - k by omega]
theorem chI {r : RowD} {i j : Int} (hask : askErr r (partOk r i j) = askErr r true) (hz : askErr r true = 0) : chV r i j = (loOf (truths r) i.toNat j.toNat, hiOf (truths r) i.toNat j.toNat) := by
  unfold chV; rw [if_pos (hask.trans hz)]
theorem cp_ok {r : RowD} {i k j : Int} (_ : RowOk r) (hz : askErr r true = 0) (e1 : askErr r (partOk r i k) = askErr r true) (e2 : askErr r (partOk r (k + 1) j) = askErr r true) (e3 : askErr r (partOk r i j) = askErr r true) (hi : 0 ≤ i) (hik : i ≤ k) (hkj : k < j) :
    ((((decide (askErr r (partOk r (k + 1) j) = 0) && decide (askErr r (partOk r i j) = 0)) && decide ((chV r i k).1 + (chV r (k + 1) j).1 ≤ (chV r i j).1)) && decide ((chV r i j).2 ≤ (chV r i k).2 + (chV r (k + 1) j).2)) && true) = true := by
  rw [chI e1 hz, chI e2 hz, chI e3 hz, e2, e3, hz]
  obtain ⟨_, hne, _, _⟩ := ask_truths hz
  obtain ⟨t, ht, he⟩ := lo_mem (i := i.toNat) (j := j.toNat) hne
  obtain ⟨t', ht', he'⟩ := hi_mem (i := i.toNat) (j := j.toNat) hne
  have s1 := partOf_split t (i := i.toNat) (k := k.toNat) (j := j.toNat) (by omega) (by omega)
  have s2 := partOf_split t' (i := i.toNat) (k := k.toNat) (j := j.toNat) (by omega) (by omega)
  rw [show k.toNat + 1 = (k + 1).toNat by omega] at s1 s2
  have a1 := lo_le (i := i.toNat) (j := k.toNat) ht
  have a2 := lo_le (i := (k + 1).toNat) (j := j.toNat) ht
  have a3 := le_hi (i := i.toNat) (j := k.toNat) ht'
  have a4 := le_hi (i := (k + 1).toNat) (j := j.toNat) ht'
  simp only [decide_true, Bool.true_and, Bool.and_true, Bool.and_eq_true, decide_eq_true_eq]
  omega
open C1
theorem CountParts_ok (rv : Value) (r : RowD) (a b c : Int) (D : Data) (hr : RowIs D rv r) (ha : 0 ≤ a ∧ a ≤ 255) (hb : 0 ≤ b ∧ b ≤ 255) (hc8 : 0 ≤ c ∧ c ≤ 255) : Fn Try.prog 9 #[rv, .int .u8 a, .int .u8 b, .int .u8 c] D (fun _ v => v = .bool true) := by
  have hr0 := hr
  obtain ⟨pv, cv, rfl, hp, hc⟩ := hr
  refine enter 112 Try.func9 rfl rfl rfl rfl fun h0 => ?_
  refine C.seq ?_
  refine C.region [(false,0),(false,1)] rfl ?_
  refine L.boxD rfl rfl rfl rfl trivial (fun q1 E1 hE1 hB1 => ?_)
  refine L.assign rfl rfl rfl trivial ?_
  refine L.nil ?_
  refine C.next ?_
  refine C.seq ?_
  refine C.seq ?_
  refine C.region [(false,0),(false,1),(false,2)] rfl ?_
  refine L.loadDW rfl Tf.a25 rfl hB1 (by first | simp | assumption) Tf.s25 List.not_mem_nil rfl trivial ?_
  refine L.callV rfl rfl rfl (fun D1 hD1 => ready_ok _ r _ (hr0.up (hD1 _ (by simp)))) rfl trivial ?_
  refine L.not rfl rfl rfl trivial ?_
  refine L.nil ?_
  refine C.next ?_
  refine C.cond rfl (fun hc1 => ?_) (fun hc1 => ?_)
  · refine C.seq ?_
    refine C.region [(false,0),(false,1)] rfl ?_
    refine L.callV rfl rfl rfl (fun D2 hD2 => awake_ok _) rfl trivial ?_
    refine L.assign rfl rfl rfl trivial ?_
    refine L.nil ?_
    refine C.next ?_
    refine C.ret ?_
    refine C.thenRet ?_
    exact leave (vs := [_]) rfl rfl rfl ⟨rfl, trivial⟩ (fun D hD => rfl)
  · obtain ⟨hlp, hlc, hok⟩ := ready_len hc1
    have hn0 := hok.len0
    have hn9 := hok.len9
    obtain ⟨i, j, hij, hjn, hpt⟩ := parted_ex r a b hok.len0 ha hb
    have hcap := truths_len r hok
    have hask := ask_in hok hij hjn
    refine C.skip ?_
    refine C.next ?_
    refine C.seq ?_
    refine C.region [(false,0),(false,1),(false,2),(false,3),(false,4),(false,5),(false,6),(false,7),(false,8)] rfl ?_
    refine L.loadDW rfl Tf.a25 rfl hB1 (by first | simp | assumption) Tf.s25 List.not_mem_nil rfl trivial ?_
    refine L.move rfl rfl rfl trivial ?_
    refine L.move rfl rfl rfl trivial ?_
    refine L.callV rfl rfl rfl (fun D3 hD3 => hpt _ _ (hr0.up (hD3 _ (by simp)))) rfl trivial ?_
    refine L.move rfl rfl rfl trivial ?_
    refine L.extract rfl rfl rfl rfl trivial ?_
    refine L.extract rfl rfl rfl rfl trivial ?_
    refine L.assign rfl rfl rfl trivial ?_
    refine L.assign rfl rfl rfl trivial ?_
    refine L.nil ?_
    refine C.next ?_
    refine C.seq ?_
    refine C.seq ?_
    refine C.region [(false,0),(false,1),(false,2)] rfl ?_
    refine L.move rfl rfl rfl trivial ?_
    refine L.move rfl rfl rfl trivial ?_
    refine L.eql rfl rfl rfl rfl trivial ?_
    refine L.nil ?_
    refine C.next ?_
    refine C.condD rfl (fun hc2 => ?_) (fun hc2 => ?_)
    · refine C.seq ?_
      refine C.region [(false,0),(false,1)] rfl ?_
      refine L.callV rfl rfl rfl (fun D4 hD4 => awake_ok _) rfl trivial ?_
      refine L.assign rfl rfl rfl trivial ?_
      refine L.nil ?_
      refine C.next ?_
      refine C.ret ?_
      refine C.thenRet ?_
      exact leave (vs := [_]) rfl rfl rfl ⟨rfl, trivial⟩ (fun D hD => rfl)
    · have hm1 := Int.emod_nonneg c (show (j : Int) - i ≠ 0 by omega)
      have hm2 := Int.emod_lt_of_pos c (show (0 : Int) < (j : Int) - i by omega)
      have e1 := ask_inI (i := i) (j := (i : Int) + c % ((j : Int) - i)) hok (by omega) (by omega) (by omega)
      have e2 := ask_inI (i := (i : Int) + c % ((j : Int) - i) + 1) (j := j) hok (by omega) (by omega) (by omega)
      refine C.skip ?_
      refine C.next ?_
      refine C.seq ?_
      refine C.region [(false,0),(false,1),(false,2),(false,3),(false,4),(false,5),(false,6),(false,7),(false,8)] rfl ?_
      refine L.move rfl rfl rfl trivial ?_
      refine L.move rfl rfl rfl trivial ?_
      refine L.convI rfl Try.underlying5 Try.underlying3 rfl (by simp only [inK]; omega) rfl trivial ?_
      refine L.move rfl rfl rfl trivial ?_
      refine L.move rfl rfl rfl trivial ?_
      refine L.sub rfl rfl rfl (by simp only [inK]; omega) rfl trivial ?_
      refine L.rem rfl rfl rfl (by omega) (by omega) (by simp only [inK]; omega) rfl trivial ?_
      refine L.add rfl rfl rfl (by simp only [inK]; omega) rfl trivial ?_
      refine L.assign rfl rfl rfl trivial ?_
      refine L.nil ?_
      refine C.next ?_
      refine C.seq ?_
      refine C.region [(false,0),(false,1),(false,2),(false,3),(false,4),(false,5),(false,6),(false,7),(false,8),(false,9),(false,10)] rfl ?_
      refine L.loadDW rfl Tf.a25 rfl hB1 (by first | simp | assumption) Tf.s25 List.not_mem_nil rfl trivial ?_
      refine L.call rfl rfl rfl (fun D5 hD5 => Row_ok _ r _ (hr0.up (hD5 _ (by simp))) (by omega) (by omega)) rfl trivial (fun v5 D5 hD5 hp5 => ?_)
      have hw := hp5
      refine L.move rfl rfl rfl trivial ?_
      refine L.move rfl rfl rfl trivial ?_
      refine L.callV rfl rfl rfl (fun D6 hD6 => Chairs2_ok _ r _ _ _ (hw.up (hD6 _ (by simp)))) rfl trivial ?_
      refine L.move rfl rfl rfl trivial ?_
      refine L.extract rfl rfl rfl rfl trivial ?_
      refine L.extract rfl rfl rfl rfl trivial ?_
      refine L.alloc rfl Tf.z29 rfl rfl trivial (fun q2 => ?_)
      refine L.storeW rfl rfl rfl rfl Tf.s29 (by first | rfl | (simp only [ints_length, *]; done) | (simp only [ints_length, *]; rfl) | (simp only [ints_length, *]; omega)) (by first | rfl | (simp only [ints_length, *]; done) | (simp only [ints_length, *]; rfl) | (simp only [ints_length, *]; omega)) (Has.head) (by first | exact ints_cell1 _ | simp [cell1]) trivial ?_
      refine L.assign rfl rfl rfl trivial ?_
      refine L.nil ?_
      refine C.next ?_
      refine C.seq ?_
      refine C.region [(false,0),(false,1),(false,2),(false,3),(false,4),(false,5),(false,6),(false,7),(false,8),(false,9),(false,10),(false,11)] rfl ?_
      refine L.loadDW rfl Tf.a25 rfl hB1 (by first | simp | assumption) Tf.s25 List.not_mem_nil rfl trivial ?_
      refine L.call rfl rfl rfl (fun D7 hD7 => Row_ok _ r _ (hr0.up (hD7 _ (by simp))) (by omega) (by omega)) rfl trivial (fun v7 D7 hD7 hp7 => ?_)
      have hw := hp7
      refine L.move rfl rfl rfl trivial ?_
      refine L.add rfl rfl rfl (by simp only [inK]; omega) rfl trivial ?_
      refine L.move rfl rfl rfl trivial ?_
      refine L.callV rfl rfl rfl (fun D8 hD8 => Chairs2_ok _ r _ _ _ (hw.up (hD8 _ (by simp)))) rfl trivial ?_
      refine L.move rfl rfl rfl trivial ?_
      refine L.extract rfl rfl rfl rfl trivial ?_
      refine L.extract rfl rfl rfl rfl trivial ?_
      refine L.alloc rfl Tf.z29 rfl rfl trivial (fun q3 => ?_)
      refine L.storeW rfl rfl rfl rfl Tf.s29 (by first | rfl | (simp only [ints_length, *]; done) | (simp only [ints_length, *]; rfl) | (simp only [ints_length, *]; omega)) (by first | rfl | (simp only [ints_length, *]; done) | (simp only [ints_length, *]; rfl) | (simp only [ints_length, *]; omega)) (Has.head) (by first | exact ints_cell1 _ | simp [cell1]) trivial ?_
      refine L.assign rfl rfl rfl trivial ?_
      refine L.nil ?_
      refine C.next ?_
      refine C.seq ?_
      refine C.region [(false,0),(false,1),(false,2),(false,3),(false,4),(false,5),(false,6),(false,7),(false,8),(false,9),(false,10)] rfl ?_
      refine L.loadDW rfl Tf.a25 rfl hB1 (by first | simp | assumption) Tf.s25 List.not_mem_nil rfl trivial ?_
      refine L.call rfl rfl rfl (fun D9 hD9 => Row_ok _ r _ (hr0.up (hD9 _ (by simp))) (by omega) (by omega)) rfl trivial (fun v9 D9 hD9 hp9 => ?_)
      have hw := hp9
      refine L.move rfl rfl rfl trivial ?_
      refine L.move rfl rfl rfl trivial ?_
      refine L.callV rfl rfl rfl (fun D10 hD10 => Chairs2_ok _ r _ _ _ (hw.up (hD10 _ (by simp)))) rfl trivial ?_
      refine L.move rfl rfl rfl trivial ?_
      refine L.extract rfl rfl rfl rfl trivial ?_
      refine L.extract rfl rfl rfl rfl trivial ?_
      refine L.alloc rfl Tf.z29 rfl rfl trivial (fun q4 => ?_)
      refine L.storeW rfl rfl rfl rfl Tf.s29 (by first | rfl | (simp only [ints_length, *]; done) | (simp only [ints_length, *]; rfl) | (simp only [ints_length, *]; omega)) (by first | rfl | (simp only [ints_length, *]; done) | (simp only [ints_length, *]; rfl) | (simp only [ints_length, *]; omega)) (Has.head) (by first | exact ints_cell1 _ | simp [cell1]) trivial ?_
      refine L.assign rfl rfl rfl trivial ?_
      refine L.nil ?_
      refine C.next ?_
      refine C.seq ?_
      refine C.seq ?_
      refine C.region [(false,0),(false,1)] rfl ?_
      refine L.move rfl rfl rfl trivial ?_
      refine L.neq rfl rfl rfl rfl trivial ?_
      refine L.nil ?_
      refine C.next ?_
      refine C.condD rfl (fun hc3 => ?_) (fun hc3 => ?_)
      · have hz : askErr r true ≠ 0 := by rw [e1] at hc3; exact hc3
        obtain ⟨ht0, ha11⟩ := ask_none hok hz
        refine C.seq ?_
        refine C.region [(false,0),(false,1),(false,2),(false,3),(false,4),(false,5),(false,6),(false,7),(false,8),(false,9),(false,10),(false,11),(false,12),(false,13),(false,14),(false,15)] rfl ?_
        refine L.move rfl rfl rfl trivial ?_
        refine L.eql rfl rfl rfl rfl trivial ?_
        refine L.move rfl rfl rfl trivial ?_
        refine' L.and [(false,3),(false,4),(false,5),(false,6)] [(false,7),(false,8),(false,9),(false,10),(false,11),(false,12),(false,13),(false,14),(false,15)] (s := 70) (p := 74) rfl rfl (fun hg1 => ?_) (fun hg1 => ?_) ?_
        rotate_left
        · refine L.move rfl rfl rfl ⟨_, rfl, rfl⟩ ?_
          refine L.move rfl rfl rfl ⟨_, rfl, rfl⟩ ?_
          refine L.eql rfl rfl rfl rfl ⟨_, rfl, rfl⟩ ?_
          refine L.pickT rfl rfl rfl rfl trivial ?_
          exact L.nil fun a w hh => hh.cutK 3 rfl
        · refine L.pass rfl rfl rfl ⟨_, _, rfl, rfl, rfl⟩ ?_
          refine L.pass rfl rfl rfl ⟨_, _, rfl, rfl, rfl⟩ ?_
          refine L.pass rfl rfl rfl ⟨_, _, rfl, rfl, rfl⟩ ?_
          refine L.pickF rfl rfl rfl rfl trivial ?_
          exact L.nil fun a w hh => hh.cutK 3 rfl
        refine L.move rfl rfl rfl trivial ?_
        refine' L.and [(false,8),(false,9),(false,10),(false,11)] [(false,12),(false,13),(false,14),(false,15)] (s := 75) (p := 79) rfl rfl (fun hg2 => ?_) (fun hg2 => ?_) ?_
        rotate_left
        · refine L.move rfl rfl rfl ⟨_, rfl, rfl⟩ ?_
          refine L.move rfl rfl rfl ⟨_, rfl, rfl⟩ ?_
          refine L.eql rfl rfl rfl rfl ⟨_, rfl, rfl⟩ ?_
          refine L.pickT rfl rfl rfl rfl trivial ?_
          exact L.nil fun a w hh => hh.cutK 3 rfl
        · refine L.pass rfl rfl rfl ⟨_, _, rfl, rfl, rfl⟩ ?_
          refine L.pass rfl rfl rfl ⟨_, _, rfl, rfl, rfl⟩ ?_
          refine L.pass rfl rfl rfl ⟨_, _, rfl, rfl, rfl⟩ ?_
          refine L.pickF rfl rfl rfl rfl trivial ?_
          exact L.nil fun a w hh => hh.cutK 3 rfl
        refine L.move rfl rfl rfl trivial ?_
        refine' L.and [(false,13),(false,14)] [(false,15)] (s := 80) (p := 82) rfl rfl (fun hg3 => ?_) (fun hg3 => ?_) ?_
        rotate_left
        · refine L.callV rfl rfl rfl (fun D11 hD11 => awake_ok _) rfl ⟨_, rfl, rfl⟩ ?_
          refine L.pickT rfl rfl rfl rfl trivial ?_
          exact L.nil fun a w hh => hh.cutK 1 rfl
        · refine L.pass rfl rfl rfl ⟨_, _, rfl, rfl, rfl⟩ ?_
          refine L.pickF rfl rfl rfl rfl trivial ?_
          exact L.nil fun a w hh => hh.cutK 1 rfl
        refine L.assign rfl rfl rfl trivial ?_
        refine L.nil ?_
        refine C.next ?_
        refine C.ret ?_
        refine C.thenRet ?_
        exact leave (vs := [_]) rfl rfl rfl ⟨rfl, trivial⟩ (fun D hD => congrArg Value.bool (by rw [e1, e2, hask, ha11]; rfl))
      · have hz : askErr r true = 0 := by rw [e1] at hc3; omega
        have b1 := ch_bound (i := i) (j := (i : Int) + c % ((j : Int) - i)) hok (by omega) (by omega) (by omega)
        have b2 := ch_bound (i := (i : Int) + c % ((j : Int) - i) + 1) (j := j) hok (by omega) (by omega) (by omega)
        refine C.skip ?_
        refine C.next ?_
        refine C.seq ?_
        refine C.region [(false,0),(false,1),(false,2),(false,3),(false,4),(false,5),(false,6),(false,7),(false,8),(false,9),(false,10),(false,11),(false,12),(false,13),(false,14),(false,15),(false,16),(false,17),(false,18),(false,19),(false,20),(false,21),(false,22),(false,23),(false,24),(false,25),(false,26),(false,27),(false,28),(false,29)] rfl ?_
        refine L.move rfl rfl rfl trivial ?_
        refine L.eql rfl rfl rfl rfl trivial ?_
        refine L.move rfl rfl rfl trivial ?_
        refine' L.and [(false,3),(false,4),(false,5)] [(false,6),(false,7),(false,8),(false,9),(false,10),(false,11),(false,12),(false,13),(false,14),(false,15),(false,16),(false,17),(false,18),(false,19),(false,20),(false,21),(false,22),(false,23),(false,24),(false,25),(false,26),(false,27),(false,28),(false,29)] (s := 85) (p := 88) rfl rfl (fun hg4 => ?_) (fun hg4 => ?_) ?_
        rotate_left
        · refine L.move rfl rfl rfl ⟨_, rfl, rfl⟩ ?_
          refine L.eql rfl rfl rfl rfl ⟨_, rfl, rfl⟩ ?_
          refine L.pickT rfl rfl rfl rfl trivial ?_
          exact L.nil fun a w hh => hh.cutK 2 rfl
        · refine L.pass rfl rfl rfl ⟨_, _, rfl, rfl, rfl⟩ ?_
          refine L.pass rfl rfl rfl ⟨_, _, rfl, rfl, rfl⟩ ?_
          refine L.pickF rfl rfl rfl rfl trivial ?_
          exact L.nil fun a w hh => hh.cutK 2 rfl
        refine L.move rfl rfl rfl trivial ?_
        refine' L.and [(false,7),(false,8),(false,9),(false,10),(false,11),(false,12),(false,13),(false,14),(false,15)] [(false,16),(false,17),(false,18),(false,19),(false,20),(false,21),(false,22),(false,23),(false,24),(false,25),(false,26),(false,27),(false,28),(false,29)] (s := 89) (p := 98) rfl rfl (fun hg5 => ?_) (fun hg5 => ?_) ?_
        rotate_left
        · refine L.fieldAddr rfl Tf.f29_0 rfl rfl ⟨_, rfl, rfl⟩ ?_
          refine L.loadB1 rfl Tf.a3 rfl (List.Mem.head _) rfl List.not_mem_nil rfl ⟨_, rfl, rfl⟩ ?_
          refine L.fieldAddr rfl Tf.f29_0 rfl rfl ⟨_, rfl, rfl⟩ ?_
          refine L.loadB1 rfl Tf.a3 rfl (List.Mem.tail _ (List.Mem.tail _ (List.Mem.head _))) rfl List.not_mem_nil rfl ⟨_, rfl, rfl⟩ ?_
          refine L.fieldAddr rfl Tf.f29_0 rfl rfl ⟨_, rfl, rfl⟩ ?_
          refine L.loadB1 rfl Tf.a3 rfl (List.Mem.tail _ (List.Mem.head _)) rfl List.not_mem_nil rfl ⟨_, rfl, rfl⟩ ?_
          refine L.add rfl rfl rfl (by simp only [inK]; omega) rfl ⟨_, rfl, rfl⟩ ?_
          refine L.geq rfl rfl rfl rfl ⟨_, rfl, rfl⟩ ?_
          refine L.pickT rfl rfl rfl rfl trivial ?_
          exact L.nil fun a w hh => hh.cutK 8 rfl
        · refine L.pass rfl rfl rfl ⟨_, _, rfl, rfl, rfl⟩ ?_
          refine L.pass rfl rfl rfl ⟨_, _, rfl, rfl, rfl⟩ ?_
          refine L.pass rfl rfl rfl ⟨_, _, rfl, rfl, rfl⟩ ?_
          refine L.pass rfl rfl rfl ⟨_, _, rfl, rfl, rfl⟩ ?_
          refine L.pass rfl rfl rfl ⟨_, _, rfl, rfl, rfl⟩ ?_
          refine L.pass rfl rfl rfl ⟨_, _, rfl, rfl, rfl⟩ ?_
          refine L.pass rfl rfl rfl ⟨_, _, rfl, rfl, rfl⟩ ?_
          refine L.pass rfl rfl rfl ⟨_, _, rfl, rfl, rfl⟩ ?_
          refine L.pickF rfl rfl rfl rfl trivial ?_
          exact L.nil fun a w hh => hh.cutK 8 rfl
        refine L.move rfl rfl rfl trivial ?_
        refine' L.and [(false,17),(false,18),(false,19),(false,20),(false,21),(false,22),(false,23),(false,24),(false,25)] [(false,26),(false,27),(false,28),(false,29)] (s := 99) (p := 108) rfl rfl (fun hg6 => ?_) (fun hg6 => ?_) ?_
        rotate_left
        · refine L.fieldAddr rfl Tf.f29_1 rfl rfl ⟨_, rfl, rfl⟩ ?_
          refine L.loadB1 rfl Tf.a3 rfl (List.Mem.head _) rfl List.not_mem_nil rfl ⟨_, rfl, rfl⟩ ?_
          refine L.fieldAddr rfl Tf.f29_1 rfl rfl ⟨_, rfl, rfl⟩ ?_
          refine L.loadB1 rfl Tf.a3 rfl (List.Mem.tail _ (List.Mem.tail _ (List.Mem.head _))) rfl List.not_mem_nil rfl ⟨_, rfl, rfl⟩ ?_
          refine L.fieldAddr rfl Tf.f29_1 rfl rfl ⟨_, rfl, rfl⟩ ?_
          refine L.loadB1 rfl Tf.a3 rfl (List.Mem.tail _ (List.Mem.head _)) rfl List.not_mem_nil rfl ⟨_, rfl, rfl⟩ ?_
          refine L.add rfl rfl rfl (by simp only [inK]; omega) rfl ⟨_, rfl, rfl⟩ ?_
          refine L.leq rfl rfl rfl rfl ⟨_, rfl, rfl⟩ ?_
          refine L.pickT rfl rfl rfl rfl trivial ?_
          exact L.nil fun a w hh => hh.cutK 8 rfl
        · refine L.pass rfl rfl rfl ⟨_, _, rfl, rfl, rfl⟩ ?_
          refine L.pass rfl rfl rfl ⟨_, _, rfl, rfl, rfl⟩ ?_
          refine L.pass rfl rfl rfl ⟨_, _, rfl, rfl, rfl⟩ ?_
          refine L.pass rfl rfl rfl ⟨_, _, rfl, rfl, rfl⟩ ?_
          refine L.pass rfl rfl rfl ⟨_, _, rfl, rfl, rfl⟩ ?_
          refine L.pass rfl rfl rfl ⟨_, _, rfl, rfl, rfl⟩ ?_
          refine L.pass rfl rfl rfl ⟨_, _, rfl, rfl, rfl⟩ ?_
          refine L.pass rfl rfl rfl ⟨_, _, rfl, rfl, rfl⟩ ?_
          refine L.pickF rfl rfl rfl rfl trivial ?_
          exact L.nil fun a w hh => hh.cutK 8 rfl
        refine L.move rfl rfl rfl trivial ?_
        refine' L.and [(false,27),(false,28)] [(false,29)] (s := 109) (p := 111) rfl rfl (fun hg7 => ?_) (fun hg7 => ?_) ?_
        rotate_left
        · refine L.callV rfl rfl rfl (fun D12 hD12 => awake_ok _) rfl ⟨_, rfl, rfl⟩ ?_
          refine L.pickT rfl rfl rfl rfl trivial ?_
          exact L.nil fun a w hh => hh.cutK 1 rfl
        · refine L.pass rfl rfl rfl ⟨_, _, rfl, rfl, rfl⟩ ?_
          refine L.pickF rfl rfl rfl rfl trivial ?_
          exact L.nil fun a w hh => hh.cutK 1 rfl
        refine L.assign rfl rfl rfl trivial ?_
        refine L.nil ?_
        refine C.next ?_
        refine C.ret ?_
        exact leave (vs := [_]) rfl rfl rfl ⟨rfl, trivial⟩ (fun D hD => congrArg Value.bool (cp_ok hok hz e1 e2 hask (by omega) (by omega) (by omega)))
end Go.Fs
