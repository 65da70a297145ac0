/- Walks: the law CountWider. -/
import Derived.Test.YtgnnlghoadfffaaW24
namespace Go.Fs
open Go.Proofs
open C1
theorem wide_x {D : Data} {v cv : Value} {r : RowD} {pl : List Int} {W O : Int} (hp : Sl D RI 1 v pl) (hc : Sl D RC 3 cv r.counts) (h : WiderD r ⟨pl, r.counts, W, O⟩) : ∃ x, RowIs D (.agg #[v, cv, .int .i64 W, .int .i64 O]) x ∧ WiderD r x :=
  ⟨⟨pl, r.counts, W, O⟩, ⟨v, cv, rfl, hp, hc⟩, h⟩
theorem wide_set (r : RowD) (k : Nat) : WiderD r ⟨r.places.set k 2, r.counts, r.wrong, r.off⟩ := by
  refine ⟨by simp, rfl, Int.le_refl _, Int.le_refl _, fun m p h => ?_⟩
  simp only
  rw [List.getElem?_set]
  split
  · rename_i hkm
    subst hkm
    rw [if_pos (List.getElem?_eq_some_iff.1 h).1]; exact Or.inr rfl
  · exact Or.inl h
theorem cw_no {r : RowD} (hok : RowOk r) : (((!(decide (askErr r true = 0) == (decide (leastE r = 0) && decide (leastV r ≤ r.wrong)))) || (decide (askErr r true ≠ 0) && decide (askErr r true ≠ 11))) || (decide (leastE r ≠ 0) && decide (leastE r ≠ 10))) = false := by
  rcases cw_cases hok with ⟨h1, h2, h3⟩ | ⟨h1, h2 | ⟨h2, h3⟩⟩
  · simp [h1, h2, h3]
  · simp [h1, h2]
  · have : ¬ leastV r ≤ r.wrong := by omega
    simp [h1, h2, this]
theorem cw_fin {r x : RowD} (hok : RowOk r) (hokx : RowOk x) (h : WiderD r x) {i j : Nat} (hij : i ≤ j) (hj : j < r.places.length) :
    ((decide (askErr r (partOk r (i : Int) (j : Int)) ≠ 0) || (decide (askErr x (partOk x (i : Int) (j : Int)) = 0) && (decide ((chV x i j).1 ≤ (chV r i j).1) && decide ((chV r i j).2 ≤ (chV x i j).2)))) && true) = true := by
  have ha := ask_in hok hij hj
  have hb := ask_in hokx hij (by rw [h.len]; exact hj)
  rw [ha, hb]
  by_cases hz : askErr r true = 0
  · obtain ⟨_, hne, _, _⟩ := ask_truths hz
    have hs : ∀ t ∈ truths r, t ∈ truths x := fun t ht => truths_wider h ht
    have hx : askErr x true = 0 := by
      by_cases hx : askErr x true = 0
      · exact hx
      · obtain ⟨t, ht⟩ := List.exists_mem_of_ne_nil _ hne
        have := hs t ht
        rw [(ask_none hokx hx).1] at this; cases this
    rw [ch_in ha hz, ch_in hb hx]
    have a := lo_sub (i := i) (j := j) hne hs
    have b := hi_sub (i := i) (j := j) hne hs
    simp [hz, hx, a, b]
  · simp [hz]
open C1
theorem CountWider_ok (rv : Value) (r : RowD) (w y a b : Int) (D : Data) (hr : RowIs D rv r) (hw8 : 0 ≤ w ∧ w ≤ 255) (hy8 : 0 ≤ y ∧ y ≤ 255) (ha : 0 ≤ a ∧ a ≤ 255) (hb : 0 ≤ b ∧ b ≤ 255) : Fn Try.prog 10 #[rv, .int .u8 w, .int .u8 y, .int .u8 a, .int .u8 b] D (fun _ v => v = .bool true) := by
  have hr0 := hr
  obtain ⟨pv, cv, rfl, hp, hc⟩ := hr
  refine enter 134 Try.func10 rfl rfl rfl rfl fun h0 => ?_
  refine C.seq ?_
  refine C.region [(false,0),(false,1)] rfl ?_
  refine L.boxD rfl rfl rfl rfl trivial (fun q1 E1 hE1 hB1 => ?_)
  refine L.assign rfl rfl rfl trivial ?_
  refine L.nil ?_
  refine C.next ?_
  refine C.seq ?_
  refine C.seq ?_
  refine C.region [(false,0),(false,1),(false,2)] rfl ?_
  refine L.loadDW rfl Tf.a25 rfl hB1 (by first | simp | assumption) Tf.s25 List.not_mem_nil rfl trivial ?_
  refine L.callV rfl rfl rfl (fun D1 hD1 => ready_ok _ r _ (hr0.up (hD1 _ (by simp)))) rfl trivial ?_
  refine L.not rfl rfl rfl trivial ?_
  refine L.nil ?_
  refine C.next ?_
  refine C.cond rfl (fun hc1 => ?_) (fun hc1 => ?_)
  · refine C.seq ?_
    refine C.region [(false,0),(false,1)] rfl ?_
    refine L.callV rfl rfl rfl (fun D2 hD2 => awake_ok _) rfl trivial ?_
    refine L.assign rfl rfl rfl trivial ?_
    refine L.nil ?_
    refine C.next ?_
    refine C.ret ?_
    refine C.thenRet ?_
    exact leave (vs := [_]) rfl rfl rfl ⟨rfl, trivial⟩ (fun D hD => rfl)
  · obtain ⟨hlp, hlc, hok⟩ := ready_len hc1
    have hn0 := hok.len0
    have hn9 := hok.len9
    obtain ⟨i, j, hij, hjn, hpt⟩ := parted_ex r a b hok.len0 ha hb
    have hcap := truths_len r hok
    have hask := ask_in hok hij hjn
    have hwr := hok.wrong
    have hof := hok.off
    have hm1 := Int.emod_nonneg y (show (r.places.length : Int) ≠ 0 by omega)
    have hm2 := Int.emod_lt_of_pos y (show (0 : Int) < r.places.length by omega)
    refine C.skip ?_
    refine C.next ?_
    refine C.seq ?_
    refine C.region [(false,0),(false,1),(false,2)] rfl ?_
    refine L.loadDW rfl Tf.a25 rfl hB1 (by first | simp | assumption) Tf.s25 List.not_mem_nil rfl trivial ?_
    refine L.alloc rfl Tf.z25 rfl rfl trivial (fun q2 => ?_)
    refine L.storeW rfl rfl rfl rfl Tf.s25 (by first | rfl | (simp only [ints_length, *]; done) | (simp only [ints_length, *]; rfl) | (simp only [ints_length, *]; omega)) (by first | rfl | (simp only [ints_length, *]; done) | (simp only [ints_length, *]; rfl) | (simp only [ints_length, *]; omega)) (Has.head) (cell1_row hp.cell1 hc.cell1) trivial ?_
    refine L.nil ?_
    refine C.next ?_
    refine C.seq ?_
    refine C.region [(false,0),(false,1),(false,2),(false,3),(false,4)] rfl ?_
    refine L.fieldAddr rfl Tf.f25_0 rfl rfl trivial ?_
    refine L.loadD1 rfl (k := 0) Tf.a22 rfl hB1 (by first | simp | assumption) rfl List.not_mem_nil rfl trivial ?_
    refine L.callO rfl rfl rfl (fun D3 hD3 => listO_ok _ r.places _ (hp.up RI.up (hD3 _ (by simp))) (by omega)) rfl trivial (fun v3 D3 ν1 hD3 hp3 => ?_)
    have ha := hp3
    have haz := ha.cells1
    have hay := ha.cell1
    refine L.fieldAddr rfl Tf.f25_0 rfl rfl trivial ?_
    refine L.store rfl rfl rfl haz Tf.s22 (.app (Has.head)) (by simp) rfl hay trivial ?_
    refine L.nil ?_
    refine C.next ?_
    refine C.seq ?_
    refine C.seq ?_
    refine C.region [(false,0),(false,1)] rfl ?_
    refine L.move rfl rfl rfl trivial ?_
    refine L.rem rfl rfl rfl (by omega) (by omega) (by simp only [inK]; omega) rfl trivial ?_
    refine L.nil ?_
    refine C.next ?_
    refine C.block ?_
    refine C.seq ?_
    refine C.region [(false,0),(false,1)] rfl ?_
    refine L.eql rfl rfl rfl rfl trivial ?_
    refine L.assign rfl rfl rfl trivial ?_
    refine L.nil ?_
    refine C.next ?_
    refine C.condD rfl (fun hc2 => ?_) (fun hc2 => ?_)
    · refine C.region [(false,0),(false,1),(false,2),(false,3),(false,4),(false,5),(false,6),(false,7),(false,8)] rfl ?_
      refine L.fieldAddr rfl Tf.f25_2 rfl rfl trivial ?_
      refine L.loadD1 rfl (k := 2) Tf.a3 rfl hB1 (by first | simp | assumption) rfl List.not_mem_nil rfl trivial ?_
      refine L.move rfl rfl rfl trivial ?_
      refine L.convI rfl Try.underlying5 Try.underlying3 rfl (by simp only [inK]; omega) rfl trivial ?_
      refine L.rem rfl rfl rfl (by omega) (by omega) (by simp only [inK]; omega) rfl trivial ?_
      refine L.add rfl rfl rfl (by simp only [inK]; omega) rfl trivial ?_
      refine L.min2 rfl rfl rfl rfl trivial ?_
      refine L.fieldAddr rfl Tf.f25_2 rfl rfl trivial ?_
      refine L.store rfl rfl rfl rfl Tf.s3 (.app (Has.head)) (by simp) rfl (by simp [cell1]) trivial ?_
      refine L.nil ?_
      refine C.blockEnd ?_
      refine C.next ?_
      refine C.seq ?_
      refine C.seq ?_
      refine C.freeze (A := []) (B := [(_, _)]) ha rfl (fun D8 hD8 hF => ?_)
      obtain ⟨x, hxr, hwx⟩ := wide_x (r := r) (hF.ints rfl (by omega)) (hc.up RC.up (hD8 _ (by simp))) (W := min 6 (r.wrong + y % 3)) (O := r.off) ⟨rfl, rfl, by simp only; omega, Int.le_refl _, fun k p h => Or.inl h⟩
      refine C.region [(false,0),(false,1),(false,2)] rfl ?_
      refine L.loadBW rfl Tf.a25 rfl (List.Mem.head _) Tf.s25 List.not_mem_nil rfl trivial ?_
      refine L.callV rfl rfl rfl (fun D4 hD4 => ready_ok _ x _ (hxr.up (hD4 _ (by simp)))) rfl trivial ?_
      refine L.not rfl rfl rfl trivial ?_
      refine L.nil ?_
      refine C.next ?_
      refine C.cond rfl (fun hc3 => ?_) (fun hc3 => ?_)
      · refine C.seq ?_
        refine C.region [(false,0),(false,1)] rfl ?_
        refine L.callV rfl rfl rfl (fun D5 hD5 => awake_ok _) rfl trivial ?_
        refine L.assign rfl rfl rfl trivial ?_
        refine L.nil ?_
        refine C.next ?_
        refine C.ret ?_
        refine C.thenRet ?_
        exact leave (vs := [_]) rfl rfl rfl ⟨rfl, trivial⟩ (fun D hD => rfl)
      · obtain ⟨hxp, hxc, hokx⟩ := ready_len hc3
        refine C.skip ?_
        refine C.next ?_
        refine C.seq ?_
        refine C.region [(false,0),(false,1),(false,2),(false,3),(false,4),(false,5),(false,6),(false,7),(false,8)] rfl ?_
        refine L.loadDW rfl Tf.a25 rfl hB1 (by first | simp | assumption) Tf.s25 List.not_mem_nil rfl trivial ?_
        refine L.move rfl rfl rfl trivial ?_
        refine L.move rfl rfl rfl trivial ?_
        refine L.callV rfl rfl rfl (fun D6 hD6 => hpt _ _ (hr0.up (hD6 _ (by simp)))) rfl trivial ?_
        refine L.move rfl rfl rfl trivial ?_
        refine L.extract rfl rfl rfl rfl trivial ?_
        refine L.extract rfl rfl rfl rfl trivial ?_
        refine L.assign rfl rfl rfl trivial ?_
        refine L.assign rfl rfl rfl trivial ?_
        refine L.nil ?_
        refine C.next ?_
        refine C.seq ?_
        refine C.region [(false,0),(false,1),(false,2),(false,3),(false,4),(false,5),(false,6),(false,7),(false,8),(false,9),(false,10)] rfl ?_
        refine L.loadDW rfl Tf.a25 rfl hB1 (by first | simp | assumption) Tf.s25 List.not_mem_nil rfl trivial ?_
        refine L.call rfl rfl rfl (fun D7 hD7 => Row_ok _ r _ (hr0.up (hD7 _ (by simp))) (by omega) (by omega)) rfl trivial (fun v7 D7 hD7 hp7 => ?_)
        have hw := hp7
        refine L.move rfl rfl rfl trivial ?_
        refine L.move rfl rfl rfl trivial ?_
        refine L.callV rfl rfl rfl (fun D8 hD8 => Chairs2_ok _ r _ _ _ (hw.up (hD8 _ (by simp)))) rfl trivial ?_
        refine L.move rfl rfl rfl trivial ?_
        refine L.extract rfl rfl rfl rfl trivial ?_
        refine L.extract rfl rfl rfl rfl trivial ?_
        refine L.alloc rfl Tf.z29 rfl rfl trivial (fun q3 => ?_)
        refine L.storeW rfl rfl rfl rfl Tf.s29 (by first | rfl | (simp only [ints_length, *]; done) | (simp only [ints_length, *]; rfl) | (simp only [ints_length, *]; omega)) (by first | rfl | (simp only [ints_length, *]; done) | (simp only [ints_length, *]; rfl) | (simp only [ints_length, *]; omega)) (Has.head) (by first | exact ints_cell1 _ | simp [cell1]) trivial ?_
        refine L.assign rfl rfl rfl trivial ?_
        refine L.nil ?_
        refine C.next ?_
        refine C.seq ?_
        refine C.region [(false,0),(false,1),(false,2),(false,3),(false,4),(false,5),(false,6),(false,7),(false,8),(false,9),(false,10)] rfl ?_
        refine L.loadBW rfl Tf.a25 rfl (List.Mem.tail _ (List.Mem.head _)) Tf.s25 List.not_mem_nil rfl trivial ?_
        refine L.call rfl rfl rfl (fun D9 hD9 => Row_ok _ x _ (hxr.up (hD9 _ (by simp))) (by omega) (by omega)) rfl trivial (fun v9 D9 hD9 hp9 => ?_)
        have hw := hp9
        refine L.move rfl rfl rfl trivial ?_
        refine L.move rfl rfl rfl trivial ?_
        refine L.callV rfl rfl rfl (fun D10 hD10 => Chairs2_ok _ x _ _ _ (hw.up (hD10 _ (by simp)))) rfl trivial ?_
        refine L.move rfl rfl rfl trivial ?_
        refine L.extract rfl rfl rfl rfl trivial ?_
        refine L.extract rfl rfl rfl rfl trivial ?_
        refine L.alloc rfl Tf.z29 rfl rfl trivial (fun q4 => ?_)
        refine L.storeW rfl rfl rfl rfl Tf.s29 (by first | rfl | (simp only [ints_length, *]; done) | (simp only [ints_length, *]; rfl) | (simp only [ints_length, *]; omega)) (by first | rfl | (simp only [ints_length, *]; done) | (simp only [ints_length, *]; rfl) | (simp only [ints_length, *]; omega)) (Has.head) (by first | exact ints_cell1 _ | simp [cell1]) trivial ?_
        refine L.assign rfl rfl rfl trivial ?_
        refine L.nil ?_
        refine C.next ?_
        refine C.seq ?_
        refine C.region [(false,0),(false,1),(false,2),(false,3),(false,4),(false,5),(false,6),(false,7)] rfl ?_
        refine L.loadDW rfl Tf.a25 rfl hB1 (by first | simp | assumption) Tf.s25 List.not_mem_nil rfl trivial ?_
        refine L.call rfl rfl rfl (fun D11 hD11 => Row_ok _ r _ (hr0.up (hD11 _ (by simp))) (by omega) (by omega)) rfl trivial (fun v11 D11 hD11 hp11 => ?_)
        have hw := hp11
        refine L.callV rfl rfl rfl (fun D12 hD12 => Least_ok _ r _ (hw.up (hD12 _ (by simp)))) rfl trivial ?_
        refine L.move rfl rfl rfl trivial ?_
        refine L.extract rfl rfl rfl rfl trivial ?_
        refine L.extract rfl rfl rfl rfl trivial ?_
        refine L.assign rfl rfl rfl trivial ?_
        refine L.assign rfl rfl rfl trivial ?_
        refine L.nil ?_
        refine C.next ?_
        refine C.seq ?_
        refine C.seq ?_
        refine C.region [(false,0),(false,1),(false,2),(false,3),(false,4),(false,5),(false,6),(false,7),(false,8),(false,9),(false,10),(false,11),(false,12),(false,13),(false,14),(false,15),(false,16),(false,17),(false,18),(false,19),(false,20),(false,21),(false,22),(false,23),(false,24),(false,25),(false,26)] rfl ?_
        refine L.move rfl rfl rfl trivial ?_
        refine L.eql rfl rfl rfl rfl trivial ?_
        refine L.move rfl rfl rfl trivial ?_
        refine L.eql rfl rfl rfl rfl trivial ?_
        refine L.move rfl rfl rfl trivial ?_
        refine' L.and [(false,5),(false,6),(false,7),(false,8),(false,9)] [(false,10),(false,11),(false,12),(false,13),(false,14),(false,15),(false,16),(false,17),(false,18),(false,19),(false,20),(false,21),(false,22),(false,23),(false,24),(false,25),(false,26)] (s := 97) (p := 102) rfl rfl (fun hg1 => ?_) (fun hg1 => ?_) ?_
        rotate_left
        · refine L.move rfl rfl rfl ⟨_, rfl, rfl⟩ ?_
          refine L.fieldAddr rfl Tf.f25_2 rfl rfl ⟨_, rfl, rfl⟩ ?_
          refine L.loadD1 rfl (k := 2) Tf.a3 rfl hB1 (by first | simp | assumption) rfl List.not_mem_nil rfl ⟨_, rfl, rfl⟩ ?_
          refine L.leq rfl rfl rfl rfl ⟨_, rfl, rfl⟩ ?_
          refine L.pickT rfl rfl rfl rfl trivial ?_
          exact L.nil fun a w hh => hh.cutK 4 rfl
        · refine L.pass rfl rfl rfl ⟨_, _, rfl, rfl, rfl⟩ ?_
          refine L.pass rfl rfl rfl ⟨_, _, rfl, rfl, rfl⟩ ?_
          refine L.pass rfl rfl rfl ⟨_, _, rfl, rfl, rfl⟩ ?_
          refine L.pass rfl rfl rfl ⟨_, _, rfl, rfl, rfl⟩ ?_
          refine L.pickF rfl rfl rfl rfl trivial ?_
          exact L.nil fun a w hh => hh.cutK 4 rfl
        refine L.neqB rfl Try.underlying4 rfl rfl rfl trivial ?_
        refine L.move rfl rfl rfl trivial ?_
        refine' L.or [(false,12),(false,13),(false,14),(false,15),(false,16),(false,17),(false,18)] [(false,19),(false,20),(false,21),(false,22),(false,23),(false,24),(false,25),(false,26)] (s := 104) (p := 111) rfl rfl (fun hg2 => ?_) (fun hg2 => ?_) ?_
        rotate_left
        · refine L.move rfl rfl rfl ⟨_, rfl, rfl⟩ ?_
          refine L.neq rfl rfl rfl rfl ⟨_, rfl, rfl⟩ ?_
          refine L.move rfl rfl rfl ⟨_, rfl, rfl⟩ ?_
          refine' L.and [(false,15),(false,16),(false,17)] [(false,18)] (s := 107) (p := 110) rfl rfl (fun hg3 => ?_) (fun hg3 => ?_) ?_
          rotate_left
          · refine L.move rfl rfl rfl ⟨_, rfl, rfl⟩ ?_
            refine L.neq rfl rfl rfl rfl ⟨_, rfl, rfl⟩ ?_
            refine L.pickT rfl rfl rfl rfl ⟨_, rfl, rfl⟩ ?_
            exact L.nil fun a w hh => hh.cutK 2 rfl
          · refine L.pass rfl rfl rfl ⟨_, _, rfl, rfl, rfl⟩ ?_
            refine L.pass rfl rfl rfl ⟨_, _, rfl, rfl, rfl⟩ ?_
            refine L.pickF rfl rfl rfl rfl ⟨_, rfl, rfl⟩ ?_
            exact L.nil fun a w hh => hh.cutK 2 rfl
          refine L.pickF rfl rfl rfl rfl trivial ?_
          exact L.nil fun a w hh => hh.cutK 4 rfl
        · refine L.pass rfl rfl rfl ⟨_, _, rfl, rfl, rfl⟩ ?_
          refine L.pass rfl rfl rfl ⟨_, _, rfl, rfl, rfl⟩ ?_
          refine L.pass rfl rfl rfl ⟨_, _, rfl, rfl, rfl⟩ ?_
          refine L.pass rfl rfl rfl ⟨_, _, rfl, rfl, rfl⟩ ?_
          refine L.pass rfl rfl rfl ⟨_, _, rfl, rfl, rfl⟩ ?_
          refine L.pass rfl rfl rfl ⟨_, _, rfl, rfl, rfl⟩ ?_
          refine L.pickT rfl rfl rfl rfl trivial ?_
          exact L.nil fun a w hh => hh.cutK 6 rfl
        refine L.move rfl rfl rfl trivial ?_
        refine' L.or [(false,20),(false,21),(false,22),(false,23),(false,24),(false,25),(false,26)] [] (s := 112) (p := 119) rfl rfl (fun hg4 => ?_) (fun hg4 => ?_) ?_
        rotate_left
        · refine L.move rfl rfl rfl ⟨_, rfl, rfl⟩ ?_
          refine L.neq rfl rfl rfl rfl ⟨_, rfl, rfl⟩ ?_
          refine L.move rfl rfl rfl ⟨_, rfl, rfl⟩ ?_
          refine' L.and [(false,23),(false,24),(false,25)] [(false,26)] (s := 115) (p := 118) rfl rfl (fun hg5 => ?_) (fun hg5 => ?_) ?_
          rotate_left
          · refine L.move rfl rfl rfl ⟨_, rfl, rfl⟩ ?_
            refine L.neq rfl rfl rfl rfl ⟨_, rfl, rfl⟩ ?_
            refine L.pickT rfl rfl rfl rfl ⟨_, rfl, rfl⟩ ?_
            exact L.nil fun a w hh => hh.cutK 2 rfl
          · refine L.pass rfl rfl rfl ⟨_, _, rfl, rfl, rfl⟩ ?_
            refine L.pass rfl rfl rfl ⟨_, _, rfl, rfl, rfl⟩ ?_
            refine L.pickF rfl rfl rfl rfl ⟨_, rfl, rfl⟩ ?_
            exact L.nil fun a w hh => hh.cutK 2 rfl
          refine L.pickF rfl rfl rfl rfl trivial ?_
          exact L.nil fun a w hh => hh.cutK 4 rfl
        · refine L.pass rfl rfl rfl ⟨_, _, rfl, rfl, rfl⟩ ?_
          refine L.pass rfl rfl rfl ⟨_, _, rfl, rfl, rfl⟩ ?_
          refine L.pass rfl rfl rfl ⟨_, _, rfl, rfl, rfl⟩ ?_
          refine L.pass rfl rfl rfl ⟨_, _, rfl, rfl, rfl⟩ ?_
          refine L.pass rfl rfl rfl ⟨_, _, rfl, rfl, rfl⟩ ?_
          refine L.pass rfl rfl rfl ⟨_, _, rfl, rfl, rfl⟩ ?_
          refine L.pickT rfl rfl rfl rfl trivial ?_
          exact L.nil fun a w hh => hh.cutK 6 rfl
        refine L.nil ?_
        refine C.next ?_
        refine C.cond rfl (fun hc4 => ?_) (fun hc4 => ?_)
        · exact absurd hc4 (by rw [hask, cw_no hok]; simp)
        · refine C.skip ?_
          refine C.next ?_
          refine C.seq ?_
          refine C.region [(false,0),(false,1),(false,2),(false,3),(false,4),(false,5),(false,6),(false,7),(false,8),(false,9),(false,10),(false,11),(false,12),(false,13),(false,14)] rfl ?_
          refine L.move rfl rfl rfl trivial ?_
          refine L.neq rfl rfl rfl rfl trivial ?_
          refine L.move rfl rfl rfl trivial ?_
          refine' L.or [(false,3),(false,4),(false,5),(false,6),(false,7),(false,8),(false,9),(false,10)] [(false,11),(false,12),(false,13),(false,14)] (s := 122) (p := 130) rfl rfl (fun hg6 => ?_) (fun hg6 => ?_) ?_
          rotate_left
          · refine L.move rfl rfl rfl ⟨_, rfl, rfl⟩ ?_
            refine L.eql rfl rfl rfl rfl ⟨_, rfl, rfl⟩ ?_
            refine L.move rfl rfl rfl ⟨_, rfl, rfl⟩ ?_
            refine' L.and [(false,6),(false,7),(false,8),(false,9)] [(false,10)] (s := 125) (p := 129) rfl rfl (fun hg7 => ?_) (fun hg7 => ?_) ?_
            rotate_left
            · refine L.loadBW rfl Tf.a29 rfl (List.Mem.tail _ (List.Mem.head _)) Tf.s29 List.not_mem_nil rfl ⟨_, rfl, rfl⟩ ?_
              refine L.loadBW rfl Tf.a29 rfl (List.Mem.head _) Tf.s29 List.not_mem_nil rfl ⟨_, rfl, rfl⟩ ?_
              refine L.callV rfl rfl rfl (fun D13 hD13 => inside2_ok (chV r i j) (chV x i j) _) rfl ⟨_, rfl, rfl⟩ ?_
              refine L.pickT rfl rfl rfl rfl ⟨_, rfl, rfl⟩ ?_
              exact L.nil fun a w hh => hh.cutK 3 rfl
            · refine L.pass rfl rfl rfl ⟨_, _, rfl, rfl, rfl⟩ ?_
              refine L.pass rfl rfl rfl ⟨_, _, rfl, rfl, rfl⟩ ?_
              refine L.pass rfl rfl rfl ⟨_, _, rfl, rfl, rfl⟩ ?_
              refine L.pickF rfl rfl rfl rfl ⟨_, rfl, rfl⟩ ?_
              exact L.nil fun a w hh => hh.cutK 3 rfl
            refine L.pickF rfl rfl rfl rfl trivial ?_
            exact L.nil fun a w hh => hh.cutK 4 rfl
          · refine L.pass rfl rfl rfl ⟨_, _, rfl, rfl, rfl⟩ ?_
            refine L.pass rfl rfl rfl ⟨_, _, rfl, rfl, rfl⟩ ?_
            refine L.pass rfl rfl rfl ⟨_, _, rfl, rfl, rfl⟩ ?_
            refine L.pass rfl rfl rfl ⟨_, _, rfl, rfl, rfl⟩ ?_
            refine L.pass rfl rfl rfl ⟨_, _, rfl, rfl, rfl⟩ ?_
            refine L.pass rfl rfl rfl ⟨_, _, rfl, rfl, rfl⟩ ?_
            refine L.pass rfl rfl rfl ⟨_, _, rfl, rfl, rfl⟩ ?_
            refine L.pickT rfl rfl rfl rfl trivial ?_
            exact L.nil fun a w hh => hh.cutK 7 rfl
          refine L.move rfl rfl rfl trivial ?_
          refine' L.and [(false,12),(false,13)] [(false,14)] (s := 131) (p := 133) rfl rfl (fun hg8 => ?_) (fun hg8 => ?_) ?_
          rotate_left
          · refine L.callV rfl rfl rfl (fun D14 hD14 => awake_ok _) rfl ⟨_, rfl, rfl⟩ ?_
            refine L.pickT rfl rfl rfl rfl trivial ?_
            exact L.nil fun a w hh => hh.cutK 1 rfl
          · refine L.pass rfl rfl rfl ⟨_, _, rfl, rfl, rfl⟩ ?_
            refine L.pickF rfl rfl rfl rfl trivial ?_
            exact L.nil fun a w hh => hh.cutK 1 rfl
          refine L.assign rfl rfl rfl trivial ?_
          refine L.nil ?_
          refine C.next ?_
          refine C.ret ?_
          exact leave (vs := [_]) rfl rfl rfl ⟨rfl, trivial⟩ (fun D hD => congrArg Value.bool (cw_fin hok hokx hwx hij hjn))
    · refine C.seq ?_
      refine C.region [(false,0),(false,1)] rfl ?_
      refine L.eql rfl rfl rfl rfl trivial ?_
      refine L.assign rfl rfl rfl trivial ?_
      refine L.nil ?_
      refine C.next ?_
      refine C.condD rfl (fun hc5 => ?_) (fun hc5 => ?_)
      · refine C.region [(false,0),(false,1),(false,2),(false,3),(false,4),(false,5),(false,6),(false,7),(false,8)] rfl ?_
        refine L.fieldAddr rfl Tf.f25_3 rfl rfl trivial ?_
        refine L.loadD1 rfl (k := 3) Tf.a3 rfl hB1 (by first | simp | assumption) rfl List.not_mem_nil rfl trivial ?_
        refine L.move rfl rfl rfl trivial ?_
        refine L.convI rfl Try.underlying5 Try.underlying3 rfl (by simp only [inK]; omega) rfl trivial ?_
        refine L.rem rfl rfl rfl (by omega) (by omega) (by simp only [inK]; omega) rfl trivial ?_
        refine L.add rfl rfl rfl (by simp only [inK]; omega) rfl trivial ?_
        refine L.min2 rfl rfl rfl rfl trivial ?_
        refine L.fieldAddr rfl Tf.f25_3 rfl rfl trivial ?_
        refine L.store rfl rfl rfl rfl Tf.s3 (.app (Has.head)) (by simp) rfl (by simp [cell1]) trivial ?_
        refine L.nil ?_
        refine C.blockEnd ?_
        refine C.next ?_
        refine C.seq ?_
        refine C.seq ?_
        refine C.freeze (A := []) (B := [(_, _)]) ha rfl (fun D8 hD8 hF => ?_)
        obtain ⟨x, hxr, hwx⟩ := wide_x (r := r) (hF.ints rfl (by omega)) (hc.up RC.up (hD8 _ (by simp))) (W := r.wrong) (O := min 9 (r.off + y % 3)) ⟨rfl, rfl, Int.le_refl _, by simp only; omega, fun k p h => Or.inl h⟩
        refine C.region [(false,0),(false,1),(false,2)] rfl ?_
        refine L.loadBW rfl Tf.a25 rfl (List.Mem.head _) Tf.s25 List.not_mem_nil rfl trivial ?_
        refine L.callV rfl rfl rfl (fun D15 hD15 => ready_ok _ x _ (hxr.up (hD15 _ (by simp)))) rfl trivial ?_
        refine L.not rfl rfl rfl trivial ?_
        refine L.nil ?_
        refine C.next ?_
        refine C.cond rfl (fun hc6 => ?_) (fun hc6 => ?_)
        · refine C.seq ?_
          refine C.region [(false,0),(false,1)] rfl ?_
          refine L.callV rfl rfl rfl (fun D16 hD16 => awake_ok _) rfl trivial ?_
          refine L.assign rfl rfl rfl trivial ?_
          refine L.nil ?_
          refine C.next ?_
          refine C.ret ?_
          refine C.thenRet ?_
          exact leave (vs := [_]) rfl rfl rfl ⟨rfl, trivial⟩ (fun D hD => rfl)
        · obtain ⟨hxp, hxc, hokx⟩ := ready_len hc6
          refine C.skip ?_
          refine C.next ?_
          refine C.seq ?_
          refine C.region [(false,0),(false,1),(false,2),(false,3),(false,4),(false,5),(false,6),(false,7),(false,8)] rfl ?_
          refine L.loadDW rfl Tf.a25 rfl hB1 (by first | simp | assumption) Tf.s25 List.not_mem_nil rfl trivial ?_
          refine L.move rfl rfl rfl trivial ?_
          refine L.move rfl rfl rfl trivial ?_
          refine L.callV rfl rfl rfl (fun D17 hD17 => hpt _ _ (hr0.up (hD17 _ (by simp)))) rfl trivial ?_
          refine L.move rfl rfl rfl trivial ?_
          refine L.extract rfl rfl rfl rfl trivial ?_
          refine L.extract rfl rfl rfl rfl trivial ?_
          refine L.assign rfl rfl rfl trivial ?_
          refine L.assign rfl rfl rfl trivial ?_
          refine L.nil ?_
          refine C.next ?_
          refine C.seq ?_
          refine C.region [(false,0),(false,1),(false,2),(false,3),(false,4),(false,5),(false,6),(false,7),(false,8),(false,9),(false,10)] rfl ?_
          refine L.loadDW rfl Tf.a25 rfl hB1 (by first | simp | assumption) Tf.s25 List.not_mem_nil rfl trivial ?_
          refine L.call rfl rfl rfl (fun D18 hD18 => Row_ok _ r _ (hr0.up (hD18 _ (by simp))) (by omega) (by omega)) rfl trivial (fun v18 D18 hD18 hp18 => ?_)
          have hw := hp18
          refine L.move rfl rfl rfl trivial ?_
          refine L.move rfl rfl rfl trivial ?_
          refine L.callV rfl rfl rfl (fun D19 hD19 => Chairs2_ok _ r _ _ _ (hw.up (hD19 _ (by simp)))) rfl trivial ?_
          refine L.move rfl rfl rfl trivial ?_
          refine L.extract rfl rfl rfl rfl trivial ?_
          refine L.extract rfl rfl rfl rfl trivial ?_
          refine L.alloc rfl Tf.z29 rfl rfl trivial (fun q5 => ?_)
          refine L.storeW rfl rfl rfl rfl Tf.s29 (by first | rfl | (simp only [ints_length, *]; done) | (simp only [ints_length, *]; rfl) | (simp only [ints_length, *]; omega)) (by first | rfl | (simp only [ints_length, *]; done) | (simp only [ints_length, *]; rfl) | (simp only [ints_length, *]; omega)) (Has.head) (by first | exact ints_cell1 _ | simp [cell1]) trivial ?_
          refine L.assign rfl rfl rfl trivial ?_
          refine L.nil ?_
          refine C.next ?_
          refine C.seq ?_
          refine C.region [(false,0),(false,1),(false,2),(false,3),(false,4),(false,5),(false,6),(false,7),(false,8),(false,9),(false,10)] rfl ?_
          refine L.loadBW rfl Tf.a25 rfl (List.Mem.tail _ (List.Mem.head _)) Tf.s25 List.not_mem_nil rfl trivial ?_
          refine L.call rfl rfl rfl (fun D20 hD20 => Row_ok _ x _ (hxr.up (hD20 _ (by simp))) (by omega) (by omega)) rfl trivial (fun v20 D20 hD20 hp20 => ?_)
          have hw := hp20
          refine L.move rfl rfl rfl trivial ?_
          refine L.move rfl rfl rfl trivial ?_
          refine L.callV rfl rfl rfl (fun D21 hD21 => Chairs2_ok _ x _ _ _ (hw.up (hD21 _ (by simp)))) rfl trivial ?_
          refine L.move rfl rfl rfl trivial ?_
          refine L.extract rfl rfl rfl rfl trivial ?_
          refine L.extract rfl rfl rfl rfl trivial ?_
          refine L.alloc rfl Tf.z29 rfl rfl trivial (fun q6 => ?_)
          refine L.storeW rfl rfl rfl rfl Tf.s29 (by first | rfl | (simp only [ints_length, *]; done) | (simp only [ints_length, *]; rfl) | (simp only [ints_length, *]; omega)) (by first | rfl | (simp only [ints_length, *]; done) | (simp only [ints_length, *]; rfl) | (simp only [ints_length, *]; omega)) (Has.head) (by first | exact ints_cell1 _ | simp [cell1]) trivial ?_
          refine L.assign rfl rfl rfl trivial ?_
          refine L.nil ?_
          refine C.next ?_
          refine C.seq ?_
          refine C.region [(false,0),(false,1),(false,2),(false,3),(false,4),(false,5),(false,6),(false,7)] rfl ?_
          refine L.loadDW rfl Tf.a25 rfl hB1 (by first | simp | assumption) Tf.s25 List.not_mem_nil rfl trivial ?_
          refine L.call rfl rfl rfl (fun D22 hD22 => Row_ok _ r _ (hr0.up (hD22 _ (by simp))) (by omega) (by omega)) rfl trivial (fun v22 D22 hD22 hp22 => ?_)
          have hw := hp22
          refine L.callV rfl rfl rfl (fun D23 hD23 => Least_ok _ r _ (hw.up (hD23 _ (by simp)))) rfl trivial ?_
          refine L.move rfl rfl rfl trivial ?_
          refine L.extract rfl rfl rfl rfl trivial ?_
          refine L.extract rfl rfl rfl rfl trivial ?_
          refine L.assign rfl rfl rfl trivial ?_
          refine L.assign rfl rfl rfl trivial ?_
          refine L.nil ?_
          refine C.next ?_
          refine C.seq ?_
          refine C.seq ?_
          refine C.region [(false,0),(false,1),(false,2),(false,3),(false,4),(false,5),(false,6),(false,7),(false,8),(false,9),(false,10),(false,11),(false,12),(false,13),(false,14),(false,15),(false,16),(false,17),(false,18),(false,19),(false,20),(false,21),(false,22),(false,23),(false,24),(false,25),(false,26)] rfl ?_
          refine L.move rfl rfl rfl trivial ?_
          refine L.eql rfl rfl rfl rfl trivial ?_
          refine L.move rfl rfl rfl trivial ?_
          refine L.eql rfl rfl rfl rfl trivial ?_
          refine L.move rfl rfl rfl trivial ?_
          refine' L.and [(false,5),(false,6),(false,7),(false,8),(false,9)] [(false,10),(false,11),(false,12),(false,13),(false,14),(false,15),(false,16),(false,17),(false,18),(false,19),(false,20),(false,21),(false,22),(false,23),(false,24),(false,25),(false,26)] (s := 97) (p := 102) rfl rfl (fun hg9 => ?_) (fun hg9 => ?_) ?_
          rotate_left
          · refine L.move rfl rfl rfl ⟨_, rfl, rfl⟩ ?_
            refine L.fieldAddr rfl Tf.f25_2 rfl rfl ⟨_, rfl, rfl⟩ ?_
            refine L.loadD1 rfl (k := 2) Tf.a3 rfl hB1 (by first | simp | assumption) rfl List.not_mem_nil rfl ⟨_, rfl, rfl⟩ ?_
            refine L.leq rfl rfl rfl rfl ⟨_, rfl, rfl⟩ ?_
            refine L.pickT rfl rfl rfl rfl trivial ?_
            exact L.nil fun a w hh => hh.cutK 4 rfl
          · refine L.pass rfl rfl rfl ⟨_, _, rfl, rfl, rfl⟩ ?_
            refine L.pass rfl rfl rfl ⟨_, _, rfl, rfl, rfl⟩ ?_
            refine L.pass rfl rfl rfl ⟨_, _, rfl, rfl, rfl⟩ ?_
            refine L.pass rfl rfl rfl ⟨_, _, rfl, rfl, rfl⟩ ?_
            refine L.pickF rfl rfl rfl rfl trivial ?_
            exact L.nil fun a w hh => hh.cutK 4 rfl
          refine L.neqB rfl Try.underlying4 rfl rfl rfl trivial ?_
          refine L.move rfl rfl rfl trivial ?_
          refine' L.or [(false,12),(false,13),(false,14),(false,15),(false,16),(false,17),(false,18)] [(false,19),(false,20),(false,21),(false,22),(false,23),(false,24),(false,25),(false,26)] (s := 104) (p := 111) rfl rfl (fun hg10 => ?_) (fun hg10 => ?_) ?_
          rotate_left
          · refine L.move rfl rfl rfl ⟨_, rfl, rfl⟩ ?_
            refine L.neq rfl rfl rfl rfl ⟨_, rfl, rfl⟩ ?_
            refine L.move rfl rfl rfl ⟨_, rfl, rfl⟩ ?_
            refine' L.and [(false,15),(false,16),(false,17)] [(false,18)] (s := 107) (p := 110) rfl rfl (fun hg11 => ?_) (fun hg11 => ?_) ?_
            rotate_left
            · refine L.move rfl rfl rfl ⟨_, rfl, rfl⟩ ?_
              refine L.neq rfl rfl rfl rfl ⟨_, rfl, rfl⟩ ?_
              refine L.pickT rfl rfl rfl rfl ⟨_, rfl, rfl⟩ ?_
              exact L.nil fun a w hh => hh.cutK 2 rfl
            · refine L.pass rfl rfl rfl ⟨_, _, rfl, rfl, rfl⟩ ?_
              refine L.pass rfl rfl rfl ⟨_, _, rfl, rfl, rfl⟩ ?_
              refine L.pickF rfl rfl rfl rfl ⟨_, rfl, rfl⟩ ?_
              exact L.nil fun a w hh => hh.cutK 2 rfl
            refine L.pickF rfl rfl rfl rfl trivial ?_
            exact L.nil fun a w hh => hh.cutK 4 rfl
          · refine L.pass rfl rfl rfl ⟨_, _, rfl, rfl, rfl⟩ ?_
            refine L.pass rfl rfl rfl ⟨_, _, rfl, rfl, rfl⟩ ?_
            refine L.pass rfl rfl rfl ⟨_, _, rfl, rfl, rfl⟩ ?_
            refine L.pass rfl rfl rfl ⟨_, _, rfl, rfl, rfl⟩ ?_
            refine L.pass rfl rfl rfl ⟨_, _, rfl, rfl, rfl⟩ ?_
            refine L.pass rfl rfl rfl ⟨_, _, rfl, rfl, rfl⟩ ?_
            refine L.pickT rfl rfl rfl rfl trivial ?_
            exact L.nil fun a w hh => hh.cutK 6 rfl
          refine L.move rfl rfl rfl trivial ?_
          refine' L.or [(false,20),(false,21),(false,22),(false,23),(false,24),(false,25),(false,26)] [] (s := 112) (p := 119) rfl rfl (fun hg12 => ?_) (fun hg12 => ?_) ?_
          rotate_left
          · refine L.move rfl rfl rfl ⟨_, rfl, rfl⟩ ?_
            refine L.neq rfl rfl rfl rfl ⟨_, rfl, rfl⟩ ?_
            refine L.move rfl rfl rfl ⟨_, rfl, rfl⟩ ?_
            refine' L.and [(false,23),(false,24),(false,25)] [(false,26)] (s := 115) (p := 118) rfl rfl (fun hg13 => ?_) (fun hg13 => ?_) ?_
            rotate_left
            · refine L.move rfl rfl rfl ⟨_, rfl, rfl⟩ ?_
              refine L.neq rfl rfl rfl rfl ⟨_, rfl, rfl⟩ ?_
              refine L.pickT rfl rfl rfl rfl ⟨_, rfl, rfl⟩ ?_
              exact L.nil fun a w hh => hh.cutK 2 rfl
            · refine L.pass rfl rfl rfl ⟨_, _, rfl, rfl, rfl⟩ ?_
              refine L.pass rfl rfl rfl ⟨_, _, rfl, rfl, rfl⟩ ?_
              refine L.pickF rfl rfl rfl rfl ⟨_, rfl, rfl⟩ ?_
              exact L.nil fun a w hh => hh.cutK 2 rfl
            refine L.pickF rfl rfl rfl rfl trivial ?_
            exact L.nil fun a w hh => hh.cutK 4 rfl
          · refine L.pass rfl rfl rfl ⟨_, _, rfl, rfl, rfl⟩ ?_
            refine L.pass rfl rfl rfl ⟨_, _, rfl, rfl, rfl⟩ ?_
            refine L.pass rfl rfl rfl ⟨_, _, rfl, rfl, rfl⟩ ?_
            refine L.pass rfl rfl rfl ⟨_, _, rfl, rfl, rfl⟩ ?_
            refine L.pass rfl rfl rfl ⟨_, _, rfl, rfl, rfl⟩ ?_
            refine L.pass rfl rfl rfl ⟨_, _, rfl, rfl, rfl⟩ ?_
            refine L.pickT rfl rfl rfl rfl trivial ?_
            exact L.nil fun a w hh => hh.cutK 6 rfl
          refine L.nil ?_
          refine C.next ?_
          refine C.cond rfl (fun hc7 => ?_) (fun hc7 => ?_)
          · exact absurd hc7 (by rw [hask, cw_no hok]; simp)
          · refine C.skip ?_
            refine C.next ?_
            refine C.seq ?_
            refine C.region [(false,0),(false,1),(false,2),(false,3),(false,4),(false,5),(false,6),(false,7),(false,8),(false,9),(false,10),(false,11),(false,12),(false,13),(false,14)] rfl ?_
            refine L.move rfl rfl rfl trivial ?_
            refine L.neq rfl rfl rfl rfl trivial ?_
            refine L.move rfl rfl rfl trivial ?_
            refine' L.or [(false,3),(false,4),(false,5),(false,6),(false,7),(false,8),(false,9),(false,10)] [(false,11),(false,12),(false,13),(false,14)] (s := 122) (p := 130) rfl rfl (fun hg14 => ?_) (fun hg14 => ?_) ?_
            rotate_left
            · refine L.move rfl rfl rfl ⟨_, rfl, rfl⟩ ?_
              refine L.eql rfl rfl rfl rfl ⟨_, rfl, rfl⟩ ?_
              refine L.move rfl rfl rfl ⟨_, rfl, rfl⟩ ?_
              refine' L.and [(false,6),(false,7),(false,8),(false,9)] [(false,10)] (s := 125) (p := 129) rfl rfl (fun hg15 => ?_) (fun hg15 => ?_) ?_
              rotate_left
              · refine L.loadBW rfl Tf.a29 rfl (List.Mem.tail _ (List.Mem.head _)) Tf.s29 List.not_mem_nil rfl ⟨_, rfl, rfl⟩ ?_
                refine L.loadBW rfl Tf.a29 rfl (List.Mem.head _) Tf.s29 List.not_mem_nil rfl ⟨_, rfl, rfl⟩ ?_
                refine L.callV rfl rfl rfl (fun D24 hD24 => inside2_ok (chV r i j) (chV x i j) _) rfl ⟨_, rfl, rfl⟩ ?_
                refine L.pickT rfl rfl rfl rfl ⟨_, rfl, rfl⟩ ?_
                exact L.nil fun a w hh => hh.cutK 3 rfl
              · refine L.pass rfl rfl rfl ⟨_, _, rfl, rfl, rfl⟩ ?_
                refine L.pass rfl rfl rfl ⟨_, _, rfl, rfl, rfl⟩ ?_
                refine L.pass rfl rfl rfl ⟨_, _, rfl, rfl, rfl⟩ ?_
                refine L.pickF rfl rfl rfl rfl ⟨_, rfl, rfl⟩ ?_
                exact L.nil fun a w hh => hh.cutK 3 rfl
              refine L.pickF rfl rfl rfl rfl trivial ?_
              exact L.nil fun a w hh => hh.cutK 4 rfl
            · refine L.pass rfl rfl rfl ⟨_, _, rfl, rfl, rfl⟩ ?_
              refine L.pass rfl rfl rfl ⟨_, _, rfl, rfl, rfl⟩ ?_
              refine L.pass rfl rfl rfl ⟨_, _, rfl, rfl, rfl⟩ ?_
              refine L.pass rfl rfl rfl ⟨_, _, rfl, rfl, rfl⟩ ?_
              refine L.pass rfl rfl rfl ⟨_, _, rfl, rfl, rfl⟩ ?_
              refine L.pass rfl rfl rfl ⟨_, _, rfl, rfl, rfl⟩ ?_
              refine L.pass rfl rfl rfl ⟨_, _, rfl, rfl, rfl⟩ ?_
              refine L.pickT rfl rfl rfl rfl trivial ?_
              exact L.nil fun a w hh => hh.cutK 7 rfl
            refine L.move rfl rfl rfl trivial ?_
            refine' L.and [(false,12),(false,13)] [(false,14)] (s := 131) (p := 133) rfl rfl (fun hg16 => ?_) (fun hg16 => ?_) ?_
            rotate_left
            · refine L.callV rfl rfl rfl (fun D25 hD25 => awake_ok _) rfl ⟨_, rfl, rfl⟩ ?_
              refine L.pickT rfl rfl rfl rfl trivial ?_
              exact L.nil fun a w hh => hh.cutK 1 rfl
            · refine L.pass rfl rfl rfl ⟨_, _, rfl, rfl, rfl⟩ ?_
              refine L.pickF rfl rfl rfl rfl trivial ?_
              exact L.nil fun a w hh => hh.cutK 1 rfl
            refine L.assign rfl rfl rfl trivial ?_
            refine L.nil ?_
            refine C.next ?_
            refine C.ret ?_
            exact leave (vs := [_]) rfl rfl rfl ⟨rfl, trivial⟩ (fun D hD => congrArg Value.bool (cw_fin hok hokx hwx hij hjn))
      · obtain ⟨b5, cap5, junk5, rfl, hcp5, rfl, hl51, hl52⟩ := ha.some (by omega)
        refine C.draw [] 1 [0,1,2,3,4,5,6,7,8,9] [false,false,true,true,true,true,true,true,false,false] [(false,0),(false,1),(true,2),(true,3),(true,4),(true,5),(true,6),(true,7),(false,8),(false,9)] Tf.follows (fun _ _ _ h => np_body (P := Try.prog) (fn := Try.f10) _ _ _ h) (by kernel_rfl) rfl ?_
        refine L.fieldAddr rfl Tf.f25_0 rfl rfl trivial ?_
        refine L.loadB1 rfl Tf.a22 rfl (List.Mem.tail _ (List.Mem.head _)) rfl List.not_mem_nil rfl trivial ?_
        refine L.move rfl rfl rfl trivial ?_
        refine L.convI rfl Try.underlying5 Try.underlying3 rfl (by simp only [inK]; omega) rfl trivial ?_
        refine L.fieldAddr rfl Tf.f25_0 rfl rfl trivial ?_
        refine L.loadB1 rfl Tf.a22 rfl (List.Mem.tail _ (List.Mem.head _)) rfl List.not_mem_nil rfl trivial ?_
        refine L.lenAcc rfl Try.underlying22 rfl ha rfl rfl trivial ?_
        refine L.rem rfl rfl rfl (by omega) (by omega) (by simp only [inK]; omega) rfl trivial ?_
        refine L.indexP rfl Try.underlying22 Tf.s3 rfl rfl (by omega) (by omega) rfl trivial ?_
        refine L.storeO rfl Tf.s3 rfl rfl Has.head (by omega) trivial ?_
        refine L.nil ?_
        refine C.blockEnd ?_
        refine C.next ?_
        refine C.seq ?_
        refine C.seq ?_
        have haF : Acc 3 1 (.slice (some ⟨b5, 0, none⟩) r.places.length cap5) r.places.length (ints (r.places.set (y % r.places.length).toNat 2)) [(b5, .cells (ints (r.places.set (y % r.places.length).toNat 2) ++ junk5).toArray 3 (0, 0))] := Or.inr ⟨b5, cap5, junk5, rfl, hcp5, rfl, by simp [ints], by simpa [ints] using hl52⟩
        refine C.freeze (A := []) (ν := [(_, _)]) (B := [(_, _)]) haF rfl (fun D8 hD8 hF => ?_)
        obtain ⟨x, hxr, hwx⟩ := wide_x (r := r) (hF.ints (by simp) (by omega)) (hc.up RC.up (hD8 _ (by simp))) (W := r.wrong) (O := r.off) (wide_set r _)
        refine C.region [(false,0),(false,1),(false,2)] rfl ?_
        refine L.loadBW rfl Tf.a25 rfl (List.Mem.head _) Tf.s25 List.not_mem_nil rfl trivial ?_
        refine L.callV rfl rfl rfl (fun D26 hD26 => ready_ok _ x _ (hxr.up (hD26 _ (by simp)))) rfl trivial ?_
        refine L.not rfl rfl rfl trivial ?_
        refine L.nil ?_
        refine C.next ?_
        refine C.cond rfl (fun hc8 => ?_) (fun hc8 => ?_)
        · refine C.seq ?_
          refine C.region [(false,0),(false,1)] rfl ?_
          refine L.callV rfl rfl rfl (fun D27 hD27 => awake_ok _) rfl trivial ?_
          refine L.assign rfl rfl rfl trivial ?_
          refine L.nil ?_
          refine C.next ?_
          refine C.ret ?_
          refine C.thenRet ?_
          exact leave (vs := [_]) rfl rfl rfl ⟨rfl, trivial⟩ (fun D hD => rfl)
        · obtain ⟨hxp, hxc, hokx⟩ := ready_len hc8
          refine C.skip ?_
          refine C.next ?_
          refine C.seq ?_
          refine C.region [(false,0),(false,1),(false,2),(false,3),(false,4),(false,5),(false,6),(false,7),(false,8)] rfl ?_
          refine L.loadDW rfl Tf.a25 rfl hB1 (by first | simp | assumption) Tf.s25 List.not_mem_nil rfl trivial ?_
          refine L.move rfl rfl rfl trivial ?_
          refine L.move rfl rfl rfl trivial ?_
          refine L.callV rfl rfl rfl (fun D28 hD28 => hpt _ _ (hr0.up (hD28 _ (by simp)))) rfl trivial ?_
          refine L.move rfl rfl rfl trivial ?_
          refine L.extract rfl rfl rfl rfl trivial ?_
          refine L.extract rfl rfl rfl rfl trivial ?_
          refine L.assign rfl rfl rfl trivial ?_
          refine L.assign rfl rfl rfl trivial ?_
          refine L.nil ?_
          refine C.next ?_
          refine C.seq ?_
          refine C.region [(false,0),(false,1),(false,2),(false,3),(false,4),(false,5),(false,6),(false,7),(false,8),(false,9),(false,10)] rfl ?_
          refine L.loadDW rfl Tf.a25 rfl hB1 (by first | simp | assumption) Tf.s25 List.not_mem_nil rfl trivial ?_
          refine L.call rfl rfl rfl (fun D29 hD29 => Row_ok _ r _ (hr0.up (hD29 _ (by simp))) (by omega) (by omega)) rfl trivial (fun v29 D29 hD29 hp29 => ?_)
          have hw := hp29
          refine L.move rfl rfl rfl trivial ?_
          refine L.move rfl rfl rfl trivial ?_
          refine L.callV rfl rfl rfl (fun D30 hD30 => Chairs2_ok _ r _ _ _ (hw.up (hD30 _ (by simp)))) rfl trivial ?_
          refine L.move rfl rfl rfl trivial ?_
          refine L.extract rfl rfl rfl rfl trivial ?_
          refine L.extract rfl rfl rfl rfl trivial ?_
          refine L.alloc rfl Tf.z29 rfl rfl trivial (fun q7 => ?_)
          refine L.storeW rfl rfl rfl rfl Tf.s29 (by first | rfl | (simp only [ints_length, *]; done) | (simp only [ints_length, *]; rfl) | (simp only [ints_length, *]; omega)) (by first | rfl | (simp only [ints_length, *]; done) | (simp only [ints_length, *]; rfl) | (simp only [ints_length, *]; omega)) (Has.head) (by first | exact ints_cell1 _ | simp [cell1]) trivial ?_
          refine L.assign rfl rfl rfl trivial ?_
          refine L.nil ?_
          refine C.next ?_
          refine C.seq ?_
          refine C.region [(false,0),(false,1),(false,2),(false,3),(false,4),(false,5),(false,6),(false,7),(false,8),(false,9),(false,10)] rfl ?_
          refine L.loadBW rfl Tf.a25 rfl (List.Mem.tail _ (List.Mem.head _)) Tf.s25 List.not_mem_nil rfl trivial ?_
          refine L.call rfl rfl rfl (fun D31 hD31 => Row_ok _ x _ (hxr.up (hD31 _ (by simp))) (by omega) (by omega)) rfl trivial (fun v31 D31 hD31 hp31 => ?_)
          have hw := hp31
          refine L.move rfl rfl rfl trivial ?_
          refine L.move rfl rfl rfl trivial ?_
          refine L.callV rfl rfl rfl (fun D32 hD32 => Chairs2_ok _ x _ _ _ (hw.up (hD32 _ (by simp)))) rfl trivial ?_
          refine L.move rfl rfl rfl trivial ?_
          refine L.extract rfl rfl rfl rfl trivial ?_
          refine L.extract rfl rfl rfl rfl trivial ?_
          refine L.alloc rfl Tf.z29 rfl rfl trivial (fun q8 => ?_)
          refine L.storeW rfl rfl rfl rfl Tf.s29 (by first | rfl | (simp only [ints_length, *]; done) | (simp only [ints_length, *]; rfl) | (simp only [ints_length, *]; omega)) (by first | rfl | (simp only [ints_length, *]; done) | (simp only [ints_length, *]; rfl) | (simp only [ints_length, *]; omega)) (Has.head) (by first | exact ints_cell1 _ | simp [cell1]) trivial ?_
          refine L.assign rfl rfl rfl trivial ?_
          refine L.nil ?_
          refine C.next ?_
          refine C.seq ?_
          refine C.region [(false,0),(false,1),(false,2),(false,3),(false,4),(false,5),(false,6),(false,7)] rfl ?_
          refine L.loadDW rfl Tf.a25 rfl hB1 (by first | simp | assumption) Tf.s25 List.not_mem_nil rfl trivial ?_
          refine L.call rfl rfl rfl (fun D33 hD33 => Row_ok _ r _ (hr0.up (hD33 _ (by simp))) (by omega) (by omega)) rfl trivial (fun v33 D33 hD33 hp33 => ?_)
          have hw := hp33
          refine L.callV rfl rfl rfl (fun D34 hD34 => Least_ok _ r _ (hw.up (hD34 _ (by simp)))) rfl trivial ?_
          refine L.move rfl rfl rfl trivial ?_
          refine L.extract rfl rfl rfl rfl trivial ?_
          refine L.extract rfl rfl rfl rfl trivial ?_
          refine L.assign rfl rfl rfl trivial ?_
          refine L.assign rfl rfl rfl trivial ?_
          refine L.nil ?_
          refine C.next ?_
          refine C.seq ?_
          refine C.seq ?_
          refine C.region [(false,0),(false,1),(false,2),(false,3),(false,4),(false,5),(false,6),(false,7),(false,8),(false,9),(false,10),(false,11),(false,12),(false,13),(false,14),(false,15),(false,16),(false,17),(false,18),(false,19),(false,20),(false,21),(false,22),(false,23),(false,24),(false,25),(false,26)] rfl ?_
          refine L.move rfl rfl rfl trivial ?_
          refine L.eql rfl rfl rfl rfl trivial ?_
          refine L.move rfl rfl rfl trivial ?_
          refine L.eql rfl rfl rfl rfl trivial ?_
          refine L.move rfl rfl rfl trivial ?_
          refine' L.and [(false,5),(false,6),(false,7),(false,8),(false,9)] [(false,10),(false,11),(false,12),(false,13),(false,14),(false,15),(false,16),(false,17),(false,18),(false,19),(false,20),(false,21),(false,22),(false,23),(false,24),(false,25),(false,26)] (s := 97) (p := 102) rfl rfl (fun hg17 => ?_) (fun hg17 => ?_) ?_
          rotate_left
          · refine L.move rfl rfl rfl ⟨_, rfl, rfl⟩ ?_
            refine L.fieldAddr rfl Tf.f25_2 rfl rfl ⟨_, rfl, rfl⟩ ?_
            refine L.loadD1 rfl (k := 2) Tf.a3 rfl hB1 (by first | simp | assumption) rfl List.not_mem_nil rfl ⟨_, rfl, rfl⟩ ?_
            refine L.leq rfl rfl rfl rfl ⟨_, rfl, rfl⟩ ?_
            refine L.pickT rfl rfl rfl rfl trivial ?_
            exact L.nil fun a w hh => hh.cutK 4 rfl
          · refine L.pass rfl rfl rfl ⟨_, _, rfl, rfl, rfl⟩ ?_
            refine L.pass rfl rfl rfl ⟨_, _, rfl, rfl, rfl⟩ ?_
            refine L.pass rfl rfl rfl ⟨_, _, rfl, rfl, rfl⟩ ?_
            refine L.pass rfl rfl rfl ⟨_, _, rfl, rfl, rfl⟩ ?_
            refine L.pickF rfl rfl rfl rfl trivial ?_
            exact L.nil fun a w hh => hh.cutK 4 rfl
          refine L.neqB rfl Try.underlying4 rfl rfl rfl trivial ?_
          refine L.move rfl rfl rfl trivial ?_
          refine' L.or [(false,12),(false,13),(false,14),(false,15),(false,16),(false,17),(false,18)] [(false,19),(false,20),(false,21),(false,22),(false,23),(false,24),(false,25),(false,26)] (s := 104) (p := 111) rfl rfl (fun hg18 => ?_) (fun hg18 => ?_) ?_
          rotate_left
          · refine L.move rfl rfl rfl ⟨_, rfl, rfl⟩ ?_
            refine L.neq rfl rfl rfl rfl ⟨_, rfl, rfl⟩ ?_
            refine L.move rfl rfl rfl ⟨_, rfl, rfl⟩ ?_
            refine' L.and [(false,15),(false,16),(false,17)] [(false,18)] (s := 107) (p := 110) rfl rfl (fun hg19 => ?_) (fun hg19 => ?_) ?_
            rotate_left
            · refine L.move rfl rfl rfl ⟨_, rfl, rfl⟩ ?_
              refine L.neq rfl rfl rfl rfl ⟨_, rfl, rfl⟩ ?_
              refine L.pickT rfl rfl rfl rfl ⟨_, rfl, rfl⟩ ?_
              exact L.nil fun a w hh => hh.cutK 2 rfl
            · refine L.pass rfl rfl rfl ⟨_, _, rfl, rfl, rfl⟩ ?_
              refine L.pass rfl rfl rfl ⟨_, _, rfl, rfl, rfl⟩ ?_
              refine L.pickF rfl rfl rfl rfl ⟨_, rfl, rfl⟩ ?_
              exact L.nil fun a w hh => hh.cutK 2 rfl
            refine L.pickF rfl rfl rfl rfl trivial ?_
            exact L.nil fun a w hh => hh.cutK 4 rfl
          · refine L.pass rfl rfl rfl ⟨_, _, rfl, rfl, rfl⟩ ?_
            refine L.pass rfl rfl rfl ⟨_, _, rfl, rfl, rfl⟩ ?_
            refine L.pass rfl rfl rfl ⟨_, _, rfl, rfl, rfl⟩ ?_
            refine L.pass rfl rfl rfl ⟨_, _, rfl, rfl, rfl⟩ ?_
            refine L.pass rfl rfl rfl ⟨_, _, rfl, rfl, rfl⟩ ?_
            refine L.pass rfl rfl rfl ⟨_, _, rfl, rfl, rfl⟩ ?_
            refine L.pickT rfl rfl rfl rfl trivial ?_
            exact L.nil fun a w hh => hh.cutK 6 rfl
          refine L.move rfl rfl rfl trivial ?_
          refine' L.or [(false,20),(false,21),(false,22),(false,23),(false,24),(false,25),(false,26)] [] (s := 112) (p := 119) rfl rfl (fun hg20 => ?_) (fun hg20 => ?_) ?_
          rotate_left
          · refine L.move rfl rfl rfl ⟨_, rfl, rfl⟩ ?_
            refine L.neq rfl rfl rfl rfl ⟨_, rfl, rfl⟩ ?_
            refine L.move rfl rfl rfl ⟨_, rfl, rfl⟩ ?_
            refine' L.and [(false,23),(false,24),(false,25)] [(false,26)] (s := 115) (p := 118) rfl rfl (fun hg21 => ?_) (fun hg21 => ?_) ?_
            rotate_left
            · refine L.move rfl rfl rfl ⟨_, rfl, rfl⟩ ?_
              refine L.neq rfl rfl rfl rfl ⟨_, rfl, rfl⟩ ?_
              refine L.pickT rfl rfl rfl rfl ⟨_, rfl, rfl⟩ ?_
              exact L.nil fun a w hh => hh.cutK 2 rfl
            · refine L.pass rfl rfl rfl ⟨_, _, rfl, rfl, rfl⟩ ?_
              refine L.pass rfl rfl rfl ⟨_, _, rfl, rfl, rfl⟩ ?_
              refine L.pickF rfl rfl rfl rfl ⟨_, rfl, rfl⟩ ?_
              exact L.nil fun a w hh => hh.cutK 2 rfl
            refine L.pickF rfl rfl rfl rfl trivial ?_
            exact L.nil fun a w hh => hh.cutK 4 rfl
          · refine L.pass rfl rfl rfl ⟨_, _, rfl, rfl, rfl⟩ ?_
            refine L.pass rfl rfl rfl ⟨_, _, rfl, rfl, rfl⟩ ?_
            refine L.pass rfl rfl rfl ⟨_, _, rfl, rfl, rfl⟩ ?_
            refine L.pass rfl rfl rfl ⟨_, _, rfl, rfl, rfl⟩ ?_
            refine L.pass rfl rfl rfl ⟨_, _, rfl, rfl, rfl⟩ ?_
            refine L.pass rfl rfl rfl ⟨_, _, rfl, rfl, rfl⟩ ?_
            refine L.pickT rfl rfl rfl rfl trivial ?_
            exact L.nil fun a w hh => hh.cutK 6 rfl
          refine L.nil ?_
          refine C.next ?_
          refine C.cond rfl (fun hc9 => ?_) (fun hc9 => ?_)
          · exact absurd hc9 (by rw [hask, cw_no hok]; simp)
          · refine C.skip ?_
            refine C.next ?_
            refine C.seq ?_
            refine C.region [(false,0),(false,1),(false,2),(false,3),(false,4),(false,5),(false,6),(false,7),(false,8),(false,9),(false,10),(false,11),(false,12),(false,13),(false,14)] rfl ?_
            refine L.move rfl rfl rfl trivial ?_
            refine L.neq rfl rfl rfl rfl trivial ?_
            refine L.move rfl rfl rfl trivial ?_
            refine' L.or [(false,3),(false,4),(false,5),(false,6),(false,7),(false,8),(false,9),(false,10)] [(false,11),(false,12),(false,13),(false,14)] (s := 122) (p := 130) rfl rfl (fun hg22 => ?_) (fun hg22 => ?_) ?_
            rotate_left
            · refine L.move rfl rfl rfl ⟨_, rfl, rfl⟩ ?_
              refine L.eql rfl rfl rfl rfl ⟨_, rfl, rfl⟩ ?_
              refine L.move rfl rfl rfl ⟨_, rfl, rfl⟩ ?_
              refine' L.and [(false,6),(false,7),(false,8),(false,9)] [(false,10)] (s := 125) (p := 129) rfl rfl (fun hg23 => ?_) (fun hg23 => ?_) ?_
              rotate_left
              · refine L.loadBW rfl Tf.a29 rfl (List.Mem.tail _ (List.Mem.head _)) Tf.s29 List.not_mem_nil rfl ⟨_, rfl, rfl⟩ ?_
                refine L.loadBW rfl Tf.a29 rfl (List.Mem.head _) Tf.s29 List.not_mem_nil rfl ⟨_, rfl, rfl⟩ ?_
                refine L.callV rfl rfl rfl (fun D35 hD35 => inside2_ok (chV r i j) (chV x i j) _) rfl ⟨_, rfl, rfl⟩ ?_
                refine L.pickT rfl rfl rfl rfl ⟨_, rfl, rfl⟩ ?_
                exact L.nil fun a w hh => hh.cutK 3 rfl
              · refine L.pass rfl rfl rfl ⟨_, _, rfl, rfl, rfl⟩ ?_
                refine L.pass rfl rfl rfl ⟨_, _, rfl, rfl, rfl⟩ ?_
                refine L.pass rfl rfl rfl ⟨_, _, rfl, rfl, rfl⟩ ?_
                refine L.pickF rfl rfl rfl rfl ⟨_, rfl, rfl⟩ ?_
                exact L.nil fun a w hh => hh.cutK 3 rfl
              refine L.pickF rfl rfl rfl rfl trivial ?_
              exact L.nil fun a w hh => hh.cutK 4 rfl
            · refine L.pass rfl rfl rfl ⟨_, _, rfl, rfl, rfl⟩ ?_
              refine L.pass rfl rfl rfl ⟨_, _, rfl, rfl, rfl⟩ ?_
              refine L.pass rfl rfl rfl ⟨_, _, rfl, rfl, rfl⟩ ?_
              refine L.pass rfl rfl rfl ⟨_, _, rfl, rfl, rfl⟩ ?_
              refine L.pass rfl rfl rfl ⟨_, _, rfl, rfl, rfl⟩ ?_
              refine L.pass rfl rfl rfl ⟨_, _, rfl, rfl, rfl⟩ ?_
              refine L.pass rfl rfl rfl ⟨_, _, rfl, rfl, rfl⟩ ?_
              refine L.pickT rfl rfl rfl rfl trivial ?_
              exact L.nil fun a w hh => hh.cutK 7 rfl
            refine L.move rfl rfl rfl trivial ?_
            refine' L.and [(false,12),(false,13)] [(false,14)] (s := 131) (p := 133) rfl rfl (fun hg24 => ?_) (fun hg24 => ?_) ?_
            rotate_left
            · refine L.callV rfl rfl rfl (fun D36 hD36 => awake_ok _) rfl ⟨_, rfl, rfl⟩ ?_
              refine L.pickT rfl rfl rfl rfl trivial ?_
              exact L.nil fun a w hh => hh.cutK 1 rfl
            · refine L.pass rfl rfl rfl ⟨_, _, rfl, rfl, rfl⟩ ?_
              refine L.pickF rfl rfl rfl rfl trivial ?_
              exact L.nil fun a w hh => hh.cutK 1 rfl
            refine L.assign rfl rfl rfl trivial ?_
            refine L.nil ?_
            refine C.next ?_
            refine C.ret ?_
            exact leave (vs := [_]) rfl rfl rfl ⟨rfl, trivial⟩ (fun D hD => congrArg Value.bool (cw_fin hok hokx hwx hij hjn))
end Go.Fs
