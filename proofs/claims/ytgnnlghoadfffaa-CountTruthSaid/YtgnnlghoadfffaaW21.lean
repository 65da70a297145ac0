/- Walks: the laws CountVerdicts, CountLooks, CountEnds. -/
import Derived.Test.YtgnnlghoadfffaaW20
import Derived.Test.YtgnnlghoadfffaaNeed
namespace Go.Fs
open Go.Proofs
open C1
theorem truths_len (r : RowD) (hok : RowOk r) : (truths r).length ≤ 512 := by
  have h1 : (truths r).length ≤ (allT r.places).length := List.length_filter_le _ _
  have h2 := allT_length r.places
  have h3 : 2 ^ r.places.length ≤ 2 ^ 9 := Nat.pow_le_pow_right (by omega) hok.len9
  omega
theorem rightAt_fn {r : RowD} {k : Nat} {c : Cnt} (h : r.counts[k]? = some c) : rightAt r k = fun t => decide (errOf t c = 0) := by
  funext t; unfold rightAt; rw [h]
theorem ask_part3 {r : RowD} {i j : Int} (h : askErr r true = 0) (hc : (decide (fault r = 0) && !partOk r i j) = false) : 0 ≤ i ∧ i ≤ j ∧ j < r.places.length := by
  have hf := ask_fault h
  simp only [hf, decide_true, Bool.true_and, Bool.not_eq_false'] at hc
  simp only [partOk, Bool.and_eq_true, inB_iff] at hc
  omega
theorem cl_look {r : RowD} {p : Bool} (hz : askErr r true = 0) (hc : (truths r).length ≤ 512) (h0 : 0 < r.places.length) (hp : p = true) :
    (((decide ((if askErr r true = 0 then (lookK (truths r) ((truths r).length + 1) r.places.length).1 else 0) = (lookK (truths r) 1099511627776 r.places.length).1) && decide ((if askErr r true = 0 then (lookK (truths r) ((truths r).length + 1) r.places.length).2 else 0) = (lookK (truths r) 1099511627776 r.places.length).2)) && p) && true) = true := by
  rw [if_pos hz, if_pos hz, look_eq (a := ((truths r).length : Int) + 1) (b := 1099511627776) (by omega) (by omega) _ h0]
  simp [hp]
theorem ask_none {r : RowD} (hok : RowOk r) (h : askErr r true ≠ 0) : truths r = [] ∧ askErr r true = 11 := by
  unfold askErr at h ⊢
  have hf := rowOk_iff.2 hok
  rw [if_neg (by omega), if_neg (by simp)] at h ⊢
  split at h
  · rename_i ht; exact ⟨ht, by rw [if_pos ht]⟩
  · exact absurd rfl h
theorem cl_looks {r : RowD} {i j : Int} {e : Int} (hz : askErr r true = 0) (hae : askErr r (partOk r i j) = askErr r true) (hc : (truths r).length ≤ 512) (h9 : r.places.length < 100) (hb : Bits r.places.length (truths r)) :
    (decide (e ≠ 0) || decide ((if askErr r (partOk r i j) = 0 then needN r.places.length i.toNat j.toNat (truths r) else 0) = needG r.places.length i.toNat j.toNat 600 (truths r))) = true := by
  rw [if_pos (hae.trans hz), needN_needG (by omega) h9 hb]; simp
theorem ready_len {r : RowD} (h : (!(thin r && decide (fault r = 0))) = false) : r.places.length ≤ 11 ∧ r.counts.length ≤ 8 ∧ RowOk r := by
  simp only [Bool.not_eq_false', Bool.and_eq_true, decide_eq_true_eq] at h
  exact ⟨(thin_len h.1).1, (thin_len h.1).2, rowOk_iff.1 h.2⟩
theorem parted_ex (r : RowD) (a b : Int) (hn : 0 < r.places.length) (ha : 0 ≤ a ∧ a ≤ 255) (hb : 0 ≤ b ∧ b ≤ 255) : ∃ i j : Nat, i ≤ j ∧ j < r.places.length ∧ ∀ (D : Data) (rv : Value), RowIs D rv r → Fn Try.prog 36 #[rv, .int .u8 a, .int .u8 b] D (fun _ v => v = .tuple #[.int .i64 (i : Int), .int .i64 (j : Int)]) := by
  have hm1 := Int.emod_nonneg a (show (r.places.length : Int) ≠ 0 by omega)
  have hm2 := Int.emod_lt_of_pos a (show (0 : Int) < r.places.length by omega)
  have hm3 := Int.emod_nonneg b (show (r.places.length : Int) ≠ 0 by omega)
  have hm4 := Int.emod_lt_of_pos b (show (0 : Int) < r.places.length by omega)
  refine ⟨(min (a % r.places.length) (b % r.places.length)).toNat, (max (a % r.places.length) (b % r.places.length)).toNat, by omega, by omega, fun D rv hr => (parted_ok rv r a b D hr hn ha hb).mono fun _ v _ hv => ?_⟩
  rw [hv, Int.toNat_of_nonneg (by omega), Int.toNat_of_nonneg (by omega)]
theorem ask_in {r : RowD} {i j : Nat} (_hok : RowOk r) (hij : i ≤ j) (hj : j < r.places.length) : askErr r (partOk r i j) = askErr r true := by
  have : partOk r i j = true := by simp only [partOk, Bool.and_eq_true, inB_iff]; omega
  rw [this]
theorem ch_in {r : RowD} {i j : Nat} (hask : askErr r (partOk r i j) = askErr r true) (hz : askErr r true = 0) : chV r i j = (loOf (truths r) i j, hiOf (truths r) i j) := by
  unfold chV; rw [if_pos (hask.trans hz)]; simp
theorem ends_both {r : RowD} {i j : Nat} (hask : askErr r (partOk r i j) = askErr r true) (hz : askErr r true = 0) (hne : truths r ≠ []) :
    (((((truths r).take (truths r).length).any fun t => decide (partOf t i j = (chV r i j).1)) && (((truths r).take (truths r).length).any fun t => decide (partOf t i j = (chV r i j).2))) && true) = true := by
  rw [ch_in hask hz, List.take_length]
  obtain ⟨t, ht, he⟩ := lo_mem (i := i) (j := j) hne
  obtain ⟨t', ht', he'⟩ := hi_mem (i := i) (j := j) hne
  simp only [Bool.and_true, Bool.and_eq_true, List.any_eq_true, decide_eq_true_eq]
  exact ⟨⟨t, ht, he⟩, t', ht', he'⟩
open C1
theorem CountVerdicts_ok (rv : Value) (r : RowD) (D : Data) (hr : RowIs D rv r) : Fn Try.prog 4 #[rv] D (fun _ v => v = .bool true) := by
  have hr0 := hr
  obtain ⟨pv, cv, rfl, hp, hc⟩ := hr
  refine enter 108 Try.func4 rfl rfl rfl rfl fun h0 => ?_
  refine C.seq ?_
  refine C.region [(false,0),(false,1)] rfl ?_
  refine L.boxD rfl rfl rfl rfl trivial (fun q1 E1 hE1 hB1 => ?_)
  refine L.assign rfl rfl rfl trivial ?_
  refine L.nil ?_
  refine C.next ?_
  refine C.seq ?_
  refine C.seq ?_
  refine C.region [(false,0),(false,1),(false,2)] rfl ?_
  refine L.loadDW rfl Tf.a25 rfl hB1 (by first | simp | assumption) Tf.s25 List.not_mem_nil rfl trivial ?_
  refine L.callV rfl rfl rfl (fun D1 hD1 => Thin_ok _ r _ (hr0.up (hD1 _ (by simp)))) rfl trivial ?_
  refine L.not rfl rfl rfl trivial ?_
  refine L.nil ?_
  refine C.next ?_
  refine C.cond rfl (fun hc1 => ?_) (fun hc1 => ?_)
  · refine C.seq ?_
    refine C.region [(false,0),(false,1)] rfl ?_
    refine L.callV rfl rfl rfl (fun D2 hD2 => awake_ok _) rfl trivial ?_
    refine L.assign rfl rfl rfl trivial ?_
    refine L.nil ?_
    refine C.next ?_
    refine C.ret ?_
    refine C.thenRet ?_
    exact leave (vs := [_]) rfl rfl rfl ⟨rfl, trivial⟩ (fun D hD => rfl)
  · have hthin : thin r = true := by simpa using hc1
    obtain ⟨hlp, hlc⟩ := thin_len hthin
    refine C.skip ?_
    refine C.next ?_
    refine C.seq ?_
    refine C.region [(false,0),(false,1),(false,2),(false,3),(false,4),(false,5),(false,6),(false,7)] rfl ?_
    refine L.loadDW rfl Tf.a25 rfl hB1 (by first | simp | assumption) Tf.s25 List.not_mem_nil rfl trivial ?_
    refine L.call rfl rfl rfl (fun D3 hD3 => Row_ok _ r _ (hr0.up (hD3 _ (by simp))) (by omega) (by omega)) rfl trivial (fun v3 D3 hD3 hp3 => ?_)
    have hw := hp3
    refine L.call rfl rfl rfl (fun D4 hD4 => Places_ok _ r _ (hw.up (hD4 _ (by simp)))) rfl trivial (fun v4 D4 hD4 hp4 => ?_)
    obtain ⟨pv, rfl, hps⟩ := hp4
    refine L.move rfl rfl rfl trivial ?_
    refine L.extract rfl rfl rfl rfl trivial ?_
    refine L.extract rfl rfl rfl rfl trivial ?_
    refine L.assign rfl rfl rfl trivial ?_
    refine L.assign rfl rfl rfl trivial ?_
    refine L.nil ?_
    refine C.next ?_
    refine C.seq ?_
    refine C.region [(false,0),(false,1),(false,2),(false,3),(false,4),(false,5),(false,6),(false,7)] rfl ?_
    refine L.loadDW rfl Tf.a25 rfl hB1 (by first | simp | assumption) Tf.s25 List.not_mem_nil rfl trivial ?_
    refine L.call rfl rfl rfl (fun D5 hD5 => Row_ok _ r _ (hr0.up (hD5 _ (by simp))) (by omega) (by omega)) rfl trivial (fun v5 D5 hD5 hp5 => ?_)
    have hw := hp5
    refine L.call rfl rfl rfl (fun D6 hD6 => Right_ok _ r _ (hw.up (hD6 _ (by simp)))) rfl trivial (fun v6 D6 hD6 hp6 => ?_)
    obtain ⟨qv, rfl, hqs⟩ := hp6
    refine L.move rfl rfl rfl trivial ?_
    refine L.extract rfl rfl rfl rfl trivial ?_
    refine L.extract rfl rfl rfl rfl trivial ?_
    refine L.assign rfl rfl rfl trivial ?_
    refine L.assign rfl rfl rfl trivial ?_
    refine L.nil ?_
    refine C.next ?_
    refine C.seq ?_
    refine C.region [(false,0),(false,1),(false,2),(false,3),(false,4),(false,5),(false,6)] rfl ?_
    refine L.loadDW rfl Tf.a25 rfl hB1 (by first | simp | assumption) Tf.s25 List.not_mem_nil rfl trivial ?_
    refine L.call rfl rfl rfl (fun D7 hD7 => sure_ok _ r _ (hr0.up (hD7 _ (by simp)))) rfl trivial (fun v7 D7 hD7 hp7 => ?_)
    obtain ⟨lv, rfl, hls⟩ := hp7
    refine L.move rfl rfl rfl trivial ?_
    refine L.extract rfl rfl rfl rfl trivial ?_
    refine L.extract rfl rfl rfl rfl trivial ?_
    refine L.assign rfl rfl rfl trivial ?_
    refine L.assign rfl rfl rfl trivial ?_
    refine L.nil ?_
    refine C.next ?_
    refine C.seq ?_
    refine C.seq ?_
    refine C.region [(false,0),(false,1)] rfl ?_
    refine L.move rfl rfl rfl trivial ?_
    refine L.neq rfl rfl rfl rfl trivial ?_
    refine L.nil ?_
    refine C.next ?_
    refine C.condD rfl (fun hc2 => ?_) (fun hc2 => ?_)
    · rw [if_neg hc2] at hps hqs
      refine C.seq ?_
      refine C.region [(false,0),(false,1),(false,2),(false,3),(false,4),(false,5),(false,6),(false,7),(false,8),(false,9),(false,10),(false,11),(false,12),(false,13),(false,14),(false,15),(false,16),(false,17),(false,18),(false,19)] rfl ?_
      refine L.move rfl rfl rfl trivial ?_
      refine L.move rfl rfl rfl trivial ?_
      refine L.eql rfl rfl rfl rfl trivial ?_
      refine L.move rfl rfl rfl trivial ?_
      refine' L.and [(false,4),(false,5),(false,6),(false,7)] [(false,8),(false,9),(false,10),(false,11),(false,12),(false,13),(false,14),(false,15),(false,16),(false,17),(false,18),(false,19)] (s := 37) (p := 41) rfl rfl (fun hg1 => ?_) (fun hg1 => ?_) ?_
      rotate_left
      · refine L.move rfl rfl rfl ⟨_, rfl, rfl⟩ ?_
        refine L.move rfl rfl rfl ⟨_, rfl, rfl⟩ ?_
        refine L.eql rfl rfl rfl rfl ⟨_, rfl, rfl⟩ ?_
        refine L.pickT rfl rfl rfl rfl trivial ?_
        exact L.nil fun a w hh => hh.cutK 3 rfl
      · refine L.pass rfl rfl rfl ⟨_, _, rfl, rfl, rfl⟩ ?_
        refine L.pass rfl rfl rfl ⟨_, _, rfl, rfl, rfl⟩ ?_
        refine L.pass rfl rfl rfl ⟨_, _, rfl, rfl, rfl⟩ ?_
        refine L.pickF rfl rfl rfl rfl trivial ?_
        exact L.nil fun a w hh => hh.cutK 3 rfl
      refine L.move rfl rfl rfl trivial ?_
      refine' L.and [(false,9),(false,10),(false,11),(false,12),(false,13),(false,14),(false,15)] [(false,16),(false,17),(false,18),(false,19)] (s := 42) (p := 49) rfl rfl (fun hg2 => ?_) (fun hg2 => ?_) ?_
      rotate_left
      · refine L.move rfl rfl rfl ⟨_, rfl, rfl⟩ ?_
        refine L.len rfl Try.underlying22 rfl hps rfl rfl ⟨_, rfl, rfl⟩ ?_
        refine L.move rfl rfl rfl ⟨_, rfl, rfl⟩ ?_
        refine L.len rfl Try.underlying22 rfl hqs rfl rfl ⟨_, rfl, rfl⟩ ?_
        refine L.add rfl rfl rfl (by simp only [inK, List.length_nil]; omega) rfl ⟨_, rfl, rfl⟩ ?_
        refine L.eql rfl rfl rfl rfl ⟨_, rfl, rfl⟩ ?_
        refine L.pickT rfl rfl rfl rfl trivial ?_
        exact L.nil fun a w hh => hh.cutK 6 rfl
      · refine L.pass rfl rfl rfl ⟨_, _, rfl, rfl, rfl⟩ ?_
        refine L.pass rfl rfl rfl ⟨_, _, rfl, rfl, rfl⟩ ?_
        refine L.pass rfl rfl rfl ⟨_, _, rfl, rfl, rfl⟩ ?_
        refine L.pass rfl rfl rfl ⟨_, _, rfl, rfl, rfl⟩ ?_
        refine L.pass rfl rfl rfl ⟨_, _, rfl, rfl, rfl⟩ ?_
        refine L.pass rfl rfl rfl ⟨_, _, rfl, rfl, rfl⟩ ?_
        refine L.pickF rfl rfl rfl rfl trivial ?_
        exact L.nil fun a w hh => hh.cutK 6 rfl
      refine L.move rfl rfl rfl trivial ?_
      refine' L.and [(false,17),(false,18)] [(false,19)] (s := 50) (p := 52) rfl rfl (fun hg3 => ?_) (fun hg3 => ?_) ?_
      rotate_left
      · refine L.callV rfl rfl rfl (fun D8 hD8 => awake_ok _) rfl ⟨_, rfl, rfl⟩ ?_
        refine L.pickT rfl rfl rfl rfl trivial ?_
        exact L.nil fun a w hh => hh.cutK 1 rfl
      · refine L.pass rfl rfl rfl ⟨_, _, rfl, rfl, rfl⟩ ?_
        refine L.pickF rfl rfl rfl rfl trivial ?_
        exact L.nil fun a w hh => hh.cutK 1 rfl
      refine L.assign rfl rfl rfl trivial ?_
      refine L.nil ?_
      refine C.next ?_
      refine C.ret ?_
      refine C.thenRet ?_
      exact leave (vs := [_]) rfl rfl rfl ⟨rfl, trivial⟩ (fun D hD => congrArg Value.bool (by simp))
    · have hz : askErr r true = 0 := by omega
      rw [if_pos hz] at hps hqs hls
      obtain ⟨hok, hne, hall, hlen⟩ := ask_truths hz
      have hcap := truths_len r hok
      refine C.skip ?_
      refine C.next ?_
      refine C.seq ?_
      refine C.seq ?_
      refine C.region [(false,0),(false,1),(false,2),(false,3),(false,4),(false,5),(false,6),(false,7),(false,8),(false,9),(false,10),(false,11),(false,12),(false,13),(false,14),(false,15),(false,16),(false,17),(false,18),(false,19),(false,20),(false,21)] rfl ?_
      refine L.move rfl rfl rfl trivial ?_
      refine L.neq rfl rfl rfl rfl trivial ?_
      refine L.move rfl rfl rfl trivial ?_
      refine' L.or [(false,3),(false,4),(false,5)] [(false,6),(false,7),(false,8),(false,9),(false,10),(false,11),(false,12),(false,13),(false,14),(false,15),(false,16),(false,17),(false,18),(false,19),(false,20),(false,21)] (s := 55) (p := 58) rfl rfl (fun hg4 => ?_) (fun hg4 => ?_) ?_
      rotate_left
      · refine L.move rfl rfl rfl ⟨_, rfl, rfl⟩ ?_
        refine L.neq rfl rfl rfl rfl ⟨_, rfl, rfl⟩ ?_
        refine L.pickF rfl rfl rfl rfl trivial ?_
        exact L.nil fun a w hh => hh.cutK 2 rfl
      · refine L.pass rfl rfl rfl ⟨_, _, rfl, rfl, rfl⟩ ?_
        refine L.pass rfl rfl rfl ⟨_, _, rfl, rfl, rfl⟩ ?_
        refine L.pickT rfl rfl rfl rfl trivial ?_
        exact L.nil fun a w hh => hh.cutK 2 rfl
      refine L.move rfl rfl rfl trivial ?_
      refine' L.or [(false,7),(false,8),(false,9),(false,10),(false,11),(false,12),(false,13)] [(false,14),(false,15),(false,16),(false,17),(false,18),(false,19),(false,20),(false,21)] (s := 59) (p := 66) rfl rfl (fun hg5 => ?_) (fun hg5 => ?_) ?_
      rotate_left
      · refine L.move rfl rfl rfl ⟨_, rfl, rfl⟩ ?_
        refine L.len rfl Try.underlying22 rfl hps rfl rfl ⟨_, rfl, rfl⟩ ?_
        refine L.fieldAddr rfl Tf.f25_0 rfl rfl ⟨_, rfl, rfl⟩ ?_
        refine L.loadD1 rfl (k := 0) Tf.a22 rfl hB1 (by first | simp | assumption) rfl List.not_mem_nil rfl ⟨_, rfl, rfl⟩ ?_
        refine L.len rfl Try.underlying22 rfl hp rfl rfl ⟨_, rfl, rfl⟩ ?_
        refine L.neq rfl rfl rfl rfl ⟨_, rfl, rfl⟩ ?_
        refine L.pickF rfl rfl rfl rfl trivial ?_
        exact L.nil fun a w hh => hh.cutK 6 rfl
      · refine L.pass rfl rfl rfl ⟨_, _, rfl, rfl, rfl⟩ ?_
        refine L.pass rfl rfl rfl ⟨_, _, rfl, rfl, rfl⟩ ?_
        refine L.pass rfl rfl rfl ⟨_, _, rfl, rfl, rfl⟩ ?_
        refine L.pass rfl rfl rfl ⟨_, _, rfl, rfl, rfl⟩ ?_
        refine L.pass rfl rfl rfl ⟨_, _, rfl, rfl, rfl⟩ ?_
        refine L.pass rfl rfl rfl ⟨_, _, rfl, rfl, rfl⟩ ?_
        refine L.pickT rfl rfl rfl rfl trivial ?_
        exact L.nil fun a w hh => hh.cutK 6 rfl
      refine L.move rfl rfl rfl trivial ?_
      refine' L.or [(false,15),(false,16),(false,17),(false,18),(false,19),(false,20),(false,21)] [] (s := 67) (p := 74) rfl rfl (fun hg6 => ?_) (fun hg6 => ?_) ?_
      rotate_left
      · refine L.move rfl rfl rfl ⟨_, rfl, rfl⟩ ?_
        refine L.len rfl Try.underlying22 rfl hqs rfl rfl ⟨_, rfl, rfl⟩ ?_
        refine L.fieldAddr rfl Tf.f25_1 rfl rfl ⟨_, rfl, rfl⟩ ?_
        refine L.loadD1 rfl (k := 1) Tf.a23 rfl hB1 (by first | simp | assumption) rfl List.not_mem_nil rfl ⟨_, rfl, rfl⟩ ?_
        refine L.len rfl Try.underlying23 rfl hc rfl rfl ⟨_, rfl, rfl⟩ ?_
        refine L.neq rfl rfl rfl rfl ⟨_, rfl, rfl⟩ ?_
        refine L.pickF rfl rfl rfl rfl trivial ?_
        exact L.nil fun a w hh => hh.cutK 6 rfl
      · refine L.pass rfl rfl rfl ⟨_, _, rfl, rfl, rfl⟩ ?_
        refine L.pass rfl rfl rfl ⟨_, _, rfl, rfl, rfl⟩ ?_
        refine L.pass rfl rfl rfl ⟨_, _, rfl, rfl, rfl⟩ ?_
        refine L.pass rfl rfl rfl ⟨_, _, rfl, rfl, rfl⟩ ?_
        refine L.pass rfl rfl rfl ⟨_, _, rfl, rfl, rfl⟩ ?_
        refine L.pass rfl rfl rfl ⟨_, _, rfl, rfl, rfl⟩ ?_
        refine L.pickT rfl rfl rfl rfl trivial ?_
        exact L.nil fun a w hh => hh.cutK 6 rfl
      refine L.nil ?_
      refine C.next ?_
      refine C.cond rfl (fun hc3 => ?_) (fun hc3 => ?_)
      · exact absurd hc3 (by simp [hz])
      · refine C.skip ?_
        refine C.next ?_
        refine C.seq ?_
        refine C.seq ?_
        refine C.region [(false,0)] rfl ?_
        refine L.assign rfl rfl rfl trivial ?_
        refine L.nil ?_
        refine C.next ?_
        refine C.block ?_
        refine C.loopC (γ := Nat) (fun k => r.places.length - k) (fun k => k ≤ r.places.length) (fun k => [(9, .int .i64 (k : Int))]) [(7, _), (5, _), (3, _), (2, _), (1, _)] (fun k => [D7, D6, D5, D4, D3, E1, D]) 0 (by omega) ⟨(by first | rfl | (show some (Value.int _ _) = some (Value.int _ _); congr 2; omega)), trivial⟩ ⟨rfl, rfl, rfl, rfl, rfl, trivial⟩ (ds_same) ?_
        rintro k h1
        refine C.seq ?_
        refine C.seq ?_
        refine C.region [(false,0),(false,1),(false,2),(false,3)] rfl ?_
        refine L.move rfl rfl rfl trivial ?_
        refine L.move rfl rfl rfl trivial ?_
        refine L.len rfl Try.underlying22 rfl hps rfl rfl trivial ?_
        refine L.lss rfl rfl rfl rfl trivial ?_
        refine L.nil ?_
        refine C.next ?_
        refine C.condD rfl (fun hc4 => ?_) (fun hc4 => ?_)
        · simp only [List.length_map, List.length_range] at hc4
          have hk : k < r.places.length := by omega
          have h9 := hok.len9
          have hpx : ((List.range r.places.length).map fun i => vd (truths r) (hasAt i))[k]? = some (vd (truths r) (hasAt k)) := by rw [List.getElem?_map, List.getElem?_range hk]; rfl
          refine C.skip ?_
          refine C.next ?_
          refine C.seq ?_
          refine C.block ?_
          refine C.seq ?_
          refine C.draw [] 3 [0,1,2,3,4,5,6,7] [false,true,false,false,true,true,true,false] [(false,0),(true,1),(false,2),(false,3),(true,4),(true,5),(true,6),(false,7)] Tf.follows (fun _ _ _ h => np_body (P := Try.prog) (fn := Try.f4) _ _ _ h) (by kernel_rfl) rfl ?_
          refine L.move rfl rfl rfl trivial ?_
          refine L.move rfl rfl rfl trivial ?_
          refine L.indexS rfl Try.underlying22 Tf.s3 rfl hps rfl (by omega) hpx rfl trivial (fun b1 o1 cs1 hr1 hcl1 hA1 => ?_)
          obtain rfl : cs1 = [.int .i64 _] := hr1
          refine L.loadD1 rfl (k := 0) Tf.a3 rfl hA1 (by first | simp | assumption) rfl List.not_mem_nil rfl trivial ?_
          refine L.move rfl rfl rfl trivial ?_
          refine L.move rfl rfl rfl trivial ?_
          refine L.callV rfl rfl rfl (fun D9 hD9 => PlaceR_ok _ (truths r) k _ (hls.up RL.up (hD9 _ (by simp))) hne (by omega) hall (fun t ht => by rw [hlen t ht]; omega)) rfl trivial ?_
          refine L.neq rfl rfl rfl rfl trivial ?_
          refine L.nil ?_
          refine C.next ?_
          refine C.condD rfl (fun hc5 => ?_) (fun hc5 => ?_)
          · exact absurd rfl hc5
          · refine C.skip ?_
            refine C.blockEnd ?_
            refine C.next ?_
            refine C.region [(false,0),(false,1),(false,2)] rfl ?_
            refine L.move rfl rfl rfl trivial ?_
            refine L.add rfl rfl rfl (by simp only [inK]; omega) rfl trivial ?_
            refine L.assign rfl rfl rfl trivial ?_
            refine L.nil ?_
            exact C.againR 16 (k + 1) (by omega) (by omega) ⟨(by first | rfl | (show some (Value.int _ _) = some (Value.int _ _); congr 2; omega)), trivial⟩ rfl rfl (List.Sublist.refl _) (ds_same)
        · refine C.exit ?_
          refine C.thenExit ?_
          refine C.thenExit ?_
          refine C.blockExit ?_
          refine C.next ?_
          refine C.seq ?_
          refine C.seq ?_
          refine C.region [(false,0)] rfl ?_
          refine L.assign rfl rfl rfl trivial ?_
          refine L.nil ?_
          refine C.next ?_
          refine C.block ?_
          refine C.loopC (γ := Nat) (fun k => r.counts.length - k) (fun k => k ≤ r.counts.length) (fun k => [(10, .int .i64 (k : Int))]) [(7, _), (5, _), (2, _), (1, _)] (fun k => [D7, D6, D5, D4, D3, E1, D]) 0 (by omega) ⟨(by first | rfl | (show some (Value.int _ _) = some (Value.int _ _); congr 2; omega)), trivial⟩ ⟨rfl, rfl, rfl, rfl, trivial⟩ (ds_same) ?_
          rintro k h1
          refine C.seq ?_
          refine C.seq ?_
          refine C.region [(false,0),(false,1),(false,2),(false,3)] rfl ?_
          refine L.move rfl rfl rfl trivial ?_
          refine L.move rfl rfl rfl trivial ?_
          refine L.len rfl Try.underlying22 rfl hqs rfl rfl trivial ?_
          refine L.lss rfl rfl rfl rfl trivial ?_
          refine L.nil ?_
          refine C.next ?_
          refine C.condD rfl (fun hc6 => ?_) (fun hc6 => ?_)
          · simp only [List.length_map, List.length_range] at hc6
            have hk : k < r.counts.length := by omega
            have h6 := hok.cnt6
            obtain ⟨x, hx⟩ : ∃ x, r.counts[k]? = some x := ⟨_, List.getElem?_eq_getElem hk⟩
            have hcx := hok.cnt x (List.mem_of_getElem? hx)
            have hqx : ((List.range r.counts.length).map fun i => vd (truths r) (rightAt r i))[k]? = some (vd (truths r) (rightAt r k)) := by rw [List.getElem?_map, List.getElem?_range hk]; rfl
            refine C.skip ?_
            refine C.next ?_
            refine C.seq ?_
            refine C.block ?_
            refine C.seq ?_
            refine C.draw [] 5 [0,1,2,3,4,5,6,7,8,9,10,11] [false,true,false,false,true,true,true,true,true,true,true,false] [(false,0),(true,1),(false,2),(false,3),(true,4),(true,5),(true,6),(true,7),(true,8),(true,9),(true,10),(false,11)] Tf.follows (fun _ _ _ h => np_body (P := Try.prog) (fn := Try.f4) _ _ _ h) (by kernel_rfl) rfl ?_
            refine L.move rfl rfl rfl trivial ?_
            refine L.move rfl rfl rfl trivial ?_
            refine L.indexS rfl Try.underlying22 Tf.s3 rfl hqs rfl (by omega) hqx rfl trivial (fun b2 o2 cs2 hr2 hcl2 hA2 => ?_)
            obtain rfl : cs2 = [.int .i64 _] := hr2
            refine L.loadD1 rfl (k := 0) Tf.a3 rfl hA2 (by first | simp | assumption) rfl List.not_mem_nil rfl trivial ?_
            refine L.move rfl rfl rfl trivial ?_
            refine L.fieldAddr rfl Tf.f25_1 rfl rfl trivial ?_
            refine L.loadD1 rfl (k := 1) Tf.a23 rfl hB1 (by first | simp | assumption) rfl List.not_mem_nil rfl trivial ?_
            refine L.move rfl rfl rfl trivial ?_
            refine L.indexS rfl Try.underlying23 Tf.s50 rfl hc rfl (by omega) hx rfl trivial (fun b3 o3 cs3 hr3 hcl3 hA3 => ?_)
            obtain rfl : cs3 = [.bool _, .int .i64 _, .int .i64 _] := hr3
            refine L.loadDW rfl Tf.a50 rfl hA3 (by first | simp | assumption) Tf.s50 List.not_mem_nil rfl trivial ?_
            refine L.callV rfl rfl rfl (fun D10 hD10 => RightR_ok _ (truths r) x _ (hls.up RL.up (hD10 _ (by simp))) hne (by omega) hall hcx.1 (fun t ht => by rw [hlen t ht]; exact hcx.2.1) hcx.2.2.1 hcx.2.2.2) rfl trivial ?_
            refine L.neq rfl rfl rfl rfl trivial ?_
            refine L.nil ?_
            refine C.next ?_
            refine C.condD rfl (fun hc7 => ?_) (fun hc7 => ?_)
            · exact absurd (by rw [rightAt_fn hx]) hc7
            · refine C.skip ?_
              refine C.blockEnd ?_
              refine C.next ?_
              refine C.region [(false,0),(false,1),(false,2)] rfl ?_
              refine L.move rfl rfl rfl trivial ?_
              refine L.add rfl rfl rfl (by simp only [inK]; omega) rfl trivial ?_
              refine L.assign rfl rfl rfl trivial ?_
              refine L.nil ?_
              exact C.againR 20 (k + 1) (by omega) (by omega) ⟨(by first | rfl | (show some (Value.int _ _) = some (Value.int _ _); congr 2; omega)), trivial⟩ rfl rfl (List.Sublist.refl _) (ds_same)
          · refine C.exit ?_
            refine C.thenExit ?_
            refine C.thenExit ?_
            refine C.blockExit ?_
            refine C.next ?_
            refine C.seq ?_
            refine C.region [(false,0),(false,1)] rfl ?_
            refine L.callV rfl rfl rfl (fun D11 hD11 => awake_ok _) rfl trivial ?_
            refine L.assign rfl rfl rfl trivial ?_
            refine L.nil ?_
            refine C.next ?_
            refine C.ret ?_
            exact leave (vs := [_]) rfl rfl rfl ⟨rfl, trivial⟩ (fun D hD => rfl)
theorem CountLooks_ok (rv : Value) (r : RowD) (i j : Int) (D : Data) (hr : RowIs D rv r) : Fn Try.prog 5 #[rv, .int .i64 i, .int .i64 j] D (fun _ v => v = .bool true) := by
  have hr0 := hr
  obtain ⟨pv, cv, rfl, hp, hc⟩ := hr
  refine enter 107 Try.func5 rfl rfl rfl rfl fun h0 => ?_
  refine C.seq ?_
  refine C.region [(false,0),(false,1)] rfl ?_
  refine L.boxD rfl rfl rfl rfl trivial (fun q1 E1 hE1 hB1 => ?_)
  refine L.assign rfl rfl rfl trivial ?_
  refine L.nil ?_
  refine C.next ?_
  refine C.seq ?_
  refine C.seq ?_
  refine C.region [(false,0),(false,1),(false,2)] rfl ?_
  refine L.loadDW rfl Tf.a25 rfl hB1 (by first | simp | assumption) Tf.s25 List.not_mem_nil rfl trivial ?_
  refine L.callV rfl rfl rfl (fun D1 hD1 => Thin_ok _ r _ (hr0.up (hD1 _ (by simp)))) rfl trivial ?_
  refine L.not rfl rfl rfl trivial ?_
  refine L.nil ?_
  refine C.next ?_
  refine C.cond rfl (fun hc1 => ?_) (fun hc1 => ?_)
  · refine C.seq ?_
    refine C.region [(false,0),(false,1)] rfl ?_
    refine L.callV rfl rfl rfl (fun D2 hD2 => awake_ok _) rfl trivial ?_
    refine L.assign rfl rfl rfl trivial ?_
    refine L.nil ?_
    refine C.next ?_
    refine C.ret ?_
    refine C.thenRet ?_
    exact leave (vs := [_]) rfl rfl rfl ⟨rfl, trivial⟩ (fun D hD => rfl)
  · have hthin : thin r = true := by simpa using hc1
    obtain ⟨hlp, hlc⟩ := thin_len hthin
    refine C.skip ?_
    refine C.next ?_
    refine C.seq ?_
    refine C.region [(false,0),(false,1),(false,2),(false,3),(false,4),(false,5),(false,6),(false,7),(false,8),(false,9)] rfl ?_
    refine L.loadDW rfl Tf.a25 rfl hB1 (by first | simp | assumption) Tf.s25 List.not_mem_nil rfl trivial ?_
    refine L.call rfl rfl rfl (fun D3 hD3 => Row_ok _ r _ (hr0.up (hD3 _ (by simp))) (by omega) (by omega)) rfl trivial (fun v3 D3 hD3 hp3 => ?_)
    have hw := hp3
    refine L.callV rfl rfl rfl (fun D4 hD4 => Look_ok _ r _ (hw.up (hD4 _ (by simp)))) rfl trivial ?_
    refine L.move rfl rfl rfl trivial ?_
    refine L.extract rfl rfl rfl rfl trivial ?_
    refine L.extract rfl rfl rfl rfl trivial ?_
    refine L.extract rfl rfl rfl rfl trivial ?_
    refine L.assign rfl rfl rfl trivial ?_
    refine L.assign rfl rfl rfl trivial ?_
    refine L.assign rfl rfl rfl trivial ?_
    refine L.nil ?_
    refine C.next ?_
    refine C.seq ?_
    refine C.region [(false,0),(false,1),(false,2),(false,3),(false,4),(false,5),(false,6),(false,7),(false,8),(false,9)] rfl ?_
    refine L.loadDW rfl Tf.a25 rfl hB1 (by first | simp | assumption) Tf.s25 List.not_mem_nil rfl trivial ?_
    refine L.call rfl rfl rfl (fun D5 hD5 => Row_ok _ r _ (hr0.up (hD5 _ (by simp))) (by omega) (by omega)) rfl trivial (fun v5 D5 hD5 hp5 => ?_)
    have hw := hp5
    refine L.move rfl rfl rfl trivial ?_
    refine L.move rfl rfl rfl trivial ?_
    refine L.callV rfl rfl rfl (fun D6 hD6 => Looks_ok _ r i j _ (hw.up (hD6 _ (by simp)))) rfl trivial ?_
    refine L.move rfl rfl rfl trivial ?_
    refine L.extract rfl rfl rfl rfl trivial ?_
    refine L.extract rfl rfl rfl rfl trivial ?_
    refine L.assign rfl rfl rfl trivial ?_
    refine L.assign rfl rfl rfl trivial ?_
    refine L.nil ?_
    refine C.next ?_
    refine C.seq ?_
    refine C.region [(false,0),(false,1),(false,2),(false,3),(false,4),(false,5),(false,6)] rfl ?_
    refine L.loadDW rfl Tf.a25 rfl hB1 (by first | simp | assumption) Tf.s25 List.not_mem_nil rfl trivial ?_
    refine L.call rfl rfl rfl (fun D7 hD7 => sure_ok _ r _ (hr0.up (hD7 _ (by simp)))) rfl trivial (fun v7 D7 hD7 hp7 => ?_)
    obtain ⟨lv, rfl, hls⟩ := hp7
    refine L.move rfl rfl rfl trivial ?_
    refine L.extract rfl rfl rfl rfl trivial ?_
    refine L.extract rfl rfl rfl rfl trivial ?_
    refine L.assign rfl rfl rfl trivial ?_
    refine L.assign rfl rfl rfl trivial ?_
    refine L.nil ?_
    refine C.next ?_
    refine C.seq ?_
    refine C.region [(false,0),(false,1)] rfl ?_
    refine L.move rfl rfl rfl trivial ?_
    refine L.assign rfl rfl rfl trivial ?_
    refine L.nil ?_
    refine C.next ?_
    refine C.seq ?_
    refine C.seq ?_
    refine C.region [(false,0),(false,1),(false,2),(false,3),(false,4),(false,5),(false,6),(false,7),(false,8),(false,9)] rfl ?_
    refine L.loadDW rfl Tf.a25 rfl hB1 (by first | simp | assumption) Tf.s25 List.not_mem_nil rfl trivial ?_
    refine L.callV rfl rfl rfl (fun D8 hD8 => faultL_ok _ r _ (hr0.up (hD8 _ (by simp)))) rfl trivial ?_
    refine L.eql rfl rfl rfl rfl trivial ?_
    refine L.move rfl rfl rfl trivial ?_
    refine' L.and [(false,4),(false,5),(false,6),(false,7),(false,8),(false,9)] [] (s := 45) (p := 51) rfl rfl (fun hg1 => ?_) (fun hg1 => ?_) ?_
    rotate_left
    · refine L.loadDW rfl Tf.a25 rfl hB1 (by first | simp | assumption) Tf.s25 List.not_mem_nil rfl ⟨_, rfl, rfl⟩ ?_
      refine L.move rfl rfl rfl ⟨_, rfl, rfl⟩ ?_
      refine L.move rfl rfl rfl ⟨_, rfl, rfl⟩ ?_
      refine L.callV rfl rfl rfl (fun D9 hD9 => partL_ok _ r i j _ (hr0.up (hD9 _ (by simp)))) rfl ⟨_, rfl, rfl⟩ ?_
      refine L.not rfl rfl rfl ⟨_, rfl, rfl⟩ ?_
      refine L.pickT rfl rfl rfl rfl trivial ?_
      exact L.nil fun a w hh => hh.cutK 5 rfl
    · refine L.pass rfl rfl rfl ⟨_, _, rfl, rfl, rfl⟩ ?_
      refine L.pass rfl rfl rfl ⟨_, _, rfl, rfl, rfl⟩ ?_
      refine L.pass rfl rfl rfl ⟨_, _, rfl, rfl, rfl⟩ ?_
      refine L.pass rfl rfl rfl ⟨_, _, rfl, rfl, rfl⟩ ?_
      refine L.pass rfl rfl rfl ⟨_, _, rfl, rfl, rfl⟩ ?_
      refine L.pickF rfl rfl rfl rfl trivial ?_
      exact L.nil fun a w hh => hh.cutK 5 rfl
    refine L.nil ?_
    refine C.next ?_
    refine C.cond rfl (fun hc2 => ?_) (fun hc2 => ?_)
    · have har := ask_range hc2
      refine C.region [(false,0)] rfl ?_
      refine L.assign rfl rfl rfl trivial ?_
      refine L.nil ?_
      refine C.next ?_
      refine C.seq ?_
      refine C.seq ?_
      refine C.region [(false,0),(false,1),(false,2),(false,3),(false,4),(false,5),(false,6),(false,7),(false,8),(false,9),(false,10),(false,11),(false,12),(false,13),(false,14),(false,15)] rfl ?_
      refine L.move rfl rfl rfl trivial ?_
      refine L.move rfl rfl rfl trivial ?_
      refine L.neq rfl rfl rfl rfl trivial ?_
      refine L.move rfl rfl rfl trivial ?_
      refine' L.or [(false,4),(false,5),(false,6),(false,7)] [(false,8),(false,9),(false,10),(false,11),(false,12),(false,13),(false,14),(false,15)] (s := 55) (p := 59) rfl rfl (fun hg2 => ?_) (fun hg2 => ?_) ?_
      rotate_left
      · refine L.move rfl rfl rfl ⟨_, rfl, rfl⟩ ?_
        refine L.move rfl rfl rfl ⟨_, rfl, rfl⟩ ?_
        refine L.neq rfl rfl rfl rfl ⟨_, rfl, rfl⟩ ?_
        refine L.pickF rfl rfl rfl rfl trivial ?_
        exact L.nil fun a w hh => hh.cutK 3 rfl
      · refine L.pass rfl rfl rfl ⟨_, _, rfl, rfl, rfl⟩ ?_
        refine L.pass rfl rfl rfl ⟨_, _, rfl, rfl, rfl⟩ ?_
        refine L.pass rfl rfl rfl ⟨_, _, rfl, rfl, rfl⟩ ?_
        refine L.pickT rfl rfl rfl rfl trivial ?_
        exact L.nil fun a w hh => hh.cutK 3 rfl
      refine L.move rfl rfl rfl trivial ?_
      refine' L.or [(false,9),(false,10),(false,11),(false,12),(false,13),(false,14),(false,15)] [] (s := 60) (p := 67) rfl rfl (fun hg3 => ?_) (fun hg3 => ?_) ?_
      rotate_left
      · refine L.move rfl rfl rfl ⟨_, rfl, rfl⟩ ?_
        refine L.neq rfl rfl rfl rfl ⟨_, rfl, rfl⟩ ?_
        refine L.move rfl rfl rfl ⟨_, rfl, rfl⟩ ?_
        refine' L.and [(false,12),(false,13),(false,14)] [(false,15)] (s := 63) (p := 66) rfl rfl (fun hg4 => ?_) (fun hg4 => ?_) ?_
        rotate_left
        · refine L.move rfl rfl rfl ⟨_, rfl, rfl⟩ ?_
          refine L.neq rfl rfl rfl rfl ⟨_, rfl, rfl⟩ ?_
          refine L.pickT rfl rfl rfl rfl ⟨_, rfl, rfl⟩ ?_
          exact L.nil fun a w hh => hh.cutK 2 rfl
        · refine L.pass rfl rfl rfl ⟨_, _, rfl, rfl, rfl⟩ ?_
          refine L.pass rfl rfl rfl ⟨_, _, rfl, rfl, rfl⟩ ?_
          refine L.pickF rfl rfl rfl rfl ⟨_, rfl, rfl⟩ ?_
          exact L.nil fun a w hh => hh.cutK 2 rfl
        refine L.pickF rfl rfl rfl rfl trivial ?_
        exact L.nil fun a w hh => hh.cutK 4 rfl
      · refine L.pass rfl rfl rfl ⟨_, _, rfl, rfl, rfl⟩ ?_
        refine L.pass rfl rfl rfl ⟨_, _, rfl, rfl, rfl⟩ ?_
        refine L.pass rfl rfl rfl ⟨_, _, rfl, rfl, rfl⟩ ?_
        refine L.pass rfl rfl rfl ⟨_, _, rfl, rfl, rfl⟩ ?_
        refine L.pass rfl rfl rfl ⟨_, _, rfl, rfl, rfl⟩ ?_
        refine L.pass rfl rfl rfl ⟨_, _, rfl, rfl, rfl⟩ ?_
        refine L.pickT rfl rfl rfl rfl trivial ?_
        exact L.nil fun a w hh => hh.cutK 6 rfl
      refine L.nil ?_
      refine C.next ?_
      refine C.cond rfl (fun hc3 => ?_) (fun hc3 => ?_)
      · exact absurd hc3 (by simp [har])
      · refine C.skip ?_
        refine C.next ?_
        refine C.seq ?_
        refine C.seq ?_
        refine C.region [(false,0),(false,1)] rfl ?_
        refine L.move rfl rfl rfl trivial ?_
        refine L.neq rfl rfl rfl rfl trivial ?_
        refine L.nil ?_
        refine C.next ?_
        refine C.condD rfl (fun hc4 => ?_) (fun hc4 => ?_)
        · refine C.seq ?_
          refine C.region [(false,0),(false,1),(false,2),(false,3),(false,4),(false,5),(false,6),(false,7),(false,8),(false,9)] rfl ?_
          refine L.move rfl rfl rfl trivial ?_
          refine L.eql rfl rfl rfl rfl trivial ?_
          refine L.move rfl rfl rfl trivial ?_
          refine' L.and [(false,3),(false,4),(false,5)] [(false,6),(false,7),(false,8),(false,9)] (s := 72) (p := 75) rfl rfl (fun hg5 => ?_) (fun hg5 => ?_) ?_
          rotate_left
          · refine L.move rfl rfl rfl ⟨_, rfl, rfl⟩ ?_
            refine L.eql rfl rfl rfl rfl ⟨_, rfl, rfl⟩ ?_
            refine L.pickT rfl rfl rfl rfl trivial ?_
            exact L.nil fun a w hh => hh.cutK 2 rfl
          · refine L.pass rfl rfl rfl ⟨_, _, rfl, rfl, rfl⟩ ?_
            refine L.pass rfl rfl rfl ⟨_, _, rfl, rfl, rfl⟩ ?_
            refine L.pickF rfl rfl rfl rfl trivial ?_
            exact L.nil fun a w hh => hh.cutK 2 rfl
          refine L.move rfl rfl rfl trivial ?_
          refine' L.and [(false,7),(false,8)] [(false,9)] (s := 76) (p := 78) rfl rfl (fun hg6 => ?_) (fun hg6 => ?_) ?_
          rotate_left
          · refine L.callV rfl rfl rfl (fun D10 hD10 => awake_ok _) rfl ⟨_, rfl, rfl⟩ ?_
            refine L.pickT rfl rfl rfl rfl trivial ?_
            exact L.nil fun a w hh => hh.cutK 1 rfl
          · refine L.pass rfl rfl rfl ⟨_, _, rfl, rfl, rfl⟩ ?_
            refine L.pickF rfl rfl rfl rfl trivial ?_
            exact L.nil fun a w hh => hh.cutK 1 rfl
          refine L.assign rfl rfl rfl trivial ?_
          refine L.nil ?_
          refine C.next ?_
          refine C.ret ?_
          refine C.thenRet ?_
          exact leave (vs := [_]) rfl rfl rfl ⟨rfl, trivial⟩ (fun D hD => congrArg Value.bool (by simp [hc4]))
        · have hz : askErr r true = 0 := by omega
          rw [if_pos hz] at hls
          obtain ⟨hok, hne, hall, hlen⟩ := ask_truths hz
          have hcap := truths_len r hok
          have hn0 := hok.len0
          have hn9 := hok.len9
          refine C.skip ?_
          refine C.next ?_
          refine C.seq ?_
          refine C.region [(false,0),(false,1),(false,2),(false,3),(false,4),(false,5),(false,6)] rfl ?_
          refine L.move rfl rfl rfl trivial ?_
          refine L.callV rfl rfl rfl (fun D11 hD11 => LookR_ok _ (truths r) r.places.length _ (hls.up RL.up (hD11 _ (by simp))) hne (by omega) hall hlen) rfl trivial ?_
          refine L.move rfl rfl rfl trivial ?_
          refine L.extract rfl rfl rfl rfl trivial ?_
          refine L.extract rfl rfl rfl rfl trivial ?_
          refine L.assign rfl rfl rfl trivial ?_
          refine L.assign rfl rfl rfl trivial ?_
          refine L.nil ?_
          refine C.next ?_
          refine C.seq ?_
          refine C.region [(false,0),(false,1),(false,2),(false,3),(false,4),(false,5),(false,6),(false,7),(false,8),(false,9),(false,10),(false,11),(false,12),(false,13),(false,14),(false,15),(false,16),(false,17),(false,18),(false,19),(false,20),(false,21),(false,22),(false,23)] rfl ?_
          refine L.move rfl rfl rfl trivial ?_
          refine L.move rfl rfl rfl trivial ?_
          refine L.eql rfl rfl rfl rfl trivial ?_
          refine L.move rfl rfl rfl trivial ?_
          refine' L.and [(false,4),(false,5),(false,6),(false,7)] [(false,8),(false,9),(false,10),(false,11),(false,12),(false,13),(false,14),(false,15),(false,16),(false,17),(false,18),(false,19),(false,20),(false,21),(false,22),(false,23)] (s := 87) (p := 91) rfl rfl (fun hg7 => ?_) (fun hg7 => ?_) ?_
          rotate_left
          · refine L.move rfl rfl rfl ⟨_, rfl, rfl⟩ ?_
            refine L.move rfl rfl rfl ⟨_, rfl, rfl⟩ ?_
            refine L.eql rfl rfl rfl rfl ⟨_, rfl, rfl⟩ ?_
            refine L.pickT rfl rfl rfl rfl trivial ?_
            exact L.nil fun a w hh => hh.cutK 3 rfl
          · refine L.pass rfl rfl rfl ⟨_, _, rfl, rfl, rfl⟩ ?_
            refine L.pass rfl rfl rfl ⟨_, _, rfl, rfl, rfl⟩ ?_
            refine L.pass rfl rfl rfl ⟨_, _, rfl, rfl, rfl⟩ ?_
            refine L.pickF rfl rfl rfl rfl trivial ?_
            exact L.nil fun a w hh => hh.cutK 3 rfl
          refine L.move rfl rfl rfl trivial ?_
          refine' L.and [(false,9),(false,10),(false,11),(false,12),(false,13),(false,14),(false,15),(false,16),(false,17),(false,18),(false,19)] [(false,20),(false,21),(false,22),(false,23)] (s := 92) (p := 103) rfl rfl (fun hg8 => ?_) (fun hg8 => ?_) ?_
          rotate_left
          · refine L.move rfl rfl rfl ⟨_, rfl, rfl⟩ ?_
            refine L.neq rfl rfl rfl rfl ⟨_, rfl, rfl⟩ ?_
            refine L.move rfl rfl rfl ⟨_, rfl, rfl⟩ ?_
            refine' L.or [(false,12),(false,13),(false,14),(false,15),(false,16),(false,17),(false,18)] [(false,19)] (s := 95) (p := 102) rfl rfl (fun hg9 => ?_) (fun hg9 => ?_) ?_
            rotate_left
            · have hdue := of_decide_eq_false hg9
              refine L.move rfl rfl rfl ⟨_, rfl, rfl⟩ ?_
              refine L.move rfl rfl rfl ⟨_, rfl, rfl⟩ ?_
              refine L.move rfl rfl rfl ⟨_, rfl, rfl⟩ ?_
              refine L.move rfl rfl rfl ⟨_, rfl, rfl⟩ ?_
              refine L.callV rfl rfl rfl (fun D12 hD12 => LooksR_ok r.places.length i j (by first | exact hij.1 | exact absurd (by decide) hdue) (by first | exact hij.2.1 | exact absurd (by decide) hdue) (by first | exact hij.2.2 | exact absurd (by decide) hdue) 600 (truths r) (by omega) _ _ (hls.up RL.up (hD12 _ (by simp))) hne (by omega) hall hlen) rfl ⟨_, rfl, rfl⟩ ?_
              refine L.eql rfl rfl rfl rfl ⟨_, rfl, rfl⟩ ?_
              refine L.pickF rfl rfl rfl rfl ⟨_, rfl, rfl⟩ ?_
              exact L.nil fun a w hh => hh.cutK 6 rfl
            · refine L.pass rfl rfl rfl ⟨_, _, rfl, rfl, rfl⟩ ?_
              refine L.pass rfl rfl rfl ⟨_, _, rfl, rfl, rfl⟩ ?_
              refine L.pass rfl rfl rfl ⟨_, _, rfl, rfl, rfl⟩ ?_
              refine L.pass rfl rfl rfl ⟨_, _, rfl, rfl, rfl⟩ ?_
              refine L.pass rfl rfl rfl ⟨_, _, rfl, rfl, rfl⟩ ?_
              refine L.pass rfl rfl rfl ⟨_, _, rfl, rfl, rfl⟩ ?_
              refine L.pickT rfl rfl rfl rfl ⟨_, rfl, rfl⟩ ?_
              exact L.nil fun a w hh => hh.cutK 6 rfl
            refine L.pickT rfl rfl rfl rfl trivial ?_
            exact L.nil fun a w hh => hh.cutK 4 rfl
          · refine L.pass rfl rfl rfl ⟨_, _, rfl, rfl, rfl⟩ ?_
            refine L.pass rfl rfl rfl ⟨_, _, rfl, rfl, rfl⟩ ?_
            refine L.pass rfl rfl rfl ⟨_, _, rfl, rfl, rfl⟩ ?_
            refine L.pass rfl rfl rfl ⟨_, _, rfl, rfl, rfl⟩ ?_
            refine L.pass rfl rfl rfl ⟨_, _, rfl, rfl, rfl⟩ ?_
            refine L.pass rfl rfl rfl ⟨_, _, rfl, rfl, rfl⟩ ?_
            refine L.pass rfl rfl rfl ⟨_, _, rfl, rfl, rfl⟩ ?_
            refine L.pass rfl rfl rfl ⟨_, _, rfl, rfl, rfl⟩ ?_
            refine L.pass rfl rfl rfl ⟨_, _, rfl, rfl, rfl⟩ ?_
            refine L.pass rfl rfl rfl ⟨_, _, rfl, rfl, rfl⟩ ?_
            refine L.pickF rfl rfl rfl rfl trivial ?_
            exact L.nil fun a w hh => hh.cutK 10 rfl
          refine L.move rfl rfl rfl trivial ?_
          refine' L.and [(false,21),(false,22)] [(false,23)] (s := 104) (p := 106) rfl rfl (fun hg10 => ?_) (fun hg10 => ?_) ?_
          rotate_left
          · refine L.callV rfl rfl rfl (fun D13 hD13 => awake_ok _) rfl ⟨_, rfl, rfl⟩ ?_
            refine L.pickT rfl rfl rfl rfl trivial ?_
            exact L.nil fun a w hh => hh.cutK 1 rfl
          · refine L.pass rfl rfl rfl ⟨_, _, rfl, rfl, rfl⟩ ?_
            refine L.pickF rfl rfl rfl rfl trivial ?_
            exact L.nil fun a w hh => hh.cutK 1 rfl
          refine L.assign rfl rfl rfl trivial ?_
          refine L.nil ?_
          refine C.next ?_
          refine C.ret ?_
          exact leave (vs := [_]) rfl rfl rfl ⟨rfl, trivial⟩ (fun D hD => congrArg Value.bool (cl_look hz (by omega) (by omega) rfl))
    · have hae := ask_eq hc2
      refine C.skip ?_
      refine C.next ?_
      refine C.seq ?_
      refine C.seq ?_
      refine C.region [(false,0),(false,1),(false,2),(false,3),(false,4),(false,5),(false,6),(false,7),(false,8),(false,9),(false,10),(false,11),(false,12),(false,13),(false,14),(false,15)] rfl ?_
      refine L.move rfl rfl rfl trivial ?_
      refine L.move rfl rfl rfl trivial ?_
      refine L.neq rfl rfl rfl rfl trivial ?_
      refine L.move rfl rfl rfl trivial ?_
      refine' L.or [(false,4),(false,5),(false,6),(false,7)] [(false,8),(false,9),(false,10),(false,11),(false,12),(false,13),(false,14),(false,15)] (s := 55) (p := 59) rfl rfl (fun hg11 => ?_) (fun hg11 => ?_) ?_
      rotate_left
      · refine L.move rfl rfl rfl ⟨_, rfl, rfl⟩ ?_
        refine L.move rfl rfl rfl ⟨_, rfl, rfl⟩ ?_
        refine L.neq rfl rfl rfl rfl ⟨_, rfl, rfl⟩ ?_
        refine L.pickF rfl rfl rfl rfl trivial ?_
        exact L.nil fun a w hh => hh.cutK 3 rfl
      · refine L.pass rfl rfl rfl ⟨_, _, rfl, rfl, rfl⟩ ?_
        refine L.pass rfl rfl rfl ⟨_, _, rfl, rfl, rfl⟩ ?_
        refine L.pass rfl rfl rfl ⟨_, _, rfl, rfl, rfl⟩ ?_
        refine L.pickT rfl rfl rfl rfl trivial ?_
        exact L.nil fun a w hh => hh.cutK 3 rfl
      refine L.move rfl rfl rfl trivial ?_
      refine' L.or [(false,9),(false,10),(false,11),(false,12),(false,13),(false,14),(false,15)] [] (s := 60) (p := 67) rfl rfl (fun hg12 => ?_) (fun hg12 => ?_) ?_
      rotate_left
      · refine L.move rfl rfl rfl ⟨_, rfl, rfl⟩ ?_
        refine L.neq rfl rfl rfl rfl ⟨_, rfl, rfl⟩ ?_
        refine L.move rfl rfl rfl ⟨_, rfl, rfl⟩ ?_
        refine' L.and [(false,12),(false,13),(false,14)] [(false,15)] (s := 63) (p := 66) rfl rfl (fun hg13 => ?_) (fun hg13 => ?_) ?_
        rotate_left
        · refine L.move rfl rfl rfl ⟨_, rfl, rfl⟩ ?_
          refine L.neq rfl rfl rfl rfl ⟨_, rfl, rfl⟩ ?_
          refine L.pickT rfl rfl rfl rfl ⟨_, rfl, rfl⟩ ?_
          exact L.nil fun a w hh => hh.cutK 2 rfl
        · refine L.pass rfl rfl rfl ⟨_, _, rfl, rfl, rfl⟩ ?_
          refine L.pass rfl rfl rfl ⟨_, _, rfl, rfl, rfl⟩ ?_
          refine L.pickF rfl rfl rfl rfl ⟨_, rfl, rfl⟩ ?_
          exact L.nil fun a w hh => hh.cutK 2 rfl
        refine L.pickF rfl rfl rfl rfl trivial ?_
        exact L.nil fun a w hh => hh.cutK 4 rfl
      · refine L.pass rfl rfl rfl ⟨_, _, rfl, rfl, rfl⟩ ?_
        refine L.pass rfl rfl rfl ⟨_, _, rfl, rfl, rfl⟩ ?_
        refine L.pass rfl rfl rfl ⟨_, _, rfl, rfl, rfl⟩ ?_
        refine L.pass rfl rfl rfl ⟨_, _, rfl, rfl, rfl⟩ ?_
        refine L.pass rfl rfl rfl ⟨_, _, rfl, rfl, rfl⟩ ?_
        refine L.pass rfl rfl rfl ⟨_, _, rfl, rfl, rfl⟩ ?_
        refine L.pickT rfl rfl rfl rfl trivial ?_
        exact L.nil fun a w hh => hh.cutK 6 rfl
      refine L.nil ?_
      refine C.next ?_
      refine C.cond rfl (fun hc5 => ?_) (fun hc5 => ?_)
      · exact absurd hc5 (by simp [hae]; intro h h2; exact absurd h2 h)
      · refine C.skip ?_
        refine C.next ?_
        refine C.seq ?_
        refine C.seq ?_
        refine C.region [(false,0),(false,1)] rfl ?_
        refine L.move rfl rfl rfl trivial ?_
        refine L.neq rfl rfl rfl rfl trivial ?_
        refine L.nil ?_
        refine C.next ?_
        refine C.condD rfl (fun hc6 => ?_) (fun hc6 => ?_)
        · refine C.seq ?_
          refine C.region [(false,0),(false,1),(false,2),(false,3),(false,4),(false,5),(false,6),(false,7),(false,8),(false,9)] rfl ?_
          refine L.move rfl rfl rfl trivial ?_
          refine L.eql rfl rfl rfl rfl trivial ?_
          refine L.move rfl rfl rfl trivial ?_
          refine' L.and [(false,3),(false,4),(false,5)] [(false,6),(false,7),(false,8),(false,9)] (s := 72) (p := 75) rfl rfl (fun hg14 => ?_) (fun hg14 => ?_) ?_
          rotate_left
          · refine L.move rfl rfl rfl ⟨_, rfl, rfl⟩ ?_
            refine L.eql rfl rfl rfl rfl ⟨_, rfl, rfl⟩ ?_
            refine L.pickT rfl rfl rfl rfl trivial ?_
            exact L.nil fun a w hh => hh.cutK 2 rfl
          · refine L.pass rfl rfl rfl ⟨_, _, rfl, rfl, rfl⟩ ?_
            refine L.pass rfl rfl rfl ⟨_, _, rfl, rfl, rfl⟩ ?_
            refine L.pickF rfl rfl rfl rfl trivial ?_
            exact L.nil fun a w hh => hh.cutK 2 rfl
          refine L.move rfl rfl rfl trivial ?_
          refine' L.and [(false,7),(false,8)] [(false,9)] (s := 76) (p := 78) rfl rfl (fun hg15 => ?_) (fun hg15 => ?_) ?_
          rotate_left
          · refine L.callV rfl rfl rfl (fun D14 hD14 => awake_ok _) rfl ⟨_, rfl, rfl⟩ ?_
            refine L.pickT rfl rfl rfl rfl trivial ?_
            exact L.nil fun a w hh => hh.cutK 1 rfl
          · refine L.pass rfl rfl rfl ⟨_, _, rfl, rfl, rfl⟩ ?_
            refine L.pickF rfl rfl rfl rfl trivial ?_
            exact L.nil fun a w hh => hh.cutK 1 rfl
          refine L.assign rfl rfl rfl trivial ?_
          refine L.nil ?_
          refine C.next ?_
          refine C.ret ?_
          refine C.thenRet ?_
          exact leave (vs := [_]) rfl rfl rfl ⟨rfl, trivial⟩ (fun D hD => congrArg Value.bool (by simp [hc6]))
        · have hz : askErr r true = 0 := by omega
          rw [if_pos hz] at hls
          obtain ⟨hok, hne, hall, hlen⟩ := ask_truths hz
          have hcap := truths_len r hok
          have hn0 := hok.len0
          have hn9 := hok.len9
          have hij := ask_part3 hz hc2
          refine C.skip ?_
          refine C.next ?_
          refine C.seq ?_
          refine C.region [(false,0),(false,1),(false,2),(false,3),(false,4),(false,5),(false,6)] rfl ?_
          refine L.move rfl rfl rfl trivial ?_
          refine L.callV rfl rfl rfl (fun D15 hD15 => LookR_ok _ (truths r) r.places.length _ (hls.up RL.up (hD15 _ (by simp))) hne (by omega) hall hlen) rfl trivial ?_
          refine L.move rfl rfl rfl trivial ?_
          refine L.extract rfl rfl rfl rfl trivial ?_
          refine L.extract rfl rfl rfl rfl trivial ?_
          refine L.assign rfl rfl rfl trivial ?_
          refine L.assign rfl rfl rfl trivial ?_
          refine L.nil ?_
          refine C.next ?_
          refine C.seq ?_
          refine C.region [(false,0),(false,1),(false,2),(false,3),(false,4),(false,5),(false,6),(false,7),(false,8),(false,9),(false,10),(false,11),(false,12),(false,13),(false,14),(false,15),(false,16),(false,17),(false,18),(false,19),(false,20),(false,21),(false,22),(false,23)] rfl ?_
          refine L.move rfl rfl rfl trivial ?_
          refine L.move rfl rfl rfl trivial ?_
          refine L.eql rfl rfl rfl rfl trivial ?_
          refine L.move rfl rfl rfl trivial ?_
          refine' L.and [(false,4),(false,5),(false,6),(false,7)] [(false,8),(false,9),(false,10),(false,11),(false,12),(false,13),(false,14),(false,15),(false,16),(false,17),(false,18),(false,19),(false,20),(false,21),(false,22),(false,23)] (s := 87) (p := 91) rfl rfl (fun hg16 => ?_) (fun hg16 => ?_) ?_
          rotate_left
          · refine L.move rfl rfl rfl ⟨_, rfl, rfl⟩ ?_
            refine L.move rfl rfl rfl ⟨_, rfl, rfl⟩ ?_
            refine L.eql rfl rfl rfl rfl ⟨_, rfl, rfl⟩ ?_
            refine L.pickT rfl rfl rfl rfl trivial ?_
            exact L.nil fun a w hh => hh.cutK 3 rfl
          · refine L.pass rfl rfl rfl ⟨_, _, rfl, rfl, rfl⟩ ?_
            refine L.pass rfl rfl rfl ⟨_, _, rfl, rfl, rfl⟩ ?_
            refine L.pass rfl rfl rfl ⟨_, _, rfl, rfl, rfl⟩ ?_
            refine L.pickF rfl rfl rfl rfl trivial ?_
            exact L.nil fun a w hh => hh.cutK 3 rfl
          refine L.move rfl rfl rfl trivial ?_
          refine' L.and [(false,9),(false,10),(false,11),(false,12),(false,13),(false,14),(false,15),(false,16),(false,17),(false,18),(false,19)] [(false,20),(false,21),(false,22),(false,23)] (s := 92) (p := 103) rfl rfl (fun hg17 => ?_) (fun hg17 => ?_) ?_
          rotate_left
          · refine L.move rfl rfl rfl ⟨_, rfl, rfl⟩ ?_
            refine L.neq rfl rfl rfl rfl ⟨_, rfl, rfl⟩ ?_
            refine L.move rfl rfl rfl ⟨_, rfl, rfl⟩ ?_
            refine' L.or [(false,12),(false,13),(false,14),(false,15),(false,16),(false,17),(false,18)] [(false,19)] (s := 95) (p := 102) rfl rfl (fun hg18 => ?_) (fun hg18 => ?_) ?_
            rotate_left
            · have hdue := of_decide_eq_false hg18
              refine L.move rfl rfl rfl ⟨_, rfl, rfl⟩ ?_
              refine L.move rfl rfl rfl ⟨_, rfl, rfl⟩ ?_
              refine L.move rfl rfl rfl ⟨_, rfl, rfl⟩ ?_
              refine L.move rfl rfl rfl ⟨_, rfl, rfl⟩ ?_
              refine L.callV rfl rfl rfl (fun D16 hD16 => LooksR_ok r.places.length i j (by first | exact hij.1 | exact absurd (by decide) hdue) (by first | exact hij.2.1 | exact absurd (by decide) hdue) (by first | exact hij.2.2 | exact absurd (by decide) hdue) 600 (truths r) (by omega) _ _ (hls.up RL.up (hD16 _ (by simp))) hne (by omega) hall hlen) rfl ⟨_, rfl, rfl⟩ ?_
              refine L.eql rfl rfl rfl rfl ⟨_, rfl, rfl⟩ ?_
              refine L.pickF rfl rfl rfl rfl ⟨_, rfl, rfl⟩ ?_
              exact L.nil fun a w hh => hh.cutK 6 rfl
            · refine L.pass rfl rfl rfl ⟨_, _, rfl, rfl, rfl⟩ ?_
              refine L.pass rfl rfl rfl ⟨_, _, rfl, rfl, rfl⟩ ?_
              refine L.pass rfl rfl rfl ⟨_, _, rfl, rfl, rfl⟩ ?_
              refine L.pass rfl rfl rfl ⟨_, _, rfl, rfl, rfl⟩ ?_
              refine L.pass rfl rfl rfl ⟨_, _, rfl, rfl, rfl⟩ ?_
              refine L.pass rfl rfl rfl ⟨_, _, rfl, rfl, rfl⟩ ?_
              refine L.pickT rfl rfl rfl rfl ⟨_, rfl, rfl⟩ ?_
              exact L.nil fun a w hh => hh.cutK 6 rfl
            refine L.pickT rfl rfl rfl rfl trivial ?_
            exact L.nil fun a w hh => hh.cutK 4 rfl
          · refine L.pass rfl rfl rfl ⟨_, _, rfl, rfl, rfl⟩ ?_
            refine L.pass rfl rfl rfl ⟨_, _, rfl, rfl, rfl⟩ ?_
            refine L.pass rfl rfl rfl ⟨_, _, rfl, rfl, rfl⟩ ?_
            refine L.pass rfl rfl rfl ⟨_, _, rfl, rfl, rfl⟩ ?_
            refine L.pass rfl rfl rfl ⟨_, _, rfl, rfl, rfl⟩ ?_
            refine L.pass rfl rfl rfl ⟨_, _, rfl, rfl, rfl⟩ ?_
            refine L.pass rfl rfl rfl ⟨_, _, rfl, rfl, rfl⟩ ?_
            refine L.pass rfl rfl rfl ⟨_, _, rfl, rfl, rfl⟩ ?_
            refine L.pass rfl rfl rfl ⟨_, _, rfl, rfl, rfl⟩ ?_
            refine L.pass rfl rfl rfl ⟨_, _, rfl, rfl, rfl⟩ ?_
            refine L.pickF rfl rfl rfl rfl trivial ?_
            exact L.nil fun a w hh => hh.cutK 10 rfl
          refine L.move rfl rfl rfl trivial ?_
          refine' L.and [(false,21),(false,22)] [(false,23)] (s := 104) (p := 106) rfl rfl (fun hg19 => ?_) (fun hg19 => ?_) ?_
          rotate_left
          · refine L.callV rfl rfl rfl (fun D17 hD17 => awake_ok _) rfl ⟨_, rfl, rfl⟩ ?_
            refine L.pickT rfl rfl rfl rfl trivial ?_
            exact L.nil fun a w hh => hh.cutK 1 rfl
          · refine L.pass rfl rfl rfl ⟨_, _, rfl, rfl, rfl⟩ ?_
            refine L.pickF rfl rfl rfl rfl trivial ?_
            exact L.nil fun a w hh => hh.cutK 1 rfl
          refine L.assign rfl rfl rfl trivial ?_
          refine L.nil ?_
          refine C.next ?_
          refine C.ret ?_
          exact leave (vs := [_]) rfl rfl rfl ⟨rfl, trivial⟩ (fun D hD => congrArg Value.bool (cl_look hz (by omega) (by omega) (cl_looks hz hae hcap (by omega) (fun t ht => ⟨hlen t ht, (hall t ht).2⟩))))
theorem CountEnds_ok (rv : Value) (r : RowD) (a b : Int) (D : Data) (hr : RowIs D rv r) (ha : 0 ≤ a ∧ a ≤ 255) (hb : 0 ≤ b ∧ b ≤ 255) : Fn Try.prog 6 #[rv, .int .u8 a, .int .u8 b] D (fun _ v => v = .bool true) := by
  have hr0 := hr
  obtain ⟨pv, cv, rfl, hp, hc⟩ := hr
  refine enter 83 Try.func6 rfl rfl rfl rfl fun h0 => ?_
  refine C.seq ?_
  refine C.region [(false,0),(false,1)] rfl ?_
  refine L.boxD rfl rfl rfl rfl trivial (fun q1 E1 hE1 hB1 => ?_)
  refine L.assign rfl rfl rfl trivial ?_
  refine L.nil ?_
  refine C.next ?_
  refine C.seq ?_
  refine C.seq ?_
  refine C.region [(false,0),(false,1),(false,2)] rfl ?_
  refine L.loadDW rfl Tf.a25 rfl hB1 (by first | simp | assumption) Tf.s25 List.not_mem_nil rfl trivial ?_
  refine L.callV rfl rfl rfl (fun D1 hD1 => ready_ok _ r _ (hr0.up (hD1 _ (by simp)))) rfl trivial ?_
  refine L.not rfl rfl rfl trivial ?_
  refine L.nil ?_
  refine C.next ?_
  refine C.cond rfl (fun hc1 => ?_) (fun hc1 => ?_)
  · refine C.seq ?_
    refine C.region [(false,0),(false,1)] rfl ?_
    refine L.callV rfl rfl rfl (fun D2 hD2 => awake_ok _) rfl trivial ?_
    refine L.assign rfl rfl rfl trivial ?_
    refine L.nil ?_
    refine C.next ?_
    refine C.ret ?_
    refine C.thenRet ?_
    exact leave (vs := [_]) rfl rfl rfl ⟨rfl, trivial⟩ (fun D hD => rfl)
  · obtain ⟨hlp, hlc, hok⟩ := ready_len hc1
    have hn0 := hok.len0
    have hn9 := hok.len9
    obtain ⟨i, j, hij, hjn, hpt⟩ := parted_ex r a b hok.len0 ha hb
    have hcap := truths_len r hok
    have hask := ask_in hok hij hjn
    refine C.skip ?_
    refine C.next ?_
    refine C.seq ?_
    refine C.region [(false,0),(false,1),(false,2),(false,3),(false,4),(false,5),(false,6),(false,7),(false,8)] rfl ?_
    refine L.loadDW rfl Tf.a25 rfl hB1 (by first | simp | assumption) Tf.s25 List.not_mem_nil rfl trivial ?_
    refine L.move rfl rfl rfl trivial ?_
    refine L.move rfl rfl rfl trivial ?_
    refine L.callV rfl rfl rfl (fun D3 hD3 => hpt _ _ (hr0.up (hD3 _ (by simp)))) rfl trivial ?_
    refine L.move rfl rfl rfl trivial ?_
    refine L.extract rfl rfl rfl rfl trivial ?_
    refine L.extract rfl rfl rfl rfl trivial ?_
    refine L.assign rfl rfl rfl trivial ?_
    refine L.assign rfl rfl rfl trivial ?_
    refine L.nil ?_
    refine C.next ?_
    refine C.seq ?_
    refine C.region [(false,0),(false,1),(false,2),(false,3),(false,4),(false,5),(false,6),(false,7),(false,8),(false,9),(false,10)] rfl ?_
    refine L.loadDW rfl Tf.a25 rfl hB1 (by first | simp | assumption) Tf.s25 List.not_mem_nil rfl trivial ?_
    refine L.call rfl rfl rfl (fun D4 hD4 => Row_ok _ r _ (hr0.up (hD4 _ (by simp))) (by omega) (by omega)) rfl trivial (fun v4 D4 hD4 hp4 => ?_)
    have hw := hp4
    refine L.move rfl rfl rfl trivial ?_
    refine L.move rfl rfl rfl trivial ?_
    refine L.callV rfl rfl rfl (fun D5 hD5 => Chairs2_ok _ r _ _ _ (hw.up (hD5 _ (by simp)))) rfl trivial ?_
    refine L.move rfl rfl rfl trivial ?_
    refine L.extract rfl rfl rfl rfl trivial ?_
    refine L.extract rfl rfl rfl rfl trivial ?_
    refine L.alloc rfl Tf.z29 rfl rfl trivial (fun q2 => ?_)
    refine L.storeW rfl rfl rfl rfl Tf.s29 (by first | rfl | (simp only [ints_length, *]; done) | (simp only [ints_length, *]; rfl) | (simp only [ints_length, *]; omega)) (by first | rfl | (simp only [ints_length, *]; done) | (simp only [ints_length, *]; rfl) | (simp only [ints_length, *]; omega)) (Has.head) (by first | exact ints_cell1 _ | simp [cell1]) trivial ?_
    refine L.assign rfl rfl rfl trivial ?_
    refine L.nil ?_
    refine C.next ?_
    refine C.seq ?_
    refine C.region [(false,0),(false,1),(false,2)] rfl ?_
    refine L.loadDW rfl Tf.a25 rfl hB1 (by first | simp | assumption) Tf.s25 List.not_mem_nil rfl trivial ?_
    refine L.call rfl rfl rfl (fun D6 hD6 => Truths_ok _ r _ (hr0.up (hD6 _ (by simp))) hok) rfl trivial (fun v6 D6 hD6 hp6 => ?_)
    have hls := hp6
    refine L.assign rfl rfl rfl trivial ?_
    refine L.nil ?_
    refine C.next ?_
    refine C.seq ?_
    refine C.seq ?_
    refine C.region [(false,0),(false,1)] rfl ?_
    refine L.move rfl rfl rfl trivial ?_
    refine L.neq rfl rfl rfl rfl trivial ?_
    refine L.nil ?_
    refine C.next ?_
    refine C.condD rfl (fun hc2 => ?_) (fun hc2 => ?_)
    · have hz : askErr r true ≠ 0 := by rw [hask] at hc2; exact hc2
      obtain ⟨ht0, ha11⟩ := ask_none hok hz
      refine C.seq ?_
      refine C.region [(false,0),(false,1),(false,2),(false,3),(false,4),(false,5),(false,6),(false,7),(false,8),(false,9),(false,10)] rfl ?_
      refine L.move rfl rfl rfl trivial ?_
      refine L.eql rfl rfl rfl rfl trivial ?_
      refine L.move rfl rfl rfl trivial ?_
      refine' L.and [(false,3),(false,4),(false,5),(false,6)] [(false,7),(false,8),(false,9),(false,10)] (s := 41) (p := 45) rfl rfl (fun hg1 => ?_) (fun hg1 => ?_) ?_
      rotate_left
      · refine L.move rfl rfl rfl ⟨_, rfl, rfl⟩ ?_
        refine L.len rfl Try.underlying37 rfl hls rfl rfl ⟨_, rfl, rfl⟩ ?_
        refine L.eql rfl rfl rfl rfl ⟨_, rfl, rfl⟩ ?_
        refine L.pickT rfl rfl rfl rfl trivial ?_
        exact L.nil fun a w hh => hh.cutK 3 rfl
      · refine L.pass rfl rfl rfl ⟨_, _, rfl, rfl, rfl⟩ ?_
        refine L.pass rfl rfl rfl ⟨_, _, rfl, rfl, rfl⟩ ?_
        refine L.pass rfl rfl rfl ⟨_, _, rfl, rfl, rfl⟩ ?_
        refine L.pickF rfl rfl rfl rfl trivial ?_
        exact L.nil fun a w hh => hh.cutK 3 rfl
      refine L.move rfl rfl rfl trivial ?_
      refine' L.and [(false,8),(false,9)] [(false,10)] (s := 46) (p := 48) rfl rfl (fun hg2 => ?_) (fun hg2 => ?_) ?_
      rotate_left
      · refine L.callV rfl rfl rfl (fun D7 hD7 => awake_ok _) rfl ⟨_, rfl, rfl⟩ ?_
        refine L.pickT rfl rfl rfl rfl trivial ?_
        exact L.nil fun a w hh => hh.cutK 1 rfl
      · refine L.pass rfl rfl rfl ⟨_, _, rfl, rfl, rfl⟩ ?_
        refine L.pickF rfl rfl rfl rfl trivial ?_
        exact L.nil fun a w hh => hh.cutK 1 rfl
      refine L.assign rfl rfl rfl trivial ?_
      refine L.nil ?_
      refine C.next ?_
      refine C.ret ?_
      refine C.thenRet ?_
      exact leave (vs := [_]) rfl rfl rfl ⟨rfl, trivial⟩ (fun D hD => congrArg Value.bool (by rw [hask, ha11, ht0]; rfl))
    · have hz : askErr r true = 0 := by rw [hask] at hc2; omega
      obtain ⟨_, hne, hall, hlen⟩ := ask_truths hz
      refine C.skip ?_
      refine C.next ?_
      refine C.seq ?_
      refine C.region [(false,0),(false,1)] rfl ?_
      refine L.assign rfl rfl rfl trivial ?_
      refine L.assign rfl rfl rfl trivial ?_
      refine L.nil ?_
      refine C.next ?_
      refine C.seq ?_
      refine C.seq ?_
      refine C.region [(false,0)] rfl ?_
      refine L.assign rfl rfl rfl trivial ?_
      refine L.nil ?_
      refine C.next ?_
      refine C.block ?_
      refine C.loopC (γ := Nat) (fun k => (truths r).length - k) (fun k => k ≤ (truths r).length) (fun k => [(14, .int .i64 (k : Int)), (12, .bool (((truths r).take k).any fun t => decide (partOf t i j = (chV r i j).1))), (13, .bool (((truths r).take k).any fun t => decide (partOf t i j = (chV r i j).2)))]) [(11, _), (9, _), (8, _), (7, _), (6, _)] (fun k => [D6, D4, E1, D]) 0 (by omega) ⟨(by first | rfl | (show some (Value.int _ _) = some (Value.int _ _); congr 2; omega)), rfl, rfl, trivial⟩ ⟨rfl, rfl, rfl, rfl, rfl, trivial⟩ (ds_same) ?_
      rintro k h1
      refine C.seq ?_
      refine C.seq ?_
      refine C.region [(false,0),(false,1),(false,2),(false,3)] rfl ?_
      refine L.move rfl rfl rfl trivial ?_
      refine L.move rfl rfl rfl trivial ?_
      refine L.len rfl Try.underlying37 rfl hls rfl rfl trivial ?_
      refine L.lss rfl rfl rfl rfl trivial ?_
      refine L.nil ?_
      refine C.next ?_
      refine C.condD rfl (fun hc3 => ?_) (fun hc3 => ?_)
      · have hk : k < (truths r).length := by omega
        obtain ⟨t, ht⟩ : ∃ t, (truths r)[k]? = some t := ⟨_, List.getElem?_eq_getElem hk⟩
        have htm := List.mem_of_getElem? ht
        have htb := (hall t htm).2
        have htl := hlen t htm
        refine C.skip ?_
        refine C.next ?_
        refine C.seq ?_
        refine C.block ?_
        refine C.seq ?_
        refine C.region [(false,0),(false,1),(false,2),(false,3),(false,4),(false,5),(false,6),(false,7)] rfl ?_
        refine L.move rfl rfl rfl trivial ?_
        refine L.move rfl rfl rfl trivial ?_
        refine L.indexS rfl Try.underlying37 Tf.s22 rfl hls rfl (by omega) ht rfl trivial (fun b1 o1 cs1 hr1 hcl1 hA1 => ?_)
        obtain ⟨w1, rfl, hw1⟩ := hr1
        refine L.loadD1 rfl (k := 0) Tf.a22 rfl hA1 (by first | simp | assumption) rfl List.not_mem_nil rfl trivial ?_
        refine L.move rfl rfl rfl trivial ?_
        refine L.move rfl rfl rfl trivial ?_
        refine L.callV rfl rfl rfl (fun D8 hD8 => Sum_ok _ t i j i (j + 1 - i) _ (hw1.up RI.up (hD8 _ (by simp))) rfl (by omega) (by omega) htb (by omega)) rfl trivial ?_
        refine L.assign rfl rfl rfl trivial ?_
        refine L.nil ?_
        refine C.next ?_
        refine C.draw [] 3 [0,1,2,3,4,5,6,7,8,9,10,11,12,13,14,15] [false,false,false,true,true,false,false,true,true,true,true,true,true,true,true,false] [(false,0),(false,1),(false,2),(true,3),(true,4),(false,5),(false,6),(true,7),(true,8),(true,9),(true,10),(true,11),(true,12),(true,13),(true,14),(false,15)] Tf.follows (fun _ _ _ h => np_body (P := Try.prog) (fn := Try.f6) _ _ _ h) (by kernel_rfl) rfl ?_
        refine L.move rfl rfl rfl trivial ?_
        refine L.move rfl rfl rfl trivial ?_
        refine' L.or [(false,2),(true,3),(true,4),(false,5),(false,6)] [(true,7),(true,8),(true,9),(true,10),(true,11),(true,12),(true,13),(true,14),(false,15)] (s := 63) (p := 68) rfl rfl (fun hg3 => ?_) (fun hg3 => ?_) ?_
        rotate_left
        · refine L.move rfl rfl rfl ⟨_, rfl, rfl⟩ ?_
          refine L.fieldAddr rfl Tf.f29_0 rfl rfl ⟨_, rfl, rfl⟩ ?_
          refine L.loadB1 rfl Tf.a3 rfl (List.Mem.head _) rfl List.not_mem_nil rfl ⟨_, rfl, rfl⟩ ?_
          refine L.eql rfl rfl rfl rfl ⟨_, rfl, rfl⟩ ?_
          refine L.pickF rfl rfl rfl rfl trivial ?_
          exact L.nil fun a w hh => hh.cutK 4 rfl
        · refine L.pass rfl rfl rfl ⟨_, _, rfl, rfl, rfl⟩ ?_
          refine L.pass rfl rfl rfl ⟨_, _, rfl, rfl, rfl⟩ ?_
          refine L.pass rfl rfl rfl ⟨_, _, rfl, rfl, rfl⟩ ?_
          refine L.pass rfl rfl rfl ⟨_, _, rfl, rfl, rfl⟩ ?_
          refine L.pickT rfl rfl rfl rfl trivial ?_
          exact L.nil fun a w hh => hh.cutK 4 rfl
        refine L.move rfl rfl rfl trivial ?_
        refine L.move rfl rfl rfl trivial ?_
        refine' L.or [(true,9),(true,10),(true,11),(true,12),(true,13)] [(true,14),(false,15)] (s := 70) (p := 75) rfl rfl (fun hg4 => ?_) (fun hg4 => ?_) ?_
        rotate_left
        · refine L.move rfl rfl rfl ⟨_, rfl, rfl⟩ ?_
          refine L.fieldAddr rfl Tf.f29_1 rfl rfl ⟨_, rfl, rfl⟩ ?_
          refine L.loadB1 rfl Tf.a3 rfl (List.Mem.head _) rfl List.not_mem_nil rfl ⟨_, rfl, rfl⟩ ?_
          refine L.eql rfl rfl rfl rfl ⟨_, rfl, rfl⟩ ?_
          refine L.pickF rfl rfl rfl rfl trivial ?_
          exact L.nil fun a w hh => hh.cutK 4 rfl
        · refine L.pass rfl rfl rfl ⟨_, _, rfl, rfl, rfl⟩ ?_
          refine L.pass rfl rfl rfl ⟨_, _, rfl, rfl, rfl⟩ ?_
          refine L.pass rfl rfl rfl ⟨_, _, rfl, rfl, rfl⟩ ?_
          refine L.pass rfl rfl rfl ⟨_, _, rfl, rfl, rfl⟩ ?_
          refine L.pickT rfl rfl rfl rfl trivial ?_
          exact L.nil fun a w hh => hh.cutK 4 rfl
        refine L.assign rfl rfl rfl trivial ?_
        refine L.assign rfl rfl rfl trivial ?_
        refine L.nil ?_
        refine C.blockEnd ?_
        refine C.next ?_
        refine C.region [(false,0),(false,1),(false,2)] rfl ?_
        refine L.move rfl rfl rfl trivial ?_
        refine L.add rfl rfl rfl (by simp only [inK]; omega) rfl trivial ?_
        refine L.assign rfl rfl rfl trivial ?_
        refine L.nil ?_
        exact C.againR 26 (k + 1) (by omega) (by omega) ⟨(by first | rfl | (show some (Value.int _ _) = some (Value.int _ _); congr 2; omega)), (by rw [List.take_add_one, ht, Option.toList_some, List.any_append]; simp only [List.any_cons, List.any_nil, Bool.or_false]; rfl), (by rw [List.take_add_one, ht, Option.toList_some, List.any_append]; simp only [List.any_cons, List.any_nil, Bool.or_false]; rfl), trivial⟩ rfl rfl (List.Sublist.refl _) (ds_same)
      · obtain rfl : k = (truths r).length := by omega
        refine C.exit ?_
        refine C.thenExit ?_
        refine C.thenExit ?_
        refine C.blockExit ?_
        refine C.next ?_
        refine C.seq ?_
        refine C.region [(false,0),(false,1),(false,2),(false,3),(false,4),(false,5),(false,6),(false,7)] rfl ?_
        refine L.move rfl rfl rfl trivial ?_
        refine L.move rfl rfl rfl trivial ?_
        refine' L.and [(false,2),(false,3)] [(false,4),(false,5),(false,6),(false,7)] (s := 77) (p := 79) rfl rfl (fun hg5 => ?_) (fun hg5 => ?_) ?_
        rotate_left
        · refine L.move rfl rfl rfl ⟨_, rfl, rfl⟩ ?_
          refine L.pickT rfl rfl rfl rfl trivial ?_
          exact L.nil fun a w hh => hh.cutK 1 rfl
        · refine L.pass rfl rfl rfl ⟨_, _, rfl, rfl, rfl⟩ ?_
          refine L.pickF rfl rfl rfl rfl trivial ?_
          exact L.nil fun a w hh => hh.cutK 1 rfl
        refine L.move rfl rfl rfl trivial ?_
        refine' L.and [(false,5),(false,6)] [(false,7)] (s := 80) (p := 82) rfl rfl (fun hg6 => ?_) (fun hg6 => ?_) ?_
        rotate_left
        · refine L.callV rfl rfl rfl (fun D9 hD9 => awake_ok _) rfl ⟨_, rfl, rfl⟩ ?_
          refine L.pickT rfl rfl rfl rfl trivial ?_
          exact L.nil fun a w hh => hh.cutK 1 rfl
        · refine L.pass rfl rfl rfl ⟨_, _, rfl, rfl, rfl⟩ ?_
          refine L.pickF rfl rfl rfl rfl trivial ?_
          exact L.nil fun a w hh => hh.cutK 1 rfl
        refine L.assign rfl rfl rfl trivial ?_
        refine L.nil ?_
        refine C.next ?_
        refine C.ret ?_
        exact leave (vs := [_]) rfl rfl rfl ⟨rfl, trivial⟩ (fun D hD => congrArg Value.bool (ends_both hask hz hne))
end Go.Fs
