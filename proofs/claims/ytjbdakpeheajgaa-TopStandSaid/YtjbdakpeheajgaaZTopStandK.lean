/- Of the proof of TopStand: V18, V19, V20, V21, ShowT, Lent. -/
import Derived.Test.YtjbdakpeheajgaaZTopStandJ
import Derived.Test.YtjbdakpeheajgaaZTopStandG
namespace Go.Fs
open Go.Proofs
open C3
def faultR (b : BookD) : Int := if 8 < b.lines.length ∨ 4 < b.counts.length then 3 else if bookOk b = false then 1 else if 4096 < manyR b.chairs.toNat b.lines then 3 else 0
theorem fr_limit {b : BookD} (h : (decide ((b.lines.length : Int) > 8) || decide ((b.counts.length : Int) > 4)) = true) : faultR b = 3 := by
  simp only [Bool.or_eq_true, decide_eq_true_eq] at h
  unfold faultR; rw [if_pos (by omega)]
theorem fr_not {b : BookD} (h : (decide ((b.lines.length : Int) > 8) || decide ((b.counts.length : Int) > 4)) = false) : ¬ (8 < b.lines.length ∨ 4 < b.counts.length) := by
  simp only [Bool.or_eq_false_iff, decide_eq_false_iff_not] at h; omega
theorem fr_arg {b : BookD} (h : (decide ((b.lines.length : Int) > 8) || decide ((b.counts.length : Int) > 4)) = false) (h2 : bookOk b = false) : faultR b = 1 := by unfold faultR; rw [if_neg (fr_not h), if_pos h2]
theorem fr_many {b : BookD} (h : (decide ((b.lines.length : Int) > 8) || decide ((b.counts.length : Int) > 4)) = false) (h2 : bookOk b = true) (h3 : manyR b.chairs.toNat b.lines > 4096) : faultR b = 3 := by unfold faultR; rw [if_neg (fr_not h), if_neg (by rw [h2]; simp), if_pos h3]
theorem fr_fine {b : BookD} (h : (decide ((b.lines.length : Int) > 8) || decide ((b.counts.length : Int) > 4)) = false) (h2 : bookOk b = true) (h3 : ¬ manyR b.chairs.toNat b.lines > 4096) : faultR b = 0 := by unfold faultR; rw [if_neg (fr_not h), if_neg (by rw [h2]; simp), if_neg h3]
theorem fl_no {b : BookD} (h : ((!C1.inB b.chairs 1 4 || !C1.inB b.coin 1 99) || !C1.inB b.box 0 999) = true) : bookOk b = false := by
  revert h; unfold bookOk
  generalize C1.inB b.chairs 1 4 = x, C1.inB b.coin 1 99 = y, C1.inB b.box 0 999 = z, b.lines.all (lineOk b.chairs) = u, b.counts.all (cntOk b.lines.length) = w
  cases x <;> cases y <;> cases z <;> cases u <;> cases w <;> decide
theorem fl_noL {b : BookD} {k : Nat} {x : Lin} (hx : b.lines[k]? = some x) (h : lineOk b.chairs x = false) : bookOk b = false := by
  have : b.lines.all (lineOk b.chairs) = false := by
    rw [List.all_eq_false]; exact ⟨x, List.mem_of_getElem? hx, by rw [h]; simp⟩
  unfold bookOk; rw [this]; simp
theorem fl_noC {b : BookD} {k : Nat} {x : Cn} (hx : b.counts[k]? = some x) (h : cntOk b.lines.length x = false) : bookOk b = false := by
  have : b.counts.all (cntOk b.lines.length) = false := by
    rw [List.all_eq_false]; exact ⟨x, List.mem_of_getElem? hx, by rw [h]; simp⟩
  unfold bookOk; rw [this]; simp
theorem fl_ok {b : BookD} (h : ((!C1.inB b.chairs 1 4 || !C1.inB b.coin 1 99) || !C1.inB b.box 0 999) = false) (h1 : b.lines.all (lineOk b.chairs) = true) (h2 : b.counts.all (cntOk b.lines.length) = true) : bookOk b = true := by
  simp only [Bool.or_eq_false_iff, Bool.not_eq_false'] at h
  unfold bookOk; rw [h.1.1, h.1.2, h.2, h1, h2]; rfl
theorem fl_line {n : Int} {x : Lin} (h : ((!C1.inB x.kind 0 2 || !C1.inB x.chair (-1) (n - 1)) || !C1.inB x.token (-1) (n - 1)) = false) : lineOk n x = true := by
  simp only [Bool.or_eq_false_iff, Bool.not_eq_false'] at h
  unfold lineOk; rw [h.1.1, h.1.2, h.2]; rfl
theorem fl_lineN {n : Int} {x : Lin} (h : ((!C1.inB x.kind 0 2 || !C1.inB x.chair (-1) (n - 1)) || !C1.inB x.token (-1) (n - 1)) = true) : lineOk n x = false := by
  revert h; unfold lineOk
  generalize C1.inB x.kind 0 2 = a, C1.inB x.chair (-1) (n - 1) = c, C1.inB x.token (-1) (n - 1) = e
  cases a <;> cases c <;> cases e <;> decide
theorem fl_cnt {n : Int} {x : Cn} (h : (((!C1.inB x.after 0 n || decide (x.lo < 0)) || decide (x.lo > x.hi)) || decide (x.hi > 2000)) = false) : cntOk n x = true := by
  simp only [Bool.or_eq_false_iff, Bool.not_eq_false', decide_eq_false_iff_not] at h
  unfold cntOk
  rw [h.1.1.1, decide_eq_true (by omega), decide_eq_true (by omega), decide_eq_true (by omega)]; rfl
theorem fl_cntN {n : Int} {x : Cn} (h : (((!C1.inB x.after 0 n || decide (x.lo < 0)) || decide (x.lo > x.hi)) || decide (x.hi > 2000)) = true) : cntOk n x = false := by
  cases e : cntOk n x with
  | false => rfl
  | true =>
    unfold cntOk at e
    simp only [Bool.and_eq_true, decide_eq_true_eq] at e
    obtain ⟨⟨⟨e1, e2⟩, e3⟩, e4⟩ := e
    rw [e1, decide_eq_false (by omega), decide_eq_false (by omega), decide_eq_false (by omega)] at h
    simp at h
theorem rFault_ok (bv : Value) (b : BookD) (D : Data) (hb : BookIs D bv b) : Fn Try.prog 8 #[bv] D (fun _ v => v = .int .i64 (faultR b)) := by
  have hb0 := hb
  obtain ⟨lv, cv, rfl, hl, hc⟩ := hb
  have hll := hl.len
  have hcl := hc.len
  refine enter 110 Try.func8 rfl rfl rfl rfl fun h0 => ?_
  refine C.seq ?_
  refine C.region [(false,0),(false,1)] rfl ?_
  refine L.boxD rfl rfl rfl rfl trivial (fun q1 E1 hE1 hB1 => ?_)
  refine L.assign rfl rfl rfl trivial ?_
  refine L.nil ?_
  refine C.next ?_
  refine C.seq ?_
  refine C.seq ?_
  refine C.region [(false,0),(false,1),(false,2),(false,3),(false,4),(false,5),(false,6),(false,7),(false,8),(false,9)] rfl ?_
  refine L.fieldAddr rfl Tf.f25_3 rfl rfl trivial ?_
  refine L.loadD1 rfl (k := 3) Tf.a22 rfl hB1 (by first | simp | assumption) rfl List.not_mem_nil rfl trivial ?_
  refine L.len rfl Try.underlying22 rfl hl rfl rfl trivial ?_
  refine L.gtr rfl rfl rfl rfl trivial ?_
  refine L.move rfl rfl rfl trivial ?_
  refine' L.or [(false,5),(false,6),(false,7),(false,8),(false,9)] [] (s := 11) (p := 16) rfl rfl (fun hg1 => ?_) (fun hg1 => ?_) ?_
  rotate_left
  · refine L.fieldAddr rfl Tf.f25_4 rfl rfl ⟨_, rfl, rfl⟩ ?_
    refine L.loadD1 rfl (k := 4) Tf.a23 rfl hB1 (by first | simp | assumption) rfl List.not_mem_nil rfl ⟨_, rfl, rfl⟩ ?_
    refine L.len rfl Try.underlying23 rfl hc rfl rfl ⟨_, rfl, rfl⟩ ?_
    refine L.gtr rfl rfl rfl rfl ⟨_, rfl, rfl⟩ ?_
    refine L.pickF rfl rfl rfl rfl trivial ?_
    exact L.nil fun a w hh => hh.cutK 4 rfl
  · refine L.pass rfl rfl rfl ⟨_, _, rfl, rfl, rfl⟩ ?_
    refine L.pass rfl rfl rfl ⟨_, _, rfl, rfl, rfl⟩ ?_
    refine L.pass rfl rfl rfl ⟨_, _, rfl, rfl, rfl⟩ ?_
    refine L.pass rfl rfl rfl ⟨_, _, rfl, rfl, rfl⟩ ?_
    refine L.pickT rfl rfl rfl rfl trivial ?_
    exact L.nil fun a w hh => hh.cutK 4 rfl
  refine L.nil ?_
  refine C.next ?_
  refine C.cond rfl (fun hc1 => ?_) (fun hc1 => ?_)
  · refine C.seq ?_
    refine C.region [(false,0)] rfl ?_
    refine L.assign rfl rfl rfl trivial ?_
    refine L.nil ?_
    refine C.next ?_
    refine C.ret ?_
    refine C.thenRet ?_
    exact leave (vs := [_]) rfl rfl rfl ⟨rfl, trivial⟩ (fun D hD => by show Value.int _ _ = _; rw [fr_limit hc1])
  · refine C.skip ?_
    refine C.next ?_
    refine C.seq ?_
    refine C.seq ?_
    refine C.region [(false,0),(false,1),(false,2),(false,3),(false,4),(false,5),(false,6),(false,7),(false,8),(false,9),(false,10),(false,11),(false,12),(false,13),(false,14),(false,15)] rfl ?_
    refine L.fieldAddr rfl Tf.f25_0 rfl rfl trivial ?_
    refine L.loadD1 rfl (k := 0) Tf.a3 rfl hB1 (by first | simp | assumption) rfl List.not_mem_nil rfl trivial ?_
    refine L.callV rfl rfl rfl (fun D1 hD1 => tIn_ok _ _ _ _) rfl trivial ?_
    refine L.not rfl rfl rfl trivial ?_
    refine L.move rfl rfl rfl trivial ?_
    refine' L.or [(false,5),(false,6),(false,7),(false,8),(false,9)] [(false,10),(false,11),(false,12),(false,13),(false,14),(false,15)] (s := 21) (p := 26) rfl rfl (fun hg2 => ?_) (fun hg2 => ?_) ?_
    rotate_left
    · refine L.fieldAddr rfl Tf.f25_1 rfl rfl ⟨_, rfl, rfl⟩ ?_
      refine L.loadD1 rfl (k := 1) Tf.a3 rfl hB1 (by first | simp | assumption) rfl List.not_mem_nil rfl ⟨_, rfl, rfl⟩ ?_
      refine L.callV rfl rfl rfl (fun D2 hD2 => tIn_ok _ _ _ _) rfl ⟨_, rfl, rfl⟩ ?_
      refine L.not rfl rfl rfl ⟨_, rfl, rfl⟩ ?_
      refine L.pickF rfl rfl rfl rfl trivial ?_
      exact L.nil fun a w hh => hh.cutK 4 rfl
    · refine L.pass rfl rfl rfl ⟨_, _, rfl, rfl, rfl⟩ ?_
      refine L.pass rfl rfl rfl ⟨_, _, rfl, rfl, rfl⟩ ?_
      refine L.pass rfl rfl rfl ⟨_, _, rfl, rfl, rfl⟩ ?_
      refine L.pass rfl rfl rfl ⟨_, _, rfl, rfl, rfl⟩ ?_
      refine L.pickT rfl rfl rfl rfl trivial ?_
      exact L.nil fun a w hh => hh.cutK 4 rfl
    refine L.move rfl rfl rfl trivial ?_
    refine' L.or [(false,11),(false,12),(false,13),(false,14),(false,15)] [] (s := 27) (p := 32) rfl rfl (fun hg3 => ?_) (fun hg3 => ?_) ?_
    rotate_left
    · refine L.fieldAddr rfl Tf.f25_2 rfl rfl ⟨_, rfl, rfl⟩ ?_
      refine L.loadD1 rfl (k := 2) Tf.a3 rfl hB1 (by first | simp | assumption) rfl List.not_mem_nil rfl ⟨_, rfl, rfl⟩ ?_
      refine L.callV rfl rfl rfl (fun D3 hD3 => tIn_ok _ _ _ _) rfl ⟨_, rfl, rfl⟩ ?_
      refine L.not rfl rfl rfl ⟨_, rfl, rfl⟩ ?_
      refine L.pickF rfl rfl rfl rfl trivial ?_
      exact L.nil fun a w hh => hh.cutK 4 rfl
    · refine L.pass rfl rfl rfl ⟨_, _, rfl, rfl, rfl⟩ ?_
      refine L.pass rfl rfl rfl ⟨_, _, rfl, rfl, rfl⟩ ?_
      refine L.pass rfl rfl rfl ⟨_, _, rfl, rfl, rfl⟩ ?_
      refine L.pass rfl rfl rfl ⟨_, _, rfl, rfl, rfl⟩ ?_
      refine L.pickT rfl rfl rfl rfl trivial ?_
      exact L.nil fun a w hh => hh.cutK 4 rfl
    refine L.nil ?_
    refine C.next ?_
    refine C.cond rfl (fun hc2 => ?_) (fun hc2 => ?_)
    · refine C.seq ?_
      refine C.region [(false,0)] rfl ?_
      refine L.assign rfl rfl rfl trivial ?_
      refine L.nil ?_
      refine C.next ?_
      refine C.ret ?_
      refine C.thenRet ?_
      exact leave (vs := [_]) rfl rfl rfl ⟨rfl, trivial⟩ (fun D hD => by show Value.int _ _ = _; rw [fr_arg hc1 (fl_no hc2)])
    · have hch := cb_ch hc2
      refine C.skip ?_
      refine C.next ?_
      refine C.seq ?_
      refine C.seq ?_
      refine C.region [(false,0)] rfl ?_
      refine L.assign rfl rfl rfl trivial ?_
      refine L.nil ?_
      refine C.next ?_
      refine C.block ?_
      refine C.loopC (γ := Nat) (fun k => b.lines.length - k) (fun k => k ≤ b.lines.length ∧ (b.lines.take k).all (lineOk b.chairs) = true) (fun k => [(3, .int .i64 (k : Int))]) [(2, _), (1, _)] (fun k => [E1, D]) 0 ⟨by omega, rfl⟩ ⟨(by first | rfl | (show some (Value.int _ _) = some (Value.int _ _); congr 2; omega)), trivial⟩ ⟨rfl, rfl, trivial⟩ (ds_same) ?_
      rintro k ⟨h1, hal⟩
      refine C.seq ?_
      refine C.seq ?_
      refine C.region [(false,0),(false,1),(false,2),(false,3),(false,4)] rfl ?_
      refine L.move rfl rfl rfl trivial ?_
      refine L.fieldAddr rfl Tf.f25_3 rfl rfl trivial ?_
      refine L.loadD1 rfl (k := 3) Tf.a22 rfl hB1 (by first | simp | assumption) rfl List.not_mem_nil rfl trivial ?_
      refine L.len rfl Try.underlying22 rfl hl rfl rfl trivial ?_
      refine L.lss rfl rfl rfl rfl trivial ?_
      refine L.nil ?_
      refine C.next ?_
      refine C.condD rfl (fun hc3 => ?_) (fun hc3 => ?_)
      · have hk : k < b.lines.length := by omega
        obtain ⟨x, hx⟩ : ∃ x, b.lines[k]? = some x := ⟨_, List.getElem?_eq_getElem hk⟩
        refine C.skip ?_
        refine C.next ?_
        refine C.seq ?_
        refine C.block ?_
        refine C.seq ?_
        refine C.region [(false,0),(false,1),(false,2),(false,3),(false,4),(false,5),(false,6)] rfl ?_
        refine L.fieldAddr rfl Tf.f25_3 rfl rfl trivial ?_
        refine L.loadD1 rfl (k := 3) Tf.a22 rfl hB1 (by first | simp | assumption) rfl List.not_mem_nil rfl trivial ?_
        refine L.move rfl rfl rfl trivial ?_
        refine L.indexS rfl Try.underlying22 Tf.s68 rfl hl rfl (by omega) hx rfl trivial (fun b1 o1 cs1 hr1 hcl1 hA1 => ?_)
        obtain rfl : cs1 = [.int .i64 _, .int .i64 _, .int .i64 _] := hr1
        refine L.loadDW rfl Tf.a68 rfl hA1 (by first | simp | assumption) Tf.s68 List.not_mem_nil rfl trivial ?_
        refine L.alloc rfl Tf.z68 rfl rfl trivial (fun q2 => ?_)
        refine L.storeW rfl rfl rfl rfl Tf.s68 (by first | rfl | (simp only [ints_length, *]; done) | (simp only [ints_length, *]; rfl) | (simp only [ints_length, *]; omega)) (by first | rfl | (simp only [ints_length, *]; done) | (simp only [ints_length, *]; rfl) | (simp only [ints_length, *]; omega)) (Has.head) (by first | exact ints_cell1 _ | simp [cell1]) trivial ?_
        refine L.nil ?_
        refine C.next ?_
        refine C.seq ?_
        refine C.region [(false,0),(false,1),(false,2),(false,3),(false,4),(false,5),(false,6),(false,7),(false,8),(false,9),(false,10),(false,11),(false,12),(false,13),(false,14),(false,15),(false,16),(false,17),(false,18),(false,19),(false,20),(false,21)] rfl ?_
        refine L.fieldAddr rfl Tf.f68_0 rfl rfl trivial ?_
        refine L.loadB1 rfl Tf.a3 rfl (List.Mem.head _) rfl List.not_mem_nil rfl trivial ?_
        refine L.callV rfl rfl rfl (fun D4 hD4 => tIn_ok _ _ _ _) rfl trivial ?_
        refine L.not rfl rfl rfl trivial ?_
        refine L.move rfl rfl rfl trivial ?_
        refine' L.or [(false,5),(false,6),(false,7),(false,8),(false,9),(false,10),(false,11),(false,12)] [(false,13),(false,14),(false,15),(false,16),(false,17),(false,18),(false,19),(false,20),(false,21)] (s := 49) (p := 57) rfl rfl (fun hg4 => ?_) (fun hg4 => ?_) ?_
        rotate_left
        · refine L.fieldAddr rfl Tf.f68_1 rfl rfl ⟨_, rfl, rfl⟩ ?_
          refine L.loadB1 rfl Tf.a3 rfl (List.Mem.head _) rfl List.not_mem_nil rfl ⟨_, rfl, rfl⟩ ?_
          refine L.fieldAddr rfl Tf.f25_0 rfl rfl ⟨_, rfl, rfl⟩ ?_
          refine L.loadD1 rfl (k := 0) Tf.a3 rfl hB1 (by first | simp | assumption) rfl List.not_mem_nil rfl ⟨_, rfl, rfl⟩ ?_
          refine L.sub rfl rfl rfl (by simp only [inK]; omega) rfl ⟨_, rfl, rfl⟩ ?_
          refine L.callV rfl rfl rfl (fun D5 hD5 => tIn_ok _ _ _ _) rfl ⟨_, rfl, rfl⟩ ?_
          refine L.not rfl rfl rfl ⟨_, rfl, rfl⟩ ?_
          refine L.pickF rfl rfl rfl rfl trivial ?_
          exact L.nil fun a w hh => hh.cutK 7 rfl
        · refine L.pass rfl rfl rfl ⟨_, _, rfl, rfl, rfl⟩ ?_
          refine L.pass rfl rfl rfl ⟨_, _, rfl, rfl, rfl⟩ ?_
          refine L.pass rfl rfl rfl ⟨_, _, rfl, rfl, rfl⟩ ?_
          refine L.pass rfl rfl rfl ⟨_, _, rfl, rfl, rfl⟩ ?_
          refine L.pass rfl rfl rfl ⟨_, _, rfl, rfl, rfl⟩ ?_
          refine L.pass rfl rfl rfl ⟨_, _, rfl, rfl, rfl⟩ ?_
          refine L.pass rfl rfl rfl ⟨_, _, rfl, rfl, rfl⟩ ?_
          refine L.pickT rfl rfl rfl rfl trivial ?_
          exact L.nil fun a w hh => hh.cutK 7 rfl
        refine L.move rfl rfl rfl trivial ?_
        refine' L.or [(false,14),(false,15),(false,16),(false,17),(false,18),(false,19),(false,20),(false,21)] [] (s := 58) (p := 66) rfl rfl (fun hg5 => ?_) (fun hg5 => ?_) ?_
        rotate_left
        · refine L.fieldAddr rfl Tf.f68_2 rfl rfl ⟨_, rfl, rfl⟩ ?_
          refine L.loadB1 rfl Tf.a3 rfl (List.Mem.head _) rfl List.not_mem_nil rfl ⟨_, rfl, rfl⟩ ?_
          refine L.fieldAddr rfl Tf.f25_0 rfl rfl ⟨_, rfl, rfl⟩ ?_
          refine L.loadD1 rfl (k := 0) Tf.a3 rfl hB1 (by first | simp | assumption) rfl List.not_mem_nil rfl ⟨_, rfl, rfl⟩ ?_
          refine L.sub rfl rfl rfl (by simp only [inK]; omega) rfl ⟨_, rfl, rfl⟩ ?_
          refine L.callV rfl rfl rfl (fun D6 hD6 => tIn_ok _ _ _ _) rfl ⟨_, rfl, rfl⟩ ?_
          refine L.not rfl rfl rfl ⟨_, rfl, rfl⟩ ?_
          refine L.pickF rfl rfl rfl rfl trivial ?_
          exact L.nil fun a w hh => hh.cutK 7 rfl
        · refine L.pass rfl rfl rfl ⟨_, _, rfl, rfl, rfl⟩ ?_
          refine L.pass rfl rfl rfl ⟨_, _, rfl, rfl, rfl⟩ ?_
          refine L.pass rfl rfl rfl ⟨_, _, rfl, rfl, rfl⟩ ?_
          refine L.pass rfl rfl rfl ⟨_, _, rfl, rfl, rfl⟩ ?_
          refine L.pass rfl rfl rfl ⟨_, _, rfl, rfl, rfl⟩ ?_
          refine L.pass rfl rfl rfl ⟨_, _, rfl, rfl, rfl⟩ ?_
          refine L.pass rfl rfl rfl ⟨_, _, rfl, rfl, rfl⟩ ?_
          refine L.pickT rfl rfl rfl rfl trivial ?_
          exact L.nil fun a w hh => hh.cutK 7 rfl
        refine L.nil ?_
        refine C.next ?_
        refine C.cond rfl (fun hc4 => ?_) (fun hc4 => ?_)
        · refine C.seq ?_
          refine C.region [(false,0)] rfl ?_
          refine L.assign rfl rfl rfl trivial ?_
          refine L.nil ?_
          refine C.next ?_
          refine C.ret ?_
          refine C.blockRet ?_
          refine C.thenRet ?_
          refine C.thenRet ?_
          refine C.blockRet ?_
          refine C.thenRet ?_
          exact leave (vs := [_]) rfl rfl rfl ⟨rfl, trivial⟩ (fun D hD => by show Value.int _ _ = _; rw [fr_arg hc1 (fl_noL hx (fl_lineN hc4))])
        · refine C.skip ?_
          refine C.blockEnd ?_
          refine C.next ?_
          refine C.region [(false,0),(false,1),(false,2)] rfl ?_
          refine L.move rfl rfl rfl trivial ?_
          refine L.add rfl rfl rfl (by simp only [inK]; omega) rfl trivial ?_
          refine L.assign rfl rfl rfl trivial ?_
          refine L.nil ?_
          exact C.againR 23 (k + 1) ⟨by omega, by rw [List.take_add_one, hx, List.all_append, hal]; simp [fl_line hc4]⟩ (by omega) ⟨(by first | rfl | (show some (Value.int _ _) = some (Value.int _ _); congr 2; omega)), trivial⟩ rfl rfl (List.Sublist.cons _ (List.Sublist.refl _)) (ds_same)
      · obtain rfl : k = b.lines.length := by omega
        rw [List.take_length] at hal
        refine C.exit ?_
        refine C.thenExit ?_
        refine C.thenExit ?_
        refine C.blockExit ?_
        refine C.next ?_
        refine C.seq ?_
        refine C.seq ?_
        refine C.region [(false,0)] rfl ?_
        refine L.assign rfl rfl rfl trivial ?_
        refine L.nil ?_
        refine C.next ?_
        refine C.block ?_
        refine C.loopC (γ := Nat) (fun k => b.counts.length - k) (fun k => k ≤ b.counts.length ∧ (b.counts.take k).all (cntOk b.lines.length) = true) (fun k => [(5, .int .i64 (k : Int))]) [(2, _), (1, _)] (fun k => [E1, D]) 0 ⟨by omega, rfl⟩ ⟨(by first | rfl | (show some (Value.int _ _) = some (Value.int _ _); congr 2; omega)), trivial⟩ ⟨rfl, rfl, trivial⟩ (ds_same) ?_
        rintro k ⟨h2, hac⟩
        refine C.seq ?_
        refine C.seq ?_
        refine C.region [(false,0),(false,1),(false,2),(false,3),(false,4)] rfl ?_
        refine L.move rfl rfl rfl trivial ?_
        refine L.fieldAddr rfl Tf.f25_4 rfl rfl trivial ?_
        refine L.loadD1 rfl (k := 4) Tf.a23 rfl hB1 (by first | simp | assumption) rfl List.not_mem_nil rfl trivial ?_
        refine L.len rfl Try.underlying23 rfl hc rfl rfl trivial ?_
        refine L.lss rfl rfl rfl rfl trivial ?_
        refine L.nil ?_
        refine C.next ?_
        refine C.condD rfl (fun hc5 => ?_) (fun hc5 => ?_)
        · have hk : k < b.counts.length := by omega
          obtain ⟨x, hx⟩ : ∃ x, b.counts[k]? = some x := ⟨_, List.getElem?_eq_getElem hk⟩
          refine C.skip ?_
          refine C.next ?_
          refine C.seq ?_
          refine C.block ?_
          refine C.seq ?_
          refine C.region [(false,0),(false,1),(false,2),(false,3),(false,4),(false,5),(false,6)] rfl ?_
          refine L.fieldAddr rfl Tf.f25_4 rfl rfl trivial ?_
          refine L.loadD1 rfl (k := 4) Tf.a23 rfl hB1 (by first | simp | assumption) rfl List.not_mem_nil rfl trivial ?_
          refine L.move rfl rfl rfl trivial ?_
          refine L.indexS rfl Try.underlying23 Tf.s72 rfl hc rfl (by omega) hx rfl trivial (fun b2 o2 cs2 hr2 hcl2 hA2 => ?_)
          obtain rfl : cs2 = [.int .i64 _, .int .i64 _, .int .i64 _] := hr2
          refine L.loadDW rfl Tf.a72 rfl hA2 (by first | simp | assumption) Tf.s72 List.not_mem_nil rfl trivial ?_
          refine L.alloc rfl Tf.z72 rfl rfl trivial (fun q3 => ?_)
          refine L.storeW rfl rfl rfl rfl Tf.s72 (by first | rfl | (simp only [ints_length, *]; done) | (simp only [ints_length, *]; rfl) | (simp only [ints_length, *]; omega)) (by first | rfl | (simp only [ints_length, *]; done) | (simp only [ints_length, *]; rfl) | (simp only [ints_length, *]; omega)) (Has.head) (by first | exact ints_cell1 _ | simp [cell1]) trivial ?_
          refine L.nil ?_
          refine C.next ?_
          refine C.seq ?_
          refine C.region [(false,0),(false,1),(false,2),(false,3),(false,4),(false,5),(false,6),(false,7),(false,8),(false,9),(false,10),(false,11),(false,12),(false,13),(false,14),(false,15),(false,16),(false,17),(false,18),(false,19),(false,20),(false,21),(false,22),(false,23),(false,24),(false,25),(false,26),(false,27)] rfl ?_
          refine L.fieldAddr rfl Tf.f72_0 rfl rfl trivial ?_
          refine L.loadB1 rfl Tf.a3 rfl (List.Mem.head _) rfl List.not_mem_nil rfl trivial ?_
          refine L.fieldAddr rfl Tf.f25_3 rfl rfl trivial ?_
          refine L.loadD1 rfl (k := 3) Tf.a22 rfl hB1 (by first | simp | assumption) rfl List.not_mem_nil rfl trivial ?_
          refine L.len rfl Try.underlying22 rfl hl rfl rfl trivial ?_
          refine L.callV rfl rfl rfl (fun D7 hD7 => tIn_ok _ _ _ _) rfl trivial ?_
          refine L.not rfl rfl rfl trivial ?_
          refine L.move rfl rfl rfl trivial ?_
          refine' L.or [(false,8),(false,9),(false,10),(false,11),(false,12)] [(false,13),(false,14),(false,15),(false,16),(false,17),(false,18),(false,19),(false,20),(false,21),(false,22),(false,23),(false,24),(false,25),(false,26),(false,27)] (s := 86) (p := 91) rfl rfl (fun hg6 => ?_) (fun hg6 => ?_) ?_
          rotate_left
          · refine L.fieldAddr rfl Tf.f72_1 rfl rfl ⟨_, rfl, rfl⟩ ?_
            refine L.fieldAddr rfl Tf.f70_0 rfl rfl ⟨_, rfl, rfl⟩ ?_
            refine L.loadB1 rfl Tf.a3 rfl (List.Mem.head _) rfl List.not_mem_nil rfl ⟨_, rfl, rfl⟩ ?_
            refine L.lss rfl rfl rfl rfl ⟨_, rfl, rfl⟩ ?_
            refine L.pickF rfl rfl rfl rfl trivial ?_
            exact L.nil fun a w hh => hh.cutK 4 rfl
          · refine L.pass rfl rfl rfl ⟨_, _, rfl, rfl, rfl⟩ ?_
            refine L.pass rfl rfl rfl ⟨_, _, rfl, rfl, rfl⟩ ?_
            refine L.pass rfl rfl rfl ⟨_, _, rfl, rfl, rfl⟩ ?_
            refine L.pass rfl rfl rfl ⟨_, _, rfl, rfl, rfl⟩ ?_
            refine L.pickT rfl rfl rfl rfl trivial ?_
            exact L.nil fun a w hh => hh.cutK 4 rfl
          refine L.move rfl rfl rfl trivial ?_
          refine' L.or [(false,14),(false,15),(false,16),(false,17),(false,18),(false,19),(false,20),(false,21)] [(false,22),(false,23),(false,24),(false,25),(false,26),(false,27)] (s := 92) (p := 100) rfl rfl (fun hg7 => ?_) (fun hg7 => ?_) ?_
          rotate_left
          · refine L.fieldAddr rfl Tf.f72_1 rfl rfl ⟨_, rfl, rfl⟩ ?_
            refine L.fieldAddr rfl Tf.f70_0 rfl rfl ⟨_, rfl, rfl⟩ ?_
            refine L.loadB1 rfl Tf.a3 rfl (List.Mem.head _) rfl List.not_mem_nil rfl ⟨_, rfl, rfl⟩ ?_
            refine L.fieldAddr rfl Tf.f72_1 rfl rfl ⟨_, rfl, rfl⟩ ?_
            refine L.fieldAddr rfl Tf.f70_1 rfl rfl ⟨_, rfl, rfl⟩ ?_
            refine L.loadB1 rfl Tf.a3 rfl (List.Mem.head _) rfl List.not_mem_nil rfl ⟨_, rfl, rfl⟩ ?_
            refine L.gtr rfl rfl rfl rfl ⟨_, rfl, rfl⟩ ?_
            refine L.pickF rfl rfl rfl rfl trivial ?_
            exact L.nil fun a w hh => hh.cutK 7 rfl
          · refine L.pass rfl rfl rfl ⟨_, _, rfl, rfl, rfl⟩ ?_
            refine L.pass rfl rfl rfl ⟨_, _, rfl, rfl, rfl⟩ ?_
            refine L.pass rfl rfl rfl ⟨_, _, rfl, rfl, rfl⟩ ?_
            refine L.pass rfl rfl rfl ⟨_, _, rfl, rfl, rfl⟩ ?_
            refine L.pass rfl rfl rfl ⟨_, _, rfl, rfl, rfl⟩ ?_
            refine L.pass rfl rfl rfl ⟨_, _, rfl, rfl, rfl⟩ ?_
            refine L.pass rfl rfl rfl ⟨_, _, rfl, rfl, rfl⟩ ?_
            refine L.pickT rfl rfl rfl rfl trivial ?_
            exact L.nil fun a w hh => hh.cutK 7 rfl
          refine L.move rfl rfl rfl trivial ?_
          refine' L.or [(false,23),(false,24),(false,25),(false,26),(false,27)] [] (s := 101) (p := 106) rfl rfl (fun hg8 => ?_) (fun hg8 => ?_) ?_
          rotate_left
          · refine L.fieldAddr rfl Tf.f72_1 rfl rfl ⟨_, rfl, rfl⟩ ?_
            refine L.fieldAddr rfl Tf.f70_1 rfl rfl ⟨_, rfl, rfl⟩ ?_
            refine L.loadB1 rfl Tf.a3 rfl (List.Mem.head _) rfl List.not_mem_nil rfl ⟨_, rfl, rfl⟩ ?_
            refine L.gtr rfl rfl rfl rfl ⟨_, rfl, rfl⟩ ?_
            refine L.pickF rfl rfl rfl rfl trivial ?_
            exact L.nil fun a w hh => hh.cutK 4 rfl
          · refine L.pass rfl rfl rfl ⟨_, _, rfl, rfl, rfl⟩ ?_
            refine L.pass rfl rfl rfl ⟨_, _, rfl, rfl, rfl⟩ ?_
            refine L.pass rfl rfl rfl ⟨_, _, rfl, rfl, rfl⟩ ?_
            refine L.pass rfl rfl rfl ⟨_, _, rfl, rfl, rfl⟩ ?_
            refine L.pickT rfl rfl rfl rfl trivial ?_
            exact L.nil fun a w hh => hh.cutK 4 rfl
          refine L.nil ?_
          refine C.next ?_
          refine C.cond rfl (fun hc6 => ?_) (fun hc6 => ?_)
          · refine C.seq ?_
            refine C.region [(false,0)] rfl ?_
            refine L.assign rfl rfl rfl trivial ?_
            refine L.nil ?_
            refine C.next ?_
            refine C.ret ?_
            refine C.blockRet ?_
            refine C.thenRet ?_
            refine C.thenRet ?_
            refine C.blockRet ?_
            refine C.thenRet ?_
            exact leave (vs := [_]) rfl rfl rfl ⟨rfl, trivial⟩ (fun D hD => by show Value.int _ _ = _; rw [fr_arg hc1 (fl_noC hx (fl_cntN hc6))])
          · refine C.skip ?_
            refine C.blockEnd ?_
            refine C.next ?_
            refine C.region [(false,0),(false,1),(false,2)] rfl ?_
            refine L.move rfl rfl rfl trivial ?_
            refine L.add rfl rfl rfl (by simp only [inK]; omega) rfl trivial ?_
            refine L.assign rfl rfl rfl trivial ?_
            refine L.nil ?_
            exact C.againR 28 (k + 1) ⟨by omega, by rw [List.take_add_one, hx, List.all_append, hac]; simp [fl_cnt hc6]⟩ (by omega) ⟨(by first | rfl | (show some (Value.int _ _) = some (Value.int _ _); congr 2; omega)), trivial⟩ rfl rfl (List.Sublist.cons _ (List.Sublist.refl _)) (ds_same)
        · obtain rfl : k = b.counts.length := by omega
          rw [List.take_length] at hac
          have hbk := fl_ok hc2 hal hac
          refine C.exit ?_
          refine C.thenExit ?_
          refine C.thenExit ?_
          refine C.blockExit ?_
          refine C.next ?_
          refine C.seq ?_
          refine C.seq ?_
          refine C.region [(false,0),(false,1),(false,2)] rfl ?_
          refine L.loadDW rfl Tf.a25 rfl hB1 (by first | simp | assumption) Tf.s25 List.not_mem_nil rfl trivial ?_
          refine L.callV rfl rfl rfl (fun D8 hD8 => rMany_ok _ b b.chairs.toNat _ (hb0.up (hD8 _ (by simp))) (by omega) (by omega)) rfl trivial ?_
          refine L.gtr rfl rfl rfl rfl trivial ?_
          refine L.nil ?_
          refine C.next ?_
          refine C.condD rfl (fun hc7 => ?_) (fun hc7 => ?_)
          · refine C.seq ?_
            refine C.region [(false,0)] rfl ?_
            refine L.assign rfl rfl rfl trivial ?_
            refine L.nil ?_
            refine C.next ?_
            refine C.ret ?_
            refine C.thenRet ?_
            exact leave (vs := [_]) rfl rfl rfl ⟨rfl, trivial⟩ (fun D hD => by show Value.int _ _ = _; rw [fr_many hc1 hbk hc7])
          · refine C.skip ?_
            refine C.next ?_
            refine C.seq ?_
            refine C.region [(false,0)] rfl ?_
            refine L.assign rfl rfl rfl trivial ?_
            refine L.nil ?_
            refine C.next ?_
            refine C.ret ?_
            exact leave (vs := [_]) rfl rfl rfl ⟨rfl, trivial⟩ (fun D hD => by show Value.int _ _ = _; rw [fr_fine hc1 hbk hc7])
end Go.Fs
namespace Go.Fs
open Go.Proofs
open C3
def thin3 (b : BookD) : Bool := (decide ((b.lines.length : Int) ≤ 10) && decide ((b.counts.length : Int) ≤ 6)) && (decide (faultR b ≠ 0) || decide (manyR b.chairs.toNat b.lines ≤ 100))
theorem fr_ch {b : BookD} (h : decide (faultR b ≠ 0) = false) : 1 ≤ b.chairs ∧ b.chairs ≤ 4 := by
  rw [decide_eq_false_iff_not, Classical.not_not] at h
  unfold faultR at h
  split at h
  · omega
  · split at h
    · omega
    · rename_i h2
      have h3 : bookOk b = true := by simpa using h2
      unfold bookOk at h3
      simp only [Bool.and_eq_true, C1.inB_iff] at h3
      exact h3.1.1.1.1
theorem thin3_ok (bv : Value) (b : BookD) (D : Data) (hb : BookIs D bv b) : Fn Try.prog 7 #[bv] D (fun _ v => v = .bool (thin3 b)) := by
  have hb0 := hb
  obtain ⟨lv, cv, rfl, hl, hc⟩ := hb
  have hll := hl.len
  have hcl := hc.len
  refine enter 23 Try.func7 rfl rfl rfl rfl fun h0 => ?_
  refine C.seq ?_
  refine C.region [(false,0),(false,1)] rfl ?_
  refine L.boxD rfl rfl rfl rfl trivial (fun q1 E1 hE1 hB1 => ?_)
  refine L.assign rfl rfl rfl trivial ?_
  refine L.nil ?_
  refine C.next ?_
  refine C.seq ?_
  refine C.region [(false,0),(false,1),(false,2),(false,3),(false,4),(false,5),(false,6),(false,7),(false,8),(false,9),(false,10),(false,11),(false,12),(false,13),(false,14),(false,15),(false,16),(false,17),(false,18),(false,19),(false,20)] rfl ?_
  refine L.fieldAddr rfl Tf.f25_3 rfl rfl trivial ?_
  refine L.loadD1 rfl (k := 3) Tf.a22 rfl hB1 (by first | simp | assumption) rfl List.not_mem_nil rfl trivial ?_
  refine L.len rfl Try.underlying22 rfl hl rfl rfl trivial ?_
  refine L.leq rfl rfl rfl rfl trivial ?_
  refine L.move rfl rfl rfl trivial ?_
  refine' L.and [(false,5),(false,6),(false,7),(false,8),(false,9)] [(false,10),(false,11),(false,12),(false,13),(false,14),(false,15),(false,16),(false,17),(false,18),(false,19),(false,20)] (s := 7) (p := 12) rfl rfl (fun hg1 => ?_) (fun hg1 => ?_) ?_
  rotate_left
  · refine L.fieldAddr rfl Tf.f25_4 rfl rfl ⟨_, rfl, rfl⟩ ?_
    refine L.loadD1 rfl (k := 4) Tf.a23 rfl hB1 (by first | simp | assumption) rfl List.not_mem_nil rfl ⟨_, rfl, rfl⟩ ?_
    refine L.len rfl Try.underlying23 rfl hc rfl rfl ⟨_, rfl, rfl⟩ ?_
    refine L.leq rfl rfl rfl rfl ⟨_, rfl, rfl⟩ ?_
    refine L.pickT rfl rfl rfl rfl trivial ?_
    exact L.nil fun a w hh => hh.cutK 4 rfl
  · refine L.pass rfl rfl rfl ⟨_, _, rfl, rfl, rfl⟩ ?_
    refine L.pass rfl rfl rfl ⟨_, _, rfl, rfl, rfl⟩ ?_
    refine L.pass rfl rfl rfl ⟨_, _, rfl, rfl, rfl⟩ ?_
    refine L.pass rfl rfl rfl ⟨_, _, rfl, rfl, rfl⟩ ?_
    refine L.pickF rfl rfl rfl rfl trivial ?_
    exact L.nil fun a w hh => hh.cutK 4 rfl
  refine L.move rfl rfl rfl trivial ?_
  refine' L.and [(false,11),(false,12),(false,13),(false,14),(false,15),(false,16),(false,17),(false,18),(false,19)] [(false,20)] (s := 13) (p := 22) rfl rfl (fun hg2 => ?_) (fun hg2 => ?_) ?_
  rotate_left
  · refine L.loadDW rfl Tf.a25 rfl hB1 (by first | simp | assumption) Tf.s25 List.not_mem_nil rfl ⟨_, rfl, rfl⟩ ?_
    refine L.callV rfl rfl rfl (fun D1 hD1 => rFault_ok _ b _ (hb0.up (hD1 _ (by simp)))) rfl ⟨_, rfl, rfl⟩ ?_
    refine L.neq rfl rfl rfl rfl ⟨_, rfl, rfl⟩ ?_
    refine L.move rfl rfl rfl ⟨_, rfl, rfl⟩ ?_
    refine' L.or [(false,15),(false,16),(false,17),(false,18)] [(false,19)] (s := 17) (p := 21) rfl rfl (fun hg3 => ?_) (fun hg3 => ?_) ?_
    rotate_left
    · have hch := fr_ch hg3
      refine L.loadDW rfl Tf.a25 rfl hB1 (by first | simp | assumption) Tf.s25 List.not_mem_nil rfl ⟨_, rfl, rfl⟩ ?_
      refine L.callV rfl rfl rfl (fun D2 hD2 => rMany_ok _ b b.chairs.toNat _ (hb0.up (hD2 _ (by simp))) (by omega) (by omega)) rfl ⟨_, rfl, rfl⟩ ?_
      refine L.leq rfl rfl rfl rfl ⟨_, rfl, rfl⟩ ?_
      refine L.pickF rfl rfl rfl rfl ⟨_, rfl, rfl⟩ ?_
      exact L.nil fun a w hh => hh.cutK 3 rfl
    · refine L.pass rfl rfl rfl ⟨_, _, rfl, rfl, rfl⟩ ?_
      refine L.pass rfl rfl rfl ⟨_, _, rfl, rfl, rfl⟩ ?_
      refine L.pass rfl rfl rfl ⟨_, _, rfl, rfl, rfl⟩ ?_
      refine L.pickT rfl rfl rfl rfl ⟨_, rfl, rfl⟩ ?_
      exact L.nil fun a w hh => hh.cutK 3 rfl
    refine L.pickT rfl rfl rfl rfl trivial ?_
    exact L.nil fun a w hh => hh.cutK 5 rfl
  · refine L.pass rfl rfl rfl ⟨_, _, rfl, rfl, rfl⟩ ?_
    refine L.pass rfl rfl rfl ⟨_, _, rfl, rfl, rfl⟩ ?_
    refine L.pass rfl rfl rfl ⟨_, _, rfl, rfl, rfl⟩ ?_
    refine L.pass rfl rfl rfl ⟨_, _, rfl, rfl, rfl⟩ ?_
    refine L.pass rfl rfl rfl ⟨_, _, rfl, rfl, rfl⟩ ?_
    refine L.pass rfl rfl rfl ⟨_, _, rfl, rfl, rfl⟩ ?_
    refine L.pass rfl rfl rfl ⟨_, _, rfl, rfl, rfl⟩ ?_
    refine L.pass rfl rfl rfl ⟨_, _, rfl, rfl, rfl⟩ ?_
    refine L.pickF rfl rfl rfl rfl trivial ?_
    exact L.nil fun a w hh => hh.cutK 8 rfl
  refine L.assign rfl rfl rfl trivial ?_
  refine L.nil ?_
  refine C.next ?_
  refine C.ret ?_
  exact leave (vs := [_]) rfl rfl rfl ⟨rfl, trivial⟩ (fun D hD => rfl)
end Go.Fs
namespace Go.Fs
open Go.Proofs
open C3
/-- What a place at the stand is, by what is known of the chair. -/
def plc (x : Int) : Int := if x = 2 then 1 else if x = 1 then 0 else 2
def stoodD (cs : List Int) (m : Int) : C1.RowD := ⟨cs.map plc, [⟨false, cs.length, m⟩], 0, 0⟩
theorem one_cnt {D : Data} {b : Nat} {c : C1.Cnt} {l : List Value} (h : At D b 0 ([.bool c.back, .int .i64 c.many, .int .i64 c.num] ++ l)) : Sl D RC 3 (.slice (some ⟨b, 0, none⟩) 1 1) [c] := by
  refine ⟨_, 1, rfl, by simp, by simp, Or.inr ⟨b, 0, rfl, fun i x hx => ?_⟩⟩
  have hi : i = 0 := by have := (List.getElem?_eq_some_iff.1 hx).1; simp at this; exact this
  subst hi
  obtain rfl : c = x := by simpa using hx
  exact ⟨_, rfl, rfl, fun j v hj => h j v (by rw [List.getElem?_append_left (List.getElem?_eq_some_iff.1 hj).1]; exact hj)⟩
theorem stood_ok (cv : Value) (cs : List Int) (m : Int) (D : Data) (hc : Sl D RI 1 cv cs) (h4 : cs.length ≤ 100) : Fn Try.prog 14 #[cv, .int .i64 m] D (fun D' v => RowIs D' v (stoodD cs m)) := by
  refine enter 37 Try.func14 rfl rfl rfl rfl fun h0 => ?_
  refine C.seq ?_
  refine C.region [(false,0)] rfl ?_
  refine L.alloc rfl Tf.z51 rfl rfl trivial (fun q1 => ?_)
  refine L.nil ?_
  refine C.next ?_
  refine C.seq ?_
  refine C.region [(false,0),(false,1),(false,2),(false,3),(false,4),(false,5),(false,6),(false,7)] rfl ?_
  refine L.move rfl rfl rfl trivial ?_
  refine L.len rfl Try.underlying33 rfl hc rfl rfl trivial ?_
  refine L.move rfl rfl rfl trivial ?_
  refine L.build (cs := [.bool false, .int .i64 (cs.length : Int), .int .i64 m]) rfl Tf.p93 Tf.z93 rfl rfl rfl trivial ?_
  refine L.buildSlice rfl Try.underlying49 Tf.s93 Tf.z93 rfl rfl rfl rfl (.cons rfl rfl .nil) rfl trivial (fun b901 D901 hD901 hA901 => ?_)
  refine L.build (cs := [.slice none 0 0, .slice (some ⟨b901, 0, none⟩) 1 1, .int .i64 0, .int .i64 0]) rfl Tf.p51 Tf.z51 rfl rfl rfl trivial ?_
  refine L.alloc rfl Tf.z51 rfl rfl trivial (fun q2 => ?_)
  refine L.storeW rfl rfl rfl rfl Tf.s51 (by first | rfl | (simp only [ints_length, *]; done) | (simp only [ints_length, *]; rfl) | (simp only [ints_length, *]; omega)) (by first | rfl | (simp only [ints_length, *]; done) | (simp only [ints_length, *]; rfl) | (simp only [ints_length, *]; omega)) (Has.head) (by first | exact ints_cell1 _ | simp [cell1]) trivial ?_
  refine L.nil ?_
  refine C.next ?_
  refine C.seq ?_
  refine C.seq ?_
  refine C.region [(false,0)] rfl ?_
  refine L.assign rfl rfl rfl trivial ?_
  refine L.nil ?_
  refine C.next ?_
  refine C.block ?_
  refine C.loopR (γ := Nat × Value × Boxes) (fun g => cs.length - g.1) (fun g => g.1 ≤ cs.length ∧ Acc 3 1 g.2.1 g.1 (ints ((cs.take g.1).map plc)) g.2.2) (fun g => [(6, .int .i64 (g.1 : Int))]) [(5, _), (4, _), (0, _)] (fun g => (q2, .cells [g.2.1, .slice (some ⟨b901, 0, none⟩) 1 1, .int .i64 0, .int .i64 0].toArray 51 (0, 0)) :: (q1, .cells [.slice none 0 0, .slice none 0 0, .int .i64 0, .int .i64 0].toArray 51 (0, 0)) :: (g.2.2 ++ [])) (fun g => [D901, D]) (0, .slice none 0 0, []) ⟨by simp, by simpa [ints] using Acc.nil⟩ ⟨(by first | rfl | (show some (Value.int _ _) = some (Value.int _ _); congr 2; omega)), trivial⟩ ⟨rfl, rfl, rfl, trivial⟩ (List.Sublist.refl _) (ds_same) ?_
  rintro ⟨k, v, ν⟩ ⟨h3, ha⟩
  simp only at h3 ha
  refine C.seq ?_
  refine C.seq ?_
  refine C.region [(false,0),(false,1),(false,2),(false,3)] rfl ?_
  refine L.move rfl rfl rfl trivial ?_
  refine L.move rfl rfl rfl trivial ?_
  refine L.len rfl Try.underlying33 rfl hc rfl rfl trivial ?_
  refine L.lss rfl rfl rfl rfl trivial ?_
  refine L.nil ?_
  refine C.next ?_
  refine C.condD rfl (fun hc1 => ?_) (fun hc1 => ?_)
  · simp only at hc1
    obtain ⟨x, hx⟩ : ∃ x, cs[k]? = some x := ⟨_, List.getElem?_eq_getElem (by omega)⟩
    refine C.skip ?_
    refine C.next ?_
    refine C.seq ?_
    refine C.block ?_
    refine C.seq ?_
    refine C.region [(false,0)] rfl ?_
    refine L.assign rfl rfl rfl trivial ?_
    refine L.nil ?_
    refine C.next ?_
    refine C.seq ?_
    refine C.seq ?_
    refine C.region [(false,0),(false,1),(false,2),(false,3),(false,4)] rfl ?_
    refine L.move rfl rfl rfl trivial ?_
    refine L.move rfl rfl rfl trivial ?_
    refine L.indexS rfl Try.underlying33 Tf.s3 rfl hc rfl (by omega) hx rfl trivial (fun b1 o1 cs1 hr1 hcl1 hA1 => ?_)
    obtain rfl : cs1 = [.int .i64 _] := hr1
    refine L.loadD1 rfl (k := 0) Tf.a3 rfl hA1 (by first | simp | assumption) rfl List.not_mem_nil rfl trivial ?_
    refine L.eql rfl rfl rfl rfl trivial ?_
    refine L.nil ?_
    refine C.next ?_
    refine C.condD rfl (fun hc2 => ?_) (fun hc2 => ?_)
    · refine C.region [(false,0)] rfl ?_
      refine L.assign rfl rfl rfl trivial ?_
      refine L.nil ?_
      refine C.next ?_
      refine C.seq ?_
      refine C.seq ?_
      refine C.region [(false,0),(false,1),(false,2),(false,3),(false,4)] rfl ?_
      refine L.move rfl rfl rfl trivial ?_
      refine L.move rfl rfl rfl trivial ?_
      refine L.indexS rfl Try.underlying33 Tf.s3 rfl hc rfl (by omega) hx rfl trivial (fun b2 o2 cs2 hr2 hcl2 hA2 => ?_)
      obtain rfl : cs2 = [.int .i64 _] := hr2
      refine L.loadD1 rfl (k := 0) Tf.a3 rfl hA2 (by first | simp | assumption) rfl List.not_mem_nil rfl trivial ?_
      refine L.eql rfl rfl rfl rfl trivial ?_
      refine L.nil ?_
      refine C.next ?_
      refine C.condD rfl (fun hc3 => ?_) (fun hc3 => ?_)
      · omega
      · have hpl : plc x = 0 := by unfold plc; rw [if_neg hc3, if_pos hc2]
        refine C.skip ?_
        refine C.next ?_
        refine C.region [(false,0),(false,1),(false,2),(false,3),(false,4),(false,5),(false,6)] rfl ?_
        refine L.fieldAddr rfl Tf.f51_0 rfl rfl trivial ?_
        refine L.loadB1 rfl Tf.a33 rfl (List.Mem.head _) rfl List.not_mem_nil rfl trivial ?_
        refine L.move rfl rfl rfl trivial ?_
        refine L.buildSlice rfl Try.underlying33 Tf.s3 Tf.z3 rfl rfl rfl rfl (.cons rfl rfl .nil) rfl trivial (fun b902 D902 hD902 hA902 => ?_)
        have hS902 := Sl.ofInts (l := [_]) (n := 1) (cap := 1) hA902 rfl (by omega) (by omega)
        refine L.append (A := [(_, _), (_, _)]) (B := []) rfl Try.underlying33 rfl rfl Tf.s3 Tf.z3 rfl Tf.i3 rfl rfl rfl ha (Src.lit hA902) (by simp) rfl (by simp; omega) (by simp [cell1]) (by omega) (Or.inl rfl) rfl trivial (fun v7 ν7 ha7 => ?_)
        have hn7 : Acc 3 1 v7 (k + 1) (ints ((cs.take (k + 1)).map plc)) ν7 := by rw [List.take_add_one, hx, Option.toList_some, List.map_append, List.map_singleton, hpl]; simpa [ints] using ha7
        refine L.fieldAddr rfl Tf.f51_0 rfl rfl trivial ?_
        refine L.store rfl rfl rfl ha7.cells1 Tf.s33 Has.head (by simp) rfl ha7.cell1 trivial ?_
        refine L.nil ?_
        refine C.blockEnd ?_
        refine C.next ?_
        refine C.region [(false,0),(false,1),(false,2)] rfl ?_
        refine L.move rfl rfl rfl trivial ?_
        refine L.add rfl rfl rfl (by simp only [inK]; omega) rfl trivial ?_
        refine L.assign rfl rfl rfl trivial ?_
        refine L.nil ?_
        exact C.againR 26 (k + 1, v7, ν7) ⟨by simp only; omega, hn7⟩ (by simp only; omega) ⟨(by first | rfl | (show some (Value.int _ _) = some (Value.int _ _); congr 2; omega)), trivial⟩ rfl rfl (List.Sublist.refl _) (fun D h => ⟨D, List.Mem.tail _ (h), Le.refl D⟩)
    · refine C.skip ?_
      refine C.next ?_
      refine C.seq ?_
      refine C.seq ?_
      refine C.region [(false,0),(false,1),(false,2),(false,3),(false,4)] rfl ?_
      refine L.move rfl rfl rfl trivial ?_
      refine L.move rfl rfl rfl trivial ?_
      refine L.indexS rfl Try.underlying33 Tf.s3 rfl hc rfl (by omega) hx rfl trivial (fun b3 o3 cs3 hr3 hcl3 hA3 => ?_)
      obtain rfl : cs3 = [.int .i64 _] := hr3
      refine L.loadD1 rfl (k := 0) Tf.a3 rfl hA3 (by first | simp | assumption) rfl List.not_mem_nil rfl trivial ?_
      refine L.eql rfl rfl rfl rfl trivial ?_
      refine L.nil ?_
      refine C.next ?_
      refine C.condD rfl (fun hc4 => ?_) (fun hc4 => ?_)
      · have hpl : plc x = 1 := if_pos hc4
        refine C.region [(false,0)] rfl ?_
        refine L.assign rfl rfl rfl trivial ?_
        refine L.nil ?_
        refine C.next ?_
        refine C.region [(false,0),(false,1),(false,2),(false,3),(false,4),(false,5),(false,6)] rfl ?_
        refine L.fieldAddr rfl Tf.f51_0 rfl rfl trivial ?_
        refine L.loadB1 rfl Tf.a33 rfl (List.Mem.head _) rfl List.not_mem_nil rfl trivial ?_
        refine L.move rfl rfl rfl trivial ?_
        refine L.buildSlice rfl Try.underlying33 Tf.s3 Tf.z3 rfl rfl rfl rfl (.cons rfl rfl .nil) rfl trivial (fun b903 D903 hD903 hA903 => ?_)
        have hS903 := Sl.ofInts (l := [_]) (n := 1) (cap := 1) hA903 rfl (by omega) (by omega)
        refine L.append (A := [(_, _), (_, _)]) (B := []) rfl Try.underlying33 rfl rfl Tf.s3 Tf.z3 rfl Tf.i3 rfl rfl rfl ha (Src.lit hA903) (by simp) rfl (by simp; omega) (by simp [cell1]) (by omega) (Or.inl rfl) rfl trivial (fun v7 ν7 ha7 => ?_)
        have hn7 : Acc 3 1 v7 (k + 1) (ints ((cs.take (k + 1)).map plc)) ν7 := by rw [List.take_add_one, hx, Option.toList_some, List.map_append, List.map_singleton, hpl]; simpa [ints] using ha7
        refine L.fieldAddr rfl Tf.f51_0 rfl rfl trivial ?_
        refine L.store rfl rfl rfl ha7.cells1 Tf.s33 Has.head (by simp) rfl ha7.cell1 trivial ?_
        refine L.nil ?_
        refine C.blockEnd ?_
        refine C.next ?_
        refine C.region [(false,0),(false,1),(false,2)] rfl ?_
        refine L.move rfl rfl rfl trivial ?_
        refine L.add rfl rfl rfl (by simp only [inK]; omega) rfl trivial ?_
        refine L.assign rfl rfl rfl trivial ?_
        refine L.nil ?_
        exact C.againR 26 (k + 1, v7, ν7) ⟨by simp only; omega, hn7⟩ (by simp only; omega) ⟨(by first | rfl | (show some (Value.int _ _) = some (Value.int _ _); congr 2; omega)), trivial⟩ rfl rfl (List.Sublist.refl _) (fun D h => ⟨D, List.Mem.tail _ (h), Le.refl D⟩)
      · have hpl : plc x = 2 := by unfold plc; rw [if_neg hc4, if_neg hc2]
        refine C.skip ?_
        refine C.next ?_
        refine C.region [(false,0),(false,1),(false,2),(false,3),(false,4),(false,5),(false,6)] rfl ?_
        refine L.fieldAddr rfl Tf.f51_0 rfl rfl trivial ?_
        refine L.loadB1 rfl Tf.a33 rfl (List.Mem.head _) rfl List.not_mem_nil rfl trivial ?_
        refine L.move rfl rfl rfl trivial ?_
        refine L.buildSlice rfl Try.underlying33 Tf.s3 Tf.z3 rfl rfl rfl rfl (.cons rfl rfl .nil) rfl trivial (fun b904 D904 hD904 hA904 => ?_)
        have hS904 := Sl.ofInts (l := [_]) (n := 1) (cap := 1) hA904 rfl (by omega) (by omega)
        refine L.append (A := [(_, _), (_, _)]) (B := []) rfl Try.underlying33 rfl rfl Tf.s3 Tf.z3 rfl Tf.i3 rfl rfl rfl ha (Src.lit hA904) (by simp) rfl (by simp; omega) (by simp [cell1]) (by omega) (Or.inl rfl) rfl trivial (fun v7 ν7 ha7 => ?_)
        have hn7 : Acc 3 1 v7 (k + 1) (ints ((cs.take (k + 1)).map plc)) ν7 := by rw [List.take_add_one, hx, Option.toList_some, List.map_append, List.map_singleton, hpl]; simpa [ints] using ha7
        refine L.fieldAddr rfl Tf.f51_0 rfl rfl trivial ?_
        refine L.store rfl rfl rfl ha7.cells1 Tf.s33 Has.head (by simp) rfl ha7.cell1 trivial ?_
        refine L.nil ?_
        refine C.blockEnd ?_
        refine C.next ?_
        refine C.region [(false,0),(false,1),(false,2)] rfl ?_
        refine L.move rfl rfl rfl trivial ?_
        refine L.add rfl rfl rfl (by simp only [inK]; omega) rfl trivial ?_
        refine L.assign rfl rfl rfl trivial ?_
        refine L.nil ?_
        exact C.againR 25 (k + 1, v7, ν7) ⟨by simp only; omega, hn7⟩ (by simp only; omega) ⟨(by first | rfl | (show some (Value.int _ _) = some (Value.int _ _); congr 2; omega)), trivial⟩ rfl rfl (List.Sublist.refl _) (fun D h => ⟨D, List.Mem.tail _ (h), Le.refl D⟩)
  · obtain rfl : k = cs.length := by simp only at hc1; omega
    rw [List.take_length] at ha
    refine C.exit ?_
    refine C.thenExit ?_
    refine C.thenExit ?_
    refine C.blockExit ?_
    refine C.next ?_
    refine C.seq ?_
    refine C.region [(false,0),(false,1)] rfl ?_
    refine L.loadBW rfl Tf.a51 rfl (List.Mem.head _) Tf.s51 List.not_mem_nil rfl trivial ?_
    refine L.storeW rfl rfl rfl rfl Tf.s51 (by first | rfl | (simp only [ints_length, *]; done) | (simp only [ints_length, *]; rfl) | (simp only [ints_length, *]; omega)) (by first | rfl | (simp only [ints_length, *]; done) | (simp only [ints_length, *]; rfl) | (simp only [ints_length, *]; omega)) (.tail (Has.head)) (cell1_row ha.cell1 (by simp [cell1])) trivial ?_
    refine L.nil ?_
    refine C.next ?_
    refine C.ret ?_
    refine Q.freeze (A := [(_, _), (_, _)]) (B := []) ha rfl (fun D2 hD2 hF => ?_)
    exact leave (vs := [_]) rfl rfl rfl ⟨⟨_, _, _, rfl, (List.Mem.tail _ (List.Mem.head _)), Or.inr ⟨Tf.a51, Tf.s51, rfl⟩⟩, trivial⟩ (fun D hD => ⟨v, _, rfl, (hF.ints (by simp) (by omega)).up RI.up (hD _ (by simp)), (one_cnt hA901).up RC.up (hD _ (by simp))⟩)
end Go.Fs
namespace Go.Fs
open Go.Proofs
open C3
theorem getD_set {l : List Int} {i k : Nat} {x : Int} (hk : k < l.length) : (l.set k x).getD i 0 = if k = i then x else l.getD i 0 := by
  rw [List.getD_eq_getElem?_getD, List.getElem?_set, List.getD_eq_getElem?_getD]
  by_cases e : k = i
  · subst e; rw [if_pos rfl, if_pos rfl, if_pos hk]; rfl
  · rw [if_neg e, if_neg e]
/-- The scenes of a list of lines say who is out, and the money. -/
theorem link {b : BookD} {t : List Lin} (hin : ∀ l ∈ t, linIn 4 l) : ∀ k, k ≤ t.length →
    (∀ i : Nat, i < 4 → (scK b t k).ch.getD i 0 = coR Lin.chair t i k + 1) ∧ (∀ i : Nat, i < 4 → (scK b t k).tk.getD i 0 = coR Lin.token t i k + 1) ∧ (scK b t k).money = monR b t k
  | 0, _ => by
    refine ⟨fun i hi => ?_, fun i hi => ?_, rfl⟩
    · have : i = 0 ∨ i = 1 ∨ i = 2 ∨ i = 3 := by omega
      rcases this with rfl | rfl | rfl | rfl <;> rfl
    · have : i = 0 ∨ i = 1 ∨ i = 2 ∨ i = 3 := by omega
      rcases this with rfl | rfl | rfl | rfl <;> rfl
  | k + 1, hk => by
    obtain ⟨h1, h2, h3⟩ := link (b := b) hin k (by omega)
    obtain ⟨h4, h5⟩ := scK_four b t k
    obtain ⟨x, hx⟩ : ∃ x, t[k]? = some x := ⟨_, List.getElem?_eq_getElem (by omega)⟩
    obtain ⟨g0, g1, g2, g3, g4⟩ := hin x (List.mem_of_getElem? hx)
    have hc : x.chair.toNat < (scK b t k).ch.length := by omega
    have ht : x.token.toNat < (scK b t k).tk.length := by omega
    rw [← nx_is hx]
    by_cases e : x.kind = 2
    · have e1 : ¬ x.kind = 1 := by omega
      unfold nextN
      rw [if_pos e]
      refine ⟨fun i hi => ?_, fun i hi => ?_, ?_⟩
      · simp only
        rw [getD_set hc]
        by_cases hi' : x.chair = (i : Int)
        · rw [if_pos (by omega), co_back hx hi' e1]; rfl
        · rw [if_neg (by omega), co_other hx hi']; exact h1 i hi
      · simp only
        rw [getD_set ht]
        by_cases hi' : x.token = (i : Int)
        · rw [if_pos (by omega), co_back hx hi' e1]; rfl
        · rw [if_neg (by omega), co_other hx hi']; exact h2 i hi
      · simp only
        rw [mon_sub hx e1, h3]
    · have e1 : x.kind = 1 := by omega
      unfold nextN
      rw [if_neg e]
      refine ⟨fun i hi => ?_, fun i hi => ?_, ?_⟩
      · simp only
        rw [getD_set hc]
        by_cases hi' : x.chair = (i : Int)
        · rw [if_pos (by omega), co_in hx hi' e1]
        · rw [if_neg (by omega), co_other hx hi']; exact h1 i hi
      · simp only
        rw [getD_set ht]
        by_cases hi' : x.token = (i : Int)
        · rw [if_pos (by omega), co_in hx hi' e1]
        · rw [if_neg (by omega), co_other hx hi']; exact h2 i hi
      · simp only
        rw [mon_add hx e1, h3]
theorem co_low (f : Lin → Int) (t : List Lin) (c : Int) : ∀ k, -1 ≤ coR f t c k
  | 0 => by simp [coR]
  | k + 1 => by
    have := co_low f t c k
    rw [coR]
    split
    · split
      · split <;> omega
      · omega
    · omega
/-- What is possible by the reference is possible by the program. -/
theorem can_is {b : BookD} {t : List Lin} (hin : ∀ l ∈ t, linIn 4 l) {k : Nat} {x : Lin} (hx : t[k]? = some x) : canN (scK b t k) x = possS t k := by
  have hk := (List.getElem?_eq_some_iff.1 hx).1
  obtain ⟨h1, h2, _⟩ := link (b := b) hin k (by omega)
  obtain ⟨g0, g1, g2, g3, g4⟩ := hin x (List.mem_of_getElem? hx)
  have e1 := h1 x.chair.toNat (by omega)
  have e2 := h2 x.token.toNat (by omega)
  rw [show ((x.chair.toNat : Nat) : Int) = x.chair by omega] at e1
  rw [show ((x.token.toNat : Nat) : Int) = x.token by omega] at e2
  have l1 := co_low Lin.chair t x.chair k
  have l2 := co_low Lin.token t x.token k
  unfold canN possS getI
  rw [hx, e1, e2]
  simp only
  congr 2
  · exact decide_eq_decide.2 (by omega)
  · exact decide_eq_decide.2 (by omega)
end Go.Fs
namespace Go.Fs
variable {P : Program} {X : Cx} {γb : Type} [Membership Nat γb] {bad : γb} {all : Array Oper} {K : Act → World → Prop} {Q : Exit → Act → World → Prop}
variable {σ : Slots} {μ : Boxes} {Ds : List Data} {os : List (Bool × Nat)} {fl : Bool} {ix : Nat}
variable {d : Nat} {x y z : Operand} {u v : Value} {ty : TypeId} {pos : String} {aft : Array Edge} {g : Option (Nat × Bool)}
/-- As IterS; enc says which values may be handed over with the block that is shown. -/
def IterT {α : Type} (P : Program) (f : FuncId) (cap : List Value) (Dr : Data) (xs : List α) (enc : Nat → List Value → Prop) (cells : α → List Value) : Prop :=
  EF P f ∧ ∀ (lo l : Nat) (J Jx : List α → Inv), (∀ pre, Stb lo (J pre)) → (∀ pre, Stb lo (Jx pre)) →
    (∀ pre x β D w bo vs, (∃ r, xs = pre ++ x :: r) → Dom lo D w → J pre β D w → (∀ b ∈ β, b < w.heap.size) → Le Dr D → enc bo vs → Shown β D w bo (cells x) →
      YieldRuns P l vs w fun b D' w' => Dom lo D' w' ∧ High β D w D' w' ∧ (if b then J (pre ++ [x]) β D' w' else Jx (pre ++ [x]) β D' w')) →
    ∀ D w, Dom lo D w → Le Dr D → J [] [] D w → Calls P f (.func (.yield l) #[] #[] :: cap).toArray w fun e w' => ∃ v D', e = .returned v ∧ Dom lo D' w' ∧ (J xs [] D' w' ∨ ∃ pre, Jx pre [] D' w')
/-- **THE STATEMENT 'for .. := range g { .. }'**, outermost in its function, of such an iterator. -/
theorem C.rangeFuncT {α γ : Type} {xs : List α} {enc : Nat → List Value → Prop} {cells : α → List Value} {Dr : Data} {f : FuncId} {cap : List Value} {gop : Operand} {ps : Array Tmp} {assign body : Code}
    (Φ : List α → γ → Prop) (Ψ : List α → Code → γ → Prop) (M : γ → Boxes) (g₀ : γ) (hr : X.r = none) (hex : X.ex = none) (hmods : ∀ g, ∀ k ∈ X.mods, k ∈ (M g).ks)
    (hg : ev σ gop = some (.func (.func f) #[] cap.toArray)) (hit : IterT P f cap Dr xs enc cells) (hDr : Dr ∈ Ds) (hps : ∀ b vs, enc b vs → vs.length = ps.size) (hpN : (ps.toList.all fun p => Nat.blt p X.N) = true) (h₀ : Φ [] g₀) (hμ : M g₀ = μ)
    (hround : ∀ pre x g, (∃ r, xs = pre ++ x :: r) → Φ pre g → ∀ (l bd bo : Nat) (vs : List Value) (rec : Loop) (h0 : H0) (D : Data), (∀ D₁ ∈ Ds, Le D₁ D) → enc bo vs → At D bo 0 (cells x) → rec.state = .ready → rec.pending = none →
      WC P (Xr l X.N h0 D ((M g ++ (l, Obj.loop rec) :: [(bd, Obj.deferred (some []))]).map (·.1)))
        (Exit.then (fun a₁ w₁ => ∃ w₂, (Instr.beginRound l).run P w₁ = .ok () w₂ ∧ body.wpIn ((FW none).inRound l) 0 P (roundPost P l (RoundR h0 D ((M g ++ (l, Obj.loop rec) :: [(bd, Obj.deferred (some []))]).map (·.1)) (Φ (pre ++ [x])) (Ψ (pre ++ [x]))
          (fun g => M g ++ (l, Obj.loop { rec with state := .ready, pending := none }) :: [(bd, Obj.deferred (some []))]) (fun c g => M g ++ (l, Obj.loop { rec with state := .done, pending := some c }) :: [(bd, Obj.deferred (some []))]))) a₁ w₂) (fun _ _ _ => False))
        assign (parSlots ps.toList vs σ) (M g ++ (l, Obj.loop rec) :: [(bd, Obj.deferred (some []))]) (D :: Ds))
    (hdone : ∀ g bd, Φ xs g → ∀ a w, Hl (X.withDs bd) σ (M g ++ [(bd, Obj.deferred (some []))]) Ds a w → Q .normal a w)
    (hstop : ∀ pre c g bd, Ψ pre c g → WC P (X.withDs bd) Q c σ (M g ++ [(bd, Obj.deferred (some []))]) Ds) : WC P X Q (.rangeFunc gop ps assign body) σ μ Ds := by
  intro a w hh
  subst hμ
  have hev := hh.eval hg
  obtain ⟨h1, h2, h3, D, h4, h5, h6⟩ := hh
  refine wpIn_rangeFunc fun fn _ => ?_
  have hround' : (FW X.r).round = none := hr
  rw [hround']
  have hmk : ∀ g (B : Boxes), ∀ k ∈ X.mods, k ∈ (M g ++ B).ks := fun g B k hk => by
    show k ∈ (M g ++ B).map _
    rw [List.map_append]; exact List.mem_append_left _ (hmods g k hk)
  let bd := w.heap.size
  let l := w.heap.size + 1
  let rec0 : Loop := { state := .ready, pending := none, fn, tmps := a.tmps, params := ps, assign, body, defers := bd }
  let w1 : World := { w with heap := w.heap.push (.deferred (some [])) }
  let w2 : World := { w1 with heap := w1.heap.push (.loop rec0) }
  have hs1 : Sta X.h0 X.lo X.D0 X.mods ((bd, Obj.deferred (some [])) :: M g₀) D w1 := h4.push (.deferred (some [])) trivial
  have hs2 : Sta X.h0 X.lo X.D0 X.mods ((l, Obj.loop rec0) :: (bd, Obj.deferred (some [])) :: M g₀) D w2 := by
    have := hs1.push (.loop rec0) trivial
    have e : w1.heap.size = l := by simp [w1, l]
    rw [e] at this; exact this
  have hperm : Sta X.h0 X.lo X.D0 X.mods (M g₀ ++ (l, Obj.loop rec0) :: [(bd, Obj.deferred (some []))]) D w2 := by
    refine hs2.sub (fun p hp => ?_) ?_
    · simp only [List.mem_append, List.mem_cons, List.not_mem_nil, or_false] at hp ⊢
      rcases hp with hp | hp | hp
      · exact Or.inr (Or.inr hp)
      · exact Or.inl hp
      · exact Or.inr (Or.inl hp)
    · have hn := hs2.nd
      simp only [List.map_cons, List.nodup_cons, List.mem_cons, not_or] at hn
      simp only [List.map_append, List.map_cons, List.map_nil, List.nodup_append, List.nodup_cons, List.mem_cons, List.not_mem_nil, or_false, not_false_eq_true, List.nodup_nil, and_true]
      refine ⟨hn.2.2, hn.1.1, fun q hq r hr' => ?_⟩
      rcases hr' with rfl | rfl
      · rintro rfl; exact hn.1.2 hq
      · rintro rfl; exact hn.2.1 hq
  -- the call
  refine ⟨l, [markOf bd], w2, { target := .fn (.func f) cap.toArray, args := #[.func (.yield l) #[] #[]] }, w2, f, (.func (.yield l) #[] #[] :: cap).toArray, w2, run_enterLoop_outer fn a.tmps ps assign body, ?_, fun _ _ => trivial, ?_, fun h => by simp [FW] at h, ?_⟩
  · simp only [resolve, Deferred.ofValue]
    have e : Array.map a.eval #[Operand.const (Value.func (Fn.yield l) #[] #[])] = #[.func (.yield l) #[] #[]] := by simp [Act.eval]
    rw [e, hev]; rfl
  · simp only [invoke]
    rw [hit.1]; simp
  · refine callsIn_FW.2 ((hit.2 X.lo l
      (fun pre => OwnM X.h0 X.lo X.D0 X.mods Ds (Φ pre) fun g => M g ++ (l, Obj.loop rec0) :: [(bd, Obj.deferred (some []))])
      (fun pre => OwnM X.h0 X.lo X.D0 X.mods Ds (fun cg : Code × γ => Ψ pre cg.1 cg.2) fun cg => M cg.2 ++ (l, Obj.loop { rec0 with state := .done, pending := some cg.1 }) :: [(bd, Obj.deferred (some []))])
      (fun _ => own_stbM) (fun _ => own_stbM) ?_ D w2 hs2.dom (h5 Dr hDr) ⟨g₀, h₀, hperm, h5, (fun _ h => by cases h), (fun _ _ h => by cases h), hmk g₀ _⟩).mono ?_)
    · rintro pre x β Dx wx bo vs hx hdx ⟨g, hΦ, hst, hDs, hβ, hM, hmg⟩ hβs hle henc ⟨hbo, hbD, be, bfz, hbw⟩
      have hbox := (hst.box (l, Obj.loop rec0) (by simp)).1
      refine ⟨fn, _, assign, body, run_yield hbox (by simpa using hps bo vs henc), ?_⟩
      refine (roundIn_of_wpIn (F := FW none) trivial (R := RoundR (hd wx) (shown Dx bo (cells x)) ((M g ++ (l, Obj.loop rec0) :: [(bd, Obj.deferred (some []))]).map (·.1)) (Φ (pre ++ [x])) (Ψ (pre ++ [x]))
          (fun g => M g ++ (l, Obj.loop { rec0 with state := .ready, pending := none }) :: [(bd, Obj.deferred (some []))]) (fun c g => M g ++ (l, Obj.loop { rec0 with state := .done, pending := some c }) :: [(bd, Obj.deferred (some []))])) ?_).mono ?_
      · have hw := hround pre x g hx hΦ l bd bo vs rec0 (hd wx) (shown Dx bo (cells x)) (fun D₁ h => (hDs D₁ h).trans (shown_le hbD)) henc (shown_at _ _ _) rfl rfl
        have ht : (ps.zip vs.toArray).foldl (fun tmps (t, a) => tmps.setIfInBounds t a) a.tmps = (ps.toList.zip vs).foldl (fun tmps (p : Tmp × Value) => tmps.setIfInBounds p.1 p.2) a.tmps := by
          rw [← Array.foldl_toList]; simp
        have hpN' : ∀ p ∈ ps.toList, p < a.tmps.size := fun p hp => by rw [h1]; simpa [Nat.blt_eq] using List.all_eq_true.1 hpN p hp
        refine hw { tmps := _, defers := [] } wx ⟨?_, fun s v hs => ?_, rfl, shown Dx bo (cells x), ⟨Nat.le_refl _, Nat.le_refl _, fun _ _ _ => rfl, fun _ _ => rfl, shown_agr hst.agr hbw, fun p hp => ?_, hst.nd, fun b o hb ho => ?_, fun e he => Option.some.inj he⟩, fun D₁ hD₁ => ?_, trivial⟩
        · show ((ps.zip vs.toArray).foldl _ a.tmps).size = X.N
          rw [ht, size_par]; exact h1
        · show ((ps.zip vs.toArray).foldl _ a.tmps)[s]? = some v
          rw [ht]; exact look_par _ _ _ _ h2 hpN' s v hs
        · obtain ⟨p1, p2, p3⟩ := hst.box p hp
          exact ⟨p1, by unfold shown; rw [if_neg (fun e => hM p hp (by rw [e]; exact hbo))]; exact p2, Or.inr (List.mem_map.2 ⟨p, hp, rfl⟩)⟩
        · rcases hb with hb | hb
          · exact absurd (lt_of_some ho) (Nat.not_lt_of_le hb)
          · obtain ⟨p, hp, rfl⟩ := List.mem_map.1 hb
            exact hst.fz _ o (hst.box p hp).2.2 ho
        · rcases List.mem_cons.1 hD₁ with rfl | hD₁
          · exact Le.refl _
          · exact (hDs D₁ hD₁).trans (shown_le hbD)
      · rintro e w' ⟨b, D', rfl, hb⟩
        have fin : ∀ μ', Sta (hd wx) wx.heap.size (shown Dx bo (cells x)) ((M g ++ (l, Obj.loop rec0) :: [(bd, Obj.deferred (some []))]).map (·.1)) μ' D' w' → Sta X.h0 X.lo X.D0 X.mods μ' (shown D' bo []) w' ∧ High β Dx wx (shown D' bo []) w' ∧ (∀ D₁ ∈ Ds, Le D₁ (shown D' bo [])) ∧ (∀ p ∈ μ', p.1 ∉ β) := by
          intro μ' hs0
          have hs' := hs0.hide hbD
          refine ⟨hst.roundM hmg hs', Sta.roundHigh hst.agr hs' hβs hM, fun D₁ hD₁ => (hDs D₁ hD₁).trans (le_of_call hst.agr hs'), fun p hp hpb => ?_⟩
          rcases (hs'.box p hp).2.2 with h | h
          · have := hβs _ hpb; omega
          · obtain ⟨q, hq, he⟩ := List.mem_map.1 h
            exact hM q hq (by rw [he]; exact hpb)
        refine ⟨b, shown D' bo [], rfl, ?_⟩
        cases b with
        | true =>
          obtain ⟨g', hg', hs'⟩ := hb
          obtain ⟨f1, f2, f3, f4⟩ := fin _ hs'
          exact ⟨f1.dom, f2, g', hg', f1, f3, hβ, f4, hmk g' _⟩
        | false =>
          obtain ⟨c', g', hg', hs'⟩ := hb
          obtain ⟨f1, f2, f3, f4⟩ := fin _ hs'
          exact ⟨f1.dom, f2, (c', g'), hg', f1, f3, hβ, f4, hmk g' _⟩
    · rintro e w' ⟨v, D', rfl, hd, hend⟩
      have post : ∀ (g : γ) (r : Loop), Sta X.h0 X.lo X.D0 X.mods (M g ++ (l, Obj.loop r) :: [(bd, Obj.deferred (some []))]) D' w' → (∀ D₁ ∈ Ds, Le D₁ D') →
          Hl (X.withDs bd) σ (M g ++ [(bd, Obj.deferred (some []))]) Ds { a with defers := [markOf bd] ++ a.defers } (w'.putObj l (.loop { r with state := .exhausted })) := by
        intro g r hs hD'
        have hHas : Has (M g ++ (l, Obj.loop r) :: [(bd, Obj.deferred (some []))]) l (.loop r) (.loop { r with state := .exhausted }) (M g ++ (l, Obj.loop { r with state := .exhausted }) :: [(bd, Obj.deferred (some []))]) := .app .head
        have hs' := hs.set (w' := w'.putObj l (.loop { r with state := .exhausted })) hHas ⟨rfl, rfl⟩ trivial
        have hs'' := hs'.sub (μ' := M g ++ [(bd, Obj.deferred (some []))]) (fun p hp => by
          rcases List.mem_append.1 hp with hp | hp
          · exact List.mem_append_left _ hp
          · exact List.mem_append_right _ (List.mem_cons_of_mem _ hp)) (by
          have hn := hs'.nd
          rw [List.map_append, List.nodup_append] at hn ⊢
          simp only [List.map_cons] at hn
          exact ⟨hn.1, (List.nodup_cons.1 hn.2.1).2, fun q hq r hr => hn.2.2 q hq r (List.mem_cons_of_mem _ hr)⟩)
        exact ⟨h1, h2, congrArg (markOf bd :: ·) h3, D', hs'', hD', by unfold exOk; show (match X.ex with | none => True | some J => _); rw [hex]; trivial⟩
      rcases hend with ⟨g, hΦ, hs, hDs, _, _, _⟩ | ⟨pre, ⟨c, g⟩, hΨ, hs, hDs, _, _, _⟩
      · have hb := (hs.box (l, Obj.loop rec0) (by simp)).1
        exact ⟨none, _, run_endLoop hb (by simp [rec0]), hdone g bd hΦ _ _ (post g rec0 hs hDs)⟩
      · have hb := (hs.box (l, Obj.loop { rec0 with state := .done, pending := some c }) (by simp)).1
        refine ⟨some c, _, run_endLoop hb (by simp), ?_⟩
        have := hstop pre c g bd hΨ _ _ (post g _ hs hDs)
        exact this
theorem enterIterT {α : Type} {f : FuncId} {fn : Func} {c : Code} {cap : List Value} {Dr : Data} {xs : List α} {enc : Nat → List Value → Prop} {cells : α → List Value} (N : Nat) (hf : P.funcs[f]? = some fn) (hn : (fn.name == "runtime.NumGoroutine") = false) (hb : fn.body = some c) (hN : fn.ntmps = N) (hsz : Nat.ble (cap.length + 1) N = true)
    (h : ∀ (lo l : Nat) (J Jx : List α → Inv), (∀ pre, Stb lo (J pre)) → (∀ pre, Stb lo (Jx pre)) →
      (∀ pre x β D w bo vs, (∃ r, xs = pre ++ x :: r) → Dom lo D w → J pre β D w → (∀ b ∈ β, b < w.heap.size) → Le Dr D → enc bo vs → Shown β D w bo (cells x) →
        YieldRuns P l vs w fun b D' w' => Dom lo D' w' ∧ High β D w D' w' ∧ (if b then J (pre ++ [x]) β D' w' else Jx (pre ++ [x]) β D' w')) →
      WC P (Xj N lo (J [])) (bodyPost P fn (PostJ lo [Dr] fun _ J' _ => J' = J xs ∨ ∃ pre, J' = Jx pre)) c (slotsOf 0 (.func (.yield l) #[] #[] :: cap)) [] [Dr]) : IterT P f cap Dr xs enc cells := by
  refine ⟨EF.of hf hn hb, fun lo l J Jx hs hsx hY D w hd hle hJ => ?_⟩
  have hF := enterJ (μ := []) N hf hn hb hN (by simpa using hsz) (h lo l J Jx hs hsx hY)
  refine (hF.2 w ⟨D, ⟨Nat.zero_le _, hd.2.1, fun b hb => absurd hb (Nat.not_lt_zero _), fun b hb => absurd hb (Nat.not_lt_zero _), hd.1, (fun p hp => by cases hp), List.nodup_nil, fun b o hb ho => hd.2.2 b o (hb.resolve_right (by simp)) ho, fun e he => by cases he⟩, fun D₁ h1 => ?_, hs [], hJ⟩).mono ?_
  · simp only [List.mem_singleton] at h1; subst h1; exact hle
  · rintro e w' ⟨v, J', μ', rfl, ⟨D', hst, hds, hex⟩, hpost⟩
    refine ⟨v, D', rfl, hst.dom, ?_⟩
    have hJ' : J' [] D' w' := hex.1.own _ [] D' w' hex.2 (fun b hb => by cases hb)
    rcases hpost with rfl | ⟨pre, rfl⟩
    · exact Or.inl hJ'
    · exact Or.inr ⟨pre, hJ'⟩
end Go.Fs
namespace Go.Fs
variable {P : Program} {X : Cx} {γb : Type} [Membership Nat γb] {bad : γb} {all : Array Oper} {K : Act → World → Prop} {Q : Exit → Act → World → Prop}
variable {σ : Slots} {μ : Boxes} {Ds : List Data} {os : List (Bool × Nat)} {fl : Bool} {ix : Nat}
variable {d : Nat} {x y z : Operand} {u v : Value} {ty : TypeId} {pos : String} {aft : Array Edge} {g : Option (Nat × Bool)}
/-- **A CALL** that reads a list that the frame owns, and goes on owning. -/
theorem L.callAcc {A B ν : Boxes} {e : TypeId} {sz n : Nat} {cells : List Value} {c : Operand} {xs : Array Operand} {ats : Array TypeId} {f : FuncId} {c1 c2 : List Value} {vs : List Value} {r : Value} (ho : all[ix]? = some ⟨some d, .call { callee := .value c, args := xs, argTypes := ats }, ty, pos, aft, g⟩) (hc : ev σ c = some (.func (.func f) c1.toArray c2.toArray)) (hxs : evs σ xs.toList = some vs)
    (hacc : Acc e sz v n cells ν) (hf : ∀ D, (∀ D₁ ∈ Ds, Le D₁ D) → Froz D v n cells → Fn P f (c1 ++ vs ++ c2).toArray D (fun _ w => w = r)) (hN : Nat.blt d X.N = true) (hg : Gok all σ g)
    (kk : WL P X bad all K Q os ((d, r) :: σ) (A ++ ν ++ B) Ds) : WL P X bad all K Q ((fl, ix) :: os) σ (A ++ ν ++ B) Ds := by
  rcases hacc with ⟨a', hv, h0, h00, rfl⟩ | ⟨b, cap, junk, hv, hcap, rfl, h8, h9⟩
  · exact L.callV ho hc hxs (fun D hD => hf D hD (Or.inl ⟨a', hv, h0, h00⟩)) hN hg kk
  · refine L.loud ho rfl rfl hg fun a w hh => ?_
    obtain ⟨h1, h2, h3, D, h4, h5, h6⟩ := id hh
    obtain ⟨hb1, hb2, hb3⟩ := h4.box (b, .cells (cells ++ junk).toArray e (0, 0)) (by simp)
    have hA := shown_at D b (cells ++ junk)
    have hF := hf (shown D b (cells ++ junk)) (fun D₁ hD₁ => (h5 D₁ hD₁).trans (shown_le hb2)) (Or.inr ⟨b, cap, hv, hcap, fun j u hj => hA j u (by rw [List.getElem?_append_left (List.getElem?_eq_some_iff.1 hj).1]; exact hj)⟩)
    rw [run_call hF.1 (hh.eval hc) (evs_eval (fun _ _ hx => hh.eval hx) hxs)]
    refine ⟨fun h => by simp [FW] at h, callsIn_FW.2 ((hF.2 w (shown_agr h4.agr hb1)).mono ?_)⟩
    rintro e' w' ⟨v', D', rfl, hs0, rfl⟩
    have hs := hs0.hide hb2
    have hle := le_of_call h4.agr hs
    exact ⟨fun _ => hs.keep bad, kk _ _ (Hl.put ⟨h1, h2, h3, shown D' b [], h4.after hs, fun D₁ hD₁ => (h5 D₁ hD₁).trans hle, h6.step (fun _ p hp => Or.inl (List.mem_map.2 ⟨p, hp, rfl⟩)) (fun _ => hs.low _) (h4.after hs).dom⟩ hN _)⟩
theorem Hl.subB {μ' : Boxes} {a : Act} {w : World} (h : Hl X σ μ Ds a w) (hμ : μ'.Sublist μ) : Hl X σ μ' Ds a w := by
  obtain ⟨g1, g2, g3, D, h4, h5, h6⟩ := h
  exact ⟨g1, g2, g3, D, h4.sub (fun p hp => hμ.subset hp) (h4.nd.sublist (hμ.map _)), h5, h6.step (fun _ p hp => Or.inl (List.mem_map.2 ⟨p, hμ.subset hp, rfl⟩)) (fun _ => Low.refl _ _ _) h4.dom⟩
theorem C.subB {c : Code} {μ' : Boxes} (hμ : μ'.Sublist μ) (h : WC P X Q c σ μ' Ds) : WC P X Q c σ μ Ds := fun a w hh => h a w (hh.subB hμ)
theorem Hl.perm {μ' : Boxes} {a : Act} {w : World} (h : Hl X σ μ Ds a w) (h1 : ∀ r ∈ μ', r ∈ μ) (h2 : (μ.map (·.1)).Nodup → (μ'.map (·.1)).Nodup) : Hl X σ μ' Ds a w := by
  obtain ⟨g1, g2, g3, D, h4, h5, h6⟩ := h
  exact ⟨g1, g2, g3, D, h4.sub h1 (h2 h4.nd), h5, h6.step (fun _ r hr => Or.inl (List.mem_map.2 ⟨r, h1 r hr, rfl⟩)) (fun _ => Low.refl _ _ _) h4.dom⟩
theorem C.nextJ {K' : Act → World → Prop} (h : ∀ a w, Hl X σ μ Ds a w → K' a w) : ∀ a w, Hl X σ μ Ds a w → (Exit.then K' Q) .normal a w := h
/-- What holds behind the first part goes by a letter g. -/
theorem C.seqJ {c c' : Code} {γ : Type} (I : γ → Prop) (S : γ → Slots) (M : γ → Boxes) (E : γ → List Data) (h1 : WC P X (Exit.then (fun a w => ∃ g, I g ∧ Hl X (S g) (M g) (E g) a w) Q) c σ μ Ds) (h2 : ∀ g, I g → WC P X Q c' (S g) (M g) (E g)) : WC P X Q (.seq c c') σ μ Ds :=
  fun a w hh => wpIn_seq (wpIn_mono (h1 a w hh) fun e a w he => by
    cases e with
    | normal => obtain ⟨g, hg, h⟩ := he; exact h2 g hg a w h
    | _ => exact he)
end Go.Fs
