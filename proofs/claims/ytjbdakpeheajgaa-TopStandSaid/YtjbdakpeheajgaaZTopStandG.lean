/- Of the proof of TopStand: V4, BookLaw, BookEnds, MapK, Eqs, Many, Bits, Show. -/
import Derived.Test.YtjbdakpeheajgaaZTopStandF
import Derived.Test.YtjbdakpeheajgaaZTopStandD
import Derived.Test.YtjbdakpeheajgaaZTopStandC
namespace Go.Fs
open Go.Proofs
open C3
theorem cb_ch {b : BookD} (h : ((!C1.inB b.chairs 1 4 || !C1.inB b.coin 1 99) || !C1.inB b.box 0 999) = false) : 1 ≤ b.chairs ∧ b.chairs ≤ 4 := by
  simp only [Bool.or_eq_false_iff, Bool.not_eq_false', C1.inB_iff] at h; exact h.1.1
theorem cb_ok {b : BookD} (h : ((((!C1.inB b.chairs 1 4 || !C1.inB b.coin 1 99) || !C1.inB b.box 0 999) || !b.lines.all (lineOk b.chairs)) || !b.counts.all (cntOk b.lines.length)) = false) : bookOk b = true ∧ 1 ≤ b.chairs ∧ b.chairs ≤ 4 := by
  simp only [Bool.or_eq_false_iff, Bool.not_eq_false'] at h
  obtain ⟨⟨⟨⟨h1, h2⟩, h3⟩, h4⟩, h5⟩ := h
  exact ⟨by unfold bookOk; rw [h1, h2, h3, h4, h5]; rfl, (C1.inB_iff.1 h1)⟩
theorem cb_not {b : BookD} (h : (decide ((8 : Int) < b.lines.length) || decide ((4 : Int) < b.counts.length)) = false) : ¬ (8 < b.lines.length ∨ 4 < b.counts.length) := by
  simp only [Bool.or_eq_false_iff, decide_eq_false_iff_not] at h; omega
theorem cb_limit {b : BookD} (h : (decide ((8 : Int) < b.lines.length) || decide ((4 : Int) < b.counts.length)) = true) : fault b = 3 := by
  simp only [Bool.or_eq_true, decide_eq_true_eq] at h
  unfold fault; rw [if_pos (by omega)]
theorem cb_arg {b : BookD} (h : (decide ((8 : Int) < b.lines.length) || decide ((4 : Int) < b.counts.length)) = false) (h2 : ((((!C1.inB b.chairs 1 4 || !C1.inB b.coin 1 99) || !C1.inB b.box 0 999) || !b.lines.all (lineOk b.chairs)) || !b.counts.all (cntOk b.lines.length)) = true) : fault b = 1 := by
  unfold fault; rw [if_neg (cb_not h), if_pos]
  revert h2; unfold bookOk
  generalize C1.inB b.chairs 1 4 = x, C1.inB b.coin 1 99 = y, C1.inB b.box 0 999 = z, b.lines.all (lineOk b.chairs) = u, b.counts.all (cntOk b.lines.length) = w
  cases x <;> cases y <;> cases z <;> cases u <;> cases w <;> decide
theorem cb_many {b : BookD} (h : (decide ((8 : Int) < b.lines.length) || decide ((4 : Int) < b.counts.length)) = false) (h2 : bookOk b = true) (h3 : manyK b.chairs b.lines > 4096) : fault b = 3 := by
  unfold fault; rw [if_neg (cb_not h), if_neg (by rw [h2]; simp), if_pos h3]
theorem cb_fine {b : BookD} (h : (decide ((8 : Int) < b.lines.length) || decide ((4 : Int) < b.counts.length)) = false) (h2 : bookOk b = true) (h3 : ¬ manyK b.chairs b.lines > 4096) : fault b = 0 := by
  unfold fault; rw [if_neg (cb_not h), if_neg (by rw [h2]; simp), if_neg h3]
theorem manyK_step {n : Int} {ls : List Lin} {i : Nat} {x : Lin} (hx : ls[i]? = some x) : manyK n (ls.take (i + 1)) = min (manyK n (ls.take i) * (readings n x).length) 4097 := by
  unfold manyK; rw [List.take_add_one, hx, Option.toList_some, List.foldl_append]; rfl
theorem manyK_le (n : Int) (ls : List Lin) : 0 ≤ manyK n ls ∧ manyK n ls ≤ 4097 := by
  unfold manyK
  have key : ∀ (l : List Lin) (m : Int), 0 ≤ m ∧ m ≤ 4097 → 0 ≤ l.foldl (fun (m : Int) l => min (m * ((readings n l).length : Int)) 4097) m ∧ l.foldl (fun (m : Int) l => min (m * ((readings n l).length : Int)) 4097) m ≤ 4097 := by
    intro l
    induction l with
    | nil => intro m h; exact h
    | cons x l ih =>
      intro m h
      rw [List.foldl_cons]
      refine ih _ ⟨?_, by omega⟩
      have : 0 ≤ m * ((readings n x).length : Int) := Int.mul_nonneg h.1 (by omega)
      omega
  exact key ls 1 (by omega)
theorem mul_in {m : Int} {k : Nat} (h : 0 ≤ m ∧ m ≤ 4097) (hk : k ≤ 32) : inK .i64 (m * (k : Int)) := by
  have h1 : 0 ≤ m * (k : Int) := Int.mul_nonneg h.1 (by omega)
  have h2 : m * (k : Int) ≤ 4097 * 32 := Int.mul_le_mul h.2 (by omega) (by omega) (by omega)
  simp only [inK]; omega
theorem CheckBook_ok (bv : Value) (b : BookD) (D : Data) (hb : BookIs D bv b) : Fn Try.prog 31 #[bv] D (fun _ v => v = .int .i64 (fault b)) := by
  have hb0 := hb
  obtain ⟨lv, cv, rfl, hl, hc⟩ := hb
  have hll := hl.len
  refine enter 72 Try.func31 rfl rfl rfl rfl fun h0 => ?_
  refine C.seq ?_
  refine C.region [(false,0),(false,1)] rfl ?_
  refine L.boxD rfl rfl rfl rfl trivial (fun q1 E1 hE1 hB1 => ?_)
  refine L.assign rfl rfl rfl trivial ?_
  refine L.nil ?_
  refine C.next ?_
  refine C.seq ?_
  refine C.draw [] 1 [0,1,2,3,4,5] [false,false,true,true,true,false] [(false,0),(false,1),(true,2),(true,3),(true,4),(false,5)] Tf.follows (fun _ _ _ h => np_body (P := Try.prog) (fn := Try.f31) _ _ _ h) (by kernel_rfl) rfl ?_
  refine L.loadDW rfl Tf.a40 rfl hB1 (by first | simp | assumption) Tf.s40 List.not_mem_nil rfl trivial ?_
  refine L.makeFunc rfl rfl rfl rfl trivial ?_
  refine L.loadDW rfl Tf.a40 rfl hB1 (by first | simp | assumption) Tf.s40 List.not_mem_nil rfl trivial ?_
  refine L.makeFunc rfl rfl rfl rfl trivial ?_
  refine L.assign rfl rfl rfl trivial ?_
  refine L.assign rfl rfl rfl trivial ?_
  refine L.nil ?_
  refine C.next ?_
  refine C.seq ?_
  refine C.block ?_
  refine C.seq ?_
  refine C.region [(false,0),(false,1),(false,2),(false,3),(false,4),(false,5),(false,6),(false,7),(false,8),(false,9),(false,10)] rfl ?_
  refine L.fieldAddr rfl Tf.f40_3 rfl rfl trivial ?_
  refine L.loadD1 rfl (k := 3) Tf.a37 rfl hB1 (by first | simp | assumption) rfl List.not_mem_nil rfl trivial ?_
  refine L.len rfl Try.underlying37 rfl hl rfl rfl trivial ?_
  refine L.gtr rfl rfl rfl rfl trivial ?_
  refine L.move rfl rfl rfl trivial ?_
  refine' L.or [(false,5),(false,6),(false,7),(false,8),(false,9)] [(false,10)] (s := 17) (p := 22) rfl rfl (fun hg1 => ?_) (fun hg1 => ?_) ?_
  rotate_left
  · refine L.fieldAddr rfl Tf.f40_4 rfl rfl ⟨_, rfl, rfl⟩ ?_
    refine L.loadD1 rfl (k := 4) Tf.a38 rfl hB1 (by first | simp | assumption) rfl List.not_mem_nil rfl ⟨_, rfl, rfl⟩ ?_
    refine L.len rfl Try.underlying38 rfl hc rfl rfl ⟨_, rfl, rfl⟩ ?_
    refine L.gtr rfl rfl rfl rfl ⟨_, rfl, rfl⟩ ?_
    refine L.pickF rfl rfl rfl rfl trivial ?_
    exact L.nil fun a w hh => hh.cutK 4 rfl
  · refine L.pass rfl rfl rfl ⟨_, _, rfl, rfl, rfl⟩ ?_
    refine L.pass rfl rfl rfl ⟨_, _, rfl, rfl, rfl⟩ ?_
    refine L.pass rfl rfl rfl ⟨_, _, rfl, rfl, rfl⟩ ?_
    refine L.pass rfl rfl rfl ⟨_, _, rfl, rfl, rfl⟩ ?_
    refine L.pickT rfl rfl rfl rfl trivial ?_
    exact L.nil fun a w hh => hh.cutK 4 rfl
  refine L.assign rfl rfl rfl trivial ?_
  refine L.nil ?_
  refine C.next ?_
  refine C.cond rfl (fun hc1 => ?_) (fun hc1 => ?_)
  · refine C.seq ?_
    refine C.region [(false,0)] rfl ?_
    refine L.assign rfl rfl rfl trivial ?_
    refine L.nil ?_
    refine C.next ?_
    refine C.ret ?_
    refine C.blockRet ?_
    refine C.thenRet ?_
    exact leave (vs := [_]) rfl rfl rfl ⟨rfl, trivial⟩ (fun D hD => by show Value.int _ _ = _; rw [cb_limit hc1])
  · refine C.seq ?_
    refine C.region [(false,0),(false,1),(false,2),(false,3),(false,4),(false,5),(false,6),(false,7),(false,8),(false,9),(false,10),(false,11),(false,12),(false,13),(false,14),(false,15),(false,16),(false,17),(false,18),(false,19),(false,20),(false,21),(false,22),(false,23),(false,24),(false,25),(false,26),(false,27),(false,28),(false,29),(false,30)] rfl ?_
    refine L.fieldAddr rfl Tf.f40_0 rfl rfl trivial ?_
    refine L.loadD1 rfl (k := 0) Tf.a3 rfl hB1 (by first | simp | assumption) rfl List.not_mem_nil rfl trivial ?_
    refine L.callV rfl rfl rfl (fun D1 hD1 => twithin_ok _ _ _ _) rfl trivial ?_
    refine L.not rfl rfl rfl trivial ?_
    refine L.move rfl rfl rfl trivial ?_
    refine' L.or [(false,5),(false,6),(false,7),(false,8),(false,9)] [(false,10),(false,11),(false,12),(false,13),(false,14),(false,15),(false,16),(false,17),(false,18),(false,19),(false,20),(false,21),(false,22),(false,23),(false,24),(false,25),(false,26),(false,27),(false,28),(false,29),(false,30)] (s := 28) (p := 33) rfl rfl (fun hg2 => ?_) (fun hg2 => ?_) ?_
    rotate_left
    · refine L.fieldAddr rfl Tf.f40_1 rfl rfl ⟨_, rfl, rfl⟩ ?_
      refine L.loadD1 rfl (k := 1) Tf.a3 rfl hB1 (by first | simp | assumption) rfl List.not_mem_nil rfl ⟨_, rfl, rfl⟩ ?_
      refine L.callV rfl rfl rfl (fun D2 hD2 => twithin_ok _ _ _ _) rfl ⟨_, rfl, rfl⟩ ?_
      refine L.not rfl rfl rfl ⟨_, rfl, rfl⟩ ?_
      refine L.pickF rfl rfl rfl rfl trivial ?_
      exact L.nil fun a w hh => hh.cutK 4 rfl
    · refine L.pass rfl rfl rfl ⟨_, _, rfl, rfl, rfl⟩ ?_
      refine L.pass rfl rfl rfl ⟨_, _, rfl, rfl, rfl⟩ ?_
      refine L.pass rfl rfl rfl ⟨_, _, rfl, rfl, rfl⟩ ?_
      refine L.pass rfl rfl rfl ⟨_, _, rfl, rfl, rfl⟩ ?_
      refine L.pickT rfl rfl rfl rfl trivial ?_
      exact L.nil fun a w hh => hh.cutK 4 rfl
    refine L.move rfl rfl rfl trivial ?_
    refine' L.or [(false,11),(false,12),(false,13),(false,14),(false,15)] [(false,16),(false,17),(false,18),(false,19),(false,20),(false,21),(false,22),(false,23),(false,24),(false,25),(false,26),(false,27),(false,28),(false,29),(false,30)] (s := 34) (p := 39) rfl rfl (fun hg3 => ?_) (fun hg3 => ?_) ?_
    rotate_left
    · refine L.fieldAddr rfl Tf.f40_2 rfl rfl ⟨_, rfl, rfl⟩ ?_
      refine L.loadD1 rfl (k := 2) Tf.a3 rfl hB1 (by first | simp | assumption) rfl List.not_mem_nil rfl ⟨_, rfl, rfl⟩ ?_
      refine L.callV rfl rfl rfl (fun D3 hD3 => twithin_ok _ _ _ _) rfl ⟨_, rfl, rfl⟩ ?_
      refine L.not rfl rfl rfl ⟨_, rfl, rfl⟩ ?_
      refine L.pickF rfl rfl rfl rfl trivial ?_
      exact L.nil fun a w hh => hh.cutK 4 rfl
    · refine L.pass rfl rfl rfl ⟨_, _, rfl, rfl, rfl⟩ ?_
      refine L.pass rfl rfl rfl ⟨_, _, rfl, rfl, rfl⟩ ?_
      refine L.pass rfl rfl rfl ⟨_, _, rfl, rfl, rfl⟩ ?_
      refine L.pass rfl rfl rfl ⟨_, _, rfl, rfl, rfl⟩ ?_
      refine L.pickT rfl rfl rfl rfl trivial ?_
      exact L.nil fun a w hh => hh.cutK 4 rfl
    refine L.move rfl rfl rfl trivial ?_
    refine' L.or [(false,17),(false,18),(false,19),(false,20),(false,21),(false,22)] [(false,23),(false,24),(false,25),(false,26),(false,27),(false,28),(false,29),(false,30)] (s := 40) (p := 46) rfl rfl (fun hg4 => ?_) (fun hg4 => ?_) ?_
    rotate_left
    · have hch := cb_ch hg4
      refine L.fieldAddr rfl Tf.f40_3 rfl rfl ⟨_, rfl, rfl⟩ ?_
      refine L.loadD1 rfl (k := 3) Tf.a37 rfl hB1 (by first | simp | assumption) rfl List.not_mem_nil rfl ⟨_, rfl, rfl⟩ ?_
      refine L.move rfl rfl rfl ⟨_, rfl, rfl⟩ ?_
      refine L.callV rfl rfl rfl (fun D4 hD4 => allL_ok _ _ _ (lineOk b.chairs) _ (Sl.at RLin.up hD4 (by assumption) (by simp)) ⟨_, [_], [], rfl, fun r D2 hl => lineB_ok _ b r D2 (hb0.up ((hD4 _ (by simp)).trans hl)) (by omega)⟩ rfl) rfl ⟨_, rfl, rfl⟩ ?_
      refine L.not rfl rfl rfl ⟨_, rfl, rfl⟩ ?_
      refine L.pickF rfl rfl rfl rfl trivial ?_
      exact L.nil fun a w hh => hh.cutK 5 rfl
    · refine L.pass rfl rfl rfl ⟨_, _, rfl, rfl, rfl⟩ ?_
      refine L.pass rfl rfl rfl ⟨_, _, rfl, rfl, rfl⟩ ?_
      refine L.pass rfl rfl rfl ⟨_, _, rfl, rfl, rfl⟩ ?_
      refine L.pass rfl rfl rfl ⟨_, _, rfl, rfl, rfl⟩ ?_
      refine L.pass rfl rfl rfl ⟨_, _, rfl, rfl, rfl⟩ ?_
      refine L.pickT rfl rfl rfl rfl trivial ?_
      exact L.nil fun a w hh => hh.cutK 5 rfl
    refine L.move rfl rfl rfl trivial ?_
    refine' L.or [(false,24),(false,25),(false,26),(false,27),(false,28),(false,29)] [(false,30)] (s := 47) (p := 53) rfl rfl (fun hg5 => ?_) (fun hg5 => ?_) ?_
    rotate_left
    · refine L.fieldAddr rfl Tf.f40_4 rfl rfl ⟨_, rfl, rfl⟩ ?_
      refine L.loadD1 rfl (k := 4) Tf.a38 rfl hB1 (by first | simp | assumption) rfl List.not_mem_nil rfl ⟨_, rfl, rfl⟩ ?_
      refine L.move rfl rfl rfl ⟨_, rfl, rfl⟩ ?_
      refine L.callV rfl rfl rfl (fun D5 hD5 => allN_ok _ _ _ (cntOk b.lines.length) _ (Sl.at RCn.up hD5 (by assumption) (by simp)) ⟨_, [_], [], rfl, fun r D2 hl => countB_ok _ b r D2 (hb0.up ((hD5 _ (by simp)).trans hl))⟩ rfl) rfl ⟨_, rfl, rfl⟩ ?_
      refine L.not rfl rfl rfl ⟨_, rfl, rfl⟩ ?_
      refine L.pickF rfl rfl rfl rfl trivial ?_
      exact L.nil fun a w hh => hh.cutK 5 rfl
    · refine L.pass rfl rfl rfl ⟨_, _, rfl, rfl, rfl⟩ ?_
      refine L.pass rfl rfl rfl ⟨_, _, rfl, rfl, rfl⟩ ?_
      refine L.pass rfl rfl rfl ⟨_, _, rfl, rfl, rfl⟩ ?_
      refine L.pass rfl rfl rfl ⟨_, _, rfl, rfl, rfl⟩ ?_
      refine L.pass rfl rfl rfl ⟨_, _, rfl, rfl, rfl⟩ ?_
      refine L.pickT rfl rfl rfl rfl trivial ?_
      exact L.nil fun a w hh => hh.cutK 5 rfl
    refine L.assign rfl rfl rfl trivial ?_
    refine L.nil ?_
    refine C.next ?_
    refine C.cond rfl (fun hc2 => ?_) (fun hc2 => ?_)
    · refine C.seq ?_
      refine C.region [(false,0)] rfl ?_
      refine L.assign rfl rfl rfl trivial ?_
      refine L.nil ?_
      refine C.next ?_
      refine C.ret ?_
      refine C.blockRet ?_
      refine C.thenRet ?_
      exact leave (vs := [_]) rfl rfl rfl ⟨rfl, trivial⟩ (fun D hD => by show Value.int _ _ = _; rw [cb_arg hc1 hc2])
    · obtain ⟨hok, hch4⟩ := cb_ok hc2
      refine C.skip ?_
      refine C.blockEnd ?_
      refine C.next ?_
      refine C.seq ?_
      refine C.region [(false,0)] rfl ?_
      refine L.assign rfl rfl rfl trivial ?_
      refine L.nil ?_
      refine C.next ?_
      refine C.seq ?_
      refine C.seq ?_
      refine C.region [(false,0),(false,1),(false,2),(false,3)] rfl ?_
      refine L.fieldAddr rfl Tf.f40_3 rfl rfl trivial ?_
      refine L.loadD1 rfl (k := 3) Tf.a37 rfl hB1 (by first | simp | assumption) rfl List.not_mem_nil rfl trivial ?_
      refine L.len rfl Try.underlying37 rfl hl rfl rfl trivial ?_
      refine L.move rfl rfl rfl trivial ?_
      refine L.nil ?_
      refine C.next ?_
      refine C.block ?_
      refine C.loopC (γ := Nat) (fun i => b.lines.length - i) (fun i => i ≤ b.lines.length) (fun i => [(57, .int .i64 (i : Int)), (5, .int .i64 (manyK b.chairs (b.lines.take i)))]) [(56, _), (55, _), (2, _), (1, _)] (fun i => [E1, D]) 0 (by omega) ⟨(by first | rfl | (show some (Value.int _ _) = some (Value.int _ _); congr 2; omega)), (by first | rfl | (show some (Value.int _ _) = some (Value.int _ _); congr 2; omega)), trivial⟩ ⟨rfl, rfl, rfl, rfl, trivial⟩ (ds_same) ?_
      rintro i h1
      refine C.seq ?_
      refine C.region [(false,0)] rfl ?_
      refine L.lss rfl rfl rfl rfl trivial ?_
      refine L.nil ?_
      refine C.next ?_
      refine C.seq ?_
      refine C.condD rfl (fun hc3 => ?_) (fun hc3 => ?_)
      · have hi : i < b.lines.length := by omega
        obtain ⟨x, hx⟩ : ∃ x, b.lines[i]? = some x := ⟨_, List.getElem?_eq_getElem hi⟩
        refine C.skip ?_
        refine C.next ?_
        refine C.seq ?_
        refine C.block ?_
        refine C.seq ?_
        refine C.region [(false,0),(false,1),(false,2),(false,3)] rfl ?_
        refine L.indexS rfl Try.underlying37 Tf.s64 rfl hl rfl (by omega) hx rfl trivial (fun b1 o1 cs1 hr1 hcl1 hA1 => ?_)
        obtain rfl : cs1 = [.int .i64 _, .int .i64 _, .int .i64 _] := hr1
        refine L.loadDW rfl Tf.a64 rfl hA1 (by first | simp | assumption) Tf.s64 List.not_mem_nil rfl trivial ?_
        refine L.alloc rfl Tf.z64 rfl rfl trivial (fun q2 => ?_)
        refine L.storeW rfl rfl rfl rfl Tf.s64 (by first | rfl | (simp only [ints_length, *]; done) | (simp only [ints_length, *]; rfl) | (simp only [ints_length, *]; omega)) (by first | rfl | (simp only [ints_length, *]; done) | (simp only [ints_length, *]; rfl) | (simp only [ints_length, *]; omega)) (Has.head) (by first | exact ints_cell1 _ | simp [cell1]) trivial ?_
        refine L.nil ?_
        refine C.next ?_
        refine C.region [(false,0),(false,1),(false,2),(false,3),(false,4),(false,5),(false,6),(false,7),(false,8)] rfl ?_
        refine L.move rfl rfl rfl trivial ?_
        refine L.loadDW rfl Tf.a40 rfl hB1 (by first | simp | assumption) Tf.s40 List.not_mem_nil rfl trivial ?_
        refine L.loadBW rfl Tf.a64 rfl (List.Mem.head _) Tf.s64 List.not_mem_nil rfl trivial ?_
        refine L.call rfl rfl rfl (fun D6 hD6 => readings_ok _ b x _ (hb0.up (hD6 _ (by simp))) (by omega)) rfl trivial (fun v6 D6 hD6 hp6 => ?_)
        have hr3 := hp6
        have hrl := rd_len (l := x) (n := b.chairs) (by omega)
        have hmk := manyK_le b.chairs (b.lines.take i)
        refine L.len rfl Try.underlying37 rfl hr3 rfl rfl trivial ?_
        refine L.mul rfl rfl rfl (mul_in hmk hrl) rfl trivial ?_
        refine L.buildSlice rfl Try.underlying33 Tf.s3 Tf.z3 rfl rfl rfl rfl (.cons rfl rfl (.cons rfl rfl .nil)) rfl trivial (fun b901 D901 hD901 hA901 => ?_)
        have hS901 := Sl.ofInts (l := [_, _]) (n := 2) (cap := 2) hA901 rfl (by omega) (by omega)
        refine L.callV rfl rfl rfl (fun D7 hD7 => tminimum_ok _ _ [4097] _ (hS901.up RI.up (hD7 _ (by simp)))) rfl trivial ?_
        refine L.assign rfl rfl rfl trivial ?_
        refine L.nil ?_
        refine C.blockEnd ?_
        refine C.next ?_
        refine C.region [(false,0),(false,1)] rfl ?_
        refine L.add rfl rfl rfl (by simp only [inK]; omega) rfl trivial ?_
        refine L.move rfl rfl rfl trivial ?_
        refine L.nil ?_
        exact C.againR 17 (i + 1) (by omega) (by omega) ⟨(by first | rfl | (show some (Value.int _ _) = some (Value.int _ _); congr 2; omega)), (by rw [manyK_step hx]; rfl), trivial⟩ rfl rfl (List.Sublist.cons _ (List.Sublist.refl _)) (fun D h => ⟨D, List.Mem.tail _ (List.Mem.tail _ (h)), Le.refl D⟩)
      · obtain rfl : i = b.lines.length := by omega
        rw [List.take_length]
        refine C.exit ?_
        refine C.thenExit ?_
        refine C.thenExit ?_
        refine C.blockExit ?_
        refine C.next ?_
        refine C.seq ?_
        refine C.seq ?_
        refine C.region [(false,0),(false,1)] rfl ?_
        refine L.move rfl rfl rfl trivial ?_
        refine L.gtr rfl rfl rfl rfl trivial ?_
        refine L.nil ?_
        refine C.next ?_
        refine C.condD rfl (fun hc4 => ?_) (fun hc4 => ?_)
        · refine C.seq ?_
          refine C.region [(false,0)] rfl ?_
          refine L.assign rfl rfl rfl trivial ?_
          refine L.nil ?_
          refine C.next ?_
          refine C.ret ?_
          refine C.thenRet ?_
          exact leave (vs := [_]) rfl rfl rfl ⟨rfl, trivial⟩ (fun D hD => by show Value.int _ _ = _; rw [cb_many hc1 hok hc4])
        · refine C.skip ?_
          refine C.next ?_
          refine C.seq ?_
          refine C.region [(false,0)] rfl ?_
          refine L.assign rfl rfl rfl trivial ?_
          refine L.nil ?_
          refine C.next ?_
          refine C.ret ?_
          exact leave (vs := [_]) rfl rfl rfl ⟨rfl, trivial⟩ (fun D hD => by show Value.int _ _ = _; rw [cb_fine hc1 hok hc4])
end Go.Fs
namespace Go.Fs.C3
open C1 (inB inB_iff)
/-! ### Verdicts -/
theorem waysB_mem {sign none lo hi x : Int} : x ∈ waysB sign none lo hi ↔ (sign ≠ none ∧ x = sign) ∨ (sign = none ∧ lo ≤ x ∧ x ≤ hi) := by
  unfold waysB
  by_cases h : sign = none
  · rw [if_neg (by simpa using h), List.mem_map]
    constructor
    · rintro ⟨i, hi', rfl⟩
      have := List.mem_range.1 hi'
      exact Or.inr ⟨h, by omega, by omega⟩
    · rintro (⟨h1, _⟩ | ⟨_, h1, h2⟩)
      · exact absurd h h1
      · exact ⟨(x - lo).toNat, List.mem_range.2 (by omega), by omega⟩
  · rw [if_pos h]
    simp [h]
def agreesB (l x : Lin) : Bool := (decide (l.kind = 0) || decide (l.kind = x.kind)) && (decide (l.chair < 0) || decide (l.chair = x.chair)) && (decide (l.token < 0) || decide (l.token = x.token))
def linIn (n : Int) (x : Lin) : Prop := (x.kind = 1 ∨ x.kind = 2) ∧ 0 ≤ x.chair ∧ x.chair < n ∧ 0 ≤ x.token ∧ x.token < n
theorem readings_mem {n : Int} {l x : Lin} (hl : lineOk n l = true) : x ∈ readings n l ↔ linIn n x ∧ agreesB l x = true := by
  unfold lineOk at hl
  simp only [Bool.and_eq_true, inB_iff] at hl
  unfold readings linIn agreesB
  simp only [List.mem_flatMap, List.mem_map, waysB_mem, Bool.and_eq_true, Bool.or_eq_true, decide_eq_true_eq]
  constructor
  · rintro ⟨k, hk, c, hc, t, ht, rfl⟩
    simp only
    omega
  · rintro ⟨⟨h1, h2, h3, h4, h5⟩, ⟨h6, h7⟩, h8⟩
    refine ⟨x.kind, by omega, x.chair, by omega, x.token, by omega, rfl⟩
def outs (l : List Int) : Int := ((l.filter fun x => decide (x ≠ 0)).length : Int)
theorem vrun_snoc (n : Nat) (q : Sc → Nat → Bool) (ss : List Sc) (s : Sc) : vrun n q (ss ++ [s]) = vstep n q (vrun n q ss) s := by unfold vrun; rw [List.foldl_append]; rfl
theorem vrun_facts {n : Nat} {q : Sc → Nat → Bool} (hq : ∀ s s' i, s.ch.length = 4 → s'.ch.length = 4 → s.ch ++ s.tk = s'.ch ++ s'.tk → q s i = q s' i) : ∀ (k : Nat) (ss : List Sc), ss.length = k → (∀ s ∈ ss, s.ch.length = 4) →
    (vrun n q ss).yes.length = n ∧ ((vrun n q ss).many = 0 ↔ ss = []) ∧ (vrun n q ss).many ≤ k ∧ (ss ≠ [] → ∃ s ∈ ss, (vrun n q ss).last = s.ch ++ s.tk) ∧
    ∀ i, i < n → 0 ≤ (vrun n q ss).yes.getD i 0 ∧ (vrun n q ss).yes.getD i 0 ≤ ((vrun n q ss).many : Int) ∧ ((vrun n q ss).yes.getD i 0 = ((vrun n q ss).many : Int) ↔ ∀ s ∈ ss, q s i = true) ∧ ((vrun n q ss).yes.getD i 0 = 0 ↔ ∀ s ∈ ss, q s i = false)
  | 0, ss, hn, _ => by
    obtain rfl := List.length_eq_zero_iff.1 hn
    refine ⟨by simp [vrun], by simp [vrun], by simp [vrun], by simp, fun i hi => ?_⟩
    have e : (vrun n q []).yes.getD i 0 = 0 := by simp [vrun, hi]
    rw [e]
    simp [vrun]
  | k + 1, ss, hn, h4 => by
    obtain ⟨pre, s, rfl⟩ : ∃ pre s, ss = pre ++ [s] := ⟨_, _, (List.dropLast_concat_getLast (by rintro rfl; simp at hn)).symm⟩
    obtain ⟨f1, f2, f3, f4, f5⟩ := vrun_facts hq k pre (by simpa using hn) fun s hs => h4 s (List.mem_append_left _ hs)
    have hs4 := h4 s (by simp)
    rw [vrun_snoc]
    unfold vstep
    by_cases hc : (vrun n q pre).many ≠ 0 ∧ s.ch ++ s.tk = (vrun n q pre).last
    · rw [if_pos hc]
      have hpre : pre ≠ [] := fun e => hc.1 (f2.2 e)
      obtain ⟨s', hs', e'⟩ := f4 hpre
      have heq : ∀ i, q s i = q s' i := fun i => hq s s' i hs4 (h4 s' (List.mem_append_left _ hs')) (hc.2.trans e')
      refine ⟨f1, ⟨fun e => absurd e hc.1, fun e => by simp at e⟩, by omega, fun _ => ⟨s', List.mem_append_left _ hs', e'⟩, fun i hi => ?_⟩
      obtain ⟨g1, g2, g3, g4⟩ := f5 i hi
      refine ⟨g1, g2, ?_, ?_⟩
      · rw [g3]
        constructor
        · intro h u hu
          rcases List.mem_append.1 hu with hu | hu
          · exact h u hu
          · obtain rfl : u = s := by simpa using hu
            rw [heq]; exact h s' hs'
        · exact fun h u hu => h u (List.mem_append_left _ hu)
      · rw [g4]
        constructor
        · intro h u hu
          rcases List.mem_append.1 hu with hu | hu
          · exact h u hu
          · obtain rfl : u = s := by simpa using hu
            rw [heq]; exact h s' hs'
        · exact fun h u hu => h u (List.mem_append_left _ hu)
    · rw [if_neg hc]
      refine ⟨by simp, by simp, by simp only; omega, fun _ => ⟨s, by simp, rfl⟩, fun i hi => ?_⟩
      obtain ⟨g1, g2, g3, g4⟩ := f5 i hi
      have e : ((List.range n).map fun i => (vrun n q pre).yes.getD i 0 + if q s i = true then 1 else 0).getD i 0 = (vrun n q pre).yes.getD i 0 + if q s i = true then 1 else 0 := by
        rw [List.getD_eq_getElem?_getD, List.getElem?_map, List.getElem?_range hi]; rfl
      simp only
      rw [e]
      have hall : (∀ u ∈ pre ++ [s], q u i = true) ↔ (∀ u ∈ pre, q u i = true) ∧ q s i = true := by simp [or_imp, forall_and]
      have hnone : (∀ u ∈ pre ++ [s], q u i = false) ↔ (∀ u ∈ pre, q u i = false) ∧ q s i = false := by simp [or_imp, forall_and]
      rw [hall, hnone, ← g3, ← g4]
      cases hqs : q s i with
      | true =>
        simp only [if_true]
        push_cast
        refine ⟨by omega, by omega, ?_, ?_⟩
        · constructor
          · intro h; exact ⟨by omega, trivial⟩
          · rintro ⟨h, _⟩; omega
        · constructor
          · intro h; omega
          · rintro ⟨_, h⟩; cases h
      | false =>
        simp only [Bool.false_eq_true, if_false, Int.add_zero]
        push_cast
        refine ⟨by omega, by omega, ?_, ?_⟩
        · constructor
          · intro h; omega
          · rintro ⟨_, h⟩; cases h
        · constructor
          · intro h; exact ⟨h, trivial⟩
          · rintro ⟨h, _⟩; exact h
theorem qCh_same {s s' : Sc} (i : Nat) (h : s.ch.length = 4) (h' : s'.ch.length = 4) (e : s.ch ++ s.tk = s'.ch ++ s'.tk) : qCh s i = qCh s' i ∧ qTk s i = qTk s' i := by
  have := List.append_inj e (by omega)
  unfold qCh qTk
  rw [this.1, this.2]
  exact ⟨rfl, rfl⟩
/-- Always is so in all truths, never in none. -/
theorem verdict_facts {n : Nat} {q : Sc → Nat → Bool} (hq : ∀ s s' i, s.ch.length = 4 → s'.ch.length = 4 → s.ch ++ s.tk = s'.ch ++ s'.tk → q s i = q s' i) {ss : List Sc} (h4 : ∀ s ∈ ss, s.ch.length = 4) :
    (verdicts n q ss).length = n ∧ ∀ i, i < n → ((verdicts n q ss).getD i 0 = 1 → ∀ s ∈ ss, q s i = true) ∧ ((verdicts n q ss).getD i 0 = 2 → ∀ s ∈ ss, q s i = false) := by
  obtain ⟨f1, f2, f3, f4, f5⟩ := vrun_facts (n := n) hq _ ss rfl h4
  unfold verdicts
  refine ⟨by rw [List.length_map, f1], fun i hi => ?_⟩
  obtain ⟨g1, g2, g3, g4⟩ := f5 i hi
  have e : ((vrun n q ss).yes.map (vdOf (vrun n q ss).many)).getD i 0 = vdOf (vrun n q ss).many ((vrun n q ss).yes.getD i 0) := by
    rw [List.getD_eq_getElem?_getD, List.getElem?_map, List.getD_eq_getElem?_getD]
    cases h : (vrun n q ss).yes[i]? with
    | none => rw [List.getElem?_eq_none_iff] at h; omega
    | some y => rfl
  rw [e]
  unfold vdOf
  constructor
  · intro h
    split at h
    · rename_i h1; exact g3.1 h1
    · split at h <;> omega
  · intro h
    split at h
    · omega
    · split at h
      · rename_i h1; exact g4.1 h1
      · omega
end Go.Fs.C3
namespace Go.Fs.C3
open C1 (inB inB_iff)
def endsB (b : BookD) : List Lin → Nat → Sc → Bool
  | [], i, s => countedB b s i
  | l :: ls, i, s => countedB b s i && (readings b.chairs l).any fun r => canN s r && endsB b ls (i + 1) (nextN b s i r)
theorem flatMap_ne {α β : Type} {l : List α} {f : α → List β} : l.flatMap f ≠ [] ↔ ∃ x ∈ l, f x ≠ [] := by
  rw [Ne, List.flatMap_eq_nil_iff]
  simp
theorem ends_iff (b : BookD) : ∀ (ls : List Lin) (i : Nat) (s : Sc), endsB b ls i s = true ↔ runs b ls i s ≠ []
  | [], i, s => by
    unfold endsB runs
    cases countedB b s i <;> simp
  | l :: ls, i, s => by
    unfold endsB runs
    cases countedB b s i with
    | false => simp
    | true =>
      rw [Bool.true_and, List.any_eq_true, if_pos rfl, flatMap_ne]
      refine exists_congr fun r => and_congr_right fun _ => ?_
      rw [Bool.and_eq_true, ends_iff b ls]
      cases canN s r <;> simp
theorem possible_is (b : BookD) : endsB b b.lines 0 (begin0 b) = decide (truths b ≠ []) := by
  rw [Bool.eq_iff_iff, ends_iff, decide_eq_true_eq]; rfl
/-! ### What is out -/
def mask (l : List Int) : List Int := l.map fun x => min x 1
theorem mask_len (l : List Int) : (mask l).length = l.length := List.length_map _
theorem mask_set (l : List Int) (k : Nat) (x : Int) : mask (l.set k x) = (mask l).set k (min x 1) := List.map_set
theorem getI_mask {l : List Int} (h : ∀ x ∈ l, 0 ≤ x) (c : Int) : (getI l c ≠ 0) ↔ getI (mask l) c ≠ 0 := by
  unfold getI mask
  rw [List.getD_eq_getElem?_getD, List.getD_eq_getElem?_getD, List.getElem?_map]
  cases e : l[c.toNat]? with
  | none => simp
  | some x =>
    have := h x (List.mem_of_getElem? e)
    simp only [Option.map_some, Option.getD_some]
    omega
structure Sim (s s' : Sc) : Prop where
  ch : mask s.ch = mask s'.ch
  tk : mask s.tk = mask s'.tk
  money : s.money = s'.money
structure Pos (s : Sc) : Prop where
  ch : ∀ x ∈ s.ch, 0 ≤ x
  tk : ∀ x ∈ s.tk, 0 ≤ x
theorem can_sim {s s' : Sc} (h : Sim s s') (hp : Pos s) (hp' : Pos s') (l : Lin) : canN s l = canN s' l := by
  unfold canN
  have e1 : decide (getI s.ch l.chair ≠ 0) = decide (getI s'.ch l.chair ≠ 0) := decide_eq_decide.2 (by rw [getI_mask hp.ch, getI_mask hp'.ch, h.ch])
  have e2 : decide (getI s.tk l.token ≠ 0) = decide (getI s'.tk l.token ≠ 0) := decide_eq_decide.2 (by rw [getI_mask hp.tk, getI_mask hp'.tk, h.tk])
  rw [e1, e2]
theorem next_sim {b : BookD} {s s' : Sc} (h : Sim s s') (i : Nat) (l : Lin) : Sim (nextN b s i l) (nextN b s' i l) := by
  unfold nextN
  split
  · exact ⟨by simp only [mask_set, h.ch], by simp only [mask_set, h.tk], by simp only [h.money]⟩
  · exact ⟨by simp only [mask_set, h.ch], by simp only [mask_set, h.tk], by simp only [h.money]⟩
theorem set_pos {l : List Int} (h : ∀ x ∈ l, 0 ≤ x) (k : Nat) {y : Int} (hy : 0 ≤ y) : ∀ x ∈ l.set k y, 0 ≤ x := fun x hx => by
  rcases List.mem_or_eq_of_mem_set hx with hx | rfl
  · exact h x hx
  · exact hy
theorem next_pos {b : BookD} {s : Sc} (h : Pos s) (i : Nat) (l : Lin) : Pos (nextN b s i l) := by
  unfold nextN
  split
  · exact ⟨set_pos h.ch _ (by omega), set_pos h.tk _ (by omega)⟩
  · exact ⟨set_pos h.ch _ (by omega), set_pos h.tk _ (by omega)⟩
theorem ends_sim (b : BookD) : ∀ (ls : List Lin) (i : Nat) (s s' : Sc), Sim s s' → Pos s → Pos s' → endsB b ls i s = endsB b ls i s'
  | [], i, s, s', h, _, _ => by unfold endsB countedB; rw [h.money]
  | l :: ls, i, s, s', h, hp, hp' => by
    unfold endsB
    have e : countedB b s i = countedB b s' i := by unfold countedB; rw [h.money]
    rw [e]
    congr 1
    refine congrArg _ (funext fun r => ?_)
    rw [can_sim h hp hp', ends_sim b ls (i + 1) _ _ (next_sim h i r) (next_pos hp i r) (next_pos hp' i r)]
/-! ### The money tells how many are out -/
theorem outs_set {l : List Int} {k : Nat} (hk : k < l.length) (y : Int) : outs (l.set k y) = outs l - (if l.getD k 0 ≠ 0 then 1 else 0) + (if y ≠ 0 then 1 else 0) := by
  induction l generalizing k with
  | nil => simp at hk
  | cons x l ih =>
    cases k with
    | zero =>
      unfold outs
      simp only [List.set_cons_zero, List.filter_cons, List.getD_cons_zero, decide_eq_true_eq]
      split <;> split <;> simp <;> omega
    | succ k =>
      have := ih (k := k) (by simpa using hk)
      unfold outs at this ⊢
      simp only [List.set_cons_succ, List.filter_cons, List.getD_cons_succ]
      split
      · simp only [List.length_cons]; push_cast; omega
      · exact this
def MInv (b : BookD) (s : Sc) : Prop := s.money = b.box + b.coin * outs s.ch
theorem outs_mask {l m : List Int} (h : mask l = mask m) (hl : ∀ x ∈ l, 0 ≤ x) (hm : ∀ x ∈ m, 0 ≤ x) : outs l = outs m := by
  induction l generalizing m with
  | nil =>
    cases m with
    | nil => rfl
    | cons y m => simp [mask] at h
  | cons x l ih =>
    cases m with
    | nil => simp [mask] at h
    | cons y m =>
      simp only [mask, List.map_cons, List.cons.injEq] at h
      have := ih h.2 (fun x hx => hl x (List.mem_cons_of_mem _ hx)) fun x hx => hm x (List.mem_cons_of_mem _ hx)
      have h1 := hl x List.mem_cons_self
      have h2 := hm y List.mem_cons_self
      unfold outs at this ⊢
      simp only [List.filter_cons, decide_eq_true_eq]
      have e : x ≠ 0 ↔ y ≠ 0 := by have := h.1; omega
      by_cases hx : x ≠ 0
      · rw [if_pos hx, if_pos (e.1 hx)]; simp only [List.length_cons]; push_cast; omega
      · rw [if_neg hx, if_neg fun hy => hx (e.2 hy)]; exact this
theorem next_inv {b : BookD} {s : Sc} (h : MInv b s) (h4 : s.ch.length = 4) {i : Nat} {l : Lin} (hc : canN s l = true) (h0 : 0 ≤ l.chair) (h1 : l.chair < 4) : MInv b (nextN b s i l) := by
  unfold canN at hc
  simp only [Bool.and_eq_true, beq_iff_eq, decide_eq_decide] at hc
  have hk : l.chair.toNat < s.ch.length := by omega
  unfold MInv at h ⊢
  unfold nextN
  have hg : s.ch.getD l.chair.toNat 0 = getI s.ch l.chair := rfl
  by_cases e : l.kind = 2
  · rw [if_pos e]
    simp only
    rw [outs_set hk, hg, if_pos (hc.1.2 e), if_neg (by omega), h, Int.mul_add, Int.mul_sub]
    omega
  · rw [if_neg e]
    simp only
    rw [outs_set hk, hg, if_neg fun hh => e (hc.1.1 hh), if_pos (by omega), h, Int.mul_add, Int.mul_sub]
    omega
theorem begin_inv (b : BookD) : MInv b (begin0 b) := by unfold MInv begin0 outs; simp
/-- What is known of a moment. -/
def momL (s : Sc) (i : Nat) : List Int := (i : Int) :: (mask s.ch ++ mask s.tk)
theorem ends_mom {b : BookD} {ls : List Lin} {i i' : Nat} {s s' : Sc} (e : momL s i = momL s' i') (h : MInv b s) (h' : MInv b s') (hp : Pos s) (hp' : Pos s') (h4 : s.ch.length = 4) (h4' : s'.ch.length = 4) : i = i' ∧ endsB b ls i s = endsB b ls i' s' := by
  unfold momL at e
  rw [List.cons.injEq] at e
  obtain ⟨e1, e2⟩ := e
  obtain ⟨e3, e4⟩ := List.append_inj e2 (by rw [mask_len, mask_len]; omega)
  have hi : i = i' := by omega
  subst hi
  refine ⟨rfl, ends_sim b ls i s s' ⟨e3, e4, ?_⟩ hp hp'⟩
  unfold MInv at h h'
  rw [h, h', outs_mask e3 hp.ch hp'.ch]
end Go.Fs.C3
namespace Go.Fs
variable {P : Program} {X : Cx} {γb : Type} [Membership Nat γb] {bad : γb} {all : Array Oper} {K : Act → World → Prop} {Q : Exit → Act → World → Prop}
variable {σ : Slots} {μ : Boxes} {Ds : List Data} {os : List (Bool × Nat)} {fl : Bool} {ix : Nat}
variable {d : Nat} {x y z : Operand} {u v : Value} {ty : TypeId} {pos : String} {aft : Array Edge} {g : Option (Nat × Bool)}
/-- A key type, and how its keys are written. -/
structure KeyT (P : Program) (k : TypeId) {α : Type} [DecidableEq α] (val : α → Value) : Prop where
  und : ∃ fs, P.underlying k = some (.struct fs)
  eq : ∀ a b w, (Op.equal k (val a) (val b)).run P w = .ok (decide (a = b)) w
  chk : ∀ em a w, (Instr.checkKey em 10000 k (val a)).run P w = .ok () w
  stay : ∀ a, Instr.sameBits 10000 (val a) (val a) = true
  agg : ∀ a, ∃ cs, val a = .agg cs
variable {α : Type} [DecidableEq α] {val : α → Value}
/-! ### A number and an array of numbers -/
structure Ints (n : Nat) where
  l : List Int
  h : l.length = n
deriving DecidableEq
def kaV {n : Nat} (a : Ints n) : Value := .agg (ints a.l).toArray
end Go.Fs
namespace Go.Fs
variable {P : Program} {X : Cx} {γb : Type} [Membership Nat γb] {bad : γb} {all : Array Oper} {K : Act → World → Prop} {Q : Exit → Act → World → Prop}
variable {σ : Slots} {μ : Boxes} {Ds : List Data} {os : List (Bool × Nat)} {fl : Bool} {ix : Nat}
variable {d : Nat} {x y z : Operand} {u v : Value} {ty : TypeId} {pos : String} {aft : Array Edge} {g : Option (Nat × Bool)}
/-- A field that has n numbers from o on. -/
structure FldOk (P : Program) (f : Field) (o n : Nat) : Prop where
  name : f.name ≠ "_"
  eqp : ∀ (l m : List Int) w, o + n ≤ l.length → o + n ≤ m.length → ∃ u v, (part f.type (ints l).toArray f.offset).run P w = .ok u w ∧ (part f.type (ints m).toArray f.offset).run P w = .ok v w ∧ (Op.equalIn 9999 f.type u v).run P w = .ok ((l.drop o).take n == (m.drop o).take n) w
/-- Fields that follow each other. -/
inductive Chain (P : Program) : Nat → Nat → List Field → Prop
  | nil {o} : Chain P o o []
  | cons {o n e f fs} (h : FldOk P f o n) (r : Chain P (o + n) e fs) : Chain P o e (f :: fs)
theorem Chain.le {o e : Nat} {fs : List Field} (h : Chain P o e fs) : o ≤ e := by
  induction h with
  | nil => exact Nat.le_refl _
  | cons _ _ ih => omega
theorem drop_eq_split (l m : List Int) (o n : Nat) : (l.drop o == m.drop o) = (((l.drop o).take n == (m.drop o).take n) && (l.drop (o + n) == m.drop (o + n))) := by
  rw [Bool.eq_iff_iff]
  simp only [beq_iff_eq, Bool.and_eq_true]
  constructor
  · intro h
    exact ⟨by rw [h], by rw [← List.drop_drop, ← List.drop_drop, h]⟩
  · rintro ⟨h1, h2⟩
    rw [← List.take_append_drop n (l.drop o), ← List.take_append_drop n (m.drop o), h1, List.drop_drop, List.drop_drop, h2]
theorem run_eqFields (l m : List Int) (w : World) {o e : Nat} {fs : List Field} (h : Chain P o e fs) (hl : l.length = e) (hm : m.length = e) : (Op.eqFields 9999 (ints l).toArray (ints m).toArray fs).run P w = .ok (l.drop o == m.drop o) w := by
  induction h with
  | nil =>
    rw [List.drop_eq_nil_of_le (by omega), List.drop_eq_nil_of_le (by omega)]; rfl
  | @cons o n e f fs h r ih =>
    have hle := r.le
    obtain ⟨u, v, h1, h2, h3⟩ := h.eqp l m w (by omega) (by omega)
    rw [Op.eqFields, if_pos h.name]
    simp only [Sem.run_bind, h1, h2, Result.andThen_ok]
    rw [h3, drop_eq_split l m o n]
    simp only [Result.andThen_ok]
    cases hx : (l.drop o).take n == (m.drop o).take n with
    | true =>
      simp only [Bool.not_true, Bool.false_eq_true, if_false, Bool.true_and]
      exact ih hl hm
    | false => simp only [Bool.not_false, if_true, Sem.run_pure, Bool.false_and]
theorem FldOk.int {f : Field} {o : Nat} (hn : f.name ≠ "_") (ho : f.offset = o) (ht : P.underlying f.type = some (.int .i64)) : FldOk P f o 1 := by
  refine ⟨hn, fun l m w hl hm => ?_⟩
  have h1 : l[o]? = some (l[o]'(by omega)) := List.getElem?_eq_getElem _
  have h2 : m[o]? = some (m[o]'(by omega)) := List.getElem?_eq_getElem _
  refine ⟨.int .i64 l[o], .int .i64 m[o], run_part_int ht (by rw [ho]; simpa using ints_get h1) w, run_part_int ht (by rw [ho]; simpa using ints_get h2) w, ?_⟩
  rw [run_equalIn_int w 9998 f.type .i64 .i64 _ _ ht]
  congr 1
  have t1 : (l.drop o).take 1 = [l[o]] := by rw [List.drop_eq_getElem_cons (show o < l.length by omega)]; rfl
  have t2 : (m.drop o).take 1 = [m[o]] := by rw [List.drop_eq_getElem_cons (show o < m.length by omega)]; rfl
  rw [t1, t2]
  simp
theorem part_ints {t : TypeId} {n o : Nat} (ha : TA P t true) (hs : TS P t n) {l : List Int} (_hl : o + n ≤ l.length) (w : World) : (part t (ints l).toArray o).run P w = .ok (.agg (ints ((l.drop o).take n)).toArray) w := by
  unfold part
  simp only [Sem.run_bind, ha w, Result.andThen_ok, if_true, hs w, Sem.run_pure]
  congr 2
  apply Array.ext'
  simp only [Array.toList_extract, List.extract_eq_take_drop, ints, List.map_drop, List.map_take]
  congr 1; omega
theorem FldOk.arr {f : Field} {o n : Nat} {e : TypeId} (hn : f.name ≠ "_") (ho : f.offset = o) (ht : P.underlying f.type = some (.array n e)) (he : P.underlying e = some (.int .i64)) (hc : P.cellsOf e = 1) (ha : TA P f.type true) (hs : TS P f.type n) : FldOk P f o n := by
  refine ⟨hn, fun l m w hl hm => ⟨_, _, by rw [ho]; exact part_ints ha hs hl w, by rw [ho]; exact part_ints ha hs hm w, ?_⟩⟩
  obtain ⟨i, hi⟩ := info_of_underlying he
  have h := run_equalIn_array (P := P) w 9998 (ints ((l.drop o).take n)).toArray (ints ((m.drop o).take n)).toArray ht hi
  have e1 : ((l.drop o).take n).length = n := by rw [List.length_take, List.length_drop]; omega
  have e2 : ((m.drop o).take n).length = n := by rw [List.length_take, List.length_drop]; omega
  rw [hc, run_eqItems_ints 9997 he _ _ w (List.range n) (fun j hj => by have := List.mem_range.1 hj; omega), all_range_eq e1 e2] at h
  exact h
/-- A struct's type that is compared number by number. -/
def KS (P : Program) (t : TypeId) (n : Nat) : Prop := P.underlying t = some (.struct (P.fieldsOf t)) ∧ P.stoodInHeld t = false ∧ P.eqGuardType P.depth t = false ∧ Chain P 0 n (P.fieldsOf t).toList
theorem run_equal_s {t : TypeId} {n : Nat} (h : KS P t n) {l m : List Int} (hl : l.length = n) (hm : m.length = n) (w : World) : (Op.equal t (.agg (ints l).toArray) (.agg (ints m).toArray)).run P w = .ok (l == m) w := by
  have he := run_equalIn_struct (P := P) w 9999 t (ints l).toArray (ints m).toArray h.1 h.2.1
  show (Op.equalIn (9999 + 1) t (.agg (ints l).toArray) (.agg (ints m).toArray)).run P w = _
  rw [he, run_eqFields l m w h.2.2.2 hl hm]
  simp
theorem L.eqlS {t t' : TypeId} {n : Nat} {l m : List Int} (ho : all[ix]? = some ⟨some d, .binOp .eql t x y t', ty, pos, aft, g⟩) (ht : KS P t n) (hl : l.length = n) (hm : m.length = n) (hx : ev σ x = some (.agg (ints l).toArray)) (hy : ev σ y = some (.agg (ints m).toArray)) (hN : Nat.blt d X.N = true) (hg : Gok all σ g)
    (kk : WL P X bad all K Q os ((d, .bool (l == m)) :: σ) μ Ds) : WL P X bad all K Q ((fl, ix) :: os) σ μ Ds :=
  L.eqlX ho (fun w => by
    have hgd : (eqGuard .eql t x y (.agg (ints l).toArray) (.agg (ints m).toArray)).run P w = .ok () w := by
      simp only [eqGuard, program]
      simp [Sem.run, ht.2.2.1, go_sem]
    rw [Sem.run_bind, hgd]
    show ((do Pure.pure (Value.bool (← Op.equal t (.agg (ints l).toArray) (.agg (ints m).toArray)))) : Sem Value).run P w = _
    rw [Sem.run_bind, run_equal_s ht hl hm]; rfl) hx hy hN hg kk
end Go.Fs
namespace Go.Fs
variable {P : Program} {X : Cx} {γb : Type} [Membership Nat γb] {bad : γb} {all : Array Oper} {K : Act → World → Prop} {Q : Exit → Act → World → Prop}
variable {σ : Slots} {μ : Boxes} {Ds : List Data} {os : List (Bool × Nat)} {fl : Bool} {ix : Nat}
variable {d : Nat} {x y z : Operand} {u v : Value} {ty : TypeId} {pos : String} {aft : Array Edge} {g : Option (Nat × Bool)}
abbrev Boxes.ks (μ : Boxes) : List Nat := μ.map fun p => p.1
/-- What a call comes to that may change some blocks besides the new ones. -/
def FnM (P : Program) (f : FuncId) (args : List Value) (D : Data) (ν : Boxes) (post : Data → Value → Boxes → Prop) : Prop :=
  EF P f ∧ ∀ w, Agrees D w → (∀ p ∈ ν, w.heap[p.1]? = some p.2 ∧ D p.1 = [] ∧ unfrozen p.2) → ν.ks.Nodup → Calls P f args.toArray w fun e w' => ∃ v D' ν', e = .returned v ∧ ν'.ks = ν.ks ∧ Sta (hd w) w.heap.size D ν.ks ν' D' w' ∧ post D' v ν'
theorem Sta.afterM {h0 : H0} {lo : Nat} {D0 D D' : Data} {mods : List Nat} {A B ν ν' : Boxes} {w w' : World} (h : Sta h0 lo D0 mods (A ++ ν ++ B) D w) (hk : ν'.ks = ν.ks) (hs : Sta (hd w) w.heap.size D ν.ks ν' D' w') : Sta h0 lo D0 mods (A ++ ν' ++ B) D' w' := by
  have hle := Nat.le_trans h.hlo h.size
  have hin : ∀ c ∈ ν.ks, ∃ o, (c, o) ∈ ν := fun c hc => by
    obtain ⟨p, hp, rfl⟩ := List.mem_map.1 hc
    exact ⟨p.2, hp⟩
  have hbx : ∀ p ∈ ν, _ := fun p hp => h.box p (List.mem_append_left _ (List.mem_append_right _ hp))
  have hnd := h.nd
  simp only [List.map_append] at hnd
  have keys : (A ++ ν' ++ B).map (fun p => p.1) = (A ++ ν ++ B).map (fun p => p.1) := by
    simp only [List.map_append]
    rw [show ν'.map (fun p => p.1) = ν.map (fun p => p.1) from hk]
  refine ⟨h.hlo, Nat.le_trans h.size hs.size, fun c hc hm => ?_, fun c hc => ?_, hs.agr, fun p hp => ?_, by rw [keys]; exact h.nd, fun c q hc hq => ?_, fun e he => (hs.env _ rfl).trans (h.env e he)⟩
  · have hne : c ∉ ν.ks := by
      intro hcm
      obtain ⟨o, ho⟩ := hin c hcm
      rcases (hbx _ ho).2.2 with h' | h'
      · have := h.hlo; simp at h'; omega
      · exact hm h'
    rw [hs.old c (Nat.lt_of_lt_of_le hc hle) hne]; exact h.old c hc hm
  · rw [hs.dold c (Nat.lt_of_lt_of_le hc hle)]; exact h.dold c hc
  · rcases List.mem_append.1 hp with hp | hp
    · rcases List.mem_append.1 hp with hp | hp
      · obtain ⟨h1, h2, h3⟩ := h.box p (List.mem_append_left _ (List.mem_append_left _ hp))
        have hl := lt_of_some h1
        have hne : p.1 ∉ ν.ks := fun hm => (List.nodup_append.1 (List.nodup_append.1 hnd).1).2.2 p.1 (List.mem_map.2 ⟨p, hp, rfl⟩) p.1 hm rfl
        exact ⟨by rw [hs.old _ hl hne]; exact h1, by rw [hs.dold _ hl]; exact h2, h3⟩
      · obtain ⟨q1, q2, _⟩ := hs.box p hp
        have hm : p.1 ∈ ν.ks := by rw [← hk]; exact List.mem_map.2 ⟨p, hp, rfl⟩
        obtain ⟨o, ho⟩ := hin p.1 hm
        exact ⟨q1, q2, (hbx _ ho).2.2⟩
    · obtain ⟨h1, h2, h3⟩ := h.box p (List.mem_append_right _ hp)
      have hl := lt_of_some h1
      have hne : p.1 ∉ ν.ks := fun hm => (List.nodup_append.1 hnd).2.2 p.1 (List.mem_append_right _ hm) p.1 (List.mem_map.2 ⟨p, hp, rfl⟩) rfl
      exact ⟨by rw [hs.old _ hl hne]; exact h1, by rw [hs.dold _ hl]; exact h2, h3⟩
  · rcases Nat.lt_or_ge c w.heap.size with hl | hl
    · by_cases he : c ∈ ν.ks
      · exact hs.fz c q (Or.inr he) hq
      · rw [hs.old c hl he] at hq; exact h.fz c q hc hq
    · exact hs.fz c q (Or.inl hl) hq
theorem L.callM {c : Operand} {xs : Array Operand} {ats : Array TypeId} {f : FuncId} {c1 c2 : List Value} {vs : List Value} {A B ν : Boxes} {post : Data → Value → Boxes → Prop} (ho : all[ix]? = some ⟨some d, .call { callee := .value c, args := xs, argTypes := ats }, ty, pos, aft, g⟩) (hc : ev σ c = some (.func (.func f) c1.toArray c2.toArray)) (hxs : evs σ xs.toList = some vs)
    (hex : X.ex = none) (hfl : fl = false ∨ ∀ p ∈ ν, p.1 ∈ bad) (hu : ∀ p ∈ ν, unfrozen p.2) (hf : ∀ D, (∀ D₁ ∈ Ds, Le D₁ D) → FnM P f (c1 ++ vs ++ c2) D ν post) (hN : Nat.blt d X.N = true) (hg : Gok all σ g)
    (kk : ∀ v D ν', (∀ D₁ ∈ Ds, Le D₁ D) → post D v ν' → WL P X bad all K Q os ((d, v) :: σ) (A ++ ν' ++ B) (D :: Ds)) :
    WL P X bad all K Q ((fl, ix) :: os) σ (A ++ ν ++ B) Ds := by
  refine L.loud ho rfl rfl hg fun a w hh => ?_
  obtain ⟨h1, h2, h3, D, h4, h5, h6⟩ := id hh
  have hF := hf D h5
  have hbx : ∀ p ∈ ν, _ := fun p hp => h4.box p (List.mem_append_left _ (List.mem_append_right _ hp))
  have hnd := h4.nd
  simp only [List.map_append] at hnd
  rw [run_call hF.1 (hh.eval hc) (evs_eval (fun _ _ hx => hh.eval hx) hxs)]
  refine ⟨fun h => by simp [FW] at h, callsIn_FW.2 ((hF.2 w h4.agr (fun p hp => ⟨(hbx p hp).1, (hbx p hp).2.1, hu p hp⟩) (List.nodup_append.1 (List.nodup_append.1 hnd).1).2.1).mono ?_)⟩
  rintro e w' ⟨v, D', ν', rfl, hk, hs, hpost⟩
  have hle := le_of_call h4.agr hs
  refine ⟨fun hflt => ⟨hs.size, fun c hc hcb => hs.old c hc (fun hm => ?_)⟩, kk v D' ν' (fun D₁ hD₁ => (h5 D₁ hD₁).trans hle) hpost _ _ ?_⟩
  · obtain ⟨p, hp, rfl⟩ := List.mem_map.1 hm
    rcases hfl with h | h
    · rw [hflt] at h; cases h
    · exact hcb (h p hp)
  · refine Hl.put ⟨h1, h2, h3, D', h4.afterM hk hs, fun D₁ hD₁ => ?_, by unfold exOk; rw [hex]; trivial⟩ hN v
    rcases List.mem_cons.1 hD₁ with rfl | hD₁
    · exact Le.refl _
    · exact (h5 D₁ hD₁).trans hle
/-- Entering such a function. -/
def PostMany (X : Cx) (ks : List Nat) (post : Data → Value → Boxes → Prop) : Ending → World → Prop := fun e w' => ∃ v D' ν', e = .returned v ∧ ν'.ks = ks ∧ Sta X.h0 X.lo X.D0 X.mods ν' D' w' ∧ post D' v ν'
theorem np_bodyMany {fn : Func} {ks : List Nat} {post : Data → Value → Boxes → Prop} : NP (bodyPost P fn (PostMany X ks post)) := by
  rintro c a w ⟨_, v, D', μ', h, _⟩
  cases h
def XMany (N : Nat) (h0 : H0) (D : Data) (ks : List Nat) : Cx := ⟨none, N, [], h0, h0.size, D, ks, none⟩
theorem enterMany {f : FuncId} {fn : Func} {c : Code} {args : List Value} {D : Data} {ν : Boxes} {post : Data → Value → Boxes → Prop} (N : Nat) (hf : P.funcs[f]? = some fn) (hn : (fn.name == "runtime.NumGoroutine") = false) (hb : fn.body = some c) (hN : fn.ntmps = N) (hsz : Nat.ble args.length N = true)
    (h : ∀ h0 : H0, (∀ p ∈ ν, p.1 < h0.size) → ν.ks.Nodup → WC P (XMany N h0 D ν.ks) (bodyPost P fn (PostMany (XMany N h0 D ν.ks) ν.ks post)) c (slotsOf 0 args) ν [D]) : FnM P f args D ν post := by
  refine ⟨EF.of hf hn hb, fun w hw hν hnd => ?_⟩
  subst hN
  have hsz := Nat.le_of_ble_eq_true hsz
  refine (callsIn_FW (r := none) (n := 0)).1 ((callsIn_of_wp (R := PostMany (XMany fn.ntmps (hd w) D ν.ks) ν.ks post) hf hb trivial (h (hd w) (fun p hp => lt_of_some (hν p hp).1) hnd _ w ⟨?_, fun s v hs => ?_, rfl, D, ⟨Nat.le_refl _, Nat.le_refl _, fun _ _ _ => rfl, fun _ _ => rfl, hw, (fun p hp => ?_), hnd, fun c q hc hq => ?_, fun e he => Option.some.inj he⟩, fun D₁ h1 => ?_, trivial⟩) rfl).mono ?_)
  · simp [XMany]; omega
  · obtain ⟨_, h2⟩ := look_slotsOf args 0 s v hs
    have hl := (List.getElem?_eq_some_iff.1 h2).1
    simp only [Nat.sub_zero] at h2 hl
    show (args.toArray ++ _)[s]? = some v
    rw [Array.getElem?_append_left (by simpa using hl)]
    simpa using h2
  · exact ⟨(hν p hp).1, (hν p hp).2.1, Or.inr (List.mem_map.2 ⟨p, hp, rfl⟩)⟩
  · rcases hc with hc | hc
    · exact absurd (lt_of_some hq) (Nat.not_lt_of_le hc)
    · obtain ⟨p, hp, rfl⟩ := List.mem_map.1 hc
      rw [(hν p hp).1] at hq; cases hq; exact (hν p hp).2.2
  · simp only [List.mem_singleton] at h1; subst h1; exact Le.refl _
  · rintro e w' ⟨v, D', ν', rfl, hk, hs, hp⟩
    exact ⟨v, D', ν', rfl, hk, hs, hp⟩
theorem leaveMany {fn : Func} {ks : List Nat} {A B ν' : Boxes} {post : Data → Value → Boxes → Prop} {e : Exit} (he : (match e with | .normal => true | .ret => true | _ => false) = true) {rs : List ResultVar} {vs : List Value} (hds : X.ds = []) (hr : fn.results = rs.toArray) (h : ResV P X σ (A ++ ν' ++ B) rs vs)
    (hk : ν'.ks = ks) (hp : ∀ D, (∀ D₁ ∈ Ds, Le D₁ D) → post D (resOf vs) ν') : ∀ a w, Hl X σ (A ++ ν' ++ B) Ds a w → bodyPost P fn (PostMany X ks post) e a w := by
  intro a w hh
  have hrun := run_results hh hr h
  obtain ⟨h1, h2, h3, D, h4, h5, h6⟩ := hh
  have hnd := h4.nd
  simp only [List.map_append] at hnd
  have : a.defers = [] ∧ ∃ v, (results fn a.tmps).run P w = .ok v w ∧ PostMany X ks post (.returned v) w := ⟨h3.trans hds, _, hrun, _, D, ν', rfl, hk, h4.sub (fun p hp => List.mem_append_left _ (List.mem_append_right _ hp)) (List.nodup_append.1 (List.nodup_append.1 hnd).1).2.1, hp D h5⟩
  cases e <;> first | exact this | cases he
end Go.Fs
namespace Go.Fs
variable {P : Program} {X : Cx} {γb : Type} [Membership Nat γb] {bad : γb} {all : Array Oper} {K : Act → World → Prop} {Q : Exit → Act → World → Prop}
variable {σ : Slots} {μ : Boxes} {Ds : List Data} {os : List (Bool × Nat)} {fl : Bool} {ix : Nat}
variable {d : Nat} {x y z : Operand} {u v : Value} {ty : TypeId} {pos : String} {aft : Array Edge} {g : Option (Nat × Bool)}
variable {k' : IntKind} {m n : Nat} {t t' : TypeId}
end Go.Fs
namespace Go.Fs
variable {P : Program} {X : Cx} {γb : Type} [Membership Nat γb] {bad : γb} {all : Array Oper} {K : Act → World → Prop} {Q : Exit → Act → World → Prop}
variable {σ : Slots} {μ : Boxes} {Ds : List Data} {os : List (Bool × Nat)} {fl : Bool} {ix : Nat}
variable {d : Nat} {x y z : Operand} {u v : Value} {ty : TypeId} {pos : String} {aft : Array Edge} {g : Option (Nat × Bool)}
/-- A block of the iterator's own that is shown. -/
def Shown (β : List Nat) (D : Data) (w : World) (bo : Nat) (cs : List Value) : Prop := bo ∈ β ∧ D bo = [] ∧ ∃ e fz, w.heap[bo]? = some (.cells cs.toArray e fz)
def shown (D : Data) (bo : Nat) (cs : List Value) : Data := fun c => if c = bo then cs else D c
theorem shown_le {D : Data} {bo : Nat} {cs : List Value} (h : D bo = []) : Le D (shown D bo cs) := fun c => by
  unfold shown; split
  · rename_i e; subst e; rw [h]; exact List.nil_prefix
  · exact List.prefix_refl _
theorem shown_at (D : Data) (bo : Nat) (cs : List Value) : At (shown D bo cs) bo 0 cs := fun j v hj => by unfold shown; simpa using hj
theorem shown_agr {D : Data} {w : World} {bo : Nat} {cs : List Value} {e : TypeId} {fz : Nat × Nat} (h : Agrees D w) (hb : w.heap[bo]? = some (.cells cs.toArray e fz)) : Agrees (shown D bo cs) w := fun c hc => by
  unfold shown at hc ⊢
  split
  · rename_i ec; subst ec; exact ⟨_, _, _, hb, List.prefix_refl _⟩
  · rename_i ec; rw [if_neg ec] at hc; exact h c hc
/-- Behind a round: what was shown is the iterator's own again. -/
theorem Sta.hide {w w' : World} {D D' : Data} {mods : List Nat} {μ : Boxes} {bo : Nat} {cs : List Value} (h : Sta (hd w) w.heap.size (shown D bo cs) mods μ D' w') (hD : D bo = []) : Sta (hd w) w.heap.size D mods μ (shown D' bo []) w' := by
  refine ⟨h.hlo, h.size, h.old, fun b hb => ?_, fun b hb => ?_, fun p hp => ?_, h.nd, h.fz, h.env⟩
  · unfold shown
    split
    · rename_i e; subst e; exact hD.symm
    · rename_i e; rw [h.dold b hb]; unfold shown; rw [if_neg e]
  · unfold shown at hb ⊢
    split
    · rename_i e; rw [if_pos e] at hb; exact absurd rfl hb
    · rename_i e; rw [if_neg e] at hb; exact h.agr b hb
  · obtain ⟨h1, h2, h3⟩ := h.box p hp
    refine ⟨h1, ?_, h3⟩
    unfold shown; split
    · rfl
    · exact h2
/-- What a function is worth that is ranged over, and hands over the same list again and again. -/
def IterS {α : Type} (P : Program) (f : FuncId) (cap : List Value) (Dr : Data) (xs : List α) (enc : Nat → List Value) (cells : α → List Value) : Prop :=
  EF P f ∧ ∀ (lo l : Nat) (J Jx : List α → Inv), (∀ pre, Stb lo (J pre)) → (∀ pre, Stb lo (Jx pre)) →
    (∀ pre x β D w bo, (∃ r, xs = pre ++ x :: r) → Dom lo D w → J pre β D w → (∀ b ∈ β, b < w.heap.size) → Le Dr D → Shown β D w bo (cells x) →
      YieldRuns P l (enc bo) w fun b D' w' => Dom lo D' w' ∧ High β D w D' w' ∧ (if b then J (pre ++ [x]) β D' w' else Jx (pre ++ [x]) β D' w')) →
    ∀ D w, Dom lo D w → Le Dr D → J [] [] D w → Calls P f (.func (.yield l) #[] #[] :: cap).toArray w fun e w' => ∃ v D', e = .returned v ∧ Dom lo D' w' ∧ (J xs [] D' w' ∨ ∃ pre, Jx pre [] D' w')
/-- **A call of yield** in an iterator that shows one of its own blocks. -/
theorem L.yieldS {J J1 J0 : Inv} {l : Nat} {c : Operand} {xs : Array Operand} {ats : Array TypeId} {vs : List Value} (ho : all[ix]? = some ⟨some d, .call { callee := .value c, args := xs, argTypes := ats }, ty, pos, aft, g⟩)
    (hc : ev σ c = some (.func (.yield l) #[] #[])) (hxs : evs σ xs.toList = some vs) (hex : X.ex = some J) (hfl : fl = false) (h0 : X.h0 = ⟨#[], none⟩) (hm : X.mods = []) (hs1 : Stb X.lo J1) (hs0 : Stb X.lo J0)
    (hY : ∀ D w, Dom X.lo D w → J (μ.map (·.1)) D w → (∀ p ∈ μ, w.heap[p.1]? = some p.2 ∧ D p.1 = []) → (∀ D₁ ∈ Ds, Le D₁ D) → YieldRuns P l vs w fun b D' w' => Dom X.lo D' w' ∧ High (μ.map (·.1)) D w D' w' ∧ (if b then J1 (μ.map (·.1)) D' w' else J0 (μ.map (·.1)) D' w'))
    (hN : Nat.blt d X.N = true) (hg : Gok all σ g)
    (k1 : WL P (X.withEx J1) bad all K Q os ((d, .bool true) :: σ) μ Ds) (k0 : WL P (X.withEx J0) bad all K Q os ((d, .bool false) :: σ) μ Ds) : WL P X bad all K Q ((fl, ix) :: os) σ μ Ds := by
  refine L.loud ho rfl rfl hg fun a w hh => ?_
  obtain ⟨h1, h2, h3, D, h4, h5, h6⟩ := id hh
  have hJ : J (μ.map (·.1)) D w := by unfold exOk at h6; rw [hex] at h6; exact h6.2
  obtain ⟨fn, tmps, assign, body, hy, hr⟩ := hY D w h4.dom hJ (fun p hp => ⟨(h4.box p hp).1, (h4.box p hp).2.1⟩) h5
  have e : xs.map a.eval = vs.toArray := by rw [← evs_eval (fun _ _ hx => hh.eval hx) hxs, ← Array.toList_map]
  have hrun : (execOp a.eval ⟨some d, .call { callee := .value c, args := xs, argTypes := ats }, ty, pos, aft, g⟩).run P w = .ok (.round l fn tmps assign body) w := by
    simp only [execOp, resolve, hh.eval hc, Deferred.ofValue, pure_bind, invoke, e]
    rw [← hy]; simp
  rw [hrun]
  refine ⟨fun h => by simp [FW] at h, (roundIn_FW hr).mono ?_⟩
  rintro e' w' ⟨b, D', rfl, hd', hh', hb⟩
  have hst : Sta X.h0 X.lo X.D0 X.mods μ D' w' := by
    refine ⟨h4.hlo, hd'.2.1, (fun b hb => by rw [h0] at hb; exact absurd hb (Nat.not_lt_zero _)), (fun b hb => by rw [h0] at hb; exact absurd hb (Nat.not_lt_zero _)), hd'.1, fun p hp => ?_, h4.nd, fun b o hb => hd'.2.2 b o (hb.resolve_right (by rw [hm]; simp)), fun e he => by rw [h0] at he; cases he⟩
    obtain ⟨p1, p2, p3⟩ := h4.box p hp
    obtain ⟨q1, q2⟩ := hh'.2.2 p.1 (List.mem_map.2 ⟨p, hp, rfl⟩)
    exact ⟨q1.trans p1, q2.trans p2, p3⟩
  have hds : ∀ D₁ ∈ Ds, Le D₁ D' := fun D₁ hD₁ => (h5 D₁ hD₁).trans hh'.2.1
  refine ⟨(fun h => by rw [hfl] at h; cases h), ?_⟩
  cases b with
  | true =>
    refine k1 _ _ (Hl.put (X := X.withEx J1) ⟨h1, h2, h3, D', hst, hds, ⟨hs1, hb⟩⟩ hN _)
  | false =>
    refine k0 _ _ (Hl.put (X := X.withEx J0) ⟨h1, h2, h3, D', hst, hds, ⟨hs0, hb⟩⟩ hN _)
theorem L.yieldSB {J J1 J0 : Inv} {l N lo : Nat} {c : Operand} {xs : Array Operand} {ats : Array TypeId} {vs : List Value} (ho : all[ix]? = some ⟨some d, .call { callee := .value c, args := xs, argTypes := ats }, ty, pos, aft, g⟩)
    (hc : ev σ c = some (.func (.yield l) #[] #[])) (hxs : evs σ xs.toList = some vs) (hfl : fl = false) (hs1 : Stb lo J1) (hs0 : Stb lo J0)
    (hY : ∀ D w, Dom lo D w → J (μ.map (·.1)) D w → (∀ p ∈ μ, w.heap[p.1]? = some p.2 ∧ D p.1 = []) → (∀ D₁ ∈ Ds, Le D₁ D) → YieldRuns P l vs w fun b D' w' => Dom lo D' w' ∧ High (μ.map (·.1)) D w D' w' ∧ (if b then J1 (μ.map (·.1)) D' w' else J0 (μ.map (·.1)) D' w'))
    (hN : Nat.blt d N = true) (hg : Gok all σ g)
    (kk : ∀ b J', J' = (if b = true then J1 else J0) → WL P (Xj N lo J') bad all K Q os ((d, .bool b) :: σ) μ Ds) : WL P (Xj N lo J) bad all K Q ((fl, ix) :: os) σ μ Ds :=
  L.yieldS (X := Xj N lo J) ho hc hxs rfl hfl rfl rfl hs1 hs0 hY hN hg (kk true J1 rfl) (kk false J0 rfl)
/-- What the loop's owner knows between two rounds, if some of its blocks are its caller's. -/
def OwnM {γ : Type} (h0 : H0) (lo : Nat) (D0 : Data) (mods : List Nat) (Ds : List Data) (Φ : γ → Prop) (Mx : γ → Boxes) : Inv := fun β D w =>
  ∃ g, Φ g ∧ Sta h0 lo D0 mods (Mx g) D w ∧ (∀ D₁ ∈ Ds, Le D₁ D) ∧ (∀ b ∈ β, h0.size ≤ b ∧ ∀ D₁ ∈ Ds, D₁ b = []) ∧ (∀ p ∈ Mx g, p.1 ∉ β) ∧ ∀ k ∈ mods, k ∈ (Mx g).ks
theorem own_stbM {γ : Type} {h0 : H0} {lo : Nat} {D0 : Data} {mods : List Nat} {Ds : List Data} {Φ : γ → Prop} {Mx : γ → Boxes} : Stb lo (OwnM h0 lo D0 mods Ds Φ Mx) := by
  constructor
  · rintro β D w D' w' ⟨g, hg, hs, hD, hβ, hM, hmk⟩ ⟨hl1, hl2, hl3⟩ hd
    have box' : ∀ p ∈ Mx g, w'.heap[p.1]? = w.heap[p.1]? ∧ D' p.1 = D p.1 := fun p hp => hl2 p.1 (lt_of_some (hs.box p hp).1) (hM p hp)
    refine ⟨g, hg, ⟨hs.hlo, hd.2.1, fun b hb hm => ?_, fun b hb => ?_, hd.1, fun p hp => ?_, hs.nd, fun b o hb ho => ?_, fun e he => hl3.trans (hs.env e he)⟩, fun D₁ hD₁ b => ?_, hβ, hM, hmk⟩
    · have hlt : b < w.heap.size := by have := hs.hlo; have := hs.size; omega
      have hn : b ∉ β := fun h => by have := (hβ b h).1; omega
      rw [(hl2 b hlt hn).1]; exact hs.old b hb hm
    · have hlt : b < w.heap.size := by have := hs.hlo; have := hs.size; omega
      have hn : b ∉ β := fun h => by have := (hβ b h).1; omega
      rw [(hl2 b hlt hn).2]; exact hs.dold b hb
    · obtain ⟨p1, p2, p3⟩ := hs.box p hp
      obtain ⟨q1, q2⟩ := box' p hp
      exact ⟨q1.trans p1, q2.trans p2, p3⟩
    · rcases hb with hb | hb
      · exact hd.2.2 b o hb ho
      · obtain ⟨p, hp, rfl⟩ := List.mem_map.1 (hmk b hb)
        rw [(box' p hp).1] at ho
        exact hs.fz _ o (Or.inr hb) ho
    · by_cases hb : b ∈ β
      · rw [(hβ b hb).2 D₁ hD₁]; exact List.nil_prefix
      · by_cases hlt : b < w.heap.size
        · rw [(hl2 b hlt hb).2]; exact hD D₁ hD₁ b
        · have := hD D₁ hD₁ b
          rw [hs.agr.fresh (Nat.le_of_not_lt hlt)] at this
          rw [List.prefix_nil.1 this]; exact List.nil_prefix
  · rintro β β' D w ⟨g, hg, hs, hD, hβ, hM, hmk⟩ hb'
    refine ⟨g, hg, hs, hD, fun b hb => ?_, fun p hp hb => ?_, hmk⟩
    · rcases hb' b hb with h | h
      · exact hβ b h
      · refine ⟨by have := hs.hlo; have := hs.size; omega, fun D₁ hD₁ => ?_⟩
        have := hD D₁ hD₁ b
        rw [hs.agr.fresh h] at this
        exact List.prefix_nil.1 this
    · rcases hb' _ hb with h | h
      · exact hM p hp h
      · have := lt_of_some (hs.box p hp).1; omega
theorem Sta.roundM {h0 : H0} {lo : Nat} {D0 D D' : Data} {mods : List Nat} {μ μ' : Boxes} {w w' : World} (h : Sta h0 lo D0 mods μ D w) (hmk : ∀ k ∈ mods, k ∈ μ.ks) (hs : Sta (hd w) w.heap.size D (μ.map (·.1)) μ' D' w') : Sta h0 lo D0 mods μ' D' w' := by
  have hle := Nat.le_trans h.hlo h.size
  have hkey : ∀ b ∈ μ.map (·.1), lo ≤ b ∨ b ∈ mods := by
    intro b hb
    obtain ⟨p, hp, rfl⟩ := List.mem_map.1 hb
    exact (h.box p hp).2.2
  refine ⟨h.hlo, Nat.le_trans h.size hs.size, fun b hb hm => ?_, fun b hb => ?_, hs.agr, fun p hp => ?_, hs.nd, fun b o hb ho => ?_, fun e he => (hs.env _ rfl).trans (h.env e he)⟩
  · rw [hs.old b (Nat.lt_of_lt_of_le hb hle) (fun hk => by
      rcases hkey b hk with h1 | h1
      · have := h.hlo; omega
      · exact hm h1)]
    exact h.old b hb hm
  · rw [hs.dold b (Nat.lt_of_lt_of_le hb hle)]; exact h.dold b hb
  · obtain ⟨p1, p2, p3⟩ := hs.box p hp
    refine ⟨p1, p2, ?_⟩
    rcases p3 with p3 | p3
    · exact Or.inl (by have := h.size; omega)
    · exact hkey _ p3
  · by_cases hk : b ∈ μ.map (·.1)
    · exact hs.fz b o (Or.inr hk) ho
    · have hb := hb.resolve_right fun h' => hk (hmk b h')
      rcases Nat.lt_or_ge b w.heap.size with hl | hl
      · rw [hs.old b hl hk] at ho; exact h.fz b o (Or.inl hb) ho
      · exact hs.fz b o (Or.inl hl) ho
/-- **THE STATEMENT 'for .. := range g { .. }'**, outermost in its function, of such an iterator. -/
theorem C.rangeFuncS {α γ : Type} {xs : List α} {enc : Nat → List Value} {cells : α → List Value} {Dr : Data} {f : FuncId} {cap : List Value} {gop : Operand} {ps : Array Tmp} {assign body : Code}
    (Φ : List α → γ → Prop) (Ψ : List α → Code → γ → Prop) (M : γ → Boxes) (g₀ : γ) (hr : X.r = none) (hex : X.ex = none) (hmods : ∀ g, ∀ k ∈ X.mods, k ∈ (M g).ks)
    (hg : ev σ gop = some (.func (.func f) #[] cap.toArray)) (hit : IterS P f cap Dr xs enc cells) (hDr : Dr ∈ Ds) (hps : ∀ b, (enc b).length = ps.size) (hpN : (ps.toList.all fun p => Nat.blt p X.N) = true) (h₀ : Φ [] g₀) (hμ : M g₀ = μ)
    (hround : ∀ pre x g, (∃ r, xs = pre ++ x :: r) → Φ pre g → ∀ (l bd bo : Nat) (rec : Loop) (h0 : H0) (D : Data), (∀ D₁ ∈ Ds, Le D₁ D) → At D bo 0 (cells x) → rec.state = .ready → rec.pending = none →
      WC P (Xr l X.N h0 D ((M g ++ (l, Obj.loop rec) :: [(bd, Obj.deferred (some []))]).map (·.1)))
        (Exit.then (fun a₁ w₁ => ∃ w₂, (Instr.beginRound l).run P w₁ = .ok () w₂ ∧ body.wpIn ((FW none).inRound l) 0 P (roundPost P l (RoundR h0 D ((M g ++ (l, Obj.loop rec) :: [(bd, Obj.deferred (some []))]).map (·.1)) (Φ (pre ++ [x])) (Ψ (pre ++ [x]))
          (fun g => M g ++ (l, Obj.loop { rec with state := .ready, pending := none }) :: [(bd, Obj.deferred (some []))]) (fun c g => M g ++ (l, Obj.loop { rec with state := .done, pending := some c }) :: [(bd, Obj.deferred (some []))]))) a₁ w₂) (fun _ _ _ => False))
        assign (parSlots ps.toList (enc bo) σ) (M g ++ (l, Obj.loop rec) :: [(bd, Obj.deferred (some []))]) (D :: Ds))
    (hdone : ∀ g bd, Φ xs g → ∀ a w, Hl (X.withDs bd) σ (M g ++ [(bd, Obj.deferred (some []))]) Ds a w → Q .normal a w)
    (hstop : ∀ pre c g bd, Ψ pre c g → WC P (X.withDs bd) Q c σ (M g ++ [(bd, Obj.deferred (some []))]) Ds) : WC P X Q (.rangeFunc gop ps assign body) σ μ Ds := by
  intro a w hh
  subst hμ
  have hev := hh.eval hg
  obtain ⟨h1, h2, h3, D, h4, h5, h6⟩ := hh
  refine wpIn_rangeFunc fun fn _ => ?_
  have hround' : (FW X.r).round = none := hr
  rw [hround']
  have hmk : ∀ g (B : Boxes), ∀ k ∈ X.mods, k ∈ (M g ++ B).ks := fun g B k hk => by
    show k ∈ (M g ++ B).map _
    rw [List.map_append]; exact List.mem_append_left _ (hmods g k hk)
  let bd := w.heap.size
  let l := w.heap.size + 1
  let rec0 : Loop := { state := .ready, pending := none, fn, tmps := a.tmps, params := ps, assign, body, defers := bd }
  let w1 : World := { w with heap := w.heap.push (.deferred (some [])) }
  let w2 : World := { w1 with heap := w1.heap.push (.loop rec0) }
  have hs1 : Sta X.h0 X.lo X.D0 X.mods ((bd, Obj.deferred (some [])) :: M g₀) D w1 := h4.push (.deferred (some [])) trivial
  have hs2 : Sta X.h0 X.lo X.D0 X.mods ((l, Obj.loop rec0) :: (bd, Obj.deferred (some [])) :: M g₀) D w2 := by
    have := hs1.push (.loop rec0) trivial
    have e : w1.heap.size = l := by simp [w1, l]
    rw [e] at this; exact this
  have hperm : Sta X.h0 X.lo X.D0 X.mods (M g₀ ++ (l, Obj.loop rec0) :: [(bd, Obj.deferred (some []))]) D w2 := by
    refine hs2.sub (fun p hp => ?_) ?_
    · simp only [List.mem_append, List.mem_cons, List.not_mem_nil, or_false] at hp ⊢
      rcases hp with hp | hp | hp
      · exact Or.inr (Or.inr hp)
      · exact Or.inl hp
      · exact Or.inr (Or.inl hp)
    · have hn := hs2.nd
      simp only [List.map_cons, List.nodup_cons, List.mem_cons, not_or] at hn
      simp only [List.map_append, List.map_cons, List.map_nil, List.nodup_append, List.nodup_cons, List.mem_cons, List.not_mem_nil, or_false, not_false_eq_true, List.nodup_nil, and_true]
      refine ⟨hn.2.2, hn.1.1, fun q hq r hr' => ?_⟩
      rcases hr' with rfl | rfl
      · rintro rfl; exact hn.1.2 hq
      · rintro rfl; exact hn.2.1 hq
  -- the call
  refine ⟨l, [markOf bd], w2, { target := .fn (.func f) cap.toArray, args := #[.func (.yield l) #[] #[]] }, w2, f, (.func (.yield l) #[] #[] :: cap).toArray, w2, run_enterLoop_outer fn a.tmps ps assign body, ?_, fun _ _ => trivial, ?_, fun h => by simp [FW] at h, ?_⟩
  · simp only [resolve, Deferred.ofValue]
    have e : Array.map a.eval #[Operand.const (Value.func (Fn.yield l) #[] #[])] = #[.func (.yield l) #[] #[]] := by simp [Act.eval]
    rw [e, hev]; rfl
  · simp only [invoke]
    rw [hit.1]; simp
  · refine callsIn_FW.2 ((hit.2 X.lo l
      (fun pre => OwnM X.h0 X.lo X.D0 X.mods Ds (Φ pre) fun g => M g ++ (l, Obj.loop rec0) :: [(bd, Obj.deferred (some []))])
      (fun pre => OwnM X.h0 X.lo X.D0 X.mods Ds (fun cg : Code × γ => Ψ pre cg.1 cg.2) fun cg => M cg.2 ++ (l, Obj.loop { rec0 with state := .done, pending := some cg.1 }) :: [(bd, Obj.deferred (some []))])
      (fun _ => own_stbM) (fun _ => own_stbM) ?_ D w2 hs2.dom (h5 Dr hDr) ⟨g₀, h₀, hperm, h5, (fun _ h => by cases h), (fun _ _ h => by cases h), hmk g₀ _⟩).mono ?_)
    · rintro pre x β Dx wx bo hx hdx ⟨g, hΦ, hst, hDs, hβ, hM, hmg⟩ hβs hle ⟨hbo, hbD, be, bfz, hbw⟩
      have hbox := (hst.box (l, Obj.loop rec0) (by simp)).1
      refine ⟨fn, _, assign, body, run_yield hbox (by simpa using hps bo), ?_⟩
      refine (roundIn_of_wpIn (F := FW none) trivial (R := RoundR (hd wx) (shown Dx bo (cells x)) ((M g ++ (l, Obj.loop rec0) :: [(bd, Obj.deferred (some []))]).map (·.1)) (Φ (pre ++ [x])) (Ψ (pre ++ [x]))
          (fun g => M g ++ (l, Obj.loop { rec0 with state := .ready, pending := none }) :: [(bd, Obj.deferred (some []))]) (fun c g => M g ++ (l, Obj.loop { rec0 with state := .done, pending := some c }) :: [(bd, Obj.deferred (some []))])) ?_).mono ?_
      · have hw := hround pre x g hx hΦ l bd bo rec0 (hd wx) (shown Dx bo (cells x)) (fun D₁ h => (hDs D₁ h).trans (shown_le hbD)) (shown_at _ _ _) rfl rfl
        have ht : (ps.zip (enc bo).toArray).foldl (fun tmps (t, a) => tmps.setIfInBounds t a) a.tmps = (ps.toList.zip (enc bo)).foldl (fun tmps (p : Tmp × Value) => tmps.setIfInBounds p.1 p.2) a.tmps := by
          rw [← Array.foldl_toList]; simp
        have hpN' : ∀ p ∈ ps.toList, p < a.tmps.size := fun p hp => by rw [h1]; simpa [Nat.blt_eq] using List.all_eq_true.1 hpN p hp
        refine hw { tmps := _, defers := [] } wx ⟨?_, fun s v hs => ?_, rfl, shown Dx bo (cells x), ⟨Nat.le_refl _, Nat.le_refl _, fun _ _ _ => rfl, fun _ _ => rfl, shown_agr hst.agr hbw, fun p hp => ?_, hst.nd, fun b o hb ho => ?_, fun e he => Option.some.inj he⟩, fun D₁ hD₁ => ?_, trivial⟩
        · show ((ps.zip (enc bo).toArray).foldl _ a.tmps).size = X.N
          rw [ht, size_par]; exact h1
        · show ((ps.zip (enc bo).toArray).foldl _ a.tmps)[s]? = some v
          rw [ht]; exact look_par _ _ _ _ h2 hpN' s v hs
        · obtain ⟨p1, p2, p3⟩ := hst.box p hp
          exact ⟨p1, by unfold shown; rw [if_neg (fun e => hM p hp (by rw [e]; exact hbo))]; exact p2, Or.inr (List.mem_map.2 ⟨p, hp, rfl⟩)⟩
        · rcases hb with hb | hb
          · exact absurd (lt_of_some ho) (Nat.not_lt_of_le hb)
          · obtain ⟨p, hp, rfl⟩ := List.mem_map.1 hb
            exact hst.fz _ o (hst.box p hp).2.2 ho
        · rcases List.mem_cons.1 hD₁ with rfl | hD₁
          · exact Le.refl _
          · exact (hDs D₁ hD₁).trans (shown_le hbD)
      · rintro e w' ⟨b, D', rfl, hb⟩
        have fin : ∀ μ', Sta (hd wx) wx.heap.size (shown Dx bo (cells x)) ((M g ++ (l, Obj.loop rec0) :: [(bd, Obj.deferred (some []))]).map (·.1)) μ' D' w' → Sta X.h0 X.lo X.D0 X.mods μ' (shown D' bo []) w' ∧ High β Dx wx (shown D' bo []) w' ∧ (∀ D₁ ∈ Ds, Le D₁ (shown D' bo [])) ∧ (∀ p ∈ μ', p.1 ∉ β) := by
          intro μ' hs0
          have hs' := hs0.hide hbD
          refine ⟨hst.roundM hmg hs', Sta.roundHigh hst.agr hs' hβs hM, fun D₁ hD₁ => (hDs D₁ hD₁).trans (le_of_call hst.agr hs'), fun p hp hpb => ?_⟩
          rcases (hs'.box p hp).2.2 with h | h
          · have := hβs _ hpb; omega
          · obtain ⟨q, hq, he⟩ := List.mem_map.1 h
            exact hM q hq (by rw [he]; exact hpb)
        refine ⟨b, shown D' bo [], rfl, ?_⟩
        cases b with
        | true =>
          obtain ⟨g', hg', hs'⟩ := hb
          obtain ⟨f1, f2, f3, f4⟩ := fin _ hs'
          exact ⟨f1.dom, f2, g', hg', f1, f3, hβ, f4, hmk g' _⟩
        | false =>
          obtain ⟨c', g', hg', hs'⟩ := hb
          obtain ⟨f1, f2, f3, f4⟩ := fin _ hs'
          exact ⟨f1.dom, f2, (c', g'), hg', f1, f3, hβ, f4, hmk g' _⟩
    · rintro e w' ⟨v, D', rfl, hd, hend⟩
      have post : ∀ (g : γ) (r : Loop), Sta X.h0 X.lo X.D0 X.mods (M g ++ (l, Obj.loop r) :: [(bd, Obj.deferred (some []))]) D' w' → (∀ D₁ ∈ Ds, Le D₁ D') →
          Hl (X.withDs bd) σ (M g ++ [(bd, Obj.deferred (some []))]) Ds { a with defers := [markOf bd] ++ a.defers } (w'.putObj l (.loop { r with state := .exhausted })) := by
        intro g r hs hD'
        have hHas : Has (M g ++ (l, Obj.loop r) :: [(bd, Obj.deferred (some []))]) l (.loop r) (.loop { r with state := .exhausted }) (M g ++ (l, Obj.loop { r with state := .exhausted }) :: [(bd, Obj.deferred (some []))]) := .app .head
        have hs' := hs.set (w' := w'.putObj l (.loop { r with state := .exhausted })) hHas ⟨rfl, rfl⟩ trivial
        have hs'' := hs'.sub (μ' := M g ++ [(bd, Obj.deferred (some []))]) (fun p hp => by
          rcases List.mem_append.1 hp with hp | hp
          · exact List.mem_append_left _ hp
          · exact List.mem_append_right _ (List.mem_cons_of_mem _ hp)) (by
          have hn := hs'.nd
          rw [List.map_append, List.nodup_append] at hn ⊢
          simp only [List.map_cons] at hn
          exact ⟨hn.1, (List.nodup_cons.1 hn.2.1).2, fun q hq r hr => hn.2.2 q hq r (List.mem_cons_of_mem _ hr)⟩)
        exact ⟨h1, h2, congrArg (markOf bd :: ·) h3, D', hs'', hD', by unfold exOk; show (match X.ex with | none => True | some J => _); rw [hex]; trivial⟩
      rcases hend with ⟨g, hΦ, hs, hDs, _, _, _⟩ | ⟨pre, ⟨c, g⟩, hΨ, hs, hDs, _, _, _⟩
      · have hb := (hs.box (l, Obj.loop rec0) (by simp)).1
        exact ⟨none, _, run_endLoop hb (by simp [rec0]), hdone g bd hΦ _ _ (post g rec0 hs hDs)⟩
      · have hb := (hs.box (l, Obj.loop { rec0 with state := .done, pending := some c }) (by simp)).1
        refine ⟨some c, _, run_endLoop hb (by simp), ?_⟩
        have := hstop pre c g bd hΨ _ _ (post g _ hs hDs)
        exact this
/-! ### Entering such an iterator -/
/-- 'make' of a slice of so many zeros, the frame's own. -/
theorem L.makeSliceO {t e : TypeId} {sz n : Nat} {z0 : Value} {zs cs : List Value} {k k' : IntKind} (ho : all[ix]? = some ⟨some d, .makeSlice t x y, ty, pos, aft, g⟩) (ht : P.underlying t = some (.slice e)) (hs : TS P e sz) (hz : TZ P e z0) (hzc : z0.cells = zs.toArray) (hi : (P.info? e).map (fun i => Nat.ble 1 i.bytes && Nat.ble i.bytes 4096) = some true)
    (hx : ev σ x = some (.int k n)) (hy : ev σ y = some (.int k' n)) (hn : n ≤ 10000) (hcs : ((Array.range (n * sz)).map (zs.toArray[· % zs.toArray.size]!)).toList = cs) (hN : Nat.blt d X.N = true) (hg : Gok all σ g)
    (kk : ∀ b, WL P X bad all K Q os ((d, .slice (some ⟨b, 0, none⟩) n n) :: σ) ((b, .cells cs.toArray e (0, 0)) :: μ) Ds) : WL P X bad all K Q ((fl, ix) :: os) σ μ Ds := by
  refine L.loud ho rfl rfl hg fun a w hh => ?_
  obtain ⟨h1, h2, h3, D, h4, h5, h6⟩ := id hh
  have hn' := hn
  obtain ⟨i0, hi0, hb⟩ := Option.map_eq_some_iff.1 hi
  simp only [Bool.and_eq_true] at hb
  have hb1 := Nat.le_of_ble_eq_true hb.1
  have hb2 := Nat.le_of_ble_eq_true hb.2
  have hti : ∀ w, (typeInfo e).run P w = .ok i0 w := fun w => by simp [typeInfo, program, Sem.run, hi0, go_sem]
  have hw : IntKind.i64.wrap (n : Int) = n := wrap_in (by simp only [inK]; omega)
  have hbn : i0.bytes * n ≤ 4096 * 10000 := Nat.mul_le_mul hb2 hn'
  have hlarge : (((n : Int) < 0) || decide ((i0.bytes : Int) * n > 2 ^ 48)) = false := by
    have : ((i0.bytes * n : Nat) : Int) ≤ 40960000 := by omega
    rw [Int.natCast_mul] at this
    simp only [Bool.or_eq_false_iff, decide_eq_false_iff_not]
    constructor
    · omega
    · omega
  have hzz : ∀ w, (zeroValue e).run P w = .ok z0 w := hz
  have hrun : (execOp a.eval ⟨some d, .makeSlice t x y, ty, pos, aft, g⟩).run P w = .ok (.value (.slice (some ⟨w.heap.size, 0, none⟩) n n)) { w with heap := w.heap.push (.cells cs.toArray e (0, 0)) } := by
    have hcs' : (Array.range (n * sz)).map (zs.toArray[· % zs.toArray.size]!) = cs.toArray := by rw [← hcs]
    have hai : ∀ (k : IntKind) (m : Int) (w : World), (asInt (.int k m)).run P w = .ok m w := fun _ _ _ => rfl
    simp only [execOp, Instr.makeSlice, hh.eval hx, hh.eval hy, hai, Sem.run_bind, TU.of ht w, Result.andThen_ok, Sem.run_pure, hti, hw, pure_bind]
    rw [if_neg (by simp only [Bool.or_eq_true, decide_eq_true_eq, not_or]; exact ⟨⟨by simpa using hlarge, by omega⟩, by omega⟩)]
    simp only [Sem.run_bind, run_askRoom, Result.andThen_ok, hs w, Int.toNat_natCast]
    by_cases hnz : n * sz = 0
    · rw [if_pos hnz]
      have h00 : ∀ f : Nat → Value, (Array.range 0).map f = #[] := fun f => by simp
      have hc0 : cs.toArray = #[] := by rw [← hcs', hnz]; exact h00 _
      simp only [Sem.run_pure, Sem.run_bind, hc0]
      rw [hnz]
      simp only [h00, run_newRow, Result.andThen_ok]
    · rw [if_neg hnz]
      simp only [Sem.run_bind, hzz, Result.andThen_ok, Sem.run_pure, hzc, hcs', run_newRow]
  rw [hrun]
  have hs' := h4.push (.cells cs.toArray e (0, 0)) rfl
  refine ⟨fun _ => keep_push _ _ _, kk w.heap.size _ _ (Hl.put ⟨h1, h2, h3, D, hs', h5, h6.step (fun _ p hp => ?_) (fun _ => ⟨by simp, fun b hb _ => ⟨heap_push_lt hb, rfl⟩, rfl⟩) hs'.dom⟩ hN _)⟩
  rcases List.mem_cons.1 hp with rfl | hp
  · exact Or.inr (Nat.le_refl _)
  · exact Or.inl (List.mem_map.2 ⟨p, hp, rfl⟩)
theorem zero_cells {n sz : Nat} {zs : List Value} (h : ∀ u ∈ zs, u = .int .i64 0) (hl : zs.length = sz) : ((Array.range (n * sz)).map (zs.toArray[· % zs.toArray.size]!)).toList = ints (List.replicate (n * sz) 0) := by
  apply List.ext_getElem?
  intro i
  simp only [Array.toList_map, Array.toList_range, List.getElem?_map, ints, List.map_replicate, List.getElem?_replicate]
  by_cases hi : i < n * sz
  · rw [List.getElem?_range hi, if_pos hi]
    have hpos : 0 < sz := by
      rcases Nat.eq_zero_or_pos sz with h0 | h0
      · subst h0; simp at hi
      · exact h0
    have hm : i % zs.toArray.size < zs.length := by simp only [List.size_toArray, hl]; exact Nat.mod_lt _ hpos
    simp only [Option.map_some]
    congr 1
    rw [getElem!_pos _ _ (by simpa using hm)]
    exact h _ (by simp)
  · rw [List.getElem?_eq_none (by simpa using hi), if_neg hi]; rfl
/-! ### A slice becomes data, where some blocks are the caller's -/
/-- A block of data is none of the frame's own. -/
theorem Hl.apart {a : Act} {w : World} {D₁ : Data} {b o : Nat} {c : Value} {cs : List Value} (hh : Hl X σ μ Ds a w) (hA : At D₁ b o (c :: cs)) (hD : D₁ ∈ Ds) : b ∉ μ.ks := by
  obtain ⟨h1, h2, h3, D, h4, h5, h6⟩ := hh
  intro hm
  obtain ⟨p, hp, rfl⟩ := List.mem_map.1 hm
  have h0 := (h5 D₁ hD).get (hA 0 c rfl)
  rw [(h4.box p hp).2.1] at h0
  simp at h0
/-! ### Functions that range over a function, and change blocks of their caller's -/
/-- 'x && y', where y changes the boxes: behind both ways what is known goes by a letter g. -/
theorem L.andM {γ : Type} (I : γ → Prop) (S : γ → Bool) (M : γ → Boxes) (xs ys : List (Bool × Nat)) {s p : Nat} {b : Bool} (ho : os = xs ++ ys) (hs : look σ s = some (.bool b))
    (hyes : b = true → WL P X bad all (fun a w => ∃ g, I g ∧ Hl X ((p, .bool (S g)) :: (s, .bool true) :: σ) (M g) Ds a w) Q xs ((s, .bool true) :: σ) μ Ds)
    (hno : b = false → WL P X bad all (fun a w => ∃ g, I g ∧ Hl X ((p, .bool (S g)) :: (s, .bool false) :: σ) (M g) Ds a w) Q xs ((s, .bool false) :: σ) μ Ds)
    (k : ∀ g, I g → WL P X bad all K Q ys ((p, .bool (S g)) :: σ) (M g) Ds) : WL P X bad all K Q os σ μ Ds := by
  have hsub : ∀ u, Value.bool b = u → ∀ a w, Hl X σ μ Ds a w → Hl X ((s, u) :: σ) μ Ds a w := by
    rintro _ rfl a w ⟨h1, h2, h3⟩
    refine ⟨h1, fun t v ht => ?_, h3⟩
    simp only [look] at ht
    cases hb : Nat.beq s t with
    | true => rw [hb] at ht; cases ht; obtain rfl := Nat.eq_of_beq_eq_true hb; exact h2 _ _ hs
    | false => rw [hb] at ht; exact h2 _ _ ht
  have hback : ∀ u v μ', Value.bool b = u → ∀ a w, Hl X ((p, v) :: (s, u) :: σ) μ' Ds a w → Hl X ((p, v) :: σ) μ' Ds a w := by
    rintro _ v μ' rfl a w ⟨h1, h2, h3⟩
    refine ⟨h1, fun t v' ht => ?_, h3⟩
    refine h2 t v' ?_
    simp only [look] at ht ⊢
    cases hp : Nat.beq p t with
    | true => rw [hp] at ht; exact ht
    | false =>
      rw [hp] at ht
      cases hb : Nat.beq s t with
      | true => obtain rfl := Nat.eq_of_beq_eq_true hb; rw [← ht, hs]
      | false => exact ht
  subst ho
  intro a w hh
  cases b
  · refine WL.append (hno rfl a w (hsub _ rfl a w hh)) ?_
    rintro a w ⟨g, hI, h⟩
    exact k g hI a w (hback _ _ _ rfl a w h)
  · refine WL.append (hyes rfl a w (hsub _ rfl a w hh)) ?_
    rintro a w ⟨g, hI, h⟩
    exact k g hI a w (hback _ _ _ rfl a w h)
/-- A number laid into a block of numbers. -/
theorem L.storeF {t : TypeId} {b k : Nat} {l : List Int} {n : Int} {e : TypeId} {μ' : Boxes} (ho : all[ix]? = some ⟨none, .store t x y, ty, pos, aft, g⟩) (hs : TS P t 1) (hx : ev σ x = some (.pointer (some ⟨b, k, none⟩))) (hy : ev σ y = some (.int .i64 n))
    (hm : Has μ b (.cells (ints l).toArray e (0, 0)) (.cells (ints (l.set k n)).toArray e (0, 0)) μ') (hl : k < l.length) (hg : Gok all σ g)
    (kk : WL P X bad all K Q os σ μ' Ds) : WL P X bad all K Q ((false, ix) :: os) σ μ Ds := by
  have hil : (ints l).length = l.length := ints_length l
  refine L.store (off := k) (us := [.int .i64 n]) (vs := ints l) (ws := ints (l.set k n)) ho hx hy rfl hs hm (by simp [hil]; omega) ?_ (fun u hu => by simp at hu; subst hu; rfl) hg kk
  rw [show ints (l.set k n) = (ints l).set k (.int .i64 n) by simp [ints, List.map_set], List.set_eq_take_append_cons_drop, if_pos (by rw [hil]; exact hl)]
  simp
/-- The length of a slice, whatever it holds. -/
theorem L.lenV {t e tr : TypeId} {a : Option Addr} {n c : Nat} {ats : Array TypeId} (ho : all[ix]? = some ⟨some d, .call { callee := .builtin .len, args := #[x], argTypes := ats }, tr, pos, aft, g⟩) (ht : P.underlying t = some (.slice e)) (hx : ev σ x = some (.slice a n c)) (hat : ats[0]? = some t)
    (hN : Nat.blt d X.N = true) (hg : Gok all σ g) (kk : WL P X bad all K Q os ((d, .int .i64 (n : Int)) :: σ) μ Ds) : WL P X bad all K Q ((fl, ix) :: os) σ μ Ds :=
  L.pure ho rfl rfl hN hg (fun ρ hρ w' => by
    have hx' := hρ x _ hx
    simp [Builtin.len_, hat, hx', Sem.run_bind, TU.of ht w', goInt, Sem.run_pure, go_sem]) kk
theorem Q.boxesEq {T : Act → World → Prop} (μ' : Boxes) (h : μ = μ') (k : ∀ a w, Hl X σ μ' Ds a w → T a w) : ∀ a w, Hl X σ μ Ds a w → T a w := h ▸ k
/-! ### More -/
theorem L.apart {D₁ : Data} {b o : Nat} {c : Value} {cs : List Value} (hA : At D₁ b o (c :: cs)) (hD : D₁ ∈ Ds) (k : b ∉ μ.ks → WL P X bad all K Q os σ μ Ds) : WL P X bad all K Q os σ μ Ds := fun a w hh => k (hh.apart hA hD) a w hh
theorem acc_box {e sz b : Nat} {cells : List Value} (h : cells.length = sz) : Acc e sz (.slice (some ⟨b, 0, none⟩) 1 1) 1 cells [(b, .cells cells.toArray e (0, 0))] :=
  Or.inr ⟨b, 1, [], rfl, Nat.le_refl _, by simp, by omega, by simp; omega⟩
theorem froz_box {D : Data} {b : Nat} {cells : List Value} (h : Froz D (.slice (some ⟨b, 0, none⟩) 1 1) 1 cells) : At D b 0 cells := by
  rcases h with ⟨a, _, h0, _⟩ | ⟨b', cap, hv, _, hA⟩
  · omega
  · cases hv; exact hA
/-- One of the frame's own blocks becomes data. -/
theorem C.freezeBox {c : Code} {A B : Boxes} {b : Nat} {cells : List Value} {e : TypeId} (hmods : X.mods = []) (kk : ∀ D, (∀ D₁ ∈ Ds, Le D₁ D) → At D b 0 cells → WC P X Q c σ (A ++ B) (D :: Ds)) : WC P X Q c σ (A ++ (b, .cells cells.toArray e (0, 0)) :: B) Ds := by
  have := C.freeze (A := A) (B := B) (ν := [(b, .cells cells.toArray e (0, 0))]) (c := c) (P := P) (X := X) (Q := Q) (σ := σ) (Ds := Ds) (acc_box (e := e) (b := b) (cells := cells) rfl) hmods fun D hD hF => kk D hD (froz_box hF)
  simpa using this
/-- A store into one of the frame's own blocks, before or behind operations that do not look at it. -/
theorem L.storeB {t : TypeId} {b off : Nat} {vs us ws : List Value} {e : TypeId} {μ' : Boxes} (ho : all[ix]? = some ⟨none, .store t x y, ty, pos, aft, g⟩) (hx : ev σ x = some (.pointer (some ⟨b, off, none⟩))) (hy : ev σ y = some v) (hv : v.cells = us.toArray) (hs : TS P t us.length)
    (hm : Has μ b (.cells vs.toArray e (0, 0)) (.cells ws.toArray e (0, 0)) μ') (hl : off + us.length ≤ vs.length) (hw : vs.take off ++ us ++ vs.drop (off + us.length) = ws) (hc1 : ∀ u ∈ us, cell1 u = true) (hfl : fl = false ∨ b ∈ bad) (hg : Gok all σ g)
    (kk : WL P X bad all K Q os σ μ' Ds) : WL P X bad all K Q ((fl, ix) :: os) σ μ Ds := by
  refine L.loud ho rfl rfl hg fun a w hh => ?_
  obtain ⟨h1, h2, h3, D, h4, h5, h6⟩ := id hh
  obtain ⟨w', hr, hw'⟩ := run_storeAt (P := P) hs hv (h4.box _ hm.mem).1 hl hc1
  have : (execOp a.eval ⟨none, .store t x y, ty, pos, aft, g⟩).run P w = .ok .skip w' := by
    simp only [execOp, hh.eval hx, hh.eval hy, Sem.run_bind, hr, Result.andThen_ok, Sem.run_pure]
  rw [this]
  rw [hw] at hw'
  refine ⟨fun h => ⟨by rw [hw'.1]; simp, fun c _ hn => ?_⟩, kk _ _ ⟨h1, h2, h3, D, h4.set hm hw' rfl, h5, h6.step (fun _ p hp => Or.inl (by rw [← hm.keys]; exact List.mem_map.2 ⟨p, hp, rfl⟩)) (fun _ => low_set hw' (List.mem_map.2 ⟨_, hm.mem, rfl⟩)) (h4.set hm hw' rfl).dom⟩⟩
  rcases hfl with hf | hf
  · rw [hf] at h; cases h
  · rw [hw'.1, Array.getElem?_setIfInBounds_ne (by rintro rfl; exact hn hf)]
end Go.Fs
