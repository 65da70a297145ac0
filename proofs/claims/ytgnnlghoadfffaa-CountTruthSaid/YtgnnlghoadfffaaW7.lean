/- Walks: the looks that are needed. -/
import Derived.Test.YtgnnlghoadfffaaW6
import Derived.Test.YtgnnlghoadfffaaKeys
namespace Go.Fs
open Go.Proofs
theorem k2_119 : K2 Try.prog 119 := ⟨by kernel_rfl, by kernel_rfl, by kernel_rfl⟩
open C1
theorem bestK_skip {nd : List (List Int) → Int} {ts : List (List Int)} {n k : Nat} (h : seenT ts k 0 = [] ∨ seenT ts k 1 = []) : bestK nd ts n (k + 1) = bestK nd ts n k := by simp only [bestK]; rw [if_pos h]
theorem bestK_yes {nd : List (List Int) → Int} {ts : List (List Int)} {n k : Nat} (h0 : seenT ts k 0 ≠ []) (h1 : seenT ts k 1 ≠ []) (h : nd (seenT ts k 0) + 1 < bestK nd ts n k) : bestK nd ts n (k + 1) = min (bestK nd ts n k) (1 + max (nd (seenT ts k 0)) (nd (seenT ts k 1))) := by
  simp only [bestK]; rw [if_neg (by simp [h0, h1]), if_pos h]
theorem bestK_no {nd : List (List Int) → Int} {ts : List (List Int)} {n k : Nat} (h0 : seenT ts k 0 ≠ []) (h1 : seenT ts k 1 ≠ []) (h : ¬ nd (seenT ts k 0) + 1 < bestK nd ts n k) : bestK nd ts n (k + 1) = bestK nd ts n k := by
  simp only [bestK]; rw [if_neg (by simp [h0, h1]), if_neg h]
theorem need_skip {b : Int} {l0 l1 : List (List Int)} (hb : 1 ≤ b) (h : ((decide (b = 0) || decide ((l0.length : Int) = 0)) || decide ((l1.length : Int) = 0)) = true) : l0 = [] ∨ l1 = [] := by
  simp only [Bool.or_eq_true, decide_eq_true_eq] at h
  rcases h with (h | h) | h
  · omega
  · exact Or.inl (List.length_eq_zero_iff.1 (by omega))
  · exact Or.inr (List.length_eq_zero_iff.1 (by omega))
theorem need_go {b : Int} {l0 l1 : List (List Int)} (h : ((decide (b = 0) || decide ((l0.length : Int) = 0)) || decide ((l1.length : Int) = 0)) = false) : l0 ≠ [] ∧ l1 ≠ [] := by
  simp only [Bool.or_eq_false_iff, decide_eq_false_iff_not] at h
  exact ⟨fun e => h.1.2 (by rw [e]; rfl), fun e => h.2 (by rw [e]; rfl)⟩
theorem or_lt {a k : Nat} (ha : a < 512) (h : 2 ^ k < 512) : a ||| 2 ^ k < 512 := Nat.or_lt_two_pow (n := 9) ha h
theorem or_sub {a b k : Nat} (h : ∀ q, b.testBit q = true → a.testBit q = true) : ∀ q, b.testBit q = true → (a ||| 2 ^ k).testBit q = true := fun q hq => by rw [Nat.testBit_or, h q hq]; rfl
theorem or_sub2 {a b k : Nat} (h : ∀ q, b.testBit q = true → a.testBit q = true) : ∀ q, (b ||| 2 ^ k).testBit q = true → (a ||| 2 ^ k).testBit q = true := fun q hq => by
  rw [Nat.testBit_or] at hq ⊢
  rcases Bool.or_eq_true_iff.1 hq with h1 | h1
  · rw [h q h1]; rfl
  · rw [h1, Bool.or_true]
theorem mapOk_get {T : List (List Int)} {n i j a b : Nat} {M : List ((Int × Int) × Int)} {nv : Int} {ts : List (List Int)} (h : MapOk T n i j M) (hm : true = true → (((a : Int), (b : Int)), nv) ∈ M) (hts : ts = T.filter (agree a b)) : nv = needN n i j ts := by
  obtain ⟨a', b', h1, h2⟩ := h _ (hm rfl)
  simp only [Prod.mk.injEq] at h1
  obtain rfl : a = a' := by omega
  obtain rfl : b = b' := by omega
  rw [hts]; exact h2
theorem mapOk_put {T : List (List Int)} {n i j a b : Nat} {M M' : List ((Int × Int) × Int)} {nv : Int} {ts : List (List Int)} (h : MapOk T n i j M) (hm : ∀ p ∈ M', p ∈ M ∨ p = (((a : Int), (b : Int)), nv)) (hts : ts = T.filter (agree a b)) (hn : nv = needN n i j ts) : MapOk T n i j M' := fun p hp => by
  rcases hm p hp with h1 | rfl
  · exact h p h1
  · exact ⟨a, b, rfl, by rw [← hts]; exact hn⟩
open C1
theorem need_ok (wv : Value) (r : RowD) (i j : Int) (sb m : Nat) (hok9 : RowOk r) (hi0 : 0 ≤ i) (hij : i ≤ j) (hj9 : j < 9) :
    ∀ (L : Nat) (ts : List (List Int)), ts.length = L → ∀ (lv : Value) (a b : Nat) (es : Array MapEntry) (clock : Nat) (M : List ((Int × Int) × Int)) (D : Data), ts ≠ [] → At D sb 0 [wv, .int .i64 i, .int .i64 j, .map (some m)] → WorkIs D wv r → ts = (truths r).filter (agree a b) → Sl D RT 9 lv ts → a < 512 → b < 512 → (∀ q, b.testBit q = true → a.testBit q = true) → MapIs es M → MapOk (truths r) r.places.length i.toNat j.toNat M →
    FnB Try.prog 75 [.pointer (some ⟨sb, 0, none⟩), lv, .agg #[.int .i64 (a : Int), .int .i64 (b : Int)]] D m (.map es clock) (fun _ v o' => v = .int .i64 (needN r.places.length i.toNat j.toNat ts) ∧ ∃ es' clock' M', o' = .map es' clock' ∧ MapIs es' M' ∧ MapOk (truths r) r.places.length i.toNat j.toNat M') := by
  intro L
  induction L using Nat.strongRecOn with
  | _ L ih =>
  intro ts hL lv a b es clock M D hne hA hw hts hS ha hb hab hM hok
  subst hL
  obtain ⟨wb, pv, cv, tv, rfl, hW, hp, hc, ht⟩ := id hw
  have hl1 := hS.len
  have hl2 := hp.len
  have h9 := hok9.len9
  have hall : ∀ t ∈ ts, t.length ≤ 9 ∧ ∀ x ∈ t, 0 ≤ x ∧ x ≤ 1 := fun t htm => truths_all hok9 t (by rw [hts] at htm; exact (List.mem_filter.1 htm).1)
  have htsl : ts.length ≤ 512 := by have := truths_length hok9; have := List.length_filter_le (agree a b) (truths r); rw [hts]; omega
  refine enterB 124 Try.func75 rfl rfl rfl rfl (fun h0 hmb => ?_)
  refine C.seq ?_
  refine C.region [(false,0),(false,1)] rfl ?_
  refine L.box rfl (e := 119) rfl rfl rfl trivial (fun q1 => ?_)
  refine L.assign rfl rfl rfl trivial ?_
  refine L.nil ?_
  refine C.next ?_
  refine C.seq ?_
  refine C.seq ?_
  refine C.draw [] 6 [0,1,2,3,4,5,6,7,8,9,10] [false,false,false,false,true,false,false,false,true,true,false] [(false,0),(false,1),(false,2),(false,3),(true,4),(false,5),(false,6),(false,7),(true,8),(true,9),(false,10)] Tf.follows (fun _ _ _ h => np_bodyB (P := Try.prog) (fn := Try.f75) _ _ _ h) (by kernel_rfl) rfl ?_
  refine L.move rfl rfl rfl trivial ?_
  refine L.nilCheck rfl rfl rfl trivial ?_
  refine L.fieldAddr rfl Tf.f116_3 rfl rfl trivial ?_
  refine L.loadD1 rfl (k := 3) Tf.a114 rfl hA (by first | simp | assumption) rfl List.not_mem_nil rfl trivial ?_
  refine L.loadBW rfl Tf.a119 rfl (List.Mem.head _) Tf.s119 List.not_mem_nil rfl trivial ?_
  refine L.lookup2 (a := ((a : Int), (b : Int))) rfl Try.underlying114 k2_119 Tf.z3 rfl rfl (List.Mem.tail _ (List.Mem.head _)) List.not_mem_nil hM rfl trivial (fun nv ok hmem => ?_)
  refine L.move rfl rfl rfl trivial ?_
  refine L.extract rfl rfl rfl rfl trivial ?_
  refine L.extract rfl rfl rfl rfl trivial ?_
  refine L.assign rfl rfl rfl trivial ?_
  refine L.assign rfl rfl rfl trivial ?_
  refine L.nil ?_
  refine C.next ?_
  refine C.seq ?_
  refine C.region [(false,0)] rfl ?_
  refine L.move rfl rfl rfl trivial ?_
  refine L.nil ?_
  refine C.next ?_
  refine C.cond rfl (fun hc1 => ?_) (fun hc1 => ?_)
  · subst hc1
    refine C.seq ?_
    refine C.region [(false,0),(false,1)] rfl ?_
    refine L.move rfl rfl rfl trivial ?_
    refine L.assign rfl rfl rfl trivial ?_
    refine L.nil ?_
    refine C.next ?_
    refine C.ret ?_
    refine C.thenRet ?_
    exact leaveB (o' := .map es clock) (vs := [_]) rfl rfl rfl ⟨rfl, trivial⟩ (List.Mem.tail _ (List.Mem.head _)) (fun D hD => ⟨by show Value.int _ _ = _; rw [mapOk_get hok hmem hts], es, clock, M, rfl, hM, hok⟩)
  · refine C.skip ?_
    refine C.next ?_
    refine C.seq ?_
    refine C.region [(false,0),(false,1),(false,2),(false,3),(false,4),(false,5),(false,6),(false,7),(false,8),(false,9),(false,10)] rfl ?_
    refine L.move rfl rfl rfl trivial ?_
    refine L.nilCheck rfl rfl rfl trivial ?_
    refine L.fieldAddr rfl Tf.f116_0 rfl rfl trivial ?_
    refine L.loadD1 rfl (k := 0) Tf.a95 rfl hA (by first | simp | assumption) rfl List.not_mem_nil rfl trivial ?_
    refine L.nilCheck rfl rfl rfl trivial ?_
    refine L.fieldAddr rfl Tf.f102_0 rfl rfl trivial ?_
    refine L.fieldAddr rfl Tf.f35_0 rfl rfl trivial ?_
    refine L.loadD1 rfl (k := 0) Tf.a22 rfl hW (by first | simp | assumption) rfl List.not_mem_nil rfl trivial ?_
    refine L.len rfl Try.underlying22 rfl (by assumption) rfl rfl trivial ?_
    refine L.add rfl rfl rfl (by simp only [inK]; omega) rfl trivial ?_
    refine L.assign rfl rfl rfl trivial ?_
    refine L.nil ?_
    refine C.next ?_
    refine C.seq ?_
    refine C.seq ?_
    refine C.drawS [] 4 [false,true,true,true,true,true,true,true,true,true,true,false] [.fork [0,1,2,3,4,5,6,7,8] 9 (.fin [10]) 10 (.fin [9]), .fin [11]] Tf.follows (fun _ _ _ h => np_bodyB (P := Try.prog) (fn := Try.f75) _ _ _ h) (by kernel_rfl) ?_
    refine S.cons ?_
    refine L.planFork [(false,0),(true,1),(true,2),(true,3),(true,4),(true,5),(true,6),(true,7),(true,8)] rfl ?_
    refine L.move rfl rfl rfl trivial ?_
    refine L.move rfl rfl rfl trivial ?_
    refine L.nilCheck rfl rfl rfl trivial ?_
    refine L.fieldAddr rfl Tf.f116_1 rfl rfl trivial ?_
    refine L.loadD1 rfl (k := 1) Tf.a3 rfl hA (by first | simp | assumption) rfl List.not_mem_nil rfl trivial ?_
    refine L.move rfl rfl rfl trivial ?_
    refine L.nilCheck rfl rfl rfl trivial ?_
    refine L.fieldAddr rfl Tf.f116_2 rfl rfl trivial ?_
    refine L.loadD1 rfl (k := 2) Tf.a3 rfl hA (by first | simp | assumption) rfl List.not_mem_nil rfl trivial ?_
    refine L.nil (L.forkP true true rfl rfl ?_ ?_)
    · refine L.callV rfl rfl rfl (fun D1 hD1 => bounds_ok _ ts i j _ (hS.up RT.up (hD1 _ (by simp))) hne hall hi0 hij hj9) rfl trivial ?_
      refine L.nil ?_
      refine L.planFin [(true,10)] rfl ?_
      refine L.alloc rfl Tf.z29 rfl rfl trivial (fun q2 => ?_)
      refine L.nil ?_
      refine S.fin [(false,11)] rfl ?_
      refine L.storeW rfl rfl rfl rfl Tf.s29 (by first | rfl | (simp only [ints_length, *]; done) | (simp only [ints_length, *]; rfl) | (simp only [ints_length, *]; omega)) (by first | rfl | (simp only [ints_length, *]; done) | (simp only [ints_length, *]; rfl) | (simp only [ints_length, *]; omega)) (Has.head) (by first | exact ints_cell1 _ | simp [cell1]) trivial ?_
      refine L.nil ?_
      refine S.nil ?_
      refine C.next ?_
      refine C.seq ?_
      refine C.region [(false,0),(false,1),(false,2),(false,3),(false,4)] rfl ?_
      refine L.fieldAddr rfl Tf.f29_0 rfl rfl trivial ?_
      refine L.loadB1 rfl Tf.a3 rfl (List.Mem.head _) rfl List.not_mem_nil rfl trivial ?_
      refine L.fieldAddr rfl Tf.f29_1 rfl rfl trivial ?_
      refine L.loadB1 rfl Tf.a3 rfl (List.Mem.head _) rfl List.not_mem_nil rfl trivial ?_
      refine L.eql rfl rfl rfl rfl trivial ?_
      refine L.nil ?_
      refine C.next ?_
      refine C.condD rfl (fun hc2 => ?_) (fun hc2 => ?_)
      · refine C.region [(false,0)] rfl ?_
        refine L.assign rfl rfl rfl trivial ?_
        refine L.nil ?_
        refine C.next ?_
        refine C.seq ?_
        refine C.seq ?_
        refine C.region [(false,0),(false,1),(false,2),(false,3),(false,4),(false,5),(false,6),(false,7),(false,8),(false,9)] rfl ?_
        refine L.move rfl rfl rfl trivial ?_
        refine L.nilCheck rfl rfl rfl trivial ?_
        refine L.fieldAddr rfl Tf.f116_0 rfl rfl trivial ?_
        refine L.loadD1 rfl (k := 0) Tf.a95 rfl hA (by first | simp | assumption) rfl List.not_mem_nil rfl trivial ?_
        refine L.nilCheck rfl rfl rfl trivial ?_
        refine L.fieldAddr rfl Tf.f102_0 rfl rfl trivial ?_
        refine L.fieldAddr rfl Tf.f35_0 rfl rfl trivial ?_
        refine L.loadD1 rfl (k := 0) Tf.a22 rfl hW (by first | simp | assumption) rfl List.not_mem_nil rfl trivial ?_
        refine L.len rfl Try.underlying22 rfl (by assumption) rfl rfl trivial ?_
        refine L.move rfl rfl rfl trivial ?_
        refine L.nil ?_
        refine C.next ?_
        refine C.block ?_
        refine C.loopR (γ := Nat × Array MapEntry × Nat × List ((Int × Int) × Int)) (fun g => r.places.length - g.1) (fun g => g.1 ≤ r.places.length ∧ MapIs g.2.1 g.2.2.2 ∧ MapOk (truths r) r.places.length i.toNat j.toNat g.2.2.2) (fun g => [(59, .int .i64 (g.1 : Int)), (9, .int .i64 0)]) [(58, _), (6, _), (5, _), (0, _), (1, _)] (fun g => [(q2, .cells [.int .i64 (loOf ts i.toNat j.toNat), .int .i64 (hiOf ts i.toNat j.toNat)].toArray 29 (0, 0)), (q1, .cells [.int .i64 (a : Int), .int .i64 (b : Int)].toArray 119 (0, 0)), (m, .map g.2.1 g.2.2.1)]) (fun g => [D]) (0, es, clock, M) ⟨by simp, hM, hok⟩ ⟨(by first | rfl | (show some (Value.int _ _) = some (Value.int _ _); congr 2; omega)), (by first | rfl | (show some (Value.int _ _) = some (Value.int _ _); congr 2; omega)), trivial⟩ ⟨rfl, rfl, rfl, rfl, rfl, trivial⟩ (List.Sublist.refl _) (ds_same) ?_
        rintro ⟨k, es1, cl1, M1⟩ ⟨h1, hM1, hok1⟩
        simp only at h1 hM1 hok1
        refine C.seq ?_
        refine C.region [(false,0)] rfl ?_
        refine L.lss rfl rfl rfl rfl trivial ?_
        refine L.nil ?_
        refine C.next ?_
        refine C.seq ?_
        refine C.condD rfl (fun hc3 => ?_) (fun hc3 => ?_)
        · have hk : k < r.places.length := by omega
          refine C.skip ?_
          refine C.next ?_
          refine C.seq ?_
          refine C.block ?_
          refine C.seq ?_
          refine C.region [(false,0),(false,1)] rfl ?_
          refine L.move rfl rfl rfl trivial ?_
          refine L.assign rfl rfl rfl trivial ?_
          refine L.nil ?_
          refine C.next ?_
          refine C.seq ?_
          refine C.region [(false,0),(false,1),(false,2),(false,3),(false,4)] rfl ?_
          refine L.move rfl rfl rfl trivial ?_
          refine L.move rfl rfl rfl trivial ?_
          refine L.call rfl rfl rfl (fun D2 hD2 => split_ok _ ts k _ (hS.up RT.up (hD2 _ (by simp))) (by omega) hall (by omega)) rfl trivial (fun v2 D2 hD2 hp2 => ?_)
          obtain ⟨v0, v1, rfl, hs0, hs1⟩ := hp2
          refine L.alloc rfl Tf.z111 rfl rfl trivial (fun q3 => ?_)
          refine L.storeW rfl rfl rfl rfl Tf.s111 (by first | rfl | (simp only [ints_length, *]; done) | (simp only [ints_length, *]; rfl) | (simp only [ints_length, *]; omega)) (by first | rfl | (simp only [ints_length, *]; done) | (simp only [ints_length, *]; rfl) | (simp only [ints_length, *]; omega)) (Has.head) (cell1_two hs0.cell1 hs1.cell1) trivial ?_
          refine L.nil ?_
          refine C.next ?_
          refine C.seq ?_
          refine C.seq ?_
          refine C.region [(false,0),(false,1),(false,2),(false,3),(false,4),(false,5),(false,6),(false,7),(false,8),(false,9),(false,10),(false,11),(false,12),(false,13)] rfl ?_
          refine L.move rfl rfl rfl trivial ?_
          refine L.eql rfl rfl rfl rfl trivial ?_
          refine L.move rfl rfl rfl trivial ?_
          refine' L.or [(false,3),(false,4),(false,5),(false,6),(false,7)] [(false,8),(false,9),(false,10),(false,11),(false,12),(false,13)] (s := 67) (p := 72) rfl rfl (fun hg1 => ?_) (fun hg1 => ?_) ?_
          rotate_left
          · refine L.indexB rfl Try.underlying111 Tf.s100 rfl rfl (by omega) (by omega) rfl ⟨_, rfl, rfl⟩ ?_
            refine L.loadB1 rfl Tf.a100 rfl (List.Mem.head _) rfl List.not_mem_nil rfl ⟨_, rfl, rfl⟩ ?_
            refine L.len rfl Try.underlying100 rfl hs0 rfl rfl ⟨_, rfl, rfl⟩ ?_
            refine L.eql rfl rfl rfl rfl ⟨_, rfl, rfl⟩ ?_
            refine L.pickF rfl rfl rfl rfl trivial ?_
            exact L.nil fun a w hh => hh.cutK 4 rfl
          · refine L.pass rfl rfl rfl ⟨_, _, rfl, rfl, rfl⟩ ?_
            refine L.pass rfl rfl rfl ⟨_, _, rfl, rfl, rfl⟩ ?_
            refine L.pass rfl rfl rfl ⟨_, _, rfl, rfl, rfl⟩ ?_
            refine L.pass rfl rfl rfl ⟨_, _, rfl, rfl, rfl⟩ ?_
            refine L.pickT rfl rfl rfl rfl trivial ?_
            exact L.nil fun a w hh => hh.cutK 4 rfl
          refine L.move rfl rfl rfl trivial ?_
          refine' L.or [(false,9),(false,10),(false,11),(false,12),(false,13)] [] (s := 73) (p := 78) rfl rfl (fun hg2 => ?_) (fun hg2 => ?_) ?_
          rotate_left
          · refine L.indexB rfl Try.underlying111 Tf.s100 rfl rfl (by omega) (by omega) rfl ⟨_, rfl, rfl⟩ ?_
            refine L.loadB1 rfl Tf.a100 rfl (List.Mem.head _) rfl List.not_mem_nil rfl ⟨_, rfl, rfl⟩ ?_
            refine L.len rfl Try.underlying100 rfl hs1 rfl rfl ⟨_, rfl, rfl⟩ ?_
            refine L.eql rfl rfl rfl rfl ⟨_, rfl, rfl⟩ ?_
            refine L.pickF rfl rfl rfl rfl trivial ?_
            exact L.nil fun a w hh => hh.cutK 4 rfl
          · refine L.pass rfl rfl rfl ⟨_, _, rfl, rfl, rfl⟩ ?_
            refine L.pass rfl rfl rfl ⟨_, _, rfl, rfl, rfl⟩ ?_
            refine L.pass rfl rfl rfl ⟨_, _, rfl, rfl, rfl⟩ ?_
            refine L.pass rfl rfl rfl ⟨_, _, rfl, rfl, rfl⟩ ?_
            refine L.pickT rfl rfl rfl rfl trivial ?_
            exact L.nil fun a w hh => hh.cutK 4 rfl
          refine L.nil ?_
          refine C.next ?_
          refine C.cond rfl (fun hc4 => ?_) (fun hc4 => ?_)
          · refine C.exit ?_
            refine C.thenExit ?_
            refine C.blockExit ?_
            refine C.next ?_
            refine C.region [(false,0),(false,1)] rfl ?_
            refine L.add rfl rfl rfl (by simp only [inK]; omega) rfl trivial ?_
            refine L.move rfl rfl rfl trivial ?_
            refine L.nil ?_
            exact C.againR 17 (k + 1, es1, cl1, M1) ⟨by simp only; omega, hM1, hok1⟩ (by simp only; omega) ⟨(by first | rfl | (show some (Value.int _ _) = some (Value.int _ _); congr 2; omega)), rfl, trivial⟩ rfl rfl (List.Sublist.cons _ (List.Sublist.refl _)) (fun D h => ⟨D, List.Mem.tail _ (h), Le.refl D⟩)
          · simp at hc4
        · obtain rfl : k = r.places.length := by omega
          refine C.exit ?_
          refine C.thenExit ?_
          refine C.thenExit ?_
          refine C.blockExit ?_
          refine C.next ?_
          refine C.seq ?_
          refine C.draw [] 3 [0,1,2,3,4,5,6] [false,false,false,false,true,true,false] [(false,0),(false,1),(false,2),(false,3),(true,4),(true,5),(false,6)] Tf.follows (fun _ _ _ h => np_bodyB (P := Try.prog) (fn := Try.f75) _ _ _ h) (by kernel_rfl) rfl ?_
          refine L.move rfl rfl rfl trivial ?_
          refine L.nilCheck rfl rfl rfl trivial ?_
          refine L.fieldAddr rfl Tf.f116_3 rfl rfl trivial ?_
          refine L.loadD1 rfl (k := 3) Tf.a114 rfl hA (by first | simp | assumption) rfl List.not_mem_nil rfl trivial ?_
          refine L.loadBW rfl Tf.a119 rfl (List.Mem.tail _ (List.Mem.head _)) Tf.s119 List.not_mem_nil rfl trivial ?_
          refine L.move rfl rfl rfl trivial ?_
          refine L.update2 (A := [(_, _), (_, _)]) (B := []) (a := ((a : Int), (b : Int))) rfl Try.underlying114 k2_119 rfl rfl rfl hM1 trivial (fun es3 cl3 M3 hM3 hm3 => ?_)
          refine L.nil ?_
          refine C.next ?_
          refine C.seq ?_
          refine C.region [(false,0),(false,1)] rfl ?_
          refine L.move rfl rfl rfl trivial ?_
          refine L.assign rfl rfl rfl trivial ?_
          refine L.nil ?_
          refine C.next ?_
          refine C.ret ?_
          exact leaveB (o' := .map es3 cl3) (vs := [_]) rfl rfl rfl ⟨rfl, trivial⟩ (by simp) (fun D hD => ⟨by show Value.int _ _ = _; rw [needN_eq (by omega), if_pos hc2], es3, cl3, M3, rfl, hM3, mapOk_put hok1 hm3 hts (by rw [needN_eq (by omega), if_pos hc2])⟩)
      · refine C.skip ?_
        refine C.next ?_
        refine C.seq ?_
        refine C.seq ?_
        refine C.region [(false,0),(false,1),(false,2),(false,3),(false,4),(false,5),(false,6),(false,7),(false,8),(false,9)] rfl ?_
        refine L.move rfl rfl rfl trivial ?_
        refine L.nilCheck rfl rfl rfl trivial ?_
        refine L.fieldAddr rfl Tf.f116_0 rfl rfl trivial ?_
        refine L.loadD1 rfl (k := 0) Tf.a95 rfl hA (by first | simp | assumption) rfl List.not_mem_nil rfl trivial ?_
        refine L.nilCheck rfl rfl rfl trivial ?_
        refine L.fieldAddr rfl Tf.f102_0 rfl rfl trivial ?_
        refine L.fieldAddr rfl Tf.f35_0 rfl rfl trivial ?_
        refine L.loadD1 rfl (k := 0) Tf.a22 rfl hW (by first | simp | assumption) rfl List.not_mem_nil rfl trivial ?_
        refine L.len rfl Try.underlying22 rfl (by assumption) rfl rfl trivial ?_
        refine L.move rfl rfl rfl trivial ?_
        refine L.nil ?_
        refine C.next ?_
        refine C.block ?_
        refine C.loopR (γ := Nat × Array MapEntry × Nat × List ((Int × Int) × Int)) (fun g => r.places.length - g.1) (fun g => g.1 ≤ r.places.length ∧ MapIs g.2.1 g.2.2.2 ∧ MapOk (truths r) r.places.length i.toNat j.toNat g.2.2.2) (fun g => [(59, .int .i64 (g.1 : Int)), (9, .int .i64 (bestK (needN r.places.length i.toNat j.toNat) ts r.places.length g.1))]) [(58, _), (6, _), (5, _), (0, _), (1, _)] (fun g => [(q2, .cells [.int .i64 (loOf ts i.toNat j.toNat), .int .i64 (hiOf ts i.toNat j.toNat)].toArray 29 (0, 0)), (q1, .cells [.int .i64 (a : Int), .int .i64 (b : Int)].toArray 119 (0, 0)), (m, .map g.2.1 g.2.2.1)]) (fun g => [D]) (0, es, clock, M) ⟨by simp, hM, hok⟩ ⟨(by first | rfl | (show some (Value.int _ _) = some (Value.int _ _); congr 2; omega)), (by first | rfl | (show some (Value.int _ _) = some (Value.int _ _); congr 2; omega)), trivial⟩ ⟨rfl, rfl, rfl, rfl, rfl, trivial⟩ (List.Sublist.refl _) (ds_same) ?_
        rintro ⟨k, es1, cl1, M1⟩ ⟨h1, hM1, hok1⟩
        simp only at h1 hM1 hok1
        refine C.seq ?_
        refine C.region [(false,0)] rfl ?_
        refine L.lss rfl rfl rfl rfl trivial ?_
        refine L.nil ?_
        refine C.next ?_
        refine C.seq ?_
        refine C.condD rfl (fun hc5 => ?_) (fun hc5 => ?_)
        · have hk : k < r.places.length := by omega
          have hbb := bestK_bound (nd := needN r.places.length i.toNat j.toNat) (fun l => (needF_bound _ _ _ _ l).1) ts r.places.length k
          refine C.skip ?_
          refine C.next ?_
          refine C.seq ?_
          refine C.block ?_
          refine C.seq ?_
          refine C.region [(false,0),(false,1)] rfl ?_
          refine L.move rfl rfl rfl trivial ?_
          refine L.assign rfl rfl rfl trivial ?_
          refine L.nil ?_
          refine C.next ?_
          refine C.seq ?_
          refine C.region [(false,0),(false,1),(false,2),(false,3),(false,4)] rfl ?_
          refine L.move rfl rfl rfl trivial ?_
          refine L.move rfl rfl rfl trivial ?_
          refine L.call rfl rfl rfl (fun D3 hD3 => split_ok _ ts k _ (hS.up RT.up (hD3 _ (by simp))) (by omega) hall (by omega)) rfl trivial (fun v3 D3 hD3 hp3 => ?_)
          obtain ⟨v0, v1, rfl, hs0, hs1⟩ := hp3
          refine L.alloc rfl Tf.z111 rfl rfl trivial (fun q4 => ?_)
          refine L.storeW rfl rfl rfl rfl Tf.s111 (by first | rfl | (simp only [ints_length, *]; done) | (simp only [ints_length, *]; rfl) | (simp only [ints_length, *]; omega)) (by first | rfl | (simp only [ints_length, *]; done) | (simp only [ints_length, *]; rfl) | (simp only [ints_length, *]; omega)) (Has.head) (cell1_two hs0.cell1 hs1.cell1) trivial ?_
          refine L.nil ?_
          refine C.next ?_
          refine C.seq ?_
          refine C.seq ?_
          refine C.region [(false,0),(false,1),(false,2),(false,3),(false,4),(false,5),(false,6),(false,7),(false,8),(false,9),(false,10),(false,11),(false,12),(false,13)] rfl ?_
          refine L.move rfl rfl rfl trivial ?_
          refine L.eql rfl rfl rfl rfl trivial ?_
          refine L.move rfl rfl rfl trivial ?_
          refine' L.or [(false,3),(false,4),(false,5),(false,6),(false,7)] [(false,8),(false,9),(false,10),(false,11),(false,12),(false,13)] (s := 67) (p := 72) rfl rfl (fun hg3 => ?_) (fun hg3 => ?_) ?_
          rotate_left
          · refine L.indexB rfl Try.underlying111 Tf.s100 rfl rfl (by omega) (by omega) rfl ⟨_, rfl, rfl⟩ ?_
            refine L.loadB1 rfl Tf.a100 rfl (List.Mem.head _) rfl List.not_mem_nil rfl ⟨_, rfl, rfl⟩ ?_
            refine L.len rfl Try.underlying100 rfl hs0 rfl rfl ⟨_, rfl, rfl⟩ ?_
            refine L.eql rfl rfl rfl rfl ⟨_, rfl, rfl⟩ ?_
            refine L.pickF rfl rfl rfl rfl trivial ?_
            exact L.nil fun a w hh => hh.cutK 4 rfl
          · refine L.pass rfl rfl rfl ⟨_, _, rfl, rfl, rfl⟩ ?_
            refine L.pass rfl rfl rfl ⟨_, _, rfl, rfl, rfl⟩ ?_
            refine L.pass rfl rfl rfl ⟨_, _, rfl, rfl, rfl⟩ ?_
            refine L.pass rfl rfl rfl ⟨_, _, rfl, rfl, rfl⟩ ?_
            refine L.pickT rfl rfl rfl rfl trivial ?_
            exact L.nil fun a w hh => hh.cutK 4 rfl
          refine L.move rfl rfl rfl trivial ?_
          refine' L.or [(false,9),(false,10),(false,11),(false,12),(false,13)] [] (s := 73) (p := 78) rfl rfl (fun hg4 => ?_) (fun hg4 => ?_) ?_
          rotate_left
          · refine L.indexB rfl Try.underlying111 Tf.s100 rfl rfl (by omega) (by omega) rfl ⟨_, rfl, rfl⟩ ?_
            refine L.loadB1 rfl Tf.a100 rfl (List.Mem.head _) rfl List.not_mem_nil rfl ⟨_, rfl, rfl⟩ ?_
            refine L.len rfl Try.underlying100 rfl hs1 rfl rfl ⟨_, rfl, rfl⟩ ?_
            refine L.eql rfl rfl rfl rfl ⟨_, rfl, rfl⟩ ?_
            refine L.pickF rfl rfl rfl rfl trivial ?_
            exact L.nil fun a w hh => hh.cutK 4 rfl
          · refine L.pass rfl rfl rfl ⟨_, _, rfl, rfl, rfl⟩ ?_
            refine L.pass rfl rfl rfl ⟨_, _, rfl, rfl, rfl⟩ ?_
            refine L.pass rfl rfl rfl ⟨_, _, rfl, rfl, rfl⟩ ?_
            refine L.pass rfl rfl rfl ⟨_, _, rfl, rfl, rfl⟩ ?_
            refine L.pickT rfl rfl rfl rfl trivial ?_
            exact L.nil fun a w hh => hh.cutK 4 rfl
          refine L.nil ?_
          refine C.next ?_
          refine C.cond rfl (fun hc6 => ?_) (fun hc6 => ?_)
          · have hsk := need_skip hbb.1 hc6
            refine C.exit ?_
            refine C.thenExit ?_
            refine C.blockExit ?_
            refine C.next ?_
            refine C.region [(false,0),(false,1)] rfl ?_
            refine L.add rfl rfl rfl (by simp only [inK]; omega) rfl trivial ?_
            refine L.move rfl rfl rfl trivial ?_
            refine L.nil ?_
            exact C.againR 17 (k + 1, es1, cl1, M1) ⟨by simp only; omega, hM1, hok1⟩ (by simp only; omega) ⟨(by first | rfl | (show some (Value.int _ _) = some (Value.int _ _); congr 2; omega)), (by rw [bestK_skip hsk]; rfl), trivial⟩ rfl rfl (List.Sublist.cons _ (List.Sublist.refl _)) (fun D h => ⟨D, List.Mem.tail _ (h), Le.refl D⟩)
          · obtain ⟨h0s, h1s⟩ := need_go hc6
            have hlt := seenT_lt h0s h1s
            have hag := agree_split (T := truths r) (a := a) (b := b) (p := k) (by omega) hab (by rw [← hts]; exact h0s) (by rw [← hts]; exact h1s)
            rw [← hts] at hag
            have h2k : 2 ^ k < 512 := Nat.pow_lt_pow_right (a := 2) (n := 9) (by omega) (by omega)
            have hn0 := needF_bound r.places.length i.toNat j.toNat 600 (seenT ts k 0)
            have hn1 := needF_bound r.places.length i.toNat j.toNat 600 (seenT ts k 1)
            have hn0e : needN r.places.length i.toNat j.toNat (seenT ts k 0) = needF r.places.length i.toNat j.toNat 600 (seenT ts k 0) := rfl
            have hn1e : needN r.places.length i.toNat j.toNat (seenT ts k 1) = needF r.places.length i.toNat j.toNat 600 (seenT ts k 1) := rfl
            refine C.skip ?_
            refine C.next ?_
            refine C.seq ?_
            refine C.draw [] 4 [0,1,2,3,4,5,6,7,8,9,10,11,12] [false,true,true,true,true,true,true,true,true,true,true,false,false] [(false,0),(true,1),(true,2),(true,3),(true,4),(true,5),(true,6),(true,7),(true,8),(true,9),(true,10),(false,11),(false,12)] Tf.follows (fun _ _ _ h => np_bodyB (P := Try.prog) (fn := Try.f75) _ _ _ h) (by kernel_rfl) rfl ?_
            refine L.move rfl rfl rfl trivial ?_
            refine L.indexB rfl Try.underlying111 Tf.s100 rfl rfl (by omega) (by omega) rfl trivial ?_
            refine L.loadB1 rfl Tf.a100 rfl (List.Mem.head _) rfl List.not_mem_nil rfl trivial ?_
            refine L.fieldAddr rfl Tf.f119_0 rfl rfl trivial ?_
            refine L.loadB1 rfl Tf.a3 rfl (List.Mem.tail _ (List.Mem.tail _ (List.Mem.head _))) rfl List.not_mem_nil rfl trivial ?_
            refine L.move rfl rfl rfl trivial ?_
            refine L.shl1 rfl rfl rfl (by omega) rfl trivial ?_
            refine L.orN rfl rfl rfl (by first | exact Nat.lt_trans ha (by decide) | exact Nat.lt_trans hb (by decide)) (Nat.lt_trans h2k (by decide)) rfl trivial ?_
            refine L.fieldAddr rfl Tf.f119_1 rfl rfl trivial ?_
            refine L.loadB1 rfl Tf.a3 rfl (List.Mem.tail _ (List.Mem.tail _ (List.Mem.head _))) rfl List.not_mem_nil rfl trivial ?_
            refine L.build (cs := [.int .i64 ((a ||| 2 ^ k : Nat) : Int), .int .i64 (b : Int)]) rfl Tf.p119 Tf.z119 rfl rfl rfl trivial ?_
            refine L.callB (A := [(_, _), (_, _), (_, _)]) (B := []) rfl rfl rfl rfl (Or.inl rfl) (show unfrozen (.map _ _) from trivial) (fun D5 hD5 => ih _ hlt.1 _ rfl v0 (a ||| 2 ^ k) b es1 cl1 M1 D5 h0s (hA.up (hD5 _ (by simp))) (hw.up (hD5 _ (by simp))) hag.2.1 (hs0.up RT.up (hD5 _ (by simp))) (or_lt ha h2k) hb (or_sub hab) hM1 hok1) rfl trivial (fun _ D6 _ hD6 hp6 => ?_)
            obtain ⟨rfl, es4, cl4, M4, rfl, hM4, hok4⟩ := hp6
            refine L.assign rfl rfl rfl trivial ?_
            refine L.nil ?_
            refine C.next ?_
            refine C.seq ?_
            refine C.region [(false,0),(false,1),(false,2),(false,3)] rfl ?_
            refine L.move rfl rfl rfl trivial ?_
            refine L.add rfl rfl rfl (by simp only [inK]; omega) rfl trivial ?_
            refine L.move rfl rfl rfl trivial ?_
            refine L.lss rfl rfl rfl rfl trivial ?_
            refine L.nil ?_
            refine C.next ?_
            refine C.condD rfl (fun hc7 => ?_) (fun hc7 => ?_)
            · refine C.nd (fun hnd => ?_)
              simp only [List.cons_append, List.nil_append, List.map_cons, List.map_nil, List.nodup_cons, List.mem_cons, List.not_mem_nil, or_false, not_or] at hnd
              have hq4 : q4 ∉ [m] := by simpa using hnd.1.2.2
              have hq1 : q1 ∉ [m] := by simpa using hnd.2.2.1
              refine C.draw [m] 7 [0,1,2,3,4,5,6,7,8,9,10,11,12,13,14,15,16,17,18,19,20,21] [false,true,true,true,true,true,true,true,true,true,true,true,true,true,true,true,true,true,true,false,false,false] [(false,0),(true,1),(true,2),(true,3),(true,4),(true,5),(true,6),(true,7),(true,8),(true,9),(true,10),(true,11),(true,12),(true,13),(true,14),(true,15),(true,16),(true,17),(true,18),(false,19),(false,20),(false,21)] Tf.follows (fun _ _ _ h => np_bodyB (P := Try.prog) (fn := Try.f75) _ _ _ h) (by kernel_rfl) rfl ?_
              refine L.move rfl rfl rfl trivial ?_
              refine L.move rfl rfl rfl trivial ?_
              refine L.move rfl rfl rfl trivial ?_
              refine L.indexB rfl Try.underlying111 Tf.s100 rfl rfl (by omega) (by omega) rfl trivial ?_
              refine L.loadB1 rfl Tf.a100 rfl (List.Mem.head _) rfl (by first | assumption | simp) rfl trivial ?_
              refine L.fieldAddr rfl Tf.f119_0 rfl rfl trivial ?_
              refine L.loadB1 rfl Tf.a3 rfl (List.Mem.tail _ (List.Mem.tail _ (List.Mem.head _))) rfl (by first | assumption | simp) rfl trivial ?_
              refine L.move rfl rfl rfl trivial ?_
              refine L.shl1 rfl rfl rfl (by omega) rfl trivial ?_
              refine L.orN rfl rfl rfl (by first | exact Nat.lt_trans ha (by decide) | exact Nat.lt_trans hb (by decide)) (Nat.lt_trans h2k (by decide)) rfl trivial ?_
              refine L.fieldAddr rfl Tf.f119_1 rfl rfl trivial ?_
              refine L.loadB1 rfl Tf.a3 rfl (List.Mem.tail _ (List.Mem.tail _ (List.Mem.head _))) rfl (by first | assumption | simp) rfl trivial ?_
              refine L.move rfl rfl rfl trivial ?_
              refine L.shl1 rfl rfl rfl (by omega) rfl trivial ?_
              refine L.orN rfl rfl rfl (by first | exact Nat.lt_trans ha (by decide) | exact Nat.lt_trans hb (by decide)) (Nat.lt_trans h2k (by decide)) rfl trivial ?_
              refine L.build (cs := [.int .i64 ((a ||| 2 ^ k : Nat) : Int), .int .i64 ((b ||| 2 ^ k : Nat) : Int)]) rfl Tf.p119 Tf.z119 rfl rfl rfl trivial ?_
              refine L.callB (A := [(_, _), (_, _), (_, _)]) (B := []) rfl rfl rfl rfl (Or.inr List.mem_cons_self) (show unfrozen (.map _ _) from trivial) (fun D5 hD5 => ih _ hlt.2 _ rfl v1 (a ||| 2 ^ k) (b ||| 2 ^ k) es4 cl4 M4 D5 h1s (hA.up (hD5 _ (by simp))) (hw.up (hD5 _ (by simp))) hag.2.2 (hs1.up RT.up (hD5 _ (by simp))) (or_lt ha h2k) (or_lt hb h2k) (or_sub2 hab) hM4 hok4) rfl trivial (fun _ D7 _ hD7 hp7 => ?_)
              obtain ⟨rfl, es5, cl5, M5, rfl, hM5, hok5⟩ := hp7
              refine L.max2 rfl rfl rfl rfl trivial ?_
              refine L.add rfl rfl rfl (by simp only [inK]; omega) rfl trivial ?_
              refine L.buildSlice rfl Try.underlying22 Tf.s3 Tf.z3 rfl rfl rfl rfl (.cons rfl rfl (.cons rfl rfl .nil)) rfl trivial (fun b901 D901 hD901 hA901 => ?_)
              have hS901 := Sl.ofInts (l := [_, _]) (n := 2) (cap := 2) hA901 rfl (by omega) (by omega)
              refine L.callV rfl rfl rfl (fun D4 hD4 => minimum_ok _ _ [_] _ (hS901.up RI.up (hD4 _ (by simp)))) rfl trivial ?_
              refine L.assign rfl rfl rfl trivial ?_
              refine L.nil ?_
              refine C.blockEnd ?_
              refine C.next ?_
              refine C.region [(false,0),(false,1)] rfl ?_
              refine L.add rfl rfl rfl (by simp only [inK]; omega) rfl trivial ?_
              refine L.move rfl rfl rfl trivial ?_
              refine L.nil ?_
              exact C.againR 56 (k + 1, es5, cl5, M5) ⟨by simp only; omega, hM5, hok5⟩ (by simp only; omega) ⟨(by first | rfl | (show some (Value.int _ _) = some (Value.int _ _); congr 2; omega)), (by rw [bestK_yes h0s h1s hc7]; rfl), trivial⟩ rfl rfl (List.Sublist.cons _ (List.Sublist.refl _)) (fun D h => ⟨D, List.Mem.tail _ (List.Mem.tail _ (List.Mem.tail _ (List.Mem.tail _ (h)))), Le.refl D⟩)
            · refine C.skip ?_
              refine C.blockEnd ?_
              refine C.next ?_
              refine C.region [(false,0),(false,1)] rfl ?_
              refine L.add rfl rfl rfl (by simp only [inK]; omega) rfl trivial ?_
              refine L.move rfl rfl rfl trivial ?_
              refine L.nil ?_
              exact C.againR 34 (k + 1, es4, cl4, M4) ⟨by simp only; omega, hM4, hok4⟩ (by simp only; omega) ⟨(by first | rfl | (show some (Value.int _ _) = some (Value.int _ _); congr 2; omega)), (by rw [bestK_no h0s h1s hc7]; rfl), trivial⟩ rfl rfl (List.Sublist.cons _ (List.Sublist.refl _)) (fun D h => ⟨D, List.Mem.tail _ (List.Mem.tail _ (h)), Le.refl D⟩)
        · obtain rfl : k = r.places.length := by omega
          refine C.exit ?_
          refine C.thenExit ?_
          refine C.thenExit ?_
          refine C.blockExit ?_
          refine C.next ?_
          refine C.seq ?_
          refine C.draw [] 3 [0,1,2,3,4,5,6] [false,false,false,false,true,true,false] [(false,0),(false,1),(false,2),(false,3),(true,4),(true,5),(false,6)] Tf.follows (fun _ _ _ h => np_bodyB (P := Try.prog) (fn := Try.f75) _ _ _ h) (by kernel_rfl) rfl ?_
          refine L.move rfl rfl rfl trivial ?_
          refine L.nilCheck rfl rfl rfl trivial ?_
          refine L.fieldAddr rfl Tf.f116_3 rfl rfl trivial ?_
          refine L.loadD1 rfl (k := 3) Tf.a114 rfl hA (by first | simp | assumption) rfl List.not_mem_nil rfl trivial ?_
          refine L.loadBW rfl Tf.a119 rfl (List.Mem.tail _ (List.Mem.head _)) Tf.s119 List.not_mem_nil rfl trivial ?_
          refine L.move rfl rfl rfl trivial ?_
          refine L.update2 (A := [(_, _), (_, _)]) (B := []) (a := ((a : Int), (b : Int))) rfl Try.underlying114 k2_119 rfl rfl rfl hM1 trivial (fun es3 cl3 M3 hM3 hm3 => ?_)
          refine L.nil ?_
          refine C.next ?_
          refine C.seq ?_
          refine C.region [(false,0),(false,1)] rfl ?_
          refine L.move rfl rfl rfl trivial ?_
          refine L.assign rfl rfl rfl trivial ?_
          refine L.nil ?_
          refine C.next ?_
          refine C.ret ?_
          exact leaveB (o' := .map es3 cl3) (vs := [_]) rfl rfl rfl ⟨rfl, trivial⟩ (by simp) (fun D hD => ⟨by show Value.int _ _ = _; rw [needN_eq (by omega), if_neg hc2], es3, cl3, M3, rfl, hM3, mapOk_put hok1 hm3 hts (by rw [needN_eq (by omega), if_neg hc2])⟩)
    · refine L.alloc rfl Tf.z29 rfl rfl trivial (fun q2 => ?_)
      refine L.nil ?_
      refine L.planFin [(true,9)] rfl ?_
      refine L.callV rfl rfl rfl (fun D1 hD1 => bounds_ok _ ts i j _ (hS.up RT.up (hD1 _ (by simp))) hne hall hi0 hij hj9) rfl trivial ?_
      refine L.nil ?_
      refine S.fin [(false,11)] rfl ?_
      refine L.storeW rfl rfl rfl rfl Tf.s29 (by first | rfl | (simp only [ints_length, *]; done) | (simp only [ints_length, *]; rfl) | (simp only [ints_length, *]; omega)) (by first | rfl | (simp only [ints_length, *]; done) | (simp only [ints_length, *]; rfl) | (simp only [ints_length, *]; omega)) (Has.head) (by first | exact ints_cell1 _ | simp [cell1]) trivial ?_
      refine L.nil ?_
      refine S.nil ?_
      refine C.next ?_
      refine C.seq ?_
      refine C.region [(false,0),(false,1),(false,2),(false,3),(false,4)] rfl ?_
      refine L.fieldAddr rfl Tf.f29_0 rfl rfl trivial ?_
      refine L.loadB1 rfl Tf.a3 rfl (List.Mem.head _) rfl List.not_mem_nil rfl trivial ?_
      refine L.fieldAddr rfl Tf.f29_1 rfl rfl trivial ?_
      refine L.loadB1 rfl Tf.a3 rfl (List.Mem.head _) rfl List.not_mem_nil rfl trivial ?_
      refine L.eql rfl rfl rfl rfl trivial ?_
      refine L.nil ?_
      refine C.next ?_
      refine C.condD rfl (fun hc2 => ?_) (fun hc2 => ?_)
      · refine C.region [(false,0)] rfl ?_
        refine L.assign rfl rfl rfl trivial ?_
        refine L.nil ?_
        refine C.next ?_
        refine C.seq ?_
        refine C.seq ?_
        refine C.region [(false,0),(false,1),(false,2),(false,3),(false,4),(false,5),(false,6),(false,7),(false,8),(false,9)] rfl ?_
        refine L.move rfl rfl rfl trivial ?_
        refine L.nilCheck rfl rfl rfl trivial ?_
        refine L.fieldAddr rfl Tf.f116_0 rfl rfl trivial ?_
        refine L.loadD1 rfl (k := 0) Tf.a95 rfl hA (by first | simp | assumption) rfl List.not_mem_nil rfl trivial ?_
        refine L.nilCheck rfl rfl rfl trivial ?_
        refine L.fieldAddr rfl Tf.f102_0 rfl rfl trivial ?_
        refine L.fieldAddr rfl Tf.f35_0 rfl rfl trivial ?_
        refine L.loadD1 rfl (k := 0) Tf.a22 rfl hW (by first | simp | assumption) rfl List.not_mem_nil rfl trivial ?_
        refine L.len rfl Try.underlying22 rfl (by assumption) rfl rfl trivial ?_
        refine L.move rfl rfl rfl trivial ?_
        refine L.nil ?_
        refine C.next ?_
        refine C.block ?_
        refine C.loopR (γ := Nat × Array MapEntry × Nat × List ((Int × Int) × Int)) (fun g => r.places.length - g.1) (fun g => g.1 ≤ r.places.length ∧ MapIs g.2.1 g.2.2.2 ∧ MapOk (truths r) r.places.length i.toNat j.toNat g.2.2.2) (fun g => [(59, .int .i64 (g.1 : Int)), (9, .int .i64 0)]) [(58, _), (6, _), (5, _), (0, _), (1, _)] (fun g => [(q2, .cells [.int .i64 (loOf ts i.toNat j.toNat), .int .i64 (hiOf ts i.toNat j.toNat)].toArray 29 (0, 0)), (q1, .cells [.int .i64 (a : Int), .int .i64 (b : Int)].toArray 119 (0, 0)), (m, .map g.2.1 g.2.2.1)]) (fun g => [D]) (0, es, clock, M) ⟨by simp, hM, hok⟩ ⟨(by first | rfl | (show some (Value.int _ _) = some (Value.int _ _); congr 2; omega)), (by first | rfl | (show some (Value.int _ _) = some (Value.int _ _); congr 2; omega)), trivial⟩ ⟨rfl, rfl, rfl, rfl, rfl, trivial⟩ (List.Sublist.refl _) (ds_same) ?_
        rintro ⟨k, es1, cl1, M1⟩ ⟨h1, hM1, hok1⟩
        simp only at h1 hM1 hok1
        refine C.seq ?_
        refine C.region [(false,0)] rfl ?_
        refine L.lss rfl rfl rfl rfl trivial ?_
        refine L.nil ?_
        refine C.next ?_
        refine C.seq ?_
        refine C.condD rfl (fun hc3 => ?_) (fun hc3 => ?_)
        · have hk : k < r.places.length := by omega
          refine C.skip ?_
          refine C.next ?_
          refine C.seq ?_
          refine C.block ?_
          refine C.seq ?_
          refine C.region [(false,0),(false,1)] rfl ?_
          refine L.move rfl rfl rfl trivial ?_
          refine L.assign rfl rfl rfl trivial ?_
          refine L.nil ?_
          refine C.next ?_
          refine C.seq ?_
          refine C.region [(false,0),(false,1),(false,2),(false,3),(false,4)] rfl ?_
          refine L.move rfl rfl rfl trivial ?_
          refine L.move rfl rfl rfl trivial ?_
          refine L.call rfl rfl rfl (fun D2 hD2 => split_ok _ ts k _ (hS.up RT.up (hD2 _ (by simp))) (by omega) hall (by omega)) rfl trivial (fun v2 D2 hD2 hp2 => ?_)
          obtain ⟨v0, v1, rfl, hs0, hs1⟩ := hp2
          refine L.alloc rfl Tf.z111 rfl rfl trivial (fun q3 => ?_)
          refine L.storeW rfl rfl rfl rfl Tf.s111 (by first | rfl | (simp only [ints_length, *]; done) | (simp only [ints_length, *]; rfl) | (simp only [ints_length, *]; omega)) (by first | rfl | (simp only [ints_length, *]; done) | (simp only [ints_length, *]; rfl) | (simp only [ints_length, *]; omega)) (Has.head) (cell1_two hs0.cell1 hs1.cell1) trivial ?_
          refine L.nil ?_
          refine C.next ?_
          refine C.seq ?_
          refine C.seq ?_
          refine C.region [(false,0),(false,1),(false,2),(false,3),(false,4),(false,5),(false,6),(false,7),(false,8),(false,9),(false,10),(false,11),(false,12),(false,13)] rfl ?_
          refine L.move rfl rfl rfl trivial ?_
          refine L.eql rfl rfl rfl rfl trivial ?_
          refine L.move rfl rfl rfl trivial ?_
          refine' L.or [(false,3),(false,4),(false,5),(false,6),(false,7)] [(false,8),(false,9),(false,10),(false,11),(false,12),(false,13)] (s := 67) (p := 72) rfl rfl (fun hg1 => ?_) (fun hg1 => ?_) ?_
          rotate_left
          · refine L.indexB rfl Try.underlying111 Tf.s100 rfl rfl (by omega) (by omega) rfl ⟨_, rfl, rfl⟩ ?_
            refine L.loadB1 rfl Tf.a100 rfl (List.Mem.head _) rfl List.not_mem_nil rfl ⟨_, rfl, rfl⟩ ?_
            refine L.len rfl Try.underlying100 rfl hs0 rfl rfl ⟨_, rfl, rfl⟩ ?_
            refine L.eql rfl rfl rfl rfl ⟨_, rfl, rfl⟩ ?_
            refine L.pickF rfl rfl rfl rfl trivial ?_
            exact L.nil fun a w hh => hh.cutK 4 rfl
          · refine L.pass rfl rfl rfl ⟨_, _, rfl, rfl, rfl⟩ ?_
            refine L.pass rfl rfl rfl ⟨_, _, rfl, rfl, rfl⟩ ?_
            refine L.pass rfl rfl rfl ⟨_, _, rfl, rfl, rfl⟩ ?_
            refine L.pass rfl rfl rfl ⟨_, _, rfl, rfl, rfl⟩ ?_
            refine L.pickT rfl rfl rfl rfl trivial ?_
            exact L.nil fun a w hh => hh.cutK 4 rfl
          refine L.move rfl rfl rfl trivial ?_
          refine' L.or [(false,9),(false,10),(false,11),(false,12),(false,13)] [] (s := 73) (p := 78) rfl rfl (fun hg2 => ?_) (fun hg2 => ?_) ?_
          rotate_left
          · refine L.indexB rfl Try.underlying111 Tf.s100 rfl rfl (by omega) (by omega) rfl ⟨_, rfl, rfl⟩ ?_
            refine L.loadB1 rfl Tf.a100 rfl (List.Mem.head _) rfl List.not_mem_nil rfl ⟨_, rfl, rfl⟩ ?_
            refine L.len rfl Try.underlying100 rfl hs1 rfl rfl ⟨_, rfl, rfl⟩ ?_
            refine L.eql rfl rfl rfl rfl ⟨_, rfl, rfl⟩ ?_
            refine L.pickF rfl rfl rfl rfl trivial ?_
            exact L.nil fun a w hh => hh.cutK 4 rfl
          · refine L.pass rfl rfl rfl ⟨_, _, rfl, rfl, rfl⟩ ?_
            refine L.pass rfl rfl rfl ⟨_, _, rfl, rfl, rfl⟩ ?_
            refine L.pass rfl rfl rfl ⟨_, _, rfl, rfl, rfl⟩ ?_
            refine L.pass rfl rfl rfl ⟨_, _, rfl, rfl, rfl⟩ ?_
            refine L.pickT rfl rfl rfl rfl trivial ?_
            exact L.nil fun a w hh => hh.cutK 4 rfl
          refine L.nil ?_
          refine C.next ?_
          refine C.cond rfl (fun hc4 => ?_) (fun hc4 => ?_)
          · refine C.exit ?_
            refine C.thenExit ?_
            refine C.blockExit ?_
            refine C.next ?_
            refine C.region [(false,0),(false,1)] rfl ?_
            refine L.add rfl rfl rfl (by simp only [inK]; omega) rfl trivial ?_
            refine L.move rfl rfl rfl trivial ?_
            refine L.nil ?_
            exact C.againR 17 (k + 1, es1, cl1, M1) ⟨by simp only; omega, hM1, hok1⟩ (by simp only; omega) ⟨(by first | rfl | (show some (Value.int _ _) = some (Value.int _ _); congr 2; omega)), rfl, trivial⟩ rfl rfl (List.Sublist.cons _ (List.Sublist.refl _)) (fun D h => ⟨D, List.Mem.tail _ (h), Le.refl D⟩)
          · simp at hc4
        · obtain rfl : k = r.places.length := by omega
          refine C.exit ?_
          refine C.thenExit ?_
          refine C.thenExit ?_
          refine C.blockExit ?_
          refine C.next ?_
          refine C.seq ?_
          refine C.draw [] 3 [0,1,2,3,4,5,6] [false,false,false,false,true,true,false] [(false,0),(false,1),(false,2),(false,3),(true,4),(true,5),(false,6)] Tf.follows (fun _ _ _ h => np_bodyB (P := Try.prog) (fn := Try.f75) _ _ _ h) (by kernel_rfl) rfl ?_
          refine L.move rfl rfl rfl trivial ?_
          refine L.nilCheck rfl rfl rfl trivial ?_
          refine L.fieldAddr rfl Tf.f116_3 rfl rfl trivial ?_
          refine L.loadD1 rfl (k := 3) Tf.a114 rfl hA (by first | simp | assumption) rfl List.not_mem_nil rfl trivial ?_
          refine L.loadBW rfl Tf.a119 rfl (List.Mem.tail _ (List.Mem.head _)) Tf.s119 List.not_mem_nil rfl trivial ?_
          refine L.move rfl rfl rfl trivial ?_
          refine L.update2 (A := [(_, _), (_, _)]) (B := []) (a := ((a : Int), (b : Int))) rfl Try.underlying114 k2_119 rfl rfl rfl hM1 trivial (fun es3 cl3 M3 hM3 hm3 => ?_)
          refine L.nil ?_
          refine C.next ?_
          refine C.seq ?_
          refine C.region [(false,0),(false,1)] rfl ?_
          refine L.move rfl rfl rfl trivial ?_
          refine L.assign rfl rfl rfl trivial ?_
          refine L.nil ?_
          refine C.next ?_
          refine C.ret ?_
          exact leaveB (o' := .map es3 cl3) (vs := [_]) rfl rfl rfl ⟨rfl, trivial⟩ (by simp) (fun D hD => ⟨by show Value.int _ _ = _; rw [needN_eq (by omega), if_pos hc2], es3, cl3, M3, rfl, hM3, mapOk_put hok1 hm3 hts (by rw [needN_eq (by omega), if_pos hc2])⟩)
      · refine C.skip ?_
        refine C.next ?_
        refine C.seq ?_
        refine C.seq ?_
        refine C.region [(false,0),(false,1),(false,2),(false,3),(false,4),(false,5),(false,6),(false,7),(false,8),(false,9)] rfl ?_
        refine L.move rfl rfl rfl trivial ?_
        refine L.nilCheck rfl rfl rfl trivial ?_
        refine L.fieldAddr rfl Tf.f116_0 rfl rfl trivial ?_
        refine L.loadD1 rfl (k := 0) Tf.a95 rfl hA (by first | simp | assumption) rfl List.not_mem_nil rfl trivial ?_
        refine L.nilCheck rfl rfl rfl trivial ?_
        refine L.fieldAddr rfl Tf.f102_0 rfl rfl trivial ?_
        refine L.fieldAddr rfl Tf.f35_0 rfl rfl trivial ?_
        refine L.loadD1 rfl (k := 0) Tf.a22 rfl hW (by first | simp | assumption) rfl List.not_mem_nil rfl trivial ?_
        refine L.len rfl Try.underlying22 rfl (by assumption) rfl rfl trivial ?_
        refine L.move rfl rfl rfl trivial ?_
        refine L.nil ?_
        refine C.next ?_
        refine C.block ?_
        refine C.loopR (γ := Nat × Array MapEntry × Nat × List ((Int × Int) × Int)) (fun g => r.places.length - g.1) (fun g => g.1 ≤ r.places.length ∧ MapIs g.2.1 g.2.2.2 ∧ MapOk (truths r) r.places.length i.toNat j.toNat g.2.2.2) (fun g => [(59, .int .i64 (g.1 : Int)), (9, .int .i64 (bestK (needN r.places.length i.toNat j.toNat) ts r.places.length g.1))]) [(58, _), (6, _), (5, _), (0, _), (1, _)] (fun g => [(q2, .cells [.int .i64 (loOf ts i.toNat j.toNat), .int .i64 (hiOf ts i.toNat j.toNat)].toArray 29 (0, 0)), (q1, .cells [.int .i64 (a : Int), .int .i64 (b : Int)].toArray 119 (0, 0)), (m, .map g.2.1 g.2.2.1)]) (fun g => [D]) (0, es, clock, M) ⟨by simp, hM, hok⟩ ⟨(by first | rfl | (show some (Value.int _ _) = some (Value.int _ _); congr 2; omega)), (by first | rfl | (show some (Value.int _ _) = some (Value.int _ _); congr 2; omega)), trivial⟩ ⟨rfl, rfl, rfl, rfl, rfl, trivial⟩ (List.Sublist.refl _) (ds_same) ?_
        rintro ⟨k, es1, cl1, M1⟩ ⟨h1, hM1, hok1⟩
        simp only at h1 hM1 hok1
        refine C.seq ?_
        refine C.region [(false,0)] rfl ?_
        refine L.lss rfl rfl rfl rfl trivial ?_
        refine L.nil ?_
        refine C.next ?_
        refine C.seq ?_
        refine C.condD rfl (fun hc5 => ?_) (fun hc5 => ?_)
        · have hk : k < r.places.length := by omega
          have hbb := bestK_bound (nd := needN r.places.length i.toNat j.toNat) (fun l => (needF_bound _ _ _ _ l).1) ts r.places.length k
          refine C.skip ?_
          refine C.next ?_
          refine C.seq ?_
          refine C.block ?_
          refine C.seq ?_
          refine C.region [(false,0),(false,1)] rfl ?_
          refine L.move rfl rfl rfl trivial ?_
          refine L.assign rfl rfl rfl trivial ?_
          refine L.nil ?_
          refine C.next ?_
          refine C.seq ?_
          refine C.region [(false,0),(false,1),(false,2),(false,3),(false,4)] rfl ?_
          refine L.move rfl rfl rfl trivial ?_
          refine L.move rfl rfl rfl trivial ?_
          refine L.call rfl rfl rfl (fun D3 hD3 => split_ok _ ts k _ (hS.up RT.up (hD3 _ (by simp))) (by omega) hall (by omega)) rfl trivial (fun v3 D3 hD3 hp3 => ?_)
          obtain ⟨v0, v1, rfl, hs0, hs1⟩ := hp3
          refine L.alloc rfl Tf.z111 rfl rfl trivial (fun q4 => ?_)
          refine L.storeW rfl rfl rfl rfl Tf.s111 (by first | rfl | (simp only [ints_length, *]; done) | (simp only [ints_length, *]; rfl) | (simp only [ints_length, *]; omega)) (by first | rfl | (simp only [ints_length, *]; done) | (simp only [ints_length, *]; rfl) | (simp only [ints_length, *]; omega)) (Has.head) (cell1_two hs0.cell1 hs1.cell1) trivial ?_
          refine L.nil ?_
          refine C.next ?_
          refine C.seq ?_
          refine C.seq ?_
          refine C.region [(false,0),(false,1),(false,2),(false,3),(false,4),(false,5),(false,6),(false,7),(false,8),(false,9),(false,10),(false,11),(false,12),(false,13)] rfl ?_
          refine L.move rfl rfl rfl trivial ?_
          refine L.eql rfl rfl rfl rfl trivial ?_
          refine L.move rfl rfl rfl trivial ?_
          refine' L.or [(false,3),(false,4),(false,5),(false,6),(false,7)] [(false,8),(false,9),(false,10),(false,11),(false,12),(false,13)] (s := 67) (p := 72) rfl rfl (fun hg3 => ?_) (fun hg3 => ?_) ?_
          rotate_left
          · refine L.indexB rfl Try.underlying111 Tf.s100 rfl rfl (by omega) (by omega) rfl ⟨_, rfl, rfl⟩ ?_
            refine L.loadB1 rfl Tf.a100 rfl (List.Mem.head _) rfl List.not_mem_nil rfl ⟨_, rfl, rfl⟩ ?_
            refine L.len rfl Try.underlying100 rfl hs0 rfl rfl ⟨_, rfl, rfl⟩ ?_
            refine L.eql rfl rfl rfl rfl ⟨_, rfl, rfl⟩ ?_
            refine L.pickF rfl rfl rfl rfl trivial ?_
            exact L.nil fun a w hh => hh.cutK 4 rfl
          · refine L.pass rfl rfl rfl ⟨_, _, rfl, rfl, rfl⟩ ?_
            refine L.pass rfl rfl rfl ⟨_, _, rfl, rfl, rfl⟩ ?_
            refine L.pass rfl rfl rfl ⟨_, _, rfl, rfl, rfl⟩ ?_
            refine L.pass rfl rfl rfl ⟨_, _, rfl, rfl, rfl⟩ ?_
            refine L.pickT rfl rfl rfl rfl trivial ?_
            exact L.nil fun a w hh => hh.cutK 4 rfl
          refine L.move rfl rfl rfl trivial ?_
          refine' L.or [(false,9),(false,10),(false,11),(false,12),(false,13)] [] (s := 73) (p := 78) rfl rfl (fun hg4 => ?_) (fun hg4 => ?_) ?_
          rotate_left
          · refine L.indexB rfl Try.underlying111 Tf.s100 rfl rfl (by omega) (by omega) rfl ⟨_, rfl, rfl⟩ ?_
            refine L.loadB1 rfl Tf.a100 rfl (List.Mem.head _) rfl List.not_mem_nil rfl ⟨_, rfl, rfl⟩ ?_
            refine L.len rfl Try.underlying100 rfl hs1 rfl rfl ⟨_, rfl, rfl⟩ ?_
            refine L.eql rfl rfl rfl rfl ⟨_, rfl, rfl⟩ ?_
            refine L.pickF rfl rfl rfl rfl trivial ?_
            exact L.nil fun a w hh => hh.cutK 4 rfl
          · refine L.pass rfl rfl rfl ⟨_, _, rfl, rfl, rfl⟩ ?_
            refine L.pass rfl rfl rfl ⟨_, _, rfl, rfl, rfl⟩ ?_
            refine L.pass rfl rfl rfl ⟨_, _, rfl, rfl, rfl⟩ ?_
            refine L.pass rfl rfl rfl ⟨_, _, rfl, rfl, rfl⟩ ?_
            refine L.pickT rfl rfl rfl rfl trivial ?_
            exact L.nil fun a w hh => hh.cutK 4 rfl
          refine L.nil ?_
          refine C.next ?_
          refine C.cond rfl (fun hc6 => ?_) (fun hc6 => ?_)
          · have hsk := need_skip hbb.1 hc6
            refine C.exit ?_
            refine C.thenExit ?_
            refine C.blockExit ?_
            refine C.next ?_
            refine C.region [(false,0),(false,1)] rfl ?_
            refine L.add rfl rfl rfl (by simp only [inK]; omega) rfl trivial ?_
            refine L.move rfl rfl rfl trivial ?_
            refine L.nil ?_
            exact C.againR 17 (k + 1, es1, cl1, M1) ⟨by simp only; omega, hM1, hok1⟩ (by simp only; omega) ⟨(by first | rfl | (show some (Value.int _ _) = some (Value.int _ _); congr 2; omega)), (by rw [bestK_skip hsk]; rfl), trivial⟩ rfl rfl (List.Sublist.cons _ (List.Sublist.refl _)) (fun D h => ⟨D, List.Mem.tail _ (h), Le.refl D⟩)
          · obtain ⟨h0s, h1s⟩ := need_go hc6
            have hlt := seenT_lt h0s h1s
            have hag := agree_split (T := truths r) (a := a) (b := b) (p := k) (by omega) hab (by rw [← hts]; exact h0s) (by rw [← hts]; exact h1s)
            rw [← hts] at hag
            have h2k : 2 ^ k < 512 := Nat.pow_lt_pow_right (a := 2) (n := 9) (by omega) (by omega)
            have hn0 := needF_bound r.places.length i.toNat j.toNat 600 (seenT ts k 0)
            have hn1 := needF_bound r.places.length i.toNat j.toNat 600 (seenT ts k 1)
            have hn0e : needN r.places.length i.toNat j.toNat (seenT ts k 0) = needF r.places.length i.toNat j.toNat 600 (seenT ts k 0) := rfl
            have hn1e : needN r.places.length i.toNat j.toNat (seenT ts k 1) = needF r.places.length i.toNat j.toNat 600 (seenT ts k 1) := rfl
            refine C.skip ?_
            refine C.next ?_
            refine C.seq ?_
            refine C.draw [] 4 [0,1,2,3,4,5,6,7,8,9,10,11,12] [false,true,true,true,true,true,true,true,true,true,true,false,false] [(false,0),(true,1),(true,2),(true,3),(true,4),(true,5),(true,6),(true,7),(true,8),(true,9),(true,10),(false,11),(false,12)] Tf.follows (fun _ _ _ h => np_bodyB (P := Try.prog) (fn := Try.f75) _ _ _ h) (by kernel_rfl) rfl ?_
            refine L.move rfl rfl rfl trivial ?_
            refine L.indexB rfl Try.underlying111 Tf.s100 rfl rfl (by omega) (by omega) rfl trivial ?_
            refine L.loadB1 rfl Tf.a100 rfl (List.Mem.head _) rfl List.not_mem_nil rfl trivial ?_
            refine L.fieldAddr rfl Tf.f119_0 rfl rfl trivial ?_
            refine L.loadB1 rfl Tf.a3 rfl (List.Mem.tail _ (List.Mem.tail _ (List.Mem.head _))) rfl List.not_mem_nil rfl trivial ?_
            refine L.move rfl rfl rfl trivial ?_
            refine L.shl1 rfl rfl rfl (by omega) rfl trivial ?_
            refine L.orN rfl rfl rfl (by first | exact Nat.lt_trans ha (by decide) | exact Nat.lt_trans hb (by decide)) (Nat.lt_trans h2k (by decide)) rfl trivial ?_
            refine L.fieldAddr rfl Tf.f119_1 rfl rfl trivial ?_
            refine L.loadB1 rfl Tf.a3 rfl (List.Mem.tail _ (List.Mem.tail _ (List.Mem.head _))) rfl List.not_mem_nil rfl trivial ?_
            refine L.build (cs := [.int .i64 ((a ||| 2 ^ k : Nat) : Int), .int .i64 (b : Int)]) rfl Tf.p119 Tf.z119 rfl rfl rfl trivial ?_
            refine L.callB (A := [(_, _), (_, _), (_, _)]) (B := []) rfl rfl rfl rfl (Or.inl rfl) (show unfrozen (.map _ _) from trivial) (fun D5 hD5 => ih _ hlt.1 _ rfl v0 (a ||| 2 ^ k) b es1 cl1 M1 D5 h0s (hA.up (hD5 _ (by simp))) (hw.up (hD5 _ (by simp))) hag.2.1 (hs0.up RT.up (hD5 _ (by simp))) (or_lt ha h2k) hb (or_sub hab) hM1 hok1) rfl trivial (fun _ D6 _ hD6 hp6 => ?_)
            obtain ⟨rfl, es4, cl4, M4, rfl, hM4, hok4⟩ := hp6
            refine L.assign rfl rfl rfl trivial ?_
            refine L.nil ?_
            refine C.next ?_
            refine C.seq ?_
            refine C.region [(false,0),(false,1),(false,2),(false,3)] rfl ?_
            refine L.move rfl rfl rfl trivial ?_
            refine L.add rfl rfl rfl (by simp only [inK]; omega) rfl trivial ?_
            refine L.move rfl rfl rfl trivial ?_
            refine L.lss rfl rfl rfl rfl trivial ?_
            refine L.nil ?_
            refine C.next ?_
            refine C.condD rfl (fun hc7 => ?_) (fun hc7 => ?_)
            · refine C.nd (fun hnd => ?_)
              simp only [List.cons_append, List.nil_append, List.map_cons, List.map_nil, List.nodup_cons, List.mem_cons, List.not_mem_nil, or_false, not_or] at hnd
              have hq4 : q4 ∉ [m] := by simpa using hnd.1.2.2
              have hq1 : q1 ∉ [m] := by simpa using hnd.2.2.1
              refine C.draw [m] 7 [0,1,2,3,4,5,6,7,8,9,10,11,12,13,14,15,16,17,18,19,20,21] [false,true,true,true,true,true,true,true,true,true,true,true,true,true,true,true,true,true,true,false,false,false] [(false,0),(true,1),(true,2),(true,3),(true,4),(true,5),(true,6),(true,7),(true,8),(true,9),(true,10),(true,11),(true,12),(true,13),(true,14),(true,15),(true,16),(true,17),(true,18),(false,19),(false,20),(false,21)] Tf.follows (fun _ _ _ h => np_bodyB (P := Try.prog) (fn := Try.f75) _ _ _ h) (by kernel_rfl) rfl ?_
              refine L.move rfl rfl rfl trivial ?_
              refine L.move rfl rfl rfl trivial ?_
              refine L.move rfl rfl rfl trivial ?_
              refine L.indexB rfl Try.underlying111 Tf.s100 rfl rfl (by omega) (by omega) rfl trivial ?_
              refine L.loadB1 rfl Tf.a100 rfl (List.Mem.head _) rfl (by first | assumption | simp) rfl trivial ?_
              refine L.fieldAddr rfl Tf.f119_0 rfl rfl trivial ?_
              refine L.loadB1 rfl Tf.a3 rfl (List.Mem.tail _ (List.Mem.tail _ (List.Mem.head _))) rfl (by first | assumption | simp) rfl trivial ?_
              refine L.move rfl rfl rfl trivial ?_
              refine L.shl1 rfl rfl rfl (by omega) rfl trivial ?_
              refine L.orN rfl rfl rfl (by first | exact Nat.lt_trans ha (by decide) | exact Nat.lt_trans hb (by decide)) (Nat.lt_trans h2k (by decide)) rfl trivial ?_
              refine L.fieldAddr rfl Tf.f119_1 rfl rfl trivial ?_
              refine L.loadB1 rfl Tf.a3 rfl (List.Mem.tail _ (List.Mem.tail _ (List.Mem.head _))) rfl (by first | assumption | simp) rfl trivial ?_
              refine L.move rfl rfl rfl trivial ?_
              refine L.shl1 rfl rfl rfl (by omega) rfl trivial ?_
              refine L.orN rfl rfl rfl (by first | exact Nat.lt_trans ha (by decide) | exact Nat.lt_trans hb (by decide)) (Nat.lt_trans h2k (by decide)) rfl trivial ?_
              refine L.build (cs := [.int .i64 ((a ||| 2 ^ k : Nat) : Int), .int .i64 ((b ||| 2 ^ k : Nat) : Int)]) rfl Tf.p119 Tf.z119 rfl rfl rfl trivial ?_
              refine L.callB (A := [(_, _), (_, _), (_, _)]) (B := []) rfl rfl rfl rfl (Or.inr List.mem_cons_self) (show unfrozen (.map _ _) from trivial) (fun D5 hD5 => ih _ hlt.2 _ rfl v1 (a ||| 2 ^ k) (b ||| 2 ^ k) es4 cl4 M4 D5 h1s (hA.up (hD5 _ (by simp))) (hw.up (hD5 _ (by simp))) hag.2.2 (hs1.up RT.up (hD5 _ (by simp))) (or_lt ha h2k) (or_lt hb h2k) (or_sub2 hab) hM4 hok4) rfl trivial (fun _ D7 _ hD7 hp7 => ?_)
              obtain ⟨rfl, es5, cl5, M5, rfl, hM5, hok5⟩ := hp7
              refine L.max2 rfl rfl rfl rfl trivial ?_
              refine L.add rfl rfl rfl (by simp only [inK]; omega) rfl trivial ?_
              refine L.buildSlice rfl Try.underlying22 Tf.s3 Tf.z3 rfl rfl rfl rfl (.cons rfl rfl (.cons rfl rfl .nil)) rfl trivial (fun b901 D901 hD901 hA901 => ?_)
              have hS901 := Sl.ofInts (l := [_, _]) (n := 2) (cap := 2) hA901 rfl (by omega) (by omega)
              refine L.callV rfl rfl rfl (fun D4 hD4 => minimum_ok _ _ [_] _ (hS901.up RI.up (hD4 _ (by simp)))) rfl trivial ?_
              refine L.assign rfl rfl rfl trivial ?_
              refine L.nil ?_
              refine C.blockEnd ?_
              refine C.next ?_
              refine C.region [(false,0),(false,1)] rfl ?_
              refine L.add rfl rfl rfl (by simp only [inK]; omega) rfl trivial ?_
              refine L.move rfl rfl rfl trivial ?_
              refine L.nil ?_
              exact C.againR 56 (k + 1, es5, cl5, M5) ⟨by simp only; omega, hM5, hok5⟩ (by simp only; omega) ⟨(by first | rfl | (show some (Value.int _ _) = some (Value.int _ _); congr 2; omega)), (by rw [bestK_yes h0s h1s hc7]; rfl), trivial⟩ rfl rfl (List.Sublist.cons _ (List.Sublist.refl _)) (fun D h => ⟨D, List.Mem.tail _ (List.Mem.tail _ (List.Mem.tail _ (List.Mem.tail _ (h)))), Le.refl D⟩)
            · refine C.skip ?_
              refine C.blockEnd ?_
              refine C.next ?_
              refine C.region [(false,0),(false,1)] rfl ?_
              refine L.add rfl rfl rfl (by simp only [inK]; omega) rfl trivial ?_
              refine L.move rfl rfl rfl trivial ?_
              refine L.nil ?_
              exact C.againR 34 (k + 1, es4, cl4, M4) ⟨by simp only; omega, hM4, hok4⟩ (by simp only; omega) ⟨(by first | rfl | (show some (Value.int _ _) = some (Value.int _ _); congr 2; omega)), (by rw [bestK_no h0s h1s hc7]; rfl), trivial⟩ rfl rfl (List.Sublist.cons _ (List.Sublist.refl _)) (fun D h => ⟨D, List.Mem.tail _ (List.Mem.tail _ (h)), Le.refl D⟩)
        · obtain rfl : k = r.places.length := by omega
          refine C.exit ?_
          refine C.thenExit ?_
          refine C.thenExit ?_
          refine C.blockExit ?_
          refine C.next ?_
          refine C.seq ?_
          refine C.draw [] 3 [0,1,2,3,4,5,6] [false,false,false,false,true,true,false] [(false,0),(false,1),(false,2),(false,3),(true,4),(true,5),(false,6)] Tf.follows (fun _ _ _ h => np_bodyB (P := Try.prog) (fn := Try.f75) _ _ _ h) (by kernel_rfl) rfl ?_
          refine L.move rfl rfl rfl trivial ?_
          refine L.nilCheck rfl rfl rfl trivial ?_
          refine L.fieldAddr rfl Tf.f116_3 rfl rfl trivial ?_
          refine L.loadD1 rfl (k := 3) Tf.a114 rfl hA (by first | simp | assumption) rfl List.not_mem_nil rfl trivial ?_
          refine L.loadBW rfl Tf.a119 rfl (List.Mem.tail _ (List.Mem.head _)) Tf.s119 List.not_mem_nil rfl trivial ?_
          refine L.move rfl rfl rfl trivial ?_
          refine L.update2 (A := [(_, _), (_, _)]) (B := []) (a := ((a : Int), (b : Int))) rfl Try.underlying114 k2_119 rfl rfl rfl hM1 trivial (fun es3 cl3 M3 hM3 hm3 => ?_)
          refine L.nil ?_
          refine C.next ?_
          refine C.seq ?_
          refine C.region [(false,0),(false,1)] rfl ?_
          refine L.move rfl rfl rfl trivial ?_
          refine L.assign rfl rfl rfl trivial ?_
          refine L.nil ?_
          refine C.next ?_
          refine C.ret ?_
          exact leaveB (o' := .map es3 cl3) (vs := [_]) rfl rfl rfl ⟨rfl, trivial⟩ (by simp) (fun D hD => ⟨by show Value.int _ _ = _; rw [needN_eq (by omega), if_neg hc2], es3, cl3, M3, rfl, hM3, mapOk_put hok1 hm3 hts (by rw [needN_eq (by omega), if_neg hc2])⟩)
end Go.Fs
