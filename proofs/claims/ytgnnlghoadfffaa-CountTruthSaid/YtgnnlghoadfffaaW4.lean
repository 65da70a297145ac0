/- Walks: a row at work. -/
import Derived.Test.YtgnnlghoadfffaaW3
namespace Go.Fs
open Go.Proofs
open C1
theorem partOf_sums {c : List Int} {i j : Int} (h0 : 0 ≤ i) (h1 : i ≤ j) : sumFrom c 0 (j + 1).toNat - sumFrom c 0 i.toNat = partOf c i.toNat j.toNat := by
  unfold partOf
  have h := sumFrom_split c 0 i.toNat (j.toNat + 1 - i.toNat)
  rw [show i.toNat + (j.toNat + 1 - i.toNat) = (j + 1).toNat by omega, Nat.zero_add] at h
  omega
theorem fits_yes {r : RowD} {t : List Int} (h : (explains r t && decide ((if explains r t = true then (wrongs r t : Int) else 0) ≤ r.wrong)) = true) : fits r t = true := by
  unfold fits; cases he : explains r t <;> simp [he] at h ⊢; exact h
theorem fits_no {r : RowD} {t : List Int} (h : (explains r t && decide ((if explains r t = true then (wrongs r t : Int) else 0) ≤ r.wrong)) = false) : fits r t = false := by
  unfold fits; cases he : explains r t <;> simp [he] at h ⊢; exact h
theorem ask_len {r : RowD} (h : RowOk r) (k : Nat) : (((allT r.places).take k).filter (fits r)).length ≤ 512 := by
  have h1 := List.length_filter_le (fits r) ((allT r.places).take k)
  have h2 := allT_length r.places
  have h3 : 2 ^ r.places.length ≤ 2 ^ 9 := Nat.pow_le_pow_right (by omega) h.len9
  have h4 : ((allT r.places).take k).length ≤ (allT r.places).length := by rw [List.length_take]; omega
  omega
theorem ask_all {r : RowD} (h : RowOk r) (k : Nat) : ∀ t ∈ ((allT r.places).take k).filter (fits r), t.length ≤ 9 := fun t ht => by
  have := (allT_ok (List.mem_of_mem_take (List.mem_filter.1 ht).1)).1; have := h.len9; omega
theorem truths_length {r : RowD} (h : RowOk r) : (truths r).length ≤ 512 := by
  have h1 := List.length_filter_le (fits r) (allT r.places)
  have h2 := allT_length r.places
  have h3 : 2 ^ r.places.length ≤ 2 ^ 9 := Nat.pow_le_pow_right (by omega) h.len9
  show ((allT r.places).filter (fits r)).length ≤ 512
  omega
open C1
theorem part_ok (rv : Value) (r : RowD) (i j : Int) (D : Data) (hr : RowIs D rv r) : Fn Try.prog 66 #[rv, .int .i64 i, .int .i64 j] D (fun _ v => v = .bool (partOk r i j)) := by
  obtain ⟨pv, cv, rfl, hp, hc⟩ := hr
  have hl := hp.len
  refine enter 22 Try.func66 rfl rfl rfl rfl fun h0 => ?_
  refine C.seq ?_
  refine C.region [(false,0),(false,1)] rfl ?_
  refine L.boxD rfl rfl rfl rfl trivial (fun q1 E1 hE1 hB1 => ?_)
  refine L.assign rfl rfl rfl trivial ?_
  refine L.nil ?_
  refine C.next ?_
  refine C.seq ?_
  refine C.region [(false,0),(false,1),(false,2),(false,3),(false,4),(false,5),(false,6),(false,7),(false,8),(false,9),(false,10),(false,11),(false,12),(false,13),(false,14),(false,15)] rfl ?_
  refine L.move rfl rfl rfl trivial ?_
  refine L.fieldAddr rfl Tf.f35_0 rfl rfl trivial ?_
  refine L.loadD1 rfl (k := 0) Tf.a22 rfl hB1 (by first | simp | assumption) rfl List.not_mem_nil rfl trivial ?_
  refine L.len rfl Try.underlying22 rfl (by assumption) rfl rfl trivial ?_
  refine L.sub rfl rfl rfl (by simp only [inK]; omega) rfl trivial ?_
  refine L.callV rfl rfl rfl (fun D1 hD1 => within_ok _ _ _ _) rfl trivial ?_
  refine L.move rfl rfl rfl trivial ?_
  refine' L.and [(false,7),(false,8),(false,9),(false,10),(false,11),(false,12),(false,13),(false,14)] [(false,15)] (s := 13) (p := 21) rfl rfl (fun hg1 => ?_) (fun hg1 => ?_) ?_
  rotate_left
  · refine L.move rfl rfl rfl ⟨_, rfl, rfl⟩ ?_
    refine L.move rfl rfl rfl ⟨_, rfl, rfl⟩ ?_
    refine L.fieldAddr rfl Tf.f35_0 rfl rfl ⟨_, rfl, rfl⟩ ?_
    refine L.loadD1 rfl (k := 0) Tf.a22 rfl hB1 (by first | simp | assumption) rfl List.not_mem_nil rfl ⟨_, rfl, rfl⟩ ?_
    refine L.len rfl Try.underlying22 rfl (by assumption) rfl rfl ⟨_, rfl, rfl⟩ ?_
    refine L.sub rfl rfl rfl (by simp only [inK]; omega) rfl ⟨_, rfl, rfl⟩ ?_
    refine L.callV rfl rfl rfl (fun D2 hD2 => within_ok _ _ _ _) rfl ⟨_, rfl, rfl⟩ ?_
    refine L.pickT rfl rfl rfl rfl trivial ?_
    exact L.nil fun a w hh => hh.cutK 7 rfl
  · refine L.pass rfl rfl rfl ⟨_, _, rfl, rfl, rfl⟩ ?_
    refine L.pass rfl rfl rfl ⟨_, _, rfl, rfl, rfl⟩ ?_
    refine L.pass rfl rfl rfl ⟨_, _, rfl, rfl, rfl⟩ ?_
    refine L.pass rfl rfl rfl ⟨_, _, rfl, rfl, rfl⟩ ?_
    refine L.pass rfl rfl rfl ⟨_, _, rfl, rfl, rfl⟩ ?_
    refine L.pass rfl rfl rfl ⟨_, _, rfl, rfl, rfl⟩ ?_
    refine L.pass rfl rfl rfl ⟨_, _, rfl, rfl, rfl⟩ ?_
    refine L.pickF rfl rfl rfl rfl trivial ?_
    exact L.nil fun a w hh => hh.cutK 7 rfl
  refine L.assign rfl rfl rfl trivial ?_
  refine L.nil ?_
  refine C.next ?_
  refine C.ret ?_
  exact leave (vs := [_]) rfl rfl rfl ⟨rfl, trivial⟩ (fun D hD => rfl)
theorem in_ok (c : List Int) (i j : Int) (D : Data) (hi0 : 0 ≤ i) (hij : i ≤ j) (hj9 : j < 9) (hb : ∀ x ∈ c, 0 ≤ x ∧ x ≤ 1) : Fn Try.prog 88 #[.agg (ints (sumsOf c)).toArray, .int .i64 i, .int .i64 j] D (fun _ v => v = .int .i64 (partOf c i.toNat j.toNat)) := by
  have hsl := sumsOf_length c
  have hg1 := sumsOf_get c (j + 1).toNat (by omega)
  have hg2 := sumsOf_get c i.toNat (by omega)
  have hb1 := sumFrom_bound hb 0 (j + 1).toNat
  have hb2 := sumFrom_bound hb 0 i.toNat
  refine enter 15 Try.func88 rfl rfl rfl rfl fun h0 => ?_
  refine C.seq ?_
  refine C.region [(false,0),(false,1)] rfl ?_
  refine L.boxD rfl rfl rfl rfl trivial (fun q1 E1 hE1 hB1 => ?_)
  refine L.assign rfl rfl rfl trivial ?_
  refine L.nil ?_
  refine C.next ?_
  refine C.seq ?_
  refine C.draw [] 4 [0,1,2,3,4,5,6,7,8] [false,false,false,false,true,true,true,false,false] [(false,0),(false,1),(false,2),(false,3),(true,4),(true,5),(true,6),(false,7),(false,8)] Tf.follows (fun _ _ _ h => np_body (P := Try.prog) (fn := Try.f88) _ _ _ h) (by kernel_rfl) rfl ?_
  refine L.move rfl rfl rfl trivial ?_
  refine L.add rfl rfl rfl (by simp only [inK]; omega) rfl trivial ?_
  refine L.indexB rfl Try.underlying128 Tf.s3 rfl rfl (by omega) (by omega) rfl trivial ?_
  refine L.loadDI rfl Tf.a3 rfl hB1 (by simp) (ints_get hg1) List.not_mem_nil rfl trivial ?_
  refine L.move rfl rfl rfl trivial ?_
  refine L.indexB rfl Try.underlying128 Tf.s3 rfl rfl (by omega) (by omega) rfl trivial ?_
  refine L.loadDI rfl Tf.a3 rfl hB1 (by simp) (ints_get hg2) List.not_mem_nil rfl trivial ?_
  refine L.sub rfl rfl rfl (by simp only [inK]; omega) rfl trivial ?_
  refine L.assign rfl rfl rfl trivial ?_
  refine L.nil ?_
  refine C.next ?_
  refine C.ret ?_
  exact leave (vs := [_]) rfl rfl rfl ⟨rfl, trivial⟩ (fun D hD => by show Value.int _ _ = _; rw [partOf_sums hi0 hij])
theorem wider_ok (lo hi n : Int) (D : Data) : Fn Try.prog 89 #[.agg #[.int .i64 lo, .int .i64 hi], .int .i64 n] D (fun _ v => v = .agg #[.int .i64 (min lo n), .int .i64 (max hi n)]) := by
  refine enter 15 Try.func89 rfl rfl rfl rfl fun h0 => ?_
  refine C.seq ?_
  refine C.region [(false,0),(false,1)] rfl ?_
  refine L.boxD rfl rfl rfl rfl trivial (fun q1 E1 hE1 hB1 => ?_)
  refine L.alloc rfl Tf.z29 rfl rfl trivial (fun q2 => ?_)
  refine L.nil ?_
  refine C.next ?_
  refine C.seq ?_
  refine C.draw [] 4 [0,1,2,5,6,7,8,3,4,9,10] [false,false,true,true,true,true,true,true,true,false,false] [(false,0),(false,1),(true,2),(true,5),(true,6),(true,7),(true,8),(true,3),(true,4),(false,9),(false,10)] Tf.follows (fun _ _ _ h => np_body (P := Try.prog) (fn := Try.f89) _ _ _ h) (by kernel_rfl) rfl ?_
  refine L.fieldAddr rfl Tf.f29_0 rfl rfl trivial ?_
  refine L.loadD1 rfl (k := 0) Tf.a3 rfl hB1 (by first | simp | assumption) rfl List.not_mem_nil rfl trivial ?_
  refine L.move rfl rfl rfl trivial ?_
  refine L.fieldAddr rfl Tf.f29_1 rfl rfl trivial ?_
  refine L.loadD1 rfl (k := 1) Tf.a3 rfl hB1 (by first | simp | assumption) rfl List.not_mem_nil rfl trivial ?_
  refine L.move rfl rfl rfl trivial ?_
  refine L.max2 rfl rfl rfl rfl trivial ?_
  refine L.buildSlice rfl Try.underlying22 Tf.s3 Tf.z3 rfl rfl rfl rfl (.cons rfl rfl (.cons rfl rfl .nil)) rfl trivial (fun b901 D901 hD901 hA901 => ?_)
  have hS901 := Sl.ofInts (l := [_, _]) (n := 2) (cap := 2) hA901 rfl (by omega) (by omega)
  refine L.callV rfl rfl rfl (fun D1 hD1 => minimum_ok _ lo [n] _ (hS901.up RI.up (hD1 _ (by simp)))) rfl trivial ?_
  refine L.build (cs := [.int .i64 (min lo n), .int .i64 (max hi n)]) rfl Tf.p29 Tf.z29 rfl rfl rfl trivial ?_
  refine L.storeW rfl rfl rfl rfl Tf.s29 (by first | rfl | (simp only [ints_length, *]; done) | (simp only [ints_length, *]; rfl) | (simp only [ints_length, *]; omega)) (by first | rfl | (simp only [ints_length, *]; done) | (simp only [ints_length, *]; rfl) | (simp only [ints_length, *]; omega)) (Has.head) (by first | exact ints_cell1 _ | simp [cell1]) trivial ?_
  refine L.nil ?_
  refine C.next ?_
  refine C.ret ?_
  exact leave (vs := [_]) rfl rfl rfl ⟨⟨_, _, _, rfl, (List.Mem.head _), Or.inr ⟨Tf.a29, (by first | exact Tf.s29 | (simp only [List.size_toArray, ints_length, *]; exact Tf.s29)), rfl⟩⟩, trivial⟩ (fun D hD => rfl)
theorem asked_ok (rv : Value) (r : RowD) (fine : Bool) (D : Data) (hr : RowIs D rv r) : Fn Try.prog 65 #[rv, .bool fine] D (fun D' v => ∃ wv, v = .tuple #[wv, .int .i64 (askErr r fine)] ∧ (askErr r fine = 0 → RowOk r ∧ WorkIs D' wv r)) := by
  have hr0 := hr
  obtain ⟨pv, cv, rfl, hp, hc⟩ := hr
  refine enterM 55 Try.func65 rfl rfl rfl rfl fun h0 => ?_
  refine C.seq ?_
  refine C.region [(false,0),(false,1),(false,2)] rfl ?_
  refine L.boxD rfl rfl rfl rfl trivial (fun q1 E1 hE1 hB1 => ?_)
  refine L.assign rfl rfl rfl trivial ?_
  refine L.assign rfl rfl rfl trivial ?_
  refine L.nil ?_
  refine C.next ?_
  refine C.seq ?_
  refine C.seq ?_
  refine C.region [(false,0),(false,1),(false,2)] rfl ?_
  refine L.loadDW rfl Tf.a35 rfl hB1 (by first | simp | assumption) Tf.s35 List.not_mem_nil rfl trivial ?_
  refine L.callV rfl rfl rfl (fun D1 hD1 => CheckRow_ok _ r _ (hr0.up (hD1 _ (by simp)))) rfl trivial ?_
  refine L.assign rfl rfl rfl trivial ?_
  refine L.nil ?_
  refine C.next ?_
  refine C.seq ?_
  refine C.region [(false,0),(false,1)] rfl ?_
  refine L.move rfl rfl rfl trivial ?_
  refine L.neq rfl rfl rfl rfl trivial ?_
  refine L.nil ?_
  refine C.next ?_
  refine C.condD rfl (fun hc1 => ?_) (fun hc1 => ?_)
  · refine C.seq ?_
    refine C.region [(false,0),(false,1),(false,2)] rfl ?_
    refine L.move rfl rfl rfl trivial ?_
    refine L.assign rfl rfl rfl trivial ?_
    refine L.assign rfl rfl rfl trivial ?_
    refine L.nil ?_
    refine C.next ?_
    refine C.ret ?_
    refine C.thenRet ?_
    exact leaveM0 (vs := [_, _]) rfl rfl rfl ⟨rfl, rfl, trivial⟩ (fun D hD => ⟨_, by rw [askErr, if_pos hc1]; rfl, fun h => by rw [askErr, if_pos hc1] at h; exact absurd h hc1⟩)
  · have hok : RowOk r := rowOk_iff.1 (by omega)
    refine C.skip ?_
    refine C.next ?_
    refine C.seq ?_
    refine C.seq ?_
    refine C.region [(false,0),(false,1)] rfl ?_
    refine L.move rfl rfl rfl trivial ?_
    refine L.not rfl rfl rfl trivial ?_
    refine L.nil ?_
    refine C.next ?_
    refine C.cond rfl (fun hc2 => ?_) (fun hc2 => ?_)
    · refine C.seq ?_
      refine C.region [(false,0),(false,1)] rfl ?_
      refine L.assign rfl rfl rfl trivial ?_
      refine L.assign rfl rfl rfl trivial ?_
      refine L.nil ?_
      refine C.next ?_
      refine C.ret ?_
      refine C.thenRet ?_
      exact leaveM0 (vs := [_, _]) rfl rfl rfl ⟨rfl, rfl, trivial⟩ (fun D hD => ⟨_, by rw [askErr, if_neg hc1, if_pos (by simpa using hc2)]; rfl, fun h => by rw [askErr, if_neg hc1, if_pos (by simpa using hc2)] at h; omega⟩)
    · refine C.skip ?_
      refine C.next ?_
      refine C.seq ?_
      refine C.region [(false,0),(false,1),(false,2),(false,3),(false,4)] rfl ?_
      refine L.loadDW rfl Tf.a35 rfl hB1 (by first | simp | assumption) Tf.s35 List.not_mem_nil rfl trivial ?_
      refine L.build (cs := [pv, cv, .int .i64 r.wrong, .int .i64 r.off, .slice none 0 0]) rfl Tf.p102 Tf.z102 rfl rfl rfl trivial ?_
      refine L.box rfl (e := 102) rfl rfl rfl trivial (fun q2 => ?_)
      refine L.alloc rfl Tf.z95 rfl rfl trivial (fun q3 => ?_)
      refine L.store rfl rfl rfl rfl Tf.s95 (Has.head) (by simp) rfl (by simp [cell1]) trivial ?_
      refine L.nil ?_
      refine C.next ?_
      refine C.seq ?_
      refine C.seq ?_
      refine C.region [(false,0),(false,1)] rfl ?_
      refine L.loadDW rfl Tf.a35 rfl hB1 (by first | simp | assumption) Tf.s35 List.not_mem_nil rfl trivial ?_
      refine L.call rfl rfl rfl (fun D2 hD2 => rows_ok _ r _ (hr0.up (hD2 _ (by simp))) hok.len9) rfl trivial (fun v2 D2 hD2 hp2 => ?_)
      refine L.nil ?_
      refine C.next ?_
      refine C.block ?_
      obtain ⟨br, rfl, hit⟩ := hp2
      refine C.rangeFunc (γ := Value × Boxes) (xs := (allT r.places).map pad9) (enc := encT) (Dr := D2) (AskI 121 r) (fun _ _ _ => False) (fun g => [(q3, .cells [.pointer (some ⟨q2, 0, none⟩)].toArray 95 (0, 0)), (q2, .cells [pv, cv, .int .i64 r.wrong, .int .i64 r.off, g.1].toArray 102 (0, 0))] ++ g.2) (.slice none 0 0, []) rfl rfl rfl rfl hit (by simp) (fun _ => rfl) rfl (by simpa [AskI] using Acc.nil) rfl ?_ ?_ (fun _ _ _ _ h => h.elim)
      · rintro pre x ⟨v, ν⟩ ⟨us, hx⟩ hΦ l bd rec hh D7 hD7 hst hpend
        obtain ⟨t, hk, rfl, htm, htake⟩ := allT_step hx
        obtain ⟨hlen, htb⟩ := allT_ok htm
        have htr : TruthOk r t := ⟨hlen, htb⟩
        have hp9 := pad9_length (t := t) (by have := hok.len9; omega)
        refine C.region [(false,0),(false,1)] rfl ?_
        refine L.alloc rfl Tf.z121 rfl rfl trivial (fun q4 => ?_)
        refine L.storeW rfl rfl rfl rfl Tf.s121 (by first | rfl | (simp only [ints_length, *]; done) | (simp only [ints_length, *]; rfl) | (simp only [ints_length, *]; omega)) (by first | rfl | (simp only [ints_length, *]; done) | (simp only [ints_length, *]; rfl) | (simp only [ints_length, *]; omega)) (Has.head) (by first | exact ints_cell1 _ | simp [cell1]) trivial ?_
        refine L.nil ?_
        refine fun a w hhh => C.begin (A := [(_, _), (_, _), (_, _)] ++ ν) (B := [(bd, .deferred (some []))]) (r := rec) (l := l) (by rfl) hst ?_ a w hhh
        refine C.nd (fun hnd => ?_)
        simp only [List.map_cons, List.map_append, List.nodup_cons, List.nodup_append, List.cons_append, List.nil_append, List.mem_cons, List.mem_append, not_or] at hnd
        have hq4 := hnd.1.2.2.1
        have hq3 := hnd.2.1.2.1
        have hq2 := hnd.2.2.1.1
        refine C.block ?_
        refine C.seq ?_
        refine C.draw [] 4 [0,1,2,3,4,5,6,7,8] [false,true,true,false,false,false,true,true,false] [(false,0),(true,1),(true,2),(false,3),(false,4),(false,5),(true,6),(true,7),(false,8)] Tf.follows (fun _ _ _ h => h) (by kernel_rfl) rfl ?_
        refine L.loadDW rfl Tf.a35 rfl hB1 (by first | simp | assumption) Tf.s35 List.not_mem_nil rfl trivial ?_
        refine L.loadBW rfl Tf.a121 rfl (List.Mem.head _) (by first | exact Tf.s121 | (simp only [ints_length, *]; exact Tf.s121)) List.not_mem_nil rfl trivial ?_
        refine L.callV rfl rfl rfl (fun D3 hD3 => sumsP_ok t _ (by have := hok.len9; omega) htb) rfl trivial ?_
        refine L.callV rfl rfl rfl (fun D4 hD4 => wrong_ok _ r t _ (hr0.up (hD4 _ (by simp))) hok htr) rfl trivial ?_
        refine L.move rfl rfl rfl trivial ?_
        refine L.extract rfl rfl rfl rfl trivial ?_
        refine L.extract rfl rfl rfl rfl trivial ?_
        refine L.assign rfl rfl rfl trivial ?_
        refine L.assign rfl rfl rfl trivial ?_
        refine L.nil ?_
        refine C.next ?_
        refine C.seq ?_
        refine C.region [(false,0),(false,1),(false,2),(false,3),(false,4),(false,5),(false,6)] rfl ?_
        refine L.move rfl rfl rfl trivial ?_
        refine L.move rfl rfl rfl trivial ?_
        refine' L.and [(false,2),(false,3),(false,4),(false,5),(false,6)] [] (s := 32) (p := 37) rfl rfl (fun hg1 => ?_) (fun hg1 => ?_) ?_
        rotate_left
        · refine L.move rfl rfl rfl ⟨_, rfl, rfl⟩ ?_
          refine L.fieldAddr rfl Tf.f35_2 rfl rfl ⟨_, rfl, rfl⟩ ?_
          refine L.loadD1 rfl (k := 2) Tf.a3 rfl hB1 (by first | simp | assumption) rfl List.not_mem_nil rfl ⟨_, rfl, rfl⟩ ?_
          refine L.leq rfl rfl rfl rfl ⟨_, rfl, rfl⟩ ?_
          refine L.pickT rfl rfl rfl rfl trivial ?_
          exact L.nil fun a w hh => hh.cutK 4 rfl
        · refine L.pass rfl rfl rfl ⟨_, _, rfl, rfl, rfl⟩ ?_
          refine L.pass rfl rfl rfl ⟨_, _, rfl, rfl, rfl⟩ ?_
          refine L.pass rfl rfl rfl ⟨_, _, rfl, rfl, rfl⟩ ?_
          refine L.pass rfl rfl rfl ⟨_, _, rfl, rfl, rfl⟩ ?_
          refine L.pickF rfl rfl rfl rfl trivial ?_
          exact L.nil fun a w hh => hh.cutK 4 rfl
        refine L.nil ?_
        refine C.next ?_
        refine C.cond rfl (fun hc3 => ?_) (fun hc3 => ?_)
        · have hfit := fits_yes hc3
          refine C.draw (ν.map (·.1)) 2 [0,1,2,3,4,5,6,7,8,9,10] [false,true,true,true,true,true,true,true,false,false,false] [(false,0),(true,1),(true,2),(true,3),(true,4),(true,5),(true,6),(true,7),(false,8),(false,9),(false,10)] Tf.follows (fun _ _ _ h => h) (by kernel_rfl) rfl ?_
          refine L.loadB1 rfl Tf.a95 rfl (List.Mem.tail _ (List.Mem.head _)) rfl (by first | assumption | simp) rfl trivial ?_
          refine L.loadB1 rfl Tf.a95 rfl (List.Mem.tail _ (List.Mem.head _)) rfl (by first | assumption | simp) rfl trivial ?_
          refine L.nilCheck rfl rfl rfl trivial ?_
          refine L.fieldAddr rfl Tf.f102_1 rfl rfl trivial ?_
          refine L.loadB1 rfl Tf.a100 rfl (List.Mem.tail _ (List.Mem.tail _ (List.Mem.head _))) rfl (by first | assumption | simp) rfl trivial ?_
          refine L.loadBW rfl Tf.a121 rfl (List.Mem.head _) (by first | exact Tf.s121 | (simp only [ints_length, *]; exact Tf.s121)) (by first | assumption | simp) rfl trivial ?_
          refine L.buildSlice rfl Try.underlying100 Tf.s121 Tf.z121 rfl rfl rfl rfl (.cons rfl (by simpa using hp9) .nil) rfl trivial (fun b901 D901 hD901 hA901 => ?_)
          refine L.append (A := [(_, _), (_, _), (_, _)]) (B := [(l, _), (bd, _)]) rfl Try.underlying100 rfl rfl Tf.s121 Tf.z121 rfl Tf.i121 rfl rfl rfl hΦ (Src.lit hA901) (by simp) (by simp [hp9]) (flat_length (ask_all hok pre.length)) (by simpa using ints_cell1 _) (by have := ask_len hok pre.length; omega) (Or.inr (fun p hp => List.mem_map.2 ⟨p, hp, rfl⟩)) rfl trivial (fun v1 ν1 ha1 => ?_)
          have hI1 : AskI 121 r (pre ++ [pad9 t]) (v1, ν1) := by unfold AskI; rw [htake, List.filter_append, List.filter_cons, if_pos hfit, List.filter_nil, List.flatMap_append, List.flatMap_singleton]; simpa using ha1
          simp only [List.cons_append, List.nil_append]
          refine L.nilCheck rfl rfl rfl trivial ?_
          refine L.fieldAddr rfl Tf.f102_1 rfl rfl trivial ?_
          refine L.store rfl rfl rfl ha1.cells1 Tf.s100 (.tail (.tail (Has.head))) (by simp) rfl ha1.cell1 trivial ?_
          refine L.nil ?_
          refine C.blockEnd ?_
          exact fun a w hh => C.roundOn (A := [(_, _), (_, _)] ++ ν1) (B := [(bd, .deferred (some []))]) (v1, ν1) hI1 rfl rfl a w (hh.dropBoxes 1)
        · have hfit := fits_no hc3
          have hI0 : AskI 121 r (pre ++ [pad9 t]) (v, ν) := by unfold AskI; rw [htake, List.filter_append, List.filter_cons, if_neg (by simp [hfit]), List.filter_nil, List.append_nil]; exact hΦ
          refine C.skip ?_
          refine C.blockEnd ?_
          exact fun a w hh => C.roundOn (A := [(_, _), (_, _)] ++ ν) (B := [(bd, .deferred (some []))]) (v, ν) hI0 rfl rfl a w (hh.dropBoxes 1)
      · rintro ⟨v, ν⟩ bd hΦ
        have hΦ' : Acc 121 9 v (truths r).length ((truths r).flatMap fun t => ints (pad9 t)) ν := by simpa [AskI, truths] using hΦ
        have hall : ∀ t ∈ truths r, t.length ≤ 9 := fun t ht => by have := (allT_ok (List.mem_filter.1 ht).1).1; have := hok.len9; omega
        have hll := truths_length hok
        refine C.blockEnd ?_
        refine C.next ?_
        refine C.seq ?_
        refine C.seq ?_
        refine C.region [(false,0),(false,1),(false,2),(false,3),(false,4),(false,5)] rfl ?_
        refine L.loadB1 rfl Tf.a95 rfl (List.Mem.head _) rfl List.not_mem_nil rfl trivial ?_
        refine L.nilCheck rfl rfl rfl trivial ?_
        refine L.fieldAddr rfl Tf.f102_1 rfl rfl trivial ?_
        refine L.loadB1 rfl Tf.a100 rfl (List.Mem.tail _ (List.Mem.head _)) rfl List.not_mem_nil rfl trivial ?_
        refine L.lenAcc rfl Try.underlying100 rfl hΦ' rfl rfl trivial ?_
        refine L.eql rfl rfl rfl rfl trivial ?_
        refine L.nil ?_
        refine C.next ?_
        refine C.condD rfl (fun hc4 => ?_) (fun hc4 => ?_)
        · have htn : truths r = [] := List.length_eq_zero_iff.1 (by omega)
          have hask : askErr r fine = 11 := by rw [askErr, if_neg hc1, if_neg (by simpa using hc2), if_pos htn]
          refine C.seq ?_
          refine C.region [(false,0),(false,1)] rfl ?_
          refine L.assign rfl rfl rfl trivial ?_
          refine L.assign rfl rfl rfl trivial ?_
          refine L.nil ?_
          refine C.next ?_
          refine C.ret ?_
          refine C.thenRet ?_
          exact leaveM1 (vs := [_, _]) (A := [(_, _), (_, _)] ++ ν) rfl rfl rfl ⟨rfl, rfl, trivial⟩ (fun D hD => ⟨_, by rw [hask]; rfl, fun h => by rw [hask] at h; omega⟩)
        · have htn : truths r ≠ [] := fun e => hc4 (by rw [e]; rfl)
          have hask : askErr r fine = 0 := by rw [askErr, if_neg hc1, if_neg (by simpa using hc2), if_neg htn]
          refine C.skip ?_
          refine C.next ?_
          refine C.seq ?_
          refine C.region [(false,0),(false,1),(false,2)] rfl ?_
          refine L.loadB1 rfl Tf.a95 rfl (List.Mem.head _) rfl List.not_mem_nil rfl trivial ?_
          refine L.assign rfl rfl rfl trivial ?_
          refine L.assign rfl rfl rfl trivial ?_
          refine L.nil ?_
          refine C.next ?_
          refine C.ret ?_
          refine Q.freeze (A := [(_, _), (_, _)]) (B := [(bd, .deferred (some []))]) hΦ' rfl (fun D8 hD8 hF8 => ?_)
          refine Q.freeze (A := [(_, _)]) (ν := [(q2, _)]) (B := [(bd, .deferred (some []))]) (acc_one (sz := 5) rfl) rfl (fun D9 hD9 hF9 => ?_)
          exact leaveM1 (vs := [_, _]) (A := [(_, _)]) rfl rfl rfl ⟨rfl, rfl, trivial⟩ (fun D hD => ⟨_, by rw [hask]; rfl, fun _ => ⟨hok, q2, pv, cv, v, rfl, (hF9.at (by omega)).up (hD _ (by simp)), hp.up RI.up (hD _ (by simp)), hc.up RC.up (hD _ (by simp)), (hF8.truths rfl (by omega) hall).up RT.up (hD _ (by simp))⟩⟩)
end Go.Fs
