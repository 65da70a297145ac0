/- Walks: Looks, Look, Least. -/
import Derived.Test.YtgnnlghoadfffaaW7
namespace Go.Fs
open Go.Proofs
open C1
theorem lookK_yes {ts : List (List Int)} {big : Int} {k : Nat} (h : max ((seenT ts k 0).length : Int) (seenT ts k 1).length < (lookK ts big k).2) : lookK ts big (k + 1) = ((k : Int), max ((seenT ts k 0).length : Int) (seenT ts k 1).length) := by simp only [lookK]; rw [if_pos h]
theorem lookK_no {ts : List (List Int)} {big : Int} {k : Nat} (h : ¬ max ((seenT ts k 0).length : Int) (seenT ts k 1).length < (lookK ts big k).2) : lookK ts big (k + 1) = lookK ts big k := by simp only [lookK]; rw [if_neg h]
open C1
theorem Looks_ok (rv : Value) (r : RowD) (i j : Int) (D : Data) (hr : RowIs D rv r) : Fn Try.prog 32 #[rv, .int .i64 i, .int .i64 j] D (fun _ v => v = .tuple #[.int .i64 (if askErr r (partOk r i j) = 0 then needN r.places.length i.toNat j.toNat (truths r) else 0), .int .i64 (askErr r (partOk r i j))]) := by
  have hr0 := hr
  obtain ⟨pv, cv, rfl, hp, hc⟩ := hr
  refine enter 36 Try.func32 rfl rfl rfl rfl fun h0 => ?_
  refine C.seq ?_
  refine C.region [(false,0),(false,1),(false,2)] rfl ?_
  refine L.boxD rfl rfl rfl rfl trivial (fun q1 E1 hE1 hB1 => ?_)
  refine L.assign rfl rfl rfl trivial ?_
  refine L.assign rfl rfl rfl trivial ?_
  refine L.nil ?_
  refine C.next ?_
  refine C.seq ?_
  refine C.draw [] 4 [0,1,2,3,4,5,6,7,8,9,10] [false,true,true,true,true,false,false,false,true,true,false] [(false,0),(true,1),(true,2),(true,3),(true,4),(false,5),(false,6),(false,7),(true,8),(true,9),(false,10)] Tf.follows (fun _ _ _ h => np_body (P := Try.prog) (fn := Try.f32) _ _ _ h) (by kernel_rfl) rfl ?_
  refine L.loadDW rfl Tf.a35 rfl hB1 (by first | simp | assumption) Tf.s35 List.not_mem_nil rfl trivial ?_
  refine L.loadDW rfl Tf.a35 rfl hB1 (by first | simp | assumption) Tf.s35 List.not_mem_nil rfl trivial ?_
  refine L.move rfl rfl rfl trivial ?_
  refine L.move rfl rfl rfl trivial ?_
  refine L.callV rfl rfl rfl (fun D1 hD1 => part_ok _ r i j _ (hr0.up (hD1 _ (by simp)))) rfl trivial ?_
  refine L.call rfl rfl rfl (fun D2 hD2 => asked_ok _ r _ _ (hr0.up (hD2 _ (by simp)))) rfl trivial (fun v2 D2 hD2 hp2 => ?_)
  obtain ⟨wv, rfl, hwk⟩ := hp2
  refine L.move rfl rfl rfl trivial ?_
  refine L.extract rfl rfl rfl rfl trivial ?_
  refine L.extract rfl rfl rfl rfl trivial ?_
  refine L.assign rfl rfl rfl trivial ?_
  refine L.assign rfl rfl rfl trivial ?_
  refine L.nil ?_
  refine C.next ?_
  refine C.seq ?_
  refine C.seq ?_
  refine C.region [(false,0),(false,1)] rfl ?_
  refine L.move rfl rfl rfl trivial ?_
  refine L.neq rfl rfl rfl rfl trivial ?_
  refine L.nil ?_
  refine C.next ?_
  refine C.condD rfl (fun hc1 => ?_) (fun hc1 => ?_)
  · refine C.seq ?_
    refine C.region [(false,0),(false,1),(false,2)] rfl ?_
    refine L.move rfl rfl rfl trivial ?_
    refine L.assign rfl rfl rfl trivial ?_
    refine L.assign rfl rfl rfl trivial ?_
    refine L.nil ?_
    refine C.next ?_
    refine C.ret ?_
    refine C.thenRet ?_
    exact leave (vs := [_, _]) rfl rfl rfl ⟨rfl, rfl, trivial⟩ (fun D hD => by show Value.tuple _ = _; rw [if_neg hc1])
  · have he0 : askErr r (partOk r i j) = 0 := by omega
    obtain ⟨hok, hw⟩ := hwk he0
    obtain ⟨wb, pv2, cv2, tv, rfl, hA, hp2, hc2', ht⟩ := id hw
    have htn := ask_some he0
    have hall := truths_all hok
    have hll := truths_length hok
    have hl := ht.len
    have hpt := ask_part hok he0
    refine C.skip ?_
    refine C.next ?_
    refine C.seq ?_
    refine C.region [(false,0),(false,1),(false,2),(false,3),(false,4),(false,5),(false,6)] rfl ?_
    refine L.move rfl rfl rfl trivial ?_
    refine L.move rfl rfl rfl trivial ?_
    refine L.move rfl rfl rfl trivial ?_
    refine L.makeMap rfl rfl trivial (fun qm => ?_)
    refine L.build (cs := [.pointer (some ⟨wb, 0, none⟩), .int .i64 i, .int .i64 j, .map (some qm)]) rfl Tf.p116 Tf.z116 rfl rfl rfl trivial ?_
    refine L.boxD rfl rfl rfl rfl trivial (fun q2 E2 hE2 hB2 => ?_)
    refine L.assign rfl rfl rfl trivial ?_
    refine L.nil ?_
    refine C.next ?_
    refine C.seq ?_
    refine C.region [(false,0),(false,1),(false,2),(false,3),(false,4),(false,5),(false,6),(false,7),(false,8)] rfl ?_
    refine L.move rfl rfl rfl trivial ?_
    refine L.move rfl rfl rfl trivial ?_
    refine L.nilCheck rfl rfl rfl trivial ?_
    refine L.fieldAddr rfl Tf.f102_1 rfl rfl trivial ?_
    refine L.loadD1 rfl (k := 4) Tf.a100 rfl hA (by first | simp | assumption) rfl List.not_mem_nil rfl trivial ?_
    refine L.build (cs := [.int .i64 0, .int .i64 0]) rfl Tf.p119 Tf.z119 rfl rfl rfl trivial ?_
    refine L.callB (A := []) (B := []) rfl rfl rfl rfl (Or.inl rfl) (show unfrozen (.map _ _) from trivial) (fun D5 hD5 => need_ok _ r i j _ _ hok hpt.1 hpt.2.1 hpt.2.2 _ (truths r) rfl tv 0 0 #[] 0 [] D5 htn (hB2.up (hD5 _ (by simp))) (hw.up (hD5 _ (by simp))) (agree_zero _).symm (ht.up RT.up (hD5 _ (by simp))) (by omega) (by omega) (fun q hq => hq) rfl (fun p hp => by cases hp)) rfl trivial (fun _ D6 _ hD6 hp6 => ?_)
    obtain ⟨rfl, es4, cl4, M4, rfl, hM4, hok4⟩ := hp6
    refine L.assign rfl rfl rfl trivial ?_
    refine L.assign rfl rfl rfl trivial ?_
    refine L.nil ?_
    refine C.next ?_
    refine C.ret ?_
    exact leave (vs := [_, _]) rfl rfl rfl ⟨rfl, rfl, trivial⟩ (fun D hD => by show Value.tuple _ = _; rw [if_pos he0, he0])
theorem Look_ok (rv : Value) (r : RowD) (D : Data) (hr : RowIs D rv r) : Fn Try.prog 31 #[rv] D (fun _ v => v = .tuple #[.int .i64 (if askErr r true = 0 then (lookK (truths r) ((truths r).length + 1) r.places.length).1 else 0), .int .i64 (if askErr r true = 0 then (lookK (truths r) ((truths r).length + 1) r.places.length).2 else 0), .int .i64 (askErr r true)]) := by
  have hr0 := hr
  obtain ⟨pv, cv, rfl, hp, hc⟩ := hr
  have hl1 := hp.len
  refine enter 50 Try.func31 rfl rfl rfl rfl fun h0 => ?_
  refine C.seq ?_
  refine C.region [(false,0),(false,1),(false,2),(false,3)] rfl ?_
  refine L.boxD rfl rfl rfl rfl trivial (fun q1 E1 hE1 hB1 => ?_)
  refine L.assign rfl rfl rfl trivial ?_
  refine L.assign rfl rfl rfl trivial ?_
  refine L.assign rfl rfl rfl trivial ?_
  refine L.nil ?_
  refine C.next ?_
  refine C.seq ?_
  refine C.region [(false,0),(false,1),(false,2),(false,3),(false,4),(false,5),(false,6)] rfl ?_
  refine L.loadDW rfl Tf.a35 rfl hB1 (by first | simp | assumption) Tf.s35 List.not_mem_nil rfl trivial ?_
  refine L.call rfl rfl rfl (fun D1 hD1 => asked_ok _ r _ _ (hr0.up (hD1 _ (by simp)))) rfl trivial (fun v1 D1 hD1 hp1 => ?_)
  obtain ⟨wv, rfl, hwk⟩ := hp1
  refine L.move rfl rfl rfl trivial ?_
  refine L.extract rfl rfl rfl rfl trivial ?_
  refine L.extract rfl rfl rfl rfl trivial ?_
  refine L.assign rfl rfl rfl trivial ?_
  refine L.assign rfl rfl rfl trivial ?_
  refine L.nil ?_
  refine C.next ?_
  refine C.seq ?_
  refine C.seq ?_
  refine C.region [(false,0),(false,1)] rfl ?_
  refine L.move rfl rfl rfl trivial ?_
  refine L.neq rfl rfl rfl rfl trivial ?_
  refine L.nil ?_
  refine C.next ?_
  refine C.condD rfl (fun hc1 => ?_) (fun hc1 => ?_)
  · refine C.seq ?_
    refine C.region [(false,0),(false,1),(false,2),(false,3)] rfl ?_
    refine L.move rfl rfl rfl trivial ?_
    refine L.assign rfl rfl rfl trivial ?_
    refine L.assign rfl rfl rfl trivial ?_
    refine L.assign rfl rfl rfl trivial ?_
    refine L.nil ?_
    refine C.next ?_
    refine C.ret ?_
    refine C.thenRet ?_
    exact leave (vs := [_, _, _]) rfl rfl rfl ⟨rfl, rfl, rfl, trivial⟩ (fun D hD => by show Value.tuple _ = _; rw [if_neg hc1, if_neg hc1])
  · have he0 : askErr r true = 0 := by omega
    obtain ⟨hok, hw⟩ := hwk he0
    obtain ⟨wb, pv2, cv2, tv, rfl, hA, hp2, hc2', ht⟩ := id hw
    have htn := ask_some he0
    have hall := truths_all hok
    have hll := truths_length hok
    have hl := ht.len
    refine C.skip ?_
    refine C.next ?_
    refine C.seq ?_
    refine C.region [(false,0),(false,1),(false,2),(false,3),(false,4),(false,5),(false,6)] rfl ?_
    refine L.move rfl rfl rfl trivial ?_
    refine L.nilCheck rfl rfl rfl trivial ?_
    refine L.fieldAddr rfl Tf.f102_1 rfl rfl trivial ?_
    refine L.loadD1 rfl (k := 4) Tf.a100 rfl hA (by first | simp | assumption) rfl List.not_mem_nil rfl trivial ?_
    refine L.len rfl Try.underlying100 rfl ht rfl rfl trivial ?_
    refine L.add rfl rfl rfl (by simp only [inK]; omega) rfl trivial ?_
    refine L.assign rfl rfl rfl trivial ?_
    refine L.nil ?_
    refine C.next ?_
    refine C.seq ?_
    refine C.seq ?_
    refine C.region [(false,0),(false,1),(false,2),(false,3)] rfl ?_
    refine L.fieldAddr rfl Tf.f35_0 rfl rfl trivial ?_
    refine L.loadD1 rfl (k := 0) Tf.a22 rfl hB1 (by first | simp | assumption) rfl List.not_mem_nil rfl trivial ?_
    refine L.len rfl Try.underlying22 rfl hp rfl rfl trivial ?_
    refine L.move rfl rfl rfl trivial ?_
    refine L.nil ?_
    refine C.next ?_
    refine C.block ?_
    refine C.loopC (γ := Nat) (fun k => r.places.length - k) (fun k => k ≤ r.places.length) (fun k => [(26, .int .i64 (k : Int)), (2, .int .i64 (lookK (truths r) ((truths r).length + 1) k).1), (3, .int .i64 (lookK (truths r) ((truths r).length + 1) k).2)]) [(25, _), (4, _), (5, _)] (fun k => [D1, E1, D]) 0 (by omega) ⟨(by first | rfl | (show some (Value.int _ _) = some (Value.int _ _); congr 2; omega)), (by first | rfl | (show some (Value.int _ _) = some (Value.int _ _); congr 2; omega)), (by first | rfl | (show some (Value.int _ _) = some (Value.int _ _); congr 2; omega)), trivial⟩ ⟨rfl, rfl, rfl, trivial⟩ (ds_same) ?_
    rintro k h1
    refine C.seq ?_
    refine C.region [(false,0)] rfl ?_
    refine L.lss rfl rfl rfl rfl trivial ?_
    refine L.nil ?_
    refine C.next ?_
    refine C.seq ?_
    refine C.condD rfl (fun hc2 => ?_) (fun hc2 => ?_)
    · have hk : k < r.places.length := by omega
      refine C.skip ?_
      refine C.next ?_
      refine C.seq ?_
      refine C.block ?_
      refine C.seq ?_
      refine C.region [(false,0),(false,1)] rfl ?_
      refine L.move rfl rfl rfl trivial ?_
      refine L.assign rfl rfl rfl trivial ?_
      refine L.nil ?_
      refine C.next ?_
      refine C.seq ?_
      refine C.region [(false,0),(false,1),(false,2),(false,3),(false,4),(false,5),(false,6),(false,7)] rfl ?_
      refine L.move rfl rfl rfl trivial ?_
      refine L.nilCheck rfl rfl rfl trivial ?_
      refine L.fieldAddr rfl Tf.f102_1 rfl rfl trivial ?_
      refine L.loadD1 rfl (k := 4) Tf.a100 rfl hA (by first | simp | assumption) rfl List.not_mem_nil rfl trivial ?_
      refine L.move rfl rfl rfl trivial ?_
      refine L.call rfl rfl rfl (fun D2 hD2 => split_ok tv (truths r) k _ (ht.up RT.up (hD2 _ (by simp))) (by omega) hall (by have := hok.len9; omega)) rfl trivial (fun v2 D2 hD2 hp2 => ?_)
      obtain ⟨v0, v1, rfl, hs0, hs1⟩ := hp2
      refine L.alloc rfl Tf.z111 rfl rfl trivial (fun q2 => ?_)
      refine L.storeW rfl rfl rfl rfl Tf.s111 (by first | rfl | (simp only [ints_length, *]; done) | (simp only [ints_length, *]; rfl) | (simp only [ints_length, *]; omega)) (by first | rfl | (simp only [ints_length, *]; done) | (simp only [ints_length, *]; rfl) | (simp only [ints_length, *]; omega)) (Has.head) (cell1_two hs0.cell1 hs1.cell1) trivial ?_
      refine L.nil ?_
      refine C.next ?_
      refine C.seq ?_
      refine C.region [(false,0),(false,1),(false,2),(false,3),(false,4),(false,5),(false,6),(false,7)] rfl ?_
      refine L.indexB rfl Try.underlying111 Tf.s100 rfl rfl (by omega) (by omega) rfl trivial ?_
      refine L.loadB1 rfl Tf.a100 rfl (List.Mem.head _) rfl List.not_mem_nil rfl trivial ?_
      refine L.len rfl Try.underlying100 rfl hs0 rfl rfl trivial ?_
      refine L.indexB rfl Try.underlying111 Tf.s100 rfl rfl (by omega) (by omega) rfl trivial ?_
      refine L.loadB1 rfl Tf.a100 rfl (List.Mem.head _) rfl List.not_mem_nil rfl trivial ?_
      refine L.len rfl Try.underlying100 rfl hs1 rfl rfl trivial ?_
      refine L.max2 rfl rfl rfl rfl trivial ?_
      refine L.assign rfl rfl rfl trivial ?_
      refine L.nil ?_
      refine C.next ?_
      refine C.seq ?_
      refine C.region [(false,0),(false,1),(false,2)] rfl ?_
      refine L.move rfl rfl rfl trivial ?_
      refine L.move rfl rfl rfl trivial ?_
      refine L.lss rfl rfl rfl rfl trivial ?_
      refine L.nil ?_
      refine C.next ?_
      refine C.condD rfl (fun hc3 => ?_) (fun hc3 => ?_)
      · refine C.region [(false,0),(false,1),(false,2),(false,3)] rfl ?_
        refine L.move rfl rfl rfl trivial ?_
        refine L.move rfl rfl rfl trivial ?_
        refine L.assign rfl rfl rfl trivial ?_
        refine L.assign rfl rfl rfl trivial ?_
        refine L.nil ?_
        refine C.blockEnd ?_
        refine C.next ?_
        refine C.region [(false,0),(false,1)] rfl ?_
        refine L.add rfl rfl rfl (by simp only [inK]; omega) rfl trivial ?_
        refine L.move rfl rfl rfl trivial ?_
        refine L.nil ?_
        exact C.againR 30 (k + 1) (by omega) (by omega) ⟨(by first | rfl | (show some (Value.int _ _) = some (Value.int _ _); congr 2; omega)), (by rw [lookK_yes hc3] <;> rfl), (by rw [lookK_yes hc3] <;> rfl), trivial⟩ rfl rfl (List.Sublist.cons _ (List.Sublist.refl _)) (fun D h => ⟨D, List.Mem.tail _ (h), Le.refl D⟩)
      · refine C.skip ?_
        refine C.blockEnd ?_
        refine C.next ?_
        refine C.region [(false,0),(false,1)] rfl ?_
        refine L.add rfl rfl rfl (by simp only [inK]; omega) rfl trivial ?_
        refine L.move rfl rfl rfl trivial ?_
        refine L.nil ?_
        exact C.againR 26 (k + 1) (by omega) (by omega) ⟨(by first | rfl | (show some (Value.int _ _) = some (Value.int _ _); congr 2; omega)), (by rw [lookK_no hc3] <;> rfl), (by rw [lookK_no hc3] <;> rfl), trivial⟩ rfl rfl (List.Sublist.cons _ (List.Sublist.refl _)) (fun D h => ⟨D, List.Mem.tail _ (h), Le.refl D⟩)
    · obtain rfl : k = r.places.length := by omega
      refine C.exit ?_
      refine C.thenExit ?_
      refine C.thenExit ?_
      refine C.blockExit ?_
      refine C.next ?_
      refine C.seq ?_
      refine C.region [(false,0),(false,1),(false,2),(false,3),(false,4)] rfl ?_
      refine L.move rfl rfl rfl trivial ?_
      refine L.move rfl rfl rfl trivial ?_
      refine L.assign rfl rfl rfl trivial ?_
      refine L.assign rfl rfl rfl trivial ?_
      refine L.assign rfl rfl rfl trivial ?_
      refine L.nil ?_
      refine C.next ?_
      refine C.ret ?_
      exact leave (vs := [_, _, _]) rfl rfl rfl ⟨rfl, rfl, rfl, trivial⟩ (fun D hD => by show Value.tuple _ = _; rw [if_pos he0, if_pos he0, he0])
theorem Least_ok (rv : Value) (r : RowD) (D : Data) (hr : RowIs D rv r) : Fn Try.prog 39 #[rv] D (fun _ v => v = .tuple #[.int .i64 (leastV r), .int .i64 (leastE r)]) := by
  have hr0 := hr
  obtain ⟨pv, cv, rfl, hp, hc⟩ := hr
  refine enterM 47 Try.func39 rfl rfl rfl rfl fun h0 => ?_
  refine C.seq ?_
  refine C.region [(false,0),(false,1),(false,2)] rfl ?_
  refine L.boxD rfl rfl rfl rfl trivial (fun q1 E1 hE1 hB1 => ?_)
  refine L.assign rfl rfl rfl trivial ?_
  refine L.assign rfl rfl rfl trivial ?_
  refine L.nil ?_
  refine C.next ?_
  refine C.seq ?_
  refine C.seq ?_
  refine C.region [(false,0),(false,1),(false,2)] rfl ?_
  refine L.loadDW rfl Tf.a35 rfl hB1 (by first | simp | assumption) Tf.s35 List.not_mem_nil rfl trivial ?_
  refine L.callV rfl rfl rfl (fun D1 hD1 => CheckRow_ok _ r _ (hr0.up (hD1 _ (by simp)))) rfl trivial ?_
  refine L.assign rfl rfl rfl trivial ?_
  refine L.nil ?_
  refine C.next ?_
  refine C.seq ?_
  refine C.region [(false,0),(false,1)] rfl ?_
  refine L.move rfl rfl rfl trivial ?_
  refine L.neq rfl rfl rfl rfl trivial ?_
  refine L.nil ?_
  refine C.next ?_
  refine C.condD rfl (fun hc1 => ?_) (fun hc1 => ?_)
  · refine C.seq ?_
    refine C.region [(false,0),(false,1),(false,2)] rfl ?_
    refine L.move rfl rfl rfl trivial ?_
    refine L.assign rfl rfl rfl trivial ?_
    refine L.assign rfl rfl rfl trivial ?_
    refine L.nil ?_
    refine C.next ?_
    refine C.ret ?_
    refine C.thenRet ?_
    exact leaveM0 (vs := [_, _]) rfl rfl rfl ⟨rfl, rfl, trivial⟩ (fun D hD => by show Value.tuple _ = _; rw [leastV, leastE, if_pos hc1, if_pos hc1] <;> rfl)
  · have hok : RowOk r := rowOk_iff.1 (by omega)
    refine C.skip ?_
    refine C.next ?_
    refine C.seq ?_
    refine C.region [(false,0),(false,1),(false,2),(false,3)] rfl ?_
    refine L.alloc rfl Tf.z3 rfl rfl trivial (fun q2 => ?_)
    refine L.alloc rfl Tf.z4 rfl rfl trivial (fun q3 => ?_)
    refine L.store rfl rfl rfl rfl Tf.s3 (.tail (Has.head)) (by simp) rfl (by simp [cell1]) trivial ?_
    refine L.store rfl rfl rfl rfl Tf.s4 (Has.head) (by simp) rfl (by simp [cell1]) trivial ?_
    refine L.nil ?_
    refine C.next ?_
    refine C.seq ?_
    refine C.region [(false,0)] rfl ?_
    refine L.alloc rfl Tf.z121 rfl rfl trivial (fun q4 => ?_)
    refine L.nil ?_
    refine C.next ?_
    refine C.seq ?_
    refine C.seq ?_
    refine C.region [(false,0),(false,1)] rfl ?_
    refine L.loadDW rfl Tf.a35 rfl hB1 (by first | simp | assumption) Tf.s35 List.not_mem_nil rfl trivial ?_
    refine L.call rfl rfl rfl (fun D2 hD2 => rows_ok _ r _ (hr0.up (hD2 _ (by simp))) hok.len9) rfl trivial (fun v2 D2 hD2 hp2 => ?_)
    refine L.nil ?_
    refine C.next ?_
    refine C.block ?_
    obtain ⟨br, rfl, hit⟩ := hp2
    refine C.rangeFunc (γ := Option Int × List Int) (xs := (allT r.places).map pad9) (enc := encT) (Dr := D2) (LeastI r) (fun _ _ _ => False) (fun g => [(q4, .cells (ints g.2).toArray 121 (0, 0)), (q3, .cells [.bool g.1.isSome].toArray 4 (0, 0)), (q2, .cells [.int .i64 (g.1.getD 0)].toArray 3 (0, 0))]) (none, List.replicate 9 0) rfl rfl rfl rfl hit (by simp) (fun _ => rfl) rfl ⟨rfl, rfl, fun u hu => by simp at hu⟩ rfl ?_ ?_ (fun _ _ _ _ h => h.elim)
    · rintro pre x ⟨o, last⟩ ⟨us, hx⟩ hΦ l bd rec hh D7 hD7 hst hpend
      obtain ⟨t, hk, rfl, htm, htake⟩ := allT_step hx
      obtain ⟨hlen, htb⟩ := allT_ok htm
      have htr : TruthOk r t := ⟨hlen, htb⟩
      have hp9 := pad9_length (t := t) (by have := hok.len9; omega)
      have hl9 : last.length = 9 := hΦ.2.1
      refine C.region [(false,0),(false,1)] rfl ?_
      refine L.alloc rfl Tf.z121 rfl rfl trivial (fun q5 => ?_)
      refine L.storeW rfl rfl rfl rfl Tf.s121 (by first | rfl | (simp only [ints_length, *]; done) | (simp only [ints_length, *]; rfl) | (simp only [ints_length, *]; omega)) (by first | rfl | (simp only [ints_length, *]; done) | (simp only [ints_length, *]; rfl) | (simp only [ints_length, *]; omega)) (Has.head) (by first | exact ints_cell1 _ | simp [cell1]) trivial ?_
      refine L.nil ?_
      refine fun a w hhh => C.begin (A := [(_, _), (_, _), (_, _), (_, _)]) (B := [(bd, .deferred (some []))]) (r := rec) (l := l) (by rfl) hst ?_ a w hhh
      refine C.block ?_
      refine C.seq ?_
      refine C.seq ?_
      refine C.region [(false,0),(false,1),(false,2),(false,3),(false,4),(false,5)] rfl ?_
      refine L.loadB1 rfl Tf.a4 rfl (List.Mem.tail _ (List.Mem.tail _ (List.Mem.head _))) rfl List.not_mem_nil rfl trivial ?_
      refine L.move rfl rfl rfl trivial ?_
      refine' L.and [(false,2),(false,3),(false,4),(false,5)] [] (s := 20) (p := 24) rfl rfl (fun hg1 => ?_) (fun hg1 => ?_) ?_
      rotate_left
      · refine L.loadBW rfl Tf.a121 rfl (List.Mem.head _) (by first | exact Tf.s121 | (simp only [ints_length, *]; exact Tf.s121)) List.not_mem_nil rfl ⟨_, rfl, rfl⟩ ?_
        refine L.loadBW rfl Tf.a121 rfl (List.Mem.tail _ (List.Mem.head _)) (by first | exact Tf.s121 | (simp only [ints_length, *]; exact Tf.s121)) List.not_mem_nil rfl ⟨_, rfl, rfl⟩ ?_
        refine L.eqlA rfl (by kernel_rfl) Try.underlying121 Try.underlying3 (by kernel_rfl) hp9 hl9 rfl rfl rfl ⟨_, rfl, rfl⟩ ?_
        refine L.pickT rfl rfl rfl rfl trivial ?_
        exact L.nil fun a w hh => hh.cutK 3 rfl
      · refine L.pass rfl rfl rfl ⟨_, _, rfl, rfl, rfl⟩ ?_
        refine L.pass rfl rfl rfl ⟨_, _, rfl, rfl, rfl⟩ ?_
        refine L.pass rfl rfl rfl ⟨_, _, rfl, rfl, rfl⟩ ?_
        refine L.pickF rfl rfl rfl rfl trivial ?_
        exact L.nil fun a w hh => hh.cutK 3 rfl
      refine L.nil ?_
      refine C.next ?_
      refine C.cond rfl (fun hc2 => ?_) (fun hc2 => ?_)
      · refine C.exit ?_
        refine C.thenExit ?_
        refine C.blockExit ?_
        exact fun a w hh => C.roundOn (A := [(_, _), (_, _), (_, _)]) (B := [(bd, .deferred (some []))]) (o, last) (least_skip hΦ htm htake hc2) rfl rfl a w (hh.dropBoxes 1)
      · refine C.skip ?_
        refine C.next ?_
        refine C.seq ?_
        refine C.region [(false,0),(false,1)] rfl ?_
        refine L.loadBW rfl Tf.a121 rfl (List.Mem.head _) (by first | exact Tf.s121 | (simp only [ints_length, *]; exact Tf.s121)) List.not_mem_nil rfl trivial ?_
        refine L.storeW rfl rfl rfl rfl Tf.s121 (by first | rfl | (simp only [ints_length, *]; done) | (simp only [ints_length, *]; rfl) | (simp only [ints_length, *]; omega)) (by first | rfl | (simp only [ints_length, *]; done) | (simp only [ints_length, *]; rfl) | (simp only [ints_length, *]; omega)) (.tail (Has.head)) (by first | exact ints_cell1 _ | simp [cell1]) trivial ?_
        refine L.nil ?_
        refine C.next ?_
        refine C.seq ?_
        refine C.draw [] 4 [0,1,2,3,4,5,6,7,8] [false,true,true,false,false,false,true,true,false] [(false,0),(true,1),(true,2),(false,3),(false,4),(false,5),(true,6),(true,7),(false,8)] Tf.follows (fun _ _ _ h => h) (by kernel_rfl) rfl ?_
        refine L.loadDW rfl Tf.a35 rfl hB1 (by first | simp | assumption) Tf.s35 List.not_mem_nil rfl trivial ?_
        refine L.loadBW rfl Tf.a121 rfl (List.Mem.head _) (by first | exact Tf.s121 | (simp only [ints_length, *]; exact Tf.s121)) List.not_mem_nil rfl trivial ?_
        refine L.callV rfl rfl rfl (fun D3 hD3 => sumsP_ok t _ (by have := hok.len9; omega) htb) rfl trivial ?_
        refine L.callV rfl rfl rfl (fun D4 hD4 => wrong_ok _ r t _ (hr0.up (hD4 _ (by simp))) hok htr) rfl trivial ?_
        refine L.move rfl rfl rfl trivial ?_
        refine L.extract rfl rfl rfl rfl trivial ?_
        refine L.extract rfl rfl rfl rfl trivial ?_
        refine L.assign rfl rfl rfl trivial ?_
        refine L.assign rfl rfl rfl trivial ?_
        refine L.nil ?_
        refine C.next ?_
        refine C.seq ?_
        refine C.region [(false,0),(false,1),(false,2),(false,3),(false,4),(false,5),(false,6),(false,7),(false,8),(false,9)] rfl ?_
        refine L.move rfl rfl rfl trivial ?_
        refine L.move rfl rfl rfl trivial ?_
        refine' L.and [(false,2),(false,3),(false,4),(false,5),(false,6),(false,7),(false,8),(false,9)] [] (s := 34) (p := 42) rfl rfl (fun hg2 => ?_) (fun hg2 => ?_) ?_
        rotate_left
        · refine L.loadB1 rfl Tf.a4 rfl (List.Mem.tail _ (List.Mem.tail _ (List.Mem.head _))) rfl List.not_mem_nil rfl ⟨_, rfl, rfl⟩ ?_
          refine L.not rfl rfl rfl ⟨_, rfl, rfl⟩ ?_
          refine L.move rfl rfl rfl ⟨_, rfl, rfl⟩ ?_
          refine' L.or [(false,5),(false,6),(false,7),(false,8)] [(false,9)] (s := 37) (p := 41) rfl rfl (fun hg3 => ?_) (fun hg3 => ?_) ?_
          rotate_left
          · refine L.move rfl rfl rfl ⟨_, rfl, rfl⟩ ?_
            refine L.loadB1 rfl Tf.a3 rfl (List.Mem.tail _ (List.Mem.tail _ (List.Mem.tail _ (List.Mem.head _)))) rfl List.not_mem_nil rfl ⟨_, rfl, rfl⟩ ?_
            refine L.lss rfl rfl rfl rfl ⟨_, rfl, rfl⟩ ?_
            refine L.pickF rfl rfl rfl rfl ⟨_, rfl, rfl⟩ ?_
            exact L.nil fun a w hh => hh.cutK 3 rfl
          · refine L.pass rfl rfl rfl ⟨_, _, rfl, rfl, rfl⟩ ?_
            refine L.pass rfl rfl rfl ⟨_, _, rfl, rfl, rfl⟩ ?_
            refine L.pass rfl rfl rfl ⟨_, _, rfl, rfl, rfl⟩ ?_
            refine L.pickT rfl rfl rfl rfl ⟨_, rfl, rfl⟩ ?_
            exact L.nil fun a w hh => hh.cutK 3 rfl
          refine L.pickT rfl rfl rfl rfl trivial ?_
          exact L.nil fun a w hh => hh.cutK 4 rfl
        · refine L.pass rfl rfl rfl ⟨_, _, rfl, rfl, rfl⟩ ?_
          refine L.pass rfl rfl rfl ⟨_, _, rfl, rfl, rfl⟩ ?_
          refine L.pass rfl rfl rfl ⟨_, _, rfl, rfl, rfl⟩ ?_
          refine L.pass rfl rfl rfl ⟨_, _, rfl, rfl, rfl⟩ ?_
          refine L.pass rfl rfl rfl ⟨_, _, rfl, rfl, rfl⟩ ?_
          refine L.pass rfl rfl rfl ⟨_, _, rfl, rfl, rfl⟩ ?_
          refine L.pass rfl rfl rfl ⟨_, _, rfl, rfl, rfl⟩ ?_
          refine L.pickF rfl rfl rfl rfl trivial ?_
          exact L.nil fun a w hh => hh.cutK 7 rfl
        refine L.nil ?_
        refine C.next ?_
        refine C.cond rfl (fun hc3 => ?_) (fun hc3 => ?_)
        · refine C.region [(false,0),(false,1),(false,2)] rfl ?_
          refine L.move rfl rfl rfl trivial ?_
          refine L.store rfl rfl rfl rfl Tf.s3 (.tail (.tail (.tail (Has.head)))) (by simp) rfl (by simp [cell1]) trivial ?_
          refine L.store rfl rfl rfl rfl Tf.s4 (.tail (.tail (Has.head))) (by simp) rfl (by simp [cell1]) trivial ?_
          refine L.nil ?_
          refine C.blockEnd ?_
          exact fun a w hh => C.roundOn (A := [(_, _), (_, _), (_, _)]) (B := [(bd, .deferred (some []))]) (some (if explains r t = true then (wrongs r t : Int) else 0), pad9 t) (least_yes hΦ hp9 htake hc3) rfl rfl a w (hh.dropBoxes 1)
        · refine C.skip ?_
          refine C.blockEnd ?_
          exact fun a w hh => C.roundOn (A := [(_, _), (_, _), (_, _)]) (B := [(bd, .deferred (some []))]) (o, pad9 t) (least_no hΦ hp9 htake hc3) rfl rfl a w (hh.dropBoxes 1)
    · rintro ⟨o, last⟩ bd hΦ
      have ho : o = leastOf r (allT r.places) := by simpa [LeastI] using hΦ.1
      have hf0 : fault r = 0 := by omega
      refine C.blockEnd ?_
      refine C.next ?_
      refine C.seq ?_
      refine C.seq ?_
      refine C.region [(false,0),(false,1)] rfl ?_
      refine L.loadB1 rfl Tf.a4 rfl (List.Mem.tail _ (List.Mem.head _)) rfl List.not_mem_nil rfl trivial ?_
      refine L.not rfl rfl rfl trivial ?_
      refine L.nil ?_
      refine C.next ?_
      refine C.cond rfl (fun hc4 => ?_) (fun hc4 => ?_)
      · refine C.seq ?_
        refine C.region [(false,0),(false,1)] rfl ?_
        refine L.assign rfl rfl rfl trivial ?_
        refine L.assign rfl rfl rfl trivial ?_
        refine L.nil ?_
        refine C.next ?_
        refine C.ret ?_
        refine C.thenRet ?_
        exact leaveM1 (vs := [_, _]) (A := [(_, _), (_, _), (_, _)]) rfl rfl rfl ⟨rfl, rfl, trivial⟩ (fun D hD => by show Value.tuple _ = _; rw [(least_r2 ho hf0 hc4).1, (least_r2 ho hf0 hc4).2] <;> rfl)
      · refine C.skip ?_
        refine C.next ?_
        refine C.seq ?_
        refine C.region [(false,0),(false,1),(false,2)] rfl ?_
        refine L.loadB1 rfl Tf.a3 rfl (List.Mem.tail _ (List.Mem.tail _ (List.Mem.head _))) rfl List.not_mem_nil rfl trivial ?_
        refine L.assign rfl rfl rfl trivial ?_
        refine L.assign rfl rfl rfl trivial ?_
        refine L.nil ?_
        refine C.next ?_
        refine C.ret ?_
        exact leaveM1 (vs := [_, _]) (A := [(_, _), (_, _), (_, _)]) rfl rfl rfl ⟨rfl, rfl, trivial⟩ (fun D hD => by show Value.tuple _ = _; rw [(least_r3 ho hf0 hc4).1, (least_r3 ho hf0 hc4).2] <;> rfl)
end Go.Fs
