/- Walks: the law MendEnds. -/
import Derived.Test.YtjhdcelmgfajbaaW26
namespace Go.Fs
open Go.Proofs
open C7
theorem ready_in {y : YardD} (h : (!(thin y && decide (fault y = 0))) = false) : thin y = true ∧ fault y = 0 := by
  simp only [Bool.not_eq_false', Bool.and_eq_true, decide_eq_true_eq] at h; exact h
def isAt (y : YardD) (v n : Int) : Bool := decide ((allN y).getD n.toNat 0 = v)
theorem isAt_at {y : YardD} {v w : Int} {j : Nat} (h : (allN y)[j]? = some w) : isAt y v (j : Int) = decide (w = v) := by
  unfold isAt; rw [Int.toNat_natCast, List.getD_eq_getElem?_getD, h]; rfl
theorem any_step {α : Type} {f : α → Bool} {l : List α} {k : Nat} {x : α} (h : l[k]? = some x) : (l.take (k + 1)).any f = ((l.take k).any f || f x) := by
  rw [List.take_add_one, h, Option.toList_some, List.any_append]; simp
theorem me_err {y : YardD} (h : askS y ≠ 0) : (decide ((boundsV y).2 = askS y) && true) = true := by rw [bounds_err h]; simp
theorem ends_in {y : YardD} (h : askS y = 0) : (nsD y).any (isAt y (boundsV y).1.1) = true ∧ (nsD y).any (isAt y (boundsV y).1.2) = true := by
  obtain ⟨hf, hne⟩ := askS_zero h
  have hin := mosts_in (yOk hf)
  have e1 : bndR (allN y) (nsD y) = ((mostsL y).foldl min 99, (mostsL y).foldl max (-1)) := by
    unfold bndR mostsL
    rw [← fold_mm _ (99, -1), List.foldl_map]
  rw [bounds_is h, e1]
  simp only
  obtain ⟨n, hn⟩ := List.exists_mem_of_ne_nil _ hne
  have hz : (allN y).getD n.toNat 0 ∈ mostsL y := List.mem_map.2 ⟨n, hn, rfl⟩
  have b := hin _ hz
  have key : ∀ v, v ∈ mostsL y → (nsD y).any (isAt y v) = true := fun v hv => by
    obtain ⟨m, hm, rfl⟩ := List.mem_map.1 hv
    rw [List.any_eq_true]
    exact ⟨m, hm, by unfold isAt; simp⟩
  obtain ⟨a1, a2, a3⟩ := fmin (mostsL y) 99
  obtain ⟨b1, b2, b3⟩ := fmax (mostsL y) (-1)
  refine ⟨key _ ?_, key _ ?_⟩
  · rcases a1 with a1 | a1
    · have := a3 _ hz; omega
    · exact a1
  · rcases b1 with b1 | b1
    · have := b3 _ hz; omega
    · exact b1
theorem me_ok {y : YardD} (h : askS y = 0) : (((decide ((boundsV y).2 = 0) && (nsD y).any (isAt y (boundsV y).1.1)) && (nsD y).any (isAt y (boundsV y).1.2)) && true) = true := by
  rw [(ends_in h).1, (ends_in h).2, bounds_is h]; rfl
theorem MendEnds_ok (yv : Value) (y : YardD) (D : Data) (hy : YardIs D yv y) : Fn Try.prog 8 #[yv] D (fun _ v => v = .bool true) := by
  have hy0 := hy
  obtain ⟨cv, qv, rfl, hc, hq⟩ := hy
  refine enter 78 Try.func8 rfl rfl rfl rfl fun h0 => ?_
  refine C.seq ?_
  refine C.region [(false,0),(false,1)] rfl ?_
  refine L.boxD rfl rfl rfl rfl trivial (fun q1 E1 hE1 hB1 => ?_)
  refine L.assign rfl rfl rfl trivial ?_
  refine L.nil ?_
  refine C.next ?_
  refine C.seq ?_
  refine C.seq ?_
  refine C.region [(false,0),(false,1),(false,2)] rfl ?_
  refine L.loadDW rfl Tf.a25 rfl hB1 (by first | simp | assumption) Tf.s25 List.not_mem_nil rfl trivial ?_
  refine L.callV rfl rfl rfl (fun D1 hD1 => ready_ok _ y _ (hy0.up (hD1 _ (by simp)))) rfl trivial ?_
  refine L.not rfl rfl rfl trivial ?_
  refine L.nil ?_
  refine C.next ?_
  refine C.cond rfl (fun hc1 => ?_) (fun hc1 => ?_)
  · refine C.seq ?_
    refine C.region [(false,0),(false,1)] rfl ?_
    refine L.callV rfl rfl rfl (fun D2 hD2 => awake_ok _) rfl trivial ?_
    refine L.assign rfl rfl rfl trivial ?_
    refine L.nil ?_
    refine C.next ?_
    refine C.ret ?_
    refine C.thenRet ?_
    exact leave (vs := [_]) rfl rfl rfl ⟨rfl, trivial⟩ (fun D hD => rfl)
  · obtain ⟨hthin, hf0⟩ := ready_in hc1
    obtain ⟨hlc, hlq⟩ := thin_len hthin
    refine C.skip ?_
    refine C.next ?_
    refine C.seq ?_
    refine C.region [(false,0),(false,1),(false,2),(false,3),(false,4),(false,5),(false,6),(false,7),(false,8)] rfl ?_
    refine L.loadDW rfl Tf.a25 rfl hB1 (by first | simp | assumption) Tf.s25 List.not_mem_nil rfl trivial ?_
    refine L.call rfl rfl rfl (fun D3 hD3 => YardL_ok _ y _ (hy0.up (hD3 _ (by simp))) (by omega) (by omega)) rfl trivial (fun v3 D3 hD3 hp3 => ?_)
    have hw := hp3
    refine L.callV rfl rfl rfl (fun D4 hD4 => Bounds_ok _ y _ (hw.up (hD4 _ (by simp)))) rfl trivial ?_
    refine L.move rfl rfl rfl trivial ?_
    refine L.extract rfl rfl rfl rfl trivial ?_
    refine L.extract rfl rfl rfl rfl trivial ?_
    refine L.alloc rfl Tf.z61 rfl rfl trivial (fun q2 => ?_)
    refine L.storeW rfl rfl rfl rfl Tf.s61 (by first | rfl | (simp only [ints_length, *]; done) | (simp only [ints_length, *]; rfl) | (simp only [ints_length, *]; omega)) (by first | rfl | (simp only [ints_length, *]; done) | (simp only [ints_length, *]; rfl) | (simp only [ints_length, *]; omega)) (Has.head) (by first | exact ints_cell1 _ | simp [cell1]) trivial ?_
    refine L.assign rfl rfl rfl trivial ?_
    refine L.nil ?_
    refine C.next ?_
    refine C.seq ?_
    refine C.region [(false,0),(false,1),(false,2),(false,3),(false,4),(false,5),(false,6),(false,7),(false,8)] rfl ?_
    refine L.loadDW rfl Tf.a25 rfl hB1 (by first | simp | assumption) Tf.s25 List.not_mem_nil rfl trivial ?_
    refine L.call rfl rfl rfl (fun D5 hD5 => sureL_ok _ y _ (hy0.up (hD5 _ (by simp)))) rfl trivial (fun v5 D5 hD5 hp5 => ?_)
    obtain ⟨sv, av, rfl, hsv, hav⟩ := hp5
    refine L.move rfl rfl rfl trivial ?_
    refine L.extract rfl rfl rfl rfl trivial ?_
    refine L.extract rfl rfl rfl rfl trivial ?_
    refine L.extract rfl rfl rfl rfl trivial ?_
    refine L.assign rfl rfl rfl trivial ?_
    refine L.assign rfl rfl rfl trivial ?_
    refine L.assign rfl rfl rfl trivial ?_
    refine L.nil ?_
    refine C.next ?_
    refine C.seq ?_
    refine C.seq ?_
    refine C.region [(false,0),(false,1)] rfl ?_
    refine L.move rfl rfl rfl trivial ?_
    refine L.neq rfl rfl rfl rfl trivial ?_
    refine L.nil ?_
    refine C.next ?_
    refine C.condD rfl (fun hc2 => ?_) (fun hc2 => ?_)
    · refine C.seq ?_
      refine C.region [(false,0),(false,1),(false,2),(false,3),(false,4),(false,5),(false,6)] rfl ?_
      refine L.move rfl rfl rfl trivial ?_
      refine L.move rfl rfl rfl trivial ?_
      refine L.eql rfl rfl rfl rfl trivial ?_
      refine L.move rfl rfl rfl trivial ?_
      refine' L.and [(false,4),(false,5)] [(false,6)] (s := 32) (p := 34) rfl rfl (fun hg1 => ?_) (fun hg1 => ?_) ?_
      rotate_left
      · refine L.callV rfl rfl rfl (fun D6 hD6 => awake_ok _) rfl ⟨_, rfl, rfl⟩ ?_
        refine L.pickT rfl rfl rfl rfl trivial ?_
        exact L.nil fun a w hh => hh.cutK 1 rfl
      · refine L.pass rfl rfl rfl ⟨_, _, rfl, rfl, rfl⟩ ?_
        refine L.pickF rfl rfl rfl rfl trivial ?_
        exact L.nil fun a w hh => hh.cutK 1 rfl
      refine L.assign rfl rfl rfl trivial ?_
      refine L.nil ?_
      refine C.next ?_
      refine C.ret ?_
      refine C.thenRet ?_
      exact leave (vs := [_]) rfl rfl rfl ⟨rfl, trivial⟩ (fun D hD => congrArg Value.bool (me_err hc2))
    · have hz : askS y = 0 := by omega
      obtain ⟨_, hne⟩ := askS_zero hz
      rw [if_pos hz] at hsv
      rw [if_pos hf0] at hav
      have hsl := hsv.len
      refine C.skip ?_
      refine C.next ?_
      refine C.seq ?_
      refine C.region [(false,0),(false,1)] rfl ?_
      refine L.assign rfl rfl rfl trivial ?_
      refine L.assign rfl rfl rfl trivial ?_
      refine L.nil ?_
      refine C.next ?_
      refine C.seq ?_
      refine C.seq ?_
      refine C.region [(false,0)] rfl ?_
      refine L.assign rfl rfl rfl trivial ?_
      refine L.nil ?_
      refine C.next ?_
      refine C.block ?_
      refine C.loopR (γ := Nat) (fun k => (nsD y).length - k) (fun k => k ≤ (nsD y).length) (fun k => [(8, .bool (((nsD y).take k).any (isAt y (boundsV y).1.1))), (9, .bool (((nsD y).take k).any (isAt y (boundsV y).1.2))), (10, .int .i64 (k : Int))]) [(6, _), (5, _), (4, _), (3, _), (2, _)] (fun k => [(q2, .cells [.int .i64 (boundsV y).1.1, .int .i64 (boundsV y).1.2].toArray 61 (0, 0))]) (fun k => [D5, D3, E1, D]) 0 (by omega) ⟨(by first | rfl | (show some (Value.int _ _) = some (Value.int _ _); congr 2; omega)), (by first | rfl | (show some (Value.int _ _) = some (Value.int _ _); congr 2; omega)), (by first | rfl | (show some (Value.int _ _) = some (Value.int _ _); congr 2; omega)), trivial⟩ ⟨rfl, rfl, rfl, rfl, rfl, trivial⟩ (List.Sublist.refl _) (ds_same) ?_
      rintro k h1
      refine C.seq ?_
      refine C.seq ?_
      refine C.region [(false,0),(false,1),(false,2),(false,3)] rfl ?_
      refine L.move rfl rfl rfl trivial ?_
      refine L.move rfl rfl rfl trivial ?_
      refine L.len rfl Try.underlying52 rfl hsv rfl rfl trivial ?_
      refine L.lss rfl rfl rfl rfl trivial ?_
      refine L.nil ?_
      refine C.next ?_
      refine C.condD rfl (fun hc3 => ?_) (fun hc3 => ?_)
      · have hk : k < (nsD y).length := by omega
        obtain ⟨x, hx⟩ : ∃ x, (nsD y)[k]? = some x := ⟨_, List.getElem?_eq_getElem hk⟩
        obtain ⟨j, rfl, hj⟩ := ns_in x (List.mem_of_getElem? hx)
        obtain ⟨w, hw⟩ : ∃ w, (allN y)[j]? = some w := ⟨_, List.getElem?_eq_getElem hj⟩
        refine C.skip ?_
        refine C.next ?_
        refine C.seq ?_
        refine C.block ?_
        refine C.draw [] 6 [0,1,2,3,4,5,6,7,8,9,10,11,12,13,14,15,16,17,18,19,20,21,22,23,24,25,26,27] [false,false,false,true,true,true,true,false,false,true,true,false,false,true,true,true,true,true,true,true,true,true,true,true,true,true,true,false] [(false,0),(false,1),(false,2),(true,3),(true,4),(true,5),(true,6),(false,7),(false,8),(true,9),(true,10),(false,11),(false,12),(true,13),(true,14),(true,15),(true,16),(true,17),(true,18),(true,19),(true,20),(true,21),(true,22),(true,23),(true,24),(true,25),(true,26),(false,27)] Tf.follows (fun _ _ _ h => np_body (P := Try.prog) (fn := Try.f8) _ _ _ h) (by kernel_rfl) rfl ?_
        refine L.move rfl rfl rfl trivial ?_
        refine L.move rfl rfl rfl trivial ?_
        refine' L.or [(false,2),(true,3),(true,4),(true,5),(true,6),(false,7),(false,8),(true,9),(true,10),(false,11),(false,12)] [(true,13),(true,14),(true,15),(true,16),(true,17),(true,18),(true,19),(true,20),(true,21),(true,22),(true,23),(true,24),(true,25),(true,26),(false,27)] (s := 42) (p := 53) rfl rfl (fun hg2 => ?_) (fun hg2 => ?_) ?_
        rotate_left
        · refine L.move rfl rfl rfl ⟨_, rfl, rfl⟩ ?_
          refine L.move rfl rfl rfl ⟨_, rfl, rfl⟩ ?_
          refine L.move rfl rfl rfl ⟨_, rfl, rfl⟩ ?_
          refine L.indexS rfl Try.underlying52 Tf.s3 rfl hsv rfl (by omega) hx rfl ⟨_, rfl, rfl⟩ (fun b1 o1 cs1 hr1 hcl1 hA1 => ?_)
          obtain rfl : cs1 = [.int .i64 _] := hr1
          refine L.loadD1 rfl (k := 0) Tf.a3 rfl hA1 (by first | simp | assumption) rfl List.not_mem_nil rfl ⟨_, rfl, rfl⟩ ?_
          refine L.indexS rfl Try.underlying52 Tf.s3 rfl hav rfl (by omega) hw rfl ⟨_, rfl, rfl⟩ (fun b2 o2 cs2 hr2 hcl2 hA2 => ?_)
          obtain rfl : cs2 = [.int .i64 _] := hr2
          refine L.loadD1 rfl (k := 0) Tf.a3 rfl hA2 (by first | simp | assumption) rfl List.not_mem_nil rfl ⟨_, rfl, rfl⟩ ?_
          refine L.fieldAddr rfl Tf.f61_0 rfl rfl ⟨_, rfl, rfl⟩ ?_
          refine L.loadB1 rfl Tf.a3 rfl (List.Mem.head _) rfl List.not_mem_nil rfl ⟨_, rfl, rfl⟩ ?_
          refine L.eql rfl rfl rfl rfl ⟨_, rfl, rfl⟩ ?_
          refine L.pickF rfl rfl rfl rfl trivial ?_
          exact L.nil fun a w hh => hh.cutK 10 rfl
        · refine L.pass rfl rfl rfl ⟨_, _, rfl, rfl, rfl⟩ ?_
          refine L.pass rfl rfl rfl ⟨_, _, rfl, rfl, rfl⟩ ?_
          refine L.pass rfl rfl rfl ⟨_, _, rfl, rfl, rfl⟩ ?_
          refine L.pass rfl rfl rfl ⟨_, _, rfl, rfl, rfl⟩ ?_
          refine L.pass rfl rfl rfl ⟨_, _, rfl, rfl, rfl⟩ ?_
          refine L.pass rfl rfl rfl ⟨_, _, rfl, rfl, rfl⟩ ?_
          refine L.pass rfl rfl rfl ⟨_, _, rfl, rfl, rfl⟩ ?_
          refine L.pass rfl rfl rfl ⟨_, _, rfl, rfl, rfl⟩ ?_
          refine L.pass rfl rfl rfl ⟨_, _, rfl, rfl, rfl⟩ ?_
          refine L.pass rfl rfl rfl ⟨_, _, rfl, rfl, rfl⟩ ?_
          refine L.pickT rfl rfl rfl rfl trivial ?_
          exact L.nil fun a w hh => hh.cutK 10 rfl
        refine L.move rfl rfl rfl trivial ?_
        refine L.move rfl rfl rfl trivial ?_
        refine' L.or [(true,15),(true,16),(true,17),(true,18),(true,19),(true,20),(true,21),(true,22),(true,23),(true,24),(true,25)] [(true,26),(false,27)] (s := 55) (p := 66) rfl rfl (fun hg3 => ?_) (fun hg3 => ?_) ?_
        rotate_left
        · refine L.move rfl rfl rfl ⟨_, rfl, rfl⟩ ?_
          refine L.move rfl rfl rfl ⟨_, rfl, rfl⟩ ?_
          refine L.move rfl rfl rfl ⟨_, rfl, rfl⟩ ?_
          refine L.indexS rfl Try.underlying52 Tf.s3 rfl hsv rfl (by omega) hx rfl ⟨_, rfl, rfl⟩ (fun b3 o3 cs3 hr3 hcl3 hA3 => ?_)
          obtain rfl : cs3 = [.int .i64 _] := hr3
          refine L.loadD1 rfl (k := 0) Tf.a3 rfl hA3 (by first | simp | assumption) rfl List.not_mem_nil rfl ⟨_, rfl, rfl⟩ ?_
          refine L.indexS rfl Try.underlying52 Tf.s3 rfl hav rfl (by omega) hw rfl ⟨_, rfl, rfl⟩ (fun b4 o4 cs4 hr4 hcl4 hA4 => ?_)
          obtain rfl : cs4 = [.int .i64 _] := hr4
          refine L.loadD1 rfl (k := 0) Tf.a3 rfl hA4 (by first | simp | assumption) rfl List.not_mem_nil rfl ⟨_, rfl, rfl⟩ ?_
          refine L.fieldAddr rfl Tf.f61_1 rfl rfl ⟨_, rfl, rfl⟩ ?_
          refine L.loadB1 rfl Tf.a3 rfl (List.Mem.head _) rfl List.not_mem_nil rfl ⟨_, rfl, rfl⟩ ?_
          refine L.eql rfl rfl rfl rfl ⟨_, rfl, rfl⟩ ?_
          refine L.pickF rfl rfl rfl rfl trivial ?_
          exact L.nil fun a w hh => hh.cutK 10 rfl
        · refine L.pass rfl rfl rfl ⟨_, _, rfl, rfl, rfl⟩ ?_
          refine L.pass rfl rfl rfl ⟨_, _, rfl, rfl, rfl⟩ ?_
          refine L.pass rfl rfl rfl ⟨_, _, rfl, rfl, rfl⟩ ?_
          refine L.pass rfl rfl rfl ⟨_, _, rfl, rfl, rfl⟩ ?_
          refine L.pass rfl rfl rfl ⟨_, _, rfl, rfl, rfl⟩ ?_
          refine L.pass rfl rfl rfl ⟨_, _, rfl, rfl, rfl⟩ ?_
          refine L.pass rfl rfl rfl ⟨_, _, rfl, rfl, rfl⟩ ?_
          refine L.pass rfl rfl rfl ⟨_, _, rfl, rfl, rfl⟩ ?_
          refine L.pass rfl rfl rfl ⟨_, _, rfl, rfl, rfl⟩ ?_
          refine L.pass rfl rfl rfl ⟨_, _, rfl, rfl, rfl⟩ ?_
          refine L.pickT rfl rfl rfl rfl trivial ?_
          exact L.nil fun a w hh => hh.cutK 10 rfl
        refine L.assign rfl rfl rfl trivial ?_
        refine L.assign rfl rfl rfl trivial ?_
        refine L.nil ?_
        refine C.blockEnd ?_
        refine C.next ?_
        refine C.region [(false,0),(false,1),(false,2)] rfl ?_
        refine L.move rfl rfl rfl trivial ?_
        refine L.add rfl rfl rfl (by simp only [inK]; omega) rfl trivial ?_
        refine L.assign rfl rfl rfl trivial ?_
        refine L.nil ?_
        exact C.againR 18 (k + 1) (by omega) (by omega) ⟨(by rw [any_step hx, isAt_at hw]; rfl), (by rw [any_step hx, isAt_at hw]; rfl), (by first | rfl | (show some (Value.int _ _) = some (Value.int _ _); congr 2; omega)), trivial⟩ rfl rfl (List.Sublist.refl _) (ds_same)
      · obtain rfl : k = (nsD y).length := by omega
        rw [List.take_length]
        refine C.exit ?_
        refine C.thenExit ?_
        refine C.thenExit ?_
        refine C.blockExit ?_
        refine C.next ?_
        refine C.seq ?_
        refine C.region [(false,0),(false,1),(false,2),(false,3),(false,4),(false,5),(false,6),(false,7),(false,8),(false,9),(false,10),(false,11)] rfl ?_
        refine L.move rfl rfl rfl trivial ?_
        refine L.eql rfl rfl rfl rfl trivial ?_
        refine L.move rfl rfl rfl trivial ?_
        refine' L.and [(false,3),(false,4)] [(false,5),(false,6),(false,7),(false,8),(false,9),(false,10),(false,11)] (s := 69) (p := 71) rfl rfl (fun hg4 => ?_) (fun hg4 => ?_) ?_
        rotate_left
        · refine L.move rfl rfl rfl ⟨_, rfl, rfl⟩ ?_
          refine L.pickT rfl rfl rfl rfl trivial ?_
          exact L.nil fun a w hh => hh.cutK 1 rfl
        · refine L.pass rfl rfl rfl ⟨_, _, rfl, rfl, rfl⟩ ?_
          refine L.pickF rfl rfl rfl rfl trivial ?_
          exact L.nil fun a w hh => hh.cutK 1 rfl
        refine L.move rfl rfl rfl trivial ?_
        refine' L.and [(false,6),(false,7)] [(false,8),(false,9),(false,10),(false,11)] (s := 72) (p := 74) rfl rfl (fun hg5 => ?_) (fun hg5 => ?_) ?_
        rotate_left
        · refine L.move rfl rfl rfl ⟨_, rfl, rfl⟩ ?_
          refine L.pickT rfl rfl rfl rfl trivial ?_
          exact L.nil fun a w hh => hh.cutK 1 rfl
        · refine L.pass rfl rfl rfl ⟨_, _, rfl, rfl, rfl⟩ ?_
          refine L.pickF rfl rfl rfl rfl trivial ?_
          exact L.nil fun a w hh => hh.cutK 1 rfl
        refine L.move rfl rfl rfl trivial ?_
        refine' L.and [(false,9),(false,10)] [(false,11)] (s := 75) (p := 77) rfl rfl (fun hg6 => ?_) (fun hg6 => ?_) ?_
        rotate_left
        · refine L.callV rfl rfl rfl (fun D7 hD7 => awake_ok _) rfl ⟨_, rfl, rfl⟩ ?_
          refine L.pickT rfl rfl rfl rfl trivial ?_
          exact L.nil fun a w hh => hh.cutK 1 rfl
        · refine L.pass rfl rfl rfl ⟨_, _, rfl, rfl, rfl⟩ ?_
          refine L.pickF rfl rfl rfl rfl trivial ?_
          exact L.nil fun a w hh => hh.cutK 1 rfl
        refine L.assign rfl rfl rfl trivial ?_
        refine L.nil ?_
        refine C.next ?_
        refine C.ret ?_
        exact leave (vs := [_]) rfl rfl rfl ⟨rfl, trivial⟩ (fun D hD => congrArg Value.bool (me_ok hz))
end Go.Fs
