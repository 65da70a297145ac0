/- Walks: the chapter's examples. -/
import Derived.Test.YtgnnlghoadfffaaW18
namespace Go.Fs
open Go.Proofs
open C1
/-- What Chairs returns. -/
def chV (r : RowD) (i j : Int) : Int × Int := if askErr r (partOk r i j) = 0 then (loOf (truths r) i.toNat j.toNat, hiOf (truths r) i.toNat j.toNat) else (0, 0)
open C1
theorem k2_28 : K2 Try.prog 28 := ⟨by kernel_rfl, by kernel_rfl, by kernel_rfl⟩
theorem k2_29 : K2 Try.prog 29 := ⟨by kernel_rfl, by kernel_rfl, by kernel_rfl⟩
theorem k2_43 : K2 Try.prog 43 := ⟨by kernel_rfl, by kernel_rfl, by kernel_rfl⟩
theorem k2_118 : K2 Try.prog 118 := ⟨by kernel_rfl, by kernel_rfl, by kernel_rfl⟩
theorem Chairs2_ok (rv : Value) (r : RowD) (i j : Int) (D : Data) (hr : RowIs D rv r) : Fn Try.prog 20 #[rv, .int .i64 i, .int .i64 j] D (fun _ v => v = .tuple #[k2V (chV r i j), .int .i64 (askErr r (partOk r i j))]) :=
  (Chairs_ok rv r i j D hr).mono fun _ v _ hv => by rw [hv]; unfold chV; split <;> rfl
theorem between2_ok (lo hi : Int) (D : Data) : Fn Try.prog 44 #[.int .i64 lo, .int .i64 hi] D (fun _ v => v = k2V (lo, hi)) := between_ok lo hi D
theorem to2_ok (p : Int × Int) (D : Data) : Fn Try.prog 25 #[k2V p] D (fun _ v => v = k2V p) := to_ok p.1 p.2 D
theorem inside2_ok (p q : Int × Int) (D : Data) : Fn Try.prog 40 #[k2V p, k2V q] D (fun _ v => v = .bool (decide (q.1 ≤ p.1) && decide (p.2 ≤ q.2))) := inside_ok p.1 p.2 q.1 q.2 D
theorem inL2_ok (n : Int) (q : Int × Int) (D : Data) : Fn Try.prog 61 #[.int .i64 n, k2V q] D (fun _ v => v = .bool (decide (q.1 ≤ n) && decide (n ≤ q.2))) := inL_ok n q.1 q.2 D
theorem awake_ok (D : Data) : Fn Try.prog 19 #[] D (fun _ v => v = .bool true) := by
  refine enter 121 Try.func19 rfl rfl rfl rfl fun h0 => ?_
  refine C.seq ?_
  refine C.region [(false,0)] rfl ?_
  refine L.assign rfl rfl rfl trivial ?_
  refine L.nil ?_
  refine C.next ?_
  refine C.seq ?_
  refine C.region [(false,0),(false,1),(false,2),(false,3),(false,4),(false,5),(false,6),(false,7)] rfl ?_
  refine L.call rfl rfl rfl (fun D1 hD1 => ends_ok 0 _ [] _ Sl.nil (by simp)) rfl trivial (fun v1 D1 hD1 hp1 => ?_)
  have hE1 := hp1
  refine L.buildSlice rfl Try.underlying22 Tf.s3 Tf.z3 rfl rfl rfl rfl (.cons rfl rfl (.cons rfl rfl (.cons rfl rfl (.cons rfl rfl (.cons rfl rfl .nil))))) rfl trivial (fun b901 D901 hD901 hA901 => ?_)
  have hS901 := Sl.ofInts (l := [_, _, _, _, _]) (n := 5) (cap := 5) hA901 rfl (by omega) (by omega)
  refine L.call rfl rfl rfl (fun D2 hD2 => Play_ok _ _ (endsD 0 []) [1, 1, 1, 1, 0] _ (hE1.up (hD2 _ (by simp))) (hS901.up RI.up (hD2 _ (by simp)))) rfl trivial (fun v2 D2 hD2 hp2 => ?_)
  obtain ⟨lv1, rfl, hl1⟩ := hp2
  refine L.move rfl rfl rfl trivial ?_
  refine L.extract rfl rfl rfl rfl trivial ?_
  refine L.extract rfl rfl rfl rfl trivial ?_
  refine L.assign rfl rfl rfl trivial ?_
  refine L.assign rfl rfl rfl trivial ?_
  refine L.nil ?_
  refine C.next ?_
  refine C.seq ?_
  refine C.region [(false,0),(false,1),(false,2),(false,3),(false,4),(false,5),(false,6),(false,7),(false,8),(false,9)] rfl ?_
  refine L.callV rfl rfl rfl (fun D3 hD3 => third_ok _) rfl trivial ?_
  refine L.buildSlice rfl Try.underlying33 Tf.s87 Tf.z87 rfl rfl rfl rfl (.cons rfl rfl .nil) rfl trivial (fun b902 D902 hD902 hA902 => ?_)
  have hM902 : Sl D902 RC 3 _ [⟨false, 5, 3⟩] := Froz.cnts (l := [⟨false, 5, 3⟩]) (n := 1) (Or.inr ⟨_, 1, rfl, by omega, hA902⟩) rfl (by omega)
  refine L.call rfl rfl rfl (fun D4 hD4 => ends_ok 1 _ [⟨false, 5, 3⟩] _ (hM902.up RC.up (hD4 _ (by simp))) (by simp)) rfl trivial (fun v4 D4 hD4 hp4 => ?_)
  have hE2 := hp4
  refine L.callV rfl rfl rfl (fun D5 hD5 => Chairs2_ok _ (endsD 1 [⟨false, 5, 3⟩]) 0 4 _ (hE2.up (hD5 _ (by simp)))) rfl trivial ?_
  refine L.move rfl rfl rfl trivial ?_
  refine L.extract rfl rfl rfl rfl trivial ?_
  refine L.extract rfl rfl rfl rfl trivial ?_
  refine L.alloc rfl Tf.z29 rfl rfl trivial (fun q1 => ?_)
  refine L.storeW rfl rfl rfl rfl Tf.s29 (by first | rfl | (simp only [ints_length, *]; done) | (simp only [ints_length, *]; rfl) | (simp only [ints_length, *]; omega)) (by first | rfl | (simp only [ints_length, *]; done) | (simp only [ints_length, *]; rfl) | (simp only [ints_length, *]; omega)) (Has.head) (by first | exact ints_cell1 _ | simp [cell1]) trivial ?_
  refine L.assign rfl rfl rfl trivial ?_
  refine L.nil ?_
  refine C.next ?_
  refine C.seq ?_
  refine C.region [(false,0),(false,1),(false,2),(false,3),(false,4),(false,5),(false,6)] rfl ?_
  refine L.call rfl rfl rfl (fun D6 hD6 => ends_ok 0 _ [] _ Sl.nil (by simp)) rfl trivial (fun v6 D6 hD6 hp6 => ?_)
  have hE3 := hp6
  refine L.call rfl rfl rfl (fun D7 hD7 => Places_ok _ (endsD 0 []) _ (hE3.up (hD7 _ (by simp)))) rfl trivial (fun v7 D7 hD7 hp7 => ?_)
  obtain ⟨lv3, rfl, hl3⟩ := hp7
  refine L.move rfl rfl rfl trivial ?_
  refine L.extract rfl rfl rfl rfl trivial ?_
  refine L.extract rfl rfl rfl rfl trivial ?_
  refine L.assign rfl rfl rfl trivial ?_
  refine L.assign rfl rfl rfl trivial ?_
  refine L.nil ?_
  refine C.next ?_
  refine C.seq ?_
  refine C.region [(false,0),(false,1),(false,2),(false,3),(false,4),(false,5),(false,6),(false,7),(false,8)] rfl ?_
  refine L.callV rfl rfl rfl (fun D8 hD8 => third_ok _) rfl trivial ?_
  refine L.buildSlice rfl Try.underlying33 Tf.s87 Tf.z87 rfl rfl rfl rfl (.cons rfl rfl .nil) rfl trivial (fun b903 D903 hD903 hA903 => ?_)
  have hM903 : Sl D903 RC 3 _ [⟨false, 5, 3⟩] := Froz.cnts (l := [⟨false, 5, 3⟩]) (n := 1) (Or.inr ⟨_, 1, rfl, by omega, hA903⟩) rfl (by omega)
  refine L.call rfl rfl rfl (fun D9 hD9 => ends_ok 1 _ [⟨false, 5, 3⟩] _ (hM903.up RC.up (hD9 _ (by simp))) (by simp)) rfl trivial (fun v9 D9 hD9 hp9 => ?_)
  have hE4 := hp9
  refine L.call rfl rfl rfl (fun D10 hD10 => Right_ok _ (endsD 1 [⟨false, 5, 3⟩]) _ (hE4.up (hD10 _ (by simp)))) rfl trivial (fun v10 D10 hD10 hp10 => ?_)
  obtain ⟨lv4, rfl, hl4⟩ := hp10
  refine L.move rfl rfl rfl trivial ?_
  refine L.extract rfl rfl rfl rfl trivial ?_
  refine L.extract rfl rfl rfl rfl trivial ?_
  refine L.assign rfl rfl rfl trivial ?_
  refine L.assign rfl rfl rfl trivial ?_
  refine L.nil ?_
  refine C.next ?_
  refine C.seq ?_
  refine C.region [(false,0),(false,1),(false,2),(false,3),(false,4),(false,5),(false,6),(false,7),(false,8)] rfl ?_
  refine L.callV rfl rfl rfl (fun D11 hD11 => third_ok _) rfl trivial ?_
  refine L.buildSlice rfl Try.underlying33 Tf.s87 Tf.z87 rfl rfl rfl rfl (.cons rfl rfl .nil) rfl trivial (fun b904 D904 hD904 hA904 => ?_)
  have hM904 : Sl D904 RC 3 _ [⟨false, 5, 3⟩] := Froz.cnts (l := [⟨false, 5, 3⟩]) (n := 1) (Or.inr ⟨_, 1, rfl, by omega, hA904⟩) rfl (by omega)
  refine L.call rfl rfl rfl (fun D12 hD12 => ends_ok 0 _ [⟨false, 5, 3⟩] _ (hM904.up RC.up (hD12 _ (by simp))) (by simp)) rfl trivial (fun v12 D12 hD12 hp12 => ?_)
  have hE5 := hp12
  refine L.callV rfl rfl rfl (fun D13 hD13 => Least_ok _ (endsD 0 [⟨false, 5, 3⟩]) _ (hE5.up (hD13 _ (by simp)))) rfl trivial ?_
  refine L.move rfl rfl rfl trivial ?_
  refine L.extract rfl rfl rfl rfl trivial ?_
  refine L.extract rfl rfl rfl rfl trivial ?_
  refine L.assign rfl rfl rfl trivial ?_
  refine L.assign rfl rfl rfl trivial ?_
  refine L.nil ?_
  refine C.next ?_
  refine C.seq ?_
  refine C.region [(false,0),(false,1),(false,2),(false,3),(false,4),(false,5),(false,6),(false,7),(false,8)] rfl ?_
  refine L.call rfl rfl rfl (fun D14 hD14 => ends_ok 0 _ [] _ Sl.nil (by simp)) rfl trivial (fun v14 D14 hD14 hp14 => ?_)
  have hE6 := hp14
  refine L.callV rfl rfl rfl (fun D15 hD15 => Look_ok _ (endsD 0 []) _ (hE6.up (hD15 _ (by simp)))) rfl trivial ?_
  refine L.move rfl rfl rfl trivial ?_
  refine L.extract rfl rfl rfl rfl trivial ?_
  refine L.extract rfl rfl rfl rfl trivial ?_
  refine L.extract rfl rfl rfl rfl trivial ?_
  refine L.assign rfl rfl rfl trivial ?_
  refine L.assign rfl rfl rfl trivial ?_
  refine L.assign rfl rfl rfl trivial ?_
  refine L.nil ?_
  refine C.next ?_
  refine C.seq ?_
  refine C.region [(false,0),(false,1),(false,2),(false,3),(false,4),(false,5),(false,6)] rfl ?_
  refine L.call rfl rfl rfl (fun D16 hD16 => ends_ok 0 _ [] _ Sl.nil (by simp)) rfl trivial (fun v16 D16 hD16 hp16 => ?_)
  have hE7 := hp16
  refine L.callV rfl rfl rfl (fun D17 hD17 => Looks_ok _ (endsD 0 []) 0 0 _ (hE7.up (hD17 _ (by simp)))) rfl trivial ?_
  refine L.move rfl rfl rfl trivial ?_
  refine L.extract rfl rfl rfl rfl trivial ?_
  refine L.extract rfl rfl rfl rfl trivial ?_
  refine L.assign rfl rfl rfl trivial ?_
  refine L.assign rfl rfl rfl trivial ?_
  refine L.nil ?_
  refine C.next ?_
  refine C.seq ?_
  refine C.draw [] 20 [0,1,2,3,4,5,6,7,8,9,10,11,12,13,14,15,16,17,18,19,20,21,22,23,24,25,26,27,28,29,30,31,32,33,34,35,36,37,38,39,40,41,42,43,44,45,46,47,48,49,50,51,52,53,54,55,56,57,58,59,60,61,62] [false,false,false,false,true,false,false,false,false,false,false,false,false,true,false,false,false,false,false,false,false,false,true,false,false,false,false,false,false,false,false,true,false,false,false,false,false,false,false,false,false,false,false,false,false,false,false,false,false,false,false,false,false,false,false,false,false,false,false,false,false,false,false] [(false,0),(false,1),(false,2),(false,3),(true,4),(false,5),(false,6),(false,7),(false,8),(false,9),(false,10),(false,11),(false,12),(true,13),(false,14),(false,15),(false,16),(false,17),(false,18),(false,19),(false,20),(false,21),(true,22),(false,23),(false,24),(false,25),(false,26),(false,27),(false,28),(false,29),(false,30),(true,31),(false,32),(false,33),(false,34),(false,35),(false,36),(false,37),(false,38),(false,39),(false,40),(false,41),(false,42),(false,43),(false,44),(false,45),(false,46),(false,47),(false,48),(false,49),(false,50),(false,51),(false,52),(false,53),(false,54),(false,55),(false,56),(false,57),(false,58),(false,59),(false,60),(false,61),(false,62)] Tf.follows (fun _ _ _ h => np_body (P := Try.prog) (fn := Try.f19) _ _ _ h) (by kernel_rfl) rfl ?_
  refine L.move rfl rfl rfl trivial ?_
  refine L.eql rfl rfl rfl rfl trivial ?_
  refine L.move rfl rfl rfl trivial ?_
  refine' L.and [(false,3),(true,4),(false,5),(false,6)] [(false,7),(false,8),(false,9),(false,10),(false,11),(false,12),(true,13),(false,14),(false,15),(false,16),(false,17),(false,18),(false,19),(false,20),(false,21),(true,22),(false,23),(false,24),(false,25),(false,26),(false,27),(false,28),(false,29),(false,30),(true,31),(false,32),(false,33),(false,34),(false,35),(false,36),(false,37),(false,38),(false,39),(false,40),(false,41),(false,42),(false,43),(false,44),(false,45),(false,46),(false,47),(false,48),(false,49),(false,50),(false,51),(false,52),(false,53),(false,54),(false,55),(false,56),(false,57),(false,58),(false,59),(false,60),(false,61),(false,62)] (s := 61) (p := 65) rfl rfl (fun hg1 => ?_) (fun hg1 => ?_) ?_
  rotate_left
  · refine L.move rfl rfl rfl ⟨_, rfl, rfl⟩ ?_
    refine L.buildSlice rfl Try.underlying22 Tf.s3 Tf.z3 rfl rfl rfl rfl (.cons rfl rfl (.cons rfl rfl .nil)) rfl ⟨_, rfl, rfl⟩ (fun b905 D905 hD905 hA905 => ?_)
    have hS905 := Sl.ofInts (l := [_, _]) (n := 2) (cap := 2) hA905 rfl (by omega) (by omega)
    refine L.callV rfl rfl rfl (fun D18 hD18 => ints_ok _ _ _ [1, 1] _ (hl1.up RI.up (hD18 _ (by simp))) (hS905.up RI.up (hD18 _ (by simp)))) rfl ⟨_, rfl, rfl⟩ ?_
    refine L.pickT rfl rfl rfl rfl trivial ?_
    exact L.nil fun a w hh => (hh.cutK 3 rfl).ds (fun _ h => List.Mem.tail _ (h))
  · refine L.pass rfl rfl rfl ⟨_, _, rfl, rfl, rfl⟩ ?_
    refine L.pass rfl rfl rfl ⟨_, _, rfl, rfl, rfl⟩ ?_
    refine L.pass rfl rfl rfl ⟨_, _, rfl, rfl, rfl⟩ ?_
    refine L.pickF rfl rfl rfl rfl trivial ?_
    exact L.nil fun a w hh => hh.cutK 3 rfl
  refine L.move rfl rfl rfl trivial ?_
  refine' L.and [(false,8),(false,9),(false,10)] [(false,11),(false,12),(true,13),(false,14),(false,15),(false,16),(false,17),(false,18),(false,19),(false,20),(false,21),(true,22),(false,23),(false,24),(false,25),(false,26),(false,27),(false,28),(false,29),(false,30),(true,31),(false,32),(false,33),(false,34),(false,35),(false,36),(false,37),(false,38),(false,39),(false,40),(false,41),(false,42),(false,43),(false,44),(false,45),(false,46),(false,47),(false,48),(false,49),(false,50),(false,51),(false,52),(false,53),(false,54),(false,55),(false,56),(false,57),(false,58),(false,59),(false,60),(false,61),(false,62)] (s := 66) (p := 69) rfl rfl (fun hg2 => ?_) (fun hg2 => ?_) ?_
  rotate_left
  · refine L.move rfl rfl rfl ⟨_, rfl, rfl⟩ ?_
    refine L.eql rfl rfl rfl rfl ⟨_, rfl, rfl⟩ ?_
    refine L.pickT rfl rfl rfl rfl trivial ?_
    exact L.nil fun a w hh => hh.cutK 2 rfl
  · refine L.pass rfl rfl rfl ⟨_, _, rfl, rfl, rfl⟩ ?_
    refine L.pass rfl rfl rfl ⟨_, _, rfl, rfl, rfl⟩ ?_
    refine L.pickF rfl rfl rfl rfl trivial ?_
    exact L.nil fun a w hh => hh.cutK 2 rfl
  refine L.move rfl rfl rfl trivial ?_
  refine' L.and [(false,12),(true,13),(false,14),(false,15)] [(false,16),(false,17),(false,18),(false,19),(false,20),(false,21),(true,22),(false,23),(false,24),(false,25),(false,26),(false,27),(false,28),(false,29),(false,30),(true,31),(false,32),(false,33),(false,34),(false,35),(false,36),(false,37),(false,38),(false,39),(false,40),(false,41),(false,42),(false,43),(false,44),(false,45),(false,46),(false,47),(false,48),(false,49),(false,50),(false,51),(false,52),(false,53),(false,54),(false,55),(false,56),(false,57),(false,58),(false,59),(false,60),(false,61),(false,62)] (s := 70) (p := 74) rfl rfl (fun hg3 => ?_) (fun hg3 => ?_) ?_
  rotate_left
  · refine L.loadBW rfl Tf.a29 rfl (List.Mem.head _) Tf.s29 List.not_mem_nil rfl ⟨_, rfl, rfl⟩ ?_
    refine L.callV rfl rfl rfl (fun D19 hD19 => between2_ok _ _ _) rfl ⟨_, rfl, rfl⟩ ?_
    refine L.eqlK  rfl (by kernel_rfl) k2_29 rfl rfl rfl ⟨_, rfl, rfl⟩ ?_
    refine L.pickT rfl rfl rfl rfl trivial ?_
    exact L.nil fun a w hh => hh.cutK 3 rfl
  · refine L.pass rfl rfl rfl ⟨_, _, rfl, rfl, rfl⟩ ?_
    refine L.pass rfl rfl rfl ⟨_, _, rfl, rfl, rfl⟩ ?_
    refine L.pass rfl rfl rfl ⟨_, _, rfl, rfl, rfl⟩ ?_
    refine L.pickF rfl rfl rfl rfl trivial ?_
    exact L.nil fun a w hh => hh.cutK 3 rfl
  refine L.move rfl rfl rfl trivial ?_
  refine' L.and [(false,17),(false,18),(false,19)] [(false,20),(false,21),(true,22),(false,23),(false,24),(false,25),(false,26),(false,27),(false,28),(false,29),(false,30),(true,31),(false,32),(false,33),(false,34),(false,35),(false,36),(false,37),(false,38),(false,39),(false,40),(false,41),(false,42),(false,43),(false,44),(false,45),(false,46),(false,47),(false,48),(false,49),(false,50),(false,51),(false,52),(false,53),(false,54),(false,55),(false,56),(false,57),(false,58),(false,59),(false,60),(false,61),(false,62)] (s := 75) (p := 78) rfl rfl (fun hg4 => ?_) (fun hg4 => ?_) ?_
  rotate_left
  · refine L.move rfl rfl rfl ⟨_, rfl, rfl⟩ ?_
    refine L.eql rfl rfl rfl rfl ⟨_, rfl, rfl⟩ ?_
    refine L.pickT rfl rfl rfl rfl trivial ?_
    exact L.nil fun a w hh => hh.cutK 2 rfl
  · refine L.pass rfl rfl rfl ⟨_, _, rfl, rfl, rfl⟩ ?_
    refine L.pass rfl rfl rfl ⟨_, _, rfl, rfl, rfl⟩ ?_
    refine L.pickF rfl rfl rfl rfl trivial ?_
    exact L.nil fun a w hh => hh.cutK 2 rfl
  refine L.move rfl rfl rfl trivial ?_
  refine' L.and [(false,21),(true,22),(false,23),(false,24)] [(false,25),(false,26),(false,27),(false,28),(false,29),(false,30),(true,31),(false,32),(false,33),(false,34),(false,35),(false,36),(false,37),(false,38),(false,39),(false,40),(false,41),(false,42),(false,43),(false,44),(false,45),(false,46),(false,47),(false,48),(false,49),(false,50),(false,51),(false,52),(false,53),(false,54),(false,55),(false,56),(false,57),(false,58),(false,59),(false,60),(false,61),(false,62)] (s := 79) (p := 83) rfl rfl (fun hg5 => ?_) (fun hg5 => ?_) ?_
  rotate_left
  · refine L.move rfl rfl rfl ⟨_, rfl, rfl⟩ ?_
    refine L.buildSlice rfl Try.underlying22 Tf.s3 Tf.z3 rfl rfl rfl rfl (.cons rfl rfl (.cons rfl rfl (.cons rfl rfl (.cons rfl rfl (.cons rfl rfl .nil))))) rfl ⟨_, rfl, rfl⟩ (fun b906 D906 hD906 hA906 => ?_)
    have hS906 := Sl.ofInts (l := [_, _, _, _, _]) (n := 5) (cap := 5) hA906 rfl (by omega) (by omega)
    refine L.callV rfl rfl rfl (fun D20 hD20 => ints_ok _ _ _ [3, 3, 1, 1, 1] _ (hl3.up RI.up (hD20 _ (by simp))) (hS906.up RI.up (hD20 _ (by simp)))) rfl ⟨_, rfl, rfl⟩ ?_
    refine L.pickT rfl rfl rfl rfl trivial ?_
    exact L.nil fun a w hh => (hh.cutK 3 rfl).ds (fun _ h => List.Mem.tail _ (h))
  · refine L.pass rfl rfl rfl ⟨_, _, rfl, rfl, rfl⟩ ?_
    refine L.pass rfl rfl rfl ⟨_, _, rfl, rfl, rfl⟩ ?_
    refine L.pass rfl rfl rfl ⟨_, _, rfl, rfl, rfl⟩ ?_
    refine L.pickF rfl rfl rfl rfl trivial ?_
    exact L.nil fun a w hh => hh.cutK 3 rfl
  refine L.move rfl rfl rfl trivial ?_
  refine' L.and [(false,26),(false,27),(false,28)] [(false,29),(false,30),(true,31),(false,32),(false,33),(false,34),(false,35),(false,36),(false,37),(false,38),(false,39),(false,40),(false,41),(false,42),(false,43),(false,44),(false,45),(false,46),(false,47),(false,48),(false,49),(false,50),(false,51),(false,52),(false,53),(false,54),(false,55),(false,56),(false,57),(false,58),(false,59),(false,60),(false,61),(false,62)] (s := 84) (p := 87) rfl rfl (fun hg6 => ?_) (fun hg6 => ?_) ?_
  rotate_left
  · refine L.move rfl rfl rfl ⟨_, rfl, rfl⟩ ?_
    refine L.eql rfl rfl rfl rfl ⟨_, rfl, rfl⟩ ?_
    refine L.pickT rfl rfl rfl rfl trivial ?_
    exact L.nil fun a w hh => hh.cutK 2 rfl
  · refine L.pass rfl rfl rfl ⟨_, _, rfl, rfl, rfl⟩ ?_
    refine L.pass rfl rfl rfl ⟨_, _, rfl, rfl, rfl⟩ ?_
    refine L.pickF rfl rfl rfl rfl trivial ?_
    exact L.nil fun a w hh => hh.cutK 2 rfl
  refine L.move rfl rfl rfl trivial ?_
  refine' L.and [(false,30),(true,31),(false,32),(false,33)] [(false,34),(false,35),(false,36),(false,37),(false,38),(false,39),(false,40),(false,41),(false,42),(false,43),(false,44),(false,45),(false,46),(false,47),(false,48),(false,49),(false,50),(false,51),(false,52),(false,53),(false,54),(false,55),(false,56),(false,57),(false,58),(false,59),(false,60),(false,61),(false,62)] (s := 88) (p := 92) rfl rfl (fun hg7 => ?_) (fun hg7 => ?_) ?_
  rotate_left
  · refine L.move rfl rfl rfl ⟨_, rfl, rfl⟩ ?_
    refine L.buildSlice rfl Try.underlying22 Tf.s3 Tf.z3 rfl rfl rfl rfl (.cons rfl rfl (.cons rfl rfl (.cons rfl rfl .nil))) rfl ⟨_, rfl, rfl⟩ (fun b907 D907 hD907 hA907 => ?_)
    have hS907 := Sl.ofInts (l := [_, _, _]) (n := 3) (cap := 3) hA907 rfl (by omega) (by omega)
    refine L.callV rfl rfl rfl (fun D21 hD21 => ints_ok _ _ _ [3, 3, 3] _ (hl4.up RI.up (hD21 _ (by simp))) (hS907.up RI.up (hD21 _ (by simp)))) rfl ⟨_, rfl, rfl⟩ ?_
    refine L.pickT rfl rfl rfl rfl trivial ?_
    exact L.nil fun a w hh => (hh.cutK 3 rfl).ds (fun _ h => List.Mem.tail _ (h))
  · refine L.pass rfl rfl rfl ⟨_, _, rfl, rfl, rfl⟩ ?_
    refine L.pass rfl rfl rfl ⟨_, _, rfl, rfl, rfl⟩ ?_
    refine L.pass rfl rfl rfl ⟨_, _, rfl, rfl, rfl⟩ ?_
    refine L.pickF rfl rfl rfl rfl trivial ?_
    exact L.nil fun a w hh => hh.cutK 3 rfl
  refine L.move rfl rfl rfl trivial ?_
  refine' L.and [(false,35),(false,36),(false,37)] [(false,38),(false,39),(false,40),(false,41),(false,42),(false,43),(false,44),(false,45),(false,46),(false,47),(false,48),(false,49),(false,50),(false,51),(false,52),(false,53),(false,54),(false,55),(false,56),(false,57),(false,58),(false,59),(false,60),(false,61),(false,62)] (s := 93) (p := 96) rfl rfl (fun hg8 => ?_) (fun hg8 => ?_) ?_
  rotate_left
  · refine L.move rfl rfl rfl ⟨_, rfl, rfl⟩ ?_
    refine L.eql rfl rfl rfl rfl ⟨_, rfl, rfl⟩ ?_
    refine L.pickT rfl rfl rfl rfl trivial ?_
    exact L.nil fun a w hh => hh.cutK 2 rfl
  · refine L.pass rfl rfl rfl ⟨_, _, rfl, rfl, rfl⟩ ?_
    refine L.pass rfl rfl rfl ⟨_, _, rfl, rfl, rfl⟩ ?_
    refine L.pickF rfl rfl rfl rfl trivial ?_
    exact L.nil fun a w hh => hh.cutK 2 rfl
  refine L.move rfl rfl rfl trivial ?_
  refine' L.and [(false,39),(false,40),(false,41)] [(false,42),(false,43),(false,44),(false,45),(false,46),(false,47),(false,48),(false,49),(false,50),(false,51),(false,52),(false,53),(false,54),(false,55),(false,56),(false,57),(false,58),(false,59),(false,60),(false,61),(false,62)] (s := 97) (p := 100) rfl rfl (fun hg9 => ?_) (fun hg9 => ?_) ?_
  rotate_left
  · refine L.move rfl rfl rfl ⟨_, rfl, rfl⟩ ?_
    refine L.eql rfl rfl rfl rfl ⟨_, rfl, rfl⟩ ?_
    refine L.pickT rfl rfl rfl rfl trivial ?_
    exact L.nil fun a w hh => hh.cutK 2 rfl
  · refine L.pass rfl rfl rfl ⟨_, _, rfl, rfl, rfl⟩ ?_
    refine L.pass rfl rfl rfl ⟨_, _, rfl, rfl, rfl⟩ ?_
    refine L.pickF rfl rfl rfl rfl trivial ?_
    exact L.nil fun a w hh => hh.cutK 2 rfl
  refine L.move rfl rfl rfl trivial ?_
  refine' L.and [(false,43),(false,44),(false,45)] [(false,46),(false,47),(false,48),(false,49),(false,50),(false,51),(false,52),(false,53),(false,54),(false,55),(false,56),(false,57),(false,58),(false,59),(false,60),(false,61),(false,62)] (s := 101) (p := 104) rfl rfl (fun hg10 => ?_) (fun hg10 => ?_) ?_
  rotate_left
  · refine L.move rfl rfl rfl ⟨_, rfl, rfl⟩ ?_
    refine L.eql rfl rfl rfl rfl ⟨_, rfl, rfl⟩ ?_
    refine L.pickT rfl rfl rfl rfl trivial ?_
    exact L.nil fun a w hh => hh.cutK 2 rfl
  · refine L.pass rfl rfl rfl ⟨_, _, rfl, rfl, rfl⟩ ?_
    refine L.pass rfl rfl rfl ⟨_, _, rfl, rfl, rfl⟩ ?_
    refine L.pickF rfl rfl rfl rfl trivial ?_
    exact L.nil fun a w hh => hh.cutK 2 rfl
  refine L.move rfl rfl rfl trivial ?_
  refine' L.and [(false,47),(false,48),(false,49)] [(false,50),(false,51),(false,52),(false,53),(false,54),(false,55),(false,56),(false,57),(false,58),(false,59),(false,60),(false,61),(false,62)] (s := 105) (p := 108) rfl rfl (fun hg11 => ?_) (fun hg11 => ?_) ?_
  rotate_left
  · refine L.move rfl rfl rfl ⟨_, rfl, rfl⟩ ?_
    refine L.eql rfl rfl rfl rfl ⟨_, rfl, rfl⟩ ?_
    refine L.pickT rfl rfl rfl rfl trivial ?_
    exact L.nil fun a w hh => hh.cutK 2 rfl
  · refine L.pass rfl rfl rfl ⟨_, _, rfl, rfl, rfl⟩ ?_
    refine L.pass rfl rfl rfl ⟨_, _, rfl, rfl, rfl⟩ ?_
    refine L.pickF rfl rfl rfl rfl trivial ?_
    exact L.nil fun a w hh => hh.cutK 2 rfl
  refine L.move rfl rfl rfl trivial ?_
  refine' L.and [(false,51),(false,52),(false,53)] [(false,54),(false,55),(false,56),(false,57),(false,58),(false,59),(false,60),(false,61),(false,62)] (s := 109) (p := 112) rfl rfl (fun hg12 => ?_) (fun hg12 => ?_) ?_
  rotate_left
  · refine L.move rfl rfl rfl ⟨_, rfl, rfl⟩ ?_
    refine L.eql rfl rfl rfl rfl ⟨_, rfl, rfl⟩ ?_
    refine L.pickT rfl rfl rfl rfl trivial ?_
    exact L.nil fun a w hh => hh.cutK 2 rfl
  · refine L.pass rfl rfl rfl ⟨_, _, rfl, rfl, rfl⟩ ?_
    refine L.pass rfl rfl rfl ⟨_, _, rfl, rfl, rfl⟩ ?_
    refine L.pickF rfl rfl rfl rfl trivial ?_
    exact L.nil fun a w hh => hh.cutK 2 rfl
  refine L.move rfl rfl rfl trivial ?_
  refine' L.and [(false,55),(false,56),(false,57)] [(false,58),(false,59),(false,60),(false,61),(false,62)] (s := 113) (p := 116) rfl rfl (fun hg13 => ?_) (fun hg13 => ?_) ?_
  rotate_left
  · refine L.move rfl rfl rfl ⟨_, rfl, rfl⟩ ?_
    refine L.eql rfl rfl rfl rfl ⟨_, rfl, rfl⟩ ?_
    refine L.pickT rfl rfl rfl rfl trivial ?_
    exact L.nil fun a w hh => hh.cutK 2 rfl
  · refine L.pass rfl rfl rfl ⟨_, _, rfl, rfl, rfl⟩ ?_
    refine L.pass rfl rfl rfl ⟨_, _, rfl, rfl, rfl⟩ ?_
    refine L.pickF rfl rfl rfl rfl trivial ?_
    exact L.nil fun a w hh => hh.cutK 2 rfl
  refine L.move rfl rfl rfl trivial ?_
  refine' L.and [(false,59),(false,60),(false,61)] [(false,62)] (s := 117) (p := 120) rfl rfl (fun hg14 => ?_) (fun hg14 => ?_) ?_
  rotate_left
  · refine L.move rfl rfl rfl ⟨_, rfl, rfl⟩ ?_
    refine L.eql rfl rfl rfl rfl ⟨_, rfl, rfl⟩ ?_
    refine L.pickT rfl rfl rfl rfl trivial ?_
    exact L.nil fun a w hh => hh.cutK 2 rfl
  · refine L.pass rfl rfl rfl ⟨_, _, rfl, rfl, rfl⟩ ?_
    refine L.pass rfl rfl rfl ⟨_, _, rfl, rfl, rfl⟩ ?_
    refine L.pickF rfl rfl rfl rfl trivial ?_
    exact L.nil fun a w hh => hh.cutK 2 rfl
  refine L.assign rfl rfl rfl trivial ?_
  refine L.nil ?_
  refine C.next ?_
  refine C.ret ?_
  exact leave (vs := [_]) rfl rfl rfl ⟨rfl, trivial⟩ (fun D hD => congrArg Value.bool (by decide +kernel))
end Go.Fs
