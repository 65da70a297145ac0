/- Of the proof of TopStand: V26, Need, Laws, V27. -/
import Derived.Test.YtjbdakpeheajgaaZTopStandN
import Derived.Test.YtjbdakpeheajgaaZTopStandD
namespace Go.Fs
open Go.Proofs
open C3
theorem ask_zero {b : BookD} {k : Nat} (h : askB b (C1.inB (k : Int) 0 b.lines.length) = 0) : fault b = 0 ∧ k ≤ b.lines.length ∧ truths b ≠ [] := by
  unfold askB at h
  split at h
  · omega
  · split at h
    · omega
    · rename_i h1 h2
      have h3 : C1.inB (k : Int) 0 b.lines.length = true := by simpa using h2
      rw [C1.inB_iff] at h3
      split at h
      · omega
      · rename_i h4; exact ⟨by omega, by omega, h4⟩
def OutR (b : BookD) (k : Nat) (D : Data) (v : Value) : Prop := ∃ cv tv, v = .tuple #[cv, tv, .int .i64 (askB b (C1.inB (k : Int) 0 b.lines.length))] ∧ (askB b (C1.inB (k : Int) 0 b.lines.length) = 0 →
  Sl D RI 1 cv (verdicts b.chairs.toNat qCh ((runS b 0 (begin0 b)).map fun x => atS x k)) ∧ Sl D RI 1 tv (verdicts b.chairs.toNat qTk ((runS b 0 (begin0 b)).map fun x => atS x k)))
def MoneyR (b : BookD) (k : Nat) (v : Value) : Prop := ∃ r, v = .tuple #[k2V r, .int .i64 (askB b (C1.inB (k : Int) 0 b.lines.length))] ∧ (askB b (C1.inB (k : Int) 0 b.lines.length) = 0 → BndR (runS b 0 (begin0 b)) k r)
theorem lin_one {D : Data} {b : Nat} {l : Lin} {J : List Value} (h : At D b 0 ([.int .i64 l.kind, .int .i64 l.chair, .int .i64 l.token] ++ J)) : Sl D RLin 3 (.slice (some ⟨b, 0, none⟩) 1 1) [l] := by
  refine ⟨_, 1, rfl, by simp, by simp, Or.inr ⟨b, 0, rfl, fun i x hx => ?_⟩⟩
  have hi : i = 0 := by have := (List.getElem?_eq_some_iff.1 hx).1; simp at this; exact this
  subst hi
  obtain rfl : l = x := by simpa using hx
  exact ⟨_, rfl, rfl, fun j v hj => h j v (by rw [List.getElem?_append_left (List.getElem?_eq_some_iff.1 hj).1]; exact hj)⟩
theorem k2_43 : K2 Try.prog 43 := ⟨by kernel_rfl, by kernel_rfl, by kernel_rfl⟩
theorem k2_54 : K2 Try.prog 54 := ⟨by kernel_rfl, by kernel_rfl, by kernel_rfl⟩
theorem Out_ok (bv : Value) (b : BookD) (k : Nat) (D : Data) (hb : BookIs D bv b) : Fn Try.prog 9 #[bv, .int .i64 (k : Int)] D (fun D' v => OutR b k D' v) := by
  have hb0 := hb
  obtain ⟨lv, cv, rfl, hl, hc⟩ := hb
  refine enter 26 Try.func9 rfl rfl rfl rfl fun h0 => ?_
  refine C.seq ?_
  refine C.region [(false,0),(false,1),(false,2),(false,3)] rfl ?_
  refine L.boxD rfl rfl rfl rfl trivial (fun q1 E1 hE1 hB1 => ?_)
  refine L.assign rfl rfl rfl trivial ?_
  refine L.assign rfl rfl rfl trivial ?_
  refine L.assign rfl rfl rfl trivial ?_
  refine L.nil ?_
  refine C.next ?_
  refine C.seq ?_
  refine C.seq ?_
  refine C.draw [] 4 [0,1,2,3,4,5,6,7] [false,true,true,true,true,true,false,false] [(false,0),(true,1),(true,2),(true,3),(true,4),(true,5),(false,6),(false,7)] Tf.follows (fun _ _ _ h => np_body (P := Try.prog) (fn := Try.f9) _ _ _ h) (by kernel_rfl) rfl ?_
  refine L.loadDW rfl Tf.a40 rfl hB1 (by first | simp | assumption) Tf.s40 List.not_mem_nil rfl trivial ?_
  refine L.move rfl rfl rfl trivial ?_
  refine L.fieldAddr rfl Tf.f40_3 rfl rfl trivial ?_
  refine L.loadD1 rfl (k := 3) Tf.a37 rfl hB1 (by first | simp | assumption) rfl List.not_mem_nil rfl trivial ?_
  refine L.len rfl Try.underlying37 rfl hl rfl rfl trivial ?_
  refine L.callV rfl rfl rfl (fun D1 hD1 => twithin_ok _ _ _ _) rfl trivial ?_
  refine L.callV rfl rfl rfl (fun D2 hD2 => asked_ok3 _ b _ _ (hb0.up (hD2 _ (by simp)))) rfl trivial ?_
  refine L.assign rfl rfl rfl trivial ?_
  refine L.nil ?_
  refine C.next ?_
  refine C.seq ?_
  refine C.region [(false,0),(false,1)] rfl ?_
  refine L.move rfl rfl rfl trivial ?_
  refine L.neq rfl rfl rfl rfl trivial ?_
  refine L.nil ?_
  refine C.next ?_
  refine C.condD rfl (fun hc1 => ?_) (fun hc1 => ?_)
  · refine C.seq ?_
    refine C.region [(false,0),(false,1),(false,2),(false,3)] rfl ?_
    refine L.move rfl rfl rfl trivial ?_
    refine L.assign rfl rfl rfl trivial ?_
    refine L.assign rfl rfl rfl trivial ?_
    refine L.assign rfl rfl rfl trivial ?_
    refine L.nil ?_
    refine C.next ?_
    refine C.ret ?_
    refine C.thenRet ?_
    exact leave (vs := [_, _, _]) rfl rfl rfl ⟨rfl, rfl, rfl, trivial⟩ (fun D hD => ⟨_, _, rfl, fun h => absurd h hc1⟩)
  · have hz : askB b (C1.inB (k : Int) 0 b.lines.length) = 0 := by omega
    obtain ⟨hf0, hin, htn⟩ := ask_zero hz
    have hbo := bOk hf0
    refine C.skip ?_
    refine C.next ?_
    refine C.seq ?_
    refine C.draw [] 2 [0,1,2,4,5,6,3,7,8,9,10] [false,true,true,true,true,true,true,false,false,false,false] [(false,0),(true,1),(true,2),(true,4),(true,5),(true,6),(true,3),(false,7),(false,8),(false,9),(false,10)] Tf.follows (fun _ _ _ h => np_body (P := Try.prog) (fn := Try.f9) _ _ _ h) (by kernel_rfl) rfl ?_
    refine L.build (cs := [.func (.func 25) #[] #[]]) rfl Tf.p82 Tf.z82 rfl rfl rfl trivial ?_
    refine L.loadDW rfl Tf.a40 rfl hB1 (by first | simp | assumption) Tf.s40 List.not_mem_nil rfl trivial ?_
    refine L.move rfl rfl rfl trivial ?_
    refine L.build (cs := [.func (.func 27) #[] #[]]) rfl Tf.p82 Tf.z82 rfl rfl rfl trivial ?_
    refine L.loadDW rfl Tf.a40 rfl hB1 (by first | simp | assumption) Tf.s40 List.not_mem_nil rfl trivial ?_
    refine L.move rfl rfl rfl trivial ?_
    refine L.call rfl rfl rfl (fun D3 hD3 => verdicts_ok _ b k 25 qCh _ (hb0.up (hD3 _ (by simp))) hbo (by omega) (fun s i D h4 h5 hi => chairQ_ok s i D h4 h5 hi)) rfl trivial (fun v3 D3 hD3 hp3 => ?_)
    have hv3 := hp3
    refine L.call rfl rfl rfl (fun D4 hD4 => verdicts_ok _ b k 27 qTk _ (hb0.up (hD4 _ (by simp))) hbo (by omega) (fun s i D h4 h5 hi => tokenQ_ok s i D h4 h5 hi)) rfl trivial (fun v4 D4 hD4 hp4 => ?_)
    have hv4 := hp4
    refine L.assign rfl rfl rfl trivial ?_
    refine L.assign rfl rfl rfl trivial ?_
    refine L.assign rfl rfl rfl trivial ?_
    refine L.nil ?_
    refine C.next ?_
    refine C.ret ?_
    exact leave (vs := [_, _, _]) rfl rfl rfl ⟨rfl, rfl, rfl, trivial⟩ (fun D hD => ⟨_, _, by rw [hz]; rfl, fun _ => ⟨hv3.up RI.up (hD _ (by simp)), hv4.up RI.up (hD _ (by simp))⟩⟩)
theorem Money_ok (bv : Value) (b : BookD) (k : Nat) (D : Data) (hb : BookIs D bv b) : Fn Try.prog 11 #[bv, .int .i64 (k : Int)] D (fun _ v => MoneyR b k v) := by
  have hb0 := hb
  obtain ⟨lv, cv, rfl, hl, hc⟩ := hb
  refine enter 21 Try.func11 rfl rfl rfl rfl fun h0 => ?_
  refine C.seq ?_
  refine C.region [(false,0),(false,1),(false,2)] rfl ?_
  refine L.boxD rfl rfl rfl rfl trivial (fun q1 E1 hE1 hB1 => ?_)
  refine L.alloc rfl Tf.z43 rfl rfl trivial (fun q2 => ?_)
  refine L.assign rfl rfl rfl trivial ?_
  refine L.nil ?_
  refine C.next ?_
  refine C.seq ?_
  refine C.seq ?_
  refine C.draw [] 4 [0,1,2,3,4,5,6,7] [false,true,true,true,true,true,false,false] [(false,0),(true,1),(true,2),(true,3),(true,4),(true,5),(false,6),(false,7)] Tf.follows (fun _ _ _ h => np_body (P := Try.prog) (fn := Try.f11) _ _ _ h) (by kernel_rfl) rfl ?_
  refine L.loadDW rfl Tf.a40 rfl hB1 (by first | simp | assumption) Tf.s40 List.not_mem_nil rfl trivial ?_
  refine L.move rfl rfl rfl trivial ?_
  refine L.fieldAddr rfl Tf.f40_3 rfl rfl trivial ?_
  refine L.loadD1 rfl (k := 3) Tf.a37 rfl hB1 (by first | simp | assumption) rfl List.not_mem_nil rfl trivial ?_
  refine L.len rfl Try.underlying37 rfl hl rfl rfl trivial ?_
  refine L.callV rfl rfl rfl (fun D1 hD1 => twithin_ok _ _ _ _) rfl trivial ?_
  refine L.callV rfl rfl rfl (fun D2 hD2 => asked_ok3 _ b _ _ (hb0.up (hD2 _ (by simp)))) rfl trivial ?_
  refine L.assign rfl rfl rfl trivial ?_
  refine L.nil ?_
  refine C.next ?_
  refine C.seq ?_
  refine C.region [(false,0),(false,1)] rfl ?_
  refine L.move rfl rfl rfl trivial ?_
  refine L.neq rfl rfl rfl rfl trivial ?_
  refine L.nil ?_
  refine C.next ?_
  refine C.condD rfl (fun hc1 => ?_) (fun hc1 => ?_)
  · refine C.seq ?_
    refine C.region [(false,0),(false,1),(false,2),(false,3)] rfl ?_
    refine L.build (cs := [.int .i64 0, .int .i64 0]) rfl Tf.p43 Tf.z43 rfl rfl rfl trivial ?_
    refine L.move rfl rfl rfl trivial ?_
    refine L.storeW rfl rfl rfl rfl Tf.s43 (by first | rfl | (simp only [ints_length, *]; done) | (simp only [ints_length, *]; rfl) | (simp only [ints_length, *]; omega)) (by first | rfl | (simp only [ints_length, *]; done) | (simp only [ints_length, *]; rfl) | (simp only [ints_length, *]; omega)) (Has.head) (by first | exact ints_cell1 _ | simp [cell1]) trivial ?_
    refine L.assign rfl rfl rfl trivial ?_
    refine L.nil ?_
    refine C.next ?_
    refine C.ret ?_
    refine C.thenRet ?_
    exact leave (vs := [_, _]) rfl rfl rfl ⟨⟨_, _, _, rfl, List.Mem.head _, Or.inr ⟨Tf.a43, Tf.s43, rfl⟩⟩, rfl, trivial⟩ (fun D hD => ⟨(0, 0), rfl, fun h => absurd h hc1⟩)
  · have hz : askB b (C1.inB (k : Int) 0 b.lines.length) = 0 := by omega
    obtain ⟨hf0, hin, htn⟩ := ask_zero hz
    have hbo := bOk hf0
    refine C.skip ?_
    refine C.next ?_
    refine C.seq ?_
    refine C.region [(false,0),(false,1),(false,2),(false,3),(false,4)] rfl ?_
    refine L.loadDW rfl Tf.a40 rfl hB1 (by first | simp | assumption) Tf.s40 List.not_mem_nil rfl trivial ?_
    refine L.move rfl rfl rfl trivial ?_
    refine L.call rfl rfl rfl (fun D3 hD3 => boundsT_ok _ b k _ _ (hb0.up (hD3 _ (by simp))) hbo (by omega) (fun s D h4 h5 => money1_ok3 s D h4 h5)) rfl trivial (fun v3 D3 hD3 hp3 => ?_)
    obtain ⟨r, rfl, hr⟩ := hp3
    refine L.storeW rfl rfl rfl rfl Tf.s43 (by first | rfl | (simp only [ints_length, *]; done) | (simp only [ints_length, *]; rfl) | (simp only [ints_length, *]; omega)) (by first | rfl | (simp only [ints_length, *]; done) | (simp only [ints_length, *]; rfl) | (simp only [ints_length, *]; omega)) (Has.head) (by first | exact ints_cell1 _ | simp [cell1]) trivial ?_
    refine L.assign rfl rfl rfl trivial ?_
    refine L.nil ?_
    refine C.next ?_
    refine C.ret ?_
    exact leave (vs := [_, _]) rfl rfl rfl ⟨⟨_, _, _, rfl, List.Mem.head _, Or.inr ⟨Tf.a43, Tf.s43, rfl⟩⟩, rfl, trivial⟩ (fun D hD => ⟨r, by rw [hz]; rfl, fun _ => hr⟩)
def bkL : BookD := (⟨2, 3, 4, [⟨1, -1, 0⟩], []⟩ : BookD)
def rwL : C1.RowD := (⟨[2, 2], [⟨false, 2, 1⟩], 0, 0⟩ : C1.RowD)
theorem ask_left : askB bkL (C1.inB ((1 : Nat) : Int) 0 bkL.lines.length) = 0 := by decide +kernel
theorem vd_left : verdicts bkL.chairs.toNat qCh ((runS bkL 0 (begin0 bkL)).map fun x => atS x 1) = [3, 3] := by decide +kernel
theorem mo_left : (runS bkL 0 (begin0 bkL)).map (fun x => (atS x 1).money) = [7, 7] := by decide +kernel
theorem bnd_left {r : Int × Int} (h : BndR (runS bkL 0 (begin0 bkL)) 1 r) : r = (7, 7) := by
  have hall : ∀ x ∈ runS bkL 0 (begin0 bkL), (atS x 1).money = 7 := fun x hx => by
    have : (atS x 1).money ∈ (runS bkL 0 (begin0 bkL)).map (fun x => (atS x 1).money) := List.mem_map.2 ⟨x, hx, rfl⟩
    rw [mo_left] at this; simpa using this
  have hne : runS bkL 0 (begin0 bkL) ≠ [] := fun e => by have := mo_left; rw [e] at this; simp at this
  obtain ⟨⟨x, hx, e1⟩, ⟨y, hy, e2⟩⟩ := h.2 hne
  rw [hall x hx] at e1
  rw [hall y hy] at e2
  exact Prod.ext e1 e2
theorem ch_left (D : Data) {rv : Value} (h : RowIs D rv rwL) : Fn Try.prog 16 #[rv, .int .i64 0, .int .i64 1] D (fun _ v => v = .tuple #[k2V (1, 1), .int .i64 0]) :=
  (Chairs_ok rv rwL 0 1 D h).mono fun _ v _ hv => by
    rw [hv, show C1.askErr rwL (C1.partOk rwL 0 1) = 0 by decide +kernel, if_pos rfl, show C1.loOf (C1.truths rwL) (0 : Int).toNat (1 : Int).toNat = 1 by decide +kernel, show C1.hiOf (C1.truths rwL) (0 : Int).toNat (1 : Int).toNat = 1 by decide +kernel]; rfl
theorem left_ok (D : Data) : Fn Try.prog 5 #[] D (fun _ v => v = .bool true) := by
  refine enter 68 Try.func5 rfl rfl rfl rfl fun h0 => ?_
  refine C.seq ?_
  refine C.region [(false,0)] rfl ?_
  refine L.assign rfl rfl rfl trivial ?_
  refine L.nil ?_
  refine C.next ?_
  refine C.seq ?_
  refine C.region [(false,0),(false,1),(false,2),(false,3),(false,4)] rfl ?_
  refine L.build (cs := [.int .i64 1, .int .i64 (-1), .int .i64 0]) rfl Tf.p64 Tf.z64 rfl (by kernel_rfl) rfl trivial ?_
  refine L.buildSlice rfl Try.underlying37 Tf.s64 Tf.z64 rfl rfl rfl rfl (.cons rfl rfl .nil) rfl trivial (fun b901 D901 hD901 hA901 => ?_)
  refine L.build (cs := [.int .i64 2, .int .i64 3, .int .i64 4, .slice (some ⟨b901, 0, none⟩) 1 1, .slice none 0 0]) rfl Tf.p40 Tf.z40 rfl (by kernel_rfl) rfl trivial ?_
  refine L.alloc rfl Tf.z40 rfl rfl trivial (fun q1 => ?_)
  refine L.storeW rfl rfl rfl rfl Tf.s40 (by first | rfl | (simp only [ints_length, *]; done) | (simp only [ints_length, *]; rfl) | (simp only [ints_length, *]; omega)) (by first | rfl | (simp only [ints_length, *]; done) | (simp only [ints_length, *]; rfl) | (simp only [ints_length, *]; omega)) (Has.head) (by first | exact ints_cell1 _ | simp [cell1]) trivial ?_
  refine L.nil ?_
  refine C.next ?_
  refine C.seq ?_
  refine C.region [(false,0),(false,1),(false,2),(false,3),(false,4),(false,5),(false,6),(false,7),(false,8)] rfl ?_
  refine L.loadBW rfl Tf.a40 rfl (List.Mem.head _) Tf.s40 List.not_mem_nil rfl trivial ?_
  refine L.call rfl rfl rfl (fun D1 hD1 => Out_ok _ bkL 1 _ ⟨_, _, rfl, (lin_one hA901).up RLin.up (hD1 _ (by simp)), Sl.nil⟩) rfl trivial (fun v1 D1 hD1 hp1 => ?_)
  obtain ⟨cv, tv, rfl, ho⟩ := hp1
  obtain ⟨hv, -⟩ := ho ask_left
  rw [vd_left] at hv
  rw [ask_left]
  refine L.move rfl rfl rfl trivial ?_
  refine L.extract rfl rfl rfl rfl trivial ?_
  refine L.extract rfl rfl rfl rfl trivial ?_
  refine L.extract rfl rfl rfl rfl trivial ?_
  refine L.assign rfl rfl rfl trivial ?_
  refine L.assign rfl rfl rfl trivial ?_
  refine L.assign rfl rfl rfl trivial ?_
  refine L.nil ?_
  refine C.next ?_
  refine C.seq ?_
  refine C.region [(false,0),(false,1),(false,2),(false,3),(false,4),(false,5),(false,6),(false,7)] rfl ?_
  refine L.loadBW rfl Tf.a40 rfl (List.Mem.head _) Tf.s40 List.not_mem_nil rfl trivial ?_
  refine L.call rfl rfl rfl (fun D2 hD2 => Money_ok _ bkL 1 _ ⟨_, _, rfl, (lin_one hA901).up RLin.up (hD2 _ (by simp)), Sl.nil⟩) rfl trivial (fun v2 D2 hD2 hp2 => ?_)
  obtain ⟨r, rfl, hr⟩ := hp2
  obtain rfl := bnd_left (hr ask_left)
  rw [ask_left]
  refine L.move rfl rfl rfl trivial ?_
  refine L.extract rfl rfl rfl rfl trivial ?_
  refine L.extract rfl rfl rfl rfl trivial ?_
  refine L.alloc rfl Tf.z43 rfl rfl trivial (fun q2 => ?_)
  refine L.storeW rfl rfl rfl rfl Tf.s43 (by first | rfl | (simp only [ints_length, *]; done) | (simp only [ints_length, *]; rfl) | (simp only [ints_length, *]; omega)) (by first | rfl | (simp only [ints_length, *]; done) | (simp only [ints_length, *]; rfl) | (simp only [ints_length, *]; omega)) (Has.head) (by first | exact ints_cell1 _ | simp [cell1]) trivial ?_
  refine L.assign rfl rfl rfl trivial ?_
  refine L.nil ?_
  refine C.next ?_
  refine C.seq ?_
  refine C.region [(false,0),(false,1),(false,2),(false,3),(false,4),(false,5),(false,6),(false,7),(false,8),(false,9),(false,10)] rfl ?_
  refine L.buildSlice rfl Try.underlying33 Tf.s3 Tf.z3 rfl rfl rfl rfl (.cons rfl rfl (.cons rfl rfl .nil)) rfl trivial (fun b902 D902 hD902 hA902 => ?_)
  have hS902 := Sl.ofInts (l := [_, _]) (n := 2) (cap := 2) hA902 rfl (by omega) (by omega)
  refine L.build (cs := [.bool false, .int .i64 2, .int .i64 1]) rfl Tf.p66 Tf.z66 rfl (by kernel_rfl) rfl trivial ?_
  refine L.buildSlice rfl Try.underlying57 Tf.s66 Tf.z66 rfl rfl rfl rfl (.cons rfl rfl .nil) rfl trivial (fun b903 D903 hD903 hA903 => ?_)
  refine L.build (cs := [.slice (some ⟨b902, 0, none⟩) 2 2, .slice (some ⟨b903, 0, none⟩) 1 1, .int .i64 0, .int .i64 0]) rfl Tf.p59 Tf.z59 rfl (by kernel_rfl) rfl trivial ?_
  refine L.callV rfl rfl rfl (fun D3 hD3 => ch_left _ ⟨_, _, rfl, hS902.up RI.up (hD3 _ (by simp)), (one_cnt hA903).up RC.up (hD3 _ (by simp))⟩) rfl trivial ?_
  refine L.move rfl rfl rfl trivial ?_
  refine L.extract rfl rfl rfl rfl trivial ?_
  refine L.extract rfl rfl rfl rfl trivial ?_
  refine L.alloc rfl Tf.z54 rfl rfl trivial (fun q3 => ?_)
  refine L.storeW rfl rfl rfl rfl Tf.s54 (by first | rfl | (simp only [ints_length, *]; done) | (simp only [ints_length, *]; rfl) | (simp only [ints_length, *]; omega)) (by first | rfl | (simp only [ints_length, *]; done) | (simp only [ints_length, *]; rfl) | (simp only [ints_length, *]; omega)) (Has.head) (by first | exact ints_cell1 _ | simp [cell1]) trivial ?_
  refine L.assign rfl rfl rfl trivial ?_
  refine L.nil ?_
  refine C.next ?_
  refine C.seq ?_
  refine C.region [(false,0),(false,1),(false,2),(false,3),(false,4),(false,5),(false,6),(false,7),(false,8),(false,9),(false,10),(false,11),(false,12),(false,13),(false,14),(false,15),(false,16),(false,17),(false,18),(false,19),(false,20),(false,21),(false,22),(false,23),(false,24),(false,25),(false,26),(false,27),(false,28),(false,29),(false,30),(false,31),(false,32),(false,33),(false,34),(false,35),(false,36),(false,37)] rfl ?_
  refine L.move rfl rfl rfl trivial ?_
  refine L.eql rfl rfl rfl rfl trivial ?_
  refine L.move rfl rfl rfl trivial ?_
  refine' L.and [(false,3),(false,4),(false,5),(false,6)] [(false,7),(false,8),(false,9),(false,10),(false,11),(false,12),(false,13),(false,14),(false,15),(false,16),(false,17),(false,18),(false,19),(false,20),(false,21),(false,22),(false,23),(false,24),(false,25),(false,26),(false,27),(false,28),(false,29),(false,30),(false,31),(false,32),(false,33),(false,34),(false,35),(false,36),(false,37)] (s := 33) (p := 37) rfl rfl (fun hg1 => ?_) (fun hg1 => ?_) ?_
  rotate_left
  · refine L.move rfl rfl rfl ⟨_, rfl, rfl⟩ ?_
    refine L.len rfl Try.underlying33 rfl hv rfl rfl ⟨_, rfl, rfl⟩ ?_
    refine L.eql rfl rfl rfl rfl ⟨_, rfl, rfl⟩ ?_
    refine L.pickT rfl rfl rfl rfl trivial ?_
    exact L.nil fun a w hh => hh.cutK 3 rfl
  · refine L.pass rfl rfl rfl ⟨_, _, rfl, rfl, rfl⟩ ?_
    refine L.pass rfl rfl rfl ⟨_, _, rfl, rfl, rfl⟩ ?_
    refine L.pass rfl rfl rfl ⟨_, _, rfl, rfl, rfl⟩ ?_
    refine L.pickF rfl rfl rfl rfl trivial ?_
    exact L.nil fun a w hh => hh.cutK 3 rfl
  refine L.move rfl rfl rfl trivial ?_
  refine' L.and [(false,8),(false,9),(false,10),(false,11),(false,12)] [(false,13),(false,14),(false,15),(false,16),(false,17),(false,18),(false,19),(false,20),(false,21),(false,22),(false,23),(false,24),(false,25),(false,26),(false,27),(false,28),(false,29),(false,30),(false,31),(false,32),(false,33),(false,34),(false,35),(false,36),(false,37)] (s := 38) (p := 43) rfl rfl (fun hg2 => ?_) (fun hg2 => ?_) ?_
  rotate_left
  · refine L.move rfl rfl rfl ⟨_, rfl, rfl⟩ ?_
    refine L.indexS rfl Try.underlying33 Tf.s3 rfl hv rfl (by omega) rfl rfl ⟨_, rfl, rfl⟩ (fun b1 o1 cs1 hr1 hcl1 hA1 => ?_)
    obtain rfl : cs1 = [.int .i64 _] := hr1
    refine L.loadD1 rfl (k := 0) Tf.a3 rfl hA1 (by first | simp | assumption) rfl List.not_mem_nil rfl ⟨_, rfl, rfl⟩ ?_
    refine L.eql rfl rfl rfl rfl ⟨_, rfl, rfl⟩ ?_
    refine L.pickT rfl rfl rfl rfl trivial ?_
    exact L.nil fun a w hh => hh.cutK 4 rfl
  · refine L.pass rfl rfl rfl ⟨_, _, rfl, rfl, rfl⟩ ?_
    refine L.pass rfl rfl rfl ⟨_, _, rfl, rfl, rfl⟩ ?_
    refine L.pass rfl rfl rfl ⟨_, _, rfl, rfl, rfl⟩ ?_
    refine L.pass rfl rfl rfl ⟨_, _, rfl, rfl, rfl⟩ ?_
    refine L.pickF rfl rfl rfl rfl trivial ?_
    exact L.nil fun a w hh => hh.cutK 4 rfl
  refine L.move rfl rfl rfl trivial ?_
  refine' L.and [(false,14),(false,15),(false,16),(false,17),(false,18)] [(false,19),(false,20),(false,21),(false,22),(false,23),(false,24),(false,25),(false,26),(false,27),(false,28),(false,29),(false,30),(false,31),(false,32),(false,33),(false,34),(false,35),(false,36),(false,37)] (s := 44) (p := 49) rfl rfl (fun hg3 => ?_) (fun hg3 => ?_) ?_
  rotate_left
  · refine L.move rfl rfl rfl ⟨_, rfl, rfl⟩ ?_
    refine L.indexS rfl Try.underlying33 Tf.s3 rfl hv rfl (by omega) rfl rfl ⟨_, rfl, rfl⟩ (fun b2 o2 cs2 hr2 hcl2 hA2 => ?_)
    obtain rfl : cs2 = [.int .i64 _] := hr2
    refine L.loadD1 rfl (k := 0) Tf.a3 rfl hA2 (by first | simp | assumption) rfl List.not_mem_nil rfl ⟨_, rfl, rfl⟩ ?_
    refine L.eql rfl rfl rfl rfl ⟨_, rfl, rfl⟩ ?_
    refine L.pickT rfl rfl rfl rfl trivial ?_
    exact L.nil fun a w hh => hh.cutK 4 rfl
  · refine L.pass rfl rfl rfl ⟨_, _, rfl, rfl, rfl⟩ ?_
    refine L.pass rfl rfl rfl ⟨_, _, rfl, rfl, rfl⟩ ?_
    refine L.pass rfl rfl rfl ⟨_, _, rfl, rfl, rfl⟩ ?_
    refine L.pass rfl rfl rfl ⟨_, _, rfl, rfl, rfl⟩ ?_
    refine L.pickF rfl rfl rfl rfl trivial ?_
    exact L.nil fun a w hh => hh.cutK 4 rfl
  refine L.move rfl rfl rfl trivial ?_
  refine' L.and [(false,20),(false,21),(false,22)] [(false,23),(false,24),(false,25),(false,26),(false,27),(false,28),(false,29),(false,30),(false,31),(false,32),(false,33),(false,34),(false,35),(false,36),(false,37)] (s := 50) (p := 53) rfl rfl (fun hg4 => ?_) (fun hg4 => ?_) ?_
  rotate_left
  · refine L.move rfl rfl rfl ⟨_, rfl, rfl⟩ ?_
    refine L.eql rfl rfl rfl rfl ⟨_, rfl, rfl⟩ ?_
    refine L.pickT rfl rfl rfl rfl trivial ?_
    exact L.nil fun a w hh => hh.cutK 2 rfl
  · refine L.pass rfl rfl rfl ⟨_, _, rfl, rfl, rfl⟩ ?_
    refine L.pass rfl rfl rfl ⟨_, _, rfl, rfl, rfl⟩ ?_
    refine L.pickF rfl rfl rfl rfl trivial ?_
    exact L.nil fun a w hh => hh.cutK 2 rfl
  refine L.move rfl rfl rfl trivial ?_
  refine' L.and [(false,24),(false,25),(false,26),(false,27)] [(false,28),(false,29),(false,30),(false,31),(false,32),(false,33),(false,34),(false,35),(false,36),(false,37)] (s := 54) (p := 58) rfl rfl (fun hg5 => ?_) (fun hg5 => ?_) ?_
  rotate_left
  · refine L.loadBW rfl Tf.a43 rfl (List.Mem.tail _ (List.Mem.head _)) Tf.s43 List.not_mem_nil rfl ⟨_, rfl, rfl⟩ ?_
    refine L.build (cs := [.int .i64 7, .int .i64 7]) rfl Tf.p43 Tf.z43 rfl (by kernel_rfl) rfl ⟨_, rfl, rfl⟩ ?_
    refine L.eqlK (a := (7, 7)) (b := (7, 7)) rfl (by kernel_rfl) k2_43 rfl rfl rfl ⟨_, rfl, rfl⟩ ?_
    refine L.pickT rfl rfl rfl rfl trivial ?_
    exact L.nil fun a w hh => hh.cutK 3 rfl
  · refine L.pass rfl rfl rfl ⟨_, _, rfl, rfl, rfl⟩ ?_
    refine L.pass rfl rfl rfl ⟨_, _, rfl, rfl, rfl⟩ ?_
    refine L.pass rfl rfl rfl ⟨_, _, rfl, rfl, rfl⟩ ?_
    refine L.pickF rfl rfl rfl rfl trivial ?_
    exact L.nil fun a w hh => hh.cutK 3 rfl
  refine L.move rfl rfl rfl trivial ?_
  refine' L.and [(false,29),(false,30),(false,31)] [(false,32),(false,33),(false,34),(false,35),(false,36),(false,37)] (s := 59) (p := 62) rfl rfl (fun hg6 => ?_) (fun hg6 => ?_) ?_
  rotate_left
  · refine L.move rfl rfl rfl ⟨_, rfl, rfl⟩ ?_
    refine L.eql rfl rfl rfl rfl ⟨_, rfl, rfl⟩ ?_
    refine L.pickT rfl rfl rfl rfl trivial ?_
    exact L.nil fun a w hh => hh.cutK 2 rfl
  · refine L.pass rfl rfl rfl ⟨_, _, rfl, rfl, rfl⟩ ?_
    refine L.pass rfl rfl rfl ⟨_, _, rfl, rfl, rfl⟩ ?_
    refine L.pickF rfl rfl rfl rfl trivial ?_
    exact L.nil fun a w hh => hh.cutK 2 rfl
  refine L.move rfl rfl rfl trivial ?_
  refine' L.and [(false,33),(false,34),(false,35),(false,36)] [(false,37)] (s := 63) (p := 67) rfl rfl (fun hg7 => ?_) (fun hg7 => ?_) ?_
  rotate_left
  · refine L.loadBW rfl Tf.a54 rfl (List.Mem.head _) Tf.s54 List.not_mem_nil rfl ⟨_, rfl, rfl⟩ ?_
    refine L.build (cs := [.int .i64 1, .int .i64 1]) rfl Tf.p54 Tf.z54 rfl (by kernel_rfl) rfl ⟨_, rfl, rfl⟩ ?_
    refine L.eqlK (a := (1, 1)) (b := (1, 1)) rfl (by kernel_rfl) k2_54 rfl rfl rfl ⟨_, rfl, rfl⟩ ?_
    refine L.pickT rfl rfl rfl rfl trivial ?_
    exact L.nil fun a w hh => hh.cutK 3 rfl
  · refine L.pass rfl rfl rfl ⟨_, _, rfl, rfl, rfl⟩ ?_
    refine L.pass rfl rfl rfl ⟨_, _, rfl, rfl, rfl⟩ ?_
    refine L.pass rfl rfl rfl ⟨_, _, rfl, rfl, rfl⟩ ?_
    refine L.pickF rfl rfl rfl rfl trivial ?_
    exact L.nil fun a w hh => hh.cutK 3 rfl
  refine L.assign rfl rfl rfl trivial ?_
  refine L.nil ?_
  refine C.next ?_
  refine C.ret ?_
  exact leave (vs := [_]) rfl rfl rfl ⟨rfl, trivial⟩ (fun D hD => congrArg Value.bool (by decide +kernel))
end Go.Fs
namespace Go.Fs.C1
/-! ### The least and the greatest number -/
theorem minL_mem {l : List Int} (h : l ≠ []) : minL l ∈ l := by
  have key : ∀ (l : List Int) (a : Int), l.foldl min a = a ∨ l.foldl min a ∈ l := by
    intro l
    induction l with
    | nil => intro a; exact Or.inl rfl
    | cons y l ih =>
      intro a
      rw [List.foldl_cons]
      rcases ih (min a y) with h | h
      · rw [h]
        rcases Int.le_total a y with h' | h'
        · exact Or.inl (by omega)
        · exact Or.inr (by rw [Int.min_eq_right h']; exact List.mem_cons_self)
      · exact Or.inr (List.mem_cons_of_mem _ h)
  cases l with
  | nil => exact absurd rfl h
  | cons y l =>
    rcases key l y with h | h
    · show l.foldl min y ∈ _; rw [h]; exact List.mem_cons_self
    · exact List.mem_cons_of_mem _ h
theorem maxL_mem {l : List Int} (h : l ≠ []) : maxL l ∈ l := by
  have key : ∀ (l : List Int) (a : Int), l.foldl max a = a ∨ l.foldl max a ∈ l := by
    intro l
    induction l with
    | nil => intro a; exact Or.inl rfl
    | cons y l ih =>
      intro a
      rw [List.foldl_cons]
      rcases ih (max a y) with h | h
      · rw [h]
        rcases Int.le_total a y with h' | h'
        · exact Or.inr (by rw [Int.max_eq_right h']; exact List.mem_cons_self)
        · exact Or.inl (by omega)
      · exact Or.inr (List.mem_cons_of_mem _ h)
  cases l with
  | nil => exact absurd rfl h
  | cons y l =>
    rcases key l y with h | h
    · show l.foldl max y ∈ _; rw [h]; exact List.mem_cons_self
    · exact List.mem_cons_of_mem _ h
theorem lo_mem {ts : List (List Int)} {i j : Nat} (h : ts ≠ []) : ∃ t ∈ ts, partOf t i j = loOf ts i j := by
  obtain ⟨t, ht, he⟩ := List.mem_map.1 (minL_mem (l := ts.map fun t => partOf t i j) (by simpa using h))
  exact ⟨t, ht, he⟩
theorem hi_mem {ts : List (List Int)} {i j : Nat} (h : ts ≠ []) : ∃ t ∈ ts, partOf t i j = hiOf ts i j := by
  obtain ⟨t, ht, he⟩ := List.mem_map.1 (maxL_mem (l := ts.map fun t => partOf t i j) (by simpa using h))
  exact ⟨t, ht, he⟩
/-! ### Trees of looks -/
end Go.Fs.C1
namespace Go.Fs.C1
/-! ### Truths, by their members -/
theorem mem_allT : ∀ {l t : List Int}, t ∈ allT l ↔ t.length = l.length ∧ ∀ (k : Nat) (x p : Int), t[k]? = some x → l[k]? = some p → (x = 0 ∨ x = 1) ∧ (p = 2 ∨ p = x)
  | [], t => by
    simp only [allT, List.mem_singleton, List.length_nil]
    constructor
    · rintro rfl; simp
    · rintro ⟨h, _⟩; exact List.length_eq_zero_iff.1 h
  | p :: ps, t => by
    have key : ∀ c : Int, (c = 0 ∨ c = 1) → (t ∈ (if p = 2 ∨ p = c then (allT ps).map (c :: ·) else []) ↔ ∃ u, t = c :: u ∧ u ∈ allT ps ∧ (p = 2 ∨ p = c)) := by
      intro c _
      split
      · rename_i h
        simp only [List.mem_map]
        constructor
        · rintro ⟨u, hu, rfl⟩; exact ⟨u, rfl, hu, h⟩
        · rintro ⟨u, rfl, hu, _⟩; exact ⟨u, hu, rfl⟩
      · rename_i h
        constructor
        · intro h'; cases h'
        · rintro ⟨_, _, _, h'⟩; exact absurd h' h
    simp only [allT, List.mem_append]
    rw [key 0 (Or.inl rfl), key 1 (Or.inr rfl)]
    constructor
    · have mk : ∀ (c : Int) (u : List Int), (c = 0 ∨ c = 1) → t = c :: u → u ∈ allT ps → (p = 2 ∨ p = c) → t.length = (p :: ps).length ∧ ∀ (k : Nat) (x p' : Int), t[k]? = some x → (p :: ps)[k]? = some p' → (x = 0 ∨ x = 1) ∧ (p' = 2 ∨ p' = x) := by
        rintro c u hc rfl hu hp
        obtain ⟨h1, h2⟩ := mem_allT.1 hu
        refine ⟨by simp [h1], fun k x p' hx hp' => ?_⟩
        cases k with
        | zero =>
          simp only [List.getElem?_cons_zero, Option.some.injEq] at hx hp'
          subst hx hp'; exact ⟨hc, hp⟩
        | succ k => simp only [List.getElem?_cons_succ] at hx hp'; exact h2 k x p' hx hp'
      rintro (⟨u, h1, h2, h3⟩ | ⟨u, h1, h2, h3⟩)
      · exact mk 0 u (Or.inl rfl) h1 h2 h3
      · exact mk 1 u (Or.inr rfl) h1 h2 h3
    · rintro ⟨h1, h2⟩
      cases t with
      | nil => simp at h1
      | cons c u =>
        have h0 := h2 0 c p rfl rfl
        have hu : u ∈ allT ps := mem_allT.2 ⟨by simpa using h1, fun k x p' hx hp' => h2 (k + 1) x p' (by simpa using hx) (by simpa using hp')⟩
        rcases h0.1 with rfl | rfl
        · exact Or.inl ⟨u, rfl, hu, h0.2⟩
        · exact Or.inr ⟨u, rfl, hu, h0.2⟩
theorem mem_truths {r : RowD} {t : List Int} : t ∈ truths r ↔ t ∈ allT r.places ∧ fits r t = true := List.mem_filter
/-! ### The least number of wrong counts -/
/-! ### A row from the other end -/
/-! ### Wider rows -/
end Go.Fs.C1
namespace Go.Fs
open Go.Proofs
open C3
theorem len_all : ∀ n ∈ [1, 2, 3, 4], ∀ k ∈ List.range 3, ∀ c ∈ List.range (n + 1), ∀ t ∈ List.range (n + 1), (readings (n : Int) ⟨(k : Int), (c : Int) - 1, (t : Int) - 1⟩).length = (rrK n ⟨(k : Int), (c : Int) - 1, (t : Int) - 1⟩ 2).length := by decide +kernel
theorem len_is {n : Int} {l : Lin} (hn : 1 ≤ n ∧ n ≤ 4) (hl : lineOk n l = true) : (readings n l).length = (rrK n.toNat l 2).length := by
  obtain ⟨a, c, t⟩ := l
  unfold lineOk at hl
  simp only [Bool.and_eq_true, C1.inB_iff] at hl
  have h := len_all n.toNat (by simp only [List.mem_cons, List.not_mem_nil, or_false]; omega) a.toNat (List.mem_range.2 (by omega)) (c + 1).toNat (List.mem_range.2 (by omega)) (t + 1).toNat (List.mem_range.2 (by omega))
  rw [show ((n.toNat : Nat) : Int) = n by omega, show ((a.toNat : Nat) : Int) = a by omega, show (((c + 1).toNat : Nat) : Int) - 1 = c by omega, show (((t + 1).toNat : Nat) : Int) - 1 = t by omega] at h
  exact h
theorem many_le {n : Int} (hn : 1 ≤ n ∧ n ≤ 4) {ls : List Lin} (hl : ∀ l ∈ ls, lineOk n l = true) : manyK n ls ≤ manyR n.toNat ls := by
  unfold manyK manyR
  have key : ∀ (ls : List Lin) (a c : Int), (∀ l ∈ ls, lineOk n l = true) → 0 ≤ a → a ≤ c → ls.foldl (fun (m : Int) l => min (m * ((readings n l).length : Int)) 4097) a ≤ ls.foldl (fun (m : Int) l => min 5000 (m * ((rrK n.toNat l 2).length : Int))) c := by
    intro ls
    induction ls with
    | nil => intro a c _ _ h; exact h
    | cons l ls ih =>
      intro a c hl ha hac
      rw [List.foldl_cons, List.foldl_cons, len_is hn (hl l List.mem_cons_self)]
      have h1 : 0 ≤ a * ((rrK n.toNat l 2).length : Int) := Int.mul_nonneg ha (by omega)
      have h2 : a * ((rrK n.toNat l 2).length : Int) ≤ c * ((rrK n.toNat l 2).length : Int) := Int.mul_le_mul_of_nonneg_right hac (by omega)
      exact ih _ _ (fun l hm => hl l (List.mem_cons_of_mem _ hm)) (by omega) (by omega)
  exact key ls 1 1 hl (by omega) (by omega)
theorem fault_of {x : BookD} (h : faultR x = 0) (ht : thin3 x = true) : fault x = 0 := by
  have hm : manyR x.chairs.toNat x.lines ≤ 100 := by
    unfold thin3 at ht
    rw [Bool.and_eq_true, Bool.or_eq_true, decide_eq_true_eq, decide_eq_true_eq] at ht
    exact ht.2.resolve_left (fun hn => hn h)
  unfold faultR at h
  unfold fault
  split at h
  · omega
  · rename_i h1
    split at h
    · omega
    · rename_i h2
      rw [if_neg h1, if_neg h2, if_neg]
      have hb : bookOk x = true := by simpa using h2
      unfold bookOk at hb
      simp only [Bool.and_eq_true, C1.inB_iff, List.all_eq_true] at hb
      have := many_le hb.1.1.1.1 hb.1.2
      omega
theorem monR_same {x b : BookD} (h1 : x.coin = b.coin) (h2 : x.box = b.box) (t : List Lin) : ∀ k, monR x t k = monR b t k
  | 0 => h2
  | k + 1 => by rw [monR, monR, monR_same h1 h2 t k, h1]
theorem runs_has {x : BookD} {t : List Lin} (hlen : t.length = x.lines.length) (hr : ∀ (i : Nat) l z, t[i]? = some l → x.lines[i]? = some z → l ∈ readings x.chairs z) (hc : ∀ (i : Nat) l, t[i]? = some l → canN (scK x t i) l = true) (hk : ∀ i : Nat, i ≤ t.length → countedB x (scK x t i) i = true) :
    ∀ (j i : Nat), i + j = t.length → (t.drop i, (List.range (j + 1)).map fun m => scK x t (i + m)) ∈ runs x (x.lines.drop i) i (scK x t i)
  | 0, i, h => by
    rw [List.drop_eq_nil_of_le (by omega), List.drop_eq_nil_of_le (by omega)]
    unfold runs; rw [if_pos (hk i (by omega))]
    simp
  | j + 1, i, h => by
    obtain ⟨l, hl⟩ : ∃ l, t[i]? = some l := ⟨_, List.getElem?_eq_getElem (by omega)⟩
    obtain ⟨z, hz⟩ : ∃ z, x.lines[i]? = some z := ⟨_, List.getElem?_eq_getElem (by omega)⟩
    have e1 : t.drop i = l :: t.drop (i + 1) := by rw [List.drop_eq_getElem_cons (by omega)]; congr 1; exact Option.some.inj ((List.getElem?_eq_getElem (by omega)).symm.trans hl)
    have e2 : x.lines.drop i = z :: x.lines.drop (i + 1) := by rw [List.drop_eq_getElem_cons (by omega)]; congr 1; exact Option.some.inj ((List.getElem?_eq_getElem (by omega)).symm.trans hz)
    have ih := runs_has hlen hr hc hk j (i + 1) (by omega)
    rw [← nx_is hl] at ih
    rw [e1, e2]
    unfold runs; rw [if_pos (hk i (by omega))]
    refine List.mem_flatMap.2 ⟨l, hr i l z hl hz, ?_⟩
    rw [if_pos (hc i l hl)]
    refine List.mem_map.2 ⟨_, ih, ?_⟩
    have e3 : (List.range (j + 1 + 1)).map (fun m => scK x t (i + m)) = scK x t i :: (List.range (j + 1)).map fun m => scK x t (i + 1 + m) := by
      rw [List.range_succ_eq_map, List.map_cons, List.map_map, Nat.add_zero]
      congr 1
      exact List.map_congr_left fun m _ => by simp only [Function.comp]; rw [show i + (m + 1) = i + 1 + m by omega]
    rw [e3]
/-- What is so of a book and a truth that it was made from. -/
structure BT (x : BookD) (t : List Lin) : Prop where
  f0 : fault x = 0
  len : t.length = x.lines.length
  lin : ∀ l ∈ t, linIn x.chairs l
  rd : ∀ (i : Nat) l z, t[i]? = some l → x.lines[i]? = some z → l ∈ readings x.chairs z
  can : ∀ (i : Nat) l, t[i]? = some l → canN (scK x t i) l = true
  cnt : ∀ i : Nat, i ≤ t.length → countedB x (scK x t i) i = true
theorem bt_of {b x : BookD} {t : List Lin} (h1 : x.chairs = b.chairs) (h2 : x.coin = b.coin) (h3 : x.box = b.box) (hI : HI b x.lines t t.length) (hc : CntsOk b t x.counts) (hf : faultR x = 0) (ht : thin3 x = true) : BT x t := by
  have f0 := fault_of hf ht
  have hbo := bOk f0
  have hlin : ∀ l ∈ t, linIn x.chairs l := fun l hl => by rw [h1]; exact hI.lin l hl
  have hlin4 : ∀ l ∈ t, linIn 4 l := fun l hl => by
    obtain ⟨g0, g1, g2, g3, g4⟩ := hlin l hl
    have := hbo.ch.2
    exact ⟨g0, g1, by omega, g3, by omega⟩
  refine ⟨f0, hI.lx.symm, hlin, fun i l z hl hz => ?_, fun i l hl => ?_, fun i hi => ?_⟩
  · exact (readings_mem (hbo.ln z (List.mem_of_getElem? hz))).2 ⟨hlin l (List.mem_of_getElem? hl), hI.ag i z l hz hl⟩
  · rw [can_is hlin4 hl]
    have := hI.ps
    unfold possR at this
    rw [List.all_eq_true] at this
    exact this i (List.mem_range.2 (List.getElem?_eq_some_iff.1 hl).1)
  · unfold countedB
    rw [List.all_eq_true]
    intro c hcm
    obtain ⟨g1, g2, g3, g4⟩ := hc c hcm
    rw [(link (b := x) hlin4 i hi).2.2, monR_same h2 h3]
    by_cases e : c.after = (i : Int)
    · rw [show c.after.toNat = i by omega] at g3 g4
      rw [(C1.inB_iff).2 ⟨g3, g4⟩]; simp
    · simp [e]
theorem BT.mem {x : BookD} {t : List Lin} (h : BT x t) : scs x t ∈ runS x 0 (begin0 x) := by
  have := runs_has h.len h.rd h.can h.cnt t.length 0 (by omega)
  refine List.mem_map.2 ⟨_, this, ?_⟩
  simp only [scs]
  exact List.map_congr_left fun m _ => by rw [Nat.zero_add]
theorem BT.ask {x : BookD} {t : List Lin} (h : BT x t) {k : Nat} (hk : k ≤ t.length) : askB x (C1.inB (k : Int) 0 x.lines.length) = 0 := by
  have hm := h.mem
  unfold runS at hm
  obtain ⟨y, hy, _⟩ := List.mem_map.1 hm
  unfold askB
  rw [if_neg (by rw [h.f0]; simp), if_neg (by rw [(C1.inB_iff).2 ⟨by omega, by have := h.len; omega⟩]; simp), if_neg]
  intro e
  unfold truths at e
  rw [List.drop_zero, e] at hy
  cases hy
theorem BT.play {x : BookD} {t : List Lin} (h : BT x t) : playE x t = 0 ∧ playM x t = (scs x t).map fun s => s.money := by
  have hs : scenesB x t = true := by
    unfold scenesB okK
    rw [Bool.and_eq_true, decide_eq_true_eq, List.all_eq_true]
    refine ⟨h.len, fun j hj => ?_⟩
    have hj := List.mem_range.1 hj
    obtain ⟨l, hl⟩ : ∃ l, t[j]? = some l := ⟨_, List.getElem?_eq_getElem hj⟩
    obtain ⟨z, hz⟩ : ∃ z, x.lines[j]? = some z := ⟨_, List.getElem?_eq_getElem (by have := h.len; omega)⟩
    rw [step_is hl hz, h.can j l hl, Bool.and_true, List.any_eq_true]
    exact ⟨l, h.rd j l z hl hz, by simp⟩
  have e : playE x t = 0 := by unfold playE; rw [if_neg (by rw [h.f0]; simp), if_neg (by rw [hs]; simp)]
  exact ⟨e, by unfold playM; rw [if_pos e]⟩
theorem scs_at {x : BookD} {t : List Lin} {k : Nat} (hk : k ≤ t.length) : (scs x t)[k]? = some (scK x t k) := by
  unfold scs; rw [List.getElem?_map, List.getElem?_range (by omega)]; rfl
theorem BT.bnd {x : BookD} {t : List Lin} (h : BT x t) {k : Nat} (hk : k ≤ t.length) {r : Int × Int} (hr : BndR (runS x 0 (begin0 x)) k r) : r.1 ≤ (scK x t k).money ∧ (scK x t k).money ≤ r.2 := by
  have := hr.1 _ h.mem
  rwa [atS_is (scs_at hk)] at this
theorem BT.lin4 {x : BookD} {t : List Lin} (h : BT x t) : ∀ l ∈ t, linIn 4 l := fun l hl => by
  obtain ⟨g0, g1, g2, g3, g4⟩ := h.lin l hl
  have := (bOk h.f0).ch.2
  exact ⟨g0, g1, by omega, g3, by omega⟩
theorem inv_at {x : BookD} {t : List Lin} (h : BT x t) : ∀ k, k ≤ t.length → MInv x (scK x t k)
  | 0, _ => begin_inv x
  | k + 1, hk => by
    obtain ⟨l, hl⟩ : ∃ l, t[k]? = some l := ⟨_, List.getElem?_eq_getElem (by omega)⟩
    rw [← nx_is hl]
    obtain ⟨g0, g1, g2, g3, g4⟩ := h.lin4 l (List.mem_of_getElem? hl)
    exact next_inv (inv_at h k (by omega)) (scK_four x t k).1 (h.can k l hl) g1 g2
theorem co_none {f : Lin → Int} {t : List Lin} {c : Int} (h : ∀ l ∈ t, f l ≠ c) : ∀ k, coR f t c k = -1
  | 0 => rfl
  | k + 1 => by
    rw [coR]
    cases e : t[k]? with
    | none => exact co_none h k
    | some l => simp only; rw [if_neg (h l (List.mem_of_getElem? e))]; exact co_none h k
/-- The truth of the stand: a chair is there that is not out. -/
def tauS (n : Nat) (t : List Lin) (k : Nat) : List Int := (List.range n).map fun i : Nat => if coR Lin.chair t i k < 0 then 1 else 0
theorem outs4 (a b c d : Int) : outs [a, b, c, d] = (if a ≠ 0 then 1 else 0) + (if b ≠ 0 then 1 else 0) + (if c ≠ 0 then 1 else 0) + (if d ≠ 0 then 1 else 0) := by
  unfold outs
  by_cases h1 : a = 0 <;> by_cases h2 : b = 0 <;> by_cases h3 : c = 0 <;> by_cases h4 : d = 0 <;> simp [List.filter, h1, h2, h3, h4]
theorem tau_sum {x : BookD} {t : List Lin} (h : BT x t) {k : Nat} (hk : k ≤ t.length) : (tauS x.chairs.toNat t k).sum = x.chairs - outs (scK x t k).ch ∧ 0 ≤ outs (scK x t k).ch ∧ outs (scK x t k).ch ≤ x.chairs := by
  have hch := (bOk h.f0).ch
  obtain ⟨hl, _, _⟩ := link (b := x) h.lin4 k hk
  obtain ⟨c0, c1, c2, c3, e⟩ := four (scK_four x t k).1
  have l0 := co_low Lin.chair t ((0 : Nat) : Int) k
  have l1 := co_low Lin.chair t ((1 : Nat) : Int) k
  have l2 := co_low Lin.chair t ((2 : Nat) : Int) k
  have l3 := co_low Lin.chair t ((3 : Nat) : Int) k
  have h0 := hl 0 (by omega)
  have h1 := hl 1 (by omega)
  have h2 := hl 2 (by omega)
  have h3 := hl 3 (by omega)
  rw [e] at h0 h1 h2 h3
  simp only [List.getD_cons_zero, List.getD_cons_succ] at h0 h1 h2 h3
  have hno : ∀ i : Nat, x.chairs ≤ (i : Int) → coR Lin.chair t i k = -1 := fun i hi => co_none (fun l hl' => by have := (h.lin l hl').2.2.1; omega) k
  rw [e, outs4]
  unfold tauS
  have hn : x.chairs.toNat = 1 ∨ x.chairs.toNat = 2 ∨ x.chairs.toNat = 3 ∨ x.chairs.toNat = 4 := by omega
  rcases hn with hn | hn | hn | hn
  · have n1 := hno 1 (by omega); have n2 := hno 2 (by omega); have n3 := hno 3 (by omega)
    rw [hn, show List.range 1 = [0] from rfl]
    simp only [List.map_cons, List.map_nil, List.sum_cons, List.sum_nil]
    refine ⟨?_, ?_, ?_⟩ <;> (repeat' split) <;> omega
  · have n2 := hno 2 (by omega); have n3 := hno 3 (by omega)
    rw [hn, show List.range 2 = [0, 1] from rfl]
    simp only [List.map_cons, List.map_nil, List.sum_cons, List.sum_nil]
    refine ⟨?_, ?_, ?_⟩ <;> (repeat' split) <;> omega
  · have n3 := hno 3 (by omega)
    rw [hn, show List.range 3 = [0, 1, 2] from rfl]
    simp only [List.map_cons, List.map_nil, List.sum_cons, List.sum_nil]
    refine ⟨?_, ?_, ?_⟩ <;> (repeat' split) <;> omega
  · rw [hn, show List.range 4 = [0, 1, 2, 3] from rfl]
    simp only [List.map_cons, List.map_nil, List.sum_cons, List.sum_nil]
    refine ⟨?_, ?_, ?_⟩ <;> (repeat' split) <;> omega
/-- What is known of the chairs. -/
def vdS (x : BookD) (k : Nat) : List Int := verdicts x.chairs.toNat qCh ((runS x 0 (begin0 x)).map fun y => atS y k)
theorem vdS_facts {x : BookD} {t : List Lin} (h : BT x t) {k : Nat} (hk : k ≤ t.length) : (vdS x k).length = x.chairs.toNat ∧ ∀ i : Nat, i < x.chairs.toNat → ((vdS x k).getD i 0 = 1 → 0 ≤ coR Lin.chair t i k) ∧ ((vdS x k).getD i 0 = 2 → coR Lin.chair t i k < 0) := by
  have hch := (bOk h.f0).ch
  have h4 : ∀ s ∈ (runS x 0 (begin0 x)).map (fun y => atS y k), s.ch.length = 4 := fun s hs => by
    obtain ⟨y, hy, rfl⟩ := List.mem_map.1 hs
    unfold runS at hy
    obtain ⟨z, hz, rfl⟩ := List.mem_map.1 hy
    obtain ⟨g1, g2⟩ := runs_ok x _ _ _ rfl rfl z hz
    rw [List.drop_zero] at g1
    obtain ⟨u, hu⟩ : ∃ u, z.2[k]? = some u := ⟨_, List.getElem?_eq_getElem (by have := h.len; omega)⟩
    rw [atS_is hu]
    exact (g2 u (List.mem_of_getElem? hu)).1
  obtain ⟨f1, f2⟩ := verdict_facts (n := x.chairs.toNat) (q := qCh) (fun s s' i a c d => (qCh_same i a c d).1) h4
  refine ⟨f1, fun i hi => ?_⟩
  obtain ⟨g1, g2⟩ := f2 i hi
  have hm : scK x t k ∈ (runS x 0 (begin0 x)).map (fun y => atS y k) := List.mem_map.2 ⟨_, h.mem, atS_is (scs_at hk)⟩
  obtain ⟨hl, _, _⟩ := link (b := x) h.lin4 k hk
  have e := hl i (by omega)
  have low := co_low Lin.chair t (i : Int) k
  constructor
  · intro hv
    have := g1 hv _ hm
    unfold qCh at this
    rw [decide_eq_true_eq, e] at this
    omega
  · intro hv
    have := g2 hv _ hm
    unfold qCh at this
    rw [decide_eq_false_iff_not, e] at this
    omega
theorem tau_in {x : BookD} {t : List Lin} (h : BT x t) {k : Nat} (hk : k ≤ t.length) (m : Int) : tauS x.chairs.toNat t k ∈ C1.allT (stoodD (vdS x k) m).places := by
  obtain ⟨f1, f2⟩ := vdS_facts h hk
  refine C1.mem_allT.2 ⟨by simp [tauS, stoodD, f1], fun i y p hy hp => ?_⟩
  unfold tauS at hy
  rw [List.getElem?_map] at hy
  have hi : i < x.chairs.toNat := by
    rcases Nat.lt_or_ge i x.chairs.toNat with hi | hi
    · exact hi
    · rw [List.getElem?_eq_none (by simpa using hi)] at hy; cases hy
  rw [List.getElem?_range hi] at hy
  obtain rfl : (if coR Lin.chair t (i : Int) k < 0 then (1 : Int) else 0) = y := Option.some.inj hy
  unfold stoodD at hp
  simp only at hp
  rw [List.getElem?_map] at hp
  obtain ⟨v, hv⟩ : ∃ v, (vdS x k)[i]? = some v := ⟨_, List.getElem?_eq_getElem (by omega)⟩
  rw [hv] at hp
  obtain rfl := Option.some.inj hp
  have hg : (vdS x k).getD i 0 = v := by rw [List.getD_eq_getElem?_getD, hv]; rfl
  obtain ⟨g1, g2⟩ := f2 i hi
  rw [hg] at g1 g2
  unfold plc
  split
  · rename_i hc
    refine ⟨Or.inr rfl, ?_⟩
    by_cases h2 : v = 2
    · rw [if_pos h2]; exact Or.inr rfl
    · rw [if_neg h2]
      by_cases h1 : v = 1
      · have := g1 h1; omega
      · rw [if_neg h1]; exact Or.inl rfl
  · rename_i hc
    refine ⟨Or.inl rfl, ?_⟩
    by_cases h2 : v = 2
    · exact absurd (g2 h2) hc
    · rw [if_neg h2]
      by_cases h1 : v = 1
      · rw [if_pos h1]; exact Or.inr rfl
      · rw [if_neg h1]; exact Or.inl rfl
theorem sum_take {l : List Int} {n : Nat} (h : l.length = n) : C1.sumFrom l 0 n = l.sum := by unfold C1.sumFrom; rw [List.drop_zero, List.take_of_length_le (by omega)]
theorem allT_isTruth3 {r : C1.RowD} {t : List Int} (h : t ∈ C1.allT r.places) : C1.isTruth r t = true := by
  rw [← C1.isP_eq]
  obtain ⟨h1, h2⟩ := C1.mem_allT.1 h
  unfold C1.isP
  rw [Bool.and_eq_true, Bool.and_eq_true, beq_iff_eq, List.all_eq_true, List.all_eq_true]
  refine ⟨⟨h1, fun y hy => ?_⟩, fun z hz => ?_⟩
  · obtain ⟨i, hi⟩ := List.getElem?_of_mem hy
    have hil := (List.getElem?_eq_some_iff.1 hi).1
    have := (h2 i y _ hi (List.getElem?_eq_getElem (by omega))).1
    rw [C1.inB_iff]; omega
  · obtain ⟨i, hi⟩ := List.getElem?_of_mem hz
    rw [List.getElem?_zip_eq_some] at hi
    have := (h2 i _ _ hi.1 hi.2).2
    simp only [Bool.or_eq_true, beq_iff_eq]
    omega
theorem stand_row {x : BookD} {t : List Lin} (h : BT x t) {k : Nat} (hk : k ≤ t.length) {O : Int} (hO : outs (scK x t k).ch = O) :
    (decide (C1.fault (stoodD (vdS x k) (x.chairs - O)) = 0) && C1.isTruth (stoodD (vdS x k) (x.chairs - O)) (tauS x.chairs.toNat t k) && C1.explains (stoodD (vdS x k) (x.chairs - O)) (tauS x.chairs.toNat t k) && decide ((C1.wrongs (stoodD (vdS x k) (x.chairs - O)) (tauS x.chairs.toNat t k) : Int) ≤ (stoodD (vdS x k) (x.chairs - O)).wrong)) = true ∧
    C1.askErr (stoodD (vdS x k) (x.chairs - O)) (C1.partOk (stoodD (vdS x k) (x.chairs - O)) 0 (x.chairs - 1)) = 0 ∧
    C1.loOf (C1.truths (stoodD (vdS x k) (x.chairs - O))) (0 : Int).toNat (x.chairs - 1).toNat = x.chairs - O ∧ C1.hiOf (C1.truths (stoodD (vdS x k) (x.chairs - O))) (0 : Int).toNat (x.chairs - 1).toNat = x.chairs - O := by
  subst hO
  have hch := (bOk h.f0).ch
  obtain ⟨s1, s2, s3⟩ := tau_sum h hk
  obtain ⟨f1, f2⟩ := vdS_facts h hk
  generalize hr : stoodD (vdS x k) (x.chairs - outs (scK x t k).ch) = r
  have hin := tau_in h hk (x.chairs - outs (scK x t k).ch)
  rw [hr] at hin
  have hpl : r.places.length = x.chairs.toNat := by rw [← hr]; simp [stoodD, f1]
  have hcs : r.counts = [⟨false, x.chairs, x.chairs - outs (scK x t k).ch⟩] := by rw [← hr]; simp only [stoodD]; rw [f1, show ((x.chairs.toNat : Nat) : Int) = x.chairs by omega]
  have hw : r.wrong = 0 := by rw [← hr]; rfl
  have ho : r.off = 0 := by rw [← hr]; rfl
  have hok : C1.RowOk r := by
    refine ⟨by omega, by omega, by rw [hcs]; simp, by omega, by omega, fun p hp => ?_, fun c hc => ?_⟩
    · rw [← hr] at hp
      obtain ⟨v, _, rfl⟩ := List.mem_map.1 hp
      unfold plc; split
      · omega
      · split <;> omega
    · rw [hcs] at hc
      obtain rfl : c = _ := by simpa using hc
      simp only; omega
  have hf : C1.fault r = 0 := C1.rowOk_iff.2 hok
  have hab : ∀ u ∈ C1.allT r.places, C1.about u ⟨false, x.chairs, x.chairs - outs (scK x t k).ch⟩ = u.sum := fun u hu => by
    unfold C1.about
    simp only [Bool.false_eq_true, if_false]
    exact sum_take (by rw [(C1.allT_ok hu).1, hpl])
  have herr : ∀ u ∈ C1.allT r.places, C1.explains r u = true → u.sum = x.chairs - outs (scK x t k).ch := fun u hu he => by
    unfold C1.explains at he
    rw [hcs, List.all_cons, List.all_nil, Bool.and_true, decide_eq_true_eq, ho] at he
    unfold C1.errOf at he
    rw [hab u hu] at he
    simp only at he
    omega
  have hz : C1.errOf (tauS x.chairs.toNat t k) ⟨false, x.chairs, x.chairs - outs (scK x t k).ch⟩ = 0 := by
    unfold C1.errOf
    rw [hab _ hin, s1]
    simp only
    omega
  have hex : C1.explains r (tauS x.chairs.toNat t k) = true := by
    unfold C1.explains
    rw [hcs, List.all_cons, List.all_nil, Bool.and_true, decide_eq_true_eq, hz, ho]; omega
  have hwr : C1.wrongs r (tauS x.chairs.toNat t k) = 0 := by
    unfold C1.wrongs
    rw [hcs, List.filter_cons, if_neg (by rw [hz]; simp)]; rfl
  have hfit : C1.fits r (tauS x.chairs.toNat t k) = true := by unfold C1.fits; rw [hex, hwr, hw]; rfl
  have hmem : tauS x.chairs.toNat t k ∈ C1.truths r := C1.mem_truths.2 ⟨hin, hfit⟩
  have hpart : C1.partOk r 0 (x.chairs - 1) = true := by
    unfold C1.partOk
    rw [Bool.and_eq_true, C1.inB_iff, C1.inB_iff]; omega
  have hconst : ∀ u ∈ C1.truths r, C1.partOf u (0 : Int).toNat (x.chairs - 1).toNat = x.chairs - outs (scK x t k).ch := fun u hu => by
    obtain ⟨hu1, hu2⟩ := C1.mem_truths.1 hu
    unfold C1.fits at hu2
    rw [Bool.and_eq_true] at hu2
    unfold C1.partOf
    rw [show (0 : Int).toNat = 0 from rfl, show (x.chairs - 1).toNat + 1 - 0 = x.chairs.toNat by omega, sum_take (by rw [(C1.allT_ok hu1).1, hpl])]
    exact herr u hu1 hu2.1
  have hne : C1.truths r ≠ [] := fun e => by rw [e] at hmem; cases hmem
  refine ⟨?_, ?_, ?_, ?_⟩
  · rw [hf, allT_isTruth3 hin, hex, hwr, hw]; rfl
  · unfold C1.askErr; rw [if_neg (by rw [hf]; simp), if_neg (by rw [hpart]; simp), if_neg hne]
  · obtain ⟨u, hu, e⟩ := C1.lo_mem (i := (0 : Int).toNat) (j := (x.chairs - 1).toNat) hne
    rw [← e]; exact hconst u hu
  · obtain ⟨u, hu, e⟩ := C1.hi_mem (i := (0 : Int).toNat) (j := (x.chairs - 1).toNat) hne
    rw [← e]; exact hconst u hu
end Go.Fs
