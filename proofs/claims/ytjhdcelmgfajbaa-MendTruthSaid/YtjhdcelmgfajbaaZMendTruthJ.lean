/- Of the proof of MendTruth: W13, W14. -/
import Derived.Test.YtjhdcelmgfajbaaZMendTruthI
namespace Go.Fs
open Go.Proofs
open C7
theorem prC_cell1 (l : List (Int × Int)) : ∀ u ∈ prC l, cell1 u = true := by
  intro u hu
  unfold prC at hu
  rw [List.mem_flatMap] at hu
  obtain ⟨p, _, hu⟩ := hu
  simp only [List.mem_cons, List.not_mem_nil, or_false] at hu
  rcases hu with rfl | rfl <;> rfl
theorem unf_cc {b1 b2 t1 t2 : Nat} {cs ds : List Value} : ∀ p ∈ [(b1, Obj.cells cs.toArray t1 (0, 0)), (b2, .cells ds.toArray t2 (0, 0))], unfrozen p.2 := by
  intro p hp
  simp only [List.mem_cons, List.not_mem_nil, or_false] at hp
  rcases hp with rfl | rfl <;> rfl
/-- Of which number a pairing is sure. -/
def sureZ (scs : List Sc) (l : List (Int × Int)) : Int := match scs with
  | [] => 0
  | s :: _ => (scs.map fun s => (makesN s l : Int)).foldl min (makesN s l : Int)
theorem sureZ_eq {scs : List Sc} {l : List (Int × Int)} {s0 : Sc} (h : scs[0]? = some s0) : (scs.map fun s => (makesN s l : Int)).foldl min (makesN s0 l : Int) = sureZ scs l := by
  cases scs with
  | nil => simp at h
  | cons s r => obtain rfl : s = s0 := by simpa using h
                rfl
theorem sure_step {scs : List Sc} {l : List (Int × Int)} {k : Nat} {s : Sc} {a : Int} (h : scs[k]? = some s) : ((scs.take (k + 1)).map fun s => (makesN s l : Int)).foldl min a = min (((scs.take k).map fun s => (makesN s l : Int)).foldl min a) (makesN s l : Int) := by
  rw [List.take_add_one, h, Option.toList_some, List.map_append, List.foldl_append]; rfl
def nearB (y : YardD) (a b : Nat) : Bool := match y.chairs[a]?, y.chairs[b]? with
  | some x, some z => nearC y.fit x z
  | _, _ => false
/-- All pairings that are tried, from chair f on; w: those that have a partner (by bits). -/
def lvs (y : YardD) : Nat → Nat → Nat → List (Int × Int) → List (List (Int × Int))
  | 0, _, _, l => [l]
  | k + 1, f, w, l => lvs y k (f + 1) w l ++ (if w.testBit f = true then [] else ((List.range y.chairs.length).filter fun b => decide (f < b) && (!w.testBit b && nearB y f b)).flatMap fun (b : Nat) => lvs y k (f + 1) (w ||| 2 ^ b) (l ++ [((f : Int), (b : Int))]))
def upd (scs : List Sc) (st : List (Int × Int) × Int) (l : List (Int × Int)) : List (Int × Int) × Int := if st.2 < sureZ scs l then (l, sureZ scs l) else st
theorem lvs_zero {y : YardD} {scs : List Sc} {f w : Nat} {l : List (Int × Int)} {st : List (Int × Int) × Int} : (lvs y 0 f w l).foldl (upd scs) st = upd scs st l := rfl
theorem upd_yes {scs : List Sc} {l best : List (Int × Int)} {many : Int} (h : many < sureZ scs l) : upd scs (best, many) l = (l, sureZ scs l) := if_pos h
theorem upd_no {scs : List Sc} {l best : List (Int × Int)} {many : Int} (h : ¬ many < sureZ scs l) : upd scs (best, many) l = (best, many) := if_neg h
def partB (y : YardD) (k f w : Nat) (l : List (Int × Int)) (b : Nat) : List (List (Int × Int)) := if w.testBit f = true then [] else ((List.range b).filter fun b => decide (f < b) && (!w.testBit b && nearB y f b)).flatMap fun (b : Nat) => lvs y k (f + 1) (w ||| 2 ^ b) (l ++ [((f : Int), (b : Int))])
def upB (y : YardD) (scs : List Sc) (k f w : Nat) (l best : List (Int × Int)) (many : Int) (b : Nat) : List (Int × Int) × Int := (lvs y k (f + 1) w l ++ partB y k f w l b).foldl (upd scs) (best, many)
theorem upB_start {y : YardD} {scs : List Sc} {k f w : Nat} {l best : List (Int × Int)} {many : Int} : upB y scs k f w l best many (f + 1) = (lvs y k (f + 1) w l).foldl (upd scs) (best, many) := by
  have : partB y k f w l (f + 1) = [] := by
    unfold partB
    split
    · rfl
    · rw [List.filter_eq_nil_iff.2 fun b hb => by have := List.mem_range.1 hb; simp; omega]; rfl
  unfold upB; rw [this, List.append_nil]
theorem upB_yes {y : YardD} {scs : List Sc} {k f w b : Nat} {l best : List (Int × Int)} {many : Int} (hb : f < b) (hbit : w.testBit f = false) (hs : (!w.testBit b && nearB y f b) = true) :
    upB y scs k f w l best many (b + 1) = (lvs y k (f + 1) (w ||| 2 ^ b) (l ++ [((f : Int), (b : Int))])).foldl (upd scs) ((upB y scs k f w l best many b).1, (upB y scs k f w l best many b).2) := by
  have : partB y k f w l (b + 1) = partB y k f w l b ++ lvs y k (f + 1) (w ||| 2 ^ b) (l ++ [((f : Int), (b : Int))]) := by
    unfold partB
    rw [if_neg (by rw [hbit]; simp), if_neg (by rw [hbit]; simp), List.range_succ, List.filter_append, List.flatMap_append]
    simp [hb, hs]
  unfold upB; rw [this, ← List.append_assoc, List.foldl_append]
theorem upB_no {y : YardD} {scs : List Sc} {k f w b : Nat} {l best : List (Int × Int)} {many : Int} (hs : (!w.testBit b && nearB y f b) = false) : upB y scs k f w l best many (b + 1) = upB y scs k f w l best many b := by
  have : partB y k f w l (b + 1) = partB y k f w l b := by
    unfold partB
    split
    · rfl
    · rw [List.range_succ, List.filter_append, List.flatMap_append]; simp [hs]
  unfold upB; rw [this]
theorem upB_end {y : YardD} {scs : List Sc} {k f w b : Nat} {l best : List (Int × Int)} {many : Int} (_h1 : f + 1 ≤ b) (h : (decide ((b : Int) < (y.chairs.length : Int)) && decide (((w >>> f : Nat) : Int) % 2 = 0)) = false) : (lvs y (k + 1) f w l).foldl (upd scs) (best, many) = upB y scs k f w l best many b := by
  have e : lvs y (k + 1) f w l = lvs y k (f + 1) w l ++ partB y k f w l y.chairs.length := rfl
  rw [e]; unfold upB
  by_cases hb : w.testBit f = true
  · have key : ∀ b, partB y k f w l b = [] := fun b => by unfold partB; rw [if_pos hb]
    rw [key, key]
  · have h' : ¬ (b : Int) < (y.chairs.length : Int) := by
      intro h2
      rw [bit_mod, if_neg hb] at h
      simp at h; omega
    have key : ∀ j, partB y k f w l (y.chairs.length + j) = partB y k f w l y.chairs.length := by
      intro j
      induction j with
      | zero => rfl
      | succ j ih =>
        rw [← ih]
        unfold partB
        rw [if_neg hb, if_neg hb, ← Nat.add_assoc, List.range_succ, List.filter_append, List.flatMap_append]
        have : nearB y f (y.chairs.length + j) = false := by
          unfold nearB
          rw [List.getElem?_eq_none (show y.chairs.length ≤ y.chairs.length + j by omega)]
          cases y.chairs[f]? <;> rfl
        simp [this]
    have := key (b - y.chairs.length)
    rw [show y.chairs.length + (b - y.chairs.length) = b by omega] at this
    rw [this]
theorem add_go {b n w f : Nat} (h : (decide ((b : Int) < (n : Int)) && decide (((w >>> f : Nat) : Int) % 2 = 0)) = true) : b < n ∧ w.testBit f = false := by
  rw [Bool.and_eq_true, decide_eq_true_eq, decide_eq_true_eq, bit_mod] at h
  refine ⟨by omega, ?_⟩
  cases e : w.testBit f with
  | false => rfl
  | true => rw [if_pos e] at h; omega
theorem add_sel {y : YardD} {w f b : Nat} {x z : Ch} {r : Bool} (hx : y.chairs[f]? = some x) (hz : y.chairs[b]? = some z) (h : (decide (((w >>> b : Nat) : Int) % 2 = 0) && nearC y.fit x z) = r) : (!w.testBit b && nearB y f b) = r := by
  rw [← h, bit_mod]
  unfold nearB; rw [hx, hz]
  cases w.testBit b <;> simp
theorem prOk_snoc {l : List (Int × Int)} {a b : Nat} (h : PrOk l) (ha : a < 7) (hb : b < 7) : PrOk (l ++ [((a : Int), (b : Int))]) := fun p hp => by
  rcases List.mem_append.1 hp with hp | hp
  · exact h p hp
  · simp only [List.mem_singleton] at hp; exact ⟨a, b, hp, ha, hb⟩
theorem CloneI_ok (sv : Value) (xs : List Int) (D : Data) (hS : Sl D RI 1 sv xs) (hl : xs.length ≤ 10000000) : FnO Try.prog 95 #[sv] D (fun _ v ν => Acc 3 1 v xs.length (ints xs) ν) := by
  obtain ⟨a0, c0, rfl⟩ := hS.shape
  refine enterO 8 Try.func95 rfl rfl rfl rfl fun h0 => ?_
  refine C.seq ?_
  refine C.region [(false,0)] rfl ?_
  refine L.assign rfl rfl rfl trivial ?_
  refine L.nil ?_
  refine C.next ?_
  refine C.seq ?_
  refine C.seq ?_
  refine C.region [(false,0),(false,1)] rfl ?_
  refine L.move rfl rfl rfl trivial ?_
  refine L.eqlNil rfl Try.underlying52 rfl rfl rfl trivial ?_
  refine L.nil ?_
  refine C.next ?_
  refine C.cond rfl (fun hc1 => ?_) (fun hc1 => ?_)
  · obtain rfl : a0 = none := by simpa using hc1
    obtain rfl := sl_none hS
    refine C.seq ?_
    refine C.region [(false,0)] rfl ?_
    refine L.assign rfl rfl rfl trivial ?_
    refine L.nil ?_
    refine C.next ?_
    refine C.ret ?_
    refine C.thenRet ?_
    exact leave (vs := [_]) rfl rfl rfl ⟨rfl, trivial⟩ (fun D' hD => Acc.nil)
  · refine C.skip ?_
    refine C.next ?_
    refine C.seq ?_
    refine C.region [(false,0),(false,1),(false,2),(false,3)] rfl ?_
    refine L.buildSlice rfl Try.underlying52 Tf.s3 Tf.z3 rfl rfl rfl rfl .nil rfl trivial (fun b901 D901 hD901 hA901 => ?_)
    refine L.move rfl rfl rfl trivial ?_
    refine L.append (A := []) (ν := []) (B := []) rfl Try.underlying52 rfl rfl Tf.s3 Tf.z3 rfl Tf.i3 rfl rfl rfl Acc.nil (Src.ints hS) (by simp) (by simp) rfl (ints_cell1 _) (by omega) (Or.inl rfl) rfl trivial (fun v1 ν1 ha1 => ?_)
    refine L.assign rfl rfl rfl trivial ?_
    refine L.nil ?_
    refine C.next ?_
    refine C.ret ?_
    exact leave (vs := [_]) rfl rfl rfl ⟨rfl, trivial⟩ (fun D' hD => by show Acc 3 1 v1 _ _ _; simpa [prC] using ha1)
theorem CloneP_ok (sv : Value) (xs : List (Int × Int)) (D : Data) (hS : Sl D R2 2 sv xs) (hl : xs.length ≤ 10000000) : FnO Try.prog 91 #[sv] D (fun _ v ν => Acc 111 2 v xs.length (prC xs) ν) := by
  obtain ⟨a0, c0, rfl⟩ := hS.shape
  refine enterO 8 Try.func91 rfl rfl rfl rfl fun h0 => ?_
  refine C.seq ?_
  refine C.region [(false,0)] rfl ?_
  refine L.assign rfl rfl rfl trivial ?_
  refine L.nil ?_
  refine C.next ?_
  refine C.seq ?_
  refine C.seq ?_
  refine C.region [(false,0),(false,1)] rfl ?_
  refine L.move rfl rfl rfl trivial ?_
  refine L.eqlNil rfl Try.underlying30 rfl rfl rfl trivial ?_
  refine L.nil ?_
  refine C.next ?_
  refine C.cond rfl (fun hc1 => ?_) (fun hc1 => ?_)
  · obtain rfl : a0 = none := by simpa using hc1
    obtain rfl := sl_none hS
    refine C.seq ?_
    refine C.region [(false,0)] rfl ?_
    refine L.assign rfl rfl rfl trivial ?_
    refine L.nil ?_
    refine C.next ?_
    refine C.ret ?_
    refine C.thenRet ?_
    exact leave (vs := [_]) rfl rfl rfl ⟨rfl, trivial⟩ (fun D' hD => Acc.nil)
  · refine C.skip ?_
    refine C.next ?_
    refine C.seq ?_
    refine C.region [(false,0),(false,1),(false,2),(false,3)] rfl ?_
    refine L.buildSlice rfl Try.underlying30 Tf.s111 Tf.z111 rfl rfl rfl rfl .nil rfl trivial (fun b901 D901 hD901 hA901 => ?_)
    refine L.move rfl rfl rfl trivial ?_
    refine L.append (A := []) (ν := []) (B := []) rfl Try.underlying30 rfl rfl Tf.s111 Tf.z111 rfl Tf.i111 rfl rfl rfl Acc.nil (Src.of (cells := fun p : Int × Int => [.int .i64 p.1, .int .i64 p.2]) (fun _ _ _ h => h) (fun _ => rfl) hS) (by simp) (prC_length xs) rfl (prC_cell1 xs) (by omega) (Or.inl rfl) rfl trivial (fun v1 ν1 ha1 => ?_)
    refine L.assign rfl rfl rfl trivial ?_
    refine L.nil ?_
    refine C.next ?_
    refine C.ret ?_
    exact leave (vs := [_]) rfl rfl rfl ⟨rfl, trivial⟩ (fun D' hD => by show Acc 111 2 v1 _ _ _; simpa [prC] using ha1)
theorem sure_ok (sv lv : Value) (scs : List Sc) (l : List (Int × Int)) (n : Nat) (D : Data) (hS : Sl D RSc 9 sv scs) (hl : Sl D R2 2 lv l) (hne : scs ≠ []) (hsc : ∀ s ∈ scs, ScOk n s) (hp : PrOk l) (hl3 : l.length ≤ 1000) : Fn Try.prog 90 #[sv, lv] D (fun _ v => v = .int .i64 (sureZ scs l)) := by
  have hsl := hS.len
  obtain ⟨s0, hs0⟩ : ∃ s, scs[0]? = some s := ⟨scs[0]'(List.length_pos_iff.2 hne), List.getElem?_eq_getElem _⟩
  have ho0 := hsc s0 (List.mem_of_getElem? hs0)
  refine enter 27 Try.func90 rfl rfl rfl rfl fun h0 => ?_
  refine C.seq ?_
  refine C.region [(false,0)] rfl ?_
  refine L.assign rfl rfl rfl trivial ?_
  refine L.nil ?_
  refine C.next ?_
  refine C.seq ?_
  refine C.region [(false,0),(false,1),(false,2),(false,3),(false,4),(false,5)] rfl ?_
  refine L.move rfl rfl rfl trivial ?_
  refine L.indexS rfl Try.underlying135 Tf.s126 rfl hS rfl (by omega) hs0 rfl trivial (fun b1 o1 cs1 hr1 hcl1 hA1 => ?_)
  obtain rfl : cs1 = ints (scI _) := hr1
  refine L.loadDW rfl Tf.a126 rfl hA1 (by first | simp | assumption) (by rw [ints_length, scI_len _ ho0.len]; exact Tf.s126) List.not_mem_nil rfl trivial ?_
  refine L.move rfl rfl rfl trivial ?_
  refine L.callV rfl rfl rfl (fun D1 hD1 => makes_ok s0 _ l ho0.row ho0.whole hp hl3 _ (hl.up R2.up (hD1 _ (by simp))) ho0.len) rfl trivial ?_
  refine L.assign rfl rfl rfl trivial ?_
  refine L.nil ?_
  refine C.next ?_
  refine C.seq ?_
  refine C.seq ?_
  refine C.region [(false,0),(false,1),(false,2)] rfl ?_
  refine L.move rfl rfl rfl trivial ?_
  refine L.len rfl Try.underlying135 rfl hS rfl rfl trivial ?_
  refine L.move rfl rfl rfl trivial ?_
  refine L.nil ?_
  refine C.next ?_
  refine C.block ?_
  refine C.loopC (γ := Nat) (fun k => scs.length - k) (fun k => k ≤ scs.length) (fun k => [(15, .int .i64 (k : Int)), (5, .int .i64 (((scs.take k).map fun s => (makesN s l : Int)).foldl min (makesN s0 l : Int)))]) [(14, _), (13, _), (4, _), (1, _)] (fun k => [D]) 0 (by omega) ⟨(by first | rfl | (show some (Value.int _ _) = some (Value.int _ _); congr 2; omega)), (by first | rfl | (show some (Value.int _ _) = some (Value.int _ _); congr 2; omega)), trivial⟩ ⟨rfl, rfl, rfl, rfl, trivial⟩ (ds_same) ?_
  rintro k h1
  refine C.seq ?_
  refine C.region [(false,0)] rfl ?_
  refine L.lss rfl rfl rfl rfl trivial ?_
  refine L.nil ?_
  refine C.next ?_
  refine C.seq ?_
  refine C.condD rfl (fun hc1 => ?_) (fun hc1 => ?_)
  · have hk : k < scs.length := by omega
    obtain ⟨s1, hs1⟩ : ∃ s, scs[k]? = some s := ⟨_, List.getElem?_eq_getElem hk⟩
    have ho1 := hsc s1 (List.mem_of_getElem? hs1)
    refine C.skip ?_
    refine C.next ?_
    refine C.seq ?_
    refine C.block ?_
    refine C.seq ?_
    refine C.region [(false,0),(false,1),(false,2),(false,3)] rfl ?_
    refine L.indexS rfl Try.underlying135 Tf.s126 rfl hS rfl (by omega) hs1 rfl trivial (fun b2 o2 cs2 hr2 hcl2 hA2 => ?_)
    obtain rfl : cs2 = ints (scI _) := hr2
    refine L.loadDW rfl Tf.a126 rfl hA2 (by first | simp | assumption) (by rw [ints_length, scI_len _ ho1.len]; exact Tf.s126) List.not_mem_nil rfl trivial ?_
    refine L.alloc rfl Tf.z126 rfl rfl trivial (fun q1 => ?_)
    refine L.storeW rfl rfl rfl rfl Tf.s126 (by rw [ints_length, scI_len _ ho1.len]) (by rfl) .head (ints_cell1 _) trivial ?_
    refine L.nil ?_
    refine C.next ?_
    refine C.region [(false,0),(false,1),(false,2),(false,3),(false,4),(false,5),(false,6)] rfl ?_
    refine L.move rfl rfl rfl trivial ?_
    refine L.loadBW (vs := ints (scI s1)) rfl Tf.a126 rfl (List.Mem.head _) (by rw [show (ints (scI s1)).length = 9 by rw [ints_length, scI_len _ ho1.len]]; exact Tf.s126) List.not_mem_nil rfl trivial ?_
    refine L.move rfl rfl rfl trivial ?_
    refine L.callV rfl rfl rfl (fun D2 hD2 => makes_ok s1 _ l ho1.row ho1.whole hp hl3 _ (hl.up R2.up (hD2 _ (by simp))) ho1.len) rfl trivial ?_
    refine L.buildSlice rfl Try.underlying52 Tf.s3 Tf.z3 rfl rfl rfl rfl (.cons rfl rfl (.cons rfl rfl .nil)) rfl trivial (fun b901 D901 hD901 hA901 => ?_)
    have hS901 := Sl.ofInts (l := [_, _]) (n := 2) (cap := 2) hA901 rfl (by omega) (by omega)
    refine L.callV rfl rfl rfl (fun D3 hD3 => minimum_ok _ _ [_] _ (hS901.up RI.up (hD3 _ (by simp)))) rfl trivial ?_
    refine L.assign rfl rfl rfl trivial ?_
    refine L.nil ?_
    refine C.blockEnd ?_
    refine C.next ?_
    refine C.region [(false,0),(false,1)] rfl ?_
    refine L.add rfl rfl rfl (by simp only [inK]; omega) rfl trivial ?_
    refine L.move rfl rfl rfl trivial ?_
    refine L.nil ?_
    exact C.againR 15 (k + 1) (by omega) (by omega) ⟨(by first | rfl | (show some (Value.int _ _) = some (Value.int _ _); congr 2; omega)), (by rw [sure_step hs1]; rfl), trivial⟩ rfl rfl (List.Sublist.cons _ (List.Sublist.refl _)) (fun D h => ⟨D, List.Mem.tail _ (h), Le.refl D⟩)
  · obtain rfl : k = scs.length := by omega
    rw [List.take_length]
    refine C.exit ?_
    refine C.thenExit ?_
    refine C.thenExit ?_
    refine C.blockExit ?_
    refine C.next ?_
    refine C.seq ?_
    refine C.region [(false,0),(false,1)] rfl ?_
    refine L.move rfl rfl rfl trivial ?_
    refine L.assign rfl rfl rfl trivial ?_
    refine L.nil ?_
    refine C.next ?_
    refine C.ret ?_
    exact leave (vs := [_]) rfl rfl rfl ⟨rfl, trivial⟩ (fun D hD => by show Value.int _ _ = _; rw [sureZ_eq hs0])
theorem add_ok {y : YardD} {scs : List Sc} {cv qv sv : Value} {bY bV bF bm bp : Nat} (hyo : YOk y) (hne : scs ≠ []) (hsc : ∀ s ∈ scs, ScOk y.chairs.length s) :
    ∀ (kk f : Nat), f + kk = y.chairs.length → ∀ (w : Nat) (l : List (Int × Int)) (lv : Value) (best : List (Int × Int)) (many : Int) (pv : Value) (D : Data), w < 128 → PrOk l → l.length ≤ f → Sl D R2 2 lv l → Sl D R2 2 pv best → Sl D RCh 4 cv y.chairs → Sl D R2 2 qv y.claims → At D bY 0 [cv, .int .i64 y.fit, qv] → At D bV 0 [sv] → Sl D RSc 9 sv scs → At D bF 0 [.func (.func 89) #[] #[.pointer (some ⟨bY, 0, none⟩), .pointer (some ⟨bV, 0, none⟩), .pointer (some ⟨bm, 0, none⟩), .pointer (some ⟨bp, 0, none⟩), .pointer (some ⟨bF, 0, none⟩)]] →
    FnM Try.prog 89 [lv, .int .i64 (f : Int), .int .i64 (w : Int), .pointer (some ⟨bY, 0, none⟩), .pointer (some ⟨bV, 0, none⟩), .pointer (some ⟨bm, 0, none⟩), .pointer (some ⟨bp, 0, none⟩), .pointer (some ⟨bF, 0, none⟩)] D [(bm, .cells [.int .i64 many].toArray 3 (0, 0)), (bp, .cells [pv].toArray 30 (0, 0))] (fun D' _ ν' => ∃ pv', ν' = [(bm, .cells [.int .i64 ((lvs y kk f w l).foldl (upd scs) (best, many)).2].toArray 3 (0, 0)), (bp, .cells [pv'].toArray 30 (0, 0))] ∧ Sl D' R2 2 pv' ((lvs y kk f w l).foldl (upd scs) (best, many)).1) := by
  intro kk
  induction kk using Nat.strongRecOn with
  | _ kk ih =>
  intro f hf w l lv best many pv D hw hp hlf hl hb hc hq hY hV hS hF
  have hn7 := hyo.len
  have hcl := hc.len
  refine enterMany 75 Try.func89 rfl rfl rfl rfl (fun h0 hwl hwn => ?_)
  refine C.seq ?_
  refine C.seq ?_
  refine C.region [(false,0),(false,1),(false,2),(false,3),(false,4)] rfl ?_
  refine L.move rfl rfl rfl trivial ?_
  refine L.fieldAddr rfl Tf.f37_0 rfl rfl trivial ?_
  refine L.loadD1 rfl (k := 0) Tf.a34 rfl hY (by first | simp | assumption) rfl List.not_mem_nil rfl trivial ?_
  refine L.len rfl Try.underlying34 rfl hc rfl rfl trivial ?_
  refine L.eql rfl rfl rfl rfl trivial ?_
  refine L.nil ?_
  refine C.next ?_
  refine C.condD rfl (fun hc1 => ?_) (fun hc1 => ?_)
  · obtain rfl : kk = 0 := by omega
    refine C.seq ?_
    refine C.seq ?_
    refine C.region [(false,0),(false,1),(false,2),(false,3)] rfl ?_
    refine L.loadD1 rfl (k := 0) Tf.a135 rfl hV (by first | simp | assumption) rfl List.not_mem_nil rfl trivial ?_
    refine L.move rfl rfl rfl trivial ?_
    refine L.callV rfl rfl rfl (fun D1 hD1 => sure_ok _ _ scs l y.chairs.length _ (hS.up RSc.up (hD1 _ (by simp))) (hl.up R2.up (hD1 _ (by simp))) hne hsc hp (by omega)) rfl trivial ?_
    refine L.assign rfl rfl rfl trivial ?_
    refine L.nil ?_
    refine C.next ?_
    refine C.seq ?_
    refine C.region [(false,0),(false,1),(false,2)] rfl ?_
    refine L.move rfl rfl rfl trivial ?_
    refine L.loadB1 rfl Tf.a3 rfl (List.Mem.head _) rfl List.not_mem_nil rfl trivial ?_
    refine L.gtr rfl rfl rfl rfl trivial ?_
    refine L.nil ?_
    refine C.next ?_
    refine C.condD rfl (fun hc2 => ?_) (fun hc2 => ?_)
    · refine C.region [(false,0),(false,1),(false,2),(false,3),(false,4)] rfl ?_
      refine L.move rfl rfl rfl trivial ?_
      refine L.callO rfl rfl rfl (fun D7 hD7 => CloneP_ok _ l _ (hl.up R2.up (hD7 _ (by simp))) (by omega)) rfl trivial (fun v6 D8 ν6 hD8 ha6 => ?_)
      refine L.freezeM (A := []) (B := [(_, _), (_, _)]) ha6 (fun k hk => hk) (fun D20 hD20 hF20 => ?_)
      have hl7 := hF20.prs rfl (by omega)
      obtain ⟨a6, c6, rfl⟩ := ha6.shape
      refine L.move rfl rfl rfl trivial ?_
      refine L.store rfl rfl rfl rfl Tf.s30 (.tail .head) (by simp) rfl (by simp [cell1]) trivial ?_
      refine L.store rfl rfl rfl rfl Tf.s3 (Has.head) (by simp) rfl (by simp [cell1]) trivial ?_
      refine L.nil ?_
      refine C.next ?_
      refine C.ret ?_
      refine C.thenRet ?_
      exact leaveMany (A := []) (ν' := [_, _]) (B := []) (vs := []) rfl rfl rfl trivial rfl (fun D' hD => ⟨.slice a6 l.length c6, by rw [lvs_zero, upd_yes hc2]; rfl, by rw [lvs_zero, upd_yes hc2]; exact hl7.up R2.up (hD _ (by simp))⟩)
    · refine C.skip ?_
      refine C.next ?_
      refine C.ret ?_
      refine C.thenRet ?_
      exact leaveMany (A := []) (ν' := [_, _]) (B := []) (vs := []) rfl rfl rfl trivial rfl (fun D' hD => ⟨pv, by rw [lvs_zero, upd_no hc2], by rw [lvs_zero, upd_no hc2]; exact hb.up R2.up (hD _ (by simp))⟩)
  · obtain ⟨k, rfl⟩ : ∃ k, kk = k + 1 := ⟨kk - 1, by omega⟩
    refine C.skip ?_
    refine C.next ?_
    refine C.seq ?_
    refine C.region [(false,0),(false,1),(false,2),(false,3),(false,4),(false,5)] rfl ?_
    refine L.loadD1 rfl (k := 0) Tf.a142 rfl hF (by first | simp | assumption) rfl List.not_mem_nil rfl trivial ?_
    refine L.move rfl rfl rfl trivial ?_
    refine L.move rfl rfl rfl trivial ?_
    refine L.add rfl rfl rfl (by simp only [inK]; omega) rfl trivial ?_
    refine L.move rfl rfl rfl trivial ?_
    refine L.callM (A := []) (ν := [(_, _), (_, _)]) (B := []) rfl rfl rfl rfl (Or.inl rfl) unf_cc (fun D5 hD5 => ih k (by omega) (f + 1) (by omega) w l lv best many pv D5 hw hp (by omega) (hl.up R2.up (hD5 _ (by simp))) (hb.up R2.up (hD5 _ (by simp))) (hc.up RCh.up (hD5 _ (by simp))) (hq.up R2.up (hD5 _ (by simp))) (hY.up (hD5 _ (by simp))) (hV.up (hD5 _ (by simp))) (hS.up RSc.up (hD5 _ (by simp))) (hF.up (hD5 _ (by simp)))) rfl trivial (fun v5 D6 _ hD6 hp5 => ?_)
    obtain ⟨pv1, rfl, hpv1⟩ := hp5
    refine L.nil ?_
    refine C.next ?_
    refine C.seq ?_
    refine C.region [(false,0),(false,1),(false,2)] rfl ?_
    refine L.move rfl rfl rfl trivial ?_
    refine L.add rfl rfl rfl (by simp only [inK]; omega) rfl trivial ?_
    refine L.assign rfl rfl rfl trivial ?_
    refine L.nil ?_
    refine C.next ?_
    refine C.block ?_
    refine C.loopR (γ := Nat × Value × Data) (fun g => y.chairs.length - g.1) (fun g => f + 1 ≤ g.1 ∧ Sl g.2.2 R2 2 g.2.1 (upB y scs k f w l best many g.1).1) (fun g => [(12, .int .i64 (g.1 : Int))]) [(0, _), (1, _), (2, _), (3, _), (7, _)] (fun g => [(bm, .cells [.int .i64 (upB y scs k f w l best many g.1).2].toArray 3 (0, 0)), (bp, .cells [g.2.1].toArray 30 (0, 0))]) (fun g => [g.2.2, D]) (f + 1, pv1, D6) ⟨by simp, by simp only; rw [upB_start]; exact hpv1⟩ ⟨(by first | rfl | (show some (Value.int _ _) = some (Value.int _ _); congr 2; omega)), trivial⟩ ⟨rfl, rfl, rfl, rfl, rfl, trivial⟩ ((by rw [upB_start]; exact List.Sublist.refl _)) ((fun D0 h => by simp only [List.mem_cons, List.not_mem_nil, or_false] at h; rcases h with h | h; exact ⟨D6, by simp, h ▸ Le.refl _⟩; exact ⟨D, by simp, h ▸ Le.refl _⟩)) ?_
    rintro ⟨b, pv2, Dn⟩ ⟨h1, hpv2⟩
    simp only at h1 hpv2
    refine C.seq ?_
    refine C.seq ?_
    refine C.region [(false,0),(false,1),(false,2),(false,3),(false,4),(false,5),(false,6),(false,7),(false,8),(false,9),(false,10),(false,11)] rfl ?_
    refine L.move rfl rfl rfl trivial ?_
    refine L.fieldAddr rfl Tf.f37_0 rfl rfl trivial ?_
    refine L.loadD1 rfl (k := 0) Tf.a34 rfl hY (by first | simp | assumption) rfl List.not_mem_nil rfl trivial ?_
    refine L.len rfl Try.underlying34 rfl hc rfl rfl trivial ?_
    refine L.lss rfl rfl rfl rfl trivial ?_
    refine L.move rfl rfl rfl trivial ?_
    refine' L.and [(false,6),(false,7),(false,8),(false,9),(false,10),(false,11)] [] (s := 40) (p := 46) rfl rfl (fun hg1 => ?_) (fun hg1 => ?_) ?_
    rotate_left
    · refine L.move rfl rfl rfl ⟨_, rfl, rfl⟩ ?_
      refine L.move rfl rfl rfl ⟨_, rfl, rfl⟩ ?_
      refine L.shrN rfl rfl rfl (by omega) rfl ⟨_, rfl, rfl⟩ ?_
      refine L.rem rfl rfl rfl (Int.natCast_nonneg _) (by omega) (by simp only [inK]; omega) rfl ⟨_, rfl, rfl⟩ ?_
      refine L.eql rfl rfl rfl rfl ⟨_, rfl, rfl⟩ ?_
      refine L.pickT rfl rfl rfl rfl trivial ?_
      exact L.nil fun a w hh => hh.cutK 5 rfl
    · refine L.pass rfl rfl rfl ⟨_, _, rfl, rfl, rfl⟩ ?_
      refine L.pass rfl rfl rfl ⟨_, _, rfl, rfl, rfl⟩ ?_
      refine L.pass rfl rfl rfl ⟨_, _, rfl, rfl, rfl⟩ ?_
      refine L.pass rfl rfl rfl ⟨_, _, rfl, rfl, rfl⟩ ?_
      refine L.pass rfl rfl rfl ⟨_, _, rfl, rfl, rfl⟩ ?_
      refine L.pickF rfl rfl rfl rfl trivial ?_
      exact L.nil fun a w hh => hh.cutK 5 rfl
    refine L.nil ?_
    refine C.next ?_
    refine C.cond rfl (fun hc3 => ?_) (fun hc3 => ?_)
    · obtain ⟨hbn, hbit⟩ := add_go hc3
      simp only at hbn
      have hb1 : f < b := by omega
      have hb7 : b < 7 := by omega
      have hpb := pow_lt7 hb7
      obtain ⟨x, hx⟩ : ∃ x, y.chairs[f]? = some x := ⟨_, List.getElem?_eq_getElem (by omega)⟩
      obtain ⟨z, hz⟩ : ∃ z, y.chairs[b]? = some z := ⟨_, List.getElem?_eq_getElem (by omega)⟩
      refine C.skip ?_
      refine C.next ?_
      refine C.seq ?_
      refine C.block ?_
      refine C.seq ?_
      refine C.region [(false,0),(false,1),(false,2),(false,3),(false,4),(false,5),(false,6),(false,7),(false,8),(false,9),(false,10)] rfl ?_
      refine L.move rfl rfl rfl trivial ?_
      refine L.move rfl rfl rfl trivial ?_
      refine L.shrN rfl rfl rfl (by first | omega | (simp only; omega)) rfl trivial ?_
      refine L.rem rfl rfl rfl (Int.natCast_nonneg _) (by omega) (by simp only [inK]; omega) rfl trivial ?_
      refine L.eql rfl rfl rfl rfl trivial ?_
      refine L.move rfl rfl rfl trivial ?_
      refine' L.and [(false,6),(false,7),(false,8),(false,9),(false,10)] [] (s := 54) (p := 59) rfl rfl (fun hg2 => ?_) (fun hg2 => ?_) ?_
      rotate_left
      · refine L.loadDW rfl Tf.a37 rfl hY (by first | simp | assumption) Tf.s37 List.not_mem_nil rfl ⟨_, rfl, rfl⟩ ?_
        refine L.move rfl rfl rfl ⟨_, rfl, rfl⟩ ?_
        refine L.move rfl rfl rfl ⟨_, rfl, rfl⟩ ?_
        refine L.callV rfl rfl rfl (fun D2 hD2 => near_ok _ y f b x z _ ⟨_, _, rfl, hc.up RCh.up (hD2 _ (by simp)), hq.up R2.up (hD2 _ (by simp))⟩ hyo.fit hx hz (hyo.size _ (List.mem_of_getElem? hx)) (hyo.size _ (List.mem_of_getElem? hz))) rfl ⟨_, rfl, rfl⟩ ?_
        refine L.pickT rfl rfl rfl rfl trivial ?_
        exact L.nil fun a w hh => hh.cutK 4 rfl
      · refine L.pass rfl rfl rfl ⟨_, _, rfl, rfl, rfl⟩ ?_
        refine L.pass rfl rfl rfl ⟨_, _, rfl, rfl, rfl⟩ ?_
        refine L.pass rfl rfl rfl ⟨_, _, rfl, rfl, rfl⟩ ?_
        refine L.pass rfl rfl rfl ⟨_, _, rfl, rfl, rfl⟩ ?_
        refine L.pickF rfl rfl rfl rfl trivial ?_
        exact L.nil fun a w hh => hh.cutK 4 rfl
      refine L.nil ?_
      refine C.next ?_
      refine C.cond rfl (fun hc4 => ?_) (fun hc4 => ?_)
      · have hsel : (!w.testBit b && nearB y f b) = true := add_sel hx hz hc4
        refine C.drawS (But.mk [bF]) 4 [false,true,true,true,true,true,true,true,true,true,true,true,true,true,false] [.fork [0,1,3,4,5,8,9,10,11,12,13] 2 (.fin [6]) 6 (.fin [2]), .fin [7,14]] Tf.follows (fun _ _ _ h => np_bodyMany (P := Try.prog) (fn := Try.f89) _ _ _ h) (by kernel_rfl) ?_
        refine S.cons ?_
        refine L.planFork [(false,0),(true,1),(true,3),(true,4),(true,5),(true,8),(true,9),(true,10),(true,11),(true,12),(true,13)] rfl ?_
        refine L.loadD1 rfl (k := 0) Tf.a142 rfl hF (by simp) rfl (But.out (by simp)) rfl trivial ?_
        refine L.move rfl rfl rfl trivial ?_
        refine L.move rfl rfl rfl trivial ?_
        refine L.move rfl rfl rfl trivial ?_
        refine L.build (cs := [.int .i64 (f : Int), .int .i64 (b : Int)]) rfl Tf.p111 Tf.z111 rfl rfl rfl trivial ?_
        refine L.move rfl rfl rfl trivial ?_
        refine L.add rfl rfl rfl (by simp only [inK]; omega) rfl trivial ?_
        refine L.move rfl rfl rfl trivial ?_
        refine L.move rfl rfl rfl trivial ?_
        refine L.shl1 rfl rfl rfl (by first | omega | (simp only; omega)) rfl trivial ?_
        refine L.orB rfl rfl rfl (by first | omega | (simp only; omega)) (by first | omega | (simp only; omega)) rfl trivial ?_
        refine L.nil (L.forkP true true rfl rfl ?_ ?_)
        · refine L.callO rfl rfl rfl (fun D7 hD7 => CloneP_ok _ l _ (hl.up R2.up (hD7 _ (by simp))) (by omega)) rfl trivial (fun v6 D8 ν6 hD8 ha6 => ?_)
          refine L.nil ?_
          refine L.planFin [(true,6)] rfl ?_
          refine L.buildSlice rfl Try.underlying30 Tf.s111 Tf.z111 rfl rfl rfl rfl (.cons rfl rfl .nil) rfl trivial (fun b901 D901 hD901 hA901 => ?_)
          have hAp := hA901
          refine L.nil ?_
          refine S.fin [(true,7),(false,14)] rfl ?_
          refine L.apart hF (by simp) (fun hap => ?_)
          refine L.append (A := []) (B := [(_, _), (_, _)]) rfl Try.underlying30 rfl rfl Tf.s111 Tf.z111 rfl Tf.i111 rfl rfl rfl ha6 (Src.lit hAp) (by simp) rfl (prC_length l) (by simp [cell1]) (by omega) (Or.inr (fun p hp => But.in_ (by rw [List.mem_singleton]; rintro rfl; exact hap (List.mem_map.2 ⟨p, List.mem_append_left _ hp, rfl⟩)))) rfl trivial (fun v7 ν7 ha7 => ?_)
          have ha7' : Acc 111 2 v7 (l.length + 1) (prC (l ++ [((f : Int), (b : Int))])) ν7 := by rw [prC_snoc]; simpa using ha7
          refine L.freezeM (A := []) (B := [(_, _), (_, _)]) ha7' (fun k hk => hk) (fun D20 hD20 hF20 => ?_)
          have hl7 := hF20.prs (by simp) (by omega)
          refine L.callM (A := []) (ν := [(_, _), (_, _)]) (B := []) rfl rfl rfl rfl (Or.inl rfl) unf_cc (fun D9 hD9 => ih k (by omega) (f + 1) (by omega) (w ||| 2 ^ b) (l ++ [((f : Int), (b : Int))]) v7 (upB y scs k f w l best many b).1 (upB y scs k f w l best many b).2 pv2 D9 (or_lt7 hw hpb) (prOk_snoc hp (by omega) (by omega)) (by simp; omega) (hl7.up R2.up (hD9 _ (by simp))) (hpv2.up R2.up (hD9 _ (by simp))) (hc.up RCh.up (hD9 _ (by simp))) (hq.up R2.up (hD9 _ (by simp))) (hY.up (hD9 _ (by simp))) (hV.up (hD9 _ (by simp))) (hS.up RSc.up (hD9 _ (by simp))) (hF.up (hD9 _ (by simp)))) rfl trivial (fun v9 D10 _ hD10 hp9 => ?_)
          obtain ⟨pv3, rfl, hpv3⟩ := hp9
          refine L.nil ?_
          refine S.nil ?_
          refine C.blockEnd ?_
          refine C.next ?_
          refine C.region [(false,0),(false,1),(false,2)] rfl ?_
          refine L.move rfl rfl rfl trivial ?_
          refine L.add rfl rfl rfl (by simp only [inK]; omega) rfl trivial ?_
          refine L.assign rfl rfl rfl trivial ?_
          refine L.nil ?_
          exact C.againR 33 (b + 1, pv3, D10) ⟨by simp only; omega, by simp only; rw [upB_yes hb1 hbit hsel]; exact hpv3⟩ (by simp only; omega) ⟨(by first | rfl | (show some (Value.int _ _) = some (Value.int _ _); congr 2; omega)), trivial⟩ rfl rfl ((by rw [upB_yes hb1 hbit hsel]; exact List.Sublist.refl _)) (fun D0 h => by simp only [List.mem_cons, List.not_mem_nil, or_false] at h; rcases h with h | h; exact ⟨D10, by simp, h ▸ Le.refl _⟩; exact ⟨D, by simp, h ▸ Le.refl _⟩)
        · refine L.buildSlice rfl Try.underlying30 Tf.s111 Tf.z111 rfl rfl rfl rfl (.cons rfl rfl .nil) rfl trivial (fun b901 D901 hD901 hA901 => ?_)
          have hAp := hA901
          refine L.nil ?_
          refine L.planFin [(true,2)] rfl ?_
          refine L.callO rfl rfl rfl (fun D7 hD7 => CloneP_ok _ l _ (hl.up R2.up (hD7 _ (by simp))) (by omega)) rfl trivial (fun v6 D8 ν6 hD8 ha6 => ?_)
          refine L.nil ?_
          refine S.fin [(true,7),(false,14)] rfl ?_
          refine L.apart hF (by simp) (fun hap => ?_)
          refine L.append (A := []) (B := [(_, _), (_, _)]) rfl Try.underlying30 rfl rfl Tf.s111 Tf.z111 rfl Tf.i111 rfl rfl rfl ha6 (Src.lit hAp) (by simp) rfl (prC_length l) (by simp [cell1]) (by omega) (Or.inr (fun p hp => But.in_ (by rw [List.mem_singleton]; rintro rfl; exact hap (List.mem_map.2 ⟨p, List.mem_append_left _ hp, rfl⟩)))) rfl trivial (fun v7 ν7 ha7 => ?_)
          have ha7' : Acc 111 2 v7 (l.length + 1) (prC (l ++ [((f : Int), (b : Int))])) ν7 := by rw [prC_snoc]; simpa using ha7
          refine L.freezeM (A := []) (B := [(_, _), (_, _)]) ha7' (fun k hk => hk) (fun D20 hD20 hF20 => ?_)
          have hl7 := hF20.prs (by simp) (by omega)
          refine L.callM (A := []) (ν := [(_, _), (_, _)]) (B := []) rfl rfl rfl rfl (Or.inl rfl) unf_cc (fun D9 hD9 => ih k (by omega) (f + 1) (by omega) (w ||| 2 ^ b) (l ++ [((f : Int), (b : Int))]) v7 (upB y scs k f w l best many b).1 (upB y scs k f w l best many b).2 pv2 D9 (or_lt7 hw hpb) (prOk_snoc hp (by omega) (by omega)) (by simp; omega) (hl7.up R2.up (hD9 _ (by simp))) (hpv2.up R2.up (hD9 _ (by simp))) (hc.up RCh.up (hD9 _ (by simp))) (hq.up R2.up (hD9 _ (by simp))) (hY.up (hD9 _ (by simp))) (hV.up (hD9 _ (by simp))) (hS.up RSc.up (hD9 _ (by simp))) (hF.up (hD9 _ (by simp)))) rfl trivial (fun v9 D10 _ hD10 hp9 => ?_)
          obtain ⟨pv3, rfl, hpv3⟩ := hp9
          refine L.nil ?_
          refine S.nil ?_
          refine C.blockEnd ?_
          refine C.next ?_
          refine C.region [(false,0),(false,1),(false,2)] rfl ?_
          refine L.move rfl rfl rfl trivial ?_
          refine L.add rfl rfl rfl (by simp only [inK]; omega) rfl trivial ?_
          refine L.assign rfl rfl rfl trivial ?_
          refine L.nil ?_
          exact C.againR 33 (b + 1, pv3, D10) ⟨by simp only; omega, by simp only; rw [upB_yes hb1 hbit hsel]; exact hpv3⟩ (by simp only; omega) ⟨(by first | rfl | (show some (Value.int _ _) = some (Value.int _ _); congr 2; omega)), trivial⟩ rfl rfl ((by rw [upB_yes hb1 hbit hsel]; exact List.Sublist.refl _)) (fun D0 h => by simp only [List.mem_cons, List.not_mem_nil, or_false] at h; rcases h with h | h; exact ⟨D10, by simp, h ▸ Le.refl _⟩; exact ⟨D, by simp, h ▸ Le.refl _⟩)
      · have hsel : (!w.testBit b && nearB y f b) = false := add_sel hx hz hc4
        refine C.skip ?_
        refine C.blockEnd ?_
        refine C.next ?_
        refine C.region [(false,0),(false,1),(false,2)] rfl ?_
        refine L.move rfl rfl rfl trivial ?_
        refine L.add rfl rfl rfl (by simp only [inK]; omega) rfl trivial ?_
        refine L.assign rfl rfl rfl trivial ?_
        refine L.nil ?_
        exact C.againR 18 (b + 1, pv2, Dn) ⟨by simp only; omega, by simp only; rw [upB_no hsel]; exact hpv2⟩ (by simp only; omega) ⟨(by first | rfl | (show some (Value.int _ _) = some (Value.int _ _); congr 2; omega)), trivial⟩ rfl rfl ((by rw [upB_no hsel]; exact List.Sublist.refl _)) (fun D0 h => by simp only [List.mem_cons, List.not_mem_nil, or_false] at h; rcases h with h | h; exact ⟨Dn, by simp, h ▸ Le.refl _⟩; exact ⟨D, by simp, h ▸ Le.refl _⟩)
    · simp only at hc3
      refine C.exit ?_
      refine C.thenExit ?_
      refine C.thenExit ?_
      refine C.blockExit ?_
      exact leaveMany (A := []) (ν' := [_, _]) (B := []) (vs := []) rfl rfl rfl trivial rfl (fun D' hD => ⟨pv2, by rw [upB_end h1 hc3], by rw [upB_end h1 hc3]; exact hpv2.up R2.up (hD _ (by simp))⟩)
end Go.Fs
namespace Go.Fs
open Go.Proofs
open C7
theorem mem_fold {y : YardD} {out : List Int} : ∀ (ts : List (List Pt)) (acc : List (Sc × Nat)), (∀ p ∈ acc, p.2 = mostS y.chairs.length p.1) → ∀ p, p ∈ ts.foldl (addSc y out) acc ↔ p ∈ acc ∨ ∃ t ∈ ts, rightO y.claims out (mostT y t : Int) = true ∧ p = (sceneD y t, mostT y t)
  | [], acc, _, p => by simp
  | t :: ts, acc, h, p => by
    rw [List.foldl_cons]
    have h' : ∀ p ∈ addSc y out acc t, p.2 = mostS y.chairs.length p.1 := fun p hp => by
      unfold addSc at hp
      split at hp
      · rcases List.mem_append.1 hp with hp | hp
        · exact h p hp
        · simp only [List.mem_singleton] at hp; subst hp; rfl
      · exact h p hp
    rw [mem_fold ts _ h' p]
    have key : p ∈ addSc y out acc t ↔ p ∈ acc ∨ (rightO y.claims out (mostT y t : Int) = true ∧ p = (sceneD y t, mostT y t)) := by
      unfold addSc
      split
      · rename_i hc
        rw [Bool.and_eq_true] at hc
        rw [List.mem_append, List.mem_singleton]
        exact ⟨fun h => h.imp id fun e => ⟨hc.1, e⟩, fun h => h.imp id fun e => e.2⟩
      · rename_i hc
        refine ⟨Or.inl, fun h3 => ?_⟩
        rcases h3 with h3 | ⟨hr, rfl⟩
        · exact h3
        · have hr' : rightO y.claims out (mostS y.chairs.length (sceneD y t) : Int) = true := hr
          rw [hr', Bool.true_and, Bool.not_eq_true, Bool.or_eq_false_iff, decide_eq_false_iff_not, Bool.not_eq_false', beq_iff_eq] at hc
          obtain ⟨hc1, hc2⟩ := hc
          have hne : acc ≠ [] := fun e => hc1 (by rw [e]; rfl)
          unfold lastI at hc2
          rw [List.getLast?_eq_some_getLast hne] at hc2
          have h4 := scI_inj hc2
          have h5 := h _ (List.getLast_mem hne)
          have : acc.getLast hne = (sceneD y t, mostT y t) := Prod.ext h4 (by rw [h5, h4]; rfl)
          rw [← this]; exact List.getLast_mem hne
    rw [key]
    constructor
    · rintro ((h1 | h1) | ⟨s, h1, h2⟩)
      · exact Or.inl h1
      · exact Or.inr ⟨t, List.mem_cons_self, h1⟩
      · exact Or.inr ⟨s, List.mem_cons_of_mem _ h1, h2⟩
    · rintro (h1 | ⟨s, h1, h2⟩)
      · exact Or.inl (Or.inl h1)
      · rcases List.mem_cons.1 h1 with rfl | h1
        · exact Or.inl (Or.inr h2)
        · exact Or.inr ⟨s, h1, h2⟩
theorem mem_scenes {y : YardD} {out : List Int} {p : Sc × Nat} : p ∈ scenesD y out ↔ ∃ t, isTruth y t = true ∧ rightO y.claims out (mostT y t : Int) = true ∧ p = (sceneD y t, mostT y t) := by
  unfold scenesD
  rw [mem_fold _ _ (by simp)]
  simp only [List.not_mem_nil, false_or, mem_truthsD]
theorem scenes_sc {y : YardD} (h : YOk y) (out : List Int) : ∀ s ∈ (scenesD y out).map fun p => p.1, ScOk y.chairs.length s := fun s hs => by
  obtain ⟨p, hp, rfl⟩ := List.mem_map.1 hs
  obtain ⟨t, ht, _, rfl⟩ := mem_scenes.1 hp
  obtain ⟨hl, _⟩ := truthOk ht
  have := h.len
  exact scene_ok' hl (by omega)
/-- What Sure returns. -/
def sureV (y : YardD) : List (Int × Int) × Int × Int := if fault y ≠ 0 then ([], 0, fault y) else if scenesD y [] = [] then ([], 0, 11) else
  (((lvs y y.chairs.length 0 0 []).foldl (upd ((scenesD y []).map fun p => p.1)) ([], -1)).1, ((lvs y y.chairs.length 0 0 []).foldl (upd ((scenesD y []).map fun p => p.1)) ([], -1)).2, 0)
theorem sureR_err {y : YardD} {D : Data} (h : fault y ≠ 0) : ∃ lv, Value.tuple #[.slice none 0 0, .int .i64 0, .int .i64 (fault y)] = .tuple #[lv, .int .i64 (sureV y).2.1, .int .i64 (sureV y).2.2] ∧ Sl D R2 2 lv (sureV y).1 := by
  rw [sureV, if_pos h]; exact ⟨_, rfl, Sl.nil⟩
theorem sureR_nil {y : YardD} {D : Data} (h : fault y = 0) (hn : scenesD y [] = []) : ∃ lv, Value.tuple #[.slice none 0 0, .int .i64 0, .int .i64 11] = .tuple #[lv, .int .i64 (sureV y).2.1, .int .i64 (sureV y).2.2] ∧ Sl D R2 2 lv (sureV y).1 := by
  rw [sureV, if_neg (by omega), if_pos hn]; exact ⟨_, rfl, Sl.nil⟩
theorem sureR_ok {y : YardD} {D : Data} {lv : Value} (h : fault y = 0) (hn : ((scenesD y []).map fun p => p.1) ≠ []) (hS : Sl D R2 2 lv ((lvs y y.chairs.length 0 0 []).foldl (upd ((scenesD y []).map fun p => p.1)) ([], -1)).1) : ∃ lv', Value.tuple #[lv, .int .i64 ((lvs y y.chairs.length 0 0 []).foldl (upd ((scenesD y []).map fun p => p.1)) ([], -1)).2, .int .i64 0] = .tuple #[lv', .int .i64 (sureV y).2.1, .int .i64 (sureV y).2.2] ∧ Sl D R2 2 lv' (sureV y).1 := by
  rw [sureV, if_neg (by omega), if_neg (fun e => hn (by rw [e]; rfl))]; exact ⟨_, rfl, hS⟩
def proveSureV (y : YardD) (l : List (Int × Int)) (many : Int) : Bool := if (decide (fault y ≠ 0) || !(prB y.chairs.length l).isSome) = true then false else decide (0 < ((scenesD y []).length : Int)) && decide (sureZ ((scenesD y []).map fun p => p.1) l ≥ many)
theorem ps_go {y : YardD} {l : List (Int × Int)} (h : (decide (fault y ≠ 0) || !(prB y.chairs.length l).isSome) = false) : fault y = 0 ∧ (prB y.chairs.length l).isSome = true := by
  simpa using h
theorem ps_no {y : YardD} {l : List (Int × Int)} {many : Int} (h : (decide (fault y ≠ 0) || !(prB y.chairs.length l).isSome) = true) : proveSureV y l many = false := by unfold proveSureV; rw [if_pos h]
theorem ps_yes {y : YardD} {l : List (Int × Int)} {many : Int} (h : fault y = 0) (h2 : (prB y.chairs.length l).isSome = true) : proveSureV y l many = (decide (0 < ((scenesD y []).length : Int)) && decide (sureZ ((scenesD y []).map fun p => p.1) l ≥ many)) := by
  unfold proveSureV; rw [if_neg (by simp [h, h2])]
def takeC (y : YardD) (k : Nat) : YardD := { y with claims := y.claims.take k }
def firstP (y : YardD) (i : Nat) : Bool := !decide (0 < ((scenesD (takeC y (i + 1)) []).length : Int))
/-- What First returns. -/
def firstV (y : YardD) : Int × Int := if fault y ≠ 0 then (0, fault y) else match (List.range y.claims.length).find? (firstP y) with
  | some i => ((i : Int), 0)
  | none => (0, 7)
def tryL (f : Nat → List Int → Bool × List Int) : List Nat → List Int → Bool × List Int
  | [], fnd => (false, fnd)
  | i :: is, fnd => if (f i fnd).1 = true then (true, (f i fnd).2) else tryL f is (f i fnd).2
/-- Some more claims, from one on, are left out: is there a truth; and which ones were tried last. -/
def lvG (y : YardD) : Nat → Nat → List Int → List Int → Bool × List Int
  | 0, _, out, _ => (decide (0 < ((scenesD y out).length : Int)), out)
  | m + 1, f, out, fnd => tryL (fun i fnd => lvG y m (i + 1) (out ++ [(i : Int)]) fnd) (List.range' f (y.claims.length - m - f)) fnd
theorem try_yes {y : YardD} {m i : Nat} {out fnd : List Int} (hge : i + m < y.claims.length) (h : (lvG y m (i + 1) (out ++ [(i : Int)]) fnd).1 = true) : tryL (fun i fnd => lvG y m (i + 1) (out ++ [(i : Int)]) fnd) (List.range' i (y.claims.length - m - i)) fnd = (true, (lvG y m (i + 1) (out ++ [(i : Int)]) fnd).2) := by
  rw [show y.claims.length - m - i = (y.claims.length - m - i - 1) + 1 by omega, List.range'_succ, tryL, if_pos h]
theorem try_no {y : YardD} {m i : Nat} {out fnd : List Int} (hge : i + m < y.claims.length) (h : (lvG y m (i + 1) (out ++ [(i : Int)]) fnd).1 = false) : tryL (fun i fnd => lvG y m (i + 1) (out ++ [(i : Int)]) fnd) (List.range' i (y.claims.length - m - i)) fnd = tryL (fun i fnd => lvG y m (i + 1) (out ++ [(i : Int)]) fnd) (List.range' (i + 1) (y.claims.length - m - (i + 1))) (lvG y m (i + 1) (out ++ [(i : Int)]) fnd).2 := by
  conv => lhs; rw [show y.claims.length - m - i = (y.claims.length - m - (i + 1)) + 1 by omega, List.range'_succ, tryL, if_neg (by rw [h]; simp)]
theorem try_end {y : YardD} {m i : Nat} {out fnd : List Int} (hge : ¬ i + m < y.claims.length) : tryL (fun i fnd => lvG y m (i + 1) (out ++ [(i : Int)]) fnd) (List.range' i (y.claims.length - m - i)) fnd = (false, fnd) := by
  rw [show y.claims.length - m - i = 0 by omega]; rfl
theorem tryS_yes {y : YardD} {m : Nat} {fnd : List Int} (hm : m ≤ y.claims.length) (h : (lvG y m 0 [] fnd).1 = true) : (tryL (fun m fnd => lvG y m 0 [] fnd) (List.range' m (y.claims.length + 1 - m)) fnd).2 = (lvG y m 0 [] fnd).2 := by
  rw [show y.claims.length + 1 - m = (y.claims.length - m) + 1 by omega, List.range'_succ, tryL, if_pos h]
theorem tryS_no {y : YardD} {m : Nat} {fnd : List Int} (hm : m ≤ y.claims.length) (h : (lvG y m 0 [] fnd).1 = false) : tryL (fun m fnd => lvG y m 0 [] fnd) (List.range' m (y.claims.length + 1 - m)) fnd = tryL (fun m fnd => lvG y m 0 [] fnd) (List.range' (m + 1) (y.claims.length + 1 - (m + 1))) (lvG y m 0 [] fnd).2 := by
  conv => lhs; rw [show y.claims.length + 1 - m = (y.claims.length + 1 - (m + 1)) + 1 by omega, List.range'_succ, tryL, if_neg (by rw [h]; simp)]
theorem unf_c3 {b0 t0 wb mb t cl : Nat} {c0 cs : List Value} {es : Array MapEntry} : ∀ p ∈ [(b0, Obj.cells c0.toArray t0 (0, 0)), (wb, Obj.cells cs.toArray t (0, 0)), (mb, .map es cl)], unfrozen p.2 := by
  intro p hp
  simp only [List.mem_cons, List.not_mem_nil, or_false] at hp
  rcases hp with rfl | rfl | rfl
  · rfl
  · rfl
  · trivial
/-- What Leave returns. -/
def leaveV (y : YardD) : List Int × Int := if fault y ≠ 0 then ([], fault y) else ((tryL (fun m fnd => lvG y m 0 [] fnd) (List.range' 0 (y.claims.length + 1 - 0)) []).2, 0)
theorem leaveR_err {y : YardD} {D : Data} (h : fault y ≠ 0) : ∃ lv, Value.tuple #[.slice none 0 0, .int .i64 (fault y)] = .tuple #[lv, .int .i64 (leaveV y).2] ∧ Sl D RI 1 lv (leaveV y).1 := by
  rw [leaveV, if_pos h]; exact ⟨_, rfl, Sl.nil⟩
theorem leaveR_ok {y : YardD} {D : Data} {lv : Value} {l : List Int} (h : fault y = 0) (hl : (tryL (fun m fnd => lvG y m 0 [] fnd) (List.range' 0 (y.claims.length + 1 - 0)) []).2 = l) (hS : Sl D RI 1 lv l) : ∃ lv', Value.tuple #[lv, .int .i64 0] = .tuple #[lv', .int .i64 (leaveV y).2] ∧ Sl D RI 1 lv' (leaveV y).1 := by
  rw [leaveV, if_neg (by omega), hl]; exact ⟨_, rfl, hS⟩
theorem Sure_ok (yv : Value) (y : YardD) (D : Data) (hy : YardIs D yv y) : Fn Try.prog 43 #[yv] D (fun D' v => ∃ lv, v = .tuple #[lv, .int .i64 (sureV y).2.1, .int .i64 (sureV y).2.2] ∧ Sl D' R2 2 lv (sureV y).1) := by
  have hy0 := hy
  obtain ⟨cv, qv, rfl, hc, hq⟩ := hy
  refine enter 30 Try.func43 rfl rfl rfl rfl fun h0 => ?_
  refine C.seq ?_
  refine C.region [(false,0),(false,1),(false,2),(false,3)] rfl ?_
  refine L.boxD rfl rfl rfl rfl trivial (fun q1 E1 hE1 hB1 => ?_)
  refine L.alloc rfl Tf.z30 rfl rfl trivial (fun q2 => ?_)
  refine L.alloc rfl Tf.z3 rfl rfl trivial (fun q3 => ?_)
  refine L.assign rfl rfl rfl trivial ?_
  refine L.nil ?_
  refine C.next ?_
  refine C.seq ?_
  refine C.seq ?_
  refine C.region [(false,0),(false,1),(false,2)] rfl ?_
  refine L.loadDW rfl Tf.a37 rfl hB1 (by first | simp | assumption) Tf.s37 List.not_mem_nil rfl trivial ?_
  refine L.callV rfl rfl rfl (fun D1 hD1 => CheckYard_ok _ y _ (hy0.up (hD1 _ (by simp)))) rfl trivial ?_
  refine L.assign rfl rfl rfl trivial ?_
  refine L.nil ?_
  refine C.next ?_
  refine C.seq ?_
  refine C.region [(false,0),(false,1)] rfl ?_
  refine L.move rfl rfl rfl trivial ?_
  refine L.neq rfl rfl rfl rfl trivial ?_
  refine L.nil ?_
  refine C.next ?_
  refine C.condD rfl (fun hc1 => ?_) (fun hc1 => ?_)
  · refine C.seq ?_
    refine C.region [(false,0),(false,1),(false,2),(false,3)] rfl ?_
    refine L.move rfl rfl rfl trivial ?_
    refine L.store rfl rfl rfl rfl Tf.s30 (.tail (Has.head)) (by simp) rfl (by simp [cell1]) trivial ?_
    refine L.store rfl rfl rfl rfl Tf.s3 (Has.head) (by simp) rfl (by simp [cell1]) trivial ?_
    refine L.assign rfl rfl rfl trivial ?_
    refine L.nil ?_
    refine C.next ?_
    refine C.ret ?_
    refine C.thenRet ?_
    exact leave (vs := [_, _, _]) rfl rfl rfl ⟨⟨_, _, _, rfl, (List.Mem.tail _ (List.Mem.head _)), Or.inl ⟨Tf.a30, rfl⟩⟩, ⟨_, _, _, rfl, (List.Mem.head _), Or.inl ⟨Tf.a3, rfl⟩⟩, rfl, trivial⟩ (fun D hD => sureR_err hc1)
  · have hf0 : fault y = 0 := by omega
    have hyo := yOk hf0
    have hn7 := hyo.len
    refine C.skip ?_
    refine C.next ?_
    refine C.seq ?_
    refine C.region [(false,0),(false,1),(false,2)] rfl ?_
    refine L.loadDW rfl Tf.a37 rfl hB1 (by first | simp | assumption) Tf.s37 List.not_mem_nil rfl trivial ?_
    refine L.callO (μ := _) rfl rfl rfl (fun D5 hD5 => work_ok _ y _ _ D5 rfl) rfl trivial (fun v5 D6 _ hD6 hp5 => ?_)
    obtain ⟨wb, mb, rfl, rfl⟩ := hp5
    refine L.assign rfl rfl rfl trivial ?_
    refine L.nil ?_
    refine C.next ?_
    refine C.seq ?_
    refine C.region [(false,0),(false,1),(false,2),(false,3),(false,4),(false,5),(false,6),(false,7)] rfl ?_
    refine L.move rfl rfl rfl trivial ?_
    refine L.boxesEq ([] ++ [(_, _), (_, _)] ++ ([(_, _), (_, _)])) rfl ?_
    refine L.callM (A := []) (ν := [(_, _), (_, _)]) (B := [(_, _), (_, _)]) rfl rfl rfl rfl (Or.inl rfl) (unf_w (cs := [_, _, _, _])) (fun D7 hD7 => scenes_ok wb mb _ _ y [] _ hn7 hyo.fit hyo.size #[] 0 [] _ (hc.up RCh.up (hD7 _ (by simp))) (hq.up R2.up (hD7 _ (by simp))) Sl.nil rfl MOk.nil) rfl trivial (fun v7 D8 _ hD8 hp7 => ?_)
    obtain ⟨sv, mv, rfl, hsv, hmv, es1, cl1, M1, rfl, hM1, hok1⟩ := hp7
    refine L.move rfl rfl rfl trivial ?_
    refine L.extract rfl rfl rfl rfl trivial ?_
    refine L.extract rfl rfl rfl rfl trivial ?_
    refine L.alloc rfl Tf.z135 rfl rfl trivial (fun q4 => ?_)
    refine L.store rfl rfl rfl hsv.cells1 Tf.s135 .head (by simp) rfl hsv.cell1 trivial ?_
    refine L.assign rfl rfl rfl trivial ?_
    refine L.nil ?_
    refine C.next ?_
    refine C.seq ?_
    refine C.seq ?_
    refine C.freezeBox (A := []) (b := q4) (cells := [sv]) rfl (fun D20 hD20 hV => ?_)
    refine C.region [(false,0),(false,1),(false,2)] rfl ?_
    refine L.loadD1 rfl (k := 0) Tf.a135 rfl hV (by first | simp | assumption) rfl List.not_mem_nil rfl trivial ?_
    refine L.len rfl Try.underlying135 rfl hsv rfl rfl trivial ?_
    refine L.eql rfl rfl rfl rfl trivial ?_
    refine L.nil ?_
    refine C.next ?_
    refine C.condD rfl (fun hc2 => ?_) (fun hc2 => ?_)
    · have hnil : scenesD y [] = [] := by simpa using hc2
      refine C.seq ?_
      refine C.region [(false,0),(false,1),(false,2)] rfl ?_
      refine L.store rfl rfl rfl rfl Tf.s30 (.tail (.tail (.tail (Has.head)))) (by simp) rfl (by simp [cell1]) trivial ?_
      refine L.store rfl rfl rfl rfl Tf.s3 (.tail (.tail (Has.head))) (by simp) rfl (by simp [cell1]) trivial ?_
      refine L.assign rfl rfl rfl trivial ?_
      refine L.nil ?_
      refine C.next ?_
      refine C.ret ?_
      refine C.thenRet ?_
      exact leave (vs := [_, _, _]) rfl rfl rfl ⟨⟨_, _, _, rfl, (List.Mem.tail _ (List.Mem.tail _ (List.Mem.tail _ (List.Mem.head _)))), Or.inl ⟨Tf.a30, rfl⟩⟩, ⟨_, _, _, rfl, (List.Mem.tail _ (List.Mem.tail _ (List.Mem.head _))), Or.inl ⟨Tf.a3, rfl⟩⟩, rfl, trivial⟩ (fun D hD => sureR_nil hf0 hnil)
    · have hne : ((scenesD y []).map fun p : Sc × Nat => p.1) ≠ [] := fun e => hc2 (by rw [e]; rfl)
      have hsc := scenes_sc hyo []
      refine C.skip ?_
      refine C.next ?_
      refine C.seq ?_
      refine C.region [(false,0)] rfl ?_
      refine L.store rfl rfl rfl rfl Tf.s3 (.tail (.tail (Has.head))) (by simp) rfl (by simp [cell1]) trivial ?_
      refine L.nil ?_
      refine C.next ?_
      refine C.seq ?_
      refine C.region [(false,0)] rfl ?_
      refine L.alloc rfl Tf.z142 rfl rfl trivial (fun q5 => ?_)
      refine L.nil ?_
      refine C.next ?_
      refine C.seq ?_
      refine C.region [(false,0),(false,1)] rfl ?_
      refine L.makeFunc rfl rfl rfl rfl trivial ?_
      refine L.store rfl rfl rfl rfl Tf.s142 (Has.head) (by simp) rfl (by simp [cell1]) trivial ?_
      refine L.nil ?_
      refine C.next ?_
      refine C.seq ?_
      refine C.freezeBox (A := []) (b := q5) (cells := [.func (.func 89) #[] #[.pointer (some ⟨q1, 0, none⟩), .pointer (some ⟨q4, 0, none⟩), .pointer (some ⟨q3, 0, none⟩), .pointer (some ⟨q2, 0, none⟩), .pointer (some ⟨q5, 0, none⟩)]]) rfl (fun D21 hD21 hF => ?_)
      refine C.region [(false,0),(false,1)] rfl ?_
      refine L.loadD1 rfl (k := 0) Tf.a142 rfl hF (by first | simp | assumption) rfl List.not_mem_nil rfl trivial ?_
      refine L.boxesEq ([(_, _), (_, _)] ++ [(_, _), (_, _)] ++ ([])) rfl ?_
      refine L.callM (A := [(_, _), (_, _)]) (ν := [(_, _), (_, _)]) (B := []) rfl rfl rfl rfl (Or.inl rfl) unf_cc (fun D11 hD11 => add_ok hyo hne hsc y.chairs.length 0 (by omega) 0 [] (.slice none 0 0) [] (-1) (.slice none 0 0) _ (by omega) (fun p hp => by cases hp) (by simp) Sl.nil Sl.nil (hc.up RCh.up (hD11 _ (by simp))) (hq.up R2.up (hD11 _ (by simp))) (hB1.up (hD11 _ (by simp))) (hV.up (hD11 _ (by simp))) (hsv.up RSc.up (hD11 _ (by simp))) (hF.up (hD11 _ (by simp)))) rfl trivial (fun v11 D12 _ hD12 hp11 => ?_)
      obtain ⟨pv1, rfl, hpv1⟩ := hp11
      refine L.nil ?_
      refine C.next ?_
      refine C.seq ?_
      refine C.draw [] 1 [0,1,2,3,4] [false,true,true,false,false] [(false,0),(true,1),(true,2),(false,3),(false,4)] Tf.follows (fun _ _ _ h => np_body (P := Try.prog) (fn := Try.f43) _ _ _ h) (by kernel_rfl) rfl ?_
      refine L.loadB1 rfl Tf.a30 rfl (List.Mem.tail _ (List.Mem.tail _ (List.Mem.tail _ (List.Mem.head _)))) rfl List.not_mem_nil rfl trivial ?_
      refine L.loadB1 rfl Tf.a3 rfl (List.Mem.tail _ (List.Mem.tail _ (List.Mem.head _))) rfl List.not_mem_nil rfl trivial ?_
      refine L.storeS rfl rfl rfl hpv1.cells1 Tf.s30 (.tail (.tail (.tail .head))) (by simp) rfl hpv1.cell1 trivial ?_
      refine L.store rfl rfl rfl rfl Tf.s3 (.tail (.tail (Has.head))) (by simp) rfl (by simp [cell1]) trivial ?_
      refine L.assign rfl rfl rfl trivial ?_
      refine L.nil ?_
      refine C.next ?_
      refine C.ret ?_
      exact leave (vs := [_, _, _]) rfl rfl rfl ⟨⟨_, _, _, rfl, (List.Mem.tail _ (List.Mem.tail _ (List.Mem.tail _ (List.Mem.head _)))), Or.inl ⟨Tf.a30, rfl⟩⟩, ⟨_, _, _, rfl, (List.Mem.tail _ (List.Mem.tail _ (List.Mem.head _))), Or.inl ⟨Tf.a3, rfl⟩⟩, rfl, trivial⟩ (fun D hD => sureR_ok hf0 hne (hpv1.up R2.up (hD _ (by simp))))
theorem ProveSure_ok (yv lv : Value) (y : YardD) (l : List (Int × Int)) (many : Int) (D : Data) (hy : YardIs D yv y) (hl : Sl D R2 2 lv l) : Fn Try.prog 44 #[yv, lv, .int .i64 many] D (fun _ v => v = .bool (proveSureV y l many)) := by
  have hy0 := hy
  obtain ⟨cv, qv, rfl, hc, hq⟩ := hy
  refine enter 34 Try.func44 rfl rfl rfl rfl fun h0 => ?_
  refine C.seq ?_
  refine C.region [(false,0),(false,1)] rfl ?_
  refine L.boxD rfl rfl rfl rfl trivial (fun q1 E1 hE1 hB1 => ?_)
  refine L.assign rfl rfl rfl trivial ?_
  refine L.nil ?_
  refine C.next ?_
  refine C.seq ?_
  refine C.seq ?_
  refine C.region [(false,0),(false,1),(false,2),(false,3),(false,4),(false,5),(false,6),(false,7),(false,8)] rfl ?_
  refine L.loadDW rfl Tf.a37 rfl hB1 (by first | simp | assumption) Tf.s37 List.not_mem_nil rfl trivial ?_
  refine L.callV rfl rfl rfl (fun D1 hD1 => CheckYard_ok _ y _ (hy0.up (hD1 _ (by simp)))) rfl trivial ?_
  refine L.neq rfl rfl rfl rfl trivial ?_
  refine L.move rfl rfl rfl trivial ?_
  refine' L.or [(false,4),(false,5),(false,6),(false,7),(false,8)] [] (s := 12) (p := 17) rfl rfl (fun hg1 => ?_) (fun hg1 => ?_) ?_
  rotate_left
  · have hn7g : y.chairs.length ≤ 7 := (yOk (by simpa using hg1)).len
    refine L.loadDW rfl Tf.a37 rfl hB1 (by first | simp | assumption) Tf.s37 List.not_mem_nil rfl ⟨_, rfl, rfl⟩ ?_
    refine L.move rfl rfl rfl ⟨_, rfl, rfl⟩ ?_
    refine L.callV rfl rfl rfl (fun D2 hD2 => paired_ok _ _ y l _ (hy0.up (hD2 _ (by simp))) (hl.up R2.up (hD2 _ (by simp))) hn7g) rfl ⟨_, rfl, rfl⟩ ?_
    refine L.not rfl rfl rfl ⟨_, rfl, rfl⟩ ?_
    refine L.pickF rfl rfl rfl rfl trivial ?_
    exact L.nil fun a w hh => hh.cutK 4 rfl
  · refine L.pass rfl rfl rfl ⟨_, _, rfl, rfl, rfl⟩ ?_
    refine L.pass rfl rfl rfl ⟨_, _, rfl, rfl, rfl⟩ ?_
    refine L.pass rfl rfl rfl ⟨_, _, rfl, rfl, rfl⟩ ?_
    refine L.pass rfl rfl rfl ⟨_, _, rfl, rfl, rfl⟩ ?_
    refine L.pickT rfl rfl rfl rfl trivial ?_
    exact L.nil fun a w hh => hh.cutK 4 rfl
  refine L.nil ?_
  refine C.next ?_
  refine C.cond rfl (fun hc1 => ?_) (fun hc1 => ?_)
  · refine C.seq ?_
    refine C.region [(false,0)] rfl ?_
    refine L.assign rfl rfl rfl trivial ?_
    refine L.nil ?_
    refine C.next ?_
    refine C.ret ?_
    refine C.thenRet ?_
    exact leave (vs := [_]) rfl rfl rfl ⟨rfl, trivial⟩ (fun D hD => by show Value.bool _ = _; rw [ps_no hc1])
  · obtain ⟨hf0, hpr⟩ := ps_go hc1
    have hyo := yOk hf0
    have hn7 := hyo.len
    obtain ⟨hpo, hpl⟩ := prB_ok hn7 hpr
    refine C.skip ?_
    refine C.next ?_
    refine C.seq ?_
    refine C.region [(false,0),(false,1),(false,2),(false,3),(false,4),(false,5),(false,6),(false,7)] rfl ?_
    refine L.loadDW rfl Tf.a37 rfl hB1 (by first | simp | assumption) Tf.s37 List.not_mem_nil rfl trivial ?_
    refine L.callO (μ := _) rfl rfl rfl (fun D5 hD5 => work_ok _ y _ _ D5 rfl) rfl trivial (fun v5 D6 _ hD6 hp5 => ?_)
    obtain ⟨wb, mb, rfl, rfl⟩ := hp5
    refine L.callM (A := []) (ν := [(_, _), (_, _)]) (B := []) rfl rfl rfl rfl (Or.inl rfl) (unf_w (cs := [_, _, _, _])) (fun D7 hD7 => scenes_ok wb mb _ _ y [] _ hn7 hyo.fit hyo.size #[] 0 [] _ (hc.up RCh.up (hD7 _ (by simp))) (hq.up R2.up (hD7 _ (by simp))) Sl.nil rfl MOk.nil) rfl trivial (fun v7 D8 _ hD8 hp7 => ?_)
    obtain ⟨sv, mv, rfl, hsv, hmv, es1, cl1, M1, rfl, hM1, hok1⟩ := hp7
    refine L.move rfl rfl rfl trivial ?_
    refine L.extract rfl rfl rfl rfl trivial ?_
    refine L.extract rfl rfl rfl rfl trivial ?_
    refine L.assign rfl rfl rfl trivial ?_
    refine L.assign rfl rfl rfl trivial ?_
    refine L.nil ?_
    refine C.next ?_
    refine C.seq ?_
    refine C.region [(false,0),(false,1),(false,2),(false,3),(false,4),(false,5),(false,6),(false,7),(false,8),(false,9),(false,10)] rfl ?_
    refine L.move rfl rfl rfl trivial ?_
    refine L.len rfl Try.underlying135 rfl hsv rfl rfl trivial ?_
    refine L.gtr rfl rfl rfl rfl trivial ?_
    refine L.move rfl rfl rfl trivial ?_
    refine' L.and [(false,4),(false,5),(false,6),(false,7),(false,8),(false,9)] [(false,10)] (s := 27) (p := 33) rfl rfl (fun hg2 => ?_) (fun hg2 => ?_) ?_
    rotate_left
    · have hne : ((scenesD y []).map fun p : Sc × Nat => p.1) ≠ [] := fun e => by rw [e] at hg2; simp at hg2
      refine L.move rfl rfl rfl ⟨_, rfl, rfl⟩ ?_
      refine L.move rfl rfl rfl ⟨_, rfl, rfl⟩ ?_
      refine L.callV rfl rfl rfl (fun D3 hD3 => sure_ok _ _ ((scenesD y []).map fun p : Sc × Nat => p.1) l y.chairs.length _ (hsv.up RSc.up (hD3 _ (by simp))) (hl.up R2.up (hD3 _ (by simp))) hne (scenes_sc hyo []) hpo (by omega)) rfl ⟨_, rfl, rfl⟩ ?_
      refine L.move rfl rfl rfl ⟨_, rfl, rfl⟩ ?_
      refine L.geq rfl rfl rfl rfl ⟨_, rfl, rfl⟩ ?_
      refine L.pickT rfl rfl rfl rfl trivial ?_
      exact L.nil fun a w hh => hh.cutK 5 rfl
    · refine L.pass rfl rfl rfl ⟨_, _, rfl, rfl, rfl⟩ ?_
      refine L.pass rfl rfl rfl ⟨_, _, rfl, rfl, rfl⟩ ?_
      refine L.pass rfl rfl rfl ⟨_, _, rfl, rfl, rfl⟩ ?_
      refine L.pass rfl rfl rfl ⟨_, _, rfl, rfl, rfl⟩ ?_
      refine L.pass rfl rfl rfl ⟨_, _, rfl, rfl, rfl⟩ ?_
      refine L.pickF rfl rfl rfl rfl trivial ?_
      exact L.nil fun a w hh => hh.cutK 5 rfl
    refine L.assign rfl rfl rfl trivial ?_
    refine L.nil ?_
    refine C.next ?_
    refine C.ret ?_
    exact leave (vs := [_]) rfl rfl rfl ⟨rfl, trivial⟩ (fun D hD => by show Value.bool _ = _; rw [ps_yes hf0 hpr, List.length_map])
theorem First_ok (yv : Value) (y : YardD) (D : Data) (hy : YardIs D yv y) : Fn Try.prog 47 #[yv] D (fun _ v => v = .tuple #[.int .i64 (firstV y).1, .int .i64 (firstV y).2]) := by
  have hy0 := hy
  obtain ⟨cv, qv, rfl, hc, hq⟩ := hy
  have hql := hq.len
  refine enter 34 Try.func47 rfl rfl rfl rfl fun h0 => ?_
  refine C.seq ?_
  refine C.region [(false,0),(false,1),(false,2)] rfl ?_
  refine L.boxD rfl rfl rfl rfl trivial (fun q1 E1 hE1 hB1 => ?_)
  refine L.assign rfl rfl rfl trivial ?_
  refine L.assign rfl rfl rfl trivial ?_
  refine L.nil ?_
  refine C.next ?_
  refine C.seq ?_
  refine C.seq ?_
  refine C.region [(false,0),(false,1),(false,2)] rfl ?_
  refine L.loadDW rfl Tf.a37 rfl hB1 (by first | simp | assumption) Tf.s37 List.not_mem_nil rfl trivial ?_
  refine L.callV rfl rfl rfl (fun D1 hD1 => CheckYard_ok _ y _ (hy0.up (hD1 _ (by simp)))) rfl trivial ?_
  refine L.assign rfl rfl rfl trivial ?_
  refine L.nil ?_
  refine C.next ?_
  refine C.seq ?_
  refine C.region [(false,0),(false,1)] rfl ?_
  refine L.move rfl rfl rfl trivial ?_
  refine L.neq rfl rfl rfl rfl trivial ?_
  refine L.nil ?_
  refine C.next ?_
  refine C.condD rfl (fun hc1 => ?_) (fun hc1 => ?_)
  · refine C.seq ?_
    refine C.region [(false,0),(false,1),(false,2)] rfl ?_
    refine L.move rfl rfl rfl trivial ?_
    refine L.assign rfl rfl rfl trivial ?_
    refine L.assign rfl rfl rfl trivial ?_
    refine L.nil ?_
    refine C.next ?_
    refine C.ret ?_
    refine C.thenRet ?_
    exact leave (vs := [_, _]) rfl rfl rfl ⟨rfl, rfl, trivial⟩ (fun D hD => by show Value.tuple _ = _; rw [firstV, if_pos hc1])
  · have hf0 : fault y = 0 := by omega
    have hyo := yOk hf0
    have hn7 := hyo.len
    refine C.skip ?_
    refine C.next ?_
    refine C.seq ?_
    refine C.region [(false,0),(false,1),(false,2)] rfl ?_
    refine L.loadDW rfl Tf.a37 rfl hB1 (by first | simp | assumption) Tf.s37 List.not_mem_nil rfl trivial ?_
    refine L.callO (μ := _) rfl rfl rfl (fun D5 hD5 => work_ok _ y _ _ D5 rfl) rfl trivial (fun v5 D6 _ hD6 hp5 => ?_)
    obtain ⟨wb, mb, rfl, rfl⟩ := hp5
    refine L.assign rfl rfl rfl trivial ?_
    refine L.nil ?_
    refine C.next ?_
    refine C.seq ?_
    refine C.seq ?_
    refine C.region [(false,0),(false,1),(false,2),(false,3)] rfl ?_
    refine L.fieldAddr rfl Tf.f37_2 rfl rfl trivial ?_
    refine L.loadD1 rfl (k := 2) Tf.a35 rfl hB1 (by first | simp | assumption) rfl List.not_mem_nil rfl trivial ?_
    refine L.len rfl Try.underlying35 rfl hq rfl rfl trivial ?_
    refine L.move rfl rfl rfl trivial ?_
    refine L.nil ?_
    refine C.next ?_
    refine C.block ?_
    refine C.loopR (γ := Nat × Value × Array MapEntry × Nat × List (Ints 8 × Int)) (fun g => y.claims.length - g.1) (fun g => g.1 ≤ y.claims.length ∧ MapG kaV g.2.2.1 g.2.2.2.2 ∧ MOk y.chairs.length g.2.2.2.2 ∧ ∀ j, j < g.1 → firstP y j = false) (fun g => [(17, .int .i64 (g.1 : Int))]) [(16, _), (5, _), (3, _), (2, _), (1, _)] (fun g => [(wb, .cells [cv, .int .i64 y.fit, g.2.1, .map (some mb)].toArray 148 (0, 0)), (mb, .map g.2.2.1 g.2.2.2.1)]) (fun g => [D6, E1, D]) (0, qv, #[], 0, []) ⟨by simp, rfl, MOk.nil, by simp⟩ ⟨(by first | rfl | (show some (Value.int _ _) = some (Value.int _ _); congr 2; omega)), trivial⟩ ⟨rfl, rfl, rfl, rfl, rfl, trivial⟩ (List.Sublist.refl _) (ds_same) ?_
    rintro ⟨i, q0, es, cl, Mm⟩ ⟨h1, hM, hok, hno⟩
    simp only at h1 hM hok hno
    refine C.seq ?_
    refine C.region [(false,0)] rfl ?_
    refine L.lss rfl rfl rfl rfl trivial ?_
    refine L.nil ?_
    refine C.next ?_
    refine C.seq ?_
    refine C.condD rfl (fun hc2 => ?_) (fun hc2 => ?_)
    · have hi : i < y.claims.length := by omega
      refine C.skip ?_
      refine C.next ?_
      refine C.seq ?_
      refine C.block ?_
      refine C.seq ?_
      refine C.region [(false,0),(false,1)] rfl ?_
      refine L.move rfl rfl rfl trivial ?_
      refine L.assign rfl rfl rfl trivial ?_
      refine L.nil ?_
      refine C.next ?_
      refine C.seq ?_
      refine C.region [(false,0),(false,1),(false,2),(false,3),(false,4),(false,5),(false,6),(false,7),(false,8),(false,9)] rfl ?_
      refine L.move rfl rfl rfl trivial ?_
      refine L.fieldAddr rfl Tf.f37_2 rfl rfl trivial ?_
      refine L.loadD1 rfl (k := 2) Tf.a35 rfl hB1 (by first | simp | assumption) rfl List.not_mem_nil rfl trivial ?_
      refine L.move rfl rfl rfl trivial ?_
      refine L.add rfl rfl rfl (by simp only [inK]; omega) rfl trivial ?_
      refine L.sliceTo (k := i + 1) rfl Try.underlying35 Tf.s61 rfl rfl hq (by omega) rfl trivial (fun u hu => ?_)
      refine L.nilCheck rfl rfl rfl trivial ?_
      refine L.fieldAddr rfl Tf.f148_0 rfl rfl trivial ?_
      refine L.fieldAddr rfl Tf.f37_2 rfl rfl trivial ?_
      refine L.store rfl rfl rfl hu.cells1 Tf.s35 .head (by simp) rfl hu.cell1 trivial ?_
      refine L.nil ?_
      refine C.next ?_
      refine C.seq ?_
      refine C.region [(false,0),(false,1),(false,2)] rfl ?_
      refine L.move rfl rfl rfl trivial ?_
      refine L.callM (A := []) (ν := [(_, _), (_, _)]) (B := []) rfl rfl rfl rfl (Or.inl rfl) (unf_w (cs := [_, _, _, _])) (fun D11 hD11 => possible_ok wb mb cv u (takeC y (i + 1)) [] _ hn7 hyo.fit hyo.size es cl Mm _ (hc.up RCh.up (hD11 _ (by simp))) (hu.up R2.up (hD11 _ (by simp))) Sl.nil hM hok) rfl trivial (fun v11 D12 _ hD12 hp11 => ?_)
      obtain ⟨rfl, es1, cl1, M1, rfl, hM1, hok1⟩ := hp11
      refine L.not rfl rfl rfl trivial ?_
      refine L.nil ?_
      refine C.next ?_
      refine C.cond rfl (fun hc3 => ?_) (fun hc3 => ?_)
      · refine C.seq ?_
        refine C.region [(false,0),(false,1),(false,2)] rfl ?_
        refine L.move rfl rfl rfl trivial ?_
        refine L.assign rfl rfl rfl trivial ?_
        refine L.assign rfl rfl rfl trivial ?_
        refine L.nil ?_
        refine C.next ?_
        refine C.ret ?_
        refine C.blockRet ?_
        refine C.thenRet ?_
        refine C.thenRet ?_
        refine C.blockRet ?_
        refine C.thenRet ?_
        exact leave (vs := [_, _]) rfl rfl rfl ⟨rfl, rfl, trivial⟩ (fun D hD => by show Value.tuple _ = _; rw [firstV, if_neg hc1, find_range hi hc3 hno])
      · refine C.skip ?_
        refine C.blockEnd ?_
        refine C.next ?_
        refine C.region [(false,0),(false,1)] rfl ?_
        refine L.add rfl rfl rfl (by simp only [inK]; omega) rfl trivial ?_
        refine L.move rfl rfl rfl trivial ?_
        refine L.nil ?_
        exact C.againR 18 (i + 1, u, es1, cl1, M1) ⟨by simp only; omega, hM1, hok1, fun j hj => by rcases Nat.lt_succ_iff_lt_or_eq.1 hj with h | rfl; exact hno j h; exact hc3⟩ (by simp only; omega) ⟨(by first | rfl | (show some (Value.int _ _) = some (Value.int _ _); congr 2; omega)), trivial⟩ rfl rfl (List.Sublist.refl _) (fun D h => ⟨D, List.Mem.tail _ (h), Le.refl D⟩)
    · obtain rfl : i = y.claims.length := by omega
      refine C.exit ?_
      refine C.thenExit ?_
      refine C.thenExit ?_
      refine C.blockExit ?_
      refine C.next ?_
      refine C.seq ?_
      refine C.region [(false,0),(false,1)] rfl ?_
      refine L.assign rfl rfl rfl trivial ?_
      refine L.assign rfl rfl rfl trivial ?_
      refine L.nil ?_
      refine C.next ?_
      refine C.ret ?_
      exact leave (vs := [_, _]) rfl rfl rfl ⟨rfl, rfl, trivial⟩ (fun D hD => by show Value.tuple _ = _; rw [firstV, if_neg hc1, find_none hno])
theorem try_ok {y : YardD} {cv qv : Value} {bf bW bY bF wb mb : Nat} (hyo : YOk y) :
    ∀ (mm f : Nat) (out : List Int) (ov : Value) (fnd : List Int) (fv : Value) (es : Array MapEntry) (cl : Nat) (Mm : List (Ints 8 × Int)) (D : Data), out.length + mm ≤ 10 → Sl D RI 1 ov out → Sl D RI 1 fv fnd → MapG kaV es Mm → MOk y.chairs.length Mm → Sl D RCh 4 cv y.chairs → Sl D R2 2 qv y.claims → At D bW 0 [.pointer (some ⟨wb, 0, none⟩)] → At D bY 0 [cv, .int .i64 y.fit, qv] → At D bF 0 [.func (.func 94) #[] #[.pointer (some ⟨bf, 0, none⟩), .pointer (some ⟨bW, 0, none⟩), .pointer (some ⟨bY, 0, none⟩), .pointer (some ⟨bF, 0, none⟩)]] →
    FnM Try.prog 94 [ov, .int .i64 (f : Int), .int .i64 (mm : Int), .pointer (some ⟨bf, 0, none⟩), .pointer (some ⟨bW, 0, none⟩), .pointer (some ⟨bY, 0, none⟩), .pointer (some ⟨bF, 0, none⟩)] D [(bf, .cells [fv].toArray 52 (0, 0)), (wb, .cells [cv, .int .i64 y.fit, qv, .map (some mb)].toArray 148 (0, 0)), (mb, .map es cl)] (fun D' v ν' => v = .bool (lvG y mm f out fnd).1 ∧ ∃ fv' es' cl' M', ν' = [(bf, .cells [fv'].toArray 52 (0, 0)), (wb, .cells [cv, .int .i64 y.fit, qv, .map (some mb)].toArray 148 (0, 0)), (mb, .map es' cl')] ∧ Sl D' RI 1 fv' (lvG y mm f out fnd).2 ∧ MapG kaV es' M' ∧ MOk y.chairs.length M') := by
  intro mm
  induction mm using Nat.strongRecOn with
  | _ mm ih =>
  intro f out ov fnd fv es cl Mm D hlen ho hfd hM hok hc hq hW hY hF
  have hn7 := hyo.len
  have hcl := hq.len
  have hc5 := hyo.cls
  refine enterMany 39 Try.func94 rfl rfl rfl rfl (fun h0 hwl hwn => ?_)
  refine C.seq ?_
  refine C.region [(false,0)] rfl ?_
  refine L.assign rfl rfl rfl trivial ?_
  refine L.nil ?_
  refine C.next ?_
  refine C.seq ?_
  refine C.seq ?_
  refine C.region [(false,0),(false,1)] rfl ?_
  refine L.move rfl rfl rfl trivial ?_
  refine L.eql rfl rfl rfl rfl trivial ?_
  refine L.nil ?_
  refine C.next ?_
  refine C.condD rfl (fun hc1 => ?_) (fun hc1 => ?_)
  · obtain rfl : mm = 0 := by omega
    refine C.seq ?_
    refine C.region [(false,0),(false,1)] rfl ?_
    refine L.move rfl rfl rfl trivial ?_
    refine L.store rfl rfl rfl ho.cells1 Tf.s52 .head (by simp) rfl ho.cell1 trivial ?_
    refine L.nil ?_
    refine C.next ?_
    refine C.seq ?_
    refine C.region [(false,0),(false,1),(false,2),(false,3)] rfl ?_
    refine L.loadD1 rfl (k := 0) Tf.a120 rfl hW (by first | simp | assumption) rfl List.not_mem_nil rfl trivial ?_
    refine L.move rfl rfl rfl trivial ?_
    refine L.callMA (A := [(_, _)]) (ν := [(_, _), (_, _)]) rfl rfl rfl rfl (Or.inl rfl) (unf_w (cs := [_, _, _, _])) (fun D11 hD11 => possible_ok wb mb cv qv y out _ hn7 hyo.fit hyo.size es cl Mm _ (hc.up RCh.up (hD11 _ (by simp))) (hq.up R2.up (hD11 _ (by simp))) (ho.up RI.up (hD11 _ (by simp))) hM hok) rfl trivial (fun v11 D12 _ hD12 hp11 => ?_)
    obtain ⟨rfl, es1, cl1, M1, rfl, hM1, hok1⟩ := hp11
    refine L.assign rfl rfl rfl trivial ?_
    refine L.nil ?_
    refine C.next ?_
    refine C.ret ?_
    refine C.thenRet ?_
    exact leaveMany (A := []) (ν' := [_, _, _]) (B := []) (vs := [_]) rfl rfl rfl ⟨rfl, trivial⟩ rfl (fun D' hD => ⟨rfl, ov, es1, cl1, M1, rfl, ho.up RI.up (hD _ (by simp)), hM1, hok1⟩)
  · obtain ⟨m, rfl⟩ : ∃ k, mm = k + 1 := ⟨mm - 1, by omega⟩
    refine C.skip ?_
    refine C.next ?_
    refine C.seq ?_
    refine C.seq ?_
    refine C.region [(false,0),(false,1)] rfl ?_
    refine L.move rfl rfl rfl trivial ?_
    refine L.assign rfl rfl rfl trivial ?_
    refine L.nil ?_
    refine C.next ?_
    refine C.block ?_
    refine C.loopR (γ := Nat × List Int × Value × Array MapEntry × Nat × List (Ints 8 × Int) × Data) (fun g => y.claims.length + 1 - g.1) (fun g => f ≤ g.1 ∧ lvG y (m + 1) f out fnd = tryL (fun i fnd => lvG y m (i + 1) (out ++ [(i : Int)]) fnd) (List.range' g.1 (y.claims.length - m - g.1)) g.2.1 ∧ Sl g.2.2.2.2.2.2 RI 1 g.2.2.1 g.2.1 ∧ MapG kaV g.2.2.2.1 g.2.2.2.2.2.1 ∧ MOk y.chairs.length g.2.2.2.2.2.1) (fun g => [(11, .int .i64 (g.1 : Int))]) [(10, _), (0, _), (2, _), (5, _), (6, _)] (fun g => [(bf, .cells [g.2.2.1].toArray 52 (0, 0)), (wb, .cells [cv, .int .i64 y.fit, qv, .map (some mb)].toArray 148 (0, 0)), (mb, .map g.2.2.2.1 g.2.2.2.2.1)]) (fun g => [g.2.2.2.2.2.2, D]) (f, fnd, fv, es, cl, Mm, D) ⟨by simp, rfl, hfd, hM, hok⟩ ⟨(by first | rfl | (show some (Value.int _ _) = some (Value.int _ _); congr 2; omega)), trivial⟩ ⟨rfl, rfl, rfl, rfl, rfl, trivial⟩ (List.Sublist.refl _) ((fun D0 h => by simp only [List.mem_cons, List.not_mem_nil, or_false, or_self] at h; exact ⟨D, by simp, h ▸ Le.refl _⟩)) ?_
    rintro ⟨i, fnd2, fv2, es2, cl2, M2, Dn⟩ ⟨h1, hin, hf2, hM2, hok2⟩
    simp only at h1 hin hf2 hM2 hok2
    refine C.seq ?_
    refine C.seq ?_
    refine C.region [(false,0),(false,1),(false,2),(false,3),(false,4),(false,5),(false,6)] rfl ?_
    refine L.move rfl rfl rfl trivial ?_
    refine L.fieldAddr rfl Tf.f37_2 rfl rfl trivial ?_
    refine L.loadD1 rfl (k := 2) Tf.a35 rfl hY (by first | simp | assumption) rfl List.not_mem_nil rfl trivial ?_
    refine L.len rfl Try.underlying35 rfl hq rfl rfl trivial ?_
    refine L.move rfl rfl rfl trivial ?_
    refine L.sub rfl rfl rfl (by simp only [inK]; omega) rfl trivial ?_
    refine L.leq rfl rfl rfl rfl trivial ?_
    refine L.nil ?_
    refine C.next ?_
    refine C.condD rfl (fun hc2 => ?_) (fun hc2 => ?_)
    · simp only at hc2
      have hge : i + m < y.claims.length := by omega
      refine C.skip ?_
      refine C.next ?_
      refine C.seq ?_
      refine C.block ?_
      refine C.seq ?_
      refine C.drawS (But.mk [bF]) 3 [false,true,true,true,true,true,true,true,true,true,false] [.fork [0,1,3,6,7,8,9] 2 (.fin [4]) 4 (.fin [2]), .fin [5,10]] Tf.follows (fun _ _ _ h => np_bodyMany (P := Try.prog) (fn := Try.f94) _ _ _ h) (by kernel_rfl) ?_
      refine S.cons ?_
      refine L.planFork [(false,0),(true,1),(true,3),(true,6),(true,7),(true,8),(true,9)] rfl ?_
      refine L.loadD1 rfl (k := 0) Tf.a150 rfl hF (by simp) rfl (But.out (by simp)) rfl trivial ?_
      refine L.move rfl rfl rfl trivial ?_
      refine L.move rfl rfl rfl trivial ?_
      refine L.move rfl rfl rfl trivial ?_
      refine L.add rfl rfl rfl (by simp only [inK]; omega) rfl trivial ?_
      refine L.move rfl rfl rfl trivial ?_
      refine L.sub rfl rfl rfl (by simp only [inK]; omega) rfl trivial ?_
      rw [show (((m + 1 : Nat) : Int) - 1) = (m : Int) by omega]
      refine L.nil (L.forkP true true rfl rfl ?_ ?_)
      · refine L.callO rfl rfl rfl (fun D7 hD7 => CloneI_ok _ out _ (ho.up RI.up (hD7 _ (by simp))) (by omega)) rfl trivial (fun v6 D8 ν6 hD8 ha6 => ?_)
        refine L.nil ?_
        refine L.planFin [(true,4)] rfl ?_
        refine L.buildSlice rfl Try.underlying52 Tf.s3 Tf.z3 rfl rfl rfl rfl (.cons rfl rfl .nil) rfl trivial (fun b901 D901 hD901 hA901 => ?_)
        have hAp := hA901
        refine L.nil ?_
        refine S.fin [(true,5),(false,10)] rfl ?_
        refine L.apart hF (by simp) (fun hap => ?_)
        refine L.append (A := []) (B := [(_, _), (_, _), (_, _)]) rfl Try.underlying52 rfl rfl Tf.s3 Tf.z3 rfl Tf.i3 rfl rfl rfl ha6 (Src.lit hAp) (by simp) rfl (by simp) (by simp [cell1]) (by omega) (Or.inr (fun p hp => But.in_ (by rw [List.mem_singleton]; rintro rfl; exact hap (List.mem_map.2 ⟨p, List.mem_append_left _ hp, rfl⟩)))) rfl trivial (fun v7 ν7 ha7 => ?_)
        have ha7' : Acc 3 1 v7 (out.length + 1) (ints (out ++ [(i : Int)])) ν7 := by simpa [ints] using ha7
        refine L.freezeM (A := []) (B := [(_, _), (_, _), (_, _)]) ha7' (fun k hk => hk) (fun D20 hD20 hF20 => ?_)
        have ho7 := hF20.ints (by simp) (by omega)
        refine L.callM (A := []) (ν := [(_, _), (_, _), (_, _)]) (B := []) rfl rfl rfl rfl (Or.inl rfl) unf_c3 (fun D9 hD9 => ih m (by omega) (i + 1) (out ++ [(i : Int)]) v7 fnd2 fv2 es2 cl2 M2 _ (by simp; omega) (ho7.up RI.up (hD9 _ (by simp))) (hf2.up RI.up (hD9 _ (by simp))) hM2 hok2 (hc.up RCh.up (hD9 _ (by simp))) (hq.up R2.up (hD9 _ (by simp))) (hW.up (hD9 _ (by simp))) (hY.up (hD9 _ (by simp))) (hF.up (hD9 _ (by simp)))) rfl trivial (fun v9 D10 _ hD10 hp9 => ?_)
        obtain ⟨rfl, fv3, es3, cl3, M3, rfl, hf3, hM3, hok3⟩ := hp9
        refine L.nil ?_
        refine S.nil ?_
        refine C.next ?_
        refine C.cond rfl (fun hc3 => ?_) (fun hc3 => ?_)
        · refine C.seq ?_
          refine C.region [(false,0)] rfl ?_
          refine L.assign rfl rfl rfl trivial ?_
          refine L.nil ?_
          refine C.next ?_
          refine C.ret ?_
          refine C.blockRet ?_
          refine C.thenRet ?_
          refine C.thenRet ?_
          refine C.blockRet ?_
          refine C.thenRet ?_
          exact leaveMany (A := []) (ν' := [_, _, _]) (B := []) (vs := [_]) rfl rfl rfl ⟨rfl, trivial⟩ rfl (fun D' hD => ⟨by rw [hin, try_yes hge hc3]; rfl, fv3, es3, cl3, M3, rfl, by rw [hin, try_yes hge hc3]; exact hf3.up RI.up (hD _ (by simp)), hM3, hok3⟩)
        · refine C.skip ?_
          refine C.blockEnd ?_
          refine C.next ?_
          refine C.region [(false,0),(false,1),(false,2)] rfl ?_
          refine L.move rfl rfl rfl trivial ?_
          refine L.add rfl rfl rfl (by simp only [inK]; omega) rfl trivial ?_
          refine L.assign rfl rfl rfl trivial ?_
          refine L.nil ?_
          exact C.againR 22 (i + 1, _, fv3, es3, cl3, M3, D10) ⟨by simp only; omega, by simp only; rw [hin, try_no hge hc3], hf3, hM3, hok3⟩ (by simp only; omega) ⟨(by first | rfl | (show some (Value.int _ _) = some (Value.int _ _); congr 2; omega)), trivial⟩ rfl rfl (List.Sublist.refl _) (fun D0 h => by simp only [List.mem_cons, List.not_mem_nil, or_false] at h; rcases h with h | h; exact ⟨D10, by simp, h ▸ Le.refl _⟩; exact ⟨D, by simp, h ▸ Le.refl _⟩)
      · refine L.buildSlice rfl Try.underlying52 Tf.s3 Tf.z3 rfl rfl rfl rfl (.cons rfl rfl .nil) rfl trivial (fun b901 D901 hD901 hA901 => ?_)
        have hAp := hA901
        refine L.nil ?_
        refine L.planFin [(true,2)] rfl ?_
        refine L.callO rfl rfl rfl (fun D7 hD7 => CloneI_ok _ out _ (ho.up RI.up (hD7 _ (by simp))) (by omega)) rfl trivial (fun v6 D8 ν6 hD8 ha6 => ?_)
        refine L.nil ?_
        refine S.fin [(true,5),(false,10)] rfl ?_
        refine L.apart hF (by simp) (fun hap => ?_)
        refine L.append (A := []) (B := [(_, _), (_, _), (_, _)]) rfl Try.underlying52 rfl rfl Tf.s3 Tf.z3 rfl Tf.i3 rfl rfl rfl ha6 (Src.lit hAp) (by simp) rfl (by simp) (by simp [cell1]) (by omega) (Or.inr (fun p hp => But.in_ (by rw [List.mem_singleton]; rintro rfl; exact hap (List.mem_map.2 ⟨p, List.mem_append_left _ hp, rfl⟩)))) rfl trivial (fun v7 ν7 ha7 => ?_)
        have ha7' : Acc 3 1 v7 (out.length + 1) (ints (out ++ [(i : Int)])) ν7 := by simpa [ints] using ha7
        refine L.freezeM (A := []) (B := [(_, _), (_, _), (_, _)]) ha7' (fun k hk => hk) (fun D20 hD20 hF20 => ?_)
        have ho7 := hF20.ints (by simp) (by omega)
        refine L.callM (A := []) (ν := [(_, _), (_, _), (_, _)]) (B := []) rfl rfl rfl rfl (Or.inl rfl) unf_c3 (fun D9 hD9 => ih m (by omega) (i + 1) (out ++ [(i : Int)]) v7 fnd2 fv2 es2 cl2 M2 _ (by simp; omega) (ho7.up RI.up (hD9 _ (by simp))) (hf2.up RI.up (hD9 _ (by simp))) hM2 hok2 (hc.up RCh.up (hD9 _ (by simp))) (hq.up R2.up (hD9 _ (by simp))) (hW.up (hD9 _ (by simp))) (hY.up (hD9 _ (by simp))) (hF.up (hD9 _ (by simp)))) rfl trivial (fun v9 D10 _ hD10 hp9 => ?_)
        obtain ⟨rfl, fv3, es3, cl3, M3, rfl, hf3, hM3, hok3⟩ := hp9
        refine L.nil ?_
        refine S.nil ?_
        refine C.next ?_
        refine C.cond rfl (fun hc3 => ?_) (fun hc3 => ?_)
        · refine C.seq ?_
          refine C.region [(false,0)] rfl ?_
          refine L.assign rfl rfl rfl trivial ?_
          refine L.nil ?_
          refine C.next ?_
          refine C.ret ?_
          refine C.blockRet ?_
          refine C.thenRet ?_
          refine C.thenRet ?_
          refine C.blockRet ?_
          refine C.thenRet ?_
          exact leaveMany (A := []) (ν' := [_, _, _]) (B := []) (vs := [_]) rfl rfl rfl ⟨rfl, trivial⟩ rfl (fun D' hD => ⟨by rw [hin, try_yes hge hc3]; rfl, fv3, es3, cl3, M3, rfl, by rw [hin, try_yes hge hc3]; exact hf3.up RI.up (hD _ (by simp)), hM3, hok3⟩)
        · refine C.skip ?_
          refine C.blockEnd ?_
          refine C.next ?_
          refine C.region [(false,0),(false,1),(false,2)] rfl ?_
          refine L.move rfl rfl rfl trivial ?_
          refine L.add rfl rfl rfl (by simp only [inK]; omega) rfl trivial ?_
          refine L.assign rfl rfl rfl trivial ?_
          refine L.nil ?_
          exact C.againR 22 (i + 1, _, fv3, es3, cl3, M3, D10) ⟨by simp only; omega, by simp only; rw [hin, try_no hge hc3], hf3, hM3, hok3⟩ (by simp only; omega) ⟨(by first | rfl | (show some (Value.int _ _) = some (Value.int _ _); congr 2; omega)), trivial⟩ rfl rfl (List.Sublist.refl _) (fun D0 h => by simp only [List.mem_cons, List.not_mem_nil, or_false] at h; rcases h with h | h; exact ⟨D10, by simp, h ▸ Le.refl _⟩; exact ⟨D, by simp, h ▸ Le.refl _⟩)
    · simp only at hc2
      have hend := try_end (y := y) (m := m) (out := out) (fnd := fnd2) (show ¬ i + m < y.claims.length by omega)
      refine C.exit ?_
      refine C.thenExit ?_
      refine C.thenExit ?_
      refine C.blockExit ?_
      refine C.next ?_
      refine C.seq ?_
      refine C.region [(false,0)] rfl ?_
      refine L.assign rfl rfl rfl trivial ?_
      refine L.nil ?_
      refine C.next ?_
      refine C.ret ?_
      exact leaveMany (A := []) (ν' := [_, _, _]) (B := []) (vs := [_]) rfl rfl rfl ⟨rfl, trivial⟩ rfl (fun D' hD => ⟨by rw [hin, hend]; rfl, fv2, es2, cl2, M2, rfl, by rw [hin, hend]; exact hf2.up RI.up (hD _ (by simp)), hM2, hok2⟩)
theorem Leave_ok (yv : Value) (y : YardD) (D : Data) (hy : YardIs D yv y) : Fn Try.prog 48 #[yv] D (fun D' v => ∃ lv, v = .tuple #[lv, .int .i64 (leaveV y).2] ∧ Sl D' RI 1 lv (leaveV y).1) := by
  have hy0 := hy
  obtain ⟨cv, qv, rfl, hc, hq⟩ := hy
  have hql := hq.len
  refine enter 29 Try.func48 rfl rfl rfl rfl fun h0 => ?_
  refine C.seq ?_
  refine C.region [(false,0),(false,1),(false,2)] rfl ?_
  refine L.boxD rfl rfl rfl rfl trivial (fun q1 E1 hE1 hB1 => ?_)
  refine L.assign rfl rfl rfl trivial ?_
  refine L.assign rfl rfl rfl trivial ?_
  refine L.nil ?_
  refine C.next ?_
  refine C.scope ?_
  refine C.seq ?_
  refine C.seq ?_
  refine C.region [(false,0),(false,1),(false,2)] rfl ?_
  refine L.loadDW rfl Tf.a37 rfl hB1 (by first | simp | assumption) Tf.s37 List.not_mem_nil rfl trivial ?_
  refine L.callV rfl rfl rfl (fun D1 hD1 => CheckYard_ok _ y _ (hy0.up (hD1 _ (by simp)))) rfl trivial ?_
  refine L.assign rfl rfl rfl trivial ?_
  refine L.nil ?_
  refine C.next ?_
  refine C.seq ?_
  refine C.region [(false,0),(false,1)] rfl ?_
  refine L.move rfl rfl rfl trivial ?_
  refine L.neq rfl rfl rfl rfl trivial ?_
  refine L.nil ?_
  refine C.next ?_
  refine C.condD rfl (fun hc1 => ?_) (fun hc1 => ?_)
  · refine C.seq ?_
    refine C.region [(false,0),(false,1),(false,2)] rfl ?_
    refine L.move rfl rfl rfl trivial ?_
    refine L.assign rfl rfl rfl trivial ?_
    refine L.assign rfl rfl rfl trivial ?_
    refine L.nil ?_
    refine C.next ?_
    refine C.ret ?_
    refine C.thenRet ?_
    refine C.scopeRet ?_
    exact leave (vs := [_, _]) rfl rfl rfl ⟨rfl, rfl, trivial⟩ (fun D hD => leaveR_err hc1)
  · have hf0 : fault y = 0 := by omega
    have hyo := yOk hf0
    have hn7 := hyo.len
    have hc5 := hyo.cls
    refine C.skip ?_
    refine C.next ?_
    refine C.seq ?_
    refine C.region [(false,0),(false,1),(false,2),(false,3)] rfl ?_
    refine L.loadDW rfl Tf.a37 rfl hB1 (by first | simp | assumption) Tf.s37 List.not_mem_nil rfl trivial ?_
    refine L.callO (μ := _) rfl rfl rfl (fun D5 hD5 => work_ok _ y _ _ D5 rfl) rfl trivial (fun v5 D6 _ hD6 hp5 => ?_)
    obtain ⟨wb, mb, rfl, rfl⟩ := hp5
    refine L.alloc rfl Tf.z120 rfl rfl trivial (fun q2 => ?_)
    refine L.store rfl rfl rfl rfl Tf.s120 (Has.head) (by simp) rfl (by simp [cell1]) trivial ?_
    refine L.nil ?_
    refine C.next ?_
    refine C.seq ?_
    refine C.region [(false,0)] rfl ?_
    refine L.alloc rfl Tf.z52 rfl rfl trivial (fun q3 => ?_)
    refine L.nil ?_
    refine C.next ?_
    refine C.seq ?_
    refine C.region [(false,0)] rfl ?_
    refine L.alloc rfl Tf.z150 rfl rfl trivial (fun q4 => ?_)
    refine L.nil ?_
    refine C.next ?_
    refine C.seq ?_
    refine C.region [(false,0),(false,1)] rfl ?_
    refine L.makeFunc rfl rfl rfl rfl trivial ?_
    refine L.store rfl rfl rfl rfl Tf.s150 (Has.head) (by simp) rfl (by simp [cell1]) trivial ?_
    refine L.nil ?_
    refine C.next ?_
    refine C.seq ?_
    refine C.label ?_
    refine C.next ?_
    refine C.seq ?_
    refine C.seq ?_
    refine C.freezeBox (A := []) (b := q4) (cells := [.func (.func 94) #[] #[.pointer (some ⟨q3, 0, none⟩), .pointer (some ⟨q2, 0, none⟩), .pointer (some ⟨q1, 0, none⟩), .pointer (some ⟨q4, 0, none⟩)]]) rfl (fun D20 hD20 hF => ?_)
    refine C.freezeBox (A := [(_, _)]) (b := q2) (cells := [.pointer (some ⟨wb, 0, none⟩)]) rfl (fun D21 hD21 hW => ?_)
    refine C.region [(false,0),(false,1),(false,2),(false,3),(false,4)] rfl ?_
    refine L.fieldAddr rfl Tf.f37_2 rfl rfl trivial ?_
    refine L.loadD1 rfl (k := 2) Tf.a35 rfl hB1 (by first | simp | assumption) rfl List.not_mem_nil rfl trivial ?_
    refine L.len rfl Try.underlying35 rfl hq rfl rfl trivial ?_
    refine L.add rfl rfl rfl (by simp only [inK]; omega) rfl trivial ?_
    refine L.move rfl rfl rfl trivial ?_
    refine L.nil ?_
    refine C.next ?_
    refine C.block ?_
    refine C.loopR (γ := Nat × List Int × Value × Array MapEntry × Nat × List (Ints 8 × Int) × Data) (fun g => y.claims.length + 1 - g.1) (fun g => g.1 ≤ y.claims.length + 1 ∧ tryL (fun m fnd => lvG y m 0 [] fnd) (List.range' 0 (y.claims.length + 1 - 0)) [] = tryL (fun m fnd => lvG y m 0 [] fnd) (List.range' g.1 (y.claims.length + 1 - g.1)) g.2.1 ∧ Sl g.2.2.2.2.2.2 RI 1 g.2.2.1 g.2.1 ∧ MapG kaV g.2.2.2.1 g.2.2.2.2.2.1 ∧ MOk y.chairs.length g.2.2.2.2.2.1) (fun g => [(21, .int .i64 (g.1 : Int))]) [(20, _), (7, _), (6, _), (3, _), (2, _)] (fun g => [(q3, .cells [g.2.2.1].toArray 52 (0, 0)), (wb, .cells [cv, .int .i64 y.fit, qv, .map (some mb)].toArray 148 (0, 0)), (mb, .map g.2.2.2.1 g.2.2.2.2.1)]) (fun g => [g.2.2.2.2.2.2, D21, D20, D6, E1, D]) (0, [], .slice none 0 0, #[], 0, [], D21) ⟨by simp, rfl, Sl.nil, rfl, MOk.nil⟩ ⟨(by first | rfl | (show some (Value.int _ _) = some (Value.int _ _); congr 2; omega)), trivial⟩ ⟨rfl, rfl, rfl, rfl, rfl, trivial⟩ (List.Sublist.refl _) ((fun D0 h => by simp only [List.mem_cons, List.not_mem_nil, or_false] at h; rcases h with h | h | h | h | h | h; exact ⟨D21, by simp, h ▸ Le.refl _⟩; exact ⟨D21, by simp, h ▸ Le.refl _⟩; exact ⟨D20, by simp, h ▸ Le.refl _⟩; exact ⟨D6, by simp, h ▸ Le.refl _⟩; exact ⟨E1, by simp, h ▸ Le.refl _⟩; exact ⟨D, by simp, h ▸ Le.refl _⟩)) ?_
    rintro ⟨m, fnd, fv, es, cl, Mm, Dn⟩ ⟨h1, hin, hfd, hM, hok⟩
    simp only at h1 hin hfd hM hok
    refine C.seq ?_
    refine C.region [(false,0)] rfl ?_
    refine L.lss rfl rfl rfl rfl trivial ?_
    refine L.nil ?_
    refine C.next ?_
    refine C.seq ?_
    refine C.condD rfl (fun hc2 => ?_) (fun hc2 => ?_)
    · simp only at hc2
      have hm : m ≤ y.claims.length := by omega
      refine C.skip ?_
      refine C.next ?_
      refine C.seq ?_
      refine C.block ?_
      refine C.seq ?_
      refine C.region [(false,0),(false,1)] rfl ?_
      refine L.move rfl rfl rfl trivial ?_
      refine L.assign rfl rfl rfl trivial ?_
      refine L.nil ?_
      refine C.next ?_
      refine C.seq ?_
      refine C.region [(false,0),(false,1),(false,2)] rfl ?_
      refine L.loadD1 rfl (k := 0) Tf.a150 rfl hF (by first | simp | assumption) rfl List.not_mem_nil rfl trivial ?_
      refine L.move rfl rfl rfl trivial ?_
      refine L.callM (A := []) (ν := [(_, _), (_, _), (_, _)]) (B := []) rfl rfl rfl rfl (Or.inl rfl) unf_c3 (fun D9 hD9 => try_ok hyo m 0 [] (.slice none 0 0) fnd fv es cl Mm _ (by simp; omega) Sl.nil (hfd.up RI.up (hD9 _ (by simp))) hM hok (hc.up RCh.up (hD9 _ (by simp))) (hq.up R2.up (hD9 _ (by simp))) (hW.up (hD9 _ (by simp))) (hB1.up (hD9 _ (by simp))) (hF.up (hD9 _ (by simp)))) rfl trivial (fun v9 D10 _ hD10 hp9 => ?_)
      obtain ⟨rfl, fv3, es3, cl3, M3, rfl, hf3, hM3, hok3⟩ := hp9
      refine L.nil ?_
      refine C.next ?_
      refine C.cond rfl (fun hc3 => ?_) (fun hc3 => ?_)
      · refine C.exit ?_
        refine C.blockPass rfl ?_
        refine C.thenExit ?_
        refine C.thenExit ?_
        refine C.blockExit ?_
        refine C.next ?_
        refine C.seq ?_
        refine C.region [(false,0),(false,1),(false,2)] rfl ?_
        refine L.loadB1 rfl Tf.a52 rfl (List.Mem.head _) rfl List.not_mem_nil rfl trivial ?_
        refine L.assign rfl rfl rfl trivial ?_
        refine L.assign rfl rfl rfl trivial ?_
        refine L.nil ?_
        refine C.next ?_
        refine C.ret ?_
        refine C.scopeRet ?_
        exact leave (vs := [_, _]) rfl rfl rfl ⟨rfl, rfl, trivial⟩ (fun D hD => leaveR_ok hf0 (by rw [hin, tryS_yes hm hc3]) (hf3.up RI.up (hD _ (by simp))))
      · refine C.skip ?_
        refine C.blockEnd ?_
        refine C.next ?_
        refine C.region [(false,0),(false,1)] rfl ?_
        refine L.add rfl rfl rfl (by simp only [inK]; omega) rfl trivial ?_
        refine L.move rfl rfl rfl trivial ?_
        refine L.nil ?_
        exact C.againR 9 (m + 1, _, fv3, es3, cl3, M3, D10) ⟨by simp only; omega, by simp only; rw [hin, tryS_no hm hc3], hf3, hM3, hok3⟩ (by simp only; omega) ⟨(by first | rfl | (show some (Value.int _ _) = some (Value.int _ _); congr 2; omega)), trivial⟩ rfl rfl (List.Sublist.refl _) (fun D0 h => by simp only [List.mem_cons, List.not_mem_nil, or_false] at h; rcases h with h | h | h | h | h | h; exact ⟨D10, by simp, h ▸ Le.refl _⟩; exact ⟨D21, by simp, h ▸ Le.refl _⟩; exact ⟨D20, by simp, h ▸ Le.refl _⟩; exact ⟨D6, by simp, h ▸ Le.refl _⟩; exact ⟨E1, by simp, h ▸ Le.refl _⟩; exact ⟨D, by simp, h ▸ Le.refl _⟩)
    · simp only at hc2
      obtain rfl : m = y.claims.length + 1 := by omega
      rw [Nat.sub_self] at hin
      refine C.exit ?_
      refine C.thenExit ?_
      refine C.thenExit ?_
      refine C.blockExit ?_
      refine C.next ?_
      refine C.seq ?_
      refine C.region [(false,0),(false,1),(false,2)] rfl ?_
      refine L.loadB1 rfl Tf.a52 rfl (List.Mem.head _) rfl List.not_mem_nil rfl trivial ?_
      refine L.assign rfl rfl rfl trivial ?_
      refine L.assign rfl rfl rfl trivial ?_
      refine L.nil ?_
      refine C.next ?_
      refine C.ret ?_
      refine C.scopeRet ?_
      exact leave (vs := [_, _]) rfl rfl rfl ⟨rfl, rfl, trivial⟩ (fun D hD => leaveR_ok hf0 (by rw [hin]; rfl) (hfd.up RI.up (hD _ (by simp))))
end Go.Fs
