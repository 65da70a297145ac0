/- Walks: pairings that are sure. -/
import Derived.Test.YtjhdcelmgfajbaaW12
namespace Go.Fs
open Go.Proofs
open C7
theorem prC_cell1 (l : List (Int × Int)) : ∀ u ∈ prC l, cell1 u = true := by
  intro u hu
  unfold prC at hu
  rw [List.mem_flatMap] at hu
  obtain ⟨p, _, hu⟩ := hu
  simp only [List.mem_cons, List.not_mem_nil, or_false] at hu
  rcases hu with rfl | rfl <;> rfl
theorem unf_cc {b1 b2 t1 t2 : Nat} {cs ds : List Value} : ∀ p ∈ [(b1, Obj.cells cs.toArray t1 (0, 0)), (b2, .cells ds.toArray t2 (0, 0))], unfrozen p.2 := by
  intro p hp
  simp only [List.mem_cons, List.not_mem_nil, or_false] at hp
  rcases hp with rfl | rfl <;> rfl
/-- Of which number a pairing is sure. -/
def sureZ (scs : List Sc) (l : List (Int × Int)) : Int := match scs with
  | [] => 0
  | s :: _ => (scs.map fun s => (makesN s l : Int)).foldl min (makesN s l : Int)
theorem sureZ_eq {scs : List Sc} {l : List (Int × Int)} {s0 : Sc} (h : scs[0]? = some s0) : (scs.map fun s => (makesN s l : Int)).foldl min (makesN s0 l : Int) = sureZ scs l := by
  cases scs with
  | nil => simp at h
  | cons s r => obtain rfl : s = s0 := by simpa using h
                rfl
theorem sure_step {scs : List Sc} {l : List (Int × Int)} {k : Nat} {s : Sc} {a : Int} (h : scs[k]? = some s) : ((scs.take (k + 1)).map fun s => (makesN s l : Int)).foldl min a = min (((scs.take k).map fun s => (makesN s l : Int)).foldl min a) (makesN s l : Int) := by
  rw [List.take_add_one, h, Option.toList_some, List.map_append, List.foldl_append]; rfl
def nearB (y : YardD) (a b : Nat) : Bool := match y.chairs[a]?, y.chairs[b]? with
  | some x, some z => nearC y.fit x z
  | _, _ => false
/-- All pairings that are tried, from chair f on; w: those that have a partner (by bits). -/
def lvs (y : YardD) : Nat → Nat → Nat → List (Int × Int) → List (List (Int × Int))
  | 0, _, _, l => [l]
  | k + 1, f, w, l => lvs y k (f + 1) w l ++ (if w.testBit f = true then [] else ((List.range y.chairs.length).filter fun b => decide (f < b) && (!w.testBit b && nearB y f b)).flatMap fun (b : Nat) => lvs y k (f + 1) (w ||| 2 ^ b) (l ++ [((f : Int), (b : Int))]))
def upd (scs : List Sc) (st : List (Int × Int) × Int) (l : List (Int × Int)) : List (Int × Int) × Int := if st.2 < sureZ scs l then (l, sureZ scs l) else st
theorem lvs_zero {y : YardD} {scs : List Sc} {f w : Nat} {l : List (Int × Int)} {st : List (Int × Int) × Int} : (lvs y 0 f w l).foldl (upd scs) st = upd scs st l := rfl
theorem upd_yes {scs : List Sc} {l best : List (Int × Int)} {many : Int} (h : many < sureZ scs l) : upd scs (best, many) l = (l, sureZ scs l) := if_pos h
theorem upd_no {scs : List Sc} {l best : List (Int × Int)} {many : Int} (h : ¬ many < sureZ scs l) : upd scs (best, many) l = (best, many) := if_neg h
def partB (y : YardD) (k f w : Nat) (l : List (Int × Int)) (b : Nat) : List (List (Int × Int)) := if w.testBit f = true then [] else ((List.range b).filter fun b => decide (f < b) && (!w.testBit b && nearB y f b)).flatMap fun (b : Nat) => lvs y k (f + 1) (w ||| 2 ^ b) (l ++ [((f : Int), (b : Int))])
def upB (y : YardD) (scs : List Sc) (k f w : Nat) (l best : List (Int × Int)) (many : Int) (b : Nat) : List (Int × Int) × Int := (lvs y k (f + 1) w l ++ partB y k f w l b).foldl (upd scs) (best, many)
theorem upB_start {y : YardD} {scs : List Sc} {k f w : Nat} {l best : List (Int × Int)} {many : Int} : upB y scs k f w l best many (f + 1) = (lvs y k (f + 1) w l).foldl (upd scs) (best, many) := by
  have : partB y k f w l (f + 1) = [] := by
    unfold partB
    split
    · rfl
    · rw [List.filter_eq_nil_iff.2 fun b hb => by have := List.mem_range.1 hb; simp; omega]; rfl
  unfold upB; rw [this, List.append_nil]
theorem upB_yes {y : YardD} {scs : List Sc} {k f w b : Nat} {l best : List (Int × Int)} {many : Int} (hb : f < b) (hbit : w.testBit f = false) (hs : (!w.testBit b && nearB y f b) = true) :
    upB y scs k f w l best many (b + 1) = (lvs y k (f + 1) (w ||| 2 ^ b) (l ++ [((f : Int), (b : Int))])).foldl (upd scs) ((upB y scs k f w l best many b).1, (upB y scs k f w l best many b).2) := by
  have : partB y k f w l (b + 1) = partB y k f w l b ++ lvs y k (f + 1) (w ||| 2 ^ b) (l ++ [((f : Int), (b : Int))]) := by
    unfold partB
    rw [if_neg (by rw [hbit]; simp), if_neg (by rw [hbit]; simp), List.range_succ, List.filter_append, List.flatMap_append]
    simp [hb, hs]
  unfold upB; rw [this, ← List.append_assoc, List.foldl_append]
theorem upB_no {y : YardD} {scs : List Sc} {k f w b : Nat} {l best : List (Int × Int)} {many : Int} (hs : (!w.testBit b && nearB y f b) = false) : upB y scs k f w l best many (b + 1) = upB y scs k f w l best many b := by
  have : partB y k f w l (b + 1) = partB y k f w l b := by
    unfold partB
    split
    · rfl
    · rw [List.range_succ, List.filter_append, List.flatMap_append]; simp [hs]
  unfold upB; rw [this]
theorem upB_end {y : YardD} {scs : List Sc} {k f w b : Nat} {l best : List (Int × Int)} {many : Int} (_h1 : f + 1 ≤ b) (h : (decide ((b : Int) < (y.chairs.length : Int)) && decide (((w >>> f : Nat) : Int) % 2 = 0)) = false) : (lvs y (k + 1) f w l).foldl (upd scs) (best, many) = upB y scs k f w l best many b := by
  have e : lvs y (k + 1) f w l = lvs y k (f + 1) w l ++ partB y k f w l y.chairs.length := rfl
  rw [e]; unfold upB
  by_cases hb : w.testBit f = true
  · have key : ∀ b, partB y k f w l b = [] := fun b => by unfold partB; rw [if_pos hb]
    rw [key, key]
  · have h' : ¬ (b : Int) < (y.chairs.length : Int) := by
      intro h2
      rw [bit_mod, if_neg hb] at h
      simp at h; omega
    have key : ∀ j, partB y k f w l (y.chairs.length + j) = partB y k f w l y.chairs.length := by
      intro j
      induction j with
      | zero => rfl
      | succ j ih =>
        rw [← ih]
        unfold partB
        rw [if_neg hb, if_neg hb, ← Nat.add_assoc, List.range_succ, List.filter_append, List.flatMap_append]
        have : nearB y f (y.chairs.length + j) = false := by
          unfold nearB
          rw [List.getElem?_eq_none (show y.chairs.length ≤ y.chairs.length + j by omega)]
          cases y.chairs[f]? <;> rfl
        simp [this]
    have := key (b - y.chairs.length)
    rw [show y.chairs.length + (b - y.chairs.length) = b by omega] at this
    rw [this]
theorem add_go {b n w f : Nat} (h : (decide ((b : Int) < (n : Int)) && decide (((w >>> f : Nat) : Int) % 2 = 0)) = true) : b < n ∧ w.testBit f = false := by
  rw [Bool.and_eq_true, decide_eq_true_eq, decide_eq_true_eq, bit_mod] at h
  refine ⟨by omega, ?_⟩
  cases e : w.testBit f with
  | false => rfl
  | true => rw [if_pos e] at h; omega
theorem add_sel {y : YardD} {w f b : Nat} {x z : Ch} {r : Bool} (hx : y.chairs[f]? = some x) (hz : y.chairs[b]? = some z) (h : (decide (((w >>> b : Nat) : Int) % 2 = 0) && nearC y.fit x z) = r) : (!w.testBit b && nearB y f b) = r := by
  rw [← h, bit_mod]
  unfold nearB; rw [hx, hz]
  cases w.testBit b <;> simp
theorem prOk_snoc {l : List (Int × Int)} {a b : Nat} (h : PrOk l) (ha : a < 7) (hb : b < 7) : PrOk (l ++ [((a : Int), (b : Int))]) := fun p hp => by
  rcases List.mem_append.1 hp with hp | hp
  · exact h p hp
  · simp only [List.mem_singleton] at hp; exact ⟨a, b, hp, ha, hb⟩
theorem CloneI_ok (sv : Value) (xs : List Int) (D : Data) (hS : Sl D RI 1 sv xs) (hl : xs.length ≤ 10000000) : FnO Try.prog 95 #[sv] D (fun _ v ν => Acc 3 1 v xs.length (ints xs) ν) := by
  obtain ⟨a0, c0, rfl⟩ := hS.shape
  refine enterO 8 Try.func95 rfl rfl rfl rfl fun h0 => ?_
  refine C.seq ?_
  refine C.region [(false,0)] rfl ?_
  refine L.assign rfl rfl rfl trivial ?_
  refine L.nil ?_
  refine C.next ?_
  refine C.seq ?_
  refine C.seq ?_
  refine C.region [(false,0),(false,1)] rfl ?_
  refine L.move rfl rfl rfl trivial ?_
  refine L.eqlNil rfl Try.underlying52 rfl rfl rfl trivial ?_
  refine L.nil ?_
  refine C.next ?_
  refine C.cond rfl (fun hc1 => ?_) (fun hc1 => ?_)
  · obtain rfl : a0 = none := by simpa using hc1
    obtain rfl := sl_none hS
    refine C.seq ?_
    refine C.region [(false,0)] rfl ?_
    refine L.assign rfl rfl rfl trivial ?_
    refine L.nil ?_
    refine C.next ?_
    refine C.ret ?_
    refine C.thenRet ?_
    exact leave (vs := [_]) rfl rfl rfl ⟨rfl, trivial⟩ (fun D' hD => Acc.nil)
  · refine C.skip ?_
    refine C.next ?_
    refine C.seq ?_
    refine C.region [(false,0),(false,1),(false,2),(false,3)] rfl ?_
    refine L.buildSlice rfl Try.underlying52 Tf.s3 Tf.z3 rfl rfl rfl rfl .nil rfl trivial (fun b901 D901 hD901 hA901 => ?_)
    refine L.move rfl rfl rfl trivial ?_
    refine L.append (A := []) (ν := []) (B := []) rfl Try.underlying52 rfl rfl Tf.s3 Tf.z3 rfl Tf.i3 rfl rfl rfl Acc.nil (Src.ints hS) (by simp) (by simp) rfl (ints_cell1 _) (by omega) (Or.inl rfl) rfl trivial (fun v1 ν1 ha1 => ?_)
    refine L.assign rfl rfl rfl trivial ?_
    refine L.nil ?_
    refine C.next ?_
    refine C.ret ?_
    exact leave (vs := [_]) rfl rfl rfl ⟨rfl, trivial⟩ (fun D' hD => by show Acc 3 1 v1 _ _ _; simpa [prC] using ha1)
theorem CloneP_ok (sv : Value) (xs : List (Int × Int)) (D : Data) (hS : Sl D R2 2 sv xs) (hl : xs.length ≤ 10000000) : FnO Try.prog 91 #[sv] D (fun _ v ν => Acc 111 2 v xs.length (prC xs) ν) := by
  obtain ⟨a0, c0, rfl⟩ := hS.shape
  refine enterO 8 Try.func91 rfl rfl rfl rfl fun h0 => ?_
  refine C.seq ?_
  refine C.region [(false,0)] rfl ?_
  refine L.assign rfl rfl rfl trivial ?_
  refine L.nil ?_
  refine C.next ?_
  refine C.seq ?_
  refine C.seq ?_
  refine C.region [(false,0),(false,1)] rfl ?_
  refine L.move rfl rfl rfl trivial ?_
  refine L.eqlNil rfl Try.underlying30 rfl rfl rfl trivial ?_
  refine L.nil ?_
  refine C.next ?_
  refine C.cond rfl (fun hc1 => ?_) (fun hc1 => ?_)
  · obtain rfl : a0 = none := by simpa using hc1
    obtain rfl := sl_none hS
    refine C.seq ?_
    refine C.region [(false,0)] rfl ?_
    refine L.assign rfl rfl rfl trivial ?_
    refine L.nil ?_
    refine C.next ?_
    refine C.ret ?_
    refine C.thenRet ?_
    exact leave (vs := [_]) rfl rfl rfl ⟨rfl, trivial⟩ (fun D' hD => Acc.nil)
  · refine C.skip ?_
    refine C.next ?_
    refine C.seq ?_
    refine C.region [(false,0),(false,1),(false,2),(false,3)] rfl ?_
    refine L.buildSlice rfl Try.underlying30 Tf.s111 Tf.z111 rfl rfl rfl rfl .nil rfl trivial (fun b901 D901 hD901 hA901 => ?_)
    refine L.move rfl rfl rfl trivial ?_
    refine L.append (A := []) (ν := []) (B := []) rfl Try.underlying30 rfl rfl Tf.s111 Tf.z111 rfl Tf.i111 rfl rfl rfl Acc.nil (Src.of (cells := fun p : Int × Int => [.int .i64 p.1, .int .i64 p.2]) (fun _ _ _ h => h) (fun _ => rfl) hS) (by simp) (prC_length xs) rfl (prC_cell1 xs) (by omega) (Or.inl rfl) rfl trivial (fun v1 ν1 ha1 => ?_)
    refine L.assign rfl rfl rfl trivial ?_
    refine L.nil ?_
    refine C.next ?_
    refine C.ret ?_
    exact leave (vs := [_]) rfl rfl rfl ⟨rfl, trivial⟩ (fun D' hD => by show Acc 111 2 v1 _ _ _; simpa [prC] using ha1)
theorem sure_ok (sv lv : Value) (scs : List Sc) (l : List (Int × Int)) (n : Nat) (D : Data) (hS : Sl D RSc 9 sv scs) (hl : Sl D R2 2 lv l) (hne : scs ≠ []) (hsc : ∀ s ∈ scs, ScOk n s) (hp : PrOk l) (hl3 : l.length ≤ 1000) : Fn Try.prog 90 #[sv, lv] D (fun _ v => v = .int .i64 (sureZ scs l)) := by
  have hsl := hS.len
  obtain ⟨s0, hs0⟩ : ∃ s, scs[0]? = some s := ⟨scs[0]'(List.length_pos_iff.2 hne), List.getElem?_eq_getElem _⟩
  have ho0 := hsc s0 (List.mem_of_getElem? hs0)
  refine enter 27 Try.func90 rfl rfl rfl rfl fun h0 => ?_
  refine C.seq ?_
  refine C.region [(false,0)] rfl ?_
  refine L.assign rfl rfl rfl trivial ?_
  refine L.nil ?_
  refine C.next ?_
  refine C.seq ?_
  refine C.region [(false,0),(false,1),(false,2),(false,3),(false,4),(false,5)] rfl ?_
  refine L.move rfl rfl rfl trivial ?_
  refine L.indexS rfl Try.underlying135 Tf.s126 rfl hS rfl (by omega) hs0 rfl trivial (fun b1 o1 cs1 hr1 hcl1 hA1 => ?_)
  obtain rfl : cs1 = ints (scI _) := hr1
  refine L.loadDW rfl Tf.a126 rfl hA1 (by first | simp | assumption) (by rw [ints_length, scI_len _ ho0.len]; exact Tf.s126) List.not_mem_nil rfl trivial ?_
  refine L.move rfl rfl rfl trivial ?_
  refine L.callV rfl rfl rfl (fun D1 hD1 => makes_ok s0 _ l ho0.row ho0.whole hp hl3 _ (hl.up R2.up (hD1 _ (by simp))) ho0.len) rfl trivial ?_
  refine L.assign rfl rfl rfl trivial ?_
  refine L.nil ?_
  refine C.next ?_
  refine C.seq ?_
  refine C.seq ?_
  refine C.region [(false,0),(false,1),(false,2)] rfl ?_
  refine L.move rfl rfl rfl trivial ?_
  refine L.len rfl Try.underlying135 rfl hS rfl rfl trivial ?_
  refine L.move rfl rfl rfl trivial ?_
  refine L.nil ?_
  refine C.next ?_
  refine C.block ?_
  refine C.loopC (γ := Nat) (fun k => scs.length - k) (fun k => k ≤ scs.length) (fun k => [(15, .int .i64 (k : Int)), (5, .int .i64 (((scs.take k).map fun s => (makesN s l : Int)).foldl min (makesN s0 l : Int)))]) [(14, _), (13, _), (4, _), (1, _)] (fun k => [D]) 0 (by omega) ⟨(by first | rfl | (show some (Value.int _ _) = some (Value.int _ _); congr 2; omega)), (by first | rfl | (show some (Value.int _ _) = some (Value.int _ _); congr 2; omega)), trivial⟩ ⟨rfl, rfl, rfl, rfl, trivial⟩ (ds_same) ?_
  rintro k h1
  refine C.seq ?_
  refine C.region [(false,0)] rfl ?_
  refine L.lss rfl rfl rfl rfl trivial ?_
  refine L.nil ?_
  refine C.next ?_
  refine C.seq ?_
  refine C.condD rfl (fun hc1 => ?_) (fun hc1 => ?_)
  · have hk : k < scs.length := by omega
    obtain ⟨s1, hs1⟩ : ∃ s, scs[k]? = some s := ⟨_, List.getElem?_eq_getElem hk⟩
    have ho1 := hsc s1 (List.mem_of_getElem? hs1)
    refine C.skip ?_
    refine C.next ?_
    refine C.seq ?_
    refine C.block ?_
    refine C.seq ?_
    refine C.region [(false,0),(false,1),(false,2),(false,3)] rfl ?_
    refine L.indexS rfl Try.underlying135 Tf.s126 rfl hS rfl (by omega) hs1 rfl trivial (fun b2 o2 cs2 hr2 hcl2 hA2 => ?_)
    obtain rfl : cs2 = ints (scI _) := hr2
    refine L.loadDW rfl Tf.a126 rfl hA2 (by first | simp | assumption) (by rw [ints_length, scI_len _ ho1.len]; exact Tf.s126) List.not_mem_nil rfl trivial ?_
    refine L.alloc rfl Tf.z126 rfl rfl trivial (fun q1 => ?_)
    refine L.storeW rfl rfl rfl rfl Tf.s126 (by rw [ints_length, scI_len _ ho1.len]) (by rfl) .head (ints_cell1 _) trivial ?_
    refine L.nil ?_
    refine C.next ?_
    refine C.region [(false,0),(false,1),(false,2),(false,3),(false,4),(false,5),(false,6)] rfl ?_
    refine L.move rfl rfl rfl trivial ?_
    refine L.loadBW (vs := ints (scI s1)) rfl Tf.a126 rfl (List.Mem.head _) (by rw [show (ints (scI s1)).length = 9 by rw [ints_length, scI_len _ ho1.len]]; exact Tf.s126) List.not_mem_nil rfl trivial ?_
    refine L.move rfl rfl rfl trivial ?_
    refine L.callV rfl rfl rfl (fun D2 hD2 => makes_ok s1 _ l ho1.row ho1.whole hp hl3 _ (hl.up R2.up (hD2 _ (by simp))) ho1.len) rfl trivial ?_
    refine L.buildSlice rfl Try.underlying52 Tf.s3 Tf.z3 rfl rfl rfl rfl (.cons rfl rfl (.cons rfl rfl .nil)) rfl trivial (fun b901 D901 hD901 hA901 => ?_)
    have hS901 := Sl.ofInts (l := [_, _]) (n := 2) (cap := 2) hA901 rfl (by omega) (by omega)
    refine L.callV rfl rfl rfl (fun D3 hD3 => minimum_ok _ _ [_] _ (hS901.up RI.up (hD3 _ (by simp)))) rfl trivial ?_
    refine L.assign rfl rfl rfl trivial ?_
    refine L.nil ?_
    refine C.blockEnd ?_
    refine C.next ?_
    refine C.region [(false,0),(false,1)] rfl ?_
    refine L.add rfl rfl rfl (by simp only [inK]; omega) rfl trivial ?_
    refine L.move rfl rfl rfl trivial ?_
    refine L.nil ?_
    exact C.againR 15 (k + 1) (by omega) (by omega) ⟨(by first | rfl | (show some (Value.int _ _) = some (Value.int _ _); congr 2; omega)), (by rw [sure_step hs1]; rfl), trivial⟩ rfl rfl (List.Sublist.cons _ (List.Sublist.refl _)) (fun D h => ⟨D, List.Mem.tail _ (h), Le.refl D⟩)
  · obtain rfl : k = scs.length := by omega
    rw [List.take_length]
    refine C.exit ?_
    refine C.thenExit ?_
    refine C.thenExit ?_
    refine C.blockExit ?_
    refine C.next ?_
    refine C.seq ?_
    refine C.region [(false,0),(false,1)] rfl ?_
    refine L.move rfl rfl rfl trivial ?_
    refine L.assign rfl rfl rfl trivial ?_
    refine L.nil ?_
    refine C.next ?_
    refine C.ret ?_
    exact leave (vs := [_]) rfl rfl rfl ⟨rfl, trivial⟩ (fun D hD => by show Value.int _ _ = _; rw [sureZ_eq hs0])
theorem add_ok {y : YardD} {scs : List Sc} {cv qv sv : Value} {bY bV bF bm bp : Nat} (hyo : YOk y) (hne : scs ≠ []) (hsc : ∀ s ∈ scs, ScOk y.chairs.length s) :
    ∀ (kk f : Nat), f + kk = y.chairs.length → ∀ (w : Nat) (l : List (Int × Int)) (lv : Value) (best : List (Int × Int)) (many : Int) (pv : Value) (D : Data), w < 128 → PrOk l → l.length ≤ f → Sl D R2 2 lv l → Sl D R2 2 pv best → Sl D RCh 4 cv y.chairs → Sl D R2 2 qv y.claims → At D bY 0 [cv, .int .i64 y.fit, qv] → At D bV 0 [sv] → Sl D RSc 9 sv scs → At D bF 0 [.func (.func 89) #[] #[.pointer (some ⟨bY, 0, none⟩), .pointer (some ⟨bV, 0, none⟩), .pointer (some ⟨bm, 0, none⟩), .pointer (some ⟨bp, 0, none⟩), .pointer (some ⟨bF, 0, none⟩)]] →
    FnM Try.prog 89 [lv, .int .i64 (f : Int), .int .i64 (w : Int), .pointer (some ⟨bY, 0, none⟩), .pointer (some ⟨bV, 0, none⟩), .pointer (some ⟨bm, 0, none⟩), .pointer (some ⟨bp, 0, none⟩), .pointer (some ⟨bF, 0, none⟩)] D [(bm, .cells [.int .i64 many].toArray 3 (0, 0)), (bp, .cells [pv].toArray 30 (0, 0))] (fun D' _ ν' => ∃ pv', ν' = [(bm, .cells [.int .i64 ((lvs y kk f w l).foldl (upd scs) (best, many)).2].toArray 3 (0, 0)), (bp, .cells [pv'].toArray 30 (0, 0))] ∧ Sl D' R2 2 pv' ((lvs y kk f w l).foldl (upd scs) (best, many)).1) := by
  intro kk
  induction kk using Nat.strongRecOn with
  | _ kk ih =>
  intro f hf w l lv best many pv D hw hp hlf hl hb hc hq hY hV hS hF
  have hn7 := hyo.len
  have hcl := hc.len
  refine enterMany 75 Try.func89 rfl rfl rfl rfl (fun h0 hwl hwn => ?_)
  refine C.seq ?_
  refine C.seq ?_
  refine C.region [(false,0),(false,1),(false,2),(false,3),(false,4)] rfl ?_
  refine L.move rfl rfl rfl trivial ?_
  refine L.fieldAddr rfl Tf.f37_0 rfl rfl trivial ?_
  refine L.loadD1 rfl (k := 0) Tf.a34 rfl hY (by first | simp | assumption) rfl List.not_mem_nil rfl trivial ?_
  refine L.len rfl Try.underlying34 rfl hc rfl rfl trivial ?_
  refine L.eql rfl rfl rfl rfl trivial ?_
  refine L.nil ?_
  refine C.next ?_
  refine C.condD rfl (fun hc1 => ?_) (fun hc1 => ?_)
  · obtain rfl : kk = 0 := by omega
    refine C.seq ?_
    refine C.seq ?_
    refine C.region [(false,0),(false,1),(false,2),(false,3)] rfl ?_
    refine L.loadD1 rfl (k := 0) Tf.a135 rfl hV (by first | simp | assumption) rfl List.not_mem_nil rfl trivial ?_
    refine L.move rfl rfl rfl trivial ?_
    refine L.callV rfl rfl rfl (fun D1 hD1 => sure_ok _ _ scs l y.chairs.length _ (hS.up RSc.up (hD1 _ (by simp))) (hl.up R2.up (hD1 _ (by simp))) hne hsc hp (by omega)) rfl trivial ?_
    refine L.assign rfl rfl rfl trivial ?_
    refine L.nil ?_
    refine C.next ?_
    refine C.seq ?_
    refine C.region [(false,0),(false,1),(false,2)] rfl ?_
    refine L.move rfl rfl rfl trivial ?_
    refine L.loadB1 rfl Tf.a3 rfl (List.Mem.head _) rfl List.not_mem_nil rfl trivial ?_
    refine L.gtr rfl rfl rfl rfl trivial ?_
    refine L.nil ?_
    refine C.next ?_
    refine C.condD rfl (fun hc2 => ?_) (fun hc2 => ?_)
    · refine C.region [(false,0),(false,1),(false,2),(false,3),(false,4)] rfl ?_
      refine L.move rfl rfl rfl trivial ?_
      refine L.callO rfl rfl rfl (fun D7 hD7 => CloneP_ok _ l _ (hl.up R2.up (hD7 _ (by simp))) (by omega)) rfl trivial (fun v6 D8 ν6 hD8 ha6 => ?_)
      refine L.freezeM (A := []) (B := [(_, _), (_, _)]) ha6 (fun k hk => hk) (fun D20 hD20 hF20 => ?_)
      have hl7 := hF20.prs rfl (by omega)
      obtain ⟨a6, c6, rfl⟩ := ha6.shape
      refine L.move rfl rfl rfl trivial ?_
      refine L.store rfl rfl rfl rfl Tf.s30 (.tail .head) (by simp) rfl (by simp [cell1]) trivial ?_
      refine L.store rfl rfl rfl rfl Tf.s3 (Has.head) (by simp) rfl (by simp [cell1]) trivial ?_
      refine L.nil ?_
      refine C.next ?_
      refine C.ret ?_
      refine C.thenRet ?_
      exact leaveMany (A := []) (ν' := [_, _]) (B := []) (vs := []) rfl rfl rfl trivial rfl (fun D' hD => ⟨.slice a6 l.length c6, by rw [lvs_zero, upd_yes hc2]; rfl, by rw [lvs_zero, upd_yes hc2]; exact hl7.up R2.up (hD _ (by simp))⟩)
    · refine C.skip ?_
      refine C.next ?_
      refine C.ret ?_
      refine C.thenRet ?_
      exact leaveMany (A := []) (ν' := [_, _]) (B := []) (vs := []) rfl rfl rfl trivial rfl (fun D' hD => ⟨pv, by rw [lvs_zero, upd_no hc2], by rw [lvs_zero, upd_no hc2]; exact hb.up R2.up (hD _ (by simp))⟩)
  · obtain ⟨k, rfl⟩ : ∃ k, kk = k + 1 := ⟨kk - 1, by omega⟩
    refine C.skip ?_
    refine C.next ?_
    refine C.seq ?_
    refine C.region [(false,0),(false,1),(false,2),(false,3),(false,4),(false,5)] rfl ?_
    refine L.loadD1 rfl (k := 0) Tf.a142 rfl hF (by first | simp | assumption) rfl List.not_mem_nil rfl trivial ?_
    refine L.move rfl rfl rfl trivial ?_
    refine L.move rfl rfl rfl trivial ?_
    refine L.add rfl rfl rfl (by simp only [inK]; omega) rfl trivial ?_
    refine L.move rfl rfl rfl trivial ?_
    refine L.callM (A := []) (ν := [(_, _), (_, _)]) (B := []) rfl rfl rfl rfl (Or.inl rfl) unf_cc (fun D5 hD5 => ih k (by omega) (f + 1) (by omega) w l lv best many pv D5 hw hp (by omega) (hl.up R2.up (hD5 _ (by simp))) (hb.up R2.up (hD5 _ (by simp))) (hc.up RCh.up (hD5 _ (by simp))) (hq.up R2.up (hD5 _ (by simp))) (hY.up (hD5 _ (by simp))) (hV.up (hD5 _ (by simp))) (hS.up RSc.up (hD5 _ (by simp))) (hF.up (hD5 _ (by simp)))) rfl trivial (fun v5 D6 _ hD6 hp5 => ?_)
    obtain ⟨pv1, rfl, hpv1⟩ := hp5
    refine L.nil ?_
    refine C.next ?_
    refine C.seq ?_
    refine C.region [(false,0),(false,1),(false,2)] rfl ?_
    refine L.move rfl rfl rfl trivial ?_
    refine L.add rfl rfl rfl (by simp only [inK]; omega) rfl trivial ?_
    refine L.assign rfl rfl rfl trivial ?_
    refine L.nil ?_
    refine C.next ?_
    refine C.block ?_
    refine C.loopR (γ := Nat × Value × Data) (fun g => y.chairs.length - g.1) (fun g => f + 1 ≤ g.1 ∧ Sl g.2.2 R2 2 g.2.1 (upB y scs k f w l best many g.1).1) (fun g => [(12, .int .i64 (g.1 : Int))]) [(0, _), (1, _), (2, _), (3, _), (7, _)] (fun g => [(bm, .cells [.int .i64 (upB y scs k f w l best many g.1).2].toArray 3 (0, 0)), (bp, .cells [g.2.1].toArray 30 (0, 0))]) (fun g => [g.2.2, D]) (f + 1, pv1, D6) ⟨by simp, by simp only; rw [upB_start]; exact hpv1⟩ ⟨(by first | rfl | (show some (Value.int _ _) = some (Value.int _ _); congr 2; omega)), trivial⟩ ⟨rfl, rfl, rfl, rfl, rfl, trivial⟩ ((by rw [upB_start]; exact List.Sublist.refl _)) ((fun D0 h => by simp only [List.mem_cons, List.not_mem_nil, or_false] at h; rcases h with h | h; exact ⟨D6, by simp, h ▸ Le.refl _⟩; exact ⟨D, by simp, h ▸ Le.refl _⟩)) ?_
    rintro ⟨b, pv2, Dn⟩ ⟨h1, hpv2⟩
    simp only at h1 hpv2
    refine C.seq ?_
    refine C.seq ?_
    refine C.region [(false,0),(false,1),(false,2),(false,3),(false,4),(false,5),(false,6),(false,7),(false,8),(false,9),(false,10),(false,11)] rfl ?_
    refine L.move rfl rfl rfl trivial ?_
    refine L.fieldAddr rfl Tf.f37_0 rfl rfl trivial ?_
    refine L.loadD1 rfl (k := 0) Tf.a34 rfl hY (by first | simp | assumption) rfl List.not_mem_nil rfl trivial ?_
    refine L.len rfl Try.underlying34 rfl hc rfl rfl trivial ?_
    refine L.lss rfl rfl rfl rfl trivial ?_
    refine L.move rfl rfl rfl trivial ?_
    refine' L.and [(false,6),(false,7),(false,8),(false,9),(false,10),(false,11)] [] (s := 40) (p := 46) rfl rfl (fun hg1 => ?_) (fun hg1 => ?_) ?_
    rotate_left
    · refine L.move rfl rfl rfl ⟨_, rfl, rfl⟩ ?_
      refine L.move rfl rfl rfl ⟨_, rfl, rfl⟩ ?_
      refine L.shrN rfl rfl rfl (by omega) rfl ⟨_, rfl, rfl⟩ ?_
      refine L.rem rfl rfl rfl (Int.natCast_nonneg _) (by omega) (by simp only [inK]; omega) rfl ⟨_, rfl, rfl⟩ ?_
      refine L.eql rfl rfl rfl rfl ⟨_, rfl, rfl⟩ ?_
      refine L.pickT rfl rfl rfl rfl trivial ?_
      exact L.nil fun a w hh => hh.cutK 5 rfl
    · refine L.pass rfl rfl rfl ⟨_, _, rfl, rfl, rfl⟩ ?_
      refine L.pass rfl rfl rfl ⟨_, _, rfl, rfl, rfl⟩ ?_
      refine L.pass rfl rfl rfl ⟨_, _, rfl, rfl, rfl⟩ ?_
      refine L.pass rfl rfl rfl ⟨_, _, rfl, rfl, rfl⟩ ?_
      refine L.pass rfl rfl rfl ⟨_, _, rfl, rfl, rfl⟩ ?_
      refine L.pickF rfl rfl rfl rfl trivial ?_
      exact L.nil fun a w hh => hh.cutK 5 rfl
    refine L.nil ?_
    refine C.next ?_
    refine C.cond rfl (fun hc3 => ?_) (fun hc3 => ?_)
    · obtain ⟨hbn, hbit⟩ := add_go hc3
      simp only at hbn
      have hb1 : f < b := by omega
      have hb7 : b < 7 := by omega
      have hpb := pow_lt7 hb7
      obtain ⟨x, hx⟩ : ∃ x, y.chairs[f]? = some x := ⟨_, List.getElem?_eq_getElem (by omega)⟩
      obtain ⟨z, hz⟩ : ∃ z, y.chairs[b]? = some z := ⟨_, List.getElem?_eq_getElem (by omega)⟩
      refine C.skip ?_
      refine C.next ?_
      refine C.seq ?_
      refine C.block ?_
      refine C.seq ?_
      refine C.region [(false,0),(false,1),(false,2),(false,3),(false,4),(false,5),(false,6),(false,7),(false,8),(false,9),(false,10)] rfl ?_
      refine L.move rfl rfl rfl trivial ?_
      refine L.move rfl rfl rfl trivial ?_
      refine L.shrN rfl rfl rfl (by first | omega | (simp only; omega)) rfl trivial ?_
      refine L.rem rfl rfl rfl (Int.natCast_nonneg _) (by omega) (by simp only [inK]; omega) rfl trivial ?_
      refine L.eql rfl rfl rfl rfl trivial ?_
      refine L.move rfl rfl rfl trivial ?_
      refine' L.and [(false,6),(false,7),(false,8),(false,9),(false,10)] [] (s := 54) (p := 59) rfl rfl (fun hg2 => ?_) (fun hg2 => ?_) ?_
      rotate_left
      · refine L.loadDW rfl Tf.a37 rfl hY (by first | simp | assumption) Tf.s37 List.not_mem_nil rfl ⟨_, rfl, rfl⟩ ?_
        refine L.move rfl rfl rfl ⟨_, rfl, rfl⟩ ?_
        refine L.move rfl rfl rfl ⟨_, rfl, rfl⟩ ?_
        refine L.callV rfl rfl rfl (fun D2 hD2 => near_ok _ y f b x z _ ⟨_, _, rfl, hc.up RCh.up (hD2 _ (by simp)), hq.up R2.up (hD2 _ (by simp))⟩ hyo.fit hx hz (hyo.size _ (List.mem_of_getElem? hx)) (hyo.size _ (List.mem_of_getElem? hz))) rfl ⟨_, rfl, rfl⟩ ?_
        refine L.pickT rfl rfl rfl rfl trivial ?_
        exact L.nil fun a w hh => hh.cutK 4 rfl
      · refine L.pass rfl rfl rfl ⟨_, _, rfl, rfl, rfl⟩ ?_
        refine L.pass rfl rfl rfl ⟨_, _, rfl, rfl, rfl⟩ ?_
        refine L.pass rfl rfl rfl ⟨_, _, rfl, rfl, rfl⟩ ?_
        refine L.pass rfl rfl rfl ⟨_, _, rfl, rfl, rfl⟩ ?_
        refine L.pickF rfl rfl rfl rfl trivial ?_
        exact L.nil fun a w hh => hh.cutK 4 rfl
      refine L.nil ?_
      refine C.next ?_
      refine C.cond rfl (fun hc4 => ?_) (fun hc4 => ?_)
      · have hsel : (!w.testBit b && nearB y f b) = true := add_sel hx hz hc4
        refine C.drawS (But.mk [bF]) 4 [false,true,true,true,true,true,true,true,true,true,true,true,true,true,false] [.fork [0,1,3,4,5,8,9,10,11,12,13] 2 (.fin [6]) 6 (.fin [2]), .fin [7,14]] Tf.follows (fun _ _ _ h => np_bodyMany (P := Try.prog) (fn := Try.f89) _ _ _ h) (by kernel_rfl) ?_
        refine S.cons ?_
        refine L.planFork [(false,0),(true,1),(true,3),(true,4),(true,5),(true,8),(true,9),(true,10),(true,11),(true,12),(true,13)] rfl ?_
        refine L.loadD1 rfl (k := 0) Tf.a142 rfl hF (by simp) rfl (But.out (by simp)) rfl trivial ?_
        refine L.move rfl rfl rfl trivial ?_
        refine L.move rfl rfl rfl trivial ?_
        refine L.move rfl rfl rfl trivial ?_
        refine L.build (cs := [.int .i64 (f : Int), .int .i64 (b : Int)]) rfl Tf.p111 Tf.z111 rfl rfl rfl trivial ?_
        refine L.move rfl rfl rfl trivial ?_
        refine L.add rfl rfl rfl (by simp only [inK]; omega) rfl trivial ?_
        refine L.move rfl rfl rfl trivial ?_
        refine L.move rfl rfl rfl trivial ?_
        refine L.shl1 rfl rfl rfl (by first | omega | (simp only; omega)) rfl trivial ?_
        refine L.orB rfl rfl rfl (by first | omega | (simp only; omega)) (by first | omega | (simp only; omega)) rfl trivial ?_
        refine L.nil (L.forkP true true rfl rfl ?_ ?_)
        · refine L.callO rfl rfl rfl (fun D7 hD7 => CloneP_ok _ l _ (hl.up R2.up (hD7 _ (by simp))) (by omega)) rfl trivial (fun v6 D8 ν6 hD8 ha6 => ?_)
          refine L.nil ?_
          refine L.planFin [(true,6)] rfl ?_
          refine L.buildSlice rfl Try.underlying30 Tf.s111 Tf.z111 rfl rfl rfl rfl (.cons rfl rfl .nil) rfl trivial (fun b901 D901 hD901 hA901 => ?_)
          have hAp := hA901
          refine L.nil ?_
          refine S.fin [(true,7),(false,14)] rfl ?_
          refine L.apart hF (by simp) (fun hap => ?_)
          refine L.append (A := []) (B := [(_, _), (_, _)]) rfl Try.underlying30 rfl rfl Tf.s111 Tf.z111 rfl Tf.i111 rfl rfl rfl ha6 (Src.lit hAp) (by simp) rfl (prC_length l) (by simp [cell1]) (by omega) (Or.inr (fun p hp => But.in_ (by rw [List.mem_singleton]; rintro rfl; exact hap (List.mem_map.2 ⟨p, List.mem_append_left _ hp, rfl⟩)))) rfl trivial (fun v7 ν7 ha7 => ?_)
          have ha7' : Acc 111 2 v7 (l.length + 1) (prC (l ++ [((f : Int), (b : Int))])) ν7 := by rw [prC_snoc]; simpa using ha7
          refine L.freezeM (A := []) (B := [(_, _), (_, _)]) ha7' (fun k hk => hk) (fun D20 hD20 hF20 => ?_)
          have hl7 := hF20.prs (by simp) (by omega)
          refine L.callM (A := []) (ν := [(_, _), (_, _)]) (B := []) rfl rfl rfl rfl (Or.inl rfl) unf_cc (fun D9 hD9 => ih k (by omega) (f + 1) (by omega) (w ||| 2 ^ b) (l ++ [((f : Int), (b : Int))]) v7 (upB y scs k f w l best many b).1 (upB y scs k f w l best many b).2 pv2 D9 (or_lt7 hw hpb) (prOk_snoc hp (by omega) (by omega)) (by simp; omega) (hl7.up R2.up (hD9 _ (by simp))) (hpv2.up R2.up (hD9 _ (by simp))) (hc.up RCh.up (hD9 _ (by simp))) (hq.up R2.up (hD9 _ (by simp))) (hY.up (hD9 _ (by simp))) (hV.up (hD9 _ (by simp))) (hS.up RSc.up (hD9 _ (by simp))) (hF.up (hD9 _ (by simp)))) rfl trivial (fun v9 D10 _ hD10 hp9 => ?_)
          obtain ⟨pv3, rfl, hpv3⟩ := hp9
          refine L.nil ?_
          refine S.nil ?_
          refine C.blockEnd ?_
          refine C.next ?_
          refine C.region [(false,0),(false,1),(false,2)] rfl ?_
          refine L.move rfl rfl rfl trivial ?_
          refine L.add rfl rfl rfl (by simp only [inK]; omega) rfl trivial ?_
          refine L.assign rfl rfl rfl trivial ?_
          refine L.nil ?_
          exact C.againR 33 (b + 1, pv3, D10) ⟨by simp only; omega, by simp only; rw [upB_yes hb1 hbit hsel]; exact hpv3⟩ (by simp only; omega) ⟨(by first | rfl | (show some (Value.int _ _) = some (Value.int _ _); congr 2; omega)), trivial⟩ rfl rfl ((by rw [upB_yes hb1 hbit hsel]; exact List.Sublist.refl _)) (fun D0 h => by simp only [List.mem_cons, List.not_mem_nil, or_false] at h; rcases h with h | h; exact ⟨D10, by simp, h ▸ Le.refl _⟩; exact ⟨D, by simp, h ▸ Le.refl _⟩)
        · refine L.buildSlice rfl Try.underlying30 Tf.s111 Tf.z111 rfl rfl rfl rfl (.cons rfl rfl .nil) rfl trivial (fun b901 D901 hD901 hA901 => ?_)
          have hAp := hA901
          refine L.nil ?_
          refine L.planFin [(true,2)] rfl ?_
          refine L.callO rfl rfl rfl (fun D7 hD7 => CloneP_ok _ l _ (hl.up R2.up (hD7 _ (by simp))) (by omega)) rfl trivial (fun v6 D8 ν6 hD8 ha6 => ?_)
          refine L.nil ?_
          refine S.fin [(true,7),(false,14)] rfl ?_
          refine L.apart hF (by simp) (fun hap => ?_)
          refine L.append (A := []) (B := [(_, _), (_, _)]) rfl Try.underlying30 rfl rfl Tf.s111 Tf.z111 rfl Tf.i111 rfl rfl rfl ha6 (Src.lit hAp) (by simp) rfl (prC_length l) (by simp [cell1]) (by omega) (Or.inr (fun p hp => But.in_ (by rw [List.mem_singleton]; rintro rfl; exact hap (List.mem_map.2 ⟨p, List.mem_append_left _ hp, rfl⟩)))) rfl trivial (fun v7 ν7 ha7 => ?_)
          have ha7' : Acc 111 2 v7 (l.length + 1) (prC (l ++ [((f : Int), (b : Int))])) ν7 := by rw [prC_snoc]; simpa using ha7
          refine L.freezeM (A := []) (B := [(_, _), (_, _)]) ha7' (fun k hk => hk) (fun D20 hD20 hF20 => ?_)
          have hl7 := hF20.prs (by simp) (by omega)
          refine L.callM (A := []) (ν := [(_, _), (_, _)]) (B := []) rfl rfl rfl rfl (Or.inl rfl) unf_cc (fun D9 hD9 => ih k (by omega) (f + 1) (by omega) (w ||| 2 ^ b) (l ++ [((f : Int), (b : Int))]) v7 (upB y scs k f w l best many b).1 (upB y scs k f w l best many b).2 pv2 D9 (or_lt7 hw hpb) (prOk_snoc hp (by omega) (by omega)) (by simp; omega) (hl7.up R2.up (hD9 _ (by simp))) (hpv2.up R2.up (hD9 _ (by simp))) (hc.up RCh.up (hD9 _ (by simp))) (hq.up R2.up (hD9 _ (by simp))) (hY.up (hD9 _ (by simp))) (hV.up (hD9 _ (by simp))) (hS.up RSc.up (hD9 _ (by simp))) (hF.up (hD9 _ (by simp)))) rfl trivial (fun v9 D10 _ hD10 hp9 => ?_)
          obtain ⟨pv3, rfl, hpv3⟩ := hp9
          refine L.nil ?_
          refine S.nil ?_
          refine C.blockEnd ?_
          refine C.next ?_
          refine C.region [(false,0),(false,1),(false,2)] rfl ?_
          refine L.move rfl rfl rfl trivial ?_
          refine L.add rfl rfl rfl (by simp only [inK]; omega) rfl trivial ?_
          refine L.assign rfl rfl rfl trivial ?_
          refine L.nil ?_
          exact C.againR 33 (b + 1, pv3, D10) ⟨by simp only; omega, by simp only; rw [upB_yes hb1 hbit hsel]; exact hpv3⟩ (by simp only; omega) ⟨(by first | rfl | (show some (Value.int _ _) = some (Value.int _ _); congr 2; omega)), trivial⟩ rfl rfl ((by rw [upB_yes hb1 hbit hsel]; exact List.Sublist.refl _)) (fun D0 h => by simp only [List.mem_cons, List.not_mem_nil, or_false] at h; rcases h with h | h; exact ⟨D10, by simp, h ▸ Le.refl _⟩; exact ⟨D, by simp, h ▸ Le.refl _⟩)
      · have hsel : (!w.testBit b && nearB y f b) = false := add_sel hx hz hc4
        refine C.skip ?_
        refine C.blockEnd ?_
        refine C.next ?_
        refine C.region [(false,0),(false,1),(false,2)] rfl ?_
        refine L.move rfl rfl rfl trivial ?_
        refine L.add rfl rfl rfl (by simp only [inK]; omega) rfl trivial ?_
        refine L.assign rfl rfl rfl trivial ?_
        refine L.nil ?_
        exact C.againR 18 (b + 1, pv2, Dn) ⟨by simp only; omega, by simp only; rw [upB_no hsel]; exact hpv2⟩ (by simp only; omega) ⟨(by first | rfl | (show some (Value.int _ _) = some (Value.int _ _); congr 2; omega)), trivial⟩ rfl rfl ((by rw [upB_no hsel]; exact List.Sublist.refl _)) (fun D0 h => by simp only [List.mem_cons, List.not_mem_nil, or_false] at h; rcases h with h | h; exact ⟨Dn, by simp, h ▸ Le.refl _⟩; exact ⟨D, by simp, h ▸ Le.refl _⟩)
    · simp only at hc3
      refine C.exit ?_
      refine C.thenExit ?_
      refine C.thenExit ?_
      refine C.blockExit ?_
      exact leaveMany (A := []) (ν' := [_, _]) (B := []) (vs := []) rfl rfl rfl trivial rfl (fun D' hD => ⟨pv2, by rw [upB_end h1 hc3], by rw [upB_end h1 hc3]; exact hpv2.up R2.up (hD _ (by simp))⟩)
end Go.Fs
