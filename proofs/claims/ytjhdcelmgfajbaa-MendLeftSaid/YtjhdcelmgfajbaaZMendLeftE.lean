/- Of the proof of MendLeft: W13, W14, W15, W16, W17, W18, W19, W20, W21, W22, W23, W24, W25, W26. -/
import Derived.Test.YtjhdcelmgfajbaaZMendLeftD
namespace Go.Fs
open Go.Proofs
open C7
theorem prC_cell1 (l : List (Int × Int)) : ∀ u ∈ prC l, cell1 u = true := by
  intro u hu
  unfold prC at hu
  rw [List.mem_flatMap] at hu
  obtain ⟨p, _, hu⟩ := hu
  simp only [List.mem_cons, List.not_mem_nil, or_false] at hu
  rcases hu with rfl | rfl <;> rfl
theorem unf_cc {b1 b2 t1 t2 : Nat} {cs ds : List Value} : ∀ p ∈ [(b1, Obj.cells cs.toArray t1 (0, 0)), (b2, .cells ds.toArray t2 (0, 0))], unfrozen p.2 := by
  intro p hp
  simp only [List.mem_cons, List.not_mem_nil, or_false] at hp
  rcases hp with rfl | rfl <;> rfl
/-- Of which number a pairing is sure. -/
def sureZ (scs : List Sc) (l : List (Int × Int)) : Int := match scs with
  | [] => 0
  | s :: _ => (scs.map fun s => (makesN s l : Int)).foldl min (makesN s l : Int)
theorem sureZ_eq {scs : List Sc} {l : List (Int × Int)} {s0 : Sc} (h : scs[0]? = some s0) : (scs.map fun s => (makesN s l : Int)).foldl min (makesN s0 l : Int) = sureZ scs l := by
  cases scs with
  | nil => simp at h
  | cons s r => obtain rfl : s = s0 := by simpa using h
                rfl
theorem sure_step {scs : List Sc} {l : List (Int × Int)} {k : Nat} {s : Sc} {a : Int} (h : scs[k]? = some s) : ((scs.take (k + 1)).map fun s => (makesN s l : Int)).foldl min a = min (((scs.take k).map fun s => (makesN s l : Int)).foldl min a) (makesN s l : Int) := by
  rw [List.take_add_one, h, Option.toList_some, List.map_append, List.foldl_append]; rfl
def nearB (y : YardD) (a b : Nat) : Bool := match y.chairs[a]?, y.chairs[b]? with
  | some x, some z => nearC y.fit x z
  | _, _ => false
/-- All pairings that are tried, from chair f on; w: those that have a partner (by bits). -/
def lvs (y : YardD) : Nat → Nat → Nat → List (Int × Int) → List (List (Int × Int))
  | 0, _, _, l => [l]
  | k + 1, f, w, l => lvs y k (f + 1) w l ++ (if w.testBit f = true then [] else ((List.range y.chairs.length).filter fun b => decide (f < b) && (!w.testBit b && nearB y f b)).flatMap fun (b : Nat) => lvs y k (f + 1) (w ||| 2 ^ b) (l ++ [((f : Int), (b : Int))]))
def upd (scs : List Sc) (st : List (Int × Int) × Int) (l : List (Int × Int)) : List (Int × Int) × Int := if st.2 < sureZ scs l then (l, sureZ scs l) else st
theorem lvs_zero {y : YardD} {scs : List Sc} {f w : Nat} {l : List (Int × Int)} {st : List (Int × Int) × Int} : (lvs y 0 f w l).foldl (upd scs) st = upd scs st l := rfl
theorem upd_yes {scs : List Sc} {l best : List (Int × Int)} {many : Int} (h : many < sureZ scs l) : upd scs (best, many) l = (l, sureZ scs l) := if_pos h
theorem upd_no {scs : List Sc} {l best : List (Int × Int)} {many : Int} (h : ¬ many < sureZ scs l) : upd scs (best, many) l = (best, many) := if_neg h
def partB (y : YardD) (k f w : Nat) (l : List (Int × Int)) (b : Nat) : List (List (Int × Int)) := if w.testBit f = true then [] else ((List.range b).filter fun b => decide (f < b) && (!w.testBit b && nearB y f b)).flatMap fun (b : Nat) => lvs y k (f + 1) (w ||| 2 ^ b) (l ++ [((f : Int), (b : Int))])
def upB (y : YardD) (scs : List Sc) (k f w : Nat) (l best : List (Int × Int)) (many : Int) (b : Nat) : List (Int × Int) × Int := (lvs y k (f + 1) w l ++ partB y k f w l b).foldl (upd scs) (best, many)
theorem upB_start {y : YardD} {scs : List Sc} {k f w : Nat} {l best : List (Int × Int)} {many : Int} : upB y scs k f w l best many (f + 1) = (lvs y k (f + 1) w l).foldl (upd scs) (best, many) := by
  have : partB y k f w l (f + 1) = [] := by
    unfold partB
    split
    · rfl
    · rw [List.filter_eq_nil_iff.2 fun b hb => by have := List.mem_range.1 hb; simp; omega]; rfl
  unfold upB; rw [this, List.append_nil]
theorem upB_yes {y : YardD} {scs : List Sc} {k f w b : Nat} {l best : List (Int × Int)} {many : Int} (hb : f < b) (hbit : w.testBit f = false) (hs : (!w.testBit b && nearB y f b) = true) :
    upB y scs k f w l best many (b + 1) = (lvs y k (f + 1) (w ||| 2 ^ b) (l ++ [((f : Int), (b : Int))])).foldl (upd scs) ((upB y scs k f w l best many b).1, (upB y scs k f w l best many b).2) := by
  have : partB y k f w l (b + 1) = partB y k f w l b ++ lvs y k (f + 1) (w ||| 2 ^ b) (l ++ [((f : Int), (b : Int))]) := by
    unfold partB
    rw [if_neg (by rw [hbit]; simp), if_neg (by rw [hbit]; simp), List.range_succ, List.filter_append, List.flatMap_append]
    simp [hb, hs]
  unfold upB; rw [this, ← List.append_assoc, List.foldl_append]
theorem upB_no {y : YardD} {scs : List Sc} {k f w b : Nat} {l best : List (Int × Int)} {many : Int} (hs : (!w.testBit b && nearB y f b) = false) : upB y scs k f w l best many (b + 1) = upB y scs k f w l best many b := by
  have : partB y k f w l (b + 1) = partB y k f w l b := by
    unfold partB
    split
    · rfl
    · rw [List.range_succ, List.filter_append, List.flatMap_append]; simp [hs]
  unfold upB; rw [this]
theorem upB_end {y : YardD} {scs : List Sc} {k f w b : Nat} {l best : List (Int × Int)} {many : Int} (_h1 : f + 1 ≤ b) (h : (decide ((b : Int) < (y.chairs.length : Int)) && decide (((w >>> f : Nat) : Int) % 2 = 0)) = false) : (lvs y (k + 1) f w l).foldl (upd scs) (best, many) = upB y scs k f w l best many b := by
  have e : lvs y (k + 1) f w l = lvs y k (f + 1) w l ++ partB y k f w l y.chairs.length := rfl
  rw [e]; unfold upB
  by_cases hb : w.testBit f = true
  · have key : ∀ b, partB y k f w l b = [] := fun b => by unfold partB; rw [if_pos hb]
    rw [key, key]
  · have h' : ¬ (b : Int) < (y.chairs.length : Int) := by
      intro h2
      rw [bit_mod, if_neg hb] at h
      simp at h; omega
    have key : ∀ j, partB y k f w l (y.chairs.length + j) = partB y k f w l y.chairs.length := by
      intro j
      induction j with
      | zero => rfl
      | succ j ih =>
        rw [← ih]
        unfold partB
        rw [if_neg hb, if_neg hb, ← Nat.add_assoc, List.range_succ, List.filter_append, List.flatMap_append]
        have : nearB y f (y.chairs.length + j) = false := by
          unfold nearB
          rw [List.getElem?_eq_none (show y.chairs.length ≤ y.chairs.length + j by omega)]
          cases y.chairs[f]? <;> rfl
        simp [this]
    have := key (b - y.chairs.length)
    rw [show y.chairs.length + (b - y.chairs.length) = b by omega] at this
    rw [this]
theorem add_go {b n w f : Nat} (h : (decide ((b : Int) < (n : Int)) && decide (((w >>> f : Nat) : Int) % 2 = 0)) = true) : b < n ∧ w.testBit f = false := by
  rw [Bool.and_eq_true, decide_eq_true_eq, decide_eq_true_eq, bit_mod] at h
  refine ⟨by omega, ?_⟩
  cases e : w.testBit f with
  | false => rfl
  | true => rw [if_pos e] at h; omega
theorem add_sel {y : YardD} {w f b : Nat} {x z : Ch} {r : Bool} (hx : y.chairs[f]? = some x) (hz : y.chairs[b]? = some z) (h : (decide (((w >>> b : Nat) : Int) % 2 = 0) && nearC y.fit x z) = r) : (!w.testBit b && nearB y f b) = r := by
  rw [← h, bit_mod]
  unfold nearB; rw [hx, hz]
  cases w.testBit b <;> simp
theorem prOk_snoc {l : List (Int × Int)} {a b : Nat} (h : PrOk l) (ha : a < 7) (hb : b < 7) : PrOk (l ++ [((a : Int), (b : Int))]) := fun p hp => by
  rcases List.mem_append.1 hp with hp | hp
  · exact h p hp
  · simp only [List.mem_singleton] at hp; exact ⟨a, b, hp, ha, hb⟩
theorem CloneI_ok (sv : Value) (xs : List Int) (D : Data) (hS : Sl D RI 1 sv xs) (hl : xs.length ≤ 10000000) : FnO Try.prog 95 #[sv] D (fun _ v ν => Acc 3 1 v xs.length (ints xs) ν) := by
  obtain ⟨a0, c0, rfl⟩ := hS.shape
  refine enterO 8 Try.func95 rfl rfl rfl rfl fun h0 => ?_
  refine C.seq ?_
  refine C.region [(false,0)] rfl ?_
  refine L.assign rfl rfl rfl trivial ?_
  refine L.nil ?_
  refine C.next ?_
  refine C.seq ?_
  refine C.seq ?_
  refine C.region [(false,0),(false,1)] rfl ?_
  refine L.move rfl rfl rfl trivial ?_
  refine L.eqlNil rfl Try.underlying52 rfl rfl rfl trivial ?_
  refine L.nil ?_
  refine C.next ?_
  refine C.cond rfl (fun hc1 => ?_) (fun hc1 => ?_)
  · obtain rfl : a0 = none := by simpa using hc1
    obtain rfl := sl_none hS
    refine C.seq ?_
    refine C.region [(false,0)] rfl ?_
    refine L.assign rfl rfl rfl trivial ?_
    refine L.nil ?_
    refine C.next ?_
    refine C.ret ?_
    refine C.thenRet ?_
    exact leave (vs := [_]) rfl rfl rfl ⟨rfl, trivial⟩ (fun D' hD => Acc.nil)
  · refine C.skip ?_
    refine C.next ?_
    refine C.seq ?_
    refine C.region [(false,0),(false,1),(false,2),(false,3)] rfl ?_
    refine L.buildSlice rfl Try.underlying52 Tf.s3 Tf.z3 rfl rfl rfl rfl .nil rfl trivial (fun b901 D901 hD901 hA901 => ?_)
    refine L.move rfl rfl rfl trivial ?_
    refine L.append (A := []) (ν := []) (B := []) rfl Try.underlying52 rfl rfl Tf.s3 Tf.z3 rfl Tf.i3 rfl rfl rfl Acc.nil (Src.ints hS) (by simp) (by simp) rfl (ints_cell1 _) (by omega) (Or.inl rfl) rfl trivial (fun v1 ν1 ha1 => ?_)
    refine L.assign rfl rfl rfl trivial ?_
    refine L.nil ?_
    refine C.next ?_
    refine C.ret ?_
    exact leave (vs := [_]) rfl rfl rfl ⟨rfl, trivial⟩ (fun D' hD => by show Acc 3 1 v1 _ _ _; simpa [prC] using ha1)
theorem CloneP_ok (sv : Value) (xs : List (Int × Int)) (D : Data) (hS : Sl D R2 2 sv xs) (hl : xs.length ≤ 10000000) : FnO Try.prog 91 #[sv] D (fun _ v ν => Acc 111 2 v xs.length (prC xs) ν) := by
  obtain ⟨a0, c0, rfl⟩ := hS.shape
  refine enterO 8 Try.func91 rfl rfl rfl rfl fun h0 => ?_
  refine C.seq ?_
  refine C.region [(false,0)] rfl ?_
  refine L.assign rfl rfl rfl trivial ?_
  refine L.nil ?_
  refine C.next ?_
  refine C.seq ?_
  refine C.seq ?_
  refine C.region [(false,0),(false,1)] rfl ?_
  refine L.move rfl rfl rfl trivial ?_
  refine L.eqlNil rfl Try.underlying30 rfl rfl rfl trivial ?_
  refine L.nil ?_
  refine C.next ?_
  refine C.cond rfl (fun hc1 => ?_) (fun hc1 => ?_)
  · obtain rfl : a0 = none := by simpa using hc1
    obtain rfl := sl_none hS
    refine C.seq ?_
    refine C.region [(false,0)] rfl ?_
    refine L.assign rfl rfl rfl trivial ?_
    refine L.nil ?_
    refine C.next ?_
    refine C.ret ?_
    refine C.thenRet ?_
    exact leave (vs := [_]) rfl rfl rfl ⟨rfl, trivial⟩ (fun D' hD => Acc.nil)
  · refine C.skip ?_
    refine C.next ?_
    refine C.seq ?_
    refine C.region [(false,0),(false,1),(false,2),(false,3)] rfl ?_
    refine L.buildSlice rfl Try.underlying30 Tf.s111 Tf.z111 rfl rfl rfl rfl .nil rfl trivial (fun b901 D901 hD901 hA901 => ?_)
    refine L.move rfl rfl rfl trivial ?_
    refine L.append (A := []) (ν := []) (B := []) rfl Try.underlying30 rfl rfl Tf.s111 Tf.z111 rfl Tf.i111 rfl rfl rfl Acc.nil (Src.of (cells := fun p : Int × Int => [.int .i64 p.1, .int .i64 p.2]) (fun _ _ _ h => h) (fun _ => rfl) hS) (by simp) (prC_length xs) rfl (prC_cell1 xs) (by omega) (Or.inl rfl) rfl trivial (fun v1 ν1 ha1 => ?_)
    refine L.assign rfl rfl rfl trivial ?_
    refine L.nil ?_
    refine C.next ?_
    refine C.ret ?_
    exact leave (vs := [_]) rfl rfl rfl ⟨rfl, trivial⟩ (fun D' hD => by show Acc 111 2 v1 _ _ _; simpa [prC] using ha1)
theorem sure_ok (sv lv : Value) (scs : List Sc) (l : List (Int × Int)) (n : Nat) (D : Data) (hS : Sl D RSc 9 sv scs) (hl : Sl D R2 2 lv l) (hne : scs ≠ []) (hsc : ∀ s ∈ scs, ScOk n s) (hp : PrOk l) (hl3 : l.length ≤ 1000) : Fn Try.prog 90 #[sv, lv] D (fun _ v => v = .int .i64 (sureZ scs l)) := by
  have hsl := hS.len
  obtain ⟨s0, hs0⟩ : ∃ s, scs[0]? = some s := ⟨scs[0]'(List.length_pos_iff.2 hne), List.getElem?_eq_getElem _⟩
  have ho0 := hsc s0 (List.mem_of_getElem? hs0)
  refine enter 27 Try.func90 rfl rfl rfl rfl fun h0 => ?_
  refine C.seq ?_
  refine C.region [(false,0)] rfl ?_
  refine L.assign rfl rfl rfl trivial ?_
  refine L.nil ?_
  refine C.next ?_
  refine C.seq ?_
  refine C.region [(false,0),(false,1),(false,2),(false,3),(false,4),(false,5)] rfl ?_
  refine L.move rfl rfl rfl trivial ?_
  refine L.indexS rfl Try.underlying135 Tf.s126 rfl hS rfl (by omega) hs0 rfl trivial (fun b1 o1 cs1 hr1 hcl1 hA1 => ?_)
  obtain rfl : cs1 = ints (scI _) := hr1
  refine L.loadDW rfl Tf.a126 rfl hA1 (by first | simp | assumption) (by rw [ints_length, scI_len _ ho0.len]; exact Tf.s126) List.not_mem_nil rfl trivial ?_
  refine L.move rfl rfl rfl trivial ?_
  refine L.callV rfl rfl rfl (fun D1 hD1 => makes_ok s0 _ l ho0.row ho0.whole hp hl3 _ (hl.up R2.up (hD1 _ (by simp))) ho0.len) rfl trivial ?_
  refine L.assign rfl rfl rfl trivial ?_
  refine L.nil ?_
  refine C.next ?_
  refine C.seq ?_
  refine C.seq ?_
  refine C.region [(false,0),(false,1),(false,2)] rfl ?_
  refine L.move rfl rfl rfl trivial ?_
  refine L.len rfl Try.underlying135 rfl hS rfl rfl trivial ?_
  refine L.move rfl rfl rfl trivial ?_
  refine L.nil ?_
  refine C.next ?_
  refine C.block ?_
  refine C.loopC (γ := Nat) (fun k => scs.length - k) (fun k => k ≤ scs.length) (fun k => [(15, .int .i64 (k : Int)), (5, .int .i64 (((scs.take k).map fun s => (makesN s l : Int)).foldl min (makesN s0 l : Int)))]) [(14, _), (13, _), (4, _), (1, _)] (fun k => [D]) 0 (by omega) ⟨(by first | rfl | (show some (Value.int _ _) = some (Value.int _ _); congr 2; omega)), (by first | rfl | (show some (Value.int _ _) = some (Value.int _ _); congr 2; omega)), trivial⟩ ⟨rfl, rfl, rfl, rfl, trivial⟩ (ds_same) ?_
  rintro k h1
  refine C.seq ?_
  refine C.region [(false,0)] rfl ?_
  refine L.lss rfl rfl rfl rfl trivial ?_
  refine L.nil ?_
  refine C.next ?_
  refine C.seq ?_
  refine C.condD rfl (fun hc1 => ?_) (fun hc1 => ?_)
  · have hk : k < scs.length := by omega
    obtain ⟨s1, hs1⟩ : ∃ s, scs[k]? = some s := ⟨_, List.getElem?_eq_getElem hk⟩
    have ho1 := hsc s1 (List.mem_of_getElem? hs1)
    refine C.skip ?_
    refine C.next ?_
    refine C.seq ?_
    refine C.block ?_
    refine C.seq ?_
    refine C.region [(false,0),(false,1),(false,2),(false,3)] rfl ?_
    refine L.indexS rfl Try.underlying135 Tf.s126 rfl hS rfl (by omega) hs1 rfl trivial (fun b2 o2 cs2 hr2 hcl2 hA2 => ?_)
    obtain rfl : cs2 = ints (scI _) := hr2
    refine L.loadDW rfl Tf.a126 rfl hA2 (by first | simp | assumption) (by rw [ints_length, scI_len _ ho1.len]; exact Tf.s126) List.not_mem_nil rfl trivial ?_
    refine L.alloc rfl Tf.z126 rfl rfl trivial (fun q1 => ?_)
    refine L.storeW rfl rfl rfl rfl Tf.s126 (by rw [ints_length, scI_len _ ho1.len]) (by rfl) .head (ints_cell1 _) trivial ?_
    refine L.nil ?_
    refine C.next ?_
    refine C.region [(false,0),(false,1),(false,2),(false,3),(false,4),(false,5),(false,6)] rfl ?_
    refine L.move rfl rfl rfl trivial ?_
    refine L.loadBW (vs := ints (scI s1)) rfl Tf.a126 rfl (List.Mem.head _) (by rw [show (ints (scI s1)).length = 9 by rw [ints_length, scI_len _ ho1.len]]; exact Tf.s126) List.not_mem_nil rfl trivial ?_
    refine L.move rfl rfl rfl trivial ?_
    refine L.callV rfl rfl rfl (fun D2 hD2 => makes_ok s1 _ l ho1.row ho1.whole hp hl3 _ (hl.up R2.up (hD2 _ (by simp))) ho1.len) rfl trivial ?_
    refine L.buildSlice rfl Try.underlying52 Tf.s3 Tf.z3 rfl rfl rfl rfl (.cons rfl rfl (.cons rfl rfl .nil)) rfl trivial (fun b901 D901 hD901 hA901 => ?_)
    have hS901 := Sl.ofInts (l := [_, _]) (n := 2) (cap := 2) hA901 rfl (by omega) (by omega)
    refine L.callV rfl rfl rfl (fun D3 hD3 => minimum_ok _ _ [_] _ (hS901.up RI.up (hD3 _ (by simp)))) rfl trivial ?_
    refine L.assign rfl rfl rfl trivial ?_
    refine L.nil ?_
    refine C.blockEnd ?_
    refine C.next ?_
    refine C.region [(false,0),(false,1)] rfl ?_
    refine L.add rfl rfl rfl (by simp only [inK]; omega) rfl trivial ?_
    refine L.move rfl rfl rfl trivial ?_
    refine L.nil ?_
    exact C.againR 15 (k + 1) (by omega) (by omega) ⟨(by first | rfl | (show some (Value.int _ _) = some (Value.int _ _); congr 2; omega)), (by rw [sure_step hs1]; rfl), trivial⟩ rfl rfl (List.Sublist.cons _ (List.Sublist.refl _)) (fun D h => ⟨D, List.Mem.tail _ (h), Le.refl D⟩)
  · obtain rfl : k = scs.length := by omega
    rw [List.take_length]
    refine C.exit ?_
    refine C.thenExit ?_
    refine C.thenExit ?_
    refine C.blockExit ?_
    refine C.next ?_
    refine C.seq ?_
    refine C.region [(false,0),(false,1)] rfl ?_
    refine L.move rfl rfl rfl trivial ?_
    refine L.assign rfl rfl rfl trivial ?_
    refine L.nil ?_
    refine C.next ?_
    refine C.ret ?_
    exact leave (vs := [_]) rfl rfl rfl ⟨rfl, trivial⟩ (fun D hD => by show Value.int _ _ = _; rw [sureZ_eq hs0])
theorem add_ok {y : YardD} {scs : List Sc} {cv qv sv : Value} {bY bV bF bm bp : Nat} (hyo : YOk y) (hne : scs ≠ []) (hsc : ∀ s ∈ scs, ScOk y.chairs.length s) :
    ∀ (kk f : Nat), f + kk = y.chairs.length → ∀ (w : Nat) (l : List (Int × Int)) (lv : Value) (best : List (Int × Int)) (many : Int) (pv : Value) (D : Data), w < 128 → PrOk l → l.length ≤ f → Sl D R2 2 lv l → Sl D R2 2 pv best → Sl D RCh 4 cv y.chairs → Sl D R2 2 qv y.claims → At D bY 0 [cv, .int .i64 y.fit, qv] → At D bV 0 [sv] → Sl D RSc 9 sv scs → At D bF 0 [.func (.func 89) #[] #[.pointer (some ⟨bY, 0, none⟩), .pointer (some ⟨bV, 0, none⟩), .pointer (some ⟨bm, 0, none⟩), .pointer (some ⟨bp, 0, none⟩), .pointer (some ⟨bF, 0, none⟩)]] →
    FnM Try.prog 89 [lv, .int .i64 (f : Int), .int .i64 (w : Int), .pointer (some ⟨bY, 0, none⟩), .pointer (some ⟨bV, 0, none⟩), .pointer (some ⟨bm, 0, none⟩), .pointer (some ⟨bp, 0, none⟩), .pointer (some ⟨bF, 0, none⟩)] D [(bm, .cells [.int .i64 many].toArray 3 (0, 0)), (bp, .cells [pv].toArray 30 (0, 0))] (fun D' _ ν' => ∃ pv', ν' = [(bm, .cells [.int .i64 ((lvs y kk f w l).foldl (upd scs) (best, many)).2].toArray 3 (0, 0)), (bp, .cells [pv'].toArray 30 (0, 0))] ∧ Sl D' R2 2 pv' ((lvs y kk f w l).foldl (upd scs) (best, many)).1) := by
  intro kk
  induction kk using Nat.strongRecOn with
  | _ kk ih =>
  intro f hf w l lv best many pv D hw hp hlf hl hb hc hq hY hV hS hF
  have hn7 := hyo.len
  have hcl := hc.len
  refine enterMany 75 Try.func89 rfl rfl rfl rfl (fun h0 hwl hwn => ?_)
  refine C.seq ?_
  refine C.seq ?_
  refine C.region [(false,0),(false,1),(false,2),(false,3),(false,4)] rfl ?_
  refine L.move rfl rfl rfl trivial ?_
  refine L.fieldAddr rfl Tf.f37_0 rfl rfl trivial ?_
  refine L.loadD1 rfl (k := 0) Tf.a34 rfl hY (by first | simp | assumption) rfl List.not_mem_nil rfl trivial ?_
  refine L.len rfl Try.underlying34 rfl hc rfl rfl trivial ?_
  refine L.eql rfl rfl rfl rfl trivial ?_
  refine L.nil ?_
  refine C.next ?_
  refine C.condD rfl (fun hc1 => ?_) (fun hc1 => ?_)
  · obtain rfl : kk = 0 := by omega
    refine C.seq ?_
    refine C.seq ?_
    refine C.region [(false,0),(false,1),(false,2),(false,3)] rfl ?_
    refine L.loadD1 rfl (k := 0) Tf.a135 rfl hV (by first | simp | assumption) rfl List.not_mem_nil rfl trivial ?_
    refine L.move rfl rfl rfl trivial ?_
    refine L.callV rfl rfl rfl (fun D1 hD1 => sure_ok _ _ scs l y.chairs.length _ (hS.up RSc.up (hD1 _ (by simp))) (hl.up R2.up (hD1 _ (by simp))) hne hsc hp (by omega)) rfl trivial ?_
    refine L.assign rfl rfl rfl trivial ?_
    refine L.nil ?_
    refine C.next ?_
    refine C.seq ?_
    refine C.region [(false,0),(false,1),(false,2)] rfl ?_
    refine L.move rfl rfl rfl trivial ?_
    refine L.loadB1 rfl Tf.a3 rfl (List.Mem.head _) rfl List.not_mem_nil rfl trivial ?_
    refine L.gtr rfl rfl rfl rfl trivial ?_
    refine L.nil ?_
    refine C.next ?_
    refine C.condD rfl (fun hc2 => ?_) (fun hc2 => ?_)
    · refine C.region [(false,0),(false,1),(false,2),(false,3),(false,4)] rfl ?_
      refine L.move rfl rfl rfl trivial ?_
      refine L.callO rfl rfl rfl (fun D7 hD7 => CloneP_ok _ l _ (hl.up R2.up (hD7 _ (by simp))) (by omega)) rfl trivial (fun v6 D8 ν6 hD8 ha6 => ?_)
      refine L.freezeM (A := []) (B := [(_, _), (_, _)]) ha6 (fun k hk => hk) (fun D20 hD20 hF20 => ?_)
      have hl7 := hF20.prs rfl (by omega)
      obtain ⟨a6, c6, rfl⟩ := ha6.shape
      refine L.move rfl rfl rfl trivial ?_
      refine L.store rfl rfl rfl rfl Tf.s30 (.tail .head) (by simp) rfl (by simp [cell1]) trivial ?_
      refine L.store rfl rfl rfl rfl Tf.s3 (Has.head) (by simp) rfl (by simp [cell1]) trivial ?_
      refine L.nil ?_
      refine C.next ?_
      refine C.ret ?_
      refine C.thenRet ?_
      exact leaveMany (A := []) (ν' := [_, _]) (B := []) (vs := []) rfl rfl rfl trivial rfl (fun D' hD => ⟨.slice a6 l.length c6, by rw [lvs_zero, upd_yes hc2]; rfl, by rw [lvs_zero, upd_yes hc2]; exact hl7.up R2.up (hD _ (by simp))⟩)
    · refine C.skip ?_
      refine C.next ?_
      refine C.ret ?_
      refine C.thenRet ?_
      exact leaveMany (A := []) (ν' := [_, _]) (B := []) (vs := []) rfl rfl rfl trivial rfl (fun D' hD => ⟨pv, by rw [lvs_zero, upd_no hc2], by rw [lvs_zero, upd_no hc2]; exact hb.up R2.up (hD _ (by simp))⟩)
  · obtain ⟨k, rfl⟩ : ∃ k, kk = k + 1 := ⟨kk - 1, by omega⟩
    refine C.skip ?_
    refine C.next ?_
    refine C.seq ?_
    refine C.region [(false,0),(false,1),(false,2),(false,3),(false,4),(false,5)] rfl ?_
    refine L.loadD1 rfl (k := 0) Tf.a142 rfl hF (by first | simp | assumption) rfl List.not_mem_nil rfl trivial ?_
    refine L.move rfl rfl rfl trivial ?_
    refine L.move rfl rfl rfl trivial ?_
    refine L.add rfl rfl rfl (by simp only [inK]; omega) rfl trivial ?_
    refine L.move rfl rfl rfl trivial ?_
    refine L.callM (A := []) (ν := [(_, _), (_, _)]) (B := []) rfl rfl rfl rfl (Or.inl rfl) unf_cc (fun D5 hD5 => ih k (by omega) (f + 1) (by omega) w l lv best many pv D5 hw hp (by omega) (hl.up R2.up (hD5 _ (by simp))) (hb.up R2.up (hD5 _ (by simp))) (hc.up RCh.up (hD5 _ (by simp))) (hq.up R2.up (hD5 _ (by simp))) (hY.up (hD5 _ (by simp))) (hV.up (hD5 _ (by simp))) (hS.up RSc.up (hD5 _ (by simp))) (hF.up (hD5 _ (by simp)))) rfl trivial (fun v5 D6 _ hD6 hp5 => ?_)
    obtain ⟨pv1, rfl, hpv1⟩ := hp5
    refine L.nil ?_
    refine C.next ?_
    refine C.seq ?_
    refine C.region [(false,0),(false,1),(false,2)] rfl ?_
    refine L.move rfl rfl rfl trivial ?_
    refine L.add rfl rfl rfl (by simp only [inK]; omega) rfl trivial ?_
    refine L.assign rfl rfl rfl trivial ?_
    refine L.nil ?_
    refine C.next ?_
    refine C.block ?_
    refine C.loopR (γ := Nat × Value × Data) (fun g => y.chairs.length - g.1) (fun g => f + 1 ≤ g.1 ∧ Sl g.2.2 R2 2 g.2.1 (upB y scs k f w l best many g.1).1) (fun g => [(12, .int .i64 (g.1 : Int))]) [(0, _), (1, _), (2, _), (3, _), (7, _)] (fun g => [(bm, .cells [.int .i64 (upB y scs k f w l best many g.1).2].toArray 3 (0, 0)), (bp, .cells [g.2.1].toArray 30 (0, 0))]) (fun g => [g.2.2, D]) (f + 1, pv1, D6) ⟨by simp, by simp only; rw [upB_start]; exact hpv1⟩ ⟨(by first | rfl | (show some (Value.int _ _) = some (Value.int _ _); congr 2; omega)), trivial⟩ ⟨rfl, rfl, rfl, rfl, rfl, trivial⟩ ((by rw [upB_start]; exact List.Sublist.refl _)) ((fun D0 h => by simp only [List.mem_cons, List.not_mem_nil, or_false] at h; rcases h with h | h; exact ⟨D6, by simp, h ▸ Le.refl _⟩; exact ⟨D, by simp, h ▸ Le.refl _⟩)) ?_
    rintro ⟨b, pv2, Dn⟩ ⟨h1, hpv2⟩
    simp only at h1 hpv2
    refine C.seq ?_
    refine C.seq ?_
    refine C.region [(false,0),(false,1),(false,2),(false,3),(false,4),(false,5),(false,6),(false,7),(false,8),(false,9),(false,10),(false,11)] rfl ?_
    refine L.move rfl rfl rfl trivial ?_
    refine L.fieldAddr rfl Tf.f37_0 rfl rfl trivial ?_
    refine L.loadD1 rfl (k := 0) Tf.a34 rfl hY (by first | simp | assumption) rfl List.not_mem_nil rfl trivial ?_
    refine L.len rfl Try.underlying34 rfl hc rfl rfl trivial ?_
    refine L.lss rfl rfl rfl rfl trivial ?_
    refine L.move rfl rfl rfl trivial ?_
    refine' L.and [(false,6),(false,7),(false,8),(false,9),(false,10),(false,11)] [] (s := 40) (p := 46) rfl rfl (fun hg1 => ?_) (fun hg1 => ?_) ?_
    rotate_left
    · refine L.move rfl rfl rfl ⟨_, rfl, rfl⟩ ?_
      refine L.move rfl rfl rfl ⟨_, rfl, rfl⟩ ?_
      refine L.shrN rfl rfl rfl (by omega) rfl ⟨_, rfl, rfl⟩ ?_
      refine L.rem rfl rfl rfl (Int.natCast_nonneg _) (by omega) (by simp only [inK]; omega) rfl ⟨_, rfl, rfl⟩ ?_
      refine L.eql rfl rfl rfl rfl ⟨_, rfl, rfl⟩ ?_
      refine L.pickT rfl rfl rfl rfl trivial ?_
      exact L.nil fun a w hh => hh.cutK 5 rfl
    · refine L.pass rfl rfl rfl ⟨_, _, rfl, rfl, rfl⟩ ?_
      refine L.pass rfl rfl rfl ⟨_, _, rfl, rfl, rfl⟩ ?_
      refine L.pass rfl rfl rfl ⟨_, _, rfl, rfl, rfl⟩ ?_
      refine L.pass rfl rfl rfl ⟨_, _, rfl, rfl, rfl⟩ ?_
      refine L.pass rfl rfl rfl ⟨_, _, rfl, rfl, rfl⟩ ?_
      refine L.pickF rfl rfl rfl rfl trivial ?_
      exact L.nil fun a w hh => hh.cutK 5 rfl
    refine L.nil ?_
    refine C.next ?_
    refine C.cond rfl (fun hc3 => ?_) (fun hc3 => ?_)
    · obtain ⟨hbn, hbit⟩ := add_go hc3
      simp only at hbn
      have hb1 : f < b := by omega
      have hb7 : b < 7 := by omega
      have hpb := pow_lt7 hb7
      obtain ⟨x, hx⟩ : ∃ x, y.chairs[f]? = some x := ⟨_, List.getElem?_eq_getElem (by omega)⟩
      obtain ⟨z, hz⟩ : ∃ z, y.chairs[b]? = some z := ⟨_, List.getElem?_eq_getElem (by omega)⟩
      refine C.skip ?_
      refine C.next ?_
      refine C.seq ?_
      refine C.block ?_
      refine C.seq ?_
      refine C.region [(false,0),(false,1),(false,2),(false,3),(false,4),(false,5),(false,6),(false,7),(false,8),(false,9),(false,10)] rfl ?_
      refine L.move rfl rfl rfl trivial ?_
      refine L.move rfl rfl rfl trivial ?_
      refine L.shrN rfl rfl rfl (by first | omega | (simp only; omega)) rfl trivial ?_
      refine L.rem rfl rfl rfl (Int.natCast_nonneg _) (by omega) (by simp only [inK]; omega) rfl trivial ?_
      refine L.eql rfl rfl rfl rfl trivial ?_
      refine L.move rfl rfl rfl trivial ?_
      refine' L.and [(false,6),(false,7),(false,8),(false,9),(false,10)] [] (s := 54) (p := 59) rfl rfl (fun hg2 => ?_) (fun hg2 => ?_) ?_
      rotate_left
      · refine L.loadDW rfl Tf.a37 rfl hY (by first | simp | assumption) Tf.s37 List.not_mem_nil rfl ⟨_, rfl, rfl⟩ ?_
        refine L.move rfl rfl rfl ⟨_, rfl, rfl⟩ ?_
        refine L.move rfl rfl rfl ⟨_, rfl, rfl⟩ ?_
        refine L.callV rfl rfl rfl (fun D2 hD2 => near_ok _ y f b x z _ ⟨_, _, rfl, hc.up RCh.up (hD2 _ (by simp)), hq.up R2.up (hD2 _ (by simp))⟩ hyo.fit hx hz (hyo.size _ (List.mem_of_getElem? hx)) (hyo.size _ (List.mem_of_getElem? hz))) rfl ⟨_, rfl, rfl⟩ ?_
        refine L.pickT rfl rfl rfl rfl trivial ?_
        exact L.nil fun a w hh => hh.cutK 4 rfl
      · refine L.pass rfl rfl rfl ⟨_, _, rfl, rfl, rfl⟩ ?_
        refine L.pass rfl rfl rfl ⟨_, _, rfl, rfl, rfl⟩ ?_
        refine L.pass rfl rfl rfl ⟨_, _, rfl, rfl, rfl⟩ ?_
        refine L.pass rfl rfl rfl ⟨_, _, rfl, rfl, rfl⟩ ?_
        refine L.pickF rfl rfl rfl rfl trivial ?_
        exact L.nil fun a w hh => hh.cutK 4 rfl
      refine L.nil ?_
      refine C.next ?_
      refine C.cond rfl (fun hc4 => ?_) (fun hc4 => ?_)
      · have hsel : (!w.testBit b && nearB y f b) = true := add_sel hx hz hc4
        refine C.drawS (But.mk [bF]) 4 [false,true,true,true,true,true,true,true,true,true,true,true,true,true,false] [.fork [0,1,3,4,5,8,9,10,11,12,13] 2 (.fin [6]) 6 (.fin [2]), .fin [7,14]] Tf.follows (fun _ _ _ h => np_bodyMany (P := Try.prog) (fn := Try.f89) _ _ _ h) (by kernel_rfl) ?_
        refine S.cons ?_
        refine L.planFork [(false,0),(true,1),(true,3),(true,4),(true,5),(true,8),(true,9),(true,10),(true,11),(true,12),(true,13)] rfl ?_
        refine L.loadD1 rfl (k := 0) Tf.a142 rfl hF (by simp) rfl (But.out (by simp)) rfl trivial ?_
        refine L.move rfl rfl rfl trivial ?_
        refine L.move rfl rfl rfl trivial ?_
        refine L.move rfl rfl rfl trivial ?_
        refine L.build (cs := [.int .i64 (f : Int), .int .i64 (b : Int)]) rfl Tf.p111 Tf.z111 rfl rfl rfl trivial ?_
        refine L.move rfl rfl rfl trivial ?_
        refine L.add rfl rfl rfl (by simp only [inK]; omega) rfl trivial ?_
        refine L.move rfl rfl rfl trivial ?_
        refine L.move rfl rfl rfl trivial ?_
        refine L.shl1 rfl rfl rfl (by first | omega | (simp only; omega)) rfl trivial ?_
        refine L.orB rfl rfl rfl (by first | omega | (simp only; omega)) (by first | omega | (simp only; omega)) rfl trivial ?_
        refine L.nil (L.forkP true true rfl rfl ?_ ?_)
        · refine L.callO rfl rfl rfl (fun D7 hD7 => CloneP_ok _ l _ (hl.up R2.up (hD7 _ (by simp))) (by omega)) rfl trivial (fun v6 D8 ν6 hD8 ha6 => ?_)
          refine L.nil ?_
          refine L.planFin [(true,6)] rfl ?_
          refine L.buildSlice rfl Try.underlying30 Tf.s111 Tf.z111 rfl rfl rfl rfl (.cons rfl rfl .nil) rfl trivial (fun b901 D901 hD901 hA901 => ?_)
          have hAp := hA901
          refine L.nil ?_
          refine S.fin [(true,7),(false,14)] rfl ?_
          refine L.apart hF (by simp) (fun hap => ?_)
          refine L.append (A := []) (B := [(_, _), (_, _)]) rfl Try.underlying30 rfl rfl Tf.s111 Tf.z111 rfl Tf.i111 rfl rfl rfl ha6 (Src.lit hAp) (by simp) rfl (prC_length l) (by simp [cell1]) (by omega) (Or.inr (fun p hp => But.in_ (by rw [List.mem_singleton]; rintro rfl; exact hap (List.mem_map.2 ⟨p, List.mem_append_left _ hp, rfl⟩)))) rfl trivial (fun v7 ν7 ha7 => ?_)
          have ha7' : Acc 111 2 v7 (l.length + 1) (prC (l ++ [((f : Int), (b : Int))])) ν7 := by rw [prC_snoc]; simpa using ha7
          refine L.freezeM (A := []) (B := [(_, _), (_, _)]) ha7' (fun k hk => hk) (fun D20 hD20 hF20 => ?_)
          have hl7 := hF20.prs (by simp) (by omega)
          refine L.callM (A := []) (ν := [(_, _), (_, _)]) (B := []) rfl rfl rfl rfl (Or.inl rfl) unf_cc (fun D9 hD9 => ih k (by omega) (f + 1) (by omega) (w ||| 2 ^ b) (l ++ [((f : Int), (b : Int))]) v7 (upB y scs k f w l best many b).1 (upB y scs k f w l best many b).2 pv2 D9 (or_lt7 hw hpb) (prOk_snoc hp (by omega) (by omega)) (by simp; omega) (hl7.up R2.up (hD9 _ (by simp))) (hpv2.up R2.up (hD9 _ (by simp))) (hc.up RCh.up (hD9 _ (by simp))) (hq.up R2.up (hD9 _ (by simp))) (hY.up (hD9 _ (by simp))) (hV.up (hD9 _ (by simp))) (hS.up RSc.up (hD9 _ (by simp))) (hF.up (hD9 _ (by simp)))) rfl trivial (fun v9 D10 _ hD10 hp9 => ?_)
          obtain ⟨pv3, rfl, hpv3⟩ := hp9
          refine L.nil ?_
          refine S.nil ?_
          refine C.blockEnd ?_
          refine C.next ?_
          refine C.region [(false,0),(false,1),(false,2)] rfl ?_
          refine L.move rfl rfl rfl trivial ?_
          refine L.add rfl rfl rfl (by simp only [inK]; omega) rfl trivial ?_
          refine L.assign rfl rfl rfl trivial ?_
          refine L.nil ?_
          exact C.againR 33 (b + 1, pv3, D10) ⟨by simp only; omega, by simp only; rw [upB_yes hb1 hbit hsel]; exact hpv3⟩ (by simp only; omega) ⟨(by first | rfl | (show some (Value.int _ _) = some (Value.int _ _); congr 2; omega)), trivial⟩ rfl rfl ((by rw [upB_yes hb1 hbit hsel]; exact List.Sublist.refl _)) (fun D0 h => by simp only [List.mem_cons, List.not_mem_nil, or_false] at h; rcases h with h | h; exact ⟨D10, by simp, h ▸ Le.refl _⟩; exact ⟨D, by simp, h ▸ Le.refl _⟩)
        · refine L.buildSlice rfl Try.underlying30 Tf.s111 Tf.z111 rfl rfl rfl rfl (.cons rfl rfl .nil) rfl trivial (fun b901 D901 hD901 hA901 => ?_)
          have hAp := hA901
          refine L.nil ?_
          refine L.planFin [(true,2)] rfl ?_
          refine L.callO rfl rfl rfl (fun D7 hD7 => CloneP_ok _ l _ (hl.up R2.up (hD7 _ (by simp))) (by omega)) rfl trivial (fun v6 D8 ν6 hD8 ha6 => ?_)
          refine L.nil ?_
          refine S.fin [(true,7),(false,14)] rfl ?_
          refine L.apart hF (by simp) (fun hap => ?_)
          refine L.append (A := []) (B := [(_, _), (_, _)]) rfl Try.underlying30 rfl rfl Tf.s111 Tf.z111 rfl Tf.i111 rfl rfl rfl ha6 (Src.lit hAp) (by simp) rfl (prC_length l) (by simp [cell1]) (by omega) (Or.inr (fun p hp => But.in_ (by rw [List.mem_singleton]; rintro rfl; exact hap (List.mem_map.2 ⟨p, List.mem_append_left _ hp, rfl⟩)))) rfl trivial (fun v7 ν7 ha7 => ?_)
          have ha7' : Acc 111 2 v7 (l.length + 1) (prC (l ++ [((f : Int), (b : Int))])) ν7 := by rw [prC_snoc]; simpa using ha7
          refine L.freezeM (A := []) (B := [(_, _), (_, _)]) ha7' (fun k hk => hk) (fun D20 hD20 hF20 => ?_)
          have hl7 := hF20.prs (by simp) (by omega)
          refine L.callM (A := []) (ν := [(_, _), (_, _)]) (B := []) rfl rfl rfl rfl (Or.inl rfl) unf_cc (fun D9 hD9 => ih k (by omega) (f + 1) (by omega) (w ||| 2 ^ b) (l ++ [((f : Int), (b : Int))]) v7 (upB y scs k f w l best many b).1 (upB y scs k f w l best many b).2 pv2 D9 (or_lt7 hw hpb) (prOk_snoc hp (by omega) (by omega)) (by simp; omega) (hl7.up R2.up (hD9 _ (by simp))) (hpv2.up R2.up (hD9 _ (by simp))) (hc.up RCh.up (hD9 _ (by simp))) (hq.up R2.up (hD9 _ (by simp))) (hY.up (hD9 _ (by simp))) (hV.up (hD9 _ (by simp))) (hS.up RSc.up (hD9 _ (by simp))) (hF.up (hD9 _ (by simp)))) rfl trivial (fun v9 D10 _ hD10 hp9 => ?_)
          obtain ⟨pv3, rfl, hpv3⟩ := hp9
          refine L.nil ?_
          refine S.nil ?_
          refine C.blockEnd ?_
          refine C.next ?_
          refine C.region [(false,0),(false,1),(false,2)] rfl ?_
          refine L.move rfl rfl rfl trivial ?_
          refine L.add rfl rfl rfl (by simp only [inK]; omega) rfl trivial ?_
          refine L.assign rfl rfl rfl trivial ?_
          refine L.nil ?_
          exact C.againR 33 (b + 1, pv3, D10) ⟨by simp only; omega, by simp only; rw [upB_yes hb1 hbit hsel]; exact hpv3⟩ (by simp only; omega) ⟨(by first | rfl | (show some (Value.int _ _) = some (Value.int _ _); congr 2; omega)), trivial⟩ rfl rfl ((by rw [upB_yes hb1 hbit hsel]; exact List.Sublist.refl _)) (fun D0 h => by simp only [List.mem_cons, List.not_mem_nil, or_false] at h; rcases h with h | h; exact ⟨D10, by simp, h ▸ Le.refl _⟩; exact ⟨D, by simp, h ▸ Le.refl _⟩)
      · have hsel : (!w.testBit b && nearB y f b) = false := add_sel hx hz hc4
        refine C.skip ?_
        refine C.blockEnd ?_
        refine C.next ?_
        refine C.region [(false,0),(false,1),(false,2)] rfl ?_
        refine L.move rfl rfl rfl trivial ?_
        refine L.add rfl rfl rfl (by simp only [inK]; omega) rfl trivial ?_
        refine L.assign rfl rfl rfl trivial ?_
        refine L.nil ?_
        exact C.againR 18 (b + 1, pv2, Dn) ⟨by simp only; omega, by simp only; rw [upB_no hsel]; exact hpv2⟩ (by simp only; omega) ⟨(by first | rfl | (show some (Value.int _ _) = some (Value.int _ _); congr 2; omega)), trivial⟩ rfl rfl ((by rw [upB_no hsel]; exact List.Sublist.refl _)) (fun D0 h => by simp only [List.mem_cons, List.not_mem_nil, or_false] at h; rcases h with h | h; exact ⟨Dn, by simp, h ▸ Le.refl _⟩; exact ⟨D, by simp, h ▸ Le.refl _⟩)
    · simp only at hc3
      refine C.exit ?_
      refine C.thenExit ?_
      refine C.thenExit ?_
      refine C.blockExit ?_
      exact leaveMany (A := []) (ν' := [_, _]) (B := []) (vs := []) rfl rfl rfl trivial rfl (fun D' hD => ⟨pv2, by rw [upB_end h1 hc3], by rw [upB_end h1 hc3]; exact hpv2.up R2.up (hD _ (by simp))⟩)
end Go.Fs
namespace Go.Fs
open Go.Proofs
open C7
theorem mem_fold {y : YardD} {out : List Int} : ∀ (ts : List (List Pt)) (acc : List (Sc × Nat)), (∀ p ∈ acc, p.2 = mostS y.chairs.length p.1) → ∀ p, p ∈ ts.foldl (addSc y out) acc ↔ p ∈ acc ∨ ∃ t ∈ ts, rightO y.claims out (mostT y t : Int) = true ∧ p = (sceneD y t, mostT y t)
  | [], acc, _, p => by simp
  | t :: ts, acc, h, p => by
    rw [List.foldl_cons]
    have h' : ∀ p ∈ addSc y out acc t, p.2 = mostS y.chairs.length p.1 := fun p hp => by
      unfold addSc at hp
      split at hp
      · rcases List.mem_append.1 hp with hp | hp
        · exact h p hp
        · simp only [List.mem_singleton] at hp; subst hp; rfl
      · exact h p hp
    rw [mem_fold ts _ h' p]
    have key : p ∈ addSc y out acc t ↔ p ∈ acc ∨ (rightO y.claims out (mostT y t : Int) = true ∧ p = (sceneD y t, mostT y t)) := by
      unfold addSc
      split
      · rename_i hc
        rw [Bool.and_eq_true] at hc
        rw [List.mem_append, List.mem_singleton]
        exact ⟨fun h => h.imp id fun e => ⟨hc.1, e⟩, fun h => h.imp id fun e => e.2⟩
      · rename_i hc
        refine ⟨Or.inl, fun h3 => ?_⟩
        rcases h3 with h3 | ⟨hr, rfl⟩
        · exact h3
        · have hr' : rightO y.claims out (mostS y.chairs.length (sceneD y t) : Int) = true := hr
          rw [hr', Bool.true_and, Bool.not_eq_true, Bool.or_eq_false_iff, decide_eq_false_iff_not, Bool.not_eq_false', beq_iff_eq] at hc
          obtain ⟨hc1, hc2⟩ := hc
          have hne : acc ≠ [] := fun e => hc1 (by rw [e]; rfl)
          unfold lastI at hc2
          rw [List.getLast?_eq_some_getLast hne] at hc2
          have h4 := scI_inj hc2
          have h5 := h _ (List.getLast_mem hne)
          have : acc.getLast hne = (sceneD y t, mostT y t) := Prod.ext h4 (by rw [h5, h4]; rfl)
          rw [← this]; exact List.getLast_mem hne
    rw [key]
    constructor
    · rintro ((h1 | h1) | ⟨s, h1, h2⟩)
      · exact Or.inl h1
      · exact Or.inr ⟨t, List.mem_cons_self, h1⟩
      · exact Or.inr ⟨s, List.mem_cons_of_mem _ h1, h2⟩
    · rintro (h1 | ⟨s, h1, h2⟩)
      · exact Or.inl (Or.inl h1)
      · rcases List.mem_cons.1 h1 with rfl | h1
        · exact Or.inl (Or.inr h2)
        · exact Or.inr ⟨s, h1, h2⟩
theorem mem_scenes {y : YardD} {out : List Int} {p : Sc × Nat} : p ∈ scenesD y out ↔ ∃ t, isTruth y t = true ∧ rightO y.claims out (mostT y t : Int) = true ∧ p = (sceneD y t, mostT y t) := by
  unfold scenesD
  rw [mem_fold _ _ (by simp)]
  simp only [List.not_mem_nil, false_or, mem_truthsD]
theorem scenes_sc {y : YardD} (h : YOk y) (out : List Int) : ∀ s ∈ (scenesD y out).map fun p => p.1, ScOk y.chairs.length s := fun s hs => by
  obtain ⟨p, hp, rfl⟩ := List.mem_map.1 hs
  obtain ⟨t, ht, _, rfl⟩ := mem_scenes.1 hp
  obtain ⟨hl, _⟩ := truthOk ht
  have := h.len
  exact scene_ok' hl (by omega)
/-- What Sure returns. -/
def sureV (y : YardD) : List (Int × Int) × Int × Int := if fault y ≠ 0 then ([], 0, fault y) else if scenesD y [] = [] then ([], 0, 11) else
  (((lvs y y.chairs.length 0 0 []).foldl (upd ((scenesD y []).map fun p => p.1)) ([], -1)).1, ((lvs y y.chairs.length 0 0 []).foldl (upd ((scenesD y []).map fun p => p.1)) ([], -1)).2, 0)
theorem sureR_err {y : YardD} {D : Data} (h : fault y ≠ 0) : ∃ lv, Value.tuple #[.slice none 0 0, .int .i64 0, .int .i64 (fault y)] = .tuple #[lv, .int .i64 (sureV y).2.1, .int .i64 (sureV y).2.2] ∧ Sl D R2 2 lv (sureV y).1 := by
  rw [sureV, if_pos h]; exact ⟨_, rfl, Sl.nil⟩
theorem sureR_nil {y : YardD} {D : Data} (h : fault y = 0) (hn : scenesD y [] = []) : ∃ lv, Value.tuple #[.slice none 0 0, .int .i64 0, .int .i64 11] = .tuple #[lv, .int .i64 (sureV y).2.1, .int .i64 (sureV y).2.2] ∧ Sl D R2 2 lv (sureV y).1 := by
  rw [sureV, if_neg (by omega), if_pos hn]; exact ⟨_, rfl, Sl.nil⟩
theorem sureR_ok {y : YardD} {D : Data} {lv : Value} (h : fault y = 0) (hn : ((scenesD y []).map fun p => p.1) ≠ []) (hS : Sl D R2 2 lv ((lvs y y.chairs.length 0 0 []).foldl (upd ((scenesD y []).map fun p => p.1)) ([], -1)).1) : ∃ lv', Value.tuple #[lv, .int .i64 ((lvs y y.chairs.length 0 0 []).foldl (upd ((scenesD y []).map fun p => p.1)) ([], -1)).2, .int .i64 0] = .tuple #[lv', .int .i64 (sureV y).2.1, .int .i64 (sureV y).2.2] ∧ Sl D R2 2 lv' (sureV y).1 := by
  rw [sureV, if_neg (by omega), if_neg (fun e => hn (by rw [e]; rfl))]; exact ⟨_, rfl, hS⟩
def proveSureV (y : YardD) (l : List (Int × Int)) (many : Int) : Bool := if (decide (fault y ≠ 0) || !(prB y.chairs.length l).isSome) = true then false else decide (0 < ((scenesD y []).length : Int)) && decide (sureZ ((scenesD y []).map fun p => p.1) l ≥ many)
theorem ps_go {y : YardD} {l : List (Int × Int)} (h : (decide (fault y ≠ 0) || !(prB y.chairs.length l).isSome) = false) : fault y = 0 ∧ (prB y.chairs.length l).isSome = true := by
  simpa using h
theorem ps_no {y : YardD} {l : List (Int × Int)} {many : Int} (h : (decide (fault y ≠ 0) || !(prB y.chairs.length l).isSome) = true) : proveSureV y l many = false := by unfold proveSureV; rw [if_pos h]
theorem ps_yes {y : YardD} {l : List (Int × Int)} {many : Int} (h : fault y = 0) (h2 : (prB y.chairs.length l).isSome = true) : proveSureV y l many = (decide (0 < ((scenesD y []).length : Int)) && decide (sureZ ((scenesD y []).map fun p => p.1) l ≥ many)) := by
  unfold proveSureV; rw [if_neg (by simp [h, h2])]
def takeC (y : YardD) (k : Nat) : YardD := { y with claims := y.claims.take k }
def firstP (y : YardD) (i : Nat) : Bool := !decide (0 < ((scenesD (takeC y (i + 1)) []).length : Int))
/-- What First returns. -/
def firstV (y : YardD) : Int × Int := if fault y ≠ 0 then (0, fault y) else match (List.range y.claims.length).find? (firstP y) with
  | some i => ((i : Int), 0)
  | none => (0, 7)
def tryL (f : Nat → List Int → Bool × List Int) : List Nat → List Int → Bool × List Int
  | [], fnd => (false, fnd)
  | i :: is, fnd => if (f i fnd).1 = true then (true, (f i fnd).2) else tryL f is (f i fnd).2
/-- Some more claims, from one on, are left out: is there a truth; and which ones were tried last. -/
def lvG (y : YardD) : Nat → Nat → List Int → List Int → Bool × List Int
  | 0, _, out, _ => (decide (0 < ((scenesD y out).length : Int)), out)
  | m + 1, f, out, fnd => tryL (fun i fnd => lvG y m (i + 1) (out ++ [(i : Int)]) fnd) (List.range' f (y.claims.length - m - f)) fnd
theorem try_yes {y : YardD} {m i : Nat} {out fnd : List Int} (hge : i + m < y.claims.length) (h : (lvG y m (i + 1) (out ++ [(i : Int)]) fnd).1 = true) : tryL (fun i fnd => lvG y m (i + 1) (out ++ [(i : Int)]) fnd) (List.range' i (y.claims.length - m - i)) fnd = (true, (lvG y m (i + 1) (out ++ [(i : Int)]) fnd).2) := by
  rw [show y.claims.length - m - i = (y.claims.length - m - i - 1) + 1 by omega, List.range'_succ, tryL, if_pos h]
theorem try_no {y : YardD} {m i : Nat} {out fnd : List Int} (hge : i + m < y.claims.length) (h : (lvG y m (i + 1) (out ++ [(i : Int)]) fnd).1 = false) : tryL (fun i fnd => lvG y m (i + 1) (out ++ [(i : Int)]) fnd) (List.range' i (y.claims.length - m - i)) fnd = tryL (fun i fnd => lvG y m (i + 1) (out ++ [(i : Int)]) fnd) (List.range' (i + 1) (y.claims.length - m - (i + 1))) (lvG y m (i + 1) (out ++ [(i : Int)]) fnd).2 := by
  conv => lhs; rw [show y.claims.length - m - i = (y.claims.length - m - (i + 1)) + 1 by omega, List.range'_succ, tryL, if_neg (by rw [h]; simp)]
theorem try_end {y : YardD} {m i : Nat} {out fnd : List Int} (hge : ¬ i + m < y.claims.length) : tryL (fun i fnd => lvG y m (i + 1) (out ++ [(i : Int)]) fnd) (List.range' i (y.claims.length - m - i)) fnd = (false, fnd) := by
  rw [show y.claims.length - m - i = 0 by omega]; rfl
theorem tryS_yes {y : YardD} {m : Nat} {fnd : List Int} (hm : m ≤ y.claims.length) (h : (lvG y m 0 [] fnd).1 = true) : (tryL (fun m fnd => lvG y m 0 [] fnd) (List.range' m (y.claims.length + 1 - m)) fnd).2 = (lvG y m 0 [] fnd).2 := by
  rw [show y.claims.length + 1 - m = (y.claims.length - m) + 1 by omega, List.range'_succ, tryL, if_pos h]
theorem tryS_no {y : YardD} {m : Nat} {fnd : List Int} (hm : m ≤ y.claims.length) (h : (lvG y m 0 [] fnd).1 = false) : tryL (fun m fnd => lvG y m 0 [] fnd) (List.range' m (y.claims.length + 1 - m)) fnd = tryL (fun m fnd => lvG y m 0 [] fnd) (List.range' (m + 1) (y.claims.length + 1 - (m + 1))) (lvG y m 0 [] fnd).2 := by
  conv => lhs; rw [show y.claims.length + 1 - m = (y.claims.length + 1 - (m + 1)) + 1 by omega, List.range'_succ, tryL, if_neg (by rw [h]; simp)]
theorem unf_c3 {b0 t0 wb mb t cl : Nat} {c0 cs : List Value} {es : Array MapEntry} : ∀ p ∈ [(b0, Obj.cells c0.toArray t0 (0, 0)), (wb, Obj.cells cs.toArray t (0, 0)), (mb, .map es cl)], unfrozen p.2 := by
  intro p hp
  simp only [List.mem_cons, List.not_mem_nil, or_false] at hp
  rcases hp with rfl | rfl | rfl
  · rfl
  · rfl
  · trivial
/-- What Leave returns. -/
def leaveV (y : YardD) : List Int × Int := if fault y ≠ 0 then ([], fault y) else ((tryL (fun m fnd => lvG y m 0 [] fnd) (List.range' 0 (y.claims.length + 1 - 0)) []).2, 0)
theorem leaveR_err {y : YardD} {D : Data} (h : fault y ≠ 0) : ∃ lv, Value.tuple #[.slice none 0 0, .int .i64 (fault y)] = .tuple #[lv, .int .i64 (leaveV y).2] ∧ Sl D RI 1 lv (leaveV y).1 := by
  rw [leaveV, if_pos h]; exact ⟨_, rfl, Sl.nil⟩
theorem leaveR_ok {y : YardD} {D : Data} {lv : Value} {l : List Int} (h : fault y = 0) (hl : (tryL (fun m fnd => lvG y m 0 [] fnd) (List.range' 0 (y.claims.length + 1 - 0)) []).2 = l) (hS : Sl D RI 1 lv l) : ∃ lv', Value.tuple #[lv, .int .i64 0] = .tuple #[lv', .int .i64 (leaveV y).2] ∧ Sl D RI 1 lv' (leaveV y).1 := by
  rw [leaveV, if_neg (by omega), hl]; exact ⟨_, rfl, hS⟩
theorem Sure_ok (yv : Value) (y : YardD) (D : Data) (hy : YardIs D yv y) : Fn Try.prog 43 #[yv] D (fun D' v => ∃ lv, v = .tuple #[lv, .int .i64 (sureV y).2.1, .int .i64 (sureV y).2.2] ∧ Sl D' R2 2 lv (sureV y).1) := by
  have hy0 := hy
  obtain ⟨cv, qv, rfl, hc, hq⟩ := hy
  refine enter 30 Try.func43 rfl rfl rfl rfl fun h0 => ?_
  refine C.seq ?_
  refine C.region [(false,0),(false,1),(false,2),(false,3)] rfl ?_
  refine L.boxD rfl rfl rfl rfl trivial (fun q1 E1 hE1 hB1 => ?_)
  refine L.alloc rfl Tf.z30 rfl rfl trivial (fun q2 => ?_)
  refine L.alloc rfl Tf.z3 rfl rfl trivial (fun q3 => ?_)
  refine L.assign rfl rfl rfl trivial ?_
  refine L.nil ?_
  refine C.next ?_
  refine C.seq ?_
  refine C.seq ?_
  refine C.region [(false,0),(false,1),(false,2)] rfl ?_
  refine L.loadDW rfl Tf.a37 rfl hB1 (by first | simp | assumption) Tf.s37 List.not_mem_nil rfl trivial ?_
  refine L.callV rfl rfl rfl (fun D1 hD1 => CheckYard_ok _ y _ (hy0.up (hD1 _ (by simp)))) rfl trivial ?_
  refine L.assign rfl rfl rfl trivial ?_
  refine L.nil ?_
  refine C.next ?_
  refine C.seq ?_
  refine C.region [(false,0),(false,1)] rfl ?_
  refine L.move rfl rfl rfl trivial ?_
  refine L.neq rfl rfl rfl rfl trivial ?_
  refine L.nil ?_
  refine C.next ?_
  refine C.condD rfl (fun hc1 => ?_) (fun hc1 => ?_)
  · refine C.seq ?_
    refine C.region [(false,0),(false,1),(false,2),(false,3)] rfl ?_
    refine L.move rfl rfl rfl trivial ?_
    refine L.store rfl rfl rfl rfl Tf.s30 (.tail (Has.head)) (by simp) rfl (by simp [cell1]) trivial ?_
    refine L.store rfl rfl rfl rfl Tf.s3 (Has.head) (by simp) rfl (by simp [cell1]) trivial ?_
    refine L.assign rfl rfl rfl trivial ?_
    refine L.nil ?_
    refine C.next ?_
    refine C.ret ?_
    refine C.thenRet ?_
    exact leave (vs := [_, _, _]) rfl rfl rfl ⟨⟨_, _, _, rfl, (List.Mem.tail _ (List.Mem.head _)), Or.inl ⟨Tf.a30, rfl⟩⟩, ⟨_, _, _, rfl, (List.Mem.head _), Or.inl ⟨Tf.a3, rfl⟩⟩, rfl, trivial⟩ (fun D hD => sureR_err hc1)
  · have hf0 : fault y = 0 := by omega
    have hyo := yOk hf0
    have hn7 := hyo.len
    refine C.skip ?_
    refine C.next ?_
    refine C.seq ?_
    refine C.region [(false,0),(false,1),(false,2)] rfl ?_
    refine L.loadDW rfl Tf.a37 rfl hB1 (by first | simp | assumption) Tf.s37 List.not_mem_nil rfl trivial ?_
    refine L.callO (μ := _) rfl rfl rfl (fun D5 hD5 => work_ok _ y _ _ D5 rfl) rfl trivial (fun v5 D6 _ hD6 hp5 => ?_)
    obtain ⟨wb, mb, rfl, rfl⟩ := hp5
    refine L.assign rfl rfl rfl trivial ?_
    refine L.nil ?_
    refine C.next ?_
    refine C.seq ?_
    refine C.region [(false,0),(false,1),(false,2),(false,3),(false,4),(false,5),(false,6),(false,7)] rfl ?_
    refine L.move rfl rfl rfl trivial ?_
    refine L.boxesEq ([] ++ [(_, _), (_, _)] ++ ([(_, _), (_, _)])) rfl ?_
    refine L.callM (A := []) (ν := [(_, _), (_, _)]) (B := [(_, _), (_, _)]) rfl rfl rfl rfl (Or.inl rfl) (unf_w (cs := [_, _, _, _])) (fun D7 hD7 => scenes_ok wb mb _ _ y [] _ hn7 hyo.fit hyo.size #[] 0 [] _ (hc.up RCh.up (hD7 _ (by simp))) (hq.up R2.up (hD7 _ (by simp))) Sl.nil rfl MOk.nil) rfl trivial (fun v7 D8 _ hD8 hp7 => ?_)
    obtain ⟨sv, mv, rfl, hsv, hmv, es1, cl1, M1, rfl, hM1, hok1⟩ := hp7
    refine L.move rfl rfl rfl trivial ?_
    refine L.extract rfl rfl rfl rfl trivial ?_
    refine L.extract rfl rfl rfl rfl trivial ?_
    refine L.alloc rfl Tf.z135 rfl rfl trivial (fun q4 => ?_)
    refine L.store rfl rfl rfl hsv.cells1 Tf.s135 .head (by simp) rfl hsv.cell1 trivial ?_
    refine L.assign rfl rfl rfl trivial ?_
    refine L.nil ?_
    refine C.next ?_
    refine C.seq ?_
    refine C.seq ?_
    refine C.freezeBox (A := []) (b := q4) (cells := [sv]) rfl (fun D20 hD20 hV => ?_)
    refine C.region [(false,0),(false,1),(false,2)] rfl ?_
    refine L.loadD1 rfl (k := 0) Tf.a135 rfl hV (by first | simp | assumption) rfl List.not_mem_nil rfl trivial ?_
    refine L.len rfl Try.underlying135 rfl hsv rfl rfl trivial ?_
    refine L.eql rfl rfl rfl rfl trivial ?_
    refine L.nil ?_
    refine C.next ?_
    refine C.condD rfl (fun hc2 => ?_) (fun hc2 => ?_)
    · have hnil : scenesD y [] = [] := by simpa using hc2
      refine C.seq ?_
      refine C.region [(false,0),(false,1),(false,2)] rfl ?_
      refine L.store rfl rfl rfl rfl Tf.s30 (.tail (.tail (.tail (Has.head)))) (by simp) rfl (by simp [cell1]) trivial ?_
      refine L.store rfl rfl rfl rfl Tf.s3 (.tail (.tail (Has.head))) (by simp) rfl (by simp [cell1]) trivial ?_
      refine L.assign rfl rfl rfl trivial ?_
      refine L.nil ?_
      refine C.next ?_
      refine C.ret ?_
      refine C.thenRet ?_
      exact leave (vs := [_, _, _]) rfl rfl rfl ⟨⟨_, _, _, rfl, (List.Mem.tail _ (List.Mem.tail _ (List.Mem.tail _ (List.Mem.head _)))), Or.inl ⟨Tf.a30, rfl⟩⟩, ⟨_, _, _, rfl, (List.Mem.tail _ (List.Mem.tail _ (List.Mem.head _))), Or.inl ⟨Tf.a3, rfl⟩⟩, rfl, trivial⟩ (fun D hD => sureR_nil hf0 hnil)
    · have hne : ((scenesD y []).map fun p : Sc × Nat => p.1) ≠ [] := fun e => hc2 (by rw [e]; rfl)
      have hsc := scenes_sc hyo []
      refine C.skip ?_
      refine C.next ?_
      refine C.seq ?_
      refine C.region [(false,0)] rfl ?_
      refine L.store rfl rfl rfl rfl Tf.s3 (.tail (.tail (Has.head))) (by simp) rfl (by simp [cell1]) trivial ?_
      refine L.nil ?_
      refine C.next ?_
      refine C.seq ?_
      refine C.region [(false,0)] rfl ?_
      refine L.alloc rfl Tf.z142 rfl rfl trivial (fun q5 => ?_)
      refine L.nil ?_
      refine C.next ?_
      refine C.seq ?_
      refine C.region [(false,0),(false,1)] rfl ?_
      refine L.makeFunc rfl rfl rfl rfl trivial ?_
      refine L.store rfl rfl rfl rfl Tf.s142 (Has.head) (by simp) rfl (by simp [cell1]) trivial ?_
      refine L.nil ?_
      refine C.next ?_
      refine C.seq ?_
      refine C.freezeBox (A := []) (b := q5) (cells := [.func (.func 89) #[] #[.pointer (some ⟨q1, 0, none⟩), .pointer (some ⟨q4, 0, none⟩), .pointer (some ⟨q3, 0, none⟩), .pointer (some ⟨q2, 0, none⟩), .pointer (some ⟨q5, 0, none⟩)]]) rfl (fun D21 hD21 hF => ?_)
      refine C.region [(false,0),(false,1)] rfl ?_
      refine L.loadD1 rfl (k := 0) Tf.a142 rfl hF (by first | simp | assumption) rfl List.not_mem_nil rfl trivial ?_
      refine L.boxesEq ([(_, _), (_, _)] ++ [(_, _), (_, _)] ++ ([])) rfl ?_
      refine L.callM (A := [(_, _), (_, _)]) (ν := [(_, _), (_, _)]) (B := []) rfl rfl rfl rfl (Or.inl rfl) unf_cc (fun D11 hD11 => add_ok hyo hne hsc y.chairs.length 0 (by omega) 0 [] (.slice none 0 0) [] (-1) (.slice none 0 0) _ (by omega) (fun p hp => by cases hp) (by simp) Sl.nil Sl.nil (hc.up RCh.up (hD11 _ (by simp))) (hq.up R2.up (hD11 _ (by simp))) (hB1.up (hD11 _ (by simp))) (hV.up (hD11 _ (by simp))) (hsv.up RSc.up (hD11 _ (by simp))) (hF.up (hD11 _ (by simp)))) rfl trivial (fun v11 D12 _ hD12 hp11 => ?_)
      obtain ⟨pv1, rfl, hpv1⟩ := hp11
      refine L.nil ?_
      refine C.next ?_
      refine C.seq ?_
      refine C.draw [] 1 [0,1,2,3,4] [false,true,true,false,false] [(false,0),(true,1),(true,2),(false,3),(false,4)] Tf.follows (fun _ _ _ h => np_body (P := Try.prog) (fn := Try.f43) _ _ _ h) (by kernel_rfl) rfl ?_
      refine L.loadB1 rfl Tf.a30 rfl (List.Mem.tail _ (List.Mem.tail _ (List.Mem.tail _ (List.Mem.head _)))) rfl List.not_mem_nil rfl trivial ?_
      refine L.loadB1 rfl Tf.a3 rfl (List.Mem.tail _ (List.Mem.tail _ (List.Mem.head _))) rfl List.not_mem_nil rfl trivial ?_
      refine L.storeS rfl rfl rfl hpv1.cells1 Tf.s30 (.tail (.tail (.tail .head))) (by simp) rfl hpv1.cell1 trivial ?_
      refine L.store rfl rfl rfl rfl Tf.s3 (.tail (.tail (Has.head))) (by simp) rfl (by simp [cell1]) trivial ?_
      refine L.assign rfl rfl rfl trivial ?_
      refine L.nil ?_
      refine C.next ?_
      refine C.ret ?_
      exact leave (vs := [_, _, _]) rfl rfl rfl ⟨⟨_, _, _, rfl, (List.Mem.tail _ (List.Mem.tail _ (List.Mem.tail _ (List.Mem.head _)))), Or.inl ⟨Tf.a30, rfl⟩⟩, ⟨_, _, _, rfl, (List.Mem.tail _ (List.Mem.tail _ (List.Mem.head _))), Or.inl ⟨Tf.a3, rfl⟩⟩, rfl, trivial⟩ (fun D hD => sureR_ok hf0 hne (hpv1.up R2.up (hD _ (by simp))))
theorem ProveSure_ok (yv lv : Value) (y : YardD) (l : List (Int × Int)) (many : Int) (D : Data) (hy : YardIs D yv y) (hl : Sl D R2 2 lv l) : Fn Try.prog 44 #[yv, lv, .int .i64 many] D (fun _ v => v = .bool (proveSureV y l many)) := by
  have hy0 := hy
  obtain ⟨cv, qv, rfl, hc, hq⟩ := hy
  refine enter 34 Try.func44 rfl rfl rfl rfl fun h0 => ?_
  refine C.seq ?_
  refine C.region [(false,0),(false,1)] rfl ?_
  refine L.boxD rfl rfl rfl rfl trivial (fun q1 E1 hE1 hB1 => ?_)
  refine L.assign rfl rfl rfl trivial ?_
  refine L.nil ?_
  refine C.next ?_
  refine C.seq ?_
  refine C.seq ?_
  refine C.region [(false,0),(false,1),(false,2),(false,3),(false,4),(false,5),(false,6),(false,7),(false,8)] rfl ?_
  refine L.loadDW rfl Tf.a37 rfl hB1 (by first | simp | assumption) Tf.s37 List.not_mem_nil rfl trivial ?_
  refine L.callV rfl rfl rfl (fun D1 hD1 => CheckYard_ok _ y _ (hy0.up (hD1 _ (by simp)))) rfl trivial ?_
  refine L.neq rfl rfl rfl rfl trivial ?_
  refine L.move rfl rfl rfl trivial ?_
  refine' L.or [(false,4),(false,5),(false,6),(false,7),(false,8)] [] (s := 12) (p := 17) rfl rfl (fun hg1 => ?_) (fun hg1 => ?_) ?_
  rotate_left
  · have hn7g : y.chairs.length ≤ 7 := (yOk (by simpa using hg1)).len
    refine L.loadDW rfl Tf.a37 rfl hB1 (by first | simp | assumption) Tf.s37 List.not_mem_nil rfl ⟨_, rfl, rfl⟩ ?_
    refine L.move rfl rfl rfl ⟨_, rfl, rfl⟩ ?_
    refine L.callV rfl rfl rfl (fun D2 hD2 => paired_ok _ _ y l _ (hy0.up (hD2 _ (by simp))) (hl.up R2.up (hD2 _ (by simp))) hn7g) rfl ⟨_, rfl, rfl⟩ ?_
    refine L.not rfl rfl rfl ⟨_, rfl, rfl⟩ ?_
    refine L.pickF rfl rfl rfl rfl trivial ?_
    exact L.nil fun a w hh => hh.cutK 4 rfl
  · refine L.pass rfl rfl rfl ⟨_, _, rfl, rfl, rfl⟩ ?_
    refine L.pass rfl rfl rfl ⟨_, _, rfl, rfl, rfl⟩ ?_
    refine L.pass rfl rfl rfl ⟨_, _, rfl, rfl, rfl⟩ ?_
    refine L.pass rfl rfl rfl ⟨_, _, rfl, rfl, rfl⟩ ?_
    refine L.pickT rfl rfl rfl rfl trivial ?_
    exact L.nil fun a w hh => hh.cutK 4 rfl
  refine L.nil ?_
  refine C.next ?_
  refine C.cond rfl (fun hc1 => ?_) (fun hc1 => ?_)
  · refine C.seq ?_
    refine C.region [(false,0)] rfl ?_
    refine L.assign rfl rfl rfl trivial ?_
    refine L.nil ?_
    refine C.next ?_
    refine C.ret ?_
    refine C.thenRet ?_
    exact leave (vs := [_]) rfl rfl rfl ⟨rfl, trivial⟩ (fun D hD => by show Value.bool _ = _; rw [ps_no hc1])
  · obtain ⟨hf0, hpr⟩ := ps_go hc1
    have hyo := yOk hf0
    have hn7 := hyo.len
    obtain ⟨hpo, hpl⟩ := prB_ok hn7 hpr
    refine C.skip ?_
    refine C.next ?_
    refine C.seq ?_
    refine C.region [(false,0),(false,1),(false,2),(false,3),(false,4),(false,5),(false,6),(false,7)] rfl ?_
    refine L.loadDW rfl Tf.a37 rfl hB1 (by first | simp | assumption) Tf.s37 List.not_mem_nil rfl trivial ?_
    refine L.callO (μ := _) rfl rfl rfl (fun D5 hD5 => work_ok _ y _ _ D5 rfl) rfl trivial (fun v5 D6 _ hD6 hp5 => ?_)
    obtain ⟨wb, mb, rfl, rfl⟩ := hp5
    refine L.callM (A := []) (ν := [(_, _), (_, _)]) (B := []) rfl rfl rfl rfl (Or.inl rfl) (unf_w (cs := [_, _, _, _])) (fun D7 hD7 => scenes_ok wb mb _ _ y [] _ hn7 hyo.fit hyo.size #[] 0 [] _ (hc.up RCh.up (hD7 _ (by simp))) (hq.up R2.up (hD7 _ (by simp))) Sl.nil rfl MOk.nil) rfl trivial (fun v7 D8 _ hD8 hp7 => ?_)
    obtain ⟨sv, mv, rfl, hsv, hmv, es1, cl1, M1, rfl, hM1, hok1⟩ := hp7
    refine L.move rfl rfl rfl trivial ?_
    refine L.extract rfl rfl rfl rfl trivial ?_
    refine L.extract rfl rfl rfl rfl trivial ?_
    refine L.assign rfl rfl rfl trivial ?_
    refine L.assign rfl rfl rfl trivial ?_
    refine L.nil ?_
    refine C.next ?_
    refine C.seq ?_
    refine C.region [(false,0),(false,1),(false,2),(false,3),(false,4),(false,5),(false,6),(false,7),(false,8),(false,9),(false,10)] rfl ?_
    refine L.move rfl rfl rfl trivial ?_
    refine L.len rfl Try.underlying135 rfl hsv rfl rfl trivial ?_
    refine L.gtr rfl rfl rfl rfl trivial ?_
    refine L.move rfl rfl rfl trivial ?_
    refine' L.and [(false,4),(false,5),(false,6),(false,7),(false,8),(false,9)] [(false,10)] (s := 27) (p := 33) rfl rfl (fun hg2 => ?_) (fun hg2 => ?_) ?_
    rotate_left
    · have hne : ((scenesD y []).map fun p : Sc × Nat => p.1) ≠ [] := fun e => by rw [e] at hg2; simp at hg2
      refine L.move rfl rfl rfl ⟨_, rfl, rfl⟩ ?_
      refine L.move rfl rfl rfl ⟨_, rfl, rfl⟩ ?_
      refine L.callV rfl rfl rfl (fun D3 hD3 => sure_ok _ _ ((scenesD y []).map fun p : Sc × Nat => p.1) l y.chairs.length _ (hsv.up RSc.up (hD3 _ (by simp))) (hl.up R2.up (hD3 _ (by simp))) hne (scenes_sc hyo []) hpo (by omega)) rfl ⟨_, rfl, rfl⟩ ?_
      refine L.move rfl rfl rfl ⟨_, rfl, rfl⟩ ?_
      refine L.geq rfl rfl rfl rfl ⟨_, rfl, rfl⟩ ?_
      refine L.pickT rfl rfl rfl rfl trivial ?_
      exact L.nil fun a w hh => hh.cutK 5 rfl
    · refine L.pass rfl rfl rfl ⟨_, _, rfl, rfl, rfl⟩ ?_
      refine L.pass rfl rfl rfl ⟨_, _, rfl, rfl, rfl⟩ ?_
      refine L.pass rfl rfl rfl ⟨_, _, rfl, rfl, rfl⟩ ?_
      refine L.pass rfl rfl rfl ⟨_, _, rfl, rfl, rfl⟩ ?_
      refine L.pass rfl rfl rfl ⟨_, _, rfl, rfl, rfl⟩ ?_
      refine L.pickF rfl rfl rfl rfl trivial ?_
      exact L.nil fun a w hh => hh.cutK 5 rfl
    refine L.assign rfl rfl rfl trivial ?_
    refine L.nil ?_
    refine C.next ?_
    refine C.ret ?_
    exact leave (vs := [_]) rfl rfl rfl ⟨rfl, trivial⟩ (fun D hD => by show Value.bool _ = _; rw [ps_yes hf0 hpr, List.length_map])
theorem First_ok (yv : Value) (y : YardD) (D : Data) (hy : YardIs D yv y) : Fn Try.prog 47 #[yv] D (fun _ v => v = .tuple #[.int .i64 (firstV y).1, .int .i64 (firstV y).2]) := by
  have hy0 := hy
  obtain ⟨cv, qv, rfl, hc, hq⟩ := hy
  have hql := hq.len
  refine enter 34 Try.func47 rfl rfl rfl rfl fun h0 => ?_
  refine C.seq ?_
  refine C.region [(false,0),(false,1),(false,2)] rfl ?_
  refine L.boxD rfl rfl rfl rfl trivial (fun q1 E1 hE1 hB1 => ?_)
  refine L.assign rfl rfl rfl trivial ?_
  refine L.assign rfl rfl rfl trivial ?_
  refine L.nil ?_
  refine C.next ?_
  refine C.seq ?_
  refine C.seq ?_
  refine C.region [(false,0),(false,1),(false,2)] rfl ?_
  refine L.loadDW rfl Tf.a37 rfl hB1 (by first | simp | assumption) Tf.s37 List.not_mem_nil rfl trivial ?_
  refine L.callV rfl rfl rfl (fun D1 hD1 => CheckYard_ok _ y _ (hy0.up (hD1 _ (by simp)))) rfl trivial ?_
  refine L.assign rfl rfl rfl trivial ?_
  refine L.nil ?_
  refine C.next ?_
  refine C.seq ?_
  refine C.region [(false,0),(false,1)] rfl ?_
  refine L.move rfl rfl rfl trivial ?_
  refine L.neq rfl rfl rfl rfl trivial ?_
  refine L.nil ?_
  refine C.next ?_
  refine C.condD rfl (fun hc1 => ?_) (fun hc1 => ?_)
  · refine C.seq ?_
    refine C.region [(false,0),(false,1),(false,2)] rfl ?_
    refine L.move rfl rfl rfl trivial ?_
    refine L.assign rfl rfl rfl trivial ?_
    refine L.assign rfl rfl rfl trivial ?_
    refine L.nil ?_
    refine C.next ?_
    refine C.ret ?_
    refine C.thenRet ?_
    exact leave (vs := [_, _]) rfl rfl rfl ⟨rfl, rfl, trivial⟩ (fun D hD => by show Value.tuple _ = _; rw [firstV, if_pos hc1])
  · have hf0 : fault y = 0 := by omega
    have hyo := yOk hf0
    have hn7 := hyo.len
    refine C.skip ?_
    refine C.next ?_
    refine C.seq ?_
    refine C.region [(false,0),(false,1),(false,2)] rfl ?_
    refine L.loadDW rfl Tf.a37 rfl hB1 (by first | simp | assumption) Tf.s37 List.not_mem_nil rfl trivial ?_
    refine L.callO (μ := _) rfl rfl rfl (fun D5 hD5 => work_ok _ y _ _ D5 rfl) rfl trivial (fun v5 D6 _ hD6 hp5 => ?_)
    obtain ⟨wb, mb, rfl, rfl⟩ := hp5
    refine L.assign rfl rfl rfl trivial ?_
    refine L.nil ?_
    refine C.next ?_
    refine C.seq ?_
    refine C.seq ?_
    refine C.region [(false,0),(false,1),(false,2),(false,3)] rfl ?_
    refine L.fieldAddr rfl Tf.f37_2 rfl rfl trivial ?_
    refine L.loadD1 rfl (k := 2) Tf.a35 rfl hB1 (by first | simp | assumption) rfl List.not_mem_nil rfl trivial ?_
    refine L.len rfl Try.underlying35 rfl hq rfl rfl trivial ?_
    refine L.move rfl rfl rfl trivial ?_
    refine L.nil ?_
    refine C.next ?_
    refine C.block ?_
    refine C.loopR (γ := Nat × Value × Array MapEntry × Nat × List (Ints 8 × Int)) (fun g => y.claims.length - g.1) (fun g => g.1 ≤ y.claims.length ∧ MapG kaV g.2.2.1 g.2.2.2.2 ∧ MOk y.chairs.length g.2.2.2.2 ∧ ∀ j, j < g.1 → firstP y j = false) (fun g => [(17, .int .i64 (g.1 : Int))]) [(16, _), (5, _), (3, _), (2, _), (1, _)] (fun g => [(wb, .cells [cv, .int .i64 y.fit, g.2.1, .map (some mb)].toArray 148 (0, 0)), (mb, .map g.2.2.1 g.2.2.2.1)]) (fun g => [D6, E1, D]) (0, qv, #[], 0, []) ⟨by simp, rfl, MOk.nil, by simp⟩ ⟨(by first | rfl | (show some (Value.int _ _) = some (Value.int _ _); congr 2; omega)), trivial⟩ ⟨rfl, rfl, rfl, rfl, rfl, trivial⟩ (List.Sublist.refl _) (ds_same) ?_
    rintro ⟨i, q0, es, cl, Mm⟩ ⟨h1, hM, hok, hno⟩
    simp only at h1 hM hok hno
    refine C.seq ?_
    refine C.region [(false,0)] rfl ?_
    refine L.lss rfl rfl rfl rfl trivial ?_
    refine L.nil ?_
    refine C.next ?_
    refine C.seq ?_
    refine C.condD rfl (fun hc2 => ?_) (fun hc2 => ?_)
    · have hi : i < y.claims.length := by omega
      refine C.skip ?_
      refine C.next ?_
      refine C.seq ?_
      refine C.block ?_
      refine C.seq ?_
      refine C.region [(false,0),(false,1)] rfl ?_
      refine L.move rfl rfl rfl trivial ?_
      refine L.assign rfl rfl rfl trivial ?_
      refine L.nil ?_
      refine C.next ?_
      refine C.seq ?_
      refine C.region [(false,0),(false,1),(false,2),(false,3),(false,4),(false,5),(false,6),(false,7),(false,8),(false,9)] rfl ?_
      refine L.move rfl rfl rfl trivial ?_
      refine L.fieldAddr rfl Tf.f37_2 rfl rfl trivial ?_
      refine L.loadD1 rfl (k := 2) Tf.a35 rfl hB1 (by first | simp | assumption) rfl List.not_mem_nil rfl trivial ?_
      refine L.move rfl rfl rfl trivial ?_
      refine L.add rfl rfl rfl (by simp only [inK]; omega) rfl trivial ?_
      refine L.sliceTo (k := i + 1) rfl Try.underlying35 Tf.s61 rfl rfl hq (by omega) rfl trivial (fun u hu => ?_)
      refine L.nilCheck rfl rfl rfl trivial ?_
      refine L.fieldAddr rfl Tf.f148_0 rfl rfl trivial ?_
      refine L.fieldAddr rfl Tf.f37_2 rfl rfl trivial ?_
      refine L.store rfl rfl rfl hu.cells1 Tf.s35 .head (by simp) rfl hu.cell1 trivial ?_
      refine L.nil ?_
      refine C.next ?_
      refine C.seq ?_
      refine C.region [(false,0),(false,1),(false,2)] rfl ?_
      refine L.move rfl rfl rfl trivial ?_
      refine L.callM (A := []) (ν := [(_, _), (_, _)]) (B := []) rfl rfl rfl rfl (Or.inl rfl) (unf_w (cs := [_, _, _, _])) (fun D11 hD11 => possible_ok wb mb cv u (takeC y (i + 1)) [] _ hn7 hyo.fit hyo.size es cl Mm _ (hc.up RCh.up (hD11 _ (by simp))) (hu.up R2.up (hD11 _ (by simp))) Sl.nil hM hok) rfl trivial (fun v11 D12 _ hD12 hp11 => ?_)
      obtain ⟨rfl, es1, cl1, M1, rfl, hM1, hok1⟩ := hp11
      refine L.not rfl rfl rfl trivial ?_
      refine L.nil ?_
      refine C.next ?_
      refine C.cond rfl (fun hc3 => ?_) (fun hc3 => ?_)
      · refine C.seq ?_
        refine C.region [(false,0),(false,1),(false,2)] rfl ?_
        refine L.move rfl rfl rfl trivial ?_
        refine L.assign rfl rfl rfl trivial ?_
        refine L.assign rfl rfl rfl trivial ?_
        refine L.nil ?_
        refine C.next ?_
        refine C.ret ?_
        refine C.blockRet ?_
        refine C.thenRet ?_
        refine C.thenRet ?_
        refine C.blockRet ?_
        refine C.thenRet ?_
        exact leave (vs := [_, _]) rfl rfl rfl ⟨rfl, rfl, trivial⟩ (fun D hD => by show Value.tuple _ = _; rw [firstV, if_neg hc1, find_range hi hc3 hno])
      · refine C.skip ?_
        refine C.blockEnd ?_
        refine C.next ?_
        refine C.region [(false,0),(false,1)] rfl ?_
        refine L.add rfl rfl rfl (by simp only [inK]; omega) rfl trivial ?_
        refine L.move rfl rfl rfl trivial ?_
        refine L.nil ?_
        exact C.againR 18 (i + 1, u, es1, cl1, M1) ⟨by simp only; omega, hM1, hok1, fun j hj => by rcases Nat.lt_succ_iff_lt_or_eq.1 hj with h | rfl; exact hno j h; exact hc3⟩ (by simp only; omega) ⟨(by first | rfl | (show some (Value.int _ _) = some (Value.int _ _); congr 2; omega)), trivial⟩ rfl rfl (List.Sublist.refl _) (fun D h => ⟨D, List.Mem.tail _ (h), Le.refl D⟩)
    · obtain rfl : i = y.claims.length := by omega
      refine C.exit ?_
      refine C.thenExit ?_
      refine C.thenExit ?_
      refine C.blockExit ?_
      refine C.next ?_
      refine C.seq ?_
      refine C.region [(false,0),(false,1)] rfl ?_
      refine L.assign rfl rfl rfl trivial ?_
      refine L.assign rfl rfl rfl trivial ?_
      refine L.nil ?_
      refine C.next ?_
      refine C.ret ?_
      exact leave (vs := [_, _]) rfl rfl rfl ⟨rfl, rfl, trivial⟩ (fun D hD => by show Value.tuple _ = _; rw [firstV, if_neg hc1, find_none hno])
theorem try_ok {y : YardD} {cv qv : Value} {bf bW bY bF wb mb : Nat} (hyo : YOk y) :
    ∀ (mm f : Nat) (out : List Int) (ov : Value) (fnd : List Int) (fv : Value) (es : Array MapEntry) (cl : Nat) (Mm : List (Ints 8 × Int)) (D : Data), out.length + mm ≤ 10 → Sl D RI 1 ov out → Sl D RI 1 fv fnd → MapG kaV es Mm → MOk y.chairs.length Mm → Sl D RCh 4 cv y.chairs → Sl D R2 2 qv y.claims → At D bW 0 [.pointer (some ⟨wb, 0, none⟩)] → At D bY 0 [cv, .int .i64 y.fit, qv] → At D bF 0 [.func (.func 94) #[] #[.pointer (some ⟨bf, 0, none⟩), .pointer (some ⟨bW, 0, none⟩), .pointer (some ⟨bY, 0, none⟩), .pointer (some ⟨bF, 0, none⟩)]] →
    FnM Try.prog 94 [ov, .int .i64 (f : Int), .int .i64 (mm : Int), .pointer (some ⟨bf, 0, none⟩), .pointer (some ⟨bW, 0, none⟩), .pointer (some ⟨bY, 0, none⟩), .pointer (some ⟨bF, 0, none⟩)] D [(bf, .cells [fv].toArray 52 (0, 0)), (wb, .cells [cv, .int .i64 y.fit, qv, .map (some mb)].toArray 148 (0, 0)), (mb, .map es cl)] (fun D' v ν' => v = .bool (lvG y mm f out fnd).1 ∧ ∃ fv' es' cl' M', ν' = [(bf, .cells [fv'].toArray 52 (0, 0)), (wb, .cells [cv, .int .i64 y.fit, qv, .map (some mb)].toArray 148 (0, 0)), (mb, .map es' cl')] ∧ Sl D' RI 1 fv' (lvG y mm f out fnd).2 ∧ MapG kaV es' M' ∧ MOk y.chairs.length M') := by
  intro mm
  induction mm using Nat.strongRecOn with
  | _ mm ih =>
  intro f out ov fnd fv es cl Mm D hlen ho hfd hM hok hc hq hW hY hF
  have hn7 := hyo.len
  have hcl := hq.len
  have hc5 := hyo.cls
  refine enterMany 39 Try.func94 rfl rfl rfl rfl (fun h0 hwl hwn => ?_)
  refine C.seq ?_
  refine C.region [(false,0)] rfl ?_
  refine L.assign rfl rfl rfl trivial ?_
  refine L.nil ?_
  refine C.next ?_
  refine C.seq ?_
  refine C.seq ?_
  refine C.region [(false,0),(false,1)] rfl ?_
  refine L.move rfl rfl rfl trivial ?_
  refine L.eql rfl rfl rfl rfl trivial ?_
  refine L.nil ?_
  refine C.next ?_
  refine C.condD rfl (fun hc1 => ?_) (fun hc1 => ?_)
  · obtain rfl : mm = 0 := by omega
    refine C.seq ?_
    refine C.region [(false,0),(false,1)] rfl ?_
    refine L.move rfl rfl rfl trivial ?_
    refine L.store rfl rfl rfl ho.cells1 Tf.s52 .head (by simp) rfl ho.cell1 trivial ?_
    refine L.nil ?_
    refine C.next ?_
    refine C.seq ?_
    refine C.region [(false,0),(false,1),(false,2),(false,3)] rfl ?_
    refine L.loadD1 rfl (k := 0) Tf.a120 rfl hW (by first | simp | assumption) rfl List.not_mem_nil rfl trivial ?_
    refine L.move rfl rfl rfl trivial ?_
    refine L.callMA (A := [(_, _)]) (ν := [(_, _), (_, _)]) rfl rfl rfl rfl (Or.inl rfl) (unf_w (cs := [_, _, _, _])) (fun D11 hD11 => possible_ok wb mb cv qv y out _ hn7 hyo.fit hyo.size es cl Mm _ (hc.up RCh.up (hD11 _ (by simp))) (hq.up R2.up (hD11 _ (by simp))) (ho.up RI.up (hD11 _ (by simp))) hM hok) rfl trivial (fun v11 D12 _ hD12 hp11 => ?_)
    obtain ⟨rfl, es1, cl1, M1, rfl, hM1, hok1⟩ := hp11
    refine L.assign rfl rfl rfl trivial ?_
    refine L.nil ?_
    refine C.next ?_
    refine C.ret ?_
    refine C.thenRet ?_
    exact leaveMany (A := []) (ν' := [_, _, _]) (B := []) (vs := [_]) rfl rfl rfl ⟨rfl, trivial⟩ rfl (fun D' hD => ⟨rfl, ov, es1, cl1, M1, rfl, ho.up RI.up (hD _ (by simp)), hM1, hok1⟩)
  · obtain ⟨m, rfl⟩ : ∃ k, mm = k + 1 := ⟨mm - 1, by omega⟩
    refine C.skip ?_
    refine C.next ?_
    refine C.seq ?_
    refine C.seq ?_
    refine C.region [(false,0),(false,1)] rfl ?_
    refine L.move rfl rfl rfl trivial ?_
    refine L.assign rfl rfl rfl trivial ?_
    refine L.nil ?_
    refine C.next ?_
    refine C.block ?_
    refine C.loopR (γ := Nat × List Int × Value × Array MapEntry × Nat × List (Ints 8 × Int) × Data) (fun g => y.claims.length + 1 - g.1) (fun g => f ≤ g.1 ∧ lvG y (m + 1) f out fnd = tryL (fun i fnd => lvG y m (i + 1) (out ++ [(i : Int)]) fnd) (List.range' g.1 (y.claims.length - m - g.1)) g.2.1 ∧ Sl g.2.2.2.2.2.2 RI 1 g.2.2.1 g.2.1 ∧ MapG kaV g.2.2.2.1 g.2.2.2.2.2.1 ∧ MOk y.chairs.length g.2.2.2.2.2.1) (fun g => [(11, .int .i64 (g.1 : Int))]) [(10, _), (0, _), (2, _), (5, _), (6, _)] (fun g => [(bf, .cells [g.2.2.1].toArray 52 (0, 0)), (wb, .cells [cv, .int .i64 y.fit, qv, .map (some mb)].toArray 148 (0, 0)), (mb, .map g.2.2.2.1 g.2.2.2.2.1)]) (fun g => [g.2.2.2.2.2.2, D]) (f, fnd, fv, es, cl, Mm, D) ⟨by simp, rfl, hfd, hM, hok⟩ ⟨(by first | rfl | (show some (Value.int _ _) = some (Value.int _ _); congr 2; omega)), trivial⟩ ⟨rfl, rfl, rfl, rfl, rfl, trivial⟩ (List.Sublist.refl _) ((fun D0 h => by simp only [List.mem_cons, List.not_mem_nil, or_false, or_self] at h; exact ⟨D, by simp, h ▸ Le.refl _⟩)) ?_
    rintro ⟨i, fnd2, fv2, es2, cl2, M2, Dn⟩ ⟨h1, hin, hf2, hM2, hok2⟩
    simp only at h1 hin hf2 hM2 hok2
    refine C.seq ?_
    refine C.seq ?_
    refine C.region [(false,0),(false,1),(false,2),(false,3),(false,4),(false,5),(false,6)] rfl ?_
    refine L.move rfl rfl rfl trivial ?_
    refine L.fieldAddr rfl Tf.f37_2 rfl rfl trivial ?_
    refine L.loadD1 rfl (k := 2) Tf.a35 rfl hY (by first | simp | assumption) rfl List.not_mem_nil rfl trivial ?_
    refine L.len rfl Try.underlying35 rfl hq rfl rfl trivial ?_
    refine L.move rfl rfl rfl trivial ?_
    refine L.sub rfl rfl rfl (by simp only [inK]; omega) rfl trivial ?_
    refine L.leq rfl rfl rfl rfl trivial ?_
    refine L.nil ?_
    refine C.next ?_
    refine C.condD rfl (fun hc2 => ?_) (fun hc2 => ?_)
    · simp only at hc2
      have hge : i + m < y.claims.length := by omega
      refine C.skip ?_
      refine C.next ?_
      refine C.seq ?_
      refine C.block ?_
      refine C.seq ?_
      refine C.drawS (But.mk [bF]) 3 [false,true,true,true,true,true,true,true,true,true,false] [.fork [0,1,3,6,7,8,9] 2 (.fin [4]) 4 (.fin [2]), .fin [5,10]] Tf.follows (fun _ _ _ h => np_bodyMany (P := Try.prog) (fn := Try.f94) _ _ _ h) (by kernel_rfl) ?_
      refine S.cons ?_
      refine L.planFork [(false,0),(true,1),(true,3),(true,6),(true,7),(true,8),(true,9)] rfl ?_
      refine L.loadD1 rfl (k := 0) Tf.a150 rfl hF (by simp) rfl (But.out (by simp)) rfl trivial ?_
      refine L.move rfl rfl rfl trivial ?_
      refine L.move rfl rfl rfl trivial ?_
      refine L.move rfl rfl rfl trivial ?_
      refine L.add rfl rfl rfl (by simp only [inK]; omega) rfl trivial ?_
      refine L.move rfl rfl rfl trivial ?_
      refine L.sub rfl rfl rfl (by simp only [inK]; omega) rfl trivial ?_
      rw [show (((m + 1 : Nat) : Int) - 1) = (m : Int) by omega]
      refine L.nil (L.forkP true true rfl rfl ?_ ?_)
      · refine L.callO rfl rfl rfl (fun D7 hD7 => CloneI_ok _ out _ (ho.up RI.up (hD7 _ (by simp))) (by omega)) rfl trivial (fun v6 D8 ν6 hD8 ha6 => ?_)
        refine L.nil ?_
        refine L.planFin [(true,4)] rfl ?_
        refine L.buildSlice rfl Try.underlying52 Tf.s3 Tf.z3 rfl rfl rfl rfl (.cons rfl rfl .nil) rfl trivial (fun b901 D901 hD901 hA901 => ?_)
        have hAp := hA901
        refine L.nil ?_
        refine S.fin [(true,5),(false,10)] rfl ?_
        refine L.apart hF (by simp) (fun hap => ?_)
        refine L.append (A := []) (B := [(_, _), (_, _), (_, _)]) rfl Try.underlying52 rfl rfl Tf.s3 Tf.z3 rfl Tf.i3 rfl rfl rfl ha6 (Src.lit hAp) (by simp) rfl (by simp) (by simp [cell1]) (by omega) (Or.inr (fun p hp => But.in_ (by rw [List.mem_singleton]; rintro rfl; exact hap (List.mem_map.2 ⟨p, List.mem_append_left _ hp, rfl⟩)))) rfl trivial (fun v7 ν7 ha7 => ?_)
        have ha7' : Acc 3 1 v7 (out.length + 1) (ints (out ++ [(i : Int)])) ν7 := by simpa [ints] using ha7
        refine L.freezeM (A := []) (B := [(_, _), (_, _), (_, _)]) ha7' (fun k hk => hk) (fun D20 hD20 hF20 => ?_)
        have ho7 := hF20.ints (by simp) (by omega)
        refine L.callM (A := []) (ν := [(_, _), (_, _), (_, _)]) (B := []) rfl rfl rfl rfl (Or.inl rfl) unf_c3 (fun D9 hD9 => ih m (by omega) (i + 1) (out ++ [(i : Int)]) v7 fnd2 fv2 es2 cl2 M2 _ (by simp; omega) (ho7.up RI.up (hD9 _ (by simp))) (hf2.up RI.up (hD9 _ (by simp))) hM2 hok2 (hc.up RCh.up (hD9 _ (by simp))) (hq.up R2.up (hD9 _ (by simp))) (hW.up (hD9 _ (by simp))) (hY.up (hD9 _ (by simp))) (hF.up (hD9 _ (by simp)))) rfl trivial (fun v9 D10 _ hD10 hp9 => ?_)
        obtain ⟨rfl, fv3, es3, cl3, M3, rfl, hf3, hM3, hok3⟩ := hp9
        refine L.nil ?_
        refine S.nil ?_
        refine C.next ?_
        refine C.cond rfl (fun hc3 => ?_) (fun hc3 => ?_)
        · refine C.seq ?_
          refine C.region [(false,0)] rfl ?_
          refine L.assign rfl rfl rfl trivial ?_
          refine L.nil ?_
          refine C.next ?_
          refine C.ret ?_
          refine C.blockRet ?_
          refine C.thenRet ?_
          refine C.thenRet ?_
          refine C.blockRet ?_
          refine C.thenRet ?_
          exact leaveMany (A := []) (ν' := [_, _, _]) (B := []) (vs := [_]) rfl rfl rfl ⟨rfl, trivial⟩ rfl (fun D' hD => ⟨by rw [hin, try_yes hge hc3]; rfl, fv3, es3, cl3, M3, rfl, by rw [hin, try_yes hge hc3]; exact hf3.up RI.up (hD _ (by simp)), hM3, hok3⟩)
        · refine C.skip ?_
          refine C.blockEnd ?_
          refine C.next ?_
          refine C.region [(false,0),(false,1),(false,2)] rfl ?_
          refine L.move rfl rfl rfl trivial ?_
          refine L.add rfl rfl rfl (by simp only [inK]; omega) rfl trivial ?_
          refine L.assign rfl rfl rfl trivial ?_
          refine L.nil ?_
          exact C.againR 22 (i + 1, _, fv3, es3, cl3, M3, D10) ⟨by simp only; omega, by simp only; rw [hin, try_no hge hc3], hf3, hM3, hok3⟩ (by simp only; omega) ⟨(by first | rfl | (show some (Value.int _ _) = some (Value.int _ _); congr 2; omega)), trivial⟩ rfl rfl (List.Sublist.refl _) (fun D0 h => by simp only [List.mem_cons, List.not_mem_nil, or_false] at h; rcases h with h | h; exact ⟨D10, by simp, h ▸ Le.refl _⟩; exact ⟨D, by simp, h ▸ Le.refl _⟩)
      · refine L.buildSlice rfl Try.underlying52 Tf.s3 Tf.z3 rfl rfl rfl rfl (.cons rfl rfl .nil) rfl trivial (fun b901 D901 hD901 hA901 => ?_)
        have hAp := hA901
        refine L.nil ?_
        refine L.planFin [(true,2)] rfl ?_
        refine L.callO rfl rfl rfl (fun D7 hD7 => CloneI_ok _ out _ (ho.up RI.up (hD7 _ (by simp))) (by omega)) rfl trivial (fun v6 D8 ν6 hD8 ha6 => ?_)
        refine L.nil ?_
        refine S.fin [(true,5),(false,10)] rfl ?_
        refine L.apart hF (by simp) (fun hap => ?_)
        refine L.append (A := []) (B := [(_, _), (_, _), (_, _)]) rfl Try.underlying52 rfl rfl Tf.s3 Tf.z3 rfl Tf.i3 rfl rfl rfl ha6 (Src.lit hAp) (by simp) rfl (by simp) (by simp [cell1]) (by omega) (Or.inr (fun p hp => But.in_ (by rw [List.mem_singleton]; rintro rfl; exact hap (List.mem_map.2 ⟨p, List.mem_append_left _ hp, rfl⟩)))) rfl trivial (fun v7 ν7 ha7 => ?_)
        have ha7' : Acc 3 1 v7 (out.length + 1) (ints (out ++ [(i : Int)])) ν7 := by simpa [ints] using ha7
        refine L.freezeM (A := []) (B := [(_, _), (_, _), (_, _)]) ha7' (fun k hk => hk) (fun D20 hD20 hF20 => ?_)
        have ho7 := hF20.ints (by simp) (by omega)
        refine L.callM (A := []) (ν := [(_, _), (_, _), (_, _)]) (B := []) rfl rfl rfl rfl (Or.inl rfl) unf_c3 (fun D9 hD9 => ih m (by omega) (i + 1) (out ++ [(i : Int)]) v7 fnd2 fv2 es2 cl2 M2 _ (by simp; omega) (ho7.up RI.up (hD9 _ (by simp))) (hf2.up RI.up (hD9 _ (by simp))) hM2 hok2 (hc.up RCh.up (hD9 _ (by simp))) (hq.up R2.up (hD9 _ (by simp))) (hW.up (hD9 _ (by simp))) (hY.up (hD9 _ (by simp))) (hF.up (hD9 _ (by simp)))) rfl trivial (fun v9 D10 _ hD10 hp9 => ?_)
        obtain ⟨rfl, fv3, es3, cl3, M3, rfl, hf3, hM3, hok3⟩ := hp9
        refine L.nil ?_
        refine S.nil ?_
        refine C.next ?_
        refine C.cond rfl (fun hc3 => ?_) (fun hc3 => ?_)
        · refine C.seq ?_
          refine C.region [(false,0)] rfl ?_
          refine L.assign rfl rfl rfl trivial ?_
          refine L.nil ?_
          refine C.next ?_
          refine C.ret ?_
          refine C.blockRet ?_
          refine C.thenRet ?_
          refine C.thenRet ?_
          refine C.blockRet ?_
          refine C.thenRet ?_
          exact leaveMany (A := []) (ν' := [_, _, _]) (B := []) (vs := [_]) rfl rfl rfl ⟨rfl, trivial⟩ rfl (fun D' hD => ⟨by rw [hin, try_yes hge hc3]; rfl, fv3, es3, cl3, M3, rfl, by rw [hin, try_yes hge hc3]; exact hf3.up RI.up (hD _ (by simp)), hM3, hok3⟩)
        · refine C.skip ?_
          refine C.blockEnd ?_
          refine C.next ?_
          refine C.region [(false,0),(false,1),(false,2)] rfl ?_
          refine L.move rfl rfl rfl trivial ?_
          refine L.add rfl rfl rfl (by simp only [inK]; omega) rfl trivial ?_
          refine L.assign rfl rfl rfl trivial ?_
          refine L.nil ?_
          exact C.againR 22 (i + 1, _, fv3, es3, cl3, M3, D10) ⟨by simp only; omega, by simp only; rw [hin, try_no hge hc3], hf3, hM3, hok3⟩ (by simp only; omega) ⟨(by first | rfl | (show some (Value.int _ _) = some (Value.int _ _); congr 2; omega)), trivial⟩ rfl rfl (List.Sublist.refl _) (fun D0 h => by simp only [List.mem_cons, List.not_mem_nil, or_false] at h; rcases h with h | h; exact ⟨D10, by simp, h ▸ Le.refl _⟩; exact ⟨D, by simp, h ▸ Le.refl _⟩)
    · simp only at hc2
      have hend := try_end (y := y) (m := m) (out := out) (fnd := fnd2) (show ¬ i + m < y.claims.length by omega)
      refine C.exit ?_
      refine C.thenExit ?_
      refine C.thenExit ?_
      refine C.blockExit ?_
      refine C.next ?_
      refine C.seq ?_
      refine C.region [(false,0)] rfl ?_
      refine L.assign rfl rfl rfl trivial ?_
      refine L.nil ?_
      refine C.next ?_
      refine C.ret ?_
      exact leaveMany (A := []) (ν' := [_, _, _]) (B := []) (vs := [_]) rfl rfl rfl ⟨rfl, trivial⟩ rfl (fun D' hD => ⟨by rw [hin, hend]; rfl, fv2, es2, cl2, M2, rfl, by rw [hin, hend]; exact hf2.up RI.up (hD _ (by simp)), hM2, hok2⟩)
theorem Leave_ok (yv : Value) (y : YardD) (D : Data) (hy : YardIs D yv y) : Fn Try.prog 48 #[yv] D (fun D' v => ∃ lv, v = .tuple #[lv, .int .i64 (leaveV y).2] ∧ Sl D' RI 1 lv (leaveV y).1) := by
  have hy0 := hy
  obtain ⟨cv, qv, rfl, hc, hq⟩ := hy
  have hql := hq.len
  refine enter 29 Try.func48 rfl rfl rfl rfl fun h0 => ?_
  refine C.seq ?_
  refine C.region [(false,0),(false,1),(false,2)] rfl ?_
  refine L.boxD rfl rfl rfl rfl trivial (fun q1 E1 hE1 hB1 => ?_)
  refine L.assign rfl rfl rfl trivial ?_
  refine L.assign rfl rfl rfl trivial ?_
  refine L.nil ?_
  refine C.next ?_
  refine C.scope ?_
  refine C.seq ?_
  refine C.seq ?_
  refine C.region [(false,0),(false,1),(false,2)] rfl ?_
  refine L.loadDW rfl Tf.a37 rfl hB1 (by first | simp | assumption) Tf.s37 List.not_mem_nil rfl trivial ?_
  refine L.callV rfl rfl rfl (fun D1 hD1 => CheckYard_ok _ y _ (hy0.up (hD1 _ (by simp)))) rfl trivial ?_
  refine L.assign rfl rfl rfl trivial ?_
  refine L.nil ?_
  refine C.next ?_
  refine C.seq ?_
  refine C.region [(false,0),(false,1)] rfl ?_
  refine L.move rfl rfl rfl trivial ?_
  refine L.neq rfl rfl rfl rfl trivial ?_
  refine L.nil ?_
  refine C.next ?_
  refine C.condD rfl (fun hc1 => ?_) (fun hc1 => ?_)
  · refine C.seq ?_
    refine C.region [(false,0),(false,1),(false,2)] rfl ?_
    refine L.move rfl rfl rfl trivial ?_
    refine L.assign rfl rfl rfl trivial ?_
    refine L.assign rfl rfl rfl trivial ?_
    refine L.nil ?_
    refine C.next ?_
    refine C.ret ?_
    refine C.thenRet ?_
    refine C.scopeRet ?_
    exact leave (vs := [_, _]) rfl rfl rfl ⟨rfl, rfl, trivial⟩ (fun D hD => leaveR_err hc1)
  · have hf0 : fault y = 0 := by omega
    have hyo := yOk hf0
    have hn7 := hyo.len
    have hc5 := hyo.cls
    refine C.skip ?_
    refine C.next ?_
    refine C.seq ?_
    refine C.region [(false,0),(false,1),(false,2),(false,3)] rfl ?_
    refine L.loadDW rfl Tf.a37 rfl hB1 (by first | simp | assumption) Tf.s37 List.not_mem_nil rfl trivial ?_
    refine L.callO (μ := _) rfl rfl rfl (fun D5 hD5 => work_ok _ y _ _ D5 rfl) rfl trivial (fun v5 D6 _ hD6 hp5 => ?_)
    obtain ⟨wb, mb, rfl, rfl⟩ := hp5
    refine L.alloc rfl Tf.z120 rfl rfl trivial (fun q2 => ?_)
    refine L.store rfl rfl rfl rfl Tf.s120 (Has.head) (by simp) rfl (by simp [cell1]) trivial ?_
    refine L.nil ?_
    refine C.next ?_
    refine C.seq ?_
    refine C.region [(false,0)] rfl ?_
    refine L.alloc rfl Tf.z52 rfl rfl trivial (fun q3 => ?_)
    refine L.nil ?_
    refine C.next ?_
    refine C.seq ?_
    refine C.region [(false,0)] rfl ?_
    refine L.alloc rfl Tf.z150 rfl rfl trivial (fun q4 => ?_)
    refine L.nil ?_
    refine C.next ?_
    refine C.seq ?_
    refine C.region [(false,0),(false,1)] rfl ?_
    refine L.makeFunc rfl rfl rfl rfl trivial ?_
    refine L.store rfl rfl rfl rfl Tf.s150 (Has.head) (by simp) rfl (by simp [cell1]) trivial ?_
    refine L.nil ?_
    refine C.next ?_
    refine C.seq ?_
    refine C.label ?_
    refine C.next ?_
    refine C.seq ?_
    refine C.seq ?_
    refine C.freezeBox (A := []) (b := q4) (cells := [.func (.func 94) #[] #[.pointer (some ⟨q3, 0, none⟩), .pointer (some ⟨q2, 0, none⟩), .pointer (some ⟨q1, 0, none⟩), .pointer (some ⟨q4, 0, none⟩)]]) rfl (fun D20 hD20 hF => ?_)
    refine C.freezeBox (A := [(_, _)]) (b := q2) (cells := [.pointer (some ⟨wb, 0, none⟩)]) rfl (fun D21 hD21 hW => ?_)
    refine C.region [(false,0),(false,1),(false,2),(false,3),(false,4)] rfl ?_
    refine L.fieldAddr rfl Tf.f37_2 rfl rfl trivial ?_
    refine L.loadD1 rfl (k := 2) Tf.a35 rfl hB1 (by first | simp | assumption) rfl List.not_mem_nil rfl trivial ?_
    refine L.len rfl Try.underlying35 rfl hq rfl rfl trivial ?_
    refine L.add rfl rfl rfl (by simp only [inK]; omega) rfl trivial ?_
    refine L.move rfl rfl rfl trivial ?_
    refine L.nil ?_
    refine C.next ?_
    refine C.block ?_
    refine C.loopR (γ := Nat × List Int × Value × Array MapEntry × Nat × List (Ints 8 × Int) × Data) (fun g => y.claims.length + 1 - g.1) (fun g => g.1 ≤ y.claims.length + 1 ∧ tryL (fun m fnd => lvG y m 0 [] fnd) (List.range' 0 (y.claims.length + 1 - 0)) [] = tryL (fun m fnd => lvG y m 0 [] fnd) (List.range' g.1 (y.claims.length + 1 - g.1)) g.2.1 ∧ Sl g.2.2.2.2.2.2 RI 1 g.2.2.1 g.2.1 ∧ MapG kaV g.2.2.2.1 g.2.2.2.2.2.1 ∧ MOk y.chairs.length g.2.2.2.2.2.1) (fun g => [(21, .int .i64 (g.1 : Int))]) [(20, _), (7, _), (6, _), (3, _), (2, _)] (fun g => [(q3, .cells [g.2.2.1].toArray 52 (0, 0)), (wb, .cells [cv, .int .i64 y.fit, qv, .map (some mb)].toArray 148 (0, 0)), (mb, .map g.2.2.2.1 g.2.2.2.2.1)]) (fun g => [g.2.2.2.2.2.2, D21, D20, D6, E1, D]) (0, [], .slice none 0 0, #[], 0, [], D21) ⟨by simp, rfl, Sl.nil, rfl, MOk.nil⟩ ⟨(by first | rfl | (show some (Value.int _ _) = some (Value.int _ _); congr 2; omega)), trivial⟩ ⟨rfl, rfl, rfl, rfl, rfl, trivial⟩ (List.Sublist.refl _) ((fun D0 h => by simp only [List.mem_cons, List.not_mem_nil, or_false] at h; rcases h with h | h | h | h | h | h; exact ⟨D21, by simp, h ▸ Le.refl _⟩; exact ⟨D21, by simp, h ▸ Le.refl _⟩; exact ⟨D20, by simp, h ▸ Le.refl _⟩; exact ⟨D6, by simp, h ▸ Le.refl _⟩; exact ⟨E1, by simp, h ▸ Le.refl _⟩; exact ⟨D, by simp, h ▸ Le.refl _⟩)) ?_
    rintro ⟨m, fnd, fv, es, cl, Mm, Dn⟩ ⟨h1, hin, hfd, hM, hok⟩
    simp only at h1 hin hfd hM hok
    refine C.seq ?_
    refine C.region [(false,0)] rfl ?_
    refine L.lss rfl rfl rfl rfl trivial ?_
    refine L.nil ?_
    refine C.next ?_
    refine C.seq ?_
    refine C.condD rfl (fun hc2 => ?_) (fun hc2 => ?_)
    · simp only at hc2
      have hm : m ≤ y.claims.length := by omega
      refine C.skip ?_
      refine C.next ?_
      refine C.seq ?_
      refine C.block ?_
      refine C.seq ?_
      refine C.region [(false,0),(false,1)] rfl ?_
      refine L.move rfl rfl rfl trivial ?_
      refine L.assign rfl rfl rfl trivial ?_
      refine L.nil ?_
      refine C.next ?_
      refine C.seq ?_
      refine C.region [(false,0),(false,1),(false,2)] rfl ?_
      refine L.loadD1 rfl (k := 0) Tf.a150 rfl hF (by first | simp | assumption) rfl List.not_mem_nil rfl trivial ?_
      refine L.move rfl rfl rfl trivial ?_
      refine L.callM (A := []) (ν := [(_, _), (_, _), (_, _)]) (B := []) rfl rfl rfl rfl (Or.inl rfl) unf_c3 (fun D9 hD9 => try_ok hyo m 0 [] (.slice none 0 0) fnd fv es cl Mm _ (by simp; omega) Sl.nil (hfd.up RI.up (hD9 _ (by simp))) hM hok (hc.up RCh.up (hD9 _ (by simp))) (hq.up R2.up (hD9 _ (by simp))) (hW.up (hD9 _ (by simp))) (hB1.up (hD9 _ (by simp))) (hF.up (hD9 _ (by simp)))) rfl trivial (fun v9 D10 _ hD10 hp9 => ?_)
      obtain ⟨rfl, fv3, es3, cl3, M3, rfl, hf3, hM3, hok3⟩ := hp9
      refine L.nil ?_
      refine C.next ?_
      refine C.cond rfl (fun hc3 => ?_) (fun hc3 => ?_)
      · refine C.exit ?_
        refine C.blockPass rfl ?_
        refine C.thenExit ?_
        refine C.thenExit ?_
        refine C.blockExit ?_
        refine C.next ?_
        refine C.seq ?_
        refine C.region [(false,0),(false,1),(false,2)] rfl ?_
        refine L.loadB1 rfl Tf.a52 rfl (List.Mem.head _) rfl List.not_mem_nil rfl trivial ?_
        refine L.assign rfl rfl rfl trivial ?_
        refine L.assign rfl rfl rfl trivial ?_
        refine L.nil ?_
        refine C.next ?_
        refine C.ret ?_
        refine C.scopeRet ?_
        exact leave (vs := [_, _]) rfl rfl rfl ⟨rfl, rfl, trivial⟩ (fun D hD => leaveR_ok hf0 (by rw [hin, tryS_yes hm hc3]) (hf3.up RI.up (hD _ (by simp))))
      · refine C.skip ?_
        refine C.blockEnd ?_
        refine C.next ?_
        refine C.region [(false,0),(false,1)] rfl ?_
        refine L.add rfl rfl rfl (by simp only [inK]; omega) rfl trivial ?_
        refine L.move rfl rfl rfl trivial ?_
        refine L.nil ?_
        exact C.againR 9 (m + 1, _, fv3, es3, cl3, M3, D10) ⟨by simp only; omega, by simp only; rw [hin, tryS_no hm hc3], hf3, hM3, hok3⟩ (by simp only; omega) ⟨(by first | rfl | (show some (Value.int _ _) = some (Value.int _ _); congr 2; omega)), trivial⟩ rfl rfl (List.Sublist.refl _) (fun D0 h => by simp only [List.mem_cons, List.not_mem_nil, or_false] at h; rcases h with h | h | h | h | h | h; exact ⟨D10, by simp, h ▸ Le.refl _⟩; exact ⟨D21, by simp, h ▸ Le.refl _⟩; exact ⟨D20, by simp, h ▸ Le.refl _⟩; exact ⟨D6, by simp, h ▸ Le.refl _⟩; exact ⟨E1, by simp, h ▸ Le.refl _⟩; exact ⟨D, by simp, h ▸ Le.refl _⟩)
    · simp only at hc2
      obtain rfl : m = y.claims.length + 1 := by omega
      rw [Nat.sub_self] at hin
      refine C.exit ?_
      refine C.thenExit ?_
      refine C.thenExit ?_
      refine C.blockExit ?_
      refine C.next ?_
      refine C.seq ?_
      refine C.region [(false,0),(false,1),(false,2)] rfl ?_
      refine L.loadB1 rfl Tf.a52 rfl (List.Mem.head _) rfl List.not_mem_nil rfl trivial ?_
      refine L.assign rfl rfl rfl trivial ?_
      refine L.assign rfl rfl rfl trivial ?_
      refine L.nil ?_
      refine C.next ?_
      refine C.ret ?_
      refine C.scopeRet ?_
      exact leave (vs := [_, _]) rfl rfl rfl ⟨rfl, rfl, trivial⟩ (fun D hD => leaveR_ok hf0 (by rw [hin]; rfl) (hfd.up RI.up (hD _ (by simp))))
end Go.Fs
namespace Go.Fs
open Go.Proofs
open C7
theorem unkL_yes {l : List Int} {k u : Nat} {n : Int} (hn : l[k]? = some n) (h : n = 2) : ((u + unkL (l.take (k + 1)) : Nat) : Int) = ((u + unkL (l.take k) : Nat) : Int) + 1 := by
  rw [List.take_add_one, hn]
  simp only [unkL, Option.toList_some, List.filter_append, List.length_append]
  simp [h]; omega
theorem unkL_no {l : List Int} {k u : Nat} {n : Int} (hn : l[k]? = some n) (h : ¬ n = 2) : ((u + unkL (l.take (k + 1)) : Nat) : Int) = ((u + unkL (l.take k) : Nat) : Int) := by
  rw [List.take_add_one, hn]
  simp only [unkL, Option.toList_some, List.filter_append, List.length_append]
  simp [h]
theorem allk_step {α : Type} {p : α → Bool} {l : List α} {k : Nat} {x : α} (hx : l[k]? = some x) (h : (l.take k).all p = true) (hp : p x = true) : (l.take (k + 1)).all p = true := by
  rw [List.take_add_one, hx, Option.toList_some, List.all_append, h]; simp [hp]
theorem chair_eq (x : Ch) : (((!inB x.size 0 9 || !inB x.parts.a 0 2) || !inB x.parts.b 0 2) || !inB x.parts.c 0 2) = !chairOk x := by
  unfold chairOk ptsOk Pt.l
  simp only [List.all_cons, List.all_nil, Bool.and_true]
  generalize inB x.size 0 9 = p, inB x.parts.a 0 2 = q, inB x.parts.b 0 2 = r, inB x.parts.c 0 2 = s
  cases p <;> cases q <;> cases r <;> cases s <;> rfl
theorem chair_yes {x : Ch} (h : (((!inB x.size 0 9 || !inB x.parts.a 0 2) || !inB x.parts.b 0 2) || !inB x.parts.c 0 2) = false) : chairOk x = true := by
  rw [chair_eq] at h; simpa using h
theorem claim_eq (r : Int × Int) : ((decide (r.1 < 0) || decide (r.2 < r.1)) || decide (7 < r.2)) = !claimOk r := by
  unfold claimOk
  rw [Bool.eq_iff_iff]
  simp only [Bool.or_eq_true, decide_eq_true_eq, Bool.not_eq_true', Bool.and_eq_false_iff, decide_eq_false_iff_not]
  omega
theorem claim_yes {r : Int × Int} (h : ((decide (r.1 < 0) || decide (r.2 < r.1)) || decide (7 < r.2)) = false) : claimOk r = true := by
  rw [claim_eq] at h; simpa using h
theorem lim_le {y : YardD} (h : (decide ((7 : Int) < y.chairs.length) || decide ((5 : Int) < y.claims.length)) = false) : y.chairs.length ≤ 7 ∧ y.claims.length ≤ 5 := by
  have := cy_not h; omega
theorem fr_bad {y : YardD} (h : (decide ((7 : Int) < y.chairs.length) || decide ((5 : Int) < y.claims.length)) = false) (h2 : yardOk y = false) : fault y = 1 := by
  unfold fault; rw [if_neg (cy_not h), if_pos h2]
theorem fr_fit {y : YardD} (h : (decide ((7 : Int) < y.chairs.length) || decide ((5 : Int) < y.claims.length)) = false) (h2 : (!inB y.fit 0 9) = true) : fault y = 1 := fr_bad h (by unfold yardOk; simp only [Bool.not_eq_true'] at h2; rw [h2]; simp)
theorem fr_chair {y : YardD} {x : Ch} (h : (decide ((7 : Int) < y.chairs.length) || decide ((5 : Int) < y.claims.length)) = false) (hx : x ∈ y.chairs) (h2 : (((!inB x.size 0 9 || !inB x.parts.a 0 2) || !inB x.parts.b 0 2) || !inB x.parts.c 0 2) = true) : fault y = 1 := fr_bad h (by
  rw [chair_eq] at h2
  have : y.chairs.all chairOk = false := List.all_eq_false.2 ⟨x, hx, by simpa using h2⟩
  unfold yardOk; rw [this]; simp)
theorem fr_claim {y : YardD} {r : Int × Int} (h : (decide ((7 : Int) < y.chairs.length) || decide ((5 : Int) < y.claims.length)) = false) (hr : r ∈ y.claims) (h2 : ((decide (r.1 < 0) || decide (r.2 < r.1)) || decide (7 < r.2)) = true) : fault y = 1 := fr_bad h (by
  rw [claim_eq] at h2
  have : y.claims.all claimOk = false := List.all_eq_false.2 ⟨r, hr, by simpa using h2⟩
  unfold yardOk; rw [this]; simp)
theorem fr_yes {y : YardD} (h2 : (!inB y.fit 0 9) = false) (h3 : y.chairs.all chairOk = true) (h4 : y.claims.all claimOk = true) : yardOk y = true := by
  simp only [Bool.not_eq_false'] at h2
  unfold yardOk; rw [h2, h3, h4]; rfl
theorem fr_many {y : YardD} (h : (decide ((7 : Int) < y.chairs.length) || decide ((5 : Int) < y.claims.length)) = false) (h2 : (!inB y.fit 0 9) = false) (h3 : y.chairs.all chairOk = true) (h4 : y.claims.all claimOk = true) (h5 : (8 : Int) < unknown y.chairs) : fault y = 3 := by
  unfold fault; rw [if_neg (cy_not h), if_neg (by rw [fr_yes h2 h3 h4]; simp), if_pos (by omega)]
theorem fr_fine {y : YardD} (h : (decide ((7 : Int) < y.chairs.length) || decide ((5 : Int) < y.claims.length)) = false) (h2 : (!inB y.fit 0 9) = false) (h3 : y.chairs.all chairOk = true) (h4 : y.claims.all claimOk = true) (h5 : ¬ (8 : Int) < unknown y.chairs) : fault y = 0 := by
  unfold fault; rw [if_neg (cy_not h), if_neg (by rw [fr_yes h2 h3 h4]; simp), if_neg (by omega)]
def rightB (cl : List (Int × Int)) (n : Int) (i : Nat) : Bool := match cl[i]? with
  | some r => inB n r.1 r.2
  | none => false
theorem rightB_at {cl : List (Int × Int)} {n : Int} {i : Nat} {r : Int × Int} (h : cl[i]? = some r) : rightB cl n i = inB n r.1 r.2 := by unfold rightB; rw [h]
theorem Unknown_ok (yv : Value) (y : YardD) (D : Data) (hy : YardIs D yv y) (h7 : y.chairs.length ≤ 1000) : Fn Try.prog 59 #[yv] D (fun _ v => v = .int .i64 (unknown y.chairs : Int)) := by
  obtain ⟨cv, qv, rfl, hc, hq⟩ := hy
  refine enter 29 Try.func59 rfl rfl rfl rfl fun h0 => ?_
  refine C.seq ?_
  refine C.region [(false,0),(false,1)] rfl ?_
  refine L.boxD rfl rfl rfl rfl trivial (fun q1 E1 hE1 hB1 => ?_)
  refine L.assign rfl rfl rfl trivial ?_
  refine L.nil ?_
  refine C.next ?_
  refine C.seq ?_
  refine C.region [(false,0)] rfl ?_
  refine L.assign rfl rfl rfl trivial ?_
  refine L.nil ?_
  refine C.next ?_
  refine C.seq ?_
  refine C.seq ?_
  refine C.region [(false,0)] rfl ?_
  refine L.assign rfl rfl rfl trivial ?_
  refine L.nil ?_
  refine C.next ?_
  refine C.block ?_
  refine C.loopC (γ := Nat) (fun i => y.chairs.length - i) (fun i => i ≤ y.chairs.length) (fun i => [(4, .int .i64 (i : Int)), (3, .int .i64 (unknown (y.chairs.take i) : Int))]) [(2, _), (1, _)] (fun i => [E1, D]) 0 (by omega) ⟨(by first | rfl | (show some (Value.int _ _) = some (Value.int _ _); congr 2; omega)), (by simp [unknown]; rfl), trivial⟩ ⟨rfl, rfl, trivial⟩ (ds_same) ?_
  rintro i h1
  refine C.seq ?_
  refine C.seq ?_
  refine C.region [(false,0),(false,1),(false,2),(false,3),(false,4)] rfl ?_
  refine L.move rfl rfl rfl trivial ?_
  refine L.fieldAddr rfl Tf.f25_0 rfl rfl trivial ?_
  refine L.loadD1 rfl (k := 0) Tf.a22 rfl hB1 (by first | simp | assumption) rfl List.not_mem_nil rfl trivial ?_
  refine L.len rfl Try.underlying22 rfl hc rfl rfl trivial ?_
  refine L.lss rfl rfl rfl rfl trivial ?_
  refine L.nil ?_
  refine C.next ?_
  refine C.condD rfl (fun hc1 => ?_) (fun hc1 => ?_)
  · have hi : i < y.chairs.length := by omega
    obtain ⟨x, hx⟩ : ∃ x, y.chairs[i]? = some x := ⟨_, List.getElem?_eq_getElem hi⟩
    have hub := unk_le (y.chairs.take i)
    have hut : (y.chairs.take i).length ≤ i := List.length_take_le _ _
    refine C.skip ?_
    refine C.next ?_
    refine C.seq ?_
    refine C.block ?_
    refine C.seq ?_
    refine C.region [(false,0)] rfl ?_
    refine L.assign rfl rfl rfl trivial ?_
    refine L.nil ?_
    refine C.next ?_
    refine C.block ?_
    refine C.loopC (γ := Nat) (fun k => 3 - k) (fun k => k ≤ 3) (fun k => [(5, .int .i64 (k : Int)), (3, .int .i64 ((unknown (y.chairs.take i) + unkL (x.parts.l.take k) : Nat) : Int))]) [(10, _), (9, _), (8, _), (7, _), (6, _), (4, _), (2, _), (1, _)] (fun k => [E1, D]) 0 (by omega) ⟨(by first | rfl | (show some (Value.int _ _) = some (Value.int _ _); congr 2; omega)), (by simp [unkL]; rfl), trivial⟩ ⟨rfl, rfl, rfl, rfl, rfl, rfl, rfl, rfl, trivial⟩ (ds_same) ?_
    rintro k h2
    refine C.seq ?_
    refine C.seq ?_
    refine C.region [(false,0),(false,1)] rfl ?_
    refine L.move rfl rfl rfl trivial ?_
    refine L.lss rfl rfl rfl rfl trivial ?_
    refine L.nil ?_
    refine C.next ?_
    refine C.condD rfl (fun hc2 => ?_) (fun hc2 => ?_)
    · have hk3 : k < 3 := by omega
      obtain ⟨n, hn⟩ : ∃ n, x.parts.l[k]? = some n := ⟨_, List.getElem?_eq_getElem (by simp [Pt.l]; omega)⟩
      have hkl := unkL_le (x.parts.l.take k)
      have hkt : (x.parts.l.take k).length ≤ k := List.length_take_le _ _
      refine C.skip ?_
      refine C.next ?_
      refine C.seq ?_
      refine C.block ?_
      refine C.seq ?_
      refine C.region [(false,0),(false,1),(false,2),(false,3),(false,4),(false,5),(false,6),(false,7),(false,8)] rfl ?_
      refine L.fieldAddr rfl Tf.f25_0 rfl rfl trivial ?_
      refine L.loadD1 rfl (k := 0) Tf.a22 rfl hB1 (by first | simp | assumption) rfl List.not_mem_nil rfl trivial ?_
      refine L.move rfl rfl rfl trivial ?_
      refine L.move rfl rfl rfl trivial ?_
      refine L.indexS rfl Try.underlying22 Tf.s94 rfl hc rfl (by omega) hx rfl trivial (fun b1 o1 cs1 hr1 hcl1 hA1 => ?_)
      obtain rfl : cs1 = [.int .i64 _, .int .i64 _, .int .i64 _, .int .i64 _] := hr1
      refine L.fieldAddr rfl Tf.f94_1 rfl rfl trivial ?_
      refine L.indexA rfl Try.underlying91 Tf.s3 rfl rfl (by omega) (by omega) rfl trivial ?_
      refine L.loadD1 (o := _ + 1) (k := k * 1) rfl Tf.a3 rfl hA1.tail (by simp) (pt_get hn) List.not_mem_nil rfl trivial ?_
      refine L.eql rfl rfl rfl rfl trivial ?_
      refine L.nil ?_
      refine C.next ?_
      refine C.condD rfl (fun hc3 => ?_) (fun hc3 => ?_)
      · refine C.region [(false,0),(false,1),(false,2)] rfl ?_
        refine L.move rfl rfl rfl trivial ?_
        refine L.add rfl rfl rfl (by simp only [inK]; omega) rfl trivial ?_
        refine L.assign rfl rfl rfl trivial ?_
        refine L.nil ?_
        refine C.blockEnd ?_
        refine C.next ?_
        refine C.region [(false,0),(false,1),(false,2)] rfl ?_
        refine L.move rfl rfl rfl trivial ?_
        refine L.add rfl rfl rfl (by simp only [inK]; omega) rfl trivial ?_
        refine L.assign rfl rfl rfl trivial ?_
        refine L.nil ?_
        exact C.againR 19 (k + 1) (by omega) (by omega) ⟨(by first | rfl | (show some (Value.int _ _) = some (Value.int _ _); congr 2; omega)), (by rw [unkL_yes hn hc3]; rfl), trivial⟩ rfl rfl (List.Sublist.refl _) (ds_same)
      · refine C.skip ?_
        refine C.blockEnd ?_
        refine C.next ?_
        refine C.region [(false,0),(false,1),(false,2)] rfl ?_
        refine L.move rfl rfl rfl trivial ?_
        refine L.add rfl rfl rfl (by simp only [inK]; omega) rfl trivial ?_
        refine L.assign rfl rfl rfl trivial ?_
        refine L.nil ?_
        exact C.againR 16 (k + 1) (by omega) (by omega) ⟨(by first | rfl | (show some (Value.int _ _) = some (Value.int _ _); congr 2; omega)), (by rw [unkL_no hn hc3]; rfl), trivial⟩ rfl rfl (List.Sublist.refl _) (ds_same)
    · obtain rfl : k = 3 := by omega
      refine C.exit ?_
      refine C.thenExit ?_
      refine C.thenExit ?_
      refine C.blockExit ?_
      refine C.blockEnd ?_
      refine C.next ?_
      refine C.region [(false,0),(false,1),(false,2)] rfl ?_
      refine L.move rfl rfl rfl trivial ?_
      refine L.add rfl rfl rfl (by simp only [inK]; omega) rfl trivial ?_
      refine L.assign rfl rfl rfl trivial ?_
      refine L.nil ?_
      exact C.againR 13 (i + 1) (by omega) (by omega) ⟨(by first | rfl | (show some (Value.int _ _) = some (Value.int _ _); congr 2; omega)), (by rw [unk_snoc hx]; rfl), trivial⟩ rfl rfl (List.Sublist.refl _) (ds_same)
  · obtain rfl : i = y.chairs.length := by omega
    rw [List.take_length]
    refine C.exit ?_
    refine C.thenExit ?_
    refine C.thenExit ?_
    refine C.blockExit ?_
    refine C.next ?_
    refine C.seq ?_
    refine C.region [(false,0),(false,1)] rfl ?_
    refine L.move rfl rfl rfl trivial ?_
    refine L.assign rfl rfl rfl trivial ?_
    refine L.nil ?_
    refine C.next ?_
    refine C.ret ?_
    exact leave (vs := [_]) rfl rfl rfl ⟨rfl, trivial⟩ (fun D hD => rfl)
theorem Fault_ok (yv : Value) (y : YardD) (D : Data) (hy : YardIs D yv y) : Fn Try.prog 74 #[yv] D (fun _ v => v = .int .i64 (fault y)) := by
  have hy0 := hy
  obtain ⟨cv, qv, rfl, hc, hq⟩ := hy
  have hcl := hc.len
  have hql := hq.len
  refine enter 88 Try.func74 rfl rfl rfl rfl fun h0 => ?_
  refine C.seq ?_
  refine C.region [(false,0),(false,1)] rfl ?_
  refine L.boxD rfl rfl rfl rfl trivial (fun q1 E1 hE1 hB1 => ?_)
  refine L.assign rfl rfl rfl trivial ?_
  refine L.nil ?_
  refine C.next ?_
  refine C.seq ?_
  refine C.seq ?_
  refine C.region [(false,0),(false,1),(false,2),(false,3),(false,4),(false,5),(false,6),(false,7),(false,8),(false,9)] rfl ?_
  refine L.fieldAddr rfl Tf.f25_0 rfl rfl trivial ?_
  refine L.loadD1 rfl (k := 0) Tf.a22 rfl hB1 (by first | simp | assumption) rfl List.not_mem_nil rfl trivial ?_
  refine L.len rfl Try.underlying22 rfl hc rfl rfl trivial ?_
  refine L.gtr rfl rfl rfl rfl trivial ?_
  refine L.move rfl rfl rfl trivial ?_
  refine' L.or [(false,5),(false,6),(false,7),(false,8),(false,9)] [] (s := 11) (p := 16) rfl rfl (fun hg1 => ?_) (fun hg1 => ?_) ?_
  rotate_left
  · refine L.fieldAddr rfl Tf.f25_2 rfl rfl ⟨_, rfl, rfl⟩ ?_
    refine L.loadD1 rfl (k := 2) Tf.a23 rfl hB1 (by first | simp | assumption) rfl List.not_mem_nil rfl ⟨_, rfl, rfl⟩ ?_
    refine L.len rfl Try.underlying23 rfl hq rfl rfl ⟨_, rfl, rfl⟩ ?_
    refine L.gtr rfl rfl rfl rfl ⟨_, rfl, rfl⟩ ?_
    refine L.pickF rfl rfl rfl rfl trivial ?_
    exact L.nil fun a w hh => hh.cutK 4 rfl
  · refine L.pass rfl rfl rfl ⟨_, _, rfl, rfl, rfl⟩ ?_
    refine L.pass rfl rfl rfl ⟨_, _, rfl, rfl, rfl⟩ ?_
    refine L.pass rfl rfl rfl ⟨_, _, rfl, rfl, rfl⟩ ?_
    refine L.pass rfl rfl rfl ⟨_, _, rfl, rfl, rfl⟩ ?_
    refine L.pickT rfl rfl rfl rfl trivial ?_
    exact L.nil fun a w hh => hh.cutK 4 rfl
  refine L.nil ?_
  refine C.next ?_
  refine C.cond rfl (fun hc1 => ?_) (fun hc1 => ?_)
  · refine C.seq ?_
    refine C.region [(false,0)] rfl ?_
    refine L.assign rfl rfl rfl trivial ?_
    refine L.nil ?_
    refine C.next ?_
    refine C.ret ?_
    refine C.thenRet ?_
    exact leave (vs := [_]) rfl rfl rfl ⟨rfl, trivial⟩ (fun D hD => by show Value.int _ _ = _; rw [cy_limit hc1])
  · obtain ⟨hl7, hl5⟩ := lim_le hc1
    refine C.skip ?_
    refine C.next ?_
    refine C.seq ?_
    refine C.seq ?_
    refine C.region [(false,0),(false,1),(false,2),(false,3)] rfl ?_
    refine L.fieldAddr rfl Tf.f25_1 rfl rfl trivial ?_
    refine L.loadD1 rfl (k := 1) Tf.a3 rfl hB1 (by first | simp | assumption) rfl List.not_mem_nil rfl trivial ?_
    refine L.callV rfl rfl rfl (fun D1 hD1 => In_ok _ _ _ _) rfl trivial ?_
    refine L.not rfl rfl rfl trivial ?_
    refine L.nil ?_
    refine C.next ?_
    refine C.cond rfl (fun hc2 => ?_) (fun hc2 => ?_)
    · refine C.seq ?_
      refine C.region [(false,0)] rfl ?_
      refine L.assign rfl rfl rfl trivial ?_
      refine L.nil ?_
      refine C.next ?_
      refine C.ret ?_
      refine C.thenRet ?_
      exact leave (vs := [_]) rfl rfl rfl ⟨rfl, trivial⟩ (fun D hD => by show Value.int _ _ = _; rw [fr_fit hc1 hc2])
    · refine C.skip ?_
      refine C.next ?_
      refine C.seq ?_
      refine C.seq ?_
      refine C.region [(false,0)] rfl ?_
      refine L.assign rfl rfl rfl trivial ?_
      refine L.nil ?_
      refine C.next ?_
      refine C.block ?_
      refine C.loopC (γ := Nat) (fun i => y.chairs.length - i) (fun i => i ≤ y.chairs.length ∧ (y.chairs.take i).all chairOk = true) (fun i => [(3, .int .i64 (i : Int))]) [(2, _), (1, _)] (fun i => [E1, D]) 0 (by simp) ⟨(by first | rfl | (show some (Value.int _ _) = some (Value.int _ _); congr 2; omega)), trivial⟩ ⟨rfl, rfl, trivial⟩ (ds_same) ?_
      rintro i ⟨h1, h2⟩
      refine C.seq ?_
      refine C.seq ?_
      refine C.region [(false,0),(false,1),(false,2),(false,3),(false,4)] rfl ?_
      refine L.move rfl rfl rfl trivial ?_
      refine L.fieldAddr rfl Tf.f25_0 rfl rfl trivial ?_
      refine L.loadD1 rfl (k := 0) Tf.a22 rfl hB1 (by first | simp | assumption) rfl List.not_mem_nil rfl trivial ?_
      refine L.len rfl Try.underlying22 rfl hc rfl rfl trivial ?_
      refine L.lss rfl rfl rfl rfl trivial ?_
      refine L.nil ?_
      refine C.next ?_
      refine C.condD rfl (fun hc3 => ?_) (fun hc3 => ?_)
      · have hi : i < y.chairs.length := by omega
        obtain ⟨x, hx⟩ : ∃ x, y.chairs[i]? = some x := ⟨_, List.getElem?_eq_getElem hi⟩
        refine C.skip ?_
        refine C.next ?_
        refine C.seq ?_
        refine C.block ?_
        refine C.seq ?_
        refine C.region [(false,0),(false,1),(false,2),(false,3),(false,4),(false,5),(false,6)] rfl ?_
        refine L.fieldAddr rfl Tf.f25_0 rfl rfl trivial ?_
        refine L.loadD1 rfl (k := 0) Tf.a22 rfl hB1 (by first | simp | assumption) rfl List.not_mem_nil rfl trivial ?_
        refine L.move rfl rfl rfl trivial ?_
        refine L.indexS rfl Try.underlying22 Tf.s94 rfl hc rfl (by omega) hx rfl trivial (fun b1 o1 cs1 hr1 hcl1 hA1 => ?_)
        obtain rfl : cs1 = [.int .i64 _, .int .i64 _, .int .i64 _, .int .i64 _] := hr1
        refine L.loadDW rfl Tf.a94 rfl hA1 (by first | simp | assumption) Tf.s94 List.not_mem_nil rfl trivial ?_
        refine L.alloc rfl Tf.z94 rfl rfl trivial (fun q2 => ?_)
        refine L.storeW rfl rfl rfl rfl Tf.s94 (by first | rfl | (simp only [ints_length, *]; done) | (simp only [ints_length, *]; rfl) | (simp only [ints_length, *]; omega)) (by first | rfl | (simp only [ints_length, *]; done) | (simp only [ints_length, *]; rfl) | (simp only [ints_length, *]; omega)) (Has.head) (by first | exact ints_cell1 _ | simp [cell1]) trivial ?_
        refine L.nil ?_
        refine C.next ?_
        refine C.seq ?_
        refine C.region [(false,0),(false,1),(false,2),(false,3),(false,4),(false,5),(false,6),(false,7),(false,8),(false,9),(false,10),(false,11),(false,12),(false,13),(false,14),(false,15),(false,16),(false,17),(false,18),(false,19),(false,20),(false,21),(false,22),(false,23),(false,24)] rfl ?_
        refine L.fieldAddr rfl Tf.f94_0 rfl rfl trivial ?_
        refine L.loadB1 rfl Tf.a3 rfl (List.Mem.head _) rfl List.not_mem_nil rfl trivial ?_
        refine L.callV rfl rfl rfl (fun D2 hD2 => In_ok _ _ _ _) rfl trivial ?_
        refine L.not rfl rfl rfl trivial ?_
        refine L.move rfl rfl rfl trivial ?_
        refine' L.or [(false,5),(false,6),(false,7),(false,8),(false,9),(false,10)] [(false,11),(false,12),(false,13),(false,14),(false,15),(false,16),(false,17),(false,18),(false,19),(false,20),(false,21),(false,22),(false,23),(false,24)] (s := 37) (p := 43) rfl rfl (fun hg2 => ?_) (fun hg2 => ?_) ?_
        rotate_left
        · refine L.fieldAddr rfl Tf.f94_1 rfl rfl ⟨_, rfl, rfl⟩ ?_
          refine L.indexA rfl Try.underlying91 Tf.s3 rfl rfl (by decide) (by decide) rfl ⟨_, rfl, rfl⟩ ?_
          refine L.loadB1 rfl Tf.a3 rfl (List.Mem.head _) (show _ = some (Value.int .i64 x.parts.a) from rfl) List.not_mem_nil rfl ⟨_, rfl, rfl⟩ ?_
          refine L.callV rfl rfl rfl (fun D3 hD3 => In_ok _ _ _ _) rfl ⟨_, rfl, rfl⟩ ?_
          refine L.not rfl rfl rfl ⟨_, rfl, rfl⟩ ?_
          refine L.pickF rfl rfl rfl rfl trivial ?_
          exact L.nil fun a w hh => hh.cutK 5 rfl
        · refine L.pass rfl rfl rfl ⟨_, _, rfl, rfl, rfl⟩ ?_
          refine L.pass rfl rfl rfl ⟨_, _, rfl, rfl, rfl⟩ ?_
          refine L.pass rfl rfl rfl ⟨_, _, rfl, rfl, rfl⟩ ?_
          refine L.pass rfl rfl rfl ⟨_, _, rfl, rfl, rfl⟩ ?_
          refine L.pass rfl rfl rfl ⟨_, _, rfl, rfl, rfl⟩ ?_
          refine L.pickT rfl rfl rfl rfl trivial ?_
          exact L.nil fun a w hh => hh.cutK 5 rfl
        refine L.move rfl rfl rfl trivial ?_
        refine' L.or [(false,12),(false,13),(false,14),(false,15),(false,16),(false,17)] [(false,18),(false,19),(false,20),(false,21),(false,22),(false,23),(false,24)] (s := 44) (p := 50) rfl rfl (fun hg3 => ?_) (fun hg3 => ?_) ?_
        rotate_left
        · refine L.fieldAddr rfl Tf.f94_1 rfl rfl ⟨_, rfl, rfl⟩ ?_
          refine L.indexA rfl Try.underlying91 Tf.s3 rfl rfl (by decide) (by decide) rfl ⟨_, rfl, rfl⟩ ?_
          refine L.loadB1 rfl Tf.a3 rfl (List.Mem.head _) (show _ = some (Value.int .i64 x.parts.b) from rfl) List.not_mem_nil rfl ⟨_, rfl, rfl⟩ ?_
          refine L.callV rfl rfl rfl (fun D4 hD4 => In_ok _ _ _ _) rfl ⟨_, rfl, rfl⟩ ?_
          refine L.not rfl rfl rfl ⟨_, rfl, rfl⟩ ?_
          refine L.pickF rfl rfl rfl rfl trivial ?_
          exact L.nil fun a w hh => hh.cutK 5 rfl
        · refine L.pass rfl rfl rfl ⟨_, _, rfl, rfl, rfl⟩ ?_
          refine L.pass rfl rfl rfl ⟨_, _, rfl, rfl, rfl⟩ ?_
          refine L.pass rfl rfl rfl ⟨_, _, rfl, rfl, rfl⟩ ?_
          refine L.pass rfl rfl rfl ⟨_, _, rfl, rfl, rfl⟩ ?_
          refine L.pass rfl rfl rfl ⟨_, _, rfl, rfl, rfl⟩ ?_
          refine L.pickT rfl rfl rfl rfl trivial ?_
          exact L.nil fun a w hh => hh.cutK 5 rfl
        refine L.move rfl rfl rfl trivial ?_
        refine' L.or [(false,19),(false,20),(false,21),(false,22),(false,23),(false,24)] [] (s := 51) (p := 57) rfl rfl (fun hg4 => ?_) (fun hg4 => ?_) ?_
        rotate_left
        · refine L.fieldAddr rfl Tf.f94_1 rfl rfl ⟨_, rfl, rfl⟩ ?_
          refine L.indexA rfl Try.underlying91 Tf.s3 rfl rfl (by decide) (by decide) rfl ⟨_, rfl, rfl⟩ ?_
          refine L.loadB1 rfl Tf.a3 rfl (List.Mem.head _) (show _ = some (Value.int .i64 x.parts.c) from rfl) List.not_mem_nil rfl ⟨_, rfl, rfl⟩ ?_
          refine L.callV rfl rfl rfl (fun D5 hD5 => In_ok _ _ _ _) rfl ⟨_, rfl, rfl⟩ ?_
          refine L.not rfl rfl rfl ⟨_, rfl, rfl⟩ ?_
          refine L.pickF rfl rfl rfl rfl trivial ?_
          exact L.nil fun a w hh => hh.cutK 5 rfl
        · refine L.pass rfl rfl rfl ⟨_, _, rfl, rfl, rfl⟩ ?_
          refine L.pass rfl rfl rfl ⟨_, _, rfl, rfl, rfl⟩ ?_
          refine L.pass rfl rfl rfl ⟨_, _, rfl, rfl, rfl⟩ ?_
          refine L.pass rfl rfl rfl ⟨_, _, rfl, rfl, rfl⟩ ?_
          refine L.pass rfl rfl rfl ⟨_, _, rfl, rfl, rfl⟩ ?_
          refine L.pickT rfl rfl rfl rfl trivial ?_
          exact L.nil fun a w hh => hh.cutK 5 rfl
        refine L.nil ?_
        refine C.next ?_
        refine C.cond rfl (fun hc4 => ?_) (fun hc4 => ?_)
        · refine C.seq ?_
          refine C.region [(false,0)] rfl ?_
          refine L.assign rfl rfl rfl trivial ?_
          refine L.nil ?_
          refine C.next ?_
          refine C.ret ?_
          refine C.blockRet ?_
          refine C.thenRet ?_
          refine C.thenRet ?_
          refine C.blockRet ?_
          refine C.thenRet ?_
          exact leave (vs := [_]) rfl rfl rfl ⟨rfl, trivial⟩ (fun D hD => by show Value.int _ _ = _; rw [fr_chair hc1 (List.mem_of_getElem? hx) hc4])
        · refine C.skip ?_
          refine C.blockEnd ?_
          refine C.next ?_
          refine C.region [(false,0),(false,1),(false,2)] rfl ?_
          refine L.move rfl rfl rfl trivial ?_
          refine L.add rfl rfl rfl (by simp only [inK]; omega) rfl trivial ?_
          refine L.assign rfl rfl rfl trivial ?_
          refine L.nil ?_
          exact C.againR 25 (i + 1) ⟨by omega, allk_step hx h2 (chair_yes hc4)⟩ (by omega) ⟨(by first | rfl | (show some (Value.int _ _) = some (Value.int _ _); congr 2; omega)), trivial⟩ rfl rfl (List.Sublist.cons _ (List.Sublist.refl _)) (ds_same)
      · rw [List.take_of_length_le (by omega)] at h2
        refine C.exit ?_
        refine C.thenExit ?_
        refine C.thenExit ?_
        refine C.blockExit ?_
        refine C.next ?_
        refine C.seq ?_
        refine C.seq ?_
        refine C.region [(false,0)] rfl ?_
        refine L.assign rfl rfl rfl trivial ?_
        refine L.nil ?_
        refine C.next ?_
        refine C.block ?_
        refine C.loopC (γ := Nat) (fun j => y.claims.length - j) (fun j => j ≤ y.claims.length ∧ (y.claims.take j).all claimOk = true) (fun j => [(5, .int .i64 (j : Int))]) [(2, _), (1, _)] (fun j => [E1, D]) 0 (by simp) ⟨(by first | rfl | (show some (Value.int _ _) = some (Value.int _ _); congr 2; omega)), trivial⟩ ⟨rfl, rfl, trivial⟩ (ds_same) ?_
        rintro j ⟨h3, h4⟩
        refine C.seq ?_
        refine C.seq ?_
        refine C.region [(false,0),(false,1),(false,2),(false,3),(false,4)] rfl ?_
        refine L.move rfl rfl rfl trivial ?_
        refine L.fieldAddr rfl Tf.f25_2 rfl rfl trivial ?_
        refine L.loadD1 rfl (k := 2) Tf.a23 rfl hB1 (by first | simp | assumption) rfl List.not_mem_nil rfl trivial ?_
        refine L.len rfl Try.underlying23 rfl hq rfl rfl trivial ?_
        refine L.lss rfl rfl rfl rfl trivial ?_
        refine L.nil ?_
        refine C.next ?_
        refine C.condD rfl (fun hc5 => ?_) (fun hc5 => ?_)
        · have hj : j < y.claims.length := by omega
          obtain ⟨r, hr0⟩ : ∃ r, y.claims[j]? = some r := ⟨_, List.getElem?_eq_getElem hj⟩
          refine C.skip ?_
          refine C.next ?_
          refine C.seq ?_
          refine C.block ?_
          refine C.seq ?_
          refine C.region [(false,0),(false,1),(false,2),(false,3),(false,4),(false,5),(false,6)] rfl ?_
          refine L.fieldAddr rfl Tf.f25_2 rfl rfl trivial ?_
          refine L.loadD1 rfl (k := 2) Tf.a23 rfl hB1 (by first | simp | assumption) rfl List.not_mem_nil rfl trivial ?_
          refine L.move rfl rfl rfl trivial ?_
          refine L.indexS rfl Try.underlying23 Tf.s67 rfl hq rfl (by omega) hr0 rfl trivial (fun b2 o2 cs2 hr2 hcl2 hA2 => ?_)
          obtain rfl : cs2 = [.int .i64 _, .int .i64 _] := hr2
          refine L.loadDW rfl Tf.a67 rfl hA2 (by first | simp | assumption) Tf.s67 List.not_mem_nil rfl trivial ?_
          refine L.alloc rfl Tf.z67 rfl rfl trivial (fun q3 => ?_)
          refine L.storeW rfl rfl rfl rfl Tf.s67 (by first | rfl | (simp only [ints_length, *]; done) | (simp only [ints_length, *]; rfl) | (simp only [ints_length, *]; omega)) (by first | rfl | (simp only [ints_length, *]; done) | (simp only [ints_length, *]; rfl) | (simp only [ints_length, *]; omega)) (Has.head) (by first | exact ints_cell1 _ | simp [cell1]) trivial ?_
          refine L.nil ?_
          refine C.next ?_
          refine C.seq ?_
          refine C.region [(false,0),(false,1),(false,2),(false,3),(false,4),(false,5),(false,6),(false,7),(false,8),(false,9),(false,10),(false,11),(false,12),(false,13),(false,14)] rfl ?_
          refine L.fieldAddr rfl Tf.f67_0 rfl rfl trivial ?_
          refine L.loadB1 rfl Tf.a3 rfl (List.Mem.head _) rfl List.not_mem_nil rfl trivial ?_
          refine L.lss rfl rfl rfl rfl trivial ?_
          refine L.move rfl rfl rfl trivial ?_
          refine' L.or [(false,4),(false,5),(false,6),(false,7),(false,8),(false,9)] [(false,10),(false,11),(false,12),(false,13),(false,14)] (s := 73) (p := 79) rfl rfl (fun hg5 => ?_) (fun hg5 => ?_) ?_
          rotate_left
          · refine L.fieldAddr rfl Tf.f67_0 rfl rfl ⟨_, rfl, rfl⟩ ?_
            refine L.loadB1 rfl Tf.a3 rfl (List.Mem.head _) rfl List.not_mem_nil rfl ⟨_, rfl, rfl⟩ ?_
            refine L.fieldAddr rfl Tf.f67_1 rfl rfl ⟨_, rfl, rfl⟩ ?_
            refine L.loadB1 rfl Tf.a3 rfl (List.Mem.head _) rfl List.not_mem_nil rfl ⟨_, rfl, rfl⟩ ?_
            refine L.gtr rfl rfl rfl rfl ⟨_, rfl, rfl⟩ ?_
            refine L.pickF rfl rfl rfl rfl trivial ?_
            exact L.nil fun a w hh => hh.cutK 5 rfl
          · refine L.pass rfl rfl rfl ⟨_, _, rfl, rfl, rfl⟩ ?_
            refine L.pass rfl rfl rfl ⟨_, _, rfl, rfl, rfl⟩ ?_
            refine L.pass rfl rfl rfl ⟨_, _, rfl, rfl, rfl⟩ ?_
            refine L.pass rfl rfl rfl ⟨_, _, rfl, rfl, rfl⟩ ?_
            refine L.pass rfl rfl rfl ⟨_, _, rfl, rfl, rfl⟩ ?_
            refine L.pickT rfl rfl rfl rfl trivial ?_
            exact L.nil fun a w hh => hh.cutK 5 rfl
          refine L.move rfl rfl rfl trivial ?_
          refine' L.or [(false,11),(false,12),(false,13),(false,14)] [] (s := 80) (p := 84) rfl rfl (fun hg6 => ?_) (fun hg6 => ?_) ?_
          rotate_left
          · refine L.fieldAddr rfl Tf.f67_1 rfl rfl ⟨_, rfl, rfl⟩ ?_
            refine L.loadB1 rfl Tf.a3 rfl (List.Mem.head _) rfl List.not_mem_nil rfl ⟨_, rfl, rfl⟩ ?_
            refine L.gtr rfl rfl rfl rfl ⟨_, rfl, rfl⟩ ?_
            refine L.pickF rfl rfl rfl rfl trivial ?_
            exact L.nil fun a w hh => hh.cutK 3 rfl
          · refine L.pass rfl rfl rfl ⟨_, _, rfl, rfl, rfl⟩ ?_
            refine L.pass rfl rfl rfl ⟨_, _, rfl, rfl, rfl⟩ ?_
            refine L.pass rfl rfl rfl ⟨_, _, rfl, rfl, rfl⟩ ?_
            refine L.pickT rfl rfl rfl rfl trivial ?_
            exact L.nil fun a w hh => hh.cutK 3 rfl
          refine L.nil ?_
          refine C.next ?_
          refine C.cond rfl (fun hc6 => ?_) (fun hc6 => ?_)
          · refine C.seq ?_
            refine C.region [(false,0)] rfl ?_
            refine L.assign rfl rfl rfl trivial ?_
            refine L.nil ?_
            refine C.next ?_
            refine C.ret ?_
            refine C.blockRet ?_
            refine C.thenRet ?_
            refine C.thenRet ?_
            refine C.blockRet ?_
            refine C.thenRet ?_
            exact leave (vs := [_]) rfl rfl rfl ⟨rfl, trivial⟩ (fun D hD => by show Value.int _ _ = _; rw [fr_claim hc1 (List.mem_of_getElem? hr0) hc6])
          · refine C.skip ?_
            refine C.blockEnd ?_
            refine C.next ?_
            refine C.region [(false,0),(false,1),(false,2)] rfl ?_
            refine L.move rfl rfl rfl trivial ?_
            refine L.add rfl rfl rfl (by simp only [inK]; omega) rfl trivial ?_
            refine L.assign rfl rfl rfl trivial ?_
            refine L.nil ?_
            exact C.againR 22 (j + 1) ⟨by omega, allk_step hr0 h4 (claim_yes hc6)⟩ (by omega) ⟨(by first | rfl | (show some (Value.int _ _) = some (Value.int _ _); congr 2; omega)), trivial⟩ rfl rfl (List.Sublist.cons _ (List.Sublist.refl _)) (ds_same)
        · rw [List.take_of_length_le (by omega)] at h4
          refine C.exit ?_
          refine C.thenExit ?_
          refine C.thenExit ?_
          refine C.blockExit ?_
          refine C.next ?_
          refine C.seq ?_
          refine C.seq ?_
          refine C.region [(false,0),(false,1),(false,2)] rfl ?_
          refine L.loadDW rfl Tf.a25 rfl hB1 (by first | simp | assumption) Tf.s25 List.not_mem_nil rfl trivial ?_
          refine L.callV rfl rfl rfl (fun D6 hD6 => Unknown_ok _ y _ (hy0.up (hD6 _ (by simp))) (by omega)) rfl trivial ?_
          refine L.gtr rfl rfl rfl rfl trivial ?_
          refine L.nil ?_
          refine C.next ?_
          refine C.condD rfl (fun hc7 => ?_) (fun hc7 => ?_)
          · refine C.seq ?_
            refine C.region [(false,0)] rfl ?_
            refine L.assign rfl rfl rfl trivial ?_
            refine L.nil ?_
            refine C.next ?_
            refine C.ret ?_
            refine C.thenRet ?_
            exact leave (vs := [_]) rfl rfl rfl ⟨rfl, trivial⟩ (fun D hD => by show Value.int _ _ = _; rw [fr_many hc1 hc2 h2 h4 hc7])
          · refine C.skip ?_
            refine C.next ?_
            refine C.seq ?_
            refine C.region [(false,0)] rfl ?_
            refine L.assign rfl rfl rfl trivial ?_
            refine L.nil ?_
            refine C.next ?_
            refine C.ret ?_
            exact leave (vs := [_]) rfl rfl rfl ⟨rfl, trivial⟩ (fun D hD => by show Value.int _ _ = _; rw [fr_fine hc1 hc2 h2 h4 hc7])
theorem Full_ok (yv : Value) (y : YardD) (D : Data) (hy : YardIs D yv y) (h5 : y.claims.length ≤ 40) : Fn Try.prog 63 #[yv] D (fun _ v => v = .int .i64 (((2 ^ y.claims.length : Nat) : Int) - 1)) := by
  obtain ⟨cv, qv, rfl, hc, hq⟩ := hy
  have hp2 : 2 ^ y.claims.length ≤ 2 ^ 40 := Nat.pow_le_pow_right (by omega) (by omega)
  have hp1 : 1 ≤ 2 ^ y.claims.length := Nat.one_le_two_pow
  have hpi : (1 : Int) ≤ ((2 ^ y.claims.length : Nat) : Int) := by omega
  have hpj : ((2 ^ y.claims.length : Nat) : Int) ≤ 1099511627776 := by omega
  refine enter 9 Try.func63 rfl rfl rfl rfl fun h0 => ?_
  refine C.seq ?_
  refine C.region [(false,0),(false,1)] rfl ?_
  refine L.boxD rfl rfl rfl rfl trivial (fun q1 E1 hE1 hB1 => ?_)
  refine L.assign rfl rfl rfl trivial ?_
  refine L.nil ?_
  refine C.next ?_
  refine C.seq ?_
  refine C.region [(false,0),(false,1),(false,2),(false,3),(false,4),(false,5),(false,6)] rfl ?_
  refine L.fieldAddr rfl Tf.f25_2 rfl rfl trivial ?_
  refine L.loadD1 rfl (k := 2) Tf.a23 rfl hB1 (by first | simp | assumption) rfl List.not_mem_nil rfl trivial ?_
  refine L.len rfl Try.underlying23 rfl hq rfl rfl trivial ?_
  refine L.convI rfl Try.underlying3 Try.underlying88 rfl (by simp only [inK]; omega) rfl trivial ?_
  refine L.shl1U rfl rfl rfl (by omega) rfl trivial ?_
  refine L.sub rfl rfl rfl (by simp only [inK]; generalize ((2 ^ y.claims.length : Nat) : Int) = z at hpi hpj ⊢; omega) rfl trivial ?_
  refine L.assign rfl rfl rfl trivial ?_
  refine L.nil ?_
  refine C.next ?_
  refine C.ret ?_
  exact leave (vs := [_]) rfl rfl rfl ⟨rfl, trivial⟩ (fun D hD => rfl)
end Go.Fs
namespace Go.Fs
open Go.Proofs
open C7
theorem bit_one {w f : Nat} (h : ((w >>> f : Nat) : Int) % 2 = 1) : w.testBit f = true := by
  rw [bit_mod] at h
  cases e : w.testBit f with
  | true => rfl
  | false => rw [e] at h; simp at h
theorem bit_zero {w f : Nat} (h : ¬ ((w >>> f : Nat) : Int) % 2 = 1) : w.testBit f = false := by
  rw [bit_mod] at h
  cases e : w.testBit f with
  | false => rfl
  | true => rw [e] at h; simp at h
theorem firsts_nodup {l : List (Nat × Nat)} (h : (ends l).Nodup) : (l.map fun p => p.1).Nodup := by
  induction l with
  | nil => exact List.nodup_nil
  | cons p l ih =>
    unfold ends at h
    rw [List.flatMap_cons, List.nodup_append] at h
    rw [List.map_cons, List.nodup_cons]
    refine ⟨fun hm => ?_, ih h.2.1⟩
    obtain ⟨q, hq, e⟩ := List.mem_map.1 hm
    exact h.2.2 p.1 (by simp) q.1 (List.mem_flatMap.2 ⟨q, hq, by simp⟩) e.symm
end Go.Fs
namespace Go.Fs
open Go.Proofs
open C7
theorem prC_lenn (l : List (Int × Int)) (n : Nat) (h : l.length = n) : (prC l).length = n * 2 := by rw [prC_length, h]
def ptC (l : List Pt) : List Value := l.flatMap fun p => [.int .i64 p.a, .int .i64 p.b, .int .i64 p.c]
theorem flat_k {α : Type} {f : α → List Value} {k : Nat} (hf : ∀ x, (f x).length = k) (l : List α) : (l.flatMap f).length = l.length * k := by
  induction l with
  | nil => simp
  | cons c l ih => rw [List.flatMap_cons, List.length_append, ih, hf, List.length_cons, Nat.add_mul]; omega
theorem flat_get {α : Type} {f : α → List Value} {k : Nat} (hf : ∀ x, (f x).length = k) {l : List α} {i : Nat} {c : α} (hi : l[i]? = some c) : ((l.flatMap f).drop (i * k)).take k = f c := by
  induction l generalizing i with
  | nil => simp at hi
  | cons d l ih =>
    rw [List.flatMap_cons]
    cases i with
    | zero => obtain rfl : d = c := by simpa using hi
              rw [Nat.zero_mul, List.drop_zero, List.take_append_of_le_length (by rw [hf]; omega), List.take_of_length_le (by rw [hf]; omega)]
    | succ i =>
      rw [List.drop_append, List.drop_eq_nil_of_le (by rw [hf, Nat.add_mul]; omega), List.nil_append]
      have : (i + 1) * k - (f d).length = i * k := by rw [hf, Nat.add_mul]; omega
      rw [this]; exact ih (by simpa using hi)
theorem Froz.pts {D : Data} {v : Value} {n : Nat} {l : List Pt} (hF : Froz D v n (ptC l)) (hn : l.length = n) (hb : n ≤ 9223372036854775807) : Sl D RP 3 v l :=
  hF.sl hn hb fun _i _t hi => ⟨_, rfl, rfl, flat_get (k := 3) (fun _ => rfl) hi⟩
def chC (l : List Ch) : List Value := l.flatMap fun c => [.int .i64 c.size, .int .i64 c.parts.a, .int .i64 c.parts.b, .int .i64 c.parts.c]
theorem chC_snoc (l : List Ch) (c : Ch) : chC (l ++ [c]) = chC l ++ [.int .i64 c.size, .int .i64 c.parts.a, .int .i64 c.parts.b, .int .i64 c.parts.c] := by simp [chC]
theorem chC_lenn (l : List Ch) (n : Nat) (h : l.length = n) : (chC l).length = n * 4 := by rw [chC, flat_k (k := 4) (fun _ => rfl), h]
theorem Froz.chs {D : Data} {v : Value} {n : Nat} {l : List Ch} (hF : Froz D v n (chC l)) (hn : l.length = n) (hb : n ≤ 9223372036854775807) : Sl D RCh 4 v l :=
  hF.sl hn hb fun _i _t hi => ⟨_, rfl, rfl, flat_get (k := 4) (fun _ => rfl) hi⟩
theorem ints_len {xs ys : List Int} (h : xs.length ≠ ys.length) : false = (xs == ys) := by
  symm; simp; intro e; exact h (by rw [e])
theorem ints_no {xs ys : List Int} {k : Nat} {a b : Int} (ha : xs[k]? = some a) (hb : ys[k]? = some b) (h : a ≠ b) : false = (xs == ys) := by
  symm; simp; rintro rfl; rw [ha] at hb; exact h (Option.some.inj hb)
theorem ints_step {xs ys : List Int} {k : Nat} {a b : Int} (ha : xs[k]? = some a) (hb : ys[k]? = some b) (h2 : xs.take k = ys.take k) (h : a = b) : xs.take (k + 1) = ys.take (k + 1) := by
  rw [List.take_add_one, List.take_add_one, ha, hb, h2, h]
theorem ints_yes {xs ys : List Int} {k : Nat} (hl : xs.length = ys.length) (hk : xs.length ≤ k) (h2 : xs.take k = ys.take k) : true = (xs == ys) := by
  rw [List.take_of_length_le hk, List.take_of_length_le (by omega)] at h2; rw [h2]; simp
def thin (y : YardD) : Bool := (decide ((y.chairs.length : Int) ≤ 9) && decide ((y.claims.length : Int) ≤ 7)) && (decide (fault y ≠ 0) || decide ((unknown y.chairs : Int) ≤ 5))
theorem to_ok (p : Int × Int) (D : Data) : Fn Try.prog 41 #[k2V p] D (fun _ v => v = k2V p) := by
  obtain ⟨lo, hi⟩ := p
  unfold k2V
  refine enter 8 Try.func41 rfl rfl rfl rfl fun h0 => ?_
  refine C.seq ?_
  refine C.region [(false,0),(false,1)] rfl ?_
  refine L.boxD rfl rfl rfl rfl trivial (fun q1 E1 hE1 hB1 => ?_)
  refine L.alloc rfl Tf.z61 rfl rfl trivial (fun q2 => ?_)
  refine L.nil ?_
  refine C.next ?_
  refine C.seq ?_
  refine C.region [(false,0),(false,1),(false,2),(false,3),(false,4),(false,5)] rfl ?_
  refine L.fieldAddr rfl Tf.f67_0 rfl rfl trivial ?_
  refine L.loadD1 rfl (k := 0) Tf.a3 rfl hB1 (by first | simp | assumption) rfl List.not_mem_nil rfl trivial ?_
  refine L.fieldAddr rfl Tf.f67_1 rfl rfl trivial ?_
  refine L.loadD1 rfl (k := 1) Tf.a3 rfl hB1 (by first | simp | assumption) rfl List.not_mem_nil rfl trivial ?_
  refine L.build (cs := [.int .i64 lo, .int .i64 hi]) rfl Tf.p61 Tf.z61 rfl rfl rfl trivial ?_
  refine L.storeW rfl rfl rfl rfl Tf.s61 (by first | rfl | (simp only [ints_length, *]; done) | (simp only [ints_length, *]; rfl) | (simp only [ints_length, *]; omega)) (by first | rfl | (simp only [ints_length, *]; done) | (simp only [ints_length, *]; rfl) | (simp only [ints_length, *]; omega)) (Has.head) (by first | exact ints_cell1 _ | simp [cell1]) trivial ?_
  refine L.nil ?_
  refine C.next ?_
  refine C.ret ?_
  exact leave (vs := [_]) rfl rfl rfl ⟨⟨_, _, _, rfl, (List.Mem.head _), Or.inr ⟨Tf.a61, (by first | exact Tf.s61 | (simp only [List.size_toArray, ints_length, *]; exact Tf.s61)), rfl⟩⟩, trivial⟩ (fun D hD => rfl)
theorem between_ok (lo hi : Int) (D : Data) : Fn Try.prog 71 #[.int .i64 lo, .int .i64 hi] D (fun _ v => v = k2V (lo, hi)) := by
  refine enter 8 Try.func71 rfl rfl rfl rfl fun h0 => ?_
  refine C.seq ?_
  refine C.region [(false,0)] rfl ?_
  refine L.alloc rfl Tf.z61 rfl rfl trivial (fun q1 => ?_)
  refine L.nil ?_
  refine C.next ?_
  refine C.seq ?_
  refine C.region [(false,0),(false,1),(false,2),(false,3)] rfl ?_
  refine L.move rfl rfl rfl trivial ?_
  refine L.move rfl rfl rfl trivial ?_
  refine L.build (cs := [.int .i64 lo, .int .i64 hi]) rfl Tf.p61 Tf.z61 rfl rfl rfl trivial ?_
  refine L.storeW rfl rfl rfl rfl Tf.s61 (by first | rfl | (simp only [ints_length, *]; done) | (simp only [ints_length, *]; rfl) | (simp only [ints_length, *]; omega)) (by first | rfl | (simp only [ints_length, *]; done) | (simp only [ints_length, *]; rfl) | (simp only [ints_length, *]; omega)) (Has.head) (by first | exact ints_cell1 _ | simp [cell1]) trivial ?_
  refine L.nil ?_
  refine C.next ?_
  refine C.ret ?_
  exact leave (vs := [_]) rfl rfl rfl ⟨⟨_, _, _, rfl, (List.Mem.head _), Or.inr ⟨Tf.a61, (by first | exact Tf.s61 | (simp only [List.size_toArray, ints_length, *]; exact Tf.s61)), rfl⟩⟩, trivial⟩ (fun D hD => rfl)
theorem ints_ok (av bv : Value) (xs ys : List Int) (D : Data) (hx : Sl D RI 1 av xs) (hy : Sl D RI 1 bv ys) : Fn Try.prog 50 #[av, bv] D (fun _ v => v = .bool (xs == ys)) := by
  have hl := hx.len
  refine enter 26 Try.func50 rfl rfl rfl rfl fun h0 => ?_
  refine C.seq ?_
  refine C.region [(false,0)] rfl ?_
  refine L.assign rfl rfl rfl trivial ?_
  refine L.nil ?_
  refine C.next ?_
  refine C.seq ?_
  refine C.seq ?_
  refine C.region [(false,0),(false,1),(false,2),(false,3),(false,4)] rfl ?_
  refine L.move rfl rfl rfl trivial ?_
  refine L.len rfl Try.underlying52 rfl hx rfl rfl trivial ?_
  refine L.move rfl rfl rfl trivial ?_
  refine L.len rfl Try.underlying52 rfl hy rfl rfl trivial ?_
  refine L.neq rfl rfl rfl rfl trivial ?_
  refine L.nil ?_
  refine C.next ?_
  refine C.condD rfl (fun hc1 => ?_) (fun hc1 => ?_)
  · refine C.seq ?_
    refine C.region [(false,0)] rfl ?_
    refine L.assign rfl rfl rfl trivial ?_
    refine L.nil ?_
    refine C.next ?_
    refine C.ret ?_
    refine C.thenRet ?_
    exact leave (vs := [_]) rfl rfl rfl ⟨rfl, trivial⟩ (fun D hD => congrArg Value.bool (ints_len (by omega)))
  · have hlen : xs.length = ys.length := by omega
    refine C.skip ?_
    refine C.next ?_
    refine C.seq ?_
    refine C.seq ?_
    refine C.region [(false,0)] rfl ?_
    refine L.assign rfl rfl rfl trivial ?_
    refine L.nil ?_
    refine C.next ?_
    refine C.block ?_
    refine C.loopC (γ := Nat) (fun k => xs.length - k) (fun k => k ≤ xs.length ∧ xs.take k = ys.take k) (fun k => [(5, .int .i64 (k : Int))]) [(4, _), (0, _), (1, _)] (fun k => [D]) 0 (by simp) ⟨(by first | rfl | (show some (Value.int _ _) = some (Value.int _ _); congr 2; omega)), trivial⟩ ⟨rfl, rfl, rfl, trivial⟩ (ds_same) ?_
    rintro k ⟨h1, h2⟩
    refine C.seq ?_
    refine C.seq ?_
    refine C.region [(false,0),(false,1),(false,2),(false,3)] rfl ?_
    refine L.move rfl rfl rfl trivial ?_
    refine L.move rfl rfl rfl trivial ?_
    refine L.len rfl Try.underlying52 rfl hx rfl rfl trivial ?_
    refine L.lss rfl rfl rfl rfl trivial ?_
    refine L.nil ?_
    refine C.next ?_
    refine C.condD rfl (fun hc2 => ?_) (fun hc2 => ?_)
    · have hk : k < xs.length := by omega
      obtain ⟨a, ha⟩ : ∃ a, xs[k]? = some a := ⟨_, List.getElem?_eq_getElem hk⟩
      obtain ⟨b, hb⟩ : ∃ b, ys[k]? = some b := ⟨_, List.getElem?_eq_getElem (by omega)⟩
      refine C.skip ?_
      refine C.next ?_
      refine C.seq ?_
      refine C.block ?_
      refine C.seq ?_
      refine C.draw [] 3 [0,1,2,3,4,5,6,7,8] [false,true,false,false,true,true,true,true,false] [(false,0),(true,1),(false,2),(false,3),(true,4),(true,5),(true,6),(true,7),(false,8)] Tf.follows (fun _ _ _ h => np_body (P := Try.prog) (fn := Try.f50) _ _ _ h) (by kernel_rfl) rfl ?_
      refine L.move rfl rfl rfl trivial ?_
      refine L.move rfl rfl rfl trivial ?_
      refine L.indexS rfl Try.underlying52 Tf.s3 rfl hx rfl (by omega) ha rfl trivial (fun b1 o1 cs1 hr1 hcl1 hA1 => ?_)
      obtain rfl : cs1 = [.int .i64 _] := hr1
      refine L.loadD1 rfl (k := 0) Tf.a3 rfl hA1 (by first | simp | assumption) rfl List.not_mem_nil rfl trivial ?_
      refine L.move rfl rfl rfl trivial ?_
      refine L.move rfl rfl rfl trivial ?_
      refine L.indexS rfl Try.underlying52 Tf.s3 rfl hy rfl (by omega) hb rfl trivial (fun b2 o2 cs2 hr2 hcl2 hA2 => ?_)
      obtain rfl : cs2 = [.int .i64 _] := hr2
      refine L.loadD1 rfl (k := 0) Tf.a3 rfl hA2 (by first | simp | assumption) rfl List.not_mem_nil rfl trivial ?_
      refine L.neq rfl rfl rfl rfl trivial ?_
      refine L.nil ?_
      refine C.next ?_
      refine C.condD rfl (fun hc3 => ?_) (fun hc3 => ?_)
      · refine C.seq ?_
        refine C.region [(false,0)] rfl ?_
        refine L.assign rfl rfl rfl trivial ?_
        refine L.nil ?_
        refine C.next ?_
        refine C.ret ?_
        refine C.blockRet ?_
        refine C.thenRet ?_
        refine C.thenRet ?_
        refine C.blockRet ?_
        refine C.thenRet ?_
        exact leave (vs := [_]) rfl rfl rfl ⟨rfl, trivial⟩ (fun D hD => congrArg Value.bool (ints_no ha hb hc3))
      · refine C.skip ?_
        refine C.blockEnd ?_
        refine C.next ?_
        refine C.region [(false,0),(false,1),(false,2)] rfl ?_
        refine L.move rfl rfl rfl trivial ?_
        refine L.add rfl rfl rfl (by simp only [inK]; omega) rfl trivial ?_
        refine L.assign rfl rfl rfl trivial ?_
        refine L.nil ?_
        exact C.againR 17 (k + 1) ⟨by omega, ints_step ha hb h2 (by omega)⟩ (by omega) ⟨(by first | rfl | (show some (Value.int _ _) = some (Value.int _ _); congr 2; omega)), trivial⟩ rfl rfl (List.Sublist.refl _) (ds_same)
    · refine C.exit ?_
      refine C.thenExit ?_
      refine C.thenExit ?_
      refine C.blockExit ?_
      refine C.next ?_
      refine C.seq ?_
      refine C.region [(false,0)] rfl ?_
      refine L.assign rfl rfl rfl trivial ?_
      refine L.nil ?_
      refine C.next ?_
      refine C.ret ?_
      exact leave (vs := [_]) rfl rfl rfl ⟨rfl, trivial⟩ (fun D hD => congrArg Value.bool (ints_yes hlen (by omega) h2))
theorem Thin_ok (yv : Value) (y : YardD) (D : Data) (hy : YardIs D yv y) : Fn Try.prog 20 #[yv] D (fun _ v => v = .bool (thin y)) := by
  have hy0 := hy
  obtain ⟨cv, qv, rfl, hc, hq⟩ := hy
  refine enter 23 Try.func20 rfl rfl rfl rfl fun h0 => ?_
  refine C.seq ?_
  refine C.region [(false,0),(false,1)] rfl ?_
  refine L.boxD rfl rfl rfl rfl trivial (fun q1 E1 hE1 hB1 => ?_)
  refine L.assign rfl rfl rfl trivial ?_
  refine L.nil ?_
  refine C.next ?_
  refine C.seq ?_
  refine C.region [(false,0),(false,1),(false,2),(false,3),(false,4),(false,5),(false,6),(false,7),(false,8),(false,9),(false,10),(false,11),(false,12),(false,13),(false,14),(false,15),(false,16),(false,17),(false,18),(false,19),(false,20)] rfl ?_
  refine L.fieldAddr rfl Tf.f25_0 rfl rfl trivial ?_
  refine L.loadD1 rfl (k := 0) Tf.a22 rfl hB1 (by first | simp | assumption) rfl List.not_mem_nil rfl trivial ?_
  refine L.len rfl Try.underlying22 rfl (by assumption) rfl rfl trivial ?_
  refine L.leq rfl rfl rfl rfl trivial ?_
  refine L.move rfl rfl rfl trivial ?_
  refine' L.and [(false,5),(false,6),(false,7),(false,8),(false,9)] [(false,10),(false,11),(false,12),(false,13),(false,14),(false,15),(false,16),(false,17),(false,18),(false,19),(false,20)] (s := 7) (p := 12) rfl rfl (fun hg1 => ?_) (fun hg1 => ?_) ?_
  rotate_left
  · refine L.fieldAddr rfl Tf.f25_2 rfl rfl ⟨_, rfl, rfl⟩ ?_
    refine L.loadD1 rfl (k := 2) Tf.a23 rfl hB1 (by first | simp | assumption) rfl List.not_mem_nil rfl ⟨_, rfl, rfl⟩ ?_
    refine L.len rfl Try.underlying23 rfl (by assumption) rfl rfl ⟨_, rfl, rfl⟩ ?_
    refine L.leq rfl rfl rfl rfl ⟨_, rfl, rfl⟩ ?_
    refine L.pickT rfl rfl rfl rfl trivial ?_
    exact L.nil fun a w hh => hh.cutK 4 rfl
  · refine L.pass rfl rfl rfl ⟨_, _, rfl, rfl, rfl⟩ ?_
    refine L.pass rfl rfl rfl ⟨_, _, rfl, rfl, rfl⟩ ?_
    refine L.pass rfl rfl rfl ⟨_, _, rfl, rfl, rfl⟩ ?_
    refine L.pass rfl rfl rfl ⟨_, _, rfl, rfl, rfl⟩ ?_
    refine L.pickF rfl rfl rfl rfl trivial ?_
    exact L.nil fun a w hh => hh.cutK 4 rfl
  refine L.move rfl rfl rfl trivial ?_
  refine' L.and [(false,11),(false,12),(false,13),(false,14),(false,15),(false,16),(false,17),(false,18),(false,19)] [(false,20)] (s := 13) (p := 22) rfl rfl (fun hg2 => ?_) (fun hg2 => ?_) ?_
  rotate_left
  · refine L.loadDW rfl Tf.a25 rfl hB1 (by first | simp | assumption) Tf.s25 List.not_mem_nil rfl ⟨_, rfl, rfl⟩ ?_
    refine L.callV rfl rfl rfl (fun D1 hD1 => Fault_ok _ y _ (hy0.up (hD1 _ (by simp)))) rfl ⟨_, rfl, rfl⟩ ?_
    refine L.neq rfl rfl rfl rfl ⟨_, rfl, rfl⟩ ?_
    refine L.move rfl rfl rfl ⟨_, rfl, rfl⟩ ?_
    refine' L.or [(false,15),(false,16),(false,17),(false,18)] [(false,19)] (s := 17) (p := 21) rfl rfl (fun hg3 => ?_) (fun hg3 => ?_) ?_
    rotate_left
    · refine L.loadDW rfl Tf.a25 rfl hB1 (by first | simp | assumption) Tf.s25 List.not_mem_nil rfl ⟨_, rfl, rfl⟩ ?_
      refine L.callV rfl rfl rfl (fun D2 hD2 => Unknown_ok _ y _ (hy0.up (hD2 _ (by simp))) (by simp at *; omega)) rfl ⟨_, rfl, rfl⟩ ?_
      refine L.leq rfl rfl rfl rfl ⟨_, rfl, rfl⟩ ?_
      refine L.pickF rfl rfl rfl rfl ⟨_, rfl, rfl⟩ ?_
      exact L.nil fun a w hh => hh.cutK 3 rfl
    · refine L.pass rfl rfl rfl ⟨_, _, rfl, rfl, rfl⟩ ?_
      refine L.pass rfl rfl rfl ⟨_, _, rfl, rfl, rfl⟩ ?_
      refine L.pass rfl rfl rfl ⟨_, _, rfl, rfl, rfl⟩ ?_
      refine L.pickT rfl rfl rfl rfl ⟨_, rfl, rfl⟩ ?_
      exact L.nil fun a w hh => hh.cutK 3 rfl
    refine L.pickT rfl rfl rfl rfl trivial ?_
    exact L.nil fun a w hh => hh.cutK 5 rfl
  · refine L.pass rfl rfl rfl ⟨_, _, rfl, rfl, rfl⟩ ?_
    refine L.pass rfl rfl rfl ⟨_, _, rfl, rfl, rfl⟩ ?_
    refine L.pass rfl rfl rfl ⟨_, _, rfl, rfl, rfl⟩ ?_
    refine L.pass rfl rfl rfl ⟨_, _, rfl, rfl, rfl⟩ ?_
    refine L.pass rfl rfl rfl ⟨_, _, rfl, rfl, rfl⟩ ?_
    refine L.pass rfl rfl rfl ⟨_, _, rfl, rfl, rfl⟩ ?_
    refine L.pass rfl rfl rfl ⟨_, _, rfl, rfl, rfl⟩ ?_
    refine L.pass rfl rfl rfl ⟨_, _, rfl, rfl, rfl⟩ ?_
    refine L.pickF rfl rfl rfl rfl trivial ?_
    exact L.nil fun a w hh => hh.cutK 8 rfl
  refine L.assign rfl rfl rfl trivial ?_
  refine L.nil ?_
  refine C.next ?_
  refine C.ret ?_
  exact leave (vs := [_]) rfl rfl rfl ⟨rfl, trivial⟩ (fun D hD => rfl)
theorem ready_ok (yv : Value) (y : YardD) (D : Data) (hy : YardIs D yv y) : Fn Try.prog 53 #[yv] D (fun _ v => v = .bool (thin y && decide (fault y = 0))) := by
  have hy0 := hy
  obtain ⟨cv, qv, rfl, hc, hq⟩ := hy
  refine enter 10 Try.func53 rfl rfl rfl rfl fun h0 => ?_
  refine C.seq ?_
  refine C.region [(false,0),(false,1)] rfl ?_
  refine L.boxD rfl rfl rfl rfl trivial (fun q1 E1 hE1 hB1 => ?_)
  refine L.assign rfl rfl rfl trivial ?_
  refine L.nil ?_
  refine C.next ?_
  refine C.seq ?_
  refine C.region [(false,0),(false,1),(false,2),(false,3),(false,4),(false,5),(false,6),(false,7)] rfl ?_
  refine L.loadDW rfl Tf.a25 rfl hB1 (by first | simp | assumption) Tf.s25 List.not_mem_nil rfl trivial ?_
  refine L.callV rfl rfl rfl (fun D1 hD1 => Thin_ok _ y _ (hy0.up (hD1 _ (by simp)))) rfl trivial ?_
  refine L.move rfl rfl rfl trivial ?_
  refine' L.and [(false,3),(false,4),(false,5),(false,6)] [(false,7)] (s := 5) (p := 9) rfl rfl (fun hg1 => ?_) (fun hg1 => ?_) ?_
  rotate_left
  · refine L.loadDW rfl Tf.a25 rfl hB1 (by first | simp | assumption) Tf.s25 List.not_mem_nil rfl ⟨_, rfl, rfl⟩ ?_
    refine L.callV rfl rfl rfl (fun D2 hD2 => Fault_ok _ y _ (hy0.up (hD2 _ (by simp)))) rfl ⟨_, rfl, rfl⟩ ?_
    refine L.eql rfl rfl rfl rfl ⟨_, rfl, rfl⟩ ?_
    refine L.pickT rfl rfl rfl rfl trivial ?_
    exact L.nil fun a w hh => hh.cutK 3 rfl
  · refine L.pass rfl rfl rfl ⟨_, _, rfl, rfl, rfl⟩ ?_
    refine L.pass rfl rfl rfl ⟨_, _, rfl, rfl, rfl⟩ ?_
    refine L.pass rfl rfl rfl ⟨_, _, rfl, rfl, rfl⟩ ?_
    refine L.pickF rfl rfl rfl rfl trivial ?_
    exact L.nil fun a w hh => hh.cutK 3 rfl
  refine L.assign rfl rfl rfl trivial ?_
  refine L.nil ?_
  refine C.next ?_
  refine C.ret ?_
  exact leave (vs := [_]) rfl rfl rfl ⟨rfl, trivial⟩ (fun D hD => rfl)
end Go.Fs
namespace Go.Fs
open Go.Proofs
open C7
theorem cell1_yard {a b : Value} {m : Int} (ha : ∀ u ∈ [a], cell1 u = true) (hb : ∀ u ∈ [b], cell1 u = true) : ∀ u ∈ [a, .int .i64 m, b], cell1 u = true := by
  intro u hu
  simp only [List.mem_cons, List.not_mem_nil, or_false] at hu
  rcases hu with rfl | rfl | rfl
  · exact ha _ List.mem_cons_self
  · rfl
  · exact hb _ List.mem_cons_self
theorem YardL_ok (yv : Value) (y : YardD) (D : Data) (hy : YardIs D yv y) (h1 : y.chairs.length ≤ 100) (h2 : y.claims.length ≤ 100) : Fn Try.prog 23 #[yv] D (fun D' v => YardIs D' v y) := by
  obtain ⟨cv, qv, rfl, hc, hq⟩ := hy
  have hlp := h1
  have hlc := h2
  refine enter 53 Try.func23 rfl rfl rfl rfl fun h0 => ?_
  refine C.seq ?_
  refine C.region [(false,0),(false,1)] rfl ?_
  refine L.boxD rfl rfl rfl rfl trivial (fun q1 E1 hE1 hB1 => ?_)
  refine L.alloc rfl Tf.z37 rfl rfl trivial (fun q2 => ?_)
  refine L.nil ?_
  refine C.next ?_
  refine C.seq ?_
  refine C.region [(false,0),(false,1),(false,2),(false,3),(false,4)] rfl ?_
  refine L.fieldAddr rfl Tf.f25_1 rfl rfl trivial ?_
  refine L.loadD1 rfl (k := 1) Tf.a3 rfl hB1 (by first | simp | assumption) rfl List.not_mem_nil rfl trivial ?_
  refine L.build (cs := [.slice none 0 0, .int .i64 y.fit, .slice none 0 0]) rfl Tf.p37 Tf.z37 rfl rfl rfl trivial ?_
  refine L.alloc rfl Tf.z37 rfl rfl trivial (fun q3 => ?_)
  refine L.storeW rfl rfl rfl rfl Tf.s37 (by first | rfl | (simp only [ints_length, *]; done) | (simp only [ints_length, *]; rfl) | (simp only [ints_length, *]; omega)) (by first | rfl | (simp only [ints_length, *]; done) | (simp only [ints_length, *]; rfl) | (simp only [ints_length, *]; omega)) (Has.head) (by first | exact ints_cell1 _ | simp [cell1]) trivial ?_
  refine L.nil ?_
  refine C.next ?_
  refine C.seq ?_
  refine C.seq ?_
  refine C.region [(false,0)] rfl ?_
  refine L.assign rfl rfl rfl trivial ?_
  refine L.nil ?_
  refine C.next ?_
  refine C.block ?_
  refine C.loopR (γ := Nat × Value × Boxes) (fun g => y.chairs.length - g.1) (fun g => g.1 ≤ y.chairs.length ∧ Acc 115 4 g.2.1 g.1 (chC (y.chairs.take g.1)) g.2.2) (fun g => [(4, .int .i64 (g.1 : Int))]) [(3, _), (2, _), (1, _)] (fun g => (q3, .cells [g.2.1, .int .i64 y.fit, .slice none 0 0].toArray 37 (0, 0)) :: (q2, .cells [.slice none 0 0, .int .i64 0, .slice none 0 0].toArray 37 (0, 0)) :: (g.2.2 ++ [])) (fun g => [E1, D]) (0, .slice none 0 0, []) ⟨by simp, by simpa [chC, prC] using Acc.nil⟩ ⟨(by first | rfl | (show some (Value.int _ _) = some (Value.int _ _); congr 2; omega)), trivial⟩ ⟨rfl, rfl, rfl, trivial⟩ (List.Sublist.refl _) (ds_same) ?_
  rintro ⟨k, w1, ν⟩ ⟨hk1, ha⟩
  simp only at hk1 ha
  refine C.seq ?_
  refine C.seq ?_
  refine C.region [(false,0),(false,1),(false,2),(false,3),(false,4)] rfl ?_
  refine L.move rfl rfl rfl trivial ?_
  refine L.fieldAddr rfl Tf.f25_0 rfl rfl trivial ?_
  refine L.loadD1 rfl (k := 0) Tf.a22 rfl hB1 (by first | simp | assumption) rfl List.not_mem_nil rfl trivial ?_
  refine L.len rfl Try.underlying22 rfl hc rfl rfl trivial ?_
  refine L.lss rfl rfl rfl rfl trivial ?_
  refine L.nil ?_
  refine C.next ?_
  refine C.condD rfl (fun hc1 => ?_) (fun hc1 => ?_)
  · have hk : k < y.chairs.length := by omega
    obtain ⟨x, hx⟩ : ∃ x, y.chairs[k]? = some x := ⟨_, List.getElem?_eq_getElem hk⟩
    refine C.skip ?_
    refine C.next ?_
    refine C.seq ?_
    refine C.block ?_
    refine C.draw [] 7 [0,1,2,3,4,5,6,7,8,9,10,11,12,13,14,15,16,17,18] [false,false,true,true,true,true,true,true,true,true,true,true,true,true,true,true,false,false,false] [(false,0),(false,1),(true,2),(true,3),(true,4),(true,5),(true,6),(true,7),(true,8),(true,9),(true,10),(true,11),(true,12),(true,13),(true,14),(true,15),(false,16),(false,17),(false,18)] Tf.follows (fun _ _ _ h => np_body (P := Try.prog) (fn := Try.f23) _ _ _ h) (by kernel_rfl) rfl ?_
    refine L.fieldAddr rfl Tf.f37_0 rfl rfl trivial ?_
    refine L.loadB1 rfl Tf.a34 rfl (List.Mem.head _) rfl List.not_mem_nil rfl trivial ?_
    refine L.fieldAddr rfl Tf.f25_0 rfl rfl trivial ?_
    refine L.loadD1 rfl (k := 0) Tf.a22 rfl hB1 (by first | simp | assumption) rfl List.not_mem_nil rfl trivial ?_
    refine L.move rfl rfl rfl trivial ?_
    refine L.indexS rfl Try.underlying22 Tf.s94 rfl hc rfl (by omega) hx rfl trivial (fun b1 o1 cs1 hr1 hcl1 hA1 => ?_)
    obtain rfl : cs1 = [.int .i64 _, .int .i64 _, .int .i64 _, .int .i64 _] := hr1
    refine L.fieldAddr rfl Tf.f94_0 rfl rfl trivial ?_
    refine L.loadD1 rfl (k := 0) Tf.a3 rfl hA1 (by first | simp | assumption) rfl List.not_mem_nil rfl trivial ?_
    refine L.fieldAddr rfl Tf.f25_0 rfl rfl trivial ?_
    refine L.loadD1 rfl (k := 0) Tf.a22 rfl hB1 (by first | simp | assumption) rfl List.not_mem_nil rfl trivial ?_
    refine L.move rfl rfl rfl trivial ?_
    refine L.indexS rfl Try.underlying22 Tf.s94 rfl hc rfl (by omega) hx rfl trivial (fun b2 o2 cs2 hr2 hcl2 hA2 => ?_)
    obtain rfl : cs2 = [.int .i64 _, .int .i64 _, .int .i64 _, .int .i64 _] := hr2
    refine L.fieldAddr rfl Tf.f94_1 rfl rfl trivial ?_
    refine L.loadDP rfl (k := 1) Tf.a91 Tf.s91 rfl hA2 (by first | simp | assumption) rfl rfl List.not_mem_nil rfl trivial ?_
    refine L.build (cs := [.int .i64 x.size, .int .i64 x.parts.a, .int .i64 x.parts.b, .int .i64 x.parts.c]) rfl Tf.p115 Tf.z115 rfl rfl rfl trivial ?_
    refine L.buildSlice rfl Try.underlying34 Tf.s115 Tf.z115 rfl rfl rfl rfl (.cons rfl rfl .nil) rfl trivial (fun b901 D901 hD901 hA901 => ?_)
    refine L.append (A := [(_, _), (_, _)]) (B := []) rfl Try.underlying34 rfl rfl Tf.s115 Tf.z115 rfl Tf.i115 rfl rfl rfl ha (Src.lit hA901) (by simp) rfl (chC_lenn _ _ (by simp; omega)) (by simp [cell1]) (by omega) (Or.inl rfl) rfl trivial (fun v7 ν7 ha7 => ?_)
    have hn7 : Acc 115 4 v7 (k + 1) (chC (y.chairs.take (k + 1))) ν7 := by rw [List.take_add_one, hx, Option.toList_some, chC_snoc]; simpa using ha7
    refine L.fieldAddr rfl Tf.f37_0 rfl rfl trivial ?_
    refine L.store rfl rfl rfl ha7.cells1 Tf.s34 (Has.head) (by simp) rfl ha7.cell1 trivial ?_
    refine L.nil ?_
    refine C.blockEnd ?_
    refine C.next ?_
    refine C.region [(false,0),(false,1),(false,2)] rfl ?_
    refine L.move rfl rfl rfl trivial ?_
    refine L.add rfl rfl rfl (by simp only [inK]; omega) rfl trivial ?_
    refine L.assign rfl rfl rfl trivial ?_
    refine L.nil ?_
    exact C.againR 27 (k + 1, v7, ν7) ⟨by simp only; omega, hn7⟩ (by simp only; omega) ⟨(by first | rfl | (show some (Value.int _ _) = some (Value.int _ _); congr 2; omega)), trivial⟩ rfl rfl (List.Sublist.refl _) (fun D h => ⟨D, List.Mem.tail _ (h), Le.refl D⟩)
  · obtain rfl : k = y.chairs.length := by omega
    rw [List.take_length] at ha
    refine C.exit ?_
    refine C.thenExit ?_
    refine C.thenExit ?_
    refine C.blockExit ?_
    refine C.next ?_
    refine C.seq ?_
    refine C.seq ?_
    refine C.freeze (A := [(_, _), (_, _)]) (B := []) ha rfl (fun D8 hD8 hF8 => ?_)
    clear hk1
    have hcz := hF8.chs rfl (by omega)
    have hcz1 := hcz.cell1
    clear ha
    refine C.region [(false,0)] rfl ?_
    refine L.assign rfl rfl rfl trivial ?_
    refine L.nil ?_
    refine C.next ?_
    refine C.block ?_
    refine C.loopR (γ := Nat × Value × Boxes) (fun g => y.claims.length - g.1) (fun g => g.1 ≤ y.claims.length ∧ Acc 61 2 g.2.1 g.1 (prC (y.claims.take g.1)) g.2.2) (fun g => [(5, .int .i64 (g.1 : Int))]) [(3, _), (2, _), (1, _)] (fun g => (q3, .cells [w1, .int .i64 y.fit, g.2.1].toArray 37 (0, 0)) :: (q2, .cells [.slice none 0 0, .int .i64 0, .slice none 0 0].toArray 37 (0, 0)) :: (g.2.2 ++ [])) (fun g => [D8, E1, D]) (0, .slice none 0 0, []) ⟨by simp, by simpa [chC, prC] using Acc.nil⟩ ⟨(by first | rfl | (show some (Value.int _ _) = some (Value.int _ _); congr 2; omega)), trivial⟩ ⟨rfl, rfl, rfl, trivial⟩ (List.Sublist.refl _) (ds_same) ?_
    rintro ⟨k, v, ν⟩ ⟨hk1, ha⟩
    simp only at hk1 ha
    refine C.seq ?_
    refine C.seq ?_
    refine C.region [(false,0),(false,1),(false,2),(false,3),(false,4)] rfl ?_
    refine L.move rfl rfl rfl trivial ?_
    refine L.fieldAddr rfl Tf.f25_2 rfl rfl trivial ?_
    refine L.loadD1 rfl (k := 2) Tf.a23 rfl hB1 (by first | simp | assumption) rfl List.not_mem_nil rfl trivial ?_
    refine L.len rfl Try.underlying23 rfl hq rfl rfl trivial ?_
    refine L.lss rfl rfl rfl rfl trivial ?_
    refine L.nil ?_
    refine C.next ?_
    refine C.condD rfl (fun hc2 => ?_) (fun hc2 => ?_)
    · have hk : k < y.claims.length := by omega
      obtain ⟨x, hx⟩ : ∃ x, y.claims[k]? = some x := ⟨_, List.getElem?_eq_getElem hk⟩
      refine C.skip ?_
      refine C.next ?_
      refine C.seq ?_
      refine C.block ?_
      refine C.draw [] 5 [0,1,2,3,4,5,6,7,8,9,10,11] [false,false,true,true,true,true,true,true,true,false,false,false] [(false,0),(false,1),(true,2),(true,3),(true,4),(true,5),(true,6),(true,7),(true,8),(false,9),(false,10),(false,11)] Tf.follows (fun _ _ _ h => np_body (P := Try.prog) (fn := Try.f23) _ _ _ h) (by kernel_rfl) rfl ?_
      refine L.fieldAddr rfl Tf.f37_2 rfl rfl trivial ?_
      refine L.loadB1 rfl Tf.a35 rfl (List.Mem.head _) rfl List.not_mem_nil rfl trivial ?_
      refine L.fieldAddr rfl Tf.f25_2 rfl rfl trivial ?_
      refine L.loadD1 rfl (k := 2) Tf.a23 rfl hB1 (by first | simp | assumption) rfl List.not_mem_nil rfl trivial ?_
      refine L.move rfl rfl rfl trivial ?_
      refine L.indexS rfl Try.underlying23 Tf.s67 rfl hq rfl (by omega) hx rfl trivial (fun b3 o3 cs3 hr3 hcl3 hA3 => ?_)
      obtain rfl : cs3 = [.int .i64 _, .int .i64 _] := hr3
      refine L.loadDW rfl Tf.a67 rfl hA3 (by first | simp | assumption) Tf.s67 List.not_mem_nil rfl trivial ?_
      refine L.callV rfl rfl rfl (fun D1 hD1 => to_ok x _) rfl trivial ?_
      refine L.buildSlice rfl Try.underlying35 Tf.s61 Tf.z61 rfl rfl rfl rfl (.cons rfl rfl .nil) rfl trivial (fun b902 D902 hD902 hA902 => ?_)
      refine L.append (A := [(_, _), (_, _)]) (B := []) rfl Try.underlying35 rfl rfl Tf.s61 Tf.z61 rfl Tf.i61 rfl rfl rfl ha (Src.lit hA902) (by simp) rfl (prC_lenn _ _ (by simp; omega)) (by simp [cell1]) (by omega) (Or.inl rfl) rfl trivial (fun v7 ν7 ha7 => ?_)
      have hn7 : Acc 61 2 v7 (k + 1) (prC (y.claims.take (k + 1))) ν7 := by rw [List.take_add_one, hx, Option.toList_some, prC_snoc]; simpa using ha7
      refine L.fieldAddr rfl Tf.f37_2 rfl rfl trivial ?_
      refine L.store rfl rfl rfl ha7.cells1 Tf.s35 (Has.head) (by simp) rfl ha7.cell1 trivial ?_
      refine L.nil ?_
      refine C.blockEnd ?_
      refine C.next ?_
      refine C.region [(false,0),(false,1),(false,2)] rfl ?_
      refine L.move rfl rfl rfl trivial ?_
      refine L.add rfl rfl rfl (by simp only [inK]; omega) rfl trivial ?_
      refine L.assign rfl rfl rfl trivial ?_
      refine L.nil ?_
      exact C.againR 20 (k + 1, v7, ν7) ⟨by simp only; omega, hn7⟩ (by simp only; omega) ⟨(by first | rfl | (show some (Value.int _ _) = some (Value.int _ _); congr 2; omega)), trivial⟩ rfl rfl (List.Sublist.refl _) (fun D h => ⟨D, List.Mem.tail _ (h), Le.refl D⟩)
    · obtain rfl : k = y.claims.length := by omega
      rw [List.take_length] at ha
      refine C.exit ?_
      refine C.thenExit ?_
      refine C.thenExit ?_
      refine C.blockExit ?_
      refine C.next ?_
      refine C.seq ?_
      refine C.region [(false,0),(false,1)] rfl ?_
      refine L.loadBW rfl Tf.a37 rfl (List.Mem.head _) Tf.s37 List.not_mem_nil rfl trivial ?_
      refine L.storeW rfl rfl rfl rfl Tf.s37 (by first | rfl | (simp only [ints_length, *]; done) | (simp only [ints_length, *]; rfl) | (simp only [ints_length, *]; omega)) (by first | rfl | (simp only [ints_length, *]; done) | (simp only [ints_length, *]; rfl) | (simp only [ints_length, *]; omega)) (.tail (Has.head)) (cell1_yard hcz1 ha.cell1) trivial ?_
      refine L.nil ?_
      refine C.next ?_
      refine C.ret ?_
      refine Q.freeze (A := [(_, _), (_, _)]) (B := []) ha rfl (fun D2 hD2 hF => ?_)
      exact leave (vs := [_]) rfl rfl rfl ⟨⟨_, _, _, rfl, (List.Mem.tail _ (List.Mem.head _)), Or.inr ⟨Tf.a37, Tf.s37, rfl⟩⟩, trivial⟩ (fun D' hD => ⟨_, v, rfl, hcz.up RCh.up (hD _ (by simp)), (hF.prs rfl (by omega)).up R2.up (hD _ (by simp))⟩)
end Go.Fs
namespace Go.Fs
open Go.Proofs
open C7
def shedD (k : Nat) : YardD := ⟨[⟨4, ⟨1, 0, 0⟩⟩, ⟨5, ⟨0, 1, 1⟩⟩, ⟨5, ⟨0, 1, 2⟩⟩, ⟨9, ⟨1, 1, 1⟩⟩, ⟨4, ⟨1, 0, 0⟩⟩], 1, [(3, 5), (0, 2)].take k⟩
def partsD (n : Int) : List Pt := [⟨1, 0, 0⟩, ⟨0, 1, 1⟩, ⟨0, 1, n⟩, ⟨1, 1, 1⟩, ⟨1, 0, 0⟩]
theorem shed_ok (k : Nat) (hk : k ≤ 2) (D : Data) : Fn Try.prog 69 #[.int .i64 (k : Int)] D (fun D' v => YardIs D' v (shedD k)) := by
  refine enter 22 Try.func69 rfl rfl rfl rfl fun h0 => ?_
  refine C.seq ?_
  refine C.region [(false,0)] rfl ?_
  refine L.alloc rfl Tf.z37 rfl rfl trivial (fun q1 => ?_)
  refine L.nil ?_
  refine C.next ?_
  refine C.seq ?_
  refine C.region [(false,0),(false,1),(false,2),(false,3)] rfl ?_
  refine L.callV rfl rfl rfl (fun D1 hD1 => between_ok _ _ _) rfl trivial ?_
  refine L.callV rfl rfl rfl (fun D2 hD2 => between_ok _ _ _) rfl trivial ?_
  refine L.buildSlice rfl Try.underlying35 Tf.s61 Tf.z61 rfl rfl rfl rfl (.cons rfl rfl (.cons rfl rfl .nil)) rfl trivial (fun b901 D901 hD901 hA901 => ?_)
  have hS901 : Sl D901 R2 2 _ [(3, 5), (0, 2)] := Froz.prs (l := [(3, 5), (0, 2)]) (n := 2) (Or.inr ⟨_, 2, rfl, by omega, hA901⟩) rfl (by omega)
  refine L.assign rfl rfl rfl trivial ?_
  refine L.nil ?_
  refine C.next ?_
  refine C.seq ?_
  refine C.region [(false,0),(false,1),(false,2),(false,3),(false,4),(false,5),(false,6),(false,7),(false,8),(false,9),(false,10),(false,11),(false,12),(false,13),(false,14),(false,15)] rfl ?_
  refine L.buildA (cs := [.int .i64 1, .int .i64 0, .int .i64 0]) rfl Try.underlying113 Tf.s3 Tf.z113 rfl rfl rfl trivial ?_
  refine L.build (cs := [.int .i64 4, .int .i64 1, .int .i64 0, .int .i64 0]) rfl Tf.p115 Tf.z115 rfl rfl rfl trivial ?_
  refine L.buildA (cs := [.int .i64 0, .int .i64 1, .int .i64 1]) rfl Try.underlying113 Tf.s3 Tf.z113 rfl rfl rfl trivial ?_
  refine L.build (cs := [.int .i64 5, .int .i64 0, .int .i64 1, .int .i64 1]) rfl Tf.p115 Tf.z115 rfl rfl rfl trivial ?_
  refine L.buildA (cs := [.int .i64 0, .int .i64 1, .int .i64 2]) rfl Try.underlying113 Tf.s3 Tf.z113 rfl rfl rfl trivial ?_
  refine L.build (cs := [.int .i64 5, .int .i64 0, .int .i64 1, .int .i64 2]) rfl Tf.p115 Tf.z115 rfl rfl rfl trivial ?_
  refine L.buildA (cs := [.int .i64 1, .int .i64 1, .int .i64 1]) rfl Try.underlying113 Tf.s3 Tf.z113 rfl rfl rfl trivial ?_
  refine L.build (cs := [.int .i64 9, .int .i64 1, .int .i64 1, .int .i64 1]) rfl Tf.p115 Tf.z115 rfl rfl rfl trivial ?_
  refine L.buildA (cs := [.int .i64 1, .int .i64 0, .int .i64 0]) rfl Try.underlying113 Tf.s3 Tf.z113 rfl rfl rfl trivial ?_
  refine L.build (cs := [.int .i64 4, .int .i64 1, .int .i64 0, .int .i64 0]) rfl Tf.p115 Tf.z115 rfl rfl rfl trivial ?_
  refine L.buildSlice rfl Try.underlying34 Tf.s115 Tf.z115 rfl rfl rfl rfl (.cons rfl rfl (.cons rfl rfl (.cons rfl rfl (.cons rfl rfl (.cons rfl rfl .nil))))) rfl trivial (fun b902 D902 hD902 hA902 => ?_)
  have hS902 : Sl D902 RCh 4 _ (shedD k).chairs := Froz.chs (l := (shedD k).chairs) (n := 5) (Or.inr ⟨_, 5, rfl, by omega, hA902⟩) rfl (by omega)
  refine L.move rfl rfl rfl trivial ?_
  refine L.move rfl rfl rfl trivial ?_
  refine L.sliceTo rfl Try.underlying35 Tf.s61 rfl rfl hS901 hk rfl trivial (fun v9 hv9 => ?_)
  obtain ⟨va, vc, rfl, hvr⟩ := id hv9
  refine L.build (cs := [.slice (some ⟨b902, 0, none⟩) 5 5, .int .i64 1, .slice va ([((3 : Int), (5 : Int)), (0, 2)].take k).length vc]) rfl Tf.p37 Tf.z37 rfl rfl rfl trivial ?_
  refine L.storeW rfl rfl rfl rfl Tf.s37 (by first | rfl | (simp only [ints_length, *]; done) | (simp only [ints_length, *]; rfl) | (simp only [ints_length, *]; omega)) (by first | rfl | (simp only [ints_length, *]; done) | (simp only [ints_length, *]; rfl) | (simp only [ints_length, *]; omega)) (Has.head) (by first | exact ints_cell1 _ | simp [cell1]) trivial ?_
  refine L.nil ?_
  refine C.next ?_
  refine C.ret ?_
  exact leave (vs := [_]) rfl rfl rfl ⟨⟨_, _, _, rfl, (List.Mem.head _), Or.inr ⟨Tf.a37, (by first | exact Tf.s37 | (simp only [List.size_toArray, ints_length, *]; exact Tf.s37)), rfl⟩⟩, trivial⟩ (fun D hD => ⟨_, _, rfl, hS902.up RCh.up (hD _ (by simp)), hv9.up R2.up (hD _ (by simp))⟩)
theorem parts_ok (n : Int) (D : Data) : Fn Try.prog 70 #[.int .i64 n] D (fun D' v => Sl D' RP 3 v (partsD n)) := by
  refine enter 10 Try.func70 rfl rfl rfl rfl fun h0 => ?_
  refine C.seq ?_
  refine C.region [(false,0)] rfl ?_
  refine L.assign rfl rfl rfl trivial ?_
  refine L.nil ?_
  refine C.next ?_
  refine C.seq ?_
  refine C.region [(false,0),(false,1),(false,2),(false,3),(false,4),(false,5),(false,6),(false,7)] rfl ?_
  refine L.buildA (cs := [.int .i64 1, .int .i64 0, .int .i64 0]) rfl Try.underlying113 Tf.s3 Tf.z113 rfl rfl rfl trivial ?_
  refine L.buildA (cs := [.int .i64 0, .int .i64 1, .int .i64 1]) rfl Try.underlying113 Tf.s3 Tf.z113 rfl rfl rfl trivial ?_
  refine L.move rfl rfl rfl trivial ?_
  refine L.buildA (cs := [.int .i64 0, .int .i64 1, .int .i64 n]) rfl Try.underlying113 Tf.s3 Tf.z113 rfl rfl rfl trivial ?_
  refine L.buildA (cs := [.int .i64 1, .int .i64 1, .int .i64 1]) rfl Try.underlying113 Tf.s3 Tf.z113 rfl rfl rfl trivial ?_
  refine L.buildA (cs := [.int .i64 1, .int .i64 0, .int .i64 0]) rfl Try.underlying113 Tf.s3 Tf.z113 rfl rfl rfl trivial ?_
  refine L.buildSlice rfl Try.underlying39 Tf.s113 Tf.z113 rfl rfl rfl rfl (.cons rfl rfl (.cons rfl rfl (.cons rfl rfl (.cons rfl rfl (.cons rfl rfl .nil))))) rfl trivial (fun b901 D901 hD901 hA901 => ?_)
  have hS901 : Sl D901 RP 3 _ (partsD n) := Froz.pts (l := partsD n) (n := 5) (Or.inr ⟨_, 5, rfl, by omega, hA901⟩) rfl (by omega)
  refine L.assign rfl rfl rfl trivial ?_
  refine L.nil ?_
  refine C.next ?_
  refine C.ret ?_
  exact leave (vs := [_]) rfl rfl rfl ⟨rfl, trivial⟩ (fun D hD => hS901.up RP.up (hD _ (by simp)))
end Go.Fs
namespace Go.Fs
open Go.Proofs
open C7
theorem k2_61 : K2 Try.prog 61 := ⟨by kernel_rfl, by kernel_rfl, by kernel_rfl⟩
theorem awake_ok (D : Data) : Fn Try.prog 21 #[] D (fun _ v => v = .bool true) := by
  refine enter 126 Try.func21 rfl rfl rfl rfl fun h0 => ?_
  refine C.seq ?_
  refine C.region [(false,0)] rfl ?_
  refine L.assign rfl rfl rfl trivial ?_
  refine L.nil ?_
  refine C.next ?_
  refine C.seq ?_
  refine C.region [(false,0),(false,1),(false,2),(false,3),(false,4),(false,5),(false,6),(false,7)] rfl ?_
  refine L.call rfl rfl rfl (fun D1 hD1 => shed_ok 0 (by omega) _) rfl trivial (fun v1 D1 hD1 hp1 => ?_)
  have hY1 := hp1
  refine L.call rfl rfl rfl (fun D2 hD2 => parts_ok 1 _) rfl trivial (fun v2 D2 hD2 hp2 => ?_)
  have hT1 := hp2
  refine L.callV rfl rfl rfl (fun D3 hD3 => Play_ok _ _ (shedD 0) (partsD 1) _ (hY1.up (hD3 _ (by simp))) (hT1.up RP.up (hD3 _ (by simp)))) rfl trivial ?_
  refine L.move rfl rfl rfl trivial ?_
  refine L.extract rfl rfl rfl rfl trivial ?_
  refine L.extract rfl rfl rfl rfl trivial ?_
  refine L.assign rfl rfl rfl trivial ?_
  refine L.assign rfl rfl rfl trivial ?_
  refine L.nil ?_
  refine C.next ?_
  refine C.seq ?_
  refine C.region [(false,0),(false,1),(false,2),(false,3),(false,4),(false,5),(false,6),(false,7)] rfl ?_
  refine L.call rfl rfl rfl (fun D4 hD4 => shed_ok 0 (by omega) _) rfl trivial (fun v4 D4 hD4 hp4 => ?_)
  have hY2 := hp4
  refine L.call rfl rfl rfl (fun D5 hD5 => parts_ok 0 _) rfl trivial (fun v5 D5 hD5 hp5 => ?_)
  have hT2 := hp5
  refine L.call rfl rfl rfl (fun D6 hD6 => Pairs_ok _ _ (shedD 0) (partsD 0) _ (hY2.up (hD6 _ (by simp))) (hT2.up RP.up (hD6 _ (by simp)))) rfl trivial (fun v6 D6 hD6 hp6 => ?_)
  obtain ⟨lv2, rfl, hl2⟩ := hp6
  refine L.move rfl rfl rfl trivial ?_
  refine L.extract rfl rfl rfl rfl trivial ?_
  refine L.extract rfl rfl rfl rfl trivial ?_
  refine L.assign rfl rfl rfl trivial ?_
  refine L.assign rfl rfl rfl trivial ?_
  refine L.nil ?_
  refine C.next ?_
  refine C.seq ?_
  refine C.region [(false,0),(false,1),(false,2),(false,3),(false,4),(false,5),(false,6),(false,7),(false,8),(false,9)] rfl ?_
  refine L.call rfl rfl rfl (fun D7 hD7 => shed_ok 0 (by omega) _) rfl trivial (fun v7 D7 hD7 hp7 => ?_)
  have hY3 := hp7
  refine L.call rfl rfl rfl (fun D8 hD8 => parts_ok 0 _) rfl trivial (fun v8 D8 hD8 hp8 => ?_)
  have hT3 := hp8
  refine L.call rfl rfl rfl (fun D9 hD9 => Berge_ok _ _ (shedD 0) (partsD 0) _ (hY3.up (hD9 _ (by simp))) (hT3.up RP.up (hD9 _ (by simp)))) rfl trivial (fun v9 D9 hD9 hp9 => ?_)
  obtain ⟨lv3, rfl, hl3⟩ := hp9
  refine L.move rfl rfl rfl trivial ?_
  refine L.extract rfl rfl rfl rfl trivial ?_
  refine L.extract rfl rfl rfl rfl trivial ?_
  refine L.extract rfl rfl rfl rfl trivial ?_
  refine L.assign rfl rfl rfl trivial ?_
  refine L.assign rfl rfl rfl trivial ?_
  refine L.assign rfl rfl rfl trivial ?_
  refine L.nil ?_
  refine C.next ?_
  refine C.seq ?_
  refine C.region [(false,0),(false,1),(false,2),(false,3),(false,4),(false,5),(false,6),(false,7)] rfl ?_
  refine L.call rfl rfl rfl (fun D10 hD10 => shed_ok 0 (by omega) _) rfl trivial (fun v10 D10 hD10 hp10 => ?_)
  have hY4 := hp10
  refine L.callV rfl rfl rfl (fun D11 hD11 => Bounds_ok _ (shedD 0) _ (hY4.up (hD11 _ (by simp)))) rfl trivial ?_
  refine L.move rfl rfl rfl trivial ?_
  refine L.extract rfl rfl rfl rfl trivial ?_
  refine L.extract rfl rfl rfl rfl trivial ?_
  refine L.alloc rfl Tf.z61 rfl rfl trivial (fun q1 => ?_)
  refine L.storeW rfl rfl rfl rfl Tf.s61 (by first | rfl | (simp only [ints_length, *]; done) | (simp only [ints_length, *]; rfl) | (simp only [ints_length, *]; omega)) (by first | rfl | (simp only [ints_length, *]; done) | (simp only [ints_length, *]; rfl) | (simp only [ints_length, *]; omega)) (Has.head) (by first | exact ints_cell1 _ | simp [cell1]) trivial ?_
  refine L.assign rfl rfl rfl trivial ?_
  refine L.nil ?_
  refine C.next ?_
  refine C.seq ?_
  refine C.region [(false,0),(false,1),(false,2),(false,3),(false,4),(false,5),(false,6),(false,7),(false,8)] rfl ?_
  refine L.call rfl rfl rfl (fun D12 hD12 => shed_ok 0 (by omega) _) rfl trivial (fun v12 D12 hD12 hp12 => ?_)
  have hY5 := hp12
  refine L.call rfl rfl rfl (fun D13 hD13 => Sure_ok _ (shedD 0) _ (hY5.up (hD13 _ (by simp)))) rfl trivial (fun v13 D13 hD13 hp13 => ?_)
  obtain ⟨lv5, rfl, hl5⟩ := hp13
  refine L.move rfl rfl rfl trivial ?_
  refine L.extract rfl rfl rfl rfl trivial ?_
  refine L.extract rfl rfl rfl rfl trivial ?_
  refine L.extract rfl rfl rfl rfl trivial ?_
  refine L.assign rfl rfl rfl trivial ?_
  refine L.assign rfl rfl rfl trivial ?_
  refine L.assign rfl rfl rfl trivial ?_
  refine L.nil ?_
  refine C.next ?_
  refine C.seq ?_
  refine C.region [(false,0),(false,1),(false,2),(false,3),(false,4),(false,5),(false,6)] rfl ?_
  refine L.call rfl rfl rfl (fun D14 hD14 => shed_ok 2 (by omega) _) rfl trivial (fun v14 D14 hD14 hp14 => ?_)
  have hY6 := hp14
  refine L.callV rfl rfl rfl (fun D15 hD15 => First_ok _ (shedD 2) _ (hY6.up (hD15 _ (by simp)))) rfl trivial ?_
  refine L.move rfl rfl rfl trivial ?_
  refine L.extract rfl rfl rfl rfl trivial ?_
  refine L.extract rfl rfl rfl rfl trivial ?_
  refine L.assign rfl rfl rfl trivial ?_
  refine L.assign rfl rfl rfl trivial ?_
  refine L.nil ?_
  refine C.next ?_
  refine C.seq ?_
  refine C.region [(false,0),(false,1),(false,2),(false,3),(false,4),(false,5),(false,6)] rfl ?_
  refine L.call rfl rfl rfl (fun D16 hD16 => shed_ok 2 (by omega) _) rfl trivial (fun v16 D16 hD16 hp16 => ?_)
  have hY7 := hp16
  refine L.call rfl rfl rfl (fun D17 hD17 => Leave_ok _ (shedD 2) _ (hY7.up (hD17 _ (by simp)))) rfl trivial (fun v17 D17 hD17 hp17 => ?_)
  obtain ⟨lv7, rfl, hl7⟩ := hp17
  refine L.move rfl rfl rfl trivial ?_
  refine L.extract rfl rfl rfl rfl trivial ?_
  refine L.extract rfl rfl rfl rfl trivial ?_
  refine L.assign rfl rfl rfl trivial ?_
  refine L.assign rfl rfl rfl trivial ?_
  refine L.nil ?_
  refine C.next ?_
  refine C.seq ?_
  refine C.draw [] 21 [0,1,2,3,4,5,6,7,8,9,10,13,11,12,14,15,16,17,18,19,20,21,22,23,24,27,25,26,28,29,30,31,32,33,34,35,36,37,38,39,40,41,42,43,44,45,46,47,49,48,50,51,52,53,54,55,56,57,58,59,60,61,62,63,64,65,66,67,68,69] [false,false,false,false,false,false,false,false,false,false,false,false,true,true,false,false,false,false,false,false,false,false,false,false,false,false,true,true,false,false,false,false,false,false,false,false,true,false,false,false,false,false,false,false,false,false,false,false,false,true,false,false,false,false,false,false,false,false,false,false,false,false,false,false,false,false,true,false,false,false] [(false,0),(false,1),(false,2),(false,3),(false,4),(false,5),(false,6),(false,7),(false,8),(false,9),(false,10),(false,13),(true,11),(true,12),(false,14),(false,15),(false,16),(false,17),(false,18),(false,19),(false,20),(false,21),(false,22),(false,23),(false,24),(false,27),(true,25),(true,26),(false,28),(false,29),(false,30),(false,31),(false,32),(false,33),(false,34),(false,35),(true,36),(false,37),(false,38),(false,39),(false,40),(false,41),(false,42),(false,43),(false,44),(false,45),(false,46),(false,47),(false,49),(true,48),(false,50),(false,51),(false,52),(false,53),(false,54),(false,55),(false,56),(false,57),(false,58),(false,59),(false,60),(false,61),(false,62),(false,63),(false,64),(false,65),(true,66),(false,67),(false,68),(false,69)] Tf.follows (fun _ _ _ h => np_body (P := Try.prog) (fn := Try.f21) _ _ _ h) (by kernel_rfl) rfl ?_
  refine L.move rfl rfl rfl trivial ?_
  refine L.eql rfl rfl rfl rfl trivial ?_
  refine L.move rfl rfl rfl trivial ?_
  refine' L.and [(false,3),(false,4),(false,5)] [(false,6),(false,7),(false,8),(false,9),(false,10),(false,13),(true,11),(true,12),(false,14),(false,15),(false,16),(false,17),(false,18),(false,19),(false,20),(false,21),(false,22),(false,23),(false,24),(false,27),(true,25),(true,26),(false,28),(false,29),(false,30),(false,31),(false,32),(false,33),(false,34),(false,35),(true,36),(false,37),(false,38),(false,39),(false,40),(false,41),(false,42),(false,43),(false,44),(false,45),(false,46),(false,47),(false,49),(true,48),(false,50),(false,51),(false,52),(false,53),(false,54),(false,55),(false,56),(false,57),(false,58),(false,59),(false,60),(false,61),(false,62),(false,63),(false,64),(false,65),(true,66),(false,67),(false,68),(false,69)] (s := 59) (p := 62) rfl rfl (fun hg1 => ?_) (fun hg1 => ?_) ?_
  rotate_left
  · refine L.move rfl rfl rfl ⟨_, rfl, rfl⟩ ?_
    refine L.eql rfl rfl rfl rfl ⟨_, rfl, rfl⟩ ?_
    refine L.pickT rfl rfl rfl rfl trivial ?_
    exact L.nil fun a w hh => hh.cutK 2 rfl
  · refine L.pass rfl rfl rfl ⟨_, _, rfl, rfl, rfl⟩ ?_
    refine L.pass rfl rfl rfl ⟨_, _, rfl, rfl, rfl⟩ ?_
    refine L.pickF rfl rfl rfl rfl trivial ?_
    exact L.nil fun a w hh => hh.cutK 2 rfl
  refine L.move rfl rfl rfl trivial ?_
  refine' L.and [(false,7),(false,8),(false,9)] [(false,10),(false,13),(true,11),(true,12),(false,14),(false,15),(false,16),(false,17),(false,18),(false,19),(false,20),(false,21),(false,22),(false,23),(false,24),(false,27),(true,25),(true,26),(false,28),(false,29),(false,30),(false,31),(false,32),(false,33),(false,34),(false,35),(true,36),(false,37),(false,38),(false,39),(false,40),(false,41),(false,42),(false,43),(false,44),(false,45),(false,46),(false,47),(false,49),(true,48),(false,50),(false,51),(false,52),(false,53),(false,54),(false,55),(false,56),(false,57),(false,58),(false,59),(false,60),(false,61),(false,62),(false,63),(false,64),(false,65),(true,66),(false,67),(false,68),(false,69)] (s := 63) (p := 66) rfl rfl (fun hg2 => ?_) (fun hg2 => ?_) ?_
  rotate_left
  · refine L.move rfl rfl rfl ⟨_, rfl, rfl⟩ ?_
    refine L.eql rfl rfl rfl rfl ⟨_, rfl, rfl⟩ ?_
    refine L.pickT rfl rfl rfl rfl trivial ?_
    exact L.nil fun a w hh => hh.cutK 2 rfl
  · refine L.pass rfl rfl rfl ⟨_, _, rfl, rfl, rfl⟩ ?_
    refine L.pass rfl rfl rfl ⟨_, _, rfl, rfl, rfl⟩ ?_
    refine L.pickF rfl rfl rfl rfl trivial ?_
    exact L.nil fun a w hh => hh.cutK 2 rfl
  refine L.move rfl rfl rfl trivial ?_
  refine' L.and [(false,13),(true,11),(true,12),(false,14),(false,15)] [(false,16),(false,17),(false,18),(false,19),(false,20),(false,21),(false,22),(false,23),(false,24),(false,27),(true,25),(true,26),(false,28),(false,29),(false,30),(false,31),(false,32),(false,33),(false,34),(false,35),(true,36),(false,37),(false,38),(false,39),(false,40),(false,41),(false,42),(false,43),(false,44),(false,45),(false,46),(false,47),(false,49),(true,48),(false,50),(false,51),(false,52),(false,53),(false,54),(false,55),(false,56),(false,57),(false,58),(false,59),(false,60),(false,61),(false,62),(false,63),(false,64),(false,65),(true,66),(false,67),(false,68),(false,69)] (s := 67) (p := 72) rfl rfl (fun hg3 => ?_) (fun hg3 => ?_) ?_
  rotate_left
  · refine L.move rfl rfl rfl ⟨_, rfl, rfl⟩ ?_
    refine L.call rfl rfl rfl (fun D18 hD18 => shed_ok 0 (by omega) _) rfl ⟨_, rfl, rfl⟩ (fun v18 D18 hD18 hp18 => ?_)
    have hY8 := hp18
    refine L.call rfl rfl rfl (fun D19 hD19 => parts_ok 0 _) rfl ⟨_, rfl, rfl⟩ (fun v19 D19 hD19 hp19 => ?_)
    have hT8 := hp19
    refine L.callV rfl rfl rfl (fun D20 hD20 => ProvePairs_ok _ _ _ (shedD 0) (partsD 0) _ 2 _ (hY8.up (hD20 _ (by simp))) (hT8.up RP.up (hD20 _ (by simp))) (hl2.up R2.up (hD20 _ (by simp)))) rfl ⟨_, rfl, rfl⟩ ?_
    refine L.pickT rfl rfl rfl rfl trivial ?_
    exact L.nil fun a w hh => (hh.cutK 4 rfl).ds (fun _ h => List.Mem.tail _ (List.Mem.tail _ (h)))
  · refine L.pass rfl rfl rfl ⟨_, _, rfl, rfl, rfl⟩ ?_
    refine L.pass rfl rfl rfl ⟨_, _, rfl, rfl, rfl⟩ ?_
    refine L.pass rfl rfl rfl ⟨_, _, rfl, rfl, rfl⟩ ?_
    refine L.pass rfl rfl rfl ⟨_, _, rfl, rfl, rfl⟩ ?_
    refine L.pickF rfl rfl rfl rfl trivial ?_
    exact L.nil fun a w hh => hh.cutK 4 rfl
  refine L.move rfl rfl rfl trivial ?_
  refine' L.and [(false,17),(false,18),(false,19)] [(false,20),(false,21),(false,22),(false,23),(false,24),(false,27),(true,25),(true,26),(false,28),(false,29),(false,30),(false,31),(false,32),(false,33),(false,34),(false,35),(true,36),(false,37),(false,38),(false,39),(false,40),(false,41),(false,42),(false,43),(false,44),(false,45),(false,46),(false,47),(false,49),(true,48),(false,50),(false,51),(false,52),(false,53),(false,54),(false,55),(false,56),(false,57),(false,58),(false,59),(false,60),(false,61),(false,62),(false,63),(false,64),(false,65),(true,66),(false,67),(false,68),(false,69)] (s := 73) (p := 76) rfl rfl (fun hg4 => ?_) (fun hg4 => ?_) ?_
  rotate_left
  · refine L.move rfl rfl rfl ⟨_, rfl, rfl⟩ ?_
    refine L.eql rfl rfl rfl rfl ⟨_, rfl, rfl⟩ ?_
    refine L.pickT rfl rfl rfl rfl trivial ?_
    exact L.nil fun a w hh => hh.cutK 2 rfl
  · refine L.pass rfl rfl rfl ⟨_, _, rfl, rfl, rfl⟩ ?_
    refine L.pass rfl rfl rfl ⟨_, _, rfl, rfl, rfl⟩ ?_
    refine L.pickF rfl rfl rfl rfl trivial ?_
    exact L.nil fun a w hh => hh.cutK 2 rfl
  refine L.move rfl rfl rfl trivial ?_
  refine' L.and [(false,21),(false,22),(false,23)] [(false,24),(false,27),(true,25),(true,26),(false,28),(false,29),(false,30),(false,31),(false,32),(false,33),(false,34),(false,35),(true,36),(false,37),(false,38),(false,39),(false,40),(false,41),(false,42),(false,43),(false,44),(false,45),(false,46),(false,47),(false,49),(true,48),(false,50),(false,51),(false,52),(false,53),(false,54),(false,55),(false,56),(false,57),(false,58),(false,59),(false,60),(false,61),(false,62),(false,63),(false,64),(false,65),(true,66),(false,67),(false,68),(false,69)] (s := 77) (p := 80) rfl rfl (fun hg5 => ?_) (fun hg5 => ?_) ?_
  rotate_left
  · refine L.move rfl rfl rfl ⟨_, rfl, rfl⟩ ?_
    refine L.eql rfl rfl rfl rfl ⟨_, rfl, rfl⟩ ?_
    refine L.pickT rfl rfl rfl rfl trivial ?_
    exact L.nil fun a w hh => hh.cutK 2 rfl
  · refine L.pass rfl rfl rfl ⟨_, _, rfl, rfl, rfl⟩ ?_
    refine L.pass rfl rfl rfl ⟨_, _, rfl, rfl, rfl⟩ ?_
    refine L.pickF rfl rfl rfl rfl trivial ?_
    exact L.nil fun a w hh => hh.cutK 2 rfl
  refine L.move rfl rfl rfl trivial ?_
  refine' L.and [(false,27),(true,25),(true,26),(false,28),(false,29)] [(false,30),(false,31),(false,32),(false,33),(false,34),(false,35),(true,36),(false,37),(false,38),(false,39),(false,40),(false,41),(false,42),(false,43),(false,44),(false,45),(false,46),(false,47),(false,49),(true,48),(false,50),(false,51),(false,52),(false,53),(false,54),(false,55),(false,56),(false,57),(false,58),(false,59),(false,60),(false,61),(false,62),(false,63),(false,64),(false,65),(true,66),(false,67),(false,68),(false,69)] (s := 81) (p := 86) rfl rfl (fun hg6 => ?_) (fun hg6 => ?_) ?_
  rotate_left
  · refine L.move rfl rfl rfl ⟨_, rfl, rfl⟩ ?_
    refine L.call rfl rfl rfl (fun D21 hD21 => shed_ok 0 (by omega) _) rfl ⟨_, rfl, rfl⟩ (fun v21 D21 hD21 hp21 => ?_)
    have hY9 := hp21
    refine L.call rfl rfl rfl (fun D22 hD22 => parts_ok 0 _) rfl ⟨_, rfl, rfl⟩ (fun v22 D22 hD22 hp22 => ?_)
    have hT9 := hp22
    refine L.callV rfl rfl rfl (fun D23 hD23 => ProveBerge_ok _ _ _ (shedD 0) (partsD 0) _ 2 _ (hY9.up (hD23 _ (by simp))) (hT9.up RP.up (hD23 _ (by simp))) (hl3.up RI.up (hD23 _ (by simp)))) rfl ⟨_, rfl, rfl⟩ ?_
    refine L.pickT rfl rfl rfl rfl trivial ?_
    exact L.nil fun a w hh => (hh.cutK 4 rfl).ds (fun _ h => List.Mem.tail _ (List.Mem.tail _ (h)))
  · refine L.pass rfl rfl rfl ⟨_, _, rfl, rfl, rfl⟩ ?_
    refine L.pass rfl rfl rfl ⟨_, _, rfl, rfl, rfl⟩ ?_
    refine L.pass rfl rfl rfl ⟨_, _, rfl, rfl, rfl⟩ ?_
    refine L.pass rfl rfl rfl ⟨_, _, rfl, rfl, rfl⟩ ?_
    refine L.pickF rfl rfl rfl rfl trivial ?_
    exact L.nil fun a w hh => hh.cutK 4 rfl
  refine L.move rfl rfl rfl trivial ?_
  refine' L.and [(false,31),(false,32),(false,33)] [(false,34),(false,35),(true,36),(false,37),(false,38),(false,39),(false,40),(false,41),(false,42),(false,43),(false,44),(false,45),(false,46),(false,47),(false,49),(true,48),(false,50),(false,51),(false,52),(false,53),(false,54),(false,55),(false,56),(false,57),(false,58),(false,59),(false,60),(false,61),(false,62),(false,63),(false,64),(false,65),(true,66),(false,67),(false,68),(false,69)] (s := 87) (p := 90) rfl rfl (fun hg7 => ?_) (fun hg7 => ?_) ?_
  rotate_left
  · refine L.move rfl rfl rfl ⟨_, rfl, rfl⟩ ?_
    refine L.eql rfl rfl rfl rfl ⟨_, rfl, rfl⟩ ?_
    refine L.pickT rfl rfl rfl rfl trivial ?_
    exact L.nil fun a w hh => hh.cutK 2 rfl
  · refine L.pass rfl rfl rfl ⟨_, _, rfl, rfl, rfl⟩ ?_
    refine L.pass rfl rfl rfl ⟨_, _, rfl, rfl, rfl⟩ ?_
    refine L.pickF rfl rfl rfl rfl trivial ?_
    exact L.nil fun a w hh => hh.cutK 2 rfl
  refine L.move rfl rfl rfl trivial ?_
  refine' L.and [(false,35),(true,36),(false,37),(false,38)] [(false,39),(false,40),(false,41),(false,42),(false,43),(false,44),(false,45),(false,46),(false,47),(false,49),(true,48),(false,50),(false,51),(false,52),(false,53),(false,54),(false,55),(false,56),(false,57),(false,58),(false,59),(false,60),(false,61),(false,62),(false,63),(false,64),(false,65),(true,66),(false,67),(false,68),(false,69)] (s := 91) (p := 95) rfl rfl (fun hg8 => ?_) (fun hg8 => ?_) ?_
  rotate_left
  · refine L.loadBW rfl Tf.a61 rfl (List.Mem.head _) Tf.s61 List.not_mem_nil rfl ⟨_, rfl, rfl⟩ ?_
    refine L.callV rfl rfl rfl (fun D24 hD24 => between_ok _ _ _) rfl ⟨_, rfl, rfl⟩ ?_
    refine L.eqlK  rfl (by kernel_rfl) k2_61 rfl rfl rfl ⟨_, rfl, rfl⟩ ?_
    refine L.pickT rfl rfl rfl rfl trivial ?_
    exact L.nil fun a w hh => hh.cutK 3 rfl
  · refine L.pass rfl rfl rfl ⟨_, _, rfl, rfl, rfl⟩ ?_
    refine L.pass rfl rfl rfl ⟨_, _, rfl, rfl, rfl⟩ ?_
    refine L.pass rfl rfl rfl ⟨_, _, rfl, rfl, rfl⟩ ?_
    refine L.pickF rfl rfl rfl rfl trivial ?_
    exact L.nil fun a w hh => hh.cutK 3 rfl
  refine L.move rfl rfl rfl trivial ?_
  refine' L.and [(false,40),(false,41),(false,42)] [(false,43),(false,44),(false,45),(false,46),(false,47),(false,49),(true,48),(false,50),(false,51),(false,52),(false,53),(false,54),(false,55),(false,56),(false,57),(false,58),(false,59),(false,60),(false,61),(false,62),(false,63),(false,64),(false,65),(true,66),(false,67),(false,68),(false,69)] (s := 96) (p := 99) rfl rfl (fun hg9 => ?_) (fun hg9 => ?_) ?_
  rotate_left
  · refine L.move rfl rfl rfl ⟨_, rfl, rfl⟩ ?_
    refine L.eql rfl rfl rfl rfl ⟨_, rfl, rfl⟩ ?_
    refine L.pickT rfl rfl rfl rfl trivial ?_
    exact L.nil fun a w hh => hh.cutK 2 rfl
  · refine L.pass rfl rfl rfl ⟨_, _, rfl, rfl, rfl⟩ ?_
    refine L.pass rfl rfl rfl ⟨_, _, rfl, rfl, rfl⟩ ?_
    refine L.pickF rfl rfl rfl rfl trivial ?_
    exact L.nil fun a w hh => hh.cutK 2 rfl
  refine L.move rfl rfl rfl trivial ?_
  refine' L.and [(false,44),(false,45),(false,46)] [(false,47),(false,49),(true,48),(false,50),(false,51),(false,52),(false,53),(false,54),(false,55),(false,56),(false,57),(false,58),(false,59),(false,60),(false,61),(false,62),(false,63),(false,64),(false,65),(true,66),(false,67),(false,68),(false,69)] (s := 100) (p := 103) rfl rfl (fun hg10 => ?_) (fun hg10 => ?_) ?_
  rotate_left
  · refine L.move rfl rfl rfl ⟨_, rfl, rfl⟩ ?_
    refine L.eql rfl rfl rfl rfl ⟨_, rfl, rfl⟩ ?_
    refine L.pickT rfl rfl rfl rfl trivial ?_
    exact L.nil fun a w hh => hh.cutK 2 rfl
  · refine L.pass rfl rfl rfl ⟨_, _, rfl, rfl, rfl⟩ ?_
    refine L.pass rfl rfl rfl ⟨_, _, rfl, rfl, rfl⟩ ?_
    refine L.pickF rfl rfl rfl rfl trivial ?_
    exact L.nil fun a w hh => hh.cutK 2 rfl
  refine L.move rfl rfl rfl trivial ?_
  refine' L.and [(false,49),(true,48),(false,50),(false,51)] [(false,52),(false,53),(false,54),(false,55),(false,56),(false,57),(false,58),(false,59),(false,60),(false,61),(false,62),(false,63),(false,64),(false,65),(true,66),(false,67),(false,68),(false,69)] (s := 104) (p := 108) rfl rfl (fun hg11 => ?_) (fun hg11 => ?_) ?_
  rotate_left
  · refine L.move rfl rfl rfl ⟨_, rfl, rfl⟩ ?_
    refine L.call rfl rfl rfl (fun D25 hD25 => shed_ok 0 (by omega) _) rfl ⟨_, rfl, rfl⟩ (fun v25 D25 hD25 hp25 => ?_)
    have hY10 := hp25
    refine L.callV rfl rfl rfl (fun D26 hD26 => ProveSure_ok _ _ (shedD 0) _ 2 _ (hY10.up (hD26 _ (by simp))) (hl5.up R2.up (hD26 _ (by simp)))) rfl ⟨_, rfl, rfl⟩ ?_
    refine L.pickT rfl rfl rfl rfl trivial ?_
    exact L.nil fun a w hh => (hh.cutK 3 rfl).ds (fun _ h => List.Mem.tail _ (h))
  · refine L.pass rfl rfl rfl ⟨_, _, rfl, rfl, rfl⟩ ?_
    refine L.pass rfl rfl rfl ⟨_, _, rfl, rfl, rfl⟩ ?_
    refine L.pass rfl rfl rfl ⟨_, _, rfl, rfl, rfl⟩ ?_
    refine L.pickF rfl rfl rfl rfl trivial ?_
    exact L.nil fun a w hh => hh.cutK 3 rfl
  refine L.move rfl rfl rfl trivial ?_
  refine' L.and [(false,53),(false,54),(false,55)] [(false,56),(false,57),(false,58),(false,59),(false,60),(false,61),(false,62),(false,63),(false,64),(false,65),(true,66),(false,67),(false,68),(false,69)] (s := 109) (p := 112) rfl rfl (fun hg12 => ?_) (fun hg12 => ?_) ?_
  rotate_left
  · refine L.move rfl rfl rfl ⟨_, rfl, rfl⟩ ?_
    refine L.eql rfl rfl rfl rfl ⟨_, rfl, rfl⟩ ?_
    refine L.pickT rfl rfl rfl rfl trivial ?_
    exact L.nil fun a w hh => hh.cutK 2 rfl
  · refine L.pass rfl rfl rfl ⟨_, _, rfl, rfl, rfl⟩ ?_
    refine L.pass rfl rfl rfl ⟨_, _, rfl, rfl, rfl⟩ ?_
    refine L.pickF rfl rfl rfl rfl trivial ?_
    exact L.nil fun a w hh => hh.cutK 2 rfl
  refine L.move rfl rfl rfl trivial ?_
  refine' L.and [(false,57),(false,58),(false,59)] [(false,60),(false,61),(false,62),(false,63),(false,64),(false,65),(true,66),(false,67),(false,68),(false,69)] (s := 113) (p := 116) rfl rfl (fun hg13 => ?_) (fun hg13 => ?_) ?_
  rotate_left
  · refine L.move rfl rfl rfl ⟨_, rfl, rfl⟩ ?_
    refine L.eql rfl rfl rfl rfl ⟨_, rfl, rfl⟩ ?_
    refine L.pickT rfl rfl rfl rfl trivial ?_
    exact L.nil fun a w hh => hh.cutK 2 rfl
  · refine L.pass rfl rfl rfl ⟨_, _, rfl, rfl, rfl⟩ ?_
    refine L.pass rfl rfl rfl ⟨_, _, rfl, rfl, rfl⟩ ?_
    refine L.pickF rfl rfl rfl rfl trivial ?_
    exact L.nil fun a w hh => hh.cutK 2 rfl
  refine L.move rfl rfl rfl trivial ?_
  refine' L.and [(false,61),(false,62),(false,63)] [(false,64),(false,65),(true,66),(false,67),(false,68),(false,69)] (s := 117) (p := 120) rfl rfl (fun hg14 => ?_) (fun hg14 => ?_) ?_
  rotate_left
  · refine L.move rfl rfl rfl ⟨_, rfl, rfl⟩ ?_
    refine L.eql rfl rfl rfl rfl ⟨_, rfl, rfl⟩ ?_
    refine L.pickT rfl rfl rfl rfl trivial ?_
    exact L.nil fun a w hh => hh.cutK 2 rfl
  · refine L.pass rfl rfl rfl ⟨_, _, rfl, rfl, rfl⟩ ?_
    refine L.pass rfl rfl rfl ⟨_, _, rfl, rfl, rfl⟩ ?_
    refine L.pickF rfl rfl rfl rfl trivial ?_
    exact L.nil fun a w hh => hh.cutK 2 rfl
  refine L.move rfl rfl rfl trivial ?_
  refine' L.and [(false,65),(true,66),(false,67),(false,68)] [(false,69)] (s := 121) (p := 125) rfl rfl (fun hg15 => ?_) (fun hg15 => ?_) ?_
  rotate_left
  · refine L.move rfl rfl rfl ⟨_, rfl, rfl⟩ ?_
    refine L.buildSlice rfl Try.underlying52 Tf.s3 Tf.z3 rfl rfl rfl rfl (.cons rfl rfl .nil) rfl ⟨_, rfl, rfl⟩ (fun b901 D901 hD901 hA901 => ?_)
    have hS901 : Sl D901 RI 1 _ [0] := Froz.ints (l := [0]) (n := 1) (Or.inr ⟨_, 1, rfl, by omega, hA901⟩) rfl (by omega)
    refine L.callV rfl rfl rfl (fun D27 hD27 => ints_ok _ _ _ [0] _ (hl7.up RI.up (hD27 _ (by simp))) (hS901.up RI.up (hD27 _ (by simp)))) rfl ⟨_, rfl, rfl⟩ ?_
    refine L.pickT rfl rfl rfl rfl trivial ?_
    exact L.nil fun a w hh => (hh.cutK 3 rfl).ds (fun _ h => List.Mem.tail _ (h))
  · refine L.pass rfl rfl rfl ⟨_, _, rfl, rfl, rfl⟩ ?_
    refine L.pass rfl rfl rfl ⟨_, _, rfl, rfl, rfl⟩ ?_
    refine L.pass rfl rfl rfl ⟨_, _, rfl, rfl, rfl⟩ ?_
    refine L.pickF rfl rfl rfl rfl trivial ?_
    exact L.nil fun a w hh => hh.cutK 3 rfl
  refine L.assign rfl rfl rfl trivial ?_
  refine L.nil ?_
  refine C.next ?_
  refine C.ret ?_
  exact leave (vs := [_]) rfl rfl rfl ⟨rfl, trivial⟩ (fun D hD => congrArg Value.bool (by decide +kernel))
end Go.Fs
namespace Go.Fs
open Go.Proofs
open C7
theorem thin_len {y : YardD} (h : thin y = true) : y.chairs.length ≤ 9 ∧ y.claims.length ≤ 7 := by
  simp only [thin, Bool.and_eq_true, decide_eq_true_eq] at h; omega
theorem fitB_comm (y : YardD) (t : List Pt) (a b : Nat) : fitB y t a b = fitB y t b a := by
  unfold fitB
  cases t[a]? <;> cases t[b]? <;> cases y.chairs[a]? <;> cases y.chairs[b]? <;> try rfl
  rename_i p q x z
  simp only
  rw [near_comm, joins_comm, show decide ((b : Int) ≠ a) = decide ((a : Int) ≠ b) from decide_eq_decide.2 ⟨fun h e => h e.symm, fun h e => h e.symm⟩]
theorem fitB_in {y : YardD} {t : List Pt} {a b : Nat} (h : fitB y t a b = true) : a < t.length ∧ b < t.length ∧ brokB t a = true ∧ brokB t b = true := by
  unfold fitB at h
  split at h
  · rename_i p q x z hp hq _ _
    simp only [joins, Bool.and_eq_true] at h
    refine ⟨(List.getElem?_eq_some_iff.1 hp).1, (List.getElem?_eq_some_iff.1 hq).1, ?_, ?_⟩
    · unfold brokB; rw [hp]; exact h.2.1.1
    · unfold brokB; rw [hq]; exact h.2.1.2
  · simp at h
theorem fB_fits {y : YardD} {t : List Pt} (h7 : t.length ≤ 7) : fB (sceneD y t).fits = fitB y t := by
  funext a b
  unfold fB sceneD
  simp only [List.getD_eq_getElem?_getD, List.getElem?_map]
  by_cases ha : a < 7
  · rw [List.getElem?_range ha, Option.map_some, Option.getD_some, bset_bit]
    cases e : fitB y t a b with
    | false => simp
    | true => simp [(fitB_in e).2.1]
  · rw [List.getElem?_eq_none (by simp; omega)]
    cases e : fitB y t a b with
    | false => simp
    | true => have := (fitB_in e).1; omega
/-- The most pairs: program. -/
theorem nu_is {y : YardD} {t : List Pt} (hl : t.length = y.chairs.length) (h7 : t.length ≤ 7) : IsNu (fitB y t) (sceneD y t).broken.testBit (nuB (sceneD y t).fits y.chairs.length (sceneD y t).broken) := by
  have := nuB_is (F := (sceneD y t).fits) (n := y.chairs.length) (fun a b => by rw [fB_fits h7]; exact fitB_comm y t a b) _ (sceneD y t).broken (Nat.le_refl _) (scene_ok' hl h7).bits
  rwa [fB_fits h7] at this
end Go.Fs
namespace Go.Fs
open Go.Proofs
open C7
end Go.Fs
namespace Go.Fs
open Go.Proofs
open C7
end Go.Fs
namespace Go.Fs
open Go.Proofs
open C7
/-- A part of the truth with a number, and what is left of the number. -/
def p1 (x : Int) (m : Nat) : Int × Nat := if x = 2 then ((m : Int) % 2, m / 2) else (x, m)
def p3 (p : Pt) (m : Nat) : Pt × Nat := (⟨(p1 p.a m).1, (p1 p.b (p1 p.a m).2).1, (p1 p.c (p1 p.b (p1 p.a m).2).2).1⟩, (p1 p.c (p1 p.b (p1 p.a m).2).2).2)
def nthS (st : List Pt × Nat) (c : Ch) : List Pt × Nat := (st.1 ++ [(p3 c.parts st.2).1], (p3 c.parts st.2).2)
/-- The truth with a number. -/
def nthC (l : List Ch) (n : Nat) : List Pt × Nat := l.foldl nthS ([], n)
theorem nthS_len : ∀ (l : List Ch) (st : List Pt × Nat), (l.foldl nthS st).1.length = st.1.length + l.length
  | [], st => by simp
  | c :: l, st => by rw [List.foldl_cons, nthS_len l]; simp [nthS]; omega
theorem nthC_len (l : List Ch) (n : Nat) : (nthC l n).1.length = l.length := by unfold nthC; rw [nthS_len]; simp
end Go.Fs
namespace Go.Fs
open Go.Proofs
open C7
theorem part_p1 {x : Int} (h : 0 ≤ x ∧ x ≤ 2) (m : Nat) : partIs x (p1 x m).1 = true := by
  unfold p1 partIs
  rw [Bool.and_eq_true, inB_iff, Bool.or_eq_true, decide_eq_true_eq, decide_eq_true_eq]
  split
  · rename_i e; exact ⟨by simp only; omega, Or.inl e⟩
  · rename_i e; exact ⟨by simp only; omega, Or.inr rfl⟩
theorem pts_p3 {p : Pt} (h : ∀ n ∈ p.l, 0 ≤ n ∧ n ≤ 2) (m : Nat) : ptsIs p (p3 p m).1 = true := by
  have ha := h p.a (by simp [Pt.l])
  have hb := h p.b (by simp [Pt.l])
  have hc := h p.c (by simp [Pt.l])
  simp only [ptsIs, Pt.l, p3, List.zip_cons_cons, List.zip_nil_left, List.all_cons, List.all_nil, Bool.and_true, Bool.and_eq_true]
  exact ⟨part_p1 ha _, part_p1 hb _, part_p1 hc _⟩
def nthR : List Ch → Nat → List Pt
  | [], _ => []
  | c :: l, n => (p3 c.parts n).1 :: nthR l (p3 c.parts n).2
theorem nthS_R : ∀ (l : List Ch) (st : List Pt × Nat), (l.foldl nthS st).1 = st.1 ++ nthR l st.2
  | [], st => by simp [nthR]
  | c :: l, st => by rw [List.foldl_cons, nthS_R l]; simp [nthS, nthR]
theorem nthC_R (l : List Ch) (n : Nat) : (nthC l n).1 = nthR l n := by unfold nthC; rw [nthS_R]; rfl
theorem nthR_ok : ∀ (l : List Ch) (n : Nat), (∀ c ∈ l, ∀ n ∈ c.parts.l, 0 ≤ n ∧ n ≤ 2) → ((l.zip (nthR l n)).all fun x => ptsIs x.1.parts x.2) = true
  | [], n, _ => rfl
  | c :: l, n, h => by
    rw [nthR, List.zip_cons_cons, List.all_cons, Bool.and_eq_true]
    exact ⟨pts_p3 (h c List.mem_cons_self) n, nthR_ok l _ fun c hc => h c (List.mem_cons_of_mem _ hc)⟩
theorem nth_truth {y : YardD} (h : YOk y) (n : Nat) : isTruth y (nthC y.chairs n).1 = true := by
  unfold isTruth
  rw [Bool.and_eq_true, decide_eq_true_eq]
  exact ⟨nthC_len _ _, by rw [nthC_R]; exact nthR_ok _ _ h.part⟩
def mostN (y : YardD) (n : Nat) : Int := (mostT y (nthC y.chairs n).1 : Nat)
/-- The most chairs in all truths. -/
def allN (y : YardD) : List Int := (List.range (2 ^ unknown y.chairs)).map (mostN y)
/-- The numbers of the truths of a yard. -/
def numK (y : YardD) (ms : List Int) (k : Nat) : List Int := ((List.range k).filter fun n => rightO y.claims [] (ms.getD n 0)).map fun n : Nat => (n : Int)
def bndR (ms ns : List Int) : Int × Int := ns.foldl (fun r n => (min r.1 (ms.getD n.toNat 0), max r.2 (ms.getD n.toNat 0))) (99, -1)
end Go.Fs
namespace Go.Fs
open Go.Proofs
open C7
def nsD (y : YardD) : List Int := numK y (allN y) (allN y).length
/-- The error of a question on all truths. -/
def askS (y : YardD) : Int := if fault y ≠ 0 then fault y else if nsD y = [] then 11 else 0
theorem askS_zero {y : YardD} (h : askS y = 0) : fault y = 0 ∧ nsD y ≠ [] := by
  unfold askS at h
  split at h
  · omega
  · rename_i h1
    split at h
    · omega
    · rename_i h2; exact ⟨by omega, h2⟩
theorem allN_get {y : YardD} {n : Nat} (h : n < (allN y).length) : (allN y).getD n 0 = mostN y n := by
  unfold allN at h ⊢
  rw [List.length_map, List.length_range] at h
  rw [List.getD_eq_getElem?_getD, List.getElem?_map, List.getElem?_range h]; rfl
theorem mem_ns {y : YardD} {x : Int} : x ∈ nsD y ↔ ∃ n : Nat, n < 2 ^ unknown y.chairs ∧ rightO y.claims [] (mostN y n) = true ∧ x = (n : Int) := by
  have hl : (allN y).length = 2 ^ unknown y.chairs := by unfold allN; rw [List.length_map, List.length_range]
  unfold nsD numK
  rw [List.mem_map]
  constructor
  · rintro ⟨n, hn, rfl⟩
    rw [List.mem_filter, List.mem_range] at hn
    rw [allN_get hn.1] at hn
    exact ⟨n, by omega, hn.2, rfl⟩
  · rintro ⟨n, hn, hr, rfl⟩
    refine ⟨n, ?_, rfl⟩
    rw [List.mem_filter, List.mem_range, allN_get (by omega)]
    exact ⟨by omega, hr⟩
/-- Each truth has a number. -/
theorem p1_inv {x t : Int} (h : partIs x t = true) {m B : Nat} (hm : m < B) : ∃ n, p1 x n = (t, m) ∧ n < (if x = 2 then 2 else 1) * B := by
  unfold partIs at h
  rw [Bool.and_eq_true, inB_iff, Bool.or_eq_true, decide_eq_true_eq, decide_eq_true_eq] at h
  unfold p1
  by_cases hx : x = 2
  · obtain ⟨b, rfl⟩ := Int.eq_ofNat_of_zero_le h.1.1
    refine ⟨2 * m + b, ?_, by rw [if_pos hx]; omega⟩
    rw [if_pos hx, Prod.mk.injEq]
    exact ⟨by omega, by omega⟩
  · refine ⟨m, ?_, by rw [if_neg hx]; omega⟩
    rw [if_neg hx, Prod.mk.injEq]
    exact ⟨by rcases h.2 with h | h; exact absurd h hx; exact h.symm, rfl⟩
theorem unk_pow (p : Pt) : 2 ^ unkP p = (if p.a = 2 then 2 else 1) * ((if p.b = 2 then 2 else 1) * (if p.c = 2 then 2 else 1)) := by
  unfold unkP Pt.l
  by_cases ha : p.a = 2 <;> by_cases hb : p.b = 2 <;> by_cases hc : p.c = 2 <;> simp [ha, hb, hc]
theorem p3_inv {p t : Pt} (h : ptsIs p t = true) {m B : Nat} (hm : m < B) : ∃ n, p3 p n = (t, m) ∧ n < 2 ^ unkP p * B := by
  simp only [ptsIs, Pt.l, List.zip_cons_cons, List.zip_nil_left, List.all_cons, List.all_nil, Bool.and_true, Bool.and_eq_true] at h
  obtain ⟨c, e1, h1⟩ := p1_inv h.2.2 hm
  obtain ⟨b, e2, h2⟩ := p1_inv h.2.1 h1
  obtain ⟨a, e3, h3⟩ := p1_inv h.1 h2
  refine ⟨a, ?_, ?_⟩
  · unfold p3; rw [e3, e2, e1]
  · rw [unk_pow, Nat.mul_assoc, Nat.mul_assoc]; exact h3
theorem nthR_onto : ∀ (l : List Ch) (t : List Pt), t.length = l.length → ((l.zip t).all fun x => ptsIs x.1.parts x.2) = true → ∃ n, n < 2 ^ unknown l ∧ nthR l n = t
  | [], [], _, _ => ⟨0, by simp [unknown], rfl⟩
  | [], _ :: _, h, _ => by simp at h
  | _ :: _, [], h, _ => by simp at h
  | c :: l, p :: t, h, ha => by
    rw [List.zip_cons_cons, List.all_cons, Bool.and_eq_true] at ha
    obtain ⟨m, hm, e⟩ := nthR_onto l t (by simpa using h) ha.2
    obtain ⟨n, e2, hn⟩ := p3_inv ha.1 hm
    refine ⟨n, ?_, ?_⟩
    · have : unknown (c :: l) = unkP c.parts + unknown l := by simp [unknown]
      rw [this, Nat.pow_add]; exact hn
    · rw [nthR, e2, e]
theorem nth_onto {y : YardD} {t : List Pt} (h : isTruth y t = true) : ∃ n, n < 2 ^ unknown y.chairs ∧ (nthC y.chairs n).1 = t := by
  unfold isTruth at h
  rw [Bool.and_eq_true, decide_eq_true_eq] at h
  obtain ⟨n, hn, e⟩ := nthR_onto _ _ h.1 h.2
  exact ⟨n, hn, by rw [nthC_R]; exact e⟩
theorem fmin : ∀ (l : List Int) (a : Int), (l.foldl min a = a ∨ l.foldl min a ∈ l) ∧ l.foldl min a ≤ a ∧ ∀ x ∈ l, l.foldl min a ≤ x
  | [], a => ⟨Or.inl rfl, Int.le_refl _, by simp⟩
  | x :: l, a => by
    rw [List.foldl_cons]
    obtain ⟨h1, h2, h3⟩ := fmin l (min a x)
    refine ⟨?_, by omega, fun z hz => ?_⟩
    · rcases h1 with h1 | h1
      · rw [h1]; rcases Int.le_total a x with h | h
        · exact Or.inl (Int.min_eq_left h)
        · exact Or.inr (by rw [Int.min_eq_right h]; exact List.mem_cons_self)
      · exact Or.inr (List.mem_cons_of_mem _ h1)
    · rcases List.mem_cons.1 hz with rfl | hz
      · omega
      · exact h3 z hz
theorem fmax : ∀ (l : List Int) (a : Int), (l.foldl max a = a ∨ l.foldl max a ∈ l) ∧ a ≤ l.foldl max a ∧ ∀ x ∈ l, x ≤ l.foldl max a
  | [], a => ⟨Or.inl rfl, Int.le_refl _, by simp⟩
  | x :: l, a => by
    rw [List.foldl_cons]
    obtain ⟨h1, h2, h3⟩ := fmax l (max a x)
    refine ⟨?_, by omega, fun z hz => ?_⟩
    · rcases h1 with h1 | h1
      · rw [h1]; rcases Int.le_total a x with h | h
        · exact Or.inr (by rw [Int.max_eq_right h]; exact List.mem_cons_self)
        · exact Or.inl (Int.max_eq_left h)
      · exact Or.inr (List.mem_cons_of_mem _ h1)
    · rcases List.mem_cons.1 hz with rfl | hz
      · omega
      · exact h3 z hz
theorem fmin_eq {l l' : List Int} {a a' : Int} (hm : ∀ x, x ∈ l ↔ x ∈ l') (hne : l ≠ []) (ha : ∀ x ∈ l, x ≤ a) (ha' : ∀ x ∈ l', x ≤ a') : l.foldl min a = l'.foldl min a' := by
  obtain ⟨h1, h2, h3⟩ := fmin l a
  obtain ⟨g1, g2, g3⟩ := fmin l' a'
  obtain ⟨z, hz⟩ := List.exists_mem_of_ne_nil l hne
  have k1 : l.foldl min a ∈ l := by
    rcases h1 with h1 | h1
    · have := h3 z hz; have := ha z hz; rw [show l.foldl min a = z by omega]; exact hz
    · exact h1
  have k2 : l'.foldl min a' ∈ l' := by
    rcases g1 with g1 | g1
    · have := g3 z ((hm z).1 hz); have := ha' z ((hm z).1 hz); rw [show l'.foldl min a' = z by omega]; exact (hm z).1 hz
    · exact g1
  have := h3 _ ((hm _).2 k2)
  have := g3 _ ((hm _).1 k1)
  omega
theorem fmax_eq {l l' : List Int} {a a' : Int} (hm : ∀ x, x ∈ l ↔ x ∈ l') (hne : l ≠ []) (ha : ∀ x ∈ l, a ≤ x) (ha' : ∀ x ∈ l', a' ≤ x) : l.foldl max a = l'.foldl max a' := by
  obtain ⟨h1, h2, h3⟩ := fmax l a
  obtain ⟨g1, g2, g3⟩ := fmax l' a'
  obtain ⟨z, hz⟩ := List.exists_mem_of_ne_nil l hne
  have k1 : l.foldl max a ∈ l := by
    rcases h1 with h1 | h1
    · have := h3 z hz; have := ha z hz; rw [show l.foldl max a = z by omega]; exact hz
    · exact h1
  have k2 : l'.foldl max a' ∈ l' := by
    rcases g1 with g1 | g1
    · have := g3 z ((hm z).1 hz); have := ha' z ((hm z).1 hz); rw [show l'.foldl max a' = z by omega]; exact (hm z).1 hz
    · exact g1
  have := h3 _ ((hm _).2 k2)
  have := g3 _ ((hm _).1 k1)
  omega
theorem fold_mm : ∀ (l : List Int) (r : Int × Int), l.foldl (fun r n => (min r.1 n, max r.2 n)) r = (l.foldl min r.1, l.foldl max r.2)
  | [], _ => rfl
  | x :: l, r => by rw [List.foldl_cons, fold_mm l]; rfl
/-- The most chairs in the truths: the reference's numbers, and the program's. -/
def mostsL (y : YardD) : List Int := (nsD y).map fun n => (allN y).getD n.toNat 0
theorem mem_mosts {y : YardD} (h : YOk y) (x : Int) : x ∈ mostsL y ↔ x ∈ (scenesD y []).map fun p => (p.2 : Int) := by
  unfold mostsL
  rw [List.mem_map, List.mem_map]
  constructor
  · rintro ⟨n, hn, rfl⟩
    obtain ⟨k, hk, hr, rfl⟩ := mem_ns.1 hn
    refine ⟨_, mem_scenes.2 ⟨(nthC y.chairs k).1, nth_truth h k, hr, rfl⟩, ?_⟩
    rw [Int.toNat_natCast, allN_get (by unfold allN; rw [List.length_map, List.length_range]; exact hk)]; rfl
  · rintro ⟨p, hp, rfl⟩
    obtain ⟨t, ht, hr, rfl⟩ := mem_scenes.1 hp
    obtain ⟨n, hn, rfl⟩ := nth_onto ht
    refine ⟨(n : Int), mem_ns.2 ⟨n, hn, hr, rfl⟩, ?_⟩
    rw [Int.toNat_natCast, allN_get (by unfold allN; rw [List.length_map, List.length_range]; exact hn)]; rfl
theorem mostT_le {y : YardD} {t : List Pt} (h : YOk y) (ht : isTruth y t = true) : mostT y t ≤ 14 := by
  obtain ⟨hl, _⟩ := truthOk ht
  have hn := h.len
  obtain ⟨M, hM, e⟩ := (nu_is hl (by omega)).ex
  have h2 := length_le_of_sub (l := M.map fun p => p.1) (m := List.range y.chairs.length) (firsts_nodup hM.nd) fun x hx => by
    obtain ⟨p, hp, rfl⟩ := List.mem_map.1 hx
    exact List.mem_range.2 ((scene_ok' hl (by omega)).bits _ (hM.fit p hp).1)
  rw [List.length_map, List.length_range] at h2
  have h3 := (scene_ok' hl (by omega)).whole
  unfold mostT mostS; omega
theorem mosts_in {y : YardD} (h : YOk y) : ∀ x ∈ mostsL y, 0 ≤ x ∧ x ≤ 14 := fun x hx => by
  obtain ⟨p, hp, rfl⟩ := List.mem_map.1 ((mem_mosts h x).1 hx)
  obtain ⟨t, ht, _, rfl⟩ := mem_scenes.1 hp
  have := mostT_le h ht
  simp only; omega
theorem ns_nil {y : YardD} (h : YOk y) : nsD y = [] ↔ scenesD y [] = [] := by
  have key := mem_mosts h
  constructor
  · intro e
    rw [List.eq_nil_iff_forall_not_mem]
    intro p hp
    have := (key p.2).2 (List.mem_map.2 ⟨p, hp, rfl⟩)
    unfold mostsL at this; rw [e] at this; simp at this
  · intro e
    rw [List.eq_nil_iff_forall_not_mem]
    intro n hn
    have := (key _).1 (List.mem_map.2 ⟨n, hn, rfl⟩)
    rw [e] at this; simp at this
theorem bounds_is {y : YardD} (h : askS y = 0) : boundsV y = (bndR (allN y) (nsD y), 0) := by
  obtain ⟨hf, hne⟩ := askS_zero h
  have hyo := yOk hf
  have hm := mem_mosts hyo
  have hin := mosts_in hyo
  have e1 : bndR (allN y) (nsD y) = ((mostsL y).foldl min 99, (mostsL y).foldl max (-1)) := by
    unfold bndR mostsL
    rw [← fold_mm _ (99, -1), List.foldl_map]
  unfold boundsV
  rw [if_neg (by omega), e1]
  cases e : (scenesD y []).map fun p => (p.2 : Int) with
  | nil => exact absurd ((ns_nil hyo).2 (List.map_eq_nil_iff.1 e)) hne
  | cons m l =>
    rw [e] at hm
    have hne2 : mostsL y ≠ [] := fun e2 => by
      have := (hm m).2 List.mem_cons_self
      rw [e2] at this; simp at this
    have hin2 : ∀ x ∈ m :: l, 0 ≤ x ∧ x ≤ 14 := fun x hx => hin x ((hm x).2 hx)
    have a1 : (mostsL y).foldl min 99 = (m :: l).foldl min 99 := fmin_eq hm hne2 (fun x hx => by have := hin x hx; omega) (fun x hx => by have := hin2 x hx; omega)
    have a2 : (mostsL y).foldl max (-1) = (m :: l).foldl max (-1) := fmax_eq hm hne2 (fun x hx => by have := hin x hx; omega) (fun x hx => by have := hin2 x hx; omega)
    have hm0 := hin2 m List.mem_cons_self
    simp only
    rw [a1, a2, fold_mm, List.foldl_cons, List.foldl_cons, List.foldl_cons, List.foldl_cons, show min (99 : Int) m = min m m by omega, show max (-1 : Int) m = max m m by omega]
end Go.Fs
