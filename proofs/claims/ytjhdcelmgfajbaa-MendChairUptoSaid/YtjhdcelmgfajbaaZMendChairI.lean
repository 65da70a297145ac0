/- Of the proof of MendChair: W12, W13. -/
import Derived.Test.YtjhdcelmgfajbaaZMendChairH
namespace Go.Fs
open Go.Proofs
open C7
theorem ones_all : ((List.range 128).all fun s => (List.range 7).all fun x => (List.range 7).all fun z => (x == z) || s.testBit x || s.testBit z || (onesB (s ||| (2 ^ x ||| 2 ^ z)) == onesB s + 2)) = true := by decide +kernel
theorem ones_add (s : Nat) (hs : s < 128) (x : Nat) (hx : x < 7) (z : Nat) (hz : z < 7) (hne : x ≠ z) (h1 : s.testBit x = false) (h2 : s.testBit z = false) : onesB (s ||| (2 ^ x ||| 2 ^ z)) = onesB s + 2 := by
  have := List.all_eq_true.1 (List.all_eq_true.1 (List.all_eq_true.1 ones_all s (List.mem_range.2 hs)) x (List.mem_range.2 hx)) z (List.mem_range.2 hz)
  simpa [hne, h1, h2] using this
theorem prS_bits {s x z : Nat} (h : decide ((((s >>> x) ||| (s >>> z) : Nat) : Int) % 2 = 1) = false) : s.testBit x = false ∧ s.testBit z = false := by
  rw [decide_eq_false_iff_not] at h
  have key : ((s >>> x) ||| (s >>> z)).testBit 0 = false := by
    rw [Nat.testBit_zero, decide_eq_false_iff_not]; omega
  rw [Nat.testBit_or, Nat.testBit_shiftRight, Nat.testBit_shiftRight, Bool.or_eq_false_iff] at key
  simpa using key
theorem prB_ok {n : Nat} {l : List (Int × Int)} (hn : n ≤ 7) (h : (prB n l).isSome = true) : PrOk l ∧ l.length ≤ 3 := by
  have key : ∀ k, k ≤ l.length → ∃ s, prB n (l.take k) = some s ∧ s < 128 ∧ onesB s = 2 * k ∧ PrOk (l.take k) := by
    intro k
    induction k with
    | zero => intro _; exact ⟨0, rfl, by omega, by decide, by simp [PrOk]⟩
    | succ k ih =>
      intro hk
      obtain ⟨s, h1, h2, h3, h4⟩ := ih (by omega)
      obtain ⟨⟨a, b⟩, hp⟩ : ∃ p, l[k]? = some p := ⟨_, List.getElem?_eq_getElem hk⟩
      cases hc : ((!inB a 0 ((n : Int) - 1) || !inB b (a + 1) ((n : Int) - 1)) || decide ((((s >>> a.toNat) ||| (s >>> b.toNat) : Nat) : Int) % 2 = 1)) with
      | true => rw [prB_no hp h1 hn h2 hc] at h; cases h
      | false =>
        have hc' := Bool.or_eq_false_iff.1 hc
        obtain ⟨i1, i2, i3, i4⟩ := prB_in hc'.1
        obtain ⟨x, z, rfl, rfl, hx, hz, hst, hlt⟩ := prS_yes hn h2 hc
        simp only [Int.toNat_natCast] at hc'
        obtain ⟨b1, b2⟩ := prS_bits hc'.2
        refine ⟨_, by rw [prB_snoc hp, h1]; exact hst, hlt, by rw [ones_add s h2 x hx z hz (by omega) b1 b2]; omega, fun p hpm => ?_⟩
        rw [List.take_add_one, hp, Option.toList_some] at hpm
        rcases List.mem_append.1 hpm with hpm | hpm
        · exact h4 p hpm
        · simp only [List.mem_singleton] at hpm; exact ⟨x, z, hpm, hx, hz⟩
  obtain ⟨s, _, _, h3, h4⟩ := key l.length (Nat.le_refl _)
  rw [List.take_length] at h4
  exact ⟨h4, by have := onesB_le s; omega⟩
def provePairsV (y : YardD) (t : List Pt) (l : List (Int × Int)) (many : Int) : Bool := if (playV y t).2 = 0 then (prB y.chairs.length l).isSome && decide ((makesN (sceneD y t) l : Int) ≥ many) else false
def bergeP (s : Sc) (most : Int) (b : Nat) : Bool := decide (((dif b s.broken : Nat) : Int) = 0) && decide ((boundB s b : Int) = most)
def bergeB (y : YardD) (t : List Pt) : Nat := ((List.range (2 ^ y.chairs.length)).find? (bergeP (sceneD y t) (playV y t).1)).getD 0
/-- What Berge returns. -/
def bergeV (y : YardD) (t : List Pt) : List Int × Int × Int := if (playV y t).2 = 0 then (bitsL (bergeB y t), (playV y t).1, 0) else ([], 0, (playV y t).2)
theorem find_none {p : Nat → Bool} {n : Nat} (h : ∀ j, j < n → p j = false) : (List.range n).find? p = none := by
  rw [List.find?_eq_none]
  intro x hx e
  rw [h x (List.mem_range.1 hx)] at e; cases e
theorem berge_no {y : YardD} {t : List Pt} {D : Data} (h : (playV y t).2 ≠ 0) : ∃ lv, Value.tuple #[.slice none 0 0, .int .i64 0, .int .i64 (playV y t).2] = .tuple #[lv, .int .i64 (bergeV y t).2.1, .int .i64 (bergeV y t).2.2] ∧ Sl D RI 1 lv (bergeV y t).1 := by
  rw [bergeV, if_neg h]; exact ⟨_, rfl, Sl.nil⟩
theorem berge_ret {y : YardD} {t : List Pt} {D : Data} {lv : Value} (h : (playV y t).2 = 0) (hS : Sl D RI 1 lv (bitsL (bergeB y t))) : ∃ lv', Value.tuple #[lv, .int .i64 (playV y t).1, .int .i64 0] = .tuple #[lv', .int .i64 (bergeV y t).2.1, .int .i64 (bergeV y t).2.2] ∧ Sl D RI 1 lv' (bergeV y t).1 := by
  rw [bergeV, if_pos h]; exact ⟨_, rfl, hS⟩
def prfS (n broken : Nat) : Option (Nat × Int) → Int → Option (Nat × Int)
  | some (b, la), i => if (!inB i (la + 1) ((n : Int) - 1) || decide (((broken >>> i.toNat : Nat) : Int) % 2 = 0)) = true then none else some (b ||| 2 ^ i.toNat, i)
  | none, _ => none
def prf (n broken : Nat) (l : List Int) : Option (Nat × Int) := l.foldl (prfS n broken) (some (0, -1))
def proveBergeV (y : YardD) (t : List Pt) (l : List Int) (many : Int) : Bool := if (playV y t).2 = 0 then (match prf y.chairs.length (sceneD y t).broken l with | some (b, _) => decide ((boundB (sceneD y t) b : Int) ≤ many) | none => false) else false
theorem prf_snoc {n br k : Nat} {l : List Int} {i : Int} (h : l[k]? = some i) : prf n br (l.take (k + 1)) = prfS n br (prf n br (l.take k)) i := by
  unfold prf; rw [List.take_add_one, h, Option.toList_some, List.foldl_append]; rfl
theorem prf_none {n br : Nat} : ∀ l : List Int, l.foldl (prfS n br) none = none
  | [] => rfl
  | _ :: l => prf_none l
theorem prB_in2 {n i la : Int} (h : (!inB i la n) = false) : la ≤ i ∧ i ≤ n := by
  simp only [Bool.not_eq_false'] at h; exact inB_iff.1 h
theorem prf_yes {n br b : Nat} {la i : Int} (hn : n ≤ 7) (hb : b < 128) (hl : -1 ≤ la) (h : (!inB i (la + 1) ((n : Int) - 1) || decide (((br >>> i.toNat : Nat) : Int) % 2 = 0)) = false) : ∃ x : Nat, i = x ∧ x < 7 ∧ prfS n br (some (b, la)) (x : Int) = some (b ||| 2 ^ x, (x : Int)) ∧ b ||| 2 ^ x < 128 := by
  have h' := Bool.or_eq_false_iff.1 h
  obtain ⟨h1, h2⟩ := prB_in2 h'.1
  obtain ⟨x, rfl⟩ := Int.eq_ofNat_of_zero_le (show 0 ≤ i by omega)
  refine ⟨x, rfl, by omega, ?_, or_lt7 hb (pow_lt7 (by omega))⟩
  show (if _ then none else _) = _
  rw [if_neg (by rw [h]; simp)]; rfl
theorem prf_no {n br b k : Nat} {l : List Int} {la i : Int} (hp : l[k]? = some i) (h5 : prf n br (l.take k) = some (b, la)) (h : (!inB i (la + 1) ((n : Int) - 1) || decide (((br >>> i.toNat : Nat) : Int) % 2 = 0)) = true) : prf n br l = none := by
  have e : prf n br (l.take (k + 1)) = none := by
    rw [prf_snoc hp, h5]; show (if _ then none else _) = _; rw [if_pos h]
  rw [← List.take_append_drop (k + 1) l]
  unfold prf at e ⊢
  rw [List.foldl_append, e]; exact prf_none _
/-- What Bounds returns. -/
def boundsV (y : YardD) : (Int × Int) × Int := if fault y ≠ 0 then ((0, 0), fault y) else match (scenesD y []).map fun p => (p.2 : Int) with
  | [] => ((0, 0), 11)
  | m :: l => ((m :: l).foldl (fun r n => (min r.1 n, max r.2 n)) (m, m), 0)
theorem bounds_nil {y : YardD} (h : fault y = 0) (hn : scenesD y [] = []) : Value.tuple #[.agg #[.int .i64 0, .int .i64 0], .int .i64 11] = .tuple #[k2V (boundsV y).1, .int .i64 (boundsV y).2] := by
  rw [boundsV, if_neg (by omega), hn]; rfl
theorem bounds_some {y : YardD} {L : List Int} {m0 : Int} (h : fault y = 0) (hL : ((scenesD y []).map fun p => (p.2 : Int)) = L) (hm : L[0]? = some m0) : Value.tuple #[.agg #[.int .i64 (L.foldl (fun r n => (min r.1 n, max r.2 n)) (m0, m0)).1, .int .i64 (L.foldl (fun r n => (min r.1 n, max r.2 n)) (m0, m0)).2], .int .i64 0] = .tuple #[k2V (boundsV y).1, .int .i64 (boundsV y).2] := by
  rw [boundsV, if_neg (by omega), hL]
  cases L with
  | nil => simp at hm
  | cons m l => obtain rfl : m = m0 := by simpa using hm
                rfl
theorem bnd_step {L : List Int} {k : Nat} {n m0 : Int} (h : L[k]? = some n) : (L.take (k + 1)).foldl (fun r n => (min r.1 n, max r.2 n)) (m0, m0) = (min ((L.take k).foldl (fun r n => (min r.1 n, max r.2 n)) (m0, m0)).1 n, max ((L.take k).foldl (fun r n => (min r.1 n, max r.2 n)) (m0, m0)).2 n) := by
  rw [List.take_add_one, h, Option.toList_some, List.foldl_append]; rfl
theorem ProvePairs_ok (yv tv lv : Value) (y : YardD) (t : List Pt) (l : List (Int × Int)) (many : Int) (D : Data) (hy : YardIs D yv y) (ht : Sl D RP 3 tv t) (hl : Sl D R2 2 lv l) : Fn Try.prog 25 #[yv, tv, lv, .int .i64 many] D (fun _ v => v = .bool (provePairsV y t l many)) := by
  have hy0 := hy
  obtain ⟨cv, qv, rfl, hc, hq⟩ := hy
  refine enter 31 Try.func25 rfl rfl rfl rfl fun h0 => ?_
  refine C.seq ?_
  refine C.region [(false,0),(false,1)] rfl ?_
  refine L.boxD rfl rfl rfl rfl trivial (fun q1 E1 hE1 hB1 => ?_)
  refine L.assign rfl rfl rfl trivial ?_
  refine L.nil ?_
  refine C.next ?_
  refine C.seq ?_
  refine C.seq ?_
  refine C.region [(false,0),(false,1),(false,2),(false,3),(false,4),(false,5),(false,6),(false,7)] rfl ?_
  refine L.loadDW rfl Tf.a37 rfl hB1 (by first | simp | assumption) Tf.s37 List.not_mem_nil rfl trivial ?_
  refine L.move rfl rfl rfl trivial ?_
  refine L.callV rfl rfl rfl (fun D1 hD1 => Play_ok _ _ y t _ (hy0.up (hD1 _ (by simp))) (ht.up RP.up (hD1 _ (by simp)))) rfl trivial ?_
  refine L.move rfl rfl rfl trivial ?_
  refine L.extract rfl rfl rfl rfl trivial ?_
  refine L.extract rfl rfl rfl rfl trivial ?_
  refine L.assign rfl rfl rfl trivial ?_
  refine L.assign rfl rfl rfl trivial ?_
  refine L.nil ?_
  refine C.next ?_
  refine C.seq ?_
  refine C.region [(false,0),(false,1)] rfl ?_
  refine L.move rfl rfl rfl trivial ?_
  refine L.neq rfl rfl rfl rfl trivial ?_
  refine L.nil ?_
  refine C.next ?_
  refine C.condD rfl (fun hc1 => ?_) (fun hc1 => ?_)
  · refine C.seq ?_
    refine C.region [(false,0)] rfl ?_
    refine L.assign rfl rfl rfl trivial ?_
    refine L.nil ?_
    refine C.next ?_
    refine C.ret ?_
    refine C.thenRet ?_
    exact leave (vs := [_]) rfl rfl rfl ⟨rfl, trivial⟩ (fun D hD => by show Value.bool _ = _; rw [provePairsV, if_neg hc1])
  · obtain ⟨hf0, hit⟩ := play_ok (show (playV y t).2 = 0 by omega)
    have hyo := yOk hf0
    have hn7 := hyo.len
    obtain ⟨htl, htb⟩ := truthOk hit
    have hsc := scene_ok' htl (by omega)
    have hs9 := scI_len (sceneD y t) hsc.len
    have hbl := bits_lt hsc.bits hn7
    refine C.skip ?_
    refine C.next ?_
    refine C.seq ?_
    refine C.region [(false,0),(false,1),(false,2),(false,3),(false,4),(false,5),(false,6),(false,7),(false,8),(false,9),(false,10),(false,11),(false,12)] rfl ?_
    refine L.loadDW rfl Tf.a37 rfl hB1 (by first | simp | assumption) Tf.s37 List.not_mem_nil rfl trivial ?_
    refine L.move rfl rfl rfl trivial ?_
    refine L.callV rfl rfl rfl (fun D2 hD2 => paired_ok _ _ y l _ (hy0.up (hD2 _ (by simp))) (hl.up R2.up (hD2 _ (by simp))) hn7) rfl trivial ?_
    refine L.move rfl rfl rfl trivial ?_
    refine' L.and [(false,4),(false,5),(false,6),(false,7),(false,8),(false,9),(false,10),(false,11)] [(false,12)] (s := 22) (p := 30) rfl rfl (fun hg1 => ?_) (fun hg1 => ?_) ?_
    rotate_left
    · obtain ⟨hpo, hpl⟩ := prB_ok hn7 hg1
      refine L.loadDW rfl Tf.a37 rfl hB1 (by first | simp | assumption) Tf.s37 List.not_mem_nil rfl ⟨_, rfl, rfl⟩ ?_
      refine L.move rfl rfl rfl ⟨_, rfl, rfl⟩ ?_
      refine L.callV rfl rfl rfl (fun D3 hD3 => scene2_ok _ _ y t _ (hy0.up (hD3 _ (by simp))) (ht.up RP.up (hD3 _ (by simp))) htl (by omega) htb hyo.fit hyo.size) rfl ⟨_, rfl, rfl⟩ ?_
      refine L.move rfl rfl rfl ⟨_, rfl, rfl⟩ ?_
      refine L.callV rfl rfl rfl (fun D4 hD4 => makes_ok (sceneD y t) _ l hsc.row hsc.whole hpo (by omega) _ (hl.up R2.up (hD4 _ (by simp))) hsc.len) rfl ⟨_, rfl, rfl⟩ ?_
      refine L.move rfl rfl rfl ⟨_, rfl, rfl⟩ ?_
      refine L.geq rfl rfl rfl rfl ⟨_, rfl, rfl⟩ ?_
      refine L.pickT rfl rfl rfl rfl trivial ?_
      exact L.nil fun a w hh => hh.cutK 7 rfl
    · refine L.pass rfl rfl rfl ⟨_, _, rfl, rfl, rfl⟩ ?_
      refine L.pass rfl rfl rfl ⟨_, _, rfl, rfl, rfl⟩ ?_
      refine L.pass rfl rfl rfl ⟨_, _, rfl, rfl, rfl⟩ ?_
      refine L.pass rfl rfl rfl ⟨_, _, rfl, rfl, rfl⟩ ?_
      refine L.pass rfl rfl rfl ⟨_, _, rfl, rfl, rfl⟩ ?_
      refine L.pass rfl rfl rfl ⟨_, _, rfl, rfl, rfl⟩ ?_
      refine L.pass rfl rfl rfl ⟨_, _, rfl, rfl, rfl⟩ ?_
      refine L.pickF rfl rfl rfl rfl trivial ?_
      exact L.nil fun a w hh => hh.cutK 7 rfl
    refine L.assign rfl rfl rfl trivial ?_
    refine L.nil ?_
    refine C.next ?_
    refine C.ret ?_
    exact leave (vs := [_]) rfl rfl rfl ⟨rfl, trivial⟩ (fun D hD => by show Value.bool _ = _; rw [provePairsV, if_pos (by omega)])
theorem Berge_ok (yv tv : Value) (y : YardD) (t : List Pt) (D : Data) (hy : YardIs D yv y) (ht : Sl D RP 3 tv t) : Fn Try.prog 34 #[yv, tv] D (fun D' v => ∃ lv, v = .tuple #[lv, .int .i64 (bergeV y t).2.1, .int .i64 (bergeV y t).2.2] ∧ Sl D' RI 1 lv (bergeV y t).1) := by
  have hy0 := hy
  obtain ⟨cv, qv, rfl, hc, hq⟩ := hy
  have hcl := hc.len
  refine enter 47 Try.func34 rfl rfl rfl rfl fun h0 => ?_
  refine C.seq ?_
  refine C.region [(false,0),(false,1),(false,2),(false,3)] rfl ?_
  refine L.boxD rfl rfl rfl rfl trivial (fun q1 E1 hE1 hB1 => ?_)
  refine L.assign rfl rfl rfl trivial ?_
  refine L.assign rfl rfl rfl trivial ?_
  refine L.assign rfl rfl rfl trivial ?_
  refine L.nil ?_
  refine C.next ?_
  refine C.scope ?_
  refine C.seq ?_
  refine C.region [(false,0),(false,1),(false,2),(false,3),(false,4),(false,5),(false,6),(false,7)] rfl ?_
  refine L.loadDW rfl Tf.a37 rfl hB1 (by first | simp | assumption) Tf.s37 List.not_mem_nil rfl trivial ?_
  refine L.move rfl rfl rfl trivial ?_
  refine L.callV rfl rfl rfl (fun D1 hD1 => Play_ok _ _ y t _ (hy0.up (hD1 _ (by simp))) (ht.up RP.up (hD1 _ (by simp)))) rfl trivial ?_
  refine L.move rfl rfl rfl trivial ?_
  refine L.extract rfl rfl rfl rfl trivial ?_
  refine L.extract rfl rfl rfl rfl trivial ?_
  refine L.assign rfl rfl rfl trivial ?_
  refine L.assign rfl rfl rfl trivial ?_
  refine L.nil ?_
  refine C.next ?_
  refine C.seq ?_
  refine C.seq ?_
  refine C.region [(false,0),(false,1)] rfl ?_
  refine L.move rfl rfl rfl trivial ?_
  refine L.neq rfl rfl rfl rfl trivial ?_
  refine L.nil ?_
  refine C.next ?_
  refine C.condD rfl (fun hc1 => ?_) (fun hc1 => ?_)
  · refine C.seq ?_
    refine C.region [(false,0),(false,1),(false,2),(false,3)] rfl ?_
    refine L.move rfl rfl rfl trivial ?_
    refine L.assign rfl rfl rfl trivial ?_
    refine L.assign rfl rfl rfl trivial ?_
    refine L.assign rfl rfl rfl trivial ?_
    refine L.nil ?_
    refine C.next ?_
    refine C.ret ?_
    refine C.thenRet ?_
    refine C.scopeRet ?_
    exact leave (vs := [_, _, _]) rfl rfl rfl ⟨rfl, rfl, rfl, trivial⟩ (fun D hD => berge_no hc1)
  · obtain ⟨hf0, hit⟩ := play_ok (show (playV y t).2 = 0 by omega)
    have hyo := yOk hf0
    have hn7 := hyo.len
    obtain ⟨htl, htb⟩ := truthOk hit
    have hsc := scene_ok' htl (by omega)
    have hs9 := scI_len (sceneD y t) hsc.len
    have hbl := bits_lt hsc.bits hn7
    have hpn : 2 ^ y.chairs.length ≤ 2 ^ 7 := Nat.pow_le_pow_right (by omega) hn7
    refine C.skip ?_
    refine C.next ?_
    refine C.seq ?_
    refine C.region [(false,0),(false,1),(false,2),(false,3),(false,4)] rfl ?_
    refine L.loadDW rfl Tf.a37 rfl hB1 (by first | simp | assumption) Tf.s37 List.not_mem_nil rfl trivial ?_
    refine L.move rfl rfl rfl trivial ?_
    refine L.callV rfl rfl rfl (fun D2 hD2 => scene2_ok _ _ y t _ (hy0.up (hD2 _ (by simp))) (ht.up RP.up (hD2 _ (by simp))) htl (by omega) htb hyo.fit hyo.size) rfl trivial ?_
    refine L.alloc rfl Tf.z126 rfl rfl trivial (fun q2 => ?_)
    refine L.storeW rfl rfl rfl rfl Tf.s126 (by simpa using hs9) (by rfl) .head (ints_cell1 _) trivial ?_
    refine L.nil ?_
    refine C.next ?_
    refine C.seq ?_
    refine C.region [(false,0)] rfl ?_
    refine L.assign rfl rfl rfl trivial ?_
    refine L.nil ?_
    refine C.next ?_
    refine C.seq ?_
    refine C.label ?_
    refine C.next ?_
    refine C.seq ?_
    refine C.seq ?_
    refine C.region [(false,0),(false,1),(false,2),(false,3),(false,4)] rfl ?_
    refine L.fieldAddr rfl Tf.f37_0 rfl rfl trivial ?_
    refine L.loadD1 rfl (k := 0) Tf.a34 rfl hB1 (by first | simp | assumption) rfl List.not_mem_nil rfl trivial ?_
    refine L.len rfl Try.underlying34 rfl hc rfl rfl trivial ?_
    refine L.shl1 rfl rfl rfl (by omega) rfl trivial ?_
    refine L.move rfl rfl rfl trivial ?_
    refine L.nil ?_
    refine C.next ?_
    refine C.block ?_
    refine C.loopC (γ := Nat) (fun k => 2 ^ y.chairs.length - k) (fun k => k ≤ 2 ^ y.chairs.length ∧ ∀ j, j < k → bergeP (sceneD y t) (playV y t).1 j = false) (fun k => [(27, .int .i64 (k : Int))]) [(26, _), (9, _), (8, _), (6, _), (7, _), (5, _), (4, _)] (fun k => [E1, D]) 0 (by simp) ⟨(by first | rfl | (show some (Value.int _ _) = some (Value.int _ _); congr 2; omega)), trivial⟩ ⟨rfl, rfl, rfl, rfl, rfl, rfl, rfl, trivial⟩ (ds_same) ?_
    rintro k ⟨h1, h2⟩
    refine C.seq ?_
    refine C.region [(false,0)] rfl ?_
    refine L.lss rfl rfl rfl rfl trivial ?_
    refine L.nil ?_
    refine C.next ?_
    refine C.seq ?_
    refine C.condD rfl (fun hc2 => ?_) (fun hc2 => ?_)
    · have hk : k < 2 ^ y.chairs.length := by omega
      have hpr7 : k < 128 := by omega
      refine C.skip ?_
      refine C.next ?_
      refine C.seq ?_
      refine C.block ?_
      refine C.seq ?_
      refine C.region [(false,0),(false,1)] rfl ?_
      refine L.move rfl rfl rfl trivial ?_
      refine L.assign rfl rfl rfl trivial ?_
      refine L.nil ?_
      refine C.next ?_
      refine C.seq ?_
      refine C.region [(false,0),(false,1),(false,2),(false,3),(false,4),(false,5),(false,6),(false,7),(false,8),(false,9),(false,10),(false,11)] rfl ?_
      refine L.move rfl rfl rfl trivial ?_
      refine L.fieldAddr rfl Tf.f126_1 rfl rfl trivial ?_
      refine L.loadB1 rfl Tf.a3 rfl (List.Mem.head _) rfl List.not_mem_nil rfl trivial ?_
      refine L.difN rfl rfl rfl (by omega) (by omega) rfl trivial ?_
      refine L.eql rfl rfl rfl rfl trivial ?_
      refine L.move rfl rfl rfl trivial ?_
      refine' L.and [(false,6),(false,7),(false,8),(false,9),(false,10),(false,11)] [] (s := 35) (p := 41) rfl rfl (fun hg1 => ?_) (fun hg1 => ?_) ?_
      rotate_left
      · refine L.loadBW (vs := ints (scI (sceneD y t))) rfl Tf.a126 rfl (List.Mem.head _) (by rw [show (ints (scI (sceneD y t))).length = 9 by simpa using hs9]; exact Tf.s126) List.not_mem_nil rfl ⟨_, rfl, rfl⟩ ?_
        refine L.move rfl rfl rfl ⟨_, rfl, rfl⟩ ?_
        refine L.callV rfl rfl rfl (fun D3 hD3 => bound_ok (sceneD y t) k hsc.row hsc.whole hbl hpr7 _ hsc.len) rfl ⟨_, rfl, rfl⟩ ?_
        refine L.move rfl rfl rfl ⟨_, rfl, rfl⟩ ?_
        refine L.eql rfl rfl rfl rfl ⟨_, rfl, rfl⟩ ?_
        refine L.pickT rfl rfl rfl rfl trivial ?_
        exact L.nil fun a w hh => hh.cutK 5 rfl
      · refine L.pass rfl rfl rfl ⟨_, _, rfl, rfl, rfl⟩ ?_
        refine L.pass rfl rfl rfl ⟨_, _, rfl, rfl, rfl⟩ ?_
        refine L.pass rfl rfl rfl ⟨_, _, rfl, rfl, rfl⟩ ?_
        refine L.pass rfl rfl rfl ⟨_, _, rfl, rfl, rfl⟩ ?_
        refine L.pass rfl rfl rfl ⟨_, _, rfl, rfl, rfl⟩ ?_
        refine L.pickF rfl rfl rfl rfl trivial ?_
        exact L.nil fun a w hh => hh.cutK 5 rfl
      refine L.nil ?_
      refine C.next ?_
      refine C.cond rfl (fun hc3 => ?_) (fun hc3 => ?_)
      · have hfd := find_range hk hc3 h2
        have hfl := hpr7
        refine C.seq ?_
        refine C.region [(false,0),(false,1)] rfl ?_
        refine L.move rfl rfl rfl trivial ?_
        refine L.assign rfl rfl rfl trivial ?_
        refine L.nil ?_
        refine C.next ?_
        refine C.exit ?_
        refine C.blockPass rfl ?_
        refine C.thenExit ?_
        refine C.thenExit ?_
        refine C.blockExit ?_
        refine C.next ?_
        refine C.seq ?_
        refine C.region [(false,0),(false,1),(false,2),(false,3),(false,4),(false,5)] rfl ?_
        refine L.move rfl rfl rfl trivial ?_
        refine L.call rfl rfl rfl (fun D4 hD4 => chairs_ok _ D4 hfl) rfl trivial (fun v4 D4 hD4 hp4 => ?_)
        have hpS := hp4
        refine L.move rfl rfl rfl trivial ?_
        refine L.assign rfl rfl rfl trivial ?_
        refine L.assign rfl rfl rfl trivial ?_
        refine L.assign rfl rfl rfl trivial ?_
        refine L.nil ?_
        refine C.next ?_
        refine C.ret ?_
        refine C.scopeRet ?_
        exact leave (vs := [_, _, _]) rfl rfl rfl ⟨rfl, rfl, rfl, trivial⟩ (fun D hD => berge_ret (by omega) (by rw [bergeB, hfd]; exact hpS.up RI.up (hD _ (by simp))))
      · refine C.skip ?_
        refine C.blockEnd ?_
        refine C.next ?_
        refine C.region [(false,0),(false,1)] rfl ?_
        refine L.add rfl rfl rfl (by simp only [inK]; omega) rfl trivial ?_
        refine L.move rfl rfl rfl trivial ?_
        refine L.nil ?_
        exact C.againR 13 (k + 1) ⟨by omega, fun j hj => by rcases Nat.lt_succ_iff_lt_or_eq.1 hj with h | rfl; exact h2 j h; exact hc3⟩ (by omega) ⟨(by first | rfl | (show some (Value.int _ _) = some (Value.int _ _); congr 2; omega)), trivial⟩ rfl rfl (List.Sublist.refl _) (ds_same)
    · obtain rfl : k = 2 ^ y.chairs.length := by omega
      have hfd := find_none h2
      have hfl : 0 < 128 := by omega
      refine C.exit ?_
      refine C.thenExit ?_
      refine C.thenExit ?_
      refine C.blockExit ?_
      refine C.next ?_
      refine C.seq ?_
      refine C.region [(false,0),(false,1),(false,2),(false,3),(false,4),(false,5)] rfl ?_
      refine L.move rfl rfl rfl trivial ?_
      refine L.call rfl rfl rfl (fun D5 hD5 => chairs_ok _ D5 hfl) rfl trivial (fun v5 D5 hD5 hp5 => ?_)
      have hpS := hp5
      refine L.move rfl rfl rfl trivial ?_
      refine L.assign rfl rfl rfl trivial ?_
      refine L.assign rfl rfl rfl trivial ?_
      refine L.assign rfl rfl rfl trivial ?_
      refine L.nil ?_
      refine C.next ?_
      refine C.ret ?_
      refine C.scopeRet ?_
      exact leave (vs := [_, _, _]) rfl rfl rfl ⟨rfl, rfl, rfl, trivial⟩ (fun D hD => berge_ret (by omega) (by rw [bergeB, hfd]; exact hpS.up RI.up (hD _ (by simp))))
theorem ProveBerge_ok (yv tv lv : Value) (y : YardD) (t : List Pt) (l : List Int) (many : Int) (D : Data) (hy : YardIs D yv y) (ht : Sl D RP 3 tv t) (hl : Sl D RI 1 lv l) : Fn Try.prog 35 #[yv, tv, lv, .int .i64 many] D (fun _ v => v = .bool (proveBergeV y t l many)) := by
  have hy0 := hy
  obtain ⟨cv, qv, rfl, hc, hq⟩ := hy
  have hcl := hc.len
  have hll := hl.len
  refine enter 61 Try.func35 rfl rfl rfl rfl fun h0 => ?_
  refine C.seq ?_
  refine C.region [(false,0),(false,1)] rfl ?_
  refine L.boxD rfl rfl rfl rfl trivial (fun q1 E1 hE1 hB1 => ?_)
  refine L.assign rfl rfl rfl trivial ?_
  refine L.nil ?_
  refine C.next ?_
  refine C.seq ?_
  refine C.seq ?_
  refine C.region [(false,0),(false,1),(false,2),(false,3),(false,4),(false,5),(false,6),(false,7)] rfl ?_
  refine L.loadDW rfl Tf.a37 rfl hB1 (by first | simp | assumption) Tf.s37 List.not_mem_nil rfl trivial ?_
  refine L.move rfl rfl rfl trivial ?_
  refine L.callV rfl rfl rfl (fun D1 hD1 => Play_ok _ _ y t _ (hy0.up (hD1 _ (by simp))) (ht.up RP.up (hD1 _ (by simp)))) rfl trivial ?_
  refine L.move rfl rfl rfl trivial ?_
  refine L.extract rfl rfl rfl rfl trivial ?_
  refine L.extract rfl rfl rfl rfl trivial ?_
  refine L.assign rfl rfl rfl trivial ?_
  refine L.assign rfl rfl rfl trivial ?_
  refine L.nil ?_
  refine C.next ?_
  refine C.seq ?_
  refine C.region [(false,0),(false,1)] rfl ?_
  refine L.move rfl rfl rfl trivial ?_
  refine L.neq rfl rfl rfl rfl trivial ?_
  refine L.nil ?_
  refine C.next ?_
  refine C.condD rfl (fun hc1 => ?_) (fun hc1 => ?_)
  · refine C.seq ?_
    refine C.region [(false,0)] rfl ?_
    refine L.assign rfl rfl rfl trivial ?_
    refine L.nil ?_
    refine C.next ?_
    refine C.ret ?_
    refine C.thenRet ?_
    exact leave (vs := [_]) rfl rfl rfl ⟨rfl, trivial⟩ (fun D hD => by show Value.bool _ = _; rw [proveBergeV, if_neg hc1])
  · obtain ⟨hf0, hit⟩ := play_ok (show (playV y t).2 = 0 by omega)
    have hyo := yOk hf0
    have hn7 := hyo.len
    obtain ⟨htl, htb⟩ := truthOk hit
    have hsc := scene_ok' htl (by omega)
    have hs9 := scI_len (sceneD y t) hsc.len
    have hbl := bits_lt hsc.bits hn7
    refine C.skip ?_
    refine C.next ?_
    refine C.seq ?_
    refine C.region [(false,0),(false,1),(false,2),(false,3),(false,4)] rfl ?_
    refine L.loadDW rfl Tf.a37 rfl hB1 (by first | simp | assumption) Tf.s37 List.not_mem_nil rfl trivial ?_
    refine L.move rfl rfl rfl trivial ?_
    refine L.callV rfl rfl rfl (fun D2 hD2 => scene2_ok _ _ y t _ (hy0.up (hD2 _ (by simp))) (ht.up RP.up (hD2 _ (by simp))) htl (by omega) htb hyo.fit hyo.size) rfl trivial ?_
    refine L.alloc rfl Tf.z126 rfl rfl trivial (fun q2 => ?_)
    refine L.storeW rfl rfl rfl rfl Tf.s126 (by simpa using hs9) (by rfl) .head (ints_cell1 _) trivial ?_
    refine L.nil ?_
    refine C.next ?_
    refine C.seq ?_
    refine C.region [(false,0),(false,1)] rfl ?_
    refine L.assign rfl rfl rfl trivial ?_
    refine L.assign rfl rfl rfl trivial ?_
    refine L.nil ?_
    refine C.next ?_
    refine C.seq ?_
    refine C.seq ?_
    refine C.region [(false,0),(false,1),(false,2)] rfl ?_
    refine L.move rfl rfl rfl trivial ?_
    refine L.len rfl Try.underlying52 rfl hl rfl rfl trivial ?_
    refine L.move rfl rfl rfl trivial ?_
    refine L.nil ?_
    refine C.next ?_
    refine C.block ?_
    refine C.loopC (γ := Nat × Nat × Int) (fun g => l.length - g.1) (fun g => g.1 ≤ l.length ∧ g.2.1 < 128 ∧ -1 ≤ g.2.2 ∧ g.2.2 ≤ 7 ∧ prf y.chairs.length (sceneD y t).broken (l.take g.1) = some g.2) (fun g => [(29, .int .i64 (g.1 : Int)), (12, .int .i64 (g.2.1 : Int)), (13, .int .i64 g.2.2)]) [(28, _), (27, _), (11, _), (8, _), (4, _), (3, _)] (fun g => [E1, D]) (0, 0, -1) ⟨by simp, by simp, by simp, by simp, rfl⟩ ⟨(by first | rfl | (show some (Value.int _ _) = some (Value.int _ _); congr 2; omega)), (by first | rfl | (show some (Value.int _ _) = some (Value.int _ _); congr 2; omega)), (by first | rfl | (show some (Value.int _ _) = some (Value.int _ _); congr 2; omega)), trivial⟩ ⟨rfl, rfl, rfl, rfl, rfl, rfl, trivial⟩ (ds_same) ?_
    rintro ⟨k, bt, la⟩ ⟨h1, hpr7, h3, h4, h5⟩
    simp only at h1 hpr7 h3 h4 h5
    refine C.seq ?_
    refine C.region [(false,0)] rfl ?_
    refine L.lss rfl rfl rfl rfl trivial ?_
    refine L.nil ?_
    refine C.next ?_
    refine C.seq ?_
    refine C.condD rfl (fun hc2 => ?_) (fun hc2 => ?_)
    · have hk : k < l.length := by omega
      obtain ⟨i, hi0⟩ : ∃ i, l[k]? = some i := ⟨_, List.getElem?_eq_getElem hk⟩
      refine C.skip ?_
      refine C.next ?_
      refine C.seq ?_
      refine C.block ?_
      refine C.seq ?_
      refine C.region [(false,0),(false,1),(false,2)] rfl ?_
      refine L.indexS rfl Try.underlying52 Tf.s3 rfl hl rfl (by omega) hi0 rfl trivial (fun b1 o1 cs1 hr1 hcl1 hA1 => ?_)
      obtain rfl : cs1 = [.int .i64 _] := hr1
      refine L.loadD1 rfl (k := 0) Tf.a3 rfl hA1 (by first | simp | assumption) rfl List.not_mem_nil rfl trivial ?_
      refine L.assign rfl rfl rfl trivial ?_
      refine L.nil ?_
      refine C.next ?_
      refine C.seq ?_
      refine C.seq ?_
      refine C.region [(false,0),(false,1),(false,2),(false,3),(false,4),(false,5),(false,6),(false,7),(false,8),(false,9),(false,10),(false,11),(false,12),(false,13),(false,14),(false,15),(false,16)] rfl ?_
      refine L.move rfl rfl rfl trivial ?_
      refine L.move rfl rfl rfl trivial ?_
      refine L.add rfl rfl rfl (by simp only [inK]; omega) rfl trivial ?_
      refine L.fieldAddr rfl Tf.f37_0 rfl rfl trivial ?_
      refine L.loadD1 rfl (k := 0) Tf.a34 rfl hB1 (by first | simp | assumption) rfl List.not_mem_nil rfl trivial ?_
      refine L.len rfl Try.underlying34 rfl hc rfl rfl trivial ?_
      refine L.sub rfl rfl rfl (by simp only [inK]; omega) rfl trivial ?_
      refine L.callV rfl rfl rfl (fun D3 hD3 => within_ok _ _ _ _) rfl trivial ?_
      refine L.not rfl rfl rfl trivial ?_
      refine L.move rfl rfl rfl trivial ?_
      refine' L.or [(false,10),(false,11),(false,12),(false,13),(false,14),(false,15),(false,16)] [] (s := 42) (p := 49) rfl rfl (fun hg1 => ?_) (fun hg1 => ?_) ?_
      rotate_left
      · have hin := prB_in2 hg1
        simp only at hin
        refine L.fieldAddr rfl Tf.f126_1 rfl rfl ⟨_, rfl, rfl⟩ ?_
        refine L.loadB1 rfl Tf.a3 rfl (List.Mem.head _) rfl List.not_mem_nil rfl ⟨_, rfl, rfl⟩ ?_
        refine L.move rfl rfl rfl ⟨_, rfl, rfl⟩ ?_
        refine L.shrN (m := (sceneD y t).broken) (n := i.toNat) rfl rfl (by show some (Value.int _ _) = some (Value.int _ _); congr 2; omega) (by omega) rfl ⟨_, rfl, rfl⟩ ?_
        refine L.rem rfl rfl rfl (Int.natCast_nonneg _) (by omega) (by simp only [inK]; omega) rfl ⟨_, rfl, rfl⟩ ?_
        refine L.eql rfl rfl rfl rfl ⟨_, rfl, rfl⟩ ?_
        refine L.pickF rfl rfl rfl rfl trivial ?_
        exact L.nil fun a w hh => hh.cutK 6 rfl
      · refine L.pass rfl rfl rfl ⟨_, _, rfl, rfl, rfl⟩ ?_
        refine L.pass rfl rfl rfl ⟨_, _, rfl, rfl, rfl⟩ ?_
        refine L.pass rfl rfl rfl ⟨_, _, rfl, rfl, rfl⟩ ?_
        refine L.pass rfl rfl rfl ⟨_, _, rfl, rfl, rfl⟩ ?_
        refine L.pass rfl rfl rfl ⟨_, _, rfl, rfl, rfl⟩ ?_
        refine L.pass rfl rfl rfl ⟨_, _, rfl, rfl, rfl⟩ ?_
        refine L.pickT rfl rfl rfl rfl trivial ?_
        exact L.nil fun a w hh => hh.cutK 6 rfl
      refine L.nil ?_
      refine C.next ?_
      refine C.cond rfl (fun hc3 => ?_) (fun hc3 => ?_)
      · refine C.seq ?_
        refine C.region [(false,0)] rfl ?_
        refine L.assign rfl rfl rfl trivial ?_
        refine L.nil ?_
        refine C.next ?_
        refine C.ret ?_
        refine C.thenRet ?_
        refine C.blockRet ?_
        refine C.thenRet ?_
        refine C.thenRet ?_
        refine C.blockRet ?_
        refine C.thenRet ?_
        exact leave (vs := [_]) rfl rfl rfl ⟨rfl, trivial⟩ (fun D hD => by show Value.bool _ = _; rw [proveBergeV, if_pos (by omega), prf_no hi0 h5 hc3])
      · obtain ⟨x, rfl, hx7, hst, hor⟩ := prf_yes hn7 hpr7 h3 hc3
        have hxp := pow_lt7 hx7
        refine C.skip ?_
        refine C.next ?_
        refine C.seq ?_
        refine C.region [(false,0),(false,1),(false,2),(false,3),(false,4)] rfl ?_
        refine L.move rfl rfl rfl trivial ?_
        refine L.move rfl rfl rfl trivial ?_
        refine L.shl1 rfl rfl rfl (by omega) rfl trivial ?_
        refine L.orB rfl rfl rfl (by first | omega | (simp only; omega)) (by first | omega | (simp only; omega)) rfl trivial ?_
        refine L.assign rfl rfl rfl trivial ?_
        refine L.nil ?_
        refine C.next ?_
        refine C.region [(false,0),(false,1)] rfl ?_
        refine L.move rfl rfl rfl trivial ?_
        refine L.assign rfl rfl rfl trivial ?_
        refine L.nil ?_
        refine C.blockEnd ?_
        refine C.next ?_
        refine C.region [(false,0),(false,1)] rfl ?_
        refine L.add rfl rfl rfl (by simp only [inK]; omega) rfl trivial ?_
        refine L.move rfl rfl rfl trivial ?_
        refine L.nil ?_
        exact C.againR 27 (k + 1, bt ||| 2 ^ x, (x : Int)) ⟨by simp only; omega, hor, by simp only; omega, by simp only; omega, by simp only; rw [prf_snoc hi0, h5]; exact hst⟩ (by simp only; omega) ⟨(by first | rfl | (show some (Value.int _ _) = some (Value.int _ _); congr 2; omega)), (by first | rfl | (show some (Value.int _ _) = some (Value.int _ _); congr 2; omega)), (by first | rfl | (show some (Value.int _ _) = some (Value.int _ _); congr 2; omega)), trivial⟩ rfl rfl (List.Sublist.refl _) (ds_same)
    · obtain rfl : k = l.length := by omega
      rw [List.take_length] at h5
      refine C.exit ?_
      refine C.thenExit ?_
      refine C.thenExit ?_
      refine C.blockExit ?_
      refine C.next ?_
      refine C.seq ?_
      refine C.region [(false,0),(false,1),(false,2),(false,3),(false,4),(false,5)] rfl ?_
      refine L.loadBW (vs := ints (scI (sceneD y t))) rfl Tf.a126 rfl (List.Mem.head _) (by rw [show (ints (scI (sceneD y t))).length = 9 by simpa using hs9]; exact Tf.s126) List.not_mem_nil rfl trivial ?_
      refine L.move rfl rfl rfl trivial ?_
      refine L.callV rfl rfl rfl (fun D4 hD4 => bound_ok (sceneD y t) bt hsc.row hsc.whole hbl hpr7 _ hsc.len) rfl trivial ?_
      refine L.move rfl rfl rfl trivial ?_
      refine L.leq rfl rfl rfl rfl trivial ?_
      refine L.assign rfl rfl rfl trivial ?_
      refine L.nil ?_
      refine C.next ?_
      refine C.ret ?_
      exact leave (vs := [_]) rfl rfl rfl ⟨rfl, trivial⟩ (fun D hD => by show Value.bool _ = _; rw [proveBergeV, if_pos (by omega), h5])
theorem Bounds_ok (yv : Value) (y : YardD) (D : Data) (hy : YardIs D yv y) : Fn Try.prog 39 #[yv] D (fun _ v => v = .tuple #[k2V (boundsV y).1, .int .i64 (boundsV y).2]) := by
  have hy0 := hy
  obtain ⟨cv, qv, rfl, hc, hq⟩ := hy
  refine enter 48 Try.func39 rfl rfl rfl rfl fun h0 => ?_
  refine C.seq ?_
  refine C.region [(false,0),(false,1),(false,2)] rfl ?_
  refine L.boxD rfl rfl rfl rfl trivial (fun q1 E1 hE1 hB1 => ?_)
  refine L.alloc rfl Tf.z61 rfl rfl trivial (fun q2 => ?_)
  refine L.assign rfl rfl rfl trivial ?_
  refine L.nil ?_
  refine C.next ?_
  refine C.seq ?_
  refine C.seq ?_
  refine C.region [(false,0),(false,1),(false,2)] rfl ?_
  refine L.loadDW rfl Tf.a37 rfl hB1 (by first | simp | assumption) Tf.s37 List.not_mem_nil rfl trivial ?_
  refine L.callV rfl rfl rfl (fun D1 hD1 => CheckYard_ok _ y _ (hy0.up (hD1 _ (by simp)))) rfl trivial ?_
  refine L.assign rfl rfl rfl trivial ?_
  refine L.nil ?_
  refine C.next ?_
  refine C.seq ?_
  refine C.region [(false,0),(false,1)] rfl ?_
  refine L.move rfl rfl rfl trivial ?_
  refine L.neq rfl rfl rfl rfl trivial ?_
  refine L.nil ?_
  refine C.next ?_
  refine C.condD rfl (fun hc1 => ?_) (fun hc1 => ?_)
  · refine C.seq ?_
    refine C.region [(false,0),(false,1),(false,2),(false,3)] rfl ?_
    refine L.build (cs := [.int .i64 0, .int .i64 0]) rfl Tf.p61 Tf.z61 rfl rfl rfl trivial ?_
    refine L.move rfl rfl rfl trivial ?_
    refine L.storeW rfl rfl rfl rfl Tf.s61 (by first | rfl | (simp only [ints_length, *]; done) | (simp only [ints_length, *]; rfl) | (simp only [ints_length, *]; omega)) (by first | rfl | (simp only [ints_length, *]; done) | (simp only [ints_length, *]; rfl) | (simp only [ints_length, *]; omega)) (Has.head) (by first | exact ints_cell1 _ | simp [cell1]) trivial ?_
    refine L.assign rfl rfl rfl trivial ?_
    refine L.nil ?_
    refine C.next ?_
    refine C.ret ?_
    refine C.thenRet ?_
    exact leave (vs := [_, _]) rfl rfl rfl ⟨⟨_, _, _, rfl, (List.Mem.head _), Or.inr ⟨Tf.a61, (by first | exact Tf.s61 | (simp only [List.size_toArray, ints_length, *]; exact Tf.s61)), rfl⟩⟩, rfl, trivial⟩ (fun D hD => by show Value.tuple _ = _; rw [boundsV, if_pos hc1]; rfl)
  · have hf0 : fault y = 0 := by omega
    have hyo := yOk hf0
    have hn7 := hyo.len
    refine C.skip ?_
    refine C.next ?_
    refine C.seq ?_
    refine C.region [(false,0),(false,1),(false,2),(false,3),(false,4),(false,5),(false,6),(false,7)] rfl ?_
    refine L.loadDW rfl Tf.a37 rfl hB1 (by first | simp | assumption) Tf.s37 List.not_mem_nil rfl trivial ?_
    refine L.callO (μ := _) rfl rfl rfl (fun D5 hD5 => work_ok _ y _ _ D5 rfl) rfl trivial (fun v5 D6 _ hD6 hp5 => ?_)
    obtain ⟨wb, mb, rfl, rfl⟩ := hp5
    refine L.boxesEq ([] ++ [(_, _), (_, _)] ++ ([(_, _)])) rfl ?_
    refine L.callM (A := []) (ν := [(_, _), (_, _)]) (B := [(_, _)]) rfl rfl rfl rfl (Or.inl rfl) (unf_w (cs := [_, _, _, _])) (fun D7 hD7 => scenes_ok wb mb _ _ y [] _ (by omega) hyo.fit hyo.size #[] 0 [] _ (hc.up RCh.up (hD7 _ (by simp))) (hq.up R2.up (hD7 _ (by simp))) Sl.nil rfl MOk.nil) rfl trivial (fun v7 D8 _ hD8 hp7 => ?_)
    obtain ⟨sv, mv, rfl, hsv, hmv, es1, cl1, M1, rfl, hM1, hok1⟩ := hp7
    refine L.move rfl rfl rfl trivial ?_
    refine L.extract rfl rfl rfl rfl trivial ?_
    refine L.extract rfl rfl rfl rfl trivial ?_
    refine L.assign rfl rfl rfl trivial ?_
    refine L.assign rfl rfl rfl trivial ?_
    refine L.nil ?_
    refine C.next ?_
    refine C.seq ?_
    refine C.seq ?_
    refine C.region [(false,0),(false,1),(false,2)] rfl ?_
    refine L.move rfl rfl rfl trivial ?_
    refine L.len rfl Try.underlying52 rfl hmv rfl rfl trivial ?_
    refine L.eql rfl rfl rfl rfl trivial ?_
    refine L.nil ?_
    refine C.next ?_
    refine C.condD rfl (fun hc2 => ?_) (fun hc2 => ?_)
    · have hnil : scenesD y [] = [] := by simpa using hc2
      refine C.seq ?_
      refine C.region [(false,0),(false,1),(false,2)] rfl ?_
      refine L.build (cs := [.int .i64 0, .int .i64 0]) rfl Tf.p61 Tf.z61 rfl rfl rfl trivial ?_
      refine L.storeW rfl rfl rfl rfl Tf.s61 (by first | rfl | (simp only [ints_length, *]; done) | (simp only [ints_length, *]; rfl) | (simp only [ints_length, *]; omega)) (by first | rfl | (simp only [ints_length, *]; done) | (simp only [ints_length, *]; rfl) | (simp only [ints_length, *]; omega)) (.tail (.tail (Has.head))) (by first | exact ints_cell1 _ | simp [cell1]) trivial ?_
      refine L.assign rfl rfl rfl trivial ?_
      refine L.nil ?_
      refine C.next ?_
      refine C.ret ?_
      refine C.thenRet ?_
      exact leave (vs := [_, _]) rfl rfl rfl ⟨⟨_, _, _, rfl, (List.Mem.tail _ (List.Mem.tail _ (List.Mem.head _))), Or.inr ⟨Tf.a61, (by first | exact Tf.s61 | (simp only [List.size_toArray, ints_length, *]; exact Tf.s61)), rfl⟩⟩, rfl, trivial⟩ (fun D hD => bounds_nil hf0 hnil)
    · generalize hL : ((scenesD y []).map fun p => (p.2 : Int)) = ms at hmv hc2 ⊢
      have hml := hmv.len
      have hne : ms ≠ [] := fun e => hc2 (by rw [e]; rfl)
      obtain ⟨m0, hm0⟩ : ∃ m, ms[0]? = some m := ⟨ms[0]'(List.length_pos_iff.2 hne), List.getElem?_eq_getElem _⟩
      refine C.skip ?_
      refine C.next ?_
      refine C.seq ?_
      refine C.drawS [] 3 [false,false,false,true,true,true,false,true,true,true,false,false] [.fork [0,1,2,3,4,5,6,7] 8 (.fin [9]) 9 (.fin [8]), .fin [10,11]] Tf.follows (fun _ _ _ h => np_body (P := Try.prog) (fn := Try.f39) _ _ _ h) (by kernel_rfl) ?_
      refine S.cons ?_
      refine L.planFork [(false,0),(false,1),(false,2),(true,3),(true,4),(true,5),(false,6),(true,7)] rfl ?_
      refine L.move rfl rfl rfl trivial ?_
      refine L.indexS rfl Try.underlying52 Tf.s3 rfl hmv rfl (by omega) hm0 rfl trivial (fun b1 o1 cs1 hr1 hcl1 hA1 => ?_)
      obtain rfl : cs1 = [.int .i64 _] := hr1
      refine L.loadD1 rfl (k := 0) Tf.a3 rfl hA1 (by first | simp | assumption) rfl List.not_mem_nil rfl trivial ?_
      refine L.move rfl rfl rfl trivial ?_
      refine L.indexS rfl Try.underlying52 Tf.s3 rfl hmv rfl (by omega) hm0 rfl trivial (fun b2 o2 cs2 hr2 hcl2 hA2 => ?_)
      obtain rfl : cs2 = [.int .i64 _] := hr2
      refine L.loadD1 rfl (k := 0) Tf.a3 rfl hA2 (by first | simp | assumption) rfl List.not_mem_nil rfl trivial ?_
      refine L.build (cs := [.int .i64 m0, .int .i64 m0]) rfl Tf.p61 Tf.z61 rfl rfl rfl trivial ?_
      refine L.build (cs := [.func (.func 87) #[] #[]]) rfl Tf.p141 Tf.z141 rfl rfl rfl trivial ?_
      refine L.nil (L.forkP true true rfl rfl ?_ ?_)
      · refine L.alloc rfl Tf.z61 rfl rfl trivial (fun q3 => ?_)
        refine L.nil ?_
        refine L.planFin [(true,9)] rfl ?_
        refine L.alloc rfl Tf.z141 rfl rfl trivial (fun q4 => ?_)
        refine L.nil ?_
        refine S.fin [(false,10),(false,11)] rfl ?_
        refine L.storeW rfl rfl rfl rfl Tf.s61 (by first | rfl | (simp only [ints_length, *]; done) | (simp only [ints_length, *]; rfl) | (simp only [ints_length, *]; omega)) (by first | rfl | (simp only [ints_length, *]; done) | (simp only [ints_length, *]; rfl) | (simp only [ints_length, *]; omega)) (.tail (Has.head)) (by first | exact ints_cell1 _ | simp [cell1]) trivial ?_
        refine L.storeW rfl rfl rfl rfl Tf.s141 (by first | rfl | (simp only [ints_length, *]; done) | (simp only [ints_length, *]; rfl) | (simp only [ints_length, *]; omega)) (by first | rfl | (simp only [ints_length, *]; done) | (simp only [ints_length, *]; rfl) | (simp only [ints_length, *]; omega)) (Has.head) (by first | exact ints_cell1 _ | simp [cell1]) trivial ?_
        refine L.nil ?_
        refine S.nil ?_
        refine C.next ?_
        refine C.seq ?_
        refine C.seq ?_
        refine C.region [(false,0),(false,1),(false,2)] rfl ?_
        refine L.move rfl rfl rfl trivial ?_
        refine L.len rfl Try.underlying52 rfl hmv rfl rfl trivial ?_
        refine L.move rfl rfl rfl trivial ?_
        refine L.nil ?_
        refine C.next ?_
        refine C.block ?_
        refine C.loopR (γ := Nat) (fun k => ms.length - k) (fun k => k ≤ ms.length) (fun k => [(37, .int .i64 (k : Int))]) [(36, _), (35, _), (8, _), (7, _), (3, _), (2, _)] (fun k => (q4, .cells [.func (.func 87) #[] #[]].toArray 141 (0, 0)) :: (q3, .cells [.int .i64 (List.foldl (fun r n => (min r.1 n, max r.2 n)) (m0, m0) (ms.take k)).1, .int .i64 (List.foldl (fun r n => (min r.1 n, max r.2 n)) (m0, m0) (ms.take k)).2].toArray 61 (0, 0)) :: (wb, .cells [cv, .int .i64 y.fit, qv, .map (some mb)].toArray 148 (0, 0)) :: (mb, .map es1 cl1) :: [(q2, .cells [.int .i64 0, .int .i64 0].toArray 61 (0, 0))]) (fun k => [D8, D6, E1, D]) 0 (by omega) ⟨(by first | rfl | (show some (Value.int _ _) = some (Value.int _ _); congr 2; omega)), trivial⟩ ⟨rfl, rfl, rfl, rfl, rfl, rfl, trivial⟩ (List.Sublist.refl _) (ds_same) ?_
        rintro k h1
        refine C.seq ?_
        refine C.region [(false,0)] rfl ?_
        refine L.lss rfl rfl rfl rfl trivial ?_
        refine L.nil ?_
        refine C.next ?_
        refine C.seq ?_
        refine C.condD rfl (fun hc3 => ?_) (fun hc3 => ?_)
        · have hk : k < ms.length := by omega
          obtain ⟨n, hn0⟩ : ∃ n, ms[k]? = some n := ⟨_, List.getElem?_eq_getElem hk⟩
          have hst := bnd_step (m0 := m0) hn0
          refine C.skip ?_
          refine C.next ?_
          refine C.seq ?_
          refine C.block ?_
          refine C.seq ?_
          refine C.region [(false,0),(false,1),(false,2)] rfl ?_
          refine L.indexS rfl Try.underlying52 Tf.s3 rfl hmv rfl (by omega) hn0 rfl trivial (fun b3 o3 cs3 hr3 hcl3 hA3 => ?_)
          obtain rfl : cs3 = [.int .i64 _] := hr3
          refine L.loadD1 rfl (k := 0) Tf.a3 rfl hA3 (by first | simp | assumption) rfl List.not_mem_nil rfl trivial ?_
          refine L.assign rfl rfl rfl trivial ?_
          refine L.nil ?_
          refine C.next ?_
          refine C.region [(false,0),(false,1),(false,2),(false,3),(false,4),(false,5)] rfl ?_
          refine L.fieldAddr rfl Tf.f141_0 rfl rfl trivial ?_
          refine L.loadB1 rfl Tf.a138 rfl (List.Mem.head _) rfl List.not_mem_nil rfl trivial ?_
          refine L.loadBW rfl Tf.a61 rfl (List.Mem.tail _ (List.Mem.head _)) Tf.s61 List.not_mem_nil rfl trivial ?_
          refine L.move rfl rfl rfl trivial ?_
          refine L.callV rfl rfl rfl (fun D2 hD2 => wider_ok (List.foldl (fun r n => (min r.1 n, max r.2 n)) (m0, m0) (ms.take k)) n _) rfl trivial ?_
          refine L.storeW rfl rfl rfl rfl Tf.s61 (by first | rfl | (simp only [ints_length, *]; done) | (simp only [ints_length, *]; rfl) | (simp only [ints_length, *]; omega)) (by first | rfl | (simp only [ints_length, *]; done) | (simp only [ints_length, *]; rfl) | (simp only [ints_length, *]; omega)) (.tail (Has.head)) (by first | exact ints_cell1 _ | simp [cell1]) trivial ?_
          refine L.nil ?_
          refine C.blockEnd ?_
          refine C.next ?_
          refine C.region [(false,0),(false,1)] rfl ?_
          refine L.add rfl rfl rfl (by simp only [inK]; omega) rfl trivial ?_
          refine L.move rfl rfl rfl trivial ?_
          refine L.nil ?_
          rw [← hst]
          exact C.againR 12 (k + 1) (by omega) (by omega) ⟨(by first | rfl | (show some (Value.int _ _) = some (Value.int _ _); congr 2; omega)), trivial⟩ rfl rfl (List.Sublist.refl _) (ds_same)
        · obtain rfl : k = ms.length := by omega
          rw [List.take_length]
          refine C.exit ?_
          refine C.thenExit ?_
          refine C.thenExit ?_
          refine C.blockExit ?_
          refine C.next ?_
          refine C.seq ?_
          refine C.region [(false,0),(false,1),(false,2)] rfl ?_
          refine L.loadBW rfl Tf.a61 rfl (List.Mem.tail _ (List.Mem.head _)) Tf.s61 List.not_mem_nil rfl trivial ?_
          refine L.storeW rfl rfl rfl rfl Tf.s61 (by first | rfl | (simp only [ints_length, *]; done) | (simp only [ints_length, *]; rfl) | (simp only [ints_length, *]; omega)) (by first | rfl | (simp only [ints_length, *]; done) | (simp only [ints_length, *]; rfl) | (simp only [ints_length, *]; omega)) (.tail (.tail (.tail (.tail (Has.head))))) (by first | exact ints_cell1 _ | simp [cell1]) trivial ?_
          refine L.assign rfl rfl rfl trivial ?_
          refine L.nil ?_
          refine C.next ?_
          refine C.ret ?_
          exact leave (vs := [_, _]) rfl rfl rfl ⟨⟨_, _, _, rfl, (List.Mem.tail _ (List.Mem.tail _ (List.Mem.tail _ (List.Mem.tail _ (List.Mem.head _))))), Or.inr ⟨Tf.a61, (by first | exact Tf.s61 | (simp only [List.size_toArray, ints_length, *]; exact Tf.s61)), rfl⟩⟩, rfl, trivial⟩ (fun D hD => bounds_some hf0 hL hm0)
      · refine L.alloc rfl Tf.z141 rfl rfl trivial (fun q3 => ?_)
        refine L.nil ?_
        refine L.planFin [(true,8)] rfl ?_
        refine L.alloc rfl Tf.z61 rfl rfl trivial (fun q4 => ?_)
        refine L.nil ?_
        refine S.fin [(false,10),(false,11)] rfl ?_
        refine L.storeW rfl rfl rfl rfl Tf.s61 (by first | rfl | (simp only [ints_length, *]; done) | (simp only [ints_length, *]; rfl) | (simp only [ints_length, *]; omega)) (by first | rfl | (simp only [ints_length, *]; done) | (simp only [ints_length, *]; rfl) | (simp only [ints_length, *]; omega)) (Has.head) (by first | exact ints_cell1 _ | simp [cell1]) trivial ?_
        refine L.storeW rfl rfl rfl rfl Tf.s141 (by first | rfl | (simp only [ints_length, *]; done) | (simp only [ints_length, *]; rfl) | (simp only [ints_length, *]; omega)) (by first | rfl | (simp only [ints_length, *]; done) | (simp only [ints_length, *]; rfl) | (simp only [ints_length, *]; omega)) (.tail (Has.head)) (by first | exact ints_cell1 _ | simp [cell1]) trivial ?_
        refine L.nil ?_
        refine S.nil ?_
        refine C.next ?_
        refine C.seq ?_
        refine C.seq ?_
        refine C.region [(false,0),(false,1),(false,2)] rfl ?_
        refine L.move rfl rfl rfl trivial ?_
        refine L.len rfl Try.underlying52 rfl hmv rfl rfl trivial ?_
        refine L.move rfl rfl rfl trivial ?_
        refine L.nil ?_
        refine C.next ?_
        refine C.block ?_
        refine C.loopR (γ := Nat) (fun k => ms.length - k) (fun k => k ≤ ms.length) (fun k => [(37, .int .i64 (k : Int))]) [(36, _), (35, _), (7, _), (8, _), (3, _), (2, _)] (fun k => (q4, .cells [.int .i64 (List.foldl (fun r n => (min r.1 n, max r.2 n)) (m0, m0) (ms.take k)).1, .int .i64 (List.foldl (fun r n => (min r.1 n, max r.2 n)) (m0, m0) (ms.take k)).2].toArray 61 (0, 0)) :: (q3, .cells [.func (.func 87) #[] #[]].toArray 141 (0, 0)) :: (wb, .cells [cv, .int .i64 y.fit, qv, .map (some mb)].toArray 148 (0, 0)) :: (mb, .map es1 cl1) :: [(q2, .cells [.int .i64 0, .int .i64 0].toArray 61 (0, 0))]) (fun k => [D8, D6, E1, D]) 0 (by omega) ⟨(by first | rfl | (show some (Value.int _ _) = some (Value.int _ _); congr 2; omega)), trivial⟩ ⟨rfl, rfl, rfl, rfl, rfl, rfl, trivial⟩ (List.Sublist.refl _) (ds_same) ?_
        rintro k h1
        refine C.seq ?_
        refine C.region [(false,0)] rfl ?_
        refine L.lss rfl rfl rfl rfl trivial ?_
        refine L.nil ?_
        refine C.next ?_
        refine C.seq ?_
        refine C.condD rfl (fun hc3 => ?_) (fun hc3 => ?_)
        · have hk : k < ms.length := by omega
          obtain ⟨n, hn0⟩ : ∃ n, ms[k]? = some n := ⟨_, List.getElem?_eq_getElem hk⟩
          have hst := bnd_step (m0 := m0) hn0
          refine C.skip ?_
          refine C.next ?_
          refine C.seq ?_
          refine C.block ?_
          refine C.seq ?_
          refine C.region [(false,0),(false,1),(false,2)] rfl ?_
          refine L.indexS rfl Try.underlying52 Tf.s3 rfl hmv rfl (by omega) hn0 rfl trivial (fun b3 o3 cs3 hr3 hcl3 hA3 => ?_)
          obtain rfl : cs3 = [.int .i64 _] := hr3
          refine L.loadD1 rfl (k := 0) Tf.a3 rfl hA3 (by first | simp | assumption) rfl List.not_mem_nil rfl trivial ?_
          refine L.assign rfl rfl rfl trivial ?_
          refine L.nil ?_
          refine C.next ?_
          refine C.region [(false,0),(false,1),(false,2),(false,3),(false,4),(false,5)] rfl ?_
          refine L.fieldAddr rfl Tf.f141_0 rfl rfl trivial ?_
          refine L.loadB1 rfl Tf.a138 rfl (List.Mem.tail _ (List.Mem.head _)) rfl List.not_mem_nil rfl trivial ?_
          refine L.loadBW rfl Tf.a61 rfl (List.Mem.head _) Tf.s61 List.not_mem_nil rfl trivial ?_
          refine L.move rfl rfl rfl trivial ?_
          refine L.callV rfl rfl rfl (fun D2 hD2 => wider_ok (List.foldl (fun r n => (min r.1 n, max r.2 n)) (m0, m0) (ms.take k)) n _) rfl trivial ?_
          refine L.storeW rfl rfl rfl rfl Tf.s61 (by first | rfl | (simp only [ints_length, *]; done) | (simp only [ints_length, *]; rfl) | (simp only [ints_length, *]; omega)) (by first | rfl | (simp only [ints_length, *]; done) | (simp only [ints_length, *]; rfl) | (simp only [ints_length, *]; omega)) (Has.head) (by first | exact ints_cell1 _ | simp [cell1]) trivial ?_
          refine L.nil ?_
          refine C.blockEnd ?_
          refine C.next ?_
          refine C.region [(false,0),(false,1)] rfl ?_
          refine L.add rfl rfl rfl (by simp only [inK]; omega) rfl trivial ?_
          refine L.move rfl rfl rfl trivial ?_
          refine L.nil ?_
          rw [← hst]
          exact C.againR 12 (k + 1) (by omega) (by omega) ⟨(by first | rfl | (show some (Value.int _ _) = some (Value.int _ _); congr 2; omega)), trivial⟩ rfl rfl (List.Sublist.refl _) (ds_same)
        · obtain rfl : k = ms.length := by omega
          rw [List.take_length]
          refine C.exit ?_
          refine C.thenExit ?_
          refine C.thenExit ?_
          refine C.blockExit ?_
          refine C.next ?_
          refine C.seq ?_
          refine C.region [(false,0),(false,1),(false,2)] rfl ?_
          refine L.loadBW rfl Tf.a61 rfl (List.Mem.head _) Tf.s61 List.not_mem_nil rfl trivial ?_
          refine L.storeW rfl rfl rfl rfl Tf.s61 (by first | rfl | (simp only [ints_length, *]; done) | (simp only [ints_length, *]; rfl) | (simp only [ints_length, *]; omega)) (by first | rfl | (simp only [ints_length, *]; done) | (simp only [ints_length, *]; rfl) | (simp only [ints_length, *]; omega)) (.tail (.tail (.tail (.tail (Has.head))))) (by first | exact ints_cell1 _ | simp [cell1]) trivial ?_
          refine L.assign rfl rfl rfl trivial ?_
          refine L.nil ?_
          refine C.next ?_
          refine C.ret ?_
          exact leave (vs := [_, _]) rfl rfl rfl ⟨⟨_, _, _, rfl, (List.Mem.tail _ (List.Mem.tail _ (List.Mem.tail _ (List.Mem.tail _ (List.Mem.head _))))), Or.inr ⟨Tf.a61, (by first | exact Tf.s61 | (simp only [List.size_toArray, ints_length, *]; exact Tf.s61)), rfl⟩⟩, rfl, trivial⟩ (fun D hD => bounds_some hf0 hL hm0)
end Go.Fs
namespace Go.Fs
open Go.Proofs
open C7
theorem prC_cell1 (l : List (Int × Int)) : ∀ u ∈ prC l, cell1 u = true := by
  intro u hu
  unfold prC at hu
  rw [List.mem_flatMap] at hu
  obtain ⟨p, _, hu⟩ := hu
  simp only [List.mem_cons, List.not_mem_nil, or_false] at hu
  rcases hu with rfl | rfl <;> rfl
theorem unf_cc {b1 b2 t1 t2 : Nat} {cs ds : List Value} : ∀ p ∈ [(b1, Obj.cells cs.toArray t1 (0, 0)), (b2, .cells ds.toArray t2 (0, 0))], unfrozen p.2 := by
  intro p hp
  simp only [List.mem_cons, List.not_mem_nil, or_false] at hp
  rcases hp with rfl | rfl <;> rfl
/-- Of which number a pairing is sure. -/
def sureZ (scs : List Sc) (l : List (Int × Int)) : Int := match scs with
  | [] => 0
  | s :: _ => (scs.map fun s => (makesN s l : Int)).foldl min (makesN s l : Int)
theorem sureZ_eq {scs : List Sc} {l : List (Int × Int)} {s0 : Sc} (h : scs[0]? = some s0) : (scs.map fun s => (makesN s l : Int)).foldl min (makesN s0 l : Int) = sureZ scs l := by
  cases scs with
  | nil => simp at h
  | cons s r => obtain rfl : s = s0 := by simpa using h
                rfl
theorem sure_step {scs : List Sc} {l : List (Int × Int)} {k : Nat} {s : Sc} {a : Int} (h : scs[k]? = some s) : ((scs.take (k + 1)).map fun s => (makesN s l : Int)).foldl min a = min (((scs.take k).map fun s => (makesN s l : Int)).foldl min a) (makesN s l : Int) := by
  rw [List.take_add_one, h, Option.toList_some, List.map_append, List.foldl_append]; rfl
def nearB (y : YardD) (a b : Nat) : Bool := match y.chairs[a]?, y.chairs[b]? with
  | some x, some z => nearC y.fit x z
  | _, _ => false
/-- All pairings that are tried, from chair f on; w: those that have a partner (by bits). -/
def lvs (y : YardD) : Nat → Nat → Nat → List (Int × Int) → List (List (Int × Int))
  | 0, _, _, l => [l]
  | k + 1, f, w, l => lvs y k (f + 1) w l ++ (if w.testBit f = true then [] else ((List.range y.chairs.length).filter fun b => decide (f < b) && (!w.testBit b && nearB y f b)).flatMap fun (b : Nat) => lvs y k (f + 1) (w ||| 2 ^ b) (l ++ [((f : Int), (b : Int))]))
def upd (scs : List Sc) (st : List (Int × Int) × Int) (l : List (Int × Int)) : List (Int × Int) × Int := if st.2 < sureZ scs l then (l, sureZ scs l) else st
theorem lvs_zero {y : YardD} {scs : List Sc} {f w : Nat} {l : List (Int × Int)} {st : List (Int × Int) × Int} : (lvs y 0 f w l).foldl (upd scs) st = upd scs st l := rfl
theorem upd_yes {scs : List Sc} {l best : List (Int × Int)} {many : Int} (h : many < sureZ scs l) : upd scs (best, many) l = (l, sureZ scs l) := if_pos h
theorem upd_no {scs : List Sc} {l best : List (Int × Int)} {many : Int} (h : ¬ many < sureZ scs l) : upd scs (best, many) l = (best, many) := if_neg h
def partB (y : YardD) (k f w : Nat) (l : List (Int × Int)) (b : Nat) : List (List (Int × Int)) := if w.testBit f = true then [] else ((List.range b).filter fun b => decide (f < b) && (!w.testBit b && nearB y f b)).flatMap fun (b : Nat) => lvs y k (f + 1) (w ||| 2 ^ b) (l ++ [((f : Int), (b : Int))])
def upB (y : YardD) (scs : List Sc) (k f w : Nat) (l best : List (Int × Int)) (many : Int) (b : Nat) : List (Int × Int) × Int := (lvs y k (f + 1) w l ++ partB y k f w l b).foldl (upd scs) (best, many)
theorem upB_start {y : YardD} {scs : List Sc} {k f w : Nat} {l best : List (Int × Int)} {many : Int} : upB y scs k f w l best many (f + 1) = (lvs y k (f + 1) w l).foldl (upd scs) (best, many) := by
  have : partB y k f w l (f + 1) = [] := by
    unfold partB
    split
    · rfl
    · rw [List.filter_eq_nil_iff.2 fun b hb => by have := List.mem_range.1 hb; simp; omega]; rfl
  unfold upB; rw [this, List.append_nil]
theorem upB_yes {y : YardD} {scs : List Sc} {k f w b : Nat} {l best : List (Int × Int)} {many : Int} (hb : f < b) (hbit : w.testBit f = false) (hs : (!w.testBit b && nearB y f b) = true) :
    upB y scs k f w l best many (b + 1) = (lvs y k (f + 1) (w ||| 2 ^ b) (l ++ [((f : Int), (b : Int))])).foldl (upd scs) ((upB y scs k f w l best many b).1, (upB y scs k f w l best many b).2) := by
  have : partB y k f w l (b + 1) = partB y k f w l b ++ lvs y k (f + 1) (w ||| 2 ^ b) (l ++ [((f : Int), (b : Int))]) := by
    unfold partB
    rw [if_neg (by rw [hbit]; simp), if_neg (by rw [hbit]; simp), List.range_succ, List.filter_append, List.flatMap_append]
    simp [hb, hs]
  unfold upB; rw [this, ← List.append_assoc, List.foldl_append]
theorem upB_no {y : YardD} {scs : List Sc} {k f w b : Nat} {l best : List (Int × Int)} {many : Int} (hs : (!w.testBit b && nearB y f b) = false) : upB y scs k f w l best many (b + 1) = upB y scs k f w l best many b := by
  have : partB y k f w l (b + 1) = partB y k f w l b := by
    unfold partB
    split
    · rfl
    · rw [List.range_succ, List.filter_append, List.flatMap_append]; simp [hs]
  unfold upB; rw [this]
theorem upB_end {y : YardD} {scs : List Sc} {k f w b : Nat} {l best : List (Int × Int)} {many : Int} (_h1 : f + 1 ≤ b) (h : (decide ((b : Int) < (y.chairs.length : Int)) && decide (((w >>> f : Nat) : Int) % 2 = 0)) = false) : (lvs y (k + 1) f w l).foldl (upd scs) (best, many) = upB y scs k f w l best many b := by
  have e : lvs y (k + 1) f w l = lvs y k (f + 1) w l ++ partB y k f w l y.chairs.length := rfl
  rw [e]; unfold upB
  by_cases hb : w.testBit f = true
  · have key : ∀ b, partB y k f w l b = [] := fun b => by unfold partB; rw [if_pos hb]
    rw [key, key]
  · have h' : ¬ (b : Int) < (y.chairs.length : Int) := by
      intro h2
      rw [bit_mod, if_neg hb] at h
      simp at h; omega
    have key : ∀ j, partB y k f w l (y.chairs.length + j) = partB y k f w l y.chairs.length := by
      intro j
      induction j with
      | zero => rfl
      | succ j ih =>
        rw [← ih]
        unfold partB
        rw [if_neg hb, if_neg hb, ← Nat.add_assoc, List.range_succ, List.filter_append, List.flatMap_append]
        have : nearB y f (y.chairs.length + j) = false := by
          unfold nearB
          rw [List.getElem?_eq_none (show y.chairs.length ≤ y.chairs.length + j by omega)]
          cases y.chairs[f]? <;> rfl
        simp [this]
    have := key (b - y.chairs.length)
    rw [show y.chairs.length + (b - y.chairs.length) = b by omega] at this
    rw [this]
theorem add_go {b n w f : Nat} (h : (decide ((b : Int) < (n : Int)) && decide (((w >>> f : Nat) : Int) % 2 = 0)) = true) : b < n ∧ w.testBit f = false := by
  rw [Bool.and_eq_true, decide_eq_true_eq, decide_eq_true_eq, bit_mod] at h
  refine ⟨by omega, ?_⟩
  cases e : w.testBit f with
  | false => rfl
  | true => rw [if_pos e] at h; omega
theorem add_sel {y : YardD} {w f b : Nat} {x z : Ch} {r : Bool} (hx : y.chairs[f]? = some x) (hz : y.chairs[b]? = some z) (h : (decide (((w >>> b : Nat) : Int) % 2 = 0) && nearC y.fit x z) = r) : (!w.testBit b && nearB y f b) = r := by
  rw [← h, bit_mod]
  unfold nearB; rw [hx, hz]
  cases w.testBit b <;> simp
theorem prOk_snoc {l : List (Int × Int)} {a b : Nat} (h : PrOk l) (ha : a < 7) (hb : b < 7) : PrOk (l ++ [((a : Int), (b : Int))]) := fun p hp => by
  rcases List.mem_append.1 hp with hp | hp
  · exact h p hp
  · simp only [List.mem_singleton] at hp; exact ⟨a, b, hp, ha, hb⟩
theorem CloneI_ok (sv : Value) (xs : List Int) (D : Data) (hS : Sl D RI 1 sv xs) (hl : xs.length ≤ 10000000) : FnO Try.prog 95 #[sv] D (fun _ v ν => Acc 3 1 v xs.length (ints xs) ν) := by
  obtain ⟨a0, c0, rfl⟩ := hS.shape
  refine enterO 8 Try.func95 rfl rfl rfl rfl fun h0 => ?_
  refine C.seq ?_
  refine C.region [(false,0)] rfl ?_
  refine L.assign rfl rfl rfl trivial ?_
  refine L.nil ?_
  refine C.next ?_
  refine C.seq ?_
  refine C.seq ?_
  refine C.region [(false,0),(false,1)] rfl ?_
  refine L.move rfl rfl rfl trivial ?_
  refine L.eqlNil rfl Try.underlying52 rfl rfl rfl trivial ?_
  refine L.nil ?_
  refine C.next ?_
  refine C.cond rfl (fun hc1 => ?_) (fun hc1 => ?_)
  · obtain rfl : a0 = none := by simpa using hc1
    obtain rfl := sl_none hS
    refine C.seq ?_
    refine C.region [(false,0)] rfl ?_
    refine L.assign rfl rfl rfl trivial ?_
    refine L.nil ?_
    refine C.next ?_
    refine C.ret ?_
    refine C.thenRet ?_
    exact leave (vs := [_]) rfl rfl rfl ⟨rfl, trivial⟩ (fun D' hD => Acc.nil)
  · refine C.skip ?_
    refine C.next ?_
    refine C.seq ?_
    refine C.region [(false,0),(false,1),(false,2),(false,3)] rfl ?_
    refine L.buildSlice rfl Try.underlying52 Tf.s3 Tf.z3 rfl rfl rfl rfl .nil rfl trivial (fun b901 D901 hD901 hA901 => ?_)
    refine L.move rfl rfl rfl trivial ?_
    refine L.append (A := []) (ν := []) (B := []) rfl Try.underlying52 rfl rfl Tf.s3 Tf.z3 rfl Tf.i3 rfl rfl rfl Acc.nil (Src.ints hS) (by simp) (by simp) rfl (ints_cell1 _) (by omega) (Or.inl rfl) rfl trivial (fun v1 ν1 ha1 => ?_)
    refine L.assign rfl rfl rfl trivial ?_
    refine L.nil ?_
    refine C.next ?_
    refine C.ret ?_
    exact leave (vs := [_]) rfl rfl rfl ⟨rfl, trivial⟩ (fun D' hD => by show Acc 3 1 v1 _ _ _; simpa [prC] using ha1)
theorem CloneP_ok (sv : Value) (xs : List (Int × Int)) (D : Data) (hS : Sl D R2 2 sv xs) (hl : xs.length ≤ 10000000) : FnO Try.prog 91 #[sv] D (fun _ v ν => Acc 111 2 v xs.length (prC xs) ν) := by
  obtain ⟨a0, c0, rfl⟩ := hS.shape
  refine enterO 8 Try.func91 rfl rfl rfl rfl fun h0 => ?_
  refine C.seq ?_
  refine C.region [(false,0)] rfl ?_
  refine L.assign rfl rfl rfl trivial ?_
  refine L.nil ?_
  refine C.next ?_
  refine C.seq ?_
  refine C.seq ?_
  refine C.region [(false,0),(false,1)] rfl ?_
  refine L.move rfl rfl rfl trivial ?_
  refine L.eqlNil rfl Try.underlying30 rfl rfl rfl trivial ?_
  refine L.nil ?_
  refine C.next ?_
  refine C.cond rfl (fun hc1 => ?_) (fun hc1 => ?_)
  · obtain rfl : a0 = none := by simpa using hc1
    obtain rfl := sl_none hS
    refine C.seq ?_
    refine C.region [(false,0)] rfl ?_
    refine L.assign rfl rfl rfl trivial ?_
    refine L.nil ?_
    refine C.next ?_
    refine C.ret ?_
    refine C.thenRet ?_
    exact leave (vs := [_]) rfl rfl rfl ⟨rfl, trivial⟩ (fun D' hD => Acc.nil)
  · refine C.skip ?_
    refine C.next ?_
    refine C.seq ?_
    refine C.region [(false,0),(false,1),(false,2),(false,3)] rfl ?_
    refine L.buildSlice rfl Try.underlying30 Tf.s111 Tf.z111 rfl rfl rfl rfl .nil rfl trivial (fun b901 D901 hD901 hA901 => ?_)
    refine L.move rfl rfl rfl trivial ?_
    refine L.append (A := []) (ν := []) (B := []) rfl Try.underlying30 rfl rfl Tf.s111 Tf.z111 rfl Tf.i111 rfl rfl rfl Acc.nil (Src.of (cells := fun p : Int × Int => [.int .i64 p.1, .int .i64 p.2]) (fun _ _ _ h => h) (fun _ => rfl) hS) (by simp) (prC_length xs) rfl (prC_cell1 xs) (by omega) (Or.inl rfl) rfl trivial (fun v1 ν1 ha1 => ?_)
    refine L.assign rfl rfl rfl trivial ?_
    refine L.nil ?_
    refine C.next ?_
    refine C.ret ?_
    exact leave (vs := [_]) rfl rfl rfl ⟨rfl, trivial⟩ (fun D' hD => by show Acc 111 2 v1 _ _ _; simpa [prC] using ha1)
theorem sure_ok (sv lv : Value) (scs : List Sc) (l : List (Int × Int)) (n : Nat) (D : Data) (hS : Sl D RSc 9 sv scs) (hl : Sl D R2 2 lv l) (hne : scs ≠ []) (hsc : ∀ s ∈ scs, ScOk n s) (hp : PrOk l) (hl3 : l.length ≤ 1000) : Fn Try.prog 90 #[sv, lv] D (fun _ v => v = .int .i64 (sureZ scs l)) := by
  have hsl := hS.len
  obtain ⟨s0, hs0⟩ : ∃ s, scs[0]? = some s := ⟨scs[0]'(List.length_pos_iff.2 hne), List.getElem?_eq_getElem _⟩
  have ho0 := hsc s0 (List.mem_of_getElem? hs0)
  refine enter 27 Try.func90 rfl rfl rfl rfl fun h0 => ?_
  refine C.seq ?_
  refine C.region [(false,0)] rfl ?_
  refine L.assign rfl rfl rfl trivial ?_
  refine L.nil ?_
  refine C.next ?_
  refine C.seq ?_
  refine C.region [(false,0),(false,1),(false,2),(false,3),(false,4),(false,5)] rfl ?_
  refine L.move rfl rfl rfl trivial ?_
  refine L.indexS rfl Try.underlying135 Tf.s126 rfl hS rfl (by omega) hs0 rfl trivial (fun b1 o1 cs1 hr1 hcl1 hA1 => ?_)
  obtain rfl : cs1 = ints (scI _) := hr1
  refine L.loadDW rfl Tf.a126 rfl hA1 (by first | simp | assumption) (by rw [ints_length, scI_len _ ho0.len]; exact Tf.s126) List.not_mem_nil rfl trivial ?_
  refine L.move rfl rfl rfl trivial ?_
  refine L.callV rfl rfl rfl (fun D1 hD1 => makes_ok s0 _ l ho0.row ho0.whole hp hl3 _ (hl.up R2.up (hD1 _ (by simp))) ho0.len) rfl trivial ?_
  refine L.assign rfl rfl rfl trivial ?_
  refine L.nil ?_
  refine C.next ?_
  refine C.seq ?_
  refine C.seq ?_
  refine C.region [(false,0),(false,1),(false,2)] rfl ?_
  refine L.move rfl rfl rfl trivial ?_
  refine L.len rfl Try.underlying135 rfl hS rfl rfl trivial ?_
  refine L.move rfl rfl rfl trivial ?_
  refine L.nil ?_
  refine C.next ?_
  refine C.block ?_
  refine C.loopC (γ := Nat) (fun k => scs.length - k) (fun k => k ≤ scs.length) (fun k => [(15, .int .i64 (k : Int)), (5, .int .i64 (((scs.take k).map fun s => (makesN s l : Int)).foldl min (makesN s0 l : Int)))]) [(14, _), (13, _), (4, _), (1, _)] (fun k => [D]) 0 (by omega) ⟨(by first | rfl | (show some (Value.int _ _) = some (Value.int _ _); congr 2; omega)), (by first | rfl | (show some (Value.int _ _) = some (Value.int _ _); congr 2; omega)), trivial⟩ ⟨rfl, rfl, rfl, rfl, trivial⟩ (ds_same) ?_
  rintro k h1
  refine C.seq ?_
  refine C.region [(false,0)] rfl ?_
  refine L.lss rfl rfl rfl rfl trivial ?_
  refine L.nil ?_
  refine C.next ?_
  refine C.seq ?_
  refine C.condD rfl (fun hc1 => ?_) (fun hc1 => ?_)
  · have hk : k < scs.length := by omega
    obtain ⟨s1, hs1⟩ : ∃ s, scs[k]? = some s := ⟨_, List.getElem?_eq_getElem hk⟩
    have ho1 := hsc s1 (List.mem_of_getElem? hs1)
    refine C.skip ?_
    refine C.next ?_
    refine C.seq ?_
    refine C.block ?_
    refine C.seq ?_
    refine C.region [(false,0),(false,1),(false,2),(false,3)] rfl ?_
    refine L.indexS rfl Try.underlying135 Tf.s126 rfl hS rfl (by omega) hs1 rfl trivial (fun b2 o2 cs2 hr2 hcl2 hA2 => ?_)
    obtain rfl : cs2 = ints (scI _) := hr2
    refine L.loadDW rfl Tf.a126 rfl hA2 (by first | simp | assumption) (by rw [ints_length, scI_len _ ho1.len]; exact Tf.s126) List.not_mem_nil rfl trivial ?_
    refine L.alloc rfl Tf.z126 rfl rfl trivial (fun q1 => ?_)
    refine L.storeW rfl rfl rfl rfl Tf.s126 (by rw [ints_length, scI_len _ ho1.len]) (by rfl) .head (ints_cell1 _) trivial ?_
    refine L.nil ?_
    refine C.next ?_
    refine C.region [(false,0),(false,1),(false,2),(false,3),(false,4),(false,5),(false,6)] rfl ?_
    refine L.move rfl rfl rfl trivial ?_
    refine L.loadBW (vs := ints (scI s1)) rfl Tf.a126 rfl (List.Mem.head _) (by rw [show (ints (scI s1)).length = 9 by rw [ints_length, scI_len _ ho1.len]]; exact Tf.s126) List.not_mem_nil rfl trivial ?_
    refine L.move rfl rfl rfl trivial ?_
    refine L.callV rfl rfl rfl (fun D2 hD2 => makes_ok s1 _ l ho1.row ho1.whole hp hl3 _ (hl.up R2.up (hD2 _ (by simp))) ho1.len) rfl trivial ?_
    refine L.buildSlice rfl Try.underlying52 Tf.s3 Tf.z3 rfl rfl rfl rfl (.cons rfl rfl (.cons rfl rfl .nil)) rfl trivial (fun b901 D901 hD901 hA901 => ?_)
    have hS901 := Sl.ofInts (l := [_, _]) (n := 2) (cap := 2) hA901 rfl (by omega) (by omega)
    refine L.callV rfl rfl rfl (fun D3 hD3 => minimum_ok _ _ [_] _ (hS901.up RI.up (hD3 _ (by simp)))) rfl trivial ?_
    refine L.assign rfl rfl rfl trivial ?_
    refine L.nil ?_
    refine C.blockEnd ?_
    refine C.next ?_
    refine C.region [(false,0),(false,1)] rfl ?_
    refine L.add rfl rfl rfl (by simp only [inK]; omega) rfl trivial ?_
    refine L.move rfl rfl rfl trivial ?_
    refine L.nil ?_
    exact C.againR 15 (k + 1) (by omega) (by omega) ⟨(by first | rfl | (show some (Value.int _ _) = some (Value.int _ _); congr 2; omega)), (by rw [sure_step hs1]; rfl), trivial⟩ rfl rfl (List.Sublist.cons _ (List.Sublist.refl _)) (fun D h => ⟨D, List.Mem.tail _ (h), Le.refl D⟩)
  · obtain rfl : k = scs.length := by omega
    rw [List.take_length]
    refine C.exit ?_
    refine C.thenExit ?_
    refine C.thenExit ?_
    refine C.blockExit ?_
    refine C.next ?_
    refine C.seq ?_
    refine C.region [(false,0),(false,1)] rfl ?_
    refine L.move rfl rfl rfl trivial ?_
    refine L.assign rfl rfl rfl trivial ?_
    refine L.nil ?_
    refine C.next ?_
    refine C.ret ?_
    exact leave (vs := [_]) rfl rfl rfl ⟨rfl, trivial⟩ (fun D hD => by show Value.int _ _ = _; rw [sureZ_eq hs0])
theorem add_ok {y : YardD} {scs : List Sc} {cv qv sv : Value} {bY bV bF bm bp : Nat} (hyo : YOk y) (hne : scs ≠ []) (hsc : ∀ s ∈ scs, ScOk y.chairs.length s) :
    ∀ (kk f : Nat), f + kk = y.chairs.length → ∀ (w : Nat) (l : List (Int × Int)) (lv : Value) (best : List (Int × Int)) (many : Int) (pv : Value) (D : Data), w < 128 → PrOk l → l.length ≤ f → Sl D R2 2 lv l → Sl D R2 2 pv best → Sl D RCh 4 cv y.chairs → Sl D R2 2 qv y.claims → At D bY 0 [cv, .int .i64 y.fit, qv] → At D bV 0 [sv] → Sl D RSc 9 sv scs → At D bF 0 [.func (.func 89) #[] #[.pointer (some ⟨bY, 0, none⟩), .pointer (some ⟨bV, 0, none⟩), .pointer (some ⟨bm, 0, none⟩), .pointer (some ⟨bp, 0, none⟩), .pointer (some ⟨bF, 0, none⟩)]] →
    FnM Try.prog 89 [lv, .int .i64 (f : Int), .int .i64 (w : Int), .pointer (some ⟨bY, 0, none⟩), .pointer (some ⟨bV, 0, none⟩), .pointer (some ⟨bm, 0, none⟩), .pointer (some ⟨bp, 0, none⟩), .pointer (some ⟨bF, 0, none⟩)] D [(bm, .cells [.int .i64 many].toArray 3 (0, 0)), (bp, .cells [pv].toArray 30 (0, 0))] (fun D' _ ν' => ∃ pv', ν' = [(bm, .cells [.int .i64 ((lvs y kk f w l).foldl (upd scs) (best, many)).2].toArray 3 (0, 0)), (bp, .cells [pv'].toArray 30 (0, 0))] ∧ Sl D' R2 2 pv' ((lvs y kk f w l).foldl (upd scs) (best, many)).1) := by
  intro kk
  induction kk using Nat.strongRecOn with
  | _ kk ih =>
  intro f hf w l lv best many pv D hw hp hlf hl hb hc hq hY hV hS hF
  have hn7 := hyo.len
  have hcl := hc.len
  refine enterMany 75 Try.func89 rfl rfl rfl rfl (fun h0 hwl hwn => ?_)
  refine C.seq ?_
  refine C.seq ?_
  refine C.region [(false,0),(false,1),(false,2),(false,3),(false,4)] rfl ?_
  refine L.move rfl rfl rfl trivial ?_
  refine L.fieldAddr rfl Tf.f37_0 rfl rfl trivial ?_
  refine L.loadD1 rfl (k := 0) Tf.a34 rfl hY (by first | simp | assumption) rfl List.not_mem_nil rfl trivial ?_
  refine L.len rfl Try.underlying34 rfl hc rfl rfl trivial ?_
  refine L.eql rfl rfl rfl rfl trivial ?_
  refine L.nil ?_
  refine C.next ?_
  refine C.condD rfl (fun hc1 => ?_) (fun hc1 => ?_)
  · obtain rfl : kk = 0 := by omega
    refine C.seq ?_
    refine C.seq ?_
    refine C.region [(false,0),(false,1),(false,2),(false,3)] rfl ?_
    refine L.loadD1 rfl (k := 0) Tf.a135 rfl hV (by first | simp | assumption) rfl List.not_mem_nil rfl trivial ?_
    refine L.move rfl rfl rfl trivial ?_
    refine L.callV rfl rfl rfl (fun D1 hD1 => sure_ok _ _ scs l y.chairs.length _ (hS.up RSc.up (hD1 _ (by simp))) (hl.up R2.up (hD1 _ (by simp))) hne hsc hp (by omega)) rfl trivial ?_
    refine L.assign rfl rfl rfl trivial ?_
    refine L.nil ?_
    refine C.next ?_
    refine C.seq ?_
    refine C.region [(false,0),(false,1),(false,2)] rfl ?_
    refine L.move rfl rfl rfl trivial ?_
    refine L.loadB1 rfl Tf.a3 rfl (List.Mem.head _) rfl List.not_mem_nil rfl trivial ?_
    refine L.gtr rfl rfl rfl rfl trivial ?_
    refine L.nil ?_
    refine C.next ?_
    refine C.condD rfl (fun hc2 => ?_) (fun hc2 => ?_)
    · refine C.region [(false,0),(false,1),(false,2),(false,3),(false,4)] rfl ?_
      refine L.move rfl rfl rfl trivial ?_
      refine L.callO rfl rfl rfl (fun D7 hD7 => CloneP_ok _ l _ (hl.up R2.up (hD7 _ (by simp))) (by omega)) rfl trivial (fun v6 D8 ν6 hD8 ha6 => ?_)
      refine L.freezeM (A := []) (B := [(_, _), (_, _)]) ha6 (fun k hk => hk) (fun D20 hD20 hF20 => ?_)
      have hl7 := hF20.prs rfl (by omega)
      obtain ⟨a6, c6, rfl⟩ := ha6.shape
      refine L.move rfl rfl rfl trivial ?_
      refine L.store rfl rfl rfl rfl Tf.s30 (.tail .head) (by simp) rfl (by simp [cell1]) trivial ?_
      refine L.store rfl rfl rfl rfl Tf.s3 (Has.head) (by simp) rfl (by simp [cell1]) trivial ?_
      refine L.nil ?_
      refine C.next ?_
      refine C.ret ?_
      refine C.thenRet ?_
      exact leaveMany (A := []) (ν' := [_, _]) (B := []) (vs := []) rfl rfl rfl trivial rfl (fun D' hD => ⟨.slice a6 l.length c6, by rw [lvs_zero, upd_yes hc2]; rfl, by rw [lvs_zero, upd_yes hc2]; exact hl7.up R2.up (hD _ (by simp))⟩)
    · refine C.skip ?_
      refine C.next ?_
      refine C.ret ?_
      refine C.thenRet ?_
      exact leaveMany (A := []) (ν' := [_, _]) (B := []) (vs := []) rfl rfl rfl trivial rfl (fun D' hD => ⟨pv, by rw [lvs_zero, upd_no hc2], by rw [lvs_zero, upd_no hc2]; exact hb.up R2.up (hD _ (by simp))⟩)
  · obtain ⟨k, rfl⟩ : ∃ k, kk = k + 1 := ⟨kk - 1, by omega⟩
    refine C.skip ?_
    refine C.next ?_
    refine C.seq ?_
    refine C.region [(false,0),(false,1),(false,2),(false,3),(false,4),(false,5)] rfl ?_
    refine L.loadD1 rfl (k := 0) Tf.a142 rfl hF (by first | simp | assumption) rfl List.not_mem_nil rfl trivial ?_
    refine L.move rfl rfl rfl trivial ?_
    refine L.move rfl rfl rfl trivial ?_
    refine L.add rfl rfl rfl (by simp only [inK]; omega) rfl trivial ?_
    refine L.move rfl rfl rfl trivial ?_
    refine L.callM (A := []) (ν := [(_, _), (_, _)]) (B := []) rfl rfl rfl rfl (Or.inl rfl) unf_cc (fun D5 hD5 => ih k (by omega) (f + 1) (by omega) w l lv best many pv D5 hw hp (by omega) (hl.up R2.up (hD5 _ (by simp))) (hb.up R2.up (hD5 _ (by simp))) (hc.up RCh.up (hD5 _ (by simp))) (hq.up R2.up (hD5 _ (by simp))) (hY.up (hD5 _ (by simp))) (hV.up (hD5 _ (by simp))) (hS.up RSc.up (hD5 _ (by simp))) (hF.up (hD5 _ (by simp)))) rfl trivial (fun v5 D6 _ hD6 hp5 => ?_)
    obtain ⟨pv1, rfl, hpv1⟩ := hp5
    refine L.nil ?_
    refine C.next ?_
    refine C.seq ?_
    refine C.region [(false,0),(false,1),(false,2)] rfl ?_
    refine L.move rfl rfl rfl trivial ?_
    refine L.add rfl rfl rfl (by simp only [inK]; omega) rfl trivial ?_
    refine L.assign rfl rfl rfl trivial ?_
    refine L.nil ?_
    refine C.next ?_
    refine C.block ?_
    refine C.loopR (γ := Nat × Value × Data) (fun g => y.chairs.length - g.1) (fun g => f + 1 ≤ g.1 ∧ Sl g.2.2 R2 2 g.2.1 (upB y scs k f w l best many g.1).1) (fun g => [(12, .int .i64 (g.1 : Int))]) [(0, _), (1, _), (2, _), (3, _), (7, _)] (fun g => [(bm, .cells [.int .i64 (upB y scs k f w l best many g.1).2].toArray 3 (0, 0)), (bp, .cells [g.2.1].toArray 30 (0, 0))]) (fun g => [g.2.2, D]) (f + 1, pv1, D6) ⟨by simp, by simp only; rw [upB_start]; exact hpv1⟩ ⟨(by first | rfl | (show some (Value.int _ _) = some (Value.int _ _); congr 2; omega)), trivial⟩ ⟨rfl, rfl, rfl, rfl, rfl, trivial⟩ ((by rw [upB_start]; exact List.Sublist.refl _)) ((fun D0 h => by simp only [List.mem_cons, List.not_mem_nil, or_false] at h; rcases h with h | h; exact ⟨D6, by simp, h ▸ Le.refl _⟩; exact ⟨D, by simp, h ▸ Le.refl _⟩)) ?_
    rintro ⟨b, pv2, Dn⟩ ⟨h1, hpv2⟩
    simp only at h1 hpv2
    refine C.seq ?_
    refine C.seq ?_
    refine C.region [(false,0),(false,1),(false,2),(false,3),(false,4),(false,5),(false,6),(false,7),(false,8),(false,9),(false,10),(false,11)] rfl ?_
    refine L.move rfl rfl rfl trivial ?_
    refine L.fieldAddr rfl Tf.f37_0 rfl rfl trivial ?_
    refine L.loadD1 rfl (k := 0) Tf.a34 rfl hY (by first | simp | assumption) rfl List.not_mem_nil rfl trivial ?_
    refine L.len rfl Try.underlying34 rfl hc rfl rfl trivial ?_
    refine L.lss rfl rfl rfl rfl trivial ?_
    refine L.move rfl rfl rfl trivial ?_
    refine' L.and [(false,6),(false,7),(false,8),(false,9),(false,10),(false,11)] [] (s := 40) (p := 46) rfl rfl (fun hg1 => ?_) (fun hg1 => ?_) ?_
    rotate_left
    · refine L.move rfl rfl rfl ⟨_, rfl, rfl⟩ ?_
      refine L.move rfl rfl rfl ⟨_, rfl, rfl⟩ ?_
      refine L.shrN rfl rfl rfl (by omega) rfl ⟨_, rfl, rfl⟩ ?_
      refine L.rem rfl rfl rfl (Int.natCast_nonneg _) (by omega) (by simp only [inK]; omega) rfl ⟨_, rfl, rfl⟩ ?_
      refine L.eql rfl rfl rfl rfl ⟨_, rfl, rfl⟩ ?_
      refine L.pickT rfl rfl rfl rfl trivial ?_
      exact L.nil fun a w hh => hh.cutK 5 rfl
    · refine L.pass rfl rfl rfl ⟨_, _, rfl, rfl, rfl⟩ ?_
      refine L.pass rfl rfl rfl ⟨_, _, rfl, rfl, rfl⟩ ?_
      refine L.pass rfl rfl rfl ⟨_, _, rfl, rfl, rfl⟩ ?_
      refine L.pass rfl rfl rfl ⟨_, _, rfl, rfl, rfl⟩ ?_
      refine L.pass rfl rfl rfl ⟨_, _, rfl, rfl, rfl⟩ ?_
      refine L.pickF rfl rfl rfl rfl trivial ?_
      exact L.nil fun a w hh => hh.cutK 5 rfl
    refine L.nil ?_
    refine C.next ?_
    refine C.cond rfl (fun hc3 => ?_) (fun hc3 => ?_)
    · obtain ⟨hbn, hbit⟩ := add_go hc3
      simp only at hbn
      have hb1 : f < b := by omega
      have hb7 : b < 7 := by omega
      have hpb := pow_lt7 hb7
      obtain ⟨x, hx⟩ : ∃ x, y.chairs[f]? = some x := ⟨_, List.getElem?_eq_getElem (by omega)⟩
      obtain ⟨z, hz⟩ : ∃ z, y.chairs[b]? = some z := ⟨_, List.getElem?_eq_getElem (by omega)⟩
      refine C.skip ?_
      refine C.next ?_
      refine C.seq ?_
      refine C.block ?_
      refine C.seq ?_
      refine C.region [(false,0),(false,1),(false,2),(false,3),(false,4),(false,5),(false,6),(false,7),(false,8),(false,9),(false,10)] rfl ?_
      refine L.move rfl rfl rfl trivial ?_
      refine L.move rfl rfl rfl trivial ?_
      refine L.shrN rfl rfl rfl (by first | omega | (simp only; omega)) rfl trivial ?_
      refine L.rem rfl rfl rfl (Int.natCast_nonneg _) (by omega) (by simp only [inK]; omega) rfl trivial ?_
      refine L.eql rfl rfl rfl rfl trivial ?_
      refine L.move rfl rfl rfl trivial ?_
      refine' L.and [(false,6),(false,7),(false,8),(false,9),(false,10)] [] (s := 54) (p := 59) rfl rfl (fun hg2 => ?_) (fun hg2 => ?_) ?_
      rotate_left
      · refine L.loadDW rfl Tf.a37 rfl hY (by first | simp | assumption) Tf.s37 List.not_mem_nil rfl ⟨_, rfl, rfl⟩ ?_
        refine L.move rfl rfl rfl ⟨_, rfl, rfl⟩ ?_
        refine L.move rfl rfl rfl ⟨_, rfl, rfl⟩ ?_
        refine L.callV rfl rfl rfl (fun D2 hD2 => near_ok _ y f b x z _ ⟨_, _, rfl, hc.up RCh.up (hD2 _ (by simp)), hq.up R2.up (hD2 _ (by simp))⟩ hyo.fit hx hz (hyo.size _ (List.mem_of_getElem? hx)) (hyo.size _ (List.mem_of_getElem? hz))) rfl ⟨_, rfl, rfl⟩ ?_
        refine L.pickT rfl rfl rfl rfl trivial ?_
        exact L.nil fun a w hh => hh.cutK 4 rfl
      · refine L.pass rfl rfl rfl ⟨_, _, rfl, rfl, rfl⟩ ?_
        refine L.pass rfl rfl rfl ⟨_, _, rfl, rfl, rfl⟩ ?_
        refine L.pass rfl rfl rfl ⟨_, _, rfl, rfl, rfl⟩ ?_
        refine L.pass rfl rfl rfl ⟨_, _, rfl, rfl, rfl⟩ ?_
        refine L.pickF rfl rfl rfl rfl trivial ?_
        exact L.nil fun a w hh => hh.cutK 4 rfl
      refine L.nil ?_
      refine C.next ?_
      refine C.cond rfl (fun hc4 => ?_) (fun hc4 => ?_)
      · have hsel : (!w.testBit b && nearB y f b) = true := add_sel hx hz hc4
        refine C.drawS (But.mk [bF]) 4 [false,true,true,true,true,true,true,true,true,true,true,true,true,true,false] [.fork [0,1,3,4,5,8,9,10,11,12,13] 2 (.fin [6]) 6 (.fin [2]), .fin [7,14]] Tf.follows (fun _ _ _ h => np_bodyMany (P := Try.prog) (fn := Try.f89) _ _ _ h) (by kernel_rfl) ?_
        refine S.cons ?_
        refine L.planFork [(false,0),(true,1),(true,3),(true,4),(true,5),(true,8),(true,9),(true,10),(true,11),(true,12),(true,13)] rfl ?_
        refine L.loadD1 rfl (k := 0) Tf.a142 rfl hF (by simp) rfl (But.out (by simp)) rfl trivial ?_
        refine L.move rfl rfl rfl trivial ?_
        refine L.move rfl rfl rfl trivial ?_
        refine L.move rfl rfl rfl trivial ?_
        refine L.build (cs := [.int .i64 (f : Int), .int .i64 (b : Int)]) rfl Tf.p111 Tf.z111 rfl rfl rfl trivial ?_
        refine L.move rfl rfl rfl trivial ?_
        refine L.add rfl rfl rfl (by simp only [inK]; omega) rfl trivial ?_
        refine L.move rfl rfl rfl trivial ?_
        refine L.move rfl rfl rfl trivial ?_
        refine L.shl1 rfl rfl rfl (by first | omega | (simp only; omega)) rfl trivial ?_
        refine L.orB rfl rfl rfl (by first | omega | (simp only; omega)) (by first | omega | (simp only; omega)) rfl trivial ?_
        refine L.nil (L.forkP true true rfl rfl ?_ ?_)
        · refine L.callO rfl rfl rfl (fun D7 hD7 => CloneP_ok _ l _ (hl.up R2.up (hD7 _ (by simp))) (by omega)) rfl trivial (fun v6 D8 ν6 hD8 ha6 => ?_)
          refine L.nil ?_
          refine L.planFin [(true,6)] rfl ?_
          refine L.buildSlice rfl Try.underlying30 Tf.s111 Tf.z111 rfl rfl rfl rfl (.cons rfl rfl .nil) rfl trivial (fun b901 D901 hD901 hA901 => ?_)
          have hAp := hA901
          refine L.nil ?_
          refine S.fin [(true,7),(false,14)] rfl ?_
          refine L.apart hF (by simp) (fun hap => ?_)
          refine L.append (A := []) (B := [(_, _), (_, _)]) rfl Try.underlying30 rfl rfl Tf.s111 Tf.z111 rfl Tf.i111 rfl rfl rfl ha6 (Src.lit hAp) (by simp) rfl (prC_length l) (by simp [cell1]) (by omega) (Or.inr (fun p hp => But.in_ (by rw [List.mem_singleton]; rintro rfl; exact hap (List.mem_map.2 ⟨p, List.mem_append_left _ hp, rfl⟩)))) rfl trivial (fun v7 ν7 ha7 => ?_)
          have ha7' : Acc 111 2 v7 (l.length + 1) (prC (l ++ [((f : Int), (b : Int))])) ν7 := by rw [prC_snoc]; simpa using ha7
          refine L.freezeM (A := []) (B := [(_, _), (_, _)]) ha7' (fun k hk => hk) (fun D20 hD20 hF20 => ?_)
          have hl7 := hF20.prs (by simp) (by omega)
          refine L.callM (A := []) (ν := [(_, _), (_, _)]) (B := []) rfl rfl rfl rfl (Or.inl rfl) unf_cc (fun D9 hD9 => ih k (by omega) (f + 1) (by omega) (w ||| 2 ^ b) (l ++ [((f : Int), (b : Int))]) v7 (upB y scs k f w l best many b).1 (upB y scs k f w l best many b).2 pv2 D9 (or_lt7 hw hpb) (prOk_snoc hp (by omega) (by omega)) (by simp; omega) (hl7.up R2.up (hD9 _ (by simp))) (hpv2.up R2.up (hD9 _ (by simp))) (hc.up RCh.up (hD9 _ (by simp))) (hq.up R2.up (hD9 _ (by simp))) (hY.up (hD9 _ (by simp))) (hV.up (hD9 _ (by simp))) (hS.up RSc.up (hD9 _ (by simp))) (hF.up (hD9 _ (by simp)))) rfl trivial (fun v9 D10 _ hD10 hp9 => ?_)
          obtain ⟨pv3, rfl, hpv3⟩ := hp9
          refine L.nil ?_
          refine S.nil ?_
          refine C.blockEnd ?_
          refine C.next ?_
          refine C.region [(false,0),(false,1),(false,2)] rfl ?_
          refine L.move rfl rfl rfl trivial ?_
          refine L.add rfl rfl rfl (by simp only [inK]; omega) rfl trivial ?_
          refine L.assign rfl rfl rfl trivial ?_
          refine L.nil ?_
          exact C.againR 33 (b + 1, pv3, D10) ⟨by simp only; omega, by simp only; rw [upB_yes hb1 hbit hsel]; exact hpv3⟩ (by simp only; omega) ⟨(by first | rfl | (show some (Value.int _ _) = some (Value.int _ _); congr 2; omega)), trivial⟩ rfl rfl ((by rw [upB_yes hb1 hbit hsel]; exact List.Sublist.refl _)) (fun D0 h => by simp only [List.mem_cons, List.not_mem_nil, or_false] at h; rcases h with h | h; exact ⟨D10, by simp, h ▸ Le.refl _⟩; exact ⟨D, by simp, h ▸ Le.refl _⟩)
        · refine L.buildSlice rfl Try.underlying30 Tf.s111 Tf.z111 rfl rfl rfl rfl (.cons rfl rfl .nil) rfl trivial (fun b901 D901 hD901 hA901 => ?_)
          have hAp := hA901
          refine L.nil ?_
          refine L.planFin [(true,2)] rfl ?_
          refine L.callO rfl rfl rfl (fun D7 hD7 => CloneP_ok _ l _ (hl.up R2.up (hD7 _ (by simp))) (by omega)) rfl trivial (fun v6 D8 ν6 hD8 ha6 => ?_)
          refine L.nil ?_
          refine S.fin [(true,7),(false,14)] rfl ?_
          refine L.apart hF (by simp) (fun hap => ?_)
          refine L.append (A := []) (B := [(_, _), (_, _)]) rfl Try.underlying30 rfl rfl Tf.s111 Tf.z111 rfl Tf.i111 rfl rfl rfl ha6 (Src.lit hAp) (by simp) rfl (prC_length l) (by simp [cell1]) (by omega) (Or.inr (fun p hp => But.in_ (by rw [List.mem_singleton]; rintro rfl; exact hap (List.mem_map.2 ⟨p, List.mem_append_left _ hp, rfl⟩)))) rfl trivial (fun v7 ν7 ha7 => ?_)
          have ha7' : Acc 111 2 v7 (l.length + 1) (prC (l ++ [((f : Int), (b : Int))])) ν7 := by rw [prC_snoc]; simpa using ha7
          refine L.freezeM (A := []) (B := [(_, _), (_, _)]) ha7' (fun k hk => hk) (fun D20 hD20 hF20 => ?_)
          have hl7 := hF20.prs (by simp) (by omega)
          refine L.callM (A := []) (ν := [(_, _), (_, _)]) (B := []) rfl rfl rfl rfl (Or.inl rfl) unf_cc (fun D9 hD9 => ih k (by omega) (f + 1) (by omega) (w ||| 2 ^ b) (l ++ [((f : Int), (b : Int))]) v7 (upB y scs k f w l best many b).1 (upB y scs k f w l best many b).2 pv2 D9 (or_lt7 hw hpb) (prOk_snoc hp (by omega) (by omega)) (by simp; omega) (hl7.up R2.up (hD9 _ (by simp))) (hpv2.up R2.up (hD9 _ (by simp))) (hc.up RCh.up (hD9 _ (by simp))) (hq.up R2.up (hD9 _ (by simp))) (hY.up (hD9 _ (by simp))) (hV.up (hD9 _ (by simp))) (hS.up RSc.up (hD9 _ (by simp))) (hF.up (hD9 _ (by simp)))) rfl trivial (fun v9 D10 _ hD10 hp9 => ?_)
          obtain ⟨pv3, rfl, hpv3⟩ := hp9
          refine L.nil ?_
          refine S.nil ?_
          refine C.blockEnd ?_
          refine C.next ?_
          refine C.region [(false,0),(false,1),(false,2)] rfl ?_
          refine L.move rfl rfl rfl trivial ?_
          refine L.add rfl rfl rfl (by simp only [inK]; omega) rfl trivial ?_
          refine L.assign rfl rfl rfl trivial ?_
          refine L.nil ?_
          exact C.againR 33 (b + 1, pv3, D10) ⟨by simp only; omega, by simp only; rw [upB_yes hb1 hbit hsel]; exact hpv3⟩ (by simp only; omega) ⟨(by first | rfl | (show some (Value.int _ _) = some (Value.int _ _); congr 2; omega)), trivial⟩ rfl rfl ((by rw [upB_yes hb1 hbit hsel]; exact List.Sublist.refl _)) (fun D0 h => by simp only [List.mem_cons, List.not_mem_nil, or_false] at h; rcases h with h | h; exact ⟨D10, by simp, h ▸ Le.refl _⟩; exact ⟨D, by simp, h ▸ Le.refl _⟩)
      · have hsel : (!w.testBit b && nearB y f b) = false := add_sel hx hz hc4
        refine C.skip ?_
        refine C.blockEnd ?_
        refine C.next ?_
        refine C.region [(false,0),(false,1),(false,2)] rfl ?_
        refine L.move rfl rfl rfl trivial ?_
        refine L.add rfl rfl rfl (by simp only [inK]; omega) rfl trivial ?_
        refine L.assign rfl rfl rfl trivial ?_
        refine L.nil ?_
        exact C.againR 18 (b + 1, pv2, Dn) ⟨by simp only; omega, by simp only; rw [upB_no hsel]; exact hpv2⟩ (by simp only; omega) ⟨(by first | rfl | (show some (Value.int _ _) = some (Value.int _ _); congr 2; omega)), trivial⟩ rfl rfl ((by rw [upB_no hsel]; exact List.Sublist.refl _)) (fun D0 h => by simp only [List.mem_cons, List.not_mem_nil, or_false] at h; rcases h with h | h; exact ⟨Dn, by simp, h ▸ Le.refl _⟩; exact ⟨D, by simp, h ▸ Le.refl _⟩)
    · simp only at hc3
      refine C.exit ?_
      refine C.thenExit ?_
      refine C.thenExit ?_
      refine C.blockExit ?_
      exact leaveMany (A := []) (ν' := [_, _]) (B := []) (vs := []) rfl rfl rfl trivial rfl (fun D' hD => ⟨pv2, by rw [upB_end h1 hc3], by rw [upB_end h1 hc3]; exact hpv2.up R2.up (hD _ (by simp))⟩)
end Go.Fs
