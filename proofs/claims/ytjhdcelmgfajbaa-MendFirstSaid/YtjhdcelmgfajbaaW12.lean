/- Walks: ProvePairs, Berge, ProveBerge, Bounds. -/
import Derived.Test.YtjhdcelmgfajbaaW11
namespace Go.Fs
open Go.Proofs
open C7
theorem ones_all : ((List.range 128).all fun s => (List.range 7).all fun x => (List.range 7).all fun z => (x == z) || s.testBit x || s.testBit z || (onesB (s ||| (2 ^ x ||| 2 ^ z)) == onesB s + 2)) = true := by decide +kernel
theorem ones_add (s : Nat) (hs : s < 128) (x : Nat) (hx : x < 7) (z : Nat) (hz : z < 7) (hne : x ≠ z) (h1 : s.testBit x = false) (h2 : s.testBit z = false) : onesB (s ||| (2 ^ x ||| 2 ^ z)) = onesB s + 2 := by
  have := List.all_eq_true.1 (List.all_eq_true.1 (List.all_eq_true.1 ones_all s (List.mem_range.2 hs)) x (List.mem_range.2 hx)) z (List.mem_range.2 hz)
  simpa [hne, h1, h2] using this
theorem prS_bits {s x z : Nat} (h : decide ((((s >>> x) ||| (s >>> z) : Nat) : Int) % 2 = 1) = false) : s.testBit x = false ∧ s.testBit z = false := by
  rw [decide_eq_false_iff_not] at h
  have key : ((s >>> x) ||| (s >>> z)).testBit 0 = false := by
    rw [Nat.testBit_zero, decide_eq_false_iff_not]; omega
  rw [Nat.testBit_or, Nat.testBit_shiftRight, Nat.testBit_shiftRight, Bool.or_eq_false_iff] at key
  simpa using key
theorem prB_ok {n : Nat} {l : List (Int × Int)} (hn : n ≤ 7) (h : (prB n l).isSome = true) : PrOk l ∧ l.length ≤ 3 := by
  have key : ∀ k, k ≤ l.length → ∃ s, prB n (l.take k) = some s ∧ s < 128 ∧ onesB s = 2 * k ∧ PrOk (l.take k) := by
    intro k
    induction k with
    | zero => intro _; exact ⟨0, rfl, by omega, by decide, by simp [PrOk]⟩
    | succ k ih =>
      intro hk
      obtain ⟨s, h1, h2, h3, h4⟩ := ih (by omega)
      obtain ⟨⟨a, b⟩, hp⟩ : ∃ p, l[k]? = some p := ⟨_, List.getElem?_eq_getElem hk⟩
      cases hc : ((!inB a 0 ((n : Int) - 1) || !inB b (a + 1) ((n : Int) - 1)) || decide ((((s >>> a.toNat) ||| (s >>> b.toNat) : Nat) : Int) % 2 = 1)) with
      | true => rw [prB_no hp h1 hn h2 hc] at h; cases h
      | false =>
        have hc' := Bool.or_eq_false_iff.1 hc
        obtain ⟨i1, i2, i3, i4⟩ := prB_in hc'.1
        obtain ⟨x, z, rfl, rfl, hx, hz, hst, hlt⟩ := prS_yes hn h2 hc
        simp only [Int.toNat_natCast] at hc'
        obtain ⟨b1, b2⟩ := prS_bits hc'.2
        refine ⟨_, by rw [prB_snoc hp, h1]; exact hst, hlt, by rw [ones_add s h2 x hx z hz (by omega) b1 b2]; omega, fun p hpm => ?_⟩
        rw [List.take_add_one, hp, Option.toList_some] at hpm
        rcases List.mem_append.1 hpm with hpm | hpm
        · exact h4 p hpm
        · simp only [List.mem_singleton] at hpm; exact ⟨x, z, hpm, hx, hz⟩
  obtain ⟨s, _, _, h3, h4⟩ := key l.length (Nat.le_refl _)
  rw [List.take_length] at h4
  exact ⟨h4, by have := onesB_le s; omega⟩
def provePairsV (y : YardD) (t : List Pt) (l : List (Int × Int)) (many : Int) : Bool := if (playV y t).2 = 0 then (prB y.chairs.length l).isSome && decide ((makesN (sceneD y t) l : Int) ≥ many) else false
def bergeP (s : Sc) (most : Int) (b : Nat) : Bool := decide (((dif b s.broken : Nat) : Int) = 0) && decide ((boundB s b : Int) = most)
def bergeB (y : YardD) (t : List Pt) : Nat := ((List.range (2 ^ y.chairs.length)).find? (bergeP (sceneD y t) (playV y t).1)).getD 0
/-- What Berge returns. -/
def bergeV (y : YardD) (t : List Pt) : List Int × Int × Int := if (playV y t).2 = 0 then (bitsL (bergeB y t), (playV y t).1, 0) else ([], 0, (playV y t).2)
theorem find_none {p : Nat → Bool} {n : Nat} (h : ∀ j, j < n → p j = false) : (List.range n).find? p = none := by
  rw [List.find?_eq_none]
  intro x hx e
  rw [h x (List.mem_range.1 hx)] at e; cases e
theorem berge_no {y : YardD} {t : List Pt} {D : Data} (h : (playV y t).2 ≠ 0) : ∃ lv, Value.tuple #[.slice none 0 0, .int .i64 0, .int .i64 (playV y t).2] = .tuple #[lv, .int .i64 (bergeV y t).2.1, .int .i64 (bergeV y t).2.2] ∧ Sl D RI 1 lv (bergeV y t).1 := by
  rw [bergeV, if_neg h]; exact ⟨_, rfl, Sl.nil⟩
theorem berge_ret {y : YardD} {t : List Pt} {D : Data} {lv : Value} (h : (playV y t).2 = 0) (hS : Sl D RI 1 lv (bitsL (bergeB y t))) : ∃ lv', Value.tuple #[lv, .int .i64 (playV y t).1, .int .i64 0] = .tuple #[lv', .int .i64 (bergeV y t).2.1, .int .i64 (bergeV y t).2.2] ∧ Sl D RI 1 lv' (bergeV y t).1 := by
  rw [bergeV, if_pos h]; exact ⟨_, rfl, hS⟩
def prfS (n broken : Nat) : Option (Nat × Int) → Int → Option (Nat × Int)
  | some (b, la), i => if (!inB i (la + 1) ((n : Int) - 1) || decide (((broken >>> i.toNat : Nat) : Int) % 2 = 0)) = true then none else some (b ||| 2 ^ i.toNat, i)
  | none, _ => none
def prf (n broken : Nat) (l : List Int) : Option (Nat × Int) := l.foldl (prfS n broken) (some (0, -1))
def proveBergeV (y : YardD) (t : List Pt) (l : List Int) (many : Int) : Bool := if (playV y t).2 = 0 then (match prf y.chairs.length (sceneD y t).broken l with | some (b, _) => decide ((boundB (sceneD y t) b : Int) ≤ many) | none => false) else false
theorem prf_snoc {n br k : Nat} {l : List Int} {i : Int} (h : l[k]? = some i) : prf n br (l.take (k + 1)) = prfS n br (prf n br (l.take k)) i := by
  unfold prf; rw [List.take_add_one, h, Option.toList_some, List.foldl_append]; rfl
theorem prf_none {n br : Nat} : ∀ l : List Int, l.foldl (prfS n br) none = none
  | [] => rfl
  | _ :: l => prf_none l
theorem prB_in2 {n i la : Int} (h : (!inB i la n) = false) : la ≤ i ∧ i ≤ n := by
  simp only [Bool.not_eq_false'] at h; exact inB_iff.1 h
theorem prf_yes {n br b : Nat} {la i : Int} (hn : n ≤ 7) (hb : b < 128) (hl : -1 ≤ la) (h : (!inB i (la + 1) ((n : Int) - 1) || decide (((br >>> i.toNat : Nat) : Int) % 2 = 0)) = false) : ∃ x : Nat, i = x ∧ x < 7 ∧ prfS n br (some (b, la)) (x : Int) = some (b ||| 2 ^ x, (x : Int)) ∧ b ||| 2 ^ x < 128 := by
  have h' := Bool.or_eq_false_iff.1 h
  obtain ⟨h1, h2⟩ := prB_in2 h'.1
  obtain ⟨x, rfl⟩ := Int.eq_ofNat_of_zero_le (show 0 ≤ i by omega)
  refine ⟨x, rfl, by omega, ?_, or_lt7 hb (pow_lt7 (by omega))⟩
  show (if _ then none else _) = _
  rw [if_neg (by rw [h]; simp)]; rfl
theorem prf_no {n br b k : Nat} {l : List Int} {la i : Int} (hp : l[k]? = some i) (h5 : prf n br (l.take k) = some (b, la)) (h : (!inB i (la + 1) ((n : Int) - 1) || decide (((br >>> i.toNat : Nat) : Int) % 2 = 0)) = true) : prf n br l = none := by
  have e : prf n br (l.take (k + 1)) = none := by
    rw [prf_snoc hp, h5]; show (if _ then none else _) = _; rw [if_pos h]
  rw [← List.take_append_drop (k + 1) l]
  unfold prf at e ⊢
  rw [List.foldl_append, e]; exact prf_none _
/-- What Bounds returns. -/
def boundsV (y : YardD) : (Int × Int) × Int := if fault y ≠ 0 then ((0, 0), fault y) else match (scenesD y []).map fun p => (p.2 : Int) with
  | [] => ((0, 0), 11)
  | m :: l => ((m :: l).foldl (fun r n => (min r.1 n, max r.2 n)) (m, m), 0)
theorem bounds_nil {y : YardD} (h : fault y = 0) (hn : scenesD y [] = []) : Value.tuple #[.agg #[.int .i64 0, .int .i64 0], .int .i64 11] = .tuple #[k2V (boundsV y).1, .int .i64 (boundsV y).2] := by
  rw [boundsV, if_neg (by omega), hn]; rfl
theorem bounds_some {y : YardD} {L : List Int} {m0 : Int} (h : fault y = 0) (hL : ((scenesD y []).map fun p => (p.2 : Int)) = L) (hm : L[0]? = some m0) : Value.tuple #[.agg #[.int .i64 (L.foldl (fun r n => (min r.1 n, max r.2 n)) (m0, m0)).1, .int .i64 (L.foldl (fun r n => (min r.1 n, max r.2 n)) (m0, m0)).2], .int .i64 0] = .tuple #[k2V (boundsV y).1, .int .i64 (boundsV y).2] := by
  rw [boundsV, if_neg (by omega), hL]
  cases L with
  | nil => simp at hm
  | cons m l => obtain rfl : m = m0 := by simpa using hm
                rfl
theorem bnd_step {L : List Int} {k : Nat} {n m0 : Int} (h : L[k]? = some n) : (L.take (k + 1)).foldl (fun r n => (min r.1 n, max r.2 n)) (m0, m0) = (min ((L.take k).foldl (fun r n => (min r.1 n, max r.2 n)) (m0, m0)).1 n, max ((L.take k).foldl (fun r n => (min r.1 n, max r.2 n)) (m0, m0)).2 n) := by
  rw [List.take_add_one, h, Option.toList_some, List.foldl_append]; rfl
theorem ProvePairs_ok (yv tv lv : Value) (y : YardD) (t : List Pt) (l : List (Int × Int)) (many : Int) (D : Data) (hy : YardIs D yv y) (ht : Sl D RP 3 tv t) (hl : Sl D R2 2 lv l) : Fn Try.prog 25 #[yv, tv, lv, .int .i64 many] D (fun _ v => v = .bool (provePairsV y t l many)) := by
  have hy0 := hy
  obtain ⟨cv, qv, rfl, hc, hq⟩ := hy
  refine enter 31 Try.func25 rfl rfl rfl rfl fun h0 => ?_
  refine C.seq ?_
  refine C.region [(false,0),(false,1)] rfl ?_
  refine L.boxD rfl rfl rfl rfl trivial (fun q1 E1 hE1 hB1 => ?_)
  refine L.assign rfl rfl rfl trivial ?_
  refine L.nil ?_
  refine C.next ?_
  refine C.seq ?_
  refine C.seq ?_
  refine C.region [(false,0),(false,1),(false,2),(false,3),(false,4),(false,5),(false,6),(false,7)] rfl ?_
  refine L.loadDW rfl Tf.a37 rfl hB1 (by first | simp | assumption) Tf.s37 List.not_mem_nil rfl trivial ?_
  refine L.move rfl rfl rfl trivial ?_
  refine L.callV rfl rfl rfl (fun D1 hD1 => Play_ok _ _ y t _ (hy0.up (hD1 _ (by simp))) (ht.up RP.up (hD1 _ (by simp)))) rfl trivial ?_
  refine L.move rfl rfl rfl trivial ?_
  refine L.extract rfl rfl rfl rfl trivial ?_
  refine L.extract rfl rfl rfl rfl trivial ?_
  refine L.assign rfl rfl rfl trivial ?_
  refine L.assign rfl rfl rfl trivial ?_
  refine L.nil ?_
  refine C.next ?_
  refine C.seq ?_
  refine C.region [(false,0),(false,1)] rfl ?_
  refine L.move rfl rfl rfl trivial ?_
  refine L.neq rfl rfl rfl rfl trivial ?_
  refine L.nil ?_
  refine C.next ?_
  refine C.condD rfl (fun hc1 => ?_) (fun hc1 => ?_)
  · refine C.seq ?_
    refine C.region [(false,0)] rfl ?_
    refine L.assign rfl rfl rfl trivial ?_
    refine L.nil ?_
    refine C.next ?_
    refine C.ret ?_
    refine C.thenRet ?_
    exact leave (vs := [_]) rfl rfl rfl ⟨rfl, trivial⟩ (fun D hD => by show Value.bool _ = _; rw [provePairsV, if_neg hc1])
  · obtain ⟨hf0, hit⟩ := play_ok (show (playV y t).2 = 0 by omega)
    have hyo := yOk hf0
    have hn7 := hyo.len
    obtain ⟨htl, htb⟩ := truthOk hit
    have hsc := scene_ok' htl (by omega)
    have hs9 := scI_len (sceneD y t) hsc.len
    have hbl := bits_lt hsc.bits hn7
    refine C.skip ?_
    refine C.next ?_
    refine C.seq ?_
    refine C.region [(false,0),(false,1),(false,2),(false,3),(false,4),(false,5),(false,6),(false,7),(false,8),(false,9),(false,10),(false,11),(false,12)] rfl ?_
    refine L.loadDW rfl Tf.a37 rfl hB1 (by first | simp | assumption) Tf.s37 List.not_mem_nil rfl trivial ?_
    refine L.move rfl rfl rfl trivial ?_
    refine L.callV rfl rfl rfl (fun D2 hD2 => paired_ok _ _ y l _ (hy0.up (hD2 _ (by simp))) (hl.up R2.up (hD2 _ (by simp))) hn7) rfl trivial ?_
    refine L.move rfl rfl rfl trivial ?_
    refine' L.and [(false,4),(false,5),(false,6),(false,7),(false,8),(false,9),(false,10),(false,11)] [(false,12)] (s := 22) (p := 30) rfl rfl (fun hg1 => ?_) (fun hg1 => ?_) ?_
    rotate_left
    · obtain ⟨hpo, hpl⟩ := prB_ok hn7 hg1
      refine L.loadDW rfl Tf.a37 rfl hB1 (by first | simp | assumption) Tf.s37 List.not_mem_nil rfl ⟨_, rfl, rfl⟩ ?_
      refine L.move rfl rfl rfl ⟨_, rfl, rfl⟩ ?_
      refine L.callV rfl rfl rfl (fun D3 hD3 => scene2_ok _ _ y t _ (hy0.up (hD3 _ (by simp))) (ht.up RP.up (hD3 _ (by simp))) htl (by omega) htb hyo.fit hyo.size) rfl ⟨_, rfl, rfl⟩ ?_
      refine L.move rfl rfl rfl ⟨_, rfl, rfl⟩ ?_
      refine L.callV rfl rfl rfl (fun D4 hD4 => makes_ok (sceneD y t) _ l hsc.row hsc.whole hpo (by omega) _ (hl.up R2.up (hD4 _ (by simp))) hsc.len) rfl ⟨_, rfl, rfl⟩ ?_
      refine L.move rfl rfl rfl ⟨_, rfl, rfl⟩ ?_
      refine L.geq rfl rfl rfl rfl ⟨_, rfl, rfl⟩ ?_
      refine L.pickT rfl rfl rfl rfl trivial ?_
      exact L.nil fun a w hh => hh.cutK 7 rfl
    · refine L.pass rfl rfl rfl ⟨_, _, rfl, rfl, rfl⟩ ?_
      refine L.pass rfl rfl rfl ⟨_, _, rfl, rfl, rfl⟩ ?_
      refine L.pass rfl rfl rfl ⟨_, _, rfl, rfl, rfl⟩ ?_
      refine L.pass rfl rfl rfl ⟨_, _, rfl, rfl, rfl⟩ ?_
      refine L.pass rfl rfl rfl ⟨_, _, rfl, rfl, rfl⟩ ?_
      refine L.pass rfl rfl rfl ⟨_, _, rfl, rfl, rfl⟩ ?_
      refine L.pass rfl rfl rfl ⟨_, _, rfl, rfl, rfl⟩ ?_
      refine L.pickF rfl rfl rfl rfl trivial ?_
      exact L.nil fun a w hh => hh.cutK 7 rfl
    refine L.assign rfl rfl rfl trivial ?_
    refine L.nil ?_
    refine C.next ?_
    refine C.ret ?_
    exact leave (vs := [_]) rfl rfl rfl ⟨rfl, trivial⟩ (fun D hD => by show Value.bool _ = _; rw [provePairsV, if_pos (by omega)])
theorem Berge_ok (yv tv : Value) (y : YardD) (t : List Pt) (D : Data) (hy : YardIs D yv y) (ht : Sl D RP 3 tv t) : Fn Try.prog 34 #[yv, tv] D (fun D' v => ∃ lv, v = .tuple #[lv, .int .i64 (bergeV y t).2.1, .int .i64 (bergeV y t).2.2] ∧ Sl D' RI 1 lv (bergeV y t).1) := by
  have hy0 := hy
  obtain ⟨cv, qv, rfl, hc, hq⟩ := hy
  have hcl := hc.len
  refine enter 47 Try.func34 rfl rfl rfl rfl fun h0 => ?_
  refine C.seq ?_
  refine C.region [(false,0),(false,1),(false,2),(false,3)] rfl ?_
  refine L.boxD rfl rfl rfl rfl trivial (fun q1 E1 hE1 hB1 => ?_)
  refine L.assign rfl rfl rfl trivial ?_
  refine L.assign rfl rfl rfl trivial ?_
  refine L.assign rfl rfl rfl trivial ?_
  refine L.nil ?_
  refine C.next ?_
  refine C.scope ?_
  refine C.seq ?_
  refine C.region [(false,0),(false,1),(false,2),(false,3),(false,4),(false,5),(false,6),(false,7)] rfl ?_
  refine L.loadDW rfl Tf.a37 rfl hB1 (by first | simp | assumption) Tf.s37 List.not_mem_nil rfl trivial ?_
  refine L.move rfl rfl rfl trivial ?_
  refine L.callV rfl rfl rfl (fun D1 hD1 => Play_ok _ _ y t _ (hy0.up (hD1 _ (by simp))) (ht.up RP.up (hD1 _ (by simp)))) rfl trivial ?_
  refine L.move rfl rfl rfl trivial ?_
  refine L.extract rfl rfl rfl rfl trivial ?_
  refine L.extract rfl rfl rfl rfl trivial ?_
  refine L.assign rfl rfl rfl trivial ?_
  refine L.assign rfl rfl rfl trivial ?_
  refine L.nil ?_
  refine C.next ?_
  refine C.seq ?_
  refine C.seq ?_
  refine C.region [(false,0),(false,1)] rfl ?_
  refine L.move rfl rfl rfl trivial ?_
  refine L.neq rfl rfl rfl rfl trivial ?_
  refine L.nil ?_
  refine C.next ?_
  refine C.condD rfl (fun hc1 => ?_) (fun hc1 => ?_)
  · refine C.seq ?_
    refine C.region [(false,0),(false,1),(false,2),(false,3)] rfl ?_
    refine L.move rfl rfl rfl trivial ?_
    refine L.assign rfl rfl rfl trivial ?_
    refine L.assign rfl rfl rfl trivial ?_
    refine L.assign rfl rfl rfl trivial ?_
    refine L.nil ?_
    refine C.next ?_
    refine C.ret ?_
    refine C.thenRet ?_
    refine C.scopeRet ?_
    exact leave (vs := [_, _, _]) rfl rfl rfl ⟨rfl, rfl, rfl, trivial⟩ (fun D hD => berge_no hc1)
  · obtain ⟨hf0, hit⟩ := play_ok (show (playV y t).2 = 0 by omega)
    have hyo := yOk hf0
    have hn7 := hyo.len
    obtain ⟨htl, htb⟩ := truthOk hit
    have hsc := scene_ok' htl (by omega)
    have hs9 := scI_len (sceneD y t) hsc.len
    have hbl := bits_lt hsc.bits hn7
    have hpn : 2 ^ y.chairs.length ≤ 2 ^ 7 := Nat.pow_le_pow_right (by omega) hn7
    refine C.skip ?_
    refine C.next ?_
    refine C.seq ?_
    refine C.region [(false,0),(false,1),(false,2),(false,3),(false,4)] rfl ?_
    refine L.loadDW rfl Tf.a37 rfl hB1 (by first | simp | assumption) Tf.s37 List.not_mem_nil rfl trivial ?_
    refine L.move rfl rfl rfl trivial ?_
    refine L.callV rfl rfl rfl (fun D2 hD2 => scene2_ok _ _ y t _ (hy0.up (hD2 _ (by simp))) (ht.up RP.up (hD2 _ (by simp))) htl (by omega) htb hyo.fit hyo.size) rfl trivial ?_
    refine L.alloc rfl Tf.z126 rfl rfl trivial (fun q2 => ?_)
    refine L.storeW rfl rfl rfl rfl Tf.s126 (by simpa using hs9) (by rfl) .head (ints_cell1 _) trivial ?_
    refine L.nil ?_
    refine C.next ?_
    refine C.seq ?_
    refine C.region [(false,0)] rfl ?_
    refine L.assign rfl rfl rfl trivial ?_
    refine L.nil ?_
    refine C.next ?_
    refine C.seq ?_
    refine C.label ?_
    refine C.next ?_
    refine C.seq ?_
    refine C.seq ?_
    refine C.region [(false,0),(false,1),(false,2),(false,3),(false,4)] rfl ?_
    refine L.fieldAddr rfl Tf.f37_0 rfl rfl trivial ?_
    refine L.loadD1 rfl (k := 0) Tf.a34 rfl hB1 (by first | simp | assumption) rfl List.not_mem_nil rfl trivial ?_
    refine L.len rfl Try.underlying34 rfl hc rfl rfl trivial ?_
    refine L.shl1 rfl rfl rfl (by omega) rfl trivial ?_
    refine L.move rfl rfl rfl trivial ?_
    refine L.nil ?_
    refine C.next ?_
    refine C.block ?_
    refine C.loopC (γ := Nat) (fun k => 2 ^ y.chairs.length - k) (fun k => k ≤ 2 ^ y.chairs.length ∧ ∀ j, j < k → bergeP (sceneD y t) (playV y t).1 j = false) (fun k => [(27, .int .i64 (k : Int))]) [(26, _), (9, _), (8, _), (6, _), (7, _), (5, _), (4, _)] (fun k => [E1, D]) 0 (by simp) ⟨(by first | rfl | (show some (Value.int _ _) = some (Value.int _ _); congr 2; omega)), trivial⟩ ⟨rfl, rfl, rfl, rfl, rfl, rfl, rfl, trivial⟩ (ds_same) ?_
    rintro k ⟨h1, h2⟩
    refine C.seq ?_
    refine C.region [(false,0)] rfl ?_
    refine L.lss rfl rfl rfl rfl trivial ?_
    refine L.nil ?_
    refine C.next ?_
    refine C.seq ?_
    refine C.condD rfl (fun hc2 => ?_) (fun hc2 => ?_)
    · have hk : k < 2 ^ y.chairs.length := by omega
      have hpr7 : k < 128 := by omega
      refine C.skip ?_
      refine C.next ?_
      refine C.seq ?_
      refine C.block ?_
      refine C.seq ?_
      refine C.region [(false,0),(false,1)] rfl ?_
      refine L.move rfl rfl rfl trivial ?_
      refine L.assign rfl rfl rfl trivial ?_
      refine L.nil ?_
      refine C.next ?_
      refine C.seq ?_
      refine C.region [(false,0),(false,1),(false,2),(false,3),(false,4),(false,5),(false,6),(false,7),(false,8),(false,9),(false,10),(false,11)] rfl ?_
      refine L.move rfl rfl rfl trivial ?_
      refine L.fieldAddr rfl Tf.f126_1 rfl rfl trivial ?_
      refine L.loadB1 rfl Tf.a3 rfl (List.Mem.head _) rfl List.not_mem_nil rfl trivial ?_
      refine L.difN rfl rfl rfl (by omega) (by omega) rfl trivial ?_
      refine L.eql rfl rfl rfl rfl trivial ?_
      refine L.move rfl rfl rfl trivial ?_
      refine' L.and [(false,6),(false,7),(false,8),(false,9),(false,10),(false,11)] [] (s := 35) (p := 41) rfl rfl (fun hg1 => ?_) (fun hg1 => ?_) ?_
      rotate_left
      · refine L.loadBW (vs := ints (scI (sceneD y t))) rfl Tf.a126 rfl (List.Mem.head _) (by rw [show (ints (scI (sceneD y t))).length = 9 by simpa using hs9]; exact Tf.s126) List.not_mem_nil rfl ⟨_, rfl, rfl⟩ ?_
        refine L.move rfl rfl rfl ⟨_, rfl, rfl⟩ ?_
        refine L.callV rfl rfl rfl (fun D3 hD3 => bound_ok (sceneD y t) k hsc.row hsc.whole hbl hpr7 _ hsc.len) rfl ⟨_, rfl, rfl⟩ ?_
        refine L.move rfl rfl rfl ⟨_, rfl, rfl⟩ ?_
        refine L.eql rfl rfl rfl rfl ⟨_, rfl, rfl⟩ ?_
        refine L.pickT rfl rfl rfl rfl trivial ?_
        exact L.nil fun a w hh => hh.cutK 5 rfl
      · refine L.pass rfl rfl rfl ⟨_, _, rfl, rfl, rfl⟩ ?_
        refine L.pass rfl rfl rfl ⟨_, _, rfl, rfl, rfl⟩ ?_
        refine L.pass rfl rfl rfl ⟨_, _, rfl, rfl, rfl⟩ ?_
        refine L.pass rfl rfl rfl ⟨_, _, rfl, rfl, rfl⟩ ?_
        refine L.pass rfl rfl rfl ⟨_, _, rfl, rfl, rfl⟩ ?_
        refine L.pickF rfl rfl rfl rfl trivial ?_
        exact L.nil fun a w hh => hh.cutK 5 rfl
      refine L.nil ?_
      refine C.next ?_
      refine C.cond rfl (fun hc3 => ?_) (fun hc3 => ?_)
      · have hfd := find_range hk hc3 h2
        have hfl := hpr7
        refine C.seq ?_
        refine C.region [(false,0),(false,1)] rfl ?_
        refine L.move rfl rfl rfl trivial ?_
        refine L.assign rfl rfl rfl trivial ?_
        refine L.nil ?_
        refine C.next ?_
        refine C.exit ?_
        refine C.blockPass rfl ?_
        refine C.thenExit ?_
        refine C.thenExit ?_
        refine C.blockExit ?_
        refine C.next ?_
        refine C.seq ?_
        refine C.region [(false,0),(false,1),(false,2),(false,3),(false,4),(false,5)] rfl ?_
        refine L.move rfl rfl rfl trivial ?_
        refine L.call rfl rfl rfl (fun D4 hD4 => chairs_ok _ D4 hfl) rfl trivial (fun v4 D4 hD4 hp4 => ?_)
        have hpS := hp4
        refine L.move rfl rfl rfl trivial ?_
        refine L.assign rfl rfl rfl trivial ?_
        refine L.assign rfl rfl rfl trivial ?_
        refine L.assign rfl rfl rfl trivial ?_
        refine L.nil ?_
        refine C.next ?_
        refine C.ret ?_
        refine C.scopeRet ?_
        exact leave (vs := [_, _, _]) rfl rfl rfl ⟨rfl, rfl, rfl, trivial⟩ (fun D hD => berge_ret (by omega) (by rw [bergeB, hfd]; exact hpS.up RI.up (hD _ (by simp))))
      · refine C.skip ?_
        refine C.blockEnd ?_
        refine C.next ?_
        refine C.region [(false,0),(false,1)] rfl ?_
        refine L.add rfl rfl rfl (by simp only [inK]; omega) rfl trivial ?_
        refine L.move rfl rfl rfl trivial ?_
        refine L.nil ?_
        exact C.againR 13 (k + 1) ⟨by omega, fun j hj => by rcases Nat.lt_succ_iff_lt_or_eq.1 hj with h | rfl; exact h2 j h; exact hc3⟩ (by omega) ⟨(by first | rfl | (show some (Value.int _ _) = some (Value.int _ _); congr 2; omega)), trivial⟩ rfl rfl (List.Sublist.refl _) (ds_same)
    · obtain rfl : k = 2 ^ y.chairs.length := by omega
      have hfd := find_none h2
      have hfl : 0 < 128 := by omega
      refine C.exit ?_
      refine C.thenExit ?_
      refine C.thenExit ?_
      refine C.blockExit ?_
      refine C.next ?_
      refine C.seq ?_
      refine C.region [(false,0),(false,1),(false,2),(false,3),(false,4),(false,5)] rfl ?_
      refine L.move rfl rfl rfl trivial ?_
      refine L.call rfl rfl rfl (fun D5 hD5 => chairs_ok _ D5 hfl) rfl trivial (fun v5 D5 hD5 hp5 => ?_)
      have hpS := hp5
      refine L.move rfl rfl rfl trivial ?_
      refine L.assign rfl rfl rfl trivial ?_
      refine L.assign rfl rfl rfl trivial ?_
      refine L.assign rfl rfl rfl trivial ?_
      refine L.nil ?_
      refine C.next ?_
      refine C.ret ?_
      refine C.scopeRet ?_
      exact leave (vs := [_, _, _]) rfl rfl rfl ⟨rfl, rfl, rfl, trivial⟩ (fun D hD => berge_ret (by omega) (by rw [bergeB, hfd]; exact hpS.up RI.up (hD _ (by simp))))
theorem ProveBerge_ok (yv tv lv : Value) (y : YardD) (t : List Pt) (l : List Int) (many : Int) (D : Data) (hy : YardIs D yv y) (ht : Sl D RP 3 tv t) (hl : Sl D RI 1 lv l) : Fn Try.prog 35 #[yv, tv, lv, .int .i64 many] D (fun _ v => v = .bool (proveBergeV y t l many)) := by
  have hy0 := hy
  obtain ⟨cv, qv, rfl, hc, hq⟩ := hy
  have hcl := hc.len
  have hll := hl.len
  refine enter 61 Try.func35 rfl rfl rfl rfl fun h0 => ?_
  refine C.seq ?_
  refine C.region [(false,0),(false,1)] rfl ?_
  refine L.boxD rfl rfl rfl rfl trivial (fun q1 E1 hE1 hB1 => ?_)
  refine L.assign rfl rfl rfl trivial ?_
  refine L.nil ?_
  refine C.next ?_
  refine C.seq ?_
  refine C.seq ?_
  refine C.region [(false,0),(false,1),(false,2),(false,3),(false,4),(false,5),(false,6),(false,7)] rfl ?_
  refine L.loadDW rfl Tf.a37 rfl hB1 (by first | simp | assumption) Tf.s37 List.not_mem_nil rfl trivial ?_
  refine L.move rfl rfl rfl trivial ?_
  refine L.callV rfl rfl rfl (fun D1 hD1 => Play_ok _ _ y t _ (hy0.up (hD1 _ (by simp))) (ht.up RP.up (hD1 _ (by simp)))) rfl trivial ?_
  refine L.move rfl rfl rfl trivial ?_
  refine L.extract rfl rfl rfl rfl trivial ?_
  refine L.extract rfl rfl rfl rfl trivial ?_
  refine L.assign rfl rfl rfl trivial ?_
  refine L.assign rfl rfl rfl trivial ?_
  refine L.nil ?_
  refine C.next ?_
  refine C.seq ?_
  refine C.region [(false,0),(false,1)] rfl ?_
  refine L.move rfl rfl rfl trivial ?_
  refine L.neq rfl rfl rfl rfl trivial ?_
  refine L.nil ?_
  refine C.next ?_
  refine C.condD rfl (fun hc1 => ?_) (fun hc1 => ?_)
  · refine C.seq ?_
    refine C.region [(false,0)] rfl ?_
    refine L.assign rfl rfl rfl trivial ?_
    refine L.nil ?_
    refine C.next ?_
    refine C.ret ?_
    refine C.thenRet ?_
    exact leave (vs := [_]) rfl rfl rfl ⟨rfl, trivial⟩ (fun D hD => by show Value.bool _ = _; rw [proveBergeV, if_neg hc1])
  · obtain ⟨hf0, hit⟩ := play_ok (show (playV y t).2 = 0 by omega)
    have hyo := yOk hf0
    have hn7 := hyo.len
    obtain ⟨htl, htb⟩ := truthOk hit
    have hsc := scene_ok' htl (by omega)
    have hs9 := scI_len (sceneD y t) hsc.len
    have hbl := bits_lt hsc.bits hn7
    refine C.skip ?_
    refine C.next ?_
    refine C.seq ?_
    refine C.region [(false,0),(false,1),(false,2),(false,3),(false,4)] rfl ?_
    refine L.loadDW rfl Tf.a37 rfl hB1 (by first | simp | assumption) Tf.s37 List.not_mem_nil rfl trivial ?_
    refine L.move rfl rfl rfl trivial ?_
    refine L.callV rfl rfl rfl (fun D2 hD2 => scene2_ok _ _ y t _ (hy0.up (hD2 _ (by simp))) (ht.up RP.up (hD2 _ (by simp))) htl (by omega) htb hyo.fit hyo.size) rfl trivial ?_
    refine L.alloc rfl Tf.z126 rfl rfl trivial (fun q2 => ?_)
    refine L.storeW rfl rfl rfl rfl Tf.s126 (by simpa using hs9) (by rfl) .head (ints_cell1 _) trivial ?_
    refine L.nil ?_
    refine C.next ?_
    refine C.seq ?_
    refine C.region [(false,0),(false,1)] rfl ?_
    refine L.assign rfl rfl rfl trivial ?_
    refine L.assign rfl rfl rfl trivial ?_
    refine L.nil ?_
    refine C.next ?_
    refine C.seq ?_
    refine C.seq ?_
    refine C.region [(false,0),(false,1),(false,2)] rfl ?_
    refine L.move rfl rfl rfl trivial ?_
    refine L.len rfl Try.underlying52 rfl hl rfl rfl trivial ?_
    refine L.move rfl rfl rfl trivial ?_
    refine L.nil ?_
    refine C.next ?_
    refine C.block ?_
    refine C.loopC (γ := Nat × Nat × Int) (fun g => l.length - g.1) (fun g => g.1 ≤ l.length ∧ g.2.1 < 128 ∧ -1 ≤ g.2.2 ∧ g.2.2 ≤ 7 ∧ prf y.chairs.length (sceneD y t).broken (l.take g.1) = some g.2) (fun g => [(29, .int .i64 (g.1 : Int)), (12, .int .i64 (g.2.1 : Int)), (13, .int .i64 g.2.2)]) [(28, _), (27, _), (11, _), (8, _), (4, _), (3, _)] (fun g => [E1, D]) (0, 0, -1) ⟨by simp, by simp, by simp, by simp, rfl⟩ ⟨(by first | rfl | (show some (Value.int _ _) = some (Value.int _ _); congr 2; omega)), (by first | rfl | (show some (Value.int _ _) = some (Value.int _ _); congr 2; omega)), (by first | rfl | (show some (Value.int _ _) = some (Value.int _ _); congr 2; omega)), trivial⟩ ⟨rfl, rfl, rfl, rfl, rfl, rfl, trivial⟩ (ds_same) ?_
    rintro ⟨k, bt, la⟩ ⟨h1, hpr7, h3, h4, h5⟩
    simp only at h1 hpr7 h3 h4 h5
    refine C.seq ?_
    refine C.region [(false,0)] rfl ?_
    refine L.lss rfl rfl rfl rfl trivial ?_
    refine L.nil ?_
    refine C.next ?_
    refine C.seq ?_
    refine C.condD rfl (fun hc2 => ?_) (fun hc2 => ?_)
    · have hk : k < l.length := by omega
      obtain ⟨i, hi0⟩ : ∃ i, l[k]? = some i := ⟨_, List.getElem?_eq_getElem hk⟩
      refine C.skip ?_
      refine C.next ?_
      refine C.seq ?_
      refine C.block ?_
      refine C.seq ?_
      refine C.region [(false,0),(false,1),(false,2)] rfl ?_
      refine L.indexS rfl Try.underlying52 Tf.s3 rfl hl rfl (by omega) hi0 rfl trivial (fun b1 o1 cs1 hr1 hcl1 hA1 => ?_)
      obtain rfl : cs1 = [.int .i64 _] := hr1
      refine L.loadD1 rfl (k := 0) Tf.a3 rfl hA1 (by first | simp | assumption) rfl List.not_mem_nil rfl trivial ?_
      refine L.assign rfl rfl rfl trivial ?_
      refine L.nil ?_
      refine C.next ?_
      refine C.seq ?_
      refine C.seq ?_
      refine C.region [(false,0),(false,1),(false,2),(false,3),(false,4),(false,5),(false,6),(false,7),(false,8),(false,9),(false,10),(false,11),(false,12),(false,13),(false,14),(false,15),(false,16)] rfl ?_
      refine L.move rfl rfl rfl trivial ?_
      refine L.move rfl rfl rfl trivial ?_
      refine L.add rfl rfl rfl (by simp only [inK]; omega) rfl trivial ?_
      refine L.fieldAddr rfl Tf.f37_0 rfl rfl trivial ?_
      refine L.loadD1 rfl (k := 0) Tf.a34 rfl hB1 (by first | simp | assumption) rfl List.not_mem_nil rfl trivial ?_
      refine L.len rfl Try.underlying34 rfl hc rfl rfl trivial ?_
      refine L.sub rfl rfl rfl (by simp only [inK]; omega) rfl trivial ?_
      refine L.callV rfl rfl rfl (fun D3 hD3 => within_ok _ _ _ _) rfl trivial ?_
      refine L.not rfl rfl rfl trivial ?_
      refine L.move rfl rfl rfl trivial ?_
      refine' L.or [(false,10),(false,11),(false,12),(false,13),(false,14),(false,15),(false,16)] [] (s := 42) (p := 49) rfl rfl (fun hg1 => ?_) (fun hg1 => ?_) ?_
      rotate_left
      · have hin := prB_in2 hg1
        simp only at hin
        refine L.fieldAddr rfl Tf.f126_1 rfl rfl ⟨_, rfl, rfl⟩ ?_
        refine L.loadB1 rfl Tf.a3 rfl (List.Mem.head _) rfl List.not_mem_nil rfl ⟨_, rfl, rfl⟩ ?_
        refine L.move rfl rfl rfl ⟨_, rfl, rfl⟩ ?_
        refine L.shrN (m := (sceneD y t).broken) (n := i.toNat) rfl rfl (by show some (Value.int _ _) = some (Value.int _ _); congr 2; omega) (by omega) rfl ⟨_, rfl, rfl⟩ ?_
        refine L.rem rfl rfl rfl (Int.natCast_nonneg _) (by omega) (by simp only [inK]; omega) rfl ⟨_, rfl, rfl⟩ ?_
        refine L.eql rfl rfl rfl rfl ⟨_, rfl, rfl⟩ ?_
        refine L.pickF rfl rfl rfl rfl trivial ?_
        exact L.nil fun a w hh => hh.cutK 6 rfl
      · refine L.pass rfl rfl rfl ⟨_, _, rfl, rfl, rfl⟩ ?_
        refine L.pass rfl rfl rfl ⟨_, _, rfl, rfl, rfl⟩ ?_
        refine L.pass rfl rfl rfl ⟨_, _, rfl, rfl, rfl⟩ ?_
        refine L.pass rfl rfl rfl ⟨_, _, rfl, rfl, rfl⟩ ?_
        refine L.pass rfl rfl rfl ⟨_, _, rfl, rfl, rfl⟩ ?_
        refine L.pass rfl rfl rfl ⟨_, _, rfl, rfl, rfl⟩ ?_
        refine L.pickT rfl rfl rfl rfl trivial ?_
        exact L.nil fun a w hh => hh.cutK 6 rfl
      refine L.nil ?_
      refine C.next ?_
      refine C.cond rfl (fun hc3 => ?_) (fun hc3 => ?_)
      · refine C.seq ?_
        refine C.region [(false,0)] rfl ?_
        refine L.assign rfl rfl rfl trivial ?_
        refine L.nil ?_
        refine C.next ?_
        refine C.ret ?_
        refine C.thenRet ?_
        refine C.blockRet ?_
        refine C.thenRet ?_
        refine C.thenRet ?_
        refine C.blockRet ?_
        refine C.thenRet ?_
        exact leave (vs := [_]) rfl rfl rfl ⟨rfl, trivial⟩ (fun D hD => by show Value.bool _ = _; rw [proveBergeV, if_pos (by omega), prf_no hi0 h5 hc3])
      · obtain ⟨x, rfl, hx7, hst, hor⟩ := prf_yes hn7 hpr7 h3 hc3
        have hxp := pow_lt7 hx7
        refine C.skip ?_
        refine C.next ?_
        refine C.seq ?_
        refine C.region [(false,0),(false,1),(false,2),(false,3),(false,4)] rfl ?_
        refine L.move rfl rfl rfl trivial ?_
        refine L.move rfl rfl rfl trivial ?_
        refine L.shl1 rfl rfl rfl (by omega) rfl trivial ?_
        refine L.orB rfl rfl rfl (by first | omega | (simp only; omega)) (by first | omega | (simp only; omega)) rfl trivial ?_
        refine L.assign rfl rfl rfl trivial ?_
        refine L.nil ?_
        refine C.next ?_
        refine C.region [(false,0),(false,1)] rfl ?_
        refine L.move rfl rfl rfl trivial ?_
        refine L.assign rfl rfl rfl trivial ?_
        refine L.nil ?_
        refine C.blockEnd ?_
        refine C.next ?_
        refine C.region [(false,0),(false,1)] rfl ?_
        refine L.add rfl rfl rfl (by simp only [inK]; omega) rfl trivial ?_
        refine L.move rfl rfl rfl trivial ?_
        refine L.nil ?_
        exact C.againR 27 (k + 1, bt ||| 2 ^ x, (x : Int)) ⟨by simp only; omega, hor, by simp only; omega, by simp only; omega, by simp only; rw [prf_snoc hi0, h5]; exact hst⟩ (by simp only; omega) ⟨(by first | rfl | (show some (Value.int _ _) = some (Value.int _ _); congr 2; omega)), (by first | rfl | (show some (Value.int _ _) = some (Value.int _ _); congr 2; omega)), (by first | rfl | (show some (Value.int _ _) = some (Value.int _ _); congr 2; omega)), trivial⟩ rfl rfl (List.Sublist.refl _) (ds_same)
    · obtain rfl : k = l.length := by omega
      rw [List.take_length] at h5
      refine C.exit ?_
      refine C.thenExit ?_
      refine C.thenExit ?_
      refine C.blockExit ?_
      refine C.next ?_
      refine C.seq ?_
      refine C.region [(false,0),(false,1),(false,2),(false,3),(false,4),(false,5)] rfl ?_
      refine L.loadBW (vs := ints (scI (sceneD y t))) rfl Tf.a126 rfl (List.Mem.head _) (by rw [show (ints (scI (sceneD y t))).length = 9 by simpa using hs9]; exact Tf.s126) List.not_mem_nil rfl trivial ?_
      refine L.move rfl rfl rfl trivial ?_
      refine L.callV rfl rfl rfl (fun D4 hD4 => bound_ok (sceneD y t) bt hsc.row hsc.whole hbl hpr7 _ hsc.len) rfl trivial ?_
      refine L.move rfl rfl rfl trivial ?_
      refine L.leq rfl rfl rfl rfl trivial ?_
      refine L.assign rfl rfl rfl trivial ?_
      refine L.nil ?_
      refine C.next ?_
      refine C.ret ?_
      exact leave (vs := [_]) rfl rfl rfl ⟨rfl, trivial⟩ (fun D hD => by show Value.bool _ = _; rw [proveBergeV, if_pos (by omega), h5])
theorem Bounds_ok (yv : Value) (y : YardD) (D : Data) (hy : YardIs D yv y) : Fn Try.prog 39 #[yv] D (fun _ v => v = .tuple #[k2V (boundsV y).1, .int .i64 (boundsV y).2]) := by
  have hy0 := hy
  obtain ⟨cv, qv, rfl, hc, hq⟩ := hy
  refine enter 48 Try.func39 rfl rfl rfl rfl fun h0 => ?_
  refine C.seq ?_
  refine C.region [(false,0),(false,1),(false,2)] rfl ?_
  refine L.boxD rfl rfl rfl rfl trivial (fun q1 E1 hE1 hB1 => ?_)
  refine L.alloc rfl Tf.z61 rfl rfl trivial (fun q2 => ?_)
  refine L.assign rfl rfl rfl trivial ?_
  refine L.nil ?_
  refine C.next ?_
  refine C.seq ?_
  refine C.seq ?_
  refine C.region [(false,0),(false,1),(false,2)] rfl ?_
  refine L.loadDW rfl Tf.a37 rfl hB1 (by first | simp | assumption) Tf.s37 List.not_mem_nil rfl trivial ?_
  refine L.callV rfl rfl rfl (fun D1 hD1 => CheckYard_ok _ y _ (hy0.up (hD1 _ (by simp)))) rfl trivial ?_
  refine L.assign rfl rfl rfl trivial ?_
  refine L.nil ?_
  refine C.next ?_
  refine C.seq ?_
  refine C.region [(false,0),(false,1)] rfl ?_
  refine L.move rfl rfl rfl trivial ?_
  refine L.neq rfl rfl rfl rfl trivial ?_
  refine L.nil ?_
  refine C.next ?_
  refine C.condD rfl (fun hc1 => ?_) (fun hc1 => ?_)
  · refine C.seq ?_
    refine C.region [(false,0),(false,1),(false,2),(false,3)] rfl ?_
    refine L.build (cs := [.int .i64 0, .int .i64 0]) rfl Tf.p61 Tf.z61 rfl rfl rfl trivial ?_
    refine L.move rfl rfl rfl trivial ?_
    refine L.storeW rfl rfl rfl rfl Tf.s61 (by first | rfl | (simp only [ints_length, *]; done) | (simp only [ints_length, *]; rfl) | (simp only [ints_length, *]; omega)) (by first | rfl | (simp only [ints_length, *]; done) | (simp only [ints_length, *]; rfl) | (simp only [ints_length, *]; omega)) (Has.head) (by first | exact ints_cell1 _ | simp [cell1]) trivial ?_
    refine L.assign rfl rfl rfl trivial ?_
    refine L.nil ?_
    refine C.next ?_
    refine C.ret ?_
    refine C.thenRet ?_
    exact leave (vs := [_, _]) rfl rfl rfl ⟨⟨_, _, _, rfl, (List.Mem.head _), Or.inr ⟨Tf.a61, (by first | exact Tf.s61 | (simp only [List.size_toArray, ints_length, *]; exact Tf.s61)), rfl⟩⟩, rfl, trivial⟩ (fun D hD => by show Value.tuple _ = _; rw [boundsV, if_pos hc1]; rfl)
  · have hf0 : fault y = 0 := by omega
    have hyo := yOk hf0
    have hn7 := hyo.len
    refine C.skip ?_
    refine C.next ?_
    refine C.seq ?_
    refine C.region [(false,0),(false,1),(false,2),(false,3),(false,4),(false,5),(false,6),(false,7)] rfl ?_
    refine L.loadDW rfl Tf.a37 rfl hB1 (by first | simp | assumption) Tf.s37 List.not_mem_nil rfl trivial ?_
    refine L.callO (μ := _) rfl rfl rfl (fun D5 hD5 => work_ok _ y _ _ D5 rfl) rfl trivial (fun v5 D6 _ hD6 hp5 => ?_)
    obtain ⟨wb, mb, rfl, rfl⟩ := hp5
    refine L.boxesEq ([] ++ [(_, _), (_, _)] ++ ([(_, _)])) rfl ?_
    refine L.callM (A := []) (ν := [(_, _), (_, _)]) (B := [(_, _)]) rfl rfl rfl rfl (Or.inl rfl) (unf_w (cs := [_, _, _, _])) (fun D7 hD7 => scenes_ok wb mb _ _ y [] _ (by omega) hyo.fit hyo.size #[] 0 [] _ (hc.up RCh.up (hD7 _ (by simp))) (hq.up R2.up (hD7 _ (by simp))) Sl.nil rfl MOk.nil) rfl trivial (fun v7 D8 _ hD8 hp7 => ?_)
    obtain ⟨sv, mv, rfl, hsv, hmv, es1, cl1, M1, rfl, hM1, hok1⟩ := hp7
    refine L.move rfl rfl rfl trivial ?_
    refine L.extract rfl rfl rfl rfl trivial ?_
    refine L.extract rfl rfl rfl rfl trivial ?_
    refine L.assign rfl rfl rfl trivial ?_
    refine L.assign rfl rfl rfl trivial ?_
    refine L.nil ?_
    refine C.next ?_
    refine C.seq ?_
    refine C.seq ?_
    refine C.region [(false,0),(false,1),(false,2)] rfl ?_
    refine L.move rfl rfl rfl trivial ?_
    refine L.len rfl Try.underlying52 rfl hmv rfl rfl trivial ?_
    refine L.eql rfl rfl rfl rfl trivial ?_
    refine L.nil ?_
    refine C.next ?_
    refine C.condD rfl (fun hc2 => ?_) (fun hc2 => ?_)
    · have hnil : scenesD y [] = [] := by simpa using hc2
      refine C.seq ?_
      refine C.region [(false,0),(false,1),(false,2)] rfl ?_
      refine L.build (cs := [.int .i64 0, .int .i64 0]) rfl Tf.p61 Tf.z61 rfl rfl rfl trivial ?_
      refine L.storeW rfl rfl rfl rfl Tf.s61 (by first | rfl | (simp only [ints_length, *]; done) | (simp only [ints_length, *]; rfl) | (simp only [ints_length, *]; omega)) (by first | rfl | (simp only [ints_length, *]; done) | (simp only [ints_length, *]; rfl) | (simp only [ints_length, *]; omega)) (.tail (.tail (Has.head))) (by first | exact ints_cell1 _ | simp [cell1]) trivial ?_
      refine L.assign rfl rfl rfl trivial ?_
      refine L.nil ?_
      refine C.next ?_
      refine C.ret ?_
      refine C.thenRet ?_
      exact leave (vs := [_, _]) rfl rfl rfl ⟨⟨_, _, _, rfl, (List.Mem.tail _ (List.Mem.tail _ (List.Mem.head _))), Or.inr ⟨Tf.a61, (by first | exact Tf.s61 | (simp only [List.size_toArray, ints_length, *]; exact Tf.s61)), rfl⟩⟩, rfl, trivial⟩ (fun D hD => bounds_nil hf0 hnil)
    · generalize hL : ((scenesD y []).map fun p => (p.2 : Int)) = ms at hmv hc2 ⊢
      have hml := hmv.len
      have hne : ms ≠ [] := fun e => hc2 (by rw [e]; rfl)
      obtain ⟨m0, hm0⟩ : ∃ m, ms[0]? = some m := ⟨ms[0]'(List.length_pos_iff.2 hne), List.getElem?_eq_getElem _⟩
      refine C.skip ?_
      refine C.next ?_
      refine C.seq ?_
      refine C.drawS [] 3 [false,false,false,true,true,true,false,true,true,true,false,false] [.fork [0,1,2,3,4,5,6,7] 8 (.fin [9]) 9 (.fin [8]), .fin [10,11]] Tf.follows (fun _ _ _ h => np_body (P := Try.prog) (fn := Try.f39) _ _ _ h) (by kernel_rfl) ?_
      refine S.cons ?_
      refine L.planFork [(false,0),(false,1),(false,2),(true,3),(true,4),(true,5),(false,6),(true,7)] rfl ?_
      refine L.move rfl rfl rfl trivial ?_
      refine L.indexS rfl Try.underlying52 Tf.s3 rfl hmv rfl (by omega) hm0 rfl trivial (fun b1 o1 cs1 hr1 hcl1 hA1 => ?_)
      obtain rfl : cs1 = [.int .i64 _] := hr1
      refine L.loadD1 rfl (k := 0) Tf.a3 rfl hA1 (by first | simp | assumption) rfl List.not_mem_nil rfl trivial ?_
      refine L.move rfl rfl rfl trivial ?_
      refine L.indexS rfl Try.underlying52 Tf.s3 rfl hmv rfl (by omega) hm0 rfl trivial (fun b2 o2 cs2 hr2 hcl2 hA2 => ?_)
      obtain rfl : cs2 = [.int .i64 _] := hr2
      refine L.loadD1 rfl (k := 0) Tf.a3 rfl hA2 (by first | simp | assumption) rfl List.not_mem_nil rfl trivial ?_
      refine L.build (cs := [.int .i64 m0, .int .i64 m0]) rfl Tf.p61 Tf.z61 rfl rfl rfl trivial ?_
      refine L.build (cs := [.func (.func 87) #[] #[]]) rfl Tf.p141 Tf.z141 rfl rfl rfl trivial ?_
      refine L.nil (L.forkP true true rfl rfl ?_ ?_)
      · refine L.alloc rfl Tf.z61 rfl rfl trivial (fun q3 => ?_)
        refine L.nil ?_
        refine L.planFin [(true,9)] rfl ?_
        refine L.alloc rfl Tf.z141 rfl rfl trivial (fun q4 => ?_)
        refine L.nil ?_
        refine S.fin [(false,10),(false,11)] rfl ?_
        refine L.storeW rfl rfl rfl rfl Tf.s61 (by first | rfl | (simp only [ints_length, *]; done) | (simp only [ints_length, *]; rfl) | (simp only [ints_length, *]; omega)) (by first | rfl | (simp only [ints_length, *]; done) | (simp only [ints_length, *]; rfl) | (simp only [ints_length, *]; omega)) (.tail (Has.head)) (by first | exact ints_cell1 _ | simp [cell1]) trivial ?_
        refine L.storeW rfl rfl rfl rfl Tf.s141 (by first | rfl | (simp only [ints_length, *]; done) | (simp only [ints_length, *]; rfl) | (simp only [ints_length, *]; omega)) (by first | rfl | (simp only [ints_length, *]; done) | (simp only [ints_length, *]; rfl) | (simp only [ints_length, *]; omega)) (Has.head) (by first | exact ints_cell1 _ | simp [cell1]) trivial ?_
        refine L.nil ?_
        refine S.nil ?_
        refine C.next ?_
        refine C.seq ?_
        refine C.seq ?_
        refine C.region [(false,0),(false,1),(false,2)] rfl ?_
        refine L.move rfl rfl rfl trivial ?_
        refine L.len rfl Try.underlying52 rfl hmv rfl rfl trivial ?_
        refine L.move rfl rfl rfl trivial ?_
        refine L.nil ?_
        refine C.next ?_
        refine C.block ?_
        refine C.loopR (γ := Nat) (fun k => ms.length - k) (fun k => k ≤ ms.length) (fun k => [(37, .int .i64 (k : Int))]) [(36, _), (35, _), (8, _), (7, _), (3, _), (2, _)] (fun k => (q4, .cells [.func (.func 87) #[] #[]].toArray 141 (0, 0)) :: (q3, .cells [.int .i64 (List.foldl (fun r n => (min r.1 n, max r.2 n)) (m0, m0) (ms.take k)).1, .int .i64 (List.foldl (fun r n => (min r.1 n, max r.2 n)) (m0, m0) (ms.take k)).2].toArray 61 (0, 0)) :: (wb, .cells [cv, .int .i64 y.fit, qv, .map (some mb)].toArray 148 (0, 0)) :: (mb, .map es1 cl1) :: [(q2, .cells [.int .i64 0, .int .i64 0].toArray 61 (0, 0))]) (fun k => [D8, D6, E1, D]) 0 (by omega) ⟨(by first | rfl | (show some (Value.int _ _) = some (Value.int _ _); congr 2; omega)), trivial⟩ ⟨rfl, rfl, rfl, rfl, rfl, rfl, trivial⟩ (List.Sublist.refl _) (ds_same) ?_
        rintro k h1
        refine C.seq ?_
        refine C.region [(false,0)] rfl ?_
        refine L.lss rfl rfl rfl rfl trivial ?_
        refine L.nil ?_
        refine C.next ?_
        refine C.seq ?_
        refine C.condD rfl (fun hc3 => ?_) (fun hc3 => ?_)
        · have hk : k < ms.length := by omega
          obtain ⟨n, hn0⟩ : ∃ n, ms[k]? = some n := ⟨_, List.getElem?_eq_getElem hk⟩
          have hst := bnd_step (m0 := m0) hn0
          refine C.skip ?_
          refine C.next ?_
          refine C.seq ?_
          refine C.block ?_
          refine C.seq ?_
          refine C.region [(false,0),(false,1),(false,2)] rfl ?_
          refine L.indexS rfl Try.underlying52 Tf.s3 rfl hmv rfl (by omega) hn0 rfl trivial (fun b3 o3 cs3 hr3 hcl3 hA3 => ?_)
          obtain rfl : cs3 = [.int .i64 _] := hr3
          refine L.loadD1 rfl (k := 0) Tf.a3 rfl hA3 (by first | simp | assumption) rfl List.not_mem_nil rfl trivial ?_
          refine L.assign rfl rfl rfl trivial ?_
          refine L.nil ?_
          refine C.next ?_
          refine C.region [(false,0),(false,1),(false,2),(false,3),(false,4),(false,5)] rfl ?_
          refine L.fieldAddr rfl Tf.f141_0 rfl rfl trivial ?_
          refine L.loadB1 rfl Tf.a138 rfl (List.Mem.head _) rfl List.not_mem_nil rfl trivial ?_
          refine L.loadBW rfl Tf.a61 rfl (List.Mem.tail _ (List.Mem.head _)) Tf.s61 List.not_mem_nil rfl trivial ?_
          refine L.move rfl rfl rfl trivial ?_
          refine L.callV rfl rfl rfl (fun D2 hD2 => wider_ok (List.foldl (fun r n => (min r.1 n, max r.2 n)) (m0, m0) (ms.take k)) n _) rfl trivial ?_
          refine L.storeW rfl rfl rfl rfl Tf.s61 (by first | rfl | (simp only [ints_length, *]; done) | (simp only [ints_length, *]; rfl) | (simp only [ints_length, *]; omega)) (by first | rfl | (simp only [ints_length, *]; done) | (simp only [ints_length, *]; rfl) | (simp only [ints_length, *]; omega)) (.tail (Has.head)) (by first | exact ints_cell1 _ | simp [cell1]) trivial ?_
          refine L.nil ?_
          refine C.blockEnd ?_
          refine C.next ?_
          refine C.region [(false,0),(false,1)] rfl ?_
          refine L.add rfl rfl rfl (by simp only [inK]; omega) rfl trivial ?_
          refine L.move rfl rfl rfl trivial ?_
          refine L.nil ?_
          rw [← hst]
          exact C.againR 12 (k + 1) (by omega) (by omega) ⟨(by first | rfl | (show some (Value.int _ _) = some (Value.int _ _); congr 2; omega)), trivial⟩ rfl rfl (List.Sublist.refl _) (ds_same)
        · obtain rfl : k = ms.length := by omega
          rw [List.take_length]
          refine C.exit ?_
          refine C.thenExit ?_
          refine C.thenExit ?_
          refine C.blockExit ?_
          refine C.next ?_
          refine C.seq ?_
          refine C.region [(false,0),(false,1),(false,2)] rfl ?_
          refine L.loadBW rfl Tf.a61 rfl (List.Mem.tail _ (List.Mem.head _)) Tf.s61 List.not_mem_nil rfl trivial ?_
          refine L.storeW rfl rfl rfl rfl Tf.s61 (by first | rfl | (simp only [ints_length, *]; done) | (simp only [ints_length, *]; rfl) | (simp only [ints_length, *]; omega)) (by first | rfl | (simp only [ints_length, *]; done) | (simp only [ints_length, *]; rfl) | (simp only [ints_length, *]; omega)) (.tail (.tail (.tail (.tail (Has.head))))) (by first | exact ints_cell1 _ | simp [cell1]) trivial ?_
          refine L.assign rfl rfl rfl trivial ?_
          refine L.nil ?_
          refine C.next ?_
          refine C.ret ?_
          exact leave (vs := [_, _]) rfl rfl rfl ⟨⟨_, _, _, rfl, (List.Mem.tail _ (List.Mem.tail _ (List.Mem.tail _ (List.Mem.tail _ (List.Mem.head _))))), Or.inr ⟨Tf.a61, (by first | exact Tf.s61 | (simp only [List.size_toArray, ints_length, *]; exact Tf.s61)), rfl⟩⟩, rfl, trivial⟩ (fun D hD => bounds_some hf0 hL hm0)
      · refine L.alloc rfl Tf.z141 rfl rfl trivial (fun q3 => ?_)
        refine L.nil ?_
        refine L.planFin [(true,8)] rfl ?_
        refine L.alloc rfl Tf.z61 rfl rfl trivial (fun q4 => ?_)
        refine L.nil ?_
        refine S.fin [(false,10),(false,11)] rfl ?_
        refine L.storeW rfl rfl rfl rfl Tf.s61 (by first | rfl | (simp only [ints_length, *]; done) | (simp only [ints_length, *]; rfl) | (simp only [ints_length, *]; omega)) (by first | rfl | (simp only [ints_length, *]; done) | (simp only [ints_length, *]; rfl) | (simp only [ints_length, *]; omega)) (Has.head) (by first | exact ints_cell1 _ | simp [cell1]) trivial ?_
        refine L.storeW rfl rfl rfl rfl Tf.s141 (by first | rfl | (simp only [ints_length, *]; done) | (simp only [ints_length, *]; rfl) | (simp only [ints_length, *]; omega)) (by first | rfl | (simp only [ints_length, *]; done) | (simp only [ints_length, *]; rfl) | (simp only [ints_length, *]; omega)) (.tail (Has.head)) (by first | exact ints_cell1 _ | simp [cell1]) trivial ?_
        refine L.nil ?_
        refine S.nil ?_
        refine C.next ?_
        refine C.seq ?_
        refine C.seq ?_
        refine C.region [(false,0),(false,1),(false,2)] rfl ?_
        refine L.move rfl rfl rfl trivial ?_
        refine L.len rfl Try.underlying52 rfl hmv rfl rfl trivial ?_
        refine L.move rfl rfl rfl trivial ?_
        refine L.nil ?_
        refine C.next ?_
        refine C.block ?_
        refine C.loopR (γ := Nat) (fun k => ms.length - k) (fun k => k ≤ ms.length) (fun k => [(37, .int .i64 (k : Int))]) [(36, _), (35, _), (7, _), (8, _), (3, _), (2, _)] (fun k => (q4, .cells [.int .i64 (List.foldl (fun r n => (min r.1 n, max r.2 n)) (m0, m0) (ms.take k)).1, .int .i64 (List.foldl (fun r n => (min r.1 n, max r.2 n)) (m0, m0) (ms.take k)).2].toArray 61 (0, 0)) :: (q3, .cells [.func (.func 87) #[] #[]].toArray 141 (0, 0)) :: (wb, .cells [cv, .int .i64 y.fit, qv, .map (some mb)].toArray 148 (0, 0)) :: (mb, .map es1 cl1) :: [(q2, .cells [.int .i64 0, .int .i64 0].toArray 61 (0, 0))]) (fun k => [D8, D6, E1, D]) 0 (by omega) ⟨(by first | rfl | (show some (Value.int _ _) = some (Value.int _ _); congr 2; omega)), trivial⟩ ⟨rfl, rfl, rfl, rfl, rfl, rfl, trivial⟩ (List.Sublist.refl _) (ds_same) ?_
        rintro k h1
        refine C.seq ?_
        refine C.region [(false,0)] rfl ?_
        refine L.lss rfl rfl rfl rfl trivial ?_
        refine L.nil ?_
        refine C.next ?_
        refine C.seq ?_
        refine C.condD rfl (fun hc3 => ?_) (fun hc3 => ?_)
        · have hk : k < ms.length := by omega
          obtain ⟨n, hn0⟩ : ∃ n, ms[k]? = some n := ⟨_, List.getElem?_eq_getElem hk⟩
          have hst := bnd_step (m0 := m0) hn0
          refine C.skip ?_
          refine C.next ?_
          refine C.seq ?_
          refine C.block ?_
          refine C.seq ?_
          refine C.region [(false,0),(false,1),(false,2)] rfl ?_
          refine L.indexS rfl Try.underlying52 Tf.s3 rfl hmv rfl (by omega) hn0 rfl trivial (fun b3 o3 cs3 hr3 hcl3 hA3 => ?_)
          obtain rfl : cs3 = [.int .i64 _] := hr3
          refine L.loadD1 rfl (k := 0) Tf.a3 rfl hA3 (by first | simp | assumption) rfl List.not_mem_nil rfl trivial ?_
          refine L.assign rfl rfl rfl trivial ?_
          refine L.nil ?_
          refine C.next ?_
          refine C.region [(false,0),(false,1),(false,2),(false,3),(false,4),(false,5)] rfl ?_
          refine L.fieldAddr rfl Tf.f141_0 rfl rfl trivial ?_
          refine L.loadB1 rfl Tf.a138 rfl (List.Mem.tail _ (List.Mem.head _)) rfl List.not_mem_nil rfl trivial ?_
          refine L.loadBW rfl Tf.a61 rfl (List.Mem.head _) Tf.s61 List.not_mem_nil rfl trivial ?_
          refine L.move rfl rfl rfl trivial ?_
          refine L.callV rfl rfl rfl (fun D2 hD2 => wider_ok (List.foldl (fun r n => (min r.1 n, max r.2 n)) (m0, m0) (ms.take k)) n _) rfl trivial ?_
          refine L.storeW rfl rfl rfl rfl Tf.s61 (by first | rfl | (simp only [ints_length, *]; done) | (simp only [ints_length, *]; rfl) | (simp only [ints_length, *]; omega)) (by first | rfl | (simp only [ints_length, *]; done) | (simp only [ints_length, *]; rfl) | (simp only [ints_length, *]; omega)) (Has.head) (by first | exact ints_cell1 _ | simp [cell1]) trivial ?_
          refine L.nil ?_
          refine C.blockEnd ?_
          refine C.next ?_
          refine C.region [(false,0),(false,1)] rfl ?_
          refine L.add rfl rfl rfl (by simp only [inK]; omega) rfl trivial ?_
          refine L.move rfl rfl rfl trivial ?_
          refine L.nil ?_
          rw [← hst]
          exact C.againR 12 (k + 1) (by omega) (by omega) ⟨(by first | rfl | (show some (Value.int _ _) = some (Value.int _ _); congr 2; omega)), trivial⟩ rfl rfl (List.Sublist.refl _) (ds_same)
        · obtain rfl : k = ms.length := by omega
          rw [List.take_length]
          refine C.exit ?_
          refine C.thenExit ?_
          refine C.thenExit ?_
          refine C.blockExit ?_
          refine C.next ?_
          refine C.seq ?_
          refine C.region [(false,0),(false,1),(false,2)] rfl ?_
          refine L.loadBW rfl Tf.a61 rfl (List.Mem.head _) Tf.s61 List.not_mem_nil rfl trivial ?_
          refine L.storeW rfl rfl rfl rfl Tf.s61 (by first | rfl | (simp only [ints_length, *]; done) | (simp only [ints_length, *]; rfl) | (simp only [ints_length, *]; omega)) (by first | rfl | (simp only [ints_length, *]; done) | (simp only [ints_length, *]; rfl) | (simp only [ints_length, *]; omega)) (.tail (.tail (.tail (.tail (Has.head))))) (by first | exact ints_cell1 _ | simp [cell1]) trivial ?_
          refine L.assign rfl rfl rfl trivial ?_
          refine L.nil ?_
          refine C.next ?_
          refine C.ret ?_
          exact leave (vs := [_, _]) rfl rfl rfl ⟨⟨_, _, _, rfl, (List.Mem.tail _ (List.Mem.tail _ (List.Mem.tail _ (List.Mem.tail _ (List.Mem.head _))))), Or.inr ⟨Tf.a61, (by first | exact Tf.s61 | (simp only [List.size_toArray, ints_length, *]; exact Tf.s61)), rfl⟩⟩, rfl, trivial⟩ (fun D hD => bounds_some hf0 hL hm0)
end Go.Fs
