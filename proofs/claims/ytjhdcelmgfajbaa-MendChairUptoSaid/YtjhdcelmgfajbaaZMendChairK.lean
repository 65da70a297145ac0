/- Of the proof of MendChair: W17, W18, W19, W20, W21, W22, W23, W24, W25, W26, W30, W36, W37, W27, W28, W38, W33, W39, W31, W32, W40, W41, W42, W43, W44. -/
import Derived.Test.YtjhdcelmgfajbaaZMendChairJ
import Derived.Test.YtjhdcelmgfajbaaZMendChairH
import Derived.Test.YtjhdcelmgfajbaaZMendChairC
namespace Go.Fs
open Go.Proofs
open C7
theorem prC_lenn (l : List (Int × Int)) (n : Nat) (h : l.length = n) : (prC l).length = n * 2 := by rw [prC_length, h]
def ptC (l : List Pt) : List Value := l.flatMap fun p => [.int .i64 p.a, .int .i64 p.b, .int .i64 p.c]
theorem ptC_snoc (l : List Pt) (p : Pt) : ptC (l ++ [p]) = ptC l ++ [.int .i64 p.a, .int .i64 p.b, .int .i64 p.c] := by simp [ptC]
theorem flat_k {α : Type} {f : α → List Value} {k : Nat} (hf : ∀ x, (f x).length = k) (l : List α) : (l.flatMap f).length = l.length * k := by
  induction l with
  | nil => simp
  | cons c l ih => rw [List.flatMap_cons, List.length_append, ih, hf, List.length_cons, Nat.add_mul]; omega
theorem flat_get {α : Type} {f : α → List Value} {k : Nat} (hf : ∀ x, (f x).length = k) {l : List α} {i : Nat} {c : α} (hi : l[i]? = some c) : ((l.flatMap f).drop (i * k)).take k = f c := by
  induction l generalizing i with
  | nil => simp at hi
  | cons d l ih =>
    rw [List.flatMap_cons]
    cases i with
    | zero => obtain rfl : d = c := by simpa using hi
              rw [Nat.zero_mul, List.drop_zero, List.take_append_of_le_length (by rw [hf]; omega), List.take_of_length_le (by rw [hf]; omega)]
    | succ i =>
      rw [List.drop_append, List.drop_eq_nil_of_le (by rw [hf, Nat.add_mul]; omega), List.nil_append]
      have : (i + 1) * k - (f d).length = i * k := by rw [hf, Nat.add_mul]; omega
      rw [this]; exact ih (by simpa using hi)
theorem ptC_lenn (l : List Pt) (n : Nat) (h : l.length = n) : (ptC l).length = n * 3 := by rw [ptC, flat_k (k := 3) (fun _ => rfl), h]
theorem Froz.pts {D : Data} {v : Value} {n : Nat} {l : List Pt} (hF : Froz D v n (ptC l)) (hn : l.length = n) (hb : n ≤ 9223372036854775807) : Sl D RP 3 v l :=
  hF.sl hn hb fun _i _t hi => ⟨_, rfl, rfl, flat_get (k := 3) (fun _ => rfl) hi⟩
def chC (l : List Ch) : List Value := l.flatMap fun c => [.int .i64 c.size, .int .i64 c.parts.a, .int .i64 c.parts.b, .int .i64 c.parts.c]
theorem chC_snoc (l : List Ch) (c : Ch) : chC (l ++ [c]) = chC l ++ [.int .i64 c.size, .int .i64 c.parts.a, .int .i64 c.parts.b, .int .i64 c.parts.c] := by simp [chC]
theorem chC_lenn (l : List Ch) (n : Nat) (h : l.length = n) : (chC l).length = n * 4 := by rw [chC, flat_k (k := 4) (fun _ => rfl), h]
theorem Froz.chs {D : Data} {v : Value} {n : Nat} {l : List Ch} (hF : Froz D v n (chC l)) (hn : l.length = n) (hb : n ≤ 9223372036854775807) : Sl D RCh 4 v l :=
  hF.sl hn hb fun _i _t hi => ⟨_, rfl, rfl, flat_get (k := 4) (fun _ => rfl) hi⟩
theorem ints_len {xs ys : List Int} (h : xs.length ≠ ys.length) : false = (xs == ys) := by
  symm; simp; intro e; exact h (by rw [e])
theorem ints_no {xs ys : List Int} {k : Nat} {a b : Int} (ha : xs[k]? = some a) (hb : ys[k]? = some b) (h : a ≠ b) : false = (xs == ys) := by
  symm; simp; rintro rfl; rw [ha] at hb; exact h (Option.some.inj hb)
theorem ints_step {xs ys : List Int} {k : Nat} {a b : Int} (ha : xs[k]? = some a) (hb : ys[k]? = some b) (h2 : xs.take k = ys.take k) (h : a = b) : xs.take (k + 1) = ys.take (k + 1) := by
  rw [List.take_add_one, List.take_add_one, ha, hb, h2, h]
theorem ints_yes {xs ys : List Int} {k : Nat} (hl : xs.length = ys.length) (hk : xs.length ≤ k) (h2 : xs.take k = ys.take k) : true = (xs == ys) := by
  rw [List.take_of_length_le hk, List.take_of_length_le (by omega)] at h2; rw [h2]; simp
def thin (y : YardD) : Bool := (decide ((y.chairs.length : Int) ≤ 9) && decide ((y.claims.length : Int) ≤ 7)) && (decide (fault y ≠ 0) || decide ((unknown y.chairs : Int) ≤ 5))
theorem to_ok (p : Int × Int) (D : Data) : Fn Try.prog 41 #[k2V p] D (fun _ v => v = k2V p) := by
  obtain ⟨lo, hi⟩ := p
  unfold k2V
  refine enter 8 Try.func41 rfl rfl rfl rfl fun h0 => ?_
  refine C.seq ?_
  refine C.region [(false,0),(false,1)] rfl ?_
  refine L.boxD rfl rfl rfl rfl trivial (fun q1 E1 hE1 hB1 => ?_)
  refine L.alloc rfl Tf.z61 rfl rfl trivial (fun q2 => ?_)
  refine L.nil ?_
  refine C.next ?_
  refine C.seq ?_
  refine C.region [(false,0),(false,1),(false,2),(false,3),(false,4),(false,5)] rfl ?_
  refine L.fieldAddr rfl Tf.f67_0 rfl rfl trivial ?_
  refine L.loadD1 rfl (k := 0) Tf.a3 rfl hB1 (by first | simp | assumption) rfl List.not_mem_nil rfl trivial ?_
  refine L.fieldAddr rfl Tf.f67_1 rfl rfl trivial ?_
  refine L.loadD1 rfl (k := 1) Tf.a3 rfl hB1 (by first | simp | assumption) rfl List.not_mem_nil rfl trivial ?_
  refine L.build (cs := [.int .i64 lo, .int .i64 hi]) rfl Tf.p61 Tf.z61 rfl rfl rfl trivial ?_
  refine L.storeW rfl rfl rfl rfl Tf.s61 (by first | rfl | (simp only [ints_length, *]; done) | (simp only [ints_length, *]; rfl) | (simp only [ints_length, *]; omega)) (by first | rfl | (simp only [ints_length, *]; done) | (simp only [ints_length, *]; rfl) | (simp only [ints_length, *]; omega)) (Has.head) (by first | exact ints_cell1 _ | simp [cell1]) trivial ?_
  refine L.nil ?_
  refine C.next ?_
  refine C.ret ?_
  exact leave (vs := [_]) rfl rfl rfl ⟨⟨_, _, _, rfl, (List.Mem.head _), Or.inr ⟨Tf.a61, (by first | exact Tf.s61 | (simp only [List.size_toArray, ints_length, *]; exact Tf.s61)), rfl⟩⟩, trivial⟩ (fun D hD => rfl)
theorem between_ok (lo hi : Int) (D : Data) : Fn Try.prog 71 #[.int .i64 lo, .int .i64 hi] D (fun _ v => v = k2V (lo, hi)) := by
  refine enter 8 Try.func71 rfl rfl rfl rfl fun h0 => ?_
  refine C.seq ?_
  refine C.region [(false,0)] rfl ?_
  refine L.alloc rfl Tf.z61 rfl rfl trivial (fun q1 => ?_)
  refine L.nil ?_
  refine C.next ?_
  refine C.seq ?_
  refine C.region [(false,0),(false,1),(false,2),(false,3)] rfl ?_
  refine L.move rfl rfl rfl trivial ?_
  refine L.move rfl rfl rfl trivial ?_
  refine L.build (cs := [.int .i64 lo, .int .i64 hi]) rfl Tf.p61 Tf.z61 rfl rfl rfl trivial ?_
  refine L.storeW rfl rfl rfl rfl Tf.s61 (by first | rfl | (simp only [ints_length, *]; done) | (simp only [ints_length, *]; rfl) | (simp only [ints_length, *]; omega)) (by first | rfl | (simp only [ints_length, *]; done) | (simp only [ints_length, *]; rfl) | (simp only [ints_length, *]; omega)) (Has.head) (by first | exact ints_cell1 _ | simp [cell1]) trivial ?_
  refine L.nil ?_
  refine C.next ?_
  refine C.ret ?_
  exact leave (vs := [_]) rfl rfl rfl ⟨⟨_, _, _, rfl, (List.Mem.head _), Or.inr ⟨Tf.a61, (by first | exact Tf.s61 | (simp only [List.size_toArray, ints_length, *]; exact Tf.s61)), rfl⟩⟩, trivial⟩ (fun D hD => rfl)
theorem TruthL_ok (tv : Value) (t : List Pt) (D : Data) (ht : Sl D RP 3 tv t) (hl : t.length ≤ 1000) : Fn Try.prog 24 #[tv] D (fun D' v => Sl D' RP 3 v t) := by
  have hll := hl
  refine enter 19 Try.func24 rfl rfl rfl rfl fun h0 => ?_
  refine C.seq ?_
  refine C.region [(false,0)] rfl ?_
  refine L.assign rfl rfl rfl trivial ?_
  refine L.nil ?_
  refine C.next ?_
  refine C.seq ?_
  refine C.region [(false,0)] rfl ?_
  refine L.assign rfl rfl rfl trivial ?_
  refine L.nil ?_
  refine C.next ?_
  refine C.seq ?_
  refine C.seq ?_
  refine C.region [(false,0)] rfl ?_
  refine L.assign rfl rfl rfl trivial ?_
  refine L.nil ?_
  refine C.next ?_
  refine C.block ?_
  refine C.loopR (γ := Nat × Value × Boxes) (fun g => t.length - g.1) (fun g => g.1 ≤ t.length ∧ Acc 113 3 g.2.1 g.1 (ptC (t.take g.1)) g.2.2) (fun g => [(4, .int .i64 (g.1 : Int)), (3, g.2.1)]) [(2, _), (0, _)] (fun g => g.2.2 ++ []) (fun g => [D]) (0, .slice none 0 0, []) ⟨by simp, by simpa [ptC, prC, chC] using Acc.nil⟩ ⟨(by first | rfl | (show some (Value.int _ _) = some (Value.int _ _); congr 2; omega)), (by first | rfl | (show some (Value.int _ _) = some (Value.int _ _); congr 2; omega)), trivial⟩ ⟨rfl, rfl, trivial⟩ (List.Sublist.refl _) (ds_same) ?_
  rintro ⟨k, v, ν⟩ ⟨hk1, ha⟩
  simp only at hk1 ha
  refine C.seq ?_
  refine C.seq ?_
  refine C.region [(false,0),(false,1),(false,2),(false,3)] rfl ?_
  refine L.move rfl rfl rfl trivial ?_
  refine L.move rfl rfl rfl trivial ?_
  refine L.len rfl Try.underlying26 rfl ht rfl rfl trivial ?_
  refine L.lss rfl rfl rfl rfl trivial ?_
  refine L.nil ?_
  refine C.next ?_
  refine C.condD rfl (fun hc1 => ?_) (fun hc1 => ?_)
  · have hk : k < t.length := by omega
    obtain ⟨x, hx⟩ : ∃ x, t[k]? = some x := ⟨_, List.getElem?_eq_getElem hk⟩
    refine C.skip ?_
    refine C.next ?_
    refine C.seq ?_
    refine C.block ?_
    refine C.region [(false,0),(false,1),(false,2),(false,3),(false,4),(false,5),(false,6),(false,7)] rfl ?_
    refine L.move rfl rfl rfl trivial ?_
    refine L.move rfl rfl rfl trivial ?_
    refine L.move rfl rfl rfl trivial ?_
    refine L.indexS rfl Try.underlying26 Tf.s91 rfl ht rfl (by omega) hx rfl trivial (fun b1 o1 cs1 hr1 hcl1 hA1 => ?_)
    obtain rfl : cs1 = [.int .i64 _, .int .i64 _, .int .i64 _] := hr1
    refine L.loadDW rfl Tf.a91 rfl hA1 (by first | simp | assumption) (by first | exact Tf.s91 | (simp only [ints_length, *]; exact Tf.s91)) List.not_mem_nil rfl trivial ?_
    refine L.buildSlice rfl Try.underlying39 Tf.s113 Tf.z113 rfl rfl rfl rfl (.cons rfl rfl .nil) rfl trivial (fun b901 D901 hD901 hA901 => ?_)
    refine L.append (A := []) (B := []) rfl Try.underlying39 rfl rfl Tf.s113 Tf.z113 rfl Tf.i113 rfl rfl rfl ha (Src.lit hA901) (by simp) rfl (ptC_lenn _ _ (by simp; omega)) (by simp [cell1]) (by omega) (Or.inl rfl) rfl trivial (fun v7 ν7 ha7 => ?_)
    have hn7 : Acc 113 3 v7 (k + 1) (ptC (t.take (k + 1))) ν7 := by rw [List.take_add_one, hx, Option.toList_some, ptC_snoc]; simpa using ha7
    refine L.assign rfl rfl rfl trivial ?_
    refine L.nil ?_
    refine C.blockEnd ?_
    refine C.next ?_
    refine C.region [(false,0),(false,1),(false,2)] rfl ?_
    refine L.move rfl rfl rfl trivial ?_
    refine L.add rfl rfl rfl (by simp only [inK]; omega) rfl trivial ?_
    refine L.assign rfl rfl rfl trivial ?_
    refine L.nil ?_
    exact C.againR 17 (k + 1, v7, ν7) ⟨by simp only; omega, hn7⟩ (by simp only; omega) ⟨(by first | rfl | (show some (Value.int _ _) = some (Value.int _ _); congr 2; omega)), (by first | rfl | (show some (Value.int _ _) = some (Value.int _ _); congr 2; omega)), trivial⟩ rfl rfl (List.Sublist.refl _) (fun D h => ⟨D, List.Mem.tail _ (h), Le.refl D⟩)
  · obtain rfl : k = t.length := by omega
    rw [List.take_length] at ha
    refine C.exit ?_
    refine C.thenExit ?_
    refine C.thenExit ?_
    refine C.blockExit ?_
    refine C.next ?_
    refine C.seq ?_
    refine C.region [(false,0),(false,1)] rfl ?_
    refine L.move rfl rfl rfl trivial ?_
    refine L.assign rfl rfl rfl trivial ?_
    refine L.nil ?_
    refine C.next ?_
    refine C.ret ?_
    refine Q.freeze (A := []) (B := []) ha rfl (fun D2 hD2 hF => ?_)
    exact leave (vs := [_]) rfl rfl rfl ⟨rfl, trivial⟩ (fun D' hD => (hF.pts rfl (by omega)).up RP.up (hD _ (by simp)))
theorem ints_ok (av bv : Value) (xs ys : List Int) (D : Data) (hx : Sl D RI 1 av xs) (hy : Sl D RI 1 bv ys) : Fn Try.prog 50 #[av, bv] D (fun _ v => v = .bool (xs == ys)) := by
  have hl := hx.len
  refine enter 26 Try.func50 rfl rfl rfl rfl fun h0 => ?_
  refine C.seq ?_
  refine C.region [(false,0)] rfl ?_
  refine L.assign rfl rfl rfl trivial ?_
  refine L.nil ?_
  refine C.next ?_
  refine C.seq ?_
  refine C.seq ?_
  refine C.region [(false,0),(false,1),(false,2),(false,3),(false,4)] rfl ?_
  refine L.move rfl rfl rfl trivial ?_
  refine L.len rfl Try.underlying52 rfl hx rfl rfl trivial ?_
  refine L.move rfl rfl rfl trivial ?_
  refine L.len rfl Try.underlying52 rfl hy rfl rfl trivial ?_
  refine L.neq rfl rfl rfl rfl trivial ?_
  refine L.nil ?_
  refine C.next ?_
  refine C.condD rfl (fun hc1 => ?_) (fun hc1 => ?_)
  · refine C.seq ?_
    refine C.region [(false,0)] rfl ?_
    refine L.assign rfl rfl rfl trivial ?_
    refine L.nil ?_
    refine C.next ?_
    refine C.ret ?_
    refine C.thenRet ?_
    exact leave (vs := [_]) rfl rfl rfl ⟨rfl, trivial⟩ (fun D hD => congrArg Value.bool (ints_len (by omega)))
  · have hlen : xs.length = ys.length := by omega
    refine C.skip ?_
    refine C.next ?_
    refine C.seq ?_
    refine C.seq ?_
    refine C.region [(false,0)] rfl ?_
    refine L.assign rfl rfl rfl trivial ?_
    refine L.nil ?_
    refine C.next ?_
    refine C.block ?_
    refine C.loopC (γ := Nat) (fun k => xs.length - k) (fun k => k ≤ xs.length ∧ xs.take k = ys.take k) (fun k => [(5, .int .i64 (k : Int))]) [(4, _), (0, _), (1, _)] (fun k => [D]) 0 (by simp) ⟨(by first | rfl | (show some (Value.int _ _) = some (Value.int _ _); congr 2; omega)), trivial⟩ ⟨rfl, rfl, rfl, trivial⟩ (ds_same) ?_
    rintro k ⟨h1, h2⟩
    refine C.seq ?_
    refine C.seq ?_
    refine C.region [(false,0),(false,1),(false,2),(false,3)] rfl ?_
    refine L.move rfl rfl rfl trivial ?_
    refine L.move rfl rfl rfl trivial ?_
    refine L.len rfl Try.underlying52 rfl hx rfl rfl trivial ?_
    refine L.lss rfl rfl rfl rfl trivial ?_
    refine L.nil ?_
    refine C.next ?_
    refine C.condD rfl (fun hc2 => ?_) (fun hc2 => ?_)
    · have hk : k < xs.length := by omega
      obtain ⟨a, ha⟩ : ∃ a, xs[k]? = some a := ⟨_, List.getElem?_eq_getElem hk⟩
      obtain ⟨b, hb⟩ : ∃ b, ys[k]? = some b := ⟨_, List.getElem?_eq_getElem (by omega)⟩
      refine C.skip ?_
      refine C.next ?_
      refine C.seq ?_
      refine C.block ?_
      refine C.seq ?_
      refine C.draw [] 3 [0,1,2,3,4,5,6,7,8] [false,true,false,false,true,true,true,true,false] [(false,0),(true,1),(false,2),(false,3),(true,4),(true,5),(true,6),(true,7),(false,8)] Tf.follows (fun _ _ _ h => np_body (P := Try.prog) (fn := Try.f50) _ _ _ h) (by kernel_rfl) rfl ?_
      refine L.move rfl rfl rfl trivial ?_
      refine L.move rfl rfl rfl trivial ?_
      refine L.indexS rfl Try.underlying52 Tf.s3 rfl hx rfl (by omega) ha rfl trivial (fun b1 o1 cs1 hr1 hcl1 hA1 => ?_)
      obtain rfl : cs1 = [.int .i64 _] := hr1
      refine L.loadD1 rfl (k := 0) Tf.a3 rfl hA1 (by first | simp | assumption) rfl List.not_mem_nil rfl trivial ?_
      refine L.move rfl rfl rfl trivial ?_
      refine L.move rfl rfl rfl trivial ?_
      refine L.indexS rfl Try.underlying52 Tf.s3 rfl hy rfl (by omega) hb rfl trivial (fun b2 o2 cs2 hr2 hcl2 hA2 => ?_)
      obtain rfl : cs2 = [.int .i64 _] := hr2
      refine L.loadD1 rfl (k := 0) Tf.a3 rfl hA2 (by first | simp | assumption) rfl List.not_mem_nil rfl trivial ?_
      refine L.neq rfl rfl rfl rfl trivial ?_
      refine L.nil ?_
      refine C.next ?_
      refine C.condD rfl (fun hc3 => ?_) (fun hc3 => ?_)
      · refine C.seq ?_
        refine C.region [(false,0)] rfl ?_
        refine L.assign rfl rfl rfl trivial ?_
        refine L.nil ?_
        refine C.next ?_
        refine C.ret ?_
        refine C.blockRet ?_
        refine C.thenRet ?_
        refine C.thenRet ?_
        refine C.blockRet ?_
        refine C.thenRet ?_
        exact leave (vs := [_]) rfl rfl rfl ⟨rfl, trivial⟩ (fun D hD => congrArg Value.bool (ints_no ha hb hc3))
      · refine C.skip ?_
        refine C.blockEnd ?_
        refine C.next ?_
        refine C.region [(false,0),(false,1),(false,2)] rfl ?_
        refine L.move rfl rfl rfl trivial ?_
        refine L.add rfl rfl rfl (by simp only [inK]; omega) rfl trivial ?_
        refine L.assign rfl rfl rfl trivial ?_
        refine L.nil ?_
        exact C.againR 17 (k + 1) ⟨by omega, ints_step ha hb h2 (by omega)⟩ (by omega) ⟨(by first | rfl | (show some (Value.int _ _) = some (Value.int _ _); congr 2; omega)), trivial⟩ rfl rfl (List.Sublist.refl _) (ds_same)
    · refine C.exit ?_
      refine C.thenExit ?_
      refine C.thenExit ?_
      refine C.blockExit ?_
      refine C.next ?_
      refine C.seq ?_
      refine C.region [(false,0)] rfl ?_
      refine L.assign rfl rfl rfl trivial ?_
      refine L.nil ?_
      refine C.next ?_
      refine C.ret ?_
      exact leave (vs := [_]) rfl rfl rfl ⟨rfl, trivial⟩ (fun D hD => congrArg Value.bool (ints_yes hlen (by omega) h2))
theorem Thin_ok (yv : Value) (y : YardD) (D : Data) (hy : YardIs D yv y) : Fn Try.prog 20 #[yv] D (fun _ v => v = .bool (thin y)) := by
  have hy0 := hy
  obtain ⟨cv, qv, rfl, hc, hq⟩ := hy
  refine enter 23 Try.func20 rfl rfl rfl rfl fun h0 => ?_
  refine C.seq ?_
  refine C.region [(false,0),(false,1)] rfl ?_
  refine L.boxD rfl rfl rfl rfl trivial (fun q1 E1 hE1 hB1 => ?_)
  refine L.assign rfl rfl rfl trivial ?_
  refine L.nil ?_
  refine C.next ?_
  refine C.seq ?_
  refine C.region [(false,0),(false,1),(false,2),(false,3),(false,4),(false,5),(false,6),(false,7),(false,8),(false,9),(false,10),(false,11),(false,12),(false,13),(false,14),(false,15),(false,16),(false,17),(false,18),(false,19),(false,20)] rfl ?_
  refine L.fieldAddr rfl Tf.f25_0 rfl rfl trivial ?_
  refine L.loadD1 rfl (k := 0) Tf.a22 rfl hB1 (by first | simp | assumption) rfl List.not_mem_nil rfl trivial ?_
  refine L.len rfl Try.underlying22 rfl (by assumption) rfl rfl trivial ?_
  refine L.leq rfl rfl rfl rfl trivial ?_
  refine L.move rfl rfl rfl trivial ?_
  refine' L.and [(false,5),(false,6),(false,7),(false,8),(false,9)] [(false,10),(false,11),(false,12),(false,13),(false,14),(false,15),(false,16),(false,17),(false,18),(false,19),(false,20)] (s := 7) (p := 12) rfl rfl (fun hg1 => ?_) (fun hg1 => ?_) ?_
  rotate_left
  · refine L.fieldAddr rfl Tf.f25_2 rfl rfl ⟨_, rfl, rfl⟩ ?_
    refine L.loadD1 rfl (k := 2) Tf.a23 rfl hB1 (by first | simp | assumption) rfl List.not_mem_nil rfl ⟨_, rfl, rfl⟩ ?_
    refine L.len rfl Try.underlying23 rfl (by assumption) rfl rfl ⟨_, rfl, rfl⟩ ?_
    refine L.leq rfl rfl rfl rfl ⟨_, rfl, rfl⟩ ?_
    refine L.pickT rfl rfl rfl rfl trivial ?_
    exact L.nil fun a w hh => hh.cutK 4 rfl
  · refine L.pass rfl rfl rfl ⟨_, _, rfl, rfl, rfl⟩ ?_
    refine L.pass rfl rfl rfl ⟨_, _, rfl, rfl, rfl⟩ ?_
    refine L.pass rfl rfl rfl ⟨_, _, rfl, rfl, rfl⟩ ?_
    refine L.pass rfl rfl rfl ⟨_, _, rfl, rfl, rfl⟩ ?_
    refine L.pickF rfl rfl rfl rfl trivial ?_
    exact L.nil fun a w hh => hh.cutK 4 rfl
  refine L.move rfl rfl rfl trivial ?_
  refine' L.and [(false,11),(false,12),(false,13),(false,14),(false,15),(false,16),(false,17),(false,18),(false,19)] [(false,20)] (s := 13) (p := 22) rfl rfl (fun hg2 => ?_) (fun hg2 => ?_) ?_
  rotate_left
  · refine L.loadDW rfl Tf.a25 rfl hB1 (by first | simp | assumption) Tf.s25 List.not_mem_nil rfl ⟨_, rfl, rfl⟩ ?_
    refine L.callV rfl rfl rfl (fun D1 hD1 => Fault_ok _ y _ (hy0.up (hD1 _ (by simp)))) rfl ⟨_, rfl, rfl⟩ ?_
    refine L.neq rfl rfl rfl rfl ⟨_, rfl, rfl⟩ ?_
    refine L.move rfl rfl rfl ⟨_, rfl, rfl⟩ ?_
    refine' L.or [(false,15),(false,16),(false,17),(false,18)] [(false,19)] (s := 17) (p := 21) rfl rfl (fun hg3 => ?_) (fun hg3 => ?_) ?_
    rotate_left
    · refine L.loadDW rfl Tf.a25 rfl hB1 (by first | simp | assumption) Tf.s25 List.not_mem_nil rfl ⟨_, rfl, rfl⟩ ?_
      refine L.callV rfl rfl rfl (fun D2 hD2 => Unknown_ok _ y _ (hy0.up (hD2 _ (by simp))) (by simp at *; omega)) rfl ⟨_, rfl, rfl⟩ ?_
      refine L.leq rfl rfl rfl rfl ⟨_, rfl, rfl⟩ ?_
      refine L.pickF rfl rfl rfl rfl ⟨_, rfl, rfl⟩ ?_
      exact L.nil fun a w hh => hh.cutK 3 rfl
    · refine L.pass rfl rfl rfl ⟨_, _, rfl, rfl, rfl⟩ ?_
      refine L.pass rfl rfl rfl ⟨_, _, rfl, rfl, rfl⟩ ?_
      refine L.pass rfl rfl rfl ⟨_, _, rfl, rfl, rfl⟩ ?_
      refine L.pickT rfl rfl rfl rfl ⟨_, rfl, rfl⟩ ?_
      exact L.nil fun a w hh => hh.cutK 3 rfl
    refine L.pickT rfl rfl rfl rfl trivial ?_
    exact L.nil fun a w hh => hh.cutK 5 rfl
  · refine L.pass rfl rfl rfl ⟨_, _, rfl, rfl, rfl⟩ ?_
    refine L.pass rfl rfl rfl ⟨_, _, rfl, rfl, rfl⟩ ?_
    refine L.pass rfl rfl rfl ⟨_, _, rfl, rfl, rfl⟩ ?_
    refine L.pass rfl rfl rfl ⟨_, _, rfl, rfl, rfl⟩ ?_
    refine L.pass rfl rfl rfl ⟨_, _, rfl, rfl, rfl⟩ ?_
    refine L.pass rfl rfl rfl ⟨_, _, rfl, rfl, rfl⟩ ?_
    refine L.pass rfl rfl rfl ⟨_, _, rfl, rfl, rfl⟩ ?_
    refine L.pass rfl rfl rfl ⟨_, _, rfl, rfl, rfl⟩ ?_
    refine L.pickF rfl rfl rfl rfl trivial ?_
    exact L.nil fun a w hh => hh.cutK 8 rfl
  refine L.assign rfl rfl rfl trivial ?_
  refine L.nil ?_
  refine C.next ?_
  refine C.ret ?_
  exact leave (vs := [_]) rfl rfl rfl ⟨rfl, trivial⟩ (fun D hD => rfl)
theorem ready_ok (yv : Value) (y : YardD) (D : Data) (hy : YardIs D yv y) : Fn Try.prog 53 #[yv] D (fun _ v => v = .bool (thin y && decide (fault y = 0))) := by
  have hy0 := hy
  obtain ⟨cv, qv, rfl, hc, hq⟩ := hy
  refine enter 10 Try.func53 rfl rfl rfl rfl fun h0 => ?_
  refine C.seq ?_
  refine C.region [(false,0),(false,1)] rfl ?_
  refine L.boxD rfl rfl rfl rfl trivial (fun q1 E1 hE1 hB1 => ?_)
  refine L.assign rfl rfl rfl trivial ?_
  refine L.nil ?_
  refine C.next ?_
  refine C.seq ?_
  refine C.region [(false,0),(false,1),(false,2),(false,3),(false,4),(false,5),(false,6),(false,7)] rfl ?_
  refine L.loadDW rfl Tf.a25 rfl hB1 (by first | simp | assumption) Tf.s25 List.not_mem_nil rfl trivial ?_
  refine L.callV rfl rfl rfl (fun D1 hD1 => Thin_ok _ y _ (hy0.up (hD1 _ (by simp)))) rfl trivial ?_
  refine L.move rfl rfl rfl trivial ?_
  refine' L.and [(false,3),(false,4),(false,5),(false,6)] [(false,7)] (s := 5) (p := 9) rfl rfl (fun hg1 => ?_) (fun hg1 => ?_) ?_
  rotate_left
  · refine L.loadDW rfl Tf.a25 rfl hB1 (by first | simp | assumption) Tf.s25 List.not_mem_nil rfl ⟨_, rfl, rfl⟩ ?_
    refine L.callV rfl rfl rfl (fun D2 hD2 => Fault_ok _ y _ (hy0.up (hD2 _ (by simp)))) rfl ⟨_, rfl, rfl⟩ ?_
    refine L.eql rfl rfl rfl rfl ⟨_, rfl, rfl⟩ ?_
    refine L.pickT rfl rfl rfl rfl trivial ?_
    exact L.nil fun a w hh => hh.cutK 3 rfl
  · refine L.pass rfl rfl rfl ⟨_, _, rfl, rfl, rfl⟩ ?_
    refine L.pass rfl rfl rfl ⟨_, _, rfl, rfl, rfl⟩ ?_
    refine L.pass rfl rfl rfl ⟨_, _, rfl, rfl, rfl⟩ ?_
    refine L.pickF rfl rfl rfl rfl trivial ?_
    exact L.nil fun a w hh => hh.cutK 3 rfl
  refine L.assign rfl rfl rfl trivial ?_
  refine L.nil ?_
  refine C.next ?_
  refine C.ret ?_
  exact leave (vs := [_]) rfl rfl rfl ⟨rfl, trivial⟩ (fun D hD => rfl)
end Go.Fs
namespace Go.Fs
open Go.Proofs
open C7
theorem cell1_yard {a b : Value} {m : Int} (ha : ∀ u ∈ [a], cell1 u = true) (hb : ∀ u ∈ [b], cell1 u = true) : ∀ u ∈ [a, .int .i64 m, b], cell1 u = true := by
  intro u hu
  simp only [List.mem_cons, List.not_mem_nil, or_false] at hu
  rcases hu with rfl | rfl | rfl
  · exact ha _ List.mem_cons_self
  · rfl
  · exact hb _ List.mem_cons_self
theorem YardL_ok (yv : Value) (y : YardD) (D : Data) (hy : YardIs D yv y) (h1 : y.chairs.length ≤ 100) (h2 : y.claims.length ≤ 100) : Fn Try.prog 23 #[yv] D (fun D' v => YardIs D' v y) := by
  obtain ⟨cv, qv, rfl, hc, hq⟩ := hy
  have hlp := h1
  have hlc := h2
  refine enter 53 Try.func23 rfl rfl rfl rfl fun h0 => ?_
  refine C.seq ?_
  refine C.region [(false,0),(false,1)] rfl ?_
  refine L.boxD rfl rfl rfl rfl trivial (fun q1 E1 hE1 hB1 => ?_)
  refine L.alloc rfl Tf.z37 rfl rfl trivial (fun q2 => ?_)
  refine L.nil ?_
  refine C.next ?_
  refine C.seq ?_
  refine C.region [(false,0),(false,1),(false,2),(false,3),(false,4)] rfl ?_
  refine L.fieldAddr rfl Tf.f25_1 rfl rfl trivial ?_
  refine L.loadD1 rfl (k := 1) Tf.a3 rfl hB1 (by first | simp | assumption) rfl List.not_mem_nil rfl trivial ?_
  refine L.build (cs := [.slice none 0 0, .int .i64 y.fit, .slice none 0 0]) rfl Tf.p37 Tf.z37 rfl rfl rfl trivial ?_
  refine L.alloc rfl Tf.z37 rfl rfl trivial (fun q3 => ?_)
  refine L.storeW rfl rfl rfl rfl Tf.s37 (by first | rfl | (simp only [ints_length, *]; done) | (simp only [ints_length, *]; rfl) | (simp only [ints_length, *]; omega)) (by first | rfl | (simp only [ints_length, *]; done) | (simp only [ints_length, *]; rfl) | (simp only [ints_length, *]; omega)) (Has.head) (by first | exact ints_cell1 _ | simp [cell1]) trivial ?_
  refine L.nil ?_
  refine C.next ?_
  refine C.seq ?_
  refine C.seq ?_
  refine C.region [(false,0)] rfl ?_
  refine L.assign rfl rfl rfl trivial ?_
  refine L.nil ?_
  refine C.next ?_
  refine C.block ?_
  refine C.loopR (γ := Nat × Value × Boxes) (fun g => y.chairs.length - g.1) (fun g => g.1 ≤ y.chairs.length ∧ Acc 115 4 g.2.1 g.1 (chC (y.chairs.take g.1)) g.2.2) (fun g => [(4, .int .i64 (g.1 : Int))]) [(3, _), (2, _), (1, _)] (fun g => (q3, .cells [g.2.1, .int .i64 y.fit, .slice none 0 0].toArray 37 (0, 0)) :: (q2, .cells [.slice none 0 0, .int .i64 0, .slice none 0 0].toArray 37 (0, 0)) :: (g.2.2 ++ [])) (fun g => [E1, D]) (0, .slice none 0 0, []) ⟨by simp, by simpa [chC, prC] using Acc.nil⟩ ⟨(by first | rfl | (show some (Value.int _ _) = some (Value.int _ _); congr 2; omega)), trivial⟩ ⟨rfl, rfl, rfl, trivial⟩ (List.Sublist.refl _) (ds_same) ?_
  rintro ⟨k, w1, ν⟩ ⟨hk1, ha⟩
  simp only at hk1 ha
  refine C.seq ?_
  refine C.seq ?_
  refine C.region [(false,0),(false,1),(false,2),(false,3),(false,4)] rfl ?_
  refine L.move rfl rfl rfl trivial ?_
  refine L.fieldAddr rfl Tf.f25_0 rfl rfl trivial ?_
  refine L.loadD1 rfl (k := 0) Tf.a22 rfl hB1 (by first | simp | assumption) rfl List.not_mem_nil rfl trivial ?_
  refine L.len rfl Try.underlying22 rfl hc rfl rfl trivial ?_
  refine L.lss rfl rfl rfl rfl trivial ?_
  refine L.nil ?_
  refine C.next ?_
  refine C.condD rfl (fun hc1 => ?_) (fun hc1 => ?_)
  · have hk : k < y.chairs.length := by omega
    obtain ⟨x, hx⟩ : ∃ x, y.chairs[k]? = some x := ⟨_, List.getElem?_eq_getElem hk⟩
    refine C.skip ?_
    refine C.next ?_
    refine C.seq ?_
    refine C.block ?_
    refine C.draw [] 7 [0,1,2,3,4,5,6,7,8,9,10,11,12,13,14,15,16,17,18] [false,false,true,true,true,true,true,true,true,true,true,true,true,true,true,true,false,false,false] [(false,0),(false,1),(true,2),(true,3),(true,4),(true,5),(true,6),(true,7),(true,8),(true,9),(true,10),(true,11),(true,12),(true,13),(true,14),(true,15),(false,16),(false,17),(false,18)] Tf.follows (fun _ _ _ h => np_body (P := Try.prog) (fn := Try.f23) _ _ _ h) (by kernel_rfl) rfl ?_
    refine L.fieldAddr rfl Tf.f37_0 rfl rfl trivial ?_
    refine L.loadB1 rfl Tf.a34 rfl (List.Mem.head _) rfl List.not_mem_nil rfl trivial ?_
    refine L.fieldAddr rfl Tf.f25_0 rfl rfl trivial ?_
    refine L.loadD1 rfl (k := 0) Tf.a22 rfl hB1 (by first | simp | assumption) rfl List.not_mem_nil rfl trivial ?_
    refine L.move rfl rfl rfl trivial ?_
    refine L.indexS rfl Try.underlying22 Tf.s94 rfl hc rfl (by omega) hx rfl trivial (fun b1 o1 cs1 hr1 hcl1 hA1 => ?_)
    obtain rfl : cs1 = [.int .i64 _, .int .i64 _, .int .i64 _, .int .i64 _] := hr1
    refine L.fieldAddr rfl Tf.f94_0 rfl rfl trivial ?_
    refine L.loadD1 rfl (k := 0) Tf.a3 rfl hA1 (by first | simp | assumption) rfl List.not_mem_nil rfl trivial ?_
    refine L.fieldAddr rfl Tf.f25_0 rfl rfl trivial ?_
    refine L.loadD1 rfl (k := 0) Tf.a22 rfl hB1 (by first | simp | assumption) rfl List.not_mem_nil rfl trivial ?_
    refine L.move rfl rfl rfl trivial ?_
    refine L.indexS rfl Try.underlying22 Tf.s94 rfl hc rfl (by omega) hx rfl trivial (fun b2 o2 cs2 hr2 hcl2 hA2 => ?_)
    obtain rfl : cs2 = [.int .i64 _, .int .i64 _, .int .i64 _, .int .i64 _] := hr2
    refine L.fieldAddr rfl Tf.f94_1 rfl rfl trivial ?_
    refine L.loadDP rfl (k := 1) Tf.a91 Tf.s91 rfl hA2 (by first | simp | assumption) rfl rfl List.not_mem_nil rfl trivial ?_
    refine L.build (cs := [.int .i64 x.size, .int .i64 x.parts.a, .int .i64 x.parts.b, .int .i64 x.parts.c]) rfl Tf.p115 Tf.z115 rfl rfl rfl trivial ?_
    refine L.buildSlice rfl Try.underlying34 Tf.s115 Tf.z115 rfl rfl rfl rfl (.cons rfl rfl .nil) rfl trivial (fun b901 D901 hD901 hA901 => ?_)
    refine L.append (A := [(_, _), (_, _)]) (B := []) rfl Try.underlying34 rfl rfl Tf.s115 Tf.z115 rfl Tf.i115 rfl rfl rfl ha (Src.lit hA901) (by simp) rfl (chC_lenn _ _ (by simp; omega)) (by simp [cell1]) (by omega) (Or.inl rfl) rfl trivial (fun v7 ν7 ha7 => ?_)
    have hn7 : Acc 115 4 v7 (k + 1) (chC (y.chairs.take (k + 1))) ν7 := by rw [List.take_add_one, hx, Option.toList_some, chC_snoc]; simpa using ha7
    refine L.fieldAddr rfl Tf.f37_0 rfl rfl trivial ?_
    refine L.store rfl rfl rfl ha7.cells1 Tf.s34 (Has.head) (by simp) rfl ha7.cell1 trivial ?_
    refine L.nil ?_
    refine C.blockEnd ?_
    refine C.next ?_
    refine C.region [(false,0),(false,1),(false,2)] rfl ?_
    refine L.move rfl rfl rfl trivial ?_
    refine L.add rfl rfl rfl (by simp only [inK]; omega) rfl trivial ?_
    refine L.assign rfl rfl rfl trivial ?_
    refine L.nil ?_
    exact C.againR 27 (k + 1, v7, ν7) ⟨by simp only; omega, hn7⟩ (by simp only; omega) ⟨(by first | rfl | (show some (Value.int _ _) = some (Value.int _ _); congr 2; omega)), trivial⟩ rfl rfl (List.Sublist.refl _) (fun D h => ⟨D, List.Mem.tail _ (h), Le.refl D⟩)
  · obtain rfl : k = y.chairs.length := by omega
    rw [List.take_length] at ha
    refine C.exit ?_
    refine C.thenExit ?_
    refine C.thenExit ?_
    refine C.blockExit ?_
    refine C.next ?_
    refine C.seq ?_
    refine C.seq ?_
    refine C.freeze (A := [(_, _), (_, _)]) (B := []) ha rfl (fun D8 hD8 hF8 => ?_)
    clear hk1
    have hcz := hF8.chs rfl (by omega)
    have hcz1 := hcz.cell1
    clear ha
    refine C.region [(false,0)] rfl ?_
    refine L.assign rfl rfl rfl trivial ?_
    refine L.nil ?_
    refine C.next ?_
    refine C.block ?_
    refine C.loopR (γ := Nat × Value × Boxes) (fun g => y.claims.length - g.1) (fun g => g.1 ≤ y.claims.length ∧ Acc 61 2 g.2.1 g.1 (prC (y.claims.take g.1)) g.2.2) (fun g => [(5, .int .i64 (g.1 : Int))]) [(3, _), (2, _), (1, _)] (fun g => (q3, .cells [w1, .int .i64 y.fit, g.2.1].toArray 37 (0, 0)) :: (q2, .cells [.slice none 0 0, .int .i64 0, .slice none 0 0].toArray 37 (0, 0)) :: (g.2.2 ++ [])) (fun g => [D8, E1, D]) (0, .slice none 0 0, []) ⟨by simp, by simpa [chC, prC] using Acc.nil⟩ ⟨(by first | rfl | (show some (Value.int _ _) = some (Value.int _ _); congr 2; omega)), trivial⟩ ⟨rfl, rfl, rfl, trivial⟩ (List.Sublist.refl _) (ds_same) ?_
    rintro ⟨k, v, ν⟩ ⟨hk1, ha⟩
    simp only at hk1 ha
    refine C.seq ?_
    refine C.seq ?_
    refine C.region [(false,0),(false,1),(false,2),(false,3),(false,4)] rfl ?_
    refine L.move rfl rfl rfl trivial ?_
    refine L.fieldAddr rfl Tf.f25_2 rfl rfl trivial ?_
    refine L.loadD1 rfl (k := 2) Tf.a23 rfl hB1 (by first | simp | assumption) rfl List.not_mem_nil rfl trivial ?_
    refine L.len rfl Try.underlying23 rfl hq rfl rfl trivial ?_
    refine L.lss rfl rfl rfl rfl trivial ?_
    refine L.nil ?_
    refine C.next ?_
    refine C.condD rfl (fun hc2 => ?_) (fun hc2 => ?_)
    · have hk : k < y.claims.length := by omega
      obtain ⟨x, hx⟩ : ∃ x, y.claims[k]? = some x := ⟨_, List.getElem?_eq_getElem hk⟩
      refine C.skip ?_
      refine C.next ?_
      refine C.seq ?_
      refine C.block ?_
      refine C.draw [] 5 [0,1,2,3,4,5,6,7,8,9,10,11] [false,false,true,true,true,true,true,true,true,false,false,false] [(false,0),(false,1),(true,2),(true,3),(true,4),(true,5),(true,6),(true,7),(true,8),(false,9),(false,10),(false,11)] Tf.follows (fun _ _ _ h => np_body (P := Try.prog) (fn := Try.f23) _ _ _ h) (by kernel_rfl) rfl ?_
      refine L.fieldAddr rfl Tf.f37_2 rfl rfl trivial ?_
      refine L.loadB1 rfl Tf.a35 rfl (List.Mem.head _) rfl List.not_mem_nil rfl trivial ?_
      refine L.fieldAddr rfl Tf.f25_2 rfl rfl trivial ?_
      refine L.loadD1 rfl (k := 2) Tf.a23 rfl hB1 (by first | simp | assumption) rfl List.not_mem_nil rfl trivial ?_
      refine L.move rfl rfl rfl trivial ?_
      refine L.indexS rfl Try.underlying23 Tf.s67 rfl hq rfl (by omega) hx rfl trivial (fun b3 o3 cs3 hr3 hcl3 hA3 => ?_)
      obtain rfl : cs3 = [.int .i64 _, .int .i64 _] := hr3
      refine L.loadDW rfl Tf.a67 rfl hA3 (by first | simp | assumption) Tf.s67 List.not_mem_nil rfl trivial ?_
      refine L.callV rfl rfl rfl (fun D1 hD1 => to_ok x _) rfl trivial ?_
      refine L.buildSlice rfl Try.underlying35 Tf.s61 Tf.z61 rfl rfl rfl rfl (.cons rfl rfl .nil) rfl trivial (fun b902 D902 hD902 hA902 => ?_)
      refine L.append (A := [(_, _), (_, _)]) (B := []) rfl Try.underlying35 rfl rfl Tf.s61 Tf.z61 rfl Tf.i61 rfl rfl rfl ha (Src.lit hA902) (by simp) rfl (prC_lenn _ _ (by simp; omega)) (by simp [cell1]) (by omega) (Or.inl rfl) rfl trivial (fun v7 ν7 ha7 => ?_)
      have hn7 : Acc 61 2 v7 (k + 1) (prC (y.claims.take (k + 1))) ν7 := by rw [List.take_add_one, hx, Option.toList_some, prC_snoc]; simpa using ha7
      refine L.fieldAddr rfl Tf.f37_2 rfl rfl trivial ?_
      refine L.store rfl rfl rfl ha7.cells1 Tf.s35 (Has.head) (by simp) rfl ha7.cell1 trivial ?_
      refine L.nil ?_
      refine C.blockEnd ?_
      refine C.next ?_
      refine C.region [(false,0),(false,1),(false,2)] rfl ?_
      refine L.move rfl rfl rfl trivial ?_
      refine L.add rfl rfl rfl (by simp only [inK]; omega) rfl trivial ?_
      refine L.assign rfl rfl rfl trivial ?_
      refine L.nil ?_
      exact C.againR 20 (k + 1, v7, ν7) ⟨by simp only; omega, hn7⟩ (by simp only; omega) ⟨(by first | rfl | (show some (Value.int _ _) = some (Value.int _ _); congr 2; omega)), trivial⟩ rfl rfl (List.Sublist.refl _) (fun D h => ⟨D, List.Mem.tail _ (h), Le.refl D⟩)
    · obtain rfl : k = y.claims.length := by omega
      rw [List.take_length] at ha
      refine C.exit ?_
      refine C.thenExit ?_
      refine C.thenExit ?_
      refine C.blockExit ?_
      refine C.next ?_
      refine C.seq ?_
      refine C.region [(false,0),(false,1)] rfl ?_
      refine L.loadBW rfl Tf.a37 rfl (List.Mem.head _) Tf.s37 List.not_mem_nil rfl trivial ?_
      refine L.storeW rfl rfl rfl rfl Tf.s37 (by first | rfl | (simp only [ints_length, *]; done) | (simp only [ints_length, *]; rfl) | (simp only [ints_length, *]; omega)) (by first | rfl | (simp only [ints_length, *]; done) | (simp only [ints_length, *]; rfl) | (simp only [ints_length, *]; omega)) (.tail (Has.head)) (cell1_yard hcz1 ha.cell1) trivial ?_
      refine L.nil ?_
      refine C.next ?_
      refine C.ret ?_
      refine Q.freeze (A := [(_, _), (_, _)]) (B := []) ha rfl (fun D2 hD2 hF => ?_)
      exact leave (vs := [_]) rfl rfl rfl ⟨⟨_, _, _, rfl, (List.Mem.tail _ (List.Mem.head _)), Or.inr ⟨Tf.a37, Tf.s37, rfl⟩⟩, trivial⟩ (fun D' hD => ⟨_, v, rfl, hcz.up RCh.up (hD _ (by simp)), (hF.prs rfl (by omega)).up R2.up (hD _ (by simp))⟩)
end Go.Fs
namespace Go.Fs
open Go.Proofs
open C7
def shedD (k : Nat) : YardD := ⟨[⟨4, ⟨1, 0, 0⟩⟩, ⟨5, ⟨0, 1, 1⟩⟩, ⟨5, ⟨0, 1, 2⟩⟩, ⟨9, ⟨1, 1, 1⟩⟩, ⟨4, ⟨1, 0, 0⟩⟩], 1, [(3, 5), (0, 2)].take k⟩
def partsD (n : Int) : List Pt := [⟨1, 0, 0⟩, ⟨0, 1, 1⟩, ⟨0, 1, n⟩, ⟨1, 1, 1⟩, ⟨1, 0, 0⟩]
theorem shed_ok (k : Nat) (hk : k ≤ 2) (D : Data) : Fn Try.prog 69 #[.int .i64 (k : Int)] D (fun D' v => YardIs D' v (shedD k)) := by
  refine enter 22 Try.func69 rfl rfl rfl rfl fun h0 => ?_
  refine C.seq ?_
  refine C.region [(false,0)] rfl ?_
  refine L.alloc rfl Tf.z37 rfl rfl trivial (fun q1 => ?_)
  refine L.nil ?_
  refine C.next ?_
  refine C.seq ?_
  refine C.region [(false,0),(false,1),(false,2),(false,3)] rfl ?_
  refine L.callV rfl rfl rfl (fun D1 hD1 => between_ok _ _ _) rfl trivial ?_
  refine L.callV rfl rfl rfl (fun D2 hD2 => between_ok _ _ _) rfl trivial ?_
  refine L.buildSlice rfl Try.underlying35 Tf.s61 Tf.z61 rfl rfl rfl rfl (.cons rfl rfl (.cons rfl rfl .nil)) rfl trivial (fun b901 D901 hD901 hA901 => ?_)
  have hS901 : Sl D901 R2 2 _ [(3, 5), (0, 2)] := Froz.prs (l := [(3, 5), (0, 2)]) (n := 2) (Or.inr ⟨_, 2, rfl, by omega, hA901⟩) rfl (by omega)
  refine L.assign rfl rfl rfl trivial ?_
  refine L.nil ?_
  refine C.next ?_
  refine C.seq ?_
  refine C.region [(false,0),(false,1),(false,2),(false,3),(false,4),(false,5),(false,6),(false,7),(false,8),(false,9),(false,10),(false,11),(false,12),(false,13),(false,14),(false,15)] rfl ?_
  refine L.buildA (cs := [.int .i64 1, .int .i64 0, .int .i64 0]) rfl Try.underlying113 Tf.s3 Tf.z113 rfl rfl rfl trivial ?_
  refine L.build (cs := [.int .i64 4, .int .i64 1, .int .i64 0, .int .i64 0]) rfl Tf.p115 Tf.z115 rfl rfl rfl trivial ?_
  refine L.buildA (cs := [.int .i64 0, .int .i64 1, .int .i64 1]) rfl Try.underlying113 Tf.s3 Tf.z113 rfl rfl rfl trivial ?_
  refine L.build (cs := [.int .i64 5, .int .i64 0, .int .i64 1, .int .i64 1]) rfl Tf.p115 Tf.z115 rfl rfl rfl trivial ?_
  refine L.buildA (cs := [.int .i64 0, .int .i64 1, .int .i64 2]) rfl Try.underlying113 Tf.s3 Tf.z113 rfl rfl rfl trivial ?_
  refine L.build (cs := [.int .i64 5, .int .i64 0, .int .i64 1, .int .i64 2]) rfl Tf.p115 Tf.z115 rfl rfl rfl trivial ?_
  refine L.buildA (cs := [.int .i64 1, .int .i64 1, .int .i64 1]) rfl Try.underlying113 Tf.s3 Tf.z113 rfl rfl rfl trivial ?_
  refine L.build (cs := [.int .i64 9, .int .i64 1, .int .i64 1, .int .i64 1]) rfl Tf.p115 Tf.z115 rfl rfl rfl trivial ?_
  refine L.buildA (cs := [.int .i64 1, .int .i64 0, .int .i64 0]) rfl Try.underlying113 Tf.s3 Tf.z113 rfl rfl rfl trivial ?_
  refine L.build (cs := [.int .i64 4, .int .i64 1, .int .i64 0, .int .i64 0]) rfl Tf.p115 Tf.z115 rfl rfl rfl trivial ?_
  refine L.buildSlice rfl Try.underlying34 Tf.s115 Tf.z115 rfl rfl rfl rfl (.cons rfl rfl (.cons rfl rfl (.cons rfl rfl (.cons rfl rfl (.cons rfl rfl .nil))))) rfl trivial (fun b902 D902 hD902 hA902 => ?_)
  have hS902 : Sl D902 RCh 4 _ (shedD k).chairs := Froz.chs (l := (shedD k).chairs) (n := 5) (Or.inr ⟨_, 5, rfl, by omega, hA902⟩) rfl (by omega)
  refine L.move rfl rfl rfl trivial ?_
  refine L.move rfl rfl rfl trivial ?_
  refine L.sliceTo rfl Try.underlying35 Tf.s61 rfl rfl hS901 hk rfl trivial (fun v9 hv9 => ?_)
  obtain ⟨va, vc, rfl, hvr⟩ := id hv9
  refine L.build (cs := [.slice (some ⟨b902, 0, none⟩) 5 5, .int .i64 1, .slice va ([((3 : Int), (5 : Int)), (0, 2)].take k).length vc]) rfl Tf.p37 Tf.z37 rfl rfl rfl trivial ?_
  refine L.storeW rfl rfl rfl rfl Tf.s37 (by first | rfl | (simp only [ints_length, *]; done) | (simp only [ints_length, *]; rfl) | (simp only [ints_length, *]; omega)) (by first | rfl | (simp only [ints_length, *]; done) | (simp only [ints_length, *]; rfl) | (simp only [ints_length, *]; omega)) (Has.head) (by first | exact ints_cell1 _ | simp [cell1]) trivial ?_
  refine L.nil ?_
  refine C.next ?_
  refine C.ret ?_
  exact leave (vs := [_]) rfl rfl rfl ⟨⟨_, _, _, rfl, (List.Mem.head _), Or.inr ⟨Tf.a37, (by first | exact Tf.s37 | (simp only [List.size_toArray, ints_length, *]; exact Tf.s37)), rfl⟩⟩, trivial⟩ (fun D hD => ⟨_, _, rfl, hS902.up RCh.up (hD _ (by simp)), hv9.up R2.up (hD _ (by simp))⟩)
theorem parts_ok (n : Int) (D : Data) : Fn Try.prog 70 #[.int .i64 n] D (fun D' v => Sl D' RP 3 v (partsD n)) := by
  refine enter 10 Try.func70 rfl rfl rfl rfl fun h0 => ?_
  refine C.seq ?_
  refine C.region [(false,0)] rfl ?_
  refine L.assign rfl rfl rfl trivial ?_
  refine L.nil ?_
  refine C.next ?_
  refine C.seq ?_
  refine C.region [(false,0),(false,1),(false,2),(false,3),(false,4),(false,5),(false,6),(false,7)] rfl ?_
  refine L.buildA (cs := [.int .i64 1, .int .i64 0, .int .i64 0]) rfl Try.underlying113 Tf.s3 Tf.z113 rfl rfl rfl trivial ?_
  refine L.buildA (cs := [.int .i64 0, .int .i64 1, .int .i64 1]) rfl Try.underlying113 Tf.s3 Tf.z113 rfl rfl rfl trivial ?_
  refine L.move rfl rfl rfl trivial ?_
  refine L.buildA (cs := [.int .i64 0, .int .i64 1, .int .i64 n]) rfl Try.underlying113 Tf.s3 Tf.z113 rfl rfl rfl trivial ?_
  refine L.buildA (cs := [.int .i64 1, .int .i64 1, .int .i64 1]) rfl Try.underlying113 Tf.s3 Tf.z113 rfl rfl rfl trivial ?_
  refine L.buildA (cs := [.int .i64 1, .int .i64 0, .int .i64 0]) rfl Try.underlying113 Tf.s3 Tf.z113 rfl rfl rfl trivial ?_
  refine L.buildSlice rfl Try.underlying39 Tf.s113 Tf.z113 rfl rfl rfl rfl (.cons rfl rfl (.cons rfl rfl (.cons rfl rfl (.cons rfl rfl (.cons rfl rfl .nil))))) rfl trivial (fun b901 D901 hD901 hA901 => ?_)
  have hS901 : Sl D901 RP 3 _ (partsD n) := Froz.pts (l := partsD n) (n := 5) (Or.inr ⟨_, 5, rfl, by omega, hA901⟩) rfl (by omega)
  refine L.assign rfl rfl rfl trivial ?_
  refine L.nil ?_
  refine C.next ?_
  refine C.ret ?_
  exact leave (vs := [_]) rfl rfl rfl ⟨rfl, trivial⟩ (fun D hD => hS901.up RP.up (hD _ (by simp)))
end Go.Fs
namespace Go.Fs
open Go.Proofs
open C7
theorem k2_61 : K2 Try.prog 61 := ⟨by kernel_rfl, by kernel_rfl, by kernel_rfl⟩
theorem awake_ok (D : Data) : Fn Try.prog 21 #[] D (fun _ v => v = .bool true) := by
  refine enter 126 Try.func21 rfl rfl rfl rfl fun h0 => ?_
  refine C.seq ?_
  refine C.region [(false,0)] rfl ?_
  refine L.assign rfl rfl rfl trivial ?_
  refine L.nil ?_
  refine C.next ?_
  refine C.seq ?_
  refine C.region [(false,0),(false,1),(false,2),(false,3),(false,4),(false,5),(false,6),(false,7)] rfl ?_
  refine L.call rfl rfl rfl (fun D1 hD1 => shed_ok 0 (by omega) _) rfl trivial (fun v1 D1 hD1 hp1 => ?_)
  have hY1 := hp1
  refine L.call rfl rfl rfl (fun D2 hD2 => parts_ok 1 _) rfl trivial (fun v2 D2 hD2 hp2 => ?_)
  have hT1 := hp2
  refine L.callV rfl rfl rfl (fun D3 hD3 => Play_ok _ _ (shedD 0) (partsD 1) _ (hY1.up (hD3 _ (by simp))) (hT1.up RP.up (hD3 _ (by simp)))) rfl trivial ?_
  refine L.move rfl rfl rfl trivial ?_
  refine L.extract rfl rfl rfl rfl trivial ?_
  refine L.extract rfl rfl rfl rfl trivial ?_
  refine L.assign rfl rfl rfl trivial ?_
  refine L.assign rfl rfl rfl trivial ?_
  refine L.nil ?_
  refine C.next ?_
  refine C.seq ?_
  refine C.region [(false,0),(false,1),(false,2),(false,3),(false,4),(false,5),(false,6),(false,7)] rfl ?_
  refine L.call rfl rfl rfl (fun D4 hD4 => shed_ok 0 (by omega) _) rfl trivial (fun v4 D4 hD4 hp4 => ?_)
  have hY2 := hp4
  refine L.call rfl rfl rfl (fun D5 hD5 => parts_ok 0 _) rfl trivial (fun v5 D5 hD5 hp5 => ?_)
  have hT2 := hp5
  refine L.call rfl rfl rfl (fun D6 hD6 => Pairs_ok _ _ (shedD 0) (partsD 0) _ (hY2.up (hD6 _ (by simp))) (hT2.up RP.up (hD6 _ (by simp)))) rfl trivial (fun v6 D6 hD6 hp6 => ?_)
  obtain ⟨lv2, rfl, hl2⟩ := hp6
  refine L.move rfl rfl rfl trivial ?_
  refine L.extract rfl rfl rfl rfl trivial ?_
  refine L.extract rfl rfl rfl rfl trivial ?_
  refine L.assign rfl rfl rfl trivial ?_
  refine L.assign rfl rfl rfl trivial ?_
  refine L.nil ?_
  refine C.next ?_
  refine C.seq ?_
  refine C.region [(false,0),(false,1),(false,2),(false,3),(false,4),(false,5),(false,6),(false,7),(false,8),(false,9)] rfl ?_
  refine L.call rfl rfl rfl (fun D7 hD7 => shed_ok 0 (by omega) _) rfl trivial (fun v7 D7 hD7 hp7 => ?_)
  have hY3 := hp7
  refine L.call rfl rfl rfl (fun D8 hD8 => parts_ok 0 _) rfl trivial (fun v8 D8 hD8 hp8 => ?_)
  have hT3 := hp8
  refine L.call rfl rfl rfl (fun D9 hD9 => Berge_ok _ _ (shedD 0) (partsD 0) _ (hY3.up (hD9 _ (by simp))) (hT3.up RP.up (hD9 _ (by simp)))) rfl trivial (fun v9 D9 hD9 hp9 => ?_)
  obtain ⟨lv3, rfl, hl3⟩ := hp9
  refine L.move rfl rfl rfl trivial ?_
  refine L.extract rfl rfl rfl rfl trivial ?_
  refine L.extract rfl rfl rfl rfl trivial ?_
  refine L.extract rfl rfl rfl rfl trivial ?_
  refine L.assign rfl rfl rfl trivial ?_
  refine L.assign rfl rfl rfl trivial ?_
  refine L.assign rfl rfl rfl trivial ?_
  refine L.nil ?_
  refine C.next ?_
  refine C.seq ?_
  refine C.region [(false,0),(false,1),(false,2),(false,3),(false,4),(false,5),(false,6),(false,7)] rfl ?_
  refine L.call rfl rfl rfl (fun D10 hD10 => shed_ok 0 (by omega) _) rfl trivial (fun v10 D10 hD10 hp10 => ?_)
  have hY4 := hp10
  refine L.callV rfl rfl rfl (fun D11 hD11 => Bounds_ok _ (shedD 0) _ (hY4.up (hD11 _ (by simp)))) rfl trivial ?_
  refine L.move rfl rfl rfl trivial ?_
  refine L.extract rfl rfl rfl rfl trivial ?_
  refine L.extract rfl rfl rfl rfl trivial ?_
  refine L.alloc rfl Tf.z61 rfl rfl trivial (fun q1 => ?_)
  refine L.storeW rfl rfl rfl rfl Tf.s61 (by first | rfl | (simp only [ints_length, *]; done) | (simp only [ints_length, *]; rfl) | (simp only [ints_length, *]; omega)) (by first | rfl | (simp only [ints_length, *]; done) | (simp only [ints_length, *]; rfl) | (simp only [ints_length, *]; omega)) (Has.head) (by first | exact ints_cell1 _ | simp [cell1]) trivial ?_
  refine L.assign rfl rfl rfl trivial ?_
  refine L.nil ?_
  refine C.next ?_
  refine C.seq ?_
  refine C.region [(false,0),(false,1),(false,2),(false,3),(false,4),(false,5),(false,6),(false,7),(false,8)] rfl ?_
  refine L.call rfl rfl rfl (fun D12 hD12 => shed_ok 0 (by omega) _) rfl trivial (fun v12 D12 hD12 hp12 => ?_)
  have hY5 := hp12
  refine L.call rfl rfl rfl (fun D13 hD13 => Sure_ok _ (shedD 0) _ (hY5.up (hD13 _ (by simp)))) rfl trivial (fun v13 D13 hD13 hp13 => ?_)
  obtain ⟨lv5, rfl, hl5⟩ := hp13
  refine L.move rfl rfl rfl trivial ?_
  refine L.extract rfl rfl rfl rfl trivial ?_
  refine L.extract rfl rfl rfl rfl trivial ?_
  refine L.extract rfl rfl rfl rfl trivial ?_
  refine L.assign rfl rfl rfl trivial ?_
  refine L.assign rfl rfl rfl trivial ?_
  refine L.assign rfl rfl rfl trivial ?_
  refine L.nil ?_
  refine C.next ?_
  refine C.seq ?_
  refine C.region [(false,0),(false,1),(false,2),(false,3),(false,4),(false,5),(false,6)] rfl ?_
  refine L.call rfl rfl rfl (fun D14 hD14 => shed_ok 2 (by omega) _) rfl trivial (fun v14 D14 hD14 hp14 => ?_)
  have hY6 := hp14
  refine L.callV rfl rfl rfl (fun D15 hD15 => First_ok _ (shedD 2) _ (hY6.up (hD15 _ (by simp)))) rfl trivial ?_
  refine L.move rfl rfl rfl trivial ?_
  refine L.extract rfl rfl rfl rfl trivial ?_
  refine L.extract rfl rfl rfl rfl trivial ?_
  refine L.assign rfl rfl rfl trivial ?_
  refine L.assign rfl rfl rfl trivial ?_
  refine L.nil ?_
  refine C.next ?_
  refine C.seq ?_
  refine C.region [(false,0),(false,1),(false,2),(false,3),(false,4),(false,5),(false,6)] rfl ?_
  refine L.call rfl rfl rfl (fun D16 hD16 => shed_ok 2 (by omega) _) rfl trivial (fun v16 D16 hD16 hp16 => ?_)
  have hY7 := hp16
  refine L.call rfl rfl rfl (fun D17 hD17 => Leave_ok _ (shedD 2) _ (hY7.up (hD17 _ (by simp)))) rfl trivial (fun v17 D17 hD17 hp17 => ?_)
  obtain ⟨lv7, rfl, hl7⟩ := hp17
  refine L.move rfl rfl rfl trivial ?_
  refine L.extract rfl rfl rfl rfl trivial ?_
  refine L.extract rfl rfl rfl rfl trivial ?_
  refine L.assign rfl rfl rfl trivial ?_
  refine L.assign rfl rfl rfl trivial ?_
  refine L.nil ?_
  refine C.next ?_
  refine C.seq ?_
  refine C.draw [] 21 [0,1,2,3,4,5,6,7,8,9,10,13,11,12,14,15,16,17,18,19,20,21,22,23,24,27,25,26,28,29,30,31,32,33,34,35,36,37,38,39,40,41,42,43,44,45,46,47,49,48,50,51,52,53,54,55,56,57,58,59,60,61,62,63,64,65,66,67,68,69] [false,false,false,false,false,false,false,false,false,false,false,false,true,true,false,false,false,false,false,false,false,false,false,false,false,false,true,true,false,false,false,false,false,false,false,false,true,false,false,false,false,false,false,false,false,false,false,false,false,true,false,false,false,false,false,false,false,false,false,false,false,false,false,false,false,false,true,false,false,false] [(false,0),(false,1),(false,2),(false,3),(false,4),(false,5),(false,6),(false,7),(false,8),(false,9),(false,10),(false,13),(true,11),(true,12),(false,14),(false,15),(false,16),(false,17),(false,18),(false,19),(false,20),(false,21),(false,22),(false,23),(false,24),(false,27),(true,25),(true,26),(false,28),(false,29),(false,30),(false,31),(false,32),(false,33),(false,34),(false,35),(true,36),(false,37),(false,38),(false,39),(false,40),(false,41),(false,42),(false,43),(false,44),(false,45),(false,46),(false,47),(false,49),(true,48),(false,50),(false,51),(false,52),(false,53),(false,54),(false,55),(false,56),(false,57),(false,58),(false,59),(false,60),(false,61),(false,62),(false,63),(false,64),(false,65),(true,66),(false,67),(false,68),(false,69)] Tf.follows (fun _ _ _ h => np_body (P := Try.prog) (fn := Try.f21) _ _ _ h) (by kernel_rfl) rfl ?_
  refine L.move rfl rfl rfl trivial ?_
  refine L.eql rfl rfl rfl rfl trivial ?_
  refine L.move rfl rfl rfl trivial ?_
  refine' L.and [(false,3),(false,4),(false,5)] [(false,6),(false,7),(false,8),(false,9),(false,10),(false,13),(true,11),(true,12),(false,14),(false,15),(false,16),(false,17),(false,18),(false,19),(false,20),(false,21),(false,22),(false,23),(false,24),(false,27),(true,25),(true,26),(false,28),(false,29),(false,30),(false,31),(false,32),(false,33),(false,34),(false,35),(true,36),(false,37),(false,38),(false,39),(false,40),(false,41),(false,42),(false,43),(false,44),(false,45),(false,46),(false,47),(false,49),(true,48),(false,50),(false,51),(false,52),(false,53),(false,54),(false,55),(false,56),(false,57),(false,58),(false,59),(false,60),(false,61),(false,62),(false,63),(false,64),(false,65),(true,66),(false,67),(false,68),(false,69)] (s := 59) (p := 62) rfl rfl (fun hg1 => ?_) (fun hg1 => ?_) ?_
  rotate_left
  · refine L.move rfl rfl rfl ⟨_, rfl, rfl⟩ ?_
    refine L.eql rfl rfl rfl rfl ⟨_, rfl, rfl⟩ ?_
    refine L.pickT rfl rfl rfl rfl trivial ?_
    exact L.nil fun a w hh => hh.cutK 2 rfl
  · refine L.pass rfl rfl rfl ⟨_, _, rfl, rfl, rfl⟩ ?_
    refine L.pass rfl rfl rfl ⟨_, _, rfl, rfl, rfl⟩ ?_
    refine L.pickF rfl rfl rfl rfl trivial ?_
    exact L.nil fun a w hh => hh.cutK 2 rfl
  refine L.move rfl rfl rfl trivial ?_
  refine' L.and [(false,7),(false,8),(false,9)] [(false,10),(false,13),(true,11),(true,12),(false,14),(false,15),(false,16),(false,17),(false,18),(false,19),(false,20),(false,21),(false,22),(false,23),(false,24),(false,27),(true,25),(true,26),(false,28),(false,29),(false,30),(false,31),(false,32),(false,33),(false,34),(false,35),(true,36),(false,37),(false,38),(false,39),(false,40),(false,41),(false,42),(false,43),(false,44),(false,45),(false,46),(false,47),(false,49),(true,48),(false,50),(false,51),(false,52),(false,53),(false,54),(false,55),(false,56),(false,57),(false,58),(false,59),(false,60),(false,61),(false,62),(false,63),(false,64),(false,65),(true,66),(false,67),(false,68),(false,69)] (s := 63) (p := 66) rfl rfl (fun hg2 => ?_) (fun hg2 => ?_) ?_
  rotate_left
  · refine L.move rfl rfl rfl ⟨_, rfl, rfl⟩ ?_
    refine L.eql rfl rfl rfl rfl ⟨_, rfl, rfl⟩ ?_
    refine L.pickT rfl rfl rfl rfl trivial ?_
    exact L.nil fun a w hh => hh.cutK 2 rfl
  · refine L.pass rfl rfl rfl ⟨_, _, rfl, rfl, rfl⟩ ?_
    refine L.pass rfl rfl rfl ⟨_, _, rfl, rfl, rfl⟩ ?_
    refine L.pickF rfl rfl rfl rfl trivial ?_
    exact L.nil fun a w hh => hh.cutK 2 rfl
  refine L.move rfl rfl rfl trivial ?_
  refine' L.and [(false,13),(true,11),(true,12),(false,14),(false,15)] [(false,16),(false,17),(false,18),(false,19),(false,20),(false,21),(false,22),(false,23),(false,24),(false,27),(true,25),(true,26),(false,28),(false,29),(false,30),(false,31),(false,32),(false,33),(false,34),(false,35),(true,36),(false,37),(false,38),(false,39),(false,40),(false,41),(false,42),(false,43),(false,44),(false,45),(false,46),(false,47),(false,49),(true,48),(false,50),(false,51),(false,52),(false,53),(false,54),(false,55),(false,56),(false,57),(false,58),(false,59),(false,60),(false,61),(false,62),(false,63),(false,64),(false,65),(true,66),(false,67),(false,68),(false,69)] (s := 67) (p := 72) rfl rfl (fun hg3 => ?_) (fun hg3 => ?_) ?_
  rotate_left
  · refine L.move rfl rfl rfl ⟨_, rfl, rfl⟩ ?_
    refine L.call rfl rfl rfl (fun D18 hD18 => shed_ok 0 (by omega) _) rfl ⟨_, rfl, rfl⟩ (fun v18 D18 hD18 hp18 => ?_)
    have hY8 := hp18
    refine L.call rfl rfl rfl (fun D19 hD19 => parts_ok 0 _) rfl ⟨_, rfl, rfl⟩ (fun v19 D19 hD19 hp19 => ?_)
    have hT8 := hp19
    refine L.callV rfl rfl rfl (fun D20 hD20 => ProvePairs_ok _ _ _ (shedD 0) (partsD 0) _ 2 _ (hY8.up (hD20 _ (by simp))) (hT8.up RP.up (hD20 _ (by simp))) (hl2.up R2.up (hD20 _ (by simp)))) rfl ⟨_, rfl, rfl⟩ ?_
    refine L.pickT rfl rfl rfl rfl trivial ?_
    exact L.nil fun a w hh => (hh.cutK 4 rfl).ds (fun _ h => List.Mem.tail _ (List.Mem.tail _ (h)))
  · refine L.pass rfl rfl rfl ⟨_, _, rfl, rfl, rfl⟩ ?_
    refine L.pass rfl rfl rfl ⟨_, _, rfl, rfl, rfl⟩ ?_
    refine L.pass rfl rfl rfl ⟨_, _, rfl, rfl, rfl⟩ ?_
    refine L.pass rfl rfl rfl ⟨_, _, rfl, rfl, rfl⟩ ?_
    refine L.pickF rfl rfl rfl rfl trivial ?_
    exact L.nil fun a w hh => hh.cutK 4 rfl
  refine L.move rfl rfl rfl trivial ?_
  refine' L.and [(false,17),(false,18),(false,19)] [(false,20),(false,21),(false,22),(false,23),(false,24),(false,27),(true,25),(true,26),(false,28),(false,29),(false,30),(false,31),(false,32),(false,33),(false,34),(false,35),(true,36),(false,37),(false,38),(false,39),(false,40),(false,41),(false,42),(false,43),(false,44),(false,45),(false,46),(false,47),(false,49),(true,48),(false,50),(false,51),(false,52),(false,53),(false,54),(false,55),(false,56),(false,57),(false,58),(false,59),(false,60),(false,61),(false,62),(false,63),(false,64),(false,65),(true,66),(false,67),(false,68),(false,69)] (s := 73) (p := 76) rfl rfl (fun hg4 => ?_) (fun hg4 => ?_) ?_
  rotate_left
  · refine L.move rfl rfl rfl ⟨_, rfl, rfl⟩ ?_
    refine L.eql rfl rfl rfl rfl ⟨_, rfl, rfl⟩ ?_
    refine L.pickT rfl rfl rfl rfl trivial ?_
    exact L.nil fun a w hh => hh.cutK 2 rfl
  · refine L.pass rfl rfl rfl ⟨_, _, rfl, rfl, rfl⟩ ?_
    refine L.pass rfl rfl rfl ⟨_, _, rfl, rfl, rfl⟩ ?_
    refine L.pickF rfl rfl rfl rfl trivial ?_
    exact L.nil fun a w hh => hh.cutK 2 rfl
  refine L.move rfl rfl rfl trivial ?_
  refine' L.and [(false,21),(false,22),(false,23)] [(false,24),(false,27),(true,25),(true,26),(false,28),(false,29),(false,30),(false,31),(false,32),(false,33),(false,34),(false,35),(true,36),(false,37),(false,38),(false,39),(false,40),(false,41),(false,42),(false,43),(false,44),(false,45),(false,46),(false,47),(false,49),(true,48),(false,50),(false,51),(false,52),(false,53),(false,54),(false,55),(false,56),(false,57),(false,58),(false,59),(false,60),(false,61),(false,62),(false,63),(false,64),(false,65),(true,66),(false,67),(false,68),(false,69)] (s := 77) (p := 80) rfl rfl (fun hg5 => ?_) (fun hg5 => ?_) ?_
  rotate_left
  · refine L.move rfl rfl rfl ⟨_, rfl, rfl⟩ ?_
    refine L.eql rfl rfl rfl rfl ⟨_, rfl, rfl⟩ ?_
    refine L.pickT rfl rfl rfl rfl trivial ?_
    exact L.nil fun a w hh => hh.cutK 2 rfl
  · refine L.pass rfl rfl rfl ⟨_, _, rfl, rfl, rfl⟩ ?_
    refine L.pass rfl rfl rfl ⟨_, _, rfl, rfl, rfl⟩ ?_
    refine L.pickF rfl rfl rfl rfl trivial ?_
    exact L.nil fun a w hh => hh.cutK 2 rfl
  refine L.move rfl rfl rfl trivial ?_
  refine' L.and [(false,27),(true,25),(true,26),(false,28),(false,29)] [(false,30),(false,31),(false,32),(false,33),(false,34),(false,35),(true,36),(false,37),(false,38),(false,39),(false,40),(false,41),(false,42),(false,43),(false,44),(false,45),(false,46),(false,47),(false,49),(true,48),(false,50),(false,51),(false,52),(false,53),(false,54),(false,55),(false,56),(false,57),(false,58),(false,59),(false,60),(false,61),(false,62),(false,63),(false,64),(false,65),(true,66),(false,67),(false,68),(false,69)] (s := 81) (p := 86) rfl rfl (fun hg6 => ?_) (fun hg6 => ?_) ?_
  rotate_left
  · refine L.move rfl rfl rfl ⟨_, rfl, rfl⟩ ?_
    refine L.call rfl rfl rfl (fun D21 hD21 => shed_ok 0 (by omega) _) rfl ⟨_, rfl, rfl⟩ (fun v21 D21 hD21 hp21 => ?_)
    have hY9 := hp21
    refine L.call rfl rfl rfl (fun D22 hD22 => parts_ok 0 _) rfl ⟨_, rfl, rfl⟩ (fun v22 D22 hD22 hp22 => ?_)
    have hT9 := hp22
    refine L.callV rfl rfl rfl (fun D23 hD23 => ProveBerge_ok _ _ _ (shedD 0) (partsD 0) _ 2 _ (hY9.up (hD23 _ (by simp))) (hT9.up RP.up (hD23 _ (by simp))) (hl3.up RI.up (hD23 _ (by simp)))) rfl ⟨_, rfl, rfl⟩ ?_
    refine L.pickT rfl rfl rfl rfl trivial ?_
    exact L.nil fun a w hh => (hh.cutK 4 rfl).ds (fun _ h => List.Mem.tail _ (List.Mem.tail _ (h)))
  · refine L.pass rfl rfl rfl ⟨_, _, rfl, rfl, rfl⟩ ?_
    refine L.pass rfl rfl rfl ⟨_, _, rfl, rfl, rfl⟩ ?_
    refine L.pass rfl rfl rfl ⟨_, _, rfl, rfl, rfl⟩ ?_
    refine L.pass rfl rfl rfl ⟨_, _, rfl, rfl, rfl⟩ ?_
    refine L.pickF rfl rfl rfl rfl trivial ?_
    exact L.nil fun a w hh => hh.cutK 4 rfl
  refine L.move rfl rfl rfl trivial ?_
  refine' L.and [(false,31),(false,32),(false,33)] [(false,34),(false,35),(true,36),(false,37),(false,38),(false,39),(false,40),(false,41),(false,42),(false,43),(false,44),(false,45),(false,46),(false,47),(false,49),(true,48),(false,50),(false,51),(false,52),(false,53),(false,54),(false,55),(false,56),(false,57),(false,58),(false,59),(false,60),(false,61),(false,62),(false,63),(false,64),(false,65),(true,66),(false,67),(false,68),(false,69)] (s := 87) (p := 90) rfl rfl (fun hg7 => ?_) (fun hg7 => ?_) ?_
  rotate_left
  · refine L.move rfl rfl rfl ⟨_, rfl, rfl⟩ ?_
    refine L.eql rfl rfl rfl rfl ⟨_, rfl, rfl⟩ ?_
    refine L.pickT rfl rfl rfl rfl trivial ?_
    exact L.nil fun a w hh => hh.cutK 2 rfl
  · refine L.pass rfl rfl rfl ⟨_, _, rfl, rfl, rfl⟩ ?_
    refine L.pass rfl rfl rfl ⟨_, _, rfl, rfl, rfl⟩ ?_
    refine L.pickF rfl rfl rfl rfl trivial ?_
    exact L.nil fun a w hh => hh.cutK 2 rfl
  refine L.move rfl rfl rfl trivial ?_
  refine' L.and [(false,35),(true,36),(false,37),(false,38)] [(false,39),(false,40),(false,41),(false,42),(false,43),(false,44),(false,45),(false,46),(false,47),(false,49),(true,48),(false,50),(false,51),(false,52),(false,53),(false,54),(false,55),(false,56),(false,57),(false,58),(false,59),(false,60),(false,61),(false,62),(false,63),(false,64),(false,65),(true,66),(false,67),(false,68),(false,69)] (s := 91) (p := 95) rfl rfl (fun hg8 => ?_) (fun hg8 => ?_) ?_
  rotate_left
  · refine L.loadBW rfl Tf.a61 rfl (List.Mem.head _) Tf.s61 List.not_mem_nil rfl ⟨_, rfl, rfl⟩ ?_
    refine L.callV rfl rfl rfl (fun D24 hD24 => between_ok _ _ _) rfl ⟨_, rfl, rfl⟩ ?_
    refine L.eqlK  rfl (by kernel_rfl) k2_61 rfl rfl rfl ⟨_, rfl, rfl⟩ ?_
    refine L.pickT rfl rfl rfl rfl trivial ?_
    exact L.nil fun a w hh => hh.cutK 3 rfl
  · refine L.pass rfl rfl rfl ⟨_, _, rfl, rfl, rfl⟩ ?_
    refine L.pass rfl rfl rfl ⟨_, _, rfl, rfl, rfl⟩ ?_
    refine L.pass rfl rfl rfl ⟨_, _, rfl, rfl, rfl⟩ ?_
    refine L.pickF rfl rfl rfl rfl trivial ?_
    exact L.nil fun a w hh => hh.cutK 3 rfl
  refine L.move rfl rfl rfl trivial ?_
  refine' L.and [(false,40),(false,41),(false,42)] [(false,43),(false,44),(false,45),(false,46),(false,47),(false,49),(true,48),(false,50),(false,51),(false,52),(false,53),(false,54),(false,55),(false,56),(false,57),(false,58),(false,59),(false,60),(false,61),(false,62),(false,63),(false,64),(false,65),(true,66),(false,67),(false,68),(false,69)] (s := 96) (p := 99) rfl rfl (fun hg9 => ?_) (fun hg9 => ?_) ?_
  rotate_left
  · refine L.move rfl rfl rfl ⟨_, rfl, rfl⟩ ?_
    refine L.eql rfl rfl rfl rfl ⟨_, rfl, rfl⟩ ?_
    refine L.pickT rfl rfl rfl rfl trivial ?_
    exact L.nil fun a w hh => hh.cutK 2 rfl
  · refine L.pass rfl rfl rfl ⟨_, _, rfl, rfl, rfl⟩ ?_
    refine L.pass rfl rfl rfl ⟨_, _, rfl, rfl, rfl⟩ ?_
    refine L.pickF rfl rfl rfl rfl trivial ?_
    exact L.nil fun a w hh => hh.cutK 2 rfl
  refine L.move rfl rfl rfl trivial ?_
  refine' L.and [(false,44),(false,45),(false,46)] [(false,47),(false,49),(true,48),(false,50),(false,51),(false,52),(false,53),(false,54),(false,55),(false,56),(false,57),(false,58),(false,59),(false,60),(false,61),(false,62),(false,63),(false,64),(false,65),(true,66),(false,67),(false,68),(false,69)] (s := 100) (p := 103) rfl rfl (fun hg10 => ?_) (fun hg10 => ?_) ?_
  rotate_left
  · refine L.move rfl rfl rfl ⟨_, rfl, rfl⟩ ?_
    refine L.eql rfl rfl rfl rfl ⟨_, rfl, rfl⟩ ?_
    refine L.pickT rfl rfl rfl rfl trivial ?_
    exact L.nil fun a w hh => hh.cutK 2 rfl
  · refine L.pass rfl rfl rfl ⟨_, _, rfl, rfl, rfl⟩ ?_
    refine L.pass rfl rfl rfl ⟨_, _, rfl, rfl, rfl⟩ ?_
    refine L.pickF rfl rfl rfl rfl trivial ?_
    exact L.nil fun a w hh => hh.cutK 2 rfl
  refine L.move rfl rfl rfl trivial ?_
  refine' L.and [(false,49),(true,48),(false,50),(false,51)] [(false,52),(false,53),(false,54),(false,55),(false,56),(false,57),(false,58),(false,59),(false,60),(false,61),(false,62),(false,63),(false,64),(false,65),(true,66),(false,67),(false,68),(false,69)] (s := 104) (p := 108) rfl rfl (fun hg11 => ?_) (fun hg11 => ?_) ?_
  rotate_left
  · refine L.move rfl rfl rfl ⟨_, rfl, rfl⟩ ?_
    refine L.call rfl rfl rfl (fun D25 hD25 => shed_ok 0 (by omega) _) rfl ⟨_, rfl, rfl⟩ (fun v25 D25 hD25 hp25 => ?_)
    have hY10 := hp25
    refine L.callV rfl rfl rfl (fun D26 hD26 => ProveSure_ok _ _ (shedD 0) _ 2 _ (hY10.up (hD26 _ (by simp))) (hl5.up R2.up (hD26 _ (by simp)))) rfl ⟨_, rfl, rfl⟩ ?_
    refine L.pickT rfl rfl rfl rfl trivial ?_
    exact L.nil fun a w hh => (hh.cutK 3 rfl).ds (fun _ h => List.Mem.tail _ (h))
  · refine L.pass rfl rfl rfl ⟨_, _, rfl, rfl, rfl⟩ ?_
    refine L.pass rfl rfl rfl ⟨_, _, rfl, rfl, rfl⟩ ?_
    refine L.pass rfl rfl rfl ⟨_, _, rfl, rfl, rfl⟩ ?_
    refine L.pickF rfl rfl rfl rfl trivial ?_
    exact L.nil fun a w hh => hh.cutK 3 rfl
  refine L.move rfl rfl rfl trivial ?_
  refine' L.and [(false,53),(false,54),(false,55)] [(false,56),(false,57),(false,58),(false,59),(false,60),(false,61),(false,62),(false,63),(false,64),(false,65),(true,66),(false,67),(false,68),(false,69)] (s := 109) (p := 112) rfl rfl (fun hg12 => ?_) (fun hg12 => ?_) ?_
  rotate_left
  · refine L.move rfl rfl rfl ⟨_, rfl, rfl⟩ ?_
    refine L.eql rfl rfl rfl rfl ⟨_, rfl, rfl⟩ ?_
    refine L.pickT rfl rfl rfl rfl trivial ?_
    exact L.nil fun a w hh => hh.cutK 2 rfl
  · refine L.pass rfl rfl rfl ⟨_, _, rfl, rfl, rfl⟩ ?_
    refine L.pass rfl rfl rfl ⟨_, _, rfl, rfl, rfl⟩ ?_
    refine L.pickF rfl rfl rfl rfl trivial ?_
    exact L.nil fun a w hh => hh.cutK 2 rfl
  refine L.move rfl rfl rfl trivial ?_
  refine' L.and [(false,57),(false,58),(false,59)] [(false,60),(false,61),(false,62),(false,63),(false,64),(false,65),(true,66),(false,67),(false,68),(false,69)] (s := 113) (p := 116) rfl rfl (fun hg13 => ?_) (fun hg13 => ?_) ?_
  rotate_left
  · refine L.move rfl rfl rfl ⟨_, rfl, rfl⟩ ?_
    refine L.eql rfl rfl rfl rfl ⟨_, rfl, rfl⟩ ?_
    refine L.pickT rfl rfl rfl rfl trivial ?_
    exact L.nil fun a w hh => hh.cutK 2 rfl
  · refine L.pass rfl rfl rfl ⟨_, _, rfl, rfl, rfl⟩ ?_
    refine L.pass rfl rfl rfl ⟨_, _, rfl, rfl, rfl⟩ ?_
    refine L.pickF rfl rfl rfl rfl trivial ?_
    exact L.nil fun a w hh => hh.cutK 2 rfl
  refine L.move rfl rfl rfl trivial ?_
  refine' L.and [(false,61),(false,62),(false,63)] [(false,64),(false,65),(true,66),(false,67),(false,68),(false,69)] (s := 117) (p := 120) rfl rfl (fun hg14 => ?_) (fun hg14 => ?_) ?_
  rotate_left
  · refine L.move rfl rfl rfl ⟨_, rfl, rfl⟩ ?_
    refine L.eql rfl rfl rfl rfl ⟨_, rfl, rfl⟩ ?_
    refine L.pickT rfl rfl rfl rfl trivial ?_
    exact L.nil fun a w hh => hh.cutK 2 rfl
  · refine L.pass rfl rfl rfl ⟨_, _, rfl, rfl, rfl⟩ ?_
    refine L.pass rfl rfl rfl ⟨_, _, rfl, rfl, rfl⟩ ?_
    refine L.pickF rfl rfl rfl rfl trivial ?_
    exact L.nil fun a w hh => hh.cutK 2 rfl
  refine L.move rfl rfl rfl trivial ?_
  refine' L.and [(false,65),(true,66),(false,67),(false,68)] [(false,69)] (s := 121) (p := 125) rfl rfl (fun hg15 => ?_) (fun hg15 => ?_) ?_
  rotate_left
  · refine L.move rfl rfl rfl ⟨_, rfl, rfl⟩ ?_
    refine L.buildSlice rfl Try.underlying52 Tf.s3 Tf.z3 rfl rfl rfl rfl (.cons rfl rfl .nil) rfl ⟨_, rfl, rfl⟩ (fun b901 D901 hD901 hA901 => ?_)
    have hS901 : Sl D901 RI 1 _ [0] := Froz.ints (l := [0]) (n := 1) (Or.inr ⟨_, 1, rfl, by omega, hA901⟩) rfl (by omega)
    refine L.callV rfl rfl rfl (fun D27 hD27 => ints_ok _ _ _ [0] _ (hl7.up RI.up (hD27 _ (by simp))) (hS901.up RI.up (hD27 _ (by simp)))) rfl ⟨_, rfl, rfl⟩ ?_
    refine L.pickT rfl rfl rfl rfl trivial ?_
    exact L.nil fun a w hh => (hh.cutK 3 rfl).ds (fun _ h => List.Mem.tail _ (h))
  · refine L.pass rfl rfl rfl ⟨_, _, rfl, rfl, rfl⟩ ?_
    refine L.pass rfl rfl rfl ⟨_, _, rfl, rfl, rfl⟩ ?_
    refine L.pass rfl rfl rfl ⟨_, _, rfl, rfl, rfl⟩ ?_
    refine L.pickF rfl rfl rfl rfl trivial ?_
    exact L.nil fun a w hh => hh.cutK 3 rfl
  refine L.assign rfl rfl rfl trivial ?_
  refine L.nil ?_
  refine C.next ?_
  refine C.ret ?_
  exact leave (vs := [_]) rfl rfl rfl ⟨rfl, trivial⟩ (fun D hD => congrArg Value.bool (by decide +kernel))
end Go.Fs
namespace Go.Fs
open Go.Proofs
open C7
theorem thin_len {y : YardD} (h : thin y = true) : y.chairs.length ≤ 9 ∧ y.claims.length ≤ 7 := by
  simp only [thin, Bool.and_eq_true, decide_eq_true_eq] at h; omega
theorem fitB_comm (y : YardD) (t : List Pt) (a b : Nat) : fitB y t a b = fitB y t b a := by
  unfold fitB
  cases t[a]? <;> cases t[b]? <;> cases y.chairs[a]? <;> cases y.chairs[b]? <;> try rfl
  rename_i p q x z
  simp only
  rw [near_comm, joins_comm, show decide ((b : Int) ≠ a) = decide ((a : Int) ≠ b) from decide_eq_decide.2 ⟨fun h e => h e.symm, fun h e => h e.symm⟩]
theorem fitB_in {y : YardD} {t : List Pt} {a b : Nat} (h : fitB y t a b = true) : a < t.length ∧ b < t.length ∧ brokB t a = true ∧ brokB t b = true := by
  unfold fitB at h
  split at h
  · rename_i p q x z hp hq _ _
    simp only [joins, Bool.and_eq_true] at h
    refine ⟨(List.getElem?_eq_some_iff.1 hp).1, (List.getElem?_eq_some_iff.1 hq).1, ?_, ?_⟩
    · unfold brokB; rw [hp]; exact h.2.1.1
    · unfold brokB; rw [hq]; exact h.2.1.2
  · simp at h
theorem fB_fits {y : YardD} {t : List Pt} (h7 : t.length ≤ 7) : fB (sceneD y t).fits = fitB y t := by
  funext a b
  unfold fB sceneD
  simp only [List.getD_eq_getElem?_getD, List.getElem?_map]
  by_cases ha : a < 7
  · rw [List.getElem?_range ha, Option.map_some, Option.getD_some, bset_bit]
    cases e : fitB y t a b with
    | false => simp
    | true => simp [(fitB_in e).2.1]
  · rw [List.getElem?_eq_none (by simp; omega)]
    cases e : fitB y t a b with
    | false => simp
    | true => have := (fitB_in e).1; omega
/-- The most pairs: program. -/
theorem nu_is {y : YardD} {t : List Pt} (hl : t.length = y.chairs.length) (h7 : t.length ≤ 7) : IsNu (fitB y t) (sceneD y t).broken.testBit (nuB (sceneD y t).fits y.chairs.length (sceneD y t).broken) := by
  have := nuB_is (F := (sceneD y t).fits) (n := y.chairs.length) (fun a b => by rw [fB_fits h7]; exact fitB_comm y t a b) _ (sceneD y t).broken (Nat.le_refl _) (scene_ok' hl h7).bits
  rwa [fB_fits h7] at this
end Go.Fs
namespace Go.Fs
open Go.Proofs
open C7
end Go.Fs
namespace Go.Fs
open Go.Proofs
open C7
theorem play_eq {y : YardD} {t : List Pt} (h : fault y = 0) (ht : isTruth y t = true) : playV y t = (((mostT y t : Nat) : Int), 0) := by unfold playV; rw [if_neg (by omega), if_pos ht]
end Go.Fs
namespace Go.Fs
open Go.Proofs
open C7
def setK (st : List Int × Nat) (j : Nat) : List Int × Nat := if st.1[j]? = some 2 then (st.1.set j ((st.2 : Int) % 2), st.2 / 2) else st
def nthK (l : List Int) (m k : Nat) : List Int × Nat := (List.range k).foldl setK (l, m)
theorem nthK_succ (l : List Int) (m k : Nat) : nthK l m (k + 1) = setK (nthK l m k) k := by unfold nthK; rw [List.range_succ, List.foldl_append]; rfl
theorem nthK_yes {l : List Int} {m k : Nat} (h : (nthK l m k).1[k]? = some 2) : nthK l m (k + 1) = ((nthK l m k).1.set k (((nthK l m k).2 : Int) % 2), (nthK l m k).2 / 2) := by rw [nthK_succ, setK, if_pos h]
theorem nthK_no {l : List Int} {m k : Nat} (h : (nthK l m k).1[k]? ≠ some 2) : nthK l m (k + 1) = nthK l m k := by rw [nthK_succ, setK, if_neg h]
theorem nthK_len (l : List Int) (m : Nat) : ∀ k, (nthK l m k).1.length = l.length
  | 0 => rfl
  | k + 1 => by rw [nthK_succ, setK]; split <;> simp [nthK_len l m k]
theorem nthK_le (l : List Int) (m : Nat) : ∀ k, (nthK l m k).2 ≤ m
  | 0 => Nat.le_refl _
  | k + 1 => by
    have := nthK_le l m k
    rw [nthK_succ, setK]; split
    · simp only; omega
    · exact this
/-- A part of the truth with a number, and what is left of the number. -/
def p1 (x : Int) (m : Nat) : Int × Nat := if x = 2 then ((m : Int) % 2, m / 2) else (x, m)
def p3 (p : Pt) (m : Nat) : Pt × Nat := (⟨(p1 p.a m).1, (p1 p.b (p1 p.a m).2).1, (p1 p.c (p1 p.b (p1 p.a m).2).2).1⟩, (p1 p.c (p1 p.b (p1 p.a m).2).2).2)
theorem nthK_3 (p : Pt) (m : Nat) : nthK p.l m 3 = ((p3 p m).1.l, (p3 p m).2) := by
  rw [nthK_succ, nthK_succ, nthK_succ]
  show setK (setK (setK (p.l, m) 0) 1) 2 = _
  unfold setK p3 p1 Pt.l
  by_cases ha : p.a = 2 <;> by_cases hb : p.b = 2 <;> by_cases hc : p.c = 2 <;> simp [ha, hb, hc]
theorem p1_le (x : Int) (m : Nat) : (p1 x m).2 ≤ m := by unfold p1; split <;> (simp only; omega)
theorem p3_le (p : Pt) (m : Nat) : (p3 p m).2 ≤ m := Nat.le_trans (p1_le _ _) (Nat.le_trans (p1_le _ _) (p1_le _ _))
def nthS (st : List Pt × Nat) (c : Ch) : List Pt × Nat := (st.1 ++ [(p3 c.parts st.2).1], (p3 c.parts st.2).2)
/-- The truth with a number. -/
def nthC (l : List Ch) (n : Nat) : List Pt × Nat := l.foldl nthS ([], n)
theorem nthC_snoc {l : List Ch} {n i : Nat} {x : Ch} (h : l[i]? = some x) : nthC (l.take (i + 1)) n = ((nthC (l.take i) n).1 ++ [(p3 x.parts (nthC (l.take i) n).2).1], (p3 x.parts (nthC (l.take i) n).2).2) := by
  unfold nthC; rw [List.take_add_one, h, Option.toList_some, List.foldl_append]; rfl
theorem nthS_len : ∀ (l : List Ch) (st : List Pt × Nat), (l.foldl nthS st).1.length = st.1.length + l.length
  | [], st => by simp
  | c :: l, st => by rw [List.foldl_cons, nthS_len l]; simp [nthS]; omega
theorem nthC_len (l : List Ch) (n : Nat) : (nthC l n).1.length = l.length := by unfold nthC; rw [nthS_len]; simp
theorem nthS_le : ∀ (l : List Ch) (st : List Pt × Nat), (l.foldl nthS st).2 ≤ st.2
  | [], st => Nat.le_refl _
  | c :: l, st => by rw [List.foldl_cons]; exact Nat.le_trans (nthS_le l _) (p3_le _ _)
theorem nthC_le (l : List Ch) (n : Nat) : (nthC l n).2 ≤ n := nthS_le l _
theorem Nth_ok (yv : Value) (y : YardD) (n : Nat) (D : Data) (hy : YardIs D yv y) (hc7 : y.chairs.length ≤ 1000) (hn : n ≤ 1000000) : Fn Try.prog 54 #[yv, .int .i64 (n : Int)] D (fun D' v => Sl D' RP 3 v (nthC y.chairs n).1) := by
  obtain ⟨cv, qv, rfl, hc, hq⟩ := hy
  have hcl := hc.len
  refine enter 41 Try.func54 rfl rfl rfl rfl fun h0 => ?_
  refine C.seq ?_
  refine C.region [(false,0),(false,1)] rfl ?_
  refine L.boxD rfl rfl rfl rfl trivial (fun q1 E1 hE1 hB1 => ?_)
  refine L.assign rfl rfl rfl trivial ?_
  refine L.nil ?_
  refine C.next ?_
  refine C.seq ?_
  refine C.region [(false,0)] rfl ?_
  refine L.assign rfl rfl rfl trivial ?_
  refine L.nil ?_
  refine C.next ?_
  refine C.seq ?_
  refine C.seq ?_
  refine C.region [(false,0)] rfl ?_
  refine L.assign rfl rfl rfl trivial ?_
  refine L.nil ?_
  refine C.next ?_
  refine C.block ?_
  refine C.loopR (γ := Nat × Value × Boxes × Nat) (fun g => y.chairs.length - g.1) (fun g => g.1 ≤ y.chairs.length ∧ Acc 91 3 g.2.1 g.1 (ptC (nthC (y.chairs.take g.1) n).1) g.2.2.1 ∧ g.2.2.2 = (nthC (y.chairs.take g.1) n).2) (fun g => [(1, .int .i64 (g.2.2.2 : Int)), (5, g.2.1), (6, .int .i64 (g.1 : Int))]) [(4, _), (2, _)] (fun g => g.2.2.1 ++ []) (fun g => [E1, D]) (0, .slice none 0 0, [], n) ⟨by simp, by simpa [ptC, nthC] using Acc.nil, rfl⟩ ⟨(by first | rfl | (show some (Value.int _ _) = some (Value.int _ _); congr 2; omega)), (by first | rfl | (show some (Value.int _ _) = some (Value.int _ _); congr 2; omega)), (by first | rfl | (show some (Value.int _ _) = some (Value.int _ _); congr 2; omega)), trivial⟩ ⟨rfl, rfl, trivial⟩ (List.Sublist.refl _) (ds_same) ?_
  rintro ⟨i, v, ν, m⟩ ⟨h1, ha, hm⟩
  simp only at h1 ha hm
  refine C.seq ?_
  refine C.seq ?_
  refine C.region [(false,0),(false,1),(false,2),(false,3),(false,4)] rfl ?_
  refine L.move rfl rfl rfl trivial ?_
  refine L.fieldAddr rfl Tf.f25_0 rfl rfl trivial ?_
  refine L.loadD1 rfl (k := 0) Tf.a22 rfl hB1 (by first | simp | assumption) rfl List.not_mem_nil rfl trivial ?_
  refine L.len rfl Try.underlying22 rfl hc rfl rfl trivial ?_
  refine L.lss rfl rfl rfl rfl trivial ?_
  refine L.nil ?_
  refine C.next ?_
  refine C.condD rfl (fun hc1 => ?_) (fun hc1 => ?_)
  · have hi : i < y.chairs.length := by omega
    obtain ⟨x, hx⟩ : ∃ x, y.chairs[i]? = some x := ⟨_, List.getElem?_eq_getElem hi⟩
    have hmn := nthC_le (y.chairs.take i) n
    rw [← hm] at hmn
    refine C.skip ?_
    refine C.next ?_
    refine C.seq ?_
    refine C.block ?_
    refine C.seq ?_
    refine C.region [(false,0),(false,1),(false,2),(false,3),(false,4),(false,5),(false,6),(false,7)] rfl ?_
    refine L.fieldAddr rfl Tf.f25_0 rfl rfl trivial ?_
    refine L.loadD1 rfl (k := 0) Tf.a22 rfl hB1 (by first | simp | assumption) rfl List.not_mem_nil rfl trivial ?_
    refine L.move rfl rfl rfl trivial ?_
    refine L.indexS rfl Try.underlying22 Tf.s94 rfl hc rfl (by omega) hx rfl trivial (fun b1 o1 cs1 hr1 hcl1 hA1 => ?_)
    obtain rfl : cs1 = [.int .i64 _, .int .i64 _, .int .i64 _, .int .i64 _] := hr1
    refine L.fieldAddr rfl Tf.f94_1 rfl rfl trivial ?_
    refine L.loadDP rfl (k := 1) Tf.a91 Tf.s91 rfl hA1 (by first | simp | assumption) rfl rfl List.not_mem_nil rfl trivial ?_
    refine L.alloc rfl Tf.z91 rfl rfl trivial (fun q2 => ?_)
    refine L.storeW rfl rfl rfl rfl Tf.s91 (by first | rfl | (simp only [ints_length, *]; done) | (simp only [ints_length, *]; rfl) | (simp only [ints_length, *]; omega)) (by first | rfl | (simp only [ints_length, *]; done) | (simp only [ints_length, *]; rfl) | (simp only [ints_length, *]; omega)) (Has.head) (by first | exact ints_cell1 _ | simp [cell1]) trivial ?_
    refine L.nil ?_
    refine C.next ?_
    refine C.seq ?_
    refine C.seq ?_
    refine C.region [(false,0)] rfl ?_
    refine L.assign rfl rfl rfl trivial ?_
    refine L.nil ?_
    refine C.next ?_
    refine C.block ?_
    refine C.loopR (γ := Nat) (fun k => 3 - k) (fun k => k ≤ 3) (fun k => [(1, .int .i64 ((nthK x.parts.l m k).2 : Int)), (8, .int .i64 (k : Int))]) [(7, _), (21, _), (20, _), (19, _), (18, _), (17, _), (16, _), (13, _), (12, _), (11, _), (10, _), (9, _), (5, _), (6, _), (4, _), (2, _)] (fun k => (q2, .cells (ints (nthK x.parts.l m k).1).toArray 91 (0, 0)) :: (ν ++ [])) (fun k => [E1, D]) 0 (by omega) ⟨(by first | rfl | (show some (Value.int _ _) = some (Value.int _ _); congr 2; omega)), (by first | rfl | (show some (Value.int _ _) = some (Value.int _ _); congr 2; omega)), trivial⟩ ⟨rfl, rfl, rfl, rfl, rfl, rfl, rfl, rfl, rfl, rfl, rfl, rfl, rfl, rfl, rfl, rfl, trivial⟩ (List.Sublist.refl _) (ds_same) ?_
    rintro k h2
    refine C.seq ?_
    refine C.seq ?_
    refine C.region [(false,0),(false,1)] rfl ?_
    refine L.move rfl rfl rfl trivial ?_
    refine L.lss rfl rfl rfl rfl trivial ?_
    refine L.nil ?_
    refine C.next ?_
    refine C.condD rfl (fun hc2 => ?_) (fun hc2 => ?_)
    · have hk : k < 3 := by omega
      have hkl := nthK_len x.parts.l m k
      have hkm := nthK_le x.parts.l m k
      have hl3 : x.parts.l.length = 3 := rfl
      obtain ⟨w, hw⟩ : ∃ w, (nthK x.parts.l m k).1[k]? = some w := ⟨_, List.getElem?_eq_getElem (by omega)⟩
      refine C.skip ?_
      refine C.next ?_
      refine C.seq ?_
      refine C.block ?_
      refine C.seq ?_
      refine C.region [(false,0),(false,1),(false,2),(false,3)] rfl ?_
      refine L.move rfl rfl rfl trivial ?_
      refine L.indexB rfl Try.underlying91 Tf.s3 rfl rfl (by omega) (by omega) rfl trivial ?_
      refine L.loadB1 rfl Tf.a3 rfl (List.Mem.head _) (ints_get hw) List.not_mem_nil rfl trivial ?_
      refine L.eql rfl rfl rfl rfl trivial ?_
      refine L.nil ?_
      refine C.next ?_
      refine C.condD rfl (fun hc3 => ?_) (fun hc3 => ?_)
      · have hw2 : w = 2 := hc3
        refine C.seq ?_
        refine C.region [(false,0),(false,1),(false,2),(false,3),(false,4)] rfl ?_
        refine L.move rfl rfl rfl trivial ?_
        refine L.move rfl rfl rfl trivial ?_
        refine L.rem rfl rfl rfl (by omega) (by omega) (by simp only [inK]; omega) rfl trivial ?_
        refine L.indexB rfl Try.underlying91 Tf.s3 rfl rfl (by omega) (by omega) rfl trivial ?_
        refine L.storeI rfl Tf.s3 rfl rfl (Has.head) (by rw [Int.toNat_natCast, hkl]; exact hk) trivial ?_
        refine L.nil ?_
        refine C.next ?_
        refine C.region [(false,0),(false,1),(false,2)] rfl ?_
        refine L.move rfl rfl rfl trivial ?_
        refine L.quo rfl rfl rfl (by omega) (by omega) (by simp only [inK]; omega) rfl trivial ?_
        refine L.assign rfl rfl rfl trivial ?_
        refine L.nil ?_
        refine C.blockEnd ?_
        refine C.next ?_
        refine C.region [(false,0),(false,1),(false,2)] rfl ?_
        refine L.move rfl rfl rfl trivial ?_
        refine L.add rfl rfl rfl (by simp only [inK]; omega) rfl trivial ?_
        refine L.assign rfl rfl rfl trivial ?_
        refine L.nil ?_
        have e9 := nthK_yes (l := x.parts.l) (m := m) (k := k) (hw2 ▸ hw)
        rw [show (nthK x.parts.l m k).1.set (k : Int).toNat (((nthK x.parts.l m k).2 : Int) % 2) = (nthK x.parts.l m (k + 1)).1 by rw [e9]; rfl]
        exact C.againR 18 (k + 1) (by omega) (by omega) ⟨(by rw [e9]; rfl), (by first | rfl | (show some (Value.int _ _) = some (Value.int _ _); congr 2; omega)), trivial⟩ rfl rfl (List.Sublist.refl _) (ds_same)
      · refine C.skip ?_
        refine C.blockEnd ?_
        refine C.next ?_
        refine C.region [(false,0),(false,1),(false,2)] rfl ?_
        refine L.move rfl rfl rfl trivial ?_
        refine L.add rfl rfl rfl (by simp only [inK]; omega) rfl trivial ?_
        refine L.assign rfl rfl rfl trivial ?_
        refine L.nil ?_
        have e9 := nthK_no (l := x.parts.l) (m := m) (k := k) (fun e => hc3 (Option.some.inj (hw.symm.trans e)))
        rw [← e9]
        exact C.againR 11 (k + 1) (by omega) (by omega) ⟨rfl, (by first | rfl | (show some (Value.int _ _) = some (Value.int _ _); congr 2; omega)), trivial⟩ rfl rfl (List.Sublist.refl _) (ds_same)
    · obtain rfl : k = 3 := by omega
      rw [nthK_3]
      refine C.exit ?_
      refine C.thenExit ?_
      refine C.thenExit ?_
      refine C.blockExit ?_
      refine C.next ?_
      refine C.region [(false,0),(false,1),(false,2),(false,3),(false,4)] rfl ?_
      refine L.move rfl rfl rfl trivial ?_
      refine L.loadBW rfl Tf.a91 rfl (List.Mem.head _) (by first | exact Tf.s91 | (simp only [ints_length, *]; exact Tf.s91)) List.not_mem_nil rfl trivial ?_
      refine L.buildSlice rfl Try.underlying26 Tf.s91 Tf.z91 rfl rfl rfl rfl (.cons rfl rfl .nil) rfl trivial (fun b901 D901 hD901 hA901 => ?_)
      refine L.append (A := [(_, _)]) (B := []) rfl Try.underlying26 rfl rfl Tf.s91 Tf.z91 rfl Tf.i91 rfl rfl rfl ha (Src.lit hA901) (by simp) rfl (ptC_lenn _ _ (by simp only [nthC_len, List.length_take]; omega)) (by simp [cell1, ints, Pt.l]) (by omega) (Or.inl rfl) rfl trivial (fun v7 ν7 ha7 => ?_)
      have hn7 : Acc 91 3 v7 (i + 1) (ptC (nthC (y.chairs.take (i + 1)) n).1) ν7 := by rw [nthC_snoc hx, ptC_snoc, ← hm]; simpa [ints, Pt.l] using ha7
      refine L.assign rfl rfl rfl trivial ?_
      refine L.nil ?_
      refine C.blockEnd ?_
      refine C.next ?_
      refine C.region [(false,0),(false,1),(false,2)] rfl ?_
      refine L.move rfl rfl rfl trivial ?_
      refine L.add rfl rfl rfl (by simp only [inK]; omega) rfl trivial ?_
      refine L.assign rfl rfl rfl trivial ?_
      refine L.nil ?_
      exact C.againR 26 (i + 1, v7, ν7, (p3 x.parts m).2) ⟨by simp only; omega, hn7, by rw [nthC_snoc hx, ← hm]⟩ (by simp only; omega) ⟨(by first | rfl | (show some (Value.int _ _) = some (Value.int _ _); congr 2; omega)), (by first | rfl | (show some (Value.int _ _) = some (Value.int _ _); congr 2; omega)), (by first | rfl | (show some (Value.int _ _) = some (Value.int _ _); congr 2; omega)), trivial⟩ rfl rfl (List.Sublist.cons _ (List.Sublist.refl _)) (fun D h => ⟨D, List.Mem.tail _ (h), Le.refl D⟩)
  · obtain rfl : i = y.chairs.length := by omega
    rw [List.take_length] at ha
    refine C.exit ?_
    refine C.thenExit ?_
    refine C.thenExit ?_
    refine C.blockExit ?_
    refine C.next ?_
    refine C.seq ?_
    refine C.region [(false,0),(false,1)] rfl ?_
    refine L.move rfl rfl rfl trivial ?_
    refine L.assign rfl rfl rfl trivial ?_
    refine L.nil ?_
    refine C.next ?_
    refine C.ret ?_
    refine Q.freeze (A := []) (B := []) ha rfl (fun D2 hD2 hF => ?_)
    exact leave (vs := [_]) rfl rfl rfl ⟨rfl, trivial⟩ (fun D' hD => (hF.pts (nthC_len _ _) (by omega)).up RP.up (hD _ (by simp)))
theorem Many_ok (yv : Value) (y : YardD) (D : Data) (hy : YardIs D yv y) (h7 : y.chairs.length ≤ 1000) (hu : unknown y.chairs ≤ 8) : Fn Try.prog 55 #[yv] D (fun _ v => v = .int .i64 ((2 ^ unknown y.chairs : Nat) : Int)) := by
  have hy0 := hy
  obtain ⟨cv, qv, rfl, hc, hq⟩ := hy
  refine enter 7 Try.func55 rfl rfl rfl rfl fun h0 => ?_
  refine C.seq ?_
  refine C.region [(false,0),(false,1)] rfl ?_
  refine L.boxD rfl rfl rfl rfl trivial (fun q1 E1 hE1 hB1 => ?_)
  refine L.assign rfl rfl rfl trivial ?_
  refine L.nil ?_
  refine C.next ?_
  refine C.seq ?_
  refine C.region [(false,0),(false,1),(false,2),(false,3),(false,4)] rfl ?_
  refine L.loadDW rfl Tf.a25 rfl hB1 (by first | simp | assumption) Tf.s25 List.not_mem_nil rfl trivial ?_
  refine L.callV rfl rfl rfl (fun D1 hD1 => Unknown_ok _ y _ (hy0.up (hD1 _ (by simp))) h7) rfl trivial ?_
  refine L.convI rfl Try.underlying3 Try.underlying88 rfl (by simp only [inK]; omega) rfl trivial ?_
  refine L.shl1U rfl rfl rfl (by omega) rfl trivial ?_
  refine L.assign rfl rfl rfl trivial ?_
  refine L.nil ?_
  refine C.next ?_
  refine C.ret ?_
  exact leave (vs := [_]) rfl rfl rfl ⟨rfl, trivial⟩ (fun D hD => rfl)
end Go.Fs
namespace Go.Fs
open Go.Proofs
open C7
theorem part_p1 {x : Int} (h : 0 ≤ x ∧ x ≤ 2) (m : Nat) : partIs x (p1 x m).1 = true := by
  unfold p1 partIs
  rw [Bool.and_eq_true, inB_iff, Bool.or_eq_true, decide_eq_true_eq, decide_eq_true_eq]
  split
  · rename_i e; exact ⟨by simp only; omega, Or.inl e⟩
  · rename_i e; exact ⟨by simp only; omega, Or.inr rfl⟩
theorem pts_p3 {p : Pt} (h : ∀ n ∈ p.l, 0 ≤ n ∧ n ≤ 2) (m : Nat) : ptsIs p (p3 p m).1 = true := by
  have ha := h p.a (by simp [Pt.l])
  have hb := h p.b (by simp [Pt.l])
  have hc := h p.c (by simp [Pt.l])
  simp only [ptsIs, Pt.l, p3, List.zip_cons_cons, List.zip_nil_left, List.all_cons, List.all_nil, Bool.and_true, Bool.and_eq_true]
  exact ⟨part_p1 ha _, part_p1 hb _, part_p1 hc _⟩
def nthR : List Ch → Nat → List Pt
  | [], _ => []
  | c :: l, n => (p3 c.parts n).1 :: nthR l (p3 c.parts n).2
theorem nthS_R : ∀ (l : List Ch) (st : List Pt × Nat), (l.foldl nthS st).1 = st.1 ++ nthR l st.2
  | [], st => by simp [nthR]
  | c :: l, st => by rw [List.foldl_cons, nthS_R l]; simp [nthS, nthR]
theorem nthC_R (l : List Ch) (n : Nat) : (nthC l n).1 = nthR l n := by unfold nthC; rw [nthS_R]; rfl
theorem nthR_ok : ∀ (l : List Ch) (n : Nat), (∀ c ∈ l, ∀ n ∈ c.parts.l, 0 ≤ n ∧ n ≤ 2) → ((l.zip (nthR l n)).all fun x => ptsIs x.1.parts x.2) = true
  | [], n, _ => rfl
  | c :: l, n, h => by
    rw [nthR, List.zip_cons_cons, List.all_cons, Bool.and_eq_true]
    exact ⟨pts_p3 (h c List.mem_cons_self) n, nthR_ok l _ fun c hc => h c (List.mem_cons_of_mem _ hc)⟩
theorem nth_truth {y : YardD} (h : YOk y) (n : Nat) : isTruth y (nthC y.chairs n).1 = true := by
  unfold isTruth
  rw [Bool.and_eq_true, decide_eq_true_eq]
  exact ⟨nthC_len _ _, by rw [nthC_R]; exact nthR_ok _ _ h.part⟩
end Go.Fs
namespace Go.Fs
open Go.Proofs
open C7
end Go.Fs
namespace Go.Fs
open Go.Proofs
open C7
end Go.Fs
namespace Go.Fs
open Go.Proofs
open C7
end Go.Fs
namespace Go.Fs
open Go.Proofs
open C7
end Go.Fs
namespace Go.Fs
open Go.Proofs
open C7
end Go.Fs
namespace Go.Fs
open Go.Proofs
open C7
end Go.Fs
namespace Go.Fs
open Go.Proofs
open C7
end Go.Fs
namespace Go.Fs
open Go.Proofs
open C7
theorem ready_inB {y : YardD} (h : (!(thin y && decide (fault y = 0))) = false) : thin y = true ∧ fault y = 0 := by
  simp only [Bool.not_eq_false', Bool.and_eq_true, decide_eq_true_eq] at h; exact h
end Go.Fs
namespace Go.Fs
open Go.Proofs
open C7
section
variable {P : Program} {X : Cx} {γb : Type} [Membership Nat γb] {bad : γb} {all : Array Oper} {K : Act → World → Prop} {Q : Exit → Act → World → Prop}
variable {σ : Slots} {μ : Boxes} {Ds : List Data} {os : List (Bool × Nat)} {fl : Bool} {ix : Nat}
variable {d : Nat} {x y z : Operand} {u v : Value} {ty : TypeId} {pos : String} {aft : Array Edge} {g : Option (Nat × Bool)}
variable {k' : IntKind} {m n : Nat} {t t' : TypeId}
end
theorem unk_8 {y : YardD} (h : fault y = 0) : unknown y.chairs ≤ 8 := by
  unfold fault at h
  split at h
  · omega
  · split at h
    · omega
    · split at h <;> omega
theorem mod_in {a b : Nat} (h : a ≤ 65535) : -9223372036854775808 ≤ (a : Int) % (b : Int) ∧ (a : Int) % (b : Int) ≤ 9223372036854775807 := by
  have e : (a : Int) % (b : Int) = ((a % b : Nat) : Int) := rfl
  have := Nat.mod_le a b
  omega
theorem most_le {y : YardD} {t : List Pt} (h : fault y = 0) (ht : isTruth y t = true) : mostT y t ≤ 200 := by
  have hn := (yOk h).len
  obtain ⟨hl, _⟩ := truthOk ht
  exact mostS_le (scene_ok' hl (by omega)) hn
theorem nth_open {y : YardD} {D : Data} {v : Value} {n : Nat} (h : YOk y) (hS : Sl D RP 3 v (nthC y.chairs n).1) : ∃ t, Sl D RP 3 v t ∧ isTruth y t = true := ⟨_, hS, nth_truth h n⟩
theorem Nth_ok2 (yv : Value) (y : YardD) (z : Int) (n : Nat) (D : Data) (hz : z = (n : Int)) (hy : YardIs D yv y) (hc7 : y.chairs.length ≤ 1000) (hn : n ≤ 1000000) : Fn Try.prog 54 #[yv, .int .i64 z] D (fun D' v => Sl D' RP 3 v (nthC y.chairs n).1) := by subst hz; exact Nth_ok yv y n D hy hc7 hn
theorem Play2_ok (yv tv : Value) (y : YardD) (t : List Pt) (D : Data) (hy : YardIs D yv y) (ht : Sl D RP 3 tv t) (h : fault y = 0) (hit : isTruth y t = true) : Fn Try.prog 57 #[yv, tv] D (fun _ v => v = .tuple #[.int .i64 ((mostT y t : Nat) : Int), .int .i64 0]) := by
  have := Play_ok yv tv y t D hy ht
  rw [play_eq h hit] at this
  exact this
end Go.Fs
namespace Go.Fs
open Go.Proofs
open C7
end Go.Fs
namespace Go.Fs
open Go.Proofs
open C7
def pos (y : YardD) (l : List Int) : Bool := decide (0 < ((scenesD y l).length : Int))
end Go.Fs
namespace Go.Fs
open Go.Proofs
open C7
end Go.Fs
namespace Go.Fs
open Go.Proofs
open C7
section
variable {P : Program} {X : Cx} {γb : Type} [Membership Nat γb] {bad : γb} {all : Array Oper} {K : Act → World → Prop} {Q : Exit → Act → World → Prop}
variable {σ : Slots} {μ : Boxes} {Ds : List Data} {os : List (Bool × Nat)} {fl : Bool} {ix : Nat}
variable {d : Nat} {x y z : Operand} {u v : Value} {ty : TypeId} {pos : String} {aft : Array Edge} {g : Option (Nat × Bool)}
variable {k' : IntKind} {m n : Nat} {t t' : TypeId}
end
theorem chC_cell1 (l : List Ch) : ∀ u ∈ chC l, cell1 u = true := by
  intro u hu
  obtain ⟨c, _, h⟩ := List.mem_flatMap.1 hu
  simp only [List.mem_cons, List.not_mem_nil, or_false] at h
  rcases h with rfl | rfl | rfl | rfl <;> rfl
theorem Src.chs {D : Data} {v : Value} {l : List Ch} (h : Sl D RCh 4 v l) : Src D v l.length (chC l) := Src.of (R := RCh) (fun _ _ _ h => h) (fun _ => rfl) h
end Go.Fs
namespace Go.Fs
open Go.Proofs
open C7
theorem two_no {a b : Bool} (h : (a || b) = false) : a = false ∧ b = false := by simpa using h
end Go.Fs
namespace Go.Fs
open Go.Proofs
open C7
section
variable {P : Program} {X : Cx} {γb : Type} [Membership Nat γb] {bad : γb} {all : Array Oper} {K : Act → World → Prop} {Q : Exit → Act → World → Prop}
variable {σ : Slots} {μ : Boxes} {Ds : List Data} {os : List (Bool × Nat)} {fl : Bool} {ix : Nat}
variable {d : Nat} {x y z : Operand} {u v : Value} {ty : TypeId} {pos : String} {aft : Array Edge} {g : Option (Nat × Bool)}
variable {k' : IntKind} {m n : Nat} {t t' : TypeId}
end
section swap
variable {y : YardD} {i j : Nat} {c d : Ch} (hi : y.chairs[i]? = some c) (hj : y.chairs[j]? = some d)
include hi hj
end swap
end Go.Fs
namespace Go.Fs
open Go.Proofs
open C7
section
variable {P : Program} {X : Cx} {γb : Type} [Membership Nat γb] {bad : γb} {all : Array Oper} {K : Act → World → Prop} {Q : Exit → Act → World → Prop}
variable {σ : Slots} {μ : Boxes} {Ds : List Data} {os : List (Bool × Nat)} {fl : Bool} {ix : Nat}
variable {d : Nat} {x y z : Operand} {u v : Value} {ty : TypeId} {pos : String} {aft : Array Edge} {g : Option (Nat × Bool)}
variable {k' : IntKind} {m n : Nat} {t t' : TypeId}
end
theorem nu_near {f g : Nat → Nat → Bool} {S T : Nat → Bool} {k : Nat} (hf : ∀ a b, a ≠ k → b ≠ k → f a b = true → g a b = true) (hS : ∀ a, a ≠ k → S a = true → T a = true) {x y : Nat} (hx : IsNu f S x) (hy : IsNu g T y) : x ≤ y + 1 := by
  obtain ⟨M, hM, rfl⟩ := hx.ex
  have key : ∀ N : List (Nat × Nat), Mat f S N → k ∉ ends N → N.length ≤ y := fun N hN hk => hy.le N ⟨fun p hp => by
    obtain ⟨h1, h2, h3⟩ := hN.fit p hp
    have e1 : p.1 ≠ k := fun e => hk (mem_ends.2 ⟨p, hp, Or.inl e.symm⟩)
    have e2 : p.2 ≠ k := fun e => hk (mem_ends.2 ⟨p, hp, Or.inr e.symm⟩)
    exact ⟨hS _ e1 h1, hS _ e2 h2, hf _ _ e1 e2 h3⟩, hN.nd⟩
  by_cases hk : k ∈ ends M
  · obtain ⟨z, hz⟩ := has_of hk
    obtain ⟨p, hp, _, hr, hl⟩ := hM.rem hz
    have := key (M.erase p) (hr.mono fun w hw => (without_iff.1 (without_iff.1 hw).1).1) fun h => by
      obtain ⟨q, hq, e⟩ := mem_ends.1 h
      obtain ⟨g1, g2, _⟩ := hr.fit q hq
      rcases e with rfl | rfl
      · exact (without_iff.1 (without_iff.1 g1).1).2 rfl
      · exact (without_iff.1 (without_iff.1 g2).1).2 rfl
    omega
  · have := key M hM hk; omega
theorem nu_mono {f g : Nat → Nat → Bool} {S T : Nat → Bool} (hf : ∀ a b, S a = true → S b = true → f a b = true → g a b = true) (hS : ∀ a, S a = true → T a = true) {x y : Nat} (hx : IsNu f S x) (hy : IsNu g T y) : x ≤ y := by
  obtain ⟨M, hM, rfl⟩ := hx.ex
  exact hy.le M ⟨fun p hp => by
    obtain ⟨h1, h2, h3⟩ := hM.fit p hp
    exact ⟨hS _ h1, hS _ h2, hf _ _ h1 h2 h3⟩, hM.nd⟩
end Go.Fs
