/- Of the proof of MendOrder: W17, W18, W19, W20, W21, W22, W23, W24, W25, W26, W30, W36, W37, W27, W28, W38, W33, W39, W31. -/
import Derived.Test.YtjhdcelmgfajbaaZMendOrderJ
import Derived.Test.YtjhdcelmgfajbaaZMendOrderH
import Derived.Test.YtjhdcelmgfajbaaZMendOrderC
namespace Go.Fs
open Go.Proofs
open C7
theorem prC_lenn (l : List (Int × Int)) (n : Nat) (h : l.length = n) : (prC l).length = n * 2 := by rw [prC_length, h]
def ptC (l : List Pt) : List Value := l.flatMap fun p => [.int .i64 p.a, .int .i64 p.b, .int .i64 p.c]
theorem flat_k {α : Type} {f : α → List Value} {k : Nat} (hf : ∀ x, (f x).length = k) (l : List α) : (l.flatMap f).length = l.length * k := by
  induction l with
  | nil => simp
  | cons c l ih => rw [List.flatMap_cons, List.length_append, ih, hf, List.length_cons, Nat.add_mul]; omega
theorem flat_get {α : Type} {f : α → List Value} {k : Nat} (hf : ∀ x, (f x).length = k) {l : List α} {i : Nat} {c : α} (hi : l[i]? = some c) : ((l.flatMap f).drop (i * k)).take k = f c := by
  induction l generalizing i with
  | nil => simp at hi
  | cons d l ih =>
    rw [List.flatMap_cons]
    cases i with
    | zero => obtain rfl : d = c := by simpa using hi
              rw [Nat.zero_mul, List.drop_zero, List.take_append_of_le_length (by rw [hf]; omega), List.take_of_length_le (by rw [hf]; omega)]
    | succ i =>
      rw [List.drop_append, List.drop_eq_nil_of_le (by rw [hf, Nat.add_mul]; omega), List.nil_append]
      have : (i + 1) * k - (f d).length = i * k := by rw [hf, Nat.add_mul]; omega
      rw [this]; exact ih (by simpa using hi)
theorem Froz.pts {D : Data} {v : Value} {n : Nat} {l : List Pt} (hF : Froz D v n (ptC l)) (hn : l.length = n) (hb : n ≤ 9223372036854775807) : Sl D RP 3 v l :=
  hF.sl hn hb fun _i _t hi => ⟨_, rfl, rfl, flat_get (k := 3) (fun _ => rfl) hi⟩
def chC (l : List Ch) : List Value := l.flatMap fun c => [.int .i64 c.size, .int .i64 c.parts.a, .int .i64 c.parts.b, .int .i64 c.parts.c]
theorem chC_snoc (l : List Ch) (c : Ch) : chC (l ++ [c]) = chC l ++ [.int .i64 c.size, .int .i64 c.parts.a, .int .i64 c.parts.b, .int .i64 c.parts.c] := by simp [chC]
theorem chC_lenn (l : List Ch) (n : Nat) (h : l.length = n) : (chC l).length = n * 4 := by rw [chC, flat_k (k := 4) (fun _ => rfl), h]
theorem Froz.chs {D : Data} {v : Value} {n : Nat} {l : List Ch} (hF : Froz D v n (chC l)) (hn : l.length = n) (hb : n ≤ 9223372036854775807) : Sl D RCh 4 v l :=
  hF.sl hn hb fun _i _t hi => ⟨_, rfl, rfl, flat_get (k := 4) (fun _ => rfl) hi⟩
theorem ints_len {xs ys : List Int} (h : xs.length ≠ ys.length) : false = (xs == ys) := by
  symm; simp; intro e; exact h (by rw [e])
theorem ints_no {xs ys : List Int} {k : Nat} {a b : Int} (ha : xs[k]? = some a) (hb : ys[k]? = some b) (h : a ≠ b) : false = (xs == ys) := by
  symm; simp; rintro rfl; rw [ha] at hb; exact h (Option.some.inj hb)
theorem ints_step {xs ys : List Int} {k : Nat} {a b : Int} (ha : xs[k]? = some a) (hb : ys[k]? = some b) (h2 : xs.take k = ys.take k) (h : a = b) : xs.take (k + 1) = ys.take (k + 1) := by
  rw [List.take_add_one, List.take_add_one, ha, hb, h2, h]
theorem ints_yes {xs ys : List Int} {k : Nat} (hl : xs.length = ys.length) (hk : xs.length ≤ k) (h2 : xs.take k = ys.take k) : true = (xs == ys) := by
  rw [List.take_of_length_le hk, List.take_of_length_le (by omega)] at h2; rw [h2]; simp
def thin (y : YardD) : Bool := (decide ((y.chairs.length : Int) ≤ 9) && decide ((y.claims.length : Int) ≤ 7)) && (decide (fault y ≠ 0) || decide ((unknown y.chairs : Int) ≤ 5))
theorem to_ok (p : Int × Int) (D : Data) : Fn Try.prog 41 #[k2V p] D (fun _ v => v = k2V p) := by
  obtain ⟨lo, hi⟩ := p
  unfold k2V
  refine enter 8 Try.func41 rfl rfl rfl rfl fun h0 => ?_
  refine C.seq ?_
  refine C.region [(false,0),(false,1)] rfl ?_
  refine L.boxD rfl rfl rfl rfl trivial (fun q1 E1 hE1 hB1 => ?_)
  refine L.alloc rfl Tf.z61 rfl rfl trivial (fun q2 => ?_)
  refine L.nil ?_
  refine C.next ?_
  refine C.seq ?_
  refine C.region [(false,0),(false,1),(false,2),(false,3),(false,4),(false,5)] rfl ?_
  refine L.fieldAddr rfl Tf.f67_0 rfl rfl trivial ?_
  refine L.loadD1 rfl (k := 0) Tf.a3 rfl hB1 (by first | simp | assumption) rfl List.not_mem_nil rfl trivial ?_
  refine L.fieldAddr rfl Tf.f67_1 rfl rfl trivial ?_
  refine L.loadD1 rfl (k := 1) Tf.a3 rfl hB1 (by first | simp | assumption) rfl List.not_mem_nil rfl trivial ?_
  refine L.build (cs := [.int .i64 lo, .int .i64 hi]) rfl Tf.p61 Tf.z61 rfl rfl rfl trivial ?_
  refine L.storeW rfl rfl rfl rfl Tf.s61 (by first | rfl | (simp only [ints_length, *]; done) | (simp only [ints_length, *]; rfl) | (simp only [ints_length, *]; omega)) (by first | rfl | (simp only [ints_length, *]; done) | (simp only [ints_length, *]; rfl) | (simp only [ints_length, *]; omega)) (Has.head) (by first | exact ints_cell1 _ | simp [cell1]) trivial ?_
  refine L.nil ?_
  refine C.next ?_
  refine C.ret ?_
  exact leave (vs := [_]) rfl rfl rfl ⟨⟨_, _, _, rfl, (List.Mem.head _), Or.inr ⟨Tf.a61, (by first | exact Tf.s61 | (simp only [List.size_toArray, ints_length, *]; exact Tf.s61)), rfl⟩⟩, trivial⟩ (fun D hD => rfl)
theorem between_ok (lo hi : Int) (D : Data) : Fn Try.prog 71 #[.int .i64 lo, .int .i64 hi] D (fun _ v => v = k2V (lo, hi)) := by
  refine enter 8 Try.func71 rfl rfl rfl rfl fun h0 => ?_
  refine C.seq ?_
  refine C.region [(false,0)] rfl ?_
  refine L.alloc rfl Tf.z61 rfl rfl trivial (fun q1 => ?_)
  refine L.nil ?_
  refine C.next ?_
  refine C.seq ?_
  refine C.region [(false,0),(false,1),(false,2),(false,3)] rfl ?_
  refine L.move rfl rfl rfl trivial ?_
  refine L.move rfl rfl rfl trivial ?_
  refine L.build (cs := [.int .i64 lo, .int .i64 hi]) rfl Tf.p61 Tf.z61 rfl rfl rfl trivial ?_
  refine L.storeW rfl rfl rfl rfl Tf.s61 (by first | rfl | (simp only [ints_length, *]; done) | (simp only [ints_length, *]; rfl) | (simp only [ints_length, *]; omega)) (by first | rfl | (simp only [ints_length, *]; done) | (simp only [ints_length, *]; rfl) | (simp only [ints_length, *]; omega)) (Has.head) (by first | exact ints_cell1 _ | simp [cell1]) trivial ?_
  refine L.nil ?_
  refine C.next ?_
  refine C.ret ?_
  exact leave (vs := [_]) rfl rfl rfl ⟨⟨_, _, _, rfl, (List.Mem.head _), Or.inr ⟨Tf.a61, (by first | exact Tf.s61 | (simp only [List.size_toArray, ints_length, *]; exact Tf.s61)), rfl⟩⟩, trivial⟩ (fun D hD => rfl)
theorem ints_ok (av bv : Value) (xs ys : List Int) (D : Data) (hx : Sl D RI 1 av xs) (hy : Sl D RI 1 bv ys) : Fn Try.prog 50 #[av, bv] D (fun _ v => v = .bool (xs == ys)) := by
  have hl := hx.len
  refine enter 26 Try.func50 rfl rfl rfl rfl fun h0 => ?_
  refine C.seq ?_
  refine C.region [(false,0)] rfl ?_
  refine L.assign rfl rfl rfl trivial ?_
  refine L.nil ?_
  refine C.next ?_
  refine C.seq ?_
  refine C.seq ?_
  refine C.region [(false,0),(false,1),(false,2),(false,3),(false,4)] rfl ?_
  refine L.move rfl rfl rfl trivial ?_
  refine L.len rfl Try.underlying52 rfl hx rfl rfl trivial ?_
  refine L.move rfl rfl rfl trivial ?_
  refine L.len rfl Try.underlying52 rfl hy rfl rfl trivial ?_
  refine L.neq rfl rfl rfl rfl trivial ?_
  refine L.nil ?_
  refine C.next ?_
  refine C.condD rfl (fun hc1 => ?_) (fun hc1 => ?_)
  · refine C.seq ?_
    refine C.region [(false,0)] rfl ?_
    refine L.assign rfl rfl rfl trivial ?_
    refine L.nil ?_
    refine C.next ?_
    refine C.ret ?_
    refine C.thenRet ?_
    exact leave (vs := [_]) rfl rfl rfl ⟨rfl, trivial⟩ (fun D hD => congrArg Value.bool (ints_len (by omega)))
  · have hlen : xs.length = ys.length := by omega
    refine C.skip ?_
    refine C.next ?_
    refine C.seq ?_
    refine C.seq ?_
    refine C.region [(false,0)] rfl ?_
    refine L.assign rfl rfl rfl trivial ?_
    refine L.nil ?_
    refine C.next ?_
    refine C.block ?_
    refine C.loopC (γ := Nat) (fun k => xs.length - k) (fun k => k ≤ xs.length ∧ xs.take k = ys.take k) (fun k => [(5, .int .i64 (k : Int))]) [(4, _), (0, _), (1, _)] (fun k => [D]) 0 (by simp) ⟨(by first | rfl | (show some (Value.int _ _) = some (Value.int _ _); congr 2; omega)), trivial⟩ ⟨rfl, rfl, rfl, trivial⟩ (ds_same) ?_
    rintro k ⟨h1, h2⟩
    refine C.seq ?_
    refine C.seq ?_
    refine C.region [(false,0),(false,1),(false,2),(false,3)] rfl ?_
    refine L.move rfl rfl rfl trivial ?_
    refine L.move rfl rfl rfl trivial ?_
    refine L.len rfl Try.underlying52 rfl hx rfl rfl trivial ?_
    refine L.lss rfl rfl rfl rfl trivial ?_
    refine L.nil ?_
    refine C.next ?_
    refine C.condD rfl (fun hc2 => ?_) (fun hc2 => ?_)
    · have hk : k < xs.length := by omega
      obtain ⟨a, ha⟩ : ∃ a, xs[k]? = some a := ⟨_, List.getElem?_eq_getElem hk⟩
      obtain ⟨b, hb⟩ : ∃ b, ys[k]? = some b := ⟨_, List.getElem?_eq_getElem (by omega)⟩
      refine C.skip ?_
      refine C.next ?_
      refine C.seq ?_
      refine C.block ?_
      refine C.seq ?_
      refine C.draw [] 3 [0,1,2,3,4,5,6,7,8] [false,true,false,false,true,true,true,true,false] [(false,0),(true,1),(false,2),(false,3),(true,4),(true,5),(true,6),(true,7),(false,8)] Tf.follows (fun _ _ _ h => np_body (P := Try.prog) (fn := Try.f50) _ _ _ h) (by kernel_rfl) rfl ?_
      refine L.move rfl rfl rfl trivial ?_
      refine L.move rfl rfl rfl trivial ?_
      refine L.indexS rfl Try.underlying52 Tf.s3 rfl hx rfl (by omega) ha rfl trivial (fun b1 o1 cs1 hr1 hcl1 hA1 => ?_)
      obtain rfl : cs1 = [.int .i64 _] := hr1
      refine L.loadD1 rfl (k := 0) Tf.a3 rfl hA1 (by first | simp | assumption) rfl List.not_mem_nil rfl trivial ?_
      refine L.move rfl rfl rfl trivial ?_
      refine L.move rfl rfl rfl trivial ?_
      refine L.indexS rfl Try.underlying52 Tf.s3 rfl hy rfl (by omega) hb rfl trivial (fun b2 o2 cs2 hr2 hcl2 hA2 => ?_)
      obtain rfl : cs2 = [.int .i64 _] := hr2
      refine L.loadD1 rfl (k := 0) Tf.a3 rfl hA2 (by first | simp | assumption) rfl List.not_mem_nil rfl trivial ?_
      refine L.neq rfl rfl rfl rfl trivial ?_
      refine L.nil ?_
      refine C.next ?_
      refine C.condD rfl (fun hc3 => ?_) (fun hc3 => ?_)
      · refine C.seq ?_
        refine C.region [(false,0)] rfl ?_
        refine L.assign rfl rfl rfl trivial ?_
        refine L.nil ?_
        refine C.next ?_
        refine C.ret ?_
        refine C.blockRet ?_
        refine C.thenRet ?_
        refine C.thenRet ?_
        refine C.blockRet ?_
        refine C.thenRet ?_
        exact leave (vs := [_]) rfl rfl rfl ⟨rfl, trivial⟩ (fun D hD => congrArg Value.bool (ints_no ha hb hc3))
      · refine C.skip ?_
        refine C.blockEnd ?_
        refine C.next ?_
        refine C.region [(false,0),(false,1),(false,2)] rfl ?_
        refine L.move rfl rfl rfl trivial ?_
        refine L.add rfl rfl rfl (by simp only [inK]; omega) rfl trivial ?_
        refine L.assign rfl rfl rfl trivial ?_
        refine L.nil ?_
        exact C.againR 17 (k + 1) ⟨by omega, ints_step ha hb h2 (by omega)⟩ (by omega) ⟨(by first | rfl | (show some (Value.int _ _) = some (Value.int _ _); congr 2; omega)), trivial⟩ rfl rfl (List.Sublist.refl _) (ds_same)
    · refine C.exit ?_
      refine C.thenExit ?_
      refine C.thenExit ?_
      refine C.blockExit ?_
      refine C.next ?_
      refine C.seq ?_
      refine C.region [(false,0)] rfl ?_
      refine L.assign rfl rfl rfl trivial ?_
      refine L.nil ?_
      refine C.next ?_
      refine C.ret ?_
      exact leave (vs := [_]) rfl rfl rfl ⟨rfl, trivial⟩ (fun D hD => congrArg Value.bool (ints_yes hlen (by omega) h2))
theorem Thin_ok (yv : Value) (y : YardD) (D : Data) (hy : YardIs D yv y) : Fn Try.prog 20 #[yv] D (fun _ v => v = .bool (thin y)) := by
  have hy0 := hy
  obtain ⟨cv, qv, rfl, hc, hq⟩ := hy
  refine enter 23 Try.func20 rfl rfl rfl rfl fun h0 => ?_
  refine C.seq ?_
  refine C.region [(false,0),(false,1)] rfl ?_
  refine L.boxD rfl rfl rfl rfl trivial (fun q1 E1 hE1 hB1 => ?_)
  refine L.assign rfl rfl rfl trivial ?_
  refine L.nil ?_
  refine C.next ?_
  refine C.seq ?_
  refine C.region [(false,0),(false,1),(false,2),(false,3),(false,4),(false,5),(false,6),(false,7),(false,8),(false,9),(false,10),(false,11),(false,12),(false,13),(false,14),(false,15),(false,16),(false,17),(false,18),(false,19),(false,20)] rfl ?_
  refine L.fieldAddr rfl Tf.f25_0 rfl rfl trivial ?_
  refine L.loadD1 rfl (k := 0) Tf.a22 rfl hB1 (by first | simp | assumption) rfl List.not_mem_nil rfl trivial ?_
  refine L.len rfl Try.underlying22 rfl (by assumption) rfl rfl trivial ?_
  refine L.leq rfl rfl rfl rfl trivial ?_
  refine L.move rfl rfl rfl trivial ?_
  refine' L.and [(false,5),(false,6),(false,7),(false,8),(false,9)] [(false,10),(false,11),(false,12),(false,13),(false,14),(false,15),(false,16),(false,17),(false,18),(false,19),(false,20)] (s := 7) (p := 12) rfl rfl (fun hg1 => ?_) (fun hg1 => ?_) ?_
  rotate_left
  · refine L.fieldAddr rfl Tf.f25_2 rfl rfl ⟨_, rfl, rfl⟩ ?_
    refine L.loadD1 rfl (k := 2) Tf.a23 rfl hB1 (by first | simp | assumption) rfl List.not_mem_nil rfl ⟨_, rfl, rfl⟩ ?_
    refine L.len rfl Try.underlying23 rfl (by assumption) rfl rfl ⟨_, rfl, rfl⟩ ?_
    refine L.leq rfl rfl rfl rfl ⟨_, rfl, rfl⟩ ?_
    refine L.pickT rfl rfl rfl rfl trivial ?_
    exact L.nil fun a w hh => hh.cutK 4 rfl
  · refine L.pass rfl rfl rfl ⟨_, _, rfl, rfl, rfl⟩ ?_
    refine L.pass rfl rfl rfl ⟨_, _, rfl, rfl, rfl⟩ ?_
    refine L.pass rfl rfl rfl ⟨_, _, rfl, rfl, rfl⟩ ?_
    refine L.pass rfl rfl rfl ⟨_, _, rfl, rfl, rfl⟩ ?_
    refine L.pickF rfl rfl rfl rfl trivial ?_
    exact L.nil fun a w hh => hh.cutK 4 rfl
  refine L.move rfl rfl rfl trivial ?_
  refine' L.and [(false,11),(false,12),(false,13),(false,14),(false,15),(false,16),(false,17),(false,18),(false,19)] [(false,20)] (s := 13) (p := 22) rfl rfl (fun hg2 => ?_) (fun hg2 => ?_) ?_
  rotate_left
  · refine L.loadDW rfl Tf.a25 rfl hB1 (by first | simp | assumption) Tf.s25 List.not_mem_nil rfl ⟨_, rfl, rfl⟩ ?_
    refine L.callV rfl rfl rfl (fun D1 hD1 => Fault_ok _ y _ (hy0.up (hD1 _ (by simp)))) rfl ⟨_, rfl, rfl⟩ ?_
    refine L.neq rfl rfl rfl rfl ⟨_, rfl, rfl⟩ ?_
    refine L.move rfl rfl rfl ⟨_, rfl, rfl⟩ ?_
    refine' L.or [(false,15),(false,16),(false,17),(false,18)] [(false,19)] (s := 17) (p := 21) rfl rfl (fun hg3 => ?_) (fun hg3 => ?_) ?_
    rotate_left
    · refine L.loadDW rfl Tf.a25 rfl hB1 (by first | simp | assumption) Tf.s25 List.not_mem_nil rfl ⟨_, rfl, rfl⟩ ?_
      refine L.callV rfl rfl rfl (fun D2 hD2 => Unknown_ok _ y _ (hy0.up (hD2 _ (by simp))) (by simp at *; omega)) rfl ⟨_, rfl, rfl⟩ ?_
      refine L.leq rfl rfl rfl rfl ⟨_, rfl, rfl⟩ ?_
      refine L.pickF rfl rfl rfl rfl ⟨_, rfl, rfl⟩ ?_
      exact L.nil fun a w hh => hh.cutK 3 rfl
    · refine L.pass rfl rfl rfl ⟨_, _, rfl, rfl, rfl⟩ ?_
      refine L.pass rfl rfl rfl ⟨_, _, rfl, rfl, rfl⟩ ?_
      refine L.pass rfl rfl rfl ⟨_, _, rfl, rfl, rfl⟩ ?_
      refine L.pickT rfl rfl rfl rfl ⟨_, rfl, rfl⟩ ?_
      exact L.nil fun a w hh => hh.cutK 3 rfl
    refine L.pickT rfl rfl rfl rfl trivial ?_
    exact L.nil fun a w hh => hh.cutK 5 rfl
  · refine L.pass rfl rfl rfl ⟨_, _, rfl, rfl, rfl⟩ ?_
    refine L.pass rfl rfl rfl ⟨_, _, rfl, rfl, rfl⟩ ?_
    refine L.pass rfl rfl rfl ⟨_, _, rfl, rfl, rfl⟩ ?_
    refine L.pass rfl rfl rfl ⟨_, _, rfl, rfl, rfl⟩ ?_
    refine L.pass rfl rfl rfl ⟨_, _, rfl, rfl, rfl⟩ ?_
    refine L.pass rfl rfl rfl ⟨_, _, rfl, rfl, rfl⟩ ?_
    refine L.pass rfl rfl rfl ⟨_, _, rfl, rfl, rfl⟩ ?_
    refine L.pass rfl rfl rfl ⟨_, _, rfl, rfl, rfl⟩ ?_
    refine L.pickF rfl rfl rfl rfl trivial ?_
    exact L.nil fun a w hh => hh.cutK 8 rfl
  refine L.assign rfl rfl rfl trivial ?_
  refine L.nil ?_
  refine C.next ?_
  refine C.ret ?_
  exact leave (vs := [_]) rfl rfl rfl ⟨rfl, trivial⟩ (fun D hD => rfl)
theorem ready_ok (yv : Value) (y : YardD) (D : Data) (hy : YardIs D yv y) : Fn Try.prog 53 #[yv] D (fun _ v => v = .bool (thin y && decide (fault y = 0))) := by
  have hy0 := hy
  obtain ⟨cv, qv, rfl, hc, hq⟩ := hy
  refine enter 10 Try.func53 rfl rfl rfl rfl fun h0 => ?_
  refine C.seq ?_
  refine C.region [(false,0),(false,1)] rfl ?_
  refine L.boxD rfl rfl rfl rfl trivial (fun q1 E1 hE1 hB1 => ?_)
  refine L.assign rfl rfl rfl trivial ?_
  refine L.nil ?_
  refine C.next ?_
  refine C.seq ?_
  refine C.region [(false,0),(false,1),(false,2),(false,3),(false,4),(false,5),(false,6),(false,7)] rfl ?_
  refine L.loadDW rfl Tf.a25 rfl hB1 (by first | simp | assumption) Tf.s25 List.not_mem_nil rfl trivial ?_
  refine L.callV rfl rfl rfl (fun D1 hD1 => Thin_ok _ y _ (hy0.up (hD1 _ (by simp)))) rfl trivial ?_
  refine L.move rfl rfl rfl trivial ?_
  refine' L.and [(false,3),(false,4),(false,5),(false,6)] [(false,7)] (s := 5) (p := 9) rfl rfl (fun hg1 => ?_) (fun hg1 => ?_) ?_
  rotate_left
  · refine L.loadDW rfl Tf.a25 rfl hB1 (by first | simp | assumption) Tf.s25 List.not_mem_nil rfl ⟨_, rfl, rfl⟩ ?_
    refine L.callV rfl rfl rfl (fun D2 hD2 => Fault_ok _ y _ (hy0.up (hD2 _ (by simp)))) rfl ⟨_, rfl, rfl⟩ ?_
    refine L.eql rfl rfl rfl rfl ⟨_, rfl, rfl⟩ ?_
    refine L.pickT rfl rfl rfl rfl trivial ?_
    exact L.nil fun a w hh => hh.cutK 3 rfl
  · refine L.pass rfl rfl rfl ⟨_, _, rfl, rfl, rfl⟩ ?_
    refine L.pass rfl rfl rfl ⟨_, _, rfl, rfl, rfl⟩ ?_
    refine L.pass rfl rfl rfl ⟨_, _, rfl, rfl, rfl⟩ ?_
    refine L.pickF rfl rfl rfl rfl trivial ?_
    exact L.nil fun a w hh => hh.cutK 3 rfl
  refine L.assign rfl rfl rfl trivial ?_
  refine L.nil ?_
  refine C.next ?_
  refine C.ret ?_
  exact leave (vs := [_]) rfl rfl rfl ⟨rfl, trivial⟩ (fun D hD => rfl)
end Go.Fs
namespace Go.Fs
open Go.Proofs
open C7
theorem cell1_yard {a b : Value} {m : Int} (ha : ∀ u ∈ [a], cell1 u = true) (hb : ∀ u ∈ [b], cell1 u = true) : ∀ u ∈ [a, .int .i64 m, b], cell1 u = true := by
  intro u hu
  simp only [List.mem_cons, List.not_mem_nil, or_false] at hu
  rcases hu with rfl | rfl | rfl
  · exact ha _ List.mem_cons_self
  · rfl
  · exact hb _ List.mem_cons_self
theorem YardL_ok (yv : Value) (y : YardD) (D : Data) (hy : YardIs D yv y) (h1 : y.chairs.length ≤ 100) (h2 : y.claims.length ≤ 100) : Fn Try.prog 23 #[yv] D (fun D' v => YardIs D' v y) := by
  obtain ⟨cv, qv, rfl, hc, hq⟩ := hy
  have hlp := h1
  have hlc := h2
  refine enter 53 Try.func23 rfl rfl rfl rfl fun h0 => ?_
  refine C.seq ?_
  refine C.region [(false,0),(false,1)] rfl ?_
  refine L.boxD rfl rfl rfl rfl trivial (fun q1 E1 hE1 hB1 => ?_)
  refine L.alloc rfl Tf.z37 rfl rfl trivial (fun q2 => ?_)
  refine L.nil ?_
  refine C.next ?_
  refine C.seq ?_
  refine C.region [(false,0),(false,1),(false,2),(false,3),(false,4)] rfl ?_
  refine L.fieldAddr rfl Tf.f25_1 rfl rfl trivial ?_
  refine L.loadD1 rfl (k := 1) Tf.a3 rfl hB1 (by first | simp | assumption) rfl List.not_mem_nil rfl trivial ?_
  refine L.build (cs := [.slice none 0 0, .int .i64 y.fit, .slice none 0 0]) rfl Tf.p37 Tf.z37 rfl rfl rfl trivial ?_
  refine L.alloc rfl Tf.z37 rfl rfl trivial (fun q3 => ?_)
  refine L.storeW rfl rfl rfl rfl Tf.s37 (by first | rfl | (simp only [ints_length, *]; done) | (simp only [ints_length, *]; rfl) | (simp only [ints_length, *]; omega)) (by first | rfl | (simp only [ints_length, *]; done) | (simp only [ints_length, *]; rfl) | (simp only [ints_length, *]; omega)) (Has.head) (by first | exact ints_cell1 _ | simp [cell1]) trivial ?_
  refine L.nil ?_
  refine C.next ?_
  refine C.seq ?_
  refine C.seq ?_
  refine C.region [(false,0)] rfl ?_
  refine L.assign rfl rfl rfl trivial ?_
  refine L.nil ?_
  refine C.next ?_
  refine C.block ?_
  refine C.loopR (γ := Nat × Value × Boxes) (fun g => y.chairs.length - g.1) (fun g => g.1 ≤ y.chairs.length ∧ Acc 115 4 g.2.1 g.1 (chC (y.chairs.take g.1)) g.2.2) (fun g => [(4, .int .i64 (g.1 : Int))]) [(3, _), (2, _), (1, _)] (fun g => (q3, .cells [g.2.1, .int .i64 y.fit, .slice none 0 0].toArray 37 (0, 0)) :: (q2, .cells [.slice none 0 0, .int .i64 0, .slice none 0 0].toArray 37 (0, 0)) :: (g.2.2 ++ [])) (fun g => [E1, D]) (0, .slice none 0 0, []) ⟨by simp, by simpa [chC, prC] using Acc.nil⟩ ⟨(by first | rfl | (show some (Value.int _ _) = some (Value.int _ _); congr 2; omega)), trivial⟩ ⟨rfl, rfl, rfl, trivial⟩ (List.Sublist.refl _) (ds_same) ?_
  rintro ⟨k, w1, ν⟩ ⟨hk1, ha⟩
  simp only at hk1 ha
  refine C.seq ?_
  refine C.seq ?_
  refine C.region [(false,0),(false,1),(false,2),(false,3),(false,4)] rfl ?_
  refine L.move rfl rfl rfl trivial ?_
  refine L.fieldAddr rfl Tf.f25_0 rfl rfl trivial ?_
  refine L.loadD1 rfl (k := 0) Tf.a22 rfl hB1 (by first | simp | assumption) rfl List.not_mem_nil rfl trivial ?_
  refine L.len rfl Try.underlying22 rfl hc rfl rfl trivial ?_
  refine L.lss rfl rfl rfl rfl trivial ?_
  refine L.nil ?_
  refine C.next ?_
  refine C.condD rfl (fun hc1 => ?_) (fun hc1 => ?_)
  · have hk : k < y.chairs.length := by omega
    obtain ⟨x, hx⟩ : ∃ x, y.chairs[k]? = some x := ⟨_, List.getElem?_eq_getElem hk⟩
    refine C.skip ?_
    refine C.next ?_
    refine C.seq ?_
    refine C.block ?_
    refine C.draw [] 7 [0,1,2,3,4,5,6,7,8,9,10,11,12,13,14,15,16,17,18] [false,false,true,true,true,true,true,true,true,true,true,true,true,true,true,true,false,false,false] [(false,0),(false,1),(true,2),(true,3),(true,4),(true,5),(true,6),(true,7),(true,8),(true,9),(true,10),(true,11),(true,12),(true,13),(true,14),(true,15),(false,16),(false,17),(false,18)] Tf.follows (fun _ _ _ h => np_body (P := Try.prog) (fn := Try.f23) _ _ _ h) (by kernel_rfl) rfl ?_
    refine L.fieldAddr rfl Tf.f37_0 rfl rfl trivial ?_
    refine L.loadB1 rfl Tf.a34 rfl (List.Mem.head _) rfl List.not_mem_nil rfl trivial ?_
    refine L.fieldAddr rfl Tf.f25_0 rfl rfl trivial ?_
    refine L.loadD1 rfl (k := 0) Tf.a22 rfl hB1 (by first | simp | assumption) rfl List.not_mem_nil rfl trivial ?_
    refine L.move rfl rfl rfl trivial ?_
    refine L.indexS rfl Try.underlying22 Tf.s94 rfl hc rfl (by omega) hx rfl trivial (fun b1 o1 cs1 hr1 hcl1 hA1 => ?_)
    obtain rfl : cs1 = [.int .i64 _, .int .i64 _, .int .i64 _, .int .i64 _] := hr1
    refine L.fieldAddr rfl Tf.f94_0 rfl rfl trivial ?_
    refine L.loadD1 rfl (k := 0) Tf.a3 rfl hA1 (by first | simp | assumption) rfl List.not_mem_nil rfl trivial ?_
    refine L.fieldAddr rfl Tf.f25_0 rfl rfl trivial ?_
    refine L.loadD1 rfl (k := 0) Tf.a22 rfl hB1 (by first | simp | assumption) rfl List.not_mem_nil rfl trivial ?_
    refine L.move rfl rfl rfl trivial ?_
    refine L.indexS rfl Try.underlying22 Tf.s94 rfl hc rfl (by omega) hx rfl trivial (fun b2 o2 cs2 hr2 hcl2 hA2 => ?_)
    obtain rfl : cs2 = [.int .i64 _, .int .i64 _, .int .i64 _, .int .i64 _] := hr2
    refine L.fieldAddr rfl Tf.f94_1 rfl rfl trivial ?_
    refine L.loadDP rfl (k := 1) Tf.a91 Tf.s91 rfl hA2 (by first | simp | assumption) rfl rfl List.not_mem_nil rfl trivial ?_
    refine L.build (cs := [.int .i64 x.size, .int .i64 x.parts.a, .int .i64 x.parts.b, .int .i64 x.parts.c]) rfl Tf.p115 Tf.z115 rfl rfl rfl trivial ?_
    refine L.buildSlice rfl Try.underlying34 Tf.s115 Tf.z115 rfl rfl rfl rfl (.cons rfl rfl .nil) rfl trivial (fun b901 D901 hD901 hA901 => ?_)
    refine L.append (A := [(_, _), (_, _)]) (B := []) rfl Try.underlying34 rfl rfl Tf.s115 Tf.z115 rfl Tf.i115 rfl rfl rfl ha (Src.lit hA901) (by simp) rfl (chC_lenn _ _ (by simp; omega)) (by simp [cell1]) (by omega) (Or.inl rfl) rfl trivial (fun v7 ν7 ha7 => ?_)
    have hn7 : Acc 115 4 v7 (k + 1) (chC (y.chairs.take (k + 1))) ν7 := by rw [List.take_add_one, hx, Option.toList_some, chC_snoc]; simpa using ha7
    refine L.fieldAddr rfl Tf.f37_0 rfl rfl trivial ?_
    refine L.store rfl rfl rfl ha7.cells1 Tf.s34 (Has.head) (by simp) rfl ha7.cell1 trivial ?_
    refine L.nil ?_
    refine C.blockEnd ?_
    refine C.next ?_
    refine C.region [(false,0),(false,1),(false,2)] rfl ?_
    refine L.move rfl rfl rfl trivial ?_
    refine L.add rfl rfl rfl (by simp only [inK]; omega) rfl trivial ?_
    refine L.assign rfl rfl rfl trivial ?_
    refine L.nil ?_
    exact C.againR 27 (k + 1, v7, ν7) ⟨by simp only; omega, hn7⟩ (by simp only; omega) ⟨(by first | rfl | (show some (Value.int _ _) = some (Value.int _ _); congr 2; omega)), trivial⟩ rfl rfl (List.Sublist.refl _) (fun D h => ⟨D, List.Mem.tail _ (h), Le.refl D⟩)
  · obtain rfl : k = y.chairs.length := by omega
    rw [List.take_length] at ha
    refine C.exit ?_
    refine C.thenExit ?_
    refine C.thenExit ?_
    refine C.blockExit ?_
    refine C.next ?_
    refine C.seq ?_
    refine C.seq ?_
    refine C.freeze (A := [(_, _), (_, _)]) (B := []) ha rfl (fun D8 hD8 hF8 => ?_)
    clear hk1
    have hcz := hF8.chs rfl (by omega)
    have hcz1 := hcz.cell1
    clear ha
    refine C.region [(false,0)] rfl ?_
    refine L.assign rfl rfl rfl trivial ?_
    refine L.nil ?_
    refine C.next ?_
    refine C.block ?_
    refine C.loopR (γ := Nat × Value × Boxes) (fun g => y.claims.length - g.1) (fun g => g.1 ≤ y.claims.length ∧ Acc 61 2 g.2.1 g.1 (prC (y.claims.take g.1)) g.2.2) (fun g => [(5, .int .i64 (g.1 : Int))]) [(3, _), (2, _), (1, _)] (fun g => (q3, .cells [w1, .int .i64 y.fit, g.2.1].toArray 37 (0, 0)) :: (q2, .cells [.slice none 0 0, .int .i64 0, .slice none 0 0].toArray 37 (0, 0)) :: (g.2.2 ++ [])) (fun g => [D8, E1, D]) (0, .slice none 0 0, []) ⟨by simp, by simpa [chC, prC] using Acc.nil⟩ ⟨(by first | rfl | (show some (Value.int _ _) = some (Value.int _ _); congr 2; omega)), trivial⟩ ⟨rfl, rfl, rfl, trivial⟩ (List.Sublist.refl _) (ds_same) ?_
    rintro ⟨k, v, ν⟩ ⟨hk1, ha⟩
    simp only at hk1 ha
    refine C.seq ?_
    refine C.seq ?_
    refine C.region [(false,0),(false,1),(false,2),(false,3),(false,4)] rfl ?_
    refine L.move rfl rfl rfl trivial ?_
    refine L.fieldAddr rfl Tf.f25_2 rfl rfl trivial ?_
    refine L.loadD1 rfl (k := 2) Tf.a23 rfl hB1 (by first | simp | assumption) rfl List.not_mem_nil rfl trivial ?_
    refine L.len rfl Try.underlying23 rfl hq rfl rfl trivial ?_
    refine L.lss rfl rfl rfl rfl trivial ?_
    refine L.nil ?_
    refine C.next ?_
    refine C.condD rfl (fun hc2 => ?_) (fun hc2 => ?_)
    · have hk : k < y.claims.length := by omega
      obtain ⟨x, hx⟩ : ∃ x, y.claims[k]? = some x := ⟨_, List.getElem?_eq_getElem hk⟩
      refine C.skip ?_
      refine C.next ?_
      refine C.seq ?_
      refine C.block ?_
      refine C.draw [] 5 [0,1,2,3,4,5,6,7,8,9,10,11] [false,false,true,true,true,true,true,true,true,false,false,false] [(false,0),(false,1),(true,2),(true,3),(true,4),(true,5),(true,6),(true,7),(true,8),(false,9),(false,10),(false,11)] Tf.follows (fun _ _ _ h => np_body (P := Try.prog) (fn := Try.f23) _ _ _ h) (by kernel_rfl) rfl ?_
      refine L.fieldAddr rfl Tf.f37_2 rfl rfl trivial ?_
      refine L.loadB1 rfl Tf.a35 rfl (List.Mem.head _) rfl List.not_mem_nil rfl trivial ?_
      refine L.fieldAddr rfl Tf.f25_2 rfl rfl trivial ?_
      refine L.loadD1 rfl (k := 2) Tf.a23 rfl hB1 (by first | simp | assumption) rfl List.not_mem_nil rfl trivial ?_
      refine L.move rfl rfl rfl trivial ?_
      refine L.indexS rfl Try.underlying23 Tf.s67 rfl hq rfl (by omega) hx rfl trivial (fun b3 o3 cs3 hr3 hcl3 hA3 => ?_)
      obtain rfl : cs3 = [.int .i64 _, .int .i64 _] := hr3
      refine L.loadDW rfl Tf.a67 rfl hA3 (by first | simp | assumption) Tf.s67 List.not_mem_nil rfl trivial ?_
      refine L.callV rfl rfl rfl (fun D1 hD1 => to_ok x _) rfl trivial ?_
      refine L.buildSlice rfl Try.underlying35 Tf.s61 Tf.z61 rfl rfl rfl rfl (.cons rfl rfl .nil) rfl trivial (fun b902 D902 hD902 hA902 => ?_)
      refine L.append (A := [(_, _), (_, _)]) (B := []) rfl Try.underlying35 rfl rfl Tf.s61 Tf.z61 rfl Tf.i61 rfl rfl rfl ha (Src.lit hA902) (by simp) rfl (prC_lenn _ _ (by simp; omega)) (by simp [cell1]) (by omega) (Or.inl rfl) rfl trivial (fun v7 ν7 ha7 => ?_)
      have hn7 : Acc 61 2 v7 (k + 1) (prC (y.claims.take (k + 1))) ν7 := by rw [List.take_add_one, hx, Option.toList_some, prC_snoc]; simpa using ha7
      refine L.fieldAddr rfl Tf.f37_2 rfl rfl trivial ?_
      refine L.store rfl rfl rfl ha7.cells1 Tf.s35 (Has.head) (by simp) rfl ha7.cell1 trivial ?_
      refine L.nil ?_
      refine C.blockEnd ?_
      refine C.next ?_
      refine C.region [(false,0),(false,1),(false,2)] rfl ?_
      refine L.move rfl rfl rfl trivial ?_
      refine L.add rfl rfl rfl (by simp only [inK]; omega) rfl trivial ?_
      refine L.assign rfl rfl rfl trivial ?_
      refine L.nil ?_
      exact C.againR 20 (k + 1, v7, ν7) ⟨by simp only; omega, hn7⟩ (by simp only; omega) ⟨(by first | rfl | (show some (Value.int _ _) = some (Value.int _ _); congr 2; omega)), trivial⟩ rfl rfl (List.Sublist.refl _) (fun D h => ⟨D, List.Mem.tail _ (h), Le.refl D⟩)
    · obtain rfl : k = y.claims.length := by omega
      rw [List.take_length] at ha
      refine C.exit ?_
      refine C.thenExit ?_
      refine C.thenExit ?_
      refine C.blockExit ?_
      refine C.next ?_
      refine C.seq ?_
      refine C.region [(false,0),(false,1)] rfl ?_
      refine L.loadBW rfl Tf.a37 rfl (List.Mem.head _) Tf.s37 List.not_mem_nil rfl trivial ?_
      refine L.storeW rfl rfl rfl rfl Tf.s37 (by first | rfl | (simp only [ints_length, *]; done) | (simp only [ints_length, *]; rfl) | (simp only [ints_length, *]; omega)) (by first | rfl | (simp only [ints_length, *]; done) | (simp only [ints_length, *]; rfl) | (simp only [ints_length, *]; omega)) (.tail (Has.head)) (cell1_yard hcz1 ha.cell1) trivial ?_
      refine L.nil ?_
      refine C.next ?_
      refine C.ret ?_
      refine Q.freeze (A := [(_, _), (_, _)]) (B := []) ha rfl (fun D2 hD2 hF => ?_)
      exact leave (vs := [_]) rfl rfl rfl ⟨⟨_, _, _, rfl, (List.Mem.tail _ (List.Mem.head _)), Or.inr ⟨Tf.a37, Tf.s37, rfl⟩⟩, trivial⟩ (fun D' hD => ⟨_, v, rfl, hcz.up RCh.up (hD _ (by simp)), (hF.prs rfl (by omega)).up R2.up (hD _ (by simp))⟩)
end Go.Fs
namespace Go.Fs
open Go.Proofs
open C7
def shedD (k : Nat) : YardD := ⟨[⟨4, ⟨1, 0, 0⟩⟩, ⟨5, ⟨0, 1, 1⟩⟩, ⟨5, ⟨0, 1, 2⟩⟩, ⟨9, ⟨1, 1, 1⟩⟩, ⟨4, ⟨1, 0, 0⟩⟩], 1, [(3, 5), (0, 2)].take k⟩
def partsD (n : Int) : List Pt := [⟨1, 0, 0⟩, ⟨0, 1, 1⟩, ⟨0, 1, n⟩, ⟨1, 1, 1⟩, ⟨1, 0, 0⟩]
theorem shed_ok (k : Nat) (hk : k ≤ 2) (D : Data) : Fn Try.prog 69 #[.int .i64 (k : Int)] D (fun D' v => YardIs D' v (shedD k)) := by
  refine enter 22 Try.func69 rfl rfl rfl rfl fun h0 => ?_
  refine C.seq ?_
  refine C.region [(false,0)] rfl ?_
  refine L.alloc rfl Tf.z37 rfl rfl trivial (fun q1 => ?_)
  refine L.nil ?_
  refine C.next ?_
  refine C.seq ?_
  refine C.region [(false,0),(false,1),(false,2),(false,3)] rfl ?_
  refine L.callV rfl rfl rfl (fun D1 hD1 => between_ok _ _ _) rfl trivial ?_
  refine L.callV rfl rfl rfl (fun D2 hD2 => between_ok _ _ _) rfl trivial ?_
  refine L.buildSlice rfl Try.underlying35 Tf.s61 Tf.z61 rfl rfl rfl rfl (.cons rfl rfl (.cons rfl rfl .nil)) rfl trivial (fun b901 D901 hD901 hA901 => ?_)
  have hS901 : Sl D901 R2 2 _ [(3, 5), (0, 2)] := Froz.prs (l := [(3, 5), (0, 2)]) (n := 2) (Or.inr ⟨_, 2, rfl, by omega, hA901⟩) rfl (by omega)
  refine L.assign rfl rfl rfl trivial ?_
  refine L.nil ?_
  refine C.next ?_
  refine C.seq ?_
  refine C.region [(false,0),(false,1),(false,2),(false,3),(false,4),(false,5),(false,6),(false,7),(false,8),(false,9),(false,10),(false,11),(false,12),(false,13),(false,14),(false,15)] rfl ?_
  refine L.buildA (cs := [.int .i64 1, .int .i64 0, .int .i64 0]) rfl Try.underlying113 Tf.s3 Tf.z113 rfl rfl rfl trivial ?_
  refine L.build (cs := [.int .i64 4, .int .i64 1, .int .i64 0, .int .i64 0]) rfl Tf.p115 Tf.z115 rfl rfl rfl trivial ?_
  refine L.buildA (cs := [.int .i64 0, .int .i64 1, .int .i64 1]) rfl Try.underlying113 Tf.s3 Tf.z113 rfl rfl rfl trivial ?_
  refine L.build (cs := [.int .i64 5, .int .i64 0, .int .i64 1, .int .i64 1]) rfl Tf.p115 Tf.z115 rfl rfl rfl trivial ?_
  refine L.buildA (cs := [.int .i64 0, .int .i64 1, .int .i64 2]) rfl Try.underlying113 Tf.s3 Tf.z113 rfl rfl rfl trivial ?_
  refine L.build (cs := [.int .i64 5, .int .i64 0, .int .i64 1, .int .i64 2]) rfl Tf.p115 Tf.z115 rfl rfl rfl trivial ?_
  refine L.buildA (cs := [.int .i64 1, .int .i64 1, .int .i64 1]) rfl Try.underlying113 Tf.s3 Tf.z113 rfl rfl rfl trivial ?_
  refine L.build (cs := [.int .i64 9, .int .i64 1, .int .i64 1, .int .i64 1]) rfl Tf.p115 Tf.z115 rfl rfl rfl trivial ?_
  refine L.buildA (cs := [.int .i64 1, .int .i64 0, .int .i64 0]) rfl Try.underlying113 Tf.s3 Tf.z113 rfl rfl rfl trivial ?_
  refine L.build (cs := [.int .i64 4, .int .i64 1, .int .i64 0, .int .i64 0]) rfl Tf.p115 Tf.z115 rfl rfl rfl trivial ?_
  refine L.buildSlice rfl Try.underlying34 Tf.s115 Tf.z115 rfl rfl rfl rfl (.cons rfl rfl (.cons rfl rfl (.cons rfl rfl (.cons rfl rfl (.cons rfl rfl .nil))))) rfl trivial (fun b902 D902 hD902 hA902 => ?_)
  have hS902 : Sl D902 RCh 4 _ (shedD k).chairs := Froz.chs (l := (shedD k).chairs) (n := 5) (Or.inr ⟨_, 5, rfl, by omega, hA902⟩) rfl (by omega)
  refine L.move rfl rfl rfl trivial ?_
  refine L.move rfl rfl rfl trivial ?_
  refine L.sliceTo rfl Try.underlying35 Tf.s61 rfl rfl hS901 hk rfl trivial (fun v9 hv9 => ?_)
  obtain ⟨va, vc, rfl, hvr⟩ := id hv9
  refine L.build (cs := [.slice (some ⟨b902, 0, none⟩) 5 5, .int .i64 1, .slice va ([((3 : Int), (5 : Int)), (0, 2)].take k).length vc]) rfl Tf.p37 Tf.z37 rfl rfl rfl trivial ?_
  refine L.storeW rfl rfl rfl rfl Tf.s37 (by first | rfl | (simp only [ints_length, *]; done) | (simp only [ints_length, *]; rfl) | (simp only [ints_length, *]; omega)) (by first | rfl | (simp only [ints_length, *]; done) | (simp only [ints_length, *]; rfl) | (simp only [ints_length, *]; omega)) (Has.head) (by first | exact ints_cell1 _ | simp [cell1]) trivial ?_
  refine L.nil ?_
  refine C.next ?_
  refine C.ret ?_
  exact leave (vs := [_]) rfl rfl rfl ⟨⟨_, _, _, rfl, (List.Mem.head _), Or.inr ⟨Tf.a37, (by first | exact Tf.s37 | (simp only [List.size_toArray, ints_length, *]; exact Tf.s37)), rfl⟩⟩, trivial⟩ (fun D hD => ⟨_, _, rfl, hS902.up RCh.up (hD _ (by simp)), hv9.up R2.up (hD _ (by simp))⟩)
theorem parts_ok (n : Int) (D : Data) : Fn Try.prog 70 #[.int .i64 n] D (fun D' v => Sl D' RP 3 v (partsD n)) := by
  refine enter 10 Try.func70 rfl rfl rfl rfl fun h0 => ?_
  refine C.seq ?_
  refine C.region [(false,0)] rfl ?_
  refine L.assign rfl rfl rfl trivial ?_
  refine L.nil ?_
  refine C.next ?_
  refine C.seq ?_
  refine C.region [(false,0),(false,1),(false,2),(false,3),(false,4),(false,5),(false,6),(false,7)] rfl ?_
  refine L.buildA (cs := [.int .i64 1, .int .i64 0, .int .i64 0]) rfl Try.underlying113 Tf.s3 Tf.z113 rfl rfl rfl trivial ?_
  refine L.buildA (cs := [.int .i64 0, .int .i64 1, .int .i64 1]) rfl Try.underlying113 Tf.s3 Tf.z113 rfl rfl rfl trivial ?_
  refine L.move rfl rfl rfl trivial ?_
  refine L.buildA (cs := [.int .i64 0, .int .i64 1, .int .i64 n]) rfl Try.underlying113 Tf.s3 Tf.z113 rfl rfl rfl trivial ?_
  refine L.buildA (cs := [.int .i64 1, .int .i64 1, .int .i64 1]) rfl Try.underlying113 Tf.s3 Tf.z113 rfl rfl rfl trivial ?_
  refine L.buildA (cs := [.int .i64 1, .int .i64 0, .int .i64 0]) rfl Try.underlying113 Tf.s3 Tf.z113 rfl rfl rfl trivial ?_
  refine L.buildSlice rfl Try.underlying39 Tf.s113 Tf.z113 rfl rfl rfl rfl (.cons rfl rfl (.cons rfl rfl (.cons rfl rfl (.cons rfl rfl (.cons rfl rfl .nil))))) rfl trivial (fun b901 D901 hD901 hA901 => ?_)
  have hS901 : Sl D901 RP 3 _ (partsD n) := Froz.pts (l := partsD n) (n := 5) (Or.inr ⟨_, 5, rfl, by omega, hA901⟩) rfl (by omega)
  refine L.assign rfl rfl rfl trivial ?_
  refine L.nil ?_
  refine C.next ?_
  refine C.ret ?_
  exact leave (vs := [_]) rfl rfl rfl ⟨rfl, trivial⟩ (fun D hD => hS901.up RP.up (hD _ (by simp)))
end Go.Fs
namespace Go.Fs
open Go.Proofs
open C7
theorem k2_61 : K2 Try.prog 61 := ⟨by kernel_rfl, by kernel_rfl, by kernel_rfl⟩
theorem awake_ok (D : Data) : Fn Try.prog 21 #[] D (fun _ v => v = .bool true) := by
  refine enter 126 Try.func21 rfl rfl rfl rfl fun h0 => ?_
  refine C.seq ?_
  refine C.region [(false,0)] rfl ?_
  refine L.assign rfl rfl rfl trivial ?_
  refine L.nil ?_
  refine C.next ?_
  refine C.seq ?_
  refine C.region [(false,0),(false,1),(false,2),(false,3),(false,4),(false,5),(false,6),(false,7)] rfl ?_
  refine L.call rfl rfl rfl (fun D1 hD1 => shed_ok 0 (by omega) _) rfl trivial (fun v1 D1 hD1 hp1 => ?_)
  have hY1 := hp1
  refine L.call rfl rfl rfl (fun D2 hD2 => parts_ok 1 _) rfl trivial (fun v2 D2 hD2 hp2 => ?_)
  have hT1 := hp2
  refine L.callV rfl rfl rfl (fun D3 hD3 => Play_ok _ _ (shedD 0) (partsD 1) _ (hY1.up (hD3 _ (by simp))) (hT1.up RP.up (hD3 _ (by simp)))) rfl trivial ?_
  refine L.move rfl rfl rfl trivial ?_
  refine L.extract rfl rfl rfl rfl trivial ?_
  refine L.extract rfl rfl rfl rfl trivial ?_
  refine L.assign rfl rfl rfl trivial ?_
  refine L.assign rfl rfl rfl trivial ?_
  refine L.nil ?_
  refine C.next ?_
  refine C.seq ?_
  refine C.region [(false,0),(false,1),(false,2),(false,3),(false,4),(false,5),(false,6),(false,7)] rfl ?_
  refine L.call rfl rfl rfl (fun D4 hD4 => shed_ok 0 (by omega) _) rfl trivial (fun v4 D4 hD4 hp4 => ?_)
  have hY2 := hp4
  refine L.call rfl rfl rfl (fun D5 hD5 => parts_ok 0 _) rfl trivial (fun v5 D5 hD5 hp5 => ?_)
  have hT2 := hp5
  refine L.call rfl rfl rfl (fun D6 hD6 => Pairs_ok _ _ (shedD 0) (partsD 0) _ (hY2.up (hD6 _ (by simp))) (hT2.up RP.up (hD6 _ (by simp)))) rfl trivial (fun v6 D6 hD6 hp6 => ?_)
  obtain ⟨lv2, rfl, hl2⟩ := hp6
  refine L.move rfl rfl rfl trivial ?_
  refine L.extract rfl rfl rfl rfl trivial ?_
  refine L.extract rfl rfl rfl rfl trivial ?_
  refine L.assign rfl rfl rfl trivial ?_
  refine L.assign rfl rfl rfl trivial ?_
  refine L.nil ?_
  refine C.next ?_
  refine C.seq ?_
  refine C.region [(false,0),(false,1),(false,2),(false,3),(false,4),(false,5),(false,6),(false,7),(false,8),(false,9)] rfl ?_
  refine L.call rfl rfl rfl (fun D7 hD7 => shed_ok 0 (by omega) _) rfl trivial (fun v7 D7 hD7 hp7 => ?_)
  have hY3 := hp7
  refine L.call rfl rfl rfl (fun D8 hD8 => parts_ok 0 _) rfl trivial (fun v8 D8 hD8 hp8 => ?_)
  have hT3 := hp8
  refine L.call rfl rfl rfl (fun D9 hD9 => Berge_ok _ _ (shedD 0) (partsD 0) _ (hY3.up (hD9 _ (by simp))) (hT3.up RP.up (hD9 _ (by simp)))) rfl trivial (fun v9 D9 hD9 hp9 => ?_)
  obtain ⟨lv3, rfl, hl3⟩ := hp9
  refine L.move rfl rfl rfl trivial ?_
  refine L.extract rfl rfl rfl rfl trivial ?_
  refine L.extract rfl rfl rfl rfl trivial ?_
  refine L.extract rfl rfl rfl rfl trivial ?_
  refine L.assign rfl rfl rfl trivial ?_
  refine L.assign rfl rfl rfl trivial ?_
  refine L.assign rfl rfl rfl trivial ?_
  refine L.nil ?_
  refine C.next ?_
  refine C.seq ?_
  refine C.region [(false,0),(false,1),(false,2),(false,3),(false,4),(false,5),(false,6),(false,7)] rfl ?_
  refine L.call rfl rfl rfl (fun D10 hD10 => shed_ok 0 (by omega) _) rfl trivial (fun v10 D10 hD10 hp10 => ?_)
  have hY4 := hp10
  refine L.callV rfl rfl rfl (fun D11 hD11 => Bounds_ok _ (shedD 0) _ (hY4.up (hD11 _ (by simp)))) rfl trivial ?_
  refine L.move rfl rfl rfl trivial ?_
  refine L.extract rfl rfl rfl rfl trivial ?_
  refine L.extract rfl rfl rfl rfl trivial ?_
  refine L.alloc rfl Tf.z61 rfl rfl trivial (fun q1 => ?_)
  refine L.storeW rfl rfl rfl rfl Tf.s61 (by first | rfl | (simp only [ints_length, *]; done) | (simp only [ints_length, *]; rfl) | (simp only [ints_length, *]; omega)) (by first | rfl | (simp only [ints_length, *]; done) | (simp only [ints_length, *]; rfl) | (simp only [ints_length, *]; omega)) (Has.head) (by first | exact ints_cell1 _ | simp [cell1]) trivial ?_
  refine L.assign rfl rfl rfl trivial ?_
  refine L.nil ?_
  refine C.next ?_
  refine C.seq ?_
  refine C.region [(false,0),(false,1),(false,2),(false,3),(false,4),(false,5),(false,6),(false,7),(false,8)] rfl ?_
  refine L.call rfl rfl rfl (fun D12 hD12 => shed_ok 0 (by omega) _) rfl trivial (fun v12 D12 hD12 hp12 => ?_)
  have hY5 := hp12
  refine L.call rfl rfl rfl (fun D13 hD13 => Sure_ok _ (shedD 0) _ (hY5.up (hD13 _ (by simp)))) rfl trivial (fun v13 D13 hD13 hp13 => ?_)
  obtain ⟨lv5, rfl, hl5⟩ := hp13
  refine L.move rfl rfl rfl trivial ?_
  refine L.extract rfl rfl rfl rfl trivial ?_
  refine L.extract rfl rfl rfl rfl trivial ?_
  refine L.extract rfl rfl rfl rfl trivial ?_
  refine L.assign rfl rfl rfl trivial ?_
  refine L.assign rfl rfl rfl trivial ?_
  refine L.assign rfl rfl rfl trivial ?_
  refine L.nil ?_
  refine C.next ?_
  refine C.seq ?_
  refine C.region [(false,0),(false,1),(false,2),(false,3),(false,4),(false,5),(false,6)] rfl ?_
  refine L.call rfl rfl rfl (fun D14 hD14 => shed_ok 2 (by omega) _) rfl trivial (fun v14 D14 hD14 hp14 => ?_)
  have hY6 := hp14
  refine L.callV rfl rfl rfl (fun D15 hD15 => First_ok _ (shedD 2) _ (hY6.up (hD15 _ (by simp)))) rfl trivial ?_
  refine L.move rfl rfl rfl trivial ?_
  refine L.extract rfl rfl rfl rfl trivial ?_
  refine L.extract rfl rfl rfl rfl trivial ?_
  refine L.assign rfl rfl rfl trivial ?_
  refine L.assign rfl rfl rfl trivial ?_
  refine L.nil ?_
  refine C.next ?_
  refine C.seq ?_
  refine C.region [(false,0),(false,1),(false,2),(false,3),(false,4),(false,5),(false,6)] rfl ?_
  refine L.call rfl rfl rfl (fun D16 hD16 => shed_ok 2 (by omega) _) rfl trivial (fun v16 D16 hD16 hp16 => ?_)
  have hY7 := hp16
  refine L.call rfl rfl rfl (fun D17 hD17 => Leave_ok _ (shedD 2) _ (hY7.up (hD17 _ (by simp)))) rfl trivial (fun v17 D17 hD17 hp17 => ?_)
  obtain ⟨lv7, rfl, hl7⟩ := hp17
  refine L.move rfl rfl rfl trivial ?_
  refine L.extract rfl rfl rfl rfl trivial ?_
  refine L.extract rfl rfl rfl rfl trivial ?_
  refine L.assign rfl rfl rfl trivial ?_
  refine L.assign rfl rfl rfl trivial ?_
  refine L.nil ?_
  refine C.next ?_
  refine C.seq ?_
  refine C.draw [] 21 [0,1,2,3,4,5,6,7,8,9,10,13,11,12,14,15,16,17,18,19,20,21,22,23,24,27,25,26,28,29,30,31,32,33,34,35,36,37,38,39,40,41,42,43,44,45,46,47,49,48,50,51,52,53,54,55,56,57,58,59,60,61,62,63,64,65,66,67,68,69] [false,false,false,false,false,false,false,false,false,false,false,false,true,true,false,false,false,false,false,false,false,false,false,false,false,false,true,true,false,false,false,false,false,false,false,false,true,false,false,false,false,false,false,false,false,false,false,false,false,true,false,false,false,false,false,false,false,false,false,false,false,false,false,false,false,false,true,false,false,false] [(false,0),(false,1),(false,2),(false,3),(false,4),(false,5),(false,6),(false,7),(false,8),(false,9),(false,10),(false,13),(true,11),(true,12),(false,14),(false,15),(false,16),(false,17),(false,18),(false,19),(false,20),(false,21),(false,22),(false,23),(false,24),(false,27),(true,25),(true,26),(false,28),(false,29),(false,30),(false,31),(false,32),(false,33),(false,34),(false,35),(true,36),(false,37),(false,38),(false,39),(false,40),(false,41),(false,42),(false,43),(false,44),(false,45),(false,46),(false,47),(false,49),(true,48),(false,50),(false,51),(false,52),(false,53),(false,54),(false,55),(false,56),(false,57),(false,58),(false,59),(false,60),(false,61),(false,62),(false,63),(false,64),(false,65),(true,66),(false,67),(false,68),(false,69)] Tf.follows (fun _ _ _ h => np_body (P := Try.prog) (fn := Try.f21) _ _ _ h) (by kernel_rfl) rfl ?_
  refine L.move rfl rfl rfl trivial ?_
  refine L.eql rfl rfl rfl rfl trivial ?_
  refine L.move rfl rfl rfl trivial ?_
  refine' L.and [(false,3),(false,4),(false,5)] [(false,6),(false,7),(false,8),(false,9),(false,10),(false,13),(true,11),(true,12),(false,14),(false,15),(false,16),(false,17),(false,18),(false,19),(false,20),(false,21),(false,22),(false,23),(false,24),(false,27),(true,25),(true,26),(false,28),(false,29),(false,30),(false,31),(false,32),(false,33),(false,34),(false,35),(true,36),(false,37),(false,38),(false,39),(false,40),(false,41),(false,42),(false,43),(false,44),(false,45),(false,46),(false,47),(false,49),(true,48),(false,50),(false,51),(false,52),(false,53),(false,54),(false,55),(false,56),(false,57),(false,58),(false,59),(false,60),(false,61),(false,62),(false,63),(false,64),(false,65),(true,66),(false,67),(false,68),(false,69)] (s := 59) (p := 62) rfl rfl (fun hg1 => ?_) (fun hg1 => ?_) ?_
  rotate_left
  · refine L.move rfl rfl rfl ⟨_, rfl, rfl⟩ ?_
    refine L.eql rfl rfl rfl rfl ⟨_, rfl, rfl⟩ ?_
    refine L.pickT rfl rfl rfl rfl trivial ?_
    exact L.nil fun a w hh => hh.cutK 2 rfl
  · refine L.pass rfl rfl rfl ⟨_, _, rfl, rfl, rfl⟩ ?_
    refine L.pass rfl rfl rfl ⟨_, _, rfl, rfl, rfl⟩ ?_
    refine L.pickF rfl rfl rfl rfl trivial ?_
    exact L.nil fun a w hh => hh.cutK 2 rfl
  refine L.move rfl rfl rfl trivial ?_
  refine' L.and [(false,7),(false,8),(false,9)] [(false,10),(false,13),(true,11),(true,12),(false,14),(false,15),(false,16),(false,17),(false,18),(false,19),(false,20),(false,21),(false,22),(false,23),(false,24),(false,27),(true,25),(true,26),(false,28),(false,29),(false,30),(false,31),(false,32),(false,33),(false,34),(false,35),(true,36),(false,37),(false,38),(false,39),(false,40),(false,41),(false,42),(false,43),(false,44),(false,45),(false,46),(false,47),(false,49),(true,48),(false,50),(false,51),(false,52),(false,53),(false,54),(false,55),(false,56),(false,57),(false,58),(false,59),(false,60),(false,61),(false,62),(false,63),(false,64),(false,65),(true,66),(false,67),(false,68),(false,69)] (s := 63) (p := 66) rfl rfl (fun hg2 => ?_) (fun hg2 => ?_) ?_
  rotate_left
  · refine L.move rfl rfl rfl ⟨_, rfl, rfl⟩ ?_
    refine L.eql rfl rfl rfl rfl ⟨_, rfl, rfl⟩ ?_
    refine L.pickT rfl rfl rfl rfl trivial ?_
    exact L.nil fun a w hh => hh.cutK 2 rfl
  · refine L.pass rfl rfl rfl ⟨_, _, rfl, rfl, rfl⟩ ?_
    refine L.pass rfl rfl rfl ⟨_, _, rfl, rfl, rfl⟩ ?_
    refine L.pickF rfl rfl rfl rfl trivial ?_
    exact L.nil fun a w hh => hh.cutK 2 rfl
  refine L.move rfl rfl rfl trivial ?_
  refine' L.and [(false,13),(true,11),(true,12),(false,14),(false,15)] [(false,16),(false,17),(false,18),(false,19),(false,20),(false,21),(false,22),(false,23),(false,24),(false,27),(true,25),(true,26),(false,28),(false,29),(false,30),(false,31),(false,32),(false,33),(false,34),(false,35),(true,36),(false,37),(false,38),(false,39),(false,40),(false,41),(false,42),(false,43),(false,44),(false,45),(false,46),(false,47),(false,49),(true,48),(false,50),(false,51),(false,52),(false,53),(false,54),(false,55),(false,56),(false,57),(false,58),(false,59),(false,60),(false,61),(false,62),(false,63),(false,64),(false,65),(true,66),(false,67),(false,68),(false,69)] (s := 67) (p := 72) rfl rfl (fun hg3 => ?_) (fun hg3 => ?_) ?_
  rotate_left
  · refine L.move rfl rfl rfl ⟨_, rfl, rfl⟩ ?_
    refine L.call rfl rfl rfl (fun D18 hD18 => shed_ok 0 (by omega) _) rfl ⟨_, rfl, rfl⟩ (fun v18 D18 hD18 hp18 => ?_)
    have hY8 := hp18
    refine L.call rfl rfl rfl (fun D19 hD19 => parts_ok 0 _) rfl ⟨_, rfl, rfl⟩ (fun v19 D19 hD19 hp19 => ?_)
    have hT8 := hp19
    refine L.callV rfl rfl rfl (fun D20 hD20 => ProvePairs_ok _ _ _ (shedD 0) (partsD 0) _ 2 _ (hY8.up (hD20 _ (by simp))) (hT8.up RP.up (hD20 _ (by simp))) (hl2.up R2.up (hD20 _ (by simp)))) rfl ⟨_, rfl, rfl⟩ ?_
    refine L.pickT rfl rfl rfl rfl trivial ?_
    exact L.nil fun a w hh => (hh.cutK 4 rfl).ds (fun _ h => List.Mem.tail _ (List.Mem.tail _ (h)))
  · refine L.pass rfl rfl rfl ⟨_, _, rfl, rfl, rfl⟩ ?_
    refine L.pass rfl rfl rfl ⟨_, _, rfl, rfl, rfl⟩ ?_
    refine L.pass rfl rfl rfl ⟨_, _, rfl, rfl, rfl⟩ ?_
    refine L.pass rfl rfl rfl ⟨_, _, rfl, rfl, rfl⟩ ?_
    refine L.pickF rfl rfl rfl rfl trivial ?_
    exact L.nil fun a w hh => hh.cutK 4 rfl
  refine L.move rfl rfl rfl trivial ?_
  refine' L.and [(false,17),(false,18),(false,19)] [(false,20),(false,21),(false,22),(false,23),(false,24),(false,27),(true,25),(true,26),(false,28),(false,29),(false,30),(false,31),(false,32),(false,33),(false,34),(false,35),(true,36),(false,37),(false,38),(false,39),(false,40),(false,41),(false,42),(false,43),(false,44),(false,45),(false,46),(false,47),(false,49),(true,48),(false,50),(false,51),(false,52),(false,53),(false,54),(false,55),(false,56),(false,57),(false,58),(false,59),(false,60),(false,61),(false,62),(false,63),(false,64),(false,65),(true,66),(false,67),(false,68),(false,69)] (s := 73) (p := 76) rfl rfl (fun hg4 => ?_) (fun hg4 => ?_) ?_
  rotate_left
  · refine L.move rfl rfl rfl ⟨_, rfl, rfl⟩ ?_
    refine L.eql rfl rfl rfl rfl ⟨_, rfl, rfl⟩ ?_
    refine L.pickT rfl rfl rfl rfl trivial ?_
    exact L.nil fun a w hh => hh.cutK 2 rfl
  · refine L.pass rfl rfl rfl ⟨_, _, rfl, rfl, rfl⟩ ?_
    refine L.pass rfl rfl rfl ⟨_, _, rfl, rfl, rfl⟩ ?_
    refine L.pickF rfl rfl rfl rfl trivial ?_
    exact L.nil fun a w hh => hh.cutK 2 rfl
  refine L.move rfl rfl rfl trivial ?_
  refine' L.and [(false,21),(false,22),(false,23)] [(false,24),(false,27),(true,25),(true,26),(false,28),(false,29),(false,30),(false,31),(false,32),(false,33),(false,34),(false,35),(true,36),(false,37),(false,38),(false,39),(false,40),(false,41),(false,42),(false,43),(false,44),(false,45),(false,46),(false,47),(false,49),(true,48),(false,50),(false,51),(false,52),(false,53),(false,54),(false,55),(false,56),(false,57),(false,58),(false,59),(false,60),(false,61),(false,62),(false,63),(false,64),(false,65),(true,66),(false,67),(false,68),(false,69)] (s := 77) (p := 80) rfl rfl (fun hg5 => ?_) (fun hg5 => ?_) ?_
  rotate_left
  · refine L.move rfl rfl rfl ⟨_, rfl, rfl⟩ ?_
    refine L.eql rfl rfl rfl rfl ⟨_, rfl, rfl⟩ ?_
    refine L.pickT rfl rfl rfl rfl trivial ?_
    exact L.nil fun a w hh => hh.cutK 2 rfl
  · refine L.pass rfl rfl rfl ⟨_, _, rfl, rfl, rfl⟩ ?_
    refine L.pass rfl rfl rfl ⟨_, _, rfl, rfl, rfl⟩ ?_
    refine L.pickF rfl rfl rfl rfl trivial ?_
    exact L.nil fun a w hh => hh.cutK 2 rfl
  refine L.move rfl rfl rfl trivial ?_
  refine' L.and [(false,27),(true,25),(true,26),(false,28),(false,29)] [(false,30),(false,31),(false,32),(false,33),(false,34),(false,35),(true,36),(false,37),(false,38),(false,39),(false,40),(false,41),(false,42),(false,43),(false,44),(false,45),(false,46),(false,47),(false,49),(true,48),(false,50),(false,51),(false,52),(false,53),(false,54),(false,55),(false,56),(false,57),(false,58),(false,59),(false,60),(false,61),(false,62),(false,63),(false,64),(false,65),(true,66),(false,67),(false,68),(false,69)] (s := 81) (p := 86) rfl rfl (fun hg6 => ?_) (fun hg6 => ?_) ?_
  rotate_left
  · refine L.move rfl rfl rfl ⟨_, rfl, rfl⟩ ?_
    refine L.call rfl rfl rfl (fun D21 hD21 => shed_ok 0 (by omega) _) rfl ⟨_, rfl, rfl⟩ (fun v21 D21 hD21 hp21 => ?_)
    have hY9 := hp21
    refine L.call rfl rfl rfl (fun D22 hD22 => parts_ok 0 _) rfl ⟨_, rfl, rfl⟩ (fun v22 D22 hD22 hp22 => ?_)
    have hT9 := hp22
    refine L.callV rfl rfl rfl (fun D23 hD23 => ProveBerge_ok _ _ _ (shedD 0) (partsD 0) _ 2 _ (hY9.up (hD23 _ (by simp))) (hT9.up RP.up (hD23 _ (by simp))) (hl3.up RI.up (hD23 _ (by simp)))) rfl ⟨_, rfl, rfl⟩ ?_
    refine L.pickT rfl rfl rfl rfl trivial ?_
    exact L.nil fun a w hh => (hh.cutK 4 rfl).ds (fun _ h => List.Mem.tail _ (List.Mem.tail _ (h)))
  · refine L.pass rfl rfl rfl ⟨_, _, rfl, rfl, rfl⟩ ?_
    refine L.pass rfl rfl rfl ⟨_, _, rfl, rfl, rfl⟩ ?_
    refine L.pass rfl rfl rfl ⟨_, _, rfl, rfl, rfl⟩ ?_
    refine L.pass rfl rfl rfl ⟨_, _, rfl, rfl, rfl⟩ ?_
    refine L.pickF rfl rfl rfl rfl trivial ?_
    exact L.nil fun a w hh => hh.cutK 4 rfl
  refine L.move rfl rfl rfl trivial ?_
  refine' L.and [(false,31),(false,32),(false,33)] [(false,34),(false,35),(true,36),(false,37),(false,38),(false,39),(false,40),(false,41),(false,42),(false,43),(false,44),(false,45),(false,46),(false,47),(false,49),(true,48),(false,50),(false,51),(false,52),(false,53),(false,54),(false,55),(false,56),(false,57),(false,58),(false,59),(false,60),(false,61),(false,62),(false,63),(false,64),(false,65),(true,66),(false,67),(false,68),(false,69)] (s := 87) (p := 90) rfl rfl (fun hg7 => ?_) (fun hg7 => ?_) ?_
  rotate_left
  · refine L.move rfl rfl rfl ⟨_, rfl, rfl⟩ ?_
    refine L.eql rfl rfl rfl rfl ⟨_, rfl, rfl⟩ ?_
    refine L.pickT rfl rfl rfl rfl trivial ?_
    exact L.nil fun a w hh => hh.cutK 2 rfl
  · refine L.pass rfl rfl rfl ⟨_, _, rfl, rfl, rfl⟩ ?_
    refine L.pass rfl rfl rfl ⟨_, _, rfl, rfl, rfl⟩ ?_
    refine L.pickF rfl rfl rfl rfl trivial ?_
    exact L.nil fun a w hh => hh.cutK 2 rfl
  refine L.move rfl rfl rfl trivial ?_
  refine' L.and [(false,35),(true,36),(false,37),(false,38)] [(false,39),(false,40),(false,41),(false,42),(false,43),(false,44),(false,45),(false,46),(false,47),(false,49),(true,48),(false,50),(false,51),(false,52),(false,53),(false,54),(false,55),(false,56),(false,57),(false,58),(false,59),(false,60),(false,61),(false,62),(false,63),(false,64),(false,65),(true,66),(false,67),(false,68),(false,69)] (s := 91) (p := 95) rfl rfl (fun hg8 => ?_) (fun hg8 => ?_) ?_
  rotate_left
  · refine L.loadBW rfl Tf.a61 rfl (List.Mem.head _) Tf.s61 List.not_mem_nil rfl ⟨_, rfl, rfl⟩ ?_
    refine L.callV rfl rfl rfl (fun D24 hD24 => between_ok _ _ _) rfl ⟨_, rfl, rfl⟩ ?_
    refine L.eqlK  rfl (by kernel_rfl) k2_61 rfl rfl rfl ⟨_, rfl, rfl⟩ ?_
    refine L.pickT rfl rfl rfl rfl trivial ?_
    exact L.nil fun a w hh => hh.cutK 3 rfl
  · refine L.pass rfl rfl rfl ⟨_, _, rfl, rfl, rfl⟩ ?_
    refine L.pass rfl rfl rfl ⟨_, _, rfl, rfl, rfl⟩ ?_
    refine L.pass rfl rfl rfl ⟨_, _, rfl, rfl, rfl⟩ ?_
    refine L.pickF rfl rfl rfl rfl trivial ?_
    exact L.nil fun a w hh => hh.cutK 3 rfl
  refine L.move rfl rfl rfl trivial ?_
  refine' L.and [(false,40),(false,41),(false,42)] [(false,43),(false,44),(false,45),(false,46),(false,47),(false,49),(true,48),(false,50),(false,51),(false,52),(false,53),(false,54),(false,55),(false,56),(false,57),(false,58),(false,59),(false,60),(false,61),(false,62),(false,63),(false,64),(false,65),(true,66),(false,67),(false,68),(false,69)] (s := 96) (p := 99) rfl rfl (fun hg9 => ?_) (fun hg9 => ?_) ?_
  rotate_left
  · refine L.move rfl rfl rfl ⟨_, rfl, rfl⟩ ?_
    refine L.eql rfl rfl rfl rfl ⟨_, rfl, rfl⟩ ?_
    refine L.pickT rfl rfl rfl rfl trivial ?_
    exact L.nil fun a w hh => hh.cutK 2 rfl
  · refine L.pass rfl rfl rfl ⟨_, _, rfl, rfl, rfl⟩ ?_
    refine L.pass rfl rfl rfl ⟨_, _, rfl, rfl, rfl⟩ ?_
    refine L.pickF rfl rfl rfl rfl trivial ?_
    exact L.nil fun a w hh => hh.cutK 2 rfl
  refine L.move rfl rfl rfl trivial ?_
  refine' L.and [(false,44),(false,45),(false,46)] [(false,47),(false,49),(true,48),(false,50),(false,51),(false,52),(false,53),(false,54),(false,55),(false,56),(false,57),(false,58),(false,59),(false,60),(false,61),(false,62),(false,63),(false,64),(false,65),(true,66),(false,67),(false,68),(false,69)] (s := 100) (p := 103) rfl rfl (fun hg10 => ?_) (fun hg10 => ?_) ?_
  rotate_left
  · refine L.move rfl rfl rfl ⟨_, rfl, rfl⟩ ?_
    refine L.eql rfl rfl rfl rfl ⟨_, rfl, rfl⟩ ?_
    refine L.pickT rfl rfl rfl rfl trivial ?_
    exact L.nil fun a w hh => hh.cutK 2 rfl
  · refine L.pass rfl rfl rfl ⟨_, _, rfl, rfl, rfl⟩ ?_
    refine L.pass rfl rfl rfl ⟨_, _, rfl, rfl, rfl⟩ ?_
    refine L.pickF rfl rfl rfl rfl trivial ?_
    exact L.nil fun a w hh => hh.cutK 2 rfl
  refine L.move rfl rfl rfl trivial ?_
  refine' L.and [(false,49),(true,48),(false,50),(false,51)] [(false,52),(false,53),(false,54),(false,55),(false,56),(false,57),(false,58),(false,59),(false,60),(false,61),(false,62),(false,63),(false,64),(false,65),(true,66),(false,67),(false,68),(false,69)] (s := 104) (p := 108) rfl rfl (fun hg11 => ?_) (fun hg11 => ?_) ?_
  rotate_left
  · refine L.move rfl rfl rfl ⟨_, rfl, rfl⟩ ?_
    refine L.call rfl rfl rfl (fun D25 hD25 => shed_ok 0 (by omega) _) rfl ⟨_, rfl, rfl⟩ (fun v25 D25 hD25 hp25 => ?_)
    have hY10 := hp25
    refine L.callV rfl rfl rfl (fun D26 hD26 => ProveSure_ok _ _ (shedD 0) _ 2 _ (hY10.up (hD26 _ (by simp))) (hl5.up R2.up (hD26 _ (by simp)))) rfl ⟨_, rfl, rfl⟩ ?_
    refine L.pickT rfl rfl rfl rfl trivial ?_
    exact L.nil fun a w hh => (hh.cutK 3 rfl).ds (fun _ h => List.Mem.tail _ (h))
  · refine L.pass rfl rfl rfl ⟨_, _, rfl, rfl, rfl⟩ ?_
    refine L.pass rfl rfl rfl ⟨_, _, rfl, rfl, rfl⟩ ?_
    refine L.pass rfl rfl rfl ⟨_, _, rfl, rfl, rfl⟩ ?_
    refine L.pickF rfl rfl rfl rfl trivial ?_
    exact L.nil fun a w hh => hh.cutK 3 rfl
  refine L.move rfl rfl rfl trivial ?_
  refine' L.and [(false,53),(false,54),(false,55)] [(false,56),(false,57),(false,58),(false,59),(false,60),(false,61),(false,62),(false,63),(false,64),(false,65),(true,66),(false,67),(false,68),(false,69)] (s := 109) (p := 112) rfl rfl (fun hg12 => ?_) (fun hg12 => ?_) ?_
  rotate_left
  · refine L.move rfl rfl rfl ⟨_, rfl, rfl⟩ ?_
    refine L.eql rfl rfl rfl rfl ⟨_, rfl, rfl⟩ ?_
    refine L.pickT rfl rfl rfl rfl trivial ?_
    exact L.nil fun a w hh => hh.cutK 2 rfl
  · refine L.pass rfl rfl rfl ⟨_, _, rfl, rfl, rfl⟩ ?_
    refine L.pass rfl rfl rfl ⟨_, _, rfl, rfl, rfl⟩ ?_
    refine L.pickF rfl rfl rfl rfl trivial ?_
    exact L.nil fun a w hh => hh.cutK 2 rfl
  refine L.move rfl rfl rfl trivial ?_
  refine' L.and [(false,57),(false,58),(false,59)] [(false,60),(false,61),(false,62),(false,63),(false,64),(false,65),(true,66),(false,67),(false,68),(false,69)] (s := 113) (p := 116) rfl rfl (fun hg13 => ?_) (fun hg13 => ?_) ?_
  rotate_left
  · refine L.move rfl rfl rfl ⟨_, rfl, rfl⟩ ?_
    refine L.eql rfl rfl rfl rfl ⟨_, rfl, rfl⟩ ?_
    refine L.pickT rfl rfl rfl rfl trivial ?_
    exact L.nil fun a w hh => hh.cutK 2 rfl
  · refine L.pass rfl rfl rfl ⟨_, _, rfl, rfl, rfl⟩ ?_
    refine L.pass rfl rfl rfl ⟨_, _, rfl, rfl, rfl⟩ ?_
    refine L.pickF rfl rfl rfl rfl trivial ?_
    exact L.nil fun a w hh => hh.cutK 2 rfl
  refine L.move rfl rfl rfl trivial ?_
  refine' L.and [(false,61),(false,62),(false,63)] [(false,64),(false,65),(true,66),(false,67),(false,68),(false,69)] (s := 117) (p := 120) rfl rfl (fun hg14 => ?_) (fun hg14 => ?_) ?_
  rotate_left
  · refine L.move rfl rfl rfl ⟨_, rfl, rfl⟩ ?_
    refine L.eql rfl rfl rfl rfl ⟨_, rfl, rfl⟩ ?_
    refine L.pickT rfl rfl rfl rfl trivial ?_
    exact L.nil fun a w hh => hh.cutK 2 rfl
  · refine L.pass rfl rfl rfl ⟨_, _, rfl, rfl, rfl⟩ ?_
    refine L.pass rfl rfl rfl ⟨_, _, rfl, rfl, rfl⟩ ?_
    refine L.pickF rfl rfl rfl rfl trivial ?_
    exact L.nil fun a w hh => hh.cutK 2 rfl
  refine L.move rfl rfl rfl trivial ?_
  refine' L.and [(false,65),(true,66),(false,67),(false,68)] [(false,69)] (s := 121) (p := 125) rfl rfl (fun hg15 => ?_) (fun hg15 => ?_) ?_
  rotate_left
  · refine L.move rfl rfl rfl ⟨_, rfl, rfl⟩ ?_
    refine L.buildSlice rfl Try.underlying52 Tf.s3 Tf.z3 rfl rfl rfl rfl (.cons rfl rfl .nil) rfl ⟨_, rfl, rfl⟩ (fun b901 D901 hD901 hA901 => ?_)
    have hS901 : Sl D901 RI 1 _ [0] := Froz.ints (l := [0]) (n := 1) (Or.inr ⟨_, 1, rfl, by omega, hA901⟩) rfl (by omega)
    refine L.callV rfl rfl rfl (fun D27 hD27 => ints_ok _ _ _ [0] _ (hl7.up RI.up (hD27 _ (by simp))) (hS901.up RI.up (hD27 _ (by simp)))) rfl ⟨_, rfl, rfl⟩ ?_
    refine L.pickT rfl rfl rfl rfl trivial ?_
    exact L.nil fun a w hh => (hh.cutK 3 rfl).ds (fun _ h => List.Mem.tail _ (h))
  · refine L.pass rfl rfl rfl ⟨_, _, rfl, rfl, rfl⟩ ?_
    refine L.pass rfl rfl rfl ⟨_, _, rfl, rfl, rfl⟩ ?_
    refine L.pass rfl rfl rfl ⟨_, _, rfl, rfl, rfl⟩ ?_
    refine L.pickF rfl rfl rfl rfl trivial ?_
    exact L.nil fun a w hh => hh.cutK 3 rfl
  refine L.assign rfl rfl rfl trivial ?_
  refine L.nil ?_
  refine C.next ?_
  refine C.ret ?_
  exact leave (vs := [_]) rfl rfl rfl ⟨rfl, trivial⟩ (fun D hD => congrArg Value.bool (by decide +kernel))
end Go.Fs
namespace Go.Fs
open Go.Proofs
open C7
theorem thin_len {y : YardD} (h : thin y = true) : y.chairs.length ≤ 9 ∧ y.claims.length ≤ 7 := by
  simp only [thin, Bool.and_eq_true, decide_eq_true_eq] at h; omega
theorem fitB_comm (y : YardD) (t : List Pt) (a b : Nat) : fitB y t a b = fitB y t b a := by
  unfold fitB
  cases t[a]? <;> cases t[b]? <;> cases y.chairs[a]? <;> cases y.chairs[b]? <;> try rfl
  rename_i p q x z
  simp only
  rw [near_comm, joins_comm, show decide ((b : Int) ≠ a) = decide ((a : Int) ≠ b) from decide_eq_decide.2 ⟨fun h e => h e.symm, fun h e => h e.symm⟩]
theorem fitB_in {y : YardD} {t : List Pt} {a b : Nat} (h : fitB y t a b = true) : a < t.length ∧ b < t.length ∧ brokB t a = true ∧ brokB t b = true := by
  unfold fitB at h
  split at h
  · rename_i p q x z hp hq _ _
    simp only [joins, Bool.and_eq_true] at h
    refine ⟨(List.getElem?_eq_some_iff.1 hp).1, (List.getElem?_eq_some_iff.1 hq).1, ?_, ?_⟩
    · unfold brokB; rw [hp]; exact h.2.1.1
    · unfold brokB; rw [hq]; exact h.2.1.2
  · simp at h
theorem fB_fits {y : YardD} {t : List Pt} (h7 : t.length ≤ 7) : fB (sceneD y t).fits = fitB y t := by
  funext a b
  unfold fB sceneD
  simp only [List.getD_eq_getElem?_getD, List.getElem?_map]
  by_cases ha : a < 7
  · rw [List.getElem?_range ha, Option.map_some, Option.getD_some, bset_bit]
    cases e : fitB y t a b with
    | false => simp
    | true => simp [(fitB_in e).2.1]
  · rw [List.getElem?_eq_none (by simp; omega)]
    cases e : fitB y t a b with
    | false => simp
    | true => have := (fitB_in e).1; omega
/-- The most pairs: program. -/
theorem nu_is {y : YardD} {t : List Pt} (hl : t.length = y.chairs.length) (h7 : t.length ≤ 7) : IsNu (fitB y t) (sceneD y t).broken.testBit (nuB (sceneD y t).fits y.chairs.length (sceneD y t).broken) := by
  have := nuB_is (F := (sceneD y t).fits) (n := y.chairs.length) (fun a b => by rw [fB_fits h7]; exact fitB_comm y t a b) _ (sceneD y t).broken (Nat.le_refl _) (scene_ok' hl h7).bits
  rwa [fB_fits h7] at this
theorem makesR_pI (y : YardD) (t : List Pt) (l : List (Nat × Nat)) : makesR y t (pI l) = whole t + fitN (fitB y t) l := by
  unfold makesR fitN pI
  rw [List.filter_map, List.length_map]
  rfl
theorem prs_ne (n k w : Nat) (h : k ≤ n) : prs n k w ≠ [] := fun e => by
  obtain ⟨l, hl, _⟩ := prs_has k w h [] ⟨by simp, by simp [ends]⟩
  rw [e] at hl; simp at hl
end Go.Fs
namespace Go.Fs
open Go.Proofs
open C7
theorem ip_bit (s x z : Nat) : (((s &&& (2 ^ x ||| 2 ^ z) : Nat) : Int) ≠ 0) ↔ (((s >>> x ||| s >>> z : Nat) : Int) % 2 = 1) := by
  constructor
  · intro h
    cases e : decide ((((s >>> x) ||| (s >>> z) : Nat) : Int) % 2 = 1) with
    | true => exact of_decide_eq_true e
    | false =>
      obtain ⟨h1, h2⟩ := prS_bits e
      refine absurd ?_ h
      have : s &&& (2 ^ x ||| 2 ^ z) = 0 := Nat.eq_of_testBit_eq fun i => by
        rw [Nat.testBit_and, Nat.testBit_or, Nat.testBit_two_pow, Nat.testBit_two_pow, Nat.zero_testBit]
        by_cases hx : x = i
        · subst hx; rw [h1]; rfl
        · by_cases hz : z = i
          · subst hz; rw [h2]; rfl
          · simp [hx, hz]
      rw [this]; rfl
  · intro h e
    have e0 : s &&& (2 ^ x ||| 2 ^ z) = 0 := by omega
    have b : ∀ i, i = x ∨ i = z → s.testBit i = false := fun i hi => by
      have := congrArg (fun n => Nat.testBit n i) e0
      simp only [Nat.testBit_and, Nat.testBit_or, Nat.testBit_two_pow, Nat.zero_testBit] at this
      rcases hi with rfl | rfl <;> simpa using this
    have key : ((s >>> x) ||| (s >>> z)).testBit 0 = false := by
      rw [Nat.testBit_or, Nat.testBit_shiftRight, Nat.testBit_shiftRight, Nat.add_zero, Nat.add_zero, b x (Or.inl rfl), b z (Or.inr rfl)]; rfl
    rw [Nat.testBit_zero, decide_eq_false_iff_not] at key
    omega
theorem ip_go {n s x z : Nat} (hn : n ≤ 7) (hs : s < 128) (h2 : (!inB (x : Int) 0 ((n : Int) - 1) || !inB (z : Int) ((x : Int) + 1) ((n : Int) - 1)) = false) (h3 : ¬ ((s &&& (2 ^ x ||| 2 ^ z) : Nat) : Int) ≠ 0) : prS n (some s) ((x : Int), (z : Int)) = some (s ||| (2 ^ x ||| 2 ^ z)) ∧ s ||| (2 ^ x ||| 2 ^ z) < 128 := by
  rw [ip_bit] at h3
  obtain ⟨x', z', e1, e2, _, _, h4, h5⟩ := prS_yes (n := n) (a := (x : Int)) (b := (z : Int)) hn hs (by rw [h2, Bool.false_or, decide_eq_false_iff_not, Int.toNat_natCast, Int.toNat_natCast]; exact h3)
  obtain rfl : x = x' := by omega
  obtain rfl : z = z' := by omega
  exact ⟨h4, h5⟩
end Go.Fs
namespace Go.Fs
open Go.Proofs
open C7
/-- A pairing is read as one. -/
theorem prB_of {n : Nat} (hn7 : n ≤ 7) : ∀ (M : List (Nat × Nat)) (s : Nat), s < 128 → (∀ p ∈ M, p.1 < p.2 ∧ p.2 < n ∧ s.testBit p.1 = false ∧ s.testBit p.2 = false) → (ends M).Nodup → ((pI M).foldl (prS n) (some s)).isSome = true
  | [], _, _, _, _ => rfl
  | (a, b) :: M, s, hs, h, hnd => by
    obtain ⟨h1, h2, h3, h4⟩ := h (a, b) List.mem_cons_self
    simp only at h1 h2 h3 h4
    have hin : (!inB (a : Int) 0 ((n : Int) - 1) || !inB (b : Int) ((a : Int) + 1) ((n : Int) - 1)) = false := by
      rw [Bool.or_eq_false_iff, Bool.not_eq_false', Bool.not_eq_false', inB_iff, inB_iff]; omega
    have hz : ¬ ((s &&& (2 ^ a ||| 2 ^ b) : Nat) : Int) ≠ 0 := by
      rw [ip_bit]
      intro e
      have : ((s >>> a) ||| (s >>> b)).testBit 0 = false := by
        rw [Nat.testBit_or, Nat.testBit_shiftRight, Nat.testBit_shiftRight, Nat.add_zero, Nat.add_zero, h3, h4]; rfl
      rw [Nat.testBit_zero, decide_eq_false_iff_not] at this
      omega
    obtain ⟨g1, g2⟩ := ip_go hn7 hs hin hz
    unfold ends at hnd
    rw [List.flatMap_cons, List.nodup_append] at hnd
    obtain ⟨_, n2, n3⟩ := hnd
    show ((pI M).foldl (prS n) (prS n (some s) ((a : Int), (b : Int)))).isSome = true
    rw [g1]
    refine prB_of hn7 M _ g2 (fun p hp => ?_) n2
    obtain ⟨k1, k2, k3, k4⟩ := h p (List.mem_cons_of_mem _ hp)
    have out : ∀ x, x = p.1 ∨ x = p.2 → a ≠ x ∧ b ≠ x := fun x hx => by
      have hm : x ∈ List.flatMap (fun p : Nat × Nat => [p.1, p.2]) M := mem_ends.2 ⟨p, hp, hx⟩
      exact ⟨n3 a (by simp) x hm, n3 b (by simp) x hm⟩
    refine ⟨k1, k2, ?_, ?_⟩
    · rw [Nat.testBit_or, Nat.testBit_or, Nat.testBit_two_pow, Nat.testBit_two_pow, k3]; simp [out p.1 (Or.inl rfl)]
    · rw [Nat.testBit_or, Nat.testBit_or, Nat.testBit_two_pow, Nat.testBit_two_pow, k4]; simp [out p.2 (Or.inr rfl)]
theorem makesN_R {y : YardD} {t : List Pt} (h7 : t.length ≤ 7) (l : List (Int × Int)) : makesN (sceneD y t) l = makesR y t l := by
  unfold makesN makesR; rw [fB_fits h7]; rfl
end Go.Fs
namespace Go.Fs
open Go.Proofs
open C7
/-- A part of the truth with a number, and what is left of the number. -/
def p1 (x : Int) (m : Nat) : Int × Nat := if x = 2 then ((m : Int) % 2, m / 2) else (x, m)
def p3 (p : Pt) (m : Nat) : Pt × Nat := (⟨(p1 p.a m).1, (p1 p.b (p1 p.a m).2).1, (p1 p.c (p1 p.b (p1 p.a m).2).2).1⟩, (p1 p.c (p1 p.b (p1 p.a m).2).2).2)
def nthS (st : List Pt × Nat) (c : Ch) : List Pt × Nat := (st.1 ++ [(p3 c.parts st.2).1], (p3 c.parts st.2).2)
/-- The truth with a number. -/
def nthC (l : List Ch) (n : Nat) : List Pt × Nat := l.foldl nthS ([], n)
theorem nthS_len : ∀ (l : List Ch) (st : List Pt × Nat), (l.foldl nthS st).1.length = st.1.length + l.length
  | [], st => by simp
  | c :: l, st => by rw [List.foldl_cons, nthS_len l]; simp [nthS]; omega
theorem nthC_len (l : List Ch) (n : Nat) : (nthC l n).1.length = l.length := by unfold nthC; rw [nthS_len]; simp
end Go.Fs
namespace Go.Fs
open Go.Proofs
open C7
theorem part_p1 {x : Int} (h : 0 ≤ x ∧ x ≤ 2) (m : Nat) : partIs x (p1 x m).1 = true := by
  unfold p1 partIs
  rw [Bool.and_eq_true, inB_iff, Bool.or_eq_true, decide_eq_true_eq, decide_eq_true_eq]
  split
  · rename_i e; exact ⟨by simp only; omega, Or.inl e⟩
  · rename_i e; exact ⟨by simp only; omega, Or.inr rfl⟩
theorem pts_p3 {p : Pt} (h : ∀ n ∈ p.l, 0 ≤ n ∧ n ≤ 2) (m : Nat) : ptsIs p (p3 p m).1 = true := by
  have ha := h p.a (by simp [Pt.l])
  have hb := h p.b (by simp [Pt.l])
  have hc := h p.c (by simp [Pt.l])
  simp only [ptsIs, Pt.l, p3, List.zip_cons_cons, List.zip_nil_left, List.all_cons, List.all_nil, Bool.and_true, Bool.and_eq_true]
  exact ⟨part_p1 ha _, part_p1 hb _, part_p1 hc _⟩
def nthR : List Ch → Nat → List Pt
  | [], _ => []
  | c :: l, n => (p3 c.parts n).1 :: nthR l (p3 c.parts n).2
theorem nthS_R : ∀ (l : List Ch) (st : List Pt × Nat), (l.foldl nthS st).1 = st.1 ++ nthR l st.2
  | [], st => by simp [nthR]
  | c :: l, st => by rw [List.foldl_cons, nthS_R l]; simp [nthS, nthR]
theorem nthC_R (l : List Ch) (n : Nat) : (nthC l n).1 = nthR l n := by unfold nthC; rw [nthS_R]; rfl
theorem nthR_ok : ∀ (l : List Ch) (n : Nat), (∀ c ∈ l, ∀ n ∈ c.parts.l, 0 ≤ n ∧ n ≤ 2) → ((l.zip (nthR l n)).all fun x => ptsIs x.1.parts x.2) = true
  | [], n, _ => rfl
  | c :: l, n, h => by
    rw [nthR, List.zip_cons_cons, List.all_cons, Bool.and_eq_true]
    exact ⟨pts_p3 (h c List.mem_cons_self) n, nthR_ok l _ fun c hc => h c (List.mem_cons_of_mem _ hc)⟩
theorem nth_truth {y : YardD} (h : YOk y) (n : Nat) : isTruth y (nthC y.chairs n).1 = true := by
  unfold isTruth
  rw [Bool.and_eq_true, decide_eq_true_eq]
  exact ⟨nthC_len _ _, by rw [nthC_R]; exact nthR_ok _ _ h.part⟩
def mostN (y : YardD) (n : Nat) : Int := (mostT y (nthC y.chairs n).1 : Nat)
/-- The most chairs in all truths. -/
def allN (y : YardD) : List Int := (List.range (2 ^ unknown y.chairs)).map (mostN y)
/-- The numbers of the truths of a yard. -/
def numK (y : YardD) (ms : List Int) (k : Nat) : List Int := ((List.range k).filter fun n => rightO y.claims [] (ms.getD n 0)).map fun n : Nat => (n : Int)
end Go.Fs
namespace Go.Fs
open Go.Proofs
open C7
def nsD (y : YardD) : List Int := numK y (allN y) (allN y).length
/-- The error of a question on all truths. -/
def askS (y : YardD) : Int := if fault y ≠ 0 then fault y else if nsD y = [] then 11 else 0
theorem askS_zero {y : YardD} (h : askS y = 0) : fault y = 0 ∧ nsD y ≠ [] := by
  unfold askS at h
  split at h
  · omega
  · rename_i h1
    split at h
    · omega
    · rename_i h2; exact ⟨by omega, h2⟩
theorem allN_get {y : YardD} {n : Nat} (h : n < (allN y).length) : (allN y).getD n 0 = mostN y n := by
  unfold allN at h ⊢
  rw [List.length_map, List.length_range] at h
  rw [List.getD_eq_getElem?_getD, List.getElem?_map, List.getElem?_range h]; rfl
theorem mem_ns {y : YardD} {x : Int} : x ∈ nsD y ↔ ∃ n : Nat, n < 2 ^ unknown y.chairs ∧ rightO y.claims [] (mostN y n) = true ∧ x = (n : Int) := by
  have hl : (allN y).length = 2 ^ unknown y.chairs := by unfold allN; rw [List.length_map, List.length_range]
  unfold nsD numK
  rw [List.mem_map]
  constructor
  · rintro ⟨n, hn, rfl⟩
    rw [List.mem_filter, List.mem_range] at hn
    rw [allN_get hn.1] at hn
    exact ⟨n, by omega, hn.2, rfl⟩
  · rintro ⟨n, hn, hr, rfl⟩
    refine ⟨n, ?_, rfl⟩
    rw [List.mem_filter, List.mem_range, allN_get (by omega)]
    exact ⟨by omega, hr⟩
/-- Each truth has a number. -/
theorem p1_inv {x t : Int} (h : partIs x t = true) {m B : Nat} (hm : m < B) : ∃ n, p1 x n = (t, m) ∧ n < (if x = 2 then 2 else 1) * B := by
  unfold partIs at h
  rw [Bool.and_eq_true, inB_iff, Bool.or_eq_true, decide_eq_true_eq, decide_eq_true_eq] at h
  unfold p1
  by_cases hx : x = 2
  · obtain ⟨b, rfl⟩ := Int.eq_ofNat_of_zero_le h.1.1
    refine ⟨2 * m + b, ?_, by rw [if_pos hx]; omega⟩
    rw [if_pos hx, Prod.mk.injEq]
    exact ⟨by omega, by omega⟩
  · refine ⟨m, ?_, by rw [if_neg hx]; omega⟩
    rw [if_neg hx, Prod.mk.injEq]
    exact ⟨by rcases h.2 with h | h; exact absurd h hx; exact h.symm, rfl⟩
theorem unk_pow (p : Pt) : 2 ^ unkP p = (if p.a = 2 then 2 else 1) * ((if p.b = 2 then 2 else 1) * (if p.c = 2 then 2 else 1)) := by
  unfold unkP Pt.l
  by_cases ha : p.a = 2 <;> by_cases hb : p.b = 2 <;> by_cases hc : p.c = 2 <;> simp [ha, hb, hc]
theorem p3_inv {p t : Pt} (h : ptsIs p t = true) {m B : Nat} (hm : m < B) : ∃ n, p3 p n = (t, m) ∧ n < 2 ^ unkP p * B := by
  simp only [ptsIs, Pt.l, List.zip_cons_cons, List.zip_nil_left, List.all_cons, List.all_nil, Bool.and_true, Bool.and_eq_true] at h
  obtain ⟨c, e1, h1⟩ := p1_inv h.2.2 hm
  obtain ⟨b, e2, h2⟩ := p1_inv h.2.1 h1
  obtain ⟨a, e3, h3⟩ := p1_inv h.1 h2
  refine ⟨a, ?_, ?_⟩
  · unfold p3; rw [e3, e2, e1]
  · rw [unk_pow, Nat.mul_assoc, Nat.mul_assoc]; exact h3
theorem nthR_onto : ∀ (l : List Ch) (t : List Pt), t.length = l.length → ((l.zip t).all fun x => ptsIs x.1.parts x.2) = true → ∃ n, n < 2 ^ unknown l ∧ nthR l n = t
  | [], [], _, _ => ⟨0, by simp [unknown], rfl⟩
  | [], _ :: _, h, _ => by simp at h
  | _ :: _, [], h, _ => by simp at h
  | c :: l, p :: t, h, ha => by
    rw [List.zip_cons_cons, List.all_cons, Bool.and_eq_true] at ha
    obtain ⟨m, hm, e⟩ := nthR_onto l t (by simpa using h) ha.2
    obtain ⟨n, e2, hn⟩ := p3_inv ha.1 hm
    refine ⟨n, ?_, ?_⟩
    · have : unknown (c :: l) = unkP c.parts + unknown l := by simp [unknown]
      rw [this, Nat.pow_add]; exact hn
    · rw [nthR, e2, e]
theorem nth_onto {y : YardD} {t : List Pt} (h : isTruth y t = true) : ∃ n, n < 2 ^ unknown y.chairs ∧ (nthC y.chairs n).1 = t := by
  unfold isTruth at h
  rw [Bool.and_eq_true, decide_eq_true_eq] at h
  obtain ⟨n, hn, e⟩ := nthR_onto _ _ h.1 h.2
  exact ⟨n, hn, by rw [nthC_R]; exact e⟩
theorem fmin : ∀ (l : List Int) (a : Int), (l.foldl min a = a ∨ l.foldl min a ∈ l) ∧ l.foldl min a ≤ a ∧ ∀ x ∈ l, l.foldl min a ≤ x
  | [], a => ⟨Or.inl rfl, Int.le_refl _, by simp⟩
  | x :: l, a => by
    rw [List.foldl_cons]
    obtain ⟨h1, h2, h3⟩ := fmin l (min a x)
    refine ⟨?_, by omega, fun z hz => ?_⟩
    · rcases h1 with h1 | h1
      · rw [h1]; rcases Int.le_total a x with h | h
        · exact Or.inl (Int.min_eq_left h)
        · exact Or.inr (by rw [Int.min_eq_right h]; exact List.mem_cons_self)
      · exact Or.inr (List.mem_cons_of_mem _ h1)
    · rcases List.mem_cons.1 hz with rfl | hz
      · omega
      · exact h3 z hz
theorem fmax : ∀ (l : List Int) (a : Int), (l.foldl max a = a ∨ l.foldl max a ∈ l) ∧ a ≤ l.foldl max a ∧ ∀ x ∈ l, x ≤ l.foldl max a
  | [], a => ⟨Or.inl rfl, Int.le_refl _, by simp⟩
  | x :: l, a => by
    rw [List.foldl_cons]
    obtain ⟨h1, h2, h3⟩ := fmax l (max a x)
    refine ⟨?_, by omega, fun z hz => ?_⟩
    · rcases h1 with h1 | h1
      · rw [h1]; rcases Int.le_total a x with h | h
        · exact Or.inr (by rw [Int.max_eq_right h]; exact List.mem_cons_self)
        · exact Or.inl (Int.max_eq_left h)
      · exact Or.inr (List.mem_cons_of_mem _ h1)
    · rcases List.mem_cons.1 hz with rfl | hz
      · omega
      · exact h3 z hz
theorem fmin_eq {l l' : List Int} {a a' : Int} (hm : ∀ x, x ∈ l ↔ x ∈ l') (hne : l ≠ []) (ha : ∀ x ∈ l, x ≤ a) (ha' : ∀ x ∈ l', x ≤ a') : l.foldl min a = l'.foldl min a' := by
  obtain ⟨h1, h2, h3⟩ := fmin l a
  obtain ⟨g1, g2, g3⟩ := fmin l' a'
  obtain ⟨z, hz⟩ := List.exists_mem_of_ne_nil l hne
  have k1 : l.foldl min a ∈ l := by
    rcases h1 with h1 | h1
    · have := h3 z hz; have := ha z hz; rw [show l.foldl min a = z by omega]; exact hz
    · exact h1
  have k2 : l'.foldl min a' ∈ l' := by
    rcases g1 with g1 | g1
    · have := g3 z ((hm z).1 hz); have := ha' z ((hm z).1 hz); rw [show l'.foldl min a' = z by omega]; exact (hm z).1 hz
    · exact g1
  have := h3 _ ((hm _).2 k2)
  have := g3 _ ((hm _).1 k1)
  omega
/-- The most chairs in the truths: the reference's numbers, and the program's. -/
def mostsL (y : YardD) : List Int := (nsD y).map fun n => (allN y).getD n.toNat 0
theorem mem_mosts {y : YardD} (h : YOk y) (x : Int) : x ∈ mostsL y ↔ x ∈ (scenesD y []).map fun p => (p.2 : Int) := by
  unfold mostsL
  rw [List.mem_map, List.mem_map]
  constructor
  · rintro ⟨n, hn, rfl⟩
    obtain ⟨k, hk, hr, rfl⟩ := mem_ns.1 hn
    refine ⟨_, mem_scenes.2 ⟨(nthC y.chairs k).1, nth_truth h k, hr, rfl⟩, ?_⟩
    rw [Int.toNat_natCast, allN_get (by unfold allN; rw [List.length_map, List.length_range]; exact hk)]; rfl
  · rintro ⟨p, hp, rfl⟩
    obtain ⟨t, ht, hr, rfl⟩ := mem_scenes.1 hp
    obtain ⟨n, hn, rfl⟩ := nth_onto ht
    refine ⟨(n : Int), mem_ns.2 ⟨n, hn, hr, rfl⟩, ?_⟩
    rw [Int.toNat_natCast, allN_get (by unfold allN; rw [List.length_map, List.length_range]; exact hn)]; rfl
theorem ns_nil {y : YardD} (h : YOk y) : nsD y = [] ↔ scenesD y [] = [] := by
  have key := mem_mosts h
  constructor
  · intro e
    rw [List.eq_nil_iff_forall_not_mem]
    intro p hp
    have := (key p.2).2 (List.mem_map.2 ⟨p, hp, rfl⟩)
    unfold mostsL at this; rw [e] at this; simp at this
  · intro e
    rw [List.eq_nil_iff_forall_not_mem]
    intro n hn
    have := (key _).1 (List.mem_map.2 ⟨n, hn, rfl⟩)
    rw [e] at this; simp at this
end Go.Fs
namespace Go.Fs
open Go.Proofs
open C7
def canB (y : YardD) (ms : List Int) (c : Nat) : Bool := ms.any fun m => decide (bset (rightB y.claims m) y.claims.length &&& c = c)
def firstR (y : YardD) (ms : List Int) : Int := match (List.range y.claims.length).find? (fun i => !canB y ms (2 * 2 ^ i - 1)) with
  | some i => i
  | none => -1
def lexB : List Int → List Int → Bool
  | [], b => decide (0 < b.length)
  | _ :: _, [] => false
  | x :: a, z :: b => if x = z then lexB a b else decide (x < z)
def shortB (a b : List Int) : Bool := decide ((a.length : Int) < (b.length : Int)) || (decide ((a.length : Int) = (b.length : Int)) && lexB a b)
end Go.Fs
namespace Go.Fs
open Go.Proofs
open C7
theorem bl_len (m : Nat) : (bitsL m).length = onesB m := by unfold bitsL bitsK onesB; rw [List.length_map]
end Go.Fs
namespace Go.Fs
open Go.Proofs
open C7
theorem mem_bitsL {b : Nat} {x : Int} (h : x ∈ bitsL b) : 0 ≤ x ∧ x.toNat < 7 ∧ b.testBit x.toNat = true := by
  unfold bitsL bitsK at h
  obtain ⟨i, hi, rfl⟩ := List.mem_map.1 h
  rw [List.mem_filter, List.mem_range] at hi
  exact ⟨Int.natCast_nonneg _, hi⟩
end Go.Fs
namespace Go.Fs
open Go.Proofs
open C7
def sureR (y : YardD) (ns : List Int) (l : List (Int × Int)) : Int := (ns.map fun x => (makesR y (nthC y.chairs x.toNat).1 l : Int)).foldl min 99
def surestR (y : YardD) (ns : List Int) : Int := (((prs y.chairs.length y.chairs.length 0).map pI).map (sureR y ns)).foldl max 0
/-- The pairings that the program tries are those of near chairs. -/
theorem flat_near {β : Type} {A C : Nat → Bool} {g : Nat → List β} : ∀ L : List Nat, (L.filter fun b => A b && C b).flatMap g = (L.filter A).flatMap fun b => if C b = true then g b else []
  | [] => rfl
  | b :: L => by
    rw [List.filter_cons, List.filter_cons]
    cases ha : A b with
    | false => simpa using flat_near L
    | true =>
      cases hc : C b with
      | false => simp [hc, flat_near L]
      | true => simp [hc, flat_near L]
def nearM (y : YardD) (M : List (Nat × Nat)) : Bool := M.all fun p => nearB y p.1 p.2
theorem lvs_prs {y : YardD} : ∀ (k f w : Nat) (l : List (Int × Int)), f + k = y.chairs.length → lvs y k f w l = ((prs y.chairs.length k w).filter (nearM y)).map fun M => l ++ pI M
  | 0, f, w, l, _ => by show [l] = [l ++ []]; rw [List.append_nil]
  | k + 1, f, w, l, h => by
    have hf : y.chairs.length - (k + 1) = f := by omega
    rw [lvs, prs, hf, lvs_prs k (f + 1) w l (by omega)]
    by_cases hb : w.testBit f = true
    · rw [if_pos hb, if_pos hb, List.append_nil]
    · rw [if_neg hb, if_neg hb, List.filter_append, List.map_append]
      congr 1
      rw [show (fun b => decide (f < b) && (!w.testBit b && nearB y f b)) = fun b => (decide (f < b) && !w.testBit b) && nearB y f b from funext fun b => (Bool.and_assoc _ _ _).symm, flat_near, List.filter_flatMap, List.map_flatMap]
      congr 1
      funext b
      have e : nearM y ∘ (fun M : List (Nat × Nat) => (f, b) :: M) = fun M => nearB y f b && nearM y M := by funext M; simp [nearM]
      rw [List.filter_map, e, List.map_map]
      cases hn : nearB y f b with
      | false => simp
      | true =>
        rw [if_pos rfl, lvs_prs k (f + 1) (w ||| 2 ^ b) _ (by omega)]
        simp only [Bool.true_and]
        apply List.map_congr_left
        intro M _
        simp [pI]
theorem prs_mono {n : Nat} : ∀ (k w w' : Nat), (∀ x, w.testBit x = true → w'.testBit x = true) → ∀ M ∈ prs n k w', M ∈ prs n k w
  | 0, _, _, _, M, hM => hM
  | k + 1, w, w', h, M, hM => by
    unfold prs at hM ⊢
    have ih := prs_mono (n := n) k
    by_cases h' : w'.testBit (n - (k + 1)) = true
    · rw [if_pos h'] at hM
      have := ih w w' h M hM
      split
      · exact this
      · exact List.mem_append_left _ this
    · rw [if_neg h'] at hM
      rw [if_neg fun e => h' (h _ e)]
      rcases List.mem_append.1 hM with hM | hM
      · exact List.mem_append_left _ (ih w w' h M hM)
      · refine List.mem_append_right _ ?_
        obtain ⟨b, hb, hM⟩ := List.mem_flatMap.1 hM
        obtain ⟨M', hM', rfl⟩ := List.mem_map.1 hM
        rw [List.mem_filter, Bool.and_eq_true, Bool.not_eq_true'] at hb
        refine List.mem_flatMap.2 ⟨b, ?_, List.mem_map.2 ⟨M', ih _ _ (fun x hx => ?_) M' hM', rfl⟩⟩
        · rw [List.mem_filter, Bool.and_eq_true, Bool.not_eq_true']
          refine ⟨hb.1, hb.2.1, ?_⟩
          cases e : w.testBit b with
          | false => rfl
          | true => rw [h b e] at hb; exact absurd hb.2.2 (by simp)
        · rw [Nat.testBit_or, Bool.or_eq_true] at hx ⊢
          exact hx.imp (h x) id
theorem prs_sub {n : Nat} : ∀ (k w : Nat) (M N : List (Nat × Nat)), M ∈ prs n k w → N.Sublist M → N ∈ prs n k w
  | 0, w, M, N, hM, hs => by
    obtain rfl : M = [] := by simpa [prs] using hM
    rw [List.sublist_nil.1 hs]; exact hM
  | k + 1, w, M, N, hM, hs => by
    unfold prs at hM ⊢
    split at hM
    · rename_i h; rw [if_pos h]; exact prs_sub k w M N hM hs
    · rename_i h
      rw [if_neg h]
      rcases List.mem_append.1 hM with hM | hM
      · exact List.mem_append_left _ (prs_sub k w M N hM hs)
      · obtain ⟨b, hb, hM⟩ := List.mem_flatMap.1 hM
        obtain ⟨M', hM', rfl⟩ := List.mem_map.1 hM
        cases hs with
        | cons _ hs => exact List.mem_append_left _ (prs_mono k w (w ||| 2 ^ b) (fun x hx => by rw [Nat.testBit_or, hx]; rfl) _ (prs_sub k _ M' N hM' hs))
        | cons_cons _ hs => exact List.mem_append_right _ (List.mem_flatMap.2 ⟨b, hb, List.mem_map.2 ⟨_, prs_sub k _ M' _ hM' hs, rfl⟩⟩)
theorem fitB_near {y : YardD} {t : List Pt} {a b : Nat} (h : fitB y t a b = true) : nearB y a b = true := by
  unfold fitB at h
  split at h
  · rename_i p q x z _ _ hx hz
    unfold nearB; rw [hx, hz]
    simp only [Bool.and_eq_true] at h
    exact h.1.2
  · simp at h
theorem makes_near (y : YardD) (t : List Pt) (M : List (Nat × Nat)) : makesR y t (pI (M.filter fun p => nearB y p.1 p.2)) = makesR y t (pI M) := by
  rw [makesR_pI, makesR_pI]
  unfold fitN
  rw [List.filter_filter]
  congr 2
  apply List.filter_congr
  intro p _
  cases e : fitB y t p.1 p.2 with
  | false => rfl
  | true => rw [fitB_near e]; rfl
theorem upd_fold {scs : List Sc} : ∀ (L : List (List (Int × Int))) (b : List (Int × Int)) (m : Int), (L.foldl (upd scs) (b, m)).2 = (L.map (sureZ scs)).foldl max m ∧ (L.foldl (upd scs) (b, m) = (b, m) ∨ ((L.foldl (upd scs) (b, m)).1 ∈ L ∧ sureZ scs (L.foldl (upd scs) (b, m)).1 = (L.foldl (upd scs) (b, m)).2))
  | [], b, m => ⟨rfl, Or.inl rfl⟩
  | l :: L, b, m => by
    rw [List.foldl_cons, List.map_cons, List.foldl_cons]
    by_cases h : m < sureZ scs l
    · rw [upd_yes h, show max m (sureZ scs l) = sureZ scs l by omega]
      obtain ⟨h1, h2⟩ := upd_fold (scs := scs) L l (sureZ scs l)
      refine ⟨h1, Or.inr ?_⟩
      rcases h2 with h2 | h2
      · rw [h2]; exact ⟨List.mem_cons_self, rfl⟩
      · exact ⟨List.mem_cons_of_mem _ h2.1, h2.2⟩
    · rw [upd_no h, show max m (sureZ scs l) = m by omega]
      obtain ⟨h1, h2⟩ := upd_fold (scs := scs) L b m
      exact ⟨h1, h2.imp id fun h => ⟨List.mem_cons_of_mem _ h.1, h.2⟩⟩
end Go.Fs
namespace Go.Fs
open Go.Proofs
open C7
/-- The scenes, and the truths by number. -/
theorem sure_eq {y : YardD} (h : askS y = 0) {l : List (Int × Int)} (hl : l.length ≤ 50) : sureZ ((scenesD y []).map fun p => p.1) l = sureR y (nsD y) l := by
  obtain ⟨hf, hne⟩ := askS_zero h
  have hyo := yOk hf
  have hn := hyo.len
  have small : ∀ t, isTruth y t = true → (makesR y t l : Int) ≤ 99 := fun t ht => by
    have := makesR_le y t l
    have := (truthOk ht).1
    omega
  have hm : ∀ x : Int, x ∈ ((scenesD y []).map fun p => p.1).map (fun s => (makesN s l : Int)) ↔ x ∈ (nsD y).map fun x => (makesR y (nthC y.chairs x.toNat).1 l : Int) := by
    intro x
    rw [List.mem_map, List.mem_map]
    constructor
    · rintro ⟨s, hs, rfl⟩
      obtain ⟨p, hp, rfl⟩ := List.mem_map.1 hs
      obtain ⟨t, ht, hr, rfl⟩ := mem_scenes.1 hp
      obtain ⟨n, hn', rfl⟩ := nth_onto ht
      have := (truthOk ht).1
      exact ⟨(n : Int), mem_ns.2 ⟨n, hn', hr, rfl⟩, by rw [makesN_R (by omega)]; rfl⟩
    · rintro ⟨n, hn', rfl⟩
      obtain ⟨k, hk, hr, rfl⟩ := mem_ns.1 hn'
      have ht := nth_truth hyo k
      have := (truthOk ht).1
      exact ⟨_, List.mem_map.2 ⟨_, mem_scenes.2 ⟨_, ht, hr, rfl⟩, rfl⟩, by rw [makesN_R (by omega)]; rfl⟩
  have hin : ∀ x ∈ (nsD y).map (fun x => (makesR y (nthC y.chairs x.toNat).1 l : Int)), x ≤ 99 := fun x hx => by
    obtain ⟨n, hn', rfl⟩ := List.mem_map.1 hx
    exact small _ (nth_truth hyo _)
  have hne2 : scenesD y [] ≠ [] := fun e => hne ((ns_nil hyo).2 e)
  unfold sureR
  unfold sureZ
  cases e : (scenesD y []).map fun p => p.1 with
  | nil => exact absurd (List.map_eq_nil_iff.1 e) hne2
  | cons s r =>
    rw [e] at hm
    simp only
    rw [List.map_cons, List.foldl_cons, Int.min_self]
    rw [List.map_cons] at hm
    have e2 : (List.map (fun s => (makesN s l : Int)) r).foldl min (makesN s l : Int) = ((makesN s l : Int) :: r.map fun s => (makesN s l : Int)).foldl min 99 := by
      rw [List.foldl_cons]
      have := hin _ ((hm (makesN s l : Int)).1 List.mem_cons_self)
      rw [show min (99 : Int) (makesN s l : Int) = (makesN s l : Int) by omega]
    rw [e2]
    exact fmin_eq hm (by simp) (fun x hx => hin x ((hm x).1 hx)) hin
theorem sureR_in {y : YardD} (_h : askS y = 0) {l : List (Int × Int)} (_hl : l.length ≤ 50) : 0 ≤ sureR y (nsD y) l := by
  unfold sureR
  rcases (fmin ((nsD y).map fun x => (makesR y (nthC y.chairs x.toNat).1 l : Int)) 99).1 with e | e
  · rw [e]; omega
  · obtain ⟨n, _, e2⟩ := List.mem_map.1 e
    rw [← e2]; omega
theorem lvs_in {y : YardD} (_h : fault y = 0) {l : List (Int × Int)} : l ∈ lvs y y.chairs.length 0 0 [] ↔ ∃ M ∈ prs y.chairs.length y.chairs.length 0, nearM y M = true ∧ l = pI M := by
  rw [lvs_prs _ _ _ _ (by omega), List.mem_map]
  constructor
  · rintro ⟨M, hM, rfl⟩
    rw [List.mem_filter] at hM
    exact ⟨M, hM.1, hM.2, rfl⟩
  · rintro ⟨M, h1, h2, rfl⟩
    exact ⟨M, List.mem_filter.2 ⟨h1, h2⟩, rfl⟩
theorem surest_eq {y : YardD} (h : askS y = 0) : ((lvs y y.chairs.length 0 0 []).map (sureZ ((scenesD y []).map fun p => p.1))).foldl max (-1) = surestR y (nsD y) ∧ lvs y y.chairs.length 0 0 [] ≠ [] ∧ 0 ≤ surestR y (nsD y) := by
  obtain ⟨hf, hne⟩ := askS_zero h
  have hn := (yOk hf).len
  have short : ∀ M ∈ prs y.chairs.length y.chairs.length 0, (pI M).length ≤ 50 := fun M hM => by have := prs_short hn (Nat.le_refl _) hM; omega
  have full : ∀ M ∈ prs y.chairs.length y.chairs.length 0, pI (M.filter fun p => nearB y p.1 p.2) ∈ lvs y y.chairs.length 0 0 [] := fun M hM =>
    (lvs_in hf).2 ⟨_, prs_sub _ _ _ _ hM List.filter_sublist, by unfold nearM; rw [List.all_eq_true]; exact fun p hp => (List.mem_filter.1 hp).2, rfl⟩
  have same : ∀ M, sureR y (nsD y) (pI (M.filter fun p => nearB y p.1 p.2)) = sureR y (nsD y) (pI M) := fun M => by
    unfold sureR; congr 1; apply List.map_congr_left; intro x _; rw [makes_near]
  obtain ⟨M0, hM0⟩ := List.exists_mem_of_ne_nil _ (prs_ne y.chairs.length y.chairs.length 0 (Nat.le_refl _))
  have hne3 : lvs y y.chairs.length 0 0 [] ≠ [] := List.ne_nil_of_mem (full M0 hM0)
  obtain ⟨a1, a2, a3⟩ := fmax ((lvs y y.chairs.length 0 0 []).map (sureZ ((scenesD y []).map fun p => p.1))) (-1)
  obtain ⟨b1, b2, b3⟩ := fmax (((prs y.chairs.length y.chairs.length 0).map pI).map (sureR y (nsD y))) 0
  have lv_le : ∀ M ∈ prs y.chairs.length y.chairs.length 0, sureR y (nsD y) (pI M) ≤ ((lvs y y.chairs.length 0 0 []).map (sureZ ((scenesD y []).map fun p => p.1))).foldl max (-1) := fun M hM => by
    have := a3 _ (List.mem_map.2 ⟨_, full M hM, rfl⟩)
    rwa [sure_eq h (by have := short _ (prs_sub _ _ _ _ hM (List.filter_sublist (p := fun p => nearB y p.1 p.2))); omega), same] at this
  refine ⟨Int.le_antisymm ?_ ?_, hne3, b2⟩
  · rcases a1 with a1 | a1
    · rw [a1]; show (-1 : Int) ≤ _; exact Int.le_trans (by omega) b2
    · obtain ⟨l, hl, e⟩ := List.mem_map.1 a1
      obtain ⟨M, hM, _, rfl⟩ := (lvs_in hf).1 hl
      rw [← e, sure_eq h (short M hM)]
      exact b3 _ (List.mem_map.2 ⟨_, List.mem_map.2 ⟨M, hM, rfl⟩, rfl⟩)
  · show ((((prs y.chairs.length y.chairs.length 0).map pI).map (sureR y (nsD y))).foldl max 0) ≤ _
    rcases b1 with b1 | b1
    · rw [b1]; exact Int.le_trans (sureR_in h (short M0 hM0)) (lv_le M0 hM0)
    · obtain ⟨l, hl, e⟩ := List.mem_map.1 b1
      obtain ⟨M, hM, rfl⟩ := List.mem_map.1 hl
      rw [← e]; exact lv_le M hM
theorem prB_prs {n : Nat} (hn : n ≤ 7) {M : List (Nat × Nat)} (hM : M ∈ prs n n 0) : (prB n (pI M)).isSome = true := by
  have ok := prs_ok n 0 (Nat.le_refl _) M hM
  exact prB_of hn M 0 (by omega) (fun p hp => by
    obtain ⟨_, h2, h3, _⟩ := ok.at_ p hp
    exact ⟨h2, h3, Nat.zero_testBit _, Nat.zero_testBit _⟩) ok.nd
theorem sure_facts {y : YardD} (h : askS y = 0) : (sureV y).2.2 = 0 ∧ (sureV y).1.length ≤ 3 ∧ (prB y.chairs.length (sureV y).1).isSome = true ∧ sureR y (nsD y) (sureV y).1 = (sureV y).2.1 ∧ (sureV y).2.1 = surestR y (nsD y) := by
  obtain ⟨hf, hne⟩ := askS_zero h
  have hn := (yOk hf).len
  have hne2 : scenesD y [] ≠ [] := fun e => hne ((ns_nil (yOk hf)).2 e)
  obtain ⟨s1, s2, s3⟩ := surest_eq h
  obtain ⟨u1, u2⟩ := upd_fold (scs := (scenesD y []).map fun p => p.1) (lvs y y.chairs.length 0 0 []) [] (-1)
  have e : sureV y = (((lvs y y.chairs.length 0 0 []).foldl (upd ((scenesD y []).map fun p => p.1)) ([], -1)).1, ((lvs y y.chairs.length 0 0 []).foldl (upd ((scenesD y []).map fun p => p.1)) ([], -1)).2, 0) := by
    unfold sureV; rw [if_neg (by omega), if_neg hne2]
  rw [e]
  simp only
  rw [s1] at u1
  have hmem : ((lvs y y.chairs.length 0 0 []).foldl (upd ((scenesD y []).map fun p => p.1)) ([], -1)).1 ∈ lvs y y.chairs.length 0 0 [] ∧ sureZ ((scenesD y []).map fun p => p.1) ((lvs y y.chairs.length 0 0 []).foldl (upd ((scenesD y []).map fun p => p.1)) ([], -1)).1 = ((lvs y y.chairs.length 0 0 []).foldl (upd ((scenesD y []).map fun p => p.1)) ([], -1)).2 := by
    rcases u2 with u2 | u2
    · rw [u2] at u1; simp only at u1; omega
    · exact u2
  obtain ⟨M, hM, _, em⟩ := (lvs_in hf).1 hmem.1
  have hp : (prB y.chairs.length ((lvs y y.chairs.length 0 0 []).foldl (upd ((scenesD y []).map fun p => p.1)) ([], -1)).1).isSome = true := by rw [em]; exact prB_prs hn hM
  have h3 := (prB_ok hn hp).2
  exact ⟨trivial, h3, hp, by rw [← sure_eq h (by omega)]; exact hmem.2, u1⟩
end Go.Fs
namespace Go.Fs
open Go.Proofs
open C7
end Go.Fs
namespace Go.Fs
open Go.Proofs
open C7
theorem ready_inB {y : YardD} (h : (!(thin y && decide (fault y = 0))) = false) : thin y = true ∧ fault y = 0 := by
  simp only [Bool.not_eq_false', Bool.and_eq_true, decide_eq_true_eq] at h; exact h
end Go.Fs
namespace Go.Fs
open Go.Proofs
open C7
section
variable {P : Program} {X : Cx} {γb : Type} [Membership Nat γb] {bad : γb} {all : Array Oper} {K : Act → World → Prop} {Q : Exit → Act → World → Prop}
variable {σ : Slots} {μ : Boxes} {Ds : List Data} {os : List (Bool × Nat)} {fl : Bool} {ix : Nat}
variable {d : Nat} {x y z : Operand} {u v : Value} {ty : TypeId} {pos : String} {aft : Array Edge} {g : Option (Nat × Bool)}
variable {k' : IntKind} {m n : Nat} {t t' : TypeId}
end
theorem unk_8 {y : YardD} (h : fault y = 0) : unknown y.chairs ≤ 8 := by
  unfold fault at h
  split at h
  · omega
  · split at h
    · omega
    · split at h <;> omega
theorem mod_in {a b : Nat} (h : a ≤ 65535) : -9223372036854775808 ≤ (a : Int) % (b : Int) ∧ (a : Int) % (b : Int) ≤ 9223372036854775807 := by
  have e : (a : Int) % (b : Int) = ((a % b : Nat) : Int) := rfl
  have := Nat.mod_le a b
  omega
/-- A list that is read as a pairing is one. -/
theorem prB_pairing {n : Nat} : ∀ (l : List (Int × Int)) (s : Nat), (l.foldl (prS n) (some s)).isSome = true → ∃ M, l = pI M ∧ (∀ p ∈ M, p.1 < p.2 ∧ p.2 < n ∧ s.testBit p.1 = false ∧ s.testBit p.2 = false) ∧ (ends M).Nodup
  | [], _, _ => ⟨[], rfl, by simp, by simp [ends]⟩
  | (a, b) :: l, s, h => by
    rw [List.foldl_cons] at h
    have e : prS n (some s) (a, b) = if ((!inB a 0 ((n : Int) - 1) || !inB b (a + 1) ((n : Int) - 1)) || decide ((((s >>> a.toNat) ||| (s >>> b.toNat) : Nat) : Int) % 2 = 1)) = true then none else some (s ||| (2 ^ a.toNat ||| 2 ^ b.toNat)) := rfl
    rw [e] at h
    split at h
    · rw [prB_none] at h; cases h
    · rename_i hc
      rw [Bool.not_eq_true, Bool.or_eq_false_iff] at hc
      obtain ⟨h1, h2, h3, h4⟩ := prB_in hc.1
      obtain ⟨x, rfl⟩ := Int.eq_ofNat_of_zero_le h1
      obtain ⟨z, rfl⟩ := Int.eq_ofNat_of_zero_le (show 0 ≤ b by omega)
      simp only [Int.toNat_natCast] at hc h
      obtain ⟨b1, b2⟩ := prS_bits hc.2
      obtain ⟨M, rfl, hM, hnd⟩ := prB_pairing l _ h
      have out : ∀ p ∈ M, (x ≠ p.1 ∧ z ≠ p.1 ∧ s.testBit p.1 = false) ∧ (x ≠ p.2 ∧ z ≠ p.2 ∧ s.testBit p.2 = false) := fun p hp => by
        obtain ⟨_, _, k3, k4⟩ := hM p hp
        rw [Nat.testBit_or, Nat.testBit_or, Nat.testBit_two_pow, Nat.testBit_two_pow, Bool.or_eq_false_iff, Bool.or_eq_false_iff, decide_eq_false_iff_not, decide_eq_false_iff_not] at k3 k4
        exact ⟨⟨k3.2.1, k3.2.2, k3.1⟩, ⟨k4.2.1, k4.2.2, k4.1⟩⟩
      refine ⟨(x, z) :: M, rfl, fun p hp => ?_, ?_⟩
      · rcases List.mem_cons.1 hp with rfl | hp
        · exact ⟨by simp only; omega, by simp only; omega, b1, b2⟩
        · obtain ⟨k1, k2, _, _⟩ := hM p hp
          exact ⟨k1, k2, (out p hp).1.2.2, (out p hp).2.2.2⟩
      · unfold ends
        rw [List.flatMap_cons]
        refine List.nodup_append.2 ⟨by simp; omega, hnd, fun u hu w hw e => ?_⟩
        subst e
        obtain ⟨p, hp, hx⟩ := mem_ends.1 hw
        have := out p hp
        simp only [List.mem_cons, List.not_mem_nil, or_false] at hu
        omega
theorem prB_pr {n : Nat} {l : List (Int × Int)} (h : (prB n l).isSome = true) : ∃ M, l = pI M ∧ Pairing n 0 0 M := by
  obtain ⟨M, e, hM, hnd⟩ := prB_pairing l 0 h
  exact ⟨M, e, fun p hp => ⟨Nat.zero_le _, (hM p hp).1, (hM p hp).2.1, (hM p hp).2.2⟩, hnd⟩
theorem foldl_min_mono {α : Type} {f g : α → Int} : ∀ (l : List α) (a b : Int), a ≤ b → (∀ x ∈ l, f x ≤ g x) → (l.map f).foldl min a ≤ (l.map g).foldl min b
  | [], _, _, h, _ => h
  | x :: l, a, b, h, hx => by
    rw [List.map_cons, List.map_cons, List.foldl_cons, List.foldl_cons]
    have := hx x List.mem_cons_self
    exact foldl_min_mono l _ _ (by omega) fun z hz => hx z (List.mem_cons_of_mem _ hz)
theorem foldl_max_ge' {α : Type} {f : α → Int} : ∀ (l : List α) (a : Int), a ≤ (l.map f).foldl max a ∧ ∀ x ∈ l, f x ≤ (l.map f).foldl max a
  | [], a => ⟨Int.le_refl _, by simp⟩
  | x :: l, a => by
    rw [List.map_cons, List.foldl_cons]
    obtain ⟨h1, h2⟩ := foldl_max_ge' (f := f) l (max a (f x))
    refine ⟨by omega, fun z hz => ?_⟩
    rcases List.mem_cons.1 hz with rfl | hz
    · omega
    · exact h2 z hz
/-- No pairing is sure of more than the sure number. -/
theorem sure_most {y : YardD} {ns : List Int} {l : List (Int × Int)} (hl : (prB y.chairs.length l).isSome = true) : sureR y ns l ≤ surestR y ns := by
  obtain ⟨M, rfl, hM⟩ := prB_pr hl
  obtain ⟨N, hN, hs⟩ := prs_has y.chairs.length 0 (Nat.le_refl _) M (by rw [Nat.sub_self]; exact hM)
  have h1 : sureR y ns (pI M) ≤ sureR y ns (pI N) := by
    unfold sureR
    refine foldl_min_mono ns 99 99 (Int.le_refl _) fun x _ => ?_
    rw [makesR_pI, makesR_pI]
    have := length_le_of_sub ((pairs_nodup hM.nd).filter fun p => fitB y (nthC y.chairs x.toNat).1 p.1 p.2) (m := N.filter fun p => fitB y (nthC y.chairs x.toNat).1 p.1 p.2) fun p hp => by
      obtain ⟨g1, g2⟩ := List.mem_filter.1 hp
      exact List.mem_filter.2 ⟨hs p g1, g2⟩
    unfold fitN
    omega
  have h2 := (foldl_max_ge' (f := sureR y ns) ((prs y.chairs.length y.chairs.length 0).map pI) 0).2 (pI N) (List.mem_map.2 ⟨N, hN, rfl⟩)
  unfold surestR
  omega
end Go.Fs
namespace Go.Fs
open Go.Proofs
open C7
def bestS (y : YardD) (ms : List Int) (best : List Int) (b : Nat) : List Int := if (shortB (bitsL b) best && canB y ms (dif (2 ^ y.claims.length - 1) b)) = true then bitsL b else best
def bestK (y : YardD) (ms : List Int) (k : Nat) : List Int := (List.range k).foldl (bestS y ms) (bitsL (2 ^ y.claims.length - 1))
theorem bestK_succ (y : YardD) (ms : List Int) (k : Nat) : bestK y ms (k + 1) = bestS y ms (bestK y ms k) k := by
  unfold bestK; rw [List.range_succ, List.foldl_append]; rfl
def leaveR (y : YardD) (ms : List Int) : List Int := bestK y ms (2 ^ y.claims.length)
end Go.Fs
