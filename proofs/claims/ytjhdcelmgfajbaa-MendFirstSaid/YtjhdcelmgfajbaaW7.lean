/- Walks: the most chairs in a scene, a pairing. -/
import Derived.Test.YtjhdcelmgfajbaaW6
namespace Go.Fs
open Go.Proofs
open C7
structure ScOk (n : Nat) (s : Sc) : Prop where
  len : s.fits.length = 7
  row : ∀ f ∈ s.fits, f < 128
  bits : ∀ x, s.broken.testBit x = true → x < n
  whole : s.whole ≤ 7
def mostS (n : Nat) (s : Sc) : Nat := s.whole + nuB s.fits n s.broken
theorem list7 {α : Type} {l : List α} (h : l.length = 7) : ∃ a b c d e f g, l = [a, b, c, d, e, f, g] := by
  match l, h with
  | [a, b, c, d, e, f, g], _ => exact ⟨a, b, c, d, e, f, g, rfl⟩
theorem scene_ok' {y : YardD} {t : List Pt} (hl : t.length = y.chairs.length) (h7 : t.length ≤ 7) : ScOk y.chairs.length (sceneD y t) := by
  refine ⟨by simp [sceneD], fun f hf => ?_, fun x hx => ?_, ?_⟩
  · obtain ⟨j, _, rfl⟩ := List.mem_map.1 hf
    have h1 := bset_lt (fitB y t j) t.length
    have h2 : 2 ^ t.length ≤ 2 ^ 7 := Nat.pow_le_pow_right (by omega) h7
    omega
  · simp only [sceneD] at hx
    rw [bset_bit] at hx
    simp at hx; omega
  · have : whole t ≤ t.length := List.length_filter_le _ _
    simp only [sceneD]; omega
/-- Pairs, as the program's and the reference's numbers. -/
def pI (l : List (Nat × Nat)) : List (Int × Int) := l.map fun p => ((p.1 : Int), (p.2 : Int))
def prC (l : List (Int × Int)) : List Value := l.flatMap fun p => [.int .i64 p.1, .int .i64 p.2]
theorem pI_snoc (l : List (Nat × Nat)) (a b : Nat) : pI (l ++ [(a, b)]) = pI l ++ [((a : Int), (b : Int))] := by simp [pI]
theorem prC_snoc (l : List (Int × Int)) (p : Int × Int) : prC (l ++ [p]) = prC l ++ [.int .i64 p.1, .int .i64 p.2] := by simp [prC]
theorem prC_length (l : List (Int × Int)) : (prC l).length = l.length * 2 := by
  induction l with
  | nil => rfl
  | cons c l ih => unfold prC at ih ⊢; rw [List.flatMap_cons, List.length_append, ih]; simp only [List.length_cons, List.length_nil]; omega
theorem prC_len (l : List (Nat × Nat)) (n : Nat) (h : l.length = n) : (prC (pI l)).length = n * 2 := by rw [prC_length]; simp [pI, h]
theorem prC_get {l : List (Int × Int)} {i : Nat} {c : Int × Int} (hi : l[i]? = some c) : ((prC l).drop (i * 2)).take 2 = [.int .i64 c.1, .int .i64 c.2] := by
  induction l generalizing i with
  | nil => simp at hi
  | cons d l ih =>
    unfold prC at ih ⊢
    rw [List.flatMap_cons]
    cases i with
    | zero => obtain rfl : d = c := by simpa using hi
              rfl
    | succ i =>
      rw [List.drop_append, List.drop_eq_nil_of_le (by simp; omega), List.nil_append]
      have : (i + 1) * 2 - [Value.int .i64 d.1, Value.int .i64 d.2].length = i * 2 := by simp; omega
      rw [this]; exact ih (by simpa using hi)
theorem Froz.prs {D : Data} {v : Value} {n : Nat} {l : List (Int × Int)} (hF : Froz D v n (prC l)) (hn : l.length = n) (hb : n ≤ 9223372036854775807) : Sl D R2 2 v l :=
  hF.sl hn hb fun _i _t hi => ⟨_, rfl, rfl, prC_get hi⟩
/-- A partner is right. -/
def mateP (F : List Nat) (n m b : Nat) : Bool := (dif m (2 ^ low m) &&& F.getD (low m) 0).testBit b && decide (nuB F n m = 1 + nuB F n (dif (dif m (2 ^ low m)) (2 ^ b)))
theorem mate_yes {F : List Nat} {n m k : Nat} (h : decide (((((dif m (2 ^ low m) &&& F.getD (low m) 0) >>> k : Nat) : Int) % 2) = 1) = true) : decide ((nuB F n m : Int) = 1 + (nuB F n (dif (dif m (2 ^ low m)) (2 ^ k)) : Int)) = mateP F n m k := by
  rw [decide_eq_true_eq, bit_mod] at h
  unfold mateP
  rw [show (dif m (2 ^ low m) &&& F.getD (low m) 0).testBit k = true by simpa using h, Bool.true_and]
  rw [Bool.eq_iff_iff]; simp only [decide_eq_true_eq]; omega
theorem mate_no {F : List Nat} {n m k : Nat} (h : decide (((((dif m (2 ^ low m) &&& F.getD (low m) 0) >>> k : Nat) : Int) % 2) = 1) = false) : false = mateP F n m k := by
  rw [decide_eq_false_iff_not, bit_mod] at h
  unfold mateP
  rw [show (dif m (2 ^ low m) &&& F.getD (low m) 0).testBit k = false by simpa using h, Bool.false_and]
theorem find_range {p : Nat → Bool} {n k : Nat} (hk : k < n) (h : p k = true) (hno : ∀ j, j < k → p j = false) : (List.range n).find? p = some k := by
  rw [List.find?_eq_some_iff_append]
  refine ⟨h, List.range k, (List.range (n - k - 1)).map (fun x => k + 1 + x), ?_, fun a ha => by rw [hno a (List.mem_range.1 ha)]; rfl⟩
  have e : n = k + (n - k - 1 + 1) := by omega
  conv => lhs; rw [e, List.range_add]
  rw [List.range_succ_eq_map, List.map_cons, List.map_map]
  congr 2
  apply List.map_congr_left
  intro x _
  simp; omega
theorem mate_some {F : List Nat} {n m k : Nat} (hk : k < n) (h : mateP F n m k = true) (hno : ∀ j, j < k → mateP F n m j = false) : mateB F n m = some k := find_range hk h hno
theorem mate_none {F : List Nat} {n m : Nat} (hno : ∀ j, j < n → mateP F n m j = false) : mateB F n m = none := by
  unfold mateB
  rw [List.find?_eq_none]
  intro x hx h
  have := hno x (List.mem_range.1 hx)
  unfold mateP at this
  rw [this] at h; cases h
theorem most0_ok (wb mb : Nat) (cv qv : Value) (fit : Int) (chs : List Ch) (w b : Nat) (a0 a1 a2 a3 a4 a5 a6 : Nat) (hn7 : chs.length ≤ 7) (hF : ∀ f ∈ [a0, a1, a2, a3, a4, a5, a6], f < 128) (hw : w ≤ 7) (hbits : ∀ x, b.testBit x = true → x < chs.length) (es : Array MapEntry) (clock : Nat) (M : List (Ints 8 × Int)) (D : Data) (hS : Sl D RCh 4 cv chs) (hM : MapG kaV es M) (hok : MOk chs.length M) :
    FnM Try.prog 99 [.pointer (some ⟨wb, 0, none⟩), .agg #[.int .i64 (w : Int), .int .i64 ((b : Nat) : Int), .int .i64 (a0 : Int), .int .i64 (a1 : Int), .int .i64 (a2 : Int), .int .i64 (a3 : Int), .int .i64 (a4 : Int), .int .i64 (a5 : Int), .int .i64 (a6 : Int)]] D [(wb, .cells [cv, .int .i64 fit, qv, .map (some mb)].toArray 148 (0, 0)), (mb, .map es clock)] (fun _ v ν' => v = .int .i64 ((w + nuB [a0, a1, a2, a3, a4, a5, a6] chs.length b : Nat) : Int) ∧ ∃ es' clock' M', ν' = [(wb, .cells [cv, .int .i64 fit, qv, .map (some mb)].toArray 148 (0, 0)), (mb, .map es' clock')] ∧ MapG kaV es' M' ∧ MOk chs.length M') := by
  have hbl := bits_lt hbits hn7
  have hnl := nuB_le [a0, a1, a2, a3, a4, a5, a6] chs.length b
  refine enterMany 15 Try.func99 rfl rfl rfl rfl (fun h0 hwl hwn => ?_)
  refine C.seq ?_
  refine C.region [(false,0),(false,1)] rfl ?_
  refine L.boxD rfl rfl rfl rfl trivial (fun q1 E1 hE1 hB1 => ?_)
  refine L.assign rfl rfl rfl trivial ?_
  refine L.nil ?_
  refine C.next ?_
  refine C.seq ?_
  refine C.apart hB1 (by simp) (fun hq1 => ?_)
  have hq1 : q1 ∉ [wb, mb] := hq1
  refine C.draw [wb, mb] 4 [0,1,2,3,4,5,6,7,8,9,10] [false,false,true,true,true,true,true,true,true,false,false] [(false,0),(false,1),(true,2),(true,3),(true,4),(true,5),(true,6),(true,7),(true,8),(false,9),(false,10)] Tf.follows (fun _ _ _ h => np_bodyMany (P := Try.prog) (fn := Try.f99) _ _ _ h) (by kernel_rfl) rfl ?_
  refine L.fieldAddr rfl Tf.f126_0 rfl rfl trivial ?_
  refine L.loadD1 rfl (k := 0) Tf.a3 rfl hB1 (by first | simp | assumption) rfl (by first | assumption | simp) rfl trivial ?_
  refine L.move rfl rfl rfl trivial ?_
  refine L.fieldAddr rfl Tf.f126_1 rfl rfl trivial ?_
  refine L.loadD1 rfl (k := 1) Tf.a3 rfl hB1 (by first | simp | assumption) rfl (by first | assumption | simp) rfl trivial ?_
  refine L.fieldAddr rfl Tf.f126_2 rfl rfl trivial ?_
  refine L.loadDP rfl (k := 2) (us := [.int .i64 (a0 : Int), .int .i64 (a1 : Int), .int .i64 (a2 : Int), .int .i64 (a3 : Int), .int .i64 (a4 : Int), .int .i64 (a5 : Int), .int .i64 (a6 : Int)]) Tf.a124 Tf.s124 rfl hB1 (by first | simp | assumption) rfl rfl (by first | assumption | simp) rfl trivial ?_
  refine L.build (cs := [.int .i64 ((b : Nat) : Int), .int .i64 (a0 : Int), .int .i64 (a1 : Int), .int .i64 (a2 : Int), .int .i64 (a3 : Int), .int .i64 (a4 : Int), .int .i64 (a5 : Int), .int .i64 (a6 : Int)]) rfl Tf.p162 Tf.z162 rfl (by kernel_rfl) rfl trivial ?_
  refine L.callM (A := []) (ν := [(_, _), (_, _)]) (B := []) rfl rfl rfl rfl (by first | exact Or.inl rfl | exact Or.inr (fun p hp => List.mem_map.2 ⟨p, hp, rfl⟩)) (unf_w (cs := [_, _, _, _])) (fun D5 hD5 => pairs_ok wb mb cv qv fit chs a0 a1 a2 a3 a4 a5 a6 hn7 hF _ b rfl hbits es clock M D5 (hS.up RCh.up (hD5 _ (by simp))) hM hok) rfl trivial (fun v5 D6 _ hD6 hp5 => ?_)
  obtain ⟨rfl, es1, cl1, M1, rfl, hM1, hok1⟩ := hp5
  refine L.add rfl rfl rfl (by simp only [inK]; omega) rfl trivial ?_
  refine L.assign rfl rfl rfl trivial ?_
  refine L.nil ?_
  refine C.next ?_
  refine C.ret ?_
  exact leaveMany (A := []) (ν' := [_, _]) (B := []) (vs := [_]) rfl rfl rfl ⟨rfl, trivial⟩ rfl (fun D hD => ⟨by show Value.int _ _ = _; congr 1, es1, cl1, M1, rfl, hM1, hok1⟩)
theorem most_ok (wb mb : Nat) (cv qv : Value) (fit : Int) (chs : List Ch) (s : Sc) (hn7 : chs.length ≤ 7) (hs : ScOk chs.length s) (es : Array MapEntry) (clock : Nat) (M : List (Ints 8 × Int)) (D : Data) (hS : Sl D RCh 4 cv chs) (hM : MapG kaV es M) (hok : MOk chs.length M) :
    FnM Try.prog 99 [.pointer (some ⟨wb, 0, none⟩), scV s] D [(wb, .cells [cv, .int .i64 fit, qv, .map (some mb)].toArray 148 (0, 0)), (mb, .map es clock)] (fun _ v ν' => v = .int .i64 (mostS chs.length s : Int) ∧ ∃ es' clock' M', ν' = [(wb, .cells [cv, .int .i64 fit, qv, .map (some mb)].toArray 148 (0, 0)), (mb, .map es' clock')] ∧ MapG kaV es' M' ∧ MOk chs.length M') := by
  obtain ⟨w, b, F⟩ := s
  obtain ⟨a0, a1, a2, a3, a4, a5, a6, rfl⟩ := list7 hs.len
  exact most0_ok wb mb cv qv fit chs w b a0 a1 a2 a3 a4 a5 a6 hn7 hs.row hs.whole hs.bits es clock M D hS hM hok
theorem pairing0_ok (wb mb : Nat) (cv qv : Value) (fit : Int) (chs : List Ch) (w b : Nat) (a0 a1 a2 a3 a4 a5 a6 : Nat) (hn7 : chs.length ≤ 7) (hF : ∀ f ∈ [a0, a1, a2, a3, a4, a5, a6], f < 128) (hbits0 : ∀ x, b.testBit x = true → x < chs.length) (es0 : Array MapEntry) (clock0 : Nat) (M0 : List (Ints 8 × Int)) (D : Data) (hS : Sl D RCh 4 cv chs) (hM0 : MapG kaV es0 M0) (hok0 : MOk chs.length M0) :
    FnM Try.prog 76 [.pointer (some ⟨wb, 0, none⟩), .agg #[.int .i64 (w : Int), .int .i64 ((b : Nat) : Int), .int .i64 (a0 : Int), .int .i64 (a1 : Int), .int .i64 (a2 : Int), .int .i64 (a3 : Int), .int .i64 (a4 : Int), .int .i64 (a5 : Int), .int .i64 (a6 : Int)]] D [(wb, .cells [cv, .int .i64 fit, qv, .map (some mb)].toArray 148 (0, 0)), (mb, .map es0 clock0)] (fun D' v ν' => Sl D' R2 2 v (pI (pairB [a0, a1, a2, a3, a4, a5, a6] chs.length b)) ∧ ∃ es' clock' M', ν' = [(wb, .cells [cv, .int .i64 fit, qv, .map (some mb)].toArray 148 (0, 0)), (mb, .map es' clock')] ∧ MapG kaV es' M' ∧ MOk chs.length M') := by
  have hl1 := hS.len
  have hbl := bits_lt hbits0 hn7
  have hnb := nuB_le [a0, a1, a2, a3, a4, a5, a6] chs.length b
  have hpl := (pairB_ok b b (Nat.le_refl _) hbits0 (F := [a0, a1, a2, a3, a4, a5, a6])).2.1
  refine enterMany 72 Try.func76 rfl rfl rfl rfl (fun h0 hwl hwn => ?_)
  refine C.seq ?_
  refine C.region [(false,0),(false,1)] rfl ?_
  refine L.boxD rfl rfl rfl rfl trivial (fun q1 E1 hE1 hB1 => ?_)
  refine L.assign rfl rfl rfl trivial ?_
  refine L.nil ?_
  refine C.next ?_
  refine C.seq ?_
  refine C.region [(false,0),(false,1),(false,2)] rfl ?_
  refine L.fieldAddr rfl Tf.f126_1 rfl rfl trivial ?_
  refine L.loadD1 rfl (k := 1) Tf.a3 rfl hB1 (by first | simp | assumption) rfl List.not_mem_nil rfl trivial ?_
  refine L.assign rfl rfl rfl trivial ?_
  refine L.nil ?_
  refine C.next ?_
  refine C.seq ?_
  refine C.block ?_
  refine C.loopR (γ := Nat × Array MapEntry × Nat × List (Ints 8 × Int) × Value × Boxes × List (Nat × Nat)) (fun g => g.1) (fun g => (∀ x, g.1.testBit x = true → x < chs.length) ∧ MapG kaV g.2.1 g.2.2.2.1 ∧ MOk chs.length g.2.2.2.1 ∧ Acc 111 2 g.2.2.2.2.1 g.2.2.2.2.2.2.length (prC (pI g.2.2.2.2.2.2)) g.2.2.2.2.2.1 ∧ pairB [a0, a1, a2, a3, a4, a5, a6] chs.length b = g.2.2.2.2.2.2 ++ pairB [a0, a1, a2, a3, a4, a5, a6] chs.length g.1) (fun g => [(5, .int .i64 (g.1 : Int)), (4, g.2.2.2.2.1)]) [(3, _), (0, _)] (fun g => g.2.2.2.2.2.1 ++ [(wb, .cells [cv, .int .i64 fit, qv, .map (some mb)].toArray 148 (0, 0)), (mb, .map g.2.1 g.2.2.1)]) (fun g => [E1, D]) (b, es0, clock0, M0, .slice none 0 0, [], []) ⟨hbits0, hM0, hok0, by simpa [prC, pI] using Acc.nil, by simp⟩ ⟨(by first | rfl | (show some (Value.int _ _) = some (Value.int _ _); congr 2; omega)), (by first | rfl | (show some (Value.int _ _) = some (Value.int _ _); congr 2; omega)), trivial⟩ ⟨rfl, rfl, trivial⟩ (List.Sublist.refl _) (ds_same) ?_
  rintro ⟨m, es, clock, M, v, ν, l⟩ ⟨hbits, hM, hok, ha, hpp⟩
  simp only at hbits hM hok ha hpp
  have hmb := bits_lt hbits hn7
  have hlen : l.length ≤ 200 := by have := congrArg List.length hpp; rw [hpl, List.length_append] at this; omega
  refine C.seq ?_
  refine C.seq ?_
  refine C.region [(false,0),(false,1)] rfl ?_
  refine L.move rfl rfl rfl trivial ?_
  refine L.neq rfl rfl rfl rfl trivial ?_
  refine L.nil ?_
  refine C.next ?_
  refine C.condD rfl (fun hc1 => ?_) (fun hc1 => ?_)
  · have hm0 : m ≠ 0 := by omega
    have hlow := low_spec hm0
    have hlown := hbits _ hlow.1
    have hlow7 : low m < 7 := by omega
    have hp2 := pow_lt7 hlow7
    have hlt := bit_lt hlow.1
    have hrest := dif_le m (2 ^ low m)
    refine C.skip ?_
    refine C.next ?_
    refine C.block ?_
    refine C.seq ?_
    refine C.region [(false,0),(false,1),(false,2)] rfl ?_
    refine L.move rfl rfl rfl trivial ?_
    refine L.callV rfl rfl rfl (fun D1 hD1 => lowest_ok m (low m) _ hlow.1 (by omega) hlow.2) rfl trivial ?_
    refine L.assign rfl rfl rfl trivial ?_
    refine L.nil ?_
    refine C.next ?_
    refine C.seq ?_
    refine C.region [(false,0),(false,1),(false,2),(false,3),(false,4)] rfl ?_
    refine L.move rfl rfl rfl trivial ?_
    refine L.move rfl rfl rfl trivial ?_
    refine L.shl1 rfl rfl rfl (by first | omega | (simp only; omega)) rfl trivial ?_
    refine L.difN rfl rfl rfl (by first | omega | (simp only; omega)) (by first | omega | (simp only; omega)) rfl trivial ?_
    refine L.assign rfl rfl rfl trivial ?_
    refine L.nil ?_
    refine C.next ?_
    refine C.seq ?_
    refine C.region [(false,0),(false,1),(false,2),(false,3),(false,4),(false,5),(false,6)] rfl ?_
    refine L.move rfl rfl rfl trivial ?_
    refine L.move rfl rfl rfl trivial ?_
    refine L.fieldAddr rfl Tf.f126_2 rfl rfl trivial ?_
    refine L.loadDP rfl (k := 2) (us := [.int .i64 (a0 : Int), .int .i64 (a1 : Int), .int .i64 (a2 : Int), .int .i64 (a3 : Int), .int .i64 (a4 : Int), .int .i64 (a5 : Int), .int .i64 (a6 : Int)]) Tf.a124 Tf.s124 rfl hB1 (by first | simp | assumption) rfl rfl List.not_mem_nil rfl trivial ?_
    refine L.build (cs := [.int .i64 ((m : Nat) : Int), .int .i64 (a0 : Int), .int .i64 (a1 : Int), .int .i64 (a2 : Int), .int .i64 (a3 : Int), .int .i64 (a4 : Int), .int .i64 (a5 : Int), .int .i64 (a6 : Int)]) rfl Tf.p162 Tf.z162 rfl (by kernel_rfl) rfl trivial ?_
    refine L.callMA (A := ν) (ν := [(_, _), (_, _)]) rfl rfl rfl rfl (by first | exact Or.inl rfl | exact Or.inr (fun p hp => List.mem_map.2 ⟨p, hp, rfl⟩)) (unf_w (cs := [_, _, _, _])) (fun D5 hD5 => pairs_ok wb mb cv qv fit chs a0 a1 a2 a3 a4 a5 a6 hn7 hF _ m rfl hbits es clock M _ (hS.up RCh.up (hD5 _ (by simp))) hM hok) rfl trivial (fun v5 D6 _ hD6 hp5 => ?_)
    obtain ⟨rfl, es1, cl1, M1, rfl, hM1, hok1⟩ := hp5
    refine L.assign rfl rfl rfl trivial ?_
    refine L.nil ?_
    refine C.next ?_
    refine C.seq ?_
    refine C.region [(false,0),(false,1)] rfl ?_
    refine L.move rfl rfl rfl trivial ?_
    refine L.assign rfl rfl rfl trivial ?_
    refine L.nil ?_
    refine C.next ?_
    refine C.seq ?_
    refine C.region [(false,0),(false,1),(false,2),(false,3),(false,4),(false,5),(false,6)] rfl ?_
    refine L.move rfl rfl rfl trivial ?_
    refine L.nilCheck rfl rfl rfl trivial ?_
    refine L.fieldAddr rfl Tf.f148_0 rfl rfl trivial ?_
    refine L.fieldAddr rfl Tf.f37_0 rfl rfl trivial ?_
    refine L.loadB1 rfl Tf.a34 rfl (List.mem_append_right _ (List.Mem.head _)) rfl List.not_mem_nil rfl trivial ?_
    refine L.len rfl Try.underlying34 rfl hS rfl rfl trivial ?_
    refine L.move rfl rfl rfl trivial ?_
    refine L.nil ?_
    refine C.next ?_
    refine C.block ?_
    refine C.loopR (γ := Nat × Array MapEntry × Nat × List (Ints 8 × Int)) (fun g => chs.length - g.1) (fun g => g.1 ≤ chs.length ∧ MapG kaV g.2.1 g.2.2.2 ∧ MOk chs.length g.2.2.2 ∧ ∀ j, j < g.1 → mateP [a0, a1, a2, a3, a4, a5, a6] chs.length m j = false) (fun g => [(33, .int .i64 (g.1 : Int))]) [(32, _), (31, _), (30, _), (29, _), (28, _), (27, _), (5, _), (26, _), (8, _), (25, _), (24, _), (23, _), (22, _), (21, _), (20, _), (7, _), (19, _), (18, _), (17, _), (16, _), (6, _), (15, _), (14, _), (13, _), (12, _), (4, _), (3, _), (0, _)] (fun g => ν ++ [(wb, .cells [cv, .int .i64 fit, qv, .map (some mb)].toArray 148 (0, 0)), (mb, .map g.2.1 g.2.2.1)]) (fun g => [D6, E1, D]) (0, es1, cl1, M1) ⟨by simp, hM1, hok1, by simp⟩ ⟨(by first | rfl | (show some (Value.int _ _) = some (Value.int _ _); congr 2; omega)), trivial⟩ ⟨rfl, rfl, rfl, rfl, rfl, rfl, rfl, rfl, rfl, rfl, rfl, rfl, rfl, rfl, rfl, rfl, rfl, rfl, rfl, rfl, rfl, rfl, rfl, rfl, rfl, rfl, rfl, rfl, trivial⟩ (List.Sublist.refl _) (ds_same) ?_
    rintro ⟨k, es2, cl2, M2⟩ ⟨h1, hM2, hok2, hno⟩
    simp only at h1 hM2 hok2 hno
    refine C.seq ?_
    refine C.region [(false,0)] rfl ?_
    refine L.lss rfl rfl rfl rfl trivial ?_
    refine L.nil ?_
    refine C.next ?_
    refine C.seq ?_
    refine C.condD rfl (fun hc2 => ?_) (fun hc2 => ?_)
    · have hk : k < chs.length := by omega
      have hpk := pow_lt7 (show k < 7 by omega)
      have hrow := row_lt hF (low m)
      have hdl := dif_le (dif m (2 ^ low m)) (2 ^ k)
      have hnl := nuB_le [a0, a1, a2, a3, a4, a5, a6] chs.length (dif (dif m (2 ^ low m)) (2 ^ k))
      have hand := Nat.and_le_left (n := dif m (2 ^ low m)) (m := [a0, a1, a2, a3, a4, a5, a6].getD (low m) 0)
      refine C.skip ?_
      refine C.next ?_
      refine C.seq ?_
      refine C.block ?_
      refine C.seq ?_
      refine C.region [(false,0),(false,1)] rfl ?_
      refine L.move rfl rfl rfl trivial ?_
      refine L.assign rfl rfl rfl trivial ?_
      refine L.nil ?_
      refine C.next ?_
      refine C.seq ?_
      refine C.apart hB1 (by simp) (fun hq1 => ?_)
      have hq1 : q1 ∉ [wb, mb] := fun h => hq1 (by rw [Boxes.ks, List.map_append]; exact List.mem_append_right _ h)
      refine C.draw [wb, mb] 8 [0,1,2,3,4,5,6,7,8,9,10,11,12,13,14,15,16,17,18,19,20,21,22,23] [false,true,true,true,true,false,true,false,false,false,false,false,true,true,true,true,true,true,true,true,true,true,false,false] [(false,0),(true,1),(true,2),(true,3),(true,4),(false,5),(true,6),(false,7),(false,8),(false,9),(false,10),(false,11),(true,12),(true,13),(true,14),(true,15),(true,16),(true,17),(true,18),(true,19),(true,20),(true,21),(false,22),(false,23)] Tf.follows (fun _ _ _ h => np_bodyMany (P := Try.prog) (fn := Try.f76) _ _ _ h) (by kernel_rfl) rfl ?_
      refine L.move rfl rfl rfl trivial ?_
      refine L.move rfl rfl rfl trivial ?_
      refine L.fieldAddr rfl Tf.f126_2 rfl rfl trivial ?_
      refine L.indexA rfl Try.underlying124 Tf.s3 rfl rfl (by omega) (by omega) rfl trivial ?_
      refine L.loadD1 (o := 0 + 1 + 1) (k := low m * 1) rfl Tf.a3 rfl hB1.tail.tail (by simp) (sp_row a0 a1 a2 a3 a4 a5 a6 hlow7) (by first | assumption | simp) rfl trivial ?_
      refine L.andN rfl rfl rfl (by first | omega | (simp only; omega)) (by first | omega | (simp only; omega)) rfl trivial ?_
      refine L.move rfl rfl rfl trivial ?_
      refine L.shrN rfl rfl rfl (by first | omega | (simp only; omega)) rfl trivial ?_
      refine L.rem rfl rfl rfl (Int.natCast_nonneg _) (by omega) (by rw [bit_mod]; split <;> simp only [inK] <;> omega) rfl trivial ?_
      refine L.eql rfl rfl rfl rfl trivial ?_
      refine L.move rfl rfl rfl trivial ?_
      refine L.andM (γ := Bool × Array MapEntry × Nat × List (Ints 8 × Int)) (fun g => g.1 = mateP [a0, a1, a2, a3, a4, a5, a6] chs.length m k ∧ MapG kaV g.2.1 g.2.2.2 ∧ MOk chs.length g.2.2.2) (fun g => g.1) (fun g => ν ++ [(wb, .cells [cv, .int .i64 fit, qv, .map (some mb)].toArray 148 (0, 0)), (mb, .map g.2.1 g.2.2.1)]) [(false,11),(true,12),(true,13),(true,14),(true,15),(true,16),(true,17),(true,18),(true,19),(true,20),(true,21),(false,22),(false,23)] [] (s := 46) (p := 59) rfl rfl (fun hg1 => ?_) (fun hg1 => ?_) ?_
      · refine L.move rfl rfl rfl ⟨_, rfl, rfl⟩ ?_
        refine L.move rfl rfl rfl ⟨_, rfl, rfl⟩ ?_
        refine L.move rfl rfl rfl ⟨_, rfl, rfl⟩ ?_
        refine L.move rfl rfl rfl ⟨_, rfl, rfl⟩ ?_
        refine L.shl1 rfl rfl rfl (by first | omega | (simp only; omega)) rfl ⟨_, rfl, rfl⟩ ?_
        refine L.difN rfl rfl rfl (by first | omega | (simp only; omega)) (by first | omega | (simp only; omega)) rfl ⟨_, rfl, rfl⟩ ?_
        refine L.fieldAddr rfl Tf.f126_2 rfl rfl ⟨_, rfl, rfl⟩ ?_
        refine L.loadDP rfl (k := 2) (us := [.int .i64 (a0 : Int), .int .i64 (a1 : Int), .int .i64 (a2 : Int), .int .i64 (a3 : Int), .int .i64 (a4 : Int), .int .i64 (a5 : Int), .int .i64 (a6 : Int)]) Tf.a124 Tf.s124 rfl hB1 (by first | simp | assumption) rfl rfl (by first | assumption | simp) rfl ⟨_, rfl, rfl⟩ ?_
        refine L.build (cs := [.int .i64 ((dif (dif m (2 ^ low m)) (2 ^ k) : Nat) : Int), .int .i64 (a0 : Int), .int .i64 (a1 : Int), .int .i64 (a2 : Int), .int .i64 (a3 : Int), .int .i64 (a4 : Int), .int .i64 (a5 : Int), .int .i64 (a6 : Int)]) rfl Tf.p162 Tf.z162 rfl (by kernel_rfl) rfl ⟨_, rfl, rfl⟩ ?_
        refine L.callMA (A := ν) (ν := [(_, _), (_, _)]) rfl rfl rfl rfl (by first | exact Or.inl rfl | exact Or.inr (fun p hp => List.mem_map.2 ⟨p, hp, rfl⟩)) (unf_w (cs := [_, _, _, _])) (fun D7 hD7 => pairs_ok wb mb cv qv fit chs a0 a1 a2 a3 a4 a5 a6 hn7 hF _ (dif (dif m (2 ^ low m)) (2 ^ k)) rfl (bits_dif (bits_dif hbits)) es2 cl2 M2 _ (hS.up RCh.up (hD7 _ (by simp))) hM2 hok2) rfl ⟨_, rfl, rfl⟩ (fun v7 D8 _ hD8 hp7 => ?_)
        obtain ⟨rfl, es3, cl3, M3, rfl, hM3, hok3⟩ := hp7
        refine L.add rfl rfl rfl (by simp only [inK]; omega) rfl ⟨_, rfl, rfl⟩ ?_
        refine L.eql rfl rfl rfl rfl ⟨_, rfl, rfl⟩ ?_
        refine L.pickT rfl rfl rfl rfl trivial ?_
        exact L.nil fun a w hh => ⟨(_, es3, cl3, M3), ⟨mate_yes hg1, hM3, hok3⟩, (hh.cutK 12 rfl).ds (fun _ h => List.Mem.tail _ (h))⟩
      · refine L.pass rfl rfl rfl ⟨_, _, rfl, rfl, rfl⟩ ?_
        refine L.pass rfl rfl rfl ⟨_, _, rfl, rfl, rfl⟩ ?_
        refine L.pass rfl rfl rfl ⟨_, _, rfl, rfl, rfl⟩ ?_
        refine L.pass rfl rfl rfl ⟨_, _, rfl, rfl, rfl⟩ ?_
        refine L.pass rfl rfl rfl ⟨_, _, rfl, rfl, rfl⟩ ?_
        refine L.pass rfl rfl rfl ⟨_, _, rfl, rfl, rfl⟩ ?_
        refine L.pass rfl rfl rfl ⟨_, _, rfl, rfl, rfl⟩ ?_
        refine L.pass rfl rfl rfl ⟨_, _, rfl, rfl, rfl⟩ ?_
        refine L.pass rfl rfl rfl ⟨_, _, rfl, rfl, rfl⟩ ?_
        refine L.pass rfl rfl rfl ⟨_, _, rfl, rfl, rfl⟩ ?_
        refine L.pass rfl rfl rfl ⟨_, _, rfl, rfl, rfl⟩ ?_
        refine L.pass rfl rfl rfl ⟨_, _, rfl, rfl, rfl⟩ ?_
        refine L.pickF rfl rfl rfl rfl trivial ?_
        exact L.nil fun a w hh => ⟨(false, es2, cl2, M2), ⟨mate_no hg1, hM2, hok2⟩, hh.cutK 12 rfl⟩
      rintro ⟨bm, es3, cl3, M3⟩ ⟨hmj, hM3, hok3⟩
      simp only at hmj hM3 hok3
      refine L.nil ?_
      refine C.next ?_
      refine C.cond rfl (fun hc3 => ?_) (fun hc3 => ?_)
      · obtain rfl : bm = true := hc3
        have hmate := mate_some hk hmj.symm hno
        refine C.seq ?_
        refine C.region [(false,0),(false,1),(false,2),(false,3),(false,4),(false,5),(false,6)] rfl ?_
        refine L.move rfl rfl rfl trivial ?_
        refine L.move rfl rfl rfl trivial ?_
        refine L.move rfl rfl rfl trivial ?_
        refine L.build (cs := [.int .i64 (low m : Int), .int .i64 (k : Int)]) rfl Tf.p111 Tf.z111 rfl (by kernel_rfl) rfl trivial ?_
        refine L.buildSlice rfl Try.underlying30 Tf.s111 Tf.z111 rfl rfl rfl rfl (.cons rfl rfl .nil) rfl trivial (fun b901 D901 hD901 hA901 => ?_)
        refine L.append (A := []) (B := [(_, _), (_, _)]) rfl Try.underlying30 rfl rfl Tf.s111 Tf.z111 rfl Tf.i111 rfl rfl rfl ha (Src.lit hA901) (by simp) rfl (prC_len _ _ rfl) (by simp [cell1]) (by omega) (Or.inl rfl) rfl trivial (fun v7 ν7 ha7 => ?_)
        have hn7' : Acc 111 2 v7 (l.length + 1) (prC (pI (l ++ [(low m, k)]))) ν7 := by rw [pI_snoc, prC_snoc]; simpa [pI] using ha7
        refine L.assign rfl rfl rfl trivial ?_
        refine L.nil ?_
        refine C.next ?_
        refine C.seq ?_
        refine C.region [(false,0),(false,1),(false,2),(false,3),(false,4)] rfl ?_
        refine L.move rfl rfl rfl trivial ?_
        refine L.move rfl rfl rfl trivial ?_
        refine L.shl1 rfl rfl rfl (by first | omega | (simp only; omega)) rfl trivial ?_
        refine L.difN rfl rfl rfl (by first | omega | (simp only; omega)) (by first | omega | (simp only; omega)) rfl trivial ?_
        refine L.assign rfl rfl rfl trivial ?_
        refine L.nil ?_
        refine C.next ?_
        refine C.exit ?_
        refine C.blockPass rfl ?_
        refine C.thenExit ?_
        refine C.thenExit ?_
        refine C.blockExit ?_
        refine C.blockEnd ?_
        exact C.againR 54 (dif (dif m (2 ^ low m)) (2 ^ k), es3, cl3, M3, v7, ν7, l ++ [(low m, k)]) ⟨bits_dif (bits_dif hbits), hM3, hok3, by simpa using hn7', by simp only; rw [hpp, pairB_some hm0 hmate, List.append_assoc]; rfl⟩ (dif2_lt hm0) ⟨(by first | rfl | (show some (Value.int _ _) = some (Value.int _ _); congr 2; omega)), (by first | rfl | (show some (Value.int _ _) = some (Value.int _ _); congr 2; omega)), trivial⟩ rfl rfl (List.Sublist.refl _) (fun D h => ⟨D, List.Mem.tail _ (List.Mem.tail _ (h)), Le.refl D⟩)
      · obtain rfl : bm = false := hc3
        have hmj := hmj.symm
        refine C.skip ?_
        refine C.blockEnd ?_
        refine C.next ?_
        refine C.region [(false,0),(false,1)] rfl ?_
        refine L.add rfl rfl rfl (by simp only [inK]; omega) rfl trivial ?_
        refine L.move rfl rfl rfl trivial ?_
        refine L.nil ?_
        exact C.againR 18 (k + 1, es3, cl3, M3) ⟨by simp only; omega, hM3, hok3, fun j hj => by rcases Nat.lt_succ_iff_lt_or_eq.1 hj with h | rfl; exact hno j h; exact hmj⟩ (by simp only; omega) ⟨(by first | rfl | (show some (Value.int _ _) = some (Value.int _ _); congr 2; omega)), trivial⟩ rfl rfl (List.Sublist.refl _) (ds_same)
    · obtain rfl : k = chs.length := by omega
      have hmate := mate_none hno
      refine C.exit ?_
      refine C.thenExit ?_
      refine C.thenExit ?_
      refine C.blockExit ?_
      refine C.blockEnd ?_
      exact C.againR 28 (dif m (2 ^ low m), es2, cl2, M2, v, ν, l) ⟨bits_dif hbits, hM2, hok2, ha, by simp only; rw [hpp, pairB_none hm0 hmate]⟩ hlt ⟨(by first | rfl | (show some (Value.int _ _) = some (Value.int _ _); congr 2; omega)), (by first | rfl | (show some (Value.int _ _) = some (Value.int _ _); congr 2; omega)), trivial⟩ rfl rfl (List.Sublist.refl _) (fun D h => ⟨D, List.Mem.tail _ (h), Le.refl D⟩)
  · obtain rfl : m = 0 := by omega
    rw [pairB_zero, List.append_nil] at hpp
    refine C.exit ?_
    refine C.thenExit ?_
    refine C.thenExit ?_
    refine C.blockExit ?_
    refine C.next ?_
    refine C.seq ?_
    refine C.region [(false,0),(false,1)] rfl ?_
    refine L.move rfl rfl rfl trivial ?_
    refine L.assign rfl rfl rfl trivial ?_
    refine L.nil ?_
    refine C.next ?_
    refine C.ret ?_
    refine Q.freezeM (A := []) (B := [(_, _), (_, _)]) ha (fun k hk => hk) (fun D2 hD2 hF2 => ?_)
    exact leaveMany (A := []) (ν' := [_, _]) (B := []) (vs := [_]) rfl rfl rfl ⟨rfl, trivial⟩ rfl (fun D hD => ⟨by rw [hpp]; exact (hF2.prs (by simp [pI]) (by omega)).up R2.up (hD _ (by simp)), es, clock, M, rfl, hM, hok⟩)
end Go.Fs
