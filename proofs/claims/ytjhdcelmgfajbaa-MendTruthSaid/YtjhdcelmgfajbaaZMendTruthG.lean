/- Of the proof of MendTruth: W7, W8, W9, Eqs. -/
import Derived.Test.YtjhdcelmgfajbaaZMendTruthF
namespace Go.Fs
open Go.Proofs
open C7
structure ScOk (n : Nat) (s : Sc) : Prop where
  len : s.fits.length = 7
  row : ∀ f ∈ s.fits, f < 128
  bits : ∀ x, s.broken.testBit x = true → x < n
  whole : s.whole ≤ 7
def mostS (n : Nat) (s : Sc) : Nat := s.whole + nuB s.fits n s.broken
theorem list7 {α : Type} {l : List α} (h : l.length = 7) : ∃ a b c d e f g, l = [a, b, c, d, e, f, g] := by
  match l, h with
  | [a, b, c, d, e, f, g], _ => exact ⟨a, b, c, d, e, f, g, rfl⟩
theorem scene_ok' {y : YardD} {t : List Pt} (hl : t.length = y.chairs.length) (h7 : t.length ≤ 7) : ScOk y.chairs.length (sceneD y t) := by
  refine ⟨by simp [sceneD], fun f hf => ?_, fun x hx => ?_, ?_⟩
  · obtain ⟨j, _, rfl⟩ := List.mem_map.1 hf
    have h1 := bset_lt (fitB y t j) t.length
    have h2 : 2 ^ t.length ≤ 2 ^ 7 := Nat.pow_le_pow_right (by omega) h7
    omega
  · simp only [sceneD] at hx
    rw [bset_bit] at hx
    simp at hx; omega
  · have : whole t ≤ t.length := List.length_filter_le _ _
    simp only [sceneD]; omega
/-- Pairs, as the program's and the reference's numbers. -/
def pI (l : List (Nat × Nat)) : List (Int × Int) := l.map fun p => ((p.1 : Int), (p.2 : Int))
def prC (l : List (Int × Int)) : List Value := l.flatMap fun p => [.int .i64 p.1, .int .i64 p.2]
theorem pI_snoc (l : List (Nat × Nat)) (a b : Nat) : pI (l ++ [(a, b)]) = pI l ++ [((a : Int), (b : Int))] := by simp [pI]
theorem prC_snoc (l : List (Int × Int)) (p : Int × Int) : prC (l ++ [p]) = prC l ++ [.int .i64 p.1, .int .i64 p.2] := by simp [prC]
theorem prC_length (l : List (Int × Int)) : (prC l).length = l.length * 2 := by
  induction l with
  | nil => rfl
  | cons c l ih => unfold prC at ih ⊢; rw [List.flatMap_cons, List.length_append, ih]; simp only [List.length_cons, List.length_nil]; omega
theorem prC_len (l : List (Nat × Nat)) (n : Nat) (h : l.length = n) : (prC (pI l)).length = n * 2 := by rw [prC_length]; simp [pI, h]
theorem prC_get {l : List (Int × Int)} {i : Nat} {c : Int × Int} (hi : l[i]? = some c) : ((prC l).drop (i * 2)).take 2 = [.int .i64 c.1, .int .i64 c.2] := by
  induction l generalizing i with
  | nil => simp at hi
  | cons d l ih =>
    unfold prC at ih ⊢
    rw [List.flatMap_cons]
    cases i with
    | zero => obtain rfl : d = c := by simpa using hi
              rfl
    | succ i =>
      rw [List.drop_append, List.drop_eq_nil_of_le (by simp; omega), List.nil_append]
      have : (i + 1) * 2 - [Value.int .i64 d.1, Value.int .i64 d.2].length = i * 2 := by simp; omega
      rw [this]; exact ih (by simpa using hi)
theorem Froz.prs {D : Data} {v : Value} {n : Nat} {l : List (Int × Int)} (hF : Froz D v n (prC l)) (hn : l.length = n) (hb : n ≤ 9223372036854775807) : Sl D R2 2 v l :=
  hF.sl hn hb fun _i _t hi => ⟨_, rfl, rfl, prC_get hi⟩
/-- A partner is right. -/
def mateP (F : List Nat) (n m b : Nat) : Bool := (dif m (2 ^ low m) &&& F.getD (low m) 0).testBit b && decide (nuB F n m = 1 + nuB F n (dif (dif m (2 ^ low m)) (2 ^ b)))
theorem mate_yes {F : List Nat} {n m k : Nat} (h : decide (((((dif m (2 ^ low m) &&& F.getD (low m) 0) >>> k : Nat) : Int) % 2) = 1) = true) : decide ((nuB F n m : Int) = 1 + (nuB F n (dif (dif m (2 ^ low m)) (2 ^ k)) : Int)) = mateP F n m k := by
  rw [decide_eq_true_eq, bit_mod] at h
  unfold mateP
  rw [show (dif m (2 ^ low m) &&& F.getD (low m) 0).testBit k = true by simpa using h, Bool.true_and]
  rw [Bool.eq_iff_iff]; simp only [decide_eq_true_eq]; omega
theorem mate_no {F : List Nat} {n m k : Nat} (h : decide (((((dif m (2 ^ low m) &&& F.getD (low m) 0) >>> k : Nat) : Int) % 2) = 1) = false) : false = mateP F n m k := by
  rw [decide_eq_false_iff_not, bit_mod] at h
  unfold mateP
  rw [show (dif m (2 ^ low m) &&& F.getD (low m) 0).testBit k = false by simpa using h, Bool.false_and]
theorem find_range {p : Nat → Bool} {n k : Nat} (hk : k < n) (h : p k = true) (hno : ∀ j, j < k → p j = false) : (List.range n).find? p = some k := by
  rw [List.find?_eq_some_iff_append]
  refine ⟨h, List.range k, (List.range (n - k - 1)).map (fun x => k + 1 + x), ?_, fun a ha => by rw [hno a (List.mem_range.1 ha)]; rfl⟩
  have e : n = k + (n - k - 1 + 1) := by omega
  conv => lhs; rw [e, List.range_add]
  rw [List.range_succ_eq_map, List.map_cons, List.map_map]
  congr 2
  apply List.map_congr_left
  intro x _
  simp; omega
theorem mate_some {F : List Nat} {n m k : Nat} (hk : k < n) (h : mateP F n m k = true) (hno : ∀ j, j < k → mateP F n m j = false) : mateB F n m = some k := find_range hk h hno
theorem mate_none {F : List Nat} {n m : Nat} (hno : ∀ j, j < n → mateP F n m j = false) : mateB F n m = none := by
  unfold mateB
  rw [List.find?_eq_none]
  intro x hx h
  have := hno x (List.mem_range.1 hx)
  unfold mateP at this
  rw [this] at h; cases h
theorem most0_ok (wb mb : Nat) (cv qv : Value) (fit : Int) (chs : List Ch) (w b : Nat) (a0 a1 a2 a3 a4 a5 a6 : Nat) (hn7 : chs.length ≤ 7) (hF : ∀ f ∈ [a0, a1, a2, a3, a4, a5, a6], f < 128) (hw : w ≤ 7) (hbits : ∀ x, b.testBit x = true → x < chs.length) (es : Array MapEntry) (clock : Nat) (M : List (Ints 8 × Int)) (D : Data) (hS : Sl D RCh 4 cv chs) (hM : MapG kaV es M) (hok : MOk chs.length M) :
    FnM Try.prog 99 [.pointer (some ⟨wb, 0, none⟩), .agg #[.int .i64 (w : Int), .int .i64 ((b : Nat) : Int), .int .i64 (a0 : Int), .int .i64 (a1 : Int), .int .i64 (a2 : Int), .int .i64 (a3 : Int), .int .i64 (a4 : Int), .int .i64 (a5 : Int), .int .i64 (a6 : Int)]] D [(wb, .cells [cv, .int .i64 fit, qv, .map (some mb)].toArray 148 (0, 0)), (mb, .map es clock)] (fun _ v ν' => v = .int .i64 ((w + nuB [a0, a1, a2, a3, a4, a5, a6] chs.length b : Nat) : Int) ∧ ∃ es' clock' M', ν' = [(wb, .cells [cv, .int .i64 fit, qv, .map (some mb)].toArray 148 (0, 0)), (mb, .map es' clock')] ∧ MapG kaV es' M' ∧ MOk chs.length M') := by
  have hbl := bits_lt hbits hn7
  have hnl := nuB_le [a0, a1, a2, a3, a4, a5, a6] chs.length b
  refine enterMany 15 Try.func99 rfl rfl rfl rfl (fun h0 hwl hwn => ?_)
  refine C.seq ?_
  refine C.region [(false,0),(false,1)] rfl ?_
  refine L.boxD rfl rfl rfl rfl trivial (fun q1 E1 hE1 hB1 => ?_)
  refine L.assign rfl rfl rfl trivial ?_
  refine L.nil ?_
  refine C.next ?_
  refine C.seq ?_
  refine C.apart hB1 (by simp) (fun hq1 => ?_)
  have hq1 : q1 ∉ [wb, mb] := hq1
  refine C.draw [wb, mb] 4 [0,1,2,3,4,5,6,7,8,9,10] [false,false,true,true,true,true,true,true,true,false,false] [(false,0),(false,1),(true,2),(true,3),(true,4),(true,5),(true,6),(true,7),(true,8),(false,9),(false,10)] Tf.follows (fun _ _ _ h => np_bodyMany (P := Try.prog) (fn := Try.f99) _ _ _ h) (by kernel_rfl) rfl ?_
  refine L.fieldAddr rfl Tf.f126_0 rfl rfl trivial ?_
  refine L.loadD1 rfl (k := 0) Tf.a3 rfl hB1 (by first | simp | assumption) rfl (by first | assumption | simp) rfl trivial ?_
  refine L.move rfl rfl rfl trivial ?_
  refine L.fieldAddr rfl Tf.f126_1 rfl rfl trivial ?_
  refine L.loadD1 rfl (k := 1) Tf.a3 rfl hB1 (by first | simp | assumption) rfl (by first | assumption | simp) rfl trivial ?_
  refine L.fieldAddr rfl Tf.f126_2 rfl rfl trivial ?_
  refine L.loadDP rfl (k := 2) (us := [.int .i64 (a0 : Int), .int .i64 (a1 : Int), .int .i64 (a2 : Int), .int .i64 (a3 : Int), .int .i64 (a4 : Int), .int .i64 (a5 : Int), .int .i64 (a6 : Int)]) Tf.a124 Tf.s124 rfl hB1 (by first | simp | assumption) rfl rfl (by first | assumption | simp) rfl trivial ?_
  refine L.build (cs := [.int .i64 ((b : Nat) : Int), .int .i64 (a0 : Int), .int .i64 (a1 : Int), .int .i64 (a2 : Int), .int .i64 (a3 : Int), .int .i64 (a4 : Int), .int .i64 (a5 : Int), .int .i64 (a6 : Int)]) rfl Tf.p162 Tf.z162 rfl (by kernel_rfl) rfl trivial ?_
  refine L.callM (A := []) (ν := [(_, _), (_, _)]) (B := []) rfl rfl rfl rfl (by first | exact Or.inl rfl | exact Or.inr (fun p hp => List.mem_map.2 ⟨p, hp, rfl⟩)) (unf_w (cs := [_, _, _, _])) (fun D5 hD5 => pairs_ok wb mb cv qv fit chs a0 a1 a2 a3 a4 a5 a6 hn7 hF _ b rfl hbits es clock M D5 (hS.up RCh.up (hD5 _ (by simp))) hM hok) rfl trivial (fun v5 D6 _ hD6 hp5 => ?_)
  obtain ⟨rfl, es1, cl1, M1, rfl, hM1, hok1⟩ := hp5
  refine L.add rfl rfl rfl (by simp only [inK]; omega) rfl trivial ?_
  refine L.assign rfl rfl rfl trivial ?_
  refine L.nil ?_
  refine C.next ?_
  refine C.ret ?_
  exact leaveMany (A := []) (ν' := [_, _]) (B := []) (vs := [_]) rfl rfl rfl ⟨rfl, trivial⟩ rfl (fun D hD => ⟨by show Value.int _ _ = _; congr 1, es1, cl1, M1, rfl, hM1, hok1⟩)
theorem most_ok (wb mb : Nat) (cv qv : Value) (fit : Int) (chs : List Ch) (s : Sc) (hn7 : chs.length ≤ 7) (hs : ScOk chs.length s) (es : Array MapEntry) (clock : Nat) (M : List (Ints 8 × Int)) (D : Data) (hS : Sl D RCh 4 cv chs) (hM : MapG kaV es M) (hok : MOk chs.length M) :
    FnM Try.prog 99 [.pointer (some ⟨wb, 0, none⟩), scV s] D [(wb, .cells [cv, .int .i64 fit, qv, .map (some mb)].toArray 148 (0, 0)), (mb, .map es clock)] (fun _ v ν' => v = .int .i64 (mostS chs.length s : Int) ∧ ∃ es' clock' M', ν' = [(wb, .cells [cv, .int .i64 fit, qv, .map (some mb)].toArray 148 (0, 0)), (mb, .map es' clock')] ∧ MapG kaV es' M' ∧ MOk chs.length M') := by
  obtain ⟨w, b, F⟩ := s
  obtain ⟨a0, a1, a2, a3, a4, a5, a6, rfl⟩ := list7 hs.len
  exact most0_ok wb mb cv qv fit chs w b a0 a1 a2 a3 a4 a5 a6 hn7 hs.row hs.whole hs.bits es clock M D hS hM hok
theorem pairing0_ok (wb mb : Nat) (cv qv : Value) (fit : Int) (chs : List Ch) (w b : Nat) (a0 a1 a2 a3 a4 a5 a6 : Nat) (hn7 : chs.length ≤ 7) (hF : ∀ f ∈ [a0, a1, a2, a3, a4, a5, a6], f < 128) (hbits0 : ∀ x, b.testBit x = true → x < chs.length) (es0 : Array MapEntry) (clock0 : Nat) (M0 : List (Ints 8 × Int)) (D : Data) (hS : Sl D RCh 4 cv chs) (hM0 : MapG kaV es0 M0) (hok0 : MOk chs.length M0) :
    FnM Try.prog 76 [.pointer (some ⟨wb, 0, none⟩), .agg #[.int .i64 (w : Int), .int .i64 ((b : Nat) : Int), .int .i64 (a0 : Int), .int .i64 (a1 : Int), .int .i64 (a2 : Int), .int .i64 (a3 : Int), .int .i64 (a4 : Int), .int .i64 (a5 : Int), .int .i64 (a6 : Int)]] D [(wb, .cells [cv, .int .i64 fit, qv, .map (some mb)].toArray 148 (0, 0)), (mb, .map es0 clock0)] (fun D' v ν' => Sl D' R2 2 v (pI (pairB [a0, a1, a2, a3, a4, a5, a6] chs.length b)) ∧ ∃ es' clock' M', ν' = [(wb, .cells [cv, .int .i64 fit, qv, .map (some mb)].toArray 148 (0, 0)), (mb, .map es' clock')] ∧ MapG kaV es' M' ∧ MOk chs.length M') := by
  have hl1 := hS.len
  have hbl := bits_lt hbits0 hn7
  have hnb := nuB_le [a0, a1, a2, a3, a4, a5, a6] chs.length b
  have hpl := (pairB_ok b b (Nat.le_refl _) hbits0 (F := [a0, a1, a2, a3, a4, a5, a6])).2.1
  refine enterMany 72 Try.func76 rfl rfl rfl rfl (fun h0 hwl hwn => ?_)
  refine C.seq ?_
  refine C.region [(false,0),(false,1)] rfl ?_
  refine L.boxD rfl rfl rfl rfl trivial (fun q1 E1 hE1 hB1 => ?_)
  refine L.assign rfl rfl rfl trivial ?_
  refine L.nil ?_
  refine C.next ?_
  refine C.seq ?_
  refine C.region [(false,0),(false,1),(false,2)] rfl ?_
  refine L.fieldAddr rfl Tf.f126_1 rfl rfl trivial ?_
  refine L.loadD1 rfl (k := 1) Tf.a3 rfl hB1 (by first | simp | assumption) rfl List.not_mem_nil rfl trivial ?_
  refine L.assign rfl rfl rfl trivial ?_
  refine L.nil ?_
  refine C.next ?_
  refine C.seq ?_
  refine C.block ?_
  refine C.loopR (γ := Nat × Array MapEntry × Nat × List (Ints 8 × Int) × Value × Boxes × List (Nat × Nat)) (fun g => g.1) (fun g => (∀ x, g.1.testBit x = true → x < chs.length) ∧ MapG kaV g.2.1 g.2.2.2.1 ∧ MOk chs.length g.2.2.2.1 ∧ Acc 111 2 g.2.2.2.2.1 g.2.2.2.2.2.2.length (prC (pI g.2.2.2.2.2.2)) g.2.2.2.2.2.1 ∧ pairB [a0, a1, a2, a3, a4, a5, a6] chs.length b = g.2.2.2.2.2.2 ++ pairB [a0, a1, a2, a3, a4, a5, a6] chs.length g.1) (fun g => [(5, .int .i64 (g.1 : Int)), (4, g.2.2.2.2.1)]) [(3, _), (0, _)] (fun g => g.2.2.2.2.2.1 ++ [(wb, .cells [cv, .int .i64 fit, qv, .map (some mb)].toArray 148 (0, 0)), (mb, .map g.2.1 g.2.2.1)]) (fun g => [E1, D]) (b, es0, clock0, M0, .slice none 0 0, [], []) ⟨hbits0, hM0, hok0, by simpa [prC, pI] using Acc.nil, by simp⟩ ⟨(by first | rfl | (show some (Value.int _ _) = some (Value.int _ _); congr 2; omega)), (by first | rfl | (show some (Value.int _ _) = some (Value.int _ _); congr 2; omega)), trivial⟩ ⟨rfl, rfl, trivial⟩ (List.Sublist.refl _) (ds_same) ?_
  rintro ⟨m, es, clock, M, v, ν, l⟩ ⟨hbits, hM, hok, ha, hpp⟩
  simp only at hbits hM hok ha hpp
  have hmb := bits_lt hbits hn7
  have hlen : l.length ≤ 200 := by have := congrArg List.length hpp; rw [hpl, List.length_append] at this; omega
  refine C.seq ?_
  refine C.seq ?_
  refine C.region [(false,0),(false,1)] rfl ?_
  refine L.move rfl rfl rfl trivial ?_
  refine L.neq rfl rfl rfl rfl trivial ?_
  refine L.nil ?_
  refine C.next ?_
  refine C.condD rfl (fun hc1 => ?_) (fun hc1 => ?_)
  · have hm0 : m ≠ 0 := by omega
    have hlow := low_spec hm0
    have hlown := hbits _ hlow.1
    have hlow7 : low m < 7 := by omega
    have hp2 := pow_lt7 hlow7
    have hlt := bit_lt hlow.1
    have hrest := dif_le m (2 ^ low m)
    refine C.skip ?_
    refine C.next ?_
    refine C.block ?_
    refine C.seq ?_
    refine C.region [(false,0),(false,1),(false,2)] rfl ?_
    refine L.move rfl rfl rfl trivial ?_
    refine L.callV rfl rfl rfl (fun D1 hD1 => lowest_ok m (low m) _ hlow.1 (by omega) hlow.2) rfl trivial ?_
    refine L.assign rfl rfl rfl trivial ?_
    refine L.nil ?_
    refine C.next ?_
    refine C.seq ?_
    refine C.region [(false,0),(false,1),(false,2),(false,3),(false,4)] rfl ?_
    refine L.move rfl rfl rfl trivial ?_
    refine L.move rfl rfl rfl trivial ?_
    refine L.shl1 rfl rfl rfl (by first | omega | (simp only; omega)) rfl trivial ?_
    refine L.difN rfl rfl rfl (by first | omega | (simp only; omega)) (by first | omega | (simp only; omega)) rfl trivial ?_
    refine L.assign rfl rfl rfl trivial ?_
    refine L.nil ?_
    refine C.next ?_
    refine C.seq ?_
    refine C.region [(false,0),(false,1),(false,2),(false,3),(false,4),(false,5),(false,6)] rfl ?_
    refine L.move rfl rfl rfl trivial ?_
    refine L.move rfl rfl rfl trivial ?_
    refine L.fieldAddr rfl Tf.f126_2 rfl rfl trivial ?_
    refine L.loadDP rfl (k := 2) (us := [.int .i64 (a0 : Int), .int .i64 (a1 : Int), .int .i64 (a2 : Int), .int .i64 (a3 : Int), .int .i64 (a4 : Int), .int .i64 (a5 : Int), .int .i64 (a6 : Int)]) Tf.a124 Tf.s124 rfl hB1 (by first | simp | assumption) rfl rfl List.not_mem_nil rfl trivial ?_
    refine L.build (cs := [.int .i64 ((m : Nat) : Int), .int .i64 (a0 : Int), .int .i64 (a1 : Int), .int .i64 (a2 : Int), .int .i64 (a3 : Int), .int .i64 (a4 : Int), .int .i64 (a5 : Int), .int .i64 (a6 : Int)]) rfl Tf.p162 Tf.z162 rfl (by kernel_rfl) rfl trivial ?_
    refine L.callMA (A := ν) (ν := [(_, _), (_, _)]) rfl rfl rfl rfl (by first | exact Or.inl rfl | exact Or.inr (fun p hp => List.mem_map.2 ⟨p, hp, rfl⟩)) (unf_w (cs := [_, _, _, _])) (fun D5 hD5 => pairs_ok wb mb cv qv fit chs a0 a1 a2 a3 a4 a5 a6 hn7 hF _ m rfl hbits es clock M _ (hS.up RCh.up (hD5 _ (by simp))) hM hok) rfl trivial (fun v5 D6 _ hD6 hp5 => ?_)
    obtain ⟨rfl, es1, cl1, M1, rfl, hM1, hok1⟩ := hp5
    refine L.assign rfl rfl rfl trivial ?_
    refine L.nil ?_
    refine C.next ?_
    refine C.seq ?_
    refine C.region [(false,0),(false,1)] rfl ?_
    refine L.move rfl rfl rfl trivial ?_
    refine L.assign rfl rfl rfl trivial ?_
    refine L.nil ?_
    refine C.next ?_
    refine C.seq ?_
    refine C.region [(false,0),(false,1),(false,2),(false,3),(false,4),(false,5),(false,6)] rfl ?_
    refine L.move rfl rfl rfl trivial ?_
    refine L.nilCheck rfl rfl rfl trivial ?_
    refine L.fieldAddr rfl Tf.f148_0 rfl rfl trivial ?_
    refine L.fieldAddr rfl Tf.f37_0 rfl rfl trivial ?_
    refine L.loadB1 rfl Tf.a34 rfl (List.mem_append_right _ (List.Mem.head _)) rfl List.not_mem_nil rfl trivial ?_
    refine L.len rfl Try.underlying34 rfl hS rfl rfl trivial ?_
    refine L.move rfl rfl rfl trivial ?_
    refine L.nil ?_
    refine C.next ?_
    refine C.block ?_
    refine C.loopR (γ := Nat × Array MapEntry × Nat × List (Ints 8 × Int)) (fun g => chs.length - g.1) (fun g => g.1 ≤ chs.length ∧ MapG kaV g.2.1 g.2.2.2 ∧ MOk chs.length g.2.2.2 ∧ ∀ j, j < g.1 → mateP [a0, a1, a2, a3, a4, a5, a6] chs.length m j = false) (fun g => [(33, .int .i64 (g.1 : Int))]) [(32, _), (31, _), (30, _), (29, _), (28, _), (27, _), (5, _), (26, _), (8, _), (25, _), (24, _), (23, _), (22, _), (21, _), (20, _), (7, _), (19, _), (18, _), (17, _), (16, _), (6, _), (15, _), (14, _), (13, _), (12, _), (4, _), (3, _), (0, _)] (fun g => ν ++ [(wb, .cells [cv, .int .i64 fit, qv, .map (some mb)].toArray 148 (0, 0)), (mb, .map g.2.1 g.2.2.1)]) (fun g => [D6, E1, D]) (0, es1, cl1, M1) ⟨by simp, hM1, hok1, by simp⟩ ⟨(by first | rfl | (show some (Value.int _ _) = some (Value.int _ _); congr 2; omega)), trivial⟩ ⟨rfl, rfl, rfl, rfl, rfl, rfl, rfl, rfl, rfl, rfl, rfl, rfl, rfl, rfl, rfl, rfl, rfl, rfl, rfl, rfl, rfl, rfl, rfl, rfl, rfl, rfl, rfl, rfl, trivial⟩ (List.Sublist.refl _) (ds_same) ?_
    rintro ⟨k, es2, cl2, M2⟩ ⟨h1, hM2, hok2, hno⟩
    simp only at h1 hM2 hok2 hno
    refine C.seq ?_
    refine C.region [(false,0)] rfl ?_
    refine L.lss rfl rfl rfl rfl trivial ?_
    refine L.nil ?_
    refine C.next ?_
    refine C.seq ?_
    refine C.condD rfl (fun hc2 => ?_) (fun hc2 => ?_)
    · have hk : k < chs.length := by omega
      have hpk := pow_lt7 (show k < 7 by omega)
      have hrow := row_lt hF (low m)
      have hdl := dif_le (dif m (2 ^ low m)) (2 ^ k)
      have hnl := nuB_le [a0, a1, a2, a3, a4, a5, a6] chs.length (dif (dif m (2 ^ low m)) (2 ^ k))
      have hand := Nat.and_le_left (n := dif m (2 ^ low m)) (m := [a0, a1, a2, a3, a4, a5, a6].getD (low m) 0)
      refine C.skip ?_
      refine C.next ?_
      refine C.seq ?_
      refine C.block ?_
      refine C.seq ?_
      refine C.region [(false,0),(false,1)] rfl ?_
      refine L.move rfl rfl rfl trivial ?_
      refine L.assign rfl rfl rfl trivial ?_
      refine L.nil ?_
      refine C.next ?_
      refine C.seq ?_
      refine C.apart hB1 (by simp) (fun hq1 => ?_)
      have hq1 : q1 ∉ [wb, mb] := fun h => hq1 (by rw [Boxes.ks, List.map_append]; exact List.mem_append_right _ h)
      refine C.draw [wb, mb] 8 [0,1,2,3,4,5,6,7,8,9,10,11,12,13,14,15,16,17,18,19,20,21,22,23] [false,true,true,true,true,false,true,false,false,false,false,false,true,true,true,true,true,true,true,true,true,true,false,false] [(false,0),(true,1),(true,2),(true,3),(true,4),(false,5),(true,6),(false,7),(false,8),(false,9),(false,10),(false,11),(true,12),(true,13),(true,14),(true,15),(true,16),(true,17),(true,18),(true,19),(true,20),(true,21),(false,22),(false,23)] Tf.follows (fun _ _ _ h => np_bodyMany (P := Try.prog) (fn := Try.f76) _ _ _ h) (by kernel_rfl) rfl ?_
      refine L.move rfl rfl rfl trivial ?_
      refine L.move rfl rfl rfl trivial ?_
      refine L.fieldAddr rfl Tf.f126_2 rfl rfl trivial ?_
      refine L.indexA rfl Try.underlying124 Tf.s3 rfl rfl (by omega) (by omega) rfl trivial ?_
      refine L.loadD1 (o := 0 + 1 + 1) (k := low m * 1) rfl Tf.a3 rfl hB1.tail.tail (by simp) (sp_row a0 a1 a2 a3 a4 a5 a6 hlow7) (by first | assumption | simp) rfl trivial ?_
      refine L.andN rfl rfl rfl (by first | omega | (simp only; omega)) (by first | omega | (simp only; omega)) rfl trivial ?_
      refine L.move rfl rfl rfl trivial ?_
      refine L.shrN rfl rfl rfl (by first | omega | (simp only; omega)) rfl trivial ?_
      refine L.rem rfl rfl rfl (Int.natCast_nonneg _) (by omega) (by rw [bit_mod]; split <;> simp only [inK] <;> omega) rfl trivial ?_
      refine L.eql rfl rfl rfl rfl trivial ?_
      refine L.move rfl rfl rfl trivial ?_
      refine L.andM (γ := Bool × Array MapEntry × Nat × List (Ints 8 × Int)) (fun g => g.1 = mateP [a0, a1, a2, a3, a4, a5, a6] chs.length m k ∧ MapG kaV g.2.1 g.2.2.2 ∧ MOk chs.length g.2.2.2) (fun g => g.1) (fun g => ν ++ [(wb, .cells [cv, .int .i64 fit, qv, .map (some mb)].toArray 148 (0, 0)), (mb, .map g.2.1 g.2.2.1)]) [(false,11),(true,12),(true,13),(true,14),(true,15),(true,16),(true,17),(true,18),(true,19),(true,20),(true,21),(false,22),(false,23)] [] (s := 46) (p := 59) rfl rfl (fun hg1 => ?_) (fun hg1 => ?_) ?_
      · refine L.move rfl rfl rfl ⟨_, rfl, rfl⟩ ?_
        refine L.move rfl rfl rfl ⟨_, rfl, rfl⟩ ?_
        refine L.move rfl rfl rfl ⟨_, rfl, rfl⟩ ?_
        refine L.move rfl rfl rfl ⟨_, rfl, rfl⟩ ?_
        refine L.shl1 rfl rfl rfl (by first | omega | (simp only; omega)) rfl ⟨_, rfl, rfl⟩ ?_
        refine L.difN rfl rfl rfl (by first | omega | (simp only; omega)) (by first | omega | (simp only; omega)) rfl ⟨_, rfl, rfl⟩ ?_
        refine L.fieldAddr rfl Tf.f126_2 rfl rfl ⟨_, rfl, rfl⟩ ?_
        refine L.loadDP rfl (k := 2) (us := [.int .i64 (a0 : Int), .int .i64 (a1 : Int), .int .i64 (a2 : Int), .int .i64 (a3 : Int), .int .i64 (a4 : Int), .int .i64 (a5 : Int), .int .i64 (a6 : Int)]) Tf.a124 Tf.s124 rfl hB1 (by first | simp | assumption) rfl rfl (by first | assumption | simp) rfl ⟨_, rfl, rfl⟩ ?_
        refine L.build (cs := [.int .i64 ((dif (dif m (2 ^ low m)) (2 ^ k) : Nat) : Int), .int .i64 (a0 : Int), .int .i64 (a1 : Int), .int .i64 (a2 : Int), .int .i64 (a3 : Int), .int .i64 (a4 : Int), .int .i64 (a5 : Int), .int .i64 (a6 : Int)]) rfl Tf.p162 Tf.z162 rfl (by kernel_rfl) rfl ⟨_, rfl, rfl⟩ ?_
        refine L.callMA (A := ν) (ν := [(_, _), (_, _)]) rfl rfl rfl rfl (by first | exact Or.inl rfl | exact Or.inr (fun p hp => List.mem_map.2 ⟨p, hp, rfl⟩)) (unf_w (cs := [_, _, _, _])) (fun D7 hD7 => pairs_ok wb mb cv qv fit chs a0 a1 a2 a3 a4 a5 a6 hn7 hF _ (dif (dif m (2 ^ low m)) (2 ^ k)) rfl (bits_dif (bits_dif hbits)) es2 cl2 M2 _ (hS.up RCh.up (hD7 _ (by simp))) hM2 hok2) rfl ⟨_, rfl, rfl⟩ (fun v7 D8 _ hD8 hp7 => ?_)
        obtain ⟨rfl, es3, cl3, M3, rfl, hM3, hok3⟩ := hp7
        refine L.add rfl rfl rfl (by simp only [inK]; omega) rfl ⟨_, rfl, rfl⟩ ?_
        refine L.eql rfl rfl rfl rfl ⟨_, rfl, rfl⟩ ?_
        refine L.pickT rfl rfl rfl rfl trivial ?_
        exact L.nil fun a w hh => ⟨(_, es3, cl3, M3), ⟨mate_yes hg1, hM3, hok3⟩, (hh.cutK 12 rfl).ds (fun _ h => List.Mem.tail _ (h))⟩
      · refine L.pass rfl rfl rfl ⟨_, _, rfl, rfl, rfl⟩ ?_
        refine L.pass rfl rfl rfl ⟨_, _, rfl, rfl, rfl⟩ ?_
        refine L.pass rfl rfl rfl ⟨_, _, rfl, rfl, rfl⟩ ?_
        refine L.pass rfl rfl rfl ⟨_, _, rfl, rfl, rfl⟩ ?_
        refine L.pass rfl rfl rfl ⟨_, _, rfl, rfl, rfl⟩ ?_
        refine L.pass rfl rfl rfl ⟨_, _, rfl, rfl, rfl⟩ ?_
        refine L.pass rfl rfl rfl ⟨_, _, rfl, rfl, rfl⟩ ?_
        refine L.pass rfl rfl rfl ⟨_, _, rfl, rfl, rfl⟩ ?_
        refine L.pass rfl rfl rfl ⟨_, _, rfl, rfl, rfl⟩ ?_
        refine L.pass rfl rfl rfl ⟨_, _, rfl, rfl, rfl⟩ ?_
        refine L.pass rfl rfl rfl ⟨_, _, rfl, rfl, rfl⟩ ?_
        refine L.pass rfl rfl rfl ⟨_, _, rfl, rfl, rfl⟩ ?_
        refine L.pickF rfl rfl rfl rfl trivial ?_
        exact L.nil fun a w hh => ⟨(false, es2, cl2, M2), ⟨mate_no hg1, hM2, hok2⟩, hh.cutK 12 rfl⟩
      rintro ⟨bm, es3, cl3, M3⟩ ⟨hmj, hM3, hok3⟩
      simp only at hmj hM3 hok3
      refine L.nil ?_
      refine C.next ?_
      refine C.cond rfl (fun hc3 => ?_) (fun hc3 => ?_)
      · obtain rfl : bm = true := hc3
        have hmate := mate_some hk hmj.symm hno
        refine C.seq ?_
        refine C.region [(false,0),(false,1),(false,2),(false,3),(false,4),(false,5),(false,6)] rfl ?_
        refine L.move rfl rfl rfl trivial ?_
        refine L.move rfl rfl rfl trivial ?_
        refine L.move rfl rfl rfl trivial ?_
        refine L.build (cs := [.int .i64 (low m : Int), .int .i64 (k : Int)]) rfl Tf.p111 Tf.z111 rfl (by kernel_rfl) rfl trivial ?_
        refine L.buildSlice rfl Try.underlying30 Tf.s111 Tf.z111 rfl rfl rfl rfl (.cons rfl rfl .nil) rfl trivial (fun b901 D901 hD901 hA901 => ?_)
        refine L.append (A := []) (B := [(_, _), (_, _)]) rfl Try.underlying30 rfl rfl Tf.s111 Tf.z111 rfl Tf.i111 rfl rfl rfl ha (Src.lit hA901) (by simp) rfl (prC_len _ _ rfl) (by simp [cell1]) (by omega) (Or.inl rfl) rfl trivial (fun v7 ν7 ha7 => ?_)
        have hn7' : Acc 111 2 v7 (l.length + 1) (prC (pI (l ++ [(low m, k)]))) ν7 := by rw [pI_snoc, prC_snoc]; simpa [pI] using ha7
        refine L.assign rfl rfl rfl trivial ?_
        refine L.nil ?_
        refine C.next ?_
        refine C.seq ?_
        refine C.region [(false,0),(false,1),(false,2),(false,3),(false,4)] rfl ?_
        refine L.move rfl rfl rfl trivial ?_
        refine L.move rfl rfl rfl trivial ?_
        refine L.shl1 rfl rfl rfl (by first | omega | (simp only; omega)) rfl trivial ?_
        refine L.difN rfl rfl rfl (by first | omega | (simp only; omega)) (by first | omega | (simp only; omega)) rfl trivial ?_
        refine L.assign rfl rfl rfl trivial ?_
        refine L.nil ?_
        refine C.next ?_
        refine C.exit ?_
        refine C.blockPass rfl ?_
        refine C.thenExit ?_
        refine C.thenExit ?_
        refine C.blockExit ?_
        refine C.blockEnd ?_
        exact C.againR 54 (dif (dif m (2 ^ low m)) (2 ^ k), es3, cl3, M3, v7, ν7, l ++ [(low m, k)]) ⟨bits_dif (bits_dif hbits), hM3, hok3, by simpa using hn7', by simp only; rw [hpp, pairB_some hm0 hmate, List.append_assoc]; rfl⟩ (dif2_lt hm0) ⟨(by first | rfl | (show some (Value.int _ _) = some (Value.int _ _); congr 2; omega)), (by first | rfl | (show some (Value.int _ _) = some (Value.int _ _); congr 2; omega)), trivial⟩ rfl rfl (List.Sublist.refl _) (fun D h => ⟨D, List.Mem.tail _ (List.Mem.tail _ (h)), Le.refl D⟩)
      · obtain rfl : bm = false := hc3
        have hmj := hmj.symm
        refine C.skip ?_
        refine C.blockEnd ?_
        refine C.next ?_
        refine C.region [(false,0),(false,1)] rfl ?_
        refine L.add rfl rfl rfl (by simp only [inK]; omega) rfl trivial ?_
        refine L.move rfl rfl rfl trivial ?_
        refine L.nil ?_
        exact C.againR 18 (k + 1, es3, cl3, M3) ⟨by simp only; omega, hM3, hok3, fun j hj => by rcases Nat.lt_succ_iff_lt_or_eq.1 hj with h | rfl; exact hno j h; exact hmj⟩ (by simp only; omega) ⟨(by first | rfl | (show some (Value.int _ _) = some (Value.int _ _); congr 2; omega)), trivial⟩ rfl rfl (List.Sublist.refl _) (ds_same)
    · obtain rfl : k = chs.length := by omega
      have hmate := mate_none hno
      refine C.exit ?_
      refine C.thenExit ?_
      refine C.thenExit ?_
      refine C.blockExit ?_
      refine C.blockEnd ?_
      exact C.againR 28 (dif m (2 ^ low m), es2, cl2, M2, v, ν, l) ⟨bits_dif hbits, hM2, hok2, ha, by simp only; rw [hpp, pairB_none hm0 hmate]⟩ hlt ⟨(by first | rfl | (show some (Value.int _ _) = some (Value.int _ _); congr 2; omega)), (by first | rfl | (show some (Value.int _ _) = some (Value.int _ _); congr 2; omega)), trivial⟩ rfl rfl (List.Sublist.refl _) (fun D h => ⟨D, List.Mem.tail _ (h), Le.refl D⟩)
  · obtain rfl : m = 0 := by omega
    rw [pairB_zero, List.append_nil] at hpp
    refine C.exit ?_
    refine C.thenExit ?_
    refine C.thenExit ?_
    refine C.blockExit ?_
    refine C.next ?_
    refine C.seq ?_
    refine C.region [(false,0),(false,1)] rfl ?_
    refine L.move rfl rfl rfl trivial ?_
    refine L.assign rfl rfl rfl trivial ?_
    refine L.nil ?_
    refine C.next ?_
    refine C.ret ?_
    refine Q.freezeM (A := []) (B := [(_, _), (_, _)]) ha (fun k hk => hk) (fun D2 hD2 hF2 => ?_)
    exact leaveMany (A := []) (ν' := [_, _]) (B := []) (vs := [_]) rfl rfl rfl ⟨rfl, trivial⟩ rfl (fun D hD => ⟨by rw [hpp]; exact (hF2.prs (by simp [pI]) (by omega)).up R2.up (hD _ (by simp)), es, clock, M, rfl, hM, hok⟩)
end Go.Fs
namespace Go.Fs
open Go.Proofs
open C7
structure YOk (y : YardD) : Prop where
  len : y.chairs.length ≤ 7
  cls : y.claims.length ≤ 5
  fit : 0 ≤ y.fit ∧ y.fit ≤ 9
  size : ∀ c ∈ y.chairs, 0 ≤ c.size ∧ c.size ≤ 9
  part : ∀ c ∈ y.chairs, ∀ n ∈ c.parts.l, 0 ≤ n ∧ n ≤ 2
  claim : ∀ r ∈ y.claims, 0 ≤ r.1 ∧ r.1 ≤ r.2 ∧ r.2 ≤ 7
  unk : unknown y.chairs ≤ 8
theorem yOk {y : YardD} (h : fault y = 0) : YOk y := by
  unfold fault at h
  split at h
  · omega
  · rename_i h1
    split at h
    · omega
    · rename_i h2
      split at h
      · omega
      · rename_i h3
        have h4 : yardOk y = true := by simpa using h2
        simp only [yardOk, Bool.and_eq_true, List.all_eq_true, inB_iff] at h4
        obtain ⟨⟨h5, h6⟩, h7⟩ := h4
        refine ⟨by omega, by omega, h5, fun c hc => ?_, fun c hc n hn => ?_, fun r hr => ?_, by omega⟩
        · have := h6 c hc; simp only [chairOk, Bool.and_eq_true, inB_iff] at this; exact this.1
        · have := h6 c hc; simp only [chairOk, Bool.and_eq_true, ptsOk, List.all_eq_true] at this
          exact inB_iff.1 (this.2 n hn)
        · have := h7 r hr; simp only [claimOk, Bool.and_eq_true, decide_eq_true_eq] at this; exact ⟨this.1.1, this.1.2, this.2⟩
theorem truthOk {y : YardD} {t : List Pt} (h : isTruth y t = true) : t.length = y.chairs.length ∧ ∀ p ∈ t, Bits1 p := by
  unfold isTruth at h
  simp only [Bool.and_eq_true, decide_eq_true_eq, List.all_eq_true] at h
  refine ⟨h.1, fun p hp => ?_⟩
  obtain ⟨i, hi⟩ := List.mem_iff_getElem?.1 hp
  obtain ⟨hlt, _⟩ := List.getElem?_eq_some_iff.1 hi
  have hc : y.chairs[i]? = some (y.chairs[i]'(by omega)) := List.getElem?_eq_getElem _
  have := h.2 (y.chairs[i]'(by omega), p) (List.mem_of_getElem? (i := i) (by rw [List.getElem?_zip_eq_some]; exact ⟨hc, hi⟩))
  simp only [ptsIs, Pt.l, List.zip_cons_cons, List.zip_nil_left, List.all_cons, List.all_nil, Bool.and_true, Bool.and_eq_true, partIs, inB_iff] at this
  exact ⟨this.1.1, this.2.1.1, this.2.2.1⟩
/-- A claim is right, or left out. -/
def rightAt (cl : List (Int × Int)) (out : List Int) (n : Int) (i : Nat) : Bool := (out.any fun x => decide ((i : Int) = x)) || (match cl[i]? with | some r => inB n r.1 r.2 | none => true)
def rightO (cl : List (Int × Int)) (out : List Int) (n : Int) : Bool := (List.range cl.length).all (rightAt cl out n)
theorem right_yes {cl : List (Int × Int)} {out : List Int} {n : Int} {i : Nat} {r : Int × Int} (hr : cl[i]? = some r) (h : ((!out.any fun x => decide ((i : Int) = x)) && !inB n r.1 r.2) = false) : rightAt cl out n i = true := by
  unfold rightAt; rw [hr]; revert h
  cases out.any fun x => decide ((i : Int) = x) <;> simp
theorem right_no {cl : List (Int × Int)} {out : List Int} {n : Int} {i : Nat} {r : Int × Int} (hi : i < cl.length) (hr : cl[i]? = some r) (h : ((!out.any fun x => decide ((i : Int) = x)) && !inB n r.1 r.2) = true) : rightO cl out n = false := by
  unfold rightO
  rw [List.all_eq_false]
  refine ⟨i, List.mem_range.2 hi, ?_⟩
  unfold rightAt; rw [hr]; revert h
  cases out.any fun x => decide ((i : Int) = x) <;> simp
theorem right_all {cl : List (Int × Int)} {out : List Int} {n : Int} (h : ∀ j, j < cl.length → rightAt cl out n j = true) : rightO cl out n = true := by
  unfold rightO; rw [List.all_eq_true]; exact fun j hj => h j (List.mem_range.1 hj)
def mostT (y : YardD) (t : List Pt) : Nat := mostS y.chairs.length (sceneD y t)
/-- What Play returns. -/
def playV (y : YardD) (t : List Pt) : Int × Int := if fault y ≠ 0 then (0, fault y) else if isTruth y t = true then ((mostT y t : Nat), 0) else (0, 2)
def pairsV (y : YardD) (t : List Pt) : List (Int × Int) := if (playV y t).2 = 0 then pI (pairB (sceneD y t).fits y.chairs.length (sceneD y t).broken) else []
theorem play_ok {y : YardD} {t : List Pt} (h : (playV y t).2 = 0) : fault y = 0 ∧ isTruth y t = true := by
  unfold playV at h
  split at h
  · rename_i hf; exact absurd h hf
  · rename_i hf
    split at h
    · rename_i ht; exact ⟨by omega, ht⟩
    · simp at h
theorem pairing_ok (wb mb : Nat) (cv qv : Value) (fit : Int) (chs : List Ch) (s : Sc) (hn7 : chs.length ≤ 7) (hs : ScOk chs.length s) (es : Array MapEntry) (clock : Nat) (M : List (Ints 8 × Int)) (D : Data) (hS : Sl D RCh 4 cv chs) (hM : MapG kaV es M) (hok : MOk chs.length M) :
    FnM Try.prog 76 [.pointer (some ⟨wb, 0, none⟩), scV s] D [(wb, .cells [cv, .int .i64 fit, qv, .map (some mb)].toArray 148 (0, 0)), (mb, .map es clock)] (fun D' v ν' => Sl D' R2 2 v (pI (pairB s.fits chs.length s.broken)) ∧ ∃ es' clock' M', ν' = [(wb, .cells [cv, .int .i64 fit, qv, .map (some mb)].toArray 148 (0, 0)), (mb, .map es' clock')] ∧ MapG kaV es' M' ∧ MOk chs.length M') := by
  obtain ⟨w, b, F⟩ := s
  obtain ⟨a0, a1, a2, a3, a4, a5, a6, rfl⟩ := list7 hs.len
  exact pairing0_ok wb mb cv qv fit chs w b a0 a1 a2 a3 a4 a5 a6 hn7 hs.row hs.bits es clock M D hS hM hok
theorem work_ok (yv : Value) (y : YardD) (cv qv : Value) (D : Data) (hy : yv = .agg #[cv, .int .i64 y.fit, qv]) : FnO Try.prog 75 #[yv] D (fun _ v ν => ∃ wb mb, v = .pointer (some ⟨wb, 0, none⟩) ∧ ν = [(wb, .cells [cv, .int .i64 y.fit, qv, .map (some mb)].toArray 148 (0, 0)), (mb, .map #[] 0)]) := by
  subst hy
  refine enterO 7 Try.func75 rfl rfl rfl rfl fun h0 => ?_
  refine C.seq ?_
  refine C.region [(false,0),(false,1)] rfl ?_
  refine L.boxD rfl rfl rfl rfl trivial (fun q1 E1 hE1 hB1 => ?_)
  refine L.assign rfl rfl rfl trivial ?_
  refine L.nil ?_
  refine C.next ?_
  refine C.seq ?_
  refine C.region [(false,0),(false,1),(false,2),(false,3),(false,4)] rfl ?_
  refine L.loadDW rfl Tf.a37 rfl hB1 (by first | simp | assumption) Tf.s37 List.not_mem_nil rfl trivial ?_
  refine L.makeMap rfl rfl trivial (fun qm => ?_)
  refine L.build (cs := [cv, .int .i64 y.fit, qv, .map (some qm)]) rfl Tf.p148 Tf.z148 rfl rfl rfl trivial ?_
  refine L.box rfl (e := 148) rfl rfl rfl trivial (fun q2 => ?_)
  refine L.assign rfl rfl rfl trivial ?_
  refine L.nil ?_
  refine C.next ?_
  refine C.ret ?_
  exact leave (vs := [_]) rfl rfl rfl ⟨rfl, trivial⟩ (fun D hD => ⟨_, _, rfl, rfl⟩)
theorem Index_ok (sv : Value) (xs : List Int) (n : Int) (D : Data) (hS : Sl D RI 1 sv xs) : Fn Try.prog 124 #[sv, .int .i64 n] D (fun _ v => v = .int .i64 (idxOf (fun x => decide (n = x)) xs)) := by
  have hl := hS.len
  refine enter 19 Try.func124 rfl rfl rfl rfl fun h0 => ?_
  refine C.seq ?_
  refine C.region [(false,0)] rfl ?_
  refine L.assign rfl rfl rfl trivial ?_
  refine L.nil ?_
  refine C.next ?_
  refine C.seq ?_
  refine C.seq ?_
  refine C.region [(false,0),(false,1),(false,2)] rfl ?_
  refine L.move rfl rfl rfl trivial ?_
  refine L.len rfl Try.underlying52 rfl (by assumption) rfl rfl trivial ?_
  refine L.move rfl rfl rfl trivial ?_
  refine L.nil ?_
  refine C.next ?_
  refine C.block ?_
  refine C.loopC (γ := Nat) (fun k => xs.length - k) (fun k => k ≤ xs.length ∧ (xs.take k).any (fun x => decide (n = x)) = false) (fun k => [(8, .int .i64 k)]) [(7, _), (4, _), (0, _), (1, _)] (fun k => [D]) 0 (by simp) ⟨(by first | rfl | (show some (Value.int _ _) = some (Value.int _ _); congr 2; omega)), trivial⟩ ⟨rfl, rfl, rfl, rfl, trivial⟩ (ds_same) ?_
  rintro k ⟨h1, h2⟩
  refine C.seq ?_
  refine C.region [(false,0)] rfl ?_
  refine L.lss rfl rfl rfl rfl trivial ?_
  refine L.nil ?_
  refine C.next ?_
  refine C.seq ?_
  refine C.condD rfl (fun hc1 => ?_) (fun hc1 => ?_)
  · have hk : k < xs.length := by omega
    obtain ⟨x, hx⟩ : ∃ x, xs[k]? = some x := ⟨_, List.getElem?_eq_getElem hk⟩
    refine C.skip ?_
    refine C.next ?_
    refine C.seq ?_
    refine C.block ?_
    refine C.seq ?_
    refine C.region [(false,0),(false,1)] rfl ?_
    refine L.move rfl rfl rfl trivial ?_
    refine L.assign rfl rfl rfl trivial ?_
    refine L.nil ?_
    refine C.next ?_
    refine C.seq ?_
    refine C.region [(false,0),(false,1),(false,2),(false,3),(false,4),(false,5)] rfl ?_
    refine L.move rfl rfl rfl trivial ?_
    refine L.move rfl rfl rfl trivial ?_
    refine L.move rfl rfl rfl trivial ?_
    refine L.indexS rfl Try.underlying52 Tf.s3 rfl (by assumption) rfl (by omega) (by assumption) rfl trivial (fun b1 o1 cs1 hr1 hcl1 hA1 => ?_)
    obtain rfl : cs1 = [.int .i64 _] := hr1
    refine L.loadD1 rfl (k := 0) Tf.a3 rfl hA1 (by first | simp | assumption) rfl List.not_mem_nil rfl trivial ?_
    refine L.eql rfl rfl rfl rfl trivial ?_
    refine L.nil ?_
    refine C.next ?_
    refine C.condD rfl (fun hc2 => ?_) (fun hc2 => ?_)
    · refine C.seq ?_
      refine C.region [(false,0),(false,1)] rfl ?_
      refine L.move rfl rfl rfl trivial ?_
      refine L.assign rfl rfl rfl trivial ?_
      refine L.nil ?_
      refine C.next ?_
      refine C.ret ?_
      refine C.blockRet ?_
      refine C.thenRet ?_
      refine C.thenRet ?_
      refine C.blockRet ?_
      refine C.thenRet ?_
      exact leave (vs := [_]) rfl rfl rfl ⟨rfl, trivial⟩ (fun D hD => by show Value.int _ _ = _; rw [idxOf_at hx h2 (by simp [hc2])])
    · refine C.skip ?_
      refine C.blockEnd ?_
      refine C.next ?_
      refine C.region [(false,0),(false,1)] rfl ?_
      refine L.add rfl rfl rfl (by simp only [inK]; omega) rfl trivial ?_
      refine L.move rfl rfl rfl trivial ?_
      refine L.nil ?_
      have h3 : (xs.take (k + 1)).any (fun x => decide (n = x)) = false := by rw [List.take_add_one, hx, List.any_append, h2]; simp [hc2]
      exact C.againR 12 (k + 1) ⟨by omega, h3⟩ (by omega) ⟨(by first | rfl | (show some (Value.int _ _) = some (Value.int _ _); congr 2; omega)), trivial⟩ rfl rfl (List.Sublist.refl _) (ds_same)
  · refine C.exit ?_
    refine C.thenExit ?_
    refine C.thenExit ?_
    refine C.blockExit ?_
    refine C.next ?_
    refine C.seq ?_
    refine C.region [(false,0)] rfl ?_
    refine L.assign rfl rfl rfl trivial ?_
    refine L.nil ?_
    refine C.next ?_
    refine C.ret ?_
    exact leave (vs := [_]) rfl rfl rfl ⟨rfl, trivial⟩ (fun D hD => by show Value.int _ _ = _; rw [idxOf_none (by rwa [List.take_of_length_le (by omega)] at h2)])
theorem Contains_ok (sv : Value) (xs : List Int) (n : Int) (D : Data) (hS : Sl D RI 1 sv xs) : Fn Try.prog 114 #[sv, .int .i64 n] D (fun _ v => v = .bool (xs.any fun x => decide (n = x))) := by
  refine enter 9 Try.func114 rfl rfl rfl rfl fun h0 => ?_
  refine C.seq ?_
  refine C.region [(false,0)] rfl ?_
  refine L.assign rfl rfl rfl trivial ?_
  refine L.nil ?_
  refine C.next ?_
  refine C.seq ?_
  refine C.region [(false,0),(false,1),(false,2),(false,3),(false,4)] rfl ?_
  refine L.move rfl rfl rfl trivial ?_
  refine L.move rfl rfl rfl trivial ?_
  refine L.callV rfl rfl rfl (fun D1 hD1 => Index_ok _ xs n _ (Sl.at RI.up hD1 (by assumption) (by simp))) rfl trivial ?_
  refine L.geq rfl rfl rfl rfl trivial ?_
  refine L.assign rfl rfl rfl trivial ?_
  refine L.nil ?_
  refine C.next ?_
  refine C.ret ?_
  exact leave (vs := [_]) rfl rfl rfl ⟨rfl, trivial⟩ (fun D hD => by show Value.bool (decide _) = _; rw [idxOf_ge])
theorem right_ok (yv : Value) (y : YardD) (n : Int) (ov : Value) (out : List Int) (D : Data) (hy : YardIs D yv y) (ho : Sl D RI 1 ov out) : Fn Try.prog 101 #[yv, .int .i64 n, ov] D (fun _ v => v = .bool (rightO y.claims out n)) := by
  obtain ⟨cv, qv, rfl, hc, hq⟩ := hy
  have hl := hq.len
  refine enter 28 Try.func101 rfl rfl rfl rfl fun h0 => ?_
  refine C.seq ?_
  refine C.region [(false,0),(false,1)] rfl ?_
  refine L.boxD rfl rfl rfl rfl trivial (fun q1 E1 hE1 hB1 => ?_)
  refine L.assign rfl rfl rfl trivial ?_
  refine L.nil ?_
  refine C.next ?_
  refine C.seq ?_
  refine C.seq ?_
  refine C.region [(false,0),(false,1),(false,2),(false,3)] rfl ?_
  refine L.fieldAddr rfl Tf.f37_2 rfl rfl trivial ?_
  refine L.loadD1 rfl (k := 2) Tf.a35 rfl hB1 (by first | simp | assumption) rfl List.not_mem_nil rfl trivial ?_
  refine L.len rfl Try.underlying35 rfl hq rfl rfl trivial ?_
  refine L.move rfl rfl rfl trivial ?_
  refine L.nil ?_
  refine C.next ?_
  refine C.block ?_
  refine C.loopC (γ := Nat) (fun i => y.claims.length - i) (fun i => i ≤ y.claims.length ∧ ∀ j, j < i → rightAt y.claims out n j = true) (fun i => [(12, .int .i64 (i : Int))]) [(11, _), (10, _), (6, _), (1, _), (2, _)] (fun i => [E1, D]) 0 (by simp) ⟨(by first | rfl | (show some (Value.int _ _) = some (Value.int _ _); congr 2; omega)), trivial⟩ ⟨rfl, rfl, rfl, rfl, rfl, trivial⟩ (ds_same) ?_
  rintro i ⟨h1, h2⟩
  refine C.seq ?_
  refine C.region [(false,0)] rfl ?_
  refine L.lss rfl rfl rfl rfl trivial ?_
  refine L.nil ?_
  refine C.next ?_
  refine C.seq ?_
  refine C.condD rfl (fun hc1 => ?_) (fun hc1 => ?_)
  · have hi : i < y.claims.length := by omega
    obtain ⟨r, hr0⟩ : ∃ r, y.claims[i]? = some r := ⟨_, List.getElem?_eq_getElem hi⟩
    refine C.skip ?_
    refine C.next ?_
    refine C.seq ?_
    refine C.block ?_
    refine C.seq ?_
    refine C.region [(false,0),(false,1),(false,2),(false,3),(false,4),(false,5)] rfl ?_
    refine L.move rfl rfl rfl trivial ?_
    refine L.indexS rfl Try.underlying35 Tf.s61 rfl hq rfl (by omega) hr0 rfl trivial (fun b1 o1 cs1 hr1 hcl1 hA1 => ?_)
    obtain rfl : cs1 = [.int .i64 _, .int .i64 _] := hr1
    refine L.loadDW rfl Tf.a61 rfl hA1 (by first | simp | assumption) Tf.s61 List.not_mem_nil rfl trivial ?_
    refine L.alloc rfl Tf.z61 rfl rfl trivial (fun q2 => ?_)
    refine L.assign rfl rfl rfl trivial ?_
    refine L.storeW rfl rfl rfl rfl Tf.s61 (by first | rfl | (simp only [ints_length, *]; done) | (simp only [ints_length, *]; rfl) | (simp only [ints_length, *]; omega)) (by first | rfl | (simp only [ints_length, *]; done) | (simp only [ints_length, *]; rfl) | (simp only [ints_length, *]; omega)) (Has.head) (by first | exact ints_cell1 _ | simp [cell1]) trivial ?_
    refine L.nil ?_
    refine C.next ?_
    refine C.seq ?_
    refine C.region [(false,0),(false,1),(false,2),(false,3),(false,4),(false,5),(false,6),(false,7),(false,8),(false,9)] rfl ?_
    refine L.move rfl rfl rfl trivial ?_
    refine L.move rfl rfl rfl trivial ?_
    refine L.callV rfl rfl rfl (fun D1 hD1 => Contains_ok _ out (i : Int) _ (Sl.at RI.up hD1 (by assumption) (by simp))) rfl trivial ?_
    refine L.not rfl rfl rfl trivial ?_
    refine L.move rfl rfl rfl trivial ?_
    refine' L.and [(false,5),(false,6),(false,7),(false,8),(false,9)] [] (s := 21) (p := 26) rfl rfl (fun hg1 => ?_) (fun hg1 => ?_) ?_
    rotate_left
    · refine L.loadBW rfl Tf.a61 rfl (List.Mem.head _) Tf.s61 List.not_mem_nil rfl ⟨_, rfl, rfl⟩ ?_
      refine L.move rfl rfl rfl ⟨_, rfl, rfl⟩ ?_
      refine L.callV rfl rfl rfl (fun D2 hD2 => has_ok r n _) rfl ⟨_, rfl, rfl⟩ ?_
      refine L.not rfl rfl rfl ⟨_, rfl, rfl⟩ ?_
      refine L.pickT rfl rfl rfl rfl trivial ?_
      exact L.nil fun a w hh => hh.cutK 4 rfl
    · refine L.pass rfl rfl rfl ⟨_, _, rfl, rfl, rfl⟩ ?_
      refine L.pass rfl rfl rfl ⟨_, _, rfl, rfl, rfl⟩ ?_
      refine L.pass rfl rfl rfl ⟨_, _, rfl, rfl, rfl⟩ ?_
      refine L.pass rfl rfl rfl ⟨_, _, rfl, rfl, rfl⟩ ?_
      refine L.pickF rfl rfl rfl rfl trivial ?_
      exact L.nil fun a w hh => hh.cutK 4 rfl
    refine L.nil ?_
    refine C.next ?_
    refine C.cond rfl (fun hc2 => ?_) (fun hc2 => ?_)
    · refine C.seq ?_
      refine C.region [(false,0)] rfl ?_
      refine L.assign rfl rfl rfl trivial ?_
      refine L.nil ?_
      refine C.next ?_
      refine C.ret ?_
      refine C.blockRet ?_
      refine C.thenRet ?_
      refine C.thenRet ?_
      refine C.blockRet ?_
      refine C.thenRet ?_
      exact leave (vs := [_]) rfl rfl rfl ⟨rfl, trivial⟩ (fun D hD => by show Value.bool _ = _; rw [right_no hi hr0 hc2])
    · refine C.skip ?_
      refine C.blockEnd ?_
      refine C.next ?_
      refine C.region [(false,0),(false,1)] rfl ?_
      refine L.add rfl rfl rfl (by simp only [inK]; omega) rfl trivial ?_
      refine L.move rfl rfl rfl trivial ?_
      refine L.nil ?_
      exact C.againR 15 (i + 1) ⟨by omega, fun j hj => by rcases Nat.lt_succ_iff_lt_or_eq.1 hj with h | rfl; exact h2 j h; exact right_yes hr0 hc2⟩ (by omega) ⟨(by first | rfl | (show some (Value.int _ _) = some (Value.int _ _); congr 2; omega)), trivial⟩ rfl rfl (List.Sublist.cons _ (List.Sublist.refl _)) (ds_same)
  · obtain rfl : i = y.claims.length := by omega
    refine C.exit ?_
    refine C.thenExit ?_
    refine C.thenExit ?_
    refine C.blockExit ?_
    refine C.next ?_
    refine C.seq ?_
    refine C.region [(false,0)] rfl ?_
    refine L.assign rfl rfl rfl trivial ?_
    refine L.nil ?_
    refine C.next ?_
    refine C.ret ?_
    exact leave (vs := [_]) rfl rfl rfl ⟨rfl, trivial⟩ (fun D hD => by show Value.bool _ = _; rw [right_all h2])
theorem Play_ok (yv tv : Value) (y : YardD) (t : List Pt) (D : Data) (hy : YardIs D yv y) (ht : Sl D RP 3 tv t) : Fn Try.prog 57 #[yv, tv] D (fun _ v => v = .tuple #[.int .i64 (playV y t).1, .int .i64 (playV y t).2]) := by
  have hy0 := hy
  obtain ⟨cv, qv, rfl, hc, hq⟩ := hy
  refine enter 22 Try.func57 rfl rfl rfl rfl fun h0 => ?_
  refine C.seq ?_
  refine C.region [(false,0),(false,1),(false,2)] rfl ?_
  refine L.boxD rfl rfl rfl rfl trivial (fun q1 E1 hE1 hB1 => ?_)
  refine L.assign rfl rfl rfl trivial ?_
  refine L.assign rfl rfl rfl trivial ?_
  refine L.nil ?_
  refine C.next ?_
  refine C.seq ?_
  refine C.seq ?_
  refine C.region [(false,0),(false,1),(false,2)] rfl ?_
  refine L.loadDW rfl Tf.a37 rfl hB1 (by first | simp | assumption) Tf.s37 List.not_mem_nil rfl trivial ?_
  refine L.callV rfl rfl rfl (fun D1 hD1 => CheckYard_ok _ y _ (hy0.up (hD1 _ (by simp)))) rfl trivial ?_
  refine L.assign rfl rfl rfl trivial ?_
  refine L.nil ?_
  refine C.next ?_
  refine C.seq ?_
  refine C.region [(false,0),(false,1)] rfl ?_
  refine L.move rfl rfl rfl trivial ?_
  refine L.neq rfl rfl rfl rfl trivial ?_
  refine L.nil ?_
  refine C.next ?_
  refine C.condD rfl (fun hc1 => ?_) (fun hc1 => ?_)
  · refine C.seq ?_
    refine C.region [(false,0),(false,1),(false,2)] rfl ?_
    refine L.move rfl rfl rfl trivial ?_
    refine L.assign rfl rfl rfl trivial ?_
    refine L.assign rfl rfl rfl trivial ?_
    refine L.nil ?_
    refine C.next ?_
    refine C.ret ?_
    refine C.thenRet ?_
    exact leave (vs := [_, _]) rfl rfl rfl ⟨rfl, rfl, trivial⟩ (fun D hD => by show Value.tuple _ = _; rw [playV, if_pos hc1])
  · have hf0 : fault y = 0 := by omega
    have hyo := yOk hf0
    have hn7 := hyo.len
    refine C.skip ?_
    refine C.next ?_
    refine C.seq ?_
    refine C.seq ?_
    refine C.region [(false,0),(false,1),(false,2),(false,3)] rfl ?_
    refine L.loadDW rfl Tf.a37 rfl hB1 (by first | simp | assumption) Tf.s37 List.not_mem_nil rfl trivial ?_
    refine L.move rfl rfl rfl trivial ?_
    refine L.callV rfl rfl rfl (fun D2 hD2 => is_ok _ _ y t _ (hy0.up (hD2 _ (by simp))) (ht.up RP.up (hD2 _ (by simp)))) rfl trivial ?_
    refine L.not rfl rfl rfl trivial ?_
    refine L.nil ?_
    refine C.next ?_
    refine C.cond rfl (fun hc2 => ?_) (fun hc2 => ?_)
    · refine C.seq ?_
      refine C.region [(false,0),(false,1)] rfl ?_
      refine L.assign rfl rfl rfl trivial ?_
      refine L.assign rfl rfl rfl trivial ?_
      refine L.nil ?_
      refine C.next ?_
      refine C.ret ?_
      refine C.thenRet ?_
      exact leave (vs := [_, _]) rfl rfl rfl ⟨rfl, rfl, trivial⟩ (fun D hD => by show Value.tuple _ = _; rw [playV, if_neg hc1, if_neg (by simpa using hc2)])
    · have hit : isTruth y t = true := by simpa using hc2
      obtain ⟨htl, htb⟩ := truthOk hit
      have hsc := scene_ok' htl (by omega)
      refine C.skip ?_
      refine C.next ?_
      refine C.seq ?_
      refine C.draw [] 2 [0,2,3,1,4,5,6,7] [false,true,true,true,false,false,false,false] [(false,0),(true,2),(true,3),(true,1),(false,4),(false,5),(false,6),(false,7)] Tf.follows (fun _ _ _ h => np_body (P := Try.prog) (fn := Try.f57) _ _ _ h) (by kernel_rfl) rfl ?_
      refine L.loadDW rfl Tf.a37 rfl hB1 (by first | simp | assumption) Tf.s37 List.not_mem_nil rfl trivial ?_
      refine L.loadDW rfl Tf.a37 rfl hB1 (by first | simp | assumption) Tf.s37 List.not_mem_nil rfl trivial ?_
      refine L.move rfl rfl rfl trivial ?_
      refine L.callO (μ := _) rfl rfl rfl (fun D5 hD5 => work_ok _ y _ _ D5 rfl) rfl trivial (fun v5 D6 _ hD6 hp5 => ?_)
      obtain ⟨wb, mb, rfl, rfl⟩ := hp5
      refine L.callV rfl rfl rfl (fun D3 hD3 => scene_ok _ _ y t _ (hy0.up (hD3 _ (by simp))) (ht.up RP.up (hD3 _ (by simp))) htl (by omega) htb hyo.fit hyo.size) rfl trivial ?_
      refine L.callM (A := []) (ν := [(_, _), (_, _)]) (B := []) rfl rfl rfl rfl (by first | exact Or.inl rfl | exact Or.inr (fun p hp => List.mem_map.2 ⟨p, hp, rfl⟩)) (unf_w (cs := [_, _, _, _])) (fun D7 hD7 => most_ok wb mb _ _ y.fit y.chairs (sceneD y t) hn7 hsc #[] 0 [] _ (hc.up RCh.up (hD7 _ (by simp))) rfl MOk.nil) rfl trivial (fun v7 D8 _ hD8 hp7 => ?_)
      obtain ⟨rfl, es1, cl1, M1, rfl, hM1, hok1⟩ := hp7
      refine L.assign rfl rfl rfl trivial ?_
      refine L.assign rfl rfl rfl trivial ?_
      refine L.nil ?_
      refine C.next ?_
      refine C.ret ?_
      exact leave (vs := [_, _]) rfl rfl rfl ⟨rfl, rfl, trivial⟩ (fun D hD => by show Value.tuple _ = _; rw [playV, if_neg hc1, if_pos hit]; rfl)
theorem Pairs_ok (yv tv : Value) (y : YardD) (t : List Pt) (D : Data) (hy : YardIs D yv y) (ht : Sl D RP 3 tv t) : Fn Try.prog 22 #[yv, tv] D (fun D' v => ∃ lv, v = .tuple #[lv, .int .i64 (playV y t).2] ∧ Sl D' R2 2 lv (pairsV y t)) := by
  have hy0 := hy
  obtain ⟨cv, qv, rfl, hc, hq⟩ := hy
  refine enter 23 Try.func22 rfl rfl rfl rfl fun h0 => ?_
  refine C.seq ?_
  refine C.region [(false,0),(false,1),(false,2)] rfl ?_
  refine L.boxD rfl rfl rfl rfl trivial (fun q1 E1 hE1 hB1 => ?_)
  refine L.assign rfl rfl rfl trivial ?_
  refine L.assign rfl rfl rfl trivial ?_
  refine L.nil ?_
  refine C.next ?_
  refine C.seq ?_
  refine C.seq ?_
  refine C.region [(false,0),(false,1),(false,2),(false,3),(false,4),(false,5),(false,6),(false,7)] rfl ?_
  refine L.loadDW rfl Tf.a37 rfl hB1 (by first | simp | assumption) Tf.s37 List.not_mem_nil rfl trivial ?_
  refine L.move rfl rfl rfl trivial ?_
  refine L.callV rfl rfl rfl (fun D1 hD1 => Play_ok _ _ y t _ (hy0.up (hD1 _ (by simp))) (ht.up RP.up (hD1 _ (by simp)))) rfl trivial ?_
  refine L.move rfl rfl rfl trivial ?_
  refine L.extract rfl rfl rfl rfl trivial ?_
  refine L.extract rfl rfl rfl rfl trivial ?_
  refine L.assign rfl rfl rfl trivial ?_
  refine L.assign rfl rfl rfl trivial ?_
  refine L.nil ?_
  refine C.next ?_
  refine C.seq ?_
  refine C.region [(false,0),(false,1)] rfl ?_
  refine L.move rfl rfl rfl trivial ?_
  refine L.neq rfl rfl rfl rfl trivial ?_
  refine L.nil ?_
  refine C.next ?_
  refine C.condD rfl (fun hc1 => ?_) (fun hc1 => ?_)
  · refine C.seq ?_
    refine C.region [(false,0),(false,1),(false,2)] rfl ?_
    refine L.move rfl rfl rfl trivial ?_
    refine L.assign rfl rfl rfl trivial ?_
    refine L.assign rfl rfl rfl trivial ?_
    refine L.nil ?_
    refine C.next ?_
    refine C.ret ?_
    refine C.thenRet ?_
    exact leave (vs := [_, _]) rfl rfl rfl ⟨rfl, rfl, trivial⟩ (fun D hD => ⟨_, rfl, by rw [pairsV, if_neg hc1]; exact Sl.nil⟩)
  · obtain ⟨hf0, hit⟩ := play_ok (show (playV y t).2 = 0 by omega)
    have hyo := yOk hf0
    have hn7 := hyo.len
    obtain ⟨htl, htb⟩ := truthOk hit
    have hsc := scene_ok' htl (by omega)
    refine C.skip ?_
    refine C.next ?_
    refine C.seq ?_
    refine C.draw [] 2 [0,2,3,1,4,5,6,7] [false,true,true,true,false,false,false,false] [(false,0),(true,2),(true,3),(true,1),(false,4),(false,5),(false,6),(false,7)] Tf.follows (fun _ _ _ h => np_body (P := Try.prog) (fn := Try.f22) _ _ _ h) (by kernel_rfl) rfl ?_
    refine L.loadDW rfl Tf.a37 rfl hB1 (by first | simp | assumption) Tf.s37 List.not_mem_nil rfl trivial ?_
    refine L.loadDW rfl Tf.a37 rfl hB1 (by first | simp | assumption) Tf.s37 List.not_mem_nil rfl trivial ?_
    refine L.move rfl rfl rfl trivial ?_
    refine L.callO (μ := _) rfl rfl rfl (fun D5 hD5 => work_ok _ y _ _ D5 rfl) rfl trivial (fun v5 D6 _ hD6 hp5 => ?_)
    obtain ⟨wb, mb, rfl, rfl⟩ := hp5
    refine L.callV rfl rfl rfl (fun D2 hD2 => scene_ok _ _ y t _ (hy0.up (hD2 _ (by simp))) (ht.up RP.up (hD2 _ (by simp))) htl (by omega) htb hyo.fit hyo.size) rfl trivial ?_
    refine L.callM (A := []) (ν := [(_, _), (_, _)]) (B := []) rfl rfl rfl rfl (by first | exact Or.inl rfl | exact Or.inr (fun p hp => List.mem_map.2 ⟨p, hp, rfl⟩)) (unf_w (cs := [_, _, _, _])) (fun D7 hD7 => pairing_ok wb mb _ _ y.fit y.chairs (sceneD y t) hn7 hsc #[] 0 [] _ (hc.up RCh.up (hD7 _ (by simp))) rfl MOk.nil) rfl trivial (fun v7 D8 _ hD8 hp7 => ?_)
    obtain ⟨hS7, es1, cl1, M1, rfl, hM1, hok1⟩ := hp7
    refine L.assign rfl rfl rfl trivial ?_
    refine L.assign rfl rfl rfl trivial ?_
    refine L.nil ?_
    refine C.next ?_
    refine C.ret ?_
    exact leave (vs := [_, _]) rfl rfl rfl ⟨rfl, rfl, trivial⟩ (fun D hD => ⟨_, by show Value.tuple _ = _; rw [show (playV y t).2 = 0 by omega], by rw [pairsV, if_pos (by omega)]; exact hS7.up R2.up (hD _ (by simp))⟩)
theorem ProveTruth_ok (yv tv : Value) (y : YardD) (t : List Pt) (D : Data) (hy : YardIs D yv y) (ht : Sl D RP 3 tv t) : Fn Try.prog 66 #[yv, tv] D (fun _ v => v = .bool (decide ((playV y t).2 = 0) && rightO y.claims [] (playV y t).1)) := by
  have hy0 := hy
  obtain ⟨cv, qv, rfl, hc, hq⟩ := hy
  refine enter 20 Try.func66 rfl rfl rfl rfl fun h0 => ?_
  refine C.seq ?_
  refine C.region [(false,0),(false,1)] rfl ?_
  refine L.boxD rfl rfl rfl rfl trivial (fun q1 E1 hE1 hB1 => ?_)
  refine L.assign rfl rfl rfl trivial ?_
  refine L.nil ?_
  refine C.next ?_
  refine C.seq ?_
  refine C.region [(false,0),(false,1),(false,2),(false,3),(false,4),(false,5),(false,6),(false,7)] rfl ?_
  refine L.loadDW rfl Tf.a37 rfl hB1 (by first | simp | assumption) Tf.s37 List.not_mem_nil rfl trivial ?_
  refine L.move rfl rfl rfl trivial ?_
  refine L.callV rfl rfl rfl (fun D1 hD1 => Play_ok _ _ y t _ (hy0.up (hD1 _ (by simp))) (ht.up RP.up (hD1 _ (by simp)))) rfl trivial ?_
  refine L.move rfl rfl rfl trivial ?_
  refine L.extract rfl rfl rfl rfl trivial ?_
  refine L.extract rfl rfl rfl rfl trivial ?_
  refine L.assign rfl rfl rfl trivial ?_
  refine L.assign rfl rfl rfl trivial ?_
  refine L.nil ?_
  refine C.next ?_
  refine C.seq ?_
  refine C.region [(false,0),(false,1),(false,2),(false,3),(false,4),(false,5),(false,6),(false,7)] rfl ?_
  refine L.move rfl rfl rfl trivial ?_
  refine L.eql rfl rfl rfl rfl trivial ?_
  refine L.move rfl rfl rfl trivial ?_
  refine' L.and [(false,3),(false,4),(false,5),(false,6)] [(false,7)] (s := 15) (p := 19) rfl rfl (fun hg1 => ?_) (fun hg1 => ?_) ?_
  rotate_left
  · refine L.loadDW rfl Tf.a37 rfl hB1 (by first | simp | assumption) Tf.s37 List.not_mem_nil rfl ⟨_, rfl, rfl⟩ ?_
    refine L.move rfl rfl rfl ⟨_, rfl, rfl⟩ ?_
    refine L.callV rfl rfl rfl (fun D2 hD2 => right_ok _ y _ _ [] _ (hy0.up (hD2 _ (by simp))) Sl.nil) rfl ⟨_, rfl, rfl⟩ ?_
    refine L.pickT rfl rfl rfl rfl trivial ?_
    exact L.nil fun a w hh => hh.cutK 3 rfl
  · refine L.pass rfl rfl rfl ⟨_, _, rfl, rfl, rfl⟩ ?_
    refine L.pass rfl rfl rfl ⟨_, _, rfl, rfl, rfl⟩ ?_
    refine L.pass rfl rfl rfl ⟨_, _, rfl, rfl, rfl⟩ ?_
    refine L.pickF rfl rfl rfl rfl trivial ?_
    exact L.nil fun a w hh => hh.cutK 3 rfl
  refine L.assign rfl rfl rfl trivial ?_
  refine L.nil ?_
  refine C.next ?_
  refine C.ret ?_
  exact leave (vs := [_]) rfl rfl rfl ⟨rfl, trivial⟩ (fun D hD => rfl)
end Go.Fs
namespace Go.Fs
open Go.Proofs
open C7
/-- The blocks of 'choose', of 'out', and of the list. -/
def chooseMu (bh bc bo bY br n : Nat) (c : List Int) : Boxes := [(bh, .cells [.func (.func 122) #[] #[.pointer (some ⟨bc, 0, none⟩), .pointer (some ⟨bY, 0, none⟩), .pointer (some ⟨br, 0, none⟩), .pointer (some ⟨bh, 0, none⟩)]].toArray 170 (0, 0)), (bc, .cells [.slice (some ⟨bo, 0, none⟩) n n].toArray 39 (0, 0)), (bo, .cells (ints c).toArray 113 (0, 0))]
theorem take_pre {c pre : List Int} {i : Nat} {k : Int} (h : c.take (i + 1) = pre ++ [k]) (hl : pre.length = i) : c.take i = pre := by
  have := congrArg (List.take i) h
  rw [List.take_take, Nat.min_eq_left (Nat.le_succ i)] at this
  rw [this, List.take_append_of_le_length (by omega), List.take_of_length_le (by omega)]
def encS (n bo : Nat) : List Value := [.slice (some ⟨bo, 0, none⟩) n n]
def YieldsS (P : Program) (Dr : Data) (lo l n : Nat) (J Jx : List (List Int) → Inv) (xs : List (List Int)) : Prop := ∀ pre x β D w bo, (∃ r, xs = pre ++ x :: r) → Dom lo D w → J pre β D w → (∀ b ∈ β, b < w.heap.size) → Le Dr D → Shown β D w bo (ints x) →
        YieldRuns P l (encS n bo) w fun b D' w' => Dom lo D' w' ∧ High β D w D' w' ∧ (if b then J (pre ++ [x]) β D' w' else Jx (pre ++ [x]) β D' w')
def chooseR (J Jx : List (List Int) → Inv) (bh bc bo bY br n : Nat) (places : List Int) (pre : List Int) (i : Nat) (done : List (List Int)) (v : Value) (J' : Inv) (μ' : Boxes) : Prop :=
  ∃ b c', v = .bool b ∧ c'.length = 3 * n ∧ c'.take i = pre ∧ μ' = chooseMu bh bc bo bY br n c' ∧ (if b = true then J' = J (done ++ (C1.allT (places.drop i)).map fun t => pre ++ t) else ∃ p, J' = Jx p)
def brC (p : Int) (ps pre : List Int) (k : Nat) : List (List Int) := (List.range k).flatMap fun (m : Nat) => if p = 2 ∨ p = (m : Int) then (C1.allT ps).map (fun t => pre ++ (m : Int) :: t) else []
theorem brC_zero {p : Int} {ps pre : List Int} : brC p ps pre 0 = [] := rfl
theorem brC_no {p : Int} {ps pre : List Int} {k : Nat} (h : ¬ (p = 2 ∨ p = (k : Int))) : brC p ps pre (k + 1) = brC p ps pre k := by
  unfold brC; rw [List.range_succ, List.flatMap_append, List.flatMap_singleton, if_neg h, List.append_nil]
theorem brC_yes {p : Int} {ps pre : List Int} {k : Nat} (h : p = 2 ∨ p = (k : Int)) : brC p ps pre (k + 1) = brC p ps pre k ++ (C1.allT ps).map (fun t => (pre ++ [(k : Int)]) ++ t) := by
  unfold brC; rw [List.range_succ, List.flatMap_append, List.flatMap_singleton, if_pos h]; simp
theorem brC_two {p : Int} {ps pre : List Int} : brC p ps pre 2 = (C1.allT (p :: ps)).map (fun t => pre ++ t) := by
  rw [show C1.allT (p :: ps) = (if p = 2 ∨ p = 0 then (C1.allT ps).map (0 :: ·) else []) ++ (if p = 2 ∨ p = 1 then (C1.allT ps).map (1 :: ·) else []) from rfl]
  unfold brC
  rw [show List.range 2 = [0, 1] from rfl, List.flatMap_cons, List.flatMap_cons, List.flatMap_nil, List.append_nil, List.map_append]
  congr 1
  · by_cases h : p = 2 ∨ p = 0
    · rw [if_pos h, if_pos (by simpa using h)]; simp
    · rw [if_neg h, if_neg (by simpa using h)]; rfl
  · by_cases h : p = 2 ∨ p = 1
    · rw [if_pos h, if_pos (by simpa using h)]; simp
    · rw [if_neg h, if_neg (by simpa using h)]; rfl
theorem brC_rest {p : Int} {ps pre : List Int} {k : Nat} (hk : k < 2) : ∃ r, brC p ps pre 2 = brC p ps pre (k + 1) ++ r := by
  have e : k = 0 ∨ k = 1 := by omega
  rcases e with rfl | rfl
  · refine ⟨[1].flatMap fun (m : Nat) => if p = 2 ∨ p = (m : Int) then (C1.allT ps).map (fun t => pre ++ (m : Int) :: t) else [], ?_⟩
    unfold brC
    rw [show List.range 2 = [0] ++ [1] from rfl, List.flatMap_append]; rfl
  · exact ⟨[], by simp⟩
theorem set_take {c pre : List Int} {i : Nat} {k : Int} (hi : i < c.length) (h : c.take i = pre) : (c.set i k).take (i + 1) = pre ++ [k] := by
  rw [List.take_add_one, List.getElem?_set_self hi, Option.toList_some, List.take_set_of_le (Nat.le_refl _), h]
theorem flatC_get {l : List Ch} {i : Nat} {p : Int} (h : (flatC l)[i]? = some p) : ∃ x, l[i / 3]? = some x ∧ x.parts.l[i % 3]? = some p := by
  induction l generalizing i with
  | nil => simp [flatC] at h
  | cons c l ih =>
    rw [show flatC (c :: l) = c.parts.a :: c.parts.b :: c.parts.c :: flatC l from rfl] at h
    match i with
    | 0 => exact ⟨c, rfl, by simpa [Pt.l] using h⟩
    | 1 => exact ⟨c, rfl, by simpa [Pt.l] using h⟩
    | 2 => exact ⟨c, rfl, by simpa [Pt.l] using h⟩
    | j + 3 =>
      obtain ⟨x, h1, h2⟩ := ih (i := j) (by simpa using h)
      exact ⟨x, by rw [show (j + 3) / 3 = j / 3 + 1 by omega]; simpa using h1, by rw [show (j + 3) % 3 = j % 3 by omega]; exact h2⟩
theorem mem_bo {bh bc bo bY br n : Nat} {c : List Int} : (bo, Obj.cells (ints c).toArray 113 (0, 0)) ∈ chooseMu bh bc bo bY br n c := List.Mem.tail _ (List.Mem.tail _ (List.Mem.head _))
theorem ptr_i (i : Nat) : 0 + ((i : Int) / 3).toNat * 3 + ((i : Int) % 3).toNat * 1 = i := by omega
theorem choose_ok {lo l : Nat} {J Jx : List (List Int) → Inv} {y : YardD} {xs : List (List Int)} {Dr Dy : Data} {Ds : List Data} {bh bc bo bY br : Nat} {cv qv : Value} (hn7 : y.chairs.length ≤ 7)
    (hs : ∀ pre, Stb lo (J pre)) (hsx : ∀ pre, Stb lo (Jx pre)) (hY : YieldsS Try.prog Dr lo l y.chairs.length J Jx xs) (hDr : Dr ∈ Ds) (hDy : Dy ∈ Ds) (hA : At Dr br 0 [cv, .int .i64 y.fit, qv]) (hc : Sl Dr RCh 4 cv y.chairs) (hB : At Dy bY 0 [.func (.yield l) #[] #[]]) :
    ∀ (j i : Nat) (pre c : List Int) (done rest : List (List Int)) (iv : Int), iv = i → i + j = 3 * y.chairs.length → pre.length = i → c.length = 3 * y.chairs.length → c.take i = pre →
      xs = done ++ (C1.allT ((flatC y.chairs).drop i)).map (fun t => pre ++ t) ++ rest →
      FnJ Try.prog 122 [.int .i64 iv, .pointer (some ⟨bc, 0, none⟩), .pointer (some ⟨bY, 0, none⟩), .pointer (some ⟨br, 0, none⟩), .pointer (some ⟨bh, 0, none⟩)] lo (J done) (chooseMu bh bc bo bY br y.chairs.length c) Ds (chooseR J Jx bh bc bo bY br y.chairs.length (flatC y.chairs) pre i done) := by
  intro j
  induction j using Nat.strongRecOn with
  | _ j ih =>
  intro i pre c done rest iv hiv hij hl h9 hp hxs
  subst hiv
  have hmx := hc.len
  have hfl := flatC_length y.chairs
  refine enterJ (μ := chooseMu bh bc bo bY br y.chairs.length c) 52 Try.func122 rfl rfl rfl rfl ?_
  refine C.seq ?_
  refine C.region [(false,0)] rfl ?_
  refine L.assign rfl rfl rfl trivial ?_
  refine L.nil ?_
  refine C.next ?_
  refine C.seq ?_
  refine C.region [(false,0),(false,1),(false,2),(false,3),(false,4),(false,5)] rfl ?_
  refine L.move rfl rfl rfl trivial ?_
  refine L.quo rfl rfl rfl (by omega) (by omega) (by simp only [inK]; omega) rfl trivial ?_
  refine L.move rfl rfl rfl trivial ?_
  refine L.rem rfl rfl rfl (by omega) (by omega) (by simp only [inK]; omega) rfl trivial ?_
  refine L.assign rfl rfl rfl trivial ?_
  refine L.assign rfl rfl rfl trivial ?_
  refine L.nil ?_
  refine C.next ?_
  refine C.seq ?_
  refine C.seq ?_
  refine C.region [(false,0),(false,1),(false,2),(false,3)] rfl ?_
  refine L.move rfl rfl rfl trivial ?_
  refine L.loadB1 rfl Tf.a39 rfl (List.Mem.tail _ (List.Mem.head _)) rfl List.not_mem_nil rfl trivial ?_
  refine L.lenV rfl Try.underlying39 rfl rfl rfl trivial ?_
  refine L.eql rfl rfl rfl rfl trivial ?_
  refine L.nil ?_
  refine C.next ?_
  refine C.condD rfl (fun hc1 => ?_) (fun hc1 => ?_)
  · have hin : i = 3 * y.chairs.length := by omega
    subst hin
    have hleaf : c = pre := by rw [← hp, List.take_of_length_le (by omega)]
    rw [← hfl, List.drop_length] at hxs
    simp only [C1.allT, List.map_cons, List.map_nil, List.append_nil] at hxs
    rw [← hleaf, List.append_assoc, List.singleton_append] at hxs
    refine C.seq ?_
    refine C.region [(false,0),(false,1),(false,2),(false,3)] rfl ?_
    refine L.loadD1 rfl (k := 0) Tf.a153 rfl hB (by first | simp | assumption) rfl List.not_mem_nil rfl trivial ?_
    refine L.loadB1 rfl Tf.a39 rfl (List.Mem.tail _ (List.Mem.head _)) rfl List.not_mem_nil rfl trivial ?_
    refine L.yieldSB (l := l) (J1 := J (done ++ [c])) (J0 := Jx (done ++ [c])) rfl rfl rfl rfl (hs _) (hsx _) (fun D w hd hJ hb hl => hY done c _ D w bo ⟨rest, hxs⟩ hd hJ (fun b hbm => by obtain ⟨p, hp, rfl⟩ := List.mem_map.1 hbm; exact lt_of_some (hb p hp).1) (hl _ hDr) ⟨List.mem_map.2 ⟨_, mem_bo, rfl⟩, (hb _ mem_bo).2, _, _, (hb _ mem_bo).1⟩) rfl trivial (fun b1 J1 hJ1 => ?_)
    refine L.assign rfl rfl rfl trivial ?_
    refine L.nil ?_
    refine C.next ?_
    refine C.ret ?_
    refine C.thenRet ?_
    exact leaveJ (P := Try.prog) (fn := Try.f122) (N := 52) (vs := [_]) rfl rfl ⟨rfl, trivial⟩ (fun D h => ⟨D, h, Le.refl D⟩) ⟨b1, c, rfl, h9, hp, rfl, by cases b1 <;> simp only [hJ1, if_true, Bool.false_eq_true, if_false]; exact ⟨_, rfl⟩; rw [← hfl, List.drop_length]; simp [C1.allT, hleaf]⟩
  · have hin : i < (flatC y.chairs).length := by omega
    obtain ⟨p, hpi⟩ : ∃ p, (flatC y.chairs)[i]? = some p := ⟨_, List.getElem?_eq_getElem hin⟩
    obtain ⟨x, hx3, hm⟩ := flatC_get hpi
    have hx : y.chairs[((i : Int) / 3).toNat]? = some x := by rw [show ((i : Int) / 3).toNat = i / 3 by omega]; exact hx3
    have hd : (flatC y.chairs).drop i = p :: (flatC y.chairs).drop (i + 1) := by rw [List.drop_eq_getElem_cons hin]; congr 1; exact Option.some.inj ((List.getElem?_eq_getElem hin).symm.trans hpi)
    rw [hd, ← brC_two] at hxs
    refine C.skip ?_
    refine C.next ?_
    refine C.seq ?_
    refine C.seq ?_
    refine C.region [(false,0)] rfl ?_
    refine L.move rfl rfl rfl trivial ?_
    refine L.nil ?_
    refine C.next ?_
    refine C.block ?_
    refine C.loopJ (γ := Nat × List Int) (fun g => 2 - g.1) (fun g => g.1 ≤ 2 ∧ g.2.length = 3 * y.chairs.length ∧ g.2.take i = pre) (fun g => J (done ++ brC p ((flatC y.chairs).drop (i + 1)) pre g.1)) (fun g => [(22, .int .i64 (g.1 : Int))]) [(8, _), (7, _), (6, _), (0, _), (1, _), (3, _), (4, _)] (fun g => chooseMu bh bc bo bY br y.chairs.length g.2) (fun g => Ds) (0, c) ⟨by simp, h9, hp⟩ (by simp [brC_zero]) ⟨(by first | rfl | (show some (Value.int _ _) = some (Value.int _ _); congr 2; omega)), trivial⟩ ⟨rfl, rfl, rfl, rfl, rfl, rfl, rfl, trivial⟩ (List.Sublist.refl _) (ds_same) ?_
    rintro ⟨k, c1⟩ ⟨h11, h91, hp1⟩
    simp only at h11 h91 hp1
    refine C.seq ?_
    refine C.region [(false,0)] rfl ?_
    refine L.lss rfl rfl rfl rfl trivial ?_
    refine L.nil ?_
    refine C.next ?_
    refine C.seq ?_
    refine C.condD rfl (fun hc2 => ?_) (fun hc2 => ?_)
    · refine C.skip ?_
      refine C.next ?_
      refine C.seq ?_
      refine C.block ?_
      refine C.seq ?_
      refine C.region [(false,0),(false,1)] rfl ?_
      refine L.move rfl rfl rfl trivial ?_
      refine L.assign rfl rfl rfl trivial ?_
      refine L.nil ?_
      refine C.next ?_
      refine C.seq ?_
      refine C.region [(false,0),(false,1),(false,2),(false,3),(false,4),(false,5),(false,6),(false,7),(false,8)] rfl ?_
      refine L.fieldAddr rfl Tf.f37_0 rfl rfl trivial ?_
      refine L.loadD1 rfl (k := 0) Tf.a34 rfl hA (by first | simp | assumption) rfl List.not_mem_nil rfl trivial ?_
      refine L.move rfl rfl rfl trivial ?_
      refine L.move rfl rfl rfl trivial ?_
      refine L.indexS rfl Try.underlying34 Tf.s115 rfl hc rfl (by omega) hx rfl trivial (fun b1 o1 cs1 hr1 hcl1 hA1 => ?_)
      obtain rfl : cs1 = [.int .i64 _, .int .i64 _, .int .i64 _, .int .i64 _] := hr1
      refine L.fieldAddr rfl Tf.f115_1 rfl rfl trivial ?_
      refine L.indexA rfl Try.underlying113 Tf.s3 rfl rfl (by omega) (by omega) rfl trivial ?_
      refine L.loadD1 (o := _ + 1) (k := ((i : Int) % 3).toNat * 1) rfl Tf.a3 rfl hA1.tail (by first | assumption | simp) (by rw [show ((i : Int) % 3).toNat = i % 3 by omega]; exact pt_get hm) List.not_mem_nil rfl trivial ?_
      refine L.assign rfl rfl rfl trivial ?_
      refine L.nil ?_
      refine C.next ?_
      refine C.seq ?_
      refine C.region [(false,0),(false,1),(false,2),(false,3),(false,4),(false,5),(false,6)] rfl ?_
      refine L.move rfl rfl rfl trivial ?_
      refine L.eql rfl rfl rfl rfl trivial ?_
      refine L.move rfl rfl rfl trivial ?_
      refine' L.or [(false,3),(false,4),(false,5),(false,6)] [] (s := 35) (p := 39) rfl rfl (fun hg1 => ?_) (fun hg1 => ?_) ?_
      rotate_left
      · refine L.move rfl rfl rfl ⟨_, rfl, rfl⟩ ?_
        refine L.move rfl rfl rfl ⟨_, rfl, rfl⟩ ?_
        refine L.eql rfl rfl rfl rfl ⟨_, rfl, rfl⟩ ?_
        refine L.pickF rfl rfl rfl rfl trivial ?_
        exact L.nil fun a w hh => hh.cutK 3 rfl
      · refine L.pass rfl rfl rfl ⟨_, _, rfl, rfl, rfl⟩ ?_
        refine L.pass rfl rfl rfl ⟨_, _, rfl, rfl, rfl⟩ ?_
        refine L.pass rfl rfl rfl ⟨_, _, rfl, rfl, rfl⟩ ?_
        refine L.pickT rfl rfl rfl rfl trivial ?_
        exact L.nil fun a w hh => hh.cutK 3 rfl
      refine L.nil ?_
      refine C.next ?_
      refine C.cond rfl (fun hc3 => ?_) (fun hc3 => ?_)
      · have hpk : p = 2 ∨ p = (k : Int) := by simpa using hc3
        obtain ⟨rr, hr⟩ := brC_rest (p := p) (ps := (flatC y.chairs).drop (i + 1)) (pre := pre) (k := k) (by omega)
        refine C.seq ?_
        refine C.region [(false,0),(false,1),(false,2),(false,3),(false,4),(false,5),(false,6)] rfl ?_
        refine L.loadB1 rfl Tf.a39 rfl (List.Mem.tail _ (List.Mem.head _)) rfl List.not_mem_nil rfl trivial ?_
        refine L.move rfl rfl rfl trivial ?_
        refine L.move rfl rfl rfl trivial ?_
        refine L.move rfl rfl rfl trivial ?_
        refine L.indexP rfl Try.underlying39 Tf.s113 rfl rfl (by omega) (by omega) rfl trivial ?_
        refine L.indexA rfl Try.underlying113 Tf.s3 rfl rfl (by omega) (by omega) rfl trivial ?_
        refine L.storeF (k := i) rfl Tf.s3 (by show some (Value.pointer (some ⟨bo, 0 + ((i : Int) / 3).toNat * 3 + ((i : Int) % 3).toNat * 1, none⟩)) = _; rw [ptr_i]) rfl (.tail (.tail Has.head)) (by simp only; omega) trivial ?_
        refine L.nil ?_
        refine C.next ?_
        refine C.seq ?_
        refine C.region [(false,0),(false,1),(false,2),(false,3),(false,4)] rfl ?_
        refine L.loadB1 rfl Tf.a170 rfl (List.Mem.head _) rfl List.not_mem_nil rfl trivial ?_
        refine L.move rfl rfl rfl trivial ?_
        refine L.add rfl rfl rfl (by simp only [inK]; omega) rfl trivial ?_
        refine L.callJ rfl rfl rfl rfl (ih (j - 1) (by omega) (i + 1) (pre ++ [(k : Int)]) (c1.set i k) (done ++ brC p ((flatC y.chairs).drop (i + 1)) pre k) (rr ++ rest) (i + 1 : Int) (by omega) (by omega) (by simp; omega) (by simpa using h91) (set_take (by omega) hp1) (by rw [hxs, hr, brC_yes hpk]; simp)) rfl trivial ?_
        rintro _ J2 _ ⟨b2, c2, rfl, h9', hp', rfl, hJ2⟩
        refine L.not rfl rfl rfl trivial ?_
        refine L.nil ?_
        refine C.next ?_
        refine C.cond rfl (fun hc4 => ?_) (fun hc4 => ?_)
        · obtain rfl : b2 = false := by simpa using hc4
          refine C.seq ?_
          refine C.region [(false,0)] rfl ?_
          refine L.assign rfl rfl rfl trivial ?_
          refine L.nil ?_
          refine C.next ?_
          refine C.ret ?_
          refine C.blockRet ?_
          refine C.thenRet ?_
          refine C.thenRet ?_
          refine C.blockRet ?_
          refine C.thenRet ?_
          exact leaveJ (P := Try.prog) (fn := Try.f122) (N := 52) (vs := [_]) rfl rfl ⟨rfl, trivial⟩ (fun D h => ⟨D, h, Le.refl D⟩) ⟨false, c2, rfl, h9', take_pre hp' hl, rfl, by simpa using hJ2⟩
        · obtain rfl : b2 = true := by simpa using hc4
          refine C.skip ?_
          refine C.blockEnd ?_
          refine C.next ?_
          refine C.region [(false,0),(false,1)] rfl ?_
          refine L.add rfl rfl rfl (by simp only [inK]; omega) rfl trivial ?_
          refine L.move rfl rfl rfl trivial ?_
          refine L.nil ?_
          exact C.againJ 30 (k + 1, c2) ⟨by simp only; omega, h9', take_pre hp' hl⟩ (by simp only; omega) (by simpa only [if_true, brC_yes hpk, List.append_assoc] using hJ2) ⟨(by first | rfl | (show some (Value.int _ _) = some (Value.int _ _); congr 2; omega)), trivial⟩ rfl rfl (List.Sublist.refl _) (ds_same)
      · have hpk : ¬ (p = 2 ∨ p = (k : Int)) := by simpa using hc3
        refine C.skip ?_
        refine C.blockEnd ?_
        refine C.next ?_
        refine C.region [(false,0),(false,1)] rfl ?_
        refine L.add rfl rfl rfl (by simp only [inK]; omega) rfl trivial ?_
        refine L.move rfl rfl rfl trivial ?_
        refine L.nil ?_
        exact C.againJ 19 (k + 1, c1) ⟨by simp only; omega, h91, hp1⟩ (by simp only; omega) (by rw [brC_no hpk]) ⟨(by first | rfl | (show some (Value.int _ _) = some (Value.int _ _); congr 2; omega)), trivial⟩ rfl rfl (List.Sublist.refl _) (ds_same)
    · refine C.exit ?_
      refine C.thenExit ?_
      refine C.thenExit ?_
      refine C.blockExit ?_
      refine C.next ?_
      refine C.seq ?_
      refine C.region [(false,0)] rfl ?_
      refine L.assign rfl rfl rfl trivial ?_
      refine L.nil ?_
      refine C.next ?_
      refine C.ret ?_
      exact leaveJ (P := Try.prog) (fn := Try.f122) (N := 52) (vs := [_]) rfl rfl ⟨rfl, trivial⟩ (fun D h => ⟨D, h, Le.refl D⟩) ⟨true, c1, rfl, h91, hp1, rfl, by simp only [if_true]; rw [hd, ← brC_two, show k = 2 by omega]⟩
theorem truths1_ok (y : YardD) (Dr : Data) (br : Nat) (cv qv : Value) (hn7 : y.chairs.length ≤ 7) (hA : At Dr br 0 [cv, .int .i64 y.fit, qv]) (hc : Sl Dr RCh 4 cv y.chairs) :
    IterS Try.prog 121 [.pointer (some ⟨br, 0, none⟩)] Dr (C1.allT (flatC y.chairs)) (encS y.chairs.length) ints := by
  refine enterIterS 12 Try.func121 rfl rfl rfl rfl (fun lo l J Jx hs hsx hY => ?_)
  refine C.seq ?_
  refine C.region [(false,0)] rfl ?_
  refine L.boxD rfl rfl rfl rfl trivial (fun q1 E1 hE1 hB1 => ?_)
  refine L.nil ?_
  refine C.next ?_
  refine C.seq ?_
  refine C.region [(false,0),(false,1),(false,2),(false,3),(false,4),(false,5)] rfl ?_
  refine L.fieldAddr rfl Tf.f37_0 rfl rfl trivial ?_
  refine L.loadD1 rfl (k := 0) Tf.a34 rfl hA (by first | simp | assumption) rfl List.not_mem_nil rfl trivial ?_
  refine L.len rfl Try.underlying34 rfl hc rfl rfl trivial ?_
  refine L.makeSliceO rfl Try.underlying39 Tf.s113 Tf.z113 rfl Tf.i113 rfl rfl (by omega) (zero_cells (by simp) rfl) rfl trivial (fun bo => ?_)
  refine L.alloc rfl Tf.z39 rfl rfl trivial (fun q2 => ?_)
  refine L.store rfl rfl rfl rfl Tf.s39 (Has.head) (by simp) rfl (by simp [cell1]) trivial ?_
  refine L.nil ?_
  refine C.next ?_
  refine C.seq ?_
  refine C.region [(false,0)] rfl ?_
  refine L.alloc rfl Tf.z170 rfl rfl trivial (fun q3 => ?_)
  refine L.nil ?_
  refine C.next ?_
  refine C.seq ?_
  refine C.region [(false,0),(false,1)] rfl ?_
  refine L.makeFunc rfl rfl rfl rfl trivial ?_
  refine L.store rfl rfl rfl rfl Tf.s170 (Has.head) (by simp) rfl (by simp [cell1]) trivial ?_
  refine L.nil ?_
  refine C.next ?_
  refine C.region [(false,0),(false,1)] rfl ?_
  refine L.loadB1 rfl Tf.a170 rfl (List.Mem.head _) rfl List.not_mem_nil rfl trivial ?_
  refine L.callJ rfl rfl rfl rfl (choose_ok (l := l) hn7 hs hsx hY (by simp) (by simp) hA hc hB1 (3 * y.chairs.length) 0 [] (List.replicate (y.chairs.length * 3) 0) [] [] 0 rfl (by omega) rfl (by simp; omega) rfl (by simp)) rfl trivial ?_
  rintro _ J2 _ ⟨b2, c2, rfl, h9', hp', rfl, hJ2⟩
  refine L.nil ?_
  exact leaveJ (P := Try.prog) (fn := Try.f121) (N := 12) (vs := []) rfl rfl trivial (fun D h => ⟨D, by simp only [List.mem_singleton] at h; subst h; simp, Le.refl D⟩) (by cases b2 <;> simp at hJ2; exact Or.inr hJ2; exact Or.inl hJ2)
theorem truths_ok (yv : Value) (y : YardD) (D : Data) (hy : YardIs D yv y) (hn7 : y.chairs.length ≤ 7) :
    Fn Try.prog 112 #[yv] D (fun D' v => ∃ br, v = .func (.func 121) #[] #[.pointer (some ⟨br, 0, none⟩)] ∧ IterS Try.prog 121 [.pointer (some ⟨br, 0, none⟩)] D' (C1.allT (flatC y.chairs)) (encS y.chairs.length) ints) := by
  obtain ⟨cv, qv, rfl, hc, hq⟩ := hy
  refine enter 4 Try.func112 rfl rfl rfl rfl fun h0 => ?_
  refine C.seq ?_
  refine C.region [(false,0),(false,1)] rfl ?_
  refine L.boxD rfl rfl rfl rfl trivial (fun q1 E1 hE1 hB1 => ?_)
  refine L.assign rfl rfl rfl trivial ?_
  refine L.nil ?_
  refine C.next ?_
  refine C.seq ?_
  refine C.region [(false,0),(false,1)] rfl ?_
  refine L.makeFunc rfl rfl rfl rfl trivial ?_
  refine L.assign rfl rfl rfl trivial ?_
  refine L.nil ?_
  refine C.next ?_
  refine C.ret ?_
  exact leave (vs := [_]) rfl rfl rfl ⟨rfl, trivial⟩ (fun D hD => ⟨_, rfl, truths1_ok y _ q1 cv qv hn7 (hB1.up (hD _ (by simp))) (hc.up RCh.up (hD _ (by simp)))⟩)
end Go.Fs
namespace Go.Fs
variable {P : Program} {X : Cx} {γb : Type} [Membership Nat γb] {bad : γb} {all : Array Oper} {K : Act → World → Prop} {Q : Exit → Act → World → Prop}
variable {σ : Slots} {μ : Boxes} {Ds : List Data} {os : List (Bool × Nat)} {fl : Bool} {ix : Nat}
variable {d : Nat} {x y z : Operand} {u v : Value} {ty : TypeId} {pos : String} {aft : Array Edge} {g : Option (Nat × Bool)}
/-- A field that has n numbers from o on. -/
structure FldOk (P : Program) (f : Field) (o n : Nat) : Prop where
  name : f.name ≠ "_"
  eqp : ∀ (l m : List Int) w, o + n ≤ l.length → o + n ≤ m.length → ∃ u v, (part f.type (ints l).toArray f.offset).run P w = .ok u w ∧ (part f.type (ints m).toArray f.offset).run P w = .ok v w ∧ (Op.equalIn 9999 f.type u v).run P w = .ok ((l.drop o).take n == (m.drop o).take n) w
/-- Fields that follow each other. -/
inductive Chain (P : Program) : Nat → Nat → List Field → Prop
  | nil {o} : Chain P o o []
  | cons {o n e f fs} (h : FldOk P f o n) (r : Chain P (o + n) e fs) : Chain P o e (f :: fs)
theorem Chain.le {o e : Nat} {fs : List Field} (h : Chain P o e fs) : o ≤ e := by
  induction h with
  | nil => exact Nat.le_refl _
  | cons _ _ ih => omega
theorem drop_eq_split (l m : List Int) (o n : Nat) : (l.drop o == m.drop o) = (((l.drop o).take n == (m.drop o).take n) && (l.drop (o + n) == m.drop (o + n))) := by
  rw [Bool.eq_iff_iff]
  simp only [beq_iff_eq, Bool.and_eq_true]
  constructor
  · intro h
    exact ⟨by rw [h], by rw [← List.drop_drop, ← List.drop_drop, h]⟩
  · rintro ⟨h1, h2⟩
    rw [← List.take_append_drop n (l.drop o), ← List.take_append_drop n (m.drop o), h1, List.drop_drop, List.drop_drop, h2]
theorem run_eqFields (l m : List Int) (w : World) {o e : Nat} {fs : List Field} (h : Chain P o e fs) (hl : l.length = e) (hm : m.length = e) : (Op.eqFields 9999 (ints l).toArray (ints m).toArray fs).run P w = .ok (l.drop o == m.drop o) w := by
  induction h with
  | nil =>
    rw [List.drop_eq_nil_of_le (by omega), List.drop_eq_nil_of_le (by omega)]; rfl
  | @cons o n e f fs h r ih =>
    have hle := r.le
    obtain ⟨u, v, h1, h2, h3⟩ := h.eqp l m w (by omega) (by omega)
    rw [Op.eqFields, if_pos h.name]
    simp only [Sem.run_bind, h1, h2, Result.andThen_ok]
    rw [h3, drop_eq_split l m o n]
    simp only [Result.andThen_ok]
    cases hx : (l.drop o).take n == (m.drop o).take n with
    | true =>
      simp only [Bool.not_true, Bool.false_eq_true, if_false, Bool.true_and]
      exact ih hl hm
    | false => simp only [Bool.not_false, if_true, Sem.run_pure, Bool.false_and]
theorem FldOk.int {f : Field} {o : Nat} (hn : f.name ≠ "_") (ho : f.offset = o) (ht : P.underlying f.type = some (.int .i64)) : FldOk P f o 1 := by
  refine ⟨hn, fun l m w hl hm => ?_⟩
  have h1 : l[o]? = some (l[o]'(by omega)) := List.getElem?_eq_getElem _
  have h2 : m[o]? = some (m[o]'(by omega)) := List.getElem?_eq_getElem _
  refine ⟨.int .i64 l[o], .int .i64 m[o], run_part_int ht (by rw [ho]; simpa using ints_get h1) w, run_part_int ht (by rw [ho]; simpa using ints_get h2) w, ?_⟩
  rw [run_equalIn_int w 9998 f.type .i64 .i64 _ _ ht]
  congr 1
  have t1 : (l.drop o).take 1 = [l[o]] := by rw [List.drop_eq_getElem_cons (show o < l.length by omega)]; rfl
  have t2 : (m.drop o).take 1 = [m[o]] := by rw [List.drop_eq_getElem_cons (show o < m.length by omega)]; rfl
  rw [t1, t2]
  simp
theorem part_ints {t : TypeId} {n o : Nat} (ha : TA P t true) (hs : TS P t n) {l : List Int} (_hl : o + n ≤ l.length) (w : World) : (part t (ints l).toArray o).run P w = .ok (.agg (ints ((l.drop o).take n)).toArray) w := by
  unfold part
  simp only [Sem.run_bind, ha w, Result.andThen_ok, if_true, hs w, Sem.run_pure]
  congr 2
  apply Array.ext'
  simp only [Array.toList_extract, List.extract_eq_take_drop, ints, List.map_drop, List.map_take]
  congr 1; omega
theorem FldOk.arr {f : Field} {o n : Nat} {e : TypeId} (hn : f.name ≠ "_") (ho : f.offset = o) (ht : P.underlying f.type = some (.array n e)) (he : P.underlying e = some (.int .i64)) (hc : P.cellsOf e = 1) (ha : TA P f.type true) (hs : TS P f.type n) : FldOk P f o n := by
  refine ⟨hn, fun l m w hl hm => ⟨_, _, by rw [ho]; exact part_ints ha hs hl w, by rw [ho]; exact part_ints ha hs hm w, ?_⟩⟩
  obtain ⟨i, hi⟩ := info_of_underlying he
  have h := run_equalIn_array (P := P) w 9998 (ints ((l.drop o).take n)).toArray (ints ((m.drop o).take n)).toArray ht hi
  have e1 : ((l.drop o).take n).length = n := by rw [List.length_take, List.length_drop]; omega
  have e2 : ((m.drop o).take n).length = n := by rw [List.length_take, List.length_drop]; omega
  rw [hc, run_eqItems_ints 9997 he _ _ w (List.range n) (fun j hj => by have := List.mem_range.1 hj; omega), all_range_eq e1 e2] at h
  exact h
/-- A struct's type that is compared number by number. -/
def KS (P : Program) (t : TypeId) (n : Nat) : Prop := P.underlying t = some (.struct (P.fieldsOf t)) ∧ P.stoodInHeld t = false ∧ P.eqGuardType P.depth t = false ∧ Chain P 0 n (P.fieldsOf t).toList
theorem run_equal_s {t : TypeId} {n : Nat} (h : KS P t n) {l m : List Int} (hl : l.length = n) (hm : m.length = n) (w : World) : (Op.equal t (.agg (ints l).toArray) (.agg (ints m).toArray)).run P w = .ok (l == m) w := by
  have he := run_equalIn_struct (P := P) w 9999 t (ints l).toArray (ints m).toArray h.1 h.2.1
  show (Op.equalIn (9999 + 1) t (.agg (ints l).toArray) (.agg (ints m).toArray)).run P w = _
  rw [he, run_eqFields l m w h.2.2.2 hl hm]
  simp
theorem L.neqS {t t' : TypeId} {n : Nat} {l m : List Int} (ho : all[ix]? = some ⟨some d, .binOp .neq t x y t', ty, pos, aft, g⟩) (ht : KS P t n) (hl : l.length = n) (hm : m.length = n) (hx : ev σ x = some (.agg (ints l).toArray)) (hy : ev σ y = some (.agg (ints m).toArray)) (hN : Nat.blt d X.N = true) (hg : Gok all σ g)
    (kk : WL P X bad all K Q os ((d, .bool (!(l == m))) :: σ) μ Ds) : WL P X bad all K Q ((fl, ix) :: os) σ μ Ds :=
  L.neqX ho (fun w => by
    have hgd : (eqGuard .neq t x y (.agg (ints l).toArray) (.agg (ints m).toArray)).run P w = .ok () w := by
      simp only [eqGuard, program]
      simp [Sem.run, ht.2.2.1, go_sem]
    rw [Sem.run_bind, hgd]
    show ((do Pure.pure (Value.bool (!(← Op.equal t (.agg (ints l).toArray) (.agg (ints m).toArray))))) : Sem Value).run P w = _
    rw [Sem.run_bind, run_equal_s ht hl hm]; rfl) hx hy hN hg kk
end Go.Fs
