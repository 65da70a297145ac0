/- Walks: the reference: all truths. -/
import Derived.Test.YtgnnlghoadfffaaW13
namespace Go.Fs
open Go.Proofs
open C1
theorem Sl.empty {D : Data} {a : Option Addr} : Sl D RI 1 (.slice a 0 0) ([] : List Int) := ⟨a, 0, rfl, Nat.le_refl _, by simp, Or.inl rfl⟩
theorem Sl.one {D : Data} {b : Nat} {v : Value} {t : List Int} (hA : At D b 0 [v]) (h : Sl D RI 1 v t) : Sl D RL 1 (.slice (some ⟨b, 0, none⟩) 1 1) [t] :=
  Sl.of_at hA rfl (Nat.le_refl _) (by omega) fun i x hx => by
    cases i with
    | zero => obtain rfl : t = x := by simpa using hx
              exact ⟨[v], ⟨v, rfl, h⟩, rfl, rfl⟩
    | succ i => simp at hx
theorem outN_len (p : Int) (t : List Int) (m : Nat) : (outN p t m).length ≤ m := by
  induction m with
  | zero => simp [outN]
  | succ m ih =>
    by_cases h : p = 2 ∨ p = (m : Int)
    · rw [outN_yes h]; simp; omega
    · rw [outN_no h]; omega
theorem step_len2 (p : Int) (out : List (List Int)) : (growT p out).length ≤ 2 * out.length := by
  induction out with
  | nil => simp [growT]
  | cons t out ih =>
    unfold growT at ih ⊢
    rw [List.flatMap_cons, List.length_append, List.length_cons]
    have := outN_len p t 2; omega
theorem step_len (p : Int) (out : List (List Int)) (k : Nat) (t : List Int) (m : Nat) : (growT p (out.take k) ++ outN p t m).length ≤ 2 * out.length + m := by
  have h1 := step_len2 p (out.take k)
  have h2 := outN_len p t m
  have h3 : (out.take k).length ≤ out.length := by rw [List.length_take]; omega
  rw [List.length_append]; omega
theorem foldl_snoc {l : List Int} {i : Nat} {p : Int} (h : l[i]? = some p) : (l.take (i + 1)).foldl (fun o p => growT p o) [[]] = growT p ((l.take i).foldl (fun o p => growT p o) [[]]) := by
  rw [List.take_add_one, h, Option.toList_some, List.foldl_append]; rfl
theorem foldl_len {r : RowD} (hok : RowOk r) (i : Nat) : ((r.places.take i).foldl (fun o p => growT p o) [[]]).length ≤ 512 := by
  rw [allT_foldl]
  have h1 := allT_length (r.places.take i)
  have h2 : (r.places.take i).length ≤ 9 := by have := hok.len9; rw [List.length_take]; omega
  have h3 : 2 ^ (r.places.take i).length ≤ 2 ^ 9 := Nat.pow_le_pow_right (by omega) h2
  omega
theorem foldl_elem {r : RowD} (hok : RowOk r) {i : Nat} {t : List Int} (h : t ∈ (r.places.take i).foldl (fun o p => growT p o) [[]]) : t.length ≤ 9 := by
  rw [allT_foldl] at h
  have := (allT_ok h).1
  have := hok.len9
  rw [List.length_take] at *; omega
open C1
theorem All_ok (rv : Value) (r : RowD) (D : Data) (hr : RowIs D rv r) (hok : RowOk r) : Fn Try.prog 43 #[rv] D (fun D' v => Sl D' RL 1 v (allT r.places)) := by
  obtain ⟨pv, cv, rfl, hp, hc⟩ := hr
  have hl := hp.len
  refine enter 56 Try.func43 rfl rfl rfl rfl fun h0 => ?_
  refine C.seq ?_
  refine C.region [(false,0),(false,1)] rfl ?_
  refine L.boxD rfl rfl rfl rfl trivial (fun q1 E1 hE1 hB1 => ?_)
  refine L.assign rfl rfl rfl trivial ?_
  refine L.nil ?_
  refine C.next ?_
  refine C.seq ?_
  refine C.region [(false,0),(false,1),(false,2)] rfl ?_
  refine L.buildSlice rfl Try.underlying22 Tf.s3 Tf.z3 rfl rfl rfl rfl .nil rfl trivial (fun b901 D901 hD901 hA901 => ?_)
  refine L.buildSlice rfl Try.underlying37 Tf.s22 Tf.z22 rfl rfl rfl rfl (.cons rfl rfl .nil) rfl trivial (fun b902 D902 hD902 hA902 => ?_)
  refine L.assign rfl rfl rfl trivial ?_
  refine L.nil ?_
  refine C.next ?_
  refine C.seq ?_
  refine C.seq ?_
  refine C.region [(false,0)] rfl ?_
  refine L.assign rfl rfl rfl trivial ?_
  refine L.nil ?_
  refine C.next ?_
  refine C.block ?_
  refine C.loopC (γ := Nat × Value × Data) (fun g => r.places.length - g.1) (fun g => g.1 ≤ r.places.length ∧ Sl g.2.2 RL 1 g.2.1 ((r.places.take g.1).foldl (fun o p => growT p o) [[]])) (fun g => [(4, .int .i64 (g.1 : Int)), (3, g.2.1)]) [(2, _), (1, _)] (fun g => [g.2.2, E1, D]) (0, _, D902) ⟨by simp, Sl.one (hA902) (Sl.empty)⟩ ⟨(by first | rfl | (show some (Value.int _ _) = some (Value.int _ _); congr 2; omega)), (by first | rfl | (show some (Value.int _ _) = some (Value.int _ _); congr 2; omega)), trivial⟩ ⟨rfl, rfl, trivial⟩ ((fun D0 h => by simp only [List.mem_cons, List.not_mem_nil, or_false] at h; rcases h with h | h | h; exact ⟨D902, by simp, h ▸ Le.refl _⟩; exact ⟨E1, by simp, h ▸ Le.refl _⟩; exact ⟨D, by simp, h ▸ Le.refl _⟩)) ?_
  rintro ⟨i, outv, Do⟩ ⟨h1, ho⟩
  simp only at h1 ho
  have hol := foldl_len hok i
  have hol2 := ho.len
  refine C.seq ?_
  refine C.seq ?_
  refine C.region [(false,0),(false,1),(false,2),(false,3),(false,4)] rfl ?_
  refine L.move rfl rfl rfl trivial ?_
  refine L.fieldAddr rfl Tf.f25_0 rfl rfl trivial ?_
  refine L.loadD1 rfl (k := 0) Tf.a22 rfl hB1 (by first | simp | assumption) rfl List.not_mem_nil rfl trivial ?_
  refine L.len rfl Try.underlying22 rfl hp rfl rfl trivial ?_
  refine L.lss rfl rfl rfl rfl trivial ?_
  refine L.nil ?_
  refine C.next ?_
  refine C.condD rfl (fun hc1 => ?_) (fun hc1 => ?_)
  · have hi : i < r.places.length := by omega
    obtain ⟨p, hx⟩ : ∃ p, r.places[i]? = some p := ⟨_, List.getElem?_eq_getElem hi⟩
    refine C.skip ?_
    refine C.next ?_
    refine C.seq ?_
    refine C.block ?_
    refine C.seq ?_
    refine C.region [(false,0)] rfl ?_
    refine L.assign rfl rfl rfl trivial ?_
    refine L.nil ?_
    refine C.next ?_
    refine C.seq ?_
    refine C.seq ?_
    refine C.region [(false,0)] rfl ?_
    refine L.assign rfl rfl rfl trivial ?_
    refine L.nil ?_
    refine C.next ?_
    refine C.block ?_
    refine C.loopR (γ := Nat × Value × List Value × Boxes × Data) (fun g => ((r.places.take i).foldl (fun o p => growT p o) [[]]).length - g.1) (fun g => g.1 ≤ ((r.places.take i).foldl (fun o p => growT p o) [[]]).length ∧ Acc 22 1 g.2.1 g.2.2.1.length g.2.2.1 g.2.2.2.1 ∧ LA g.2.2.2.2 g.2.2.1 (growT p (((r.places.take i).foldl (fun o p => growT p o) [[]]).take g.1))) (fun g => [(6, .int .i64 (g.1 : Int)), (5, g.2.1)]) [(14, _), (13, _), (12, _), (11, _), (10, _), (4, _), (3, _), (2, _), (1, _)] (fun g => g.2.2.2.1 ++ []) (fun g => [g.2.2.2.2, Do, E1, D]) (0, .slice none 0 0, [], [], Do) ⟨by simp, by simpa using Acc.nil, by simpa [growT] using LA.nil⟩ ⟨(by first | rfl | (show some (Value.int _ _) = some (Value.int _ _); congr 2; omega)), (by first | rfl | (show some (Value.int _ _) = some (Value.int _ _); congr 2; omega)), trivial⟩ ⟨rfl, rfl, rfl, rfl, rfl, rfl, rfl, rfl, rfl, trivial⟩ (List.Sublist.refl _) ((fun D0 h => by simp only [List.mem_cons, List.not_mem_nil, or_false] at h; rcases h with h | h | h | h; exact ⟨Do, by simp, h ▸ Le.refl _⟩; exact ⟨Do, by simp, h ▸ Le.refl _⟩; exact ⟨E1, by simp, h ▸ Le.refl _⟩; exact ⟨D, by simp, h ▸ Le.refl _⟩)) ?_
    rintro ⟨k, v, vs, ν, Dn⟩ ⟨h2, ha, hla⟩
    simp only at h2 ha hla
    have hvl := hla.len
    refine C.seq ?_
    refine C.seq ?_
    refine C.region [(false,0),(false,1),(false,2),(false,3)] rfl ?_
    refine L.move rfl rfl rfl trivial ?_
    refine L.move rfl rfl rfl trivial ?_
    refine L.len rfl Try.underlying37 rfl ho rfl rfl trivial ?_
    refine L.lss rfl rfl rfl rfl trivial ?_
    refine L.nil ?_
    refine C.next ?_
    refine C.condD rfl (fun hc2 => ?_) (fun hc2 => ?_)
    · have hk : k < ((r.places.take i).foldl (fun o p => growT p o) [[]]).length := by omega
      obtain ⟨t, ht⟩ : ∃ t, ((r.places.take i).foldl (fun o p => growT p o) [[]])[k]? = some t := ⟨_, List.getElem?_eq_getElem hk⟩
      have htl := foldl_elem hok (List.mem_of_getElem? ht)
      refine C.skip ?_
      refine C.next ?_
      refine C.seq ?_
      refine C.block ?_
      refine C.seq ?_
      refine C.region [(false,0)] rfl ?_
      refine L.assign rfl rfl rfl trivial ?_
      refine L.nil ?_
      refine C.next ?_
      refine C.block ?_
      refine C.loopR (γ := Nat × Value × List Value × Boxes × Data) (fun g => 2 - g.1) (fun g => g.1 ≤ 2 ∧ Acc 22 1 g.2.1 g.2.2.1.length g.2.2.1 g.2.2.2.1 ∧ LA g.2.2.2.2 g.2.2.1 (growT p (((r.places.take i).foldl (fun o p => growT p o) [[]]).take k) ++ outN p t g.1)) (fun g => [(7, .int .i64 (g.1 : Int)), (5, g.2.1)]) [(20, _), (19, _), (18, _), (17, _), (6, _), (14, _), (13, _), (12, _), (11, _), (10, _), (4, _), (3, _), (2, _), (1, _)] (fun g => g.2.2.2.1 ++ []) (fun g => [g.2.2.2.2, Do, E1, D]) (0, v, vs, ν, Dn) ⟨by simp, ha, by simpa [outN] using hla⟩ ⟨(by first | rfl | (show some (Value.int _ _) = some (Value.int _ _); congr 2; omega)), (by first | rfl | (show some (Value.int _ _) = some (Value.int _ _); congr 2; omega)), trivial⟩ ⟨rfl, rfl, rfl, rfl, rfl, rfl, rfl, rfl, rfl, rfl, rfl, rfl, rfl, rfl, trivial⟩ (List.Sublist.refl _) ((fun D0 h => by simp only [List.mem_cons, List.not_mem_nil, or_false] at h; rcases h with h | h | h | h; exact ⟨Dn, by simp, h ▸ Le.refl _⟩; exact ⟨Do, by simp, h ▸ Le.refl _⟩; exact ⟨E1, by simp, h ▸ Le.refl _⟩; exact ⟨D, by simp, h ▸ Le.refl _⟩)) ?_
      rintro ⟨m, v, vs, ν, Dn⟩ ⟨h3, ha, hla⟩
      simp only at h3 ha hla
      have hvl := hla.len
      have hsl := step_len p ((r.places.take i).foldl (fun o p => growT p o) [[]]) k t m
      refine C.seq ?_
      refine C.seq ?_
      refine C.region [(false,0),(false,1)] rfl ?_
      refine L.move rfl rfl rfl trivial ?_
      refine L.leq rfl rfl rfl rfl trivial ?_
      refine L.nil ?_
      refine C.next ?_
      refine C.condD rfl (fun hc3 => ?_) (fun hc3 => ?_)
      · have hm : m < 2 := by omega
        refine C.skip ?_
        refine C.next ?_
        refine C.seq ?_
        refine C.block ?_
        refine C.seq ?_
        refine C.region [(false,0),(false,1),(false,2),(false,3),(false,4),(false,5),(false,6),(false,7),(false,8),(false,9),(false,10),(false,11),(false,12),(false,13),(false,14)] rfl ?_
        refine L.fieldAddr rfl Tf.f25_0 rfl rfl trivial ?_
        refine L.loadD1 rfl (k := 0) Tf.a22 rfl hB1 (by first | simp | assumption) rfl List.not_mem_nil rfl trivial ?_
        refine L.move rfl rfl rfl trivial ?_
        refine L.indexS rfl Try.underlying22 Tf.s3 rfl hp rfl (by omega) hx rfl trivial (fun b1 o1 cs1 hr1 hcl1 hA1 => ?_)
        obtain rfl : cs1 = [.int .i64 _] := hr1
        refine L.loadD1 rfl (k := 0) Tf.a3 rfl hA1 (by first | simp | assumption) rfl List.not_mem_nil rfl trivial ?_
        refine L.eql rfl rfl rfl rfl trivial ?_
        refine L.move rfl rfl rfl trivial ?_
        refine' L.or [(false,7),(false,8),(false,9),(false,10),(false,11),(false,12),(false,13),(false,14)] [] (s := 33) (p := 41) rfl rfl (fun hg1 => ?_) (fun hg1 => ?_) ?_
        rotate_left
        · refine L.fieldAddr rfl Tf.f25_0 rfl rfl ⟨_, rfl, rfl⟩ ?_
          refine L.loadD1 rfl (k := 0) Tf.a22 rfl hB1 (by first | simp | assumption) rfl List.not_mem_nil rfl ⟨_, rfl, rfl⟩ ?_
          refine L.move rfl rfl rfl ⟨_, rfl, rfl⟩ ?_
          refine L.indexS rfl Try.underlying22 Tf.s3 rfl hp rfl (by omega) hx rfl ⟨_, rfl, rfl⟩ (fun b2 o2 cs2 hr2 hcl2 hA2 => ?_)
          obtain rfl : cs2 = [.int .i64 _] := hr2
          refine L.loadD1 rfl (k := 0) Tf.a3 rfl hA2 (by first | simp | assumption) rfl List.not_mem_nil rfl ⟨_, rfl, rfl⟩ ?_
          refine L.move rfl rfl rfl ⟨_, rfl, rfl⟩ ?_
          refine L.eql rfl rfl rfl rfl ⟨_, rfl, rfl⟩ ?_
          refine L.pickF rfl rfl rfl rfl trivial ?_
          exact L.nil fun a w hh => hh.cutK 7 rfl
        · refine L.pass rfl rfl rfl ⟨_, _, rfl, rfl, rfl⟩ ?_
          refine L.pass rfl rfl rfl ⟨_, _, rfl, rfl, rfl⟩ ?_
          refine L.pass rfl rfl rfl ⟨_, _, rfl, rfl, rfl⟩ ?_
          refine L.pass rfl rfl rfl ⟨_, _, rfl, rfl, rfl⟩ ?_
          refine L.pass rfl rfl rfl ⟨_, _, rfl, rfl, rfl⟩ ?_
          refine L.pass rfl rfl rfl ⟨_, _, rfl, rfl, rfl⟩ ?_
          refine L.pass rfl rfl rfl ⟨_, _, rfl, rfl, rfl⟩ ?_
          refine L.pickT rfl rfl rfl rfl trivial ?_
          exact L.nil fun a w hh => hh.cutK 7 rfl
        refine L.nil ?_
        refine C.next ?_
        refine C.cond rfl (fun hc4 => ?_) (fun hc4 => ?_)
        · have hpm : p = 2 ∨ p = (m : Int) := by simpa using hc4
          refine C.region [(false,0),(false,1),(false,2),(false,3),(false,4),(false,5),(false,6),(false,7),(false,8),(false,9),(false,10),(false,11),(false,12)] rfl ?_
          refine L.move rfl rfl rfl trivial ?_
          refine L.buildSlice rfl Try.underlying22 Tf.s3 Tf.z3 rfl rfl rfl rfl .nil rfl trivial (fun b903 D903 hD903 hA903 => ?_)
          refine L.move rfl rfl rfl trivial ?_
          refine L.move rfl rfl rfl trivial ?_
          refine L.indexS rfl Try.underlying37 Tf.s22 rfl ho rfl (by omega) ht rfl trivial (fun b3 o3 cs3 hr3 hcl3 hA3 => ?_)
          obtain ⟨w3, rfl, hw3⟩ := hr3
          refine L.loadD1 rfl (k := 0) Tf.a22 rfl hA3 (by first | simp | assumption) rfl List.not_mem_nil rfl trivial ?_
          refine L.boxesEq (([] : Boxes) ++ [] ++ (ν ++ [])) rfl ?_
          refine L.append (A := []) (ν := []) (B := ν ++ []) rfl Try.underlying22 rfl rfl Tf.s3 Tf.z3 rfl Tf.i3 rfl rfl rfl Acc.nil (Src.ints hw3) (by simp) (by simp) rfl (ints_cell1 _) (by omega) (Or.inl rfl) rfl trivial (fun v8 ν8 ha8 => ?_)
          refine L.move rfl rfl rfl trivial ?_
          refine L.buildSlice rfl Try.underlying22 Tf.s3 Tf.z3 rfl rfl rfl rfl (.cons rfl rfl .nil) rfl trivial (fun b904 D904 hD904 hA904 => ?_)
          have hS904 := Sl.ofInts (l := [_]) (n := 1) (cap := 1) hA904 rfl (by omega) (by omega)
          refine L.append (A := []) (B := ν ++ []) rfl Try.underlying22 rfl rfl Tf.s3 Tf.z3 rfl Tf.i3 rfl rfl rfl ha8 (Src.lit hA904) (by simp) rfl (by simp) (by simp [cell1]) (by omega) (Or.inl rfl) rfl trivial (fun v9 ν9 ha9 => ?_)
          have ha9' : Acc 3 1 v9 (t.length + 1) (ints (t ++ [(m : Int)])) ν9 := by rw [← ints_append, show ints [(m : Int)] = [.int .i64 (m : Int)] from rfl]; simpa using ha9
          refine L.freeze (A := []) (B := ν ++ []) ha9' rfl (fun D9 hD9 hF9 => ?_)
          have hw9 := hF9.ints (by simp) (by omega)
          refine L.buildSlice rfl Try.underlying37 Tf.s22 Tf.z22 rfl rfl rfl rfl (.cons ha9.cells1 rfl .nil) rfl trivial (fun b905 D905 hD905 hA905 => ?_)
          refine L.append (A := []) (B := []) rfl Try.underlying37 rfl rfl Tf.s22 Tf.z22 rfl Tf.i22 rfl rfl rfl ha (Src.lit hA905) (by simp) rfl (by simp) (by simpa using ha9.cell1) (by omega) (Or.inl rfl) rfl trivial (fun v7 ν7 ha7 => ?_)
          have hla7 := (hla.up (hD905 Dn (by simp))).snoc (hw9.up RI.up (hD905 D9 (by simp)))
          rw [List.append_assoc, ← outN_yes hpm] at hla7
          refine L.assign rfl rfl rfl trivial ?_
          refine L.nil ?_
          refine C.blockEnd ?_
          refine C.next ?_
          refine C.region [(false,0),(false,1),(false,2)] rfl ?_
          refine L.move rfl rfl rfl trivial ?_
          refine L.add rfl rfl rfl (by simp only [inK]; omega) rfl trivial ?_
          refine L.assign rfl rfl rfl trivial ?_
          refine L.nil ?_
          exact C.againR 28 (m + 1, v7, vs ++ [v9], ν7, D905) ⟨by simp only; omega, by simpa using ha7, hla7⟩ (by simp only; omega) ⟨(by first | rfl | (show some (Value.int _ _) = some (Value.int _ _); congr 2; omega)), (by first | rfl | (show some (Value.int _ _) = some (Value.int _ _); congr 2; omega)), trivial⟩ rfl rfl (List.Sublist.refl _) ((fun D0 h => by simp only [List.mem_cons, List.not_mem_nil, or_false] at h; rcases h with h | h | h | h; exact ⟨D905, by simp, h ▸ Le.refl _⟩; exact ⟨Do, by simp, h ▸ Le.refl _⟩; exact ⟨E1, by simp, h ▸ Le.refl _⟩; exact ⟨D, by simp, h ▸ Le.refl _⟩))
        · have hpm : ¬ (p = 2 ∨ p = (m : Int)) := by simpa using hc4
          refine C.skip ?_
          refine C.blockEnd ?_
          refine C.next ?_
          refine C.region [(false,0),(false,1),(false,2)] rfl ?_
          refine L.move rfl rfl rfl trivial ?_
          refine L.add rfl rfl rfl (by simp only [inK]; omega) rfl trivial ?_
          refine L.assign rfl rfl rfl trivial ?_
          refine L.nil ?_
          exact C.againR 15 (m + 1, v, vs, ν, Dn) ⟨by simp only; omega, ha, by simp only; rw [outN_no hpm]; exact hla⟩ (by simp only; omega) ⟨(by first | rfl | (show some (Value.int _ _) = some (Value.int _ _); congr 2; omega)), (by first | rfl | (show some (Value.int _ _) = some (Value.int _ _); congr 2; omega)), trivial⟩ rfl rfl (List.Sublist.refl _) ((fun D0 h => by simp only [List.mem_cons, List.not_mem_nil, or_false] at h; rcases h with h | h | h | h; exact ⟨Dn, by simp, h ▸ Le.refl _⟩; exact ⟨Do, by simp, h ▸ Le.refl _⟩; exact ⟨E1, by simp, h ▸ Le.refl _⟩; exact ⟨D, by simp, h ▸ Le.refl _⟩))
      · obtain rfl : m = 2 := by omega
        refine C.exit ?_
        refine C.thenExit ?_
        refine C.thenExit ?_
        refine C.blockExit ?_
        refine C.blockEnd ?_
        refine C.next ?_
        refine C.region [(false,0),(false,1),(false,2)] rfl ?_
        refine L.move rfl rfl rfl trivial ?_
        refine L.add rfl rfl rfl (by simp only [inK]; omega) rfl trivial ?_
        refine L.assign rfl rfl rfl trivial ?_
        refine L.nil ?_
        exact C.againR 12 (k + 1, v, vs, ν, Dn) ⟨by simp only; omega, ha, by simp only; rw [growT_snoc ht]; exact hla⟩ (by simp only; omega) ⟨(by first | rfl | (show some (Value.int _ _) = some (Value.int _ _); congr 2; omega)), (by first | rfl | (show some (Value.int _ _) = some (Value.int _ _); congr 2; omega)), trivial⟩ rfl rfl (List.Sublist.refl _) ((fun D0 h => by simp only [List.mem_cons, List.not_mem_nil, or_false] at h; rcases h with h | h | h | h; exact ⟨Dn, by simp, h ▸ Le.refl _⟩; exact ⟨Do, by simp, h ▸ Le.refl _⟩; exact ⟨E1, by simp, h ▸ Le.refl _⟩; exact ⟨D, by simp, h ▸ Le.refl _⟩))
    · obtain rfl : k = ((r.places.take i).foldl (fun o p => growT p o) [[]]).length := by omega
      rw [List.take_length] at hla
      refine C.exit ?_
      refine C.thenExit ?_
      refine C.thenExit ?_
      refine C.blockExit ?_
      refine C.next ?_
      refine C.freeze (A := []) (B := []) ha rfl (fun D8 hD8 hF8 => ?_)
      have hs8 := hF8.lists hla (hD8 Dn (by simp)) (by have := step_len2 p ((r.places.take i).foldl (fun o p => growT p o) [[]]); omega)
      refine C.region [(false,0),(false,1)] rfl ?_
      refine L.move rfl rfl rfl trivial ?_
      refine L.assign rfl rfl rfl trivial ?_
      refine L.nil ?_
      refine C.blockEnd ?_
      refine C.next ?_
      refine C.region [(false,0),(false,1),(false,2)] rfl ?_
      refine L.move rfl rfl rfl trivial ?_
      refine L.add rfl rfl rfl (by simp only [inK]; omega) rfl trivial ?_
      refine L.assign rfl rfl rfl trivial ?_
      refine L.nil ?_
      exact C.againR 18 (i + 1, v, D8) ⟨by simp only; omega, by simp only; rw [foldl_snoc hx]; exact hs8⟩ (by simp only; omega) ⟨(by first | rfl | (show some (Value.int _ _) = some (Value.int _ _); congr 2; omega)), (by first | rfl | (show some (Value.int _ _) = some (Value.int _ _); congr 2; omega)), trivial⟩ rfl rfl (List.Sublist.refl _) (fun D0 h => by simp only [List.mem_cons, List.not_mem_nil, or_false] at h; rcases h with h | h | h; exact ⟨D8, by simp, h ▸ Le.refl _⟩; exact ⟨E1, by simp, h ▸ Le.refl _⟩; exact ⟨D, by simp, h ▸ Le.refl _⟩)
  · obtain rfl : i = r.places.length := by omega
    rw [List.take_length, allT_foldl] at ho
    refine C.exit ?_
    refine C.thenExit ?_
    refine C.thenExit ?_
    refine C.blockExit ?_
    refine C.next ?_
    refine C.seq ?_
    refine C.region [(false,0),(false,1)] rfl ?_
    refine L.move rfl rfl rfl trivial ?_
    refine L.assign rfl rfl rfl trivial ?_
    refine L.nil ?_
    refine C.next ?_
    refine C.ret ?_
    exact leave (vs := [_]) rfl rfl rfl ⟨rfl, trivial⟩ (fun D hD => ho.up RL.up (hD _ (by simp)))
end Go.Fs
