/- Walks: the reference: all truths, those that are seen, looks. -/
import Derived.Test.YtgnnlghoadfffaaW11
namespace Go.Fs
open Go.Proofs
open C1
/-- Slice values that read as the lists. -/
def LA (D : Data) (vs : List Value) (ts : List (List Int)) : Prop := vs.length = ts.length ∧ ∀ (i : Nat) (v : Value) (t : List Int), vs[i]? = some v → ts[i]? = some t → Sl D RI 1 v t
theorem LA.nil {D : Data} : LA D [] [] := ⟨rfl, fun i v t h _ => by simp at h⟩
theorem LA.len {D : Data} {vs : List Value} {ts : List (List Int)} (h : LA D vs ts) : vs.length = ts.length := h.1
theorem LA.up {D D' : Data} {vs : List Value} {ts : List (List Int)} (h : LA D vs ts) (hl : Le D D') : LA D' vs ts := ⟨h.1, fun i v t hv ht => (h.2 i v t hv ht).up RI.up hl⟩
theorem LA.snoc {D : Data} {vs : List Value} {ts : List (List Int)} {v : Value} {t : List Int} (h : LA D vs ts) (hv : Sl D RI 1 v t) : LA D (vs ++ [v]) (ts ++ [t]) := by
  refine ⟨by simp [h.1], fun i u s hu hs => ?_⟩
  by_cases hi : i < vs.length
  · rw [List.getElem?_append_left hi] at hu
    rw [List.getElem?_append_left (by rw [← h.1]; exact hi)] at hs
    exact h.2 i u s hu hs
  · have h1 := (List.getElem?_eq_some_iff.1 hu).1
    simp only [List.length_append, List.length_singleton] at h1
    obtain rfl : i = vs.length := by omega
    rw [List.getElem?_append_right (Nat.le_refl _)] at hu
    rw [List.getElem?_append_right (by rw [h.1]; exact Nat.le_refl _), h.1] at hs
    simp at hu hs
    subst hu hs; exact hv
theorem Froz.lists {D D' : Data} {v : Value} {vs : List Value} {ts : List (List Int)} (hF : Froz D' v vs.length vs) (h : LA D vs ts) (hl : Le D D') (hb : ts.length ≤ 9223372036854775807) : Sl D' RL 1 v ts :=
  hF.sl h.1.symm (by rw [h.1]; exact hb) fun i t hi => by
    have hlt := (List.getElem?_eq_some_iff.1 hi).1
    have hv : vs[i]? = some (vs[i]'(by rw [h.1]; exact hlt)) := List.getElem?_eq_getElem _
    refine ⟨_, ⟨_, rfl, (h.2 i _ t hv hi).up RI.up hl⟩, rfl, ?_⟩
    rw [Nat.mul_one, List.drop_eq_getElem_cons (by rw [h.1]; exact hlt)]; rfl
open C1
theorem Seen_ok (sv : Value) (ts : List (List Int)) (p : Nat) (b : Int) (D : Data) (hS : Sl D RL 1 sv ts) (hlen : ts.length ≤ 10000) (hall : ∀ t ∈ ts, t.length ≤ 9 ∧ ∀ x ∈ t, 0 ≤ x ∧ x ≤ 1) (hp : ∀ t ∈ ts, p < t.length) :
    Fn Try.prog 47 #[sv, .int .i64 (p : Int), .int .i64 b] D (fun D' v => Sl D' RL 1 v (seenT ts p b)) := by
  refine enter 32 Try.func47 rfl rfl rfl rfl fun h0 => ?_
  refine C.seq ?_
  refine C.region [(false,0)] rfl ?_
  refine L.assign rfl rfl rfl trivial ?_
  refine L.nil ?_
  refine C.next ?_
  refine C.seq ?_
  refine C.region [(false,0)] rfl ?_
  refine L.assign rfl rfl rfl trivial ?_
  refine L.nil ?_
  refine C.next ?_
  refine C.seq ?_
  refine C.seq ?_
  refine C.region [(false,0)] rfl ?_
  refine L.assign rfl rfl rfl trivial ?_
  refine L.nil ?_
  refine C.next ?_
  refine C.block ?_
  refine C.loopR (γ := Nat × Value × List Value × Boxes) (fun g => ts.length - g.1) (fun g => g.1 ≤ ts.length ∧ Acc 22 1 g.2.1 g.2.2.1.length g.2.2.1 g.2.2.2 ∧ LA D g.2.2.1 (seenT (ts.take g.1) p b)) (fun g => [(8, .int .i64 (g.1 : Int)), (7, g.2.1)]) [(6, _), (0, _), (1, _), (2, _)] (fun g => g.2.2.2 ++ []) (fun g => [D]) (0, .slice none 0 0, [], []) ⟨by simp, by simpa using Acc.nil, by simpa [seenT] using LA.nil⟩ ⟨(by first | rfl | (show some (Value.int _ _) = some (Value.int _ _); congr 2; omega)), (by first | rfl | (show some (Value.int _ _) = some (Value.int _ _); congr 2; omega)), trivial⟩ ⟨rfl, rfl, rfl, rfl, trivial⟩ (List.Sublist.refl _) (ds_same) ?_
  rintro ⟨k, v, vs, ν⟩ ⟨h1, ha, hla⟩
  simp only at h1 ha hla
  refine C.seq ?_
  refine C.seq ?_
  refine C.region [(false,0),(false,1),(false,2),(false,3)] rfl ?_
  refine L.move rfl rfl rfl trivial ?_
  refine L.move rfl rfl rfl trivial ?_
  refine L.len rfl Try.underlying37 rfl (by assumption) rfl rfl trivial ?_
  refine L.lss rfl rfl rfl rfl trivial ?_
  refine L.nil ?_
  refine C.next ?_
  refine C.condD rfl (fun hc1 => ?_) (fun hc1 => ?_)
  · have hk : k < ts.length := by omega
    obtain ⟨t, ht⟩ : ∃ t, ts[k]? = some t := ⟨_, List.getElem?_eq_getElem hk⟩
    have htm := List.mem_of_getElem? ht
    obtain ⟨htl, htb⟩ := hall t htm
    have hpl := hp t htm
    have hx : t[p]? = some (t.getD p 0) := by rw [List.getD_eq_getElem?_getD, List.getElem?_eq_getElem hpl]; rfl
    have hvl := hla.len
    have hsl := seenT_length (ts.take k) p b
    have hlt : (ts.take k).length ≤ k := List.length_take_le _ _
    refine C.skip ?_
    refine C.next ?_
    refine C.seq ?_
    refine C.block ?_
    refine C.seq ?_
    refine C.region [(false,0),(false,1),(false,2),(false,3),(false,4),(false,5),(false,6),(false,7),(false,8)] rfl ?_
    refine L.move rfl rfl rfl trivial ?_
    refine L.move rfl rfl rfl trivial ?_
    refine L.indexS rfl Try.underlying37 Tf.s22 rfl hS rfl (by omega) ht rfl trivial (fun b1 o1 cs1 hr1 hcl1 hA1 => ?_)
    obtain ⟨w1, rfl, hw1⟩ := hr1
    refine L.loadD1 rfl (k := 0) Tf.a22 rfl hA1 (by first | simp | assumption) rfl List.not_mem_nil rfl trivial ?_
    refine L.move rfl rfl rfl trivial ?_
    refine L.indexS rfl Try.underlying22 Tf.s3 rfl hw1 rfl (by omega) hx rfl trivial (fun b2 o2 cs2 hr2 hcl2 hA2 => ?_)
    obtain rfl : cs2 = [.int .i64 _] := hr2
    refine L.loadD1 rfl (k := 0) Tf.a3 rfl hA2 (by first | simp | assumption) rfl List.not_mem_nil rfl trivial ?_
    refine L.move rfl rfl rfl trivial ?_
    refine L.eql rfl rfl rfl rfl trivial ?_
    refine L.nil ?_
    refine C.next ?_
    refine C.condD rfl (fun hc2 => ?_) (fun hc2 => ?_)
    · refine C.region [(false,0),(false,1),(false,2),(false,3),(false,4),(false,5),(false,6),(false,7)] rfl ?_
      refine L.move rfl rfl rfl trivial ?_
      refine L.move rfl rfl rfl trivial ?_
      refine L.move rfl rfl rfl trivial ?_
      refine L.indexS rfl Try.underlying37 Tf.s22 rfl hS rfl (by omega) ht rfl trivial (fun b3 o3 cs3 hr3 hcl3 hA3 => ?_)
      obtain ⟨w3, rfl, hw3⟩ := hr3
      refine L.loadD1 rfl (k := 0) Tf.a22 rfl hA3 (by first | simp | assumption) rfl List.not_mem_nil rfl trivial ?_
      refine L.buildSlice rfl Try.underlying37 Tf.s22 Tf.z22 rfl rfl rfl rfl (.cons hw3.cells1 rfl .nil) rfl trivial (fun b901 D901 hD901 hA901 => ?_)
      refine L.append (A := []) (B := _) rfl Try.underlying37 rfl rfl Tf.s22 Tf.z22 rfl Tf.i22 rfl rfl rfl ha (Src.lit hA901) (by simp) rfl (by simp) (by simpa using hw3.cell1) (by omega) (Or.inl rfl) rfl trivial (fun v1 ν1 ha1 => ?_)
      refine L.assign rfl rfl rfl trivial ?_
      refine L.nil ?_
      refine C.blockEnd ?_
      refine C.next ?_
      refine C.region [(false,0),(false,1),(false,2)] rfl ?_
      refine L.move rfl rfl rfl trivial ?_
      refine L.add rfl rfl rfl (by simp only [inK]; omega) rfl trivial ?_
      refine L.assign rfl rfl rfl trivial ?_
      refine L.nil ?_
      exact C.againR 26 (k + 1, v1, vs ++ [w3], ν1) ⟨by simp only; omega, by simpa using ha1, by simp only; rw [seenT_yes ht hc2]; exact hla.snoc hw3⟩ (by simp only; omega) ⟨(by first | rfl | (show some (Value.int _ _) = some (Value.int _ _); congr 2; omega)), (by first | rfl | (show some (Value.int _ _) = some (Value.int _ _); congr 2; omega)), trivial⟩ rfl rfl (List.Sublist.refl _) (fun D h => ⟨D, List.Mem.tail _ (h), Le.refl D⟩)
    · refine C.skip ?_
      refine C.blockEnd ?_
      refine C.next ?_
      refine C.region [(false,0),(false,1),(false,2)] rfl ?_
      refine L.move rfl rfl rfl trivial ?_
      refine L.add rfl rfl rfl (by simp only [inK]; omega) rfl trivial ?_
      refine L.assign rfl rfl rfl trivial ?_
      refine L.nil ?_
      exact C.againR 18 (k + 1, v, vs, ν) ⟨by simp only; omega, ha, by simp only; rw [seenT_no ht hc2]; exact hla⟩ (by simp only; omega) ⟨(by first | rfl | (show some (Value.int _ _) = some (Value.int _ _); congr 2; omega)), (by first | rfl | (show some (Value.int _ _) = some (Value.int _ _); congr 2; omega)), trivial⟩ rfl rfl (List.Sublist.refl _) (ds_same)
  · obtain rfl : k = ts.length := by omega
    rw [List.take_length] at hla
    refine C.exit ?_
    refine C.thenExit ?_
    refine C.thenExit ?_
    refine C.blockExit ?_
    refine C.next ?_
    refine C.seq ?_
    refine C.region [(false,0),(false,1)] rfl ?_
    refine L.move rfl rfl rfl trivial ?_
    refine L.assign rfl rfl rfl trivial ?_
    refine L.nil ?_
    refine C.next ?_
    refine C.ret ?_
    have hvl := hla.len
    have hsl := seenT_length ts p b
    refine Q.freeze (A := []) (B := []) ha rfl (fun D2 hD2 hF => ?_)
    exact leave (vs := [_]) rfl rfl rfl ⟨rfl, trivial⟩ (fun D' hD => (hF.lists hla (hD2 _ (by simp)) (by omega)).up RL.up (hD _ (by simp)))
theorem LookR_ok (sv : Value) (ts : List (List Int)) (n : Nat) (D : Data) (hS : Sl D RL 1 sv ts) (hne : ts ≠ []) (hlen : ts.length ≤ 10000) (hall : ∀ t ∈ ts, t.length ≤ 9 ∧ ∀ x ∈ t, 0 ≤ x ∧ x ≤ 1) (hn : ∀ t ∈ ts, t.length = n) :
    Fn Try.prog 33 #[sv] D (fun _ v => v = .tuple #[.int .i64 (lookK ts 1099511627776 n).1, .int .i64 (lookK ts 1099511627776 n).2]) := by
  have hl := hS.len
  obtain ⟨t0, ht0⟩ : ∃ t, ts[0]? = some t := ⟨ts[0]'(List.length_pos_iff.2 hne), List.getElem?_eq_getElem _⟩
  have ht0m := List.mem_of_getElem? ht0
  have hn0 := hn t0 ht0m
  have h90 := (hall t0 ht0m).1
  refine enter 32 Try.func33 rfl rfl rfl rfl fun h0 => ?_
  refine C.seq ?_
  refine C.region [(false,0),(false,1)] rfl ?_
  refine L.assign rfl rfl rfl trivial ?_
  refine L.assign rfl rfl rfl trivial ?_
  refine L.nil ?_
  refine C.next ?_
  refine C.seq ?_
  refine C.region [(false,0),(false,1)] rfl ?_
  refine L.assign rfl rfl rfl trivial ?_
  refine L.assign rfl rfl rfl trivial ?_
  refine L.nil ?_
  refine C.next ?_
  refine C.seq ?_
  refine C.seq ?_
  refine C.region [(false,0)] rfl ?_
  refine L.assign rfl rfl rfl trivial ?_
  refine L.nil ?_
  refine C.next ?_
  refine C.block ?_
  refine C.loopC (γ := Nat) (fun k => n - k) (fun k => k ≤ n) (fun k => [(6, .int .i64 (k : Int)), (4, .int .i64 (lookK ts 1099511627776 k).1), (5, .int .i64 (lookK ts 1099511627776 k).2)]) [(3, _), (2, _), (0, _)] (fun k => [D]) 0 (by omega) ⟨(by first | rfl | (show some (Value.int _ _) = some (Value.int _ _); congr 2; omega)), (by first | rfl | (show some (Value.int _ _) = some (Value.int _ _); congr 2; omega)), (by first | rfl | (show some (Value.int _ _) = some (Value.int _ _); congr 2; omega)), trivial⟩ ⟨rfl, rfl, rfl, trivial⟩ (ds_same) ?_
  rintro k h1
  refine C.seq ?_
  refine C.seq ?_
  refine C.region [(false,0),(false,1),(false,2),(false,3),(false,4),(false,5)] rfl ?_
  refine L.move rfl rfl rfl trivial ?_
  refine L.move rfl rfl rfl trivial ?_
  refine L.indexS rfl Try.underlying37 Tf.s22 rfl hS rfl (by omega) ht0 rfl trivial (fun b1 o1 cs1 hr1 hcl1 hA1 => ?_)
  obtain ⟨w1, rfl, hw1⟩ := hr1
  refine L.loadD1 rfl (k := 0) Tf.a22 rfl hA1 (by first | simp | assumption) rfl List.not_mem_nil rfl trivial ?_
  refine L.len rfl Try.underlying22 rfl hw1 rfl rfl trivial ?_
  refine L.lss rfl rfl rfl rfl trivial ?_
  refine L.nil ?_
  refine C.next ?_
  refine C.condD rfl (fun hc1 => ?_) (fun hc1 => ?_)
  · have hk : k < n := by omega
    have hs0 := seenT_length ts k 0
    have hs1 := seenT_length ts k 1
    refine C.skip ?_
    refine C.next ?_
    refine C.seq ?_
    refine C.block ?_
    refine C.seq ?_
    refine C.region [(false,0),(false,1),(false,2),(false,3),(false,4),(false,5),(false,6),(false,7),(false,8),(false,9)] rfl ?_
    refine L.move rfl rfl rfl trivial ?_
    refine L.move rfl rfl rfl trivial ?_
    refine L.call rfl rfl rfl (fun D1 hD1 => Seen_ok _ ts k 0 _ (hS.up RL.up (hD1 _ (by simp))) hlen hall (fun t ht => by have := hn t ht; omega)) rfl trivial (fun v1 D1 hD1 hp1 => ?_)
    refine L.len rfl Try.underlying37 rfl hp1 rfl rfl trivial ?_
    refine L.move rfl rfl rfl trivial ?_
    refine L.move rfl rfl rfl trivial ?_
    refine L.call rfl rfl rfl (fun D2 hD2 => Seen_ok _ ts k 1 _ (hS.up RL.up (hD2 _ (by simp))) hlen hall (fun t ht => by have := hn t ht; omega)) rfl trivial (fun v2 D2 hD2 hp2 => ?_)
    refine L.len rfl Try.underlying37 rfl hp2 rfl rfl trivial ?_
    refine L.max2 rfl rfl rfl rfl trivial ?_
    refine L.assign rfl rfl rfl trivial ?_
    refine L.nil ?_
    refine C.next ?_
    refine C.seq ?_
    refine C.region [(false,0),(false,1),(false,2)] rfl ?_
    refine L.move rfl rfl rfl trivial ?_
    refine L.move rfl rfl rfl trivial ?_
    refine L.lss rfl rfl rfl rfl trivial ?_
    refine L.nil ?_
    refine C.next ?_
    refine C.condD rfl (fun hc2 => ?_) (fun hc2 => ?_)
    · refine C.region [(false,0),(false,1),(false,2),(false,3)] rfl ?_
      refine L.move rfl rfl rfl trivial ?_
      refine L.move rfl rfl rfl trivial ?_
      refine L.assign rfl rfl rfl trivial ?_
      refine L.assign rfl rfl rfl trivial ?_
      refine L.nil ?_
      refine C.blockEnd ?_
      refine C.next ?_
      refine C.region [(false,0),(false,1),(false,2)] rfl ?_
      refine L.move rfl rfl rfl trivial ?_
      refine L.add rfl rfl rfl (by simp only [inK]; omega) rfl trivial ?_
      refine L.assign rfl rfl rfl trivial ?_
      refine L.nil ?_
      exact C.againR 29 (k + 1) (by omega) (by omega) ⟨(by first | rfl | (show some (Value.int _ _) = some (Value.int _ _); congr 2; omega)), (by rw [lookK_yes hc2] <;> rfl), (by rw [lookK_yes hc2] <;> rfl), trivial⟩ rfl rfl (List.Sublist.refl _) (fun D h => ⟨D, List.Mem.tail _ (List.Mem.tail _ (h)), Le.refl D⟩)
    · refine C.skip ?_
      refine C.blockEnd ?_
      refine C.next ?_
      refine C.region [(false,0),(false,1),(false,2)] rfl ?_
      refine L.move rfl rfl rfl trivial ?_
      refine L.add rfl rfl rfl (by simp only [inK]; omega) rfl trivial ?_
      refine L.assign rfl rfl rfl trivial ?_
      refine L.nil ?_
      exact C.againR 25 (k + 1) (by omega) (by omega) ⟨(by first | rfl | (show some (Value.int _ _) = some (Value.int _ _); congr 2; omega)), (by rw [lookK_no hc2] <;> rfl), (by rw [lookK_no hc2] <;> rfl), trivial⟩ rfl rfl (List.Sublist.refl _) (fun D h => ⟨D, List.Mem.tail _ (List.Mem.tail _ (h)), Le.refl D⟩)
  · obtain rfl : k = n := by omega
    refine C.exit ?_
    refine C.thenExit ?_
    refine C.thenExit ?_
    refine C.blockExit ?_
    refine C.next ?_
    refine C.seq ?_
    refine C.region [(false,0),(false,1),(false,2),(false,3)] rfl ?_
    refine L.move rfl rfl rfl trivial ?_
    refine L.move rfl rfl rfl trivial ?_
    refine L.assign rfl rfl rfl trivial ?_
    refine L.assign rfl rfl rfl trivial ?_
    refine L.nil ?_
    refine C.next ?_
    refine C.ret ?_
    exact leave (vs := [_, _]) rfl rfl rfl ⟨rfl, rfl, trivial⟩ (fun D hD => rfl)
end Go.Fs
