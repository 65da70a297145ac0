/- Walks: the reference: all pairings, and the most that one makes. -/
import Derived.Test.YtjhdcelmgfajbaaW15
namespace Go.Fs
open Go.Proofs
open C7
def RLP : Rd (List (Int × Int)) := fun D l cs => ∃ v, cs = [v] ∧ Sl D R2 2 v l
theorem RLP.up : RLP.Up := fun hl _ _ ⟨v, hc, hs⟩ => ⟨v, hc, hs.up R2.up hl⟩
/-- Values that read as lists of pairs. -/
inductive LP (D : Data) : List Value → List (List (Int × Int)) → Prop
  | nil : LP D [] []
  | cons {v l vs ls} (h : Sl D R2 2 v l) (r : LP D vs ls) : LP D (v :: vs) (l :: ls)
theorem LP.up {D D' : Data} {vs : List Value} {ls : List (List (Int × Int))} (h : LP D vs ls) (hl : Le D D') : LP D' vs ls := by
  induction h with
  | nil => exact .nil
  | cons h _ ih => exact .cons (h.up R2.up hl) ih
theorem LP.len {D : Data} {vs : List Value} {ls : List (List (Int × Int))} (h : LP D vs ls) : vs.length = ls.length := by
  induction h with
  | nil => rfl
  | cons _ _ ih => rw [List.length_cons, List.length_cons, ih]
theorem LP.snoc {D : Data} {vs : List Value} {ls : List (List (Int × Int))} {v : Value} {l : List (Int × Int)} (h : LP D vs ls) (hv : Sl D R2 2 v l) : LP D (vs ++ [v]) (ls ++ [l]) := by
  induction h with
  | nil => exact .cons hv .nil
  | cons h _ ih => exact .cons h ih
theorem LP.get {D : Data} {vs : List Value} {ls : List (List (Int × Int))} (h : LP D vs ls) : ∀ {i : Nat} {l : List (Int × Int)}, ls[i]? = some l → ∃ v, vs[i]? = some v ∧ Sl D R2 2 v l := by
  induction h with
  | nil => intro i l hi; simp at hi
  | @cons v l0 vs ls h _ ih =>
    intro i l hi
    cases i with
    | zero => obtain rfl : l0 = l := by simpa using hi
              exact ⟨v, rfl, h⟩
    | succ i => exact ih (by simpa using hi)
theorem Froz.plists {D : Data} {v : Value} {n : Nat} {vs : List Value} {ls : List (List (Int × Int))} (hF : Froz D v n vs) (h : LP D vs ls) (hn : vs.length = n) (hb : n ≤ 9223372036854775807) : Sl D RLP 1 v ls :=
  hF.sl (by rw [← h.len]; exact hn) hb fun i l hi => by
    obtain ⟨u, hu, hs⟩ := h.get hi
    refine ⟨[u], ⟨u, rfl, hs⟩, rfl, ?_⟩
    have hlt := (List.getElem?_eq_some_iff.1 hu).1
    rw [Nat.mul_one, List.drop_eq_getElem_cons hlt]
    rw [List.getElem?_eq_getElem hlt] at hu
    rw [Option.some.inj hu]; rfl
theorem bit_one {w f : Nat} (h : ((w >>> f : Nat) : Int) % 2 = 1) : w.testBit f = true := by
  rw [bit_mod] at h
  cases e : w.testBit f with
  | true => rfl
  | false => rw [e] at h; simp at h
theorem bit_zero {w f : Nat} (h : ¬ ((w >>> f : Nat) : Int) % 2 = 1) : w.testBit f = false := by
  rw [bit_mod] at h
  cases e : w.testBit f with
  | false => rfl
  | true => rw [e] at h; simp at h
theorem pow8 {k : Nat} (h : k ≤ 6) : 8 ^ k ≤ 262144 := by
  have : 8 ^ k ≤ 8 ^ 6 := Nat.pow_le_pow_right (by omega) h
  omega
theorem pow87 {k : Nat} (h : k ≤ 7) : 8 ^ k ≤ 2097152 := by
  have : 8 ^ k ≤ 8 ^ 7 := Nat.pow_le_pow_right (by omega) h
  omega
theorem flat_len {α β : Type} {f : α → List β} {c : Nat} : ∀ {l : List α}, (∀ x ∈ l, (f x).length ≤ c) → (l.flatMap f).length ≤ l.length * c
  | [], _ => by simp
  | x :: l, h => by
    rw [List.flatMap_cons, List.length_append, List.length_cons, Nat.add_mul]
    have := h x List.mem_cons_self
    have := flat_len (l := l) fun y hy => h y (List.mem_cons_of_mem _ hy)
    omega
theorem prs_len {n : Nat} (hn : n ≤ 7) : ∀ k w, (prs n k w).length ≤ 8 ^ k
  | 0, w => by simp [prs]
  | k + 1, w => by
    have ih := prs_len hn k
    unfold prs
    split
    · have := ih w; rw [Nat.pow_succ]; omega
    · rw [List.length_append]
      have h1 := ih w
      have h2 := flat_len (f := fun b => (prs n k (w ||| 2 ^ b)).map fun l => (n - (k + 1), b) :: l) (c := 8 ^ k) (l := (List.range n).filter fun b => decide (n - (k + 1) < b) && !w.testBit b) fun b _ => by rw [List.length_map]; exact ih _
      have h3 := List.length_filter_le (fun b => decide (n - (k + 1) < b) && !w.testBit b) (List.range n)
      rw [List.length_range] at h3
      have h4 : ((List.range n).filter fun b => decide (n - (k + 1) < b) && !w.testBit b).length * 8 ^ k ≤ 7 * 8 ^ k := Nat.mul_le_mul_right _ (by omega)
      rw [Nat.pow_succ]; omega
theorem firsts_nodup {l : List (Nat × Nat)} (h : (ends l).Nodup) : (l.map fun p => p.1).Nodup := by
  induction l with
  | nil => exact List.nodup_nil
  | cons p l ih =>
    unfold ends at h
    rw [List.flatMap_cons, List.nodup_append] at h
    rw [List.map_cons, List.nodup_cons]
    refine ⟨fun hm => ?_, ih h.2.1⟩
    obtain ⟨q, hq, e⟩ := List.mem_map.1 hm
    exact h.2.2 p.1 (by simp) q.1 (List.mem_flatMap.2 ⟨q, hq, by simp⟩) e.symm
theorem prs_short {n k w : Nat} {l : List (Nat × Nat)} (hn : n ≤ 7) (hk : k ≤ n) (hl : l ∈ prs n k w) : (pI l).length ≤ 7 := by
  have ok := prs_ok k w hk l hl
  have h2 := length_le_of_sub (l := l.map fun p => p.1) (m := List.range n) (firsts_nodup ok.nd) fun x hx => by
    obtain ⟨p, hp, rfl⟩ := List.mem_map.1 hx
    obtain ⟨_, h2, h3, _⟩ := ok.at_ p hp
    exact List.mem_range.2 (by omega)
  rw [List.length_map, List.length_range] at h2
  simp only [pI, List.length_map]; omega
def partP (n k f w b : Nat) : List (List (Int × Int)) := (prs n k w ++ ((List.range b).filter fun b => decide (f < b) && !w.testBit b).flatMap fun b => (prs n k (w ||| 2 ^ b)).map fun l => (f, b) :: l).map pI
theorem partP_start {n k f w : Nat} : partP n k f w (f + 1) = (prs n k w).map pI := by
  unfold partP
  rw [List.filter_eq_nil_iff.2 fun b hb => by have := List.mem_range.1 hb; simp; omega]
  simp
theorem partP_no {n k f w b : Nat} (h : w.testBit b = true) : partP n k f w (b + 1) = partP n k f w b := by
  unfold partP; rw [List.range_succ, List.filter_append, List.flatMap_append]; simp [h]
theorem partP_yes {n k f w b : Nat} (hb : f < b) (h : w.testBit b = false) : partP n k f w (b + 1) = partP n k f w b ++ (prs n k (w ||| 2 ^ b)).map (fun l => pI ((f, b) :: l)) := by
  unfold partP; rw [List.range_succ, List.filter_append, List.flatMap_append]; simp [h, hb]
theorem partP_len {n k f w b : Nat} (hn : n ≤ 7) (hb : b ≤ n) : (partP n k f w b).length ≤ 8 * 8 ^ k := by
  unfold partP
  rw [List.length_map, List.length_append]
  have h1 := prs_len hn k w
  have h2 := flat_len (f := fun b => (prs n k (w ||| 2 ^ b)).map fun l => (f, b) :: l) (c := 8 ^ k) (l := (List.range b).filter fun b => decide (f < b) && !w.testBit b) fun b _ => by rw [List.length_map]; exact prs_len hn k _
  have h3 := List.length_filter_le (fun b => decide (f < b) && !w.testBit b) (List.range b)
  rw [List.length_range] at h3
  have h4 : ((List.range b).filter fun b => decide (f < b) && !w.testBit b).length * 8 ^ k ≤ 7 * 8 ^ k := Nat.mul_le_mul_right _ (by omega)
  omega
theorem prs_skip {n k f w : Nat} (hf : f + (k + 1) = n) (h : w.testBit f = true) : (prs n (k + 1) w).map pI = (prs n k w).map pI := by
  rw [prs, show n - (k + 1) = f by omega, if_pos h]
theorem prs_part {n k f w : Nat} (hf : f + (k + 1) = n) (h : w.testBit f = false) : (prs n (k + 1) w).map pI = partP n k f w n := by
  rw [prs, show n - (k + 1) = f by omega, if_neg (by rw [h]; simp)]; rfl
theorem most_step {y : YardD} {t : List Pt} {ls : List (List (Int × Int))} {i : Nat} {l : List (Int × Int)} (h : ls[i]? = some l) : ((((ls.take (i + 1)).map (makesR y t)).foldl max 0 : Nat) : Int) = max ((((ls.take i).map (makesR y t)).foldl max 0 : Nat) : Int) (makesR y t l : Int) := by
  rw [List.take_add_one, h, Option.toList_some, List.map_append, List.foldl_append]
  show ((max _ _ : Nat) : Int) = _
  omega
theorem Pairings0_ok {y : YardD} (hn7 : y.chairs.length ≤ 7) : ∀ (kk f : Nat), f + kk = y.chairs.length → ∀ (w : Nat), w < 128 → ∀ (yv : Value) (D : Data), YardIs D yv y → FnO Try.prog 33 #[yv, .int .i64 (f : Int), .int .i64 (w : Int)] D (fun D' v ν => ∃ vs, Acc 27 1 v vs.length vs ν ∧ LP D' vs ((prs y.chairs.length kk w).map pI)) := by
  intro kk
  induction kk using Nat.strongRecOn with
  | _ kk ih =>
  intro f hf w hw yv D hy
  have hy0 := hy
  obtain ⟨cv, qv, rfl, hc, hq⟩ := hy
  have hcl := hc.len
  refine enterO 72 Try.func33 rfl rfl rfl rfl fun h0 => ?_
  refine C.seq ?_
  refine C.region [(false,0),(false,1)] rfl ?_
  refine L.boxD rfl rfl rfl rfl trivial (fun q1 E1 hE1 hB1 => ?_)
  refine L.assign rfl rfl rfl trivial ?_
  refine L.nil ?_
  refine C.next ?_
  refine C.seq ?_
  refine C.seq ?_
  refine C.region [(false,0),(false,1),(false,2),(false,3),(false,4)] rfl ?_
  refine L.move rfl rfl rfl trivial ?_
  refine L.fieldAddr rfl Tf.f25_0 rfl rfl trivial ?_
  refine L.loadD1 rfl (k := 0) Tf.a22 rfl hB1 (by first | simp | assumption) rfl List.not_mem_nil rfl trivial ?_
  refine L.len rfl Try.underlying22 rfl hc rfl rfl trivial ?_
  refine L.geq rfl rfl rfl rfl trivial ?_
  refine L.nil ?_
  refine C.next ?_
  refine C.condD rfl (fun hc1 => ?_) (fun hc1 => ?_)
  · obtain rfl : kk = 0 := by omega
    refine C.seq ?_
    refine C.region [(false,0),(false,1)] rfl ?_
    refine L.buildSliceO rfl Try.underlying49 Tf.s27 Tf.z27 rfl rfl rfl rfl (.cons rfl rfl .nil) rfl trivial (fun b3 hacc => ?_)
    refine L.assign rfl rfl rfl trivial ?_
    refine L.nil ?_
    refine C.next ?_
    refine C.ret ?_
    refine C.thenRet ?_
    exact leave (vs := [_]) rfl rfl rfl ⟨rfl, trivial⟩ (fun D' hD => ⟨[.slice none 0 0], hacc, .cons Sl.nil .nil⟩)
  · obtain ⟨k, rfl⟩ : ∃ k, kk = k + 1 := ⟨kk - 1, by omega⟩
    have hf7 : f < 7 := by omega
    refine C.skip ?_
    refine C.next ?_
    refine C.seq ?_
    refine C.region [(false,0),(false,1),(false,2),(false,3),(false,4),(false,5)] rfl ?_
    refine L.loadDW rfl Tf.a25 rfl hB1 (by first | simp | assumption) Tf.s25 List.not_mem_nil rfl trivial ?_
    refine L.move rfl rfl rfl trivial ?_
    refine L.add rfl rfl rfl (by simp only [inK]; omega) rfl trivial ?_
    refine L.move rfl rfl rfl trivial ?_
    refine L.callO rfl rfl rfl (fun D5 hD5 => ih k (by omega) (f + 1) (by omega) w hw _ D5 (hy0.up (hD5 _ (by simp)))) rfl trivial (fun v1 D6 ν1 hD6 hp6 => ?_)
    obtain ⟨vs1, ha1, hla1⟩ := hp6
    refine L.assign rfl rfl rfl trivial ?_
    refine L.nil ?_
    refine C.next ?_
    refine C.seq ?_
    refine C.seq ?_
    refine C.region [(false,0),(false,1),(false,2),(false,3),(false,4),(false,5)] rfl ?_
    refine L.move rfl rfl rfl trivial ?_
    refine L.move rfl rfl rfl trivial ?_
    refine L.convI rfl Try.underlying3 Try.underlying88 rfl (by simp only [inK]; omega) rfl trivial ?_
    refine L.shrN rfl rfl rfl (by omega) rfl trivial ?_
    refine L.rem rfl rfl rfl (Int.natCast_nonneg _) (by omega) (by simp only [inK]; omega) rfl trivial ?_
    refine L.eql rfl rfl rfl rfl trivial ?_
    refine L.nil ?_
    refine C.next ?_
    refine C.condD rfl (fun hc2 => ?_) (fun hc2 => ?_)
    · have hbf : w.testBit f = true := bit_one hc2
      refine C.seq ?_
      refine C.region [(false,0),(false,1)] rfl ?_
      refine L.move rfl rfl rfl trivial ?_
      refine L.assign rfl rfl rfl trivial ?_
      refine L.nil ?_
      refine C.next ?_
      refine C.ret ?_
      refine C.thenRet ?_
      refine Q.boxesEq ν1 (by simp) ?_
      have ha1x := ha1
      exact leave (vs := [_]) rfl rfl rfl ⟨rfl, trivial⟩ (fun D' hD => ⟨vs1, ha1x, by rw [prs_skip hf hbf]; exact hla1.up (hD _ (by simp))⟩)
    · have hbf : w.testBit f = false := bit_zero hc2
      refine C.skip ?_
      refine C.next ?_
      refine C.seq ?_
      refine C.seq ?_
      refine C.region [(false,0),(false,1),(false,2)] rfl ?_
      refine L.move rfl rfl rfl trivial ?_
      refine L.add rfl rfl rfl (by simp only [inK]; omega) rfl trivial ?_
      refine L.assign rfl rfl rfl trivial ?_
      refine L.nil ?_
      refine C.next ?_
      refine C.block ?_
      refine C.loopR (γ := Nat × Value × List Value × Boxes × Data) (fun g => y.chairs.length - g.1) (fun g => f + 1 ≤ g.1 ∧ g.1 ≤ y.chairs.length ∧ Acc 27 1 g.2.1 g.2.2.1.length g.2.2.1 g.2.2.2.1 ∧ LP g.2.2.2.2 g.2.2.1 ((partP y.chairs.length k f w g.1))) (fun g => [(8, .int .i64 (g.1 : Int)), (7, g.2.1)]) [(6, _), (3, _), (1, _), (2, _)] (fun g => g.2.2.2.1 ++ []) (fun g => [g.2.2.2.2, E1, D]) (f + 1, v1, vs1, ν1, D6) ⟨by simp, by simp only; omega, ha1, by simp only; rw [partP_start]; exact hla1⟩ ⟨(by first | rfl | (show some (Value.int _ _) = some (Value.int _ _); congr 2; omega)), (by first | rfl | (show some (Value.int _ _) = some (Value.int _ _); congr 2; omega)), trivial⟩ ⟨rfl, rfl, rfl, rfl, trivial⟩ ((by simp)) ((fun D0 h => by simp only [List.mem_cons, List.not_mem_nil, or_false] at h; rcases h with h | h | h; exact ⟨D6, by simp, h ▸ Le.refl _⟩; exact ⟨E1, by simp, h ▸ Le.refl _⟩; exact ⟨D, by simp, h ▸ Le.refl _⟩)) ?_
      rintro ⟨b, v, vs, ν, Dn⟩ ⟨h0, h1, ha, hla⟩
      simp only at h0 h1 ha hla
      have hpl := partP_len (n := y.chairs.length) (k := k) (f := f) (w := w) (b := b) hn7 h1
      have hpw := pow8 (show k ≤ 6 by omega)
      have hvl := hla.len
      refine C.seq ?_
      refine C.seq ?_
      refine C.region [(false,0),(false,1),(false,2),(false,3),(false,4)] rfl ?_
      refine L.move rfl rfl rfl trivial ?_
      refine L.fieldAddr rfl Tf.f25_0 rfl rfl trivial ?_
      refine L.loadD1 rfl (k := 0) Tf.a22 rfl hB1 (by first | simp | assumption) rfl List.not_mem_nil rfl trivial ?_
      refine L.len rfl Try.underlying22 rfl hc rfl rfl trivial ?_
      refine L.lss rfl rfl rfl rfl trivial ?_
      refine L.nil ?_
      refine C.next ?_
      refine C.condD rfl (fun hc3 => ?_) (fun hc3 => ?_)
      · have hbn : b < y.chairs.length := by simp only at hc3; omega
        have hb7 : b < 7 := by omega
        have hpb := pow_lt7 hb7
        refine C.skip ?_
        refine C.next ?_
        refine C.seq ?_
        refine C.block ?_
        refine C.seq ?_
        refine C.seq ?_
        refine C.region [(false,0),(false,1),(false,2),(false,3),(false,4),(false,5)] rfl ?_
        refine L.move rfl rfl rfl trivial ?_
        refine L.move rfl rfl rfl trivial ?_
        refine L.convI rfl Try.underlying3 Try.underlying88 rfl (by simp only [inK]; omega) rfl trivial ?_
        refine L.shrN rfl rfl rfl (by first | omega | (simp only; omega)) rfl trivial ?_
        refine L.rem rfl rfl rfl (Int.natCast_nonneg _) (by omega) (by simp only [inK]; omega) rfl trivial ?_
        refine L.eql rfl rfl rfl rfl trivial ?_
        refine L.nil ?_
        refine C.next ?_
        refine C.condD rfl (fun hc4 => ?_) (fun hc4 => ?_)
        · have hbw : w.testBit b = true := bit_one hc4
          refine C.exit ?_
          refine C.thenExit ?_
          refine C.blockExit ?_
          refine C.next ?_
          refine C.region [(false,0),(false,1),(false,2)] rfl ?_
          refine L.move rfl rfl rfl trivial ?_
          refine L.add rfl rfl rfl (by simp only [inK]; omega) rfl trivial ?_
          refine L.assign rfl rfl rfl trivial ?_
          refine L.nil ?_
          exact C.againR 16 (b + 1, v, vs, ν, Dn) ⟨by simp only; omega, by simp only; omega, ha, by simp only; rw [partP_no hbw]; exact hla⟩ (by simp only; omega) ⟨(by first | rfl | (show some (Value.int _ _) = some (Value.int _ _); congr 2; omega)), (by first | rfl | (show some (Value.int _ _) = some (Value.int _ _); congr 2; omega)), trivial⟩ rfl rfl (List.Sublist.refl _) (fun D0 h => by simp only [List.mem_cons, List.not_mem_nil, or_false] at h; rcases h with h | h | h; exact ⟨Dn, by simp, h ▸ Le.refl _⟩; exact ⟨E1, by simp, h ▸ Le.refl _⟩; exact ⟨D, by simp, h ▸ Le.refl _⟩)
        · have hbw : w.testBit b = false := bit_zero hc4
          have hql := prs_len hn7 k (w ||| 2 ^ b)
          refine C.skip ?_
          refine C.next ?_
          refine C.seq ?_
          refine C.region [(false,0),(false,1),(false,2),(false,3),(false,4),(false,5),(false,6),(false,7),(false,8),(false,9)] rfl ?_
          refine L.loadDW rfl Tf.a25 rfl hB1 (by first | simp | assumption) Tf.s25 List.not_mem_nil rfl trivial ?_
          refine L.move rfl rfl rfl trivial ?_
          refine L.add rfl rfl rfl (by simp only [inK]; omega) rfl trivial ?_
          refine L.move rfl rfl rfl trivial ?_
          refine L.move rfl rfl rfl trivial ?_
          refine L.convI rfl Try.underlying3 Try.underlying88 rfl (by simp only [inK]; omega) rfl trivial ?_
          refine L.shl1U rfl rfl rfl (by first | omega | (simp only; omega)) rfl trivial ?_
          refine L.orB rfl rfl rfl (by first | omega | (simp only; omega)) (by first | omega | (simp only; omega)) rfl trivial ?_
          refine L.callO rfl rfl rfl (fun D7 hD7 => ih k (by omega) (f + 1) (by omega) (w ||| 2 ^ b) (or_lt7 hw hpb) _ D7 (hy0.up (hD7 _ (by simp)))) rfl trivial (fun v2 D8 ν2 hD8 hp8 => ?_)
          obtain ⟨vs2, ha2, hla2⟩ := hp8
          refine L.assign rfl rfl rfl trivial ?_
          refine L.nil ?_
          refine C.next ?_
          refine C.seq ?_
          refine C.freeze (A := []) (B := ν ++ []) ha2 rfl (fun D9 hD9 hF9 => ?_)
          have hsl := hF9.plists (hla2.up (hD9 _ (by simp))) rfl (by have := hla2.len; rw [List.length_map] at this; omega)
          have hll := hsl.len
          refine C.region [(false,0)] rfl ?_
          refine L.assign rfl rfl rfl trivial ?_
          refine L.nil ?_
          refine C.next ?_
          refine C.block ?_
          refine C.loopR (γ := Nat × Value × List Value × Boxes × Data) (fun g => (prs y.chairs.length k (w ||| 2 ^ b)).length - g.1) (fun g => g.1 ≤ (prs y.chairs.length k (w ||| 2 ^ b)).length ∧ Acc 27 1 g.2.1 g.2.2.1.length g.2.2.1 g.2.2.2.1 ∧ LP g.2.2.2.2 g.2.2.1 ((partP y.chairs.length k f w b) ++ ((prs y.chairs.length k (w ||| 2 ^ b)).take g.1).map (fun l => pI ((f, b) :: l)))) (fun g => [(10, .int .i64 (g.1 : Int)), (7, g.2.1)]) [(9, _), (52, _), (51, _), (50, _), (49, _), (48, _), (47, _), (46, _), (45, _), (44, _), (43, _), (42, _), (41, _), (40, _), (39, _), (38, _), (35, _), (34, _), (33, _), (32, _), (31, _), (8, _), (6, _), (3, _), (1, _), (2, _)] (fun g => g.2.2.2.1 ++ []) (fun g => [g.2.2.2.2, D9, E1, D]) (0, v, vs, ν, D9) ⟨by simp, ha, by simpa using hla.up (hD9 Dn (by simp))⟩ ⟨(by first | rfl | (show some (Value.int _ _) = some (Value.int _ _); congr 2; omega)), (by first | rfl | (show some (Value.int _ _) = some (Value.int _ _); congr 2; omega)), trivial⟩ ⟨rfl, rfl, rfl, rfl, rfl, rfl, rfl, rfl, rfl, rfl, rfl, rfl, rfl, rfl, rfl, rfl, rfl, rfl, rfl, rfl, rfl, rfl, rfl, rfl, rfl, rfl, trivial⟩ ((by simp)) ((fun D0 h => by simp only [List.mem_cons, List.not_mem_nil, or_false] at h; rcases h with h | h | h | h; exact ⟨D9, by simp, h ▸ Le.refl _⟩; exact ⟨D9, by simp, h ▸ Le.refl _⟩; exact ⟨E1, by simp, h ▸ Le.refl _⟩; exact ⟨D, by simp, h ▸ Le.refl _⟩)) ?_
          rintro ⟨i, v, vs, ν, Dn⟩ ⟨h2, ha, hla⟩
          simp only at h2 ha hla
          have hvl := hla.len
          rw [List.length_append, List.length_map, List.length_take] at hvl
          refine C.seq ?_
          refine C.seq ?_
          refine C.region [(false,0),(false,1),(false,2),(false,3)] rfl ?_
          refine L.move rfl rfl rfl trivial ?_
          refine L.move rfl rfl rfl trivial ?_
          refine L.len rfl Try.underlying49 rfl hsl rfl rfl trivial ?_
          refine L.lss rfl rfl rfl rfl trivial ?_
          refine L.nil ?_
          refine C.next ?_
          refine C.condD rfl (fun hc5 => ?_) (fun hc5 => ?_)
          · have hi : i < (prs y.chairs.length k (w ||| 2 ^ b)).length := by simp only [List.length_map] at hc5; omega
            obtain ⟨l, hl0⟩ : ∃ l, (prs y.chairs.length k (w ||| 2 ^ b))[i]? = some l := ⟨_, List.getElem?_eq_getElem hi⟩
            have hl1 : ((prs y.chairs.length k (w ||| 2 ^ b)).map pI)[i]? = some (pI l) := by rw [List.getElem?_map, hl0]; rfl
            have hll2 : (pI l).length ≤ 7 := prs_short hn7 (by omega) (List.mem_of_getElem? hl0)
            refine C.skip ?_
            refine C.next ?_
            refine C.seq ?_
            refine C.block ?_
            refine C.region [(false,0),(false,1),(false,2),(false,3),(false,4),(false,5),(false,6),(false,7),(false,8),(false,9),(false,10),(false,11),(false,12)] rfl ?_
            refine L.move rfl rfl rfl trivial ?_
            refine L.move rfl rfl rfl trivial ?_
            refine L.move rfl rfl rfl trivial ?_
            refine L.build (cs := [.int .i64 (f : Int), .int .i64 (b : Int)]) rfl Tf.p130 Tf.z130 rfl rfl rfl trivial ?_
            refine L.buildSliceO rfl Try.underlying27 Tf.s130 Tf.z130 rfl rfl rfl rfl (.cons rfl rfl .nil) rfl trivial (fun b3 hacc => ?_)
            refine L.move rfl rfl rfl trivial ?_
            refine L.move rfl rfl rfl trivial ?_
            refine L.indexS rfl Try.underlying49 Tf.s27 rfl hsl rfl (by omega) hl1 rfl trivial (fun b1 o1 cs1 hr1 hcl1 hA1 => ?_)
            obtain ⟨w1, rfl, hw1⟩ := hr1
            refine L.loadD1 rfl (k := 0) Tf.a27 rfl hA1 (by first | simp | assumption) rfl List.not_mem_nil rfl trivial ?_
            refine L.boxesEq ([] ++ [(_, _)] ++ (ν ++ [])) rfl ?_
            refine L.append (A := []) (ν := [(_, _)]) (B := ν ++ []) rfl Try.underlying27 rfl rfl Tf.s130 Tf.z130 rfl Tf.i130 rfl rfl rfl hacc (Src.of (cells := fun p : Int × Int => [.int .i64 p.1, .int .i64 p.2]) (fun _ _ _ h => h) (fun _ => rfl) hw1) (by simp) (prC_length _) rfl (prC_cell1 _) (by have := hll2; omega) (Or.inl rfl) rfl trivial (fun v8 ν8 ha8 => ?_)
            have ha8' : Acc 130 2 v8 (pI ((f, b) :: l)).length (prC (pI ((f, b) :: l))) ν8 := by simpa [prC, pI, Nat.add_comm] using ha8
            refine L.freeze (A := []) (B := ν ++ []) ha8' rfl (fun D10 hD10 hF10 => ?_)
            have hw8 := hF10.prs rfl (by simp [pI]; have := hll2; simp [pI] at this; omega)
            refine L.buildSlice rfl Try.underlying49 Tf.s27 Tf.z27 rfl rfl rfl rfl (.cons ha8.cells1 rfl .nil) rfl trivial (fun b901 D901 hD901 hA901 => ?_)
            refine L.append (A := []) (B := []) rfl Try.underlying49 rfl rfl Tf.s27 Tf.z27 rfl Tf.i27 rfl rfl rfl ha (Src.lit hA901) (by simp) rfl (by simp) (by simpa using hw8.cell1) (by have := hla.len; omega) (Or.inl rfl) rfl trivial (fun v7 ν7 ha7 => ?_)
            have hla7 := (hla.up (hD901 Dn (by simp))).snoc (hw8.up R2.up (hD901 D10 (by simp)))
            refine L.assign rfl rfl rfl trivial ?_
            refine L.nil ?_
            refine C.blockEnd ?_
            refine C.next ?_
            refine C.region [(false,0),(false,1),(false,2)] rfl ?_
            refine L.move rfl rfl rfl trivial ?_
            refine L.add rfl rfl rfl (by simp only [inK]; omega) rfl trivial ?_
            refine L.assign rfl rfl rfl trivial ?_
            refine L.nil ?_
            exact C.againR 22 (i + 1, v7, vs ++ [v8], ν7, D901) ⟨by simp only; omega, by simpa using ha7, by simp only; rw [List.take_add_one, hl0, Option.toList_some, List.map_append, ← List.append_assoc]; exact hla7⟩ (by simp only; omega) ⟨(by first | rfl | (show some (Value.int _ _) = some (Value.int _ _); congr 2; omega)), (by first | rfl | (show some (Value.int _ _) = some (Value.int _ _); congr 2; omega)), trivial⟩ rfl rfl (List.Sublist.refl _) (fun D0 h => by simp only [List.mem_cons, List.not_mem_nil, or_false] at h; rcases h with h | h | h | h; exact ⟨D901, by simp, h ▸ Le.refl _⟩; exact ⟨D9, by simp, h ▸ Le.refl _⟩; exact ⟨E1, by simp, h ▸ Le.refl _⟩; exact ⟨D, by simp, h ▸ Le.refl _⟩)
          · obtain rfl : i = (prs y.chairs.length k (w ||| 2 ^ b)).length := by simp only [List.length_map] at hc5; omega
            rw [List.take_length] at hla
            refine C.exit ?_
            refine C.thenExit ?_
            refine C.thenExit ?_
            refine C.blockExit ?_
            refine C.blockEnd ?_
            refine C.next ?_
            refine C.region [(false,0),(false,1),(false,2)] rfl ?_
            refine L.move rfl rfl rfl trivial ?_
            refine L.add rfl rfl rfl (by simp only [inK]; omega) rfl trivial ?_
            refine L.assign rfl rfl rfl trivial ?_
            refine L.nil ?_
            exact C.againR 31 (b + 1, v, vs, ν, Dn) ⟨by simp only; omega, by simp only; omega, ha, by simp only; rw [partP_yes (by omega) hbw]; exact hla⟩ (by simp only; omega) ⟨(by first | rfl | (show some (Value.int _ _) = some (Value.int _ _); congr 2; omega)), (by first | rfl | (show some (Value.int _ _) = some (Value.int _ _); congr 2; omega)), trivial⟩ rfl rfl (List.Sublist.refl _) (fun D0 h => by simp only [List.mem_cons, List.not_mem_nil, or_false] at h; rcases h with h | h | h; exact ⟨Dn, by simp, h ▸ Le.refl _⟩; exact ⟨E1, by simp, h ▸ Le.refl _⟩; exact ⟨D, by simp, h ▸ Le.refl _⟩)
      · obtain rfl : b = y.chairs.length := by simp only at hc3; omega
        refine C.exit ?_
        refine C.thenExit ?_
        refine C.thenExit ?_
        refine C.blockExit ?_
        refine C.next ?_
        refine C.seq ?_
        refine C.region [(false,0),(false,1)] rfl ?_
        refine L.move rfl rfl rfl trivial ?_
        refine L.assign rfl rfl rfl trivial ?_
        refine L.nil ?_
        refine C.next ?_
        refine C.ret ?_
        refine Q.boxesEq ν (by simp) ?_
        have hax := ha
        exact leave (vs := [_]) rfl rfl rfl ⟨rfl, trivial⟩ (fun D' hD => ⟨vs, hax, by rw [prs_part hf hbf]; exact hla.up (hD _ (by simp))⟩)
theorem Pairings_ok {y : YardD} (hn7 : y.chairs.length ≤ 7) (yv : Value) (D : Data) (hy : YardIs D yv y) : Fn Try.prog 33 #[yv, .int .i64 0, .int .i64 0] D (fun D' v => Sl D' RLP 1 v ((prs y.chairs.length y.chairs.length 0).map pI)) :=
  (Pairings0_ok hn7 y.chairs.length 0 (by omega) 0 (by omega) yv D hy).fn (e := 27) (sz := 1) fun D' v ν ⟨vs, ha, hla⟩ => ⟨vs.length, vs, ha, fun D'' hl hF => hF.plists (hla.up hl) rfl (by have := hla.len; have := prs_len hn7 y.chairs.length 0; have := pow87 hn7; simp at *; omega)⟩
theorem Most_ok (yv tv sv : Value) (y : YardD) (t : List Pt) (ls : List (List (Int × Int))) (D : Data) (hy : YardIs D yv y) (ht : Sl D RP 3 tv t) (hs : Sl D RLP 1 sv ls) (hyo : YOk y) (hlen : t.length = y.chairs.length) (hb : ∀ p ∈ t, Bits1 p) (hp : ∀ l ∈ ls, (∀ p ∈ l, ∃ x z : Nat, p = ((x : Int), (z : Int)) ∧ x < t.length ∧ z < t.length) ∧ l.length ≤ 1000) : Fn Try.prog 32 #[yv, tv, sv] D (fun _ v => v = .int .i64 ((ls.map (makesR y t)).foldl max 0 : Nat)) := by
  have hy0 := hy
  obtain ⟨cv, qv, rfl, hc, hq⟩ := hy
  have hsl := hs.len
  refine enter 25 Try.func32 rfl rfl rfl rfl fun h0 => ?_
  refine C.seq ?_
  refine C.region [(false,0),(false,1)] rfl ?_
  refine L.boxD rfl rfl rfl rfl trivial (fun q1 E1 hE1 hB1 => ?_)
  refine L.assign rfl rfl rfl trivial ?_
  refine L.nil ?_
  refine C.next ?_
  refine C.seq ?_
  refine C.region [(false,0)] rfl ?_
  refine L.assign rfl rfl rfl trivial ?_
  refine L.nil ?_
  refine C.next ?_
  refine C.seq ?_
  refine C.seq ?_
  refine C.region [(false,0)] rfl ?_
  refine L.assign rfl rfl rfl trivial ?_
  refine L.nil ?_
  refine C.next ?_
  refine C.block ?_
  refine C.loopC (γ := Nat) (fun i => ls.length - i) (fun i => i ≤ ls.length) (fun i => [(8, .int .i64 (i : Int)), (7, .int .i64 (((ls.take i).map (makesR y t)).foldl max 0 : Nat))]) [(6, _), (3, _), (1, _), (2, _)] (fun i => [E1, D]) 0 (by omega) ⟨(by first | rfl | (show some (Value.int _ _) = some (Value.int _ _); congr 2; omega)), (by first | rfl | (show some (Value.int _ _) = some (Value.int _ _); congr 2; omega)), trivial⟩ ⟨rfl, rfl, rfl, rfl, trivial⟩ (ds_same) ?_
  rintro i h1
  refine C.seq ?_
  refine C.seq ?_
  refine C.region [(false,0),(false,1),(false,2),(false,3)] rfl ?_
  refine L.move rfl rfl rfl trivial ?_
  refine L.move rfl rfl rfl trivial ?_
  refine L.len rfl Try.underlying49 rfl hs rfl rfl trivial ?_
  refine L.lss rfl rfl rfl rfl trivial ?_
  refine L.nil ?_
  refine C.next ?_
  refine C.condD rfl (fun hc1 => ?_) (fun hc1 => ?_)
  · have hi : i < ls.length := by omega
    obtain ⟨l, hl0⟩ : ∃ l, ls[i]? = some l := ⟨_, List.getElem?_eq_getElem hi⟩
    refine C.skip ?_
    refine C.next ?_
    refine C.seq ?_
    refine C.block ?_
    refine C.draw [] 4 [0,1,2,3,4,5,6,7,8,9] [false,true,true,true,true,true,true,true,false,false] [(false,0),(true,1),(true,2),(true,3),(true,4),(true,5),(true,6),(true,7),(false,8),(false,9)] Tf.follows (fun _ _ _ h => np_body (P := Try.prog) (fn := Try.f32) _ _ _ h) (by kernel_rfl) rfl ?_
    refine L.move rfl rfl rfl trivial ?_
    refine L.loadDW rfl Tf.a25 rfl hB1 (by first | simp | assumption) Tf.s25 List.not_mem_nil rfl trivial ?_
    refine L.move rfl rfl rfl trivial ?_
    refine L.move rfl rfl rfl trivial ?_
    refine L.move rfl rfl rfl trivial ?_
    refine L.indexS rfl Try.underlying49 Tf.s27 rfl hs rfl (by omega) hl0 rfl trivial (fun b1 o1 cs1 hr1 hcl1 hA1 => ?_)
    obtain ⟨w1, rfl, hw1⟩ := hr1
    refine L.loadD1 rfl (k := 0) Tf.a27 rfl hA1 (by first | simp | assumption) rfl List.not_mem_nil rfl trivial ?_
    refine L.callV rfl rfl rfl (fun D1 hD1 => Makes_ok _ _ _ y t l _ (hy0.up (hD1 _ (by simp))) (ht.up RP.up (hD1 _ (by simp))) (hw1.up R2.up (hD1 _ (by simp))) hyo hlen hb (hp l (List.mem_of_getElem? hl0)).1 (hp l (List.mem_of_getElem? hl0)).2) rfl trivial ?_
    refine L.max2 rfl rfl rfl rfl trivial ?_
    refine L.assign rfl rfl rfl trivial ?_
    refine L.nil ?_
    refine C.blockEnd ?_
    refine C.next ?_
    refine C.region [(false,0),(false,1),(false,2)] rfl ?_
    refine L.move rfl rfl rfl trivial ?_
    refine L.add rfl rfl rfl (by simp only [inK]; omega) rfl trivial ?_
    refine L.assign rfl rfl rfl trivial ?_
    refine L.nil ?_
    exact C.againR 19 (i + 1) (by omega) (by omega) ⟨(by first | rfl | (show some (Value.int _ _) = some (Value.int _ _); congr 2; omega)), (by rw [most_step hl0]; rfl), trivial⟩ rfl rfl (List.Sublist.refl _) (ds_same)
  · obtain rfl : i = ls.length := by omega
    rw [List.take_length]
    refine C.exit ?_
    refine C.thenExit ?_
    refine C.thenExit ?_
    refine C.blockExit ?_
    refine C.next ?_
    refine C.seq ?_
    refine C.region [(false,0),(false,1)] rfl ?_
    refine L.move rfl rfl rfl trivial ?_
    refine L.assign rfl rfl rfl trivial ?_
    refine L.nil ?_
    refine C.next ?_
    refine C.ret ?_
    exact leave (vs := [_]) rfl rfl rfl ⟨rfl, trivial⟩ (fun D hD => rfl)
end Go.Fs
