/- Of the proof of MendTruth: W16, W17, W18, W19, W20, W21. -/
import Derived.Test.YtjhdcelmgfajbaaZMendTruthK
namespace Go.Fs
open Go.Proofs
open C7
def RLP : Rd (List (Int × Int)) := fun D l cs => ∃ v, cs = [v] ∧ Sl D R2 2 v l
theorem RLP.up : RLP.Up := fun hl _ _ ⟨v, hc, hs⟩ => ⟨v, hc, hs.up R2.up hl⟩
/-- Values that read as lists of pairs. -/
inductive LP (D : Data) : List Value → List (List (Int × Int)) → Prop
  | nil : LP D [] []
  | cons {v l vs ls} (h : Sl D R2 2 v l) (r : LP D vs ls) : LP D (v :: vs) (l :: ls)
theorem LP.up {D D' : Data} {vs : List Value} {ls : List (List (Int × Int))} (h : LP D vs ls) (hl : Le D D') : LP D' vs ls := by
  induction h with
  | nil => exact .nil
  | cons h _ ih => exact .cons (h.up R2.up hl) ih
theorem LP.len {D : Data} {vs : List Value} {ls : List (List (Int × Int))} (h : LP D vs ls) : vs.length = ls.length := by
  induction h with
  | nil => rfl
  | cons _ _ ih => rw [List.length_cons, List.length_cons, ih]
theorem LP.snoc {D : Data} {vs : List Value} {ls : List (List (Int × Int))} {v : Value} {l : List (Int × Int)} (h : LP D vs ls) (hv : Sl D R2 2 v l) : LP D (vs ++ [v]) (ls ++ [l]) := by
  induction h with
  | nil => exact .cons hv .nil
  | cons h _ ih => exact .cons h ih
theorem LP.get {D : Data} {vs : List Value} {ls : List (List (Int × Int))} (h : LP D vs ls) : ∀ {i : Nat} {l : List (Int × Int)}, ls[i]? = some l → ∃ v, vs[i]? = some v ∧ Sl D R2 2 v l := by
  induction h with
  | nil => intro i l hi; simp at hi
  | @cons v l0 vs ls h _ ih =>
    intro i l hi
    cases i with
    | zero => obtain rfl : l0 = l := by simpa using hi
              exact ⟨v, rfl, h⟩
    | succ i => exact ih (by simpa using hi)
theorem Froz.plists {D : Data} {v : Value} {n : Nat} {vs : List Value} {ls : List (List (Int × Int))} (hF : Froz D v n vs) (h : LP D vs ls) (hn : vs.length = n) (hb : n ≤ 9223372036854775807) : Sl D RLP 1 v ls :=
  hF.sl (by rw [← h.len]; exact hn) hb fun i l hi => by
    obtain ⟨u, hu, hs⟩ := h.get hi
    refine ⟨[u], ⟨u, rfl, hs⟩, rfl, ?_⟩
    have hlt := (List.getElem?_eq_some_iff.1 hu).1
    rw [Nat.mul_one, List.drop_eq_getElem_cons hlt]
    rw [List.getElem?_eq_getElem hlt] at hu
    rw [Option.some.inj hu]; rfl
theorem bit_one {w f : Nat} (h : ((w >>> f : Nat) : Int) % 2 = 1) : w.testBit f = true := by
  rw [bit_mod] at h
  cases e : w.testBit f with
  | true => rfl
  | false => rw [e] at h; simp at h
theorem bit_zero {w f : Nat} (h : ¬ ((w >>> f : Nat) : Int) % 2 = 1) : w.testBit f = false := by
  rw [bit_mod] at h
  cases e : w.testBit f with
  | false => rfl
  | true => rw [e] at h; simp at h
theorem pow8 {k : Nat} (h : k ≤ 6) : 8 ^ k ≤ 262144 := by
  have : 8 ^ k ≤ 8 ^ 6 := Nat.pow_le_pow_right (by omega) h
  omega
theorem pow87 {k : Nat} (h : k ≤ 7) : 8 ^ k ≤ 2097152 := by
  have : 8 ^ k ≤ 8 ^ 7 := Nat.pow_le_pow_right (by omega) h
  omega
theorem flat_len {α β : Type} {f : α → List β} {c : Nat} : ∀ {l : List α}, (∀ x ∈ l, (f x).length ≤ c) → (l.flatMap f).length ≤ l.length * c
  | [], _ => by simp
  | x :: l, h => by
    rw [List.flatMap_cons, List.length_append, List.length_cons, Nat.add_mul]
    have := h x List.mem_cons_self
    have := flat_len (l := l) fun y hy => h y (List.mem_cons_of_mem _ hy)
    omega
theorem prs_len {n : Nat} (hn : n ≤ 7) : ∀ k w, (prs n k w).length ≤ 8 ^ k
  | 0, w => by simp [prs]
  | k + 1, w => by
    have ih := prs_len hn k
    unfold prs
    split
    · have := ih w; rw [Nat.pow_succ]; omega
    · rw [List.length_append]
      have h1 := ih w
      have h2 := flat_len (f := fun b => (prs n k (w ||| 2 ^ b)).map fun l => (n - (k + 1), b) :: l) (c := 8 ^ k) (l := (List.range n).filter fun b => decide (n - (k + 1) < b) && !w.testBit b) fun b _ => by rw [List.length_map]; exact ih _
      have h3 := List.length_filter_le (fun b => decide (n - (k + 1) < b) && !w.testBit b) (List.range n)
      rw [List.length_range] at h3
      have h4 : ((List.range n).filter fun b => decide (n - (k + 1) < b) && !w.testBit b).length * 8 ^ k ≤ 7 * 8 ^ k := Nat.mul_le_mul_right _ (by omega)
      rw [Nat.pow_succ]; omega
theorem firsts_nodup {l : List (Nat × Nat)} (h : (ends l).Nodup) : (l.map fun p => p.1).Nodup := by
  induction l with
  | nil => exact List.nodup_nil
  | cons p l ih =>
    unfold ends at h
    rw [List.flatMap_cons, List.nodup_append] at h
    rw [List.map_cons, List.nodup_cons]
    refine ⟨fun hm => ?_, ih h.2.1⟩
    obtain ⟨q, hq, e⟩ := List.mem_map.1 hm
    exact h.2.2 p.1 (by simp) q.1 (List.mem_flatMap.2 ⟨q, hq, by simp⟩) e.symm
theorem prs_short {n k w : Nat} {l : List (Nat × Nat)} (hn : n ≤ 7) (hk : k ≤ n) (hl : l ∈ prs n k w) : (pI l).length ≤ 7 := by
  have ok := prs_ok k w hk l hl
  have h2 := length_le_of_sub (l := l.map fun p => p.1) (m := List.range n) (firsts_nodup ok.nd) fun x hx => by
    obtain ⟨p, hp, rfl⟩ := List.mem_map.1 hx
    obtain ⟨_, h2, h3, _⟩ := ok.at_ p hp
    exact List.mem_range.2 (by omega)
  rw [List.length_map, List.length_range] at h2
  simp only [pI, List.length_map]; omega
def partP (n k f w b : Nat) : List (List (Int × Int)) := (prs n k w ++ ((List.range b).filter fun b => decide (f < b) && !w.testBit b).flatMap fun b => (prs n k (w ||| 2 ^ b)).map fun l => (f, b) :: l).map pI
theorem partP_start {n k f w : Nat} : partP n k f w (f + 1) = (prs n k w).map pI := by
  unfold partP
  rw [List.filter_eq_nil_iff.2 fun b hb => by have := List.mem_range.1 hb; simp; omega]
  simp
theorem partP_no {n k f w b : Nat} (h : w.testBit b = true) : partP n k f w (b + 1) = partP n k f w b := by
  unfold partP; rw [List.range_succ, List.filter_append, List.flatMap_append]; simp [h]
theorem partP_yes {n k f w b : Nat} (hb : f < b) (h : w.testBit b = false) : partP n k f w (b + 1) = partP n k f w b ++ (prs n k (w ||| 2 ^ b)).map (fun l => pI ((f, b) :: l)) := by
  unfold partP; rw [List.range_succ, List.filter_append, List.flatMap_append]; simp [h, hb]
theorem partP_len {n k f w b : Nat} (hn : n ≤ 7) (hb : b ≤ n) : (partP n k f w b).length ≤ 8 * 8 ^ k := by
  unfold partP
  rw [List.length_map, List.length_append]
  have h1 := prs_len hn k w
  have h2 := flat_len (f := fun b => (prs n k (w ||| 2 ^ b)).map fun l => (f, b) :: l) (c := 8 ^ k) (l := (List.range b).filter fun b => decide (f < b) && !w.testBit b) fun b _ => by rw [List.length_map]; exact prs_len hn k _
  have h3 := List.length_filter_le (fun b => decide (f < b) && !w.testBit b) (List.range b)
  rw [List.length_range] at h3
  have h4 : ((List.range b).filter fun b => decide (f < b) && !w.testBit b).length * 8 ^ k ≤ 7 * 8 ^ k := Nat.mul_le_mul_right _ (by omega)
  omega
theorem prs_skip {n k f w : Nat} (hf : f + (k + 1) = n) (h : w.testBit f = true) : (prs n (k + 1) w).map pI = (prs n k w).map pI := by
  rw [prs, show n - (k + 1) = f by omega, if_pos h]
theorem prs_part {n k f w : Nat} (hf : f + (k + 1) = n) (h : w.testBit f = false) : (prs n (k + 1) w).map pI = partP n k f w n := by
  rw [prs, show n - (k + 1) = f by omega, if_neg (by rw [h]; simp)]; rfl
theorem most_step {y : YardD} {t : List Pt} {ls : List (List (Int × Int))} {i : Nat} {l : List (Int × Int)} (h : ls[i]? = some l) : ((((ls.take (i + 1)).map (makesR y t)).foldl max 0 : Nat) : Int) = max ((((ls.take i).map (makesR y t)).foldl max 0 : Nat) : Int) (makesR y t l : Int) := by
  rw [List.take_add_one, h, Option.toList_some, List.map_append, List.foldl_append]
  show ((max _ _ : Nat) : Int) = _
  omega
theorem Pairings0_ok {y : YardD} (hn7 : y.chairs.length ≤ 7) : ∀ (kk f : Nat), f + kk = y.chairs.length → ∀ (w : Nat), w < 128 → ∀ (yv : Value) (D : Data), YardIs D yv y → FnO Try.prog 33 #[yv, .int .i64 (f : Int), .int .i64 (w : Int)] D (fun D' v ν => ∃ vs, Acc 27 1 v vs.length vs ν ∧ LP D' vs ((prs y.chairs.length kk w).map pI)) := by
  intro kk
  induction kk using Nat.strongRecOn with
  | _ kk ih =>
  intro f hf w hw yv D hy
  have hy0 := hy
  obtain ⟨cv, qv, rfl, hc, hq⟩ := hy
  have hcl := hc.len
  refine enterO 72 Try.func33 rfl rfl rfl rfl fun h0 => ?_
  refine C.seq ?_
  refine C.region [(false,0),(false,1)] rfl ?_
  refine L.boxD rfl rfl rfl rfl trivial (fun q1 E1 hE1 hB1 => ?_)
  refine L.assign rfl rfl rfl trivial ?_
  refine L.nil ?_
  refine C.next ?_
  refine C.seq ?_
  refine C.seq ?_
  refine C.region [(false,0),(false,1),(false,2),(false,3),(false,4)] rfl ?_
  refine L.move rfl rfl rfl trivial ?_
  refine L.fieldAddr rfl Tf.f25_0 rfl rfl trivial ?_
  refine L.loadD1 rfl (k := 0) Tf.a22 rfl hB1 (by first | simp | assumption) rfl List.not_mem_nil rfl trivial ?_
  refine L.len rfl Try.underlying22 rfl hc rfl rfl trivial ?_
  refine L.geq rfl rfl rfl rfl trivial ?_
  refine L.nil ?_
  refine C.next ?_
  refine C.condD rfl (fun hc1 => ?_) (fun hc1 => ?_)
  · obtain rfl : kk = 0 := by omega
    refine C.seq ?_
    refine C.region [(false,0),(false,1)] rfl ?_
    refine L.buildSliceO rfl Try.underlying49 Tf.s27 Tf.z27 rfl rfl rfl rfl (.cons rfl rfl .nil) rfl trivial (fun b3 hacc => ?_)
    refine L.assign rfl rfl rfl trivial ?_
    refine L.nil ?_
    refine C.next ?_
    refine C.ret ?_
    refine C.thenRet ?_
    exact leave (vs := [_]) rfl rfl rfl ⟨rfl, trivial⟩ (fun D' hD => ⟨[.slice none 0 0], hacc, .cons Sl.nil .nil⟩)
  · obtain ⟨k, rfl⟩ : ∃ k, kk = k + 1 := ⟨kk - 1, by omega⟩
    have hf7 : f < 7 := by omega
    refine C.skip ?_
    refine C.next ?_
    refine C.seq ?_
    refine C.region [(false,0),(false,1),(false,2),(false,3),(false,4),(false,5)] rfl ?_
    refine L.loadDW rfl Tf.a25 rfl hB1 (by first | simp | assumption) Tf.s25 List.not_mem_nil rfl trivial ?_
    refine L.move rfl rfl rfl trivial ?_
    refine L.add rfl rfl rfl (by simp only [inK]; omega) rfl trivial ?_
    refine L.move rfl rfl rfl trivial ?_
    refine L.callO rfl rfl rfl (fun D5 hD5 => ih k (by omega) (f + 1) (by omega) w hw _ D5 (hy0.up (hD5 _ (by simp)))) rfl trivial (fun v1 D6 ν1 hD6 hp6 => ?_)
    obtain ⟨vs1, ha1, hla1⟩ := hp6
    refine L.assign rfl rfl rfl trivial ?_
    refine L.nil ?_
    refine C.next ?_
    refine C.seq ?_
    refine C.seq ?_
    refine C.region [(false,0),(false,1),(false,2),(false,3),(false,4),(false,5)] rfl ?_
    refine L.move rfl rfl rfl trivial ?_
    refine L.move rfl rfl rfl trivial ?_
    refine L.convI rfl Try.underlying3 Try.underlying88 rfl (by simp only [inK]; omega) rfl trivial ?_
    refine L.shrN rfl rfl rfl (by omega) rfl trivial ?_
    refine L.rem rfl rfl rfl (Int.natCast_nonneg _) (by omega) (by simp only [inK]; omega) rfl trivial ?_
    refine L.eql rfl rfl rfl rfl trivial ?_
    refine L.nil ?_
    refine C.next ?_
    refine C.condD rfl (fun hc2 => ?_) (fun hc2 => ?_)
    · have hbf : w.testBit f = true := bit_one hc2
      refine C.seq ?_
      refine C.region [(false,0),(false,1)] rfl ?_
      refine L.move rfl rfl rfl trivial ?_
      refine L.assign rfl rfl rfl trivial ?_
      refine L.nil ?_
      refine C.next ?_
      refine C.ret ?_
      refine C.thenRet ?_
      refine Q.boxesEq ν1 (by simp) ?_
      have ha1x := ha1
      exact leave (vs := [_]) rfl rfl rfl ⟨rfl, trivial⟩ (fun D' hD => ⟨vs1, ha1x, by rw [prs_skip hf hbf]; exact hla1.up (hD _ (by simp))⟩)
    · have hbf : w.testBit f = false := bit_zero hc2
      refine C.skip ?_
      refine C.next ?_
      refine C.seq ?_
      refine C.seq ?_
      refine C.region [(false,0),(false,1),(false,2)] rfl ?_
      refine L.move rfl rfl rfl trivial ?_
      refine L.add rfl rfl rfl (by simp only [inK]; omega) rfl trivial ?_
      refine L.assign rfl rfl rfl trivial ?_
      refine L.nil ?_
      refine C.next ?_
      refine C.block ?_
      refine C.loopR (γ := Nat × Value × List Value × Boxes × Data) (fun g => y.chairs.length - g.1) (fun g => f + 1 ≤ g.1 ∧ g.1 ≤ y.chairs.length ∧ Acc 27 1 g.2.1 g.2.2.1.length g.2.2.1 g.2.2.2.1 ∧ LP g.2.2.2.2 g.2.2.1 ((partP y.chairs.length k f w g.1))) (fun g => [(8, .int .i64 (g.1 : Int)), (7, g.2.1)]) [(6, _), (3, _), (1, _), (2, _)] (fun g => g.2.2.2.1 ++ []) (fun g => [g.2.2.2.2, E1, D]) (f + 1, v1, vs1, ν1, D6) ⟨by simp, by simp only; omega, ha1, by simp only; rw [partP_start]; exact hla1⟩ ⟨(by first | rfl | (show some (Value.int _ _) = some (Value.int _ _); congr 2; omega)), (by first | rfl | (show some (Value.int _ _) = some (Value.int _ _); congr 2; omega)), trivial⟩ ⟨rfl, rfl, rfl, rfl, trivial⟩ ((by simp)) ((fun D0 h => by simp only [List.mem_cons, List.not_mem_nil, or_false] at h; rcases h with h | h | h; exact ⟨D6, by simp, h ▸ Le.refl _⟩; exact ⟨E1, by simp, h ▸ Le.refl _⟩; exact ⟨D, by simp, h ▸ Le.refl _⟩)) ?_
      rintro ⟨b, v, vs, ν, Dn⟩ ⟨h0, h1, ha, hla⟩
      simp only at h0 h1 ha hla
      have hpl := partP_len (n := y.chairs.length) (k := k) (f := f) (w := w) (b := b) hn7 h1
      have hpw := pow8 (show k ≤ 6 by omega)
      have hvl := hla.len
      refine C.seq ?_
      refine C.seq ?_
      refine C.region [(false,0),(false,1),(false,2),(false,3),(false,4)] rfl ?_
      refine L.move rfl rfl rfl trivial ?_
      refine L.fieldAddr rfl Tf.f25_0 rfl rfl trivial ?_
      refine L.loadD1 rfl (k := 0) Tf.a22 rfl hB1 (by first | simp | assumption) rfl List.not_mem_nil rfl trivial ?_
      refine L.len rfl Try.underlying22 rfl hc rfl rfl trivial ?_
      refine L.lss rfl rfl rfl rfl trivial ?_
      refine L.nil ?_
      refine C.next ?_
      refine C.condD rfl (fun hc3 => ?_) (fun hc3 => ?_)
      · have hbn : b < y.chairs.length := by simp only at hc3; omega
        have hb7 : b < 7 := by omega
        have hpb := pow_lt7 hb7
        refine C.skip ?_
        refine C.next ?_
        refine C.seq ?_
        refine C.block ?_
        refine C.seq ?_
        refine C.seq ?_
        refine C.region [(false,0),(false,1),(false,2),(false,3),(false,4),(false,5)] rfl ?_
        refine L.move rfl rfl rfl trivial ?_
        refine L.move rfl rfl rfl trivial ?_
        refine L.convI rfl Try.underlying3 Try.underlying88 rfl (by simp only [inK]; omega) rfl trivial ?_
        refine L.shrN rfl rfl rfl (by first | omega | (simp only; omega)) rfl trivial ?_
        refine L.rem rfl rfl rfl (Int.natCast_nonneg _) (by omega) (by simp only [inK]; omega) rfl trivial ?_
        refine L.eql rfl rfl rfl rfl trivial ?_
        refine L.nil ?_
        refine C.next ?_
        refine C.condD rfl (fun hc4 => ?_) (fun hc4 => ?_)
        · have hbw : w.testBit b = true := bit_one hc4
          refine C.exit ?_
          refine C.thenExit ?_
          refine C.blockExit ?_
          refine C.next ?_
          refine C.region [(false,0),(false,1),(false,2)] rfl ?_
          refine L.move rfl rfl rfl trivial ?_
          refine L.add rfl rfl rfl (by simp only [inK]; omega) rfl trivial ?_
          refine L.assign rfl rfl rfl trivial ?_
          refine L.nil ?_
          exact C.againR 16 (b + 1, v, vs, ν, Dn) ⟨by simp only; omega, by simp only; omega, ha, by simp only; rw [partP_no hbw]; exact hla⟩ (by simp only; omega) ⟨(by first | rfl | (show some (Value.int _ _) = some (Value.int _ _); congr 2; omega)), (by first | rfl | (show some (Value.int _ _) = some (Value.int _ _); congr 2; omega)), trivial⟩ rfl rfl (List.Sublist.refl _) (fun D0 h => by simp only [List.mem_cons, List.not_mem_nil, or_false] at h; rcases h with h | h | h; exact ⟨Dn, by simp, h ▸ Le.refl _⟩; exact ⟨E1, by simp, h ▸ Le.refl _⟩; exact ⟨D, by simp, h ▸ Le.refl _⟩)
        · have hbw : w.testBit b = false := bit_zero hc4
          have hql := prs_len hn7 k (w ||| 2 ^ b)
          refine C.skip ?_
          refine C.next ?_
          refine C.seq ?_
          refine C.region [(false,0),(false,1),(false,2),(false,3),(false,4),(false,5),(false,6),(false,7),(false,8),(false,9)] rfl ?_
          refine L.loadDW rfl Tf.a25 rfl hB1 (by first | simp | assumption) Tf.s25 List.not_mem_nil rfl trivial ?_
          refine L.move rfl rfl rfl trivial ?_
          refine L.add rfl rfl rfl (by simp only [inK]; omega) rfl trivial ?_
          refine L.move rfl rfl rfl trivial ?_
          refine L.move rfl rfl rfl trivial ?_
          refine L.convI rfl Try.underlying3 Try.underlying88 rfl (by simp only [inK]; omega) rfl trivial ?_
          refine L.shl1U rfl rfl rfl (by first | omega | (simp only; omega)) rfl trivial ?_
          refine L.orB rfl rfl rfl (by first | omega | (simp only; omega)) (by first | omega | (simp only; omega)) rfl trivial ?_
          refine L.callO rfl rfl rfl (fun D7 hD7 => ih k (by omega) (f + 1) (by omega) (w ||| 2 ^ b) (or_lt7 hw hpb) _ D7 (hy0.up (hD7 _ (by simp)))) rfl trivial (fun v2 D8 ν2 hD8 hp8 => ?_)
          obtain ⟨vs2, ha2, hla2⟩ := hp8
          refine L.assign rfl rfl rfl trivial ?_
          refine L.nil ?_
          refine C.next ?_
          refine C.seq ?_
          refine C.freeze (A := []) (B := ν ++ []) ha2 rfl (fun D9 hD9 hF9 => ?_)
          have hsl := hF9.plists (hla2.up (hD9 _ (by simp))) rfl (by have := hla2.len; rw [List.length_map] at this; omega)
          have hll := hsl.len
          refine C.region [(false,0)] rfl ?_
          refine L.assign rfl rfl rfl trivial ?_
          refine L.nil ?_
          refine C.next ?_
          refine C.block ?_
          refine C.loopR (γ := Nat × Value × List Value × Boxes × Data) (fun g => (prs y.chairs.length k (w ||| 2 ^ b)).length - g.1) (fun g => g.1 ≤ (prs y.chairs.length k (w ||| 2 ^ b)).length ∧ Acc 27 1 g.2.1 g.2.2.1.length g.2.2.1 g.2.2.2.1 ∧ LP g.2.2.2.2 g.2.2.1 ((partP y.chairs.length k f w b) ++ ((prs y.chairs.length k (w ||| 2 ^ b)).take g.1).map (fun l => pI ((f, b) :: l)))) (fun g => [(10, .int .i64 (g.1 : Int)), (7, g.2.1)]) [(9, _), (52, _), (51, _), (50, _), (49, _), (48, _), (47, _), (46, _), (45, _), (44, _), (43, _), (42, _), (41, _), (40, _), (39, _), (38, _), (35, _), (34, _), (33, _), (32, _), (31, _), (8, _), (6, _), (3, _), (1, _), (2, _)] (fun g => g.2.2.2.1 ++ []) (fun g => [g.2.2.2.2, D9, E1, D]) (0, v, vs, ν, D9) ⟨by simp, ha, by simpa using hla.up (hD9 Dn (by simp))⟩ ⟨(by first | rfl | (show some (Value.int _ _) = some (Value.int _ _); congr 2; omega)), (by first | rfl | (show some (Value.int _ _) = some (Value.int _ _); congr 2; omega)), trivial⟩ ⟨rfl, rfl, rfl, rfl, rfl, rfl, rfl, rfl, rfl, rfl, rfl, rfl, rfl, rfl, rfl, rfl, rfl, rfl, rfl, rfl, rfl, rfl, rfl, rfl, rfl, rfl, trivial⟩ ((by simp)) ((fun D0 h => by simp only [List.mem_cons, List.not_mem_nil, or_false] at h; rcases h with h | h | h | h; exact ⟨D9, by simp, h ▸ Le.refl _⟩; exact ⟨D9, by simp, h ▸ Le.refl _⟩; exact ⟨E1, by simp, h ▸ Le.refl _⟩; exact ⟨D, by simp, h ▸ Le.refl _⟩)) ?_
          rintro ⟨i, v, vs, ν, Dn⟩ ⟨h2, ha, hla⟩
          simp only at h2 ha hla
          have hvl := hla.len
          rw [List.length_append, List.length_map, List.length_take] at hvl
          refine C.seq ?_
          refine C.seq ?_
          refine C.region [(false,0),(false,1),(false,2),(false,3)] rfl ?_
          refine L.move rfl rfl rfl trivial ?_
          refine L.move rfl rfl rfl trivial ?_
          refine L.len rfl Try.underlying49 rfl hsl rfl rfl trivial ?_
          refine L.lss rfl rfl rfl rfl trivial ?_
          refine L.nil ?_
          refine C.next ?_
          refine C.condD rfl (fun hc5 => ?_) (fun hc5 => ?_)
          · have hi : i < (prs y.chairs.length k (w ||| 2 ^ b)).length := by simp only [List.length_map] at hc5; omega
            obtain ⟨l, hl0⟩ : ∃ l, (prs y.chairs.length k (w ||| 2 ^ b))[i]? = some l := ⟨_, List.getElem?_eq_getElem hi⟩
            have hl1 : ((prs y.chairs.length k (w ||| 2 ^ b)).map pI)[i]? = some (pI l) := by rw [List.getElem?_map, hl0]; rfl
            have hll2 : (pI l).length ≤ 7 := prs_short hn7 (by omega) (List.mem_of_getElem? hl0)
            refine C.skip ?_
            refine C.next ?_
            refine C.seq ?_
            refine C.block ?_
            refine C.region [(false,0),(false,1),(false,2),(false,3),(false,4),(false,5),(false,6),(false,7),(false,8),(false,9),(false,10),(false,11),(false,12)] rfl ?_
            refine L.move rfl rfl rfl trivial ?_
            refine L.move rfl rfl rfl trivial ?_
            refine L.move rfl rfl rfl trivial ?_
            refine L.build (cs := [.int .i64 (f : Int), .int .i64 (b : Int)]) rfl Tf.p130 Tf.z130 rfl rfl rfl trivial ?_
            refine L.buildSliceO rfl Try.underlying27 Tf.s130 Tf.z130 rfl rfl rfl rfl (.cons rfl rfl .nil) rfl trivial (fun b3 hacc => ?_)
            refine L.move rfl rfl rfl trivial ?_
            refine L.move rfl rfl rfl trivial ?_
            refine L.indexS rfl Try.underlying49 Tf.s27 rfl hsl rfl (by omega) hl1 rfl trivial (fun b1 o1 cs1 hr1 hcl1 hA1 => ?_)
            obtain ⟨w1, rfl, hw1⟩ := hr1
            refine L.loadD1 rfl (k := 0) Tf.a27 rfl hA1 (by first | simp | assumption) rfl List.not_mem_nil rfl trivial ?_
            refine L.boxesEq ([] ++ [(_, _)] ++ (ν ++ [])) rfl ?_
            refine L.append (A := []) (ν := [(_, _)]) (B := ν ++ []) rfl Try.underlying27 rfl rfl Tf.s130 Tf.z130 rfl Tf.i130 rfl rfl rfl hacc (Src.of (cells := fun p : Int × Int => [.int .i64 p.1, .int .i64 p.2]) (fun _ _ _ h => h) (fun _ => rfl) hw1) (by simp) (prC_length _) rfl (prC_cell1 _) (by have := hll2; omega) (Or.inl rfl) rfl trivial (fun v8 ν8 ha8 => ?_)
            have ha8' : Acc 130 2 v8 (pI ((f, b) :: l)).length (prC (pI ((f, b) :: l))) ν8 := by simpa [prC, pI, Nat.add_comm] using ha8
            refine L.freeze (A := []) (B := ν ++ []) ha8' rfl (fun D10 hD10 hF10 => ?_)
            have hw8 := hF10.prs rfl (by simp [pI]; have := hll2; simp [pI] at this; omega)
            refine L.buildSlice rfl Try.underlying49 Tf.s27 Tf.z27 rfl rfl rfl rfl (.cons ha8.cells1 rfl .nil) rfl trivial (fun b901 D901 hD901 hA901 => ?_)
            refine L.append (A := []) (B := []) rfl Try.underlying49 rfl rfl Tf.s27 Tf.z27 rfl Tf.i27 rfl rfl rfl ha (Src.lit hA901) (by simp) rfl (by simp) (by simpa using hw8.cell1) (by have := hla.len; omega) (Or.inl rfl) rfl trivial (fun v7 ν7 ha7 => ?_)
            have hla7 := (hla.up (hD901 Dn (by simp))).snoc (hw8.up R2.up (hD901 D10 (by simp)))
            refine L.assign rfl rfl rfl trivial ?_
            refine L.nil ?_
            refine C.blockEnd ?_
            refine C.next ?_
            refine C.region [(false,0),(false,1),(false,2)] rfl ?_
            refine L.move rfl rfl rfl trivial ?_
            refine L.add rfl rfl rfl (by simp only [inK]; omega) rfl trivial ?_
            refine L.assign rfl rfl rfl trivial ?_
            refine L.nil ?_
            exact C.againR 22 (i + 1, v7, vs ++ [v8], ν7, D901) ⟨by simp only; omega, by simpa using ha7, by simp only; rw [List.take_add_one, hl0, Option.toList_some, List.map_append, ← List.append_assoc]; exact hla7⟩ (by simp only; omega) ⟨(by first | rfl | (show some (Value.int _ _) = some (Value.int _ _); congr 2; omega)), (by first | rfl | (show some (Value.int _ _) = some (Value.int _ _); congr 2; omega)), trivial⟩ rfl rfl (List.Sublist.refl _) (fun D0 h => by simp only [List.mem_cons, List.not_mem_nil, or_false] at h; rcases h with h | h | h | h; exact ⟨D901, by simp, h ▸ Le.refl _⟩; exact ⟨D9, by simp, h ▸ Le.refl _⟩; exact ⟨E1, by simp, h ▸ Le.refl _⟩; exact ⟨D, by simp, h ▸ Le.refl _⟩)
          · obtain rfl : i = (prs y.chairs.length k (w ||| 2 ^ b)).length := by simp only [List.length_map] at hc5; omega
            rw [List.take_length] at hla
            refine C.exit ?_
            refine C.thenExit ?_
            refine C.thenExit ?_
            refine C.blockExit ?_
            refine C.blockEnd ?_
            refine C.next ?_
            refine C.region [(false,0),(false,1),(false,2)] rfl ?_
            refine L.move rfl rfl rfl trivial ?_
            refine L.add rfl rfl rfl (by simp only [inK]; omega) rfl trivial ?_
            refine L.assign rfl rfl rfl trivial ?_
            refine L.nil ?_
            exact C.againR 31 (b + 1, v, vs, ν, Dn) ⟨by simp only; omega, by simp only; omega, ha, by simp only; rw [partP_yes (by omega) hbw]; exact hla⟩ (by simp only; omega) ⟨(by first | rfl | (show some (Value.int _ _) = some (Value.int _ _); congr 2; omega)), (by first | rfl | (show some (Value.int _ _) = some (Value.int _ _); congr 2; omega)), trivial⟩ rfl rfl (List.Sublist.refl _) (fun D0 h => by simp only [List.mem_cons, List.not_mem_nil, or_false] at h; rcases h with h | h | h; exact ⟨Dn, by simp, h ▸ Le.refl _⟩; exact ⟨E1, by simp, h ▸ Le.refl _⟩; exact ⟨D, by simp, h ▸ Le.refl _⟩)
      · obtain rfl : b = y.chairs.length := by simp only at hc3; omega
        refine C.exit ?_
        refine C.thenExit ?_
        refine C.thenExit ?_
        refine C.blockExit ?_
        refine C.next ?_
        refine C.seq ?_
        refine C.region [(false,0),(false,1)] rfl ?_
        refine L.move rfl rfl rfl trivial ?_
        refine L.assign rfl rfl rfl trivial ?_
        refine L.nil ?_
        refine C.next ?_
        refine C.ret ?_
        refine Q.boxesEq ν (by simp) ?_
        have hax := ha
        exact leave (vs := [_]) rfl rfl rfl ⟨rfl, trivial⟩ (fun D' hD => ⟨vs, hax, by rw [prs_part hf hbf]; exact hla.up (hD _ (by simp))⟩)
theorem Pairings_ok {y : YardD} (hn7 : y.chairs.length ≤ 7) (yv : Value) (D : Data) (hy : YardIs D yv y) : Fn Try.prog 33 #[yv, .int .i64 0, .int .i64 0] D (fun D' v => Sl D' RLP 1 v ((prs y.chairs.length y.chairs.length 0).map pI)) :=
  (Pairings0_ok hn7 y.chairs.length 0 (by omega) 0 (by omega) yv D hy).fn (e := 27) (sz := 1) fun D' v ν ⟨vs, ha, hla⟩ => ⟨vs.length, vs, ha, fun D'' hl hF => hF.plists (hla.up hl) rfl (by have := hla.len; have := prs_len hn7 y.chairs.length 0; have := pow87 hn7; simp at *; omega)⟩
theorem Most_ok (yv tv sv : Value) (y : YardD) (t : List Pt) (ls : List (List (Int × Int))) (D : Data) (hy : YardIs D yv y) (ht : Sl D RP 3 tv t) (hs : Sl D RLP 1 sv ls) (hyo : YOk y) (hlen : t.length = y.chairs.length) (hb : ∀ p ∈ t, Bits1 p) (hp : ∀ l ∈ ls, (∀ p ∈ l, ∃ x z : Nat, p = ((x : Int), (z : Int)) ∧ x < t.length ∧ z < t.length) ∧ l.length ≤ 1000) : Fn Try.prog 32 #[yv, tv, sv] D (fun _ v => v = .int .i64 ((ls.map (makesR y t)).foldl max 0 : Nat)) := by
  have hy0 := hy
  obtain ⟨cv, qv, rfl, hc, hq⟩ := hy
  have hsl := hs.len
  refine enter 25 Try.func32 rfl rfl rfl rfl fun h0 => ?_
  refine C.seq ?_
  refine C.region [(false,0),(false,1)] rfl ?_
  refine L.boxD rfl rfl rfl rfl trivial (fun q1 E1 hE1 hB1 => ?_)
  refine L.assign rfl rfl rfl trivial ?_
  refine L.nil ?_
  refine C.next ?_
  refine C.seq ?_
  refine C.region [(false,0)] rfl ?_
  refine L.assign rfl rfl rfl trivial ?_
  refine L.nil ?_
  refine C.next ?_
  refine C.seq ?_
  refine C.seq ?_
  refine C.region [(false,0)] rfl ?_
  refine L.assign rfl rfl rfl trivial ?_
  refine L.nil ?_
  refine C.next ?_
  refine C.block ?_
  refine C.loopC (γ := Nat) (fun i => ls.length - i) (fun i => i ≤ ls.length) (fun i => [(8, .int .i64 (i : Int)), (7, .int .i64 (((ls.take i).map (makesR y t)).foldl max 0 : Nat))]) [(6, _), (3, _), (1, _), (2, _)] (fun i => [E1, D]) 0 (by omega) ⟨(by first | rfl | (show some (Value.int _ _) = some (Value.int _ _); congr 2; omega)), (by first | rfl | (show some (Value.int _ _) = some (Value.int _ _); congr 2; omega)), trivial⟩ ⟨rfl, rfl, rfl, rfl, trivial⟩ (ds_same) ?_
  rintro i h1
  refine C.seq ?_
  refine C.seq ?_
  refine C.region [(false,0),(false,1),(false,2),(false,3)] rfl ?_
  refine L.move rfl rfl rfl trivial ?_
  refine L.move rfl rfl rfl trivial ?_
  refine L.len rfl Try.underlying49 rfl hs rfl rfl trivial ?_
  refine L.lss rfl rfl rfl rfl trivial ?_
  refine L.nil ?_
  refine C.next ?_
  refine C.condD rfl (fun hc1 => ?_) (fun hc1 => ?_)
  · have hi : i < ls.length := by omega
    obtain ⟨l, hl0⟩ : ∃ l, ls[i]? = some l := ⟨_, List.getElem?_eq_getElem hi⟩
    refine C.skip ?_
    refine C.next ?_
    refine C.seq ?_
    refine C.block ?_
    refine C.draw [] 4 [0,1,2,3,4,5,6,7,8,9] [false,true,true,true,true,true,true,true,false,false] [(false,0),(true,1),(true,2),(true,3),(true,4),(true,5),(true,6),(true,7),(false,8),(false,9)] Tf.follows (fun _ _ _ h => np_body (P := Try.prog) (fn := Try.f32) _ _ _ h) (by kernel_rfl) rfl ?_
    refine L.move rfl rfl rfl trivial ?_
    refine L.loadDW rfl Tf.a25 rfl hB1 (by first | simp | assumption) Tf.s25 List.not_mem_nil rfl trivial ?_
    refine L.move rfl rfl rfl trivial ?_
    refine L.move rfl rfl rfl trivial ?_
    refine L.move rfl rfl rfl trivial ?_
    refine L.indexS rfl Try.underlying49 Tf.s27 rfl hs rfl (by omega) hl0 rfl trivial (fun b1 o1 cs1 hr1 hcl1 hA1 => ?_)
    obtain ⟨w1, rfl, hw1⟩ := hr1
    refine L.loadD1 rfl (k := 0) Tf.a27 rfl hA1 (by first | simp | assumption) rfl List.not_mem_nil rfl trivial ?_
    refine L.callV rfl rfl rfl (fun D1 hD1 => Makes_ok _ _ _ y t l _ (hy0.up (hD1 _ (by simp))) (ht.up RP.up (hD1 _ (by simp))) (hw1.up R2.up (hD1 _ (by simp))) hyo hlen hb (hp l (List.mem_of_getElem? hl0)).1 (hp l (List.mem_of_getElem? hl0)).2) rfl trivial ?_
    refine L.max2 rfl rfl rfl rfl trivial ?_
    refine L.assign rfl rfl rfl trivial ?_
    refine L.nil ?_
    refine C.blockEnd ?_
    refine C.next ?_
    refine C.region [(false,0),(false,1),(false,2)] rfl ?_
    refine L.move rfl rfl rfl trivial ?_
    refine L.add rfl rfl rfl (by simp only [inK]; omega) rfl trivial ?_
    refine L.assign rfl rfl rfl trivial ?_
    refine L.nil ?_
    exact C.againR 19 (i + 1) (by omega) (by omega) ⟨(by first | rfl | (show some (Value.int _ _) = some (Value.int _ _); congr 2; omega)), (by rw [most_step hl0]; rfl), trivial⟩ rfl rfl (List.Sublist.refl _) (ds_same)
  · obtain rfl : i = ls.length := by omega
    rw [List.take_length]
    refine C.exit ?_
    refine C.thenExit ?_
    refine C.thenExit ?_
    refine C.blockExit ?_
    refine C.next ?_
    refine C.seq ?_
    refine C.region [(false,0),(false,1)] rfl ?_
    refine L.move rfl rfl rfl trivial ?_
    refine L.assign rfl rfl rfl trivial ?_
    refine L.nil ?_
    refine C.next ?_
    refine C.ret ?_
    exact leave (vs := [_]) rfl rfl rfl ⟨rfl, trivial⟩ (fun D hD => rfl)
end Go.Fs
namespace Go.Fs
open Go.Proofs
open C7
theorem prC_lenn (l : List (Int × Int)) (n : Nat) (h : l.length = n) : (prC l).length = n * 2 := by rw [prC_length, h]
def ptC (l : List Pt) : List Value := l.flatMap fun p => [.int .i64 p.a, .int .i64 p.b, .int .i64 p.c]
theorem ptC_snoc (l : List Pt) (p : Pt) : ptC (l ++ [p]) = ptC l ++ [.int .i64 p.a, .int .i64 p.b, .int .i64 p.c] := by simp [ptC]
theorem flat_k {α : Type} {f : α → List Value} {k : Nat} (hf : ∀ x, (f x).length = k) (l : List α) : (l.flatMap f).length = l.length * k := by
  induction l with
  | nil => simp
  | cons c l ih => rw [List.flatMap_cons, List.length_append, ih, hf, List.length_cons, Nat.add_mul]; omega
theorem flat_get {α : Type} {f : α → List Value} {k : Nat} (hf : ∀ x, (f x).length = k) {l : List α} {i : Nat} {c : α} (hi : l[i]? = some c) : ((l.flatMap f).drop (i * k)).take k = f c := by
  induction l generalizing i with
  | nil => simp at hi
  | cons d l ih =>
    rw [List.flatMap_cons]
    cases i with
    | zero => obtain rfl : d = c := by simpa using hi
              rw [Nat.zero_mul, List.drop_zero, List.take_append_of_le_length (by rw [hf]; omega), List.take_of_length_le (by rw [hf]; omega)]
    | succ i =>
      rw [List.drop_append, List.drop_eq_nil_of_le (by rw [hf, Nat.add_mul]; omega), List.nil_append]
      have : (i + 1) * k - (f d).length = i * k := by rw [hf, Nat.add_mul]; omega
      rw [this]; exact ih (by simpa using hi)
theorem ptC_lenn (l : List Pt) (n : Nat) (h : l.length = n) : (ptC l).length = n * 3 := by rw [ptC, flat_k (k := 3) (fun _ => rfl), h]
theorem Froz.pts {D : Data} {v : Value} {n : Nat} {l : List Pt} (hF : Froz D v n (ptC l)) (hn : l.length = n) (hb : n ≤ 9223372036854775807) : Sl D RP 3 v l :=
  hF.sl hn hb fun _i _t hi => ⟨_, rfl, rfl, flat_get (k := 3) (fun _ => rfl) hi⟩
def chC (l : List Ch) : List Value := l.flatMap fun c => [.int .i64 c.size, .int .i64 c.parts.a, .int .i64 c.parts.b, .int .i64 c.parts.c]
theorem chC_snoc (l : List Ch) (c : Ch) : chC (l ++ [c]) = chC l ++ [.int .i64 c.size, .int .i64 c.parts.a, .int .i64 c.parts.b, .int .i64 c.parts.c] := by simp [chC]
theorem chC_lenn (l : List Ch) (n : Nat) (h : l.length = n) : (chC l).length = n * 4 := by rw [chC, flat_k (k := 4) (fun _ => rfl), h]
theorem Froz.chs {D : Data} {v : Value} {n : Nat} {l : List Ch} (hF : Froz D v n (chC l)) (hn : l.length = n) (hb : n ≤ 9223372036854775807) : Sl D RCh 4 v l :=
  hF.sl hn hb fun _i _t hi => ⟨_, rfl, rfl, flat_get (k := 4) (fun _ => rfl) hi⟩
theorem ints_len {xs ys : List Int} (h : xs.length ≠ ys.length) : false = (xs == ys) := by
  symm; simp; intro e; exact h (by rw [e])
theorem ints_no {xs ys : List Int} {k : Nat} {a b : Int} (ha : xs[k]? = some a) (hb : ys[k]? = some b) (h : a ≠ b) : false = (xs == ys) := by
  symm; simp; rintro rfl; rw [ha] at hb; exact h (Option.some.inj hb)
theorem ints_step {xs ys : List Int} {k : Nat} {a b : Int} (ha : xs[k]? = some a) (hb : ys[k]? = some b) (h2 : xs.take k = ys.take k) (h : a = b) : xs.take (k + 1) = ys.take (k + 1) := by
  rw [List.take_add_one, List.take_add_one, ha, hb, h2, h]
theorem ints_yes {xs ys : List Int} {k : Nat} (hl : xs.length = ys.length) (hk : xs.length ≤ k) (h2 : xs.take k = ys.take k) : true = (xs == ys) := by
  rw [List.take_of_length_le hk, List.take_of_length_le (by omega)] at h2; rw [h2]; simp
def thin (y : YardD) : Bool := (decide ((y.chairs.length : Int) ≤ 9) && decide ((y.claims.length : Int) ≤ 7)) && (decide (fault y ≠ 0) || decide ((unknown y.chairs : Int) ≤ 5))
theorem to_ok (p : Int × Int) (D : Data) : Fn Try.prog 41 #[k2V p] D (fun _ v => v = k2V p) := by
  obtain ⟨lo, hi⟩ := p
  unfold k2V
  refine enter 8 Try.func41 rfl rfl rfl rfl fun h0 => ?_
  refine C.seq ?_
  refine C.region [(false,0),(false,1)] rfl ?_
  refine L.boxD rfl rfl rfl rfl trivial (fun q1 E1 hE1 hB1 => ?_)
  refine L.alloc rfl Tf.z61 rfl rfl trivial (fun q2 => ?_)
  refine L.nil ?_
  refine C.next ?_
  refine C.seq ?_
  refine C.region [(false,0),(false,1),(false,2),(false,3),(false,4),(false,5)] rfl ?_
  refine L.fieldAddr rfl Tf.f67_0 rfl rfl trivial ?_
  refine L.loadD1 rfl (k := 0) Tf.a3 rfl hB1 (by first | simp | assumption) rfl List.not_mem_nil rfl trivial ?_
  refine L.fieldAddr rfl Tf.f67_1 rfl rfl trivial ?_
  refine L.loadD1 rfl (k := 1) Tf.a3 rfl hB1 (by first | simp | assumption) rfl List.not_mem_nil rfl trivial ?_
  refine L.build (cs := [.int .i64 lo, .int .i64 hi]) rfl Tf.p61 Tf.z61 rfl rfl rfl trivial ?_
  refine L.storeW rfl rfl rfl rfl Tf.s61 (by first | rfl | (simp only [ints_length, *]; done) | (simp only [ints_length, *]; rfl) | (simp only [ints_length, *]; omega)) (by first | rfl | (simp only [ints_length, *]; done) | (simp only [ints_length, *]; rfl) | (simp only [ints_length, *]; omega)) (Has.head) (by first | exact ints_cell1 _ | simp [cell1]) trivial ?_
  refine L.nil ?_
  refine C.next ?_
  refine C.ret ?_
  exact leave (vs := [_]) rfl rfl rfl ⟨⟨_, _, _, rfl, (List.Mem.head _), Or.inr ⟨Tf.a61, (by first | exact Tf.s61 | (simp only [List.size_toArray, ints_length, *]; exact Tf.s61)), rfl⟩⟩, trivial⟩ (fun D hD => rfl)
theorem between_ok (lo hi : Int) (D : Data) : Fn Try.prog 71 #[.int .i64 lo, .int .i64 hi] D (fun _ v => v = k2V (lo, hi)) := by
  refine enter 8 Try.func71 rfl rfl rfl rfl fun h0 => ?_
  refine C.seq ?_
  refine C.region [(false,0)] rfl ?_
  refine L.alloc rfl Tf.z61 rfl rfl trivial (fun q1 => ?_)
  refine L.nil ?_
  refine C.next ?_
  refine C.seq ?_
  refine C.region [(false,0),(false,1),(false,2),(false,3)] rfl ?_
  refine L.move rfl rfl rfl trivial ?_
  refine L.move rfl rfl rfl trivial ?_
  refine L.build (cs := [.int .i64 lo, .int .i64 hi]) rfl Tf.p61 Tf.z61 rfl rfl rfl trivial ?_
  refine L.storeW rfl rfl rfl rfl Tf.s61 (by first | rfl | (simp only [ints_length, *]; done) | (simp only [ints_length, *]; rfl) | (simp only [ints_length, *]; omega)) (by first | rfl | (simp only [ints_length, *]; done) | (simp only [ints_length, *]; rfl) | (simp only [ints_length, *]; omega)) (Has.head) (by first | exact ints_cell1 _ | simp [cell1]) trivial ?_
  refine L.nil ?_
  refine C.next ?_
  refine C.ret ?_
  exact leave (vs := [_]) rfl rfl rfl ⟨⟨_, _, _, rfl, (List.Mem.head _), Or.inr ⟨Tf.a61, (by first | exact Tf.s61 | (simp only [List.size_toArray, ints_length, *]; exact Tf.s61)), rfl⟩⟩, trivial⟩ (fun D hD => rfl)
theorem TruthL_ok (tv : Value) (t : List Pt) (D : Data) (ht : Sl D RP 3 tv t) (hl : t.length ≤ 1000) : Fn Try.prog 24 #[tv] D (fun D' v => Sl D' RP 3 v t) := by
  have hll := hl
  refine enter 19 Try.func24 rfl rfl rfl rfl fun h0 => ?_
  refine C.seq ?_
  refine C.region [(false,0)] rfl ?_
  refine L.assign rfl rfl rfl trivial ?_
  refine L.nil ?_
  refine C.next ?_
  refine C.seq ?_
  refine C.region [(false,0)] rfl ?_
  refine L.assign rfl rfl rfl trivial ?_
  refine L.nil ?_
  refine C.next ?_
  refine C.seq ?_
  refine C.seq ?_
  refine C.region [(false,0)] rfl ?_
  refine L.assign rfl rfl rfl trivial ?_
  refine L.nil ?_
  refine C.next ?_
  refine C.block ?_
  refine C.loopR (γ := Nat × Value × Boxes) (fun g => t.length - g.1) (fun g => g.1 ≤ t.length ∧ Acc 113 3 g.2.1 g.1 (ptC (t.take g.1)) g.2.2) (fun g => [(4, .int .i64 (g.1 : Int)), (3, g.2.1)]) [(2, _), (0, _)] (fun g => g.2.2 ++ []) (fun g => [D]) (0, .slice none 0 0, []) ⟨by simp, by simpa [ptC, prC, chC] using Acc.nil⟩ ⟨(by first | rfl | (show some (Value.int _ _) = some (Value.int _ _); congr 2; omega)), (by first | rfl | (show some (Value.int _ _) = some (Value.int _ _); congr 2; omega)), trivial⟩ ⟨rfl, rfl, trivial⟩ (List.Sublist.refl _) (ds_same) ?_
  rintro ⟨k, v, ν⟩ ⟨hk1, ha⟩
  simp only at hk1 ha
  refine C.seq ?_
  refine C.seq ?_
  refine C.region [(false,0),(false,1),(false,2),(false,3)] rfl ?_
  refine L.move rfl rfl rfl trivial ?_
  refine L.move rfl rfl rfl trivial ?_
  refine L.len rfl Try.underlying26 rfl ht rfl rfl trivial ?_
  refine L.lss rfl rfl rfl rfl trivial ?_
  refine L.nil ?_
  refine C.next ?_
  refine C.condD rfl (fun hc1 => ?_) (fun hc1 => ?_)
  · have hk : k < t.length := by omega
    obtain ⟨x, hx⟩ : ∃ x, t[k]? = some x := ⟨_, List.getElem?_eq_getElem hk⟩
    refine C.skip ?_
    refine C.next ?_
    refine C.seq ?_
    refine C.block ?_
    refine C.region [(false,0),(false,1),(false,2),(false,3),(false,4),(false,5),(false,6),(false,7)] rfl ?_
    refine L.move rfl rfl rfl trivial ?_
    refine L.move rfl rfl rfl trivial ?_
    refine L.move rfl rfl rfl trivial ?_
    refine L.indexS rfl Try.underlying26 Tf.s91 rfl ht rfl (by omega) hx rfl trivial (fun b1 o1 cs1 hr1 hcl1 hA1 => ?_)
    obtain rfl : cs1 = [.int .i64 _, .int .i64 _, .int .i64 _] := hr1
    refine L.loadDW rfl Tf.a91 rfl hA1 (by first | simp | assumption) (by first | exact Tf.s91 | (simp only [ints_length, *]; exact Tf.s91)) List.not_mem_nil rfl trivial ?_
    refine L.buildSlice rfl Try.underlying39 Tf.s113 Tf.z113 rfl rfl rfl rfl (.cons rfl rfl .nil) rfl trivial (fun b901 D901 hD901 hA901 => ?_)
    refine L.append (A := []) (B := []) rfl Try.underlying39 rfl rfl Tf.s113 Tf.z113 rfl Tf.i113 rfl rfl rfl ha (Src.lit hA901) (by simp) rfl (ptC_lenn _ _ (by simp; omega)) (by simp [cell1]) (by omega) (Or.inl rfl) rfl trivial (fun v7 ν7 ha7 => ?_)
    have hn7 : Acc 113 3 v7 (k + 1) (ptC (t.take (k + 1))) ν7 := by rw [List.take_add_one, hx, Option.toList_some, ptC_snoc]; simpa using ha7
    refine L.assign rfl rfl rfl trivial ?_
    refine L.nil ?_
    refine C.blockEnd ?_
    refine C.next ?_
    refine C.region [(false,0),(false,1),(false,2)] rfl ?_
    refine L.move rfl rfl rfl trivial ?_
    refine L.add rfl rfl rfl (by simp only [inK]; omega) rfl trivial ?_
    refine L.assign rfl rfl rfl trivial ?_
    refine L.nil ?_
    exact C.againR 17 (k + 1, v7, ν7) ⟨by simp only; omega, hn7⟩ (by simp only; omega) ⟨(by first | rfl | (show some (Value.int _ _) = some (Value.int _ _); congr 2; omega)), (by first | rfl | (show some (Value.int _ _) = some (Value.int _ _); congr 2; omega)), trivial⟩ rfl rfl (List.Sublist.refl _) (fun D h => ⟨D, List.Mem.tail _ (h), Le.refl D⟩)
  · obtain rfl : k = t.length := by omega
    rw [List.take_length] at ha
    refine C.exit ?_
    refine C.thenExit ?_
    refine C.thenExit ?_
    refine C.blockExit ?_
    refine C.next ?_
    refine C.seq ?_
    refine C.region [(false,0),(false,1)] rfl ?_
    refine L.move rfl rfl rfl trivial ?_
    refine L.assign rfl rfl rfl trivial ?_
    refine L.nil ?_
    refine C.next ?_
    refine C.ret ?_
    refine Q.freeze (A := []) (B := []) ha rfl (fun D2 hD2 hF => ?_)
    exact leave (vs := [_]) rfl rfl rfl ⟨rfl, trivial⟩ (fun D' hD => (hF.pts rfl (by omega)).up RP.up (hD _ (by simp)))
theorem ints_ok (av bv : Value) (xs ys : List Int) (D : Data) (hx : Sl D RI 1 av xs) (hy : Sl D RI 1 bv ys) : Fn Try.prog 50 #[av, bv] D (fun _ v => v = .bool (xs == ys)) := by
  have hl := hx.len
  refine enter 26 Try.func50 rfl rfl rfl rfl fun h0 => ?_
  refine C.seq ?_
  refine C.region [(false,0)] rfl ?_
  refine L.assign rfl rfl rfl trivial ?_
  refine L.nil ?_
  refine C.next ?_
  refine C.seq ?_
  refine C.seq ?_
  refine C.region [(false,0),(false,1),(false,2),(false,3),(false,4)] rfl ?_
  refine L.move rfl rfl rfl trivial ?_
  refine L.len rfl Try.underlying52 rfl hx rfl rfl trivial ?_
  refine L.move rfl rfl rfl trivial ?_
  refine L.len rfl Try.underlying52 rfl hy rfl rfl trivial ?_
  refine L.neq rfl rfl rfl rfl trivial ?_
  refine L.nil ?_
  refine C.next ?_
  refine C.condD rfl (fun hc1 => ?_) (fun hc1 => ?_)
  · refine C.seq ?_
    refine C.region [(false,0)] rfl ?_
    refine L.assign rfl rfl rfl trivial ?_
    refine L.nil ?_
    refine C.next ?_
    refine C.ret ?_
    refine C.thenRet ?_
    exact leave (vs := [_]) rfl rfl rfl ⟨rfl, trivial⟩ (fun D hD => congrArg Value.bool (ints_len (by omega)))
  · have hlen : xs.length = ys.length := by omega
    refine C.skip ?_
    refine C.next ?_
    refine C.seq ?_
    refine C.seq ?_
    refine C.region [(false,0)] rfl ?_
    refine L.assign rfl rfl rfl trivial ?_
    refine L.nil ?_
    refine C.next ?_
    refine C.block ?_
    refine C.loopC (γ := Nat) (fun k => xs.length - k) (fun k => k ≤ xs.length ∧ xs.take k = ys.take k) (fun k => [(5, .int .i64 (k : Int))]) [(4, _), (0, _), (1, _)] (fun k => [D]) 0 (by simp) ⟨(by first | rfl | (show some (Value.int _ _) = some (Value.int _ _); congr 2; omega)), trivial⟩ ⟨rfl, rfl, rfl, trivial⟩ (ds_same) ?_
    rintro k ⟨h1, h2⟩
    refine C.seq ?_
    refine C.seq ?_
    refine C.region [(false,0),(false,1),(false,2),(false,3)] rfl ?_
    refine L.move rfl rfl rfl trivial ?_
    refine L.move rfl rfl rfl trivial ?_
    refine L.len rfl Try.underlying52 rfl hx rfl rfl trivial ?_
    refine L.lss rfl rfl rfl rfl trivial ?_
    refine L.nil ?_
    refine C.next ?_
    refine C.condD rfl (fun hc2 => ?_) (fun hc2 => ?_)
    · have hk : k < xs.length := by omega
      obtain ⟨a, ha⟩ : ∃ a, xs[k]? = some a := ⟨_, List.getElem?_eq_getElem hk⟩
      obtain ⟨b, hb⟩ : ∃ b, ys[k]? = some b := ⟨_, List.getElem?_eq_getElem (by omega)⟩
      refine C.skip ?_
      refine C.next ?_
      refine C.seq ?_
      refine C.block ?_
      refine C.seq ?_
      refine C.draw [] 3 [0,1,2,3,4,5,6,7,8] [false,true,false,false,true,true,true,true,false] [(false,0),(true,1),(false,2),(false,3),(true,4),(true,5),(true,6),(true,7),(false,8)] Tf.follows (fun _ _ _ h => np_body (P := Try.prog) (fn := Try.f50) _ _ _ h) (by kernel_rfl) rfl ?_
      refine L.move rfl rfl rfl trivial ?_
      refine L.move rfl rfl rfl trivial ?_
      refine L.indexS rfl Try.underlying52 Tf.s3 rfl hx rfl (by omega) ha rfl trivial (fun b1 o1 cs1 hr1 hcl1 hA1 => ?_)
      obtain rfl : cs1 = [.int .i64 _] := hr1
      refine L.loadD1 rfl (k := 0) Tf.a3 rfl hA1 (by first | simp | assumption) rfl List.not_mem_nil rfl trivial ?_
      refine L.move rfl rfl rfl trivial ?_
      refine L.move rfl rfl rfl trivial ?_
      refine L.indexS rfl Try.underlying52 Tf.s3 rfl hy rfl (by omega) hb rfl trivial (fun b2 o2 cs2 hr2 hcl2 hA2 => ?_)
      obtain rfl : cs2 = [.int .i64 _] := hr2
      refine L.loadD1 rfl (k := 0) Tf.a3 rfl hA2 (by first | simp | assumption) rfl List.not_mem_nil rfl trivial ?_
      refine L.neq rfl rfl rfl rfl trivial ?_
      refine L.nil ?_
      refine C.next ?_
      refine C.condD rfl (fun hc3 => ?_) (fun hc3 => ?_)
      · refine C.seq ?_
        refine C.region [(false,0)] rfl ?_
        refine L.assign rfl rfl rfl trivial ?_
        refine L.nil ?_
        refine C.next ?_
        refine C.ret ?_
        refine C.blockRet ?_
        refine C.thenRet ?_
        refine C.thenRet ?_
        refine C.blockRet ?_
        refine C.thenRet ?_
        exact leave (vs := [_]) rfl rfl rfl ⟨rfl, trivial⟩ (fun D hD => congrArg Value.bool (ints_no ha hb hc3))
      · refine C.skip ?_
        refine C.blockEnd ?_
        refine C.next ?_
        refine C.region [(false,0),(false,1),(false,2)] rfl ?_
        refine L.move rfl rfl rfl trivial ?_
        refine L.add rfl rfl rfl (by simp only [inK]; omega) rfl trivial ?_
        refine L.assign rfl rfl rfl trivial ?_
        refine L.nil ?_
        exact C.againR 17 (k + 1) ⟨by omega, ints_step ha hb h2 (by omega)⟩ (by omega) ⟨(by first | rfl | (show some (Value.int _ _) = some (Value.int _ _); congr 2; omega)), trivial⟩ rfl rfl (List.Sublist.refl _) (ds_same)
    · refine C.exit ?_
      refine C.thenExit ?_
      refine C.thenExit ?_
      refine C.blockExit ?_
      refine C.next ?_
      refine C.seq ?_
      refine C.region [(false,0)] rfl ?_
      refine L.assign rfl rfl rfl trivial ?_
      refine L.nil ?_
      refine C.next ?_
      refine C.ret ?_
      exact leave (vs := [_]) rfl rfl rfl ⟨rfl, trivial⟩ (fun D hD => congrArg Value.bool (ints_yes hlen (by omega) h2))
theorem Thin_ok (yv : Value) (y : YardD) (D : Data) (hy : YardIs D yv y) : Fn Try.prog 20 #[yv] D (fun _ v => v = .bool (thin y)) := by
  have hy0 := hy
  obtain ⟨cv, qv, rfl, hc, hq⟩ := hy
  refine enter 23 Try.func20 rfl rfl rfl rfl fun h0 => ?_
  refine C.seq ?_
  refine C.region [(false,0),(false,1)] rfl ?_
  refine L.boxD rfl rfl rfl rfl trivial (fun q1 E1 hE1 hB1 => ?_)
  refine L.assign rfl rfl rfl trivial ?_
  refine L.nil ?_
  refine C.next ?_
  refine C.seq ?_
  refine C.region [(false,0),(false,1),(false,2),(false,3),(false,4),(false,5),(false,6),(false,7),(false,8),(false,9),(false,10),(false,11),(false,12),(false,13),(false,14),(false,15),(false,16),(false,17),(false,18),(false,19),(false,20)] rfl ?_
  refine L.fieldAddr rfl Tf.f25_0 rfl rfl trivial ?_
  refine L.loadD1 rfl (k := 0) Tf.a22 rfl hB1 (by first | simp | assumption) rfl List.not_mem_nil rfl trivial ?_
  refine L.len rfl Try.underlying22 rfl (by assumption) rfl rfl trivial ?_
  refine L.leq rfl rfl rfl rfl trivial ?_
  refine L.move rfl rfl rfl trivial ?_
  refine' L.and [(false,5),(false,6),(false,7),(false,8),(false,9)] [(false,10),(false,11),(false,12),(false,13),(false,14),(false,15),(false,16),(false,17),(false,18),(false,19),(false,20)] (s := 7) (p := 12) rfl rfl (fun hg1 => ?_) (fun hg1 => ?_) ?_
  rotate_left
  · refine L.fieldAddr rfl Tf.f25_2 rfl rfl ⟨_, rfl, rfl⟩ ?_
    refine L.loadD1 rfl (k := 2) Tf.a23 rfl hB1 (by first | simp | assumption) rfl List.not_mem_nil rfl ⟨_, rfl, rfl⟩ ?_
    refine L.len rfl Try.underlying23 rfl (by assumption) rfl rfl ⟨_, rfl, rfl⟩ ?_
    refine L.leq rfl rfl rfl rfl ⟨_, rfl, rfl⟩ ?_
    refine L.pickT rfl rfl rfl rfl trivial ?_
    exact L.nil fun a w hh => hh.cutK 4 rfl
  · refine L.pass rfl rfl rfl ⟨_, _, rfl, rfl, rfl⟩ ?_
    refine L.pass rfl rfl rfl ⟨_, _, rfl, rfl, rfl⟩ ?_
    refine L.pass rfl rfl rfl ⟨_, _, rfl, rfl, rfl⟩ ?_
    refine L.pass rfl rfl rfl ⟨_, _, rfl, rfl, rfl⟩ ?_
    refine L.pickF rfl rfl rfl rfl trivial ?_
    exact L.nil fun a w hh => hh.cutK 4 rfl
  refine L.move rfl rfl rfl trivial ?_
  refine' L.and [(false,11),(false,12),(false,13),(false,14),(false,15),(false,16),(false,17),(false,18),(false,19)] [(false,20)] (s := 13) (p := 22) rfl rfl (fun hg2 => ?_) (fun hg2 => ?_) ?_
  rotate_left
  · refine L.loadDW rfl Tf.a25 rfl hB1 (by first | simp | assumption) Tf.s25 List.not_mem_nil rfl ⟨_, rfl, rfl⟩ ?_
    refine L.callV rfl rfl rfl (fun D1 hD1 => Fault_ok _ y _ (hy0.up (hD1 _ (by simp)))) rfl ⟨_, rfl, rfl⟩ ?_
    refine L.neq rfl rfl rfl rfl ⟨_, rfl, rfl⟩ ?_
    refine L.move rfl rfl rfl ⟨_, rfl, rfl⟩ ?_
    refine' L.or [(false,15),(false,16),(false,17),(false,18)] [(false,19)] (s := 17) (p := 21) rfl rfl (fun hg3 => ?_) (fun hg3 => ?_) ?_
    rotate_left
    · refine L.loadDW rfl Tf.a25 rfl hB1 (by first | simp | assumption) Tf.s25 List.not_mem_nil rfl ⟨_, rfl, rfl⟩ ?_
      refine L.callV rfl rfl rfl (fun D2 hD2 => Unknown_ok _ y _ (hy0.up (hD2 _ (by simp))) (by simp at *; omega)) rfl ⟨_, rfl, rfl⟩ ?_
      refine L.leq rfl rfl rfl rfl ⟨_, rfl, rfl⟩ ?_
      refine L.pickF rfl rfl rfl rfl ⟨_, rfl, rfl⟩ ?_
      exact L.nil fun a w hh => hh.cutK 3 rfl
    · refine L.pass rfl rfl rfl ⟨_, _, rfl, rfl, rfl⟩ ?_
      refine L.pass rfl rfl rfl ⟨_, _, rfl, rfl, rfl⟩ ?_
      refine L.pass rfl rfl rfl ⟨_, _, rfl, rfl, rfl⟩ ?_
      refine L.pickT rfl rfl rfl rfl ⟨_, rfl, rfl⟩ ?_
      exact L.nil fun a w hh => hh.cutK 3 rfl
    refine L.pickT rfl rfl rfl rfl trivial ?_
    exact L.nil fun a w hh => hh.cutK 5 rfl
  · refine L.pass rfl rfl rfl ⟨_, _, rfl, rfl, rfl⟩ ?_
    refine L.pass rfl rfl rfl ⟨_, _, rfl, rfl, rfl⟩ ?_
    refine L.pass rfl rfl rfl ⟨_, _, rfl, rfl, rfl⟩ ?_
    refine L.pass rfl rfl rfl ⟨_, _, rfl, rfl, rfl⟩ ?_
    refine L.pass rfl rfl rfl ⟨_, _, rfl, rfl, rfl⟩ ?_
    refine L.pass rfl rfl rfl ⟨_, _, rfl, rfl, rfl⟩ ?_
    refine L.pass rfl rfl rfl ⟨_, _, rfl, rfl, rfl⟩ ?_
    refine L.pass rfl rfl rfl ⟨_, _, rfl, rfl, rfl⟩ ?_
    refine L.pickF rfl rfl rfl rfl trivial ?_
    exact L.nil fun a w hh => hh.cutK 8 rfl
  refine L.assign rfl rfl rfl trivial ?_
  refine L.nil ?_
  refine C.next ?_
  refine C.ret ?_
  exact leave (vs := [_]) rfl rfl rfl ⟨rfl, trivial⟩ (fun D hD => rfl)
theorem ready_ok (yv : Value) (y : YardD) (D : Data) (hy : YardIs D yv y) : Fn Try.prog 53 #[yv] D (fun _ v => v = .bool (thin y && decide (fault y = 0))) := by
  have hy0 := hy
  obtain ⟨cv, qv, rfl, hc, hq⟩ := hy
  refine enter 10 Try.func53 rfl rfl rfl rfl fun h0 => ?_
  refine C.seq ?_
  refine C.region [(false,0),(false,1)] rfl ?_
  refine L.boxD rfl rfl rfl rfl trivial (fun q1 E1 hE1 hB1 => ?_)
  refine L.assign rfl rfl rfl trivial ?_
  refine L.nil ?_
  refine C.next ?_
  refine C.seq ?_
  refine C.region [(false,0),(false,1),(false,2),(false,3),(false,4),(false,5),(false,6),(false,7)] rfl ?_
  refine L.loadDW rfl Tf.a25 rfl hB1 (by first | simp | assumption) Tf.s25 List.not_mem_nil rfl trivial ?_
  refine L.callV rfl rfl rfl (fun D1 hD1 => Thin_ok _ y _ (hy0.up (hD1 _ (by simp)))) rfl trivial ?_
  refine L.move rfl rfl rfl trivial ?_
  refine' L.and [(false,3),(false,4),(false,5),(false,6)] [(false,7)] (s := 5) (p := 9) rfl rfl (fun hg1 => ?_) (fun hg1 => ?_) ?_
  rotate_left
  · refine L.loadDW rfl Tf.a25 rfl hB1 (by first | simp | assumption) Tf.s25 List.not_mem_nil rfl ⟨_, rfl, rfl⟩ ?_
    refine L.callV rfl rfl rfl (fun D2 hD2 => Fault_ok _ y _ (hy0.up (hD2 _ (by simp)))) rfl ⟨_, rfl, rfl⟩ ?_
    refine L.eql rfl rfl rfl rfl ⟨_, rfl, rfl⟩ ?_
    refine L.pickT rfl rfl rfl rfl trivial ?_
    exact L.nil fun a w hh => hh.cutK 3 rfl
  · refine L.pass rfl rfl rfl ⟨_, _, rfl, rfl, rfl⟩ ?_
    refine L.pass rfl rfl rfl ⟨_, _, rfl, rfl, rfl⟩ ?_
    refine L.pass rfl rfl rfl ⟨_, _, rfl, rfl, rfl⟩ ?_
    refine L.pickF rfl rfl rfl rfl trivial ?_
    exact L.nil fun a w hh => hh.cutK 3 rfl
  refine L.assign rfl rfl rfl trivial ?_
  refine L.nil ?_
  refine C.next ?_
  refine C.ret ?_
  exact leave (vs := [_]) rfl rfl rfl ⟨rfl, trivial⟩ (fun D hD => rfl)
end Go.Fs
namespace Go.Fs
open Go.Proofs
open C7
theorem cell1_yard {a b : Value} {m : Int} (ha : ∀ u ∈ [a], cell1 u = true) (hb : ∀ u ∈ [b], cell1 u = true) : ∀ u ∈ [a, .int .i64 m, b], cell1 u = true := by
  intro u hu
  simp only [List.mem_cons, List.not_mem_nil, or_false] at hu
  rcases hu with rfl | rfl | rfl
  · exact ha _ List.mem_cons_self
  · rfl
  · exact hb _ List.mem_cons_self
theorem YardL_ok (yv : Value) (y : YardD) (D : Data) (hy : YardIs D yv y) (h1 : y.chairs.length ≤ 100) (h2 : y.claims.length ≤ 100) : Fn Try.prog 23 #[yv] D (fun D' v => YardIs D' v y) := by
  obtain ⟨cv, qv, rfl, hc, hq⟩ := hy
  have hlp := h1
  have hlc := h2
  refine enter 53 Try.func23 rfl rfl rfl rfl fun h0 => ?_
  refine C.seq ?_
  refine C.region [(false,0),(false,1)] rfl ?_
  refine L.boxD rfl rfl rfl rfl trivial (fun q1 E1 hE1 hB1 => ?_)
  refine L.alloc rfl Tf.z37 rfl rfl trivial (fun q2 => ?_)
  refine L.nil ?_
  refine C.next ?_
  refine C.seq ?_
  refine C.region [(false,0),(false,1),(false,2),(false,3),(false,4)] rfl ?_
  refine L.fieldAddr rfl Tf.f25_1 rfl rfl trivial ?_
  refine L.loadD1 rfl (k := 1) Tf.a3 rfl hB1 (by first | simp | assumption) rfl List.not_mem_nil rfl trivial ?_
  refine L.build (cs := [.slice none 0 0, .int .i64 y.fit, .slice none 0 0]) rfl Tf.p37 Tf.z37 rfl rfl rfl trivial ?_
  refine L.alloc rfl Tf.z37 rfl rfl trivial (fun q3 => ?_)
  refine L.storeW rfl rfl rfl rfl Tf.s37 (by first | rfl | (simp only [ints_length, *]; done) | (simp only [ints_length, *]; rfl) | (simp only [ints_length, *]; omega)) (by first | rfl | (simp only [ints_length, *]; done) | (simp only [ints_length, *]; rfl) | (simp only [ints_length, *]; omega)) (Has.head) (by first | exact ints_cell1 _ | simp [cell1]) trivial ?_
  refine L.nil ?_
  refine C.next ?_
  refine C.seq ?_
  refine C.seq ?_
  refine C.region [(false,0)] rfl ?_
  refine L.assign rfl rfl rfl trivial ?_
  refine L.nil ?_
  refine C.next ?_
  refine C.block ?_
  refine C.loopR (γ := Nat × Value × Boxes) (fun g => y.chairs.length - g.1) (fun g => g.1 ≤ y.chairs.length ∧ Acc 115 4 g.2.1 g.1 (chC (y.chairs.take g.1)) g.2.2) (fun g => [(4, .int .i64 (g.1 : Int))]) [(3, _), (2, _), (1, _)] (fun g => (q3, .cells [g.2.1, .int .i64 y.fit, .slice none 0 0].toArray 37 (0, 0)) :: (q2, .cells [.slice none 0 0, .int .i64 0, .slice none 0 0].toArray 37 (0, 0)) :: (g.2.2 ++ [])) (fun g => [E1, D]) (0, .slice none 0 0, []) ⟨by simp, by simpa [chC, prC] using Acc.nil⟩ ⟨(by first | rfl | (show some (Value.int _ _) = some (Value.int _ _); congr 2; omega)), trivial⟩ ⟨rfl, rfl, rfl, trivial⟩ (List.Sublist.refl _) (ds_same) ?_
  rintro ⟨k, w1, ν⟩ ⟨hk1, ha⟩
  simp only at hk1 ha
  refine C.seq ?_
  refine C.seq ?_
  refine C.region [(false,0),(false,1),(false,2),(false,3),(false,4)] rfl ?_
  refine L.move rfl rfl rfl trivial ?_
  refine L.fieldAddr rfl Tf.f25_0 rfl rfl trivial ?_
  refine L.loadD1 rfl (k := 0) Tf.a22 rfl hB1 (by first | simp | assumption) rfl List.not_mem_nil rfl trivial ?_
  refine L.len rfl Try.underlying22 rfl hc rfl rfl trivial ?_
  refine L.lss rfl rfl rfl rfl trivial ?_
  refine L.nil ?_
  refine C.next ?_
  refine C.condD rfl (fun hc1 => ?_) (fun hc1 => ?_)
  · have hk : k < y.chairs.length := by omega
    obtain ⟨x, hx⟩ : ∃ x, y.chairs[k]? = some x := ⟨_, List.getElem?_eq_getElem hk⟩
    refine C.skip ?_
    refine C.next ?_
    refine C.seq ?_
    refine C.block ?_
    refine C.draw [] 7 [0,1,2,3,4,5,6,7,8,9,10,11,12,13,14,15,16,17,18] [false,false,true,true,true,true,true,true,true,true,true,true,true,true,true,true,false,false,false] [(false,0),(false,1),(true,2),(true,3),(true,4),(true,5),(true,6),(true,7),(true,8),(true,9),(true,10),(true,11),(true,12),(true,13),(true,14),(true,15),(false,16),(false,17),(false,18)] Tf.follows (fun _ _ _ h => np_body (P := Try.prog) (fn := Try.f23) _ _ _ h) (by kernel_rfl) rfl ?_
    refine L.fieldAddr rfl Tf.f37_0 rfl rfl trivial ?_
    refine L.loadB1 rfl Tf.a34 rfl (List.Mem.head _) rfl List.not_mem_nil rfl trivial ?_
    refine L.fieldAddr rfl Tf.f25_0 rfl rfl trivial ?_
    refine L.loadD1 rfl (k := 0) Tf.a22 rfl hB1 (by first | simp | assumption) rfl List.not_mem_nil rfl trivial ?_
    refine L.move rfl rfl rfl trivial ?_
    refine L.indexS rfl Try.underlying22 Tf.s94 rfl hc rfl (by omega) hx rfl trivial (fun b1 o1 cs1 hr1 hcl1 hA1 => ?_)
    obtain rfl : cs1 = [.int .i64 _, .int .i64 _, .int .i64 _, .int .i64 _] := hr1
    refine L.fieldAddr rfl Tf.f94_0 rfl rfl trivial ?_
    refine L.loadD1 rfl (k := 0) Tf.a3 rfl hA1 (by first | simp | assumption) rfl List.not_mem_nil rfl trivial ?_
    refine L.fieldAddr rfl Tf.f25_0 rfl rfl trivial ?_
    refine L.loadD1 rfl (k := 0) Tf.a22 rfl hB1 (by first | simp | assumption) rfl List.not_mem_nil rfl trivial ?_
    refine L.move rfl rfl rfl trivial ?_
    refine L.indexS rfl Try.underlying22 Tf.s94 rfl hc rfl (by omega) hx rfl trivial (fun b2 o2 cs2 hr2 hcl2 hA2 => ?_)
    obtain rfl : cs2 = [.int .i64 _, .int .i64 _, .int .i64 _, .int .i64 _] := hr2
    refine L.fieldAddr rfl Tf.f94_1 rfl rfl trivial ?_
    refine L.loadDP rfl (k := 1) Tf.a91 Tf.s91 rfl hA2 (by first | simp | assumption) rfl rfl List.not_mem_nil rfl trivial ?_
    refine L.build (cs := [.int .i64 x.size, .int .i64 x.parts.a, .int .i64 x.parts.b, .int .i64 x.parts.c]) rfl Tf.p115 Tf.z115 rfl rfl rfl trivial ?_
    refine L.buildSlice rfl Try.underlying34 Tf.s115 Tf.z115 rfl rfl rfl rfl (.cons rfl rfl .nil) rfl trivial (fun b901 D901 hD901 hA901 => ?_)
    refine L.append (A := [(_, _), (_, _)]) (B := []) rfl Try.underlying34 rfl rfl Tf.s115 Tf.z115 rfl Tf.i115 rfl rfl rfl ha (Src.lit hA901) (by simp) rfl (chC_lenn _ _ (by simp; omega)) (by simp [cell1]) (by omega) (Or.inl rfl) rfl trivial (fun v7 ν7 ha7 => ?_)
    have hn7 : Acc 115 4 v7 (k + 1) (chC (y.chairs.take (k + 1))) ν7 := by rw [List.take_add_one, hx, Option.toList_some, chC_snoc]; simpa using ha7
    refine L.fieldAddr rfl Tf.f37_0 rfl rfl trivial ?_
    refine L.store rfl rfl rfl ha7.cells1 Tf.s34 (Has.head) (by simp) rfl ha7.cell1 trivial ?_
    refine L.nil ?_
    refine C.blockEnd ?_
    refine C.next ?_
    refine C.region [(false,0),(false,1),(false,2)] rfl ?_
    refine L.move rfl rfl rfl trivial ?_
    refine L.add rfl rfl rfl (by simp only [inK]; omega) rfl trivial ?_
    refine L.assign rfl rfl rfl trivial ?_
    refine L.nil ?_
    exact C.againR 27 (k + 1, v7, ν7) ⟨by simp only; omega, hn7⟩ (by simp only; omega) ⟨(by first | rfl | (show some (Value.int _ _) = some (Value.int _ _); congr 2; omega)), trivial⟩ rfl rfl (List.Sublist.refl _) (fun D h => ⟨D, List.Mem.tail _ (h), Le.refl D⟩)
  · obtain rfl : k = y.chairs.length := by omega
    rw [List.take_length] at ha
    refine C.exit ?_
    refine C.thenExit ?_
    refine C.thenExit ?_
    refine C.blockExit ?_
    refine C.next ?_
    refine C.seq ?_
    refine C.seq ?_
    refine C.freeze (A := [(_, _), (_, _)]) (B := []) ha rfl (fun D8 hD8 hF8 => ?_)
    clear hk1
    have hcz := hF8.chs rfl (by omega)
    have hcz1 := hcz.cell1
    clear ha
    refine C.region [(false,0)] rfl ?_
    refine L.assign rfl rfl rfl trivial ?_
    refine L.nil ?_
    refine C.next ?_
    refine C.block ?_
    refine C.loopR (γ := Nat × Value × Boxes) (fun g => y.claims.length - g.1) (fun g => g.1 ≤ y.claims.length ∧ Acc 61 2 g.2.1 g.1 (prC (y.claims.take g.1)) g.2.2) (fun g => [(5, .int .i64 (g.1 : Int))]) [(3, _), (2, _), (1, _)] (fun g => (q3, .cells [w1, .int .i64 y.fit, g.2.1].toArray 37 (0, 0)) :: (q2, .cells [.slice none 0 0, .int .i64 0, .slice none 0 0].toArray 37 (0, 0)) :: (g.2.2 ++ [])) (fun g => [D8, E1, D]) (0, .slice none 0 0, []) ⟨by simp, by simpa [chC, prC] using Acc.nil⟩ ⟨(by first | rfl | (show some (Value.int _ _) = some (Value.int _ _); congr 2; omega)), trivial⟩ ⟨rfl, rfl, rfl, trivial⟩ (List.Sublist.refl _) (ds_same) ?_
    rintro ⟨k, v, ν⟩ ⟨hk1, ha⟩
    simp only at hk1 ha
    refine C.seq ?_
    refine C.seq ?_
    refine C.region [(false,0),(false,1),(false,2),(false,3),(false,4)] rfl ?_
    refine L.move rfl rfl rfl trivial ?_
    refine L.fieldAddr rfl Tf.f25_2 rfl rfl trivial ?_
    refine L.loadD1 rfl (k := 2) Tf.a23 rfl hB1 (by first | simp | assumption) rfl List.not_mem_nil rfl trivial ?_
    refine L.len rfl Try.underlying23 rfl hq rfl rfl trivial ?_
    refine L.lss rfl rfl rfl rfl trivial ?_
    refine L.nil ?_
    refine C.next ?_
    refine C.condD rfl (fun hc2 => ?_) (fun hc2 => ?_)
    · have hk : k < y.claims.length := by omega
      obtain ⟨x, hx⟩ : ∃ x, y.claims[k]? = some x := ⟨_, List.getElem?_eq_getElem hk⟩
      refine C.skip ?_
      refine C.next ?_
      refine C.seq ?_
      refine C.block ?_
      refine C.draw [] 5 [0,1,2,3,4,5,6,7,8,9,10,11] [false,false,true,true,true,true,true,true,true,false,false,false] [(false,0),(false,1),(true,2),(true,3),(true,4),(true,5),(true,6),(true,7),(true,8),(false,9),(false,10),(false,11)] Tf.follows (fun _ _ _ h => np_body (P := Try.prog) (fn := Try.f23) _ _ _ h) (by kernel_rfl) rfl ?_
      refine L.fieldAddr rfl Tf.f37_2 rfl rfl trivial ?_
      refine L.loadB1 rfl Tf.a35 rfl (List.Mem.head _) rfl List.not_mem_nil rfl trivial ?_
      refine L.fieldAddr rfl Tf.f25_2 rfl rfl trivial ?_
      refine L.loadD1 rfl (k := 2) Tf.a23 rfl hB1 (by first | simp | assumption) rfl List.not_mem_nil rfl trivial ?_
      refine L.move rfl rfl rfl trivial ?_
      refine L.indexS rfl Try.underlying23 Tf.s67 rfl hq rfl (by omega) hx rfl trivial (fun b3 o3 cs3 hr3 hcl3 hA3 => ?_)
      obtain rfl : cs3 = [.int .i64 _, .int .i64 _] := hr3
      refine L.loadDW rfl Tf.a67 rfl hA3 (by first | simp | assumption) Tf.s67 List.not_mem_nil rfl trivial ?_
      refine L.callV rfl rfl rfl (fun D1 hD1 => to_ok x _) rfl trivial ?_
      refine L.buildSlice rfl Try.underlying35 Tf.s61 Tf.z61 rfl rfl rfl rfl (.cons rfl rfl .nil) rfl trivial (fun b902 D902 hD902 hA902 => ?_)
      refine L.append (A := [(_, _), (_, _)]) (B := []) rfl Try.underlying35 rfl rfl Tf.s61 Tf.z61 rfl Tf.i61 rfl rfl rfl ha (Src.lit hA902) (by simp) rfl (prC_lenn _ _ (by simp; omega)) (by simp [cell1]) (by omega) (Or.inl rfl) rfl trivial (fun v7 ν7 ha7 => ?_)
      have hn7 : Acc 61 2 v7 (k + 1) (prC (y.claims.take (k + 1))) ν7 := by rw [List.take_add_one, hx, Option.toList_some, prC_snoc]; simpa using ha7
      refine L.fieldAddr rfl Tf.f37_2 rfl rfl trivial ?_
      refine L.store rfl rfl rfl ha7.cells1 Tf.s35 (Has.head) (by simp) rfl ha7.cell1 trivial ?_
      refine L.nil ?_
      refine C.blockEnd ?_
      refine C.next ?_
      refine C.region [(false,0),(false,1),(false,2)] rfl ?_
      refine L.move rfl rfl rfl trivial ?_
      refine L.add rfl rfl rfl (by simp only [inK]; omega) rfl trivial ?_
      refine L.assign rfl rfl rfl trivial ?_
      refine L.nil ?_
      exact C.againR 20 (k + 1, v7, ν7) ⟨by simp only; omega, hn7⟩ (by simp only; omega) ⟨(by first | rfl | (show some (Value.int _ _) = some (Value.int _ _); congr 2; omega)), trivial⟩ rfl rfl (List.Sublist.refl _) (fun D h => ⟨D, List.Mem.tail _ (h), Le.refl D⟩)
    · obtain rfl : k = y.claims.length := by omega
      rw [List.take_length] at ha
      refine C.exit ?_
      refine C.thenExit ?_
      refine C.thenExit ?_
      refine C.blockExit ?_
      refine C.next ?_
      refine C.seq ?_
      refine C.region [(false,0),(false,1)] rfl ?_
      refine L.loadBW rfl Tf.a37 rfl (List.Mem.head _) Tf.s37 List.not_mem_nil rfl trivial ?_
      refine L.storeW rfl rfl rfl rfl Tf.s37 (by first | rfl | (simp only [ints_length, *]; done) | (simp only [ints_length, *]; rfl) | (simp only [ints_length, *]; omega)) (by first | rfl | (simp only [ints_length, *]; done) | (simp only [ints_length, *]; rfl) | (simp only [ints_length, *]; omega)) (.tail (Has.head)) (cell1_yard hcz1 ha.cell1) trivial ?_
      refine L.nil ?_
      refine C.next ?_
      refine C.ret ?_
      refine Q.freeze (A := [(_, _), (_, _)]) (B := []) ha rfl (fun D2 hD2 hF => ?_)
      exact leave (vs := [_]) rfl rfl rfl ⟨⟨_, _, _, rfl, (List.Mem.tail _ (List.Mem.head _)), Or.inr ⟨Tf.a37, Tf.s37, rfl⟩⟩, trivial⟩ (fun D' hD => ⟨_, v, rfl, hcz.up RCh.up (hD _ (by simp)), (hF.prs rfl (by omega)).up R2.up (hD _ (by simp))⟩)
end Go.Fs
namespace Go.Fs
open Go.Proofs
open C7
def shedD (k : Nat) : YardD := ⟨[⟨4, ⟨1, 0, 0⟩⟩, ⟨5, ⟨0, 1, 1⟩⟩, ⟨5, ⟨0, 1, 2⟩⟩, ⟨9, ⟨1, 1, 1⟩⟩, ⟨4, ⟨1, 0, 0⟩⟩], 1, [(3, 5), (0, 2)].take k⟩
def partsD (n : Int) : List Pt := [⟨1, 0, 0⟩, ⟨0, 1, 1⟩, ⟨0, 1, n⟩, ⟨1, 1, 1⟩, ⟨1, 0, 0⟩]
theorem shed_ok (k : Nat) (hk : k ≤ 2) (D : Data) : Fn Try.prog 69 #[.int .i64 (k : Int)] D (fun D' v => YardIs D' v (shedD k)) := by
  refine enter 22 Try.func69 rfl rfl rfl rfl fun h0 => ?_
  refine C.seq ?_
  refine C.region [(false,0)] rfl ?_
  refine L.alloc rfl Tf.z37 rfl rfl trivial (fun q1 => ?_)
  refine L.nil ?_
  refine C.next ?_
  refine C.seq ?_
  refine C.region [(false,0),(false,1),(false,2),(false,3)] rfl ?_
  refine L.callV rfl rfl rfl (fun D1 hD1 => between_ok _ _ _) rfl trivial ?_
  refine L.callV rfl rfl rfl (fun D2 hD2 => between_ok _ _ _) rfl trivial ?_
  refine L.buildSlice rfl Try.underlying35 Tf.s61 Tf.z61 rfl rfl rfl rfl (.cons rfl rfl (.cons rfl rfl .nil)) rfl trivial (fun b901 D901 hD901 hA901 => ?_)
  have hS901 : Sl D901 R2 2 _ [(3, 5), (0, 2)] := Froz.prs (l := [(3, 5), (0, 2)]) (n := 2) (Or.inr ⟨_, 2, rfl, by omega, hA901⟩) rfl (by omega)
  refine L.assign rfl rfl rfl trivial ?_
  refine L.nil ?_
  refine C.next ?_
  refine C.seq ?_
  refine C.region [(false,0),(false,1),(false,2),(false,3),(false,4),(false,5),(false,6),(false,7),(false,8),(false,9),(false,10),(false,11),(false,12),(false,13),(false,14),(false,15)] rfl ?_
  refine L.buildA (cs := [.int .i64 1, .int .i64 0, .int .i64 0]) rfl Try.underlying113 Tf.s3 Tf.z113 rfl rfl rfl trivial ?_
  refine L.build (cs := [.int .i64 4, .int .i64 1, .int .i64 0, .int .i64 0]) rfl Tf.p115 Tf.z115 rfl rfl rfl trivial ?_
  refine L.buildA (cs := [.int .i64 0, .int .i64 1, .int .i64 1]) rfl Try.underlying113 Tf.s3 Tf.z113 rfl rfl rfl trivial ?_
  refine L.build (cs := [.int .i64 5, .int .i64 0, .int .i64 1, .int .i64 1]) rfl Tf.p115 Tf.z115 rfl rfl rfl trivial ?_
  refine L.buildA (cs := [.int .i64 0, .int .i64 1, .int .i64 2]) rfl Try.underlying113 Tf.s3 Tf.z113 rfl rfl rfl trivial ?_
  refine L.build (cs := [.int .i64 5, .int .i64 0, .int .i64 1, .int .i64 2]) rfl Tf.p115 Tf.z115 rfl rfl rfl trivial ?_
  refine L.buildA (cs := [.int .i64 1, .int .i64 1, .int .i64 1]) rfl Try.underlying113 Tf.s3 Tf.z113 rfl rfl rfl trivial ?_
  refine L.build (cs := [.int .i64 9, .int .i64 1, .int .i64 1, .int .i64 1]) rfl Tf.p115 Tf.z115 rfl rfl rfl trivial ?_
  refine L.buildA (cs := [.int .i64 1, .int .i64 0, .int .i64 0]) rfl Try.underlying113 Tf.s3 Tf.z113 rfl rfl rfl trivial ?_
  refine L.build (cs := [.int .i64 4, .int .i64 1, .int .i64 0, .int .i64 0]) rfl Tf.p115 Tf.z115 rfl rfl rfl trivial ?_
  refine L.buildSlice rfl Try.underlying34 Tf.s115 Tf.z115 rfl rfl rfl rfl (.cons rfl rfl (.cons rfl rfl (.cons rfl rfl (.cons rfl rfl (.cons rfl rfl .nil))))) rfl trivial (fun b902 D902 hD902 hA902 => ?_)
  have hS902 : Sl D902 RCh 4 _ (shedD k).chairs := Froz.chs (l := (shedD k).chairs) (n := 5) (Or.inr ⟨_, 5, rfl, by omega, hA902⟩) rfl (by omega)
  refine L.move rfl rfl rfl trivial ?_
  refine L.move rfl rfl rfl trivial ?_
  refine L.sliceTo rfl Try.underlying35 Tf.s61 rfl rfl hS901 hk rfl trivial (fun v9 hv9 => ?_)
  obtain ⟨va, vc, rfl, hvr⟩ := id hv9
  refine L.build (cs := [.slice (some ⟨b902, 0, none⟩) 5 5, .int .i64 1, .slice va ([((3 : Int), (5 : Int)), (0, 2)].take k).length vc]) rfl Tf.p37 Tf.z37 rfl rfl rfl trivial ?_
  refine L.storeW rfl rfl rfl rfl Tf.s37 (by first | rfl | (simp only [ints_length, *]; done) | (simp only [ints_length, *]; rfl) | (simp only [ints_length, *]; omega)) (by first | rfl | (simp only [ints_length, *]; done) | (simp only [ints_length, *]; rfl) | (simp only [ints_length, *]; omega)) (Has.head) (by first | exact ints_cell1 _ | simp [cell1]) trivial ?_
  refine L.nil ?_
  refine C.next ?_
  refine C.ret ?_
  exact leave (vs := [_]) rfl rfl rfl ⟨⟨_, _, _, rfl, (List.Mem.head _), Or.inr ⟨Tf.a37, (by first | exact Tf.s37 | (simp only [List.size_toArray, ints_length, *]; exact Tf.s37)), rfl⟩⟩, trivial⟩ (fun D hD => ⟨_, _, rfl, hS902.up RCh.up (hD _ (by simp)), hv9.up R2.up (hD _ (by simp))⟩)
theorem parts_ok (n : Int) (D : Data) : Fn Try.prog 70 #[.int .i64 n] D (fun D' v => Sl D' RP 3 v (partsD n)) := by
  refine enter 10 Try.func70 rfl rfl rfl rfl fun h0 => ?_
  refine C.seq ?_
  refine C.region [(false,0)] rfl ?_
  refine L.assign rfl rfl rfl trivial ?_
  refine L.nil ?_
  refine C.next ?_
  refine C.seq ?_
  refine C.region [(false,0),(false,1),(false,2),(false,3),(false,4),(false,5),(false,6),(false,7)] rfl ?_
  refine L.buildA (cs := [.int .i64 1, .int .i64 0, .int .i64 0]) rfl Try.underlying113 Tf.s3 Tf.z113 rfl rfl rfl trivial ?_
  refine L.buildA (cs := [.int .i64 0, .int .i64 1, .int .i64 1]) rfl Try.underlying113 Tf.s3 Tf.z113 rfl rfl rfl trivial ?_
  refine L.move rfl rfl rfl trivial ?_
  refine L.buildA (cs := [.int .i64 0, .int .i64 1, .int .i64 n]) rfl Try.underlying113 Tf.s3 Tf.z113 rfl rfl rfl trivial ?_
  refine L.buildA (cs := [.int .i64 1, .int .i64 1, .int .i64 1]) rfl Try.underlying113 Tf.s3 Tf.z113 rfl rfl rfl trivial ?_
  refine L.buildA (cs := [.int .i64 1, .int .i64 0, .int .i64 0]) rfl Try.underlying113 Tf.s3 Tf.z113 rfl rfl rfl trivial ?_
  refine L.buildSlice rfl Try.underlying39 Tf.s113 Tf.z113 rfl rfl rfl rfl (.cons rfl rfl (.cons rfl rfl (.cons rfl rfl (.cons rfl rfl (.cons rfl rfl .nil))))) rfl trivial (fun b901 D901 hD901 hA901 => ?_)
  have hS901 : Sl D901 RP 3 _ (partsD n) := Froz.pts (l := partsD n) (n := 5) (Or.inr ⟨_, 5, rfl, by omega, hA901⟩) rfl (by omega)
  refine L.assign rfl rfl rfl trivial ?_
  refine L.nil ?_
  refine C.next ?_
  refine C.ret ?_
  exact leave (vs := [_]) rfl rfl rfl ⟨rfl, trivial⟩ (fun D hD => hS901.up RP.up (hD _ (by simp)))
end Go.Fs
namespace Go.Fs
open Go.Proofs
open C7
theorem k2_61 : K2 Try.prog 61 := ⟨by kernel_rfl, by kernel_rfl, by kernel_rfl⟩
theorem awake_ok (D : Data) : Fn Try.prog 21 #[] D (fun _ v => v = .bool true) := by
  refine enter 126 Try.func21 rfl rfl rfl rfl fun h0 => ?_
  refine C.seq ?_
  refine C.region [(false,0)] rfl ?_
  refine L.assign rfl rfl rfl trivial ?_
  refine L.nil ?_
  refine C.next ?_
  refine C.seq ?_
  refine C.region [(false,0),(false,1),(false,2),(false,3),(false,4),(false,5),(false,6),(false,7)] rfl ?_
  refine L.call rfl rfl rfl (fun D1 hD1 => shed_ok 0 (by omega) _) rfl trivial (fun v1 D1 hD1 hp1 => ?_)
  have hY1 := hp1
  refine L.call rfl rfl rfl (fun D2 hD2 => parts_ok 1 _) rfl trivial (fun v2 D2 hD2 hp2 => ?_)
  have hT1 := hp2
  refine L.callV rfl rfl rfl (fun D3 hD3 => Play_ok _ _ (shedD 0) (partsD 1) _ (hY1.up (hD3 _ (by simp))) (hT1.up RP.up (hD3 _ (by simp)))) rfl trivial ?_
  refine L.move rfl rfl rfl trivial ?_
  refine L.extract rfl rfl rfl rfl trivial ?_
  refine L.extract rfl rfl rfl rfl trivial ?_
  refine L.assign rfl rfl rfl trivial ?_
  refine L.assign rfl rfl rfl trivial ?_
  refine L.nil ?_
  refine C.next ?_
  refine C.seq ?_
  refine C.region [(false,0),(false,1),(false,2),(false,3),(false,4),(false,5),(false,6),(false,7)] rfl ?_
  refine L.call rfl rfl rfl (fun D4 hD4 => shed_ok 0 (by omega) _) rfl trivial (fun v4 D4 hD4 hp4 => ?_)
  have hY2 := hp4
  refine L.call rfl rfl rfl (fun D5 hD5 => parts_ok 0 _) rfl trivial (fun v5 D5 hD5 hp5 => ?_)
  have hT2 := hp5
  refine L.call rfl rfl rfl (fun D6 hD6 => Pairs_ok _ _ (shedD 0) (partsD 0) _ (hY2.up (hD6 _ (by simp))) (hT2.up RP.up (hD6 _ (by simp)))) rfl trivial (fun v6 D6 hD6 hp6 => ?_)
  obtain ⟨lv2, rfl, hl2⟩ := hp6
  refine L.move rfl rfl rfl trivial ?_
  refine L.extract rfl rfl rfl rfl trivial ?_
  refine L.extract rfl rfl rfl rfl trivial ?_
  refine L.assign rfl rfl rfl trivial ?_
  refine L.assign rfl rfl rfl trivial ?_
  refine L.nil ?_
  refine C.next ?_
  refine C.seq ?_
  refine C.region [(false,0),(false,1),(false,2),(false,3),(false,4),(false,5),(false,6),(false,7),(false,8),(false,9)] rfl ?_
  refine L.call rfl rfl rfl (fun D7 hD7 => shed_ok 0 (by omega) _) rfl trivial (fun v7 D7 hD7 hp7 => ?_)
  have hY3 := hp7
  refine L.call rfl rfl rfl (fun D8 hD8 => parts_ok 0 _) rfl trivial (fun v8 D8 hD8 hp8 => ?_)
  have hT3 := hp8
  refine L.call rfl rfl rfl (fun D9 hD9 => Berge_ok _ _ (shedD 0) (partsD 0) _ (hY3.up (hD9 _ (by simp))) (hT3.up RP.up (hD9 _ (by simp)))) rfl trivial (fun v9 D9 hD9 hp9 => ?_)
  obtain ⟨lv3, rfl, hl3⟩ := hp9
  refine L.move rfl rfl rfl trivial ?_
  refine L.extract rfl rfl rfl rfl trivial ?_
  refine L.extract rfl rfl rfl rfl trivial ?_
  refine L.extract rfl rfl rfl rfl trivial ?_
  refine L.assign rfl rfl rfl trivial ?_
  refine L.assign rfl rfl rfl trivial ?_
  refine L.assign rfl rfl rfl trivial ?_
  refine L.nil ?_
  refine C.next ?_
  refine C.seq ?_
  refine C.region [(false,0),(false,1),(false,2),(false,3),(false,4),(false,5),(false,6),(false,7)] rfl ?_
  refine L.call rfl rfl rfl (fun D10 hD10 => shed_ok 0 (by omega) _) rfl trivial (fun v10 D10 hD10 hp10 => ?_)
  have hY4 := hp10
  refine L.callV rfl rfl rfl (fun D11 hD11 => Bounds_ok _ (shedD 0) _ (hY4.up (hD11 _ (by simp)))) rfl trivial ?_
  refine L.move rfl rfl rfl trivial ?_
  refine L.extract rfl rfl rfl rfl trivial ?_
  refine L.extract rfl rfl rfl rfl trivial ?_
  refine L.alloc rfl Tf.z61 rfl rfl trivial (fun q1 => ?_)
  refine L.storeW rfl rfl rfl rfl Tf.s61 (by first | rfl | (simp only [ints_length, *]; done) | (simp only [ints_length, *]; rfl) | (simp only [ints_length, *]; omega)) (by first | rfl | (simp only [ints_length, *]; done) | (simp only [ints_length, *]; rfl) | (simp only [ints_length, *]; omega)) (Has.head) (by first | exact ints_cell1 _ | simp [cell1]) trivial ?_
  refine L.assign rfl rfl rfl trivial ?_
  refine L.nil ?_
  refine C.next ?_
  refine C.seq ?_
  refine C.region [(false,0),(false,1),(false,2),(false,3),(false,4),(false,5),(false,6),(false,7),(false,8)] rfl ?_
  refine L.call rfl rfl rfl (fun D12 hD12 => shed_ok 0 (by omega) _) rfl trivial (fun v12 D12 hD12 hp12 => ?_)
  have hY5 := hp12
  refine L.call rfl rfl rfl (fun D13 hD13 => Sure_ok _ (shedD 0) _ (hY5.up (hD13 _ (by simp)))) rfl trivial (fun v13 D13 hD13 hp13 => ?_)
  obtain ⟨lv5, rfl, hl5⟩ := hp13
  refine L.move rfl rfl rfl trivial ?_
  refine L.extract rfl rfl rfl rfl trivial ?_
  refine L.extract rfl rfl rfl rfl trivial ?_
  refine L.extract rfl rfl rfl rfl trivial ?_
  refine L.assign rfl rfl rfl trivial ?_
  refine L.assign rfl rfl rfl trivial ?_
  refine L.assign rfl rfl rfl trivial ?_
  refine L.nil ?_
  refine C.next ?_
  refine C.seq ?_
  refine C.region [(false,0),(false,1),(false,2),(false,3),(false,4),(false,5),(false,6)] rfl ?_
  refine L.call rfl rfl rfl (fun D14 hD14 => shed_ok 2 (by omega) _) rfl trivial (fun v14 D14 hD14 hp14 => ?_)
  have hY6 := hp14
  refine L.callV rfl rfl rfl (fun D15 hD15 => First_ok _ (shedD 2) _ (hY6.up (hD15 _ (by simp)))) rfl trivial ?_
  refine L.move rfl rfl rfl trivial ?_
  refine L.extract rfl rfl rfl rfl trivial ?_
  refine L.extract rfl rfl rfl rfl trivial ?_
  refine L.assign rfl rfl rfl trivial ?_
  refine L.assign rfl rfl rfl trivial ?_
  refine L.nil ?_
  refine C.next ?_
  refine C.seq ?_
  refine C.region [(false,0),(false,1),(false,2),(false,3),(false,4),(false,5),(false,6)] rfl ?_
  refine L.call rfl rfl rfl (fun D16 hD16 => shed_ok 2 (by omega) _) rfl trivial (fun v16 D16 hD16 hp16 => ?_)
  have hY7 := hp16
  refine L.call rfl rfl rfl (fun D17 hD17 => Leave_ok _ (shedD 2) _ (hY7.up (hD17 _ (by simp)))) rfl trivial (fun v17 D17 hD17 hp17 => ?_)
  obtain ⟨lv7, rfl, hl7⟩ := hp17
  refine L.move rfl rfl rfl trivial ?_
  refine L.extract rfl rfl rfl rfl trivial ?_
  refine L.extract rfl rfl rfl rfl trivial ?_
  refine L.assign rfl rfl rfl trivial ?_
  refine L.assign rfl rfl rfl trivial ?_
  refine L.nil ?_
  refine C.next ?_
  refine C.seq ?_
  refine C.draw [] 21 [0,1,2,3,4,5,6,7,8,9,10,13,11,12,14,15,16,17,18,19,20,21,22,23,24,27,25,26,28,29,30,31,32,33,34,35,36,37,38,39,40,41,42,43,44,45,46,47,49,48,50,51,52,53,54,55,56,57,58,59,60,61,62,63,64,65,66,67,68,69] [false,false,false,false,false,false,false,false,false,false,false,false,true,true,false,false,false,false,false,false,false,false,false,false,false,false,true,true,false,false,false,false,false,false,false,false,true,false,false,false,false,false,false,false,false,false,false,false,false,true,false,false,false,false,false,false,false,false,false,false,false,false,false,false,false,false,true,false,false,false] [(false,0),(false,1),(false,2),(false,3),(false,4),(false,5),(false,6),(false,7),(false,8),(false,9),(false,10),(false,13),(true,11),(true,12),(false,14),(false,15),(false,16),(false,17),(false,18),(false,19),(false,20),(false,21),(false,22),(false,23),(false,24),(false,27),(true,25),(true,26),(false,28),(false,29),(false,30),(false,31),(false,32),(false,33),(false,34),(false,35),(true,36),(false,37),(false,38),(false,39),(false,40),(false,41),(false,42),(false,43),(false,44),(false,45),(false,46),(false,47),(false,49),(true,48),(false,50),(false,51),(false,52),(false,53),(false,54),(false,55),(false,56),(false,57),(false,58),(false,59),(false,60),(false,61),(false,62),(false,63),(false,64),(false,65),(true,66),(false,67),(false,68),(false,69)] Tf.follows (fun _ _ _ h => np_body (P := Try.prog) (fn := Try.f21) _ _ _ h) (by kernel_rfl) rfl ?_
  refine L.move rfl rfl rfl trivial ?_
  refine L.eql rfl rfl rfl rfl trivial ?_
  refine L.move rfl rfl rfl trivial ?_
  refine' L.and [(false,3),(false,4),(false,5)] [(false,6),(false,7),(false,8),(false,9),(false,10),(false,13),(true,11),(true,12),(false,14),(false,15),(false,16),(false,17),(false,18),(false,19),(false,20),(false,21),(false,22),(false,23),(false,24),(false,27),(true,25),(true,26),(false,28),(false,29),(false,30),(false,31),(false,32),(false,33),(false,34),(false,35),(true,36),(false,37),(false,38),(false,39),(false,40),(false,41),(false,42),(false,43),(false,44),(false,45),(false,46),(false,47),(false,49),(true,48),(false,50),(false,51),(false,52),(false,53),(false,54),(false,55),(false,56),(false,57),(false,58),(false,59),(false,60),(false,61),(false,62),(false,63),(false,64),(false,65),(true,66),(false,67),(false,68),(false,69)] (s := 59) (p := 62) rfl rfl (fun hg1 => ?_) (fun hg1 => ?_) ?_
  rotate_left
  · refine L.move rfl rfl rfl ⟨_, rfl, rfl⟩ ?_
    refine L.eql rfl rfl rfl rfl ⟨_, rfl, rfl⟩ ?_
    refine L.pickT rfl rfl rfl rfl trivial ?_
    exact L.nil fun a w hh => hh.cutK 2 rfl
  · refine L.pass rfl rfl rfl ⟨_, _, rfl, rfl, rfl⟩ ?_
    refine L.pass rfl rfl rfl ⟨_, _, rfl, rfl, rfl⟩ ?_
    refine L.pickF rfl rfl rfl rfl trivial ?_
    exact L.nil fun a w hh => hh.cutK 2 rfl
  refine L.move rfl rfl rfl trivial ?_
  refine' L.and [(false,7),(false,8),(false,9)] [(false,10),(false,13),(true,11),(true,12),(false,14),(false,15),(false,16),(false,17),(false,18),(false,19),(false,20),(false,21),(false,22),(false,23),(false,24),(false,27),(true,25),(true,26),(false,28),(false,29),(false,30),(false,31),(false,32),(false,33),(false,34),(false,35),(true,36),(false,37),(false,38),(false,39),(false,40),(false,41),(false,42),(false,43),(false,44),(false,45),(false,46),(false,47),(false,49),(true,48),(false,50),(false,51),(false,52),(false,53),(false,54),(false,55),(false,56),(false,57),(false,58),(false,59),(false,60),(false,61),(false,62),(false,63),(false,64),(false,65),(true,66),(false,67),(false,68),(false,69)] (s := 63) (p := 66) rfl rfl (fun hg2 => ?_) (fun hg2 => ?_) ?_
  rotate_left
  · refine L.move rfl rfl rfl ⟨_, rfl, rfl⟩ ?_
    refine L.eql rfl rfl rfl rfl ⟨_, rfl, rfl⟩ ?_
    refine L.pickT rfl rfl rfl rfl trivial ?_
    exact L.nil fun a w hh => hh.cutK 2 rfl
  · refine L.pass rfl rfl rfl ⟨_, _, rfl, rfl, rfl⟩ ?_
    refine L.pass rfl rfl rfl ⟨_, _, rfl, rfl, rfl⟩ ?_
    refine L.pickF rfl rfl rfl rfl trivial ?_
    exact L.nil fun a w hh => hh.cutK 2 rfl
  refine L.move rfl rfl rfl trivial ?_
  refine' L.and [(false,13),(true,11),(true,12),(false,14),(false,15)] [(false,16),(false,17),(false,18),(false,19),(false,20),(false,21),(false,22),(false,23),(false,24),(false,27),(true,25),(true,26),(false,28),(false,29),(false,30),(false,31),(false,32),(false,33),(false,34),(false,35),(true,36),(false,37),(false,38),(false,39),(false,40),(false,41),(false,42),(false,43),(false,44),(false,45),(false,46),(false,47),(false,49),(true,48),(false,50),(false,51),(false,52),(false,53),(false,54),(false,55),(false,56),(false,57),(false,58),(false,59),(false,60),(false,61),(false,62),(false,63),(false,64),(false,65),(true,66),(false,67),(false,68),(false,69)] (s := 67) (p := 72) rfl rfl (fun hg3 => ?_) (fun hg3 => ?_) ?_
  rotate_left
  · refine L.move rfl rfl rfl ⟨_, rfl, rfl⟩ ?_
    refine L.call rfl rfl rfl (fun D18 hD18 => shed_ok 0 (by omega) _) rfl ⟨_, rfl, rfl⟩ (fun v18 D18 hD18 hp18 => ?_)
    have hY8 := hp18
    refine L.call rfl rfl rfl (fun D19 hD19 => parts_ok 0 _) rfl ⟨_, rfl, rfl⟩ (fun v19 D19 hD19 hp19 => ?_)
    have hT8 := hp19
    refine L.callV rfl rfl rfl (fun D20 hD20 => ProvePairs_ok _ _ _ (shedD 0) (partsD 0) _ 2 _ (hY8.up (hD20 _ (by simp))) (hT8.up RP.up (hD20 _ (by simp))) (hl2.up R2.up (hD20 _ (by simp)))) rfl ⟨_, rfl, rfl⟩ ?_
    refine L.pickT rfl rfl rfl rfl trivial ?_
    exact L.nil fun a w hh => (hh.cutK 4 rfl).ds (fun _ h => List.Mem.tail _ (List.Mem.tail _ (h)))
  · refine L.pass rfl rfl rfl ⟨_, _, rfl, rfl, rfl⟩ ?_
    refine L.pass rfl rfl rfl ⟨_, _, rfl, rfl, rfl⟩ ?_
    refine L.pass rfl rfl rfl ⟨_, _, rfl, rfl, rfl⟩ ?_
    refine L.pass rfl rfl rfl ⟨_, _, rfl, rfl, rfl⟩ ?_
    refine L.pickF rfl rfl rfl rfl trivial ?_
    exact L.nil fun a w hh => hh.cutK 4 rfl
  refine L.move rfl rfl rfl trivial ?_
  refine' L.and [(false,17),(false,18),(false,19)] [(false,20),(false,21),(false,22),(false,23),(false,24),(false,27),(true,25),(true,26),(false,28),(false,29),(false,30),(false,31),(false,32),(false,33),(false,34),(false,35),(true,36),(false,37),(false,38),(false,39),(false,40),(false,41),(false,42),(false,43),(false,44),(false,45),(false,46),(false,47),(false,49),(true,48),(false,50),(false,51),(false,52),(false,53),(false,54),(false,55),(false,56),(false,57),(false,58),(false,59),(false,60),(false,61),(false,62),(false,63),(false,64),(false,65),(true,66),(false,67),(false,68),(false,69)] (s := 73) (p := 76) rfl rfl (fun hg4 => ?_) (fun hg4 => ?_) ?_
  rotate_left
  · refine L.move rfl rfl rfl ⟨_, rfl, rfl⟩ ?_
    refine L.eql rfl rfl rfl rfl ⟨_, rfl, rfl⟩ ?_
    refine L.pickT rfl rfl rfl rfl trivial ?_
    exact L.nil fun a w hh => hh.cutK 2 rfl
  · refine L.pass rfl rfl rfl ⟨_, _, rfl, rfl, rfl⟩ ?_
    refine L.pass rfl rfl rfl ⟨_, _, rfl, rfl, rfl⟩ ?_
    refine L.pickF rfl rfl rfl rfl trivial ?_
    exact L.nil fun a w hh => hh.cutK 2 rfl
  refine L.move rfl rfl rfl trivial ?_
  refine' L.and [(false,21),(false,22),(false,23)] [(false,24),(false,27),(true,25),(true,26),(false,28),(false,29),(false,30),(false,31),(false,32),(false,33),(false,34),(false,35),(true,36),(false,37),(false,38),(false,39),(false,40),(false,41),(false,42),(false,43),(false,44),(false,45),(false,46),(false,47),(false,49),(true,48),(false,50),(false,51),(false,52),(false,53),(false,54),(false,55),(false,56),(false,57),(false,58),(false,59),(false,60),(false,61),(false,62),(false,63),(false,64),(false,65),(true,66),(false,67),(false,68),(false,69)] (s := 77) (p := 80) rfl rfl (fun hg5 => ?_) (fun hg5 => ?_) ?_
  rotate_left
  · refine L.move rfl rfl rfl ⟨_, rfl, rfl⟩ ?_
    refine L.eql rfl rfl rfl rfl ⟨_, rfl, rfl⟩ ?_
    refine L.pickT rfl rfl rfl rfl trivial ?_
    exact L.nil fun a w hh => hh.cutK 2 rfl
  · refine L.pass rfl rfl rfl ⟨_, _, rfl, rfl, rfl⟩ ?_
    refine L.pass rfl rfl rfl ⟨_, _, rfl, rfl, rfl⟩ ?_
    refine L.pickF rfl rfl rfl rfl trivial ?_
    exact L.nil fun a w hh => hh.cutK 2 rfl
  refine L.move rfl rfl rfl trivial ?_
  refine' L.and [(false,27),(true,25),(true,26),(false,28),(false,29)] [(false,30),(false,31),(false,32),(false,33),(false,34),(false,35),(true,36),(false,37),(false,38),(false,39),(false,40),(false,41),(false,42),(false,43),(false,44),(false,45),(false,46),(false,47),(false,49),(true,48),(false,50),(false,51),(false,52),(false,53),(false,54),(false,55),(false,56),(false,57),(false,58),(false,59),(false,60),(false,61),(false,62),(false,63),(false,64),(false,65),(true,66),(false,67),(false,68),(false,69)] (s := 81) (p := 86) rfl rfl (fun hg6 => ?_) (fun hg6 => ?_) ?_
  rotate_left
  · refine L.move rfl rfl rfl ⟨_, rfl, rfl⟩ ?_
    refine L.call rfl rfl rfl (fun D21 hD21 => shed_ok 0 (by omega) _) rfl ⟨_, rfl, rfl⟩ (fun v21 D21 hD21 hp21 => ?_)
    have hY9 := hp21
    refine L.call rfl rfl rfl (fun D22 hD22 => parts_ok 0 _) rfl ⟨_, rfl, rfl⟩ (fun v22 D22 hD22 hp22 => ?_)
    have hT9 := hp22
    refine L.callV rfl rfl rfl (fun D23 hD23 => ProveBerge_ok _ _ _ (shedD 0) (partsD 0) _ 2 _ (hY9.up (hD23 _ (by simp))) (hT9.up RP.up (hD23 _ (by simp))) (hl3.up RI.up (hD23 _ (by simp)))) rfl ⟨_, rfl, rfl⟩ ?_
    refine L.pickT rfl rfl rfl rfl trivial ?_
    exact L.nil fun a w hh => (hh.cutK 4 rfl).ds (fun _ h => List.Mem.tail _ (List.Mem.tail _ (h)))
  · refine L.pass rfl rfl rfl ⟨_, _, rfl, rfl, rfl⟩ ?_
    refine L.pass rfl rfl rfl ⟨_, _, rfl, rfl, rfl⟩ ?_
    refine L.pass rfl rfl rfl ⟨_, _, rfl, rfl, rfl⟩ ?_
    refine L.pass rfl rfl rfl ⟨_, _, rfl, rfl, rfl⟩ ?_
    refine L.pickF rfl rfl rfl rfl trivial ?_
    exact L.nil fun a w hh => hh.cutK 4 rfl
  refine L.move rfl rfl rfl trivial ?_
  refine' L.and [(false,31),(false,32),(false,33)] [(false,34),(false,35),(true,36),(false,37),(false,38),(false,39),(false,40),(false,41),(false,42),(false,43),(false,44),(false,45),(false,46),(false,47),(false,49),(true,48),(false,50),(false,51),(false,52),(false,53),(false,54),(false,55),(false,56),(false,57),(false,58),(false,59),(false,60),(false,61),(false,62),(false,63),(false,64),(false,65),(true,66),(false,67),(false,68),(false,69)] (s := 87) (p := 90) rfl rfl (fun hg7 => ?_) (fun hg7 => ?_) ?_
  rotate_left
  · refine L.move rfl rfl rfl ⟨_, rfl, rfl⟩ ?_
    refine L.eql rfl rfl rfl rfl ⟨_, rfl, rfl⟩ ?_
    refine L.pickT rfl rfl rfl rfl trivial ?_
    exact L.nil fun a w hh => hh.cutK 2 rfl
  · refine L.pass rfl rfl rfl ⟨_, _, rfl, rfl, rfl⟩ ?_
    refine L.pass rfl rfl rfl ⟨_, _, rfl, rfl, rfl⟩ ?_
    refine L.pickF rfl rfl rfl rfl trivial ?_
    exact L.nil fun a w hh => hh.cutK 2 rfl
  refine L.move rfl rfl rfl trivial ?_
  refine' L.and [(false,35),(true,36),(false,37),(false,38)] [(false,39),(false,40),(false,41),(false,42),(false,43),(false,44),(false,45),(false,46),(false,47),(false,49),(true,48),(false,50),(false,51),(false,52),(false,53),(false,54),(false,55),(false,56),(false,57),(false,58),(false,59),(false,60),(false,61),(false,62),(false,63),(false,64),(false,65),(true,66),(false,67),(false,68),(false,69)] (s := 91) (p := 95) rfl rfl (fun hg8 => ?_) (fun hg8 => ?_) ?_
  rotate_left
  · refine L.loadBW rfl Tf.a61 rfl (List.Mem.head _) Tf.s61 List.not_mem_nil rfl ⟨_, rfl, rfl⟩ ?_
    refine L.callV rfl rfl rfl (fun D24 hD24 => between_ok _ _ _) rfl ⟨_, rfl, rfl⟩ ?_
    refine L.eqlK  rfl (by kernel_rfl) k2_61 rfl rfl rfl ⟨_, rfl, rfl⟩ ?_
    refine L.pickT rfl rfl rfl rfl trivial ?_
    exact L.nil fun a w hh => hh.cutK 3 rfl
  · refine L.pass rfl rfl rfl ⟨_, _, rfl, rfl, rfl⟩ ?_
    refine L.pass rfl rfl rfl ⟨_, _, rfl, rfl, rfl⟩ ?_
    refine L.pass rfl rfl rfl ⟨_, _, rfl, rfl, rfl⟩ ?_
    refine L.pickF rfl rfl rfl rfl trivial ?_
    exact L.nil fun a w hh => hh.cutK 3 rfl
  refine L.move rfl rfl rfl trivial ?_
  refine' L.and [(false,40),(false,41),(false,42)] [(false,43),(false,44),(false,45),(false,46),(false,47),(false,49),(true,48),(false,50),(false,51),(false,52),(false,53),(false,54),(false,55),(false,56),(false,57),(false,58),(false,59),(false,60),(false,61),(false,62),(false,63),(false,64),(false,65),(true,66),(false,67),(false,68),(false,69)] (s := 96) (p := 99) rfl rfl (fun hg9 => ?_) (fun hg9 => ?_) ?_
  rotate_left
  · refine L.move rfl rfl rfl ⟨_, rfl, rfl⟩ ?_
    refine L.eql rfl rfl rfl rfl ⟨_, rfl, rfl⟩ ?_
    refine L.pickT rfl rfl rfl rfl trivial ?_
    exact L.nil fun a w hh => hh.cutK 2 rfl
  · refine L.pass rfl rfl rfl ⟨_, _, rfl, rfl, rfl⟩ ?_
    refine L.pass rfl rfl rfl ⟨_, _, rfl, rfl, rfl⟩ ?_
    refine L.pickF rfl rfl rfl rfl trivial ?_
    exact L.nil fun a w hh => hh.cutK 2 rfl
  refine L.move rfl rfl rfl trivial ?_
  refine' L.and [(false,44),(false,45),(false,46)] [(false,47),(false,49),(true,48),(false,50),(false,51),(false,52),(false,53),(false,54),(false,55),(false,56),(false,57),(false,58),(false,59),(false,60),(false,61),(false,62),(false,63),(false,64),(false,65),(true,66),(false,67),(false,68),(false,69)] (s := 100) (p := 103) rfl rfl (fun hg10 => ?_) (fun hg10 => ?_) ?_
  rotate_left
  · refine L.move rfl rfl rfl ⟨_, rfl, rfl⟩ ?_
    refine L.eql rfl rfl rfl rfl ⟨_, rfl, rfl⟩ ?_
    refine L.pickT rfl rfl rfl rfl trivial ?_
    exact L.nil fun a w hh => hh.cutK 2 rfl
  · refine L.pass rfl rfl rfl ⟨_, _, rfl, rfl, rfl⟩ ?_
    refine L.pass rfl rfl rfl ⟨_, _, rfl, rfl, rfl⟩ ?_
    refine L.pickF rfl rfl rfl rfl trivial ?_
    exact L.nil fun a w hh => hh.cutK 2 rfl
  refine L.move rfl rfl rfl trivial ?_
  refine' L.and [(false,49),(true,48),(false,50),(false,51)] [(false,52),(false,53),(false,54),(false,55),(false,56),(false,57),(false,58),(false,59),(false,60),(false,61),(false,62),(false,63),(false,64),(false,65),(true,66),(false,67),(false,68),(false,69)] (s := 104) (p := 108) rfl rfl (fun hg11 => ?_) (fun hg11 => ?_) ?_
  rotate_left
  · refine L.move rfl rfl rfl ⟨_, rfl, rfl⟩ ?_
    refine L.call rfl rfl rfl (fun D25 hD25 => shed_ok 0 (by omega) _) rfl ⟨_, rfl, rfl⟩ (fun v25 D25 hD25 hp25 => ?_)
    have hY10 := hp25
    refine L.callV rfl rfl rfl (fun D26 hD26 => ProveSure_ok _ _ (shedD 0) _ 2 _ (hY10.up (hD26 _ (by simp))) (hl5.up R2.up (hD26 _ (by simp)))) rfl ⟨_, rfl, rfl⟩ ?_
    refine L.pickT rfl rfl rfl rfl trivial ?_
    exact L.nil fun a w hh => (hh.cutK 3 rfl).ds (fun _ h => List.Mem.tail _ (h))
  · refine L.pass rfl rfl rfl ⟨_, _, rfl, rfl, rfl⟩ ?_
    refine L.pass rfl rfl rfl ⟨_, _, rfl, rfl, rfl⟩ ?_
    refine L.pass rfl rfl rfl ⟨_, _, rfl, rfl, rfl⟩ ?_
    refine L.pickF rfl rfl rfl rfl trivial ?_
    exact L.nil fun a w hh => hh.cutK 3 rfl
  refine L.move rfl rfl rfl trivial ?_
  refine' L.and [(false,53),(false,54),(false,55)] [(false,56),(false,57),(false,58),(false,59),(false,60),(false,61),(false,62),(false,63),(false,64),(false,65),(true,66),(false,67),(false,68),(false,69)] (s := 109) (p := 112) rfl rfl (fun hg12 => ?_) (fun hg12 => ?_) ?_
  rotate_left
  · refine L.move rfl rfl rfl ⟨_, rfl, rfl⟩ ?_
    refine L.eql rfl rfl rfl rfl ⟨_, rfl, rfl⟩ ?_
    refine L.pickT rfl rfl rfl rfl trivial ?_
    exact L.nil fun a w hh => hh.cutK 2 rfl
  · refine L.pass rfl rfl rfl ⟨_, _, rfl, rfl, rfl⟩ ?_
    refine L.pass rfl rfl rfl ⟨_, _, rfl, rfl, rfl⟩ ?_
    refine L.pickF rfl rfl rfl rfl trivial ?_
    exact L.nil fun a w hh => hh.cutK 2 rfl
  refine L.move rfl rfl rfl trivial ?_
  refine' L.and [(false,57),(false,58),(false,59)] [(false,60),(false,61),(false,62),(false,63),(false,64),(false,65),(true,66),(false,67),(false,68),(false,69)] (s := 113) (p := 116) rfl rfl (fun hg13 => ?_) (fun hg13 => ?_) ?_
  rotate_left
  · refine L.move rfl rfl rfl ⟨_, rfl, rfl⟩ ?_
    refine L.eql rfl rfl rfl rfl ⟨_, rfl, rfl⟩ ?_
    refine L.pickT rfl rfl rfl rfl trivial ?_
    exact L.nil fun a w hh => hh.cutK 2 rfl
  · refine L.pass rfl rfl rfl ⟨_, _, rfl, rfl, rfl⟩ ?_
    refine L.pass rfl rfl rfl ⟨_, _, rfl, rfl, rfl⟩ ?_
    refine L.pickF rfl rfl rfl rfl trivial ?_
    exact L.nil fun a w hh => hh.cutK 2 rfl
  refine L.move rfl rfl rfl trivial ?_
  refine' L.and [(false,61),(false,62),(false,63)] [(false,64),(false,65),(true,66),(false,67),(false,68),(false,69)] (s := 117) (p := 120) rfl rfl (fun hg14 => ?_) (fun hg14 => ?_) ?_
  rotate_left
  · refine L.move rfl rfl rfl ⟨_, rfl, rfl⟩ ?_
    refine L.eql rfl rfl rfl rfl ⟨_, rfl, rfl⟩ ?_
    refine L.pickT rfl rfl rfl rfl trivial ?_
    exact L.nil fun a w hh => hh.cutK 2 rfl
  · refine L.pass rfl rfl rfl ⟨_, _, rfl, rfl, rfl⟩ ?_
    refine L.pass rfl rfl rfl ⟨_, _, rfl, rfl, rfl⟩ ?_
    refine L.pickF rfl rfl rfl rfl trivial ?_
    exact L.nil fun a w hh => hh.cutK 2 rfl
  refine L.move rfl rfl rfl trivial ?_
  refine' L.and [(false,65),(true,66),(false,67),(false,68)] [(false,69)] (s := 121) (p := 125) rfl rfl (fun hg15 => ?_) (fun hg15 => ?_) ?_
  rotate_left
  · refine L.move rfl rfl rfl ⟨_, rfl, rfl⟩ ?_
    refine L.buildSlice rfl Try.underlying52 Tf.s3 Tf.z3 rfl rfl rfl rfl (.cons rfl rfl .nil) rfl ⟨_, rfl, rfl⟩ (fun b901 D901 hD901 hA901 => ?_)
    have hS901 : Sl D901 RI 1 _ [0] := Froz.ints (l := [0]) (n := 1) (Or.inr ⟨_, 1, rfl, by omega, hA901⟩) rfl (by omega)
    refine L.callV rfl rfl rfl (fun D27 hD27 => ints_ok _ _ _ [0] _ (hl7.up RI.up (hD27 _ (by simp))) (hS901.up RI.up (hD27 _ (by simp)))) rfl ⟨_, rfl, rfl⟩ ?_
    refine L.pickT rfl rfl rfl rfl trivial ?_
    exact L.nil fun a w hh => (hh.cutK 3 rfl).ds (fun _ h => List.Mem.tail _ (h))
  · refine L.pass rfl rfl rfl ⟨_, _, rfl, rfl, rfl⟩ ?_
    refine L.pass rfl rfl rfl ⟨_, _, rfl, rfl, rfl⟩ ?_
    refine L.pass rfl rfl rfl ⟨_, _, rfl, rfl, rfl⟩ ?_
    refine L.pickF rfl rfl rfl rfl trivial ?_
    exact L.nil fun a w hh => hh.cutK 3 rfl
  refine L.assign rfl rfl rfl trivial ?_
  refine L.nil ?_
  refine C.next ?_
  refine C.ret ?_
  exact leave (vs := [_]) rfl rfl rfl ⟨rfl, trivial⟩ (fun D hD => congrArg Value.bool (by decide +kernel))
end Go.Fs
namespace Go.Fs
open Go.Proofs
open C7
theorem thin_len {y : YardD} (h : thin y = true) : y.chairs.length ≤ 9 ∧ y.claims.length ≤ 7 := by
  simp only [thin, Bool.and_eq_true, decide_eq_true_eq] at h; omega
theorem fitB_comm (y : YardD) (t : List Pt) (a b : Nat) : fitB y t a b = fitB y t b a := by
  unfold fitB
  cases t[a]? <;> cases t[b]? <;> cases y.chairs[a]? <;> cases y.chairs[b]? <;> try rfl
  rename_i p q x z
  simp only
  rw [near_comm, joins_comm, show decide ((b : Int) ≠ a) = decide ((a : Int) ≠ b) from decide_eq_decide.2 ⟨fun h e => h e.symm, fun h e => h e.symm⟩]
theorem fitB_in {y : YardD} {t : List Pt} {a b : Nat} (h : fitB y t a b = true) : a < t.length ∧ b < t.length ∧ brokB t a = true ∧ brokB t b = true := by
  unfold fitB at h
  split at h
  · rename_i p q x z hp hq _ _
    simp only [joins, Bool.and_eq_true] at h
    refine ⟨(List.getElem?_eq_some_iff.1 hp).1, (List.getElem?_eq_some_iff.1 hq).1, ?_, ?_⟩
    · unfold brokB; rw [hp]; exact h.2.1.1
    · unfold brokB; rw [hq]; exact h.2.1.2
  · simp at h
theorem fB_fits {y : YardD} {t : List Pt} (h7 : t.length ≤ 7) : fB (sceneD y t).fits = fitB y t := by
  funext a b
  unfold fB sceneD
  simp only [List.getD_eq_getElem?_getD, List.getElem?_map]
  by_cases ha : a < 7
  · rw [List.getElem?_range ha, Option.map_some, Option.getD_some, bset_bit]
    cases e : fitB y t a b with
    | false => simp
    | true => simp [(fitB_in e).2.1]
  · rw [List.getElem?_eq_none (by simp; omega)]
    cases e : fitB y t a b with
    | false => simp
    | true => have := (fitB_in e).1; omega
theorem broken_bit {y : YardD} {t : List Pt} {a b : Nat} (h : fitB y t a b = true) : (sceneD y t).broken.testBit a = true ∧ (sceneD y t).broken.testBit b = true := by
  obtain ⟨h1, h2, h3, h4⟩ := fitB_in h
  simp only [sceneD, bset_bit]
  simp [h1, h2, h3, h4]
/-- The most pairs: program. -/
theorem nu_is {y : YardD} {t : List Pt} (hl : t.length = y.chairs.length) (h7 : t.length ≤ 7) : IsNu (fitB y t) (sceneD y t).broken.testBit (nuB (sceneD y t).fits y.chairs.length (sceneD y t).broken) := by
  have := nuB_is (F := (sceneD y t).fits) (n := y.chairs.length) (fun a b => by rw [fB_fits h7]; exact fitB_comm y t a b) _ (sceneD y t).broken (Nat.le_refl _) (scene_ok' hl h7).bits
  rwa [fB_fits h7] at this
theorem fold_max_add {α : Type} (f : α → Nat) (w : Nat) : ∀ (l : List α) (m : Nat), (l.map fun x => w + f x).foldl max (w + m) = w + (l.map f).foldl max m
  | [], m => rfl
  | x :: l, m => by
    rw [List.map_cons, List.map_cons, List.foldl_cons, List.foldl_cons, show max (w + m) (w + f x) = w + max m (f x) by omega]
    exact fold_max_add f w l _
theorem fold_max_add' {α : Type} (f : α → Nat) (w : Nat) {l : List α} (h : l ≠ []) : (l.map fun x => w + f x).foldl max 0 = w + (l.map f).foldl max 0 := by
  cases l with
  | nil => exact absurd rfl h
  | cons x l =>
    rw [List.map_cons, List.map_cons, List.foldl_cons, List.foldl_cons, show max 0 (w + f x) = w + max 0 (f x) by omega]
    exact fold_max_add f w l _
theorem makesR_pI (y : YardD) (t : List Pt) (l : List (Nat × Nat)) : makesR y t (pI l) = whole t + fitN (fitB y t) l := by
  unfold makesR fitN pI
  rw [List.filter_map, List.length_map]
  rfl
theorem prs_ne (n k w : Nat) (h : k ≤ n) : prs n k w ≠ [] := fun e => by
  obtain ⟨l, hl, _⟩ := prs_has k w h [] ⟨by simp, by simp [ends]⟩
  rw [e] at hl; simp at hl
theorem most_is {y : YardD} {t : List Pt} (hl : t.length = y.chairs.length) (h7 : t.length ≤ 7) : (((prs y.chairs.length y.chairs.length 0).map pI).map (makesR y t)).foldl max 0 = mostT y t := by
  rw [List.map_map, show (makesR y t ∘ pI) = fun l => whole t + fitN (fitB y t) l from funext fun l => makesR_pI y t l, fold_max_add' _ _ (prs_ne _ _ _ (Nat.le_refl _)),
    prs_most (fitB_comm y t) (fun a b h => broken_bit h) (scene_ok' hl h7).bits (nu_is hl h7)]
  rfl
theorem prs_in {n m : Nat} (hn : n ≤ 7) (hm : m = n) : ∀ l ∈ (prs n n 0).map pI, (∀ p ∈ l, ∃ x z : Nat, p = ((x : Int), (z : Int)) ∧ x < m ∧ z < m) ∧ l.length ≤ 1000 := by
  intro l hl
  obtain ⟨l', hl', rfl⟩ := List.mem_map.1 hl
  have ok := prs_ok n 0 (Nat.le_refl _) l' hl'
  refine ⟨fun p hp => ?_, by have := prs_short hn (Nat.le_refl _) hl'; omega⟩
  obtain ⟨q, hq, rfl⟩ := List.mem_map.1 hp
  obtain ⟨_, h2, h3, _⟩ := ok.at_ q hq
  exact ⟨q.1, q.2, rfl, by omega, by omega⟩
end Go.Fs
