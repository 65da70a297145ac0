/- Walks: the law MendBounds. -/
import Derived.Test.YtjhdcelmgfajbaaW25
namespace Go.Fs
open Go.Proofs
open C7
def nsD (y : YardD) : List Int := numK y (allN y) (allN y).length
/-- The error of a question on all truths. -/
def askS (y : YardD) : Int := if fault y ≠ 0 then fault y else if nsD y = [] then 11 else 0
theorem allN_len {y : YardD} (h : fault y = 0) : (allN y).length ≤ 256 := by
  have : 2 ^ unknown y.chairs ≤ 2 ^ 8 := Nat.pow_le_pow_right (by omega) (yOk h).unk
  unfold allN; rw [List.length_map, List.length_range]; omega
theorem askS_zero {y : YardD} (h : askS y = 0) : fault y = 0 ∧ nsD y ≠ [] := by
  unfold askS at h
  split at h
  · omega
  · rename_i h1
    split at h
    · omega
    · rename_i h2; exact ⟨by omega, h2⟩
theorem allN_get {y : YardD} {n : Nat} (h : n < (allN y).length) : (allN y).getD n 0 = mostN y n := by
  unfold allN at h ⊢
  rw [List.length_map, List.length_range] at h
  rw [List.getD_eq_getElem?_getD, List.getElem?_map, List.getElem?_range h]; rfl
theorem mem_ns {y : YardD} {x : Int} : x ∈ nsD y ↔ ∃ n : Nat, n < 2 ^ unknown y.chairs ∧ rightO y.claims [] (mostN y n) = true ∧ x = (n : Int) := by
  have hl : (allN y).length = 2 ^ unknown y.chairs := by unfold allN; rw [List.length_map, List.length_range]
  unfold nsD numK
  rw [List.mem_map]
  constructor
  · rintro ⟨n, hn, rfl⟩
    rw [List.mem_filter, List.mem_range] at hn
    rw [allN_get hn.1] at hn
    exact ⟨n, by omega, hn.2, rfl⟩
  · rintro ⟨n, hn, hr, rfl⟩
    refine ⟨n, ?_, rfl⟩
    rw [List.mem_filter, List.mem_range, allN_get (by omega)]
    exact ⟨by omega, hr⟩
theorem ns_in {y : YardD} : ∀ x ∈ nsD y, ∃ k : Nat, x = (k : Int) ∧ k < (allN y).length := fun x hx => by
  obtain ⟨n, hn, _, rfl⟩ := mem_ns.1 hx
  exact ⟨n, rfl, by unfold allN; rw [List.length_map, List.length_range]; exact hn⟩
/-- Each truth has a number. -/
theorem p1_inv {x t : Int} (h : partIs x t = true) {m B : Nat} (hm : m < B) : ∃ n, p1 x n = (t, m) ∧ n < (if x = 2 then 2 else 1) * B := by
  unfold partIs at h
  rw [Bool.and_eq_true, inB_iff, Bool.or_eq_true, decide_eq_true_eq, decide_eq_true_eq] at h
  unfold p1
  by_cases hx : x = 2
  · obtain ⟨b, rfl⟩ := Int.eq_ofNat_of_zero_le h.1.1
    refine ⟨2 * m + b, ?_, by rw [if_pos hx]; omega⟩
    rw [if_pos hx, Prod.mk.injEq]
    exact ⟨by omega, by omega⟩
  · refine ⟨m, ?_, by rw [if_neg hx]; omega⟩
    rw [if_neg hx, Prod.mk.injEq]
    exact ⟨by rcases h.2 with h | h; exact absurd h hx; exact h.symm, rfl⟩
theorem unk_pow (p : Pt) : 2 ^ unkP p = (if p.a = 2 then 2 else 1) * ((if p.b = 2 then 2 else 1) * (if p.c = 2 then 2 else 1)) := by
  unfold unkP Pt.l
  by_cases ha : p.a = 2 <;> by_cases hb : p.b = 2 <;> by_cases hc : p.c = 2 <;> simp [ha, hb, hc]
theorem p3_inv {p t : Pt} (h : ptsIs p t = true) {m B : Nat} (hm : m < B) : ∃ n, p3 p n = (t, m) ∧ n < 2 ^ unkP p * B := by
  simp only [ptsIs, Pt.l, List.zip_cons_cons, List.zip_nil_left, List.all_cons, List.all_nil, Bool.and_true, Bool.and_eq_true] at h
  obtain ⟨c, e1, h1⟩ := p1_inv h.2.2 hm
  obtain ⟨b, e2, h2⟩ := p1_inv h.2.1 h1
  obtain ⟨a, e3, h3⟩ := p1_inv h.1 h2
  refine ⟨a, ?_, ?_⟩
  · unfold p3; rw [e3, e2, e1]
  · rw [unk_pow, Nat.mul_assoc, Nat.mul_assoc]; exact h3
theorem nthR_onto : ∀ (l : List Ch) (t : List Pt), t.length = l.length → ((l.zip t).all fun x => ptsIs x.1.parts x.2) = true → ∃ n, n < 2 ^ unknown l ∧ nthR l n = t
  | [], [], _, _ => ⟨0, by simp [unknown], rfl⟩
  | [], _ :: _, h, _ => by simp at h
  | _ :: _, [], h, _ => by simp at h
  | c :: l, p :: t, h, ha => by
    rw [List.zip_cons_cons, List.all_cons, Bool.and_eq_true] at ha
    obtain ⟨m, hm, e⟩ := nthR_onto l t (by simpa using h) ha.2
    obtain ⟨n, e2, hn⟩ := p3_inv ha.1 hm
    refine ⟨n, ?_, ?_⟩
    · have : unknown (c :: l) = unkP c.parts + unknown l := by simp [unknown]
      rw [this, Nat.pow_add]; exact hn
    · rw [nthR, e2, e]
theorem nth_onto {y : YardD} {t : List Pt} (h : isTruth y t = true) : ∃ n, n < 2 ^ unknown y.chairs ∧ (nthC y.chairs n).1 = t := by
  unfold isTruth at h
  rw [Bool.and_eq_true, decide_eq_true_eq] at h
  obtain ⟨n, hn, e⟩ := nthR_onto _ _ h.1 h.2
  exact ⟨n, hn, by rw [nthC_R]; exact e⟩
theorem fmin : ∀ (l : List Int) (a : Int), (l.foldl min a = a ∨ l.foldl min a ∈ l) ∧ l.foldl min a ≤ a ∧ ∀ x ∈ l, l.foldl min a ≤ x
  | [], a => ⟨Or.inl rfl, Int.le_refl _, by simp⟩
  | x :: l, a => by
    rw [List.foldl_cons]
    obtain ⟨h1, h2, h3⟩ := fmin l (min a x)
    refine ⟨?_, by omega, fun z hz => ?_⟩
    · rcases h1 with h1 | h1
      · rw [h1]; rcases Int.le_total a x with h | h
        · exact Or.inl (Int.min_eq_left h)
        · exact Or.inr (by rw [Int.min_eq_right h]; exact List.mem_cons_self)
      · exact Or.inr (List.mem_cons_of_mem _ h1)
    · rcases List.mem_cons.1 hz with rfl | hz
      · omega
      · exact h3 z hz
theorem fmax : ∀ (l : List Int) (a : Int), (l.foldl max a = a ∨ l.foldl max a ∈ l) ∧ a ≤ l.foldl max a ∧ ∀ x ∈ l, x ≤ l.foldl max a
  | [], a => ⟨Or.inl rfl, Int.le_refl _, by simp⟩
  | x :: l, a => by
    rw [List.foldl_cons]
    obtain ⟨h1, h2, h3⟩ := fmax l (max a x)
    refine ⟨?_, by omega, fun z hz => ?_⟩
    · rcases h1 with h1 | h1
      · rw [h1]; rcases Int.le_total a x with h | h
        · exact Or.inr (by rw [Int.max_eq_right h]; exact List.mem_cons_self)
        · exact Or.inl (Int.max_eq_left h)
      · exact Or.inr (List.mem_cons_of_mem _ h1)
    · rcases List.mem_cons.1 hz with rfl | hz
      · omega
      · exact h3 z hz
theorem fmin_eq {l l' : List Int} {a a' : Int} (hm : ∀ x, x ∈ l ↔ x ∈ l') (hne : l ≠ []) (ha : ∀ x ∈ l, x ≤ a) (ha' : ∀ x ∈ l', x ≤ a') : l.foldl min a = l'.foldl min a' := by
  obtain ⟨h1, h2, h3⟩ := fmin l a
  obtain ⟨g1, g2, g3⟩ := fmin l' a'
  obtain ⟨z, hz⟩ := List.exists_mem_of_ne_nil l hne
  have k1 : l.foldl min a ∈ l := by
    rcases h1 with h1 | h1
    · have := h3 z hz; have := ha z hz; rw [show l.foldl min a = z by omega]; exact hz
    · exact h1
  have k2 : l'.foldl min a' ∈ l' := by
    rcases g1 with g1 | g1
    · have := g3 z ((hm z).1 hz); have := ha' z ((hm z).1 hz); rw [show l'.foldl min a' = z by omega]; exact (hm z).1 hz
    · exact g1
  have := h3 _ ((hm _).2 k2)
  have := g3 _ ((hm _).1 k1)
  omega
theorem fmax_eq {l l' : List Int} {a a' : Int} (hm : ∀ x, x ∈ l ↔ x ∈ l') (hne : l ≠ []) (ha : ∀ x ∈ l, a ≤ x) (ha' : ∀ x ∈ l', a' ≤ x) : l.foldl max a = l'.foldl max a' := by
  obtain ⟨h1, h2, h3⟩ := fmax l a
  obtain ⟨g1, g2, g3⟩ := fmax l' a'
  obtain ⟨z, hz⟩ := List.exists_mem_of_ne_nil l hne
  have k1 : l.foldl max a ∈ l := by
    rcases h1 with h1 | h1
    · have := h3 z hz; have := ha z hz; rw [show l.foldl max a = z by omega]; exact hz
    · exact h1
  have k2 : l'.foldl max a' ∈ l' := by
    rcases g1 with g1 | g1
    · have := g3 z ((hm z).1 hz); have := ha' z ((hm z).1 hz); rw [show l'.foldl max a' = z by omega]; exact (hm z).1 hz
    · exact g1
  have := h3 _ ((hm _).2 k2)
  have := g3 _ ((hm _).1 k1)
  omega
theorem fold_mm : ∀ (l : List Int) (r : Int × Int), l.foldl (fun r n => (min r.1 n, max r.2 n)) r = (l.foldl min r.1, l.foldl max r.2)
  | [], _ => rfl
  | x :: l, r => by rw [List.foldl_cons, fold_mm l]; rfl
/-- The most chairs in the truths: the reference's numbers, and the program's. -/
def mostsL (y : YardD) : List Int := (nsD y).map fun n => (allN y).getD n.toNat 0
theorem mem_mosts {y : YardD} (h : YOk y) (x : Int) : x ∈ mostsL y ↔ x ∈ (scenesD y []).map fun p => (p.2 : Int) := by
  unfold mostsL
  rw [List.mem_map, List.mem_map]
  constructor
  · rintro ⟨n, hn, rfl⟩
    obtain ⟨k, hk, hr, rfl⟩ := mem_ns.1 hn
    refine ⟨_, mem_scenes.2 ⟨(nthC y.chairs k).1, nth_truth h k, hr, rfl⟩, ?_⟩
    rw [Int.toNat_natCast, allN_get (by unfold allN; rw [List.length_map, List.length_range]; exact hk)]; rfl
  · rintro ⟨p, hp, rfl⟩
    obtain ⟨t, ht, hr, rfl⟩ := mem_scenes.1 hp
    obtain ⟨n, hn, rfl⟩ := nth_onto ht
    refine ⟨(n : Int), mem_ns.2 ⟨n, hn, hr, rfl⟩, ?_⟩
    rw [Int.toNat_natCast, allN_get (by unfold allN; rw [List.length_map, List.length_range]; exact hn)]; rfl
theorem mostT_le {y : YardD} {t : List Pt} (h : YOk y) (ht : isTruth y t = true) : mostT y t ≤ 14 := by
  obtain ⟨hl, _⟩ := truthOk ht
  have hn := h.len
  obtain ⟨M, hM, e⟩ := (nu_is hl (by omega)).ex
  have h2 := length_le_of_sub (l := M.map fun p => p.1) (m := List.range y.chairs.length) (firsts_nodup hM.nd) fun x hx => by
    obtain ⟨p, hp, rfl⟩ := List.mem_map.1 hx
    exact List.mem_range.2 ((scene_ok' hl (by omega)).bits _ (hM.fit p hp).1)
  rw [List.length_map, List.length_range] at h2
  have h3 := (scene_ok' hl (by omega)).whole
  unfold mostT mostS; omega
theorem mosts_in {y : YardD} (h : YOk y) : ∀ x ∈ mostsL y, 0 ≤ x ∧ x ≤ 14 := fun x hx => by
  obtain ⟨p, hp, rfl⟩ := List.mem_map.1 ((mem_mosts h x).1 hx)
  obtain ⟨t, ht, _, rfl⟩ := mem_scenes.1 hp
  have := mostT_le h ht
  simp only; omega
theorem ns_nil {y : YardD} (h : YOk y) : nsD y = [] ↔ scenesD y [] = [] := by
  have key := mem_mosts h
  constructor
  · intro e
    rw [List.eq_nil_iff_forall_not_mem]
    intro p hp
    have := (key p.2).2 (List.mem_map.2 ⟨p, hp, rfl⟩)
    unfold mostsL at this; rw [e] at this; simp at this
  · intro e
    rw [List.eq_nil_iff_forall_not_mem]
    intro n hn
    have := (key _).1 (List.mem_map.2 ⟨n, hn, rfl⟩)
    rw [e] at this; simp at this
theorem bounds_is {y : YardD} (h : askS y = 0) : boundsV y = (bndR (allN y) (nsD y), 0) := by
  obtain ⟨hf, hne⟩ := askS_zero h
  have hyo := yOk hf
  have hm := mem_mosts hyo
  have hin := mosts_in hyo
  have e1 : bndR (allN y) (nsD y) = ((mostsL y).foldl min 99, (mostsL y).foldl max (-1)) := by
    unfold bndR mostsL
    rw [← fold_mm _ (99, -1), List.foldl_map]
  unfold boundsV
  rw [if_neg (by omega), e1]
  cases e : (scenesD y []).map fun p => (p.2 : Int) with
  | nil => exact absurd ((ns_nil hyo).2 (List.map_eq_nil_iff.1 e)) hne
  | cons m l =>
    rw [e] at hm
    have hne2 : mostsL y ≠ [] := fun e2 => by
      have := (hm m).2 List.mem_cons_self
      rw [e2] at this; simp at this
    have hin2 : ∀ x ∈ m :: l, 0 ≤ x ∧ x ≤ 14 := fun x hx => hin x ((hm x).2 hx)
    have a1 : (mostsL y).foldl min 99 = (m :: l).foldl min 99 := fmin_eq hm hne2 (fun x hx => by have := hin x hx; omega) (fun x hx => by have := hin2 x hx; omega)
    have a2 : (mostsL y).foldl max (-1) = (m :: l).foldl max (-1) := fmax_eq hm hne2 (fun x hx => by have := hin x hx; omega) (fun x hx => by have := hin2 x hx; omega)
    have hm0 := hin2 m List.mem_cons_self
    simp only
    rw [a1, a2, fold_mm, List.foldl_cons, List.foldl_cons, List.foldl_cons, List.foldl_cons, show min (99 : Int) m = min m m by omega, show max (-1 : Int) m = max m m by omega]
theorem bounds_err {y : YardD} (h : askS y ≠ 0) : boundsV y = ((0, 0), askS y) := by
  by_cases hf : fault y = 0
  · unfold askS at h ⊢
    rw [if_neg (by omega)] at h
    rw [if_neg (by omega)]
    by_cases hn : nsD y = []
    · rw [if_pos hn]; unfold boundsV; rw [if_neg (by omega), (ns_nil (yOk hf)).1 hn]; rfl
    · rw [if_neg hn] at h; omega
  · unfold askS boundsV; rw [if_pos hf, if_pos hf]
theorem mb_err {y : YardD} (h : askS y ≠ 0) : ((decide ((boundsV y).2 = askS y) && ((boundsV y).1 == (0, 0))) && true) = true := by
  rw [bounds_err h]; simp
theorem mb_ok {y : YardD} (h : askS y = 0) : ((decide ((boundsV y).2 = 0) && ((boundsV y).1 == bndR (allN y) (nsD y))) && true) = true := by
  rw [bounds_is h]; simp
theorem sureL_ok (yv : Value) (y : YardD) (D : Data) (hy : YardIs D yv y) : Fn Try.prog 40 #[yv] D (fun D' v => ∃ lv av, v = .tuple #[lv, av, .int .i64 (askS y)] ∧ Sl D' RI 1 lv (if askS y = 0 then nsD y else []) ∧ Sl D' RI 1 av (if fault y = 0 then allN y else [])) := by
  have hy0 := hy
  obtain ⟨cv, qv, rfl, hc, hq⟩ := hy
  refine enter 24 Try.func40 rfl rfl rfl rfl fun h0 => ?_
  refine C.seq ?_
  refine C.region [(false,0),(false,1),(false,2),(false,3)] rfl ?_
  refine L.boxD rfl rfl rfl rfl trivial (fun q1 E1 hE1 hB1 => ?_)
  refine L.assign rfl rfl rfl trivial ?_
  refine L.assign rfl rfl rfl trivial ?_
  refine L.assign rfl rfl rfl trivial ?_
  refine L.nil ?_
  refine C.next ?_
  refine C.seq ?_
  refine C.seq ?_
  refine C.region [(false,0),(false,1),(false,2)] rfl ?_
  refine L.loadDW rfl Tf.a25 rfl hB1 (by first | simp | assumption) Tf.s25 List.not_mem_nil rfl trivial ?_
  refine L.callV rfl rfl rfl (fun D1 hD1 => faultL_ok _ y _ (hy0.up (hD1 _ (by simp)))) rfl trivial ?_
  refine L.assign rfl rfl rfl trivial ?_
  refine L.nil ?_
  refine C.next ?_
  refine C.seq ?_
  refine C.region [(false,0),(false,1)] rfl ?_
  refine L.move rfl rfl rfl trivial ?_
  refine L.neq rfl rfl rfl rfl trivial ?_
  refine L.nil ?_
  refine C.next ?_
  refine C.condD rfl (fun hc1 => ?_) (fun hc1 => ?_)
  · have hask : askS y = fault y := by unfold askS; rw [if_pos hc1]
    refine C.seq ?_
    refine C.region [(false,0),(false,1),(false,2),(false,3)] rfl ?_
    refine L.move rfl rfl rfl trivial ?_
    refine L.assign rfl rfl rfl trivial ?_
    refine L.assign rfl rfl rfl trivial ?_
    refine L.assign rfl rfl rfl trivial ?_
    refine L.nil ?_
    refine C.next ?_
    refine C.ret ?_
    refine C.thenRet ?_
    exact leave (vs := [_, _, _]) rfl rfl rfl ⟨rfl, rfl, rfl, trivial⟩ (fun D hD => ⟨_, _, by rw [hask]; rfl, by rw [if_neg (by rw [hask]; exact hc1)]; exact Sl.nil, by rw [if_neg hc1]; exact Sl.nil⟩)
  · have hf0 : fault y = 0 := by omega
    refine C.skip ?_
    refine C.next ?_
    refine C.seq ?_
    refine C.region [(false,0),(false,1),(false,2)] rfl ?_
    refine L.loadDW rfl Tf.a25 rfl hB1 (by first | simp | assumption) Tf.s25 List.not_mem_nil rfl trivial ?_
    refine L.call rfl rfl rfl (fun D2 hD2 => All_ok _ y _ (hy0.up (hD2 _ (by simp))) hf0) rfl trivial (fun v2 D2 hD2 hp2 => ?_)
    have hal := hp2
    refine L.assign rfl rfl rfl trivial ?_
    refine L.nil ?_
    refine C.next ?_
    refine C.seq ?_
    refine C.region [(false,0),(false,1),(false,2),(false,3)] rfl ?_
    refine L.loadDW rfl Tf.a25 rfl hB1 (by first | simp | assumption) Tf.s25 List.not_mem_nil rfl trivial ?_
    refine L.move rfl rfl rfl trivial ?_
    refine L.call rfl rfl rfl (fun D3 hD3 => Numbers_ok _ _ y (allN y) _ (hy0.up (hD3 _ (by simp))) (hal.up RI.up (hD3 _ (by simp))) hf0 (by have := allN_len hf0; omega)) rfl trivial (fun v3 D3 hD3 hp3 => ?_)
    have hns := hp3
    rw [show numK y (allN y) (allN y).length = nsD y from rfl] at hns
    refine L.assign rfl rfl rfl trivial ?_
    refine L.nil ?_
    refine C.next ?_
    refine C.seq ?_
    refine C.seq ?_
    refine C.region [(false,0),(false,1),(false,2)] rfl ?_
    refine L.move rfl rfl rfl trivial ?_
    refine L.len rfl Try.underlying52 rfl hns rfl rfl trivial ?_
    refine L.eql rfl rfl rfl rfl trivial ?_
    refine L.nil ?_
    refine C.next ?_
    refine C.condD rfl (fun hc2 => ?_) (fun hc2 => ?_)
    · have hn0 : nsD y = [] := List.length_eq_zero_iff.1 (by omega)
      have hask : askS y = 11 := by unfold askS; rw [if_neg hc1, if_pos hn0]
      refine C.seq ?_
      refine C.region [(false,0),(false,1),(false,2),(false,3)] rfl ?_
      refine L.move rfl rfl rfl trivial ?_
      refine L.assign rfl rfl rfl trivial ?_
      refine L.assign rfl rfl rfl trivial ?_
      refine L.assign rfl rfl rfl trivial ?_
      refine L.nil ?_
      refine C.next ?_
      refine C.ret ?_
      refine C.thenRet ?_
      exact leave (vs := [_, _, _]) rfl rfl rfl ⟨rfl, rfl, rfl, trivial⟩ (fun D hD => ⟨_, _, by rw [hask]; rfl, by rw [if_neg (by rw [hask]; omega)]; exact Sl.nil, by rw [if_pos hf0]; exact hal.up RI.up (hD _ (by simp))⟩)
    · have hn0 : nsD y ≠ [] := fun e => hc2 (by rw [e]; rfl)
      have hask : askS y = 0 := by unfold askS; rw [if_neg hc1, if_neg hn0]
      refine C.skip ?_
      refine C.next ?_
      refine C.seq ?_
      refine C.region [(false,0),(false,1),(false,2),(false,3),(false,4)] rfl ?_
      refine L.move rfl rfl rfl trivial ?_
      refine L.move rfl rfl rfl trivial ?_
      refine L.assign rfl rfl rfl trivial ?_
      refine L.assign rfl rfl rfl trivial ?_
      refine L.assign rfl rfl rfl trivial ?_
      refine L.nil ?_
      refine C.next ?_
      refine C.ret ?_
      exact leave (vs := [_, _, _]) rfl rfl rfl ⟨rfl, rfl, rfl, trivial⟩ (fun D hD => ⟨_, _, by rw [hask]; rfl, by rw [if_pos hask]; exact hns.up RI.up (hD _ (by simp)), by rw [if_pos hf0]; exact hal.up RI.up (hD _ (by simp))⟩)
theorem MendBounds_ok (yv : Value) (y : YardD) (D : Data) (hy : YardIs D yv y) : Fn Try.prog 5 #[yv] D (fun _ v => v = .bool true) := by
  have hy0 := hy
  obtain ⟨cv, qv, rfl, hc, hq⟩ := hy
  refine enter 50 Try.func5 rfl rfl rfl rfl fun h0 => ?_
  refine C.seq ?_
  refine C.region [(false,0),(false,1)] rfl ?_
  refine L.boxD rfl rfl rfl rfl trivial (fun q1 E1 hE1 hB1 => ?_)
  refine L.assign rfl rfl rfl trivial ?_
  refine L.nil ?_
  refine C.next ?_
  refine C.seq ?_
  refine C.seq ?_
  refine C.region [(false,0),(false,1),(false,2)] rfl ?_
  refine L.loadDW rfl Tf.a25 rfl hB1 (by first | simp | assumption) Tf.s25 List.not_mem_nil rfl trivial ?_
  refine L.callV rfl rfl rfl (fun D1 hD1 => Thin_ok _ y _ (hy0.up (hD1 _ (by simp)))) rfl trivial ?_
  refine L.not rfl rfl rfl trivial ?_
  refine L.nil ?_
  refine C.next ?_
  refine C.cond rfl (fun hc1 => ?_) (fun hc1 => ?_)
  · refine C.seq ?_
    refine C.region [(false,0),(false,1)] rfl ?_
    refine L.callV rfl rfl rfl (fun D2 hD2 => awake_ok _) rfl trivial ?_
    refine L.assign rfl rfl rfl trivial ?_
    refine L.nil ?_
    refine C.next ?_
    refine C.ret ?_
    refine C.thenRet ?_
    exact leave (vs := [_]) rfl rfl rfl ⟨rfl, trivial⟩ (fun D hD => rfl)
  · have hthin : thin y = true := by simpa using hc1
    obtain ⟨hlc, hlq⟩ := thin_len hthin
    refine C.skip ?_
    refine C.next ?_
    refine C.seq ?_
    refine C.region [(false,0),(false,1),(false,2),(false,3),(false,4),(false,5),(false,6),(false,7),(false,8)] rfl ?_
    refine L.loadDW rfl Tf.a25 rfl hB1 (by first | simp | assumption) Tf.s25 List.not_mem_nil rfl trivial ?_
    refine L.call rfl rfl rfl (fun D3 hD3 => YardL_ok _ y _ (hy0.up (hD3 _ (by simp))) (by omega) (by omega)) rfl trivial (fun v3 D3 hD3 hp3 => ?_)
    have hw := hp3
    refine L.callV rfl rfl rfl (fun D4 hD4 => Bounds_ok _ y _ (hw.up (hD4 _ (by simp)))) rfl trivial ?_
    refine L.move rfl rfl rfl trivial ?_
    refine L.extract rfl rfl rfl rfl trivial ?_
    refine L.extract rfl rfl rfl rfl trivial ?_
    refine L.alloc rfl Tf.z61 rfl rfl trivial (fun q2 => ?_)
    refine L.storeW rfl rfl rfl rfl Tf.s61 (by first | rfl | (simp only [ints_length, *]; done) | (simp only [ints_length, *]; rfl) | (simp only [ints_length, *]; omega)) (by first | rfl | (simp only [ints_length, *]; done) | (simp only [ints_length, *]; rfl) | (simp only [ints_length, *]; omega)) (Has.head) (by first | exact ints_cell1 _ | simp [cell1]) trivial ?_
    refine L.assign rfl rfl rfl trivial ?_
    refine L.nil ?_
    refine C.next ?_
    refine C.seq ?_
    refine C.region [(false,0),(false,1),(false,2),(false,3),(false,4),(false,5),(false,6),(false,7),(false,8)] rfl ?_
    refine L.loadDW rfl Tf.a25 rfl hB1 (by first | simp | assumption) Tf.s25 List.not_mem_nil rfl trivial ?_
    refine L.call rfl rfl rfl (fun D5 hD5 => sureL_ok _ y _ (hy0.up (hD5 _ (by simp)))) rfl trivial (fun v5 D5 hD5 hp5 => ?_)
    obtain ⟨sv, av, rfl, hsv, hav⟩ := hp5
    refine L.move rfl rfl rfl trivial ?_
    refine L.extract rfl rfl rfl rfl trivial ?_
    refine L.extract rfl rfl rfl rfl trivial ?_
    refine L.extract rfl rfl rfl rfl trivial ?_
    refine L.assign rfl rfl rfl trivial ?_
    refine L.assign rfl rfl rfl trivial ?_
    refine L.assign rfl rfl rfl trivial ?_
    refine L.nil ?_
    refine C.next ?_
    refine C.seq ?_
    refine C.seq ?_
    refine C.region [(false,0),(false,1)] rfl ?_
    refine L.move rfl rfl rfl trivial ?_
    refine L.neq rfl rfl rfl rfl trivial ?_
    refine L.nil ?_
    refine C.next ?_
    refine C.condD rfl (fun hc2 => ?_) (fun hc2 => ?_)
    · refine C.seq ?_
      refine C.region [(false,0),(false,1),(false,2),(false,3),(false,4),(false,5),(false,6),(false,7),(false,8),(false,9),(false,10),(false,11)] rfl ?_
      refine L.move rfl rfl rfl trivial ?_
      refine L.move rfl rfl rfl trivial ?_
      refine L.eql rfl rfl rfl rfl trivial ?_
      refine L.move rfl rfl rfl trivial ?_
      refine' L.and [(false,4),(false,5),(false,6),(false,7)] [(false,8),(false,9),(false,10),(false,11)] (s := 29) (p := 33) rfl rfl (fun hg1 => ?_) (fun hg1 => ?_) ?_
      rotate_left
      · refine L.loadBW rfl Tf.a61 rfl (List.Mem.head _) Tf.s61 List.not_mem_nil rfl ⟨_, rfl, rfl⟩ ?_
        refine L.build (cs := [.int .i64 0, .int .i64 0]) rfl Tf.p61 Tf.z61 rfl rfl rfl ⟨_, rfl, rfl⟩ ?_
        refine L.eqlK (b := (0, 0)) rfl (by kernel_rfl) k2_61 rfl rfl rfl ⟨_, rfl, rfl⟩ ?_
        refine L.pickT rfl rfl rfl rfl trivial ?_
        exact L.nil fun a w hh => hh.cutK 3 rfl
      · refine L.pass rfl rfl rfl ⟨_, _, rfl, rfl, rfl⟩ ?_
        refine L.pass rfl rfl rfl ⟨_, _, rfl, rfl, rfl⟩ ?_
        refine L.pass rfl rfl rfl ⟨_, _, rfl, rfl, rfl⟩ ?_
        refine L.pickF rfl rfl rfl rfl trivial ?_
        exact L.nil fun a w hh => hh.cutK 3 rfl
      refine L.move rfl rfl rfl trivial ?_
      refine' L.and [(false,9),(false,10)] [(false,11)] (s := 34) (p := 36) rfl rfl (fun hg2 => ?_) (fun hg2 => ?_) ?_
      rotate_left
      · refine L.callV rfl rfl rfl (fun D6 hD6 => awake_ok _) rfl ⟨_, rfl, rfl⟩ ?_
        refine L.pickT rfl rfl rfl rfl trivial ?_
        exact L.nil fun a w hh => hh.cutK 1 rfl
      · refine L.pass rfl rfl rfl ⟨_, _, rfl, rfl, rfl⟩ ?_
        refine L.pickF rfl rfl rfl rfl trivial ?_
        exact L.nil fun a w hh => hh.cutK 1 rfl
      refine L.assign rfl rfl rfl trivial ?_
      refine L.nil ?_
      refine C.next ?_
      refine C.ret ?_
      refine C.thenRet ?_
      exact leave (vs := [_]) rfl rfl rfl ⟨rfl, trivial⟩ (fun D hD => congrArg Value.bool (mb_err hc2))
    · have hz : askS y = 0 := by omega
      obtain ⟨hf0, hne⟩ := askS_zero hz
      rw [if_pos hz] at hsv
      rw [if_pos hf0] at hav
      refine C.skip ?_
      refine C.next ?_
      refine C.seq ?_
      refine C.draw [] 5 [0,1,2,3,4,5,6,7,8,9,10,11,12,13] [false,false,false,false,true,true,true,true,false,false,false,false,false,false] [(false,0),(false,1),(false,2),(false,3),(true,4),(true,5),(true,6),(true,7),(false,8),(false,9),(false,10),(false,11),(false,12),(false,13)] Tf.follows (fun _ _ _ h => np_body (P := Try.prog) (fn := Try.f5) _ _ _ h) (by kernel_rfl) rfl ?_
      refine L.move rfl rfl rfl trivial ?_
      refine L.eql rfl rfl rfl rfl trivial ?_
      refine L.move rfl rfl rfl trivial ?_
      refine' L.and [(false,3),(true,4),(true,5),(true,6),(true,7),(false,8),(false,9)] [(false,10),(false,11),(false,12),(false,13)] (s := 39) (p := 46) rfl rfl (fun hg3 => ?_) (fun hg3 => ?_) ?_
      rotate_left
      · refine L.loadBW rfl Tf.a61 rfl (List.Mem.head _) Tf.s61 List.not_mem_nil rfl ⟨_, rfl, rfl⟩ ?_
        refine L.move rfl rfl rfl ⟨_, rfl, rfl⟩ ?_
        refine L.move rfl rfl rfl ⟨_, rfl, rfl⟩ ?_
        refine L.callV rfl rfl rfl (fun D7 hD7 => BoundsR_ok _ _ (allN y) (nsD y) _ (hav.up RI.up (hD7 _ (by simp))) (hsv.up RI.up (hD7 _ (by simp))) ns_in) rfl ⟨_, rfl, rfl⟩ ?_
        refine L.callV rfl rfl rfl (fun D8 hD8 => to_ok _ _) rfl ⟨_, rfl, rfl⟩ ?_
        refine L.eqlK  rfl (by kernel_rfl) k2_61 rfl rfl rfl ⟨_, rfl, rfl⟩ ?_
        refine L.pickT rfl rfl rfl rfl trivial ?_
        exact L.nil fun a w hh => hh.cutK 6 rfl
      · refine L.pass rfl rfl rfl ⟨_, _, rfl, rfl, rfl⟩ ?_
        refine L.pass rfl rfl rfl ⟨_, _, rfl, rfl, rfl⟩ ?_
        refine L.pass rfl rfl rfl ⟨_, _, rfl, rfl, rfl⟩ ?_
        refine L.pass rfl rfl rfl ⟨_, _, rfl, rfl, rfl⟩ ?_
        refine L.pass rfl rfl rfl ⟨_, _, rfl, rfl, rfl⟩ ?_
        refine L.pass rfl rfl rfl ⟨_, _, rfl, rfl, rfl⟩ ?_
        refine L.pickF rfl rfl rfl rfl trivial ?_
        exact L.nil fun a w hh => hh.cutK 6 rfl
      refine L.move rfl rfl rfl trivial ?_
      refine' L.and [(false,11),(false,12)] [(false,13)] (s := 47) (p := 49) rfl rfl (fun hg4 => ?_) (fun hg4 => ?_) ?_
      rotate_left
      · refine L.callV rfl rfl rfl (fun D9 hD9 => awake_ok _) rfl ⟨_, rfl, rfl⟩ ?_
        refine L.pickT rfl rfl rfl rfl trivial ?_
        exact L.nil fun a w hh => hh.cutK 1 rfl
      · refine L.pass rfl rfl rfl ⟨_, _, rfl, rfl, rfl⟩ ?_
        refine L.pickF rfl rfl rfl rfl trivial ?_
        exact L.nil fun a w hh => hh.cutK 1 rfl
      refine L.assign rfl rfl rfl trivial ?_
      refine L.nil ?_
      refine C.next ?_
      refine C.ret ?_
      exact leave (vs := [_]) rfl rfl rfl ⟨rfl, trivial⟩ (fun D hD => congrArg Value.bool (mb_ok hz))
end Go.Fs
