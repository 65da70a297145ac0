/- Walks: the reference: of which number a pairing is sure; the sure number. -/
import Derived.Test.YtjhdcelmgfajbaaW26
namespace Go.Fs
open Go.Proofs
open C7
def sureR (y : YardD) (ns : List Int) (l : List (Int × Int)) : Int := (ns.map fun x => (makesR y (nthC y.chairs x.toNat).1 l : Int)).foldl min 99
def surestR (y : YardD) (ns : List Int) : Int := (((prs y.chairs.length y.chairs.length 0).map pI).map (sureR y ns)).foldl max 0
theorem sureR_step {y : YardD} {ns : List Int} {l : List (Int × Int)} {k j : Nat} (hx : ns[k]? = some (j : Int)) : sureR y (ns.take (k + 1)) l = min (sureR y (ns.take k) l) (makesR y (nthC y.chairs j).1 l : Int) := by
  unfold sureR; rw [List.take_add_one, hx, Option.toList_some, List.map_append, List.foldl_append]; rfl
theorem surest_step {α : Type} {f : α → Int} {ls : List α} {k : Nat} {l : α} (h : ls[k]? = some l) : ((ls.take (k + 1)).map f).foldl max 0 = max (((ls.take k).map f).foldl max 0) (f l) := by
  rw [List.take_add_one, h, Option.toList_some, List.map_append, List.foldl_append]; rfl
/-- The pairings that the program tries are those of near chairs. -/
theorem flat_near {β : Type} {A C : Nat → Bool} {g : Nat → List β} : ∀ L : List Nat, (L.filter fun b => A b && C b).flatMap g = (L.filter A).flatMap fun b => if C b = true then g b else []
  | [] => rfl
  | b :: L => by
    rw [List.filter_cons, List.filter_cons]
    cases ha : A b with
    | false => simpa using flat_near L
    | true =>
      cases hc : C b with
      | false => simp [hc, flat_near L]
      | true => simp [hc, flat_near L]
def nearM (y : YardD) (M : List (Nat × Nat)) : Bool := M.all fun p => nearB y p.1 p.2
theorem lvs_prs {y : YardD} : ∀ (k f w : Nat) (l : List (Int × Int)), f + k = y.chairs.length → lvs y k f w l = ((prs y.chairs.length k w).filter (nearM y)).map fun M => l ++ pI M
  | 0, f, w, l, _ => by show [l] = [l ++ []]; rw [List.append_nil]
  | k + 1, f, w, l, h => by
    have hf : y.chairs.length - (k + 1) = f := by omega
    rw [lvs, prs, hf, lvs_prs k (f + 1) w l (by omega)]
    by_cases hb : w.testBit f = true
    · rw [if_pos hb, if_pos hb, List.append_nil]
    · rw [if_neg hb, if_neg hb, List.filter_append, List.map_append]
      congr 1
      rw [show (fun b => decide (f < b) && (!w.testBit b && nearB y f b)) = fun b => (decide (f < b) && !w.testBit b) && nearB y f b from funext fun b => (Bool.and_assoc _ _ _).symm, flat_near, List.filter_flatMap, List.map_flatMap]
      congr 1
      funext b
      have e : nearM y ∘ (fun M : List (Nat × Nat) => (f, b) :: M) = fun M => nearB y f b && nearM y M := by funext M; simp [nearM]
      rw [List.filter_map, e, List.map_map]
      cases hn : nearB y f b with
      | false => simp
      | true =>
        rw [if_pos rfl, lvs_prs k (f + 1) (w ||| 2 ^ b) _ (by omega)]
        simp only [Bool.true_and]
        apply List.map_congr_left
        intro M _
        simp [pI]
theorem prs_mono {n : Nat} : ∀ (k w w' : Nat), (∀ x, w.testBit x = true → w'.testBit x = true) → ∀ M ∈ prs n k w', M ∈ prs n k w
  | 0, _, _, _, M, hM => hM
  | k + 1, w, w', h, M, hM => by
    unfold prs at hM ⊢
    have ih := prs_mono (n := n) k
    by_cases h' : w'.testBit (n - (k + 1)) = true
    · rw [if_pos h'] at hM
      have := ih w w' h M hM
      split
      · exact this
      · exact List.mem_append_left _ this
    · rw [if_neg h'] at hM
      rw [if_neg fun e => h' (h _ e)]
      rcases List.mem_append.1 hM with hM | hM
      · exact List.mem_append_left _ (ih w w' h M hM)
      · refine List.mem_append_right _ ?_
        obtain ⟨b, hb, hM⟩ := List.mem_flatMap.1 hM
        obtain ⟨M', hM', rfl⟩ := List.mem_map.1 hM
        rw [List.mem_filter, Bool.and_eq_true, Bool.not_eq_true'] at hb
        refine List.mem_flatMap.2 ⟨b, ?_, List.mem_map.2 ⟨M', ih _ _ (fun x hx => ?_) M' hM', rfl⟩⟩
        · rw [List.mem_filter, Bool.and_eq_true, Bool.not_eq_true']
          refine ⟨hb.1, hb.2.1, ?_⟩
          cases e : w.testBit b with
          | false => rfl
          | true => rw [h b e] at hb; exact absurd hb.2.2 (by simp)
        · rw [Nat.testBit_or, Bool.or_eq_true] at hx ⊢
          exact hx.imp (h x) id
theorem prs_sub {n : Nat} : ∀ (k w : Nat) (M N : List (Nat × Nat)), M ∈ prs n k w → N.Sublist M → N ∈ prs n k w
  | 0, w, M, N, hM, hs => by
    obtain rfl : M = [] := by simpa [prs] using hM
    rw [List.sublist_nil.1 hs]; exact hM
  | k + 1, w, M, N, hM, hs => by
    unfold prs at hM ⊢
    split at hM
    · rename_i h; rw [if_pos h]; exact prs_sub k w M N hM hs
    · rename_i h
      rw [if_neg h]
      rcases List.mem_append.1 hM with hM | hM
      · exact List.mem_append_left _ (prs_sub k w M N hM hs)
      · obtain ⟨b, hb, hM⟩ := List.mem_flatMap.1 hM
        obtain ⟨M', hM', rfl⟩ := List.mem_map.1 hM
        cases hs with
        | cons _ hs => exact List.mem_append_left _ (prs_mono k w (w ||| 2 ^ b) (fun x hx => by rw [Nat.testBit_or, hx]; rfl) _ (prs_sub k _ M' N hM' hs))
        | cons_cons _ hs => exact List.mem_append_right _ (List.mem_flatMap.2 ⟨b, hb, List.mem_map.2 ⟨_, prs_sub k _ M' _ hM' hs, rfl⟩⟩)
theorem fitB_near {y : YardD} {t : List Pt} {a b : Nat} (h : fitB y t a b = true) : nearB y a b = true := by
  unfold fitB at h
  split at h
  · rename_i p q x z _ _ hx hz
    unfold nearB; rw [hx, hz]
    simp only [Bool.and_eq_true] at h
    exact h.1.2
  · simp at h
theorem makes_near (y : YardD) (t : List Pt) (M : List (Nat × Nat)) : makesR y t (pI (M.filter fun p => nearB y p.1 p.2)) = makesR y t (pI M) := by
  rw [makesR_pI, makesR_pI]
  unfold fitN
  rw [List.filter_filter]
  congr 2
  apply List.filter_congr
  intro p _
  cases e : fitB y t p.1 p.2 with
  | false => rfl
  | true => rw [fitB_near e]; rfl
theorem upd_fold {scs : List Sc} : ∀ (L : List (List (Int × Int))) (b : List (Int × Int)) (m : Int), (L.foldl (upd scs) (b, m)).2 = (L.map (sureZ scs)).foldl max m ∧ (L.foldl (upd scs) (b, m) = (b, m) ∨ ((L.foldl (upd scs) (b, m)).1 ∈ L ∧ sureZ scs (L.foldl (upd scs) (b, m)).1 = (L.foldl (upd scs) (b, m)).2))
  | [], b, m => ⟨rfl, Or.inl rfl⟩
  | l :: L, b, m => by
    rw [List.foldl_cons, List.map_cons, List.foldl_cons]
    by_cases h : m < sureZ scs l
    · rw [upd_yes h, show max m (sureZ scs l) = sureZ scs l by omega]
      obtain ⟨h1, h2⟩ := upd_fold (scs := scs) L l (sureZ scs l)
      refine ⟨h1, Or.inr ?_⟩
      rcases h2 with h2 | h2
      · rw [h2]; exact ⟨List.mem_cons_self, rfl⟩
      · exact ⟨List.mem_cons_of_mem _ h2.1, h2.2⟩
    · rw [upd_no h, show max m (sureZ scs l) = m by omega]
      obtain ⟨h1, h2⟩ := upd_fold (scs := scs) L b m
      exact ⟨h1, h2.imp id fun h => ⟨List.mem_cons_of_mem _ h.1, h.2⟩⟩
theorem SureR_ok (yv nv lv : Value) (y : YardD) (ns : List Int) (l : List (Int × Int)) (D : Data) (hy : YardIs D yv y) (hn : Sl D RI 1 nv ns) (hl : Sl D R2 2 lv l) (hf : fault y = 0) (hns : ∀ x ∈ ns, ∃ k : Nat, x = (k : Int) ∧ k ≤ 1000000) (hp : ∀ p ∈ l, ∃ x z : Nat, p = ((x : Int), (z : Int)) ∧ x < y.chairs.length ∧ z < y.chairs.length) (hl6 : l.length ≤ 100) : Fn Try.prog 45 #[yv, nv, lv] D (fun _ v => v = .int .i64 (sureR y ns l)) := by
  have hy0 := hy
  obtain ⟨cv, qv, rfl, hc, hq⟩ := hy
  have hnl := hn.len
  have hyo := yOk hf
  have hn7 := hyo.len
  refine enter 27 Try.func45 rfl rfl rfl rfl fun h0 => ?_
  refine C.seq ?_
  refine C.region [(false,0),(false,1)] rfl ?_
  refine L.boxD rfl rfl rfl rfl trivial (fun q1 E1 hE1 hB1 => ?_)
  refine L.assign rfl rfl rfl trivial ?_
  refine L.nil ?_
  refine C.next ?_
  refine C.seq ?_
  refine C.region [(false,0)] rfl ?_
  refine L.assign rfl rfl rfl trivial ?_
  refine L.nil ?_
  refine C.next ?_
  refine C.seq ?_
  refine C.seq ?_
  refine C.region [(false,0)] rfl ?_
  refine L.assign rfl rfl rfl trivial ?_
  refine L.nil ?_
  refine C.next ?_
  refine C.block ?_
  refine C.loopC (γ := Nat) (fun k => ns.length - k) (fun k => k ≤ ns.length) (fun k => [(8, .int .i64 (k : Int)), (7, .int .i64 (sureR y (ns.take k) l))]) [(6, _), (3, _), (1, _), (2, _)] (fun k => [E1, D]) 0 (by omega) ⟨(by first | rfl | (show some (Value.int _ _) = some (Value.int _ _); congr 2; omega)), (by first | rfl | (show some (Value.int _ _) = some (Value.int _ _); congr 2; omega)), trivial⟩ ⟨rfl, rfl, rfl, rfl, trivial⟩ (ds_same) ?_
  rintro k h1
  refine C.seq ?_
  refine C.seq ?_
  refine C.region [(false,0),(false,1),(false,2),(false,3)] rfl ?_
  refine L.move rfl rfl rfl trivial ?_
  refine L.move rfl rfl rfl trivial ?_
  refine L.len rfl Try.underlying52 rfl hn rfl rfl trivial ?_
  refine L.lss rfl rfl rfl rfl trivial ?_
  refine L.nil ?_
  refine C.next ?_
  refine C.condD rfl (fun hc1 => ?_) (fun hc1 => ?_)
  · have hk : k < ns.length := by omega
    obtain ⟨x, hx⟩ : ∃ x, ns[k]? = some x := ⟨_, List.getElem?_eq_getElem hk⟩
    obtain ⟨j, rfl, hj⟩ := hns x (List.mem_of_getElem? hx)
    have hit := nth_truth hyo j
    obtain ⟨hlen, hbt⟩ := truthOk hit
    refine C.skip ?_
    refine C.next ?_
    refine C.seq ?_
    refine C.block ?_
    refine C.draw [] 5 [0,1,2,3,4,5,6,8,7,9,10,11] [false,true,true,true,true,true,true,true,true,true,false,false] [(false,0),(true,1),(true,2),(true,3),(true,4),(true,5),(true,6),(true,8),(true,7),(true,9),(false,10),(false,11)] Tf.follows (fun _ _ _ h => np_body (P := Try.prog) (fn := Try.f45) _ _ _ h) (by kernel_rfl) rfl ?_
    refine L.move rfl rfl rfl trivial ?_
    refine L.loadDW rfl Tf.a25 rfl hB1 (by first | simp | assumption) Tf.s25 List.not_mem_nil rfl trivial ?_
    refine L.loadDW rfl Tf.a25 rfl hB1 (by first | simp | assumption) Tf.s25 List.not_mem_nil rfl trivial ?_
    refine L.move rfl rfl rfl trivial ?_
    refine L.move rfl rfl rfl trivial ?_
    refine L.indexS rfl Try.underlying52 Tf.s3 rfl hn rfl (by omega) hx rfl trivial (fun b1 o1 cs1 hr1 hcl1 hA1 => ?_)
    obtain rfl : cs1 = [.int .i64 _] := hr1
    refine L.loadD1 rfl (k := 0) Tf.a3 rfl hA1 (by first | simp | assumption) rfl List.not_mem_nil rfl trivial ?_
    refine L.move rfl rfl rfl trivial ?_
    refine L.call rfl rfl rfl (fun D1 hD1 => Nth_ok _ y j _ (hy0.up (hD1 _ (by simp))) (by omega) (by omega)) rfl trivial (fun v1 D1 hD1 hp1 => ?_)
    have hz := hp1
    refine L.callV rfl rfl rfl (fun D2 hD2 => Makes_ok _ _ _ y _ l _ (hy0.up (hD2 _ (by simp))) (hz.up RP.up (hD2 _ (by simp))) (hl.up R2.up (hD2 _ (by simp))) hyo hlen hbt (fun p h => by rw [hlen]; exact hp p h) (by omega)) rfl trivial ?_
    refine L.min2 rfl rfl rfl rfl trivial ?_
    refine L.assign rfl rfl rfl trivial ?_
    refine L.nil ?_
    refine C.blockEnd ?_
    refine C.next ?_
    refine C.region [(false,0),(false,1),(false,2)] rfl ?_
    refine L.move rfl rfl rfl trivial ?_
    refine L.add rfl rfl rfl (by simp only [inK]; omega) rfl trivial ?_
    refine L.assign rfl rfl rfl trivial ?_
    refine L.nil ?_
    exact C.againR 21 (k + 1) (by omega) (by omega) ⟨(by first | rfl | (show some (Value.int _ _) = some (Value.int _ _); congr 2; omega)), (by rw [sureR_step hx]; rfl), trivial⟩ rfl rfl (List.Sublist.refl _) (fun D h => ⟨D, List.Mem.tail _ (h), Le.refl D⟩)
  · obtain rfl : k = ns.length := by omega
    rw [List.take_length]
    refine C.exit ?_
    refine C.thenExit ?_
    refine C.thenExit ?_
    refine C.blockExit ?_
    refine C.next ?_
    refine C.seq ?_
    refine C.region [(false,0),(false,1)] rfl ?_
    refine L.move rfl rfl rfl trivial ?_
    refine L.assign rfl rfl rfl trivial ?_
    refine L.nil ?_
    refine C.next ?_
    refine C.ret ?_
    exact leave (vs := [_]) rfl rfl rfl ⟨rfl, trivial⟩ (fun D hD => rfl)
theorem Surest_ok (yv nv : Value) (y : YardD) (ns : List Int) (D : Data) (hy : YardIs D yv y) (hn : Sl D RI 1 nv ns) (hf : fault y = 0) (hns : ∀ x ∈ ns, ∃ k : Nat, x = (k : Int) ∧ k ≤ 1000000) : Fn Try.prog 46 #[yv, nv] D (fun _ v => v = .int .i64 (surestR y ns)) := by
  have hy0 := hy
  obtain ⟨cv, qv, rfl, hc, hq⟩ := hy
  have hyo := yOk hf
  have hn7 := hyo.len
  refine enter 26 Try.func46 rfl rfl rfl rfl fun h0 => ?_
  refine C.seq ?_
  refine C.region [(false,0),(false,1)] rfl ?_
  refine L.boxD rfl rfl rfl rfl trivial (fun q1 E1 hE1 hB1 => ?_)
  refine L.assign rfl rfl rfl trivial ?_
  refine L.nil ?_
  refine C.next ?_
  refine C.seq ?_
  refine C.region [(false,0)] rfl ?_
  refine L.assign rfl rfl rfl trivial ?_
  refine L.nil ?_
  refine C.next ?_
  refine C.seq ?_
  refine C.region [(false,0),(false,1),(false,2)] rfl ?_
  refine L.loadDW rfl Tf.a25 rfl hB1 (by first | simp | assumption) Tf.s25 List.not_mem_nil rfl trivial ?_
  refine L.call rfl rfl rfl (fun D1 hD1 => Pairings_ok hn7 _ _ (hy0.up (hD1 _ (by simp)))) rfl trivial (fun v1 D1 hD1 hp1 => ?_)
  have hps := hp1
  have hpl := hps.len
  refine L.assign rfl rfl rfl trivial ?_
  refine L.nil ?_
  refine C.next ?_
  refine C.seq ?_
  refine C.seq ?_
  refine C.region [(false,0)] rfl ?_
  refine L.assign rfl rfl rfl trivial ?_
  refine L.nil ?_
  refine C.next ?_
  refine C.block ?_
  refine C.loopC (γ := Nat) (fun k => ((prs y.chairs.length y.chairs.length 0).map pI).length - k) (fun k => k ≤ ((prs y.chairs.length y.chairs.length 0).map pI).length) (fun k => [(7, .int .i64 (k : Int)), (5, .int .i64 (((((prs y.chairs.length y.chairs.length 0).map pI).take k).map (sureR y ns)).foldl max 0))]) [(6, _), (4, _), (2, _), (1, _)] (fun k => [D1, E1, D]) 0 (by omega) ⟨(by first | rfl | (show some (Value.int _ _) = some (Value.int _ _); congr 2; omega)), (by first | rfl | (show some (Value.int _ _) = some (Value.int _ _); congr 2; omega)), trivial⟩ ⟨rfl, rfl, rfl, rfl, trivial⟩ (ds_same) ?_
  rintro k h1
  refine C.seq ?_
  refine C.seq ?_
  refine C.region [(false,0),(false,1),(false,2),(false,3)] rfl ?_
  refine L.move rfl rfl rfl trivial ?_
  refine L.move rfl rfl rfl trivial ?_
  refine L.len rfl Try.underlying49 rfl hps rfl rfl trivial ?_
  refine L.lss rfl rfl rfl rfl trivial ?_
  refine L.nil ?_
  refine C.next ?_
  refine C.condD rfl (fun hc1 => ?_) (fun hc1 => ?_)
  · have hk : k < ((prs y.chairs.length y.chairs.length 0).map pI).length := by omega
    obtain ⟨l0, hl1⟩ : ∃ l, ((prs y.chairs.length y.chairs.length 0).map pI)[k]? = some l := ⟨_, List.getElem?_eq_getElem hk⟩
    obtain ⟨l, hlm, rfl⟩ := List.mem_map.1 (List.mem_of_getElem? hl1)
    have hpi := prs_in hn7 rfl _ (List.mem_of_getElem? hl1)
    have hl7 := prs_short hn7 (Nat.le_refl _) hlm
    refine C.skip ?_
    refine C.next ?_
    refine C.seq ?_
    refine C.block ?_
    refine C.draw [] 4 [0,1,2,3,4,5,6,7,8,9] [false,true,true,true,true,true,true,true,false,false] [(false,0),(true,1),(true,2),(true,3),(true,4),(true,5),(true,6),(true,7),(false,8),(false,9)] Tf.follows (fun _ _ _ h => np_body (P := Try.prog) (fn := Try.f46) _ _ _ h) (by kernel_rfl) rfl ?_
    refine L.move rfl rfl rfl trivial ?_
    refine L.loadDW rfl Tf.a25 rfl hB1 (by first | simp | assumption) Tf.s25 List.not_mem_nil rfl trivial ?_
    refine L.move rfl rfl rfl trivial ?_
    refine L.move rfl rfl rfl trivial ?_
    refine L.move rfl rfl rfl trivial ?_
    refine L.indexS rfl Try.underlying49 Tf.s27 rfl hps rfl (by omega) hl1 rfl trivial (fun b1 o1 cs1 hr1 hcl1 hA1 => ?_)
    obtain ⟨w1, rfl, hw1⟩ := hr1
    refine L.loadD1 rfl (k := 0) Tf.a27 rfl hA1 (by first | simp | assumption) rfl List.not_mem_nil rfl trivial ?_
    refine L.callV rfl rfl rfl (fun D2 hD2 => SureR_ok _ _ _ y ns (pI l) _ (hy0.up (hD2 _ (by simp))) (hn.up RI.up (hD2 _ (by simp))) (hw1.up R2.up (hD2 _ (by simp))) hf hns hpi.1 (by omega)) rfl trivial ?_
    refine L.max2 rfl rfl rfl rfl trivial ?_
    refine L.assign rfl rfl rfl trivial ?_
    refine L.nil ?_
    refine C.blockEnd ?_
    refine C.next ?_
    refine C.region [(false,0),(false,1),(false,2)] rfl ?_
    refine L.move rfl rfl rfl trivial ?_
    refine L.add rfl rfl rfl (by simp only [inK]; omega) rfl trivial ?_
    refine L.assign rfl rfl rfl trivial ?_
    refine L.nil ?_
    exact C.againR 19 (k + 1) (by omega) (by omega) ⟨(by first | rfl | (show some (Value.int _ _) = some (Value.int _ _); congr 2; omega)), (by rw [surest_step hl1]; rfl), trivial⟩ rfl rfl (List.Sublist.refl _) (ds_same)
  · obtain rfl : k = ((prs y.chairs.length y.chairs.length 0).map pI).length := by omega
    rw [List.take_length]
    refine C.exit ?_
    refine C.thenExit ?_
    refine C.thenExit ?_
    refine C.blockExit ?_
    refine C.next ?_
    refine C.seq ?_
    refine C.region [(false,0),(false,1)] rfl ?_
    refine L.move rfl rfl rfl trivial ?_
    refine L.assign rfl rfl rfl trivial ?_
    refine L.nil ?_
    refine C.next ?_
    refine C.ret ?_
    exact leave (vs := [_]) rfl rfl rfl ⟨rfl, trivial⟩ (fun D hD => rfl)
end Go.Fs
