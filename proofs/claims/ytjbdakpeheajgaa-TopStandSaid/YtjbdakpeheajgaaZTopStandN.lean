/- Of the proof of TopStand: V25. -/
import Derived.Test.YtjbdakpeheajgaaZTopStandM
namespace Go.Fs
open Go.Proofs
open C3
theorem linC_cell1 {l : List Lin} : ∀ u ∈ linC l, cell1 u = true := fun u hu => by
  obtain ⟨x, _, hx⟩ := List.mem_flatMap.1 hu
  simp only [List.mem_cons, List.not_mem_nil, or_false] at hx
  rcases hx with rfl | rfl | rfl <;> rfl
structure HI (b : BookD) (xs ts : List Lin) (i : Nat) : Prop where
  lx : xs.length = i
  lt : ts.length = i
  lin : ∀ l ∈ ts, linIn b.chairs l
  ag : ∀ (k : Nat) z l, xs[k]? = some z → ts[k]? = some l → agreesB z l = true
  ps : possR ts ts.length = true
theorem HI.nil {b : BookD} : HI b [] [] 0 := ⟨rfl, rfl, (fun l h => by cases h), (fun k z l h => by simp at h), rfl⟩
theorem HI.add {b : BookD} {xs ts : List Lin} {i : Nat} {z x : Lin} (h : HI b xs ts i) (hz : agreesB z x = true) (hx : linIn b.chairs x ∧ possR (ts ++ [x]) (ts ++ [x]).length = true) : HI b (xs ++ [z]) (ts ++ [x]) (i + 1) := by
  refine ⟨by simp [h.lx], by simp [h.lt], fun l hl => ?_, fun k z' l h1 h2 => ?_, hx.2⟩
  · rcases List.mem_append.1 hl with hl | hl
    · exact h.lin l hl
    · obtain rfl : l = x := by simpa using hl
      exact hx.1
  · by_cases hk : k < i
    · rw [List.getElem?_append_left (by rw [h.lx]; exact hk)] at h1
      rw [List.getElem?_append_left (by rw [h.lt]; exact hk)] at h2
      exact h.ag k z' l h1 h2
    · rw [List.getElem?_append_right (by rw [h.lx]; omega), h.lx] at h1
      rw [List.getElem?_append_right (by rw [h.lt]; omega), h.lt] at h2
      have hk0 : k - i = 0 := by have := (List.getElem?_eq_some_iff.1 h1).1; simp at this; omega
      rw [hk0] at h1 h2
      obtain rfl : z = z' := by simpa using h1
      obtain rfl : x = l := by simpa using h2
      exact hz
theorem agr_ch {z x : Lin} (h : agreesB z x = true) : agreesB ⟨z.kind, -1, z.token⟩ x = true := by unfold agreesB at h ⊢; simp only [Bool.and_eq_true] at h ⊢; exact ⟨⟨h.1.1, by simp⟩, h.2⟩
theorem agr_tk {z x : Lin} (h : agreesB z x = true) : agreesB ⟨z.kind, z.chair, -1⟩ x = true := by unfold agreesB at h ⊢; simp only [Bool.and_eq_true] at h ⊢; exact ⟨⟨h.1.1, h.1.2⟩, by simp⟩
theorem agr_kd {z x : Lin} (h : agreesB z x = true) : agreesB ⟨0, z.chair, z.token⟩ x = true := by unfold agreesB at h ⊢; simp only [Bool.and_eq_true] at h ⊢; exact ⟨⟨by simp, h.1.2⟩, h.2⟩
theorem agr_self {x : Lin} : agreesB x x = true := by simp [agreesB]
def CanOk (b : BookD) (ts cl : List Lin) : Prop := ∀ l ∈ cl, linIn b.chairs l ∧ possR (ts ++ [l]) (ts ++ [l]).length = true
theorem CanOk.nil {b : BookD} {ts : List Lin} : CanOk b ts [] := fun l h => by cases h
theorem CanOk.add {b : BookD} {ts cl : List Lin} {l : Lin} (h : CanOk b ts cl) (h1 : linIn b.chairs l) (h2 : possR (ts ++ [l]) (ts ++ [l]).length = true) : CanOk b ts (cl ++ [l]) := fun u hu => by
  rcases List.mem_append.1 hu with hu | hu
  · exact h u hu
  · obtain rfl : u = l := by simpa using hu
    exact ⟨h1, h2⟩
theorem emod_lt {n : Int} {k : Nat} (h : 1 ≤ n) : 0 ≤ (k : Int) % n ∧ (k : Int) % n < n := ⟨Int.emod_nonneg _ (by omega), Int.emod_lt_of_pos _ (by omega)⟩
theorem ediv_lt {n : Int} {k : Nat} (hk : (k : Int) < n * n) (h : 1 ≤ n) : 0 ≤ (k : Int) / n ∧ (k : Int) / n < n := ⟨Int.ediv_nonneg (by omega) (by omega), Int.ediv_lt_of_lt_mul (by omega) hk⟩
theorem ln_ok {b : BookD} {kd k : Nat} (h2 : 1 + (kd : Int) ≤ 2) (hk : (k : Int) < b.chairs * b.chairs) (h : 1 ≤ b.chairs) : linIn b.chairs ⟨1 + (kd : Int), (k : Int) % b.chairs, (k : Int) / b.chairs⟩ := by
  have h3 := emod_lt (k := k) h
  have h4 := ediv_lt hk h
  unfold linIn
  simp only
  omega
def CntsOk (b : BookD) (t : List Lin) (cs : List Cn) : Prop := ∀ c ∈ cs, 0 ≤ c.after ∧ c.after ≤ (t.length : Int) ∧ c.lo ≤ monR b t c.after.toNat ∧ monR b t c.after.toNat ≤ c.hi
theorem CntsOk.nil {b : BookD} {t : List Lin} : CntsOk b t [] := fun c h => by cases h
theorem CntsOk.add {b : BookD} {t : List Lin} {cs : List Cn} {c : Cn} (h : CntsOk b t cs) (hc : 0 ≤ c.after ∧ c.after ≤ (t.length : Int) ∧ c.lo ≤ monR b t c.after.toNat ∧ monR b t c.after.toNat ≤ c.hi) : CntsOk b t (cs ++ [c]) := fun u hu => by
  rcases List.mem_append.1 hu with hu | hu
  · exact h u hu
  · obtain rfl : u = c := by simpa using hu
    exact hc
theorem cnt_ok {b : BookD} {t : List Lin} {an : Nat} {p q r : Int} (h : (decide (monR b t an ≥ 0) && decide (r ≤ 2000)) = true) (ha : an ≤ t.length) : 0 ≤ (an : Int) ∧ (an : Int) ≤ (t.length : Int) ∧ max 0 (monR b t an - p % 8) ≤ monR b t ((an : Int)).toNat ∧ monR b t ((an : Int)).toNat ≤ max 0 (monR b t an + q % 8) := by
  simp only [Bool.and_eq_true, decide_eq_true_eq] at h
  rw [Int.toNat_natCast]
  omega
theorem linC_last {xs : List Lin} {z x : Lin} {i : Nat} {J : List Value} (h : xs.length = i) : (linC (xs ++ [z]) ++ J).take (i * 3) ++ [.int .i64 x.kind, .int .i64 x.chair, .int .i64 x.token] ++ (linC (xs ++ [z]) ++ J).drop (i * 3 + 3) = linC (xs ++ [x]) ++ J := by
  have hl : (linC xs).length = i * 3 := by rw [linC_len, h]
  rw [linC_snoc, linC_snoc, List.append_assoc, List.append_assoc, List.take_append_of_le_length (by omega), List.take_of_length_le (by omega), List.drop_append, List.drop_eq_nil_of_le (by omega), List.nil_append, hl, show i * 3 + 3 - i * 3 = 3 by omega]
  simp
theorem linC_lastAt {ts : List Lin} {x : Lin} {i : Nat} {J : List Value} (h : ts.length = i) : ((linC (ts ++ [x]) ++ J).drop (i * 3)).take 3 = [.int .i64 x.kind, .int .i64 x.chair, .int .i64 x.token] := by
  have hl : (linC ts).length = i * 3 := by rw [linC_len, h]
  rw [linC_snoc, List.append_assoc, List.drop_append, List.drop_eq_nil_of_le (by omega), List.nil_append, hl, Nat.sub_self]; rfl
theorem acc_lastL {e : TypeId} {xs : List Lin} {z x : Lin} {J : List Value} {yb ycap i : Nat} (h : xs.length = i) (hc : i + 1 ≤ ycap) (h2 : (linC (xs ++ [z]) ++ J).length = ycap * 3) : Acc e 3 (.slice (some ⟨yb, 0, none⟩) (i + 1) ycap) (i + 1) (linC (xs ++ [x])) [(yb, .cells (linC (xs ++ [x]) ++ J).toArray e (0, 0))] := by
  refine Or.inr ⟨yb, ycap, J, rfl, hc, rfl, ?_, ?_⟩
  · rw [linC_len]; simp [h]
  · rw [List.length_append, linC_len] at h2 ⊢; simpa using h2
theorem sub_y {a b c d : Nat × Obj} {y x t : Boxes} : (c :: d :: (y ++ t)).Sublist (a :: b :: c :: d :: (y ++ (x ++ t))) := .cons _ (.cons _ (.cons_cons _ (.cons_cons _ (List.Sublist.append (List.Sublist.refl _) (List.sublist_append_right _ _)))))
theorem sub_can {a b : Nat × Obj} {x t c : Boxes} : (a :: b :: (x ++ t)).Sublist (a :: b :: (x ++ (t ++ c))) := .cons_cons _ (.cons_cons _ (List.Sublist.append (List.Sublist.refl _) (List.sublist_append_left _ _)))
def HiredR (b : BookD) (D' : Data) (v : Value) : Prop := ∃ (x : BookD) (t : List Lin) (bv tv : Value), v = .tuple #[bv, tv] ∧ BookIs D' bv x ∧ Sl D' RLin 3 tv t ∧ x.chairs = b.chairs ∧ x.coin = b.coin ∧ x.box = b.box ∧ HI b x.lines t t.length ∧ t.length ≤ 8 ∧ x.counts.length ≤ 3 ∧ CntsOk b t x.counts
set_option maxHeartbeats 4000000 in
theorem Hired_ok (bv wv : Value) (b : BookD) (ws : List Int) (D : Data) (hb : BookIs D bv b) (hw : Sl D (RK .u16) 1 wv ws) (hch : 1 ≤ b.chairs ∧ b.chairs ≤ 4) (hco : 1 ≤ b.coin ∧ b.coin ≤ 99) (hbx : 0 ≤ b.box ∧ b.box ≤ 999) : Fn Try.prog 6 #[bv, wv] D (fun D' v => HiredR b D' v) := by
  have hb0 := hb
  obtain ⟨lv, cv, rfl, hl, hc⟩ := hb
  have hnn : 1 ≤ b.chairs * b.chairs ∧ b.chairs * b.chairs ≤ 16 := by
    have h : b.chairs = 1 ∨ b.chairs = 2 ∨ b.chairs = 3 ∨ b.chairs = 4 := by omega
    rcases h with h | h | h | h <;> rw [h] <;> decide
  refine enter 175 Try.func6 rfl rfl rfl rfl fun h0 => ?_
  refine C.seq ?_
  refine C.region [(false,0),(false,1),(false,2)] rfl ?_
  refine L.boxD rfl rfl rfl rfl trivial (fun q1 E1 hE1 hB1 => ?_)
  refine L.alloc rfl Tf.z25 rfl rfl trivial (fun q2 => ?_)
  refine L.assign rfl rfl rfl trivial ?_
  refine L.nil ?_
  refine C.next ?_
  refine C.seq ?_
  refine C.region [(false,0),(false,1),(false,2)] rfl ?_
  refine L.loadDW rfl Tf.a25 rfl hB1 (by first | simp | assumption) Tf.s25 List.not_mem_nil rfl trivial ?_
  refine L.alloc rfl Tf.z25 rfl rfl trivial (fun q3 => ?_)
  refine L.storeW rfl rfl rfl rfl Tf.s25 (by first | rfl | (simp only [ints_length, *]; done) | (simp only [ints_length, *]; rfl) | (simp only [ints_length, *]; omega)) (by first | rfl | (simp only [ints_length, *]; done) | (simp only [ints_length, *]; rfl) | (simp only [ints_length, *]; omega)) (Has.head) (cell1_book hl.cell1 hc.cell1) trivial ?_
  refine L.nil ?_
  refine C.next ?_
  refine C.seq ?_
  refine C.region [(false,0),(false,1),(false,2),(false,3)] rfl ?_
  refine L.fieldAddr rfl Tf.f25_3 rfl rfl trivial ?_
  refine L.store rfl rfl rfl rfl Tf.s22 (Has.head) (by simp) rfl (by simp [cell1]) trivial ?_
  refine L.fieldAddr rfl Tf.f25_4 rfl rfl trivial ?_
  refine L.store rfl rfl rfl rfl Tf.s23 (Has.head) (by simp) rfl (by simp [cell1]) trivial ?_
  refine L.nil ?_
  refine C.next ?_
  refine C.seq ?_
  refine C.region [(false,0)] rfl ?_
  refine L.assign rfl rfl rfl trivial ?_
  refine L.nil ?_
  refine C.next ?_
  refine C.seqJ (γ := List Lin × List Lin × Value × Boxes × Value × Boxes) (fun g => ∃ i : Nat, i ≤ 8 ∧ HI b g.1 g.2.1 i ∧ Acc 68 3 g.2.2.1 i (linC g.1) g.2.2.2.1 ∧ Acc 68 3 g.2.2.2.2.1 i (linC g.2.1) g.2.2.2.2.2) (fun g => [(7, g.2.2.2.2.1), (6, .pointer (some ⟨q3, 0, none⟩)), (5, .slice none 0 0), (4, .pointer (some ⟨q2, 0, none⟩)), (2, .pointer (some ⟨q1, 0, none⟩)), (1, wv)]) (fun g => (q3, .cells [.int .i64 b.chairs, .int .i64 b.coin, .int .i64 b.box, g.2.2.1, .slice none 0 0].toArray 25 (0, 0)) :: (q2, .cells [.int .i64 0, .int .i64 0, .int .i64 0, .slice none 0 0, .slice none 0 0].toArray 25 (0, 0)) :: (g.2.2.2.1 ++ g.2.2.2.2.2)) (fun g => [E1, D]) ?_ ?_
  · refine C.seq ?_
    refine C.region [(false,0)] rfl ?_
    refine L.assign rfl rfl rfl trivial ?_
    refine L.nil ?_
    refine C.next ?_
    refine C.block ?_
    refine C.loopR (γ := Nat × List Lin × List Lin × Value × Boxes × Value × Boxes) (fun g => 8 - g.1) (fun g => g.1 ≤ 8 ∧ HI b g.2.1 g.2.2.1 g.1 ∧ Acc 68 3 g.2.2.2.1 g.1 (linC g.2.1) g.2.2.2.2.1 ∧ Acc 68 3 g.2.2.2.2.2.1 g.1 (linC g.2.2.1) g.2.2.2.2.2.2) (fun g => [(8, .int .i64 (g.1 : Int)), (7, g.2.2.2.2.2.1)]) [(6, _), (5, _), (4, _), (2, _), (1, _)] (fun g => (q3, .cells [.int .i64 b.chairs, .int .i64 b.coin, .int .i64 b.box, g.2.2.2.1, .slice none 0 0].toArray 25 (0, 0)) :: (q2, .cells [.int .i64 0, .int .i64 0, .int .i64 0, .slice none 0 0, .slice none 0 0].toArray 25 (0, 0)) :: (g.2.2.2.2.1 ++ g.2.2.2.2.2.2)) (fun g => [E1, D]) (0, [], [], .slice none 0 0, [], .slice none 0 0, []) ⟨by omega, HI.nil, Acc.nil, Acc.nil⟩ ⟨(by first | rfl | (show some (Value.int _ _) = some (Value.int _ _); congr 2; omega)), (by first | rfl | (show some (Value.int _ _) = some (Value.int _ _); congr 2; omega)), trivial⟩ ⟨rfl, rfl, rfl, rfl, rfl, trivial⟩ (List.Sublist.refl _) (ds_same) ?_
    rintro ⟨i, xs, ts, vx, νx, vt, νt⟩ ⟨h8, hI, hax, hat⟩
    simp only at h8 hI hax hat
    refine C.seq ?_
    refine C.seq ?_
    refine C.region [(false,0),(false,1),(false,2),(false,3),(false,4)] rfl ?_
    refine L.move rfl rfl rfl trivial ?_
    refine L.move rfl rfl rfl trivial ?_
    refine L.call rfl rfl rfl (fun D1 hD1 => word3_ok _ ws _ _ (hw.up RK.up (hD1 _ (by simp))) (by omega) (by omega)) rfl trivial (fun v1 D1 hD1 hp1 => ?_)
    obtain ⟨rfl, hwa1, hwb1⟩ := hp1
    refine L.rem rfl rfl rfl (by omega) (by omega) (by simp only [inK]; omega) rfl trivial ?_
    refine L.lss rfl rfl rfl rfl trivial ?_
    refine L.nil ?_
    refine C.next ?_
    refine C.condD rfl (fun hc1 => ?_) (fun hc1 => ?_)
    · refine C.skip ?_
      refine C.next ?_
      refine C.seq ?_
      refine C.block ?_
      refine C.seq ?_
      refine C.region [(false,0),(false,1),(false,2),(false,3),(false,4)] rfl ?_
      refine L.move rfl rfl rfl trivial ?_
      refine L.move rfl rfl rfl trivial ?_
      refine L.add rfl rfl rfl (by simp only [inK]; omega) rfl trivial ?_
      refine L.call rfl rfl rfl (fun D2 hD2 => word3_ok _ ws ((i : Int) + 1) _ (hw.up RK.up (hD2 _ (by simp))) (by omega) (by omega)) rfl trivial (fun v2 D2 hD2 hp2 => ?_)
      obtain ⟨rfl, hwa2, hwb2⟩ := hp2
      refine L.assign rfl rfl rfl trivial ?_
      refine L.nil ?_
      refine C.next ?_
      refine C.seq ?_
      refine C.region [(false,0)] rfl ?_
      refine L.assign rfl rfl rfl trivial ?_
      refine L.nil ?_
      refine C.next ?_
      refine C.seq ?_
      refine C.seq ?_
      refine C.region [(false,0)] rfl ?_
      refine L.assign rfl rfl rfl trivial ?_
      refine L.nil ?_
      refine C.next ?_
      refine C.block ?_
      refine C.loopR (γ := Nat × List Lin × Value × Boxes) (fun g => 2 - g.1) (fun g => g.1 ≤ 2 ∧ g.2.1.length ≤ g.1 * 16 ∧ CanOk b ts g.2.1 ∧ Acc 68 3 g.2.2.1 g.2.1.length (linC g.2.1) g.2.2.2) (fun g => [(11, .int .i64 (1 + (g.1 : Int))), (10, g.2.2.1)]) [(9, _), (33, _), (32, _), (31, _), (30, _), (27, _), (26, _), (25, _), (24, _), (23, _), (8, _), (7, _), (6, _), (5, _), (4, _), (2, _), (1, _)] (fun g => (q3, .cells [.int .i64 b.chairs, .int .i64 b.coin, .int .i64 b.box, vx, .slice none 0 0].toArray 25 (0, 0)) :: (q2, .cells [.int .i64 0, .int .i64 0, .int .i64 0, .slice none 0 0, .slice none 0 0].toArray 25 (0, 0)) :: (νx ++ (νt ++ g.2.2.2))) (fun g => [D2, D1, E1, D]) (0, [], .slice none 0 0, []) ⟨by omega, by simp, CanOk.nil, Acc.nil⟩ ⟨(by first | rfl | (show some (Value.int _ _) = some (Value.int _ _); congr 2; omega)), (by first | rfl | (show some (Value.int _ _) = some (Value.int _ _); congr 2; omega)), trivial⟩ ⟨rfl, rfl, rfl, rfl, rfl, rfl, rfl, rfl, rfl, rfl, rfl, rfl, rfl, rfl, rfl, rfl, rfl, trivial⟩ (by simp) (ds_same) ?_
      rintro ⟨kd, cl, vc, νc⟩ ⟨hk2, hcl, hcan, hcn⟩
      simp only at hk2 hcl hcan hcn
      refine C.seq ?_
      refine C.seq ?_
      refine C.region [(false,0),(false,1)] rfl ?_
      refine L.move rfl rfl rfl trivial ?_
      refine L.leq rfl rfl rfl rfl trivial ?_
      refine L.nil ?_
      refine C.next ?_
      refine C.condD rfl (fun hc2 => ?_) (fun hc2 => ?_)
      · refine C.skip ?_
        refine C.next ?_
        refine C.seq ?_
        refine C.block ?_
        refine C.seq ?_
        refine C.region [(false,0)] rfl ?_
        refine L.assign rfl rfl rfl trivial ?_
        refine L.nil ?_
        refine C.next ?_
        refine C.block ?_
        refine C.loopR (γ := Nat × List Lin × Value × Boxes) (fun g => 16 - g.1) (fun g => (g.1 : Int) ≤ b.chairs * b.chairs ∧ g.2.1.length ≤ kd * 16 + g.1 ∧ CanOk b ts g.2.1 ∧ Acc 68 3 g.2.2.1 g.2.1.length (linC g.2.1) g.2.2.2) (fun g => [(12, .int .i64 (g.1 : Int)), (10, g.2.2.1)]) [(35, _), (34, _), (11, _), (9, _), (33, _), (32, _), (31, _), (30, _), (27, _), (26, _), (25, _), (24, _), (23, _), (8, _), (7, _), (6, _), (5, _), (4, _), (2, _), (1, _)] (fun g => (q3, .cells [.int .i64 b.chairs, .int .i64 b.coin, .int .i64 b.box, vx, .slice none 0 0].toArray 25 (0, 0)) :: (q2, .cells [.int .i64 0, .int .i64 0, .int .i64 0, .slice none 0 0, .slice none 0 0].toArray 25 (0, 0)) :: (νx ++ (νt ++ g.2.2.2))) (fun g => [D2, D1, E1, D]) (0, cl, vc, νc) ⟨by simp only; omega, by simp only; omega, hcan, hcn⟩ ⟨(by first | rfl | (show some (Value.int _ _) = some (Value.int _ _); congr 2; omega)), (by first | rfl | (show some (Value.int _ _) = some (Value.int _ _); congr 2; omega)), trivial⟩ ⟨rfl, rfl, rfl, rfl, rfl, rfl, rfl, rfl, rfl, rfl, rfl, rfl, rfl, rfl, rfl, rfl, rfl, rfl, rfl, rfl, trivial⟩ (List.Sublist.refl _) (ds_same) ?_
        rintro ⟨k, cl, vc, νc⟩ ⟨hk3, hcl, hcan, hcn⟩
        simp only at hk3 hcl hcan hcn
        refine C.seq ?_
        refine C.seq ?_
        refine C.region [(false,0),(false,1),(false,2),(false,3),(false,4),(false,5),(false,6)] rfl ?_
        refine L.move rfl rfl rfl trivial ?_
        refine L.fieldAddr rfl Tf.f25_0 rfl rfl trivial ?_
        refine L.loadD1 rfl (k := 0) Tf.a3 rfl hB1 (by first | simp | assumption) rfl List.not_mem_nil rfl trivial ?_
        refine L.fieldAddr rfl Tf.f25_0 rfl rfl trivial ?_
        refine L.loadD1 rfl (k := 0) Tf.a3 rfl hB1 (by first | simp | assumption) rfl List.not_mem_nil rfl trivial ?_
        refine L.mul rfl rfl rfl (by simp only [inK]; omega) rfl trivial ?_
        refine L.lss rfl rfl rfl rfl trivial ?_
        refine L.nil ?_
        refine C.next ?_
        refine C.condD rfl (fun hc3 => ?_) (fun hc3 => ?_)
        · refine C.skip ?_
          refine C.next ?_
          refine C.seq ?_
          refine C.block ?_
          refine C.seq ?_
          refine C.draw [] 3 [0,1,2,3,4,5,6,7,8,9,10,11] [false,true,true,true,true,true,true,true,true,false,true,false] [(false,0),(true,1),(true,2),(true,3),(true,4),(true,5),(true,6),(true,7),(true,8),(false,9),(true,10),(false,11)] Tf.follows (fun _ _ _ h => np_body (P := Try.prog) (fn := Try.f6) _ _ _ h) (by kernel_rfl) rfl ?_
          refine L.move rfl rfl rfl trivial ?_
          refine L.move rfl rfl rfl trivial ?_
          refine L.fieldAddr rfl Tf.f25_0 rfl rfl trivial ?_
          refine L.loadD1 rfl (k := 0) Tf.a3 rfl hB1 (by first | simp | assumption) rfl List.not_mem_nil rfl trivial ?_
          refine L.rem rfl rfl rfl (by omega) (by omega) (by have := emod_lt (k := k) hch.1; simp only [inK]; omega) rfl trivial ?_
          refine L.move rfl rfl rfl trivial ?_
          refine L.fieldAddr rfl Tf.f25_0 rfl rfl trivial ?_
          refine L.loadD1 rfl (k := 0) Tf.a3 rfl hB1 (by first | simp | assumption) rfl List.not_mem_nil rfl trivial ?_
          refine L.quo rfl rfl rfl (by omega) (by omega) (by have := ediv_lt (k := k) hc3 hch.1; simp only [inK]; omega) rfl trivial ?_
          refine L.build (cs := [.int .i64 (1 + (kd : Int)), .int .i64 ((k : Int) % b.chairs), .int .i64 ((k : Int) / b.chairs)]) rfl Tf.p68 Tf.z68 rfl rfl rfl trivial ?_
          refine L.alloc rfl Tf.z68 rfl rfl trivial (fun q4 => ?_)
          refine L.storeW rfl rfl rfl rfl Tf.s68 (by first | rfl | (simp only [ints_length, *]; done) | (simp only [ints_length, *]; rfl) | (simp only [ints_length, *]; omega)) (by first | rfl | (simp only [ints_length, *]; done) | (simp only [ints_length, *]; rfl) | (simp only [ints_length, *]; omega)) (Has.head) (by first | exact ints_cell1 _ | simp [cell1]) trivial ?_
          refine L.nil ?_
          refine C.next ?_
          refine C.seq ?_
          refine C.drawS [] 3 [true,false,true,true,true,false,false] [.fork [1,3] 0 (.fork [] 2 (.fin [4]) 4 (.fin [2])) 4 (.fin [0,2]), .fin [5,6]] Tf.follows (fun _ _ _ h => np_body (P := Try.prog) (fn := Try.f6) _ _ _ h) (by kernel_rfl) ?_
          refine S.cons ?_
          refine L.planFork [(false,1),(true,3)] rfl ?_
          refine L.move rfl rfl rfl trivial ?_
          refine L.loadBW rfl Tf.a68 rfl (List.Mem.head _) Tf.s68 List.not_mem_nil rfl trivial ?_
          refine L.nil (L.forkP true true rfl rfl ?_ ?_)
          · refine L.buildSlice rfl Try.underlying22 Tf.s68 Tf.z68 rfl rfl rfl rfl .nil rfl trivial (fun b901 D901 hD901 hA901 => ?_)
            skip
            refine L.nil ?_
            refine L.planFork [] rfl ?_
            refine L.nil (L.forkP true true rfl rfl ?_ ?_)
            · refine L.appendO (A := []) (ν := []) (B := (_, _) :: (_, _) :: (_, _) :: (νx ++ (νt ++ νc))) rfl Try.underlying22 rfl rfl Tf.s68 Tf.z68 rfl Tf.i68 rfl rfl rfl Acc.nil hat (fun p hp => by simp [hp]) (by rw [linC_len, hI.lt]) rfl linC_cell1 (by omega) (Or.inr (by simp)) rfl trivial (fun v7 ν7 ha7 => ?_)
              refine L.boxesEq (ν7 ++ ((q4, .cells [.int .i64 (1 + (kd : Int)), .int .i64 ((k : Int) % b.chairs), .int .i64 ((k : Int) / b.chairs)].toArray 68 (0, 0)) :: (q3, .cells [.int .i64 b.chairs, .int .i64 b.coin, .int .i64 b.box, vx, .slice none 0 0].toArray 25 (0, 0)) :: (q2, .cells [.int .i64 0, .int .i64 0, .int .i64 0, .slice none 0 0, .slice none 0 0].toArray 25 (0, 0)) :: (νx ++ (νt ++ νc)))) (by simp) ?_
              replace ha7 : Acc 68 3 v7 i (linC ts) ν7 := by simpa using ha7
              refine L.nil ?_
              refine L.planFin [(true,4)] rfl ?_
              refine L.buildSlice rfl Try.underlying22 Tf.s68 Tf.z68 rfl rfl rfl rfl (.cons rfl rfl .nil) rfl trivial (fun b902 D902 hD902 hA902 => ?_)
              have hAl := hA902
              refine L.nil ?_
              refine S.fin [(false,5),(false,6)] rfl ?_
              refine L.boxesEq ([] ++ ν7 ++ ((q4, .cells [.int .i64 (1 + (kd : Int)), .int .i64 ((k : Int) % b.chairs), .int .i64 ((k : Int) / b.chairs)].toArray 68 (0, 0)) :: (q3, .cells [.int .i64 b.chairs, .int .i64 b.coin, .int .i64 b.box, vx, .slice none 0 0].toArray 25 (0, 0)) :: (q2, .cells [.int .i64 0, .int .i64 0, .int .i64 0, .slice none 0 0, .slice none 0 0].toArray 25 (0, 0)) :: (νx ++ (νt ++ νc)))) (by simp) ?_
              refine L.append (A := []) (ν := ν7) (B := ((_, _) :: (_, _) :: (_, _) :: (νx ++ (νt ++ νc)))) rfl Try.underlying22 rfl rfl Tf.s68 Tf.z68 rfl Tf.i68 rfl rfl rfl ha7 (Src.lit hAl) (by simp) rfl (by rw [linC_len, hI.lt]) (by simp [cell1]) (by omega) (Or.inl rfl) rfl trivial (fun v8 ν8 ha8 => ?_)
              refine L.boxesEq (ν8 ++ ((q4, .cells [.int .i64 (1 + (kd : Int)), .int .i64 ((k : Int) % b.chairs), .int .i64 ((k : Int) / b.chairs)].toArray 68 (0, 0)) :: (q3, .cells [.int .i64 b.chairs, .int .i64 b.coin, .int .i64 b.box, vx, .slice none 0 0].toArray 25 (0, 0)) :: (q2, .cells [.int .i64 0, .int .i64 0, .int .i64 0, .slice none 0 0, .slice none 0 0].toArray 25 (0, 0)) :: (νx ++ (νt ++ νc)))) (by simp) ?_
              replace ha8 : Acc 68 3 v8 (i + 1) (linC (ts ++ [⟨1 + (kd : Int), (k : Int) % b.chairs, (k : Int) / b.chairs⟩])) ν8 := by rw [linC_snoc]; simpa using ha8
              refine L.callAcc (A := []) (ν := ν8) (B := (_, _) :: (_, _) :: (_, _) :: (νx ++ (νt ++ νc))) (r := .bool (possR (ts ++ [(⟨1 + (kd : Int), (k : Int) % b.chairs, (k : Int) / b.chairs⟩ : Lin)]) (ts ++ [(⟨1 + (kd : Int), (k : Int) % b.chairs, (k : Int) / b.chairs⟩ : Lin)]).length)) rfl rfl rfl ha8 (fun D HD hF => isPoss_ok _ (ts ++ [(⟨1 + (kd : Int), (k : Int) % b.chairs, (k : Int) / b.chairs⟩ : Lin)]) _ (hF.lins (by rw [List.length_append, hI.lt]; rfl) (by omega)) (by rw [List.length_append, hI.lt, List.length_singleton]; omega)) rfl trivial ?_
              refine L.boxesEq (ν8 ++ ((q4, .cells [.int .i64 (1 + (kd : Int)), .int .i64 ((k : Int) % b.chairs), .int .i64 ((k : Int) / b.chairs)].toArray 68 (0, 0)) :: (q3, .cells [.int .i64 b.chairs, .int .i64 b.coin, .int .i64 b.box, vx, .slice none 0 0].toArray 25 (0, 0)) :: (q2, .cells [.int .i64 0, .int .i64 0, .int .i64 0, .slice none 0 0, .slice none 0 0].toArray 25 (0, 0)) :: (νx ++ (νt ++ νc)))) (by simp) ?_
              refine L.nil ?_
              refine S.nil ?_
              refine C.next ?_
              refine C.cond rfl (fun hc4 => ?_) (fun hc4 => ?_)
              · refine C.subB (μ' := (q4, .cells [.int .i64 (1 + (kd : Int)), .int .i64 ((k : Int) % b.chairs), .int .i64 ((k : Int) / b.chairs)].toArray 68 (0, 0)) :: (q3, .cells [.int .i64 b.chairs, .int .i64 b.coin, .int .i64 b.box, vx, .slice none 0 0].toArray 25 (0, 0)) :: (q2, .cells [.int .i64 0, .int .i64 0, .int .i64 0, .slice none 0 0, .slice none 0 0].toArray 25 (0, 0)) :: (νx ++ (νt ++ νc))) (List.sublist_append_right _ _) ?_
                refine C.region [(false,0),(false,1),(false,2),(false,3),(false,4)] rfl ?_
                refine L.move rfl rfl rfl trivial ?_
                refine L.loadBW rfl Tf.a68 rfl (List.Mem.head _) Tf.s68 List.not_mem_nil rfl trivial ?_
                refine L.buildSlice rfl Try.underlying22 Tf.s68 Tf.z68 rfl rfl rfl rfl (.cons rfl rfl .nil) rfl trivial (fun b903 D903 hD903 hA903 => ?_)
                have hAl := hA903
                refine L.boxesEq (((q4, .cells [.int .i64 (1 + (kd : Int)), .int .i64 ((k : Int) % b.chairs), .int .i64 ((k : Int) / b.chairs)].toArray 68 (0, 0)) :: (q3, .cells [.int .i64 b.chairs, .int .i64 b.coin, .int .i64 b.box, vx, .slice none 0 0].toArray 25 (0, 0)) :: (q2, .cells [.int .i64 0, .int .i64 0, .int .i64 0, .slice none 0 0, .slice none 0 0].toArray 25 (0, 0)) :: (νx ++ νt)) ++ νc ++ []) (by simp) ?_
                refine L.append (A := ((_, _) :: (_, _) :: (_, _) :: (νx ++ νt))) (ν := νc) (B := []) rfl Try.underlying22 rfl rfl Tf.s68 Tf.z68 rfl Tf.i68 rfl rfl rfl hcn (Src.lit hAl) (by simp) rfl (linC_len _) (by simp [cell1]) (by omega) (Or.inl rfl) rfl trivial (fun v9 ν9 ha9 => ?_)
                refine L.boxesEq ((q4, .cells [.int .i64 (1 + (kd : Int)), .int .i64 ((k : Int) % b.chairs), .int .i64 ((k : Int) / b.chairs)].toArray 68 (0, 0)) :: (q3, .cells [.int .i64 b.chairs, .int .i64 b.coin, .int .i64 b.box, vx, .slice none 0 0].toArray 25 (0, 0)) :: (q2, .cells [.int .i64 0, .int .i64 0, .int .i64 0, .slice none 0 0, .slice none 0 0].toArray 25 (0, 0)) :: (νx ++ (νt ++ ν9))) (by simp) ?_
                have hn9 : Acc 68 3 v9 (cl ++ [(⟨1 + (kd : Int), (k : Int) % b.chairs, (k : Int) / b.chairs⟩ : Lin)]).length (linC (cl ++ [⟨1 + (kd : Int), (k : Int) % b.chairs, (k : Int) / b.chairs⟩])) ν9 := by rw [linC_snoc]; simpa using ha9
                refine L.assign rfl rfl rfl trivial ?_
                refine L.nil ?_
                refine C.blockEnd ?_
                refine C.next ?_
                refine C.region [(false,0),(false,1),(false,2)] rfl ?_
                refine L.move rfl rfl rfl trivial ?_
                refine L.add rfl rfl rfl (by simp only [inK]; omega) rfl trivial ?_
                refine L.assign rfl rfl rfl trivial ?_
                refine L.nil ?_
                exact C.againR 35 (k + 1, cl ++ [⟨1 + (kd : Int), (k : Int) % b.chairs, (k : Int) / b.chairs⟩], v9, ν9) ⟨by simp only; omega, by simp only [List.length_append, List.length_singleton]; omega, hcan.add (ln_ok hc2 hc3 hch.1) hc4, hn9⟩ (by simp only; omega) ⟨(by first | rfl | (show some (Value.int _ _) = some (Value.int _ _); congr 2; omega)), (by first | rfl | (show some (Value.int _ _) = some (Value.int _ _); congr 2; omega)), trivial⟩ rfl rfl (.cons _ (List.Sublist.refl _)) (fun D h => ⟨D, List.Mem.tail _ (List.Mem.tail _ (List.Mem.tail _ (h))), Le.refl D⟩)
              · refine C.skip ?_
                refine C.blockEnd ?_
                refine C.next ?_
                refine C.subB (μ' := (q4, .cells [.int .i64 (1 + (kd : Int)), .int .i64 ((k : Int) % b.chairs), .int .i64 ((k : Int) / b.chairs)].toArray 68 (0, 0)) :: (q3, .cells [.int .i64 b.chairs, .int .i64 b.coin, .int .i64 b.box, vx, .slice none 0 0].toArray 25 (0, 0)) :: (q2, .cells [.int .i64 0, .int .i64 0, .int .i64 0, .slice none 0 0, .slice none 0 0].toArray 25 (0, 0)) :: (νx ++ (νt ++ νc))) (List.sublist_append_right _ _) ?_
                refine C.region [(false,0),(false,1),(false,2)] rfl ?_
                refine L.move rfl rfl rfl trivial ?_
                refine L.add rfl rfl rfl (by simp only [inK]; omega) rfl trivial ?_
                refine L.assign rfl rfl rfl trivial ?_
                refine L.nil ?_
                exact C.againR 30 (k + 1, cl, vc, νc) ⟨by simp only; omega, by simp only; omega, hcan, hcn⟩ (by simp only; omega) ⟨(by first | rfl | (show some (Value.int _ _) = some (Value.int _ _); congr 2; omega)), (by first | rfl | (show some (Value.int _ _) = some (Value.int _ _); congr 2; omega)), trivial⟩ rfl rfl (.cons _ (List.Sublist.refl _)) (fun D h => ⟨D, List.Mem.tail _ (List.Mem.tail _ (h)), Le.refl D⟩)
            · refine L.buildSlice rfl Try.underlying22 Tf.s68 Tf.z68 rfl rfl rfl rfl (.cons rfl rfl .nil) rfl trivial (fun b902 D902 hD902 hA902 => ?_)
              have hAl := hA902
              refine L.nil ?_
              refine L.planFin [(true,2)] rfl ?_
              refine L.appendO (A := []) (ν := []) (B := (_, _) :: (_, _) :: (_, _) :: (νx ++ (νt ++ νc))) rfl Try.underlying22 rfl rfl Tf.s68 Tf.z68 rfl Tf.i68 rfl rfl rfl Acc.nil hat (fun p hp => by simp [hp]) (by rw [linC_len, hI.lt]) rfl linC_cell1 (by omega) (Or.inr (by simp)) rfl trivial (fun v7 ν7 ha7 => ?_)
              refine L.boxesEq (ν7 ++ ((q4, .cells [.int .i64 (1 + (kd : Int)), .int .i64 ((k : Int) % b.chairs), .int .i64 ((k : Int) / b.chairs)].toArray 68 (0, 0)) :: (q3, .cells [.int .i64 b.chairs, .int .i64 b.coin, .int .i64 b.box, vx, .slice none 0 0].toArray 25 (0, 0)) :: (q2, .cells [.int .i64 0, .int .i64 0, .int .i64 0, .slice none 0 0, .slice none 0 0].toArray 25 (0, 0)) :: (νx ++ (νt ++ νc)))) (by simp) ?_
              replace ha7 : Acc 68 3 v7 i (linC ts) ν7 := by simpa using ha7
              refine L.nil ?_
              refine S.fin [(false,5),(false,6)] rfl ?_
              refine L.boxesEq ([] ++ ν7 ++ ((q4, .cells [.int .i64 (1 + (kd : Int)), .int .i64 ((k : Int) % b.chairs), .int .i64 ((k : Int) / b.chairs)].toArray 68 (0, 0)) :: (q3, .cells [.int .i64 b.chairs, .int .i64 b.coin, .int .i64 b.box, vx, .slice none 0 0].toArray 25 (0, 0)) :: (q2, .cells [.int .i64 0, .int .i64 0, .int .i64 0, .slice none 0 0, .slice none 0 0].toArray 25 (0, 0)) :: (νx ++ (νt ++ νc)))) (by simp) ?_
              refine L.append (A := []) (ν := ν7) (B := ((_, _) :: (_, _) :: (_, _) :: (νx ++ (νt ++ νc)))) rfl Try.underlying22 rfl rfl Tf.s68 Tf.z68 rfl Tf.i68 rfl rfl rfl ha7 (Src.lit hAl) (by simp) rfl (by rw [linC_len, hI.lt]) (by simp [cell1]) (by omega) (Or.inl rfl) rfl trivial (fun v8 ν8 ha8 => ?_)
              refine L.boxesEq (ν8 ++ ((q4, .cells [.int .i64 (1 + (kd : Int)), .int .i64 ((k : Int) % b.chairs), .int .i64 ((k : Int) / b.chairs)].toArray 68 (0, 0)) :: (q3, .cells [.int .i64 b.chairs, .int .i64 b.coin, .int .i64 b.box, vx, .slice none 0 0].toArray 25 (0, 0)) :: (q2, .cells [.int .i64 0, .int .i64 0, .int .i64 0, .slice none 0 0, .slice none 0 0].toArray 25 (0, 0)) :: (νx ++ (νt ++ νc)))) (by simp) ?_
              replace ha8 : Acc 68 3 v8 (i + 1) (linC (ts ++ [⟨1 + (kd : Int), (k : Int) % b.chairs, (k : Int) / b.chairs⟩])) ν8 := by rw [linC_snoc]; simpa using ha8
              refine L.callAcc (A := []) (ν := ν8) (B := (_, _) :: (_, _) :: (_, _) :: (νx ++ (νt ++ νc))) (r := .bool (possR (ts ++ [(⟨1 + (kd : Int), (k : Int) % b.chairs, (k : Int) / b.chairs⟩ : Lin)]) (ts ++ [(⟨1 + (kd : Int), (k : Int) % b.chairs, (k : Int) / b.chairs⟩ : Lin)]).length)) rfl rfl rfl ha8 (fun D HD hF => isPoss_ok _ (ts ++ [(⟨1 + (kd : Int), (k : Int) % b.chairs, (k : Int) / b.chairs⟩ : Lin)]) _ (hF.lins (by rw [List.length_append, hI.lt]; rfl) (by omega)) (by rw [List.length_append, hI.lt, List.length_singleton]; omega)) rfl trivial ?_
              refine L.boxesEq (ν8 ++ ((q4, .cells [.int .i64 (1 + (kd : Int)), .int .i64 ((k : Int) % b.chairs), .int .i64 ((k : Int) / b.chairs)].toArray 68 (0, 0)) :: (q3, .cells [.int .i64 b.chairs, .int .i64 b.coin, .int .i64 b.box, vx, .slice none 0 0].toArray 25 (0, 0)) :: (q2, .cells [.int .i64 0, .int .i64 0, .int .i64 0, .slice none 0 0, .slice none 0 0].toArray 25 (0, 0)) :: (νx ++ (νt ++ νc)))) (by simp) ?_
              refine L.nil ?_
              refine S.nil ?_
              refine C.next ?_
              refine C.cond rfl (fun hc4 => ?_) (fun hc4 => ?_)
              · refine C.subB (μ' := (q4, .cells [.int .i64 (1 + (kd : Int)), .int .i64 ((k : Int) % b.chairs), .int .i64 ((k : Int) / b.chairs)].toArray 68 (0, 0)) :: (q3, .cells [.int .i64 b.chairs, .int .i64 b.coin, .int .i64 b.box, vx, .slice none 0 0].toArray 25 (0, 0)) :: (q2, .cells [.int .i64 0, .int .i64 0, .int .i64 0, .slice none 0 0, .slice none 0 0].toArray 25 (0, 0)) :: (νx ++ (νt ++ νc))) (List.sublist_append_right _ _) ?_
                refine C.region [(false,0),(false,1),(false,2),(false,3),(false,4)] rfl ?_
                refine L.move rfl rfl rfl trivial ?_
                refine L.loadBW rfl Tf.a68 rfl (List.Mem.head _) Tf.s68 List.not_mem_nil rfl trivial ?_
                refine L.buildSlice rfl Try.underlying22 Tf.s68 Tf.z68 rfl rfl rfl rfl (.cons rfl rfl .nil) rfl trivial (fun b903 D903 hD903 hA903 => ?_)
                have hAl := hA903
                refine L.boxesEq (((q4, .cells [.int .i64 (1 + (kd : Int)), .int .i64 ((k : Int) % b.chairs), .int .i64 ((k : Int) / b.chairs)].toArray 68 (0, 0)) :: (q3, .cells [.int .i64 b.chairs, .int .i64 b.coin, .int .i64 b.box, vx, .slice none 0 0].toArray 25 (0, 0)) :: (q2, .cells [.int .i64 0, .int .i64 0, .int .i64 0, .slice none 0 0, .slice none 0 0].toArray 25 (0, 0)) :: (νx ++ νt)) ++ νc ++ []) (by simp) ?_
                refine L.append (A := ((_, _) :: (_, _) :: (_, _) :: (νx ++ νt))) (ν := νc) (B := []) rfl Try.underlying22 rfl rfl Tf.s68 Tf.z68 rfl Tf.i68 rfl rfl rfl hcn (Src.lit hAl) (by simp) rfl (linC_len _) (by simp [cell1]) (by omega) (Or.inl rfl) rfl trivial (fun v9 ν9 ha9 => ?_)
                refine L.boxesEq ((q4, .cells [.int .i64 (1 + (kd : Int)), .int .i64 ((k : Int) % b.chairs), .int .i64 ((k : Int) / b.chairs)].toArray 68 (0, 0)) :: (q3, .cells [.int .i64 b.chairs, .int .i64 b.coin, .int .i64 b.box, vx, .slice none 0 0].toArray 25 (0, 0)) :: (q2, .cells [.int .i64 0, .int .i64 0, .int .i64 0, .slice none 0 0, .slice none 0 0].toArray 25 (0, 0)) :: (νx ++ (νt ++ ν9))) (by simp) ?_
                have hn9 : Acc 68 3 v9 (cl ++ [(⟨1 + (kd : Int), (k : Int) % b.chairs, (k : Int) / b.chairs⟩ : Lin)]).length (linC (cl ++ [⟨1 + (kd : Int), (k : Int) % b.chairs, (k : Int) / b.chairs⟩])) ν9 := by rw [linC_snoc]; simpa using ha9
                refine L.assign rfl rfl rfl trivial ?_
                refine L.nil ?_
                refine C.blockEnd ?_
                refine C.next ?_
                refine C.region [(false,0),(false,1),(false,2)] rfl ?_
                refine L.move rfl rfl rfl trivial ?_
                refine L.add rfl rfl rfl (by simp only [inK]; omega) rfl trivial ?_
                refine L.assign rfl rfl rfl trivial ?_
                refine L.nil ?_
                exact C.againR 35 (k + 1, cl ++ [⟨1 + (kd : Int), (k : Int) % b.chairs, (k : Int) / b.chairs⟩], v9, ν9) ⟨by simp only; omega, by simp only [List.length_append, List.length_singleton]; omega, hcan.add (ln_ok hc2 hc3 hch.1) hc4, hn9⟩ (by simp only; omega) ⟨(by first | rfl | (show some (Value.int _ _) = some (Value.int _ _); congr 2; omega)), (by first | rfl | (show some (Value.int _ _) = some (Value.int _ _); congr 2; omega)), trivial⟩ rfl rfl (.cons _ (List.Sublist.refl _)) (fun D h => ⟨D, List.Mem.tail _ (List.Mem.tail _ (List.Mem.tail _ (h))), Le.refl D⟩)
              · refine C.skip ?_
                refine C.blockEnd ?_
                refine C.next ?_
                refine C.subB (μ' := (q4, .cells [.int .i64 (1 + (kd : Int)), .int .i64 ((k : Int) % b.chairs), .int .i64 ((k : Int) / b.chairs)].toArray 68 (0, 0)) :: (q3, .cells [.int .i64 b.chairs, .int .i64 b.coin, .int .i64 b.box, vx, .slice none 0 0].toArray 25 (0, 0)) :: (q2, .cells [.int .i64 0, .int .i64 0, .int .i64 0, .slice none 0 0, .slice none 0 0].toArray 25 (0, 0)) :: (νx ++ (νt ++ νc))) (List.sublist_append_right _ _) ?_
                refine C.region [(false,0),(false,1),(false,2)] rfl ?_
                refine L.move rfl rfl rfl trivial ?_
                refine L.add rfl rfl rfl (by simp only [inK]; omega) rfl trivial ?_
                refine L.assign rfl rfl rfl trivial ?_
                refine L.nil ?_
                exact C.againR 30 (k + 1, cl, vc, νc) ⟨by simp only; omega, by simp only; omega, hcan, hcn⟩ (by simp only; omega) ⟨(by first | rfl | (show some (Value.int _ _) = some (Value.int _ _); congr 2; omega)), (by first | rfl | (show some (Value.int _ _) = some (Value.int _ _); congr 2; omega)), trivial⟩ rfl rfl (.cons _ (List.Sublist.refl _)) (fun D h => ⟨D, List.Mem.tail _ (List.Mem.tail _ (h)), Le.refl D⟩)
          · refine L.buildSlice rfl Try.underlying22 Tf.s68 Tf.z68 rfl rfl rfl rfl (.cons rfl rfl .nil) rfl trivial (fun b901 D901 hD901 hA901 => ?_)
            have hAl := hA901
            refine L.nil ?_
            refine L.planFin [(true,0),(true,2)] rfl ?_
            refine L.buildSlice rfl Try.underlying22 Tf.s68 Tf.z68 rfl rfl rfl rfl .nil rfl trivial (fun b902 D902 hD902 hA902 => ?_)
            skip
            refine L.appendO (A := []) (ν := []) (B := (_, _) :: (_, _) :: (_, _) :: (νx ++ (νt ++ νc))) rfl Try.underlying22 rfl rfl Tf.s68 Tf.z68 rfl Tf.i68 rfl rfl rfl Acc.nil hat (fun p hp => by simp [hp]) (by rw [linC_len, hI.lt]) rfl linC_cell1 (by omega) (Or.inr (by simp)) rfl trivial (fun v7 ν7 ha7 => ?_)
            refine L.boxesEq (ν7 ++ ((q4, .cells [.int .i64 (1 + (kd : Int)), .int .i64 ((k : Int) % b.chairs), .int .i64 ((k : Int) / b.chairs)].toArray 68 (0, 0)) :: (q3, .cells [.int .i64 b.chairs, .int .i64 b.coin, .int .i64 b.box, vx, .slice none 0 0].toArray 25 (0, 0)) :: (q2, .cells [.int .i64 0, .int .i64 0, .int .i64 0, .slice none 0 0, .slice none 0 0].toArray 25 (0, 0)) :: (νx ++ (νt ++ νc)))) (by simp) ?_
            replace ha7 : Acc 68 3 v7 i (linC ts) ν7 := by simpa using ha7
            refine L.nil ?_
            refine S.fin [(false,5),(false,6)] rfl ?_
            refine L.boxesEq ([] ++ ν7 ++ ((q4, .cells [.int .i64 (1 + (kd : Int)), .int .i64 ((k : Int) % b.chairs), .int .i64 ((k : Int) / b.chairs)].toArray 68 (0, 0)) :: (q3, .cells [.int .i64 b.chairs, .int .i64 b.coin, .int .i64 b.box, vx, .slice none 0 0].toArray 25 (0, 0)) :: (q2, .cells [.int .i64 0, .int .i64 0, .int .i64 0, .slice none 0 0, .slice none 0 0].toArray 25 (0, 0)) :: (νx ++ (νt ++ νc)))) (by simp) ?_
            refine L.append (A := []) (ν := ν7) (B := ((_, _) :: (_, _) :: (_, _) :: (νx ++ (νt ++ νc)))) rfl Try.underlying22 rfl rfl Tf.s68 Tf.z68 rfl Tf.i68 rfl rfl rfl ha7 (Src.lit hAl) (by simp) rfl (by rw [linC_len, hI.lt]) (by simp [cell1]) (by omega) (Or.inl rfl) rfl trivial (fun v8 ν8 ha8 => ?_)
            refine L.boxesEq (ν8 ++ ((q4, .cells [.int .i64 (1 + (kd : Int)), .int .i64 ((k : Int) % b.chairs), .int .i64 ((k : Int) / b.chairs)].toArray 68 (0, 0)) :: (q3, .cells [.int .i64 b.chairs, .int .i64 b.coin, .int .i64 b.box, vx, .slice none 0 0].toArray 25 (0, 0)) :: (q2, .cells [.int .i64 0, .int .i64 0, .int .i64 0, .slice none 0 0, .slice none 0 0].toArray 25 (0, 0)) :: (νx ++ (νt ++ νc)))) (by simp) ?_
            replace ha8 : Acc 68 3 v8 (i + 1) (linC (ts ++ [⟨1 + (kd : Int), (k : Int) % b.chairs, (k : Int) / b.chairs⟩])) ν8 := by rw [linC_snoc]; simpa using ha8
            refine L.callAcc (A := []) (ν := ν8) (B := (_, _) :: (_, _) :: (_, _) :: (νx ++ (νt ++ νc))) (r := .bool (possR (ts ++ [(⟨1 + (kd : Int), (k : Int) % b.chairs, (k : Int) / b.chairs⟩ : Lin)]) (ts ++ [(⟨1 + (kd : Int), (k : Int) % b.chairs, (k : Int) / b.chairs⟩ : Lin)]).length)) rfl rfl rfl ha8 (fun D HD hF => isPoss_ok _ (ts ++ [(⟨1 + (kd : Int), (k : Int) % b.chairs, (k : Int) / b.chairs⟩ : Lin)]) _ (hF.lins (by rw [List.length_append, hI.lt]; rfl) (by omega)) (by rw [List.length_append, hI.lt, List.length_singleton]; omega)) rfl trivial ?_
            refine L.boxesEq (ν8 ++ ((q4, .cells [.int .i64 (1 + (kd : Int)), .int .i64 ((k : Int) % b.chairs), .int .i64 ((k : Int) / b.chairs)].toArray 68 (0, 0)) :: (q3, .cells [.int .i64 b.chairs, .int .i64 b.coin, .int .i64 b.box, vx, .slice none 0 0].toArray 25 (0, 0)) :: (q2, .cells [.int .i64 0, .int .i64 0, .int .i64 0, .slice none 0 0, .slice none 0 0].toArray 25 (0, 0)) :: (νx ++ (νt ++ νc)))) (by simp) ?_
            refine L.nil ?_
            refine S.nil ?_
            refine C.next ?_
            refine C.cond rfl (fun hc4 => ?_) (fun hc4 => ?_)
            · refine C.subB (μ' := (q4, .cells [.int .i64 (1 + (kd : Int)), .int .i64 ((k : Int) % b.chairs), .int .i64 ((k : Int) / b.chairs)].toArray 68 (0, 0)) :: (q3, .cells [.int .i64 b.chairs, .int .i64 b.coin, .int .i64 b.box, vx, .slice none 0 0].toArray 25 (0, 0)) :: (q2, .cells [.int .i64 0, .int .i64 0, .int .i64 0, .slice none 0 0, .slice none 0 0].toArray 25 (0, 0)) :: (νx ++ (νt ++ νc))) (List.sublist_append_right _ _) ?_
              refine C.region [(false,0),(false,1),(false,2),(false,3),(false,4)] rfl ?_
              refine L.move rfl rfl rfl trivial ?_
              refine L.loadBW rfl Tf.a68 rfl (List.Mem.head _) Tf.s68 List.not_mem_nil rfl trivial ?_
              refine L.buildSlice rfl Try.underlying22 Tf.s68 Tf.z68 rfl rfl rfl rfl (.cons rfl rfl .nil) rfl trivial (fun b903 D903 hD903 hA903 => ?_)
              have hAl := hA903
              refine L.boxesEq (((q4, .cells [.int .i64 (1 + (kd : Int)), .int .i64 ((k : Int) % b.chairs), .int .i64 ((k : Int) / b.chairs)].toArray 68 (0, 0)) :: (q3, .cells [.int .i64 b.chairs, .int .i64 b.coin, .int .i64 b.box, vx, .slice none 0 0].toArray 25 (0, 0)) :: (q2, .cells [.int .i64 0, .int .i64 0, .int .i64 0, .slice none 0 0, .slice none 0 0].toArray 25 (0, 0)) :: (νx ++ νt)) ++ νc ++ []) (by simp) ?_
              refine L.append (A := ((_, _) :: (_, _) :: (_, _) :: (νx ++ νt))) (ν := νc) (B := []) rfl Try.underlying22 rfl rfl Tf.s68 Tf.z68 rfl Tf.i68 rfl rfl rfl hcn (Src.lit hAl) (by simp) rfl (linC_len _) (by simp [cell1]) (by omega) (Or.inl rfl) rfl trivial (fun v9 ν9 ha9 => ?_)
              refine L.boxesEq ((q4, .cells [.int .i64 (1 + (kd : Int)), .int .i64 ((k : Int) % b.chairs), .int .i64 ((k : Int) / b.chairs)].toArray 68 (0, 0)) :: (q3, .cells [.int .i64 b.chairs, .int .i64 b.coin, .int .i64 b.box, vx, .slice none 0 0].toArray 25 (0, 0)) :: (q2, .cells [.int .i64 0, .int .i64 0, .int .i64 0, .slice none 0 0, .slice none 0 0].toArray 25 (0, 0)) :: (νx ++ (νt ++ ν9))) (by simp) ?_
              have hn9 : Acc 68 3 v9 (cl ++ [(⟨1 + (kd : Int), (k : Int) % b.chairs, (k : Int) / b.chairs⟩ : Lin)]).length (linC (cl ++ [⟨1 + (kd : Int), (k : Int) % b.chairs, (k : Int) / b.chairs⟩])) ν9 := by rw [linC_snoc]; simpa using ha9
              refine L.assign rfl rfl rfl trivial ?_
              refine L.nil ?_
              refine C.blockEnd ?_
              refine C.next ?_
              refine C.region [(false,0),(false,1),(false,2)] rfl ?_
              refine L.move rfl rfl rfl trivial ?_
              refine L.add rfl rfl rfl (by simp only [inK]; omega) rfl trivial ?_
              refine L.assign rfl rfl rfl trivial ?_
              refine L.nil ?_
              exact C.againR 35 (k + 1, cl ++ [⟨1 + (kd : Int), (k : Int) % b.chairs, (k : Int) / b.chairs⟩], v9, ν9) ⟨by simp only; omega, by simp only [List.length_append, List.length_singleton]; omega, hcan.add (ln_ok hc2 hc3 hch.1) hc4, hn9⟩ (by simp only; omega) ⟨(by first | rfl | (show some (Value.int _ _) = some (Value.int _ _); congr 2; omega)), (by first | rfl | (show some (Value.int _ _) = some (Value.int _ _); congr 2; omega)), trivial⟩ rfl rfl (.cons _ (List.Sublist.refl _)) (fun D h => ⟨D, List.Mem.tail _ (List.Mem.tail _ (List.Mem.tail _ (h))), Le.refl D⟩)
            · refine C.skip ?_
              refine C.blockEnd ?_
              refine C.next ?_
              refine C.subB (μ' := (q4, .cells [.int .i64 (1 + (kd : Int)), .int .i64 ((k : Int) % b.chairs), .int .i64 ((k : Int) / b.chairs)].toArray 68 (0, 0)) :: (q3, .cells [.int .i64 b.chairs, .int .i64 b.coin, .int .i64 b.box, vx, .slice none 0 0].toArray 25 (0, 0)) :: (q2, .cells [.int .i64 0, .int .i64 0, .int .i64 0, .slice none 0 0, .slice none 0 0].toArray 25 (0, 0)) :: (νx ++ (νt ++ νc))) (List.sublist_append_right _ _) ?_
              refine C.region [(false,0),(false,1),(false,2)] rfl ?_
              refine L.move rfl rfl rfl trivial ?_
              refine L.add rfl rfl rfl (by simp only [inK]; omega) rfl trivial ?_
              refine L.assign rfl rfl rfl trivial ?_
              refine L.nil ?_
              exact C.againR 30 (k + 1, cl, vc, νc) ⟨by simp only; omega, by simp only; omega, hcan, hcn⟩ (by simp only; omega) ⟨(by first | rfl | (show some (Value.int _ _) = some (Value.int _ _); congr 2; omega)), (by first | rfl | (show some (Value.int _ _) = some (Value.int _ _); congr 2; omega)), trivial⟩ rfl rfl (.cons _ (List.Sublist.refl _)) (fun D h => ⟨D, List.Mem.tail _ (List.Mem.tail _ (h)), Le.refl D⟩)
        · refine C.exit ?_
          refine C.thenExit ?_
          refine C.thenExit ?_
          refine C.blockExit ?_
          refine C.blockEnd ?_
          refine C.next ?_
          refine C.region [(false,0),(false,1),(false,2)] rfl ?_
          refine L.move rfl rfl rfl trivial ?_
          refine L.add rfl rfl rfl (by simp only [inK]; omega) rfl trivial ?_
          refine L.assign rfl rfl rfl trivial ?_
          refine L.nil ?_
          exact C.againR 15 (kd + 1, cl, vc, νc) ⟨by simp only; omega, by simp only; omega, hcan, hcn⟩ (by simp only; omega) ⟨(by first | rfl | (show some (Value.int _ _) = some (Value.int _ _); congr 2; omega)), (by first | rfl | (show some (Value.int _ _) = some (Value.int _ _); congr 2; omega)), trivial⟩ rfl rfl (List.Sublist.refl _) (ds_same)
      · refine C.exit ?_
        refine C.thenExit ?_
        refine C.thenExit ?_
        refine C.blockExit ?_
        refine C.next ?_
        refine C.seq ?_
        refine C.seq ?_
        refine C.region [(false,0),(false,1),(false,2)] rfl ?_
        refine L.move rfl rfl rfl trivial ?_
        refine L.lenAcc rfl Try.underlying22 rfl hcn rfl rfl trivial ?_
        refine L.eql rfl rfl rfl rfl trivial ?_
        refine L.nil ?_
        refine C.next ?_
        refine C.condD rfl (fun hc5 => ?_) (fun hc5 => ?_)
        · refine C.exit ?_
          refine C.thenExit ?_
          refine C.blockPass rfl ?_
          refine C.thenExit ?_
          refine C.thenExit ?_
          refine C.blockExit ?_
          refine C.nextJ ?_
          exact fun a w hh => ⟨(xs, ts, vx, νx, vt, νt), ⟨i, by omega, hI, hax, hat⟩, hh.weak ⟨rfl, rfl, rfl, rfl, rfl, rfl, trivial⟩ (sub_can) (by intro D0 hD0; simp only [List.mem_cons, List.not_mem_nil, or_false] at hD0; exact ⟨D0, by rcases hD0 with rfl | rfl <;> simp, Le.refl _⟩)⟩
        · refine C.skip ?_
          refine C.next ?_
          refine C.seq ?_
          refine C.region [(false,0),(false,1),(false,2),(false,3),(false,4),(false,5),(false,6),(false,7),(false,8)] rfl ?_
          refine L.move rfl rfl rfl trivial ?_
          refine L.move rfl rfl rfl trivial ?_
          refine L.move rfl rfl rfl trivial ?_
          refine L.lenAcc rfl Try.underlying22 rfl hcn rfl rfl trivial ?_
          refine L.rem rfl rfl rfl (by omega) (by omega) (by have := Int.emod_lt_of_pos (wordV ws ((i : Int) + 1)) (show (0 : Int) < (cl.length : Int) by omega); have := Int.emod_nonneg (wordV ws ((i : Int) + 1)) (show ((cl.length : Int)) ≠ 0 by omega); simp only [inK]; omega) rfl trivial ?_
          obtain ⟨cb, ccap, cjunk, rfl, hccap, rfl, hcl1, hcl2⟩ := hcn.some (by omega)
          obtain ⟨jn, hjn⟩ := Int.eq_ofNat_of_zero_le (Int.emod_nonneg (wordV ws ((i : Int) + 1)) (show ((cl.length : Int)) ≠ 0 by omega))
          have hjl : jn < cl.length := by have := Int.emod_lt_of_pos (wordV ws ((i : Int) + 1)) (show (0 : Int) < (cl.length : Int) by omega); omega
          obtain ⟨x, hx⟩ : ∃ x, cl[jn]? = some x := ⟨_, List.getElem?_eq_getElem hjl⟩
          have hxo := hcan x (List.mem_of_getElem? hx)
          rw [hjn]
          refine L.indexP rfl Try.underlying22 Tf.s68 rfl rfl (by omega) (by omega) rfl trivial ?_
          refine L.loadBP (n := 3) (us := [.int .i64 x.kind, .int .i64 x.chair, .int .i64 x.token]) (vs := linC cl ++ cjunk) (e := 68) (fz := (0, 0)) rfl Tf.a68 Tf.s68 rfl (by simp) (by rw [show 0 + ((jn : Int)).toNat * 3 = jn * 3 by omega, List.drop_append_of_le_length (by rw [linC_len]; omega), List.take_append_of_le_length (by rw [List.length_drop, linC_len]; omega)]; exact linC_get hx) rfl List.not_mem_nil rfl trivial ?_
          refine L.alloc rfl Tf.z68 rfl rfl trivial (fun q5 => ?_)
          refine L.storeW rfl rfl rfl rfl Tf.s68 (by first | rfl | (simp only [ints_length, *]; done) | (simp only [ints_length, *]; rfl) | (simp only [ints_length, *]; omega)) (by first | rfl | (simp only [ints_length, *]; done) | (simp only [ints_length, *]; rfl) | (simp only [ints_length, *]; omega)) (Has.head) (by first | exact ints_cell1 _ | simp [cell1]) trivial ?_
          refine L.nil ?_
          refine C.next ?_
          refine C.seq ?_
          refine C.subB (μ' := (q5, .cells [.int .i64 x.kind, .int .i64 x.chair, .int .i64 x.token].toArray 68 (0, 0)) :: (q3, .cells [.int .i64 b.chairs, .int .i64 b.coin, .int .i64 b.box, vx, .slice none 0 0].toArray 25 (0, 0)) :: (q2, .cells [.int .i64 0, .int .i64 0, .int .i64 0, .slice none 0 0, .slice none 0 0].toArray 25 (0, 0)) :: (νx ++ νt)) (.cons_cons _ (.cons_cons _ (.cons_cons _ (List.Sublist.append (List.Sublist.refl _) (List.sublist_append_left _ _))))) ?_
          refine C.region [(false,0),(false,1),(false,2),(false,3),(false,4)] rfl ?_
          refine L.move rfl rfl rfl trivial ?_
          refine L.loadBW rfl Tf.a68 rfl (List.Mem.head _) Tf.s68 List.not_mem_nil rfl trivial ?_
          refine L.buildSlice rfl Try.underlying22 Tf.s68 Tf.z68 rfl rfl rfl rfl (.cons rfl rfl .nil) rfl trivial (fun b904 D904 hD904 hA904 => ?_)
          have hAl := hA904
          refine L.boxesEq (((q5, .cells [.int .i64 x.kind, .int .i64 x.chair, .int .i64 x.token].toArray 68 (0, 0)) :: (q3, .cells [.int .i64 b.chairs, .int .i64 b.coin, .int .i64 b.box, vx, .slice none 0 0].toArray 25 (0, 0)) :: (q2, .cells [.int .i64 0, .int .i64 0, .int .i64 0, .slice none 0 0, .slice none 0 0].toArray 25 (0, 0)) :: νx) ++ νt ++ []) (by simp) ?_
          refine L.append (A := ((_, _) :: (_, _) :: (_, _) :: νx)) (ν := νt) (B := []) rfl Try.underlying22 rfl rfl Tf.s68 Tf.z68 rfl Tf.i68 rfl rfl rfl hat (Src.lit hAl) (by simp) rfl (by rw [linC_len, hI.lt]) (by simp [cell1]) (by omega) (Or.inl rfl) rfl trivial (fun vT νT haT => ?_)
          refine L.boxesEq ((q5, .cells [.int .i64 x.kind, .int .i64 x.chair, .int .i64 x.token].toArray 68 (0, 0)) :: (q3, .cells [.int .i64 b.chairs, .int .i64 b.coin, .int .i64 b.box, vx, .slice none 0 0].toArray 25 (0, 0)) :: (q2, .cells [.int .i64 0, .int .i64 0, .int .i64 0, .slice none 0 0, .slice none 0 0].toArray 25 (0, 0)) :: (νx ++ νT)) (by simp) ?_
          replace haT : Acc 68 3 vT (i + 1) (linC (ts ++ [x])) νT := by rw [linC_snoc]; simpa using haT
          refine L.assign rfl rfl rfl trivial ?_
          refine L.nil ?_
          refine C.next ?_
          refine C.seq ?_
          refine C.region [(false,0),(false,1),(false,2)] rfl ?_
          refine L.loadBW rfl Tf.a25 rfl (List.Mem.tail _ (List.Mem.head _)) Tf.s25 List.not_mem_nil rfl trivial ?_
          refine L.alloc rfl Tf.z25 rfl rfl trivial (fun q6 => ?_)
          refine L.storeW rfl rfl rfl rfl Tf.s25 (by first | rfl | (simp only [ints_length, *]; done) | (simp only [ints_length, *]; rfl) | (simp only [ints_length, *]; omega)) (by first | rfl | (simp only [ints_length, *]; done) | (simp only [ints_length, *]; rfl) | (simp only [ints_length, *]; omega)) (Has.head) (cell1_book hax.cell1 (by simp [cell1])) trivial ?_
          refine L.nil ?_
          refine C.next ?_
          refine C.seqJ (γ := Lin) (fun g => agreesB g x = true) (fun g => [(8, .int .i64 (i : Int)), (9, .int .i64 (wordV ws ((i : Int) + 1))), (7, vT), (15, .pointer (some ⟨q6, 0, none⟩)), (14, .pointer (some ⟨q5, 0, none⟩)), (6, .pointer (some ⟨q3, 0, none⟩)), (5, .slice none 0 0), (4, .pointer (some ⟨q2, 0, none⟩)), (2, .pointer (some ⟨q1, 0, none⟩)), (1, wv)]) (fun g => (q6, .cells [.int .i64 b.chairs, .int .i64 b.coin, .int .i64 b.box, vx, .slice none 0 0].toArray 25 (0, 0)) :: (q5, .cells [.int .i64 g.kind, .int .i64 g.chair, .int .i64 g.token].toArray 68 (0, 0)) :: (q3, .cells [.int .i64 b.chairs, .int .i64 b.coin, .int .i64 b.box, vx, .slice none 0 0].toArray 25 (0, 0)) :: (q2, .cells [.int .i64 0, .int .i64 0, .int .i64 0, .slice none 0 0, .slice none 0 0].toArray 25 (0, 0)) :: (νx ++ νT)) (fun g => [E1, D]) ?_ ?_
          · refine C.seq ?_
            refine C.region [(false,0),(false,1),(false,2),(false,3)] rfl ?_
            refine L.move rfl rfl rfl trivial ?_
            refine L.quo rfl rfl rfl (by omega) (by omega) (by simp only [inK]; omega) rfl trivial ?_
            refine L.rem rfl rfl rfl (by omega) (by omega) (by simp only [inK]; omega) rfl trivial ?_
            refine L.eql rfl rfl rfl rfl trivial ?_
            refine L.nil ?_
            refine C.next ?_
            refine C.condD rfl (fun hc6 => ?_) (fun hc6 => ?_)
            · refine C.region [(false,0),(false,1)] rfl ?_
              refine L.fieldAddr rfl Tf.f68_1 rfl rfl trivial ?_
              refine L.store rfl rfl rfl rfl Tf.s3 (.tail (Has.head)) (by simp) rfl (by simp [cell1]) trivial ?_
              refine L.nil ?_
              refine C.nextJ ?_
              exact fun a w hh => ⟨(⟨x.kind, (-1), x.token⟩ : Lin), agr_ch agr_self, hh.weak ⟨rfl, rfl, rfl, rfl, rfl, rfl, rfl, rfl, rfl, rfl, trivial⟩ (List.Sublist.refl _) (by intro D0 hD0; simp only [List.mem_cons, List.not_mem_nil, or_false] at hD0; exact ⟨D0, by rcases hD0 with rfl | rfl <;> simp, Le.refl _⟩)⟩
            · refine C.skip ?_
              refine C.nextJ ?_
              exact fun a w hh => ⟨x, agr_self, hh.weak ⟨rfl, rfl, rfl, rfl, rfl, rfl, rfl, rfl, rfl, rfl, trivial⟩ (List.Sublist.refl _) (by intro D0 hD0; simp only [List.mem_cons, List.not_mem_nil, or_false] at hD0; exact ⟨D0, by rcases hD0 with rfl | rfl <;> simp, Le.refl _⟩)⟩
          intro z1 hz1
          refine C.seqJ (γ := Lin) (fun g => agreesB g x = true) (fun g => [(8, .int .i64 (i : Int)), (9, .int .i64 (wordV ws ((i : Int) + 1))), (7, vT), (15, .pointer (some ⟨q6, 0, none⟩)), (14, .pointer (some ⟨q5, 0, none⟩)), (6, .pointer (some ⟨q3, 0, none⟩)), (5, .slice none 0 0), (4, .pointer (some ⟨q2, 0, none⟩)), (2, .pointer (some ⟨q1, 0, none⟩)), (1, wv)]) (fun g => (q6, .cells [.int .i64 b.chairs, .int .i64 b.coin, .int .i64 b.box, vx, .slice none 0 0].toArray 25 (0, 0)) :: (q5, .cells [.int .i64 g.kind, .int .i64 g.chair, .int .i64 g.token].toArray 68 (0, 0)) :: (q3, .cells [.int .i64 b.chairs, .int .i64 b.coin, .int .i64 b.box, vx, .slice none 0 0].toArray 25 (0, 0)) :: (q2, .cells [.int .i64 0, .int .i64 0, .int .i64 0, .slice none 0 0, .slice none 0 0].toArray 25 (0, 0)) :: (νx ++ νT)) (fun g => [E1, D]) ?_ ?_
          · refine C.seq ?_
            refine C.region [(false,0),(false,1),(false,2),(false,3)] rfl ?_
            refine L.move rfl rfl rfl trivial ?_
            refine L.quo rfl rfl rfl (by omega) (by omega) (by simp only [inK]; omega) rfl trivial ?_
            refine L.rem rfl rfl rfl (by omega) (by omega) (by simp only [inK]; omega) rfl trivial ?_
            refine L.eql rfl rfl rfl rfl trivial ?_
            refine L.nil ?_
            refine C.next ?_
            refine C.condD rfl (fun hc7 => ?_) (fun hc7 => ?_)
            · refine C.region [(false,0),(false,1)] rfl ?_
              refine L.fieldAddr rfl Tf.f68_2 rfl rfl trivial ?_
              refine L.store rfl rfl rfl rfl Tf.s3 (.tail (Has.head)) (by simp) rfl (by simp [cell1]) trivial ?_
              refine L.nil ?_
              refine C.nextJ ?_
              exact fun a w hh => ⟨(⟨z1.kind, z1.chair, (-1)⟩ : Lin), agr_tk hz1, hh.weak ⟨rfl, rfl, rfl, rfl, rfl, rfl, rfl, rfl, rfl, rfl, trivial⟩ (List.Sublist.refl _) (by intro D0 hD0; simp only [List.mem_cons, List.not_mem_nil, or_false] at hD0; exact ⟨D0, by rcases hD0 with rfl | rfl <;> simp, Le.refl _⟩)⟩
            · refine C.skip ?_
              refine C.nextJ ?_
              exact fun a w hh => ⟨z1, hz1, hh.weak ⟨rfl, rfl, rfl, rfl, rfl, rfl, rfl, rfl, rfl, rfl, trivial⟩ (List.Sublist.refl _) (by intro D0 hD0; simp only [List.mem_cons, List.not_mem_nil, or_false] at hD0; exact ⟨D0, by rcases hD0 with rfl | rfl <;> simp, Le.refl _⟩)⟩
          intro z2 hz2
          refine C.seqJ (γ := Lin) (fun g => agreesB g x = true) (fun g => [(8, .int .i64 (i : Int)), (9, .int .i64 (wordV ws ((i : Int) + 1))), (7, vT), (15, .pointer (some ⟨q6, 0, none⟩)), (14, .pointer (some ⟨q5, 0, none⟩)), (6, .pointer (some ⟨q3, 0, none⟩)), (5, .slice none 0 0), (4, .pointer (some ⟨q2, 0, none⟩)), (2, .pointer (some ⟨q1, 0, none⟩)), (1, wv)]) (fun g => (q6, .cells [.int .i64 b.chairs, .int .i64 b.coin, .int .i64 b.box, vx, .slice none 0 0].toArray 25 (0, 0)) :: (q5, .cells [.int .i64 g.kind, .int .i64 g.chair, .int .i64 g.token].toArray 68 (0, 0)) :: (q3, .cells [.int .i64 b.chairs, .int .i64 b.coin, .int .i64 b.box, vx, .slice none 0 0].toArray 25 (0, 0)) :: (q2, .cells [.int .i64 0, .int .i64 0, .int .i64 0, .slice none 0 0, .slice none 0 0].toArray 25 (0, 0)) :: (νx ++ νT)) (fun g => [E1, D]) ?_ ?_
          · refine C.seq ?_
            refine C.region [(false,0),(false,1),(false,2),(false,3)] rfl ?_
            refine L.move rfl rfl rfl trivial ?_
            refine L.quo rfl rfl rfl (by omega) (by omega) (by simp only [inK]; omega) rfl trivial ?_
            refine L.rem rfl rfl rfl (by omega) (by omega) (by simp only [inK]; omega) rfl trivial ?_
            refine L.eql rfl rfl rfl rfl trivial ?_
            refine L.nil ?_
            refine C.next ?_
            refine C.condD rfl (fun hc8 => ?_) (fun hc8 => ?_)
            · refine C.region [(false,0),(false,1)] rfl ?_
              refine L.fieldAddr rfl Tf.f68_0 rfl rfl trivial ?_
              refine L.store rfl rfl rfl rfl Tf.s3 (.tail (Has.head)) (by simp) rfl (by simp [cell1]) trivial ?_
              refine L.nil ?_
              refine C.nextJ ?_
              exact fun a w hh => ⟨(⟨0, z2.chair, z2.token⟩ : Lin), agr_kd hz2, hh.weak ⟨rfl, rfl, rfl, rfl, rfl, rfl, rfl, rfl, rfl, rfl, trivial⟩ (List.Sublist.refl _) (by intro D0 hD0; simp only [List.mem_cons, List.not_mem_nil, or_false] at hD0; exact ⟨D0, by rcases hD0 with rfl | rfl <;> simp, Le.refl _⟩)⟩
            · refine C.skip ?_
              refine C.nextJ ?_
              exact fun a w hh => ⟨z2, hz2, hh.weak ⟨rfl, rfl, rfl, rfl, rfl, rfl, rfl, rfl, rfl, rfl, trivial⟩ (List.Sublist.refl _) (by intro D0 hD0; simp only [List.mem_cons, List.not_mem_nil, or_false] at hD0; exact ⟨D0, by rcases hD0 with rfl | rfl <;> simp, Le.refl _⟩)⟩
          intro z hz
          refine C.seq ?_
          refine C.drawS [] 3 [true,false,false,true,true,true,false,false,false] [.fork [1,2,4] 0 (.fork [] 3 (.fin [5]) 5 (.fin [3])) 5 (.fin [0,3]), .fin [6,7,8]] Tf.follows (fun _ _ _ h => np_body (P := Try.prog) (fn := Try.f6) _ _ _ h) (by kernel_rfl) ?_
          refine S.cons ?_
          refine L.planFork [(false,1),(false,2),(true,4)] rfl ?_
          refine L.fieldAddr rfl Tf.f25_3 rfl rfl trivial ?_
          refine L.loadB1 rfl Tf.a22 rfl (List.Mem.tail _ (List.Mem.tail _ (List.Mem.head _))) rfl List.not_mem_nil rfl trivial ?_
          refine L.loadBW rfl Tf.a68 rfl (List.Mem.tail _ (List.Mem.head _)) Tf.s68 List.not_mem_nil rfl trivial ?_
          refine L.nil (L.forkP true true rfl rfl ?_ ?_)
          · refine L.buildSlice rfl Try.underlying22 Tf.s68 Tf.z68 rfl rfl rfl rfl .nil rfl trivial (fun b911 D911 hD911 hA911 => ?_)
            skip
            refine L.nil ?_
            refine L.planFork [] rfl ?_
            refine L.nil (L.forkP true true rfl rfl ?_ ?_)
            · refine L.appendO (A := (_, _) :: (_, _) :: (_, _) :: (_, _) :: []) (ν := []) (B := νx ++ νT) rfl Try.underlying22 rfl rfl Tf.s68 Tf.z68 rfl Tf.i68 rfl rfl rfl Acc.nil hax (fun p hp => by simp [hp]) (by rw [linC_len, hI.lx]) rfl linC_cell1 (by omega) (Or.inr (by simp)) rfl trivial (fun v1 ν1 ha1 => ?_)
              refine L.boxesEq ((q6, .cells [.int .i64 b.chairs, .int .i64 b.coin, .int .i64 b.box, vx, .slice none 0 0].toArray 25 (0, 0)) :: (q5, .cells [.int .i64 z.kind, .int .i64 z.chair, .int .i64 z.token].toArray 68 (0, 0)) :: (q3, .cells [.int .i64 b.chairs, .int .i64 b.coin, .int .i64 b.box, vx, .slice none 0 0].toArray 25 (0, 0)) :: (q2, .cells [.int .i64 0, .int .i64 0, .int .i64 0, .slice none 0 0, .slice none 0 0].toArray 25 (0, 0)) :: (ν1 ++ (νx ++ νT))) (by simp) ?_
              replace ha1 : Acc 68 3 v1 i (linC xs) ν1 := by simpa using ha1
              refine L.nil ?_
              refine L.planFin [(true,5)] rfl ?_
              refine L.buildSlice rfl Try.underlying22 Tf.s68 Tf.z68 rfl rfl rfl rfl (.cons rfl rfl .nil) rfl trivial (fun b912 D912 hD912 hA912 => ?_)
              have hAl := hA912
              refine L.nil ?_
              refine S.fin [(false,6),(false,7),(false,8)] rfl ?_
              refine L.boxesEq ([(q6, .cells [.int .i64 b.chairs, .int .i64 b.coin, .int .i64 b.box, vx, .slice none 0 0].toArray 25 (0, 0)), (q5, .cells [.int .i64 z.kind, .int .i64 z.chair, .int .i64 z.token].toArray 68 (0, 0)), (q3, .cells [.int .i64 b.chairs, .int .i64 b.coin, .int .i64 b.box, vx, .slice none 0 0].toArray 25 (0, 0)), (q2, .cells [.int .i64 0, .int .i64 0, .int .i64 0, .slice none 0 0, .slice none 0 0].toArray 25 (0, 0))] ++ ν1 ++ (νx ++ νT)) (by simp) ?_
              refine L.append (A := [(_, _), (_, _), (_, _), (_, _)]) (ν := ν1) (B := (νx ++ νT)) rfl Try.underlying22 rfl rfl Tf.s68 Tf.z68 rfl Tf.i68 rfl rfl rfl ha1 (Src.lit hAl) (by simp) rfl (by rw [linC_len, hI.lx]) (by simp [cell1]) (by omega) (Or.inl rfl) rfl trivial (fun v2 ν2 ha2 => ?_)
              refine L.boxesEq ((q6, .cells [.int .i64 b.chairs, .int .i64 b.coin, .int .i64 b.box, vx, .slice none 0 0].toArray 25 (0, 0)) :: (q5, .cells [.int .i64 z.kind, .int .i64 z.chair, .int .i64 z.token].toArray 68 (0, 0)) :: (q3, .cells [.int .i64 b.chairs, .int .i64 b.coin, .int .i64 b.box, vx, .slice none 0 0].toArray 25 (0, 0)) :: (q2, .cells [.int .i64 0, .int .i64 0, .int .i64 0, .slice none 0 0, .slice none 0 0].toArray 25 (0, 0)) :: (ν2 ++ (νx ++ νT))) (by simp) ?_
              replace ha2 : Acc 68 3 v2 (i + 1) (linC (xs ++ [z])) ν2 := by rw [linC_snoc]; simpa using ha2
              refine L.fieldAddr rfl Tf.f25_3 rfl rfl trivial ?_
              refine L.store rfl rfl rfl ha2.cells1 Tf.s22 .head (by simp) rfl ha2.cell1 trivial ?_
              refine L.nil ?_
              refine S.nil ?_
              refine C.next ?_
              refine C.seq ?_
              refine C.seq ?_
              refine C.region [(false,0),(false,1),(false,2)] rfl ?_
              refine L.loadBW rfl Tf.a25 rfl (List.Mem.head _) Tf.s25 List.not_mem_nil rfl trivial ?_
              refine L.callAcc (A := [(_, _), (_, _), (_, _), (_, _)]) (ν := ν2) (B := νx ++ νT) (r := .int .i64 (manyR b.chairs.toNat (xs ++ [z]))) rfl rfl rfl ha2 (fun D HD hF => rMany_ok _ ⟨b.chairs, b.coin, b.box, xs ++ [z], []⟩ b.chairs.toNat _ ⟨v2, .slice none 0 0, rfl, hF.lins (by simp [hI.lx]) (by omega), Sl.nil⟩ (by simp only; omega) (by omega)) rfl trivial ?_
              refine L.boxesEq ((q6, .cells [.int .i64 b.chairs, .int .i64 b.coin, .int .i64 b.box, v2, .slice none 0 0].toArray 25 (0, 0)) :: (q5, .cells [.int .i64 z.kind, .int .i64 z.chair, .int .i64 z.token].toArray 68 (0, 0)) :: (q3, .cells [.int .i64 b.chairs, .int .i64 b.coin, .int .i64 b.box, vx, .slice none 0 0].toArray 25 (0, 0)) :: (q2, .cells [.int .i64 0, .int .i64 0, .int .i64 0, .slice none 0 0, .slice none 0 0].toArray 25 (0, 0)) :: (ν2 ++ (νx ++ νT))) (by simp) ?_
              refine L.gtr rfl rfl rfl rfl trivial ?_
              refine L.nil ?_
              refine C.next ?_
              refine C.condD rfl (fun hc9 => ?_) (fun hc9 => ?_)
              · obtain ⟨yb, ycap, yjunk, rfl, hycap, rfl, hyl1, hyl2⟩ := ha2.some (by omega)
                obtain ⟨tb, tcap, tjunk, rfl, htcap, rfl, htl1, htl2⟩ := haT.some (by omega)
                refine C.draw [] 1 [0,1,2,3,4,5,6,7,8,9,10,11,12,13] [false,false,true,true,true,true,true,true,true,true,true,true,false,false] [(false,0),(false,1),(true,2),(true,3),(true,4),(true,5),(true,6),(true,7),(true,8),(true,9),(true,10),(true,11),(false,12),(false,13)] Tf.follows (fun _ _ _ h => np_body (P := Try.prog) (fn := Try.f6) _ _ _ h) (by kernel_rfl) rfl ?_
                refine L.fieldAddr rfl Tf.f25_3 rfl rfl trivial ?_
                refine L.loadB1 rfl Tf.a22 rfl (List.Mem.head _) rfl List.not_mem_nil rfl trivial ?_
                refine L.fieldAddr rfl Tf.f25_3 rfl rfl trivial ?_
                refine L.loadB1 rfl Tf.a22 rfl (List.Mem.head _) rfl List.not_mem_nil rfl trivial ?_
                refine L.lenV rfl Try.underlying22 rfl rfl rfl trivial ?_
                refine L.sub rfl rfl rfl (by simp only [inK]; omega) rfl trivial ?_
                refine L.move rfl rfl rfl trivial ?_
                refine L.move rfl rfl rfl trivial ?_
                refine L.lenV rfl Try.underlying22 rfl rfl rfl trivial ?_
                refine L.sub rfl rfl rfl (by simp only [inK]; omega) rfl trivial ?_
                refine L.indexP rfl Try.underlying22 Tf.s68 rfl rfl (by push_cast; omega) (by push_cast; omega) rfl trivial ?_
                refine L.loadBP (n := 3) (us := [.int .i64 x.kind, .int .i64 x.chair, .int .i64 x.token]) (vs := linC (ts ++ [x]) ++ tjunk) (e := 68) (fz := (0, 0)) rfl Tf.a68 Tf.s68 rfl (by simp) (by rw [show 0 + (((i + 1 : Nat) : Int) - 1).toNat * 3 = i * 3 by omega]; exact linC_lastAt hI.lt) rfl List.not_mem_nil rfl trivial ?_
                refine L.indexP rfl Try.underlying22 Tf.s68 rfl rfl (by push_cast; omega) (by push_cast; omega) rfl trivial ?_
                refine L.store (off := i * 3) (us := [.int .i64 x.kind, .int .i64 x.chair, .int .i64 x.token]) (vs := linC (xs ++ [z]) ++ yjunk) (ws := linC (xs ++ [x]) ++ yjunk) rfl (ptr_eq (by omega)) rfl rfl Tf.s68 (.tail (.tail (.tail (.tail .head)))) (by show i * 3 + 3 ≤ _; rw [List.length_append, linC_len, List.length_append, hI.lx, List.length_singleton]; omega) (linC_last hI.lx) (by simp [cell1]) trivial ?_
                refine L.nil ?_
                refine C.next ?_
                refine C.region [(false,0),(false,1)] rfl ?_
                refine L.loadBW rfl Tf.a25 rfl (List.Mem.head _) Tf.s25 List.not_mem_nil rfl trivial ?_
                refine L.storeW rfl rfl rfl rfl Tf.s25 (by first | rfl | (simp only [ints_length, *]; done) | (simp only [ints_length, *]; rfl) | (simp only [ints_length, *]; omega)) (by first | rfl | (simp only [ints_length, *]; done) | (simp only [ints_length, *]; rfl) | (simp only [ints_length, *]; omega)) (.tail (.tail (Has.head))) (cell1_book (by first | exact ha2.cell1 | simp [cell1]) (by simp [cell1])) trivial ?_
                refine L.nil ?_
                refine C.blockEnd ?_
                refine C.next ?_
                refine C.region [(false,0),(false,1),(false,2)] rfl ?_
                refine L.move rfl rfl rfl trivial ?_
                refine L.add rfl rfl rfl (by simp only [inK]; omega) rfl trivial ?_
                refine L.assign rfl rfl rfl trivial ?_
                refine L.nil ?_
                exact C.againR 33 (i + 1, xs ++ [x], ts ++ [x], .slice (some ⟨yb, 0, none⟩) (i + 1) ycap, [(yb, .cells (linC (xs ++ [x]) ++ yjunk).toArray 68 (0, 0))], .slice (some ⟨tb, 0, none⟩) (i + 1) tcap, [(tb, .cells (linC (ts ++ [x]) ++ tjunk).toArray 68 (0, 0))]) ⟨by simp only; omega, hI.add agr_self hxo, acc_lastL hI.lx hycap hyl2, Or.inr ⟨tb, tcap, tjunk, rfl, htcap, rfl, htl1, htl2⟩⟩ (by simp only; omega) ⟨(by first | rfl | (show some (Value.int _ _) = some (Value.int _ _); congr 2; omega)), (by first | rfl | (show some (Value.int _ _) = some (Value.int _ _); congr 2; omega)), trivial⟩ rfl rfl (sub_y) (fun D h => ⟨D, List.Mem.tail _ (List.Mem.tail _ (h)), Le.refl D⟩)
              · refine C.skip ?_
                refine C.next ?_
                refine C.region [(false,0),(false,1)] rfl ?_
                refine L.loadBW rfl Tf.a25 rfl (List.Mem.head _) Tf.s25 List.not_mem_nil rfl trivial ?_
                refine L.storeW rfl rfl rfl rfl Tf.s25 (by first | rfl | (simp only [ints_length, *]; done) | (simp only [ints_length, *]; rfl) | (simp only [ints_length, *]; omega)) (by first | rfl | (simp only [ints_length, *]; done) | (simp only [ints_length, *]; rfl) | (simp only [ints_length, *]; omega)) (.tail (.tail (Has.head))) (cell1_book (by first | exact ha2.cell1 | simp [cell1]) (by simp [cell1])) trivial ?_
                refine L.nil ?_
                refine C.blockEnd ?_
                refine C.next ?_
                refine C.region [(false,0),(false,1),(false,2)] rfl ?_
                refine L.move rfl rfl rfl trivial ?_
                refine L.add rfl rfl rfl (by simp only [inK]; omega) rfl trivial ?_
                refine L.assign rfl rfl rfl trivial ?_
                refine L.nil ?_
                exact C.againR 20 (i + 1, xs ++ [z], ts ++ [x], v2, ν2, vT, νT) ⟨by simp only; omega, hI.add hz hxo, ha2, haT⟩ (by simp only; omega) ⟨(by first | rfl | (show some (Value.int _ _) = some (Value.int _ _); congr 2; omega)), (by first | rfl | (show some (Value.int _ _) = some (Value.int _ _); congr 2; omega)), trivial⟩ rfl rfl (sub_y) (fun D h => ⟨D, List.Mem.tail _ (List.Mem.tail _ (h)), Le.refl D⟩)
            · refine L.buildSlice rfl Try.underlying22 Tf.s68 Tf.z68 rfl rfl rfl rfl (.cons rfl rfl .nil) rfl trivial (fun b912 D912 hD912 hA912 => ?_)
              have hAl := hA912
              refine L.nil ?_
              refine L.planFin [(true,3)] rfl ?_
              refine L.appendO (A := (_, _) :: (_, _) :: (_, _) :: (_, _) :: []) (ν := []) (B := νx ++ νT) rfl Try.underlying22 rfl rfl Tf.s68 Tf.z68 rfl Tf.i68 rfl rfl rfl Acc.nil hax (fun p hp => by simp [hp]) (by rw [linC_len, hI.lx]) rfl linC_cell1 (by omega) (Or.inr (by simp)) rfl trivial (fun v1 ν1 ha1 => ?_)
              refine L.boxesEq ((q6, .cells [.int .i64 b.chairs, .int .i64 b.coin, .int .i64 b.box, vx, .slice none 0 0].toArray 25 (0, 0)) :: (q5, .cells [.int .i64 z.kind, .int .i64 z.chair, .int .i64 z.token].toArray 68 (0, 0)) :: (q3, .cells [.int .i64 b.chairs, .int .i64 b.coin, .int .i64 b.box, vx, .slice none 0 0].toArray 25 (0, 0)) :: (q2, .cells [.int .i64 0, .int .i64 0, .int .i64 0, .slice none 0 0, .slice none 0 0].toArray 25 (0, 0)) :: (ν1 ++ (νx ++ νT))) (by simp) ?_
              replace ha1 : Acc 68 3 v1 i (linC xs) ν1 := by simpa using ha1
              refine L.nil ?_
              refine S.fin [(false,6),(false,7),(false,8)] rfl ?_
              refine L.boxesEq ([(q6, .cells [.int .i64 b.chairs, .int .i64 b.coin, .int .i64 b.box, vx, .slice none 0 0].toArray 25 (0, 0)), (q5, .cells [.int .i64 z.kind, .int .i64 z.chair, .int .i64 z.token].toArray 68 (0, 0)), (q3, .cells [.int .i64 b.chairs, .int .i64 b.coin, .int .i64 b.box, vx, .slice none 0 0].toArray 25 (0, 0)), (q2, .cells [.int .i64 0, .int .i64 0, .int .i64 0, .slice none 0 0, .slice none 0 0].toArray 25 (0, 0))] ++ ν1 ++ (νx ++ νT)) (by simp) ?_
              refine L.append (A := [(_, _), (_, _), (_, _), (_, _)]) (ν := ν1) (B := (νx ++ νT)) rfl Try.underlying22 rfl rfl Tf.s68 Tf.z68 rfl Tf.i68 rfl rfl rfl ha1 (Src.lit hAl) (by simp) rfl (by rw [linC_len, hI.lx]) (by simp [cell1]) (by omega) (Or.inl rfl) rfl trivial (fun v2 ν2 ha2 => ?_)
              refine L.boxesEq ((q6, .cells [.int .i64 b.chairs, .int .i64 b.coin, .int .i64 b.box, vx, .slice none 0 0].toArray 25 (0, 0)) :: (q5, .cells [.int .i64 z.kind, .int .i64 z.chair, .int .i64 z.token].toArray 68 (0, 0)) :: (q3, .cells [.int .i64 b.chairs, .int .i64 b.coin, .int .i64 b.box, vx, .slice none 0 0].toArray 25 (0, 0)) :: (q2, .cells [.int .i64 0, .int .i64 0, .int .i64 0, .slice none 0 0, .slice none 0 0].toArray 25 (0, 0)) :: (ν2 ++ (νx ++ νT))) (by simp) ?_
              replace ha2 : Acc 68 3 v2 (i + 1) (linC (xs ++ [z])) ν2 := by rw [linC_snoc]; simpa using ha2
              refine L.fieldAddr rfl Tf.f25_3 rfl rfl trivial ?_
              refine L.store rfl rfl rfl ha2.cells1 Tf.s22 .head (by simp) rfl ha2.cell1 trivial ?_
              refine L.nil ?_
              refine S.nil ?_
              refine C.next ?_
              refine C.seq ?_
              refine C.seq ?_
              refine C.region [(false,0),(false,1),(false,2)] rfl ?_
              refine L.loadBW rfl Tf.a25 rfl (List.Mem.head _) Tf.s25 List.not_mem_nil rfl trivial ?_
              refine L.callAcc (A := [(_, _), (_, _), (_, _), (_, _)]) (ν := ν2) (B := νx ++ νT) (r := .int .i64 (manyR b.chairs.toNat (xs ++ [z]))) rfl rfl rfl ha2 (fun D HD hF => rMany_ok _ ⟨b.chairs, b.coin, b.box, xs ++ [z], []⟩ b.chairs.toNat _ ⟨v2, .slice none 0 0, rfl, hF.lins (by simp [hI.lx]) (by omega), Sl.nil⟩ (by simp only; omega) (by omega)) rfl trivial ?_
              refine L.boxesEq ((q6, .cells [.int .i64 b.chairs, .int .i64 b.coin, .int .i64 b.box, v2, .slice none 0 0].toArray 25 (0, 0)) :: (q5, .cells [.int .i64 z.kind, .int .i64 z.chair, .int .i64 z.token].toArray 68 (0, 0)) :: (q3, .cells [.int .i64 b.chairs, .int .i64 b.coin, .int .i64 b.box, vx, .slice none 0 0].toArray 25 (0, 0)) :: (q2, .cells [.int .i64 0, .int .i64 0, .int .i64 0, .slice none 0 0, .slice none 0 0].toArray 25 (0, 0)) :: (ν2 ++ (νx ++ νT))) (by simp) ?_
              refine L.gtr rfl rfl rfl rfl trivial ?_
              refine L.nil ?_
              refine C.next ?_
              refine C.condD rfl (fun hc9 => ?_) (fun hc9 => ?_)
              · obtain ⟨yb, ycap, yjunk, rfl, hycap, rfl, hyl1, hyl2⟩ := ha2.some (by omega)
                obtain ⟨tb, tcap, tjunk, rfl, htcap, rfl, htl1, htl2⟩ := haT.some (by omega)
                refine C.draw [] 1 [0,1,2,3,4,5,6,7,8,9,10,11,12,13] [false,false,true,true,true,true,true,true,true,true,true,true,false,false] [(false,0),(false,1),(true,2),(true,3),(true,4),(true,5),(true,6),(true,7),(true,8),(true,9),(true,10),(true,11),(false,12),(false,13)] Tf.follows (fun _ _ _ h => np_body (P := Try.prog) (fn := Try.f6) _ _ _ h) (by kernel_rfl) rfl ?_
                refine L.fieldAddr rfl Tf.f25_3 rfl rfl trivial ?_
                refine L.loadB1 rfl Tf.a22 rfl (List.Mem.head _) rfl List.not_mem_nil rfl trivial ?_
                refine L.fieldAddr rfl Tf.f25_3 rfl rfl trivial ?_
                refine L.loadB1 rfl Tf.a22 rfl (List.Mem.head _) rfl List.not_mem_nil rfl trivial ?_
                refine L.lenV rfl Try.underlying22 rfl rfl rfl trivial ?_
                refine L.sub rfl rfl rfl (by simp only [inK]; omega) rfl trivial ?_
                refine L.move rfl rfl rfl trivial ?_
                refine L.move rfl rfl rfl trivial ?_
                refine L.lenV rfl Try.underlying22 rfl rfl rfl trivial ?_
                refine L.sub rfl rfl rfl (by simp only [inK]; omega) rfl trivial ?_
                refine L.indexP rfl Try.underlying22 Tf.s68 rfl rfl (by push_cast; omega) (by push_cast; omega) rfl trivial ?_
                refine L.loadBP (n := 3) (us := [.int .i64 x.kind, .int .i64 x.chair, .int .i64 x.token]) (vs := linC (ts ++ [x]) ++ tjunk) (e := 68) (fz := (0, 0)) rfl Tf.a68 Tf.s68 rfl (by simp) (by rw [show 0 + (((i + 1 : Nat) : Int) - 1).toNat * 3 = i * 3 by omega]; exact linC_lastAt hI.lt) rfl List.not_mem_nil rfl trivial ?_
                refine L.indexP rfl Try.underlying22 Tf.s68 rfl rfl (by push_cast; omega) (by push_cast; omega) rfl trivial ?_
                refine L.store (off := i * 3) (us := [.int .i64 x.kind, .int .i64 x.chair, .int .i64 x.token]) (vs := linC (xs ++ [z]) ++ yjunk) (ws := linC (xs ++ [x]) ++ yjunk) rfl (ptr_eq (by omega)) rfl rfl Tf.s68 (.tail (.tail (.tail (.tail .head)))) (by show i * 3 + 3 ≤ _; rw [List.length_append, linC_len, List.length_append, hI.lx, List.length_singleton]; omega) (linC_last hI.lx) (by simp [cell1]) trivial ?_
                refine L.nil ?_
                refine C.next ?_
                refine C.region [(false,0),(false,1)] rfl ?_
                refine L.loadBW rfl Tf.a25 rfl (List.Mem.head _) Tf.s25 List.not_mem_nil rfl trivial ?_
                refine L.storeW rfl rfl rfl rfl Tf.s25 (by first | rfl | (simp only [ints_length, *]; done) | (simp only [ints_length, *]; rfl) | (simp only [ints_length, *]; omega)) (by first | rfl | (simp only [ints_length, *]; done) | (simp only [ints_length, *]; rfl) | (simp only [ints_length, *]; omega)) (.tail (.tail (Has.head))) (cell1_book (by first | exact ha2.cell1 | simp [cell1]) (by simp [cell1])) trivial ?_
                refine L.nil ?_
                refine C.blockEnd ?_
                refine C.next ?_
                refine C.region [(false,0),(false,1),(false,2)] rfl ?_
                refine L.move rfl rfl rfl trivial ?_
                refine L.add rfl rfl rfl (by simp only [inK]; omega) rfl trivial ?_
                refine L.assign rfl rfl rfl trivial ?_
                refine L.nil ?_
                exact C.againR 33 (i + 1, xs ++ [x], ts ++ [x], .slice (some ⟨yb, 0, none⟩) (i + 1) ycap, [(yb, .cells (linC (xs ++ [x]) ++ yjunk).toArray 68 (0, 0))], .slice (some ⟨tb, 0, none⟩) (i + 1) tcap, [(tb, .cells (linC (ts ++ [x]) ++ tjunk).toArray 68 (0, 0))]) ⟨by simp only; omega, hI.add agr_self hxo, acc_lastL hI.lx hycap hyl2, Or.inr ⟨tb, tcap, tjunk, rfl, htcap, rfl, htl1, htl2⟩⟩ (by simp only; omega) ⟨(by first | rfl | (show some (Value.int _ _) = some (Value.int _ _); congr 2; omega)), (by first | rfl | (show some (Value.int _ _) = some (Value.int _ _); congr 2; omega)), trivial⟩ rfl rfl (sub_y) (fun D h => ⟨D, List.Mem.tail _ (List.Mem.tail _ (h)), Le.refl D⟩)
              · refine C.skip ?_
                refine C.next ?_
                refine C.region [(false,0),(false,1)] rfl ?_
                refine L.loadBW rfl Tf.a25 rfl (List.Mem.head _) Tf.s25 List.not_mem_nil rfl trivial ?_
                refine L.storeW rfl rfl rfl rfl Tf.s25 (by first | rfl | (simp only [ints_length, *]; done) | (simp only [ints_length, *]; rfl) | (simp only [ints_length, *]; omega)) (by first | rfl | (simp only [ints_length, *]; done) | (simp only [ints_length, *]; rfl) | (simp only [ints_length, *]; omega)) (.tail (.tail (Has.head))) (cell1_book (by first | exact ha2.cell1 | simp [cell1]) (by simp [cell1])) trivial ?_
                refine L.nil ?_
                refine C.blockEnd ?_
                refine C.next ?_
                refine C.region [(false,0),(false,1),(false,2)] rfl ?_
                refine L.move rfl rfl rfl trivial ?_
                refine L.add rfl rfl rfl (by simp only [inK]; omega) rfl trivial ?_
                refine L.assign rfl rfl rfl trivial ?_
                refine L.nil ?_
                exact C.againR 20 (i + 1, xs ++ [z], ts ++ [x], v2, ν2, vT, νT) ⟨by simp only; omega, hI.add hz hxo, ha2, haT⟩ (by simp only; omega) ⟨(by first | rfl | (show some (Value.int _ _) = some (Value.int _ _); congr 2; omega)), (by first | rfl | (show some (Value.int _ _) = some (Value.int _ _); congr 2; omega)), trivial⟩ rfl rfl (sub_y) (fun D h => ⟨D, List.Mem.tail _ (List.Mem.tail _ (h)), Le.refl D⟩)
          · refine L.buildSlice rfl Try.underlying22 Tf.s68 Tf.z68 rfl rfl rfl rfl (.cons rfl rfl .nil) rfl trivial (fun b911 D911 hD911 hA911 => ?_)
            have hAl := hA911
            refine L.nil ?_
            refine L.planFin [(true,0),(true,3)] rfl ?_
            refine L.buildSlice rfl Try.underlying22 Tf.s68 Tf.z68 rfl rfl rfl rfl .nil rfl trivial (fun b912 D912 hD912 hA912 => ?_)
            skip
            refine L.appendO (A := (_, _) :: (_, _) :: (_, _) :: (_, _) :: []) (ν := []) (B := νx ++ νT) rfl Try.underlying22 rfl rfl Tf.s68 Tf.z68 rfl Tf.i68 rfl rfl rfl Acc.nil hax (fun p hp => by simp [hp]) (by rw [linC_len, hI.lx]) rfl linC_cell1 (by omega) (Or.inr (by simp)) rfl trivial (fun v1 ν1 ha1 => ?_)
            refine L.boxesEq ((q6, .cells [.int .i64 b.chairs, .int .i64 b.coin, .int .i64 b.box, vx, .slice none 0 0].toArray 25 (0, 0)) :: (q5, .cells [.int .i64 z.kind, .int .i64 z.chair, .int .i64 z.token].toArray 68 (0, 0)) :: (q3, .cells [.int .i64 b.chairs, .int .i64 b.coin, .int .i64 b.box, vx, .slice none 0 0].toArray 25 (0, 0)) :: (q2, .cells [.int .i64 0, .int .i64 0, .int .i64 0, .slice none 0 0, .slice none 0 0].toArray 25 (0, 0)) :: (ν1 ++ (νx ++ νT))) (by simp) ?_
            replace ha1 : Acc 68 3 v1 i (linC xs) ν1 := by simpa using ha1
            refine L.nil ?_
            refine S.fin [(false,6),(false,7),(false,8)] rfl ?_
            refine L.boxesEq ([(q6, .cells [.int .i64 b.chairs, .int .i64 b.coin, .int .i64 b.box, vx, .slice none 0 0].toArray 25 (0, 0)), (q5, .cells [.int .i64 z.kind, .int .i64 z.chair, .int .i64 z.token].toArray 68 (0, 0)), (q3, .cells [.int .i64 b.chairs, .int .i64 b.coin, .int .i64 b.box, vx, .slice none 0 0].toArray 25 (0, 0)), (q2, .cells [.int .i64 0, .int .i64 0, .int .i64 0, .slice none 0 0, .slice none 0 0].toArray 25 (0, 0))] ++ ν1 ++ (νx ++ νT)) (by simp) ?_
            refine L.append (A := [(_, _), (_, _), (_, _), (_, _)]) (ν := ν1) (B := (νx ++ νT)) rfl Try.underlying22 rfl rfl Tf.s68 Tf.z68 rfl Tf.i68 rfl rfl rfl ha1 (Src.lit hAl) (by simp) rfl (by rw [linC_len, hI.lx]) (by simp [cell1]) (by omega) (Or.inl rfl) rfl trivial (fun v2 ν2 ha2 => ?_)
            refine L.boxesEq ((q6, .cells [.int .i64 b.chairs, .int .i64 b.coin, .int .i64 b.box, vx, .slice none 0 0].toArray 25 (0, 0)) :: (q5, .cells [.int .i64 z.kind, .int .i64 z.chair, .int .i64 z.token].toArray 68 (0, 0)) :: (q3, .cells [.int .i64 b.chairs, .int .i64 b.coin, .int .i64 b.box, vx, .slice none 0 0].toArray 25 (0, 0)) :: (q2, .cells [.int .i64 0, .int .i64 0, .int .i64 0, .slice none 0 0, .slice none 0 0].toArray 25 (0, 0)) :: (ν2 ++ (νx ++ νT))) (by simp) ?_
            replace ha2 : Acc 68 3 v2 (i + 1) (linC (xs ++ [z])) ν2 := by rw [linC_snoc]; simpa using ha2
            refine L.fieldAddr rfl Tf.f25_3 rfl rfl trivial ?_
            refine L.store rfl rfl rfl ha2.cells1 Tf.s22 .head (by simp) rfl ha2.cell1 trivial ?_
            refine L.nil ?_
            refine S.nil ?_
            refine C.next ?_
            refine C.seq ?_
            refine C.seq ?_
            refine C.region [(false,0),(false,1),(false,2)] rfl ?_
            refine L.loadBW rfl Tf.a25 rfl (List.Mem.head _) Tf.s25 List.not_mem_nil rfl trivial ?_
            refine L.callAcc (A := [(_, _), (_, _), (_, _), (_, _)]) (ν := ν2) (B := νx ++ νT) (r := .int .i64 (manyR b.chairs.toNat (xs ++ [z]))) rfl rfl rfl ha2 (fun D HD hF => rMany_ok _ ⟨b.chairs, b.coin, b.box, xs ++ [z], []⟩ b.chairs.toNat _ ⟨v2, .slice none 0 0, rfl, hF.lins (by simp [hI.lx]) (by omega), Sl.nil⟩ (by simp only; omega) (by omega)) rfl trivial ?_
            refine L.boxesEq ((q6, .cells [.int .i64 b.chairs, .int .i64 b.coin, .int .i64 b.box, v2, .slice none 0 0].toArray 25 (0, 0)) :: (q5, .cells [.int .i64 z.kind, .int .i64 z.chair, .int .i64 z.token].toArray 68 (0, 0)) :: (q3, .cells [.int .i64 b.chairs, .int .i64 b.coin, .int .i64 b.box, vx, .slice none 0 0].toArray 25 (0, 0)) :: (q2, .cells [.int .i64 0, .int .i64 0, .int .i64 0, .slice none 0 0, .slice none 0 0].toArray 25 (0, 0)) :: (ν2 ++ (νx ++ νT))) (by simp) ?_
            refine L.gtr rfl rfl rfl rfl trivial ?_
            refine L.nil ?_
            refine C.next ?_
            refine C.condD rfl (fun hc9 => ?_) (fun hc9 => ?_)
            · obtain ⟨yb, ycap, yjunk, rfl, hycap, rfl, hyl1, hyl2⟩ := ha2.some (by omega)
              obtain ⟨tb, tcap, tjunk, rfl, htcap, rfl, htl1, htl2⟩ := haT.some (by omega)
              refine C.draw [] 1 [0,1,2,3,4,5,6,7,8,9,10,11,12,13] [false,false,true,true,true,true,true,true,true,true,true,true,false,false] [(false,0),(false,1),(true,2),(true,3),(true,4),(true,5),(true,6),(true,7),(true,8),(true,9),(true,10),(true,11),(false,12),(false,13)] Tf.follows (fun _ _ _ h => np_body (P := Try.prog) (fn := Try.f6) _ _ _ h) (by kernel_rfl) rfl ?_
              refine L.fieldAddr rfl Tf.f25_3 rfl rfl trivial ?_
              refine L.loadB1 rfl Tf.a22 rfl (List.Mem.head _) rfl List.not_mem_nil rfl trivial ?_
              refine L.fieldAddr rfl Tf.f25_3 rfl rfl trivial ?_
              refine L.loadB1 rfl Tf.a22 rfl (List.Mem.head _) rfl List.not_mem_nil rfl trivial ?_
              refine L.lenV rfl Try.underlying22 rfl rfl rfl trivial ?_
              refine L.sub rfl rfl rfl (by simp only [inK]; omega) rfl trivial ?_
              refine L.move rfl rfl rfl trivial ?_
              refine L.move rfl rfl rfl trivial ?_
              refine L.lenV rfl Try.underlying22 rfl rfl rfl trivial ?_
              refine L.sub rfl rfl rfl (by simp only [inK]; omega) rfl trivial ?_
              refine L.indexP rfl Try.underlying22 Tf.s68 rfl rfl (by push_cast; omega) (by push_cast; omega) rfl trivial ?_
              refine L.loadBP (n := 3) (us := [.int .i64 x.kind, .int .i64 x.chair, .int .i64 x.token]) (vs := linC (ts ++ [x]) ++ tjunk) (e := 68) (fz := (0, 0)) rfl Tf.a68 Tf.s68 rfl (by simp) (by rw [show 0 + (((i + 1 : Nat) : Int) - 1).toNat * 3 = i * 3 by omega]; exact linC_lastAt hI.lt) rfl List.not_mem_nil rfl trivial ?_
              refine L.indexP rfl Try.underlying22 Tf.s68 rfl rfl (by push_cast; omega) (by push_cast; omega) rfl trivial ?_
              refine L.store (off := i * 3) (us := [.int .i64 x.kind, .int .i64 x.chair, .int .i64 x.token]) (vs := linC (xs ++ [z]) ++ yjunk) (ws := linC (xs ++ [x]) ++ yjunk) rfl (ptr_eq (by omega)) rfl rfl Tf.s68 (.tail (.tail (.tail (.tail .head)))) (by show i * 3 + 3 ≤ _; rw [List.length_append, linC_len, List.length_append, hI.lx, List.length_singleton]; omega) (linC_last hI.lx) (by simp [cell1]) trivial ?_
              refine L.nil ?_
              refine C.next ?_
              refine C.region [(false,0),(false,1)] rfl ?_
              refine L.loadBW rfl Tf.a25 rfl (List.Mem.head _) Tf.s25 List.not_mem_nil rfl trivial ?_
              refine L.storeW rfl rfl rfl rfl Tf.s25 (by first | rfl | (simp only [ints_length, *]; done) | (simp only [ints_length, *]; rfl) | (simp only [ints_length, *]; omega)) (by first | rfl | (simp only [ints_length, *]; done) | (simp only [ints_length, *]; rfl) | (simp only [ints_length, *]; omega)) (.tail (.tail (Has.head))) (cell1_book (by first | exact ha2.cell1 | simp [cell1]) (by simp [cell1])) trivial ?_
              refine L.nil ?_
              refine C.blockEnd ?_
              refine C.next ?_
              refine C.region [(false,0),(false,1),(false,2)] rfl ?_
              refine L.move rfl rfl rfl trivial ?_
              refine L.add rfl rfl rfl (by simp only [inK]; omega) rfl trivial ?_
              refine L.assign rfl rfl rfl trivial ?_
              refine L.nil ?_
              exact C.againR 33 (i + 1, xs ++ [x], ts ++ [x], .slice (some ⟨yb, 0, none⟩) (i + 1) ycap, [(yb, .cells (linC (xs ++ [x]) ++ yjunk).toArray 68 (0, 0))], .slice (some ⟨tb, 0, none⟩) (i + 1) tcap, [(tb, .cells (linC (ts ++ [x]) ++ tjunk).toArray 68 (0, 0))]) ⟨by simp only; omega, hI.add agr_self hxo, acc_lastL hI.lx hycap hyl2, Or.inr ⟨tb, tcap, tjunk, rfl, htcap, rfl, htl1, htl2⟩⟩ (by simp only; omega) ⟨(by first | rfl | (show some (Value.int _ _) = some (Value.int _ _); congr 2; omega)), (by first | rfl | (show some (Value.int _ _) = some (Value.int _ _); congr 2; omega)), trivial⟩ rfl rfl (sub_y) (fun D h => ⟨D, List.Mem.tail _ (List.Mem.tail _ (h)), Le.refl D⟩)
            · refine C.skip ?_
              refine C.next ?_
              refine C.region [(false,0),(false,1)] rfl ?_
              refine L.loadBW rfl Tf.a25 rfl (List.Mem.head _) Tf.s25 List.not_mem_nil rfl trivial ?_
              refine L.storeW rfl rfl rfl rfl Tf.s25 (by first | rfl | (simp only [ints_length, *]; done) | (simp only [ints_length, *]; rfl) | (simp only [ints_length, *]; omega)) (by first | rfl | (simp only [ints_length, *]; done) | (simp only [ints_length, *]; rfl) | (simp only [ints_length, *]; omega)) (.tail (.tail (Has.head))) (cell1_book (by first | exact ha2.cell1 | simp [cell1]) (by simp [cell1])) trivial ?_
              refine L.nil ?_
              refine C.blockEnd ?_
              refine C.next ?_
              refine C.region [(false,0),(false,1),(false,2)] rfl ?_
              refine L.move rfl rfl rfl trivial ?_
              refine L.add rfl rfl rfl (by simp only [inK]; omega) rfl trivial ?_
              refine L.assign rfl rfl rfl trivial ?_
              refine L.nil ?_
              exact C.againR 20 (i + 1, xs ++ [z], ts ++ [x], v2, ν2, vT, νT) ⟨by simp only; omega, hI.add hz hxo, ha2, haT⟩ (by simp only; omega) ⟨(by first | rfl | (show some (Value.int _ _) = some (Value.int _ _); congr 2; omega)), (by first | rfl | (show some (Value.int _ _) = some (Value.int _ _); congr 2; omega)), trivial⟩ rfl rfl (sub_y) (fun D h => ⟨D, List.Mem.tail _ (List.Mem.tail _ (h)), Le.refl D⟩)
    · refine C.exit ?_
      refine C.thenExit ?_
      refine C.thenExit ?_
      refine C.blockExit ?_
      refine C.nextJ ?_
      exact fun a w hh => ⟨(xs, ts, vx, νx, vt, νt), ⟨i, by omega, hI, hax, hat⟩, hh.weak ⟨rfl, rfl, rfl, rfl, rfl, rfl, trivial⟩ (List.Sublist.refl _) (by intro D0 hD0; simp only [List.mem_cons, List.not_mem_nil, or_false] at hD0; exact ⟨D0, by rcases hD0 with rfl | rfl <;> simp, Le.refl _⟩)⟩
  rintro ⟨xs, ts, vx, νx, vt, νt⟩ ⟨i, h8, hI, hax, hat⟩
  simp only at hI hax hat ⊢
  refine C.seq ?_
  refine C.seq ?_
  refine C.region [(false,0)] rfl ?_
  refine L.assign rfl rfl rfl trivial ?_
  refine L.nil ?_
  refine C.next ?_
  refine C.block ?_
  refine C.loopR (γ := Nat × List Cn × Value × Boxes) (fun g => 3 - g.1) (fun g => g.1 ≤ 3 ∧ g.2.1.length ≤ g.1 ∧ CntsOk b ts g.2.1 ∧ Acc 72 3 g.2.2.1 g.2.1.length (cnC g.2.1) g.2.2.2) (fun g => [(16, .int .i64 (g.1 : Int))]) [(7, _), (6, _), (5, _), (4, _), (2, _), (1, _)] (fun g => (q3, .cells [.int .i64 b.chairs, .int .i64 b.coin, .int .i64 b.box, vx, g.2.2.1].toArray 25 (0, 0)) :: (q2, .cells [.int .i64 0, .int .i64 0, .int .i64 0, .slice none 0 0, .slice none 0 0].toArray 25 (0, 0)) :: (νx ++ (νt ++ g.2.2.2))) (fun g => [E1, D]) (0, [], .slice none 0 0, []) ⟨by omega, by simp, CntsOk.nil, Acc.nil⟩ ⟨(by first | rfl | (show some (Value.int _ _) = some (Value.int _ _); congr 2; omega)), trivial⟩ ⟨rfl, rfl, rfl, rfl, rfl, rfl, trivial⟩ (by simp) (ds_same) ?_
  rintro ⟨j, cs, vc, νc⟩ ⟨hj3, hcsl, hcn, hac⟩
  simp only at hj3 hcsl hcn hac
  refine C.seq ?_
  refine C.seq ?_
  refine C.region [(false,0),(false,1),(false,2),(false,3),(false,4)] rfl ?_
  refine L.move rfl rfl rfl trivial ?_
  refine L.move rfl rfl rfl trivial ?_
  refine L.call rfl rfl rfl (fun D3 hD3 => word3_ok _ ws _ _ (hw.up RK.up (hD3 _ (by simp))) (by omega) (by omega)) rfl trivial (fun v3 D3 hD3 hp3 => ?_)
  obtain ⟨rfl, hwa3, hwb3⟩ := hp3
  refine L.rem rfl rfl rfl (by omega) (by omega) (by simp only [inK]; omega) rfl trivial ?_
  refine L.lss rfl rfl rfl rfl trivial ?_
  refine L.nil ?_
  refine C.next ?_
  refine C.condD rfl (fun hc10 => ?_) (fun hc10 => ?_)
  · refine C.skip ?_
    refine C.next ?_
    refine C.seq ?_
    refine C.block ?_
    refine C.seq ?_
    refine C.region [(false,0),(false,1),(false,2),(false,3),(false,4)] rfl ?_
    refine L.move rfl rfl rfl trivial ?_
    refine L.move rfl rfl rfl trivial ?_
    refine L.add rfl rfl rfl (by simp only [inK]; omega) rfl trivial ?_
    refine L.call rfl rfl rfl (fun D4 hD4 => word3_ok _ ws ((j : Int) + 11) _ (hw.up RK.up (hD4 _ (by simp))) (by omega) (by omega)) rfl trivial (fun v4 D4 hD4 hp4 => ?_)
    obtain ⟨rfl, hwa4, hwb4⟩ := hp4
    refine L.assign rfl rfl rfl trivial ?_
    refine L.nil ?_
    refine C.next ?_
    refine C.seq ?_
    refine C.region [(false,0),(false,1),(false,2),(false,3),(false,4),(false,5),(false,6),(false,7)] rfl ?_
    refine L.move rfl rfl rfl trivial ?_
    refine L.move rfl rfl rfl trivial ?_
    refine L.lenAcc rfl Try.underlying22 rfl hat rfl rfl trivial ?_
    refine L.add rfl rfl rfl (by simp only [inK]; omega) rfl trivial ?_
    obtain ⟨an, han⟩ := Int.eq_ofNat_of_zero_le (Int.emod_nonneg (wordV ws ((j : Int) + 11)) (show ((i : Int) + 1) ≠ 0 by omega))
    have hanl : an ≤ i := by have := Int.emod_lt_of_pos (wordV ws ((j : Int) + 11)) (show (0 : Int) < (i : Int) + 1 by omega); omega
    have hml := mon_le (b := b) (t := ts) (by omega) an
    refine L.rem rfl rfl rfl (by omega) (by omega) (by rw [han]; simp only [inK]; omega) rfl trivial ?_
    rw [han]
    refine L.build (cs := [.int .i64 (an : Int), .int .i64 0, .int .i64 0]) rfl Tf.p72 Tf.z72 rfl rfl rfl trivial ?_
    refine L.alloc rfl Tf.z72 rfl rfl trivial (fun q4 => ?_)
    refine L.storeW rfl rfl rfl rfl Tf.s72 (by first | rfl | (simp only [ints_length, *]; done) | (simp only [ints_length, *]; rfl) | (simp only [ints_length, *]; omega)) (by first | rfl | (simp only [ints_length, *]; done) | (simp only [ints_length, *]; rfl) | (simp only [ints_length, *]; omega)) (Has.head) (by first | exact ints_cell1 _ | simp [cell1]) trivial ?_
    refine L.nil ?_
    refine C.next ?_
    refine C.seq ?_
    refine C.region [(false,0),(false,1),(false,2),(false,3),(false,4),(false,5)] rfl ?_
    refine L.loadDW rfl Tf.a25 rfl hB1 (by first | simp | assumption) Tf.s25 List.not_mem_nil rfl trivial ?_
    refine L.move rfl rfl rfl trivial ?_
    refine L.fieldAddr rfl Tf.f72_0 rfl rfl trivial ?_
    refine L.loadB1 rfl Tf.a3 rfl (List.Mem.head _) rfl List.not_mem_nil rfl trivial ?_
    refine L.boxesEq (((q4, .cells [.int .i64 (an : Int), .int .i64 0, .int .i64 0].toArray 72 (0, 0)) :: (q3, .cells [.int .i64 b.chairs, .int .i64 b.coin, .int .i64 b.box, vx, vc].toArray 25 (0, 0)) :: (q2, .cells [.int .i64 0, .int .i64 0, .int .i64 0, .slice none 0 0, .slice none 0 0].toArray 25 (0, 0)) :: νx) ++ νt ++ νc) (by simp) ?_
    refine L.callAcc (A := (_, _) :: (_, _) :: (_, _) :: νx) (ν := νt) (B := νc) (r := .int .i64 (monR b ts an)) rfl rfl rfl hat (fun D HD hF => rMoney_ok _ _ b ts an _ (hb0.up (HD _ (by simp))) (hF.lins hI.lt (by omega)) (by rw [hI.lt]; omega) (by rw [hI.lt]; omega) (by omega) (by omega)) rfl trivial ?_
    refine L.boxesEq ((q4, .cells [.int .i64 (an : Int), .int .i64 0, .int .i64 0].toArray 72 (0, 0)) :: (q3, .cells [.int .i64 b.chairs, .int .i64 b.coin, .int .i64 b.box, vx, vc].toArray 25 (0, 0)) :: (q2, .cells [.int .i64 0, .int .i64 0, .int .i64 0, .slice none 0 0, .slice none 0 0].toArray 25 (0, 0)) :: (νx ++ (νt ++ νc))) (by simp) ?_
    refine L.assign rfl rfl rfl trivial ?_
    refine L.nil ?_
    refine C.next ?_
    refine C.seq ?_
    refine C.region [(false,0),(false,1),(false,2),(false,3),(false,4),(false,5),(false,6),(false,7),(false,8),(false,9),(false,10),(false,11),(false,12),(false,13),(false,14)] rfl ?_
    refine L.move rfl rfl rfl trivial ?_
    refine L.move rfl rfl rfl trivial ?_
    refine L.quo rfl rfl rfl (by omega) (by omega) (by simp only [inK]; omega) rfl trivial ?_
    refine L.rem rfl rfl rfl (by omega) (by omega) (by simp only [inK]; omega) rfl trivial ?_
    refine L.sub rfl rfl rfl (by simp only [inK]; omega) rfl trivial ?_
    refine L.max2 rfl rfl rfl rfl trivial ?_
    refine L.move rfl rfl rfl trivial ?_
    refine L.move rfl rfl rfl trivial ?_
    refine L.quo rfl rfl rfl (by omega) (by omega) (by simp only [inK]; omega) rfl trivial ?_
    refine L.rem rfl rfl rfl (by omega) (by omega) (by simp only [inK]; omega) rfl trivial ?_
    refine L.add rfl rfl rfl (by simp only [inK]; omega) rfl trivial ?_
    refine L.max2 rfl rfl rfl rfl trivial ?_
    refine L.build (cs := [.int .i64 (max 0 (monR b ts an - wordV ws ((j : Int) + 11) / 16 % 8)), .int .i64 (max 0 (monR b ts an + wordV ws ((j : Int) + 11) / 128 % 8))]) rfl Tf.p70 Tf.z70 rfl rfl rfl trivial ?_
    refine L.fieldAddr rfl Tf.f72_1 rfl rfl trivial ?_
    refine L.store rfl rfl rfl rfl Tf.s70 (Has.head) (by simp) rfl (by simp [cell1]) trivial ?_
    refine L.nil ?_
    refine C.next ?_
    refine C.seq ?_
    refine C.region [(false,0),(false,1),(false,2),(false,3),(false,4),(false,5),(false,6),(false,7)] rfl ?_
    refine L.move rfl rfl rfl trivial ?_
    refine L.geq rfl rfl rfl rfl trivial ?_
    refine L.move rfl rfl rfl trivial ?_
    refine' L.and [(false,3),(false,4),(false,5),(false,6),(false,7)] [] (s := 161) (p := 166) rfl rfl (fun hg1 => ?_) (fun hg1 => ?_) ?_
    rotate_left
    · refine L.fieldAddr rfl Tf.f72_1 rfl rfl ⟨_, rfl, rfl⟩ ?_
      refine L.fieldAddr rfl Tf.f70_1 rfl rfl ⟨_, rfl, rfl⟩ ?_
      refine L.loadB1 rfl Tf.a3 rfl (List.Mem.head _) rfl List.not_mem_nil rfl ⟨_, rfl, rfl⟩ ?_
      refine L.leq rfl rfl rfl rfl ⟨_, rfl, rfl⟩ ?_
      refine L.pickT rfl rfl rfl rfl trivial ?_
      exact L.nil fun a w hh => hh.cutK 4 rfl
    · refine L.pass rfl rfl rfl ⟨_, _, rfl, rfl, rfl⟩ ?_
      refine L.pass rfl rfl rfl ⟨_, _, rfl, rfl, rfl⟩ ?_
      refine L.pass rfl rfl rfl ⟨_, _, rfl, rfl, rfl⟩ ?_
      refine L.pass rfl rfl rfl ⟨_, _, rfl, rfl, rfl⟩ ?_
      refine L.pickF rfl rfl rfl rfl trivial ?_
      exact L.nil fun a w hh => hh.cutK 4 rfl
    refine L.nil ?_
    refine C.next ?_
    refine C.cond rfl (fun hc11 => ?_) (fun hc11 => ?_)
    · have hcy := hc11
      refine C.region [(false,0),(false,1),(false,2),(false,3),(false,4),(false,5),(false,6)] rfl ?_
      refine L.fieldAddr rfl Tf.f25_4 rfl rfl trivial ?_
      refine L.loadB1 rfl Tf.a23 rfl (List.Mem.tail _ (List.Mem.head _)) rfl List.not_mem_nil rfl trivial ?_
      refine L.loadBW rfl Tf.a72 rfl (List.Mem.head _) Tf.s72 List.not_mem_nil rfl trivial ?_
      refine L.buildSlice rfl Try.underlying23 Tf.s72 Tf.z72 rfl rfl rfl rfl (.cons rfl rfl .nil) rfl trivial (fun b941 D941 hD941 hA941 => ?_)
      have hAl := hA941
      refine L.boxesEq (([(q4, .cells [.int .i64 (an : Int), .int .i64 (max 0 (monR b ts an - wordV ws ((j : Int) + 11) / 16 % 8)), .int .i64 (max 0 (monR b ts an + wordV ws ((j : Int) + 11) / 128 % 8))].toArray 72 (0, 0)), (q3, .cells [.int .i64 b.chairs, .int .i64 b.coin, .int .i64 b.box, vx, vc].toArray 25 (0, 0)), (q2, .cells [.int .i64 0, .int .i64 0, .int .i64 0, .slice none 0 0, .slice none 0 0].toArray 25 (0, 0))] ++ (νx ++ νt)) ++ νc ++ []) (by simp) ?_
      refine L.append (A := [(_, _), (_, _), (_, _)] ++ (νx ++ νt)) (ν := νc) (B := []) rfl Try.underlying23 rfl rfl Tf.s72 Tf.z72 rfl Tf.i72 rfl rfl rfl hac (Src.lit hAl) (by simp) rfl (cnC_len _) (by simp [cell1]) (by omega) (Or.inl rfl) rfl trivial (fun v9 ν9 ha9 => ?_)
      refine L.boxesEq ((q4, .cells [.int .i64 (an : Int), .int .i64 (max 0 (monR b ts an - wordV ws ((j : Int) + 11) / 16 % 8)), .int .i64 (max 0 (monR b ts an + wordV ws ((j : Int) + 11) / 128 % 8))].toArray 72 (0, 0)) :: (q3, .cells [.int .i64 b.chairs, .int .i64 b.coin, .int .i64 b.box, vx, vc].toArray 25 (0, 0)) :: (q2, .cells [.int .i64 0, .int .i64 0, .int .i64 0, .slice none 0 0, .slice none 0 0].toArray 25 (0, 0)) :: (νx ++ (νt ++ ν9))) (by simp) ?_
      have hn9 : Acc 72 3 v9 ((cs ++ [⟨(an : Int), max 0 (monR b ts an - wordV ws ((j : Int) + 11) / 16 % 8), max 0 (monR b ts an + wordV ws ((j : Int) + 11) / 128 % 8)⟩] : List Cn).length) (cnC (cs ++ [⟨(an : Int), max 0 (monR b ts an - wordV ws ((j : Int) + 11) / 16 % 8), max 0 (monR b ts an + wordV ws ((j : Int) + 11) / 128 % 8)⟩])) ν9 := by rw [cnC_snoc]; simpa using ha9
      refine L.fieldAddr rfl Tf.f25_4 rfl rfl trivial ?_
      refine L.store rfl rfl rfl ha9.cells1 Tf.s23 (.tail .head) (by simp) rfl ha9.cell1 trivial ?_
      refine L.nil ?_
      refine C.blockEnd ?_
      refine C.next ?_
      refine C.region [(false,0),(false,1),(false,2)] rfl ?_
      refine L.move rfl rfl rfl trivial ?_
      refine L.add rfl rfl rfl (by simp only [inK]; omega) rfl trivial ?_
      refine L.assign rfl rfl rfl trivial ?_
      refine L.nil ?_
      exact C.againR 51 (j + 1, cs ++ [⟨(an : Int), max 0 (monR b ts an - wordV ws ((j : Int) + 11) / 16 % 8), max 0 (monR b ts an + wordV ws ((j : Int) + 11) / 128 % 8)⟩], v9, ν9) ⟨by simp only; omega, by simp only [List.length_append, List.length_singleton]; omega, hcn.add (cnt_ok hcy (by rw [hI.lt]; exact hanl)), hn9⟩ (by simp only; omega) ⟨(by first | rfl | (show some (Value.int _ _) = some (Value.int _ _); congr 2; omega)), trivial⟩ rfl rfl (.cons _ (List.Sublist.refl _)) (fun D h => ⟨D, List.Mem.tail _ (List.Mem.tail _ (List.Mem.tail _ (h))), Le.refl D⟩)
    · refine C.skip ?_
      refine C.blockEnd ?_
      refine C.next ?_
      refine C.region [(false,0),(false,1),(false,2)] rfl ?_
      refine L.move rfl rfl rfl trivial ?_
      refine L.add rfl rfl rfl (by simp only [inK]; omega) rfl trivial ?_
      refine L.assign rfl rfl rfl trivial ?_
      refine L.nil ?_
      exact C.againR 45 (j + 1, cs, vc, νc) ⟨by simp only; omega, by simp only; omega, hcn, hac⟩ (by simp only; omega) ⟨(by first | rfl | (show some (Value.int _ _) = some (Value.int _ _); congr 2; omega)), trivial⟩ rfl rfl (.cons _ (List.Sublist.refl _)) (fun D h => ⟨D, List.Mem.tail _ (List.Mem.tail _ (h)), Le.refl D⟩)
  · refine C.exit ?_
    refine C.thenExit ?_
    refine C.thenExit ?_
    refine C.blockExit ?_
    refine C.next ?_
    refine C.seq ?_
    refine C.region [(false,0),(false,1),(false,2),(false,3)] rfl ?_
    refine L.loadBW rfl Tf.a25 rfl (List.Mem.head _) Tf.s25 List.not_mem_nil rfl trivial ?_
    refine L.move rfl rfl rfl trivial ?_
    refine L.storeW rfl rfl rfl rfl Tf.s25 (by first | rfl | (simp only [ints_length, *]; done) | (simp only [ints_length, *]; rfl) | (simp only [ints_length, *]; omega)) (by first | rfl | (simp only [ints_length, *]; done) | (simp only [ints_length, *]; rfl) | (simp only [ints_length, *]; omega)) (.tail (Has.head)) (cell1_book hax.cell1 hac.cell1) trivial ?_
    refine L.assign rfl rfl rfl trivial ?_
    refine L.nil ?_
    refine C.next ?_
    refine C.ret ?_
    refine Q.boxesEq ([(q3, .cells [.int .i64 b.chairs, .int .i64 b.coin, .int .i64 b.box, vx, vc].toArray 25 (0, 0)), (q2, .cells [.int .i64 b.chairs, .int .i64 b.coin, .int .i64 b.box, vx, vc].toArray 25 (0, 0))] ++ νx ++ (νt ++ νc)) (by simp) ?_
    refine Q.freeze (A := [(_, _), (_, _)]) (B := νt ++ νc) hax rfl (fun D7 hD7 hF7 => ?_)
    refine Q.boxesEq ([(q3, .cells [.int .i64 b.chairs, .int .i64 b.coin, .int .i64 b.box, vx, vc].toArray 25 (0, 0)), (q2, .cells [.int .i64 b.chairs, .int .i64 b.coin, .int .i64 b.box, vx, vc].toArray 25 (0, 0))] ++ νt ++ νc) (by simp) ?_
    refine Q.freeze (A := [(_, _), (_, _)]) (B := νc) hat rfl (fun D8 hD8 hF8 => ?_)
    refine Q.boxesEq ([(q3, .cells [.int .i64 b.chairs, .int .i64 b.coin, .int .i64 b.box, vx, vc].toArray 25 (0, 0)), (q2, .cells [.int .i64 b.chairs, .int .i64 b.coin, .int .i64 b.box, vx, vc].toArray 25 (0, 0))] ++ νc ++ []) (by simp) ?_
    refine Q.freeze (A := [(_, _), (_, _)]) (B := []) hac rfl (fun D9 hD9 hF9 => ?_)
    exact leave (vs := [_, _]) rfl rfl rfl ⟨⟨_, _, _, rfl, (List.Mem.tail _ (List.Mem.head _)), Or.inr ⟨Tf.a25, Tf.s25, rfl⟩⟩, rfl, trivial⟩ (fun D hD => ⟨⟨b.chairs, b.coin, b.box, xs, cs⟩, ts, _, _, rfl, ⟨vx, vc, rfl, ((hF7.lins hI.lx (by omega)).up RLin.up ((hD8 _ (by simp)).trans (hD9 _ (by simp)))).up RLin.up (hD _ (by simp)), (hF9.cns rfl (by omega)).up RCn.up (hD _ (by simp))⟩, ((hF8.lins hI.lt (by omega)).up RLin.up (hD9 _ (by simp))).up RLin.up (hD _ (by simp)), rfl, rfl, rfl, by rw [hI.lt]; exact hI, by rw [hI.lt]; omega, by simp only; omega, hcn⟩)
end Go.Fs
