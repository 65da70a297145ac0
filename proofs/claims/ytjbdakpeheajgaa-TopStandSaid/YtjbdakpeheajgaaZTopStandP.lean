/- Of the proof of TopStand: V28. -/
import Derived.Test.YtjbdakpeheajgaaZTopStandO
namespace Go.Fs
open Go.Proofs
open C3
theorem ts_in {b : BookD} (h : ((!C1.inB b.chairs 1 4 || !C1.inB b.coin 1 99) || !C1.inB b.box 0 999) = false) : (1 ≤ b.chairs ∧ b.chairs ≤ 4) ∧ (1 ≤ b.coin ∧ b.coin ≤ 99) ∧ 0 ≤ b.box ∧ b.box ≤ 999 := by
  simp only [Bool.or_eq_false_iff, Bool.not_eq_false', C1.inB_iff] at h
  exact ⟨h.1.1, h.1.2, h.2⟩
theorem ts_thin {x : BookD} (h : (!thin3 x || decide (faultR x ≠ 0)) = false) : thin3 x = true ∧ faultR x = 0 := by
  simp only [Bool.or_eq_false_iff, Bool.not_eq_false', decide_eq_false_iff_not, Classical.not_not] at h
  exact h
theorem vdT_len {x : BookD} {t : List Lin} (h : BT x t) {k : Nat} (hk : k ≤ t.length) : (verdicts x.chairs.toNat qTk ((runS x 0 (begin0 x)).map fun y => atS y k)).length = x.chairs.toNat := by
  have h4 : ∀ s ∈ (runS x 0 (begin0 x)).map (fun y => atS y k), s.ch.length = 4 := fun s hs => by
    obtain ⟨y, hy, rfl⟩ := List.mem_map.1 hs
    unfold runS at hy
    obtain ⟨z, hz, rfl⟩ := List.mem_map.1 hy
    obtain ⟨g1, g2⟩ := runs_ok x _ _ _ rfl rfl z hz
    rw [List.drop_zero] at g1
    obtain ⟨u, hu⟩ : ∃ u, z.2[k]? = some u := ⟨_, List.getElem?_eq_getElem (by have := h.len; omega)⟩
    rw [atS_is hu]
    exact (g2 u (List.mem_of_getElem? hu)).1
  exact (verdict_facts (n := x.chairs.toNat) (q := qTk) (fun s s' i a c d => (qCh_same i a c d).2) h4).1
def tauI (n : Nat) (t : List Lin) (k i : Nat) : List Int := (List.range n).map fun j : Nat => if j < i ∧ coR Lin.chair t j k < 0 then 1 else 0
theorem tauI_zero {n : Nat} {t : List Lin} {k : Nat} : tauI n t k 0 = List.replicate n 0 := by
  refine List.ext_getElem? fun i => ?_
  unfold tauI
  rw [List.getElem?_map, List.getElem?_replicate]
  by_cases h : i < n
  · rw [List.getElem?_range h, if_pos h]; simp
  · rw [List.getElem?_eq_none (by simpa using h), if_neg h]; rfl
theorem tauI_all {n : Nat} {t : List Lin} {k : Nat} : tauI n t k n = tauS n t k := by
  unfold tauI tauS
  exact List.map_congr_left fun j hj => by
    have := List.mem_range.1 hj
    by_cases h : coR Lin.chair t j k < 0
    · rw [if_pos ⟨this, h⟩, if_pos h]
    · rw [if_neg (fun hh => h hh.2), if_neg h]
theorem tauI_no {n : Nat} {t : List Lin} {k i : Nat} (h : ¬ coR Lin.chair t (i : Int) k < 0) : tauI n t k (i + 1) = tauI n t k i := by
  unfold tauI
  exact List.map_congr_left fun j _ => by
    by_cases e : j = i
    · subst e; rw [if_neg (fun hh => h hh.2), if_neg (fun hh => h hh.2)]
    · by_cases h' : j < i ∧ coR Lin.chair t j k < 0
      · rw [if_pos h', if_pos ⟨by omega, h'.2⟩]
      · rw [if_neg h', if_neg (fun hh => h' ⟨by omega, hh.2⟩)]
theorem tauI_yes {n : Nat} {t : List Lin} {k i : Nat} (h : coR Lin.chair t (i : Int) k < 0) (hi : i < n) : tauI n t k (i + 1) = (tauI n t k i).set i 1 := by
  refine List.ext_getElem? fun j => ?_
  rw [List.getElem?_set]
  by_cases e : i = j
  · subst e
    rw [if_pos rfl, if_pos (by simp [tauI]; omega)]
    unfold tauI
    rw [List.getElem?_map, List.getElem?_range hi]
    simp [h]
  · rw [if_neg e]
    unfold tauI
    rw [List.getElem?_map, List.getElem?_map]
    by_cases hj : j < n
    · rw [List.getElem?_range hj]
      simp only [Option.map_some, Option.some.injEq]
      by_cases h' : j < i ∧ coR Lin.chair t j k < 0
      · rw [if_pos h', if_pos ⟨by omega, h'.2⟩]
      · rw [if_neg h', if_neg (fun hh => h' ⟨by omega, hh.2⟩)]
    · rw [List.getElem?_eq_none (by simpa using hj)]; rfl
theorem chairs3_ok {x : BookD} {t : List Lin} (h : BT x t) {k : Nat} (hk : k ≤ t.length) {O : Int} (hO : outs (scK x t k).ch = O) (rv : Value) (D : Data) (hr : RowIs D rv (stoodD (vdS x k) (x.chairs - O))) : Fn Try.prog 16 #[rv, .int .i64 0, .int .i64 (x.chairs - 1)] D (fun _ v => v = .tuple #[k2V (x.chairs - O, x.chairs - O), .int .i64 0]) := by
  obtain ⟨_, h2, h3, h4⟩ := stand_row h hk hO
  refine (Chairs_ok rv _ 0 (x.chairs - 1) D hr).mono fun _ v _ hv => ?_
  rw [hv, h2, if_pos rfl, h3, h4]; rfl
set_option maxHeartbeats 4000000 in
theorem TopStand_ok (bv wv : Value) (b : BookD) (ws : List Int) (a : Int) (D : Data) (hb : BookIs D bv b) (hw : Sl D (RK .u16) 1 wv ws) (ha : 0 ≤ a ∧ a ≤ 255) : Fn Try.prog 3 #[bv, wv, .int .u8 a] D (fun _ v => v = .bool true) := by
  have hb0 := hb
  obtain ⟨lv, cv, rfl, hl, hc⟩ := hb
  refine enter 224 Try.func3 rfl rfl rfl rfl fun h0 => ?_
  refine C.seq ?_
  refine C.region [(false,0),(false,1)] rfl ?_
  refine L.boxD rfl rfl rfl rfl trivial (fun q1 E1 hE1 hB1 => ?_)
  refine L.assign rfl rfl rfl trivial ?_
  refine L.nil ?_
  refine C.next ?_
  refine C.seq ?_
  refine C.seq ?_
  refine C.region [(false,0),(false,1),(false,2),(false,3),(false,4),(false,5),(false,6),(false,7),(false,8),(false,9),(false,10),(false,11),(false,12),(false,13),(false,14),(false,15)] rfl ?_
  refine L.fieldAddr rfl Tf.f25_0 rfl rfl trivial ?_
  refine L.loadD1 rfl (k := 0) Tf.a3 rfl hB1 (by first | simp | assumption) rfl List.not_mem_nil rfl trivial ?_
  refine L.callV rfl rfl rfl (fun D1 hD1 => tIn_ok _ _ _ _) rfl trivial ?_
  refine L.not rfl rfl rfl trivial ?_
  refine L.move rfl rfl rfl trivial ?_
  refine' L.or [(false,5),(false,6),(false,7),(false,8),(false,9)] [(false,10),(false,11),(false,12),(false,13),(false,14),(false,15)] (s := 28) (p := 33) rfl rfl (fun hg1 => ?_) (fun hg1 => ?_) ?_
  rotate_left
  · refine L.fieldAddr rfl Tf.f25_1 rfl rfl ⟨_, rfl, rfl⟩ ?_
    refine L.loadD1 rfl (k := 1) Tf.a3 rfl hB1 (by first | simp | assumption) rfl List.not_mem_nil rfl ⟨_, rfl, rfl⟩ ?_
    refine L.callV rfl rfl rfl (fun D2 hD2 => tIn_ok _ _ _ _) rfl ⟨_, rfl, rfl⟩ ?_
    refine L.not rfl rfl rfl ⟨_, rfl, rfl⟩ ?_
    refine L.pickF rfl rfl rfl rfl trivial ?_
    exact L.nil fun a w hh => hh.cutK 4 rfl
  · refine L.pass rfl rfl rfl ⟨_, _, rfl, rfl, rfl⟩ ?_
    refine L.pass rfl rfl rfl ⟨_, _, rfl, rfl, rfl⟩ ?_
    refine L.pass rfl rfl rfl ⟨_, _, rfl, rfl, rfl⟩ ?_
    refine L.pass rfl rfl rfl ⟨_, _, rfl, rfl, rfl⟩ ?_
    refine L.pickT rfl rfl rfl rfl trivial ?_
    exact L.nil fun a w hh => hh.cutK 4 rfl
  refine L.move rfl rfl rfl trivial ?_
  refine' L.or [(false,11),(false,12),(false,13),(false,14),(false,15)] [] (s := 34) (p := 39) rfl rfl (fun hg2 => ?_) (fun hg2 => ?_) ?_
  rotate_left
  · refine L.fieldAddr rfl Tf.f25_2 rfl rfl ⟨_, rfl, rfl⟩ ?_
    refine L.loadD1 rfl (k := 2) Tf.a3 rfl hB1 (by first | simp | assumption) rfl List.not_mem_nil rfl ⟨_, rfl, rfl⟩ ?_
    refine L.callV rfl rfl rfl (fun D3 hD3 => tIn_ok _ _ _ _) rfl ⟨_, rfl, rfl⟩ ?_
    refine L.not rfl rfl rfl ⟨_, rfl, rfl⟩ ?_
    refine L.pickF rfl rfl rfl rfl trivial ?_
    exact L.nil fun a w hh => hh.cutK 4 rfl
  · refine L.pass rfl rfl rfl ⟨_, _, rfl, rfl, rfl⟩ ?_
    refine L.pass rfl rfl rfl ⟨_, _, rfl, rfl, rfl⟩ ?_
    refine L.pass rfl rfl rfl ⟨_, _, rfl, rfl, rfl⟩ ?_
    refine L.pass rfl rfl rfl ⟨_, _, rfl, rfl, rfl⟩ ?_
    refine L.pickT rfl rfl rfl rfl trivial ?_
    exact L.nil fun a w hh => hh.cutK 4 rfl
  refine L.nil ?_
  refine C.next ?_
  refine C.cond rfl (fun hc1 => ?_) (fun hc1 => ?_)
  · refine C.seq ?_
    refine C.region [(false,0),(false,1)] rfl ?_
    refine L.callV rfl rfl rfl (fun D4 hD4 => left_ok _) rfl trivial ?_
    refine L.assign rfl rfl rfl trivial ?_
    refine L.nil ?_
    refine C.next ?_
    refine C.ret ?_
    refine C.thenRet ?_
    exact leave (vs := [_]) rfl rfl rfl ⟨rfl, trivial⟩ (fun D hD => rfl)
  · obtain ⟨hch, hco, hbx⟩ := ts_in hc1
    refine C.skip ?_
    refine C.next ?_
    refine C.seq ?_
    refine C.region [(false,0),(false,1),(false,2),(false,3),(false,4),(false,5),(false,6),(false,7),(false,8)] rfl ?_
    refine L.loadDW rfl Tf.a25 rfl hB1 (by first | simp | assumption) Tf.s25 List.not_mem_nil rfl trivial ?_
    refine L.move rfl rfl rfl trivial ?_
    refine L.call rfl rfl rfl (fun D5 hD5 => Hired_ok _ wv b ws _ (hb0.up (hD5 _ (by simp))) (hw.up RK.up (hD5 _ (by simp))) hch hco hbx) rfl trivial (fun v5 D5 hD5 hp5 => ?_)
    obtain ⟨x, t, bvx, tv, rfl, ⟨lx, cx, rfl, hlx, hcx⟩, ht, hx1, hx2, hx3, hI, ht8, hc3, hcn⟩ := hp5
    have hlxl := hI.lx
    refine L.move rfl rfl rfl trivial ?_
    refine L.extract rfl rfl rfl rfl trivial ?_
    refine L.extract rfl rfl rfl rfl trivial ?_
    refine L.alloc rfl Tf.z25 rfl rfl trivial (fun q2 => ?_)
    refine L.storeW rfl rfl rfl rfl Tf.s25 (by first | rfl | (simp only [ints_length, *]; done) | (simp only [ints_length, *]; rfl) | (simp only [ints_length, *]; omega)) (by first | rfl | (simp only [ints_length, *]; done) | (simp only [ints_length, *]; rfl) | (simp only [ints_length, *]; omega)) (Has.head) (cell1_book hlx.cell1 hcx.cell1) trivial ?_
    refine L.assign rfl rfl rfl trivial ?_
    refine L.nil ?_
    refine C.next ?_
    refine C.seq ?_
    refine C.seq ?_
    refine C.region [(false,0),(false,1),(false,2),(false,3),(false,4),(false,5),(false,6),(false,7)] rfl ?_
    refine L.loadBW rfl Tf.a25 rfl (List.Mem.head _) Tf.s25 List.not_mem_nil rfl trivial ?_
    refine L.callV rfl rfl rfl (fun D6 hD6 => thin3_ok _ x _ ⟨lx, cx, rfl, hlx.up RLin.up (hD6 _ (by simp)), hcx.up RCn.up (hD6 _ (by simp))⟩) rfl trivial ?_
    refine L.not rfl rfl rfl trivial ?_
    refine L.move rfl rfl rfl trivial ?_
    refine' L.or [(false,4),(false,5),(false,6),(false,7)] [] (s := 50) (p := 54) rfl rfl (fun hg3 => ?_) (fun hg3 => ?_) ?_
    rotate_left
    · refine L.loadBW rfl Tf.a25 rfl (List.Mem.head _) Tf.s25 List.not_mem_nil rfl ⟨_, rfl, rfl⟩ ?_
      refine L.callV rfl rfl rfl (fun D7 hD7 => rFault_ok _ x _ ⟨lx, cx, rfl, hlx.up RLin.up (hD7 _ (by simp)), hcx.up RCn.up (hD7 _ (by simp))⟩) rfl ⟨_, rfl, rfl⟩ ?_
      refine L.neq rfl rfl rfl rfl ⟨_, rfl, rfl⟩ ?_
      refine L.pickF rfl rfl rfl rfl trivial ?_
      exact L.nil fun a w hh => hh.cutK 3 rfl
    · refine L.pass rfl rfl rfl ⟨_, _, rfl, rfl, rfl⟩ ?_
      refine L.pass rfl rfl rfl ⟨_, _, rfl, rfl, rfl⟩ ?_
      refine L.pass rfl rfl rfl ⟨_, _, rfl, rfl, rfl⟩ ?_
      refine L.pickT rfl rfl rfl rfl trivial ?_
      exact L.nil fun a w hh => hh.cutK 3 rfl
    refine L.nil ?_
    refine C.next ?_
    refine C.cond rfl (fun hc2 => ?_) (fun hc2 => ?_)
    · refine C.seq ?_
      refine C.region [(false,0),(false,1)] rfl ?_
      refine L.callV rfl rfl rfl (fun D8 hD8 => left_ok _) rfl trivial ?_
      refine L.assign rfl rfl rfl trivial ?_
      refine L.nil ?_
      refine C.next ?_
      refine C.ret ?_
      refine C.thenRet ?_
      exact leave (vs := [_]) rfl rfl rfl ⟨rfl, trivial⟩ (fun D hD => rfl)
    · obtain ⟨hth, hfl⟩ := ts_thin hc2
      have hbt := bt_of hx1 hx2 hx3 hI hcn hfl hth
      have hlen := hbt.len
      refine C.skip ?_
      refine C.next ?_
      refine C.seq ?_
      refine C.region [(false,0),(false,1),(false,2),(false,3),(false,4),(false,5),(false,6)] rfl ?_
      refine L.move rfl rfl rfl trivial ?_
      refine L.convI rfl Try.underlying5 Try.underlying3 rfl (by simp only [inK]; omega) rfl trivial ?_
      refine L.move rfl rfl rfl trivial ?_
      refine L.len rfl Try.underlying22 rfl ht rfl rfl trivial ?_
      refine L.add rfl rfl rfl (by simp only [inK]; omega) rfl trivial ?_
      obtain ⟨kn, hkn⟩ := Int.eq_ofNat_of_zero_le (Int.emod_nonneg a (show ((t.length : Int) + 1) ≠ 0 by omega))
      have hkl : kn ≤ t.length := by have := Int.emod_lt_of_pos a (show (0 : Int) < (t.length : Int) + 1 by omega); omega
      obtain ⟨O, hO⟩ : ∃ O, outs (scK x t kn).ch = O := ⟨_, rfl⟩
      obtain ⟨M, hM⟩ : ∃ M, (scK x t kn).money = M := ⟨_, rfl⟩
      obtain ⟨-, hO0, hOn⟩ := tau_sum hbt hkl
      rw [hO] at hO0 hOn
      have hinv : M = b.box + b.coin * O := by have := inv_at hbt kn hkl; unfold MInv at this; rw [hM, hO, hx2, hx3] at this; exact this
      have hmul : 0 ≤ b.coin * O ∧ b.coin * O ≤ 99 * 4 := ⟨Int.mul_nonneg (by omega) (by omega), Int.mul_le_mul (by omega) (by omega) (by omega) (by omega)⟩
      have hquo : (M - b.box) / b.coin = O := by rw [hinv, show b.box + b.coin * O - b.box = b.coin * O by omega]; exact Int.mul_ediv_cancel_left _ (by omega)
      obtain ⟨hvl, -⟩ := vdS_facts hbt hkl
      have hvt := vdT_len hbt hkl
      have hmk : ((scs x t).map fun s => s.money)[((kn : Int)).toNat]? = some M := by rw [List.getElem?_map, Int.toNat_natCast, scs_at hkl]; simp [hM]
      have hscl : (scs x t).length = t.length + 1 := by simp [scs]
      have hst := stand_row hbt hkl hO
      rw [hx1] at hst hvl hvt hOn
      refine L.rem rfl rfl rfl (by omega) (by omega) (by rw [hkn]; simp only [inK]; omega) rfl trivial ?_
      rw [hkn]
      refine L.assign rfl rfl rfl trivial ?_
      refine L.nil ?_
      refine C.next ?_
      refine C.seq ?_
      refine C.region [(false,0),(false,1),(false,2),(false,3),(false,4),(false,5),(false,6),(false,7),(false,8),(false,9),(false,10)] rfl ?_
      refine L.loadBW rfl Tf.a25 rfl (List.Mem.head _) Tf.s25 List.not_mem_nil rfl trivial ?_
      refine L.call rfl rfl rfl (fun D9 hD9 => bookL_ok _ x _ ⟨lx, cx, rfl, hlx.up RLin.up (hD9 _ (by simp)), hcx.up RCn.up (hD9 _ (by simp))⟩ (by omega) (by omega)) rfl trivial (fun v9 D9 hD9 hp9 => ?_)
      have hwbA := hp9
      refine L.move rfl rfl rfl trivial ?_
      refine L.call rfl rfl rfl (fun D10 hD10 => Out_ok _ x kn _ (hwbA.up (hD10 _ (by simp)))) rfl trivial (fun v10 D10 hD10 hp10 => ?_)
      obtain ⟨ov, otv, rfl, ho⟩ := hp10
      obtain ⟨hov, hotv⟩ := ho (hbt.ask hkl)
      change Sl _ RI 1 ov (vdS x kn) at hov
      rw [hx1] at hotv
      rw [hbt.ask hkl]
      refine L.move rfl rfl rfl trivial ?_
      refine L.extract rfl rfl rfl rfl trivial ?_
      refine L.extract rfl rfl rfl rfl trivial ?_
      refine L.extract rfl rfl rfl rfl trivial ?_
      refine L.assign rfl rfl rfl trivial ?_
      refine L.assign rfl rfl rfl trivial ?_
      refine L.assign rfl rfl rfl trivial ?_
      refine L.nil ?_
      refine C.next ?_
      refine C.seq ?_
      refine C.region [(false,0),(false,1),(false,2),(false,3),(false,4),(false,5),(false,6),(false,7),(false,8),(false,9)] rfl ?_
      refine L.loadBW rfl Tf.a25 rfl (List.Mem.head _) Tf.s25 List.not_mem_nil rfl trivial ?_
      refine L.call rfl rfl rfl (fun D11 hD11 => bookL_ok _ x _ ⟨lx, cx, rfl, hlx.up RLin.up (hD11 _ (by simp)), hcx.up RCn.up (hD11 _ (by simp))⟩ (by omega) (by omega)) rfl trivial (fun v11 D11 hD11 hp11 => ?_)
      have hwbB := hp11
      refine L.move rfl rfl rfl trivial ?_
      refine L.call rfl rfl rfl (fun D12 hD12 => Money_ok _ x kn _ (hwbB.up (hD12 _ (by simp)))) rfl trivial (fun v12 D12 hD12 hp12 => ?_)
      obtain ⟨r, rfl, hr⟩ := hp12
      have hbnd := hbt.bnd hkl (hr (hbt.ask hkl))
      rw [hM] at hbnd
      rw [hbt.ask hkl]
      refine L.move rfl rfl rfl trivial ?_
      refine L.extract rfl rfl rfl rfl trivial ?_
      refine L.extract rfl rfl rfl rfl trivial ?_
      refine L.alloc rfl Tf.z43 rfl rfl trivial (fun q3 => ?_)
      refine L.storeW rfl rfl rfl rfl Tf.s43 (by first | rfl | (simp only [ints_length, *]; done) | (simp only [ints_length, *]; rfl) | (simp only [ints_length, *]; omega)) (by first | rfl | (simp only [ints_length, *]; done) | (simp only [ints_length, *]; rfl) | (simp only [ints_length, *]; omega)) (Has.head) (by first | exact ints_cell1 _ | simp [cell1]) trivial ?_
      refine L.assign rfl rfl rfl trivial ?_
      refine L.nil ?_
      refine C.next ?_
      refine C.seq ?_
      refine C.region [(false,0),(false,1),(false,2),(false,3),(false,4),(false,5),(false,6),(false,7),(false,8),(false,9),(false,10),(false,11)] rfl ?_
      refine L.loadBW rfl Tf.a25 rfl (List.Mem.tail _ (List.Mem.head _)) Tf.s25 List.not_mem_nil rfl trivial ?_
      refine L.call rfl rfl rfl (fun D13 hD13 => bookL_ok _ x _ ⟨lx, cx, rfl, hlx.up RLin.up (hD13 _ (by simp)), hcx.up RCn.up (hD13 _ (by simp))⟩ (by omega) (by omega)) rfl trivial (fun v13 D13 hD13 hp13 => ?_)
      have hwbC := hp13
      refine L.move rfl rfl rfl trivial ?_
      refine L.call rfl rfl rfl (fun D14 hD14 => truthL_ok _ t _ (ht.up RLin.up (hD14 _ (by simp))) (by omega)) rfl trivial (fun v14 D14 hD14 hp14 => ?_)
      have htp := hp14
      refine L.call rfl rfl rfl (fun D15 hD15 => Play_ok _ _ x t _ (hwbC.up (hD15 _ (by simp))) (htp.up RLin.up (hD15 _ (by simp)))) rfl trivial (fun v15 D15 hD15 hp15 => ?_)
      obtain ⟨mv, mm, rfl, hm⟩ := hp15
      rw [hbt.play.2] at hm
      rw [hbt.play.1]
      have hml := hm.len
      refine L.move rfl rfl rfl trivial ?_
      refine L.extract rfl rfl rfl rfl trivial ?_
      refine L.extract rfl rfl rfl rfl trivial ?_
      refine L.extract rfl rfl rfl rfl trivial ?_
      refine L.assign rfl rfl rfl trivial ?_
      refine L.assign rfl rfl rfl trivial ?_
      refine L.assign rfl rfl rfl trivial ?_
      refine L.nil ?_
      refine C.next ?_
      refine C.seq ?_
      refine C.seq ?_
      refine C.draw [] 9 [0,1,2,3,4,5,6,7,8,9,10,11,12,13,14,15,16,17,18,19,20,21,22,23,24,25,26,27,28,29,30,31,32,33,34,35,36,37,38,39,40,41,42,43,44,45,46,47,48,49] [false,false,false,false,false,false,false,false,false,false,false,false,false,true,true,false,false,false,false,false,true,true,false,false,false,false,false,true,true,true,false,false,false,false,true,false,false,true,true,false,false,false,false,true,false,false,true,true,false,false] [(false,0),(false,1),(false,2),(false,3),(false,4),(false,5),(false,6),(false,7),(false,8),(false,9),(false,10),(false,11),(false,12),(true,13),(true,14),(false,15),(false,16),(false,17),(false,18),(false,19),(true,20),(true,21),(false,22),(false,23),(false,24),(false,25),(false,26),(true,27),(true,28),(true,29),(false,30),(false,31),(false,32),(false,33),(true,34),(false,35),(false,36),(true,37),(true,38),(false,39),(false,40),(false,41),(false,42),(true,43),(false,44),(false,45),(true,46),(true,47),(false,48),(false,49)] Tf.follows (fun _ _ _ h => np_body (P := Try.prog) (fn := Try.f3) _ _ _ h) (by kernel_rfl) rfl ?_
      refine L.move rfl rfl rfl trivial ?_
      refine L.neq rfl rfl rfl rfl trivial ?_
      refine L.move rfl rfl rfl trivial ?_
      refine' L.or [(false,3),(false,4),(false,5)] [(false,6),(false,7),(false,8),(false,9),(false,10),(false,11),(false,12),(true,13),(true,14),(false,15),(false,16),(false,17),(false,18),(false,19),(true,20),(true,21),(false,22),(false,23),(false,24),(false,25),(false,26),(true,27),(true,28),(true,29),(false,30),(false,31),(false,32),(false,33),(true,34),(false,35),(false,36),(true,37),(true,38),(false,39),(false,40),(false,41),(false,42),(true,43),(false,44),(false,45),(true,46),(true,47),(false,48),(false,49)] (s := 88) (p := 91) rfl rfl (fun hg4 => ?_) (fun hg4 => ?_) ?_
      rotate_left
      · refine L.move rfl rfl rfl ⟨_, rfl, rfl⟩ ?_
        refine L.neq rfl rfl rfl rfl ⟨_, rfl, rfl⟩ ?_
        refine L.pickF rfl rfl rfl rfl trivial ?_
        exact L.nil fun a w hh => hh.cutK 2 rfl
      · refine L.pass rfl rfl rfl ⟨_, _, rfl, rfl, rfl⟩ ?_
        refine L.pass rfl rfl rfl ⟨_, _, rfl, rfl, rfl⟩ ?_
        refine L.pickT rfl rfl rfl rfl trivial ?_
        exact L.nil fun a w hh => hh.cutK 2 rfl
      refine L.move rfl rfl rfl trivial ?_
      refine' L.or [(false,7),(false,8),(false,9)] [(false,10),(false,11),(false,12),(true,13),(true,14),(false,15),(false,16),(false,17),(false,18),(false,19),(true,20),(true,21),(false,22),(false,23),(false,24),(false,25),(false,26),(true,27),(true,28),(true,29),(false,30),(false,31),(false,32),(false,33),(true,34),(false,35),(false,36),(true,37),(true,38),(false,39),(false,40),(false,41),(false,42),(true,43),(false,44),(false,45),(true,46),(true,47),(false,48),(false,49)] (s := 92) (p := 95) rfl rfl (fun hg5 => ?_) (fun hg5 => ?_) ?_
      rotate_left
      · refine L.move rfl rfl rfl ⟨_, rfl, rfl⟩ ?_
        refine L.neq rfl rfl rfl rfl ⟨_, rfl, rfl⟩ ?_
        refine L.pickF rfl rfl rfl rfl trivial ?_
        exact L.nil fun a w hh => hh.cutK 2 rfl
      · refine L.pass rfl rfl rfl ⟨_, _, rfl, rfl, rfl⟩ ?_
        refine L.pass rfl rfl rfl ⟨_, _, rfl, rfl, rfl⟩ ?_
        refine L.pickT rfl rfl rfl rfl trivial ?_
        exact L.nil fun a w hh => hh.cutK 2 rfl
      refine L.move rfl rfl rfl trivial ?_
      refine' L.or [(false,11),(false,12),(true,13),(true,14),(false,15),(false,16)] [(false,17),(false,18),(false,19),(true,20),(true,21),(false,22),(false,23),(false,24),(false,25),(false,26),(true,27),(true,28),(true,29),(false,30),(false,31),(false,32),(false,33),(true,34),(false,35),(false,36),(true,37),(true,38),(false,39),(false,40),(false,41),(false,42),(true,43),(false,44),(false,45),(true,46),(true,47),(false,48),(false,49)] (s := 96) (p := 102) rfl rfl (fun hg6 => ?_) (fun hg6 => ?_) ?_
      rotate_left
      · refine L.move rfl rfl rfl ⟨_, rfl, rfl⟩ ?_
        refine L.len rfl Try.underlying33 rfl hov rfl rfl ⟨_, rfl, rfl⟩ ?_
        refine L.fieldAddr rfl Tf.f25_0 rfl rfl ⟨_, rfl, rfl⟩ ?_
        refine L.loadD1 rfl (k := 0) Tf.a3 rfl hB1 (by first | simp | assumption) rfl List.not_mem_nil rfl ⟨_, rfl, rfl⟩ ?_
        refine L.neq rfl rfl rfl rfl ⟨_, rfl, rfl⟩ ?_
        refine L.pickF rfl rfl rfl rfl trivial ?_
        exact L.nil fun a w hh => hh.cutK 5 rfl
      · refine L.pass rfl rfl rfl ⟨_, _, rfl, rfl, rfl⟩ ?_
        refine L.pass rfl rfl rfl ⟨_, _, rfl, rfl, rfl⟩ ?_
        refine L.pass rfl rfl rfl ⟨_, _, rfl, rfl, rfl⟩ ?_
        refine L.pass rfl rfl rfl ⟨_, _, rfl, rfl, rfl⟩ ?_
        refine L.pass rfl rfl rfl ⟨_, _, rfl, rfl, rfl⟩ ?_
        refine L.pickT rfl rfl rfl rfl trivial ?_
        exact L.nil fun a w hh => hh.cutK 5 rfl
      refine L.move rfl rfl rfl trivial ?_
      refine' L.or [(false,18),(false,19),(true,20),(true,21),(false,22),(false,23)] [(false,24),(false,25),(false,26),(true,27),(true,28),(true,29),(false,30),(false,31),(false,32),(false,33),(true,34),(false,35),(false,36),(true,37),(true,38),(false,39),(false,40),(false,41),(false,42),(true,43),(false,44),(false,45),(true,46),(true,47),(false,48),(false,49)] (s := 103) (p := 109) rfl rfl (fun hg7 => ?_) (fun hg7 => ?_) ?_
      rotate_left
      · refine L.move rfl rfl rfl ⟨_, rfl, rfl⟩ ?_
        refine L.len rfl Try.underlying33 rfl hotv rfl rfl ⟨_, rfl, rfl⟩ ?_
        refine L.fieldAddr rfl Tf.f25_0 rfl rfl ⟨_, rfl, rfl⟩ ?_
        refine L.loadD1 rfl (k := 0) Tf.a3 rfl hB1 (by first | simp | assumption) rfl List.not_mem_nil rfl ⟨_, rfl, rfl⟩ ?_
        refine L.neq rfl rfl rfl rfl ⟨_, rfl, rfl⟩ ?_
        refine L.pickF rfl rfl rfl rfl trivial ?_
        exact L.nil fun a w hh => hh.cutK 5 rfl
      · refine L.pass rfl rfl rfl ⟨_, _, rfl, rfl, rfl⟩ ?_
        refine L.pass rfl rfl rfl ⟨_, _, rfl, rfl, rfl⟩ ?_
        refine L.pass rfl rfl rfl ⟨_, _, rfl, rfl, rfl⟩ ?_
        refine L.pass rfl rfl rfl ⟨_, _, rfl, rfl, rfl⟩ ?_
        refine L.pass rfl rfl rfl ⟨_, _, rfl, rfl, rfl⟩ ?_
        refine L.pickT rfl rfl rfl rfl trivial ?_
        exact L.nil fun a w hh => hh.cutK 5 rfl
      refine L.move rfl rfl rfl trivial ?_
      refine' L.or [(false,25),(false,26),(true,27),(true,28),(true,29),(false,30),(false,31)] [(false,32),(false,33),(true,34),(false,35),(false,36),(true,37),(true,38),(false,39),(false,40),(false,41),(false,42),(true,43),(false,44),(false,45),(true,46),(true,47),(false,48),(false,49)] (s := 110) (p := 117) rfl rfl (fun hg8 => ?_) (fun hg8 => ?_) ?_
      rotate_left
      · refine L.move rfl rfl rfl ⟨_, rfl, rfl⟩ ?_
        refine L.len rfl Try.underlying33 rfl hm rfl rfl ⟨_, rfl, rfl⟩ ?_
        refine L.move rfl rfl rfl ⟨_, rfl, rfl⟩ ?_
        refine L.len rfl Try.underlying22 rfl ht rfl rfl ⟨_, rfl, rfl⟩ ?_
        refine L.add rfl rfl rfl (by simp only [inK]; omega) rfl ⟨_, rfl, rfl⟩ ?_
        refine L.neq rfl rfl rfl rfl ⟨_, rfl, rfl⟩ ?_
        refine L.pickF rfl rfl rfl rfl trivial ?_
        exact L.nil fun a w hh => hh.cutK 6 rfl
      · refine L.pass rfl rfl rfl ⟨_, _, rfl, rfl, rfl⟩ ?_
        refine L.pass rfl rfl rfl ⟨_, _, rfl, rfl, rfl⟩ ?_
        refine L.pass rfl rfl rfl ⟨_, _, rfl, rfl, rfl⟩ ?_
        refine L.pass rfl rfl rfl ⟨_, _, rfl, rfl, rfl⟩ ?_
        refine L.pass rfl rfl rfl ⟨_, _, rfl, rfl, rfl⟩ ?_
        refine L.pass rfl rfl rfl ⟨_, _, rfl, rfl, rfl⟩ ?_
        refine L.pickT rfl rfl rfl rfl trivial ?_
        exact L.nil fun a w hh => hh.cutK 6 rfl
      refine L.move rfl rfl rfl trivial ?_
      refine' L.or [(false,33),(true,34),(false,35),(false,36),(true,37),(true,38),(false,39),(false,40)] [(false,41),(false,42),(true,43),(false,44),(false,45),(true,46),(true,47),(false,48),(false,49)] (s := 118) (p := 126) rfl rfl (fun hg9 => ?_) (fun hg9 => ?_) ?_
      rotate_left
      · refine L.move rfl rfl rfl ⟨_, rfl, rfl⟩ ?_
        refine L.move rfl rfl rfl ⟨_, rfl, rfl⟩ ?_
        refine L.indexS rfl Try.underlying33 Tf.s3 rfl hm rfl (by omega) hmk rfl ⟨_, rfl, rfl⟩ (fun b1 o1 cs1 hr1 hcl1 hA1 => ?_)
        obtain rfl : cs1 = [.int .i64 _] := hr1
        refine L.loadD1 rfl (k := 0) Tf.a3 rfl hA1 (by first | simp | assumption) rfl List.not_mem_nil rfl ⟨_, rfl, rfl⟩ ?_
        refine L.fieldAddr rfl Tf.f43_0 rfl rfl ⟨_, rfl, rfl⟩ ?_
        refine L.loadB1 rfl Tf.a3 rfl (List.Mem.head _) rfl List.not_mem_nil rfl ⟨_, rfl, rfl⟩ ?_
        refine L.lss rfl rfl rfl rfl ⟨_, rfl, rfl⟩ ?_
        refine L.pickF rfl rfl rfl rfl trivial ?_
        exact L.nil fun a w hh => hh.cutK 7 rfl
      · refine L.pass rfl rfl rfl ⟨_, _, rfl, rfl, rfl⟩ ?_
        refine L.pass rfl rfl rfl ⟨_, _, rfl, rfl, rfl⟩ ?_
        refine L.pass rfl rfl rfl ⟨_, _, rfl, rfl, rfl⟩ ?_
        refine L.pass rfl rfl rfl ⟨_, _, rfl, rfl, rfl⟩ ?_
        refine L.pass rfl rfl rfl ⟨_, _, rfl, rfl, rfl⟩ ?_
        refine L.pass rfl rfl rfl ⟨_, _, rfl, rfl, rfl⟩ ?_
        refine L.pass rfl rfl rfl ⟨_, _, rfl, rfl, rfl⟩ ?_
        refine L.pickT rfl rfl rfl rfl trivial ?_
        exact L.nil fun a w hh => hh.cutK 7 rfl
      refine L.move rfl rfl rfl trivial ?_
      refine' L.or [(false,42),(true,43),(false,44),(false,45),(true,46),(true,47),(false,48),(false,49)] [] (s := 127) (p := 135) rfl rfl (fun hg10 => ?_) (fun hg10 => ?_) ?_
      rotate_left
      · refine L.move rfl rfl rfl ⟨_, rfl, rfl⟩ ?_
        refine L.move rfl rfl rfl ⟨_, rfl, rfl⟩ ?_
        refine L.indexS rfl Try.underlying33 Tf.s3 rfl hm rfl (by omega) hmk rfl ⟨_, rfl, rfl⟩ (fun b2 o2 cs2 hr2 hcl2 hA2 => ?_)
        obtain rfl : cs2 = [.int .i64 _] := hr2
        refine L.loadD1 rfl (k := 0) Tf.a3 rfl hA2 (by first | simp | assumption) rfl List.not_mem_nil rfl ⟨_, rfl, rfl⟩ ?_
        refine L.fieldAddr rfl Tf.f43_1 rfl rfl ⟨_, rfl, rfl⟩ ?_
        refine L.loadB1 rfl Tf.a3 rfl (List.Mem.head _) rfl List.not_mem_nil rfl ⟨_, rfl, rfl⟩ ?_
        refine L.gtr rfl rfl rfl rfl ⟨_, rfl, rfl⟩ ?_
        refine L.pickF rfl rfl rfl rfl trivial ?_
        exact L.nil fun a w hh => hh.cutK 7 rfl
      · refine L.pass rfl rfl rfl ⟨_, _, rfl, rfl, rfl⟩ ?_
        refine L.pass rfl rfl rfl ⟨_, _, rfl, rfl, rfl⟩ ?_
        refine L.pass rfl rfl rfl ⟨_, _, rfl, rfl, rfl⟩ ?_
        refine L.pass rfl rfl rfl ⟨_, _, rfl, rfl, rfl⟩ ?_
        refine L.pass rfl rfl rfl ⟨_, _, rfl, rfl, rfl⟩ ?_
        refine L.pass rfl rfl rfl ⟨_, _, rfl, rfl, rfl⟩ ?_
        refine L.pass rfl rfl rfl ⟨_, _, rfl, rfl, rfl⟩ ?_
        refine L.pickT rfl rfl rfl rfl trivial ?_
        exact L.nil fun a w hh => hh.cutK 7 rfl
      refine L.nil ?_
      refine C.next ?_
      refine C.cond rfl (fun hc3 => ?_) (fun hc3 => ?_)
      · have hask := hbt.ask hkl; simp only [Bool.or_eq_true, decide_eq_true_eq, List.length_map] at hc3; omega
      · refine C.skip ?_
        refine C.next ?_
        refine C.seq ?_
        refine C.draw [] 4 [0,1,2,3,4,5,6,7,8,9,10] [false,true,false,false,true,true,false,true,true,false,false] [(false,0),(true,1),(false,2),(false,3),(true,4),(true,5),(false,6),(true,7),(true,8),(false,9),(false,10)] Tf.follows (fun _ _ _ h => np_body (P := Try.prog) (fn := Try.f3) _ _ _ h) (by kernel_rfl) rfl ?_
        refine L.move rfl rfl rfl trivial ?_
        refine L.move rfl rfl rfl trivial ?_
        refine L.indexS rfl Try.underlying33 Tf.s3 rfl hm rfl (by omega) hmk rfl trivial (fun b3 o3 cs3 hr3 hcl3 hA3 => ?_)
        obtain rfl : cs3 = [.int .i64 _] := hr3
        refine L.loadD1 rfl (k := 0) Tf.a3 rfl hA3 (by first | simp | assumption) rfl List.not_mem_nil rfl trivial ?_
        refine L.fieldAddr rfl Tf.f25_2 rfl rfl trivial ?_
        refine L.loadD1 rfl (k := 2) Tf.a3 rfl hB1 (by first | simp | assumption) rfl List.not_mem_nil rfl trivial ?_
        refine L.sub rfl rfl rfl (by simp only [inK]; omega) rfl trivial ?_
        refine L.fieldAddr rfl Tf.f25_1 rfl rfl trivial ?_
        refine L.loadD1 rfl (k := 1) Tf.a3 rfl hB1 (by first | simp | assumption) rfl List.not_mem_nil rfl trivial ?_
        refine L.quo rfl rfl rfl (by omega) (by omega) (by rw [hquo]; simp only [inK]; omega) rfl trivial ?_
        rw [hquo]
        refine L.assign rfl rfl rfl trivial ?_
        refine L.nil ?_
        refine C.next ?_
        refine C.seq ?_
        refine C.seq ?_
        refine C.draw [] 7 [0,1,2,3,4,5,6,7,8,9,10,11,12,13,14,15,16,17,18,19,20,21] [false,true,false,false,true,true,true,true,true,true,true,false,false,false,false,false,false,false,true,true,false,false] [(false,0),(true,1),(false,2),(false,3),(true,4),(true,5),(true,6),(true,7),(true,8),(true,9),(true,10),(false,11),(false,12),(false,13),(false,14),(false,15),(false,16),(false,17),(true,18),(true,19),(false,20),(false,21)] Tf.follows (fun _ _ _ h => np_body (P := Try.prog) (fn := Try.f3) _ _ _ h) (by kernel_rfl) rfl ?_
        refine L.move rfl rfl rfl trivial ?_
        refine L.move rfl rfl rfl trivial ?_
        refine L.indexS rfl Try.underlying33 Tf.s3 rfl hm rfl (by omega) hmk rfl trivial (fun b4 o4 cs4 hr4 hcl4 hA4 => ?_)
        obtain rfl : cs4 = [.int .i64 _] := hr4
        refine L.loadD1 rfl (k := 0) Tf.a3 rfl hA4 (by first | simp | assumption) rfl List.not_mem_nil rfl trivial ?_
        refine L.fieldAddr rfl Tf.f25_2 rfl rfl trivial ?_
        refine L.loadD1 rfl (k := 2) Tf.a3 rfl hB1 (by first | simp | assumption) rfl List.not_mem_nil rfl trivial ?_
        refine L.fieldAddr rfl Tf.f25_1 rfl rfl trivial ?_
        refine L.loadD1 rfl (k := 1) Tf.a3 rfl hB1 (by first | simp | assumption) rfl List.not_mem_nil rfl trivial ?_
        refine L.move rfl rfl rfl trivial ?_
        refine L.mul rfl rfl rfl (by simp only [inK]; omega) rfl trivial ?_
        refine L.add rfl rfl rfl (by simp only [inK]; omega) rfl trivial ?_
        refine L.neq rfl rfl rfl rfl trivial ?_
        refine L.move rfl rfl rfl trivial ?_
        refine' L.or [(false,13),(false,14),(false,15)] [(false,16),(false,17),(true,18),(true,19),(false,20),(false,21)] (s := 158) (p := 161) rfl rfl (fun hg11 => ?_) (fun hg11 => ?_) ?_
        rotate_left
        · refine L.move rfl rfl rfl ⟨_, rfl, rfl⟩ ?_
          refine L.lss rfl rfl rfl rfl ⟨_, rfl, rfl⟩ ?_
          refine L.pickF rfl rfl rfl rfl trivial ?_
          exact L.nil fun a w hh => hh.cutK 2 rfl
        · refine L.pass rfl rfl rfl ⟨_, _, rfl, rfl, rfl⟩ ?_
          refine L.pass rfl rfl rfl ⟨_, _, rfl, rfl, rfl⟩ ?_
          refine L.pickT rfl rfl rfl rfl trivial ?_
          exact L.nil fun a w hh => hh.cutK 2 rfl
        refine L.move rfl rfl rfl trivial ?_
        refine' L.or [(false,17),(true,18),(true,19),(false,20),(false,21)] [] (s := 162) (p := 167) rfl rfl (fun hg12 => ?_) (fun hg12 => ?_) ?_
        rotate_left
        · refine L.move rfl rfl rfl ⟨_, rfl, rfl⟩ ?_
          refine L.fieldAddr rfl Tf.f25_0 rfl rfl ⟨_, rfl, rfl⟩ ?_
          refine L.loadD1 rfl (k := 0) Tf.a3 rfl hB1 (by first | simp | assumption) rfl List.not_mem_nil rfl ⟨_, rfl, rfl⟩ ?_
          refine L.gtr rfl rfl rfl rfl ⟨_, rfl, rfl⟩ ?_
          refine L.pickF rfl rfl rfl rfl trivial ?_
          exact L.nil fun a w hh => hh.cutK 4 rfl
        · refine L.pass rfl rfl rfl ⟨_, _, rfl, rfl, rfl⟩ ?_
          refine L.pass rfl rfl rfl ⟨_, _, rfl, rfl, rfl⟩ ?_
          refine L.pass rfl rfl rfl ⟨_, _, rfl, rfl, rfl⟩ ?_
          refine L.pass rfl rfl rfl ⟨_, _, rfl, rfl, rfl⟩ ?_
          refine L.pickT rfl rfl rfl rfl trivial ?_
          exact L.nil fun a w hh => hh.cutK 4 rfl
        refine L.nil ?_
        refine C.next ?_
        refine C.cond rfl (fun hc4 => ?_) (fun hc4 => ?_)
        · simp only [Bool.or_eq_true, decide_eq_true_eq] at hc4; omega
        · refine C.skip ?_
          refine C.next ?_
          refine C.seq ?_
          refine C.region [(false,0),(false,1),(false,2),(false,3),(false,4),(false,5),(false,6),(false,7)] rfl ?_
          refine L.move rfl rfl rfl trivial ?_
          refine L.fieldAddr rfl Tf.f25_0 rfl rfl trivial ?_
          refine L.loadD1 rfl (k := 0) Tf.a3 rfl hB1 (by first | simp | assumption) rfl List.not_mem_nil rfl trivial ?_
          refine L.move rfl rfl rfl trivial ?_
          refine L.sub rfl rfl rfl (by simp only [inK]; omega) rfl trivial ?_
          refine L.call rfl rfl rfl (fun D16 hD16 => stood_ok _ (vdS x kn) (b.chairs - O) _ (hov.up RI.up (hD16 _ (by simp))) (by omega)) rfl trivial (fun v16 D16 hD16 hp16 => ?_)
          obtain ⟨rpv, rcv, rfl, hrp, hrc⟩ := hp16
          refine L.alloc rfl Tf.z51 rfl rfl trivial (fun q4 => ?_)
          refine L.storeW rfl rfl rfl rfl Tf.s51 (by first | rfl | (simp only [ints_length, *]; done) | (simp only [ints_length, *]; rfl) | (simp only [ints_length, *]; omega)) (by first | rfl | (simp only [ints_length, *]; done) | (simp only [ints_length, *]; rfl) | (simp only [ints_length, *]; omega)) (Has.head) (cell1_row hrp.cell1 hrc.cell1) trivial ?_
          refine L.nil ?_
          refine C.next ?_
          refine C.seq ?_
          refine C.region [(false,0),(false,1),(false,2),(false,3)] rfl ?_
          refine L.fieldAddr rfl Tf.f25_0 rfl rfl trivial ?_
          refine L.loadD1 rfl (k := 0) Tf.a3 rfl hB1 (by first | simp | assumption) rfl List.not_mem_nil rfl trivial ?_
          refine L.makeSliceO (n := b.chairs.toNat) rfl Try.underlying33 Tf.s3 Tf.z3 rfl Tf.i3 (by first | rfl | (show some (Value.int _ _) = some (Value.int _ _); congr 2; omega)) (by first | rfl | (show some (Value.int _ _) = some (Value.int _ _); congr 2; omega)) (by omega) (zero_cells (by simp) rfl) rfl trivial (fun by_ => ?_)
          refine L.assign rfl rfl rfl trivial ?_
          refine L.nil ?_
          refine C.next ?_
          refine C.seq ?_
          refine C.seq ?_
          refine C.region [(false,0)] rfl ?_
          refine L.assign rfl rfl rfl trivial ?_
          refine L.nil ?_
          refine C.next ?_
          refine C.block ?_
          refine C.loopR (γ := Nat) (fun i => b.chairs.toNat - i) (fun i => i ≤ b.chairs.toNat) (fun i => [(21, .int .i64 (i : Int))]) [(20, _), (19, _), (18, _), (9, _), (8, _), (6, _), (3, _)] (fun i => [(by_, .cells (ints (tauI b.chairs.toNat t kn i)).toArray 3 (0, 0)), (q4, .cells [rpv, rcv, .int .i64 0, .int .i64 0].toArray 51 (0, 0)), (q3, .cells [.int .i64 r.1, .int .i64 r.2].toArray 43 (0, 0)), (q2, .cells [.int .i64 x.chairs, .int .i64 x.coin, .int .i64 x.box, lx, cx].toArray 25 (0, 0))]) (fun i => [D16, D15, D14, D13, D12, D11, D10, D9, D5, E1, D]) 0 (by omega) ⟨(by first | rfl | (show some (Value.int _ _) = some (Value.int _ _); congr 2; omega)), trivial⟩ ⟨rfl, rfl, rfl, rfl, rfl, rfl, rfl, trivial⟩ ((by rw [tauI_zero, Nat.mul_one]; exact List.Sublist.refl _)) (ds_same) ?_
          rintro i hi1
          refine C.seq ?_
          refine C.seq ?_
          refine C.region [(false,0),(false,1),(false,2),(false,3)] rfl ?_
          refine L.move rfl rfl rfl trivial ?_
          refine L.fieldAddr rfl Tf.f25_0 rfl rfl trivial ?_
          refine L.loadD1 rfl (k := 0) Tf.a3 rfl hB1 (by first | simp | assumption) rfl List.not_mem_nil rfl trivial ?_
          refine L.lss rfl rfl rfl rfl trivial ?_
          refine L.nil ?_
          refine C.next ?_
          refine C.condD rfl (fun hc5 => ?_) (fun hc5 => ?_)
          · refine C.skip ?_
            refine C.next ?_
            refine C.seq ?_
            refine C.block ?_
            refine C.seq ?_
            refine C.region [(false,0),(false,1),(false,2),(false,3),(false,4)] rfl ?_
            refine L.move rfl rfl rfl trivial ?_
            refine L.move rfl rfl rfl trivial ?_
            refine L.move rfl rfl rfl trivial ?_
            refine L.callV rfl rfl rfl (fun D17 hD17 => cout_ok _ t kn (i : Int) _ (ht.up RLin.up (hD17 _ (by simp))) hkl (by omega)) rfl trivial ?_
            refine L.lss rfl rfl rfl rfl trivial ?_
            refine L.nil ?_
            refine C.next ?_
            refine C.condD rfl (fun hc6 => ?_) (fun hc6 => ?_)
            · refine C.region [(false,0),(false,1),(false,2),(false,3)] rfl ?_
              refine L.move rfl rfl rfl trivial ?_
              refine L.move rfl rfl rfl trivial ?_
              refine L.indexP rfl Try.underlying33 Tf.s3 rfl rfl (by omega) (by omega) rfl trivial ?_
              refine L.storeF (k := i) rfl Tf.s3 (ptr_eq (by omega)) rfl (Has.head) (by simp [tauI]; omega) trivial ?_
              refine L.nil ?_
              refine C.blockEnd ?_
              refine C.next ?_
              refine C.region [(false,0),(false,1),(false,2)] rfl ?_
              refine L.move rfl rfl rfl trivial ?_
              refine L.add rfl rfl rfl (by simp only [inK]; omega) rfl trivial ?_
              refine L.assign rfl rfl rfl trivial ?_
              refine L.nil ?_
              exact C.againR 16 (i + 1) (by omega) (by omega) ⟨(by first | rfl | (show some (Value.int _ _) = some (Value.int _ _); congr 2; omega)), trivial⟩ rfl rfl ((by rw [tauI_yes hc6 (by omega)]; exact List.Sublist.refl _)) (ds_same)
            · refine C.skip ?_
              refine C.blockEnd ?_
              refine C.next ?_
              refine C.region [(false,0),(false,1),(false,2)] rfl ?_
              refine L.move rfl rfl rfl trivial ?_
              refine L.add rfl rfl rfl (by simp only [inK]; omega) rfl trivial ?_
              refine L.assign rfl rfl rfl trivial ?_
              refine L.nil ?_
              exact C.againR 13 (i + 1) (by omega) (by omega) ⟨(by first | rfl | (show some (Value.int _ _) = some (Value.int _ _); congr 2; omega)), trivial⟩ rfl rfl ((by rw [tauI_no hc6]; exact List.Sublist.refl _)) (ds_same)
          · obtain rfl : i = b.chairs.toNat := by omega
            rw [tauI_all]
            refine C.exit ?_
            refine C.thenExit ?_
            refine C.thenExit ?_
            refine C.blockExit ?_
            refine C.next ?_
            refine C.seq ?_
            refine C.freezeBox (A := []) (b := by_) (cells := ints (tauS b.chairs.toNat t kn)) rfl (fun D20 hD20 hT => ?_)
            have hTau : Sl D20 RI 1 (.slice (some ⟨by_, 0, none⟩) b.chairs.toNat b.chairs.toNat) (tauS b.chairs.toNat t kn) := Sl.ofInts hT (by simp [tauS]) (Nat.le_refl _) (by omega)
            simp only [List.nil_append]
            refine C.drawS (But.mk [q4, q1]) 5 [false,true,true,true,true,true,false,false,true,true,true,false] [.fork [0,2,3,4] 1 (.fork [] 5 (.fin [6,7,8,9]) 9 (.fin [5,6,7,8])) 9 (.fin [1,5,6,7,8]), .fin [10,11]] Tf.follows (fun _ _ _ h => np_body (P := Try.prog) (fn := Try.f3) _ _ _ h) (by kernel_rfl) ?_
            refine S.cons ?_
            refine L.planFork [(false,0),(true,2),(true,3),(true,4)] rfl ?_
            refine L.loadBW rfl Tf.a51 rfl (List.Mem.head _) Tf.s51 (But.out (by simp)) rfl trivial ?_
            refine L.fieldAddr rfl Tf.f25_0 rfl rfl trivial ?_
            refine L.loadD1 rfl (k := 0) Tf.a3 rfl hB1 (by simp) rfl (But.out (by simp)) rfl trivial ?_
            refine L.sub rfl rfl rfl (by simp only [inK]; omega) rfl trivial ?_
            refine L.nil (L.forkP true true rfl rfl ?_ ?_)
            · refine L.call rfl rfl rfl (fun D18 hD18 => Row_ok _ (stoodD (vdS x kn) (b.chairs - O)) _ ⟨_, _, rfl, hrp.up RI.up (hD18 _ (by simp)), hrc.up RC.up (hD18 _ (by simp))⟩ (by simp [stoodD]; omega) (by simp [stoodD])) rfl trivial (fun v18 D18 hD18 hp18 => ?_)
              have hrw := hp18
              refine L.nil ?_
              refine L.planFork [] rfl ?_
              refine L.nil (L.forkP true true rfl rfl ?_ ?_)
              · refine L.callV rfl rfl rfl (fun D19 hD19 => by have := chairs3_ok hbt hkl hO _ _ (by rw [hx1]; exact hrw.up (hD19 _ (by simp))); rw [hx1] at this; exact this) rfl trivial ?_
                refine L.nil ?_
                refine L.planFin [(false,6),(false,7),(true,8),(true,9)] rfl ?_
                refine L.move rfl rfl rfl trivial ?_
                refine L.extract rfl rfl rfl rfl trivial ?_
                refine L.extract rfl rfl rfl rfl trivial ?_
                refine L.alloc rfl Tf.z54 rfl rfl trivial (fun q5 => ?_)
                refine L.nil ?_
                refine S.fin [(true,10),(false,11)] rfl ?_
                refine L.apart hB1 (by simp) (fun hap => ?_)
                refine L.nd (fun hnd => ?_)
                refine L.storeB (off := 0) (us := [.int .i64 (b.chairs - O), .int .i64 (b.chairs - O)]) (ws := [.int .i64 (b.chairs - O), .int .i64 (b.chairs - O)]) rfl rfl rfl rfl Tf.s54 (Has.head) (by simp) rfl (by simp [cell1]) (Or.inr (But.in_ (by simp [Boxes.ks] at hap hnd ⊢; omega))) trivial ?_
                refine L.assign rfl rfl rfl trivial ?_
                refine L.nil ?_
                refine S.nil ?_
                refine C.next ?_
                refine C.seq ?_
                refine C.region [(false,0),(false,1),(false,2),(false,3),(false,4),(false,5),(false,6),(false,7),(false,8),(false,9),(false,10),(false,11),(false,12),(false,13),(false,14),(false,15),(false,16),(false,17),(false,18),(false,19),(false,20),(false,21),(false,22),(false,23),(false,24)] rfl ?_
                refine L.loadBW rfl Tf.a51 rfl (List.Mem.tail _ (List.Mem.head _)) Tf.s51 List.not_mem_nil rfl trivial ?_
                refine L.call rfl rfl rfl (fun D20 hD20 => Row_ok _ (stoodD (vdS x kn) (b.chairs - O)) _ ⟨_, _, rfl, hrp.up RI.up (hD20 _ (by simp)), hrc.up RC.up (hD20 _ (by simp))⟩ (by simp [stoodD]; omega) (by simp [stoodD])) rfl trivial (fun v20 D20 hD20 hp20 => ?_)
                have hrw2 := hp20
                refine L.move rfl rfl rfl trivial ?_
                refine L.callV rfl rfl rfl (fun D21 hD21 => ProveTruth_ok _ _ (stoodD (vdS x kn) (b.chairs - O)) (tauS b.chairs.toNat t kn) _ (hrw2.up (hD21 _ (by simp))) (hTau.up RI.up (hD21 _ (by simp)))) rfl trivial ?_
                refine L.move rfl rfl rfl trivial ?_
                refine' L.and [(false,5),(false,6),(false,7)] [(false,8),(false,9),(false,10),(false,11),(false,12),(false,13),(false,14),(false,15),(false,16),(false,17),(false,18),(false,19),(false,20),(false,21),(false,22),(false,23),(false,24)] (s := 204) (p := 207) rfl rfl (fun hg13 => ?_) (fun hg13 => ?_) ?_
                rotate_left
                · refine L.move rfl rfl rfl ⟨_, rfl, rfl⟩ ?_
                  refine L.eql rfl rfl rfl rfl ⟨_, rfl, rfl⟩ ?_
                  refine L.pickT rfl rfl rfl rfl trivial ?_
                  exact L.nil fun a w hh => hh.cutK 2 rfl
                · refine L.pass rfl rfl rfl ⟨_, _, rfl, rfl, rfl⟩ ?_
                  refine L.pass rfl rfl rfl ⟨_, _, rfl, rfl, rfl⟩ ?_
                  refine L.pickF rfl rfl rfl rfl trivial ?_
                  exact L.nil fun a w hh => hh.cutK 2 rfl
                refine L.move rfl rfl rfl trivial ?_
                refine' L.and [(false,9),(false,10),(false,11),(false,12),(false,13),(false,14),(false,15),(false,16),(false,17),(false,18),(false,19),(false,20)] [(false,21),(false,22),(false,23),(false,24)] (s := 208) (p := 220) rfl rfl (fun hg14 => ?_) (fun hg14 => ?_) ?_
                rotate_left
                · refine L.loadBW rfl Tf.a54 rfl (List.Mem.head _) Tf.s54 List.not_mem_nil rfl ⟨_, rfl, rfl⟩ ?_
                  refine L.fieldAddr rfl Tf.f25_0 rfl rfl ⟨_, rfl, rfl⟩ ?_
                  refine L.loadD1 rfl (k := 0) Tf.a3 rfl hB1 (by first | simp | assumption) rfl List.not_mem_nil rfl ⟨_, rfl, rfl⟩ ?_
                  refine L.move rfl rfl rfl ⟨_, rfl, rfl⟩ ?_
                  refine L.sub rfl rfl rfl (by simp only [inK]; omega) rfl ⟨_, rfl, rfl⟩ ?_
                  refine L.fieldAddr rfl Tf.f25_0 rfl rfl ⟨_, rfl, rfl⟩ ?_
                  refine L.loadD1 rfl (k := 0) Tf.a3 rfl hB1 (by first | simp | assumption) rfl List.not_mem_nil rfl ⟨_, rfl, rfl⟩ ?_
                  refine L.move rfl rfl rfl ⟨_, rfl, rfl⟩ ?_
                  refine L.sub rfl rfl rfl (by simp only [inK]; omega) rfl ⟨_, rfl, rfl⟩ ?_
                  refine L.build (cs := [.int .i64 (b.chairs - O), .int .i64 (b.chairs - O)]) rfl Tf.p54 Tf.z54 rfl (by kernel_rfl) rfl ⟨_, rfl, rfl⟩ ?_
                  refine L.eqlK (a := (b.chairs - O, b.chairs - O)) (b := (b.chairs - O, b.chairs - O)) rfl (by kernel_rfl) k2_54 rfl rfl rfl ⟨_, rfl, rfl⟩ ?_
                  refine L.pickT rfl rfl rfl rfl trivial ?_
                  exact L.nil fun a w hh => hh.cutK 11 rfl
                · refine L.pass rfl rfl rfl ⟨_, _, rfl, rfl, rfl⟩ ?_
                  refine L.pass rfl rfl rfl ⟨_, _, rfl, rfl, rfl⟩ ?_
                  refine L.pass rfl rfl rfl ⟨_, _, rfl, rfl, rfl⟩ ?_
                  refine L.pass rfl rfl rfl ⟨_, _, rfl, rfl, rfl⟩ ?_
                  refine L.pass rfl rfl rfl ⟨_, _, rfl, rfl, rfl⟩ ?_
                  refine L.pass rfl rfl rfl ⟨_, _, rfl, rfl, rfl⟩ ?_
                  refine L.pass rfl rfl rfl ⟨_, _, rfl, rfl, rfl⟩ ?_
                  refine L.pass rfl rfl rfl ⟨_, _, rfl, rfl, rfl⟩ ?_
                  refine L.pass rfl rfl rfl ⟨_, _, rfl, rfl, rfl⟩ ?_
                  refine L.pass rfl rfl rfl ⟨_, _, rfl, rfl, rfl⟩ ?_
                  refine L.pass rfl rfl rfl ⟨_, _, rfl, rfl, rfl⟩ ?_
                  refine L.pickF rfl rfl rfl rfl trivial ?_
                  exact L.nil fun a w hh => hh.cutK 11 rfl
                refine L.move rfl rfl rfl trivial ?_
                refine' L.and [(false,22),(false,23)] [(false,24)] (s := 221) (p := 223) rfl rfl (fun hg15 => ?_) (fun hg15 => ?_) ?_
                rotate_left
                · refine L.callV rfl rfl rfl (fun D22 hD22 => left_ok _) rfl ⟨_, rfl, rfl⟩ ?_
                  refine L.pickT rfl rfl rfl rfl trivial ?_
                  exact L.nil fun a w hh => hh.cutK 1 rfl
                · refine L.pass rfl rfl rfl ⟨_, _, rfl, rfl, rfl⟩ ?_
                  refine L.pickF rfl rfl rfl rfl trivial ?_
                  exact L.nil fun a w hh => hh.cutK 1 rfl
                refine L.assign rfl rfl rfl trivial ?_
                refine L.nil ?_
                refine C.next ?_
                refine C.ret ?_
                exact leave (vs := [_]) rfl rfl rfl ⟨rfl, trivial⟩ (fun D hD => congrArg Value.bool (by rw [hst.1]; simp))
              · refine L.alloc rfl Tf.z54 rfl rfl trivial (fun q5 => ?_)
                refine L.nil ?_
                refine L.planFin [(true,5),(false,6),(false,7),(true,8)] rfl ?_
                refine L.callV rfl rfl rfl (fun D19 hD19 => by have := chairs3_ok hbt hkl hO _ _ (by rw [hx1]; exact hrw.up (hD19 _ (by simp))); rw [hx1] at this; exact this) rfl trivial ?_
                refine L.move rfl rfl rfl trivial ?_
                refine L.extract rfl rfl rfl rfl trivial ?_
                refine L.extract rfl rfl rfl rfl trivial ?_
                refine L.nil ?_
                refine S.fin [(true,10),(false,11)] rfl ?_
                refine L.apart hB1 (by simp) (fun hap => ?_)
                refine L.nd (fun hnd => ?_)
                refine L.storeB (off := 0) (us := [.int .i64 (b.chairs - O), .int .i64 (b.chairs - O)]) (ws := [.int .i64 (b.chairs - O), .int .i64 (b.chairs - O)]) rfl rfl rfl rfl Tf.s54 (Has.head) (by simp) rfl (by simp [cell1]) (Or.inr (But.in_ (by simp [Boxes.ks] at hap hnd ⊢; omega))) trivial ?_
                refine L.assign rfl rfl rfl trivial ?_
                refine L.nil ?_
                refine S.nil ?_
                refine C.next ?_
                refine C.seq ?_
                refine C.region [(false,0),(false,1),(false,2),(false,3),(false,4),(false,5),(false,6),(false,7),(false,8),(false,9),(false,10),(false,11),(false,12),(false,13),(false,14),(false,15),(false,16),(false,17),(false,18),(false,19),(false,20),(false,21),(false,22),(false,23),(false,24)] rfl ?_
                refine L.loadBW rfl Tf.a51 rfl (List.Mem.tail _ (List.Mem.head _)) Tf.s51 List.not_mem_nil rfl trivial ?_
                refine L.call rfl rfl rfl (fun D20 hD20 => Row_ok _ (stoodD (vdS x kn) (b.chairs - O)) _ ⟨_, _, rfl, hrp.up RI.up (hD20 _ (by simp)), hrc.up RC.up (hD20 _ (by simp))⟩ (by simp [stoodD]; omega) (by simp [stoodD])) rfl trivial (fun v20 D20 hD20 hp20 => ?_)
                have hrw2 := hp20
                refine L.move rfl rfl rfl trivial ?_
                refine L.callV rfl rfl rfl (fun D21 hD21 => ProveTruth_ok _ _ (stoodD (vdS x kn) (b.chairs - O)) (tauS b.chairs.toNat t kn) _ (hrw2.up (hD21 _ (by simp))) (hTau.up RI.up (hD21 _ (by simp)))) rfl trivial ?_
                refine L.move rfl rfl rfl trivial ?_
                refine' L.and [(false,5),(false,6),(false,7)] [(false,8),(false,9),(false,10),(false,11),(false,12),(false,13),(false,14),(false,15),(false,16),(false,17),(false,18),(false,19),(false,20),(false,21),(false,22),(false,23),(false,24)] (s := 204) (p := 207) rfl rfl (fun hg13 => ?_) (fun hg13 => ?_) ?_
                rotate_left
                · refine L.move rfl rfl rfl ⟨_, rfl, rfl⟩ ?_
                  refine L.eql rfl rfl rfl rfl ⟨_, rfl, rfl⟩ ?_
                  refine L.pickT rfl rfl rfl rfl trivial ?_
                  exact L.nil fun a w hh => hh.cutK 2 rfl
                · refine L.pass rfl rfl rfl ⟨_, _, rfl, rfl, rfl⟩ ?_
                  refine L.pass rfl rfl rfl ⟨_, _, rfl, rfl, rfl⟩ ?_
                  refine L.pickF rfl rfl rfl rfl trivial ?_
                  exact L.nil fun a w hh => hh.cutK 2 rfl
                refine L.move rfl rfl rfl trivial ?_
                refine' L.and [(false,9),(false,10),(false,11),(false,12),(false,13),(false,14),(false,15),(false,16),(false,17),(false,18),(false,19),(false,20)] [(false,21),(false,22),(false,23),(false,24)] (s := 208) (p := 220) rfl rfl (fun hg14 => ?_) (fun hg14 => ?_) ?_
                rotate_left
                · refine L.loadBW rfl Tf.a54 rfl (List.Mem.head _) Tf.s54 List.not_mem_nil rfl ⟨_, rfl, rfl⟩ ?_
                  refine L.fieldAddr rfl Tf.f25_0 rfl rfl ⟨_, rfl, rfl⟩ ?_
                  refine L.loadD1 rfl (k := 0) Tf.a3 rfl hB1 (by first | simp | assumption) rfl List.not_mem_nil rfl ⟨_, rfl, rfl⟩ ?_
                  refine L.move rfl rfl rfl ⟨_, rfl, rfl⟩ ?_
                  refine L.sub rfl rfl rfl (by simp only [inK]; omega) rfl ⟨_, rfl, rfl⟩ ?_
                  refine L.fieldAddr rfl Tf.f25_0 rfl rfl ⟨_, rfl, rfl⟩ ?_
                  refine L.loadD1 rfl (k := 0) Tf.a3 rfl hB1 (by first | simp | assumption) rfl List.not_mem_nil rfl ⟨_, rfl, rfl⟩ ?_
                  refine L.move rfl rfl rfl ⟨_, rfl, rfl⟩ ?_
                  refine L.sub rfl rfl rfl (by simp only [inK]; omega) rfl ⟨_, rfl, rfl⟩ ?_
                  refine L.build (cs := [.int .i64 (b.chairs - O), .int .i64 (b.chairs - O)]) rfl Tf.p54 Tf.z54 rfl (by kernel_rfl) rfl ⟨_, rfl, rfl⟩ ?_
                  refine L.eqlK (a := (b.chairs - O, b.chairs - O)) (b := (b.chairs - O, b.chairs - O)) rfl (by kernel_rfl) k2_54 rfl rfl rfl ⟨_, rfl, rfl⟩ ?_
                  refine L.pickT rfl rfl rfl rfl trivial ?_
                  exact L.nil fun a w hh => hh.cutK 11 rfl
                · refine L.pass rfl rfl rfl ⟨_, _, rfl, rfl, rfl⟩ ?_
                  refine L.pass rfl rfl rfl ⟨_, _, rfl, rfl, rfl⟩ ?_
                  refine L.pass rfl rfl rfl ⟨_, _, rfl, rfl, rfl⟩ ?_
                  refine L.pass rfl rfl rfl ⟨_, _, rfl, rfl, rfl⟩ ?_
                  refine L.pass rfl rfl rfl ⟨_, _, rfl, rfl, rfl⟩ ?_
                  refine L.pass rfl rfl rfl ⟨_, _, rfl, rfl, rfl⟩ ?_
                  refine L.pass rfl rfl rfl ⟨_, _, rfl, rfl, rfl⟩ ?_
                  refine L.pass rfl rfl rfl ⟨_, _, rfl, rfl, rfl⟩ ?_
                  refine L.pass rfl rfl rfl ⟨_, _, rfl, rfl, rfl⟩ ?_
                  refine L.pass rfl rfl rfl ⟨_, _, rfl, rfl, rfl⟩ ?_
                  refine L.pass rfl rfl rfl ⟨_, _, rfl, rfl, rfl⟩ ?_
                  refine L.pickF rfl rfl rfl rfl trivial ?_
                  exact L.nil fun a w hh => hh.cutK 11 rfl
                refine L.move rfl rfl rfl trivial ?_
                refine' L.and [(false,22),(false,23)] [(false,24)] (s := 221) (p := 223) rfl rfl (fun hg15 => ?_) (fun hg15 => ?_) ?_
                rotate_left
                · refine L.callV rfl rfl rfl (fun D22 hD22 => left_ok _) rfl ⟨_, rfl, rfl⟩ ?_
                  refine L.pickT rfl rfl rfl rfl trivial ?_
                  exact L.nil fun a w hh => hh.cutK 1 rfl
                · refine L.pass rfl rfl rfl ⟨_, _, rfl, rfl, rfl⟩ ?_
                  refine L.pickF rfl rfl rfl rfl trivial ?_
                  exact L.nil fun a w hh => hh.cutK 1 rfl
                refine L.assign rfl rfl rfl trivial ?_
                refine L.nil ?_
                refine C.next ?_
                refine C.ret ?_
                exact leave (vs := [_]) rfl rfl rfl ⟨rfl, trivial⟩ (fun D hD => congrArg Value.bool (by rw [hst.1]; simp))
            · refine L.alloc rfl Tf.z54 rfl rfl trivial (fun q5 => ?_)
              refine L.nil ?_
              refine L.planFin [(true,1),(true,5),(false,6),(false,7),(true,8)] rfl ?_
              refine L.call rfl rfl rfl (fun D18 hD18 => Row_ok _ (stoodD (vdS x kn) (b.chairs - O)) _ ⟨_, _, rfl, hrp.up RI.up (hD18 _ (by simp)), hrc.up RC.up (hD18 _ (by simp))⟩ (by simp [stoodD]; omega) (by simp [stoodD])) rfl trivial (fun v18 D18 hD18 hp18 => ?_)
              have hrw := hp18
              refine L.callV rfl rfl rfl (fun D19 hD19 => by have := chairs3_ok hbt hkl hO _ _ (by rw [hx1]; exact hrw.up (hD19 _ (by simp))); rw [hx1] at this; exact this) rfl trivial ?_
              refine L.move rfl rfl rfl trivial ?_
              refine L.extract rfl rfl rfl rfl trivial ?_
              refine L.extract rfl rfl rfl rfl trivial ?_
              refine L.nil ?_
              refine S.fin [(true,10),(false,11)] rfl ?_
              refine L.apart hB1 (by simp) (fun hap => ?_)
              refine L.nd (fun hnd => ?_)
              refine L.storeB (off := 0) (us := [.int .i64 (b.chairs - O), .int .i64 (b.chairs - O)]) (ws := [.int .i64 (b.chairs - O), .int .i64 (b.chairs - O)]) rfl rfl rfl rfl Tf.s54 (Has.head) (by simp) rfl (by simp [cell1]) (Or.inr (But.in_ (by simp [Boxes.ks] at hap hnd ⊢; omega))) trivial ?_
              refine L.assign rfl rfl rfl trivial ?_
              refine L.nil ?_
              refine S.nil ?_
              refine C.next ?_
              refine C.seq ?_
              refine C.region [(false,0),(false,1),(false,2),(false,3),(false,4),(false,5),(false,6),(false,7),(false,8),(false,9),(false,10),(false,11),(false,12),(false,13),(false,14),(false,15),(false,16),(false,17),(false,18),(false,19),(false,20),(false,21),(false,22),(false,23),(false,24)] rfl ?_
              refine L.loadBW rfl Tf.a51 rfl (List.Mem.tail _ (List.Mem.head _)) Tf.s51 List.not_mem_nil rfl trivial ?_
              refine L.call rfl rfl rfl (fun D20 hD20 => Row_ok _ (stoodD (vdS x kn) (b.chairs - O)) _ ⟨_, _, rfl, hrp.up RI.up (hD20 _ (by simp)), hrc.up RC.up (hD20 _ (by simp))⟩ (by simp [stoodD]; omega) (by simp [stoodD])) rfl trivial (fun v20 D20 hD20 hp20 => ?_)
              have hrw2 := hp20
              refine L.move rfl rfl rfl trivial ?_
              refine L.callV rfl rfl rfl (fun D21 hD21 => ProveTruth_ok _ _ (stoodD (vdS x kn) (b.chairs - O)) (tauS b.chairs.toNat t kn) _ (hrw2.up (hD21 _ (by simp))) (hTau.up RI.up (hD21 _ (by simp)))) rfl trivial ?_
              refine L.move rfl rfl rfl trivial ?_
              refine' L.and [(false,5),(false,6),(false,7)] [(false,8),(false,9),(false,10),(false,11),(false,12),(false,13),(false,14),(false,15),(false,16),(false,17),(false,18),(false,19),(false,20),(false,21),(false,22),(false,23),(false,24)] (s := 204) (p := 207) rfl rfl (fun hg13 => ?_) (fun hg13 => ?_) ?_
              rotate_left
              · refine L.move rfl rfl rfl ⟨_, rfl, rfl⟩ ?_
                refine L.eql rfl rfl rfl rfl ⟨_, rfl, rfl⟩ ?_
                refine L.pickT rfl rfl rfl rfl trivial ?_
                exact L.nil fun a w hh => hh.cutK 2 rfl
              · refine L.pass rfl rfl rfl ⟨_, _, rfl, rfl, rfl⟩ ?_
                refine L.pass rfl rfl rfl ⟨_, _, rfl, rfl, rfl⟩ ?_
                refine L.pickF rfl rfl rfl rfl trivial ?_
                exact L.nil fun a w hh => hh.cutK 2 rfl
              refine L.move rfl rfl rfl trivial ?_
              refine' L.and [(false,9),(false,10),(false,11),(false,12),(false,13),(false,14),(false,15),(false,16),(false,17),(false,18),(false,19),(false,20)] [(false,21),(false,22),(false,23),(false,24)] (s := 208) (p := 220) rfl rfl (fun hg14 => ?_) (fun hg14 => ?_) ?_
              rotate_left
              · refine L.loadBW rfl Tf.a54 rfl (List.Mem.head _) Tf.s54 List.not_mem_nil rfl ⟨_, rfl, rfl⟩ ?_
                refine L.fieldAddr rfl Tf.f25_0 rfl rfl ⟨_, rfl, rfl⟩ ?_
                refine L.loadD1 rfl (k := 0) Tf.a3 rfl hB1 (by first | simp | assumption) rfl List.not_mem_nil rfl ⟨_, rfl, rfl⟩ ?_
                refine L.move rfl rfl rfl ⟨_, rfl, rfl⟩ ?_
                refine L.sub rfl rfl rfl (by simp only [inK]; omega) rfl ⟨_, rfl, rfl⟩ ?_
                refine L.fieldAddr rfl Tf.f25_0 rfl rfl ⟨_, rfl, rfl⟩ ?_
                refine L.loadD1 rfl (k := 0) Tf.a3 rfl hB1 (by first | simp | assumption) rfl List.not_mem_nil rfl ⟨_, rfl, rfl⟩ ?_
                refine L.move rfl rfl rfl ⟨_, rfl, rfl⟩ ?_
                refine L.sub rfl rfl rfl (by simp only [inK]; omega) rfl ⟨_, rfl, rfl⟩ ?_
                refine L.build (cs := [.int .i64 (b.chairs - O), .int .i64 (b.chairs - O)]) rfl Tf.p54 Tf.z54 rfl (by kernel_rfl) rfl ⟨_, rfl, rfl⟩ ?_
                refine L.eqlK (a := (b.chairs - O, b.chairs - O)) (b := (b.chairs - O, b.chairs - O)) rfl (by kernel_rfl) k2_54 rfl rfl rfl ⟨_, rfl, rfl⟩ ?_
                refine L.pickT rfl rfl rfl rfl trivial ?_
                exact L.nil fun a w hh => hh.cutK 11 rfl
              · refine L.pass rfl rfl rfl ⟨_, _, rfl, rfl, rfl⟩ ?_
                refine L.pass rfl rfl rfl ⟨_, _, rfl, rfl, rfl⟩ ?_
                refine L.pass rfl rfl rfl ⟨_, _, rfl, rfl, rfl⟩ ?_
                refine L.pass rfl rfl rfl ⟨_, _, rfl, rfl, rfl⟩ ?_
                refine L.pass rfl rfl rfl ⟨_, _, rfl, rfl, rfl⟩ ?_
                refine L.pass rfl rfl rfl ⟨_, _, rfl, rfl, rfl⟩ ?_
                refine L.pass rfl rfl rfl ⟨_, _, rfl, rfl, rfl⟩ ?_
                refine L.pass rfl rfl rfl ⟨_, _, rfl, rfl, rfl⟩ ?_
                refine L.pass rfl rfl rfl ⟨_, _, rfl, rfl, rfl⟩ ?_
                refine L.pass rfl rfl rfl ⟨_, _, rfl, rfl, rfl⟩ ?_
                refine L.pass rfl rfl rfl ⟨_, _, rfl, rfl, rfl⟩ ?_
                refine L.pickF rfl rfl rfl rfl trivial ?_
                exact L.nil fun a w hh => hh.cutK 11 rfl
              refine L.move rfl rfl rfl trivial ?_
              refine' L.and [(false,22),(false,23)] [(false,24)] (s := 221) (p := 223) rfl rfl (fun hg15 => ?_) (fun hg15 => ?_) ?_
              rotate_left
              · refine L.callV rfl rfl rfl (fun D22 hD22 => left_ok _) rfl ⟨_, rfl, rfl⟩ ?_
                refine L.pickT rfl rfl rfl rfl trivial ?_
                exact L.nil fun a w hh => hh.cutK 1 rfl
              · refine L.pass rfl rfl rfl ⟨_, _, rfl, rfl, rfl⟩ ?_
                refine L.pickF rfl rfl rfl rfl trivial ?_
                exact L.nil fun a w hh => hh.cutK 1 rfl
              refine L.assign rfl rfl rfl trivial ?_
              refine L.nil ?_
              refine C.next ?_
              refine C.ret ?_
              exact leave (vs := [_]) rfl rfl rfl ⟨rfl, trivial⟩ (fun D hD => congrArg Value.bool (by rw [hst.1]; simp))
end Go.Fs
