/- Walks: the greatest number of pairs, and a pairing that has so many. -/
import Derived.Test.YtjhdcelmgfajbaaW5
import Derived.Test.YtjhdcelmgfajbaaShow
import Derived.Test.YtjhdcelmgfajbaaMapK
import Derived.Test.YtjhdcelmgfajbaaMend
namespace Go.Fs
open Go.Proofs
open C7
/-- What is kept in the map: the greatest numbers of pairs. -/
def MOk (n : Nat) (M : List (Ints 8 × Int)) : Prop := ∀ p ∈ M, ∃ (m : Nat) (F : List Nat), p.1.l = (m : Int) :: F.map (fun x : Nat => (x : Int)) ∧ p.2 = (nuB F n m : Int)
theorem casts_inj : ∀ {F G : List Nat}, F.map (fun x : Nat => (x : Int)) = G.map (fun x : Nat => (x : Int)) → F = G
  | [], [], _ => rfl
  | x :: F, y :: G, h => by
    rw [List.map_cons, List.map_cons, List.cons.injEq] at h
    rw [casts_inj h.2, show x = y by omega]
theorem mok_get {n m : Nat} {a0 a1 a2 a3 a4 a5 a6 : Nat} {M : List (Ints 8 × Int)} {v : Int} {h : [(m : Int), a0, a1, a2, a3, a4, a5, a6].length = 8} (hok : MOk n M) (hm : (⟨[(m : Int), a0, a1, a2, a3, a4, a5, a6], h⟩, v) ∈ M) : v = (nuB [a0, a1, a2, a3, a4, a5, a6] n m : Int) := by
  obtain ⟨m', F, h1, h2⟩ := hok _ hm
  simp only [List.cons.injEq] at h1
  obtain ⟨h0, h1⟩ := h1
  have : F = [a0, a1, a2, a3, a4, a5, a6] := casts_inj (by rw [← h1]; rfl)
  rw [this, show m' = m by omega] at h2
  exact h2
theorem mok_put {n m : Nat} {a0 a1 a2 a3 a4 a5 a6 : Nat} {M M' : List (Ints 8 × Int)} {v : Int} {h : [(m : Int), a0, a1, a2, a3, a4, a5, a6].length = 8} (hok : MOk n M) (hm : ∀ p ∈ M', p ∈ M ∨ p = (⟨[(m : Int), a0, a1, a2, a3, a4, a5, a6], h⟩, v)) (hv : v = (nuB [a0, a1, a2, a3, a4, a5, a6] n m : Int)) : MOk n M' := fun p hp => by
  rcases hm p hp with h1 | rfl
  · exact hok p h1
  · exact ⟨m, [a0, a1, a2, a3, a4, a5, a6], rfl, hv⟩
theorem MOk.nil {n : Nat} : MOk n [] := fun p hp => by cases hp
theorem bits_lt {m n : Nat} (h : ∀ x, m.testBit x = true → x < n) (hn : n ≤ 7) : m < 128 := by
  have : m < 2 ^ n := by
    apply Nat.lt_pow_two_of_testBit
    intro i hi
    cases e : m.testBit i with
    | false => rfl
    | true => have := h i e; omega
  have h2 : 2 ^ n ≤ 2 ^ 7 := Nat.pow_le_pow_right (by omega) hn
  omega
theorem bits_dif {m n a : Nat} (h : ∀ x, m.testBit x = true → x < n) : ∀ x, (dif m (2 ^ a)).testBit x = true → x < n := fun x hx => h x (by rw [dif_at] at hx; simp at hx; exact hx.1)
theorem pow_lt7 {k : Nat} (h : k < 7) : 2 ^ k < 128 := by
  have : 2 ^ k < 2 ^ 7 := Nat.pow_lt_pow_right (by omega) h
  omega
theorem row_lt {F : List Nat} (h : ∀ f ∈ F, f < 128) (a : Nat) : F.getD a 0 < 128 := by
  rw [List.getD_eq_getElem?_getD]
  cases e : F[a]? with
  | none => simp
  | some x => exact h x (List.mem_of_getElem? e)
theorem sp_row (a0 a1 a2 a3 a4 a5 a6 : Nat) {a : Nat} (h : a < 7) : ([.int .i64 (a0 : Int), .int .i64 (a1 : Int), .int .i64 (a2 : Int), .int .i64 (a3 : Int), .int .i64 (a4 : Int), .int .i64 (a5 : Int), .int .i64 (a6 : Int)] : List Value)[a * 1]? = some (.int .i64 (([a0, a1, a2, a3, a4, a5, a6].getD a 0 : Nat) : Int)) := by
  have e : a = 0 ∨ a = 1 ∨ a = 2 ∨ a = 3 ∨ a = 4 ∨ a = 5 ∨ a = 6 := by omega
  rcases e with rfl | rfl | rfl | rfl | rfl | rfl | rfl <;> rfl
theorem nuB_le (F : List Nat) (n : Nat) : ∀ m, nuB F n m ≤ m := by
  intro m
  induction m using Nat.strongRecOn with
  | _ m ih =>
    by_cases hm : m = 0
    · subst hm; rw [nuB_zero]; exact Nat.le_refl _
    · have hlt := bit_lt (low_spec hm).1
      rcases step_ge (F := F) (rest := dif m (2 ^ low m)) (a := low m) (nu := nuB F n) (List.range n) (nuB F n (dif m (2 ^ low m))) with h | ⟨b, _, _, h⟩
      · rw [nuB_eq hm, h]; have := ih _ hlt; omega
      · rw [nuB_eq hm, h]
        have h2 := dif2_lt (b := b) hm
        have := ih _ h2; omega
/-- The greatest number, if only the first k chairs are tried as partners. -/
def mkB (F : List Nat) (n m k : Nat) : Nat := (List.range k).foldl (stepB F (dif m (2 ^ low m)) (low m) (nuB F n)) (nuB F n (dif m (2 ^ low m)))
theorem nuB_mk {F : List Nat} {n m : Nat} (h : m ≠ 0) : nuB F n m = mkB F n m n := nuB_eq h
theorem mkB_yes {F : List Nat} {n m k : Nat} (h : (dif m (2 ^ low m) &&& F.getD (low m) 0).testBit k = true) : mkB F n m (k + 1) = max (mkB F n m k) (1 + nuB F n (dif (dif m (2 ^ low m)) (2 ^ k))) := by
  have e : mkB F n m (k + 1) = stepB F (dif m (2 ^ low m)) (low m) (nuB F n) (mkB F n m k) k := by unfold mkB; rw [List.range_succ, List.foldl_append, List.foldl_cons, List.foldl_nil]
  rw [e]; unfold stepB; rw [if_pos h]
theorem mkB_no {F : List Nat} {n m k : Nat} (h : (dif m (2 ^ low m) &&& F.getD (low m) 0).testBit k = false) : mkB F n m (k + 1) = mkB F n m k := by
  have e : mkB F n m (k + 1) = stepB F (dif m (2 ^ low m)) (low m) (nuB F n) (mkB F n m k) k := by unfold mkB; rw [List.range_succ, List.foldl_append, List.foldl_cons, List.foldl_nil]
  rw [e]; unfold stepB; rw [if_neg (by rw [h]; simp)]
theorem unf_w {wb mb t cl : Nat} {cs : List Value} {es : Array MapEntry} : ∀ p ∈ [(wb, Obj.cells cs.toArray t (0, 0)), (mb, .map es cl)], unfrozen p.2 := by
  intro p hp
  simp only [List.mem_cons, List.not_mem_nil, or_false] at hp
  rcases hp with rfl | rfl
  · rfl
  · trivial
theorem ka_162 : KA Try.prog 162 7 := ⟨(Try.prog.fieldsOf 162)[0]!, (Try.prog.fieldsOf 162)[1]!, 3, by kernel_rfl, by kernel_rfl, by kernel_rfl, by decide +kernel, by decide +kernel, by kernel_rfl, by kernel_rfl, by kernel_rfl, by kernel_rfl, by kernel_rfl, by kernel_rfl, by rw [show ((Try.prog.fieldsOf 162)[1]!).type = 124 by kernel_rfl]; exact Tf.a124, by rw [show ((Try.prog.fieldsOf 162)[1]!).type = 124 by kernel_rfl]; exact Tf.s124, Tf.s3⟩
theorem pairs_ok (wb mb : Nat) (cv qv : Value) (fit : Int) (chs : List Ch) (a0 a1 a2 a3 a4 a5 a6 : Nat) (hn7 : chs.length ≤ 7) (hF : ∀ f ∈ [a0, a1, a2, a3, a4, a5, a6], f < 128) :
    ∀ (L m : Nat), m = L → (∀ x, m.testBit x = true → x < chs.length) → ∀ (es : Array MapEntry) (clock : Nat) (M : List (Ints 8 × Int)) (D : Data), Sl D RCh 4 cv chs → MapG kaV es M → MOk chs.length M →
    FnM Try.prog 107 [.pointer (some ⟨wb, 0, none⟩), .agg #[.int .i64 (m : Int), .int .i64 (a0 : Int), .int .i64 (a1 : Int), .int .i64 (a2 : Int), .int .i64 (a3 : Int), .int .i64 (a4 : Int), .int .i64 (a5 : Int), .int .i64 (a6 : Int)]] D [(wb, .cells [cv, .int .i64 fit, qv, .map (some mb)].toArray 148 (0, 0)), (mb, .map es clock)] (fun _ v ν' => v = .int .i64 (nuB [a0, a1, a2, a3, a4, a5, a6] chs.length m : Int) ∧ ∃ es' clock' M', ν' = [(wb, .cells [cv, .int .i64 fit, qv, .map (some mb)].toArray 148 (0, 0)), (mb, .map es' clock')] ∧ MapG kaV es' M' ∧ MOk chs.length M') := by
  intro L
  induction L using Nat.strongRecOn with
  | _ L ih =>
  intro m hL hbits es clock M D hS hM hok
  subst hL
  have hl1 := hS.len
  have hmb := bits_lt hbits hn7
  refine enterMany 78 Try.func107 rfl rfl rfl rfl (fun h0 hwl hwn => ?_)
  refine C.seq ?_
  refine C.region [(false,0),(false,1)] rfl ?_
  refine L.boxD rfl rfl rfl rfl trivial (fun q1 E1 hE1 hB1 => ?_)
  refine L.assign rfl rfl rfl trivial ?_
  refine L.nil ?_
  refine C.next ?_
  refine C.seq ?_
  refine C.seq ?_
  refine C.region [(false,0),(false,1),(false,2)] rfl ?_
  refine L.fieldAddr rfl Tf.f162_0 rfl rfl trivial ?_
  refine L.loadD1 rfl (k := 0) Tf.a3 rfl hB1 (by first | simp | assumption) rfl List.not_mem_nil rfl trivial ?_
  refine L.eql rfl rfl rfl rfl trivial ?_
  refine L.nil ?_
  refine C.next ?_
  refine C.condD rfl (fun hc1 => ?_) (fun hc1 => ?_)
  · refine C.seq ?_
    refine C.region [(false,0)] rfl ?_
    refine L.assign rfl rfl rfl trivial ?_
    refine L.nil ?_
    refine C.next ?_
    refine C.ret ?_
    refine C.thenRet ?_
    exact leaveMany (A := []) (ν' := [_, _]) (B := []) (vs := [_]) rfl rfl rfl ⟨rfl, trivial⟩ rfl (fun D hD => ⟨by show Value.int _ _ = _; rw [show m = 0 by omega, nuB_zero]; rfl, es, clock, M, rfl, hM, hok⟩)
  · have hm0 : m ≠ 0 := by omega
    have hlow := low_spec hm0
    have hlown := hbits _ hlow.1
    have hlow7 : low m < 7 := by omega
    have hp2 := pow_lt7 hlow7
    have hlt := bit_lt hlow.1
    have hrest := dif_le m (2 ^ low m)
    refine C.skip ?_
    refine C.next ?_
    refine C.seq ?_
    refine C.seq ?_
    refine C.draw [] 6 [0,1,2,3,4,5,6,7,8,9,10] [false,false,false,false,true,false,false,false,true,true,false] [(false,0),(false,1),(false,2),(false,3),(true,4),(false,5),(false,6),(false,7),(true,8),(true,9),(false,10)] Tf.follows (fun _ _ _ h => np_bodyMany (P := Try.prog) (fn := Try.f107) _ _ _ h) (by kernel_rfl) rfl ?_
    refine L.move rfl rfl rfl trivial ?_
    refine L.nilCheck rfl rfl rfl trivial ?_
    refine L.fieldAddr rfl Tf.f148_1 rfl rfl trivial ?_
    refine L.loadB1 rfl Tf.a146 rfl (List.Mem.head _) rfl List.not_mem_nil rfl trivial ?_
    refine L.loadDW rfl Tf.a162 rfl hB1 (by first | simp | assumption) Tf.s162 List.not_mem_nil rfl trivial ?_
    refine L.lookupG (val := kaV (n := 8)) (a := ⟨[(m : Int), (a0 : Int), (a1 : Int), (a2 : Int), (a3 : Int), (a4 : Int), (a5 : Int), (a6 : Int)], rfl⟩) rfl Try.underlying146 ka_162.key Tf.z3 rfl rfl (List.Mem.tail _ (List.Mem.head _)) List.not_mem_nil hM rfl trivial (fun nv ok hmem => ?_)
    refine L.move rfl rfl rfl trivial ?_
    refine L.extract rfl rfl rfl rfl trivial ?_
    refine L.extract rfl rfl rfl rfl trivial ?_
    refine L.assign rfl rfl rfl trivial ?_
    refine L.assign rfl rfl rfl trivial ?_
    refine L.nil ?_
    refine C.next ?_
    refine C.seq ?_
    refine C.region [(false,0)] rfl ?_
    refine L.move rfl rfl rfl trivial ?_
    refine L.nil ?_
    refine C.next ?_
    refine C.cond rfl (fun hc2 => ?_) (fun hc2 => ?_)
    · subst hc2
      refine C.seq ?_
      refine C.region [(false,0),(false,1)] rfl ?_
      refine L.move rfl rfl rfl trivial ?_
      refine L.assign rfl rfl rfl trivial ?_
      refine L.nil ?_
      refine C.next ?_
      refine C.ret ?_
      refine C.thenRet ?_
      exact leaveMany (A := []) (ν' := [_, _]) (B := []) (vs := [_]) rfl rfl rfl ⟨rfl, trivial⟩ rfl (fun D hD => ⟨by show Value.int _ _ = _; rw [mok_get hok (hmem rfl)], es, clock, M, rfl, hM, hok⟩)
    · refine C.skip ?_
      refine C.next ?_
      refine C.seq ?_
      refine C.region [(false,0),(false,1),(false,2),(false,3)] rfl ?_
      refine L.fieldAddr rfl Tf.f162_0 rfl rfl trivial ?_
      refine L.loadD1 rfl (k := 0) Tf.a3 rfl hB1 (by first | simp | assumption) rfl List.not_mem_nil rfl trivial ?_
      refine L.callV rfl rfl rfl (fun D1 hD1 => lowest_ok m (low m) _ hlow.1 (by omega) hlow.2) rfl trivial ?_
      refine L.assign rfl rfl rfl trivial ?_
      refine L.nil ?_
      refine C.next ?_
      refine C.seq ?_
      refine C.draw [] 2 [0,1,2,3,4,5] [false,false,true,true,false,false] [(false,0),(false,1),(true,2),(true,3),(false,4),(false,5)] Tf.follows (fun _ _ _ h => np_bodyMany (P := Try.prog) (fn := Try.f107) _ _ _ h) (by kernel_rfl) rfl ?_
      refine L.fieldAddr rfl Tf.f162_0 rfl rfl trivial ?_
      refine L.loadD1 rfl (k := 0) Tf.a3 rfl hB1 (by first | simp | assumption) rfl List.not_mem_nil rfl trivial ?_
      refine L.move rfl rfl rfl trivial ?_
      refine L.shl1 rfl rfl rfl (by omega) rfl trivial ?_
      refine L.difN rfl rfl rfl (by omega) (by omega) rfl trivial ?_
      refine L.assign rfl rfl rfl trivial ?_
      refine L.nil ?_
      refine C.next ?_
      refine C.seq ?_
      refine C.region [(false,0),(false,1),(false,2),(false,3),(false,4),(false,5),(false,6)] rfl ?_
      refine L.move rfl rfl rfl trivial ?_
      refine L.move rfl rfl rfl trivial ?_
      refine L.fieldAddr rfl Tf.f162_1 rfl rfl trivial ?_
      refine L.loadDP rfl (k := 1) (us := [.int .i64 (a0 : Int), .int .i64 (a1 : Int), .int .i64 (a2 : Int), .int .i64 (a3 : Int), .int .i64 (a4 : Int), .int .i64 (a5 : Int), .int .i64 (a6 : Int)]) Tf.a124 Tf.s124 rfl hB1 (by first | simp | assumption) rfl rfl List.not_mem_nil rfl trivial ?_
      refine L.build (cs := [.int .i64 ((dif m (2 ^ low m) : Nat) : Int), .int .i64 (a0 : Int), .int .i64 (a1 : Int), .int .i64 (a2 : Int), .int .i64 (a3 : Int), .int .i64 (a4 : Int), .int .i64 (a5 : Int), .int .i64 (a6 : Int)]) rfl Tf.p162 Tf.z162 rfl (by kernel_rfl) rfl trivial ?_
      refine L.callM (A := []) (ν := [(_, _), (_, _)]) (B := []) rfl rfl rfl rfl (Or.inl rfl) (unf_w (cs := [_, _, _, _])) (fun D5 hD5 => ih _ hlt _ rfl (bits_dif hbits) es clock M D5 (hS.up RCh.up (hD5 _ (by simp))) hM hok) rfl trivial (fun v5 D6 _ hD6 hp5 => ?_)
      obtain ⟨rfl, es4, cl4, M4, rfl, hM4, hok4⟩ := hp5
      refine L.assign rfl rfl rfl trivial ?_
      refine L.nil ?_
      refine C.next ?_
      refine C.seq ?_
      refine C.seq ?_
      refine C.region [(false,0),(false,1),(false,2),(false,3),(false,4),(false,5),(false,6)] rfl ?_
      refine L.move rfl rfl rfl trivial ?_
      refine L.nilCheck rfl rfl rfl trivial ?_
      refine L.fieldAddr rfl Tf.f148_0 rfl rfl trivial ?_
      refine L.fieldAddr rfl Tf.f37_0 rfl rfl trivial ?_
      refine L.loadB1 rfl Tf.a34 rfl (List.Mem.head _) rfl List.not_mem_nil rfl trivial ?_
      refine L.len rfl Try.underlying34 rfl hS rfl rfl trivial ?_
      refine L.move rfl rfl rfl trivial ?_
      refine L.nil ?_
      refine C.next ?_
      refine C.block ?_
      refine C.loopR (γ := Nat × Array MapEntry × Nat × List (Ints 8 × Int)) (fun g => chs.length - g.1) (fun g => g.1 ≤ chs.length ∧ MapG kaV g.2.1 g.2.2.2 ∧ MOk chs.length g.2.2.2) (fun g => [(45, .int .i64 (g.1 : Int)), (9, .int .i64 (mkB [a0, a1, a2, a3, a4, a5, a6] chs.length m g.1 : Int))]) [(44, _), (8, _), (7, _), (4, _), (3, _), (0, _)] (fun g => [(wb, .cells [cv, .int .i64 fit, qv, .map (some mb)].toArray 148 (0, 0)), (mb, .map g.2.1 g.2.2.1)]) (fun g => [D6, E1, D]) (0, es4, cl4, M4) ⟨by simp, hM4, hok4⟩ ⟨(by first | rfl | (show some (Value.int _ _) = some (Value.int _ _); congr 2; omega)), (by first | rfl | (show some (Value.int _ _) = some (Value.int _ _); congr 2; omega)), trivial⟩ ⟨rfl, rfl, rfl, rfl, rfl, rfl, trivial⟩ (List.Sublist.refl _) (ds_same) ?_
      rintro ⟨k, es1, cl1, M1⟩ ⟨h1, hM1, hok1⟩
      simp only at h1 hM1 hok1
      refine C.seq ?_
      refine C.region [(false,0)] rfl ?_
      refine L.lss rfl rfl rfl rfl trivial ?_
      refine L.nil ?_
      refine C.next ?_
      refine C.seq ?_
      refine C.condD rfl (fun hc3 => ?_) (fun hc3 => ?_)
      · have hk : k < chs.length := by omega
        have hpk := pow_lt7 (show k < 7 by omega)
        have hrow := row_lt hF (low m)
        have hdl := dif_le (dif m (2 ^ low m)) (2 ^ k)
        have hnl := nuB_le [a0, a1, a2, a3, a4, a5, a6] chs.length (dif (dif m (2 ^ low m)) (2 ^ k))
        have hand := Nat.and_le_left (n := dif m (2 ^ low m)) (m := [a0, a1, a2, a3, a4, a5, a6].getD (low m) 0)
        refine C.skip ?_
        refine C.next ?_
        refine C.seq ?_
        refine C.block ?_
        refine C.seq ?_
        refine C.region [(false,0),(false,1)] rfl ?_
        refine L.move rfl rfl rfl trivial ?_
        refine L.assign rfl rfl rfl trivial ?_
        refine L.nil ?_
        refine C.next ?_
        refine C.seq ?_
        refine C.region [(false,0),(false,1),(false,2),(false,3),(false,4),(false,5),(false,6),(false,7),(false,8),(false,9)] rfl ?_
        refine L.move rfl rfl rfl trivial ?_
        refine L.move rfl rfl rfl trivial ?_
        refine L.fieldAddr rfl Tf.f162_1 rfl rfl trivial ?_
        refine L.indexA rfl Try.underlying124 Tf.s3 rfl rfl (by omega) (by omega) rfl trivial ?_
        refine L.loadD1 (o := 0 + 1) (k := low m * 1) rfl Tf.a3 rfl hB1.tail (by simp) (sp_row a0 a1 a2 a3 a4 a5 a6 hlow7) List.not_mem_nil rfl trivial ?_
        refine L.andN rfl rfl rfl (by omega) (by omega) rfl trivial ?_
        refine L.move rfl rfl rfl trivial ?_
        refine L.shrN rfl rfl rfl (by omega) rfl trivial ?_
        refine L.rem rfl rfl rfl (Int.natCast_nonneg _) (by omega) (by rw [bit_mod]; split <;> simp only [inK] <;> omega) rfl trivial ?_
        refine L.eql rfl rfl rfl rfl trivial ?_
        refine L.nil ?_
        refine C.next ?_
        refine C.condD rfl (fun hc4 => ?_) (fun hc4 => ?_)
        · have hbit : (dif m (2 ^ low m) &&& [a0, a1, a2, a3, a4, a5, a6].getD (low m) 0).testBit k = true := by rw [bit_mod] at hc4; simpa using hc4
          refine C.apart hB1 (by simp) (fun hq1 => ?_)
          have hq1 : q1 ∉ [wb, mb] := hq1
          refine C.draw [wb, mb] 6 [0,1,2,3,4,5,6,7,8,9,10,11,12] [false,true,true,true,true,true,true,true,true,true,true,false,false] [(false,0),(true,1),(true,2),(true,3),(true,4),(true,5),(true,6),(true,7),(true,8),(true,9),(true,10),(false,11),(false,12)] Tf.follows (fun _ _ _ h => np_bodyMany (P := Try.prog) (fn := Try.f107) _ _ _ h) (by kernel_rfl) rfl ?_
          refine L.move rfl rfl rfl trivial ?_
          refine L.move rfl rfl rfl trivial ?_
          refine L.move rfl rfl rfl trivial ?_
          refine L.move rfl rfl rfl trivial ?_
          refine L.shl1 rfl rfl rfl (by omega) rfl trivial ?_
          refine L.difN rfl rfl rfl (by omega) (by simp only; omega) rfl trivial ?_
          refine L.fieldAddr rfl Tf.f162_1 rfl rfl trivial ?_
          refine L.loadDP rfl (k := 1) (us := [.int .i64 (a0 : Int), .int .i64 (a1 : Int), .int .i64 (a2 : Int), .int .i64 (a3 : Int), .int .i64 (a4 : Int), .int .i64 (a5 : Int), .int .i64 (a6 : Int)]) Tf.a124 Tf.s124 rfl hB1 (by first | simp | assumption) rfl rfl (by first | assumption | simp) rfl trivial ?_
          refine L.build (cs := [.int .i64 ((dif (dif m (2 ^ low m)) (2 ^ k) : Nat) : Int), .int .i64 (a0 : Int), .int .i64 (a1 : Int), .int .i64 (a2 : Int), .int .i64 (a3 : Int), .int .i64 (a4 : Int), .int .i64 (a5 : Int), .int .i64 (a6 : Int)]) rfl Tf.p162 Tf.z162 rfl (by kernel_rfl) rfl trivial ?_
          refine L.callM (A := []) (ν := [(_, _), (_, _)]) (B := []) rfl rfl rfl rfl (Or.inr (fun p hp => List.mem_map.2 ⟨p, hp, rfl⟩)) (unf_w (cs := [_, _, _, _])) (fun D7 hD7 => ih _ (dif2_lt hm0) _ rfl (bits_dif (bits_dif hbits)) es1 cl1 M1 D7 (hS.up RCh.up (hD7 _ (by simp))) hM1 hok1) rfl trivial (fun v7 D8 _ hD8 hp7 => ?_)
          obtain ⟨rfl, es5, cl5, M5, rfl, hM5, hok5⟩ := hp7
          refine L.add rfl rfl rfl (by simp only [inK]; omega) rfl trivial ?_
          refine L.max2 rfl rfl rfl rfl trivial ?_
          refine L.assign rfl rfl rfl trivial ?_
          refine L.nil ?_
          refine C.blockEnd ?_
          refine C.next ?_
          refine C.region [(false,0),(false,1)] rfl ?_
          refine L.add rfl rfl rfl (by simp only [inK]; omega) rfl trivial ?_
          refine L.move rfl rfl rfl trivial ?_
          refine L.nil ?_
          exact C.againR 30 (k + 1, es5, cl5, M5) ⟨by simp only; omega, hM5, hok5⟩ (by simp only; omega) ⟨(by first | rfl | (show some (Value.int _ _) = some (Value.int _ _); congr 2; omega)), (by rw [mkB_yes hbit]; show some (Value.int _ _) = some (Value.int _ _); congr 2; simp only; omega), trivial⟩ rfl rfl (List.Sublist.refl _) (fun D h => ⟨D, List.Mem.tail _ (h), Le.refl D⟩)
        · have hbit : (dif m (2 ^ low m) &&& [a0, a1, a2, a3, a4, a5, a6].getD (low m) 0).testBit k = false := by rw [bit_mod] at hc4; simpa using hc4
          refine C.skip ?_
          refine C.blockEnd ?_
          refine C.next ?_
          refine C.region [(false,0),(false,1)] rfl ?_
          refine L.add rfl rfl rfl (by simp only [inK]; omega) rfl trivial ?_
          refine L.move rfl rfl rfl trivial ?_
          refine L.nil ?_
          exact C.againR 17 (k + 1, es1, cl1, M1) ⟨by simp only; omega, hM1, hok1⟩ (by simp only; omega) ⟨(by first | rfl | (show some (Value.int _ _) = some (Value.int _ _); congr 2; omega)), (by rw [mkB_no hbit]; rfl), trivial⟩ rfl rfl (List.Sublist.refl _) (ds_same)
      · obtain rfl : k = chs.length := by omega
        refine C.exit ?_
        refine C.thenExit ?_
        refine C.thenExit ?_
        refine C.blockExit ?_
        refine C.next ?_
        refine C.seq ?_
        refine C.draw [] 3 [0,1,2,3,4,5,6] [false,false,false,false,true,true,false] [(false,0),(false,1),(false,2),(false,3),(true,4),(true,5),(false,6)] Tf.follows (fun _ _ _ h => np_bodyMany (P := Try.prog) (fn := Try.f107) _ _ _ h) (by kernel_rfl) rfl ?_
        refine L.move rfl rfl rfl trivial ?_
        refine L.nilCheck rfl rfl rfl trivial ?_
        refine L.fieldAddr rfl Tf.f148_1 rfl rfl trivial ?_
        refine L.loadB1 rfl Tf.a146 rfl (List.Mem.head _) rfl List.not_mem_nil rfl trivial ?_
        refine L.loadDW rfl Tf.a162 rfl hB1 (by first | simp | assumption) Tf.s162 List.not_mem_nil rfl trivial ?_
        refine L.move rfl rfl rfl trivial ?_
        refine L.updateG (val := kaV (n := 8)) (A := [(_, _)]) (B := []) (a := ⟨[(m : Int), (a0 : Int), (a1 : Int), (a2 : Int), (a3 : Int), (a4 : Int), (a5 : Int), (a6 : Int)], rfl⟩) rfl Try.underlying146 ka_162.key rfl rfl rfl hM1 trivial (fun es3 cl3 M3 hM3 hm3 => ?_)
        refine L.nil ?_
        refine C.next ?_
        refine C.seq ?_
        refine C.region [(false,0),(false,1)] rfl ?_
        refine L.move rfl rfl rfl trivial ?_
        refine L.assign rfl rfl rfl trivial ?_
        refine L.nil ?_
        refine C.next ?_
        refine C.ret ?_
        exact leaveMany (A := []) (ν' := [_, _]) (B := []) (vs := [_]) rfl rfl rfl ⟨rfl, trivial⟩ rfl (fun D hD => ⟨by show Value.int _ _ = _; rw [nuB_mk hm0], es3, cl3, M3, rfl, hM3, mok_put hok1 hm3 (by rw [nuB_mk hm0])⟩)
end Go.Fs
