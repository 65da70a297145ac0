/- Of the proof of MendChair: W14, W15, W16. -/
import Derived.Test.YtjhdcelmgfajbaaZMendChairI
namespace Go.Fs
open Go.Proofs
open C7
theorem mem_fold {y : YardD} {out : List Int} : ∀ (ts : List (List Pt)) (acc : List (Sc × Nat)), (∀ p ∈ acc, p.2 = mostS y.chairs.length p.1) → ∀ p, p ∈ ts.foldl (addSc y out) acc ↔ p ∈ acc ∨ ∃ t ∈ ts, rightO y.claims out (mostT y t : Int) = true ∧ p = (sceneD y t, mostT y t)
  | [], acc, _, p => by simp
  | t :: ts, acc, h, p => by
    rw [List.foldl_cons]
    have h' : ∀ p ∈ addSc y out acc t, p.2 = mostS y.chairs.length p.1 := fun p hp => by
      unfold addSc at hp
      split at hp
      · rcases List.mem_append.1 hp with hp | hp
        · exact h p hp
        · simp only [List.mem_singleton] at hp; subst hp; rfl
      · exact h p hp
    rw [mem_fold ts _ h' p]
    have key : p ∈ addSc y out acc t ↔ p ∈ acc ∨ (rightO y.claims out (mostT y t : Int) = true ∧ p = (sceneD y t, mostT y t)) := by
      unfold addSc
      split
      · rename_i hc
        rw [Bool.and_eq_true] at hc
        rw [List.mem_append, List.mem_singleton]
        exact ⟨fun h => h.imp id fun e => ⟨hc.1, e⟩, fun h => h.imp id fun e => e.2⟩
      · rename_i hc
        refine ⟨Or.inl, fun h3 => ?_⟩
        rcases h3 with h3 | ⟨hr, rfl⟩
        · exact h3
        · have hr' : rightO y.claims out (mostS y.chairs.length (sceneD y t) : Int) = true := hr
          rw [hr', Bool.true_and, Bool.not_eq_true, Bool.or_eq_false_iff, decide_eq_false_iff_not, Bool.not_eq_false', beq_iff_eq] at hc
          obtain ⟨hc1, hc2⟩ := hc
          have hne : acc ≠ [] := fun e => hc1 (by rw [e]; rfl)
          unfold lastI at hc2
          rw [List.getLast?_eq_some_getLast hne] at hc2
          have h4 := scI_inj hc2
          have h5 := h _ (List.getLast_mem hne)
          have : acc.getLast hne = (sceneD y t, mostT y t) := Prod.ext h4 (by rw [h5, h4]; rfl)
          rw [← this]; exact List.getLast_mem hne
    rw [key]
    constructor
    · rintro ((h1 | h1) | ⟨s, h1, h2⟩)
      · exact Or.inl h1
      · exact Or.inr ⟨t, List.mem_cons_self, h1⟩
      · exact Or.inr ⟨s, List.mem_cons_of_mem _ h1, h2⟩
    · rintro (h1 | ⟨s, h1, h2⟩)
      · exact Or.inl (Or.inl h1)
      · rcases List.mem_cons.1 h1 with rfl | h1
        · exact Or.inl (Or.inr h2)
        · exact Or.inr ⟨s, h1, h2⟩
theorem mem_scenes {y : YardD} {out : List Int} {p : Sc × Nat} : p ∈ scenesD y out ↔ ∃ t, isTruth y t = true ∧ rightO y.claims out (mostT y t : Int) = true ∧ p = (sceneD y t, mostT y t) := by
  unfold scenesD
  rw [mem_fold _ _ (by simp)]
  simp only [List.not_mem_nil, false_or, mem_truthsD]
theorem scenes_sc {y : YardD} (h : YOk y) (out : List Int) : ∀ s ∈ (scenesD y out).map fun p => p.1, ScOk y.chairs.length s := fun s hs => by
  obtain ⟨p, hp, rfl⟩ := List.mem_map.1 hs
  obtain ⟨t, ht, _, rfl⟩ := mem_scenes.1 hp
  obtain ⟨hl, _⟩ := truthOk ht
  have := h.len
  exact scene_ok' hl (by omega)
/-- What Sure returns. -/
def sureV (y : YardD) : List (Int × Int) × Int × Int := if fault y ≠ 0 then ([], 0, fault y) else if scenesD y [] = [] then ([], 0, 11) else
  (((lvs y y.chairs.length 0 0 []).foldl (upd ((scenesD y []).map fun p => p.1)) ([], -1)).1, ((lvs y y.chairs.length 0 0 []).foldl (upd ((scenesD y []).map fun p => p.1)) ([], -1)).2, 0)
theorem sureR_err {y : YardD} {D : Data} (h : fault y ≠ 0) : ∃ lv, Value.tuple #[.slice none 0 0, .int .i64 0, .int .i64 (fault y)] = .tuple #[lv, .int .i64 (sureV y).2.1, .int .i64 (sureV y).2.2] ∧ Sl D R2 2 lv (sureV y).1 := by
  rw [sureV, if_pos h]; exact ⟨_, rfl, Sl.nil⟩
theorem sureR_nil {y : YardD} {D : Data} (h : fault y = 0) (hn : scenesD y [] = []) : ∃ lv, Value.tuple #[.slice none 0 0, .int .i64 0, .int .i64 11] = .tuple #[lv, .int .i64 (sureV y).2.1, .int .i64 (sureV y).2.2] ∧ Sl D R2 2 lv (sureV y).1 := by
  rw [sureV, if_neg (by omega), if_pos hn]; exact ⟨_, rfl, Sl.nil⟩
theorem sureR_ok {y : YardD} {D : Data} {lv : Value} (h : fault y = 0) (hn : ((scenesD y []).map fun p => p.1) ≠ []) (hS : Sl D R2 2 lv ((lvs y y.chairs.length 0 0 []).foldl (upd ((scenesD y []).map fun p => p.1)) ([], -1)).1) : ∃ lv', Value.tuple #[lv, .int .i64 ((lvs y y.chairs.length 0 0 []).foldl (upd ((scenesD y []).map fun p => p.1)) ([], -1)).2, .int .i64 0] = .tuple #[lv', .int .i64 (sureV y).2.1, .int .i64 (sureV y).2.2] ∧ Sl D R2 2 lv' (sureV y).1 := by
  rw [sureV, if_neg (by omega), if_neg (fun e => hn (by rw [e]; rfl))]; exact ⟨_, rfl, hS⟩
def proveSureV (y : YardD) (l : List (Int × Int)) (many : Int) : Bool := if (decide (fault y ≠ 0) || !(prB y.chairs.length l).isSome) = true then false else decide (0 < ((scenesD y []).length : Int)) && decide (sureZ ((scenesD y []).map fun p => p.1) l ≥ many)
theorem ps_go {y : YardD} {l : List (Int × Int)} (h : (decide (fault y ≠ 0) || !(prB y.chairs.length l).isSome) = false) : fault y = 0 ∧ (prB y.chairs.length l).isSome = true := by
  simpa using h
theorem ps_no {y : YardD} {l : List (Int × Int)} {many : Int} (h : (decide (fault y ≠ 0) || !(prB y.chairs.length l).isSome) = true) : proveSureV y l many = false := by unfold proveSureV; rw [if_pos h]
theorem ps_yes {y : YardD} {l : List (Int × Int)} {many : Int} (h : fault y = 0) (h2 : (prB y.chairs.length l).isSome = true) : proveSureV y l many = (decide (0 < ((scenesD y []).length : Int)) && decide (sureZ ((scenesD y []).map fun p => p.1) l ≥ many)) := by
  unfold proveSureV; rw [if_neg (by simp [h, h2])]
def takeC (y : YardD) (k : Nat) : YardD := { y with claims := y.claims.take k }
def firstP (y : YardD) (i : Nat) : Bool := !decide (0 < ((scenesD (takeC y (i + 1)) []).length : Int))
/-- What First returns. -/
def firstV (y : YardD) : Int × Int := if fault y ≠ 0 then (0, fault y) else match (List.range y.claims.length).find? (firstP y) with
  | some i => ((i : Int), 0)
  | none => (0, 7)
def tryL (f : Nat → List Int → Bool × List Int) : List Nat → List Int → Bool × List Int
  | [], fnd => (false, fnd)
  | i :: is, fnd => if (f i fnd).1 = true then (true, (f i fnd).2) else tryL f is (f i fnd).2
/-- Some more claims, from one on, are left out: is there a truth; and which ones were tried last. -/
def lvG (y : YardD) : Nat → Nat → List Int → List Int → Bool × List Int
  | 0, _, out, _ => (decide (0 < ((scenesD y out).length : Int)), out)
  | m + 1, f, out, fnd => tryL (fun i fnd => lvG y m (i + 1) (out ++ [(i : Int)]) fnd) (List.range' f (y.claims.length - m - f)) fnd
theorem try_yes {y : YardD} {m i : Nat} {out fnd : List Int} (hge : i + m < y.claims.length) (h : (lvG y m (i + 1) (out ++ [(i : Int)]) fnd).1 = true) : tryL (fun i fnd => lvG y m (i + 1) (out ++ [(i : Int)]) fnd) (List.range' i (y.claims.length - m - i)) fnd = (true, (lvG y m (i + 1) (out ++ [(i : Int)]) fnd).2) := by
  rw [show y.claims.length - m - i = (y.claims.length - m - i - 1) + 1 by omega, List.range'_succ, tryL, if_pos h]
theorem try_no {y : YardD} {m i : Nat} {out fnd : List Int} (hge : i + m < y.claims.length) (h : (lvG y m (i + 1) (out ++ [(i : Int)]) fnd).1 = false) : tryL (fun i fnd => lvG y m (i + 1) (out ++ [(i : Int)]) fnd) (List.range' i (y.claims.length - m - i)) fnd = tryL (fun i fnd => lvG y m (i + 1) (out ++ [(i : Int)]) fnd) (List.range' (i + 1) (y.claims.length - m - (i + 1))) (lvG y m (i + 1) (out ++ [(i : Int)]) fnd).2 := by
  conv => lhs; rw [show y.claims.length - m - i = (y.claims.length - m - (i + 1)) + 1 by omega, List.range'_succ, tryL, if_neg (by rw [h]; simp)]
theorem try_end {y : YardD} {m i : Nat} {out fnd : List Int} (hge : ¬ i + m < y.claims.length) : tryL (fun i fnd => lvG y m (i + 1) (out ++ [(i : Int)]) fnd) (List.range' i (y.claims.length - m - i)) fnd = (false, fnd) := by
  rw [show y.claims.length - m - i = 0 by omega]; rfl
theorem tryS_yes {y : YardD} {m : Nat} {fnd : List Int} (hm : m ≤ y.claims.length) (h : (lvG y m 0 [] fnd).1 = true) : (tryL (fun m fnd => lvG y m 0 [] fnd) (List.range' m (y.claims.length + 1 - m)) fnd).2 = (lvG y m 0 [] fnd).2 := by
  rw [show y.claims.length + 1 - m = (y.claims.length - m) + 1 by omega, List.range'_succ, tryL, if_pos h]
theorem tryS_no {y : YardD} {m : Nat} {fnd : List Int} (hm : m ≤ y.claims.length) (h : (lvG y m 0 [] fnd).1 = false) : tryL (fun m fnd => lvG y m 0 [] fnd) (List.range' m (y.claims.length + 1 - m)) fnd = tryL (fun m fnd => lvG y m 0 [] fnd) (List.range' (m + 1) (y.claims.length + 1 - (m + 1))) (lvG y m 0 [] fnd).2 := by
  conv => lhs; rw [show y.claims.length + 1 - m = (y.claims.length + 1 - (m + 1)) + 1 by omega, List.range'_succ, tryL, if_neg (by rw [h]; simp)]
theorem unf_c3 {b0 t0 wb mb t cl : Nat} {c0 cs : List Value} {es : Array MapEntry} : ∀ p ∈ [(b0, Obj.cells c0.toArray t0 (0, 0)), (wb, Obj.cells cs.toArray t (0, 0)), (mb, .map es cl)], unfrozen p.2 := by
  intro p hp
  simp only [List.mem_cons, List.not_mem_nil, or_false] at hp
  rcases hp with rfl | rfl | rfl
  · rfl
  · rfl
  · trivial
/-- What Leave returns. -/
def leaveV (y : YardD) : List Int × Int := if fault y ≠ 0 then ([], fault y) else ((tryL (fun m fnd => lvG y m 0 [] fnd) (List.range' 0 (y.claims.length + 1 - 0)) []).2, 0)
theorem leaveR_err {y : YardD} {D : Data} (h : fault y ≠ 0) : ∃ lv, Value.tuple #[.slice none 0 0, .int .i64 (fault y)] = .tuple #[lv, .int .i64 (leaveV y).2] ∧ Sl D RI 1 lv (leaveV y).1 := by
  rw [leaveV, if_pos h]; exact ⟨_, rfl, Sl.nil⟩
theorem leaveR_ok {y : YardD} {D : Data} {lv : Value} {l : List Int} (h : fault y = 0) (hl : (tryL (fun m fnd => lvG y m 0 [] fnd) (List.range' 0 (y.claims.length + 1 - 0)) []).2 = l) (hS : Sl D RI 1 lv l) : ∃ lv', Value.tuple #[lv, .int .i64 0] = .tuple #[lv', .int .i64 (leaveV y).2] ∧ Sl D RI 1 lv' (leaveV y).1 := by
  rw [leaveV, if_neg (by omega), hl]; exact ⟨_, rfl, hS⟩
theorem Sure_ok (yv : Value) (y : YardD) (D : Data) (hy : YardIs D yv y) : Fn Try.prog 43 #[yv] D (fun D' v => ∃ lv, v = .tuple #[lv, .int .i64 (sureV y).2.1, .int .i64 (sureV y).2.2] ∧ Sl D' R2 2 lv (sureV y).1) := by
  have hy0 := hy
  obtain ⟨cv, qv, rfl, hc, hq⟩ := hy
  refine enter 30 Try.func43 rfl rfl rfl rfl fun h0 => ?_
  refine C.seq ?_
  refine C.region [(false,0),(false,1),(false,2),(false,3)] rfl ?_
  refine L.boxD rfl rfl rfl rfl trivial (fun q1 E1 hE1 hB1 => ?_)
  refine L.alloc rfl Tf.z30 rfl rfl trivial (fun q2 => ?_)
  refine L.alloc rfl Tf.z3 rfl rfl trivial (fun q3 => ?_)
  refine L.assign rfl rfl rfl trivial ?_
  refine L.nil ?_
  refine C.next ?_
  refine C.seq ?_
  refine C.seq ?_
  refine C.region [(false,0),(false,1),(false,2)] rfl ?_
  refine L.loadDW rfl Tf.a37 rfl hB1 (by first | simp | assumption) Tf.s37 List.not_mem_nil rfl trivial ?_
  refine L.callV rfl rfl rfl (fun D1 hD1 => CheckYard_ok _ y _ (hy0.up (hD1 _ (by simp)))) rfl trivial ?_
  refine L.assign rfl rfl rfl trivial ?_
  refine L.nil ?_
  refine C.next ?_
  refine C.seq ?_
  refine C.region [(false,0),(false,1)] rfl ?_
  refine L.move rfl rfl rfl trivial ?_
  refine L.neq rfl rfl rfl rfl trivial ?_
  refine L.nil ?_
  refine C.next ?_
  refine C.condD rfl (fun hc1 => ?_) (fun hc1 => ?_)
  · refine C.seq ?_
    refine C.region [(false,0),(false,1),(false,2),(false,3)] rfl ?_
    refine L.move rfl rfl rfl trivial ?_
    refine L.store rfl rfl rfl rfl Tf.s30 (.tail (Has.head)) (by simp) rfl (by simp [cell1]) trivial ?_
    refine L.store rfl rfl rfl rfl Tf.s3 (Has.head) (by simp) rfl (by simp [cell1]) trivial ?_
    refine L.assign rfl rfl rfl trivial ?_
    refine L.nil ?_
    refine C.next ?_
    refine C.ret ?_
    refine C.thenRet ?_
    exact leave (vs := [_, _, _]) rfl rfl rfl ⟨⟨_, _, _, rfl, (List.Mem.tail _ (List.Mem.head _)), Or.inl ⟨Tf.a30, rfl⟩⟩, ⟨_, _, _, rfl, (List.Mem.head _), Or.inl ⟨Tf.a3, rfl⟩⟩, rfl, trivial⟩ (fun D hD => sureR_err hc1)
  · have hf0 : fault y = 0 := by omega
    have hyo := yOk hf0
    have hn7 := hyo.len
    refine C.skip ?_
    refine C.next ?_
    refine C.seq ?_
    refine C.region [(false,0),(false,1),(false,2)] rfl ?_
    refine L.loadDW rfl Tf.a37 rfl hB1 (by first | simp | assumption) Tf.s37 List.not_mem_nil rfl trivial ?_
    refine L.callO (μ := _) rfl rfl rfl (fun D5 hD5 => work_ok _ y _ _ D5 rfl) rfl trivial (fun v5 D6 _ hD6 hp5 => ?_)
    obtain ⟨wb, mb, rfl, rfl⟩ := hp5
    refine L.assign rfl rfl rfl trivial ?_
    refine L.nil ?_
    refine C.next ?_
    refine C.seq ?_
    refine C.region [(false,0),(false,1),(false,2),(false,3),(false,4),(false,5),(false,6),(false,7)] rfl ?_
    refine L.move rfl rfl rfl trivial ?_
    refine L.boxesEq ([] ++ [(_, _), (_, _)] ++ ([(_, _), (_, _)])) rfl ?_
    refine L.callM (A := []) (ν := [(_, _), (_, _)]) (B := [(_, _), (_, _)]) rfl rfl rfl rfl (Or.inl rfl) (unf_w (cs := [_, _, _, _])) (fun D7 hD7 => scenes_ok wb mb _ _ y [] _ hn7 hyo.fit hyo.size #[] 0 [] _ (hc.up RCh.up (hD7 _ (by simp))) (hq.up R2.up (hD7 _ (by simp))) Sl.nil rfl MOk.nil) rfl trivial (fun v7 D8 _ hD8 hp7 => ?_)
    obtain ⟨sv, mv, rfl, hsv, hmv, es1, cl1, M1, rfl, hM1, hok1⟩ := hp7
    refine L.move rfl rfl rfl trivial ?_
    refine L.extract rfl rfl rfl rfl trivial ?_
    refine L.extract rfl rfl rfl rfl trivial ?_
    refine L.alloc rfl Tf.z135 rfl rfl trivial (fun q4 => ?_)
    refine L.store rfl rfl rfl hsv.cells1 Tf.s135 .head (by simp) rfl hsv.cell1 trivial ?_
    refine L.assign rfl rfl rfl trivial ?_
    refine L.nil ?_
    refine C.next ?_
    refine C.seq ?_
    refine C.seq ?_
    refine C.freezeBox (A := []) (b := q4) (cells := [sv]) rfl (fun D20 hD20 hV => ?_)
    refine C.region [(false,0),(false,1),(false,2)] rfl ?_
    refine L.loadD1 rfl (k := 0) Tf.a135 rfl hV (by first | simp | assumption) rfl List.not_mem_nil rfl trivial ?_
    refine L.len rfl Try.underlying135 rfl hsv rfl rfl trivial ?_
    refine L.eql rfl rfl rfl rfl trivial ?_
    refine L.nil ?_
    refine C.next ?_
    refine C.condD rfl (fun hc2 => ?_) (fun hc2 => ?_)
    · have hnil : scenesD y [] = [] := by simpa using hc2
      refine C.seq ?_
      refine C.region [(false,0),(false,1),(false,2)] rfl ?_
      refine L.store rfl rfl rfl rfl Tf.s30 (.tail (.tail (.tail (Has.head)))) (by simp) rfl (by simp [cell1]) trivial ?_
      refine L.store rfl rfl rfl rfl Tf.s3 (.tail (.tail (Has.head))) (by simp) rfl (by simp [cell1]) trivial ?_
      refine L.assign rfl rfl rfl trivial ?_
      refine L.nil ?_
      refine C.next ?_
      refine C.ret ?_
      refine C.thenRet ?_
      exact leave (vs := [_, _, _]) rfl rfl rfl ⟨⟨_, _, _, rfl, (List.Mem.tail _ (List.Mem.tail _ (List.Mem.tail _ (List.Mem.head _)))), Or.inl ⟨Tf.a30, rfl⟩⟩, ⟨_, _, _, rfl, (List.Mem.tail _ (List.Mem.tail _ (List.Mem.head _))), Or.inl ⟨Tf.a3, rfl⟩⟩, rfl, trivial⟩ (fun D hD => sureR_nil hf0 hnil)
    · have hne : ((scenesD y []).map fun p : Sc × Nat => p.1) ≠ [] := fun e => hc2 (by rw [e]; rfl)
      have hsc := scenes_sc hyo []
      refine C.skip ?_
      refine C.next ?_
      refine C.seq ?_
      refine C.region [(false,0)] rfl ?_
      refine L.store rfl rfl rfl rfl Tf.s3 (.tail (.tail (Has.head))) (by simp) rfl (by simp [cell1]) trivial ?_
      refine L.nil ?_
      refine C.next ?_
      refine C.seq ?_
      refine C.region [(false,0)] rfl ?_
      refine L.alloc rfl Tf.z142 rfl rfl trivial (fun q5 => ?_)
      refine L.nil ?_
      refine C.next ?_
      refine C.seq ?_
      refine C.region [(false,0),(false,1)] rfl ?_
      refine L.makeFunc rfl rfl rfl rfl trivial ?_
      refine L.store rfl rfl rfl rfl Tf.s142 (Has.head) (by simp) rfl (by simp [cell1]) trivial ?_
      refine L.nil ?_
      refine C.next ?_
      refine C.seq ?_
      refine C.freezeBox (A := []) (b := q5) (cells := [.func (.func 89) #[] #[.pointer (some ⟨q1, 0, none⟩), .pointer (some ⟨q4, 0, none⟩), .pointer (some ⟨q3, 0, none⟩), .pointer (some ⟨q2, 0, none⟩), .pointer (some ⟨q5, 0, none⟩)]]) rfl (fun D21 hD21 hF => ?_)
      refine C.region [(false,0),(false,1)] rfl ?_
      refine L.loadD1 rfl (k := 0) Tf.a142 rfl hF (by first | simp | assumption) rfl List.not_mem_nil rfl trivial ?_
      refine L.boxesEq ([(_, _), (_, _)] ++ [(_, _), (_, _)] ++ ([])) rfl ?_
      refine L.callM (A := [(_, _), (_, _)]) (ν := [(_, _), (_, _)]) (B := []) rfl rfl rfl rfl (Or.inl rfl) unf_cc (fun D11 hD11 => add_ok hyo hne hsc y.chairs.length 0 (by omega) 0 [] (.slice none 0 0) [] (-1) (.slice none 0 0) _ (by omega) (fun p hp => by cases hp) (by simp) Sl.nil Sl.nil (hc.up RCh.up (hD11 _ (by simp))) (hq.up R2.up (hD11 _ (by simp))) (hB1.up (hD11 _ (by simp))) (hV.up (hD11 _ (by simp))) (hsv.up RSc.up (hD11 _ (by simp))) (hF.up (hD11 _ (by simp)))) rfl trivial (fun v11 D12 _ hD12 hp11 => ?_)
      obtain ⟨pv1, rfl, hpv1⟩ := hp11
      refine L.nil ?_
      refine C.next ?_
      refine C.seq ?_
      refine C.draw [] 1 [0,1,2,3,4] [false,true,true,false,false] [(false,0),(true,1),(true,2),(false,3),(false,4)] Tf.follows (fun _ _ _ h => np_body (P := Try.prog) (fn := Try.f43) _ _ _ h) (by kernel_rfl) rfl ?_
      refine L.loadB1 rfl Tf.a30 rfl (List.Mem.tail _ (List.Mem.tail _ (List.Mem.tail _ (List.Mem.head _)))) rfl List.not_mem_nil rfl trivial ?_
      refine L.loadB1 rfl Tf.a3 rfl (List.Mem.tail _ (List.Mem.tail _ (List.Mem.head _))) rfl List.not_mem_nil rfl trivial ?_
      refine L.storeS rfl rfl rfl hpv1.cells1 Tf.s30 (.tail (.tail (.tail .head))) (by simp) rfl hpv1.cell1 trivial ?_
      refine L.store rfl rfl rfl rfl Tf.s3 (.tail (.tail (Has.head))) (by simp) rfl (by simp [cell1]) trivial ?_
      refine L.assign rfl rfl rfl trivial ?_
      refine L.nil ?_
      refine C.next ?_
      refine C.ret ?_
      exact leave (vs := [_, _, _]) rfl rfl rfl ⟨⟨_, _, _, rfl, (List.Mem.tail _ (List.Mem.tail _ (List.Mem.tail _ (List.Mem.head _)))), Or.inl ⟨Tf.a30, rfl⟩⟩, ⟨_, _, _, rfl, (List.Mem.tail _ (List.Mem.tail _ (List.Mem.head _))), Or.inl ⟨Tf.a3, rfl⟩⟩, rfl, trivial⟩ (fun D hD => sureR_ok hf0 hne (hpv1.up R2.up (hD _ (by simp))))
theorem ProveSure_ok (yv lv : Value) (y : YardD) (l : List (Int × Int)) (many : Int) (D : Data) (hy : YardIs D yv y) (hl : Sl D R2 2 lv l) : Fn Try.prog 44 #[yv, lv, .int .i64 many] D (fun _ v => v = .bool (proveSureV y l many)) := by
  have hy0 := hy
  obtain ⟨cv, qv, rfl, hc, hq⟩ := hy
  refine enter 34 Try.func44 rfl rfl rfl rfl fun h0 => ?_
  refine C.seq ?_
  refine C.region [(false,0),(false,1)] rfl ?_
  refine L.boxD rfl rfl rfl rfl trivial (fun q1 E1 hE1 hB1 => ?_)
  refine L.assign rfl rfl rfl trivial ?_
  refine L.nil ?_
  refine C.next ?_
  refine C.seq ?_
  refine C.seq ?_
  refine C.region [(false,0),(false,1),(false,2),(false,3),(false,4),(false,5),(false,6),(false,7),(false,8)] rfl ?_
  refine L.loadDW rfl Tf.a37 rfl hB1 (by first | simp | assumption) Tf.s37 List.not_mem_nil rfl trivial ?_
  refine L.callV rfl rfl rfl (fun D1 hD1 => CheckYard_ok _ y _ (hy0.up (hD1 _ (by simp)))) rfl trivial ?_
  refine L.neq rfl rfl rfl rfl trivial ?_
  refine L.move rfl rfl rfl trivial ?_
  refine' L.or [(false,4),(false,5),(false,6),(false,7),(false,8)] [] (s := 12) (p := 17) rfl rfl (fun hg1 => ?_) (fun hg1 => ?_) ?_
  rotate_left
  · have hn7g : y.chairs.length ≤ 7 := (yOk (by simpa using hg1)).len
    refine L.loadDW rfl Tf.a37 rfl hB1 (by first | simp | assumption) Tf.s37 List.not_mem_nil rfl ⟨_, rfl, rfl⟩ ?_
    refine L.move rfl rfl rfl ⟨_, rfl, rfl⟩ ?_
    refine L.callV rfl rfl rfl (fun D2 hD2 => paired_ok _ _ y l _ (hy0.up (hD2 _ (by simp))) (hl.up R2.up (hD2 _ (by simp))) hn7g) rfl ⟨_, rfl, rfl⟩ ?_
    refine L.not rfl rfl rfl ⟨_, rfl, rfl⟩ ?_
    refine L.pickF rfl rfl rfl rfl trivial ?_
    exact L.nil fun a w hh => hh.cutK 4 rfl
  · refine L.pass rfl rfl rfl ⟨_, _, rfl, rfl, rfl⟩ ?_
    refine L.pass rfl rfl rfl ⟨_, _, rfl, rfl, rfl⟩ ?_
    refine L.pass rfl rfl rfl ⟨_, _, rfl, rfl, rfl⟩ ?_
    refine L.pass rfl rfl rfl ⟨_, _, rfl, rfl, rfl⟩ ?_
    refine L.pickT rfl rfl rfl rfl trivial ?_
    exact L.nil fun a w hh => hh.cutK 4 rfl
  refine L.nil ?_
  refine C.next ?_
  refine C.cond rfl (fun hc1 => ?_) (fun hc1 => ?_)
  · refine C.seq ?_
    refine C.region [(false,0)] rfl ?_
    refine L.assign rfl rfl rfl trivial ?_
    refine L.nil ?_
    refine C.next ?_
    refine C.ret ?_
    refine C.thenRet ?_
    exact leave (vs := [_]) rfl rfl rfl ⟨rfl, trivial⟩ (fun D hD => by show Value.bool _ = _; rw [ps_no hc1])
  · obtain ⟨hf0, hpr⟩ := ps_go hc1
    have hyo := yOk hf0
    have hn7 := hyo.len
    obtain ⟨hpo, hpl⟩ := prB_ok hn7 hpr
    refine C.skip ?_
    refine C.next ?_
    refine C.seq ?_
    refine C.region [(false,0),(false,1),(false,2),(false,3),(false,4),(false,5),(false,6),(false,7)] rfl ?_
    refine L.loadDW rfl Tf.a37 rfl hB1 (by first | simp | assumption) Tf.s37 List.not_mem_nil rfl trivial ?_
    refine L.callO (μ := _) rfl rfl rfl (fun D5 hD5 => work_ok _ y _ _ D5 rfl) rfl trivial (fun v5 D6 _ hD6 hp5 => ?_)
    obtain ⟨wb, mb, rfl, rfl⟩ := hp5
    refine L.callM (A := []) (ν := [(_, _), (_, _)]) (B := []) rfl rfl rfl rfl (Or.inl rfl) (unf_w (cs := [_, _, _, _])) (fun D7 hD7 => scenes_ok wb mb _ _ y [] _ hn7 hyo.fit hyo.size #[] 0 [] _ (hc.up RCh.up (hD7 _ (by simp))) (hq.up R2.up (hD7 _ (by simp))) Sl.nil rfl MOk.nil) rfl trivial (fun v7 D8 _ hD8 hp7 => ?_)
    obtain ⟨sv, mv, rfl, hsv, hmv, es1, cl1, M1, rfl, hM1, hok1⟩ := hp7
    refine L.move rfl rfl rfl trivial ?_
    refine L.extract rfl rfl rfl rfl trivial ?_
    refine L.extract rfl rfl rfl rfl trivial ?_
    refine L.assign rfl rfl rfl trivial ?_
    refine L.assign rfl rfl rfl trivial ?_
    refine L.nil ?_
    refine C.next ?_
    refine C.seq ?_
    refine C.region [(false,0),(false,1),(false,2),(false,3),(false,4),(false,5),(false,6),(false,7),(false,8),(false,9),(false,10)] rfl ?_
    refine L.move rfl rfl rfl trivial ?_
    refine L.len rfl Try.underlying135 rfl hsv rfl rfl trivial ?_
    refine L.gtr rfl rfl rfl rfl trivial ?_
    refine L.move rfl rfl rfl trivial ?_
    refine' L.and [(false,4),(false,5),(false,6),(false,7),(false,8),(false,9)] [(false,10)] (s := 27) (p := 33) rfl rfl (fun hg2 => ?_) (fun hg2 => ?_) ?_
    rotate_left
    · have hne : ((scenesD y []).map fun p : Sc × Nat => p.1) ≠ [] := fun e => by rw [e] at hg2; simp at hg2
      refine L.move rfl rfl rfl ⟨_, rfl, rfl⟩ ?_
      refine L.move rfl rfl rfl ⟨_, rfl, rfl⟩ ?_
      refine L.callV rfl rfl rfl (fun D3 hD3 => sure_ok _ _ ((scenesD y []).map fun p : Sc × Nat => p.1) l y.chairs.length _ (hsv.up RSc.up (hD3 _ (by simp))) (hl.up R2.up (hD3 _ (by simp))) hne (scenes_sc hyo []) hpo (by omega)) rfl ⟨_, rfl, rfl⟩ ?_
      refine L.move rfl rfl rfl ⟨_, rfl, rfl⟩ ?_
      refine L.geq rfl rfl rfl rfl ⟨_, rfl, rfl⟩ ?_
      refine L.pickT rfl rfl rfl rfl trivial ?_
      exact L.nil fun a w hh => hh.cutK 5 rfl
    · refine L.pass rfl rfl rfl ⟨_, _, rfl, rfl, rfl⟩ ?_
      refine L.pass rfl rfl rfl ⟨_, _, rfl, rfl, rfl⟩ ?_
      refine L.pass rfl rfl rfl ⟨_, _, rfl, rfl, rfl⟩ ?_
      refine L.pass rfl rfl rfl ⟨_, _, rfl, rfl, rfl⟩ ?_
      refine L.pass rfl rfl rfl ⟨_, _, rfl, rfl, rfl⟩ ?_
      refine L.pickF rfl rfl rfl rfl trivial ?_
      exact L.nil fun a w hh => hh.cutK 5 rfl
    refine L.assign rfl rfl rfl trivial ?_
    refine L.nil ?_
    refine C.next ?_
    refine C.ret ?_
    exact leave (vs := [_]) rfl rfl rfl ⟨rfl, trivial⟩ (fun D hD => by show Value.bool _ = _; rw [ps_yes hf0 hpr, List.length_map])
theorem First_ok (yv : Value) (y : YardD) (D : Data) (hy : YardIs D yv y) : Fn Try.prog 47 #[yv] D (fun _ v => v = .tuple #[.int .i64 (firstV y).1, .int .i64 (firstV y).2]) := by
  have hy0 := hy
  obtain ⟨cv, qv, rfl, hc, hq⟩ := hy
  have hql := hq.len
  refine enter 34 Try.func47 rfl rfl rfl rfl fun h0 => ?_
  refine C.seq ?_
  refine C.region [(false,0),(false,1),(false,2)] rfl ?_
  refine L.boxD rfl rfl rfl rfl trivial (fun q1 E1 hE1 hB1 => ?_)
  refine L.assign rfl rfl rfl trivial ?_
  refine L.assign rfl rfl rfl trivial ?_
  refine L.nil ?_
  refine C.next ?_
  refine C.seq ?_
  refine C.seq ?_
  refine C.region [(false,0),(false,1),(false,2)] rfl ?_
  refine L.loadDW rfl Tf.a37 rfl hB1 (by first | simp | assumption) Tf.s37 List.not_mem_nil rfl trivial ?_
  refine L.callV rfl rfl rfl (fun D1 hD1 => CheckYard_ok _ y _ (hy0.up (hD1 _ (by simp)))) rfl trivial ?_
  refine L.assign rfl rfl rfl trivial ?_
  refine L.nil ?_
  refine C.next ?_
  refine C.seq ?_
  refine C.region [(false,0),(false,1)] rfl ?_
  refine L.move rfl rfl rfl trivial ?_
  refine L.neq rfl rfl rfl rfl trivial ?_
  refine L.nil ?_
  refine C.next ?_
  refine C.condD rfl (fun hc1 => ?_) (fun hc1 => ?_)
  · refine C.seq ?_
    refine C.region [(false,0),(false,1),(false,2)] rfl ?_
    refine L.move rfl rfl rfl trivial ?_
    refine L.assign rfl rfl rfl trivial ?_
    refine L.assign rfl rfl rfl trivial ?_
    refine L.nil ?_
    refine C.next ?_
    refine C.ret ?_
    refine C.thenRet ?_
    exact leave (vs := [_, _]) rfl rfl rfl ⟨rfl, rfl, trivial⟩ (fun D hD => by show Value.tuple _ = _; rw [firstV, if_pos hc1])
  · have hf0 : fault y = 0 := by omega
    have hyo := yOk hf0
    have hn7 := hyo.len
    refine C.skip ?_
    refine C.next ?_
    refine C.seq ?_
    refine C.region [(false,0),(false,1),(false,2)] rfl ?_
    refine L.loadDW rfl Tf.a37 rfl hB1 (by first | simp | assumption) Tf.s37 List.not_mem_nil rfl trivial ?_
    refine L.callO (μ := _) rfl rfl rfl (fun D5 hD5 => work_ok _ y _ _ D5 rfl) rfl trivial (fun v5 D6 _ hD6 hp5 => ?_)
    obtain ⟨wb, mb, rfl, rfl⟩ := hp5
    refine L.assign rfl rfl rfl trivial ?_
    refine L.nil ?_
    refine C.next ?_
    refine C.seq ?_
    refine C.seq ?_
    refine C.region [(false,0),(false,1),(false,2),(false,3)] rfl ?_
    refine L.fieldAddr rfl Tf.f37_2 rfl rfl trivial ?_
    refine L.loadD1 rfl (k := 2) Tf.a35 rfl hB1 (by first | simp | assumption) rfl List.not_mem_nil rfl trivial ?_
    refine L.len rfl Try.underlying35 rfl hq rfl rfl trivial ?_
    refine L.move rfl rfl rfl trivial ?_
    refine L.nil ?_
    refine C.next ?_
    refine C.block ?_
    refine C.loopR (γ := Nat × Value × Array MapEntry × Nat × List (Ints 8 × Int)) (fun g => y.claims.length - g.1) (fun g => g.1 ≤ y.claims.length ∧ MapG kaV g.2.2.1 g.2.2.2.2 ∧ MOk y.chairs.length g.2.2.2.2 ∧ ∀ j, j < g.1 → firstP y j = false) (fun g => [(17, .int .i64 (g.1 : Int))]) [(16, _), (5, _), (3, _), (2, _), (1, _)] (fun g => [(wb, .cells [cv, .int .i64 y.fit, g.2.1, .map (some mb)].toArray 148 (0, 0)), (mb, .map g.2.2.1 g.2.2.2.1)]) (fun g => [D6, E1, D]) (0, qv, #[], 0, []) ⟨by simp, rfl, MOk.nil, by simp⟩ ⟨(by first | rfl | (show some (Value.int _ _) = some (Value.int _ _); congr 2; omega)), trivial⟩ ⟨rfl, rfl, rfl, rfl, rfl, trivial⟩ (List.Sublist.refl _) (ds_same) ?_
    rintro ⟨i, q0, es, cl, Mm⟩ ⟨h1, hM, hok, hno⟩
    simp only at h1 hM hok hno
    refine C.seq ?_
    refine C.region [(false,0)] rfl ?_
    refine L.lss rfl rfl rfl rfl trivial ?_
    refine L.nil ?_
    refine C.next ?_
    refine C.seq ?_
    refine C.condD rfl (fun hc2 => ?_) (fun hc2 => ?_)
    · have hi : i < y.claims.length := by omega
      refine C.skip ?_
      refine C.next ?_
      refine C.seq ?_
      refine C.block ?_
      refine C.seq ?_
      refine C.region [(false,0),(false,1)] rfl ?_
      refine L.move rfl rfl rfl trivial ?_
      refine L.assign rfl rfl rfl trivial ?_
      refine L.nil ?_
      refine C.next ?_
      refine C.seq ?_
      refine C.region [(false,0),(false,1),(false,2),(false,3),(false,4),(false,5),(false,6),(false,7),(false,8),(false,9)] rfl ?_
      refine L.move rfl rfl rfl trivial ?_
      refine L.fieldAddr rfl Tf.f37_2 rfl rfl trivial ?_
      refine L.loadD1 rfl (k := 2) Tf.a35 rfl hB1 (by first | simp | assumption) rfl List.not_mem_nil rfl trivial ?_
      refine L.move rfl rfl rfl trivial ?_
      refine L.add rfl rfl rfl (by simp only [inK]; omega) rfl trivial ?_
      refine L.sliceTo (k := i + 1) rfl Try.underlying35 Tf.s61 rfl rfl hq (by omega) rfl trivial (fun u hu => ?_)
      refine L.nilCheck rfl rfl rfl trivial ?_
      refine L.fieldAddr rfl Tf.f148_0 rfl rfl trivial ?_
      refine L.fieldAddr rfl Tf.f37_2 rfl rfl trivial ?_
      refine L.store rfl rfl rfl hu.cells1 Tf.s35 .head (by simp) rfl hu.cell1 trivial ?_
      refine L.nil ?_
      refine C.next ?_
      refine C.seq ?_
      refine C.region [(false,0),(false,1),(false,2)] rfl ?_
      refine L.move rfl rfl rfl trivial ?_
      refine L.callM (A := []) (ν := [(_, _), (_, _)]) (B := []) rfl rfl rfl rfl (Or.inl rfl) (unf_w (cs := [_, _, _, _])) (fun D11 hD11 => possible_ok wb mb cv u (takeC y (i + 1)) [] _ hn7 hyo.fit hyo.size es cl Mm _ (hc.up RCh.up (hD11 _ (by simp))) (hu.up R2.up (hD11 _ (by simp))) Sl.nil hM hok) rfl trivial (fun v11 D12 _ hD12 hp11 => ?_)
      obtain ⟨rfl, es1, cl1, M1, rfl, hM1, hok1⟩ := hp11
      refine L.not rfl rfl rfl trivial ?_
      refine L.nil ?_
      refine C.next ?_
      refine C.cond rfl (fun hc3 => ?_) (fun hc3 => ?_)
      · refine C.seq ?_
        refine C.region [(false,0),(false,1),(false,2)] rfl ?_
        refine L.move rfl rfl rfl trivial ?_
        refine L.assign rfl rfl rfl trivial ?_
        refine L.assign rfl rfl rfl trivial ?_
        refine L.nil ?_
        refine C.next ?_
        refine C.ret ?_
        refine C.blockRet ?_
        refine C.thenRet ?_
        refine C.thenRet ?_
        refine C.blockRet ?_
        refine C.thenRet ?_
        exact leave (vs := [_, _]) rfl rfl rfl ⟨rfl, rfl, trivial⟩ (fun D hD => by show Value.tuple _ = _; rw [firstV, if_neg hc1, find_range hi hc3 hno])
      · refine C.skip ?_
        refine C.blockEnd ?_
        refine C.next ?_
        refine C.region [(false,0),(false,1)] rfl ?_
        refine L.add rfl rfl rfl (by simp only [inK]; omega) rfl trivial ?_
        refine L.move rfl rfl rfl trivial ?_
        refine L.nil ?_
        exact C.againR 18 (i + 1, u, es1, cl1, M1) ⟨by simp only; omega, hM1, hok1, fun j hj => by rcases Nat.lt_succ_iff_lt_or_eq.1 hj with h | rfl; exact hno j h; exact hc3⟩ (by simp only; omega) ⟨(by first | rfl | (show some (Value.int _ _) = some (Value.int _ _); congr 2; omega)), trivial⟩ rfl rfl (List.Sublist.refl _) (fun D h => ⟨D, List.Mem.tail _ (h), Le.refl D⟩)
    · obtain rfl : i = y.claims.length := by omega
      refine C.exit ?_
      refine C.thenExit ?_
      refine C.thenExit ?_
      refine C.blockExit ?_
      refine C.next ?_
      refine C.seq ?_
      refine C.region [(false,0),(false,1)] rfl ?_
      refine L.assign rfl rfl rfl trivial ?_
      refine L.assign rfl rfl rfl trivial ?_
      refine L.nil ?_
      refine C.next ?_
      refine C.ret ?_
      exact leave (vs := [_, _]) rfl rfl rfl ⟨rfl, rfl, trivial⟩ (fun D hD => by show Value.tuple _ = _; rw [firstV, if_neg hc1, find_none hno])
theorem try_ok {y : YardD} {cv qv : Value} {bf bW bY bF wb mb : Nat} (hyo : YOk y) :
    ∀ (mm f : Nat) (out : List Int) (ov : Value) (fnd : List Int) (fv : Value) (es : Array MapEntry) (cl : Nat) (Mm : List (Ints 8 × Int)) (D : Data), out.length + mm ≤ 10 → Sl D RI 1 ov out → Sl D RI 1 fv fnd → MapG kaV es Mm → MOk y.chairs.length Mm → Sl D RCh 4 cv y.chairs → Sl D R2 2 qv y.claims → At D bW 0 [.pointer (some ⟨wb, 0, none⟩)] → At D bY 0 [cv, .int .i64 y.fit, qv] → At D bF 0 [.func (.func 94) #[] #[.pointer (some ⟨bf, 0, none⟩), .pointer (some ⟨bW, 0, none⟩), .pointer (some ⟨bY, 0, none⟩), .pointer (some ⟨bF, 0, none⟩)]] →
    FnM Try.prog 94 [ov, .int .i64 (f : Int), .int .i64 (mm : Int), .pointer (some ⟨bf, 0, none⟩), .pointer (some ⟨bW, 0, none⟩), .pointer (some ⟨bY, 0, none⟩), .pointer (some ⟨bF, 0, none⟩)] D [(bf, .cells [fv].toArray 52 (0, 0)), (wb, .cells [cv, .int .i64 y.fit, qv, .map (some mb)].toArray 148 (0, 0)), (mb, .map es cl)] (fun D' v ν' => v = .bool (lvG y mm f out fnd).1 ∧ ∃ fv' es' cl' M', ν' = [(bf, .cells [fv'].toArray 52 (0, 0)), (wb, .cells [cv, .int .i64 y.fit, qv, .map (some mb)].toArray 148 (0, 0)), (mb, .map es' cl')] ∧ Sl D' RI 1 fv' (lvG y mm f out fnd).2 ∧ MapG kaV es' M' ∧ MOk y.chairs.length M') := by
  intro mm
  induction mm using Nat.strongRecOn with
  | _ mm ih =>
  intro f out ov fnd fv es cl Mm D hlen ho hfd hM hok hc hq hW hY hF
  have hn7 := hyo.len
  have hcl := hq.len
  have hc5 := hyo.cls
  refine enterMany 39 Try.func94 rfl rfl rfl rfl (fun h0 hwl hwn => ?_)
  refine C.seq ?_
  refine C.region [(false,0)] rfl ?_
  refine L.assign rfl rfl rfl trivial ?_
  refine L.nil ?_
  refine C.next ?_
  refine C.seq ?_
  refine C.seq ?_
  refine C.region [(false,0),(false,1)] rfl ?_
  refine L.move rfl rfl rfl trivial ?_
  refine L.eql rfl rfl rfl rfl trivial ?_
  refine L.nil ?_
  refine C.next ?_
  refine C.condD rfl (fun hc1 => ?_) (fun hc1 => ?_)
  · obtain rfl : mm = 0 := by omega
    refine C.seq ?_
    refine C.region [(false,0),(false,1)] rfl ?_
    refine L.move rfl rfl rfl trivial ?_
    refine L.store rfl rfl rfl ho.cells1 Tf.s52 .head (by simp) rfl ho.cell1 trivial ?_
    refine L.nil ?_
    refine C.next ?_
    refine C.seq ?_
    refine C.region [(false,0),(false,1),(false,2),(false,3)] rfl ?_
    refine L.loadD1 rfl (k := 0) Tf.a120 rfl hW (by first | simp | assumption) rfl List.not_mem_nil rfl trivial ?_
    refine L.move rfl rfl rfl trivial ?_
    refine L.callMA (A := [(_, _)]) (ν := [(_, _), (_, _)]) rfl rfl rfl rfl (Or.inl rfl) (unf_w (cs := [_, _, _, _])) (fun D11 hD11 => possible_ok wb mb cv qv y out _ hn7 hyo.fit hyo.size es cl Mm _ (hc.up RCh.up (hD11 _ (by simp))) (hq.up R2.up (hD11 _ (by simp))) (ho.up RI.up (hD11 _ (by simp))) hM hok) rfl trivial (fun v11 D12 _ hD12 hp11 => ?_)
    obtain ⟨rfl, es1, cl1, M1, rfl, hM1, hok1⟩ := hp11
    refine L.assign rfl rfl rfl trivial ?_
    refine L.nil ?_
    refine C.next ?_
    refine C.ret ?_
    refine C.thenRet ?_
    exact leaveMany (A := []) (ν' := [_, _, _]) (B := []) (vs := [_]) rfl rfl rfl ⟨rfl, trivial⟩ rfl (fun D' hD => ⟨rfl, ov, es1, cl1, M1, rfl, ho.up RI.up (hD _ (by simp)), hM1, hok1⟩)
  · obtain ⟨m, rfl⟩ : ∃ k, mm = k + 1 := ⟨mm - 1, by omega⟩
    refine C.skip ?_
    refine C.next ?_
    refine C.seq ?_
    refine C.seq ?_
    refine C.region [(false,0),(false,1)] rfl ?_
    refine L.move rfl rfl rfl trivial ?_
    refine L.assign rfl rfl rfl trivial ?_
    refine L.nil ?_
    refine C.next ?_
    refine C.block ?_
    refine C.loopR (γ := Nat × List Int × Value × Array MapEntry × Nat × List (Ints 8 × Int) × Data) (fun g => y.claims.length + 1 - g.1) (fun g => f ≤ g.1 ∧ lvG y (m + 1) f out fnd = tryL (fun i fnd => lvG y m (i + 1) (out ++ [(i : Int)]) fnd) (List.range' g.1 (y.claims.length - m - g.1)) g.2.1 ∧ Sl g.2.2.2.2.2.2 RI 1 g.2.2.1 g.2.1 ∧ MapG kaV g.2.2.2.1 g.2.2.2.2.2.1 ∧ MOk y.chairs.length g.2.2.2.2.2.1) (fun g => [(11, .int .i64 (g.1 : Int))]) [(10, _), (0, _), (2, _), (5, _), (6, _)] (fun g => [(bf, .cells [g.2.2.1].toArray 52 (0, 0)), (wb, .cells [cv, .int .i64 y.fit, qv, .map (some mb)].toArray 148 (0, 0)), (mb, .map g.2.2.2.1 g.2.2.2.2.1)]) (fun g => [g.2.2.2.2.2.2, D]) (f, fnd, fv, es, cl, Mm, D) ⟨by simp, rfl, hfd, hM, hok⟩ ⟨(by first | rfl | (show some (Value.int _ _) = some (Value.int _ _); congr 2; omega)), trivial⟩ ⟨rfl, rfl, rfl, rfl, rfl, trivial⟩ (List.Sublist.refl _) ((fun D0 h => by simp only [List.mem_cons, List.not_mem_nil, or_false, or_self] at h; exact ⟨D, by simp, h ▸ Le.refl _⟩)) ?_
    rintro ⟨i, fnd2, fv2, es2, cl2, M2, Dn⟩ ⟨h1, hin, hf2, hM2, hok2⟩
    simp only at h1 hin hf2 hM2 hok2
    refine C.seq ?_
    refine C.seq ?_
    refine C.region [(false,0),(false,1),(false,2),(false,3),(false,4),(false,5),(false,6)] rfl ?_
    refine L.move rfl rfl rfl trivial ?_
    refine L.fieldAddr rfl Tf.f37_2 rfl rfl trivial ?_
    refine L.loadD1 rfl (k := 2) Tf.a35 rfl hY (by first | simp | assumption) rfl List.not_mem_nil rfl trivial ?_
    refine L.len rfl Try.underlying35 rfl hq rfl rfl trivial ?_
    refine L.move rfl rfl rfl trivial ?_
    refine L.sub rfl rfl rfl (by simp only [inK]; omega) rfl trivial ?_
    refine L.leq rfl rfl rfl rfl trivial ?_
    refine L.nil ?_
    refine C.next ?_
    refine C.condD rfl (fun hc2 => ?_) (fun hc2 => ?_)
    · simp only at hc2
      have hge : i + m < y.claims.length := by omega
      refine C.skip ?_
      refine C.next ?_
      refine C.seq ?_
      refine C.block ?_
      refine C.seq ?_
      refine C.drawS (But.mk [bF]) 3 [false,true,true,true,true,true,true,true,true,true,false] [.fork [0,1,3,6,7,8,9] 2 (.fin [4]) 4 (.fin [2]), .fin [5,10]] Tf.follows (fun _ _ _ h => np_bodyMany (P := Try.prog) (fn := Try.f94) _ _ _ h) (by kernel_rfl) ?_
      refine S.cons ?_
      refine L.planFork [(false,0),(true,1),(true,3),(true,6),(true,7),(true,8),(true,9)] rfl ?_
      refine L.loadD1 rfl (k := 0) Tf.a150 rfl hF (by simp) rfl (But.out (by simp)) rfl trivial ?_
      refine L.move rfl rfl rfl trivial ?_
      refine L.move rfl rfl rfl trivial ?_
      refine L.move rfl rfl rfl trivial ?_
      refine L.add rfl rfl rfl (by simp only [inK]; omega) rfl trivial ?_
      refine L.move rfl rfl rfl trivial ?_
      refine L.sub rfl rfl rfl (by simp only [inK]; omega) rfl trivial ?_
      rw [show (((m + 1 : Nat) : Int) - 1) = (m : Int) by omega]
      refine L.nil (L.forkP true true rfl rfl ?_ ?_)
      · refine L.callO rfl rfl rfl (fun D7 hD7 => CloneI_ok _ out _ (ho.up RI.up (hD7 _ (by simp))) (by omega)) rfl trivial (fun v6 D8 ν6 hD8 ha6 => ?_)
        refine L.nil ?_
        refine L.planFin [(true,4)] rfl ?_
        refine L.buildSlice rfl Try.underlying52 Tf.s3 Tf.z3 rfl rfl rfl rfl (.cons rfl rfl .nil) rfl trivial (fun b901 D901 hD901 hA901 => ?_)
        have hAp := hA901
        refine L.nil ?_
        refine S.fin [(true,5),(false,10)] rfl ?_
        refine L.apart hF (by simp) (fun hap => ?_)
        refine L.append (A := []) (B := [(_, _), (_, _), (_, _)]) rfl Try.underlying52 rfl rfl Tf.s3 Tf.z3 rfl Tf.i3 rfl rfl rfl ha6 (Src.lit hAp) (by simp) rfl (by simp) (by simp [cell1]) (by omega) (Or.inr (fun p hp => But.in_ (by rw [List.mem_singleton]; rintro rfl; exact hap (List.mem_map.2 ⟨p, List.mem_append_left _ hp, rfl⟩)))) rfl trivial (fun v7 ν7 ha7 => ?_)
        have ha7' : Acc 3 1 v7 (out.length + 1) (ints (out ++ [(i : Int)])) ν7 := by simpa [ints] using ha7
        refine L.freezeM (A := []) (B := [(_, _), (_, _), (_, _)]) ha7' (fun k hk => hk) (fun D20 hD20 hF20 => ?_)
        have ho7 := hF20.ints (by simp) (by omega)
        refine L.callM (A := []) (ν := [(_, _), (_, _), (_, _)]) (B := []) rfl rfl rfl rfl (Or.inl rfl) unf_c3 (fun D9 hD9 => ih m (by omega) (i + 1) (out ++ [(i : Int)]) v7 fnd2 fv2 es2 cl2 M2 _ (by simp; omega) (ho7.up RI.up (hD9 _ (by simp))) (hf2.up RI.up (hD9 _ (by simp))) hM2 hok2 (hc.up RCh.up (hD9 _ (by simp))) (hq.up R2.up (hD9 _ (by simp))) (hW.up (hD9 _ (by simp))) (hY.up (hD9 _ (by simp))) (hF.up (hD9 _ (by simp)))) rfl trivial (fun v9 D10 _ hD10 hp9 => ?_)
        obtain ⟨rfl, fv3, es3, cl3, M3, rfl, hf3, hM3, hok3⟩ := hp9
        refine L.nil ?_
        refine S.nil ?_
        refine C.next ?_
        refine C.cond rfl (fun hc3 => ?_) (fun hc3 => ?_)
        · refine C.seq ?_
          refine C.region [(false,0)] rfl ?_
          refine L.assign rfl rfl rfl trivial ?_
          refine L.nil ?_
          refine C.next ?_
          refine C.ret ?_
          refine C.blockRet ?_
          refine C.thenRet ?_
          refine C.thenRet ?_
          refine C.blockRet ?_
          refine C.thenRet ?_
          exact leaveMany (A := []) (ν' := [_, _, _]) (B := []) (vs := [_]) rfl rfl rfl ⟨rfl, trivial⟩ rfl (fun D' hD => ⟨by rw [hin, try_yes hge hc3]; rfl, fv3, es3, cl3, M3, rfl, by rw [hin, try_yes hge hc3]; exact hf3.up RI.up (hD _ (by simp)), hM3, hok3⟩)
        · refine C.skip ?_
          refine C.blockEnd ?_
          refine C.next ?_
          refine C.region [(false,0),(false,1),(false,2)] rfl ?_
          refine L.move rfl rfl rfl trivial ?_
          refine L.add rfl rfl rfl (by simp only [inK]; omega) rfl trivial ?_
          refine L.assign rfl rfl rfl trivial ?_
          refine L.nil ?_
          exact C.againR 22 (i + 1, _, fv3, es3, cl3, M3, D10) ⟨by simp only; omega, by simp only; rw [hin, try_no hge hc3], hf3, hM3, hok3⟩ (by simp only; omega) ⟨(by first | rfl | (show some (Value.int _ _) = some (Value.int _ _); congr 2; omega)), trivial⟩ rfl rfl (List.Sublist.refl _) (fun D0 h => by simp only [List.mem_cons, List.not_mem_nil, or_false] at h; rcases h with h | h; exact ⟨D10, by simp, h ▸ Le.refl _⟩; exact ⟨D, by simp, h ▸ Le.refl _⟩)
      · refine L.buildSlice rfl Try.underlying52 Tf.s3 Tf.z3 rfl rfl rfl rfl (.cons rfl rfl .nil) rfl trivial (fun b901 D901 hD901 hA901 => ?_)
        have hAp := hA901
        refine L.nil ?_
        refine L.planFin [(true,2)] rfl ?_
        refine L.callO rfl rfl rfl (fun D7 hD7 => CloneI_ok _ out _ (ho.up RI.up (hD7 _ (by simp))) (by omega)) rfl trivial (fun v6 D8 ν6 hD8 ha6 => ?_)
        refine L.nil ?_
        refine S.fin [(true,5),(false,10)] rfl ?_
        refine L.apart hF (by simp) (fun hap => ?_)
        refine L.append (A := []) (B := [(_, _), (_, _), (_, _)]) rfl Try.underlying52 rfl rfl Tf.s3 Tf.z3 rfl Tf.i3 rfl rfl rfl ha6 (Src.lit hAp) (by simp) rfl (by simp) (by simp [cell1]) (by omega) (Or.inr (fun p hp => But.in_ (by rw [List.mem_singleton]; rintro rfl; exact hap (List.mem_map.2 ⟨p, List.mem_append_left _ hp, rfl⟩)))) rfl trivial (fun v7 ν7 ha7 => ?_)
        have ha7' : Acc 3 1 v7 (out.length + 1) (ints (out ++ [(i : Int)])) ν7 := by simpa [ints] using ha7
        refine L.freezeM (A := []) (B := [(_, _), (_, _), (_, _)]) ha7' (fun k hk => hk) (fun D20 hD20 hF20 => ?_)
        have ho7 := hF20.ints (by simp) (by omega)
        refine L.callM (A := []) (ν := [(_, _), (_, _), (_, _)]) (B := []) rfl rfl rfl rfl (Or.inl rfl) unf_c3 (fun D9 hD9 => ih m (by omega) (i + 1) (out ++ [(i : Int)]) v7 fnd2 fv2 es2 cl2 M2 _ (by simp; omega) (ho7.up RI.up (hD9 _ (by simp))) (hf2.up RI.up (hD9 _ (by simp))) hM2 hok2 (hc.up RCh.up (hD9 _ (by simp))) (hq.up R2.up (hD9 _ (by simp))) (hW.up (hD9 _ (by simp))) (hY.up (hD9 _ (by simp))) (hF.up (hD9 _ (by simp)))) rfl trivial (fun v9 D10 _ hD10 hp9 => ?_)
        obtain ⟨rfl, fv3, es3, cl3, M3, rfl, hf3, hM3, hok3⟩ := hp9
        refine L.nil ?_
        refine S.nil ?_
        refine C.next ?_
        refine C.cond rfl (fun hc3 => ?_) (fun hc3 => ?_)
        · refine C.seq ?_
          refine C.region [(false,0)] rfl ?_
          refine L.assign rfl rfl rfl trivial ?_
          refine L.nil ?_
          refine C.next ?_
          refine C.ret ?_
          refine C.blockRet ?_
          refine C.thenRet ?_
          refine C.thenRet ?_
          refine C.blockRet ?_
          refine C.thenRet ?_
          exact leaveMany (A := []) (ν' := [_, _, _]) (B := []) (vs := [_]) rfl rfl rfl ⟨rfl, trivial⟩ rfl (fun D' hD => ⟨by rw [hin, try_yes hge hc3]; rfl, fv3, es3, cl3, M3, rfl, by rw [hin, try_yes hge hc3]; exact hf3.up RI.up (hD _ (by simp)), hM3, hok3⟩)
        · refine C.skip ?_
          refine C.blockEnd ?_
          refine C.next ?_
          refine C.region [(false,0),(false,1),(false,2)] rfl ?_
          refine L.move rfl rfl rfl trivial ?_
          refine L.add rfl rfl rfl (by simp only [inK]; omega) rfl trivial ?_
          refine L.assign rfl rfl rfl trivial ?_
          refine L.nil ?_
          exact C.againR 22 (i + 1, _, fv3, es3, cl3, M3, D10) ⟨by simp only; omega, by simp only; rw [hin, try_no hge hc3], hf3, hM3, hok3⟩ (by simp only; omega) ⟨(by first | rfl | (show some (Value.int _ _) = some (Value.int _ _); congr 2; omega)), trivial⟩ rfl rfl (List.Sublist.refl _) (fun D0 h => by simp only [List.mem_cons, List.not_mem_nil, or_false] at h; rcases h with h | h; exact ⟨D10, by simp, h ▸ Le.refl _⟩; exact ⟨D, by simp, h ▸ Le.refl _⟩)
    · simp only at hc2
      have hend := try_end (y := y) (m := m) (out := out) (fnd := fnd2) (show ¬ i + m < y.claims.length by omega)
      refine C.exit ?_
      refine C.thenExit ?_
      refine C.thenExit ?_
      refine C.blockExit ?_
      refine C.next ?_
      refine C.seq ?_
      refine C.region [(false,0)] rfl ?_
      refine L.assign rfl rfl rfl trivial ?_
      refine L.nil ?_
      refine C.next ?_
      refine C.ret ?_
      exact leaveMany (A := []) (ν' := [_, _, _]) (B := []) (vs := [_]) rfl rfl rfl ⟨rfl, trivial⟩ rfl (fun D' hD => ⟨by rw [hin, hend]; rfl, fv2, es2, cl2, M2, rfl, by rw [hin, hend]; exact hf2.up RI.up (hD _ (by simp)), hM2, hok2⟩)
theorem Leave_ok (yv : Value) (y : YardD) (D : Data) (hy : YardIs D yv y) : Fn Try.prog 48 #[yv] D (fun D' v => ∃ lv, v = .tuple #[lv, .int .i64 (leaveV y).2] ∧ Sl D' RI 1 lv (leaveV y).1) := by
  have hy0 := hy
  obtain ⟨cv, qv, rfl, hc, hq⟩ := hy
  have hql := hq.len
  refine enter 29 Try.func48 rfl rfl rfl rfl fun h0 => ?_
  refine C.seq ?_
  refine C.region [(false,0),(false,1),(false,2)] rfl ?_
  refine L.boxD rfl rfl rfl rfl trivial (fun q1 E1 hE1 hB1 => ?_)
  refine L.assign rfl rfl rfl trivial ?_
  refine L.assign rfl rfl rfl trivial ?_
  refine L.nil ?_
  refine C.next ?_
  refine C.scope ?_
  refine C.seq ?_
  refine C.seq ?_
  refine C.region [(false,0),(false,1),(false,2)] rfl ?_
  refine L.loadDW rfl Tf.a37 rfl hB1 (by first | simp | assumption) Tf.s37 List.not_mem_nil rfl trivial ?_
  refine L.callV rfl rfl rfl (fun D1 hD1 => CheckYard_ok _ y _ (hy0.up (hD1 _ (by simp)))) rfl trivial ?_
  refine L.assign rfl rfl rfl trivial ?_
  refine L.nil ?_
  refine C.next ?_
  refine C.seq ?_
  refine C.region [(false,0),(false,1)] rfl ?_
  refine L.move rfl rfl rfl trivial ?_
  refine L.neq rfl rfl rfl rfl trivial ?_
  refine L.nil ?_
  refine C.next ?_
  refine C.condD rfl (fun hc1 => ?_) (fun hc1 => ?_)
  · refine C.seq ?_
    refine C.region [(false,0),(false,1),(false,2)] rfl ?_
    refine L.move rfl rfl rfl trivial ?_
    refine L.assign rfl rfl rfl trivial ?_
    refine L.assign rfl rfl rfl trivial ?_
    refine L.nil ?_
    refine C.next ?_
    refine C.ret ?_
    refine C.thenRet ?_
    refine C.scopeRet ?_
    exact leave (vs := [_, _]) rfl rfl rfl ⟨rfl, rfl, trivial⟩ (fun D hD => leaveR_err hc1)
  · have hf0 : fault y = 0 := by omega
    have hyo := yOk hf0
    have hn7 := hyo.len
    have hc5 := hyo.cls
    refine C.skip ?_
    refine C.next ?_
    refine C.seq ?_
    refine C.region [(false,0),(false,1),(false,2),(false,3)] rfl ?_
    refine L.loadDW rfl Tf.a37 rfl hB1 (by first | simp | assumption) Tf.s37 List.not_mem_nil rfl trivial ?_
    refine L.callO (μ := _) rfl rfl rfl (fun D5 hD5 => work_ok _ y _ _ D5 rfl) rfl trivial (fun v5 D6 _ hD6 hp5 => ?_)
    obtain ⟨wb, mb, rfl, rfl⟩ := hp5
    refine L.alloc rfl Tf.z120 rfl rfl trivial (fun q2 => ?_)
    refine L.store rfl rfl rfl rfl Tf.s120 (Has.head) (by simp) rfl (by simp [cell1]) trivial ?_
    refine L.nil ?_
    refine C.next ?_
    refine C.seq ?_
    refine C.region [(false,0)] rfl ?_
    refine L.alloc rfl Tf.z52 rfl rfl trivial (fun q3 => ?_)
    refine L.nil ?_
    refine C.next ?_
    refine C.seq ?_
    refine C.region [(false,0)] rfl ?_
    refine L.alloc rfl Tf.z150 rfl rfl trivial (fun q4 => ?_)
    refine L.nil ?_
    refine C.next ?_
    refine C.seq ?_
    refine C.region [(false,0),(false,1)] rfl ?_
    refine L.makeFunc rfl rfl rfl rfl trivial ?_
    refine L.store rfl rfl rfl rfl Tf.s150 (Has.head) (by simp) rfl (by simp [cell1]) trivial ?_
    refine L.nil ?_
    refine C.next ?_
    refine C.seq ?_
    refine C.label ?_
    refine C.next ?_
    refine C.seq ?_
    refine C.seq ?_
    refine C.freezeBox (A := []) (b := q4) (cells := [.func (.func 94) #[] #[.pointer (some ⟨q3, 0, none⟩), .pointer (some ⟨q2, 0, none⟩), .pointer (some ⟨q1, 0, none⟩), .pointer (some ⟨q4, 0, none⟩)]]) rfl (fun D20 hD20 hF => ?_)
    refine C.freezeBox (A := [(_, _)]) (b := q2) (cells := [.pointer (some ⟨wb, 0, none⟩)]) rfl (fun D21 hD21 hW => ?_)
    refine C.region [(false,0),(false,1),(false,2),(false,3),(false,4)] rfl ?_
    refine L.fieldAddr rfl Tf.f37_2 rfl rfl trivial ?_
    refine L.loadD1 rfl (k := 2) Tf.a35 rfl hB1 (by first | simp | assumption) rfl List.not_mem_nil rfl trivial ?_
    refine L.len rfl Try.underlying35 rfl hq rfl rfl trivial ?_
    refine L.add rfl rfl rfl (by simp only [inK]; omega) rfl trivial ?_
    refine L.move rfl rfl rfl trivial ?_
    refine L.nil ?_
    refine C.next ?_
    refine C.block ?_
    refine C.loopR (γ := Nat × List Int × Value × Array MapEntry × Nat × List (Ints 8 × Int) × Data) (fun g => y.claims.length + 1 - g.1) (fun g => g.1 ≤ y.claims.length + 1 ∧ tryL (fun m fnd => lvG y m 0 [] fnd) (List.range' 0 (y.claims.length + 1 - 0)) [] = tryL (fun m fnd => lvG y m 0 [] fnd) (List.range' g.1 (y.claims.length + 1 - g.1)) g.2.1 ∧ Sl g.2.2.2.2.2.2 RI 1 g.2.2.1 g.2.1 ∧ MapG kaV g.2.2.2.1 g.2.2.2.2.2.1 ∧ MOk y.chairs.length g.2.2.2.2.2.1) (fun g => [(21, .int .i64 (g.1 : Int))]) [(20, _), (7, _), (6, _), (3, _), (2, _)] (fun g => [(q3, .cells [g.2.2.1].toArray 52 (0, 0)), (wb, .cells [cv, .int .i64 y.fit, qv, .map (some mb)].toArray 148 (0, 0)), (mb, .map g.2.2.2.1 g.2.2.2.2.1)]) (fun g => [g.2.2.2.2.2.2, D21, D20, D6, E1, D]) (0, [], .slice none 0 0, #[], 0, [], D21) ⟨by simp, rfl, Sl.nil, rfl, MOk.nil⟩ ⟨(by first | rfl | (show some (Value.int _ _) = some (Value.int _ _); congr 2; omega)), trivial⟩ ⟨rfl, rfl, rfl, rfl, rfl, trivial⟩ (List.Sublist.refl _) ((fun D0 h => by simp only [List.mem_cons, List.not_mem_nil, or_false] at h; rcases h with h | h | h | h | h | h; exact ⟨D21, by simp, h ▸ Le.refl _⟩; exact ⟨D21, by simp, h ▸ Le.refl _⟩; exact ⟨D20, by simp, h ▸ Le.refl _⟩; exact ⟨D6, by simp, h ▸ Le.refl _⟩; exact ⟨E1, by simp, h ▸ Le.refl _⟩; exact ⟨D, by simp, h ▸ Le.refl _⟩)) ?_
    rintro ⟨m, fnd, fv, es, cl, Mm, Dn⟩ ⟨h1, hin, hfd, hM, hok⟩
    simp only at h1 hin hfd hM hok
    refine C.seq ?_
    refine C.region [(false,0)] rfl ?_
    refine L.lss rfl rfl rfl rfl trivial ?_
    refine L.nil ?_
    refine C.next ?_
    refine C.seq ?_
    refine C.condD rfl (fun hc2 => ?_) (fun hc2 => ?_)
    · simp only at hc2
      have hm : m ≤ y.claims.length := by omega
      refine C.skip ?_
      refine C.next ?_
      refine C.seq ?_
      refine C.block ?_
      refine C.seq ?_
      refine C.region [(false,0),(false,1)] rfl ?_
      refine L.move rfl rfl rfl trivial ?_
      refine L.assign rfl rfl rfl trivial ?_
      refine L.nil ?_
      refine C.next ?_
      refine C.seq ?_
      refine C.region [(false,0),(false,1),(false,2)] rfl ?_
      refine L.loadD1 rfl (k := 0) Tf.a150 rfl hF (by first | simp | assumption) rfl List.not_mem_nil rfl trivial ?_
      refine L.move rfl rfl rfl trivial ?_
      refine L.callM (A := []) (ν := [(_, _), (_, _), (_, _)]) (B := []) rfl rfl rfl rfl (Or.inl rfl) unf_c3 (fun D9 hD9 => try_ok hyo m 0 [] (.slice none 0 0) fnd fv es cl Mm _ (by simp; omega) Sl.nil (hfd.up RI.up (hD9 _ (by simp))) hM hok (hc.up RCh.up (hD9 _ (by simp))) (hq.up R2.up (hD9 _ (by simp))) (hW.up (hD9 _ (by simp))) (hB1.up (hD9 _ (by simp))) (hF.up (hD9 _ (by simp)))) rfl trivial (fun v9 D10 _ hD10 hp9 => ?_)
      obtain ⟨rfl, fv3, es3, cl3, M3, rfl, hf3, hM3, hok3⟩ := hp9
      refine L.nil ?_
      refine C.next ?_
      refine C.cond rfl (fun hc3 => ?_) (fun hc3 => ?_)
      · refine C.exit ?_
        refine C.blockPass rfl ?_
        refine C.thenExit ?_
        refine C.thenExit ?_
        refine C.blockExit ?_
        refine C.next ?_
        refine C.seq ?_
        refine C.region [(false,0),(false,1),(false,2)] rfl ?_
        refine L.loadB1 rfl Tf.a52 rfl (List.Mem.head _) rfl List.not_mem_nil rfl trivial ?_
        refine L.assign rfl rfl rfl trivial ?_
        refine L.assign rfl rfl rfl trivial ?_
        refine L.nil ?_
        refine C.next ?_
        refine C.ret ?_
        refine C.scopeRet ?_
        exact leave (vs := [_, _]) rfl rfl rfl ⟨rfl, rfl, trivial⟩ (fun D hD => leaveR_ok hf0 (by rw [hin, tryS_yes hm hc3]) (hf3.up RI.up (hD _ (by simp))))
      · refine C.skip ?_
        refine C.blockEnd ?_
        refine C.next ?_
        refine C.region [(false,0),(false,1)] rfl ?_
        refine L.add rfl rfl rfl (by simp only [inK]; omega) rfl trivial ?_
        refine L.move rfl rfl rfl trivial ?_
        refine L.nil ?_
        exact C.againR 9 (m + 1, _, fv3, es3, cl3, M3, D10) ⟨by simp only; omega, by simp only; rw [hin, tryS_no hm hc3], hf3, hM3, hok3⟩ (by simp only; omega) ⟨(by first | rfl | (show some (Value.int _ _) = some (Value.int _ _); congr 2; omega)), trivial⟩ rfl rfl (List.Sublist.refl _) (fun D0 h => by simp only [List.mem_cons, List.not_mem_nil, or_false] at h; rcases h with h | h | h | h | h | h; exact ⟨D10, by simp, h ▸ Le.refl _⟩; exact ⟨D21, by simp, h ▸ Le.refl _⟩; exact ⟨D20, by simp, h ▸ Le.refl _⟩; exact ⟨D6, by simp, h ▸ Le.refl _⟩; exact ⟨E1, by simp, h ▸ Le.refl _⟩; exact ⟨D, by simp, h ▸ Le.refl _⟩)
    · simp only at hc2
      obtain rfl : m = y.claims.length + 1 := by omega
      rw [Nat.sub_self] at hin
      refine C.exit ?_
      refine C.thenExit ?_
      refine C.thenExit ?_
      refine C.blockExit ?_
      refine C.next ?_
      refine C.seq ?_
      refine C.region [(false,0),(false,1),(false,2)] rfl ?_
      refine L.loadB1 rfl Tf.a52 rfl (List.Mem.head _) rfl List.not_mem_nil rfl trivial ?_
      refine L.assign rfl rfl rfl trivial ?_
      refine L.assign rfl rfl rfl trivial ?_
      refine L.nil ?_
      refine C.next ?_
      refine C.ret ?_
      refine C.scopeRet ?_
      exact leave (vs := [_, _]) rfl rfl rfl ⟨rfl, rfl, trivial⟩ (fun D hD => leaveR_ok hf0 (by rw [hin]; rfl) (hfd.up RI.up (hD _ (by simp))))
end Go.Fs
namespace Go.Fs
open Go.Proofs
open C7
theorem unkL_yes {l : List Int} {k u : Nat} {n : Int} (hn : l[k]? = some n) (h : n = 2) : ((u + unkL (l.take (k + 1)) : Nat) : Int) = ((u + unkL (l.take k) : Nat) : Int) + 1 := by
  rw [List.take_add_one, hn]
  simp only [unkL, Option.toList_some, List.filter_append, List.length_append]
  simp [h]; omega
theorem unkL_no {l : List Int} {k u : Nat} {n : Int} (hn : l[k]? = some n) (h : ¬ n = 2) : ((u + unkL (l.take (k + 1)) : Nat) : Int) = ((u + unkL (l.take k) : Nat) : Int) := by
  rw [List.take_add_one, hn]
  simp only [unkL, Option.toList_some, List.filter_append, List.length_append]
  simp [h]
theorem allk_step {α : Type} {p : α → Bool} {l : List α} {k : Nat} {x : α} (hx : l[k]? = some x) (h : (l.take k).all p = true) (hp : p x = true) : (l.take (k + 1)).all p = true := by
  rw [List.take_add_one, hx, Option.toList_some, List.all_append, h]; simp [hp]
theorem chair_eq (x : Ch) : (((!inB x.size 0 9 || !inB x.parts.a 0 2) || !inB x.parts.b 0 2) || !inB x.parts.c 0 2) = !chairOk x := by
  unfold chairOk ptsOk Pt.l
  simp only [List.all_cons, List.all_nil, Bool.and_true]
  generalize inB x.size 0 9 = p, inB x.parts.a 0 2 = q, inB x.parts.b 0 2 = r, inB x.parts.c 0 2 = s
  cases p <;> cases q <;> cases r <;> cases s <;> rfl
theorem chair_yes {x : Ch} (h : (((!inB x.size 0 9 || !inB x.parts.a 0 2) || !inB x.parts.b 0 2) || !inB x.parts.c 0 2) = false) : chairOk x = true := by
  rw [chair_eq] at h; simpa using h
theorem claim_eq (r : Int × Int) : ((decide (r.1 < 0) || decide (r.2 < r.1)) || decide (7 < r.2)) = !claimOk r := by
  unfold claimOk
  rw [Bool.eq_iff_iff]
  simp only [Bool.or_eq_true, decide_eq_true_eq, Bool.not_eq_true', Bool.and_eq_false_iff, decide_eq_false_iff_not]
  omega
theorem claim_yes {r : Int × Int} (h : ((decide (r.1 < 0) || decide (r.2 < r.1)) || decide (7 < r.2)) = false) : claimOk r = true := by
  rw [claim_eq] at h; simpa using h
theorem lim_le {y : YardD} (h : (decide ((7 : Int) < y.chairs.length) || decide ((5 : Int) < y.claims.length)) = false) : y.chairs.length ≤ 7 ∧ y.claims.length ≤ 5 := by
  have := cy_not h; omega
theorem fr_bad {y : YardD} (h : (decide ((7 : Int) < y.chairs.length) || decide ((5 : Int) < y.claims.length)) = false) (h2 : yardOk y = false) : fault y = 1 := by
  unfold fault; rw [if_neg (cy_not h), if_pos h2]
theorem fr_fit {y : YardD} (h : (decide ((7 : Int) < y.chairs.length) || decide ((5 : Int) < y.claims.length)) = false) (h2 : (!inB y.fit 0 9) = true) : fault y = 1 := fr_bad h (by unfold yardOk; simp only [Bool.not_eq_true'] at h2; rw [h2]; simp)
theorem fr_chair {y : YardD} {x : Ch} (h : (decide ((7 : Int) < y.chairs.length) || decide ((5 : Int) < y.claims.length)) = false) (hx : x ∈ y.chairs) (h2 : (((!inB x.size 0 9 || !inB x.parts.a 0 2) || !inB x.parts.b 0 2) || !inB x.parts.c 0 2) = true) : fault y = 1 := fr_bad h (by
  rw [chair_eq] at h2
  have : y.chairs.all chairOk = false := List.all_eq_false.2 ⟨x, hx, by simpa using h2⟩
  unfold yardOk; rw [this]; simp)
theorem fr_claim {y : YardD} {r : Int × Int} (h : (decide ((7 : Int) < y.chairs.length) || decide ((5 : Int) < y.claims.length)) = false) (hr : r ∈ y.claims) (h2 : ((decide (r.1 < 0) || decide (r.2 < r.1)) || decide (7 < r.2)) = true) : fault y = 1 := fr_bad h (by
  rw [claim_eq] at h2
  have : y.claims.all claimOk = false := List.all_eq_false.2 ⟨r, hr, by simpa using h2⟩
  unfold yardOk; rw [this]; simp)
theorem fr_yes {y : YardD} (h2 : (!inB y.fit 0 9) = false) (h3 : y.chairs.all chairOk = true) (h4 : y.claims.all claimOk = true) : yardOk y = true := by
  simp only [Bool.not_eq_false'] at h2
  unfold yardOk; rw [h2, h3, h4]; rfl
theorem fr_many {y : YardD} (h : (decide ((7 : Int) < y.chairs.length) || decide ((5 : Int) < y.claims.length)) = false) (h2 : (!inB y.fit 0 9) = false) (h3 : y.chairs.all chairOk = true) (h4 : y.claims.all claimOk = true) (h5 : (8 : Int) < unknown y.chairs) : fault y = 3 := by
  unfold fault; rw [if_neg (cy_not h), if_neg (by rw [fr_yes h2 h3 h4]; simp), if_pos (by omega)]
theorem fr_fine {y : YardD} (h : (decide ((7 : Int) < y.chairs.length) || decide ((5 : Int) < y.claims.length)) = false) (h2 : (!inB y.fit 0 9) = false) (h3 : y.chairs.all chairOk = true) (h4 : y.claims.all claimOk = true) (h5 : ¬ (8 : Int) < unknown y.chairs) : fault y = 0 := by
  unfold fault; rw [if_neg (cy_not h), if_neg (by rw [fr_yes h2 h3 h4]; simp), if_neg (by omega)]
theorem Unknown_ok (yv : Value) (y : YardD) (D : Data) (hy : YardIs D yv y) (h7 : y.chairs.length ≤ 1000) : Fn Try.prog 59 #[yv] D (fun _ v => v = .int .i64 (unknown y.chairs : Int)) := by
  obtain ⟨cv, qv, rfl, hc, hq⟩ := hy
  refine enter 29 Try.func59 rfl rfl rfl rfl fun h0 => ?_
  refine C.seq ?_
  refine C.region [(false,0),(false,1)] rfl ?_
  refine L.boxD rfl rfl rfl rfl trivial (fun q1 E1 hE1 hB1 => ?_)
  refine L.assign rfl rfl rfl trivial ?_
  refine L.nil ?_
  refine C.next ?_
  refine C.seq ?_
  refine C.region [(false,0)] rfl ?_
  refine L.assign rfl rfl rfl trivial ?_
  refine L.nil ?_
  refine C.next ?_
  refine C.seq ?_
  refine C.seq ?_
  refine C.region [(false,0)] rfl ?_
  refine L.assign rfl rfl rfl trivial ?_
  refine L.nil ?_
  refine C.next ?_
  refine C.block ?_
  refine C.loopC (γ := Nat) (fun i => y.chairs.length - i) (fun i => i ≤ y.chairs.length) (fun i => [(4, .int .i64 (i : Int)), (3, .int .i64 (unknown (y.chairs.take i) : Int))]) [(2, _), (1, _)] (fun i => [E1, D]) 0 (by omega) ⟨(by first | rfl | (show some (Value.int _ _) = some (Value.int _ _); congr 2; omega)), (by simp [unknown]; rfl), trivial⟩ ⟨rfl, rfl, trivial⟩ (ds_same) ?_
  rintro i h1
  refine C.seq ?_
  refine C.seq ?_
  refine C.region [(false,0),(false,1),(false,2),(false,3),(false,4)] rfl ?_
  refine L.move rfl rfl rfl trivial ?_
  refine L.fieldAddr rfl Tf.f25_0 rfl rfl trivial ?_
  refine L.loadD1 rfl (k := 0) Tf.a22 rfl hB1 (by first | simp | assumption) rfl List.not_mem_nil rfl trivial ?_
  refine L.len rfl Try.underlying22 rfl hc rfl rfl trivial ?_
  refine L.lss rfl rfl rfl rfl trivial ?_
  refine L.nil ?_
  refine C.next ?_
  refine C.condD rfl (fun hc1 => ?_) (fun hc1 => ?_)
  · have hi : i < y.chairs.length := by omega
    obtain ⟨x, hx⟩ : ∃ x, y.chairs[i]? = some x := ⟨_, List.getElem?_eq_getElem hi⟩
    have hub := unk_le (y.chairs.take i)
    have hut : (y.chairs.take i).length ≤ i := List.length_take_le _ _
    refine C.skip ?_
    refine C.next ?_
    refine C.seq ?_
    refine C.block ?_
    refine C.seq ?_
    refine C.region [(false,0)] rfl ?_
    refine L.assign rfl rfl rfl trivial ?_
    refine L.nil ?_
    refine C.next ?_
    refine C.block ?_
    refine C.loopC (γ := Nat) (fun k => 3 - k) (fun k => k ≤ 3) (fun k => [(5, .int .i64 (k : Int)), (3, .int .i64 ((unknown (y.chairs.take i) + unkL (x.parts.l.take k) : Nat) : Int))]) [(10, _), (9, _), (8, _), (7, _), (6, _), (4, _), (2, _), (1, _)] (fun k => [E1, D]) 0 (by omega) ⟨(by first | rfl | (show some (Value.int _ _) = some (Value.int _ _); congr 2; omega)), (by simp [unkL]; rfl), trivial⟩ ⟨rfl, rfl, rfl, rfl, rfl, rfl, rfl, rfl, trivial⟩ (ds_same) ?_
    rintro k h2
    refine C.seq ?_
    refine C.seq ?_
    refine C.region [(false,0),(false,1)] rfl ?_
    refine L.move rfl rfl rfl trivial ?_
    refine L.lss rfl rfl rfl rfl trivial ?_
    refine L.nil ?_
    refine C.next ?_
    refine C.condD rfl (fun hc2 => ?_) (fun hc2 => ?_)
    · have hk3 : k < 3 := by omega
      obtain ⟨n, hn⟩ : ∃ n, x.parts.l[k]? = some n := ⟨_, List.getElem?_eq_getElem (by simp [Pt.l]; omega)⟩
      have hkl := unkL_le (x.parts.l.take k)
      have hkt : (x.parts.l.take k).length ≤ k := List.length_take_le _ _
      refine C.skip ?_
      refine C.next ?_
      refine C.seq ?_
      refine C.block ?_
      refine C.seq ?_
      refine C.region [(false,0),(false,1),(false,2),(false,3),(false,4),(false,5),(false,6),(false,7),(false,8)] rfl ?_
      refine L.fieldAddr rfl Tf.f25_0 rfl rfl trivial ?_
      refine L.loadD1 rfl (k := 0) Tf.a22 rfl hB1 (by first | simp | assumption) rfl List.not_mem_nil rfl trivial ?_
      refine L.move rfl rfl rfl trivial ?_
      refine L.move rfl rfl rfl trivial ?_
      refine L.indexS rfl Try.underlying22 Tf.s94 rfl hc rfl (by omega) hx rfl trivial (fun b1 o1 cs1 hr1 hcl1 hA1 => ?_)
      obtain rfl : cs1 = [.int .i64 _, .int .i64 _, .int .i64 _, .int .i64 _] := hr1
      refine L.fieldAddr rfl Tf.f94_1 rfl rfl trivial ?_
      refine L.indexA rfl Try.underlying91 Tf.s3 rfl rfl (by omega) (by omega) rfl trivial ?_
      refine L.loadD1 (o := _ + 1) (k := k * 1) rfl Tf.a3 rfl hA1.tail (by simp) (pt_get hn) List.not_mem_nil rfl trivial ?_
      refine L.eql rfl rfl rfl rfl trivial ?_
      refine L.nil ?_
      refine C.next ?_
      refine C.condD rfl (fun hc3 => ?_) (fun hc3 => ?_)
      · refine C.region [(false,0),(false,1),(false,2)] rfl ?_
        refine L.move rfl rfl rfl trivial ?_
        refine L.add rfl rfl rfl (by simp only [inK]; omega) rfl trivial ?_
        refine L.assign rfl rfl rfl trivial ?_
        refine L.nil ?_
        refine C.blockEnd ?_
        refine C.next ?_
        refine C.region [(false,0),(false,1),(false,2)] rfl ?_
        refine L.move rfl rfl rfl trivial ?_
        refine L.add rfl rfl rfl (by simp only [inK]; omega) rfl trivial ?_
        refine L.assign rfl rfl rfl trivial ?_
        refine L.nil ?_
        exact C.againR 19 (k + 1) (by omega) (by omega) ⟨(by first | rfl | (show some (Value.int _ _) = some (Value.int _ _); congr 2; omega)), (by rw [unkL_yes hn hc3]; rfl), trivial⟩ rfl rfl (List.Sublist.refl _) (ds_same)
      · refine C.skip ?_
        refine C.blockEnd ?_
        refine C.next ?_
        refine C.region [(false,0),(false,1),(false,2)] rfl ?_
        refine L.move rfl rfl rfl trivial ?_
        refine L.add rfl rfl rfl (by simp only [inK]; omega) rfl trivial ?_
        refine L.assign rfl rfl rfl trivial ?_
        refine L.nil ?_
        exact C.againR 16 (k + 1) (by omega) (by omega) ⟨(by first | rfl | (show some (Value.int _ _) = some (Value.int _ _); congr 2; omega)), (by rw [unkL_no hn hc3]; rfl), trivial⟩ rfl rfl (List.Sublist.refl _) (ds_same)
    · obtain rfl : k = 3 := by omega
      refine C.exit ?_
      refine C.thenExit ?_
      refine C.thenExit ?_
      refine C.blockExit ?_
      refine C.blockEnd ?_
      refine C.next ?_
      refine C.region [(false,0),(false,1),(false,2)] rfl ?_
      refine L.move rfl rfl rfl trivial ?_
      refine L.add rfl rfl rfl (by simp only [inK]; omega) rfl trivial ?_
      refine L.assign rfl rfl rfl trivial ?_
      refine L.nil ?_
      exact C.againR 13 (i + 1) (by omega) (by omega) ⟨(by first | rfl | (show some (Value.int _ _) = some (Value.int _ _); congr 2; omega)), (by rw [unk_snoc hx]; rfl), trivial⟩ rfl rfl (List.Sublist.refl _) (ds_same)
  · obtain rfl : i = y.chairs.length := by omega
    rw [List.take_length]
    refine C.exit ?_
    refine C.thenExit ?_
    refine C.thenExit ?_
    refine C.blockExit ?_
    refine C.next ?_
    refine C.seq ?_
    refine C.region [(false,0),(false,1)] rfl ?_
    refine L.move rfl rfl rfl trivial ?_
    refine L.assign rfl rfl rfl trivial ?_
    refine L.nil ?_
    refine C.next ?_
    refine C.ret ?_
    exact leave (vs := [_]) rfl rfl rfl ⟨rfl, trivial⟩ (fun D hD => rfl)
theorem Fault_ok (yv : Value) (y : YardD) (D : Data) (hy : YardIs D yv y) : Fn Try.prog 74 #[yv] D (fun _ v => v = .int .i64 (fault y)) := by
  have hy0 := hy
  obtain ⟨cv, qv, rfl, hc, hq⟩ := hy
  have hcl := hc.len
  have hql := hq.len
  refine enter 88 Try.func74 rfl rfl rfl rfl fun h0 => ?_
  refine C.seq ?_
  refine C.region [(false,0),(false,1)] rfl ?_
  refine L.boxD rfl rfl rfl rfl trivial (fun q1 E1 hE1 hB1 => ?_)
  refine L.assign rfl rfl rfl trivial ?_
  refine L.nil ?_
  refine C.next ?_
  refine C.seq ?_
  refine C.seq ?_
  refine C.region [(false,0),(false,1),(false,2),(false,3),(false,4),(false,5),(false,6),(false,7),(false,8),(false,9)] rfl ?_
  refine L.fieldAddr rfl Tf.f25_0 rfl rfl trivial ?_
  refine L.loadD1 rfl (k := 0) Tf.a22 rfl hB1 (by first | simp | assumption) rfl List.not_mem_nil rfl trivial ?_
  refine L.len rfl Try.underlying22 rfl hc rfl rfl trivial ?_
  refine L.gtr rfl rfl rfl rfl trivial ?_
  refine L.move rfl rfl rfl trivial ?_
  refine' L.or [(false,5),(false,6),(false,7),(false,8),(false,9)] [] (s := 11) (p := 16) rfl rfl (fun hg1 => ?_) (fun hg1 => ?_) ?_
  rotate_left
  · refine L.fieldAddr rfl Tf.f25_2 rfl rfl ⟨_, rfl, rfl⟩ ?_
    refine L.loadD1 rfl (k := 2) Tf.a23 rfl hB1 (by first | simp | assumption) rfl List.not_mem_nil rfl ⟨_, rfl, rfl⟩ ?_
    refine L.len rfl Try.underlying23 rfl hq rfl rfl ⟨_, rfl, rfl⟩ ?_
    refine L.gtr rfl rfl rfl rfl ⟨_, rfl, rfl⟩ ?_
    refine L.pickF rfl rfl rfl rfl trivial ?_
    exact L.nil fun a w hh => hh.cutK 4 rfl
  · refine L.pass rfl rfl rfl ⟨_, _, rfl, rfl, rfl⟩ ?_
    refine L.pass rfl rfl rfl ⟨_, _, rfl, rfl, rfl⟩ ?_
    refine L.pass rfl rfl rfl ⟨_, _, rfl, rfl, rfl⟩ ?_
    refine L.pass rfl rfl rfl ⟨_, _, rfl, rfl, rfl⟩ ?_
    refine L.pickT rfl rfl rfl rfl trivial ?_
    exact L.nil fun a w hh => hh.cutK 4 rfl
  refine L.nil ?_
  refine C.next ?_
  refine C.cond rfl (fun hc1 => ?_) (fun hc1 => ?_)
  · refine C.seq ?_
    refine C.region [(false,0)] rfl ?_
    refine L.assign rfl rfl rfl trivial ?_
    refine L.nil ?_
    refine C.next ?_
    refine C.ret ?_
    refine C.thenRet ?_
    exact leave (vs := [_]) rfl rfl rfl ⟨rfl, trivial⟩ (fun D hD => by show Value.int _ _ = _; rw [cy_limit hc1])
  · obtain ⟨hl7, hl5⟩ := lim_le hc1
    refine C.skip ?_
    refine C.next ?_
    refine C.seq ?_
    refine C.seq ?_
    refine C.region [(false,0),(false,1),(false,2),(false,3)] rfl ?_
    refine L.fieldAddr rfl Tf.f25_1 rfl rfl trivial ?_
    refine L.loadD1 rfl (k := 1) Tf.a3 rfl hB1 (by first | simp | assumption) rfl List.not_mem_nil rfl trivial ?_
    refine L.callV rfl rfl rfl (fun D1 hD1 => In_ok _ _ _ _) rfl trivial ?_
    refine L.not rfl rfl rfl trivial ?_
    refine L.nil ?_
    refine C.next ?_
    refine C.cond rfl (fun hc2 => ?_) (fun hc2 => ?_)
    · refine C.seq ?_
      refine C.region [(false,0)] rfl ?_
      refine L.assign rfl rfl rfl trivial ?_
      refine L.nil ?_
      refine C.next ?_
      refine C.ret ?_
      refine C.thenRet ?_
      exact leave (vs := [_]) rfl rfl rfl ⟨rfl, trivial⟩ (fun D hD => by show Value.int _ _ = _; rw [fr_fit hc1 hc2])
    · refine C.skip ?_
      refine C.next ?_
      refine C.seq ?_
      refine C.seq ?_
      refine C.region [(false,0)] rfl ?_
      refine L.assign rfl rfl rfl trivial ?_
      refine L.nil ?_
      refine C.next ?_
      refine C.block ?_
      refine C.loopC (γ := Nat) (fun i => y.chairs.length - i) (fun i => i ≤ y.chairs.length ∧ (y.chairs.take i).all chairOk = true) (fun i => [(3, .int .i64 (i : Int))]) [(2, _), (1, _)] (fun i => [E1, D]) 0 (by simp) ⟨(by first | rfl | (show some (Value.int _ _) = some (Value.int _ _); congr 2; omega)), trivial⟩ ⟨rfl, rfl, trivial⟩ (ds_same) ?_
      rintro i ⟨h1, h2⟩
      refine C.seq ?_
      refine C.seq ?_
      refine C.region [(false,0),(false,1),(false,2),(false,3),(false,4)] rfl ?_
      refine L.move rfl rfl rfl trivial ?_
      refine L.fieldAddr rfl Tf.f25_0 rfl rfl trivial ?_
      refine L.loadD1 rfl (k := 0) Tf.a22 rfl hB1 (by first | simp | assumption) rfl List.not_mem_nil rfl trivial ?_
      refine L.len rfl Try.underlying22 rfl hc rfl rfl trivial ?_
      refine L.lss rfl rfl rfl rfl trivial ?_
      refine L.nil ?_
      refine C.next ?_
      refine C.condD rfl (fun hc3 => ?_) (fun hc3 => ?_)
      · have hi : i < y.chairs.length := by omega
        obtain ⟨x, hx⟩ : ∃ x, y.chairs[i]? = some x := ⟨_, List.getElem?_eq_getElem hi⟩
        refine C.skip ?_
        refine C.next ?_
        refine C.seq ?_
        refine C.block ?_
        refine C.seq ?_
        refine C.region [(false,0),(false,1),(false,2),(false,3),(false,4),(false,5),(false,6)] rfl ?_
        refine L.fieldAddr rfl Tf.f25_0 rfl rfl trivial ?_
        refine L.loadD1 rfl (k := 0) Tf.a22 rfl hB1 (by first | simp | assumption) rfl List.not_mem_nil rfl trivial ?_
        refine L.move rfl rfl rfl trivial ?_
        refine L.indexS rfl Try.underlying22 Tf.s94 rfl hc rfl (by omega) hx rfl trivial (fun b1 o1 cs1 hr1 hcl1 hA1 => ?_)
        obtain rfl : cs1 = [.int .i64 _, .int .i64 _, .int .i64 _, .int .i64 _] := hr1
        refine L.loadDW rfl Tf.a94 rfl hA1 (by first | simp | assumption) Tf.s94 List.not_mem_nil rfl trivial ?_
        refine L.alloc rfl Tf.z94 rfl rfl trivial (fun q2 => ?_)
        refine L.storeW rfl rfl rfl rfl Tf.s94 (by first | rfl | (simp only [ints_length, *]; done) | (simp only [ints_length, *]; rfl) | (simp only [ints_length, *]; omega)) (by first | rfl | (simp only [ints_length, *]; done) | (simp only [ints_length, *]; rfl) | (simp only [ints_length, *]; omega)) (Has.head) (by first | exact ints_cell1 _ | simp [cell1]) trivial ?_
        refine L.nil ?_
        refine C.next ?_
        refine C.seq ?_
        refine C.region [(false,0),(false,1),(false,2),(false,3),(false,4),(false,5),(false,6),(false,7),(false,8),(false,9),(false,10),(false,11),(false,12),(false,13),(false,14),(false,15),(false,16),(false,17),(false,18),(false,19),(false,20),(false,21),(false,22),(false,23),(false,24)] rfl ?_
        refine L.fieldAddr rfl Tf.f94_0 rfl rfl trivial ?_
        refine L.loadB1 rfl Tf.a3 rfl (List.Mem.head _) rfl List.not_mem_nil rfl trivial ?_
        refine L.callV rfl rfl rfl (fun D2 hD2 => In_ok _ _ _ _) rfl trivial ?_
        refine L.not rfl rfl rfl trivial ?_
        refine L.move rfl rfl rfl trivial ?_
        refine' L.or [(false,5),(false,6),(false,7),(false,8),(false,9),(false,10)] [(false,11),(false,12),(false,13),(false,14),(false,15),(false,16),(false,17),(false,18),(false,19),(false,20),(false,21),(false,22),(false,23),(false,24)] (s := 37) (p := 43) rfl rfl (fun hg2 => ?_) (fun hg2 => ?_) ?_
        rotate_left
        · refine L.fieldAddr rfl Tf.f94_1 rfl rfl ⟨_, rfl, rfl⟩ ?_
          refine L.indexA rfl Try.underlying91 Tf.s3 rfl rfl (by decide) (by decide) rfl ⟨_, rfl, rfl⟩ ?_
          refine L.loadB1 rfl Tf.a3 rfl (List.Mem.head _) (show _ = some (Value.int .i64 x.parts.a) from rfl) List.not_mem_nil rfl ⟨_, rfl, rfl⟩ ?_
          refine L.callV rfl rfl rfl (fun D3 hD3 => In_ok _ _ _ _) rfl ⟨_, rfl, rfl⟩ ?_
          refine L.not rfl rfl rfl ⟨_, rfl, rfl⟩ ?_
          refine L.pickF rfl rfl rfl rfl trivial ?_
          exact L.nil fun a w hh => hh.cutK 5 rfl
        · refine L.pass rfl rfl rfl ⟨_, _, rfl, rfl, rfl⟩ ?_
          refine L.pass rfl rfl rfl ⟨_, _, rfl, rfl, rfl⟩ ?_
          refine L.pass rfl rfl rfl ⟨_, _, rfl, rfl, rfl⟩ ?_
          refine L.pass rfl rfl rfl ⟨_, _, rfl, rfl, rfl⟩ ?_
          refine L.pass rfl rfl rfl ⟨_, _, rfl, rfl, rfl⟩ ?_
          refine L.pickT rfl rfl rfl rfl trivial ?_
          exact L.nil fun a w hh => hh.cutK 5 rfl
        refine L.move rfl rfl rfl trivial ?_
        refine' L.or [(false,12),(false,13),(false,14),(false,15),(false,16),(false,17)] [(false,18),(false,19),(false,20),(false,21),(false,22),(false,23),(false,24)] (s := 44) (p := 50) rfl rfl (fun hg3 => ?_) (fun hg3 => ?_) ?_
        rotate_left
        · refine L.fieldAddr rfl Tf.f94_1 rfl rfl ⟨_, rfl, rfl⟩ ?_
          refine L.indexA rfl Try.underlying91 Tf.s3 rfl rfl (by decide) (by decide) rfl ⟨_, rfl, rfl⟩ ?_
          refine L.loadB1 rfl Tf.a3 rfl (List.Mem.head _) (show _ = some (Value.int .i64 x.parts.b) from rfl) List.not_mem_nil rfl ⟨_, rfl, rfl⟩ ?_
          refine L.callV rfl rfl rfl (fun D4 hD4 => In_ok _ _ _ _) rfl ⟨_, rfl, rfl⟩ ?_
          refine L.not rfl rfl rfl ⟨_, rfl, rfl⟩ ?_
          refine L.pickF rfl rfl rfl rfl trivial ?_
          exact L.nil fun a w hh => hh.cutK 5 rfl
        · refine L.pass rfl rfl rfl ⟨_, _, rfl, rfl, rfl⟩ ?_
          refine L.pass rfl rfl rfl ⟨_, _, rfl, rfl, rfl⟩ ?_
          refine L.pass rfl rfl rfl ⟨_, _, rfl, rfl, rfl⟩ ?_
          refine L.pass rfl rfl rfl ⟨_, _, rfl, rfl, rfl⟩ ?_
          refine L.pass rfl rfl rfl ⟨_, _, rfl, rfl, rfl⟩ ?_
          refine L.pickT rfl rfl rfl rfl trivial ?_
          exact L.nil fun a w hh => hh.cutK 5 rfl
        refine L.move rfl rfl rfl trivial ?_
        refine' L.or [(false,19),(false,20),(false,21),(false,22),(false,23),(false,24)] [] (s := 51) (p := 57) rfl rfl (fun hg4 => ?_) (fun hg4 => ?_) ?_
        rotate_left
        · refine L.fieldAddr rfl Tf.f94_1 rfl rfl ⟨_, rfl, rfl⟩ ?_
          refine L.indexA rfl Try.underlying91 Tf.s3 rfl rfl (by decide) (by decide) rfl ⟨_, rfl, rfl⟩ ?_
          refine L.loadB1 rfl Tf.a3 rfl (List.Mem.head _) (show _ = some (Value.int .i64 x.parts.c) from rfl) List.not_mem_nil rfl ⟨_, rfl, rfl⟩ ?_
          refine L.callV rfl rfl rfl (fun D5 hD5 => In_ok _ _ _ _) rfl ⟨_, rfl, rfl⟩ ?_
          refine L.not rfl rfl rfl ⟨_, rfl, rfl⟩ ?_
          refine L.pickF rfl rfl rfl rfl trivial ?_
          exact L.nil fun a w hh => hh.cutK 5 rfl
        · refine L.pass rfl rfl rfl ⟨_, _, rfl, rfl, rfl⟩ ?_
          refine L.pass rfl rfl rfl ⟨_, _, rfl, rfl, rfl⟩ ?_
          refine L.pass rfl rfl rfl ⟨_, _, rfl, rfl, rfl⟩ ?_
          refine L.pass rfl rfl rfl ⟨_, _, rfl, rfl, rfl⟩ ?_
          refine L.pass rfl rfl rfl ⟨_, _, rfl, rfl, rfl⟩ ?_
          refine L.pickT rfl rfl rfl rfl trivial ?_
          exact L.nil fun a w hh => hh.cutK 5 rfl
        refine L.nil ?_
        refine C.next ?_
        refine C.cond rfl (fun hc4 => ?_) (fun hc4 => ?_)
        · refine C.seq ?_
          refine C.region [(false,0)] rfl ?_
          refine L.assign rfl rfl rfl trivial ?_
          refine L.nil ?_
          refine C.next ?_
          refine C.ret ?_
          refine C.blockRet ?_
          refine C.thenRet ?_
          refine C.thenRet ?_
          refine C.blockRet ?_
          refine C.thenRet ?_
          exact leave (vs := [_]) rfl rfl rfl ⟨rfl, trivial⟩ (fun D hD => by show Value.int _ _ = _; rw [fr_chair hc1 (List.mem_of_getElem? hx) hc4])
        · refine C.skip ?_
          refine C.blockEnd ?_
          refine C.next ?_
          refine C.region [(false,0),(false,1),(false,2)] rfl ?_
          refine L.move rfl rfl rfl trivial ?_
          refine L.add rfl rfl rfl (by simp only [inK]; omega) rfl trivial ?_
          refine L.assign rfl rfl rfl trivial ?_
          refine L.nil ?_
          exact C.againR 25 (i + 1) ⟨by omega, allk_step hx h2 (chair_yes hc4)⟩ (by omega) ⟨(by first | rfl | (show some (Value.int _ _) = some (Value.int _ _); congr 2; omega)), trivial⟩ rfl rfl (List.Sublist.cons _ (List.Sublist.refl _)) (ds_same)
      · rw [List.take_of_length_le (by omega)] at h2
        refine C.exit ?_
        refine C.thenExit ?_
        refine C.thenExit ?_
        refine C.blockExit ?_
        refine C.next ?_
        refine C.seq ?_
        refine C.seq ?_
        refine C.region [(false,0)] rfl ?_
        refine L.assign rfl rfl rfl trivial ?_
        refine L.nil ?_
        refine C.next ?_
        refine C.block ?_
        refine C.loopC (γ := Nat) (fun j => y.claims.length - j) (fun j => j ≤ y.claims.length ∧ (y.claims.take j).all claimOk = true) (fun j => [(5, .int .i64 (j : Int))]) [(2, _), (1, _)] (fun j => [E1, D]) 0 (by simp) ⟨(by first | rfl | (show some (Value.int _ _) = some (Value.int _ _); congr 2; omega)), trivial⟩ ⟨rfl, rfl, trivial⟩ (ds_same) ?_
        rintro j ⟨h3, h4⟩
        refine C.seq ?_
        refine C.seq ?_
        refine C.region [(false,0),(false,1),(false,2),(false,3),(false,4)] rfl ?_
        refine L.move rfl rfl rfl trivial ?_
        refine L.fieldAddr rfl Tf.f25_2 rfl rfl trivial ?_
        refine L.loadD1 rfl (k := 2) Tf.a23 rfl hB1 (by first | simp | assumption) rfl List.not_mem_nil rfl trivial ?_
        refine L.len rfl Try.underlying23 rfl hq rfl rfl trivial ?_
        refine L.lss rfl rfl rfl rfl trivial ?_
        refine L.nil ?_
        refine C.next ?_
        refine C.condD rfl (fun hc5 => ?_) (fun hc5 => ?_)
        · have hj : j < y.claims.length := by omega
          obtain ⟨r, hr0⟩ : ∃ r, y.claims[j]? = some r := ⟨_, List.getElem?_eq_getElem hj⟩
          refine C.skip ?_
          refine C.next ?_
          refine C.seq ?_
          refine C.block ?_
          refine C.seq ?_
          refine C.region [(false,0),(false,1),(false,2),(false,3),(false,4),(false,5),(false,6)] rfl ?_
          refine L.fieldAddr rfl Tf.f25_2 rfl rfl trivial ?_
          refine L.loadD1 rfl (k := 2) Tf.a23 rfl hB1 (by first | simp | assumption) rfl List.not_mem_nil rfl trivial ?_
          refine L.move rfl rfl rfl trivial ?_
          refine L.indexS rfl Try.underlying23 Tf.s67 rfl hq rfl (by omega) hr0 rfl trivial (fun b2 o2 cs2 hr2 hcl2 hA2 => ?_)
          obtain rfl : cs2 = [.int .i64 _, .int .i64 _] := hr2
          refine L.loadDW rfl Tf.a67 rfl hA2 (by first | simp | assumption) Tf.s67 List.not_mem_nil rfl trivial ?_
          refine L.alloc rfl Tf.z67 rfl rfl trivial (fun q3 => ?_)
          refine L.storeW rfl rfl rfl rfl Tf.s67 (by first | rfl | (simp only [ints_length, *]; done) | (simp only [ints_length, *]; rfl) | (simp only [ints_length, *]; omega)) (by first | rfl | (simp only [ints_length, *]; done) | (simp only [ints_length, *]; rfl) | (simp only [ints_length, *]; omega)) (Has.head) (by first | exact ints_cell1 _ | simp [cell1]) trivial ?_
          refine L.nil ?_
          refine C.next ?_
          refine C.seq ?_
          refine C.region [(false,0),(false,1),(false,2),(false,3),(false,4),(false,5),(false,6),(false,7),(false,8),(false,9),(false,10),(false,11),(false,12),(false,13),(false,14)] rfl ?_
          refine L.fieldAddr rfl Tf.f67_0 rfl rfl trivial ?_
          refine L.loadB1 rfl Tf.a3 rfl (List.Mem.head _) rfl List.not_mem_nil rfl trivial ?_
          refine L.lss rfl rfl rfl rfl trivial ?_
          refine L.move rfl rfl rfl trivial ?_
          refine' L.or [(false,4),(false,5),(false,6),(false,7),(false,8),(false,9)] [(false,10),(false,11),(false,12),(false,13),(false,14)] (s := 73) (p := 79) rfl rfl (fun hg5 => ?_) (fun hg5 => ?_) ?_
          rotate_left
          · refine L.fieldAddr rfl Tf.f67_0 rfl rfl ⟨_, rfl, rfl⟩ ?_
            refine L.loadB1 rfl Tf.a3 rfl (List.Mem.head _) rfl List.not_mem_nil rfl ⟨_, rfl, rfl⟩ ?_
            refine L.fieldAddr rfl Tf.f67_1 rfl rfl ⟨_, rfl, rfl⟩ ?_
            refine L.loadB1 rfl Tf.a3 rfl (List.Mem.head _) rfl List.not_mem_nil rfl ⟨_, rfl, rfl⟩ ?_
            refine L.gtr rfl rfl rfl rfl ⟨_, rfl, rfl⟩ ?_
            refine L.pickF rfl rfl rfl rfl trivial ?_
            exact L.nil fun a w hh => hh.cutK 5 rfl
          · refine L.pass rfl rfl rfl ⟨_, _, rfl, rfl, rfl⟩ ?_
            refine L.pass rfl rfl rfl ⟨_, _, rfl, rfl, rfl⟩ ?_
            refine L.pass rfl rfl rfl ⟨_, _, rfl, rfl, rfl⟩ ?_
            refine L.pass rfl rfl rfl ⟨_, _, rfl, rfl, rfl⟩ ?_
            refine L.pass rfl rfl rfl ⟨_, _, rfl, rfl, rfl⟩ ?_
            refine L.pickT rfl rfl rfl rfl trivial ?_
            exact L.nil fun a w hh => hh.cutK 5 rfl
          refine L.move rfl rfl rfl trivial ?_
          refine' L.or [(false,11),(false,12),(false,13),(false,14)] [] (s := 80) (p := 84) rfl rfl (fun hg6 => ?_) (fun hg6 => ?_) ?_
          rotate_left
          · refine L.fieldAddr rfl Tf.f67_1 rfl rfl ⟨_, rfl, rfl⟩ ?_
            refine L.loadB1 rfl Tf.a3 rfl (List.Mem.head _) rfl List.not_mem_nil rfl ⟨_, rfl, rfl⟩ ?_
            refine L.gtr rfl rfl rfl rfl ⟨_, rfl, rfl⟩ ?_
            refine L.pickF rfl rfl rfl rfl trivial ?_
            exact L.nil fun a w hh => hh.cutK 3 rfl
          · refine L.pass rfl rfl rfl ⟨_, _, rfl, rfl, rfl⟩ ?_
            refine L.pass rfl rfl rfl ⟨_, _, rfl, rfl, rfl⟩ ?_
            refine L.pass rfl rfl rfl ⟨_, _, rfl, rfl, rfl⟩ ?_
            refine L.pickT rfl rfl rfl rfl trivial ?_
            exact L.nil fun a w hh => hh.cutK 3 rfl
          refine L.nil ?_
          refine C.next ?_
          refine C.cond rfl (fun hc6 => ?_) (fun hc6 => ?_)
          · refine C.seq ?_
            refine C.region [(false,0)] rfl ?_
            refine L.assign rfl rfl rfl trivial ?_
            refine L.nil ?_
            refine C.next ?_
            refine C.ret ?_
            refine C.blockRet ?_
            refine C.thenRet ?_
            refine C.thenRet ?_
            refine C.blockRet ?_
            refine C.thenRet ?_
            exact leave (vs := [_]) rfl rfl rfl ⟨rfl, trivial⟩ (fun D hD => by show Value.int _ _ = _; rw [fr_claim hc1 (List.mem_of_getElem? hr0) hc6])
          · refine C.skip ?_
            refine C.blockEnd ?_
            refine C.next ?_
            refine C.region [(false,0),(false,1),(false,2)] rfl ?_
            refine L.move rfl rfl rfl trivial ?_
            refine L.add rfl rfl rfl (by simp only [inK]; omega) rfl trivial ?_
            refine L.assign rfl rfl rfl trivial ?_
            refine L.nil ?_
            exact C.againR 22 (j + 1) ⟨by omega, allk_step hr0 h4 (claim_yes hc6)⟩ (by omega) ⟨(by first | rfl | (show some (Value.int _ _) = some (Value.int _ _); congr 2; omega)), trivial⟩ rfl rfl (List.Sublist.cons _ (List.Sublist.refl _)) (ds_same)
        · rw [List.take_of_length_le (by omega)] at h4
          refine C.exit ?_
          refine C.thenExit ?_
          refine C.thenExit ?_
          refine C.blockExit ?_
          refine C.next ?_
          refine C.seq ?_
          refine C.seq ?_
          refine C.region [(false,0),(false,1),(false,2)] rfl ?_
          refine L.loadDW rfl Tf.a25 rfl hB1 (by first | simp | assumption) Tf.s25 List.not_mem_nil rfl trivial ?_
          refine L.callV rfl rfl rfl (fun D6 hD6 => Unknown_ok _ y _ (hy0.up (hD6 _ (by simp))) (by omega)) rfl trivial ?_
          refine L.gtr rfl rfl rfl rfl trivial ?_
          refine L.nil ?_
          refine C.next ?_
          refine C.condD rfl (fun hc7 => ?_) (fun hc7 => ?_)
          · refine C.seq ?_
            refine C.region [(false,0)] rfl ?_
            refine L.assign rfl rfl rfl trivial ?_
            refine L.nil ?_
            refine C.next ?_
            refine C.ret ?_
            refine C.thenRet ?_
            exact leave (vs := [_]) rfl rfl rfl ⟨rfl, trivial⟩ (fun D hD => by show Value.int _ _ = _; rw [fr_many hc1 hc2 h2 h4 hc7])
          · refine C.skip ?_
            refine C.next ?_
            refine C.seq ?_
            refine C.region [(false,0)] rfl ?_
            refine L.assign rfl rfl rfl trivial ?_
            refine L.nil ?_
            refine C.next ?_
            refine C.ret ?_
            exact leave (vs := [_]) rfl rfl rfl ⟨rfl, trivial⟩ (fun D hD => by show Value.int _ _ = _; rw [fr_fine hc1 hc2 h2 h4 hc7])
end Go.Fs
namespace Go.Fs
open Go.Proofs
open C7
end Go.Fs
