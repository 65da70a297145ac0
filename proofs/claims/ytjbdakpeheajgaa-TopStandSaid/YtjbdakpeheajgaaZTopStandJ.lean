/- Of the proof of TopStand: V11, V12, V13, V14, V15, V16, V17. -/
import Derived.Test.YtjbdakpeheajgaaZTopStandI
import Derived.Test.YtjbdakpeheajgaaZTopStandD
namespace Go.Fs
open Go.Proofs
open C3
theorem begin_b (b : BookD) : ScB b (begin0 b) 0 := ⟨rfl, rfl, by simp [begin0], by simp [begin0]⟩
theorem begin_pos (b : BookD) : Pos (begin0 b) := ⟨fun x hx => by simp [begin0] at hx; omega, fun x hx => by simp [begin0] at hx; omega⟩
theorem possible_ok (bv : Value) (b : BookD) (D : Data) (hb : BookIs D bv b) (hbo : BOk b) : Fn Try.prog 40 #[bv] D (fun _ v => v = .bool (decide (truths b ≠ []))) := by
  have hb0 := hb
  obtain ⟨lv, cv, rfl, hl, hc⟩ := hb
  refine enter 10 Try.func40 rfl rfl rfl rfl fun h0 => ?_
  refine C.seq ?_
  refine C.region [(false,0),(false,1)] rfl ?_
  refine L.boxD rfl rfl rfl rfl trivial (fun q1 E1 hE1 hB1 => ?_)
  refine L.assign rfl rfl rfl trivial ?_
  refine L.nil ?_
  refine C.next ?_
  refine C.seq ?_
  refine C.drawS [] 3 [false,true,true,true,true,true,false,false] [.fork [0,4] 1 (.fork [2] 3 (.fin [5]) 5 (.fin [3])) 5 (.fin [1,2,3]), .fin [6,7]] Tf.follows (fun _ _ _ h => np_body (P := Try.prog) (fn := Try.f40) _ _ _ h) (by kernel_rfl) ?_
  refine S.cons ?_
  refine L.planFork [(false,0),(true,4)] rfl ?_
  refine L.loadDW rfl Tf.a40 rfl hB1 (by first | simp | assumption) Tf.s40 List.not_mem_nil rfl trivial ?_
  refine L.loadDW rfl Tf.a40 rfl hB1 (by first | simp | assumption) Tf.s40 List.not_mem_nil rfl trivial ?_
  refine L.nil (L.forkP true true rfl rfl ?_ ?_)
  · refine L.makeMap rfl rfl trivial (fun qm => ?_)
    refine L.nil ?_
    refine L.planFork [(true,2)] rfl ?_
    refine L.build (cs := [.int .i64 b.chairs, .int .i64 b.coin, .int .i64 b.box, lv, cv, .map (some qm)]) rfl Tf.p139 Tf.z139 rfl (by kernel_rfl) rfl trivial ?_
    refine L.nil (L.forkP true true rfl rfl ?_ ?_)
    · refine L.boxD rfl rfl rfl rfl trivial (fun q2 E2 hE2 hB2 => ?_)
      refine L.nil ?_
      refine L.planFin [(true,5)] rfl ?_
      refine L.callV rfl rfl rfl (fun D1 hD1 => begin_ok _ b _ (hb0.up (hD1 _ (by simp)))) rfl trivial ?_
      refine L.nil ?_
      refine S.fin [(false,6),(false,7)] rfl ?_
      refine L.callM (A := []) (ν := [(_, _)]) (B := []) rfl rfl rfl rfl (Or.inl rfl) unf_m (fun D9 hD9 => ends_ok hbo rfl b.lines.length 0 (begin0 b) #[] 0 [] _ (by omega) (begin_b b) (begin_pos b) (begin_inv b) rfl MoOk.nil (hb0.up (hD9 _ (by simp))) (hB2.up (hD9 _ (by simp)))) rfl trivial (fun v9 D10 _ hD10 hp9 => ?_)
      obtain ⟨rfl, es3, cl3, M3, rfl, hM3, hok3⟩ := hp9
      refine L.assign rfl rfl rfl trivial ?_
      refine L.nil ?_
      refine S.nil ?_
      refine C.next ?_
      refine C.ret ?_
      exact leave (vs := [_]) rfl rfl rfl ⟨rfl, trivial⟩ (fun D hD => by show Value.bool _ = _; rw [List.drop_zero, possible_is])
    · refine L.callV rfl rfl rfl (fun D1 hD1 => begin_ok _ b _ (hb0.up (hD1 _ (by simp)))) rfl trivial ?_
      refine L.nil ?_
      refine L.planFin [(true,3)] rfl ?_
      refine L.boxD rfl rfl rfl rfl trivial (fun q2 E2 hE2 hB2 => ?_)
      refine L.nil ?_
      refine S.fin [(false,6),(false,7)] rfl ?_
      refine L.callM (A := []) (ν := [(_, _)]) (B := []) rfl rfl rfl rfl (Or.inl rfl) unf_m (fun D9 hD9 => ends_ok hbo rfl b.lines.length 0 (begin0 b) #[] 0 [] _ (by omega) (begin_b b) (begin_pos b) (begin_inv b) rfl MoOk.nil (hb0.up (hD9 _ (by simp))) (hB2.up (hD9 _ (by simp)))) rfl trivial (fun v9 D10 _ hD10 hp9 => ?_)
      obtain ⟨rfl, es3, cl3, M3, rfl, hM3, hok3⟩ := hp9
      refine L.assign rfl rfl rfl trivial ?_
      refine L.nil ?_
      refine S.nil ?_
      refine C.next ?_
      refine C.ret ?_
      exact leave (vs := [_]) rfl rfl rfl ⟨rfl, trivial⟩ (fun D hD => by show Value.bool _ = _; rw [List.drop_zero, possible_is])
  · refine L.callV rfl rfl rfl (fun D1 hD1 => begin_ok _ b _ (hb0.up (hD1 _ (by simp)))) rfl trivial ?_
    refine L.nil ?_
    refine L.planFin [(true,1),(true,2),(true,3)] rfl ?_
    refine L.makeMap rfl rfl trivial (fun qm => ?_)
    refine L.build (cs := [.int .i64 b.chairs, .int .i64 b.coin, .int .i64 b.box, lv, cv, .map (some qm)]) rfl Tf.p139 Tf.z139 rfl (by kernel_rfl) rfl trivial ?_
    refine L.boxD rfl rfl rfl rfl trivial (fun q2 E2 hE2 hB2 => ?_)
    refine L.nil ?_
    refine S.fin [(false,6),(false,7)] rfl ?_
    refine L.callM (A := []) (ν := [(_, _)]) (B := []) rfl rfl rfl rfl (Or.inl rfl) unf_m (fun D9 hD9 => ends_ok hbo rfl b.lines.length 0 (begin0 b) #[] 0 [] _ (by omega) (begin_b b) (begin_pos b) (begin_inv b) rfl MoOk.nil (hb0.up (hD9 _ (by simp))) (hB2.up (hD9 _ (by simp)))) rfl trivial (fun v9 D10 _ hD10 hp9 => ?_)
    obtain ⟨rfl, es3, cl3, M3, rfl, hM3, hok3⟩ := hp9
    refine L.assign rfl rfl rfl trivial ?_
    refine L.nil ?_
    refine S.nil ?_
    refine C.next ?_
    refine C.ret ?_
    exact leave (vs := [_]) rfl rfl rfl ⟨rfl, trivial⟩ (fun D hD => by show Value.bool _ = _; rw [List.drop_zero, possible_is])
theorem asked_ok3 (bv : Value) (b : BookD) (fine : Bool) (D : Data) (hb : BookIs D bv b) : Fn Try.prog 23 #[bv, .bool fine] D (fun _ v => v = .int .i64 (askB b fine)) := by
  have hb0 := hb
  obtain ⟨lv, cv, rfl, hl, hc⟩ := hb
  refine enter 19 Try.func23 rfl rfl rfl rfl fun h0 => ?_
  refine C.seq ?_
  refine C.region [(false,0),(false,1)] rfl ?_
  refine L.boxD rfl rfl rfl rfl trivial (fun q1 E1 hE1 hB1 => ?_)
  refine L.assign rfl rfl rfl trivial ?_
  refine L.nil ?_
  refine C.next ?_
  refine C.seq ?_
  refine C.seq ?_
  refine C.region [(false,0),(false,1),(false,2)] rfl ?_
  refine L.loadDW rfl Tf.a40 rfl hB1 (by first | simp | assumption) Tf.s40 List.not_mem_nil rfl trivial ?_
  refine L.callV rfl rfl rfl (fun D1 hD1 => CheckBook_ok _ b _ (hb0.up (hD1 _ (by simp)))) rfl trivial ?_
  refine L.assign rfl rfl rfl trivial ?_
  refine L.nil ?_
  refine C.next ?_
  refine C.block ?_
  refine C.seq ?_
  refine C.region [(false,0),(false,1),(false,2)] rfl ?_
  refine L.move rfl rfl rfl trivial ?_
  refine L.neq rfl rfl rfl rfl trivial ?_
  refine L.assign rfl rfl rfl trivial ?_
  refine L.nil ?_
  refine C.next ?_
  refine C.cond rfl (fun hc1 => ?_) (fun hc1 => ?_)
  · refine C.seq ?_
    refine C.region [(false,0),(false,1)] rfl ?_
    refine L.move rfl rfl rfl trivial ?_
    refine L.assign rfl rfl rfl trivial ?_
    refine L.nil ?_
    refine C.next ?_
    refine C.ret ?_
    refine C.blockRet ?_
    refine C.thenRet ?_
    exact leave (vs := [_]) rfl rfl rfl ⟨rfl, trivial⟩ (fun D hD => by show Value.int _ _ = _; rw [askB, if_pos (by simpa using hc1)])
  · have hf0 : fault b = 0 := by simpa using hc1
    have hbo := bOk hf0
    refine C.seq ?_
    refine C.region [(false,0),(false,1),(false,2)] rfl ?_
    refine L.move rfl rfl rfl trivial ?_
    refine L.not rfl rfl rfl trivial ?_
    refine L.assign rfl rfl rfl trivial ?_
    refine L.nil ?_
    refine C.next ?_
    refine C.cond rfl (fun hc2 => ?_) (fun hc2 => ?_)
    · refine C.seq ?_
      refine C.region [(false,0)] rfl ?_
      refine L.assign rfl rfl rfl trivial ?_
      refine L.nil ?_
      refine C.next ?_
      refine C.ret ?_
      refine C.blockRet ?_
      refine C.thenRet ?_
      exact leave (vs := [_]) rfl rfl rfl ⟨rfl, trivial⟩ (fun D hD => by show Value.int _ _ = _; rw [askB, if_neg (by omega), if_pos (by simpa using hc2)])
    · refine C.seq ?_
      refine C.region [(false,0),(false,1),(false,2),(false,3)] rfl ?_
      refine L.loadDW rfl Tf.a40 rfl hB1 (by first | simp | assumption) Tf.s40 List.not_mem_nil rfl trivial ?_
      refine L.callV rfl rfl rfl (fun D2 hD2 => possible_ok _ b _ (hb0.up (hD2 _ (by simp))) hbo) rfl trivial ?_
      refine L.not rfl rfl rfl trivial ?_
      refine L.assign rfl rfl rfl trivial ?_
      refine L.nil ?_
      refine C.next ?_
      refine C.cond rfl (fun hc3 => ?_) (fun hc3 => ?_)
      · refine C.seq ?_
        refine C.region [(false,0)] rfl ?_
        refine L.assign rfl rfl rfl trivial ?_
        refine L.nil ?_
        refine C.next ?_
        refine C.ret ?_
        refine C.blockRet ?_
        refine C.thenRet ?_
        exact leave (vs := [_]) rfl rfl rfl ⟨rfl, trivial⟩ (fun D hD => by show Value.int _ _ = _; rw [askB, if_neg (by omega), if_neg (by simpa using hc2), if_pos (by simpa using hc3)])
      · refine C.skip ?_
        refine C.blockEnd ?_
        refine C.next ?_
        refine C.seq ?_
        refine C.region [(false,0)] rfl ?_
        refine L.assign rfl rfl rfl trivial ?_
        refine L.nil ?_
        refine C.next ?_
        refine C.ret ?_
        exact leave (vs := [_]) rfl rfl rfl ⟨rfl, trivial⟩ (fun D hD => by show Value.int _ _ = _; rw [askB, if_neg (by omega), if_neg (by simpa using hc2), if_neg (by simpa using hc3)])
end Go.Fs
namespace Go.Fs
open Go.Proofs
open C3
/-- By which line (from 0) something is out after some lines of a truth; -1 if it is not. -/
def coR (f : Lin → Int) (t : List Lin) (c : Int) : Nat → Int
  | 0 => -1
  | k + 1 => match t[k]? with
    | some l => if f l = c then (if l.kind = 1 then (k : Int) else -1) else coR f t c k
    | none => coR f t c k
theorem co_in {f : Lin → Int} {t : List Lin} {c : Int} {k : Nat} {x : Lin} (hx : t[k]? = some x) (h : f x = c) (h2 : x.kind = 1) : coR f t c (k + 1) = k := by rw [coR, hx]; simp only; rw [if_pos h, if_pos h2]
theorem co_back {f : Lin → Int} {t : List Lin} {c : Int} {k : Nat} {x : Lin} (hx : t[k]? = some x) (h : f x = c) (h2 : ¬ x.kind = 1) : coR f t c (k + 1) = -1 := by rw [coR, hx]; simp only; rw [if_pos h, if_neg h2]
theorem co_other {f : Lin → Int} {t : List Lin} {c : Int} {k : Nat} {x : Lin} (hx : t[k]? = some x) (h : ¬ f x = c) : coR f t c (k + 1) = coR f t c k := by rw [coR, hx]; simp only; rw [if_neg h]
/-- The money after some lines. -/
def monR (b : BookD) (t : List Lin) : Nat → Int
  | 0 => b.box
  | k + 1 => match t[k]? with
    | some l => if l.kind = 1 then monR b t k + b.coin else monR b t k - b.coin
    | none => monR b t k
theorem mon_add {b : BookD} {t : List Lin} {k : Nat} {x : Lin} (hx : t[k]? = some x) (h : x.kind = 1) : monR b t (k + 1) = monR b t k + b.coin := by rw [monR, hx]; simp only; rw [if_pos h]
theorem mon_sub {b : BookD} {t : List Lin} {k : Nat} {x : Lin} (hx : t[k]? = some x) (h : ¬ x.kind = 1) : monR b t (k + 1) = monR b t k - b.coin := by rw [monR, hx]; simp only; rw [if_neg h]
theorem mon_le {b : BookD} {t : List Lin} (hc : 0 ≤ b.coin ∧ b.coin ≤ 1000) : ∀ k : Nat, b.box - 1000 * (k : Int) ≤ monR b t k ∧ monR b t k ≤ b.box + 1000 * (k : Int)
  | 0 => by simp [monR]
  | k + 1 => by
    have := mon_le (t := t) hc k
    rw [monR]
    push_cast
    split
    · split <;> omega
    · omega
theorem mon_in {b : BookD} {t : List Lin} {k : Nat} (hc : 0 ≤ b.coin ∧ b.coin ≤ 1000) (hb : 0 ≤ b.box ∧ b.box ≤ 1000) (hk : k ≤ 1000) : inK .i64 (monR b t k + b.coin) ∧ inK .i64 (monR b t k - b.coin) := by
  have := mon_le (t := t) hc k
  simp only [inK]
  omega
def possS (t : List Lin) (j : Nat) : Bool := match t[j]? with
  | some l => (decide (coR Lin.chair t l.chair j ≥ 0) == decide (l.kind = 2)) && (decide (coR Lin.token t l.token j ≥ 0) == decide (l.kind = 2))
  | none => true
def possR (t : List Lin) (k : Nat) : Bool := (List.range k).all (possS t)
theorem possR_succ (t : List Lin) (k : Nat) : possR t (k + 1) = (possR t k && possS t k) := by unfold possR; rw [List.range_succ, List.all_append]; simp
theorem poss_go {t : List Lin} {k : Nat} {x : Lin} (hx : t[k]? = some x) (hp : possR t k = true) (h : ((!(decide (coR Lin.chair t x.chair k ≥ 0) == decide (x.kind = 2))) || (!(decide (coR Lin.token t x.token k ≥ 0) == decide (x.kind = 2)))) = false) : possR t (k + 1) = true := by
  rw [possR_succ, hp, Bool.true_and]
  unfold possS
  rw [hx]
  revert h
  simp only
  generalize decide (coR Lin.chair t x.chair k ≥ 0) = a, decide (coR Lin.token t x.token k ≥ 0) = c, decide (x.kind = 2) = e
  cases a <;> cases c <;> cases e <;> decide
theorem poss_no {t : List Lin} {k : Nat} {x : Lin} (hx : t[k]? = some x) (hk : k < t.length) (h : ((!(decide (coR Lin.chair t x.chair k ≥ 0) == decide (x.kind = 2))) || (!(decide (coR Lin.token t x.token k ≥ 0) == decide (x.kind = 2)))) = true) : possR t t.length = false := by
  rw [Bool.eq_false_iff]
  intro e
  unfold possR at e
  rw [List.all_eq_true] at e
  have h2 := e k (List.mem_range.2 hk)
  unfold possS at h2
  rw [hx] at h2
  revert h h2
  simp only
  generalize decide (coR Lin.chair t x.chair k ≥ 0) = a, decide (coR Lin.token t x.token k ≥ 0) = c, decide (x.kind = 2) = e
  cases a <;> cases c <;> cases e <;> decide
theorem rAgrees_ok (l x : Lin) (D : Data) : Fn Try.prog 61 #[linV l, linV x] D (fun _ v => v = .bool (agreesB l x)) := by
  refine enter 39 Try.func61 rfl rfl rfl rfl fun h0 => ?_
  refine C.seq ?_
  refine C.region [(false,0),(false,1),(false,2)] rfl ?_
  refine L.boxD rfl rfl rfl rfl trivial (fun q1 E1 hE1 hB1 => ?_)
  refine L.boxD rfl rfl rfl rfl trivial (fun q2 E2 hE2 hB2 => ?_)
  refine L.assign rfl rfl rfl trivial ?_
  refine L.nil ?_
  refine C.next ?_
  refine C.seq ?_
  refine C.region [(false,0),(false,1),(false,2),(false,3),(false,4),(false,5),(false,6),(false,7),(false,8),(false,9),(false,10),(false,11),(false,12),(false,13),(false,14),(false,15),(false,16),(false,17),(false,18),(false,19),(false,20),(false,21),(false,22),(false,23),(false,24),(false,25),(false,26),(false,27),(false,28),(false,29),(false,30),(false,31),(false,32),(false,33),(false,34)] rfl ?_
  refine L.fieldAddr rfl Tf.f68_0 rfl rfl trivial ?_
  refine L.loadD1 rfl (k := 0) Tf.a3 rfl hB1 (by first | simp | assumption) rfl List.not_mem_nil rfl trivial ?_
  refine L.eql rfl rfl rfl rfl trivial ?_
  refine L.move rfl rfl rfl trivial ?_
  refine' L.or [(false,4),(false,5),(false,6),(false,7),(false,8),(false,9)] [(false,10),(false,11),(false,12),(false,13),(false,14),(false,15),(false,16),(false,17),(false,18),(false,19),(false,20),(false,21),(false,22),(false,23),(false,24),(false,25),(false,26),(false,27),(false,28),(false,29),(false,30),(false,31),(false,32),(false,33),(false,34)] (s := 8) (p := 14) rfl rfl (fun hg1 => ?_) (fun hg1 => ?_) ?_
  rotate_left
  · refine L.fieldAddr rfl Tf.f68_0 rfl rfl ⟨_, rfl, rfl⟩ ?_
    refine L.loadD1 rfl (k := 0) Tf.a3 rfl hB1 (by first | simp | assumption) rfl List.not_mem_nil rfl ⟨_, rfl, rfl⟩ ?_
    refine L.fieldAddr rfl Tf.f68_0 rfl rfl ⟨_, rfl, rfl⟩ ?_
    refine L.loadD1 rfl (k := 0) Tf.a3 rfl hB2 (by first | simp | assumption) rfl List.not_mem_nil rfl ⟨_, rfl, rfl⟩ ?_
    refine L.eql rfl rfl rfl rfl ⟨_, rfl, rfl⟩ ?_
    refine L.pickF rfl rfl rfl rfl trivial ?_
    exact L.nil fun a w hh => hh.cutK 5 rfl
  · refine L.pass rfl rfl rfl ⟨_, _, rfl, rfl, rfl⟩ ?_
    refine L.pass rfl rfl rfl ⟨_, _, rfl, rfl, rfl⟩ ?_
    refine L.pass rfl rfl rfl ⟨_, _, rfl, rfl, rfl⟩ ?_
    refine L.pass rfl rfl rfl ⟨_, _, rfl, rfl, rfl⟩ ?_
    refine L.pass rfl rfl rfl ⟨_, _, rfl, rfl, rfl⟩ ?_
    refine L.pickT rfl rfl rfl rfl trivial ?_
    exact L.nil fun a w hh => hh.cutK 5 rfl
  refine L.move rfl rfl rfl trivial ?_
  refine' L.and [(false,11),(false,12),(false,13),(false,14),(false,15),(false,16),(false,17),(false,18),(false,19),(false,20),(false,21)] [(false,22),(false,23),(false,24),(false,25),(false,26),(false,27),(false,28),(false,29),(false,30),(false,31),(false,32),(false,33),(false,34)] (s := 15) (p := 26) rfl rfl (fun hg2 => ?_) (fun hg2 => ?_) ?_
  rotate_left
  · refine L.fieldAddr rfl Tf.f68_1 rfl rfl ⟨_, rfl, rfl⟩ ?_
    refine L.loadD1 rfl (k := 1) Tf.a3 rfl hB1 (by first | simp | assumption) rfl List.not_mem_nil rfl ⟨_, rfl, rfl⟩ ?_
    refine L.lss rfl rfl rfl rfl ⟨_, rfl, rfl⟩ ?_
    refine L.move rfl rfl rfl ⟨_, rfl, rfl⟩ ?_
    refine' L.or [(false,15),(false,16),(false,17),(false,18),(false,19),(false,20)] [(false,21)] (s := 19) (p := 25) rfl rfl (fun hg3 => ?_) (fun hg3 => ?_) ?_
    rotate_left
    · refine L.fieldAddr rfl Tf.f68_1 rfl rfl ⟨_, rfl, rfl⟩ ?_
      refine L.loadD1 rfl (k := 1) Tf.a3 rfl hB1 (by first | simp | assumption) rfl List.not_mem_nil rfl ⟨_, rfl, rfl⟩ ?_
      refine L.fieldAddr rfl Tf.f68_1 rfl rfl ⟨_, rfl, rfl⟩ ?_
      refine L.loadD1 rfl (k := 1) Tf.a3 rfl hB2 (by first | simp | assumption) rfl List.not_mem_nil rfl ⟨_, rfl, rfl⟩ ?_
      refine L.eql rfl rfl rfl rfl ⟨_, rfl, rfl⟩ ?_
      refine L.pickF rfl rfl rfl rfl ⟨_, rfl, rfl⟩ ?_
      exact L.nil fun a w hh => hh.cutK 5 rfl
    · refine L.pass rfl rfl rfl ⟨_, _, rfl, rfl, rfl⟩ ?_
      refine L.pass rfl rfl rfl ⟨_, _, rfl, rfl, rfl⟩ ?_
      refine L.pass rfl rfl rfl ⟨_, _, rfl, rfl, rfl⟩ ?_
      refine L.pass rfl rfl rfl ⟨_, _, rfl, rfl, rfl⟩ ?_
      refine L.pass rfl rfl rfl ⟨_, _, rfl, rfl, rfl⟩ ?_
      refine L.pickT rfl rfl rfl rfl ⟨_, rfl, rfl⟩ ?_
      exact L.nil fun a w hh => hh.cutK 5 rfl
    refine L.pickT rfl rfl rfl rfl trivial ?_
    exact L.nil fun a w hh => hh.cutK 5 rfl
  · refine L.pass rfl rfl rfl ⟨_, _, rfl, rfl, rfl⟩ ?_
    refine L.pass rfl rfl rfl ⟨_, _, rfl, rfl, rfl⟩ ?_
    refine L.pass rfl rfl rfl ⟨_, _, rfl, rfl, rfl⟩ ?_
    refine L.pass rfl rfl rfl ⟨_, _, rfl, rfl, rfl⟩ ?_
    refine L.pass rfl rfl rfl ⟨_, _, rfl, rfl, rfl⟩ ?_
    refine L.pass rfl rfl rfl ⟨_, _, rfl, rfl, rfl⟩ ?_
    refine L.pass rfl rfl rfl ⟨_, _, rfl, rfl, rfl⟩ ?_
    refine L.pass rfl rfl rfl ⟨_, _, rfl, rfl, rfl⟩ ?_
    refine L.pass rfl rfl rfl ⟨_, _, rfl, rfl, rfl⟩ ?_
    refine L.pass rfl rfl rfl ⟨_, _, rfl, rfl, rfl⟩ ?_
    refine L.pickF rfl rfl rfl rfl trivial ?_
    exact L.nil fun a w hh => hh.cutK 10 rfl
  refine L.move rfl rfl rfl trivial ?_
  refine' L.and [(false,23),(false,24),(false,25),(false,26),(false,27),(false,28),(false,29),(false,30),(false,31),(false,32),(false,33)] [(false,34)] (s := 27) (p := 38) rfl rfl (fun hg4 => ?_) (fun hg4 => ?_) ?_
  rotate_left
  · refine L.fieldAddr rfl Tf.f68_2 rfl rfl ⟨_, rfl, rfl⟩ ?_
    refine L.loadD1 rfl (k := 2) Tf.a3 rfl hB1 (by first | simp | assumption) rfl List.not_mem_nil rfl ⟨_, rfl, rfl⟩ ?_
    refine L.lss rfl rfl rfl rfl ⟨_, rfl, rfl⟩ ?_
    refine L.move rfl rfl rfl ⟨_, rfl, rfl⟩ ?_
    refine' L.or [(false,27),(false,28),(false,29),(false,30),(false,31),(false,32)] [(false,33)] (s := 31) (p := 37) rfl rfl (fun hg5 => ?_) (fun hg5 => ?_) ?_
    rotate_left
    · refine L.fieldAddr rfl Tf.f68_2 rfl rfl ⟨_, rfl, rfl⟩ ?_
      refine L.loadD1 rfl (k := 2) Tf.a3 rfl hB1 (by first | simp | assumption) rfl List.not_mem_nil rfl ⟨_, rfl, rfl⟩ ?_
      refine L.fieldAddr rfl Tf.f68_2 rfl rfl ⟨_, rfl, rfl⟩ ?_
      refine L.loadD1 rfl (k := 2) Tf.a3 rfl hB2 (by first | simp | assumption) rfl List.not_mem_nil rfl ⟨_, rfl, rfl⟩ ?_
      refine L.eql rfl rfl rfl rfl ⟨_, rfl, rfl⟩ ?_
      refine L.pickF rfl rfl rfl rfl ⟨_, rfl, rfl⟩ ?_
      exact L.nil fun a w hh => hh.cutK 5 rfl
    · refine L.pass rfl rfl rfl ⟨_, _, rfl, rfl, rfl⟩ ?_
      refine L.pass rfl rfl rfl ⟨_, _, rfl, rfl, rfl⟩ ?_
      refine L.pass rfl rfl rfl ⟨_, _, rfl, rfl, rfl⟩ ?_
      refine L.pass rfl rfl rfl ⟨_, _, rfl, rfl, rfl⟩ ?_
      refine L.pass rfl rfl rfl ⟨_, _, rfl, rfl, rfl⟩ ?_
      refine L.pickT rfl rfl rfl rfl ⟨_, rfl, rfl⟩ ?_
      exact L.nil fun a w hh => hh.cutK 5 rfl
    refine L.pickT rfl rfl rfl rfl trivial ?_
    exact L.nil fun a w hh => hh.cutK 5 rfl
  · refine L.pass rfl rfl rfl ⟨_, _, rfl, rfl, rfl⟩ ?_
    refine L.pass rfl rfl rfl ⟨_, _, rfl, rfl, rfl⟩ ?_
    refine L.pass rfl rfl rfl ⟨_, _, rfl, rfl, rfl⟩ ?_
    refine L.pass rfl rfl rfl ⟨_, _, rfl, rfl, rfl⟩ ?_
    refine L.pass rfl rfl rfl ⟨_, _, rfl, rfl, rfl⟩ ?_
    refine L.pass rfl rfl rfl ⟨_, _, rfl, rfl, rfl⟩ ?_
    refine L.pass rfl rfl rfl ⟨_, _, rfl, rfl, rfl⟩ ?_
    refine L.pass rfl rfl rfl ⟨_, _, rfl, rfl, rfl⟩ ?_
    refine L.pass rfl rfl rfl ⟨_, _, rfl, rfl, rfl⟩ ?_
    refine L.pass rfl rfl rfl ⟨_, _, rfl, rfl, rfl⟩ ?_
    refine L.pickF rfl rfl rfl rfl trivial ?_
    exact L.nil fun a w hh => hh.cutK 10 rfl
  refine L.assign rfl rfl rfl trivial ?_
  refine L.nil ?_
  refine C.next ?_
  refine C.ret ?_
  exact leave (vs := [_]) rfl rfl rfl ⟨rfl, trivial⟩ (fun D hD => rfl)
theorem cout_ok (tv : Value) (t : List Lin) (n : Nat) (c : Int) (D : Data) (ht : Sl D RLin 3 tv t) (hn : n ≤ t.length) (h8 : t.length ≤ 1000) : Fn Try.prog 15 #[tv, .int .i64 (n : Int), .int .i64 c] D (fun _ v => v = .int .i64 (coR Lin.chair t c n)) := by
  refine enter 29 Try.func15 rfl rfl rfl rfl fun h0 => ?_
  refine C.seq ?_
  refine C.region [(false,0)] rfl ?_
  refine L.assign rfl rfl rfl trivial ?_
  refine L.nil ?_
  refine C.next ?_
  refine C.seq ?_
  refine C.region [(false,0)] rfl ?_
  refine L.assign rfl rfl rfl trivial ?_
  refine L.nil ?_
  refine C.next ?_
  refine C.seq ?_
  refine C.seq ?_
  refine C.region [(false,0)] rfl ?_
  refine L.assign rfl rfl rfl trivial ?_
  refine L.nil ?_
  refine C.next ?_
  refine C.block ?_
  refine C.loopC (γ := Nat) (fun k => n - k) (fun k => k ≤ n) (fun k => [(7, .int .i64 (coR Lin.chair t c k)), (8, .int .i64 (k : Int))]) [(6, _), (0, _), (1, _), (2, _)] (fun k => [D]) 0 (by omega) ⟨(by first | rfl | (show some (Value.int _ _) = some (Value.int _ _); congr 2; omega)), (by first | rfl | (show some (Value.int _ _) = some (Value.int _ _); congr 2; omega)), trivial⟩ ⟨rfl, rfl, rfl, rfl, trivial⟩ (ds_same) ?_
  rintro k h1
  refine C.seq ?_
  refine C.seq ?_
  refine C.region [(false,0),(false,1),(false,2)] rfl ?_
  refine L.move rfl rfl rfl trivial ?_
  refine L.move rfl rfl rfl trivial ?_
  refine L.lss rfl rfl rfl rfl trivial ?_
  refine L.nil ?_
  refine C.next ?_
  refine C.condD rfl (fun hc1 => ?_) (fun hc1 => ?_)
  · have hk : k < t.length := by omega
    obtain ⟨x, hx⟩ : ∃ x, t[k]? = some x := ⟨_, List.getElem?_eq_getElem hk⟩
    refine C.skip ?_
    refine C.next ?_
    refine C.seq ?_
    refine C.block ?_
    refine C.seq ?_
    refine C.region [(false,0),(false,1),(false,2),(false,3),(false,4),(false,5),(false,6)] rfl ?_
    refine L.move rfl rfl rfl trivial ?_
    refine L.move rfl rfl rfl trivial ?_
    refine L.indexS rfl Try.underlying22 Tf.s68 rfl ht rfl (by omega) hx rfl trivial (fun b1 o1 cs1 hr1 hcl1 hA1 => ?_)
    obtain rfl : cs1 = [.int .i64 _, .int .i64 _, .int .i64 _] := hr1
    refine L.fieldAddr rfl Tf.f68_1 rfl rfl trivial ?_
    refine L.loadD1 rfl (k := 1) Tf.a3 rfl hA1 (by first | simp | assumption) rfl List.not_mem_nil rfl trivial ?_
    refine L.move rfl rfl rfl trivial ?_
    refine L.eql rfl rfl rfl rfl trivial ?_
    refine L.nil ?_
    refine C.next ?_
    refine C.condD rfl (fun hc2 => ?_) (fun hc2 => ?_)
    · refine C.seq ?_
      refine C.region [(false,0)] rfl ?_
      refine L.assign rfl rfl rfl trivial ?_
      refine L.nil ?_
      refine C.next ?_
      refine C.seq ?_
      refine C.region [(false,0),(false,1),(false,2),(false,3),(false,4),(false,5)] rfl ?_
      refine L.move rfl rfl rfl trivial ?_
      refine L.move rfl rfl rfl trivial ?_
      refine L.indexS rfl Try.underlying22 Tf.s68 rfl ht rfl (by omega) hx rfl trivial (fun b2 o2 cs2 hr2 hcl2 hA2 => ?_)
      obtain rfl : cs2 = [.int .i64 _, .int .i64 _, .int .i64 _] := hr2
      refine L.fieldAddr rfl Tf.f68_0 rfl rfl trivial ?_
      refine L.loadD1 rfl (k := 0) Tf.a3 rfl hA2 (by first | simp | assumption) rfl List.not_mem_nil rfl trivial ?_
      refine L.eql rfl rfl rfl rfl trivial ?_
      refine L.nil ?_
      refine C.next ?_
      refine C.condD rfl (fun hc3 => ?_) (fun hc3 => ?_)
      · refine C.region [(false,0),(false,1)] rfl ?_
        refine L.move rfl rfl rfl trivial ?_
        refine L.assign rfl rfl rfl trivial ?_
        refine L.nil ?_
        refine C.blockEnd ?_
        refine C.next ?_
        refine C.region [(false,0),(false,1),(false,2)] rfl ?_
        refine L.move rfl rfl rfl trivial ?_
        refine L.add rfl rfl rfl (by simp only [inK]; omega) rfl trivial ?_
        refine L.assign rfl rfl rfl trivial ?_
        refine L.nil ?_
        exact C.againR 24 (k + 1) (by omega) (by omega) ⟨(by rw [co_in hx hc2 hc3]; rfl), (by first | rfl | (show some (Value.int _ _) = some (Value.int _ _); congr 2; omega)), trivial⟩ rfl rfl (List.Sublist.refl _) (ds_same)
      · refine C.skip ?_
        refine C.blockEnd ?_
        refine C.next ?_
        refine C.region [(false,0),(false,1),(false,2)] rfl ?_
        refine L.move rfl rfl rfl trivial ?_
        refine L.add rfl rfl rfl (by simp only [inK]; omega) rfl trivial ?_
        refine L.assign rfl rfl rfl trivial ?_
        refine L.nil ?_
        exact C.againR 22 (k + 1) (by omega) (by omega) ⟨(by rw [co_back hx hc2 hc3]; rfl), (by first | rfl | (show some (Value.int _ _) = some (Value.int _ _); congr 2; omega)), trivial⟩ rfl rfl (List.Sublist.refl _) (ds_same)
    · refine C.skip ?_
      refine C.blockEnd ?_
      refine C.next ?_
      refine C.region [(false,0),(false,1),(false,2)] rfl ?_
      refine L.move rfl rfl rfl trivial ?_
      refine L.add rfl rfl rfl (by simp only [inK]; omega) rfl trivial ?_
      refine L.assign rfl rfl rfl trivial ?_
      refine L.nil ?_
      exact C.againR 15 (k + 1) (by omega) (by omega) ⟨(by rw [co_other hx hc2]; rfl), (by first | rfl | (show some (Value.int _ _) = some (Value.int _ _); congr 2; omega)), trivial⟩ rfl rfl (List.Sublist.refl _) (ds_same)
  · obtain rfl : k = n := by omega
    refine C.exit ?_
    refine C.thenExit ?_
    refine C.thenExit ?_
    refine C.blockExit ?_
    refine C.next ?_
    refine C.seq ?_
    refine C.region [(false,0),(false,1)] rfl ?_
    refine L.move rfl rfl rfl trivial ?_
    refine L.assign rfl rfl rfl trivial ?_
    refine L.nil ?_
    refine C.next ?_
    refine C.ret ?_
    exact leave (vs := [_]) rfl rfl rfl ⟨rfl, trivial⟩ (fun D hD => rfl)
theorem tout_ok (tv : Value) (t : List Lin) (n : Nat) (c : Int) (D : Data) (ht : Sl D RLin 3 tv t) (hn : n ≤ t.length) (h8 : t.length ≤ 1000) : Fn Try.prog 38 #[tv, .int .i64 (n : Int), .int .i64 c] D (fun _ v => v = .int .i64 (coR Lin.token t c n)) := by
  refine enter 29 Try.func38 rfl rfl rfl rfl fun h0 => ?_
  refine C.seq ?_
  refine C.region [(false,0)] rfl ?_
  refine L.assign rfl rfl rfl trivial ?_
  refine L.nil ?_
  refine C.next ?_
  refine C.seq ?_
  refine C.region [(false,0)] rfl ?_
  refine L.assign rfl rfl rfl trivial ?_
  refine L.nil ?_
  refine C.next ?_
  refine C.seq ?_
  refine C.seq ?_
  refine C.region [(false,0)] rfl ?_
  refine L.assign rfl rfl rfl trivial ?_
  refine L.nil ?_
  refine C.next ?_
  refine C.block ?_
  refine C.loopC (γ := Nat) (fun k => n - k) (fun k => k ≤ n) (fun k => [(7, .int .i64 (coR Lin.token t c k)), (8, .int .i64 (k : Int))]) [(6, _), (0, _), (1, _), (2, _)] (fun k => [D]) 0 (by omega) ⟨(by first | rfl | (show some (Value.int _ _) = some (Value.int _ _); congr 2; omega)), (by first | rfl | (show some (Value.int _ _) = some (Value.int _ _); congr 2; omega)), trivial⟩ ⟨rfl, rfl, rfl, rfl, trivial⟩ (ds_same) ?_
  rintro k h1
  refine C.seq ?_
  refine C.seq ?_
  refine C.region [(false,0),(false,1),(false,2)] rfl ?_
  refine L.move rfl rfl rfl trivial ?_
  refine L.move rfl rfl rfl trivial ?_
  refine L.lss rfl rfl rfl rfl trivial ?_
  refine L.nil ?_
  refine C.next ?_
  refine C.condD rfl (fun hc1 => ?_) (fun hc1 => ?_)
  · have hk : k < t.length := by omega
    obtain ⟨x, hx⟩ : ∃ x, t[k]? = some x := ⟨_, List.getElem?_eq_getElem hk⟩
    refine C.skip ?_
    refine C.next ?_
    refine C.seq ?_
    refine C.block ?_
    refine C.seq ?_
    refine C.region [(false,0),(false,1),(false,2),(false,3),(false,4),(false,5),(false,6)] rfl ?_
    refine L.move rfl rfl rfl trivial ?_
    refine L.move rfl rfl rfl trivial ?_
    refine L.indexS rfl Try.underlying22 Tf.s68 rfl ht rfl (by omega) hx rfl trivial (fun b1 o1 cs1 hr1 hcl1 hA1 => ?_)
    obtain rfl : cs1 = [.int .i64 _, .int .i64 _, .int .i64 _] := hr1
    refine L.fieldAddr rfl Tf.f68_2 rfl rfl trivial ?_
    refine L.loadD1 rfl (k := 2) Tf.a3 rfl hA1 (by first | simp | assumption) rfl List.not_mem_nil rfl trivial ?_
    refine L.move rfl rfl rfl trivial ?_
    refine L.eql rfl rfl rfl rfl trivial ?_
    refine L.nil ?_
    refine C.next ?_
    refine C.condD rfl (fun hc2 => ?_) (fun hc2 => ?_)
    · refine C.seq ?_
      refine C.region [(false,0)] rfl ?_
      refine L.assign rfl rfl rfl trivial ?_
      refine L.nil ?_
      refine C.next ?_
      refine C.seq ?_
      refine C.region [(false,0),(false,1),(false,2),(false,3),(false,4),(false,5)] rfl ?_
      refine L.move rfl rfl rfl trivial ?_
      refine L.move rfl rfl rfl trivial ?_
      refine L.indexS rfl Try.underlying22 Tf.s68 rfl ht rfl (by omega) hx rfl trivial (fun b2 o2 cs2 hr2 hcl2 hA2 => ?_)
      obtain rfl : cs2 = [.int .i64 _, .int .i64 _, .int .i64 _] := hr2
      refine L.fieldAddr rfl Tf.f68_0 rfl rfl trivial ?_
      refine L.loadD1 rfl (k := 0) Tf.a3 rfl hA2 (by first | simp | assumption) rfl List.not_mem_nil rfl trivial ?_
      refine L.eql rfl rfl rfl rfl trivial ?_
      refine L.nil ?_
      refine C.next ?_
      refine C.condD rfl (fun hc3 => ?_) (fun hc3 => ?_)
      · refine C.region [(false,0),(false,1)] rfl ?_
        refine L.move rfl rfl rfl trivial ?_
        refine L.assign rfl rfl rfl trivial ?_
        refine L.nil ?_
        refine C.blockEnd ?_
        refine C.next ?_
        refine C.region [(false,0),(false,1),(false,2)] rfl ?_
        refine L.move rfl rfl rfl trivial ?_
        refine L.add rfl rfl rfl (by simp only [inK]; omega) rfl trivial ?_
        refine L.assign rfl rfl rfl trivial ?_
        refine L.nil ?_
        exact C.againR 24 (k + 1) (by omega) (by omega) ⟨(by rw [co_in hx hc2 hc3]; rfl), (by first | rfl | (show some (Value.int _ _) = some (Value.int _ _); congr 2; omega)), trivial⟩ rfl rfl (List.Sublist.refl _) (ds_same)
      · refine C.skip ?_
        refine C.blockEnd ?_
        refine C.next ?_
        refine C.region [(false,0),(false,1),(false,2)] rfl ?_
        refine L.move rfl rfl rfl trivial ?_
        refine L.add rfl rfl rfl (by simp only [inK]; omega) rfl trivial ?_
        refine L.assign rfl rfl rfl trivial ?_
        refine L.nil ?_
        exact C.againR 22 (k + 1) (by omega) (by omega) ⟨(by rw [co_back hx hc2 hc3]; rfl), (by first | rfl | (show some (Value.int _ _) = some (Value.int _ _); congr 2; omega)), trivial⟩ rfl rfl (List.Sublist.refl _) (ds_same)
    · refine C.skip ?_
      refine C.blockEnd ?_
      refine C.next ?_
      refine C.region [(false,0),(false,1),(false,2)] rfl ?_
      refine L.move rfl rfl rfl trivial ?_
      refine L.add rfl rfl rfl (by simp only [inK]; omega) rfl trivial ?_
      refine L.assign rfl rfl rfl trivial ?_
      refine L.nil ?_
      exact C.againR 15 (k + 1) (by omega) (by omega) ⟨(by rw [co_other hx hc2]; rfl), (by first | rfl | (show some (Value.int _ _) = some (Value.int _ _); congr 2; omega)), trivial⟩ rfl rfl (List.Sublist.refl _) (ds_same)
  · obtain rfl : k = n := by omega
    refine C.exit ?_
    refine C.thenExit ?_
    refine C.thenExit ?_
    refine C.blockExit ?_
    refine C.next ?_
    refine C.seq ?_
    refine C.region [(false,0),(false,1)] rfl ?_
    refine L.move rfl rfl rfl trivial ?_
    refine L.assign rfl rfl rfl trivial ?_
    refine L.nil ?_
    refine C.next ?_
    refine C.ret ?_
    exact leave (vs := [_]) rfl rfl rfl ⟨rfl, trivial⟩ (fun D hD => rfl)
theorem rMoney_ok (bv tv : Value) (b : BookD) (t : List Lin) (n : Nat) (D : Data) (hb : BookIs D bv b) (ht : Sl D RLin 3 tv t) (hn : n ≤ t.length) (h8 : t.length ≤ 1000) (hco : 0 ≤ b.coin ∧ b.coin ≤ 1000) (hbx : 0 ≤ b.box ∧ b.box ≤ 1000) : Fn Try.prog 22 #[bv, tv, .int .i64 (n : Int)] D (fun _ v => v = .int .i64 (monR b t n)) := by
  obtain ⟨lv, cv, rfl, hl, hc⟩ := hb
  refine enter 31 Try.func22 rfl rfl rfl rfl fun h0 => ?_
  refine C.seq ?_
  refine C.region [(false,0),(false,1)] rfl ?_
  refine L.boxD rfl rfl rfl rfl trivial (fun q1 E1 hE1 hB1 => ?_)
  refine L.assign rfl rfl rfl trivial ?_
  refine L.nil ?_
  refine C.next ?_
  refine C.seq ?_
  refine C.region [(false,0),(false,1),(false,2)] rfl ?_
  refine L.fieldAddr rfl Tf.f25_2 rfl rfl trivial ?_
  refine L.loadD1 rfl (k := 2) Tf.a3 rfl hB1 (by first | simp | assumption) rfl List.not_mem_nil rfl trivial ?_
  refine L.assign rfl rfl rfl trivial ?_
  refine L.nil ?_
  refine C.next ?_
  refine C.seq ?_
  refine C.seq ?_
  refine C.region [(false,0)] rfl ?_
  refine L.assign rfl rfl rfl trivial ?_
  refine L.nil ?_
  refine C.next ?_
  refine C.block ?_
  refine C.loopC (γ := Nat) (fun k => n - k) (fun k => k ≤ n) (fun k => [(7, .int .i64 (monR b t k)), (8, .int .i64 (k : Int))]) [(6, _), (3, _), (1, _), (2, _)] (fun k => [E1, D]) 0 (by omega) ⟨(by first | rfl | (show some (Value.int _ _) = some (Value.int _ _); congr 2; omega)), (by first | rfl | (show some (Value.int _ _) = some (Value.int _ _); congr 2; omega)), trivial⟩ ⟨rfl, rfl, rfl, rfl, trivial⟩ (ds_same) ?_
  rintro k h1
  refine C.seq ?_
  refine C.seq ?_
  refine C.region [(false,0),(false,1),(false,2)] rfl ?_
  refine L.move rfl rfl rfl trivial ?_
  refine L.move rfl rfl rfl trivial ?_
  refine L.lss rfl rfl rfl rfl trivial ?_
  refine L.nil ?_
  refine C.next ?_
  refine C.condD rfl (fun hc1 => ?_) (fun hc1 => ?_)
  · have hk : k < t.length := by omega
    obtain ⟨x, hx⟩ : ∃ x, t[k]? = some x := ⟨_, List.getElem?_eq_getElem hk⟩
    refine C.skip ?_
    refine C.next ?_
    refine C.seq ?_
    refine C.block ?_
    refine C.seq ?_
    refine C.region [(false,0),(false,1),(false,2),(false,3),(false,4),(false,5)] rfl ?_
    refine L.move rfl rfl rfl trivial ?_
    refine L.move rfl rfl rfl trivial ?_
    refine L.indexS rfl Try.underlying22 Tf.s68 rfl ht rfl (by omega) hx rfl trivial (fun b1 o1 cs1 hr1 hcl1 hA1 => ?_)
    obtain rfl : cs1 = [.int .i64 _, .int .i64 _, .int .i64 _] := hr1
    refine L.fieldAddr rfl Tf.f68_0 rfl rfl trivial ?_
    refine L.loadD1 rfl (k := 0) Tf.a3 rfl hA1 (by first | simp | assumption) rfl List.not_mem_nil rfl trivial ?_
    refine L.eql rfl rfl rfl rfl trivial ?_
    refine L.nil ?_
    refine C.next ?_
    refine C.condD rfl (fun hc2 => ?_) (fun hc2 => ?_)
    · refine C.region [(false,0),(false,1),(false,2),(false,3),(false,4)] rfl ?_
      refine L.move rfl rfl rfl trivial ?_
      refine L.fieldAddr rfl Tf.f25_1 rfl rfl trivial ?_
      refine L.loadD1 rfl (k := 1) Tf.a3 rfl hB1 (by first | simp | assumption) rfl List.not_mem_nil rfl trivial ?_
      refine L.add rfl rfl rfl (mon_in hco hbx (by omega)).1 rfl trivial ?_
      refine L.assign rfl rfl rfl trivial ?_
      refine L.nil ?_
      refine C.blockEnd ?_
      refine C.next ?_
      refine C.region [(false,0),(false,1),(false,2)] rfl ?_
      refine L.move rfl rfl rfl trivial ?_
      refine L.add rfl rfl rfl (by simp only [inK]; omega) rfl trivial ?_
      refine L.assign rfl rfl rfl trivial ?_
      refine L.nil ?_
      exact C.againR 19 (k + 1) (by omega) (by omega) ⟨(by rw [mon_add hx hc2]; rfl), (by first | rfl | (show some (Value.int _ _) = some (Value.int _ _); congr 2; omega)), trivial⟩ rfl rfl (List.Sublist.refl _) (ds_same)
    · refine C.region [(false,0),(false,1),(false,2),(false,3),(false,4)] rfl ?_
      refine L.move rfl rfl rfl trivial ?_
      refine L.fieldAddr rfl Tf.f25_1 rfl rfl trivial ?_
      refine L.loadD1 rfl (k := 1) Tf.a3 rfl hB1 (by first | simp | assumption) rfl List.not_mem_nil rfl trivial ?_
      refine L.sub rfl rfl rfl (mon_in hco hbx (by omega)).2 rfl trivial ?_
      refine L.assign rfl rfl rfl trivial ?_
      refine L.nil ?_
      refine C.blockEnd ?_
      refine C.next ?_
      refine C.region [(false,0),(false,1),(false,2)] rfl ?_
      refine L.move rfl rfl rfl trivial ?_
      refine L.add rfl rfl rfl (by simp only [inK]; omega) rfl trivial ?_
      refine L.assign rfl rfl rfl trivial ?_
      refine L.nil ?_
      exact C.againR 19 (k + 1) (by omega) (by omega) ⟨(by rw [mon_sub hx hc2]; rfl), (by first | rfl | (show some (Value.int _ _) = some (Value.int _ _); congr 2; omega)), trivial⟩ rfl rfl (List.Sublist.refl _) (ds_same)
  · obtain rfl : k = n := by omega
    refine C.exit ?_
    refine C.thenExit ?_
    refine C.thenExit ?_
    refine C.blockExit ?_
    refine C.next ?_
    refine C.seq ?_
    refine C.region [(false,0),(false,1)] rfl ?_
    refine L.move rfl rfl rfl trivial ?_
    refine L.assign rfl rfl rfl trivial ?_
    refine L.nil ?_
    refine C.next ?_
    refine C.ret ?_
    exact leave (vs := [_]) rfl rfl rfl ⟨rfl, trivial⟩ (fun D hD => rfl)
theorem isPoss_ok (tv : Value) (t : List Lin) (D : Data) (ht : Sl D RLin 3 tv t) (h8 : t.length ≤ 1000) : Fn Try.prog 20 #[tv] D (fun _ v => v = .bool (possR t t.length)) := by
  refine enter 45 Try.func20 rfl rfl rfl rfl fun h0 => ?_
  refine C.seq ?_
  refine C.region [(false,0)] rfl ?_
  refine L.assign rfl rfl rfl trivial ?_
  refine L.nil ?_
  refine C.next ?_
  refine C.seq ?_
  refine C.seq ?_
  refine C.region [(false,0)] rfl ?_
  refine L.assign rfl rfl rfl trivial ?_
  refine L.nil ?_
  refine C.next ?_
  refine C.block ?_
  refine C.loopC (γ := Nat) (fun k => t.length - k) (fun k => k ≤ t.length ∧ possR t k = true) (fun k => [(3, .int .i64 (k : Int))]) [(2, _), (0, _)] (fun k => [D]) 0 ⟨by simp, rfl⟩ ⟨(by first | rfl | (show some (Value.int _ _) = some (Value.int _ _); congr 2; omega)), trivial⟩ ⟨rfl, rfl, trivial⟩ (ds_same) ?_
  rintro k ⟨h1, hp⟩
  refine C.seq ?_
  refine C.seq ?_
  refine C.region [(false,0),(false,1),(false,2),(false,3)] rfl ?_
  refine L.move rfl rfl rfl trivial ?_
  refine L.move rfl rfl rfl trivial ?_
  refine L.len rfl Try.underlying22 rfl ht rfl rfl trivial ?_
  refine L.lss rfl rfl rfl rfl trivial ?_
  refine L.nil ?_
  refine C.next ?_
  refine C.condD rfl (fun hc1 => ?_) (fun hc1 => ?_)
  · have hk : k < t.length := by omega
    obtain ⟨x, hx⟩ : ∃ x, t[k]? = some x := ⟨_, List.getElem?_eq_getElem hk⟩
    refine C.skip ?_
    refine C.next ?_
    refine C.seq ?_
    refine C.block ?_
    refine C.seq ?_
    refine C.draw [] 2 [0,1,2,3,4,5,6,9,10,11,12,13,14,15,7,8,16,17,18,19] [false,true,true,true,true,true,true,true,true,true,true,true,true,true,true,true,true,true,true,false] [(false,0),(true,1),(true,2),(true,3),(true,4),(true,5),(true,6),(true,9),(true,10),(true,11),(true,12),(true,13),(true,14),(true,15),(true,7),(true,8),(true,16),(true,17),(true,18),(false,19)] Tf.follows (fun _ _ _ h => np_body (P := Try.prog) (fn := Try.f20) _ _ _ h) (by kernel_rfl) rfl ?_
    refine L.move rfl rfl rfl trivial ?_
    refine L.move rfl rfl rfl trivial ?_
    refine L.move rfl rfl rfl trivial ?_
    refine L.move rfl rfl rfl trivial ?_
    refine L.indexS rfl Try.underlying22 Tf.s68 rfl ht rfl (by omega) hx rfl trivial (fun b1 o1 cs1 hr1 hcl1 hA1 => ?_)
    obtain rfl : cs1 = [.int .i64 _, .int .i64 _, .int .i64 _] := hr1
    refine L.fieldAddr rfl Tf.f68_1 rfl rfl trivial ?_
    refine L.loadD1 rfl (k := 1) Tf.a3 rfl hA1 (by first | simp | assumption) rfl List.not_mem_nil rfl trivial ?_
    refine L.move rfl rfl rfl trivial ?_
    refine L.move rfl rfl rfl trivial ?_
    refine L.move rfl rfl rfl trivial ?_
    refine L.move rfl rfl rfl trivial ?_
    refine L.indexS rfl Try.underlying22 Tf.s68 rfl ht rfl (by omega) hx rfl trivial (fun b2 o2 cs2 hr2 hcl2 hA2 => ?_)
    obtain rfl : cs2 = [.int .i64 _, .int .i64 _, .int .i64 _] := hr2
    refine L.fieldAddr rfl Tf.f68_2 rfl rfl trivial ?_
    refine L.loadD1 rfl (k := 2) Tf.a3 rfl hA2 (by first | simp | assumption) rfl List.not_mem_nil rfl trivial ?_
    refine L.callV rfl rfl rfl (fun D1 hD1 => cout_ok _ t k _ _ (ht.up RLin.up (hD1 _ (by simp))) (by omega) h8) rfl trivial ?_
    refine L.geq rfl rfl rfl rfl trivial ?_
    refine L.callV rfl rfl rfl (fun D2 hD2 => tout_ok _ t k _ _ (ht.up RLin.up (hD2 _ (by simp))) (by omega) h8) rfl trivial ?_
    refine L.geq rfl rfl rfl rfl trivial ?_
    refine L.assign rfl rfl rfl trivial ?_
    refine L.assign rfl rfl rfl trivial ?_
    refine L.nil ?_
    refine C.next ?_
    refine C.seq ?_
    refine C.region [(false,0),(false,1),(false,2),(false,3),(false,4),(false,5),(false,6)] rfl ?_
    refine L.move rfl rfl rfl trivial ?_
    refine L.move rfl rfl rfl trivial ?_
    refine L.indexS rfl Try.underlying22 Tf.s68 rfl ht rfl (by omega) hx rfl trivial (fun b3 o3 cs3 hr3 hcl3 hA3 => ?_)
    obtain rfl : cs3 = [.int .i64 _, .int .i64 _, .int .i64 _] := hr3
    refine L.fieldAddr rfl Tf.f68_0 rfl rfl trivial ?_
    refine L.loadD1 rfl (k := 0) Tf.a3 rfl hA3 (by first | simp | assumption) rfl List.not_mem_nil rfl trivial ?_
    refine L.eql rfl rfl rfl rfl trivial ?_
    refine L.assign rfl rfl rfl trivial ?_
    refine L.nil ?_
    refine C.next ?_
    refine C.seq ?_
    refine C.region [(false,0),(false,1),(false,2),(false,3),(false,4),(false,5),(false,6),(false,7)] rfl ?_
    refine L.move rfl rfl rfl trivial ?_
    refine L.move rfl rfl rfl trivial ?_
    refine L.neqB rfl Try.underlying4 rfl rfl rfl trivial ?_
    refine L.move rfl rfl rfl trivial ?_
    refine' L.or [(false,4),(false,5),(false,6),(false,7)] [] (s := 40) (p := 44) rfl rfl (fun hg1 => ?_) (fun hg1 => ?_) ?_
    rotate_left
    · refine L.move rfl rfl rfl ⟨_, rfl, rfl⟩ ?_
      refine L.move rfl rfl rfl ⟨_, rfl, rfl⟩ ?_
      refine L.neqB rfl Try.underlying4 rfl rfl rfl ⟨_, rfl, rfl⟩ ?_
      refine L.pickF rfl rfl rfl rfl trivial ?_
      exact L.nil fun a w hh => hh.cutK 3 rfl
    · refine L.pass rfl rfl rfl ⟨_, _, rfl, rfl, rfl⟩ ?_
      refine L.pass rfl rfl rfl ⟨_, _, rfl, rfl, rfl⟩ ?_
      refine L.pass rfl rfl rfl ⟨_, _, rfl, rfl, rfl⟩ ?_
      refine L.pickT rfl rfl rfl rfl trivial ?_
      exact L.nil fun a w hh => hh.cutK 3 rfl
    refine L.nil ?_
    refine C.next ?_
    refine C.cond rfl (fun hc2 => ?_) (fun hc2 => ?_)
    · refine C.seq ?_
      refine C.region [(false,0)] rfl ?_
      refine L.assign rfl rfl rfl trivial ?_
      refine L.nil ?_
      refine C.next ?_
      refine C.ret ?_
      refine C.blockRet ?_
      refine C.thenRet ?_
      refine C.thenRet ?_
      refine C.blockRet ?_
      refine C.thenRet ?_
      exact leave (vs := [_]) rfl rfl rfl ⟨rfl, trivial⟩ (fun D hD => by show Value.bool _ = _; rw [poss_no hx hk hc2])
    · refine C.skip ?_
      refine C.blockEnd ?_
      refine C.next ?_
      refine C.region [(false,0),(false,1),(false,2)] rfl ?_
      refine L.move rfl rfl rfl trivial ?_
      refine L.add rfl rfl rfl (by simp only [inK]; omega) rfl trivial ?_
      refine L.assign rfl rfl rfl trivial ?_
      refine L.nil ?_
      exact C.againR 40 (k + 1) ⟨by omega, poss_go hx hp hc2⟩ (by omega) ⟨(by first | rfl | (show some (Value.int _ _) = some (Value.int _ _); congr 2; omega)), trivial⟩ rfl rfl (List.Sublist.refl _) (ds_same)
  · obtain rfl : k = t.length := by omega
    refine C.exit ?_
    refine C.thenExit ?_
    refine C.thenExit ?_
    refine C.blockExit ?_
    refine C.next ?_
    refine C.seq ?_
    refine C.region [(false,0)] rfl ?_
    refine L.assign rfl rfl rfl trivial ?_
    refine L.nil ?_
    refine C.next ?_
    refine C.ret ?_
    exact leave (vs := [_]) rfl rfl rfl ⟨rfl, trivial⟩ (fun D hD => by show Value.bool _ = _; rw [hp])
end Go.Fs
namespace Go.Fs
open Go.Proofs
open C3
theorem linC_snoc (l : List Lin) (c : Lin) : linC (l ++ [c]) = linC l ++ [.int .i64 c.kind, .int .i64 c.chair, .int .i64 c.token] := by simp [linC]
theorem to3_ok (r : Int × Int) (D : Data) : Fn Try.prog 28 #[k2V r] D (fun _ v => v = k2V r) := by
  refine enter 8 Try.func28 rfl rfl rfl rfl fun h0 => ?_
  refine C.seq ?_
  refine C.region [(false,0),(false,1)] rfl ?_
  refine L.boxD rfl rfl rfl rfl trivial (fun q1 E1 hE1 hB1 => ?_)
  refine L.alloc rfl Tf.z43 rfl rfl trivial (fun q2 => ?_)
  refine L.nil ?_
  refine C.next ?_
  refine C.seq ?_
  refine C.region [(false,0),(false,1),(false,2),(false,3),(false,4),(false,5)] rfl ?_
  refine L.fieldAddr rfl Tf.f70_0 rfl rfl trivial ?_
  refine L.loadD1 rfl (k := 0) Tf.a3 rfl hB1 (by first | simp | assumption) rfl List.not_mem_nil rfl trivial ?_
  refine L.fieldAddr rfl Tf.f70_1 rfl rfl trivial ?_
  refine L.loadD1 rfl (k := 1) Tf.a3 rfl hB1 (by first | simp | assumption) rfl List.not_mem_nil rfl trivial ?_
  refine L.build (cs := [.int .i64 r.1, .int .i64 r.2]) rfl Tf.p43 Tf.z43 rfl rfl rfl trivial ?_
  refine L.storeW rfl rfl rfl rfl Tf.s43 (by first | rfl | (simp only [ints_length, *]; done) | (simp only [ints_length, *]; rfl) | (simp only [ints_length, *]; omega)) (by first | rfl | (simp only [ints_length, *]; done) | (simp only [ints_length, *]; rfl) | (simp only [ints_length, *]; omega)) (Has.head) (by first | exact ints_cell1 _ | simp [cell1]) trivial ?_
  refine L.nil ?_
  refine C.next ?_
  refine C.ret ?_
  exact leave (vs := [_]) rfl rfl rfl ⟨⟨_, _, _, rfl, (List.Mem.head _), Or.inr ⟨Tf.a43, (by first | exact Tf.s43 | (simp only [List.size_toArray, ints_length, *]; exact Tf.s43)), rfl⟩⟩, trivial⟩ (fun D hD => rfl)
theorem truthL_ok (tv : Value) (t : List Lin) (D : Data) (ht : Sl D RLin 3 tv t) (h8 : t.length ≤ 1000) : Fn Try.prog 13 #[tv] D (fun D' v => Sl D' RLin 3 v t) := by
  refine enter 31 Try.func13 rfl rfl rfl rfl fun h0 => ?_
  refine C.seq ?_
  refine C.region [(false,0)] rfl ?_
  refine L.assign rfl rfl rfl trivial ?_
  refine L.nil ?_
  refine C.next ?_
  refine C.seq ?_
  refine C.region [(false,0)] rfl ?_
  refine L.assign rfl rfl rfl trivial ?_
  refine L.nil ?_
  refine C.next ?_
  refine C.seq ?_
  refine C.seq ?_
  refine C.region [(false,0)] rfl ?_
  refine L.assign rfl rfl rfl trivial ?_
  refine L.nil ?_
  refine C.next ?_
  refine C.block ?_
  refine C.loopR (γ := Nat × Value × Boxes) (fun g => t.length - g.1) (fun g => g.1 ≤ t.length ∧ Acc 64 3 g.2.1 g.1 (linC (t.take g.1)) g.2.2) (fun g => [(3, g.2.1), (4, .int .i64 (g.1 : Int))]) [(2, _), (0, _)] (fun g => g.2.2 ++ []) (fun g => [D]) (0, .slice none 0 0, []) ⟨by simp, Acc.nil⟩ ⟨(by first | rfl | (show some (Value.int _ _) = some (Value.int _ _); congr 2; omega)), (by first | rfl | (show some (Value.int _ _) = some (Value.int _ _); congr 2; omega)), trivial⟩ ⟨rfl, rfl, trivial⟩ (List.Sublist.refl _) (ds_same) ?_
  rintro ⟨k, v, ν⟩ ⟨h1, ha⟩
  simp only at h1 ha
  refine C.seq ?_
  refine C.seq ?_
  refine C.region [(false,0),(false,1),(false,2),(false,3)] rfl ?_
  refine L.move rfl rfl rfl trivial ?_
  refine L.move rfl rfl rfl trivial ?_
  refine L.len rfl Try.underlying22 rfl ht rfl rfl trivial ?_
  refine L.lss rfl rfl rfl rfl trivial ?_
  refine L.nil ?_
  refine C.next ?_
  refine C.condD rfl (fun hc1 => ?_) (fun hc1 => ?_)
  · simp only at hc1
    obtain ⟨x, hx⟩ : ∃ x, t[k]? = some x := ⟨_, List.getElem?_eq_getElem (by omega)⟩
    refine C.skip ?_
    refine C.next ?_
    refine C.seq ?_
    refine C.block ?_
    refine C.draw [] 6 [0,1,2,3,4,5,6,7,8,9,10,11,12,13,14,15,16,17,18,19] [false,true,true,true,true,true,true,true,true,true,true,true,true,true,true,true,true,true,false,false] [(false,0),(true,1),(true,2),(true,3),(true,4),(true,5),(true,6),(true,7),(true,8),(true,9),(true,10),(true,11),(true,12),(true,13),(true,14),(true,15),(true,16),(true,17),(false,18),(false,19)] Tf.follows (fun _ _ _ h => np_body (P := Try.prog) (fn := Try.f13) _ _ _ h) (by kernel_rfl) rfl ?_
    refine L.move rfl rfl rfl trivial ?_
    refine L.move rfl rfl rfl trivial ?_
    refine L.move rfl rfl rfl trivial ?_
    refine L.indexS rfl Try.underlying22 Tf.s68 rfl ht rfl (by omega) hx rfl trivial (fun b1 o1 cs1 hr1 hcl1 hA1 => ?_)
    obtain rfl : cs1 = [.int .i64 _, .int .i64 _, .int .i64 _] := hr1
    refine L.fieldAddr rfl Tf.f68_0 rfl rfl trivial ?_
    refine L.loadD1 rfl (k := 0) Tf.a3 rfl hA1 (by first | simp | assumption) rfl List.not_mem_nil rfl trivial ?_
    refine L.move rfl rfl rfl trivial ?_
    refine L.move rfl rfl rfl trivial ?_
    refine L.indexS rfl Try.underlying22 Tf.s68 rfl ht rfl (by omega) hx rfl trivial (fun b2 o2 cs2 hr2 hcl2 hA2 => ?_)
    obtain rfl : cs2 = [.int .i64 _, .int .i64 _, .int .i64 _] := hr2
    refine L.fieldAddr rfl Tf.f68_1 rfl rfl trivial ?_
    refine L.loadD1 rfl (k := 1) Tf.a3 rfl hA2 (by first | simp | assumption) rfl List.not_mem_nil rfl trivial ?_
    refine L.move rfl rfl rfl trivial ?_
    refine L.move rfl rfl rfl trivial ?_
    refine L.indexS rfl Try.underlying22 Tf.s68 rfl ht rfl (by omega) hx rfl trivial (fun b3 o3 cs3 hr3 hcl3 hA3 => ?_)
    obtain rfl : cs3 = [.int .i64 _, .int .i64 _, .int .i64 _] := hr3
    refine L.fieldAddr rfl Tf.f68_2 rfl rfl trivial ?_
    refine L.loadD1 rfl (k := 2) Tf.a3 rfl hA3 (by first | simp | assumption) rfl List.not_mem_nil rfl trivial ?_
    refine L.build (cs := [.int .i64 x.kind, .int .i64 x.chair, .int .i64 x.token]) rfl Tf.p64 Tf.z64 rfl rfl rfl trivial ?_
    refine L.buildSlice rfl Try.underlying37 Tf.s64 Tf.z64 rfl rfl rfl rfl (.cons rfl rfl .nil) rfl trivial (fun b901 D901 hD901 hA901 => ?_)
    refine L.append (A := []) (B := []) rfl Try.underlying37 rfl rfl Tf.s64 Tf.z64 rfl Tf.i64 rfl rfl rfl ha (Src.lit hA901) (by simp) rfl (by rw [linC_len, List.length_take]; omega) (by simp [cell1]) (by omega) (Or.inl rfl) rfl trivial (fun v7 ν7 ha7 => ?_)
    have hn7 : Acc 64 3 v7 (k + 1) (linC (t.take (k + 1))) ν7 := by rw [List.take_add_one, hx, Option.toList_some, linC_snoc]; simpa using ha7
    refine L.assign rfl rfl rfl trivial ?_
    refine L.nil ?_
    refine C.blockEnd ?_
    refine C.next ?_
    refine C.region [(false,0),(false,1),(false,2)] rfl ?_
    refine L.move rfl rfl rfl trivial ?_
    refine L.add rfl rfl rfl (by simp only [inK]; omega) rfl trivial ?_
    refine L.assign rfl rfl rfl trivial ?_
    refine L.nil ?_
    exact C.againR 29 (k + 1, v7, ν7) ⟨by simp only; omega, hn7⟩ (by simp only; omega) ⟨(by first | rfl | (show some (Value.int _ _) = some (Value.int _ _); congr 2; omega)), (by first | rfl | (show some (Value.int _ _) = some (Value.int _ _); congr 2; omega)), trivial⟩ rfl rfl (List.Sublist.refl _) (fun D h => ⟨D, List.Mem.tail _ (h), Le.refl D⟩)
  · obtain rfl : k = t.length := by simp only at hc1; omega
    rw [List.take_length] at ha
    refine C.exit ?_
    refine C.thenExit ?_
    refine C.thenExit ?_
    refine C.blockExit ?_
    refine C.next ?_
    refine C.seq ?_
    refine C.region [(false,0),(false,1)] rfl ?_
    refine L.move rfl rfl rfl trivial ?_
    refine L.assign rfl rfl rfl trivial ?_
    refine L.nil ?_
    refine C.next ?_
    refine C.ret ?_
    refine Q.freeze (A := []) (B := []) ha rfl (fun D2 hD2 hF => ?_)
    exact leave (vs := [_]) rfl rfl rfl ⟨rfl, trivial⟩ (fun D hD => (hF.lins rfl (by omega)).up RLin.up (hD _ (by simp)))
end Go.Fs
namespace Go.Fs
open Go.Proofs
open C3
def cnC (l : List Cn) : List Value := l.flatMap fun x => [.int .i64 x.after, .int .i64 x.lo, .int .i64 x.hi]
theorem cnC_snoc (l : List Cn) (c : Cn) : cnC (l ++ [c]) = cnC l ++ [.int .i64 c.after, .int .i64 c.lo, .int .i64 c.hi] := by simp [cnC]
theorem cnC_len (l : List Cn) : (cnC l).length = l.length * 3 := by
  induction l with
  | nil => rfl
  | cons c l ih => unfold cnC at ih ⊢; rw [List.flatMap_cons, List.length_append, ih]; simp only [List.length_cons, List.length_nil]; omega
theorem cnC_get {l : List Cn} {i : Nat} {c : Cn} (hi : l[i]? = some c) : ((cnC l).drop (i * 3)).take 3 = [.int .i64 c.after, .int .i64 c.lo, .int .i64 c.hi] := by
  induction l generalizing i with
  | nil => simp at hi
  | cons d l ih =>
    unfold cnC at ih ⊢
    rw [List.flatMap_cons]
    cases i with
    | zero => obtain rfl : d = c := by simpa using hi
              rfl
    | succ i =>
      rw [List.drop_append, List.drop_eq_nil_of_le (by simp; omega), List.nil_append]
      have : (i + 1) * 3 - [Value.int .i64 d.after, Value.int .i64 d.lo, Value.int .i64 d.hi].length = i * 3 := by simp; omega
      rw [this]; exact ih (by simpa using hi)
theorem Froz.cns {D : Data} {v : Value} {n : Nat} {l : List Cn} (hF : Froz D v n (cnC l)) (hn : l.length = n) (hb : n ≤ 9223372036854775807) : Sl D RCn 3 v l :=
  hF.sl hn hb fun _i _t hi => ⟨_, rfl, rfl, cnC_get hi⟩
theorem cell1_book {a c : Value} {x y z : Int} (ha : ∀ u ∈ [a], cell1 u = true) (hb : ∀ u ∈ [c], cell1 u = true) : ∀ u ∈ [.int .i64 x, .int .i64 y, .int .i64 z, a, c], cell1 u = true := by
  intro u hu
  simp only [List.mem_cons, List.not_mem_nil, or_false] at hu
  rcases hu with rfl | rfl | rfl | rfl | rfl
  · rfl
  · rfl
  · rfl
  · exact ha _ List.mem_cons_self
  · exact hb _ List.mem_cons_self
theorem bookL_ok (bv : Value) (b : BookD) (D : Data) (hb : BookIs D bv b) (h1 : b.lines.length ≤ 1000) (h2 : b.counts.length ≤ 1000) : Fn Try.prog 10 #[bv] D (fun D' v => BookIs D' v b) := by
  obtain ⟨lv, cv, rfl, hl, hc⟩ := hb
  refine enter 42 Try.func10 rfl rfl rfl rfl fun h0 => ?_
  refine C.seq ?_
  refine C.region [(false,0),(false,1)] rfl ?_
  refine L.boxD rfl rfl rfl rfl trivial (fun q1 E1 hE1 hB1 => ?_)
  refine L.alloc rfl Tf.z40 rfl rfl trivial (fun q2 => ?_)
  refine L.nil ?_
  refine C.next ?_
  refine C.seq ?_
  refine C.drawS [] 3 [false,false,true,true,true,true,true,true,true,false,true,false] [.fork [0,1,2,3,4,5,6,7] 8 (.fin [9,10]) 10 (.fin [8,9]), .fin [11]] Tf.follows (fun _ _ _ h => np_body (P := Try.prog) (fn := Try.f10) _ _ _ h) (by kernel_rfl) ?_
  refine S.cons ?_
  refine L.planFork [(false,0),(false,1),(true,2),(true,3),(true,4),(true,5),(true,6),(true,7)] rfl ?_
  refine L.fieldAddr rfl Tf.f25_0 rfl rfl trivial ?_
  refine L.loadD1 rfl (k := 0) Tf.a3 rfl hB1 (by first | simp | assumption) rfl List.not_mem_nil rfl trivial ?_
  refine L.fieldAddr rfl Tf.f25_1 rfl rfl trivial ?_
  refine L.loadD1 rfl (k := 1) Tf.a3 rfl hB1 (by first | simp | assumption) rfl List.not_mem_nil rfl trivial ?_
  refine L.fieldAddr rfl Tf.f25_2 rfl rfl trivial ?_
  refine L.loadD1 rfl (k := 2) Tf.a3 rfl hB1 (by first | simp | assumption) rfl List.not_mem_nil rfl trivial ?_
  refine L.fieldAddr rfl Tf.f25_3 rfl rfl trivial ?_
  refine L.loadD1 rfl (k := 3) Tf.a22 rfl hB1 (by first | simp | assumption) rfl List.not_mem_nil rfl trivial ?_
  refine L.nil (L.forkP true true rfl rfl ?_ ?_)
  · refine L.call rfl rfl rfl (fun D1 hD1 => truthL_ok _ b.lines _ (hl.up RLin.up (hD1 _ (by simp))) (by omega)) rfl trivial (fun v1 D1 hD1 hp1 => ?_)
    have htr := hp1
    obtain ⟨ta, tc, rfl⟩ := htr.shape
    refine L.nil ?_
    refine L.planFin [(false,9),(true,10)] rfl ?_
    refine L.build (cs := [.int .i64 b.chairs, .int .i64 b.coin, .int .i64 b.box, .slice ta b.lines.length tc, .slice none 0 0]) rfl Tf.p40 Tf.z40 rfl rfl rfl trivial ?_
    refine L.alloc rfl Tf.z40 rfl rfl trivial (fun q3 => ?_)
    refine L.nil ?_
    refine S.fin [(false,11)] rfl ?_
    refine L.storeW rfl rfl rfl rfl Tf.s40 (by first | rfl | (simp only [ints_length, *]; done) | (simp only [ints_length, *]; rfl) | (simp only [ints_length, *]; omega)) (by first | rfl | (simp only [ints_length, *]; done) | (simp only [ints_length, *]; rfl) | (simp only [ints_length, *]; omega)) (Has.head) (cell1_book htr.cell1 (by simp [cell1])) trivial ?_
    refine L.nil ?_
    refine S.nil ?_
    refine C.next ?_
    refine C.seq ?_
    refine C.seq ?_
    refine C.region [(false,0)] rfl ?_
    refine L.assign rfl rfl rfl trivial ?_
    refine L.nil ?_
    refine C.next ?_
    refine C.block ?_
    refine C.loopR (γ := Nat × Value × Boxes) (fun g => b.counts.length - g.1) (fun g => g.1 ≤ b.counts.length ∧ Acc 86 3 g.2.1 g.1 (cnC (b.counts.take g.1)) g.2.2) (fun g => [(4, .int .i64 (g.1 : Int))]) [(3, _), (2, _), (1, _)] (fun g => (q3, .cells [.int .i64 b.chairs, .int .i64 b.coin, .int .i64 b.box, .slice ta b.lines.length tc, g.2.1].toArray 40 (0, 0)) :: (q2, .cells [.int .i64 0, .int .i64 0, .int .i64 0, .slice none 0 0, .slice none 0 0].toArray 40 (0, 0)) :: (g.2.2 ++ [])) (fun g => [D1, E1, D]) (0, .slice none 0 0, []) ⟨by simp, Acc.nil⟩ ⟨(by first | rfl | (show some (Value.int _ _) = some (Value.int _ _); congr 2; omega)), trivial⟩ ⟨rfl, rfl, rfl, trivial⟩ (List.Sublist.refl _) (ds_same) ?_
    rintro ⟨k, v, ν⟩ ⟨h3, ha⟩
    simp only at h3 ha
    refine C.seq ?_
    refine C.seq ?_
    refine C.region [(false,0),(false,1),(false,2),(false,3),(false,4)] rfl ?_
    refine L.move rfl rfl rfl trivial ?_
    refine L.fieldAddr rfl Tf.f25_4 rfl rfl trivial ?_
    refine L.loadD1 rfl (k := 4) Tf.a23 rfl hB1 (by first | simp | assumption) rfl List.not_mem_nil rfl trivial ?_
    refine L.len rfl Try.underlying23 rfl hc rfl rfl trivial ?_
    refine L.lss rfl rfl rfl rfl trivial ?_
    refine L.nil ?_
    refine C.next ?_
    refine C.condD rfl (fun hc1 => ?_) (fun hc1 => ?_)
    · simp only at hc1
      obtain ⟨x, hx⟩ : ∃ x, b.counts[k]? = some x := ⟨_, List.getElem?_eq_getElem (by omega)⟩
      refine C.skip ?_
      refine C.next ?_
      refine C.seq ?_
      refine C.block ?_
      refine C.draw [] 7 [0,1,2,3,4,5,6,7,8,9,10,11,12,13,14,15,16,17,18,19] [false,false,true,true,true,true,true,true,true,true,true,true,true,true,true,true,true,false,false,false] [(false,0),(false,1),(true,2),(true,3),(true,4),(true,5),(true,6),(true,7),(true,8),(true,9),(true,10),(true,11),(true,12),(true,13),(true,14),(true,15),(true,16),(false,17),(false,18),(false,19)] Tf.follows (fun _ _ _ h => np_body (P := Try.prog) (fn := Try.f10) _ _ _ h) (by kernel_rfl) rfl ?_
      refine L.fieldAddr rfl Tf.f40_4 rfl rfl trivial ?_
      refine L.loadB1 rfl Tf.a38 rfl (List.Mem.head _) rfl List.not_mem_nil rfl trivial ?_
      refine L.fieldAddr rfl Tf.f25_4 rfl rfl trivial ?_
      refine L.loadD1 rfl (k := 4) Tf.a23 rfl hB1 (by first | simp | assumption) rfl List.not_mem_nil rfl trivial ?_
      refine L.move rfl rfl rfl trivial ?_
      refine L.indexS rfl Try.underlying23 Tf.s72 rfl hc rfl (by omega) hx rfl trivial (fun b1 o1 cs1 hr1 hcl1 hA1 => ?_)
      obtain rfl : cs1 = [.int .i64 _, .int .i64 _, .int .i64 _] := hr1
      refine L.fieldAddr rfl Tf.f72_0 rfl rfl trivial ?_
      refine L.loadD1 rfl (k := 0) Tf.a3 rfl hA1 (by first | simp | assumption) rfl List.not_mem_nil rfl trivial ?_
      refine L.fieldAddr rfl Tf.f25_4 rfl rfl trivial ?_
      refine L.loadD1 rfl (k := 4) Tf.a23 rfl hB1 (by first | simp | assumption) rfl List.not_mem_nil rfl trivial ?_
      refine L.move rfl rfl rfl trivial ?_
      refine L.indexS rfl Try.underlying23 Tf.s72 rfl hc rfl (by omega) hx rfl trivial (fun b2 o2 cs2 hr2 hcl2 hA2 => ?_)
      obtain rfl : cs2 = [.int .i64 _, .int .i64 _, .int .i64 _] := hr2
      refine L.fieldAddr rfl Tf.f72_1 rfl rfl trivial ?_
      refine L.loadDP rfl (k := 1) Tf.a70 Tf.s70 rfl hA2 (by first | simp | assumption) rfl rfl List.not_mem_nil rfl trivial ?_
      refine L.callV rfl rfl rfl (fun D2 hD2 => to3_ok (x.lo, x.hi) _) rfl trivial ?_
      refine L.build (cs := [.int .i64 x.after, .int .i64 x.lo, .int .i64 x.hi]) rfl Tf.p86 Tf.z86 rfl rfl rfl trivial ?_
      refine L.buildSlice rfl Try.underlying38 Tf.s86 Tf.z86 rfl rfl rfl rfl (.cons rfl rfl .nil) rfl trivial (fun b901 D901 hD901 hA901 => ?_)
      refine L.append (A := [(_, _), (_, _)]) (B := []) rfl Try.underlying38 rfl rfl Tf.s86 Tf.z86 rfl Tf.i86 rfl rfl rfl ha (Src.lit hA901) (by simp) rfl (by rw [cnC_len, List.length_take]; omega) (by simp [cell1]) (by omega) (Or.inl rfl) rfl trivial (fun v7 ν7 ha7 => ?_)
      have hn7 : Acc 86 3 v7 (k + 1) (cnC (b.counts.take (k + 1))) ν7 := by rw [List.take_add_one, hx, Option.toList_some, cnC_snoc]; simpa using ha7
      refine L.fieldAddr rfl Tf.f40_4 rfl rfl trivial ?_
      refine L.store rfl rfl rfl ha7.cells1 Tf.s38 (Has.head) (by simp) rfl ha7.cell1 trivial ?_
      refine L.nil ?_
      refine C.blockEnd ?_
      refine C.next ?_
      refine C.region [(false,0),(false,1),(false,2)] rfl ?_
      refine L.move rfl rfl rfl trivial ?_
      refine L.add rfl rfl rfl (by simp only [inK]; omega) rfl trivial ?_
      refine L.assign rfl rfl rfl trivial ?_
      refine L.nil ?_
      exact C.againR 28 (k + 1, v7, ν7) ⟨by simp only; omega, hn7⟩ (by simp only; omega) ⟨(by first | rfl | (show some (Value.int _ _) = some (Value.int _ _); congr 2; omega)), trivial⟩ rfl rfl (List.Sublist.refl _) (fun D h => ⟨D, List.Mem.tail _ (h), Le.refl D⟩)
    · obtain rfl : k = b.counts.length := by simp only at hc1; omega
      rw [List.take_length] at ha
      refine C.exit ?_
      refine C.thenExit ?_
      refine C.thenExit ?_
      refine C.blockExit ?_
      refine C.next ?_
      refine C.seq ?_
      refine C.region [(false,0),(false,1)] rfl ?_
      refine L.loadBW rfl Tf.a40 rfl (List.Mem.head _) Tf.s40 List.not_mem_nil rfl trivial ?_
      refine L.storeW rfl rfl rfl rfl Tf.s40 (by first | rfl | (simp only [ints_length, *]; done) | (simp only [ints_length, *]; rfl) | (simp only [ints_length, *]; omega)) (by first | rfl | (simp only [ints_length, *]; done) | (simp only [ints_length, *]; rfl) | (simp only [ints_length, *]; omega)) (.tail (Has.head)) (cell1_book htr.cell1 ha.cell1) trivial ?_
      refine L.nil ?_
      refine C.next ?_
      refine C.ret ?_
      refine Q.freeze (A := [(_, _), (_, _)]) (B := []) ha rfl (fun D2 hD2 hF => ?_)
      exact leave (vs := [_]) rfl rfl rfl ⟨⟨_, _, _, rfl, (List.Mem.tail _ (List.Mem.head _)), Or.inr ⟨Tf.a40, Tf.s40, rfl⟩⟩, trivial⟩ (fun D hD => ⟨_, v, rfl, htr.up RLin.up (hD _ (by simp)), (hF.cns rfl (by omega)).up RCn.up (hD _ (by simp))⟩)
  · refine L.alloc rfl Tf.z40 rfl rfl trivial (fun q3 => ?_)
    refine L.nil ?_
    refine L.planFin [(true,8),(false,9)] rfl ?_
    refine L.call rfl rfl rfl (fun D1 hD1 => truthL_ok _ b.lines _ (hl.up RLin.up (hD1 _ (by simp))) (by omega)) rfl trivial (fun v1 D1 hD1 hp1 => ?_)
    have htr := hp1
    obtain ⟨ta, tc, rfl⟩ := htr.shape
    refine L.build (cs := [.int .i64 b.chairs, .int .i64 b.coin, .int .i64 b.box, .slice ta b.lines.length tc, .slice none 0 0]) rfl Tf.p40 Tf.z40 rfl rfl rfl trivial ?_
    refine L.nil ?_
    refine S.fin [(false,11)] rfl ?_
    refine L.storeW rfl rfl rfl rfl Tf.s40 (by first | rfl | (simp only [ints_length, *]; done) | (simp only [ints_length, *]; rfl) | (simp only [ints_length, *]; omega)) (by first | rfl | (simp only [ints_length, *]; done) | (simp only [ints_length, *]; rfl) | (simp only [ints_length, *]; omega)) (Has.head) (cell1_book htr.cell1 (by simp [cell1])) trivial ?_
    refine L.nil ?_
    refine S.nil ?_
    refine C.next ?_
    refine C.seq ?_
    refine C.seq ?_
    refine C.region [(false,0)] rfl ?_
    refine L.assign rfl rfl rfl trivial ?_
    refine L.nil ?_
    refine C.next ?_
    refine C.block ?_
    refine C.loopR (γ := Nat × Value × Boxes) (fun g => b.counts.length - g.1) (fun g => g.1 ≤ b.counts.length ∧ Acc 86 3 g.2.1 g.1 (cnC (b.counts.take g.1)) g.2.2) (fun g => [(4, .int .i64 (g.1 : Int))]) [(3, _), (2, _), (1, _)] (fun g => (q3, .cells [.int .i64 b.chairs, .int .i64 b.coin, .int .i64 b.box, .slice ta b.lines.length tc, g.2.1].toArray 40 (0, 0)) :: (q2, .cells [.int .i64 0, .int .i64 0, .int .i64 0, .slice none 0 0, .slice none 0 0].toArray 40 (0, 0)) :: (g.2.2 ++ [])) (fun g => [D1, E1, D]) (0, .slice none 0 0, []) ⟨by simp, Acc.nil⟩ ⟨(by first | rfl | (show some (Value.int _ _) = some (Value.int _ _); congr 2; omega)), trivial⟩ ⟨rfl, rfl, rfl, trivial⟩ (List.Sublist.refl _) (ds_same) ?_
    rintro ⟨k, v, ν⟩ ⟨h3, ha⟩
    simp only at h3 ha
    refine C.seq ?_
    refine C.seq ?_
    refine C.region [(false,0),(false,1),(false,2),(false,3),(false,4)] rfl ?_
    refine L.move rfl rfl rfl trivial ?_
    refine L.fieldAddr rfl Tf.f25_4 rfl rfl trivial ?_
    refine L.loadD1 rfl (k := 4) Tf.a23 rfl hB1 (by first | simp | assumption) rfl List.not_mem_nil rfl trivial ?_
    refine L.len rfl Try.underlying23 rfl hc rfl rfl trivial ?_
    refine L.lss rfl rfl rfl rfl trivial ?_
    refine L.nil ?_
    refine C.next ?_
    refine C.condD rfl (fun hc1 => ?_) (fun hc1 => ?_)
    · simp only at hc1
      obtain ⟨x, hx⟩ : ∃ x, b.counts[k]? = some x := ⟨_, List.getElem?_eq_getElem (by omega)⟩
      refine C.skip ?_
      refine C.next ?_
      refine C.seq ?_
      refine C.block ?_
      refine C.draw [] 7 [0,1,2,3,4,5,6,7,8,9,10,11,12,13,14,15,16,17,18,19] [false,false,true,true,true,true,true,true,true,true,true,true,true,true,true,true,true,false,false,false] [(false,0),(false,1),(true,2),(true,3),(true,4),(true,5),(true,6),(true,7),(true,8),(true,9),(true,10),(true,11),(true,12),(true,13),(true,14),(true,15),(true,16),(false,17),(false,18),(false,19)] Tf.follows (fun _ _ _ h => np_body (P := Try.prog) (fn := Try.f10) _ _ _ h) (by kernel_rfl) rfl ?_
      refine L.fieldAddr rfl Tf.f40_4 rfl rfl trivial ?_
      refine L.loadB1 rfl Tf.a38 rfl (List.Mem.head _) rfl List.not_mem_nil rfl trivial ?_
      refine L.fieldAddr rfl Tf.f25_4 rfl rfl trivial ?_
      refine L.loadD1 rfl (k := 4) Tf.a23 rfl hB1 (by first | simp | assumption) rfl List.not_mem_nil rfl trivial ?_
      refine L.move rfl rfl rfl trivial ?_
      refine L.indexS rfl Try.underlying23 Tf.s72 rfl hc rfl (by omega) hx rfl trivial (fun b1 o1 cs1 hr1 hcl1 hA1 => ?_)
      obtain rfl : cs1 = [.int .i64 _, .int .i64 _, .int .i64 _] := hr1
      refine L.fieldAddr rfl Tf.f72_0 rfl rfl trivial ?_
      refine L.loadD1 rfl (k := 0) Tf.a3 rfl hA1 (by first | simp | assumption) rfl List.not_mem_nil rfl trivial ?_
      refine L.fieldAddr rfl Tf.f25_4 rfl rfl trivial ?_
      refine L.loadD1 rfl (k := 4) Tf.a23 rfl hB1 (by first | simp | assumption) rfl List.not_mem_nil rfl trivial ?_
      refine L.move rfl rfl rfl trivial ?_
      refine L.indexS rfl Try.underlying23 Tf.s72 rfl hc rfl (by omega) hx rfl trivial (fun b2 o2 cs2 hr2 hcl2 hA2 => ?_)
      obtain rfl : cs2 = [.int .i64 _, .int .i64 _, .int .i64 _] := hr2
      refine L.fieldAddr rfl Tf.f72_1 rfl rfl trivial ?_
      refine L.loadDP rfl (k := 1) Tf.a70 Tf.s70 rfl hA2 (by first | simp | assumption) rfl rfl List.not_mem_nil rfl trivial ?_
      refine L.callV rfl rfl rfl (fun D2 hD2 => to3_ok (x.lo, x.hi) _) rfl trivial ?_
      refine L.build (cs := [.int .i64 x.after, .int .i64 x.lo, .int .i64 x.hi]) rfl Tf.p86 Tf.z86 rfl rfl rfl trivial ?_
      refine L.buildSlice rfl Try.underlying38 Tf.s86 Tf.z86 rfl rfl rfl rfl (.cons rfl rfl .nil) rfl trivial (fun b901 D901 hD901 hA901 => ?_)
      refine L.append (A := [(_, _), (_, _)]) (B := []) rfl Try.underlying38 rfl rfl Tf.s86 Tf.z86 rfl Tf.i86 rfl rfl rfl ha (Src.lit hA901) (by simp) rfl (by rw [cnC_len, List.length_take]; omega) (by simp [cell1]) (by omega) (Or.inl rfl) rfl trivial (fun v7 ν7 ha7 => ?_)
      have hn7 : Acc 86 3 v7 (k + 1) (cnC (b.counts.take (k + 1))) ν7 := by rw [List.take_add_one, hx, Option.toList_some, cnC_snoc]; simpa using ha7
      refine L.fieldAddr rfl Tf.f40_4 rfl rfl trivial ?_
      refine L.store rfl rfl rfl ha7.cells1 Tf.s38 (Has.head) (by simp) rfl ha7.cell1 trivial ?_
      refine L.nil ?_
      refine C.blockEnd ?_
      refine C.next ?_
      refine C.region [(false,0),(false,1),(false,2)] rfl ?_
      refine L.move rfl rfl rfl trivial ?_
      refine L.add rfl rfl rfl (by simp only [inK]; omega) rfl trivial ?_
      refine L.assign rfl rfl rfl trivial ?_
      refine L.nil ?_
      exact C.againR 28 (k + 1, v7, ν7) ⟨by simp only; omega, hn7⟩ (by simp only; omega) ⟨(by first | rfl | (show some (Value.int _ _) = some (Value.int _ _); congr 2; omega)), trivial⟩ rfl rfl (List.Sublist.refl _) (fun D h => ⟨D, List.Mem.tail _ (h), Le.refl D⟩)
    · obtain rfl : k = b.counts.length := by simp only at hc1; omega
      rw [List.take_length] at ha
      refine C.exit ?_
      refine C.thenExit ?_
      refine C.thenExit ?_
      refine C.blockExit ?_
      refine C.next ?_
      refine C.seq ?_
      refine C.region [(false,0),(false,1)] rfl ?_
      refine L.loadBW rfl Tf.a40 rfl (List.Mem.head _) Tf.s40 List.not_mem_nil rfl trivial ?_
      refine L.storeW rfl rfl rfl rfl Tf.s40 (by first | rfl | (simp only [ints_length, *]; done) | (simp only [ints_length, *]; rfl) | (simp only [ints_length, *]; omega)) (by first | rfl | (simp only [ints_length, *]; done) | (simp only [ints_length, *]; rfl) | (simp only [ints_length, *]; omega)) (.tail (Has.head)) (cell1_book htr.cell1 ha.cell1) trivial ?_
      refine L.nil ?_
      refine C.next ?_
      refine C.ret ?_
      refine Q.freeze (A := [(_, _), (_, _)]) (B := []) ha rfl (fun D2 hD2 hF => ?_)
      exact leave (vs := [_]) rfl rfl rfl ⟨⟨_, _, _, rfl, (List.Mem.tail _ (List.Mem.head _)), Or.inr ⟨Tf.a40, Tf.s40, rfl⟩⟩, trivial⟩ (fun D hD => ⟨_, v, rfl, htr.up RLin.up (hD _ (by simp)), (hF.cns rfl (by omega)).up RCn.up (hD _ (by simp))⟩)
end Go.Fs
namespace Go.Fs
open Go.Proofs
open C3
def wordV (ws : List Int) (a : Int) : Int := if (ws.length : Int) = 0 then 0 else ws.getD (a % ws.length).toNat 0
theorem wordV_none {ws : List Int} {a : Int} (h : (ws.length : Int) = 0) : wordV ws a = 0 := if_pos h
theorem wordV_get {ws : List Int} {a x : Int} (h : ¬ (ws.length : Int) = 0) (hx : ws[(a % ws.length).toNat]? = some x) : wordV ws a = x := by
  unfold wordV; rw [if_neg h, List.getD_eq_getElem?_getD, hx]; rfl
theorem word3_ok (sv : Value) (ws : List Int) (a : Int) (D : Data) (hS : Sl D (RK .u16) 1 sv ws) (ha : 0 ≤ a) (_ha2 : a ≤ 100) : Fn Try.prog 19 #[sv, .int .i64 a] D (fun _ v => v = .int .i64 (wordV ws a) ∧ 0 ≤ wordV ws a ∧ wordV ws a ≤ 65535) := by
  have hwl := hS.len
  refine enter 16 Try.func19 rfl rfl rfl rfl fun h0 => ?_
  refine C.seq ?_
  refine C.region [(false,0)] rfl ?_
  refine L.assign rfl rfl rfl trivial ?_
  refine L.nil ?_
  refine C.next ?_
  refine C.seq ?_
  refine C.seq ?_
  refine C.region [(false,0),(false,1),(false,2)] rfl ?_
  refine L.move rfl rfl rfl trivial ?_
  refine L.len rfl Try.underlying26 rfl hS rfl rfl trivial ?_
  refine L.eql rfl rfl rfl rfl trivial ?_
  refine L.nil ?_
  refine C.next ?_
  refine C.condD rfl (fun hc1 => ?_) (fun hc1 => ?_)
  · refine C.seq ?_
    refine C.region [(false,0)] rfl ?_
    refine L.assign rfl rfl rfl trivial ?_
    refine L.nil ?_
    refine C.next ?_
    refine C.ret ?_
    refine C.thenRet ?_
    exact leave (vs := [_]) rfl rfl rfl ⟨rfl, trivial⟩ (fun D hD => by rw [wordV_none hc1]; exact ⟨rfl, by omega, by omega⟩)
  · have hm1 := Int.emod_nonneg a (show (ws.length : Int) ≠ 0 by omega)
    have hm2 := Int.emod_lt_of_pos a (show (0 : Int) < ws.length by omega)
    obtain ⟨x, hx⟩ : ∃ x, ws[(a % ws.length).toNat]? = some x := ⟨_, List.getElem?_eq_getElem (by omega)⟩
    refine C.skip ?_
    refine C.next ?_
    refine C.seq ?_
    refine C.region [(false,0),(false,1),(false,2),(false,3),(false,4),(false,5),(false,6),(false,7),(false,8)] rfl ?_
    refine L.move rfl rfl rfl trivial ?_
    refine L.move rfl rfl rfl trivial ?_
    refine L.move rfl rfl rfl trivial ?_
    refine L.len rfl Try.underlying26 rfl hS rfl rfl trivial ?_
    refine L.rem rfl rfl rfl (by omega) (by omega) (by simp only [inK]; omega) rfl trivial ?_
    refine L.indexS rfl Try.underlying26 Tf.s104 rfl hS rfl (by omega) hx rfl trivial (fun b1 o1 cs1 hr1 hcl1 hA1 => ?_)
    obtain ⟨rfl, hk1⟩ := hr1
    simp only [inK] at hk1
    refine L.loadD1 rfl (k := 0) Tf.a104 rfl hA1 (by first | simp | assumption) rfl List.not_mem_nil rfl trivial ?_
    refine L.convI rfl Try.underlying104 Try.underlying3 rfl (by simp only [inK]; omega) rfl trivial ?_
    refine L.assign rfl rfl rfl trivial ?_
    refine L.nil ?_
    refine C.next ?_
    refine C.ret ?_
    exact leave (vs := [_]) rfl rfl rfl ⟨rfl, trivial⟩ (fun D hD => by rw [wordV_get hc1 hx]; exact ⟨rfl, by omega, by omega⟩)
end Go.Fs
namespace Go.Fs
open Go.Proofs
open C3
def rr2 (_n : Nat) (l : Lin) (k j : Nat) (i : Nat) : List Lin := ((List.range i).map fun t : Nat => (⟨1 + (k : Int), (j : Int), (t : Int)⟩ : Lin)).filter (agreesB l)
def rr1 (n : Nat) (l : Lin) (k : Nat) (j : Nat) : List Lin := (List.range j).flatMap fun c => rr2 n l k c n
def rrK (n : Nat) (l : Lin) (k : Nat) : List Lin := (List.range k).flatMap fun a => rr1 n l a n
def rrJ (n : Nat) (l : Lin) (k j : Nat) : List Lin := rrK n l k ++ rr1 n l k j
def rrI (n : Nat) (l : Lin) (k j i : Nat) : List Lin := rrJ n l k j ++ rr2 n l k j i
theorem rrJ_zero {n : Nat} {l : Lin} {k : Nat} : rrJ n l k 0 = rrK n l k := by unfold rrJ rr1; simp
theorem rrI_zero {n : Nat} {l : Lin} {k j : Nat} : rrI n l k j 0 = rrJ n l k j := by unfold rrI rr2; simp
theorem rrJ_all {n : Nat} {l : Lin} {k : Nat} : rrJ n l k n = rrK n l (k + 1) := by unfold rrJ rrK; rw [List.range_succ, List.flatMap_append, List.flatMap_singleton]
theorem rrI_all {n : Nat} {l : Lin} {k j : Nat} : rrI n l k j n = rrJ n l k (j + 1) := by unfold rrI rrJ rr1; rw [List.range_succ, List.flatMap_append, List.flatMap_singleton, List.append_assoc]
theorem rrI_yes {n : Nat} {l : Lin} {k j i : Nat} (h : agreesB l ⟨1 + (k : Int), (j : Int), (i : Int)⟩ = true) : rrI n l k j (i + 1) = rrI n l k j i ++ [⟨1 + (k : Int), (j : Int), (i : Int)⟩] := by
  unfold rrI rr2; rw [List.range_succ, List.map_append, List.filter_append, List.map_singleton, List.filter_cons, if_pos h, List.append_assoc]; rfl
theorem rrI_no {n : Nat} {l : Lin} {k j i : Nat} (h : agreesB l ⟨1 + (k : Int), (j : Int), (i : Int)⟩ = false) : rrI n l k j (i + 1) = rrI n l k j i := by
  unfold rrI rr2; rw [List.range_succ, List.map_append, List.filter_append, List.map_singleton, List.filter_cons, if_neg (by rw [h]; simp)]; simp
theorem rr2_len {n : Nat} {l : Lin} {k j i : Nat} : (rr2 n l k j i).length ≤ i := by
  unfold rr2; have := List.length_filter_le (agreesB l) ((List.range i).map fun t : Nat => (⟨1 + (k : Int), (j : Int), (t : Int)⟩ : Lin)); simpa using this
theorem rr1_len {n : Nat} {l : Lin} {k j : Nat} : (rr1 n l k j).length ≤ j * n := by
  unfold rr1
  have := flatMap_len (m := n) (f := fun c => rr2 n l k c n) (List.range j) fun c _ => rr2_len
  simpa using this
theorem rrK_len {n : Nat} {l : Lin} {k : Nat} (h4 : n ≤ 4) : (rrK n l k).length ≤ k * 16 := by
  unfold rrK
  have := flatMap_len (m := 16) (f := fun a => rr1 n l a n) (List.range k) fun a _ => by
    have := rr1_len (n := n) (l := l) (k := a) (j := n)
    have : n * n ≤ 4 * 4 := Nat.mul_le_mul h4 h4
    omega
  simpa using this
theorem rrI_len {n : Nat} {l : Lin} {k j i : Nat} (h4 : n ≤ 4) (hk : k ≤ 2) (hj : j ≤ n) (hi : i ≤ n) : (rrI n l k j i).length ≤ 60 := by
  unfold rrI rrJ
  rw [List.length_append, List.length_append]
  have h1 := rrK_len (n := n) (l := l) (k := k) h4
  have h2 := rr1_len (n := n) (l := l) (k := k) (j := j)
  have h3 := rr2_len (n := n) (l := l) (k := k) (j := j) (i := i)
  have : j * n ≤ 4 * 4 := Nat.mul_le_mul (by omega) h4
  omega
theorem rReadings_ok (bv : Value) (b : BookD) (l : Lin) (n : Nat) (D : Data) (hb : BookIs D bv b) (hn : b.chairs = (n : Int)) (h4 : n ≤ 4) : Fn Try.prog 39 #[bv, linV l] D (fun D' v => Sl D' RLin 3 v (rrK n l 2)) := by
  obtain ⟨lv, cv, rfl, hl, hc⟩ := hb
  refine enter 39 Try.func39 rfl rfl rfl rfl fun h0 => ?_
  refine C.seq ?_
  refine C.region [(false,0),(false,1),(false,2)] rfl ?_
  refine L.boxD rfl rfl rfl rfl trivial (fun q1 E1 hE1 hB1 => ?_)
  refine L.boxD rfl rfl rfl rfl trivial (fun q2 E2 hE2 hB2 => ?_)
  refine L.assign rfl rfl rfl trivial ?_
  refine L.nil ?_
  refine C.next ?_
  refine C.seq ?_
  refine C.region [(false,0)] rfl ?_
  refine L.assign rfl rfl rfl trivial ?_
  refine L.nil ?_
  refine C.next ?_
  refine C.seq ?_
  refine C.seq ?_
  refine C.region [(false,0)] rfl ?_
  refine L.assign rfl rfl rfl trivial ?_
  refine L.nil ?_
  refine C.next ?_
  refine C.block ?_
  refine C.loopR (γ := Nat × Value × Boxes) (fun g => 2 - g.1) (fun g => g.1 ≤ 2 ∧ Acc 68 3 g.2.1 (rrK n l g.1).length (linC (rrK n l g.1)) g.2.2) (fun g => [(5, g.2.1), (6, .int .i64 (1 + (g.1 : Int)))]) [(4, _), (3, _), (2, _)] (fun g => g.2.2 ++ []) (fun g => [E2, E1, D]) (0, .slice none 0 0, []) ⟨by simp, Acc.nil⟩ ⟨(by first | rfl | (show some (Value.int _ _) = some (Value.int _ _); congr 2; omega)), (by first | rfl | (show some (Value.int _ _) = some (Value.int _ _); congr 2; omega)), trivial⟩ ⟨rfl, rfl, rfl, trivial⟩ (List.Sublist.refl _) (ds_same) ?_
  rintro ⟨k, v, ν⟩ ⟨h1, ha1⟩
  simp only at h1 ha1
  refine C.seq ?_
  refine C.seq ?_
  refine C.region [(false,0),(false,1)] rfl ?_
  refine L.move rfl rfl rfl trivial ?_
  refine L.leq rfl rfl rfl rfl trivial ?_
  refine L.nil ?_
  refine C.next ?_
  refine C.condD rfl (fun hc1 => ?_) (fun hc1 => ?_)
  · simp only at hc1
    refine C.skip ?_
    refine C.next ?_
    refine C.seq ?_
    refine C.block ?_
    refine C.seq ?_
    refine C.region [(false,0)] rfl ?_
    refine L.assign rfl rfl rfl trivial ?_
    refine L.nil ?_
    refine C.next ?_
    refine C.block ?_
    refine C.loopR (γ := Nat × Value × Boxes) (fun g => n - g.1) (fun g => g.1 ≤ n ∧ Acc 68 3 g.2.1 (rrJ n l k g.1).length (linC (rrJ n l k g.1)) g.2.2) (fun g => [(5, g.2.1), (7, .int .i64 (g.1 : Int))]) [(10, _), (9, _), (6, _), (4, _), (3, _), (2, _)] (fun g => g.2.2 ++ []) (fun g => [E2, E1, D]) (0, v, ν) ⟨by simp, by rw [rrJ_zero]; exact ha1⟩ ⟨(by first | rfl | (show some (Value.int _ _) = some (Value.int _ _); congr 2; omega)), (by first | rfl | (show some (Value.int _ _) = some (Value.int _ _); congr 2; omega)), trivial⟩ ⟨rfl, rfl, rfl, rfl, rfl, rfl, trivial⟩ (List.Sublist.refl _) (ds_same) ?_
    rintro ⟨j, w, ν2⟩ ⟨h2, haJ⟩
    simp only at h2 haJ
    refine C.seq ?_
    refine C.seq ?_
    refine C.region [(false,0),(false,1),(false,2),(false,3)] rfl ?_
    refine L.move rfl rfl rfl trivial ?_
    refine L.fieldAddr rfl Tf.f25_0 rfl rfl trivial ?_
    refine L.loadD1 rfl (k := 0) Tf.a3 rfl hB1 (by first | simp | assumption) rfl List.not_mem_nil rfl trivial ?_
    refine L.lss rfl rfl rfl rfl trivial ?_
    refine L.nil ?_
    refine C.next ?_
    refine C.condD rfl (fun hc2 => ?_) (fun hc2 => ?_)
    · simp only at hc2
      refine C.skip ?_
      refine C.next ?_
      refine C.seq ?_
      refine C.block ?_
      refine C.seq ?_
      refine C.region [(false,0)] rfl ?_
      refine L.assign rfl rfl rfl trivial ?_
      refine L.nil ?_
      refine C.next ?_
      refine C.block ?_
      refine C.loopR (γ := Nat × Value × Boxes) (fun g => n - g.1) (fun g => g.1 ≤ n ∧ Acc 68 3 g.2.1 (rrI n l k j g.1).length (linC (rrI n l k j g.1)) g.2.2) (fun g => [(5, g.2.1), (8, .int .i64 (g.1 : Int))]) [(16, _), (15, _), (14, _), (13, _), (7, _), (10, _), (9, _), (6, _), (4, _), (3, _), (2, _)] (fun g => g.2.2 ++ []) (fun g => [E2, E1, D]) (0, w, ν2) ⟨by simp, by rw [rrI_zero]; exact haJ⟩ ⟨(by first | rfl | (show some (Value.int _ _) = some (Value.int _ _); congr 2; omega)), (by first | rfl | (show some (Value.int _ _) = some (Value.int _ _); congr 2; omega)), trivial⟩ ⟨rfl, rfl, rfl, rfl, rfl, rfl, rfl, rfl, rfl, rfl, rfl, trivial⟩ (List.Sublist.refl _) (ds_same) ?_
      rintro ⟨i, u, ν3⟩ ⟨h3, haI⟩
      simp only at h3 haI
      refine C.seq ?_
      refine C.seq ?_
      refine C.region [(false,0),(false,1),(false,2),(false,3)] rfl ?_
      refine L.move rfl rfl rfl trivial ?_
      refine L.fieldAddr rfl Tf.f25_0 rfl rfl trivial ?_
      refine L.loadD1 rfl (k := 0) Tf.a3 rfl hB1 (by first | simp | assumption) rfl List.not_mem_nil rfl trivial ?_
      refine L.lss rfl rfl rfl rfl trivial ?_
      refine L.nil ?_
      refine C.next ?_
      refine C.condD rfl (fun hc3 => ?_) (fun hc3 => ?_)
      · simp only at hc3
        refine C.skip ?_
        refine C.next ?_
        refine C.seq ?_
        refine C.block ?_
        refine C.seq ?_
        refine C.region [(false,0),(false,1),(false,2),(false,3),(false,4),(false,5)] rfl ?_
        refine L.loadDW rfl Tf.a68 rfl hB2 (by first | simp | assumption) Tf.s68 List.not_mem_nil rfl trivial ?_
        refine L.move rfl rfl rfl trivial ?_
        refine L.move rfl rfl rfl trivial ?_
        refine L.move rfl rfl rfl trivial ?_
        refine L.build (cs := [.int .i64 (1 + (k : Int)), .int .i64 (j : Int), .int .i64 (i : Int)]) rfl Tf.p68 Tf.z68 rfl rfl rfl trivial ?_
        refine L.callV rfl rfl rfl (fun D1 hD1 => rAgrees_ok l (⟨1 + (k : Int), (j : Int), (i : Int)⟩ : Lin) _) rfl trivial ?_
        refine L.nil ?_
        refine C.next ?_
        refine C.cond rfl (fun hc4 => ?_) (fun hc4 => ?_)
        · have hag : agreesB l (⟨1 + (k : Int), (j : Int), (i : Int)⟩ : Lin) = true := hc4
          refine C.region [(false,0),(false,1),(false,2),(false,3),(false,4),(false,5),(false,6),(false,7)] rfl ?_
          refine L.move rfl rfl rfl trivial ?_
          refine L.move rfl rfl rfl trivial ?_
          refine L.move rfl rfl rfl trivial ?_
          refine L.move rfl rfl rfl trivial ?_
          refine L.build (cs := [.int .i64 (1 + (k : Int)), .int .i64 (j : Int), .int .i64 (i : Int)]) rfl Tf.p68 Tf.z68 rfl rfl rfl trivial ?_
          refine L.buildSlice rfl Try.underlying22 Tf.s68 Tf.z68 rfl rfl rfl rfl (.cons rfl rfl .nil) rfl trivial (fun b901 D901 hD901 hA901 => ?_)
          have hli := rrI_len (n := n) (l := l) (k := k) (j := j) (i := i) (by omega) (by omega) (by omega) (by omega)
          refine L.append (A := []) (B := []) rfl Try.underlying22 rfl rfl Tf.s68 Tf.z68 rfl Tf.i68 rfl rfl rfl haI (Src.lit hA901) (by simp) rfl (linC_len _) (by simp [cell1]) (by omega) (Or.inl rfl) rfl trivial (fun v7 ν7 ha7 => ?_)
          have hn7 : Acc 68 3 v7 (rrI n l k j (i + 1)).length (linC (rrI n l k j (i + 1))) ν7 := by rw [rrI_yes hag]; simpa [linC] using ha7
          refine L.assign rfl rfl rfl trivial ?_
          refine L.nil ?_
          refine C.blockEnd ?_
          refine C.next ?_
          refine C.region [(false,0),(false,1),(false,2)] rfl ?_
          refine L.move rfl rfl rfl trivial ?_
          refine L.add rfl rfl rfl (by simp only [inK]; omega) rfl trivial ?_
          refine L.assign rfl rfl rfl trivial ?_
          refine L.nil ?_
          exact C.againR 23 (i + 1, v7, ν7) ⟨by simp only; omega, hn7⟩ (by simp only; omega) ⟨(by first | rfl | (show some (Value.int _ _) = some (Value.int _ _); congr 2; omega)), (by first | rfl | (show some (Value.int _ _) = some (Value.int _ _); congr 2; omega)), trivial⟩ rfl rfl (List.Sublist.refl _) (fun D h => ⟨D, List.Mem.tail _ (h), Le.refl D⟩)
        · have hag : agreesB l (⟨1 + (k : Int), (j : Int), (i : Int)⟩ : Lin) = false := hc4
          refine C.skip ?_
          refine C.blockEnd ?_
          refine C.next ?_
          refine C.region [(false,0),(false,1),(false,2)] rfl ?_
          refine L.move rfl rfl rfl trivial ?_
          refine L.add rfl rfl rfl (by simp only [inK]; omega) rfl trivial ?_
          refine L.assign rfl rfl rfl trivial ?_
          refine L.nil ?_
          exact C.againR 15 (i + 1, u, ν3) ⟨by simp only; omega, by simp only; rw [rrI_no hag]; exact haI⟩ (by simp only; omega) ⟨(by first | rfl | (show some (Value.int _ _) = some (Value.int _ _); congr 2; omega)), (by first | rfl | (show some (Value.int _ _) = some (Value.int _ _); congr 2; omega)), trivial⟩ rfl rfl (List.Sublist.refl _) (ds_same)
      · have hi : i = n := by simp only at hc3; omega
        rw [hi, rrI_all] at haI
        refine C.exit ?_
        refine C.thenExit ?_
        refine C.thenExit ?_
        refine C.blockExit ?_
        refine C.blockEnd ?_
        refine C.next ?_
        refine C.region [(false,0),(false,1),(false,2)] rfl ?_
        refine L.move rfl rfl rfl trivial ?_
        refine L.add rfl rfl rfl (by simp only [inK]; omega) rfl trivial ?_
        refine L.assign rfl rfl rfl trivial ?_
        refine L.nil ?_
        exact C.againR 14 (j + 1, u, ν3) ⟨by simp only; omega, haI⟩ (by simp only; omega) ⟨(by first | rfl | (show some (Value.int _ _) = some (Value.int _ _); congr 2; omega)), (by first | rfl | (show some (Value.int _ _) = some (Value.int _ _); congr 2; omega)), trivial⟩ rfl rfl (List.Sublist.refl _) (ds_same)
    · have hj : j = n := by simp only at hc2; omega
      rw [hj, rrJ_all] at haJ
      refine C.exit ?_
      refine C.thenExit ?_
      refine C.thenExit ?_
      refine C.blockExit ?_
      refine C.blockEnd ?_
      refine C.next ?_
      refine C.region [(false,0),(false,1),(false,2)] rfl ?_
      refine L.move rfl rfl rfl trivial ?_
      refine L.add rfl rfl rfl (by simp only [inK]; omega) rfl trivial ?_
      refine L.assign rfl rfl rfl trivial ?_
      refine L.nil ?_
      exact C.againR 12 (k + 1, w, ν2) ⟨by simp only; omega, haJ⟩ (by simp only; omega) ⟨rfl, (by first | rfl | (show some (Value.int _ _) = some (Value.int _ _); congr 2; push_cast; omega)), trivial⟩ rfl rfl (List.Sublist.refl _) (ds_same)
  · have hk : k = 2 := by simp only at hc1; omega
    rw [hk] at ha1
    refine C.exit ?_
    refine C.thenExit ?_
    refine C.thenExit ?_
    refine C.blockExit ?_
    refine C.next ?_
    refine C.seq ?_
    refine C.region [(false,0),(false,1)] rfl ?_
    refine L.move rfl rfl rfl trivial ?_
    refine L.assign rfl rfl rfl trivial ?_
    refine L.nil ?_
    refine C.next ?_
    refine C.ret ?_
    refine Q.freeze (A := []) (B := []) ha1 rfl (fun D2 hD2 hF => ?_)
    exact leave (vs := [_]) rfl rfl rfl ⟨rfl, trivial⟩ (fun D hD => (hF.lins rfl (by have := rrK_len (l := l) (k := 2) h4; omega)).up RLin.up (hD _ (by simp)))
end Go.Fs
namespace Go.Fs
open Go.Proofs
open C3
def manyR (n : Nat) (ls : List Lin) : Int := ls.foldl (fun (m : Int) l => min 5000 (m * ((rrK n l 2).length : Int))) 1
theorem manyR_step {n : Nat} {ls : List Lin} {i : Nat} {x : Lin} (hx : ls[i]? = some x) : manyR n (ls.take (i + 1)) = min 5000 (manyR n (ls.take i) * ((rrK n x 2).length : Int)) := by
  unfold manyR; rw [List.take_add_one, hx, Option.toList_some, List.foldl_append]; rfl
theorem manyR_le (n : Nat) (ls : List Lin) : 0 ≤ manyR n ls ∧ manyR n ls ≤ 5000 := by
  unfold manyR
  have key : ∀ (l : List Lin) (m : Int), 0 ≤ m ∧ m ≤ 5000 → 0 ≤ l.foldl (fun (m : Int) l => min 5000 (m * ((rrK n l 2).length : Int))) m ∧ l.foldl (fun (m : Int) l => min 5000 (m * ((rrK n l 2).length : Int))) m ≤ 5000 := by
    intro l
    induction l with
    | nil => intro m h; exact h
    | cons x l ih =>
      intro m h
      rw [List.foldl_cons]
      refine ih _ ⟨?_, by omega⟩
      have : 0 ≤ m * ((rrK n x 2).length : Int) := Int.mul_nonneg h.1 (by omega)
      omega
  exact key ls 1 (by omega)
theorem mulR_in {m : Int} {k : Nat} (h : 0 ≤ m ∧ m ≤ 5000) (hk : k ≤ 2 * 16) : inK .i64 (m * (k : Int)) := by
  have h1 : 0 ≤ m * (k : Int) := Int.mul_nonneg h.1 (by omega)
  have h2 : m * (k : Int) ≤ 5000 * 32 := Int.mul_le_mul h.2 (by omega) (by omega) (by omega)
  simp only [inK]; omega
theorem rMany_ok (bv : Value) (b : BookD) (n : Nat) (D : Data) (hb : BookIs D bv b) (hn : b.chairs = (n : Int)) (h4 : n ≤ 4) : Fn Try.prog 21 #[bv] D (fun _ v => v = .int .i64 (manyR n b.lines)) := by
  have hb0 := hb
  obtain ⟨lv, cv, rfl, hl, hc⟩ := hb
  have hll := hl.len
  refine enter 24 Try.func21 rfl rfl rfl rfl fun h0 => ?_
  refine C.seq ?_
  refine C.region [(false,0),(false,1)] rfl ?_
  refine L.boxD rfl rfl rfl rfl trivial (fun q1 E1 hE1 hB1 => ?_)
  refine L.assign rfl rfl rfl trivial ?_
  refine L.nil ?_
  refine C.next ?_
  refine C.seq ?_
  refine C.region [(false,0)] rfl ?_
  refine L.assign rfl rfl rfl trivial ?_
  refine L.nil ?_
  refine C.next ?_
  refine C.seq ?_
  refine C.seq ?_
  refine C.region [(false,0)] rfl ?_
  refine L.assign rfl rfl rfl trivial ?_
  refine L.nil ?_
  refine C.next ?_
  refine C.block ?_
  refine C.loopC (γ := Nat) (fun k => b.lines.length - k) (fun k => k ≤ b.lines.length) (fun k => [(4, .int .i64 (k : Int)), (3, .int .i64 (manyR n (b.lines.take k)))]) [(2, _), (1, _)] (fun k => [E1, D]) 0 (by omega) ⟨(by first | rfl | (show some (Value.int _ _) = some (Value.int _ _); congr 2; omega)), (by first | rfl | (show some (Value.int _ _) = some (Value.int _ _); congr 2; omega)), trivial⟩ ⟨rfl, rfl, trivial⟩ (ds_same) ?_
  rintro k h1
  refine C.seq ?_
  refine C.seq ?_
  refine C.region [(false,0),(false,1),(false,2),(false,3),(false,4)] rfl ?_
  refine L.move rfl rfl rfl trivial ?_
  refine L.fieldAddr rfl Tf.f25_3 rfl rfl trivial ?_
  refine L.loadD1 rfl (k := 3) Tf.a22 rfl hB1 (by first | simp | assumption) rfl List.not_mem_nil rfl trivial ?_
  refine L.len rfl Try.underlying22 rfl hl rfl rfl trivial ?_
  refine L.lss rfl rfl rfl rfl trivial ?_
  refine L.nil ?_
  refine C.next ?_
  refine C.condD rfl (fun hc1 => ?_) (fun hc1 => ?_)
  · have hk : k < b.lines.length := by omega
    obtain ⟨x, hx⟩ : ∃ x, b.lines[k]? = some x := ⟨_, List.getElem?_eq_getElem hk⟩
    refine C.skip ?_
    refine C.next ?_
    refine C.seq ?_
    refine C.block ?_
    refine C.draw [] 7 [0,1,2,3,4,5,6,7,8,9,10,11] [false,true,true,true,true,true,true,true,true,false,false,false] [(false,0),(true,1),(true,2),(true,3),(true,4),(true,5),(true,6),(true,7),(true,8),(false,9),(false,10),(false,11)] Tf.follows (fun _ _ _ h => np_body (P := Try.prog) (fn := Try.f21) _ _ _ h) (by kernel_rfl) rfl ?_
    refine L.move rfl rfl rfl trivial ?_
    refine L.loadDW rfl Tf.a25 rfl hB1 (by first | simp | assumption) Tf.s25 List.not_mem_nil rfl trivial ?_
    refine L.fieldAddr rfl Tf.f25_3 rfl rfl trivial ?_
    refine L.loadD1 rfl (k := 3) Tf.a22 rfl hB1 (by first | simp | assumption) rfl List.not_mem_nil rfl trivial ?_
    refine L.move rfl rfl rfl trivial ?_
    refine L.indexS rfl Try.underlying22 Tf.s68 rfl hl rfl (by omega) hx rfl trivial (fun b1 o1 cs1 hr1 hcl1 hA1 => ?_)
    obtain rfl : cs1 = [.int .i64 _, .int .i64 _, .int .i64 _] := hr1
    refine L.loadDW rfl Tf.a68 rfl hA1 (by first | simp | assumption) Tf.s68 List.not_mem_nil rfl trivial ?_
    refine L.call rfl rfl rfl (fun D1 hD1 => rReadings_ok _ b x n _ (hb0.up (hD1 _ (by simp))) hn h4) rfl trivial (fun v1 D1 hD1 hp1 => ?_)
    have hr := hp1
    have hrl := rrK_len (l := x) (k := 2) h4
    have hmk := manyR_le n (b.lines.take k)
    refine L.len rfl Try.underlying22 rfl hr rfl rfl trivial ?_
    refine L.mul rfl rfl rfl (mulR_in hmk hrl) rfl trivial ?_
    refine L.min2 rfl rfl rfl rfl trivial ?_
    refine L.assign rfl rfl rfl trivial ?_
    refine L.nil ?_
    refine C.blockEnd ?_
    refine C.next ?_
    refine C.region [(false,0),(false,1),(false,2)] rfl ?_
    refine L.move rfl rfl rfl trivial ?_
    refine L.add rfl rfl rfl (by simp only [inK]; omega) rfl trivial ?_
    refine L.assign rfl rfl rfl trivial ?_
    refine L.nil ?_
    exact C.againR 22 (k + 1) (by omega) (by omega) ⟨(by first | rfl | (show some (Value.int _ _) = some (Value.int _ _); congr 2; omega)), (by rw [manyR_step hx]; rfl), trivial⟩ rfl rfl (List.Sublist.refl _) (fun D h => ⟨D, List.Mem.tail _ (h), Le.refl D⟩)
  · obtain rfl : k = b.lines.length := by omega
    rw [List.take_length]
    refine C.exit ?_
    refine C.thenExit ?_
    refine C.thenExit ?_
    refine C.blockExit ?_
    refine C.next ?_
    refine C.seq ?_
    refine C.region [(false,0),(false,1)] rfl ?_
    refine L.move rfl rfl rfl trivial ?_
    refine L.assign rfl rfl rfl trivial ?_
    refine L.nil ?_
    refine C.next ?_
    refine C.ret ?_
    exact leave (vs := [_]) rfl rfl rfl ⟨rfl, trivial⟩ (fun D hD => rfl)
end Go.Fs
