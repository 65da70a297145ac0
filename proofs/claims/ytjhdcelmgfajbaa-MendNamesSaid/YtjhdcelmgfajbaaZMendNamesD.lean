/- Of the proof of MendNames: W1, W2, W3, W4. -/
import Derived.Test.YtjhdcelmgfajbaaZMendNamesC
namespace Go.Fs
open Go.Proofs
open C7
theorem idxOf_at {α : Type} {p : α → Bool} {xs : List α} {k : Nat} {x : α} (hx : xs[k]? = some x) (h : (xs.take k).any p = false) (hp : p x = true) : idxOf p xs = k := by
  have hk := (List.getElem?_eq_some_iff.1 hx).1
  have he := (List.getElem?_eq_some_iff.1 hx).2
  have h1 : xs.any p = true := List.any_eq_true.2 ⟨x, List.mem_of_getElem? hx, hp⟩
  have h2 : xs.findIdx p = k := by
    rw [List.findIdx_eq hk]
    refine ⟨by rw [he]; exact hp, fun j hj => ?_⟩
    have := List.any_eq_false.1 h (xs[j]'(by omega)) (by
      rw [List.mem_take_iff_getElem]; exact ⟨j, by omega, rfl⟩)
    simpa using this
  simp [idxOf, h1, h2]
theorem idxOf_none {α : Type} {p : α → Bool} {xs : List α} (h : xs.any p = false) : idxOf p xs = -1 := by simp [idxOf, h]
theorem idxOf_ge {α : Type} {p : α → Bool} {xs : List α} : decide (0 ≤ idxOf p xs) = xs.any p := by
  unfold idxOf; cases h : xs.any p <;> simp
theorem all_any {α : Type} {p : α → Bool} {xs : List α} : (!xs.any fun x => !p x) = xs.all p := by
  rw [List.all_eq_not_any_not]
theorem within_ok (n lo hi : Int) (D : Data) : Fn Try.prog 84 #[.int .i64 n, .int .i64 lo, .int .i64 hi] D (fun _ v => v = .bool (inB n lo hi)) := by
  refine enter 15 Try.func84 rfl rfl rfl rfl fun h0 => ?_
  refine C.seq ?_
  refine C.region [(false,0)] rfl ?_
  refine L.assign rfl rfl rfl trivial ?_
  refine L.nil ?_
  refine C.next ?_
  refine C.seq ?_
  refine C.region [(false,0),(false,1),(false,2),(false,3),(false,4),(false,5),(false,6),(false,7),(false,8)] rfl ?_
  refine L.move rfl rfl rfl trivial ?_
  refine L.move rfl rfl rfl trivial ?_
  refine L.leq rfl rfl rfl rfl trivial ?_
  refine L.move rfl rfl rfl trivial ?_
  refine' L.and [(false,4),(false,5),(false,6),(false,7)] [(false,8)] (s := 10) (p := 14) rfl rfl (fun hg1 => ?_) (fun hg1 => ?_) ?_
  rotate_left
  · refine L.move rfl rfl rfl ⟨_, rfl, rfl⟩ ?_
    refine L.move rfl rfl rfl ⟨_, rfl, rfl⟩ ?_
    refine L.leq rfl rfl rfl rfl ⟨_, rfl, rfl⟩ ?_
    refine L.pickT rfl rfl rfl rfl trivial ?_
    exact L.nil fun a w hh => hh.cutK 3 rfl
  · refine L.pass rfl rfl rfl ⟨_, _, rfl, rfl, rfl⟩ ?_
    refine L.pass rfl rfl rfl ⟨_, _, rfl, rfl, rfl⟩ ?_
    refine L.pass rfl rfl rfl ⟨_, _, rfl, rfl, rfl⟩ ?_
    refine L.pickF rfl rfl rfl rfl trivial ?_
    exact L.nil fun a w hh => hh.cutK 3 rfl
  refine L.assign rfl rfl rfl trivial ?_
  refine L.nil ?_
  refine C.next ?_
  refine C.ret ?_
  exact leave (vs := [_]) rfl rfl rfl ⟨rfl, trivial⟩ (fun D hD => rfl)
theorem IndexFuncI_ok (sv fv : Value) (xs : List Int) (p : Int → Bool) (D : Data) (hS : Sl D RI 1 sv xs) (hp : PredOK Try.prog D iV fv p) :
    Fn Try.prog 131 #[sv, fv] D (fun _ v => v = .int .i64 (idxOf p xs)) := by
  have hl := hS.len
  obtain ⟨f, c1, c2, rfl, hf⟩ := hp
  refine enter 19 Try.func131 rfl rfl rfl rfl fun h0 => ?_
  refine C.seq ?_
  refine C.region [(false,0)] rfl ?_
  refine L.assign rfl rfl rfl trivial ?_
  refine L.nil ?_
  refine C.next ?_
  refine C.seq ?_
  refine C.seq ?_
  refine C.region [(false,0),(false,1),(false,2)] rfl ?_
  refine L.move rfl rfl rfl trivial ?_
  refine L.len rfl Try.underlying52 rfl (by assumption) rfl rfl trivial ?_
  refine L.move rfl rfl rfl trivial ?_
  refine L.nil ?_
  refine C.next ?_
  refine C.block ?_
  refine C.loopC (γ := Nat) (fun k => xs.length - k) (fun k => k ≤ xs.length ∧ (xs.take k).any p = false) (fun k => [(8, .int .i64 k)]) [(7, _), (4, _), (0, _), (1, _)] (fun k => [D]) 0 (by simp) ⟨(by first | rfl | (show some (Value.int _ _) = some (Value.int _ _); congr 2; omega)), trivial⟩ ⟨rfl, rfl, rfl, rfl, trivial⟩ (ds_same) ?_
  rintro k ⟨h1, h2⟩
  refine C.seq ?_
  refine C.region [(false,0)] rfl ?_
  refine L.lss rfl rfl rfl rfl trivial ?_
  refine L.nil ?_
  refine C.next ?_
  refine C.seq ?_
  refine C.condD rfl (fun hc1 => ?_) (fun hc1 => ?_)
  · have hk : k < xs.length := by omega
    obtain ⟨x, hx⟩ : ∃ x, xs[k]? = some x := ⟨_, List.getElem?_eq_getElem hk⟩
    refine C.skip ?_
    refine C.next ?_
    refine C.seq ?_
    refine C.block ?_
    refine C.seq ?_
    refine C.region [(false,0),(false,1)] rfl ?_
    refine L.move rfl rfl rfl trivial ?_
    refine L.assign rfl rfl rfl trivial ?_
    refine L.nil ?_
    refine C.next ?_
    refine C.seq ?_
    refine C.region [(false,0),(false,1),(false,2),(false,3),(false,4),(false,5)] rfl ?_
    refine L.move rfl rfl rfl trivial ?_
    refine L.move rfl rfl rfl trivial ?_
    refine L.move rfl rfl rfl trivial ?_
    refine L.indexS rfl Try.underlying52 Tf.s3 rfl (by assumption) rfl (by omega) (by assumption) rfl trivial (fun b1 o1 cs1 hr1 hcl1 hA1 => ?_)
    obtain rfl : cs1 = [.int .i64 _] := hr1
    refine L.loadD1 rfl (k := 0) Tf.a3 rfl hA1 (by first | simp | assumption) rfl List.not_mem_nil rfl trivial ?_
    refine L.callV rfl rfl rfl (fun D1 hD1 => hf x _ (hD1 _ (by simp))) rfl trivial ?_
    refine L.nil ?_
    refine C.next ?_
    refine C.cond rfl (fun hc2 => ?_) (fun hc2 => ?_)
    · refine C.seq ?_
      refine C.region [(false,0),(false,1)] rfl ?_
      refine L.move rfl rfl rfl trivial ?_
      refine L.assign rfl rfl rfl trivial ?_
      refine L.nil ?_
      refine C.next ?_
      refine C.ret ?_
      refine C.blockRet ?_
      refine C.thenRet ?_
      refine C.thenRet ?_
      refine C.blockRet ?_
      refine C.thenRet ?_
      exact leave (vs := [_]) rfl rfl rfl ⟨rfl, trivial⟩ (fun D hD => by show Value.int _ _ = _; rw [idxOf_at hx h2 hc2])
    · refine C.skip ?_
      refine C.blockEnd ?_
      refine C.next ?_
      refine C.region [(false,0),(false,1)] rfl ?_
      refine L.add rfl rfl rfl (by simp only [inK]; omega) rfl trivial ?_
      refine L.move rfl rfl rfl trivial ?_
      refine L.nil ?_
      have hpx : p x = false := hc2
      have h3 : (xs.take (k + 1)).any p = false := by rw [List.take_add_one, hx, List.any_append, h2]; simp [hpx]
      exact C.againR 12 (k + 1) ⟨by omega, h3⟩ (by omega) ⟨(by first | rfl | (show some (Value.int _ _) = some (Value.int _ _); congr 2; omega)), trivial⟩ rfl rfl (List.Sublist.refl _) (ds_same)
  · refine C.exit ?_
    refine C.thenExit ?_
    refine C.thenExit ?_
    refine C.blockExit ?_
    refine C.next ?_
    refine C.seq ?_
    refine C.region [(false,0)] rfl ?_
    refine L.assign rfl rfl rfl trivial ?_
    refine L.nil ?_
    refine C.next ?_
    refine C.ret ?_
    exact leave (vs := [_]) rfl rfl rfl ⟨rfl, trivial⟩ (fun D hD => by show Value.int _ _ = _; rw [idxOf_none (by rwa [List.take_of_length_le (by omega)] at h2)])
theorem ContainsFuncI_ok (sv fv : Value) (xs : List Int) (p : Int → Bool) (D : Data) (hS : Sl D RI 1 sv xs) (hp : PredOK Try.prog D iV fv p) :
    Fn Try.prog 129 #[sv, fv] D (fun _ v => v = .bool (xs.any p)) := by
  refine enter 9 Try.func129 rfl rfl rfl rfl fun h0 => ?_
  refine C.seq ?_
  refine C.region [(false,0)] rfl ?_
  refine L.assign rfl rfl rfl trivial ?_
  refine L.nil ?_
  refine C.next ?_
  refine C.seq ?_
  refine C.region [(false,0),(false,1),(false,2),(false,3),(false,4)] rfl ?_
  refine L.move rfl rfl rfl trivial ?_
  refine L.move rfl rfl rfl trivial ?_
  refine L.callV rfl rfl rfl (fun D1 hD1 => IndexFuncI_ok _ _ xs p _ (Sl.at RI.up hD1 (by assumption) (by simp)) (hp.up (hD1 _ (by simp)))) rfl trivial ?_
  refine L.geq rfl rfl rfl rfl trivial ?_
  refine L.assign rfl rfl rfl trivial ?_
  refine L.nil ?_
  refine C.next ?_
  refine C.ret ?_
  exact leave (vs := [_]) rfl rfl rfl ⟨rfl, trivial⟩ (fun D hD => by show Value.bool (decide _) = _; rw [idxOf_ge])
theorem allI1_ok (b : Nat) (fv : Value) (p : Int → Bool) (x : Int) (D : Data) (hp : PredOK Try.prog D iV fv p) (hB : At D b 0 [fv]) :
    Fn Try.prog 130 #[iV x, .pointer (some ⟨b, 0, none⟩)] D (fun _ v => v = .bool (!p x)) := by
  obtain ⟨f, c1, c2, rfl, hf⟩ := hp
  refine enter 8 Try.func130 rfl rfl rfl rfl fun h0 => ?_
  refine C.seq ?_
  refine C.region [(false,0)] rfl ?_
  refine L.assign rfl rfl rfl trivial ?_
  refine L.nil ?_
  refine C.next ?_
  refine C.seq ?_
  refine C.region [(false,0),(false,1),(false,2),(false,3),(false,4)] rfl ?_
  refine L.loadD1 rfl (k := 0) Tf.a170 rfl hB (by first | simp | assumption) rfl List.not_mem_nil rfl trivial ?_
  refine L.move rfl rfl rfl trivial ?_
  refine L.callV rfl rfl rfl (fun D1 hD1 => hf x _ (hD1 _ (by simp))) rfl trivial ?_
  refine L.not rfl rfl rfl trivial ?_
  refine L.assign rfl rfl rfl trivial ?_
  refine L.nil ?_
  refine C.next ?_
  refine C.ret ?_
  exact leave (vs := [_]) rfl rfl rfl ⟨rfl, trivial⟩ (fun D hD => rfl)
theorem allI_ok (sv fv : Value) (xs : List Int) (p : Int → Bool) (D : Data) (hS : Sl D RI 1 sv xs) (hp : PredOK Try.prog D iV fv p) (h1 : fv.cells = #[fv]) :
    Fn Try.prog 126 #[sv, fv] D (fun _ v => v = .bool (xs.all p)) := by
  refine enter 9 Try.func126 rfl rfl rfl rfl fun h0 => ?_
  refine C.seq ?_
  refine C.region [(false,0),(false,1)] rfl ?_
  refine L.boxD (vs := [fv]) rfl rfl h1 rfl trivial (fun b D1 hD1 hB => ?_)
  refine L.assign rfl rfl rfl trivial ?_
  refine L.nil ?_
  refine C.next ?_
  refine C.seq ?_
  refine C.region [(false,0),(false,1),(false,2),(false,3),(false,4)] rfl ?_
  refine L.move rfl rfl rfl trivial ?_
  refine L.makeFunc rfl rfl rfl rfl trivial ?_
  refine L.callV rfl rfl rfl (fun D1 hD1 => ContainsFuncI_ok _ _ xs (fun x => !p x) _ (Sl.at RI.up hD1 (by assumption) (by simp)) ⟨_, [], [.pointer (some ⟨b, 0, none⟩)], rfl, fun x D2 hl => allI1_ok b fv p x D2 (hp.up ((hD1 _ (by simp)).trans hl)) (hB.up ((hD1 _ (by simp)).trans hl))⟩) rfl trivial ?_
  refine L.not rfl rfl rfl trivial ?_
  refine L.assign rfl rfl rfl trivial ?_
  refine L.nil ?_
  refine C.next ?_
  refine C.ret ?_
  exact leave (vs := [_]) rfl rfl rfl ⟨rfl, trivial⟩ (fun D hD => by show Value.bool (!_) = _; rw [all_any])
theorem IndexFuncC_ok (sv fv : Value) (xs : List Ch) (p : Ch → Bool) (D : Data) (hS : Sl D RCh 4 sv xs) (hp : PredOK Try.prog D chV fv p) :
    Fn Try.prog 125 #[sv, fv] D (fun _ v => v = .int .i64 (idxOf p xs)) := by
  have hl := hS.len
  obtain ⟨f, c1, c2, rfl, hf⟩ := hp
  refine enter 19 Try.func125 rfl rfl rfl rfl fun h0 => ?_
  refine C.seq ?_
  refine C.region [(false,0)] rfl ?_
  refine L.assign rfl rfl rfl trivial ?_
  refine L.nil ?_
  refine C.next ?_
  refine C.seq ?_
  refine C.seq ?_
  refine C.region [(false,0),(false,1),(false,2)] rfl ?_
  refine L.move rfl rfl rfl trivial ?_
  refine L.len rfl Try.underlying34 rfl (by assumption) rfl rfl trivial ?_
  refine L.move rfl rfl rfl trivial ?_
  refine L.nil ?_
  refine C.next ?_
  refine C.block ?_
  refine C.loopC (γ := Nat) (fun k => xs.length - k) (fun k => k ≤ xs.length ∧ (xs.take k).any p = false) (fun k => [(8, .int .i64 k)]) [(7, _), (4, _), (0, _), (1, _)] (fun k => [D]) 0 (by simp) ⟨(by first | rfl | (show some (Value.int _ _) = some (Value.int _ _); congr 2; omega)), trivial⟩ ⟨rfl, rfl, rfl, rfl, trivial⟩ (ds_same) ?_
  rintro k ⟨h1, h2⟩
  refine C.seq ?_
  refine C.region [(false,0)] rfl ?_
  refine L.lss rfl rfl rfl rfl trivial ?_
  refine L.nil ?_
  refine C.next ?_
  refine C.seq ?_
  refine C.condD rfl (fun hc1 => ?_) (fun hc1 => ?_)
  · have hk : k < xs.length := by omega
    obtain ⟨x, hx⟩ : ∃ x, xs[k]? = some x := ⟨_, List.getElem?_eq_getElem hk⟩
    refine C.skip ?_
    refine C.next ?_
    refine C.seq ?_
    refine C.block ?_
    refine C.seq ?_
    refine C.region [(false,0),(false,1)] rfl ?_
    refine L.move rfl rfl rfl trivial ?_
    refine L.assign rfl rfl rfl trivial ?_
    refine L.nil ?_
    refine C.next ?_
    refine C.seq ?_
    refine C.region [(false,0),(false,1),(false,2),(false,3),(false,4),(false,5)] rfl ?_
    refine L.move rfl rfl rfl trivial ?_
    refine L.move rfl rfl rfl trivial ?_
    refine L.move rfl rfl rfl trivial ?_
    refine L.indexS rfl Try.underlying34 Tf.s115 rfl (by assumption) rfl (by omega) (by assumption) rfl trivial (fun b1 o1 cs1 hr1 hcl1 hA1 => ?_)
    obtain rfl : cs1 = [.int .i64 _, .int .i64 _, .int .i64 _, .int .i64 _] := hr1
    refine L.loadDW rfl Tf.a115 rfl hA1 (by first | simp | assumption) Tf.s115 List.not_mem_nil rfl trivial ?_
    refine L.callV rfl rfl rfl (fun D1 hD1 => hf x _ (hD1 _ (by simp))) rfl trivial ?_
    refine L.nil ?_
    refine C.next ?_
    refine C.cond rfl (fun hc2 => ?_) (fun hc2 => ?_)
    · refine C.seq ?_
      refine C.region [(false,0),(false,1)] rfl ?_
      refine L.move rfl rfl rfl trivial ?_
      refine L.assign rfl rfl rfl trivial ?_
      refine L.nil ?_
      refine C.next ?_
      refine C.ret ?_
      refine C.blockRet ?_
      refine C.thenRet ?_
      refine C.thenRet ?_
      refine C.blockRet ?_
      refine C.thenRet ?_
      exact leave (vs := [_]) rfl rfl rfl ⟨rfl, trivial⟩ (fun D hD => by show Value.int _ _ = _; rw [idxOf_at hx h2 hc2])
    · refine C.skip ?_
      refine C.blockEnd ?_
      refine C.next ?_
      refine C.region [(false,0),(false,1)] rfl ?_
      refine L.add rfl rfl rfl (by simp only [inK]; omega) rfl trivial ?_
      refine L.move rfl rfl rfl trivial ?_
      refine L.nil ?_
      have hpx : p x = false := hc2
      have h3 : (xs.take (k + 1)).any p = false := by rw [List.take_add_one, hx, List.any_append, h2]; simp [hpx]
      exact C.againR 12 (k + 1) ⟨by omega, h3⟩ (by omega) ⟨(by first | rfl | (show some (Value.int _ _) = some (Value.int _ _); congr 2; omega)), trivial⟩ rfl rfl (List.Sublist.refl _) (ds_same)
  · refine C.exit ?_
    refine C.thenExit ?_
    refine C.thenExit ?_
    refine C.blockExit ?_
    refine C.next ?_
    refine C.seq ?_
    refine C.region [(false,0)] rfl ?_
    refine L.assign rfl rfl rfl trivial ?_
    refine L.nil ?_
    refine C.next ?_
    refine C.ret ?_
    exact leave (vs := [_]) rfl rfl rfl ⟨rfl, trivial⟩ (fun D hD => by show Value.int _ _ = _; rw [idxOf_none (by rwa [List.take_of_length_le (by omega)] at h2)])
theorem ContainsFuncC_ok (sv fv : Value) (xs : List Ch) (p : Ch → Bool) (D : Data) (hS : Sl D RCh 4 sv xs) (hp : PredOK Try.prog D chV fv p) :
    Fn Try.prog 116 #[sv, fv] D (fun _ v => v = .bool (xs.any p)) := by
  refine enter 9 Try.func116 rfl rfl rfl rfl fun h0 => ?_
  refine C.seq ?_
  refine C.region [(false,0)] rfl ?_
  refine L.assign rfl rfl rfl trivial ?_
  refine L.nil ?_
  refine C.next ?_
  refine C.seq ?_
  refine C.region [(false,0),(false,1),(false,2),(false,3),(false,4)] rfl ?_
  refine L.move rfl rfl rfl trivial ?_
  refine L.move rfl rfl rfl trivial ?_
  refine L.callV rfl rfl rfl (fun D1 hD1 => IndexFuncC_ok _ _ xs p _ (Sl.at RCh.up hD1 (by assumption) (by simp)) (hp.up (hD1 _ (by simp)))) rfl trivial ?_
  refine L.geq rfl rfl rfl rfl trivial ?_
  refine L.assign rfl rfl rfl trivial ?_
  refine L.nil ?_
  refine C.next ?_
  refine C.ret ?_
  exact leave (vs := [_]) rfl rfl rfl ⟨rfl, trivial⟩ (fun D hD => by show Value.bool (decide _) = _; rw [idxOf_ge])
theorem allC1_ok (b : Nat) (fv : Value) (p : Ch → Bool) (x : Ch) (D : Data) (hp : PredOK Try.prog D chV fv p) (hB : At D b 0 [fv]) :
    Fn Try.prog 117 #[chV x, .pointer (some ⟨b, 0, none⟩)] D (fun _ v => v = .bool (!p x)) := by
  obtain ⟨f, c1, c2, rfl, hf⟩ := hp
  refine enter 8 Try.func117 rfl rfl rfl rfl fun h0 => ?_
  refine C.seq ?_
  refine C.region [(false,0),(false,1)] rfl ?_
  refine L.boxD rfl rfl rfl rfl trivial (fun q1 E1 hE1 hB1 => ?_)
  refine L.assign rfl rfl rfl trivial ?_
  refine L.nil ?_
  refine C.next ?_
  refine C.seq ?_
  refine C.region [(false,0),(false,1),(false,2),(false,3),(false,4)] rfl ?_
  refine L.loadD1 rfl (k := 0) Tf.a158 rfl hB (by first | simp | assumption) rfl List.not_mem_nil rfl trivial ?_
  refine L.loadDW rfl Tf.a115 rfl hB1 (by first | simp | assumption) Tf.s115 List.not_mem_nil rfl trivial ?_
  refine L.callV rfl rfl rfl (fun D1 hD1 => hf x _ (hD1 _ (by simp))) rfl trivial ?_
  refine L.not rfl rfl rfl trivial ?_
  refine L.assign rfl rfl rfl trivial ?_
  refine L.nil ?_
  refine C.next ?_
  refine C.ret ?_
  exact leave (vs := [_]) rfl rfl rfl ⟨rfl, trivial⟩ (fun D hD => rfl)
theorem allC_ok (sv fv : Value) (xs : List Ch) (p : Ch → Bool) (D : Data) (hS : Sl D RCh 4 sv xs) (hp : PredOK Try.prog D chV fv p) (h1 : fv.cells = #[fv]) :
    Fn Try.prog 103 #[sv, fv] D (fun _ v => v = .bool (xs.all p)) := by
  refine enter 9 Try.func103 rfl rfl rfl rfl fun h0 => ?_
  refine C.seq ?_
  refine C.region [(false,0),(false,1)] rfl ?_
  refine L.boxD (vs := [fv]) rfl rfl h1 rfl trivial (fun b D1 hD1 hB => ?_)
  refine L.assign rfl rfl rfl trivial ?_
  refine L.nil ?_
  refine C.next ?_
  refine C.seq ?_
  refine C.region [(false,0),(false,1),(false,2),(false,3),(false,4)] rfl ?_
  refine L.move rfl rfl rfl trivial ?_
  refine L.makeFunc rfl rfl rfl rfl trivial ?_
  refine L.callV rfl rfl rfl (fun D1 hD1 => ContainsFuncC_ok _ _ xs (fun x => !p x) _ (Sl.at RCh.up hD1 (by assumption) (by simp)) ⟨_, [], [.pointer (some ⟨b, 0, none⟩)], rfl, fun x D2 hl => allC1_ok b fv p x D2 (hp.up ((hD1 _ (by simp)).trans hl)) (hB.up ((hD1 _ (by simp)).trans hl))⟩) rfl trivial ?_
  refine L.not rfl rfl rfl trivial ?_
  refine L.assign rfl rfl rfl trivial ?_
  refine L.nil ?_
  refine C.next ?_
  refine C.ret ?_
  exact leave (vs := [_]) rfl rfl rfl ⟨rfl, trivial⟩ (fun D hD => by show Value.bool (!_) = _; rw [all_any])
theorem IndexFuncR_ok (sv fv : Value) (xs : List (Int × Int)) (p : (Int × Int) → Bool) (D : Data) (hS : Sl D R2 2 sv xs) (hp : PredOK Try.prog D k2V fv p) :
    Fn Try.prog 128 #[sv, fv] D (fun _ v => v = .int .i64 (idxOf p xs)) := by
  have hl := hS.len
  obtain ⟨f, c1, c2, rfl, hf⟩ := hp
  refine enter 19 Try.func128 rfl rfl rfl rfl fun h0 => ?_
  refine C.seq ?_
  refine C.region [(false,0)] rfl ?_
  refine L.assign rfl rfl rfl trivial ?_
  refine L.nil ?_
  refine C.next ?_
  refine C.seq ?_
  refine C.seq ?_
  refine C.region [(false,0),(false,1),(false,2)] rfl ?_
  refine L.move rfl rfl rfl trivial ?_
  refine L.len rfl Try.underlying35 rfl (by assumption) rfl rfl trivial ?_
  refine L.move rfl rfl rfl trivial ?_
  refine L.nil ?_
  refine C.next ?_
  refine C.block ?_
  refine C.loopC (γ := Nat) (fun k => xs.length - k) (fun k => k ≤ xs.length ∧ (xs.take k).any p = false) (fun k => [(8, .int .i64 k)]) [(7, _), (4, _), (0, _), (1, _)] (fun k => [D]) 0 (by simp) ⟨(by first | rfl | (show some (Value.int _ _) = some (Value.int _ _); congr 2; omega)), trivial⟩ ⟨rfl, rfl, rfl, rfl, trivial⟩ (ds_same) ?_
  rintro k ⟨h1, h2⟩
  refine C.seq ?_
  refine C.region [(false,0)] rfl ?_
  refine L.lss rfl rfl rfl rfl trivial ?_
  refine L.nil ?_
  refine C.next ?_
  refine C.seq ?_
  refine C.condD rfl (fun hc1 => ?_) (fun hc1 => ?_)
  · have hk : k < xs.length := by omega
    obtain ⟨x, hx⟩ : ∃ x, xs[k]? = some x := ⟨_, List.getElem?_eq_getElem hk⟩
    refine C.skip ?_
    refine C.next ?_
    refine C.seq ?_
    refine C.block ?_
    refine C.seq ?_
    refine C.region [(false,0),(false,1)] rfl ?_
    refine L.move rfl rfl rfl trivial ?_
    refine L.assign rfl rfl rfl trivial ?_
    refine L.nil ?_
    refine C.next ?_
    refine C.seq ?_
    refine C.region [(false,0),(false,1),(false,2),(false,3),(false,4),(false,5)] rfl ?_
    refine L.move rfl rfl rfl trivial ?_
    refine L.move rfl rfl rfl trivial ?_
    refine L.move rfl rfl rfl trivial ?_
    refine L.indexS rfl Try.underlying35 Tf.s61 rfl (by assumption) rfl (by omega) (by assumption) rfl trivial (fun b1 o1 cs1 hr1 hcl1 hA1 => ?_)
    obtain rfl : cs1 = [.int .i64 _, .int .i64 _] := hr1
    refine L.loadDW rfl Tf.a61 rfl hA1 (by first | simp | assumption) Tf.s61 List.not_mem_nil rfl trivial ?_
    refine L.callV rfl rfl rfl (fun D1 hD1 => hf x _ (hD1 _ (by simp))) rfl trivial ?_
    refine L.nil ?_
    refine C.next ?_
    refine C.cond rfl (fun hc2 => ?_) (fun hc2 => ?_)
    · refine C.seq ?_
      refine C.region [(false,0),(false,1)] rfl ?_
      refine L.move rfl rfl rfl trivial ?_
      refine L.assign rfl rfl rfl trivial ?_
      refine L.nil ?_
      refine C.next ?_
      refine C.ret ?_
      refine C.blockRet ?_
      refine C.thenRet ?_
      refine C.thenRet ?_
      refine C.blockRet ?_
      refine C.thenRet ?_
      exact leave (vs := [_]) rfl rfl rfl ⟨rfl, trivial⟩ (fun D hD => by show Value.int _ _ = _; rw [idxOf_at hx h2 hc2])
    · refine C.skip ?_
      refine C.blockEnd ?_
      refine C.next ?_
      refine C.region [(false,0),(false,1)] rfl ?_
      refine L.add rfl rfl rfl (by simp only [inK]; omega) rfl trivial ?_
      refine L.move rfl rfl rfl trivial ?_
      refine L.nil ?_
      have hpx : p x = false := hc2
      have h3 : (xs.take (k + 1)).any p = false := by rw [List.take_add_one, hx, List.any_append, h2]; simp [hpx]
      exact C.againR 12 (k + 1) ⟨by omega, h3⟩ (by omega) ⟨(by first | rfl | (show some (Value.int _ _) = some (Value.int _ _); congr 2; omega)), trivial⟩ rfl rfl (List.Sublist.refl _) (ds_same)
  · refine C.exit ?_
    refine C.thenExit ?_
    refine C.thenExit ?_
    refine C.blockExit ?_
    refine C.next ?_
    refine C.seq ?_
    refine C.region [(false,0)] rfl ?_
    refine L.assign rfl rfl rfl trivial ?_
    refine L.nil ?_
    refine C.next ?_
    refine C.ret ?_
    exact leave (vs := [_]) rfl rfl rfl ⟨rfl, trivial⟩ (fun D hD => by show Value.int _ _ = _; rw [idxOf_none (by rwa [List.take_of_length_le (by omega)] at h2)])
theorem ContainsFuncR_ok (sv fv : Value) (xs : List (Int × Int)) (p : (Int × Int) → Bool) (D : Data) (hS : Sl D R2 2 sv xs) (hp : PredOK Try.prog D k2V fv p) :
    Fn Try.prog 119 #[sv, fv] D (fun _ v => v = .bool (xs.any p)) := by
  refine enter 9 Try.func119 rfl rfl rfl rfl fun h0 => ?_
  refine C.seq ?_
  refine C.region [(false,0)] rfl ?_
  refine L.assign rfl rfl rfl trivial ?_
  refine L.nil ?_
  refine C.next ?_
  refine C.seq ?_
  refine C.region [(false,0),(false,1),(false,2),(false,3),(false,4)] rfl ?_
  refine L.move rfl rfl rfl trivial ?_
  refine L.move rfl rfl rfl trivial ?_
  refine L.callV rfl rfl rfl (fun D1 hD1 => IndexFuncR_ok _ _ xs p _ (Sl.at R2.up hD1 (by assumption) (by simp)) (hp.up (hD1 _ (by simp)))) rfl trivial ?_
  refine L.geq rfl rfl rfl rfl trivial ?_
  refine L.assign rfl rfl rfl trivial ?_
  refine L.nil ?_
  refine C.next ?_
  refine C.ret ?_
  exact leave (vs := [_]) rfl rfl rfl ⟨rfl, trivial⟩ (fun D hD => by show Value.bool (decide _) = _; rw [idxOf_ge])
theorem allR1_ok (b : Nat) (fv : Value) (p : (Int × Int) → Bool) (x : (Int × Int)) (D : Data) (hp : PredOK Try.prog D k2V fv p) (hB : At D b 0 [fv]) :
    Fn Try.prog 120 #[k2V x, .pointer (some ⟨b, 0, none⟩)] D (fun _ v => v = .bool (!p x)) := by
  obtain ⟨f, c1, c2, rfl, hf⟩ := hp
  refine enter 8 Try.func120 rfl rfl rfl rfl fun h0 => ?_
  refine C.seq ?_
  refine C.region [(false,0),(false,1)] rfl ?_
  refine L.boxD rfl rfl rfl rfl trivial (fun q1 E1 hE1 hB1 => ?_)
  refine L.assign rfl rfl rfl trivial ?_
  refine L.nil ?_
  refine C.next ?_
  refine C.seq ?_
  refine C.region [(false,0),(false,1),(false,2),(false,3),(false,4)] rfl ?_
  refine L.loadD1 rfl (k := 0) Tf.a156 rfl hB (by first | simp | assumption) rfl List.not_mem_nil rfl trivial ?_
  refine L.loadDW rfl Tf.a61 rfl hB1 (by first | simp | assumption) Tf.s61 List.not_mem_nil rfl trivial ?_
  refine L.callV rfl rfl rfl (fun D1 hD1 => hf x _ (hD1 _ (by simp))) rfl trivial ?_
  refine L.not rfl rfl rfl trivial ?_
  refine L.assign rfl rfl rfl trivial ?_
  refine L.nil ?_
  refine C.next ?_
  refine C.ret ?_
  exact leave (vs := [_]) rfl rfl rfl ⟨rfl, trivial⟩ (fun D hD => rfl)
theorem allR_ok (sv fv : Value) (xs : List (Int × Int)) (p : (Int × Int) → Bool) (D : Data) (hS : Sl D R2 2 sv xs) (hp : PredOK Try.prog D k2V fv p) (h1 : fv.cells = #[fv]) :
    Fn Try.prog 105 #[sv, fv] D (fun _ v => v = .bool (xs.all p)) := by
  refine enter 9 Try.func105 rfl rfl rfl rfl fun h0 => ?_
  refine C.seq ?_
  refine C.region [(false,0),(false,1)] rfl ?_
  refine L.boxD (vs := [fv]) rfl rfl h1 rfl trivial (fun b D1 hD1 hB => ?_)
  refine L.assign rfl rfl rfl trivial ?_
  refine L.nil ?_
  refine C.next ?_
  refine C.seq ?_
  refine C.region [(false,0),(false,1),(false,2),(false,3),(false,4)] rfl ?_
  refine L.move rfl rfl rfl trivial ?_
  refine L.makeFunc rfl rfl rfl rfl trivial ?_
  refine L.callV rfl rfl rfl (fun D1 hD1 => ContainsFuncR_ok _ _ xs (fun x => !p x) _ (Sl.at R2.up hD1 (by assumption) (by simp)) ⟨_, [], [.pointer (some ⟨b, 0, none⟩)], rfl, fun x D2 hl => allR1_ok b fv p x D2 (hp.up ((hD1 _ (by simp)).trans hl)) (hB.up ((hD1 _ (by simp)).trans hl))⟩) rfl trivial ?_
  refine L.not rfl rfl rfl trivial ?_
  refine L.assign rfl rfl rfl trivial ?_
  refine L.nil ?_
  refine C.next ?_
  refine C.ret ?_
  exact leave (vs := [_]) rfl rfl rfl ⟨rfl, trivial⟩ (fun D hD => by show Value.bool (!_) = _; rw [all_any])
theorem Min_ok (sv : Value) (x : Int) (xs : List Int) (D : Data) (hS : Sl D RI 1 sv (x :: xs)) :
    Fn Try.prog 123 #[sv] D (fun _ v => v = .int .i64 (xs.foldl min x)) := by
  have hl := hS.len
  simp only [List.length_cons] at hl
  refine enter 25 Try.func123 rfl rfl rfl rfl fun h0 => ?_
  refine C.seq ?_
  refine C.region [(false,0)] rfl ?_
  refine L.assign rfl rfl rfl trivial ?_
  refine L.nil ?_
  refine C.next ?_
  refine C.seq ?_
  refine C.seq ?_
  refine C.region [(false,0),(false,1),(false,2)] rfl ?_
  refine L.move rfl rfl rfl trivial ?_
  refine L.len rfl Try.underlying52 rfl (by assumption) rfl rfl trivial ?_
  refine L.lss rfl rfl rfl rfl trivial ?_
  refine L.nil ?_
  refine C.next ?_
  refine C.condD rfl (fun hc1 => ?_) (fun hc1 => ?_)
  · exact absurd hc1 (by simp only [List.length_cons]; omega)
  · refine C.skip ?_
    refine C.next ?_
    refine C.seq ?_
    refine C.region [(false,0),(false,1),(false,2),(false,3)] rfl ?_
    refine L.move rfl rfl rfl trivial ?_
    refine L.indexS rfl Try.underlying52 Tf.s3 rfl (by assumption) rfl (by omega) (by rfl) rfl trivial (fun b1 o1 cs1 hr1 hcl1 hA1 => ?_)
    obtain rfl : cs1 = [.int .i64 _] := hr1
    refine L.loadD1 rfl (k := 0) Tf.a3 rfl hA1 (by first | simp | assumption) rfl List.not_mem_nil rfl trivial ?_
    refine L.assign rfl rfl rfl trivial ?_
    refine L.nil ?_
    refine C.next ?_
    refine C.seq ?_
    refine C.seq ?_
    refine C.region [(false,0)] rfl ?_
    refine L.assign rfl rfl rfl trivial ?_
    refine L.nil ?_
    refine C.next ?_
    refine C.block ?_
    refine C.loopC (γ := Nat) (fun k => xs.length - k) (fun k => k ≤ xs.length) (fun k => [(3, .int .i64 ((xs.take k).foldl min x)), (4, .int .i64 (k + 1 : Int))]) [(2, _), (0, _)] (fun k => [D]) 0 (by omega) ⟨(by first | rfl | (show some (Value.int _ _) = some (Value.int _ _); congr 2; omega)), (by first | rfl | (show some (Value.int _ _) = some (Value.int _ _); congr 2; omega)), trivial⟩ ⟨rfl, rfl, trivial⟩ (ds_same) ?_
    rintro k h1
    refine C.seq ?_
    refine C.seq ?_
    refine C.region [(false,0),(false,1),(false,2),(false,3)] rfl ?_
    refine L.move rfl rfl rfl trivial ?_
    refine L.move rfl rfl rfl trivial ?_
    refine L.len rfl Try.underlying52 rfl (by assumption) rfl rfl trivial ?_
    refine L.lss rfl rfl rfl rfl trivial ?_
    refine L.nil ?_
    refine C.next ?_
    refine C.condD rfl (fun hc2 => ?_) (fun hc2 => ?_)
    · simp only [List.length_cons] at hc2
      have hk : k < xs.length := by omega
      obtain ⟨y, hy⟩ : ∃ y, xs[k]? = some y := ⟨_, List.getElem?_eq_getElem hk⟩
      have hy2 : (x :: xs)[(k + 1 : Int).toNat]? = some y := by rw [show ((k : Int) + 1).toNat = k + 1 by omega]; simpa using hy
      refine C.skip ?_
      refine C.next ?_
      refine C.seq ?_
      refine C.block ?_
      refine C.region [(false,0),(false,1),(false,2),(false,3),(false,4),(false,5),(false,6)] rfl ?_
      refine L.move rfl rfl rfl trivial ?_
      refine L.move rfl rfl rfl trivial ?_
      refine L.move rfl rfl rfl trivial ?_
      refine L.indexS rfl Try.underlying52 Tf.s3 rfl (by assumption) rfl (by omega) (by assumption) rfl trivial (fun b2 o2 cs2 hr2 hcl2 hA2 => ?_)
      obtain rfl : cs2 = [.int .i64 _] := hr2
      refine L.loadD1 rfl (k := 0) Tf.a3 rfl hA2 (by first | simp | assumption) rfl List.not_mem_nil rfl trivial ?_
      refine L.min2 rfl rfl rfl rfl trivial ?_
      refine L.assign rfl rfl rfl trivial ?_
      refine L.nil ?_
      refine C.blockEnd ?_
      refine C.next ?_
      refine C.region [(false,0),(false,1),(false,2)] rfl ?_
      refine L.move rfl rfl rfl trivial ?_
      refine L.add rfl rfl rfl (by simp only [inK]; omega) rfl trivial ?_
      refine L.assign rfl rfl rfl trivial ?_
      refine L.nil ?_
      have h3 : (xs.take (k + 1)).foldl min x = min ((xs.take k).foldl min x) y := by rw [List.take_add_one, hy, List.foldl_append]; rfl
      exact C.againR 16 (k + 1) (by omega) (by omega) ⟨(by rw [h3]; rfl), (by first | rfl | (show some (Value.int _ _) = some (Value.int _ _); congr 2; omega)), trivial⟩ rfl rfl (List.Sublist.refl _) (ds_same)
    · simp only [List.length_cons] at hc2
      refine C.exit ?_
      refine C.thenExit ?_
      refine C.thenExit ?_
      refine C.blockExit ?_
      refine C.next ?_
      refine C.seq ?_
      refine C.region [(false,0),(false,1)] rfl ?_
      refine L.move rfl rfl rfl trivial ?_
      refine L.assign rfl rfl rfl trivial ?_
      refine L.nil ?_
      refine C.next ?_
      refine C.ret ?_
      exact leave (vs := [_]) rfl rfl rfl ⟨rfl, trivial⟩ (fun D hD => by show Value.int _ _ = _; rw [List.take_of_length_le (by omega)])
theorem minimum_ok (sv : Value) (x : Int) (xs : List Int) (D : Data) (hS : Sl D RI 1 sv (x :: xs)) :
    Fn Try.prog 113 #[sv] D (fun _ v => v = .int .i64 (xs.foldl min x)) := by
  refine enter 5 Try.func113 rfl rfl rfl rfl fun h0 => ?_
  refine C.seq ?_
  refine C.region [(false,0)] rfl ?_
  refine L.assign rfl rfl rfl trivial ?_
  refine L.nil ?_
  refine C.next ?_
  refine C.seq ?_
  refine C.region [(false,0),(false,1),(false,2)] rfl ?_
  refine L.move rfl rfl rfl trivial ?_
  refine L.callV rfl rfl rfl (fun D1 hD1 => Min_ok _ x xs _ (Sl.at RI.up hD1 (by assumption) (by simp))) rfl trivial ?_
  refine L.assign rfl rfl rfl trivial ?_
  refine L.nil ?_
  refine C.next ?_
  refine C.ret ?_
  exact leave (vs := [_]) rfl rfl rfl ⟨rfl, trivial⟩ (fun D hD => rfl)
end Go.Fs
namespace Go.Fs
open Go.Proofs
open C7
theorem whole_l {p : Pt} : (p.l == [1, 1, 1]) = isWhole p := by
  obtain ⟨a, b, c⟩ := p
  simp only [isWhole, Pt.l, Pt.mk.injEq]
  rw [Bool.eq_iff_iff]; simp
theorem low_go {m k i : Nat} (hk : m.testBit k = true) (h1 : i ≤ k) (h : ((m >>> i : Nat) : Int) % 2 = 0) : i + 1 ≤ k := by
  rw [bit_mod] at h
  have : i ≠ k := by rintro rfl; rw [hk] at h; simp at h
  omega
theorem low_end {m k i : Nat} (hl : ∀ i, i < k → m.testBit i = false) (h1 : i ≤ k) (h : ¬ ((m >>> i : Nat) : Int) % 2 = 0) : i = k := by
  rw [bit_mod] at h
  by_cases hi : i < k
  · rw [hl i hi] at h; simp at h
  · omega
theorem has_ok (r : Int × Int) (n : Int) (D : Data) : Fn Try.prog 115 #[k2V r, .int .i64 n] D (fun _ v => v = .bool (inB n r.1 r.2)) := by
  refine enter 11 Try.func115 rfl rfl rfl rfl fun h0 => ?_
  refine C.seq ?_
  refine C.region [(false,0),(false,1)] rfl ?_
  refine L.boxD rfl rfl rfl rfl trivial (fun q1 E1 hE1 hB1 => ?_)
  refine L.assign rfl rfl rfl trivial ?_
  refine L.nil ?_
  refine C.next ?_
  refine C.seq ?_
  refine C.region [(false,0),(false,1),(false,2),(false,3),(false,4),(false,5),(false,6)] rfl ?_
  refine L.move rfl rfl rfl trivial ?_
  refine L.fieldAddr rfl Tf.f61_0 rfl rfl trivial ?_
  refine L.loadD1 rfl (k := 0) Tf.a3 rfl hB1 (by first | simp | assumption) rfl List.not_mem_nil rfl trivial ?_
  refine L.fieldAddr rfl Tf.f61_1 rfl rfl trivial ?_
  refine L.loadD1 rfl (k := 1) Tf.a3 rfl hB1 (by first | simp | assumption) rfl List.not_mem_nil rfl trivial ?_
  refine L.callV rfl rfl rfl (fun D1 hD1 => within_ok _ _ _ _) rfl trivial ?_
  refine L.assign rfl rfl rfl trivial ?_
  refine L.nil ?_
  refine C.next ?_
  refine C.ret ?_
  exact leave (vs := [_]) rfl rfl rfl ⟨rfl, trivial⟩ (fun D hD => rfl)
theorem wider_ok (r : Int × Int) (n : Int) (D : Data) : Fn Try.prog 87 #[k2V r, .int .i64 n] D (fun _ v => v = k2V (min r.1 n, max r.2 n)) := by
  refine enter 15 Try.func87 rfl rfl rfl rfl fun h0 => ?_
  refine C.seq ?_
  refine C.region [(false,0),(false,1)] rfl ?_
  refine L.boxD rfl rfl rfl rfl trivial (fun q1 E1 hE1 hB1 => ?_)
  refine L.alloc rfl Tf.z61 rfl rfl trivial (fun q2 => ?_)
  refine L.nil ?_
  refine C.next ?_
  refine C.seq ?_
  refine C.draw [] 4 [0,1,2,5,6,7,8,3,4,9,10] [false,false,true,true,true,true,true,true,true,false,false] [(false,0),(false,1),(true,2),(true,5),(true,6),(true,7),(true,8),(true,3),(true,4),(false,9),(false,10)] Tf.follows (fun _ _ _ h => np_body (P := Try.prog) (fn := Try.f87) _ _ _ h) (by kernel_rfl) rfl ?_
  refine L.fieldAddr rfl Tf.f61_0 rfl rfl trivial ?_
  refine L.loadD1 rfl (k := 0) Tf.a3 rfl hB1 (by first | simp | assumption) rfl List.not_mem_nil rfl trivial ?_
  refine L.move rfl rfl rfl trivial ?_
  refine L.fieldAddr rfl Tf.f61_1 rfl rfl trivial ?_
  refine L.loadD1 rfl (k := 1) Tf.a3 rfl hB1 (by first | simp | assumption) rfl List.not_mem_nil rfl trivial ?_
  refine L.move rfl rfl rfl trivial ?_
  refine L.max2 rfl rfl rfl rfl trivial ?_
  refine L.buildSlice rfl Try.underlying52 Tf.s3 Tf.z3 rfl rfl rfl rfl (.cons rfl rfl (.cons rfl rfl .nil)) rfl trivial (fun b901 D901 hD901 hA901 => ?_)
  have hS901 := Sl.ofInts (l := [_, _]) (n := 2) (cap := 2) hA901 rfl (by omega) (by omega)
  refine L.callV rfl rfl rfl (fun D1 hD1 => minimum_ok _ r.1 [n] _ (hS901.up RI.up (hD1 _ (by simp)))) rfl trivial ?_
  refine L.build (cs := [.int .i64 (min r.1 n), .int .i64 (max r.2 n)]) rfl Tf.p61 Tf.z61 rfl rfl rfl trivial ?_
  refine L.storeW rfl rfl rfl rfl Tf.s61 (by first | rfl | (simp only [ints_length, *]; done) | (simp only [ints_length, *]; rfl) | (simp only [ints_length, *]; omega)) (by first | rfl | (simp only [ints_length, *]; done) | (simp only [ints_length, *]; rfl) | (simp only [ints_length, *]; omega)) (Has.head) (by first | exact ints_cell1 _ | simp [cell1]) trivial ?_
  refine L.nil ?_
  refine C.next ?_
  refine C.ret ?_
  exact leave (vs := [_]) rfl rfl rfl ⟨⟨_, _, _, rfl, (List.Mem.head _), Or.inr ⟨Tf.a61, (by first | exact Tf.s61 | (simp only [List.size_toArray, ints_length, *]; exact Tf.s61)), rfl⟩⟩, trivial⟩ (fun D hD => rfl)
theorem valid1_ok (n m : Int) (b : Nat) (D : Data) (hB : At D b 0 [.int .i64 m]) : Fn Try.prog 127 #[.int .i64 n, .pointer (some ⟨b, 0, none⟩)] D (fun _ v => v = .bool (inB n 0 m)) := by
  refine enter 7 Try.func127 rfl rfl rfl rfl fun h0 => ?_
  refine C.seq ?_
  refine C.region [(false,0)] rfl ?_
  refine L.assign rfl rfl rfl trivial ?_
  refine L.nil ?_
  refine C.next ?_
  refine C.seq ?_
  refine C.region [(false,0),(false,1),(false,2),(false,3)] rfl ?_
  refine L.move rfl rfl rfl trivial ?_
  refine L.loadD1 rfl (k := 0) Tf.a3 rfl hB (by first | simp | assumption) rfl List.not_mem_nil rfl trivial ?_
  refine L.callV rfl rfl rfl (fun D1 hD1 => within_ok _ _ _ _) rfl trivial ?_
  refine L.assign rfl rfl rfl trivial ?_
  refine L.nil ?_
  refine C.next ?_
  refine C.ret ?_
  exact leave (vs := [_]) rfl rfl rfl ⟨rfl, trivial⟩ (fun D hD => rfl)
theorem valid_ok (p : Pt) (m : Int) (D : Data) : Fn Try.prog 118 #[ptV p, .int .i64 m] D (fun _ v => v = .bool (ptsOk p m)) := by
  refine enter 8 Try.func118 rfl rfl rfl rfl fun h0 => ?_
  refine C.seq ?_
  refine C.region [(false,0),(false,1),(false,2)] rfl ?_
  refine L.boxD rfl rfl rfl rfl trivial (fun q1 E1 hE1 hB1 => ?_)
  refine L.boxD rfl rfl rfl rfl trivial (fun q2 E2 hE2 hB2 => ?_)
  refine L.assign rfl rfl rfl trivial ?_
  refine L.nil ?_
  refine C.next ?_
  refine C.seq ?_
  refine C.region [(false,0),(false,1),(false,2),(false,3)] rfl ?_
  refine L.sliceA rfl Try.underlying113 Tf.s3 rfl rfl trivial ?_
  refine L.makeFunc rfl rfl rfl rfl trivial ?_
  refine L.callV rfl rfl rfl (fun D1 hD1 => allI_ok _ _ p.l (fun x => inB x 0 m) _ (Sl.ofInts (l := p.l) (n := 3) (cap := 3) (hB1.up (hD1 _ (by simp))) rfl (by omega) (by omega)) ⟨_, [], [_], rfl, fun x D2 hl => valid1_ok x m q2 D2 (hB2.up ((hD1 _ (by simp)).trans hl))⟩ rfl) rfl trivial ?_
  refine L.assign rfl rfl rfl trivial ?_
  refine L.nil ?_
  refine C.next ?_
  refine C.ret ?_
  exact leave (vs := [_]) rfl rfl rfl ⟨rfl, trivial⟩ (fun D hD => rfl)
theorem chairValid_ok (c : Ch) (D : Data) : Fn Try.prog 104 #[chV c] D (fun _ v => v = .bool (chairOk c)) := by
  refine enter 11 Try.func104 rfl rfl rfl rfl fun h0 => ?_
  refine C.seq ?_
  refine C.region [(false,0),(false,1)] rfl ?_
  refine L.boxD rfl rfl rfl rfl trivial (fun q1 E1 hE1 hB1 => ?_)
  refine L.assign rfl rfl rfl trivial ?_
  refine L.nil ?_
  refine C.next ?_
  refine C.seq ?_
  refine C.region [(false,0),(false,1),(false,2),(false,3),(false,4),(false,5),(false,6),(false,7),(false,8)] rfl ?_
  refine L.fieldAddr rfl Tf.f115_0 rfl rfl trivial ?_
  refine L.loadD1 rfl (k := 0) Tf.a3 rfl hB1 (by first | simp | assumption) rfl List.not_mem_nil rfl trivial ?_
  refine L.callV rfl rfl rfl (fun D1 hD1 => within_ok _ _ _ _) rfl trivial ?_
  refine L.move rfl rfl rfl trivial ?_
  refine' L.and [(false,4),(false,5),(false,6),(false,7)] [(false,8)] (s := 6) (p := 10) rfl rfl (fun hg1 => ?_) (fun hg1 => ?_) ?_
  rotate_left
  · refine L.fieldAddr rfl Tf.f115_1 rfl rfl ⟨_, rfl, rfl⟩ ?_
    refine L.loadDP rfl (k := 1) Tf.a113 Tf.s113 rfl hB1 (by first | simp | assumption) rfl rfl List.not_mem_nil rfl ⟨_, rfl, rfl⟩ ?_
    refine L.callV rfl rfl rfl (fun D2 hD2 => valid_ok c.parts 2 _) rfl ⟨_, rfl, rfl⟩ ?_
    refine L.pickT rfl rfl rfl rfl trivial ?_
    exact L.nil fun a w hh => hh.cutK 3 rfl
  · refine L.pass rfl rfl rfl ⟨_, _, rfl, rfl, rfl⟩ ?_
    refine L.pass rfl rfl rfl ⟨_, _, rfl, rfl, rfl⟩ ?_
    refine L.pass rfl rfl rfl ⟨_, _, rfl, rfl, rfl⟩ ?_
    refine L.pickF rfl rfl rfl rfl trivial ?_
    exact L.nil fun a w hh => hh.cutK 3 rfl
  refine L.assign rfl rfl rfl trivial ?_
  refine L.nil ?_
  refine C.next ?_
  refine C.ret ?_
  exact leave (vs := [_]) rfl rfl rfl ⟨rfl, trivial⟩ (fun D hD => rfl)
theorem claim_ok (yv : Value) (y : YardD) (r : Int × Int) (D : Data) (hy : YardIs D yv y) : Fn Try.prog 102 #[yv, k2V r] D (fun _ v => v = .bool (claimOk r)) := by
  obtain ⟨cv, qv, rfl, hc, hq⟩ := hy
  refine enter 20 Try.func102 rfl rfl rfl rfl fun h0 => ?_
  refine C.seq ?_
  refine C.region [(false,0),(false,1),(false,2)] rfl ?_
  refine L.boxD rfl rfl rfl rfl trivial (fun q1 E1 hE1 hB1 => ?_)
  refine L.boxD rfl rfl rfl rfl trivial (fun q2 E2 hE2 hB2 => ?_)
  refine L.assign rfl rfl rfl trivial ?_
  refine L.nil ?_
  refine C.next ?_
  refine C.seq ?_
  refine C.region [(false,0),(false,1),(false,2),(false,3),(false,4),(false,5),(false,6),(false,7),(false,8),(false,9),(false,10),(false,11),(false,12),(false,13),(false,14),(false,15)] rfl ?_
  refine L.fieldAddr rfl Tf.f61_0 rfl rfl trivial ?_
  refine L.loadD1 rfl (k := 0) Tf.a3 rfl hB2 (by first | simp | assumption) rfl List.not_mem_nil rfl trivial ?_
  refine L.leq rfl rfl rfl rfl trivial ?_
  refine L.move rfl rfl rfl trivial ?_
  refine' L.and [(false,4),(false,5),(false,6),(false,7),(false,8),(false,9)] [(false,10),(false,11),(false,12),(false,13),(false,14),(false,15)] (s := 8) (p := 14) rfl rfl (fun hg1 => ?_) (fun hg1 => ?_) ?_
  rotate_left
  · refine L.fieldAddr rfl Tf.f61_0 rfl rfl ⟨_, rfl, rfl⟩ ?_
    refine L.loadD1 rfl (k := 0) Tf.a3 rfl hB2 (by first | simp | assumption) rfl List.not_mem_nil rfl ⟨_, rfl, rfl⟩ ?_
    refine L.fieldAddr rfl Tf.f61_1 rfl rfl ⟨_, rfl, rfl⟩ ?_
    refine L.loadD1 rfl (k := 1) Tf.a3 rfl hB2 (by first | simp | assumption) rfl List.not_mem_nil rfl ⟨_, rfl, rfl⟩ ?_
    refine L.leq rfl rfl rfl rfl ⟨_, rfl, rfl⟩ ?_
    refine L.pickT rfl rfl rfl rfl trivial ?_
    exact L.nil fun a w hh => hh.cutK 5 rfl
  · refine L.pass rfl rfl rfl ⟨_, _, rfl, rfl, rfl⟩ ?_
    refine L.pass rfl rfl rfl ⟨_, _, rfl, rfl, rfl⟩ ?_
    refine L.pass rfl rfl rfl ⟨_, _, rfl, rfl, rfl⟩ ?_
    refine L.pass rfl rfl rfl ⟨_, _, rfl, rfl, rfl⟩ ?_
    refine L.pass rfl rfl rfl ⟨_, _, rfl, rfl, rfl⟩ ?_
    refine L.pickF rfl rfl rfl rfl trivial ?_
    exact L.nil fun a w hh => hh.cutK 5 rfl
  refine L.move rfl rfl rfl trivial ?_
  refine' L.and [(false,11),(false,12),(false,13),(false,14)] [(false,15)] (s := 15) (p := 19) rfl rfl (fun hg2 => ?_) (fun hg2 => ?_) ?_
  rotate_left
  · refine L.fieldAddr rfl Tf.f61_1 rfl rfl ⟨_, rfl, rfl⟩ ?_
    refine L.loadD1 rfl (k := 1) Tf.a3 rfl hB2 (by first | simp | assumption) rfl List.not_mem_nil rfl ⟨_, rfl, rfl⟩ ?_
    refine L.leq rfl rfl rfl rfl ⟨_, rfl, rfl⟩ ?_
    refine L.pickT rfl rfl rfl rfl trivial ?_
    exact L.nil fun a w hh => hh.cutK 3 rfl
  · refine L.pass rfl rfl rfl ⟨_, _, rfl, rfl, rfl⟩ ?_
    refine L.pass rfl rfl rfl ⟨_, _, rfl, rfl, rfl⟩ ?_
    refine L.pass rfl rfl rfl ⟨_, _, rfl, rfl, rfl⟩ ?_
    refine L.pickF rfl rfl rfl rfl trivial ?_
    exact L.nil fun a w hh => hh.cutK 3 rfl
  refine L.assign rfl rfl rfl trivial ?_
  refine L.nil ?_
  refine C.next ?_
  refine C.ret ?_
  exact leave (vs := [_]) rfl rfl rfl ⟨rfl, trivial⟩ (fun D hD => rfl)
theorem whole_ok (p : Pt) (D : Data) : Fn Try.prog 108 #[ptV p] D (fun _ v => v = .bool (isWhole p)) := by
  refine enter 6 Try.func108 rfl rfl rfl rfl fun h0 => ?_
  refine C.seq ?_
  refine C.region [(false,0),(false,1)] rfl ?_
  refine L.boxD rfl rfl rfl rfl trivial (fun q1 E1 hE1 hB1 => ?_)
  refine L.assign rfl rfl rfl trivial ?_
  refine L.nil ?_
  refine C.next ?_
  refine C.seq ?_
  refine C.region [(false,0),(false,1),(false,2),(false,3)] rfl ?_
  refine L.loadDW rfl Tf.a113 rfl hB1 (by first | simp | assumption) (by first | exact Tf.s113 | (simp only [ints_length, *]; exact Tf.s113)) List.not_mem_nil rfl trivial ?_
  refine L.buildA (cs := [.int .i64 1, .int .i64 1, .int .i64 1]) rfl Try.underlying113 Tf.s3 Tf.z113 rfl rfl rfl trivial ?_
  refine L.eqlA (l := p.l) (m := [1, 1, 1]) rfl (by kernel_rfl) Try.underlying113 Try.underlying3 (by kernel_rfl) rfl rfl rfl rfl rfl trivial ?_
  refine L.assign rfl rfl rfl trivial ?_
  refine L.nil ?_
  refine C.next ?_
  refine C.ret ?_
  exact leave (vs := [_]) rfl rfl rfl ⟨rfl, trivial⟩ (fun D hD => by show Value.bool _ = _; rw [whole_l])
theorem lowest_ok (m k : Nat) (D : Data) (hk : m.testBit k = true) (hk2 : k ≤ 60) (hl : ∀ i, i < k → m.testBit i = false) : Fn Try.prog 106 #[.int .i64 (m : Int)] D (fun _ v => v = .int .i64 (k : Int)) := by
  refine enter 11 Try.func106 rfl rfl rfl rfl fun h0 => ?_
  refine C.seq ?_
  refine C.region [(false,0)] rfl ?_
  refine L.assign rfl rfl rfl trivial ?_
  refine L.nil ?_
  refine C.next ?_
  refine C.seq ?_
  refine C.block ?_
  refine C.loopC (γ := Nat) (fun i => k - i) (fun i => i ≤ k) (fun i => [(2, .int .i64 (i : Int))]) [(0, _)] (fun i => [D]) 0 (by omega) ⟨(by first | rfl | (show some (Value.int _ _) = some (Value.int _ _); congr 2; omega)), trivial⟩ ⟨rfl, trivial⟩ (ds_same) ?_
  rintro i h1
  refine C.seq ?_
  refine C.seq ?_
  refine C.region [(false,0),(false,1),(false,2),(false,3),(false,4)] rfl ?_
  refine L.move rfl rfl rfl trivial ?_
  refine L.move rfl rfl rfl trivial ?_
  refine L.shrN rfl rfl rfl (by omega) rfl trivial ?_
  refine L.rem rfl rfl rfl (Int.natCast_nonneg _) (by omega) (by rw [bit_mod]; split <;> simp only [inK] <;> omega) rfl trivial ?_
  refine L.eql rfl rfl rfl rfl trivial ?_
  refine L.nil ?_
  refine C.next ?_
  refine C.condD rfl (fun hc1 => ?_) (fun hc1 => ?_)
  · refine C.skip ?_
    refine C.next ?_
    refine C.block ?_
    refine C.region [(false,0),(false,1),(false,2)] rfl ?_
    refine L.move rfl rfl rfl trivial ?_
    refine L.add rfl rfl rfl (by simp only [inK]; omega) rfl trivial ?_
    refine L.assign rfl rfl rfl trivial ?_
    refine L.nil ?_
    refine C.blockEnd ?_
    exact C.againR 9 (i + 1) (low_go hk h1 hc1) (by have := low_go hk h1 hc1; omega) ⟨(by first | rfl | (show some (Value.int _ _) = some (Value.int _ _); congr 2; omega)), trivial⟩ rfl rfl (List.Sublist.refl _) (ds_same)
  · obtain rfl := low_end hl h1 hc1
    refine C.exit ?_
    refine C.thenExit ?_
    refine C.thenExit ?_
    refine C.blockExit ?_
    refine C.next ?_
    refine C.seq ?_
    refine C.region [(false,0),(false,1)] rfl ?_
    refine L.move rfl rfl rfl trivial ?_
    refine L.assign rfl rfl rfl trivial ?_
    refine L.nil ?_
    refine C.next ?_
    refine C.ret ?_
    exact leave (vs := [_]) rfl rfl rfl ⟨rfl, trivial⟩ (fun D hD => rfl)
end Go.Fs
namespace Go.Fs
open Go.Proofs
open C7
def unkL (l : List Int) : Nat := (l.filter fun n => decide (n = 2)).length
theorem unkL_le (l : List Int) : unkL l ≤ l.length := List.length_filter_le _ _
theorem unk_le (l : List Ch) : unknown l ≤ 3 * l.length := by
  induction l with
  | nil => simp [unknown]
  | cons c l ih =>
    have : unkP c.parts ≤ 3 := List.length_filter_le _ _
    simp only [unknown, List.map_cons, List.sum_cons, List.length_cons] at ih ⊢
    omega
theorem unk_snoc {l : List Ch} {i : Nat} {x : Ch} (hx : l[i]? = some x) : ((unknown (l.take (i + 1)) : Nat) : Int) = ((unknown (l.take i) + unkL (x.parts.l.take 3) : Nat) : Int) := by
  rw [List.take_add_one, hx]; simp [unknown, unkP, unkL, Pt.l]
theorem part_le {x : Ch} {k : Nat} {n : Int} (hx : chairOk x = true) (hn : x.parts.l[k]? = some n) : 0 ≤ n ∧ n ≤ 2 := by
  simp only [chairOk, Bool.and_eq_true, ptsOk, List.all_eq_true] at hx
  have := hx.2 n (List.mem_of_getElem? hn)
  simpa [inB] using this
theorem unkL_step {l : List Int} {k u : Nat} {n : Int} (hn : l[k]? = some n) (h : 0 ≤ n ∧ n ≤ 2) : ((u + unkL (l.take (k + 1)) : Nat) : Int) = ((u + unkL (l.take k) : Nat) : Int) + n / 2 := by
  rw [List.take_add_one, hn]
  simp only [unkL, Option.toList_some, List.filter_append, List.length_append]
  by_cases h2 : n = 2
  · subst h2; simp; omega
  · simp [h2]; omega
theorem cy_limit {y : YardD} (h : (decide ((7 : Int) < y.chairs.length) || decide ((5 : Int) < y.claims.length)) = true) : fault y = 3 := by
  simp only [Bool.or_eq_true, decide_eq_true_eq] at h
  unfold fault; rw [if_pos (by omega)]
theorem cy_not {y : YardD} (h : (decide ((7 : Int) < y.chairs.length) || decide ((5 : Int) < y.claims.length)) = false) : ¬ (7 < y.chairs.length ∨ 5 < y.claims.length) := by
  simp only [Bool.or_eq_false_iff, decide_eq_false_iff_not] at h; omega
theorem cy_arg {y : YardD} (h : (decide ((7 : Int) < y.chairs.length) || decide ((5 : Int) < y.claims.length)) = false) (h2 : ((!inB y.fit 0 9 || !y.chairs.all chairOk) || !y.claims.all claimOk) = true) : fault y = 1 := by
  unfold fault; rw [if_neg (cy_not h), if_pos]
  revert h2; unfold yardOk
  generalize inB y.fit 0 9 = a, y.chairs.all chairOk = b, y.claims.all claimOk = c
  cases a <;> cases b <;> cases c <;> decide
theorem cy_yes {y : YardD} (h2 : ((!inB y.fit 0 9 || !y.chairs.all chairOk) || !y.claims.all claimOk) = false) : yardOk y = true := by
  revert h2; unfold yardOk
  generalize inB y.fit 0 9 = a, y.chairs.all chairOk = b, y.claims.all claimOk = c
  cases a <;> cases b <;> cases c <;> decide
theorem cy_ok {y : YardD} (h : (decide ((7 : Int) < y.chairs.length) || decide ((5 : Int) < y.claims.length)) = false) (h2 : ((!inB y.fit 0 9 || !y.chairs.all chairOk) || !y.claims.all claimOk) = false) : y.chairs.length ≤ 7 ∧ ∀ x ∈ y.chairs, chairOk x = true := by
  have h3 := cy_yes h2
  simp only [yardOk, Bool.and_eq_true, List.all_eq_true] at h3
  have := cy_not h
  exact ⟨by omega, h3.1.2⟩
theorem cy_many {y : YardD} (h : (decide ((7 : Int) < y.chairs.length) || decide ((5 : Int) < y.claims.length)) = false) (h2 : ((!inB y.fit 0 9 || !y.chairs.all chairOk) || !y.claims.all claimOk) = false) (h3 : (8 : Int) < unknown y.chairs) : fault y = 3 := by
  unfold fault; rw [if_neg (cy_not h), if_neg (by rw [cy_yes h2]; simp), if_pos (by omega)]
theorem cy_fine {y : YardD} (h : (decide ((7 : Int) < y.chairs.length) || decide ((5 : Int) < y.claims.length)) = false) (h2 : ((!inB y.fit 0 9 || !y.chairs.all chairOk) || !y.claims.all claimOk) = false) (h3 : ¬ (8 : Int) < unknown y.chairs) : fault y = 0 := by
  unfold fault; rw [if_neg (cy_not h), if_neg (by rw [cy_yes h2]; simp), if_neg (by omega)]
theorem pt_get {p : Pt} {k : Nat} {m : Int} (h : p.l[k]? = some m) : ([.int .i64 p.a, .int .i64 p.b, .int .i64 p.c] : List Value)[k * 1]? = some (.int .i64 m) := by
  rw [Nat.mul_one, show ([.int .i64 p.a, .int .i64 p.b, .int .i64 p.c] : List Value) = p.l.map (Value.int .i64) from rfl, List.getElem?_map, h]; rfl
theorem ist_len {y : YardD} {t : List Pt} (h : t.length ≠ y.chairs.length) : isTruth y t = false := by unfold isTruth; simp [h]
theorem isp_bad {n m : Int} (h : (!inB m 0 1 || (decide (n ≠ 2) && decide (m ≠ n))) = true) : partIs n m = false := by
  unfold partIs
  cases h1 : inB m 0 1 <;> simp_all
theorem isp_good {n m : Int} (h : (!inB m 0 1 || (decide (n ≠ 2) && decide (m ≠ n))) = false) : partIs n m = true := by
  unfold partIs
  cases h1 : inB m 0 1 <;> simp_all
  by_cases h2 : n = 2
  · exact Or.inl h2
  · exact Or.inr (h h2)
theorem ist_no {y : YardD} {t : List Pt} {i k : Nat} {x : Ch} {z : Pt} {n m : Int} (hx : y.chairs[i]? = some x) (hz : t[i]? = some z) (hn : x.parts.l[k]? = some n) (hm : z.l[k]? = some m) (h : (!inB m 0 1 || (decide (n ≠ 2) && decide (m ≠ n))) = true) : isTruth y t = false := by
  have h1 : ((y.chairs.zip t).all fun x => ptsIs x.1.parts x.2) = false := by
    rw [List.all_eq_false]
    refine ⟨(x, z), List.mem_of_getElem? (i := i) (by rw [List.getElem?_zip_eq_some]; exact ⟨hx, hz⟩), ?_⟩
    have : ptsIs x.parts z = false := by
      unfold ptsIs
      rw [List.all_eq_false]
      exact ⟨(n, m), List.mem_of_getElem? (i := k) (by rw [List.getElem?_zip_eq_some]; exact ⟨hn, hm⟩), by simp [isp_bad h]⟩
    simp [this]
  unfold isTruth; rw [h1]; simp
theorem isp_step {p z : Pt} {k : Nat} {n m : Int} (hn : p.l[k]? = some n) (hm : z.l[k]? = some m) (h4 : ((p.l.zip z.l).take k).all (fun q => partIs q.1 q.2) = true) (h : (!inB m 0 1 || (decide (n ≠ 2) && decide (m ≠ n))) = false) : ((p.l.zip z.l).take (k + 1)).all (fun q => partIs q.1 q.2) = true := by
  rw [List.take_add_one, show (p.l.zip z.l)[k]? = some (n, m) by rw [List.getElem?_zip_eq_some]; exact ⟨hn, hm⟩, List.all_append, h4]
  simp [isp_good h]
theorem ist_step {y : YardD} {t : List Pt} {i : Nat} {x : Ch} {z : Pt} (hx : y.chairs[i]? = some x) (hz : t[i]? = some z) (h2 : ((y.chairs.zip t).take i).all (fun x => ptsIs x.1.parts x.2) = true) (h4 : ((x.parts.l.zip z.l).take 3).all (fun q => partIs q.1 q.2) = true) : ((y.chairs.zip t).take (i + 1)).all (fun x => ptsIs x.1.parts x.2) = true := by
  have h : ptsIs x.parts z = true := h4
  rw [List.take_add_one, show (y.chairs.zip t)[i]? = some (x, z) by rw [List.getElem?_zip_eq_some]; exact ⟨hx, hz⟩, List.all_append, h2]
  simp [h]
theorem ist_yes {y : YardD} {t : List Pt} (hl : t.length = y.chairs.length) (h2 : ((y.chairs.zip t).take y.chairs.length).all (fun x => ptsIs x.1.parts x.2) = true) : isTruth y t = true := by
  rw [List.take_of_length_le (by rw [List.length_zip]; omega)] at h2
  unfold isTruth; rw [h2, hl]; simp
theorem CheckYard_ok (yv : Value) (y : YardD) (D : Data) (hy : YardIs D yv y) : Fn Try.prog 67 #[yv] D (fun _ v => v = .int .i64 (fault y)) := by
  have hy0 := hy
  obtain ⟨cv, qv, rfl, hc, hq⟩ := hy
  refine enter 60 Try.func67 rfl rfl rfl rfl fun h0 => ?_
  refine C.seq ?_
  refine C.region [(false,0),(false,1)] rfl ?_
  refine L.boxD rfl rfl rfl rfl trivial (fun q1 E1 hE1 hB1 => ?_)
  refine L.assign rfl rfl rfl trivial ?_
  refine L.nil ?_
  refine C.next ?_
  refine C.seq ?_
  refine C.region [(false,0),(false,1),(false,2)] rfl ?_
  refine L.loadDW rfl Tf.a37 rfl hB1 (by first | simp | assumption) Tf.s37 List.not_mem_nil rfl trivial ?_
  refine L.makeFunc rfl rfl rfl rfl trivial ?_
  refine L.assign rfl rfl rfl trivial ?_
  refine L.nil ?_
  refine C.next ?_
  refine C.seq ?_
  refine C.block ?_
  refine C.seq ?_
  refine C.region [(false,0),(false,1),(false,2),(false,3),(false,4),(false,5),(false,6),(false,7),(false,8),(false,9),(false,10)] rfl ?_
  refine L.fieldAddr rfl Tf.f37_0 rfl rfl trivial ?_
  refine L.loadD1 rfl (k := 0) Tf.a34 rfl hB1 (by first | simp | assumption) rfl List.not_mem_nil rfl trivial ?_
  refine L.len rfl Try.underlying34 rfl hc rfl rfl trivial ?_
  refine L.gtr rfl rfl rfl rfl trivial ?_
  refine L.move rfl rfl rfl trivial ?_
  refine' L.or [(false,5),(false,6),(false,7),(false,8),(false,9)] [(false,10)] (s := 16) (p := 21) rfl rfl (fun hg1 => ?_) (fun hg1 => ?_) ?_
  rotate_left
  · refine L.fieldAddr rfl Tf.f37_2 rfl rfl ⟨_, rfl, rfl⟩ ?_
    refine L.loadD1 rfl (k := 2) Tf.a35 rfl hB1 (by first | simp | assumption) rfl List.not_mem_nil rfl ⟨_, rfl, rfl⟩ ?_
    refine L.len rfl Try.underlying35 rfl hq rfl rfl ⟨_, rfl, rfl⟩ ?_
    refine L.gtr rfl rfl rfl rfl ⟨_, rfl, rfl⟩ ?_
    refine L.pickF rfl rfl rfl rfl trivial ?_
    exact L.nil fun a w hh => hh.cutK 4 rfl
  · refine L.pass rfl rfl rfl ⟨_, _, rfl, rfl, rfl⟩ ?_
    refine L.pass rfl rfl rfl ⟨_, _, rfl, rfl, rfl⟩ ?_
    refine L.pass rfl rfl rfl ⟨_, _, rfl, rfl, rfl⟩ ?_
    refine L.pass rfl rfl rfl ⟨_, _, rfl, rfl, rfl⟩ ?_
    refine L.pickT rfl rfl rfl rfl trivial ?_
    exact L.nil fun a w hh => hh.cutK 4 rfl
  refine L.assign rfl rfl rfl trivial ?_
  refine L.nil ?_
  refine C.next ?_
  refine C.cond rfl (fun hc1 => ?_) (fun hc1 => ?_)
  · refine C.seq ?_
    refine C.region [(false,0)] rfl ?_
    refine L.assign rfl rfl rfl trivial ?_
    refine L.nil ?_
    refine C.next ?_
    refine C.ret ?_
    refine C.blockRet ?_
    refine C.thenRet ?_
    exact leave (vs := [_]) rfl rfl rfl ⟨rfl, trivial⟩ (fun D hD => by show Value.int _ _ = _; rw [cy_limit hc1])
  · refine C.seq ?_
    refine C.region [(false,0),(false,1),(false,2),(false,3),(false,4),(false,5),(false,6),(false,7),(false,8),(false,9),(false,10),(false,11),(false,12),(false,13),(false,14),(false,15),(false,16),(false,17)] rfl ?_
    refine L.fieldAddr rfl Tf.f37_1 rfl rfl trivial ?_
    refine L.loadD1 rfl (k := 1) Tf.a3 rfl hB1 (by first | simp | assumption) rfl List.not_mem_nil rfl trivial ?_
    refine L.callV rfl rfl rfl (fun D1 hD1 => within_ok _ _ _ _) rfl trivial ?_
    refine L.not rfl rfl rfl trivial ?_
    refine L.move rfl rfl rfl trivial ?_
    refine' L.or [(false,5),(false,6),(false,7),(false,8),(false,9)] [(false,10),(false,11),(false,12),(false,13),(false,14),(false,15),(false,16),(false,17)] (s := 27) (p := 32) rfl rfl (fun hg2 => ?_) (fun hg2 => ?_) ?_
    rotate_left
    · refine L.fieldAddr rfl Tf.f37_0 rfl rfl ⟨_, rfl, rfl⟩ ?_
      refine L.loadD1 rfl (k := 0) Tf.a34 rfl hB1 (by first | simp | assumption) rfl List.not_mem_nil rfl ⟨_, rfl, rfl⟩ ?_
      refine L.callV rfl rfl rfl (fun D2 hD2 => allC_ok _ _ _ chairOk _ (Sl.at RCh.up hD2 (by assumption) (by simp)) (.of fun x D2 => chairValid_ok x D2) rfl) rfl ⟨_, rfl, rfl⟩ ?_
      refine L.not rfl rfl rfl ⟨_, rfl, rfl⟩ ?_
      refine L.pickF rfl rfl rfl rfl trivial ?_
      exact L.nil fun a w hh => hh.cutK 4 rfl
    · refine L.pass rfl rfl rfl ⟨_, _, rfl, rfl, rfl⟩ ?_
      refine L.pass rfl rfl rfl ⟨_, _, rfl, rfl, rfl⟩ ?_
      refine L.pass rfl rfl rfl ⟨_, _, rfl, rfl, rfl⟩ ?_
      refine L.pass rfl rfl rfl ⟨_, _, rfl, rfl, rfl⟩ ?_
      refine L.pickT rfl rfl rfl rfl trivial ?_
      exact L.nil fun a w hh => hh.cutK 4 rfl
    refine L.move rfl rfl rfl trivial ?_
    refine' L.or [(false,11),(false,12),(false,13),(false,14),(false,15),(false,16)] [(false,17)] (s := 33) (p := 39) rfl rfl (fun hg3 => ?_) (fun hg3 => ?_) ?_
    rotate_left
    · refine L.fieldAddr rfl Tf.f37_2 rfl rfl ⟨_, rfl, rfl⟩ ?_
      refine L.loadD1 rfl (k := 2) Tf.a35 rfl hB1 (by first | simp | assumption) rfl List.not_mem_nil rfl ⟨_, rfl, rfl⟩ ?_
      refine L.move rfl rfl rfl ⟨_, rfl, rfl⟩ ?_
      refine L.callV rfl rfl rfl (fun D3 hD3 => allR_ok _ _ _ claimOk _ (Sl.at R2.up hD3 (by assumption) (by simp)) ⟨_, [_], [], rfl, fun r D2 hl => claim_ok _ y r D2 (hy0.up ((hD3 _ (by simp)).trans hl))⟩ rfl) rfl ⟨_, rfl, rfl⟩ ?_
      refine L.not rfl rfl rfl ⟨_, rfl, rfl⟩ ?_
      refine L.pickF rfl rfl rfl rfl trivial ?_
      exact L.nil fun a w hh => hh.cutK 5 rfl
    · refine L.pass rfl rfl rfl ⟨_, _, rfl, rfl, rfl⟩ ?_
      refine L.pass rfl rfl rfl ⟨_, _, rfl, rfl, rfl⟩ ?_
      refine L.pass rfl rfl rfl ⟨_, _, rfl, rfl, rfl⟩ ?_
      refine L.pass rfl rfl rfl ⟨_, _, rfl, rfl, rfl⟩ ?_
      refine L.pass rfl rfl rfl ⟨_, _, rfl, rfl, rfl⟩ ?_
      refine L.pickT rfl rfl rfl rfl trivial ?_
      exact L.nil fun a w hh => hh.cutK 5 rfl
    refine L.assign rfl rfl rfl trivial ?_
    refine L.nil ?_
    refine C.next ?_
    refine C.cond rfl (fun hc2 => ?_) (fun hc2 => ?_)
    · refine C.seq ?_
      refine C.region [(false,0)] rfl ?_
      refine L.assign rfl rfl rfl trivial ?_
      refine L.nil ?_
      refine C.next ?_
      refine C.ret ?_
      refine C.blockRet ?_
      refine C.thenRet ?_
      exact leave (vs := [_]) rfl rfl rfl ⟨rfl, trivial⟩ (fun D hD => by show Value.int _ _ = _; rw [cy_arg hc1 hc2])
    · obtain ⟨hl7, hok⟩ := cy_ok hc1 hc2
      refine C.skip ?_
      refine C.blockEnd ?_
      refine C.next ?_
      refine C.seq ?_
      refine C.region [(false,0)] rfl ?_
      refine L.assign rfl rfl rfl trivial ?_
      refine L.nil ?_
      refine C.next ?_
      refine C.seq ?_
      refine C.seq ?_
      refine C.region [(false,0),(false,1),(false,2),(false,3)] rfl ?_
      refine L.fieldAddr rfl Tf.f37_0 rfl rfl trivial ?_
      refine L.loadD1 rfl (k := 0) Tf.a34 rfl hB1 (by first | simp | assumption) rfl List.not_mem_nil rfl trivial ?_
      refine L.len rfl Try.underlying34 rfl hc rfl rfl trivial ?_
      refine L.move rfl rfl rfl trivial ?_
      refine L.nil ?_
      refine C.next ?_
      refine C.block ?_
      refine C.loopC (γ := Nat) (fun i => y.chairs.length - i) (fun i => i ≤ y.chairs.length) (fun i => [(43, .int .i64 (i : Int)), (4, .int .i64 (unknown (y.chairs.take i) : Int))]) [(42, _), (41, _), (2, _)] (fun i => [E1, D]) 0 (by omega) ⟨(by first | rfl | (show some (Value.int _ _) = some (Value.int _ _); congr 2; omega)), (by simp [unknown]; rfl), trivial⟩ ⟨rfl, rfl, rfl, trivial⟩ (ds_same) ?_
      rintro i h1
      refine C.seq ?_
      refine C.region [(false,0)] rfl ?_
      refine L.lss rfl rfl rfl rfl trivial ?_
      refine L.nil ?_
      refine C.next ?_
      refine C.seq ?_
      refine C.condD rfl (fun hc3 => ?_) (fun hc3 => ?_)
      · have hi : i < y.chairs.length := by omega
        obtain ⟨x, hx⟩ : ∃ x, y.chairs[i]? = some x := ⟨_, List.getElem?_eq_getElem hi⟩
        have hxo := hok x (List.mem_of_getElem? hx)
        have hub := unk_le (y.chairs.take i)
        have hut : (y.chairs.take i).length ≤ i := List.length_take_le _ _
        refine C.skip ?_
        refine C.next ?_
        refine C.seq ?_
        refine C.block ?_
        refine C.seq ?_
        refine C.region [(false,0),(false,1),(false,2),(false,3)] rfl ?_
        refine L.indexS rfl Try.underlying34 Tf.s115 rfl hc rfl (by omega) hx rfl trivial (fun b1 o1 cs1 hr1 hcl1 hA1 => ?_)
        obtain rfl : cs1 = [.int .i64 _, .int .i64 _, .int .i64 _, .int .i64 _] := hr1
        refine L.loadDW rfl Tf.a115 rfl hA1 (by first | simp | assumption) Tf.s115 List.not_mem_nil rfl trivial ?_
        refine L.alloc rfl Tf.z115 rfl rfl trivial (fun q2 => ?_)
        refine L.storeW rfl rfl rfl rfl Tf.s115 (by first | rfl | (simp only [ints_length, *]; done) | (simp only [ints_length, *]; rfl) | (simp only [ints_length, *]; omega)) (by first | rfl | (simp only [ints_length, *]; done) | (simp only [ints_length, *]; rfl) | (simp only [ints_length, *]; omega)) (Has.head) (by first | exact ints_cell1 _ | simp [cell1]) trivial ?_
        refine L.nil ?_
        refine C.next ?_
        refine C.seq ?_
        refine C.region [(false,0),(false,1),(false,2)] rfl ?_
        refine L.fieldAddr rfl Tf.f115_1 rfl rfl trivial ?_
        refine L.loadBP rfl Tf.a113 Tf.s113 rfl (List.Mem.head _) rfl rfl List.not_mem_nil rfl trivial ?_
        refine L.move rfl rfl rfl trivial ?_
        refine L.nil ?_
        refine C.next ?_
        refine C.block ?_
        refine C.loopC (γ := Nat) (fun k => 3 - k) (fun k => k ≤ 3) (fun k => [(49, .int .i64 (k : Int)), (4, .int .i64 ((unknown (y.chairs.take i) + unkL (x.parts.l.take k) : Nat) : Int))]) [(48, _), (47, _), (6, _), (46, _), (45, _), (44, _), (43, _), (42, _), (41, _), (2, _)] (fun k => [E1, D]) 0 (by omega) ⟨(by first | rfl | (show some (Value.int _ _) = some (Value.int _ _); congr 2; omega)), (by simp [unkL]; rfl), trivial⟩ ⟨rfl, rfl, rfl, rfl, rfl, rfl, rfl, rfl, rfl, rfl, trivial⟩ (ds_same) ?_
        rintro k h2
        refine C.seq ?_
        refine C.region [(false,0)] rfl ?_
        refine L.lss rfl rfl rfl rfl trivial ?_
        refine L.nil ?_
        refine C.next ?_
        refine C.seq ?_
        refine C.condD rfl (fun hc4 => ?_) (fun hc4 => ?_)
        · have hk3 : k < 3 := by omega
          obtain ⟨n, hn⟩ : ∃ n, x.parts.l[k]? = some n := ⟨_, List.getElem?_eq_getElem (by simp [Pt.l]; omega)⟩
          have hn2 := part_le hxo hn
          have hkl := unkL_le (x.parts.l.take k)
          have hkt : (x.parts.l.take k).length ≤ k := List.length_take_le _ _
          refine C.skip ?_
          refine C.next ?_
          refine C.seq ?_
          refine C.block ?_
          refine C.seq ?_
          refine C.region [(false,0),(false,1)] rfl ?_
          refine L.indexV (l := x.parts.l) rfl Try.underlying113 Tf.a3 Tf.s3 rfl rfl (by omega) (by omega) hn rfl trivial ?_
          refine L.assign rfl rfl rfl trivial ?_
          refine L.nil ?_
          refine C.next ?_
          refine C.region [(false,0),(false,1),(false,2),(false,3),(false,4)] rfl ?_
          refine L.move rfl rfl rfl trivial ?_
          refine L.move rfl rfl rfl trivial ?_
          refine L.quo rfl rfl rfl (by omega) (by omega) (by simp only [inK]; omega) rfl trivial ?_
          refine L.add rfl rfl rfl (by simp only [inK]; omega) rfl trivial ?_
          refine L.assign rfl rfl rfl trivial ?_
          refine L.nil ?_
          refine C.blockEnd ?_
          refine C.next ?_
          refine C.region [(false,0),(false,1)] rfl ?_
          refine L.add rfl rfl rfl (by simp only [inK]; omega) rfl trivial ?_
          refine L.move rfl rfl rfl trivial ?_
          refine L.nil ?_
          exact C.againR 12 (k + 1) (by omega) (by omega) ⟨(by first | rfl | (show some (Value.int _ _) = some (Value.int _ _); congr 2; omega)), (by rw [unkL_step hn hn2]; rfl), trivial⟩ rfl rfl (List.Sublist.refl _) (ds_same)
        · obtain rfl : k = 3 := by omega
          refine C.exit ?_
          refine C.thenExit ?_
          refine C.thenExit ?_
          refine C.blockExit ?_
          refine C.blockEnd ?_
          refine C.next ?_
          refine C.region [(false,0),(false,1)] rfl ?_
          refine L.add rfl rfl rfl (by simp only [inK]; omega) rfl trivial ?_
          refine L.move rfl rfl rfl trivial ?_
          refine L.nil ?_
          exact C.againR 12 (i + 1) (by omega) (by omega) ⟨(by first | rfl | (show some (Value.int _ _) = some (Value.int _ _); congr 2; omega)), (by rw [unk_snoc hx]; rfl), trivial⟩ rfl rfl (List.Sublist.cons _ (List.Sublist.refl _)) (ds_same)
      · obtain rfl : i = y.chairs.length := by omega
        rw [List.take_length]
        refine C.exit ?_
        refine C.thenExit ?_
        refine C.thenExit ?_
        refine C.blockExit ?_
        refine C.next ?_
        refine C.seq ?_
        refine C.seq ?_
        refine C.region [(false,0),(false,1)] rfl ?_
        refine L.move rfl rfl rfl trivial ?_
        refine L.gtr rfl rfl rfl rfl trivial ?_
        refine L.nil ?_
        refine C.next ?_
        refine C.condD rfl (fun hc5 => ?_) (fun hc5 => ?_)
        · refine C.seq ?_
          refine C.region [(false,0)] rfl ?_
          refine L.assign rfl rfl rfl trivial ?_
          refine L.nil ?_
          refine C.next ?_
          refine C.ret ?_
          refine C.thenRet ?_
          exact leave (vs := [_]) rfl rfl rfl ⟨rfl, trivial⟩ (fun D hD => by show Value.int _ _ = _; rw [cy_many hc1 hc2 hc5])
        · refine C.skip ?_
          refine C.next ?_
          refine C.seq ?_
          refine C.region [(false,0)] rfl ?_
          refine L.assign rfl rfl rfl trivial ?_
          refine L.nil ?_
          refine C.next ?_
          refine C.ret ?_
          exact leave (vs := [_]) rfl rfl rfl ⟨rfl, trivial⟩ (fun D hD => by show Value.int _ _ = _; rw [cy_fine hc1 hc2 hc5])
theorem is_ok (yv tv : Value) (y : YardD) (t : List Pt) (D : Data) (hy : YardIs D yv y) (ht : Sl D RP 3 tv t) : Fn Try.prog 98 #[yv, tv] D (fun _ v => v = .bool (isTruth y t)) := by
  obtain ⟨cv, qv, rfl, hc, hq⟩ := hy
  have hl := ht.len
  refine enter 53 Try.func98 rfl rfl rfl rfl fun h0 => ?_
  refine C.seq ?_
  refine C.region [(false,0),(false,1)] rfl ?_
  refine L.boxD rfl rfl rfl rfl trivial (fun q1 E1 hE1 hB1 => ?_)
  refine L.assign rfl rfl rfl trivial ?_
  refine L.nil ?_
  refine C.next ?_
  refine C.seq ?_
  refine C.seq ?_
  refine C.region [(false,0),(false,1),(false,2),(false,3),(false,4),(false,5)] rfl ?_
  refine L.move rfl rfl rfl trivial ?_
  refine L.len rfl Try.underlying39 rfl ht rfl rfl trivial ?_
  refine L.fieldAddr rfl Tf.f37_0 rfl rfl trivial ?_
  refine L.loadD1 rfl (k := 0) Tf.a34 rfl hB1 (by first | simp | assumption) rfl List.not_mem_nil rfl trivial ?_
  refine L.len rfl Try.underlying34 rfl hc rfl rfl trivial ?_
  refine L.neq rfl rfl rfl rfl trivial ?_
  refine L.nil ?_
  refine C.next ?_
  refine C.condD rfl (fun hc1 => ?_) (fun hc1 => ?_)
  · refine C.seq ?_
    refine C.region [(false,0)] rfl ?_
    refine L.assign rfl rfl rfl trivial ?_
    refine L.nil ?_
    refine C.next ?_
    refine C.ret ?_
    refine C.thenRet ?_
    exact leave (vs := [_]) rfl rfl rfl ⟨rfl, trivial⟩ (fun D hD => by show Value.bool _ = _; rw [ist_len (by omega)])
  · have hlen : t.length = y.chairs.length := by omega
    refine C.skip ?_
    refine C.next ?_
    refine C.seq ?_
    refine C.seq ?_
    refine C.region [(false,0),(false,1),(false,2),(false,3)] rfl ?_
    refine L.fieldAddr rfl Tf.f37_0 rfl rfl trivial ?_
    refine L.loadD1 rfl (k := 0) Tf.a34 rfl hB1 (by first | simp | assumption) rfl List.not_mem_nil rfl trivial ?_
    refine L.len rfl Try.underlying34 rfl hc rfl rfl trivial ?_
    refine L.move rfl rfl rfl trivial ?_
    refine L.nil ?_
    refine C.next ?_
    refine C.block ?_
    refine C.loopC (γ := Nat) (fun i => y.chairs.length - i) (fun i => i ≤ y.chairs.length ∧ ((y.chairs.zip t).take i).all (fun x => ptsIs x.1.parts x.2) = true) (fun i => [(18, .int .i64 (i : Int))]) [(17, _), (16, _), (4, _), (1, _)] (fun i => [E1, D]) 0 (by simp) ⟨(by first | rfl | (show some (Value.int _ _) = some (Value.int _ _); congr 2; omega)), trivial⟩ ⟨rfl, rfl, rfl, rfl, trivial⟩ (ds_same) ?_
    rintro i ⟨h1, h2⟩
    refine C.seq ?_
    refine C.region [(false,0)] rfl ?_
    refine L.lss rfl rfl rfl rfl trivial ?_
    refine L.nil ?_
    refine C.next ?_
    refine C.seq ?_
    refine C.condD rfl (fun hc2 => ?_) (fun hc2 => ?_)
    · have hi : i < y.chairs.length := by omega
      obtain ⟨x, hx⟩ : ∃ x, y.chairs[i]? = some x := ⟨_, List.getElem?_eq_getElem hi⟩
      obtain ⟨z, hz⟩ : ∃ z, t[i]? = some z := ⟨_, List.getElem?_eq_getElem (by omega)⟩
      refine C.skip ?_
      refine C.next ?_
      refine C.seq ?_
      refine C.block ?_
      refine C.seq ?_
      refine C.region [(false,0),(false,1),(false,2),(false,3),(false,4),(false,5)] rfl ?_
      refine L.move rfl rfl rfl trivial ?_
      refine L.indexS rfl Try.underlying34 Tf.s115 rfl hc rfl (by omega) hx rfl trivial (fun b1 o1 cs1 hr1 hcl1 hA1 => ?_)
      obtain rfl : cs1 = [.int .i64 _, .int .i64 _, .int .i64 _, .int .i64 _] := hr1
      refine L.loadDW rfl Tf.a115 rfl hA1 (by first | simp | assumption) Tf.s115 List.not_mem_nil rfl trivial ?_
      refine L.alloc rfl Tf.z115 rfl rfl trivial (fun q2 => ?_)
      refine L.assign rfl rfl rfl trivial ?_
      refine L.storeW rfl rfl rfl rfl Tf.s115 (by first | rfl | (simp only [ints_length, *]; done) | (simp only [ints_length, *]; rfl) | (simp only [ints_length, *]; omega)) (by first | rfl | (simp only [ints_length, *]; done) | (simp only [ints_length, *]; rfl) | (simp only [ints_length, *]; omega)) (Has.head) (by first | exact ints_cell1 _ | simp [cell1]) trivial ?_
      refine L.nil ?_
      refine C.next ?_
      refine C.seq ?_
      refine C.region [(false,0),(false,1),(false,2)] rfl ?_
      refine L.fieldAddr rfl Tf.f115_1 rfl rfl trivial ?_
      refine L.loadBP rfl Tf.a113 Tf.s113 rfl (List.Mem.head _) rfl rfl List.not_mem_nil rfl trivial ?_
      refine L.move rfl rfl rfl trivial ?_
      refine L.nil ?_
      refine C.next ?_
      refine C.block ?_
      refine C.loopC (γ := Nat) (fun k => 3 - k) (fun k => k ≤ 3 ∧ ((x.parts.l.zip z.l).take k).all (fun q => partIs q.1 q.2) = true) (fun k => [(25, .int .i64 (k : Int))]) [(24, _), (23, _), (5, _), (6, _), (22, _), (21, _), (20, _), (19, _), (18, _), (17, _), (16, _), (4, _), (1, _)] (fun k => [E1, D]) 0 (by simp) ⟨(by first | rfl | (show some (Value.int _ _) = some (Value.int _ _); congr 2; omega)), trivial⟩ ⟨rfl, rfl, rfl, rfl, rfl, rfl, rfl, rfl, rfl, rfl, rfl, rfl, rfl, trivial⟩ (ds_same) ?_
      rintro k ⟨h3, h4⟩
      refine C.seq ?_
      refine C.region [(false,0)] rfl ?_
      refine L.lss rfl rfl rfl rfl trivial ?_
      refine L.nil ?_
      refine C.next ?_
      refine C.seq ?_
      refine C.condD rfl (fun hc3 => ?_) (fun hc3 => ?_)
      · have hk3 : k < 3 := by omega
        obtain ⟨n, hn⟩ : ∃ n, x.parts.l[k]? = some n := ⟨_, List.getElem?_eq_getElem (by simp [Pt.l]; omega)⟩
        obtain ⟨m, hm⟩ : ∃ m, z.l[k]? = some m := ⟨_, List.getElem?_eq_getElem (by simp [Pt.l]; omega)⟩
        refine C.skip ?_
        refine C.next ?_
        refine C.seq ?_
        refine C.block ?_
        refine C.seq ?_
        refine C.region [(false,0),(false,1),(false,2),(false,3)] rfl ?_
        refine L.move rfl rfl rfl trivial ?_
        refine L.indexV (l := x.parts.l) rfl Try.underlying113 Tf.a3 Tf.s3 rfl rfl (by omega) (by omega) hn rfl trivial ?_
        refine L.assign rfl rfl rfl trivial ?_
        refine L.assign rfl rfl rfl trivial ?_
        refine L.nil ?_
        refine C.next ?_
        refine C.seq ?_
        refine C.region [(false,0),(false,1),(false,2),(false,3),(false,4),(false,5),(false,6),(false,7),(false,8),(false,9),(false,10),(false,11),(false,12),(false,13),(false,14),(false,15),(false,16),(false,17),(false,18),(false,19),(false,20),(false,21)] rfl ?_
        refine L.move rfl rfl rfl trivial ?_
        refine L.move rfl rfl rfl trivial ?_
        refine L.move rfl rfl rfl trivial ?_
        refine L.indexS rfl Try.underlying39 Tf.s113 rfl ht rfl (by omega) hz rfl trivial (fun b2 o2 cs2 hr2 hcl2 hA2 => ?_)
        obtain rfl : cs2 = [.int .i64 _, .int .i64 _, .int .i64 _] := hr2
        refine L.indexA rfl Try.underlying113 Tf.s3 rfl rfl (by omega) (by omega) rfl trivial ?_
        refine L.loadD1 (k := k * 1) rfl Tf.a3 rfl hA2 (by simp) (pt_get hm) List.not_mem_nil rfl trivial ?_
        refine L.callV rfl rfl rfl (fun D1 hD1 => within_ok _ _ _ _) rfl trivial ?_
        refine L.not rfl rfl rfl trivial ?_
        refine L.move rfl rfl rfl trivial ?_
        refine' L.or [(false,9),(false,10),(false,11),(false,12),(false,13),(false,14),(false,15),(false,16),(false,17),(false,18),(false,19),(false,20),(false,21)] [] (s := 37) (p := 50) rfl rfl (fun hg1 => ?_) (fun hg1 => ?_) ?_
        rotate_left
        · refine L.move rfl rfl rfl ⟨_, rfl, rfl⟩ ?_
          refine L.neq rfl rfl rfl rfl ⟨_, rfl, rfl⟩ ?_
          refine L.move rfl rfl rfl ⟨_, rfl, rfl⟩ ?_
          refine' L.and [(false,12),(false,13),(false,14),(false,15),(false,16),(false,17),(false,18),(false,19),(false,20)] [(false,21)] (s := 40) (p := 49) rfl rfl (fun hg2 => ?_) (fun hg2 => ?_) ?_
          rotate_left
          · refine L.move rfl rfl rfl ⟨_, rfl, rfl⟩ ?_
            refine L.move rfl rfl rfl ⟨_, rfl, rfl⟩ ?_
            refine L.move rfl rfl rfl ⟨_, rfl, rfl⟩ ?_
            refine L.indexS rfl Try.underlying39 Tf.s113 rfl ht rfl (by omega) hz rfl ⟨_, rfl, rfl⟩ (fun b3 o3 cs3 hr3 hcl3 hA3 => ?_)
            obtain rfl : cs3 = [.int .i64 _, .int .i64 _, .int .i64 _] := hr3
            refine L.indexA rfl Try.underlying113 Tf.s3 rfl rfl (by omega) (by omega) rfl ⟨_, rfl, rfl⟩ ?_
            refine L.loadD1 (k := k * 1) rfl Tf.a3 rfl hA3 (by simp) (pt_get hm) List.not_mem_nil rfl ⟨_, rfl, rfl⟩ ?_
            refine L.move rfl rfl rfl ⟨_, rfl, rfl⟩ ?_
            refine L.neq rfl rfl rfl rfl ⟨_, rfl, rfl⟩ ?_
            refine L.pickT rfl rfl rfl rfl ⟨_, rfl, rfl⟩ ?_
            exact L.nil fun a w hh => hh.cutK 8 rfl
          · refine L.pass rfl rfl rfl ⟨_, _, rfl, rfl, rfl⟩ ?_
            refine L.pass rfl rfl rfl ⟨_, _, rfl, rfl, rfl⟩ ?_
            refine L.pass rfl rfl rfl ⟨_, _, rfl, rfl, rfl⟩ ?_
            refine L.pass rfl rfl rfl ⟨_, _, rfl, rfl, rfl⟩ ?_
            refine L.pass rfl rfl rfl ⟨_, _, rfl, rfl, rfl⟩ ?_
            refine L.pass rfl rfl rfl ⟨_, _, rfl, rfl, rfl⟩ ?_
            refine L.pass rfl rfl rfl ⟨_, _, rfl, rfl, rfl⟩ ?_
            refine L.pass rfl rfl rfl ⟨_, _, rfl, rfl, rfl⟩ ?_
            refine L.pickF rfl rfl rfl rfl ⟨_, rfl, rfl⟩ ?_
            exact L.nil fun a w hh => hh.cutK 8 rfl
          refine L.pickF rfl rfl rfl rfl trivial ?_
          exact L.nil fun a w hh => hh.cutK 4 rfl
        · refine L.pass rfl rfl rfl ⟨_, _, rfl, rfl, rfl⟩ ?_
          refine L.pass rfl rfl rfl ⟨_, _, rfl, rfl, rfl⟩ ?_
          refine L.pass rfl rfl rfl ⟨_, _, rfl, rfl, rfl⟩ ?_
          refine L.pass rfl rfl rfl ⟨_, _, rfl, rfl, rfl⟩ ?_
          refine L.pass rfl rfl rfl ⟨_, _, rfl, rfl, rfl⟩ ?_
          refine L.pass rfl rfl rfl ⟨_, _, rfl, rfl, rfl⟩ ?_
          refine L.pass rfl rfl rfl ⟨_, _, rfl, rfl, rfl⟩ ?_
          refine L.pass rfl rfl rfl ⟨_, _, rfl, rfl, rfl⟩ ?_
          refine L.pass rfl rfl rfl ⟨_, _, rfl, rfl, rfl⟩ ?_
          refine L.pass rfl rfl rfl ⟨_, _, rfl, rfl, rfl⟩ ?_
          refine L.pass rfl rfl rfl ⟨_, _, rfl, rfl, rfl⟩ ?_
          refine L.pass rfl rfl rfl ⟨_, _, rfl, rfl, rfl⟩ ?_
          refine L.pickT rfl rfl rfl rfl trivial ?_
          exact L.nil fun a w hh => hh.cutK 12 rfl
        refine L.nil ?_
        refine C.next ?_
        refine C.cond rfl (fun hc4 => ?_) (fun hc4 => ?_)
        · refine C.seq ?_
          refine C.region [(false,0)] rfl ?_
          refine L.assign rfl rfl rfl trivial ?_
          refine L.nil ?_
          refine C.next ?_
          refine C.ret ?_
          refine C.blockRet ?_
          refine C.thenRet ?_
          refine C.thenRet ?_
          refine C.blockRet ?_
          refine C.blockRet ?_
          refine C.thenRet ?_
          refine C.thenRet ?_
          refine C.blockRet ?_
          refine C.thenRet ?_
          exact leave (vs := [_]) rfl rfl rfl ⟨rfl, trivial⟩ (fun D hD => by show Value.bool _ = _; rw [ist_no hx hz hn hm hc4])
        · refine C.skip ?_
          refine C.blockEnd ?_
          refine C.next ?_
          refine C.region [(false,0),(false,1)] rfl ?_
          refine L.add rfl rfl rfl (by simp only [inK]; omega) rfl trivial ?_
          refine L.move rfl rfl rfl trivial ?_
          refine L.nil ?_
          exact C.againR 18 (k + 1) ⟨by omega, isp_step hn hm h4 hc4⟩ (by omega) ⟨(by first | rfl | (show some (Value.int _ _) = some (Value.int _ _); congr 2; omega)), trivial⟩ rfl rfl (List.Sublist.refl _) (ds_same)
      · obtain rfl : k = 3 := by omega
        refine C.exit ?_
        refine C.thenExit ?_
        refine C.thenExit ?_
        refine C.blockExit ?_
        refine C.blockEnd ?_
        refine C.next ?_
        refine C.region [(false,0),(false,1)] rfl ?_
        refine L.add rfl rfl rfl (by simp only [inK]; omega) rfl trivial ?_
        refine L.move rfl rfl rfl trivial ?_
        refine L.nil ?_
        exact C.againR 13 (i + 1) ⟨by omega, ist_step hx hz h2 h4⟩ (by omega) ⟨(by first | rfl | (show some (Value.int _ _) = some (Value.int _ _); congr 2; omega)), trivial⟩ rfl rfl (List.Sublist.cons _ (List.Sublist.refl _)) (ds_same)
    · obtain rfl : i = y.chairs.length := by omega
      refine C.exit ?_
      refine C.thenExit ?_
      refine C.thenExit ?_
      refine C.blockExit ?_
      refine C.next ?_
      refine C.seq ?_
      refine C.region [(false,0)] rfl ?_
      refine L.assign rfl rfl rfl trivial ?_
      refine L.nil ?_
      refine C.next ?_
      refine C.ret ?_
      exact leave (vs := [_]) rfl rfl rfl ⟨rfl, trivial⟩ (fun D hD => by show Value.bool _ = _; rw [ist_yes hlen h2])
end Go.Fs
namespace Go.Fs
open Go.Proofs
open C7
def Bits1 (p : Pt) : Prop := (0 ≤ p.a ∧ p.a ≤ 1) ∧ (0 ≤ p.b ∧ p.b ≤ 1) ∧ (0 ≤ p.c ∧ p.c ≤ 1)
def joins (p q : Pt) : Bool := (!isWhole p && !isWhole q) && isWhole ⟨max p.a q.a, max p.b q.b, max p.c q.c⟩
def nearC (f : Int) (x z : Ch) : Bool := inB (x.size - z.size) (-f) f
theorem joins_ok (p q : Pt) (D : Data) (hp : Bits1 p) (hq : Bits1 q) : Fn Try.prog 109 #[ptV p, ptV q] D (fun _ v => v = .bool (joins p q)) := by
  refine enter 32 Try.func109 rfl rfl rfl rfl fun h0 => ?_
  refine C.seq ?_
  refine C.region [(false,0),(false,1),(false,2)] rfl ?_
  refine L.boxD rfl rfl rfl rfl trivial (fun q1 E1 hE1 hB1 => ?_)
  refine L.boxD rfl rfl rfl rfl trivial (fun q2 E2 hE2 hB2 => ?_)
  refine L.assign rfl rfl rfl trivial ?_
  refine L.nil ?_
  refine C.next ?_
  refine C.seq ?_
  refine C.region [(false,0),(false,1),(false,2),(false,3),(false,4),(false,5),(false,6),(false,7),(false,8),(false,9),(false,10),(false,11),(false,12),(false,13),(false,14),(false,15),(false,16),(false,17),(false,18),(false,19),(false,20),(false,21),(false,22),(false,23),(false,24),(false,25),(false,26),(false,27)] rfl ?_
  refine L.loadDW rfl Tf.a113 rfl hB1 (by first | simp | assumption) (by first | exact Tf.s113 | (simp only [ints_length, *]; exact Tf.s113)) List.not_mem_nil rfl trivial ?_
  refine L.callV rfl rfl rfl (fun D1 hD1 => whole_ok p _) rfl trivial ?_
  refine L.not rfl rfl rfl trivial ?_
  refine L.move rfl rfl rfl trivial ?_
  refine' L.and [(false,4),(false,5),(false,6),(false,7)] [(false,8),(false,9),(false,10),(false,11),(false,12),(false,13),(false,14),(false,15),(false,16),(false,17),(false,18),(false,19),(false,20),(false,21),(false,22),(false,23),(false,24),(false,25),(false,26),(false,27)] (s := 8) (p := 12) rfl rfl (fun hg1 => ?_) (fun hg1 => ?_) ?_
  rotate_left
  · refine L.loadDW rfl Tf.a113 rfl hB2 (by first | simp | assumption) (by first | exact Tf.s113 | (simp only [ints_length, *]; exact Tf.s113)) List.not_mem_nil rfl ⟨_, rfl, rfl⟩ ?_
    refine L.callV rfl rfl rfl (fun D2 hD2 => whole_ok q _) rfl ⟨_, rfl, rfl⟩ ?_
    refine L.not rfl rfl rfl ⟨_, rfl, rfl⟩ ?_
    refine L.pickT rfl rfl rfl rfl trivial ?_
    exact L.nil fun a w hh => hh.cutK 3 rfl
  · refine L.pass rfl rfl rfl ⟨_, _, rfl, rfl, rfl⟩ ?_
    refine L.pass rfl rfl rfl ⟨_, _, rfl, rfl, rfl⟩ ?_
    refine L.pass rfl rfl rfl ⟨_, _, rfl, rfl, rfl⟩ ?_
    refine L.pickF rfl rfl rfl rfl trivial ?_
    exact L.nil fun a w hh => hh.cutK 3 rfl
  refine L.move rfl rfl rfl trivial ?_
  refine' L.and [(false,9),(false,10),(false,11),(false,12),(false,13),(false,14),(false,15),(false,16),(false,17),(false,18),(false,19),(false,20),(false,21),(false,22),(false,23),(false,24),(false,25),(false,26)] [(false,27)] (s := 13) (p := 31) rfl rfl (fun hg2 => ?_) (fun hg2 => ?_) ?_
  rotate_left
  · refine L.indexB rfl Try.underlying113 Tf.s3 rfl rfl (by decide) (by decide) rfl ⟨_, rfl, rfl⟩ ?_
    refine L.loadDI rfl Tf.a3 rfl hB1 (by simp) rfl List.not_mem_nil rfl ⟨_, rfl, rfl⟩ ?_
    refine L.indexB rfl Try.underlying113 Tf.s3 rfl rfl (by decide) (by decide) rfl ⟨_, rfl, rfl⟩ ?_
    refine L.loadDI rfl Tf.a3 rfl hB2 (by simp) rfl List.not_mem_nil rfl ⟨_, rfl, rfl⟩ ?_
    refine L.or01 rfl rfl rfl hp.1 hq.1 rfl ⟨_, rfl, rfl⟩ ?_
    refine L.indexB rfl Try.underlying113 Tf.s3 rfl rfl (by decide) (by decide) rfl ⟨_, rfl, rfl⟩ ?_
    refine L.loadDI rfl Tf.a3 rfl hB1 (by simp) rfl List.not_mem_nil rfl ⟨_, rfl, rfl⟩ ?_
    refine L.indexB rfl Try.underlying113 Tf.s3 rfl rfl (by decide) (by decide) rfl ⟨_, rfl, rfl⟩ ?_
    refine L.loadDI rfl Tf.a3 rfl hB2 (by simp) rfl List.not_mem_nil rfl ⟨_, rfl, rfl⟩ ?_
    refine L.or01 rfl rfl rfl hp.2.1 hq.2.1 rfl ⟨_, rfl, rfl⟩ ?_
    refine L.indexB rfl Try.underlying113 Tf.s3 rfl rfl (by decide) (by decide) rfl ⟨_, rfl, rfl⟩ ?_
    refine L.loadDI rfl Tf.a3 rfl hB1 (by simp) rfl List.not_mem_nil rfl ⟨_, rfl, rfl⟩ ?_
    refine L.indexB rfl Try.underlying113 Tf.s3 rfl rfl (by decide) (by decide) rfl ⟨_, rfl, rfl⟩ ?_
    refine L.loadDI rfl Tf.a3 rfl hB2 (by simp) rfl List.not_mem_nil rfl ⟨_, rfl, rfl⟩ ?_
    refine L.or01 rfl rfl rfl hp.2.2 hq.2.2 rfl ⟨_, rfl, rfl⟩ ?_
    refine L.buildA (cs := [.int .i64 (max p.a q.a), .int .i64 (max p.b q.b), .int .i64 (max p.c q.c)]) rfl Try.underlying113 Tf.s3 Tf.z113 rfl rfl rfl ⟨_, rfl, rfl⟩ ?_
    refine L.callV rfl rfl rfl (fun D3 hD3 => whole_ok ⟨max p.a q.a, max p.b q.b, max p.c q.c⟩ _) rfl ⟨_, rfl, rfl⟩ ?_
    refine L.pickT rfl rfl rfl rfl trivial ?_
    exact L.nil fun a w hh => hh.cutK 17 rfl
  · refine L.pass rfl rfl rfl ⟨_, _, rfl, rfl, rfl⟩ ?_
    refine L.pass rfl rfl rfl ⟨_, _, rfl, rfl, rfl⟩ ?_
    refine L.pass rfl rfl rfl ⟨_, _, rfl, rfl, rfl⟩ ?_
    refine L.pass rfl rfl rfl ⟨_, _, rfl, rfl, rfl⟩ ?_
    refine L.pass rfl rfl rfl ⟨_, _, rfl, rfl, rfl⟩ ?_
    refine L.pass rfl rfl rfl ⟨_, _, rfl, rfl, rfl⟩ ?_
    refine L.pass rfl rfl rfl ⟨_, _, rfl, rfl, rfl⟩ ?_
    refine L.pass rfl rfl rfl ⟨_, _, rfl, rfl, rfl⟩ ?_
    refine L.pass rfl rfl rfl ⟨_, _, rfl, rfl, rfl⟩ ?_
    refine L.pass rfl rfl rfl ⟨_, _, rfl, rfl, rfl⟩ ?_
    refine L.pass rfl rfl rfl ⟨_, _, rfl, rfl, rfl⟩ ?_
    refine L.pass rfl rfl rfl ⟨_, _, rfl, rfl, rfl⟩ ?_
    refine L.pass rfl rfl rfl ⟨_, _, rfl, rfl, rfl⟩ ?_
    refine L.pass rfl rfl rfl ⟨_, _, rfl, rfl, rfl⟩ ?_
    refine L.pass rfl rfl rfl ⟨_, _, rfl, rfl, rfl⟩ ?_
    refine L.pass rfl rfl rfl ⟨_, _, rfl, rfl, rfl⟩ ?_
    refine L.pass rfl rfl rfl ⟨_, _, rfl, rfl, rfl⟩ ?_
    refine L.pickF rfl rfl rfl rfl trivial ?_
    exact L.nil fun a w hh => hh.cutK 17 rfl
  refine L.assign rfl rfl rfl trivial ?_
  refine L.nil ?_
  refine C.next ?_
  refine C.ret ?_
  exact leave (vs := [_]) rfl rfl rfl ⟨rfl, trivial⟩ (fun D hD => rfl)
theorem near_ok (yv : Value) (y : YardD) (a b : Nat) (x z : Ch) (D : Data) (hy : YardIs D yv y) (hf : 0 ≤ y.fit ∧ y.fit ≤ 9) (hx : y.chairs[a]? = some x) (hz : y.chairs[b]? = some z) (hxs : 0 ≤ x.size ∧ x.size ≤ 9) (hzs : 0 ≤ z.size ∧ z.size ≤ 9) : Fn Try.prog 92 #[yv, .int .i64 (a : Int), .int .i64 (b : Int)] D (fun _ v => v = .bool (nearC y.fit x z)) := by
  obtain ⟨cv, qv, rfl, hc, hq⟩ := hy
  refine enter 26 Try.func92 rfl rfl rfl rfl fun h0 => ?_
  refine C.seq ?_
  refine C.region [(false,0),(false,1)] rfl ?_
  refine L.boxD rfl rfl rfl rfl trivial (fun q1 E1 hE1 hB1 => ?_)
  refine L.assign rfl rfl rfl trivial ?_
  refine L.nil ?_
  refine C.next ?_
  refine C.seq ?_
  refine C.draw [] 6 [0,1,2,3,4,5,6,7,8,9,10,11,12,13,14,15,16,17,18,19] [false,false,true,false,false,false,true,true,true,true,true,true,false,true,true,true,true,true,false,false] [(false,0),(false,1),(true,2),(false,3),(false,4),(false,5),(true,6),(true,7),(true,8),(true,9),(true,10),(true,11),(false,12),(true,13),(true,14),(true,15),(true,16),(true,17),(false,18),(false,19)] Tf.follows (fun _ _ _ h => np_body (P := Try.prog) (fn := Try.f92) _ _ _ h) (by kernel_rfl) rfl ?_
  refine L.fieldAddr rfl Tf.f37_0 rfl rfl trivial ?_
  refine L.loadD1 rfl (k := 0) Tf.a34 rfl hB1 (by first | simp | assumption) rfl List.not_mem_nil rfl trivial ?_
  refine L.move rfl rfl rfl trivial ?_
  refine L.indexS rfl Try.underlying34 Tf.s115 rfl hc rfl (by omega) hx rfl trivial (fun b1 o1 cs1 hr1 hcl1 hA1 => ?_)
  obtain rfl : cs1 = [.int .i64 _, .int .i64 _, .int .i64 _, .int .i64 _] := hr1
  refine L.fieldAddr rfl Tf.f115_0 rfl rfl trivial ?_
  refine L.loadD1 rfl (k := 0) Tf.a3 rfl hA1 (by first | simp | assumption) rfl List.not_mem_nil rfl trivial ?_
  refine L.fieldAddr rfl Tf.f37_0 rfl rfl trivial ?_
  refine L.loadD1 rfl (k := 0) Tf.a34 rfl hB1 (by first | simp | assumption) rfl List.not_mem_nil rfl trivial ?_
  refine L.move rfl rfl rfl trivial ?_
  refine L.indexS rfl Try.underlying34 Tf.s115 rfl hc rfl (by omega) hz rfl trivial (fun b2 o2 cs2 hr2 hcl2 hA2 => ?_)
  obtain rfl : cs2 = [.int .i64 _, .int .i64 _, .int .i64 _, .int .i64 _] := hr2
  refine L.fieldAddr rfl Tf.f115_0 rfl rfl trivial ?_
  refine L.loadD1 rfl (k := 0) Tf.a3 rfl hA2 (by first | simp | assumption) rfl List.not_mem_nil rfl trivial ?_
  refine L.sub rfl rfl rfl (by simp only [inK]; omega) rfl trivial ?_
  refine L.fieldAddr rfl Tf.f37_1 rfl rfl trivial ?_
  refine L.loadD1 rfl (k := 1) Tf.a3 rfl hB1 (by first | simp | assumption) rfl List.not_mem_nil rfl trivial ?_
  refine L.neg rfl rfl (by simp only [inK]; omega) rfl trivial ?_
  refine L.fieldAddr rfl Tf.f37_1 rfl rfl trivial ?_
  refine L.loadD1 rfl (k := 1) Tf.a3 rfl hB1 (by first | simp | assumption) rfl List.not_mem_nil rfl trivial ?_
  refine L.callV rfl rfl rfl (fun D1 hD1 => within_ok _ _ _ _) rfl trivial ?_
  refine L.assign rfl rfl rfl trivial ?_
  refine L.nil ?_
  refine C.next ?_
  refine C.ret ?_
  exact leave (vs := [_]) rfl rfl rfl ⟨rfl, trivial⟩ (fun D hD => rfl)
end Go.Fs
