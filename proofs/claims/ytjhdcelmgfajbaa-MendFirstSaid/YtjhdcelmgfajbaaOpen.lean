/- How the arguments of layer 7 read. -/
import Derived.Test.YtjhdcelmgfajbaaShell
import Derived.Test.YtjhdcelmgfajbaaYard
namespace Go.Fs
open Go.Proofs
open C7 Go.ChangeShapes Go.WideShapes Go.RowKit
theorem list2 {α : Type} {l : List α} (h : l.length = 2) : ∃ a b, l = [a, b] := by
  match l, h with
  | [a, b], _ => exact ⟨a, b, rfl⟩
theorem list4 {α : Type} {l : List α} (h : l.length = 4) : ∃ a b c d, l = [a, b, c, d] := by
  match l, h with
  | [a, b, c, d], _ => exact ⟨a, b, c, d, rfl⟩
def RYard : Rd YardD := fun D y cs => YardIs D (.agg cs.toArray) y
section
variable {H : Type} {enc : TypeId × Value → H} {P : Program} {t : TypeId} {fs : Array Field} {W : World} {r : Reach} {b0 : Nat} {v : Value} {d : DataW H} {ps : List MemPlace} {k : Nat}
theorem trod_field {n : Nat} {cs : List Value} {x : DataW H × List MemPlace} (ht : P.underlying t = some (.struct fs)) (h : DataW.trod enc P W 0 (fun _ => true) true n t cs = some x) :
    cs.length = P.cellsOf t ∧ ∀ (i o u : Nat), (fs[i]?).map (fun f => (f.offset, f.type)) = some (o, u) → ∃ m y, DataW.trod enc P W 0 (fun _ => true) true m u ((cs.drop o).take (P.cellsOf u)) = some y := by
  obtain ⟨xs, m, _, _, hlen, hsz, hf⟩ := DataW.trod_struct ht h
  refine ⟨hlen, fun i o u hi => ?_⟩
  rw [Option.map_eq_some_iff] at hi
  obtain ⟨f, hi, he⟩ := hi
  simp only [Prod.mk.injEq] at he
  obtain ⟨rfl, rfl⟩ := he
  have h1 := hf i f hi
  have hl : i < xs.length := by rw [hsz]; exact (Array.getElem?_eq_some_iff.1 hi).1
  rw [List.getElem?_eq_getElem hl] at h1
  exact ⟨m, _, h1⟩
theorem open_yard (ht : P.underlying t = some (.struct fs)) (hk : P.cellsOf t = k) (hr : Reads P t RYard) (hval : Value.okWide P W r b0 t v) (hd : DataW.Trod enc P W 0 (fun _ => true) true t v d ps) : ∃ y, YardIs (full W) v y := by
  obtain ⟨cs, rfl, hsz, n, x, hx⟩ := open_struct ht hk hval hd
  obtain ⟨r, hr⟩ := hr _ _ _ _ _ hx
  exact ⟨r, by simpa [RYard] using hr⟩
end
theorem cells_25 : Try.prog.cellsOf 25 = 3 := by kernel_rfl
theorem cells_26 : Try.prog.cellsOf 26 = 1 := by kernel_rfl
theorem cells_27 : Try.prog.cellsOf 27 = 1 := by kernel_rfl
theorem cells_22 : Try.prog.cellsOf 22 = 1 := by kernel_rfl
theorem cells_23 : Try.prog.cellsOf 23 = 1 := by kernel_rfl
theorem cells_3 : Try.prog.cellsOf 3 = 1 := by kernel_rfl
theorem cells_94 : Try.prog.cellsOf 94 = 4 := by kernel_rfl
theorem cells_67 : Try.prog.cellsOf 67 = 2 := by kernel_rfl
theorem cells_91 : Try.prog.cellsOf 91 = 3 := by kernel_rfl
theorem cells_130 : Try.prog.cellsOf 130 = 2 := by kernel_rfl
theorem cells_52 : Try.prog.cellsOf 52 = 1 := by kernel_rfl
theorem reads_range : Reads Try.prog 67 R2 := fun enc W n cs x hx => by
  obtain ⟨hl, hp⟩ := trod_parts Try.underlying67 cells_67 hx
  obtain ⟨c0, c1, rfl⟩ := list2 hl
  obtain ⟨m0, y0, h0⟩ := hp 0 0 3 c0 rfl cells_3 rfl
  obtain ⟨m1, y1, h1⟩ := hp 1 1 3 c1 rfl cells_3 rfl
  obtain ⟨k, e0, _⟩ := DataW.trod_int Try.underlying3 h0
  obtain ⟨l, e1, _⟩ := DataW.trod_int Try.underlying3 h1
  simp only [List.cons.injEq, and_true] at e0 e1
  subst e0 e1
  exact ⟨(k, l), rfl⟩
theorem reads_pair : Reads Try.prog 130 R2 := fun enc W n cs x hx => by
  obtain ⟨hl, hp⟩ := trod_parts Try.underlying130 cells_130 hx
  obtain ⟨c0, c1, rfl⟩ := list2 hl
  obtain ⟨m0, y0, h0⟩ := hp 0 0 3 c0 rfl cells_3 rfl
  obtain ⟨m1, y1, h1⟩ := hp 1 1 3 c1 rfl cells_3 rfl
  obtain ⟨k, e0, _⟩ := DataW.trod_int Try.underlying3 h0
  obtain ⟨l, e1, _⟩ := DataW.trod_int Try.underlying3 h1
  simp only [List.cons.injEq, and_true] at e0 e1
  subst e0 e1
  exact ⟨(k, l), rfl⟩
theorem reads_pt : Reads Try.prog 91 RP := fun enc W n cs x hx => by
  obtain ⟨xs, m, _, _, hlen, hn, hf⟩ := DataW.trod_array Try.underlying91 hx
  rw [cells_91] at hlen
  obtain ⟨c0, c1, c2, rfl⟩ := list3 hlen
  have e : ∀ i, i < 3 → ∃ y, DataW.trod enc Try.prog W 0 (fun _ => true) true m 3 (([c0, c1, c2].drop i).take 1) = some y := fun i hi => by
    have := hf i hi
    rw [List.getElem?_eq_getElem (by omega), cells_3, Nat.mul_one] at this
    exact ⟨_, this⟩
  obtain ⟨y0, h0⟩ := e 0 (by omega)
  obtain ⟨y1, h1⟩ := e 1 (by omega)
  obtain ⟨y2, h2⟩ := e 2 (by omega)
  obtain ⟨k, e0, _⟩ := DataW.trod_int Try.underlying3 h0
  obtain ⟨l, e1, _⟩ := DataW.trod_int Try.underlying3 h1
  obtain ⟨j, e2, _⟩ := DataW.trod_int Try.underlying3 h2
  simp only [List.drop_zero, List.drop_succ_cons, List.take_succ_cons, List.take_zero, List.cons.injEq, and_true] at e0 e1 e2
  subst e0 e1 e2
  exact ⟨⟨k, l, j⟩, rfl⟩
theorem reads_ch : Reads Try.prog 94 RCh := fun enc W n cs x hx => by
  obtain ⟨hl, hp⟩ := trod_field Try.underlying94 hx
  rw [cells_94] at hl
  obtain ⟨c0, c1, c2, c3, rfl⟩ := list4 hl
  obtain ⟨m0, y0, h0⟩ := hp 0 0 3 rfl
  obtain ⟨m1, y1, h1⟩ := hp 1 1 91 rfl
  rw [cells_3] at h0
  rw [cells_91] at h1
  obtain ⟨k, e0, _⟩ := DataW.trod_int Try.underlying3 h0
  obtain ⟨p, e1⟩ := reads_pt _ _ _ _ _ h1
  simp only [RP, List.drop_zero, List.drop_succ_cons, List.take_succ_cons, List.take_zero, List.cons.injEq, and_true] at e0 e1
  obtain ⟨rfl, rfl, rfl⟩ := e1
  subst e0
  exact ⟨⟨k, p⟩, rfl⟩
theorem reads_chs : Reads Try.prog 22 (RSl RCh 4) := Reads.slice Try.underlying22 cells_94 (by decide) reads_ch
theorem reads_ranges : Reads Try.prog 23 (RSl R2 2) := Reads.slice Try.underlying23 cells_67 (by decide) reads_range
theorem reads_pairs : Reads Try.prog 27 (RSl R2 2) := Reads.slice Try.underlying27 cells_130 (by decide) reads_pair
theorem reads_pts : Reads Try.prog 26 (RSl RP 3) := Reads.slice Try.underlying26 cells_91 (by decide) reads_pt
theorem reads_ints : Reads Try.prog 52 (RSl RI 1) := Reads.slice Try.underlying52 cells_3 (by decide) (Reads.int Try.underlying3)
theorem reads_yard : Reads Try.prog 25 RYard := fun enc W n cs x hx => by
  obtain ⟨hl, hp⟩ := trod_parts Try.underlying25 cells_25 hx
  obtain ⟨c0, c1, c2, rfl⟩ := list3 hl
  obtain ⟨m0, y0, h0⟩ := hp 0 0 22 c0 rfl cells_22 rfl
  obtain ⟨m1, y1, h1⟩ := hp 1 1 3 c1 rfl cells_3 rfl
  obtain ⟨m2, y2, h2⟩ := hp 2 2 23 c2 rfl cells_23 rfl
  obtain ⟨chairs, u0, e0, s0⟩ := reads_chs _ _ _ _ _ h0
  obtain ⟨k, e1, _⟩ := DataW.trod_int Try.underlying3 h1
  obtain ⟨claims, u2, e2, s2⟩ := reads_ranges _ _ _ _ _ h2
  simp only [List.cons.injEq, and_true] at e0 e1 e2
  subst e0 e1 e2
  exact ⟨⟨chairs, k, claims⟩, _, _, rfl, s0, s2⟩
theorem cells_82 : Try.prog.cellsOf 82 = 1 := by kernel_rfl
theorem reads_words : Reads Try.prog 83 (RSl (RK .u16) 1) := Reads.slice Try.underlying83 cells_82 (by decide) (Reads.kind Try.underlying82)
end Go.Fs
