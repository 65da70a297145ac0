/- How the arguments of layer 1 read. -/
import Derived.Test.YtgnnlghoadfffaaShell
import Derived.Test.YtgnnlghoadfffaaRow
namespace Go.Fs
open Go.Proofs
open C1 Go.ChangeShapes Go.WideShapes Go.RowKit
theorem list4 {α : Type} {l : List α} (h : l.length = 4) : ∃ a b c d, l = [a, b, c, d] := by
  match l, h with
  | [a, b, c, d], _ => exact ⟨a, b, c, d, rfl⟩
def RRow : Rd RowD := fun D r cs => RowIs D (.agg cs.toArray) r
section
variable {H : Type} {enc : TypeId × Value → H} {P : Program} {t : TypeId} {fs : Array Field} {W : World} {r : Reach} {b0 : Nat} {v : Value} {d : DataW H} {ps : List MemPlace} {k : Nat}
theorem open_cnt (ht : P.underlying t = some (.struct fs)) (hk : P.cellsOf t = k) (hr : Reads P t RC) (hval : Value.okWide P W r b0 t v) (hd : DataW.Trod enc P W 0 (fun _ => true) true t v d ps) : ∃ c, v = cV c := by
  obtain ⟨cs, rfl, hsz, n, x, hx⟩ := open_struct ht hk hval hd
  obtain ⟨c, hc⟩ := hr _ _ _ _ _ hx
  have : cs = [.bool c.back, .int .i64 c.many, .int .i64 c.num].toArray := by rw [← hc]
  exact ⟨c, by rw [this]; rfl⟩
theorem open_row (ht : P.underlying t = some (.struct fs)) (hk : P.cellsOf t = k) (hr : Reads P t RRow) (hval : Value.okWide P W r b0 t v) (hd : DataW.Trod enc P W 0 (fun _ => true) true t v d ps) : ∃ r, RowIs (full W) v r := by
  obtain ⟨cs, rfl, hsz, n, x, hx⟩ := open_struct ht hk hval hd
  obtain ⟨r, hr⟩ := hr _ _ _ _ _ hx
  exact ⟨r, by simpa [RRow] using hr⟩
end
theorem cells_3 : Try.prog.cellsOf 3 = 1 := by kernel_rfl
theorem cells_4 : Try.prog.cellsOf 4 = 1 := by kernel_rfl
theorem cells_50 : Try.prog.cellsOf 50 = 3 := by kernel_rfl
theorem cells_22 : Try.prog.cellsOf 22 = 1 := by kernel_rfl
theorem cells_23 : Try.prog.cellsOf 23 = 1 := by kernel_rfl
theorem cells_25 : Try.prog.cellsOf 25 = 4 := by kernel_rfl
theorem reads_ints : Reads Try.prog 22 (RSl RI 1) := Reads.slice Try.underlying22 cells_3 (by decide) (Reads.int Try.underlying3)
theorem reads_cnt : Reads Try.prog 50 RC := fun enc W n cs x hx => by
  obtain ⟨hl, hp⟩ := trod_parts Try.underlying50 cells_50 hx
  obtain ⟨c0, c1, c2, rfl⟩ := list3 hl
  obtain ⟨m0, y0, h0⟩ := hp 0 0 4 c0 rfl cells_4 rfl
  obtain ⟨m1, y1, h1⟩ := hp 1 1 3 c1 rfl cells_3 rfl
  obtain ⟨m2, y2, h2⟩ := hp 2 2 3 c2 rfl cells_3 rfl
  obtain ⟨b, e0, _⟩ := DataW.trod_bool Try.underlying4 h0
  obtain ⟨k, e1, _⟩ := DataW.trod_int Try.underlying3 h1
  obtain ⟨l, e2, _⟩ := DataW.trod_int Try.underlying3 h2
  simp only [List.cons.injEq, and_true] at e0 e1 e2
  subst e0 e1 e2
  exact ⟨⟨b, k, l⟩, rfl⟩
theorem reads_cnts : Reads Try.prog 23 (RSl RC 3) := Reads.slice Try.underlying23 cells_50 (by decide) reads_cnt
theorem reads_row : Reads Try.prog 25 RRow := fun enc W n cs x hx => by
  obtain ⟨hl, hp⟩ := trod_parts Try.underlying25 cells_25 hx
  obtain ⟨c0, c1, c2, c3, rfl⟩ := list4 hl
  obtain ⟨m0, y0, h0⟩ := hp 0 0 22 c0 rfl cells_22 rfl
  obtain ⟨m1, y1, h1⟩ := hp 1 1 23 c1 rfl cells_23 rfl
  obtain ⟨m2, y2, h2⟩ := hp 2 2 3 c2 rfl cells_3 rfl
  obtain ⟨m3, y3, h3⟩ := hp 3 3 3 c3 rfl cells_3 rfl
  obtain ⟨places, u0, e0, s0⟩ := reads_ints _ _ _ _ _ h0
  obtain ⟨counts, u1, e1, s1⟩ := reads_cnts _ _ _ _ _ h1
  obtain ⟨k, e2, _⟩ := DataW.trod_int Try.underlying3 h2
  obtain ⟨l, e3, _⟩ := DataW.trod_int Try.underlying3 h3
  simp only [List.cons.injEq, and_true] at e0 e1 e2 e3
  subst e0 e1 e2 e3
  exact ⟨⟨places, counts, k, l⟩, _, _, rfl, s0, s1⟩
theorem cells_69 : Try.prog.cellsOf 69 = 1 := by kernel_rfl
theorem reads_words : Reads Try.prog 89 (RSl (RK .u16) 1) := Reads.slice Try.underlying89 cells_69 (by decide) (Reads.kind Try.underlying69)
end Go.Fs
