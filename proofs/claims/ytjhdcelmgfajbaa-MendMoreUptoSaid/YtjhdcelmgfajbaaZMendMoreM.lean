/- Of the proof of MendMore: BulkY. -/
import Derived.Test.YtjhdcelmgfajbaaZMendMoreD
import Derived.Test.YtjhdcelmgfajbaaRows
namespace Go.Fs
open Go.Proofs
open C7 Go.ChangeShapes Go.WideShapes Go.RowKit Ytjhdcelmgfajbaa
theorem bulk_one {H : Type} (d : DataW H) : 1 ≤ Rows.uptoBulk d := by
  cases d with
  | lit l => cases l <;> simp [Rows.uptoBulk]
  | _ => simp [Rows.uptoBulk]
theorem bulk_part {H : Type} {d : DataW H} {l : List (DataW H)} (h : d ∈ l) : Rows.uptoBulk d ≤ Rows.uptoBulkAll l := by
  induction l with
  | nil => cases h
  | cons x r ih =>
    simp only [Rows.uptoBulkAll]
    rcases List.mem_cons.1 h with rfl | h
    · omega
    · have := ih h; omega
theorem bulk_length {H : Type} (l : List (DataW H)) : l.length ≤ Rows.uptoBulkAll l := by
  induction l with
  | nil => simp
  | cons x r ih => have := bulk_one x; simp only [Rows.uptoBulkAll, List.length_cons]; omega
theorem open_range {H : Type} {enc : TypeId × Value → H} {P : Program} {t : TypeId} {fs : Array Field} {W : World} {r : Reach} {b0 : Nat} {v : Value} {d : DataW H} {ps : List MemPlace} {k : Nat} (ht : P.underlying t = some (.struct fs)) (hk : P.cellsOf t = k) (hr : Reads P t R2) (hval : Value.okWide P W r b0 t v) (hd : DataW.Trod enc P W 0 (fun _ => true) true t v d ps) : ∃ c, v = k2V c := by
  obtain ⟨cs, rfl, hsz, n, x, hx⟩ := open_struct ht hk hval hd
  obtain ⟨c, hc⟩ := hr _ _ _ _ _ hx
  have h : cs.toList = _ := hc
  exact ⟨c, by rw [show cs = cs.toList.toArray by simp, h]; rfl⟩
theorem chairs_bulk {H : Type} {enc : TypeId × Value → H} {P : Program} {t u e : TypeId} {fs : Array Field} {f : Field} {W : World} {v : Value} {y : YardD} {d : DataW H} {ps : List MemPlace} (ht : P.underlying t = some (.struct fs)) (hf : fs[0]? = some f) (ho : f.offset = 0) (hu : f.type = u) (hs : P.underlying u = some (.slice e)) (hk : P.cellsOf u = 1)
    (hr : YardIs (full W) v y) (hd : DataW.Trod enc P W 0 (fun _ => true) true t v d ps) : y.chairs.length ≤ Rows.uptoBulk d := by
  obtain ⟨cv, qv, rfl, hc, hq⟩ := hr
  obtain ⟨fuel, hfu⟩ := hd
  obtain ⟨xs, n, _, hx, _, hsz, hfl⟩ := DataW.trod_struct ht hfu
  have h1 := hfl 0 f hf
  rw [ho, hu, hk] at h1
  have hl : 0 < xs.length := by rw [hsz]; exact (Array.getElem?_eq_some_iff.1 hf).1
  rw [List.getElem?_eq_getElem hl] at h1
  obtain ⟨a, cap, rfl⟩ := hc.shape
  have hm : (xs[0]'hl).1 ∈ xs.map (·.1) := List.mem_map.2 ⟨_, List.getElem_mem hl, rfl⟩
  have hd2 : d = .agg (xs.map (·.1)) := by simpa using congrArg Prod.fst hx
  have hb := bulk_part hm
  rw [hd2]
  simp only [Rows.uptoBulk]
  rcases DataW.trod_slice hs h1 with ⟨h2, _⟩ | ⟨a', len, cap', elems, rest, m, _, h2, h3, _, _, _, hel, _⟩
  · have e := (List.cons.inj (show [Value.slice a y.chairs.length cap] = [.slice none 0 0] from h2)).1
    injection e with _ e2 _
    omega
  · have e := (List.cons.inj (show [Value.slice a y.chairs.length cap] = [.slice (some a') len cap'] from h2)).1
    injection e with _ e2 _
    rw [h3] at hb
    simp only [Rows.uptoBulk] at hb
    have := bulk_length (elems.map (·.1))
    rw [List.length_map] at this
    omega
theorem claims_bulk {H : Type} {enc : TypeId × Value → H} {P : Program} {t u e : TypeId} {fs : Array Field} {f : Field} {W : World} {v : Value} {y : YardD} {d : DataW H} {ps : List MemPlace} (ht : P.underlying t = some (.struct fs)) (hf : fs[2]? = some f) (ho : f.offset = 2) (hu : f.type = u) (hs : P.underlying u = some (.slice e)) (hk : P.cellsOf u = 1)
    (hr : YardIs (full W) v y) (hd : DataW.Trod enc P W 0 (fun _ => true) true t v d ps) : y.claims.length ≤ Rows.uptoBulk d := by
  obtain ⟨cv, qv, rfl, hc, hq⟩ := hr
  obtain ⟨fuel, hfu⟩ := hd
  obtain ⟨xs, n, _, hx, _, hsz, hfl⟩ := DataW.trod_struct ht hfu
  have h1 := hfl 2 f hf
  rw [ho, hu, hk] at h1
  have hl : 2 < xs.length := by rw [hsz]; exact (Array.getElem?_eq_some_iff.1 hf).1
  rw [List.getElem?_eq_getElem hl] at h1
  obtain ⟨a, cap, rfl⟩ := hq.shape
  have hm : (xs[2]'hl).1 ∈ xs.map (·.1) := List.mem_map.2 ⟨_, List.getElem_mem hl, rfl⟩
  have hd2 : d = .agg (xs.map (·.1)) := by simpa using congrArg Prod.fst hx
  have hb := bulk_part hm
  rw [hd2]
  simp only [Rows.uptoBulk]
  rcases DataW.trod_slice hs h1 with ⟨h2, _⟩ | ⟨a', len, cap', elems, rest, m, _, h2, h3, _, _, _, hel, _⟩
  · have e := (List.cons.inj (show [Value.slice a y.claims.length cap] = [.slice none 0 0] from h2)).1
    injection e with _ e2 _
    omega
  · have e := (List.cons.inj (show [Value.slice a y.claims.length cap] = [.slice (some a') len cap'] from h2)).1
    injection e with _ e2 _
    rw [h3] at hb
    simp only [Rows.uptoBulk] at hb
    have := bulk_length (elems.map (·.1))
    rw [List.length_map] at this
    omega
theorem yard_bulk {H : Type} {enc : TypeId × Value → H} {W : World} {v : Value} {y : YardD} {d : DataW H} {ps : List MemPlace} {t : TypeId} (hT : t = 25) (hr : YardIs (full W) v y) (hd : DataW.Trod enc Try.prog W 0 (fun _ => true) true t v d ps) : y.chairs.length ≤ Rows.uptoBulk d ∧ y.claims.length ≤ Rows.uptoBulk d := by
  subst hT
  exact ⟨chairs_bulk Try.underlying25 rfl rfl rfl Try.underlying22 cells_22 hr hd, claims_bulk Try.underlying25 rfl rfl rfl Try.underlying23 cells_23 hr hd⟩
end Go.Fs
