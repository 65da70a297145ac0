/- Walks: copies that are written: looked, and the law CountWider. -/
import Derived.Test.YtgnnlghoadfffaaW23
import Derived.Test.YtgnnlghoadfffaaOwn
namespace Go.Fs
open Go.Proofs
open C1
def lookD (r : RowD) (k : Nat) (c : Int) : RowD := { r with places := r.places.set k c }
open C1
theorem listO_ok (sv : Value) (xs : List Int) (D : Data) (hS : Sl D RI 1 sv xs) (hl : xs.length ≤ 10000000) : FnO Try.prog 42 #[sv] D (fun _ v ν => Acc 3 1 v xs.length (ints xs) ν) := by
  refine enterO 5 Try.func42 rfl rfl rfl rfl fun h0 => ?_
  refine C.seq ?_
  refine C.region [(false,0)] rfl ?_
  refine L.assign rfl rfl rfl trivial ?_
  refine L.nil ?_
  refine C.next ?_
  refine C.seq ?_
  refine C.region [(false,0),(false,1),(false,2)] rfl ?_
  refine L.move rfl rfl rfl trivial ?_
  refine L.append (A := []) (ν := []) (B := []) rfl Try.underlying22 rfl rfl Tf.s3 Tf.z3 rfl Tf.i3 rfl rfl rfl Acc.nil (Src.ints hS) (by simp) (by simp) rfl (ints_cell1 _) (by omega) (Or.inl rfl) rfl trivial (fun v1 ν1 ha1 => ?_)
  refine L.assign rfl rfl rfl trivial ?_
  refine L.nil ?_
  refine C.next ?_
  refine C.ret ?_
  exact leave (vs := [_]) rfl rfl rfl ⟨rfl, trivial⟩ (fun D' hD => by show Acc 3 1 v1 _ _ _; simpa using ha1)
theorem looked_ok (rv : Value) (r : RowD) (k : Nat) (c : Int) (D : Data) (hr : RowIs D rv r) (hk : k < r.places.length) (h1 : r.places.length ≤ 100) : Fn Try.prog 48 #[rv, .int .i64 (k : Int), .int .i64 c] D (fun D' v => RowIs D' v (lookD r k c)) := by
  obtain ⟨pv, cv, rfl, hp, hc⟩ := hr
  have hlp := h1
  have hkn := hk
  refine enter 19 Try.func48 rfl rfl rfl rfl fun h0 => ?_
  refine C.seq ?_
  refine C.region [(false,0),(false,1)] rfl ?_
  refine L.boxD rfl rfl rfl rfl trivial (fun q1 E1 hE1 hB1 => ?_)
  refine L.alloc rfl Tf.z25 rfl rfl trivial (fun q2 => ?_)
  refine L.nil ?_
  refine C.next ?_
  refine C.seq ?_
  refine C.region [(false,0),(false,1),(false,2)] rfl ?_
  refine L.loadDW rfl Tf.a25 rfl hB1 (by first | simp | assumption) Tf.s25 List.not_mem_nil rfl trivial ?_
  refine L.alloc rfl Tf.z25 rfl rfl trivial (fun q3 => ?_)
  refine L.storeW rfl rfl rfl rfl Tf.s25 (by first | rfl | (simp only [ints_length, *]; done) | (simp only [ints_length, *]; rfl) | (simp only [ints_length, *]; omega)) (by first | rfl | (simp only [ints_length, *]; done) | (simp only [ints_length, *]; rfl) | (simp only [ints_length, *]; omega)) (Has.head) (cell1_row hp.cell1 hc.cell1) trivial ?_
  refine L.nil ?_
  refine C.next ?_
  refine C.seq ?_
  refine C.region [(false,0),(false,1),(false,2),(false,3),(false,4)] rfl ?_
  refine L.fieldAddr rfl Tf.f25_0 rfl rfl trivial ?_
  refine L.loadD1 rfl (k := 0) Tf.a22 rfl hB1 (by first | simp | assumption) rfl List.not_mem_nil rfl trivial ?_
  refine L.callO rfl rfl rfl (fun D1 hD1 => listO_ok _ r.places _ (hp.up RI.up (hD1 _ (by simp))) (by omega)) rfl trivial (fun v1 D1 ν1 hD1 hp1 => ?_)
  have ha := hp1
  have haz := ha.cells1
  have hay := ha.cell1
  obtain ⟨aa, ac, hav⟩ := ha.shape
  refine L.fieldAddr rfl Tf.f25_0 rfl rfl trivial ?_
  refine L.store rfl rfl rfl haz Tf.s22 (.app (Has.head)) (by simp) rfl hay trivial ?_
  refine L.nil ?_
  refine C.next ?_
  refine C.seq ?_
  obtain ⟨b5, cap5, junk5, rfl, hcp5, rfl, hl51, hl52⟩ := ha.some (by omega)
  refine C.region [(false,0),(false,1),(false,2),(false,3),(false,4),(false,5)] rfl ?_
  refine L.fieldAddr rfl Tf.f25_0 rfl rfl trivial ?_
  refine L.loadB1 rfl Tf.a22 rfl (List.Mem.tail _ (List.Mem.head _)) rfl List.not_mem_nil rfl trivial ?_
  refine L.move rfl rfl rfl trivial ?_
  refine L.move rfl rfl rfl trivial ?_
  refine L.indexP rfl Try.underlying22 Tf.s3 rfl rfl (by omega) (by omega) rfl trivial ?_
  refine L.storeO rfl Tf.s3 rfl rfl Has.head (by omega) trivial ?_
  refine L.nil ?_
  refine C.next ?_
  refine C.seq ?_
  refine C.region [(false,0),(false,1)] rfl ?_
  refine L.loadBW rfl Tf.a25 rfl (List.Mem.tail _ (List.Mem.head _)) Tf.s25 List.not_mem_nil rfl trivial ?_
  refine L.storeW rfl rfl rfl rfl Tf.s25 (by first | rfl | (simp only [ints_length, *]; done) | (simp only [ints_length, *]; rfl) | (simp only [ints_length, *]; omega)) (by first | rfl | (simp only [ints_length, *]; done) | (simp only [ints_length, *]; rfl) | (simp only [ints_length, *]; omega)) (.tail (.tail (Has.head))) (cell1_row (by simp [cell1]) hc.cell1) trivial ?_
  refine L.nil ?_
  refine C.next ?_
  refine C.ret ?_
  have haF : Acc 3 1 (.slice (some ⟨b5, 0, none⟩) r.places.length cap5) r.places.length (ints (r.places.set (k : Int).toNat c)) [(b5, .cells (ints (r.places.set (k : Int).toNat c) ++ junk5).toArray 3 (0, 0))] := Or.inr ⟨b5, cap5, junk5, rfl, hcp5, rfl, by simp [ints], by simpa [ints] using hl52⟩
  refine Q.freeze (A := []) (ν := [(_, _)]) (B := [(_, _), (_, _)]) haF rfl (fun D3 hD3 hF3 => ?_)
  exact leave (vs := [_]) rfl rfl rfl ⟨⟨_, _, _, rfl, (List.Mem.tail _ (List.Mem.head _)), Or.inr ⟨Tf.a25, Tf.s25, rfl⟩⟩, trivial⟩ (fun D' hD => ⟨_, cv, rfl, (hF3.ints (l := r.places.set (k : Int).toNat c) (by simp) (by omega)).up RI.up (hD _ (by simp)), hc.up RC.up (hD _ (by simp))⟩)
end Go.Fs
