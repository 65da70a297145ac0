/- Of the proof of MendNames: W47. -/
import Derived.Test.YtjhdcelmgfajbaaZMendNamesJ
namespace Go.Fs
open Go.Proofs
open C7
section
variable {P : Program} {X : Cx} {γb : Type} [Membership Nat γb] {bad : γb} {all : Array Oper} {K : Act → World → Prop} {Q : Exit → Act → World → Prop}
variable {σ : Slots} {μ : Boxes} {Ds : List Data} {os : List (Bool × Nat)} {fl : Bool} {ix : Nat}
variable {d : Nat} {x y z : Operand} {u v : Value} {ty : TypeId} {pos : String} {aft : Array Edge} {g : Option (Nat × Bool)}
variable {k' : IntKind} {m n : Nat} {t t' : TypeId}
theorem Hl.subB {μ' : Boxes} {a : Act} {w : World} (h : Hl X σ μ Ds a w) (hμ : μ'.Sublist μ) : Hl X σ μ' Ds a w := by
  obtain ⟨h1, h2, h3, D, h4, h5, h6⟩ := h
  exact ⟨h1, h2, h3, D, h4.sub (fun p hp => hμ.mem hp) ((hμ.map (·.1)).nodup h4.nd), h5, h6.step (fun _ p hp => Or.inl (List.mem_map.2 ⟨p, hμ.mem hp, rfl⟩)) (fun _ => Low.refl _ _ _) h4.dom⟩
theorem L.drop2 {p q : Nat × Obj} (k : WL P X bad all K Q os σ (p :: μ) Ds) : WL P X bad all K Q os σ ([p, q] ++ μ) Ds := fun a w hh => k a w (hh.subB (.cons_cons p (.cons q (List.Sublist.refl _))))
/-- A part of a slice at a plain address. -/
theorem L.sliceOwn {t e : TypeId} {sz b n cap m : Nat} {kd : IntKind} (ho : all[ix]? = some ⟨some d, .slice t x none (some y) none, ty, pos, aft, g⟩) (ht : P.underlying t = some (.slice e)) (hs : TS P e sz) (hx : ev σ x = some (.slice (some ⟨b, 0, none⟩) n cap)) (hy : ev σ y = some (.int kd (m : Int))) (hk : m ≤ n ∧ n ≤ cap ∧ 0 < cap)
    (hN : Nat.blt d X.N = true) (hg : Gok all σ g) (kk : WL P X bad all K Q os ((d, .slice (some ⟨b, 0, none⟩) m cap) :: σ) μ Ds) : WL P X bad all K Q ((fl, ix) :: os) σ μ Ds :=
  L.pure ho rfl rfl hN hg (fun ρ hρ w' => by
    have ha : (if cap = 0 then (some ⟨b, 0, none⟩ : Option Addr) else (some (⟨b, 0, none⟩ : Addr)).map (·.add (0 * sz))) = some ⟨b, 0, none⟩ := by
      split
      · rfl
      · simp [Addr.add]
    simp only [execOp, Option.map_none, Option.map_some, hρ x _ hx, hρ y _ hy]
    unfold Instr.sliceAt Instr.slice Instr.sliceBounds Instr.sliceBound asIntOf
    have hle : (0 : Int) ≤ (m : Int) ∧ (m : Int) ≤ (cap : Nat) := by omega
    simp only [Sem.run_bind, TU.of ht w', Result.andThen_ok, Sem.run_pure, pure_bind, hs w', hle, and_self, if_true, Int.toNat_natCast, Nat.sub_zero, Option.map_some] at ha ⊢
    simp only [ha]) kk
end
def sizeD : YardD := ⟨(shedD 0).chairs.set 0 ⟨10, ⟨1, 0, 0⟩⟩, 1, []⟩
def partD : YardD := ⟨(shedD 0).chairs.set 1 ⟨5, ⟨0, 1, 3⟩⟩, 1, []⟩
def fitD : YardD := ⟨(shedD 0).chairs, -1, []⟩
def claimD : YardD := ⟨(shedD 0).chairs, 1, [(3, 8)]⟩
def chairsD : YardD := ⟨List.replicate 8 ⟨0, ⟨0, 0, 0⟩⟩, 1, []⟩
def claimsD : YardD := ⟨(shedD 0).chairs, 1, List.replicate 6 (0, 0)⟩
def unkC (n : Nat) : List Ch := (List.range 5).zipWith (fun i c => if i < n then { c with parts := ⟨2, 2, 2⟩ } else c) (shedD 0).chairs
def unkD : YardD := ⟨unkC 3, 1, []⟩
theorem unkC_len (n : Nat) : (unkC n).length = 5 := by unfold unkC; rw [List.length_zipWith]; rfl
theorem unk_step (n : Nat) (h : n < 3) : (chC (unkC n)).take (n * 4 + 1) ++ [.int .i64 2, .int .i64 2, .int .i64 2] ++ (chC (unkC n)).drop (n * 4 + 1 + ([.int .i64 2, .int .i64 2, .int .i64 2] : List Value).length) = chC (unkC (n + 1)) := by
  have : n = 0 ∨ n = 1 ∨ n = 2 := by omega
  rcases this with rfl | rfl | rfl <;> rfl
theorem sl_first {D : Data} {b : Nat} {p : Int × Int} {l : List Value} (h : At D b 0 (prC [p] ++ l)) : Sl D R2 2 (.slice (some ⟨b, 0, none⟩) 1 2) [p] := by
  refine ⟨_, 2, rfl, by simp, by simp, Or.inr ⟨b, 0, rfl, fun i x hx => ?_⟩⟩
  have hi : i = 0 := by have := (List.getElem?_eq_some_iff.1 hx).1; simp at this; exact this
  subst hi
  obtain rfl : p = x := by simpa using hx
  exact ⟨_, rfl, rfl, fun j v hj => h j v (by rw [show prC [p] = [.int .i64 p.1, .int .i64 p.2] from rfl, List.getElem?_append_left (List.getElem?_eq_some_iff.1 hj).1]; exact hj)⟩
theorem shedC_ok (k : Nat) (hk : k ≤ 2) (D : Data) : FnO Try.prog 69 #[.int .i64 (k : Int)] D (fun D' v ν => ∃ cb qb ob qv, v = .agg #[.slice (some ⟨cb, 0, none⟩) 5 5, .int .i64 1, qv] ∧ Sl D' R2 2 qv (shedD k).claims ∧ ν = [(cb, .cells (chC (shedD 0).chairs ++ []).toArray 115 (0, 0)), (qb, ob)]) := by
  refine enterO 22 Try.func69 rfl rfl rfl rfl fun h0 => ?_
  refine C.seq ?_
  refine C.region [(false,0)] rfl ?_
  refine L.alloc rfl Tf.z37 rfl rfl trivial (fun q1 => ?_)
  refine L.nil ?_
  refine C.next ?_
  refine C.seq ?_
  refine C.region [(false,0),(false,1),(false,2),(false,3)] rfl ?_
  refine L.callV rfl rfl rfl (fun D1 hD1 => between_ok _ _ _) rfl trivial ?_
  refine L.callV rfl rfl rfl (fun D2 hD2 => between_ok _ _ _) rfl trivial ?_
  refine L.buildSlice rfl Try.underlying35 Tf.s61 Tf.z61 rfl rfl rfl rfl (.cons rfl rfl (.cons rfl rfl .nil)) rfl trivial (fun b901 D901 hD901 hA901 => ?_)
  have hS901 : Sl D901 R2 2 _ [(3, 5), (0, 2)] := Froz.prs (l := [(3, 5), (0, 2)]) (n := 2) (Or.inr ⟨_, 2, rfl, by omega, hA901⟩) rfl (by omega)
  refine L.assign rfl rfl rfl trivial ?_
  refine L.nil ?_
  refine C.next ?_
  refine C.seq ?_
  refine C.region [(false,0),(false,1),(false,2),(false,3),(false,4),(false,5),(false,6),(false,7),(false,8),(false,9),(false,10),(false,11),(false,12),(false,13),(false,14),(false,15)] rfl ?_
  refine L.buildA (cs := [.int .i64 1, .int .i64 0, .int .i64 0]) rfl Try.underlying113 Tf.s3 Tf.z113 rfl rfl rfl trivial ?_
  refine L.build (cs := [.int .i64 4, .int .i64 1, .int .i64 0, .int .i64 0]) rfl Tf.p115 Tf.z115 rfl rfl rfl trivial ?_
  refine L.buildA (cs := [.int .i64 0, .int .i64 1, .int .i64 1]) rfl Try.underlying113 Tf.s3 Tf.z113 rfl rfl rfl trivial ?_
  refine L.build (cs := [.int .i64 5, .int .i64 0, .int .i64 1, .int .i64 1]) rfl Tf.p115 Tf.z115 rfl rfl rfl trivial ?_
  refine L.buildA (cs := [.int .i64 0, .int .i64 1, .int .i64 2]) rfl Try.underlying113 Tf.s3 Tf.z113 rfl rfl rfl trivial ?_
  refine L.build (cs := [.int .i64 5, .int .i64 0, .int .i64 1, .int .i64 2]) rfl Tf.p115 Tf.z115 rfl rfl rfl trivial ?_
  refine L.buildA (cs := [.int .i64 1, .int .i64 1, .int .i64 1]) rfl Try.underlying113 Tf.s3 Tf.z113 rfl rfl rfl trivial ?_
  refine L.build (cs := [.int .i64 9, .int .i64 1, .int .i64 1, .int .i64 1]) rfl Tf.p115 Tf.z115 rfl rfl rfl trivial ?_
  refine L.buildA (cs := [.int .i64 1, .int .i64 0, .int .i64 0]) rfl Try.underlying113 Tf.s3 Tf.z113 rfl rfl rfl trivial ?_
  refine L.build (cs := [.int .i64 4, .int .i64 1, .int .i64 0, .int .i64 0]) rfl Tf.p115 Tf.z115 rfl rfl rfl trivial ?_
  refine L.buildSliceO rfl Try.underlying34 Tf.s115 Tf.z115 rfl rfl rfl rfl (.cons rfl rfl (.cons rfl rfl (.cons rfl rfl (.cons rfl rfl (.cons rfl rfl .nil))))) rfl trivial (fun b902 hacc => ?_)
  refine L.move rfl rfl rfl trivial ?_
  refine L.move rfl rfl rfl trivial ?_
  refine L.sliceTo rfl Try.underlying35 Tf.s61 rfl rfl hS901 hk rfl trivial (fun v9 hv9 => ?_)
  obtain ⟨va, vc, rfl, hvr⟩ := id hv9
  refine L.build (cs := [.slice (some ⟨b902, 0, none⟩) 5 5, .int .i64 1, .slice va ([((3 : Int), (5 : Int)), (0, 2)].take k).length vc]) rfl Tf.p37 Tf.z37 rfl rfl rfl trivial ?_
  refine L.storeW rfl rfl rfl rfl Tf.s37 (by first | rfl | (simp only [ints_length, *]; done) | (simp only [ints_length, *]; rfl) | (simp only [ints_length, *]; omega)) (by first | rfl | (simp only [ints_length, *]; done) | (simp only [ints_length, *]; rfl) | (simp only [ints_length, *]; omega)) (.tail (Has.head)) (by simp [cell1]) trivial ?_
  refine L.nil ?_
  refine C.next ?_
  refine C.ret ?_
  exact leave (vs := [_]) rfl rfl rfl ⟨⟨_, _, _, rfl, (List.Mem.tail _ (List.Mem.head _)), Or.inr ⟨Tf.a37, Tf.s37, rfl⟩⟩, trivial⟩ (fun D hD => ⟨b902, _, _, _, rfl, hv9.up R2.up (hD _ (by simp)), rfl⟩)
theorem shedQ_ok (D : Data) : FnO Try.prog 69 #[.int .i64 1] D (fun D' v ν => ∃ cv qb rb ob, v = .agg #[cv, .int .i64 1, .slice (some ⟨qb, 0, none⟩) 1 2] ∧ Sl D' RCh 4 cv (shedD 0).chairs ∧ ν = [(qb, .cells (prC [((3 : Int), (5 : Int)), (0, 2)] ++ []).toArray 61 (0, 0)), (rb, ob)]) := by
  refine enterO 22 Try.func69 rfl rfl rfl rfl fun h0 => ?_
  refine C.seq ?_
  refine C.region [(false,0)] rfl ?_
  refine L.alloc rfl Tf.z37 rfl rfl trivial (fun q1 => ?_)
  refine L.nil ?_
  refine C.next ?_
  refine C.seq ?_
  refine C.region [(false,0),(false,1),(false,2),(false,3)] rfl ?_
  refine L.callV rfl rfl rfl (fun D1 hD1 => between_ok _ _ _) rfl trivial ?_
  refine L.callV rfl rfl rfl (fun D2 hD2 => between_ok _ _ _) rfl trivial ?_
  refine L.buildSliceO rfl Try.underlying35 Tf.s61 Tf.z61 rfl rfl rfl rfl (.cons rfl rfl (.cons rfl rfl .nil)) rfl trivial (fun bq hacc => ?_)
  refine L.assign rfl rfl rfl trivial ?_
  refine L.nil ?_
  refine C.next ?_
  refine C.seq ?_
  refine C.region [(false,0),(false,1),(false,2),(false,3),(false,4),(false,5),(false,6),(false,7),(false,8),(false,9),(false,10),(false,11),(false,12),(false,13),(false,14),(false,15)] rfl ?_
  refine L.buildA (cs := [.int .i64 1, .int .i64 0, .int .i64 0]) rfl Try.underlying113 Tf.s3 Tf.z113 rfl rfl rfl trivial ?_
  refine L.build (cs := [.int .i64 4, .int .i64 1, .int .i64 0, .int .i64 0]) rfl Tf.p115 Tf.z115 rfl rfl rfl trivial ?_
  refine L.buildA (cs := [.int .i64 0, .int .i64 1, .int .i64 1]) rfl Try.underlying113 Tf.s3 Tf.z113 rfl rfl rfl trivial ?_
  refine L.build (cs := [.int .i64 5, .int .i64 0, .int .i64 1, .int .i64 1]) rfl Tf.p115 Tf.z115 rfl rfl rfl trivial ?_
  refine L.buildA (cs := [.int .i64 0, .int .i64 1, .int .i64 2]) rfl Try.underlying113 Tf.s3 Tf.z113 rfl rfl rfl trivial ?_
  refine L.build (cs := [.int .i64 5, .int .i64 0, .int .i64 1, .int .i64 2]) rfl Tf.p115 Tf.z115 rfl rfl rfl trivial ?_
  refine L.buildA (cs := [.int .i64 1, .int .i64 1, .int .i64 1]) rfl Try.underlying113 Tf.s3 Tf.z113 rfl rfl rfl trivial ?_
  refine L.build (cs := [.int .i64 9, .int .i64 1, .int .i64 1, .int .i64 1]) rfl Tf.p115 Tf.z115 rfl rfl rfl trivial ?_
  refine L.buildA (cs := [.int .i64 1, .int .i64 0, .int .i64 0]) rfl Try.underlying113 Tf.s3 Tf.z113 rfl rfl rfl trivial ?_
  refine L.build (cs := [.int .i64 4, .int .i64 1, .int .i64 0, .int .i64 0]) rfl Tf.p115 Tf.z115 rfl rfl rfl trivial ?_
  refine L.buildSlice rfl Try.underlying34 Tf.s115 Tf.z115 rfl rfl rfl rfl (.cons rfl rfl (.cons rfl rfl (.cons rfl rfl (.cons rfl rfl (.cons rfl rfl .nil))))) rfl trivial (fun b901 D901 hD901 hA901 => ?_)
  have hS901 : Sl D901 RCh 4 _ (shedD 0).chairs := Froz.chs (l := (shedD 0).chairs) (n := 5) (Or.inr ⟨_, 5, rfl, by omega, hA901⟩) rfl (by omega)
  have hSx := hS901
  refine L.move rfl rfl rfl trivial ?_
  refine L.move rfl rfl rfl trivial ?_
  refine L.sliceOwn (n := 2) (m := 1) (cap := 2) rfl Try.underlying35 Tf.s61 rfl rfl (by omega) rfl trivial ?_
  refine L.build (cs := [.slice (some ⟨b901, 0, none⟩) 5 5, .int .i64 1, .slice (some ⟨bq, 0, none⟩) 1 2]) rfl Tf.p37 Tf.z37 rfl rfl rfl trivial ?_
  refine L.storeW rfl rfl rfl rfl Tf.s37 (by first | rfl | (simp only [ints_length, *]; done) | (simp only [ints_length, *]; rfl) | (simp only [ints_length, *]; omega)) (by first | rfl | (simp only [ints_length, *]; done) | (simp only [ints_length, *]; rfl) | (simp only [ints_length, *]; omega)) (.tail (Has.head)) (by simp [cell1]) trivial ?_
  refine L.nil ?_
  refine C.next ?_
  refine C.ret ?_
  exact leave (vs := [_]) rfl rfl rfl ⟨⟨_, _, _, rfl, (List.Mem.tail _ (List.Mem.head _)), Or.inr ⟨Tf.a37, Tf.s37, rfl⟩⟩, trivial⟩ (fun D hD => ⟨_, bq, _, _, rfl, hSx.up RCh.up (hD _ (by simp)), rfl⟩)
theorem partsO_ok (n : Int) (D : Data) : FnO Try.prog 70 #[.int .i64 n] D (fun _ v ν => ∃ pb, v = .slice (some ⟨pb, 0, none⟩) 5 5 ∧ ν = [(pb, .cells (ptC (partsD n) ++ []).toArray 113 (0, 0))]) := by
  refine enterO 10 Try.func70 rfl rfl rfl rfl fun h0 => ?_
  refine C.seq ?_
  refine C.region [(false,0)] rfl ?_
  refine L.assign rfl rfl rfl trivial ?_
  refine L.nil ?_
  refine C.next ?_
  refine C.seq ?_
  refine C.region [(false,0),(false,1),(false,2),(false,3),(false,4),(false,5),(false,6),(false,7)] rfl ?_
  refine L.buildA (cs := [.int .i64 1, .int .i64 0, .int .i64 0]) rfl Try.underlying113 Tf.s3 Tf.z113 rfl rfl rfl trivial ?_
  refine L.buildA (cs := [.int .i64 0, .int .i64 1, .int .i64 1]) rfl Try.underlying113 Tf.s3 Tf.z113 rfl rfl rfl trivial ?_
  refine L.move rfl rfl rfl trivial ?_
  refine L.buildA (cs := [.int .i64 0, .int .i64 1, .int .i64 n]) rfl Try.underlying113 Tf.s3 Tf.z113 rfl rfl rfl trivial ?_
  refine L.buildA (cs := [.int .i64 1, .int .i64 1, .int .i64 1]) rfl Try.underlying113 Tf.s3 Tf.z113 rfl rfl rfl trivial ?_
  refine L.buildA (cs := [.int .i64 1, .int .i64 0, .int .i64 0]) rfl Try.underlying113 Tf.s3 Tf.z113 rfl rfl rfl trivial ?_
  refine L.buildSliceO rfl Try.underlying39 Tf.s113 Tf.z113 rfl rfl rfl rfl (.cons rfl rfl (.cons rfl rfl (.cons rfl rfl (.cons rfl rfl (.cons rfl rfl .nil))))) rfl trivial (fun b902 hacc => ?_)
  refine L.assign rfl rfl rfl trivial ?_
  refine L.nil ?_
  refine C.next ?_
  refine C.ret ?_
  exact leave (vs := [_]) rfl rfl rfl ⟨rfl, trivial⟩ (fun D hD => ⟨b902, rfl, rfl⟩)
set_option maxHeartbeats 4000000 in
theorem MendNames_ok (D : Data) : Fn Try.prog 18 #[] D (fun _ v => v = .bool true) := by
  refine enter 308 Try.func18 rfl rfl rfl rfl fun h0 => ?_
  refine C.seq ?_
  refine C.region [(false,0)] rfl ?_
  refine L.assign rfl rfl rfl trivial ?_
  refine L.nil ?_
  refine C.next ?_
  refine C.seq ?_
  refine C.region [(false,0),(false,1),(false,2),(false,3),(false,4),(false,5),(false,6),(false,7)] rfl ?_
  refine L.call rfl rfl rfl (fun D1 hD1 => shed_ok 0 (by omega) _) rfl trivial (fun v1 D1 hD1 hp1 => ?_)
  have hY1 := hp1
  refine L.call rfl rfl rfl (fun D2 hD2 => parts_ok 0 _) rfl trivial (fun v2 D2 hD2 hp2 => ?_)
  have hT1 := hp2
  refine L.callV rfl rfl rfl (fun D3 hD3 => Play_ok _ _ (shedD 0) (partsD 0) _ (hY1.up (hD3 _ (by simp))) (hT1.up RP.up (hD3 _ (by simp)))) rfl trivial ?_
  refine L.move rfl rfl rfl trivial ?_
  refine L.extract rfl rfl rfl rfl trivial ?_
  refine L.extract rfl rfl rfl rfl trivial ?_
  refine L.assign rfl rfl rfl trivial ?_
  refine L.assign rfl rfl rfl trivial ?_
  refine L.nil ?_
  refine C.next ?_
  refine C.seq ?_
  refine C.region [(false,0),(false,1),(false,2),(false,3),(false,4),(false,5),(false,6),(false,7)] rfl ?_
  refine L.call rfl rfl rfl (fun D4 hD4 => shed_ok 1 (by omega) _) rfl trivial (fun v4 D4 hD4 hp4 => ?_)
  have hY2 := hp4
  refine L.callV rfl rfl rfl (fun D5 hD5 => Bounds_ok _ (shedD 1) _ (hY2.up (hD5 _ (by simp)))) rfl trivial ?_
  refine L.move rfl rfl rfl trivial ?_
  refine L.extract rfl rfl rfl rfl trivial ?_
  refine L.extract rfl rfl rfl rfl trivial ?_
  refine L.alloc rfl Tf.z61 rfl rfl trivial (fun q1 => ?_)
  refine L.storeW rfl rfl rfl rfl Tf.s61 (by first | rfl | (simp only [ints_length, *]; done) | (simp only [ints_length, *]; rfl) | (simp only [ints_length, *]; omega)) (by first | rfl | (simp only [ints_length, *]; done) | (simp only [ints_length, *]; rfl) | (simp only [ints_length, *]; omega)) (Has.head) (by simp [cell1]) trivial ?_
  refine L.assign rfl rfl rfl trivial ?_
  refine L.nil ?_
  refine C.next ?_
  refine C.seq ?_
  refine C.region [(false,0),(false,1),(false,2),(false,3),(false,4),(false,5),(false,6),(false,7),(false,8)] rfl ?_
  refine L.call rfl rfl rfl (fun D6 hD6 => shed_ok 1 (by omega) _) rfl trivial (fun v6 D6 hD6 hp6 => ?_)
  have hY3 := hp6
  refine L.call rfl rfl rfl (fun D7 hD7 => Sure_ok _ (shedD 1) _ (hY3.up (hD7 _ (by simp)))) rfl trivial (fun v7 D7 hD7 hp7 => ?_)
  obtain ⟨lv3, rfl, hl3⟩ := hp7
  refine L.move rfl rfl rfl trivial ?_
  refine L.extract rfl rfl rfl rfl trivial ?_
  refine L.extract rfl rfl rfl rfl trivial ?_
  refine L.extract rfl rfl rfl rfl trivial ?_
  refine L.assign rfl rfl rfl trivial ?_
  refine L.assign rfl rfl rfl trivial ?_
  refine L.assign rfl rfl rfl trivial ?_
  refine L.nil ?_
  refine C.next ?_
  refine C.seq ?_
  refine C.region [(false,0),(false,1),(false,2),(false,3),(false,4),(false,5),(false,6)] rfl ?_
  refine L.call rfl rfl rfl (fun D8 hD8 => shed_ok 1 (by omega) _) rfl trivial (fun v8 D8 hD8 hp8 => ?_)
  have hY4 := hp8
  refine L.call rfl rfl rfl (fun D9 hD9 => Leave_ok _ (shedD 1) _ (hY4.up (hD9 _ (by simp)))) rfl trivial (fun v9 D9 hD9 hp9 => ?_)
  obtain ⟨lv4, rfl, hl4⟩ := hp9
  refine L.move rfl rfl rfl trivial ?_
  refine L.extract rfl rfl rfl rfl trivial ?_
  refine L.extract rfl rfl rfl rfl trivial ?_
  refine L.assign rfl rfl rfl trivial ?_
  refine L.assign rfl rfl rfl trivial ?_
  refine L.nil ?_
  refine C.next ?_
  refine C.seq ?_
  refine C.region [(false,0),(false,1),(false,2),(false,3)] rfl ?_
  refine L.build (cs := [.int .i64 0, .int .i64 1]) rfl Tf.p111 Tf.z111 rfl rfl rfl trivial ?_
  refine L.build (cs := [.int .i64 2, .int .i64 4]) rfl Tf.p111 Tf.z111 rfl rfl rfl trivial ?_
  refine L.buildSlice rfl Try.underlying30 Tf.s111 Tf.z111 rfl rfl rfl rfl (.cons rfl rfl (.cons rfl rfl .nil)) rfl trivial (fun b901 D901 hD901 hA901 => ?_)
  have hS901 : Sl D901 R2 2 _ [(0, 1), (2, 4)] := Froz.prs (l := [(0, 1), (2, 4)]) (n := 2) (Or.inr ⟨_, 2, rfl, by omega, hA901⟩) rfl (by omega)
  refine L.assign rfl rfl rfl trivial ?_
  refine L.nil ?_
  refine C.next ?_
  refine C.seq ?_
  refine C.seq ?_
  refine C.drawS [] 33 [false,false,false,false,false,false,false,false,false,false,false,false,true,false,false,false,false,false,false,false,false,false,false,false,true,false,false,false,false,false,false,false,false,false,false,false,false,false,false,false,false,false,false,false,false,false,false,false,false,false,true,true,false,false,false,false,false,true,true,false,false,false,false,true,false,false,false,false,false,true,false,false,false,false,true,true,true,false,false,false,false,false,false,false,false,false,true,true,true,false,false,false,true,true,false,true,false,false,false,true,true,false,false,true,false,false] [.fin [0,1,2], .fin [3,4], .fin [5], .fin [6], .fin [7,8], .fin [9], .fin [10], .fin [11,12,13], .fin [14], .fin [15], .fin [16,17], .fin [18], .fin [19], .fin [20,21], .fin [22], .fin [23], .fin [25,24,26,27], .fin [28], .fin [29], .fin [30,31], .fin [32], .fin [33], .fin [34,35,36], .fin [37], .fin [38], .fin [39,40,41,42], .fin [43], .fin [44], .fin [45,46,47], .fin [48], .fin [49], .fin [52,50,51,53,54], .fin [55], .fin [56], .fin [59,57,58,60], .fin [61], .fin [62], .fin [64,63,65,66], .fin [67], .fin [68], .fin [70,69,71], .fin [72], .fin [73], .fork [] 74 (.fork [] 75 (.fin [76]) 76 (.fin [75])) 76 (.fin [74,75]), .fin [77,78], .fin [79], .fin [80], .fin [81,82,83], .fin [84], .fin [85], .fork [] 86 (.fork [] 87 (.fin [88]) 88 (.fin [87])) 88 (.fin [86,87]), .fin [89], .fin [90], .fin [91], .fork [94] 92 (.fork [] 93 (.fin [95]) 95 (.fin [93])) 95 (.fin [92,93]), .fin [96], .fin [97], .fin [98], .fork [101,102] 99 (.fork [] 100 (.fin [103]) 103 (.fin [100])) 103 (.fin [99,100]), .fin [104], .fin [105]] Tf.follows (fun _ _ _ h => np_body (P := Try.prog) (fn := Try.f18) _ _ _ h) (by kernel_rfl) ?_
  refine S.fin [(false,0),(false,1),(false,2)] rfl ?_
  refine L.move rfl rfl rfl trivial ?_
  refine L.neq rfl rfl rfl rfl trivial ?_
  refine L.move rfl rfl rfl trivial ?_
  refine L.nil ?_
  refine' S.or [.fin [3,4], .fin [5]] [.fin [6], .fin [7,8], .fin [9], .fin [10], .fin [11,12,13], .fin [14], .fin [15], .fin [16,17], .fin [18], .fin [19], .fin [20,21], .fin [22], .fin [23], .fin [25,24,26,27], .fin [28], .fin [29], .fin [30,31], .fin [32], .fin [33], .fin [34,35,36], .fin [37], .fin [38], .fin [39,40,41,42], .fin [43], .fin [44], .fin [45,46,47], .fin [48], .fin [49], .fin [52,50,51,53,54], .fin [55], .fin [56], .fin [59,57,58,60], .fin [61], .fin [62], .fin [64,63,65,66], .fin [67], .fin [68], .fin [70,69,71], .fin [72], .fin [73], .fork [] 74 (.fork [] 75 (.fin [76]) 76 (.fin [75])) 76 (.fin [74,75]), .fin [77,78], .fin [79], .fin [80], .fin [81,82,83], .fin [84], .fin [85], .fork [] 86 (.fork [] 87 (.fin [88]) 88 (.fin [87])) 88 (.fin [86,87]), .fin [89], .fin [90], .fin [91], .fork [94] 92 (.fork [] 93 (.fin [95]) 95 (.fin [93])) 95 (.fin [92,93]), .fin [96], .fin [97], .fin [98], .fork [101,102] 99 (.fork [] 100 (.fin [103]) 103 (.fin [100])) 103 (.fin [99,100]), .fin [104], .fin [105]] (s := 54) (p := 57) rfl rfl (fun hg1 => ?_) (fun hg1 => ?_) ?_
  rotate_left
  · refine S.fin [(false,3),(false,4)] rfl ?_
    refine L.move rfl rfl rfl ⟨_, rfl, rfl⟩ ?_
    refine L.neq rfl rfl rfl rfl ⟨_, rfl, rfl⟩ ?_
    refine L.nil ?_
    refine S.fin [(false,5)] rfl ?_
    refine L.pickF rfl rfl rfl rfl trivial ?_
    exact L.nil fun a w hh => hh.cutK 2 rfl
  · refine S.fin [(false,3),(false,4)] rfl ?_
    refine L.pass rfl rfl rfl ⟨_, _, rfl, rfl, rfl⟩ ?_
    refine L.pass rfl rfl rfl ⟨_, _, rfl, rfl, rfl⟩ ?_
    refine L.nil ?_
    refine S.fin [(false,5)] rfl ?_
    refine L.pickT rfl rfl rfl rfl trivial ?_
    exact L.nil fun a w hh => hh.cutK 2 rfl
  refine S.fin [(false,6)] rfl ?_
  refine L.move rfl rfl rfl trivial ?_
  refine L.nil ?_
  refine' S.or [.fin [7,8], .fin [9]] [.fin [10], .fin [11,12,13], .fin [14], .fin [15], .fin [16,17], .fin [18], .fin [19], .fin [20,21], .fin [22], .fin [23], .fin [25,24,26,27], .fin [28], .fin [29], .fin [30,31], .fin [32], .fin [33], .fin [34,35,36], .fin [37], .fin [38], .fin [39,40,41,42], .fin [43], .fin [44], .fin [45,46,47], .fin [48], .fin [49], .fin [52,50,51,53,54], .fin [55], .fin [56], .fin [59,57,58,60], .fin [61], .fin [62], .fin [64,63,65,66], .fin [67], .fin [68], .fin [70,69,71], .fin [72], .fin [73], .fork [] 74 (.fork [] 75 (.fin [76]) 76 (.fin [75])) 76 (.fin [74,75]), .fin [77,78], .fin [79], .fin [80], .fin [81,82,83], .fin [84], .fin [85], .fork [] 86 (.fork [] 87 (.fin [88]) 88 (.fin [87])) 88 (.fin [86,87]), .fin [89], .fin [90], .fin [91], .fork [94] 92 (.fork [] 93 (.fin [95]) 95 (.fin [93])) 95 (.fin [92,93]), .fin [96], .fin [97], .fin [98], .fork [101,102] 99 (.fork [] 100 (.fin [103]) 103 (.fin [100])) 103 (.fin [99,100]), .fin [104], .fin [105]] (s := 58) (p := 61) rfl rfl (fun hg2 => ?_) (fun hg2 => ?_) ?_
  rotate_left
  · refine S.fin [(false,7),(false,8)] rfl ?_
    refine L.move rfl rfl rfl ⟨_, rfl, rfl⟩ ?_
    refine L.neq rfl rfl rfl rfl ⟨_, rfl, rfl⟩ ?_
    refine L.nil ?_
    refine S.fin [(false,9)] rfl ?_
    refine L.pickF rfl rfl rfl rfl trivial ?_
    exact L.nil fun a w hh => hh.cutK 2 rfl
  · refine S.fin [(false,7),(false,8)] rfl ?_
    refine L.pass rfl rfl rfl ⟨_, _, rfl, rfl, rfl⟩ ?_
    refine L.pass rfl rfl rfl ⟨_, _, rfl, rfl, rfl⟩ ?_
    refine L.nil ?_
    refine S.fin [(false,9)] rfl ?_
    refine L.pickT rfl rfl rfl rfl trivial ?_
    exact L.nil fun a w hh => hh.cutK 2 rfl
  refine S.fin [(false,10)] rfl ?_
  refine L.move rfl rfl rfl trivial ?_
  refine L.nil ?_
  refine' S.or [.fin [11,12,13], .fin [14]] [.fin [15], .fin [16,17], .fin [18], .fin [19], .fin [20,21], .fin [22], .fin [23], .fin [25,24,26,27], .fin [28], .fin [29], .fin [30,31], .fin [32], .fin [33], .fin [34,35,36], .fin [37], .fin [38], .fin [39,40,41,42], .fin [43], .fin [44], .fin [45,46,47], .fin [48], .fin [49], .fin [52,50,51,53,54], .fin [55], .fin [56], .fin [59,57,58,60], .fin [61], .fin [62], .fin [64,63,65,66], .fin [67], .fin [68], .fin [70,69,71], .fin [72], .fin [73], .fork [] 74 (.fork [] 75 (.fin [76]) 76 (.fin [75])) 76 (.fin [74,75]), .fin [77,78], .fin [79], .fin [80], .fin [81,82,83], .fin [84], .fin [85], .fork [] 86 (.fork [] 87 (.fin [88]) 88 (.fin [87])) 88 (.fin [86,87]), .fin [89], .fin [90], .fin [91], .fork [94] 92 (.fork [] 93 (.fin [95]) 95 (.fin [93])) 95 (.fin [92,93]), .fin [96], .fin [97], .fin [98], .fork [101,102] 99 (.fork [] 100 (.fin [103]) 103 (.fin [100])) 103 (.fin [99,100]), .fin [104], .fin [105]] (s := 62) (p := 66) rfl rfl (fun hg3 => ?_) (fun hg3 => ?_) ?_
  rotate_left
  · refine S.fin [(false,11),(true,12),(false,13)] rfl ?_
    refine L.loadBW rfl Tf.a61 rfl (List.Mem.head _) Tf.s61 List.not_mem_nil rfl ⟨_, rfl, rfl⟩ ?_
    refine L.callV rfl rfl rfl (fun D10 hD10 => between_ok _ _ _) rfl ⟨_, rfl, rfl⟩ ?_
    refine L.neqK  rfl (by kernel_rfl) k2_61 rfl rfl rfl ⟨_, rfl, rfl⟩ ?_
    refine L.nil ?_
    refine S.fin [(false,14)] rfl ?_
    refine L.pickF rfl rfl rfl rfl trivial ?_
    exact L.nil fun a w hh => hh.cutK 3 rfl
  · refine S.fin [(false,11),(true,12),(false,13)] rfl ?_
    refine L.pass rfl rfl rfl ⟨_, _, rfl, rfl, rfl⟩ ?_
    refine L.pass rfl rfl rfl ⟨_, _, rfl, rfl, rfl⟩ ?_
    refine L.pass rfl rfl rfl ⟨_, _, rfl, rfl, rfl⟩ ?_
    refine L.nil ?_
    refine S.fin [(false,14)] rfl ?_
    refine L.pickT rfl rfl rfl rfl trivial ?_
    exact L.nil fun a w hh => hh.cutK 3 rfl
  refine S.fin [(false,15)] rfl ?_
  refine L.move rfl rfl rfl trivial ?_
  refine L.nil ?_
  refine' S.or [.fin [16,17], .fin [18]] [.fin [19], .fin [20,21], .fin [22], .fin [23], .fin [25,24,26,27], .fin [28], .fin [29], .fin [30,31], .fin [32], .fin [33], .fin [34,35,36], .fin [37], .fin [38], .fin [39,40,41,42], .fin [43], .fin [44], .fin [45,46,47], .fin [48], .fin [49], .fin [52,50,51,53,54], .fin [55], .fin [56], .fin [59,57,58,60], .fin [61], .fin [62], .fin [64,63,65,66], .fin [67], .fin [68], .fin [70,69,71], .fin [72], .fin [73], .fork [] 74 (.fork [] 75 (.fin [76]) 76 (.fin [75])) 76 (.fin [74,75]), .fin [77,78], .fin [79], .fin [80], .fin [81,82,83], .fin [84], .fin [85], .fork [] 86 (.fork [] 87 (.fin [88]) 88 (.fin [87])) 88 (.fin [86,87]), .fin [89], .fin [90], .fin [91], .fork [94] 92 (.fork [] 93 (.fin [95]) 95 (.fin [93])) 95 (.fin [92,93]), .fin [96], .fin [97], .fin [98], .fork [101,102] 99 (.fork [] 100 (.fin [103]) 103 (.fin [100])) 103 (.fin [99,100]), .fin [104], .fin [105]] (s := 67) (p := 70) rfl rfl (fun hg4 => ?_) (fun hg4 => ?_) ?_
  rotate_left
  · refine S.fin [(false,16),(false,17)] rfl ?_
    refine L.move rfl rfl rfl ⟨_, rfl, rfl⟩ ?_
    refine L.neq rfl rfl rfl rfl ⟨_, rfl, rfl⟩ ?_
    refine L.nil ?_
    refine S.fin [(false,18)] rfl ?_
    refine L.pickF rfl rfl rfl rfl trivial ?_
    exact L.nil fun a w hh => hh.cutK 2 rfl
  · refine S.fin [(false,16),(false,17)] rfl ?_
    refine L.pass rfl rfl rfl ⟨_, _, rfl, rfl, rfl⟩ ?_
    refine L.pass rfl rfl rfl ⟨_, _, rfl, rfl, rfl⟩ ?_
    refine L.nil ?_
    refine S.fin [(false,18)] rfl ?_
    refine L.pickT rfl rfl rfl rfl trivial ?_
    exact L.nil fun a w hh => hh.cutK 2 rfl
  refine S.fin [(false,19)] rfl ?_
  refine L.move rfl rfl rfl trivial ?_
  refine L.nil ?_
  refine' S.or [.fin [20,21], .fin [22]] [.fin [23], .fin [25,24,26,27], .fin [28], .fin [29], .fin [30,31], .fin [32], .fin [33], .fin [34,35,36], .fin [37], .fin [38], .fin [39,40,41,42], .fin [43], .fin [44], .fin [45,46,47], .fin [48], .fin [49], .fin [52,50,51,53,54], .fin [55], .fin [56], .fin [59,57,58,60], .fin [61], .fin [62], .fin [64,63,65,66], .fin [67], .fin [68], .fin [70,69,71], .fin [72], .fin [73], .fork [] 74 (.fork [] 75 (.fin [76]) 76 (.fin [75])) 76 (.fin [74,75]), .fin [77,78], .fin [79], .fin [80], .fin [81,82,83], .fin [84], .fin [85], .fork [] 86 (.fork [] 87 (.fin [88]) 88 (.fin [87])) 88 (.fin [86,87]), .fin [89], .fin [90], .fin [91], .fork [94] 92 (.fork [] 93 (.fin [95]) 95 (.fin [93])) 95 (.fin [92,93]), .fin [96], .fin [97], .fin [98], .fork [101,102] 99 (.fork [] 100 (.fin [103]) 103 (.fin [100])) 103 (.fin [99,100]), .fin [104], .fin [105]] (s := 71) (p := 74) rfl rfl (fun hg5 => ?_) (fun hg5 => ?_) ?_
  rotate_left
  · refine S.fin [(false,20),(false,21)] rfl ?_
    refine L.move rfl rfl rfl ⟨_, rfl, rfl⟩ ?_
    refine L.neq rfl rfl rfl rfl ⟨_, rfl, rfl⟩ ?_
    refine L.nil ?_
    refine S.fin [(false,22)] rfl ?_
    refine L.pickF rfl rfl rfl rfl trivial ?_
    exact L.nil fun a w hh => hh.cutK 2 rfl
  · refine S.fin [(false,20),(false,21)] rfl ?_
    refine L.pass rfl rfl rfl ⟨_, _, rfl, rfl, rfl⟩ ?_
    refine L.pass rfl rfl rfl ⟨_, _, rfl, rfl, rfl⟩ ?_
    refine L.nil ?_
    refine S.fin [(false,22)] rfl ?_
    refine L.pickT rfl rfl rfl rfl trivial ?_
    exact L.nil fun a w hh => hh.cutK 2 rfl
  refine S.fin [(false,23)] rfl ?_
  refine L.move rfl rfl rfl trivial ?_
  refine L.nil ?_
  refine' S.or [.fin [25,24,26,27], .fin [28]] [.fin [29], .fin [30,31], .fin [32], .fin [33], .fin [34,35,36], .fin [37], .fin [38], .fin [39,40,41,42], .fin [43], .fin [44], .fin [45,46,47], .fin [48], .fin [49], .fin [52,50,51,53,54], .fin [55], .fin [56], .fin [59,57,58,60], .fin [61], .fin [62], .fin [64,63,65,66], .fin [67], .fin [68], .fin [70,69,71], .fin [72], .fin [73], .fork [] 74 (.fork [] 75 (.fin [76]) 76 (.fin [75])) 76 (.fin [74,75]), .fin [77,78], .fin [79], .fin [80], .fin [81,82,83], .fin [84], .fin [85], .fork [] 86 (.fork [] 87 (.fin [88]) 88 (.fin [87])) 88 (.fin [86,87]), .fin [89], .fin [90], .fin [91], .fork [94] 92 (.fork [] 93 (.fin [95]) 95 (.fin [93])) 95 (.fin [92,93]), .fin [96], .fin [97], .fin [98], .fork [101,102] 99 (.fork [] 100 (.fin [103]) 103 (.fin [100])) 103 (.fin [99,100]), .fin [104], .fin [105]] (s := 75) (p := 80) rfl rfl (fun hg6 => ?_) (fun hg6 => ?_) ?_
  rotate_left
  · refine S.fin [(false,25),(true,24),(false,26),(false,27)] rfl ?_
    refine L.move rfl rfl rfl ⟨_, rfl, rfl⟩ ?_
    refine L.call rfl rfl rfl (fun D11 hD11 => shed_ok 1 (by omega) _) rfl ⟨_, rfl, rfl⟩ (fun v11 D11 hD11 hp11 => ?_)
    have hYa := hp11
    refine L.callV rfl rfl rfl (fun D12 hD12 => ProveSure_ok _ _ (shedD 1) _ 3 _ (hYa.up (hD12 _ (by simp))) (hl3.up R2.up (hD12 _ (by simp)))) rfl ⟨_, rfl, rfl⟩ ?_
    refine L.not rfl rfl rfl ⟨_, rfl, rfl⟩ ?_
    refine L.nil ?_
    refine S.fin [(false,28)] rfl ?_
    refine L.pickF rfl rfl rfl rfl trivial ?_
    exact L.nil fun a w hh => (hh.cutK 4 rfl).ds (fun _ h => List.Mem.tail _ (h))
  · refine S.fin [(false,25),(true,24),(false,26),(false,27)] rfl ?_
    refine L.pass rfl rfl rfl ⟨_, _, rfl, rfl, rfl⟩ ?_
    refine L.pass rfl rfl rfl ⟨_, _, rfl, rfl, rfl⟩ ?_
    refine L.pass rfl rfl rfl ⟨_, _, rfl, rfl, rfl⟩ ?_
    refine L.pass rfl rfl rfl ⟨_, _, rfl, rfl, rfl⟩ ?_
    refine L.nil ?_
    refine S.fin [(false,28)] rfl ?_
    refine L.pickT rfl rfl rfl rfl trivial ?_
    exact L.nil fun a w hh => hh.cutK 4 rfl
  refine S.fin [(false,29)] rfl ?_
  refine L.move rfl rfl rfl trivial ?_
  refine L.nil ?_
  refine' S.or [.fin [30,31], .fin [32]] [.fin [33], .fin [34,35,36], .fin [37], .fin [38], .fin [39,40,41,42], .fin [43], .fin [44], .fin [45,46,47], .fin [48], .fin [49], .fin [52,50,51,53,54], .fin [55], .fin [56], .fin [59,57,58,60], .fin [61], .fin [62], .fin [64,63,65,66], .fin [67], .fin [68], .fin [70,69,71], .fin [72], .fin [73], .fork [] 74 (.fork [] 75 (.fin [76]) 76 (.fin [75])) 76 (.fin [74,75]), .fin [77,78], .fin [79], .fin [80], .fin [81,82,83], .fin [84], .fin [85], .fork [] 86 (.fork [] 87 (.fin [88]) 88 (.fin [87])) 88 (.fin [86,87]), .fin [89], .fin [90], .fin [91], .fork [94] 92 (.fork [] 93 (.fin [95]) 95 (.fin [93])) 95 (.fin [92,93]), .fin [96], .fin [97], .fin [98], .fork [101,102] 99 (.fork [] 100 (.fin [103]) 103 (.fin [100])) 103 (.fin [99,100]), .fin [104], .fin [105]] (s := 81) (p := 84) rfl rfl (fun hg7 => ?_) (fun hg7 => ?_) ?_
  rotate_left
  · refine S.fin [(false,30),(false,31)] rfl ?_
    refine L.move rfl rfl rfl ⟨_, rfl, rfl⟩ ?_
    refine L.neq rfl rfl rfl rfl ⟨_, rfl, rfl⟩ ?_
    refine L.nil ?_
    refine S.fin [(false,32)] rfl ?_
    refine L.pickF rfl rfl rfl rfl trivial ?_
    exact L.nil fun a w hh => hh.cutK 2 rfl
  · refine S.fin [(false,30),(false,31)] rfl ?_
    refine L.pass rfl rfl rfl ⟨_, _, rfl, rfl, rfl⟩ ?_
    refine L.pass rfl rfl rfl ⟨_, _, rfl, rfl, rfl⟩ ?_
    refine L.nil ?_
    refine S.fin [(false,32)] rfl ?_
    refine L.pickT rfl rfl rfl rfl trivial ?_
    exact L.nil fun a w hh => hh.cutK 2 rfl
  refine S.fin [(false,33)] rfl ?_
  refine L.move rfl rfl rfl trivial ?_
  refine L.nil ?_
  refine' S.or [.fin [34,35,36], .fin [37]] [.fin [38], .fin [39,40,41,42], .fin [43], .fin [44], .fin [45,46,47], .fin [48], .fin [49], .fin [52,50,51,53,54], .fin [55], .fin [56], .fin [59,57,58,60], .fin [61], .fin [62], .fin [64,63,65,66], .fin [67], .fin [68], .fin [70,69,71], .fin [72], .fin [73], .fork [] 74 (.fork [] 75 (.fin [76]) 76 (.fin [75])) 76 (.fin [74,75]), .fin [77,78], .fin [79], .fin [80], .fin [81,82,83], .fin [84], .fin [85], .fork [] 86 (.fork [] 87 (.fin [88]) 88 (.fin [87])) 88 (.fin [86,87]), .fin [89], .fin [90], .fin [91], .fork [94] 92 (.fork [] 93 (.fin [95]) 95 (.fin [93])) 95 (.fin [92,93]), .fin [96], .fin [97], .fin [98], .fork [101,102] 99 (.fork [] 100 (.fin [103]) 103 (.fin [100])) 103 (.fin [99,100]), .fin [104], .fin [105]] (s := 85) (p := 89) rfl rfl (fun hg8 => ?_) (fun hg8 => ?_) ?_
  rotate_left
  · refine S.fin [(false,34),(false,35),(false,36)] rfl ?_
    refine L.move rfl rfl rfl ⟨_, rfl, rfl⟩ ?_
    refine L.len rfl Try.underlying52 rfl hl4 rfl rfl ⟨_, rfl, rfl⟩ ?_
    refine L.neq rfl rfl rfl rfl ⟨_, rfl, rfl⟩ ?_
    refine L.nil ?_
    refine S.fin [(false,37)] rfl ?_
    refine L.pickF rfl rfl rfl rfl trivial ?_
    exact L.nil fun a w hh => hh.cutK 3 rfl
  · refine S.fin [(false,34),(false,35),(false,36)] rfl ?_
    refine L.pass rfl rfl rfl ⟨_, _, rfl, rfl, rfl⟩ ?_
    refine L.pass rfl rfl rfl ⟨_, _, rfl, rfl, rfl⟩ ?_
    refine L.pass rfl rfl rfl ⟨_, _, rfl, rfl, rfl⟩ ?_
    refine L.nil ?_
    refine S.fin [(false,37)] rfl ?_
    refine L.pickT rfl rfl rfl rfl trivial ?_
    exact L.nil fun a w hh => hh.cutK 3 rfl
  refine S.fin [(false,38)] rfl ?_
  refine L.move rfl rfl rfl trivial ?_
  refine L.nil ?_
  refine' S.or [.fin [39,40,41,42], .fin [43]] [.fin [44], .fin [45,46,47], .fin [48], .fin [49], .fin [52,50,51,53,54], .fin [55], .fin [56], .fin [59,57,58,60], .fin [61], .fin [62], .fin [64,63,65,66], .fin [67], .fin [68], .fin [70,69,71], .fin [72], .fin [73], .fork [] 74 (.fork [] 75 (.fin [76]) 76 (.fin [75])) 76 (.fin [74,75]), .fin [77,78], .fin [79], .fin [80], .fin [81,82,83], .fin [84], .fin [85], .fork [] 86 (.fork [] 87 (.fin [88]) 88 (.fin [87])) 88 (.fin [86,87]), .fin [89], .fin [90], .fin [91], .fork [94] 92 (.fork [] 93 (.fin [95]) 95 (.fin [93])) 95 (.fin [92,93]), .fin [96], .fin [97], .fin [98], .fork [101,102] 99 (.fork [] 100 (.fin [103]) 103 (.fin [100])) 103 (.fin [99,100]), .fin [104], .fin [105]] (s := 90) (p := 95) rfl rfl (fun hg9 => ?_) (fun hg9 => ?_) ?_
  rotate_left
  · refine S.fin [(false,39),(false,40),(false,41),(false,42)] rfl ?_
    refine L.call rfl rfl rfl (fun D13 hD13 => shed_ok 1 (by omega) _) rfl ⟨_, rfl, rfl⟩ (fun v13 D13 hD13 hp13 => ?_)
    have hYa := hp13
    refine L.call rfl rfl rfl (fun D14 hD14 => parts_ok 1 _) rfl ⟨_, rfl, rfl⟩ (fun v14 D14 hD14 hp14 => ?_)
    have hTa := hp14
    refine L.callV rfl rfl rfl (fun D15 hD15 => ProveTruth_ok _ _ (shedD 1) (partsD 1) _ (hYa.up (hD15 _ (by simp))) (hTa.up RP.up (hD15 _ (by simp)))) rfl ⟨_, rfl, rfl⟩ ?_
    refine L.not rfl rfl rfl ⟨_, rfl, rfl⟩ ?_
    refine L.nil ?_
    refine S.fin [(false,43)] rfl ?_
    refine L.pickF rfl rfl rfl rfl trivial ?_
    exact L.nil fun a w hh => (hh.cutK 4 rfl).ds (fun _ h => List.Mem.tail _ (List.Mem.tail _ (h)))
  · refine S.fin [(false,39),(false,40),(false,41),(false,42)] rfl ?_
    refine L.pass rfl rfl rfl ⟨_, _, rfl, rfl, rfl⟩ ?_
    refine L.pass rfl rfl rfl ⟨_, _, rfl, rfl, rfl⟩ ?_
    refine L.pass rfl rfl rfl ⟨_, _, rfl, rfl, rfl⟩ ?_
    refine L.pass rfl rfl rfl ⟨_, _, rfl, rfl, rfl⟩ ?_
    refine L.nil ?_
    refine S.fin [(false,43)] rfl ?_
    refine L.pickT rfl rfl rfl rfl trivial ?_
    exact L.nil fun a w hh => hh.cutK 4 rfl
  refine S.fin [(false,44)] rfl ?_
  refine L.move rfl rfl rfl trivial ?_
  refine L.nil ?_
  refine' S.or [.fin [45,46,47], .fin [48]] [.fin [49], .fin [52,50,51,53,54], .fin [55], .fin [56], .fin [59,57,58,60], .fin [61], .fin [62], .fin [64,63,65,66], .fin [67], .fin [68], .fin [70,69,71], .fin [72], .fin [73], .fork [] 74 (.fork [] 75 (.fin [76]) 76 (.fin [75])) 76 (.fin [74,75]), .fin [77,78], .fin [79], .fin [80], .fin [81,82,83], .fin [84], .fin [85], .fork [] 86 (.fork [] 87 (.fin [88]) 88 (.fin [87])) 88 (.fin [86,87]), .fin [89], .fin [90], .fin [91], .fork [94] 92 (.fork [] 93 (.fin [95]) 95 (.fin [93])) 95 (.fin [92,93]), .fin [96], .fin [97], .fin [98], .fork [101,102] 99 (.fork [] 100 (.fin [103]) 103 (.fin [100])) 103 (.fin [99,100]), .fin [104], .fin [105]] (s := 96) (p := 100) rfl rfl (fun hg10 => ?_) (fun hg10 => ?_) ?_
  rotate_left
  · refine S.fin [(false,45),(false,46),(false,47)] rfl ?_
    refine L.call rfl rfl rfl (fun D16 hD16 => shed_ok 1 (by omega) _) rfl ⟨_, rfl, rfl⟩ (fun v16 D16 hD16 hp16 => ?_)
    have hYa := hp16
    refine L.call rfl rfl rfl (fun D17 hD17 => parts_ok 0 _) rfl ⟨_, rfl, rfl⟩ (fun v17 D17 hD17 hp17 => ?_)
    have hTa := hp17
    refine L.callV rfl rfl rfl (fun D18 hD18 => ProveTruth_ok _ _ (shedD 1) (partsD 0) _ (hYa.up (hD18 _ (by simp))) (hTa.up RP.up (hD18 _ (by simp)))) rfl ⟨_, rfl, rfl⟩ ?_
    refine L.nil ?_
    refine S.fin [(false,48)] rfl ?_
    refine L.pickF rfl rfl rfl rfl trivial ?_
    exact L.nil fun a w hh => (hh.cutK 3 rfl).ds (fun _ h => List.Mem.tail _ (List.Mem.tail _ (h)))
  · refine S.fin [(false,45),(false,46),(false,47)] rfl ?_
    refine L.pass rfl rfl rfl ⟨_, _, rfl, rfl, rfl⟩ ?_
    refine L.pass rfl rfl rfl ⟨_, _, rfl, rfl, rfl⟩ ?_
    refine L.pass rfl rfl rfl ⟨_, _, rfl, rfl, rfl⟩ ?_
    refine L.nil ?_
    refine S.fin [(false,48)] rfl ?_
    refine L.pickT rfl rfl rfl rfl trivial ?_
    exact L.nil fun a w hh => hh.cutK 3 rfl
  refine S.fin [(false,49)] rfl ?_
  refine L.move rfl rfl rfl trivial ?_
  refine L.nil ?_
  refine' S.or [.fin [52,50,51,53,54], .fin [55]] [.fin [56], .fin [59,57,58,60], .fin [61], .fin [62], .fin [64,63,65,66], .fin [67], .fin [68], .fin [70,69,71], .fin [72], .fin [73], .fork [] 74 (.fork [] 75 (.fin [76]) 76 (.fin [75])) 76 (.fin [74,75]), .fin [77,78], .fin [79], .fin [80], .fin [81,82,83], .fin [84], .fin [85], .fork [] 86 (.fork [] 87 (.fin [88]) 88 (.fin [87])) 88 (.fin [86,87]), .fin [89], .fin [90], .fin [91], .fork [94] 92 (.fork [] 93 (.fin [95]) 95 (.fin [93])) 95 (.fin [92,93]), .fin [96], .fin [97], .fin [98], .fork [101,102] 99 (.fork [] 100 (.fin [103]) 103 (.fin [100])) 103 (.fin [99,100]), .fin [104], .fin [105]] (s := 101) (p := 107) rfl rfl (fun hg11 => ?_) (fun hg11 => ?_) ?_
  rotate_left
  · refine S.fin [(false,52),(true,50),(true,51),(false,53),(false,54)] rfl ?_
    refine L.move rfl rfl rfl ⟨_, rfl, rfl⟩ ?_
    refine L.call rfl rfl rfl (fun D19 hD19 => shed_ok 0 (by omega) _) rfl ⟨_, rfl, rfl⟩ (fun v19 D19 hD19 hp19 => ?_)
    have hYa := hp19
    refine L.call rfl rfl rfl (fun D20 hD20 => parts_ok 1 _) rfl ⟨_, rfl, rfl⟩ (fun v20 D20 hD20 hp20 => ?_)
    have hTa := hp20
    refine L.callV rfl rfl rfl (fun D21 hD21 => ProvePairs_ok _ _ _ (shedD 0) (partsD 1) [(0, 1), (2, 4)] 3 _ (hYa.up (hD21 _ (by simp))) (hTa.up RP.up (hD21 _ (by simp))) (hS901.up R2.up (hD21 _ (by simp)))) rfl ⟨_, rfl, rfl⟩ ?_
    refine L.not rfl rfl rfl ⟨_, rfl, rfl⟩ ?_
    refine L.nil ?_
    refine S.fin [(false,55)] rfl ?_
    refine L.pickF rfl rfl rfl rfl trivial ?_
    exact L.nil fun a w hh => (hh.cutK 5 rfl).ds (fun _ h => List.Mem.tail _ (List.Mem.tail _ (h)))
  · refine S.fin [(false,52),(true,50),(true,51),(false,53),(false,54)] rfl ?_
    refine L.pass rfl rfl rfl ⟨_, _, rfl, rfl, rfl⟩ ?_
    refine L.pass rfl rfl rfl ⟨_, _, rfl, rfl, rfl⟩ ?_
    refine L.pass rfl rfl rfl ⟨_, _, rfl, rfl, rfl⟩ ?_
    refine L.pass rfl rfl rfl ⟨_, _, rfl, rfl, rfl⟩ ?_
    refine L.pass rfl rfl rfl ⟨_, _, rfl, rfl, rfl⟩ ?_
    refine L.nil ?_
    refine S.fin [(false,55)] rfl ?_
    refine L.pickT rfl rfl rfl rfl trivial ?_
    exact L.nil fun a w hh => hh.cutK 5 rfl
  refine S.fin [(false,56)] rfl ?_
  refine L.move rfl rfl rfl trivial ?_
  refine L.nil ?_
  refine' S.or [.fin [59,57,58,60], .fin [61]] [.fin [62], .fin [64,63,65,66], .fin [67], .fin [68], .fin [70,69,71], .fin [72], .fin [73], .fork [] 74 (.fork [] 75 (.fin [76]) 76 (.fin [75])) 76 (.fin [74,75]), .fin [77,78], .fin [79], .fin [80], .fin [81,82,83], .fin [84], .fin [85], .fork [] 86 (.fork [] 87 (.fin [88]) 88 (.fin [87])) 88 (.fin [86,87]), .fin [89], .fin [90], .fin [91], .fork [94] 92 (.fork [] 93 (.fin [95]) 95 (.fin [93])) 95 (.fin [92,93]), .fin [96], .fin [97], .fin [98], .fork [101,102] 99 (.fork [] 100 (.fin [103]) 103 (.fin [100])) 103 (.fin [99,100]), .fin [104], .fin [105]] (s := 108) (p := 113) rfl rfl (fun hg12 => ?_) (fun hg12 => ?_) ?_
  rotate_left
  · refine S.fin [(false,59),(true,57),(true,58),(false,60)] rfl ?_
    refine L.move rfl rfl rfl ⟨_, rfl, rfl⟩ ?_
    refine L.call rfl rfl rfl (fun D22 hD22 => shed_ok 0 (by omega) _) rfl ⟨_, rfl, rfl⟩ (fun v22 D22 hD22 hp22 => ?_)
    have hYa := hp22
    refine L.call rfl rfl rfl (fun D23 hD23 => parts_ok 0 _) rfl ⟨_, rfl, rfl⟩ (fun v23 D23 hD23 hp23 => ?_)
    have hTa := hp23
    refine L.callV rfl rfl rfl (fun D24 hD24 => ProvePairs_ok _ _ _ (shedD 0) (partsD 0) [(0, 1), (2, 4)] 3 _ (hYa.up (hD24 _ (by simp))) (hTa.up RP.up (hD24 _ (by simp))) (hS901.up R2.up (hD24 _ (by simp)))) rfl ⟨_, rfl, rfl⟩ ?_
    refine L.nil ?_
    refine S.fin [(false,61)] rfl ?_
    refine L.pickF rfl rfl rfl rfl trivial ?_
    exact L.nil fun a w hh => (hh.cutK 4 rfl).ds (fun _ h => List.Mem.tail _ (List.Mem.tail _ (h)))
  · refine S.fin [(false,59),(true,57),(true,58),(false,60)] rfl ?_
    refine L.pass rfl rfl rfl ⟨_, _, rfl, rfl, rfl⟩ ?_
    refine L.pass rfl rfl rfl ⟨_, _, rfl, rfl, rfl⟩ ?_
    refine L.pass rfl rfl rfl ⟨_, _, rfl, rfl, rfl⟩ ?_
    refine L.pass rfl rfl rfl ⟨_, _, rfl, rfl, rfl⟩ ?_
    refine L.nil ?_
    refine S.fin [(false,61)] rfl ?_
    refine L.pickT rfl rfl rfl rfl trivial ?_
    exact L.nil fun a w hh => hh.cutK 4 rfl
  refine S.fin [(false,62)] rfl ?_
  refine L.move rfl rfl rfl trivial ?_
  refine L.nil ?_
  refine' S.or [.fin [64,63,65,66], .fin [67]] [.fin [68], .fin [70,69,71], .fin [72], .fin [73], .fork [] 74 (.fork [] 75 (.fin [76]) 76 (.fin [75])) 76 (.fin [74,75]), .fin [77,78], .fin [79], .fin [80], .fin [81,82,83], .fin [84], .fin [85], .fork [] 86 (.fork [] 87 (.fin [88]) 88 (.fin [87])) 88 (.fin [86,87]), .fin [89], .fin [90], .fin [91], .fork [94] 92 (.fork [] 93 (.fin [95]) 95 (.fin [93])) 95 (.fin [92,93]), .fin [96], .fin [97], .fin [98], .fork [101,102] 99 (.fork [] 100 (.fin [103]) 103 (.fin [100])) 103 (.fin [99,100]), .fin [104], .fin [105]] (s := 114) (p := 119) rfl rfl (fun hg13 => ?_) (fun hg13 => ?_) ?_
  rotate_left
  · refine S.fin [(false,64),(true,63),(false,65),(false,66)] rfl ?_
    refine L.move rfl rfl rfl ⟨_, rfl, rfl⟩ ?_
    refine L.call rfl rfl rfl (fun D25 hD25 => shed_ok 0 (by omega) _) rfl ⟨_, rfl, rfl⟩ (fun v25 D25 hD25 hp25 => ?_)
    have hYa := hp25
    refine L.callV rfl rfl rfl (fun D26 hD26 => ProveSure_ok _ _ (shedD 0) [(0, 1), (2, 4)] 2 _ (hYa.up (hD26 _ (by simp))) (hS901.up R2.up (hD26 _ (by simp)))) rfl ⟨_, rfl, rfl⟩ ?_
    refine L.not rfl rfl rfl ⟨_, rfl, rfl⟩ ?_
    refine L.nil ?_
    refine S.fin [(false,67)] rfl ?_
    refine L.pickF rfl rfl rfl rfl trivial ?_
    exact L.nil fun a w hh => (hh.cutK 4 rfl).ds (fun _ h => List.Mem.tail _ (h))
  · refine S.fin [(false,64),(true,63),(false,65),(false,66)] rfl ?_
    refine L.pass rfl rfl rfl ⟨_, _, rfl, rfl, rfl⟩ ?_
    refine L.pass rfl rfl rfl ⟨_, _, rfl, rfl, rfl⟩ ?_
    refine L.pass rfl rfl rfl ⟨_, _, rfl, rfl, rfl⟩ ?_
    refine L.pass rfl rfl rfl ⟨_, _, rfl, rfl, rfl⟩ ?_
    refine L.nil ?_
    refine S.fin [(false,67)] rfl ?_
    refine L.pickT rfl rfl rfl rfl trivial ?_
    exact L.nil fun a w hh => hh.cutK 4 rfl
  refine S.fin [(false,68)] rfl ?_
  refine L.move rfl rfl rfl trivial ?_
  refine L.nil ?_
  refine' S.or [.fin [70,69,71], .fin [72]] [.fin [73], .fork [] 74 (.fork [] 75 (.fin [76]) 76 (.fin [75])) 76 (.fin [74,75]), .fin [77,78], .fin [79], .fin [80], .fin [81,82,83], .fin [84], .fin [85], .fork [] 86 (.fork [] 87 (.fin [88]) 88 (.fin [87])) 88 (.fin [86,87]), .fin [89], .fin [90], .fin [91], .fork [94] 92 (.fork [] 93 (.fin [95]) 95 (.fin [93])) 95 (.fin [92,93]), .fin [96], .fin [97], .fin [98], .fork [101,102] 99 (.fork [] 100 (.fin [103]) 103 (.fin [100])) 103 (.fin [99,100]), .fin [104], .fin [105]] (s := 120) (p := 124) rfl rfl (fun hg14 => ?_) (fun hg14 => ?_) ?_
  rotate_left
  · refine S.fin [(false,70),(true,69),(false,71)] rfl ?_
    refine L.move rfl rfl rfl ⟨_, rfl, rfl⟩ ?_
    refine L.call rfl rfl rfl (fun D27 hD27 => shed_ok 0 (by omega) _) rfl ⟨_, rfl, rfl⟩ (fun v27 D27 hD27 hp27 => ?_)
    have hYa := hp27
    refine L.callV rfl rfl rfl (fun D28 hD28 => ProveSure_ok _ _ (shedD 0) [(0, 1), (2, 4)] 3 _ (hYa.up (hD28 _ (by simp))) (hS901.up R2.up (hD28 _ (by simp)))) rfl ⟨_, rfl, rfl⟩ ?_
    refine L.nil ?_
    refine S.fin [(false,72)] rfl ?_
    refine L.pickF rfl rfl rfl rfl trivial ?_
    exact L.nil fun a w hh => (hh.cutK 3 rfl).ds (fun _ h => List.Mem.tail _ (h))
  · refine S.fin [(false,70),(true,69),(false,71)] rfl ?_
    refine L.pass rfl rfl rfl ⟨_, _, rfl, rfl, rfl⟩ ?_
    refine L.pass rfl rfl rfl ⟨_, _, rfl, rfl, rfl⟩ ?_
    refine L.pass rfl rfl rfl ⟨_, _, rfl, rfl, rfl⟩ ?_
    refine L.nil ?_
    refine S.fin [(false,72)] rfl ?_
    refine L.pickT rfl rfl rfl rfl trivial ?_
    exact L.nil fun a w hh => hh.cutK 3 rfl
  refine S.fin [(false,73)] rfl ?_
  refine L.move rfl rfl rfl trivial ?_
  refine L.nil ?_
  refine' S.or [.fork [] 74 (.fork [] 75 (.fin [76]) 76 (.fin [75])) 76 (.fin [74,75]), .fin [77,78], .fin [79]] [.fin [80], .fin [81,82,83], .fin [84], .fin [85], .fork [] 86 (.fork [] 87 (.fin [88]) 88 (.fin [87])) 88 (.fin [86,87]), .fin [89], .fin [90], .fin [91], .fork [94] 92 (.fork [] 93 (.fin [95]) 95 (.fin [93])) 95 (.fin [92,93]), .fin [96], .fin [97], .fin [98], .fork [101,102] 99 (.fork [] 100 (.fin [103]) 103 (.fin [100])) 103 (.fin [99,100]), .fin [104], .fin [105]] (s := 125) (p := 131) rfl rfl (fun hg15 => ?_) (fun hg15 => ?_) ?_
  rotate_left
  · refine S.cons ?_
    refine L.planFork [] rfl ?_
    refine L.nil (L.forkP true true rfl rfl ?_ ?_)
    · refine L.call rfl rfl rfl (fun D29 hD29 => shed_ok 0 (by omega) _) rfl ⟨_, rfl, rfl⟩ (fun v29 D29 hD29 hp29 => ?_)
      have hYa := hp29
      refine L.nil ?_
      refine L.planFork [] rfl ?_
      refine L.nil (L.forkP true true rfl rfl ?_ ?_)
      · refine L.call rfl rfl rfl (fun D30 hD30 => parts_ok 0 _) rfl ⟨_, rfl, rfl⟩ (fun v30 D30 hD30 hp30 => ?_)
        have hTa := hp30
        refine L.nil ?_
        refine L.planFin [(true,76)] rfl ?_
        refine L.buildSlice rfl Try.underlying52 Tf.s3 Tf.z3 rfl rfl rfl rfl (.cons rfl rfl .nil) rfl ⟨_, rfl, rfl⟩ (fun b902 D902 hD902 hA902 => ?_)
        have hSl : Sl D902 RI 1 _ [1] := Froz.ints (l := [1]) (n := 1) (Or.inr ⟨_, 1, rfl, by omega, hA902⟩) rfl (by omega)
        refine L.nil ?_
        refine S.fin [(false,77),(false,78)] rfl ?_
        refine L.callV rfl rfl rfl (fun D31 hD31 => ProveBerge_ok _ _ _ (shedD 0) (partsD 0) [1] 2 _ (hYa.up (hD31 _ (by simp))) (hTa.up RP.up (hD31 _ (by simp))) (hSl.up RI.up (hD31 _ (by simp)))) rfl ⟨_, rfl, rfl⟩ ?_
        refine L.not rfl rfl rfl ⟨_, rfl, rfl⟩ ?_
        refine L.nil ?_
        refine S.fin [(false,79)] rfl ?_
        refine L.pickF rfl rfl rfl rfl trivial ?_
        exact L.nil fun a w hh => (hh.cutK 5 rfl).ds (fun _ h => List.Mem.tail _ (List.Mem.tail _ (List.Mem.tail _ (h))))
      · refine L.buildSlice rfl Try.underlying52 Tf.s3 Tf.z3 rfl rfl rfl rfl (.cons rfl rfl .nil) rfl ⟨_, rfl, rfl⟩ (fun b902 D902 hD902 hA902 => ?_)
        have hSl : Sl D902 RI 1 _ [1] := Froz.ints (l := [1]) (n := 1) (Or.inr ⟨_, 1, rfl, by omega, hA902⟩) rfl (by omega)
        refine L.nil ?_
        refine L.planFin [(true,75)] rfl ?_
        refine L.call rfl rfl rfl (fun D30 hD30 => parts_ok 0 _) rfl ⟨_, rfl, rfl⟩ (fun v30 D30 hD30 hp30 => ?_)
        have hTa := hp30
        refine L.nil ?_
        refine S.fin [(false,77),(false,78)] rfl ?_
        refine L.callV rfl rfl rfl (fun D31 hD31 => ProveBerge_ok _ _ _ (shedD 0) (partsD 0) [1] 2 _ (hYa.up (hD31 _ (by simp))) (hTa.up RP.up (hD31 _ (by simp))) (hSl.up RI.up (hD31 _ (by simp)))) rfl ⟨_, rfl, rfl⟩ ?_
        refine L.not rfl rfl rfl ⟨_, rfl, rfl⟩ ?_
        refine L.nil ?_
        refine S.fin [(false,79)] rfl ?_
        refine L.pickF rfl rfl rfl rfl trivial ?_
        exact L.nil fun a w hh => (hh.cutK 5 rfl).ds (fun _ h => List.Mem.tail _ (List.Mem.tail _ (List.Mem.tail _ (h))))
    · refine L.buildSlice rfl Try.underlying52 Tf.s3 Tf.z3 rfl rfl rfl rfl (.cons rfl rfl .nil) rfl ⟨_, rfl, rfl⟩ (fun b902 D902 hD902 hA902 => ?_)
      have hSl : Sl D902 RI 1 _ [1] := Froz.ints (l := [1]) (n := 1) (Or.inr ⟨_, 1, rfl, by omega, hA902⟩) rfl (by omega)
      refine L.nil ?_
      refine L.planFin [(true,74),(true,75)] rfl ?_
      refine L.call rfl rfl rfl (fun D29 hD29 => shed_ok 0 (by omega) _) rfl ⟨_, rfl, rfl⟩ (fun v29 D29 hD29 hp29 => ?_)
      have hYa := hp29
      refine L.call rfl rfl rfl (fun D30 hD30 => parts_ok 0 _) rfl ⟨_, rfl, rfl⟩ (fun v30 D30 hD30 hp30 => ?_)
      have hTa := hp30
      refine L.nil ?_
      refine S.fin [(false,77),(false,78)] rfl ?_
      refine L.callV rfl rfl rfl (fun D31 hD31 => ProveBerge_ok _ _ _ (shedD 0) (partsD 0) [1] 2 _ (hYa.up (hD31 _ (by simp))) (hTa.up RP.up (hD31 _ (by simp))) (hSl.up RI.up (hD31 _ (by simp)))) rfl ⟨_, rfl, rfl⟩ ?_
      refine L.not rfl rfl rfl ⟨_, rfl, rfl⟩ ?_
      refine L.nil ?_
      refine S.fin [(false,79)] rfl ?_
      refine L.pickF rfl rfl rfl rfl trivial ?_
      exact L.nil fun a w hh => (hh.cutK 5 rfl).ds (fun _ h => List.Mem.tail _ (List.Mem.tail _ (List.Mem.tail _ (h))))
  · refine S.cons ?_
    refine L.planFork [] rfl ?_
    refine L.nil (L.forkP true true rfl rfl ?_ ?_)
    · refine L.pass rfl rfl rfl ⟨_, _, rfl, rfl, rfl⟩ ?_
      refine L.nil ?_
      refine L.planFork [] rfl ?_
      refine L.nil (L.forkP true true rfl rfl ?_ ?_)
      · refine L.pass rfl rfl rfl ⟨_, _, rfl, rfl, rfl⟩ ?_
        refine L.nil ?_
        refine L.planFin [(true,76)] rfl ?_
        refine L.pass rfl rfl rfl ⟨_, _, rfl, rfl, rfl⟩ ?_
        refine L.nil ?_
        refine S.fin [(false,77),(false,78)] rfl ?_
        refine L.pass rfl rfl rfl ⟨_, _, rfl, rfl, rfl⟩ ?_
        refine L.pass rfl rfl rfl ⟨_, _, rfl, rfl, rfl⟩ ?_
        refine L.nil ?_
        refine S.fin [(false,79)] rfl ?_
        refine L.pickT rfl rfl rfl rfl trivial ?_
        exact L.nil fun a w hh => hh.cutK 5 rfl
      · refine L.pass rfl rfl rfl ⟨_, _, rfl, rfl, rfl⟩ ?_
        refine L.nil ?_
        refine L.planFin [(true,75)] rfl ?_
        refine L.pass rfl rfl rfl ⟨_, _, rfl, rfl, rfl⟩ ?_
        refine L.nil ?_
        refine S.fin [(false,77),(false,78)] rfl ?_
        refine L.pass rfl rfl rfl ⟨_, _, rfl, rfl, rfl⟩ ?_
        refine L.pass rfl rfl rfl ⟨_, _, rfl, rfl, rfl⟩ ?_
        refine L.nil ?_
        refine S.fin [(false,79)] rfl ?_
        refine L.pickT rfl rfl rfl rfl trivial ?_
        exact L.nil fun a w hh => hh.cutK 5 rfl
    · refine L.pass rfl rfl rfl ⟨_, _, rfl, rfl, rfl⟩ ?_
      refine L.nil ?_
      refine L.planFin [(true,74),(true,75)] rfl ?_
      refine L.pass rfl rfl rfl ⟨_, _, rfl, rfl, rfl⟩ ?_
      refine L.pass rfl rfl rfl ⟨_, _, rfl, rfl, rfl⟩ ?_
      refine L.nil ?_
      refine S.fin [(false,77),(false,78)] rfl ?_
      refine L.pass rfl rfl rfl ⟨_, _, rfl, rfl, rfl⟩ ?_
      refine L.pass rfl rfl rfl ⟨_, _, rfl, rfl, rfl⟩ ?_
      refine L.nil ?_
      refine S.fin [(false,79)] rfl ?_
      refine L.pickT rfl rfl rfl rfl trivial ?_
      exact L.nil fun a w hh => hh.cutK 5 rfl
  refine S.fin [(false,80)] rfl ?_
  refine L.move rfl rfl rfl trivial ?_
  refine L.nil ?_
  refine' S.or [.fin [81,82,83], .fin [84]] [.fin [85], .fork [] 86 (.fork [] 87 (.fin [88]) 88 (.fin [87])) 88 (.fin [86,87]), .fin [89], .fin [90], .fin [91], .fork [94] 92 (.fork [] 93 (.fin [95]) 95 (.fin [93])) 95 (.fin [92,93]), .fin [96], .fin [97], .fin [98], .fork [101,102] 99 (.fork [] 100 (.fin [103]) 103 (.fin [100])) 103 (.fin [99,100]), .fin [104], .fin [105]] (s := 132) (p := 136) rfl rfl (fun hg16 => ?_) (fun hg16 => ?_) ?_
  rotate_left
  · refine S.fin [(false,81),(false,82),(false,83)] rfl ?_
    refine L.call rfl rfl rfl (fun D32 hD32 => shed_ok 0 (by omega) _) rfl ⟨_, rfl, rfl⟩ (fun v32 D32 hD32 hp32 => ?_)
    have hYa := hp32
    refine L.call rfl rfl rfl (fun D33 hD33 => parts_ok 0 _) rfl ⟨_, rfl, rfl⟩ (fun v33 D33 hD33 hp33 => ?_)
    have hTa := hp33
    refine L.callV rfl rfl rfl (fun D34 hD34 => ProveBerge_ok _ _ _ (shedD 0) (partsD 0) [] 1 _ (hYa.up (hD34 _ (by simp))) (hTa.up RP.up (hD34 _ (by simp))) Sl.nil) rfl ⟨_, rfl, rfl⟩ ?_
    refine L.nil ?_
    refine S.fin [(false,84)] rfl ?_
    refine L.pickF rfl rfl rfl rfl trivial ?_
    exact L.nil fun a w hh => (hh.cutK 3 rfl).ds (fun _ h => List.Mem.tail _ (List.Mem.tail _ (h)))
  · refine S.fin [(false,81),(false,82),(false,83)] rfl ?_
    refine L.pass rfl rfl rfl ⟨_, _, rfl, rfl, rfl⟩ ?_
    refine L.pass rfl rfl rfl ⟨_, _, rfl, rfl, rfl⟩ ?_
    refine L.pass rfl rfl rfl ⟨_, _, rfl, rfl, rfl⟩ ?_
    refine L.nil ?_
    refine S.fin [(false,84)] rfl ?_
    refine L.pickT rfl rfl rfl rfl trivial ?_
    exact L.nil fun a w hh => hh.cutK 3 rfl
  refine S.fin [(false,85)] rfl ?_
  refine L.move rfl rfl rfl trivial ?_
  refine L.nil ?_
  refine' S.or [.fork [] 86 (.fork [] 87 (.fin [88]) 88 (.fin [87])) 88 (.fin [86,87]), .fin [89], .fin [90]] [.fin [91], .fork [94] 92 (.fork [] 93 (.fin [95]) 95 (.fin [93])) 95 (.fin [92,93]), .fin [96], .fin [97], .fin [98], .fork [101,102] 99 (.fork [] 100 (.fin [103]) 103 (.fin [100])) 103 (.fin [99,100]), .fin [104], .fin [105]] (s := 137) (p := 142) rfl rfl (fun hg17 => ?_) (fun hg17 => ?_) ?_
  rotate_left
  · refine S.cons ?_
    refine L.planFork [] rfl ?_
    refine L.nil (L.forkP true true rfl rfl ?_ ?_)
    · refine L.call rfl rfl rfl (fun D35 hD35 => shed_ok 0 (by omega) _) rfl ⟨_, rfl, rfl⟩ (fun v35 D35 hD35 hp35 => ?_)
      have hYa := hp35
      refine L.nil ?_
      refine L.planFork [] rfl ?_
      refine L.nil (L.forkP true true rfl rfl ?_ ?_)
      · refine L.call rfl rfl rfl (fun D36 hD36 => parts_ok 0 _) rfl ⟨_, rfl, rfl⟩ (fun v36 D36 hD36 hp36 => ?_)
        have hTa := hp36
        refine L.nil ?_
        refine L.planFin [(true,88)] rfl ?_
        refine L.buildSlice rfl Try.underlying52 Tf.s3 Tf.z3 rfl rfl rfl rfl (.cons rfl rfl .nil) rfl ⟨_, rfl, rfl⟩ (fun b903 D903 hD903 hA903 => ?_)
        have hSl : Sl D903 RI 1 _ [3] := Froz.ints (l := [3]) (n := 1) (Or.inr ⟨_, 1, rfl, by omega, hA903⟩) rfl (by omega)
        refine L.nil ?_
        refine S.fin [(false,89)] rfl ?_
        refine L.callV rfl rfl rfl (fun D37 hD37 => ProveBerge_ok _ _ _ (shedD 0) (partsD 0) [3] 9 _ (hYa.up (hD37 _ (by simp))) (hTa.up RP.up (hD37 _ (by simp))) (hSl.up RI.up (hD37 _ (by simp)))) rfl ⟨_, rfl, rfl⟩ ?_
        refine L.nil ?_
        refine S.fin [(false,90)] rfl ?_
        refine L.pickF rfl rfl rfl rfl trivial ?_
        exact L.nil fun a w hh => (hh.cutK 4 rfl).ds (fun _ h => List.Mem.tail _ (List.Mem.tail _ (List.Mem.tail _ (h))))
      · refine L.buildSlice rfl Try.underlying52 Tf.s3 Tf.z3 rfl rfl rfl rfl (.cons rfl rfl .nil) rfl ⟨_, rfl, rfl⟩ (fun b903 D903 hD903 hA903 => ?_)
        have hSl : Sl D903 RI 1 _ [3] := Froz.ints (l := [3]) (n := 1) (Or.inr ⟨_, 1, rfl, by omega, hA903⟩) rfl (by omega)
        refine L.nil ?_
        refine L.planFin [(true,87)] rfl ?_
        refine L.call rfl rfl rfl (fun D36 hD36 => parts_ok 0 _) rfl ⟨_, rfl, rfl⟩ (fun v36 D36 hD36 hp36 => ?_)
        have hTa := hp36
        refine L.nil ?_
        refine S.fin [(false,89)] rfl ?_
        refine L.callV rfl rfl rfl (fun D37 hD37 => ProveBerge_ok _ _ _ (shedD 0) (partsD 0) [3] 9 _ (hYa.up (hD37 _ (by simp))) (hTa.up RP.up (hD37 _ (by simp))) (hSl.up RI.up (hD37 _ (by simp)))) rfl ⟨_, rfl, rfl⟩ ?_
        refine L.nil ?_
        refine S.fin [(false,90)] rfl ?_
        refine L.pickF rfl rfl rfl rfl trivial ?_
        exact L.nil fun a w hh => (hh.cutK 4 rfl).ds (fun _ h => List.Mem.tail _ (List.Mem.tail _ (List.Mem.tail _ (h))))
    · refine L.buildSlice rfl Try.underlying52 Tf.s3 Tf.z3 rfl rfl rfl rfl (.cons rfl rfl .nil) rfl ⟨_, rfl, rfl⟩ (fun b903 D903 hD903 hA903 => ?_)
      have hSl : Sl D903 RI 1 _ [3] := Froz.ints (l := [3]) (n := 1) (Or.inr ⟨_, 1, rfl, by omega, hA903⟩) rfl (by omega)
      refine L.nil ?_
      refine L.planFin [(true,86),(true,87)] rfl ?_
      refine L.call rfl rfl rfl (fun D35 hD35 => shed_ok 0 (by omega) _) rfl ⟨_, rfl, rfl⟩ (fun v35 D35 hD35 hp35 => ?_)
      have hYa := hp35
      refine L.call rfl rfl rfl (fun D36 hD36 => parts_ok 0 _) rfl ⟨_, rfl, rfl⟩ (fun v36 D36 hD36 hp36 => ?_)
      have hTa := hp36
      refine L.nil ?_
      refine S.fin [(false,89)] rfl ?_
      refine L.callV rfl rfl rfl (fun D37 hD37 => ProveBerge_ok _ _ _ (shedD 0) (partsD 0) [3] 9 _ (hYa.up (hD37 _ (by simp))) (hTa.up RP.up (hD37 _ (by simp))) (hSl.up RI.up (hD37 _ (by simp)))) rfl ⟨_, rfl, rfl⟩ ?_
      refine L.nil ?_
      refine S.fin [(false,90)] rfl ?_
      refine L.pickF rfl rfl rfl rfl trivial ?_
      exact L.nil fun a w hh => (hh.cutK 4 rfl).ds (fun _ h => List.Mem.tail _ (List.Mem.tail _ (List.Mem.tail _ (h))))
  · refine S.cons ?_
    refine L.planFork [] rfl ?_
    refine L.nil (L.forkP true true rfl rfl ?_ ?_)
    · refine L.pass rfl rfl rfl ⟨_, _, rfl, rfl, rfl⟩ ?_
      refine L.nil ?_
      refine L.planFork [] rfl ?_
      refine L.nil (L.forkP true true rfl rfl ?_ ?_)
      · refine L.pass rfl rfl rfl ⟨_, _, rfl, rfl, rfl⟩ ?_
        refine L.nil ?_
        refine L.planFin [(true,88)] rfl ?_
        refine L.pass rfl rfl rfl ⟨_, _, rfl, rfl, rfl⟩ ?_
        refine L.nil ?_
        refine S.fin [(false,89)] rfl ?_
        refine L.pass rfl rfl rfl ⟨_, _, rfl, rfl, rfl⟩ ?_
        refine L.nil ?_
        refine S.fin [(false,90)] rfl ?_
        refine L.pickT rfl rfl rfl rfl trivial ?_
        exact L.nil fun a w hh => hh.cutK 4 rfl
      · refine L.pass rfl rfl rfl ⟨_, _, rfl, rfl, rfl⟩ ?_
        refine L.nil ?_
        refine L.planFin [(true,87)] rfl ?_
        refine L.pass rfl rfl rfl ⟨_, _, rfl, rfl, rfl⟩ ?_
        refine L.nil ?_
        refine S.fin [(false,89)] rfl ?_
        refine L.pass rfl rfl rfl ⟨_, _, rfl, rfl, rfl⟩ ?_
        refine L.nil ?_
        refine S.fin [(false,90)] rfl ?_
        refine L.pickT rfl rfl rfl rfl trivial ?_
        exact L.nil fun a w hh => hh.cutK 4 rfl
    · refine L.pass rfl rfl rfl ⟨_, _, rfl, rfl, rfl⟩ ?_
      refine L.nil ?_
      refine L.planFin [(true,86),(true,87)] rfl ?_
      refine L.pass rfl rfl rfl ⟨_, _, rfl, rfl, rfl⟩ ?_
      refine L.pass rfl rfl rfl ⟨_, _, rfl, rfl, rfl⟩ ?_
      refine L.nil ?_
      refine S.fin [(false,89)] rfl ?_
      refine L.pass rfl rfl rfl ⟨_, _, rfl, rfl, rfl⟩ ?_
      refine L.nil ?_
      refine S.fin [(false,90)] rfl ?_
      refine L.pickT rfl rfl rfl rfl trivial ?_
      exact L.nil fun a w hh => hh.cutK 4 rfl
  refine S.fin [(false,91)] rfl ?_
  refine L.move rfl rfl rfl trivial ?_
  refine L.nil ?_
  refine' S.or [.fork [94] 92 (.fork [] 93 (.fin [95]) 95 (.fin [93])) 95 (.fin [92,93]), .fin [96], .fin [97]] [.fin [98], .fork [101,102] 99 (.fork [] 100 (.fin [103]) 103 (.fin [100])) 103 (.fin [99,100]), .fin [104], .fin [105]] (s := 143) (p := 149) rfl rfl (fun hg18 => ?_) (fun hg18 => ?_) ?_
  rotate_left
  · refine S.cons ?_
    refine L.planFork [(false,94)] rfl ?_
    refine L.build (cs := [.int .i64 1, .int .i64 0]) rfl Tf.p111 Tf.z111 rfl rfl rfl ⟨_, rfl, rfl⟩ ?_
    refine L.nil (L.forkP true true rfl rfl ?_ ?_)
    · refine L.call rfl rfl rfl (fun D38 hD38 => shed_ok 0 (by omega) _) rfl ⟨_, rfl, rfl⟩ (fun v38 D38 hD38 hp38 => ?_)
      have hYa := hp38
      refine L.nil ?_
      refine L.planFork [] rfl ?_
      refine L.nil (L.forkP true true rfl rfl ?_ ?_)
      · refine L.call rfl rfl rfl (fun D39 hD39 => parts_ok 1 _) rfl ⟨_, rfl, rfl⟩ (fun v39 D39 hD39 hp39 => ?_)
        have hTa := hp39
        refine L.nil ?_
        refine L.planFin [(true,95)] rfl ?_
        refine L.buildSlice rfl Try.underlying30 Tf.s111 Tf.z111 rfl rfl rfl rfl (.cons rfl rfl .nil) rfl ⟨_, rfl, rfl⟩ (fun b904 D904 hD904 hA904 => ?_)
        have hSl : Sl D904 R2 2 _ [(1, 0)] := Froz.prs (l := [(1, 0)]) (n := 1) (Or.inr ⟨_, 1, rfl, by omega, hA904⟩) rfl (by omega)
        refine L.nil ?_
        refine S.fin [(false,96)] rfl ?_
        refine L.callV rfl rfl rfl (fun D40 hD40 => ProvePairs_ok _ _ _ (shedD 0) (partsD 1) [(1, 0)] 0 _ (hYa.up (hD40 _ (by simp))) (hTa.up RP.up (hD40 _ (by simp))) (hSl.up R2.up (hD40 _ (by simp)))) rfl ⟨_, rfl, rfl⟩ ?_
        refine L.nil ?_
        refine S.fin [(false,97)] rfl ?_
        refine L.pickF rfl rfl rfl rfl trivial ?_
        exact L.nil fun a w hh => (hh.cutK 5 rfl).ds (fun _ h => List.Mem.tail _ (List.Mem.tail _ (List.Mem.tail _ (h))))
      · refine L.buildSlice rfl Try.underlying30 Tf.s111 Tf.z111 rfl rfl rfl rfl (.cons rfl rfl .nil) rfl ⟨_, rfl, rfl⟩ (fun b904 D904 hD904 hA904 => ?_)
        have hSl : Sl D904 R2 2 _ [(1, 0)] := Froz.prs (l := [(1, 0)]) (n := 1) (Or.inr ⟨_, 1, rfl, by omega, hA904⟩) rfl (by omega)
        refine L.nil ?_
        refine L.planFin [(true,93)] rfl ?_
        refine L.call rfl rfl rfl (fun D39 hD39 => parts_ok 1 _) rfl ⟨_, rfl, rfl⟩ (fun v39 D39 hD39 hp39 => ?_)
        have hTa := hp39
        refine L.nil ?_
        refine S.fin [(false,96)] rfl ?_
        refine L.callV rfl rfl rfl (fun D40 hD40 => ProvePairs_ok _ _ _ (shedD 0) (partsD 1) [(1, 0)] 0 _ (hYa.up (hD40 _ (by simp))) (hTa.up RP.up (hD40 _ (by simp))) (hSl.up R2.up (hD40 _ (by simp)))) rfl ⟨_, rfl, rfl⟩ ?_
        refine L.nil ?_
        refine S.fin [(false,97)] rfl ?_
        refine L.pickF rfl rfl rfl rfl trivial ?_
        exact L.nil fun a w hh => (hh.cutK 5 rfl).ds (fun _ h => List.Mem.tail _ (List.Mem.tail _ (List.Mem.tail _ (h))))
    · refine L.buildSlice rfl Try.underlying30 Tf.s111 Tf.z111 rfl rfl rfl rfl (.cons rfl rfl .nil) rfl ⟨_, rfl, rfl⟩ (fun b904 D904 hD904 hA904 => ?_)
      have hSl : Sl D904 R2 2 _ [(1, 0)] := Froz.prs (l := [(1, 0)]) (n := 1) (Or.inr ⟨_, 1, rfl, by omega, hA904⟩) rfl (by omega)
      refine L.nil ?_
      refine L.planFin [(true,92),(true,93)] rfl ?_
      refine L.call rfl rfl rfl (fun D38 hD38 => shed_ok 0 (by omega) _) rfl ⟨_, rfl, rfl⟩ (fun v38 D38 hD38 hp38 => ?_)
      have hYa := hp38
      refine L.call rfl rfl rfl (fun D39 hD39 => parts_ok 1 _) rfl ⟨_, rfl, rfl⟩ (fun v39 D39 hD39 hp39 => ?_)
      have hTa := hp39
      refine L.nil ?_
      refine S.fin [(false,96)] rfl ?_
      refine L.callV rfl rfl rfl (fun D40 hD40 => ProvePairs_ok _ _ _ (shedD 0) (partsD 1) [(1, 0)] 0 _ (hYa.up (hD40 _ (by simp))) (hTa.up RP.up (hD40 _ (by simp))) (hSl.up R2.up (hD40 _ (by simp)))) rfl ⟨_, rfl, rfl⟩ ?_
      refine L.nil ?_
      refine S.fin [(false,97)] rfl ?_
      refine L.pickF rfl rfl rfl rfl trivial ?_
      exact L.nil fun a w hh => (hh.cutK 5 rfl).ds (fun _ h => List.Mem.tail _ (List.Mem.tail _ (List.Mem.tail _ (h))))
  · refine S.cons ?_
    refine L.planFork [(false,94)] rfl ?_
    refine L.pass rfl rfl rfl ⟨_, _, rfl, rfl, rfl⟩ ?_
    refine L.nil (L.forkP true true rfl rfl ?_ ?_)
    · refine L.pass rfl rfl rfl ⟨_, _, rfl, rfl, rfl⟩ ?_
      refine L.nil ?_
      refine L.planFork [] rfl ?_
      refine L.nil (L.forkP true true rfl rfl ?_ ?_)
      · refine L.pass rfl rfl rfl ⟨_, _, rfl, rfl, rfl⟩ ?_
        refine L.nil ?_
        refine L.planFin [(true,95)] rfl ?_
        refine L.pass rfl rfl rfl ⟨_, _, rfl, rfl, rfl⟩ ?_
        refine L.nil ?_
        refine S.fin [(false,96)] rfl ?_
        refine L.pass rfl rfl rfl ⟨_, _, rfl, rfl, rfl⟩ ?_
        refine L.nil ?_
        refine S.fin [(false,97)] rfl ?_
        refine L.pickT rfl rfl rfl rfl trivial ?_
        exact L.nil fun a w hh => hh.cutK 5 rfl
      · refine L.pass rfl rfl rfl ⟨_, _, rfl, rfl, rfl⟩ ?_
        refine L.nil ?_
        refine L.planFin [(true,93)] rfl ?_
        refine L.pass rfl rfl rfl ⟨_, _, rfl, rfl, rfl⟩ ?_
        refine L.nil ?_
        refine S.fin [(false,96)] rfl ?_
        refine L.pass rfl rfl rfl ⟨_, _, rfl, rfl, rfl⟩ ?_
        refine L.nil ?_
        refine S.fin [(false,97)] rfl ?_
        refine L.pickT rfl rfl rfl rfl trivial ?_
        exact L.nil fun a w hh => hh.cutK 5 rfl
    · refine L.pass rfl rfl rfl ⟨_, _, rfl, rfl, rfl⟩ ?_
      refine L.nil ?_
      refine L.planFin [(true,92),(true,93)] rfl ?_
      refine L.pass rfl rfl rfl ⟨_, _, rfl, rfl, rfl⟩ ?_
      refine L.pass rfl rfl rfl ⟨_, _, rfl, rfl, rfl⟩ ?_
      refine L.nil ?_
      refine S.fin [(false,96)] rfl ?_
      refine L.pass rfl rfl rfl ⟨_, _, rfl, rfl, rfl⟩ ?_
      refine L.nil ?_
      refine S.fin [(false,97)] rfl ?_
      refine L.pickT rfl rfl rfl rfl trivial ?_
      exact L.nil fun a w hh => hh.cutK 5 rfl
  refine S.fin [(false,98)] rfl ?_
  refine L.move rfl rfl rfl trivial ?_
  refine L.nil ?_
  refine' S.or [.fork [101,102] 99 (.fork [] 100 (.fin [103]) 103 (.fin [100])) 103 (.fin [99,100]), .fin [104], .fin [105]] [] (s := 150) (p := 157) rfl rfl (fun hg19 => ?_) (fun hg19 => ?_) ?_
  rotate_left
  · refine S.cons ?_
    refine L.planFork [(false,101),(false,102)] rfl ?_
    refine L.build (cs := [.int .i64 0, .int .i64 1]) rfl Tf.p111 Tf.z111 rfl rfl rfl ⟨_, rfl, rfl⟩ ?_
    refine L.build (cs := [.int .i64 1, .int .i64 4]) rfl Tf.p111 Tf.z111 rfl rfl rfl ⟨_, rfl, rfl⟩ ?_
    refine L.nil (L.forkP true true rfl rfl ?_ ?_)
    · refine L.call rfl rfl rfl (fun D41 hD41 => shed_ok 0 (by omega) _) rfl ⟨_, rfl, rfl⟩ (fun v41 D41 hD41 hp41 => ?_)
      have hYa := hp41
      refine L.nil ?_
      refine L.planFork [] rfl ?_
      refine L.nil (L.forkP true true rfl rfl ?_ ?_)
      · refine L.call rfl rfl rfl (fun D42 hD42 => parts_ok 1 _) rfl ⟨_, rfl, rfl⟩ (fun v42 D42 hD42 hp42 => ?_)
        have hTa := hp42
        refine L.nil ?_
        refine L.planFin [(true,103)] rfl ?_
        refine L.buildSlice rfl Try.underlying30 Tf.s111 Tf.z111 rfl rfl rfl rfl (.cons rfl rfl (.cons rfl rfl .nil)) rfl ⟨_, rfl, rfl⟩ (fun b905 D905 hD905 hA905 => ?_)
        have hSl : Sl D905 R2 2 _ [(0, 1), (1, 4)] := Froz.prs (l := [(0, 1), (1, 4)]) (n := 2) (Or.inr ⟨_, 2, rfl, by omega, hA905⟩) rfl (by omega)
        refine L.nil ?_
        refine S.fin [(false,104)] rfl ?_
        refine L.callV rfl rfl rfl (fun D43 hD43 => ProvePairs_ok _ _ _ (shedD 0) (partsD 1) [(0, 1), (1, 4)] 0 _ (hYa.up (hD43 _ (by simp))) (hTa.up RP.up (hD43 _ (by simp))) (hSl.up R2.up (hD43 _ (by simp)))) rfl ⟨_, rfl, rfl⟩ ?_
        refine L.nil ?_
        refine S.fin [(false,105)] rfl ?_
        refine L.pickF rfl rfl rfl rfl trivial ?_
        exact L.nil fun a w hh => (hh.cutK 6 rfl).ds (fun _ h => List.Mem.tail _ (List.Mem.tail _ (List.Mem.tail _ (h))))
      · refine L.buildSlice rfl Try.underlying30 Tf.s111 Tf.z111 rfl rfl rfl rfl (.cons rfl rfl (.cons rfl rfl .nil)) rfl ⟨_, rfl, rfl⟩ (fun b905 D905 hD905 hA905 => ?_)
        have hSl : Sl D905 R2 2 _ [(0, 1), (1, 4)] := Froz.prs (l := [(0, 1), (1, 4)]) (n := 2) (Or.inr ⟨_, 2, rfl, by omega, hA905⟩) rfl (by omega)
        refine L.nil ?_
        refine L.planFin [(true,100)] rfl ?_
        refine L.call rfl rfl rfl (fun D42 hD42 => parts_ok 1 _) rfl ⟨_, rfl, rfl⟩ (fun v42 D42 hD42 hp42 => ?_)
        have hTa := hp42
        refine L.nil ?_
        refine S.fin [(false,104)] rfl ?_
        refine L.callV rfl rfl rfl (fun D43 hD43 => ProvePairs_ok _ _ _ (shedD 0) (partsD 1) [(0, 1), (1, 4)] 0 _ (hYa.up (hD43 _ (by simp))) (hTa.up RP.up (hD43 _ (by simp))) (hSl.up R2.up (hD43 _ (by simp)))) rfl ⟨_, rfl, rfl⟩ ?_
        refine L.nil ?_
        refine S.fin [(false,105)] rfl ?_
        refine L.pickF rfl rfl rfl rfl trivial ?_
        exact L.nil fun a w hh => (hh.cutK 6 rfl).ds (fun _ h => List.Mem.tail _ (List.Mem.tail _ (List.Mem.tail _ (h))))
    · refine L.buildSlice rfl Try.underlying30 Tf.s111 Tf.z111 rfl rfl rfl rfl (.cons rfl rfl (.cons rfl rfl .nil)) rfl ⟨_, rfl, rfl⟩ (fun b905 D905 hD905 hA905 => ?_)
      have hSl : Sl D905 R2 2 _ [(0, 1), (1, 4)] := Froz.prs (l := [(0, 1), (1, 4)]) (n := 2) (Or.inr ⟨_, 2, rfl, by omega, hA905⟩) rfl (by omega)
      refine L.nil ?_
      refine L.planFin [(true,99),(true,100)] rfl ?_
      refine L.call rfl rfl rfl (fun D41 hD41 => shed_ok 0 (by omega) _) rfl ⟨_, rfl, rfl⟩ (fun v41 D41 hD41 hp41 => ?_)
      have hYa := hp41
      refine L.call rfl rfl rfl (fun D42 hD42 => parts_ok 1 _) rfl ⟨_, rfl, rfl⟩ (fun v42 D42 hD42 hp42 => ?_)
      have hTa := hp42
      refine L.nil ?_
      refine S.fin [(false,104)] rfl ?_
      refine L.callV rfl rfl rfl (fun D43 hD43 => ProvePairs_ok _ _ _ (shedD 0) (partsD 1) [(0, 1), (1, 4)] 0 _ (hYa.up (hD43 _ (by simp))) (hTa.up RP.up (hD43 _ (by simp))) (hSl.up R2.up (hD43 _ (by simp)))) rfl ⟨_, rfl, rfl⟩ ?_
      refine L.nil ?_
      refine S.fin [(false,105)] rfl ?_
      refine L.pickF rfl rfl rfl rfl trivial ?_
      exact L.nil fun a w hh => (hh.cutK 6 rfl).ds (fun _ h => List.Mem.tail _ (List.Mem.tail _ (List.Mem.tail _ (h))))
  · refine S.cons ?_
    refine L.planFork [(false,101),(false,102)] rfl ?_
    refine L.pass rfl rfl rfl ⟨_, _, rfl, rfl, rfl⟩ ?_
    refine L.pass rfl rfl rfl ⟨_, _, rfl, rfl, rfl⟩ ?_
    refine L.nil (L.forkP true true rfl rfl ?_ ?_)
    · refine L.pass rfl rfl rfl ⟨_, _, rfl, rfl, rfl⟩ ?_
      refine L.nil ?_
      refine L.planFork [] rfl ?_
      refine L.nil (L.forkP true true rfl rfl ?_ ?_)
      · refine L.pass rfl rfl rfl ⟨_, _, rfl, rfl, rfl⟩ ?_
        refine L.nil ?_
        refine L.planFin [(true,103)] rfl ?_
        refine L.pass rfl rfl rfl ⟨_, _, rfl, rfl, rfl⟩ ?_
        refine L.nil ?_
        refine S.fin [(false,104)] rfl ?_
        refine L.pass rfl rfl rfl ⟨_, _, rfl, rfl, rfl⟩ ?_
        refine L.nil ?_
        refine S.fin [(false,105)] rfl ?_
        refine L.pickT rfl rfl rfl rfl trivial ?_
        exact L.nil fun a w hh => hh.cutK 6 rfl
      · refine L.pass rfl rfl rfl ⟨_, _, rfl, rfl, rfl⟩ ?_
        refine L.nil ?_
        refine L.planFin [(true,100)] rfl ?_
        refine L.pass rfl rfl rfl ⟨_, _, rfl, rfl, rfl⟩ ?_
        refine L.nil ?_
        refine S.fin [(false,104)] rfl ?_
        refine L.pass rfl rfl rfl ⟨_, _, rfl, rfl, rfl⟩ ?_
        refine L.nil ?_
        refine S.fin [(false,105)] rfl ?_
        refine L.pickT rfl rfl rfl rfl trivial ?_
        exact L.nil fun a w hh => hh.cutK 6 rfl
    · refine L.pass rfl rfl rfl ⟨_, _, rfl, rfl, rfl⟩ ?_
      refine L.nil ?_
      refine L.planFin [(true,99),(true,100)] rfl ?_
      refine L.pass rfl rfl rfl ⟨_, _, rfl, rfl, rfl⟩ ?_
      refine L.pass rfl rfl rfl ⟨_, _, rfl, rfl, rfl⟩ ?_
      refine L.nil ?_
      refine S.fin [(false,104)] rfl ?_
      refine L.pass rfl rfl rfl ⟨_, _, rfl, rfl, rfl⟩ ?_
      refine L.nil ?_
      refine S.fin [(false,105)] rfl ?_
      refine L.pickT rfl rfl rfl rfl trivial ?_
      exact L.nil fun a w hh => hh.cutK 6 rfl
  refine S.nil ?_
  refine C.next ?_
  refine C.cond rfl (fun hc1 => ?_) (fun hc1 => ?_)
  · exact absurd hc1 (by decide +kernel)
  · refine C.skip ?_
    refine C.next ?_
    refine C.seq ?_
    refine C.region [(false,0),(false,1)] rfl ?_
    refine L.callO (μ := _) rfl rfl rfl (fun D44 hD44 => partsO_ok 1 _) rfl trivial (fun v44 D44x ν44 hD44x hp44 => ?_)
    obtain ⟨pb, rfl, rfl⟩ := hp44
    refine L.assign rfl rfl rfl trivial ?_
    refine L.nil ?_
    refine C.next ?_
    refine C.seq ?_
    refine C.region [(false,0),(false,1),(false,2),(false,3)] rfl ?_
    refine L.move rfl rfl rfl trivial ?_
    refine L.indexP rfl Try.underlying39 Tf.s113 rfl rfl (by omega) (by omega) rfl trivial ?_
    refine L.indexA rfl Try.underlying113 Tf.s3 rfl rfl (by decide) (by decide) rfl trivial ?_
    refine L.storeCell (k := 0) (A := ptC (partsD 1)) (A' := ptC (setT (partsD 1) 0 0 0)) rfl Tf.s3 rfl rfl rfl rfl (Has.head) rfl rfl (by decide) trivial ?_
    refine L.nil ?_
    refine C.next ?_
    refine C.seq ?_
    refine C.freezeBox (A := []) rfl (fun D70 hD70 hA70 => ?_)
    have hlate : Sl D70 RP 3 (.slice (some ⟨pb, 0, none⟩) 5 5) (setT (partsD 1) 0 0 0) := Froz.pts (n := 5) (Or.inr ⟨_, 5, rfl, by omega, hA70⟩) rfl (by omega)
    refine C.region [(false,0),(false,1),(false,2),(false,3),(false,4),(false,5),(false,6)] rfl ?_
    refine L.call rfl rfl rfl (fun D45 hD45 => shed_ok 0 (by omega) _) rfl trivial (fun v45 D45 hD45 hp45 => ?_)
    have hYb := hp45
    refine L.move rfl rfl rfl trivial ?_
    refine L.callV rfl rfl rfl (fun D46 hD46 => Play_ok _ _ (shedD 0) (setT (partsD 1) 0 0 0) _ (hYb.up (hD46 _ (by simp))) (hlate.up RP.up (hD46 _ (by simp)))) rfl trivial ?_
    refine L.move rfl rfl rfl trivial ?_
    refine L.extract rfl rfl rfl rfl trivial ?_
    refine L.extract rfl rfl rfl rfl trivial ?_
    refine L.assign rfl rfl rfl trivial ?_
    refine L.nil ?_
    refine C.next ?_
    refine C.seq ?_
    refine C.region [(false,0),(false,1),(false,2),(false,3),(false,4),(false,5),(false,6),(false,7)] rfl ?_
    refine L.call rfl rfl rfl (fun D47 hD47 => shed_ok 0 (by omega) _) rfl trivial (fun v47 D47 hD47 hp47 => ?_)
    have hYc := hp47
    refine L.call rfl rfl rfl (fun D48 hD48 => parts_ok 1 _) rfl trivial (fun v48 D48 hD48 hp48 => ?_)
    have hTc := hp48
    refine L.sliceTo (k := 4) rfl Try.underlying39 Tf.s113 rfl rfl hTc (by decide) rfl trivial (fun v9 hTd => ?_)
    refine L.callV rfl rfl rfl (fun D49 hD49 => Play_ok _ _ (shedD 0) ((partsD 1).take 4) _ (hYc.up (hD49 _ (by simp))) (hTd.up RP.up (hD49 _ (by simp)))) rfl trivial ?_
    refine L.move rfl rfl rfl trivial ?_
    refine L.extract rfl rfl rfl rfl trivial ?_
    refine L.extract rfl rfl rfl rfl trivial ?_
    refine L.assign rfl rfl rfl trivial ?_
    refine L.nil ?_
    refine C.next ?_
    refine C.seq ?_
    refine C.region [(false,0),(false,1),(false,2),(false,3),(false,4),(false,5),(false,6)] rfl ?_
    refine L.call rfl rfl rfl (fun D50 hD50 => shed_ok 0 (by omega) _) rfl trivial (fun v50 D50 hD50 hp50 => ?_)
    have hYe := hp50
    refine L.call rfl rfl rfl (fun D51 hD51 => parts_ok 2 _) rfl trivial (fun v51 D51 hD51 hp51 => ?_)
    have hTe := hp51
    refine L.call rfl rfl rfl (fun D52 hD52 => Pairs_ok _ _ (shedD 0) (partsD 2) _ (hYe.up (hD52 _ (by simp))) (hTe.up RP.up (hD52 _ (by simp)))) rfl trivial (fun v52 D52 hD52 hp52 => ?_)
    obtain ⟨lv12, rfl, hl12⟩ := hp52
    refine L.move rfl rfl rfl trivial ?_
    refine L.extract rfl rfl rfl rfl trivial ?_
    refine L.extract rfl rfl rfl rfl trivial ?_
    refine L.assign rfl rfl rfl trivial ?_
    refine L.nil ?_
    refine C.next ?_
    refine C.seq ?_
    refine C.region [(false,0),(false,1),(false,2),(false,3),(false,4),(false,5),(false,6),(false,7)] rfl ?_
    refine L.call rfl rfl rfl (fun D53 hD53 => shed_ok 2 (by omega) _) rfl trivial (fun v53 D53 hD53 hp53 => ?_)
    have hYf := hp53
    refine L.call rfl rfl rfl (fun D54 hD54 => parts_ok (-1) _) rfl trivial (fun v54 D54 hD54 hp54 => ?_)
    have hTf := hp54
    refine L.call rfl rfl rfl (fun D55 hD55 => Berge_ok _ _ (shedD 2) (partsD (-1)) _ (hYf.up (hD55 _ (by simp))) (hTf.up RP.up (hD55 _ (by simp)))) rfl trivial (fun v55 D55 hD55 hp55 => ?_)
    obtain ⟨lv13, rfl, hl13⟩ := hp55
    refine L.move rfl rfl rfl trivial ?_
    refine L.extract rfl rfl rfl rfl trivial ?_
    refine L.extract rfl rfl rfl rfl trivial ?_
    refine L.extract rfl rfl rfl rfl trivial ?_
    refine L.assign rfl rfl rfl trivial ?_
    refine L.nil ?_
    refine C.next ?_
    refine C.seq ?_
    refine C.region [(false,0),(false,1),(false,2),(false,3),(false,4),(false,5),(false,6),(false,7)] rfl ?_
    refine L.call rfl rfl rfl (fun D56 hD56 => shed_ok 2 (by omega) _) rfl trivial (fun v56 D56 hD56 hp56 => ?_)
    have hYg := hp56
    refine L.callV rfl rfl rfl (fun D57 hD57 => Bounds_ok _ (shedD 2) _ (hYg.up (hD57 _ (by simp)))) rfl trivial ?_
    refine L.move rfl rfl rfl trivial ?_
    refine L.extract rfl rfl rfl rfl trivial ?_
    refine L.extract rfl rfl rfl rfl trivial ?_
    refine L.alloc rfl Tf.z61 rfl rfl trivial (fun q2 => ?_)
    refine L.storeW rfl rfl rfl rfl Tf.s61 (by first | rfl | (simp only [ints_length, *]; done) | (simp only [ints_length, *]; rfl) | (simp only [ints_length, *]; omega)) (by first | rfl | (simp only [ints_length, *]; done) | (simp only [ints_length, *]; rfl) | (simp only [ints_length, *]; omega)) (Has.head) (by simp [cell1]) trivial ?_
    refine L.assign rfl rfl rfl trivial ?_
    refine L.nil ?_
    refine C.next ?_
    refine C.seq ?_
    refine C.region [(false,0),(false,1),(false,2),(false,3),(false,4),(false,5),(false,6),(false,7),(false,8)] rfl ?_
    refine L.call rfl rfl rfl (fun D58 hD58 => shed_ok 2 (by omega) _) rfl trivial (fun v58 D58 hD58 hp58 => ?_)
    have hYh := hp58
    refine L.call rfl rfl rfl (fun D59 hD59 => Sure_ok _ (shedD 2) _ (hYh.up (hD59 _ (by simp)))) rfl trivial (fun v59 D59 hD59 hp59 => ?_)
    obtain ⟨lv15, rfl, hl15⟩ := hp59
    refine L.move rfl rfl rfl trivial ?_
    refine L.extract rfl rfl rfl rfl trivial ?_
    refine L.extract rfl rfl rfl rfl trivial ?_
    refine L.extract rfl rfl rfl rfl trivial ?_
    refine L.assign rfl rfl rfl trivial ?_
    refine L.assign rfl rfl rfl trivial ?_
    refine L.assign rfl rfl rfl trivial ?_
    refine L.nil ?_
    refine C.next ?_
    refine C.seq ?_
    refine C.region [(false,0),(false,1),(false,2),(false,3),(false,4),(false,5),(false,6)] rfl ?_
    refine L.call rfl rfl rfl (fun D60 hD60 => shed_ok 1 (by omega) _) rfl trivial (fun v60 D60 hD60 hp60 => ?_)
    have hYi := hp60
    refine L.callV rfl rfl rfl (fun D61 hD61 => First_ok _ (shedD 1) _ (hYi.up (hD61 _ (by simp)))) rfl trivial ?_
    refine L.move rfl rfl rfl trivial ?_
    refine L.extract rfl rfl rfl rfl trivial ?_
    refine L.extract rfl rfl rfl rfl trivial ?_
    refine L.assign rfl rfl rfl trivial ?_
    refine L.assign rfl rfl rfl trivial ?_
    refine L.nil ?_
    refine C.next ?_
    refine C.seq ?_
    refine C.region [(false,0),(false,1),(false,2),(false,3),(false,4),(false,5),(false,6),(false,7),(false,8),(false,9),(false,10),(false,11),(false,12),(false,13),(false,14),(false,15),(false,16),(false,17),(false,18),(false,19),(false,20)] rfl ?_
    refine L.callO (μ := _) rfl rfl rfl (fun D62 hD62 => shedC_ok 0 (by omega) _) rfl trivial (fun v62 D62x ν62 hD62x hp62 => ?_)
    obtain ⟨cb1, qb62, ob62, qv1, rfl, hq1, rfl⟩ := hp62
    refine L.drop2 ?_
    refine L.callO (μ := _) rfl rfl rfl (fun D63 hD63 => shedC_ok 0 (by omega) _) rfl trivial (fun v63 D63x ν63 hD63x hp63 => ?_)
    obtain ⟨cb2, qb63, ob63, qv2, rfl, hq2, rfl⟩ := hp63
    refine L.drop2 ?_
    refine L.call rfl rfl rfl (fun D64 hD64 => shed_ok 0 (by omega) _) rfl trivial (fun v64 D64 hD64 hp64 => ?_)
    obtain ⟨cv3, qv3, rfl, hc3, hq3⟩ := hp64
    refine L.callO (μ := _) rfl rfl rfl (fun D65 hD65 => shedQ_ok _) rfl trivial (fun v65 D65x ν65 hD65x hp65 => ?_)
    obtain ⟨cv4, qb4, rb4, ob4, rfl, hc4, rfl⟩ := hp65
    refine L.drop2 ?_
    refine L.call rfl rfl rfl (fun D66 hD66 => shed_ok 0 (by omega) _) rfl trivial (fun v66 D66 hD66 hp66 => ?_)
    obtain ⟨cv5, qv5, rfl, hc5, hq5⟩ := hp66
    refine L.call rfl rfl rfl (fun D67 hD67 => shed_ok 0 (by omega) _) rfl trivial (fun v67 D67 hD67 hp67 => ?_)
    obtain ⟨cv6, qv6, rfl, hc6, hq6⟩ := hp67
    refine L.callO (μ := _) rfl rfl rfl (fun D68 hD68 => shedC_ok 0 (by omega) _) rfl trivial (fun v68 D68x ν68 hD68x hp68 => ?_)
    obtain ⟨cb7, qb68, ob68, qv7, rfl, hq7, rfl⟩ := hp68
    refine L.drop2 ?_
    refine L.alloc rfl Tf.z37 rfl rfl trivial (fun q3 => ?_)
    refine L.alloc rfl Tf.z37 rfl rfl trivial (fun q4 => ?_)
    refine L.alloc rfl Tf.z37 rfl rfl trivial (fun q5 => ?_)
    refine L.alloc rfl Tf.z37 rfl rfl trivial (fun q6 => ?_)
    refine L.alloc rfl Tf.z37 rfl rfl trivial (fun q7 => ?_)
    refine L.alloc rfl Tf.z37 rfl rfl trivial (fun q8 => ?_)
    refine L.alloc rfl Tf.z37 rfl rfl trivial (fun q9 => ?_)
    refine L.storeW rfl rfl rfl rfl Tf.s37 (by first | rfl | (simp only [ints_length, *]; done) | (simp only [ints_length, *]; rfl) | (simp only [ints_length, *]; omega)) (by first | rfl | (simp only [ints_length, *]; done) | (simp only [ints_length, *]; rfl) | (simp only [ints_length, *]; omega)) (.tail (.tail (.tail (.tail (.tail (.tail (Has.head))))))) (cell1_yard (by simp [cell1]) hq1.cell1) trivial ?_
    refine L.storeW rfl rfl rfl rfl Tf.s37 (by first | rfl | (simp only [ints_length, *]; done) | (simp only [ints_length, *]; rfl) | (simp only [ints_length, *]; omega)) (by first | rfl | (simp only [ints_length, *]; done) | (simp only [ints_length, *]; rfl) | (simp only [ints_length, *]; omega)) (.tail (.tail (.tail (.tail (.tail (Has.head)))))) (cell1_yard (by simp [cell1]) hq2.cell1) trivial ?_
    refine L.storeW rfl rfl rfl rfl Tf.s37 (by first | rfl | (simp only [ints_length, *]; done) | (simp only [ints_length, *]; rfl) | (simp only [ints_length, *]; omega)) (by first | rfl | (simp only [ints_length, *]; done) | (simp only [ints_length, *]; rfl) | (simp only [ints_length, *]; omega)) (.tail (.tail (.tail (.tail (Has.head))))) (cell1_yard hc3.cell1 hq3.cell1) trivial ?_
    refine L.storeW rfl rfl rfl rfl Tf.s37 (by first | rfl | (simp only [ints_length, *]; done) | (simp only [ints_length, *]; rfl) | (simp only [ints_length, *]; omega)) (by first | rfl | (simp only [ints_length, *]; done) | (simp only [ints_length, *]; rfl) | (simp only [ints_length, *]; omega)) (.tail (.tail (.tail (Has.head)))) (cell1_yard hc4.cell1 (by simp [cell1])) trivial ?_
    refine L.storeW rfl rfl rfl rfl Tf.s37 (by first | rfl | (simp only [ints_length, *]; done) | (simp only [ints_length, *]; rfl) | (simp only [ints_length, *]; omega)) (by first | rfl | (simp only [ints_length, *]; done) | (simp only [ints_length, *]; rfl) | (simp only [ints_length, *]; omega)) (.tail (.tail (Has.head))) (cell1_yard hc5.cell1 hq5.cell1) trivial ?_
    refine L.storeW rfl rfl rfl rfl Tf.s37 (by first | rfl | (simp only [ints_length, *]; done) | (simp only [ints_length, *]; rfl) | (simp only [ints_length, *]; omega)) (by first | rfl | (simp only [ints_length, *]; done) | (simp only [ints_length, *]; rfl) | (simp only [ints_length, *]; omega)) (.tail (Has.head)) (cell1_yard hc6.cell1 hq6.cell1) trivial ?_
    refine L.storeW rfl rfl rfl rfl Tf.s37 (by first | rfl | (simp only [ints_length, *]; done) | (simp only [ints_length, *]; rfl) | (simp only [ints_length, *]; omega)) (by first | rfl | (simp only [ints_length, *]; done) | (simp only [ints_length, *]; rfl) | (simp only [ints_length, *]; omega)) (Has.head) (cell1_yard (by simp [cell1]) hq7.cell1) trivial ?_
    refine L.nil ?_
    refine C.next ?_
    refine C.seq ?_
    refine C.region [(false,0),(false,1),(false,2),(false,3),(false,4)] rfl ?_
    refine L.fieldAddr rfl Tf.f37_0 rfl rfl trivial ?_
    refine L.loadB1 rfl Tf.a34 rfl (List.Mem.tail _ (List.Mem.tail _ (List.Mem.tail _ (List.Mem.tail _ (List.Mem.tail _ (List.Mem.tail _ (List.Mem.head _))))))) rfl List.not_mem_nil rfl trivial ?_
    refine L.indexP rfl Try.underlying34 Tf.s115 rfl rfl (by omega) (by omega) rfl trivial ?_
    refine L.fieldAddr rfl Tf.f115_0 rfl rfl trivial ?_
    refine L.storeCell (k := 0) (A := chC (shedD 0).chairs) (A' := chC ((shedD 0).chairs.set 0 ⟨10, ⟨1, 0, 0⟩⟩)) rfl Tf.s3 rfl rfl rfl rfl (.tail (.tail (.tail (.tail (.tail (.tail (.tail (.tail (.tail (.tail (Has.head))))))))))) rfl rfl (by decide) trivial ?_
    refine L.nil ?_
    refine C.next ?_
    refine C.seq ?_
    refine C.region [(false,0),(false,1),(false,2),(false,3),(false,4),(false,5)] rfl ?_
    refine L.fieldAddr rfl Tf.f37_0 rfl rfl trivial ?_
    refine L.loadB1 rfl Tf.a34 rfl (List.Mem.tail _ (List.Mem.tail _ (List.Mem.tail _ (List.Mem.tail _ (List.Mem.tail _ (List.Mem.head _)))))) rfl List.not_mem_nil rfl trivial ?_
    refine L.indexP rfl Try.underlying34 Tf.s115 rfl rfl (by omega) (by omega) rfl trivial ?_
    refine L.fieldAddr rfl Tf.f115_1 rfl rfl trivial ?_
    refine L.indexA rfl Try.underlying113 Tf.s3 rfl rfl (by decide) (by decide) rfl trivial ?_
    refine L.storeCell (k := 7) (A := chC (shedD 0).chairs) (A' := chC ((shedD 0).chairs.set 1 ⟨5, ⟨0, 1, 3⟩⟩)) rfl Tf.s3 rfl rfl rfl rfl (.tail (.tail (.tail (.tail (.tail (.tail (.tail (.tail (.tail (Has.head)))))))))) rfl rfl (by decide) trivial ?_
    refine L.nil ?_
    refine C.next ?_
    refine C.seq ?_
    refine C.region [(false,0),(false,1)] rfl ?_
    refine L.fieldAddr rfl Tf.f37_1 rfl rfl trivial ?_
    refine L.store rfl rfl rfl rfl Tf.s3 (.tail (.tail (.tail (.tail (Has.head))))) (by simp) rfl (by simp [cell1]) trivial ?_
    refine L.nil ?_
    refine C.next ?_
    refine C.seq ?_
    refine C.draw [] 1 [0,1,2,3,4] [false,false,true,false,false] [(false,0),(false,1),(true,2),(false,3),(false,4)] Tf.follows (fun _ _ _ h => np_body (P := Try.prog) (fn := Try.f18) _ _ _ h) (by kernel_rfl) rfl ?_
    refine L.fieldAddr rfl Tf.f37_2 rfl rfl trivial ?_
    refine L.loadB1 rfl Tf.a35 rfl (List.Mem.tail _ (List.Mem.tail _ (List.Mem.tail _ (List.Mem.head _)))) rfl List.not_mem_nil rfl trivial ?_
    refine L.callV rfl rfl rfl (fun D69 hD69 => between_ok _ _ _) rfl trivial ?_
    refine L.indexP rfl Try.underlying35 Tf.s61 rfl rfl (by omega) (by omega) rfl trivial ?_
    refine L.storeCells (k := 0) (A := prC [(3, 5), (0, 2)]) (A' := prC [(3, 8), (0, 2)]) (us := [.int .i64 3, .int .i64 8]) rfl Tf.s61 rfl rfl rfl (.tail (.tail (.tail (.tail (.tail (.tail (.tail (.tail (Has.head))))))))) rfl rfl (by decide) (by simp [cell1]) (by first | exact Or.inl rfl | exact Or.inr (by simp)) trivial ?_
    refine L.nil ?_
    refine C.next ?_
    refine C.seq ?_
    refine C.region [(false,0),(false,1),(false,2)] rfl ?_
    refine L.makeSliceD (n := 8) (cs := chC (List.replicate 8 ⟨0, ⟨0, 0, 0⟩⟩)) rfl Try.underlying34 Tf.s115 Tf.z115 rfl Tf.i115 rfl rfl rfl rfl (by kernel_rfl) rfl trivial (fun mb8 Dm8 hDm8 hAm8 => ?_)
    have hSm8 : Sl Dm8 RCh 4 (.slice (some ⟨mb8, 0, none⟩) 8 8) (List.replicate 8 ⟨0, ⟨0, 0, 0⟩⟩) := Froz.chs (n := 8) (Or.inr ⟨_, 8, rfl, by omega, hAm8⟩) rfl (by omega)
    refine L.fieldAddr rfl Tf.f37_0 rfl rfl trivial ?_
    refine L.store rfl rfl rfl rfl Tf.s34 (.tail (.tail (Has.head))) (by simp) rfl (by simp [cell1]) trivial ?_
    refine L.nil ?_
    refine C.next ?_
    refine C.seq ?_
    refine C.region [(false,0),(false,1),(false,2)] rfl ?_
    refine L.makeSliceD (n := 6) (cs := prC (List.replicate 6 (0, 0))) rfl Try.underlying35 Tf.s61 Tf.z61 rfl Tf.i61 rfl rfl rfl rfl (by kernel_rfl) rfl trivial (fun mb6 Dm6 hDm6 hAm6 => ?_)
    have hSm6 : Sl Dm6 R2 2 (.slice (some ⟨mb6, 0, none⟩) 6 6) (List.replicate 6 (0, 0)) := Froz.prs (n := 6) (Or.inr ⟨_, 6, rfl, by omega, hAm6⟩) rfl (by omega)
    refine L.fieldAddr rfl Tf.f37_2 rfl rfl trivial ?_
    refine L.store rfl rfl rfl rfl Tf.s35 (.tail (Has.head)) (by simp) rfl (by simp [cell1]) trivial ?_
    refine L.nil ?_
    refine C.next ?_
    refine C.seq ?_
    refine C.seq ?_
    refine C.freezeBox (A := [(_, _), (_, _), (_, _), (_, _), (_, _), (_, _), (_, _), (_, _), (_, _), (_, _), (_, _), (_, _)]) rfl (fun Dr3 hDr3 hAr3 => ?_)
    refine C.freezeBox (A := [(_, _), (_, _), (_, _), (_, _), (_, _), (_, _), (_, _), (_, _), (_, _), (_, _), (_, _)]) rfl (fun Dr12 hDr12 hAr12 => ?_)
    refine C.freezeBox (A := [(_, _), (_, _), (_, _), (_, _), (_, _), (_, _), (_, _), (_, _), (_, _), (_, _)]) rfl (fun Dc1 hDc1 hAc1 => ?_)
    have hk1 : Sl Dc1 RCh 4 (.slice (some ⟨cb1, 0, none⟩) 5 5) ((shedD 0).chairs.set 0 ⟨10, ⟨1, 0, 0⟩⟩) := Froz.chs (n := 5) (Or.inr ⟨_, 5, rfl, by omega, hAc1⟩) rfl (by omega)
    refine C.freezeBox (A := [(_, _), (_, _), (_, _), (_, _), (_, _), (_, _), (_, _), (_, _), (_, _)]) rfl (fun Dc2 hDc2 hAc2 => ?_)
    have hk2 : Sl Dc2 RCh 4 (.slice (some ⟨cb2, 0, none⟩) 5 5) ((shedD 0).chairs.set 1 ⟨5, ⟨0, 1, 3⟩⟩) := Froz.chs (n := 5) (Or.inr ⟨_, 5, rfl, by omega, hAc2⟩) rfl (by omega)
    refine C.freezeBox (A := [(_, _), (_, _), (_, _), (_, _), (_, _), (_, _), (_, _), (_, _)]) rfl (fun Dq4 hDq4 hAq4 => ?_)
    have hk4 : Sl Dq4 R2 2 (.slice (some ⟨qb4, 0, none⟩) 1 2) [(3, 8)] := sl_first hAq4
    refine C.freezeBox (A := [(_, _), (_, _), (_, _), (_, _), (_, _), (_, _)]) rfl (fun Dt19 hDt19 hAt19 => ?_)
    replace hAt19 : At Dt19 q3 0 [.slice (some ⟨cb1, 0, none⟩) 5 5, .int .i64 1, qv1] := hAt19
    refine C.freezeBox (A := [(_, _), (_, _), (_, _), (_, _), (_, _)]) rfl (fun Dt20 hDt20 hAt20 => ?_)
    replace hAt20 : At Dt20 q4 0 [.slice (some ⟨cb2, 0, none⟩) 5 5, .int .i64 1, qv2] := hAt20
    refine C.freezeBox (A := [(_, _), (_, _), (_, _), (_, _)]) rfl (fun Dt21 hDt21 hAt21 => ?_)
    replace hAt21 : At Dt21 q5 0 [cv3, .int .i64 (-1), qv3] := hAt21
    refine C.freezeBox (A := [(_, _), (_, _), (_, _)]) rfl (fun Dt22 hDt22 hAt22 => ?_)
    replace hAt22 : At Dt22 q6 0 [cv4, .int .i64 1, .slice (some ⟨qb4, 0, none⟩) 1 2] := hAt22
    refine C.freezeBox (A := [(_, _), (_, _)]) rfl (fun Dt23 hDt23 hAt23 => ?_)
    replace hAt23 : At Dt23 q7 0 [.slice (some ⟨mb8, 0, none⟩) 8 8, .int .i64 1, qv5] := hAt23
    refine C.freezeBox (A := [(_, _)]) rfl (fun Dt24 hDt24 hAt24 => ?_)
    replace hAt24 : At Dt24 q8 0 [cv6, .int .i64 1, .slice (some ⟨mb6, 0, none⟩) 6 6] := hAt24
    refine C.freezeBox (A := []) rfl (fun Dt25 hDt25 hAt25 => ?_)
    replace hAt25 : At Dt25 q9 0 [.slice (some ⟨cb7, 0, none⟩) 5 5, .int .i64 1, qv7] := hAt25
    refine C.region [(false,0)] rfl ?_
    refine L.assign rfl rfl rfl trivial ?_
    refine L.nil ?_
    refine C.next ?_
    refine C.block ?_
    refine C.loopR (γ := Nat) (fun n => 3 - n) (fun n => n ≤ 3) (fun n => [(26, .int .i64 (n : Int))]) [(25, _), (24, _), (23, _), (22, _), (21, _), (20, _), (19, _), (18, _), (16, _), (13, _), (9, _), (7, _), (4, _), (2, _), (0, _)] (fun n => [(cb7, .cells (chC (unkC n) ++ []).toArray 115 (0, 0))]) (fun n => [Dt25, Dt24, Dt23, Dt22, Dt21, Dt20, Dt19, Dq4, Dc2, Dc1, Dr12, Dr3, Dm6, Dm8, D68x, D67, D66, D65x, D64, D63x, D62x, D60, D59, D58, D56, D55, D54, D53, D52, D51, D50, D48, D47, D45, D70, D44x, D901, D9, D8, D7, D6, D4, D2, D1, D]) 0 (by omega) ⟨(by first | rfl | (show some (Value.int _ _) = some (Value.int _ _); congr 2; omega)), trivial⟩ ⟨rfl, rfl, rfl, rfl, rfl, rfl, rfl, rfl, rfl, rfl, rfl, rfl, rfl, rfl, rfl, trivial⟩ (List.Sublist.refl _) (ds_same) ?_
    rintro n h1
    refine C.seq ?_
    refine C.seq ?_
    refine C.region [(false,0),(false,1)] rfl ?_
    refine L.move rfl rfl rfl trivial ?_
    refine L.lss rfl rfl rfl rfl trivial ?_
    refine L.nil ?_
    refine C.next ?_
    refine C.condD rfl (fun hc2 => ?_) (fun hc2 => ?_)
    · refine C.skip ?_
      refine C.next ?_
      refine C.seq ?_
      refine C.block ?_
      refine C.region [(false,0),(false,1),(false,2),(false,3),(false,4),(false,5),(false,6)] rfl ?_
      refine L.fieldAddr rfl Tf.f37_0 rfl rfl trivial ?_
      refine L.loadD1 rfl (k := 0) Tf.a34 rfl hAt25 (by first | simp | assumption) rfl List.not_mem_nil rfl trivial ?_
      refine L.move rfl rfl rfl trivial ?_
      refine L.buildA (cs := [.int .i64 2, .int .i64 2, .int .i64 2]) rfl Try.underlying113 Tf.s3 Tf.z113 rfl rfl rfl trivial ?_
      refine L.indexP rfl Try.underlying34 Tf.s115 rfl rfl (by omega) (by omega) rfl trivial ?_
      refine L.fieldAddr rfl Tf.f115_1 rfl rfl trivial ?_
      refine L.storeCells (k := n * 4 + 1) (A' := chC (unkC (n + 1))) (us := [.int .i64 2, .int .i64 2, .int .i64 2]) rfl Tf.s113 rfl rfl rfl (Has.head) (unk_step n (by omega)) (by first | omega | (simp only [Int.toNat_natCast]; omega)) (by rw [chC_lenn _ 5 (unkC_len n)]; simp only [List.length_cons, List.length_nil]; omega) (by simp [cell1]) (Or.inl rfl) trivial ?_
      refine L.nil ?_
      refine C.blockEnd ?_
      refine C.next ?_
      refine C.region [(false,0),(false,1),(false,2)] rfl ?_
      refine L.move rfl rfl rfl trivial ?_
      refine L.add rfl rfl rfl (by simp only [inK]; omega) rfl trivial ?_
      refine L.assign rfl rfl rfl trivial ?_
      refine L.nil ?_
      exact C.againR 12 (n + 1) (by omega) (by omega) ⟨(by first | rfl | (show some (Value.int _ _) = some (Value.int _ _); congr 2; omega)), trivial⟩ rfl rfl (List.Sublist.refl _) (ds_same)
    · obtain rfl : n = 3 := by omega
      refine C.freezeBox (A := []) rfl (fun Dc7 hDc7 hAc7 => ?_)
      have hk7 : Sl Dc7 RCh 4 (.slice (some ⟨cb7, 0, none⟩) 5 5) (unkC 3) := Froz.chs (n := 5) (Or.inr ⟨_, 5, rfl, by omega, hAc7⟩) rfl (by omega)
      refine C.exit ?_
      refine C.thenExit ?_
      refine C.thenExit ?_
      refine C.blockExit ?_
      refine C.next ?_
      refine C.seq ?_
      refine C.region [(false,0),(false,1),(false,2),(false,3),(false,4),(false,5),(false,6),(false,7),(false,8),(false,9),(false,10),(false,11),(false,12),(false,13),(false,14),(false,15),(false,16),(false,17),(false,18),(false,19),(false,20),(false,21),(false,22),(false,23),(false,24),(false,25),(false,26),(false,27),(false,28),(false,29),(false,30),(false,31),(false,32),(false,33),(false,34),(false,35),(false,36),(false,37),(false,38),(false,39),(false,40),(false,41),(false,42),(false,43),(false,44),(false,45),(false,46),(false,47),(false,48),(false,49),(false,50),(false,51),(false,52),(false,53),(false,54),(false,55),(false,56),(false,57),(false,58),(false,59),(false,60),(false,61),(false,62),(false,63),(false,64),(false,65),(false,66),(false,67),(false,68),(false,69)] rfl ?_
      refine L.move rfl rfl rfl trivial ?_
      refine L.eql rfl rfl rfl rfl trivial ?_
      refine L.move rfl rfl rfl trivial ?_
      refine' L.and [(false,3),(false,4),(false,5)] [(false,6),(false,7),(false,8),(false,9),(false,10),(false,11),(false,12),(false,13),(false,14),(false,15),(false,16),(false,17),(false,18),(false,19),(false,20),(false,21),(false,22),(false,23),(false,24),(false,25),(false,26),(false,27),(false,28),(false,29),(false,30),(false,31),(false,32),(false,33),(false,34),(false,35),(false,36),(false,37),(false,38),(false,39),(false,40),(false,41),(false,42),(false,43),(false,44),(false,45),(false,46),(false,47),(false,48),(false,49),(false,50),(false,51),(false,52),(false,53),(false,54),(false,55),(false,56),(false,57),(false,58),(false,59),(false,60),(false,61),(false,62),(false,63),(false,64),(false,65),(false,66),(false,67),(false,68),(false,69)] (s := 241) (p := 244) rfl rfl (fun hg20 => ?_) (fun hg20 => ?_) ?_
      rotate_left
      · refine L.move rfl rfl rfl ⟨_, rfl, rfl⟩ ?_
        refine L.eql rfl rfl rfl rfl ⟨_, rfl, rfl⟩ ?_
        refine L.pickT rfl rfl rfl rfl trivial ?_
        exact L.nil fun a w hh => hh.cutK 2 rfl
      · refine L.pass rfl rfl rfl ⟨_, _, rfl, rfl, rfl⟩ ?_
        refine L.pass rfl rfl rfl ⟨_, _, rfl, rfl, rfl⟩ ?_
        refine L.pickF rfl rfl rfl rfl trivial ?_
        exact L.nil fun a w hh => hh.cutK 2 rfl
      refine L.move rfl rfl rfl trivial ?_
      refine' L.and [(false,7),(false,8),(false,9)] [(false,10),(false,11),(false,12),(false,13),(false,14),(false,15),(false,16),(false,17),(false,18),(false,19),(false,20),(false,21),(false,22),(false,23),(false,24),(false,25),(false,26),(false,27),(false,28),(false,29),(false,30),(false,31),(false,32),(false,33),(false,34),(false,35),(false,36),(false,37),(false,38),(false,39),(false,40),(false,41),(false,42),(false,43),(false,44),(false,45),(false,46),(false,47),(false,48),(false,49),(false,50),(false,51),(false,52),(false,53),(false,54),(false,55),(false,56),(false,57),(false,58),(false,59),(false,60),(false,61),(false,62),(false,63),(false,64),(false,65),(false,66),(false,67),(false,68),(false,69)] (s := 245) (p := 248) rfl rfl (fun hg21 => ?_) (fun hg21 => ?_) ?_
      rotate_left
      · refine L.move rfl rfl rfl ⟨_, rfl, rfl⟩ ?_
        refine L.eql rfl rfl rfl rfl ⟨_, rfl, rfl⟩ ?_
        refine L.pickT rfl rfl rfl rfl trivial ?_
        exact L.nil fun a w hh => hh.cutK 2 rfl
      · refine L.pass rfl rfl rfl ⟨_, _, rfl, rfl, rfl⟩ ?_
        refine L.pass rfl rfl rfl ⟨_, _, rfl, rfl, rfl⟩ ?_
        refine L.pickF rfl rfl rfl rfl trivial ?_
        exact L.nil fun a w hh => hh.cutK 2 rfl
      refine L.move rfl rfl rfl trivial ?_
      refine' L.and [(false,11),(false,12),(false,13)] [(false,14),(false,15),(false,16),(false,17),(false,18),(false,19),(false,20),(false,21),(false,22),(false,23),(false,24),(false,25),(false,26),(false,27),(false,28),(false,29),(false,30),(false,31),(false,32),(false,33),(false,34),(false,35),(false,36),(false,37),(false,38),(false,39),(false,40),(false,41),(false,42),(false,43),(false,44),(false,45),(false,46),(false,47),(false,48),(false,49),(false,50),(false,51),(false,52),(false,53),(false,54),(false,55),(false,56),(false,57),(false,58),(false,59),(false,60),(false,61),(false,62),(false,63),(false,64),(false,65),(false,66),(false,67),(false,68),(false,69)] (s := 249) (p := 252) rfl rfl (fun hg22 => ?_) (fun hg22 => ?_) ?_
      rotate_left
      · refine L.move rfl rfl rfl ⟨_, rfl, rfl⟩ ?_
        refine L.eql rfl rfl rfl rfl ⟨_, rfl, rfl⟩ ?_
        refine L.pickT rfl rfl rfl rfl trivial ?_
        exact L.nil fun a w hh => hh.cutK 2 rfl
      · refine L.pass rfl rfl rfl ⟨_, _, rfl, rfl, rfl⟩ ?_
        refine L.pass rfl rfl rfl ⟨_, _, rfl, rfl, rfl⟩ ?_
        refine L.pickF rfl rfl rfl rfl trivial ?_
        exact L.nil fun a w hh => hh.cutK 2 rfl
      refine L.move rfl rfl rfl trivial ?_
      refine' L.and [(false,15),(false,16),(false,17)] [(false,18),(false,19),(false,20),(false,21),(false,22),(false,23),(false,24),(false,25),(false,26),(false,27),(false,28),(false,29),(false,30),(false,31),(false,32),(false,33),(false,34),(false,35),(false,36),(false,37),(false,38),(false,39),(false,40),(false,41),(false,42),(false,43),(false,44),(false,45),(false,46),(false,47),(false,48),(false,49),(false,50),(false,51),(false,52),(false,53),(false,54),(false,55),(false,56),(false,57),(false,58),(false,59),(false,60),(false,61),(false,62),(false,63),(false,64),(false,65),(false,66),(false,67),(false,68),(false,69)] (s := 253) (p := 256) rfl rfl (fun hg23 => ?_) (fun hg23 => ?_) ?_
      rotate_left
      · refine L.move rfl rfl rfl ⟨_, rfl, rfl⟩ ?_
        refine L.eql rfl rfl rfl rfl ⟨_, rfl, rfl⟩ ?_
        refine L.pickT rfl rfl rfl rfl trivial ?_
        exact L.nil fun a w hh => hh.cutK 2 rfl
      · refine L.pass rfl rfl rfl ⟨_, _, rfl, rfl, rfl⟩ ?_
        refine L.pass rfl rfl rfl ⟨_, _, rfl, rfl, rfl⟩ ?_
        refine L.pickF rfl rfl rfl rfl trivial ?_
        exact L.nil fun a w hh => hh.cutK 2 rfl
      refine L.move rfl rfl rfl trivial ?_
      refine' L.and [(false,19),(false,20),(false,21)] [(false,22),(false,23),(false,24),(false,25),(false,26),(false,27),(false,28),(false,29),(false,30),(false,31),(false,32),(false,33),(false,34),(false,35),(false,36),(false,37),(false,38),(false,39),(false,40),(false,41),(false,42),(false,43),(false,44),(false,45),(false,46),(false,47),(false,48),(false,49),(false,50),(false,51),(false,52),(false,53),(false,54),(false,55),(false,56),(false,57),(false,58),(false,59),(false,60),(false,61),(false,62),(false,63),(false,64),(false,65),(false,66),(false,67),(false,68),(false,69)] (s := 257) (p := 260) rfl rfl (fun hg24 => ?_) (fun hg24 => ?_) ?_
      rotate_left
      · refine L.move rfl rfl rfl ⟨_, rfl, rfl⟩ ?_
        refine L.eql rfl rfl rfl rfl ⟨_, rfl, rfl⟩ ?_
        refine L.pickT rfl rfl rfl rfl trivial ?_
        exact L.nil fun a w hh => hh.cutK 2 rfl
      · refine L.pass rfl rfl rfl ⟨_, _, rfl, rfl, rfl⟩ ?_
        refine L.pass rfl rfl rfl ⟨_, _, rfl, rfl, rfl⟩ ?_
        refine L.pickF rfl rfl rfl rfl trivial ?_
        exact L.nil fun a w hh => hh.cutK 2 rfl
      refine L.move rfl rfl rfl trivial ?_
      refine' L.and [(false,23),(false,24),(false,25)] [(false,26),(false,27),(false,28),(false,29),(false,30),(false,31),(false,32),(false,33),(false,34),(false,35),(false,36),(false,37),(false,38),(false,39),(false,40),(false,41),(false,42),(false,43),(false,44),(false,45),(false,46),(false,47),(false,48),(false,49),(false,50),(false,51),(false,52),(false,53),(false,54),(false,55),(false,56),(false,57),(false,58),(false,59),(false,60),(false,61),(false,62),(false,63),(false,64),(false,65),(false,66),(false,67),(false,68),(false,69)] (s := 261) (p := 264) rfl rfl (fun hg25 => ?_) (fun hg25 => ?_) ?_
      rotate_left
      · refine L.move rfl rfl rfl ⟨_, rfl, rfl⟩ ?_
        refine L.eql rfl rfl rfl rfl ⟨_, rfl, rfl⟩ ?_
        refine L.pickT rfl rfl rfl rfl trivial ?_
        exact L.nil fun a w hh => hh.cutK 2 rfl
      · refine L.pass rfl rfl rfl ⟨_, _, rfl, rfl, rfl⟩ ?_
        refine L.pass rfl rfl rfl ⟨_, _, rfl, rfl, rfl⟩ ?_
        refine L.pickF rfl rfl rfl rfl trivial ?_
        exact L.nil fun a w hh => hh.cutK 2 rfl
      refine L.move rfl rfl rfl trivial ?_
      refine' L.and [(false,27),(false,28),(false,29),(false,30)] [(false,31),(false,32),(false,33),(false,34),(false,35),(false,36),(false,37),(false,38),(false,39),(false,40),(false,41),(false,42),(false,43),(false,44),(false,45),(false,46),(false,47),(false,48),(false,49),(false,50),(false,51),(false,52),(false,53),(false,54),(false,55),(false,56),(false,57),(false,58),(false,59),(false,60),(false,61),(false,62),(false,63),(false,64),(false,65),(false,66),(false,67),(false,68),(false,69)] (s := 265) (p := 269) rfl rfl (fun hg26 => ?_) (fun hg26 => ?_) ?_
      rotate_left
      · refine L.loadDW rfl Tf.a37 rfl hAt19 (by first | simp | assumption) Tf.s37 List.not_mem_nil rfl ⟨_, rfl, rfl⟩ ?_
        refine L.callV rfl rfl rfl (fun D70 hD70 => CheckYard_ok _ sizeD _ ⟨_, _, rfl, hk1.up RCh.up (hD70 _ (by simp)), hq1.up R2.up (hD70 _ (by simp))⟩) rfl ⟨_, rfl, rfl⟩ ?_
        refine L.eql rfl rfl rfl rfl ⟨_, rfl, rfl⟩ ?_
        refine L.pickT rfl rfl rfl rfl trivial ?_
        exact L.nil fun a w hh => hh.cutK 3 rfl
      · refine L.pass rfl rfl rfl ⟨_, _, rfl, rfl, rfl⟩ ?_
        refine L.pass rfl rfl rfl ⟨_, _, rfl, rfl, rfl⟩ ?_
        refine L.pass rfl rfl rfl ⟨_, _, rfl, rfl, rfl⟩ ?_
        refine L.pickF rfl rfl rfl rfl trivial ?_
        exact L.nil fun a w hh => hh.cutK 3 rfl
      refine L.move rfl rfl rfl trivial ?_
      refine' L.and [(false,32),(false,33),(false,34),(false,35)] [(false,36),(false,37),(false,38),(false,39),(false,40),(false,41),(false,42),(false,43),(false,44),(false,45),(false,46),(false,47),(false,48),(false,49),(false,50),(false,51),(false,52),(false,53),(false,54),(false,55),(false,56),(false,57),(false,58),(false,59),(false,60),(false,61),(false,62),(false,63),(false,64),(false,65),(false,66),(false,67),(false,68),(false,69)] (s := 270) (p := 274) rfl rfl (fun hg27 => ?_) (fun hg27 => ?_) ?_
      rotate_left
      · refine L.loadDW rfl Tf.a37 rfl hAt20 (by first | simp | assumption) Tf.s37 List.not_mem_nil rfl ⟨_, rfl, rfl⟩ ?_
        refine L.callV rfl rfl rfl (fun D71 hD71 => CheckYard_ok _ partD _ ⟨_, _, rfl, hk2.up RCh.up (hD71 _ (by simp)), hq2.up R2.up (hD71 _ (by simp))⟩) rfl ⟨_, rfl, rfl⟩ ?_
        refine L.eql rfl rfl rfl rfl ⟨_, rfl, rfl⟩ ?_
        refine L.pickT rfl rfl rfl rfl trivial ?_
        exact L.nil fun a w hh => hh.cutK 3 rfl
      · refine L.pass rfl rfl rfl ⟨_, _, rfl, rfl, rfl⟩ ?_
        refine L.pass rfl rfl rfl ⟨_, _, rfl, rfl, rfl⟩ ?_
        refine L.pass rfl rfl rfl ⟨_, _, rfl, rfl, rfl⟩ ?_
        refine L.pickF rfl rfl rfl rfl trivial ?_
        exact L.nil fun a w hh => hh.cutK 3 rfl
      refine L.move rfl rfl rfl trivial ?_
      refine' L.and [(false,37),(false,38),(false,39),(false,40)] [(false,41),(false,42),(false,43),(false,44),(false,45),(false,46),(false,47),(false,48),(false,49),(false,50),(false,51),(false,52),(false,53),(false,54),(false,55),(false,56),(false,57),(false,58),(false,59),(false,60),(false,61),(false,62),(false,63),(false,64),(false,65),(false,66),(false,67),(false,68),(false,69)] (s := 275) (p := 279) rfl rfl (fun hg28 => ?_) (fun hg28 => ?_) ?_
      rotate_left
      · refine L.loadDW rfl Tf.a37 rfl hAt21 (by first | simp | assumption) Tf.s37 List.not_mem_nil rfl ⟨_, rfl, rfl⟩ ?_
        refine L.callV rfl rfl rfl (fun D72 hD72 => CheckYard_ok _ fitD _ ⟨_, _, rfl, hc3.up RCh.up (hD72 _ (by simp)), hq3.up R2.up (hD72 _ (by simp))⟩) rfl ⟨_, rfl, rfl⟩ ?_
        refine L.eql rfl rfl rfl rfl ⟨_, rfl, rfl⟩ ?_
        refine L.pickT rfl rfl rfl rfl trivial ?_
        exact L.nil fun a w hh => hh.cutK 3 rfl
      · refine L.pass rfl rfl rfl ⟨_, _, rfl, rfl, rfl⟩ ?_
        refine L.pass rfl rfl rfl ⟨_, _, rfl, rfl, rfl⟩ ?_
        refine L.pass rfl rfl rfl ⟨_, _, rfl, rfl, rfl⟩ ?_
        refine L.pickF rfl rfl rfl rfl trivial ?_
        exact L.nil fun a w hh => hh.cutK 3 rfl
      refine L.move rfl rfl rfl trivial ?_
      refine' L.and [(false,42),(false,43),(false,44),(false,45)] [(false,46),(false,47),(false,48),(false,49),(false,50),(false,51),(false,52),(false,53),(false,54),(false,55),(false,56),(false,57),(false,58),(false,59),(false,60),(false,61),(false,62),(false,63),(false,64),(false,65),(false,66),(false,67),(false,68),(false,69)] (s := 280) (p := 284) rfl rfl (fun hg29 => ?_) (fun hg29 => ?_) ?_
      rotate_left
      · refine L.loadDW rfl Tf.a37 rfl hAt22 (by first | simp | assumption) Tf.s37 List.not_mem_nil rfl ⟨_, rfl, rfl⟩ ?_
        refine L.callV rfl rfl rfl (fun D73 hD73 => CheckYard_ok _ claimD _ ⟨_, _, rfl, hc4.up RCh.up (hD73 _ (by simp)), hk4.up R2.up (hD73 _ (by simp))⟩) rfl ⟨_, rfl, rfl⟩ ?_
        refine L.eql rfl rfl rfl rfl ⟨_, rfl, rfl⟩ ?_
        refine L.pickT rfl rfl rfl rfl trivial ?_
        exact L.nil fun a w hh => hh.cutK 3 rfl
      · refine L.pass rfl rfl rfl ⟨_, _, rfl, rfl, rfl⟩ ?_
        refine L.pass rfl rfl rfl ⟨_, _, rfl, rfl, rfl⟩ ?_
        refine L.pass rfl rfl rfl ⟨_, _, rfl, rfl, rfl⟩ ?_
        refine L.pickF rfl rfl rfl rfl trivial ?_
        exact L.nil fun a w hh => hh.cutK 3 rfl
      refine L.move rfl rfl rfl trivial ?_
      refine' L.and [(false,47),(false,48),(false,49),(false,50)] [(false,51),(false,52),(false,53),(false,54),(false,55),(false,56),(false,57),(false,58),(false,59),(false,60),(false,61),(false,62),(false,63),(false,64),(false,65),(false,66),(false,67),(false,68),(false,69)] (s := 285) (p := 289) rfl rfl (fun hg30 => ?_) (fun hg30 => ?_) ?_
      rotate_left
      · refine L.loadDW rfl Tf.a37 rfl hAt23 (by first | simp | assumption) Tf.s37 List.not_mem_nil rfl ⟨_, rfl, rfl⟩ ?_
        refine L.callV rfl rfl rfl (fun D74 hD74 => CheckYard_ok _ chairsD _ ⟨_, _, rfl, hSm8.up RCh.up (hD74 _ (by simp)), hq5.up R2.up (hD74 _ (by simp))⟩) rfl ⟨_, rfl, rfl⟩ ?_
        refine L.eql rfl rfl rfl rfl ⟨_, rfl, rfl⟩ ?_
        refine L.pickT rfl rfl rfl rfl trivial ?_
        exact L.nil fun a w hh => hh.cutK 3 rfl
      · refine L.pass rfl rfl rfl ⟨_, _, rfl, rfl, rfl⟩ ?_
        refine L.pass rfl rfl rfl ⟨_, _, rfl, rfl, rfl⟩ ?_
        refine L.pass rfl rfl rfl ⟨_, _, rfl, rfl, rfl⟩ ?_
        refine L.pickF rfl rfl rfl rfl trivial ?_
        exact L.nil fun a w hh => hh.cutK 3 rfl
      refine L.move rfl rfl rfl trivial ?_
      refine' L.and [(false,52),(false,53),(false,54),(false,55)] [(false,56),(false,57),(false,58),(false,59),(false,60),(false,61),(false,62),(false,63),(false,64),(false,65),(false,66),(false,67),(false,68),(false,69)] (s := 290) (p := 294) rfl rfl (fun hg31 => ?_) (fun hg31 => ?_) ?_
      rotate_left
      · refine L.loadDW rfl Tf.a37 rfl hAt24 (by first | simp | assumption) Tf.s37 List.not_mem_nil rfl ⟨_, rfl, rfl⟩ ?_
        refine L.callV rfl rfl rfl (fun D75 hD75 => CheckYard_ok _ claimsD _ ⟨_, _, rfl, hc6.up RCh.up (hD75 _ (by simp)), hSm6.up R2.up (hD75 _ (by simp))⟩) rfl ⟨_, rfl, rfl⟩ ?_
        refine L.eql rfl rfl rfl rfl ⟨_, rfl, rfl⟩ ?_
        refine L.pickT rfl rfl rfl rfl trivial ?_
        exact L.nil fun a w hh => hh.cutK 3 rfl
      · refine L.pass rfl rfl rfl ⟨_, _, rfl, rfl, rfl⟩ ?_
        refine L.pass rfl rfl rfl ⟨_, _, rfl, rfl, rfl⟩ ?_
        refine L.pass rfl rfl rfl ⟨_, _, rfl, rfl, rfl⟩ ?_
        refine L.pickF rfl rfl rfl rfl trivial ?_
        exact L.nil fun a w hh => hh.cutK 3 rfl
      refine L.move rfl rfl rfl trivial ?_
      refine' L.and [(false,57),(false,58),(false,59),(false,60)] [(false,61),(false,62),(false,63),(false,64),(false,65),(false,66),(false,67),(false,68),(false,69)] (s := 295) (p := 299) rfl rfl (fun hg32 => ?_) (fun hg32 => ?_) ?_
      rotate_left
      · refine L.loadDW rfl Tf.a37 rfl hAt25 (by first | simp | assumption) Tf.s37 List.not_mem_nil rfl ⟨_, rfl, rfl⟩ ?_
        refine L.callV rfl rfl rfl (fun D76 hD76 => CheckYard_ok _ unkD _ ⟨_, _, rfl, hk7.up RCh.up (hD76 _ (by simp)), hq7.up R2.up (hD76 _ (by simp))⟩) rfl ⟨_, rfl, rfl⟩ ?_
        refine L.eql rfl rfl rfl rfl ⟨_, rfl, rfl⟩ ?_
        refine L.pickT rfl rfl rfl rfl trivial ?_
        exact L.nil fun a w hh => hh.cutK 3 rfl
      · refine L.pass rfl rfl rfl ⟨_, _, rfl, rfl, rfl⟩ ?_
        refine L.pass rfl rfl rfl ⟨_, _, rfl, rfl, rfl⟩ ?_
        refine L.pass rfl rfl rfl ⟨_, _, rfl, rfl, rfl⟩ ?_
        refine L.pickF rfl rfl rfl rfl trivial ?_
        exact L.nil fun a w hh => hh.cutK 3 rfl
      refine L.move rfl rfl rfl trivial ?_
      refine' L.and [(false,62),(false,63),(false,64),(false,65)] [(false,66),(false,67),(false,68),(false,69)] (s := 300) (p := 304) rfl rfl (fun hg33 => ?_) (fun hg33 => ?_) ?_
      rotate_left
      · refine L.build (cs := [.slice none 0 0, .int .i64 0, .slice none 0 0]) rfl Tf.p37 Tf.z37 rfl rfl rfl ⟨_, rfl, rfl⟩ ?_
        refine L.callV rfl rfl rfl (fun D77 hD77 => CheckYard_ok _ ⟨[], 0, []⟩ _ ⟨_, _, rfl, Sl.nil, Sl.nil⟩) rfl ⟨_, rfl, rfl⟩ ?_
        refine L.eql rfl rfl rfl rfl ⟨_, rfl, rfl⟩ ?_
        refine L.pickT rfl rfl rfl rfl trivial ?_
        exact L.nil fun a w hh => hh.cutK 3 rfl
      · refine L.pass rfl rfl rfl ⟨_, _, rfl, rfl, rfl⟩ ?_
        refine L.pass rfl rfl rfl ⟨_, _, rfl, rfl, rfl⟩ ?_
        refine L.pass rfl rfl rfl ⟨_, _, rfl, rfl, rfl⟩ ?_
        refine L.pickF rfl rfl rfl rfl trivial ?_
        exact L.nil fun a w hh => hh.cutK 3 rfl
      refine L.move rfl rfl rfl trivial ?_
      refine' L.and [(false,67),(false,68)] [(false,69)] (s := 305) (p := 307) rfl rfl (fun hg34 => ?_) (fun hg34 => ?_) ?_
      rotate_left
      · refine L.callV rfl rfl rfl (fun D78 hD78 => awake_ok _) rfl ⟨_, rfl, rfl⟩ ?_
        refine L.pickT rfl rfl rfl rfl trivial ?_
        exact L.nil fun a w hh => hh.cutK 1 rfl
      · refine L.pass rfl rfl rfl ⟨_, _, rfl, rfl, rfl⟩ ?_
        refine L.pickF rfl rfl rfl rfl trivial ?_
        exact L.nil fun a w hh => hh.cutK 1 rfl
      refine L.assign rfl rfl rfl trivial ?_
      refine L.nil ?_
      refine C.next ?_
      refine C.ret ?_
      exact leave (vs := [_]) rfl rfl rfl ⟨rfl, trivial⟩ (fun D hD => congrArg Value.bool (by decide +kernel))
end Go.Fs
